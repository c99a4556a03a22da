/-
  Trimmed for this seat: CfgSame.
-/
import Derived.Test.YtbfpljnfalopdaaCfgRefCheck
set_option linter.unusedVariables false
set_option linter.unusedSimpArgs false
namespace Go.Proofs.Ytbfpljnfalopdaa.CfgW
open Go.RowKit Go.Proofs.Ytbfpljnfalopdaa.L

def sameNs : List Cfg.Node → List Cfg.Node → Bool
  | [], [] => true
  | x :: xs, y :: ys => Cfg.sameN x y && sameNs xs ys
  | _, _ => false
theorem sameNs_iff : ∀ xs ys, sameNs xs ys = true ↔ xs = ys
  | [], [] => by simp [sameNs]
  | [], y :: ys => by simp [sameNs]
  | x :: xs, [] => by simp [sameNs]
  | x :: xs, y :: ys => by simp [sameNs, Cfg.sameN_iff, sameNs_iff xs ys]
def sameHs : List Cfg.Host → List Cfg.Host → Bool
  | [], [] => true
  | x :: xs, y :: ys => Cfg.sameH x y && sameHs xs ys
  | _, _ => false
theorem sameHs_iff : ∀ xs ys, sameHs xs ys = true ↔ xs = ys
  | [], [] => by simp [sameHs]
  | [], y :: ys => by simp [sameHs]
  | x :: xs, [] => by simp [sameHs]
  | x :: xs, y :: ys => by simp [sameHs, Cfg.sameH_iff, sameHs_iff xs ys]
theorem sameNs_no {xs ys : List Cfg.Node} (h : xs ≠ ys) : sameNs xs ys = false := by rw [Bool.eq_false_iff]; exact fun e => h ((sameNs_iff xs ys).1 e)
theorem sameHs_no {xs ys : List Cfg.Host} (h : xs ≠ ys) : sameHs xs ys = false := by rw [Bool.eq_false_iff]; exact fun e => h ((sameHs_iff xs ys).1 e)
theorem sameNs_self (xs : List Cfg.Node) : sameNs xs xs = true := (sameNs_iff xs xs).2 rfl
theorem sameHs_self (xs : List Cfg.Host) : sameHs xs xs = true := (sameHs_iff xs xs).2 rfl
theorem ne_at {α : Type} {xs ys : List α} {k : Nat} (h1 : k < xs.length) (h2 : k < ys.length) (h : xs[k] ≠ ys[k]) : xs ≠ ys := fun e => h (by subst e; rfl)
theorem take_eq {α : Type} {xs ys : List α} {k : Nat} (h : xs.take k = ys.take k) (h1 : xs.length ≤ k) (h2 : ys.length ≤ k) : xs = ys := by rwa [List.take_of_length_le h1, List.take_of_length_le h2] at h
theorem take_next {α : Type} {xs ys : List α} {k : Nat} (h1 : k < xs.length) (h2 : k < ys.length) (h : xs.take k = ys.take k) (e : xs[k] = ys[k]) : xs.take (k + 1) = ys.take (k + 1) := by
  rw [List.take_add_one, List.take_add_one, h, List.getElem?_eq_getElem h1, List.getElem?_eq_getElem h2, e]

def sameC (a b : Cfg.C) : Bool := sameNs a.nodes b.nodes && (sameHs a.hosts b.hosts && (a.half == b.half && a.age == b.age))
theorem sameC_self (a : Cfg.C) : sameC a a = true := by unfold sameC; simp [sameNs_self, sameHs_self]

end Go.Proofs.Ytbfpljnfalopdaa.CfgW
