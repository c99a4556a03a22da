/-
  append of one row's elements behind another's. Over any program.
-/
import Derived.Test.YtbfpljnfalopdaaRowV
set_option linter.unusedVariables false
set_option linter.unusedSimpArgs false
namespace Go.Proofs.Ytbfpljnfalopdaa.L
open Go Go.RowKit
section
variable {P : Program}
theorem append_none {w : World} {B : Nat} {v : Value} {xs : List Value} (t ty E : TypeId) (i : TypeInfo) (ht : P.underlying t = some (.slice E)) (hi : P.info? E = some i) (hsz : i.size = 1) (h : RowV w B E v xs) (c : Nat) :
    (Builtin.append_ #[t, t] ty #[v, .slice none 0 c]).run P w = .ok v w := by
  rcases h.2 with ⟨rfl, hx⟩ | ⟨g, cap, cur, rfl, _, _, hnc, _⟩
  · simp [Builtin.append_, run_underlying ht, sizeOf, typeInfo, hi, Builtin.lenOf, Builtin.firstCells, hx]
  · simp [Builtin.append_, run_underlying ht, sizeOf, typeInfo, hi, Builtin.lenOf, Builtin.firstCells, hnc, storeCells]
/-- All elements of one row behind those of another. -/
theorem append_all {w : World} {B C : Nat} {v u : Value} {xs ys : List Value} (t ty E : TypeId) (i : TypeInfo) (z : Value) (bytes : Nat) (ht : P.underlying t = some (.slice E)) (hi : P.info? E = some i) (hz : i.zero = some z) (hsz : i.size = 1) (hby : i.bytes = bytes) (hzs : z.cells.size = 1)
    (h : RowV w B E v xs) (k : RowV w C E u ys) (hB : B ≤ w.heap.size) (h1 : ∀ x ∈ ys, x.oneCell' = true) (hlen : (xs.length + ys.length) * bytes ≤ 140737488355328) (hlen2 : xs.length + ys.length ≤ 140737488355328) :
    ∃ v' w', (Builtin.append_ #[t, t] ty #[v, u]).run P w = .ok v' w' ∧ RowV w' B E v' (xs ++ ys) ∧ w.grownBy w' v.ownBlock ∧ (∀ k, v'.ownBlock = some k → v.ownBlock = some k ∨ w.heap.size ≤ k) := by
  obtain ⟨a, c, rfl, hc⟩ := k.form
  cases a with
  | none =>
    have hn : ys = [] := by
      rcases ys with _ | ⟨y, ys⟩
      · rfl
      · obtain ⟨g, e, _⟩ := hc (by simp); cases e
    subst hn
    exact ⟨v, w, append_none t ty E i ht hi hsz h c, by simpa using h, World.grownBy.refl w _, fun k hk => .inl hk⟩
  | some ad =>
    obtain ⟨v', w', hr, ho, hg, _, hat⟩ := run_append_own_at (P := P) w B t ty E i z 1 bytes ht hi hz hsz hby hzs (by omega) v xs.length xs h ad ys.length c ys (by simp)
      (fun j u hu => by
        obtain ⟨g, e, _, hcell⟩ := hc (by intro e; subst e; simp at hu)
        injection e with e
        subst e
        rw [addr_add]
        exact hcell j u hu) h1 (by unfold maxLen; omega) hlen hB
    refine ⟨v', w', hr, ?_, hg, fun k hk => ?_⟩
    · unfold RowV; rw [List.length_append]; exact ho
    · rcases hat with e | e
      · exact .inl (e ▸ hk)
      · rw [e] at hk
        right
        have : w.heap.size = k := by injection hk
        omega
end
end Go.Proofs.Ytbfpljnfalopdaa.L
