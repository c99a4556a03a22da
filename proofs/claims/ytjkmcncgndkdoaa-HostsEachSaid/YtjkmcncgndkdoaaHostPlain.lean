/-
  Free hosts, as plain functions: chapter 16. No program in sight.
-/
import Derived.Test.YtjkmcncgndkdoaaCfgPlain
set_option linter.unusedVariables false
set_option linter.unusedSimpArgs false
namespace Go.Proofs.Ytjkmcncgndkdoaa.Hst
open Go.Proofs.Ytjkmcncgndkdoaa

/-- One pod's host, if it is one: something is done at it. -/
def one (f : Vec.V → Vec.V → Vec.V) (need : Vec.V) (out : List Vec.V) (h : Int) : List Vec.V := if 0 ≤ h ∧ h < (out.length : Int) then out.set h.toNat (f (out.getD h.toNat Vec.zero) need) else out
def gang (f : Vec.V → Vec.V → Vec.V) (need : Vec.V) (l : List Int) (out : List Vec.V) : List Vec.V := l.foldl (one f need) out
def caps (hs : List Cfg.Host) : List Vec.V := hs.map (·.cap)
def free (hs : List Cfg.Host) (rs : List (Vec.V × List Int)) : List Vec.V := rs.foldl (fun o r => gang Vec.sub r.1 r.2 o) (caps hs)
/-- All are hosts. -/
def all (n : Nat) (l : List Int) : Bool := l.all fun h => decide (0 ≤ h) && decide (h < (n : Int))

theorem one_length (f : Vec.V → Vec.V → Vec.V) (need : Vec.V) (out : List Vec.V) (h : Int) : (one f need out h).length = out.length := by
  unfold one; split <;> simp
theorem gang_length (f : Vec.V → Vec.V → Vec.V) (need : Vec.V) : ∀ (l : List Int) (out : List Vec.V), (gang f need l out).length = out.length
  | [], out => rfl
  | h :: l, out => by
    show (gang f need l (one f need out h)).length = _
    rw [gang_length f need l, one_length]
theorem gang_succ (f : Vec.V → Vec.V → Vec.V) (need : Vec.V) (l : List Int) (out : List Vec.V) (k : Nat) (h : k < l.length) : gang f need (l.take (k + 1)) out = one f need (gang f need (l.take k) out) l[k] := by
  unfold gang
  rw [List.take_add_one, List.getElem?_eq_getElem h, List.foldl_append]
  rfl
def freeTo (hs : List Cfg.Host) (rs : List (Vec.V × List Int)) (k : Nat) : List Vec.V := free hs (rs.take k)
theorem freeTo_succ (hs : List Cfg.Host) (rs : List (Vec.V × List Int)) (k : Nat) (h : k < rs.length) : freeTo hs rs (k + 1) = gang Vec.sub rs[k].1 rs[k].2 (freeTo hs rs k) := by
  unfold freeTo free
  rw [List.take_add_one, List.getElem?_eq_getElem h, List.foldl_append]
  rfl
theorem free_length (hs : List Cfg.Host) : ∀ (rs : List (Vec.V × List Int)), (free hs rs).length = hs.length := by
  intro rs
  have key : ∀ (rs : List (Vec.V × List Int)) (o : List Vec.V), (rs.foldl (fun o r => gang Vec.sub r.1 r.2 o) o).length = o.length := by
    intro rs
    induction rs with
    | nil => intro o; rfl
    | cons r rs ih => intro o; rw [List.foldl_cons, ih, gang_length]
  rw [free, key]; simp [caps]
theorem freeTo_length (hs : List Cfg.Host) (rs : List (Vec.V × List Int)) (k : Nat) : (freeTo hs rs k).length = hs.length := free_length hs _
theorem freeTo_zero (hs : List Cfg.Host) (rs : List (Vec.V × List Int)) : freeTo hs rs 0 = caps hs := rfl
theorem freeTo_all (hs : List Cfg.Host) (rs : List (Vec.V × List Int)) (k : Nat) (h : rs.length ≤ k) : freeTo hs rs k = free hs rs := by unfold freeTo; rw [List.take_of_length_le h]

/-- The first k hosts' own, and nothing yet of the others. -/
def capTo (hs : List Cfg.Host) (k : Nat) : List Vec.V := (caps hs).take k ++ List.replicate (hs.length - k) Vec.zero
theorem capTo_zero (hs : List Cfg.Host) : capTo hs 0 = List.replicate hs.length Vec.zero := by simp [capTo]
theorem capTo_all (hs : List Cfg.Host) (k : Nat) (h : hs.length ≤ k) : capTo hs k = caps hs := by
  unfold capTo
  rw [List.take_of_length_le (by simpa [caps] using h), show hs.length - k = 0 by omega]
  simp
theorem capTo_length (hs : List Cfg.Host) (k : Nat) (h : k ≤ hs.length) : (capTo hs k).length = hs.length := by simp [capTo, caps]; omega
theorem capTo_succ (hs : List Cfg.Host) (k : Nat) (h : k < hs.length) : (capTo hs k).set k hs[k].cap = capTo hs (k + 1) := by
  unfold capTo
  have hl : (List.take k (caps hs)).length = k := by simp [caps]; omega
  rw [List.set_append_right _ _ (by omega), hl, Nat.sub_self, show hs.length - k = (hs.length - (k + 1)) + 1 by omega, List.replicate_succ, List.set_cons_zero, List.take_add_one]
  have : (caps hs)[k]? = some hs[k].cap := by simp [caps, List.getElem?_eq_getElem h]
  rw [this, List.append_assoc]
  rfl
theorem all_no {n : Nat} {l : List Int} {k : Nat} (h : k < l.length) (hn : ¬ (0 ≤ l[k] ∧ l[k] < (n : Int))) : all n l = false := by
  unfold all
  rw [List.all_eq_false]
  refine ⟨l[k], List.getElem_mem h, ?_⟩
  simp only [Bool.and_eq_true, decide_eq_true_eq]
  exact hn
theorem all_succ {n : Nat} {l : List Int} {k : Nat} (h : k < l.length) (ha : all n (l.take k) = true) (hn : 0 ≤ l[k] ∧ l[k] < (n : Int)) : all n (l.take (k + 1)) = true := by
  unfold all at *
  rw [List.take_add_one, List.getElem?_eq_getElem h, List.all_append, ha]
  simp [hn.1, hn.2]
/-- Is nothing overdrawn at any of them? -/
def fine (o : List Vec.V) (l : List Int) : Bool := l.all fun h => Vec.fits Vec.zero (o.getD h.toNat Vec.zero)
def may (free : List Vec.V) (l : List Int) (need : Vec.V) : Bool := Vec.valid need && all free.length l
theorem fine_no {o : List Vec.V} {l : List Int} {k : Nat} (h : k < l.length) (hn : Vec.fits Vec.zero (o.getD l[k].toNat Vec.zero) = false) : fine o l = false := by
  unfold fine
  rw [List.all_eq_false]
  exact ⟨l[k], List.getElem_mem h, by rw [hn]; decide⟩
theorem fine_succ {o : List Vec.V} {l : List Int} {k : Nat} (h : k < l.length) (ha : fine o (l.take k) = true) (hn : Vec.fits Vec.zero (o.getD l[k].toNat Vec.zero) = true) : fine o (l.take (k + 1)) = true := by
  unfold fine at *
  rw [List.take_add_one, List.getElem?_eq_getElem h, List.all_append, ha]
  simpa using hn
theorem all_at {n : Nat} {l : List Int} (ha : all n l = true) {k : Nat} (h : k < l.length) : 0 ≤ l[k] ∧ l[k] < (n : Int) := by
  unfold all at ha
  rw [List.all_eq_true] at ha
  simpa using ha _ (List.getElem_mem h)
end Go.Proofs.Ytjkmcncgndkdoaa.Hst
