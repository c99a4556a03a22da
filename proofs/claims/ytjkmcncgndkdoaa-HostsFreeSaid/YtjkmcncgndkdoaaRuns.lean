/-
  Gangs that run, as they lie in memory; rows of whole numbers that are read.
-/
import Derived.Test.YtjkmcncgndkdoaaVList
set_option linter.unusedVariables false
set_option linter.unusedSimpArgs false
namespace Go.Proofs.Ytjkmcncgndkdoaa.CfgW
open Go.RowKit Go.Proofs.Ytjkmcncgndkdoaa.L

def idec (n : Int) : List Value := [.int .i64 n]
/-- A slice of whole numbers that is read. -/
def ISl (w : World) (v : Value) (l : List Int) : Prop := ∃ A cap, v = .slice A l.length cap ∧ RowOf w A 1 idec l ∧ l.length ≤ maxLen
theorem ISl.below {w w' : World} {v : Value} {l : List Int} (h : ISl w v l) (hb : Below w.heap.size w w') : ISl w' v l := by
  obtain ⟨A, cap, e, hr, hl⟩ := h
  exact ⟨A, cap, e, hr.below hb, hl⟩
theorem row_int {w : World} {A : Option Addr} {xs : List Int} (h : RowOf w A 1 idec xs) {k : Nat} (hk : k < xs.length) : ∃ b o, A = some ⟨b, o, none⟩ ∧ b < w.heap.size ∧ ∀ w', Below w.heap.size w w' → w'.cell? ⟨b, o + k, none⟩ = some (.int .i64 xs[k]) := by
  obtain ⟨b, o, rfl, hlt, hc⟩ := h (by intro e; subst e; simp at hk)
  have hx := List.getElem?_eq_getElem hk
  refine ⟨b, o, rfl, hlt, fun w' hb => ?_⟩
  have := hc k xs[k] hx 0 (.int .i64 xs[k]) rfl
  rw [Nat.add_zero, Nat.mul_one] at this
  exact (hb.cell (p := ⟨b, o + k, none⟩) hlt).trans this

/-- A gang that runs, and the value of its slice of hosts. -/
structure Run where
  id : Int
  tenant : Int
  pods : Int
  need : Vec.V
  run : Int
  level : Int
  prefer : Int
  seq : Int
  at_ : Int
  start : Int
  flavor : Int
  hosts : List Int
  hv : Value
def rdec (x : Run) : List Value := [.int .i64 x.id, .int .i64 x.tenant, .int .i64 x.pods, .int .i64 x.need.x, .int .i64 x.need.y, .int .i64 x.need.z, .int .i64 x.run, .int .i64 x.level, .int .i64 x.prefer, .int .i64 x.seq, .int .i64 x.at_, .int .i64 x.start, .int .i64 x.flavor, x.hv]
/-- A slice of gangs that run. -/
def Runs (w : World) (v : Value) (rs : List Run) : Prop := ∃ A cap, v = .slice A rs.length cap ∧ RowOf w A 14 rdec rs ∧ rs.length ≤ maxLen ∧ ∀ r ∈ rs, ISl w r.hv r.hosts
theorem Runs.below {w w' : World} {v : Value} {rs : List Run} (h : Runs w v rs) (hb : Below w.heap.size w w') : Runs w' v rs := by
  obtain ⟨A, cap, e, hr, hl, hi⟩ := h
  exact ⟨A, cap, e, hr.below hb, hl, fun r hm => (hi r hm).below hb⟩
def RunAt (w : World) (b o : Nat) (x : Run) : Prop :=
  w.cell? ⟨b, o, none⟩ = some (.int .i64 x.id) ∧ w.cell? ⟨b, o + 1, none⟩ = some (.int .i64 x.tenant) ∧ w.cell? ⟨b, o + 2, none⟩ = some (.int .i64 x.pods) ∧
  w.cell? ⟨b, o + 3, none⟩ = some (.int .i64 x.need.x) ∧ w.cell? ⟨b, o + 4, none⟩ = some (.int .i64 x.need.y) ∧ w.cell? ⟨b, o + 5, none⟩ = some (.int .i64 x.need.z) ∧
  w.cell? ⟨b, o + 6, none⟩ = some (.int .i64 x.run) ∧ w.cell? ⟨b, o + 7, none⟩ = some (.int .i64 x.level) ∧ w.cell? ⟨b, o + 8, none⟩ = some (.int .i64 x.prefer) ∧
  w.cell? ⟨b, o + 9, none⟩ = some (.int .i64 x.seq) ∧ w.cell? ⟨b, o + 10, none⟩ = some (.int .i64 x.at_) ∧ w.cell? ⟨b, o + 11, none⟩ = some (.int .i64 x.start) ∧
  w.cell? ⟨b, o + 12, none⟩ = some (.int .i64 x.flavor) ∧ w.cell? ⟨b, o + 13, none⟩ = some x.hv
theorem row_run {w : World} {A : Option Addr} {xs : List Run} (h : RowOf w A 14 rdec xs) {k : Nat} (hk : k < xs.length) : ∃ b o, A = some ⟨b, o, none⟩ ∧ b < w.heap.size ∧ ∀ w', Below w.heap.size w w' → RunAt w' b (o + k * 14) xs[k] := by
  obtain ⟨b, o, rfl, hlt, hc⟩ := h (by intro e; subst e; simp at hk)
  have hx := List.getElem?_eq_getElem hk
  refine ⟨b, o, rfl, hlt, fun w' hb => ?_⟩
  have key : ∀ j v, (rdec xs[k])[j]? = some v → w'.cell? ⟨b, o + k * 14 + j, none⟩ = some v := fun j v hv => (hb.cell (p := ⟨b, o + k * 14 + j, none⟩) hlt).trans (hc k xs[k] hx j v hv)
  exact ⟨key 0 _ rfl, key 1 _ rfl, key 2 _ rfl, key 3 _ rfl, key 4 _ rfl, key 5 _ rfl, key 6 _ rfl, key 7 _ rfl, key 8 _ rfl, key 9 _ rfl, key 10 _ rfl, key 11 _ rfl, key 12 _ rfl, key 13 _ rfl⟩
/-- What is asked of the hosts. -/
def asks (rs : List Run) : List (Vec.V × List Int) := rs.map fun r => (r.need, r.hosts)
theorem asks_length (rs : List Run) : (asks rs).length = rs.length := by simp [asks]
theorem asks_at {rs : List Run} {k : Nat} (h : k < rs.length) : ∃ g, (asks rs)[k]'g = (rs[k].need, rs[k].hosts) := ⟨by rw [asks_length]; exact h, by simp [asks]⟩
end Go.Proofs.Ytjkmcncgndkdoaa.CfgW
