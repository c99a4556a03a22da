/-
  Rows of whole numbers that the program owns and stores into.
-/
import Derived.Test.YtjkmcncgndkdoaaGRow
import Derived.Laws.OwnMore
set_option linter.unusedVariables false
set_option linter.unusedSimpArgs false
namespace Go.Proofs.Ytjkmcncgndkdoaa.CfgW
open Go.RowKit Go.Proofs.Ytjkmcncgndkdoaa.L

def pval (l : List Int) : List Value := l.map fun n => Value.int .i64 n
def PRow (w : World) (B : Nat) (v : Value) (l : List Int) : Prop := RowV w B 3 v (pval l)
theorem pval_length (l : List Int) : (pval l).length = l.length := by simp [pval]
theorem PRow.kept {w w' : World} {B : Nat} {v : Value} {l : List Int} (h : PRow w B v l) (hk : ∀ k, v.ownBlock = some k → w'.heap[k]? = w.heap[k]?) : PRow w' B v l := RowV.kept h hk
theorem PRow.below {w w' : World} {B : Nat} {v : Value} {l : List Int} (h : PRow w B v l) (hb : Below w.heap.size w w') : PRow w' B v l := RowV.below h hb
theorem PRow.len {w : World} {B g n c : Nat} {l : List Int} (h : PRow w B (.slice (some ⟨g, 0, none⟩) n c) l) : n = l.length := by
  rcases h.2 with ⟨e, hx⟩ | ⟨g', cap, cur, e, _⟩
  · cases e
  · cases e; simp [pval]
theorem PRow.at_ {w : World} {B g n c : Nat} {l : List Int} (h : PRow w B (.slice (some ⟨g, 0, none⟩) n c) l) {i : Nat} (hi : i < l.length) : n = l.length ∧ B ≤ g ∧ g < w.heap.size ∧ w.frozen? ⟨g, i, none⟩ = false ∧ w.cell? ⟨g, i, none⟩ = some (.int .i64 (l.getD i 0)) := by
  have hlt := RowV.lt h g rfl
  have hn := h.len
  have hx : (pval l)[i]? = some (.int .i64 (l.getD i 0)) := by
    simp [pval, List.getD_eq_getElem?_getD, List.getElem?_eq_getElem hi]
  have hc := World.ownsRow.cells h (g := g) rfl i _ hx
  rw [addr_add] at hc
  have hf : w.frozen? ⟨g, i, none⟩ = false := by
    have h' := h
    unfold PRow RowV at h'
    have e : n = (pval l).length := by rw [pval_length]; exact hn
    subst e
    exact World.ownsRow.frozenAt h' i
  exact ⟨hn, hlt.1, hlt.2, hf, hc⟩
theorem PRow.set {w : World} {B g n c : Nat} {l : List Int} (h : PRow w B (.slice (some ⟨g, 0, none⟩) n c) l) (i : Nat) (x : Int) : PRow (w.setCell ⟨g, i, none⟩ (.int .i64 x)) B (.slice (some ⟨g, 0, none⟩) n c) (l.set i x) := by
  have hn := h.len
  have e : n = (pval l).length := by rw [pval_length]; exact hn
  subst e
  have := (World.ownsRow.stored h i (.int .i64 x)).1
  unfold PRow RowV
  have e2 : pval (l.set i x) = (pval l).set i (.int .i64 x) := by simp [pval, List.map_set]
  rw [e2, List.length_set]
  exact this
theorem make_ints (w : World) (n : Nat) (hn : n ≤ 1048576) : ∃ w', (Instr.makeSlice 37 (.int .i64 (n : Int)) (.int .i64 (n : Int))).run Try.prog w = .ok (.slice (some ⟨w.heap.size, 0, none⟩) n n) w' ∧
    PRow w' w.heap.size (.slice (some ⟨w.heap.size, 0, none⟩) n n) (List.replicate n 0) ∧ Below w.heap.size w w' ∧ w.heap.size < w'.heap.size := by
  obtain ⟨i0, hi, hz0, hz1, hz2⟩ := info_parts intinfo
  obtain ⟨w', hr, ho, hg⟩ := run_makeSlice_full (P := Try.prog) w w.heap.size 37 3 i0 _ 1 Try.underlying37 hi hz0 hz1 .i64 .i64 n (by omega) (by rw [hz2]; omega) (by unfold maxLen; omega) (Nat.le_refl _)
  have hV : PRow w' w.heap.size (.slice (some ⟨w.heap.size, 0, none⟩) n n) (List.replicate n 0) := by
    unfold PRow RowV
    rw [pval_length, List.length_replicate]
    have e : pval (List.replicate n 0) = (madeCells #[Value.int .i64 0] (n * 1)).toList := by
      apply List.ext_getElem?
      intro j
      by_cases hj : j < n
      · simp [pval, madeCells, hj, Nat.mod_one]
      · simp [pval, madeCells, hj]
    rw [e]
    exact ho
  exact ⟨w', hr, hV, (Kept.of_grown (F := fun _ => False) hg (fun i e => by cases e)).below (Nat.le_refl _) (fun i h => h.elim), (RowV.lt hV _ rfl).2⟩
end Go.Proofs.Ytjkmcncgndkdoaa.CfgW
