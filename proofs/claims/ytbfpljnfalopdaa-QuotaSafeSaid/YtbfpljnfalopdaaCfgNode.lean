/-
  Trimmed for this seat: CfgNode.
-/
import Derived.Test.YtbfpljnfalopdaaCfgEq
set_option linter.unusedVariables false
set_option linter.unusedSimpArgs false
namespace Go.Proofs.Ytbfpljnfalopdaa.CfgW
open Go.RowKit Go.Proofs.Ytbfpljnfalopdaa.L

theorem nbox_on {w w' : World} {b : Nat} {x : Cfg.Node} (h : NodeAt w b 0 x) (hb : Below w.heap.size w w') (hlt : b < w.heap.size) :
    w'.cell? ⟨b, 0, none⟩ = some (.int .i64 x.parent) ∧ w'.cell? ⟨b, 1, none⟩ = some (.int .i64 x.weight) ∧
    w'.cell? ⟨b, 2, none⟩ = some (.int .i64 x.nominal.x) ∧ w'.cell? ⟨b, 3, none⟩ = some (.int .i64 x.nominal.y) ∧ w'.cell? ⟨b, 4, none⟩ = some (.int .i64 x.nominal.z) ∧
    w'.cell? ⟨b, 5, none⟩ = some (.int .i64 x.borrow.x) ∧ w'.cell? ⟨b, 6, none⟩ = some (.int .i64 x.borrow.y) ∧ w'.cell? ⟨b, 7, none⟩ = some (.int .i64 x.borrow.z) ∧
    w'.cell? ⟨b, 8, none⟩ = some (.int .i64 x.lend.x) ∧ w'.cell? ⟨b, 9, none⟩ = some (.int .i64 x.lend.y) ∧ w'.cell? ⟨b, 10, none⟩ = some (.int .i64 x.lend.z) := by
  obtain ⟨h0, h1, h2, h3, h4, h5, h6, h7, h8, h9, h10⟩ := h
  simp only [Nat.zero_add] at *
  have k : ∀ o v, w.cell? ⟨b, o, none⟩ = some v → w'.cell? ⟨b, o, none⟩ = some v := fun o v hv => (hb.cell (p := ⟨b, o, none⟩) hlt).trans hv
  exact ⟨k _ _ h0, k _ _ h1, k _ _ h2, k _ _ h3, k _ _ h4, k _ _ h5, k _ _ h6, k _ _ h7, k _ _ h8, k _ _ h9, k _ _ h10⟩

/-- What a node's test is made of. -/
theorem nodeOk_parts (c : Cfg.C) (k : Nat) (x : Cfg.Node) : Cfg.nodeOk c k x =
    (!((decide (k = 0) && (x.parent != -1)) || ((decide (0 < k) && !Cfg.between x.parent 0 ((k : Int) - 1)) || !Cfg.between x.weight 1 1000)) &&
      (if Cfg.leaf c (k : Int) then Vec.valid x.nominal && (Vec.valid x.borrow && (Vec.valid x.lend && Vec.fits x.lend x.nominal)) else Cfg.isZero x.nominal && (Cfg.isZero x.borrow && Cfg.isZero x.lend))) := by
  unfold Cfg.nodeOk Cfg.parentOk
  congr 1
  by_cases h : k = 0
  · subst h
    simp
    cases h : (x.parent == -1) <;> cases Cfg.between x.weight 1 1000 <;> simp_all
  · have h0 : 0 < k := by omega
    simp [h, h0]

theorem sameN_zero (x : Cfg.Node) : Cfg.sameN x ⟨x.parent, x.weight, ⟨0, 0, 0⟩, ⟨0, 0, 0⟩, ⟨0, 0, 0⟩⟩ = (Cfg.isZero x.nominal && (Cfg.isZero x.borrow && Cfg.isZero x.lend)) := by
  unfold Cfg.sameN Cfg.sameV Cfg.isZero
  simp

end Go.Proofs.Ytbfpljnfalopdaa.CfgW
