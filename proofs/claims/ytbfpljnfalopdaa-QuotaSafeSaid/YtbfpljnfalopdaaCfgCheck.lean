/-
  Trimmed for this seat: CfgCheck.
-/
import Derived.Test.YtbfpljnfalopdaaCfgRefNode
import Derived.Outline
set_option linter.unusedVariables false
set_option linter.unusedSimpArgs false
namespace Go.Proofs.Ytbfpljnfalopdaa.CfgW
open Go.RowKit Go.Proofs.Ytbfpljnfalopdaa.L

theorem row_host {w : World} {A : Option Addr} {xs : List Cfg.Host} (h : RowOf w A 6 hdec xs) {k : Nat} (hk : k < xs.length) : ∃ b o, A = some ⟨b, o, none⟩ ∧ b < w.heap.size ∧ ∀ w', Below w.heap.size w w' →
    (w'.cell? ⟨b, o + k * 6, none⟩ = some (.int .i64 xs[k].flavor) ∧ w'.cell? ⟨b, o + k * 6 + 1, none⟩ = some (.int .i64 xs[k].block) ∧ w'.cell? ⟨b, o + k * 6 + 2, none⟩ = some (.int .i64 xs[k].rack) ∧
      w'.cell? ⟨b, o + k * 6 + 3, none⟩ = some (.int .i64 xs[k].cap.x) ∧ w'.cell? ⟨b, o + k * 6 + 4, none⟩ = some (.int .i64 xs[k].cap.y) ∧ w'.cell? ⟨b, o + k * 6 + 5, none⟩ = some (.int .i64 xs[k].cap.z)) := by
  obtain ⟨b, o, rfl, hlt, hc⟩ := h (by intro e; subst e; simp at hk)
  have hx := List.getElem?_eq_getElem hk
  refine ⟨b, o, rfl, hlt, fun w' hb => ?_⟩
  have key : ∀ j v, (hdec xs[k])[j]? = some v → w'.cell? ⟨b, o + k * 6 + j, none⟩ = some v := fun j v hv => (hb.cell (p := ⟨b, o + k * 6 + j, none⟩) hlt).trans (hc k xs[k] hx j v hv)
  exact ⟨key 0 _ rfl, key 1 _ rfl, key 2 _ rfl, key 3 _ rfl, key 4 _ rfl, key 5 _ rfl⟩

/-- The configuration in a box of its own. -/
def CBox (w : World) (b : Nat) (v1 v2 : Value) (h a : Int) : Prop := b < w.heap.size ∧ w.cell? ⟨b, 0, none⟩ = some v1 ∧ w.cell? ⟨b, 1, none⟩ = some v2 ∧ w.cell? ⟨b, 2, none⟩ = some (.int .i64 h) ∧ w.cell? ⟨b, 3, none⟩ = some (.int .i64 a)
theorem CBox.on {w w' : World} {b : Nat} {v1 v2 : Value} {h a : Int} (x : CBox w b v1 v2 h a) (hb : Below w.heap.size w w') : CBox w' b v1 v2 h a :=
  ⟨Nat.lt_of_lt_of_le x.1 hb.size, (hb.cell (p := ⟨b, 0, none⟩) x.1).trans x.2.1, (hb.cell (p := ⟨b, 1, none⟩) x.1).trans x.2.2.1, (hb.cell (p := ⟨b, 2, none⟩) x.1).trans x.2.2.2.1, (hb.cell (p := ⟨b, 3, none⟩) x.1).trans x.2.2.2.2⟩
theorem CBox.new (w : World) (v1 v2 : Value) (h a : Int) : CBox (w.alloc (.cells #[v1, v2, .int .i64 h, .int .i64 a] 25)) w.heap.size v1 v2 h a := ⟨by simp, by simp [go_sem], by simp [go_sem], by simp [go_sem], by simp [go_sem]⟩

theorem nodes_false {c : Cfg.C} {k : Nat} (hk : k ≤ c.nodes.length) (h : Cfg.nodesOk c k = false) : Cfg.nodesOk c c.nodes.length = false := by
  rw [Bool.eq_false_iff] at h ⊢
  exact fun e => h (Cfg.nodesOk_le e hk)
theorem hostsOk_le {c : Cfg.C} {n k : Nat} (h : Cfg.hostsOk c n = true) (hk : k ≤ n) : Cfg.hostsOk c k = true := by
  unfold Cfg.hostsOk at *
  rw [List.all_eq_true] at *
  intro i hi
  exact h i (by simp at hi ⊢; omega)
theorem hosts_false {c : Cfg.C} {k : Nat} (hk : k ≤ c.hosts.length) (h : Cfg.hostsOk c k = false) : Cfg.hostsOk c c.hosts.length = false := by
  rw [Bool.eq_false_iff] at h ⊢
  exact fun e => h (hostsOk_le e hk)
theorem check_of (c : Cfg.C) (S n h : Bool) (h1 : Cfg.sizesOk c = S) (h2 : Cfg.nodesOk c c.nodes.length = n) (h3 : Cfg.hostsOk c c.hosts.length = h) : Cfg.check c = if S && (n && h) then 0 else 2 := by
  unfold Cfg.check Cfg.ok
  rw [h1, h2, h3]

end Go.Proofs.Ytbfpljnfalopdaa.CfgW
