/-
  One node's usage noted: the contract of the ledger's put; qtree.Up's contract.
-/
import Derived.Test.YtjkmcncgndkdoaaLedMem
set_option linter.unusedVariables false
set_option linter.unusedSimpArgs false
namespace Go.Proofs.Ytjkmcncgndkdoaa.CfgW
open Go Go.RowKit Go.Proofs.Ytjkmcncgndkdoaa.L

def PutEnd (g mb : Nat) (v1 v2 : Value) (half age : Int) (c : Cfg.C) (u' : Led.U) (w : World) (e : Ending) (w' : World) : Prop := e = .returned (.tuple #[]) ∧ LedAt w' g mb v1 v2 half age c u' ∧ Kept (fun k => k = mb) w w'

set_option maxRecDepth 100000 in
set_option maxHeartbeats 4000000 in
theorem put_any {w : World} {g mb : Nat} {v1 v2 : Value} {half age : Int} {c : Cfg.C} {u : Led.U} (h : LedAt w g mb v1 v2 half age c u) (x : Nat) (hx : x < c.nodes.length) (v : Vec.V) :
    Calls Try.prog 76 #[.pointer (some ⟨g, 0, none⟩), .int .i64 (x : Int), v.val] w fun e w' => PutEnd g mb v1 v2 half age c (upd u x v) w e w' := by
  have hbw : Below w.heap.size w (w.alloc (.cells #[.int .i64 v.x, .int .i64 v.y, .int .i64 v.z] 33)) := (Below.refl _ _).alloc (Nat.le_refl _) _
  have h2 := h.on hbw
  have hx3 : VBox3 (w.alloc (.cells #[.int .i64 v.x, .int .i64 v.y, .int .i64 v.z] 33)) w.heap.size 0 v := by refine ⟨by simp, ?_, ?_, ?_⟩ <;> simp [go_sem]
  obtain ⟨x0, x1, x2⟩ := v
  simp only at hbw h2 hx3
  show Calls Try.prog 76 #[.pointer (some ⟨g, 0, none⟩), .int .i64 (x : Int), .agg #[.int .i64 x0, .int .i64 x1, .int .i64 x2]] w _
  go_enter Try.func76, Try.ntmps76
  generalize hwq : w.alloc (.cells #[.int .i64 x0, .int .i64 x1, .int .i64 x2] 33) = wq at *
  have H2 := Lib.hid h2
  have H3 := Lib.hid hx3
  have Hb := Lib.hid hbw
  obtain ⟨hg, b0, b1, b2, b3⟩ := h2.box
  have hp := h2.ptr
  obtain ⟨hc0, c0, c1, c2⟩ := hx3
  simp only at c0 c1 c2
  clear h h2 hbw b0 b1 b2 b3
  by_cases hz : Cfg.sameV ⟨x0, x1, x2⟩ ⟨0, 0, 0⟩ = true
  · have hzz : (⟨x0, x1, x2⟩ : Vec.V) = Vec.zero := by
      simp [Cfg.sameV] at hz
      exact Vec.V.ext' (by simp [Vec.zero]; omega) (by simp [Vec.zero]; omega) (by simp [Vec.zero]; omega)
    obtain ⟨L, hL, hu⟩ := H2.out.map
    obtain ⟨w', hr, hM, hk⟩ := hL.cut ikey (t := 80) (et := 33) Try.underlying80 (x : Int)
    have hT := Lib.hid (H2.out.turn (u' := upd u x ⟨x0, x1, x2⟩) hk hM (fun n => by
      obtain ⟨_, _, _, _, ho⟩ := hL
      rw [valOf_cut _ _ _ ho, at_upd c u x _ hx]
      by_cases e : n = (x : Int)
      · rw [if_pos e, if_pos e, hzz]; rfl
      · rw [if_neg e, if_neg e]; exact hu n))
    have hK := Lib.hid ((Kept.of_below (F := fun k => k = mb) Hb.out).trans hk)
    have hr1 := hr 0 3
    clear hr hM hk hL hu hzz
    go_wp2_with fail
    refine bodyPost_ret (results_none rfl _ _ _) rfl ?_
    exact ⟨rfl, hT.out, hK.out⟩
  · have hzf : Cfg.sameV ⟨x0, x1, x2⟩ ⟨0, 0, 0⟩ = false := by simpa using hz
    have P0 := fun W (k : Onward wq W) => k.cell hg hp
    have P1 := fun W (k : Onward wq W) => k.cell hc0 c0
    have P2 := fun W (k : Onward wq W) => k.cell hc0 c1
    have P3 := fun W (k : Onward wq W) => k.cell hc0 c2
    clear hz
    go_wp2_with fail
    clear hp c0 c1 c2 hwq
    refine region_keep_tail 6 (by kernel_rfl) (by kernel_rfl) ?_
    simp only [List.take_succ_cons, List.take_zero, List.drop_succ_cons, List.drop_zero]
    repeat (apply Go.Proofs.Ytjkmcncgndkdoaa.L.wpKeep_yes; (focus rfl); (focus (intro W hW; go_simp; first | done | exact ⟨rfl, hW⟩ | rfl)); (focus (go_simp; first | done | rfl)))
    refine wpKeep_nil ?_
    intro W hW
    clear P0 P1 P2 P3
    have h2 := H2.out.on hW
    obtain ⟨L, hL, hu⟩ := h2.map
    obtain ⟨w', hr, hM, hk⟩ := hL.put ikey (t := 80) (et := 33) Try.underlying80 (x : Int) (.agg #[.int .i64 x0, .int .i64 x1, .int .i64 x2])
    have hT := Lib.hid (h2.turn (u' := upd u x ⟨x0, x1, x2⟩) hk hM (fun n => by
      rw [valOf_put, at_upd c u x _ hx]
      by_cases e : n = (x : Int)
      · rw [if_pos e, if_pos e]; rfl
      · rw [if_neg e, if_neg e]; exact hu n))
    have hK := Lib.hid ((Kept.of_below (F := fun k => k = mb) (keeps_trans Hb.out hW)).trans hk)
    clear hL hu hM hk h2 hW
    go_wp2_with fail
    go_end0
    exact ⟨rfl, hT.out, hK.out⟩
theorem up_any (v1 v2 : Value) (half age t : Int) (w : World) : Calls Try.prog 75 #[.agg #[v1, v2, .int .i64 half, .int .i64 age], .int .i64 t] w fun e w' =>
    e = .returned (.func (.func 86) #[] #[.pointer (some ⟨w.heap.size + 1, 0, none⟩), .pointer (some ⟨w.heap.size, 0, none⟩)]) ∧ w' = (w.alloc (.cells #[v1, v2, .int .i64 half, .int .i64 age] 25)).alloc (.cells #[.int .i64 t] 3) := by
  go_enter Try.func75, Try.ntmps75
  go_wp2_with fail
  go_ret
  exact ⟨rfl, rfl⟩
end Go.Proofs.Ytjkmcncgndkdoaa.CfgW
