/-
  Chapter 16's laws, over any world.
-/
import Derived.Test.YtjkmcncgndkdoaaHostAwake
import Derived.Deep.RegionWith
import Derived.BigRegion
set_option linter.unusedVariables false
set_option linter.unusedSimpArgs false
namespace Go.Proofs.Ytjkmcncgndkdoaa.CfgW
open Go.RowKit Go.Proofs.Ytjkmcncgndkdoaa.L

set_option maxRecDepth 100000 in
set_option maxHeartbeats 8000000 in
theorem lawfree_any {w : World} {v vr : Value} {c : Cfg.C} {rs : List Run} (hc : CfgAt w v c) (hr : Runs w vr rs) : Calls Try.prog 10 #[v, vr] w fun e w' => e = .returned (.bool true) ∧ Below w.heap.size w w' := by
  have hc0 := hc
  have hr0 := hr
  obtain ⟨v1, v2, rfl, ⟨A, ca, rfl, hrA, hl⟩, ⟨B, cb, rfl, hrB, hl2⟩⟩ := hc
  obtain ⟨R, cr, rfl, hrR, hl3, hin⟩ := hr
  unfold maxLen at hl2 hl3
  have hlen : c.hosts.length ≤ 200 → c.hosts.length ≤ 1000000 := fun h => by omega
  have gF := Lib.hid (fun h w1 hb => free_any hc0 hr0 (hlen h) w1 hb)
  have gR := Lib.hid (fun h w1 hb => rfree_any hc0 hr0 (hlen h) w1 hb)
  obtain ⟨N, hN⟩ : ∃ N, c.nodes.length = N := ⟨_, rfl⟩
  obtain ⟨M, hM⟩ : ∃ M, c.hosts.length = M := ⟨_, rfl⟩
  obtain ⟨K, hK⟩ : ∃ K, rs.length = K := ⟨_, rfl⟩
  obtain ⟨half, hhalf⟩ : ∃ z, c.half = z := ⟨_, rfl⟩
  obtain ⟨age, hage⟩ : ∃ z, c.age = z := ⟨_, rfl⟩
  rw [hN, hM, hK, hhalf, hage] at gF gR ⊢
  rw [hM] at hl2
  rw [hK] at hl3
  have hbx := CBox.new w (.slice A N ca) (.slice B M cb) half age
  have hbw : Below w.heap.size w (w.alloc (.cells #[.slice A N ca, .slice B M cb, .int .i64 half, .int .i64 age] 25)) := (Below.refl _ _).alloc (Nat.le_refl _) _
  clear hc0 hr0 hrA hl hrB hrR hin hlen hN hM hK hhalf hage
  go_enter Try.func10, Try.ntmps10
  generalize hwq : w.alloc (.cells #[.slice A N ca, .slice B M cb, .int .i64 half, .int .i64 age] 25) = wq at *
  have HBX : Hid (∀ W, Below wq.heap.size wq W → CBox W w.heap.size (.slice A N ca) (.slice B M cb) half age) := Lib.hid (fun W hW => hbx.on hW)
  obtain ⟨hx0, x0, x1, x2, x3⟩ := hbx
  have aw := Lib.hid awake16
  by_cases h1 : 200 < M
  · have t1 : decide ((200 : Int) < (M : Int)) = true := by simp; omega
    clear h1
    go_wp2_with fail
    refine (aw.out _).mono ?_
    rintro e w2 ⟨rfl, hb2⟩
    have hb3 := keeps_trans hbw hb2
    go_wp2_with fail
    go_ret
    exact ⟨rfl, hb3⟩
  · have t1 : decide ((200 : Int) < (M : Int)) = false := by simp; omega
    by_cases h2 : 200 < K
    · have t2 : decide ((200 : Int) < (K : Int)) = true := by simp; omega
      clear h1 h2
      go_wp2_with fail
      refine (aw.out _).mono ?_
      rintro e w2 ⟨rfl, hb2⟩
      have hb3 := keeps_trans hbw hb2
      go_wp2_with fail
      go_ret
      exact ⟨rfl, hb3⟩
    · have t2 : decide ((200 : Int) < (K : Int)) = false := by simp; omega
      have HF := Lib.hid (gF.out (by omega))
      have HR := Lib.hid (gR.out (by omega))
      clear h1 h2
      go_wp2_with fail
      clear hwq
      go_region_with (first
        | (go_at_call 38; refine (HF.out _ (keeps_trans hbw (by (repeat' (first | (with_reducible exact Below.refl _ _) | (with_reducible assumption) | (with_reducible refine Below.alloc ?_ ?_ _) | (with_reducible refine Go.Proofs.Ytjkmcncgndkdoaa.L.below_drewN ?_ _) | (with_reducible refine Below.drew ?_) | (with_reducible refine Below.setCell ?_ ?_ _) | (with_reducible refine Below.frame ?_ _) | go_size))))).mono ?_; rintro e wA ⟨fv, rfl, hfv, hbA⟩; have hqA : Below wq.heap.size wq wA := keeps_trans (by (repeat' (first | (with_reducible exact Below.refl _ _) | (with_reducible assumption) | (with_reducible refine Below.alloc ?_ ?_ _) | (with_reducible refine Go.Proofs.Ytjkmcncgndkdoaa.L.below_drewN ?_ _) | (with_reducible refine Below.drew ?_) | (with_reducible refine Below.setCell ?_ ?_ _) | (with_reducible refine Below.frame ?_ _) | go_size))) hbA; obtain ⟨-, a0, a1, a2, a3⟩ := HBX.out wA hqA)
        | (go_at_call 39; refine (HR.out _ (keeps_trans hbw (by (repeat' (first | (with_reducible exact Below.refl _ _) | (with_reducible assumption) | (with_reducible refine Below.alloc ?_ ?_ _) | (with_reducible refine Go.Proofs.Ytjkmcncgndkdoaa.L.below_drewN ?_ _) | (with_reducible refine Below.drew ?_) | (with_reducible refine Below.setCell ?_ ?_ _) | (with_reducible refine Below.frame ?_ _) | go_size))))).mono ?_; rintro e wB ⟨rv, rfl, hrv, hbB⟩; have hqB : Below wq.heap.size wq wB := keeps_trans (by (repeat' (first | (with_reducible exact Below.refl _ _) | (with_reducible assumption) | (with_reducible refine Below.alloc ?_ ?_ _) | (with_reducible refine Go.Proofs.Ytjkmcncgndkdoaa.L.below_drewN ?_ _) | (with_reducible refine Below.drew ?_) | (with_reducible refine Below.setCell ?_ ?_ _) | (with_reducible refine Below.frame ?_ _) | go_size))) hbB; obtain ⟨-, b0, b1, b2, b3⟩ := HBX.out wB hqB)
        | (go_at_call 30; (first | refine (list_same (hfv.sl.below hbB) hrv.sl _ (by (repeat' (first | (with_reducible exact Below.refl _ _) | (with_reducible assumption) | (with_reducible refine Below.alloc ?_ ?_ _) | (with_reducible refine Go.Proofs.Ytjkmcncgndkdoaa.L.below_drewN ?_ _) | (with_reducible refine Below.drew ?_) | (with_reducible refine Below.setCell ?_ ?_ _) | (with_reducible refine Below.frame ?_ _) | go_size)))).mono ?_ | refine (list_same hfv.sl (hrv.sl.below hbA) _ (by (repeat' (first | (with_reducible exact Below.refl _ _) | (with_reducible assumption) | (with_reducible refine Below.alloc ?_ ?_ _) | (with_reducible refine Go.Proofs.Ytjkmcncgndkdoaa.L.below_drewN ?_ _) | (with_reducible refine Below.drew ?_) | (with_reducible refine Below.setCell ?_ ?_ _) | (with_reducible refine Below.frame ?_ _) | go_size)))).mono ?_); rintro e wL ⟨rfl, hbL⟩; have hqL : Below wq.heap.size wq wL := keeps_trans (by (repeat' (first | (with_reducible exact Below.refl _ _) | (with_reducible assumption) | (with_reducible refine Below.alloc ?_ ?_ _) | (with_reducible refine Go.Proofs.Ytjkmcncgndkdoaa.L.below_drewN ?_ _) | (with_reducible refine Below.drew ?_) | (with_reducible refine Below.setCell ?_ ?_ _) | (with_reducible refine Below.frame ?_ _) | go_size))) hbL)
        | (go_at_call 37; refine (aw.out _).mono ?_; rintro e wZ ⟨rfl, hbZ⟩; have hqZ : Below wq.heap.size wq wZ := keeps_trans (by (repeat' (first | (with_reducible exact Below.refl _ _) | (with_reducible assumption) | (with_reducible refine Below.alloc ?_ ?_ _) | (with_reducible refine Go.Proofs.Ytjkmcncgndkdoaa.L.below_drewN ?_ _) | (with_reducible refine Below.drew ?_) | (with_reducible refine Below.setCell ?_ ?_ _) | (with_reducible refine Below.frame ?_ _) | go_size))) hbZ))
      all_goals (go_wp2_with fail; go_ret; exact ⟨rfl, keeps_trans hbw hqZ⟩)
end Go.Proofs.Ytjkmcncgndkdoaa.CfgW
