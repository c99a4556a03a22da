/-
  Chapter 12: what all nodes use while any gangs run, over any world.
-/
import Derived.Test.YtjkmcncgndkdoaaLedAwake
import Derived.Test.YtjkmcncgndkdoaaRefOf
import Derived.Test.YtjkmcncgndkdoaaVList
import Derived.Deep.RegionWith
import Derived.BigRegion
set_option linter.unusedVariables false
set_option linter.unusedSimpArgs false
namespace Go.Proofs.Ytjkmcncgndkdoaa.CfgW
open Go Go.RowKit Go.Proofs.Ytjkmcncgndkdoaa.L

theorem len_ok {c : Cfg.C} (h : Cfg.check c = 0) : c.nodes.length ≤ 1000000 := by
  unfold Cfg.check at h
  split at h
  · rename_i hk
    unfold Cfg.ok Cfg.sizesOk Cfg.between at hk
    simp at hk
    omega
  · cases h

set_option maxRecDepth 100000 in
set_option maxHeartbeats 8000000 in
theorem lawof_any {w : World} {v vr : Value} {c : Cfg.C} {rs : List Run} (hc : CfgAt w v c) (hr : Runs w vr rs) : Calls Try.prog 14 #[v, vr] w fun e w' => e = .returned (.bool true) ∧ Below w.heap.size w w' := by
  have hc0 := hc
  have hr0 := hr
  have gC := Lib.hid (rcheck_any hc)
  obtain ⟨v1, v2, rfl, ⟨A, ca, rfl, hrA, hl⟩, ⟨B, cb, rfl, hrB, hl2⟩⟩ := hc
  obtain ⟨R, cr, rfl, hrR, hl3, hin⟩ := hr
  unfold maxLen at hl2 hl3
  have gF := Lib.hid (fun (h : Cfg.check c = 0) w1 hb => of_any hc0 hr0 (len_ok h) w1 hb)
  have gR := Lib.hid (fun (h : Cfg.check c = 0) w1 hb => rof_any hc0 hr0 (len_ok h) w1 hb)
  obtain ⟨N, hN⟩ : ∃ N, c.nodes.length = N := ⟨_, rfl⟩
  obtain ⟨M, hM⟩ : ∃ M, c.hosts.length = M := ⟨_, rfl⟩
  obtain ⟨K, hK⟩ : ∃ K, rs.length = K := ⟨_, rfl⟩
  obtain ⟨half, hhalf⟩ : ∃ z, c.half = z := ⟨_, rfl⟩
  obtain ⟨age, hage⟩ : ∃ z, c.age = z := ⟨_, rfl⟩
  rw [hN, hM, hK, hhalf, hage] at gF gR ⊢
  rw [hN, hM, hhalf, hage] at gC
  rw [hM] at hl2
  rw [hK] at hl3
  generalize Led.all c (Led.ofTo c (needs rs) K) = LL at *
  generalize Cfg.check c = ck at *
  have hbx := CBox.new w (.slice A N ca) (.slice B M cb) half age
  have hbw : Below w.heap.size w (w.alloc (.cells #[.slice A N ca, .slice B M cb, .int .i64 half, .int .i64 age] 25)) := (Below.refl _ _).alloc (Nat.le_refl _) _
  clear hc0 hr0 hrA hl hrB hrR hin hN hM hK hhalf hage
  go_enter Try.func14, Try.ntmps14
  generalize hwq : w.alloc (.cells #[.slice A N ca, .slice B M cb, .int .i64 half, .int .i64 age] 25) = wq at *
  have HBX : Hid (∀ W, Below wq.heap.size wq W → CBox W w.heap.size (.slice A N ca) (.slice B M cb) half age) := Lib.hid (fun W hW => hbx.on hW)
  obtain ⟨hx0, x0, x1, x2, x3⟩ := hbx
  have aw := Lib.hid awake12
  have Hbw := Lib.hid hbw
  go_wp2_with fail
  refine (gC.out _ Hbw.out).mono ?_
  rintro e w2 ⟨rfl, hb2⟩
  have HB2 := Lib.hid (keeps_trans Hbw.out hb2)
  obtain ⟨-, y0, y1, y2, y3⟩ := HBX.out _ hb2
  have HBX2 : Hid (∀ W, Below w2.heap.size w2 W → CBox W w.heap.size (.slice A N ca) (.slice B M cb) half age) := Lib.hid (fun W hW => HBX.out W (keeps_trans hb2 hW))
  clear x0 x1 x2 x3 hwq hbw hb2
  by_cases h0 : ck = 0
  · have t0 : (ck != 0) = false := by simp [h0]
    by_cases h2 : 200 < K
    · have t2 : decide ((200 : Int) < (K : Int)) = true := by simp; omega
      clear h0 h2
      go_wp2_with fail
      refine (aw.out _).mono ?_
      rintro e w3 ⟨rfl, hb3⟩
      have HB3 := Lib.hid (keeps_trans HB2.out hb3)
      clear hb3
      go_wp2_with fail
      go_ret
      exact ⟨rfl, HB3.out⟩
    · have t2 : decide ((200 : Int) < (K : Int)) = false := by simp; omega
      have HF := Lib.hid (gF.out h0)
      have HR := Lib.hid (gR.out h0)
      clear h0 h2 gF gR gC
      go_wp2_with fail
      go_region_with (first
        | (go_at_call 45; refine (HF.out _ (keeps_trans HB2.out (by (repeat' (first | (with_reducible exact Below.refl _ _) | (with_reducible assumption) | (with_reducible refine Below.alloc ?_ ?_ _) | (with_reducible refine Go.Proofs.Ytjkmcncgndkdoaa.L.below_drewN ?_ _) | (with_reducible refine Below.drew ?_) | (with_reducible refine Below.setCell ?_ ?_ _) | (with_reducible refine Below.frame ?_ _) | go_size))))).mono ?_; rintro e wA ⟨fv, rfl, hfv, hbA⟩; have hqA : Below w2.heap.size w2 wA := keeps_trans (by (repeat' (first | (with_reducible exact Below.refl _ _) | (with_reducible assumption) | (with_reducible refine Below.alloc ?_ ?_ _) | (with_reducible refine Go.Proofs.Ytjkmcncgndkdoaa.L.below_drewN ?_ _) | (with_reducible refine Below.drew ?_) | (with_reducible refine Below.setCell ?_ ?_ _) | (with_reducible refine Below.frame ?_ _) | go_size))) hbA; obtain ⟨-, a0, a1, a2, a3⟩ := HBX2.out wA hqA)
        | (go_at_call 46; refine (HR.out _ (keeps_trans HB2.out (by (repeat' (first | (with_reducible exact Below.refl _ _) | (with_reducible assumption) | (with_reducible refine Below.alloc ?_ ?_ _) | (with_reducible refine Go.Proofs.Ytjkmcncgndkdoaa.L.below_drewN ?_ _) | (with_reducible refine Below.drew ?_) | (with_reducible refine Below.setCell ?_ ?_ _) | (with_reducible refine Below.frame ?_ _) | go_size))))).mono ?_; rintro e wB ⟨rv, rfl, hrv, hbB⟩; have hqB : Below w2.heap.size w2 wB := keeps_trans (by (repeat' (first | (with_reducible exact Below.refl _ _) | (with_reducible assumption) | (with_reducible refine Below.alloc ?_ ?_ _) | (with_reducible refine Go.Proofs.Ytjkmcncgndkdoaa.L.below_drewN ?_ _) | (with_reducible refine Below.drew ?_) | (with_reducible refine Below.setCell ?_ ?_ _) | (with_reducible refine Below.frame ?_ _) | go_size))) hbB; obtain ⟨-, b0, b1, b2, b3⟩ := HBX2.out wB hqB)
        | (go_at_call 30; (first | refine (list_same (hfv.sl.below hbB) hrv.sl _ (by (repeat' (first | (with_reducible exact Below.refl _ _) | (with_reducible assumption) | (with_reducible refine Below.alloc ?_ ?_ _) | (with_reducible refine Go.Proofs.Ytjkmcncgndkdoaa.L.below_drewN ?_ _) | (with_reducible refine Below.drew ?_) | (with_reducible refine Below.setCell ?_ ?_ _) | (with_reducible refine Below.frame ?_ _) | go_size)))).mono ?_ | refine (list_same hfv.sl (hrv.sl.below hbA) _ (by (repeat' (first | (with_reducible exact Below.refl _ _) | (with_reducible assumption) | (with_reducible refine Below.alloc ?_ ?_ _) | (with_reducible refine Go.Proofs.Ytjkmcncgndkdoaa.L.below_drewN ?_ _) | (with_reducible refine Below.drew ?_) | (with_reducible refine Below.setCell ?_ ?_ _) | (with_reducible refine Below.frame ?_ _) | go_size)))).mono ?_); rintro e wL ⟨rfl, hbL⟩; have hqL : Below w2.heap.size w2 wL := keeps_trans (by (repeat' (first | (with_reducible exact Below.refl _ _) | (with_reducible assumption) | (with_reducible refine Below.alloc ?_ ?_ _) | (with_reducible refine Go.Proofs.Ytjkmcncgndkdoaa.L.below_drewN ?_ _) | (with_reducible refine Below.drew ?_) | (with_reducible refine Below.setCell ?_ ?_ _) | (with_reducible refine Below.frame ?_ _) | go_size))) hbL)
        | (go_at_call 23; refine (aw.out _).mono ?_; rintro e wZ ⟨rfl, hbZ⟩; have hqZ : Below w2.heap.size w2 wZ := keeps_trans (by (repeat' (first | (with_reducible exact Below.refl _ _) | (with_reducible assumption) | (with_reducible refine Below.alloc ?_ ?_ _) | (with_reducible refine Go.Proofs.Ytjkmcncgndkdoaa.L.below_drewN ?_ _) | (with_reducible refine Below.drew ?_) | (with_reducible refine Below.setCell ?_ ?_ _) | (with_reducible refine Below.frame ?_ _) | go_size))) hbZ))
      all_goals (go_wp2_with fail; go_ret; exact ⟨rfl, keeps_trans HB2.out hqZ⟩)
  · have t0 : (ck != 0) = true := by simp [h0]
    clear h0
    go_wp2_with fail
    refine (aw.out _).mono ?_
    rintro e w3 ⟨rfl, hb3⟩
    have HB3 := Lib.hid (keeps_trans HB2.out hb3)
    clear hb3
    go_wp2_with fail
    go_ret
    exact ⟨rfl, HB3.out⟩
end Go.Proofs.Ytjkmcncgndkdoaa.CfgW
