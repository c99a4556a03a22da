/-
  Are two hosts of one group? The contract of the reference's alike.
-/
import Derived.Test.YtjkmcncgndkdoaaHostOf
import Derived.BigRegion
import Derived.RegionTactic
set_option linter.unusedVariables false
set_option linter.unusedSimpArgs false
namespace Go.Proofs.Ytjkmcncgndkdoaa.CfgW
open Go.RowKit Go.Proofs.Ytjkmcncgndkdoaa.L

set_option maxRecDepth 100000 in
set_option maxHeartbeats 4000000 in
theorem alike_any {w : World} {v : Value} {c : Cfg.C} (hc : CfgAt w v c) (level : Int) (a b : Nat) (ha : a < c.hosts.length) (hb : b < c.hosts.length) :
    GivesAt Try.prog w 69 #[v, .int .i64 level, .int .i64 (a : Int), .int .i64 (b : Int)] (.bool (Hst.alike c.hosts level a b)) := by
  intro w1 hb1
  replace hc := hc.below hb1
  clear hb1
  obtain ⟨v1, v2, rfl, ⟨A, ca, rfl, hrA, hl⟩, ⟨B, cb, rfl, hrB, hl2⟩⟩ := id hc
  unfold maxLen at hl2
  generalize c.nodes.length = N at *
  obtain ⟨half, hhalf⟩ : ∃ z, c.half = z := ⟨_, rfl⟩
  obtain ⟨age, hage⟩ : ∃ z, c.age = z := ⟨_, rfl⟩
  rw [hhalf, hage]
  clear hrA hl hc hhalf hage
  generalize c.hosts = hs at *
  have haa : Hst.at_ hs a = hs[a] := by unfold Hst.at_; rw [List.getD_eq_getElem?_getD, List.getElem?_eq_getElem ha, Option.getD_some]
  have hbb : Hst.at_ hs b = hs[b] := by unfold Hst.at_; rw [List.getD_eq_getElem?_getD, List.getElem?_eq_getElem hb, Option.getD_some]
  obtain ⟨R, hR⟩ : ∃ R, Hst.alike hs level a b = R := ⟨_, rfl⟩
  rw [hR]
  unfold Hst.alike at hR
  rw [haa, hbb] at hR
  obtain ⟨M, hM⟩ : ∃ M, hs.length = M := ⟨_, rfl⟩
  obtain ⟨bh, oh, rfl, hlth, hch⟩ := row_host hrB ha
  obtain ⟨bh', oh', e', _, hch'⟩ := row_host hrB hb
  injection e' with e'
  injection e' with e1 e2 _
  subst e1 e2
  rw [hM] at ha hb hl2 ⊢
  generalize hs[a] = x at *
  generalize hs[b] = y at *
  obtain ⟨x0, x1, x2, ⟨x3, x4, x5⟩⟩ := x
  obtain ⟨y0, y1, y2, ⟨y3, y4, y5⟩⟩ := y
  simp only at hR hch hch'
  clear hrB haa hbb hM
  have hbx := CBox.new w1 (.slice A N ca) (.slice (some ⟨bh, oh, none⟩) M cb) half age
  have hbw : Below w1.heap.size w1 (w1.alloc (.cells #[.slice A N ca, .slice (some ⟨bh, oh, none⟩) M cb, .int .i64 half, .int .i64 age] 25)) := (Below.refl _ _).alloc (Nat.le_refl _) _
  have HCH := Lib.hid (And.intro hch hch')
  have HBX := Lib.hid (And.intro hbx hbw)
  have HRR := Lib.hid hR
  clear hch hch' hbx hbw hR
  go_enter Try.func69, Try.ntmps69
  go_wp2_with fail
  generalize hwq : w1.alloc (.cells #[.slice A N ca, .slice (some ⟨bh, oh, none⟩) M cb, .int .i64 half, .int .i64 age] 25) = wq at *
  clear hwq
  obtain ⟨-, c0, c1, c2, c3⟩ := HBX.out.1
  obtain ⟨p0, p1, p2, p3, p4, p5⟩ := HCH.out.1 wq HBX.out.2
  obtain ⟨q0, q1, q2, q3, q4, q5⟩ := HCH.out.2 wq HBX.out.2
  have HW := Lib.hid HBX.out.2
  have hsz : w1.heap.size < wq.heap.size := HBX.out.1.1
  have hszh : bh < wq.heap.size := by omega
  clear HCH HBX
  go_region
  all_goals clear c0 c1 c2 c3 p0 p1 p2 p3 p4 p5 q0 q1 q2 q3 q4 q5
  all_goals
    by_cases l0 : level = 0
    · have t0 : (level == (0 : Int)) = true := by simpa using l0
      have hf := Lib.hid (show R = ((a : Int) == (b : Int)) by rw [← HRR.out, if_pos l0, Bool.eq_iff_iff]; simp; omega)
      clear l0
      go_wp2_with fail
      go_ret
      exact ⟨by rw [hf.out]; rfl, keeps_trans HW.out (by (repeat' (first | (with_reducible exact Below.refl _ _) | (with_reducible assumption) | (with_reducible refine Below.alloc ?_ ?_ _) | (with_reducible refine Go.Proofs.Ytjkmcncgndkdoaa.L.below_drewN ?_ _) | (with_reducible refine Below.drew ?_) | (with_reducible refine Below.setCell ?_ ?_ _) | (with_reducible refine Below.frame ?_ _) | go_size)))⟩
    · have t0 : (level == (0 : Int)) = false := by simpa using l0
      by_cases l1 : level = 1
      · have t1 : (level == (1 : Int)) = true := by simpa using l1
        have hf := Lib.hid (show R = ((x0 == y0) && ((x1 == y1) && (x2 == y2))) by rw [← HRR.out, if_neg l0, if_pos l1])
        clear l0 l1
        obtain ⟨s0, hs0⟩ : ∃ s, (x0 == y0) = s := ⟨_, rfl⟩
        obtain ⟨s1, hs1⟩ : ∃ s, (x1 == y1) = s := ⟨_, rfl⟩
        rw [hs0, hs1] at hf
        cases s0 <;> cases s1 <;> (go_wp2_with fail; go_ret; exact ⟨by rw [hf.out]; simp, keeps_trans HW.out (by (repeat' (first | (with_reducible exact Below.refl _ _) | (with_reducible assumption) | (with_reducible refine Below.alloc ?_ ?_ _) | (with_reducible refine Go.Proofs.Ytjkmcncgndkdoaa.L.below_drewN ?_ _) | (with_reducible refine Below.drew ?_) | (with_reducible refine Below.setCell ?_ ?_ _) | (with_reducible refine Below.frame ?_ _) | go_size)))⟩)
      · have t1 : (level == (1 : Int)) = false := by simpa using l1
        by_cases l2 : level = 2
        · have t2 : (level == (2 : Int)) = true := by simpa using l2
          have hf := Lib.hid (show R = ((x0 == y0) && (x1 == y1)) by rw [← HRR.out, if_neg l0, if_neg l1, if_pos l2])
          clear l0 l1 l2
          obtain ⟨s0, hs0⟩ : ∃ s, (x0 == y0) = s := ⟨_, rfl⟩
          rw [hs0] at hf
          cases s0 <;> (go_wp2_with fail; go_ret; exact ⟨by rw [hf.out]; simp, keeps_trans HW.out (by (repeat' (first | (with_reducible exact Below.refl _ _) | (with_reducible assumption) | (with_reducible refine Below.alloc ?_ ?_ _) | (with_reducible refine Go.Proofs.Ytjkmcncgndkdoaa.L.below_drewN ?_ _) | (with_reducible refine Below.drew ?_) | (with_reducible refine Below.setCell ?_ ?_ _) | (with_reducible refine Below.frame ?_ _) | go_size)))⟩)
        · have t2 : (level == (2 : Int)) = false := by simpa using l2
          have hf := Lib.hid (show R = (x0 == y0) by rw [← HRR.out, if_neg l0, if_neg l1, if_neg l2])
          clear l0 l1 l2
          go_wp2_with fail
          go_ret
          exact ⟨by rw [hf.out]; rfl, keeps_trans HW.out (by (repeat' (first | (with_reducible exact Below.refl _ _) | (with_reducible assumption) | (with_reducible refine Below.alloc ?_ ?_ _) | (with_reducible refine Go.Proofs.Ytjkmcncgndkdoaa.L.below_drewN ?_ _) | (with_reducible refine Below.drew ?_) | (with_reducible refine Below.setCell ?_ ?_ _) | (with_reducible refine Below.frame ?_ _) | go_size)))⟩
end Go.Proofs.Ytjkmcncgndkdoaa.CfgW
