/-
  Trimmed for this seat: CfgRefNode.
-/
import Derived.Test.YtbfpljnfalopdaaCfgNode
set_option linter.unusedVariables false
set_option linter.unusedSimpArgs false
namespace Go.Proofs.Ytbfpljnfalopdaa.CfgW
open Go.RowKit Go.Proofs.Ytbfpljnfalopdaa.L

def hval (x : Cfg.Host) : Value := .agg #[.int .i64 x.flavor, .int .i64 x.block, .int .i64 x.rack, .int .i64 x.cap.x, .int .i64 x.cap.y, .int .i64 x.cap.z]
/-- An amount's cells in a block of its own. -/
theorem vbox_on {w w' : World} {b o : Nat} {x y z : Int} (h : w.cell? ⟨b, o, none⟩ = some (.int .i64 x) ∧ w.cell? ⟨b, o + 1, none⟩ = some (.int .i64 y) ∧ w.cell? ⟨b, o + 2, none⟩ = some (.int .i64 z)) (hb : Below w.heap.size w w') (hlt : b < w.heap.size) :
    w'.cell? ⟨b, o, none⟩ = some (.int .i64 x) ∧ w'.cell? ⟨b, o + 1, none⟩ = some (.int .i64 y) ∧ w'.cell? ⟨b, o + 2, none⟩ = some (.int .i64 z) :=
  ⟨(hb.cell (p := ⟨b, o, none⟩) hlt).trans h.1, (hb.cell (p := ⟨b, o + 1, none⟩) hlt).trans h.2.1, (hb.cell (p := ⟨b, o + 2, none⟩) hlt).trans h.2.2⟩
theorem isZero_eq (x y z : Int) : Cfg.sameV ⟨x, y, z⟩ ⟨0, 0, 0⟩ = Cfg.isZero ⟨x, y, z⟩ := rfl

set_option maxRecDepth 100000 in
set_option maxRecDepth 100000 in
set_option maxHeartbeats 4000000 in
theorem rnode_any {w : World} {v : Value} {c : Cfg.C} (hc : CfgAt w v c) (k : Nat) (hk : k < c.nodes.length) : GivesAt Try.prog w 53 #[v, .int .i64 (k : Int)] (.bool (Cfg.nodeOk c k (c.nodes.getD k default))) := by
  intro w1 hb1
  replace hc := hc.below hb1
  clear hb1
  have hleaf := rleaf_any hc (k : Int)
  obtain ⟨v1, v2, rfl, ⟨A, cap, rfl, hr, hl⟩, hh⟩ := hc
  obtain ⟨bb, o, rfl, hlt, hcell⟩ := row_node hr hk
  have hgd : c.nodes.getD k default = c.nodes[k] := by rw [List.getD_eq_getElem?_getD, List.getElem?_eq_getElem hk]; rfl
  rw [hgd, nodeOk_parts]
  have hat := hcell w1 (Below.refl _ _)
  have hne : ¬ bb = w1.heap.size := by omega
  generalize c.nodes[k] = x at *
  obtain ⟨p, wt, ⟨n0, n1, n2⟩, ⟨b0, b1, b2⟩, ⟨l0, l1, l2⟩⟩ := x
  obtain ⟨c0, c1, c2, c3, c4, c5, c6, c7, c8, c9, c10⟩ := hat
  unfold maxLen at hl
  obtain ⟨N, hN⟩ : ∃ N, c.nodes.length = N := ⟨_, rfl⟩
  rw [hN] at hl hk hleaf ⊢
  simp only at *
  have gV1 := Lib.hid (VecW.grvalid ⟨n0, n1, n2⟩)
  have gV2 := Lib.hid (VecW.grvalid ⟨b0, b1, b2⟩)
  have gV3 := Lib.hid (VecW.grvalid ⟨l0, l1, l2⟩)
  have gF := Lib.hid (VecW.grfits ⟨l0, l1, l2⟩ ⟨n0, n1, n2⟩)
  have gL := Lib.hid hleaf
  have hZ1 := Lib.hid (isZero_eq n0 n1 n2)
  have hZ2 := Lib.hid (isZero_eq b0 b1 b2)
  have hZ3 := Lib.hid (isZero_eq l0 l1 l2)
  generalize Cfg.leaf c (k : Int) = LF at *
  generalize Vec.valid ⟨n0, n1, n2⟩ = V1 at *
  generalize Vec.valid ⟨b0, b1, b2⟩ = V2 at *
  generalize Vec.valid ⟨l0, l1, l2⟩ = V3 at *
  generalize Vec.fits ⟨l0, l1, l2⟩ ⟨n0, n1, n2⟩ = FT at *
  generalize Cfg.isZero ⟨n0, n1, n2⟩ = Z1 at *
  generalize Cfg.isZero ⟨b0, b1, b2⟩ = Z2 at *
  generalize Cfg.isZero ⟨l0, l1, l2⟩ = Z3 at *
  unfold Vec.V.val at *
  clear hr hh hcell hgd hleaf hN
  obtain ⟨R, hR⟩ : ∃ R, (!((decide (k = 0) && (p != -1)) || ((decide (0 < k) && !Cfg.between p 0 ((k : Int) - 1)) || !Cfg.between wt 1 1000)) &&
      (if LF then V1 && (V2 && (V3 && FT)) else Z1 && (Z2 && Z3))) = R := ⟨_, rfl⟩
  rw [hR]
  have HR := Lib.hid hR
  clear hR
  have hbox : NodeAt (((w1.alloc (.cells #[.slice (some ⟨bb, o, none⟩) N cap, v2, .int .i64 c.half, .int .i64 c.age] 25)).alloc (.cells #[.int .i64 p, .int .i64 wt, .int .i64 n0, .int .i64 n1, .int .i64 n2, .int .i64 b0, .int .i64 b1, .int .i64 b2, .int .i64 l0, .int .i64 l1, .int .i64 l2] 42)).alloc (.cells #[.int .i64 0, .int .i64 0, .int .i64 0] 29)) (w1.heap.size + 1) 0 ⟨p, wt, ⟨n0, n1, n2⟩, ⟨b0, b1, b2⟩, ⟨l0, l1, l2⟩⟩ := by
    refine ⟨?_, ?_, ?_, ?_, ?_, ?_, ?_, ?_, ?_, ?_, ?_⟩ <;> simp [go_sem]
  have hzero : (((w1.alloc (.cells #[.slice (some ⟨bb, o, none⟩) N cap, v2, .int .i64 c.half, .int .i64 c.age] 25)).alloc (.cells #[.int .i64 p, .int .i64 wt, .int .i64 n0, .int .i64 n1, .int .i64 n2, .int .i64 b0, .int .i64 b1, .int .i64 b2, .int .i64 l0, .int .i64 l1, .int .i64 l2] 42)).alloc (.cells #[.int .i64 0, .int .i64 0, .int .i64 0] 29)).cell? ⟨w1.heap.size + 1 + 1, 0, none⟩ = some (.int .i64 0) ∧
    (((w1.alloc (.cells #[.slice (some ⟨bb, o, none⟩) N cap, v2, .int .i64 c.half, .int .i64 c.age] 25)).alloc (.cells #[.int .i64 p, .int .i64 wt, .int .i64 n0, .int .i64 n1, .int .i64 n2, .int .i64 b0, .int .i64 b1, .int .i64 b2, .int .i64 l0, .int .i64 l1, .int .i64 l2] 42)).alloc (.cells #[.int .i64 0, .int .i64 0, .int .i64 0] 29)).cell? ⟨w1.heap.size + 1 + 1, 0 + 1, none⟩ = some (.int .i64 0) ∧
    (((w1.alloc (.cells #[.slice (some ⟨bb, o, none⟩) N cap, v2, .int .i64 c.half, .int .i64 c.age] 25)).alloc (.cells #[.int .i64 p, .int .i64 wt, .int .i64 n0, .int .i64 n1, .int .i64 n2, .int .i64 b0, .int .i64 b1, .int .i64 b2, .int .i64 l0, .int .i64 l1, .int .i64 l2] 42)).alloc (.cells #[.int .i64 0, .int .i64 0, .int .i64 0] 29)).cell? ⟨w1.heap.size + 1 + 1, 0 + 2, none⟩ = some (.int .i64 0) := by
    refine ⟨?_, ?_, ?_⟩ <;> simp [go_sem]
  have HBX := Lib.hid hbox
  have HZ := Lib.hid hzero
  clear hbox hzero
  by_cases hk0 : k = 0
  · have t0 : ((k : Int) == 0) = true := by simp [hk0]
    have t1 : ¬ 0 < (k : Int) := by omega
    have t2 : decide (0 < (k : Int)) = false := by simpa using t1
    have HK0 := Lib.hid hk0
    clear hk0
    by_cases hp : p = -1
    · have hp1 : (p != -1) = false := by simpa using hp
      have HP := Lib.hid hp
      clear hp
      by_cases hw1 : wt < 1
      · have hw1d : decide (wt < 1) = true := by simpa using hw1
        go_enter Try.func53, Try.ntmps53
        go_wp2_with fail
        go_ret
        exact ⟨ret_bool (by rw [← HR.out, show Cfg.between wt 1 1000 = false by unfold Cfg.between; simp; omega]; simp), by (repeat' (first | (with_reducible exact Below.refl _ _) | (with_reducible assumption) | (with_reducible refine Below.alloc ?_ ?_ _) | (with_reducible refine Go.Proofs.Ytbfpljnfalopdaa.L.below_drewN ?_ _) | (with_reducible refine Below.drew ?_) | (with_reducible refine Below.setCell ?_ ?_ _) | (with_reducible refine Below.frame ?_ _) | go_size))⟩
      by_cases hw2 : 1000 < wt
      · have hw1d : decide (wt < 1) = false := by simpa using hw1
        have hw2d : decide (1000 < wt) = true := by simpa using hw2
        go_enter Try.func53, Try.ntmps53
        go_wp2_with fail
        go_ret
        exact ⟨ret_bool (by rw [← HR.out, show Cfg.between wt 1 1000 = false by unfold Cfg.between; simp; omega]; simp), by (repeat' (first | (with_reducible exact Below.refl _ _) | (with_reducible assumption) | (with_reducible refine Below.alloc ?_ ?_ _) | (with_reducible refine Go.Proofs.Ytbfpljnfalopdaa.L.below_drewN ?_ _) | (with_reducible refine Below.drew ?_) | (with_reducible refine Below.setCell ?_ ?_ _) | (with_reducible refine Below.frame ?_ _) | go_size))⟩
      have hw1d : decide (wt < 1) = false := by simpa using hw1
      have hw2d : decide (1000 < wt) = false := by simpa using hw2
      have HB2 := Lib.hid (show Cfg.between wt 1 1000 = true by unfold Cfg.between; simp; omega)
      go_enter Try.func53, Try.ntmps53
      go_wp2_with fail
      refine (gL.out _ (by (repeat' (first | (with_reducible exact Below.refl _ _) | (with_reducible assumption) | (with_reducible refine Below.alloc ?_ ?_ _) | (with_reducible refine Go.Proofs.Ytbfpljnfalopdaa.L.below_drewN ?_ _) | (with_reducible refine Below.drew ?_) | (with_reducible refine Below.setCell ?_ ?_ _) | (with_reducible refine Below.frame ?_ _) | go_size)))).mono ?_
      rintro e w5 ⟨rfl, hb6⟩
      have hbw5 := keeps_trans (a := w1) (by (repeat' (first | (with_reducible exact Below.refl _ _) | (with_reducible assumption) | (with_reducible refine Below.alloc ?_ ?_ _) | (with_reducible refine Go.Proofs.Ytbfpljnfalopdaa.L.below_drewN ?_ _) | (with_reducible refine Below.drew ?_) | (with_reducible refine Below.setCell ?_ ?_ _) | (with_reducible refine Below.frame ?_ _) | go_size))) hb6
      obtain ⟨m0, m1, m2, m3, m4, m5, m6, m7, m8, m9, m10⟩ := nbox_on HBX.out hb6 (by simp)
      obtain ⟨y0, y1, y2⟩ := vbox_on HZ.out hb6 (by simp)
      have hz6 : w1.heap.size + 1 + 1 < w5.heap.size := by have := hb6.size; simp at this; omega
      cases LF
      · have z1 := hZ1.out
        have z2 := hZ2.out
        have z3 := hZ3.out
        cases Z1
        · go_wp2_with fail
          go_ret
          exact ⟨ret_bool (by rw [← HR.out]; simp), hbw5⟩
        cases Z2
        · go_wp2_with fail
          go_ret
          exact ⟨ret_bool (by rw [← HR.out]; simp), hbw5⟩
        cases Z3
        · go_wp2_with fail
          go_ret
          exact ⟨ret_bool (by rw [← HR.out]; simp), hbw5⟩
        go_wp2_with fail
        go_ret
        exact ⟨ret_bool (by rw [← HR.out]; simp [HK0.out, HP.out, HB2.out]), hbw5⟩
      go_wp2_with fail
      refine (gV1.out _).mono ?_
      rintro e v0 ⟨rfl, hq⟩
      have hs0 := keeps_trans hb6 hq
      have ht0 := keeps_trans hbw5 hq
      clear hq m0 m1 m2 m3 m4 m5 m6 m7 m8 m9 m10
      obtain ⟨m0, m1, m2, m3, m4, m5, m6, m7, m8, m9, m10⟩ := nbox_on HBX.out hs0 (by simp)
      cases V1
      · go_wp2_with fail
        go_ret
        exact ⟨ret_bool (by rw [← HR.out]; simp), ht0⟩
      go_wp2_with fail
      refine (gV2.out _).mono ?_
      rintro e v1 ⟨rfl, hq⟩
      have hs1 := keeps_trans hs0 hq
      have ht1 := keeps_trans ht0 hq
      clear hq m0 m1 m2 m3 m4 m5 m6 m7 m8 m9 m10
      obtain ⟨m0, m1, m2, m3, m4, m5, m6, m7, m8, m9, m10⟩ := nbox_on HBX.out hs1 (by simp)
      cases V2
      · go_wp2_with fail
        go_ret
        exact ⟨ret_bool (by rw [← HR.out]; simp), ht1⟩
      go_wp2_with fail
      refine (gV3.out _).mono ?_
      rintro e v2 ⟨rfl, hq⟩
      have hs2 := keeps_trans hs1 hq
      have ht2 := keeps_trans ht1 hq
      clear hq m0 m1 m2 m3 m4 m5 m6 m7 m8 m9 m10
      obtain ⟨m0, m1, m2, m3, m4, m5, m6, m7, m8, m9, m10⟩ := nbox_on HBX.out hs2 (by simp)
      cases V3
      · go_wp2_with fail
        go_ret
        exact ⟨ret_bool (by rw [← HR.out]; simp), ht2⟩
      go_wp2_with fail
      refine (gF.out _).mono ?_
      rintro e v3 ⟨rfl, hq⟩
      have hs3 := keeps_trans hs2 hq
      have ht3 := keeps_trans ht2 hq
      clear hq m0 m1 m2 m3 m4 m5 m6 m7 m8 m9 m10
      go_wp2_with fail
      go_ret
      exact ⟨ret_bool (by rw [← HR.out]; simp [HK0.out, HP.out, HB2.out]), ht3⟩
    · have hp1 : (p != -1) = true := by simpa using hp
      have HP := Lib.hid hp
      clear hp
      go_enter Try.func53, Try.ntmps53
      go_wp2_with fail
      go_ret
      exact ⟨ret_bool (by rw [← HR.out]; simp [HK0.out, HP.out]), by (repeat' (first | (with_reducible exact Below.refl _ _) | (with_reducible assumption) | (with_reducible refine Below.alloc ?_ ?_ _) | (with_reducible refine Go.Proofs.Ytbfpljnfalopdaa.L.below_drewN ?_ _) | (with_reducible refine Below.drew ?_) | (with_reducible refine Below.setCell ?_ ?_ _) | (with_reducible refine Below.frame ?_ _) | go_size))⟩
  · have t0 : ((k : Int) == 0) = false := by simp [hk0]
    have t1 : 0 < (k : Int) := by omega
    have HK0 := Lib.hid (show 0 < k by omega)
    clear hk0
    by_cases hp1 : p < 0
    · have hp1d : decide (p < 0) = true := by simpa using hp1
      go_enter Try.func53, Try.ntmps53
      go_wp2_with fail
      go_ret
      exact ⟨ret_bool (by rw [← HR.out, show Cfg.between p 0 ((k : Int) - 1) = false by unfold Cfg.between; simp; omega]; simp [HK0.out, show ¬ k = 0 by have := HK0.out; omega]), by (repeat' (first | (with_reducible exact Below.refl _ _) | (with_reducible assumption) | (with_reducible refine Below.alloc ?_ ?_ _) | (with_reducible refine Go.Proofs.Ytbfpljnfalopdaa.L.below_drewN ?_ _) | (with_reducible refine Below.drew ?_) | (with_reducible refine Below.setCell ?_ ?_ _) | (with_reducible refine Below.frame ?_ _) | go_size))⟩
    have hp1d : decide (p < 0) = false := by simpa using hp1
    by_cases hp2 : (k : Int) ≤ p
    · have hp2d : decide ((k : Int) ≤ p) = true := by simpa using hp2
      go_enter Try.func53, Try.ntmps53
      go_wp2_with fail
      go_ret
      exact ⟨ret_bool (by rw [← HR.out, show Cfg.between p 0 ((k : Int) - 1) = false by unfold Cfg.between; simp; omega]; simp [HK0.out, show ¬ k = 0 by have := HK0.out; omega]), by (repeat' (first | (with_reducible exact Below.refl _ _) | (with_reducible assumption) | (with_reducible refine Below.alloc ?_ ?_ _) | (with_reducible refine Go.Proofs.Ytbfpljnfalopdaa.L.below_drewN ?_ _) | (with_reducible refine Below.drew ?_) | (with_reducible refine Below.setCell ?_ ?_ _) | (with_reducible refine Below.frame ?_ _) | go_size))⟩
    have hp2d : decide ((k : Int) ≤ p) = false := by simpa using hp2
    have HB1 := Lib.hid (show Cfg.between p 0 ((k : Int) - 1) = true by unfold Cfg.between; simp; omega)
    by_cases hw1 : wt < 1
    · have hw1d : decide (wt < 1) = true := by simpa using hw1
      go_enter Try.func53, Try.ntmps53
      go_wp2_with fail
      go_ret
      exact ⟨ret_bool (by rw [← HR.out, show Cfg.between wt 1 1000 = false by unfold Cfg.between; simp; omega]; simp), by (repeat' (first | (with_reducible exact Below.refl _ _) | (with_reducible assumption) | (with_reducible refine Below.alloc ?_ ?_ _) | (with_reducible refine Go.Proofs.Ytbfpljnfalopdaa.L.below_drewN ?_ _) | (with_reducible refine Below.drew ?_) | (with_reducible refine Below.setCell ?_ ?_ _) | (with_reducible refine Below.frame ?_ _) | go_size))⟩
    by_cases hw2 : 1000 < wt
    · have hw1d : decide (wt < 1) = false := by simpa using hw1
      have hw2d : decide (1000 < wt) = true := by simpa using hw2
      go_enter Try.func53, Try.ntmps53
      go_wp2_with fail
      go_ret
      exact ⟨ret_bool (by rw [← HR.out, show Cfg.between wt 1 1000 = false by unfold Cfg.between; simp; omega]; simp), by (repeat' (first | (with_reducible exact Below.refl _ _) | (with_reducible assumption) | (with_reducible refine Below.alloc ?_ ?_ _) | (with_reducible refine Go.Proofs.Ytbfpljnfalopdaa.L.below_drewN ?_ _) | (with_reducible refine Below.drew ?_) | (with_reducible refine Below.setCell ?_ ?_ _) | (with_reducible refine Below.frame ?_ _) | go_size))⟩
    have hw1d : decide (wt < 1) = false := by simpa using hw1
    have hw2d : decide (1000 < wt) = false := by simpa using hw2
    have HB2 := Lib.hid (show Cfg.between wt 1 1000 = true by unfold Cfg.between; simp; omega)
    go_enter Try.func53, Try.ntmps53
    go_wp2_with fail
    refine (gL.out _ (by (repeat' (first | (with_reducible exact Below.refl _ _) | (with_reducible assumption) | (with_reducible refine Below.alloc ?_ ?_ _) | (with_reducible refine Go.Proofs.Ytbfpljnfalopdaa.L.below_drewN ?_ _) | (with_reducible refine Below.drew ?_) | (with_reducible refine Below.setCell ?_ ?_ _) | (with_reducible refine Below.frame ?_ _) | go_size)))).mono ?_
    rintro e w5 ⟨rfl, hb6⟩
    have hbw5 := keeps_trans (a := w1) (by (repeat' (first | (with_reducible exact Below.refl _ _) | (with_reducible assumption) | (with_reducible refine Below.alloc ?_ ?_ _) | (with_reducible refine Go.Proofs.Ytbfpljnfalopdaa.L.below_drewN ?_ _) | (with_reducible refine Below.drew ?_) | (with_reducible refine Below.setCell ?_ ?_ _) | (with_reducible refine Below.frame ?_ _) | go_size))) hb6
    obtain ⟨m0, m1, m2, m3, m4, m5, m6, m7, m8, m9, m10⟩ := nbox_on HBX.out hb6 (by simp)
    obtain ⟨y0, y1, y2⟩ := vbox_on HZ.out hb6 (by simp)
    have hz6 : w1.heap.size + 1 + 1 < w5.heap.size := by have := hb6.size; simp at this; omega
    cases LF
    · have z1 := hZ1.out
      have z2 := hZ2.out
      have z3 := hZ3.out
      cases Z1
      · go_wp2_with fail
        go_ret
        exact ⟨ret_bool (by rw [← HR.out]; simp), hbw5⟩
      cases Z2
      · go_wp2_with fail
        go_ret
        exact ⟨ret_bool (by rw [← HR.out]; simp), hbw5⟩
      cases Z3
      · go_wp2_with fail
        go_ret
        exact ⟨ret_bool (by rw [← HR.out]; simp), hbw5⟩
      go_wp2_with fail
      go_ret
      exact ⟨ret_bool (by rw [← HR.out]; simp [show ¬ k = 0 by have := HK0.out; omega, HB1.out, HB2.out]), hbw5⟩
    go_wp2_with fail
    refine (gV1.out _).mono ?_
    rintro e v0 ⟨rfl, hq⟩
    have hs0 := keeps_trans hb6 hq
    have ht0 := keeps_trans hbw5 hq
    clear hq m0 m1 m2 m3 m4 m5 m6 m7 m8 m9 m10
    obtain ⟨m0, m1, m2, m3, m4, m5, m6, m7, m8, m9, m10⟩ := nbox_on HBX.out hs0 (by simp)
    cases V1
    · go_wp2_with fail
      go_ret
      exact ⟨ret_bool (by rw [← HR.out]; simp), ht0⟩
    go_wp2_with fail
    refine (gV2.out _).mono ?_
    rintro e v1 ⟨rfl, hq⟩
    have hs1 := keeps_trans hs0 hq
    have ht1 := keeps_trans ht0 hq
    clear hq m0 m1 m2 m3 m4 m5 m6 m7 m8 m9 m10
    obtain ⟨m0, m1, m2, m3, m4, m5, m6, m7, m8, m9, m10⟩ := nbox_on HBX.out hs1 (by simp)
    cases V2
    · go_wp2_with fail
      go_ret
      exact ⟨ret_bool (by rw [← HR.out]; simp), ht1⟩
    go_wp2_with fail
    refine (gV3.out _).mono ?_
    rintro e v2 ⟨rfl, hq⟩
    have hs2 := keeps_trans hs1 hq
    have ht2 := keeps_trans ht1 hq
    clear hq m0 m1 m2 m3 m4 m5 m6 m7 m8 m9 m10
    obtain ⟨m0, m1, m2, m3, m4, m5, m6, m7, m8, m9, m10⟩ := nbox_on HBX.out hs2 (by simp)
    cases V3
    · go_wp2_with fail
      go_ret
      exact ⟨ret_bool (by rw [← HR.out]; simp), ht2⟩
    go_wp2_with fail
    refine (gF.out _).mono ?_
    rintro e v3 ⟨rfl, hq⟩
    have hs3 := keeps_trans hs2 hq
    have ht3 := keeps_trans ht2 hq
    clear hq m0 m1 m2 m3 m4 m5 m6 m7 m8 m9 m10
    go_wp2_with fail
    go_ret
    exact ⟨ret_bool (by rw [← HR.out]; simp [show ¬ k = 0 by have := HK0.out; omega, HB1.out, HB2.out]), ht3⟩
end Go.Proofs.Ytbfpljnfalopdaa.CfgW
