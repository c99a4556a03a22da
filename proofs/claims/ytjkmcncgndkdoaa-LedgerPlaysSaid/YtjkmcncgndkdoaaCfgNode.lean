/-
  May a node, a host be? The contracts of config.node, config.host and of the reference's node.
-/
import Derived.Test.YtjkmcncgndkdoaaCfgEq
set_option linter.unusedVariables false
set_option linter.unusedSimpArgs false
namespace Go.Proofs.Ytjkmcncgndkdoaa.CfgW
open Go.RowKit Go.Proofs.Ytjkmcncgndkdoaa.L

theorem gbetween (n lo hi : Int) : Gives Try.prog 48 #[.int .i64 n, .int .i64 lo, .int .i64 hi] (.bool (Cfg.between n lo hi)) := Gives.of_eq fun w => between_any n lo hi w

theorem nbox_on {w w' : World} {b : Nat} {x : Cfg.Node} (h : NodeAt w b 0 x) (hb : Below w.heap.size w w') (hlt : b < w.heap.size) :
    w'.cell? ⟨b, 0, none⟩ = some (.int .i64 x.parent) ∧ w'.cell? ⟨b, 1, none⟩ = some (.int .i64 x.weight) ∧
    w'.cell? ⟨b, 2, none⟩ = some (.int .i64 x.nominal.x) ∧ w'.cell? ⟨b, 3, none⟩ = some (.int .i64 x.nominal.y) ∧ w'.cell? ⟨b, 4, none⟩ = some (.int .i64 x.nominal.z) ∧
    w'.cell? ⟨b, 5, none⟩ = some (.int .i64 x.borrow.x) ∧ w'.cell? ⟨b, 6, none⟩ = some (.int .i64 x.borrow.y) ∧ w'.cell? ⟨b, 7, none⟩ = some (.int .i64 x.borrow.z) ∧
    w'.cell? ⟨b, 8, none⟩ = some (.int .i64 x.lend.x) ∧ w'.cell? ⟨b, 9, none⟩ = some (.int .i64 x.lend.y) ∧ w'.cell? ⟨b, 10, none⟩ = some (.int .i64 x.lend.z) := by
  obtain ⟨h0, h1, h2, h3, h4, h5, h6, h7, h8, h9, h10⟩ := h
  simp only [Nat.zero_add] at *
  have k : ∀ o v, w.cell? ⟨b, o, none⟩ = some v → w'.cell? ⟨b, o, none⟩ = some v := fun o v hv => (hb.cell (p := ⟨b, o, none⟩) hlt).trans hv
  exact ⟨k _ _ h0, k _ _ h1, k _ _ h2, k _ _ h3, k _ _ h4, k _ _ h5, k _ _ h6, k _ _ h7, k _ _ h8, k _ _ h9, k _ _ h10⟩

/-- What a node's test is made of. -/
theorem nodeOk_parts (c : Cfg.C) (k : Nat) (x : Cfg.Node) : Cfg.nodeOk c k x =
    (!((decide (k = 0) && (x.parent != -1)) || ((decide (0 < k) && !Cfg.between x.parent 0 ((k : Int) - 1)) || !Cfg.between x.weight 1 1000)) &&
      (if Cfg.leaf c (k : Int) then Vec.valid x.nominal && (Vec.valid x.borrow && (Vec.valid x.lend && Vec.fits x.lend x.nominal)) else Cfg.isZero x.nominal && (Cfg.isZero x.borrow && Cfg.isZero x.lend))) := by
  unfold Cfg.nodeOk Cfg.parentOk
  congr 1
  by_cases h : k = 0
  · subst h
    simp
    cases h : (x.parent == -1) <;> cases Cfg.between x.weight 1 1000 <;> simp_all
  · have h0 : 0 < k := by omega
    simp [h, h0]

theorem sameN_zero (x : Cfg.Node) : Cfg.sameN x ⟨x.parent, x.weight, ⟨0, 0, 0⟩, ⟨0, 0, 0⟩, ⟨0, 0, 0⟩⟩ = (Cfg.isZero x.nominal && (Cfg.isZero x.borrow && Cfg.isZero x.lend)) := by
  unfold Cfg.sameN Cfg.sameV Cfg.isZero
  simp

set_option maxRecDepth 100000 in
set_option maxHeartbeats 4000000 in
theorem node_any {w : World} {v : Value} {c : Cfg.C} (hc : CfgAt w v c) (k : Nat) (hk : k < c.nodes.length) : GivesAt Try.prog w 49 #[v, .int .i64 (k : Int)] (.bool (Cfg.nodeOk c k (c.nodes.getD k default))) := by
  intro w1 hb1
  replace hc := hc.below hb1
  clear hb1
  have hleaf := leaf_any hc (k : Int)
  obtain ⟨v1, v2, rfl, ⟨A, cap, rfl, hr, hl⟩, hh⟩ := hc
  obtain ⟨bb, o, rfl, hlt, hcell⟩ := row_node hr hk
  have hgd : c.nodes.getD k default = c.nodes[k] := by rw [List.getD_eq_getElem?_getD, List.getElem?_eq_getElem hk]; rfl
  rw [hgd, nodeOk_parts]
  have hz := Lib.hid (sameN_zero c.nodes[k])
  have hat := hcell w1 (Below.refl _ _)
  have hne : ¬ bb = w1.heap.size := by omega
  generalize c.nodes[k] = x at *
  obtain ⟨p, wt, ⟨n0, n1, n2⟩, ⟨b0, b1, b2⟩, ⟨l0, l1, l2⟩⟩ := x
  obtain ⟨c0, c1, c2, c3, c4, c5, c6, c7, c8, c9, c10⟩ := hat
  unfold maxLen at hl
  obtain ⟨N, hN⟩ : ∃ N, c.nodes.length = N := ⟨_, rfl⟩
  rw [hN] at hl hk hleaf ⊢
  simp only at *
  have gB1 := Lib.hid (between_any p 0 ((k : Int) - 1))
  have gB2 := Lib.hid (between_any wt 1 1000)
  have gV1 := Lib.hid (VecW.gvalid ⟨n0, n1, n2⟩)
  have gV2 := Lib.hid (VecW.gvalid ⟨b0, b1, b2⟩)
  have gV3 := Lib.hid (VecW.gvalid ⟨l0, l1, l2⟩)
  have gF := Lib.hid (VecW.gfits ⟨l0, l1, l2⟩ ⟨n0, n1, n2⟩)
  have gL := Lib.hid hleaf
  generalize Cfg.between p 0 ((k : Int) - 1) = B1 at *
  generalize Cfg.between wt 1 1000 = B2 at *
  generalize Cfg.leaf c (k : Int) = LF at *
  generalize Vec.valid ⟨n0, n1, n2⟩ = V1 at *
  generalize Vec.valid ⟨b0, b1, b2⟩ = V2 at *
  generalize Vec.valid ⟨l0, l1, l2⟩ = V3 at *
  generalize Vec.fits ⟨l0, l1, l2⟩ ⟨n0, n1, n2⟩ = FT at *
  unfold Vec.V.val at *
  clear hr hh hcell hgd hleaf hN
  obtain ⟨R, hR⟩ : ∃ R, (!((decide (k = 0) && (p != -1)) || ((decide (0 < k) && !B1) || !B2)) &&
      (if LF then V1 && (V2 && (V3 && FT)) else Cfg.isZero ⟨n0, n1, n2⟩ && (Cfg.isZero ⟨b0, b1, b2⟩ && Cfg.isZero ⟨l0, l1, l2⟩))) = R := ⟨_, rfl⟩
  rw [hR]
  have HR := Lib.hid hR
  clear hR
  have hbox : NodeAt ((w1.alloc (.cells #[.slice (some ⟨bb, o, none⟩) N cap, v2, .int .i64 c.half, .int .i64 c.age] 25)).alloc (.cells #[.int .i64 p, .int .i64 wt, .int .i64 n0, .int .i64 n1, .int .i64 n2, .int .i64 b0, .int .i64 b1, .int .i64 b2, .int .i64 l0, .int .i64 l1, .int .i64 l2] 35)) (w1.heap.size + 1) 0 ⟨p, wt, ⟨n0, n1, n2⟩, ⟨b0, b1, b2⟩, ⟨l0, l1, l2⟩⟩ := by
    refine ⟨?_, ?_, ?_, ?_, ?_, ?_, ?_, ?_, ?_, ?_, ?_⟩ <;> simp [go_sem]
  have HBX := Lib.hid hbox
  clear hbox
  by_cases hk0 : k = 0
  · have t0 : ((k : Int) == 0) = true := by simp [hk0]
    have t1 : ¬ 0 < (k : Int) := by omega
    have t2 : decide (0 < (k : Int)) = false := by simpa using t1
    have HK0 := Lib.hid hk0
    clear hk0
    by_cases hp : p = -1
    · have hp1 : (p != -1) = false := by simpa using hp
      have HP := Lib.hid hp
      clear hp
      go_enter Try.func49, Try.ntmps49
      go_wp2_with fail
      refine (gB2.out _).mono ?_
      rintro e wq ⟨rfl, rfl⟩
      cases B2
      · go_wp2_with fail
        go_ret
        exact ⟨ret_bool (by rw [← HR.out]; simp), by (repeat' (first | (with_reducible exact Below.refl _ _) | (with_reducible assumption) | (with_reducible refine Below.alloc ?_ ?_ _) | (with_reducible refine Go.Proofs.Ytjkmcncgndkdoaa.L.below_drewN ?_ _) | (with_reducible refine Below.drew ?_) | (with_reducible refine Below.setCell ?_ ?_ _) | (with_reducible refine Below.frame ?_ _) | go_size))⟩
      go_wp2_with fail
      refine (gL.out _ (by (repeat' (first | (with_reducible exact Below.refl _ _) | (with_reducible assumption) | (with_reducible refine Below.alloc ?_ ?_ _) | (with_reducible refine Go.Proofs.Ytjkmcncgndkdoaa.L.below_drewN ?_ _) | (with_reducible refine Below.drew ?_) | (with_reducible refine Below.setCell ?_ ?_ _) | (with_reducible refine Below.frame ?_ _) | go_size)))).mono ?_
      rintro e w5 ⟨rfl, hb6⟩
      have hbw5 := keeps_trans (a := w1) (by (repeat' (first | (with_reducible exact Below.refl _ _) | (with_reducible assumption) | (with_reducible refine Below.alloc ?_ ?_ _) | (with_reducible refine Go.Proofs.Ytjkmcncgndkdoaa.L.below_drewN ?_ _) | (with_reducible refine Below.drew ?_) | (with_reducible refine Below.setCell ?_ ?_ _) | (with_reducible refine Below.frame ?_ _) | go_size))) hb6
      obtain ⟨m0, m1, m2, m3, m4, m5, m6, m7, m8, m9, m10⟩ := nbox_on HBX.out hb6 (by simp)
      have hz6 : w1.heap.size + 1 < w5.heap.size := by have := hb6.size; simp at this; omega
      cases LF
      · go_wp2_with fail
        go_ret
        exact ⟨ret_bool (by rw [hz.out, ← HR.out]; simp [HK0.out, HP.out]), hbw5⟩
      go_wp2_with fail
      refine (gV1.out _).mono ?_
      rintro e v0 ⟨rfl, hq⟩
      have hs0 := keeps_trans hb6 hq
      have ht0 := keeps_trans hbw5 hq
      clear hq m0 m1 m2 m3 m4 m5 m6 m7 m8 m9 m10
      obtain ⟨m0, m1, m2, m3, m4, m5, m6, m7, m8, m9, m10⟩ := nbox_on HBX.out hs0 (by simp)
      cases V1
      · go_wp2_with fail
        go_ret
        exact ⟨ret_bool (by rw [← HR.out]; simp), ht0⟩
      go_wp2_with fail
      refine (gV2.out _).mono ?_
      rintro e v1 ⟨rfl, hq⟩
      have hs1 := keeps_trans hs0 hq
      have ht1 := keeps_trans ht0 hq
      clear hq m0 m1 m2 m3 m4 m5 m6 m7 m8 m9 m10
      obtain ⟨m0, m1, m2, m3, m4, m5, m6, m7, m8, m9, m10⟩ := nbox_on HBX.out hs1 (by simp)
      cases V2
      · go_wp2_with fail
        go_ret
        exact ⟨ret_bool (by rw [← HR.out]; simp), ht1⟩
      go_wp2_with fail
      refine (gV3.out _).mono ?_
      rintro e v2 ⟨rfl, hq⟩
      have hs2 := keeps_trans hs1 hq
      have ht2 := keeps_trans ht1 hq
      clear hq m0 m1 m2 m3 m4 m5 m6 m7 m8 m9 m10
      obtain ⟨m0, m1, m2, m3, m4, m5, m6, m7, m8, m9, m10⟩ := nbox_on HBX.out hs2 (by simp)
      cases V3
      · go_wp2_with fail
        go_ret
        exact ⟨ret_bool (by rw [← HR.out]; simp), ht2⟩
      go_wp2_with fail
      refine (gF.out _).mono ?_
      rintro e v3 ⟨rfl, hq⟩
      have hs3 := keeps_trans hs2 hq
      have ht3 := keeps_trans ht2 hq
      clear hq m0 m1 m2 m3 m4 m5 m6 m7 m8 m9 m10
      go_wp2_with fail
      go_ret
      exact ⟨ret_bool (by rw [← HR.out]; simp [HK0.out, HP.out]), ht3⟩
    · have hp1 : (p != -1) = true := by simpa using hp
      have HP := Lib.hid hp
      clear hp
      go_enter Try.func49, Try.ntmps49
      go_wp2_with fail
      go_ret
      exact ⟨ret_bool (by rw [← HR.out]; simp [HK0.out, HP.out]), by (repeat' (first | (with_reducible exact Below.refl _ _) | (with_reducible assumption) | (with_reducible refine Below.alloc ?_ ?_ _) | (with_reducible refine Go.Proofs.Ytjkmcncgndkdoaa.L.below_drewN ?_ _) | (with_reducible refine Below.drew ?_) | (with_reducible refine Below.setCell ?_ ?_ _) | (with_reducible refine Below.frame ?_ _) | go_size))⟩
  · have t0 : ((k : Int) == 0) = false := by simp [hk0]
    have t1 : 0 < (k : Int) := by omega
    have HK0 := Lib.hid (show 0 < k by omega)
    clear hk0
    go_enter Try.func49, Try.ntmps49
    go_wp2_with fail
    refine (gB1.out _).mono ?_
    rintro e wq ⟨rfl, rfl⟩
    cases B1
    · go_wp2_with fail
      go_ret
      exact ⟨ret_bool (by rw [← HR.out]; simp [show ¬ k = 0 by have := HK0.out; omega, HK0.out]), by (repeat' (first | (with_reducible exact Below.refl _ _) | (with_reducible assumption) | (with_reducible refine Below.alloc ?_ ?_ _) | (with_reducible refine Go.Proofs.Ytjkmcncgndkdoaa.L.below_drewN ?_ _) | (with_reducible refine Below.drew ?_) | (with_reducible refine Below.setCell ?_ ?_ _) | (with_reducible refine Below.frame ?_ _) | go_size))⟩
    go_wp2_with fail
    refine (gB2.out _).mono ?_
    rintro e wq ⟨rfl, rfl⟩
    cases B2
    · go_wp2_with fail
      go_ret
      exact ⟨ret_bool (by rw [← HR.out]; simp), by (repeat' (first | (with_reducible exact Below.refl _ _) | (with_reducible assumption) | (with_reducible refine Below.alloc ?_ ?_ _) | (with_reducible refine Go.Proofs.Ytjkmcncgndkdoaa.L.below_drewN ?_ _) | (with_reducible refine Below.drew ?_) | (with_reducible refine Below.setCell ?_ ?_ _) | (with_reducible refine Below.frame ?_ _) | go_size))⟩
    go_wp2_with fail
    refine (gL.out _ (by (repeat' (first | (with_reducible exact Below.refl _ _) | (with_reducible assumption) | (with_reducible refine Below.alloc ?_ ?_ _) | (with_reducible refine Go.Proofs.Ytjkmcncgndkdoaa.L.below_drewN ?_ _) | (with_reducible refine Below.drew ?_) | (with_reducible refine Below.setCell ?_ ?_ _) | (with_reducible refine Below.frame ?_ _) | go_size)))).mono ?_
    rintro e w5 ⟨rfl, hb6⟩
    have hbw5 := keeps_trans (a := w1) (by (repeat' (first | (with_reducible exact Below.refl _ _) | (with_reducible assumption) | (with_reducible refine Below.alloc ?_ ?_ _) | (with_reducible refine Go.Proofs.Ytjkmcncgndkdoaa.L.below_drewN ?_ _) | (with_reducible refine Below.drew ?_) | (with_reducible refine Below.setCell ?_ ?_ _) | (with_reducible refine Below.frame ?_ _) | go_size))) hb6
    obtain ⟨m0, m1, m2, m3, m4, m5, m6, m7, m8, m9, m10⟩ := nbox_on HBX.out hb6 (by simp)
    have hz6 : w1.heap.size + 1 < w5.heap.size := by have := hb6.size; simp at this; omega
    cases LF
    · go_wp2_with fail
      go_ret
      exact ⟨ret_bool (by rw [hz.out, ← HR.out]; simp [show ¬ k = 0 by have := HK0.out; omega]), hbw5⟩
    go_wp2_with fail
    refine (gV1.out _).mono ?_
    rintro e v0 ⟨rfl, hq⟩
    have hs0 := keeps_trans hb6 hq
    have ht0 := keeps_trans hbw5 hq
    clear hq m0 m1 m2 m3 m4 m5 m6 m7 m8 m9 m10
    obtain ⟨m0, m1, m2, m3, m4, m5, m6, m7, m8, m9, m10⟩ := nbox_on HBX.out hs0 (by simp)
    cases V1
    · go_wp2_with fail
      go_ret
      exact ⟨ret_bool (by rw [← HR.out]; simp), ht0⟩
    go_wp2_with fail
    refine (gV2.out _).mono ?_
    rintro e v1 ⟨rfl, hq⟩
    have hs1 := keeps_trans hs0 hq
    have ht1 := keeps_trans ht0 hq
    clear hq m0 m1 m2 m3 m4 m5 m6 m7 m8 m9 m10
    obtain ⟨m0, m1, m2, m3, m4, m5, m6, m7, m8, m9, m10⟩ := nbox_on HBX.out hs1 (by simp)
    cases V2
    · go_wp2_with fail
      go_ret
      exact ⟨ret_bool (by rw [← HR.out]; simp), ht1⟩
    go_wp2_with fail
    refine (gV3.out _).mono ?_
    rintro e v2 ⟨rfl, hq⟩
    have hs2 := keeps_trans hs1 hq
    have ht2 := keeps_trans ht1 hq
    clear hq m0 m1 m2 m3 m4 m5 m6 m7 m8 m9 m10
    obtain ⟨m0, m1, m2, m3, m4, m5, m6, m7, m8, m9, m10⟩ := nbox_on HBX.out hs2 (by simp)
    cases V3
    · go_wp2_with fail
      go_ret
      exact ⟨ret_bool (by rw [← HR.out]; simp), ht2⟩
    go_wp2_with fail
    refine (gF.out _).mono ?_
    rintro e v3 ⟨rfl, hq⟩
    have hs3 := keeps_trans hs2 hq
    have ht3 := keeps_trans ht2 hq
    clear hq m0 m1 m2 m3 m4 m5 m6 m7 m8 m9 m10
    go_wp2_with fail
    go_ret
    exact ⟨ret_bool (by rw [← HR.out]; simp [show ¬ k = 0 by have := HK0.out; omega]), ht3⟩
end Go.Proofs.Ytjkmcncgndkdoaa.CfgW
