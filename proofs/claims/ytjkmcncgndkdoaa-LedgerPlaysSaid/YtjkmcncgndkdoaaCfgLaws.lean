/-
  Chapter 9's statements, over any world.
-/
import Derived.Test.YtjkmcncgndkdoaaCfgLeaves
set_option linter.unusedVariables false
set_option linter.unusedSimpArgs false
namespace Go.Proofs.Ytjkmcncgndkdoaa.CfgW
open Go.RowKit Go.Proofs.Ytjkmcncgndkdoaa.L

theorem CBox.all {w1 : World} {b : Nat} {v1 v2 : Value} {h a : Int} (x : CBox w1 b v1 v2 h a) : (∀ W, Onward w1 W → W.cell? ⟨b, 0, none⟩ = some v1) ∧ (∀ W, Onward w1 W → W.cell? ⟨b, 1, none⟩ = some v2) ∧ (∀ W, Onward w1 W → W.cell? ⟨b, 2, none⟩ = some (.int .i64 h)) ∧ (∀ W, Onward w1 W → W.cell? ⟨b, 3, none⟩ = some (.int .i64 a)) :=
  ⟨fun W hW => (x.on hW).2.1, fun W hW => (x.on hW).2.2.1, fun W hW => (x.on hW).2.2.2.1, fun W hW => (x.on hW).2.2.2.2⟩

set_option maxRecDepth 100000 in
set_option maxHeartbeats 4000000 in
theorem checks_law {w : World} {v : Value} {c : Cfg.C} (hc : CfgAt w v c) : Calls Try.prog 3 #[v] w fun e w' => e = .returned (.bool true) ∧ Below w.heap.size w w' := by
  have hf := Lib.hid (few_any hc)
  have h1 := Lib.hid (check_any hc)
  have h2 := Lib.hid (rcheck_any hc)
  obtain ⟨v1, v2, rfl, ⟨A, ca, rfl, -, -⟩, ⟨B, cb, rfl, -, -⟩⟩ := hc
  generalize (decide (c.nodes.length ≤ 300) && decide (c.hosts.length ≤ 2000)) = q at *
  generalize Cfg.check c = R at *
  generalize c.nodes.length = N at *
  generalize c.hosts.length = M at *
  generalize c.half = x at *
  generalize c.age = y at *
  have hbx := CBox.new w (.slice A N ca) (.slice B M cb) x y
  have HX := Lib.hid hbx
  clear hbx
  go_enter Try.func3, Try.ntmps3
  go_wp2_with fail
  refine (hf.out _ (by (repeat' (first | (with_reducible exact Below.refl _ _) | (with_reducible assumption) | (with_reducible refine Below.alloc ?_ ?_ _) | (with_reducible refine Go.Proofs.Ytjkmcncgndkdoaa.L.below_drewN ?_ _) | (with_reducible refine Below.drew ?_) | (with_reducible refine Below.setCell ?_ ?_ _) | (with_reducible refine Below.frame ?_ _) | go_size)))).mono ?_
  rintro e w1 ⟨rfl, b1⟩
  have k1 := keeps_trans (a := w) (by (repeat' (first | (with_reducible exact Below.refl _ _) | (with_reducible assumption) | (with_reducible refine Below.alloc ?_ ?_ _) | (with_reducible refine Go.Proofs.Ytjkmcncgndkdoaa.L.below_drewN ?_ _) | (with_reducible refine Below.drew ?_) | (with_reducible refine Below.setCell ?_ ?_ _) | (with_reducible refine Below.frame ?_ _) | go_size))) b1
  have x1 := HX.out.on b1
  clear b1
  cases q
  · go_wp2_with fail
    refine (awake09 _).mono ?_
    rintro e w2 ⟨rfl, b2⟩
    go_wp2_with fail
    go_ret
    exact ⟨rfl, keeps_trans k1 b2⟩
  have g1 := h1.out.up k1
  have g2 := h2.out.up k1
  have g0 := awake09
  obtain ⟨z0, z1, z2, z3⟩ := x1.all
  clear x1
  go_wp2_with fail
  refine region_keep (by kernel_rfl) (by kernel_rfl) ?_
  repeat (apply Go.Proofs.Ytjkmcncgndkdoaa.L.wpKeep_yes; (focus rfl); (focus (intro W hW; go_simp; first | done | exact ⟨rfl, hW⟩ | rfl)); (focus (go_simp; first | done | rfl)))
  (apply Go.Proofs.Ytjkmcncgndkdoaa.L.wpKeep_yes; (focus rfl); (focus (intro W hW; go_simp; first | exact g1 W hW | exact ⟨hW, g1 W hW⟩)); (focus (go_simp; first | done | rfl)))
  repeat (apply Go.Proofs.Ytjkmcncgndkdoaa.L.wpKeep_yes; (focus rfl); (focus (intro W hW; go_simp; first | done | exact ⟨rfl, hW⟩ | rfl)); (focus (go_simp; first | done | rfl)))
  (apply Go.Proofs.Ytjkmcncgndkdoaa.L.wpKeep_yes; (focus rfl); (focus (intro W hW; go_simp; first | exact g2 W hW | exact ⟨hW, g2 W hW⟩)); (focus (go_simp; first | done | rfl)))
  repeat (apply Go.Proofs.Ytjkmcncgndkdoaa.L.wpKeep_yes; (focus rfl); (focus (intro W hW; go_simp; first | done | exact ⟨rfl, hW⟩ | rfl)); (focus (go_simp; first | done | rfl)))
  (apply Go.Proofs.Ytjkmcncgndkdoaa.L.wpKeep_yes; (focus rfl); (focus (intro W hW; go_simp; first | exact Go.Proofs.Ytjkmcncgndkdoaa.L.Gives.up g0 hW | exact ⟨hW, Go.Proofs.Ytjkmcncgndkdoaa.L.Gives.up g0 hW⟩)); (focus (go_simp; first | done | rfl)))
  repeat (apply Go.Proofs.Ytjkmcncgndkdoaa.L.wpKeep_yes; (focus rfl); (focus (intro W hW; go_simp; first | done | exact ⟨rfl, hW⟩ | rfl)); (focus (go_simp; first | done | rfl)))
  refine wpKeep_nil ?_
  intro W hW
  go_wp2_with fail
  go_ret
  exact ⟨rfl, keeps_trans k1 hW⟩

set_option maxRecDepth 100000 in
set_option maxHeartbeats 8000000 in
theorem same_law {w : World} {va vb : Value} {a b : Cfg.C} (ha : CfgAt w va a) (hb : CfgAt w vb b) : Calls Try.prog 4 #[va, vb] w fun e w' => e = .returned (.bool true) ∧ Below w.heap.size w w' := by
  have hf1 := Lib.hid (few_any ha)
  have hf2 := Lib.hid (few_any hb)
  have h1 := Lib.hid (same_any ha hb)
  have h2 := Lib.hid (rsame_any ha hb)
  have h3 := Lib.hid ((same_any ha ha).val (by rw [sameC_self]))
  obtain ⟨v1, v2, rfl, ⟨A, ca, rfl, -, -⟩, ⟨B, cb, rfl, -, -⟩⟩ := ha
  obtain ⟨u1, u2, rfl, ⟨C, cc, rfl, -, -⟩, ⟨D, cd, rfl, -, -⟩⟩ := hb
  generalize (decide (a.nodes.length ≤ 300) && decide (a.hosts.length ≤ 2000)) = q1 at *
  generalize (decide (b.nodes.length ≤ 300) && decide (b.hosts.length ≤ 2000)) = q2 at *
  generalize sameC a b = R at *
  generalize a.nodes.length = n1 at *
  generalize a.hosts.length = n3 at *
  generalize a.half = x1 at *
  generalize a.age = x2 at *
  generalize b.nodes.length = n2 at *
  generalize b.hosts.length = n4 at *
  generalize b.half = y1 at *
  generalize b.age = y2 at *
  have b0 := CBox.new w (.slice A n1 ca) (.slice B n3 cb) x1 x2
  have b1 := CBox.new (w.alloc (.cells #[.slice A n1 ca, .slice B n3 cb, .int .i64 x1, .int .i64 x2] 25)) (.slice C n2 cc) (.slice D n4 cd) y1 y2
  replace b0 := b0.on (w' := (w.alloc (.cells #[.slice A n1 ca, .slice B n3 cb, .int .i64 x1, .int .i64 x2] 25)).alloc (.cells #[.slice C n2 cc, .slice D n4 cd, .int .i64 y1, .int .i64 y2] 25)) ((Below.refl _ _).alloc (Nat.le_refl _) _)
  rw [World.size_alloc] at b1
  have HB0 := Lib.hid b0
  have HB1 := Lib.hid b1
  clear b0 b1
  go_enter Try.func4, Try.ntmps4
  go_wp2_with fail
  refine (hf1.out _ (by (repeat' (first | (with_reducible exact Below.refl _ _) | (with_reducible assumption) | (with_reducible refine Below.alloc ?_ ?_ _) | (with_reducible refine Go.Proofs.Ytjkmcncgndkdoaa.L.below_drewN ?_ _) | (with_reducible refine Below.drew ?_) | (with_reducible refine Below.setCell ?_ ?_ _) | (with_reducible refine Below.frame ?_ _) | go_size)))).mono ?_
  rintro e w1 ⟨rfl, d1⟩
  have k1 := keeps_trans (a := w) (by (repeat' (first | (with_reducible exact Below.refl _ _) | (with_reducible assumption) | (with_reducible refine Below.alloc ?_ ?_ _) | (with_reducible refine Go.Proofs.Ytjkmcncgndkdoaa.L.below_drewN ?_ _) | (with_reducible refine Below.drew ?_) | (with_reducible refine Below.setCell ?_ ?_ _) | (with_reducible refine Below.frame ?_ _) | go_size))) d1
  have e1 := HB0.out.on d1
  have e2 := HB1.out.on d1
  clear d1
  cases q1
  · go_wp2_with fail
    refine (awake09 _).mono ?_
    rintro e w2 ⟨rfl, b2⟩
    go_wp2_with fail
    go_ret
    exact ⟨rfl, keeps_trans k1 b2⟩
  have E1 := Lib.hid e1
  have E2 := Lib.hid e2
  obtain ⟨l0, z0, z1, z2, z3⟩ := e1
  obtain ⟨l1, r0, r1, r2, r3⟩ := e2
  go_wp2_with fail
  refine (hf2.out _ k1).mono ?_
  rintro e w2 ⟨rfl, d2⟩
  have k2 := keeps_trans k1 d2
  have e1 := E1.out.on d2
  have e2 := E2.out.on d2
  clear d2 l0 z0 z1 z2 z3 l1 r0 r1 r2 r3
  cases q2
  · go_wp2_with fail
    refine (awake09 _).mono ?_
    rintro e w3 ⟨rfl, b3⟩
    go_wp2_with fail
    go_ret
    exact ⟨rfl, keeps_trans k2 b3⟩
  have g1 := h1.out.up k2
  have g2 := h2.out.up k2
  have g3 := h3.out.up k2
  have g0 := awake09
  obtain ⟨z0, z1, z2, z3⟩ := e1.all
  obtain ⟨r0, r1, r2, r3⟩ := e2.all
  clear e1 e2
  go_wp2_with fail
  refine region_keep (by kernel_rfl) (by kernel_rfl) ?_
  repeat (apply Go.Proofs.Ytjkmcncgndkdoaa.L.wpKeep_yes; (focus rfl); (focus (intro W hW; go_simp; first | done | exact ⟨rfl, hW⟩ | rfl)); (focus (go_simp; first | done | rfl)))
  (apply Go.Proofs.Ytjkmcncgndkdoaa.L.wpKeep_yes; (focus rfl); (focus (intro W hW; go_simp; first | exact g1 W hW | exact ⟨hW, g1 W hW⟩)); (focus (go_simp; first | done | rfl)))
  repeat (apply Go.Proofs.Ytjkmcncgndkdoaa.L.wpKeep_yes; (focus rfl); (focus (intro W hW; go_simp; first | done | exact ⟨rfl, hW⟩ | rfl)); (focus (go_simp; first | done | rfl)))
  (apply Go.Proofs.Ytjkmcncgndkdoaa.L.wpKeep_yes; (focus rfl); (focus (intro W hW; go_simp; first | exact g2 W hW | exact ⟨hW, g2 W hW⟩)); (focus (go_simp; first | done | rfl)))
  repeat (apply Go.Proofs.Ytjkmcncgndkdoaa.L.wpKeep_yes; (focus rfl); (focus (intro W hW; go_simp; first | done | exact ⟨rfl, hW⟩ | rfl)); (focus (go_simp; first | done | rfl)))
  (apply Go.Proofs.Ytjkmcncgndkdoaa.L.wpKeep_yes; (focus rfl); (focus (intro W hW; go_simp; first | exact g3 W hW | exact ⟨hW, g3 W hW⟩)); (focus (go_simp; first | done | rfl)))
  repeat (apply Go.Proofs.Ytjkmcncgndkdoaa.L.wpKeep_yes; (focus rfl); (focus (intro W hW; go_simp; first | done | exact ⟨rfl, hW⟩ | rfl)); (focus (go_simp; first | done | rfl)))
  (apply Go.Proofs.Ytjkmcncgndkdoaa.L.wpKeep_yes; (focus rfl); (focus (intro W hW; go_simp; first | exact Go.Proofs.Ytjkmcncgndkdoaa.L.Gives.up g0 hW | exact ⟨hW, Go.Proofs.Ytjkmcncgndkdoaa.L.Gives.up g0 hW⟩)); (focus (go_simp; first | done | rfl)))
  repeat (apply Go.Proofs.Ytjkmcncgndkdoaa.L.wpKeep_yes; (focus rfl); (focus (intro W hW; go_simp; first | done | exact ⟨rfl, hW⟩ | rfl)); (focus (go_simp; first | done | rfl)))
  refine wpKeep_nil ?_
  intro W hW
  go_wp2_with fail
  go_ret
  exact ⟨rfl, keeps_trans k2 hW⟩

set_option maxRecDepth 100000 in
set_option maxHeartbeats 8000000 in
theorem tenants_law {w : World} {v : Value} {c : Cfg.C} (hc : CfgAt w v c) : Calls Try.prog 5 #[v] w fun e w' => e = .returned (.bool true) ∧ Below w.heap.size w w' := by
  have h1 := Lib.hid (check_any hc)
  by_cases hok : Cfg.ok c = true
  rotate_left
  · have hck : Cfg.check c = 2 := by unfold Cfg.check; rw [if_neg hok]
    rw [hck] at h1
    obtain ⟨v1, v2, rfl, ⟨A, ca, rfl, -, -⟩, ⟨B, cb, rfl, -, -⟩⟩ := hc
    clear hok hck
    generalize c.nodes.length = N at *
    generalize c.hosts.length = M at *
    generalize c.half = x at *
    generalize c.age = y at *
    go_enter Try.func5, Try.ntmps5
    go_wp2_with fail
    refine (h1.out _ (by (repeat' (first | (with_reducible exact Below.refl _ _) | (with_reducible assumption) | (with_reducible refine Below.alloc ?_ ?_ _) | (with_reducible refine Go.Proofs.Ytjkmcncgndkdoaa.L.below_drewN ?_ _) | (with_reducible refine Below.drew ?_) | (with_reducible refine Below.setCell ?_ ?_ _) | (with_reducible refine Below.frame ?_ _) | go_size)))).mono ?_
    rintro e w1 ⟨rfl, b1⟩
    have k1 := keeps_trans (a := w) (by (repeat' (first | (with_reducible exact Below.refl _ _) | (with_reducible assumption) | (with_reducible refine Below.alloc ?_ ?_ _) | (with_reducible refine Go.Proofs.Ytjkmcncgndkdoaa.L.below_drewN ?_ _) | (with_reducible refine Below.drew ?_) | (with_reducible refine Below.setCell ?_ ?_ _) | (with_reducible refine Below.frame ?_ _) | go_size))) b1
    clear b1
    go_wp2_with fail
    refine (awake09 _).mono ?_
    rintro e w2 ⟨rfl, b2⟩
    go_wp2_with fail
    go_ret
    exact ⟨rfl, keeps_trans k1 b2⟩
  have hck : Cfg.check c = 0 := by unfold Cfg.check; rw [if_pos hok]
  rw [hck] at h1
  have hsz := (Cfg.ok_sizes hok).1
  have hL := Lib.hid (fun n => leaf_any hc n)
  have hLs := Lib.hid (leaves_any hc (by omega))
  have hpar := Lib.hid (fun i hi h0 => Cfg.parent_of hok (i := i) hi h0)
  have hroot := Lib.hid (Cfg.root_of hok)
  have hpos := Lib.hid (Cfg.leaves_pos hok)
  obtain ⟨v1, v2, rfl, ⟨A, ca, rfl, hr, -⟩, ⟨B, cb, rfl, -, -⟩⟩ := hc
  have HR := Lib.hid hr
  have hgd : Hid (∀ k (h : k < c.nodes.length), c.nodes.getD k default = c.nodes[k]) := Lib.hid (fun k h => by rw [List.getD_eq_getElem?_getD, List.getElem?_eq_getElem h]; rfl)
  have hll := Lib.hid (show (Cfg.leaves c).length ≤ c.nodes.length from leavesTo_le c _)
  obtain ⟨N, hN⟩ : ∃ N, c.nodes.length = N := ⟨_, rfl⟩
  rw [hN] at hsz h1 hL hLs hll ⊢
  have HN := Lib.hid hN
  obtain ⟨hN1, hN12⟩ := hsz
  clear hok hck hr hN
  generalize c.hosts.length = M at *
  generalize c.half = x at *
  generalize c.age = y at *
  have hbx := CBox.new w (.slice A N ca) (.slice B M cb) x y
  have HX := Lib.hid hbx
  clear hbx
  go_enter Try.func5, Try.ntmps5
  go_wp2_with fail
  refine (h1.out _ (by (repeat' (first | (with_reducible exact Below.refl _ _) | (with_reducible assumption) | (with_reducible refine Below.alloc ?_ ?_ _) | (with_reducible refine Go.Proofs.Ytjkmcncgndkdoaa.L.below_drewN ?_ _) | (with_reducible refine Below.drew ?_) | (with_reducible refine Below.setCell ?_ ?_ _) | (with_reducible refine Below.frame ?_ _) | go_size)))).mono ?_
  rintro e w1 ⟨rfl, b1⟩
  have k1 := keeps_trans (a := w) (by (repeat' (first | (with_reducible exact Below.refl _ _) | (with_reducible assumption) | (with_reducible refine Below.alloc ?_ ?_ _) | (with_reducible refine Go.Proofs.Ytjkmcncgndkdoaa.L.below_drewN ?_ _) | (with_reducible refine Below.drew ?_) | (with_reducible refine Below.setCell ?_ ?_ _) | (with_reducible refine Below.frame ?_ _) | go_size))) b1
  have x1 := HX.out.on b1
  clear b1 HX
  go_wp2_with fail
  go_loopw [3] (fun i wr => ∃ k : Nat, i = .int .i64 (k : Int) ∧ 1 ≤ k ∧ k ≤ N ∧ Below w.heap.size w wr ∧ CBox wr w.heap.size (.slice A N ca) (.slice B M cb) x y) (fun i _ => N - (intOf i).toNat)
  case atStart => exact ⟨1, rfl, by omega, by omega, k1, x1⟩
  case round =>
    obtain ⟨k, rfl, hk1, hk, hb, hx⟩ := hrel
    clear k1 x1
    have HX := Lib.hid hx
    obtain ⟨hx0, z0, z1, z2, z3⟩ := hx
    by_cases hkn : k < N
    · have hkx : k < c.nodes.length := by have := HN.out; omega
      obtain ⟨bb, o, hA, hlt, hcell⟩ := row_parent HR.out hkx
      have hp := hpar.out k hkx (by omega)
      rw [hgd.out k hkx] at hp
      have hat := hcell wr hb
      subst hA
      generalize c.nodes[k].parent = p at *
      obtain ⟨hp1, hp2, hp3⟩ := hp
      have gl := Lib.hid (hL.out p)
      rw [hp3] at gl
      have t1 : decide (p < 0) = false := by simp; omega
      have t2 : decide ((k : Int) ≤ p) = false := by simp; omega
      clear hcell hkx hp3
      go_wp2_with fail
      refine (gl.out _ hb).mono ?_
      rintro e w3 ⟨rfl, hb3⟩
      have hb4 := keeps_trans hb hb3
      have hx4 := HX.out.on hb3
      clear hb hb3 z0 z1 z2 z3 gl hat
      go_wp2_with fail
      go_roundw
      case rel => exact ⟨k + 1, by go_num, by omega, by omega, hb4, hx4⟩
      case measure => simp [intOf]; omega
    · have hkN : N ≤ k := by omega
      have hkx : 0 < c.nodes.length := by have := HN.out; omega
      obtain ⟨bb, o, hA, hlt, hcell⟩ := row_parent HR.out hkx
      have hrt := hroot.out
      rw [hgd.out 0 hkx] at hrt
      have hce := fun W hW => hcell W hW
      rw [hrt] at hce
      subst hA
      simp only [Nat.zero_mul, Nat.add_zero] at hce
      have HCE := Lib.hid hce
      clear hkn hcell hrt hkx hce
      go_wp2_with fail
      refine (hLs.out _ hb).mono ?_
      rintro e w3 ⟨l, rfl, hl, hb3⟩
      obtain ⟨LA, lc, rfl, -⟩ := ints_cell hl
      have hb4 := keeps_trans hb hb3
      obtain ⟨hx0', q0, q1, q2, q3⟩ := HX.out.on hb3
      have c0 := HCE.out w3 hb4
      have hlpos := hpos.out
      have hlle := hll.out
      generalize (Cfg.leaves c).length = n at *
      have t1 : decide (0 < (n : Int)) = true := by simp; omega
      clear hb hb3 z0 z1 z2 z3 hl
      go_wp2_with fail
      refine (awake09 _).mono ?_
      rintro e w5 ⟨rfl, b5⟩
      have hbw := keeps_trans hb4 b5
      clear b5 c0 q0 q1 q2 q3 hb4
      go_wp2_with fail
      go_ret
      exact ⟨rfl, hbw⟩
end Go.Proofs.Ytjkmcncgndkdoaa.CfgW
