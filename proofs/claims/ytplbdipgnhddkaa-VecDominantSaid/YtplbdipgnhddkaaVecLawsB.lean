/-
  Chapter 3's statements on shares, on what is taken back, and on the order, over any world.
-/
import Derived.Test.YtplbdipgnhddkaaVecLaws
set_option linter.unusedVariables false
set_option linter.unusedSimpArgs false
namespace Go.Proofs.Ytplbdipgnhddkaa.VecW
open Go.RowKit Go.Proofs.Ytplbdipgnhddkaa.L

set_option maxHeartbeats 1000000 in
theorem dominant_law (a b : Vec.V) (ha : In64 a) (hb : In64 b) : Gives Try.prog 3 #[a.val, b.val] (.bool true) := by
  have g0 := awake03
  have g1 := gdom a b ha hb
  have g2 := grdom a b ha hb
  clear ha hb
  generalize Vec.dom a b = m at g1 g2
  obtain ⟨a0, a1, a2⟩ := a
  obtain ⟨b0, b1, b2⟩ := b
  intro w
  unfold Vec.V.val at *
  go_enter Try.func3, Try.ntmps3
  go_wp2_with fail
  have ba : Box3 ((w.alloc (.cells #[.int .i64 a0, .int .i64 a1, .int .i64 a2] 23)).alloc (.cells #[.int .i64 b0, .int .i64 b1, .int .i64 b2] 23)) w.heap.size a0 a1 a2 := by refine ⟨by simp; omega, ?_, ?_, ?_⟩ <;> simp [go_sem]
  have bb : Box3 ((w.alloc (.cells #[.int .i64 a0, .int .i64 a1, .int .i64 a2] 23)).alloc (.cells #[.int .i64 b0, .int .i64 b1, .int .i64 b2] 23)) (w.heap.size + 1) b0 b1 b2 := by refine ⟨by simp, ?_, ?_, ?_⟩ <;> simp [go_sem]
  refine region_keep (by kernel_rfl) (by kernel_rfl) ?_
  obtain ⟨c0, c1, c2⟩ := ba.all
  obtain ⟨d0, d1, d2⟩ := bb.all
  clear ba bb
  repeat (apply L.wpKeep_yes; (focus rfl); (focus (intro W hW; go_simp; first | done | exact ⟨rfl, hW⟩ | rfl)); (focus (go_simp; first | done | rfl)))
  (apply L.wpKeep_yes; (focus rfl); (focus (intro W hW; go_simp; first | exact L.Gives.up g1 hW | exact ⟨hW, L.Gives.up g1 hW⟩)); (focus (go_simp; first | done | rfl)))
  repeat (apply L.wpKeep_yes; (focus rfl); (focus (intro W hW; go_simp; first | done | exact ⟨rfl, hW⟩ | rfl)); (focus (go_simp; first | done | rfl)))
  (apply L.wpKeep_yes; (focus rfl); (focus (intro W hW; go_simp; first | exact L.Gives.up g2 hW | exact ⟨hW, L.Gives.up g2 hW⟩)); (focus (go_simp; first | done | rfl)))
  repeat (apply L.wpKeep_yes; (focus rfl); (focus (intro W hW; go_simp; first | done | exact ⟨rfl, hW⟩ | rfl)); (focus (go_simp; first | done | rfl)))
  (apply L.wpKeep_yes; (focus rfl); (focus (intro W hW; go_simp; first | exact L.Gives.up g0 hW | exact ⟨hW, L.Gives.up g0 hW⟩)); (focus (go_simp; first | done | rfl)))
  repeat (apply L.wpKeep_yes; (focus rfl); (focus (intro W hW; go_simp; first | done | exact ⟨rfl, hW⟩ | rfl)); (focus (go_simp; first | done | rfl)))
  refine wpKeep_nil ?_
  intro W hW
  go_wp2
  go_returns
  exact ⟨rfl, keeps_trans (by (repeat' (first | (with_reducible exact Below.refl _ _) | (with_reducible assumption) | (with_reducible refine Below.alloc ?_ ?_ _) | (with_reducible refine L.below_drewN ?_ _) | (with_reducible refine Below.drew ?_) | (with_reducible refine Below.setCell ?_ ?_ _) | (with_reducible refine Below.frame ?_ _) | go_size))) hW⟩

set_option maxHeartbeats 2000000 in
theorem back_law (a b : Vec.V) : Gives Try.prog 6 #[a.val, b.val] (.bool true) := by
  have g0 := awake03
  have hback := Vec.back a b
  have va := grvalid a
  have vb := grvalid b
  by_cases ha : Vec.valid a = true
  case neg =>
    rw [Bool.eq_false_iff.2 ha] at va
    clear hback vb ha
    obtain ⟨a0, a1, a2⟩ := a
    obtain ⟨b0, b1, b2⟩ := b
    intro w
    unfold Vec.V.val at *
    go_enter Try.func6, Try.ntmps6
    go_wp2_with fail
    refine (va _).mono ?_
    rintro e w1 ⟨rfl, hb1⟩
    have hbw := keeps_trans (a := w) (by (repeat' (first | (with_reducible exact Below.refl _ _) | (with_reducible assumption) | (with_reducible refine Below.alloc ?_ ?_ _) | (with_reducible refine L.below_drewN ?_ _) | (with_reducible refine Below.drew ?_) | (with_reducible refine Below.setCell ?_ ?_ _) | (with_reducible refine Below.frame ?_ _) | go_size))) hb1
    go_wp2_with fail
    refine (g0 _).mono ?_
    rintro e w2 ⟨rfl, hb2⟩
    go_wp2
    go_returns
    exact ⟨rfl, keeps_trans hbw hb2⟩
  by_cases hb : Vec.valid b = true
  case neg =>
    rw [Bool.eq_false_iff.2 hb] at vb
    rw [ha] at va
    clear hback ha hb
    obtain ⟨a0, a1, a2⟩ := a
    obtain ⟨b0, b1, b2⟩ := b
    intro w
    unfold Vec.V.val at *
    go_enter Try.func6, Try.ntmps6
    go_wp2_with fail
    refine (va _).mono ?_
    rintro e w1 ⟨rfl, hb1⟩
    have hbw := keeps_trans (a := w) (by (repeat' (first | (with_reducible exact Below.refl _ _) | (with_reducible assumption) | (with_reducible refine Below.alloc ?_ ?_ _) | (with_reducible refine L.below_drewN ?_ _) | (with_reducible refine Below.drew ?_) | (with_reducible refine Below.setCell ?_ ?_ _) | (with_reducible refine Below.frame ?_ _) | go_size))) hb1
    have bb : Box3 w1 (w.heap.size + 1) b0 b1 b2 := Box3.keep (by refine ⟨by simp, ?_, ?_, ?_⟩ <;> simp [go_sem]) hb1
    clear hb1
    obtain ⟨zb, d0, d1, d2⟩ := bb
    go_wp2_with fail
    refine (vb _).mono ?_
    rintro e w2 ⟨rfl, hb2⟩
    replace hbw := keeps_trans hbw hb2
    clear hb2 d0 d1 d2 zb
    go_wp2_with fail
    refine (g0 _).mono ?_
    rintro e w3 ⟨rfl, hb3⟩
    go_wp2
    go_returns
    exact ⟨rfl, keeps_trans hbw hb3⟩
  obtain ⟨k1, k2, k3, k4, k5⟩ := hback ha hb
  rw [ha] at va
  rw [hb] at vb
  have g1 := gadd a b
  have g2 := gsub (Vec.add a b) b
  have g3 := gtimes a 2
  have g4 := gadd a a
  have g5 := gfits a (Vec.add a b)
  have g6 := gleast a b
  have g7 := gfits (Vec.least a b) a
  have g8 := gfits (Vec.least a b) b
  rw [k1] at g2
  rw [k2] at g3
  rw [k3] at g5
  rw [k4] at g7
  rw [k5] at g8
  clear k1 k2 k3 k4 k5 hback ha hb
  generalize Vec.add a b = c at g1 g2 g5
  generalize Vec.add a a = d at g3 g4
  generalize Vec.least a b = l at g6 g7 g8
  obtain ⟨a0, a1, a2⟩ := a
  obtain ⟨b0, b1, b2⟩ := b
  obtain ⟨c0, c1, c2⟩ := c
  obtain ⟨d0, d1, d2⟩ := d
  obtain ⟨l0, l1, l2⟩ := l
  intro w
  unfold Vec.V.val at *
  go_enter Try.func6, Try.ntmps6
  go_wp2_with fail
  refine (va _).mono ?_
  rintro e w1 ⟨rfl, hb1⟩
  have hbw := keeps_trans (a := w) (by (repeat' (first | (with_reducible exact Below.refl _ _) | (with_reducible assumption) | (with_reducible refine Below.alloc ?_ ?_ _) | (with_reducible refine L.below_drewN ?_ _) | (with_reducible refine Below.drew ?_) | (with_reducible refine Below.setCell ?_ ?_ _) | (with_reducible refine Below.frame ?_ _) | go_size))) hb1
  have ba : Box3 w1 w.heap.size a0 a1 a2 := Box3.keep (by refine ⟨by simp; omega, ?_, ?_, ?_⟩ <;> simp [go_sem]) hb1
  have bb : Box3 w1 (w.heap.size + 1) b0 b1 b2 := Box3.keep (by refine ⟨by simp, ?_, ?_, ?_⟩ <;> simp [go_sem]) hb1
  clear hb1
  obtain ⟨zb, x0, x1, x2⟩ := id bb
  go_wp2_with fail
  refine (vb _).mono ?_
  rintro e w2 ⟨rfl, hb2⟩
  replace hbw := keeps_trans hbw hb2
  replace ba := ba.keep hb2
  replace bb := bb.keep hb2
  clear hb2 zb x0 x1 x2
  obtain ⟨zb, x0, x1, x2⟩ := id bb
  obtain ⟨za, y0, y1, y2⟩ := id ba
  go_wp2_with fail
  refine (g1 _).mono ?_
  rintro e w3 ⟨rfl, hb3⟩
  replace hbw := keeps_trans hbw hb3
  replace ba := ba.keep hb3
  replace bb := bb.keep hb3
  clear hb3 zb x0 x1 x2 za y0 y1 y2
  go_wp2_with fail
  have ka : Box3 (w3.alloc (.cells #[.int .i64 c0, .int .i64 c1, .int .i64 c2] 23)) w.heap.size a0 a1 a2 := ba.keep (by (repeat' (first | (with_reducible exact Below.refl _ _) | (with_reducible assumption) | (with_reducible refine Below.alloc ?_ ?_ _) | (with_reducible refine L.below_drewN ?_ _) | (with_reducible refine Below.drew ?_) | (with_reducible refine Below.setCell ?_ ?_ _) | (with_reducible refine Below.frame ?_ _) | go_size)))
  have kb : Box3 (w3.alloc (.cells #[.int .i64 c0, .int .i64 c1, .int .i64 c2] 23)) (w.heap.size + 1) b0 b1 b2 := bb.keep (by (repeat' (first | (with_reducible exact Below.refl _ _) | (with_reducible assumption) | (with_reducible refine Below.alloc ?_ ?_ _) | (with_reducible refine L.below_drewN ?_ _) | (with_reducible refine Below.drew ?_) | (with_reducible refine Below.setCell ?_ ?_ _) | (with_reducible refine Below.frame ?_ _) | go_size)))
  have kc : Box3 (w3.alloc (.cells #[.int .i64 c0, .int .i64 c1, .int .i64 c2] 23)) w3.heap.size c0 c1 c2 := by refine ⟨by simp, ?_, ?_, ?_⟩ <;> simp [go_sem]
  refine region_keep (by kernel_rfl) (by kernel_rfl) ?_
  obtain ⟨x0, x1, x2⟩ := ka.all
  obtain ⟨y0, y1, y2⟩ := kb.all
  obtain ⟨z0, z1, z2⟩ := kc.all
  clear ka kb kc ba bb
  repeat (apply L.wpKeep_yes; (focus rfl); (focus (intro W hW; go_simp; first | done | exact ⟨rfl, hW⟩ | rfl)); (focus (go_simp; first | done | rfl)))
  (apply L.wpKeep_yes; (focus rfl); (focus (intro W hW; go_simp; first | exact L.Gives.up g2 hW | exact ⟨hW, L.Gives.up g2 hW⟩)); (focus (go_simp; first | done | rfl)))
  repeat (apply L.wpKeep_yes; (focus rfl); (focus (intro W hW; go_simp; first | done | exact ⟨rfl, hW⟩ | rfl)); (focus (go_simp; first | done | rfl)))
  (apply L.wpKeep_yes; (focus rfl); (focus (intro W hW; go_simp; first | exact L.Gives.up g3 hW | exact ⟨hW, L.Gives.up g3 hW⟩)); (focus (go_simp; first | done | rfl)))
  repeat (apply L.wpKeep_yes; (focus rfl); (focus (intro W hW; go_simp; first | done | exact ⟨rfl, hW⟩ | rfl)); (focus (go_simp; first | done | rfl)))
  (apply L.wpKeep_yes; (focus rfl); (focus (intro W hW; go_simp; first | exact L.Gives.up g4 hW | exact ⟨hW, L.Gives.up g4 hW⟩)); (focus (go_simp; first | done | rfl)))
  repeat (apply L.wpKeep_yes; (focus rfl); (focus (intro W hW; go_simp; first | done | exact ⟨rfl, hW⟩ | rfl)); (focus (go_simp; first | done | rfl)))
  (apply L.wpKeep_yes; (focus rfl); (focus (intro W hW; go_simp; first | exact L.Gives.up g5 hW | exact ⟨hW, L.Gives.up g5 hW⟩)); (focus (go_simp; first | done | rfl)))
  repeat (apply L.wpKeep_yes; (focus rfl); (focus (intro W hW; go_simp; first | done | exact ⟨rfl, hW⟩ | rfl)); (focus (go_simp; first | done | rfl)))
  (apply L.wpKeep_yes; (focus rfl); (focus (intro W hW; go_simp; first | exact L.Gives.up g6 hW | exact ⟨hW, L.Gives.up g6 hW⟩)); (focus (go_simp; first | done | rfl)))
  repeat (apply L.wpKeep_yes; (focus rfl); (focus (intro W hW; go_simp; first | done | exact ⟨rfl, hW⟩ | rfl)); (focus (go_simp; first | done | rfl)))
  (apply L.wpKeep_yes; (focus rfl); (focus (intro W hW; go_simp; first | exact L.Gives.up g7 hW | exact ⟨hW, L.Gives.up g7 hW⟩)); (focus (go_simp; first | done | rfl)))
  repeat (apply L.wpKeep_yes; (focus rfl); (focus (intro W hW; go_simp; first | done | exact ⟨rfl, hW⟩ | rfl)); (focus (go_simp; first | done | rfl)))
  (apply L.wpKeep_yes; (focus rfl); (focus (intro W hW; go_simp; first | exact L.Gives.up g6 hW | exact ⟨hW, L.Gives.up g6 hW⟩)); (focus (go_simp; first | done | rfl)))
  repeat (apply L.wpKeep_yes; (focus rfl); (focus (intro W hW; go_simp; first | done | exact ⟨rfl, hW⟩ | rfl)); (focus (go_simp; first | done | rfl)))
  (apply L.wpKeep_yes; (focus rfl); (focus (intro W hW; go_simp; first | exact L.Gives.up g8 hW | exact ⟨hW, L.Gives.up g8 hW⟩)); (focus (go_simp; first | done | rfl)))
  repeat (apply L.wpKeep_yes; (focus rfl); (focus (intro W hW; go_simp; first | done | exact ⟨rfl, hW⟩ | rfl)); (focus (go_simp; first | done | rfl)))
  (apply L.wpKeep_yes; (focus rfl); (focus (intro W hW; go_simp; first | exact L.Gives.up g0 hW | exact ⟨hW, L.Gives.up g0 hW⟩)); (focus (go_simp; first | done | rfl)))
  repeat (apply L.wpKeep_yes; (focus rfl); (focus (intro W hW; go_simp; first | done | exact ⟨rfl, hW⟩ | rfl)); (focus (go_simp; first | done | rfl)))
  refine wpKeep_nil ?_
  intro W hW
  go_wp2
  go_returns
  exact ⟨rfl, keeps_trans (keeps_trans hbw (by (repeat' (first | (with_reducible exact Below.refl _ _) | (with_reducible assumption) | (with_reducible refine Below.alloc ?_ ?_ _) | (with_reducible refine L.below_drewN ?_ _) | (with_reducible refine Below.drew ?_) | (with_reducible refine Below.setCell ?_ ?_ _) | (with_reducible refine Below.frame ?_ _) | go_size)))) hW⟩

theorem in64 {x y z : Int} (hx : (Lit.int .i64 x).wf = true) (hy : (Lit.int .i64 y).wf = true) (hz : (Lit.int .i64 z).wf = true) : In64 ⟨x, y, z⟩ := ⟨⟨bounds_i64 hx, bounds_i64 hy⟩, bounds_i64 hz⟩

end Go.Proofs.Ytplbdipgnhddkaa.VecW
