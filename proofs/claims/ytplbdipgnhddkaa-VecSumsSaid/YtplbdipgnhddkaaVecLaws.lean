/-
  Chapter 3's statements, over any world.
-/
import Derived.Test.YtplbdipgnhddkaaVecEq
set_option linter.unusedVariables false
set_option linter.unusedSimpArgs false
namespace Go.Proofs.Ytplbdipgnhddkaa.VecW
open Go.RowKit Go.Proofs.Ytplbdipgnhddkaa.L

theorem Box3.all {wb : World} {b : Nat} {x y z : Int} (h : Box3 wb b x y z) : (∀ W, Onward wb W → W.cell? ⟨b, 0, none⟩ = some (.int .i64 x)) ∧ (∀ W, Onward wb W → W.cell? ⟨b, 1, none⟩ = some (.int .i64 y)) ∧ (∀ W, Onward wb W → W.cell? ⟨b, 2, none⟩ = some (.int .i64 z)) :=
  ⟨fun W k => k.cell h.1 h.2.1, fun W k => k.cell h.1 h.2.2.1, fun W k => k.cell h.1 h.2.2.2⟩

theorem e1 : Gives Try.prog 18 #[.agg #[.int .i64 2, .int .i64 0, .int .i64 1], .agg #[.int .i64 4, .int .i64 0, .int .i64 8]] (.int .u64 2147483648) :=
  (gdom ⟨2, 0, 1⟩ ⟨4, 0, 8⟩ (by unfold In64; decide) (by unfold In64; decide)).val (ret_val (by decide +kernel))
theorem e2 : Gives Try.prog 18 #[.agg #[.int .i64 0, .int .i64 1, .int .i64 0], .agg #[.int .i64 4, .int .i64 0, .int .i64 8]] (.int .u64 18446744073709551615) :=
  (gdom ⟨0, 1, 0⟩ ⟨4, 0, 8⟩ (by unfold In64; decide) (by unfold In64; decide)).val (ret_val (by decide +kernel))
theorem e3 : Gives Try.prog 23 #[.agg #[.int .i64 1, .int .i64 2, .int .i64 3], .agg #[.int .i64 1, .int .i64 1, .int .i64 1]] (.agg #[.int .i64 2, .int .i64 3, .int .i64 4]) :=
  (gadd ⟨1, 2, 3⟩ ⟨1, 1, 1⟩).val (by kernel_rfl)
theorem e4 : Gives Try.prog 21 #[.agg #[.int .i64 1, .int .i64 1, .int .i64 1], .agg #[.int .i64 1, .int .i64 1, .int .i64 1]] (.bool true) :=
  (gfits ⟨1, 1, 1⟩ ⟨1, 1, 1⟩).val (by kernel_rfl)
theorem e5 : Gives Try.prog 27 #[.agg #[.int .i64 1, .int .i64 1, .int .i64 1], .agg #[.int .i64 1, .int .i64 1, .int .i64 1]] (.bool false) :=
  (gover ⟨1, 1, 1⟩ ⟨1, 1, 1⟩).val (by kernel_rfl)

set_option maxHeartbeats 400000 in
theorem awake03 : Gives Try.prog 20 #[] (.bool true) := by
  intro w
  go_enter Try.func20, Try.ntmps20
  go_wp2_with fail
  refine (e1 _).mono ?_
  rintro e w1 ⟨rfl, hb1⟩
  go_wp2_with fail
  refine (e2 _).mono ?_
  rintro e w2 ⟨rfl, hb2⟩
  go_wp2_with fail
  refine (e3 _).mono ?_
  rintro e w3 ⟨rfl, hb3⟩
  go_wp2_with fail
  refine (e4 _).mono ?_
  rintro e w4 ⟨rfl, hb4⟩
  go_wp2_with fail
  refine (e5 _).mono ?_
  rintro e w5 ⟨rfl, hb5⟩
  go_wp2
  go_returns
  exact ⟨rfl, keeps_trans (keeps_trans (keeps_trans (keeps_trans hb1 hb2) hb3) hb4) hb5⟩

set_option maxHeartbeats 1000000 in
theorem times_law (a : Vec.V) (n : Int) : Gives Try.prog 10 #[a.val, .int .i64 n] (.bool true) := by
  have g0 := awake03
  have g1 := gtimes a n
  have g2 := grtimes a n
  have g3 := gvalid a
  have g4 := grvalid a
  obtain ⟨a0, a1, a2⟩ := a
  generalize Vec.times ⟨a0, a1, a2⟩ n = t at g1 g2
  obtain ⟨t0, t1, t2⟩ := t
  generalize Vec.valid ⟨a0, a1, a2⟩ = ok at g3 g4
  intro w
  unfold Vec.V.val at *
  go_enter Try.func10, Try.ntmps10
  go_wp2_with fail
  refine region_keep (by kernel_rfl) (by kernel_rfl) ?_
  obtain ⟨c0, c1, c2⟩ := Box3.all (wb := w.alloc (.cells #[.int .i64 a0, .int .i64 a1, .int .i64 a2] 23)) (b := w.heap.size) (x := a0) (y := a1) (z := a2) (by refine ⟨by simp, ?_, ?_, ?_⟩ <;> simp [go_sem])
  repeat (apply L.wpKeep_yes; (focus rfl); (focus (intro W hW; go_simp; first | done | exact ⟨rfl, hW⟩ | rfl)); (focus (go_simp; first | done | rfl)))
  (apply L.wpKeep_yes; (focus rfl); (focus (intro W hW; go_simp; first | exact L.Gives.up g1 hW | exact ⟨hW, L.Gives.up g1 hW⟩)); (focus (go_simp; first | done | rfl)))
  repeat (apply L.wpKeep_yes; (focus rfl); (focus (intro W hW; go_simp; first | done | exact ⟨rfl, hW⟩ | rfl)); (focus (go_simp; first | done | rfl)))
  (apply L.wpKeep_yes; (focus rfl); (focus (intro W hW; go_simp; first | exact L.Gives.up g2 hW | exact ⟨hW, L.Gives.up g2 hW⟩)); (focus (go_simp; first | done | rfl)))
  repeat (apply L.wpKeep_yes; (focus rfl); (focus (intro W hW; go_simp; first | done | exact ⟨rfl, hW⟩ | rfl)); (focus (go_simp; first | done | rfl)))
  (apply L.wpKeep_yes; (focus rfl); (focus (intro W hW; go_simp; first | exact L.Gives.up g3 hW | exact ⟨hW, L.Gives.up g3 hW⟩)); (focus (go_simp; first | done | rfl)))
  repeat (apply L.wpKeep_yes; (focus rfl); (focus (intro W hW; go_simp; first | done | exact ⟨rfl, hW⟩ | rfl)); (focus (go_simp; first | done | rfl)))
  (apply L.wpKeep_yes; (focus rfl); (focus (intro W hW; go_simp; first | exact L.Gives.up g4 hW | exact ⟨hW, L.Gives.up g4 hW⟩)); (focus (go_simp; first | done | rfl)))
  repeat (apply L.wpKeep_yes; (focus rfl); (focus (intro W hW; go_simp; first | done | exact ⟨rfl, hW⟩ | rfl)); (focus (go_simp; first | done | rfl)))
  (apply L.wpKeep_yes; (focus rfl); (focus (intro W hW; go_simp; first | exact L.Gives.up g0 hW | exact ⟨hW, L.Gives.up g0 hW⟩)); (focus (go_simp; first | done | rfl)))
  repeat (apply L.wpKeep_yes; (focus rfl); (focus (intro W hW; go_simp; first | done | exact ⟨rfl, hW⟩ | rfl)); (focus (go_simp; first | done | rfl)))
  refine wpKeep_nil ?_
  intro W hW
  go_wp2
  go_returns
  exact ⟨rfl, keeps_trans (by (repeat' (first | (with_reducible exact Below.refl _ _) | (with_reducible assumption) | (with_reducible refine Below.alloc ?_ ?_ _) | (with_reducible refine L.below_drewN ?_ _) | (with_reducible refine Below.drew ?_) | (with_reducible refine Below.setCell ?_ ?_ _) | (with_reducible refine Below.frame ?_ _) | go_size))) hW⟩

set_option maxHeartbeats 2000000 in
theorem sums_law (a b : Vec.V) : Gives Try.prog 5 #[a.val, b.val] (.bool true) := by
  have g0 := awake03
  have g1 := gadd a b
  have g2 := gradd a b
  have g3 := gsub a b
  have g4 := grsub a b
  have g5 := gfits a b
  have g6 := grfits a b
  have g7 := gover a b
  have g8 := gleast a b
  have g9 := grleast a b
  obtain ⟨a0, a1, a2⟩ := a
  obtain ⟨b0, b1, b2⟩ := b
  generalize Vec.add ⟨a0, a1, a2⟩ ⟨b0, b1, b2⟩ = t at g1 g2
  obtain ⟨t0, t1, t2⟩ := t
  generalize Vec.sub ⟨a0, a1, a2⟩ ⟨b0, b1, b2⟩ = s at g3 g4
  obtain ⟨s0, s1, s2⟩ := s
  generalize Vec.least ⟨a0, a1, a2⟩ ⟨b0, b1, b2⟩ = l at g8 g9
  obtain ⟨l0, l1, l2⟩ := l
  generalize Vec.fits ⟨a0, a1, a2⟩ ⟨b0, b1, b2⟩ = ok at g5 g6 g7
  intro w
  unfold Vec.V.val at *
  go_enter Try.func5, Try.ntmps5
  go_wp2_with fail
  refine (g6 _).mono ?_
  rintro e w1 ⟨rfl, hb1⟩
  have hbw := keeps_trans (a := w) (by (repeat' (first | (with_reducible exact Below.refl _ _) | (with_reducible assumption) | (with_reducible refine Below.alloc ?_ ?_ _) | (with_reducible refine L.below_drewN ?_ _) | (with_reducible refine Below.drew ?_) | (with_reducible refine Below.setCell ?_ ?_ _) | (with_reducible refine Below.frame ?_ _) | go_size))) hb1
  have ba : Box3 w1 w.heap.size a0 a1 a2 := Box3.keep (by refine ⟨by simp; omega, ?_, ?_, ?_⟩ <;> simp [go_sem]) hb1
  have bb : Box3 w1 (w.heap.size + 1) b0 b1 b2 := Box3.keep (by refine ⟨by simp, ?_, ?_, ?_⟩ <;> simp [go_sem]) hb1
  clear hb1
  go_wp2_with fail
  refine region_keep (by kernel_rfl) (by kernel_rfl) ?_
  obtain ⟨c0, c1, c2⟩ := ba.all
  obtain ⟨d0, d1, d2⟩ := bb.all
  clear ba bb
  repeat (apply L.wpKeep_yes; (focus rfl); (focus (intro W hW; go_simp; first | done | exact ⟨rfl, hW⟩ | rfl)); (focus (go_simp; first | done | rfl)))
  (apply L.wpKeep_yes; (focus rfl); (focus (intro W hW; go_simp; first | exact L.Gives.up g1 hW | exact ⟨hW, L.Gives.up g1 hW⟩)); (focus (go_simp; first | done | rfl)))
  repeat (apply L.wpKeep_yes; (focus rfl); (focus (intro W hW; go_simp; first | done | exact ⟨rfl, hW⟩ | rfl)); (focus (go_simp; first | done | rfl)))
  (apply L.wpKeep_yes; (focus rfl); (focus (intro W hW; go_simp; first | exact L.Gives.up g2 hW | exact ⟨hW, L.Gives.up g2 hW⟩)); (focus (go_simp; first | done | rfl)))
  repeat (apply L.wpKeep_yes; (focus rfl); (focus (intro W hW; go_simp; first | done | exact ⟨rfl, hW⟩ | rfl)); (focus (go_simp; first | done | rfl)))
  (apply L.wpKeep_yes; (focus rfl); (focus (intro W hW; go_simp; first | exact L.Gives.up g3 hW | exact ⟨hW, L.Gives.up g3 hW⟩)); (focus (go_simp; first | done | rfl)))
  repeat (apply L.wpKeep_yes; (focus rfl); (focus (intro W hW; go_simp; first | done | exact ⟨rfl, hW⟩ | rfl)); (focus (go_simp; first | done | rfl)))
  (apply L.wpKeep_yes; (focus rfl); (focus (intro W hW; go_simp; first | exact L.Gives.up g4 hW | exact ⟨hW, L.Gives.up g4 hW⟩)); (focus (go_simp; first | done | rfl)))
  repeat (apply L.wpKeep_yes; (focus rfl); (focus (intro W hW; go_simp; first | done | exact ⟨rfl, hW⟩ | rfl)); (focus (go_simp; first | done | rfl)))
  (apply L.wpKeep_yes; (focus rfl); (focus (intro W hW; go_simp; first | exact L.Gives.up g5 hW | exact ⟨hW, L.Gives.up g5 hW⟩)); (focus (go_simp; first | done | rfl)))
  repeat (apply L.wpKeep_yes; (focus rfl); (focus (intro W hW; go_simp; first | done | exact ⟨rfl, hW⟩ | rfl)); (focus (go_simp; first | done | rfl)))
  (apply L.wpKeep_yes; (focus rfl); (focus (intro W hW; go_simp; first | exact L.Gives.up g7 hW | exact ⟨hW, L.Gives.up g7 hW⟩)); (focus (go_simp; first | done | rfl)))
  repeat (apply L.wpKeep_yes; (focus rfl); (focus (intro W hW; go_simp; first | done | exact ⟨rfl, hW⟩ | rfl)); (focus (go_simp; first | done | rfl)))
  (apply L.wpKeep_yes; (focus rfl); (focus (intro W hW; go_simp; first | exact L.Gives.up g8 hW | exact ⟨hW, L.Gives.up g8 hW⟩)); (focus (go_simp; first | done | rfl)))
  repeat (apply L.wpKeep_yes; (focus rfl); (focus (intro W hW; go_simp; first | done | exact ⟨rfl, hW⟩ | rfl)); (focus (go_simp; first | done | rfl)))
  (apply L.wpKeep_yes; (focus rfl); (focus (intro W hW; go_simp; first | exact L.Gives.up g9 hW | exact ⟨hW, L.Gives.up g9 hW⟩)); (focus (go_simp; first | done | rfl)))
  repeat (apply L.wpKeep_yes; (focus rfl); (focus (intro W hW; go_simp; first | done | exact ⟨rfl, hW⟩ | rfl)); (focus (go_simp; first | done | rfl)))
  (apply L.wpKeep_yes; (focus rfl); (focus (intro W hW; go_simp; first | exact L.Gives.up g0 hW | exact ⟨hW, L.Gives.up g0 hW⟩)); (focus (go_simp; first | done | rfl)))
  repeat (apply L.wpKeep_yes; (focus rfl); (focus (intro W hW; go_simp; first | done | exact ⟨rfl, hW⟩ | rfl)); (focus (go_simp; first | done | rfl)))
  refine wpKeep_nil ?_
  intro W hW
  go_wp2
  go_returns
  exact ⟨rfl, keeps_trans hbw hW⟩

end Go.Proofs.Ytplbdipgnhddkaa.VecW
