/-
  The contracts of package vec's functions and of its reference's, whole.
-/
import Derived.Test.YtplbdipgnhddkaaVecWalk
import Derived.Test.YtplbdipgnhddkaaLibB
set_option linter.unusedVariables false
set_option linter.unusedSimpArgs false
namespace Go.Proofs.Ytplbdipgnhddkaa.VecW
open Go.RowKit Go.Proofs.Ytplbdipgnhddkaa.L

theorem rcut_still (n m : Int) (w : World) (h : 0 ≤ m) (h' : m ≤ 1099511627776) : Calls Try.prog 61 #[.int .i64 n, .int .i64 m] w fun e w' => e = .returned (.int .i64 (Vec.cut n m)) ∧ w' = w :=
  (rcut_any n m w h h').mono fun _ _ ⟨he, hw⟩ => ⟨he, hw.symm⟩

set_option maxHeartbeats 400000 in
theorem gadd (a b : Vec.V) : Gives Try.prog 23 #[a.val, b.val] (Vec.add a b).val := by
  obtain ⟨a0, a1, a2⟩ := a
  obtain ⟨b0, b1, b2⟩ := b
  intro w
  unfold Vec.V.val
  go_enter Try.func23, Try.ntmps23
  go_wp2_with fail
  refine (eachAdd _ _ _ _ _ _ _).mono ?_
  rintro e w1 ⟨rfl, hb1⟩
  have hbw := keeps_trans (a := w) (by (repeat' (first | (with_reducible exact Below.refl _ _) | (with_reducible assumption) | (with_reducible refine Below.alloc ?_ ?_ _) | (with_reducible refine L.below_drewN ?_ _) | (with_reducible refine Below.drew ?_) | (with_reducible refine Below.setCell ?_ ?_ _) | (with_reducible refine Below.frame ?_ _) | go_size))) hb1
  have g0 : w1.cell? ⟨w.heap.size + 1 + 1, 0, none⟩ = some (.int .i64 0) := (hb1.cell (p := ⟨w.heap.size + 1 + 1, 0, none⟩) (by simp)).trans (by simp [go_sem])
  have g1 : w1.cell? ⟨w.heap.size + 1 + 1, 1, none⟩ = some (.int .i64 0) := (hb1.cell (p := ⟨w.heap.size + 1 + 1, 1, none⟩) (by simp)).trans (by simp [go_sem])
  have g2 : w1.cell? ⟨w.heap.size + 1 + 1, 2, none⟩ = some (.int .i64 0) := (hb1.cell (p := ⟨w.heap.size + 1 + 1, 2, none⟩) (by simp)).trans (by simp [go_sem])
  have f0 : w1.frozen? ⟨w.heap.size + 1 + 1, 0, none⟩ = false := (hb1.frozen (p := ⟨w.heap.size + 1 + 1, 0, none⟩) (by simp)).trans (by simp [go_sem])
  have f1 : w1.frozen? ⟨w.heap.size + 1 + 1, 1, none⟩ = false := (hb1.frozen (p := ⟨w.heap.size + 1 + 1, 1, none⟩) (by simp)).trans (by simp [go_sem])
  have f2 : w1.frozen? ⟨w.heap.size + 1 + 1, 2, none⟩ = false := (hb1.frozen (p := ⟨w.heap.size + 1 + 1, 2, none⟩) (by simp)).trans (by simp [go_sem])
  have hz : w.heap.size + 1 + 1 < w1.heap.size := by have := hb1.size; simp at this; omega
  clear hb1
  go_wp2
  exact bodyPost_ret (v := .agg #[.int .i64 (Vec.add1 a0 b0), .int .i64 (Vec.add1 a1 b1), .int .i64 (Vec.add1 a2 b2)]) (by simp [results, Try.results23, go_sem, g0, g1, g2]) rfl ⟨rfl, by (repeat' (first | (with_reducible exact Below.refl _ _) | (with_reducible assumption) | (with_reducible refine Below.alloc ?_ ?_ _) | (with_reducible refine L.below_drewN ?_ _) | (with_reducible refine Below.drew ?_) | (with_reducible refine Below.setCell ?_ ?_ _) | (with_reducible refine Below.frame ?_ _) | go_size))⟩

set_option maxHeartbeats 400000 in
theorem gsub (a b : Vec.V) : Gives Try.prog 25 #[a.val, b.val] (Vec.sub a b).val := by
  obtain ⟨a0, a1, a2⟩ := a
  obtain ⟨b0, b1, b2⟩ := b
  intro w
  unfold Vec.V.val
  go_enter Try.func25, Try.ntmps25
  go_wp2_with fail
  refine (eachSub _ _ _ _ _ _ _).mono ?_
  rintro e w1 ⟨rfl, hb1⟩
  have hbw := keeps_trans (a := w) (by (repeat' (first | (with_reducible exact Below.refl _ _) | (with_reducible assumption) | (with_reducible refine Below.alloc ?_ ?_ _) | (with_reducible refine L.below_drewN ?_ _) | (with_reducible refine Below.drew ?_) | (with_reducible refine Below.setCell ?_ ?_ _) | (with_reducible refine Below.frame ?_ _) | go_size))) hb1
  have g0 : w1.cell? ⟨w.heap.size + 1 + 1, 0, none⟩ = some (.int .i64 0) := (hb1.cell (p := ⟨w.heap.size + 1 + 1, 0, none⟩) (by simp)).trans (by simp [go_sem])
  have g1 : w1.cell? ⟨w.heap.size + 1 + 1, 1, none⟩ = some (.int .i64 0) := (hb1.cell (p := ⟨w.heap.size + 1 + 1, 1, none⟩) (by simp)).trans (by simp [go_sem])
  have g2 : w1.cell? ⟨w.heap.size + 1 + 1, 2, none⟩ = some (.int .i64 0) := (hb1.cell (p := ⟨w.heap.size + 1 + 1, 2, none⟩) (by simp)).trans (by simp [go_sem])
  have f0 : w1.frozen? ⟨w.heap.size + 1 + 1, 0, none⟩ = false := (hb1.frozen (p := ⟨w.heap.size + 1 + 1, 0, none⟩) (by simp)).trans (by simp [go_sem])
  have f1 : w1.frozen? ⟨w.heap.size + 1 + 1, 1, none⟩ = false := (hb1.frozen (p := ⟨w.heap.size + 1 + 1, 1, none⟩) (by simp)).trans (by simp [go_sem])
  have f2 : w1.frozen? ⟨w.heap.size + 1 + 1, 2, none⟩ = false := (hb1.frozen (p := ⟨w.heap.size + 1 + 1, 2, none⟩) (by simp)).trans (by simp [go_sem])
  have hz : w.heap.size + 1 + 1 < w1.heap.size := by have := hb1.size; simp at this; omega
  clear hb1
  go_wp2
  exact bodyPost_ret (v := .agg #[.int .i64 (Vec.sub1 a0 b0), .int .i64 (Vec.sub1 a1 b1), .int .i64 (Vec.sub1 a2 b2)]) (by simp [results, Try.results25, go_sem, g0, g1, g2]) rfl ⟨rfl, by (repeat' (first | (with_reducible exact Below.refl _ _) | (with_reducible assumption) | (with_reducible refine Below.alloc ?_ ?_ _) | (with_reducible refine L.below_drewN ?_ _) | (with_reducible refine Below.drew ?_) | (with_reducible refine Below.setCell ?_ ?_ _) | (with_reducible refine Below.frame ?_ _) | go_size))⟩

set_option maxHeartbeats 400000 in
theorem gleast (a b : Vec.V) : Gives Try.prog 28 #[a.val, b.val] (Vec.least a b).val := by
  obtain ⟨a0, a1, a2⟩ := a
  obtain ⟨b0, b1, b2⟩ := b
  intro w
  unfold Vec.V.val
  go_enter Try.func28, Try.ntmps28
  go_wp2_with fail
  refine (eachMin _ _ _ _ _ _ _).mono ?_
  rintro e w1 ⟨rfl, hb1⟩
  have hbw := keeps_trans (a := w) (by (repeat' (first | (with_reducible exact Below.refl _ _) | (with_reducible assumption) | (with_reducible refine Below.alloc ?_ ?_ _) | (with_reducible refine L.below_drewN ?_ _) | (with_reducible refine Below.drew ?_) | (with_reducible refine Below.setCell ?_ ?_ _) | (with_reducible refine Below.frame ?_ _) | go_size))) hb1
  have g0 : w1.cell? ⟨w.heap.size + 1 + 1, 0, none⟩ = some (.int .i64 0) := (hb1.cell (p := ⟨w.heap.size + 1 + 1, 0, none⟩) (by simp)).trans (by simp [go_sem])
  have g1 : w1.cell? ⟨w.heap.size + 1 + 1, 1, none⟩ = some (.int .i64 0) := (hb1.cell (p := ⟨w.heap.size + 1 + 1, 1, none⟩) (by simp)).trans (by simp [go_sem])
  have g2 : w1.cell? ⟨w.heap.size + 1 + 1, 2, none⟩ = some (.int .i64 0) := (hb1.cell (p := ⟨w.heap.size + 1 + 1, 2, none⟩) (by simp)).trans (by simp [go_sem])
  have f0 : w1.frozen? ⟨w.heap.size + 1 + 1, 0, none⟩ = false := (hb1.frozen (p := ⟨w.heap.size + 1 + 1, 0, none⟩) (by simp)).trans (by simp [go_sem])
  have f1 : w1.frozen? ⟨w.heap.size + 1 + 1, 1, none⟩ = false := (hb1.frozen (p := ⟨w.heap.size + 1 + 1, 1, none⟩) (by simp)).trans (by simp [go_sem])
  have f2 : w1.frozen? ⟨w.heap.size + 1 + 1, 2, none⟩ = false := (hb1.frozen (p := ⟨w.heap.size + 1 + 1, 2, none⟩) (by simp)).trans (by simp [go_sem])
  have hz : w.heap.size + 1 + 1 < w1.heap.size := by have := hb1.size; simp at this; omega
  clear hb1
  go_wp2
  exact bodyPost_ret (v := .agg #[.int .i64 (Vec.min1 a0 b0), .int .i64 (Vec.min1 a1 b1), .int .i64 (Vec.min1 a2 b2)]) (by simp [results, Try.results28, go_sem, g0, g1, g2]) rfl ⟨rfl, by (repeat' (first | (with_reducible exact Below.refl _ _) | (with_reducible assumption) | (with_reducible refine Below.alloc ?_ ?_ _) | (with_reducible refine L.below_drewN ?_ _) | (with_reducible refine Below.drew ?_) | (with_reducible refine Below.setCell ?_ ?_ _) | (with_reducible refine Below.frame ?_ _) | go_size))⟩

set_option maxHeartbeats 1000000 in
theorem eachTimes (a0 a1 a2 b0 b1 b2 : Int) (w : World) (n : Int) (pb : Nat) (hn : pb < w.heap.size) (hc : w.cell? ⟨pb, 0, none⟩ = some (.int .i64 n)) : Calls Try.prog 58 #[.agg #[.int .i64 a0, .int .i64 a1, .int .i64 a2], .agg #[.int .i64 b0, .int .i64 b1, .int .i64 b2], .func (.func 64) #[] #[.pointer (some ⟨pb, 0, none⟩)]] w fun e w' =>
    e = .returned (.agg #[.int .i64 (Vec.mul1 a0 n), .int .i64 (Vec.mul1 a1 n), .int .i64 (Vec.mul1 a2 n)]) ∧ Below w.heap.size w w' := by
  obtain ⟨i0, i1, i2⟩ := idx b0 b1 b2
  have hne : ¬ pb = w.heap.size := by omega
  have hne1 : ¬ pb = w.heap.size + 1 := by omega
  have hne2 : ¬ pb = w.heap.size + 1 + 1 := by omega
  go_enter Try.func58, Try.ntmps58
  go_wp2
  refine wp_loop_rounds 4 ?_
  rw [rounds_succ]
  go_wp2_with fail
  refine (cloTimes _ _ n pb _ ?_).mono ?_
  · exact (Below.cell (p := ⟨pb, 0, none⟩) (by (repeat' (first | (with_reducible exact Below.refl _ _) | (with_reducible assumption) | (with_reducible refine Below.alloc ?_ ?_ _) | (with_reducible refine L.below_drewN ?_ _) | (with_reducible refine Below.drew ?_) | (with_reducible refine Below.setCell ?_ ?_ _) | (with_reducible refine Below.frame ?_ _) | go_size))) hn).trans hc
  rintro e w' ⟨rfl, rfl⟩
  go_wp2_with fail
  rw [rounds_succ]
  go_wp2_with fail
  refine (cloTimes _ _ n pb _ ?_).mono ?_
  · exact (Below.cell (p := ⟨pb, 0, none⟩) (by (repeat' (first | (with_reducible exact Below.refl _ _) | (with_reducible assumption) | (with_reducible refine Below.alloc ?_ ?_ _) | (with_reducible refine L.below_drewN ?_ _) | (with_reducible refine Below.drew ?_) | (with_reducible refine Below.setCell ?_ ?_ _) | (with_reducible refine Below.frame ?_ _) | go_size))) hn).trans hc
  rintro e w' ⟨rfl, rfl⟩
  go_wp2_with fail
  rw [rounds_succ]
  go_wp2_with fail
  refine (cloTimes _ _ n pb _ ?_).mono ?_
  · exact (Below.cell (p := ⟨pb, 0, none⟩) (by (repeat' (first | (with_reducible exact Below.refl _ _) | (with_reducible assumption) | (with_reducible refine Below.alloc ?_ ?_ _) | (with_reducible refine L.below_drewN ?_ _) | (with_reducible refine Below.drew ?_) | (with_reducible refine Below.setCell ?_ ?_ _) | (with_reducible refine Below.frame ?_ _) | go_size))) hn).trans hc
  rintro e w' ⟨rfl, rfl⟩
  go_wp2_with fail
  rw [rounds_succ]
  go_wp2
  go_returns
  exact ⟨rfl, by (repeat' (first | (with_reducible exact Below.refl _ _) | (with_reducible assumption) | (with_reducible refine Below.alloc ?_ ?_ _) | (with_reducible refine L.below_drewN ?_ _) | (with_reducible refine Below.drew ?_) | (with_reducible refine Below.setCell ?_ ?_ _) | (with_reducible refine Below.frame ?_ _) | go_size))⟩

set_option maxHeartbeats 400000 in
theorem gtimes (a : Vec.V) (n : Int) : Gives Try.prog 31 #[a.val, .int .i64 n] (Vec.times a n).val := by
  obtain ⟨a0, a1, a2⟩ := a
  intro w
  unfold Vec.V.val
  go_enter Try.func31, Try.ntmps31
  go_wp2_with fail
  refine (eachTimes _ _ _ _ _ _ _ n (w.heap.size + 1) (by simp) (by simp [go_sem])).mono ?_
  rintro e w1 ⟨rfl, hb1⟩
  have hbw := keeps_trans (a := w) (by (repeat' (first | (with_reducible exact Below.refl _ _) | (with_reducible assumption) | (with_reducible refine Below.alloc ?_ ?_ _) | (with_reducible refine L.below_drewN ?_ _) | (with_reducible refine Below.drew ?_) | (with_reducible refine Below.setCell ?_ ?_ _) | (with_reducible refine Below.frame ?_ _) | go_size))) hb1
  have g0 : w1.cell? ⟨w.heap.size + 1 + 1, 0, none⟩ = some (.int .i64 0) := (hb1.cell (p := ⟨w.heap.size + 1 + 1, 0, none⟩) (by simp)).trans (by simp [go_sem])
  have g1 : w1.cell? ⟨w.heap.size + 1 + 1, 1, none⟩ = some (.int .i64 0) := (hb1.cell (p := ⟨w.heap.size + 1 + 1, 1, none⟩) (by simp)).trans (by simp [go_sem])
  have g2 : w1.cell? ⟨w.heap.size + 1 + 1, 2, none⟩ = some (.int .i64 0) := (hb1.cell (p := ⟨w.heap.size + 1 + 1, 2, none⟩) (by simp)).trans (by simp [go_sem])
  have f0 : w1.frozen? ⟨w.heap.size + 1 + 1, 0, none⟩ = false := (hb1.frozen (p := ⟨w.heap.size + 1 + 1, 0, none⟩) (by simp)).trans (by simp [go_sem])
  have f1 : w1.frozen? ⟨w.heap.size + 1 + 1, 1, none⟩ = false := (hb1.frozen (p := ⟨w.heap.size + 1 + 1, 1, none⟩) (by simp)).trans (by simp [go_sem])
  have f2 : w1.frozen? ⟨w.heap.size + 1 + 1, 2, none⟩ = false := (hb1.frozen (p := ⟨w.heap.size + 1 + 1, 2, none⟩) (by simp)).trans (by simp [go_sem])
  have hz : w.heap.size + 1 + 1 < w1.heap.size := by have := hb1.size; simp at this; omega
  clear hb1
  go_wp2
  exact bodyPost_ret (v := .agg #[.int .i64 (Vec.mul1 a0 n), .int .i64 (Vec.mul1 a1 n), .int .i64 (Vec.mul1 a2 n)]) (by simp [results, Try.results31, go_sem, g0, g1, g2]) rfl ⟨rfl, by (repeat' (first | (with_reducible exact Below.refl _ _) | (with_reducible assumption) | (with_reducible refine Below.alloc ?_ ?_ _) | (with_reducible refine L.below_drewN ?_ _) | (with_reducible refine Below.drew ?_) | (with_reducible refine Below.setCell ?_ ?_ _) | (with_reducible refine Below.frame ?_ _) | go_size))⟩

set_option maxHeartbeats 1000000 in
theorem gradd (a b : Vec.V) : Gives Try.prog 24 #[a.val, b.val] (Vec.add a b).val := by
  obtain ⟨a0, a1, a2⟩ := a
  obtain ⟨b0, b1, b2⟩ := b
  have a01 := Vec.cut_lo a0 1099511627776 (by omega)
  have a02 := Vec.cut_hi a0 1099511627776 (by omega)
  have b01 := Vec.cut_lo b0 1099511627776 (by omega)
  have b02 := Vec.cut_hi b0 1099511627776 (by omega)
  have s0 : IntKind.i64.wrap (Vec.cut a0 1099511627776 + Vec.cut b0 1099511627776) = Vec.cut a0 1099511627776 + Vec.cut b0 1099511627776 := by rw [IntKind.wrap_i64]; omega
  have a11 := Vec.cut_lo a1 1099511627776 (by omega)
  have a12 := Vec.cut_hi a1 1099511627776 (by omega)
  have b11 := Vec.cut_lo b1 1099511627776 (by omega)
  have b12 := Vec.cut_hi b1 1099511627776 (by omega)
  have s1 : IntKind.i64.wrap (Vec.cut a1 1099511627776 + Vec.cut b1 1099511627776) = Vec.cut a1 1099511627776 + Vec.cut b1 1099511627776 := by rw [IntKind.wrap_i64]; omega
  have a21 := Vec.cut_lo a2 1099511627776 (by omega)
  have a22 := Vec.cut_hi a2 1099511627776 (by omega)
  have b21 := Vec.cut_lo b2 1099511627776 (by omega)
  have b22 := Vec.cut_hi b2 1099511627776 (by omega)
  have s2 : IntKind.i64.wrap (Vec.cut a2 1099511627776 + Vec.cut b2 1099511627776) = Vec.cut a2 1099511627776 + Vec.cut b2 1099511627776 := by rw [IntKind.wrap_i64]; omega
  intro w
  unfold Vec.V.val
  go_enter Try.func24, Try.ntmps24
  go_wp2
  refine wp_loop_rounds 4 ?_
  rw [rounds_succ]
  go_wp2_with fail
  refine region_tail 12 (by kernel_rfl) (by kernel_rfl) ?_
  simp only [List.take_succ_cons, List.take_zero, List.drop_succ_cons, List.drop_zero]
  repeat (first | still_step | still_call (rcut_still _ _ _ (by omega) (by omega)))
  refine wpStill_nil ?_
  go_wp2
  rw [rounds_succ]
  go_wp2_with fail
  refine region_tail 12 (by kernel_rfl) (by kernel_rfl) ?_
  simp only [List.take_succ_cons, List.take_zero, List.drop_succ_cons, List.drop_zero]
  repeat (first | still_step | still_call (rcut_still _ _ _ (by omega) (by omega)))
  refine wpStill_nil ?_
  go_wp2
  rw [rounds_succ]
  go_wp2_with fail
  refine region_tail 12 (by kernel_rfl) (by kernel_rfl) ?_
  simp only [List.take_succ_cons, List.take_zero, List.drop_succ_cons, List.drop_zero]
  repeat (first | still_step | still_call (rcut_still _ _ _ (by omega) (by omega)))
  refine wpStill_nil ?_
  go_wp2
  rw [rounds_succ]
  go_wp2
  go_returns
  exact ⟨rfl, by (repeat' (first | (with_reducible exact Below.refl _ _) | (with_reducible assumption) | (with_reducible refine Below.alloc ?_ ?_ _) | (with_reducible refine L.below_drewN ?_ _) | (with_reducible refine Below.drew ?_) | (with_reducible refine Below.setCell ?_ ?_ _) | (with_reducible refine Below.frame ?_ _) | go_size))⟩

set_option maxHeartbeats 1000000 in
theorem grsub (a b : Vec.V) : Gives Try.prog 26 #[a.val, b.val] (Vec.sub a b).val := by
  obtain ⟨a0, a1, a2⟩ := a
  obtain ⟨b0, b1, b2⟩ := b
  have a01 := Vec.cut_lo a0 1099511627776 (by omega)
  have a02 := Vec.cut_hi a0 1099511627776 (by omega)
  have b01 := Vec.cut_lo b0 1099511627776 (by omega)
  have b02 := Vec.cut_hi b0 1099511627776 (by omega)
  have s0 : IntKind.i64.wrap (Vec.cut a0 1099511627776 - Vec.cut b0 1099511627776) = Vec.cut a0 1099511627776 - Vec.cut b0 1099511627776 := by rw [IntKind.wrap_i64]; omega
  have a11 := Vec.cut_lo a1 1099511627776 (by omega)
  have a12 := Vec.cut_hi a1 1099511627776 (by omega)
  have b11 := Vec.cut_lo b1 1099511627776 (by omega)
  have b12 := Vec.cut_hi b1 1099511627776 (by omega)
  have s1 : IntKind.i64.wrap (Vec.cut a1 1099511627776 - Vec.cut b1 1099511627776) = Vec.cut a1 1099511627776 - Vec.cut b1 1099511627776 := by rw [IntKind.wrap_i64]; omega
  have a21 := Vec.cut_lo a2 1099511627776 (by omega)
  have a22 := Vec.cut_hi a2 1099511627776 (by omega)
  have b21 := Vec.cut_lo b2 1099511627776 (by omega)
  have b22 := Vec.cut_hi b2 1099511627776 (by omega)
  have s2 : IntKind.i64.wrap (Vec.cut a2 1099511627776 - Vec.cut b2 1099511627776) = Vec.cut a2 1099511627776 - Vec.cut b2 1099511627776 := by rw [IntKind.wrap_i64]; omega
  intro w
  unfold Vec.V.val
  go_enter Try.func26, Try.ntmps26
  go_wp2
  refine wp_loop_rounds 4 ?_
  rw [rounds_succ]
  go_wp2_with fail
  refine region_tail 12 (by kernel_rfl) (by kernel_rfl) ?_
  simp only [List.take_succ_cons, List.take_zero, List.drop_succ_cons, List.drop_zero]
  repeat (first | still_step | still_call (rcut_still _ _ _ (by omega) (by omega)))
  refine wpStill_nil ?_
  go_wp2
  rw [rounds_succ]
  go_wp2_with fail
  refine region_tail 12 (by kernel_rfl) (by kernel_rfl) ?_
  simp only [List.take_succ_cons, List.take_zero, List.drop_succ_cons, List.drop_zero]
  repeat (first | still_step | still_call (rcut_still _ _ _ (by omega) (by omega)))
  refine wpStill_nil ?_
  go_wp2
  rw [rounds_succ]
  go_wp2_with fail
  refine region_tail 12 (by kernel_rfl) (by kernel_rfl) ?_
  simp only [List.take_succ_cons, List.take_zero, List.drop_succ_cons, List.drop_zero]
  repeat (first | still_step | still_call (rcut_still _ _ _ (by omega) (by omega)))
  refine wpStill_nil ?_
  go_wp2
  rw [rounds_succ]
  go_wp2
  go_returns
  exact ⟨rfl, by (repeat' (first | (with_reducible exact Below.refl _ _) | (with_reducible assumption) | (with_reducible refine Below.alloc ?_ ?_ _) | (with_reducible refine L.below_drewN ?_ _) | (with_reducible refine Below.drew ?_) | (with_reducible refine Below.setCell ?_ ?_ _) | (with_reducible refine Below.frame ?_ _) | go_size))⟩

set_option maxHeartbeats 1000000 in
theorem grtimes (a : Vec.V) (n : Int) : Gives Try.prog 38 #[a.val, .int .i64 n] (Vec.times a n).val := by
  obtain ⟨a0, a1, a2⟩ := a
  obtain ⟨p0, s0, m0⟩ := mul_wrap a0 n
  obtain ⟨p1, s1, m1⟩ := mul_wrap a1 n
  obtain ⟨p2, s2, m2⟩ := mul_wrap a2 n
  intro w
  have hv : (Vec.times ⟨a0, a1, a2⟩ n).val = .agg #[.int .i64 (Vec.cut p0 1099511627776), .int .i64 (Vec.cut p1 1099511627776), .int .i64 (Vec.cut p2 1099511627776)] := by rw [← m0, ← m1, ← m2]; rfl
  rw [hv]
  unfold Vec.V.val
  clear m0 m1 m2 hv
  go_enter Try.func38, Try.ntmps38
  go_wp2
  refine wp_loop_rounds 4 ?_
  rw [rounds_succ]
  go_wp2_with (go_at_call 61; (with_reducible refine (rcut_any _ _ _ (by omega) (by omega)).mono ?_); rintro e w' ⟨rfl, rfl⟩)
  rw [rounds_succ]
  go_wp2_with (go_at_call 61; (with_reducible refine (rcut_any _ _ _ (by omega) (by omega)).mono ?_); rintro e w' ⟨rfl, rfl⟩)
  rw [rounds_succ]
  go_wp2_with (go_at_call 61; (with_reducible refine (rcut_any _ _ _ (by omega) (by omega)).mono ?_); rintro e w' ⟨rfl, rfl⟩)
  rw [rounds_succ]
  go_wp2_with (go_at_call 61; (with_reducible refine (rcut_any _ _ _ (by omega) (by omega)).mono ?_); rintro e w' ⟨rfl, rfl⟩)
  go_returns
  exact ⟨rfl, by (repeat' (first | (with_reducible exact Below.refl _ _) | (with_reducible assumption) | (with_reducible refine Below.alloc ?_ ?_ _) | (with_reducible refine L.below_drewN ?_ _) | (with_reducible refine Below.drew ?_) | (with_reducible refine Below.setCell ?_ ?_ _) | (with_reducible refine Below.frame ?_ _) | go_size))⟩

set_option maxHeartbeats 1000000 in
theorem grleast (a b : Vec.V) : Gives Try.prog 29 #[a.val, b.val] (Vec.least a b).val := by
  obtain ⟨a0, a1, a2⟩ := a
  obtain ⟨b0, b1, b2⟩ := b
  intro w
  unfold Vec.V.val
  go_enter Try.func29, Try.ntmps29
  go_wp2
  refine wp_loop_rounds 4 ?_
  rw [rounds_succ]
  go_wp2_with fail
  refine region_tail 9 (by kernel_rfl) (by kernel_rfl) ?_
  simp only [List.take_succ_cons, List.take_zero, List.drop_succ_cons, List.drop_zero]
  repeat still_step
  refine wpStill_nil ?_
  go_wp2
  rw [rounds_succ]
  go_wp2_with fail
  refine region_tail 9 (by kernel_rfl) (by kernel_rfl) ?_
  simp only [List.take_succ_cons, List.take_zero, List.drop_succ_cons, List.drop_zero]
  repeat still_step
  refine wpStill_nil ?_
  go_wp2
  rw [rounds_succ]
  go_wp2_with fail
  refine region_tail 9 (by kernel_rfl) (by kernel_rfl) ?_
  simp only [List.take_succ_cons, List.take_zero, List.drop_succ_cons, List.drop_zero]
  repeat still_step
  refine wpStill_nil ?_
  go_wp2
  rw [rounds_succ]
  go_wp2
  go_returns
  exact ⟨rfl, by (repeat' (first | (with_reducible exact Below.refl _ _) | (with_reducible assumption) | (with_reducible refine Below.alloc ?_ ?_ _) | (with_reducible refine L.below_drewN ?_ _) | (with_reducible refine Below.drew ?_) | (with_reducible refine Below.setCell ?_ ?_ _) | (with_reducible refine Below.frame ?_ _) | go_size))⟩

set_option maxHeartbeats 1000000 in
theorem gfits (a b : Vec.V) : Gives Try.prog 21 #[a.val, b.val] (.bool (Vec.fits a b)) := by
  obtain ⟨a0, a1, a2⟩ := a
  obtain ⟨b0, b1, b2⟩ := b
  intro w
  have hv : Vec.fits ⟨a0, a1, a2⟩ ⟨b0, b1, b2⟩ = (decide (a0 ≤ b0) && (decide (a1 ≤ b1) && decide (a2 ≤ b2))) := rfl
  have Hv := Lib.hid hv
  clear hv
  unfold Vec.V.val
  obtain ⟨i0, i1, i2⟩ := idx a0 a1 a2
  by_cases h0 : b0 < a0
  · go_enter Try.func21, Try.ntmps21
    go_wp2
    refine wp_loop_rounds 1 ?_
    rw [rounds_succ]
    go_wp2
    go_returns
    exact ⟨ret_bool (by rw [Hv.out]; simp; omega), by (repeat' (first | (with_reducible exact Below.refl _ _) | (with_reducible assumption) | (with_reducible refine Below.alloc ?_ ?_ _) | (with_reducible refine L.below_drewN ?_ _) | (with_reducible refine Below.drew ?_) | (with_reducible refine Below.setCell ?_ ?_ _) | (with_reducible refine Below.frame ?_ _) | go_size))⟩
  by_cases h1 : b1 < a1
  · go_enter Try.func21, Try.ntmps21
    go_wp2
    refine wp_loop_rounds 2 ?_
    rw [rounds_succ]
    go_wp2
    rw [rounds_succ]
    go_wp2
    go_returns
    exact ⟨ret_bool (by rw [Hv.out]; simp; omega), by (repeat' (first | (with_reducible exact Below.refl _ _) | (with_reducible assumption) | (with_reducible refine Below.alloc ?_ ?_ _) | (with_reducible refine L.below_drewN ?_ _) | (with_reducible refine Below.drew ?_) | (with_reducible refine Below.setCell ?_ ?_ _) | (with_reducible refine Below.frame ?_ _) | go_size))⟩
  by_cases h2 : b2 < a2
  · go_enter Try.func21, Try.ntmps21
    go_wp2
    refine wp_loop_rounds 3 ?_
    rw [rounds_succ]
    go_wp2
    rw [rounds_succ]
    go_wp2
    rw [rounds_succ]
    go_wp2
    go_returns
    exact ⟨ret_bool (by rw [Hv.out]; simp; omega), by (repeat' (first | (with_reducible exact Below.refl _ _) | (with_reducible assumption) | (with_reducible refine Below.alloc ?_ ?_ _) | (with_reducible refine L.below_drewN ?_ _) | (with_reducible refine Below.drew ?_) | (with_reducible refine Below.setCell ?_ ?_ _) | (with_reducible refine Below.frame ?_ _) | go_size))⟩
  · go_enter Try.func21, Try.ntmps21
    go_wp2
    refine wp_loop_rounds 4 ?_
    rw [rounds_succ]
    go_wp2
    rw [rounds_succ]
    go_wp2
    rw [rounds_succ]
    go_wp2
    rw [rounds_succ]
    go_wp2
    go_returns
    exact ⟨ret_bool (by rw [Hv.out]; simp; omega), by (repeat' (first | (with_reducible exact Below.refl _ _) | (with_reducible assumption) | (with_reducible refine Below.alloc ?_ ?_ _) | (with_reducible refine L.below_drewN ?_ _) | (with_reducible refine Below.drew ?_) | (with_reducible refine Below.setCell ?_ ?_ _) | (with_reducible refine Below.frame ?_ _) | go_size))⟩

set_option maxHeartbeats 1000000 in
theorem grfits (a b : Vec.V) : Gives Try.prog 22 #[a.val, b.val] (.bool (Vec.fits a b)) := by
  obtain ⟨a0, a1, a2⟩ := a
  obtain ⟨b0, b1, b2⟩ := b
  intro w
  have hv : Vec.fits ⟨a0, a1, a2⟩ ⟨b0, b1, b2⟩ = (decide (a0 ≤ b0) && (decide (a1 ≤ b1) && decide (a2 ≤ b2))) := rfl
  have Hv := Lib.hid hv
  clear hv
  unfold Vec.V.val
  obtain ⟨i0, i1, i2⟩ := idx a0 a1 a2
  by_cases h0 : b0 < a0
  · go_enter Try.func22, Try.ntmps22
    go_wp2
    refine wp_loop_rounds 1 ?_
    rw [rounds_succ]
    go_wp2
    go_quiet (fail)
    go_wp2
    go_returns
    exact ⟨ret_bool (by rw [Hv.out]; simp; omega), by (repeat' (first | (with_reducible exact Below.refl _ _) | (with_reducible assumption) | (with_reducible refine Below.alloc ?_ ?_ _) | (with_reducible refine L.below_drewN ?_ _) | (with_reducible refine Below.drew ?_) | (with_reducible refine Below.setCell ?_ ?_ _) | (with_reducible refine Below.frame ?_ _) | go_size))⟩
  by_cases h1 : b1 < a1
  · go_enter Try.func22, Try.ntmps22
    go_wp2
    refine wp_loop_rounds 2 ?_
    rw [rounds_succ]
    go_wp2
    go_quiet (fail)
    go_wp2
    rw [rounds_succ]
    go_wp2
    go_quiet (fail)
    go_wp2
    go_returns
    exact ⟨ret_bool (by rw [Hv.out]; simp; omega), by (repeat' (first | (with_reducible exact Below.refl _ _) | (with_reducible assumption) | (with_reducible refine Below.alloc ?_ ?_ _) | (with_reducible refine L.below_drewN ?_ _) | (with_reducible refine Below.drew ?_) | (with_reducible refine Below.setCell ?_ ?_ _) | (with_reducible refine Below.frame ?_ _) | go_size))⟩
  by_cases h2 : b2 < a2
  · go_enter Try.func22, Try.ntmps22
    go_wp2
    refine wp_loop_rounds 3 ?_
    rw [rounds_succ]
    go_wp2
    go_quiet (fail)
    go_wp2
    rw [rounds_succ]
    go_wp2
    go_quiet (fail)
    go_wp2
    rw [rounds_succ]
    go_wp2
    go_quiet (fail)
    go_wp2
    go_returns
    exact ⟨ret_bool (by rw [Hv.out]; simp; omega), by (repeat' (first | (with_reducible exact Below.refl _ _) | (with_reducible assumption) | (with_reducible refine Below.alloc ?_ ?_ _) | (with_reducible refine L.below_drewN ?_ _) | (with_reducible refine Below.drew ?_) | (with_reducible refine Below.setCell ?_ ?_ _) | (with_reducible refine Below.frame ?_ _) | go_size))⟩
  · go_enter Try.func22, Try.ntmps22
    go_wp2
    refine wp_loop_rounds 4 ?_
    rw [rounds_succ]
    go_wp2
    go_quiet (fail)
    go_wp2
    rw [rounds_succ]
    go_wp2
    go_quiet (fail)
    go_wp2
    rw [rounds_succ]
    go_wp2
    go_quiet (fail)
    go_wp2
    rw [rounds_succ]
    go_wp2
    go_returns
    exact ⟨ret_bool (by rw [Hv.out]; simp; omega), by (repeat' (first | (with_reducible exact Below.refl _ _) | (with_reducible assumption) | (with_reducible refine Below.alloc ?_ ?_ _) | (with_reducible refine L.below_drewN ?_ _) | (with_reducible refine Below.drew ?_) | (with_reducible refine Below.setCell ?_ ?_ _) | (with_reducible refine Below.frame ?_ _) | go_size))⟩

end Go.Proofs.Ytplbdipgnhddkaa.VecW
