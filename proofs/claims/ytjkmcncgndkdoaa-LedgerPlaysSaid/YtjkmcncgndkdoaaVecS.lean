/-
  The contracts of package vec's functions and of its reference's, as far as chapters 9, 12 and 16 reach.
-/
import Derived.Test.YtjkmcncgndkdoaaProg
import Derived.Test.YtjkmcncgndkdoaaVecPlain
import Derived.Test.YtjkmcncgndkdoaaLibB
import Derived.IntWalk
import Derived.Lib.Walk
import Derived.Deep.CutBlock
import Derived.Deep.DeepCutAuto
import Derived.Deep.MidRow
import Derived.OpenShut
set_option linter.unusedVariables false
set_option linter.unusedSimpArgs false
namespace Go.Proofs.Ytjkmcncgndkdoaa.VecW
open Go.RowKit Go.Proofs.Ytjkmcncgndkdoaa.L

/-- An amount as a value. -/
def _root_.Go.Proofs.Ytjkmcncgndkdoaa.Vec.V.val (v : Vec.V) : Value := .agg #[.int .i64 v.x, .int .i64 v.y, .int .i64 v.z]

theorem idx (x y z : Int) : (∀ w : World, (Instr.index 33 (.agg #[.int .i64 x, .int .i64 y, .int .i64 z]) (.int .i64 0)).run Try.prog w = .ok (.int .i64 x) w) ∧
    (∀ w : World, (Instr.index 33 (.agg #[.int .i64 x, .int .i64 y, .int .i64 z]) (.int .i64 1)).run Try.prog w = .ok (.int .i64 y) w) ∧
    (∀ w : World, (Instr.index 33 (.agg #[.int .i64 x, .int .i64 y, .int .i64 z]) (.int .i64 2)).run Try.prog w = .ok (.int .i64 z) w) :=
  ⟨fun _ => by kernel_rfl, fun _ => by kernel_rfl, fun _ => by kernel_rfl⟩

theorem vcut_any (n m : Int) (w : World) (h : 0 ≤ m) (h' : m ≤ 1099511627776) : Calls Try.prog 79 #[.int .i64 n, .int .i64 m] w fun e w' => e = .returned (.int .i64 (Vec.cut n m)) ∧ w = w' := by
  go_enter Try.func79, Try.ntmps79
  go_wp2
  go_ret
  exact ⟨rfl, rfl⟩
theorem rcut_any (n m : Int) (w : World) (h : 0 ≤ m) (h' : m ≤ 1099511627776) : Calls Try.prog 80 #[.int .i64 n, .int .i64 m] w fun e w' => e = .returned (.int .i64 (Vec.cut n m)) ∧ w = w' := by
  have hc := Lib.hid (Vec.cut_other n m h)
  go_enter Try.func80, Try.ntmps80
  go_wp2
  go_ret
  exact ⟨ret_int hc.out, rfl⟩

set_option maxRecDepth 100000 in
set_option maxHeartbeats 400000 in
theorem cloAdd (x y : Int) (w : World) : Calls Try.prog 81 #[.int .i64 x, .int .i64 y] w fun e w' => e = .returned (.int .i64 (Vec.add1 x y)) ∧ w = w' := by
  have a1 := Vec.cut_lo x 1099511627776 (by omega)
  have a2 := Vec.cut_hi x 1099511627776 (by omega)
  have b1 := Vec.cut_lo y 1099511627776 (by omega)
  have b2 := Vec.cut_hi y 1099511627776 (by omega)
  go_enter Try.func81, Try.ntmps81
  go_wp2_with (go_at_call 79; (with_reducible refine (vcut_any _ _ _ (by omega) (by omega)).mono ?_); rintro e w' ⟨rfl, rfl⟩)
  go_ret
  exact ⟨rfl, rfl⟩

set_option maxRecDepth 100000 in
set_option maxHeartbeats 400000 in
theorem cloSub (x y : Int) (w : World) : Calls Try.prog 78 #[.int .i64 x, .int .i64 y] w fun e w' => e = .returned (.int .i64 (Vec.sub1 x y)) ∧ w = w' := by
  have a1 := Vec.cut_lo x 1099511627776 (by omega)
  have a2 := Vec.cut_hi x 1099511627776 (by omega)
  have b1 := Vec.cut_lo y 1099511627776 (by omega)
  have b2 := Vec.cut_hi y 1099511627776 (by omega)
  go_enter Try.func78, Try.ntmps78
  go_wp2_with (go_at_call 79; (with_reducible refine (vcut_any _ _ _ (by omega) (by omega)).mono ?_); rintro e w' ⟨rfl, rfl⟩)
  go_ret
  exact ⟨rfl, rfl⟩

theorem mul_wrap (x n : Int) : ∃ p : Int, IntKind.i64.wrap (Vec.cut x 1099511627776 * Vec.cut n 1048576) = p ∧ Vec.mul1 x n = Vec.cut p 1099511627776 := by
  refine ⟨_, rfl, ?_⟩
  have a1 := Vec.cut_lo x 1099511627776 (by omega)
  have a2 := Vec.cut_hi x 1099511627776 (by omega)
  have b1 := Vec.cut_lo n 1048576 (by omega)
  have b2 := Vec.cut_hi n 1048576 (by omega)
  unfold Vec.mul1
  generalize Vec.cut x 1099511627776 = u at *
  generalize Vec.cut n 1048576 = v at *
  have h : (u * v).natAbs ≤ 1099511627776 * 1048576 := by
    rw [Int.natAbs_mul]
    exact Nat.mul_le_mul (by omega) (by omega)
  rw [IntKind.wrap_i64]
  congr 1
  omega

theorem vcut_still (n m : Int) (w : World) (h : 0 ≤ m) (h' : m ≤ 1099511627776) : Calls Try.prog 79 #[.int .i64 n, .int .i64 m] w fun e w' => e = .returned (.int .i64 (Vec.cut n m)) ∧ w' = w :=
  (vcut_any n m w h h').mono fun _ _ ⟨he, hw⟩ => ⟨he, hw.symm⟩

set_option maxRecDepth 100000 in
set_option maxHeartbeats 400000 in
theorem cloTimes (x y n : Int) (b : Nat) (w : World) (hc : w.cell? ⟨b, 0, none⟩ = some (.int .i64 n)) : Calls Try.prog 87 #[.int .i64 x, .int .i64 y, .pointer (some ⟨b, 0, none⟩)] w fun e w' => e = .returned (.int .i64 (Vec.mul1 x n)) ∧ w.drew = w' := by
  obtain ⟨p, hp, hv⟩ := mul_wrap x n
  rw [hv]
  clear hv
  go_enter Try.func87, Try.ntmps87
  go_wp2
  refine region_whole (by kernel_rfl) (by kernel_rfl) ?_
  repeat (first | still_step | still_call (vcut_still _ _ _ (by omega) (by omega)))
  refine wpStill_nil ?_
  go_wp2
  go_ret
  exact ⟨rfl, rfl⟩

set_option maxRecDepth 100000 in
set_option maxHeartbeats 1000000 in
theorem eachAdd (a0 a1 a2 b0 b1 b2 : Int) (w : World) : Calls Try.prog 77 #[.agg #[.int .i64 a0, .int .i64 a1, .int .i64 a2], .agg #[.int .i64 b0, .int .i64 b1, .int .i64 b2], .func (.func 81) #[] #[]] w fun e w' =>
    e = .returned (.agg #[.int .i64 (Vec.add1 a0 b0), .int .i64 (Vec.add1 a1 b1), .int .i64 (Vec.add1 a2 b2)]) ∧ Below w.heap.size w w' := by
  obtain ⟨i0, i1, i2⟩ := idx b0 b1 b2
  go_enter Try.func77, Try.ntmps77
  go_wp2
  refine wp_loop_rounds 4 ?_
  repeat any_goals (rw [rounds_succ]; go_wp2_with (go_at_call 81; (with_reducible refine (cloAdd _ _ _).mono ?_); rintro e w' ⟨rfl, rfl⟩))
  go_returns
  exact ⟨rfl, by go_grown⟩

set_option maxRecDepth 100000 in
set_option maxHeartbeats 1000000 in
theorem eachSub (a0 a1 a2 b0 b1 b2 : Int) (w : World) : Calls Try.prog 77 #[.agg #[.int .i64 a0, .int .i64 a1, .int .i64 a2], .agg #[.int .i64 b0, .int .i64 b1, .int .i64 b2], .func (.func 78) #[] #[]] w fun e w' =>
    e = .returned (.agg #[.int .i64 (Vec.sub1 a0 b0), .int .i64 (Vec.sub1 a1 b1), .int .i64 (Vec.sub1 a2 b2)]) ∧ Below w.heap.size w w' := by
  obtain ⟨i0, i1, i2⟩ := idx b0 b1 b2
  go_enter Try.func77, Try.ntmps77
  go_wp2
  refine wp_loop_rounds 4 ?_
  repeat any_goals (rw [rounds_succ]; go_wp2_with (go_at_call 78; (with_reducible refine (cloSub _ _ _).mono ?_); rintro e w' ⟨rfl, rfl⟩))
  go_returns
  exact ⟨rfl, by go_grown⟩

end Go.Proofs.Ytjkmcncgndkdoaa.VecW

namespace Go.Proofs.Ytjkmcncgndkdoaa.VecW
open Go.RowKit Go.Proofs.Ytjkmcncgndkdoaa.L

theorem rcut_still (n m : Int) (w : World) (h : 0 ≤ m) (h' : m ≤ 1099511627776) : Calls Try.prog 80 #[.int .i64 n, .int .i64 m] w fun e w' => e = .returned (.int .i64 (Vec.cut n m)) ∧ w' = w :=
  (rcut_any n m w h h').mono fun _ _ ⟨he, hw⟩ => ⟨he, hw.symm⟩

set_option maxRecDepth 100000 in
set_option maxHeartbeats 400000 in
theorem gadd (a b : Vec.V) : Gives Try.prog 64 #[a.val, b.val] (Vec.add a b).val := by
  obtain ⟨a0, a1, a2⟩ := a
  obtain ⟨b0, b1, b2⟩ := b
  intro w
  unfold Vec.V.val
  go_enter Try.func64, Try.ntmps64
  go_wp2_with fail
  refine (eachAdd _ _ _ _ _ _ _).mono ?_
  rintro e w1 ⟨rfl, hb1⟩
  have hbw := keeps_trans (a := w) (by (repeat' (first | (with_reducible exact Below.refl _ _) | (with_reducible assumption) | (with_reducible refine Below.alloc ?_ ?_ _) | (with_reducible refine Go.Proofs.Ytjkmcncgndkdoaa.L.below_drewN ?_ _) | (with_reducible refine Below.drew ?_) | (with_reducible refine Below.setCell ?_ ?_ _) | (with_reducible refine Below.frame ?_ _) | go_size))) hb1
  have g0 : w1.cell? ⟨w.heap.size + 1 + 1, 0, none⟩ = some (.int .i64 0) := (hb1.cell (p := ⟨w.heap.size + 1 + 1, 0, none⟩) (by simp)).trans (by simp [go_sem])
  have g1 : w1.cell? ⟨w.heap.size + 1 + 1, 1, none⟩ = some (.int .i64 0) := (hb1.cell (p := ⟨w.heap.size + 1 + 1, 1, none⟩) (by simp)).trans (by simp [go_sem])
  have g2 : w1.cell? ⟨w.heap.size + 1 + 1, 2, none⟩ = some (.int .i64 0) := (hb1.cell (p := ⟨w.heap.size + 1 + 1, 2, none⟩) (by simp)).trans (by simp [go_sem])
  have f0 : w1.frozen? ⟨w.heap.size + 1 + 1, 0, none⟩ = false := (hb1.frozen (p := ⟨w.heap.size + 1 + 1, 0, none⟩) (by simp)).trans (by simp [go_sem])
  have f1 : w1.frozen? ⟨w.heap.size + 1 + 1, 1, none⟩ = false := (hb1.frozen (p := ⟨w.heap.size + 1 + 1, 1, none⟩) (by simp)).trans (by simp [go_sem])
  have f2 : w1.frozen? ⟨w.heap.size + 1 + 1, 2, none⟩ = false := (hb1.frozen (p := ⟨w.heap.size + 1 + 1, 2, none⟩) (by simp)).trans (by simp [go_sem])
  have hz : w.heap.size + 1 + 1 < w1.heap.size := by have := hb1.size; simp at this; omega
  clear hb1
  go_wp2
  exact bodyPost_ret (v := .agg #[.int .i64 (Vec.add1 a0 b0), .int .i64 (Vec.add1 a1 b1), .int .i64 (Vec.add1 a2 b2)]) (by simp [results, Try.results64, go_sem, g0, g1, g2]) rfl ⟨rfl, by (repeat' (first | (with_reducible exact Below.refl _ _) | (with_reducible assumption) | (with_reducible refine Below.alloc ?_ ?_ _) | (with_reducible refine Go.Proofs.Ytjkmcncgndkdoaa.L.below_drewN ?_ _) | (with_reducible refine Below.drew ?_) | (with_reducible refine Below.setCell ?_ ?_ _) | (with_reducible refine Below.frame ?_ _) | go_size))⟩

set_option maxRecDepth 100000 in
set_option maxHeartbeats 400000 in
theorem gsub (a b : Vec.V) : Gives Try.prog 60 #[a.val, b.val] (Vec.sub a b).val := by
  obtain ⟨a0, a1, a2⟩ := a
  obtain ⟨b0, b1, b2⟩ := b
  intro w
  unfold Vec.V.val
  go_enter Try.func60, Try.ntmps60
  go_wp2_with fail
  refine (eachSub _ _ _ _ _ _ _).mono ?_
  rintro e w1 ⟨rfl, hb1⟩
  have hbw := keeps_trans (a := w) (by (repeat' (first | (with_reducible exact Below.refl _ _) | (with_reducible assumption) | (with_reducible refine Below.alloc ?_ ?_ _) | (with_reducible refine Go.Proofs.Ytjkmcncgndkdoaa.L.below_drewN ?_ _) | (with_reducible refine Below.drew ?_) | (with_reducible refine Below.setCell ?_ ?_ _) | (with_reducible refine Below.frame ?_ _) | go_size))) hb1
  have g0 : w1.cell? ⟨w.heap.size + 1 + 1, 0, none⟩ = some (.int .i64 0) := (hb1.cell (p := ⟨w.heap.size + 1 + 1, 0, none⟩) (by simp)).trans (by simp [go_sem])
  have g1 : w1.cell? ⟨w.heap.size + 1 + 1, 1, none⟩ = some (.int .i64 0) := (hb1.cell (p := ⟨w.heap.size + 1 + 1, 1, none⟩) (by simp)).trans (by simp [go_sem])
  have g2 : w1.cell? ⟨w.heap.size + 1 + 1, 2, none⟩ = some (.int .i64 0) := (hb1.cell (p := ⟨w.heap.size + 1 + 1, 2, none⟩) (by simp)).trans (by simp [go_sem])
  have f0 : w1.frozen? ⟨w.heap.size + 1 + 1, 0, none⟩ = false := (hb1.frozen (p := ⟨w.heap.size + 1 + 1, 0, none⟩) (by simp)).trans (by simp [go_sem])
  have f1 : w1.frozen? ⟨w.heap.size + 1 + 1, 1, none⟩ = false := (hb1.frozen (p := ⟨w.heap.size + 1 + 1, 1, none⟩) (by simp)).trans (by simp [go_sem])
  have f2 : w1.frozen? ⟨w.heap.size + 1 + 1, 2, none⟩ = false := (hb1.frozen (p := ⟨w.heap.size + 1 + 1, 2, none⟩) (by simp)).trans (by simp [go_sem])
  have hz : w.heap.size + 1 + 1 < w1.heap.size := by have := hb1.size; simp at this; omega
  clear hb1
  go_wp2
  exact bodyPost_ret (v := .agg #[.int .i64 (Vec.sub1 a0 b0), .int .i64 (Vec.sub1 a1 b1), .int .i64 (Vec.sub1 a2 b2)]) (by simp [results, Try.results60, go_sem, g0, g1, g2]) rfl ⟨rfl, by (repeat' (first | (with_reducible exact Below.refl _ _) | (with_reducible assumption) | (with_reducible refine Below.alloc ?_ ?_ _) | (with_reducible refine Go.Proofs.Ytjkmcncgndkdoaa.L.below_drewN ?_ _) | (with_reducible refine Below.drew ?_) | (with_reducible refine Below.setCell ?_ ?_ _) | (with_reducible refine Below.frame ?_ _) | go_size))⟩

set_option maxRecDepth 100000 in
set_option maxHeartbeats 1000000 in
theorem eachTimes (a0 a1 a2 b0 b1 b2 : Int) (w : World) (n : Int) (pb : Nat) (hn : pb < w.heap.size) (hc : w.cell? ⟨pb, 0, none⟩ = some (.int .i64 n)) : Calls Try.prog 77 #[.agg #[.int .i64 a0, .int .i64 a1, .int .i64 a2], .agg #[.int .i64 b0, .int .i64 b1, .int .i64 b2], .func (.func 87) #[] #[.pointer (some ⟨pb, 0, none⟩)]] w fun e w' =>
    e = .returned (.agg #[.int .i64 (Vec.mul1 a0 n), .int .i64 (Vec.mul1 a1 n), .int .i64 (Vec.mul1 a2 n)]) ∧ Below w.heap.size w w' := by
  obtain ⟨i0, i1, i2⟩ := idx b0 b1 b2
  have hne : ¬ pb = w.heap.size := by omega
  have hne1 : ¬ pb = w.heap.size + 1 := by omega
  have hne2 : ¬ pb = w.heap.size + 1 + 1 := by omega
  go_enter Try.func77, Try.ntmps77
  go_wp2
  refine wp_loop_rounds 4 ?_
  rw [rounds_succ]
  go_wp2_with fail
  refine (cloTimes _ _ n pb _ ?_).mono ?_
  · exact (Below.cell (p := ⟨pb, 0, none⟩) (by (repeat' (first | (with_reducible exact Below.refl _ _) | (with_reducible assumption) | (with_reducible refine Below.alloc ?_ ?_ _) | (with_reducible refine Go.Proofs.Ytjkmcncgndkdoaa.L.below_drewN ?_ _) | (with_reducible refine Below.drew ?_) | (with_reducible refine Below.setCell ?_ ?_ _) | (with_reducible refine Below.frame ?_ _) | go_size))) hn).trans hc
  rintro e w' ⟨rfl, rfl⟩
  go_wp2_with fail
  rw [rounds_succ]
  go_wp2_with fail
  refine (cloTimes _ _ n pb _ ?_).mono ?_
  · exact (Below.cell (p := ⟨pb, 0, none⟩) (by (repeat' (first | (with_reducible exact Below.refl _ _) | (with_reducible assumption) | (with_reducible refine Below.alloc ?_ ?_ _) | (with_reducible refine Go.Proofs.Ytjkmcncgndkdoaa.L.below_drewN ?_ _) | (with_reducible refine Below.drew ?_) | (with_reducible refine Below.setCell ?_ ?_ _) | (with_reducible refine Below.frame ?_ _) | go_size))) hn).trans hc
  rintro e w' ⟨rfl, rfl⟩
  go_wp2_with fail
  rw [rounds_succ]
  go_wp2_with fail
  refine (cloTimes _ _ n pb _ ?_).mono ?_
  · exact (Below.cell (p := ⟨pb, 0, none⟩) (by (repeat' (first | (with_reducible exact Below.refl _ _) | (with_reducible assumption) | (with_reducible refine Below.alloc ?_ ?_ _) | (with_reducible refine Go.Proofs.Ytjkmcncgndkdoaa.L.below_drewN ?_ _) | (with_reducible refine Below.drew ?_) | (with_reducible refine Below.setCell ?_ ?_ _) | (with_reducible refine Below.frame ?_ _) | go_size))) hn).trans hc
  rintro e w' ⟨rfl, rfl⟩
  go_wp2_with fail
  rw [rounds_succ]
  go_wp2
  go_returns
  exact ⟨rfl, by (repeat' (first | (with_reducible exact Below.refl _ _) | (with_reducible assumption) | (with_reducible refine Below.alloc ?_ ?_ _) | (with_reducible refine Go.Proofs.Ytjkmcncgndkdoaa.L.below_drewN ?_ _) | (with_reducible refine Below.drew ?_) | (with_reducible refine Below.setCell ?_ ?_ _) | (with_reducible refine Below.frame ?_ _) | go_size))⟩

set_option maxRecDepth 100000 in
set_option maxHeartbeats 400000 in
theorem gtimes (a : Vec.V) (n : Int) : Gives Try.prog 84 #[a.val, .int .i64 n] (Vec.times a n).val := by
  obtain ⟨a0, a1, a2⟩ := a
  intro w
  unfold Vec.V.val
  go_enter Try.func84, Try.ntmps84
  go_wp2_with fail
  refine (eachTimes _ _ _ _ _ _ _ n (w.heap.size + 1) (by simp) (by simp [go_sem])).mono ?_
  rintro e w1 ⟨rfl, hb1⟩
  have hbw := keeps_trans (a := w) (by (repeat' (first | (with_reducible exact Below.refl _ _) | (with_reducible assumption) | (with_reducible refine Below.alloc ?_ ?_ _) | (with_reducible refine Go.Proofs.Ytjkmcncgndkdoaa.L.below_drewN ?_ _) | (with_reducible refine Below.drew ?_) | (with_reducible refine Below.setCell ?_ ?_ _) | (with_reducible refine Below.frame ?_ _) | go_size))) hb1
  have g0 : w1.cell? ⟨w.heap.size + 1 + 1, 0, none⟩ = some (.int .i64 0) := (hb1.cell (p := ⟨w.heap.size + 1 + 1, 0, none⟩) (by simp)).trans (by simp [go_sem])
  have g1 : w1.cell? ⟨w.heap.size + 1 + 1, 1, none⟩ = some (.int .i64 0) := (hb1.cell (p := ⟨w.heap.size + 1 + 1, 1, none⟩) (by simp)).trans (by simp [go_sem])
  have g2 : w1.cell? ⟨w.heap.size + 1 + 1, 2, none⟩ = some (.int .i64 0) := (hb1.cell (p := ⟨w.heap.size + 1 + 1, 2, none⟩) (by simp)).trans (by simp [go_sem])
  have f0 : w1.frozen? ⟨w.heap.size + 1 + 1, 0, none⟩ = false := (hb1.frozen (p := ⟨w.heap.size + 1 + 1, 0, none⟩) (by simp)).trans (by simp [go_sem])
  have f1 : w1.frozen? ⟨w.heap.size + 1 + 1, 1, none⟩ = false := (hb1.frozen (p := ⟨w.heap.size + 1 + 1, 1, none⟩) (by simp)).trans (by simp [go_sem])
  have f2 : w1.frozen? ⟨w.heap.size + 1 + 1, 2, none⟩ = false := (hb1.frozen (p := ⟨w.heap.size + 1 + 1, 2, none⟩) (by simp)).trans (by simp [go_sem])
  have hz : w.heap.size + 1 + 1 < w1.heap.size := by have := hb1.size; simp at this; omega
  clear hb1
  go_wp2
  exact bodyPost_ret (v := .agg #[.int .i64 (Vec.mul1 a0 n), .int .i64 (Vec.mul1 a1 n), .int .i64 (Vec.mul1 a2 n)]) (by simp [results, Try.results84, go_sem, g0, g1, g2]) rfl ⟨rfl, by (repeat' (first | (with_reducible exact Below.refl _ _) | (with_reducible assumption) | (with_reducible refine Below.alloc ?_ ?_ _) | (with_reducible refine Go.Proofs.Ytjkmcncgndkdoaa.L.below_drewN ?_ _) | (with_reducible refine Below.drew ?_) | (with_reducible refine Below.setCell ?_ ?_ _) | (with_reducible refine Below.frame ?_ _) | go_size))⟩

set_option maxRecDepth 100000 in
set_option maxHeartbeats 1000000 in
theorem gradd (a b : Vec.V) : Gives Try.prog 65 #[a.val, b.val] (Vec.add a b).val := by
  obtain ⟨a0, a1, a2⟩ := a
  obtain ⟨b0, b1, b2⟩ := b
  have a01 := Vec.cut_lo a0 1099511627776 (by omega)
  have a02 := Vec.cut_hi a0 1099511627776 (by omega)
  have b01 := Vec.cut_lo b0 1099511627776 (by omega)
  have b02 := Vec.cut_hi b0 1099511627776 (by omega)
  have s0 : IntKind.i64.wrap (Vec.cut a0 1099511627776 + Vec.cut b0 1099511627776) = Vec.cut a0 1099511627776 + Vec.cut b0 1099511627776 := by rw [IntKind.wrap_i64]; omega
  have a11 := Vec.cut_lo a1 1099511627776 (by omega)
  have a12 := Vec.cut_hi a1 1099511627776 (by omega)
  have b11 := Vec.cut_lo b1 1099511627776 (by omega)
  have b12 := Vec.cut_hi b1 1099511627776 (by omega)
  have s1 : IntKind.i64.wrap (Vec.cut a1 1099511627776 + Vec.cut b1 1099511627776) = Vec.cut a1 1099511627776 + Vec.cut b1 1099511627776 := by rw [IntKind.wrap_i64]; omega
  have a21 := Vec.cut_lo a2 1099511627776 (by omega)
  have a22 := Vec.cut_hi a2 1099511627776 (by omega)
  have b21 := Vec.cut_lo b2 1099511627776 (by omega)
  have b22 := Vec.cut_hi b2 1099511627776 (by omega)
  have s2 : IntKind.i64.wrap (Vec.cut a2 1099511627776 + Vec.cut b2 1099511627776) = Vec.cut a2 1099511627776 + Vec.cut b2 1099511627776 := by rw [IntKind.wrap_i64]; omega
  intro w
  unfold Vec.V.val
  go_enter Try.func65, Try.ntmps65
  go_wp2
  refine wp_loop_rounds 4 ?_
  rw [rounds_succ]
  go_wp2_with fail
  refine region_tail 12 (by kernel_rfl) (by kernel_rfl) ?_
  simp only [List.take_succ_cons, List.take_zero, List.drop_succ_cons, List.drop_zero]
  repeat (first | still_step | still_call (rcut_still _ _ _ (by omega) (by omega)))
  refine wpStill_nil ?_
  go_wp2
  rw [rounds_succ]
  go_wp2_with fail
  refine region_tail 12 (by kernel_rfl) (by kernel_rfl) ?_
  simp only [List.take_succ_cons, List.take_zero, List.drop_succ_cons, List.drop_zero]
  repeat (first | still_step | still_call (rcut_still _ _ _ (by omega) (by omega)))
  refine wpStill_nil ?_
  go_wp2
  rw [rounds_succ]
  go_wp2_with fail
  refine region_tail 12 (by kernel_rfl) (by kernel_rfl) ?_
  simp only [List.take_succ_cons, List.take_zero, List.drop_succ_cons, List.drop_zero]
  repeat (first | still_step | still_call (rcut_still _ _ _ (by omega) (by omega)))
  refine wpStill_nil ?_
  go_wp2
  rw [rounds_succ]
  go_wp2
  go_returns
  exact ⟨rfl, by (repeat' (first | (with_reducible exact Below.refl _ _) | (with_reducible assumption) | (with_reducible refine Below.alloc ?_ ?_ _) | (with_reducible refine Go.Proofs.Ytjkmcncgndkdoaa.L.below_drewN ?_ _) | (with_reducible refine Below.drew ?_) | (with_reducible refine Below.setCell ?_ ?_ _) | (with_reducible refine Below.frame ?_ _) | go_size))⟩

set_option maxRecDepth 100000 in
set_option maxHeartbeats 1000000 in
theorem grsub (a b : Vec.V) : Gives Try.prog 63 #[a.val, b.val] (Vec.sub a b).val := by
  obtain ⟨a0, a1, a2⟩ := a
  obtain ⟨b0, b1, b2⟩ := b
  have a01 := Vec.cut_lo a0 1099511627776 (by omega)
  have a02 := Vec.cut_hi a0 1099511627776 (by omega)
  have b01 := Vec.cut_lo b0 1099511627776 (by omega)
  have b02 := Vec.cut_hi b0 1099511627776 (by omega)
  have s0 : IntKind.i64.wrap (Vec.cut a0 1099511627776 - Vec.cut b0 1099511627776) = Vec.cut a0 1099511627776 - Vec.cut b0 1099511627776 := by rw [IntKind.wrap_i64]; omega
  have a11 := Vec.cut_lo a1 1099511627776 (by omega)
  have a12 := Vec.cut_hi a1 1099511627776 (by omega)
  have b11 := Vec.cut_lo b1 1099511627776 (by omega)
  have b12 := Vec.cut_hi b1 1099511627776 (by omega)
  have s1 : IntKind.i64.wrap (Vec.cut a1 1099511627776 - Vec.cut b1 1099511627776) = Vec.cut a1 1099511627776 - Vec.cut b1 1099511627776 := by rw [IntKind.wrap_i64]; omega
  have a21 := Vec.cut_lo a2 1099511627776 (by omega)
  have a22 := Vec.cut_hi a2 1099511627776 (by omega)
  have b21 := Vec.cut_lo b2 1099511627776 (by omega)
  have b22 := Vec.cut_hi b2 1099511627776 (by omega)
  have s2 : IntKind.i64.wrap (Vec.cut a2 1099511627776 - Vec.cut b2 1099511627776) = Vec.cut a2 1099511627776 - Vec.cut b2 1099511627776 := by rw [IntKind.wrap_i64]; omega
  intro w
  unfold Vec.V.val
  go_enter Try.func63, Try.ntmps63
  go_wp2
  refine wp_loop_rounds 4 ?_
  rw [rounds_succ]
  go_wp2_with fail
  refine region_tail 12 (by kernel_rfl) (by kernel_rfl) ?_
  simp only [List.take_succ_cons, List.take_zero, List.drop_succ_cons, List.drop_zero]
  repeat (first | still_step | still_call (rcut_still _ _ _ (by omega) (by omega)))
  refine wpStill_nil ?_
  go_wp2
  rw [rounds_succ]
  go_wp2_with fail
  refine region_tail 12 (by kernel_rfl) (by kernel_rfl) ?_
  simp only [List.take_succ_cons, List.take_zero, List.drop_succ_cons, List.drop_zero]
  repeat (first | still_step | still_call (rcut_still _ _ _ (by omega) (by omega)))
  refine wpStill_nil ?_
  go_wp2
  rw [rounds_succ]
  go_wp2_with fail
  refine region_tail 12 (by kernel_rfl) (by kernel_rfl) ?_
  simp only [List.take_succ_cons, List.take_zero, List.drop_succ_cons, List.drop_zero]
  repeat (first | still_step | still_call (rcut_still _ _ _ (by omega) (by omega)))
  refine wpStill_nil ?_
  go_wp2
  rw [rounds_succ]
  go_wp2
  go_returns
  exact ⟨rfl, by (repeat' (first | (with_reducible exact Below.refl _ _) | (with_reducible assumption) | (with_reducible refine Below.alloc ?_ ?_ _) | (with_reducible refine Go.Proofs.Ytjkmcncgndkdoaa.L.below_drewN ?_ _) | (with_reducible refine Below.drew ?_) | (with_reducible refine Below.setCell ?_ ?_ _) | (with_reducible refine Below.frame ?_ _) | go_size))⟩

set_option maxRecDepth 100000 in
set_option maxHeartbeats 1000000 in
theorem grtimes (a : Vec.V) (n : Int) : Gives Try.prog 85 #[a.val, .int .i64 n] (Vec.times a n).val := by
  obtain ⟨a0, a1, a2⟩ := a
  obtain ⟨p0, s0, m0⟩ := mul_wrap a0 n
  obtain ⟨p1, s1, m1⟩ := mul_wrap a1 n
  obtain ⟨p2, s2, m2⟩ := mul_wrap a2 n
  intro w
  have hv : (Vec.times ⟨a0, a1, a2⟩ n).val = .agg #[.int .i64 (Vec.cut p0 1099511627776), .int .i64 (Vec.cut p1 1099511627776), .int .i64 (Vec.cut p2 1099511627776)] := by rw [← m0, ← m1, ← m2]; rfl
  rw [hv]
  unfold Vec.V.val
  clear m0 m1 m2 hv
  go_enter Try.func85, Try.ntmps85
  go_wp2
  refine wp_loop_rounds 4 ?_
  rw [rounds_succ]
  go_wp2_with (go_at_call 80; (with_reducible refine (rcut_any _ _ _ (by omega) (by omega)).mono ?_); rintro e w' ⟨rfl, rfl⟩)
  rw [rounds_succ]
  go_wp2_with (go_at_call 80; (with_reducible refine (rcut_any _ _ _ (by omega) (by omega)).mono ?_); rintro e w' ⟨rfl, rfl⟩)
  rw [rounds_succ]
  go_wp2_with (go_at_call 80; (with_reducible refine (rcut_any _ _ _ (by omega) (by omega)).mono ?_); rintro e w' ⟨rfl, rfl⟩)
  rw [rounds_succ]
  go_wp2_with (go_at_call 80; (with_reducible refine (rcut_any _ _ _ (by omega) (by omega)).mono ?_); rintro e w' ⟨rfl, rfl⟩)
  go_returns
  exact ⟨rfl, by (repeat' (first | (with_reducible exact Below.refl _ _) | (with_reducible assumption) | (with_reducible refine Below.alloc ?_ ?_ _) | (with_reducible refine Go.Proofs.Ytjkmcncgndkdoaa.L.below_drewN ?_ _) | (with_reducible refine Below.drew ?_) | (with_reducible refine Below.setCell ?_ ?_ _) | (with_reducible refine Below.frame ?_ _) | go_size))⟩

set_option maxRecDepth 100000 in
set_option maxHeartbeats 1000000 in
theorem gfits (a b : Vec.V) : Gives Try.prog 73 #[a.val, b.val] (.bool (Vec.fits a b)) := by
  obtain ⟨a0, a1, a2⟩ := a
  obtain ⟨b0, b1, b2⟩ := b
  intro w
  have hv : Vec.fits ⟨a0, a1, a2⟩ ⟨b0, b1, b2⟩ = (decide (a0 ≤ b0) && (decide (a1 ≤ b1) && decide (a2 ≤ b2))) := rfl
  have Hv := Lib.hid hv
  clear hv
  unfold Vec.V.val
  obtain ⟨i0, i1, i2⟩ := idx a0 a1 a2
  by_cases h0 : b0 < a0
  · go_enter Try.func73, Try.ntmps73
    go_wp2
    refine wp_loop_rounds 1 ?_
    rw [rounds_succ]
    go_wp2
    go_returns
    exact ⟨ret_bool (by rw [Hv.out]; simp; omega), by (repeat' (first | (with_reducible exact Below.refl _ _) | (with_reducible assumption) | (with_reducible refine Below.alloc ?_ ?_ _) | (with_reducible refine Go.Proofs.Ytjkmcncgndkdoaa.L.below_drewN ?_ _) | (with_reducible refine Below.drew ?_) | (with_reducible refine Below.setCell ?_ ?_ _) | (with_reducible refine Below.frame ?_ _) | go_size))⟩
  by_cases h1 : b1 < a1
  · go_enter Try.func73, Try.ntmps73
    go_wp2
    refine wp_loop_rounds 2 ?_
    rw [rounds_succ]
    go_wp2
    rw [rounds_succ]
    go_wp2
    go_returns
    exact ⟨ret_bool (by rw [Hv.out]; simp; omega), by (repeat' (first | (with_reducible exact Below.refl _ _) | (with_reducible assumption) | (with_reducible refine Below.alloc ?_ ?_ _) | (with_reducible refine Go.Proofs.Ytjkmcncgndkdoaa.L.below_drewN ?_ _) | (with_reducible refine Below.drew ?_) | (with_reducible refine Below.setCell ?_ ?_ _) | (with_reducible refine Below.frame ?_ _) | go_size))⟩
  by_cases h2 : b2 < a2
  · go_enter Try.func73, Try.ntmps73
    go_wp2
    refine wp_loop_rounds 3 ?_
    rw [rounds_succ]
    go_wp2
    rw [rounds_succ]
    go_wp2
    rw [rounds_succ]
    go_wp2
    go_returns
    exact ⟨ret_bool (by rw [Hv.out]; simp; omega), by (repeat' (first | (with_reducible exact Below.refl _ _) | (with_reducible assumption) | (with_reducible refine Below.alloc ?_ ?_ _) | (with_reducible refine Go.Proofs.Ytjkmcncgndkdoaa.L.below_drewN ?_ _) | (with_reducible refine Below.drew ?_) | (with_reducible refine Below.setCell ?_ ?_ _) | (with_reducible refine Below.frame ?_ _) | go_size))⟩
  · go_enter Try.func73, Try.ntmps73
    go_wp2
    refine wp_loop_rounds 4 ?_
    rw [rounds_succ]
    go_wp2
    rw [rounds_succ]
    go_wp2
    rw [rounds_succ]
    go_wp2
    rw [rounds_succ]
    go_wp2
    go_returns
    exact ⟨ret_bool (by rw [Hv.out]; simp; omega), by (repeat' (first | (with_reducible exact Below.refl _ _) | (with_reducible assumption) | (with_reducible refine Below.alloc ?_ ?_ _) | (with_reducible refine Go.Proofs.Ytjkmcncgndkdoaa.L.below_drewN ?_ _) | (with_reducible refine Below.drew ?_) | (with_reducible refine Below.setCell ?_ ?_ _) | (with_reducible refine Below.frame ?_ _) | go_size))⟩

set_option maxRecDepth 100000 in
set_option maxHeartbeats 1000000 in
theorem grfits (a b : Vec.V) : Gives Try.prog 35 #[a.val, b.val] (.bool (Vec.fits a b)) := by
  obtain ⟨a0, a1, a2⟩ := a
  obtain ⟨b0, b1, b2⟩ := b
  intro w
  have hv : Vec.fits ⟨a0, a1, a2⟩ ⟨b0, b1, b2⟩ = (decide (a0 ≤ b0) && (decide (a1 ≤ b1) && decide (a2 ≤ b2))) := rfl
  have Hv := Lib.hid hv
  clear hv
  unfold Vec.V.val
  obtain ⟨i0, i1, i2⟩ := idx a0 a1 a2
  by_cases h0 : b0 < a0
  · go_enter Try.func35, Try.ntmps35
    go_wp2
    refine wp_loop_rounds 1 ?_
    rw [rounds_succ]
    go_wp2
    go_quiet (fail)
    go_wp2
    go_returns
    exact ⟨ret_bool (by rw [Hv.out]; simp; omega), by (repeat' (first | (with_reducible exact Below.refl _ _) | (with_reducible assumption) | (with_reducible refine Below.alloc ?_ ?_ _) | (with_reducible refine Go.Proofs.Ytjkmcncgndkdoaa.L.below_drewN ?_ _) | (with_reducible refine Below.drew ?_) | (with_reducible refine Below.setCell ?_ ?_ _) | (with_reducible refine Below.frame ?_ _) | go_size))⟩
  by_cases h1 : b1 < a1
  · go_enter Try.func35, Try.ntmps35
    go_wp2
    refine wp_loop_rounds 2 ?_
    rw [rounds_succ]
    go_wp2
    go_quiet (fail)
    go_wp2
    rw [rounds_succ]
    go_wp2
    go_quiet (fail)
    go_wp2
    go_returns
    exact ⟨ret_bool (by rw [Hv.out]; simp; omega), by (repeat' (first | (with_reducible exact Below.refl _ _) | (with_reducible assumption) | (with_reducible refine Below.alloc ?_ ?_ _) | (with_reducible refine Go.Proofs.Ytjkmcncgndkdoaa.L.below_drewN ?_ _) | (with_reducible refine Below.drew ?_) | (with_reducible refine Below.setCell ?_ ?_ _) | (with_reducible refine Below.frame ?_ _) | go_size))⟩
  by_cases h2 : b2 < a2
  · go_enter Try.func35, Try.ntmps35
    go_wp2
    refine wp_loop_rounds 3 ?_
    rw [rounds_succ]
    go_wp2
    go_quiet (fail)
    go_wp2
    rw [rounds_succ]
    go_wp2
    go_quiet (fail)
    go_wp2
    rw [rounds_succ]
    go_wp2
    go_quiet (fail)
    go_wp2
    go_returns
    exact ⟨ret_bool (by rw [Hv.out]; simp; omega), by (repeat' (first | (with_reducible exact Below.refl _ _) | (with_reducible assumption) | (with_reducible refine Below.alloc ?_ ?_ _) | (with_reducible refine Go.Proofs.Ytjkmcncgndkdoaa.L.below_drewN ?_ _) | (with_reducible refine Below.drew ?_) | (with_reducible refine Below.setCell ?_ ?_ _) | (with_reducible refine Below.frame ?_ _) | go_size))⟩
  · go_enter Try.func35, Try.ntmps35
    go_wp2
    refine wp_loop_rounds 4 ?_
    rw [rounds_succ]
    go_wp2
    go_quiet (fail)
    go_wp2
    rw [rounds_succ]
    go_wp2
    go_quiet (fail)
    go_wp2
    rw [rounds_succ]
    go_wp2
    go_quiet (fail)
    go_wp2
    rw [rounds_succ]
    go_wp2
    go_returns
    exact ⟨ret_bool (by rw [Hv.out]; simp; omega), by (repeat' (first | (with_reducible exact Below.refl _ _) | (with_reducible assumption) | (with_reducible refine Below.alloc ?_ ?_ _) | (with_reducible refine Go.Proofs.Ytjkmcncgndkdoaa.L.below_drewN ?_ _) | (with_reducible refine Below.drew ?_) | (with_reducible refine Below.setCell ?_ ?_ _) | (with_reducible refine Below.frame ?_ _) | go_size))⟩

end Go.Proofs.Ytjkmcncgndkdoaa.VecW

namespace Go.Proofs.Ytjkmcncgndkdoaa.VecW
open Go.RowKit Go.Proofs.Ytjkmcncgndkdoaa.L

theorem gover (a b : Vec.V) : Gives Try.prog 57 #[a.val, b.val] (.bool (!Vec.fits a b)) := by
  have g := gfits a b
  obtain ⟨a0, a1, a2⟩ := a
  obtain ⟨b0, b1, b2⟩ := b
  intro w
  unfold Vec.V.val at g ⊢
  go_enter Try.func57, Try.ntmps57
  go_wp2_with fail
  refine (g _).mono ?_
  rintro e w1 ⟨rfl, hb1⟩
  have hbw := keeps_trans (a := w) (by (repeat' (first | (with_reducible exact Below.refl _ _) | (with_reducible assumption) | (with_reducible refine Below.alloc ?_ ?_ _) | (with_reducible refine Go.Proofs.Ytjkmcncgndkdoaa.L.below_drewN ?_ _) | (with_reducible refine Below.drew ?_) | (with_reducible refine Below.setCell ?_ ?_ _) | (with_reducible refine Below.frame ?_ _) | go_size))) hb1
  clear hb1
  go_wp2
  go_returns
  exact ⟨rfl, hbw⟩

set_option maxRecDepth 100000 in
set_option maxHeartbeats 1000000 in
theorem gvalid (a : Vec.V) : Gives Try.prog 56 #[a.val] (.bool (Vec.valid a)) := by
  obtain ⟨a0, a1, a2⟩ := a
  intro w
  have hv := Lib.hid (Vec.valid_iff ⟨a0, a1, a2⟩)
  unfold Vec.V.val
  obtain ⟨i0, i1, i2⟩ := idx a0 a1 a2
  rcases (by omega : a0 < 0 ∨ 1048576 < a0 ∨ (0 ≤ a0 ∧ a0 ≤ 1048576)) with h0 | h0 | ⟨h0, k0⟩
  · go_enter Try.func56, Try.ntmps56
    go_wp2
    refine wp_loop_rounds 1 ?_
    rw [rounds_succ]
    go_wp2
    go_returns
    exact ⟨ret_bool (by have := hv.out; exact (Bool.eq_false_iff.2 fun hh => by have := this.1 hh; omega).symm), by (repeat' (first | (with_reducible exact Below.refl _ _) | (with_reducible assumption) | (with_reducible refine Below.alloc ?_ ?_ _) | (with_reducible refine Go.Proofs.Ytjkmcncgndkdoaa.L.below_drewN ?_ _) | (with_reducible refine Below.drew ?_) | (with_reducible refine Below.setCell ?_ ?_ _) | (with_reducible refine Below.frame ?_ _) | go_size))⟩
  · go_enter Try.func56, Try.ntmps56
    go_wp2
    refine wp_loop_rounds 1 ?_
    rw [rounds_succ]
    go_wp2
    go_returns
    exact ⟨ret_bool (by have := hv.out; exact (Bool.eq_false_iff.2 fun hh => by have := this.1 hh; omega).symm), by (repeat' (first | (with_reducible exact Below.refl _ _) | (with_reducible assumption) | (with_reducible refine Below.alloc ?_ ?_ _) | (with_reducible refine Go.Proofs.Ytjkmcncgndkdoaa.L.below_drewN ?_ _) | (with_reducible refine Below.drew ?_) | (with_reducible refine Below.setCell ?_ ?_ _) | (with_reducible refine Below.frame ?_ _) | go_size))⟩
  rcases (by omega : a1 < 0 ∨ 1048576 < a1 ∨ (0 ≤ a1 ∧ a1 ≤ 1048576)) with h1 | h1 | ⟨h1, k1⟩
  · go_enter Try.func56, Try.ntmps56
    go_wp2
    refine wp_loop_rounds 2 ?_
    rw [rounds_succ]
    go_wp2
    rw [rounds_succ]
    go_wp2
    go_returns
    exact ⟨ret_bool (by have := hv.out; exact (Bool.eq_false_iff.2 fun hh => by have := this.1 hh; omega).symm), by (repeat' (first | (with_reducible exact Below.refl _ _) | (with_reducible assumption) | (with_reducible refine Below.alloc ?_ ?_ _) | (with_reducible refine Go.Proofs.Ytjkmcncgndkdoaa.L.below_drewN ?_ _) | (with_reducible refine Below.drew ?_) | (with_reducible refine Below.setCell ?_ ?_ _) | (with_reducible refine Below.frame ?_ _) | go_size))⟩
  · go_enter Try.func56, Try.ntmps56
    go_wp2
    refine wp_loop_rounds 2 ?_
    rw [rounds_succ]
    go_wp2
    rw [rounds_succ]
    go_wp2
    go_returns
    exact ⟨ret_bool (by have := hv.out; exact (Bool.eq_false_iff.2 fun hh => by have := this.1 hh; omega).symm), by (repeat' (first | (with_reducible exact Below.refl _ _) | (with_reducible assumption) | (with_reducible refine Below.alloc ?_ ?_ _) | (with_reducible refine Go.Proofs.Ytjkmcncgndkdoaa.L.below_drewN ?_ _) | (with_reducible refine Below.drew ?_) | (with_reducible refine Below.setCell ?_ ?_ _) | (with_reducible refine Below.frame ?_ _) | go_size))⟩
  rcases (by omega : a2 < 0 ∨ 1048576 < a2 ∨ (0 ≤ a2 ∧ a2 ≤ 1048576)) with h2 | h2 | ⟨h2, k2⟩
  · go_enter Try.func56, Try.ntmps56
    go_wp2
    refine wp_loop_rounds 3 ?_
    rw [rounds_succ]
    go_wp2
    rw [rounds_succ]
    go_wp2
    rw [rounds_succ]
    go_wp2
    go_returns
    exact ⟨ret_bool (by have := hv.out; exact (Bool.eq_false_iff.2 fun hh => by have := this.1 hh; omega).symm), by (repeat' (first | (with_reducible exact Below.refl _ _) | (with_reducible assumption) | (with_reducible refine Below.alloc ?_ ?_ _) | (with_reducible refine Go.Proofs.Ytjkmcncgndkdoaa.L.below_drewN ?_ _) | (with_reducible refine Below.drew ?_) | (with_reducible refine Below.setCell ?_ ?_ _) | (with_reducible refine Below.frame ?_ _) | go_size))⟩
  · go_enter Try.func56, Try.ntmps56
    go_wp2
    refine wp_loop_rounds 3 ?_
    rw [rounds_succ]
    go_wp2
    rw [rounds_succ]
    go_wp2
    rw [rounds_succ]
    go_wp2
    go_returns
    exact ⟨ret_bool (by have := hv.out; exact (Bool.eq_false_iff.2 fun hh => by have := this.1 hh; omega).symm), by (repeat' (first | (with_reducible exact Below.refl _ _) | (with_reducible assumption) | (with_reducible refine Below.alloc ?_ ?_ _) | (with_reducible refine Go.Proofs.Ytjkmcncgndkdoaa.L.below_drewN ?_ _) | (with_reducible refine Below.drew ?_) | (with_reducible refine Below.setCell ?_ ?_ _) | (with_reducible refine Below.frame ?_ _) | go_size))⟩
  · go_enter Try.func56, Try.ntmps56
    go_wp2
    refine wp_loop_rounds 4 ?_
    rw [rounds_succ]
    go_wp2
    rw [rounds_succ]
    go_wp2
    rw [rounds_succ]
    go_wp2
    rw [rounds_succ]
    go_wp2
    go_returns
    exact ⟨ret_bool (by have := hv.out; exact (this.2 ⟨⟨by omega, by omega⟩, ⟨by omega, by omega⟩, ⟨by omega, by omega⟩⟩).symm), by (repeat' (first | (with_reducible exact Below.refl _ _) | (with_reducible assumption) | (with_reducible refine Below.alloc ?_ ?_ _) | (with_reducible refine Go.Proofs.Ytjkmcncgndkdoaa.L.below_drewN ?_ _) | (with_reducible refine Below.drew ?_) | (with_reducible refine Below.setCell ?_ ?_ _) | (with_reducible refine Below.frame ?_ _) | go_size))⟩

set_option maxRecDepth 100000 in
set_option maxHeartbeats 1000000 in
theorem grvalid (a : Vec.V) : Gives Try.prog 36 #[a.val] (.bool (Vec.valid a)) := by
  obtain ⟨a0, a1, a2⟩ := a
  intro w
  have hv := Lib.hid (Vec.valid_iff ⟨a0, a1, a2⟩)
  unfold Vec.V.val
  obtain ⟨i0, i1, i2⟩ := idx a0 a1 a2
  rcases (by omega : a0 < 0 ∨ 1048576 < a0 ∨ (0 ≤ a0 ∧ a0 ≤ 1048576)) with h0 | h0 | ⟨h0, k0⟩
  · go_enter Try.func36, Try.ntmps36
    go_wp2
    refine wp_loop_rounds 1 ?_
    rw [rounds_succ]
    go_wp2
    go_returns
    exact ⟨ret_bool (by have := hv.out; exact (Bool.eq_false_iff.2 fun hh => by have := this.1 hh; omega).symm), by (repeat' (first | (with_reducible exact Below.refl _ _) | (with_reducible assumption) | (with_reducible refine Below.alloc ?_ ?_ _) | (with_reducible refine Go.Proofs.Ytjkmcncgndkdoaa.L.below_drewN ?_ _) | (with_reducible refine Below.drew ?_) | (with_reducible refine Below.setCell ?_ ?_ _) | (with_reducible refine Below.frame ?_ _) | go_size))⟩
  · go_enter Try.func36, Try.ntmps36
    go_wp2
    refine wp_loop_rounds 1 ?_
    rw [rounds_succ]
    go_wp2
    go_returns
    exact ⟨ret_bool (by have := hv.out; exact (Bool.eq_false_iff.2 fun hh => by have := this.1 hh; omega).symm), by (repeat' (first | (with_reducible exact Below.refl _ _) | (with_reducible assumption) | (with_reducible refine Below.alloc ?_ ?_ _) | (with_reducible refine Go.Proofs.Ytjkmcncgndkdoaa.L.below_drewN ?_ _) | (with_reducible refine Below.drew ?_) | (with_reducible refine Below.setCell ?_ ?_ _) | (with_reducible refine Below.frame ?_ _) | go_size))⟩
  rcases (by omega : a1 < 0 ∨ 1048576 < a1 ∨ (0 ≤ a1 ∧ a1 ≤ 1048576)) with h1 | h1 | ⟨h1, k1⟩
  · go_enter Try.func36, Try.ntmps36
    go_wp2
    refine wp_loop_rounds 2 ?_
    rw [rounds_succ]
    go_wp2
    rw [rounds_succ]
    go_wp2
    go_returns
    exact ⟨ret_bool (by have := hv.out; exact (Bool.eq_false_iff.2 fun hh => by have := this.1 hh; omega).symm), by (repeat' (first | (with_reducible exact Below.refl _ _) | (with_reducible assumption) | (with_reducible refine Below.alloc ?_ ?_ _) | (with_reducible refine Go.Proofs.Ytjkmcncgndkdoaa.L.below_drewN ?_ _) | (with_reducible refine Below.drew ?_) | (with_reducible refine Below.setCell ?_ ?_ _) | (with_reducible refine Below.frame ?_ _) | go_size))⟩
  · go_enter Try.func36, Try.ntmps36
    go_wp2
    refine wp_loop_rounds 2 ?_
    rw [rounds_succ]
    go_wp2
    rw [rounds_succ]
    go_wp2
    go_returns
    exact ⟨ret_bool (by have := hv.out; exact (Bool.eq_false_iff.2 fun hh => by have := this.1 hh; omega).symm), by (repeat' (first | (with_reducible exact Below.refl _ _) | (with_reducible assumption) | (with_reducible refine Below.alloc ?_ ?_ _) | (with_reducible refine Go.Proofs.Ytjkmcncgndkdoaa.L.below_drewN ?_ _) | (with_reducible refine Below.drew ?_) | (with_reducible refine Below.setCell ?_ ?_ _) | (with_reducible refine Below.frame ?_ _) | go_size))⟩
  rcases (by omega : a2 < 0 ∨ 1048576 < a2 ∨ (0 ≤ a2 ∧ a2 ≤ 1048576)) with h2 | h2 | ⟨h2, k2⟩
  · go_enter Try.func36, Try.ntmps36
    go_wp2
    refine wp_loop_rounds 3 ?_
    rw [rounds_succ]
    go_wp2
    rw [rounds_succ]
    go_wp2
    rw [rounds_succ]
    go_wp2
    go_returns
    exact ⟨ret_bool (by have := hv.out; exact (Bool.eq_false_iff.2 fun hh => by have := this.1 hh; omega).symm), by (repeat' (first | (with_reducible exact Below.refl _ _) | (with_reducible assumption) | (with_reducible refine Below.alloc ?_ ?_ _) | (with_reducible refine Go.Proofs.Ytjkmcncgndkdoaa.L.below_drewN ?_ _) | (with_reducible refine Below.drew ?_) | (with_reducible refine Below.setCell ?_ ?_ _) | (with_reducible refine Below.frame ?_ _) | go_size))⟩
  · go_enter Try.func36, Try.ntmps36
    go_wp2
    refine wp_loop_rounds 3 ?_
    rw [rounds_succ]
    go_wp2
    rw [rounds_succ]
    go_wp2
    rw [rounds_succ]
    go_wp2
    go_returns
    exact ⟨ret_bool (by have := hv.out; exact (Bool.eq_false_iff.2 fun hh => by have := this.1 hh; omega).symm), by (repeat' (first | (with_reducible exact Below.refl _ _) | (with_reducible assumption) | (with_reducible refine Below.alloc ?_ ?_ _) | (with_reducible refine Go.Proofs.Ytjkmcncgndkdoaa.L.below_drewN ?_ _) | (with_reducible refine Below.drew ?_) | (with_reducible refine Below.setCell ?_ ?_ _) | (with_reducible refine Below.frame ?_ _) | go_size))⟩
  · go_enter Try.func36, Try.ntmps36
    go_wp2
    refine wp_loop_rounds 4 ?_
    rw [rounds_succ]
    go_wp2
    rw [rounds_succ]
    go_wp2
    rw [rounds_succ]
    go_wp2
    rw [rounds_succ]
    go_wp2
    go_returns
    exact ⟨ret_bool (by have := hv.out; exact (this.2 ⟨⟨by omega, by omega⟩, ⟨by omega, by omega⟩, ⟨by omega, by omega⟩⟩).symm), by (repeat' (first | (with_reducible exact Below.refl _ _) | (with_reducible assumption) | (with_reducible refine Below.alloc ?_ ?_ _) | (with_reducible refine Go.Proofs.Ytjkmcncgndkdoaa.L.below_drewN ?_ _) | (with_reducible refine Below.drew ?_) | (with_reducible refine Below.setCell ?_ ?_ _) | (with_reducible refine Below.frame ?_ _) | go_size))⟩

end Go.Proofs.Ytjkmcncgndkdoaa.VecW
