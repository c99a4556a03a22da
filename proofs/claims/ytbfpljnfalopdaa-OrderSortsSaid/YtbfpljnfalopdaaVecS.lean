/-
  Trimmed for this seat: VecS.
-/
import Derived.Test.YtbfpljnfalopdaaProg
import Derived.Test.YtbfpljnfalopdaaVecPlain
import Derived.Test.YtbfpljnfalopdaaLibB
import Derived.IntWalk
import Derived.Lib.Walk
import Derived.Deep.CutBlock
import Derived.Deep.DeepCutAuto
import Derived.Deep.MidRow
import Derived.OpenShut
set_option linter.unusedVariables false
set_option linter.unusedSimpArgs false
namespace Go.Proofs.Ytbfpljnfalopdaa.VecW
open Go.RowKit Go.Proofs.Ytbfpljnfalopdaa.L

/-- An amount as a value. -/
def _root_.Go.Proofs.Ytbfpljnfalopdaa.Vec.V.val (v : Vec.V) : Value := .agg #[.int .i64 v.x, .int .i64 v.y, .int .i64 v.z]

theorem idx (x y z : Int) : (∀ w : World, (Instr.index 29 (.agg #[.int .i64 x, .int .i64 y, .int .i64 z]) (.int .i64 0)).run Try.prog w = .ok (.int .i64 x) w) ∧
    (∀ w : World, (Instr.index 29 (.agg #[.int .i64 x, .int .i64 y, .int .i64 z]) (.int .i64 1)).run Try.prog w = .ok (.int .i64 y) w) ∧
    (∀ w : World, (Instr.index 29 (.agg #[.int .i64 x, .int .i64 y, .int .i64 z]) (.int .i64 2)).run Try.prog w = .ok (.int .i64 z) w) :=
  ⟨fun _ => by kernel_rfl, fun _ => by kernel_rfl, fun _ => by kernel_rfl⟩

theorem vcut_any (n m : Int) (w : World) (h : 0 ≤ m) (h' : m ≤ 1099511627776) : Calls Try.prog 66 #[.int .i64 n, .int .i64 m] w fun e w' => e = .returned (.int .i64 (Vec.cut n m)) ∧ w = w' := by
  go_enter Try.func66, Try.ntmps66
  go_wp2
  go_ret
  exact ⟨rfl, rfl⟩
theorem rcut_any (n m : Int) (w : World) (h : 0 ≤ m) (h' : m ≤ 1099511627776) : Calls Try.prog 40 #[.int .i64 n, .int .i64 m] w fun e w' => e = .returned (.int .i64 (Vec.cut n m)) ∧ w = w' := by
  have hc := Lib.hid (Vec.cut_other n m h)
  go_enter Try.func40, Try.ntmps40
  go_wp2
  go_ret
  exact ⟨ret_int hc.out, rfl⟩

set_option maxRecDepth 100000 in
set_option maxRecDepth 100000 in
set_option maxHeartbeats 400000 in
theorem cloAdd (x y : Int) (w : World) : Calls Try.prog 65 #[.int .i64 x, .int .i64 y] w fun e w' => e = .returned (.int .i64 (Vec.add1 x y)) ∧ w = w' := by
  have a1 := Vec.cut_lo x 1099511627776 (by omega)
  have a2 := Vec.cut_hi x 1099511627776 (by omega)
  have b1 := Vec.cut_lo y 1099511627776 (by omega)
  have b2 := Vec.cut_hi y 1099511627776 (by omega)
  go_enter Try.func65, Try.ntmps65
  go_wp2_with (go_at_call 66; (with_reducible refine (vcut_any _ _ _ (by omega) (by omega)).mono ?_); rintro e w' ⟨rfl, rfl⟩)
  go_ret
  exact ⟨rfl, rfl⟩

set_option maxRecDepth 100000 in
set_option maxRecDepth 100000 in
set_option maxHeartbeats 400000 in
theorem cloSub (x y : Int) (w : World) : Calls Try.prog 76 #[.int .i64 x, .int .i64 y] w fun e w' => e = .returned (.int .i64 (Vec.sub1 x y)) ∧ w = w' := by
  have a1 := Vec.cut_lo x 1099511627776 (by omega)
  have a2 := Vec.cut_hi x 1099511627776 (by omega)
  have b1 := Vec.cut_lo y 1099511627776 (by omega)
  have b2 := Vec.cut_hi y 1099511627776 (by omega)
  go_enter Try.func76, Try.ntmps76
  go_wp2_with (go_at_call 66; (with_reducible refine (vcut_any _ _ _ (by omega) (by omega)).mono ?_); rintro e w' ⟨rfl, rfl⟩)
  go_ret
  exact ⟨rfl, rfl⟩

theorem mul_wrap (x n : Int) : ∃ p : Int, IntKind.i64.wrap (Vec.cut x 1099511627776 * Vec.cut n 1048576) = p ∧ Vec.mul1 x n = Vec.cut p 1099511627776 := by
  refine ⟨_, rfl, ?_⟩
  have a1 := Vec.cut_lo x 1099511627776 (by omega)
  have a2 := Vec.cut_hi x 1099511627776 (by omega)
  have b1 := Vec.cut_lo n 1048576 (by omega)
  have b2 := Vec.cut_hi n 1048576 (by omega)
  unfold Vec.mul1
  generalize Vec.cut x 1099511627776 = u at *
  generalize Vec.cut n 1048576 = v at *
  have h : (u * v).natAbs ≤ 1099511627776 * 1048576 := by
    rw [Int.natAbs_mul]
    exact Nat.mul_le_mul (by omega) (by omega)
  rw [IntKind.wrap_i64]
  congr 1
  omega

theorem vcut_still (n m : Int) (w : World) (h : 0 ≤ m) (h' : m ≤ 1099511627776) : Calls Try.prog 66 #[.int .i64 n, .int .i64 m] w fun e w' => e = .returned (.int .i64 (Vec.cut n m)) ∧ w' = w :=
  (vcut_any n m w h h').mono fun _ _ ⟨he, hw⟩ => ⟨he, hw.symm⟩

set_option maxRecDepth 100000 in
set_option maxRecDepth 100000 in
set_option maxHeartbeats 1000000 in
theorem eachAdd (a0 a1 a2 b0 b1 b2 : Int) (w : World) : Calls Try.prog 64 #[.agg #[.int .i64 a0, .int .i64 a1, .int .i64 a2], .agg #[.int .i64 b0, .int .i64 b1, .int .i64 b2], .func (.func 65) #[] #[]] w fun e w' =>
    e = .returned (.agg #[.int .i64 (Vec.add1 a0 b0), .int .i64 (Vec.add1 a1 b1), .int .i64 (Vec.add1 a2 b2)]) ∧ Below w.heap.size w w' := by
  obtain ⟨i0, i1, i2⟩ := idx b0 b1 b2
  go_enter Try.func64, Try.ntmps64
  go_wp2
  refine wp_loop_rounds 4 ?_
  repeat any_goals (rw [rounds_succ]; go_wp2_with (go_at_call 65; (with_reducible refine (cloAdd _ _ _).mono ?_); rintro e w' ⟨rfl, rfl⟩))
  go_returns
  exact ⟨rfl, by go_grown⟩

set_option maxRecDepth 100000 in
set_option maxRecDepth 100000 in
set_option maxHeartbeats 1000000 in
theorem eachSub (a0 a1 a2 b0 b1 b2 : Int) (w : World) : Calls Try.prog 64 #[.agg #[.int .i64 a0, .int .i64 a1, .int .i64 a2], .agg #[.int .i64 b0, .int .i64 b1, .int .i64 b2], .func (.func 76) #[] #[]] w fun e w' =>
    e = .returned (.agg #[.int .i64 (Vec.sub1 a0 b0), .int .i64 (Vec.sub1 a1 b1), .int .i64 (Vec.sub1 a2 b2)]) ∧ Below w.heap.size w w' := by
  obtain ⟨i0, i1, i2⟩ := idx b0 b1 b2
  go_enter Try.func64, Try.ntmps64
  go_wp2
  refine wp_loop_rounds 4 ?_
  repeat any_goals (rw [rounds_succ]; go_wp2_with (go_at_call 76; (with_reducible refine (cloSub _ _ _).mono ?_); rintro e w' ⟨rfl, rfl⟩))
  go_returns
  exact ⟨rfl, by go_grown⟩

end Go.Proofs.Ytbfpljnfalopdaa.VecW

namespace Go.Proofs.Ytbfpljnfalopdaa.VecW
open Go.RowKit Go.Proofs.Ytbfpljnfalopdaa.L

theorem rcut_still (n m : Int) (w : World) (h : 0 ≤ m) (h' : m ≤ 1099511627776) : Calls Try.prog 40 #[.int .i64 n, .int .i64 m] w fun e w' => e = .returned (.int .i64 (Vec.cut n m)) ∧ w' = w :=
  (rcut_any n m w h h').mono fun _ _ ⟨he, hw⟩ => ⟨he, hw.symm⟩

set_option maxRecDepth 100000 in
set_option maxRecDepth 100000 in
set_option maxHeartbeats 400000 in
theorem gadd (a b : Vec.V) : Gives Try.prog 43 #[a.val, b.val] (Vec.add a b).val := by
  obtain ⟨a0, a1, a2⟩ := a
  obtain ⟨b0, b1, b2⟩ := b
  intro w
  unfold Vec.V.val
  go_enter Try.func43, Try.ntmps43
  go_wp2_with fail
  refine (eachAdd _ _ _ _ _ _ _).mono ?_
  rintro e w1 ⟨rfl, hb1⟩
  have hbw := keeps_trans (a := w) (by (repeat' (first | (with_reducible exact Below.refl _ _) | (with_reducible assumption) | (with_reducible refine Below.alloc ?_ ?_ _) | (with_reducible refine Go.Proofs.Ytbfpljnfalopdaa.L.below_drewN ?_ _) | (with_reducible refine Below.drew ?_) | (with_reducible refine Below.setCell ?_ ?_ _) | (with_reducible refine Below.frame ?_ _) | go_size))) hb1
  have g0 : w1.cell? ⟨w.heap.size + 1 + 1, 0, none⟩ = some (.int .i64 0) := (hb1.cell (p := ⟨w.heap.size + 1 + 1, 0, none⟩) (by simp)).trans (by simp [go_sem])
  have g1 : w1.cell? ⟨w.heap.size + 1 + 1, 1, none⟩ = some (.int .i64 0) := (hb1.cell (p := ⟨w.heap.size + 1 + 1, 1, none⟩) (by simp)).trans (by simp [go_sem])
  have g2 : w1.cell? ⟨w.heap.size + 1 + 1, 2, none⟩ = some (.int .i64 0) := (hb1.cell (p := ⟨w.heap.size + 1 + 1, 2, none⟩) (by simp)).trans (by simp [go_sem])
  have f0 : w1.frozen? ⟨w.heap.size + 1 + 1, 0, none⟩ = false := (hb1.frozen (p := ⟨w.heap.size + 1 + 1, 0, none⟩) (by simp)).trans (by simp [go_sem])
  have f1 : w1.frozen? ⟨w.heap.size + 1 + 1, 1, none⟩ = false := (hb1.frozen (p := ⟨w.heap.size + 1 + 1, 1, none⟩) (by simp)).trans (by simp [go_sem])
  have f2 : w1.frozen? ⟨w.heap.size + 1 + 1, 2, none⟩ = false := (hb1.frozen (p := ⟨w.heap.size + 1 + 1, 2, none⟩) (by simp)).trans (by simp [go_sem])
  have hz : w.heap.size + 1 + 1 < w1.heap.size := by have := hb1.size; simp at this; omega
  clear hb1
  go_wp2
  exact bodyPost_ret (v := .agg #[.int .i64 (Vec.add1 a0 b0), .int .i64 (Vec.add1 a1 b1), .int .i64 (Vec.add1 a2 b2)]) (by simp [results, Try.results43, go_sem, g0, g1, g2]) rfl ⟨rfl, by (repeat' (first | (with_reducible exact Below.refl _ _) | (with_reducible assumption) | (with_reducible refine Below.alloc ?_ ?_ _) | (with_reducible refine Go.Proofs.Ytbfpljnfalopdaa.L.below_drewN ?_ _) | (with_reducible refine Below.drew ?_) | (with_reducible refine Below.setCell ?_ ?_ _) | (with_reducible refine Below.frame ?_ _) | go_size))⟩

set_option maxRecDepth 100000 in
set_option maxRecDepth 100000 in
set_option maxHeartbeats 400000 in
theorem gsub (a b : Vec.V) : Gives Try.prog 61 #[a.val, b.val] (Vec.sub a b).val := by
  obtain ⟨a0, a1, a2⟩ := a
  obtain ⟨b0, b1, b2⟩ := b
  intro w
  unfold Vec.V.val
  go_enter Try.func61, Try.ntmps61
  go_wp2_with fail
  refine (eachSub _ _ _ _ _ _ _).mono ?_
  rintro e w1 ⟨rfl, hb1⟩
  have hbw := keeps_trans (a := w) (by (repeat' (first | (with_reducible exact Below.refl _ _) | (with_reducible assumption) | (with_reducible refine Below.alloc ?_ ?_ _) | (with_reducible refine Go.Proofs.Ytbfpljnfalopdaa.L.below_drewN ?_ _) | (with_reducible refine Below.drew ?_) | (with_reducible refine Below.setCell ?_ ?_ _) | (with_reducible refine Below.frame ?_ _) | go_size))) hb1
  have g0 : w1.cell? ⟨w.heap.size + 1 + 1, 0, none⟩ = some (.int .i64 0) := (hb1.cell (p := ⟨w.heap.size + 1 + 1, 0, none⟩) (by simp)).trans (by simp [go_sem])
  have g1 : w1.cell? ⟨w.heap.size + 1 + 1, 1, none⟩ = some (.int .i64 0) := (hb1.cell (p := ⟨w.heap.size + 1 + 1, 1, none⟩) (by simp)).trans (by simp [go_sem])
  have g2 : w1.cell? ⟨w.heap.size + 1 + 1, 2, none⟩ = some (.int .i64 0) := (hb1.cell (p := ⟨w.heap.size + 1 + 1, 2, none⟩) (by simp)).trans (by simp [go_sem])
  have f0 : w1.frozen? ⟨w.heap.size + 1 + 1, 0, none⟩ = false := (hb1.frozen (p := ⟨w.heap.size + 1 + 1, 0, none⟩) (by simp)).trans (by simp [go_sem])
  have f1 : w1.frozen? ⟨w.heap.size + 1 + 1, 1, none⟩ = false := (hb1.frozen (p := ⟨w.heap.size + 1 + 1, 1, none⟩) (by simp)).trans (by simp [go_sem])
  have f2 : w1.frozen? ⟨w.heap.size + 1 + 1, 2, none⟩ = false := (hb1.frozen (p := ⟨w.heap.size + 1 + 1, 2, none⟩) (by simp)).trans (by simp [go_sem])
  have hz : w.heap.size + 1 + 1 < w1.heap.size := by have := hb1.size; simp at this; omega
  clear hb1
  go_wp2
  exact bodyPost_ret (v := .agg #[.int .i64 (Vec.sub1 a0 b0), .int .i64 (Vec.sub1 a1 b1), .int .i64 (Vec.sub1 a2 b2)]) (by simp [results, Try.results61, go_sem, g0, g1, g2]) rfl ⟨rfl, by (repeat' (first | (with_reducible exact Below.refl _ _) | (with_reducible assumption) | (with_reducible refine Below.alloc ?_ ?_ _) | (with_reducible refine Go.Proofs.Ytbfpljnfalopdaa.L.below_drewN ?_ _) | (with_reducible refine Below.drew ?_) | (with_reducible refine Below.setCell ?_ ?_ _) | (with_reducible refine Below.frame ?_ _) | go_size))⟩

set_option maxRecDepth 100000 in
set_option maxRecDepth 100000 in
set_option maxHeartbeats 1000000 in
theorem gradd (a b : Vec.V) : Gives Try.prog 16 #[a.val, b.val] (Vec.add a b).val := by
  obtain ⟨a0, a1, a2⟩ := a
  obtain ⟨b0, b1, b2⟩ := b
  have a01 := Vec.cut_lo a0 1099511627776 (by omega)
  have a02 := Vec.cut_hi a0 1099511627776 (by omega)
  have b01 := Vec.cut_lo b0 1099511627776 (by omega)
  have b02 := Vec.cut_hi b0 1099511627776 (by omega)
  have s0 : IntKind.i64.wrap (Vec.cut a0 1099511627776 + Vec.cut b0 1099511627776) = Vec.cut a0 1099511627776 + Vec.cut b0 1099511627776 := by rw [IntKind.wrap_i64]; omega
  have a11 := Vec.cut_lo a1 1099511627776 (by omega)
  have a12 := Vec.cut_hi a1 1099511627776 (by omega)
  have b11 := Vec.cut_lo b1 1099511627776 (by omega)
  have b12 := Vec.cut_hi b1 1099511627776 (by omega)
  have s1 : IntKind.i64.wrap (Vec.cut a1 1099511627776 + Vec.cut b1 1099511627776) = Vec.cut a1 1099511627776 + Vec.cut b1 1099511627776 := by rw [IntKind.wrap_i64]; omega
  have a21 := Vec.cut_lo a2 1099511627776 (by omega)
  have a22 := Vec.cut_hi a2 1099511627776 (by omega)
  have b21 := Vec.cut_lo b2 1099511627776 (by omega)
  have b22 := Vec.cut_hi b2 1099511627776 (by omega)
  have s2 : IntKind.i64.wrap (Vec.cut a2 1099511627776 + Vec.cut b2 1099511627776) = Vec.cut a2 1099511627776 + Vec.cut b2 1099511627776 := by rw [IntKind.wrap_i64]; omega
  intro w
  unfold Vec.V.val
  go_enter Try.func16, Try.ntmps16
  go_wp2
  refine wp_loop_rounds 4 ?_
  rw [rounds_succ]
  go_wp2_with fail
  refine region_tail 12 (by kernel_rfl) (by kernel_rfl) ?_
  simp only [List.take_succ_cons, List.take_zero, List.drop_succ_cons, List.drop_zero]
  repeat (first | still_step | still_call (rcut_still _ _ _ (by omega) (by omega)))
  refine wpStill_nil ?_
  go_wp2
  rw [rounds_succ]
  go_wp2_with fail
  refine region_tail 12 (by kernel_rfl) (by kernel_rfl) ?_
  simp only [List.take_succ_cons, List.take_zero, List.drop_succ_cons, List.drop_zero]
  repeat (first | still_step | still_call (rcut_still _ _ _ (by omega) (by omega)))
  refine wpStill_nil ?_
  go_wp2
  rw [rounds_succ]
  go_wp2_with fail
  refine region_tail 12 (by kernel_rfl) (by kernel_rfl) ?_
  simp only [List.take_succ_cons, List.take_zero, List.drop_succ_cons, List.drop_zero]
  repeat (first | still_step | still_call (rcut_still _ _ _ (by omega) (by omega)))
  refine wpStill_nil ?_
  go_wp2
  rw [rounds_succ]
  go_wp2
  go_returns
  exact ⟨rfl, by (repeat' (first | (with_reducible exact Below.refl _ _) | (with_reducible assumption) | (with_reducible refine Below.alloc ?_ ?_ _) | (with_reducible refine Go.Proofs.Ytbfpljnfalopdaa.L.below_drewN ?_ _) | (with_reducible refine Below.drew ?_) | (with_reducible refine Below.setCell ?_ ?_ _) | (with_reducible refine Below.frame ?_ _) | go_size))⟩

set_option maxRecDepth 100000 in
set_option maxRecDepth 100000 in
set_option maxHeartbeats 1000000 in
theorem gfits (a b : Vec.V) : Gives Try.prog 42 #[a.val, b.val] (.bool (Vec.fits a b)) := by
  obtain ⟨a0, a1, a2⟩ := a
  obtain ⟨b0, b1, b2⟩ := b
  intro w
  have hv : Vec.fits ⟨a0, a1, a2⟩ ⟨b0, b1, b2⟩ = (decide (a0 ≤ b0) && (decide (a1 ≤ b1) && decide (a2 ≤ b2))) := rfl
  have Hv := Lib.hid hv
  clear hv
  unfold Vec.V.val
  obtain ⟨i0, i1, i2⟩ := idx a0 a1 a2
  by_cases h0 : b0 < a0
  · go_enter Try.func42, Try.ntmps42
    go_wp2
    refine wp_loop_rounds 1 ?_
    rw [rounds_succ]
    go_wp2
    go_returns
    exact ⟨ret_bool (by rw [Hv.out]; simp; omega), by (repeat' (first | (with_reducible exact Below.refl _ _) | (with_reducible assumption) | (with_reducible refine Below.alloc ?_ ?_ _) | (with_reducible refine Go.Proofs.Ytbfpljnfalopdaa.L.below_drewN ?_ _) | (with_reducible refine Below.drew ?_) | (with_reducible refine Below.setCell ?_ ?_ _) | (with_reducible refine Below.frame ?_ _) | go_size))⟩
  by_cases h1 : b1 < a1
  · go_enter Try.func42, Try.ntmps42
    go_wp2
    refine wp_loop_rounds 2 ?_
    rw [rounds_succ]
    go_wp2
    rw [rounds_succ]
    go_wp2
    go_returns
    exact ⟨ret_bool (by rw [Hv.out]; simp; omega), by (repeat' (first | (with_reducible exact Below.refl _ _) | (with_reducible assumption) | (with_reducible refine Below.alloc ?_ ?_ _) | (with_reducible refine Go.Proofs.Ytbfpljnfalopdaa.L.below_drewN ?_ _) | (with_reducible refine Below.drew ?_) | (with_reducible refine Below.setCell ?_ ?_ _) | (with_reducible refine Below.frame ?_ _) | go_size))⟩
  by_cases h2 : b2 < a2
  · go_enter Try.func42, Try.ntmps42
    go_wp2
    refine wp_loop_rounds 3 ?_
    rw [rounds_succ]
    go_wp2
    rw [rounds_succ]
    go_wp2
    rw [rounds_succ]
    go_wp2
    go_returns
    exact ⟨ret_bool (by rw [Hv.out]; simp; omega), by (repeat' (first | (with_reducible exact Below.refl _ _) | (with_reducible assumption) | (with_reducible refine Below.alloc ?_ ?_ _) | (with_reducible refine Go.Proofs.Ytbfpljnfalopdaa.L.below_drewN ?_ _) | (with_reducible refine Below.drew ?_) | (with_reducible refine Below.setCell ?_ ?_ _) | (with_reducible refine Below.frame ?_ _) | go_size))⟩
  · go_enter Try.func42, Try.ntmps42
    go_wp2
    refine wp_loop_rounds 4 ?_
    rw [rounds_succ]
    go_wp2
    rw [rounds_succ]
    go_wp2
    rw [rounds_succ]
    go_wp2
    rw [rounds_succ]
    go_wp2
    go_returns
    exact ⟨ret_bool (by rw [Hv.out]; simp; omega), by (repeat' (first | (with_reducible exact Below.refl _ _) | (with_reducible assumption) | (with_reducible refine Below.alloc ?_ ?_ _) | (with_reducible refine Go.Proofs.Ytbfpljnfalopdaa.L.below_drewN ?_ _) | (with_reducible refine Below.drew ?_) | (with_reducible refine Below.setCell ?_ ?_ _) | (with_reducible refine Below.frame ?_ _) | go_size))⟩

set_option maxRecDepth 100000 in
set_option maxRecDepth 100000 in
set_option maxHeartbeats 1000000 in
theorem grfits (a b : Vec.V) : Gives Try.prog 18 #[a.val, b.val] (.bool (Vec.fits a b)) := by
  obtain ⟨a0, a1, a2⟩ := a
  obtain ⟨b0, b1, b2⟩ := b
  intro w
  have hv : Vec.fits ⟨a0, a1, a2⟩ ⟨b0, b1, b2⟩ = (decide (a0 ≤ b0) && (decide (a1 ≤ b1) && decide (a2 ≤ b2))) := rfl
  have Hv := Lib.hid hv
  clear hv
  unfold Vec.V.val
  obtain ⟨i0, i1, i2⟩ := idx a0 a1 a2
  by_cases h0 : b0 < a0
  · go_enter Try.func18, Try.ntmps18
    go_wp2
    refine wp_loop_rounds 1 ?_
    rw [rounds_succ]
    go_wp2
    go_quiet (fail)
    go_wp2
    go_returns
    exact ⟨ret_bool (by rw [Hv.out]; simp; omega), by (repeat' (first | (with_reducible exact Below.refl _ _) | (with_reducible assumption) | (with_reducible refine Below.alloc ?_ ?_ _) | (with_reducible refine Go.Proofs.Ytbfpljnfalopdaa.L.below_drewN ?_ _) | (with_reducible refine Below.drew ?_) | (with_reducible refine Below.setCell ?_ ?_ _) | (with_reducible refine Below.frame ?_ _) | go_size))⟩
  by_cases h1 : b1 < a1
  · go_enter Try.func18, Try.ntmps18
    go_wp2
    refine wp_loop_rounds 2 ?_
    rw [rounds_succ]
    go_wp2
    go_quiet (fail)
    go_wp2
    rw [rounds_succ]
    go_wp2
    go_quiet (fail)
    go_wp2
    go_returns
    exact ⟨ret_bool (by rw [Hv.out]; simp; omega), by (repeat' (first | (with_reducible exact Below.refl _ _) | (with_reducible assumption) | (with_reducible refine Below.alloc ?_ ?_ _) | (with_reducible refine Go.Proofs.Ytbfpljnfalopdaa.L.below_drewN ?_ _) | (with_reducible refine Below.drew ?_) | (with_reducible refine Below.setCell ?_ ?_ _) | (with_reducible refine Below.frame ?_ _) | go_size))⟩
  by_cases h2 : b2 < a2
  · go_enter Try.func18, Try.ntmps18
    go_wp2
    refine wp_loop_rounds 3 ?_
    rw [rounds_succ]
    go_wp2
    go_quiet (fail)
    go_wp2
    rw [rounds_succ]
    go_wp2
    go_quiet (fail)
    go_wp2
    rw [rounds_succ]
    go_wp2
    go_quiet (fail)
    go_wp2
    go_returns
    exact ⟨ret_bool (by rw [Hv.out]; simp; omega), by (repeat' (first | (with_reducible exact Below.refl _ _) | (with_reducible assumption) | (with_reducible refine Below.alloc ?_ ?_ _) | (with_reducible refine Go.Proofs.Ytbfpljnfalopdaa.L.below_drewN ?_ _) | (with_reducible refine Below.drew ?_) | (with_reducible refine Below.setCell ?_ ?_ _) | (with_reducible refine Below.frame ?_ _) | go_size))⟩
  · go_enter Try.func18, Try.ntmps18
    go_wp2
    refine wp_loop_rounds 4 ?_
    rw [rounds_succ]
    go_wp2
    go_quiet (fail)
    go_wp2
    rw [rounds_succ]
    go_wp2
    go_quiet (fail)
    go_wp2
    rw [rounds_succ]
    go_wp2
    go_quiet (fail)
    go_wp2
    rw [rounds_succ]
    go_wp2
    go_returns
    exact ⟨ret_bool (by rw [Hv.out]; simp; omega), by (repeat' (first | (with_reducible exact Below.refl _ _) | (with_reducible assumption) | (with_reducible refine Below.alloc ?_ ?_ _) | (with_reducible refine Go.Proofs.Ytbfpljnfalopdaa.L.below_drewN ?_ _) | (with_reducible refine Below.drew ?_) | (with_reducible refine Below.setCell ?_ ?_ _) | (with_reducible refine Below.frame ?_ _) | go_size))⟩

end Go.Proofs.Ytbfpljnfalopdaa.VecW

namespace Go.Proofs.Ytbfpljnfalopdaa.VecW
open Go.RowKit Go.Proofs.Ytbfpljnfalopdaa.L

theorem gover (a b : Vec.V) : Gives Try.prog 45 #[a.val, b.val] (.bool (!Vec.fits a b)) := by
  have g := gfits a b
  obtain ⟨a0, a1, a2⟩ := a
  obtain ⟨b0, b1, b2⟩ := b
  intro w
  unfold Vec.V.val at g ⊢
  go_enter Try.func45, Try.ntmps45
  go_wp2_with fail
  refine (g _).mono ?_
  rintro e w1 ⟨rfl, hb1⟩
  have hbw := keeps_trans (a := w) (by (repeat' (first | (with_reducible exact Below.refl _ _) | (with_reducible assumption) | (with_reducible refine Below.alloc ?_ ?_ _) | (with_reducible refine Go.Proofs.Ytbfpljnfalopdaa.L.below_drewN ?_ _) | (with_reducible refine Below.drew ?_) | (with_reducible refine Below.setCell ?_ ?_ _) | (with_reducible refine Below.frame ?_ _) | go_size))) hb1
  clear hb1
  go_wp2
  go_returns
  exact ⟨rfl, hbw⟩

set_option maxRecDepth 100000 in
set_option maxRecDepth 100000 in
set_option maxHeartbeats 1000000 in
theorem grvalid (a : Vec.V) : Gives Try.prog 12 #[a.val] (.bool (Vec.valid a)) := by
  obtain ⟨a0, a1, a2⟩ := a
  intro w
  have hv := Lib.hid (Vec.valid_iff ⟨a0, a1, a2⟩)
  unfold Vec.V.val
  obtain ⟨i0, i1, i2⟩ := idx a0 a1 a2
  rcases (by omega : a0 < 0 ∨ 1048576 < a0 ∨ (0 ≤ a0 ∧ a0 ≤ 1048576)) with h0 | h0 | ⟨h0, k0⟩
  · go_enter Try.func12, Try.ntmps12
    go_wp2
    refine wp_loop_rounds 1 ?_
    rw [rounds_succ]
    go_wp2
    go_returns
    exact ⟨ret_bool (by have := hv.out; exact (Bool.eq_false_iff.2 fun hh => by have := this.1 hh; omega).symm), by (repeat' (first | (with_reducible exact Below.refl _ _) | (with_reducible assumption) | (with_reducible refine Below.alloc ?_ ?_ _) | (with_reducible refine Go.Proofs.Ytbfpljnfalopdaa.L.below_drewN ?_ _) | (with_reducible refine Below.drew ?_) | (with_reducible refine Below.setCell ?_ ?_ _) | (with_reducible refine Below.frame ?_ _) | go_size))⟩
  · go_enter Try.func12, Try.ntmps12
    go_wp2
    refine wp_loop_rounds 1 ?_
    rw [rounds_succ]
    go_wp2
    go_returns
    exact ⟨ret_bool (by have := hv.out; exact (Bool.eq_false_iff.2 fun hh => by have := this.1 hh; omega).symm), by (repeat' (first | (with_reducible exact Below.refl _ _) | (with_reducible assumption) | (with_reducible refine Below.alloc ?_ ?_ _) | (with_reducible refine Go.Proofs.Ytbfpljnfalopdaa.L.below_drewN ?_ _) | (with_reducible refine Below.drew ?_) | (with_reducible refine Below.setCell ?_ ?_ _) | (with_reducible refine Below.frame ?_ _) | go_size))⟩
  rcases (by omega : a1 < 0 ∨ 1048576 < a1 ∨ (0 ≤ a1 ∧ a1 ≤ 1048576)) with h1 | h1 | ⟨h1, k1⟩
  · go_enter Try.func12, Try.ntmps12
    go_wp2
    refine wp_loop_rounds 2 ?_
    rw [rounds_succ]
    go_wp2
    rw [rounds_succ]
    go_wp2
    go_returns
    exact ⟨ret_bool (by have := hv.out; exact (Bool.eq_false_iff.2 fun hh => by have := this.1 hh; omega).symm), by (repeat' (first | (with_reducible exact Below.refl _ _) | (with_reducible assumption) | (with_reducible refine Below.alloc ?_ ?_ _) | (with_reducible refine Go.Proofs.Ytbfpljnfalopdaa.L.below_drewN ?_ _) | (with_reducible refine Below.drew ?_) | (with_reducible refine Below.setCell ?_ ?_ _) | (with_reducible refine Below.frame ?_ _) | go_size))⟩
  · go_enter Try.func12, Try.ntmps12
    go_wp2
    refine wp_loop_rounds 2 ?_
    rw [rounds_succ]
    go_wp2
    rw [rounds_succ]
    go_wp2
    go_returns
    exact ⟨ret_bool (by have := hv.out; exact (Bool.eq_false_iff.2 fun hh => by have := this.1 hh; omega).symm), by (repeat' (first | (with_reducible exact Below.refl _ _) | (with_reducible assumption) | (with_reducible refine Below.alloc ?_ ?_ _) | (with_reducible refine Go.Proofs.Ytbfpljnfalopdaa.L.below_drewN ?_ _) | (with_reducible refine Below.drew ?_) | (with_reducible refine Below.setCell ?_ ?_ _) | (with_reducible refine Below.frame ?_ _) | go_size))⟩
  rcases (by omega : a2 < 0 ∨ 1048576 < a2 ∨ (0 ≤ a2 ∧ a2 ≤ 1048576)) with h2 | h2 | ⟨h2, k2⟩
  · go_enter Try.func12, Try.ntmps12
    go_wp2
    refine wp_loop_rounds 3 ?_
    rw [rounds_succ]
    go_wp2
    rw [rounds_succ]
    go_wp2
    rw [rounds_succ]
    go_wp2
    go_returns
    exact ⟨ret_bool (by have := hv.out; exact (Bool.eq_false_iff.2 fun hh => by have := this.1 hh; omega).symm), by (repeat' (first | (with_reducible exact Below.refl _ _) | (with_reducible assumption) | (with_reducible refine Below.alloc ?_ ?_ _) | (with_reducible refine Go.Proofs.Ytbfpljnfalopdaa.L.below_drewN ?_ _) | (with_reducible refine Below.drew ?_) | (with_reducible refine Below.setCell ?_ ?_ _) | (with_reducible refine Below.frame ?_ _) | go_size))⟩
  · go_enter Try.func12, Try.ntmps12
    go_wp2
    refine wp_loop_rounds 3 ?_
    rw [rounds_succ]
    go_wp2
    rw [rounds_succ]
    go_wp2
    rw [rounds_succ]
    go_wp2
    go_returns
    exact ⟨ret_bool (by have := hv.out; exact (Bool.eq_false_iff.2 fun hh => by have := this.1 hh; omega).symm), by (repeat' (first | (with_reducible exact Below.refl _ _) | (with_reducible assumption) | (with_reducible refine Below.alloc ?_ ?_ _) | (with_reducible refine Go.Proofs.Ytbfpljnfalopdaa.L.below_drewN ?_ _) | (with_reducible refine Below.drew ?_) | (with_reducible refine Below.setCell ?_ ?_ _) | (with_reducible refine Below.frame ?_ _) | go_size))⟩
  · go_enter Try.func12, Try.ntmps12
    go_wp2
    refine wp_loop_rounds 4 ?_
    rw [rounds_succ]
    go_wp2
    rw [rounds_succ]
    go_wp2
    rw [rounds_succ]
    go_wp2
    rw [rounds_succ]
    go_wp2
    go_returns
    exact ⟨ret_bool (by have := hv.out; exact (this.2 ⟨⟨by omega, by omega⟩, ⟨by omega, by omega⟩, ⟨by omega, by omega⟩⟩).symm), by (repeat' (first | (with_reducible exact Below.refl _ _) | (with_reducible assumption) | (with_reducible refine Below.alloc ?_ ?_ _) | (with_reducible refine Go.Proofs.Ytbfpljnfalopdaa.L.below_drewN ?_ _) | (with_reducible refine Below.drew ?_) | (with_reducible refine Below.setCell ?_ ?_ _) | (with_reducible refine Below.frame ?_ _) | go_size))⟩

end Go.Proofs.Ytbfpljnfalopdaa.VecW
