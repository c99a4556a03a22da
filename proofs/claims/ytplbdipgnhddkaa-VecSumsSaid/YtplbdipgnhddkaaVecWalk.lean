/-
  The contracts of package vec's functions and of its reference's.
-/
import Derived.Test.YtplbdipgnhddkaaFixLaws
import Derived.Test.YtplbdipgnhddkaaVecPlain
import Derived.Test.YtplbdipgnhddkaaLibB
set_option linter.unusedVariables false
set_option linter.unusedSimpArgs false
namespace Go.Proofs.Ytplbdipgnhddkaa.VecW
open Go.RowKit Go.Proofs.Ytplbdipgnhddkaa.L

/-- An amount as a value. -/
def _root_.Go.Proofs.Ytplbdipgnhddkaa.Vec.V.val (v : Vec.V) : Value := .agg #[.int .i64 v.x, .int .i64 v.y, .int .i64 v.z]

theorem idx (x y z : Int) : (∀ w : World, (Instr.index 23 (.agg #[.int .i64 x, .int .i64 y, .int .i64 z]) (.int .i64 0)).run Try.prog w = .ok (.int .i64 x) w) ∧
    (∀ w : World, (Instr.index 23 (.agg #[.int .i64 x, .int .i64 y, .int .i64 z]) (.int .i64 1)).run Try.prog w = .ok (.int .i64 y) w) ∧
    (∀ w : World, (Instr.index 23 (.agg #[.int .i64 x, .int .i64 y, .int .i64 z]) (.int .i64 2)).run Try.prog w = .ok (.int .i64 z) w) :=
  ⟨fun _ => by kernel_rfl, fun _ => by kernel_rfl, fun _ => by kernel_rfl⟩

theorem vcut_any (n m : Int) (w : World) (h : 0 ≤ m) (h' : m ≤ 1099511627776) : Calls Try.prog 60 #[.int .i64 n, .int .i64 m] w fun e w' => e = .returned (.int .i64 (Vec.cut n m)) ∧ w = w' := by
  go_enter Try.func60, Try.ntmps60
  go_wp2
  go_ret
  exact ⟨rfl, rfl⟩
theorem rcut_any (n m : Int) (w : World) (h : 0 ≤ m) (h' : m ≤ 1099511627776) : Calls Try.prog 61 #[.int .i64 n, .int .i64 m] w fun e w' => e = .returned (.int .i64 (Vec.cut n m)) ∧ w = w' := by
  have hc := Lib.hid (Vec.cut_other n m h)
  go_enter Try.func61, Try.ntmps61
  go_wp2
  go_ret
  exact ⟨ret_int hc.out, rfl⟩

set_option maxHeartbeats 400000 in
theorem cloAdd (x y : Int) (w : World) : Calls Try.prog 59 #[.int .i64 x, .int .i64 y] w fun e w' => e = .returned (.int .i64 (Vec.add1 x y)) ∧ w = w' := by
  have a1 := Vec.cut_lo x 1099511627776 (by omega)
  have a2 := Vec.cut_hi x 1099511627776 (by omega)
  have b1 := Vec.cut_lo y 1099511627776 (by omega)
  have b2 := Vec.cut_hi y 1099511627776 (by omega)
  go_enter Try.func59, Try.ntmps59
  go_wp2_with (go_at_call 60; (with_reducible refine (vcut_any _ _ _ (by omega) (by omega)).mono ?_); rintro e w' ⟨rfl, rfl⟩)
  go_ret
  exact ⟨rfl, rfl⟩

set_option maxHeartbeats 400000 in
theorem cloSub (x y : Int) (w : World) : Calls Try.prog 62 #[.int .i64 x, .int .i64 y] w fun e w' => e = .returned (.int .i64 (Vec.sub1 x y)) ∧ w = w' := by
  have a1 := Vec.cut_lo x 1099511627776 (by omega)
  have a2 := Vec.cut_hi x 1099511627776 (by omega)
  have b1 := Vec.cut_lo y 1099511627776 (by omega)
  have b2 := Vec.cut_hi y 1099511627776 (by omega)
  go_enter Try.func62, Try.ntmps62
  go_wp2_with (go_at_call 60; (with_reducible refine (vcut_any _ _ _ (by omega) (by omega)).mono ?_); rintro e w' ⟨rfl, rfl⟩)
  go_ret
  exact ⟨rfl, rfl⟩

set_option maxHeartbeats 400000 in
theorem cloMin (x y : Int) (w : World) : Calls Try.prog 63 #[.int .i64 x, .int .i64 y] w fun e w' => e = .returned (.int .i64 (Vec.min1 x y)) ∧ w = w' := by
  go_enter Try.func63, Try.ntmps63
  go_wp2
  go_ret
  exact ⟨rfl, rfl⟩

theorem mul_wrap (x n : Int) : ∃ p : Int, IntKind.i64.wrap (Vec.cut x 1099511627776 * Vec.cut n 1048576) = p ∧ Vec.mul1 x n = Vec.cut p 1099511627776 := by
  refine ⟨_, rfl, ?_⟩
  have a1 := Vec.cut_lo x 1099511627776 (by omega)
  have a2 := Vec.cut_hi x 1099511627776 (by omega)
  have b1 := Vec.cut_lo n 1048576 (by omega)
  have b2 := Vec.cut_hi n 1048576 (by omega)
  unfold Vec.mul1
  generalize Vec.cut x 1099511627776 = u at *
  generalize Vec.cut n 1048576 = v at *
  have h : (u * v).natAbs ≤ 1099511627776 * 1048576 := by
    rw [Int.natAbs_mul]
    exact Nat.mul_le_mul (by omega) (by omega)
  rw [IntKind.wrap_i64]
  congr 1
  omega

theorem vcut_still (n m : Int) (w : World) (h : 0 ≤ m) (h' : m ≤ 1099511627776) : Calls Try.prog 60 #[.int .i64 n, .int .i64 m] w fun e w' => e = .returned (.int .i64 (Vec.cut n m)) ∧ w' = w :=
  (vcut_any n m w h h').mono fun _ _ ⟨he, hw⟩ => ⟨he, hw.symm⟩

set_option maxHeartbeats 400000 in
theorem cloTimes (x y n : Int) (b : Nat) (w : World) (hc : w.cell? ⟨b, 0, none⟩ = some (.int .i64 n)) : Calls Try.prog 64 #[.int .i64 x, .int .i64 y, .pointer (some ⟨b, 0, none⟩)] w fun e w' => e = .returned (.int .i64 (Vec.mul1 x n)) ∧ w.drew = w' := by
  obtain ⟨p, hp, hv⟩ := mul_wrap x n
  rw [hv]
  clear hv
  go_enter Try.func64, Try.ntmps64
  go_wp2
  refine region_whole (by kernel_rfl) (by kernel_rfl) ?_
  repeat (first | still_step | still_call (vcut_still _ _ _ (by omega) (by omega)))
  refine wpStill_nil ?_
  go_wp2
  go_ret
  exact ⟨rfl, rfl⟩

set_option maxHeartbeats 1000000 in
theorem eachAdd (a0 a1 a2 b0 b1 b2 : Int) (w : World) : Calls Try.prog 58 #[.agg #[.int .i64 a0, .int .i64 a1, .int .i64 a2], .agg #[.int .i64 b0, .int .i64 b1, .int .i64 b2], .func (.func 59) #[] #[]] w fun e w' =>
    e = .returned (.agg #[.int .i64 (Vec.add1 a0 b0), .int .i64 (Vec.add1 a1 b1), .int .i64 (Vec.add1 a2 b2)]) ∧ Below w.heap.size w w' := by
  obtain ⟨i0, i1, i2⟩ := idx b0 b1 b2
  go_enter Try.func58, Try.ntmps58
  go_wp2
  refine wp_loop_rounds 4 ?_
  repeat any_goals (rw [rounds_succ]; go_wp2_with (go_at_call 59; (with_reducible refine (cloAdd _ _ _).mono ?_); rintro e w' ⟨rfl, rfl⟩))
  go_returns
  exact ⟨rfl, by go_grown⟩

set_option maxHeartbeats 1000000 in
theorem eachSub (a0 a1 a2 b0 b1 b2 : Int) (w : World) : Calls Try.prog 58 #[.agg #[.int .i64 a0, .int .i64 a1, .int .i64 a2], .agg #[.int .i64 b0, .int .i64 b1, .int .i64 b2], .func (.func 62) #[] #[]] w fun e w' =>
    e = .returned (.agg #[.int .i64 (Vec.sub1 a0 b0), .int .i64 (Vec.sub1 a1 b1), .int .i64 (Vec.sub1 a2 b2)]) ∧ Below w.heap.size w w' := by
  obtain ⟨i0, i1, i2⟩ := idx b0 b1 b2
  go_enter Try.func58, Try.ntmps58
  go_wp2
  refine wp_loop_rounds 4 ?_
  repeat any_goals (rw [rounds_succ]; go_wp2_with (go_at_call 62; (with_reducible refine (cloSub _ _ _).mono ?_); rintro e w' ⟨rfl, rfl⟩))
  go_returns
  exact ⟨rfl, by go_grown⟩

set_option maxHeartbeats 1000000 in
theorem eachMin (a0 a1 a2 b0 b1 b2 : Int) (w : World) : Calls Try.prog 58 #[.agg #[.int .i64 a0, .int .i64 a1, .int .i64 a2], .agg #[.int .i64 b0, .int .i64 b1, .int .i64 b2], .func (.func 63) #[] #[]] w fun e w' =>
    e = .returned (.agg #[.int .i64 (Vec.min1 a0 b0), .int .i64 (Vec.min1 a1 b1), .int .i64 (Vec.min1 a2 b2)]) ∧ Below w.heap.size w w' := by
  obtain ⟨i0, i1, i2⟩ := idx b0 b1 b2
  go_enter Try.func58, Try.ntmps58
  go_wp2
  refine wp_loop_rounds 4 ?_
  repeat any_goals (rw [rounds_succ]; go_wp2_with (go_at_call 63; (with_reducible refine (cloMin _ _ _).mono ?_); rintro e w' ⟨rfl, rfl⟩))
  go_returns
  exact ⟨rfl, by go_grown⟩

end Go.Proofs.Ytplbdipgnhddkaa.VecW
