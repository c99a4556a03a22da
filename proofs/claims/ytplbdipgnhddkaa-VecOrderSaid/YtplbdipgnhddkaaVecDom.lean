/-
  The contracts of vec.Dominant and of the reference's, and chapter 3's examples.
-/
import Derived.Test.YtplbdipgnhddkaaVecValid
set_option linter.unusedVariables false
set_option linter.unusedSimpArgs false
namespace Go.Proofs.Ytplbdipgnhddkaa.VecW
open Go.RowKit Go.Proofs.Ytplbdipgnhddkaa.L

/-- An amount of machine integers. -/
def In64 (v : Vec.V) : Prop := ((-9223372036854775808 ≤ v.x ∧ v.x ≤ 9223372036854775807) ∧ (-9223372036854775808 ≤ v.y ∧ v.y ≤ 9223372036854775807)) ∧ (-9223372036854775808 ≤ v.z ∧ v.z ≤ 9223372036854775807)

theorem rat (a b : Int) (ha0 : -9223372036854775808 ≤ a) (ha1 : a ≤ 9223372036854775807) (hb0 : -9223372036854775808 ≤ b) (hb1 : b ≤ 9223372036854775807) : ∃ r : Nat, Fix.ratio a b = r ∧ ∀ w : World, Calls Try.prog 49 #[.int .i64 a, .int .i64 b] w fun e w' => e = .returned (.int .u64 r) ∧ ∃ n, w' = w.drewN n :=
  ⟨_, rfl, fun w => FixW.ratio_any a b ha0 ha1 hb0 hb1 w⟩
theorem rratio_still (a b : Int) (ha : -9223372036854775808 ≤ a) (ha' : a ≤ 9223372036854775807) (hb : -9223372036854775808 ≤ b) (hb' : b ≤ 9223372036854775807) (w : World) : Calls Try.prog 50 #[.int .i64 a, .int .i64 b] w fun e w' => e = .returned (.int .u64 (Fix.ratio a b)) ∧ w' = w := by
  by_cases h0 : a ≤ 0
  · have hv := Lib.hid (show Fix.ratio a b = 0 by rw [Fix.ratio, Fix.quo, if_pos (by omega)])
    go_enter Try.func50, Try.ntmps50
    go_wp2
    go_ret
    exact ⟨ret_int (by rw [hv.out]; rfl), rfl⟩
  by_cases h1 : b ≤ 0
  · have hv := Lib.hid (show Fix.ratio a b = 18446744073709551615 by rw [Fix.ratio, Fix.quo, if_neg (by omega), if_pos (by omega)]; rfl)
    go_enter Try.func50, Try.ntmps50
    go_wp2
    go_ret
    exact ⟨ret_int (by rw [hv.out]; rfl), rfl⟩
  · obtain ⟨m, rfl⟩ := Int.eq_ofNat_of_zero_le (show 0 ≤ a by omega)
    obtain ⟨k, rfl⟩ := Int.eq_ofNat_of_zero_le (show 0 ≤ b by omega)
    have hv := Lib.hid (show Fix.ratio m k = Fix.cut (m * Fix.one / k) by rw [Fix.ratio, Fix.quo, if_neg (by omega), if_neg (by omega)]; rfl)
    have hc := Lib.hid (fun w => FixW.over_any m k (by unfold Fix.top; omega) (by omega) (by unfold Fix.top; omega) w)
    go_enter Try.func50, Try.ntmps50
    go_wp2_with fail
    refine (hc.out _).mono ?_
    rintro e w1 ⟨rfl, rfl⟩
    go_wp2
    go_ret
    exact ⟨ret_int (by rw [hv.out]), rfl⟩

theorem rrat (a b : Int) (ha0 : -9223372036854775808 ≤ a) (ha1 : a ≤ 9223372036854775807) (hb0 : -9223372036854775808 ≤ b) (hb1 : b ≤ 9223372036854775807) : ∃ r : Nat, Fix.ratio a b = r ∧ ∀ w : World, Calls Try.prog 50 #[.int .i64 a, .int .i64 b] w fun e w' => e = .returned (.int .u64 r) ∧ w' = w :=
  ⟨_, rfl, fun w => rratio_still a b ha0 ha1 hb0 hb1 w⟩

theorem dom_at (u a : Vec.V) (r0 r1 r2 : Nat) (e0 : Fix.ratio u.x a.x = r0) (e1 : Fix.ratio u.y a.y = r1) (e2 : Fix.ratio u.z a.z = r2) :
    ((Vec.dom u a : Nat) : Int) = max (max (max 0 (if 0 < u.x then (r0 : Int) else 0)) (if 0 < u.y then (r1 : Int) else 0)) (if 0 < u.z then (r2 : Int) else 0) := by
  unfold Vec.dom Vec.dom1
  rw [e0, e1, e2]
  split <;> split <;> split <;> omega

/-- Three cells of a block. -/
def Box3 (w : World) (b : Nat) (x y z : Int) : Prop := b < w.heap.size ∧ w.cell? ⟨b, 0, none⟩ = some (.int .i64 x) ∧ w.cell? ⟨b, 1, none⟩ = some (.int .i64 y) ∧ w.cell? ⟨b, 2, none⟩ = some (.int .i64 z)
theorem Box3.keep {w w' : World} {b : Nat} {x y z : Int} (h : Box3 w b x y z) (k : Below w.heap.size w w') : Box3 w' b x y z :=
  ⟨Nat.lt_of_lt_of_le h.1 k.size, (k.cell (p := ⟨b, 0, none⟩) h.1).trans h.2.1, (k.cell (p := ⟨b, 1, none⟩) h.1).trans h.2.2.1, (k.cell (p := ⟨b, 2, none⟩) h.1).trans h.2.2.2⟩

set_option maxHeartbeats 4000000 in
theorem gdom (u a : Vec.V) (hu : In64 u) (ha : In64 a) : Gives Try.prog 18 #[u.val, a.val] (.int .u64 (Vec.dom u a)) := by
  obtain ⟨u0, u1, u2⟩ := u
  obtain ⟨a0, a1, a2⟩ := a
  obtain ⟨⟨⟨hu0, hu0'⟩, ⟨hu1, hu1'⟩⟩, ⟨hu2, hu2'⟩⟩ := hu
  obtain ⟨⟨⟨ha0, ha0'⟩, ⟨ha1, ha1'⟩⟩, ⟨ha2, ha2'⟩⟩ := ha
  obtain ⟨r0, e0, q0⟩ := rat u0 a0 hu0 hu0' ha0 ha0'
  obtain ⟨r1, e1, q1⟩ := rat u1 a1 hu1 hu1' ha1 ha1'
  obtain ⟨r2, e2, q2⟩ := rat u2 a2 hu2 hu2' ha2 ha2'
  have hv := Lib.hid (dom_at ⟨u0, u1, u2⟩ ⟨a0, a1, a2⟩ r0 r1 r2 e0 e1 e2)
  clear e0 e1 e2 hu0 hu0' hu1 hu1' hu2 hu2' ha0 ha0' ha1 ha1' ha2 ha2'
  intro w
  unfold Vec.V.val
  obtain ⟨i0, i1, i2⟩ := idx u0 u1 u2
  by_cases h0 : 0 < u0 <;> by_cases h1 : 0 < u1 <;> by_cases h2 : 0 < u2
  · go_enter Try.func18, Try.ntmps18
    go_wp2
    refine wp_loop_rounds 4 ?_
    rw [rounds_succ]
    go_wp2_with fail
    refine (q0 _).mono ?_
    rintro e w' ⟨rfl, n0, rfl⟩
    go_wp2
    rw [rounds_succ]
    go_wp2_with fail
    refine (q1 _).mono ?_
    rintro e w' ⟨rfl, n1, rfl⟩
    go_wp2
    rw [rounds_succ]
    go_wp2_with fail
    refine (q2 _).mono ?_
    rintro e w' ⟨rfl, n2, rfl⟩
    go_wp2
    rw [rounds_succ]
    go_wp2
    go_returns
    exact ⟨ret_int (by rw [hv.out]; repeat' split <;> omega), by (repeat' (first | (with_reducible exact Below.refl _ _) | (with_reducible assumption) | (with_reducible refine Below.alloc ?_ ?_ _) | (with_reducible refine L.below_drewN ?_ _) | (with_reducible refine Below.drew ?_) | (with_reducible refine Below.setCell ?_ ?_ _) | (with_reducible refine Below.frame ?_ _) | go_size))⟩
  · go_enter Try.func18, Try.ntmps18
    go_wp2
    refine wp_loop_rounds 4 ?_
    rw [rounds_succ]
    go_wp2_with fail
    refine (q0 _).mono ?_
    rintro e w' ⟨rfl, n0, rfl⟩
    go_wp2
    rw [rounds_succ]
    go_wp2_with fail
    refine (q1 _).mono ?_
    rintro e w' ⟨rfl, n1, rfl⟩
    go_wp2
    rw [rounds_succ]
    go_wp2
    rw [rounds_succ]
    go_wp2
    go_returns
    exact ⟨ret_int (by rw [hv.out]; repeat' split <;> omega), by (repeat' (first | (with_reducible exact Below.refl _ _) | (with_reducible assumption) | (with_reducible refine Below.alloc ?_ ?_ _) | (with_reducible refine L.below_drewN ?_ _) | (with_reducible refine Below.drew ?_) | (with_reducible refine Below.setCell ?_ ?_ _) | (with_reducible refine Below.frame ?_ _) | go_size))⟩
  · go_enter Try.func18, Try.ntmps18
    go_wp2
    refine wp_loop_rounds 4 ?_
    rw [rounds_succ]
    go_wp2_with fail
    refine (q0 _).mono ?_
    rintro e w' ⟨rfl, n0, rfl⟩
    go_wp2
    rw [rounds_succ]
    go_wp2
    rw [rounds_succ]
    go_wp2_with fail
    refine (q2 _).mono ?_
    rintro e w' ⟨rfl, n2, rfl⟩
    go_wp2
    rw [rounds_succ]
    go_wp2
    go_returns
    exact ⟨ret_int (by rw [hv.out]; repeat' split <;> omega), by (repeat' (first | (with_reducible exact Below.refl _ _) | (with_reducible assumption) | (with_reducible refine Below.alloc ?_ ?_ _) | (with_reducible refine L.below_drewN ?_ _) | (with_reducible refine Below.drew ?_) | (with_reducible refine Below.setCell ?_ ?_ _) | (with_reducible refine Below.frame ?_ _) | go_size))⟩
  · go_enter Try.func18, Try.ntmps18
    go_wp2
    refine wp_loop_rounds 4 ?_
    rw [rounds_succ]
    go_wp2_with fail
    refine (q0 _).mono ?_
    rintro e w' ⟨rfl, n0, rfl⟩
    go_wp2
    rw [rounds_succ]
    go_wp2
    rw [rounds_succ]
    go_wp2
    rw [rounds_succ]
    go_wp2
    go_returns
    exact ⟨ret_int (by rw [hv.out]; repeat' split <;> omega), by (repeat' (first | (with_reducible exact Below.refl _ _) | (with_reducible assumption) | (with_reducible refine Below.alloc ?_ ?_ _) | (with_reducible refine L.below_drewN ?_ _) | (with_reducible refine Below.drew ?_) | (with_reducible refine Below.setCell ?_ ?_ _) | (with_reducible refine Below.frame ?_ _) | go_size))⟩
  · go_enter Try.func18, Try.ntmps18
    go_wp2
    refine wp_loop_rounds 4 ?_
    rw [rounds_succ]
    go_wp2
    rw [rounds_succ]
    go_wp2_with fail
    refine (q1 _).mono ?_
    rintro e w' ⟨rfl, n1, rfl⟩
    go_wp2
    rw [rounds_succ]
    go_wp2_with fail
    refine (q2 _).mono ?_
    rintro e w' ⟨rfl, n2, rfl⟩
    go_wp2
    rw [rounds_succ]
    go_wp2
    go_returns
    exact ⟨ret_int (by rw [hv.out]; repeat' split <;> omega), by (repeat' (first | (with_reducible exact Below.refl _ _) | (with_reducible assumption) | (with_reducible refine Below.alloc ?_ ?_ _) | (with_reducible refine L.below_drewN ?_ _) | (with_reducible refine Below.drew ?_) | (with_reducible refine Below.setCell ?_ ?_ _) | (with_reducible refine Below.frame ?_ _) | go_size))⟩
  · go_enter Try.func18, Try.ntmps18
    go_wp2
    refine wp_loop_rounds 4 ?_
    rw [rounds_succ]
    go_wp2
    rw [rounds_succ]
    go_wp2_with fail
    refine (q1 _).mono ?_
    rintro e w' ⟨rfl, n1, rfl⟩
    go_wp2
    rw [rounds_succ]
    go_wp2
    rw [rounds_succ]
    go_wp2
    go_returns
    exact ⟨ret_int (by rw [hv.out]; repeat' split <;> omega), by (repeat' (first | (with_reducible exact Below.refl _ _) | (with_reducible assumption) | (with_reducible refine Below.alloc ?_ ?_ _) | (with_reducible refine L.below_drewN ?_ _) | (with_reducible refine Below.drew ?_) | (with_reducible refine Below.setCell ?_ ?_ _) | (with_reducible refine Below.frame ?_ _) | go_size))⟩
  · go_enter Try.func18, Try.ntmps18
    go_wp2
    refine wp_loop_rounds 4 ?_
    rw [rounds_succ]
    go_wp2
    rw [rounds_succ]
    go_wp2
    rw [rounds_succ]
    go_wp2_with fail
    refine (q2 _).mono ?_
    rintro e w' ⟨rfl, n2, rfl⟩
    go_wp2
    rw [rounds_succ]
    go_wp2
    go_returns
    exact ⟨ret_int (by rw [hv.out]; repeat' split <;> omega), by (repeat' (first | (with_reducible exact Below.refl _ _) | (with_reducible assumption) | (with_reducible refine Below.alloc ?_ ?_ _) | (with_reducible refine L.below_drewN ?_ _) | (with_reducible refine Below.drew ?_) | (with_reducible refine Below.setCell ?_ ?_ _) | (with_reducible refine Below.frame ?_ _) | go_size))⟩
  · go_enter Try.func18, Try.ntmps18
    go_wp2
    refine wp_loop_rounds 4 ?_
    rw [rounds_succ]
    go_wp2
    rw [rounds_succ]
    go_wp2
    rw [rounds_succ]
    go_wp2
    rw [rounds_succ]
    go_wp2
    go_returns
    exact ⟨ret_int (by rw [hv.out]; repeat' split <;> omega), by (repeat' (first | (with_reducible exact Below.refl _ _) | (with_reducible assumption) | (with_reducible refine Below.alloc ?_ ?_ _) | (with_reducible refine L.below_drewN ?_ _) | (with_reducible refine Below.drew ?_) | (with_reducible refine Below.setCell ?_ ?_ _) | (with_reducible refine Below.frame ?_ _) | go_size))⟩

set_option maxHeartbeats 4000000 in
theorem grdom (u a : Vec.V) (hu : In64 u) (ha : In64 a) : Gives Try.prog 19 #[u.val, a.val] (.int .u64 (Vec.dom u a)) := by
  obtain ⟨u0, u1, u2⟩ := u
  obtain ⟨a0, a1, a2⟩ := a
  obtain ⟨⟨⟨hu0, hu0'⟩, ⟨hu1, hu1'⟩⟩, ⟨hu2, hu2'⟩⟩ := hu
  obtain ⟨⟨⟨ha0, ha0'⟩, ⟨ha1, ha1'⟩⟩, ⟨ha2, ha2'⟩⟩ := ha
  obtain ⟨r0, e0, q0⟩ := rrat u0 a0 hu0 hu0' ha0 ha0'
  obtain ⟨r1, e1, q1⟩ := rrat u1 a1 hu1 hu1' ha1 ha1'
  obtain ⟨r2, e2, q2⟩ := rrat u2 a2 hu2 hu2' ha2 ha2'
  have hv := Lib.hid (dom_at ⟨u0, u1, u2⟩ ⟨a0, a1, a2⟩ r0 r1 r2 e0 e1 e2)
  clear e0 e1 e2 hu0 hu0' hu1 hu1' hu2 hu2' ha0 ha0' ha1 ha1' ha2 ha2'
  intro w
  unfold Vec.V.val
  obtain ⟨i0, i1, i2⟩ := idx u0 u1 u2
  by_cases h0 : 0 < u0 <;> by_cases h1 : 0 < u1 <;> by_cases h2 : 0 < u2
  · go_enter Try.func19, Try.ntmps19
    go_wp2
    refine wp_loop_rounds 4 ?_
    rw [rounds_succ]
    go_wp2_with fail
    refine region_tail 8 (by kernel_rfl) (by kernel_rfl) ?_
    simp only [List.take_succ_cons, List.take_zero, List.drop_succ_cons, List.drop_zero]
    repeat (first | still_step | still_call (q0 _))
    refine wpStill_nil ?_
    go_wp2
    rw [rounds_succ]
    go_wp2_with fail
    refine region_tail 8 (by kernel_rfl) (by kernel_rfl) ?_
    simp only [List.take_succ_cons, List.take_zero, List.drop_succ_cons, List.drop_zero]
    repeat (first | still_step | still_call (q1 _))
    refine wpStill_nil ?_
    go_wp2
    rw [rounds_succ]
    go_wp2_with fail
    refine region_tail 8 (by kernel_rfl) (by kernel_rfl) ?_
    simp only [List.take_succ_cons, List.take_zero, List.drop_succ_cons, List.drop_zero]
    repeat (first | still_step | still_call (q2 _))
    refine wpStill_nil ?_
    go_wp2
    rw [rounds_succ]
    go_wp2
    go_returns
    exact ⟨ret_int (by rw [hv.out]; repeat' split <;> omega), by (repeat' (first | (with_reducible exact Below.refl _ _) | (with_reducible assumption) | (with_reducible refine Below.alloc ?_ ?_ _) | (with_reducible refine L.below_drewN ?_ _) | (with_reducible refine Below.drew ?_) | (with_reducible refine Below.setCell ?_ ?_ _) | (with_reducible refine Below.frame ?_ _) | go_size))⟩
  · go_enter Try.func19, Try.ntmps19
    go_wp2
    refine wp_loop_rounds 4 ?_
    rw [rounds_succ]
    go_wp2_with fail
    refine region_tail 8 (by kernel_rfl) (by kernel_rfl) ?_
    simp only [List.take_succ_cons, List.take_zero, List.drop_succ_cons, List.drop_zero]
    repeat (first | still_step | still_call (q0 _))
    refine wpStill_nil ?_
    go_wp2
    rw [rounds_succ]
    go_wp2_with fail
    refine region_tail 8 (by kernel_rfl) (by kernel_rfl) ?_
    simp only [List.take_succ_cons, List.take_zero, List.drop_succ_cons, List.drop_zero]
    repeat (first | still_step | still_call (q1 _))
    refine wpStill_nil ?_
    go_wp2
    rw [rounds_succ]
    go_wp2
    rw [rounds_succ]
    go_wp2
    go_returns
    exact ⟨ret_int (by rw [hv.out]; repeat' split <;> omega), by (repeat' (first | (with_reducible exact Below.refl _ _) | (with_reducible assumption) | (with_reducible refine Below.alloc ?_ ?_ _) | (with_reducible refine L.below_drewN ?_ _) | (with_reducible refine Below.drew ?_) | (with_reducible refine Below.setCell ?_ ?_ _) | (with_reducible refine Below.frame ?_ _) | go_size))⟩
  · go_enter Try.func19, Try.ntmps19
    go_wp2
    refine wp_loop_rounds 4 ?_
    rw [rounds_succ]
    go_wp2_with fail
    refine region_tail 8 (by kernel_rfl) (by kernel_rfl) ?_
    simp only [List.take_succ_cons, List.take_zero, List.drop_succ_cons, List.drop_zero]
    repeat (first | still_step | still_call (q0 _))
    refine wpStill_nil ?_
    go_wp2
    rw [rounds_succ]
    go_wp2
    rw [rounds_succ]
    go_wp2_with fail
    refine region_tail 8 (by kernel_rfl) (by kernel_rfl) ?_
    simp only [List.take_succ_cons, List.take_zero, List.drop_succ_cons, List.drop_zero]
    repeat (first | still_step | still_call (q2 _))
    refine wpStill_nil ?_
    go_wp2
    rw [rounds_succ]
    go_wp2
    go_returns
    exact ⟨ret_int (by rw [hv.out]; repeat' split <;> omega), by (repeat' (first | (with_reducible exact Below.refl _ _) | (with_reducible assumption) | (with_reducible refine Below.alloc ?_ ?_ _) | (with_reducible refine L.below_drewN ?_ _) | (with_reducible refine Below.drew ?_) | (with_reducible refine Below.setCell ?_ ?_ _) | (with_reducible refine Below.frame ?_ _) | go_size))⟩
  · go_enter Try.func19, Try.ntmps19
    go_wp2
    refine wp_loop_rounds 4 ?_
    rw [rounds_succ]
    go_wp2_with fail
    refine region_tail 8 (by kernel_rfl) (by kernel_rfl) ?_
    simp only [List.take_succ_cons, List.take_zero, List.drop_succ_cons, List.drop_zero]
    repeat (first | still_step | still_call (q0 _))
    refine wpStill_nil ?_
    go_wp2
    rw [rounds_succ]
    go_wp2
    rw [rounds_succ]
    go_wp2
    rw [rounds_succ]
    go_wp2
    go_returns
    exact ⟨ret_int (by rw [hv.out]; repeat' split <;> omega), by (repeat' (first | (with_reducible exact Below.refl _ _) | (with_reducible assumption) | (with_reducible refine Below.alloc ?_ ?_ _) | (with_reducible refine L.below_drewN ?_ _) | (with_reducible refine Below.drew ?_) | (with_reducible refine Below.setCell ?_ ?_ _) | (with_reducible refine Below.frame ?_ _) | go_size))⟩
  · go_enter Try.func19, Try.ntmps19
    go_wp2
    refine wp_loop_rounds 4 ?_
    rw [rounds_succ]
    go_wp2
    rw [rounds_succ]
    go_wp2_with fail
    refine region_tail 8 (by kernel_rfl) (by kernel_rfl) ?_
    simp only [List.take_succ_cons, List.take_zero, List.drop_succ_cons, List.drop_zero]
    repeat (first | still_step | still_call (q1 _))
    refine wpStill_nil ?_
    go_wp2
    rw [rounds_succ]
    go_wp2_with fail
    refine region_tail 8 (by kernel_rfl) (by kernel_rfl) ?_
    simp only [List.take_succ_cons, List.take_zero, List.drop_succ_cons, List.drop_zero]
    repeat (first | still_step | still_call (q2 _))
    refine wpStill_nil ?_
    go_wp2
    rw [rounds_succ]
    go_wp2
    go_returns
    exact ⟨ret_int (by rw [hv.out]; repeat' split <;> omega), by (repeat' (first | (with_reducible exact Below.refl _ _) | (with_reducible assumption) | (with_reducible refine Below.alloc ?_ ?_ _) | (with_reducible refine L.below_drewN ?_ _) | (with_reducible refine Below.drew ?_) | (with_reducible refine Below.setCell ?_ ?_ _) | (with_reducible refine Below.frame ?_ _) | go_size))⟩
  · go_enter Try.func19, Try.ntmps19
    go_wp2
    refine wp_loop_rounds 4 ?_
    rw [rounds_succ]
    go_wp2
    rw [rounds_succ]
    go_wp2_with fail
    refine region_tail 8 (by kernel_rfl) (by kernel_rfl) ?_
    simp only [List.take_succ_cons, List.take_zero, List.drop_succ_cons, List.drop_zero]
    repeat (first | still_step | still_call (q1 _))
    refine wpStill_nil ?_
    go_wp2
    rw [rounds_succ]
    go_wp2
    rw [rounds_succ]
    go_wp2
    go_returns
    exact ⟨ret_int (by rw [hv.out]; repeat' split <;> omega), by (repeat' (first | (with_reducible exact Below.refl _ _) | (with_reducible assumption) | (with_reducible refine Below.alloc ?_ ?_ _) | (with_reducible refine L.below_drewN ?_ _) | (with_reducible refine Below.drew ?_) | (with_reducible refine Below.setCell ?_ ?_ _) | (with_reducible refine Below.frame ?_ _) | go_size))⟩
  · go_enter Try.func19, Try.ntmps19
    go_wp2
    refine wp_loop_rounds 4 ?_
    rw [rounds_succ]
    go_wp2
    rw [rounds_succ]
    go_wp2
    rw [rounds_succ]
    go_wp2_with fail
    refine region_tail 8 (by kernel_rfl) (by kernel_rfl) ?_
    simp only [List.take_succ_cons, List.take_zero, List.drop_succ_cons, List.drop_zero]
    repeat (first | still_step | still_call (q2 _))
    refine wpStill_nil ?_
    go_wp2
    rw [rounds_succ]
    go_wp2
    go_returns
    exact ⟨ret_int (by rw [hv.out]; repeat' split <;> omega), by (repeat' (first | (with_reducible exact Below.refl _ _) | (with_reducible assumption) | (with_reducible refine Below.alloc ?_ ?_ _) | (with_reducible refine L.below_drewN ?_ _) | (with_reducible refine Below.drew ?_) | (with_reducible refine Below.setCell ?_ ?_ _) | (with_reducible refine Below.frame ?_ _) | go_size))⟩
  · go_enter Try.func19, Try.ntmps19
    go_wp2
    refine wp_loop_rounds 4 ?_
    rw [rounds_succ]
    go_wp2
    rw [rounds_succ]
    go_wp2
    rw [rounds_succ]
    go_wp2
    rw [rounds_succ]
    go_wp2
    go_returns
    exact ⟨ret_int (by rw [hv.out]; repeat' split <;> omega), by (repeat' (first | (with_reducible exact Below.refl _ _) | (with_reducible assumption) | (with_reducible refine Below.alloc ?_ ?_ _) | (with_reducible refine L.below_drewN ?_ _) | (with_reducible refine Below.drew ?_) | (with_reducible refine Below.setCell ?_ ?_ _) | (with_reducible refine Below.frame ?_ _) | go_size))⟩

end Go.Proofs.Ytplbdipgnhddkaa.VecW
