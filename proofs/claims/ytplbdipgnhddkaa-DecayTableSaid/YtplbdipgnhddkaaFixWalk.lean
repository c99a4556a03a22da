/-
  The contracts of package fixpt's functions and of its reference's: what each gives, whatever the world (but for the quotient: the next text).
-/
import Derived.Test.YtplbdipgnhddkaaRows
import Derived.Test.YtplbdipgnhddkaaLib
import Derived.Test.YtplbdipgnhddkaaFixPlain
import Derived.Test.YtplbdipgnhddkaaShelf
import Derived.Shelf.Spec.BitsCarry
set_option linter.unusedVariables false
set_option linter.unusedSimpArgs false
namespace Go.Proofs.Ytplbdipgnhddkaa.FixW
open Go.RowKit Go.Proofs.Ytplbdipgnhddkaa.L

theorem or_high (hi lo : Nat) (h : hi < 4294967296) (hlo : lo < 18446744073709551616) : bits .or .u64 ((hi : Int) * 4294967296) ((lo : Int) / 4294967296) = ((hi * 4294967296 + lo / 4294967296 : Nat) : Int) := by
  have e1 : ((hi : Int) * 4294967296) = ((hi * 4294967296 : Nat) : Int) := by omega
  have e2 : ((lo : Int) / 4294967296) = ((lo / 4294967296 : Nat) : Int) := by omega
  rw [e1, e2, bits_or_nat .u64 rfl _ _ (by show _ < 18446744073709551616; omega) (by show _ < 18446744073709551616; omega)]
  congr 1
  rw [Nat.mul_comm]
  exact (Nat.two_pow_add_eq_or_of_lt (i := 32) (by omega) _).symm

set_option maxHeartbeats 400000 in
theorem mul_any (a b : Nat) (ha : a ≤ Fix.top) (hb : b ≤ Fix.top) (w : World) :
    Calls Try.prog 42 #[.int .u64 a, .int .u64 b] w fun e w' => e = .returned (.int .u64 (Fix.mul a b)) ∧ w = w' := by
  unfold Fix.top at ha hb
  have hm : ∀ w : World, Calls Try.prog 65 #[.int .u64 a, .int .u64 b] w fun e w' => e = .returned (.tuple #[.int .u64 ((a * b / 18446744073709551616 : Nat) : Int), .int .u64 ((a * b % 18446744073709551616 : Nat) : Int)]) ∧ w' = w := fun w => Try.bits_Mul64 a b (by omega) (by omega) w
  have hlo : a * b % 18446744073709551616 < 18446744073709551616 := Nat.mod_lt _ (by omega)
  have hhi : a * b / 18446744073709551616 < 18446744073709551616 := by
    apply Nat.div_lt_of_lt_mul
    have : a * b ≤ 18446744073709551615 * 18446744073709551615 := Nat.mul_le_mul ha hb
    omega
  have hr : a * b / 4294967296 = a * b / 18446744073709551616 * 4294967296 + a * b % 18446744073709551616 / 4294967296 := by omega
  obtain ⟨hi, hhe⟩ : ∃ hi, a * b / 18446744073709551616 = hi := ⟨_, rfl⟩
  obtain ⟨lo, hle⟩ : ∃ lo, a * b % 18446744073709551616 = lo := ⟨_, rfl⟩
  rw [hhe, hle] at hm hr
  rw [hle] at hlo
  rw [hhe] at hhi
  have hv : Fix.mul a b = Fix.cut (hi * 4294967296 + lo / 4294967296) := by unfold Fix.mul Fix.one; rw [hr]
  have Hm := Lib.hid hm
  have Hv := Lib.hid hv
  have Hlo := Lib.hid hlo
  have Hhi := Lib.hid hhi
  clear hm hr hhe hle hv hlo hhi ha hb
  by_cases h : hi < 4294967296
  · go_enter Try.func42, Try.ntmps42
    go_wp2_with fail
    refine (Hm.out _).mono ?_
    rintro e w1 ⟨rfl, rfl⟩
    go_wp2
    go_ret
    have hlo := Hlo.out
    refine ⟨ret_int ?_, rfl⟩
    rw [Hv.out, or_high hi lo h hlo, Fix.cut_small (by unfold Fix.top; omega)]
  · go_enter Try.func42, Try.ntmps42
    go_wp2_with fail
    refine (Hm.out _).mono ?_
    rintro e w1 ⟨rfl, rfl⟩
    go_wp2
    go_ret
    refine ⟨ret_int ?_, rfl⟩
    rw [Hv.out, Fix.cut_big (by unfold Fix.top; omega)]
    rfl

/-! ### sum, difference, whole numbers, order -/
set_option maxHeartbeats 400000 in
theorem refadd_any (a b : Nat) (ha : a ≤ Fix.top) (hb : b ≤ Fix.top) (w : World) :
    Calls Try.prog 54 #[.int .u64 a, .int .u64 b] w fun e w' => e = .returned (.int .u64 (Fix.add a b)) ∧ w = w' := by
  unfold Fix.top at ha hb
  have hv : Fix.add a b = if a + b ≤ 18446744073709551615 then a + b else 18446744073709551615 := rfl
  have Hv := Lib.hid hv
  clear hv
  by_cases h : a + b ≤ 18446744073709551615
  · go_enter Try.func54, Try.ntmps54
    go_wp2
    go_ret
    exact ⟨ret_int (by rw [Hv.out, if_pos h]; omega), rfl⟩
  · go_enter Try.func54, Try.ntmps54
    go_wp2
    go_ret
    exact ⟨ret_int (by rw [Hv.out, if_neg h]; rfl), rfl⟩

set_option maxHeartbeats 400000 in
theorem refsub_any (a b : Nat) (ha : a ≤ Fix.top) (hb : b ≤ Fix.top) (w : World) :
    Calls Try.prog 55 #[.int .u64 a, .int .u64 b] w fun e w' => e = .returned (.int .u64 (Fix.sub a b)) ∧ w = w' := by
  unfold Fix.top at ha hb
  by_cases h : a < b
  · go_enter Try.func55, Try.ntmps55
    go_wp2
    go_ret
    exact ⟨ret_int (by unfold Fix.sub; omega), rfl⟩
  · go_enter Try.func55, Try.ntmps55
    go_wp2
    go_ret
    exact ⟨ret_int (by unfold Fix.sub; omega), rfl⟩

theorem call_add64 (a b : Nat) (w : World) : (callFunc 68 #[.int .u64 a, .int .u64 b, .int .u64 0]).run Try.prog w =
    .ok (.value (.tuple #[.int .u64 (((a + b) % 18446744073709551616 : Nat) : Int), .int .u64 (((a + b) / 18446744073709551616 : Nat) : Int)])) w := by
  rw [run_callFunc_extern Try.func68 (by kernel_rfl) (by kernel_rfl) (by kernel_rfl) (e := add64Entry) (by kernel_rfl), run_add64 a b 0 (by omega) (by omega) (by omega) (by omega)]
  simp only [Result.andThen]
  congr 5 <;> omega

theorem call_sub64 (a b : Nat) (w : World) : (callFunc 70 #[.int .u64 a, .int .u64 b, .int .u64 0]).run Try.prog w =
    .ok (.value (.tuple #[.int .u64 (((a + 18446744073709551616 - b) % 18446744073709551616 : Nat) : Int), .int .u64 ((if a < b then 1 else 0 : Nat) : Int)])) w := by
  rw [run_callFunc_extern Try.func70 (by kernel_rfl) (by kernel_rfl) (by kernel_rfl) (e := sub64Entry) (by kernel_rfl)]
  have := run_sub64 (P := Try.prog) a b 0 (by omega) w
  rw [show ((0 : Nat) : Int) = 0 from rfl] at this
  rw [this]
  rfl

set_option maxHeartbeats 400000 in
theorem choose_any (c : Bool) (a b : Int) (w : World) :
    Calls Try.prog 69 #[.bool c, .int .u64 a, .int .u64 b] w fun e w' => e = .returned (.int .u64 (if c then a else b)) ∧ w = w' := by
  cases c
  · go_enter Try.func69, Try.ntmps69
    go_wp2
    go_ret
    exact ⟨rfl, rfl⟩
  · go_enter Try.func69, Try.ntmps69
    go_wp2
    go_ret
    exact ⟨rfl, rfl⟩

theorem sum_over (a b : Nat) (h : a + b ≤ 18446744073709551615) : (a + b) % 18446744073709551616 = a + b ∧ (a + b) / 18446744073709551616 = 0 := by omega
theorem sum_over' (a b : Nat) (ha : a ≤ 18446744073709551615) (hb : b ≤ 18446744073709551615) (h : ¬ a + b ≤ 18446744073709551615) : (a + b) / 18446744073709551616 = 1 := by omega
theorem dif_in (a b : Nat) (ha : a ≤ 18446744073709551615) (h : ¬ a < b) : (a + 18446744073709551616 - b) % 18446744073709551616 = a - b := by omega

set_option maxHeartbeats 400000 in
theorem add_any (a b : Nat) (ha : a ≤ Fix.top) (hb : b ≤ Fix.top) (w : World) :
    Calls Try.prog 52 #[.int .u64 a, .int .u64 b] w fun e w' => e = .returned (.int .u64 (Fix.add a b)) ∧ w = w' := by
  have hv : Fix.add a b = if a + b ≤ 18446744073709551615 then a + b else 18446744073709551615 := rfl
  have Hv := Lib.hid hv
  have hk : ∃ s c : Nat, (∀ w : World, (callFunc 68 #[.int .u64 a, .int .u64 b, .int .u64 0]).run Try.prog w = .ok (.value (.tuple #[.int .u64 (s : Int), .int .u64 (c : Int)])) w) ∧ c ≤ 1 ∧ Hid (Fix.add a b = if 0 < c then 18446744073709551615 else s) := by
    unfold Fix.top at ha hb
    by_cases h : a + b ≤ 18446744073709551615
    · refine ⟨a + b, 0, fun w => by rw [call_add64, (sum_over a b h).1, (sum_over a b h).2], by omega, ?_⟩
      exact Lib.hid (by rw [hv, if_pos h, if_neg (by omega)])
    · refine ⟨(a + b) % 18446744073709551616, 1, fun w => by rw [call_add64, sum_over' a b ha hb h], by omega, ?_⟩
      exact Lib.hid (by rw [hv, if_neg h, if_pos (by omega)])
  obtain ⟨s, c, hcall, hc1, HV⟩ := hk
  clear hv Hv ha hb
  by_cases h : 0 < c
  · go_enter Try.func52, Try.ntmps52
    go_wp2_with fail
    refine (choose_any _ _ _ _).mono ?_
    rintro e w1 ⟨rfl, rfl⟩
    go_wp2_with fail
    go_ret
    exact ⟨ret_int (by rw [HV.out, if_pos h]; rfl), rfl⟩
  · go_enter Try.func52, Try.ntmps52
    go_wp2_with fail
    refine (choose_any _ _ _ _).mono ?_
    rintro e w1 ⟨rfl, rfl⟩
    go_wp2_with fail
    go_ret
    exact ⟨ret_int (by rw [HV.out, if_neg h]), rfl⟩

set_option maxHeartbeats 400000 in
theorem sub_any (a b : Nat) (ha : a ≤ Fix.top) (hb : b ≤ Fix.top) (w : World) :
    Calls Try.prog 53 #[.int .u64 a, .int .u64 b] w fun e w' => e = .returned (.int .u64 (Fix.sub a b)) ∧ w = w' := by
  have hk : ∃ s c : Nat, (∀ w : World, (callFunc 70 #[.int .u64 a, .int .u64 b, .int .u64 0]).run Try.prog w = .ok (.value (.tuple #[.int .u64 (s : Int), .int .u64 (c : Int)])) w) ∧ c ≤ 1 ∧ Hid (Fix.sub a b = if 0 < c then 0 else s) := by
    unfold Fix.top at ha hb
    by_cases h : a < b
    · refine ⟨(a + 18446744073709551616 - b) % 18446744073709551616, 1, fun w => by rw [call_sub64, if_pos h], by omega, ?_⟩
      exact Lib.hid (by rw [if_pos (by omega)]; unfold Fix.sub; omega)
    · refine ⟨a - b, 0, fun w => by rw [call_sub64, if_neg h, dif_in a b ha h], by omega, ?_⟩
      exact Lib.hid (by rw [if_neg (by omega)]; rfl)
  obtain ⟨s, c, hcall, hc1, HV⟩ := hk
  clear ha hb
  by_cases h : 0 < c
  · go_enter Try.func53, Try.ntmps53
    go_wp2_with fail
    refine (choose_any _ _ _ _).mono ?_
    rintro e w1 ⟨rfl, rfl⟩
    go_wp2_with fail
    go_ret
    exact ⟨ret_int (by rw [HV.out, if_pos h]; rfl), rfl⟩
  · go_enter Try.func53, Try.ntmps53
    go_wp2_with fail
    refine (choose_any _ _ _ _).mono ?_
    rintro e w1 ⟨rfl, rfl⟩
    go_wp2_with fail
    go_ret
    exact ⟨ret_int (by rw [HV.out, if_neg h]), rfl⟩

set_option maxHeartbeats 400000 in
theorem of_any (n : Int) (h0 : -9223372036854775808 ≤ n) (h1 : n ≤ 9223372036854775807) (w : World) :
    Calls Try.prog 47 #[.int .i64 n] w fun e w' => e = .returned (.int .u64 (Fix.ofInt n)) ∧ w = w' := by
  by_cases h : n ≤ 0
  · go_enter Try.func47, Try.ntmps47
    go_wp2
    go_ret
    exact ⟨ret_int (by rw [Fix.ofInt, if_pos h]; rfl), rfl⟩
  by_cases h' : 4294967296 ≤ n
  · go_enter Try.func47, Try.ntmps47
    go_wp2
    go_ret
    exact ⟨ret_int (by rw [Fix.ofInt, if_neg (by omega), if_pos (by simp only [Fix.one]; omega)]; rfl), rfl⟩
  · go_enter Try.func47, Try.ntmps47
    go_wp2
    go_ret
    exact ⟨ret_int (by rw [Fix.ofInt, if_neg (by omega), if_neg (by simp only [Fix.one]; omega)]; simp only [Fix.one]; omega), rfl⟩

set_option maxHeartbeats 400000 in
theorem refof_any (n : Int) (h0 : -9223372036854775808 ≤ n) (h1 : n ≤ 9223372036854775807) (w : World) :
    Calls Try.prog 48 #[.int .i64 n] w fun e w' => e = .returned (.int .u64 (Fix.ofInt n)) ∧ w = w' := by
  by_cases h : n < 0
  · go_enter Try.func48, Try.ntmps48
    go_wp2
    go_ret
    exact ⟨ret_int (by rw [Fix.ofInt, if_pos (by omega)]; rfl), rfl⟩
  by_cases h' : 4294967296 ≤ n
  · go_enter Try.func48, Try.ntmps48
    go_wp2
    go_ret
    exact ⟨ret_int (by rw [Fix.ofInt, if_neg (by omega), if_pos (by simp only [Fix.one]; omega)]; rfl), rfl⟩
  · go_enter Try.func48, Try.ntmps48
    go_wp2
    go_ret
    refine ⟨ret_int ?_, rfl⟩
    unfold Fix.ofInt Fix.one
    split
    · omega
    · rw [if_neg (by omega)]; omega

set_option maxHeartbeats 400000 in
theorem floor_any (a : Nat) (ha : a ≤ Fix.top) (w : World) :
    Calls Try.prog 46 #[.int .u64 a] w fun e w' => e = .returned (.int .i64 (a / Fix.one : Nat)) ∧ w = w' := by
  unfold Fix.top at ha
  go_enter Try.func46, Try.ntmps46
  go_wp2
  go_ret
  exact ⟨ret_int (by unfold Fix.one; omega), rfl⟩

set_option maxHeartbeats 400000 in
theorem reffloor_any (a : Nat) (ha : a ≤ Fix.top) (w : World) :
    Calls Try.prog 51 #[.int .u64 a] w fun e w' => e = .returned (.int .i64 (a / Fix.one : Nat)) ∧ w = w' := by
  unfold Fix.top at ha
  go_enter Try.func51, Try.ntmps51
  go_wp2
  go_ret
  exact ⟨ret_int (by unfold Fix.one; omega), rfl⟩

set_option maxHeartbeats 400000 in
theorem refcmp_any (a b : Nat) (ha : a ≤ Fix.top) (hb : b ≤ Fix.top) (w : World) :
    Calls Try.prog 57 #[.int .u64 a, .int .u64 b] w fun e w' => e = .returned (.int .i64 (Fix.cmp a b)) ∧ w = w' := by
  unfold Fix.top at ha hb
  by_cases h : a < b
  · go_enter Try.func57, Try.ntmps57
    go_wp2
    go_ret
    exact ⟨ret_int (by rw [Fix.cmp, if_pos h]), rfl⟩
  by_cases h' : b < a
  · go_enter Try.func57, Try.ntmps57
    go_wp2
    go_ret
    exact ⟨ret_int (by rw [Fix.cmp, if_neg h, if_pos h']), rfl⟩
  · go_enter Try.func57, Try.ntmps57
    go_wp2
    go_ret
    exact ⟨ret_int (by rw [Fix.cmp, if_neg h, if_neg h']), rfl⟩

set_option maxHeartbeats 400000 in
theorem cmp_any (a b : Nat) (ha : a ≤ Fix.top) (hb : b ≤ Fix.top) (w : World) :
    Calls Try.prog 56 #[.int .u64 a, .int .u64 b] w fun e w' => e = .returned (.int .i64 (Fix.cmp a b)) ∧ w = w' := by
  unfold Fix.top at ha hb
  have e1 : ((a : Int) != (a : Int)) = false := by simp
  have e2 : ((b : Int) != (b : Int)) = false := by simp
  by_cases h : a < b
  · go_enter Try.func56, Try.ntmps56
    go_wp2
    go_ret
    exact ⟨ret_int (by rw [Fix.cmp, if_pos h]), rfl⟩
  by_cases h' : b < a
  · go_enter Try.func56, Try.ntmps56
    go_wp2
    go_ret
    exact ⟨ret_int (by rw [Fix.cmp, if_neg h, if_pos h']), rfl⟩
  · go_enter Try.func56, Try.ntmps56
    go_wp2
    go_ret
    exact ⟨ret_int (by rw [Fix.cmp, if_neg h, if_neg h']), rfl⟩

end Go.Proofs.Ytplbdipgnhddkaa.FixW
