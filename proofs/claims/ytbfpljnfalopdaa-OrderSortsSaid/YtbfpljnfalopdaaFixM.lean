/-
  Merged texts: DivPlain, FixWalk, DivWalk, FixQuo, FixOver, FixLaws.
-/
import Derived.Test.YtbfpljnfalopdaaRows
import Derived.Test.YtbfpljnfalopdaaLib
import Derived.Test.YtbfpljnfalopdaaFixPlain
import Derived.Test.YtbfpljnfalopdaaShelf
import Derived.Shelf.Spec.BitsCarry
import Derived.Deep.DeepCutAuto
import Derived.Deep.CutBlock
import Derived.OpenShut
/-
  Division of a number of two words by one word in halves of a word (the schoolbook way, with a guess that is corrected): its arithmetic. No program in sight.
-/
set_option linter.unusedVariables false
set_option linter.unusedSimpArgs false
namespace Go.Proofs.Ytbfpljnfalopdaa.Dv

def B : Nat := 4294967296

theorem more {U u Y y1 y0 q r : Nat} (hY : Y = y1 * B + y0) (hq : q * y1 + r = U) (hQ : (U * B + u) / Y < B) (hpos : 0 < Y) (h : B ≤ q ∨ B * r + u < q * y0) (hle : (U * B + u) / Y ≤ q) :
    (U * B + u) / Y ≤ q - 1 ∧ 1 ≤ q := by
  have key : (U * B + u) / Y < q := by
    rcases h with h | h
    · omega
    · rw [Nat.div_lt_iff_lt_mul hpos, hY, ← hq]
      have e1 : q * (y1 * B + y0) = q * y1 * B + q * y0 := by rw [Nat.mul_add, Nat.mul_assoc]
      have e2 : (q * y1 + r) * B = q * y1 * B + B * r := by rw [Nat.add_mul, Nat.mul_comm r B]
      omega
  exact ⟨Nat.le_sub_one_of_lt key, Nat.lt_of_le_of_lt (Nat.zero_le _) key⟩

theorem done {U u Y y1 y0 q r : Nat} (hY : Y = y1 * B + y0) (hq : q * y1 + r = U) (hpos : 0 < Y) (h : q * y0 ≤ B * r + u) (hle : (U * B + u) / Y ≤ q) : q = (U * B + u) / Y := by
  have key : q ≤ (U * B + u) / Y := by
    rw [Nat.le_div_iff_mul_le hpos, hY, ← hq]
    have e1 : q * (y1 * B + y0) = q * y1 * B + q * y0 := by rw [Nat.mul_add, Nat.mul_assoc]
    have e2 : (q * y1 + r) * B = q * y1 * B + B * r := by rw [Nat.add_mul, Nat.mul_comm r B]
    omega
  exact Nat.le_antisymm key hle

theorem brk {U u Y y1 y0 q r : Nat} (hY : Y = y1 * B + y0) (hy0 : y0 < B) (hq : q * y1 + r = U) (hU : U < Y) (hr : B ≤ r) : q * y0 ≤ B * r + u := by
  have hlt : q < B := by
    rcases Nat.lt_or_ge q B with h | h
    · exact h
    · have : B * y1 ≤ q * y1 := Nat.mul_le_mul_right _ h
      rw [Nat.mul_comm B y1] at this
      omega
  have h1 : q * y0 ≤ B * B := Nat.mul_le_mul (by omega) (by omega)
  have h2 : B * B ≤ B * r := Nat.mul_le_mul_left _ hr
  omega

theorem start {U u Y y1 y0 : Nat} (hY : Y = y1 * B + y0) (hu : u < B) (hy1 : 0 < y1) : (U * B + u) / Y ≤ U / y1 := by
  have h1 : (U * B + u) / Y ≤ (U * B + u) / (y1 * B) := Nat.div_le_div_left (by omega) (Nat.mul_pos hy1 (by decide))
  have h2 : (U * B + u) / (y1 * B) = U / y1 := by
    rw [Nat.mul_comm y1 B, ← Nat.div_div_eq_div_mul, Nat.mul_comm U B, Nat.mul_add_div (by decide : 0 < B), Nat.div_eq_of_lt hu, Nat.add_zero]
  omega

theorem small {U u Y : Nat} (hU : U < Y) (hu : u < B) : (U * B + u) / Y < B := by
  rw [Nat.div_lt_iff_lt_mul (by omega)]
  have : (U + 1) * B ≤ Y * B := Nat.mul_le_mul_right _ hU
  rw [Nat.add_mul, Nat.one_mul] at this
  rw [Nat.mul_comm B Y]
  omega

/-- The two halves together. -/
theorem both (U u1 u0 Y : Nat) (hpos : 0 < Y) : (U * B + u1) / Y * B + ((U * B + u1) % Y * B + u0) / Y = (U * (B * B) + (u1 * B + u0)) / Y := by
  have e : U * (B * B) + (u1 * B + u0) = (U * B + u1) * B + u0 := by rw [Nat.add_mul, Nat.mul_assoc]; omega
  have hd := Nat.div_add_mod (U * B + u1) Y
  generalize (U * B + u1) / Y = q at *
  generalize (U * B + u1) % Y = r at *
  rw [e, ← hd]
  have e2 : (Y * q + r) * B + u0 = r * B + u0 + Y * (q * B) := by rw [Nat.add_mul, Nat.mul_assoc]; omega
  rw [e2, Nat.add_mul_div_left _ _ hpos]
  omega

/-- What is left behind the first half, reckoned round 2^64. -/
theorem left (U u Y Q : Nat) (hY : Y < 18446744073709551616) (hpos : 0 < Y) (hQ : (U * B + u) / Y = Q) : U * B + u = Q * Y + (U * B + u) % Y ∧ (U * B + u) % Y < Y := by
  have hd := Nat.div_add_mod (U * B + u) Y
  rw [hQ, Nat.mul_comm] at hd
  exact ⟨hd.symm, Nat.mod_lt _ hpos⟩

/-- What the shift to the left end makes of both. -/
theorem norm (hi lo y : Nat) (hy : hi < y) (hlo : lo < 18446744073709551616) (hyt : y < 18446744073709551616) :
    ∃ s, s < 64 ∧ 2 ^ (63 - s) ≤ y ∧ y / 2 ^ (63 - s) = 1 ∧ 9223372036854775808 ≤ y * 2 ^ s ∧ y * 2 ^ s < 18446744073709551616 ∧
      hi * 2 ^ s < 18446744073709551616 ∧ lo / 2 ^ (64 - s) < 2 ^ s ∧ hi * 2 ^ s + lo / 2 ^ (64 - s) < y * 2 ^ s ∧
      (hi * 18446744073709551616 + lo) * 2 ^ s = (hi * 2 ^ s + lo / 2 ^ (64 - s)) * 18446744073709551616 + lo * 2 ^ s % 18446744073709551616 := by
  have hy0 : y ≠ 0 := by omega
  have h1 := Nat.log2_self_le hy0
  have h2 := @Nat.lt_log2_self y
  have hk : y.log2 < 64 := (Nat.log2_lt hy0).2 hyt
  generalize y.log2 = k at *
  have hs : 63 - (63 - k) = k := by omega
  have p1 : (2 : Nat) ^ k * 2 ^ (63 - k) = 9223372036854775808 := by rw [← Nat.pow_add, show k + (63 - k) = 63 by omega]
  have p2 : (2 : Nat) ^ (k + 1) * 2 ^ (63 - k) = 18446744073709551616 := by rw [← Nat.pow_add, show k + 1 + (63 - k) = 64 by omega]
  have p3 : (2 : Nat) ^ (64 - (63 - k)) * 2 ^ (63 - k) = 18446744073709551616 := by rw [← Nat.pow_add, show 64 - (63 - k) + (63 - k) = 64 by omega]
  have hpos : 0 < 2 ^ (63 - k) := Nat.two_pow_pos _
  have a1 : 9223372036854775808 ≤ y * 2 ^ (63 - k) := by rw [← p1]; exact Nat.mul_le_mul_right _ h1
  have a2 : y * 2 ^ (63 - k) < 18446744073709551616 := by rw [← p2]; exact Nat.mul_lt_mul_of_pos_right h2 hpos
  have a3 : (hi + 1) * 2 ^ (63 - k) ≤ y * 2 ^ (63 - k) := Nat.mul_le_mul_right _ hy
  rw [Nat.add_mul, Nat.one_mul] at a3
  have a4 : lo / 2 ^ (64 - (63 - k)) < 2 ^ (63 - k) := by
    rw [Nat.div_lt_iff_lt_mul (Nat.two_pow_pos _), Nat.mul_comm, p3]; exact hlo
  refine ⟨63 - k, by omega, by rw [hs]; exact h1, ?_, a1, a2, by omega, a4, by omega, ?_⟩
  · rw [hs]
    exact Nat.div_eq_of_lt_le (by rw [Nat.one_mul]; exact h1) (by rw [Nat.pow_succ] at h2; omega)
  · have hd := Nat.div_add_mod (lo * 2 ^ (63 - k)) 18446744073709551616
    have e : lo * 2 ^ (63 - k) / 18446744073709551616 = lo / 2 ^ (64 - (63 - k)) := by
      rw [← p3]; exact Nat.mul_div_mul_right _ _ hpos
    rw [e] at hd
    rw [Nat.add_mul, Nat.add_mul, Nat.mul_right_comm]
    omega

theorem shifted (N y s : Nat) : N * 2 ^ s / (y * 2 ^ s) = N / y := Nat.mul_div_mul_right _ _ (Nat.two_pow_pos _)

end Go.Proofs.Ytbfpljnfalopdaa.Dv
/-
  Trimmed for this seat: FixWalk.
-/
set_option linter.unusedVariables false
set_option linter.unusedSimpArgs false
namespace Go.Proofs.Ytbfpljnfalopdaa.FixW
open Go.RowKit Go.Proofs.Ytbfpljnfalopdaa.L

theorem or_high (hi lo : Nat) (h : hi < 4294967296) (hlo : lo < 18446744073709551616) : bits .or .u64 ((hi : Int) * 4294967296) ((lo : Int) / 4294967296) = ((hi * 4294967296 + lo / 4294967296 : Nat) : Int) := by
  have e1 : ((hi : Int) * 4294967296) = ((hi * 4294967296 : Nat) : Int) := by omega
  have e2 : ((lo : Int) / 4294967296) = ((lo / 4294967296 : Nat) : Int) := by omega
  rw [e1, e2, bits_or_nat .u64 rfl _ _ (by show _ < 18446744073709551616; omega) (by show _ < 18446744073709551616; omega)]
  congr 1
  rw [Nat.mul_comm]
  exact (Nat.two_pow_add_eq_or_of_lt (i := 32) (by omega) _).symm

/-! ### sum, difference, whole numbers, order -/
set_option maxRecDepth 100000 in
set_option maxHeartbeats 400000 in
theorem refadd_any (a b : Nat) (ha : a ≤ Fix.top) (hb : b ≤ Fix.top) (w : World) :
    Calls Try.prog 94 #[.int .u64 a, .int .u64 b] w fun e w' => e = .returned (.int .u64 (Fix.add a b)) ∧ w = w' := by
  unfold Fix.top at ha hb
  have hv : Fix.add a b = if a + b ≤ 18446744073709551615 then a + b else 18446744073709551615 := rfl
  have Hv := Lib.hid hv
  clear hv
  by_cases h : a + b ≤ 18446744073709551615
  · go_enter Try.func94, Try.ntmps94
    go_wp2
    go_ret
    exact ⟨ret_int (by rw [Hv.out, if_pos h]; omega), rfl⟩
  · go_enter Try.func94, Try.ntmps94
    go_wp2
    go_ret
    exact ⟨ret_int (by rw [Hv.out, if_neg h]; rfl), rfl⟩

theorem call_add64 (a b : Nat) (w : World) : (callFunc 100 #[.int .u64 a, .int .u64 b, .int .u64 0]).run Try.prog w =
    .ok (.value (.tuple #[.int .u64 (((a + b) % 18446744073709551616 : Nat) : Int), .int .u64 (((a + b) / 18446744073709551616 : Nat) : Int)])) w := by
  rw [run_callFunc_extern Try.func100 (by kernel_rfl) (by kernel_rfl) (by kernel_rfl) (e := add64Entry) (by kernel_rfl), run_add64 a b 0 (by omega) (by omega) (by omega) (by omega)]
  simp only [Result.andThen]
  congr 5 <;> omega

set_option maxRecDepth 100000 in
set_option maxHeartbeats 400000 in
theorem choose_any (c : Bool) (a b : Int) (w : World) :
    Calls Try.prog 101 #[.bool c, .int .u64 a, .int .u64 b] w fun e w' => e = .returned (.int .u64 (if c then a else b)) ∧ w = w' := by
  cases c
  · go_enter Try.func101, Try.ntmps101
    go_wp2
    go_ret
    exact ⟨rfl, rfl⟩
  · go_enter Try.func101, Try.ntmps101
    go_wp2
    go_ret
    exact ⟨rfl, rfl⟩

theorem sum_over (a b : Nat) (h : a + b ≤ 18446744073709551615) : (a + b) % 18446744073709551616 = a + b ∧ (a + b) / 18446744073709551616 = 0 := by omega
theorem sum_over' (a b : Nat) (ha : a ≤ 18446744073709551615) (hb : b ≤ 18446744073709551615) (h : ¬ a + b ≤ 18446744073709551615) : (a + b) / 18446744073709551616 = 1 := by omega
theorem dif_in (a b : Nat) (ha : a ≤ 18446744073709551615) (h : ¬ a < b) : (a + 18446744073709551616 - b) % 18446744073709551616 = a - b := by omega

set_option maxRecDepth 100000 in
set_option maxHeartbeats 400000 in
theorem add_any (a b : Nat) (ha : a ≤ Fix.top) (hb : b ≤ Fix.top) (w : World) :
    Calls Try.prog 97 #[.int .u64 a, .int .u64 b] w fun e w' => e = .returned (.int .u64 (Fix.add a b)) ∧ w = w' := by
  have hv : Fix.add a b = if a + b ≤ 18446744073709551615 then a + b else 18446744073709551615 := rfl
  have Hv := Lib.hid hv
  have hk : ∃ s c : Nat, (∀ w : World, (callFunc 100 #[.int .u64 a, .int .u64 b, .int .u64 0]).run Try.prog w = .ok (.value (.tuple #[.int .u64 (s : Int), .int .u64 (c : Int)])) w) ∧ c ≤ 1 ∧ Hid (Fix.add a b = if 0 < c then 18446744073709551615 else s) := by
    unfold Fix.top at ha hb
    by_cases h : a + b ≤ 18446744073709551615
    · refine ⟨a + b, 0, fun w => by rw [call_add64, (sum_over a b h).1, (sum_over a b h).2], by omega, ?_⟩
      exact Lib.hid (by rw [hv, if_pos h, if_neg (by omega)])
    · refine ⟨(a + b) % 18446744073709551616, 1, fun w => by rw [call_add64, sum_over' a b ha hb h], by omega, ?_⟩
      exact Lib.hid (by rw [hv, if_neg h, if_pos (by omega)])
  obtain ⟨s, c, hcall, hc1, HV⟩ := hk
  clear hv Hv ha hb
  by_cases h : 0 < c
  · go_enter Try.func97, Try.ntmps97
    go_wp2_with fail
    refine (choose_any _ _ _ _).mono ?_
    rintro e w1 ⟨rfl, rfl⟩
    go_wp2_with fail
    go_ret
    exact ⟨ret_int (by rw [HV.out, if_pos h]; rfl), rfl⟩
  · go_enter Try.func97, Try.ntmps97
    go_wp2_with fail
    refine (choose_any _ _ _ _).mono ?_
    rintro e w1 ⟨rfl, rfl⟩
    go_wp2_with fail
    go_ret
    exact ⟨ret_int (by rw [HV.out, if_neg h]), rfl⟩

set_option maxRecDepth 100000 in
set_option maxHeartbeats 400000 in
theorem of_any (n : Int) (h0 : -9223372036854775808 ≤ n) (h1 : n ≤ 9223372036854775807) (w : World) :
    Calls Try.prog 92 #[.int .i64 n] w fun e w' => e = .returned (.int .u64 (Fix.ofInt n)) ∧ w = w' := by
  by_cases h : n ≤ 0
  · go_enter Try.func92, Try.ntmps92
    go_wp2
    go_ret
    exact ⟨ret_int (by rw [Fix.ofInt, if_pos h]; rfl), rfl⟩
  by_cases h' : 4294967296 ≤ n
  · go_enter Try.func92, Try.ntmps92
    go_wp2
    go_ret
    exact ⟨ret_int (by rw [Fix.ofInt, if_neg (by omega), if_pos (by simp only [Fix.one]; omega)]; rfl), rfl⟩
  · go_enter Try.func92, Try.ntmps92
    go_wp2
    go_ret
    exact ⟨ret_int (by rw [Fix.ofInt, if_neg (by omega), if_neg (by simp only [Fix.one]; omega)]; simp only [Fix.one]; omega), rfl⟩

set_option maxRecDepth 100000 in
set_option maxHeartbeats 400000 in
theorem refof_any (n : Int) (h0 : -9223372036854775808 ≤ n) (h1 : n ≤ 9223372036854775807) (w : World) :
    Calls Try.prog 83 #[.int .i64 n] w fun e w' => e = .returned (.int .u64 (Fix.ofInt n)) ∧ w = w' := by
  by_cases h : n < 0
  · go_enter Try.func83, Try.ntmps83
    go_wp2
    go_ret
    exact ⟨ret_int (by rw [Fix.ofInt, if_pos (by omega)]; rfl), rfl⟩
  by_cases h' : 4294967296 ≤ n
  · go_enter Try.func83, Try.ntmps83
    go_wp2
    go_ret
    exact ⟨ret_int (by rw [Fix.ofInt, if_neg (by omega), if_pos (by simp only [Fix.one]; omega)]; rfl), rfl⟩
  · go_enter Try.func83, Try.ntmps83
    go_wp2
    go_ret
    refine ⟨ret_int ?_, rfl⟩
    unfold Fix.ofInt Fix.one
    split
    · omega
    · rw [if_neg (by omega)]; omega

end Go.Proofs.Ytbfpljnfalopdaa.FixW
/-
  The library's division of two words by one: its quotient, by a walk of its text; what is left is some number.
-/
set_option linter.unusedVariables false
set_option linter.unusedSimpArgs false
namespace Go.Proofs.Ytbfpljnfalopdaa.FixW
open Go.RowKit Go.Proofs.Ytbfpljnfalopdaa.L

def DivPost (q : Nat) (w : World) (e : Ending) (w' : World) : Prop := (∃ r : Int, e = .returned (.tuple #[.int .u64 q, .int .u64 r])) ∧ ∃ n, w' = w.drewN n

theorem step_down {q r y1 U : Nat} (h : q * y1 + r = U) (h1 : 1 ≤ q) : (q - 1) * y1 + (r + y1) = U := by
  obtain ⟨p, rfl⟩ : ∃ p, q = p + 1 := ⟨q - 1, by omega⟩
  rw [Nat.add_mul, Nat.one_mul] at h
  rw [Nat.add_sub_cancel]; omega

theorem wrap_mul (q y0 : Nat) (h : q < 4294967296) (hy0 : y0 < 4294967296) : IntKind.u64.wrap ((q : Int) * (y0 : Int)) = ((q * y0 : Nat) : Int) := by
  have : q * y0 < 4294967296 * 4294967296 := Nat.mul_lt_mul'' h hy0
  rw [← Int.natCast_mul]
  exact Go.Proofs.Ytbfpljnfalopdaa.L.wrap_small .u64 rfl _ (by show _ < 18446744073709551616; omega)

set_option maxRecDepth 100000 in
set_option maxHeartbeats 2000000 in
theorem div64_core (hi lo y s Y y1 y0 U L u1 u0 q1 m1 r1 Q A C R q2 m2 r2 Q0 : Nat) (h0 : 0 < hi) (hy : hi < y) (hlo : lo ≤ 18446744073709551615) (hyt : y ≤ 18446744073709551615) (w : World) (hs : s < 64)
    (hl : ∀ w : World, Calls Try.prog 102 #[.int .u64 y] w fun e w' => e = .returned (.int .i64 s) ∧ w' = w)
    (e1 : IntKind.u64.wrap ((y : Int) * 2 ^ s) = (Y : Int)) (hY1 : (Y : Int) / 4294967296 = (y1 : Int)) (hy1 : 0 < y1) (hy1' : y1 < 4294967296)
    (hY0 : bits .and .u64 (Y : Int) 4294967295 = (y0 : Int))
    (e2 : bits .or .u64 (IntKind.u64.wrap ((hi : Int) * 2 ^ s)) ((lo : Int) / 2 ^ (64 - s)) = (U : Int)) (e3 : IntKind.u64.wrap ((lo : Int) * 2 ^ s) = (L : Int))
    (hL1 : (L : Int) / 4294967296 = (u1 : Int)) (hL0 : bits .and .u64 (L : Int) 4294967295 = (u0 : Int)) (hu1 : u1 < 4294967296) (hu0 : u0 < 4294967296)
    (hq1 : (U : Int) / (y1 : Int) = (q1 : Int)) (hqt : q1 ≤ 18446744073709551615) (hm1 : IntKind.u64.wrap ((q1 : Int) * (y1 : Int)) = (m1 : Int)) (hmU : m1 ≤ U) (hUt : U ≤ 18446744073709551615) (hr1 : (U : Int) - (m1 : Int) = (r1 : Int))
    (hrel1 : Hid (q1 * y1 + r1 = U ∧ Q ≤ q1 ∧ r1 < 4294967296)) (hQ : Hid (Q = (U * Dv.B + u1) / Y)) (hQB : Q < 4294967296) (hYd : Hid (Y = y1 * Dv.B + y0)) (hU : U < Y) (hy0 : y0 < 4294967296)
    (a1 : IntKind.u64.wrap ((U : Int) * 4294967296) = (A : Int)) (hA : A + u1 ≤ 18446744073709551615) (a3 : IntKind.u64.wrap ((Q : Int) * (Y : Int)) = (C : Int)) (a4 : IntKind.u64.wrap ((A : Int) + (u1 : Int) - (C : Int)) = (R : Int))
    (hq2 : (R : Int) / (y1 : Int) = (q2 : Int)) (hq2t : q2 ≤ 18446744073709551615) (hm2 : IntKind.u64.wrap ((q2 : Int) * (y1 : Int)) = (m2 : Int)) (hmR : m2 ≤ R) (hRt : R ≤ 18446744073709551615) (hr2 : (R : Int) - (m2 : Int) = (r2 : Int))
    (hrel2 : Hid (q2 * y1 + r2 = R ∧ Q0 ≤ q2 ∧ r2 < 4294967296)) (hQ0 : Hid (Q0 = (R * Dv.B + u0) / Y)) (hQ0B : Q0 < 4294967296) (hR : R < Y) :
    Calls Try.prog 99 #[.int .u64 hi, .int .u64 lo, .int .u64 y] w (DivPost (Q * 4294967296 + Q0) w) := by
  have hyb : ((y : Int) == 0) = false := by simp; omega
  have hhb : ((hi : Int) == 0) = false := by simp; omega
  have Hl := Lib.hid hl
  clear hl
  go_enter Try.func99, Try.ntmps99
  go_wp2_with fail
  refine (Hl.out _).mono ?_
  rintro e w1 ⟨rfl, rfl⟩
  go_upto_block 0 with fail
  clear hyb hhb e1 hY1 hY0 e2 e3 hL1 hL0 hq1 hm1 hr1
  go_cut [15, 16] (fun x z wx => wx = w1 ∧ x = .int .u64 Q)
  case first =>
    go_wp2_with fail
    go_loop [15, 16] (fun x z => ∃ q r : Nat, x = .int .u64 q ∧ z = .int .u64 r ∧ r < 4294967296 ∧ q ≤ 18446744073709551615 ∧ q * y1 + r = U ∧ Q ≤ q) (fun x z => (intOf x).toNat)
    case atStart => exact ⟨q1, r1, rfl, rfl, hrel1.out.2.2, by omega, hrel1.out.1, hrel1.out.2.1⟩
    case round =>
      obtain ⟨q, r, rfl, rfl, hr, hqt', hqr, hQq⟩ := hrel
      have Hqr := Lib.hid hqr
      clear hqr
      have more : ∀ p : Nat, q * y0 = p → (4294967296 ≤ q ∨ 4294967296 * r + u1 < p) → Q ≤ q - 1 ∧ 1 ≤ q := fun p hp hor => by
        subst hp
        have := Dv.more (u := u1) hYd.out Hqr.out (by rw [← hQ.out]; exact hQB) (by omega) hor (by rw [← hQ.out]; exact hQq)
        rw [← hQ.out] at this
        exact this
      have done : q * y0 ≤ 4294967296 * r + u1 → q = Q := fun h => by
        have := Dv.done hYd.out Hqr.out (by omega) h (by rw [← hQ.out]; exact hQq)
        rw [← hQ.out] at this
        exact this
      have brk : 1 ≤ q → Q ≤ q - 1 → 4294967296 ≤ r + y1 → q - 1 = Q := fun h1 h2 h => by
        have hd := step_down Hqr.out h1
        have hb := Dv.brk (u := u1) hYd.out hy0 hd hU h
        have := Dv.done hYd.out hd (by omega) hb (by rw [← hQ.out]; exact h2)
        rw [← hQ.out] at this
        exact this
      have More := Lib.hid more
      have Done := Lib.hid done
      have Brk := Lib.hid brk
      clear more done brk
      have hb2' : ∀ (h : 4294967296 ≤ r + y1), decide ((4294967296 : Int) ≤ (r : Int) + (y1 : Int)) = true := fun h => by simp; omega
      have hb2n : ∀ (h : ¬ 4294967296 ≤ r + y1), decide ((4294967296 : Int) ≤ (r : Int) + (y1 : Int)) = false := fun h => by simp; omega
      by_cases hA' : 4294967296 ≤ q
      · have hb1 : decide ((4294967296 : Int) ≤ (q : Int)) = true := by simp; omega
        have hm := Lib.hid (More.out _ rfl (.inl hA'))
        have hq1 : 1 ≤ q := by omega
        by_cases hbk : 4294967296 ≤ r + y1
        · have hb2 := hb2' hbk
          have Hbk := Lib.hid hbk
          clear hbk hb2' hb2n hA'
          go_wp2
          go_meet
          exact ⟨rfl, ret_val (by have := Brk.out hm.out.2 hm.out.1 Hbk.out; omega)⟩
        · have hb2 := hb2n hbk
          have hrb : r + y1 ≤ 4294967295 := by omega
          clear hbk hb2' hb2n hA'
          go_wp2
          go_round
          case rel => exact ⟨q - 1, r + y1, ret_val (by omega), ret_val (by omega), by omega, by omega, step_down Hqr.out hm.out.2, hm.out.1⟩
          case measure => simp [intOf]; omega
      · have hqB : q < 4294967296 := by omega
        have hb1 : decide ((4294967296 : Int) ≤ (q : Int)) = false := by simp; omega
        have hwm := wrap_mul q y0 hqB hy0
        obtain ⟨p, hp⟩ : ∃ p, q * y0 = p := ⟨_, rfl⟩
        have hpt : p ≤ 18446744065119617025 := by rw [← hp]; exact Nat.mul_le_mul (show q ≤ 4294967295 by omega) (show y0 ≤ 4294967295 by omega)
        rw [hp] at hwm
        by_cases hB' : 4294967296 * r + u1 < p
        · have hb3 : decide ((4294967296 : Int) * (r : Int) + (u1 : Int) < (p : Int)) = true := by simp; omega
          have hm := Lib.hid (More.out _ hp (.inr hB'))
          have hq1 : 1 ≤ q := hm.out.2
          by_cases hbk : 4294967296 ≤ r + y1
          · have hb2 := hb2' hbk
            have Hbk := Lib.hid hbk
            clear hbk hb2' hb2n hA' hB' hp
            go_wp2
            go_meet
            exact ⟨rfl, ret_val (by have := Brk.out hm.out.2 hm.out.1 Hbk.out; omega)⟩
          · have hb2 := hb2n hbk
            have hrb : r + y1 ≤ 4294967295 := by omega
            clear hbk hb2' hb2n hA' hB' hp
            go_wp2
            go_round
            case rel => exact ⟨q - 1, r + y1, ret_val (by omega), ret_val (by omega), by omega, by omega, step_down Hqr.out hm.out.2, hm.out.1⟩
            case measure => simp [intOf]; omega
        · have hb3 : decide ((4294967296 : Int) * (r : Int) + (u1 : Int) < (p : Int)) = false := by simp; omega
          have hd := Lib.hid (Done.out (by rw [hp]; omega))
          clear hb2' hb2n hA' hB' hp
          go_wp2
          go_meet
          exact ⟨rfl, ret_val (by rw [hd.out])⟩
  case rest =>
    obtain ⟨rfl, rfl⟩ := hcut
    go_upto_block 2 with fail
    clear a1 a3 a4 hq2 hm2 hr2
    go_cut [16, 18] (fun z x wx2 => wx2 = wc ∧ x = .int .u64 Q0)
    case first =>
      go_wp2_with fail
      go_loop [16, 18] (fun x z => ∃ q r : Nat, z = .int .u64 q ∧ x = .int .u64 r ∧ r < 4294967296 ∧ q ≤ 18446744073709551615 ∧ q * y1 + r = R ∧ Q0 ≤ q) (fun x z => (intOf z).toNat)
      case atStart => exact ⟨q2, r2, rfl, rfl, hrel2.out.2.2, by omega, hrel2.out.1, hrel2.out.2.1⟩
      case round =>
        obtain ⟨q, r, rfl, rfl, hr, hqt', hqr, hQq⟩ := hrel
        have Hqr := Lib.hid hqr
        clear hqr
        have more : ∀ p : Nat, q * y0 = p → (4294967296 ≤ q ∨ 4294967296 * r + u0 < p) → Q0 ≤ q - 1 ∧ 1 ≤ q := fun p hp hor => by
          subst hp
          have := Dv.more (u := u0) hYd.out Hqr.out (by rw [← hQ0.out]; exact hQ0B) (by omega) hor (by rw [← hQ0.out]; exact hQq)
          rw [← hQ0.out] at this
          exact this
        have done : q * y0 ≤ 4294967296 * r + u0 → q = Q0 := fun h => by
          have := Dv.done hYd.out Hqr.out (by omega) h (by rw [← hQ0.out]; exact hQq)
          rw [← hQ0.out] at this
          exact this
        have brk : 1 ≤ q → Q0 ≤ q - 1 → 4294967296 ≤ r + y1 → q - 1 = Q0 := fun h1 h2 h => by
          have hd := step_down Hqr.out h1
          have hb := Dv.brk (u := u0) hYd.out hy0 hd hR h
          have := Dv.done hYd.out hd (by omega) hb (by rw [← hQ0.out]; exact h2)
          rw [← hQ0.out] at this
          exact this
        have More := Lib.hid more
        have Done := Lib.hid done
        have Brk := Lib.hid brk
        clear more done brk
        have hb2' : ∀ (h : 4294967296 ≤ r + y1), decide ((4294967296 : Int) ≤ (r : Int) + (y1 : Int)) = true := fun h => by simp; omega
        have hb2n : ∀ (h : ¬ 4294967296 ≤ r + y1), decide ((4294967296 : Int) ≤ (r : Int) + (y1 : Int)) = false := fun h => by simp; omega
        by_cases hA' : 4294967296 ≤ q
        · have hb1 : decide ((4294967296 : Int) ≤ (q : Int)) = true := by simp; omega
          have hm := Lib.hid (More.out _ rfl (.inl hA'))
          have hq1 : 1 ≤ q := by omega
          by_cases hbk : 4294967296 ≤ r + y1
          · have hb2 := hb2' hbk
            have Hbk := Lib.hid hbk
            clear hbk hb2' hb2n hA'
            go_wp2
            go_meet
            exact ⟨rfl, ret_val (by have := Brk.out hm.out.2 hm.out.1 Hbk.out; omega)⟩
          · have hb2 := hb2n hbk
            have hrb : r + y1 ≤ 4294967295 := by omega
            clear hbk hb2' hb2n hA'
            go_wp2
            go_round
            case rel => exact ⟨q - 1, r + y1, ret_val (by omega), ret_val (by omega), by omega, by omega, step_down Hqr.out hm.out.2, hm.out.1⟩
            case measure => simp [intOf]; omega
        · have hqB : q < 4294967296 := by omega
          have hb1 : decide ((4294967296 : Int) ≤ (q : Int)) = false := by simp; omega
          have hwm := wrap_mul q y0 hqB hy0
          obtain ⟨p, hp⟩ : ∃ p, q * y0 = p := ⟨_, rfl⟩
          have hpt : p ≤ 18446744065119617025 := by rw [← hp]; exact Nat.mul_le_mul (show q ≤ 4294967295 by omega) (show y0 ≤ 4294967295 by omega)
          rw [hp] at hwm
          by_cases hB' : 4294967296 * r + u0 < p
          · have hb3 : decide ((4294967296 : Int) * (r : Int) + (u0 : Int) < (p : Int)) = true := by simp; omega
            have hm := Lib.hid (More.out _ hp (.inr hB'))
            have hq1 : 1 ≤ q := hm.out.2
            by_cases hbk : 4294967296 ≤ r + y1
            · have hb2 := hb2' hbk
              have Hbk := Lib.hid hbk
              clear hbk hb2' hb2n hA' hB' hp
              go_wp2
              go_meet
              exact ⟨rfl, ret_val (by have := Brk.out hm.out.2 hm.out.1 Hbk.out; omega)⟩
            · have hb2 := hb2n hbk
              have hrb : r + y1 ≤ 4294967295 := by omega
              clear hbk hb2' hb2n hA' hB' hp
              go_wp2
              go_round
              case rel => exact ⟨q - 1, r + y1, ret_val (by omega), ret_val (by omega), by omega, by omega, step_down Hqr.out hm.out.2, hm.out.1⟩
              case measure => simp [intOf]; omega
          · have hb3 : decide ((4294967296 : Int) * (r : Int) + (u0 : Int) < (p : Int)) = false := by simp; omega
            have hd := Lib.hid (Done.out (by rw [hp]; omega))
            clear hb2' hb2n hA' hB' hp
            go_wp2
            go_meet
            exact ⟨rfl, ret_val (by rw [hd.out])⟩
    case rest =>
      obtain ⟨rfl, rfl⟩ := hcut
      go_wp2
      go_ret2
      exact ⟨⟨_, rfl⟩, ⟨0, rfl⟩⟩

end Go.Proofs.Ytbfpljnfalopdaa.FixW
/-
  Trimmed for this seat: FixQuo.
-/
set_option linter.unusedVariables false
set_option linter.unusedSimpArgs false
namespace Go.Proofs.Ytbfpljnfalopdaa.FixW
open Go.RowKit Go.Proofs.Ytbfpljnfalopdaa.L

theorem lz (y : Nat) (hyt : y ≤ 18446744073709551615) (s : Nat) (hs : s < 64) (h1 : 2 ^ (63 - s) ≤ y) (h2 : y / 2 ^ (63 - s) = 1) (w : World) :
    Calls Try.prog 102 #[.int .u64 y] w fun e w' => e = .returned (.int .i64 s) ∧ w' = w := by
  refine (Try.bits_LeadingZeros64 (y : Int) w (by omega) (by omega)).mono fun e w' ⟨he, hw⟩ => ⟨he.trans (ret_int ?_), hw⟩
  have hb := Lib.bitLen_shift (63 - s) y h1 (by show _ < 18446744073709551616; omega)
  rw [h2, show Lib.bitLen 1 = 1 from by decide +kernel] at hb
  rw [Int.toNat_natCast, hb]
  omega

theorem wrap_of (n m : Nat) (h : n = m) (hm : m ≤ 18446744073709551615) (x : Int) (hx : x = (n : Int)) : IntKind.u64.wrap x = (m : Int) := by
  subst h hx
  exact Go.Proofs.Ytbfpljnfalopdaa.L.wrap_small .u64 rfl _ (by show _ < 18446744073709551616; omega)

theorem wrap_mod (x : Int) (m : Nat) (h : x % 18446744073709551616 = (m : Int)) : IntKind.u64.wrap x = (m : Int) := by rw [IntKind.wrap_u64, h]

theorem and_low (Y : Nat) (h : Y ≤ 18446744073709551615) : bits .and .u64 (Y : Int) 4294967295 = ((Y % 4294967296 : Nat) : Int) := by
  rw [show (4294967295 : Int) = ((4294967295 : Nat) : Int) from rfl, bits_and_nat .u64 rfl Y 4294967295 (by show _ < 18446744073709551616; omega) (by decide)]
  rw [show (4294967295 : Nat) = 2 ^ 32 - 1 from rfl, Nat.and_two_pow_sub_one_eq_mod]

/-- One half: the guess and what is left. -/
theorem half (U u Y y1 y0 : Nat) (hYd : Y = y1 * Dv.B + y0) (hy0 : y0 < Dv.B) (hy1 : 2147483648 ≤ y1) (hy1' : y1 < 4294967296) (hu : u < 4294967296) (hU : U < Y) (hYt : Y ≤ 18446744073709551615) :
    ∃ q m r Q : Nat, (U : Int) / (y1 : Int) = (q : Int) ∧ q ≤ 18446744073709551615 ∧ IntKind.u64.wrap ((q : Int) * (y1 : Int)) = (m : Int) ∧ m ≤ U ∧ (U : Int) - (m : Int) = (r : Int) ∧ Hid (q * y1 + r = U ∧ Q ≤ q ∧ r < 4294967296) ∧
      Hid (Q = (U * Dv.B + u) / Y) ∧ Q < 4294967296 := by
  have hm : U / y1 * y1 ≤ U := Nat.div_mul_le_self _ _
  have hd := Nat.div_add_mod U y1
  have hr := Nat.mod_lt U (show 0 < y1 by omega)
  refine ⟨U / y1, U / y1 * y1, U % y1, (U * Dv.B + u) / Y, by omega, ?_, ?_, hm, ?_, ⟨?_, Dv.start hYd hu (by omega), by omega⟩, rfl, Dv.small hU hu⟩
  · have := Nat.div_le_self U y1; omega
  · exact wrap_of (U / y1 * y1) _ rfl (by omega) _ (by rw [Int.natCast_mul])
  · rw [Nat.mul_comm] at hd; omega
  · rw [Nat.mul_comm] at hd; exact hd

theorem div64_big (hi lo y : Nat) (h0 : 0 < hi) (hy : hi < y) (hlo : lo ≤ 18446744073709551615) (hyt : y ≤ 18446744073709551615) (w : World) :
    Calls Try.prog 99 #[.int .u64 hi, .int .u64 lo, .int .u64 y] w (DivPost ((hi * 18446744073709551616 + lo) / y) w) := by
  obtain ⟨s, hs, n1, n2, n3, n4, n5, n6, n7, n8⟩ := Dv.norm hi lo y hy (by omega) (by omega)
  obtain ⟨Y, hY⟩ : ∃ Y, y * 2 ^ s = Y := ⟨_, rfl⟩
  obtain ⟨U, hU⟩ : ∃ U, hi * 2 ^ s + lo / 2 ^ (64 - s) = U := ⟨_, rfl⟩
  obtain ⟨L, hL⟩ : ∃ L, lo * 2 ^ s % 18446744073709551616 = L := ⟨_, rfl⟩
  rw [hY] at n3 n4 n7
  rw [hU] at n7
  have hLt : L < 18446744073709551616 := by rw [← hL]; exact Nat.mod_lt _ (by omega)
  have hYd : Y = Y / 4294967296 * Dv.B + Y % 4294967296 := by unfold Dv.B; omega
  have hy0 : Y % 4294967296 < Dv.B := Nat.mod_lt _ (by decide)
  obtain ⟨q1, m1, r1, Q, f1, f2, f3, f4, f5, f6, f7, f8⟩ := half U (L / 4294967296) Y (Y / 4294967296) (Y % 4294967296) hYd hy0 (by omega) (by omega) (by omega) n7 (by omega)
  have hR := Dv.left U (L / 4294967296) Y Q n4 (by omega) f7.out.symm
  obtain ⟨R, hRe⟩ : ∃ R, (U * Dv.B + L / 4294967296) % Y = R := ⟨_, rfl⟩
  rw [hRe] at hR
  obtain ⟨q2, m2, r2, Q0, g1, g2, g3, g4, g5, g6, g7, g8⟩ := half R (L % 4294967296) Y (Y / 4294967296) (Y % 4294967296) hYd hy0 (by omega) (by omega) (by omega) hR.2 (by omega)
  have hres : Q * 4294967296 + Q0 = (hi * 18446744073709551616 + lo) / y := by
    have hb := Dv.both U (L / 4294967296) (L % 4294967296) Y (by omega)
    rw [← f7.out, hRe, ← g7.out] at hb
    rw [← Dv.shifted _ y s, n8, hU, hL, hY]
    have e : U * (Dv.B * Dv.B) + (L / 4294967296 * Dv.B + L % 4294967296) = U * 18446744073709551616 + L := by unfold Dv.B; omega
    rw [e] at hb
    exact hb
  rw [← hres]
  have p63 : (2 : Nat) ^ s = (2 : Nat) ^ s := rfl
  refine div64_core hi lo y s Y (Y / 4294967296) (Y % 4294967296) U L (L / 4294967296) (L % 4294967296) q1 m1 r1 Q (U * 4294967296 % 18446744073709551616) (Q * Y % 18446744073709551616) R q2 m2 r2 Q0 h0 hy hlo hyt w hs
    (fun w => lz y hyt s hs n1 n2 w) ?_ (by omega) (by omega) (by omega) (and_low Y (by omega)) ?_ ?_ (by omega) (and_low L (by omega)) (by omega) (by omega) f1 f2 f3 f4 (by omega) f5 f6 f7 f8 hYd n7 hy0
    ?_ ?_ ?_ ?_ g1 g2 g3 g4 (by omega) g5 g6 g7 g8 hR.2
  · exact wrap_of _ _ hY (by omega) _ (by rw [Int.natCast_mul, Int.natCast_pow]; rfl)
  · have e1 : IntKind.u64.wrap ((hi : Int) * 2 ^ s) = ((hi * 2 ^ s : Nat) : Int) := wrap_of _ _ rfl (by omega) _ (by rw [Int.natCast_mul, Int.natCast_pow]; rfl)
    have e2 : ((lo : Int) / 2 ^ (64 - s)) = ((lo / 2 ^ (64 - s) : Nat) : Int) := by rw [Int.natCast_ediv, Int.natCast_pow]; rfl
    have hlt : lo / 2 ^ (64 - s) ≤ lo := Nat.div_le_self _ _
    rw [e1, e2, bits_or_nat .u64 rfl _ _ (by show _ < 18446744073709551616; omega) (by show _ < 18446744073709551616; omega), ← hU]
    congr 1
    rw [Nat.mul_comm]
    exact (Nat.two_pow_add_eq_or_of_lt n6 _).symm
  · refine wrap_mod _ _ ?_
    rw [← hL, Int.natCast_emod, Int.natCast_mul, Int.natCast_pow]
    rfl
  · refine wrap_mod _ _ ?_
    omega
  · omega
  · refine wrap_mod _ _ ?_
    rw [Int.natCast_emod, Int.natCast_mul]
    rfl
  · refine wrap_mod _ _ ?_
    have h1 := hR.1
    unfold Dv.B at h1
    generalize Q * Y = QY at *
    omega

set_option maxRecDepth 100000 in
set_option maxRecDepth 100000 in
set_option maxHeartbeats 1000000 in
theorem div64_small (lo y : Nat) (hy : 0 < y) (hlo : lo ≤ 18446744073709551615) (hyt : y ≤ 18446744073709551615) (w : World) :
    Calls Try.prog 99 #[.int .u64 0, .int .u64 lo, .int .u64 y] w (DivPost (lo / y) w) := by
  have hyb : ((y : Int) == 0) = false := by simp; omega
  obtain ⟨q, hq⟩ : ∃ q, lo / y = q := ⟨_, rfl⟩
  have hql : q ≤ lo := by rw [← hq]; exact Nat.div_le_self _ _
  have hqq : IntKind.u64.wrap ((lo : Int) / (y : Int)) = (q : Int) := wrap_of _ _ hq (by omega) _ (by rw [Int.natCast_ediv])
  rw [hq]
  clear hq
  go_enter Try.func99, Try.ntmps99
  go_wp2
  go_quiet (fail)
  go_wp2
  go_ret2
  exact ⟨⟨_, rfl⟩, ⟨_, rfl⟩⟩

theorem div64_any (hi lo y : Nat) (hy : hi < y) (hlo : lo ≤ 18446744073709551615) (hyt : y ≤ 18446744073709551615) (w : World) :
    Calls Try.prog 99 #[.int .u64 hi, .int .u64 lo, .int .u64 y] w (DivPost ((hi * 18446744073709551616 + lo) / y) w) := by
  rcases Nat.eq_zero_or_pos hi with h | h
  · subst h
    rw [Nat.zero_mul, Nat.zero_add]
    exact div64_small lo y hy hlo hyt w
  · exact div64_big hi lo y h hy hlo hyt w

/-! ### a times 2^32 by b -/
theorem by_zero (b : Nat) (w : World) : Calls Try.prog 96 #[.int .u64 0, .int .u64 b] w fun e w' => e = .returned (.int .u64 (Fix.quo 0 b)) ∧ ∃ n, w' = w.drewN n := by
  go_enter Try.func96, Try.ntmps96
  go_wp2
  go_ret
  exact ⟨rfl, ⟨0, rfl⟩⟩

theorem quo_big (a b : Nat) (ha : 0 < a) (h : b ≤ a / 4294967296) : Fix.quo a b = Fix.top := by
  unfold Fix.quo
  rw [if_neg (Nat.pos_iff_ne_zero.1 ha)]
  rcases Nat.eq_zero_or_pos b with hb | hb0
  · rw [if_pos hb]
  · rw [if_neg (Nat.pos_iff_ne_zero.1 hb0)]
    have h3 : b * 4294967296 ≤ a := Nat.le_trans (Nat.mul_le_mul_right _ h) (Nat.div_mul_le_self a 4294967296)
    have h2 : 18446744073709551616 ≤ a * Fix.one / b := (Nat.le_div_iff_mul_le hb0).2 (by
      have := Nat.mul_le_mul_right Fix.one h3
      unfold Fix.one at *
      omega)
    exact Fix.cut_big (Nat.lt_of_lt_of_le (by decide) h2)

theorem quo_fits (a b : Nat) (ha : 0 < a) (ha' : a ≤ 18446744073709551615) (h : a / 4294967296 < b) : (a / 4294967296 * 18446744073709551616 + a * 4294967296 % 18446744073709551616) / b = Fix.quo a b ∧ Fix.quo a b ≤ 18446744073709551615 := by
  have e : a / 4294967296 * 18446744073709551616 + a * 4294967296 % 18446744073709551616 = a * 4294967296 := by omega
  have hlt : a * 4294967296 / b < 18446744073709551616 := by
    rw [Nat.div_lt_iff_lt_mul (by omega)]
    have : (a / 4294967296 + 1) * 18446744073709551616 ≤ b * 18446744073709551616 := Nat.mul_le_mul_right _ h
    rw [Nat.mul_comm 18446744073709551616 b]
    omega
  unfold Fix.quo
  rw [if_neg (by omega), if_neg (by omega), e, Fix.cut_small (by unfold Fix.top Fix.one; omega)]
  exact ⟨rfl, by unfold Fix.one; omega⟩

set_option maxRecDepth 100000 in
set_option maxHeartbeats 400000 in
theorem by_any (a b : Nat) (ha : a ≤ Fix.top) (hb : b ≤ Fix.top) (w : World) : Calls Try.prog 96 #[.int .u64 a, .int .u64 b] w fun e w' => e = .returned (.int .u64 (Fix.quo a b)) ∧ ∃ n, w' = w.drewN n := by
  unfold Fix.top at ha hb
  rcases Nat.eq_zero_or_pos a with h0 | h0
  · subst h0; exact by_zero b w
  have ha0 : ((a : Int) == 0) = false := by simp; omega
  by_cases h : b ≤ a / 4294967296
  · have hv := Lib.hid (quo_big a b h0 h)
    have hbd : decide ((b : Int) ≤ (a : Int) / 4294967296) = true := by simp; omega
    clear h
    go_enter Try.func96, Try.ntmps96
    go_wp2
    go_ret
    exact ⟨ret_int (by rw [hv.out]; rfl), ⟨0, rfl⟩⟩
  · have hf := quo_fits a b h0 ha (by omega)
    have hbd : decide ((b : Int) ≤ (a : Int) / 4294967296) = false := by simp; omega
    have hd : ∀ w : World, Calls Try.prog 99 #[.int .u64 (a / 4294967296 : Nat), .int .u64 (a * 4294967296 % 18446744073709551616 : Nat), .int .u64 b] w (DivPost (Fix.quo a b) w) := fun w => by
      rw [← hf.1]; exact div64_any _ _ b (by omega) (by omega) hb w
    obtain ⟨hi, hhi⟩ : ∃ hi, a / 4294967296 = hi := ⟨_, rfl⟩
    obtain ⟨lo, hlo⟩ : ∃ lo, a * 4294967296 % 18446744073709551616 = lo := ⟨_, rfl⟩
    rw [hhi, hlo] at hd
    have e1 : (a : Int) / 4294967296 = (hi : Int) := by omega
    have e2 : IntKind.u64.wrap ((a : Int) * 4294967296) = (lo : Int) := wrap_mod _ _ (by omega)
    have hbn : decide (b ≤ hi) = false := by simp; omega
    clear hbd
    have Hd := Lib.hid hd
    clear hd hf hhi hlo h
    go_enter Try.func96, Try.ntmps96
    go_wp2_with fail
    refine (Hd.out _).mono ?_
    rintro e w1 ⟨⟨r, rfl⟩, n, hn⟩
    have Hn := Lib.hid hn
    clear hn
    go_wp2
    go_ret
    exact ⟨rfl, ⟨n, Hn.out⟩⟩

set_option maxRecDepth 100000 in
set_option maxHeartbeats 400000 in
theorem div_any (a b : Nat) (ha : a ≤ Fix.top) (hb : b ≤ Fix.top) (w : World) : Calls Try.prog 90 #[.int .u64 a, .int .u64 b] w fun e w' => e = .returned (.int .u64 (Fix.quo a b)) ∧ ∃ n, w' = w.drewN n := by
  have hb1 := Lib.hid (fun w => by_any a b ha hb w)
  unfold Fix.top at ha hb
  go_enter Try.func90, Try.ntmps90
  go_wp2_with fail
  refine (hb1.out _).mono ?_
  rintro e w1 ⟨rfl, n, hn⟩
  have Hn := Lib.hid hn
  clear hn
  go_wp2
  go_ret
  exact ⟨rfl, ⟨n, Hn.out⟩⟩

theorem max_nat (a : Int) : ∃ m : Nat, max a 0 = (m : Int) ∧ a.toNat = m := ⟨a.toNat, by omega, rfl⟩

/-! ### the reference's product -/
theorem mul_in (x y : Nat) (hx : x ≤ 4294967296) (hy : y ≤ 4294967295) : IntKind.u64.wrap ((x : Int) * (y : Int)) = ((x * y : Nat) : Int) ∧ x * y ≤ 18446744069414584320 := by
  have : x * y ≤ 4294967296 * 4294967295 := Nat.mul_le_mul hx hy
  exact ⟨wrap_of _ _ rfl (by omega) _ (by rw [Int.natCast_mul]), this⟩

end Go.Proofs.Ytbfpljnfalopdaa.FixW
/-
  The reference's quotient, bit by bit: its contract.
-/
set_option linter.unusedVariables false
set_option linter.unusedSimpArgs false
namespace Go.Proofs.Ytbfpljnfalopdaa.FixW
open Go.RowKit Go.Proofs.Ytbfpljnfalopdaa.L

theorem or_one (n : Nat) (h : 2 * n + 1 ≤ 18446744073709551615) (x : Int) (hx : x = ((2 * n : Nat) : Int)) : bits .or .u64 x 1 = ((2 * n + 1 : Nat) : Int) := by
  subst hx
  rw [show (1 : Int) = ((1 : Nat) : Int) from rfl, bits_or_nat .u64 rfl _ _ (by show _ < 18446744073709551616; omega) (by decide)]
  congr 1
  exact (Nat.two_pow_add_eq_or_of_lt (i := 1) (by omega) _).symm

theorem and_one64 (n : Nat) (h : n ≤ 18446744073709551615) : bits .and .u64 (n : Int) 1 = ((n % 2 : Nat) : Int) := by
  rw [show (1 : Int) = ((1 : Nat) : Int) from rfl, bits_and_nat .u64 rfl _ _ (by show _ < 18446744073709551616; omega) (by decide), Nat.and_one_is_mod]

/-- What a round does, in the walk's words. -/
theorem over_round (a b k : Nat) (ha : a ≤ 18446744073709551615) (hb : 0 < b) (hbt : b ≤ 18446744073709551615) (hk : k < 96) :
    ∃ r2 r3 r4 β : Nat, IntKind.u64.wrap ((Fix.pre a k % b : Nat) * 2 : Int) = (r2 : Int) ∧
      ((95 - k < 32 ∧ r3 = r2) ∨ (32 ≤ 95 - k ∧ (bits BinOp.and IntKind.u64 ((a : Int) / 2 ^ (95 - k - 32)) 1 == 1) = false ∧ r3 = r2) ∨
        (32 ≤ 95 - k ∧ (bits BinOp.and IntKind.u64 ((a : Int) / 2 ^ (95 - k - 32)) 1 == 1) = true ∧ bits BinOp.or IntKind.u64 (r2 : Int) 1 = (r3 : Int))) ∧
      ((decide ((9223372036854775808 : Int) ≤ ((Fix.pre a k % b : Nat) : Int)) = true ∧ IntKind.u64.wrap ((r3 : Int) - (b : Int)) = (r4 : Int) ∧ β = 1) ∨
        (decide ((9223372036854775808 : Int) ≤ ((Fix.pre a k % b : Nat) : Int)) = false ∧ decide (b ≤ r3) = true ∧ IntKind.u64.wrap ((r3 : Int) - (b : Int)) = (r4 : Int) ∧ β = 1) ∨
        (decide ((9223372036854775808 : Int) ≤ ((Fix.pre a k % b : Nat) : Int)) = false ∧ decide (b ≤ r3) = false ∧ r4 = r3 ∧ β = 0)) ∧
      Fix.pre a (k + 1) / b = 2 * (Fix.pre a k / b) + β ∧ Fix.pre a (k + 1) % b = r4 := by
  have hs := Fix.pre_succ a k hk
  have hr := Nat.mod_lt (Fix.pre a k) hb
  obtain ⟨t, ht⟩ : ∃ t, Fix.pre a (k + 1) % 2 = t := ⟨_, rfl⟩
  rw [ht] at hs
  have ht2 : t < 2 := by rw [← ht]; exact Nat.mod_lt _ (by omega)
  have hd := Fix.div_step (Fix.pre a k) b t hb ht2
  rw [← hs] at hd
  have hbit : ∀ h : 32 ≤ 95 - k, bits BinOp.and IntKind.u64 ((a : Int) / 2 ^ (95 - k - 32)) 1 = (t : Int) := fun h => by
    have e := Fix.pre_bit a k (by omega)
    rw [ht] at e
    have e2 : ((a : Int) / 2 ^ (95 - k - 32)) = ((a / 2 ^ (63 - k) : Nat) : Int) := by
      rw [Int.natCast_ediv, Int.natCast_pow, show 95 - k - 32 = 63 - k by omega]; rfl
    have hle : a / 2 ^ (63 - k) ≤ a := Nat.div_le_self _ _
    rw [e2, and_one64 _ (by omega), e]
  have hlow : ¬ 32 ≤ 95 - k → t = 0 := fun h => by rw [← ht]; exact Fix.pre_low a k (by omega) hk
  generalize Fix.pre a k % b = r at *
  generalize Fix.pre a k / b = q at *
  have hr2 : ∃ r2, 2 * r % 18446744073709551616 = r2 ∧ r2 % 2 = 0 := ⟨_, rfl, by omega⟩
  obtain ⟨r2, hr2, hev⟩ := hr2
  refine ⟨r2, r2 + t, if b ≤ 2 * r + t then 2 * r + t - b else 2 * r + t, if b ≤ 2 * r + t then 1 else 0, wrap_mod _ _ (by omega), ?_, ?_, hd.1, hd.2⟩
  · by_cases h : 32 ≤ 95 - k
    · rcases (show t = 0 ∨ t = 1 by omega) with h0 | h1
      · refine .inr (.inl ⟨h, ?_, by omega⟩)
        rw [hbit h, h0]; rfl
      · refine .inr (.inr ⟨h, ?_, ?_⟩)
        · rw [hbit h, h1]; rfl
        · rw [h1]
          have := or_one (r2 / 2) (by omega) (r2 : Int) (by omega)
          rw [this]; omega
    · exact .inl ⟨by omega, by have := hlow h; omega⟩
  · by_cases htop : 9223372036854775808 ≤ r
    · have h1 : b ≤ 2 * r + t := by omega
      refine .inl ⟨by simp; omega, ?_, if_pos h1⟩
      rw [if_pos h1]
      exact wrap_mod _ _ (by omega)
    · have e : r2 = 2 * r := by omega
      by_cases h1 : b ≤ 2 * r + t
      · refine .inr (.inl ⟨by simp; omega, by simp; omega, ?_, if_pos h1⟩)
        rw [if_pos h1]
        exact wrap_mod _ _ (by omega)
      · exact .inr (.inr ⟨by simp; omega, by simp; omega, by rw [if_neg h1]; omega, if_neg h1⟩)

set_option maxRecDepth 100000 in
set_option maxHeartbeats 2000000 in
theorem over_any (a b : Nat) (ha : a ≤ Fix.top) (hb : 0 < b) (hbt : b ≤ Fix.top) (w : World) :
    Calls Try.prog 93 #[.int .u64 a, .int .u64 b] w fun e w' => e = .returned (.int .u64 (Fix.cut (a * Fix.one / b))) ∧ w = w' := by
  have hz := Fix.pre_zero a ha
  have hend := Fix.pre_end a
  unfold Fix.top at ha hbt
  obtain ⟨V, hV⟩ : ∃ V, Fix.cut (a * Fix.one / b) = V := ⟨_, rfl⟩
  have hbig : ∀ k, k < 96 → 9223372036854775808 ≤ Fix.pre a k / b → V = Fix.top := fun k hk h => by rw [← hV]; exact Fix.over_big a b k hk h
  have hlast : ∀ q, Fix.pre a 96 / b = q → q ≤ 18446744073709551615 → V = q := fun q h1 h2 => by rw [← hV, ← hend, h1]; exact Fix.cut_small h2
  rw [hV]
  have Hz := Lib.hid hz
  have Hbig := Lib.hid hbig
  have Hlast := Lib.hid hlast
  have HR := Lib.hid (fun k hk => over_round a b k ha hb hbt hk)
  clear hz hbig hlast hend hV
  go_enter Try.func93, Try.ntmps93
  go_wp2
  go_loop [5, 6, 7] (fun x z i => ∃ k q r : Nat, k ≤ 96 ∧ i = .int .i64 (95 - (k : Int)) ∧ x = .int .u64 q ∧ z = .int .u64 r ∧ q ≤ 18446744073709551615 ∧ r ≤ 18446744073709551615 ∧ Fix.pre a k / b = q ∧ Fix.pre a k % b = r) (fun _ _ i => (intOf i + 1).toNat)
  case atStart => exact ⟨0, 0, 0, by omega, rfl, rfl, rfl, by omega, by omega, by rw [Hz.out, Nat.zero_div], by rw [Hz.out, Nat.zero_mod]⟩
  case round =>
    obtain ⟨k, q, r, hk, rfl, rfl, rfl, hq, hr, hpq, hpr⟩ := hrel
    by_cases hk96 : k < 96
    · obtain ⟨r2, r3, r4, β, f1, f2, f3, f4, f5⟩ := HR.out k hk96
      rw [hpr] at f1 f3
      rw [hpq] at f4
      have hr4 : r4 < b := by rw [← f5]; exact Nat.mod_lt _ hb
      have hβ : β ≤ 1 := by rcases f3 with h | h | h <;> omega
      have Hpq := Lib.hid hpq
      have Hpr := Lib.hid hpr
      have F4 := Lib.hid f4
      have F5 := Lib.hid f5
      obtain ⟨i, hi⟩ : ∃ i, 95 - k = i := ⟨_, rfl⟩
      rw [hi] at f2
      have hiI : (95 : Int) - (k : Int) = (i : Int) := by omega
      have hi95 : i ≤ 95 := by omega
      clear hpq hpr f4 f5 hi HR Hz Hlast
      by_cases hh : 9223372036854775808 ≤ q
      · have tq : decide ((9223372036854775808 : Int) ≤ (q : Int)) = true := by simp; omega
        have hv := Lib.hid (Hbig.out k hk96 (by rw [Hpq.out]; exact hh))
        clear hh
        rcases f2 with ⟨c1, rfl⟩ | ⟨c2, c3, rfl⟩ | ⟨c2, c3, c4⟩ <;> rcases f3 with ⟨d1, d2, rfl⟩ | ⟨d1, d2, d3, rfl⟩ | ⟨d1, d2, rfl, rfl⟩
        all_goals
          go_wp2
          go_ret
          exact ⟨ret_int (by rw [hv.out]; rfl), rfl⟩
      · have tq : decide ((9223372036854775808 : Int) ≤ (q : Int)) = false := by simp; omega
        have hq2 : q ≤ 9223372036854775807 := by omega
        have ho : bits BinOp.or IntKind.u64 ((q : Int) * 2) 1 = ((2 * q + 1 : Nat) : Int) := or_one q (by omega) _ (by omega)
        obtain ⟨q1, hq1⟩ : ∃ q1, 2 * q + 1 = q1 := ⟨_, rfl⟩
        rw [hq1] at ho
        have Hq1 := Lib.hid hq1
        clear hh hq1
        rcases f2 with ⟨c1, rfl⟩ | ⟨c2, c3, rfl⟩ | ⟨c2, c3, c4⟩ <;> rcases f3 with ⟨d1, d2, rfl⟩ | ⟨d1, d2, d3, rfl⟩ | ⟨d1, d2, rfl, rfl⟩
        all_goals
          go_wp2
          go_round
          case rel => first | exact ⟨k + 1, q1, _, hk96, ret_val (by omega), rfl, rfl, by have := Hq1.out; omega, by omega, by rw [F4.out]; have := Hq1.out; omega, F5.out⟩ | exact ⟨k + 1, 2 * q, _, hk96, ret_val (by omega), ret_val (by omega), rfl, by omega, by omega, F4.out, F5.out⟩
          case measure => simp [intOf]; omega
    · obtain rfl : k = 96 := by omega
      have hv := Lib.hid (Hlast.out q hpq hq)
      clear hpq hpr
      go_wp2
      go_ret
      exact ⟨ret_int (by rw [hv.out]), rfl⟩

end Go.Proofs.Ytbfpljnfalopdaa.FixW
/-
  Trimmed for this seat: FixLaws.
-/
set_option linter.unusedVariables false
set_option linter.unusedSimpArgs false
namespace Go.Proofs.Ytbfpljnfalopdaa.FixW
open Go.RowKit Go.Proofs.Ytbfpljnfalopdaa.L

theorem gadd (a b : Nat) (ha : a ≤ Fix.top) (hb : b ≤ Fix.top) : Gives Try.prog 97 #[.int .u64 a, .int .u64 b] (.int .u64 (Fix.add a b)) := .of_eq fun w => add_any a b ha hb w
theorem gdiv (a b : Nat) (ha : a ≤ Fix.top) (hb : b ≤ Fix.top) : Gives Try.prog 90 #[.int .u64 a, .int .u64 b] (.int .u64 (Fix.quo a b)) := .of_drew fun w => div_any a b ha hb w
theorem gof (n : Int) (h0 : -9223372036854775808 ≤ n) (h1 : n ≤ 9223372036854775807) : Gives Try.prog 92 #[.int .i64 n] (.int .u64 (Fix.ofInt n)) := .of_eq fun w => of_any n h0 h1 w
theorem gradd (a b : Nat) (ha : a ≤ Fix.top) (hb : b ≤ Fix.top) : Gives Try.prog 94 #[.int .u64 a, .int .u64 b] (.int .u64 (Fix.add a b)) := .of_eq fun w => refadd_any a b ha hb w
theorem grof (n : Int) (h0 : -9223372036854775808 ≤ n) (h1 : n ≤ 9223372036854775807) : Gives Try.prog 83 #[.int .i64 n] (.int .u64 (Fix.ofInt n)) := .of_eq fun w => refof_any n h0 h1 w
set_option maxRecDepth 100000 in
set_option maxHeartbeats 400000 in
theorem grdiv (a b : Nat) (ha : a ≤ Fix.top) (hb : b ≤ Fix.top) : Gives Try.prog 81 #[.int .u64 a, .int .u64 b] (.int .u64 (Fix.quo a b)) := by
  refine .of_eq fun w => ?_
  by_cases h0 : a = 0
  · subst h0
    go_enter Try.func81, Try.ntmps81
    go_wp2
    go_ret
    exact ⟨rfl, rfl⟩
  have t0 : ((a : Int) == 0) = false := by simp; omega
  by_cases h1 : b = 0
  · have hv := Lib.hid (show Fix.quo a b = 18446744073709551615 by rw [Fix.quo, if_neg h0, if_pos h1]; rfl)
    have t1 : ((b : Int) == 0) = true := by simp; omega
    clear h0 h1
    go_enter Try.func81, Try.ntmps81
    go_wp2
    go_ret
    exact ⟨ret_int (by rw [hv.out]; rfl), rfl⟩
  · have hv := Lib.hid (show Fix.quo a b = Fix.cut (a * Fix.one / b) by rw [Fix.quo, if_neg h0, if_neg h1])
    have t1 : ((b : Int) == 0) = false := by simp; omega
    have hc := Lib.hid (fun w => over_any a b ha (by omega) hb w)
    clear h0 h1
    go_enter Try.func81, Try.ntmps81
    go_wp2_with fail
    refine (hc.out _).mono ?_
    rintro e w1 ⟨rfl, rfl⟩
    go_wp2
    go_ret
    exact ⟨ret_int (by rw [hv.out]), rfl⟩

/-! ### the examples -/
theorem a1 : Gives Try.prog 92 #[.int .i64 1] (.int .u64 4294967296) := (gof 1 (by omega) (by omega)).val (ret_val (by decide +kernel))
theorem a2 : Gives Try.prog 92 #[.int .i64 3] (.int .u64 12884901888) := (gof 3 (by omega) (by omega)).val (ret_val (by decide +kernel))
theorem a3 : Gives Try.prog 90 #[.int .u64 4294967296, .int .u64 12884901888] (.int .u64 1431655765) := (gdiv 4294967296 12884901888 (by decide) (by decide)).val (ret_val (by decide +kernel))
theorem a6 : Gives Try.prog 92 #[.int .i64 2] (.int .u64 8589934592) := (gof 2 (by omega) (by omega)).val (ret_val (by decide +kernel))
theorem a8 : Gives Try.prog 97 #[.int .u64 18446744073709551615, .int .u64 1] (.int .u64 18446744073709551615) := (gadd 18446744073709551615 1 (by decide) (by decide)).val (ret_val (by decide +kernel))
theorem u64_nat {n : Int} (h : (Lit.int .u64 n).wf = true) : ∃ m : Nat, n = (m : Int) ∧ m ≤ Fix.top := by
  simp [Lit.wf, IntKind.min, IntKind.max, IntKind.signed, IntKind.bits] at h
  obtain ⟨m, rfl⟩ := Int.eq_ofNat_of_zero_le h.1
  exact ⟨m, rfl, by unfold Fix.top; omega⟩

end Go.Proofs.Ytbfpljnfalopdaa.FixW
