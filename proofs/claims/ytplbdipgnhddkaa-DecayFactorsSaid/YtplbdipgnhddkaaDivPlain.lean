/-
  Division of a number of two words by one word in halves of a word (the schoolbook way, with a guess that is corrected): its arithmetic. No program in sight.
-/
set_option linter.unusedVariables false
set_option linter.unusedSimpArgs false
namespace Go.Proofs.Ytplbdipgnhddkaa.Dv

def B : Nat := 4294967296

theorem more {U u Y y1 y0 q r : Nat} (hY : Y = y1 * B + y0) (hq : q * y1 + r = U) (hQ : (U * B + u) / Y < B) (hpos : 0 < Y) (h : B ≤ q ∨ B * r + u < q * y0) (hle : (U * B + u) / Y ≤ q) :
    (U * B + u) / Y ≤ q - 1 ∧ 1 ≤ q := by
  have key : (U * B + u) / Y < q := by
    rcases h with h | h
    · omega
    · rw [Nat.div_lt_iff_lt_mul hpos, hY, ← hq]
      have e1 : q * (y1 * B + y0) = q * y1 * B + q * y0 := by rw [Nat.mul_add, Nat.mul_assoc]
      have e2 : (q * y1 + r) * B = q * y1 * B + B * r := by rw [Nat.add_mul, Nat.mul_comm r B]
      omega
  exact ⟨Nat.le_sub_one_of_lt key, Nat.lt_of_le_of_lt (Nat.zero_le _) key⟩

theorem done {U u Y y1 y0 q r : Nat} (hY : Y = y1 * B + y0) (hq : q * y1 + r = U) (hpos : 0 < Y) (h : q * y0 ≤ B * r + u) (hle : (U * B + u) / Y ≤ q) : q = (U * B + u) / Y := by
  have key : q ≤ (U * B + u) / Y := by
    rw [Nat.le_div_iff_mul_le hpos, hY, ← hq]
    have e1 : q * (y1 * B + y0) = q * y1 * B + q * y0 := by rw [Nat.mul_add, Nat.mul_assoc]
    have e2 : (q * y1 + r) * B = q * y1 * B + B * r := by rw [Nat.add_mul, Nat.mul_comm r B]
    omega
  exact Nat.le_antisymm key hle

theorem brk {U u Y y1 y0 q r : Nat} (hY : Y = y1 * B + y0) (hy0 : y0 < B) (hq : q * y1 + r = U) (hU : U < Y) (hr : B ≤ r) : q * y0 ≤ B * r + u := by
  have hlt : q < B := by
    rcases Nat.lt_or_ge q B with h | h
    · exact h
    · have : B * y1 ≤ q * y1 := Nat.mul_le_mul_right _ h
      rw [Nat.mul_comm B y1] at this
      omega
  have h1 : q * y0 ≤ B * B := Nat.mul_le_mul (by omega) (by omega)
  have h2 : B * B ≤ B * r := Nat.mul_le_mul_left _ hr
  omega

theorem start {U u Y y1 y0 : Nat} (hY : Y = y1 * B + y0) (hu : u < B) (hy1 : 0 < y1) : (U * B + u) / Y ≤ U / y1 := by
  have h1 : (U * B + u) / Y ≤ (U * B + u) / (y1 * B) := Nat.div_le_div_left (by omega) (Nat.mul_pos hy1 (by decide))
  have h2 : (U * B + u) / (y1 * B) = U / y1 := by
    rw [Nat.mul_comm y1 B, ← Nat.div_div_eq_div_mul, Nat.mul_comm U B, Nat.mul_add_div (by decide : 0 < B), Nat.div_eq_of_lt hu, Nat.add_zero]
  omega

theorem small {U u Y : Nat} (hU : U < Y) (hu : u < B) : (U * B + u) / Y < B := by
  rw [Nat.div_lt_iff_lt_mul (by omega)]
  have : (U + 1) * B ≤ Y * B := Nat.mul_le_mul_right _ hU
  rw [Nat.add_mul, Nat.one_mul] at this
  rw [Nat.mul_comm B Y]
  omega

/-- The two halves together. -/
theorem both (U u1 u0 Y : Nat) (hpos : 0 < Y) : (U * B + u1) / Y * B + ((U * B + u1) % Y * B + u0) / Y = (U * (B * B) + (u1 * B + u0)) / Y := by
  have e : U * (B * B) + (u1 * B + u0) = (U * B + u1) * B + u0 := by rw [Nat.add_mul, Nat.mul_assoc]; omega
  have hd := Nat.div_add_mod (U * B + u1) Y
  generalize (U * B + u1) / Y = q at *
  generalize (U * B + u1) % Y = r at *
  rw [e, ← hd]
  have e2 : (Y * q + r) * B + u0 = r * B + u0 + Y * (q * B) := by rw [Nat.add_mul, Nat.mul_assoc]; omega
  rw [e2, Nat.add_mul_div_left _ _ hpos]
  omega

/-- What is left behind the first half, reckoned round 2^64. -/
theorem left (U u Y Q : Nat) (hY : Y < 18446744073709551616) (hpos : 0 < Y) (hQ : (U * B + u) / Y = Q) : U * B + u = Q * Y + (U * B + u) % Y ∧ (U * B + u) % Y < Y := by
  have hd := Nat.div_add_mod (U * B + u) Y
  rw [hQ, Nat.mul_comm] at hd
  exact ⟨hd.symm, Nat.mod_lt _ hpos⟩

/-- What the shift to the left end makes of both. -/
theorem norm (hi lo y : Nat) (hy : hi < y) (hlo : lo < 18446744073709551616) (hyt : y < 18446744073709551616) :
    ∃ s, s < 64 ∧ 2 ^ (63 - s) ≤ y ∧ y / 2 ^ (63 - s) = 1 ∧ 9223372036854775808 ≤ y * 2 ^ s ∧ y * 2 ^ s < 18446744073709551616 ∧
      hi * 2 ^ s < 18446744073709551616 ∧ lo / 2 ^ (64 - s) < 2 ^ s ∧ hi * 2 ^ s + lo / 2 ^ (64 - s) < y * 2 ^ s ∧
      (hi * 18446744073709551616 + lo) * 2 ^ s = (hi * 2 ^ s + lo / 2 ^ (64 - s)) * 18446744073709551616 + lo * 2 ^ s % 18446744073709551616 := by
  have hy0 : y ≠ 0 := by omega
  have h1 := Nat.log2_self_le hy0
  have h2 := @Nat.lt_log2_self y
  have hk : y.log2 < 64 := (Nat.log2_lt hy0).2 hyt
  generalize y.log2 = k at *
  have hs : 63 - (63 - k) = k := by omega
  have p1 : (2 : Nat) ^ k * 2 ^ (63 - k) = 9223372036854775808 := by rw [← Nat.pow_add, show k + (63 - k) = 63 by omega]
  have p2 : (2 : Nat) ^ (k + 1) * 2 ^ (63 - k) = 18446744073709551616 := by rw [← Nat.pow_add, show k + 1 + (63 - k) = 64 by omega]
  have p3 : (2 : Nat) ^ (64 - (63 - k)) * 2 ^ (63 - k) = 18446744073709551616 := by rw [← Nat.pow_add, show 64 - (63 - k) + (63 - k) = 64 by omega]
  have hpos : 0 < 2 ^ (63 - k) := Nat.two_pow_pos _
  have a1 : 9223372036854775808 ≤ y * 2 ^ (63 - k) := by rw [← p1]; exact Nat.mul_le_mul_right _ h1
  have a2 : y * 2 ^ (63 - k) < 18446744073709551616 := by rw [← p2]; exact Nat.mul_lt_mul_of_pos_right h2 hpos
  have a3 : (hi + 1) * 2 ^ (63 - k) ≤ y * 2 ^ (63 - k) := Nat.mul_le_mul_right _ hy
  rw [Nat.add_mul, Nat.one_mul] at a3
  have a4 : lo / 2 ^ (64 - (63 - k)) < 2 ^ (63 - k) := by
    rw [Nat.div_lt_iff_lt_mul (Nat.two_pow_pos _), Nat.mul_comm, p3]; exact hlo
  refine ⟨63 - k, by omega, by rw [hs]; exact h1, ?_, a1, a2, by omega, a4, by omega, ?_⟩
  · rw [hs]
    exact Nat.div_eq_of_lt_le (by rw [Nat.one_mul]; exact h1) (by rw [Nat.pow_succ] at h2; omega)
  · have hd := Nat.div_add_mod (lo * 2 ^ (63 - k)) 18446744073709551616
    have e : lo * 2 ^ (63 - k) / 18446744073709551616 = lo / 2 ^ (64 - (63 - k)) := by
      rw [← p3]; exact Nat.mul_div_mul_right _ _ hpos
    rw [e] at hd
    rw [Nat.add_mul, Nat.add_mul, Nat.mul_right_comm]
    omega

theorem shifted (N y s : Nat) : N * 2 ^ s / (y * 2 ^ s) = N / y := Nat.mul_div_mul_right _ _ (Nat.two_pow_pos _)

end Go.Proofs.Ytplbdipgnhddkaa.Dv
