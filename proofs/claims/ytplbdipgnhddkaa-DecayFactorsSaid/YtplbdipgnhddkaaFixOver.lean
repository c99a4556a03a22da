/-
  The reference's quotient, bit by bit: its contract.
-/
import Derived.Test.YtplbdipgnhddkaaFixQuo
set_option linter.unusedVariables false
set_option linter.unusedSimpArgs false
namespace Go.Proofs.Ytplbdipgnhddkaa.FixW
open Go.RowKit Go.Proofs.Ytplbdipgnhddkaa.L

theorem or_one (n : Nat) (h : 2 * n + 1 ≤ 18446744073709551615) (x : Int) (hx : x = ((2 * n : Nat) : Int)) : bits .or .u64 x 1 = ((2 * n + 1 : Nat) : Int) := by
  subst hx
  rw [show (1 : Int) = ((1 : Nat) : Int) from rfl, bits_or_nat .u64 rfl _ _ (by show _ < 18446744073709551616; omega) (by decide)]
  congr 1
  exact (Nat.two_pow_add_eq_or_of_lt (i := 1) (by omega) _).symm

theorem and_one64 (n : Nat) (h : n ≤ 18446744073709551615) : bits .and .u64 (n : Int) 1 = ((n % 2 : Nat) : Int) := by
  rw [show (1 : Int) = ((1 : Nat) : Int) from rfl, bits_and_nat .u64 rfl _ _ (by show _ < 18446744073709551616; omega) (by decide), Nat.and_one_is_mod]

/-- What a round does, in the walk's words. -/
theorem over_round (a b k : Nat) (ha : a ≤ 18446744073709551615) (hb : 0 < b) (hbt : b ≤ 18446744073709551615) (hk : k < 96) :
    ∃ r2 r3 r4 β : Nat, IntKind.u64.wrap ((Fix.pre a k % b : Nat) * 2 : Int) = (r2 : Int) ∧
      ((95 - k < 32 ∧ r3 = r2) ∨ (32 ≤ 95 - k ∧ (bits BinOp.and IntKind.u64 ((a : Int) / 2 ^ (95 - k - 32)) 1 == 1) = false ∧ r3 = r2) ∨
        (32 ≤ 95 - k ∧ (bits BinOp.and IntKind.u64 ((a : Int) / 2 ^ (95 - k - 32)) 1 == 1) = true ∧ bits BinOp.or IntKind.u64 (r2 : Int) 1 = (r3 : Int))) ∧
      ((decide ((9223372036854775808 : Int) ≤ ((Fix.pre a k % b : Nat) : Int)) = true ∧ IntKind.u64.wrap ((r3 : Int) - (b : Int)) = (r4 : Int) ∧ β = 1) ∨
        (decide ((9223372036854775808 : Int) ≤ ((Fix.pre a k % b : Nat) : Int)) = false ∧ decide (b ≤ r3) = true ∧ IntKind.u64.wrap ((r3 : Int) - (b : Int)) = (r4 : Int) ∧ β = 1) ∨
        (decide ((9223372036854775808 : Int) ≤ ((Fix.pre a k % b : Nat) : Int)) = false ∧ decide (b ≤ r3) = false ∧ r4 = r3 ∧ β = 0)) ∧
      Fix.pre a (k + 1) / b = 2 * (Fix.pre a k / b) + β ∧ Fix.pre a (k + 1) % b = r4 := by
  have hs := Fix.pre_succ a k hk
  have hr := Nat.mod_lt (Fix.pre a k) hb
  obtain ⟨t, ht⟩ : ∃ t, Fix.pre a (k + 1) % 2 = t := ⟨_, rfl⟩
  rw [ht] at hs
  have ht2 : t < 2 := by rw [← ht]; exact Nat.mod_lt _ (by omega)
  have hd := Fix.div_step (Fix.pre a k) b t hb ht2
  rw [← hs] at hd
  have hbit : ∀ h : 32 ≤ 95 - k, bits BinOp.and IntKind.u64 ((a : Int) / 2 ^ (95 - k - 32)) 1 = (t : Int) := fun h => by
    have e := Fix.pre_bit a k (by omega)
    rw [ht] at e
    have e2 : ((a : Int) / 2 ^ (95 - k - 32)) = ((a / 2 ^ (63 - k) : Nat) : Int) := by
      rw [Int.natCast_ediv, Int.natCast_pow, show 95 - k - 32 = 63 - k by omega]; rfl
    have hle : a / 2 ^ (63 - k) ≤ a := Nat.div_le_self _ _
    rw [e2, and_one64 _ (by omega), e]
  have hlow : ¬ 32 ≤ 95 - k → t = 0 := fun h => by rw [← ht]; exact Fix.pre_low a k (by omega) hk
  generalize Fix.pre a k % b = r at *
  generalize Fix.pre a k / b = q at *
  have hr2 : ∃ r2, 2 * r % 18446744073709551616 = r2 ∧ r2 % 2 = 0 := ⟨_, rfl, by omega⟩
  obtain ⟨r2, hr2, hev⟩ := hr2
  refine ⟨r2, r2 + t, if b ≤ 2 * r + t then 2 * r + t - b else 2 * r + t, if b ≤ 2 * r + t then 1 else 0, wrap_mod _ _ (by omega), ?_, ?_, hd.1, hd.2⟩
  · by_cases h : 32 ≤ 95 - k
    · rcases (show t = 0 ∨ t = 1 by omega) with h0 | h1
      · refine .inr (.inl ⟨h, ?_, by omega⟩)
        rw [hbit h, h0]; rfl
      · refine .inr (.inr ⟨h, ?_, ?_⟩)
        · rw [hbit h, h1]; rfl
        · rw [h1]
          have := or_one (r2 / 2) (by omega) (r2 : Int) (by omega)
          rw [this]; omega
    · exact .inl ⟨by omega, by have := hlow h; omega⟩
  · by_cases htop : 9223372036854775808 ≤ r
    · have h1 : b ≤ 2 * r + t := by omega
      refine .inl ⟨by simp; omega, ?_, if_pos h1⟩
      rw [if_pos h1]
      exact wrap_mod _ _ (by omega)
    · have e : r2 = 2 * r := by omega
      by_cases h1 : b ≤ 2 * r + t
      · refine .inr (.inl ⟨by simp; omega, by simp; omega, ?_, if_pos h1⟩)
        rw [if_pos h1]
        exact wrap_mod _ _ (by omega)
      · exact .inr (.inr ⟨by simp; omega, by simp; omega, by rw [if_neg h1]; omega, if_neg h1⟩)

set_option maxRecDepth 100000 in
set_option maxHeartbeats 2000000 in
theorem over_any (a b : Nat) (ha : a ≤ Fix.top) (hb : 0 < b) (hbt : b ≤ Fix.top) (w : World) :
    Calls Try.prog 67 #[.int .u64 a, .int .u64 b] w fun e w' => e = .returned (.int .u64 (Fix.cut (a * Fix.one / b))) ∧ w = w' := by
  have hz := Fix.pre_zero a ha
  have hend := Fix.pre_end a
  unfold Fix.top at ha hbt
  obtain ⟨V, hV⟩ : ∃ V, Fix.cut (a * Fix.one / b) = V := ⟨_, rfl⟩
  have hbig : ∀ k, k < 96 → 9223372036854775808 ≤ Fix.pre a k / b → V = Fix.top := fun k hk h => by rw [← hV]; exact Fix.over_big a b k hk h
  have hlast : ∀ q, Fix.pre a 96 / b = q → q ≤ 18446744073709551615 → V = q := fun q h1 h2 => by rw [← hV, ← hend, h1]; exact Fix.cut_small h2
  rw [hV]
  have Hz := Lib.hid hz
  have Hbig := Lib.hid hbig
  have Hlast := Lib.hid hlast
  have HR := Lib.hid (fun k hk => over_round a b k ha hb hbt hk)
  clear hz hbig hlast hend hV
  go_enter Try.func67, Try.ntmps67
  go_wp2
  go_loop [5, 6, 7] (fun x z i => ∃ k q r : Nat, k ≤ 96 ∧ i = .int .i64 (95 - (k : Int)) ∧ x = .int .u64 q ∧ z = .int .u64 r ∧ q ≤ 18446744073709551615 ∧ r ≤ 18446744073709551615 ∧ Fix.pre a k / b = q ∧ Fix.pre a k % b = r) (fun _ _ i => (intOf i + 1).toNat)
  case atStart => exact ⟨0, 0, 0, by omega, rfl, rfl, rfl, by omega, by omega, by rw [Hz.out, Nat.zero_div], by rw [Hz.out, Nat.zero_mod]⟩
  case round =>
    obtain ⟨k, q, r, hk, rfl, rfl, rfl, hq, hr, hpq, hpr⟩ := hrel
    by_cases hk96 : k < 96
    · obtain ⟨r2, r3, r4, β, f1, f2, f3, f4, f5⟩ := HR.out k hk96
      rw [hpr] at f1 f3
      rw [hpq] at f4
      have hr4 : r4 < b := by rw [← f5]; exact Nat.mod_lt _ hb
      have hβ : β ≤ 1 := by rcases f3 with h | h | h <;> omega
      have Hpq := Lib.hid hpq
      have Hpr := Lib.hid hpr
      have F4 := Lib.hid f4
      have F5 := Lib.hid f5
      obtain ⟨i, hi⟩ : ∃ i, 95 - k = i := ⟨_, rfl⟩
      rw [hi] at f2
      have hiI : (95 : Int) - (k : Int) = (i : Int) := by omega
      have hi95 : i ≤ 95 := by omega
      clear hpq hpr f4 f5 hi HR Hz Hlast
      by_cases hh : 9223372036854775808 ≤ q
      · have tq : decide ((9223372036854775808 : Int) ≤ (q : Int)) = true := by simp; omega
        have hv := Lib.hid (Hbig.out k hk96 (by rw [Hpq.out]; exact hh))
        clear hh
        rcases f2 with ⟨c1, rfl⟩ | ⟨c2, c3, rfl⟩ | ⟨c2, c3, c4⟩ <;> rcases f3 with ⟨d1, d2, rfl⟩ | ⟨d1, d2, d3, rfl⟩ | ⟨d1, d2, rfl, rfl⟩
        all_goals
          go_wp2
          go_ret
          exact ⟨ret_int (by rw [hv.out]; rfl), rfl⟩
      · have tq : decide ((9223372036854775808 : Int) ≤ (q : Int)) = false := by simp; omega
        have hq2 : q ≤ 9223372036854775807 := by omega
        have ho : bits BinOp.or IntKind.u64 ((q : Int) * 2) 1 = ((2 * q + 1 : Nat) : Int) := or_one q (by omega) _ (by omega)
        obtain ⟨q1, hq1⟩ : ∃ q1, 2 * q + 1 = q1 := ⟨_, rfl⟩
        rw [hq1] at ho
        have Hq1 := Lib.hid hq1
        clear hh hq1
        rcases f2 with ⟨c1, rfl⟩ | ⟨c2, c3, rfl⟩ | ⟨c2, c3, c4⟩ <;> rcases f3 with ⟨d1, d2, rfl⟩ | ⟨d1, d2, d3, rfl⟩ | ⟨d1, d2, rfl, rfl⟩
        all_goals
          go_wp2
          go_round
          case rel => first | exact ⟨k + 1, q1, _, hk96, ret_val (by omega), rfl, rfl, by have := Hq1.out; omega, by omega, by rw [F4.out]; have := Hq1.out; omega, F5.out⟩ | exact ⟨k + 1, 2 * q, _, hk96, ret_val (by omega), ret_val (by omega), rfl, by omega, by omega, F4.out, F5.out⟩
          case measure => simp [intOf]; omega
    · obtain rfl : k = 96 := by omega
      have hv := Lib.hid (Hlast.out q hpq hq)
      clear hpq hpr
      go_wp2
      go_ret
      exact ⟨ret_int (by rw [hv.out]), rfl⟩

end Go.Proofs.Ytplbdipgnhddkaa.FixW
