/-
  The contract of package decay's Factor.
-/
import Derived.Test.YtplbdipgnhddkaaDecWalk
set_option linter.unusedVariables false
set_option linter.unusedSimpArgs false
namespace Go.Proofs.Ytplbdipgnhddkaa.DecW
open Go.RowKit Go.Proofs.Ytplbdipgnhddkaa.L

theorem and_pow (f i : Nat) (hf : f < 65536) (hi : i ≤ 15) : (bits BinOp.and IntKind.u64 (f : Int) (IntKind.u64.wrap (2 ^ i)) != 0) = decide (f / 2 ^ i % 2 = 1) := by
  have h1 : (2 : Nat) ^ i ≤ 2 ^ 15 := Nat.pow_le_pow_right (by omega) hi
  have h2 : (2 : Nat) ^ 15 = 32768 := by decide
  have e1 : IntKind.u64.wrap (2 ^ i) = ((2 ^ i : Nat) : Int) := by
    have e : ((2 : Int) ^ i) = ((2 ^ i : Nat) : Int) := by simp
    rw [e]
    exact L.wrap_small IntKind.u64 rfl (2 ^ i) (by show _ < 18446744073709551616; omega)
  rw [e1, bits_and_nat IntKind.u64 rfl _ _ (by show _ < 18446744073709551616; omega) (by show _ < 18446744073709551616; omega), ← Nat.testBit_eq_decide_div_mod_eq]
  by_cases h : f.testBit i = true
  · have : f &&& 2 ^ i ≠ 0 := fun e => by
      have := congrArg (fun n : Nat => n.testBit i) e
      simp only [Nat.testBit_and, h, Nat.testBit_two_pow_self, Bool.and_self, Nat.zero_testBit] at this
      cases this
    rw [h, bne_iff_ne]
    omega
  · have : f &&& 2 ^ i = 0 := by
      apply Nat.eq_of_testBit_eq
      intro j
      rw [Nat.testBit_and, Nat.testBit_two_pow, Nat.zero_testBit]
      by_cases hj : i = j
      · subst hj; simp [h]
      · simp [hj]
    rw [this]
    simp at h
    rw [h]; rfl

set_option maxHeartbeats 1000000 in
theorem factor_any (age half : Int) (hA0 : -9223372036854775808 ≤ age) (hA1 : age ≤ 9223372036854775807) (hH0 : -9223372036854775808 ≤ half) (hH1 : half ≤ 9223372036854775807) (w : World) :
    Calls Try.prog 32 #[.int .i64 age, .int .i64 half] w fun e w' => e = .returned (.int .u64 (Dec.factor age half : Int)) ∧ Below w.heap.size w w' := by
  obtain ⟨a, ha, hav⟩ : ∃ a : Nat, max age 0 = (a : Int) ∧ max age 0 = (a : Int) := ⟨(max age 0).toNat, by omega, by omega⟩
  obtain ⟨h, hh, hhv⟩ : ∃ h : Nat, max half 1 = (h : Int) ∧ max half 1 = (h : Int) := ⟨(max half 1).toNat, by omega, by omega⟩
  have hpos : 0 < h := by omega
  have ha64 : a ≤ 9223372036854775807 := by omega
  have hh64 : h ≤ 9223372036854775807 := by omega
  obtain ⟨q, hq⟩ : ∃ q : Nat, (a : Int) / (h : Int) = (q : Int) := ⟨a / h, by simp⟩
  have hq64 : q ≤ 9223372036854775807 := by have : (a : Int) / (h : Int) ≤ (a : Int) := Int.ediv_le_self _ (by omega); omega
  obtain ⟨r, hr⟩ : ∃ r : Nat, (a : Int) % (h : Int) = (r : Int) := ⟨a % h, by simp⟩
  have hrh : r < h := by have := Int.emod_lt_of_pos (a : Int) (show (0 : Int) < h by omega); omega
  have hv : Dec.factor age half = Dec.rounds (Dec.frac r h) 16 / 2 ^ q := by unfold Dec.factor Dec.fac; rw [hav, hhv, hr, hq]; simp
  have hfar : 63 < q → Dec.factor age half = 0 := fun hq' => by unfold Dec.factor; rw [hav, hhv]; exact Dec.fac_far _ _ (by omega)
  clear hav hhv
  have HV := Lib.hid hv
  have HF := Lib.hid hfar
  clear hv hfar
  by_cases hq63 : 63 < q
  · go_enter Try.func32, Try.ntmps32
    go_wp2_with fail
    go_ret
    exact ⟨ret_int (by rw [HF.out hq63]; rfl), Below.refl _ _⟩
  have hrat := FixW.gratio (r : Int) (h : Int) (by omega) (by omega) (by omega) (by omega)
  have hfl := Dec.frac_lt (r : Int) (h : Int) (by omega) (by omega)
  have hrl := Dec.ratio_lt (r : Int) (h : Int) (by omega) (by omega)
  obtain ⟨F, hF⟩ : ∃ F, Fix.ratio (r : Int) (h : Int) = F := ⟨_, rfl⟩
  obtain ⟨f, hf⟩ : ∃ f, Dec.frac (r : Int) (h : Int) = f := ⟨_, rfl⟩
  have hFf : (F : Int) / 65536 = (f : Int) := by rw [← hf, ← hF]; unfold Dec.frac; omega
  rw [hF] at hrat hrl
  rw [hf] at hfl HV
  clear hF hf
  go_enter Try.func32, Try.ntmps32
  go_wp2_with fail
  refine (hrat _).mono ?_
  rintro e w1 ⟨rfl, hb1⟩
  go_wp2_with fail
  refine (table_any _).mono ?_
  rintro e w2 ⟨rfl, hb2⟩
  go_wp2_with fail
  go_loop [6, 24] (fun x i => ∃ k : Nat, k ≤ 16 ∧ i = .int .i64 (k : Int) ∧ x = .int .u64 (Dec.rounds f k : Int)) (fun _ i => 16 - (intOf i).toNat)
  case atStart => exact ⟨0, by omega, rfl, rfl⟩
  case round =>
    obtain ⟨k, hk, rfl, rfl⟩ := hrel
    by_cases hk16 : k < 16
    · have hi := tab_index k hk16
      have hx := Dec.rounds_le f k
      unfold Fix.one at hx
      have hap := and_pow f (15 - k) hfl (by omega)
      have hm := FixW.gmul (Dec.rounds f k) (Dec.t k) (by unfold Fix.top; omega) (Dec.t_top k)
      have hm' : ∀ w : World, Calls Try.prog 42 #[.int .u64 (Dec.rounds f k : Int), .int .u64 (Dec.t k : Int)] w fun e w' => e = .returned (.int .u64 (Fix.mul (Dec.rounds f k) (Dec.t k) : Nat)) ∧ w = w' := fun w => FixW.mul_any _ _ (by unfold Fix.top; omega) (Dec.t_top k) w
      by_cases hbit : f / 2 ^ (15 - k) % 2 = 1
      · have hs := Lib.hid (show Dec.rounds f (k + 1) = Fix.mul (Dec.rounds f k) (Dec.t k) by show Dec.stp _ _ _ = _; unfold Dec.stp; rw [if_pos hbit])
        rw [decide_eq_true hbit] at hap
        clear hbit hm
        go_wp2_with fail
        refine (hm' _).mono ?_
        rintro e w3 ⟨rfl, rfl⟩
        go_wp2_with fail
        go_round
        case rel => exact ⟨k + 1, by omega, by go_num, by rw [hs.out]⟩
        case measure => simp [intOf]; omega
      · have hs := Lib.hid (show Dec.rounds f (k + 1) = Dec.rounds f k by show Dec.stp _ _ _ = _; unfold Dec.stp; rw [if_neg hbit])
        rw [decide_eq_false hbit] at hap
        clear hbit hm hm'
        go_wp2_with fail
        go_round
        case rel => exact ⟨k + 1, by omega, by go_num, by rw [hs.out]⟩
        case measure => simp [intOf]; omega
    · obtain rfl : k = 16 := by omega
      have hx := Dec.rounds_le f 16
      unfold Fix.one at hx
      obtain ⟨X, hX⟩ : ∃ X, Dec.rounds f 16 = X := ⟨_, rfl⟩
      rw [hX] at hx HV ⊢
      go_wp2_with fail
      go_ret
      exact ⟨ret_int (by rw [HV.out]; simp), keeps_trans hb1 hb2⟩
end Go.Proofs.Ytplbdipgnhddkaa.DecW
