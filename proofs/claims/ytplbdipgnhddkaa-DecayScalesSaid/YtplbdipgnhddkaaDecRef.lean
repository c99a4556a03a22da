/-
  The contract of the reference's Factor.
-/
import Derived.Test.YtplbdipgnhddkaaDecFac
set_option linter.unusedVariables false
set_option linter.unusedSimpArgs false
namespace Go.Proofs.Ytplbdipgnhddkaa.DecW
open Go.RowKit Go.Proofs.Ytplbdipgnhddkaa.L

def TabAt (w : World) (B : Nat) : Prop := B < w.heap.size ∧ ∀ j, j < 16 → w.cell? ⟨B, j, none⟩ = some (.int .u64 (Dec.t j : Int))
theorem TabAt.new (w : World) : TabAt (w.alloc (.cells tabC 35)) w.heap.size :=
  ⟨by simp, fun j hj => by rw [World.cell?_alloc_mark]; exact tabC_at j hj⟩
theorem TabAt.below {w w' : World} {B : Nat} (h : TabAt w B) (hb : Below w.heap.size w w') : TabAt w' B :=
  ⟨Nat.lt_of_lt_of_le h.1 hb.size, fun j hj => (hb.cell (p := ⟨B, j, none⟩) h.1).trans (h.2 j hj)⟩

theorem and_one (f i : Nat) (hf : f < 65536) : (bits BinOp.and IntKind.u64 ((f : Int) / 2 ^ i) 1 == 1) = decide (f / 2 ^ i % 2 = 1) := by
  have e : ((f : Int) / 2 ^ i) = ((f / 2 ^ i : Nat) : Int) := by rw [Int.natCast_ediv, Int.natCast_pow]; rfl
  have hle : f / 2 ^ i ≤ f := Nat.div_le_self _ _
  rw [e, FixW.and_one64 _ (by omega)]
  by_cases h : f / 2 ^ i % 2 = 1
  · simp [h]
  · have : f / 2 ^ i % 2 = 0 := by omega
    simp [this]

set_option maxRecDepth 100000 in
set_option maxHeartbeats 2000000 in
theorem rfactor_any (age half : Int) (hA0 : -9223372036854775808 ≤ age) (hA1 : age ≤ 9223372036854775807) (hH0 : -9223372036854775808 ≤ half) (hH1 : half ≤ 9223372036854775807) (w : World) :
    Calls Try.prog 33 #[.int .i64 age, .int .i64 half] w fun e w' => e = .returned (.int .u64 (Dec.factor age half : Int)) ∧ Below w.heap.size w w' := by
  obtain ⟨a, ha, hav⟩ : ∃ a : Nat, max age 0 = (a : Int) ∧ max age 0 = (a : Int) := ⟨(max age 0).toNat, by omega, by omega⟩
  obtain ⟨h, hh, hhv⟩ : ∃ h : Nat, max half 1 = (h : Int) ∧ max half 1 = (h : Int) := ⟨(max half 1).toNat, by omega, by omega⟩
  have hpos : 0 < h := by omega
  have ha64 : a ≤ 9223372036854775807 := by omega
  have hh64 : h ≤ 9223372036854775807 := by omega
  obtain ⟨q, hq⟩ : ∃ q : Nat, (a : Int) / (h : Int) = (q : Int) := ⟨a / h, by simp⟩
  have hq64 : q ≤ 9223372036854775807 := by have : (a : Int) / (h : Int) ≤ (a : Int) := Int.ediv_le_self _ (by omega); omega
  obtain ⟨r, hr⟩ : ∃ r : Nat, (a : Int) % (h : Int) = (r : Int) := ⟨a % h, by simp⟩
  have hrh : r < h := by have := Int.emod_lt_of_pos (a : Int) (show (0 : Int) < h by omega); omega
  have hv : Dec.factor age half = Dec.rounds (Dec.frac r h) 16 / 2 ^ q := by unfold Dec.factor Dec.fac; rw [hav, hhv, hr, hq]; simp
  clear hav hhv
  have HV := Lib.hid hv
  clear hv
  have hrat := FixW.grratio (r : Int) (h : Int) (by omega) (by omega) (by omega) (by omega)
  have hfl := Dec.frac_lt (r : Int) (h : Int) (by omega) (by omega)
  have hrl := Dec.ratio_lt (r : Int) (h : Int) (by omega) (by omega)
  obtain ⟨F, hF⟩ : ∃ F, Fix.ratio (r : Int) (h : Int) = F := ⟨_, rfl⟩
  obtain ⟨f, hf⟩ : ∃ f, Dec.frac (r : Int) (h : Int) = f := ⟨_, rfl⟩
  have hFf : (F : Int) / 65536 = (f : Int) := by rw [← hf, ← hF]; unfold Dec.frac; omega
  rw [hF] at hrat hrl
  rw [hf] at hfl HV
  clear hF hf
  have tq : (a : Int).tdiv (h : Int) = (q : Int) := by rw [Int.tdiv_eq_ediv_of_nonneg (by omega)]; exact hq
  have tr : (a : Int).tmod (h : Int) = (r : Int) := by rw [Int.tmod_eq_emod_of_nonneg (by omega)]; exact hr
  have wq : IntKind.i64.wrap (q : Int) = (q : Int) := IntWalk.i64_in _ (by omega)
  have wr : IntKind.i64.wrap (r : Int) = (r : Int) := IntWalk.i64_in _ (by omega)
  have hz : ((h : Int) == 0) = false := by simp; omega
  have hzz : ¬ h = 0 := by omega
  go_enter Try.func33, Try.ntmps33
  go_wp2_with fail
  go_quiet (fail)
  clear tq tr wq wr hz hzz
  go_wp2_with fail
  refine (hrat _).mono ?_
  rintro e w1 ⟨rfl, hb1⟩
  have hbw := keeps_trans (a := w) (by (repeat' (first | (with_reducible exact Below.refl _ _) | (with_reducible assumption) | (with_reducible refine Below.alloc ?_ ?_ _) | (with_reducible refine L.below_drewN ?_ _) | (with_reducible refine Below.drew ?_) | (with_reducible refine Below.setCell ?_ ?_ _) | (with_reducible refine Below.frame ?_ _) | go_size))) hb1
  clear hb1
  go_wp2_with fail
  refine (rtable_any _).mono ?_
  rintro e w2 ⟨rfl, hb2⟩
  replace hbw := keeps_trans hbw hb2
  clear hb2
  have hT := TabAt.new w2
  have hB := w2.heap.size
  unfold tabV
  unfold tabC at *
  go_wp2_with fail
  obtain ⟨B, hBe⟩ : ∃ B, w2.heap.size = B := ⟨_, rfl⟩
  have hwB : w.heap.size ≤ B := by have := hbw.size; omega
  replace hbw : Below w.heap.size w (w2.alloc (.cells #[.int .u64 3037000499, .int .u64 3611622602, .int .u64 3938502375, .int .u64 4112874772, .int .u64 4202935002, .int .u64 4248701964, .int .u64 4271771996, .int .u64 4283353945, .int .u64 4289156689, .int .u64 4292061009, .int .u64 4293513906, .int .u64 4294240539, .int .u64 4294603902, .int .u64 4294785595, .int .u64 4294876444, .int .u64 4294921869] 35)) := by (repeat' (first | (with_reducible exact Below.refl _ _) | (with_reducible assumption) | (with_reducible refine Below.alloc ?_ ?_ _) | (with_reducible refine L.below_drewN ?_ _) | (with_reducible refine Below.drew ?_) | (with_reducible refine Below.setCell ?_ ?_ _) | (with_reducible refine Below.frame ?_ _) | go_size))
  rw [hBe] at hT ⊢
  clear hB hBe
  obtain ⟨w3, hw3⟩ : ∃ w3, w2.alloc (.cells #[.int .u64 3037000499, .int .u64 3611622602, .int .u64 3938502375, .int .u64 4112874772, .int .u64 4202935002, .int .u64 4248701964, .int .u64 4271771996, .int .u64 4283353945, .int .u64 4289156689, .int .u64 4292061009, .int .u64 4293513906, .int .u64 4294240539, .int .u64 4294603902, .int .u64 4294785595, .int .u64 4294876444, .int .u64 4294921869] 35) = w3 := ⟨_, rfl⟩
  rw [hw3] at hT hbw ⊢
  clear hw3
  go_loopw [9, 10] (fun x i wr => ∃ k : Nat, k ≤ 16 ∧ i = .int .i64 (k : Int) ∧ x = .int .u64 (Dec.rounds f k : Int) ∧ TabAt wr B ∧ Below w.heap.size w wr) (fun _ i _ => 16 - (intOf i).toNat)
  case atStart => exact ⟨0, by omega, rfl, rfl, hT, hbw⟩
  case round =>
    obtain ⟨k, hk, rfl, rfl, hTk, hbk⟩ := hrel
    clear hT hbw
    by_cases hk16 : k < 16
    · have hi := hTk.2 k hk16
      have hx := Dec.rounds_le f k
      unfold Fix.one at hx
      have hap := and_one f (15 - k) hfl
      have hm' := FixW.grmul (Dec.rounds f k) (Dec.t k) (by unfold Fix.top; omega) (Dec.t_top k)
      by_cases hbit : f / 2 ^ (15 - k) % 2 = 1
      · have hs := Lib.hid (show Dec.rounds f (k + 1) = Fix.mul (Dec.rounds f k) (Dec.t k) by show Dec.stp _ _ _ = _; unfold Dec.stp; rw [if_pos hbit])
        rw [decide_eq_true hbit] at hap
        clear hbit
        go_wp2_with fail
        refine (hm' _).mono ?_
        rintro e w4 ⟨rfl, hb4⟩
        have hbw4 := keeps_trans hbk hb4
        have hT4 := hTk.below hb4
        clear hb4
        go_wp2_with fail
        go_roundw
        case rel => exact ⟨k + 1, by omega, by go_num, by rw [hs.out], hT4, hbw4⟩
        case measure => simp [intOf]; omega
      · have hs := Lib.hid (show Dec.rounds f (k + 1) = Dec.rounds f k by show Dec.stp _ _ _ = _; unfold Dec.stp; rw [if_neg hbit])
        rw [decide_eq_false hbit] at hap
        clear hbit hm'
        go_wp2_with fail
        go_roundw
        case rel => exact ⟨k + 1, by omega, by go_num, by rw [hs.out], hTk, hbk⟩
        case measure => simp [intOf]; omega
    · obtain rfl : k = 16 := by omega
      have hx := Dec.rounds_le f 16
      unfold Fix.one at hx
      obtain ⟨X, hX⟩ : ∃ X, Dec.rounds f 16 = X := ⟨_, rfl⟩
      rw [hX] at hx HV ⊢
      clear hX hrat
      go_wp2_with fail
      go_loop [9, 11] (fun x i => ∃ j : Nat, j ≤ q ∧ i = .int .i64 (j : Int) ∧ x = .int .u64 ((X / 2 ^ j : Nat) : Int)) (fun _ i => q - (intOf i).toNat)
      case atStart => exact ⟨0, by omega, rfl, by simp⟩
      case round =>
        obtain ⟨j, hj, rfl, rfl⟩ := hrel
        have hle : X / 2 ^ j ≤ X := Nat.div_le_self _ _
        have hh := Lib.hid (Dec.halve X j)
        have hz0 := Lib.hid (Dec.halve_zero X j q)
        obtain ⟨Y, hY⟩ : ∃ Y, X / 2 ^ j = Y := ⟨_, rfl⟩
        rw [hY] at hle hh hz0 ⊢
        have HY := Lib.hid hY
        clear hY
        by_cases hjq : j < q
        · by_cases hpos2 : 0 < Y
          · go_wp2_with fail
            go_round
            case rel => exact ⟨j + 1, by omega, by go_num, by rw [← hh.out]; go_num⟩
            case measure => simp [intOf]; omega
          · obtain rfl : Y = 0 := by omega
            go_wp2_with fail
            go_ret
            exact ⟨ret_int (by rw [HV.out, Dec.halve_zero X j q HY.out hj]; rfl), hbk⟩
        · obtain rfl : j = q := by omega
          go_wp2_with fail
          go_ret
          exact ⟨ret_int (by rw [HV.out, HY.out]), hbk⟩
end Go.Proofs.Ytplbdipgnhddkaa.DecW
