/-
  One of some amounts: qtree.At, and the reference's.
-/
import Derived.Test.YtbfpljnfalopdaaVRow
import Derived.Test.YtbfpljnfalopdaaTreePlain
set_option linter.unusedVariables false
set_option linter.unusedSimpArgs false
namespace Go.Proofs.Ytbfpljnfalopdaa.CfgW
open Go Go.RowKit Go.Proofs.Ytbfpljnfalopdaa.L

set_option maxRecDepth 100000 in
set_option maxHeartbeats 4000000 in
theorem at_any {w : World} {va : Value} {xs : List Vec.V} (h : VSl w va xs) (n : Int) : GivesAt Try.prog w 44 #[va, .int .i64 n] (Tree.at_ xs n).val := by
  intro w1 hb1
  replace h := h.below hb1
  clear hb1
  obtain ⟨A, ca, rfl, hr, hl⟩ := h
  unfold maxLen at hl
  have HR := Lib.hid hr
  unfold Tree.at_
  obtain ⟨N, hN⟩ : ∃ N, xs.length = N := ⟨_, rfl⟩
  have HN := Lib.hid hN
  rw [hN] at hl ⊢
  clear hr hN
  have hb : Below w1.heap.size w1 (w1.alloc (.cells #[.int .i64 0, .int .i64 0, .int .i64 0] 29)) := (Below.refl _ _).alloc (Nat.le_refl _) _
  by_cases hn : 0 ≤ n ∧ n < (N : Int)
  · obtain ⟨h0, h1⟩ := hn
    rw [if_pos ⟨h0, h1⟩]
    obtain ⟨k, rfl⟩ := Int.eq_ofNat_of_zero_le h0
    have hk : k < xs.length := by rw [HN.out]; omega
    have e : xs.getD (k : Int).toNat Vec.zero = xs[k] := by rw [Int.toNat_natCast, List.getD_eq_getElem?_getD, List.getElem?_eq_getElem hk, Option.getD_some]
    rw [e]
    obtain ⟨b, o, rfl, hlt, hc⟩ := row_vec HR.out hk
    obtain ⟨p0, p1, p2⟩ := hc _ hb
    generalize xs[k] = y at *
    obtain ⟨y0, y1, y2⟩ := y
    simp only at p0 p1 p2
    have hne : ¬ b = w1.heap.size := by omega
    show Calls Try.prog 44 #[.slice (some ⟨b, o, none⟩) N ca, .int .i64 (k : Int)] w1 fun e w' => e = .returned (.agg #[.int .i64 y0, .int .i64 y1, .int .i64 y2]) ∧ Below w1.heap.size w1 w'
    clear hc e hk
    have Hb := Lib.hid hb
    clear hb
    go_enter Try.func44, Try.ntmps44
    go_wp2_with fail
    exact bodyPost_ret (v := .agg #[.int .i64 y0, .int .i64 y1, .int .i64 y2]) (by simp [results, Try.results44, go_sem]) rfl ⟨rfl, by have := Hb.out; (repeat' (first | (with_reducible exact Below.refl _ _) | (with_reducible assumption) | (with_reducible refine Below.alloc ?_ ?_ _) | (with_reducible refine Go.Proofs.Ytbfpljnfalopdaa.L.below_drewN ?_ _) | (with_reducible refine Below.drew ?_) | (with_reducible refine Below.setCell ?_ ?_ _) | (with_reducible refine Below.frame ?_ _) | go_size))⟩
  · rw [if_neg hn]
    show Calls Try.prog 44 #[.slice A N ca, .int .i64 n] w1 fun e w' => e = .returned (.agg #[.int .i64 0, .int .i64 0, .int .i64 0]) ∧ Below w1.heap.size w1 w'
    have Hb := Lib.hid hb
    clear hb
    by_cases h0 : n < 0
    · have t0 : decide (n < 0) = true := by simpa using h0
      clear hn h0
      go_enter Try.func44, Try.ntmps44
      go_wp2_with fail
      exact bodyPost_ret (v := .agg #[.int .i64 0, .int .i64 0, .int .i64 0]) (by simp [results, Try.results44, go_sem]) rfl ⟨rfl, by have := Hb.out; (repeat' (first | (with_reducible exact Below.refl _ _) | (with_reducible assumption) | (with_reducible refine Below.alloc ?_ ?_ _) | (with_reducible refine Go.Proofs.Ytbfpljnfalopdaa.L.below_drewN ?_ _) | (with_reducible refine Below.drew ?_) | (with_reducible refine Below.setCell ?_ ?_ _) | (with_reducible refine Below.frame ?_ _) | go_size))⟩
    · have t0 : decide (n < 0) = false := by simpa using h0
      have t1 : decide ((N : Int) ≤ n) = true := by simp; omega
      clear hn h0
      go_enter Try.func44, Try.ntmps44
      go_wp2_with fail
      exact bodyPost_ret (v := .agg #[.int .i64 0, .int .i64 0, .int .i64 0]) (by simp [results, Try.results44, go_sem]) rfl ⟨rfl, by have := Hb.out; (repeat' (first | (with_reducible exact Below.refl _ _) | (with_reducible assumption) | (with_reducible refine Below.alloc ?_ ?_ _) | (with_reducible refine Go.Proofs.Ytbfpljnfalopdaa.L.below_drewN ?_ _) | (with_reducible refine Below.drew ?_) | (with_reducible refine Below.setCell ?_ ?_ _) | (with_reducible refine Below.frame ?_ _) | go_size))⟩

set_option maxRecDepth 100000 in
set_option maxHeartbeats 4000000 in
theorem rat_any {w : World} {va : Value} {xs : List Vec.V} (h : VSl w va xs) (n : Int) : GivesAt Try.prog w 15 #[va, .int .i64 n] (Tree.at_ xs n).val := by
  intro w1 hb1
  replace h := h.below hb1
  clear hb1
  obtain ⟨A, ca, rfl, hr, hl⟩ := h
  unfold maxLen at hl
  have HR := Lib.hid hr
  unfold Tree.at_
  obtain ⟨N, hN⟩ : ∃ N, xs.length = N := ⟨_, rfl⟩
  have HN := Lib.hid hN
  rw [hN] at hl ⊢
  clear hr hN
  have hb : Below w1.heap.size w1 (w1.alloc (.cells #[.int .i64 0, .int .i64 0, .int .i64 0] 29)) := (Below.refl _ _).alloc (Nat.le_refl _) _
  by_cases hn : 0 ≤ n ∧ n < (N : Int)
  · obtain ⟨h0, h1⟩ := hn
    rw [if_pos ⟨h0, h1⟩]
    obtain ⟨k, rfl⟩ := Int.eq_ofNat_of_zero_le h0
    have hk : k < xs.length := by rw [HN.out]; omega
    have e : xs.getD (k : Int).toNat Vec.zero = xs[k] := by rw [Int.toNat_natCast, List.getD_eq_getElem?_getD, List.getElem?_eq_getElem hk, Option.getD_some]
    rw [e]
    obtain ⟨b, o, rfl, hlt, hc⟩ := row_vec HR.out hk
    obtain ⟨p0, p1, p2⟩ := hc _ hb
    generalize xs[k] = y at *
    obtain ⟨y0, y1, y2⟩ := y
    simp only at p0 p1 p2
    have hne : ¬ b = w1.heap.size := by omega
    show Calls Try.prog 15 #[.slice (some ⟨b, o, none⟩) N ca, .int .i64 (k : Int)] w1 fun e w' => e = .returned (.agg #[.int .i64 y0, .int .i64 y1, .int .i64 y2]) ∧ Below w1.heap.size w1 w'
    clear hc e hk
    have Hb := Lib.hid hb
    clear hb
    go_enter Try.func15, Try.ntmps15
    go_wp2_with fail
    exact bodyPost_ret (v := .agg #[.int .i64 y0, .int .i64 y1, .int .i64 y2]) (by simp [results, Try.results15, go_sem]) rfl ⟨rfl, by have := Hb.out; (repeat' (first | (with_reducible exact Below.refl _ _) | (with_reducible assumption) | (with_reducible refine Below.alloc ?_ ?_ _) | (with_reducible refine Go.Proofs.Ytbfpljnfalopdaa.L.below_drewN ?_ _) | (with_reducible refine Below.drew ?_) | (with_reducible refine Below.setCell ?_ ?_ _) | (with_reducible refine Below.frame ?_ _) | go_size))⟩
  · rw [if_neg hn]
    show Calls Try.prog 15 #[.slice A N ca, .int .i64 n] w1 fun e w' => e = .returned (.agg #[.int .i64 0, .int .i64 0, .int .i64 0]) ∧ Below w1.heap.size w1 w'
    have Hb := Lib.hid hb
    clear hb
    by_cases h0 : n < 0
    · have t0 : decide (n < 0) = true := by simpa using h0
      clear hn h0
      go_enter Try.func15, Try.ntmps15
      go_wp2_with fail
      exact bodyPost_ret (v := .agg #[.int .i64 0, .int .i64 0, .int .i64 0]) (by simp [results, Try.results15, go_sem]) rfl ⟨rfl, by have := Hb.out; (repeat' (first | (with_reducible exact Below.refl _ _) | (with_reducible assumption) | (with_reducible refine Below.alloc ?_ ?_ _) | (with_reducible refine Go.Proofs.Ytbfpljnfalopdaa.L.below_drewN ?_ _) | (with_reducible refine Below.drew ?_) | (with_reducible refine Below.setCell ?_ ?_ _) | (with_reducible refine Below.frame ?_ _) | go_size))⟩
    · have t0 : decide (n < 0) = false := by simpa using h0
      have t1 : decide ((N : Int) ≤ n) = true := by simp; omega
      clear hn h0
      go_enter Try.func15, Try.ntmps15
      go_wp2_with fail
      exact bodyPost_ret (v := .agg #[.int .i64 0, .int .i64 0, .int .i64 0]) (by simp [results, Try.results15, go_sem]) rfl ⟨rfl, by have := Hb.out; (repeat' (first | (with_reducible exact Below.refl _ _) | (with_reducible assumption) | (with_reducible refine Below.alloc ?_ ?_ _) | (with_reducible refine Go.Proofs.Ytbfpljnfalopdaa.L.below_drewN ?_ _) | (with_reducible refine Below.drew ?_) | (with_reducible refine Below.setCell ?_ ?_ _) | (with_reducible refine Below.frame ?_ _) | go_size))⟩
end Go.Proofs.Ytbfpljnfalopdaa.CfgW
