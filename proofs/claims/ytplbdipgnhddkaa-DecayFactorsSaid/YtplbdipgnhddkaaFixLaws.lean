/-
  Chapter 1's laws: their walks.
-/
import Derived.Test.YtplbdipgnhddkaaFixOver
import Derived.OpenShut
set_option linter.unusedVariables false
set_option linter.unusedSimpArgs false
namespace Go.Proofs.Ytplbdipgnhddkaa.FixW
open Go.RowKit Go.Proofs.Ytplbdipgnhddkaa.L

theorem gmul (a b : Nat) (ha : a ≤ Fix.top) (hb : b ≤ Fix.top) : Gives Try.prog 42 #[.int .u64 a, .int .u64 b] (.int .u64 (Fix.mul a b)) := .of_eq fun w => mul_any a b ha hb w
theorem gadd (a b : Nat) (ha : a ≤ Fix.top) (hb : b ≤ Fix.top) : Gives Try.prog 52 #[.int .u64 a, .int .u64 b] (.int .u64 (Fix.add a b)) := .of_eq fun w => add_any a b ha hb w
theorem gsub (a b : Nat) (ha : a ≤ Fix.top) (hb : b ≤ Fix.top) : Gives Try.prog 53 #[.int .u64 a, .int .u64 b] (.int .u64 (Fix.sub a b)) := .of_eq fun w => sub_any a b ha hb w
theorem gdiv (a b : Nat) (ha : a ≤ Fix.top) (hb : b ≤ Fix.top) : Gives Try.prog 43 #[.int .u64 a, .int .u64 b] (.int .u64 (Fix.quo a b)) := .of_drew fun w => div_any a b ha hb w
theorem gcmp (a b : Nat) (ha : a ≤ Fix.top) (hb : b ≤ Fix.top) : Gives Try.prog 56 #[.int .u64 a, .int .u64 b] (.int .i64 (Fix.cmp a b)) := .of_eq fun w => cmp_any a b ha hb w
theorem gof (n : Int) (h0 : -9223372036854775808 ≤ n) (h1 : n ≤ 9223372036854775807) : Gives Try.prog 47 #[.int .i64 n] (.int .u64 (Fix.ofInt n)) := .of_eq fun w => of_any n h0 h1 w
theorem gfloor (a : Nat) (ha : a ≤ Fix.top) : Gives Try.prog 46 #[.int .u64 a] (.int .i64 (a / Fix.one : Nat)) := .of_eq fun w => floor_any a ha w
theorem gratio (a b : Int) (ha : -9223372036854775808 ≤ a) (ha' : a ≤ 9223372036854775807) (hb : -9223372036854775808 ≤ b) (hb' : b ≤ 9223372036854775807) : Gives Try.prog 49 #[.int .i64 a, .int .i64 b] (.int .u64 (Fix.ratio a b)) := .of_drew fun w => ratio_any a b ha ha' hb hb' w
theorem grmul (a b : Nat) (ha : a ≤ Fix.top) (hb : b ≤ Fix.top) : Gives Try.prog 36 #[.int .u64 a, .int .u64 b] (.int .u64 (Fix.mul a b)) := .of_drew fun w => refmul_any a b ha hb w
theorem gradd (a b : Nat) (ha : a ≤ Fix.top) (hb : b ≤ Fix.top) : Gives Try.prog 54 #[.int .u64 a, .int .u64 b] (.int .u64 (Fix.add a b)) := .of_eq fun w => refadd_any a b ha hb w
theorem grsub (a b : Nat) (ha : a ≤ Fix.top) (hb : b ≤ Fix.top) : Gives Try.prog 55 #[.int .u64 a, .int .u64 b] (.int .u64 (Fix.sub a b)) := .of_eq fun w => refsub_any a b ha hb w
theorem grcmp (a b : Nat) (ha : a ≤ Fix.top) (hb : b ≤ Fix.top) : Gives Try.prog 57 #[.int .u64 a, .int .u64 b] (.int .i64 (Fix.cmp a b)) := .of_eq fun w => refcmp_any a b ha hb w
theorem grof (n : Int) (h0 : -9223372036854775808 ≤ n) (h1 : n ≤ 9223372036854775807) : Gives Try.prog 48 #[.int .i64 n] (.int .u64 (Fix.ofInt n)) := .of_eq fun w => refof_any n h0 h1 w
theorem grfloor (a : Nat) (ha : a ≤ Fix.top) : Gives Try.prog 51 #[.int .u64 a] (.int .i64 (a / Fix.one : Nat)) := .of_eq fun w => reffloor_any a ha w

set_option maxHeartbeats 400000 in
theorem grdiv (a b : Nat) (ha : a ≤ Fix.top) (hb : b ≤ Fix.top) : Gives Try.prog 44 #[.int .u64 a, .int .u64 b] (.int .u64 (Fix.quo a b)) := by
  refine .of_eq fun w => ?_
  by_cases h0 : a = 0
  · subst h0
    go_enter Try.func44, Try.ntmps44
    go_wp2
    go_ret
    exact ⟨rfl, rfl⟩
  have t0 : ((a : Int) == 0) = false := by simp; omega
  by_cases h1 : b = 0
  · have hv := Lib.hid (show Fix.quo a b = 18446744073709551615 by rw [Fix.quo, if_neg h0, if_pos h1]; rfl)
    have t1 : ((b : Int) == 0) = true := by simp; omega
    clear h0 h1
    go_enter Try.func44, Try.ntmps44
    go_wp2
    go_ret
    exact ⟨ret_int (by rw [hv.out]; rfl), rfl⟩
  · have hv := Lib.hid (show Fix.quo a b = Fix.cut (a * Fix.one / b) by rw [Fix.quo, if_neg h0, if_neg h1])
    have t1 : ((b : Int) == 0) = false := by simp; omega
    have hc := Lib.hid (fun w => over_any a b ha (by omega) hb w)
    clear h0 h1
    go_enter Try.func44, Try.ntmps44
    go_wp2_with fail
    refine (hc.out _).mono ?_
    rintro e w1 ⟨rfl, rfl⟩
    go_wp2
    go_ret
    exact ⟨ret_int (by rw [hv.out]), rfl⟩

set_option maxHeartbeats 400000 in
theorem grratio (a b : Int) (ha : -9223372036854775808 ≤ a) (ha' : a ≤ 9223372036854775807) (hb : -9223372036854775808 ≤ b) (hb' : b ≤ 9223372036854775807) : Gives Try.prog 50 #[.int .i64 a, .int .i64 b] (.int .u64 (Fix.ratio a b)) := by
  refine .of_eq fun w => ?_
  by_cases h0 : a ≤ 0
  · have hv := Lib.hid (show Fix.ratio a b = 0 by rw [Fix.ratio, Fix.quo, if_pos (by omega)])
    go_enter Try.func50, Try.ntmps50
    go_wp2
    go_ret
    exact ⟨ret_int (by rw [hv.out]; rfl), rfl⟩
  by_cases h1 : b ≤ 0
  · have hv := Lib.hid (show Fix.ratio a b = 18446744073709551615 by rw [Fix.ratio, Fix.quo, if_neg (by omega), if_pos (by omega)]; rfl)
    go_enter Try.func50, Try.ntmps50
    go_wp2
    go_ret
    exact ⟨ret_int (by rw [hv.out]; rfl), rfl⟩
  · obtain ⟨m, rfl⟩ := Int.eq_ofNat_of_zero_le (show 0 ≤ a by omega)
    obtain ⟨k, rfl⟩ := Int.eq_ofNat_of_zero_le (show 0 ≤ b by omega)
    have hv := Lib.hid (show Fix.ratio m k = Fix.cut (m * Fix.one / k) by rw [Fix.ratio, Fix.quo, if_neg (by omega), if_neg (by omega)]; rfl)
    have hc := Lib.hid (fun w => over_any m k (by unfold Fix.top; omega) (by omega) (by unfold Fix.top; omega) w)
    go_enter Try.func50, Try.ntmps50
    go_wp2_with fail
    refine (hc.out _).mono ?_
    rintro e w1 ⟨rfl, rfl⟩
    go_wp2
    go_ret
    exact ⟨ret_int (by rw [hv.out]), rfl⟩

/-! ### the examples -/
theorem a1 : Gives Try.prog 47 #[.int .i64 1] (.int .u64 4294967296) := (gof 1 (by omega) (by omega)).val (ret_val (by decide +kernel))
theorem a2 : Gives Try.prog 47 #[.int .i64 3] (.int .u64 12884901888) := (gof 3 (by omega) (by omega)).val (ret_val (by decide +kernel))
theorem a3 : Gives Try.prog 43 #[.int .u64 4294967296, .int .u64 12884901888] (.int .u64 1431655765) := (gdiv 4294967296 12884901888 (by decide) (by decide)).val (ret_val (by decide +kernel))
theorem a4 : Gives Try.prog 42 #[.int .u64 18446744073709551615, .int .u64 18446744073709551615] (.int .u64 18446744073709551615) := (gmul 18446744073709551615 18446744073709551615 (by decide) (by decide)).val (ret_val (by decide +kernel))
theorem a5 : Gives Try.prog 49 #[.int .i64 3, .int .i64 2] (.int .u64 6442450944) := (gratio 3 2 (by omega) (by omega) (by omega) (by omega)).val (ret_val (by decide +kernel))
theorem a6 : Gives Try.prog 47 #[.int .i64 2] (.int .u64 8589934592) := (gof 2 (by omega) (by omega)).val (ret_val (by decide +kernel))
theorem a7 : Gives Try.prog 53 #[.int .u64 4294967296, .int .u64 8589934592] (.int .u64 0) := (gsub 4294967296 8589934592 (by decide) (by decide)).val (ret_val (by decide +kernel))
theorem a8 : Gives Try.prog 52 #[.int .u64 18446744073709551615, .int .u64 1] (.int .u64 18446744073709551615) := (gadd 18446744073709551615 1 (by decide) (by decide)).val (ret_val (by decide +kernel))
theorem a9 : Gives Try.prog 46 #[.int .u64 6442450944] (.int .i64 1) := (gfloor 6442450944 (by decide)).val (ret_val (by decide +kernel))

set_option maxHeartbeats 400000 in
theorem awake01 : Gives Try.prog 45 #[] (.bool true) := by
  intro w
  go_enter Try.func45, Try.ntmps45
  go_wp2_with fail
  refine (a1 _).mono ?_
  rintro e w1 ⟨rfl, hb1⟩
  go_wp2_with fail
  refine (a2 _).mono ?_
  rintro e w2 ⟨rfl, hb2⟩
  go_wp2_with fail
  refine (a3 _).mono ?_
  rintro e w3 ⟨rfl, hb3⟩
  go_wp2_with fail
  refine (a4 _).mono ?_
  rintro e w4 ⟨rfl, hb4⟩
  go_wp2_with fail
  refine (a5 _).mono ?_
  rintro e w5 ⟨rfl, hb5⟩
  go_wp2_with fail
  refine (a6 _).mono ?_
  rintro e w6 ⟨rfl, hb6⟩
  go_wp2_with fail
  refine (a7 _).mono ?_
  rintro e w7 ⟨rfl, hb7⟩
  go_wp2_with fail
  refine (a8 _).mono ?_
  rintro e w8 ⟨rfl, hb8⟩
  go_wp2_with fail
  refine (a9 _).mono ?_
  rintro e w9 ⟨rfl, hb9⟩
  go_wp2
  go_ret
  exact ⟨rfl, keeps_trans (keeps_trans (keeps_trans (keeps_trans (keeps_trans (keeps_trans (keeps_trans (keeps_trans (hb1) hb2) hb3) hb4) hb5) hb6) hb7) hb8) hb9⟩

set_option maxHeartbeats 800000 in
theorem sums_law (a b : Nat) (ha : a ≤ Fix.top) (hb : b ≤ Fix.top) : Gives Try.prog 17 #[.int .u64 a, .int .u64 b] (.bool true) := by
  have g1 := gadd a b ha hb
  have g2 := gradd a b ha hb
  have g3 := gsub a b ha hb
  have g4 := grsub a b ha hb
  have g5 := gcmp a b ha hb
  have g6 := grcmp a b ha hb
  unfold Fix.top at ha hb
  intro w
  go_enter Try.func17, Try.ntmps17
  go_wp2_with fail
  refine (g1 _).mono ?_
  rintro e w1 ⟨rfl, hb1⟩
  go_wp2_with fail
  refine (g2 _).mono ?_
  rintro e w2 ⟨rfl, hb2⟩
  go_wp2_with fail
  refine (g3 _).mono ?_
  rintro e w3 ⟨rfl, hb3⟩
  go_wp2_with fail
  refine (g4 _).mono ?_
  rintro e w4 ⟨rfl, hb4⟩
  go_wp2_with fail
  refine (g5 _).mono ?_
  rintro e w5 ⟨rfl, hb5⟩
  go_wp2_with fail
  refine (g6 _).mono ?_
  rintro e w6 ⟨rfl, hb6⟩
  go_wp2_with fail
  refine (awake01 _).mono ?_
  rintro e w7 ⟨rfl, hb7⟩
  go_wp2
  go_ret
  exact ⟨rfl, keeps_trans (keeps_trans (keeps_trans (keeps_trans (keeps_trans (keeps_trans (hb1) hb2) hb3) hb4) hb5) hb6) hb7⟩

set_option maxHeartbeats 800000 in
theorem products_law (a b : Nat) (ha : a ≤ Fix.top) (hb : b ≤ Fix.top) : Gives Try.prog 13 #[.int .u64 a, .int .u64 b] (.bool true) := by
  have g1 := gmul a b ha hb
  have g2 := grmul a b ha hb
  have g3 := gdiv a b ha hb
  have g4 := grdiv a b ha hb
  unfold Fix.top at ha hb
  intro w
  go_enter Try.func13, Try.ntmps13
  go_wp2_with fail
  refine (g1 _).mono ?_
  rintro e w1 ⟨rfl, hb1⟩
  go_wp2_with fail
  refine (g2 _).mono ?_
  rintro e w2 ⟨rfl, hb2⟩
  go_wp2_with fail
  refine (g3 _).mono ?_
  rintro e w3 ⟨rfl, hb3⟩
  go_wp2_with fail
  refine (g4 _).mono ?_
  rintro e w4 ⟨rfl, hb4⟩
  go_wp2_with fail
  refine (awake01 _).mono ?_
  rintro e w5 ⟨rfl, hb5⟩
  go_wp2
  go_ret
  exact ⟨rfl, keeps_trans (keeps_trans (keeps_trans (keeps_trans (hb1) hb2) hb3) hb4) hb5⟩

set_option maxHeartbeats 800000 in
theorem one_law (a b : Nat) (ha : a ≤ Fix.top) (hb : b ≤ Fix.top) : Gives Try.prog 15 #[.int .u64 a, .int .u64 b] (.bool true) := by
  have g1 := (gmul a 4294967296 ha (by decide)).val (ret_val (congrArg Int.ofNat (Fix.mul_one a ha)))
  have g2 := (gmul 4294967296 a (by decide) ha).val (ret_val (congrArg Int.ofNat (Fix.one_mul a ha)))
  have g3 := (gdiv a 4294967296 ha (by decide)).val (ret_val (congrArg Int.ofNat (Fix.quo_one a ha)))
  have g4 := gmul a b ha hb
  have g5 := (gmul b a hb ha).val (ret_val (congrArg Int.ofNat (Fix.mul_comm b a)))
  have g6 := gadd a b ha hb
  have g7 := (gadd b a hb ha).val (ret_val (congrArg Int.ofNat (Fix.add_comm b a)))
  unfold Fix.top at ha hb
  intro w
  go_enter Try.func15, Try.ntmps15
  go_wp2_with fail
  refine (g1 _).mono ?_
  rintro e w1 ⟨rfl, hb1⟩
  go_wp2_with fail
  refine (g2 _).mono ?_
  rintro e w2 ⟨rfl, hb2⟩
  go_wp2_with fail
  refine (g3 _).mono ?_
  rintro e w3 ⟨rfl, hb3⟩
  go_wp2_with fail
  refine (g4 _).mono ?_
  rintro e w4 ⟨rfl, hb4⟩
  go_wp2_with fail
  refine (g5 _).mono ?_
  rintro e w5 ⟨rfl, hb5⟩
  go_wp2_with fail
  refine (g6 _).mono ?_
  rintro e w6 ⟨rfl, hb6⟩
  go_wp2_with fail
  refine (g7 _).mono ?_
  rintro e w7 ⟨rfl, hb7⟩
  go_wp2_with fail
  refine (awake01 _).mono ?_
  rintro e w8 ⟨rfl, hb8⟩
  go_wp2
  go_ret
  exact ⟨rfl, keeps_trans (keeps_trans (keeps_trans (keeps_trans (keeps_trans (keeps_trans (keeps_trans (hb1) hb2) hb3) hb4) hb5) hb6) hb7) hb8⟩

set_option maxHeartbeats 800000 in
theorem order_law1 (a b c : Nat) (ha : a ≤ Fix.top) (hb : b ≤ Fix.top) (hc : c ≤ Fix.top) (h : a ≤ b) : Gives Try.prog 16 #[.int .u64 a, .int .u64 b, .int .u64 c] (.bool true) := by
  obtain ⟨x1, e1⟩ : ∃ x, Fix.add a c = x := ⟨_, rfl⟩
  obtain ⟨y1, f1⟩ : ∃ x, Fix.add b c = x := ⟨_, rfl⟩
  obtain ⟨x2, e2⟩ : ∃ x, Fix.sub a c = x := ⟨_, rfl⟩
  obtain ⟨y2, f2⟩ : ∃ x, Fix.sub b c = x := ⟨_, rfl⟩
  obtain ⟨x3, e3⟩ : ∃ x, Fix.mul a c = x := ⟨_, rfl⟩
  obtain ⟨y3, f3⟩ : ∃ x, Fix.mul b c = x := ⟨_, rfl⟩
  obtain ⟨x4, e4⟩ : ∃ x, Fix.quo a c = x := ⟨_, rfl⟩
  obtain ⟨y4, f4⟩ : ∃ x, Fix.quo b c = x := ⟨_, rfl⟩
  have l1 : x1 ≤ y1 := by rw [← e1, ← f1]; exact Fix.add_mono c h
  have l2 : x2 ≤ y2 := by rw [← e2, ← f2]; exact Fix.sub_mono c h
  have l3 : x3 ≤ y3 := by rw [← e3, ← f3]; exact Fix.mul_mono c h
  have l4 : x4 ≤ y4 := by rw [← e4, ← f4]; exact Fix.quo_mono c h
  have g1 := (gadd a c ha hc).val (ret_val (congrArg Int.ofNat e1))
  have g2 := (gadd b c hb hc).val (ret_val (congrArg Int.ofNat f1))
  have g3 := (gsub a c ha hc).val (ret_val (congrArg Int.ofNat e2))
  have g4 := (gsub b c hb hc).val (ret_val (congrArg Int.ofNat f2))
  have g5 := (gmul a c ha hc).val (ret_val (congrArg Int.ofNat e3))
  have g6 := (gmul b c hb hc).val (ret_val (congrArg Int.ofNat f3))
  have g7 := (gdiv a c ha hc).val (ret_val (congrArg Int.ofNat e4))
  have g8 := (gdiv b c hb hc).val (ret_val (congrArg Int.ofNat f4))
  unfold Fix.top at ha hb hc
  clear e1 f1 e2 f2 e3 f3 e4 f4
  intro w
  go_enter Try.func16, Try.ntmps16
  go_wp2_with fail
  refine (g1 _).mono ?_
  rintro e w1 ⟨rfl, hb1⟩
  go_wp2_with fail
  refine (g2 _).mono ?_
  rintro e w2 ⟨rfl, hb2⟩
  go_wp2_with fail
  refine (g3 _).mono ?_
  rintro e w3 ⟨rfl, hb3⟩
  go_wp2_with fail
  refine (g4 _).mono ?_
  rintro e w4 ⟨rfl, hb4⟩
  go_wp2_with fail
  refine (g5 _).mono ?_
  rintro e w5 ⟨rfl, hb5⟩
  go_wp2_with fail
  refine (g6 _).mono ?_
  rintro e w6 ⟨rfl, hb6⟩
  go_wp2_with fail
  refine (g7 _).mono ?_
  rintro e w7 ⟨rfl, hb7⟩
  go_wp2_with fail
  refine (g8 _).mono ?_
  rintro e w8 ⟨rfl, hb8⟩
  go_wp2_with fail
  refine (awake01 _).mono ?_
  rintro e w9 ⟨rfl, hb9⟩
  go_wp2
  go_ret
  exact ⟨rfl, keeps_trans (keeps_trans (keeps_trans (keeps_trans (keeps_trans (keeps_trans (keeps_trans (keeps_trans (hb1) hb2) hb3) hb4) hb5) hb6) hb7) hb8) hb9⟩

set_option maxHeartbeats 800000 in
theorem order_law2 (a b c : Nat) (ha : a ≤ Fix.top) (hb : b ≤ Fix.top) (hc : c ≤ Fix.top) (h : a ≤ b) (hlt : a < b) : Gives Try.prog 16 #[.int .u64 b, .int .u64 a, .int .u64 c] (.bool true) := by
  obtain ⟨x1, e1⟩ : ∃ x, Fix.add a c = x := ⟨_, rfl⟩
  obtain ⟨y1, f1⟩ : ∃ x, Fix.add b c = x := ⟨_, rfl⟩
  obtain ⟨x2, e2⟩ : ∃ x, Fix.sub a c = x := ⟨_, rfl⟩
  obtain ⟨y2, f2⟩ : ∃ x, Fix.sub b c = x := ⟨_, rfl⟩
  obtain ⟨x3, e3⟩ : ∃ x, Fix.mul a c = x := ⟨_, rfl⟩
  obtain ⟨y3, f3⟩ : ∃ x, Fix.mul b c = x := ⟨_, rfl⟩
  obtain ⟨x4, e4⟩ : ∃ x, Fix.quo a c = x := ⟨_, rfl⟩
  obtain ⟨y4, f4⟩ : ∃ x, Fix.quo b c = x := ⟨_, rfl⟩
  have l1 : x1 ≤ y1 := by rw [← e1, ← f1]; exact Fix.add_mono c h
  have l2 : x2 ≤ y2 := by rw [← e2, ← f2]; exact Fix.sub_mono c h
  have l3 : x3 ≤ y3 := by rw [← e3, ← f3]; exact Fix.mul_mono c h
  have l4 : x4 ≤ y4 := by rw [← e4, ← f4]; exact Fix.quo_mono c h
  have g1 := (gadd a c ha hc).val (ret_val (congrArg Int.ofNat e1))
  have g2 := (gadd b c hb hc).val (ret_val (congrArg Int.ofNat f1))
  have g3 := (gsub a c ha hc).val (ret_val (congrArg Int.ofNat e2))
  have g4 := (gsub b c hb hc).val (ret_val (congrArg Int.ofNat f2))
  have g5 := (gmul a c ha hc).val (ret_val (congrArg Int.ofNat e3))
  have g6 := (gmul b c hb hc).val (ret_val (congrArg Int.ofNat f3))
  have g7 := (gdiv a c ha hc).val (ret_val (congrArg Int.ofNat e4))
  have g8 := (gdiv b c hb hc).val (ret_val (congrArg Int.ofNat f4))
  unfold Fix.top at ha hb hc
  clear e1 f1 e2 f2 e3 f3 e4 f4
  intro w
  go_enter Try.func16, Try.ntmps16
  go_wp2_with fail
  refine (g1 _).mono ?_
  rintro e w1 ⟨rfl, hb1⟩
  go_wp2_with fail
  refine (g2 _).mono ?_
  rintro e w2 ⟨rfl, hb2⟩
  go_wp2_with fail
  refine (g3 _).mono ?_
  rintro e w3 ⟨rfl, hb3⟩
  go_wp2_with fail
  refine (g4 _).mono ?_
  rintro e w4 ⟨rfl, hb4⟩
  go_wp2_with fail
  refine (g5 _).mono ?_
  rintro e w5 ⟨rfl, hb5⟩
  go_wp2_with fail
  refine (g6 _).mono ?_
  rintro e w6 ⟨rfl, hb6⟩
  go_wp2_with fail
  refine (g7 _).mono ?_
  rintro e w7 ⟨rfl, hb7⟩
  go_wp2_with fail
  refine (g8 _).mono ?_
  rintro e w8 ⟨rfl, hb8⟩
  go_wp2_with fail
  refine (awake01 _).mono ?_
  rintro e w9 ⟨rfl, hb9⟩
  go_wp2
  go_ret
  exact ⟨rfl, keeps_trans (keeps_trans (keeps_trans (keeps_trans (keeps_trans (keeps_trans (keeps_trans (keeps_trans (hb1) hb2) hb3) hb4) hb5) hb6) hb7) hb8) hb9⟩

theorem order_law (a b c : Nat) (ha : a ≤ Fix.top) (hb : b ≤ Fix.top) (hc : c ≤ Fix.top) : Gives Try.prog 16 #[.int .u64 a, .int .u64 b, .int .u64 c] (.bool true) := by
  rcases Nat.lt_or_ge b a with h | h
  · exact order_law2 b a c hb ha hc (by omega) h
  · exact order_law1 a b c ha hb hc h

set_option maxHeartbeats 800000 in
theorem wholes_law (n m : Int) (a : Nat) (h0 : -9223372036854775808 ≤ n) (h1 : n ≤ 9223372036854775807) (k0 : -9223372036854775808 ≤ m) (k1 : m ≤ 9223372036854775807) (ha : a ≤ Fix.top) : Gives Try.prog 14 #[.int .i64 n, .int .i64 m, .int .u64 a] (.bool true) := by
  have g1 := gof n h0 h1
  have g2 := gfloor (Fix.ofInt n) (Fix.ofInt_lt n)
  have g3 := grof n h0 h1
  have g4 := gratio n m h0 h1 k0 k1
  have g5 := grratio n m h0 h1 k0 k1
  have g6 := gfloor a ha
  have g7 := grfloor a ha
  obtain ⟨x, hx⟩ : ∃ x, Fix.ofInt n = x := ⟨_, rfl⟩
  obtain ⟨y, hy⟩ : ∃ y, x / Fix.one = y := ⟨_, rfl⟩
  obtain ⟨z, hz⟩ : ∃ z, a / Fix.one = z := ⟨_, rfl⟩
  have hback : 0 ≤ n → n < 4294967296 → (y : Int) = n := fun i j => by rw [← hy, ← hx]; exact Fix.floor_ofInt n i j
  rw [hx] at g1 g2 g3
  rw [hy] at g2
  rw [hz] at g6 g7
  have tests : n < 0 ∨ 4294967296 ≤ n ∨ (0 ≤ n ∧ n < 4294967296 ∧ ((y : Int) != n) = false) := by
    by_cases c1 : n < 0
    · exact .inl c1
    · by_cases c2 : 4294967296 ≤ n
      · exact .inr (.inl c2)
      · exact .inr (.inr ⟨by omega, by omega, by simp; exact hback (by omega) (by omega)⟩)
  unfold Fix.top at ha
  clear hx hy hz hback
  intro w
  rcases tests with t | t | ⟨t1, t2, t3⟩
  all_goals
    go_enter Try.func14, Try.ntmps14
    go_wp2_with fail
    refine (g1 _).mono ?_
    rintro e w1 ⟨rfl, hb1⟩
    go_wp2_with fail
    refine (g2 _).mono ?_
    rintro e w2 ⟨rfl, hb2⟩
    go_wp2_with fail
    refine (g1 _).mono ?_
    rintro e w3 ⟨rfl, hb3⟩
    go_wp2_with fail
    refine (g3 _).mono ?_
    rintro e w4 ⟨rfl, hb4⟩
    go_wp2_with fail
    refine (g4 _).mono ?_
    rintro e w5 ⟨rfl, hb5⟩
    go_wp2_with fail
    refine (g5 _).mono ?_
    rintro e w6 ⟨rfl, hb6⟩
    go_wp2_with fail
    refine (g6 _).mono ?_
    rintro e w7 ⟨rfl, hb7⟩
    go_wp2_with fail
    refine (g7 _).mono ?_
    rintro e w8 ⟨rfl, hb8⟩
    go_wp2_with fail
    refine (awake01 _).mono ?_
    rintro e w9 ⟨rfl, hb9⟩
    go_wp2
    go_ret
    exact ⟨rfl, keeps_trans (keeps_trans (keeps_trans (keeps_trans (keeps_trans (keeps_trans (keeps_trans (keeps_trans (hb1) hb2) hb3) hb4) hb5) hb6) hb7) hb8) hb9⟩

theorem u64_nat {n : Int} (h : (Lit.int .u64 n).wf = true) : ∃ m : Nat, n = (m : Int) ∧ m ≤ Fix.top := by
  simp [Lit.wf, IntKind.min, IntKind.max, IntKind.signed, IntKind.bits] at h
  obtain ⟨m, rfl⟩ := Int.eq_ofNat_of_zero_le h.1
  exact ⟨m, rfl, by unfold Fix.top; omega⟩

theorem sums_law_int (a : Int) (ha : (Lit.int .u64 a).wf = true) (b : Int) (hb : (Lit.int .u64 b).wf = true) : Gives Try.prog 17 #[.int .u64 a, .int .u64 b] (.bool true) := by
  obtain ⟨na, rfl, ka⟩ := u64_nat ha
  obtain ⟨nb, rfl, kb⟩ := u64_nat hb
  exact sums_law na nb ka kb

theorem products_law_int (a : Int) (ha : (Lit.int .u64 a).wf = true) (b : Int) (hb : (Lit.int .u64 b).wf = true) : Gives Try.prog 13 #[.int .u64 a, .int .u64 b] (.bool true) := by
  obtain ⟨na, rfl, ka⟩ := u64_nat ha
  obtain ⟨nb, rfl, kb⟩ := u64_nat hb
  exact products_law na nb ka kb

theorem one_law_int (a : Int) (ha : (Lit.int .u64 a).wf = true) (b : Int) (hb : (Lit.int .u64 b).wf = true) : Gives Try.prog 15 #[.int .u64 a, .int .u64 b] (.bool true) := by
  obtain ⟨na, rfl, ka⟩ := u64_nat ha
  obtain ⟨nb, rfl, kb⟩ := u64_nat hb
  exact one_law na nb ka kb

theorem order_law_int (a : Int) (ha : (Lit.int .u64 a).wf = true) (b : Int) (hb : (Lit.int .u64 b).wf = true) (c : Int) (hc : (Lit.int .u64 c).wf = true) : Gives Try.prog 16 #[.int .u64 a, .int .u64 b, .int .u64 c] (.bool true) := by
  obtain ⟨na, rfl, ka⟩ := u64_nat ha
  obtain ⟨nb, rfl, kb⟩ := u64_nat hb
  obtain ⟨nc, rfl, kc⟩ := u64_nat hc
  exact order_law na nb nc ka kb kc

theorem wholes_law_int (n m a : Int) (hn : (Lit.int .i64 n).wf = true) (hm : (Lit.int .i64 m).wf = true) (ha : (Lit.int .u64 a).wf = true) : Gives Try.prog 14 #[.int .i64 n, .int .i64 m, .int .u64 a] (.bool true) := by
  obtain ⟨na, rfl, ka⟩ := u64_nat ha
  exact wholes_law n m na (bounds_i64 hn).1 (bounds_i64 hn).2 (bounds_i64 hm).1 (bounds_i64 hm).2 ka

end Go.Proofs.Ytplbdipgnhddkaa.FixW
