/-
  Chapter 4's examples hold; and the laws' walks.
-/
import Derived.Test.YtmcglbfgfdlmlaaCrcFrame
set_option linter.unusedVariables false
set_option linter.unusedSimpArgs false
namespace Go.Proofs.Ytmcglbfgfdlmlaa.CrcW
open Go.RowKit Go.Proofs.Ytmcglbfgfdlmlaa.L

theorem a_frame (w : World) : Calls Try.prog 11 #[.string ⟨#[97, 98, 99]⟩] w fun e w' => e = .returned (.string ⟨#[3, 0, 0, 0, 183, 63, 75, 54, 97, 98, 99]⟩) ∧ Below w.heap.size w w' :=
  (frame_any ⟨#[97, 98, 99]⟩ w (by decide)).mono fun e w' ⟨he, hb⟩ => ⟨he.trans (ret_string (congrArg str (show Crc.frame [97, 98, 99] = [3, 0, 0, 0, 183, 63, 75, 54, 97, 98, 99] by decide +kernel))), hb⟩
theorem a_none (w : World) : Calls Try.prog 11 #[.string ⟨#[]⟩] w fun e w' => e = .returned (.string ⟨#[0, 0, 0, 0, 0, 0, 0, 0]⟩) ∧ Below w.heap.size w w' :=
  (frame_any ⟨#[]⟩ w (by decide)).mono fun e w' ⟨he, hb⟩ => ⟨he.trans (ret_string (congrArg str (show Crc.frame [] = [0, 0, 0, 0, 0, 0, 0, 0] by decide +kernel))), hb⟩
theorem a_sum (w : World) : Calls Try.prog 9 #[.string ⟨#[49, 50, 51, 52, 53, 54, 55, 56, 57]⟩] w fun e w' => e = .returned (.int .u32 3808858755) ∧ w = w' :=
  (sum_any ⟨#[49, 50, 51, 52, 53, 54, 55, 56, 57]⟩ w (by decide)).mono fun e w' ⟨he, hb⟩ => ⟨he.trans (ret_int (congrArg Int.ofNat (show Crc.sum [49, 50, 51, 52, 53, 54, 55, 56, 57] = 3808858755 by decide +kernel))), hb⟩
theorem a_read (s : ByteArray) (hs : s.data.toList = [3, 0, 0, 0, 183, 63, 75, 54, 97, 98, 99, 120]) (w : World) : Calls Try.prog 13 #[.string s] w fun e w' => e = .returned (.tuple #[.string ⟨#[97, 98, 99]⟩, .int .i64 11, .int .i64 0]) ∧ ∃ n, w' = w.drewN n :=
  (read_any s w (by rw [show s.size = s.data.toList.length by simp, hs]; decide)).mono fun e w' ⟨he, hb⟩ => ⟨he.trans (by rw [hs, readV_of (show Crc.read [3, 0, 0, 0, 183, 63, 75, 54, 97, 98, 99, 120] = ([97, 98, 99], 11, 0) by decide +kernel)]; rfl), hb⟩

set_option maxHeartbeats 400000 in
theorem awake_any (w : World) : Calls Try.prog 8 #[] w fun e w' => e = .returned (.bool true) ∧ Below w.heap.size w w' := by
  go_enter Try.func8, Try.ntmps8
  go_wp2_with fail
  refine (a_frame _).mono ?_
  rintro e w1 ⟨rfl, hb1⟩
  go_wp2_with fail
  refine (a_read _ (by simp) _).mono ?_
  rintro e w2 ⟨rfl, n, hn⟩
  have Hn := Lib.hid hn
  clear hn
  go_wp2_with fail
  refine (a_sum _).mono ?_
  rintro e w3 ⟨rfl, rfl⟩
  go_wp2_with fail
  refine (a_none _).mono ?_
  rintro e w3 ⟨rfl, hb3⟩
  go_wp2
  go_ret
  exact ⟨rfl, keeps_trans (keeps_drew hb1 Hn.out) hb3⟩

/-! ### the laws -/
set_option maxHeartbeats 400000 in
theorem sums_law (s : ByteArray) (hs : s.size ≤ maxLen) (w : World) : Calls Try.prog 3 #[.string s] w fun e w' => e = .returned (.bool true) ∧ Below w.heap.size w w' := by
  have hs0 := hs
  unfold maxLen at hs
  by_cases h : 20000 < s.size
  · go_enter Try.func3, Try.ntmps3
    go_wp2_with fail
    refine (awake_any _).mono ?_
    rintro e w1 ⟨rfl, hb1⟩
    go_wp2
    go_ret
    exact ⟨rfl, hb1⟩
  · go_enter Try.func3, Try.ntmps3
    go_wp2_with fail
    refine (sum_any s _ hs0).mono ?_
    rintro e w1 ⟨rfl, rfl⟩
    go_wp2_with fail
    refine (refsum_any s _ hs0).mono ?_
    rintro e w1 ⟨rfl, rfl⟩
    go_wp2_with fail
    refine (frame_any s _ hs0).mono ?_
    rintro e w1 ⟨rfl, hb1⟩
    go_wp2_with fail
    refine (refframe_any s _ hs0).mono ?_
    rintro e w2 ⟨rfl, hb2⟩
    go_wp2_with fail
    refine (awake_any _).mono ?_
    rintro e w3 ⟨rfl, hb3⟩
    go_wp2
    go_ret
    exact ⟨rfl, keeps_trans (keeps_trans hb1 hb2) hb3⟩

set_option maxHeartbeats 400000 in
theorem reads_law (s : ByteArray) (hs : s.size ≤ maxLen) (w : World) : Calls Try.prog 4 #[.string s] w fun e w' => e = .returned (.bool true) ∧ Below w.heap.size w w' := by
  have hs0 := hs
  unfold maxLen at hs
  by_cases h : 20000 < s.size
  · go_enter Try.func4, Try.ntmps4
    go_wp2_with fail
    refine (awake_any _).mono ?_
    rintro e w1 ⟨rfl, hb1⟩
    go_wp2
    go_ret
    exact ⟨rfl, hb1⟩
  · go_enter Try.func4, Try.ntmps4
    go_wp2_with fail
    refine (read_any s _ hs0).mono ?_
    rintro e w1 ⟨rfl, n1, hn1⟩
    have Hn1 := Lib.hid hn1
    clear hn1
    unfold readV
    go_wp2_with fail
    refine (refread_any s _ hs0).mono ?_
    rintro e w2 ⟨rfl, n2, hn2⟩
    have Hn2 := Lib.hid hn2
    clear hn2
    unfold readV
    go_wp2_with fail
    refine (awake_any _).mono ?_
    rintro e w3 ⟨rfl, hb3⟩
    go_wp2
    go_ret
    exact ⟨rfl, keeps_trans (keeps_drew (keeps_drew (keeps_refl _) Hn1.out) Hn2.out) hb3⟩

end Go.Proofs.Ytmcglbfgfdlmlaa.CrcW
