/-
  The contracts of Frame and Read, of package crc and of its reference.
-/
import Derived.Test.YtkdbehfmmmlmjaaCrcWalk
set_option linter.unusedVariables false
set_option linter.unusedSimpArgs false
namespace Go.Proofs.Ytkdbehfmmmlmjaa.CrcW
open Go.RowKit Go.Proofs.Ytkdbehfmmmlmjaa.L

/-! ### frames -/
theorem frame_str (s : ByteArray) (h : s.size ≤ 16384) : str (Crc.four s.size) ++ str (Crc.four (Crc.sum s.data.toList)) ++ s = str (Crc.frame s.data.toList) := by
  have hl : s.data.toList.length = s.size := by simp
  rw [Crc.frame_eq _ (by omega), hl, ← str_append, ← str_append, ByteArray.append_assoc]
  rfl

set_option maxHeartbeats 400000 in
theorem frame_any (s : ByteArray) (w : World) (hs : s.size ≤ maxLen) :
    Calls Try.prog 44 #[.string s] w fun e w' => e = .returned (.string (str (Crc.frame s.data.toList))) ∧ Below w.heap.size w w' := by
  have hs0 := hs
  unfold maxLen at hs
  by_cases h : s.size ≤ 16384
  · have hsl := Lib.hid (Crc.sum_lt s.data.toList)
    have hfs := Lib.hid (frame_str s h)
    go_enter Try.func44, Try.ntmps44
    go_wp2_with fail
    refine (four_any s.size (by omega) _).mono ?_
    rintro e w1 ⟨rfl, hb1⟩
    go_wp2_with fail
    refine (sum_any s _ hs0).mono ?_
    rintro e w2 ⟨rfl, rfl⟩
    go_wp2_with fail
    refine (four_any _ hsl.out _).mono ?_
    rintro e w2 ⟨rfl, hb2⟩
    have l1 : (Crc.four s.size).length ≤ 4 := Nat.le_refl _
    have l2 : (Crc.four (Crc.sum s.data.toList)).length ≤ 4 := Nat.le_refl _
    go_wp2
    go_ret
    exact ⟨ret_string hfs.out, hb1.trans (hb2.mono hb1.size)⟩
  · go_enter Try.func44, Try.ntmps44
    go_wp2
    go_ret
    have hl : s.data.toList.length = s.size := by simp
    exact ⟨ret_string (by rw [Crc.frame, if_pos (by omega)]; rfl), Below.refl _ _⟩

set_option maxHeartbeats 400000 in
theorem refframe_any (s : ByteArray) (w : World) (hs : s.size ≤ maxLen) :
    Calls Try.prog 31 #[.string s] w fun e w' => e = .returned (.string (str (Crc.frame s.data.toList))) ∧ Below w.heap.size w w' := by
  have hs0 := hs
  unfold maxLen at hs
  by_cases h : s.size ≤ 16384
  · have hsl := Lib.hid (Crc.sum_lt s.data.toList)
    have hfs := Lib.hid (frame_str s h)
    go_enter Try.func31, Try.ntmps31
    go_wp2_with fail
    refine (reffour_any s.size (by omega) _).mono ?_
    rintro e w1 ⟨rfl, hb1⟩
    go_wp2_with fail
    refine (refsum_any s _ hs0).mono ?_
    rintro e w2 ⟨rfl, rfl⟩
    go_wp2_with fail
    refine (reffour_any _ hsl.out _).mono ?_
    rintro e w2 ⟨rfl, hb2⟩
    have l1 : (Crc.four s.size).length ≤ 4 := Nat.le_refl _
    have l2 : (Crc.four (Crc.sum s.data.toList)).length ≤ 4 := Nat.le_refl _
    go_wp2
    go_ret
    exact ⟨ret_string hfs.out, hb1.trans (hb2.mono hb1.size)⟩
  · go_enter Try.func31, Try.ntmps31
    go_wp2
    go_ret
    have hl : s.data.toList.length = s.size := by simp
    exact ⟨ret_string (by rw [Crc.frame, if_pos (by omega)]; rfl), Below.refl _ _⟩

theorem drop_eq (s : ByteArray) (k : Nat) : (s.extract k s.size).data.toList = s.data.toList.drop k := by
  rw [extract_eq, str_toList]
  exact List.take_of_length_le (by simp)
theorem part_eq (s : ByteArray) (n : Nat) : (s.extract 8 (8 + n)).data.toList = (s.data.toList.drop 8).take n := by
  rw [extract_eq, str_toList, show 8 + n - 8 = n by omega]

theorem part_str (s : ByteArray) (n : Nat) : str ((s.data.toList.drop 8).take n) = s.extract 8 (8 + n) := by
  rw [extract_eq, show 8 + n - 8 = n by omega]

def readV (l : List UInt8) : Value := .tuple #[.string (str (Crc.read l).1), .int .i64 (Crc.read l).2.1, .int .i64 (Crc.read l).2.2]
theorem readV_of {l a : List UInt8} {n e : Nat} (h : Crc.read l = (a, n, e)) : readV l = .tuple #[.string (str a), .int .i64 n, .int .i64 e] := by
  unfold readV; rw [h]

set_option maxHeartbeats 400000 in
theorem read_any (s : ByteArray) (w : World) (hs : s.size ≤ maxLen) :
    Calls Try.prog 50 #[.string s] w fun e w' => e = .returned (readV s.data.toList) ∧ ∃ n, w' = w.drewN n := by
  have hs0 := hs
  unfold maxLen at hs
  have hl : s.data.toList.length = s.size := by simp
  have Hl := Lib.hid hl
  clear hl
  by_cases h8 : 8 ≤ s.size
  · have hr := readV_of (l := s.data.toList) (a := (Crc.read s.data.toList).1) (n := (Crc.read s.data.toList).2.1) (e := (Crc.read s.data.toList).2.2) rfl
    have hb0 := Crc.back_lt s.data.toList
    have hb4 := Crc.back_lt (s.data.toList.drop 4)
    obtain ⟨n, hn⟩ : ∃ n, Crc.back s.data.toList = n := ⟨_, rfl⟩
    obtain ⟨m, hm⟩ : ∃ m, Crc.back (s.data.toList.drop 4) = m := ⟨_, rfl⟩
    rw [hn] at hb0
    rw [hm] at hb4
    have c0 : ∀ w, Calls Try.prog 55 #[.string s] w fun e w' => e = .returned (.int .u32 n) ∧ w = w' := fun w => by rw [← hn]; exact back_any s w (by omega)
    have c4 : ∀ w, Calls Try.prog 55 #[.string (s.extract 4 s.size)] w fun e w' => e = .returned (.int .u32 m) ∧ w = w' := fun w => by
      rw [← hm, ← drop_eq s 4]; exact back_any _ w (by simp; omega)
    have C0 := Lib.hid c0
    have C4 := Lib.hid c4
    have Hn := Lib.hid hn
    have Hm := Lib.hid hm
    clear c0 c4 hn hm hr
    go_enter Try.func50, Try.ntmps50
    go_wp2
    go_quiet (first | (go_at_call 55; with_reducible exact quiet_of_eq (C0.out _)) | (go_at_call 55; with_reducible exact quiet_of_eq (C4.out _)))
    by_cases g1 : 16384 < n
    · go_wp2
      go_ret3
      have hl := Hl.out
      have hn := Hn.out
      exact ⟨by rw [readV_of (show Crc.read s.data.toList = ([], 0, 8) by rw [Crc.read, if_neg (by omega), hn, if_pos g1])]; rfl, ⟨_, rfl⟩⟩
    by_cases g2 : s.size < n + 8
    · go_wp2
      go_ret3
      have hl := Hl.out
      have hn := Hn.out
      exact ⟨by rw [readV_of (show Crc.read s.data.toList = ([], 0, 10) by rw [Crc.read, if_neg (by omega), hn, if_neg g1, if_pos (by omega)])]; rfl, ⟨_, rfl⟩⟩
    have cs : ∀ w, Calls Try.prog 53 #[.string (s.extract 8 (8 + n))] w fun e w' => e = .returned (.int .u32 (Crc.sum ((s.data.toList.drop 8).take n))) ∧ w = w' := fun w => by
      rw [← part_eq]; exact sum_any _ w (by unfold maxLen; simp; omega)
    have Cs := Lib.hid cs
    clear cs
    by_cases g3 : Crc.sum ((s.data.toList.drop 8).take n) = m
    · have hb : ((Crc.sum ((s.data.toList.drop 8).take n) : Int) != (m : Int)) = false := by rw [g3]; simp
      have G3 := Lib.hid g3
      clear g3
      go_wp2_with (go_at_call 53; (with_reducible refine (Cs.out _).mono ?_); rintro e w' ⟨rfl, rfl⟩)
      go_ret3
      have hl := Hl.out
      have hn := Hn.out
      exact ⟨by rw [readV_of (show Crc.read s.data.toList = ((s.data.toList.drop 8).take n, n + 8, 0) by rw [Crc.read, if_neg (by omega), hn, Hm.out, if_neg g1, if_neg (by omega), G3.out, if_neg (by simp)]), part_str s n]; rfl, ⟨_, rfl⟩⟩
    · have hb : ((Crc.sum ((s.data.toList.drop 8).take n) : Int) != (m : Int)) = true := by rw [bne_iff_ne]; omega
      go_wp2_with (go_at_call 53; (with_reducible refine (Cs.out _).mono ?_); rintro e w' ⟨rfl, rfl⟩)
      go_ret3
      have hl := Hl.out
      have hn := Hn.out
      exact ⟨by rw [readV_of (show Crc.read s.data.toList = ([], 0, 11) by rw [Crc.read, if_neg (by omega), hn, Hm.out, if_neg g1, if_neg (by omega), if_pos g3])]; rfl, ⟨_, rfl⟩⟩
  · go_enter Try.func50, Try.ntmps50
    go_wp2
    go_ret3
    have hl := Hl.out
    exact ⟨by rw [readV_of (show Crc.read s.data.toList = ([], 0, 10) by rw [Crc.read, if_pos (by omega)])]; rfl, ⟨0, rfl⟩⟩

theorem drewN_add {w w1 : World} {n m : Nat} (h : w1 = w.drewN n) : w1.drewN m = w.drewN (n + m) := by rw [h, World.drewN_drewN]

theorem quiet_of_drew {P : Program} {f : FuncId} {args : Array Value} {w : World} {n : Nat} {v : Value}
    (h : Calls P f args (w.drewN n) fun e w' => e = .returned v ∧ ∃ m, w' = (w.drewN n).drewN m) : Calls P f args (w.drewN n) fun e w'' => e = .returned v ∧ ∃ m, w'' = w.drewN m :=
  Calls.quiet_of h

set_option maxHeartbeats 400000 in
theorem refread_any (s : ByteArray) (w : World) (hs : s.size ≤ maxLen) :
    Calls Try.prog 43 #[.string s] w fun e w' => e = .returned (readV s.data.toList) ∧ ∃ n, w' = w.drewN n := by
  have hs0 := hs
  unfold maxLen at hs
  have hl : s.data.toList.length = s.size := by simp
  have Hl := Lib.hid hl
  clear hl
  by_cases h8 : 8 ≤ s.size
  · have hb0 := Crc.back_lt s.data.toList
    have hb4 := Crc.back_lt (s.data.toList.drop 4)
    obtain ⟨n, hn⟩ : ∃ n, Crc.back s.data.toList = n := ⟨_, rfl⟩
    obtain ⟨m, hm⟩ : ∃ m, Crc.back (s.data.toList.drop 4) = m := ⟨_, rfl⟩
    rw [hn] at hb0
    rw [hm] at hb4
    have c0 : ∀ w, Calls Try.prog 51 #[.string s] w fun e w' => e = .returned (.int .u32 n) ∧ ∃ k, w' = w.drewN k := fun w => by rw [← hn]; exact refback_any s w (by omega)
    have c4 : ∀ w, Calls Try.prog 51 #[.string (s.extract 4 s.size)] w fun e w' => e = .returned (.int .u32 m) ∧ ∃ k, w' = w.drewN k := fun w => by
      rw [← hm, ← drop_eq s 4]; exact refback_any _ w (by simp; omega)
    have C0 := Lib.hid c0
    have C4 := Lib.hid c4
    have Hn := Lib.hid hn
    have Hm := Lib.hid hm
    clear c0 c4 hn hm
    by_cases g1 : 16384 < n
    · go_enter Try.func43, Try.ntmps43
      go_wp2_with fail
      refine (C0.out _).mono ?_
      rintro e w1 ⟨rfl, n1, hw1⟩
      have HW := Lib.hid hw1
      clear hw1
      go_wp2
      go_ret3
      have hl := Hl.out
      have hn := Hn.out
      exact ⟨by rw [readV_of (show Crc.read s.data.toList = ([], 0, 8) by rw [Crc.read, if_neg (by omega), hn, if_pos g1])]; rfl, ⟨_, HW.out⟩⟩
    by_cases g2 : s.size < n + 8
    · go_enter Try.func43, Try.ntmps43
      go_wp2_with fail
      refine (C0.out _).mono ?_
      rintro e w1 ⟨rfl, n1, hw1⟩
      have HW := Lib.hid hw1
      clear hw1
      go_wp2
      go_ret3
      have hl := Hl.out
      have hn := Hn.out
      exact ⟨by rw [readV_of (show Crc.read s.data.toList = ([], 0, 10) by rw [Crc.read, if_neg (by omega), hn, if_neg g1, if_pos (by omega)])]; rfl, ⟨_, HW.out⟩⟩
    have cs : ∀ w, Calls Try.prog 46 #[.string (s.extract 8 (8 + n))] w fun e w' => e = .returned (.int .u32 (Crc.sum ((s.data.toList.drop 8).take n))) ∧ w = w' := fun w => by
      rw [← part_eq]; exact refsum_any _ w (by unfold maxLen; simp; omega)
    have Cs := Lib.hid cs
    clear cs
    by_cases g3 : Crc.sum ((s.data.toList.drop 8).take n) = m
    · have hb : ((Crc.sum ((s.data.toList.drop 8).take n) : Int) != (m : Int)) = false := by rw [g3]; simp
      have G3 := Lib.hid g3
      clear g3
      go_enter Try.func43, Try.ntmps43
      go_wp2_with fail
      refine (C0.out _).mono ?_
      rintro e w1 ⟨rfl, n1, hw1⟩
      have HW := Lib.hid hw1
      clear hw1
      go_wp2
      go_quiet (first | (go_at_call 46; with_reducible exact quiet_of_eq (Cs.out _)) | (go_at_call 51; with_reducible exact quiet_of_drew (C4.out _)))
      go_wp2
      go_ret3
      have hl := Hl.out
      have hn := Hn.out
      exact ⟨by rw [readV_of (show Crc.read s.data.toList = ((s.data.toList.drop 8).take n, n + 8, 0) by rw [Crc.read, if_neg (by omega), hn, Hm.out, if_neg g1, if_neg (by omega), G3.out, if_neg (by simp)]), part_str s n, show ((n + 8 : Nat) : Int) = 8 + (n : Int) by omega]; rfl, ⟨_, drewN_add HW.out⟩⟩
    · have hb : ((Crc.sum ((s.data.toList.drop 8).take n) : Int) != (m : Int)) = true := by rw [bne_iff_ne]; omega
      go_enter Try.func43, Try.ntmps43
      go_wp2_with fail
      refine (C0.out _).mono ?_
      rintro e w1 ⟨rfl, n1, hw1⟩
      have HW := Lib.hid hw1
      clear hw1
      go_wp2
      go_quiet (first | (go_at_call 46; with_reducible exact quiet_of_eq (Cs.out _)) | (go_at_call 51; with_reducible exact quiet_of_drew (C4.out _)))
      go_wp2
      go_ret3
      have hl := Hl.out
      have hn := Hn.out
      exact ⟨by rw [readV_of (show Crc.read s.data.toList = ([], 0, 11) by rw [Crc.read, if_neg (by omega), hn, Hm.out, if_neg g1, if_neg (by omega), if_pos g3])]; rfl, ⟨_, drewN_add HW.out⟩⟩
  · go_enter Try.func43, Try.ntmps43
    go_wp2
    go_ret3
    have hl := Hl.out
    exact ⟨by rw [readV_of (show Crc.read s.data.toList = ([], 0, 10) by rw [Crc.read, if_pos (by omega)])]; rfl, ⟨0, rfl⟩⟩

end Go.Proofs.Ytkdbehfmmmlmjaa.CrcW
