/-
  Chapter 6's statements on the records of any bytes, and on a journal that is none, over any world.
-/
import Derived.Test.YtkdbehfmmmlmjaaJouAwake
set_option linter.unusedVariables false
set_option linter.unusedSimpArgs false
namespace Go.Proofs.Ytkdbehfmmmlmjaa.JouW
open Go.RowKit Go.Proofs.Ytkdbehfmmmlmjaa.L Go.Proofs.Ytkdbehfmmmlmjaa.CrcW Go.Proofs.Ytkdbehfmmmlmjaa.DiskW

theorem same_yes {B C : Nat} {va vb : Value} {l : List (List UInt8)} {w : World} (ha : Recs w B va l) (hb : Recs w C vb l) (h1 : l.length ≤ 1048576) :
    Calls Try.prog 26 #[va, vb] w fun e w' => e = .returned (.bool true) ∧ ∃ m, w' = w.drewN m :=
  (same_any ha hb h1 h1).mono fun e w' ⟨h1, h2⟩ => ⟨by rw [h1, decide_eq_true rfl], h2⟩

set_option maxHeartbeats 2000000 in
theorem scans_law (s : ByteArray) (hs : s.size ≤ maxLen) : Gives Try.prog 7 #[.string s] (.bool true) := by
  intro w
  unfold maxLen at hs
  by_cases hbig : 60000 < s.size
  · go_enter Try.func7, Try.ntmps7
    go_wp2_with fail
    refine (awake06 _).mono ?_
    rintro e w1 ⟨rfl, hb⟩
    go_wp2
    go_ret
    exact ⟨rfl, hb⟩
  · obtain ⟨l, hl⟩ : ∃ l, s = str l := ⟨_, str_of s⟩
    subst hl
    have hz : l.length ≤ 60000 := by rw [str_size] at hbig; omega
    have hc := Jou.scan_count l
    have hle := Jou.scan_le l
    have H1 := Lib.hid (fun w => scan_any l w (by omega))
    have H2 := Lib.hid (fun w => refscan_any l w (by omega))
    obtain ⟨rs, hrs⟩ : ∃ rs, (Jou.scan l).1 = rs := ⟨_, rfl⟩
    obtain ⟨n, hn⟩ : ∃ n, (Jou.scan l).2 = n := ⟨_, rfl⟩
    have HRS := Lib.hid hrs
    have HN := Lib.hid hn
    rw [hrs, hn] at hc
    rw [hn] at hle
    clear hrs hn
    have hrl : rs.length ≤ 60000 := by omega
    go_enter Try.func7, Try.ntmps7
    go_wp2_with fail
    refine (H1.out _).mono ?_
    rintro e w1 ⟨v1, rfl, r1, b1⟩
    rw [HN.out]
    rw [HRS.out] at r1
    go_wp2_with fail
    refine (H2.out _).mono ?_
    rintro e w2 ⟨v2, rfl, r2, b2⟩
    rw [HN.out]
    rw [HRS.out] at r2
    have r1' : Recs w2 w.heap.size v1 rs := r1.below b2
    have hsame := Lib.hid (same_yes r1' r2 (by omega))
    have hbw : Below w.heap.size w w2 := b1.trans (b2.mono b1.size)
    clear r1 r1' r2 b1 b2
    go_wp2_with fail
    refine (hsame.out).mono ?_
    rintro e w3 ⟨rfl, m, hw3⟩
    have hb3 : Below w.heap.size w w3 := hw3 ▸ below_drewN hbw m
    clear hw3 hbw
    go_wp2_with fail
    refine (awake06 _).mono ?_
    rintro e w4 ⟨rfl, hb4⟩
    have hb5 := keeps_trans hb3 hb4
    clear hb4 hb3
    go_wp2
    go_ret
    exact ⟨rfl, hb5⟩

theorem append_nil (s : ByteArray) : Gives Try.prog 29 #[.pointer none, .string s] (.int .i64 1) := by
  intro w
  go_enter Try.func29, Try.ntmps29
  go_wp2
  go_ret
  exact ⟨rfl, Below.refl _ _⟩
theorem reset_nil (A : Option Addr) (n c : Nat) : Gives Try.prog 37 #[.pointer none, .slice A n c] (.int .i64 1) := by
  intro w
  go_enter Try.func37, Try.ntmps37
  go_wp2
  go_ret
  exact ⟨rfl, Below.refl _ _⟩
theorem grecords_nil : Gives Try.prog 30 #[.pointer none] (.int .i64 0) := fun w => (records_nil w).mono fun _ _ ⟨h1, h2⟩ => ⟨h1, h2 ▸ Below.refl _ _⟩

def OpenNil (w : World) (e : Ending) (w' : World) : Prop := ∃ A c j g, e = .returned (.tuple #[.pointer (some ⟨j, 0, none⟩), .slice A 0 c]) ∧ JOwn w.heap.size Nothing w' j g 0 [] 0 ∧ Below w.heap.size w w'
set_option maxHeartbeats 2000000 in
theorem open_nil (w : World) : Calls Try.prog 28 #[.pointer none] w fun e w' => OpenNil w e w' := by
  go_enter Try.func28, Try.ntmps28
  go_wp2_with fail
  refine (new_any 0 _).mono ?_
  rintro e w1 ⟨rfl, hw1⟩
  rw [show (((Dsk.new 0).size : Nat) : Int) = ((0 : Nat) : Int) by decide] at hw1
  have o1 : Own w.heap.size Nothing w1 w.heap.size (Jou.clean 0 []) := by rw [hw1]; exact own_new 0 (by omega) (Nat.le_refl _) (live_nothing _)
  have k1 : Below w.heap.size w w1 := by rw [hw1]; exact (Below.refl _ _).alloc (Nat.le_refl _) _
  clear hw1
  have hco := Lib.hid (content_own o1)
  go_wp2_with fail
  refine (hco.out).mono ?_
  rintro e wq ⟨rfl, rfl⟩
  rw [show str (Jou.clean 0 []).safe = str [] from rfl]
  go_wp2_with fail
  refine (scan_any [] _ (by decide)).mono ?_
  rintro e w2 ⟨v, rfl, hr, hb⟩
  rw [Jou.scan_nil] at hr
  rw [show ((Jou.scan []).2 : Int) = 0 by rw [Jou.scan_nil]; rfl]
  obtain ⟨A, cv, rfl, _⟩ := hr.form
  rw [show (([] : List (List UInt8)).map vs).length = 0 from rfl] at *
  have o2 := own_more o1 (L' := fun k => k = w2.heap.size) (G := fun _ => False) (Kept.of_below hb) (fun _ h => h.elim) (fun i hi => .inr (by have := hb.size; omega))
  have k2 : Below w.heap.size w w2 := k1.trans (hb.mono k1.size)
  have hz0 : (str []).size = 0 := rfl
  have HF := Lib.hid (show OpenNil w (.returned (.tuple #[.pointer (some ⟨w2.heap.size, 0, none⟩), .slice A 0 cv])) (w2.alloc (.cells #[.pointer (some ⟨w.heap.size, 0, none⟩), .int .i64 0] 72)) from by
    refine ⟨A, cv, _, _, rfl, ⟨?_, Blk.new _ _ _, k2.size, id⟩, k2.alloc k2.size _⟩
    exact own_less (o2.below ((Below.refl _ _).alloc (Nat.le_refl _) _)) (fun i hi => hi.elim (fun h => h.elim) id))
  clear o1 k1 o2 k2 hr hb hco
  go_wp2
  go_ret2
  exact HF.out

set_option maxHeartbeats 4000000 in
theorem none_law (s : ByteArray) (hs : s.size ≤ maxLen) : Gives Try.prog 11 #[.string s] (.bool true) := by
  intro w
  have hs0 := Lib.hid hs
  have HS := Lib.hid (show s.data.toList.length = s.size by simp)
  unfold maxLen at hs
  go_enter Try.func11, Try.ntmps11
  go_wp2_with fail
  refine (open_nil _).mono ?_
  rintro e w1 ⟨A, c, j, g, rfl, o1, k1⟩
  have hbw := k1
  go_wp2_with fail
  refine (append_nil s _).mono ?_
  rintro e w2 ⟨rfl, hb⟩
  have o2 := o1.below hb
  replace hbw := keeps_trans hbw hb
  clear hb o1 k1
  go_wp2_with fail
  refine (reset_nil _ _ _ _).mono ?_
  rintro e w3 ⟨rfl, hb⟩
  replace hb := keeps_trans (a := w2) (by (repeat' (first | (with_reducible exact Below.refl _ _) | (with_reducible assumption) | (with_reducible refine Below.alloc ?_ ?_ _) | (with_reducible refine Go.Proofs.Ytkdbehfmmmlmjaa.L.below_drewN ?_ _) | (with_reducible refine Below.drew ?_) | (with_reducible refine Below.setCell ?_ ?_ _) | (with_reducible refine Below.frame ?_ _) | go_size))) hb
  have o3 := o2.below hb
  replace hbw := keeps_trans hbw hb
  clear hb o2
  go_wp2_with fail
  refine (grecords_nil _).mono ?_
  rintro e w4 ⟨rfl, hb⟩
  have o4 := o3.below hb
  replace hbw := keeps_trans hbw hb
  clear hb o3
  by_cases hbig : 16384 < s.size
  · clear o4
    go_wp2_with fail
    refine (awake06 _).mono ?_
    rintro e w5 ⟨rfl, hb⟩
    replace hbw := keeps_trans hbw hb
    clear hb
    go_wp2
    go_ret
    exact ⟨rfl, hbw⟩
  · have happ := append_own o4 hbw.size (live_nothing _) (by omega) s hs0.out
    have herr : Jou.appErr 0 [] s.data.toList = 9 := (Jou.app_full 0 [] s.data.toList 0 (by have := HS.out; omega) (by rw [Crc.frame_length _ (by have := HS.out; omega)]; simp)).1
    unfold AppEnd at happ
    rw [herr] at happ
    have Happ := Lib.hid happ
    clear o4 happ herr
    go_wp2_with fail
    refine (Happ.out).mono ?_
    rintro e w5 ⟨rfl, _, k5⟩
    have hbw5 : Below w.heap.size w w5 := hbw.trans (k5.below hbw.size (fun _ h => h.1))
    clear hbw k5
    go_wp2_with fail
    refine (awake06 _).mono ?_
    rintro e w6 ⟨rfl, hb⟩
    replace hbw := keeps_trans hbw5 hb
    clear hb
    go_wp2
    go_ret
    exact ⟨rfl, hbw⟩
end Go.Proofs.Ytkdbehfmmmlmjaa.JouW
