/-
  Chapter 5's statements on a disk that is none, and on a replacement, over any world.
-/
import Derived.Test.YtkdbehfmmmlmjaaDiskOwn
set_option linter.unusedVariables false
set_option linter.unusedSimpArgs false
namespace Go.Proofs.Ytkdbehfmmmlmjaa.DiskW
open Go.RowKit Go.Proofs.Ytkdbehfmmmlmjaa.L

/-- A deed in a block of its own. -/
def BoxD (w : World) (b : Nat) (k n : Int) (s : ByteArray) : Prop := b < w.heap.size ∧ w.cell? ⟨b, 0, none⟩ = some (.int .i64 k) ∧ w.cell? ⟨b, 1, none⟩ = some (.int .i64 n) ∧ w.cell? ⟨b, 2, none⟩ = some (.string s)
theorem BoxD.keep {w w' : World} {b : Nat} {k n : Int} {s : ByteArray} (h : BoxD w b k n s) (hb : Below w.heap.size w w') : BoxD w' b k n s :=
  ⟨Nat.lt_of_lt_of_le h.1 hb.size, (hb.cell (p := ⟨b, 0, none⟩) h.1).trans h.2.1, (hb.cell (p := ⟨b, 1, none⟩) h.1).trans h.2.2.1, (hb.cell (p := ⟨b, 2, none⟩) h.1).trans h.2.2.2⟩
theorem BoxD.new (w : World) (k n : Int) (s : ByteArray) : BoxD (w.alloc (.cells #[.int .i64 k, .int .i64 n, .string s] 29)) w.heap.size k n s := ⟨by simp, by simp [go_sem], by simp [go_sem], by simp [go_sem]⟩

set_option maxHeartbeats 1000000 in
theorem none_law (k n : Int) (s : ByteArray) : Gives Try.prog 6 #[.agg #[.int .i64 k, .int .i64 n, .string s]] (.bool true) := by
  have g2 := none_crash n
  have g3 := none_write s
  have g4 := none_replace s
  intro w
  go_enter Try.func6, Try.ntmps6
  have b0 := BoxD.new w k n s
  go_wp2_with fail
  refine (none_sync _).mono ?_
  rintro e w1 ⟨rfl, hb⟩
  have b1 := b0.keep hb
  have k1 : Below w.heap.size w w1 := keeps_trans (a := w) (by (repeat' (first | (with_reducible exact Below.refl _ _) | (with_reducible assumption) | (with_reducible refine Below.alloc ?_ ?_ _) | (with_reducible refine L.below_drewN ?_ _) | (with_reducible refine Below.drew ?_) | (with_reducible refine Below.setCell ?_ ?_ _) | (with_reducible refine Below.frame ?_ _) | go_size))) hb
  clear b0 hb
  obtain ⟨z0, z1, z2, z3⟩ := id b1
  go_wp2_with fail
  refine (g2 _).mono ?_
  rintro e w2 ⟨rfl, hb⟩
  have b2 := b1.keep hb
  have k2 := keeps_trans k1 hb
  clear b1 hb k1 z0 z1 z2 z3
  obtain ⟨z0, z1, z2, z3⟩ := id b2
  go_wp2_with fail
  refine (g3 _).mono ?_
  rintro e w3 ⟨rfl, hb⟩
  have b3 := b2.keep hb
  have k3 := keeps_trans k2 hb
  clear b2 hb k2 z0 z1 z2 z3
  obtain ⟨z0, z1, z2, z3⟩ := id b3
  go_wp2_with fail
  refine (g4 _).mono ?_
  rintro e w4 ⟨rfl, hb⟩
  have hbw := keeps_trans k3 hb
  clear b3 hb k3 z0 z1 z2 z3
  go_wp2_with fail
  refine (none_content _).mono ?_
  rintro e w101 ⟨rfl, hbq⟩
  replace hbw := keeps_trans (a := w) (by (repeat' (first | (with_reducible exact Below.refl _ _) | (with_reducible assumption) | (with_reducible refine Below.alloc ?_ ?_ _) | (with_reducible refine L.below_drewN ?_ _) | (with_reducible refine Below.drew ?_) | (with_reducible refine Below.setCell ?_ ?_ _) | (with_reducible refine Below.frame ?_ _) | go_size))) hbq
  clear hbq
  go_wp2_with fail
  refine (none_waiting _).mono ?_
  rintro e w102 ⟨rfl, hbq⟩
  replace hbw := keeps_trans (a := w) (by (repeat' (first | (with_reducible exact Below.refl _ _) | (with_reducible assumption) | (with_reducible refine Below.alloc ?_ ?_ _) | (with_reducible refine L.below_drewN ?_ _) | (with_reducible refine Below.drew ?_) | (with_reducible refine Below.setCell ?_ ?_ _) | (with_reducible refine Below.frame ?_ _) | go_size))) hbq
  clear hbq
  go_wp2_with fail
  refine (none_free _).mono ?_
  rintro e w103 ⟨rfl, hbq⟩
  replace hbw := keeps_trans (a := w) (by (repeat' (first | (with_reducible exact Below.refl _ _) | (with_reducible assumption) | (with_reducible refine Below.alloc ?_ ?_ _) | (with_reducible refine L.below_drewN ?_ _) | (with_reducible refine Below.drew ?_) | (with_reducible refine Below.setCell ?_ ?_ _) | (with_reducible refine Below.frame ?_ _) | go_size))) hbq
  clear hbq
  go_wp2_with fail
  refine (awake05 _).mono ?_
  rintro e w104 ⟨rfl, hbq⟩
  replace hbw := keeps_trans (a := w) (by (repeat' (first | (with_reducible exact Below.refl _ _) | (with_reducible assumption) | (with_reducible refine Below.alloc ?_ ?_ _) | (with_reducible refine L.below_drewN ?_ _) | (with_reducible refine Below.drew ?_) | (with_reducible refine Below.setCell ?_ ?_ _) | (with_reducible refine Below.frame ?_ _) | go_size))) hbq
  clear hbq
  go_wp2
  go_ret
  exact ⟨rfl, by (repeat' (first | (with_reducible exact Below.refl _ _) | (with_reducible assumption) | (with_reducible refine Below.alloc ?_ ?_ _) | (with_reducible refine L.below_drewN ?_ _) | (with_reducible refine Below.drew ?_) | (with_reducible refine Below.setCell ?_ ?_ _) | (with_reducible refine Below.frame ?_ _) | go_size))⟩

theorem beq_str (a : ByteArray) : (Value.string a = Value.string a) := rfl

set_option maxRecDepth 100000 in
set_option maxHeartbeats 2000000 in
theorem whole_law (s t : ByteArray) (hs : s.size ≤ maxLen) (ht : t.size ≤ maxLen) (n : Int) : Gives Try.prog 4 #[.string s, .string t, .int .i64 n] (.bool true) := by
  intro w
  have hs0 := hs
  have ht0 := ht
  unfold maxLen at hs ht
  by_cases h1 : 5000 < s.size
  · go_enter Try.func4, Try.ntmps4
    go_wp2_with fail
    refine (awake05 _).mono ?_
    rintro e w105 ⟨rfl, hbq⟩
    replace hbw := keeps_trans (a := w) (by (repeat' (first | (with_reducible exact Below.refl _ _) | (with_reducible assumption) | (with_reducible refine Below.alloc ?_ ?_ _) | (with_reducible refine L.below_drewN ?_ _) | (with_reducible refine Below.drew ?_) | (with_reducible refine Below.setCell ?_ ?_ _) | (with_reducible refine Below.frame ?_ _) | go_size))) hbq
    clear hbq
    go_wp2
    go_ret
    exact ⟨rfl, by (repeat' (first | (with_reducible exact Below.refl _ _) | (with_reducible assumption) | (with_reducible refine Below.alloc ?_ ?_ _) | (with_reducible refine L.below_drewN ?_ _) | (with_reducible refine Below.drew ?_) | (with_reducible refine Below.setCell ?_ ?_ _) | (with_reducible refine Below.frame ?_ _) | go_size))⟩
  by_cases h2 : 5000 < t.size
  · go_enter Try.func4, Try.ntmps4
    go_wp2_with fail
    refine (awake05 _).mono ?_
    rintro e w106 ⟨rfl, hbq⟩
    replace hbw := keeps_trans (a := w) (by (repeat' (first | (with_reducible exact Below.refl _ _) | (with_reducible assumption) | (with_reducible refine Below.alloc ?_ ?_ _) | (with_reducible refine L.below_drewN ?_ _) | (with_reducible refine Below.drew ?_) | (with_reducible refine Below.setCell ?_ ?_ _) | (with_reducible refine Below.frame ?_ _) | go_size))) hbq
    clear hbq
    go_wp2
    go_ret
    exact ⟨rfl, by (repeat' (first | (with_reducible exact Below.refl _ _) | (with_reducible assumption) | (with_reducible refine Below.alloc ?_ ?_ _) | (with_reducible refine L.below_drewN ?_ _) | (with_reducible refine Below.drew ?_) | (with_reducible refine Below.setCell ?_ ?_ _) | (with_reducible refine Below.frame ?_ _) | go_size))⟩
  have hl1 : s.data.toList.length = s.size := by simp
  have hl2 : t.data.toList.length = t.size := by simp
  obtain ⟨p1, p2, p3, p4, p5⟩ := Dsk.whole s.data.toList t.data.toList n (by omega) (by omega)
  rw [hl2] at p5
  have hnew : Dsk.new 20000 = ⟨20000, [], [], false⟩ := by decide
  rw [hnew] at p1 p2 p3 p4 p5
  obtain ⟨d1, hd1⟩ : ∃ d, Dsk.write ⟨20000, [], [], false⟩ s.data.toList = d := ⟨_, rfl⟩
  rw [hd1] at p2 p3 p4 p5
  obtain ⟨d2, hd2⟩ : ∃ d, Dsk.sync d1 = d := ⟨_, rfl⟩
  rw [hd2] at p2 p3 p4 p5
  obtain ⟨d3, hd3⟩ : ∃ d, Dsk.replace d2 t.data.toList = d := ⟨_, rfl⟩
  rw [hd3] at p3 p4 p5
  obtain ⟨d4, hd4⟩ : ∃ d, Dsk.crash d3 n = d := ⟨_, rfl⟩
  rw [hd4] at p4 p5
  have P1 := Lib.hid p1
  have P2 := Lib.hid p2
  have q3 : str d3.safe = s := by rw [p3]; rfl
  have P3 := Lib.hid q3
  have P4 := Lib.hid (show ((d4.waits.length : Nat) : Int) = 0 by rw [p4]; rfl)
  have P5 : Hid (((t.size : Int) ≤ n ∧ str d4.safe = t) ∨ (n < (t.size : Int) ∧ (str d4.safe = s ∨ (t = ByteArray.empty ∧ str d4.safe = ByteArray.empty)))) := Lib.hid (by
    rcases p5 with ⟨a, b⟩ | ⟨a, b | ⟨b, c⟩⟩
    · exact .inl ⟨a, by rw [b]; rfl⟩
    · exact .inr ⟨a, .inl (by rw [b]; rfl)⟩
    · refine .inr ⟨a, .inr ⟨?_, ?_⟩⟩
      · have : t = str t.data.toList := rfl
        rw [this, b]; rfl
      · rw [c, b]; rfl)
  have D1 := Lib.hid hd1
  have D2 := Lib.hid hd2
  have D3 := Lib.hid hd3
  have D4 := Lib.hid hd4
  clear p1 p2 p3 p4 p5 hd1 hd2 hd3 hd4 hnew hl1 hl2 q3
  go_enter Try.func4, Try.ntmps4
  go_wp2_with fail
  refine (new_any 20000 _).mono ?_
  rintro e w1 ⟨rfl, hw1⟩
  have hn : (((Dsk.new 20000).size : Nat) : Int) = ((20000 : Nat) : Int) := by decide
  rw [hn] at hw1
  have o1 : Own w.heap.size Nothing w1 w.heap.size ⟨20000, [], [], false⟩ := by rw [hw1]; exact own_new 20000 (by omega) (Nat.le_refl _) (live_nothing _)
  have k1 : Below w.heap.size w w1 := by rw [hw1]; exact (Below.refl _ _).alloc (Nat.le_refl _) _
  clear hw1 hn
  go_wp2_with fail
  refine (write_own o1 k1.size (live_nothing _) s hs0).mono ?_
  rintro e w2 ⟨rfl, o2, kq⟩
  rw [D1.out] at o2
  rw [P1.out]
  have k2 := k1.trans (kq.below k1.size (fun _ h => h.1))
  clear o1 k1 kq
  go_wp2_with fail
  refine (sync_own o2 k2.size (live_nothing _)).mono ?_
  rintro e w3 ⟨rfl, o3, kq⟩
  rw [D2.out] at o3
  have k3 := k2.trans (kq.below k2.size (fun _ h => h.1))
  clear o2 k2 kq
  go_wp2_with fail
  refine (replace_own o3 k3.size (live_nothing _) t ht0).mono ?_
  rintro e w4 ⟨rfl, o4, kq⟩
  rw [D3.out] at o4
  rw [P2.out]
  have k4 := k3.trans (kq.below k3.size (fun _ h => h.1))
  clear o3 k3 kq
  go_wp2_with fail
  refine (content_own o4).mono ?_
  rintro e wq ⟨rfl, rfl⟩
  rw [P3.out]
  go_wp2_with fail
  refine (crash_own o4 k4.size (live_nothing _) n).mono ?_
  rintro e w5 ⟨rfl, o5, kq⟩
  rw [D4.out] at o5
  have hbw := k4.trans (kq.below k4.size (fun _ h => h.1))
  clear o4 k4 kq
  go_wp2_with fail
  refine (content_own o5).mono ?_
  rintro e wq ⟨rfl, rfl⟩
  have hwt := Lib.hid (waiting_own o5)
  rw [P4.out] at hwt
  have p5 := P5.out
  clear P5 o5 D1 D2 D3 D4
  rcases p5 with ⟨a, b⟩ | ⟨a, b | ⟨rfl, c⟩⟩
  · rw [b]
    clear b
    go_wp2_with fail
    refine (hwt.out).mono ?_
    rintro e wq ⟨rfl, rfl⟩
    go_wp2_with fail
    refine (awake05 _).mono ?_
    rintro e w107 ⟨rfl, hbq⟩
    replace hbw := keeps_trans (a := w) (by (repeat' (first | (with_reducible exact Below.refl _ _) | (with_reducible assumption) | (with_reducible refine Below.alloc ?_ ?_ _) | (with_reducible refine L.below_drewN ?_ _) | (with_reducible refine Below.drew ?_) | (with_reducible refine Below.setCell ?_ ?_ _) | (with_reducible refine Below.frame ?_ _) | go_size))) hbq
    clear hbq
    go_wp2
    go_ret
    exact ⟨rfl, by (repeat' (first | (with_reducible exact Below.refl _ _) | (with_reducible assumption) | (with_reducible refine Below.alloc ?_ ?_ _) | (with_reducible refine L.below_drewN ?_ _) | (with_reducible refine Below.drew ?_) | (with_reducible refine Below.setCell ?_ ?_ _) | (with_reducible refine Below.frame ?_ _) | go_size))⟩
  · rw [b]
    clear b
    go_wp2_with fail
    refine (hwt.out).mono ?_
    rintro e wq ⟨rfl, rfl⟩
    go_wp2_with fail
    refine (awake05 _).mono ?_
    rintro e w108 ⟨rfl, hbq⟩
    replace hbw := keeps_trans (a := w) (by (repeat' (first | (with_reducible exact Below.refl _ _) | (with_reducible assumption) | (with_reducible refine Below.alloc ?_ ?_ _) | (with_reducible refine L.below_drewN ?_ _) | (with_reducible refine Below.drew ?_) | (with_reducible refine Below.setCell ?_ ?_ _) | (with_reducible refine Below.frame ?_ _) | go_size))) hbq
    clear hbq
    go_wp2
    go_ret
    exact ⟨rfl, by (repeat' (first | (with_reducible exact Below.refl _ _) | (with_reducible assumption) | (with_reducible refine Below.alloc ?_ ?_ _) | (with_reducible refine L.below_drewN ?_ _) | (with_reducible refine Below.drew ?_) | (with_reducible refine Below.setCell ?_ ?_ _) | (with_reducible refine Below.frame ?_ _) | go_size))⟩
  · rw [c]
    clear c
    have hneg : n < 0 := by simpa using a
    clear a
    go_wp2_with fail
    all_goals
      refine (hwt.out).mono ?_
      rintro e wq ⟨rfl, rfl⟩
      go_wp2_with fail
      refine (awake05 _).mono ?_
      rintro e w109 ⟨rfl, hbq⟩
      replace hbw := keeps_trans (a := w) (by (repeat' (first | (with_reducible exact Below.refl _ _) | (with_reducible assumption) | (with_reducible refine Below.alloc ?_ ?_ _) | (with_reducible refine L.below_drewN ?_ _) | (with_reducible refine Below.drew ?_) | (with_reducible refine Below.setCell ?_ ?_ _) | (with_reducible refine Below.frame ?_ _) | go_size))) hbq
      clear hbq
      go_wp2
      go_ret
      exact ⟨rfl, by (repeat' (first | (with_reducible exact Below.refl _ _) | (with_reducible assumption) | (with_reducible refine Below.alloc ?_ ?_ _) | (with_reducible refine L.below_drewN ?_ _) | (with_reducible refine Below.drew ?_) | (with_reducible refine Below.setCell ?_ ?_ _) | (with_reducible refine Below.frame ?_ _) | go_size))⟩
end Go.Proofs.Ytkdbehfmmmlmjaa.DiskW
