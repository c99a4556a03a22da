/-
  The disk among other things: what is live besides it, and what lay below the world at the beginning, stays.
-/
import Derived.Test.YtkdbehfmmmlmjaaDiskRefB
set_option linter.unusedVariables false
set_option linter.unusedSimpArgs false
namespace Go.Proofs.Ytkdbehfmmmlmjaa.DiskW
open Go.RowKit Go.Proofs.Ytkdbehfmmmlmjaa.L

/-- The disk d at g, in blocks from B on, none of which is of L. -/
def Own (B : Nat) (L : Nat → Prop) (w : World) (g : Nat) (d : Dsk.D) : Prop := ∃ F v1 v2, DiskAt w g d F v1 v2 ∧ (∀ k, F k → B ≤ k ∧ ¬ L k)
/-- What may turn. -/
def Room (B : Nat) (L : Nat → Prop) : Nat → Prop := fun k => B ≤ k ∧ ¬ L k
/-- Behind a deed. -/
def OTurn (B : Nat) (L : Nat → Prop) (w w' : World) (g : Nat) (d' : Dsk.D) : Prop := Own B L w' g d' ∧ Kept (Room B L) w w'
def Live (L : Nat → Prop) (w : World) : Prop := ∀ k, L k → k < w.heap.size

section
variable {B : Nat} {L : Nat → Prop} {w w' : World} {g : Nat} {d d' : Dsk.D}
theorem Own.turn {F : Nat → Prop} (hB : B ≤ w.heap.size) (hL : Live L w) (hF : ∀ k, F k → B ≤ k ∧ ¬ L k) (t : Turn w w' g d' F) : OTurn B L w w' g d' := by
  obtain ⟨F', v1, v2, h, k, hn⟩ := t
  refine ⟨⟨F', v1, v2, h, fun i hi => ?_⟩, k.mono (fun i _ hi => hF i hi)⟩
  rcases hn i hi with h1 | h1
  · exact hF i h1
  · exact ⟨Nat.le_trans hB h1, fun hl => by have := hL i hl; omega⟩
theorem Own.kept {G : Nat → Prop} (o : Own B L w g d) (k : Kept G w w') (hG : ∀ i, G i → L i ∨ i < B) : Own B L w' g d := by
  obtain ⟨F, v1, v2, h, hF⟩ := o
  refine ⟨F, v1, v2, h.kept k (fun i hi hg => ?_), hF⟩
  have h1 := hF i hi
  rcases hG i hg with h2 | h2
  · exact h1.2 h2
  · omega
theorem Own.below (o : Own B L w g d) (k : Below w.heap.size w w') : Own B L w' g d := o.kept (G := fun _ => False) (Kept.of_below k) (fun _ h => h.elim)
theorem Own.ok (o : Own B L w g d) : Dsk.Ok d ∧ d.size ≤ 1048576 := by
  obtain ⟨F, v1, v2, h, hF⟩ := o
  exact ⟨h.ok, h.most⟩
theorem Own.lt (o : Own B L w g d) : B ≤ g ∧ g < w.heap.size ∧ ¬ L g := by
  obtain ⟨F, v1, v2, h, hF⟩ := o
  exact ⟨(hF g h.inF).1, h.blk.lt, (hF g h.inF).2⟩
theorem Live.kept (hL : Live L w) (hs : w.heap.size ≤ w'.heap.size) : Live L w' := fun k hk => Nat.lt_of_lt_of_le (hL k hk) hs

theorem own_new (m : Nat) (hm : m ≤ 1048576) (hB : B ≤ w.heap.size) (hL : Live L w) : Own B L (w.alloc (.cells #[.int .i64 (m : Int), .slice none 0 0, .slice none 0 0, .bool false] 65)) w.heap.size ⟨m, [], [], false⟩ :=
  ⟨_, _, _, new_at m hm w, fun k hk => by subst hk; exact ⟨hB, fun h => by have := hL _ h; omega⟩⟩

theorem write_own (o : Own B L w g d) (hB : B ≤ w.heap.size) (hL : Live L w) (s : ByteArray) (hs : s.size ≤ maxLen) :
    Calls Try.prog 17 #[.pointer (some ⟨g, 0, none⟩), .string s] w fun e w' => e = .returned (.int .i64 (Dsk.writeErr d s.data.toList)) ∧ OTurn B L w w' g (Dsk.write d s.data.toList) := by
  obtain ⟨F, v1, v2, h, hF⟩ := o
  exact (write_any h s hs).mono fun _ _ ⟨he, t⟩ => ⟨he, Own.turn hB hL hF t⟩
theorem replace_own (o : Own B L w g d) (hB : B ≤ w.heap.size) (hL : Live L w) (s : ByteArray) (hs : s.size ≤ maxLen) :
    Calls Try.prog 19 #[.pointer (some ⟨g, 0, none⟩), .string s] w fun e w' => e = .returned (.int .i64 (Dsk.replaceErr d s.data.toList)) ∧ OTurn B L w w' g (Dsk.replace d s.data.toList) := by
  obtain ⟨F, v1, v2, h, hF⟩ := o
  exact (replace_any h s hs).mono fun _ _ ⟨he, t⟩ => ⟨he, Own.turn hB hL hF t⟩
theorem crash_own (o : Own B L w g d) (hB : B ≤ w.heap.size) (hL : Live L w) (n : Int) :
    Calls Try.prog 20 #[.pointer (some ⟨g, 0, none⟩), .int .i64 n] w fun e w' => e = .returned (.tuple #[]) ∧ OTurn B L w w' g (Dsk.crash d n) := by
  obtain ⟨F, v1, v2, h, hF⟩ := o
  exact (crash_any h n).mono fun _ _ ⟨he, t⟩ => ⟨he, Own.turn hB hL hF t⟩
theorem sync_own (o : Own B L w g d) (hB : B ≤ w.heap.size) (hL : Live L w) :
    Calls Try.prog 18 #[.pointer (some ⟨g, 0, none⟩)] w fun e w' => e = .returned (.tuple #[]) ∧ OTurn B L w w' g (Dsk.sync d) := by
  obtain ⟨F, v1, v2, h, hF⟩ := o
  exact (sync_any h).mono fun _ _ ⟨he, t⟩ => ⟨he, Own.turn hB hL hF t⟩
theorem content_own (o : Own B L w g d) : Calls Try.prog 15 #[.pointer (some ⟨g, 0, none⟩)] w fun e w' => e = .returned (.string (str d.safe)) ∧ w = w' := by
  obtain ⟨F, v1, v2, h, hF⟩ := o
  exact content_any h
theorem waiting_own (o : Own B L w g d) : Calls Try.prog 21 #[.pointer (some ⟨g, 0, none⟩)] w fun e w' => e = .returned (.int .i64 (d.waits.length : Int)) ∧ w = w' := by
  obtain ⟨F, v1, v2, h, hF⟩ := o
  exact waiting_any h
theorem free_own (o : Own B L w g d) : Calls Try.prog 22 #[.pointer (some ⟨g, 0, none⟩)] w fun e w' => e = .returned (.int .i64 (Dsk.free d)) ∧ ∃ n, w' = w.drewN n := by
  obtain ⟨F, v1, v2, h, hF⟩ := o
  exact free_any h
theorem Room.low {i : Nat} (h : Room B L i) : B ≤ i := h.1
end

/-- No other thing lives. -/
def Nothing : Nat → Prop := fun _ => False
theorem live_nothing (w : World) : Live Nothing w := fun _ h => h.elim

/-! ### a disk that is none -/
theorem none_write (s : ByteArray) : Gives Try.prog 17 #[.pointer none, .string s] (.int .i64 1) := by
  intro w
  go_enter Try.func17, Try.ntmps17
  go_wp2
  go_ret
  exact ⟨rfl, Below.refl _ _⟩
theorem none_replace (s : ByteArray) : Gives Try.prog 19 #[.pointer none, .string s] (.int .i64 1) := by
  intro w
  go_enter Try.func19, Try.ntmps19
  go_wp2
  go_ret
  exact ⟨rfl, Below.refl _ _⟩
theorem none_content : Gives Try.prog 15 #[.pointer none] (.string ByteArray.empty) := by
  intro w
  go_enter Try.func15, Try.ntmps15
  go_wp2
  go_ret
  exact ⟨rfl, Below.refl _ _⟩
theorem none_waiting : Gives Try.prog 21 #[.pointer none] (.int .i64 0) := by
  intro w
  go_enter Try.func21, Try.ntmps21
  go_wp2
  go_ret
  exact ⟨rfl, Below.refl _ _⟩
theorem none_free : Gives Try.prog 22 #[.pointer none] (.int .i64 0) := by
  intro w
  go_enter Try.func22, Try.ntmps22
  go_wp2
  go_ret
  exact ⟨rfl, Below.refl _ _⟩
theorem none_crash (n : Int) : Gives Try.prog 20 #[.pointer none, .int .i64 n] (.tuple #[]) := by
  intro w
  go_enter Try.func20, Try.ntmps20
  go_wp2
  refine bodyPost_ret (results_none rfl _ _ _) rfl ?_
  exact ⟨rfl, Below.refl _ _⟩
theorem none_sync : Gives Try.prog 18 #[.pointer none] (.tuple #[]) := by
  have g1 := none_waiting
  have g2 := none_crash 0
  intro w
  go_enter Try.func18, Try.ntmps18
  go_wp2_with fail
  refine (g1 _).mono ?_
  rintro e w101 ⟨rfl, hbq⟩
  replace hbw := keeps_trans (a := w) (by (repeat' (first | (with_reducible exact Below.refl _ _) | (with_reducible assumption) | (with_reducible refine Below.alloc ?_ ?_ _) | (with_reducible refine L.below_drewN ?_ _) | (with_reducible refine Below.drew ?_) | (with_reducible refine Below.setCell ?_ ?_ _) | (with_reducible refine Below.frame ?_ _) | go_size))) hbq
  clear hbq
  go_wp2_with fail
  refine (g2 _).mono ?_
  rintro e w102 ⟨rfl, hbq⟩
  replace hbw := keeps_trans (a := w) (by (repeat' (first | (with_reducible exact Below.refl _ _) | (with_reducible assumption) | (with_reducible refine Below.alloc ?_ ?_ _) | (with_reducible refine L.below_drewN ?_ _) | (with_reducible refine Below.drew ?_) | (with_reducible refine Below.setCell ?_ ?_ _) | (with_reducible refine Below.frame ?_ _) | go_size))) hbq
  clear hbq
  go_wp2
  go_end0
  exact ⟨rfl, by (repeat' (first | (with_reducible exact Below.refl _ _) | (with_reducible assumption) | (with_reducible refine Below.alloc ?_ ?_ _) | (with_reducible refine L.below_drewN ?_ _) | (with_reducible refine Below.drew ?_) | (with_reducible refine Below.setCell ?_ ?_ _) | (with_reducible refine Below.frame ?_ _) | go_size))⟩

/-! ### chapter 5's examples -/
def e1 : Dsk.D := ⟨100, [], [97, 98, 99], false⟩
def e2 : Dsk.D := ⟨100, [97, 98], [], false⟩
def e3 : Dsk.D := ⟨100, [97, 98], [120, 121, 122], true⟩
def e5 : Dsk.D := ⟨100, [120, 121, 122], [], false⟩
theorem x1 : Dsk.write ⟨100, [], [], false⟩ [97, 98, 99] = e1 ∧ Dsk.crash e1 2 = e2 ∧ Dsk.replace e2 [120, 121, 122] = e3 ∧ Dsk.crash e3 2 = e2 ∧ Dsk.crash e3 3 = e5 ∧ Dsk.free e5 = 97 := by decide
theorem x2 (l : List UInt8) (h : l.length = 98) : Dsk.writeErr e5 l = 9 := by unfold Dsk.writeErr Dsk.canWrite; rw [h]; rfl
def Z98 : Array Value := Array.replicate 98 (.int .u8 0)
theorem str_lit (l : List UInt8) : (⟨l.toArray⟩ : ByteArray).data.toList = l := rfl

set_option maxRecDepth 100000 in
set_option maxHeartbeats 2000000 in
theorem awake05 : Gives Try.prog 14 #[] (.bool true) := by
  intro w
  go_enter Try.func14, Try.ntmps14
  go_wp2_with fail
  refine (new_any 100 _).mono ?_
  rintro e w1 ⟨rfl, hw1⟩
  have hn : (((Dsk.new 100).size : Nat) : Int) = ((100 : Nat) : Int) := by decide
  rw [hn] at hw1
  have o1 : Own w.heap.size Nothing w1 w.heap.size ⟨100, [], [], false⟩ := by rw [hw1]; exact own_new 100 (by omega) (Nat.le_refl _) (live_nothing _)
  have k1 : Below w.heap.size w w1 := by rw [hw1]; exact (Below.refl _ _).alloc (Nat.le_refl _) _
  clear hw1 hn
  go_wp2_with fail
  refine (write_own o1 k1.size (live_nothing _) _ (by decide)).mono ?_
  rintro e w2 ⟨rfl, o2, kq⟩
  have o2 : Own w.heap.size Nothing w2 w.heap.size e1 := by have h := o2; first | (rw [show _ = e1 from x1.1] at h; exact h) | exact (show _ = e1 from x1.1) ▸ h
  have k2 := k1.trans (kq.below k1.size (fun _ h => h.1))
  clear o1 k1 kq
  go_wp2_with fail
  refine (crash_own o2 k2.size (live_nothing _) 2).mono ?_
  rintro e w3 ⟨rfl, o3, kq⟩
  have o3 : Own w.heap.size Nothing w3 w.heap.size e2 := by have h := o3; first | (rw [show _ = e2 from x1.2.1] at h; exact h) | exact (show _ = e2 from x1.2.1) ▸ h
  have k3 := k2.trans (kq.below k2.size (fun _ h => h.1))
  clear o2 k2 kq
  go_wp2_with fail
  refine (content_own o3).mono ?_
  rintro e wq ⟨rfl, rfl⟩
  rw [show str e2.safe = ⟨#[97, 98]⟩ from rfl]
  go_wp2_with fail
  refine (replace_own o3 k3.size (live_nothing _) _ (by decide)).mono ?_
  rintro e w4 ⟨rfl, o4, kq⟩
  have o4 : Own w.heap.size Nothing w4 w.heap.size e3 := by have h := o4; first | (rw [show _ = e3 from x1.2.2.1] at h; exact h) | exact (show _ = e3 from x1.2.2.1) ▸ h
  have k4 := k3.trans (kq.below k3.size (fun _ h => h.1))
  clear o3 k3 kq
  go_wp2_with fail
  refine (crash_own o4 k4.size (live_nothing _) 2).mono ?_
  rintro e w5 ⟨rfl, o5, kq⟩
  have o5 : Own w.heap.size Nothing w5 w.heap.size e2 := by have h := o5; first | (rw [show _ = e2 from x1.2.2.2.1] at h; exact h) | exact (show _ = e2 from x1.2.2.2.1) ▸ h
  have k5 := k4.trans (kq.below k4.size (fun _ h => h.1))
  clear o4 k4 kq
  go_wp2_with fail
  refine (content_own o5).mono ?_
  rintro e wq ⟨rfl, rfl⟩
  rw [show str e2.safe = ⟨#[97, 98]⟩ from rfl]
  go_wp2_with fail
  refine (replace_own o5 k5.size (live_nothing _) _ (by decide)).mono ?_
  rintro e w6 ⟨rfl, o6, kq⟩
  have o6 : Own w.heap.size Nothing w6 w.heap.size e3 := by have h := o6; first | (rw [show _ = e3 from x1.2.2.1] at h; exact h) | exact (show _ = e3 from x1.2.2.1) ▸ h
  have k6 := k5.trans (kq.below k5.size (fun _ h => h.1))
  clear o5 k5 kq
  go_wp2_with fail
  refine (crash_own o6 k6.size (live_nothing _) 3).mono ?_
  rintro e w7 ⟨rfl, o7, kq⟩
  have o7 : Own w.heap.size Nothing w7 w.heap.size e5 := by have h := o7; first | (rw [show _ = e5 from x1.2.2.2.2.1] at h; exact h) | exact (show _ = e5 from x1.2.2.2.2.1) ▸ h
  have k7 := k6.trans (kq.below k6.size (fun _ h => h.1))
  clear o6 k6 kq
  go_wp2_with fail
  refine (content_own o7).mono ?_
  rintro e wq ⟨rfl, rfl⟩
  rw [show str e5.safe = ⟨#[120, 121, 122]⟩ from rfl]
  go_wp2_with fail
  refine (free_own o7).mono ?_
  rintro e w8 ⟨rfl, n, hw8⟩
  have o8 := o7.below (hw8 ▸ below_drewN (Below.refl _ _) n)
  have k8 : Below w.heap.size w w8 := hw8 ▸ below_drewN k7 n
  rw [show Dsk.free e5 = 97 from x1.2.2.2.2.2]
  clear o7 k7 hw8
  have hmk : ∀ w : World, (Instr.makeSlice 63 (.int .i64 98) (.int .i64 98)).run Try.prog w = .ok (.slice (some ⟨w.heap.size, 0, none⟩) 98 98) (w.alloc (.cells Z98 5)) := fun _ => by kernel_rfl
  have kc := fun (w : World) => run_string_of_new (P := Try.prog) 63 9 5 Try.underlying63 Try.underlying5 Try.underlying9 w Z98 5 (List.replicate 98 0) 98 98 (by simp [Z98]) rfl
  go_wp2_with fail
  refine (write_own (o8.below ((Below.refl _ _).alloc (Nat.le_refl _) _)) (by have := k8.size; simp; omega) (live_nothing _) _ (by decide)).mono ?_
  rintro e w9 ⟨rfl, o9, kq⟩
  have k9 : Below w.heap.size w w9 := (k8.alloc k8.size _).trans (kq.below (by have := k8.size; simp; omega) (fun _ h => h.1))
  clear o8 k8 o9 kq
  rw [x2 _ rfl]
  go_wp2
  go_ret
  exact ⟨rfl, k9⟩
end Go.Proofs.Ytkdbehfmmmlmjaa.DiskW
