/-
  The disk of the program, as it lies in memory; the contracts of what only reads it.
-/
import Derived.Test.YtkdbehfmmmlmjaaHeap
import Derived.Test.YtkdbehfmmmlmjaaBytes
import Derived.Test.YtkdbehfmmmlmjaaDiskPlain
import Derived.Test.YtkdbehfmmmlmjaaRows
set_option linter.unusedVariables false
set_option linter.unusedSimpArgs false
namespace Go.Proofs.Ytkdbehfmmmlmjaa.DiskW
open Go.RowKit Go.Proofs.Ytkdbehfmmmlmjaa.L

/-- At block g lies the disk d; all that belongs to it lies in F. -/
structure DiskAt (w : World) (g : Nat) (d : Dsk.D) (F : Nat → Prop) (v1 v2 : Value) : Prop where
  blk : Blk w g 65 #[.int .i64 (d.size : Int), v1, v2, .bool d.swaps]
  safe : OwnB w 0 v1 d.safe
  waits : OwnB w 0 v2 d.waits
  apart1 : ∀ k, v1.ownBlock = some k → k ≠ g
  apart2 : ∀ k, v2.ownBlock = some k → k ≠ g
  apart : ∀ k, v1.ownBlock = some k → v2.ownBlock ≠ some k
  inF : F g
  in1 : ∀ k, v1.ownBlock = some k → F k
  in2 : ∀ k, v2.ownBlock = some k → F k
  ltF : ∀ k, F k → k < w.heap.size
  ok : Dsk.Ok d
  most : d.size ≤ 1048576

theorem OwnB.len {w : World} {v : Value} {l : List UInt8} (h : OwnB w 0 v l) : ∃ a c, v = .slice a l.length c := by
  rcases h with ⟨rfl, rfl⟩ | ⟨g, cap, rfl, _⟩
  · exact ⟨_, _, rfl⟩
  · exact ⟨_, _, rfl⟩

theorem DiskAt.kept {w w' : World} {g : Nat} {d : Dsk.D} {F G : Nat → Prop} {v1 v2 : Value} (h : DiskAt w g d F v1 v2) (k : Kept G w w') (hd : ∀ i, F i → ¬ G i) : DiskAt w' g d F v1 v2 :=
  ⟨h.blk.kept k (hd g h.inF), h.safe.kept k.size (fun i hi => k.block i ((h.safe.lt i hi).2) (hd i (h.in1 i hi))), h.waits.kept k.size (fun i hi => k.block i ((h.waits.lt i hi).2) (hd i (h.in2 i hi))),
    h.apart1, h.apart2, h.apart, h.inF, h.in1, h.in2, fun i hi => Nat.lt_of_lt_of_le (h.ltF i hi) k.size, h.ok, h.most⟩

/-- What a deed leaves: the disk d', in blocks that were its own or are new; all others as they were. -/
def Turn (w w' : World) (g : Nat) (d' : Dsk.D) (F : Nat → Prop) : Prop := ∃ F' v1 v2, DiskAt w' g d' F' v1 v2 ∧ Kept F w w' ∧ ∀ k, F' k → F k ∨ w.heap.size ≤ k

theorem Kept.drew_of {F : Nat → Prop} {w w' : World} {n : Nat} (h : w' = w.drewN n) : Kept F w w' := h ▸ (Kept.refl F w).drewN n

set_option maxHeartbeats 400000 in
theorem waiting_any {w : World} {g : Nat} {d : Dsk.D} {F : Nat → Prop} {v1 v2 : Value} (h : DiskAt w g d F v1 v2) :
    Calls Try.prog 21 #[.pointer (some ⟨g, 0, none⟩)] w fun e w' => e = .returned (.int .i64 (d.waits.length : Int)) ∧ w = w' := by
  have c2 := h.blk.cell 2
  obtain ⟨a, c, rfl⟩ := OwnB.len h.waits
  simp only [List.getElem?_toArray] at c2
  clear h
  go_enter Try.func21, Try.ntmps21
  go_wp2
  go_ret
  exact ⟨rfl, rfl⟩

set_option maxHeartbeats 400000 in
theorem content_any {w : World} {g : Nat} {d : Dsk.D} {F : Nat → Prop} {v1 v2 : Value} (h : DiskAt w g d F v1 v2) :
    Calls Try.prog 15 #[.pointer (some ⟨g, 0, none⟩)] w fun e w' => e = .returned (.string (str d.safe)) ∧ w = w' := by
  have c1 := h.blk.cell 1
  have hs := run_string_own (P := Try.prog) 63 9 5 Try.underlying63 Try.underlying5 Try.underlying9 h.safe
  obtain ⟨a, c, rfl⟩ := OwnB.len h.safe
  simp only [List.getElem?_toArray] at c1
  clear h
  go_enter Try.func15, Try.ntmps15
  go_wp2
  go_ret
  exact ⟨rfl, rfl⟩

set_option maxHeartbeats 400000 in
theorem free_any {w : World} {g : Nat} {d : Dsk.D} {F : Nat → Prop} {v1 v2 : Value} (h : DiskAt w g d F v1 v2) :
    Calls Try.prog 22 #[.pointer (some ⟨g, 0, none⟩)] w fun e w' => e = .returned (.int .i64 (Dsk.free d)) ∧ ∃ n, w' = w.drewN n := by
  have c0 := h.blk.cell 0
  have c1 := h.blk.cell 1
  have c2 := h.blk.cell 2
  have c3 := h.blk.cell 3
  have ok := h.ok
  have most := h.most
  unfold Dsk.Ok at ok
  obtain ⟨a, c, rfl⟩ := OwnB.len h.waits
  obtain ⟨a', c', rfl⟩ := OwnB.len h.safe
  obtain ⟨o1, o2, o3⟩ := ok
  clear h
  obtain ⟨size, safe, waits, swaps⟩ := d
  simp only [List.getElem?_toArray] at *
  cases swaps
  · have o4 := o3 rfl
    clear o3
    go_enter Try.func22, Try.ntmps22
    go_wp2
    go_quiet (fail)
    go_wp2
    go_ret
    exact ⟨ret_int (by simp [Dsk.free]), ⟨_, rfl⟩⟩
  · clear o3
    go_enter Try.func22, Try.ntmps22
    go_wp2
    go_quiet (fail)
    go_wp2
    go_ret
    exact ⟨ret_int (by simp [Dsk.free]), ⟨_, rfl⟩⟩

theorem new_at (m : Nat) (hm : m ≤ 1048576) (w : World) : DiskAt (w.alloc (.cells #[.int .i64 (m : Int), .slice none 0 0, .slice none 0 0, .bool false] 65)) w.heap.size ⟨m, [], [], false⟩ (fun k => k = w.heap.size) (.slice none 0 0) (.slice none 0 0) :=
  ⟨Blk.new _ _ _, .inl ⟨rfl, rfl⟩, .inl ⟨rfl, rfl⟩, fun k hk => (by cases hk), fun k hk => (by cases hk), fun k hk => (by cases hk), rfl, fun k hk => (by cases hk), fun k hk => (by cases hk), fun k hk => (by subst hk; simp), ⟨Nat.zero_le _, Nat.zero_le _, fun _ => Nat.zero_le _⟩, hm⟩

set_option maxHeartbeats 400000 in
theorem new_any (n : Int) (w : World) : Calls Try.prog 12 #[.int .i64 n] w fun e w' => e = .returned (.pointer (some ⟨w.heap.size, 0, none⟩)) ∧ w' = w.alloc (.cells #[.int .i64 ((Dsk.new n).size : Int), .slice none 0 0, .slice none 0 0, .bool false] 65) := by
  go_enter Try.func12, Try.ntmps12
  go_wp2
  all_goals
    go_ret
    refine ⟨rfl, ?_⟩
    first
      | (rw [show (((Dsk.new n).size : Nat) : Int) = n by unfold Dsk.new; simp only; omega]; done)
      | (rw [show (((Dsk.new n).size : Nat) : Int) = 0 by unfold Dsk.new; simp only; omega]; done)
      | (rw [show (((Dsk.new n).size : Nat) : Int) = 1048576 by unfold Dsk.new; simp only; omega]; done)

end Go.Proofs.Ytkdbehfmmmlmjaa.DiskW
