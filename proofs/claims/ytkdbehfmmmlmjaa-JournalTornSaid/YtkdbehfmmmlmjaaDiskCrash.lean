/-
  The disk of the program: a replacement, the power cut, all made safe: their contracts.
-/
import Derived.Test.YtkdbehfmmmlmjaaDiskWrite
set_option linter.unusedVariables false
set_option linter.unusedSimpArgs false
namespace Go.Proofs.Ytkdbehfmmmlmjaa.DiskW
open Go.RowKit Go.Proofs.Ytkdbehfmmmlmjaa.L

theorem set2 {w : World} (p q : Addr) (u v : Value) : ((w.setCell p u).setCell q v).heap.size = w.heap.size := by simp [World.setCell]

/-- A replacement: the waiting bytes are others, in a new block. -/
theorem turn_replace {w w1 : World} {g : Nat} {d : Dsk.D} {F : Nat → Prop} {v1 v2 v' : Value} {l : List UInt8} (h : DiskAt w g d F v1 v2) (hl : l.length ≤ d.size) (hg : Below w.heap.size w w1)
    (ho : OwnB w1 0 v' l) (hn : ∀ k, v'.ownBlock = some k → w.heap.size ≤ k) : Turn w ((w1.setCell ⟨g, 2, none⟩ v').setCell ⟨g, 3, none⟩ (.bool true)) g { d with waits := l, swaps := true } F := by
  have hlt := h.blk.lt
  have hk : Kept F w w1 := Kept.of_below hg
  have hb1 : Blk w1 g _ _ := h.blk.below hg hlt
  have hs1 := h.safe.kept hg.size (fun k hk => hg.block k (h.safe.lt k hk).2)
  have far : ∀ k, k ≠ g → ((w1.setCell ⟨g, 2, none⟩ v').setCell ⟨g, 3, none⟩ (.bool true)).heap[k]? = w1.heap[k]? := fun k hk => (Below.heap_setCell _ _ _ _ hk).trans (Below.heap_setCell _ _ _ _ hk)
  have hne : ∀ k, v'.ownBlock = some k → k ≠ g := fun k hk e => by have := hn k hk; omega
  refine ⟨fun k => F k ∨ v'.ownBlock = some k, v1, v', ⟨(hb1.set_ 2 v').set_ 3 (.bool true), ?_, ?_, h.apart1, hne, ?_, .inl h.inF, fun k hk => .inl (h.in1 k hk), fun k hk => .inr hk, ?_, ⟨h.ok.1, hl, fun e => by cases e⟩, h.most⟩, ?_, ?_⟩
  · exact hs1.kept (by rw [set2]; exact Nat.le_refl _) (fun k hk => far k (h.apart1 k hk))
  · exact ho.kept (by rw [set2]; exact Nat.le_refl _) (fun k hk => far k (hne k hk))
  · intro k hk hk'
    have := hn k hk'
    have := (h.safe.lt k hk).2
    omega
  · intro k hk
    rw [set2]
    rcases hk with hk | hk
    · exact Nat.lt_of_lt_of_le (h.ltF k hk) hg.size
    · exact (ho.lt k hk).2
  · exact (hk.setCell (.inl h.inF) _).setCell (.inl h.inF) _
  · intro k hk
    rcases hk with hk | hk
    · exact .inl hk
    · exact .inr (hn k hk)

set_option maxHeartbeats 1000000 in
theorem replace_any {w : World} {g : Nat} {d : Dsk.D} {F : Nat → Prop} {v1 v2 : Value} (h : DiskAt w g d F v1 v2) (s : ByteArray) (hs : s.size ≤ maxLen) :
    Calls Try.prog 19 #[.pointer (some ⟨g, 0, none⟩), .string s] w fun e w' => e = .returned (.int .i64 (Dsk.replaceErr d s.data.toList)) ∧ Turn w w' g (Dsk.replace d s.data.toList) F := by
  unfold maxLen at hs
  have hl : s.data.toList.length = s.size := by simp
  have hlt := h.blk.lt
  have hne : ¬ g = w.heap.size := by omega
  have c0 := h.blk.cell 0
  have c2 := h.blk.cell 2
  have c3 := h.blk.cell 3
  have f2 := h.blk.frozen 2
  have f3 := h.blk.frozen 3
  simp only [List.getElem?_toArray] at c0 c2 c3
  by_cases hc : d.size < s.size
  · have he := Lib.hid (show Dsk.replaceErr d s.data.toList = 9 by unfold Dsk.replaceErr; rw [if_pos (by omega)])
    have hwr : Dsk.replace d s.data.toList = d := by unfold Dsk.replace; rw [if_pos (by omega)]
    rw [hwr]
    have HT := Lib.hid (show Turn w w g d F from ⟨F, v1, v2, h, Kept.refl _ _, fun k hk => .inl hk⟩)
    clear hwr hl h
    go_enter Try.func19, Try.ntmps19
    go_wp2
    go_ret
    exact ⟨ret_int he.out.symm, HT.out⟩
  · have he := Lib.hid (show Dsk.replaceErr d s.data.toList = 0 by unfold Dsk.replaceErr; rw [if_neg (by omega)])
    have hwr : Dsk.replace d s.data.toList = { d with waits := s.data.toList, swaps := true } := by unfold Dsk.replace; rw [if_neg (by omega)]
    rw [hwr]
    have hm := h.most
    obtain ⟨cap, o, hr, ho⟩ := own_of_string (P := Try.prog) w 9 63 5 s Try.underlying9 Try.underlying63 Try.underlying5 (by omega)
    have ht := turn_replace h (by omega) ((Below.refl _ _).drew.alloc (Nat.le_refl _) o) ho (fun k hk => by cases hk; exact Nat.le_refl _)
    rw [World.alloc_drew, World.setCell_drew, World.setCell_drew, World.setCell_alloc_past o g 2 _ hlt, World.setCell_alloc_past o g 3 _ (by simpa [World.setCell] using hlt)] at ht
    have HT := Lib.hid ht
    clear hwr hl h ho hm ht
    go_enter Try.func19, Try.ntmps19
    go_wp2
    go_ret
    exact ⟨ret_int he.out.symm, HT.out⟩

theorem set3 {w : World} (p q r : Addr) (u v x : Value) : (((w.setCell p u).setCell q v).setCell r x).heap.size = w.heap.size := by simp [World.setCell]

/-- The power is cut: what is safe then is v', of bytes that lay in the disk or are new; nothing waits. -/
theorem turn_crash {w w1 : World} {g : Nat} {d : Dsk.D} {F : Nat → Prop} {v1 v2 v' : Value} {l : List UInt8} (h : DiskAt w g d F v1 v2) (hl : l.length ≤ d.size) (hg : Kept F w w1) (hb1 : Blk w1 g 65 #[.int .i64 (d.size : Int), v1, v2, .bool d.swaps])
    (ho : OwnB w1 0 v' l) (hn : ∀ k, v'.ownBlock = some k → (F k ∧ k ≠ g) ∨ w.heap.size ≤ k) : Turn w (((w1.setCell ⟨g, 1, none⟩ v').setCell ⟨g, 2, none⟩ (.slice none 0 0)).setCell ⟨g, 3, none⟩ (.bool false)) g ⟨d.size, l, [], false⟩ F := by
  have hlt := h.blk.lt
  have far : ∀ k, k ≠ g → (((w1.setCell ⟨g, 1, none⟩ v').setCell ⟨g, 2, none⟩ (.slice none 0 0)).setCell ⟨g, 3, none⟩ (.bool false)).heap[k]? = w1.heap[k]? := fun k hk => ((Below.heap_setCell _ _ _ _ hk).trans (Below.heap_setCell _ _ _ _ hk)).trans (Below.heap_setCell _ _ _ _ hk)
  have hne : ∀ k, v'.ownBlock = some k → k ≠ g := fun k hk => by
    rcases hn k hk with h1 | h1
    · exact h1.2
    · omega
  refine ⟨fun k => F k ∨ v'.ownBlock = some k, v', .slice none 0 0, ⟨((hb1.set_ 1 v').set_ 2 (.slice none 0 0)).set_ 3 (.bool false), ?_, OwnB.nil _ _, hne, fun k hk => (by cases hk), fun k hk hk' => (by cases hk'), .inl h.inF, fun k hk => .inr hk, fun k hk => (by cases hk), ?_, ⟨hl, Nat.zero_le _, fun _ => hl⟩, h.most⟩, ?_, ?_⟩
  · exact ho.kept (by rw [set3]; exact Nat.le_refl _) (fun k hk => far k (hne k hk))
  · intro k hk
    rw [set3]
    rcases hk with hk | hk
    · exact Nat.lt_of_lt_of_le (h.ltF k hk) hg.size
    · exact (ho.lt k hk).2
  · exact ((hg.setCell (.inl h.inF) _).setCell (.inl h.inF) _).setCell (.inl h.inF) _
  · intro k hk
    rcases hk with hk | hk
    · exact .inl hk
    · rcases hn k hk with h1 | h1
      · exact .inl h1.1
      · exact .inr h1
/-- The power is cut, and what was safe stays. -/
theorem turn_crash0 {w : World} {g : Nat} {d : Dsk.D} {F : Nat → Prop} {v1 v2 : Value} (h : DiskAt w g d F v1 v2) : Turn w ((w.setCell ⟨g, 2, none⟩ (.slice none 0 0)).setCell ⟨g, 3, none⟩ (.bool false)) g ⟨d.size, d.safe, [], false⟩ F := by
  have far : ∀ k, k ≠ g → ((w.setCell ⟨g, 2, none⟩ (.slice none 0 0)).setCell ⟨g, 3, none⟩ (.bool false)).heap[k]? = w.heap[k]? := fun k hk => (Below.heap_setCell _ _ _ _ hk).trans (Below.heap_setCell _ _ _ _ hk)
  refine ⟨F, v1, .slice none 0 0, ⟨(h.blk.set_ 2 (.slice none 0 0)).set_ 3 (.bool false), ?_, OwnB.nil _ _, h.apart1, fun k hk => (by cases hk), fun k hk hk' => (by cases hk'), h.inF, h.in1, fun k hk => (by cases hk), ?_, ⟨h.ok.1, Nat.zero_le _, fun _ => h.ok.1⟩, h.most⟩, ?_, fun k hk => .inl hk⟩
  · exact h.safe.kept (by rw [set2]; exact Nat.le_refl _) (fun k hk => far k (h.apart1 k hk))
  · intro k hk; rw [set2]; exact h.ltF k hk
  · exact ((Kept.refl F w).setCell (.inl h.inF) _).setCell (.inl h.inF) _

set_option maxHeartbeats 2000000 in
theorem crash_any {w : World} {g : Nat} {d : Dsk.D} {F : Nat → Prop} {v1 v2 : Value} (h : DiskAt w g d F v1 v2) (n : Int) :
    Calls Try.prog 20 #[.pointer (some ⟨g, 0, none⟩), .int .i64 n] w fun e w' => e = .returned (.tuple #[]) ∧ Turn w w' g (Dsk.crash d n) F := by
  have c1 := h.blk.cell 1
  have c2 := h.blk.cell 2
  have c3 := h.blk.cell 3
  have f1 := h.blk.frozen 1
  have f2 := h.blk.frozen 2
  have f3 := h.blk.frozen 3
  simp only [List.getElem?_toArray] at c1 c2 c3
  have hk0 := Dsk.keepN_le d n
  obtain ⟨m, hm⟩ : ∃ m : Nat, max n 0 = (m : Int) := ⟨(max n 0).toNat, by omega⟩
  have hkd : min m d.waits.length = Dsk.keepN d n := by unfold Dsk.keepN; omega
  have hcr : Dsk.crash d n = ⟨d.size, if d.swaps then (if Dsk.keepN d n = d.waits.length then d.waits else d.safe) else d.safe ++ d.waits.take (Dsk.keepN d n), [], false⟩ := rfl
  have hok := (Dsk.crash_ok d n h.ok).1
  rw [hcr] at hok ⊢
  obtain ⟨k, hk⟩ : ∃ k, Dsk.keepN d n = k := ⟨_, rfl⟩
  rw [hk] at hk0 hkd hcr hok ⊢
  clear hcr hk
  have hkd' : min (m : Int) (d.waits.length : Int) = (k : Int) := by omega
  have Hm := Lib.hid hm
  have Hk := Lib.hid hkd'
  clear hm hkd hkd'
  obtain ⟨i0, hi, hz0, hz1, hz2⟩ := info_parts u8info
  obtain ⟨a2, cp2, hv2⟩ := OwnB.len h.waits
  subst hv2
  obtain ⟨vc, hcut, hoc, hvc⟩ := h.waits.cutAt (P := Try.prog) k hk0 63 5 Try.underlying63 i0 hi hz1
  have hwl := h.ok.2.1
  have hms := h.most
  obtain ⟨size, safe, waits, swaps⟩ := d
  simp only at *
  cases swaps
  · -- no replacement: what stays goes behind what is safe
    simp only [Bool.false_eq_true, if_false] at *
    obtain ⟨v', w2, hr, ho, hgr, hn⟩ := run_append_bytes (P := Try.prog) 63 63 63 5 i0 Try.underlying63 hi hz0 hz1 hz2 h.safe (Nat.zero_le _) (hoc.src Try.underlying63) (by
      have : (safe ++ waits.take k).length ≤ size := hok
      rw [List.length_append] at this
      exact Nat.le_trans this (by omega))
    have hb2 : Blk w2 g 65 _ := h.blk.grown hgr (fun e => h.apart1 g e.symm rfl)
    have d1 := hb2.cell 1
    have d2 := hb2.cell 2
    have d3 := hb2.cell 3
    have e1 := hb2.frozen 1
    have e2 := hb2.frozen 2
    have e3 := hb2.frozen 3
    simp only [List.getElem?_toArray] at d1 d2 d3
    have HT := Lib.hid (turn_crash h hok (Kept.of_grown hgr (fun i e => h.in1 i e)) hb2 ho (fun j hj => by
      rcases hn j hj with h1 | h1
      · exact .inl ⟨h.in1 j h1, h.apart1 j h1⟩
      · exact .inr h1))
    have hforms := OwnB.forms ho
    have HL := Lib.hid (show (safe ++ waits.take k).length = (safe ++ waits.take k).length from rfl)
    obtain ⟨L, hL⟩ : ∃ L, (safe ++ waits.take k).length = L := ⟨_, rfl⟩
    rw [hL] at hforms
    clear hb2 hn hgr ho hok hi hz0 hz1 hz2 h hoc hvc hwl hms HL hL
    rcases hforms with rfl | ⟨g', cap, rfl⟩
    · go_enter Try.func20, Try.ntmps20
      go_wp2_with (first | (refine wpList_max_eq rfl (.tmp 7) (.const (.int .i64 0)) _ _ rfl n 0 m rfl rfl Hm.out ?_) | (refine wpList_min_eq rfl (.tmp 8) (.tmp 13) _ _ rfl m waits.length k rfl rfl Hk.out ?_) | (at_builtin; refine wpList_append_eq rfl (.tmp 32) (.tmp 33) _ _ rfl v1 vc rfl rfl hr ?_) | (refine wpList_slice_eq rfl (.tmp 18) (.tmp 19) (.tmp 20) _ _ Try.underlying63 rfl (.slice a2 waits.length cp2) (.int .i64 k) (.int .i64 k) rfl rfl rfl (hcut _) ?_))
      go_end0
      exact ⟨rfl, HT.out⟩
    · go_enter Try.func20, Try.ntmps20
      go_wp2_with (first | (refine wpList_max_eq rfl (.tmp 7) (.const (.int .i64 0)) _ _ rfl n 0 m rfl rfl Hm.out ?_) | (refine wpList_min_eq rfl (.tmp 8) (.tmp 13) _ _ rfl m waits.length k rfl rfl Hk.out ?_) | (at_builtin; refine wpList_append_eq rfl (.tmp 32) (.tmp 33) _ _ rfl v1 vc rfl rfl hr ?_) | (refine wpList_slice_eq rfl (.tmp 18) (.tmp 19) (.tmp 20) _ _ Try.underlying63 rfl (.slice a2 waits.length cp2) (.int .i64 k) (.int .i64 k) rfl rfl rfl (hcut _) ?_))
      go_end0
      exact ⟨rfl, HT.out⟩
  · simp only [if_true] at *
    by_cases he : k = waits.length
    · subst he
      have ho : OwnB w 0 vc waits := by have := hoc; rwa [List.take_of_length_le (Nat.le_refl _)] at this
      have HT := Lib.hid (turn_crash h (l := waits) hwl (Kept.refl _ _) h.blk ho (fun j hj => .inl ⟨h.in2 j (hvc j hj), h.apart2 j (hvc j hj)⟩))
      rw [if_pos rfl]
      have hforms := OwnB.forms ho
      clear ho hok hi hz0 hz1 hz2 h hoc hvc hwl hms
      have tb : ((waits.length : Int) == (waits.length : Int)) = true := by simp
      rcases hforms with rfl | ⟨g', cap, rfl⟩
      · go_enter Try.func20, Try.ntmps20
        go_wp2_with (first | (refine wpList_max_eq rfl (.tmp 7) (.const (.int .i64 0)) _ _ rfl n 0 m rfl rfl Hm.out ?_) | (refine wpList_min_eq rfl (.tmp 8) (.tmp 13) _ _ rfl m waits.length waits.length rfl rfl Hk.out ?_) | (refine wpList_slice_eq rfl (.tmp 18) (.tmp 19) (.tmp 20) _ _ Try.underlying63 rfl (.slice a2 waits.length cp2) (.int .i64 waits.length) (.int .i64 waits.length) rfl rfl rfl (hcut _) ?_))
        go_end0
        exact ⟨rfl, HT.out⟩
      · go_enter Try.func20, Try.ntmps20
        go_wp2_with (first | (refine wpList_max_eq rfl (.tmp 7) (.const (.int .i64 0)) _ _ rfl n 0 m rfl rfl Hm.out ?_) | (refine wpList_min_eq rfl (.tmp 8) (.tmp 13) _ _ rfl m waits.length waits.length rfl rfl Hk.out ?_) | (refine wpList_slice_eq rfl (.tmp 18) (.tmp 19) (.tmp 20) _ _ Try.underlying63 rfl (.slice a2 waits.length cp2) (.int .i64 waits.length) (.int .i64 waits.length) rfl rfl rfl (hcut _) ?_))
        go_end0
        exact ⟨rfl, HT.out⟩
    · rw [if_neg he]
      have HT := Lib.hid (turn_crash0 h)
      have tb : ((k : Int) == (waits.length : Int)) = false := by simp; omega
      clear hok hi hz0 hz1 hz2 h hoc hvc hwl hms he
      go_enter Try.func20, Try.ntmps20
      go_wp2_with (first | (refine wpList_max_eq rfl (.tmp 7) (.const (.int .i64 0)) _ _ rfl n 0 m rfl rfl Hm.out ?_) | (refine wpList_min_eq rfl (.tmp 8) (.tmp 13) _ _ rfl m waits.length k rfl rfl Hk.out ?_) | (refine wpList_slice_eq rfl (.tmp 18) (.tmp 19) (.tmp 20) _ _ Try.underlying63 rfl (.slice a2 waits.length cp2) (.int .i64 k) (.int .i64 k) rfl rfl rfl (hcut _) ?_))
      go_end0
      exact ⟨rfl, HT.out⟩

set_option maxHeartbeats 400000 in
theorem sync_any {w : World} {g : Nat} {d : Dsk.D} {F : Nat → Prop} {v1 v2 : Value} (h : DiskAt w g d F v1 v2) :
    Calls Try.prog 18 #[.pointer (some ⟨g, 0, none⟩)] w fun e w' => e = .returned (.tuple #[]) ∧ Turn w w' g (Dsk.sync d) F := by
  have hc := Lib.hid (crash_any h (d.waits.length : Int))
  have hw := Lib.hid (waiting_any h)
  have HT := Lib.hid (show Dsk.sync d = Dsk.crash d (d.waits.length : Int) from rfl)
  clear h
  go_enter Try.func18, Try.ntmps18
  go_wp2_with fail
  refine (hw.out).mono ?_
  rintro e w1 ⟨rfl, rfl⟩
  go_wp2_with fail
  refine (hc.out).mono ?_
  rintro e w1 ⟨rfl, ht⟩
  rw [← HT.out] at ht
  have Ht := Lib.hid ht
  clear ht
  go_wp2
  go_end0
  exact ⟨rfl, Ht.out⟩
end Go.Proofs.Ytkdbehfmmmlmjaa.DiskW
