/-
  The disk of the program: the contracts of what turns it.
-/
import Derived.Test.YtkdbehfmmmlmjaaDiskWalk
set_option linter.unusedVariables false
set_option linter.unusedSimpArgs false
namespace Go.Proofs.Ytkdbehfmmmlmjaa.DiskW
open Go.RowKit Go.Proofs.Ytkdbehfmmmlmjaa.L

theorem u8info : (Try.prog.info? 5).map (fun i => (i.zero, i.size, i.bytes)) = some (some (.int .u8 0), 1, 1) := by kernel_rfl

/-- A slice of bytes that is owned, in one of its two forms. -/
theorem OwnB.forms {w : World} {v : Value} {l : List UInt8} (h : OwnB w 0 v l) : v = .slice none 0 0 ∨ ∃ g cap, v = .slice (some ⟨g, 0, none⟩) l.length cap := by
  rcases h with ⟨rfl, rfl⟩ | ⟨g, cap, rfl, _⟩
  · exact .inl rfl
  · exact .inr ⟨g, cap, rfl⟩

theorem Turn.of_drew {w w' w1 : World} {g : Nat} {d' : Dsk.D} {F : Nat → Prop} {n : Nat} (e : w1 = w.drewN n) (h : Turn w1 w' g d' F) : Turn w w' g d' F := by
  subst e
  obtain ⟨F', v1, v2, hd, hk, hf⟩ := h
  exact ⟨F', v1, v2, hd, ((Kept.refl F w).drewN n).trans hk, hf⟩

/-- The disk when its waiting bytes have turned to others. -/
theorem turn_waits {w w1 : World} {g : Nat} {d d' : Dsk.D} {F : Nat → Prop} {v1 v2 v' : Value} (h : DiskAt w g d F v1 v2) (hsz : d'.size = d.size) (hsf : d'.safe = d.safe) (hok : Dsk.Ok d')
    (ho : OwnB w1 0 v' d'.waits) (hg : Kept F w w1) (hblk : Blk w1 g 65 #[.int .i64 (d.size : Int), v1, v2, .bool d.swaps]) (hs : OwnB w1 0 v1 d.safe)
    (hn : ∀ k, v'.ownBlock = some k → (v2.ownBlock = some k ∨ w.heap.size ≤ k) ∧ k < w1.heap.size) (w2 : World) (hw2 : w2.heap.size = w1.heap.size) (hfar : ∀ k, k ≠ g → w2.heap[k]? = w1.heap[k]?)
    (hb2 : Blk w2 g 65 #[.int .i64 (d.size : Int), v1, v', .bool d'.swaps]) (hk2 : Kept F w w2) : Turn w w2 g d' F := by
  have hlt := h.blk.lt
  refine ⟨fun k => F k ∨ (v'.ownBlock = some k), v1, v', ⟨by rw [hsz]; exact hb2, ?_, ?_, h.apart1, ?_, ?_, .inl h.inF, fun k hk => .inl (h.in1 k hk), fun k hk => .inr hk, ?_, hok, by rw [hsz]; exact h.most⟩, hk2, ?_⟩
  · rw [hsf]; exact hs.kept (by omega) (fun k hk => hfar k (h.apart1 k hk))
  · exact ho.kept (by omega) (fun k hk => hfar k (by
      rcases (hn k hk).1 with h1 | h1
      · exact h.apart2 k h1
      · omega))
  · intro k hk
    rcases (hn k hk).1 with h1 | h1
    · exact h.apart2 k h1
    · omega
  · intro k hk hk'
    rcases (hn k hk').1 with h1 | h1
    · exact h.apart k hk h1
    · have := (h.safe.lt k hk).2; omega
  · intro k hk
    rcases hk with hk | hk
    · have := h.ltF k hk; have := hk2.size; omega
    · have := (hn k hk).2; omega
  · intro k hk
    rcases hk with hk | hk
    · exact .inl hk
    · rcases (hn k hk).1 with h1 | h1
      · exact .inl (h.in2 k h1)
      · exact .inr h1

set_option maxHeartbeats 1000000 in
theorem write_any {w : World} {g : Nat} {d : Dsk.D} {F : Nat → Prop} {v1 v2 : Value} (h : DiskAt w g d F v1 v2) (s : ByteArray) (hs : s.size ≤ maxLen) :
    Calls Try.prog 17 #[.pointer (some ⟨g, 0, none⟩), .string s] w fun e w' => e = .returned (.int .i64 (Dsk.writeErr d s.data.toList)) ∧ Turn w w' g (Dsk.write d s.data.toList) F := by
  unfold maxLen at hs
  have hl : s.data.toList.length = s.size := by simp
  by_cases hc : Dsk.canWrite d s.data.toList = true
  · have hle : (s.size : Int) ≤ Dsk.free d := by unfold Dsk.canWrite at hc; rw [hl] at hc; simpa using hc
    have he := Lib.hid (show Dsk.writeErr d s.data.toList = 0 by unfold Dsk.writeErr; rw [if_pos hc])
    have hwr : Dsk.write d s.data.toList = { d with waits := d.waits ++ s.data.toList } := by unfold Dsk.write; rw [if_pos hc]
    have hok := Dsk.write_ok d s.data.toList h.ok
    rw [hwr] at hok ⊢
    have hlen : d.waits.length + s.data.toList.length ≤ 1048576 := by
      have h1 : (d.waits ++ s.data.toList).length ≤ d.size := hok.2.1
      have h2 := h.most
      rw [List.length_append] at h1
      omega
    clear hc hwr
    go_enter Try.func17, Try.ntmps17
    go_wp2_with fail
    refine (free_any h).mono ?_
    rintro e w1 ⟨rfl, n, hw1⟩
    have h1 : DiskAt w1 g d F v1 v2 := h.kept (Kept.drew_of (F := fun _ => False) hw1) (fun _ _ h => h)
    have HW := Lib.hid hw1
    clear h hw1
    have c2 := h1.blk.cell 2
    have f2 := h1.blk.frozen 2
    obtain ⟨i0, hi, hz0, hz1, hz2⟩ := info_parts u8info
    obtain ⟨v', w2, hr, ho, hgr, hn⟩ := run_append_bytes (P := Try.prog) 63 9 63 5 i0 Try.underlying63 hi hz0 hz1 hz2 h1.waits (Nat.zero_le _) (src_string (P := Try.prog) (w := w1) Try.underlying9 s) (by omega)
    have hgap : some g ≠ v2.ownBlock := fun e => h1.apart2 g e.symm rfl
    have hb2 := h1.blk.grown hgr hgap
    have c2' := hb2.cell 2
    have f2' := hb2.frozen 2
    have hs2 := h1.safe.kept hgr.size (fun k hk => hgr.block k (h1.safe.lt k hk).2 (fun e => h1.apart k hk e.symm))
    have hk2 : Kept F w1 w2 := Kept.of_grown hgr (fun i e => h1.in2 i e)
    have hfin : Turn w1 (w2.setCell ⟨g, 2, none⟩ v') g { d with waits := d.waits ++ s.data.toList } F :=
      turn_waits (d' := { d with waits := d.waits ++ s.data.toList }) h1 rfl rfl hok ho hk2 hb2 hs2 (fun k hk => ⟨hn k hk, (ho.lt k hk).2⟩) _ (by simp [World.setCell]) (fun k hk => Below.heap_setCell _ _ _ _ hk) (hb2.set_ 2 v') (hk2.setCell (.inl h1.inF) v')
    have hfin' := Turn.of_drew HW.out hfin
    have HT := Lib.hid hfin'
    have hforms := OwnB.forms ho
    simp only [List.getElem?_toArray] at c2 c2'
    clear hfin hfin' hk2 hs2 hb2 hgap hn hgr ho hok hlen hi hz0 hz1 hz2 h1 HW
    have HL := Lib.hid hl
    clear hl
    rcases hforms with rfl | ⟨g', cap, rfl⟩
    · go_wp2_with (at_builtin; refine wpList_append_eq rfl (.tmp 18) (.tmp 19) _ _ rfl v2 (.string s) rfl rfl hr ?_)
      go_ret
      exact ⟨ret_int he.out.symm, HT.out⟩
    · go_wp2_with (at_builtin; refine wpList_append_eq rfl (.tmp 18) (.tmp 19) _ _ rfl v2 (.string s) rfl rfl hr ?_)
      go_ret
      have ht := HT.out
      rw [List.length_append, HL.out] at ht
      exact ⟨ret_int he.out.symm, ht⟩
  · have hle : ¬ (s.size : Int) ≤ Dsk.free d := by
      unfold Dsk.canWrite at hc; rw [hl] at hc; simpa using hc
    have he := Lib.hid (show Dsk.writeErr d s.data.toList = 9 by unfold Dsk.writeErr; rw [if_neg hc])
    have hwr : Dsk.write d s.data.toList = d := by unfold Dsk.write; rw [if_neg hc]
    rw [hwr]
    have hfr := fun w => @free_any w g d F v1 v2
    clear hc hwr hl
    go_enter Try.func17, Try.ntmps17
    go_wp2_with fail
    refine (free_any h).mono ?_
    rintro e w1 ⟨rfl, n, hw1⟩
    have HT := Lib.hid (Turn.of_drew (F := F) (g := g) (d' := d) hw1 ⟨F, v1, v2, h.kept (Kept.drew_of (F := fun _ => False) hw1) (fun _ _ h => h), Kept.refl _ _, fun k hk => .inl hk⟩)
    clear h hw1
    go_wp2
    go_ret
    exact ⟨ret_int he.out.symm, HT.out⟩
end Go.Proofs.Ytkdbehfmmmlmjaa.DiskW
