/-
  Chapter 5: what was safe stays.
-/
import Derived.Test.YtkdbehfmmmlmjaaDiskDo
set_option linter.unusedVariables false
set_option linter.unusedSimpArgs false
namespace Go.Proofs.Ytkdbehfmmmlmjaa.DiskW
open Go.RowKit Go.Proofs.Ytkdbehfmmmlmjaa.L

/-- A new reference beside the disk. -/
theorem own_beside {B : Nat} {w : World} {g : Nat} {d : Dsk.D} (o : Own B Nothing w g d) (ob : Obj) : Own B (fun k => k = w.heap.size) (w.alloc ob) g d := by
  obtain ⟨F, v1, v2, hd, hF⟩ := o
  exact ⟨F, v1, v2, hd.kept (G := fun _ => False) ((Kept.refl _ _).alloc _) (fun _ _ h => h), fun k hk => ⟨(hF k hk).1, fun e => by have := hd.ltF k hk; omega⟩⟩
theorem ref_zero (w : World) : RefAt (w.alloc (.cells #[.int .i64 0, .string ByteArray.empty, .string ByteArray.empty, .bool false] 33)) w.heap.size ⟨0, [], [], false⟩ :=
  ⟨Blk.new _ _ _, ⟨Nat.le_refl _, Nat.le_refl _, fun _ => Nat.le_refl _⟩, by decide⟩
theorem own_alone {B : Nat} {L : Nat → Prop} {w : World} {g : Nat} {d : Dsk.D} (o : Own B L w g d) : Own B Nothing w g d := by
  obtain ⟨F, v1, v2, hd, hF⟩ := o
  exact ⟨F, v1, v2, hd, fun k hk => ⟨(hF k hk).1, fun h => h⟩⟩

/-- A deed with the disk and a new reference, in whatever world. -/
theorem do_zero {w : World} {B : Nat} {g : Nat} {d : Dsk.D} (o : Own B Nothing w g d) (hB : B ≤ w.heap.size) (kind n : Int) (s : ByteArray) (hs : s.size ≤ maxLen) :
    Calls Try.prog 16 #[.pointer (some ⟨g, 0, none⟩), .pointer (some ⟨w.heap.size, 0, none⟩), .agg #[.int .i64 kind, .int .i64 n, .string s]]
      (w.alloc (.cells #[.int .i64 0, .string ByteArray.empty, .string ByteArray.empty, .bool false] 33))
      fun e w' => (∃ v : Int, e = .returned (.int .i64 v)) ∧ Own B Nothing w' g (Dsk.deed d kind n s.data.toList) ∧ Below B w w' := by
  refine (do_any (own_beside o _) (ref_zero w) rfl (fun k hk => by subst hk; simp) (by simp; omega) kind n s hs).mono ?_
  rintro e w' ⟨hv, ho, _, hk⟩
  exact ⟨hv, own_alone ho, ((Below.refl _ _).alloc hB _).trans (hk.below (by simp; omega) (fun i hi => by
    rcases hi with rfl | hi
    · exact hB
    · exact hi.1))⟩

theorem prefix_extract {a b : List UInt8} (h : a <+: b) : (str b).extract 0 (str a).size = str a ∧ (str a).size ≤ (str b).size := by
  obtain ⟨c, rfl⟩ := h
  refine ⟨?_, by rw [str_size, str_size, List.length_append]; omega⟩
  rw [extract_eq, str_toList, str_size]
  simp

set_option maxRecDepth 100000 in
set_option maxHeartbeats 4000000 in
theorem safe_law {w : World} {A : Option Addr} {cap : Nat} {xs : List Deed} (hl : xs.length ≤ maxLen) (hr : RowOf w A 3 Deed.dec xs) (hs : ∀ x ∈ xs, x.s.size ≤ 140737488351232) :
    Calls Try.prog 3 #[.slice A xs.length cap] w fun e w' => e = .returned (.bool true) ∧ Below w.heap.size w w' := by
  have hf := fun w' (hb : Below w.heap.size w w') => few_any (cap := cap) hl (hr.below hb) hs
  obtain ⟨bf, hbf⟩ : ∃ b, few xs = b := ⟨_, rfl⟩
  rw [hbf] at hf
  have HBF := Lib.hid hbf
  have Hf := Lib.hid hf
  have Hr := Lib.hid hr
  obtain ⟨N, hN⟩ : ∃ N, xs.length = N := ⟨_, rfl⟩
  have HN := Lib.hid hN
  rw [hN] at hl Hf ⊢
  clear hf hbf hr hs hN
  unfold maxLen at hl
  go_enter Try.func3, Try.ntmps3
  go_wp2_with fail
  refine (new_any 1048576 _).mono ?_
  rintro e w1 ⟨rfl, hw1⟩
  have hn : (((Dsk.new 1048576).size : Nat) : Int) = ((1048576 : Nat) : Int) := by decide +kernel
  rw [hn] at hw1
  have o1 : Own w.heap.size Nothing w1 w.heap.size ⟨1048576, [], [], false⟩ := by rw [hw1]; exact own_new 1048576 (by omega) (Nat.le_refl _) (live_nothing _)
  have k1 : Below w.heap.size w w1 := by rw [hw1]; exact (Below.refl _ _).alloc (Nat.le_refl _) _
  clear hw1 hn
  cases bf
  · go_wp2_with fail
    refine (Hf.out _ k1).mono ?_
    rintro e wq ⟨rfl, rfl⟩
    go_wp2_with fail
    refine (awake05 _).mono ?_
    rintro e w2 ⟨rfl, hb2⟩
    have hbw := k1.trans (hb2.mono k1.size)
    clear hb2
    go_wp2
    go_ret
    exact ⟨rfl, hbw⟩
  have hfl := few_len HBF.out
  have hlN : N < 20000 := by have := HN.out; omega
  have Hfl := Lib.hid hfl
  clear hl hfl
  go_wp2_with fail
  refine (Hf.out _ k1).mono ?_
  rintro e wq ⟨rfl, rfl⟩
  clear Hf HBF
  go_wp2_with fail
  go_loopw [4] (fun i wr => ∃ (k : Nat) (d : Dsk.D), k ≤ N ∧ i = .int .i64 (k : Int) ∧ Own w.heap.size Nothing wr w.heap.size d ∧ d.swaps = false ∧ Below w.heap.size w wr) (fun i _ => N - (intOf i).toNat)
  case atStart => exact ⟨0, _, by omega, rfl, o1, rfl, k1⟩
  case round =>
    obtain ⟨k, d, hk, rfl, ok, hsw, bk⟩ := hrel
    have Hsw := Lib.hid hsw
    clear o1 k1 hsw
    by_cases hk1 : k < N ∧ k < 100
    · obtain ⟨hkN, hk100⟩ := hk1
      have hkx : k < xs.length := by have := HN.out; omega
      obtain ⟨b, o, rfl, hlt, hc⟩ := (Hr.out.below bk) (by intro e; subst e; simp at hkx)
      have hx := List.getElem?_eq_getElem hkx
      have c0 := hc k xs[k] hx 0 (.int .i64 xs[k].kind) rfl
      have c1 := hc k xs[k] hx 1 (.int .i64 xs[k].n) rfl
      have c2 := hc k xs[k] hx 2 (.string xs[k].s) rfl
      have hz := Hfl.out.2 xs[k] (List.getElem_mem hkx)
      obtain ⟨kind, hkind⟩ : ∃ z, xs[k].kind = z := ⟨_, rfl⟩
      obtain ⟨n, hnn⟩ : ∃ z, xs[k].n = z := ⟨_, rfl⟩
      obtain ⟨s, hss⟩ : ∃ z, xs[k].s = z := ⟨_, rfl⟩
      rw [hkind] at c0
      rw [hnn] at c1
      rw [hss] at c2 hz
      rw [Nat.add_zero] at c0
      clear hc hx hkind hnn hss hkx
      go_wp2_with fail
      refine (content_own ok).mono ?_
      rintro e wq ⟨rfl, rfl⟩
      by_cases hk2 : kind = 2
      · subst hk2
        clear c1 c2
        go_wp2_with fail
        go_roundw
        case rel => exact ⟨k + 1, d, by omega, by go_num, ok, Hsw.out, bk⟩
        case measure => simp [intOf]; omega
      · have t2 : (kind == 2) = false := by simpa using hk2
        obtain ⟨p1, p2⟩ := Dsk.deed_safe d kind n s.data.toList Hsw.out hk2
        obtain ⟨q1, q2⟩ := prefix_extract p2
        have P1 := Lib.hid p1
        have hdo := Lib.hid (do_zero ok bk.size kind n s (by unfold maxLen; omega))
        clear p1 p2 hk2 ok
        generalize Dsk.deed d kind n s.data.toList = d' at *
        obtain ⟨S1, hS1⟩ : ∃ S, str d.safe = S := ⟨_, rfl⟩
        rw [hS1] at q1 q2 ⊢
        clear hS1
        go_wp2_with fail
        refine (hdo.out).mono ?_
        rintro e w2 ⟨⟨v, rfl⟩, o2, k2⟩
        have b2 := bk.trans k2
        clear bk k2 hdo c0 c1 c2
        have hcont := Lib.hid (content_own o2)
        obtain ⟨S2, hS2⟩ : ∃ S, str d'.safe = S := ⟨_, rfl⟩
        rw [hS2] at q1 q2 hcont
        clear hS2
        go_wp2_with fail
        refine (hcont.out).mono ?_
        rintro e wq ⟨rfl, rfl⟩
        go_wp2_with fail
        go_roundw
        case rel => exact ⟨k + 1, d', by omega, by go_num, o2, P1.out, b2⟩
        case measure => simp [intOf]; omega
    · by_cases hkN : k < N
      · have h100 : ¬ k < 100 := fun h => hk1 ⟨hkN, h⟩
        clear hk1
        go_wp2_with fail
        refine (awake05 _).mono ?_
        rintro e w2 ⟨rfl, hb2⟩
        have hbw := bk.trans (hb2.mono bk.size)
        clear hb2
        go_wp2
        go_ret
        exact ⟨rfl, hbw⟩
      · clear hk1
        go_wp2_with fail
        refine (awake05 _).mono ?_
        rintro e w2 ⟨rfl, hb2⟩
        have hbw := bk.trans (hb2.mono bk.size)
        clear hb2
        go_wp2
        go_ret
        exact ⟨rfl, hbw⟩
end Go.Proofs.Ytkdbehfmmmlmjaa.DiskW
