/-
  Chapter 6: a disk with any content: the walk.
-/
import Derived.Test.YtkdbehfmmmlmjaaJouPlays
set_option linter.unusedVariables false
set_option linter.unusedSimpArgs false
namespace Go.Proofs.Ytkdbehfmmmlmjaa.JouW
open Go.RowKit Go.Proofs.Ytkdbehfmmmlmjaa.L Go.Proofs.Ytkdbehfmmmlmjaa.CrcW Go.Proofs.Ytkdbehfmmmlmjaa.DiskW

theorem first_bytes (m : Nat) (sl : List UInt8) : Dsk.sync (Dsk.write (Jou.clean m []) sl) = Jou.clean m (if sl.length ≤ m then sl else []) := by
  by_cases h : sl.length ≤ m
  · rw [if_pos h, Jou.sync_write m [] sl (by simpa using h)]; rfl
  · rw [if_neg h]
    have e : Dsk.canWrite (Jou.clean m []) sl ≠ true := by rw [Jou.clean_can]; simpa using h
    unfold Dsk.write
    rw [if_neg e]
    simp [Dsk.sync, Dsk.crash, Dsk.keepN, Jou.clean]

set_option maxRecDepth 100000 in
set_option maxHeartbeats 8000000 in
theorem plays_law {w : World} (size : Int) (s : ByteArray) (hss : s.size ≤ maxLen) {A : Option Addr} {ca : Nat} {xs : List (List UInt8)} (hl : xs.length ≤ maxLen) (hr : RowOf w A 1 sdec xs) (hs : ∀ x ∈ xs, x.length ≤ 140737488351232) :
    Calls Try.prog 10 #[.int .i64 size, .string s, .slice A xs.length ca] w fun e w' => e = .returned (.bool true) ∧ Below w.heap.size w w' := by
  have hf1 := Lib.hid (few_any (cap := ca) hl hr hs)
  have HR1 := Lib.hid hr
  have HSS := Lib.hid hss
  unfold maxLen at hss
  obtain ⟨N, hN⟩ : ∃ N, xs.length = N := ⟨_, rfl⟩
  obtain ⟨b1, hb1⟩ : ∃ b, few xs = b := ⟨_, rfl⟩
  have HN := Lib.hid hN
  have HB1 := Lib.hid hb1
  rw [hN, hb1] at hf1
  rw [hN]
  clear hl hr hs hN hb1
  go_enter Try.func10, Try.ntmps10
  by_cases hbig : 60000 < s.size
  · go_wp2_with fail
    refine (awake06 _).mono ?_
    rintro e w2 ⟨rfl, hb⟩
    go_wp2
    go_ret
    exact ⟨rfl, hb⟩
  cases b1
  · go_wp2_with fail
    refine (hf1.out).mono ?_
    rintro e wq ⟨rfl, rfl⟩
    go_wp2_with fail
    refine (awake06 _).mono ?_
    rintro e w2 ⟨rfl, hb⟩
    go_wp2
    go_ret
    exact ⟨rfl, hb⟩
  have hN60 : N ≤ 60 := by rw [← HN.out]; exact (few_len HB1.out).1
  go_wp2_with fail
  refine (hf1.out).mono ?_
  rintro e wq ⟨rfl, rfl⟩
  clear hf1
  obtain ⟨m, hm⟩ : ∃ m, (Dsk.new size).size = m := ⟨_, rfl⟩
  have hm1 : m ≤ 1048576 := by rw [← hm]; unfold Dsk.new; simp only; omega
  have HM := Lib.hid hm
  clear hm
  obtain ⟨sl, hsl⟩ : ∃ sl, s = str sl := ⟨_, str_of s⟩
  have hslen : sl.length ≤ 60000 := by rw [hsl, str_size] at hbig; omega
  have HSL := Lib.hid hsl
  clear hsl
  go_wp2_with fail
  refine (new_any _ _).mono ?_
  rintro e w1 ⟨rfl, hw1⟩
  rw [HM.out] at hw1
  have o1 : Own w.heap.size (fun k => k = w1.heap.size) w1 w.heap.size (Jou.clean m []) := by
    have := own_new (L := fun _ => False) m hm1 (Nat.le_refl w.heap.size) (fun _ h => h.elim)
    rw [hw1]
    exact own_more this (G := fun _ => False) (Kept.refl _ _) (fun _ h => h.elim) (fun i hi => .inr (by omega))
  have k1 : Below w.heap.size w w1 := by rw [hw1]; exact (Below.refl _ _).alloc (Nat.le_refl _) _
  have hz1 : w1.heap.size = w.heap.size + 1 := by rw [hw1]; simp
  clear hw1
  go_wp2_with fail
  refine (rnew_any _ _).mono ?_
  rintro e w2 ⟨rfl, hw2⟩
  rw [HM.out] at hw2
  obtain ⟨h, hh⟩ : ∃ h, w1.heap.size = h := ⟨_, rfl⟩
  rw [hh] at o1 ⊢
  have r2 : RefAt w2 h (Jou.clean m []) := by rw [hw2, ← hh]; exact ⟨Blk.new _ _ _, ⟨Nat.zero_le _, Nat.zero_le _, fun _ => Nat.zero_le _⟩, hm1⟩
  have b12 : Below w1.heap.size w1 w2 := by rw [hw2]; exact (Below.refl _ _).alloc (Nat.le_refl _) _
  have o2 := o1.below b12
  have k2 : Below w.heap.size w w2 := k1.trans (b12.mono k1.size)
  have hlowh : w.heap.size ≤ h := by omega
  have hL2 : Live (fun k => k = h) w2 := fun k hk => by subst hk; exact r2.blk.lt
  have hwr := write_own o2 k2.size hL2 s HSS.out
  have Hwr := Lib.hid hwr
  clear hw2 o1 k1 b12 o2 hwr hh hz1
  go_wp2_with fail
  refine (Hwr.out).mono ?_
  rintro e w3 ⟨rfl, o3, t3⟩
  have r3 := r2.kept t3 (fun hr => hr.2 rfl)
  have k3 : Below w.heap.size w w3 := k2.trans (t3.below k2.size (fun _ hr => hr.1))
  have hL3 := hL2.kept t3.size
  have Hrw := Lib.hid (rwrite_any r3 s HSS.out)
  clear Hwr r2 t3 k2 r3 hL2
  have Hfb := Lib.hid (show Dsk.sync (Dsk.write (Jou.clean m []) s.data.toList) = Jou.clean m (if sl.length ≤ m then sl else []) by rw [HSL.out, str_toList]; exact first_bytes m sl)
  obtain ⟨l0, hl0⟩ : ∃ l0, (if sl.length ≤ m then sl else []) = l0 := ⟨_, rfl⟩
  have hl0n : l0.length ≤ 60000 := by
    rw [← hl0]
    split
    · omega
    · simp
  rw [hl0] at Hfb
  clear hl0
  go_wp2_with fail
  refine (Hrw.out).mono ?_
  rintro e w4 ⟨rfl, r4, t4⟩
  have o4 := o3.kept t4 (fun i hi => .inl hi)
  have k4 : Below w.heap.size w w4 := k3.trans (t4.below k3.size (fun i hi => by subst hi; exact hlowh))
  have hL4 := hL3.kept t4.size
  have Hsy := Lib.hid (sync_own o4 k4.size hL4)
  clear Hrw o3 t4 k3 o4 hL3
  go_wp2_with fail
  refine (Hsy.out).mono ?_
  rintro e w5 ⟨rfl, o5, t5⟩
  rw [Hfb.out] at o5
  have r5 := r4.kept t5 (fun hr => hr.2 rfl)
  have k5 : Below w.heap.size w w5 := k4.trans (t5.below k4.size (fun _ hr => hr.1))
  have hL5 := hL4.kept t5.size
  have Hrs := Lib.hid (rsync_any r5)
  clear Hsy r4 t5 k4 r5 hL4
  go_wp2_with fail
  refine (Hrs.out).mono ?_
  rintro e w6 ⟨rfl, r6, t6⟩
  rw [Hfb.out] at r6
  have o6 := o5.kept t6 (fun i hi => .inl hi)
  have k6 : Below w.heap.size w w6 := k5.trans (t6.below k5.size (fun i hi => by subst hi; exact hlowh))
  have hL6 := hL5.kept t6.size
  have Hop := Lib.hid (open_own o6 k6.size hL6)
  clear Hrs o5 t6 k5 o6 hL5 Hfb
  have hcnt := Jou.scan_count l0
  have hsle := Jou.scan_le l0
  obtain ⟨rs, hrs⟩ : ∃ rs, (Jou.scan l0).1 = rs := ⟨_, rfl⟩
  obtain ⟨l1, hl1⟩ : ∃ l1, Jou.opened l0 = l1 := ⟨_, rfl⟩
  rw [hrs] at hcnt
  have hrsn : rs.length ≤ 60000 := by omega
  have HRS := Lib.hid hrs
  have HL1 := Lib.hid hl1
  clear hcnt hsle hrs hl1
  go_wp2_with fail
  refine (Hop.out).mono ?_
  rintro e w7 h7
  obtain ⟨A7, c7, j, rfl, hr7, hj7, o7, t7⟩ := OpenEnd.at h7 HRS.out HL1.out
  have r7 := r6.kept t7 (fun hr => hr.2 rfl)
  have k7 : Below w.heap.size w w7 := k6.trans (t7.below k6.size (fun _ hr => hr.1))
  have h6 : h < w6.heap.size := r6.blk.lt
  have Hro := Lib.hid (ropen_any r7)
  clear Hop h7 r6 t7 k6 hL6 r7 hj7
  go_wp2_with fail
  refine (Hro.out).mono ?_
  rintro e w8 ⟨v8, b, rfl, hr8, hne8, hb8, r8, t8⟩
  rw [HRS.out] at hr8 r8
  rw [HL1.out] at r8
  obtain ⟨A8, c8, rfl, _⟩ := hr8.form
  rw [show (rs.map vs).length = rs.length by simp] at hr8 ⊢
  have hr7' : Recs w8 w6.heap.size (.slice A7 rs.length c7) rs := hr7.kept (fun k hk => t8.block k (hr7.lt k hk).2 (fun e => by have := (hr7.lt k hk).1; omega))
  have hp : PSt w w8 w.heap.size h j b m l1 l1 rs.length rs.length :=
    ⟨o7.more t8 (fun i hi => .inl (.inl hi)) (fun i hi => by
      rcases hi with hi | hi
      · exact .inl (.inl hi)
      · right; omega), r8, k7.trans (t8.below k7.size (fun i hi => by subst hi; exact hlowh)), Nat.le_trans k7.size hb8, hlowh⟩
  have gS : ∀ W, Onward w8 W → Calls Try.prog 26 #[.slice A7 rs.length c7, .slice A8 rs.length c8] W fun e W' => e = .returned (.bool true) ∧ Onward w8 W' := fun W hW =>
    (same_yes (hr7'.below hW) (hr8.below hW) (by omega)).mono fun e W' ⟨h1, mm, h2⟩ => ⟨h1, hW.after (drewN_of h2)⟩
  have gC : ∀ W, Onward w8 W → Calls Try.prog 15 #[.pointer (some ⟨w.heap.size, 0, none⟩)] W fun e W' => e = .returned (.string (str l1)) ∧ Onward w8 W' := fun W hW =>
    (pst_con (hp.on hW)).mono fun e W' ⟨h1, h2⟩ => ⟨h1, h2 ▸ hW⟩
  have cS : ∀ W, Onward w8 W → W.cell? ⟨h, 1, none⟩ = some (.string (str l1)) := fun W hW => pst_safe (hp.on hW)
  have HP := Lib.hid hp
  clear Hro o7 k7 h6 hr8 hne8 hb8 r8 t8 hr7 hr7' hp
  go_wp2_with fail
  refine region_keep (by kernel_rfl) (by kernel_rfl) ?_
  repeat (apply Go.Proofs.Ytkdbehfmmmlmjaa.L.wpKeep_yes; (focus rfl); (focus (intro W hW; go_simp; first | done | exact ⟨rfl, hW⟩ | rfl)); (focus (go_simp; first | done | rfl)))
  (apply Go.Proofs.Ytkdbehfmmmlmjaa.L.wpKeep_yes; (focus rfl); (focus (intro W hW; go_simp; first | exact gS W hW | exact ⟨hW, gS W hW⟩)); (focus (go_simp; first | done | rfl)))
  repeat (apply Go.Proofs.Ytkdbehfmmmlmjaa.L.wpKeep_yes; (focus rfl); (focus (intro W hW; go_simp; first | done | exact ⟨rfl, hW⟩ | rfl)); (focus (go_simp; first | done | rfl)))
  (apply Go.Proofs.Ytkdbehfmmmlmjaa.L.wpKeep_yes; (focus rfl); (focus (intro W hW; go_simp; first | exact gC W hW | exact ⟨hW, gC W hW⟩)); (focus (go_simp; first | done | rfl)))
  repeat (apply Go.Proofs.Ytkdbehfmmmlmjaa.L.wpKeep_yes; (focus rfl); (focus (intro W hW; go_simp; first | done | exact ⟨rfl, hW⟩ | rfl)); (focus (go_simp; first | done | rfl)))
  refine wpKeep_nil ?_
  intro W9 hW9
  have hp9 := HP.out.on hW9
  clear gS gC cS HP hW9
  go_wp2_with fail
  go_loopw [13] (fun i wr => ∃ (k n : Nat) (l : List UInt8), i = .int .i64 (k : Int) ∧ k ≤ N ∧ n ≤ 60000 + k ∧ PSt w wr w.heap.size h j b m l l n n) (fun i _ => N - (intOf i).toNat)
  case atStart => exact ⟨0, _, _, rfl, by omega, by omega, hp9⟩
  case round =>
    obtain ⟨k, n, l, rfl, hk, hn, hp⟩ := hrel
    clear hp9
    by_cases hkn : k < N
    · have hkx : k < xs.length := by have := HN.out; omega
      obtain ⟨bb, o, rfl, cc⟩ := text_at HR1.out hp.below hkx
      have hxl := text_len HB1.out hkx
      have hall : ∀ W, Below w.heap.size w W → W.cell? ⟨bb, o + k, none⟩ = some (.string (str xs[k])) := fun W hW => by
        obtain ⟨b', o', e', cc'⟩ := text_at HR1.out hW hkx
        obtain ⟨rfl, rfl⟩ : bb = b' ∧ o = o' := by injection e' with e'; injection e' with h1 h2; exact ⟨h1, h2⟩
        exact cc'
      obtain ⟨x, hxx⟩ : ∃ x, xs[k] = x := ⟨_, rfl⟩
      rw [hxx] at cc hxl hall
      have hsm : (str x).size ≤ maxLen := by rw [str_size]; unfold maxLen; omega
      have g1 := jp_one (w0 := w) (g := w.heap.size) (h := h) (j := j) (b := b) (m := m) (l := l) (n := n) (by omega) (str x) hsm
      have g2 := jp_two (w0 := w) (g := w.heap.size) (h := h) (j := j) (b := b) (m := m) (l := l) (n := n) (by omega) (str x) hsm
      have hnn := appN_le m l (str x).data.toList n
      generalize Jou.appErr m l (str x).data.toList = E at g1 g2
      generalize Jou.appTo m l (str x).data.toList = l2 at g1 g2
      generalize Jou.appN m l (str x).data.toList n = n2 at g1 g2 hnn
      have j0 := jp_start (l2 := l2) (n2 := n2) hp
      have cx : ∀ W, Some2 (JP w w.heap.size h j b m l l2 n n2) W → W.cell? ⟨bb, o + k, none⟩ = some (.string (str x)) := fun W hW => hall W (jp_below hW)
      have gR : ∀ W, JP w w.heap.size h j b m l l2 n n2 true true W → Calls Try.prog 30 #[.pointer (some ⟨j, 0, none⟩)] W fun e W' => e = .returned (.int .i64 (n2 : Int)) ∧ JP w w.heap.size h j b m l l2 n n2 true true W' := fun W hW =>
        (pst_rec (jp_end hW)).mono fun e W' ⟨h1, h2⟩ => ⟨h1, h2 ▸ hW⟩
      have gC : ∀ W, JP w w.heap.size h j b m l l2 n n2 true true W → Calls Try.prog 15 #[.pointer (some ⟨w.heap.size, 0, none⟩)] W fun e W' => e = .returned (.string (str l2)) ∧ JP w w.heap.size h j b m l l2 n n2 true true W' := fun W hW =>
        (pst_con (jp_end hW)).mono fun e W' ⟨h1, h2⟩ => ⟨h1, h2 ▸ hW⟩
      have gW : ∀ W, JP w w.heap.size h j b m l l2 n n2 true true W → Calls Try.prog 21 #[.pointer (some ⟨w.heap.size, 0, none⟩)] W fun e W' => e = .returned (.int .i64 0) ∧ JP w w.heap.size h j b m l l2 n n2 true true W' := fun W hW =>
        (pst_wait (jp_end hW)).mono fun e W' ⟨h1, h2⟩ => ⟨h1, h2 ▸ hW⟩
      have cN : ∀ W, JP w w.heap.size h j b m l l2 n n2 true true W → W.cell? ⟨b, 1, none⟩ = some (.int .i64 (n2 : Int)) := fun W hW => pst_n (jp_end hW)
      have cS : ∀ W, JP w w.heap.size h j b m l l2 n n2 true true W → W.cell? ⟨h, 1, none⟩ = some (.string (str l2)) := fun W hW => pst_safe (jp_end hW)
      have j0' : JP w w.heap.size h j b m l l2 n n2 false false wr.drew := by
        have := hp.on (w' := wr.drew) (Below.drew (Below.refl _ _))
        exact this
      have j1 := Lib.hid j0'
      clear hp hall hkx hxx hsm j0 j0'
      go_wp2_with fail
      refine region_deep 5 11 (JP w w.heap.size h j b m l l2 n n2) (by kernel_rfl) (by kernel_rfl) (by decide) (by decide) j1.out ?_
      clear j1
      repeat (apply Go.Proofs.Ytkdbehfmmmlmjaa.L.wpDeep_yes; (focus rfl); (focus (apply Go.Proofs.Ytkdbehfmmmlmjaa.L.dp_plain (by decide) (by decide); intro x y W hW; have hX := Go.Proofs.Ytkdbehfmmmlmjaa.L.some2 hW; go_simp; first | done | exact ⟨rfl, hW⟩ | rfl)); (focus (go_simp; first | done | rfl)))
      (apply Go.Proofs.Ytkdbehfmmmlmjaa.L.wpDeep_yes; (focus rfl); (focus (apply Go.Proofs.Ytkdbehfmmmlmjaa.L.dp_one (by decide); intro y W hW; go_simp; exact g1 y W hW)); (focus (go_simp; first | done | rfl)))
      repeat (apply Go.Proofs.Ytkdbehfmmmlmjaa.L.wpDeep_yes; (focus rfl); (focus (apply Go.Proofs.Ytkdbehfmmmlmjaa.L.dp_plain (by decide) (by decide); intro x y W hW; have hX := Go.Proofs.Ytkdbehfmmmlmjaa.L.some2 hW; go_simp; first | done | exact ⟨rfl, hW⟩ | rfl)); (focus (go_simp; first | done | rfl)))
      (apply Go.Proofs.Ytkdbehfmmmlmjaa.L.wpDeep_yes; (focus rfl); (focus (apply Go.Proofs.Ytkdbehfmmmlmjaa.L.dp_two (by decide); intro x W hW; go_simp; exact g2 x W hW)); (focus (go_simp; first | done | rfl)))
      repeat (apply Go.Proofs.Ytkdbehfmmmlmjaa.L.wpDeep_yes; (focus rfl); (focus (apply Go.Proofs.Ytkdbehfmmmlmjaa.L.dp_plain (by decide) (by decide); intro x y W hW; have hX := Go.Proofs.Ytkdbehfmmmlmjaa.L.some2 hW; go_simp; first | done | exact ⟨rfl, hW⟩ | rfl)); (focus (go_simp; first | done | rfl)))
      (apply Go.Proofs.Ytkdbehfmmmlmjaa.L.wpDeep_yes; (focus rfl); (focus (apply Go.Proofs.Ytkdbehfmmmlmjaa.L.dp_late (by decide) (by decide) 60 (by kernel_rfl) (by kernel_rfl); intro W hW; go_simp; exact gR W hW)); (focus (go_simp; first | done | rfl)))
      repeat (apply Go.Proofs.Ytkdbehfmmmlmjaa.L.wpDeep_yes; (focus rfl); (focus (apply Go.Proofs.Ytkdbehfmmmlmjaa.L.dp_plain (by decide) (by decide); intro x y W hW; have hX := Go.Proofs.Ytkdbehfmmmlmjaa.L.some2 hW; go_simp; first | done | exact ⟨rfl, hW⟩ | rfl)); (focus (go_simp; first | done | rfl)))
      (apply Go.Proofs.Ytkdbehfmmmlmjaa.L.wpDeep_yes; (focus rfl); (focus (apply Go.Proofs.Ytkdbehfmmmlmjaa.L.dp_late (by decide) (by decide) 60 (by kernel_rfl) (by kernel_rfl); intro W hW; go_simp; first | done | exact ⟨rfl, hW⟩ | rfl)); (focus (go_simp; first | done | rfl)))
      repeat (apply Go.Proofs.Ytkdbehfmmmlmjaa.L.wpDeep_yes; (focus rfl); (focus (apply Go.Proofs.Ytkdbehfmmmlmjaa.L.dp_plain (by decide) (by decide); intro x y W hW; have hX := Go.Proofs.Ytkdbehfmmmlmjaa.L.some2 hW; go_simp; first | done | exact ⟨rfl, hW⟩ | rfl)); (focus (go_simp; first | done | rfl)))
      (apply Go.Proofs.Ytkdbehfmmmlmjaa.L.wpDeep_yes; (focus rfl); (focus (apply Go.Proofs.Ytkdbehfmmmlmjaa.L.dp_late (by decide) (by decide) 60 (by kernel_rfl) (by kernel_rfl); intro W hW; go_simp; exact gC W hW)); (focus (go_simp; first | done | rfl)))
      repeat (apply Go.Proofs.Ytkdbehfmmmlmjaa.L.wpDeep_yes; (focus rfl); (focus (apply Go.Proofs.Ytkdbehfmmmlmjaa.L.dp_plain (by decide) (by decide); intro x y W hW; have hX := Go.Proofs.Ytkdbehfmmmlmjaa.L.some2 hW; go_simp; first | done | exact ⟨rfl, hW⟩ | rfl)); (focus (go_simp; first | done | rfl)))
      (apply Go.Proofs.Ytkdbehfmmmlmjaa.L.wpDeep_yes; (focus rfl); (focus (apply Go.Proofs.Ytkdbehfmmmlmjaa.L.dp_late (by decide) (by decide) 60 (by kernel_rfl) (by kernel_rfl); intro W hW; go_simp; first | done | exact ⟨rfl, hW⟩ | rfl)); (focus (go_simp; first | done | rfl)))
      repeat (apply Go.Proofs.Ytkdbehfmmmlmjaa.L.wpDeep_yes; (focus rfl); (focus (apply Go.Proofs.Ytkdbehfmmmlmjaa.L.dp_plain (by decide) (by decide); intro x y W hW; have hX := Go.Proofs.Ytkdbehfmmmlmjaa.L.some2 hW; go_simp; first | done | exact ⟨rfl, hW⟩ | rfl)); (focus (go_simp; first | done | rfl)))
      (apply Go.Proofs.Ytkdbehfmmmlmjaa.L.wpDeep_yes; (focus rfl); (focus (apply Go.Proofs.Ytkdbehfmmmlmjaa.L.dp_late (by decide) (by decide) 60 (by kernel_rfl) (by kernel_rfl); intro W hW; go_simp; exact gW W hW)); (focus (go_simp; first | done | rfl)))
      repeat (apply Go.Proofs.Ytkdbehfmmmlmjaa.L.wpDeep_yes; (focus rfl); (focus (apply Go.Proofs.Ytkdbehfmmmlmjaa.L.dp_plain (by decide) (by decide); intro x y W hW; have hX := Go.Proofs.Ytkdbehfmmmlmjaa.L.some2 hW; go_simp; first | done | exact ⟨rfl, hW⟩ | rfl)); (focus (go_simp; first | done | rfl)))
      refine wpDeep_nil ?_
      intro W hW
      have hpe : PSt w W w.heap.size h j b m l2 l2 n2 n2 := jp_end hW
      clear hW g1 g2 gR gC gW cN cS cx cc
      go_wp2_with fail
      go_roundw
      case rel => exact ⟨k + 1, n2, l2, by go_num, by omega, by omega, hpe⟩
      case measure => simp [intOf]; omega
    · have hkN : N ≤ k := by omega
      have hrs := reset_own (cap := ca) hp.own hp.below.size hp.live (HR1.out.below hp.below) HB1.out
      rw [HN.out] at hrs
      have Hrs := Lib.hid hrs
      have HP := Lib.hid hp
      clear hkn hrs hp
      go_wp2_with fail
      refine (Hrs.out).mono ?_
      rintro e w10 ⟨rfl, o10, t10⟩
      have hp10 := HP.out.one o10 t10
      have hrr := rreset_any (cap := ca) hp10.ref (HR1.out.below hp10.below) HB1.out
      rw [HN.out] at hrr
      have Hrr := Lib.hid hrr
      clear Hrs o10 t10 HP hrr
      go_wp2_with fail
      refine (Hrr.out).mono ?_
      rintro e w11 ⟨rfl, r11, t11⟩
      have hp11 := hp10.two r11 t11
      clear Hrr r11 t11 hp10
      generalize Jou.resErr m xs = E at *
      generalize Jou.resTo m l xs = l2 at *
      generalize Jou.resN m n xs = n2 at *
      have gR : ∀ W, Onward w11 W → Calls Try.prog 30 #[.pointer (some ⟨j, 0, none⟩)] W fun e W' => e = .returned (.int .i64 (n2 : Int)) ∧ Onward w11 W' := fun W hW =>
        (pst_rec (hp11.on hW)).mono fun e W' ⟨h1, h2⟩ => ⟨h1, h2 ▸ hW⟩
      have gC : ∀ W, Onward w11 W → Calls Try.prog 15 #[.pointer (some ⟨w.heap.size, 0, none⟩)] W fun e W' => e = .returned (.string (str l2)) ∧ Onward w11 W' := fun W hW =>
        (pst_con (hp11.on hW)).mono fun e W' ⟨h1, h2⟩ => ⟨h1, h2 ▸ hW⟩
      have cN : ∀ W, Onward w11 W → W.cell? ⟨b, 1, none⟩ = some (.int .i64 (n2 : Int)) := fun W hW => pst_n (hp11.on hW)
      have cS : ∀ W, Onward w11 W → W.cell? ⟨h, 1, none⟩ = some (.string (str l2)) := fun W hW => pst_safe (hp11.on hW)
      have hbw := hp11.below
      have gA := awake06
      clear hp11
      go_wp2_with fail
      refine region_keep (by kernel_rfl) (by kernel_rfl) ?_
      repeat (apply Go.Proofs.Ytkdbehfmmmlmjaa.L.wpKeep_yes; (focus rfl); (focus (intro W hW; go_simp; first | done | exact ⟨rfl, hW⟩ | rfl)); (focus (go_simp; first | done | rfl)))
      (apply Go.Proofs.Ytkdbehfmmmlmjaa.L.wpKeep_yes; (focus rfl); (focus (intro W hW; go_simp; first | exact gR W hW | exact ⟨hW, gR W hW⟩)); (focus (go_simp; first | done | rfl)))
      repeat (apply Go.Proofs.Ytkdbehfmmmlmjaa.L.wpKeep_yes; (focus rfl); (focus (intro W hW; go_simp; first | done | exact ⟨rfl, hW⟩ | rfl)); (focus (go_simp; first | done | rfl)))
      (apply Go.Proofs.Ytkdbehfmmmlmjaa.L.wpKeep_yes; (focus rfl); (focus (intro W hW; go_simp; first | exact gC W hW | exact ⟨hW, gC W hW⟩)); (focus (go_simp; first | done | rfl)))
      repeat (apply Go.Proofs.Ytkdbehfmmmlmjaa.L.wpKeep_yes; (focus rfl); (focus (intro W hW; go_simp; first | done | exact ⟨rfl, hW⟩ | rfl)); (focus (go_simp; first | done | rfl)))
      (apply Go.Proofs.Ytkdbehfmmmlmjaa.L.wpKeep_yes; (focus rfl); (focus (intro W hW; go_simp; first | exact Go.Proofs.Ytkdbehfmmmlmjaa.L.Gives.up gA hW | exact ⟨hW, Go.Proofs.Ytkdbehfmmmlmjaa.L.Gives.up gA hW⟩)); (focus (go_simp; first | done | rfl)))
      repeat (apply Go.Proofs.Ytkdbehfmmmlmjaa.L.wpKeep_yes; (focus rfl); (focus (intro W hW; go_simp; first | done | exact ⟨rfl, hW⟩ | rfl)); (focus (go_simp; first | done | rfl)))
      refine wpKeep_nil ?_
      intro W12 hW12
      go_wp2_with fail
      go_ret
      exact ⟨rfl, keeps_trans hbw hW12⟩
end Go.Proofs.Ytkdbehfmmmlmjaa.JouW
