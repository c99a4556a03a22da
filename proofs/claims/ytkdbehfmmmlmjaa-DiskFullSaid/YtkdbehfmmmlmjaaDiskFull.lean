/-
  Chapter 5: a disk never has more than its size.
-/
import Derived.Test.YtkdbehfmmmlmjaaDiskSafe
set_option linter.unusedVariables false
set_option linter.unusedSimpArgs false
namespace Go.Proofs.Ytkdbehfmmmlmjaa.DiskW
open Go.RowKit Go.Proofs.Ytkdbehfmmmlmjaa.L

theorem u64_rem (n : Int) (m : Int) (hm : 0 < m) : ∃ k : Nat, (IntKind.u64.wrap n).tmod m = (k : Int) ∧ (k : Int) < m := by
  have h0 : 0 ≤ IntKind.u64.wrap n := by rw [IntKind.wrap_u64]; omega
  rw [Int.tmod_eq_emod_of_nonneg h0]
  have h1 := Int.emod_nonneg (IntKind.u64.wrap n) (show m ≠ 0 by omega)
  have h2 := Int.emod_lt_of_pos (IntKind.u64.wrap n) hm
  exact ⟨(IntKind.u64.wrap n % m).toNat, by omega, by omega⟩

theorem fits_size {B : Nat} {L : Nat → Prop} {w : World} {g : Nat} {d : Dsk.D} {m : Nat} (o : Own B L w g d) (hd : d.size = m) : (str d.safe).size ≤ m ∧ 0 ≤ Dsk.free d :=
  ⟨by rw [str_size, ← hd]; exact o.ok.1.1, Dsk.free_nonneg d o.ok.1⟩

set_option maxRecDepth 100000 in
set_option maxHeartbeats 4000000 in
theorem full_law (size : Int) {w : World} {A : Option Addr} {cap : Nat} {xs : List Deed} (hl : xs.length ≤ maxLen) (hr : RowOf w A 3 Deed.dec xs) (hs : ∀ x ∈ xs, x.s.size ≤ 140737488351232) :
    Calls Try.prog 5 #[.int .i64 size, .slice A xs.length cap] w fun e w' => e = .returned (.bool true) ∧ Below w.heap.size w w' := by
  obtain ⟨m, hm, hm1⟩ := u64_rem size 300 (by omega)
  have hf := fun w' (hb : Below w.heap.size w w') => few_any (cap := cap) hl (hr.below hb) hs
  obtain ⟨bf, hbf⟩ : ∃ b, few xs = b := ⟨_, rfl⟩
  rw [hbf] at hf
  have HBF := Lib.hid hbf
  have Hf := Lib.hid hf
  have Hr := Lib.hid hr
  obtain ⟨N, hN⟩ : ∃ N, xs.length = N := ⟨_, rfl⟩
  have HN := Lib.hid hN
  rw [hN] at hl Hf ⊢
  clear hf hbf hr hs hN
  unfold maxLen at hl
  go_enter Try.func5, Try.ntmps5
  go_wp2_with fail
  refine (new_any _ _).mono ?_
  rintro e w1 ⟨rfl, hw1⟩
  have hn : (((Dsk.new (m : Int)).size : Nat) : Int) = ((m : Nat) : Int) := by unfold Dsk.new; simp only; omega
  rw [hn] at hw1
  have o1 : Own w.heap.size Nothing w1 w.heap.size ⟨m, [], [], false⟩ := by rw [hw1]; exact own_new m (by omega) (Nat.le_refl _) (live_nothing _)
  have k1 : Below w.heap.size w w1 := by rw [hw1]; exact (Below.refl _ _).alloc (Nat.le_refl _) _
  clear hw1 hn
  cases bf
  · go_wp2_with fail
    refine (Hf.out _ k1).mono ?_
    rintro e wq ⟨rfl, rfl⟩
    go_wp2_with fail
    refine (awake05 _).mono ?_
    rintro e w2 ⟨rfl, hb2⟩
    have hbw := k1.trans (hb2.mono k1.size)
    clear hb2
    go_wp2
    go_ret
    exact ⟨rfl, hbw⟩
  have hfl := few_len HBF.out
  have hlN : N < 20000 := by have := HN.out; omega
  have Hfl := Lib.hid hfl
  clear hl hfl
  go_wp2_with fail
  refine (Hf.out _ k1).mono ?_
  rintro e wq ⟨rfl, rfl⟩
  clear Hf HBF
  go_wp2_with fail
  go_loopw [6] (fun i wr => ∃ (k : Nat) (d : Dsk.D), k ≤ N ∧ i = .int .i64 (k : Int) ∧ Own w.heap.size Nothing wr w.heap.size d ∧ d.size = m ∧ Below w.heap.size w wr) (fun i _ => N - (intOf i).toNat)
  case atStart => exact ⟨0, _, by omega, rfl, o1, rfl, k1⟩
  case round =>
    obtain ⟨k, d, hk, rfl, ok, hsw, bk⟩ := hrel
    have Hsw := Lib.hid hsw
    clear o1 k1 hsw
    by_cases hk1 : k < N ∧ k < 100
    · obtain ⟨hkN, hk100⟩ := hk1
      have hkx : k < xs.length := by have := HN.out; omega
      obtain ⟨b, o, rfl, hlt, hc⟩ := Hr.out (by intro e; subst e; simp at hkx)
      have hx := List.getElem?_eq_getElem hkx
      have C0 := fun w' (hb : Below w.heap.size w w') => (hb.cell (p := ⟨b, o + k * 3 + 0, none⟩) hlt).trans (hc k xs[k] hx 0 (.int .i64 xs[k].kind) rfl)
      have C1 := fun w' (hb : Below w.heap.size w w') => (hb.cell (p := ⟨b, o + k * 3 + 1, none⟩) hlt).trans (hc k xs[k] hx 1 (.int .i64 xs[k].n) rfl)
      have C2 := fun w' (hb : Below w.heap.size w w') => (hb.cell (p := ⟨b, o + k * 3 + 2, none⟩) hlt).trans (hc k xs[k] hx 2 (.string xs[k].s) rfl)
      have hz := Hfl.out.2 xs[k] (List.getElem_mem hkx)
      obtain ⟨kind, hkind⟩ : ∃ z, xs[k].kind = z := ⟨_, rfl⟩
      obtain ⟨n, hnn⟩ : ∃ z, xs[k].n = z := ⟨_, rfl⟩
      obtain ⟨s, hss⟩ : ∃ z, xs[k].s = z := ⟨_, rfl⟩
      rw [hkind] at C0
      rw [hnn] at C1
      rw [hss] at C2 hz
      simp only [Nat.add_zero] at C0
      have H0 := Lib.hid C0
      have H1 := Lib.hid C1
      have H2 := Lib.hid C2
      clear hc hx hkind hnn hss hkx C0 C1 C2
      have c0 := H0.out _ bk
      have c2 := H2.out _ bk
      go_wp2_with fail
      refine (content_own ok).mono ?_
      rintro e wq ⟨rfl, rfl⟩
      go_wp2_with fail
      refine (waiting_own ok).mono ?_
      rintro e wq ⟨rfl, rfl⟩
      by_cases hk0 : kind = 0
      · subst hk0
        have hdo := Lib.hid (write_own ok bk.size (live_nothing _) s (by unfold maxLen; omega))
        have hsz' := Lib.hid (show (Dsk.write d s.data.toList).size = m by rw [Dsk.write_size]; exact Hsw.out)
        by_cases hcan : Dsk.canWrite d s.data.toList = true
        · have he : Dsk.writeErr d s.data.toList = 0 := by unfold Dsk.writeErr; rw [if_pos hcan]
          rw [he] at hdo
          clear he hcan ok
          generalize Dsk.write d s.data.toList = d' at *
          go_wp2_with fail
          refine (hdo.out).mono ?_
          rintro e w2 ⟨rfl, o2, k2⟩
          have b2 := bk.trans (k2.below bk.size (fun _ h => h.1))
          clear c0 c2 k2 hdo
          have c0 := H0.out _ b2
          go_wp2_with fail
          refine (content_own o2).mono ?_
          rintro e wq ⟨rfl, rfl⟩
          obtain ⟨q1, q2⟩ := fits_size o2 hsz'.out
          have hfr := Lib.hid (free_own o2)
          have hlen : ((str d'.safe).size : Int) ≤ (m : Int) := by omega
          have hfree : ¬ Dsk.free d' < 0 := by omega
          clear q1 q2
          go_wp2_with fail
          refine (hfr.out).mono ?_
          rintro e w3 ⟨rfl, nn, hw3⟩
          have o3 := o2.below (hw3 ▸ below_drewN (Below.refl _ _) nn)
          have b3 : Below w.heap.size w w3 := hw3 ▸ below_drewN b2 nn
          clear o2 b2 hw3 hfr
          go_wp2_with fail
          go_roundw
          case rel => exact ⟨k + 1, _, by omega, by go_num, o3, hsz'.out, b3⟩
          case measure => simp [intOf]; omega
        · have he : Dsk.writeErr d s.data.toList = 9 := by unfold Dsk.writeErr; rw [if_neg hcan]
          have hd' : Dsk.write d s.data.toList = d := by unfold Dsk.write; rw [if_neg hcan]
          rw [he, hd'] at hdo
          clear he hcan ok hd' hsz'
          have hsz' := Hsw
          go_wp2_with fail
          refine (hdo.out).mono ?_
          rintro e w2 ⟨rfl, o2, k2⟩
          have b2 := bk.trans (k2.below bk.size (fun _ h => h.1))
          clear c0 c2 k2 hdo
          have c0 := H0.out _ b2
          go_wp2_with fail
          refine (content_own o2).mono ?_
          rintro e wq ⟨rfl, rfl⟩
          go_wp2_with fail
          refine (waiting_own o2).mono ?_
          rintro e wq ⟨rfl, rfl⟩
          go_wp2_with fail
          refine (content_own o2).mono ?_
          rintro e wq ⟨rfl, rfl⟩
          obtain ⟨q1, q2⟩ := fits_size o2 hsz'.out
          have hfr := Lib.hid (free_own o2)
          have hlen : ((str d.safe).size : Int) ≤ (m : Int) := by omega
          have hfree : ¬ Dsk.free d < 0 := by omega
          clear q1 q2
          go_wp2_with fail
          refine (hfr.out).mono ?_
          rintro e w3 ⟨rfl, nn, hw3⟩
          have o3 := o2.below (hw3 ▸ below_drewN (Below.refl _ _) nn)
          have b3 : Below w.heap.size w w3 := hw3 ▸ below_drewN b2 nn
          clear o2 b2 hw3 hfr
          go_wp2_with fail
          go_roundw
          case rel => exact ⟨k + 1, _, by omega, by go_num, o3, hsz'.out, b3⟩
          case measure => simp [intOf]; omega
      · have t2 : (kind == 0) = false := by simpa using hk0
        have t3 : (kind != 0) = true := by simpa using hk0
        have hdo := Lib.hid (do_zero ok bk.size kind n s (by unfold maxLen; omega))
        have hsz' := Lib.hid (show (Dsk.deed d kind n s.data.toList).size = m by rw [Dsk.deed_size]; exact Hsw.out)
        have c1 := H1.out _ bk
        have hlt' : b < wr.heap.size := Nat.lt_of_lt_of_le hlt bk.size
        clear hk0 ok
        generalize Dsk.deed d kind n s.data.toList = d' at *
        go_wp2_with fail
        refine (hdo.out).mono ?_
        rintro e w2 ⟨⟨v, rfl⟩, o2, k2⟩
        have b2 := bk.trans k2
        clear bk k2 hdo c0 c1 c2
        go_wp2_with fail
        refine (content_own o2).mono ?_
        rintro e wq ⟨rfl, rfl⟩
        obtain ⟨q1, q2⟩ := fits_size o2 hsz'.out
        have hfr := Lib.hid (free_own o2)
        have hlen : ((str d'.safe).size : Int) ≤ (m : Int) := by omega
        have hfree : ¬ Dsk.free d' < 0 := by omega
        clear q1 q2
        go_wp2_with fail
        refine (hfr.out).mono ?_
        rintro e w3 ⟨rfl, nn, hw3⟩
        have o3 := o2.below (hw3 ▸ below_drewN (Below.refl _ _) nn)
        have b3 : Below w.heap.size w w3 := hw3 ▸ below_drewN b2 nn
        clear o2 b2 hw3 hfr
        go_wp2_with fail
        go_roundw
        case rel => exact ⟨k + 1, _, by omega, by go_num, o3, hsz'.out, b3⟩
        case measure => simp [intOf]; omega
    · by_cases hkN : k < N
      · have h100 : ¬ k < 100 := fun h => hk1 ⟨hkN, h⟩
        clear hk1
        go_wp2_with fail
        refine (awake05 _).mono ?_
        rintro e w2 ⟨rfl, hb2⟩
        have hbw := bk.trans (hb2.mono bk.size)
        clear hb2
        go_wp2
        go_ret
        exact ⟨rfl, hbw⟩
      · clear hk1
        go_wp2_with fail
        refine (awake05 _).mono ?_
        rintro e w2 ⟨rfl, hb2⟩
        have hbw := bk.trans (hb2.mono bk.size)
        clear hb2
        go_wp2
        go_ret
        exact ⟨rfl, hbw⟩
end Go.Proofs.Ytkdbehfmmmlmjaa.DiskW
