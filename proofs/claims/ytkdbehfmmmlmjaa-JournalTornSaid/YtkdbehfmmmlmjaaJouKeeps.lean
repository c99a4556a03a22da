/-
  Chapter 6: what was appended is found again, in order, and goes on.
-/
import Derived.Test.YtkdbehfmmmlmjaaJouSt
set_option linter.unusedVariables false
set_option linter.unusedSimpArgs false
namespace Go.Proofs.Ytkdbehfmmmlmjaa.JouW
open Go.RowKit Go.Proofs.Ytkdbehfmmmlmjaa.L Go.Proofs.Ytkdbehfmmmlmjaa.CrcW Go.Proofs.Ytkdbehfmmmlmjaa.DiskW

theorem fit_scan (R : List (List UInt8)) (h : Jou.Small R) : (Jou.scan (Jou.frames R)).1 = R := by rw [Jou.scan_whole R h]
theorem small_append {a b : List (List UInt8)} (ha : Jou.Small a) (hb : Jou.Small b) : Jou.Small (a ++ b) := fun x hx => by
  rcases List.mem_append.1 hx with h | h
  · exact ha x h
  · exact hb x h

/-- The new disk of all the room there may be. -/
def fresh (w : World) : World := w.alloc (.cells #[.int .i64 ((1048576 : Nat) : Int), .slice none 0 0, .slice none 0 0, .bool false] 65)
theorem new_max (w : World) : Calls Try.prog 12 #[.int .i64 1048576] w fun e w' => e = .returned (.pointer (some ⟨w.heap.size, 0, none⟩)) ∧ w' = fresh w :=
  (new_any 1048576 w).mono fun e w' ⟨h1, h2⟩ => ⟨h1, by rw [h2, show (((Dsk.new 1048576).size : Nat) : Int) = ((1048576 : Nat) : Int) by decide]; rfl⟩
theorem fresh_below (w : World) : Below w.heap.size w (fresh w) := (Below.refl _ _).alloc (Nat.le_refl _) _
theorem fresh_own (w : World) : Own w.heap.size (Row1 (.slice none 0 0)) (fresh w) w.heap.size (Jou.clean 1048576 []) := by
  rw [row_nil]
  exact own_new 1048576 (by omega) (Nat.le_refl _) (fun _ h => h.elim)

set_option maxRecDepth 100000 in
set_option maxHeartbeats 8000000 in
theorem keeps_law {w : World} {A B : Option Addr} {ca cb : Nat} {xs ys : List (List UInt8)} (hl : xs.length ≤ maxLen) (hr : RowOf w A 1 sdec xs) (hs : ∀ x ∈ xs, x.length ≤ 140737488351232)
    (hl' : ys.length ≤ maxLen) (hr' : RowOf w B 1 sdec ys) (hs' : ∀ x ∈ ys, x.length ≤ 140737488351232) :
    Calls Try.prog 8 #[.slice A xs.length ca, .slice B ys.length cb] w fun e w' => e = .returned (.bool true) ∧ Below w.heap.size w w' := by
  have hf1 := Lib.hid (few_any (cap := ca) hl hr hs)
  have hf2 := Lib.hid (few_any (cap := cb) hl' hr' hs')
  have HR1 := Lib.hid hr
  have HR2 := Lib.hid hr'
  obtain ⟨N, hN⟩ : ∃ N, xs.length = N := ⟨_, rfl⟩
  obtain ⟨M, hM⟩ : ∃ M, ys.length = M := ⟨_, rfl⟩
  obtain ⟨b1, hb1⟩ : ∃ b, few xs = b := ⟨_, rfl⟩
  obtain ⟨b2, hb2⟩ : ∃ b, few ys = b := ⟨_, rfl⟩
  have HN := Lib.hid hN
  have HM := Lib.hid hM
  have HB1 := Lib.hid hb1
  have HB2 := Lib.hid hb2
  rw [hN, hb1] at hf1
  rw [hM, hb2] at hf2
  rw [hN, hM]
  have Hsc : Hid (∀ R, Jou.Small R → (Jou.scan (Jou.frames R)).1 = R ∧ Jou.opened (Jou.frames R) = Jou.frames R) := Lib.hid (fun R h => ⟨fit_scan R h, Jou.scan_opened R h⟩)
  have Hf1 : Hid (∀ k, (Jou.frames (Jou.fit (xs.take k))).length ≤ total xs + 8 * xs.length) := Lib.hid (fit_total xs)
  have Hf2 : Hid (∀ k, (Jou.frames (Jou.fit (ys.take k))).length ≤ total ys + 8 * ys.length) := Lib.hid (fit_total ys)
  clear hl hr hs hl' hr' hs' hN hM hb1 hb2
  go_enter Try.func8, Try.ntmps8
  cases b1
  · go_wp2_with fail
    refine (hf1.out).mono ?_
    rintro e wq ⟨rfl, rfl⟩
    go_wp2_with fail
    refine (awake06 _).mono ?_
    rintro e w2 ⟨rfl, hb⟩
    go_wp2
    go_ret
    exact ⟨rfl, hb⟩
  cases b2
  · go_wp2_with fail
    refine (hf1.out).mono ?_
    rintro e wq ⟨rfl, rfl⟩
    go_wp2_with fail
    refine (hf2.out).mono ?_
    rintro e wq ⟨rfl, rfl⟩
    go_wp2_with fail
    refine (awake06 _).mono ?_
    rintro e w2 ⟨rfl, hb⟩
    go_wp2
    go_ret
    exact ⟨rfl, hb⟩
  have hN60 : N ≤ 60 := by rw [← HN.out]; exact (few_len HB1.out).1
  have hM60 : M ≤ 60 := by rw [← HM.out]; exact (few_len HB2.out).1
  have HT1 := Lib.hid (few_len HB1.out).2
  have HT2 := Lib.hid (few_len HB2.out).2
  go_wp2_with fail
  refine (hf1.out).mono ?_
  rintro e wq ⟨rfl, rfl⟩
  go_wp2_with fail
  refine (hf2.out).mono ?_
  rintro e wq ⟨rfl, rfl⟩
  clear hf1 hf2
  go_wp2_with fail
  refine (new_max _).mono ?_
  rintro e w1 ⟨rfl, hw1⟩
  have Ho := Lib.hid (jst_open (w0 := w) (wr := w1) (v := .slice none 0 0) (R := []) (R' := []) (l := []) (l' := []) (by rw [hw1]; exact fresh_own w) (RowV.nil _ _ _) (by rw [hw1]; exact fresh_below w) (by rw [Jou.scan_nil]) rfl)
  clear hw1
  go_wp2_with fail
  refine (Ho.out).mono ?_
  rintro e w2 h2
  obtain ⟨A2, c2, j, rfl, hr2, hst⟩ := found_not h2
  rw [show ([] : List (List UInt8)).length = 0 from rfl] at *
  clear Ho h2 hr2
  go_wp2_with fail
  go_loopw [8, 9] (fun v i wr => ∃ k : Nat, i = .int .i64 (k : Int) ∧ k ≤ N ∧ JSt w wr v j w.heap.size (Jou.fit (xs.take k)) (Jou.frames (Jou.fit (xs.take k))) (Jou.fit (xs.take k)).length) (fun _ i _ => N - (intOf i).toNat)
  case atStart => exact ⟨0, rfl, by omega, by simpa [Jou.fit, Jou.frames] using hst⟩
  case round =>
    obtain ⟨k, rfl, hk, st⟩ := hrel
    clear hst
    by_cases hkn : k < N
    · have hkx : k < xs.length := by have := HN.out; omega
      obtain ⟨b, o, rfl, cc⟩ := text_at HR1.out st.below hkx
      have hxl := text_len HB1.out hkx
      have hfk := Lib.hid (Jou.fit_take xs k xs[k] (List.getElem?_eq_getElem hkx))
      have hR : (Jou.fit (xs.take k)).length ≤ 60 := by have := fit_len xs k; have := HN.out; omega
      have hRl : (Jou.frames (Jou.fit (xs.take k))).length ≤ 60480 := by have := Hf1.out k; have := HN.out; have := HT1.out; omega
      obtain ⟨x, hxx⟩ : ∃ x, xs[k] = x := ⟨_, rfl⟩
      rw [hxx] at cc hxl hfk
      have hsz : (str x).size = x.length := str_size x
      have hsm : (str x).size ≤ maxLen := by rw [hsz]; unfold maxLen; omega
      have hxk : Hid (∀ h : k < xs.length, xs[k]'h = x) := Lib.hid (fun _ => hxx)
      clear hxx hkx
      by_cases hbig : 16384 < (str x).size
      · have hfk2 := Lib.hid (show Jou.fit (xs.take (k + 1)) = Jou.fit (xs.take k) by rw [hfk.out, if_neg (by omega)])
        have Ha := Lib.hid (jst_app_big st (by omega) (str x) hsm hbig)
        clear hsz hsm hfk hbig st
        generalize Jou.fit (xs.take k) = R at *
        go_wp2_with fail
        refine (Ha.out).mono ?_
        rintro e w3 ⟨rfl, st3⟩
        clear Ha cc
        go_wp2_with fail
        go_roundw
        case rel => exact ⟨k + 1, by go_num, by omega, by rw [hfk2.out]; exact st3⟩
        case measure => simp [intOf]; omega
      · have hfk2 := Lib.hid (show Jou.fit (xs.take (k + 1)) = Jou.fit (xs.take k) ++ [x] by rw [hfk.out, if_pos (by omega)])
        have Ha := Lib.hid (jst_app_ok st (by omega) (by omega) (str x) hsm (by omega))
        rw [str_toList] at Ha
        have hb := st.below
        clear hsz hsm hfk hbig st hRl
        generalize Jou.fit (xs.take k) = R at *
        go_wp2_with fail
        refine (Ha.out).mono ?_
        rintro e w3 ⟨rfl, st3⟩
        rw [← frames_snoc] at st3
        clear Ha cc hb
        obtain ⟨b', o', e', cc⟩ := text_at HR1.out st3.below (k := k) (by have := HN.out; omega)
        obtain ⟨rfl, rfl⟩ : b = b' ∧ o = o' := by injection e' with e'; injection e' with h1 h2; exact ⟨h1, h2⟩
        have hxx : xs[k]'(by have := HN.out; omega) = x := hxk.out _
        rw [hxx] at cc
        obtain ⟨v', w4, hrun, st4⟩ := jst_push st3 (by omega) x
        unfold vs at hrun
        have ST := Lib.hid st4
        clear st3 st4 hxx e'
        go_wp2_with (at_builtin; refine wpList_append_eq rfl (.tmp 45) (.tmp 50) _ _ rfl u8 (.slice (some ⟨w3.heap.size, 0, none⟩) 1 1) rfl rfl hrun ?_)
        go_roundw
        case rel => exact ⟨k + 1, by go_num, by omega, by rw [hfk2.out, List.length_append]; exact ST.out⟩
        case measure => simp [intOf]; omega
    · have hkN : k = N := by omega
      have hall : xs.take k = xs := List.take_of_length_le (by have := HN.out; omega)
      rw [hall] at st
      clear hall
      have hsmall := Jou.fit_small xs
      have hq := Hsc.out _ hsmall
      have Ho := Lib.hid (jst_open st.disk st.recs st.below hq.1 hq.2)
      have hR : (Jou.fit xs).length ≤ 60 := by have := Jou.fit_length xs; have := HN.out; omega
      have hRl : (Jou.frames (Jou.fit xs)).length ≤ 60480 := by
        have := Hf1.out N
        rw [List.take_of_length_le (by have := HN.out; omega)] at this
        have := HN.out; have := HT1.out; omega
      have HSM := Lib.hid hsmall
      generalize Jou.fit xs = R1 at *
      clear hq hkn st hsmall
      have hkn2 : N ≤ k := by omega
      go_wp2_with fail
      refine (Ho.out).mono ?_
      rintro e w5 h5
      obtain ⟨A5, c5, j5, rfl, hr5, st5⟩ := found_not h5
      have hsame := Lib.hid (same_yes hr5 st5.recs (by omega))
      clear h5 Ho
      go_wp2_with fail
      refine (hsame.out).mono ?_
      rintro e w6 ⟨rfl, mm, hw6⟩
      have st6 := st5.drew hw6
      clear hsame hw6 st5 hr5
      go_wp2_with fail
      go_loopw [8, 12] (fun v i wr => ∃ k : Nat, i = .int .i64 (k : Int) ∧ k ≤ M ∧ JSt w wr v j5 w.heap.size (R1 ++ Jou.fit (ys.take k)) (Jou.frames (R1 ++ Jou.fit (ys.take k))) (R1 ++ Jou.fit (ys.take k)).length) (fun _ i _ => M - (intOf i).toNat)
      case atStart => exact ⟨0, rfl, by omega, by simpa [Jou.fit] using st6⟩
      case round =>
        obtain ⟨k, rfl, hk, st⟩ := hrel
        clear st6
        by_cases hkn : k < M
        · have hkx : k < ys.length := by have := HM.out; omega
          obtain ⟨b, o, rfl, cc⟩ := text_at HR2.out st.below hkx
          have hxl := text_len HB2.out hkx
          have hfk := Lib.hid (Jou.fit_take ys k ys[k] (List.getElem?_eq_getElem hkx))
          have hR2 : (R1 ++ Jou.fit (ys.take k)).length ≤ 120 := by rw [List.length_append]; have := fit_len ys k; have := HM.out; omega
          have hRl2 : (Jou.frames (R1 ++ Jou.fit (ys.take k))).length ≤ 120960 := by rw [Jou.frames_append, List.length_append]; have := Hf2.out k; have := HM.out; have := HT2.out; omega
          obtain ⟨x, hxx⟩ : ∃ x, ys[k] = x := ⟨_, rfl⟩
          rw [hxx] at cc hxl hfk
          have hsz : (str x).size = x.length := str_size x
          have hsm : (str x).size ≤ maxLen := by rw [hsz]; unfold maxLen; omega
          have hxk : Hid (∀ h : k < ys.length, ys[k]'h = x) := Lib.hid (fun _ => hxx)
          clear hkx hxx
          by_cases hbig : 16384 < (str x).size
          · have hfk2 := Lib.hid (show R1 ++ Jou.fit (ys.take (k + 1)) = R1 ++ Jou.fit (ys.take k) by rw [hfk.out, if_neg (by omega)])
            have Ha := Lib.hid (jst_app_big st (by omega) (str x) hsm hbig)
            clear hsz hsm hfk hbig st
            generalize R1 ++ Jou.fit (ys.take k) = R at *
            go_wp2_with fail
            refine (Ha.out).mono ?_
            rintro e w3 ⟨rfl, st3⟩
            clear Ha cc
            go_wp2_with fail
            go_roundw
            case rel => exact ⟨k + 1, by go_num, by omega, by rw [hfk2.out]; exact st3⟩
            case measure => simp [intOf]; omega
          · have hfk2 := Lib.hid (show R1 ++ Jou.fit (ys.take (k + 1)) = (R1 ++ Jou.fit (ys.take k)) ++ [x] by rw [hfk.out, if_pos (by omega), List.append_assoc])
            have Ha := Lib.hid (jst_app_ok st (by omega) (by omega) (str x) hsm (by omega))
            rw [str_toList] at Ha
            clear hsz hsm hfk hbig st hRl2
            generalize R1 ++ Jou.fit (ys.take k) = R at *
            go_wp2_with fail
            refine (Ha.out).mono ?_
            rintro e w3 ⟨rfl, st3⟩
            rw [← frames_snoc] at st3
            clear Ha cc
            obtain ⟨b', o', e', cc⟩ := text_at HR2.out st3.below (k := k) (by have := HM.out; omega)
            obtain ⟨rfl, rfl⟩ : b = b' ∧ o = o' := by injection e' with e'; injection e' with h1 h2; exact ⟨h1, h2⟩
            have hxx : ys[k]'(by have := HM.out; omega) = x := hxk.out _
            rw [hxx] at cc
            obtain ⟨v', w4, hrun, st4⟩ := jst_push st3 (by omega) x
            unfold vs at hrun
            have ST := Lib.hid st4
            clear st3 st4 hxx e'
            go_wp2_with (at_builtin; refine wpList_append_eq rfl (.tmp 78) (.tmp 83) _ _ rfl u8 (.slice (some ⟨w3.heap.size, 0, none⟩) 1 1) rfl rfl hrun ?_)
            go_roundw
            case rel => exact ⟨k + 1, by go_num, by omega, by rw [hfk2.out, List.length_append]; exact ST.out⟩
            case measure => simp [intOf]; omega
        · have hkN : k = M := by omega
          have hall : ys.take k = ys := List.take_of_length_le (by have := HM.out; omega)
          rw [hall] at st
          clear hall
          have hsmall := small_append HSM.out (Jou.fit_small ys)
          have hq := Hsc.out _ hsmall
          have Ho := Lib.hid (jst_open st.disk st.recs st.below hq.1 hq.2)
          have hR2 : (R1 ++ Jou.fit ys).length ≤ 120 := by rw [List.length_append]; have := Jou.fit_length ys; have := HM.out; omega
          have hsl : ∃ a c, u8 = .slice a (R1 ++ Jou.fit ys).length c := by
            obtain ⟨a, c, e, _⟩ := st.recs.form
            rw [List.length_map] at e
            exact ⟨a, c, e⟩
          clear hq hkn st hsmall
          generalize R1 ++ Jou.fit ys = R at *
          obtain ⟨a8, c8, rfl⟩ := hsl
          have hkn2 : M ≤ k := by omega
          go_wp2_with fail
          refine (Ho.out).mono ?_
          rintro e w7 h7
          obtain ⟨A7, c7, j7, rfl, hr7, st7⟩ := found_not h7
          have hsame := Lib.hid (same_yes hr7 st7.recs (by omega))
          clear h7 Ho
          go_wp2_with fail
          refine (hsame.out).mono ?_
          rintro e w8 ⟨rfl, mm, hw8⟩
          have st8 := st7.drew hw8
          have Hrec := Lib.hid (records_any st8.own.blk)
          have hb8 := st8.below
          clear hsame hw8 st7 hr7 st8
          go_wp2_with fail
          refine (Hrec.out).mono ?_
          rintro e wq ⟨rfl, rfl⟩
          clear Hrec
          go_wp2_with fail
          refine (awake06 _).mono ?_
          rintro e w9 ⟨rfl, hb⟩
          have hbw := keeps_trans hb8 hb
          clear hb hb8
          go_wp2
          go_ret
          exact ⟨rfl, hbw⟩
end Go.Proofs.Ytkdbehfmmmlmjaa.JouW
