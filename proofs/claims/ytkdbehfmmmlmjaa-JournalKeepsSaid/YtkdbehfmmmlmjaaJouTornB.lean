/-
  Chapter 6: a record that is torn is as if it had not been written: the walk.
-/
import Derived.Test.YtkdbehfmmmlmjaaJouTorn
set_option linter.unusedVariables false
set_option linter.unusedSimpArgs false
namespace Go.Proofs.Ytkdbehfmmmlmjaa.JouW
open Go.RowKit Go.Proofs.Ytkdbehfmmmlmjaa.L Go.Proofs.Ytkdbehfmmmlmjaa.CrcW Go.Proofs.Ytkdbehfmmmlmjaa.DiskW

def yy : List UInt8 := [121]

/-- What is found behind the crash, and all that is checked then. -/
theorem found_st {w0 : World} {v : Value} {g : Nat} {R R' : List (List UInt8)} {l' : List UInt8} {e : Ending} {w' : World} (h : Found w0 v g R R' l' e w') : ∃ A c j, e = .returned (.tuple #[.pointer (some ⟨j, 0, none⟩), .slice A R'.length c]) ∧ Recs w' w0.heap.size (.slice A R'.length c) R' ∧ JSt w0 w' v j g R l' R'.length := h

set_option maxRecDepth 100000 in
set_option maxHeartbeats 8000000 in
theorem torn_law {w : World} {A : Option Addr} {ca : Nat} {xs : List (List UInt8)} (hl : xs.length ≤ maxLen) (hr : RowOf w A 1 sdec xs) (hs : ∀ x ∈ xs, x.length ≤ 140737488351232)
    (s : ByteArray) (hss : s.size ≤ maxLen) (keep : Int) :
    Calls Try.prog 9 #[.slice A xs.length ca, .string s, .int .i64 keep] w fun e w' => e = .returned (.bool true) ∧ Below w.heap.size w w' := by
  have ey := Lib.hid (show (⟨#[121]⟩ : ByteArray) = str yy from rfl)
  have hf1 := Lib.hid (few_any (cap := ca) hl hr hs)
  have HR1 := Lib.hid hr
  have HSS := Lib.hid hss
  unfold maxLen at hss
  obtain ⟨N, hN⟩ : ∃ N, xs.length = N := ⟨_, rfl⟩
  obtain ⟨b1, hb1⟩ : ∃ b, few xs = b := ⟨_, rfl⟩
  have HN := Lib.hid hN
  have HB1 := Lib.hid hb1
  rw [hN, hb1] at hf1
  rw [hN]
  have Hsc : Hid (∀ R, Jou.Small R → (Jou.scan (Jou.frames R)).1 = R ∧ Jou.opened (Jou.frames R) = Jou.frames R) := Lib.hid (fun R h => ⟨fit_scan R h, Jou.scan_opened R h⟩)
  have Hf1 : Hid (∀ k, (Jou.frames (Jou.fit (xs.take k))).length ≤ total xs + 8 * xs.length) := Lib.hid (fit_total xs)
  clear hl hr hs hN hb1
  go_enter Try.func9, Try.ntmps9
  cases b1
  · go_wp2_with fail
    refine (hf1.out).mono ?_
    rintro e wq ⟨rfl, rfl⟩
    go_wp2_with fail
    refine (awake06 _).mono ?_
    rintro e w2 ⟨rfl, hb⟩
    go_wp2
    go_ret
    exact ⟨rfl, hb⟩
  by_cases hbig : 16384 < s.size
  · go_wp2_with fail
    refine (hf1.out).mono ?_
    rintro e wq ⟨rfl, rfl⟩
    go_wp2_with fail
    refine (awake06 _).mono ?_
    rintro e w2 ⟨rfl, hb⟩
    go_wp2
    go_ret
    exact ⟨rfl, hb⟩
  have hN60 : N ≤ 60 := by rw [← HN.out]; exact (few_len HB1.out).1
  have HT1 := Lib.hid (few_len HB1.out).2
  go_wp2_with fail
  refine (hf1.out).mono ?_
  rintro e wq ⟨rfl, rfl⟩
  clear hf1
  go_wp2_with fail
  refine (new_max _).mono ?_
  rintro e w1 ⟨rfl, hw1⟩
  have Ho := Lib.hid (jst_open (w0 := w) (wr := w1) (v := .slice none 0 0) (R := []) (R' := []) (l := []) (l' := []) (by rw [hw1]; exact fresh_own w) (RowV.nil _ _ _) (by rw [hw1]; exact fresh_below w) (by rw [Jou.scan_nil]) rfl)
  clear hw1
  go_wp2_with fail
  refine (Ho.out).mono ?_
  rintro e w2 h2
  obtain ⟨A2, c2, j, rfl, hr2, hst⟩ := found_not h2
  rw [show ([] : List (List UInt8)).length = 0 from rfl] at *
  clear Ho h2 hr2
  go_wp2_with fail
  go_loopw [10, 11] (fun v i wr => ∃ k : Nat, i = .int .i64 (k : Int) ∧ k ≤ N ∧ JSt w wr v j w.heap.size (Jou.fit (xs.take k)) (Jou.frames (Jou.fit (xs.take k))) (Jou.fit (xs.take k)).length) (fun _ i _ => N - (intOf i).toNat)
  case atStart => exact ⟨0, rfl, by omega, by simpa [Jou.fit, Jou.frames] using hst⟩
  case round =>
    obtain ⟨k, rfl, hk, st⟩ := hrel
    clear hst
    by_cases hkn : k < N
    · have hkx : k < xs.length := by have := HN.out; omega
      obtain ⟨b, o, rfl, cc⟩ := text_at HR1.out st.below hkx
      have hxl := text_len HB1.out hkx
      have hfk := Lib.hid (Jou.fit_take xs k xs[k] (List.getElem?_eq_getElem hkx))
      have hR : (Jou.fit (xs.take k)).length ≤ 60 := by have := fit_len xs k; have := HN.out; omega
      have hRl : (Jou.frames (Jou.fit (xs.take k))).length ≤ 60480 := by have := Hf1.out k; have := HN.out; have := HT1.out; omega
      obtain ⟨x, hxx⟩ : ∃ x, xs[k] = x := ⟨_, rfl⟩
      rw [hxx] at cc hxl hfk
      have hsz : (str x).size = x.length := str_size x
      have hsm : (str x).size ≤ maxLen := by rw [hsz]; unfold maxLen; omega
      have hxk : Hid (∀ h : k < xs.length, xs[k]'h = x) := Lib.hid (fun _ => hxx)
      clear hxx hkx
      by_cases hbigx : 16384 < (str x).size
      · have hfk2 := Lib.hid (show Jou.fit (xs.take (k + 1)) = Jou.fit (xs.take k) by rw [hfk.out, if_neg (by omega)])
        have Ha := Lib.hid (jst_app_big st (by omega) (str x) hsm hbigx)
        clear hsz hsm hfk hbigx st
        generalize Jou.fit (xs.take k) = R at *
        go_wp2_with fail
        refine (Ha.out).mono ?_
        rintro e w3 ⟨rfl, st3⟩
        clear Ha cc
        go_wp2_with fail
        go_roundw
        case rel => exact ⟨k + 1, by go_num, by omega, by rw [hfk2.out]; exact st3⟩
        case measure => simp [intOf]; omega
      · have hfk2 := Lib.hid (show Jou.fit (xs.take (k + 1)) = Jou.fit (xs.take k) ++ [x] by rw [hfk.out, if_pos (by omega)])
        have Ha := Lib.hid (jst_app_ok st (by omega) (by omega) (str x) hsm (by omega))
        rw [str_toList] at Ha
        clear hsz hsm hfk hbigx st hRl
        generalize Jou.fit (xs.take k) = R at *
        go_wp2_with fail
        refine (Ha.out).mono ?_
        rintro e w3 ⟨rfl, st3⟩
        rw [← frames_snoc] at st3
        clear Ha cc
        obtain ⟨b', o', e', cc⟩ := text_at HR1.out st3.below (k := k) (by have := HN.out; omega)
        obtain ⟨rfl, rfl⟩ : b = b' ∧ o = o' := by injection e' with e'; injection e' with h1 h2; exact ⟨h1, h2⟩
        have hxx : xs[k]'(by have := HN.out; omega) = x := hxk.out _
        rw [hxx] at cc
        obtain ⟨v', w4, hrun, st4⟩ := jst_push st3 (by omega) x
        unfold vs at hrun
        have ST := Lib.hid st4
        clear st3 st4 hxx e'
        go_wp2_with (at_builtin; refine wpList_append_eq rfl (.tmp 47) (.tmp 52) _ _ rfl u10 (.slice (some ⟨w3.heap.size, 0, none⟩) 1 1) rfl rfl hrun ?_)
        go_roundw
        case rel => exact ⟨k + 1, by go_num, by omega, by rw [hfk2.out, List.length_append]; exact ST.out⟩
        case measure => simp [intOf]; omega
    · have hkN : k = N := by omega
      have hall : xs.take k = xs := List.take_of_length_le (by have := HN.out; omega)
      rw [hall] at st
      clear hall
      have hR : (Jou.fit xs).length ≤ 60 := by have := Jou.fit_length xs; have := HN.out; omega
      have hRl : (Jou.frames (Jou.fit xs)).length ≤ 60480 := by
        have := Hf1.out N
        rw [List.take_of_length_le (by have := HN.out; omega)] at this
        have := HN.out; have := HT1.out; omega
      have HSM := Lib.hid (Jou.fit_small xs)
      have dst := st.dst
      generalize Jou.fit xs = R at *
      clear hkn st
      have hkn2 : N ≤ k := by omega
      -- the frame that is torn
      obtain ⟨sl, hsl⟩ : ∃ sl, s = str sl := ⟨_, str_of s⟩
      have hslen : sl.length ≤ 16384 := by rw [hsl, str_size] at hbig; omega
      obtain ⟨F, hF⟩ : ∃ F, Crc.frame sl = F := ⟨_, rfl⟩
      have hFl : F.length = sl.length + 8 := by rw [← hF]; exact Crc.frame_length sl hslen
      have HF := Lib.hid hF
      have Hfr : Hid (∀ w, Calls Try.prog 31 #[.string s] w fun e w' => e = .returned (.string (str F)) ∧ Below w.heap.size w w') := Lib.hid (fun w => by
        have := refframe_any s w HSS.out
        rw [hsl, str_toList, hF] at this
        rw [hsl]
        exact this)
      have HSL := Lib.hid hsl
      have hFz : (str F).size = F.length := str_size F
      clear hF hsl
      go_wp2_with fail
      refine (Hfr.out _).mono ?_
      rintro e w3 ⟨rfl, hb3⟩
      have dst3 := dst.on hb3
      clear Hfr dst hb3
      obtain ⟨t1, t2⟩ := torn_plain (Jou.frames R) F keep (by omega)
      have hw := dst_write dst3 (f := F) (by omega)
      rw [t1] at hw
      have Hw := Lib.hid hw
      have HT2 := Lib.hid t2
      have HFZ := Lib.hid hFz
      clear hw t1 t2 dst3 hFz
      go_wp2_with fail
      refine (Hw.out).mono ?_
      rintro e w4 ⟨rfl, hr4, ho4, hb4⟩
      have Hcr := Lib.hid (dst_crash hr4 ho4 hb4 keep HT2.out)
      clear Hw hr4 ho4 hb4
      go_wp2_with fail
      refine (Hcr.out).mono ?_
      rintro e w5 ⟨rfl, dst5⟩
      clear Hcr
      by_cases hkeep : (F.length : Int) ≤ keep
      · have hle : ((str F).size : Int) ≤ keep := by rw [HFZ.out]; exact hkeep
        have htk : F.take (min (max keep 0) (F.length : Int)).toNat = F := List.take_of_length_le (by omega)
        rw [htk, ← HF.out, ← frames_snoc] at dst5
        obtain ⟨v', w6, hrun, dst6⟩ := dst_push dst5 (by omega) sl
        unfold vs at hrun
        rw [← HSL.out] at hrun
        have hsm2 : Jou.Small (R ++ [sl]) := small_append HSM.out (fun x hx => by simp at hx; subst hx; exact hslen)
        have hq := Hsc.out _ hsm2
        have HSM2 := Lib.hid hsm2
        have D6 := Lib.hid dst6
        have hR2 : (R ++ [sl]).length ≤ 61 := by simp; omega
        have hRl2 : (Jou.frames (R ++ [sl])).length ≤ 80000 := by rw [frames_snoc, List.length_append, HF.out]; omega
        have HQ := Lib.hid hq
        clear hkeep htk dst5 dst6 hq hsm2
        go_wp2_with (at_builtin; refine wpList_append_eq rfl (.tmp 67) (.tmp 69) _ _ rfl u10 (.slice (some ⟨w5.heap.size, 0, none⟩) 1 1) rfl rfl hrun ?_)
        clear hrun
        have dst6 := D6.out
        clear D6
        generalize R ++ [sl] = R2 at *
        have HSN : Hid ((Jou.scan (Jou.frames (R2 ++ [yy]))).1 = R2 ++ [yy] ∧ Jou.opened (Jou.frames (R2 ++ [yy])) = Jou.frames (R2 ++ [yy])) := Lib.hid (Hsc.out _ (small_append HSM2.out (fun x hx => by simp at hx; subst hx; decide)))
        have Ho := Lib.hid (dst_open dst6 (R' := R2) (l' := Jou.frames R2) HQ.out.1 HQ.out.2)
        clear dst6
        go_wp2_with fail
        refine (Ho.out).mono ?_
        rintro e w7 h7
        obtain ⟨A7, c7, j7, rfl, hr7, st7⟩ := found_st h7
        have hsame := Lib.hid (same_yes hr7 st7.recs (by omega))
        clear h7 Ho
        go_wp2_with fail
        refine (hsame.out).mono ?_
        rintro e w8 ⟨rfl, mm, hw8⟩
        have st8 := st7.drew hw8
        have happ := jst_app_ok st8 (by omega) (by omega) (str yy) (by decide) (by decide)
        rw [str_toList, ← frames_snoc] at happ
        have Happ := Lib.hid happ
        clear hsame hw8 st7 hr7 st8 happ
        go_wp2_with fail
        rw [ey.out]
        refine (Happ.out).mono ?_
        rintro e w9 ⟨rfl, st9⟩
        have Ho := Lib.hid (jst_open st9.disk st9.recs st9.below HSN.out.1 HSN.out.2)
        clear Happ st9
        go_wp2_with fail
        refine (Ho.out).mono ?_
        rintro e w10 h10
        obtain ⟨A10, c10, j10, rfl, hr10, st10⟩ := found_st h10
        rw [show (R2 ++ [yy]).length = R2.length + 1 by simp] at hr10 ⊢
        obtain ⟨v11, w11, v12, w12, hrun1, hrun2, hr12, hb12⟩ := both_append st10.recs (by omega) yy
        have hr10' := hr10.below hb12
        have hsame := Lib.hid (same_yes hr10' hr12 (by simp; omega))
        have hbw : Below w.heap.size w w12 := st10.below.trans (hb12.mono st10.below.size)
        unfold vs at hrun2
        rw [← ey.out] at hrun2
        clear h10 Ho hr10 st10 hr10' hr12 hb12
        go_wp2_with (at_builtin; refine wpList_append_eq rfl (.const (.slice none 0 0)) (.tmp 95) _ _ rfl (.slice none 0 0) _ rfl rfl hrun1 ?_; go_wp2_with (at_builtin; refine wpList_append_eq rfl (.tmp 96) (.tmp 97) _ _ rfl v11 (.slice (some ⟨w11.heap.size, 0, none⟩) 1 1) rfl rfl hrun2 ?_))
        refine (hsame.out).mono ?_
        rintro e w13 ⟨rfl, mm2, hw13⟩
        have hbw13 : Below w.heap.size w w13 := hw13 ▸ below_drewN hbw mm2
        clear hsame hw13 hbw hrun1 hrun2
        go_wp2_with fail
        refine (awake06 _).mono ?_
        rintro e w14 ⟨rfl, hb⟩
        have hbw := keeps_trans hbw13 hb
        clear hb hbw13
        go_wp2
        go_ret
        exact ⟨rfl, hbw⟩
      · have hle : ¬ ((str F).size : Int) ≤ keep := by rw [HFZ.out]; exact hkeep
        have hq : (Jou.scan (Jou.frames R ++ F.take (min (max keep 0) (F.length : Int)).toNat)).1 = R ∧ Jou.opened (Jou.frames R ++ F.take (min (max keep 0) (F.length : Int)).toNat) = Jou.frames R := by
          have hk : (min (max keep 0) (F.length : Int)).toNat < sl.length + 8 := by omega
          have h1 := Jou.scan_torn R sl _ HSM.out hslen hk
          have h2 := Jou.opened_torn R sl _ HSM.out hslen hk
          rw [HF.out] at h1 h2
          exact ⟨by rw [h1], h2⟩
        have HQ := Lib.hid hq
        have HSM2 := HSM
        have dst6 := dst5
        clear hkeep hq dst5 HSM
        generalize R = R2 at *
        have HSN : Hid ((Jou.scan (Jou.frames (R2 ++ [yy]))).1 = R2 ++ [yy] ∧ Jou.opened (Jou.frames (R2 ++ [yy])) = Jou.frames (R2 ++ [yy])) := Lib.hid (Hsc.out _ (small_append HSM2.out (fun x hx => by simp at hx; subst hx; decide)))
        have Ho := Lib.hid (dst_open dst6 (R' := R2) (l' := Jou.frames R2) HQ.out.1 HQ.out.2)
        clear dst6
        go_wp2_with fail
        refine (Ho.out).mono ?_
        rintro e w7 h7
        obtain ⟨A7, c7, j7, rfl, hr7, st7⟩ := found_st h7
        have hsame := Lib.hid (same_yes hr7 st7.recs (by omega))
        clear h7 Ho
        go_wp2_with fail
        refine (hsame.out).mono ?_
        rintro e w8 ⟨rfl, mm, hw8⟩
        have st8 := st7.drew hw8
        have happ := jst_app_ok st8 (by omega) (by omega) (str yy) (by decide) (by decide)
        rw [str_toList, ← frames_snoc] at happ
        have Happ := Lib.hid happ
        clear hsame hw8 st7 hr7 st8 happ
        go_wp2_with fail
        rw [ey.out]
        refine (Happ.out).mono ?_
        rintro e w9 ⟨rfl, st9⟩
        have Ho := Lib.hid (jst_open st9.disk st9.recs st9.below HSN.out.1 HSN.out.2)
        clear Happ st9
        go_wp2_with fail
        refine (Ho.out).mono ?_
        rintro e w10 h10
        obtain ⟨A10, c10, j10, rfl, hr10, st10⟩ := found_st h10
        rw [show (R2 ++ [yy]).length = R2.length + 1 by simp] at hr10 ⊢
        obtain ⟨v11, w11, v12, w12, hrun1, hrun2, hr12, hb12⟩ := both_append st10.recs (by omega) yy
        have hr10' := hr10.below hb12
        have hsame := Lib.hid (same_yes hr10' hr12 (by simp; omega))
        have hbw : Below w.heap.size w w12 := st10.below.trans (hb12.mono st10.below.size)
        unfold vs at hrun2
        rw [← ey.out] at hrun2
        clear h10 Ho hr10 st10 hr10' hr12 hb12
        go_wp2_with (at_builtin; refine wpList_append_eq rfl (.const (.slice none 0 0)) (.tmp 95) _ _ rfl (.slice none 0 0) _ rfl rfl hrun1 ?_; go_wp2_with (at_builtin; refine wpList_append_eq rfl (.tmp 96) (.tmp 97) _ _ rfl v11 (.slice (some ⟨w11.heap.size, 0, none⟩) 1 1) rfl rfl hrun2 ?_))
        refine (hsame.out).mono ?_
        rintro e w13 ⟨rfl, mm2, hw13⟩
        have hbw13 : Below w.heap.size w w13 := hw13 ▸ below_drewN hbw mm2
        clear hsame hw13 hbw hrun1 hrun2
        go_wp2_with fail
        refine (awake06 _).mono ?_
        rintro e w14 ⟨rfl, hb⟩
        have hbw := keeps_trans hbw13 hb
        clear hb hbw13
        go_wp2
        go_ret
        exact ⟨rfl, hbw⟩
end Go.Proofs.Ytkdbehfmmmlmjaa.JouW
