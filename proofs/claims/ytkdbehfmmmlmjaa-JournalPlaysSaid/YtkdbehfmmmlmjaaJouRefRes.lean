/-
  The reference's journal: the contract of Reset.
-/
import Derived.Test.YtkdbehfmmmlmjaaJouReset
import Derived.Test.YtkdbehfmmmlmjaaJouRefOwn
set_option linter.unusedVariables false
set_option linter.unusedSimpArgs false
namespace Go.Proofs.Ytkdbehfmmmlmjaa.JouW
open Go.RowKit Go.Proofs.Ytkdbehfmmmlmjaa.L Go.Proofs.Ytkdbehfmmmlmjaa.CrcW Go.Proofs.Ytkdbehfmmmlmjaa.DiskW

def RResEnd (b h m : Nat) (l : List UInt8) (n : Nat) (xs : List (List UInt8)) (w : World) (e : Ending) (w' : World) : Prop :=
  e = .returned (.int .i64 (Jou.resErr m xs)) ∧ RJ w' b h m (Jou.resTo m l xs) (Jou.resN m n xs) ∧ Kept (Two2 b h) w w'

set_option maxHeartbeats 4000000 in
theorem rreset_any {w : World} {b h m n : Nat} {l : List UInt8} (r : RJ w b h m l n) {A : Option Addr} {cap : Nat} {xs : List (List UInt8)}
    (hr : RowOf w A 1 sdec xs) (hf : few xs = true) :
    Calls Try.prog 38 #[.pointer (some ⟨b, 0, none⟩), .slice A xs.length cap] w fun e w' => RResEnd b h m l n xs w e w' := by
  obtain ⟨hf1, hf2⟩ := few_len hf
  have hc0 : w.cell? ⟨b, 0, none⟩ = some (.pointer (some ⟨h, 0, none⟩)) := r.blk.cell 0
  have hjl := r.blk.lt
  have HC := Lib.hid hc0
  have HH := Lib.hid r
  have hne := Lib.hid r.ne
  have HR := Lib.hid hr
  have HT := Lib.hid (frames_take_le xs)
  obtain ⟨N, hN⟩ : ∃ N, xs.length = N := ⟨_, rfl⟩
  have HN := Lib.hid hN
  have HF2 := Lib.hid hf2
  rw [hN] at hf1 ⊢
  clear hc0 r hr hf hN hf2
  go_enter Try.func38, Try.ntmps38
  go_wp2_with fail
  go_loopw [5, 6, 7] (fun s g i wr => ∃ k : Nat, i = .int .i64 (k : Int) ∧ k ≤ N ∧ s = .string (str (Jou.frames (xs.take k))) ∧ g = .bool (Jou.anyBig (xs.take k)) ∧ Below w.heap.size w wr) (fun _ _ i _ => N - (intOf i).toNat)
  case atStart => exact ⟨0, rfl, by omega, rfl, rfl, Below.refl _ _⟩
  case round =>
    obtain ⟨k, rfl, hk, rfl, rfl, hbw⟩ := hrel
    by_cases hkn : k < N
    · have hkx : k < xs.length := by have := HN.out; omega
      obtain ⟨b', o, rfl, hlt, hc⟩ := HR.out (by intro e; subst e; simp at hkx)
      have hx := List.getElem?_eq_getElem hkx
      have c2 : wr.cell? ⟨b', o + k, none⟩ = some (vs xs[k]) := by
        have := hc k xs[k] hx 0 (vs xs[k]) rfl
        rw [Nat.mul_one, Nat.add_zero] at this
        exact (hbw.cell (p := ⟨b', o + k, none⟩) hlt).trans this
      have hft := Lib.hid (frames_take xs k xs[k] hx)
      have hat := Lib.hid (anyBig_take xs k xs[k] hx)
      have hfl := HT.out (k + 1)
      rw [hft.out, List.length_append] at hfl
      have hfl2 : (Jou.frames (xs.take k)).length + (Crc.frame xs[k]).length ≤ 60000 + 8 * 60 := by have := HN.out; have := HF2.out; omega
      have hxl : xs[k].length ≤ 60000 := by
        have h1 := HF2.out
        have h2 := total_take xs k xs[k] hx
        have h3 := total_le xs (k + 1)
        omega
      obtain ⟨x, hxx⟩ : ∃ x, xs[k] = x := ⟨_, rfl⟩
      rw [hxx] at c2 hft hat hfl2 hxl
      have hsz : (str x).size = x.length := str_size x
      have HSZ := Lib.hid hsz
      unfold vs at c2
      have hsm : (str x).size ≤ maxLen := by rw [hsz]; unfold maxLen; omega
      have hsx : (str x).size ≤ 60000 := by omega
      have HSM := Lib.hid hsm
      obtain ⟨s, hs⟩ : ∃ s, Jou.frames (xs.take k) = s := ⟨_, rfl⟩
      obtain ⟨f, hfx⟩ : ∃ f, Crc.frame x = f := ⟨_, rfl⟩
      obtain ⟨ab, hab⟩ : ∃ ab, Jou.anyBig (xs.take k) = ab := ⟨_, rfl⟩
      rw [hs, hfx] at hft hfl2
      rw [hs]
      rw [hab] at hat ⊢
      have HFX := Lib.hid hfx
      have hf1 : (str s).size ≤ 60480 := by rw [str_size]; omega
      have hf2 : (str f).size ≤ 60480 := by rw [str_size]; omega
      clear hc hkx hx hxx hfl hfl2 hsm hsz hs hfx hab
      have hdd : Hid (decide (16384 < x.length) = decide ((16384 : Int) < ((str x).size : Int))) := Lib.hid (decide_eq_decide.2 (by have := HSZ.out; omega))
      cases ab
      · go_wp2_with fail
        refine (refframe_any (str x) _ HSM.out).mono ?_
        rintro e w2 ⟨rfl, hb2⟩
        rw [str_toList, HFX.out]
        have hbw2 : Below w.heap.size w w2 := hbw.trans (hb2.mono hbw.size)
        clear hb2 hbw
        go_wp2_with fail
        go_roundw
        case rel => exact ⟨k + 1, by go_num, by omega, by rw [hft.out, str_append], by rw [hat.out, hdd.out]; simp, hbw2⟩
        case measure => simp [intOf]; omega
      · go_wp2_with fail
        refine (refframe_any (str x) _ HSM.out).mono ?_
        rintro e w2 ⟨rfl, hb2⟩
        rw [str_toList, HFX.out]
        have hbw2 : Below w.heap.size w w2 := hbw.trans (hb2.mono hbw.size)
        clear hb2 hbw
        go_wp2_with fail
        go_roundw
        case rel => exact ⟨k + 1, by go_num, by omega, by rw [hft.out, str_append], by rw [hat.out]; simp, hbw2⟩
        case measure => simp [intOf]; omega
    · have hkN : k = N := by omega
      have hall : xs.take k = xs := List.take_of_length_le (by have := HN.out; omega)
      rw [hall]
      clear hall hkn
      have hkn2 : N ≤ k := by omega
      have h1 := HH.out.below hbw
      have HK := Lib.hid (Kept.of_below (F := Two2 b h) hbw)
      have hfs : (str (Jou.frames xs)).size ≤ maxLen := by
        have := HT.out N
        rw [List.take_of_length_le (by have := HN.out; omega)] at this
        rw [str_size]; unfold maxLen; have := HN.out; have := HF2.out; omega
      have HFS := Lib.hid hfs
      cases hbig : Jou.anyBig xs
      · have c0 : wr.cell? ⟨b, 0, none⟩ = some (.pointer (some ⟨h, 0, none⟩)) := h1.blk.cell 0
        have hrp := rreplace_any h1.ref (str (Jou.frames xs)) HFS.out
        by_cases hfit : (Jou.frames xs).length ≤ m
        · obtain ⟨q1, q2, q3⟩ := Jou.res_ok m l xs n hbig hfit
          have he : Dsk.replaceErr (Jou.clean m l) (str (Jou.frames xs)).data.toList = 0 := by rw [str_toList]; unfold Dsk.replaceErr Jou.clean; rw [if_neg (by simp; omega)]
          have hsr := Lib.hid (show Dsk.sync (Dsk.replace (Jou.clean m l) (str (Jou.frames xs)).data.toList) = Jou.clean m (Jou.frames xs) by rw [str_toList]; exact Jou.sync_replace m l _ hfit)
          rw [he] at hrp
          have HRP := Lib.hid hrp
          have HQ := Lib.hid (And.intro q1 (And.intro q2 q3))
          have HB1 := Lib.hid h1
          clear he hfit q1 q2 q3 hrp h1 hfs hbw hbig
          go_wp2_with fail
          refine (HRP.out).mono ?_
          rintro e w2 ⟨rfl, o2, k2⟩
          have hb2 := HB1.out.blk.kept k2 hne.out
          have hK2 := Lib.hid (HK.out.trans (k2.mono (fun i _ hi => (.inr hi : Two2 b h i))))
          have hsy := Lib.hid (rsync_any o2)
          clear c0 o2 k2
          have c0 : w2.cell? ⟨b, 0, none⟩ = some (.pointer (some ⟨h, 0, none⟩)) := hb2.cell 0
          go_wp2_with fail
          refine (hsy.out).mono ?_
          rintro e w3 ⟨rfl, o3, k3⟩
          rw [hsr.out] at o3
          have hb3 := hb2.kept k3 hne.out
          have c1 : w3.cell? ⟨b, 1, none⟩ = some (.int .i64 (n : Int)) := hb3.cell 1
          have f1 : w3.frozen? ⟨b, 1, none⟩ = false := hb3.frozen 1
          have HF : Hid (RResEnd b h m l n xs w (.returned (.int .i64 0)) (w3.setCell ⟨b, 1, none⟩ (.int .i64 (N : Int)))) := Lib.hid (by
            obtain ⟨q1, q2, q3⟩ := HQ.out
            refine ⟨by rw [q1], ?_, ?_⟩
            · rw [q2, q3, HN.out]
              refine ⟨o3.kept (one1 w3 b 1 _) (Ne.symm hne.out), ?_, hne.out⟩
              have := hb3.set_ 1 (.int .i64 (N : Int))
              exact this
            · exact (hK2.out.trans (k3.mono (fun i _ hi => (.inr hi : Two2 b h i)))).setCell (.inl (.inl rfl)) _)
          clear hsy hb2 c0 o3 k3 hb3 HQ hsr
          go_wp2
          go_ret
          exact HF.out
        · obtain ⟨q1, q2, q3⟩ := Jou.res_full m l xs n hbig hfit
          have he : Dsk.replaceErr (Jou.clean m l) (str (Jou.frames xs)).data.toList = 9 := by rw [str_toList]; unfold Dsk.replaceErr Jou.clean; rw [if_pos (by simp; omega)]
          have hd : Dsk.replace (Jou.clean m l) (str (Jou.frames xs)).data.toList = Jou.clean m l := by rw [str_toList]; unfold Dsk.replace; rw [if_pos (by unfold Jou.clean; simp; omega)]
          rw [he, hd] at hrp
          have HRP := Lib.hid hrp
          have HQ := Lib.hid (And.intro q1 (And.intro q2 q3))
          have HB1 := Lib.hid h1
          clear he hd hfit q1 q2 q3 hrp h1 hfs hbw hbig
          go_wp2_with fail
          refine (HRP.out).mono ?_
          rintro e w2 ⟨rfl, o2, k2⟩
          have HF : Hid (RResEnd b h m l n xs w (.returned (.int .i64 9)) w2) := Lib.hid (by
            obtain ⟨q1, q2, q3⟩ := HQ.out
            refine ⟨by rw [q1], ?_, HK.out.trans (k2.mono (fun i _ hi => (.inr hi : Two2 b h i)))⟩
            rw [q2, q3]
            exact ⟨o2, HB1.out.blk.kept k2 hne.out, hne.out⟩)
          clear o2 k2 HQ c0
          go_wp2
          go_ret
          exact HF.out
      · have hfin : Hid (RResEnd b h m l n xs w (.returned (.int .i64 8)) wr) := Lib.hid (by
          obtain ⟨q1, q2, q3⟩ := Jou.res_big m l xs n hbig
          exact ⟨by rw [q1], by rw [q2, q3]; exact h1, HK.out⟩)
        clear h1 hfs hbig hbw
        go_wp2_with fail
        go_ret
        exact hfin.out
end Go.Proofs.Ytkdbehfmmmlmjaa.JouW
