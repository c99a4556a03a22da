/-
  Chapter 16: what was taken and given back leaves all as it was, over any world.
-/
import Derived.Test.YtjkmcncgndkdoaaHostAwake
import Derived.Test.YtjkmcncgndkdoaaHostBack
set_option linter.unusedVariables false
set_option linter.unusedSimpArgs false
namespace Go.Proofs.Ytjkmcncgndkdoaa.CfgW
open Go.RowKit Go.Proofs.Ytjkmcncgndkdoaa.L

set_option maxRecDepth 100000 in
set_option maxHeartbeats 8000000 in
theorem lawback_any {w : World} {vf vl : Value} {free : List Vec.V} {l : List Int} (hf : VSl w vf free) (hl : ISl w vl l) (need : Vec.V) : Calls Try.prog 12 #[vf, vl, need.val] w fun e w' => e = .returned (.bool true) ∧ Below w.heap.size w w' := by
  have hf0 := hf
  have hl0 := hl
  obtain ⟨A, ca, rfl, hrA, hlA⟩ := hf
  obtain ⟨C, cc, rfl, hrC, hlC⟩ := hl
  unfold maxLen at hlA hlC
  have gT := Lib.hid (fun h w1 hb => take_any hf0 hl0 need h w1 hb)
  have gG := Lib.hid (fun (w2 : World) (va : Value) (a : List Vec.V) (ha : VSl w2 va a) (h2 : Below w.heap.size w w2) (hl : a.length ≤ 1000000) => give_any ha (hl0.below h2) need hl w2 (Below.refl _ _))
  have LB := Lib.hid (fun (hn : Vec.valid need = true) (hv : ∀ v ∈ free, Vec.valid v = true) (hl : l.length ≤ 200) => Hst.back need hn free hv l hl)
  have LF := Lib.hid (fun (hn : Vec.valid need = true) (hv : ∀ v ∈ free, Vec.valid v = true) (hl : l.length ≤ 200) hf i hi hi' => Hst.taken_fits need hn free hv l hl hf i hi hi')
  have HF0 := Lib.hid hf0
  have HA := Lib.hid hrA
  obtain ⟨M, hM⟩ : ∃ M, free.length = M := ⟨_, rfl⟩
  obtain ⟨L, hL⟩ : ∃ L, l.length = L := ⟨_, rfl⟩
  have HM := Lib.hid hM
  have HL := Lib.hid hL
  have HMay := Lib.hid (show ∀ a : List Vec.V, a.length = M → Hst.may a l need = Hst.may free l need from fun a ha => by unfold Hst.may; rw [ha, hM])
  have HVal := Lib.hid (show Hst.may free l need = true → Vec.valid need = true from fun h => by unfold Hst.may at h; simp only [Bool.and_eq_true] at h; exact h.1)
  have HOl := Lib.hid (Hst.gang_length Vec.sub need l free)
  obtain ⟨n0, n1, n2⟩ := need
  rw [hM] at hlA gT HF0 HOl ⊢
  rw [hL] at hlC gT LB LF ⊢
  clear hrA hrC hf0 hl0 hM hL
  have aw := Lib.hid awake16
  have hbx : VBox3 (w.alloc (.cells #[.int .i64 n0, .int .i64 n1, .int .i64 n2] 33)) w.heap.size 0 ⟨n0, n1, n2⟩ := by refine ⟨by simp, ?_, ?_, ?_⟩ <;> simp [go_sem]
  have hbw : Below w.heap.size w (w.alloc (.cells #[.int .i64 n0, .int .i64 n1, .int .i64 n2] 33)) := (Below.refl _ _).alloc (Nat.le_refl _) _
  show Calls Try.prog 12 #[.slice A M ca, .slice C L cc, .agg #[.int .i64 n0, .int .i64 n1, .int .i64 n2]] w _
  go_enter Try.func12, Try.ntmps12
  generalize hwq : w.alloc (.cells #[.int .i64 n0, .int .i64 n1, .int .i64 n2] 33) = wq at *
  have HBX := Lib.hid hbx
  clear hbx
  by_cases h1 : 200 < M
  · have t1 : decide ((200 : Int) < (M : Int)) = true := by simp; omega
    clear h1
    go_wp2_with fail
    refine (aw.out _).mono ?_
    rintro e w2 ⟨rfl, hb2⟩
    have hb3 := keeps_trans hbw hb2
    go_wp2_with fail
    go_ret
    exact ⟨rfl, hb3⟩
  have t1 : decide ((200 : Int) < (M : Int)) = false := by simp; omega
  by_cases h2 : 200 < L
  · have t2 : decide ((200 : Int) < (L : Int)) = true := by simp; omega
    clear h1 h2
    go_wp2_with fail
    refine (aw.out _).mono ?_
    rintro e w2 ⟨rfl, hb2⟩
    have hb3 := keeps_trans hbw hb2
    go_wp2_with fail
    go_ret
    exact ⟨rfl, hb3⟩
  have t2 : decide ((200 : Int) < (L : Int)) = false := by simp; omega
  have hM2 : M ≤ 200 := by omega
  have hL2 := Lib.hid (show L ≤ 200 by omega)
  clear h1 h2
  have Hbw := Lib.hid hbw
  clear hbw
  go_wp2_with fail
  clear hwq
  go_loopw [7] (fun i wr => ∃ j : Nat, i = .int .i64 (j : Int) ∧ j ≤ M ∧ Hid (∀ v ∈ free.take j, Vec.valid v = true) ∧ Below wq.heap.size wq wr) (fun i _ => M - (intOf i).toNat)
  case atStart => exact ⟨0, rfl, by omega, Lib.hid (fun v hv => by simp at hv), Below.refl _ _⟩
  case round =>
    obtain ⟨j, rfl, hj, hval, hb⟩ := hrel
    rename World => wx
    by_cases hjn : j < M
    · have hja : j < free.length := by rw [HM.out]; exact hjn
      obtain ⟨ba, oa, rfl, hlt1, hc1⟩ := row_vec HA.out hja
      obtain ⟨p0, p1, p2⟩ := hc1 wx (keeps_trans Hbw.out hb)
      have gv := Lib.hid (VecW.grvalid free[j])
      have hst : Hid (Vec.valid free[j] = true → ∀ v ∈ free.take (j + 1), Vec.valid v = true) := Lib.hid (fun hv v hm => by
        rw [List.take_succ_eq_append_getElem hja, List.mem_append, List.mem_singleton] at hm
        rcases hm with hm | rfl
        · exact hval.out v hm
        · exact hv)
      generalize free[j] = v at *
      generalize Vec.valid v = q at *
      obtain ⟨x, y, z⟩ := v
      unfold Vec.V.val at gv
      simp only at p0 p1 p2
      have Hb := Lib.hid hb
      clear hc1 hb
      go_wp2_with fail
      refine (gv.out _).mono ?_
      rintro e w3 ⟨rfl, hb3⟩
      have HB3 := Lib.hid (keeps_trans Hb.out hb3)
      clear hb3 p0 p1 p2
      cases q
      · go_wp2_with fail
        refine (aw.out _).mono ?_
        rintro e w4 ⟨rfl, hb4⟩
        have HB4 := Lib.hid (keeps_trans HB3.out hb4)
        clear hb4
        go_wp2_with fail
        go_ret
        exact ⟨rfl, keeps_trans Hbw.out HB4.out⟩
      · go_wp2_with fail
        go_roundw
        case rel => exact ⟨j + 1, by go_num, by omega, Lib.hid (hst.out trivial), HB3.out⟩
        case measure => simp [intOf]; omega
    · have HAll := Lib.hid (show ∀ v ∈ free, Vec.valid v = true by have := hval.out; rwa [List.take_of_length_le (by rw [HM.out]; omega)] at this)
      have Hb := Lib.hid hb
      have hjd : decide (j < M) = false := by simp; omega
      obtain ⟨-, x0, x1, x2⟩ := HBX.out.on hb
      simp only at x0 x1 x2
      clear hb hval hjn
      have gt : Calls Try.prog 43 #[.slice A M ca, .slice C L cc, .agg #[.int .i64 n0, .int .i64 n1, .int .i64 n2]] wx _ := gT.out (by omega) wx (keeps_trans Hbw.out Hb.out)
      have GT := Lib.hid gt
      clear gt gT
      go_wp2_with fail
      refine GT.out.mono ?_
      intro e w2 ht
      have hcase : (∃ n : Int, (n != 0) = true ∧ DoNo n wx e w2) ∨ (Hst.may free l ⟨n0, n1, n2⟩ = true ∧ Hst.fine (Hst.gang Vec.sub ⟨n0, n1, n2⟩ l free) l = true ∧ DoYes (Hst.gang Vec.sub ⟨n0, n1, n2⟩ l free) wx e w2) := by
        unfold TakeEnd at ht
        by_cases hq : Hst.may free l ⟨n0, n1, n2⟩ = true
        · rw [if_pos hq] at ht
          by_cases hs : Hst.fine (Hst.gang Vec.sub ⟨n0, n1, n2⟩ l free) l = true
          · rw [if_pos hs] at ht; exact .inr ⟨hq, hs, ht⟩
          · rw [if_neg hs] at ht; exact .inl ⟨12, by decide, ht⟩
        · rw [if_neg hq] at ht; exact .inl ⟨1, by decide, ht⟩
      clear ht GT
      rcases hcase with ⟨n, hn, rfl, hb2⟩ | ⟨hq, hs, v, rfl, hr, hb2⟩
      · have HB2 := Lib.hid (keeps_trans Hb.out hb2)
        clear hb2 x0 x1 x2
        go_wp2_with fail
        refine (aw.out _).mono ?_
        rintro e w3 ⟨rfl, hb3⟩
        have HB3 := Lib.hid (keeps_trans HB2.out hb3)
        clear hb3
        go_wp2_with fail
        go_ret
        exact ⟨rfl, keeps_trans Hbw.out HB3.out⟩
      · have HMy := Lib.hid ((HMay.out _ HOl.out).trans hq)
        have HBk := Lib.hid (LB.out (HVal.out hq) HAll.out hL2.out)
        have HFt := Lib.hid (LF.out (HVal.out hq) HAll.out hL2.out hs)
        clear LB LF
        generalize Hst.gang Vec.sub ⟨n0, n1, n2⟩ l free = O at *
        obtain ⟨Av, cv, rfl, hsm⟩ := hr.form
        have hOM : O.length = M := HOl.out
        rw [hOM] at hr hsm
        have HS := Lib.hid hsm
        have HR := Lib.hid hr
        have HB2 := Lib.hid (keeps_trans Hb.out hb2)
        rw [hOM]
        clear hr hsm hOM x0 x1 x2 hq hs hb2
        go_wp2_with fail
        go_loopw [10] (fun i wr => ∃ j : Nat, i = .int .i64 (j : Int) ∧ j ≤ M ∧ Below w2.heap.size w2 wr) (fun i _ => M - (intOf i).toNat)
        case atStart => exact ⟨0, rfl, by omega, Below.refl _ _⟩
        case round =>
          obtain ⟨j, rfl, hj, hb⟩ := hrel
          rename World => wr
          by_cases hjn : j < M
          · have hja : j < free.length := by rw [HM.out]; exact hjn
            have hjo : j < O.length := by rw [HOl.out]; exact hjn
            obtain ⟨ba, oa, rfl, hlt1, hc1⟩ := row_vec HA.out hja
            obtain ⟨p0, p1, p2⟩ := hc1 wr (keeps_trans Hbw.out (keeps_trans HB2.out hb))
            obtain ⟨G, rfl⟩ := HS.out (by omega)
            obtain ⟨-, -, hlG, q0, q1, q2⟩ := (HR.out.below hb).at_ hjo
            obtain ⟨f1, f2⟩ := HFt.out j hja hjo
            have hba : ba < wr.heap.size := Nat.lt_of_lt_of_le hlt1 (keeps_trans Hbw.out (keeps_trans HB2.out hb)).size
            have g1 := VecW.grfits Vec.zero O[j]
            have g2 := VecW.grfits O[j] free[j]
            rw [f1] at g1
            rw [f2] at g2
            generalize free[j] = v at *
            generalize O[j] = z at *
            obtain ⟨x, y, z'⟩ := v
            obtain ⟨a, b, c⟩ := z
            replace g1 : Gives Try.prog 35 #[.agg #[.int .i64 0, .int .i64 0, .int .i64 0], .agg #[.int .i64 a, .int .i64 b, .int .i64 c]] (.bool true) := g1
            replace g2 : Gives Try.prog 35 #[.agg #[.int .i64 a, .int .i64 b, .int .i64 c], .agg #[.int .i64 x, .int .i64 y, .int .i64 z']] (.bool true) := g2
            simp only at p0 p1 p2 q0 q1 q2
            have HH := Lib.hid hb
            have P0 := fun W (k : Onward wr W) => k.cell hba p0
            have P1 := fun W (k : Onward wr W) => k.cell hba p1
            have P2 := fun W (k : Onward wr W) => k.cell hba p2
            have Q0 := fun W (k : Onward wr W) => k.cell hlG q0
            have Q1 := fun W (k : Onward wr W) => k.cell hlG q1
            have Q2 := fun W (k : Onward wr W) => k.cell hlG q2
            clear hc1 hb f1 f2 hja hjo hlt1 p0 p1 p2 q0 q1 q2
            go_wp2_with fail
            refine region_keep (by kernel_rfl) (by kernel_rfl) ?_
            repeat (apply Go.Proofs.Ytjkmcncgndkdoaa.L.wpKeep_yes; (focus rfl); (focus (intro W hW; go_simp; first | done | exact ⟨rfl, hW⟩ | rfl)); (focus (go_simp; first | done | rfl)))
            (apply Go.Proofs.Ytjkmcncgndkdoaa.L.wpKeep_yes; (focus rfl); (focus (intro W hW; go_simp; first | exact Go.Proofs.Ytjkmcncgndkdoaa.L.Gives.up g1 hW | exact ⟨hW, Go.Proofs.Ytjkmcncgndkdoaa.L.Gives.up g1 hW⟩)); (focus (go_simp; first | done | rfl)))
            repeat (apply Go.Proofs.Ytjkmcncgndkdoaa.L.wpKeep_yes; (focus rfl); (focus (intro W hW; go_simp; first | done | exact ⟨rfl, hW⟩ | rfl)); (focus (go_simp; first | done | rfl)))
            (apply Go.Proofs.Ytjkmcncgndkdoaa.L.wpKeep_yes; (focus rfl); (focus (intro W hW; go_simp; first | exact Go.Proofs.Ytjkmcncgndkdoaa.L.Gives.up g2 hW | exact ⟨hW, Go.Proofs.Ytjkmcncgndkdoaa.L.Gives.up g2 hW⟩)); (focus (go_simp; first | done | rfl)))
            repeat (apply Go.Proofs.Ytjkmcncgndkdoaa.L.wpKeep_yes; (focus rfl); (focus (intro W hW; go_simp; first | done | exact ⟨rfl, hW⟩ | rfl)); (focus (go_simp; first | done | rfl)))
            refine wpKeep_nil ?_
            intro W hW
            have HW := Lib.hid (keeps_trans HH.out hW)
            clear hW P0 P1 P2 Q0 Q1 Q2
            go_wp2_with fail
            go_roundw
            case rel => exact ⟨j + 1, by go_num, by omega, HW.out⟩
            case measure => simp [intOf]; omega
          · have HBr := Lib.hid (keeps_trans HB2.out hb)
            have HRr := Lib.hid (HR.out.below hb)
            obtain ⟨-, x0, x1, x2⟩ := HBX.out.on HBr.out
            simp only at x0 x1 x2
            have gg := gG.out wr _ O HRr.out.sl (keeps_trans Hbw.out HBr.out) (by rw [HOl.out]; omega)
            unfold GiveEnd at gg
            simp only [HMy.out, HBk.out, HL.out, if_true] at gg
            replace gg : Calls Try.prog 44 #[.slice Av M cv, .slice C L cc, .agg #[.int .i64 n0, .int .i64 n1, .int .i64 n2]] wr _ := gg
            have GG := Lib.hid gg
            clear gg hb gG
            go_wp2_with fail
            refine GG.out.mono ?_
            rintro e w3 ⟨v3, rfl, hr3, hb3⟩
            have HB3 := Lib.hid (keeps_trans HBr.out hb3)
            have HF3 := Lib.hid (HF0.out.below (keeps_trans Hbw.out HB3.out))
            have gl := Lib.hid (list_same hr3.sl HF3.out)
            clear hr3 hb3 x0 x1 x2
            go_wp2_with fail
            refine (gl.out _ (by (repeat' (first | (with_reducible exact Below.refl _ _) | (with_reducible assumption) | (with_reducible refine Below.alloc ?_ ?_ _) | (with_reducible refine Go.Proofs.Ytjkmcncgndkdoaa.L.below_drewN ?_ _) | (with_reducible refine Below.drew ?_) | (with_reducible refine Below.setCell ?_ ?_ _) | (with_reducible refine Below.frame ?_ _) | go_size)))).mono ?_
            rintro e w4 ⟨rfl, hb4⟩
            have HB4 := Lib.hid (keeps_trans HB3.out hb4)
            clear hb4
            go_wp2_with fail
            refine (aw.out _).mono ?_
            rintro e w5 ⟨rfl, hb5⟩
            have HB5 := Lib.hid (keeps_trans HB4.out hb5)
            clear hb5
            go_wp2_with fail
            go_ret
            exact ⟨rfl, keeps_trans Hbw.out HB5.out⟩
end Go.Proofs.Ytjkmcncgndkdoaa.CfgW
