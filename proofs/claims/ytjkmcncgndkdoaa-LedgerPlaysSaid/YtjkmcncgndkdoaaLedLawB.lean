/-
  Chapter 12: what was taken and given back leaves all as it was, over any world.
-/
import Derived.Test.YtjkmcncgndkdoaaLedOpen
import Derived.Test.YtjkmcncgndkdoaaLedSums
import Derived.Test.YtjkmcncgndkdoaaVList
set_option linter.unusedVariables false
set_option linter.unusedSimpArgs false
namespace Go.Proofs.Ytjkmcncgndkdoaa.Led
open Go.Proofs.Ytjkmcncgndkdoaa
def takes (c : Cfg.C) (l : List Deed) : Nat → U
  | 0 => none_
  | k + 1 => take c (takes c l k) (l.getD k ⟨false, 0, ⟨0, 0, 0⟩⟩).t (l.getD k ⟨false, 0, ⟨0, 0, 0⟩⟩).v
theorem takes_small (c : Cfg.C) (l : List Deed) : ∀ k : Nat, k ≤ 1000 → Small (takes c l k) ((k : Int) * 1048576)
  | 0, _ => fun i => by have := none_small i; show (0 ≤ (none_ i).x ∧ _) ∧ _; simp [takes] at *; omega
  | k + 1, hk => by
    have := take_small (c := c) (l.getD k ⟨false, 0, ⟨0, 0, 0⟩⟩).t (l.getD k ⟨false, 0, ⟨0, 0, 0⟩⟩).v (by omega) (takes_small c l k (by omega))
    have e : ((k : Int) * 1048576) + 1048576 = ((k + 1 : Nat) : Int) * 1048576 := by push_cast; omega
    rw [e] at this
    exact this
theorem take_not {c : Cfg.C} {u : U} {t : Int} {v : Vec.V} (h : takeErr c t v ≠ 0) : take c u t v = u ∧ ((takeErr c t v == 1) = !(Vec.valid v)) := by
  unfold takeErr changeErr at *
  unfold take change
  by_cases hv : Vec.valid v = true
  · rw [if_pos hv] at *
    by_cases hl : Cfg.leaf c t = true
    · rw [if_pos hl] at h; exact absurd rfl h
    · rw [if_pos hv, if_neg hl, if_neg hl, hv]; exact ⟨rfl, rfl⟩
  · rw [if_neg hv] at *
    rw [if_neg hv]
    have : Vec.valid v = false := by simpa using hv
    rw [this]; exact ⟨rfl, rfl⟩
end Go.Proofs.Ytjkmcncgndkdoaa.Led
namespace Go.Proofs.Ytjkmcncgndkdoaa.CfgW
open Go Go.RowKit Go.Proofs.Ytjkmcncgndkdoaa.L

def DeedAt (w : World) (b o : Nat) (d : Led.Deed) : Prop := w.cell? ⟨b, o, none⟩ = some (.bool d.give) ∧ w.cell? ⟨b, o + 1, none⟩ = some (.int .i64 d.t) ∧ w.cell? ⟨b, o + 2, none⟩ = some (.int .i64 d.v.x) ∧ w.cell? ⟨b, o + 3, none⟩ = some (.int .i64 d.v.y) ∧ w.cell? ⟨b, o + 4, none⟩ = some (.int .i64 d.v.z)
theorem row_deed {w : World} {A : Option Addr} {xs : List Led.Deed} (h : RowOf w A 5 ddec xs) {k : Nat} (hk : k < xs.length) : ∃ b o, A = some ⟨b, o, none⟩ ∧ b < w.heap.size ∧ ∀ w', Below w.heap.size w w' → DeedAt w' b (o + k * 5) xs[k] := by
  obtain ⟨b, o, rfl, hlt, hc⟩ := h (by intro e; subst e; simp at hk)
  have hx := List.getElem?_eq_getElem hk
  refine ⟨b, o, rfl, hlt, fun w' hb => ?_⟩
  have key : ∀ j v, (ddec xs[k])[j]? = some v → w'.cell? ⟨b, o + k * 5 + j, none⟩ = some v := fun j v hv => (hb.cell (p := ⟨b, o + k * 5 + j, none⟩) hlt).trans (hc k xs[k] hx j v hv)
  exact ⟨key 0 _ rfl, key 1 _ rfl, key 2 _ rfl, key 3 _ rfl, key 4 _ rfl⟩
theorem check_len {c : Cfg.C} (h : Cfg.check c = 0) : 1 ≤ c.nodes.length ∧ c.nodes.length ≤ 12 ∧ c.hosts.length ≤ 24 := by
  unfold Cfg.check at h
  split at h
  · rename_i hk
    unfold Cfg.ok Cfg.sizesOk Cfg.between at hk
    simp at hk
    omega
  · cases h

set_option maxRecDepth 100000 in
set_option maxHeartbeats 8000000 in
theorem lawledback_any {w : World} {v vl : Value} {c : Cfg.C} {ds : List Led.Deed} (hc : CfgAt w v c) (hd : Deeds w vl ds) (d : Led.Deed) :
    Calls Try.prog 8 #[v, vl, .agg #[.bool d.give, .int .i64 d.t, .int .i64 d.v.x, .int .i64 d.v.y, .int .i64 d.v.z]] w fun e w' => e = .returned (.bool true) ∧ Below w.heap.size w w' := by
  have gC := Lib.hid (rcheck_any hc)
  obtain ⟨v1, v2, rfl, h1, h2⟩ := id hc
  obtain ⟨half, hhalf⟩ : ∃ z, c.half = z := ⟨_, rfl⟩
  obtain ⟨age, hage⟩ : ∃ z, c.age = z := ⟨_, rfl⟩
  rw [hhalf, hage] at gC hc ⊢
  have gN := Lib.hid (fun h => new_any hc h)
  have hck := Lib.hid (fun (h : Cfg.check c = 0) => check_len h)
  obtain ⟨D, cd, rfl, hrD, hlD⟩ := hd
  unfold maxLen at hlD
  have HD := Lib.hid hrD
  obtain ⟨K, hK⟩ : ∃ K, ds.length = K := ⟨_, rfl⟩
  have HK := Lib.hid hK
  rw [hK] at hlD ⊢
  have aw := Lib.hid awake12
  obtain ⟨dg, dt, ⟨x0, x1, x2⟩⟩ := d
  simp only
  have hbx := CBox.new w v1 v2 half age
  have hb0 : Below w.heap.size w ((w.alloc (.cells #[v1, v2, .int .i64 half, .int .i64 age] 25)).alloc (.cells #[.bool dg, .int .i64 dt, .int .i64 x0, .int .i64 x1, .int .i64 x2] 45)) := by (repeat' (first | (with_reducible exact Below.refl _ _) | (with_reducible assumption) | (with_reducible refine Below.alloc ?_ ?_ _) | (with_reducible refine Go.Proofs.Ytjkmcncgndkdoaa.L.below_drewN ?_ _) | (with_reducible refine Below.drew ?_) | (with_reducible refine Below.setCell ?_ ?_ _) | (with_reducible refine Below.frame ?_ _) | go_size))
  have hbx2 : CBox ((w.alloc (.cells #[v1, v2, .int .i64 half, .int .i64 age] 25)).alloc (.cells #[.bool dg, .int .i64 dt, .int .i64 x0, .int .i64 x1, .int .i64 x2] 45)) w.heap.size v1 v2 half age := hbx.on ((Below.refl _ _).alloc (Nat.le_refl _) _)
  have hdx : DeedAt ((w.alloc (.cells #[v1, v2, .int .i64 half, .int .i64 age] 25)).alloc (.cells #[.bool dg, .int .i64 dt, .int .i64 x0, .int .i64 x1, .int .i64 x2] 45)) (w.heap.size + 1) 0 ⟨dg, dt, ⟨x0, x1, x2⟩⟩ := by refine ⟨?_, ?_, ?_, ?_, ?_⟩ <;> simp [go_sem]
  have hsz : ((w.alloc (.cells #[v1, v2, .int .i64 half, .int .i64 age] 25)).alloc (.cells #[.bool dg, .int .i64 dt, .int .i64 x0, .int .i64 x1, .int .i64 x2] 45)).heap.size = w.heap.size + 2 := by simp
  clear hrD hK h1 h2 hc hbx hhalf hage
  go_enter Try.func8, Try.ntmps8
  generalize hwq : (w.alloc (.cells #[v1, v2, .int .i64 half, .int .i64 age] 25)).alloc (.cells #[.bool dg, .int .i64 dt, .int .i64 x0, .int .i64 x1, .int .i64 x2] 45) = wq at *
  have HBX := Lib.hid hbx2
  have HDX : Hid (∀ W, Below wq.heap.size wq W → DeedAt W (w.heap.size + 1) 0 ⟨dg, dt, ⟨x0, x1, x2⟩⟩) := Lib.hid (fun W hW => by
    have key : ∀ o v, wq.cell? ⟨w.heap.size + 1, o, none⟩ = some v → W.cell? ⟨w.heap.size + 1, o, none⟩ = some v := fun o v h => (hW.cell (p := ⟨w.heap.size + 1, o, none⟩) (by show w.heap.size + 1 < wq.heap.size; omega)).trans h
    exact ⟨key _ _ hdx.1, key _ _ hdx.2.1, key _ _ hdx.2.2.1, key _ _ hdx.2.2.2.1, key _ _ hdx.2.2.2.2⟩)
  have Hb0 := Lib.hid hb0
  obtain ⟨hx0, y0, y1, y2, y3⟩ := hbx2
  clear hdx hb0
  go_wp2_with fail
  refine (gC.out _ Hb0.out).mono ?_
  rintro e w2 ⟨rfl, hb2⟩
  have HB2 := Lib.hid hb2
  clear y0 y1 y2 y3 hwq
  obtain ⟨-, y0, y1, y2, y3⟩ := HBX.out.on hb2
  clear hb2
  generalize Cfg.check c = ck at *
  by_cases h0 : ck = 0
  · have t0 : (ck != 0) = false := by simp [h0]
    obtain ⟨hn1, hn12, -⟩ := hck.out h0
    have GN := Lib.hid (gN.out (by omega) w2 (keeps_trans Hb0.out HB2.out))
    clear h0 gN hck gC
    go_wp2_with fail
    refine GN.out.mono ?_
    rintro e w3 ⟨g, mb, u1, rfl, hL, hg, hmb, hb3⟩
    have HL := Lib.hid hL
    have HB3 := Lib.hid (keeps_trans HB2.out hb3)
    have Hm := Lib.hid (Nat.le_trans HB2.out.size hmb)
    clear hL hb3 y0 y1 y2 y3 GN hg hmb
    go_wp2_with fail
    go_loopw [8] (fun i wr => ∃ k : Nat, i = .int .i64 (k : Int) ∧ k ≤ K ∧ k ≤ 60 ∧ LedAt wr g mb u1 v2 half age c (Led.takes c ds k) ∧ Below wq.heap.size wq wr) (fun i _ => 60 - (intOf i).toNat)
    case atStart => exact ⟨0, rfl, by omega, by omega, HL.out, HB3.out⟩
    case round =>
      obtain ⟨k, rfl, hk, hk60, hl, hb⟩ := hrel
      rename World => wr
      have HLk := Lib.hid hl
      have HBk := Lib.hid hb
      clear hl hb
      by_cases hkn : k < K ∧ k < 60
      · obtain ⟨hkK, hk6⟩ := hkn
        have hkd : k < ds.length := by rw [HK.out]; exact hkK
        obtain ⟨bd, od, rfl, hltd, hcd⟩ := row_deed HD.out hkd
        obtain ⟨p0, p1, p2, p3, p4⟩ := hcd wr (keeps_trans Hb0.out HBk.out)
        have hbd : bd < wr.heap.size := Nat.lt_of_lt_of_le hltd (keeps_trans Hb0.out HBk.out).size
        have hst := Lib.hid (show Led.takes c ds (k + 1) = Led.take c (Led.takes c ds k) ds[k].t ds[k].v by
          have e : ds.getD k ⟨false, 0, ⟨0, 0, 0⟩⟩ = ds[k] := by rw [List.getD_eq_getElem?_getD, List.getElem?_eq_getElem hkd, Option.getD_some]
          rw [← e]; rfl)
        have gT := Lib.hid (fun W (hW : LedAt W g mb u1 v2 half age c (Led.takes c ds k)) => ltake_any hW ds[k].t ds[k].v)
        generalize ds[k] = dk at *
        obtain ⟨kg, kt, ⟨z0, z1, z2⟩⟩ := dk
        simp only at p0 p1 p2 p3 p4
        have t60 : decide ((k : Int) < 60) = true := by simp; omega
        have P1 := fun W (h : Onward wr W) => h.cell hbd p1
        have P2 := fun W (h : Onward wr W) => h.cell hbd p2
        have P3 := fun W (h : Onward wr W) => h.cell hbd p3
        have P4 := fun W (h : Onward wr W) => h.cell hbd p4
        clear hcd hkd hltd p0 p1 p2 p3 p4
        go_wp2_with fail
        refine region_keep_tail 11 (by kernel_rfl) (by kernel_rfl) ?_
        simp only [List.take_succ_cons, List.take_zero, List.drop_succ_cons, List.drop_zero]
        repeat (apply Go.Proofs.Ytjkmcncgndkdoaa.L.wpKeep_yes; (focus rfl); (focus (intro W hW; go_simp; first | done | exact ⟨rfl, hW⟩ | rfl)); (focus (go_simp; first | done | rfl)))
        refine wpKeep_nil ?_
        intro W hW
        have HW := Lib.hid (keeps_trans HBk.out hW)
        have GT := Lib.hid (gT.out W (HLk.out.on hW))
        clear P1 P2 P3 P4 hW gT
        go_wp2_with fail
        refine GT.out.mono ?_
        rintro e w5 ⟨rfl, hL5, hk5⟩
        have HE := Lib.hid (show LedAt w5 g mb u1 v2 half age c (Led.takes c ds (k + 1)) ∧ Below wq.heap.size wq w5 by
          rw [hst.out]
          exact ⟨hL5, HW.out.trans (hk5.below HW.out.size (fun i e => by rw [e]; exact Hm.out))⟩)
        clear hL5 hk5 GT
        go_wp2_with fail
        go_roundw
        case rel => exact ⟨k + 1, by go_num, by omega, by omega, HE.out.1, HE.out.2⟩
        case measure => simp [intOf]; omega
      · have hsm := Led.takes_small c ds k (by omega)
        generalize Led.takes c ds k = u at *
        have HT := Lib.hid (fun (h : Led.takeErr c dt ⟨x0, x1, x2⟩ = 0) => Led.take_give dt ⟨x0, x1, x2⟩ (by omega) (by omega) hsm h)
        have HN := Lib.hid (fun (h : Led.takeErr c dt ⟨x0, x1, x2⟩ ≠ 0) => Led.take_not (u := u) h)
        have gA := Lib.hid (lall_any HLk.out (by omega))
        have gT := Lib.hid (fun W (hW : LedAt W g mb u1 v2 half age c u) => ltake_any hW dt ⟨x0, x1, x2⟩)
        have Hmw := Lib.hid HLk.out.mlt
        clear hsm
        by_cases hkK : k < K
        all_goals
          have hkd : (k < 60) = False ∨ (k < K) = False := by first | exact .inr (eq_false hkK) | (left; exact eq_false (fun h => hkn ⟨hkK, h⟩))
          have ht60 : k < K → decide ((k : Int) < 60) = false := fun h => by simp; omega
          first | have ht := ht60 hkK | have ht : decide (k < K) = false := by simpa using hkK
          clear hkd ht60 hkn
          go_wp2_with fail
          refine gA.out.mono ?_
          rintro e w4 ⟨v9, rfl, hv9, hb4⟩
          have HB4 := Lib.hid (keeps_trans HBk.out hb4)
          have GT := Lib.hid (gT.out w4 (HLk.out.on hb4))
          have HV9 := Lib.hid hv9
          have Hs4 := Lib.hid hb4.size
          obtain ⟨d0, d1, d2, d3, d4⟩ := HDX.out _ HB4.out
          simp only [Nat.zero_add] at d0 d1 d2 d3 d4
          clear hb4 hv9 gA gT
          go_wp2_with fail
          refine GT.out.mono ?_
          rintro e w5 ⟨rfl, hL5, hk5⟩
          have HB5 := Lib.hid (HB4.out.trans (hk5.below HB4.out.size (fun i e => by rw [e]; exact Hm.out)))
          have HL5 := Lib.hid hL5
          have HV5 := Lib.hid (HV9.out.kept (fun b hb => hk5.block b (HV9.out.lt b hb).2 (fun e => by have := (HV9.out.lt b hb).1; have := Hmw.out; omega)))
          clear d0 d1 d2 d3 d4 hL5 hk5 GT
          obtain ⟨d0, d1, d2, d3, d4⟩ := HDX.out _ HB5.out
          simp only [Nat.zero_add] at d0 d1 d2 d3 d4
          obtain ⟨te, hte⟩ : ∃ te, Led.takeErr c dt ⟨x0, x1, x2⟩ = te := ⟨_, rfl⟩
          rw [hte] at HT HN ⊢
          clear hte
          by_cases he0 : te = 0
          · have hq := HT.out he0
            have gG := Lib.hid (lgive_any HL5.out dt ⟨x0, x1, x2⟩)
            rw [hq.1, hq.2] at gG
            have tn : (te != 0) = false := by simp [he0]
            clear hq he0
            go_wp2_with fail
            refine gG.out.mono ?_
            rintro e w6 ⟨rfl, hL6, hk6⟩
            have HB6 := Lib.hid (HB5.out.trans (hk6.below HB5.out.size (fun i e => by rw [e]; exact Hm.out)))
            have gA6 := Lib.hid (lall_any hL6 (by omega))
            have HV6 := Lib.hid (HV5.out.kept (fun b hb => hk6.block b (HV5.out.lt b hb).2 (fun e => by have := (HV5.out.lt b hb).1; have := Hmw.out; omega)))
            clear d0 d1 d2 d3 d4 hL6 hk6 gG
            go_wp2_with fail
            refine gA6.out.mono ?_
            rintro e w7 ⟨v7, rfl, hv7, hb7⟩
            have HB7 := Lib.hid (keeps_trans HB6.out hb7)
            have gL := Lib.hid (list_same hv7.sl (HV6.out.below hb7).sl)
            clear hv7 hb7
            go_wp2_with fail
            refine (gL.out _ (Below.refl _ _)).mono ?_
            rintro e w8 ⟨rfl, hb8⟩
            have HB8 := Lib.hid (keeps_trans HB7.out hb8)
            clear hb8
            go_wp2_with fail
            refine (aw.out _).mono ?_
            rintro e w10 ⟨rfl, hb10⟩
            have HB10 := Lib.hid (keeps_trans HB8.out hb10)
            clear hb10
            go_wp2_with fail
            go_ret
            exact ⟨rfl, keeps_trans Hb0.out HB10.out⟩
          · obtain ⟨hq1, hq2⟩ := HN.out he0
            have hl6 := HL5.out
            rw [hq1] at hl6
            have gA6 := Lib.hid (lall_any hl6 (by omega))
            have gv := VecW.grvalid ⟨x0, x1, x2⟩
            generalize Vec.valid ⟨x0, x1, x2⟩ = q at *
            have Gv := Lib.hid (show Gives Try.prog 36 #[.agg #[.int .i64 x0, .int .i64 x1, .int .i64 x2]] (.bool q) from gv)
            have tn : (te != 0) = true := by simp [he0]
            clear hq1 hl6 he0 gv d0 d1 d2 d3 d4
            go_wp2_with fail
            refine gA6.out.mono ?_
            rintro e w7 ⟨v7, rfl, hv7, hb7⟩
            have HB7 := Lib.hid (keeps_trans HB5.out hb7)
            have gL := Lib.hid (list_same hv7.sl (HV5.out.below hb7).sl)
            clear hv7 hb7
            go_wp2_with fail
            refine (gL.out _ (Below.refl _ _)).mono ?_
            rintro e w8 ⟨rfl, hb8⟩
            have HB8 := Lib.hid (keeps_trans HB7.out hb8)
            obtain ⟨d0, d1, d2, d3, d4⟩ := HDX.out _ HB8.out
            simp only [Nat.zero_add] at d0 d1 d2 d3 d4
            clear hb8
            go_wp2_with fail
            refine (Gv.out _).mono ?_
            rintro e w9 ⟨rfl, hb9⟩
            have HB9 := Lib.hid (keeps_trans HB8.out hb9)
            clear hb9 d0 d1 d2 d3 d4
            have hq3 : ((te == 1) == !q) = true := by rw [hq2]; simp
            cases q
            all_goals
              simp only [Bool.not_true, Bool.not_false] at hq2
              go_wp2_with fail
              refine (aw.out _).mono ?_
              rintro e w10 ⟨rfl, hb10⟩
              have HB10 := Lib.hid (keeps_trans HB9.out hb10)
              clear hb10
              go_wp2_with fail
              go_ret
              exact ⟨rfl, keeps_trans Hb0.out HB10.out⟩
  · have t0 : (ck != 0) = true := by simp [h0]
    clear h0
    go_wp2_with fail
    refine (aw.out _).mono ?_
    rintro e w3 ⟨rfl, hb3⟩
    have HB3 := Lib.hid (keeps_trans HB2.out hb3)
    clear hb3
    go_wp2_with fail
    go_ret
    exact ⟨rfl, keeps_trans Hb0.out HB3.out⟩
end Go.Proofs.Ytjkmcncgndkdoaa.CfgW
