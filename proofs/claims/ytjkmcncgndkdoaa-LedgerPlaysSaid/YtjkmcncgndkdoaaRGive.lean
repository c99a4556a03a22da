/-
  The reference's ledger: given back to.
-/
import Derived.Test.YtjkmcncgndkdoaaRLed
set_option linter.unusedVariables false
set_option linter.unusedSimpArgs false
namespace Go.Proofs.Ytjkmcncgndkdoaa.CfgW
open Go Go.RowKit Go.Proofs.Ytjkmcncgndkdoaa.L

theorem give_cases (c : Cfg.C) (u : Led.U) (t : Int) (v : Vec.V) :
    (Vec.valid v = false → Led.giveErr c u t v = 1 ∧ Led.give c u t v = u) ∧ (Vec.valid v = true → Cfg.leaf c t = false → Vec.fits v Vec.zero = false → Led.giveErr c u t v = 1 ∧ Led.give c u t v = u) ∧
    (Vec.valid v = true → Cfg.leaf c t = false → Vec.fits v Vec.zero = true → Led.giveErr c u t v = 3 ∧ Led.give c u t v = u) ∧
    (Vec.valid v = true → Cfg.leaf c t = true → Vec.fits v (u t.toNat) = false → Led.giveErr c u t v = 1 ∧ Led.give c u t v = u) ∧
    (Vec.valid v = true → Cfg.leaf c t = true → Vec.fits v (u t.toNat) = true → Led.giveErr c u t v = 0 ∧ Led.give c u t v = Led.bump (fun a => Vec.sub a v) u (Tree.up c t)) := by
  unfold Led.giveErr Led.give Led.mayGive Led.leafUsed Led.changeErr Led.change
  refine ⟨fun h => by simp [h], fun h1 h2 h3 => by simp [h1, h2, h3], fun h1 h2 h3 => by simp [h1, h2, h3], fun h1 h2 h3 => by simp [h1, h2, h3], fun h1 h2 h3 => by simp [h1, h2, h3]⟩

set_option maxRecDepth 100000 in
set_option maxHeartbeats 4000000 in
theorem rgive_any {w0 w : World} {g rb cp : Nat} {v1 v2 : Value} {half age : Int} {c : Cfg.C} {u : Led.U} (h0 : CfgAt w0 (.agg #[v1, v2, .int .i64 half, .int .i64 age]) c) (hw0 : w0.heap.size ≤ rb) (h : RLedAt w g rb cp v1 v2 half age c u) (hN : c.nodes.length ≤ 1000000) (t : Int) (v : Vec.V) :
    Calls Try.prog 27 #[.pointer (some ⟨g, 0, none⟩), .int .i64 t, v.val] w fun e w' => RLedEnd (Led.giveErr c u t v) g rb cp v1 v2 half age c (Led.give c u t v) w e w' := by
  have gv := VecW.grvalid v
  have gl := rleaf_any h.cfg t
  have gp := Lib.hid (fun W hW => rpath_any h.cfg hN t W hW)
  have ga := Lib.hid (fun a => VecW.grsub a v)
  have H := Lib.hid h
  have h4 := h.ptr
  have hg := h.box.1
  obtain ⟨hgb, c0, c1, c2, c3⟩ := h.box
  have hrb := h.rlt
  have F := Lib.hid (give_cases c u t v)
  have hlt := Lib.hid (fun (h : Cfg.leaf c t = true) => Tree.leaf_lt h)
  obtain ⟨n, hn⟩ : ∃ n, Led.giveErr c u t v = n := ⟨_, rfl⟩
  obtain ⟨u', hu'⟩ : ∃ u', Led.give c u t v = u' := ⟨_, rfl⟩
  rw [hn, hu'] at F ⊢
  clear hn hu'
  have Hpn := Lib.hid (path_nodup c t)
  have Hpl := Lib.hid (path_lt c t)
  have Hpb := Lib.hid (path_bump c t (fun a => Vec.sub a v) u)
  generalize Tree.path c t = PT at *
  obtain ⟨q, hq⟩ : ∃ q, Vec.valid v = q := ⟨_, rfl⟩
  obtain ⟨s, hs⟩ : ∃ s, Cfg.leaf c t = s := ⟨_, rfl⟩
  rw [hq] at gv F
  rw [hs] at gl F hlt
  clear hq hs h
  have hx3 : VBox3 (w.alloc (.cells #[.int .i64 v.x, .int .i64 v.y, .int .i64 v.z] 33)) w.heap.size 0 v := by refine ⟨by simp, ?_, ?_, ?_⟩ <;> simp [go_sem]
  have hb0 : Below w.heap.size w (w.alloc (.cells #[.int .i64 v.x, .int .i64 v.y, .int .i64 v.z] 33)) := (Below.refl _ _).alloc (Nat.le_refl _) _
  obtain ⟨x0, x1, x2⟩ := v
  have Gv := Lib.hid (show Gives Try.prog 36 #[.agg #[.int .i64 x0, .int .i64 x1, .int .i64 x2]] (.bool q) from gv)
  have Gl := Lib.hid gl
  have HX := Lib.hid hx3
  have Hb0 := Lib.hid hb0
  have hsz : (w.alloc (.cells #[.int .i64 x0, .int .i64 x1, .int .i64 x2] 33)).heap.size = w.heap.size + 1 := by simp
  clear gv gl hx3 hb0 c0 c1 c2 c3
  show Calls Try.prog 27 #[.pointer (some ⟨g, 0, none⟩), .int .i64 t, .agg #[.int .i64 x0, .int .i64 x1, .int .i64 x2]] w _
  go_enter Try.func27, Try.ntmps27
  go_wp2_with fail
  refine (Gv.out _).mono ?_
  rintro e w2 ⟨rfl, hb2⟩
  have HX2 := Lib.hid (HX.out.on hb2)
  have HB2 := Lib.hid (keeps_trans Hb0.out hb2)
  have hs2 : w.heap.size < w2.heap.size := by have := hb2.size; omega
  clear hb2 HX hsz
  cases q
  · have hE := Lib.hid (show RLedEnd n g rb cp v1 v2 half age c u' w (.returned (.int .i64 1)) w2 by
      obtain ⟨e1, e2⟩ := F.out.1 (by simp)
      rw [e1, e2]; exact ⟨rfl, H.out.on HB2.out, Kept.of_below HB2.out⟩)
    go_wp2_with fail
    go_ret
    exact hE.out
  obtain ⟨-, c0, c1, c2, c3⟩ := (H.out.on HB2.out).box
  go_wp2_with fail
  refine (Gl.out _ HB2.out).mono ?_
  rintro e w3 ⟨rfl, hb3⟩
  have HB3 := Lib.hid (keeps_trans HB2.out hb3)
  have HX3 := Lib.hid (HX2.out.on hb3)
  clear hb3 c0 c1 c2 c3 HX2
  cases s
  · obtain ⟨r, hr⟩ : ∃ r, Vec.fits ⟨x0, x1, x2⟩ Vec.zero = r := ⟨_, rfl⟩
    have gf := VecW.grfits ⟨x0, x1, x2⟩ Vec.zero
    rw [hr] at gf F
    have Gf := Lib.hid (show Gives Try.prog 35 #[.agg #[.int .i64 x0, .int .i64 x1, .int .i64 x2], .agg #[.int .i64 0, .int .i64 0, .int .i64 0]] (.bool r) from gf)
    obtain ⟨-, d0, d1, d2⟩ := HX3.out
    simp only [Nat.zero_add] at d0 d1 d2
    clear gf hr
    go_wp2_with fail
    refine (Gf.out _).mono ?_
    rintro e w9 ⟨rfl, hb9⟩
    have HB9 := Lib.hid (keeps_trans HB3.out hb9)
    clear hb9 d0 d1 d2
    cases r
    · have hE := Lib.hid (show RLedEnd n g rb cp v1 v2 half age c u' w (.returned (.int .i64 1)) w9 by
        obtain ⟨e1, e2⟩ := F.out.2.1 (by simp) (by simp) (by simp)
        rw [e1, e2]; exact ⟨rfl, H.out.on HB9.out, Kept.of_below HB9.out⟩)
      go_wp2_with fail
      go_ret
      exact hE.out
    · have hE := Lib.hid (show RLedEnd n g rb cp v1 v2 half age c u' w (.returned (.int .i64 3)) w9 by
        obtain ⟨e1, e2⟩ := F.out.2.2.1 (by simp) (by simp) (by simp)
        rw [e1, e2]; exact ⟨rfl, H.out.on HB9.out, Kept.of_below HB9.out⟩)
      go_wp2_with fail
      go_ret
      exact hE.out
  obtain ⟨ht0, ht1⟩ := hlt.out (by simp)
  obtain ⟨tn, rfl⟩ := Int.eq_ofNat_of_zero_le ht0
  have htn : tn < c.nodes.length := by omega
  obtain ⟨r, hr⟩ : ∃ r, Vec.fits ⟨x0, x1, x2⟩ (u tn) = r := ⟨_, rfl⟩
  have gf := VecW.grfits ⟨x0, x1, x2⟩ (u tn)
  rw [hr] at gf
  have hF := F.out.2.2.2
  rw [Int.toNat_natCast, hr] at hF
  have HF := Lib.hid hF
  have hL3 := H.out.on HB3.out
  have hat := hL3.row.at_ (i := tn) (by rw [all_length]; exact htn)
  rw [all_get] at hat
  have h43 := hL3.ptr
  have hg3 := hL3.box.1
  obtain ⟨hb3x, d0, d1, d2⟩ := HX3.out
  have HB3' := HB3
  obtain ⟨yt, hyt⟩ : ∃ yt, u tn = yt := ⟨_, rfl⟩
  rw [hyt] at gf hat
  obtain ⟨y0, y1, y2⟩ := yt
  obtain ⟨-, -, hrw, q0, q1, q2⟩ := hat
  simp only [Nat.zero_add] at d0 d1 d2 q0 q1 q2
  have gf' : Gives Try.prog 35 #[.agg #[.int .i64 x0, .int .i64 x1, .int .i64 x2], .agg #[.int .i64 y0, .int .i64 y1, .int .i64 y2]] (.bool r) := gf
  have P0 := fun W (h : Onward w3 W) => h.cell hg3 h43
  have P1 := fun W (h : Onward w3 W) => h.cell hb3x d0
  have P2 := fun W (h : Onward w3 W) => h.cell hb3x d1
  have P3 := fun W (h : Onward w3 W) => h.cell hb3x d2
  have P4 := fun W (h : Onward w3 W) => h.cell hrw q0
  have P5 := fun W (h : Onward w3 W) => h.cell hrw q1
  have P6 := fun W (h : Onward w3 W) => h.cell hrw q2
  clear gf hF hL3 h43 d0 d1 d2 q0 q1 q2 hr hyt
  go_wp2_with fail
  refine region_keep (by kernel_rfl) (by kernel_rfl) ?_
  repeat (apply Go.Proofs.Ytjkmcncgndkdoaa.L.wpKeep_yes; (focus rfl); (focus (intro W hW; go_simp; first | done | exact ⟨rfl, hW⟩ | rfl)); (focus (go_simp; first | done | rfl)))
  (apply Go.Proofs.Ytjkmcncgndkdoaa.L.wpKeep_yes; (focus rfl); (focus (intro W hW; go_simp; first | exact Go.Proofs.Ytjkmcncgndkdoaa.L.Gives.up gf' hW | exact ⟨hW, Go.Proofs.Ytjkmcncgndkdoaa.L.Gives.up gf' hW⟩)); (focus (go_simp; first | done | rfl)))
  repeat (apply Go.Proofs.Ytjkmcncgndkdoaa.L.wpKeep_yes; (focus rfl); (focus (intro W hW; go_simp; first | done | exact ⟨rfl, hW⟩ | rfl)); (focus (go_simp; first | done | rfl)))
  refine wpKeep_nil ?_
  intro W hW
  have HBW := Lib.hid (keeps_trans HB3.out hW)
  have HXW := Lib.hid (HX3.out.on hW)
  clear P0 P1 P2 P3 P4 P5 P6 gf' hW HX3 HB3 HB3'
  cases r
  · have hE := Lib.hid (show RLedEnd n g rb cp v1 v2 half age c u' w (.returned (.int .i64 1)) W by
      obtain ⟨e1, e2⟩ := HF.out.1 (by simp) (by simp) (by simp)
      rw [e1, e2]; exact ⟨rfl, H.out.on HBW.out, Kept.of_below HBW.out⟩)
    go_wp2_with fail
    go_ret
    exact hE.out
  obtain ⟨en, eu⟩ := HF.out.2 (by simp) (by simp) (by simp)
  subst en eu
  clear HF F hb3x hrw hg3
  clear hs2
  rename World => w3'
  have hs2 : w.heap.size < w3'.heap.size := HXW.out.1
  have HB3 := HBW
  have HX3 := HXW
  obtain ⟨-, c0, c1, c2, c3⟩ := (H.out.on HB3.out).box
  go_wp2_with fail
  refine (gp.out _ HB3.out).mono ?_
  rintro e w4 ⟨v4, rfl, hI4, hb4⟩
  have HB4 := Lib.hid (keeps_trans HB3.out hb4)
  have HX4 := Lib.hid (HX3.out.on hb4)
  obtain ⟨A4, c4, rfl, hc4⟩ := ints_cell hI4
  have HI4 := Lib.hid hI4
  have HC4 := Lib.hid hc4
  have Hs34 := Lib.hid (show w.heap.size ≤ w3'.heap.size from HB3.out.size)
  obtain ⟨L, hL⟩ : ∃ L, PT.length = L := ⟨_, rfl⟩
  have HL := Lib.hid hL
  have hL1 : L ≤ maxLen := by
    have e : (ival PT).length = PT.length := by simp [ival]
    rcases hI4.2 with ⟨_, hx⟩ | ⟨_, cap, _, _, _, _, hx1, hx2, _⟩
    · omega
    · omega
  unfold maxLen at hL1
  rw [hL] at HI4 ⊢
  clear hb4 hI4 hc4 c0 c1 c2 c3 HX3 gp hL Gl Gv
  go_wp2_with fail
  go_loopw [8] (fun i wr => ∃ k : Nat, i = .int .i64 (k : Int) ∧ k ≤ L ∧ RLedAt wr g rb cp v1 v2 half age c (Led.bump (fun a => Vec.sub a ⟨x0, x1, x2⟩) u (PT.take k)) ∧ Kept (fun b => b = rb) w4 wr) (fun i _ => L - (intOf i).toNat)
  case atStart => exact ⟨0, rfl, by omega, by rw [List.take_zero, Led.bump_nil]; exact H.out.on HB4.out, Kept.refl _ _⟩
  case round =>
    obtain ⟨k, rfl, hk, hl, hkk⟩ := hrel
    rename World => wr
    have HLr := Lib.hid hl
    have HKr := Lib.hid hkk
    have hwr : w4.heap.size ≤ wr.heap.size := hkk.size
    by_cases hkL : k < L
    · have hkp : k < PT.length := by rw [HL.out]; exact hkL
      obtain ⟨x, hx⟩ : ∃ x, PT[k] = x := ⟨_, rfl⟩
      have hxe : PT[k]? = some x := by rw [List.getElem?_eq_getElem hkp, hx]
      have hxn := Hpl.out x (List.mem_of_getElem? hxe)
      obtain ⟨gp, rfl, hgp1, hgp2, hcx⟩ := HC4.out k x hxe
      have hcx2 := (hkk.cell (p := ⟨gp, k, none⟩) hgp2 (by show ¬ gp = rb; have := Hs34.out; omega)).trans hcx
      have htk : PT.take (k + 1) = PT.take k ++ [x] := by rw [List.take_succ_eq_append_getElem hkp, hx]
      have hxt : x ∉ PT.take k := fun hm => by
        have hnd := Hpn.out
        rw [← List.take_append_drop (k + 1) PT, htk, List.append_assoc, List.nodup_append] at hnd
        exact hnd.2.2 x hm x (by simp) rfl
      have HS := Lib.hid (show Led.bump (fun a => Vec.sub a ⟨x0, x1, x2⟩) u (PT.take (k + 1)) = upd (Led.bump (fun a => Vec.sub a ⟨x0, x1, x2⟩) u (PT.take k)) x (Vec.sub (u x) ⟨x0, x1, x2⟩) by rw [htk, bump_snoc _ _ _ _ hxt])
      have hat := hl.row.at_ (i := x) (by rw [all_length]; exact hxn)
      rw [all_get, bump_not _ _ _ _ hxt] at hat
      have h4r := hl.ptr
      have hgr := hl.box.1
      have hbx := HX4.out.kept hkk (by show ¬ w.heap.size = rb; omega)
      have gsub := ga.out (u x)
      generalize u x = y at *
      obtain ⟨y0, y1, y2⟩ := y
      obtain ⟨z, hz⟩ : ∃ z, Vec.sub ⟨y0, y1, y2⟩ ⟨x0, x1, x2⟩ = z := ⟨_, rfl⟩
      rw [hz] at gsub HS
      obtain ⟨z0, z1, z2⟩ := z
      replace gsub : Gives Try.prog 63 #[.agg #[.int .i64 y0, .int .i64 y1, .int .i64 y2], .agg #[.int .i64 x0, .int .i64 x1, .int .i64 x2]] (.agg #[.int .i64 z0, .int .i64 z1, .int .i64 z2]) := gsub
      obtain ⟨-, -, hrw, q0, q1, q2⟩ := hat
      obtain ⟨hbl, b0, b1, b2⟩ := hbx
      simp only at q0 q1 q2 b0 b1 b2
      have hgw : gp < wr.heap.size := by omega
      have P0 := fun W (h : Onward wr W) => h.cell hgr h4r
      have P1 := fun W (h : Onward wr W) => h.cell hgw hcx2
      have P2 := fun W (h : Onward wr W) => h.cell hrw q0
      have P3 := fun W (h : Onward wr W) => h.cell hrw q1
      have P4 := fun W (h : Onward wr W) => h.cell hrw q2
      have P5 := fun W (h : Onward wr W) => h.cell hbl b0
      have P6 := fun W (h : Onward wr W) => h.cell hbl b1
      have P7 := fun W (h : Onward wr W) => h.cell hbl b2
      clear hl hkk hx hxe hcx hcx2 htk hxt hz h4r hkp q0 q1 q2 b0 b1 b2
      go_wp2_with fail
      refine region_keep_tail 21 (by kernel_rfl) (by kernel_rfl) ?_
      simp only [List.take_succ_cons, List.take_zero, List.drop_succ_cons, List.drop_zero]
      repeat (apply Go.Proofs.Ytjkmcncgndkdoaa.L.wpKeep_yes; (focus rfl); (focus (intro W hW; go_simp; first | done | exact ⟨rfl, hW⟩ | rfl)); (focus (go_simp; first | done | rfl)))
      (apply Go.Proofs.Ytjkmcncgndkdoaa.L.wpKeep_yes; (focus rfl); (focus (intro W hW; go_simp; first | exact Go.Proofs.Ytjkmcncgndkdoaa.L.Gives.up gsub hW | exact ⟨hW, Go.Proofs.Ytjkmcncgndkdoaa.L.Gives.up gsub hW⟩)); (focus (go_simp; first | done | rfl)))
      repeat (apply Go.Proofs.Ytjkmcncgndkdoaa.L.wpKeep_yes; (focus rfl); (focus (intro W hW; go_simp; first | done | exact ⟨rfl, hW⟩ | rfl)); (focus (go_simp; first | done | rfl)))
      refine wpKeep_nil ?_
      intro W hW
      have hLW := HLr.out.on hW
      have hRW := hLW.row
      have fz := hRW.ok
      have f0 := fz (x * 3)
      have f1 := fz (x * 3 + 1)
      have f2 := fz (x * 3 + 2)
      have d0 := P2 W hW
      have d1 := P3 W hW
      have d2 := P4 W hW
      have hk3 := put3_kept W rb (x * 3) ⟨z0, z1, z2⟩
      have hst := hRW.set x ⟨z0, z1, z2⟩
      rw [all_upd, ← HS.out] at hst
      have HE := Lib.hid (show RLedAt (put3 W rb (x * 3) ⟨z0, z1, z2⟩) g rb cp v1 v2 half age c (Led.bump (fun a => Vec.sub a ⟨x0, x1, x2⟩) u (PT.take (k + 1))) ∧ Kept (fun b => b = rb) w4 (put3 W rb (x * 3) ⟨z0, z1, z2⟩) from
        ⟨hLW.turn h0 hw0 hk3 hst, (HKr.out.trans (Kept.of_below hW)).trans hk3⟩)
      unfold put3 at HE
      clear P0 P1 P2 P3 P4 P5 P6 P7 hLW hRW fz hk3 hst hW gsub
      go_wp2_with fail
      go_roundw
      case rel => exact ⟨k + 1, by go_num, by omega, HE.out.1, HE.out.2⟩
      case measure => simp [intOf]; omega
    · have hE := Lib.hid (show RLedEnd 0 g rb cp v1 v2 half age c (Led.bump (fun a => Vec.sub a ⟨x0, x1, x2⟩) u (Tree.up c (tn : Int))) w (.returned (.int .i64 0)) wr from ⟨rfl, by
        rw [List.take_of_length_le (by rw [HL.out]; omega), Hpb.out] at hl
        exact hl, (Kept.of_below HB4.out).trans hkk⟩)
      clear hl hkk
      have hkd : decide (k < L) = false := by simpa using hkL
      go_wp2_with fail
      go_ret
      exact hE.out
end Go.Proofs.Ytjkmcncgndkdoaa.CfgW
