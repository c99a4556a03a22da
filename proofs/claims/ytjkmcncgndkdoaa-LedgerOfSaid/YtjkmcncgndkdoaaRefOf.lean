/-
  What all nodes use while some run: the contract of the reference's Of.
-/
import Derived.Test.YtjkmcncgndkdoaaLedOf
import Derived.Test.YtjkmcncgndkdoaaRLed
import Derived.Test.YtjkmcncgndkdoaaCfgLaws
set_option linter.unusedVariables false
set_option linter.unusedSimpArgs false
namespace Go.Proofs.Ytjkmcncgndkdoaa.CfgW
open Go Go.RowKit Go.Proofs.Ytjkmcncgndkdoaa.L

set_option maxRecDepth 100000 in
set_option maxHeartbeats 4000000 in
theorem grdemand (a b p : Int) (v : Vec.V) (d e f : Int) : Gives Try.prog 72 #[.agg #[.int .i64 a, .int .i64 b, .int .i64 p, .int .i64 v.x, .int .i64 v.y, .int .i64 v.z, .int .i64 d, .int .i64 e, .int .i64 f]] (Vec.times v p).val := by
  intro w
  have gt := VecW.grtimes v p
  obtain ⟨x0, x1, x2⟩ := v
  generalize Vec.times ⟨x0, x1, x2⟩ p = y at *
  obtain ⟨y0, y1, y2⟩ := y
  have GT : Hid (Gives Try.prog 85 #[.agg #[.int .i64 x0, .int .i64 x1, .int .i64 x2], .int .i64 p] (.agg #[.int .i64 y0, .int .i64 y1, .int .i64 y2])) := Lib.hid gt
  clear gt
  simp only [Vec.V.val]
  have hx1 : VBox3 ((w.alloc (.cells #[.int .i64 a, .int .i64 b, .int .i64 p, .int .i64 x0, .int .i64 x1, .int .i64 x2, .int .i64 d, .int .i64 e, .int .i64 f] 87)).alloc (.cells #[.int .i64 0, .int .i64 0, .int .i64 0] 33)) (w.heap.size + 1) 0 ⟨0, 0, 0⟩ := by refine ⟨by simp, ?_, ?_, ?_⟩ <;> simp [go_sem]
  have hf1 : ∀ j, ((w.alloc (.cells #[.int .i64 a, .int .i64 b, .int .i64 p, .int .i64 x0, .int .i64 x1, .int .i64 x2, .int .i64 d, .int .i64 e, .int .i64 f] 87)).alloc (.cells #[.int .i64 0, .int .i64 0, .int .i64 0] 33)).frozen? ⟨w.heap.size + 1, j, none⟩ = false := fun j => by simp [go_sem]
  have hb0 : Below w.heap.size w ((w.alloc (.cells #[.int .i64 a, .int .i64 b, .int .i64 p, .int .i64 x0, .int .i64 x1, .int .i64 x2, .int .i64 d, .int .i64 e, .int .i64 f] 87)).alloc (.cells #[.int .i64 0, .int .i64 0, .int .i64 0] 33)) := by (repeat' (first | (with_reducible exact Below.refl _ _) | (with_reducible assumption) | (with_reducible refine Below.alloc ?_ ?_ _) | (with_reducible refine Go.Proofs.Ytjkmcncgndkdoaa.L.below_drewN ?_ _) | (with_reducible refine Below.drew ?_) | (with_reducible refine Below.setCell ?_ ?_ _) | (with_reducible refine Below.frame ?_ _) | go_size))
  have hsz : ((w.alloc (.cells #[.int .i64 a, .int .i64 b, .int .i64 p, .int .i64 x0, .int .i64 x1, .int .i64 x2, .int .i64 d, .int .i64 e, .int .i64 f] 87)).alloc (.cells #[.int .i64 0, .int .i64 0, .int .i64 0] 33)).heap.size = w.heap.size + 2 := by simp
  have HX := Lib.hid hx1
  have HF := Lib.hid hf1
  have Hb := Lib.hid hb0
  clear hx1 hf1 hb0
  go_enter Try.func72, Try.ntmps72
  go_wp2_with fail
  refine (GT.out _).mono ?_
  rintro e w2 ⟨rfl, hb2⟩
  obtain ⟨hz2, c0, c1, c2⟩ := HX.out.on hb2
  simp only [Nat.zero_add] at c0 c1 c2
  have g0 := (hb2.frozen (p := ⟨w.heap.size + 1, 0, none⟩) (by show w.heap.size + 1 < _; omega)).trans (HF.out 0)
  have g1 := (hb2.frozen (p := ⟨w.heap.size + 1, 1, none⟩) (by show w.heap.size + 1 < _; omega)).trans (HF.out 1)
  have g2 := (hb2.frozen (p := ⟨w.heap.size + 1, 2, none⟩) (by show w.heap.size + 1 < _; omega)).trans (HF.out 2)
  have HB2 := Lib.hid (keeps_trans Hb.out hb2)
  clear hb2 hsz
  go_wp2_with fail
  exact bodyPost_ret (v := .agg #[.int .i64 y0, .int .i64 y1, .int .i64 y2]) (by simp [results, Try.results72, go_sem, c0, c1, c2]) rfl ⟨rfl, by have := HB2.out; (repeat' (first | (with_reducible exact Below.refl _ _) | (with_reducible assumption) | (with_reducible refine Below.alloc ?_ ?_ _) | (with_reducible refine Go.Proofs.Ytjkmcncgndkdoaa.L.below_drewN ?_ _) | (with_reducible refine Below.drew ?_) | (with_reducible refine Below.setCell ?_ ?_ _) | (with_reducible refine Below.frame ?_ _) | go_size))⟩


set_option maxRecDepth 100000 in
set_option maxHeartbeats 8000000 in
theorem rof_any {w : World} {v vr : Value} {c : Cfg.C} {rs : List Run} (hc : CfgAt w v c) (hr : Runs w vr rs) (hn : c.nodes.length ≤ 1000000) :
    ∀ w1, Below w.heap.size w w1 → Calls Try.prog 46 #[v, vr] w1 fun e w' => OfEnd (Led.all c (Led.ofTo c (needs rs) rs.length)) w1 e w' := by
  intro w1 hb1
  replace hc := hc.below hb1
  replace hr := hr.below hb1
  clear hb1
  have gLf := Lib.hid (fun t => rleaf_any hc t)
  have gP := Lib.hid (fun t W hW => rpath_any hc hn t W hW)
  obtain ⟨v1, v2, rfl, ⟨A, ca, rfl, _, _⟩, _⟩ := id hc
  obtain ⟨half, hhalf⟩ : ∃ z, c.half = z := ⟨_, rfl⟩
  obtain ⟨age, hage⟩ : ∃ z, c.age = z := ⟨_, rfl⟩
  rw [hhalf, hage] at gLf gP ⊢
  obtain ⟨R, cr, rfl, hrR, hlR, hin⟩ := hr
  have HIn := Lib.hid (fun (k : Nat) (h : k < rs.length) => (show ∃ A n c, rs[k].hv = .slice A n c from by obtain ⟨A, c, e, _⟩ := hin _ (List.getElem_mem h); exact ⟨A, _, c, e⟩))
  clear hin
  unfold maxLen at hlR
  have HR := Lib.hid hrR
  obtain ⟨N, hNe⟩ : ∃ N, c.nodes.length = N := ⟨_, rfl⟩
  have HN := Lib.hid hNe
  obtain ⟨K, hK⟩ : ∃ K, rs.length = K := ⟨_, rfl⟩
  have HK := Lib.hid hK
  rw [hNe] at hn gLf gP
  rw [hK] at hlR ⊢
  rw [hNe]
  have hbx := CBox.new w1 (.slice A N ca) v2 half age
  have hbw : Below w1.heap.size w1 (w1.alloc (.cells #[.slice A N ca, v2, .int .i64 half, .int .i64 age] 25)) := (Below.refl _ _).alloc (Nat.le_refl _) _
  clear hhalf hage hc hrR hK hNe
  go_enter Try.func46, Try.ntmps46
  generalize hwq : w1.alloc (.cells #[.slice A N ca, v2, .int .i64 half, .int .i64 age] 25) = wq at *
  have HBX := Lib.hid hbx
  have Hbw := Lib.hid hbw
  obtain ⟨hx0, x0, x1, x2, x3⟩ := hbx
  obtain ⟨w2, hr2, hv2, hb2, hs2⟩ := make_vecs wq N (by omega)
  have Hv2 := Lib.hid hv2
  have Hb2 := Lib.hid hb2
  clear hv2 hb2 hbw
  go_wp2_with fail
  generalize hrb : wq.heap.size = rb at *
  clear x0 x1 x2 x3 hwq hr2
  go_loopw [6] (fun i wr => ∃ k : Nat, i = .int .i64 (k : Int) ∧ k ≤ K ∧ VRow wr rb (.slice (some ⟨rb, 0, none⟩) N N) (Led.all c (Led.ofTo c (needs rs) k)) ∧ Kept (fun b => b = rb) w2 wr) (fun i _ => K - (intOf i).toNat)
  case atStart => exact ⟨0, rfl, by omega, by rw [show Led.ofTo c (needs rs) 0 = Led.none_ from rfl, all_none_, HN.out]; exact Hv2.out, Kept.refl _ _⟩
  case round =>
    obtain ⟨k, rfl, hk, hv, hkk⟩ := hrel
    rename World => wr
    have HV := Lib.hid hv
    have HKk := Lib.hid hkk
    have hq : Below wq.heap.size wq wr := by
      rw [hrb]; exact Hb2.out.trans (hkk.below (by rw [← hrb]; exact Hb2.out.size) (fun i e => by rw [e]; exact Nat.le_refl _))
    have hq1 := keeps_trans Hbw.out hq
    have HQ := Lib.hid hq
    have HQ1 := Lib.hid hq1
    clear hv hkk
    by_cases hkK : k < K
    · have hkr : k < rs.length := by rw [HK.out]; exact hkK
      obtain ⟨br, or_, rfl, hltr, hcr⟩ := row_run HR.out hkr
      have HCR := Lib.hid (fun W (hW : Below wq.heap.size wq W) => hcr W (keeps_trans Hbw.out hW))
      have HS := Lib.hid (ofTo_succ c rs k hkr)
      obtain ⟨Av, nv, cv, hrv⟩ := HIn.out k hkr
      generalize rs[k] = r at *
      obtain ⟨r0, r1, r2, ⟨z0, z1, z2⟩, r3, r4, r5, r6, r7, r8, r9, r10, rv⟩ := r
      simp only at HS hrv
      subst hrv
      obtain ⟨p0, p1, p2, p3, p4, p5, p6, p7, p8, p9, p10, p11, p12, p13⟩ := HCR.out wr HQ.out
      simp only at p0 p1 p2 p3 p4 p5 p6 p7 p8 p9 p10 p11 p12 p13
      have hbr : br < wr.heap.size := Nat.lt_of_lt_of_le hltr hq1.size
      have P1 := fun W (h : Onward wr W) => h.cell hbr p1
      obtain ⟨X0, X1, X2, X3⟩ := (HBX.out.on hq).all
      have hgl := (gLf.out r1).on hq1
      obtain ⟨q, hqq⟩ : ∃ q, Cfg.leaf c r1 = q := ⟨_, rfl⟩
      have HQQ := Lib.hid hqq
      rw [hqq] at hgl
      have GL := Lib.hid hgl
      clear hcr hkr hltr hqq hgl p0 p1 p2 p3 p4 p5 p6 p7 p8 p9 p10 p11 p12 p13 hq hq1
      go_wp2_with fail
      refine region_keep (by kernel_rfl) (by kernel_rfl) ?_
      repeat (apply Go.Proofs.Ytjkmcncgndkdoaa.L.wpKeep_yes; (focus rfl); (focus (intro W hW; go_simp; first | done | exact ⟨rfl, hW⟩ | rfl)); (focus (go_simp; first | done | rfl)))
      (apply Go.Proofs.Ytjkmcncgndkdoaa.L.wpKeep_yes; (focus rfl); (focus (intro W hW; go_simp; first | exact (GL.out.up (Below.refl _ _)) W hW | exact ⟨hW, (GL.out.up (Below.refl _ _)) W hW⟩)); (focus (go_simp; first | done | rfl)))
      repeat (apply Go.Proofs.Ytjkmcncgndkdoaa.L.wpKeep_yes; (focus rfl); (focus (intro W hW; go_simp; first | done | exact ⟨rfl, hW⟩ | rfl)); (focus (go_simp; first | done | rfl)))
      refine wpKeep_nil ?_
      intro W hW
      have HW := Lib.hid hW
      have HVW := Lib.hid (HV.out.below hW)
      have HKW := Lib.hid (HKk.out.trans (Kept.of_below hW))
      clear P1 X0 X1 X2 X3 hW GL
      cases q
      · have hE := Lib.hid (show Led.ofTo c (needs rs) (k + 1) = Led.ofTo c (needs rs) k by rw [HS.out]; unfold Led.change; rw [if_neg (by rw [HQQ.out]; decide)])
        go_wp2_with fail
        go_roundw
        case rel => exact ⟨k + 1, by go_num, by omega, by rw [hE.out]; exact HVW.out, HKW.out⟩
        case measure => simp [intOf]; omega
      · have hE := Lib.hid (show Led.ofTo c (needs rs) (k + 1) = Led.bump (fun a => Vec.add a (Vec.times ⟨z0, z1, z2⟩ r2)) (Led.ofTo c (needs rs) k) (Tree.up c r1) by rw [HS.out]; unfold Led.change; rw [if_pos HQQ.out])
        have HQW := Lib.hid (keeps_trans HQ.out HW.out)
        have HQ1W := Lib.hid (keeps_trans HQ1.out HW.out)
        obtain ⟨p0, p1, p2, p3, p4, p5, p6, p7, p8, p9, p10, p11, p12, p13⟩ := HCR.out W HQW.out
        simp only at p1
        have hbrW : br < W.heap.size := Nat.lt_of_lt_of_le hbr HW.out.size
        have P1 := fun W' (h : Onward W W') => h.cell hbrW p1
        obtain ⟨X0, X1, X2, X3⟩ := (HBX.out.on HQW.out).all
        clear p0 p1 p2 p3 p4 p5 p6 p7 p8 p9 p10 p11 p12 p13
        go_wp2_with fail
        refine region_keep_tail 7 (by kernel_rfl) (by kernel_rfl) ?_
        simp only [List.take_succ_cons, List.take_zero, List.drop_succ_cons, List.drop_zero]
        repeat (apply Go.Proofs.Ytjkmcncgndkdoaa.L.wpKeep_yes; (focus rfl); (focus (intro W hW; go_simp; first | done | exact ⟨rfl, hW⟩ | rfl)); (focus (go_simp; first | done | rfl)))
        refine wpKeep_nil ?_
        intro W3 hW3
        have GP := Lib.hid (gP.out r1 W3 (keeps_trans HQ1W.out hW3))
        have HW3 := Lib.hid hW3
        clear P1 X0 X1 X2 X3 hW3
        go_wp2_with fail
        refine GP.out.mono ?_
        rintro e w4 ⟨v4, rfl, hI4, hb4⟩
        have HB4 := Lib.hid (keeps_trans HW3.out hb4)
        obtain ⟨A4, c4, rfl, hc4⟩ := ints_cell hI4
        have HC4 := Lib.hid hc4
        have Hs3 := Lib.hid (show rb < W3.heap.size from by have := (HVW.out.lt rb rfl).2; have := HW3.out.size; omega)
        have Hpn := Lib.hid (path_nodup c r1)
        have Hpl := Lib.hid (path_lt c r1)
        have Hpb := Lib.hid (path_bump c r1 (fun a => Vec.add a (Vec.times ⟨z0, z1, z2⟩ r2)) (Led.ofTo c (needs rs) k))
        have hpl1 : (Tree.path c r1).length ≤ N := by unfold Tree.path; rw [List.length_reverse, ← HN.out]; exact Tree.up_length c r1
        generalize Tree.path c r1 = PT at *
        obtain ⟨L, hL⟩ : ∃ L, PT.length = L := ⟨_, rfl⟩
        have HL := Lib.hid hL
        rw [hL] at hpl1 ⊢
        have HV4 := Lib.hid (HVW.out.below HB4.out)
        have HQ4 := Lib.hid (keeps_trans HQW.out HB4.out)
        have HK4 := Lib.hid (HKW.out.trans (Kept.of_below HB4.out))
        have grd := grdemand r0 r1 r2 ⟨z0, z1, z2⟩ r3 r4 r5
        generalize Vec.times ⟨z0, z1, z2⟩ r2 = y at *
        obtain ⟨y0, y1, y2⟩ := y
        have GRD : Hid (Gives Try.prog 72 #[.agg #[.int .i64 r0, .int .i64 r1, .int .i64 r2, .int .i64 z0, .int .i64 z1, .int .i64 z2, .int .i64 r3, .int .i64 r4, .int .i64 r5]] (.agg #[.int .i64 y0, .int .i64 y1, .int .i64 y2])) := Lib.hid grd
        generalize Led.ofTo c (needs rs) k = u at *
        clear hb4 hI4 hc4 hL GP grd
        go_wp2_with fail
        go_loopw [8] (fun i wx => ∃ j : Nat, i = .int .i64 (j : Int) ∧ j ≤ L ∧ VRow wx rb (.slice (some ⟨rb, 0, none⟩) N N) (Led.all c (Led.bump (fun a => Vec.add a ⟨y0, y1, y2⟩) u (PT.take j))) ∧ Kept (fun b => b = rb) w4 wx) (fun i _ => L - (intOf i).toNat)
        case atStart => exact ⟨0, rfl, by omega, by rw [List.take_zero, Led.bump_nil]; exact HV4.out, Kept.refl _ _⟩
        case round =>
          obtain ⟨j, rfl, hj, hvx, hkx⟩ := hrel
          rename World => wx
          have HVx := Lib.hid hvx
          have HKx := Lib.hid hkx
          by_cases hjL : j < L
          · have hjp : j < PT.length := by rw [HL.out]; exact hjL
            obtain ⟨x, hx⟩ : ∃ x, PT[j] = x := ⟨_, rfl⟩
            have hxe : PT[j]? = some x := by rw [List.getElem?_eq_getElem hjp, hx]
            have hxn : x < N := by rw [← HN.out]; exact Hpl.out x (List.mem_of_getElem? hxe)
            obtain ⟨gp, rfl, hgp1, hgp2, hcx⟩ := HC4.out j x hxe
            have hcx2 := (hkx.cell (p := ⟨gp, j, none⟩) hgp2 (by show ¬ gp = rb; have := Hs3.out; omega)).trans hcx
            have htk : PT.take (j + 1) = PT.take j ++ [x] := by rw [List.take_succ_eq_append_getElem hjp, hx]
            have hxt : x ∉ PT.take j := fun hm => by
              have hnd := Hpn.out
              rw [← List.take_append_drop (j + 1) PT, htk, List.append_assoc, List.nodup_append] at hnd
              exact hnd.2.2 x hm x (by simp) rfl
            have HSx := Lib.hid (show Led.bump (fun a => Vec.add a ⟨y0, y1, y2⟩) u (PT.take (j + 1)) = upd (Led.bump (fun a => Vec.add a ⟨y0, y1, y2⟩) u (PT.take j)) x (Vec.add (u x) ⟨y0, y1, y2⟩) by rw [htk, bump_snoc _ _ _ _ hxt])
            have hat := hvx.at_ (i := x) (by rw [all_length, HN.out]; exact hxn)
            rw [all_get, bump_not _ _ _ _ hxt] at hat
            have gad := VecW.gradd (u x) ⟨y0, y1, y2⟩
            generalize u x = f at *
            obtain ⟨f0, f1, f2⟩ := f
            obtain ⟨s, hs⟩ : ∃ s, Vec.add ⟨f0, f1, f2⟩ ⟨y0, y1, y2⟩ = s := ⟨_, rfl⟩
            rw [hs] at gad HSx
            obtain ⟨s0, s1, s2⟩ := s
            have gad' : Gives Try.prog 65 #[.agg #[.int .i64 f0, .int .i64 f1, .int .i64 f2], .agg #[.int .i64 y0, .int .i64 y1, .int .i64 y2]] (.agg #[.int .i64 s0, .int .i64 s1, .int .i64 s2]) := gad
            obtain ⟨-, -, hrw, q0, q1, q2⟩ := hat
            have hqx : Below wq.heap.size wq wx := by
              have := HQ4.out
              exact this.trans (hkx.below this.size (fun i e => by rw [e, ← hrb]; exact Nat.le_refl _))
            obtain ⟨p0, p1, p2, p3, p4, p5, p6, p7, p8, p9, p10, p11, p12, p13⟩ := HCR.out wx hqx
            simp only at q0 q1 q2 p0 p1 p2 p3 p4 p5 p6 p7 p8
            have hgw : gp < wx.heap.size := Nat.lt_of_lt_of_le hgp2 hkx.size
            have hbrx : br < wx.heap.size := Nat.lt_of_lt_of_le hbrW (Nat.le_trans HB4.out.size hkx.size)
            have Q0 := fun W (h : Onward wx W) => h.cell hgw hcx2
            have Q1 := fun W (h : Onward wx W) => h.cell hrw q0
            have Q2 := fun W (h : Onward wx W) => h.cell hrw q1
            have Q3 := fun W (h : Onward wx W) => h.cell hrw q2
            have T0 := fun W (h : Onward wx W) => h.cell hbrx p0
            have T1 := fun W (h : Onward wx W) => h.cell hbrx p1
            have T2 := fun W (h : Onward wx W) => h.cell hbrx p2
            have T3 := fun W (h : Onward wx W) => h.cell hbrx p3
            have T4 := fun W (h : Onward wx W) => h.cell hbrx p4
            have T5 := fun W (h : Onward wx W) => h.cell hbrx p5
            have T6 := fun W (h : Onward wx W) => h.cell hbrx p6
            have T7 := fun W (h : Onward wx W) => h.cell hbrx p7
            have T8 := fun W (h : Onward wx W) => h.cell hbrx p8
            have grd := GRD.out
            clear hvx hkx hx hxe hcx hcx2 htk hxt hs gad hjp q0 q1 q2 p0 p1 p2 p3 p4 p5 p6 p7 p8 p9 p10 p11 p12 p13 hqx
            go_wp2_with fail
            refine region_keep_tail 20 (by kernel_rfl) (by kernel_rfl) ?_
            simp only [List.take_succ_cons, List.take_zero, List.drop_succ_cons, List.drop_zero]
            repeat (apply Go.Proofs.Ytjkmcncgndkdoaa.L.wpKeep_yes; (focus rfl); (focus (intro W hW; go_simp; first | done | exact ⟨rfl, hW⟩ | rfl)); (focus (go_simp; first | done | rfl)))
            (apply Go.Proofs.Ytjkmcncgndkdoaa.L.wpKeep_yes; (focus rfl); (focus (intro W hW; go_simp; first | exact Go.Proofs.Ytjkmcncgndkdoaa.L.Gives.up grd hW | exact ⟨hW, Go.Proofs.Ytjkmcncgndkdoaa.L.Gives.up grd hW⟩)); (focus (go_simp; first | done | rfl)))
            repeat (apply Go.Proofs.Ytjkmcncgndkdoaa.L.wpKeep_yes; (focus rfl); (focus (intro W hW; go_simp; first | done | exact ⟨rfl, hW⟩ | rfl)); (focus (go_simp; first | done | rfl)))
            (apply Go.Proofs.Ytjkmcncgndkdoaa.L.wpKeep_yes; (focus rfl); (focus (intro W hW; go_simp; first | exact Go.Proofs.Ytjkmcncgndkdoaa.L.Gives.up gad' hW | exact ⟨hW, Go.Proofs.Ytjkmcncgndkdoaa.L.Gives.up gad' hW⟩)); (focus (go_simp; first | done | rfl)))
            repeat (apply Go.Proofs.Ytjkmcncgndkdoaa.L.wpKeep_yes; (focus rfl); (focus (intro W hW; go_simp; first | done | exact ⟨rfl, hW⟩ | rfl)); (focus (go_simp; first | done | rfl)))
            refine wpKeep_nil ?_
            intro W5 hW5
            have hVW := HVx.out.below hW5
            have fz := hVW.ok
            have g0 := fz (x * 3)
            have g1 := fz (x * 3 + 1)
            have g2 := fz (x * 3 + 2)
            have d0 := Q1 W5 hW5
            have d1 := Q2 W5 hW5
            have d2 := Q3 W5 hW5
            have hst := hVW.set x ⟨s0, s1, s2⟩
            rw [all_upd, ← HSx.out] at hst
            have HE5 := Lib.hid (show VRow (put3 W5 rb (x * 3) ⟨s0, s1, s2⟩) rb (.slice (some ⟨rb, 0, none⟩) N N) (Led.all c (Led.bump (fun a => Vec.add a ⟨y0, y1, y2⟩) u (PT.take (j + 1)))) ∧ Kept (fun b => b = rb) w4 (put3 W5 rb (x * 3) ⟨s0, s1, s2⟩) from
              ⟨hst, (HKx.out.trans (Kept.of_below hW5)).trans (put3_kept W5 rb (x * 3) ⟨s0, s1, s2⟩)⟩)
            unfold put3 at HE5
            clear Q0 Q1 Q2 Q3 T0 T1 T2 T3 T4 T5 T6 T7 T8 hVW fz hst hW5 grd gad'
            go_wp2_with fail
            go_roundw
            case rel => exact ⟨j + 1, by go_num, by omega, HE5.out.1, HE5.out.2⟩
            case measure => simp [intOf]; omega
          · have HE6 := Lib.hid (show VRow wx rb (.slice (some ⟨rb, 0, none⟩) N N) (Led.all c (Led.ofTo c (needs rs) (k + 1))) ∧ Kept (fun b => b = rb) w2 wx from by
              rw [hE.out, ← Hpb.out]
              rw [List.take_of_length_le (by rw [HL.out]; omega)] at hvx
              exact ⟨hvx, HK4.out.trans hkx⟩)
            have hjd : decide (j < L) = false := by simpa using hjL
            clear hvx hkx hjL
            go_wp2_with fail
            go_roundw
            case rel => exact ⟨k + 1, by go_num, by omega, HE6.out.1, HE6.out.2⟩
            case measure => simp [intOf]; omega
    · have e : k = K := by omega
      subst e
      have HE := Lib.hid (show OfEnd (Led.all c (Led.ofTo c (needs rs) k)) w1 (.returned (.slice (some ⟨rb, 0, none⟩) N N)) wr from ⟨_, rfl, HV.out.low (by omega), HQ1.out⟩)
      have hkd : decide (k < k) = false := by simp
      clear hkK hq hq1
      go_wp2_with fail
      go_ret
      exact HE.out
end Go.Proofs.Ytjkmcncgndkdoaa.CfgW
