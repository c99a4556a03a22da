/-
  Chapter 16: at each level each host is in just one place, and a place of one level is within one of the next, over any world.
-/
import Derived.Test.YtjkmcncgndkdoaaHostGroups
import Derived.Test.YtjkmcncgndkdoaaHostAwake
import Derived.Test.YtjkmcncgndkdoaaCfgLaws
import Derived.Test.YtjkmcncgndkdoaaEachPlain
import Derived.Test.YtjkmcncgndkdoaaPRow
set_option linter.unusedVariables false
set_option linter.unusedSimpArgs false
namespace Go.Proofs.Ytjkmcncgndkdoaa.CfgW
open Go.RowKit Go.Proofs.Ytjkmcncgndkdoaa.L

set_option maxRecDepth 100000 in
set_option maxHeartbeats 8000000 in
theorem laweach_any {w : World} {v : Value} {c : Cfg.C} (hc : CfgAt w v c) (level : Int) : Calls Try.prog 13 #[v, .int .i64 level] w fun e w' => e = .returned (.bool true) ∧ Below w.heap.size w w' := by
  have gC := Lib.hid (rcheck_any hc)
  have hc0 := hc
  obtain ⟨v1, v2, rfl, ⟨A, ca, rfl, hrA, hl⟩, ⟨B, cb, rfl, hrB, hl2⟩⟩ := hc
  unfold maxLen at hl2
  have gF := Lib.hid (fun l h w1 hb => groups_any hc0 l h w1 hb)
  have hck := Lib.hid (show Cfg.check c = 0 → c.hosts.length ≤ 24 from fun h => by
    unfold Cfg.check at h
    split at h
    · rename_i hk
      unfold Cfg.ok Cfg.sizesOk Cfg.between at hk
      simp at hk
      omega
    · cases h)
  generalize Cfg.check c = ck at *
  generalize c.nodes.length = N at *
  obtain ⟨half, hhalf⟩ : ∃ z, c.half = z := ⟨_, rfl⟩
  obtain ⟨age, hage⟩ : ∃ z, c.age = z := ⟨_, rfl⟩
  rw [hhalf, hage] at gF gC ⊢
  clear hrA hl hrB hc0 hhalf hage
  generalize c.hosts = hs at *
  obtain ⟨M, hM⟩ : ∃ M, hs.length = M := ⟨_, rfl⟩
  have HM := Lib.hid hM
  rw [hM] at hl2 gF gC hck ⊢
  clear hM
  have hbx := CBox.new w (.slice A N ca) (.slice B M cb) half age
  have hbw : Below w.heap.size w (w.alloc (.cells #[.slice A N ca, .slice B M cb, .int .i64 half, .int .i64 age] 25)) := (Below.refl _ _).alloc (Nat.le_refl _) _
  go_enter Try.func13, Try.ntmps13
  generalize hwq : w.alloc (.cells #[.slice A N ca, .slice B M cb, .int .i64 half, .int .i64 age] 25) = wq at *
  have HBX := Lib.hid hbx
  have Hbw := Lib.hid hbw
  obtain ⟨hx0, x0, x1, x2, x3⟩ := hbx
  have aw := Lib.hid awake16
  clear hbw
  go_wp2_with fail
  refine (gC.out _ Hbw.out).mono ?_
  rintro e w2 ⟨rfl, hb2⟩
  have HB2 := Lib.hid hb2
  obtain ⟨-, y0, y1, y2, y3⟩ := HBX.out.on hb2
  clear hb2 x0 x1 x2 x3 hwq
  by_cases h0 : ck = 0
  · have t0 : (ck != 0) = false := by simp [h0]
    have hM24 := hck.out h0
    clear h0
    obtain ⟨z, hz, hz0⟩ : ∃ z, IntKind.u64.wrap level = z ∧ 0 ≤ z := ⟨_, rfl, by show 0 ≤ level % 18446744073709551616; omega⟩
    obtain ⟨l, hl⟩ : ∃ l, z % 3 = l := ⟨_, rfl⟩
    have hl0 : 0 ≤ l := by omega
    have hl2' : l ≤ 2 := by omega
    obtain ⟨GW, hGW⟩ : ∃ GW, Hst.rows (Hst.gTo hs (l + 1) M) = GW := ⟨_, rfl⟩
    obtain ⟨GN, hGN⟩ : ∃ GN, Hst.rows (Hst.gTo hs l M) = GN := ⟨_, rfl⟩
    have hgw : Hst.groups hs (l + 1) = GW := by rw [← hGW, ← HM.out]; unfold Hst.groups; rw [if_pos (by unfold Hst.okLevel; simp; omega)]; rfl
    have hgn : Hst.groups hs l = GN := by rw [← hGN, ← HM.out]; unfold Hst.groups; rw [if_pos (by unfold Hst.okLevel; simp; omega)]; rfl
    have HWl := Lib.hid (show ∀ r ∈ GW, r.length ≤ 24 from fun r hr => by
      subst hGW
      obtain ⟨k, hk, rfl⟩ := List.getElem_of_mem hr
      have := Hst.rows_each hs (l + 1) M hk
      omega)
    have HWn := Lib.hid (show GW.length ≤ M by subst hGW; rw [Hst.rows_len]; exact Hst.gTo_le hs (l + 1) M)
    have HNl := Lib.hid (show ∀ r ∈ GN, r.length ≤ 24 from fun r hr => by
      subst hGN
      obtain ⟨k, hk, rfl⟩ := List.getElem_of_mem hr
      have := Hst.rows_each hs l M hk
      omega)
    have HNn := Lib.hid (show GN.length ≤ M by subst hGN; rw [Hst.rows_len]; exact Hst.gTo_le hs l M)
    have HWi := Lib.hid (show ∀ (i : Nat) (hi : i < GW.length) (h : Nat), h ∈ GW[i] → h < M from fun i hi h hm => by
      subst hGW
      have e := HM.out
      subst e
      exact Hst.row_in hs (l + 1) i hi h hm)
    have HNm := Lib.hid (show Hst.many GN GN.length = M by subst hGN; exact Hst.many_to hs l M)
    have HEa := Lib.hid (show ∀ (i : Nat) (hi : i < GN.length) (h a : Nat) (t : List Nat), GN[i] = a :: t → h ∈ GN[i] → h < M ∧ a < M ∧ ∃ j, j < GW.length ∧ (Hst.laid GW M GW.length).getD h 0 = (j : Int) + 1 ∧ (Hst.laid GW M GW.length).getD a 0 = (j : Int) + 1 from fun i hi h a t hr hm => by
      subst hGW hGN
      have e := HM.out
      subst e
      exact Hst.each_host hs l hl0 hl2' i hi h a t hr hm)
    obtain ⟨w3, hr3, hp3, hb3, hs3⟩ := make_ints w2 M (by omega)
    have hq3 : Below wq.heap.size wq w3 := keeps_trans HB2.out hb3
    have hgp : wq.heap.size ≤ w2.heap.size := HB2.out.size
    have gW := gF.out (l + 1) (by omega) w3 (keeps_trans Hbw.out hq3)
    rw [hgw] at gW
    have GWc := Lib.hid gW
    have Hr3 := Lib.hid hr3
    have gNn := Lib.hid (show ∀ w1, Below w.heap.size w w1 → Calls Try.prog 41 #[.agg #[.slice A N ca, .slice B M cb, .int .i64 half, .int .i64 age], .int .i64 l] w1 fun e w' => GEnd GN w1 e w' from fun w1 h1 => by
      have := gF.out l (by omega) w1 h1
      rwa [hgn] at this)
    obtain ⟨-, z0, z1, z2, z3⟩ := HBX.out.on hq3
    have Hp3 := Lib.hid hp3
    have Hb3 := Lib.hid hb3
    have Hq3 := Lib.hid hq3
    generalize hgpe : w2.heap.size = gp at *
    clear hGW hGN hgw hgn gW gF hp3 hb3 hq3 hck Hr3 gC
    go_wp2_with fail
    refine GWc.out.mono ?_
    rintro e w4 ⟨v4, rfl, hr4, hb4⟩
    obtain ⟨A4, c4, rfl, hs4⟩ := hr4.form
    obtain ⟨n4, hn4⟩ : ∃ n4, GW.length = n4 := ⟨_, rfl⟩
    have Hn4 := Lib.hid hn4
    rw [hn4] at hr4 hs4 HWn HEa ⊢
    have Hr4 := Lib.hid hr4
    have Hs4 := Lib.hid hs4
    have Hp4 := Lib.hid (Hp3.out.below hb4)
    have Hq4 := Lib.hid (keeps_trans Hq3.out hb4)
    have Hsz := Lib.hid hb4.size
    have hn24 : n4 ≤ 24 := by have := HWn.out; omega
    clear hr3 hr4 hs4 hb4 hn4 z0 z1 z2 z3 y0 y1 y2 y3 hz hl hz0 GWc hgpe
    go_wp2_with fail
    go_loopw [7] (fun i wr => ∃ i' : Nat, i = .int .i64 (i' : Int) ∧ i' ≤ n4 ∧ PRow wr gp (.slice (some ⟨gp, 0, none⟩) M M) (Hst.laid GW M i') ∧ Kept (fun k => k = gp) w4 wr) (fun i _ => n4 - (intOf i).toNat)
    case atStart => exact ⟨0, rfl, by omega, Hp4.out, Kept.refl _ _⟩
    case round =>
      obtain ⟨i, rfl, hi, hp, hk⟩ := hrel
      rename World => wr
      by_cases hin : i < n4
      · have Hp := Lib.hid hp
        have Hk := Lib.hid hk
        obtain ⟨m, hm⟩ : ∃ m, (GW.getD i []).length = m := ⟨_, rfl⟩
        have hm24 : m ≤ 24 := by have := Hst.getD_len HWl.out i; omega
        have Hm := Lib.hid hm
        clear hp hk hm
        go_wp2_with fail
        go_loopw [8] (fun k wr => ∃ k' : Nat, k = .int .i64 (k' : Int) ∧ k' ≤ m ∧ PRow wr gp (.slice (some ⟨gp, 0, none⟩) M M) (Hst.bumps ((i : Int) + 1) ((GW.getD i []).take k') (Hst.laid GW M i)) ∧ Kept (fun k => k = gp) w4 wr) (fun k _ => m - (intOf k).toNat)
        case atStart => exact ⟨0, rfl, by omega, Hp.out, Hk.out⟩
        case round =>
          obtain ⟨k, rfl, hk, hp, hkept⟩ := hrel
          rename World => wx
          have hig : i < GW.length := by rw [Hn4.out]; exact hin
          have hgd : GW.getD i [] = GW[i] := by rw [List.getD_eq_getElem?_getD, List.getElem?_eq_getElem hig, Option.getD_some]
          obtain ⟨G, rfl⟩ := Hs4.out (by omega)
          have hR := Hr4.out.kept hkept (fun g cur E hg _ e => by have := Hp3.out; have := RowV.lt this gp rfl; omega)
          obtain ⟨-, hG1, -, x, hx, hI, -⟩ := hR.at_ hig
          obtain ⟨Ax, cx, ex, hcx⟩ := ints_cell hI
          subst ex
          have hpl := hp.len
          have Hbd := Lib.hid (fun h => Hst.part_bd GW M HWl.out i k (by omega) h)
          have hm' : GW[i].length = m := by rw [← hgd]; exact Hm.out
          rw [hm'] at hx
          by_cases hkm : k < m
          · obtain ⟨h, hh⟩ : ∃ h, GW[i][k]'(by omega) = h := ⟨_, rfl⟩
            have hhe : GW[i][k]? = some h := by rw [List.getElem?_eq_getElem (by omega), hh]
            have hhM : h < M := HWi.out i hig h (List.mem_of_getElem? hhe)
            obtain ⟨gx, rfl, -, hgx, hcell⟩ := hcx k h hhe
            have hst := Lib.hid (show Hst.bumps ((i : Int) + 1) ((GW.getD i []).take (k + 1)) (Hst.laid GW M i) = Hst.bump (Hst.bumps ((i : Int) + 1) ((GW.getD i []).take k) (Hst.laid GW M i)) h ((i : Int) + 1) by
              rw [Hst.bumps_succ _ _ _ k (by rw [Hm.out]; exact hkm)]
              rw [(List.getElem?_eq_some_iff.1 (show (GW.getD i [])[k]? = some h by rw [hgd]; exact hhe)).2])
            obtain ⟨-, hgpl, hgpw, hfz, hpc⟩ := hp.at_ (i := h) (by omega)
            obtain ⟨b0, b1⟩ := Hbd.out h
            have hset := fun x => hp.set h x
            generalize Hst.bumps ((i : Int) + 1) ((GW.getD i []).take k) (Hst.laid GW M i) = pl at *
            generalize hpv : pl.getD h 0 = pv at *
            have HS := Lib.hid (hset (pv + ((i : Int) + 1)))
            have Hpv := Lib.hid hpv
            have Hkk := Lib.hid (hkept.setCell (p := ⟨gp, h, none⟩) (.inl rfl) (.int .i64 (pv + ((i : Int) + 1))))
            clear hgd hR hI hcx hpl hm' hh hhe hp hset hpv hkept Hbd hig
            go_wp2_with fail
            go_roundw
            case rel => exact ⟨k + 1, by go_num, by omega, by rw [hst.out]; unfold Hst.bump; rw [Hpv.out]; exact HS.out, Hkk.out⟩
            case measure => simp [intOf]; omega
          · have HE := Lib.hid (show PRow wx gp (.slice (some ⟨gp, 0, none⟩) M M) (Hst.laid GW M (i + 1)) by
              have e : (GW.getD i []).take k = GW.getD i [] := List.take_of_length_le (by rw [Hm.out]; omega)
              rw [e] at hp
              exact hp)
            have Hkk := Lib.hid hkept
            have hkd : decide (k < m) = false := by simp; omega
            clear hgd hR hI hcx hpl hm' hp hkept Hbd hig hkm
            go_wp2_with fail
            go_roundw
            case rel => exact ⟨i + 1, by go_num, by omega, HE.out, Hkk.out⟩
            case measure => simp [intOf]; omega
      · obtain rfl : n4 = i := by omega
        have Hp := Lib.hid hp
        have hq5 : Below wq.heap.size wq wr := Hq4.out.trans (hk.below Hq4.out.size (fun k e => by subst e; exact hgp))
        have Hq5 := Lib.hid hq5
        obtain ⟨-, z0, z1, z2, z3⟩ := HBX.out.on hq5
        have GNc := Lib.hid (gNn.out wr (keeps_trans Hbw.out hq5))
        clear hp hk hq5 gNn Hp4 Hq4 Hr4 Hs4 HWi HWl
        go_wp2_with fail
        refine GNc.out.mono ?_
        rintro e w6 ⟨v6, rfl, hr6, hb6⟩
        obtain ⟨A6, c6, rfl, hs6⟩ := hr6.form
        obtain ⟨n6, hn6⟩ : ∃ n6, GN.length = n6 := ⟨_, rfl⟩
        have Hn6 := Lib.hid hn6
        rw [hn6] at hr6 hs6 HNn HNm ⊢
        have Hr6 := Lib.hid hr6
        have Hs6 := Lib.hid hs6
        have Hp6 := Lib.hid (Hp.out.below hb6)
        have Hq6 := Lib.hid (keeps_trans Hq5.out hb6)
        have hn624 : n6 ≤ 24 := by have := HNn.out; omega
        clear hr6 hs6 hb6 hn6 z0 z1 z2 z3 GNc
        go_wp2_with fail
        go_loop [10, 11] (fun cn i => ∃ (i' : Nat) (q : Int), cn = .int .i64 q ∧ i = .int .i64 (i' : Int) ∧ i' ≤ n6 ∧ Hid (q = Hst.many GN i') ∧ 0 ≤ q ∧ q ≤ 24 * i') (fun _ i => n6 - (intOf i).toNat)
        case atStart => exact ⟨0, 0, rfl, rfl, by omega, Lib.hid rfl, by omega, by omega⟩
        case round =>
          obtain ⟨i, q, rfl, rfl, hi, hq, hq0, hq1⟩ := hrel
          by_cases hin : i < n6
          · obtain ⟨m, hm⟩ : ∃ m, (GN.getD i []).length = m := ⟨_, rfl⟩
            have hm24 : m ≤ 24 := by have := Hst.getD_len HNl.out i; omega
            have Hm := Lib.hid hm
            clear hm
            go_wp2_with fail
            go_loop [10, 12] (fun cn k => ∃ k' : Nat, cn = .int .i64 (q + (k' : Int)) ∧ k = .int .i64 (k' : Int) ∧ k' ≤ m) (fun _ k => m - (intOf k).toNat)
            case atStart => exact ⟨0, by simp, rfl, by omega⟩
            case round =>
              obtain ⟨k, rfl, rfl, hk⟩ := hrel
              have hig : i < GN.length := by rw [Hn6.out]; exact hin
              have hgd : GN.getD i [] = GN[i] := by rw [List.getD_eq_getElem?_getD, List.getElem?_eq_getElem hig, Option.getD_some]
              obtain ⟨G, rfl⟩ := Hs6.out (by omega)
              obtain ⟨-, hG1, -, x, hx, hI, -⟩ := Hr6.out.at_ hig
              obtain ⟨Ax, cx, ex, hcx⟩ := ints_cell hI
              subst ex
              have hm' : GN[i].length = m := by rw [← hgd]; exact Hm.out
              rw [hm'] at hx
              by_cases hkm : k < m
              · obtain ⟨h, hh⟩ : ∃ h, GN[i][k]'(by omega) = h := ⟨_, rfl⟩
                have hhe : GN[i][k]? = some h := by rw [List.getElem?_eq_getElem (by omega), hh]
                obtain ⟨a, tl, hat⟩ : ∃ a tl, GN[i] = a :: tl := List.exists_cons_of_ne_nil (show GN[i] ≠ [] from fun e => by rw [e] at hm'; simp at hm'; omega)
                obtain ⟨hhM, haM, j, hj, e1, e2⟩ := HEa.out i hig h a tl hat (List.mem_of_getElem? hhe)
                obtain ⟨gx, rfl, -, hgx, hcell⟩ := hcx k h hhe
                obtain ⟨gy, eg, -, -, hcell0⟩ := hcx 0 a (by rw [hat]; rfl)
                cases eg
                have hpl := Hp6.out.len
                obtain ⟨-, -, hgpw, -, pc1⟩ := Hp6.out.at_ (i := h) (by omega)
                obtain ⟨-, -, -, -, pc2⟩ := Hp6.out.at_ (i := a) (by omega)
                rw [e1] at pc1
                rw [e2] at pc2
                obtain ⟨pv, hpv⟩ : ∃ pv, (j : Int) + 1 = pv := ⟨_, rfl⟩
                rw [hpv] at pc1 pc2
                have t1 : decide (pv < 1) = false := by simp; omega
                have t2 : decide ((n4 : Int) < pv) = false := by simp; omega
                have t3 : (pv != pv) = false := by simp
                have hm0 : 0 < m := by omega
                clear hgd hI hcx hm' hh hhe hat e1 e2 hpv hpl hig
                go_wp2_with fail
                go_round
                case rel => exact ⟨k + 1, by go_num, by go_num, by omega⟩
                case measure => simp [intOf]; omega
              · obtain rfl : k = m := by omega
                have HQ := Lib.hid (show q + (k : Int) = (Hst.many GN (i + 1) : Int) by
                  rw [hq.out, show Hst.many GN (i + 1) = Hst.many GN i + (GN.getD i []).length from rfl, Hm.out]; push_cast; rfl)
                have hkd : decide (k < k) = false := by simp
                clear hgd hI hcx hm' hkm hig
                go_wp2_with fail
                go_round
                case rel => exact ⟨i + 1, q + (k : Int), by go_num, by go_num, by omega, HQ, by omega, by omega⟩
                case measure => simp [intOf]; omega
          · obtain rfl : i = n6 := by omega
            have e : q = (M : Int) := by rw [hq.out, HNm.out]
            subst e
            obtain ⟨-, z0, z1, z2, z3⟩ := HBX.out.on Hq6.out
            have tq : ((M : Int) == (M : Int)) = true := by simp
            clear hq hin
            go_wp2_with fail
            refine (aw.out _).mono ?_
            rintro e w7 ⟨rfl, hb7⟩
            have HB7 := Lib.hid (keeps_trans Hq6.out hb7)
            clear hb7
            go_wp2_with fail
            go_ret
            exact ⟨rfl, keeps_trans Hbw.out HB7.out⟩
  · have t0 : (ck != 0) = true := by simp [h0]
    clear h0
    go_wp2_with fail
    refine (aw.out _).mono ?_
    rintro e w3 ⟨rfl, hb3⟩
    have HB3 := Lib.hid (keeps_trans HB2.out hb3)
    clear hb3
    go_wp2_with fail
    go_ret
    exact ⟨rfl, keeps_trans Hbw.out HB3.out⟩
end Go.Proofs.Ytjkmcncgndkdoaa.CfgW
