/-
  Chapter 12: what a cohort uses is what all below it use, together, over any world.
-/
import Derived.Test.YtjkmcncgndkdoaaLedLawB
import Derived.Test.YtjkmcncgndkdoaaRefSum
set_option linter.unusedVariables false
set_option linter.unusedSimpArgs false
namespace Go.Proofs.Ytjkmcncgndkdoaa.Led
open Go.Proofs.Ytjkmcncgndkdoaa
def dNone : Deed := ⟨false, 0, ⟨0, 0, 0⟩⟩
def dTo (c : Cfg.C) (l : List Deed) : Nat → U
  | 0 => none_
  | k + 1 => deed c (dTo c l k) (l.getD k dNone)
theorem dTo_both (c : Cfg.C) (l : List Deed) : ∀ k : Nat, k ≤ 1000 → Sums c (dTo c l k) ∧ Small (dTo c l k) ((k : Int) * 1048576)
  | 0, _ => ⟨none_sums c, fun i => by have := none_small i; show (0 ≤ (none_ i).x ∧ _) ∧ _; simp [dTo] at *; omega⟩
  | k + 1, hk => by
    obtain ⟨h1, h2⟩ := dTo_both c l k (by omega)
    have h3 := deed_both (l.getD k dNone) (by omega) h2 h1
    have e : ((k : Int) * 1048576) + 1048576 = ((k + 1 : Nat) : Int) * 1048576 := by push_cast; omega
    rw [e] at h3
    exact h3
end Go.Proofs.Ytjkmcncgndkdoaa.Led
namespace Go.Proofs.Ytjkmcncgndkdoaa.CfgW
open Go Go.RowKit Go.Proofs.Ytjkmcncgndkdoaa.L

set_option maxRecDepth 100000 in
set_option maxHeartbeats 8000000 in
theorem lawsums_any {w : World} {v vl : Value} {c : Cfg.C} {ds : List Led.Deed} (hc : CfgAt w v c) (hd : Deeds w vl ds) :
    Calls Try.prog 7 #[v, vl] w fun e w' => e = .returned (.bool true) ∧ Below w.heap.size w w' := by
  have gC := Lib.hid (rcheck_any hc)
  obtain ⟨v1, v2, rfl, ⟨A1, ca1, rfl, _, _⟩, _⟩ := id hc
  obtain ⟨half, hhalf⟩ : ∃ z, c.half = z := ⟨_, rfl⟩
  obtain ⟨age, hage⟩ : ∃ z, c.age = z := ⟨_, rfl⟩
  rw [hhalf, hage] at gC hc ⊢
  have hck := Lib.hid (fun (h : Cfg.check c = 0) => check_len h)
  obtain ⟨N, hN⟩ : ∃ N, c.nodes.length = N := ⟨_, rfl⟩
  have HN := Lib.hid hN
  rw [hN] at gC hc hck ⊢
  have HC := Lib.hid hc
  have gN := Lib.hid (fun h => new_any hc h)
  obtain ⟨D, cd, rfl, hrD, hlD⟩ := hd
  unfold maxLen at hlD
  have HD := Lib.hid hrD
  obtain ⟨K, hK⟩ : ∃ K, ds.length = K := ⟨_, rfl⟩
  have HK := Lib.hid hK
  rw [hK] at hlD ⊢
  have aw := Lib.hid awake12
  have hbx := CBox.new w (.slice A1 N ca1) v2 half age
  have hb0 : Below w.heap.size w (w.alloc (.cells #[.slice A1 N ca1, v2, .int .i64 half, .int .i64 age] 25)) := by (repeat' (first | (with_reducible exact Below.refl _ _) | (with_reducible assumption) | (with_reducible refine Below.alloc ?_ ?_ _) | (with_reducible refine Go.Proofs.Ytjkmcncgndkdoaa.L.below_drewN ?_ _) | (with_reducible refine Below.drew ?_) | (with_reducible refine Below.setCell ?_ ?_ _) | (with_reducible refine Below.frame ?_ _) | go_size))
  clear hrD hK hc hhalf hage hN
  go_enter Try.func7, Try.ntmps7
  generalize hwq : w.alloc (.cells #[.slice A1 N ca1, v2, .int .i64 half, .int .i64 age] 25) = wq at *
  have HBX := Lib.hid hbx
  have Hb0 := Lib.hid hb0
  obtain ⟨hx0, y0, y1, y2, y3⟩ := hbx
  clear hb0
  go_wp2_with fail
  refine (gC.out _ Hb0.out).mono ?_
  rintro e w2 ⟨rfl, hb2⟩
  have HB2 := Lib.hid hb2
  clear y0 y1 y2 y3 hwq
  obtain ⟨-, y0, y1, y2, y3⟩ := HBX.out.on hb2
  clear hb2
  generalize Cfg.check c = ck at *
  by_cases h0 : ck = 0
  · have t0 : (ck != 0) = false := by simp [h0]
    obtain ⟨hn1, hn12, -⟩ := hck.out h0
    have GN := Lib.hid (gN.out (by have := HN.out; omega) w2 (keeps_trans Hb0.out HB2.out))
    clear h0 gN hck gC
    go_wp2_with fail
    refine GN.out.mono ?_
    rintro e w3 ⟨g, mb, u1, rfl, hL, hg, hmb, hb3⟩
    have HL := Lib.hid hL
    have HB3 := Lib.hid (keeps_trans HB2.out hb3)
    have Hm := Lib.hid (Nat.le_trans HB2.out.size hmb)
    clear hL hb3 y0 y1 y2 y3 GN hg hmb
    go_wp2_with fail
    go_loopw [6] (fun i wr => ∃ k : Nat, i = .int .i64 (k : Int) ∧ k ≤ K ∧ k ≤ 100 ∧ LedAt wr g mb u1 v2 half age c (Led.dTo c ds k) ∧ Below wq.heap.size wq wr) (fun i _ => 100 - (intOf i).toNat)
    case atStart => exact ⟨0, rfl, by omega, by omega, HL.out, HB3.out⟩
    case round =>
      obtain ⟨k, rfl, hk, hk60, hl, hb⟩ := hrel
      rename World => wr
      have HLk := Lib.hid hl
      have HBk := Lib.hid hb
      clear hl hb
      by_cases hkn : k < K ∧ k < 100
      · obtain ⟨hkK, hk6⟩ := hkn
        have hkd : k < ds.length := by rw [HK.out]; exact hkK
        obtain ⟨bd, od, rfl, hltd, hcd⟩ := row_deed HD.out hkd
        obtain ⟨p0, p1, p2, p3, p4⟩ := hcd wr (keeps_trans Hb0.out HBk.out)
        have hbd : bd < wr.heap.size := Nat.lt_of_lt_of_le hltd (keeps_trans Hb0.out HBk.out).size
        have hst := Lib.hid (show Led.dTo c ds (k + 1) = Led.deed c (Led.dTo c ds k) ds[k] by
          have e : ds.getD k Led.dNone = ds[k] := by rw [List.getD_eq_getElem?_getD, List.getElem?_eq_getElem hkd, Option.getD_some]
          rw [← e]; rfl)
        generalize ds[k] = dk at *
        obtain ⟨kg, kt, ⟨z0, z1, z2⟩⟩ := dk
        simp only at p0 p1 p2 p3 p4
        have t60 : decide ((k : Int) < 100) = true := by simp; omega
        have P1 := fun W (h : Onward wr W) => h.cell hbd p1
        have P2 := fun W (h : Onward wr W) => h.cell hbd p2
        have P3 := fun W (h : Onward wr W) => h.cell hbd p3
        have P4 := fun W (h : Onward wr W) => h.cell hbd p4
        clear hcd hkd hltd p1 p2 p3 p4
        cases kg
        all_goals
          go_wp2_with fail
          refine region_keep_tail 11 (by kernel_rfl) (by kernel_rfl) ?_
          simp only [List.take_succ_cons, List.take_zero, List.drop_succ_cons, List.drop_zero]
          repeat (apply Go.Proofs.Ytjkmcncgndkdoaa.L.wpKeep_yes; (focus rfl); (focus (intro W hW; go_simp; first | done | exact ⟨rfl, hW⟩ | rfl)); (focus (go_simp; first | done | rfl)))
          refine wpKeep_nil ?_
          intro W hW
          have HW := Lib.hid (keeps_trans HBk.out hW)
          have hLW := HLk.out.on hW
          have GT := Lib.hid (ltake_any hLW kt ⟨z0, z1, z2⟩)
          have GG := Lib.hid (lgive_any hLW kt ⟨z0, z1, z2⟩)
          clear P1 P2 P3 P4 hW hLW p0
          go_wp2_with fail
          first | refine GT.out.mono ?_ | refine GG.out.mono ?_
          rintro e w5 ⟨rfl, hL5, hk5⟩
          have HE := Lib.hid (show LedAt w5 g mb u1 v2 half age c (Led.dTo c ds (k + 1)) ∧ Below wq.heap.size wq w5 by
            rw [hst.out]
            exact ⟨hL5, HW.out.trans (hk5.below HW.out.size (fun i e => by rw [e]; exact Hm.out))⟩)
          clear hL5 hk5 GT GG
          go_wp2_with fail
          go_roundw
          case rel => exact ⟨k + 1, by go_num, by omega, by omega, HE.out.1, HE.out.2⟩
          case measure => simp [intOf]; omega
      · obtain ⟨hsu, hsm⟩ := Led.dTo_both c ds k (by omega)
        generalize Led.dTo c ds k = u at *
        have HU := Lib.hid (fun (n : Nat) (h : n < N) => Led.used_sum (by rw [HN.out]; exact hn12) (by omega) (by omega) hsm hsu n (by rw [HN.out]; exact h))
        have HM := Lib.hid hsm
        have gA := Lib.hid (lall_any HLk.out (by have := HN.out; omega))
        clear hsm hsu
        by_cases hkK : k < K
        all_goals
          have ht60 : k < K → decide ((k : Int) < 100) = false := fun h => by simp; omega
          first | have ht := ht60 hkK | have ht : decide (k < K) = false := by simpa using hkK
          clear ht60 hkn
          go_wp2_with fail
          refine gA.out.mono ?_
          rintro e w4 ⟨v9, rfl, hv9, hb4⟩
          have HB4 := Lib.hid (keeps_trans HBk.out hb4)
          have HL4 := Lib.hid (HLk.out.on hb4)
          have HV4 := Lib.hid hv9.sl
          obtain ⟨A9, c9, rfl, -⟩ := hv9.sl
          have hal : (Led.all c u).length = N := by unfold Led.all; rw [List.length_map, List.length_range]; exact HN.out
          rw [hal] at HV4 ⊢
          clear hb4 hv9 gA hal
          go_wp2_with fail
          go_loopw [8] (fun i wz => ∃ m : Nat, i = .int .i64 (m : Int) ∧ m ≤ N ∧ Below w4.heap.size w4 wz) (fun i _ => N - (intOf i).toNat)
          case atStart => exact ⟨0, rfl, by omega, Below.refl _ _⟩
          case round =>
            obtain ⟨m, rfl, hm, hbz⟩ := hrel
            rename World => wz
            have HBz := Lib.hid (keeps_trans HB4.out hbz)
            have HBz4 := Lib.hid hbz
            have hbxz := HBX.out.on HBz.out
            obtain ⟨-, b0, b1, b2, b3⟩ := HBX.out.on HBz.out
            by_cases hmN : m < N
            · have gu := (lused_any HL4.out (m : Int)).on hbz
              have gs := (rsum_any (HC.out.below (keeps_trans Hb0.out HB4.out)) (by have := HN.out; omega) HV4.out (m : Int)).on hbz
              rw [HU.out m hmN] at gs
              rw [show Led.at_ c u (m : Int) = u m by unfold Led.at_; rw [if_pos ⟨by omega, by rw [HN.out]; omega⟩, Int.toNat_natCast]] at gu
              have gf := VecW.grfits Vec.zero (u m)
              rw [show Vec.fits Vec.zero (u m) = true by rw [Vec.fits_iff]; have := HM.out m; simp [Vec.zero]; omega] at gf
              generalize u m = y at *
              obtain ⟨s0, s1, s2⟩ := y
              have gu' : GivesAt Try.prog wz 32 #[.pointer (some ⟨g, 0, none⟩), .int .i64 (m : Int)] (.agg #[.int .i64 s0, .int .i64 s1, .int .i64 s2]) := gu
              have gs' : GivesAt Try.prog wz 34 #[.agg #[.slice A1 N ca1, v2, .int .i64 half, .int .i64 age], .int .i64 (m : Int), .slice A9 N c9] (.agg #[.int .i64 s0, .int .i64 s1, .int .i64 s2]) := gs
              have gf' : Gives Try.prog 35 #[.agg #[.int .i64 0, .int .i64 0, .int .i64 0], .agg #[.int .i64 s0, .int .i64 s1, .int .i64 s2]] (.bool true) := gf
              have hsy := sameV_self ⟨s0, s1, s2⟩
              simp only at hsy
              have GU := Lib.hid gu'
              have GS := Lib.hid gs'
              obtain ⟨X0, X1, X2, X3⟩ := hbxz.all
              clear gu gs gf gu' gs' hbz hbxz
              go_wp2_with fail
              refine region_keep (by kernel_rfl) (by kernel_rfl) ?_
              repeat (apply Go.Proofs.Ytjkmcncgndkdoaa.L.wpKeep_yes; (focus rfl); (focus (intro W hW; go_simp; first | done | exact ⟨rfl, hW⟩ | rfl)); (focus (go_simp; first | done | rfl)))
              (apply Go.Proofs.Ytjkmcncgndkdoaa.L.wpKeep_yes; (focus rfl); (focus (intro W hW; go_simp; first | exact (GU.out.up (Below.refl _ _)) W hW | exact ⟨hW, (GU.out.up (Below.refl _ _)) W hW⟩)); (focus (go_simp; first | done | rfl)))
              repeat (apply Go.Proofs.Ytjkmcncgndkdoaa.L.wpKeep_yes; (focus rfl); (focus (intro W hW; go_simp; first | done | exact ⟨rfl, hW⟩ | rfl)); (focus (go_simp; first | done | rfl)))
              (apply Go.Proofs.Ytjkmcncgndkdoaa.L.wpKeep_yes; (focus rfl); (focus (intro W hW; go_simp; first | exact (GS.out.up (Below.refl _ _)) W hW | exact ⟨hW, (GS.out.up (Below.refl _ _)) W hW⟩)); (focus (go_simp; first | done | rfl)))
              repeat (apply Go.Proofs.Ytjkmcncgndkdoaa.L.wpKeep_yes; (focus rfl); (focus (intro W hW; go_simp; first | done | exact ⟨rfl, hW⟩ | rfl)); (focus (go_simp; first | done | rfl)))
              (apply Go.Proofs.Ytjkmcncgndkdoaa.L.wpKeep_yes; (focus rfl); (focus (intro W hW; go_simp; first | exact (GU.out.up (Below.refl _ _)) W hW | exact ⟨hW, (GU.out.up (Below.refl _ _)) W hW⟩)); (focus (go_simp; first | done | rfl)))
              repeat (apply Go.Proofs.Ytjkmcncgndkdoaa.L.wpKeep_yes; (focus rfl); (focus (intro W hW; go_simp; first | done | exact ⟨rfl, hW⟩ | rfl)); (focus (go_simp; first | done | rfl)))
              (apply Go.Proofs.Ytjkmcncgndkdoaa.L.wpKeep_yes; (focus rfl); (focus (intro W hW; go_simp; first | exact Go.Proofs.Ytjkmcncgndkdoaa.L.Gives.up gf' hW | exact ⟨hW, Go.Proofs.Ytjkmcncgndkdoaa.L.Gives.up gf' hW⟩)); (focus (go_simp; first | done | rfl)))
              repeat (apply Go.Proofs.Ytjkmcncgndkdoaa.L.wpKeep_yes; (focus rfl); (focus (intro W hW; go_simp; first | done | exact ⟨rfl, hW⟩ | rfl)); (focus (go_simp; first | done | rfl)))
              refine wpKeep_nil ?_
              intro W hW
              have HW := Lib.hid (keeps_trans HBz4.out hW)
              clear X0 X1 X2 X3 hW b0 b1 b2 b3 gf'
              go_wp2_with fail
              go_roundw
              case rel => exact ⟨m + 1, by go_num, by omega, HW.out⟩
              case measure => simp [intOf]; omega
            · have hmd : decide (m < N) = false := by simpa using hmN
              have tNN : ((N : Int) == (N : Int)) = true := by simp
              clear hmN hbz hbxz
              go_wp2_with fail
              refine (aw.out _).mono ?_
              rintro e w10 ⟨rfl, hb10⟩
              have HB10 := Lib.hid (keeps_trans HBz.out hb10)
              clear hb10
              go_wp2_with fail
              go_ret
              exact ⟨rfl, keeps_trans Hb0.out HB10.out⟩
  · have t0 : (ck != 0) = true := by simp [h0]
    clear h0
    go_wp2_with fail
    refine (aw.out _).mono ?_
    rintro e w3 ⟨rfl, hb3⟩
    have HB3 := Lib.hid (keeps_trans HB2.out hb3)
    clear hb3
    go_wp2_with fail
    go_ret
    exact ⟨rfl, keeps_trans Hb0.out HB3.out⟩
end Go.Proofs.Ytjkmcncgndkdoaa.CfgW
