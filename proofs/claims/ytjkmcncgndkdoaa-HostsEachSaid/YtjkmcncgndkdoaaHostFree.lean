/-
  What all hosts have left: the contract of hosts.Free.
-/
import Derived.Test.YtjkmcncgndkdoaaHostPlain
import Derived.Test.YtjkmcncgndkdoaaRuns
set_option linter.unusedVariables false
set_option linter.unusedSimpArgs false
namespace Go.Proofs.Ytjkmcncgndkdoaa.CfgW
open Go.RowKit Go.Proofs.Ytjkmcncgndkdoaa.L

/-- A row of amounts, made since. -/
def VEnd (l : List Vec.V) (w : World) (e : Ending) (w' : World) : Prop := ∃ v, e = .returned v ∧ VRow w' w.heap.size v l ∧ Below w.heap.size w w'

set_option maxRecDepth 100000 in
set_option maxHeartbeats 4000000 in
theorem free_any {w : World} {v vr : Value} {c : Cfg.C} {rs : List Run} (hc : CfgAt w v c) (hr : Runs w vr rs) (hlen : c.hosts.length ≤ 1000000) :
    ∀ w1, Below w.heap.size w w1 → Calls Try.prog 38 #[v, vr] w1 fun e w' => VEnd (Hst.free c.hosts (asks rs)) w1 e w' := by
  intro w1 hb1
  replace hc := hc.below hb1
  replace hr := hr.below hb1
  clear hb1
  obtain ⟨v1, v2, rfl, ⟨A, ca, rfl, hrA, hl⟩, ⟨B, cb, rfl, hrB, hl2⟩⟩ := id hc
  obtain ⟨R, cr, rfl, hrR, hl3, hin⟩ := hr
  unfold maxLen at hl3
  generalize c.nodes.length = N at *
  obtain ⟨half, hhalf⟩ : ∃ z, c.half = z := ⟨_, rfl⟩
  obtain ⟨age, hage⟩ : ∃ z, c.age = z := ⟨_, rfl⟩
  rw [hhalf, hage]
  clear hrA hl hl2 hc hhalf hage
  generalize c.hosts = hs at *
  obtain ⟨M, hM⟩ : ∃ M, hs.length = M := ⟨_, rfl⟩
  obtain ⟨K, hK⟩ : ∃ K, rs.length = K := ⟨_, rfl⟩
  have HM := Lib.hid hM
  have HK := Lib.hid hK
  rw [hM] at hlen ⊢
  rw [hK] at hl3 ⊢
  have HB := Lib.hid hrB
  have HR := Lib.hid hrR
  have HI := Lib.hid hin
  clear hrB hrR hM hK hin
  have hbx := CBox.new w1 (.slice A N ca) (.slice B M cb) half age
  have hbw : Below w1.heap.size w1 (w1.alloc (.cells #[.slice A N ca, .slice B M cb, .int .i64 half, .int .i64 age] 25)) := (Below.refl _ _).alloc (Nat.le_refl _) _
  obtain ⟨w2, hmk, hrow, hbm, hlt⟩ := make_vecs (w1.alloc (.cells #[.slice A N ca, .slice B M cb, .int .i64 half, .int .i64 age] 25)) M (by omega)
  have hb2 := keeps_trans hbw hbm
  have hx2 := hbx.on hbm
  generalize hG : (w1.alloc (.cells #[.slice A N ca, .slice B M cb, .int .i64 half, .int .i64 age] 25)).heap.size = G at *
  have hG1 : w1.heap.size ≤ G := by rw [← hG]; simp
  have HRow := Lib.hid (hrow.low hG1)
  obtain ⟨hx0, x0, x1, x2, x3⟩ := id hx2
  have Hmk := Lib.hid hmk
  clear hbx hbm hrow hmk
  go_enter Try.func38, Try.ntmps38
  have hmk := Hmk.out
  have hb2' := hb2
  clear hx2
  go_wp2_with fail
  have HB2 := Lib.hid hb2'
  have hgw : w1.heap.size ≤ G := hG1
  clear hmk Hmk hG hx0 x0 x1 x2 x3 hbw hb2'
  have HC0 := Lib.hid (Hst.capTo_zero hs)
  go_loopw [19] (fun i wr => ∃ k : Nat, i = .int .i64 (k : Int) ∧ k ≤ M ∧ VRow wr w1.heap.size (.slice (some ⟨G, 0, none⟩) M M) (Hst.capTo hs k) ∧ Below w1.heap.size w1 wr) (fun i _ => M - (intOf i).toNat)
  case atStart => exact ⟨0, rfl, by omega, by rw [HC0.out, HM.out]; exact HRow.out, HB2.out⟩
  case round =>
    obtain ⟨k, rfl, hk, hrow, hb⟩ := hrel
    by_cases hkn : k < M
    · have hkh : k < hs.length := by rw [HM.out]; exact hkn
      obtain ⟨bh, oh, rfl, hlth, hch⟩ := row_host HB.out hkh
      obtain ⟨p0, p1, p2, p3, p4, p5⟩ := hch wr hb
      have hsc := Lib.hid (Hst.capTo_succ hs k hkh)
      generalize hs[k] = h at *
      obtain ⟨h0, h1, h2, ⟨h3, h4, h5⟩⟩ := h
      simp only at p0 p1 p2 p3 p4 p5
      have hkl : k < (Hst.capTo hs k).length := by rw [Hst.capTo_length hs k (by omega)]; exact hkh
      obtain ⟨-, -, hwg, q0, q1, q2⟩ := hrow.at_ hkl
      generalize (Hst.capTo hs k)[k] = z at *
      have fz := hrow.ok
      have HRow2 := Lib.hid hrow
      have Hb := Lib.hid hb
      clear hch hrow hb hkl hkh
      go_wp2_with fail
      refine ⟨⟨k + 1, by go_num, by omega, ?_, ?_⟩, by simp [intOf]; omega⟩
      · rw [← hsc.out]
        exact (HRow2.out.set k ⟨h3, h4, h5⟩).below ((Below.refl _ _).alloc (Nat.le_refl _) _)
      · have := Hb.out
        (repeat' (first | (with_reducible exact Below.refl _ _) | (with_reducible assumption) | (with_reducible refine Below.alloc ?_ ?_ _) | (with_reducible refine Go.Proofs.Ytjkmcncgndkdoaa.L.below_drewN ?_ _) | (with_reducible refine Below.drew ?_) | (with_reducible refine Below.setCell ?_ ?_ _) | (with_reducible refine Below.frame ?_ _) | go_size))
    · have hkM : M ≤ k := by omega
      have HRow2 := Lib.hid hrow
      have Hb := Lib.hid hb
      have HF := Lib.hid (show Hst.capTo hs k = Hst.freeTo hs (asks rs) 0 by rw [Hst.capTo_all hs k (by rw [HM.out]; exact hkM)]; rfl)
      clear hrow hb HRow HB2 hb2 HC0
      go_wp2_with fail
      go_loopw [32] (fun i wr => ∃ k : Nat, i = .int .i64 (k : Int) ∧ k ≤ K ∧ VRow wr w1.heap.size (.slice (some ⟨G, 0, none⟩) M M) (Hst.freeTo hs (asks rs) k) ∧ Below w1.heap.size w1 wr) (fun i _ => K - (intOf i).toNat)
      case atStart => exact ⟨0, rfl, by omega, by rw [← HF.out]; exact HRow2.out, Hb.out⟩
      case round =>
        clear HRow2 Hb HF
        obtain ⟨n, rfl, hn, hrow, hb⟩ := hrel
        by_cases hnk : n < K
        · have hnr : n < rs.length := by rw [HK.out]; exact hnk
          obtain ⟨br, or, rfl, hltr, hcr⟩ := row_run HR.out hnr
          obtain ⟨p0, p1, p2, p3, p4, p5, p6, p7, p8, p9, p10, p11, p12, p13⟩ := hcr _ hb
          obtain ⟨_, hask⟩ := asks_at hnr
          have hnx := Lib.hid (Hst.freeTo_succ hs (asks rs) n (by rw [asks_length]; exact hnr))
          have hmem : rs[n] ∈ rs := List.getElem_mem hnr
          have hint := HI.out _ hmem
          rw [hask] at hnx
          generalize rs[n] = r at *
          obtain ⟨id, tenant, pods, ⟨n0, n1, n2⟩, run, level, prefer, seq, at_, start, flavor, hosts, hv⟩ := r
          simp only at p0 p1 p2 p3 p4 p5 p6 p7 p8 p9 p10 p11 p12 p13 hnx hint
          obtain ⟨C, cc, rfl, hrC, hlC⟩ := hint
          obtain ⟨L, hL⟩ : ∃ L, hosts.length = L := ⟨_, rfl⟩
          unfold maxLen at hlC
          have HL := Lib.hid hL
          rw [hL] at p13 hlC
          have HC := Lib.hid hrC
          have HRow3 := Lib.hid hrow
          have Hb3 := Lib.hid hb
          clear hcr hask hmem hnr hrC hrow hb hL
          go_wp2_with fail
          have hwb : Below w1.heap.size w1 (wr.alloc (.cells #[.int .i64 id, .int .i64 tenant, .int .i64 pods, .int .i64 n0, .int .i64 n1, .int .i64 n2, .int .i64 run, .int .i64 level, .int .i64 prefer, .int .i64 seq, .int .i64 at_, .int .i64 start, .int .i64 flavor, .slice C L cc] 89)) := Hb3.out.alloc Hb3.out.size _
          have hRB : VBox3 (wr.alloc (.cells #[.int .i64 id, .int .i64 tenant, .int .i64 pods, .int .i64 n0, .int .i64 n1, .int .i64 n2, .int .i64 run, .int .i64 level, .int .i64 prefer, .int .i64 seq, .int .i64 at_, .int .i64 start, .int .i64 flavor, .slice C L cc] 89)) wr.heap.size 3 ⟨n0, n1, n2⟩ := ⟨by simp, by simp [go_sem], by simp [go_sem], by simp [go_sem]⟩
          have hGb : G < wr.heap.size := (HRow3.out.lt G rfl).2
          have hRw := HRow3.out.below ((Below.refl _ _).alloc (Nat.le_refl _) (.cells #[.int .i64 id, .int .i64 tenant, .int .i64 pods, .int .i64 n0, .int .i64 n1, .int .i64 n2, .int .i64 run, .int .i64 level, .int .i64 prefer, .int .i64 seq, .int .i64 at_, .int .i64 start, .int .i64 flavor, .slice C L cc] 89))
          generalize hwq : wr.alloc (.cells #[.int .i64 id, .int .i64 tenant, .int .i64 pods, .int .i64 n0, .int .i64 n1, .int .i64 n2, .int .i64 run, .int .i64 level, .int .i64 prefer, .int .i64 seq, .int .i64 at_, .int .i64 start, .int .i64 flavor, .slice C L cc] 89) = wq at *
          have hbx : wr.heap.size < wq.heap.size := hRB.1
          generalize wr.heap.size = bx at *
          have HA := Lib.hid (And.intro hwb (And.intro hRB hRw))
          clear hwb hRB hRw p0 p1 p2 p3 p4 p5 p6 p7 p8 p9 p10 p11 p12 p13 HRow3 Hb3 hwq
          have hFl := Lib.hid (Hst.freeTo_length hs (asks rs) n)
          generalize Hst.freeTo hs (asks rs) n = F0 at *
          go_loopw [39] (fun i wx => ∃ j : Nat, i = .int .i64 (j : Int) ∧ j ≤ L ∧ VRow wx w1.heap.size (.slice (some ⟨G, 0, none⟩) M M) (Hst.gang Vec.sub ⟨n0, n1, n2⟩ (hosts.take j) F0) ∧ Below w1.heap.size w1 wx ∧ VBox3 wx bx 3 ⟨n0, n1, n2⟩) (fun i _ => L - (intOf i).toNat)
          case atStart => exact ⟨0, rfl, by omega, HA.out.2.2, HA.out.1, HA.out.2.1⟩
          case round =>
            clear HA
            obtain ⟨j, rfl, hj, hrow, hb, hbox⟩ := hrel
            rename World => wx
            by_cases hjl : j < L
            · have hjh : j < hosts.length := by rw [HL.out]; exact hjl
              obtain ⟨bc, oc, rfl, hltc, hcc⟩ := row_int HC.out hjh
              have p := hcc _ hb
              have hnx2 := Lib.hid (Hst.gang_succ Vec.sub ⟨n0, n1, n2⟩ hosts F0 j hjh)
              generalize hosts[j] = h at *
              have hlen2 := Lib.hid (Hst.gang_length Vec.sub ⟨n0, n1, n2⟩ (hosts.take j) F0)
              generalize Hst.gang Vec.sub ⟨n0, n1, n2⟩ (hosts.take j) F0 = O at *
              have hOM : O.length = M := by rw [hlen2.out, hFl.out, HM.out]
              clear hcc hjh
              by_cases hin : 0 ≤ h ∧ h < (M : Int)
              · obtain ⟨i, rfl⟩ := Int.eq_ofNat_of_zero_le hin.1
                have hiM : i < M := by have := hin.2; omega
                have hiO : i < O.length := by omega
                obtain ⟨-, hBg, hwg, q⟩ := hrow.at_ hiO
                have hone : Hid (Hst.one Vec.sub ⟨n0, n1, n2⟩ O (i : Int) = O.set i (Vec.sub O[i] ⟨n0, n1, n2⟩)) := Lib.hid (by
                  unfold Hst.one
                  rw [if_pos ⟨by omega, by omega⟩, Int.toNat_natCast, List.getD_eq_getElem?_getD, List.getElem?_eq_getElem hiO, Option.getD_some])
                generalize O[i] = z at *
                obtain ⟨z0, z1, z2⟩ := z
                have q' := q
                obtain ⟨q0, q1, q2⟩ := q'
                have C0 : Hid (∀ W, Onward wx W → VAt W G (i * 3) ⟨z0, z1, z2⟩) := Lib.hid (fun W hW => (VBox3.on ⟨hwg, q⟩ hW).2)
                have C1 : Hid (∀ W, Onward wx W → VBox3 W bx 3 ⟨n0, n1, n2⟩) := Lib.hid (fun W hW => hbox.on hW)
                have HR3 := Lib.hid hrow
                have Hb3 := Lib.hid hb
                have t1 : decide ((0 : Int) ≤ (i : Int)) = true := by simp
                have t2 : decide ((i : Int) < (M : Int)) = true := by simpa using hiM
                clear hrow hb hbox q hin hiO hOM
                go_wp2_with fail
                refine region_keep_tail 10 (by kernel_rfl) (by kernel_rfl) ?_
                simp only [List.take_succ_cons, List.take_zero, List.drop_succ_cons, List.drop_zero]
                have c0 : ∀ W, Onward wx W → W.cell? ⟨G, i * 3, none⟩ = some (.int .i64 z0) := fun W hW => (C0.out W hW).1
                have c1 : ∀ W, Onward wx W → W.cell? ⟨G, i * 3 + 1, none⟩ = some (.int .i64 z1) := fun W hW => (C0.out W hW).2.1
                have c2 : ∀ W, Onward wx W → W.cell? ⟨G, i * 3 + 2, none⟩ = some (.int .i64 z2) := fun W hW => (C0.out W hW).2.2
                have c3 : ∀ W, Onward wx W → W.cell? ⟨bx, 3, none⟩ = some (.int .i64 n0) := fun W hW => (C1.out W hW).2.1
                have c4 : ∀ W, Onward wx W → W.cell? ⟨bx, 4, none⟩ = some (.int .i64 n1) := fun W hW => (C1.out W hW).2.2.1
                have c5 : ∀ W, Onward wx W → W.cell? ⟨bx, 5, none⟩ = some (.int .i64 n2) := fun W hW => (C1.out W hW).2.2.2
                repeat (apply Go.Proofs.Ytjkmcncgndkdoaa.L.wpKeep_yes; (focus rfl); (focus (intro W hW; go_simp; first | done | exact ⟨rfl, hW⟩ | rfl)); (focus (go_simp; first | done | rfl)))
                (apply Go.Proofs.Ytjkmcncgndkdoaa.L.wpKeep_yes; (focus rfl); (focus (intro W hW; go_simp; first | exact Go.Proofs.Ytjkmcncgndkdoaa.L.Gives.up (VecW.gsub ⟨z0, z1, z2⟩ ⟨n0, n1, n2⟩) hW | exact ⟨hW, Go.Proofs.Ytjkmcncgndkdoaa.L.Gives.up (VecW.gsub ⟨z0, z1, z2⟩ ⟨n0, n1, n2⟩) hW⟩)); (focus (go_simp; first | done | rfl)))
                repeat (apply Go.Proofs.Ytjkmcncgndkdoaa.L.wpKeep_yes; (focus rfl); (focus (intro W hW; go_simp; first | done | exact ⟨rfl, hW⟩ | rfl)); (focus (go_simp; first | done | rfl)))
                refine wpKeep_nil ?_
                intro W hW
                have hRW := HR3.out.below hW
                have fz := hRW.ok
                obtain ⟨d0, d1, d2⟩ := C0.out W hW
                have hbW := C1.out W hW
                have HRW := Lib.hid hRW
                have HBW := Lib.hid (keeps_trans Hb3.out hW)
                have HXW := Lib.hid hbW
                obtain ⟨v0, hv0⟩ : ∃ v, Vec.sub ⟨z0, z1, z2⟩ ⟨n0, n1, n2⟩ = v := ⟨_, rfl⟩
                have Hv0 := Lib.hid hv0
                obtain ⟨s0, s1, s2⟩ := v0
                rw [show (Vec.sub { x := z0, y := z1, z := z2 } { x := n0, y := n1, z := n2 }).val = .agg #[.int .i64 s0, .int .i64 s1, .int .i64 s2] by rw [hv0]; rfl]
                clear c0 c1 c2 c3 c4 c5 C0 C1 hRW hbW hv0 hW
                go_wp2_with fail
                go_roundw
                case rel =>
                  refine ⟨j + 1, by go_num, by omega, ?_, put3_below HBW.out hgw _ ⟨s0, s1, s2⟩, HXW.out.kept (put3_kept W G (i * 3) ⟨s0, s1, s2⟩) (by omega)⟩
                  rw [hnx2.out, hone.out, Hv0.out]
                  exact HRW.out.set i ⟨s0, s1, s2⟩
                case measure => simp [intOf]; omega
              · have hone : Hid (Hst.one Vec.sub ⟨n0, n1, n2⟩ O h = O) := Lib.hid (by
                  unfold Hst.one
                  rw [if_neg (by rw [hOM]; exact hin)])
                have HR3 := Lib.hid hrow
                have Hb3 := Lib.hid hb
                have HX3 := Lib.hid hbox
                clear hrow hb hbox hOM
                by_cases h0 : 0 ≤ h
                · have t1 : decide ((0 : Int) ≤ h) = true := by simpa using h0
                  have t2 : decide (h < (M : Int)) = false := by simp; omega
                  clear hin h0
                  go_wp2_with fail
                  go_roundw
                  case rel => exact ⟨j + 1, by go_num, by omega, by rw [hnx2.out, hone.out]; exact HR3.out, Hb3.out, HX3.out⟩
                  case measure => simp [intOf]; omega
                · have t1 : decide ((0 : Int) ≤ h) = false := by simpa using h0
                  clear hin h0
                  go_wp2_with fail
                  go_roundw
                  case rel => exact ⟨j + 1, by go_num, by omega, by rw [hnx2.out, hone.out]; exact HR3.out, Hb3.out, HX3.out⟩
                  case measure => simp [intOf]; omega
            · have HR3 := Lib.hid (show VRow wx w1.heap.size (.slice (some ⟨G, 0, none⟩) M M) (Hst.freeTo hs (asks rs) (n + 1)) by
                rw [hnx.out]
                rwa [List.take_of_length_le (by rw [HL.out]; omega)] at hrow)
              have Hb3 := Lib.hid hb
              clear hrow hb hbox
              go_wp2_with fail
              go_roundw
              case rel => exact ⟨n + 1, by go_num, by omega, HR3.out, Hb3.out⟩
              case measure => simp [intOf]; omega
        · have HE := Lib.hid (show VEnd (Hst.free hs (asks rs)) w1 (.returned (.slice (some ⟨G, 0, none⟩) M M)) wr from ⟨_, rfl, by rw [← Hst.freeTo_all hs (asks rs) n (by rw [asks_length, HK.out]; omega)]; exact hrow, hb⟩)
          clear hrow hb
          go_wp2_with fail
          go_ret
          exact HE.out
end Go.Proofs.Ytjkmcncgndkdoaa.CfgW
