/-
  What all hosts have left: the contract of the reference's Free.
-/
import Derived.Test.YtjkmcncgndkdoaaHostFree
set_option linter.unusedVariables false
set_option linter.unusedSimpArgs false
namespace Go.Proofs.Ytjkmcncgndkdoaa.CfgW
open Go.RowKit Go.Proofs.Ytjkmcncgndkdoaa.L

theorem vecs_push {w1 w : World} {v : Value} {l : List Vec.V} (h : VRow w w1.heap.size v l) (hb : Below w1.heap.size w1 w) (x : Vec.V) (hl : l.length ≤ 1048576) :
    ∃ v' w', (Builtin.append_ #[49, 49] 49 #[v, .slice (some ⟨w.heap.size, 0, none⟩) 1 1]).run Try.prog (w.alloc (.cells #[.int .i64 x.x, .int .i64 x.y, .int .i64 x.z] 33)) = .ok v' w' ∧ VRow w' w1.heap.size v' (l ++ [x]) ∧
      Below w1.heap.size w1 w' ∧ Kept (fun k => v.ownBlock = some k) w w' ∧ (∀ k, v'.ownBlock = some k → v.ownBlock = some k ∨ w.heap.size ≤ k) := by
  obtain ⟨v', w', hr, ho, hg, hn⟩ := append_vec h hb.size x hl
  have hk : Kept (fun k => v.ownBlock = some k) w w' := ((Kept.refl _ w).alloc _).trans (Kept.of_grown hg (fun i e => e))
  exact ⟨v', w', hr, ho, hb.trans (hk.below hb.size (fun i hi => (h.lt i hi).1)), hk, hn⟩
theorem VRow.form {w : World} {B : Nat} {v : Value} {xs : List Vec.V} (h : VRow w B v xs) : ∃ A c, v = .slice A xs.length c ∧ (0 < xs.length → ∃ g, A = some ⟨g, 0, none⟩) := by
  rcases h.2 with ⟨rfl, hx⟩ | ⟨g, cap, cur, rfl, hb, hh, hc⟩
  · exact ⟨none, 0, by rw [hx], fun h => by omega⟩
  · exact ⟨_, _, rfl, fun _ => ⟨g, rfl⟩⟩

set_option maxRecDepth 100000 in
set_option maxHeartbeats 4000000 in
theorem rfree_any {w : World} {v vr : Value} {c : Cfg.C} {rs : List Run} (hc : CfgAt w v c) (hr : Runs w vr rs) (hlen : c.hosts.length ≤ 1000000) :
    ∀ w1, Below w.heap.size w w1 → Calls Try.prog 39 #[v, vr] w1 fun e w' => VEnd (Hst.free c.hosts (asks rs)) w1 e w' := by
  intro w1 hb1
  replace hc := hc.below hb1
  replace hr := hr.below hb1
  clear hb1
  obtain ⟨v1, v2, rfl, ⟨A, ca, rfl, hrA, hl⟩, ⟨B, cb, rfl, hrB, hl2⟩⟩ := id hc
  obtain ⟨R, cr, rfl, hrR, hl3, hin⟩ := hr
  unfold maxLen at hl3
  generalize c.nodes.length = N at *
  obtain ⟨half, hhalf⟩ : ∃ z, c.half = z := ⟨_, rfl⟩
  obtain ⟨age, hage⟩ : ∃ z, c.age = z := ⟨_, rfl⟩
  rw [hhalf, hage]
  clear hrA hl hl2 hc hhalf hage
  generalize c.hosts = hs at *
  obtain ⟨M, hM⟩ : ∃ M, hs.length = M := ⟨_, rfl⟩
  obtain ⟨K, hK⟩ : ∃ K, rs.length = K := ⟨_, rfl⟩
  have HM := Lib.hid hM
  have HK := Lib.hid hK
  rw [hM] at hlen ⊢
  rw [hK] at hl3 ⊢
  have HB := Lib.hid hrB
  have HR := Lib.hid hrR
  have HI := Lib.hid hin
  clear hrB hrR hM hK hin
  have hbx := CBox.new w1 (.slice A N ca) (.slice B M cb) half age
  have hbw : Below w1.heap.size w1 (w1.alloc (.cells #[.slice A N ca, .slice B M cb, .int .i64 half, .int .i64 age] 25)) := (Below.refl _ _).alloc (Nat.le_refl _) _
  have h0 : VRow (w1.alloc (.cells #[.slice A N ca, .slice B M cb, .int .i64 half, .int .i64 age] 25)) w1.heap.size (.slice none 0 0) ((Hst.caps hs).take 0) := VRow.nil _ _
  go_enter Try.func39, Try.ntmps39
  go_wp2_with fail
  go_loopw [5, 6] (fun l i wr => ∃ k : Nat, i = .int .i64 (k : Int) ∧ k ≤ M ∧ VRow wr w1.heap.size l ((Hst.caps hs).take k) ∧ l.ownBlock ≠ some w1.heap.size ∧ Below w1.heap.size w1 wr ∧ CBox wr w1.heap.size (.slice A N ca) (.slice B M cb) half age) (fun _ i _ => M - (intOf i).toNat)
  case atStart => exact ⟨0, rfl, by omega, h0, by simp [Value.ownBlock], hbw, hbx⟩
  case round =>
    clear hbw hbx h0
    obtain ⟨k, rfl, hk, hrow, hne, hb, hx⟩ := hrel
    have HX := Lib.hid hx
    obtain ⟨hx0, x0, x1, x2, x3⟩ := hx
    by_cases hkn : k < M
    · have hkh : k < hs.length := by rw [HM.out]; exact hkn
      obtain ⟨bh, oh, rfl, hlth, hch⟩ := row_host HB.out hkh
      obtain ⟨p0, p1, p2, p3, p4, p5⟩ := hch wr hb
      have hsc : Hid ((Hst.caps hs).take (k + 1) = (Hst.caps hs).take k ++ [hs[k].cap]) := Lib.hid (by
        rw [List.take_add_one]
        simp [Hst.caps, List.getElem?_eq_getElem hkh])
      have hll : ((Hst.caps hs).take k).length ≤ 1048576 := by rw [List.length_take]; omega
      generalize hs[k] = h at *
      obtain ⟨h0, h1, h2, ⟨h3, h4, h5⟩⟩ := h
      simp only at p0 p1 p2 p3 p4 p5 hsc
      obtain ⟨v', w5, hrun, ho, hb5, hk5, hn5⟩ := vecs_push hrow hb ⟨h3, h4, h5⟩ hll
      simp only at hrun
      have hx5 := HX.out.kept hk5 hne
      have hne5 : v'.ownBlock ≠ some w1.heap.size := fun e => by
        rcases hn5 _ e with h | h
        · exact hne h
        · omega
      have HO := Lib.hid (And.intro ho (And.intro hne5 (And.intro hb5 hx5)))
      clear hch hkh hrow hne hb ho hne5 hb5 hx5 hk5 hn5 hll
      go_wp2_with (at_builtin; refine wpList_append_eq rfl (.tmp 17) (.tmp 24) _ _ rfl u5 (.slice (some ⟨wr.heap.size, 0, none⟩) 1 1) rfl rfl hrun ?_)
      go_roundw
      case rel => exact ⟨k + 1, by go_num, by omega, by rw [hsc.out]; exact HO.out.1, HO.out.2.1, HO.out.2.2.1, HO.out.2.2.2⟩
      case measure => simp [intOf]; omega
    · have hkM : M ≤ k := by omega
      have hall : (Hst.caps hs).take k = Hst.freeTo hs (asks rs) 0 := by
        rw [List.take_of_length_le (by simp [Hst.caps, HM.out]; omega)]; rfl
      rw [hall] at hrow
      obtain ⟨A5, c5, hA5, hsm⟩ := hrow.form
      rw [Hst.freeTo_length, HM.out] at hA5 hsm
      subst hA5
      have tk : decide ((k : Int) < (M : Int)) = false := by simpa using hkM
      have HRow2 := Lib.hid hrow
      have Hb := Lib.hid hb
      have HS := Lib.hid hsm
      clear hrow hb hne hall hsm
      go_wp2_with fail
      go_loopw [7] (fun i wr => ∃ k : Nat, i = .int .i64 (k : Int) ∧ k ≤ K ∧ VRow wr w1.heap.size (.slice A5 M c5) (Hst.freeTo hs (asks rs) k) ∧ Below w1.heap.size w1 wr) (fun i _ => K - (intOf i).toNat)
      case atStart => exact ⟨0, rfl, by omega, HRow2.out, Hb.out⟩
      case round =>
        clear HRow2 Hb
        obtain ⟨n, rfl, hn, hrow, hb⟩ := hrel
        clear HX hx0 x0 x1 x2 x3
        by_cases hnk : n < K
        · have hnr : n < rs.length := by rw [HK.out]; exact hnk
          obtain ⟨br, or, rfl, hltr, hcr⟩ := row_run HR.out hnr
          obtain ⟨_, hask⟩ := asks_at hnr
          have hnx := Lib.hid (Hst.freeTo_succ hs (asks rs) n (by rw [asks_length]; exact hnr))
          have hmem : rs[n] ∈ rs := List.getElem_mem hnr
          have hint := HI.out _ hmem
          rw [hask] at hnx
          generalize rs[n] = r at *
          obtain ⟨id, tenant, pods, ⟨n0, n1, n2⟩, run, level, prefer, seq, at_, start, flavor, hosts, hv⟩ := r
          simp only at hnx hint
          obtain ⟨C, cc, rfl, hrC, hlC⟩ := hint
          obtain ⟨L, hL⟩ : ∃ L, hosts.length = L := ⟨_, rfl⟩
          unfold maxLen at hlC
          have HL := Lib.hid hL
          rw [hL] at hcr hlC
          have HC := Lib.hid hrC
          have HCR := Lib.hid hcr
          have HRow3 := Lib.hid hrow
          have Hb3 := Lib.hid hb
          have hFl := Lib.hid (Hst.freeTo_length hs (asks rs) n)
          generalize Hst.freeTo hs (asks rs) n = F0 at *
          clear hcr hask hmem hnr hrC hrow hb hL
          have tn : decide ((n : Int) < (K : Int)) = true := by simpa using hnk
          go_wp2_with fail
          go_loopw [8] (fun i wx => ∃ j : Nat, i = .int .i64 (j : Int) ∧ j ≤ L ∧ VRow wx w1.heap.size (.slice A5 M c5) (Hst.gang Vec.sub ⟨n0, n1, n2⟩ (hosts.take j) F0) ∧ Below w1.heap.size w1 wx) (fun i _ => L - (intOf i).toNat)
          case atStart => exact ⟨0, rfl, by omega, HRow3.out, Hb3.out⟩
          case round =>
            clear HRow3 Hb3
            obtain ⟨j, rfl, hj, hrow, hb⟩ := hrel
            rename World => wx
            have hcr := HCR.out wx hb
            obtain ⟨-, -, -, p3, p4, p5, -, -, -, -, -, -, -, p13⟩ := hcr
            simp only at p3 p4 p5 p13
            by_cases hjl : j < L
            · have hjh : j < hosts.length := by rw [HL.out]; exact hjl
              obtain ⟨bc, oc, rfl, hltc, hcc⟩ := row_int HC.out hjh
              have p := hcc _ hb
              have hnx2 := Lib.hid (Hst.gang_succ Vec.sub ⟨n0, n1, n2⟩ hosts F0 j hjh)
              generalize hosts[j] = h at *
              have hlen2 := Lib.hid (Hst.gang_length Vec.sub ⟨n0, n1, n2⟩ (hosts.take j) F0)
              generalize Hst.gang Vec.sub ⟨n0, n1, n2⟩ (hosts.take j) F0 = O at *
              have hOM : O.length = M := by rw [hlen2.out, hFl.out, HM.out]
              clear hcc hjh
              by_cases hin : 0 ≤ h ∧ h < (M : Int)
              · obtain ⟨i, rfl⟩ := Int.eq_ofNat_of_zero_le hin.1
                have hiM : i < M := by have := hin.2; omega
                have hiO : i < O.length := by omega
                obtain ⟨G, rfl⟩ := HS.out (by omega)
                obtain ⟨-, hBg, hwg, q⟩ := hrow.at_ hiO
                have hone : Hid (Hst.one Vec.sub ⟨n0, n1, n2⟩ O (i : Int) = O.set i (Vec.sub O[i] ⟨n0, n1, n2⟩)) := Lib.hid (by
                  unfold Hst.one
                  rw [if_pos ⟨by omega, by omega⟩, Int.toNat_natCast, List.getD_eq_getElem?_getD, List.getElem?_eq_getElem hiO, Option.getD_some])
                generalize O[i] = z at *
                obtain ⟨z0, z1, z2⟩ := z
                have q' := q
                obtain ⟨q0, q1, q2⟩ := q'
                have C0 : Hid (∀ W, Onward wx W → VAt W G (i * 3) ⟨z0, z1, z2⟩) := Lib.hid (fun W hW => (VBox3.on ⟨hwg, q⟩ hW).2)
                have Hb3 := Lib.hid hb
                have C1 : Hid (∀ W, Onward wx W → RunAt W br (or + n * 14) ⟨id, tenant, pods, ⟨n0, n1, n2⟩, run, level, prefer, seq, at_, start, flavor, hosts, .slice (some ⟨bc, oc, none⟩) L cc⟩) := Lib.hid (fun W hW => HCR.out W (keeps_trans Hb3.out hW))
                have HR3 := Lib.hid hrow
                have t1 : decide ((0 : Int) ≤ (i : Int)) = true := by simp
                have t2 : decide ((i : Int) < (M : Int)) = true := by simpa using hiM
                clear hrow hb q hin hiO hOM
                go_wp2_with fail
                refine region_keep_tail 13 (by kernel_rfl) (by kernel_rfl) ?_
                simp only [List.take_succ_cons, List.take_zero, List.drop_succ_cons, List.drop_zero]
                have c0 : ∀ W, Onward wx W → W.cell? ⟨G, i * 3, none⟩ = some (.int .i64 z0) := fun W hW => (C0.out W hW).1
                have c1 : ∀ W, Onward wx W → W.cell? ⟨G, i * 3 + 1, none⟩ = some (.int .i64 z1) := fun W hW => (C0.out W hW).2.1
                have c2 : ∀ W, Onward wx W → W.cell? ⟨G, i * 3 + 2, none⟩ = some (.int .i64 z2) := fun W hW => (C0.out W hW).2.2
                have c3 : ∀ W, Onward wx W → W.cell? ⟨br, or + n * 14 + 3, none⟩ = some (.int .i64 n0) := fun W hW => (C1.out W hW).2.2.2.1
                have c4 : ∀ W, Onward wx W → W.cell? ⟨br, or + n * 14 + 4, none⟩ = some (.int .i64 n1) := fun W hW => (C1.out W hW).2.2.2.2.1
                have c5' : ∀ W, Onward wx W → W.cell? ⟨br, or + n * 14 + 5, none⟩ = some (.int .i64 n2) := fun W hW => (C1.out W hW).2.2.2.2.2.1
                repeat (apply Go.Proofs.Ytjkmcncgndkdoaa.L.wpKeep_yes; (focus rfl); (focus (intro W hW; go_simp; first | done | exact ⟨rfl, hW⟩ | rfl)); (focus (go_simp; first | done | rfl)))
                (apply Go.Proofs.Ytjkmcncgndkdoaa.L.wpKeep_yes; (focus rfl); (focus (intro W hW; go_simp; first | exact Go.Proofs.Ytjkmcncgndkdoaa.L.Gives.up (VecW.grsub ⟨z0, z1, z2⟩ ⟨n0, n1, n2⟩) hW | exact ⟨hW, Go.Proofs.Ytjkmcncgndkdoaa.L.Gives.up (VecW.grsub ⟨z0, z1, z2⟩ ⟨n0, n1, n2⟩) hW⟩)); (focus (go_simp; first | done | rfl)))
                repeat (apply Go.Proofs.Ytjkmcncgndkdoaa.L.wpKeep_yes; (focus rfl); (focus (intro W hW; go_simp; first | done | exact ⟨rfl, hW⟩ | rfl)); (focus (go_simp; first | done | rfl)))
                refine wpKeep_nil ?_
                intro W hW
                have hRW := HR3.out.below hW
                have fz := hRW.ok
                obtain ⟨d0, d1, d2⟩ := C0.out W hW
                have HRW := Lib.hid hRW
                have HBW := Lib.hid (keeps_trans Hb3.out hW)
                obtain ⟨v0, hv0⟩ : ∃ v, Vec.sub ⟨z0, z1, z2⟩ ⟨n0, n1, n2⟩ = v := ⟨_, rfl⟩
                have Hv0 := Lib.hid hv0
                obtain ⟨s0, s1, s2⟩ := v0
                rw [show (Vec.sub { x := z0, y := z1, z := z2 } { x := n0, y := n1, z := n2 }).val = .agg #[.int .i64 s0, .int .i64 s1, .int .i64 s2] by rw [hv0]; rfl]
                clear c0 c1 c2 c3 c4 c5' C0 C1 hRW hv0 hW
                go_wp2_with fail
                go_roundw
                case rel =>
                  refine ⟨j + 1, by go_num, by omega, ?_, put3_below HBW.out hBg _ ⟨s0, s1, s2⟩⟩
                  rw [hnx2.out, hone.out, Hv0.out]
                  exact HRW.out.set i ⟨s0, s1, s2⟩
                case measure => simp [intOf]; omega
              · have hone : Hid (Hst.one Vec.sub ⟨n0, n1, n2⟩ O h = O) := Lib.hid (by
                  unfold Hst.one
                  rw [if_neg (by rw [hOM]; exact hin)])
                have HR3 := Lib.hid hrow
                have Hb3 := Lib.hid hb
                clear hrow hb hOM
                by_cases h0 : 0 ≤ h
                · have t1 : decide ((0 : Int) ≤ h) = true := by simpa using h0
                  have t2 : decide (h < (M : Int)) = false := by simp; omega
                  clear hin h0
                  go_wp2_with fail
                  go_roundw
                  case rel => exact ⟨j + 1, by go_num, by omega, by rw [hnx2.out, hone.out]; exact HR3.out, Hb3.out⟩
                  case measure => simp [intOf]; omega
                · have t1 : decide ((0 : Int) ≤ h) = false := by simpa using h0
                  clear hin h0
                  go_wp2_with fail
                  go_roundw
                  case rel => exact ⟨j + 1, by go_num, by omega, by rw [hnx2.out, hone.out]; exact HR3.out, Hb3.out⟩
                  case measure => simp [intOf]; omega
            · have HR3 := Lib.hid (show VRow wx w1.heap.size (.slice A5 M c5) (Hst.freeTo hs (asks rs) (n + 1)) by
                rw [hnx.out]
                rwa [List.take_of_length_le (by rw [HL.out]; omega)] at hrow)
              have Hb3 := Lib.hid hb
              clear hrow hb
              go_wp2_with fail
              go_roundw
              case rel => exact ⟨n + 1, by go_num, by omega, HR3.out, Hb3.out⟩
              case measure => simp [intOf]; omega
        · have HE := Lib.hid (show VEnd (Hst.free hs (asks rs)) w1 (.returned (.slice A5 M c5)) wr from ⟨_, rfl, by rw [← Hst.freeTo_all hs (asks rs) n (by rw [asks_length, HK.out]; omega)]; exact hrow, hb⟩)
          clear hrow hb
          go_wp2_with fail
          go_ret
          exact HE.out
end Go.Proofs.Ytjkmcncgndkdoaa.CfgW
