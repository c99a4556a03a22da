/-
  What all below a node may use as their own: the reference's.
-/
import Derived.Test.YtbfpljnfalopdaaQuoNom
set_option linter.unusedVariables false
set_option linter.unusedSimpArgs false
namespace Go.Proofs.Ytbfpljnfalopdaa.CfgW
open Go Go.RowKit Go.Proofs.Ytbfpljnfalopdaa.L

set_option maxRecDepth 100000 in
set_option maxHeartbeats 1000000 in
theorem rnominal_any {w : World} {v : Value} {c : Cfg.C} (hc : CfgAt w v c) (hN : c.nodes.length ≤ 1000000) (n : Int) : GivesAt Try.prog w 20 #[v, .int .i64 n] (Quo.nominal c n).val := by
  intro w1 hb1
  replace hc := hc.below hb1
  clear hb1
  obtain ⟨v1, v2, rfl, ⟨A, ca, rfl, hr, hl⟩, ⟨B, cb, rfl, hr2, hl2⟩⟩ := id hc
  have HC := Lib.hid hc
  obtain ⟨N, hNe⟩ : ∃ N, c.nodes.length = N := ⟨_, rfl⟩
  generalize c.hosts.length = M at *
  generalize c.half = half at *
  generalize c.age = age at *
  have HN := Lib.hid hNe
  have HR := Lib.hid hr
  have HNl := Lib.hid hN
  rw [hNe] at HC hN ⊢
  have hln : (Quo.nominals c).length = N := by unfold Quo.nominals; rw [List.length_map, hNe]
  have HLn := Lib.hid hln
  have hw2 : Below w1.heap.size w1 ((w1.alloc (.cells #[.slice A N ca, .slice B M cb, .int .i64 half, .int .i64 age] 25)).alloc (.cells #[.int .i64 0, .int .i64 0, .int .i64 0] 29)) := by (repeat' (first | (with_reducible exact Below.refl _ _) | (with_reducible assumption) | (with_reducible refine Below.alloc ?_ ?_ _) | (with_reducible refine Go.Proofs.Ytbfpljnfalopdaa.L.below_drewN ?_ _) | (with_reducible refine Below.drew ?_) | (with_reducible refine Below.setCell ?_ ?_ _) | (with_reducible refine Below.frame ?_ _) | go_size))
  have hbx : CBox ((w1.alloc (.cells #[.slice A N ca, .slice B M cb, .int .i64 half, .int .i64 age] 25)).alloc (.cells #[.int .i64 0, .int .i64 0, .int .i64 0] 29)) w1.heap.size (.slice A N ca) (.slice B M cb) half age := (CBox.new w1 _ _ half age).on ((Below.refl _ _).alloc (Nat.le_refl _) _)
  have hv2 : VOwn ((w1.alloc (.cells #[.slice A N ca, .slice B M cb, .int .i64 half, .int .i64 age] 25)).alloc (.cells #[.int .i64 0, .int .i64 0, .int .i64 0] 29)) (w1.heap.size + 1) Vec.zero := by
    have h := VOwn.new (w1.alloc (.cells #[.slice A N ca, .slice B M cb, .int .i64 half, .int .i64 age] 25)) Vec.zero
    simp only [World.size_alloc] at h
    exact h
  have hs2 : ((w1.alloc (.cells #[.slice A N ca, .slice B M cb, .int .i64 half, .int .i64 age] 25)).alloc (.cells #[.int .i64 0, .int .i64 0, .int .i64 0] 29)).heap.size = w1.heap.size + 1 + 1 := by simp
  clear hc hr hl hr2 hl2 hNe hln
  go_enter Try.func20, Try.ntmps20
  have HV := Lib.hid hv2
  have HW := Lib.hid hw2
  have HX := Lib.hid hbx
  have HS := Lib.hid hs2
  clear hw2 hbx hv2 hs2
  go_wp2_with fail
  generalize (w1.alloc (.cells #[.slice A N ca, .slice B M cb, .int .i64 half, .int .i64 age] 25)).alloc (.cells #[.int .i64 0, .int .i64 0, .int .i64 0] 29) = w2 at *
  go_loopw [5, 6] (fun l i wr => ∃ k : Nat, i = .int .i64 (k : Int) ∧ k ≤ N ∧ VRow wr (w1.heap.size + 1 + 1) l ((Quo.nominals c).take k) ∧ Below w1.heap.size w1 wr ∧ VOwn wr (w1.heap.size + 1) Vec.zero ∧ CBox wr w1.heap.size (.slice A N ca) (.slice B M cb) half age ∧ w1.heap.size + 1 + 1 ≤ wr.heap.size) (fun _ i _ => N - (intOf i).toNat)
  case atStart => exact ⟨0, rfl, by omega, VRow.nil _ _, HW.out, HV.out, HX.out, by rw [HS.out]; exact Nat.le_refl _⟩
  case round =>
    obtain ⟨k, rfl, hk, hrow, hb, hv, hx, hsz⟩ := hrel
    rename World => wr
    by_cases hkn : k < N
    · have hkc : k < c.nodes.length := by rw [HN.out]; exact hkn
      obtain ⟨bA, oA, rfl, hbA, hcA⟩ := row_node HR.out hkc
      have hnd := hcA wr hb
      have hkl : k < (Quo.nominals c).length := by rw [HLn.out]; exact hkn
      have hnm : (Quo.nominals c)[k]'hkl = c.nodes[k].nominal := by simp [Quo.nominals]
      have htk : (Quo.nominals c).take (k + 1) = (Quo.nominals c).take k ++ [c.nodes[k].nominal] := by rw [List.take_succ_eq_append_getElem hkl, hnm]
      generalize c.nodes[k] = x at *
      obtain ⟨q0, q1, q2, q3, q4, q5, q6, q7, q8, q9, q10⟩ := hnd
      obtain ⟨par, wt, ⟨n0, n1, n2⟩, ⟨b0, b1, b2⟩, ⟨l0, l1, l2⟩⟩ := x
      simp only at q2 q3 q4 htk
      have hlen : ((Quo.nominals c).take k).length = k := by rw [List.length_take]; omega
      obtain ⟨v', w', hrun, ho, hg, hn⟩ := append_vec hrow hsz ⟨n0, n1, n2⟩ (by omega)
      have hka : Kept (fun i => u5.ownBlock = some i) wr w' := ((Kept.refl _ wr).alloc _).trans (Kept.of_grown hg (fun i e => e))
      have hf : ∀ i, u5.ownBlock = some i → w1.heap.size + 1 + 1 ≤ i := fun i hi => (hrow.lt i hi).1
      have hb' : Below w1.heap.size w1 w' := hb.trans (hka.below hb.size (fun i hi => by have := hf i hi; omega))
      have hv' : VOwn w' (w1.heap.size + 1) Vec.zero := Blk.kept hv hka (fun h => by have := hf _ h; omega)
      have hx' := hx.kept hka (fun h => by have := hf _ h; omega)
      have HE := Lib.hid (show VRow w' (w1.heap.size + 1 + 1) v' ((Quo.nominals c).take (k + 1)) ∧ Below w1.heap.size w1 w' ∧ VOwn w' (w1.heap.size + 1) Vec.zero ∧ CBox w' w1.heap.size (.slice (some ⟨bA, oA, none⟩) N ca) (.slice B M cb) half age ∧ w1.heap.size + 1 + 1 ≤ w'.heap.size from ⟨by rw [htk]; exact ho, hb', hv', hx', by have := hka.size; omega⟩)
      obtain ⟨y0, y1, y2, y3, y4⟩ := hx
      clear hcA hkc hkl hnm htk hrow hb hv ho hg hn hka hf hb' hv' hx' q0 q1 q5 q6 q7 q8 q9 q10 hlen
      go_wp2_with (at_builtin; refine wpList_append_eq rfl (.tmp 14) (.tmp 21) _ _ rfl u5 (.slice (some ⟨wr.heap.size, 0, none⟩) 1 1) rfl rfl hrun ?_)
      go_roundw
      case rel => exact ⟨k + 1, by go_num, by omega, HE.out.1, HE.out.2.1, HE.out.2.2.1, HE.out.2.2.2.1, HE.out.2.2.2.2⟩
      case measure => simp [intOf]; omega
    · have hall : (Quo.nominals c).take k = Quo.nominals c := List.take_of_length_le (by rw [HLn.out]; omega)
      rw [hall] at hrow
      have g := Lib.hid (rsum_any (HC.out.below hb) HNl.out hrow.sl n)
      have hkd : decide (k < N) = false := by simp; omega
      have hq : Tree.sum c n (Quo.nominals c) = Quo.nominal c n := rfl
      rw [hq] at g
      obtain ⟨r, hre⟩ : ∃ r, Quo.nominal c n = r := ⟨_, rfl⟩
      rw [hre] at g
      have HRe := Lib.hid hre
      obtain ⟨r0, r1, r2⟩ := r
      clear hre hq
      have HV2 := Lib.hid hv
      have HB2 := Lib.hid hb
      obtain ⟨x0, x1, x2, x3, x4⟩ := hx
      obtain ⟨A7, c7, e7, -, -⟩ := hrow.sl
      subst e7
      clear hrow hall hkn hv hb
      go_wp2_with fail
      have g' : GivesAt Try.prog wr 19 #[.agg #[.slice A N ca, .slice B M cb, .int .i64 half, .int .i64 age], .int .i64 n, .slice A7 (Quo.nominals c).length c7] (.agg #[.int .i64 r0, .int .i64 r1, .int .i64 r2]) := g.out
      refine (g' _ (Below.refl _ _)).mono ?_
      clear g'
      rintro e w5 ⟨rfl, hb5⟩
      have hv5 : VOwn w5 (w1.heap.size + 1) Vec.zero := Blk.below HV2.out hb5 (Blk.lt HV2.out)
      have HB5 := Lib.hid (keeps_trans HB2.out hb5)
      obtain ⟨⟨p0, p1, p2⟩, p3, p4⟩ := hv5.cells
      have HE := Lib.hid (And.intro (VOwn.store hv5 ⟨r0, r1, r2⟩) (store3_kept w5 (w1.heap.size + 1) (.int .i64 r0) (.int .i64 r1) (.int .i64 r2)))
      clear hb5 hv5 x0 x1 x2 x3 x4
      go_wp2_with fail
      rw [HRe.out]
      generalize ((w5.setCell ⟨w1.heap.size + 1, 0, none⟩ (.int .i64 r0)).setCell ⟨w1.heap.size + 1, 1, none⟩ (.int .i64 r1)).setCell ⟨w1.heap.size + 1, 2, none⟩ (.int .i64 r2) = Ws at *
      obtain ⟨hst, hsk⟩ := HE.out
      obtain ⟨⟨x0, x1, x2⟩, -, -⟩ := hst.cells
      simp only [Nat.zero_add] at x1 x2
      refine bodyPost_ret (v := .agg #[.int .i64 r0, .int .i64 r1, .int .i64 r2]) (by simp [results, Try.results20, go_sem, x0, x1, x2]) rfl ⟨rfl, ?_⟩
      exact HB5.out.trans (hsk.below HB5.out.size (fun i (e : i = w1.heap.size + 1) => by omega))
end Go.Proofs.Ytbfpljnfalopdaa.CfgW
