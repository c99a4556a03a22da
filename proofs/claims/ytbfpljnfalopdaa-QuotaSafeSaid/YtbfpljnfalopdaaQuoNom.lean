/-
  What all below a node may use as their own: quota.Nominal.
-/
import Derived.Test.YtbfpljnfalopdaaQSum
import Derived.Test.YtbfpljnfalopdaaQuoPlain
set_option linter.unusedVariables false
set_option linter.unusedSimpArgs false
namespace Go.Proofs.Ytbfpljnfalopdaa.CfgW
open Go Go.RowKit Go.Proofs.Ytbfpljnfalopdaa.L

/-- The first k of a row, the rest zero. -/
def fillV (l : List Vec.V) (k : Nat) : List Vec.V := l.take k ++ List.replicate (l.length - k) Vec.zero
theorem fillV_zero (l : List Vec.V) : fillV l 0 = List.replicate l.length Vec.zero := by simp [fillV]
theorem fillV_length (l : List Vec.V) (k : Nat) (h : k ≤ l.length) : (fillV l k).length = l.length := by simp [fillV]; omega
theorem fillV_all (l : List Vec.V) : fillV l l.length = l := by simp [fillV]
theorem fillV_set (l : List Vec.V) (k : Nat) (h : k < l.length) : (fillV l k).set k l[k] = fillV l (k + 1) := by
  unfold fillV
  apply List.ext_getElem?
  intro j
  rw [List.getElem?_set, List.length_append, List.length_take, List.length_replicate]
  by_cases hj : k = j
  · subst hj
    rw [if_pos rfl, if_pos (by omega), List.getElem?_append_left (by rw [List.length_take]; omega), List.getElem?_take, if_pos (by omega), List.getElem?_eq_getElem h]
  · rw [if_neg hj]
    by_cases h1 : j < k
    · rw [List.getElem?_append_left (by rw [List.length_take]; omega), List.getElem?_append_left (by rw [List.length_take]; omega), List.getElem?_take, List.getElem?_take, if_pos h1, if_pos (by omega)]
    · rw [List.getElem?_append_right (by rw [List.length_take]; omega), List.getElem?_append_right (by rw [List.length_take]; omega), List.length_take, List.length_take, List.getElem?_replicate, List.getElem?_replicate]
      by_cases h2 : j < l.length
      · rw [if_pos (by omega), if_pos (by omega)]
      · rw [if_neg (by omega), if_neg (by omega)]

set_option maxRecDepth 100000 in
set_option maxHeartbeats 1000000 in
theorem nominal_any {w : World} {v : Value} {c : Cfg.C} (hc : CfgAt w v c) (hN : c.nodes.length ≤ 1000000) (n : Int) : GivesAt Try.prog w 38 #[v, .int .i64 n] (Quo.nominal c n).val := by
  intro w1 hb1
  replace hc := hc.below hb1
  clear hb1
  obtain ⟨v1, v2, rfl, ⟨A, ca, rfl, hr, hl⟩, ⟨B, cb, rfl, hr2, hl2⟩⟩ := id hc
  have HC := Lib.hid hc
  obtain ⟨N, hNe⟩ : ∃ N, c.nodes.length = N := ⟨_, rfl⟩
  generalize c.hosts.length = M at *
  generalize c.half = half at *
  generalize c.age = age at *
  have HN := Lib.hid hNe
  have HR := Lib.hid hr
  have HNl := Lib.hid hN
  rw [hNe] at HC hN ⊢
  have hln : (Quo.nominals c).length = N := by unfold Quo.nominals; rw [List.length_map, hNe]
  have HLn := Lib.hid hln
  have hw2 : Below w1.heap.size w1 ((w1.alloc (.cells #[.slice A N ca, .slice B M cb, .int .i64 half, .int .i64 age] 25)).alloc (.cells #[.int .i64 0, .int .i64 0, .int .i64 0] 29)) := by (repeat' (first | (with_reducible exact Below.refl _ _) | (with_reducible assumption) | (with_reducible refine Below.alloc ?_ ?_ _) | (with_reducible refine Go.Proofs.Ytbfpljnfalopdaa.L.below_drewN ?_ _) | (with_reducible refine Below.drew ?_) | (with_reducible refine Below.setCell ?_ ?_ _) | (with_reducible refine Below.frame ?_ _) | go_size))
  have hbx : CBox ((w1.alloc (.cells #[.slice A N ca, .slice B M cb, .int .i64 half, .int .i64 age] 25)).alloc (.cells #[.int .i64 0, .int .i64 0, .int .i64 0] 29)) w1.heap.size (.slice A N ca) (.slice B M cb) half age := (CBox.new w1 _ _ half age).on ((Below.refl _ _).alloc (Nat.le_refl _) _)
  have hv2 : VOwn ((w1.alloc (.cells #[.slice A N ca, .slice B M cb, .int .i64 half, .int .i64 age] 25)).alloc (.cells #[.int .i64 0, .int .i64 0, .int .i64 0] 29)) (w1.heap.size + 1) Vec.zero := by
    have h := VOwn.new (w1.alloc (.cells #[.slice A N ca, .slice B M cb, .int .i64 half, .int .i64 age] 25)) Vec.zero
    simp only [World.size_alloc] at h
    exact h
  have hs2 : ((w1.alloc (.cells #[.slice A N ca, .slice B M cb, .int .i64 half, .int .i64 age] 25)).alloc (.cells #[.int .i64 0, .int .i64 0, .int .i64 0] 29)).heap.size = w1.heap.size + 1 + 1 := by simp
  clear hc hr hl hr2 hl2 hNe hln
  go_enter Try.func38, Try.ntmps38
  obtain ⟨wm, hmr, hmv, hmb, hms⟩ := make_vecs ((w1.alloc (.cells #[.slice A N ca, .slice B M cb, .int .i64 half, .int .i64 age] 25)).alloc (.cells #[.int .i64 0, .int .i64 0, .int .i64 0] 29)) N (by omega)
  rw [hs2] at hmv hms hmr
  have hxm := hbx.on hmb
  have hvm := Blk.below hv2 hmb (Blk.lt hv2)
  obtain ⟨y0, y1, y2, y3, y4⟩ := hxm
  have HV := Lib.hid hvm
  have HW := Lib.hid (keeps_trans hw2 hmb)
  have HM := Lib.hid hmv
  have HX := Lib.hid (hbx.on hmb)
  clear hw2 hbx hv2 hmb hvm hmv hs2
  go_wp2_with fail
  clear hmr y1 y2 y3 y4
  go_loopw [15] (fun i wr => ∃ k : Nat, i = .int .i64 (k : Int) ∧ k ≤ N ∧ VRow wr (w1.heap.size + 1 + 1) (.slice (some ⟨w1.heap.size + 1 + 1, 0, none⟩) N N) (fillV (Quo.nominals c) k) ∧ Below w1.heap.size w1 wr ∧ VOwn wr (w1.heap.size + 1) Vec.zero ∧ CBox wr w1.heap.size (.slice A N ca) (.slice B M cb) half age) (fun i _ => N - (intOf i).toNat)
  case atStart => exact ⟨0, rfl, by omega, by rw [fillV_zero, HLn.out]; exact HM.out, HW.out, HV.out, HX.out⟩
  case round =>
    obtain ⟨k, rfl, hk, hrow, hb, hv, hx⟩ := hrel
    rename World => wr
    by_cases hkn : k < N
    · have hkc : k < c.nodes.length := by rw [HN.out]; exact hkn
      obtain ⟨bA, oA, rfl, hbA, hcA⟩ := row_node HR.out hkc
      have hnd := hcA wr hb
      have hnm : (Quo.nominals c)[k]'(by rw [HLn.out]; exact hkn) = c.nodes[k].nominal := by unfold Quo.nominals; rw [List.getElem_map]
      generalize c.nodes[k] = x at *
      obtain ⟨q0, q1, q2, q3, q4, q5, q6, q7, q8, q9, q10⟩ := hnd
      have hbA2 : bA < wr.heap.size := Nat.lt_of_lt_of_le hbA hb.size
      have hG : w1.heap.size + 1 + 1 < wr.heap.size := (hrow.lt _ rfl).2
      have hne : ∀ i, ¬ bA = wr.heap.size + i := fun i e => by omega
      have hne0 : ¬ bA = wr.heap.size := fun e => by omega
      have hg0 : ¬ w1.heap.size + 1 + 1 = wr.heap.size := fun e => by omega
      have hset := fillV_set (Quo.nominals c) k (by rw [HLn.out]; exact hkn)
      rw [hnm] at hset
      obtain ⟨par, wt, ⟨n0, n1, n2⟩, ⟨b0, b1, b2⟩, ⟨l0, l1, l2⟩⟩ := x
      simp only at q0 q1 q2 q3 q4 q5 q6 q7 q8 q9 q10
      have hlt : k < (fillV (Quo.nominals c) k).length := by rw [fillV_length _ _ (by rw [HLn.out]; exact hk), HLn.out]; exact hkn
      obtain ⟨-, -, hgl, hva⟩ := hrow.at_ (i := k) hlt
      obtain ⟨z, hz⟩ : ∃ z, (fillV (Quo.nominals c) k)[k]'hlt = z := ⟨_, rfl⟩
      rw [hz] at hva
      obtain ⟨z0, z1, z2⟩ := z
      obtain ⟨p0, p1, p2⟩ := hva
      simp only at p0 p1 p2
      clear hz
      have f0 := hrow.ok (k * 3)
      have f1 := hrow.ok (k * 3 + 1)
      have f2 := hrow.ok (k * 3 + 2)
      have hS := hrow.set k ⟨n0, n1, n2⟩
      rw [hset] at hS
      have hkp := put3_kept wr (w1.heap.size + 1 + 1) (k * 3) ⟨n0, n1, n2⟩
      have hb3 := put3_below (w0 := w1) hb (g := w1.heap.size + 1 + 1) (by omega) (k * 3) ⟨n0, n1, n2⟩
      have hv3 := Blk.kept hv hkp (by omega)
      have hx3 := hx.kept hkp (by omega)
      unfold put3 at hkp hb3 hv3 hx3
      have hba := (Below.refl _ (((wr.setCell ⟨w1.heap.size + 1 + 1, k * 3, none⟩ (.int .i64 n0)).setCell ⟨w1.heap.size + 1 + 1, k * 3 + 1, none⟩ (.int .i64 n1)).setCell ⟨w1.heap.size + 1 + 1, k * 3 + 2, none⟩ (.int .i64 n2))).alloc (Nat.le_refl _) (.cells #[.int .i64 par, .int .i64 wt, .int .i64 n0, .int .i64 n1, .int .i64 n2, .int .i64 b0, .int .i64 b1, .int .i64 b2, .int .i64 l0, .int .i64 l1, .int .i64 l2] 42)
      have HE := Lib.hid (And.intro (VRow.below hS hba) (And.intro (keeps_trans hb3 hba) (And.intro (Blk.below hv3 hba (Blk.lt hv3)) (hx3.on hba))))
      clear hlt hcA hnm hset hrow hS hkp hb3 hba hv hx hb hv3 hx3
      go_wp2_with fail
      go_roundw
      case rel => exact ⟨k + 1, by go_num, by omega, HE.out.1, HE.out.2.1, HE.out.2.2.1, HE.out.2.2.2⟩
      case measure => simp [intOf]; omega
    · have e : k = N := by omega
      have hall : fillV (Quo.nominals c) k = Quo.nominals c := by rw [e, ← HLn.out]; exact fillV_all _
      rw [hall] at hrow
      have g := Lib.hid (qsum_any (HC.out.below hb) HNl.out hrow.sl n)
      have hkd : decide (k < N) = false := by simp; omega
      have hq : Tree.sum c n (Quo.nominals c) = Quo.nominal c n := rfl
      rw [hq] at g
      obtain ⟨r, hre⟩ : ∃ r, Quo.nominal c n = r := ⟨_, rfl⟩
      rw [hre] at g
      have HRe := Lib.hid hre
      obtain ⟨r0, r1, r2⟩ := r
      clear hre hq
      have HV2 := Lib.hid hv
      have HB2 := Lib.hid hb
      obtain ⟨x0, x1, x2, x3, x4⟩ := hx
      clear hrow hall hkn e hv hb
      go_wp2_with fail
      have g' : GivesAt Try.prog wr 58 #[.agg #[.slice A N ca, .slice B M cb, .int .i64 half, .int .i64 age], .int .i64 n, .slice (some ⟨w1.heap.size + 1 + 1, 0, none⟩) N N] (.agg #[.int .i64 r0, .int .i64 r1, .int .i64 r2]) := g.out
      refine (g' _ (Below.refl _ _)).mono ?_
      clear g'
      rintro e w5 ⟨rfl, hb5⟩
      have hv5 : VOwn w5 (w1.heap.size + 1) Vec.zero := Blk.below HV2.out hb5 (Blk.lt HV2.out)
      have HB5 := Lib.hid (keeps_trans HB2.out hb5)
      obtain ⟨⟨p0, p1, p2⟩, p3, p4⟩ := hv5.cells
      have HE := Lib.hid (And.intro (VOwn.store hv5 ⟨r0, r1, r2⟩) (store3_kept w5 (w1.heap.size + 1) (.int .i64 r0) (.int .i64 r1) (.int .i64 r2)))
      clear hb5 hv5 x0 x1 x2 x3 x4
      go_wp2_with fail
      rw [HRe.out]
      generalize ((w5.setCell ⟨w1.heap.size + 1, 0, none⟩ (.int .i64 r0)).setCell ⟨w1.heap.size + 1, 1, none⟩ (.int .i64 r1)).setCell ⟨w1.heap.size + 1, 2, none⟩ (.int .i64 r2) = Ws at *
      obtain ⟨hst, hsk⟩ := HE.out
      obtain ⟨⟨x0, x1, x2⟩, -, -⟩ := hst.cells
      simp only [Nat.zero_add] at x1 x2
      refine bodyPost_ret (v := .agg #[.int .i64 r0, .int .i64 r1, .int .i64 r2]) (by simp [results, Try.results38, go_sem, x0, x1, x2]) rfl ⟨rfl, ?_⟩
      exact HB5.out.trans (hsk.below HB5.out.size (fun i (e : i = w1.heap.size + 1) => by omega))
end Go.Proofs.Ytbfpljnfalopdaa.CfgW
