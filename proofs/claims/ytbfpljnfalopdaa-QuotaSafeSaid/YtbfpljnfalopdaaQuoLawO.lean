/-
  Chapter 11: while nobody uses anything each tenant may use its own, over any world.
-/
import Derived.Test.YtbfpljnfalopdaaQuoAwake
set_option linter.unusedVariables false
set_option linter.unusedSimpArgs false
namespace Go.Proofs.Ytbfpljnfalopdaa.CfgW
open Go Go.RowKit Go.Proofs.Ytbfpljnfalopdaa.L

theorem mayB_check {c : Cfg.C} {n : Nat} (h : mayB c n = true) : Cfg.check c = 0 ∧ n ≤ 100 := by
  unfold mayB at h
  simpa using h
theorem check_ok {c : Cfg.C} (h : Cfg.check c = 0) : Cfg.ok c = true := by
  unfold Cfg.check at h
  split at h
  · assumption
  · cases h

set_option maxRecDepth 100000 in
set_option maxHeartbeats 1000000 in
theorem lawown_any {w : World} {v : Value} {c : Cfg.C} (hc : CfgAt w v c) (t : Int) : Calls Try.prog 5 #[v, .int .i64 t] w fun e w' => e = .returned (.bool true) ∧ Below w.heap.size w w' := by
  have HC := Lib.hid hc
  have gM := Lib.hid (may11 hc none 0 0)
  have gL := Lib.hid (rleaf_any hc t)
  have aw := Lib.hid awake11
  obtain ⟨v1, v2, rfl, ⟨A, ca, rfl, hrA, hlA⟩, ⟨B, cb, rfl, -, -⟩⟩ := id hc
  have HR := Lib.hid hrA
  obtain ⟨N, hN⟩ : ∃ N, c.nodes.length = N := ⟨_, rfl⟩
  have HN := Lib.hid hN
  generalize c.hosts.length = M at *
  generalize hhalf : c.half = half at *
  generalize hage : c.age = age at *
  rw [hN] at HC gM gL ⊢
  clear hc hrA hlA hhalf hage hN
  have hbx := CBox.new w (.slice A N ca) (.slice B M cb) half age
  have HX := Lib.hid hbx
  obtain ⟨y0, y1, y2, y3, y4⟩ := hbx
  have hb0 : Below w.heap.size w (w.alloc (.cells #[.slice A N ca, .slice B M cb, .int .i64 half, .int .i64 age] 25)) := (Below.refl _ _).alloc (Nat.le_refl _) _
  have HB := Lib.hid hb0
  clear hb0
  go_enter Try.func5, Try.ntmps5
  go_wp2_with fail
  generalize w.alloc (.cells #[.slice A N ca, .slice B M cb, .int .i64 half, .int .i64 age] 25) = wq at *
  refine (gM.out _ HB.out).mono ?_
  rintro e w2 ⟨rfl, hb2⟩
  have HB2 := Lib.hid (keeps_trans HB.out hb2)
  have HX2 := Lib.hid (HX.out.on hb2)
  clear hb2 y0 y1 y2 y3 y4
  have hout : ∀ (W : World), Below w.heap.size w W → Calls Try.prog 14 #[] W fun e w' => e = .returned (.bool true) ∧ Below w.heap.size w w' := fun W hW => (aw.out W).mono fun e w' ⟨he, hb⟩ => ⟨he, keeps_trans hW hb⟩
  have HOut := Lib.hid hout
  clear hout
  obtain ⟨mb, hmb⟩ : ∃ mb, mayB c 0 = mb := ⟨_, rfl⟩
  rw [hmb]
  have HMb := Lib.hid hmb
  obtain ⟨y0, y1, y2, y3, y4⟩ := HX2.out
  clear hmb
  cases mb
  · go_wp2_with fail
    refine (HOut.out _ HB2.out).mono ?_
    rintro e w3 ⟨rfl, hb3⟩
    have HB3 := Lib.hid hb3
    clear hb3 y0 y1 y2 y3 y4
    go_wp2_with fail
    go_ret
    exact ⟨rfl, HB3.out⟩
  · go_wp2_with fail
    refine (gL.out _ HB2.out).mono ?_
    rintro e w3 ⟨rfl, hb3⟩
    have HB3 := Lib.hid (keeps_trans HB2.out hb3)
    have HX3 := Lib.hid (HX2.out.on hb3)
    clear hb3 y0 y1 y2 y3 y4
    by_cases hlf : Cfg.leaf c t = true
    · have hck := mayB_check HMb.out
      have hlt := Tree.leaf_lt hlf
      have hte : ((t.toNat : Nat) : Int) = t := by omega
      have hown := Quo.own_all (check_ok hck.1) hlf
      have hlen := len_ok hck.1
      rw [hlf]
      obtain ⟨k, rfl⟩ : ∃ k : Nat, t = (k : Int) := ⟨t.toNat, hte.symm⟩
      rw [Int.toNat_natCast] at hown
      have hkt : k < c.nodes.length := by omega
      have hkN : k < N := by rw [← HN.out]; exact hkt
      obtain ⟨bA, oA, rfl, hbA, hcA⟩ := row_node HR.out hkt
      have hno : Quo.node c k = c.nodes[k] := by unfold Quo.node; rw [List.getD_eq_getElem?_getD, List.getElem?_eq_getElem hkt, Option.getD_some]
      rw [hno] at hown
      have hnd := hcA w3 HB3.out
      generalize c.nodes[k] = x at *
      obtain ⟨q0, q1, q2, q3, q4, q5, q6, q7, q8, q9, q10⟩ := hnd
      obtain ⟨par, wt, ⟨n0, n1, n2⟩, ⟨b0, b1, b2⟩, ⟨l0, l1, l2⟩⟩ := x
      simp only at q0 q1 q2 q3 q4 q5 q6 q7 q8 q9 q10 hown
      obtain ⟨o1, o2, o3⟩ := hown
      have hb34 : Below w3.heap.size w3 (w3.alloc (.cells #[.int .i64 n0, .int .i64 n1, .int .i64 n2] 29)) := (Below.refl _ _).alloc (Nat.le_refl _) _
      have G1 := Lib.hid (((may_any HC.out hlen (vsl_nil w) (k : Int) ⟨n0, n1, n2⟩).val (v' := .bool true) (by rw [o1])))
      have G2 := Lib.hid (((within_any HC.out (vsl_nil w) (k : Int) ⟨n0, n1, n2⟩).val (v' := .bool true) (by rw [o2])))
      have G3 := Lib.hid (((borrows_any HC.out (vsl_nil w) (k : Int)).val (v' := .bool false) (by rw [o3])))
      have HV4 := Lib.hid (show VOwn (w3.alloc (.cells #[.int .i64 n0, .int .i64 n1, .int .i64 n2] 29)) w3.heap.size ⟨n0, n1, n2⟩ from VOwn.new w3 ⟨n0, n1, n2⟩)
      have HB34 := Lib.hid hb34
      obtain ⟨y0, y1, y2, y3, y4⟩ := HX3.out
      have hne0 : ¬ w.heap.size = w3.heap.size := fun e => by omega
      clear hcA hno o1 o2 o3 hb34 hlf hck hlt hte hlen hkt
      go_wp2_with fail
      generalize w3.alloc (.cells #[.int .i64 n0, .int .i64 n1, .int .i64 n2] 29) = w4 at *
      have hb4 : Below w.heap.size w w4 := keeps_trans HB3.out HB34.out
      refine (G1.out _ hb4).mono ?_
      rintro e w5 ⟨rfl, hb5⟩
      have HB5 := Lib.hid (keeps_trans hb4 hb5)
      have HX5 := Lib.hid ((HX3.out.on HB34.out).on hb5)
      have HV5 := Lib.hid (Blk.below HV4.out hb5 (Blk.lt HV4.out))
      obtain ⟨y0, y1, y2, y3, y4⟩ := HX5.out
      obtain ⟨⟨z0, z1, z2⟩, -, -⟩ := VOwn.cells HV5.out
      simp only [Nat.zero_add] at z1 z2
      clear hb4 hb5 q0 q1 q2 q3 q4 q5 q6 q7 q8 q9 q10
      go_wp2_with fail
      refine (G2.out _ HB5.out).mono ?_
      rintro e w6 ⟨rfl, hb6⟩
      have HB6 := Lib.hid (keeps_trans HB5.out hb6)
      obtain ⟨y0, y1, y2, y3, y4⟩ := HX5.out.on hb6
      clear hb6 z0 z1 z2
      go_wp2_with fail
      refine (G3.out _ HB6.out).mono ?_
      rintro e w7 ⟨rfl, hb7⟩
      have HB7 := Lib.hid (keeps_trans HB6.out hb7)
      clear hb7 y0 y1 y2 y3 y4
      go_wp2_with fail
      refine (HOut.out _ HB7.out).mono ?_
      rintro e w8 ⟨rfl, hb8⟩
      have HB8 := Lib.hid hb8
      clear hb8
      go_wp2_with fail
      go_ret
      exact ⟨rfl, HB8.out⟩
    · have hlf' : Cfg.leaf c t = false := by simpa using hlf
      rw [hlf']
      clear hlf hlf'
      go_wp2_with fail
      refine (HOut.out _ HB3.out).mono ?_
      rintro e w4 ⟨rfl, hb4⟩
      have HB4 := Lib.hid hb4
      clear hb4
      go_wp2_with fail
      go_ret
      exact ⟨rfl, HB4.out⟩
end Go.Proofs.Ytbfpljnfalopdaa.CfgW
