/-
  Chapter 11: who may use so much more may use less more, over any world.
-/
import Derived.Test.YtbfpljnfalopdaaQuoLawO
import Derived.BigRegion
import Derived.RegionTactic
set_option linter.unusedVariables false
set_option linter.unusedSimpArgs false
namespace Go.Proofs.Ytbfpljnfalopdaa.CfgW
open Go Go.RowKit Go.Proofs.Ytbfpljnfalopdaa.L

set_option maxRecDepth 100000 in
set_option maxHeartbeats 1000000 in
theorem lawless_any {w : World} {v va : Value} {c : Cfg.C} {xs : List Vec.V} (hc : CfgAt w v c) (ha : VSl w va xs) (t n0 n1 n2 k : Int) (hk : (Lit.int .i64 k).wf = true) :
    Calls Try.prog 4 #[v, va, .agg #[.int .i64 t, .int .i64 n0, .int .i64 n1, .int .i64 n2, .int .i64 k]] w fun e w' => e = .returned (.bool true) ∧ Below w.heap.size w w' := by
  have HC := Lib.hid hc
  have HA := Lib.hid ha
  have aw := Lib.hid awake11
  obtain ⟨v1, v2, rfl, ⟨A, ca, rfl, hrA, hlA⟩, ⟨B, cb, rfl, -, -⟩⟩ := id hc
  obtain ⟨A5, c5, rfl, -, -⟩ := id ha
  obtain ⟨U, hU⟩ : ∃ U, xs.length = U := ⟨_, rfl⟩
  have HU := Lib.hid hU
  rw [hU] at HA ⊢
  have gM := Lib.hid (may11 hc A5 U c5)
  obtain ⟨N, hN⟩ : ∃ N, c.nodes.length = N := ⟨_, rfl⟩
  have HN := Lib.hid hN
  generalize c.hosts.length = M at *
  generalize hhalf : c.half = half at *
  generalize hage : c.age = age at *
  rw [hN] at HC gM ⊢
  clear hc ha hrA hlA hhalf hage hN hU
  go_enter Try.func4, Try.ntmps4
  go_wp2_with fail
  obtain ⟨wq, hwq⟩ : ∃ wq, (w.alloc (.cells #[.slice A N ca, .slice B M cb, .int .i64 half, .int .i64 age] 25)).alloc (.cells #[.int .i64 t, .int .i64 n0, .int .i64 n1, .int .i64 n2, .int .i64 k] 44) = wq := ⟨_, rfl⟩
  have hbx : CBox wq w.heap.size (.slice A N ca) (.slice B M cb) half age := by
    rw [← hwq]
    exact (CBox.new w _ _ half age).on ((Below.refl _ _).alloc (Nat.le_refl _) _)
  have har : Blk wq (w.heap.size + 1) 44 #[.int .i64 t, .int .i64 n0, .int .i64 n1, .int .i64 n2, .int .i64 k] := by
    rw [← hwq]
    have h := fun o => Blk.new (w.alloc o) 44 #[.int .i64 t, .int .i64 n0, .int .i64 n1, .int .i64 n2, .int .i64 k]
    simp only [World.size_alloc] at h
    exact h _
  have hb0 : Below w.heap.size w wq := by rw [← hwq]; (repeat' (first | (with_reducible exact Below.refl _ _) | (with_reducible assumption) | (with_reducible refine Below.alloc ?_ ?_ _) | (with_reducible refine Go.Proofs.Ytbfpljnfalopdaa.L.below_drewN ?_ _) | (with_reducible refine Below.drew ?_) | (with_reducible refine Below.setCell ?_ ?_ _) | (with_reducible refine Below.frame ?_ _) | go_size))
  rw [hwq]
  have HX := Lib.hid hbx
  have HAr := Lib.hid har
  have HB := Lib.hid hb0
  have hlt1 : w.heap.size + 1 < wq.heap.size := Blk.lt har
  have p0 := Blk.cell har 0
  have p1 := Blk.cell har 1
  have p2 := Blk.cell har 2
  have p3 := Blk.cell har 3
  simp only [List.getElem?_toArray, List.getElem?_cons_zero, List.getElem?_cons_succ] at p0 p1 p2 p3
  have hne0 : ¬ w.heap.size + 1 = wq.heap.size := fun e => by omega
  clear hwq hbx har hb0
  go_region
  clear p0 p1 p2 p3 hne0
  obtain ⟨w2, hw2⟩ : ∃ w2, (wq.alloc (.cells #[.int .i64 n0, .int .i64 n1, .int .i64 n2] 29)).drew = w2 := ⟨_, rfl⟩
  rw [hw2]
  have hbq : Below wq.heap.size wq w2 := by rw [← hw2]; (repeat' (first | (with_reducible exact Below.refl _ _) | (with_reducible assumption) | (with_reducible refine Below.alloc ?_ ?_ _) | (with_reducible refine Go.Proofs.Ytbfpljnfalopdaa.L.below_drewN ?_ _) | (with_reducible refine Below.drew ?_) | (with_reducible refine Below.setCell ?_ ?_ _) | (with_reducible refine Below.frame ?_ _) | go_size))
  obtain ⟨b8, hb8⟩ : ∃ b8, wq.heap.size = b8 := ⟨_, rfl⟩
  have hv8 : VOwn w2 b8 ⟨n0, n1, n2⟩ := by rw [← hw2, ← hb8]; exact VOwn.new wq ⟨n0, n1, n2⟩
  rw [hb8]
  have HB2 := Lib.hid (keeps_trans HB.out hbq)
  have HX2 := Lib.hid (HX.out.on hbq)
  have HAr2 := Lib.hid (Blk.below HAr.out hbq (Blk.lt HAr.out))
  have HV8 := Lib.hid hv8
  have hb8w : w.heap.size + 1 < b8 := by omega
  clear hw2 hbq hb8 hv8 hlt1
  have HOut := Lib.hid (show ∀ (W : World), Below w.heap.size w W → Calls Try.prog 14 #[] W fun e w' => e = .returned (.bool true) ∧ Below w.heap.size w w' from fun W hW => (aw.out W).mono fun e w' ⟨he, hb⟩ => ⟨he, keeps_trans hW hb⟩)
  obtain ⟨y0, y1, y2, y3, y4⟩ := HX2.out
  go_wp2_with fail
  refine (gM.out _ HB2.out).mono ?_
  rintro e w3 ⟨rfl, hb3⟩
  have HB3 := Lib.hid (keeps_trans HB2.out hb3)
  have HX3 := Lib.hid (HX2.out.on hb3)
  have HAr3 := Lib.hid (Blk.below HAr2.out hb3 (Blk.lt HAr2.out))
  have HV3 := Lib.hid (Blk.below HV8.out hb3 (Blk.lt HV8.out))
  clear hb3 y0 y1 y2 y3 y4
  obtain ⟨mb, hmb⟩ : ∃ mb, mayB c U = mb := ⟨_, rfl⟩
  rw [hmb]
  have HMb := Lib.hid hmb
  clear hmb
  cases mb
  · go_wp2_with fail
    refine (HOut.out _ HB3.out).mono ?_
    rintro e w4 ⟨rfl, hb4⟩
    have HB4 := Lib.hid hb4
    clear hb4
    go_wp2_with fail
    go_ret
    exact ⟨rfl, HB4.out⟩
  · have hck := mayB_check HMb.out
    have hlen := len_ok hck.1
    obtain ⟨⟨z0, z1, z2⟩, -, zl⟩ := VOwn.cells HV3.out
    simp only [Nat.zero_add] at z1 z2
    have gV : Gives Try.prog 12 #[.agg #[.int .i64 n0, .int .i64 n1, .int .i64 n2]] (.bool (Vec.valid ⟨n0, n1, n2⟩)) := VecW.grvalid ⟨n0, n1, n2⟩
    have GV := Lib.hid gV
    have GM := Lib.hid (show GivesAt Try.prog w 13 #[.agg #[.slice A N ca, .slice B M cb, .int .i64 half, .int .i64 age], .slice A5 U c5, .int .i64 t, .agg #[.int .i64 n0, .int .i64 n1, .int .i64 n2]] (.bool (Quo.may c xs t ⟨n0, n1, n2⟩)) from may_any HC.out hlen HA.out t ⟨n0, n1, n2⟩)
    have Hlen := Lib.hid hlen
    clear hck hlen gV
    go_wp2_with fail
    refine (GV.out _).mono ?_
    rintro e w4 ⟨rfl, hb4⟩
    have HB4 := Lib.hid (keeps_trans HB3.out hb4)
    have HX4 := Lib.hid (HX3.out.on hb4)
    have HAr4 := Lib.hid (Blk.below HAr3.out hb4 (Blk.lt HAr3.out))
    have HV4 := Lib.hid (Blk.below HV3.out hb4 (Blk.lt HV3.out))
    clear hb4 z0 z1 z2 zl
    obtain ⟨vb, hvb⟩ : ∃ vb, Vec.valid ⟨n0, n1, n2⟩ = vb := ⟨_, rfl⟩
    rw [hvb]
    have HVb := Lib.hid hvb
    clear hvb
    cases vb
    · go_wp2_with fail
      refine (HOut.out _ HB4.out).mono ?_
      rintro e w5 ⟨rfl, hb5⟩
      have HB5 := Lib.hid hb5
      clear hb5
      go_wp2_with fail
      go_ret
      exact ⟨rfl, HB5.out⟩
    · obtain ⟨y0, y1, y2, y3, y4⟩ := HX4.out
      obtain ⟨⟨z0, z1, z2⟩, -, zl⟩ := VOwn.cells HV4.out
      simp only [Nat.zero_add] at z1 z2
      go_wp2_with fail
      refine (GM.out _ HB4.out).mono ?_
      rintro e w5 ⟨rfl, hb5⟩
      have HB5 := Lib.hid (keeps_trans HB4.out hb5)
      have HX5 := Lib.hid (HX4.out.on hb5)
      have HAr5 := Lib.hid (Blk.below HAr4.out hb5 (Blk.lt HAr4.out))
      have HV5 := Lib.hid (Blk.below HV4.out hb5 (Blk.lt HV4.out))
      clear hb5 y0 y1 y2 y3 y4 z0 z1 z2 zl
      obtain ⟨ob, hob⟩ : ∃ ob, Quo.may c xs t ⟨n0, n1, n2⟩ = ob := ⟨_, rfl⟩
      rw [hob]
      have HOb := Lib.hid hob
      clear hob
      cases ob
      · go_wp2_with fail
        refine (HOut.out _ HB5.out).mono ?_
        rintro e w6 ⟨rfl, hb6⟩
        have HB6 := Lib.hid hb6
        clear hb6
        go_wp2_with fail
        go_ret
        exact ⟨rfl, HB6.out⟩
      · obtain ⟨⟨z0, z1, z2⟩, -, zl⟩ := VOwn.cells HV5.out
        simp only [Nat.zero_add] at z1 z2
        have a4 := Blk.cell HAr5.out 4
        simp only [List.getElem?_toArray, List.getElem?_cons_zero, List.getElem?_cons_succ] at a4
        have al := Blk.lt HAr5.out
        have hn0 : ¬ w.heap.size + 1 = w5.heap.size := fun e => by omega
        have hn1 : ¬ b8 = w5.heap.size := fun e => by omega
        have hu0 : 0 ≤ IntKind.u64.wrap k := by simp [IntKind.wrap, IntKind.bits, IntKind.signed]; omega
        obtain ⟨m, hm, hm3⟩ := L.rem_nat (IntKind.u64.wrap k) hu0 3 (by omega)
        clear hu0
        have hm' : (IntKind.u64.wrap k).tmod 3 = (m : Int) := hm
        clear hm
        have h3 : m = 0 ∨ m = 1 ∨ m = 2 := by omega
        clear hm3
        have hvv := HVb.out
        rw [Vec.valid_iff] at hvv
        obtain ⟨hv0, hv1, hv2⟩ := hvv
        obtain ⟨y0, y1, y2, y3, y4⟩ := HX5.out
        have hn2 : ¬ w.heap.size = w5.heap.size := fun e => by omega
        have hn3 : w.heap.size < w5.heap.size := by omega
        simp only at hv0 hv1 hv2
        rcases h3 with rfl | rfl | rfl
        · have hm2 : (IntKind.u64.wrap k).tmod 3 = 0 := hm'
          obtain ⟨z, hz⟩ : ∃ z, wrap64 (n0.tdiv 2) = z := ⟨_, rfl⟩
          have hze : z = n0 / 2 := by
            rw [← hz, Int.tdiv_eq_ediv_of_nonneg (by omega)]
            exact IntWalk.wrap64_in _ (by omega)
          have hle : Quo.Le ⟨z, n1, n2⟩ ⟨n0, n1, n2⟩ := by unfold Quo.Le; simp only; omega
          have hml := Quo.may_less hle HOb.out
          have HWl := Lib.hid (fun h => Quo.within_less (c := c) (used := xs) (t := t) hle h)
          have GM2 := Lib.hid (show GivesAt Try.prog w 13 #[.agg #[.slice A N ca, .slice B M cb, .int .i64 half, .int .i64 age], .slice A5 U c5, .int .i64 t, .agg #[.int .i64 z, .int .i64 n1, .int .i64 n2]] (.bool true) from (may_any HC.out Hlen.out HA.out t ⟨z, n1, n2⟩).val (by rw [hml]))
          have GW := Lib.hid (show GivesAt Try.prog w 21 #[.agg #[.slice A N ca, .slice B M cb, .int .i64 half, .int .i64 age], .slice A5 U c5, .int .i64 t, .agg #[.int .i64 n0, .int .i64 n1, .int .i64 n2]] (.bool (Quo.within c xs t ⟨n0, n1, n2⟩)) from within_any HC.out HA.out t ⟨n0, n1, n2⟩)
          have GW2 := Lib.hid (show GivesAt Try.prog w 21 #[.agg #[.slice A N ca, .slice B M cb, .int .i64 half, .int .i64 age], .slice A5 U c5, .int .i64 t, .agg #[.int .i64 z, .int .i64 n1, .int .i64 n2]] (.bool (Quo.within c xs t ⟨z, n1, n2⟩)) from within_any HC.out HA.out t ⟨z, n1, n2⟩)
          clear hm' hze hle hml hv0 hv1 hv2
          go_wp2_with fail
          obtain ⟨w6, hw6⟩ : ∃ w6, w5.alloc (.cells #[.int .i64 z, .int .i64 n1, .int .i64 n2] 29) = w6 := ⟨_, rfl⟩
          rw [hw6]
          have hb56 : Below w5.heap.size w5 w6 := by rw [← hw6]; exact (Below.refl _ _).alloc (Nat.le_refl _) _
          have HL6 := Lib.hid (show VOwn w6 w5.heap.size ⟨z, n1, n2⟩ by rw [← hw6]; exact VOwn.new w5 ⟨z, n1, n2⟩)
          have HB6 := Lib.hid (keeps_trans HB5.out hb56)
          have HX6 := Lib.hid (HX5.out.on hb56)
          have HV6 := Lib.hid (Blk.below HV5.out hb56 (Blk.lt HV5.out))
          clear hw6 hb56 y0 y1 y2 y3 y4 z0 z1 z2 zl a4 al hn0 hn1 hn2 hn3 hm2 hz
          refine (GM2.out _ HB6.out).mono ?_
          rintro e w7 ⟨rfl, hb7⟩
          have HB7 := Lib.hid (keeps_trans HB6.out hb7)
          have HX7 := Lib.hid (HX6.out.on hb7)
          have HV7 := Lib.hid (Blk.below HV6.out hb7 (Blk.lt HV6.out))
          have HL7 := Lib.hid (Blk.below HL6.out hb7 (Blk.lt HL6.out))
          clear hb7
          obtain ⟨y0, y1, y2, y3, y4⟩ := HX7.out
          obtain ⟨⟨z0, z1, z2⟩, -, zl⟩ := VOwn.cells HV7.out
          simp only [Nat.zero_add] at z1 z2
          go_wp2_with fail
          refine (GW.out _ HB7.out).mono ?_
          rintro e w8 ⟨rfl, hb8⟩
          have HB8 := Lib.hid (keeps_trans HB7.out hb8)
          have HX8 := Lib.hid (HX7.out.on hb8)
          have HL8 := Lib.hid (Blk.below HL7.out hb8 (Blk.lt HL7.out))
          clear hb8 y0 y1 y2 y3 y4 z0 z1 z2 zl
          obtain ⟨wb, hwb⟩ : ∃ wb, Quo.within c xs t ⟨n0, n1, n2⟩ = wb := ⟨_, rfl⟩
          rw [hwb]
          have HWb := Lib.hid hwb
          clear hwb
          cases wb
          · go_wp2_with fail
            refine (HOut.out _ HB8.out).mono ?_
            rintro e w9 ⟨rfl, hb9⟩
            have HB9 := Lib.hid hb9
            clear hb9
            go_wp2_with fail
            go_ret
            exact ⟨rfl, HB9.out⟩
          · obtain ⟨y0, y1, y2, y3, y4⟩ := HX8.out
            obtain ⟨⟨z0, z1, z2⟩, -, zl⟩ := VOwn.cells HL8.out
            simp only [Nat.zero_add] at z1 z2
            go_wp2_with fail
            refine (GW2.out _ HB8.out).mono ?_
            rintro e w9 ⟨rfl, hb9⟩
            rw [HWl.out HWb.out]
            have HB9 := Lib.hid (keeps_trans HB8.out hb9)
            clear hb9 y0 y1 y2 y3 y4 z0 z1 z2 zl
            go_wp2_with fail
            refine (HOut.out _ HB9.out).mono ?_
            rintro e w10 ⟨rfl, hb10⟩
            have HB10 := Lib.hid hb10
            clear hb10
            go_wp2_with fail
            go_ret
            exact ⟨rfl, HB10.out⟩
        · have hm2 : (IntKind.u64.wrap k).tmod 3 = 1 := hm'
          obtain ⟨z, hz⟩ : ∃ z, wrap64 (n1.tdiv 2) = z := ⟨_, rfl⟩
          have hze : z = n1 / 2 := by
            rw [← hz, Int.tdiv_eq_ediv_of_nonneg (by omega)]
            exact IntWalk.wrap64_in _ (by omega)
          have hle : Quo.Le ⟨n0, z, n2⟩ ⟨n0, n1, n2⟩ := by unfold Quo.Le; simp only; omega
          have hml := Quo.may_less hle HOb.out
          have HWl := Lib.hid (fun h => Quo.within_less (c := c) (used := xs) (t := t) hle h)
          have GM2 := Lib.hid (show GivesAt Try.prog w 13 #[.agg #[.slice A N ca, .slice B M cb, .int .i64 half, .int .i64 age], .slice A5 U c5, .int .i64 t, .agg #[.int .i64 n0, .int .i64 z, .int .i64 n2]] (.bool true) from (may_any HC.out Hlen.out HA.out t ⟨n0, z, n2⟩).val (by rw [hml]))
          have GW := Lib.hid (show GivesAt Try.prog w 21 #[.agg #[.slice A N ca, .slice B M cb, .int .i64 half, .int .i64 age], .slice A5 U c5, .int .i64 t, .agg #[.int .i64 n0, .int .i64 n1, .int .i64 n2]] (.bool (Quo.within c xs t ⟨n0, n1, n2⟩)) from within_any HC.out HA.out t ⟨n0, n1, n2⟩)
          have GW2 := Lib.hid (show GivesAt Try.prog w 21 #[.agg #[.slice A N ca, .slice B M cb, .int .i64 half, .int .i64 age], .slice A5 U c5, .int .i64 t, .agg #[.int .i64 n0, .int .i64 z, .int .i64 n2]] (.bool (Quo.within c xs t ⟨n0, z, n2⟩)) from within_any HC.out HA.out t ⟨n0, z, n2⟩)
          clear hm' hze hle hml hv0 hv1 hv2
          go_wp2_with fail
          obtain ⟨w6, hw6⟩ : ∃ w6, w5.alloc (.cells #[.int .i64 n0, .int .i64 z, .int .i64 n2] 29) = w6 := ⟨_, rfl⟩
          rw [hw6]
          have hb56 : Below w5.heap.size w5 w6 := by rw [← hw6]; exact (Below.refl _ _).alloc (Nat.le_refl _) _
          have HL6 := Lib.hid (show VOwn w6 w5.heap.size ⟨n0, z, n2⟩ by rw [← hw6]; exact VOwn.new w5 ⟨n0, z, n2⟩)
          have HB6 := Lib.hid (keeps_trans HB5.out hb56)
          have HX6 := Lib.hid (HX5.out.on hb56)
          have HV6 := Lib.hid (Blk.below HV5.out hb56 (Blk.lt HV5.out))
          clear hw6 hb56 y0 y1 y2 y3 y4 z0 z1 z2 zl a4 al hn0 hn1 hn2 hn3 hm2 hz
          refine (GM2.out _ HB6.out).mono ?_
          rintro e w7 ⟨rfl, hb7⟩
          have HB7 := Lib.hid (keeps_trans HB6.out hb7)
          have HX7 := Lib.hid (HX6.out.on hb7)
          have HV7 := Lib.hid (Blk.below HV6.out hb7 (Blk.lt HV6.out))
          have HL7 := Lib.hid (Blk.below HL6.out hb7 (Blk.lt HL6.out))
          clear hb7
          obtain ⟨y0, y1, y2, y3, y4⟩ := HX7.out
          obtain ⟨⟨z0, z1, z2⟩, -, zl⟩ := VOwn.cells HV7.out
          simp only [Nat.zero_add] at z1 z2
          go_wp2_with fail
          refine (GW.out _ HB7.out).mono ?_
          rintro e w8 ⟨rfl, hb8⟩
          have HB8 := Lib.hid (keeps_trans HB7.out hb8)
          have HX8 := Lib.hid (HX7.out.on hb8)
          have HL8 := Lib.hid (Blk.below HL7.out hb8 (Blk.lt HL7.out))
          clear hb8 y0 y1 y2 y3 y4 z0 z1 z2 zl
          obtain ⟨wb, hwb⟩ : ∃ wb, Quo.within c xs t ⟨n0, n1, n2⟩ = wb := ⟨_, rfl⟩
          rw [hwb]
          have HWb := Lib.hid hwb
          clear hwb
          cases wb
          · go_wp2_with fail
            refine (HOut.out _ HB8.out).mono ?_
            rintro e w9 ⟨rfl, hb9⟩
            have HB9 := Lib.hid hb9
            clear hb9
            go_wp2_with fail
            go_ret
            exact ⟨rfl, HB9.out⟩
          · obtain ⟨y0, y1, y2, y3, y4⟩ := HX8.out
            obtain ⟨⟨z0, z1, z2⟩, -, zl⟩ := VOwn.cells HL8.out
            simp only [Nat.zero_add] at z1 z2
            go_wp2_with fail
            refine (GW2.out _ HB8.out).mono ?_
            rintro e w9 ⟨rfl, hb9⟩
            rw [HWl.out HWb.out]
            have HB9 := Lib.hid (keeps_trans HB8.out hb9)
            clear hb9 y0 y1 y2 y3 y4 z0 z1 z2 zl
            go_wp2_with fail
            refine (HOut.out _ HB9.out).mono ?_
            rintro e w10 ⟨rfl, hb10⟩
            have HB10 := Lib.hid hb10
            clear hb10
            go_wp2_with fail
            go_ret
            exact ⟨rfl, HB10.out⟩
        · have hm2 : (IntKind.u64.wrap k).tmod 3 = 2 := hm'
          obtain ⟨z, hz⟩ : ∃ z, wrap64 (n2.tdiv 2) = z := ⟨_, rfl⟩
          have hze : z = n2 / 2 := by
            rw [← hz, Int.tdiv_eq_ediv_of_nonneg (by omega)]
            exact IntWalk.wrap64_in _ (by omega)
          have hle : Quo.Le ⟨n0, n1, z⟩ ⟨n0, n1, n2⟩ := by unfold Quo.Le; simp only; omega
          have hml := Quo.may_less hle HOb.out
          have HWl := Lib.hid (fun h => Quo.within_less (c := c) (used := xs) (t := t) hle h)
          have GM2 := Lib.hid (show GivesAt Try.prog w 13 #[.agg #[.slice A N ca, .slice B M cb, .int .i64 half, .int .i64 age], .slice A5 U c5, .int .i64 t, .agg #[.int .i64 n0, .int .i64 n1, .int .i64 z]] (.bool true) from (may_any HC.out Hlen.out HA.out t ⟨n0, n1, z⟩).val (by rw [hml]))
          have GW := Lib.hid (show GivesAt Try.prog w 21 #[.agg #[.slice A N ca, .slice B M cb, .int .i64 half, .int .i64 age], .slice A5 U c5, .int .i64 t, .agg #[.int .i64 n0, .int .i64 n1, .int .i64 n2]] (.bool (Quo.within c xs t ⟨n0, n1, n2⟩)) from within_any HC.out HA.out t ⟨n0, n1, n2⟩)
          have GW2 := Lib.hid (show GivesAt Try.prog w 21 #[.agg #[.slice A N ca, .slice B M cb, .int .i64 half, .int .i64 age], .slice A5 U c5, .int .i64 t, .agg #[.int .i64 n0, .int .i64 n1, .int .i64 z]] (.bool (Quo.within c xs t ⟨n0, n1, z⟩)) from within_any HC.out HA.out t ⟨n0, n1, z⟩)
          clear hm' hze hle hml hv0 hv1 hv2
          go_wp2_with fail
          obtain ⟨w6, hw6⟩ : ∃ w6, w5.alloc (.cells #[.int .i64 n0, .int .i64 n1, .int .i64 z] 29) = w6 := ⟨_, rfl⟩
          rw [hw6]
          have hb56 : Below w5.heap.size w5 w6 := by rw [← hw6]; exact (Below.refl _ _).alloc (Nat.le_refl _) _
          have HL6 := Lib.hid (show VOwn w6 w5.heap.size ⟨n0, n1, z⟩ by rw [← hw6]; exact VOwn.new w5 ⟨n0, n1, z⟩)
          have HB6 := Lib.hid (keeps_trans HB5.out hb56)
          have HX6 := Lib.hid (HX5.out.on hb56)
          have HV6 := Lib.hid (Blk.below HV5.out hb56 (Blk.lt HV5.out))
          clear hw6 hb56 y0 y1 y2 y3 y4 z0 z1 z2 zl a4 al hn0 hn1 hn2 hn3 hm2 hz
          refine (GM2.out _ HB6.out).mono ?_
          rintro e w7 ⟨rfl, hb7⟩
          have HB7 := Lib.hid (keeps_trans HB6.out hb7)
          have HX7 := Lib.hid (HX6.out.on hb7)
          have HV7 := Lib.hid (Blk.below HV6.out hb7 (Blk.lt HV6.out))
          have HL7 := Lib.hid (Blk.below HL6.out hb7 (Blk.lt HL6.out))
          clear hb7
          obtain ⟨y0, y1, y2, y3, y4⟩ := HX7.out
          obtain ⟨⟨z0, z1, z2⟩, -, zl⟩ := VOwn.cells HV7.out
          simp only [Nat.zero_add] at z1 z2
          go_wp2_with fail
          refine (GW.out _ HB7.out).mono ?_
          rintro e w8 ⟨rfl, hb8⟩
          have HB8 := Lib.hid (keeps_trans HB7.out hb8)
          have HX8 := Lib.hid (HX7.out.on hb8)
          have HL8 := Lib.hid (Blk.below HL7.out hb8 (Blk.lt HL7.out))
          clear hb8 y0 y1 y2 y3 y4 z0 z1 z2 zl
          obtain ⟨wb, hwb⟩ : ∃ wb, Quo.within c xs t ⟨n0, n1, n2⟩ = wb := ⟨_, rfl⟩
          rw [hwb]
          have HWb := Lib.hid hwb
          clear hwb
          cases wb
          · go_wp2_with fail
            refine (HOut.out _ HB8.out).mono ?_
            rintro e w9 ⟨rfl, hb9⟩
            have HB9 := Lib.hid hb9
            clear hb9
            go_wp2_with fail
            go_ret
            exact ⟨rfl, HB9.out⟩
          · obtain ⟨y0, y1, y2, y3, y4⟩ := HX8.out
            obtain ⟨⟨z0, z1, z2⟩, -, zl⟩ := VOwn.cells HL8.out
            simp only [Nat.zero_add] at z1 z2
            go_wp2_with fail
            refine (GW2.out _ HB8.out).mono ?_
            rintro e w9 ⟨rfl, hb9⟩
            rw [HWl.out HWb.out]
            have HB9 := Lib.hid (keeps_trans HB8.out hb9)
            clear hb9 y0 y1 y2 y3 y4 z0 z1 z2 zl
            go_wp2_with fail
            refine (HOut.out _ HB9.out).mono ?_
            rintro e w10 ⟨rfl, hb10⟩
            have HB10 := Lib.hid hb10
            clear hb10
            go_wp2_with fail
            go_ret
            exact ⟨rfl, HB10.out⟩
end Go.Proofs.Ytbfpljnfalopdaa.CfgW
