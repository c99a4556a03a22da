/-
  Chapter 11: what may be used more leaves each cohort on the way within its nominal, and the tenant within what it may borrow, over any world.
-/
import Derived.Test.YtbfpljnfalopdaaQuoLawO
import Derived.Test.YtbfpljnfalopdaaQuoRef
import Derived.BigRegion
import Derived.RegionTactic
set_option linter.unusedVariables false
set_option linter.unusedSimpArgs false
namespace Go.Proofs.Ytbfpljnfalopdaa.CfgW
open Go Go.RowKit Go.Proofs.Ytbfpljnfalopdaa.L

/-- The amounts in use, a row as long as there are nodes. -/
def baseV (xs : List Vec.V) (n : Nat) : List Vec.V := (List.range n).map fun (i : Nat) => Tree.at_ xs (i : Int)
theorem baseV_length (xs : List Vec.V) (n : Nat) : (baseV xs n).length = n := by simp [baseV]
theorem baseV_at (xs : List Vec.V) (n i : Nat) (h : i < (baseV xs n).length) : (baseV xs n)[i] = Tree.at_ xs (i : Int) := by simp [baseV]
theorem now_set (c : Cfg.C) (xs : List Vec.V) (k : Nat) (need : Vec.V) (h : k < c.nodes.length) : (baseV xs c.nodes.length).set k (Vec.add (Tree.at_ xs (k : Int)) need) = Quo.now c xs (k : Int) need := by
  apply List.ext_getElem?
  intro i
  by_cases hi : i < c.nodes.length
  · have e1 : (Quo.now c xs (k : Int) need)[i]? = some (if (i : Int) = (k : Int) then Vec.add (Tree.at_ xs (i : Int)) need else Tree.at_ xs (i : Int)) := by
      unfold Quo.now
      rw [List.getElem?_map, List.getElem?_range hi]
      rfl
    have e2 : (baseV xs c.nodes.length)[i]? = some (Tree.at_ xs (i : Int)) := by
      unfold baseV
      rw [List.getElem?_map, List.getElem?_range hi]
      rfl
    rw [e1, List.getElem?_set, baseV_length]
    by_cases e : k = i
    · subst e
      rw [if_pos rfl, if_pos h, if_pos rfl]
    · rw [if_neg e, e2, if_neg (by omega)]
  · rw [List.getElem?_eq_none (by rw [List.length_set, baseV_length]; omega), List.getElem?_eq_none (by simp [Quo.now]; omega)]
theorem path_inner {c : Cfg.C} {k : Nat} (h : k < c.nodes.length) {i : Nat} (hi : i < (Tree.path c (k : Int)).length - 1) : ∃ n, (Tree.path c (k : Int))[i]? = some n ∧ n ∈ Tree.up c (k : Int) ∧ (n : Int) ≠ (k : Int) := by
  have hup := Tree.up_in c k h
  obtain ⟨r, hr⟩ : ∃ r, Tree.up c (k : Int) = k :: r := ⟨_, hup⟩
  have hpw := Tree.up_pairwise c (k : Int)
  rw [hr, List.pairwise_cons] at hpw
  have hp : Tree.path c (k : Int) = r.reverse ++ [k] := by unfold Tree.path; rw [hr, List.reverse_cons]
  rw [hp, List.length_append, List.length_reverse, List.length_singleton] at hi
  have hir : i < r.reverse.length := by rw [List.length_reverse]; omega
  refine ⟨r.reverse[i], by rw [hp, List.getElem?_append_left hir, List.getElem?_eq_getElem hir], ?_, ?_⟩
  · have := List.getElem_mem hir
    rw [hr]
    exact List.mem_cons_of_mem _ (List.mem_reverse.1 this)
  · have := hpw.1 _ (List.mem_reverse.1 (List.getElem_mem hir))
    omega
theorem path_pos {c : Cfg.C} {k : Nat} (h : k < c.nodes.length) : 0 < (Tree.path c (k : Int)).length := by
  unfold Tree.path
  rw [List.length_reverse, Tree.up_in c k h]
  simp
theorem all_take {xs : List Vec.V} {k : Nat} (h : ∀ i x, i < k → xs[i]? = some x → Vec.valid x = true) (hk : xs.length ≤ k) : Quo.AllValid xs := by
  intro v hv
  obtain ⟨i, hi⟩ := List.getElem?_of_mem hv
  refine h i v ?_ hi
  have := (List.getElem?_eq_some_iff.1 hi).1
  omega

set_option maxRecDepth 100000 in
set_option maxHeartbeats 2000000 in
theorem lawsafe_any {w : World} {v va : Value} {c : Cfg.C} {xs : List Vec.V} (hc : CfgAt w v c) (ha : VSl w va xs) (t n0 n1 n2 : Int) :
    Calls Try.prog 3 #[v, va, .agg #[.int .i64 t, .int .i64 n0, .int .i64 n1, .int .i64 n2]] w fun e w' => e = .returned (.bool true) ∧ Below w.heap.size w w' := by
  have HC := Lib.hid hc
  have HA := Lib.hid ha
  have aw := Lib.hid awake11
  obtain ⟨v1, v2, rfl, ⟨A, ca, rfl, hrA, hlA⟩, ⟨B, cb, rfl, -, -⟩⟩ := id hc
  have HR := Lib.hid hrA
  obtain ⟨A5, c5, rfl, -, -⟩ := id ha
  obtain ⟨U, hU⟩ : ∃ U, xs.length = U := ⟨_, rfl⟩
  have HU := Lib.hid hU
  rw [hU] at HA ⊢
  have gM := Lib.hid (may11 hc A5 U c5)
  obtain ⟨N, hN⟩ : ∃ N, c.nodes.length = N := ⟨_, rfl⟩
  have HN := Lib.hid hN
  generalize c.hosts.length = M at *
  generalize hhalf : c.half = half at *
  generalize hage : c.age = age at *
  rw [hN] at HC gM ⊢
  clear hc ha hrA hlA hhalf hage hN hU
  go_enter Try.func3, Try.ntmps3
  go_wp2_with fail
  obtain ⟨wq, hwq⟩ : ∃ wq, (w.alloc (.cells #[.slice A N ca, .slice B M cb, .int .i64 half, .int .i64 age] 25)).alloc (.cells #[.int .i64 t, .int .i64 n0, .int .i64 n1, .int .i64 n2] 27) = wq := ⟨_, rfl⟩
  have hbx : CBox wq w.heap.size (.slice A N ca) (.slice B M cb) half age := by
    rw [← hwq]
    exact (CBox.new w _ _ half age).on ((Below.refl _ _).alloc (Nat.le_refl _) _)
  have har : Blk wq (w.heap.size + 1) 27 #[.int .i64 t, .int .i64 n0, .int .i64 n1, .int .i64 n2] := by
    rw [← hwq]
    have h := fun o => Blk.new (w.alloc o) 27 #[.int .i64 t, .int .i64 n0, .int .i64 n1, .int .i64 n2]
    simp only [World.size_alloc] at h
    exact h _
  have hb0 : Below w.heap.size w wq := by rw [← hwq]; (repeat' (first | (with_reducible exact Below.refl _ _) | (with_reducible assumption) | (with_reducible refine Below.alloc ?_ ?_ _) | (with_reducible refine Go.Proofs.Ytbfpljnfalopdaa.L.below_drewN ?_ _) | (with_reducible refine Below.drew ?_) | (with_reducible refine Below.setCell ?_ ?_ _) | (with_reducible refine Below.frame ?_ _) | go_size))
  rw [hwq]
  have HX := Lib.hid hbx
  have HAr := Lib.hid har
  have HB := Lib.hid hb0
  have hlt1 : w.heap.size + 1 < wq.heap.size := Blk.lt har
  have p0 := Blk.cell har 0
  have p1 := Blk.cell har 1
  have p2 := Blk.cell har 2
  have p3 := Blk.cell har 3
  simp only [List.getElem?_toArray, List.getElem?_cons_zero, List.getElem?_cons_succ] at p0 p1 p2 p3
  have hne0 : ¬ w.heap.size + 1 = wq.heap.size := fun e => by omega
  clear hwq hbx har hb0
  go_region
  clear p0 p1 p2 p3 hne0
  obtain ⟨w2, hw2⟩ : ∃ w2, (wq.alloc (.cells #[.int .i64 n0, .int .i64 n1, .int .i64 n2] 29)).drew = w2 := ⟨_, rfl⟩
  rw [hw2]
  have hbq : Below wq.heap.size wq w2 := by rw [← hw2]; (repeat' (first | (with_reducible exact Below.refl _ _) | (with_reducible assumption) | (with_reducible refine Below.alloc ?_ ?_ _) | (with_reducible refine Go.Proofs.Ytbfpljnfalopdaa.L.below_drewN ?_ _) | (with_reducible refine Below.drew ?_) | (with_reducible refine Below.setCell ?_ ?_ _) | (with_reducible refine Below.frame ?_ _) | go_size))
  obtain ⟨b8, hb8⟩ : ∃ b8, wq.heap.size = b8 := ⟨_, rfl⟩
  have hv8 : VOwn w2 b8 ⟨n0, n1, n2⟩ := by rw [← hw2, ← hb8]; exact VOwn.new wq ⟨n0, n1, n2⟩
  rw [hb8]
  have HB2 := Lib.hid (keeps_trans HB.out hbq)
  have HX2 := Lib.hid (HX.out.on hbq)
  have HAr2 := Lib.hid (Blk.below HAr.out hbq (Blk.lt HAr.out))
  have HV8 := Lib.hid hv8
  have hb8w : w.heap.size + 1 < b8 := by omega
  clear hw2 hbq hb8 hv8 hlt1
  have HOut := Lib.hid (show ∀ (W : World), Below w.heap.size w W → Calls Try.prog 14 #[] W fun e w' => e = .returned (.bool true) ∧ Below w.heap.size w w' from fun W hW => (aw.out W).mono fun e w' ⟨he, hb⟩ => ⟨he, keeps_trans hW hb⟩)
  obtain ⟨y0, y1, y2, y3, y4⟩ := HX2.out
  go_wp2_with fail
  refine (gM.out _ HB2.out).mono ?_
  rintro e w3 ⟨rfl, hb3⟩
  have HB3 := Lib.hid (keeps_trans HB2.out hb3)
  have HX3 := Lib.hid (HX2.out.on hb3)
  have HAr3 := Lib.hid (Blk.below HAr2.out hb3 (Blk.lt HAr2.out))
  have HV3 := Lib.hid (Blk.below HV8.out hb3 (Blk.lt HV8.out))
  clear hb3 y0 y1 y2 y3 y4
  obtain ⟨mb, hmb⟩ : ∃ mb, mayB c U = mb := ⟨_, rfl⟩
  rw [hmb]
  have HMb := Lib.hid hmb
  clear hmb
  cases mb
  · go_wp2_with fail
    refine (HOut.out _ HB3.out).mono ?_
    rintro e w4 ⟨rfl, hb4⟩
    have HB4 := Lib.hid hb4
    clear hb4
    go_wp2_with fail
    go_ret
    exact ⟨rfl, HB4.out⟩
  · have hck := mayB_check HMb.out
    have hlen := len_ok hck.1
    obtain ⟨⟨z0, z1, z2⟩, -, zl⟩ := VOwn.cells HV3.out
    simp only [Nat.zero_add] at z1 z2
    have gV : Gives Try.prog 12 #[.agg #[.int .i64 n0, .int .i64 n1, .int .i64 n2]] (.bool (Vec.valid ⟨n0, n1, n2⟩)) := VecW.grvalid ⟨n0, n1, n2⟩
    have GV := Lib.hid gV
    have GM := Lib.hid (show GivesAt Try.prog w 13 #[.agg #[.slice A N ca, .slice B M cb, .int .i64 half, .int .i64 age], .slice A5 U c5, .int .i64 t, .agg #[.int .i64 n0, .int .i64 n1, .int .i64 n2]] (.bool (Quo.may c xs t ⟨n0, n1, n2⟩)) from may_any HC.out hlen HA.out t ⟨n0, n1, n2⟩)
    have Hlen := Lib.hid hlen
    clear hck hlen gV
    go_wp2_with fail
    refine (GV.out _).mono ?_
    rintro e w4 ⟨rfl, hb4⟩
    have HB4 := Lib.hid (keeps_trans HB3.out hb4)
    have HX4 := Lib.hid (HX3.out.on hb4)
    have HAr4 := Lib.hid (Blk.below HAr3.out hb4 (Blk.lt HAr3.out))
    have HV4 := Lib.hid (Blk.below HV3.out hb4 (Blk.lt HV3.out))
    clear hb4 z0 z1 z2 zl
    obtain ⟨vb, hvb⟩ : ∃ vb, Vec.valid ⟨n0, n1, n2⟩ = vb := ⟨_, rfl⟩
    rw [hvb]
    have HVb := Lib.hid hvb
    clear hvb
    cases vb
    · go_wp2_with fail
      refine (HOut.out _ HB4.out).mono ?_
      rintro e w5 ⟨rfl, hb5⟩
      have HB5 := Lib.hid hb5
      clear hb5
      go_wp2_with fail
      go_ret
      exact ⟨rfl, HB5.out⟩
    · obtain ⟨y0, y1, y2, y3, y4⟩ := HX4.out
      obtain ⟨⟨z0, z1, z2⟩, -, zl⟩ := VOwn.cells HV4.out
      simp only [Nat.zero_add] at z1 z2
      go_wp2_with fail
      refine (GM.out _ HB4.out).mono ?_
      rintro e w5 ⟨rfl, hb5⟩
      have HB5 := Lib.hid (keeps_trans HB4.out hb5)
      have HX5 := Lib.hid (HX4.out.on hb5)
      have HAr5 := Lib.hid (Blk.below HAr4.out hb5 (Blk.lt HAr4.out))
      have HV5 := Lib.hid (Blk.below HV4.out hb5 (Blk.lt HV4.out))
      clear hb5 y0 y1 y2 y3 y4 z0 z1 z2 zl
      obtain ⟨ob, hob⟩ : ∃ ob, Quo.may c xs t ⟨n0, n1, n2⟩ = ob := ⟨_, rfl⟩
      rw [hob]
      have HOb := Lib.hid hob
      clear hob
      cases ob
      · go_wp2_with fail
        refine (HOut.out _ HB5.out).mono ?_
        rintro e w6 ⟨rfl, hb6⟩
        have HB6 := Lib.hid hb6
        clear hb6
        go_wp2_with fail
        go_ret
        exact ⟨rfl, HB6.out⟩
      · clear HAr5
        obtain ⟨A6, c6, e6, hrA6, -⟩ := HA.out
        obtain ⟨eA, eU, eC⟩ : A5 = A6 ∧ U = xs.length ∧ c5 = c6 := by simpa using e6
        subst eA
        have HR6 := Lib.hid hrA6
        clear hrA6 e6 eU eC
        have hU100 : U ≤ 100 := (mayB_check HMb.out).2
        go_wp2_with fail
        go_loopw [9] (fun i wr => ∃ j : Nat, i = .int .i64 (j : Int) ∧ j ≤ U ∧ Hid (∀ j' x, j' < j → xs[j']? = some x → Vec.valid x = true) ∧ Below w5.heap.size w5 wr) (fun i _ => U - (intOf i).toNat)
        case atStart => exact ⟨0, rfl, by omega, Lib.hid (fun j' x h => by omega), Below.refl _ _⟩
        case round =>
          obtain ⟨j, rfl, hj, hall, hb⟩ := hrel
          rename World => wr
          by_cases hjU : j < U
          · have hjx : j < xs.length := by rw [HU.out]; exact hjU
            obtain ⟨bx, ox, e7, hbx, hcx⟩ := row_vec HR6.out hjx
            subst e7
            have hxe : xs[j]? = some xs[j] := List.getElem?_eq_getElem hjx
            have hbw := keeps_trans HB5.out hb
            obtain ⟨q0, q1, q2⟩ := hcx wr hbw
            have gx := VecW.grvalid xs[j]
            generalize xs[j] = x at *
            obtain ⟨x0, x1, x2⟩ := x
            simp only at q0 q1 q2
            have GX := Lib.hid (show Gives Try.prog 12 #[.agg #[.int .i64 x0, .int .i64 x1, .int .i64 x2]] (.bool (Vec.valid ⟨x0, x1, x2⟩)) from gx)
            have HBw := Lib.hid hbw
            have Hb := Lib.hid hb
            have Hxe := Lib.hid hxe
            clear gx hcx hbw hb hxe hjx
            go_wp2_with fail
            refine (GX.out _).mono ?_
            rintro e w6 ⟨rfl, hb6⟩
            have HB6 := Lib.hid (keeps_trans HBw.out hb6)
            have HB56 := Lib.hid (keeps_trans Hb.out hb6)
            clear hb6 q0 q1 q2
            obtain ⟨xb, hxb⟩ : ∃ xb, Vec.valid ⟨x0, x1, x2⟩ = xb := ⟨_, rfl⟩
            rw [hxb]
            have HXb := Lib.hid hxb
            clear hxb
            cases xb
            · go_wp2_with fail
              refine (HOut.out _ HB6.out).mono ?_
              rintro e w7 ⟨rfl, hb7⟩
              have HB7 := Lib.hid hb7
              clear hb7
              go_wp2_with fail
              go_ret
              exact ⟨rfl, HB7.out⟩
            · have HAl := Lib.hid (show ∀ j' x, j' < j + 1 → xs[j']? = some x → Vec.valid x = true from fun j' x h1 h2 => by
                rcases Nat.lt_or_ge j' j with h3 | h3
                · exact hall.out j' x h3 h2
                · have : j' = j := by omega
                  subst this
                  rw [Hxe.out] at h2
                  cases h2
                  exact HXb.out)
              go_wp2_with fail
              go_roundw
              case rel => exact ⟨j + 1, by go_num, by omega, HAl, HB56.out⟩
              case measure => simp [intOf]; omega
          · have hvalid : Quo.AllValid xs := all_take hall.out (by rw [HU.out]; omega)
            have hlf : Cfg.leaf c t = true := by
              have := HOb.out
              unfold Quo.may at this
              simp only [Bool.and_eq_true] at this
              exact this.1
            have hlt := Tree.leaf_lt hlf
            obtain ⟨k, rfl⟩ : ∃ k : Nat, t = (k : Int) := ⟨t.toNat, by omega⟩
            have hkc : k < c.nodes.length := by omega
            have hn12 : c.nodes.length ≤ 12 := (Cfg.ok_sizes (check_ok (mayB_check HMb.out).1)).1.2
            have hsafe := Quo.safe hn12 hvalid HVb.out HOb.out
            rw [Int.toNat_natCast] at hsafe
            have HSafe := Lib.hid hsafe
            have Hkc := Lib.hid hkc
            have hkN : k < N := by rw [← HN.out]; exact hkc
            have HB6 := Lib.hid (keeps_trans HB5.out hb)
            have HX6 := Lib.hid (HX5.out.on hb)
            have HV6 := Lib.hid (Blk.below HV5.out hb (Blk.lt HV5.out))
            obtain ⟨y0, y1, y2, y3, y4⟩ := HX6.out
            have hN6 : N ≤ 12 := by rw [← HN.out]; exact hn12
            obtain ⟨wm, hmr, hmv, hmb, hms⟩ := make_vecs wr N (by omega)
            have HM := Lib.hid hmv
            have Hmb := Lib.hid hmb
            have hjd : decide (j < U) = false := by simpa using hjU
            clear hvalid hlf hlt hsafe hkc hn12 hall hb hjU hmv hmb
            go_wp2_with fail
            have h26 := HB6.out.size
            have hbl : b8 < wr.heap.size := Blk.lt HV6.out
            obtain ⟨G, hG⟩ : ∃ G, wr.heap.size = G := ⟨_, rfl⟩
            rw [hG] at HM hms hbl ⊢
            have HG := Lib.hid hG
            clear y0 y1 y2 y3 y4 hmr hjd hG
            go_loopw [11] (fun i wx => ∃ j' : Nat, i = .int .i64 (j' : Int) ∧ j' ≤ N ∧ VRow wx G (.slice (some ⟨G, 0, none⟩) N N) (fillV (baseV xs N) j') ∧ Below wr.heap.size wr wx) (fun i _ => N - (intOf i).toNat)
            case atStart => exact ⟨0, rfl, by omega, by rw [fillV_zero, baseV_length]; exact HM.out, Hmb.out⟩
            case round =>
              obtain ⟨j', rfl, hj', hrow, hb⟩ := hrel
              rename World => wx
              have hbw := keeps_trans HB6.out hb
              have HBw := Lib.hid hbw
              by_cases hjN : j' < N
              · have gA := rat_any (HA.out.below hbw) (j' : Int)
                obtain ⟨z, hz⟩ : ∃ z, Tree.at_ xs (j' : Int) = z := ⟨_, rfl⟩
                rw [hz] at gA
                have hlb : j' < (baseV xs N).length := by rw [baseV_length]; exact hjN
                have hset := fillV_set (baseV xs N) j' hlb
                rw [baseV_at, hz] at hset
                obtain ⟨z0, z1, z2⟩ := z
                have GA := Lib.hid (show GivesAt Try.prog wx 15 #[.slice A5 U c5, .int .i64 (j' : Int)] (.agg #[.int .i64 z0, .int .i64 z1, .int .i64 z2]) from gA)
                have Hset := Lib.hid hset
                have Hrow := Lib.hid hrow
                have Hb := Lib.hid hb
                clear gA hset hz hlb hrow hb hbw
                go_wp2_with fail
                refine (GA.out _ (Below.refl _ _)).mono ?_
                rintro e w7 ⟨rfl, hb7⟩
                have hrow7 := Hrow.out.below hb7
                have hlt' : j' < (fillV (baseV xs N) j').length := by rw [fillV_length _ _ (by rw [baseV_length]; exact hj'), baseV_length]; exact hjN
                obtain ⟨-, -, hgl, hva⟩ := hrow7.at_ (i := j') hlt'
                obtain ⟨q, hq⟩ : ∃ q, (fillV (baseV xs N) j')[j']'hlt' = q := ⟨_, rfl⟩
                rw [hq] at hva
                obtain ⟨x0, x1, x2⟩ := q
                obtain ⟨p0, p1, p2⟩ := hva
                simp only at p0 p1 p2
                have f0 := hrow7.ok (j' * 3)
                have f1 := hrow7.ok (j' * 3 + 1)
                have f2 := hrow7.ok (j' * 3 + 2)
                have hS := hrow7.set j' ⟨z0, z1, z2⟩
                rw [Hset.out] at hS
                have hb3 := put3_below (w0 := wr) (keeps_trans Hb.out hb7) (g := G) (by rw [HG.out]; exact Nat.le_refl _) (j' * 3) ⟨z0, z1, z2⟩
                unfold put3 at hb3
                have HE := Lib.hid (And.intro hS hb3)
                clear hq hlt' hrow7 hS hb3 hb7
                go_wp2_with fail
                go_roundw
                case rel => exact ⟨j' + 1, by go_num, by omega, HE.out.1, HE.out.2⟩
                case measure => simp [intOf]; omega
              · have e : j' = N := by omega
                have hall : fillV (baseV xs N) j' = baseV xs N := by
                  have := fillV_all (baseV xs N)
                  rw [baseV_length] at this
                  rw [e, this]
                rw [hall] at hrow
                have hjd : decide (j' < N) = false := by simpa using hjN
                have hlk : k < (baseV xs N).length := by rw [baseV_length]; exact hkN
                obtain ⟨-, -, hgl, hva⟩ := hrow.at_ (i := k) hlk
                rw [baseV_at] at hva
                have HX7 := Lib.hid (HX6.out.on hb)
                have HV7 := Lib.hid (Blk.below HV6.out hb (Blk.lt HV6.out))
                obtain ⟨z, hz⟩ : ∃ z, Tree.at_ xs (k : Int) = z := ⟨_, rfl⟩
                obtain ⟨s, hs⟩ : ∃ s, Vec.add z ⟨n0, n1, n2⟩ = s := ⟨_, rfl⟩
                have hnow := now_set c xs k ⟨n0, n1, n2⟩ Hkc.out
                rw [HN.out, hz, hs] at hnow
                have hsf := HSafe.out.2
                rw [hz, hs] at hsf
                have HSf := Lib.hid hsf
                rw [hz] at hva
                have g1 := VecW.gradd z ⟨n0, n1, n2⟩
                rw [hs] at g1
                obtain ⟨z0, z1, z2⟩ := z
                obtain ⟨s0, s1, s2⟩ := s
                have G1 := Lib.hid (show Gives Try.prog 16 #[.agg #[.int .i64 z0, .int .i64 z1, .int .i64 z2], .agg #[.int .i64 n0, .int .i64 n1, .int .i64 n2]] (.agg #[.int .i64 s0, .int .i64 s1, .int .i64 s2]) from g1)
                obtain ⟨p0, p1, p2⟩ := hva
                simp only at p0 p1 p2
                obtain ⟨⟨v0, v1, v2⟩, -, vl⟩ := VOwn.cells HV7.out
                simp only [Nat.zero_add] at v1 v2
                have HRow := Lib.hid hrow
                have Hb := Lib.hid hb
                have HNow := Lib.hid hnow
                have hkNd : decide (k < N) = true := by simpa using hkN
                clear hall hjN e hlk hz hs hnow hsf g1 hrow hb hbw
                go_wp2_with fail
                have P0 := fun W' (h : Onward wx W') => h.cell hgl p0
                have P1 := fun W' (h : Onward wx W') => h.cell hgl p1
                have P2 := fun W' (h : Onward wx W') => h.cell hgl p2
                have P3 := fun W' (h : Onward wx W') => h.cell vl v0
                have P4 := fun W' (h : Onward wx W') => h.cell vl v1
                have P5 := fun W' (h : Onward wx W') => h.cell vl v2
                have g1' := G1.out
                clear p0 p1 p2 v0 v1 v2
                refine region_keep_tail 9 (by kernel_rfl) (by kernel_rfl) ?_
                simp only [List.take_succ_cons, List.take_zero, List.drop_succ_cons, List.drop_zero]
                repeat (apply Go.Proofs.Ytbfpljnfalopdaa.L.wpKeep_yes; (focus rfl); (focus (intro W hW; go_simp; first | done | exact ⟨rfl, hW⟩ | rfl)); (focus (go_simp; first | done | rfl)))
                (apply Go.Proofs.Ytbfpljnfalopdaa.L.wpKeep_yes; (focus rfl); (focus (intro W hW; go_simp; first | exact Go.Proofs.Ytbfpljnfalopdaa.L.Gives.up g1' hW | exact ⟨hW, Go.Proofs.Ytbfpljnfalopdaa.L.Gives.up g1' hW⟩)); (focus (go_simp; first | done | rfl)))
                repeat (apply Go.Proofs.Ytbfpljnfalopdaa.L.wpKeep_yes; (focus rfl); (focus (intro W hW; go_simp; first | done | exact ⟨rfl, hW⟩ | rfl)); (focus (go_simp; first | done | rfl)))
                refine wpKeep_nil ?_
                intro W8 hW8
                have hrow8 := HRow.out.below hW8
                have hlk' : k < (baseV xs N).length := by rw [baseV_length]; exact hkN
                obtain ⟨-, -, hgl8, hva8⟩ := hrow8.at_ (i := k) hlk'
                obtain ⟨q, hq⟩ : ∃ q, (baseV xs N)[k]'hlk' = q := ⟨_, rfl⟩
                rw [hq] at hva8
                obtain ⟨x0, x1, x2⟩ := q
                obtain ⟨p0, p1, p2⟩ := hva8
                simp only at p0 p1 p2
                have f0 := hrow8.ok (k * 3)
                have f1 := hrow8.ok (k * 3 + 1)
                have f2 := hrow8.ok (k * 3 + 2)
                have hS := hrow8.set k ⟨s0, s1, s2⟩
                rw [HNow.out] at hS
                have hkp := put3_kept W8 G (k * 3) ⟨s0, s1, s2⟩
                have hb8' := put3_below (w0 := wr) (keeps_trans Hb.out hW8) (g := G) (by rw [HG.out]; exact Nat.le_refl _) (k * 3) ⟨s0, s1, s2⟩
                unfold put3 at hkp hb8'
                have HE := Lib.hid (And.intro hS hb8')
                obtain ⟨y0, y1, y2, y3, y4⟩ := HX7.out.on hW8
                have hwG : w.heap.size < G := by have := HG.out; have := HX6.out.1; omega
                have hwG' : ¬ w.heap.size = G := fun e => by omega
                have hbG : ¬ b8 = G := fun e => by omega
                clear hq hlk' hrow8 hS hb8' hkp P0 P1 P2 P3 P4 P5 g1' hW8
                go_wp2_with fail
                obtain ⟨w9, hw9⟩ : ∃ w9, ((W8.setCell ⟨G, k * 3, none⟩ (.int .i64 s0)).setCell ⟨G, k * 3 + 1, none⟩ (.int .i64 s1)).setCell ⟨G, k * 3 + 2, none⟩ (.int .i64 s2) = w9 := ⟨_, rfl⟩
                rw [hw9] at HE ⊢
                clear hw9 y0 y1 y2 y3 y4 p0 p1 p2 f0 f1 f2
                have HB9 := Lib.hid (keeps_trans HB6.out HE.out.2)
                have HX9 := Lib.hid (HX6.out.on HE.out.2)
                refine (rpath_any HC.out Hlen.out (k : Int) w9 HB9.out).mono ?_
                rintro e wp ⟨vp, rfl, hI, hbp⟩
                obtain ⟨Ap, cp, rfl, hcp⟩ := ints_cell hI
                obtain ⟨L, hL⟩ : ∃ L, (Tree.path c (k : Int)).length = L := ⟨_, rfl⟩
                have HL := Lib.hid hL
                have hLpos : 0 < L := by rw [← hL]; exact path_pos Hkc.out
                have hLN : L ≤ 1000000 := by
                  rw [← hL]
                  unfold Tree.path
                  rw [List.length_reverse]
                  exact Nat.le_trans (Tree.up_length c (k : Int)) Hlen.out
                have hpi : ∀ i, i < L - 1 → ∃ n, (Tree.path c (k : Int))[i]? = some n ∧ n ∈ Tree.up c (k : Int) ∧ (n : Int) ≠ (k : Int) := fun i hi => path_inner Hkc.out (by rw [hL]; exact hi)
                rw [hL]
                have HPi := Lib.hid hpi
                have HCp := Lib.hid hcp
                have HRp := Lib.hid (HE.out.1.below hbp)
                have HXp := Lib.hid (HX9.out.on hbp)
                have HBp := Lib.hid (keeps_trans HB9.out hbp)
                clear hI hcp hL hpi hbp
                go_wp2_with fail
                go_loopw [13] (fun i wy => ∃ j2 : Nat, i = .int .i64 (j2 : Int) ∧ j2 ≤ L ∧ Below wp.heap.size wp wy) (fun i _ => L - (intOf i).toNat)
                case atStart => exact ⟨0, rfl, by omega, Below.refl _ _⟩
                case round =>
                  obtain ⟨j2, rfl, hj2, hby⟩ := hrel
                  rename World => wy
                  have hbwy := keeps_trans HBp.out hby
                  have hrowy := HRp.out.below hby
                  obtain ⟨y0, y1, y2, y3, y4⟩ := HXp.out.on hby
                  have Q0 := fun W' (h : Onward wy W') => h.cell y0 y1
                  have Q1 := fun W' (h : Onward wy W') => h.cell y0 y2
                  have Q2 := fun W' (h : Onward wy W') => h.cell y0 y3
                  have Q3 := fun W' (h : Onward wy W') => h.cell y0 y4
                  have HBy := Lib.hid hbwy
                  by_cases hjL : j2 < L - 1
                  · obtain ⟨n, hne, hnu, hnk⟩ := HPi.out j2 hjL
                    obtain ⟨gp, rfl, hgp0, hgp1, hgc⟩ := HCp.out j2 n hne
                    have hgy : wy.cell? ⟨gp, j2, none⟩ = some (.int .i64 (n : Int)) := (hby.cell (p := ⟨gp, j2, none⟩) hgp1).trans hgc
                    have hgl2 : gp < wy.heap.size := Nat.lt_of_lt_of_le hgp1 hby.size
                    have Q4 := fun W' (h : Onward wy W') => h.cell hgl2 hgy
                    have gS := rsum_any (HC.out.below hbwy) Hlen.out hrowy.sl (n : Int)
                    have gN := rnominal_any (HC.out.below hbwy) Hlen.out (n : Int)
                    have hfit := HSafe.out.1 n hnu hnk
                    have gF := VecW.grfits (Tree.sum c (n : Int) (Quo.now c xs (k : Int) ⟨n0, n1, n2⟩)) (Quo.nominal c (n : Int))
                    rw [hfit] at gF
                    generalize Tree.sum c (n : Int) (Quo.now c xs (k : Int) ⟨n0, n1, n2⟩) = a at *
                    generalize Quo.nominal c (n : Int) = d at *
                    obtain ⟨a0, a1, a2⟩ := a
                    obtain ⟨d0, d1, d2⟩ := d
                    have hjd : decide ((j2 : Int) < (L : Int) - 1) = true := by simp; omega
                    have hjl : j2 < L := by omega
                    have gS' : ∀ W, Onward wy W → Calls Try.prog 19 #[.agg #[.slice A N ca, .slice B M cb, .int .i64 half, .int .i64 age], .int .i64 (n : Int), .slice (some ⟨G, 0, none⟩) N N] W fun e W' => e = .returned (.agg #[.int .i64 a0, .int .i64 a1, .int .i64 a2]) ∧ Onward wy W' := gS.up (Below.refl _ _)
                    have gN' : ∀ W, Onward wy W → Calls Try.prog 20 #[.agg #[.slice A N ca, .slice B M cb, .int .i64 half, .int .i64 age], .int .i64 (n : Int)] W fun e W' => e = .returned (.agg #[.int .i64 d0, .int .i64 d1, .int .i64 d2]) ∧ Onward wy W' := gN.up (Below.refl _ _)
                    have gF' : Gives Try.prog 18 #[.agg #[.int .i64 a0, .int .i64 a1, .int .i64 a2], .agg #[.int .i64 d0, .int .i64 d1, .int .i64 d2]] (.bool true) := gF
                    have Hby := Lib.hid hby
                    clear gS gN gF hfit hne hnu hnk hgc hgy hrowy hbwy hby y1 y2 y3 y4 hjL
                    go_wp2_with fail
                    refine region_keep (by kernel_rfl) (by kernel_rfl) ?_
                    repeat (apply Go.Proofs.Ytbfpljnfalopdaa.L.wpKeep_yes; (focus rfl); (focus (intro W hW; go_simp; first | done | exact ⟨rfl, hW⟩ | rfl)); (focus (go_simp; first | done | rfl)))
                    (apply Go.Proofs.Ytbfpljnfalopdaa.L.wpKeep_yes; (focus rfl); (focus (intro W hW; go_simp; first | exact gS' W hW | exact ⟨hW, gS' W hW⟩)); (focus (go_simp; first | done | rfl)))
                    repeat (apply Go.Proofs.Ytbfpljnfalopdaa.L.wpKeep_yes; (focus rfl); (focus (intro W hW; go_simp; first | done | exact ⟨rfl, hW⟩ | rfl)); (focus (go_simp; first | done | rfl)))
                    (apply Go.Proofs.Ytbfpljnfalopdaa.L.wpKeep_yes; (focus rfl); (focus (intro W hW; go_simp; first | exact gN' W hW | exact ⟨hW, gN' W hW⟩)); (focus (go_simp; first | done | rfl)))
                    (apply Go.Proofs.Ytbfpljnfalopdaa.L.wpKeep_yes; (focus rfl); (focus (intro W hW; go_simp; first | exact Go.Proofs.Ytbfpljnfalopdaa.L.Gives.up gF' hW | exact ⟨hW, Go.Proofs.Ytbfpljnfalopdaa.L.Gives.up gF' hW⟩)); (focus (go_simp; first | done | rfl)))
                    repeat (apply Go.Proofs.Ytbfpljnfalopdaa.L.wpKeep_yes; (focus rfl); (focus (intro W hW; go_simp; first | done | exact ⟨rfl, hW⟩ | rfl)); (focus (go_simp; first | done | rfl)))
                    refine wpKeep_nil ?_
                    intro W10 hW10
                    have HE2 := Lib.hid (keeps_trans Hby.out hW10)
                    clear gS' gN' gF' Q0 Q1 Q2 Q3 Q4 hW10
                    go_wp2_with fail
                    go_roundw
                    case rel => exact ⟨j2 + 1, by go_num, by omega, HE2.out⟩
                    case measure => simp [intOf]; omega
                  · have hjd : decide ((j2 : Int) < (L : Int) - 1) = false := by simp; omega
                    have hkc := Hkc.out
                    obtain ⟨bA, oA, rfl, hbA, hcA⟩ := row_node HR.out hkc
                    have hno : Quo.node c k = c.nodes[k] := by unfold Quo.node; rw [List.getD_eq_getElem?_getD, List.getElem?_eq_getElem hkc, Option.getD_some]
                    have hfs := HSf.out
                    rw [hno] at hfs
                    have hQ : ∀ W, Onward wy W → NodeAt W bA (oA + k * 11) c.nodes[k] := fun W h => hcA W (keeps_trans hbwy h)
                    have g1 := VecW.gradd c.nodes[k].nominal c.nodes[k].borrow
                    generalize c.nodes[k] = x at *
                    obtain ⟨par, wt, ⟨m0, m1, m2⟩, ⟨b0, b1, b2⟩, ⟨l0, l1, l2⟩⟩ := x
                    have R2 := fun W h => (hQ W h).2.2.1
                    have R3 := fun W h => (hQ W h).2.2.2.1
                    have R4 := fun W h => (hQ W h).2.2.2.2.1
                    have R5 := fun W h => (hQ W h).2.2.2.2.2.1
                    have R6 := fun W h => (hQ W h).2.2.2.2.2.2.1
                    have R7 := fun W h => (hQ W h).2.2.2.2.2.2.2.1
                    simp only at R2 R3 R4 R5 R6 R7 hfs g1
                    obtain ⟨d, hd⟩ : ∃ d, Vec.add ⟨m0, m1, m2⟩ ⟨b0, b1, b2⟩ = d := ⟨_, rfl⟩
                    rw [hd] at g1 hfs
                    have g2 := VecW.grfits ⟨s0, s1, s2⟩ d
                    rw [hfs] at g2
                    obtain ⟨d0, d1, d2⟩ := d
                    have hnl : k < (Quo.now c xs (k : Int) ⟨n0, n1, n2⟩).length := by simp [Quo.now]; exact hkc
                    obtain ⟨-, -, hgl9, hva9⟩ := hrowy.at_ (i := k) hnl
                    have hnk : (Quo.now c xs (k : Int) ⟨n0, n1, n2⟩)[k]'hnl = ⟨s0, s1, s2⟩ := by
                      have h9 := HNow.out
                      have h8 : ((baseV xs N).set k ⟨s0, s1, s2⟩)[k]? = some ⟨s0, s1, s2⟩ := by rw [List.getElem?_set, if_pos rfl, if_pos (by rw [baseV_length]; exact hkN)]
                      rw [h9, List.getElem?_eq_getElem hnl] at h8
                      exact Option.some.inj h8
                    rw [hnk] at hva9
                    obtain ⟨p0, p1, p2⟩ := hva9
                    simp only at p0 p1 p2
                    have T0 := fun W' (h : Onward wy W') => h.cell hgl9 p0
                    have T1 := fun W' (h : Onward wy W') => h.cell hgl9 p1
                    have T2 := fun W' (h : Onward wy W') => h.cell hgl9 p2
                    have g1' : Gives Try.prog 16 #[.agg #[.int .i64 m0, .int .i64 m1, .int .i64 m2], .agg #[.int .i64 b0, .int .i64 b1, .int .i64 b2]] (.agg #[.int .i64 d0, .int .i64 d1, .int .i64 d2]) := g1
                    have g2' : Gives Try.prog 18 #[.agg #[.int .i64 s0, .int .i64 s1, .int .i64 s2], .agg #[.int .i64 d0, .int .i64 d1, .int .i64 d2]] (.bool true) := g2
                    have g3' := aw.out
                    clear hQ hcA hno hd g1 g2 hfs hnk p0 p1 p2 y1 y2 y3 y4 hrowy hjL hkc hby hnl
                    go_wp2_with fail
                    refine region_keep (by kernel_rfl) (by kernel_rfl) ?_
                    repeat (apply Go.Proofs.Ytbfpljnfalopdaa.L.wpKeep_yes; (focus rfl); (focus (intro W hW; go_simp; first | done | exact ⟨rfl, hW⟩ | rfl)); (focus (go_simp; first | done | rfl)))
                    (apply Go.Proofs.Ytbfpljnfalopdaa.L.wpKeep_yes; (focus rfl); (focus (intro W hW; go_simp; first | exact Go.Proofs.Ytbfpljnfalopdaa.L.Gives.up g1' hW | exact ⟨hW, Go.Proofs.Ytbfpljnfalopdaa.L.Gives.up g1' hW⟩)); (focus (go_simp; first | done | rfl)))
                    (apply Go.Proofs.Ytbfpljnfalopdaa.L.wpKeep_yes; (focus rfl); (focus (intro W hW; go_simp; first | exact Go.Proofs.Ytbfpljnfalopdaa.L.Gives.up g2' hW | exact ⟨hW, Go.Proofs.Ytbfpljnfalopdaa.L.Gives.up g2' hW⟩)); (focus (go_simp; first | done | rfl)))
                    repeat (apply Go.Proofs.Ytbfpljnfalopdaa.L.wpKeep_yes; (focus rfl); (focus (intro W hW; go_simp; first | done | exact ⟨rfl, hW⟩ | rfl)); (focus (go_simp; first | done | rfl)))
                    (apply Go.Proofs.Ytbfpljnfalopdaa.L.wpKeep_yes; (focus rfl); (focus (intro W hW; go_simp; first | exact Go.Proofs.Ytbfpljnfalopdaa.L.Gives.up g3' hW | exact ⟨hW, Go.Proofs.Ytbfpljnfalopdaa.L.Gives.up g3' hW⟩)); (focus (go_simp; first | done | rfl)))
                    repeat (apply Go.Proofs.Ytbfpljnfalopdaa.L.wpKeep_yes; (focus rfl); (focus (intro W hW; go_simp; first | done | exact ⟨rfl, hW⟩ | rfl)); (focus (go_simp; first | done | rfl)))
                    refine wpKeep_nil ?_
                    intro W10 hW10
                    have HE2 := Lib.hid (keeps_trans hbwy hW10)
                    clear g1' g2' g3' Q0 Q1 Q2 Q3 R2 R3 R4 R5 R6 R7 T0 T1 T2 hW10 hbwy
                    go_wp2_with fail
                    go_ret
                    exact ⟨rfl, HE2.out⟩
end Go.Proofs.Ytbfpljnfalopdaa.CfgW
