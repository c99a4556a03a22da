/-
  What others below a node do not lend: quota.Kept.
-/
import Derived.Test.YtbfpljnfalopdaaQuoNom
set_option linter.unusedVariables false
set_option linter.unusedSimpArgs false
namespace Go.Proofs.Ytbfpljnfalopdaa.CfgW
open Go Go.RowKit Go.Proofs.Ytbfpljnfalopdaa.L

/-- What the first k of those below keep. -/
def keptTo (c : Cfg.C) (used : List Vec.V) (n t : Int) (k : Nat) : Vec.V := (((Tree.below c n).take k).filter fun (s : Nat) => (s : Int) != t).foldl (fun v s => Vec.add v (Quo.own c used s)) Vec.zero
theorem keptTo_zero (c : Cfg.C) (used : List Vec.V) (n t : Int) : keptTo c used n t 0 = Vec.zero := rfl
theorem keptTo_all (c : Cfg.C) (used : List Vec.V) (n t : Int) (k : Nat) (h : (Tree.below c n).length ≤ k) : keptTo c used n t k = Quo.kept c used n t := by
  unfold keptTo Quo.kept
  rw [List.take_of_length_le h]
theorem keptTo_skip (c : Cfg.C) (used : List Vec.V) (n t : Int) (k s : Nat) (h : (Tree.below c n)[k]? = some s) (he : (s : Int) = t) : keptTo c used n t (k + 1) = keptTo c used n t k := by
  unfold keptTo
  obtain ⟨hk, e⟩ := List.getElem?_eq_some_iff.1 h
  rw [List.take_succ_eq_append_getElem hk, e, List.filter_append]
  have : ((s : Int) != t) = false := by simpa using he
  simp [this]
theorem keptTo_more (c : Cfg.C) (used : List Vec.V) (n t : Int) (k s : Nat) (h : (Tree.below c n)[k]? = some s) (he : (s : Int) ≠ t) : keptTo c used n t (k + 1) = Vec.add (keptTo c used n t k) (Quo.own c used s) := by
  unfold keptTo
  obtain ⟨hk, e⟩ := List.getElem?_eq_some_iff.1 h
  rw [List.take_succ_eq_append_getElem hk, e, List.filter_append]
  have : ((s : Int) != t) = true := by simpa using he
  simp [this]

set_option maxRecDepth 100000 in
set_option maxHeartbeats 1000000 in
theorem kept_any {w : World} {v va : Value} {c : Cfg.C} {xs : List Vec.V} (hc : CfgAt w v c) (hN : c.nodes.length ≤ 1000000) (ha : VSl w va xs) (n t : Int) : GivesAt Try.prog w 39 #[v, va, .int .i64 n, .int .i64 t] (Quo.kept c xs n t).val := by
  intro w1 hb1
  replace hc := hc.below hb1
  replace ha := ha.below hb1
  clear hb1
  have gB := Lib.hid (below_any hc hN n)
  have HA := Lib.hid ha
  obtain ⟨v1, v2, rfl, ⟨A, ca, rfl, hr, hl⟩, ⟨B, cb, rfl, hr2, hl2⟩⟩ := id hc
  obtain ⟨A5, c5, rfl, -, -⟩ := ha
  obtain ⟨U, hU⟩ : ∃ U, xs.length = U := ⟨_, rfl⟩
  obtain ⟨N, hNe⟩ : ∃ N, c.nodes.length = N := ⟨_, rfl⟩
  generalize c.hosts.length = M at *
  generalize c.half = half at *
  generalize c.age = age at *
  have HN := Lib.hid hNe
  have HR := Lib.hid hr
  rw [hU] at HA ⊢
  rw [hNe] at gB hN ⊢
  clear hc hr hl hr2 hl2 hU hNe
  have hw3 : Below w1.heap.size w1 (((w1.alloc (.cells #[.slice A N ca, .slice B M cb, .int .i64 half, .int .i64 age] 25)).alloc (.cells #[.int .i64 0, .int .i64 0, .int .i64 0] 29)).alloc (.cells #[.int .i64 0, .int .i64 0, .int .i64 0] 29)) := by (repeat' (first | (with_reducible exact Below.refl _ _) | (with_reducible assumption) | (with_reducible refine Below.alloc ?_ ?_ _) | (with_reducible refine Go.Proofs.Ytbfpljnfalopdaa.L.below_drewN ?_ _) | (with_reducible refine Below.drew ?_) | (with_reducible refine Below.setCell ?_ ?_ _) | (with_reducible refine Below.frame ?_ _) | go_size))
  have hbx : CBox (((w1.alloc (.cells #[.slice A N ca, .slice B M cb, .int .i64 half, .int .i64 age] 25)).alloc (.cells #[.int .i64 0, .int .i64 0, .int .i64 0] 29)).alloc (.cells #[.int .i64 0, .int .i64 0, .int .i64 0] 29)) w1.heap.size (.slice A N ca) (.slice B M cb) half age := (CBox.new w1 _ _ half age).on (((Below.refl _ _).alloc (Nat.le_refl _) _).alloc (by simp) _)
  have hv2 : VOwn (((w1.alloc (.cells #[.slice A N ca, .slice B M cb, .int .i64 half, .int .i64 age] 25)).alloc (.cells #[.int .i64 0, .int .i64 0, .int .i64 0] 29)).alloc (.cells #[.int .i64 0, .int .i64 0, .int .i64 0] 29)) (w1.heap.size + 1) Vec.zero := by
    have h := VOwn.new (w1.alloc (.cells #[.slice A N ca, .slice B M cb, .int .i64 half, .int .i64 age] 25)) Vec.zero
    simp only [World.size_alloc] at h
    exact Blk.alloc h _
  have hv3 : VOwn (((w1.alloc (.cells #[.slice A N ca, .slice B M cb, .int .i64 half, .int .i64 age] 25)).alloc (.cells #[.int .i64 0, .int .i64 0, .int .i64 0] 29)).alloc (.cells #[.int .i64 0, .int .i64 0, .int .i64 0] 29)) (w1.heap.size + 1 + 1) Vec.zero := by
    have h := VOwn.new ((w1.alloc (.cells #[.slice A N ca, .slice B M cb, .int .i64 half, .int .i64 age] 25)).alloc (.cells #[.int .i64 0, .int .i64 0, .int .i64 0] 29)) Vec.zero
    simp only [World.size_alloc] at h
    exact h
  obtain ⟨y0, y1, y2, y3, y4⟩ := id hbx
  have Hw3 := Lib.hid hw3
  have Hbx := Lib.hid hbx
  have Hv2 := Lib.hid hv2
  have Hv3 := Lib.hid hv3
  clear hw3 hbx hv2 hv3
  go_enter Try.func39, Try.ntmps39
  go_wp2_with fail
  generalize ((w1.alloc (.cells #[.slice A N ca, .slice B M cb, .int .i64 half, .int .i64 age] 25)).alloc (.cells #[.int .i64 0, .int .i64 0, .int .i64 0] 29)).alloc (.cells #[.int .i64 0, .int .i64 0, .int .i64 0] 29) = w3 at *
  refine (gB.out w3 Hw3.out).mono ?_
  rintro e wl ⟨vl, rfl, hI, hbl⟩
  obtain ⟨A2, c2, rfl, hcl⟩ := ints_cell hI
  have HCl := Lib.hid hcl
  have HW := Lib.hid (keeps_trans Hw3.out hbl)
  have HX := Lib.hid (Hbx.out.on hbl)
  have HV2 := Lib.hid (Blk.below Hv2.out hbl (Blk.lt Hv2.out))
  have HV3 := Lib.hid (Blk.below Hv3.out hbl (Blk.lt Hv3.out))
  have hlt3 : w3.heap.size ≤ wl.heap.size := hbl.size
  have hlt2 := Blk.lt Hv3.out
  obtain ⟨L, hL⟩ : ∃ L, (Tree.below c n).length = L := ⟨_, rfl⟩
  have HL := Lib.hid hL
  have hLN : L ≤ 1000000 := by
    have h1 := List.length_filter_le (fun t => Tree.on c n t) (Cfg.leaves c)
    have h2 := leavesTo_le c c.nodes.length
    have h3 : (Cfg.leaves c).length ≤ c.nodes.length := h2
    have h4 : (Tree.below c n).length ≤ (Cfg.leaves c).length := h1
    rw [hL, HN.out] at *
    omega
  rw [hL]
  clear hI hcl hbl gB Hv2 Hv3 Hbx y0 y1 y2 y3 y4 hL
  go_wp2_with fail
  go_loopw [20] (fun i wr => ∃ k : Nat, i = .int .i64 (k : Int) ∧ k ≤ L ∧ Below w1.heap.size w1 wr ∧ CBox wr w1.heap.size (.slice A N ca) (.slice B M cb) half age ∧ VOwn wr (w1.heap.size + 1) Vec.zero ∧ VOwn wr (w1.heap.size + 1 + 1) (keptTo c xs n t k) ∧ Kept (fun i => i = w1.heap.size + 1 + 1) wl wr) (fun i _ => L - (intOf i).toNat)
  case atStart => exact ⟨0, rfl, by omega, HW.out, HX.out, HV2.out, by rw [keptTo_zero]; exact HV3.out, Kept.refl _ _⟩
  case round =>
    obtain ⟨k, rfl, hk, hb, hx, hv2, hv3, hkw⟩ := hrel
    rename World => wr
    by_cases hkL : k < L
    · have hkl : k < (Tree.below c n).length := by rw [HL.out]; exact hkL
      obtain ⟨s, hs⟩ : ∃ s, (Tree.below c n)[k] = s := ⟨_, rfl⟩
      have hse : (Tree.below c n)[k]? = some s := by rw [List.getElem?_eq_getElem hkl, hs]
      obtain ⟨g, hA2, hg0, hg1, hcell⟩ := HCl.out k s hse
      have hgw : wr.cell? ⟨g, k, none⟩ = some (.int .i64 (s : Int)) := (hkw.cell (p := ⟨g, k, none⟩) hg1 (fun h => by have h' : g = w1.heap.size + 1 + 1 := h; omega)).trans hcell
      have hsn := (Quo.below_lt (c := c) (n := n) (s := s) (by rw [← hs]; exact List.getElem_mem _)).2
      obtain ⟨x0, x1, x2, x3, x4⟩ := id hx
      subst hA2
      by_cases hst : (s : Int) = t
      · have hkt := keptTo_skip c xs n t k s hse hst
        have te : ((s : Int) == t) = true := by simpa using hst
        have HE := Lib.hid (And.intro hb (And.intro hx (And.intro hv2 (And.intro hv3 hkw))))
        clear hb hx hv2 hv3 hkw hcell hs hse hst hkl
        go_wp2_with fail
        go_roundw
        case rel => exact ⟨k + 1, by go_num, by omega, HE.out.1, HE.out.2.1, HE.out.2.2.1, by rw [hkt]; exact HE.out.2.2.2.1, HE.out.2.2.2.2⟩
        case measure => simp [intOf]; omega
      · have hkt := Lib.hid (keptTo_more c xs n t k s hse hst)
        have te : ((s : Int) == t) = false := by simpa using hst
        obtain ⟨bA, oA, rfl, hbA, hcA⟩ := row_node HR.out hsn
        have hnd := hcA wr hb
        have hno : Quo.node c s = c.nodes[s] := by unfold Quo.node; rw [List.getD_eq_getElem?_getD, List.getElem?_eq_getElem hsn, Option.getD_some]
        have how : Quo.own c xs s = Quo.pos (Vec.sub (Vec.sub c.nodes[s].nominal c.nodes[s].lend) (Tree.at_ xs (s : Int))) := by unfold Quo.own; rw [hno]
        generalize c.nodes[s] = x at *
        obtain ⟨q0, q1, q2, q3, q4, q5, q6, q7, q8, q9, q10⟩ := hnd
        have hbA2 : bA < wr.heap.size := Nat.lt_of_lt_of_le hbA hb.size
        have hne : ∀ i, ¬ bA = wr.heap.size + i := fun i e => by omega
        have hne0 : ¬ bA = wr.heap.size := fun e => by omega
        have hsn2 : s < N := by rw [← HN.out]; exact hsn
        obtain ⟨par, wt, ⟨n0, n1, n2⟩, ⟨b0, b1, b2⟩, ⟨l0, l1, l2⟩⟩ := x
        simp only at q0 q1 q2 q3 q4 q5 q6 q7 q8 q9 q10 how
        obtain ⟨p, hp⟩ : ∃ p, Vec.sub ⟨n0, n1, n2⟩ ⟨l0, l1, l2⟩ = p := ⟨_, rfl⟩
        obtain ⟨a, haa⟩ : ∃ a, Tree.at_ xs (s : Int) = a := ⟨_, rfl⟩
        obtain ⟨r, hr⟩ : ∃ r, Vec.sub p a = r := ⟨_, rfl⟩
        rw [hp, haa, hr] at how
        have HOw := Lib.hid how
        have g1 := VecW.gsub ⟨n0, n1, n2⟩ ⟨l0, l1, l2⟩
        have g2 := at_any (HA.out.below hb) (s : Int)
        have g3 := VecW.gsub p a
        rw [hp] at g1
        rw [haa] at g2
        rw [hr] at g3
        obtain ⟨p0, p1, p2⟩ := p
        obtain ⟨a0, a1, a2⟩ := a
        obtain ⟨r0, r1, r2⟩ := r
        have G1 : Hid (Gives Try.prog 61 #[.agg #[.int .i64 n0, .int .i64 n1, .int .i64 n2], .agg #[.int .i64 l0, .int .i64 l1, .int .i64 l2]] (.agg #[.int .i64 p0, .int .i64 p1, .int .i64 p2])) := Lib.hid g1
        have G2 : Hid (GivesAt Try.prog wr 44 #[.slice A5 U c5, .int .i64 (s : Int)] (.agg #[.int .i64 a0, .int .i64 a1, .int .i64 a2])) := Lib.hid g2
        have G3 : Hid (Gives Try.prog 61 #[.agg #[.int .i64 p0, .int .i64 p1, .int .i64 p2], .agg #[.int .i64 a0, .int .i64 a1, .int .i64 a2]] (.agg #[.int .i64 r0, .int .i64 r1, .int .i64 r2])) := Lib.hid g3
        have hsnd : decide (s < N) = true := by simpa using hsn2
        have HE := Lib.hid (And.intro hb (And.intro hx (And.intro hv2 (And.intro hv3 hkw))))
        clear hb hx hv2 hv3 hkw hcell hs hse hst hkl hcA hno how hp haa hr g1 g2 g3 hsn
        go_wp2_with fail
        refine (G1.out _).mono ?_
        rintro e w5 ⟨rfl, hb5⟩
        have hb5' : Below wr.heap.size wr w5 := keeps_trans ((Below.refl _ _).alloc (Nat.le_refl _) _) hb5
        have HB5 := Lib.hid hb5'
        clear hb5 hb5' hgw x0 x1 x2 x3 x4 q0 q1 q2 q3 q4 q5 q6 q7 q8 q9 q10
        go_wp2_with fail
        refine (G2.out _ HB5.out).mono ?_
        rintro e w6 ⟨rfl, hb6⟩
        have HB6 := Lib.hid (keeps_trans HB5.out hb6)
        clear hb6
        go_wp2_with fail
        refine (G3.out _).mono ?_
        rintro e w7 ⟨rfl, hb7⟩
        have HB7 := Lib.hid (keeps_trans HB6.out hb7)
        have hsz7 := (keeps_trans HB6.out hb7).size
        clear hb7
        have hv8 := VOwn.new w7 ⟨r0, r1, r2⟩
        have hk8 : Below w7.heap.size w7 (w7.alloc (.cells #[.int .i64 r0, .int .i64 r1, .int .i64 r2] 29)) := (Below.refl _ _).alloc (Nat.le_refl _) _
        obtain ⟨bo, hbo⟩ : ∃ bo, w7.heap.size = bo := ⟨_, rfl⟩
        have hv8' : VOwn (w7.alloc (.cells #[.int .i64 r0, .int .i64 r1, .int .i64 r2] 29)) bo ⟨r0, r1, r2⟩ := hbo ▸ hv8
        have HB8 := Lib.hid (keeps_trans HB7.out hk8)
        have hbo8 : wr.heap.size ≤ bo := by omega
        have HBo := Lib.hid hbo
        clear hv8 hk8 hsz7 hbo
        go_wp2_with fail
        rw [HBo.out]
        generalize w7.alloc (.cells #[.int .i64 r0, .int .i64 r1, .int .i64 r2] 29) = w8 at *
        obtain ⟨⟨e0, e1, e2⟩, e3, e4⟩ := hv8'.cells
        have HV8 := Lib.hid hv8'
        clear hv8'
        have hix := VecW.idx r0 r1 r2
        obtain ⟨i0, i1, i2⟩ := hix
        have HV9 := Lib.hid (And.intro (VOwn.store HV8.out ⟨max r0 0, max r1 0, max r2 0⟩) (store3_kept w8 bo (.int .i64 (max r0 0)) (.int .i64 (max r1 0)) (.int .i64 (max r2 0))))
        simp only [Nat.zero_add] at e1 e2
        have f0 := e3 0
        have f1 := e3 1
        have f2 := e3 2
        clear e3
        obtain ⟨hb, hx, hv2, hv3, hkw⟩ := HE.out
        obtain ⟨y, hy⟩ : ∃ y, keptTo c xs n t k = y := ⟨_, rfl⟩
        obtain ⟨z, hz⟩ : ∃ z, keptTo c xs n t (k + 1) = z := ⟨_, rfl⟩
        have hyz : Vec.add y ⟨max r0 0, max r1 0, max r2 0⟩ = z := by rw [← hz, hkt.out, hy, HOw.out]; rfl
        have g4 := VecW.gadd y ⟨max r0 0, max r1 0, max r2 0⟩
        rw [hyz] at g4
        rw [hy] at hv3
        have HZ := Lib.hid hz
        obtain ⟨y0, y1, y2⟩ := y
        obtain ⟨z0, z1, z2⟩ := z
        have G4 : Hid (Gives Try.prog 43 #[.agg #[.int .i64 y0, .int .i64 y1, .int .i64 y2], .agg #[.int .i64 (max r0 0), .int .i64 (max r1 0), .int .i64 (max r2 0)]] (.agg #[.int .i64 z0, .int .i64 z1, .int .i64 z2])) := Lib.hid g4
        have hv38 := Blk.below hv3 HB8.out (Blk.lt hv3)
        have hltv : w1.heap.size + 1 + 1 < wr.heap.size := Blk.lt hv3
        have HV38 := Lib.hid hv38
        obtain ⟨⟨d0, d1, d2⟩, -, -⟩ := VOwn.cells hv38
        simp only [Nat.zero_add] at d1 d2
        have hnb : ¬ w1.heap.size + 1 + 1 = bo := fun e => by omega
        clear hb hx hv2 hv3 hkw hy hz hyz g4 hv38
        refine wp_loop_rounds 4 ?_
        rw [rounds_succ]
        go_wp2_with fail
        rw [rounds_succ]
        go_wp2_with fail
        rw [rounds_succ]
        go_wp2_with fail
        rw [rounds_succ]
        go_wp2_with fail
        refine (G4.out _).mono ?_
        rintro e w11 ⟨rfl, hb11⟩
        generalize ((w8.setCell ⟨bo, 0, none⟩ (.int .i64 (max r0 0))).setCell ⟨bo, 1, none⟩ (.int .i64 (max r1 0))).setCell ⟨bo, 2, none⟩ (.int .i64 (max r2 0)) = w10 at *
        obtain ⟨hv10, hk10⟩ := HV9.out
        have hb10 : Below wr.heap.size wr w10 := HB8.out.trans (hk10.below HB8.out.size (fun i (e : i = bo) => by omega))
        have hbr := keeps_trans hb10 hb11
        obtain ⟨hb, hx, hv2, hv3, hkw⟩ := HE.out
        have hb' : Below w1.heap.size w1 w11 := keeps_trans hb hbr
        have hv3' := Blk.below hv3 hbr (Blk.lt hv3)
        have hv2' := Blk.below hv2 hbr (Blk.lt hv2)
        obtain ⟨⟨h0, h1, h2⟩, h3, h4⟩ := VOwn.cells hv3'
        have f3 := h3 0
        have f4 := h3 1
        have f5 := h3 2
        simp only [Nat.zero_add] at h1 h2
        have hks := store3_kept w11 (w1.heap.size + 1 + 1) (.int .i64 z0) (.int .i64 z1) (.int .i64 z2)
        have HF := Lib.hid (And.intro (hb'.trans (hks.below hb'.size (fun i (e : i = w1.heap.size + 1 + 1) => by omega))) (And.intro ((hx.on hbr).kept hks (by omega)) (And.intro (Blk.kept hv2' hks (by omega)) (And.intro (VOwn.store hv3' ⟨z0, z1, z2⟩) (hkw.trans' ((Kept.of_below (F := fun i => i = w1.heap.size + 1 + 1) hbr).trans hks) (fun i hi e => e))))))
        clear hb11 hv10 hk10 hb10 hbr hb hx hv2 hv3 hkw hb' hv3' hv2' h3 h4 hks e0 e1 e2 e4 f0 f1 f2 i0 i1 i2 d0 d1 d2 hnb
        go_wp2_with fail
        go_roundw
        case rel => exact ⟨k + 1, by go_num, by omega, HF.out.1, HF.out.2.1, HF.out.2.2.1, by rw [HZ.out]; exact HF.out.2.2.2.1, HF.out.2.2.2.2⟩
        case measure => simp [intOf]; omega
    · have hall := keptTo_all c xs n t k (by rw [HL.out]; omega)
      rw [hall] at hv3
      obtain ⟨r, hre⟩ : ∃ r, Quo.kept c xs n t = r := ⟨_, rfl⟩
      rw [hre] at hv3
      have HRe := Lib.hid hre
      obtain ⟨r0, r1, r2⟩ := r
      obtain ⟨⟨d0, d1, d2⟩, -, -⟩ := VOwn.cells hv3
      obtain ⟨⟨p0, p1, p2⟩, p3, p4⟩ := VOwn.cells hv2
      simp only [Nat.zero_add] at d1 d2 p1 p2
      have f3 := p3 0
      have f4 := p3 1
      have f5 := p3 2
      have hkd : decide (k < L) = false := by simpa using hkL
      have HE := Lib.hid (And.intro (VOwn.store hv2 ⟨r0, r1, r2⟩) (And.intro (store3_kept wr (w1.heap.size + 1) (.int .i64 r0) (.int .i64 r1) (.int .i64 r2)) hb))
      clear hall hv3 hv2 hb hx hkw hkL hre p3
      go_wp2_with fail
      rw [HRe.out]
      generalize ((wr.setCell ⟨w1.heap.size + 1, 0, none⟩ (.int .i64 r0)).setCell ⟨w1.heap.size + 1, 1, none⟩ (.int .i64 r1)).setCell ⟨w1.heap.size + 1, 2, none⟩ (.int .i64 r2) = Ws at *
      obtain ⟨hst, hsk, hb⟩ := HE.out
      obtain ⟨⟨x0, x1, x2⟩, -, -⟩ := VOwn.cells hst
      simp only [Nat.zero_add] at x1 x2
      refine bodyPost_ret (v := .agg #[.int .i64 r0, .int .i64 r1, .int .i64 r2]) (by simp [results, Try.results39, go_sem, x0, x1, x2]) rfl ⟨rfl, ?_⟩
      exact hb.trans (hsk.below hb.size (fun i (e : i = w1.heap.size + 1) => by omega))
end Go.Proofs.Ytbfpljnfalopdaa.CfgW
