/-
  Does a tenant stay within its own, does it borrow: quota.Within and quota.Borrows.
-/
import Derived.Test.YtbfpljnfalopdaaQuoMay
set_option linter.unusedVariables false
set_option linter.unusedSimpArgs false
namespace Go.Proofs.Ytbfpljnfalopdaa.CfgW
open Go Go.RowKit Go.Proofs.Ytbfpljnfalopdaa.L

set_option maxRecDepth 100000 in
set_option maxHeartbeats 1000000 in
theorem within_any {w : World} {v va : Value} {c : Cfg.C} {xs : List Vec.V} (hc : CfgAt w v c) (ha : VSl w va xs) (t : Int) (need : Vec.V) : GivesAt Try.prog w 21 #[v, va, .int .i64 t, need.val] (.bool (Quo.within c xs t need)) := by
  intro w1 hb1
  replace hc := hc.below hb1
  replace ha := ha.below hb1
  clear hb1
  have gL := leaf_any hc t
  have gA := at_any ha t
  obtain ⟨v1, v2, rfl, ⟨A, ca, rfl, hrA, hlA⟩, -⟩ := id hc
  obtain ⟨A5, c5, rfl, -, -⟩ := id ha
  obtain ⟨n0, n1, n2⟩ := need
  generalize xs.length = U at *
  generalize hhalf : c.half = half at *
  generalize hage : c.age = age at *
  have hbx : CBox ((w1.alloc (.cells #[.slice A c.nodes.length ca, v2, .int .i64 half, .int .i64 age] 25)).alloc (.cells #[.int .i64 n0, .int .i64 n1, .int .i64 n2] 29)) w1.heap.size (.slice A c.nodes.length ca) v2 half age := (CBox.new w1 _ v2 half age).on ((Below.refl _ _).alloc (Nat.le_refl _) _)
  have hbn : VBox3 ((w1.alloc (.cells #[.slice A c.nodes.length ca, v2, .int .i64 half, .int .i64 age] 25)).alloc (.cells #[.int .i64 n0, .int .i64 n1, .int .i64 n2] 29)) (w1.heap.size + 1) 0 ⟨n0, n1, n2⟩ := by refine ⟨by simp, ?_, ?_, ?_⟩ <;> simp [go_sem]
  have hbw : Below w1.heap.size w1 ((w1.alloc (.cells #[.slice A c.nodes.length ca, v2, .int .i64 half, .int .i64 age] 25)).alloc (.cells #[.int .i64 n0, .int .i64 n1, .int .i64 n2] 29)) := by (repeat' (first | (with_reducible exact Below.refl _ _) | (with_reducible assumption) | (with_reducible refine Below.alloc ?_ ?_ _) | (with_reducible refine Go.Proofs.Ytbfpljnfalopdaa.L.below_drewN ?_ _) | (with_reducible refine Below.drew ?_) | (with_reducible refine Below.setCell ?_ ?_ _) | (with_reducible refine Below.frame ?_ _) | go_size))
  have HX := Lib.hid (And.intro hbx (And.intro hbn hbw))
  have GL := Lib.hid gL
  have GA := Lib.hid gA
  have HR := Lib.hid hrA
  obtain ⟨N, hNe⟩ : ∃ N, c.nodes.length = N := ⟨_, rfl⟩
  have HN := Lib.hid hNe
  rw [hNe] at HX GL ⊢
  clear hbx hbn hbw gL gA hc ha hrA hlA hhalf hage hNe
  show Calls Try.prog 21 #[.agg #[.slice A N ca, v2, .int .i64 half, .int .i64 age], .slice A5 U c5, .int .i64 t, .agg #[.int .i64 n0, .int .i64 n1, .int .i64 n2]] w1 _
  go_enter Try.func21, Try.ntmps21
  go_wp2_with fail
  generalize (w1.alloc (.cells #[.slice A N ca, v2, .int .i64 half, .int .i64 age] 25)).alloc (.cells #[.int .i64 n0, .int .i64 n1, .int .i64 n2] 29) = wq at *
  obtain ⟨⟨y0, y1, y2, y3, y4⟩, ⟨z0, z1, z2, z3⟩, hbw⟩ := HX.out
  simp only [Nat.zero_add] at z1 z2 z3
  have P0 := fun W' (k : Onward wq W') => k.cell y0 y1
  have P1 := fun W' (k : Onward wq W') => k.cell y0 y2
  have P2 := fun W' (k : Onward wq W') => k.cell y0 y3
  have P3 := fun W' (k : Onward wq W') => k.cell y0 y4
  have P4 := fun W' (k : Onward wq W') => k.cell z0 z1
  have P5 := fun W' (k : Onward wq W') => k.cell z0 z2
  have P6 := fun W' (k : Onward wq W') => k.cell z0 z3
  have HBW := Lib.hid hbw
  by_cases hlf : Cfg.leaf c t = true
  · have hlt := Tree.leaf_lt hlf
    have hkt : t.toNat < c.nodes.length := by omega
    have hte : ((t.toNat : Nat) : Int) = t := by omega
    obtain ⟨bA, oA, rfl, hbA, hcA⟩ := row_node HR.out hkt
    have hno : Quo.node c t.toNat = c.nodes[t.toNat] := by unfold Quo.node; rw [List.getD_eq_getElem?_getD, List.getElem?_eq_getElem hkt, Option.getD_some]
    have hwt : Quo.within c xs t ⟨n0, n1, n2⟩ = Vec.fits (Vec.add (Tree.at_ xs t) ⟨n0, n1, n2⟩) c.nodes[t.toNat].nominal := by unfold Quo.within; rw [hlf, hno, Bool.true_and]
    obtain ⟨p, hp⟩ : ∃ p, Tree.at_ xs t = p := ⟨_, rfl⟩
    obtain ⟨a, haa⟩ : ∃ a, Vec.add p ⟨n0, n1, n2⟩ = a := ⟨_, rfl⟩
    have g1 := VecW.gadd p ⟨n0, n1, n2⟩
    have g2 := VecW.gfits a c.nodes[t.toNat].nominal
    have hQ : ∀ W, Onward wq W → NodeAt W bA (oA + t.toNat * 11) c.nodes[t.toNat] := fun W k => hcA W (keeps_trans hbw k)
    generalize c.nodes[t.toNat] = x at *
    obtain ⟨par, wt, ⟨m0, m1, m2⟩, ⟨b0, b1, b2⟩, ⟨l0, l1, l2⟩⟩ := x
    have Q2 := fun W k => (hQ W k).2.2.1
    have Q3 := fun W k => (hQ W k).2.2.2.1
    have Q4 := fun W k => (hQ W k).2.2.2.2.1
    simp only at Q2 Q3 Q4 hwt g2
    obtain ⟨k, rfl⟩ : ∃ k : Nat, t = (k : Int) := ⟨t.toNat, hte.symm⟩
    rw [Int.toNat_natCast] at *
    have hkN : k < N := by rw [← HN.out]; exact hkt
    have gl := (GL.out.val (by rw [hlf])).up hbw
    have ga := (GA.out.val (by rw [hp])).up hbw
    rw [haa] at g1
    rw [hp, haa] at hwt
    obtain ⟨r, hr⟩ : ∃ r, Vec.fits a ⟨m0, m1, m2⟩ = r := ⟨_, rfl⟩
    rw [hr] at g2 hwt
    obtain ⟨p0, p1, p2⟩ := p
    obtain ⟨a0, a1, a2⟩ := a
    have ga' : ∀ W, Onward wq W → Calls Try.prog 44 #[.slice A5 U c5, .int .i64 (k : Int)] W fun e W' => e = .returned (.agg #[.int .i64 p0, .int .i64 p1, .int .i64 p2]) ∧ Onward wq W' := ga
    have g1' : Gives Try.prog 43 #[.agg #[.int .i64 p0, .int .i64 p1, .int .i64 p2], .agg #[.int .i64 n0, .int .i64 n1, .int .i64 n2]] (.agg #[.int .i64 a0, .int .i64 a1, .int .i64 a2]) := g1
    have g2' : Gives Try.prog 42 #[.agg #[.int .i64 a0, .int .i64 a1, .int .i64 a2], .agg #[.int .i64 m0, .int .i64 m1, .int .i64 m2]] (.bool r) := g2
    have hkd : decide (k < N) = true := by simpa using hkN
    have HWt := Lib.hid hwt
    clear ga g1 g2 hQ hcA hno hp haa hr hlt hte hkt hwt hlf y1 y2 y3 y4 z1 z2 z3
    refine region_keep (by kernel_rfl) (by kernel_rfl) ?_
    repeat (apply Go.Proofs.Ytbfpljnfalopdaa.L.wpKeep_yes; (focus rfl); (focus (intro W hW; go_simp; first | done | exact ⟨rfl, hW⟩ | rfl)); (focus (go_simp; first | done | rfl)))
    (apply Go.Proofs.Ytbfpljnfalopdaa.L.wpKeep_yes; (focus rfl); (focus (intro W hW; go_simp; first | exact gl W hW | exact ⟨hW, gl W hW⟩)); (focus (go_simp; first | done | rfl)))
    repeat (apply Go.Proofs.Ytbfpljnfalopdaa.L.wpKeep_yes; (focus rfl); (focus (intro W hW; go_simp; first | done | exact ⟨rfl, hW⟩ | rfl)); (focus (go_simp; first | done | rfl)))
    (apply Go.Proofs.Ytbfpljnfalopdaa.L.wpKeep_yes; (focus rfl); (focus (intro W hW; go_simp; first | exact ga' W hW | exact ⟨hW, ga' W hW⟩)); (focus (go_simp; first | done | rfl)))
    repeat (apply Go.Proofs.Ytbfpljnfalopdaa.L.wpKeep_yes; (focus rfl); (focus (intro W hW; go_simp; first | done | exact ⟨rfl, hW⟩ | rfl)); (focus (go_simp; first | done | rfl)))
    (apply Go.Proofs.Ytbfpljnfalopdaa.L.wpKeep_yes; (focus rfl); (focus (intro W hW; go_simp; first | exact Go.Proofs.Ytbfpljnfalopdaa.L.Gives.up g1' hW | exact ⟨hW, Go.Proofs.Ytbfpljnfalopdaa.L.Gives.up g1' hW⟩)); (focus (go_simp; first | done | rfl)))
    repeat (apply Go.Proofs.Ytbfpljnfalopdaa.L.wpKeep_yes; (focus rfl); (focus (intro W hW; go_simp; first | done | exact ⟨rfl, hW⟩ | rfl)); (focus (go_simp; first | done | rfl)))
    (apply Go.Proofs.Ytbfpljnfalopdaa.L.wpKeep_yes; (focus rfl); (focus (intro W hW; go_simp; first | exact Go.Proofs.Ytbfpljnfalopdaa.L.Gives.up g2' hW | exact ⟨hW, Go.Proofs.Ytbfpljnfalopdaa.L.Gives.up g2' hW⟩)); (focus (go_simp; first | done | rfl)))
    (apply Go.Proofs.Ytbfpljnfalopdaa.L.wpKeep_yes; (focus rfl); (focus (intro W hW; go_simp; first | done | exact ⟨rfl, hW⟩ | rfl)); (focus (go_simp; first | done | rfl)))
    (apply Go.Proofs.Ytbfpljnfalopdaa.L.wpKeep_yes; (focus rfl); (focus (intro W hW; go_simp; first | done | exact ⟨rfl, hW⟩ | rfl)); (focus (go_simp; first | done | rfl)))
    refine wpKeep_nil ?_
    intro W hW
    have HE := Lib.hid (keeps_trans hbw hW)
    clear gl ga' g1' g2' P0 P1 P2 P3 P4 P5 P6 Q2 Q3 Q4 hW hbw
    go_wp2_with fail
    go_ret
    exact ⟨by rw [HWt.out]; rfl, HE.out⟩
  · have hlf' : Cfg.leaf c t = false := by simpa using hlf
    have hwt : Quo.within c xs t ⟨n0, n1, n2⟩ = false := by unfold Quo.within; rw [hlf', Bool.false_and]
    have gl : ∀ W, Onward wq W → Calls Try.prog 34 #[.agg #[.slice A N ca, v2, .int .i64 half, .int .i64 age], .int .i64 t] W fun e W' => e = .returned (.bool false) ∧ Onward wq W' := (GL.out.val (v' := .bool false) (by rw [hlf'])).up hbw
    have HWt := Lib.hid hwt
    clear hlf hlf' hwt y1 y2 y3 y4 z1 z2 z3
    refine region_keep (by kernel_rfl) (by kernel_rfl) ?_
    repeat (apply Go.Proofs.Ytbfpljnfalopdaa.L.wpKeep_yes; (focus rfl); (focus (intro W hW; go_simp; first | done | exact ⟨rfl, hW⟩ | rfl)); (focus (go_simp; first | done | rfl)))
    (apply Go.Proofs.Ytbfpljnfalopdaa.L.wpKeep_yes; (focus rfl); (focus (intro W hW; go_simp; first | exact gl W hW | exact ⟨hW, gl W hW⟩)); (focus (go_simp; first | done | rfl)))
    (apply Go.Proofs.Ytbfpljnfalopdaa.L.wpKeep_yes; (focus rfl); (focus (intro W hW; go_simp; first | done | exact ⟨rfl, hW⟩ | rfl)); (focus (go_simp; first | done | rfl)))
    (apply Go.Proofs.Ytbfpljnfalopdaa.L.wpKeep_no; (focus rfl); (focus (go_simp; first | done | rfl)))
    (apply Go.Proofs.Ytbfpljnfalopdaa.L.wpKeep_no; (focus rfl); (focus (go_simp; first | done | rfl)))
    (apply Go.Proofs.Ytbfpljnfalopdaa.L.wpKeep_no; (focus rfl); (focus (go_simp; first | done | rfl)))
    (apply Go.Proofs.Ytbfpljnfalopdaa.L.wpKeep_no; (focus rfl); (focus (go_simp; first | done | rfl)))
    (apply Go.Proofs.Ytbfpljnfalopdaa.L.wpKeep_no; (focus rfl); (focus (go_simp; first | done | rfl)))
    (apply Go.Proofs.Ytbfpljnfalopdaa.L.wpKeep_no; (focus rfl); (focus (go_simp; first | done | rfl)))
    (apply Go.Proofs.Ytbfpljnfalopdaa.L.wpKeep_no; (focus rfl); (focus (go_simp; first | done | rfl)))
    (apply Go.Proofs.Ytbfpljnfalopdaa.L.wpKeep_no; (focus rfl); (focus (go_simp; first | done | rfl)))
    (apply Go.Proofs.Ytbfpljnfalopdaa.L.wpKeep_no; (focus rfl); (focus (go_simp; first | done | rfl)))
    (apply Go.Proofs.Ytbfpljnfalopdaa.L.wpKeep_no; (focus rfl); (focus (go_simp; first | done | rfl)))
    (apply Go.Proofs.Ytbfpljnfalopdaa.L.wpKeep_no; (focus rfl); (focus (go_simp; first | done | rfl)))
    (apply Go.Proofs.Ytbfpljnfalopdaa.L.wpKeep_no; (focus rfl); (focus (go_simp; first | done | rfl)))
    (apply Go.Proofs.Ytbfpljnfalopdaa.L.wpKeep_yes; (focus rfl); (focus (intro W hW; go_simp; first | done | exact ⟨rfl, hW⟩ | rfl)); (focus (go_simp; first | done | rfl)))
    (apply Go.Proofs.Ytbfpljnfalopdaa.L.wpKeep_yes; (focus rfl); (focus (intro W hW; go_simp; first | done | exact ⟨rfl, hW⟩ | rfl)); (focus (go_simp; first | done | rfl)))
    refine wpKeep_nil ?_
    intro W hW
    have HE := Lib.hid (keeps_trans hbw hW)
    clear gl P0 P1 P2 P3 P4 P5 P6 hW hbw
    go_wp2_with fail
    go_ret
    exact ⟨by rw [HWt.out]; rfl, HE.out⟩
set_option maxRecDepth 100000 in
set_option maxHeartbeats 1000000 in
theorem borrows_any {w : World} {v va : Value} {c : Cfg.C} {xs : List Vec.V} (hc : CfgAt w v c) (ha : VSl w va xs) (t : Int) : GivesAt Try.prog w 23 #[v, va, .int .i64 t] (.bool (Quo.borrows c xs t)) := by
  intro w1 hb1
  replace hc := hc.below hb1
  replace ha := ha.below hb1
  clear hb1
  have gL := leaf_any hc t
  have gA := at_any ha t
  obtain ⟨v1, v2, rfl, ⟨A, ca, rfl, hrA, hlA⟩, -⟩ := id hc
  obtain ⟨A5, c5, rfl, -, -⟩ := id ha
  generalize xs.length = U at *
  generalize hhalf : c.half = half at *
  generalize hage : c.age = age at *
  have hbx := CBox.new w1 (.slice A c.nodes.length ca) v2 half age
  have hbw : Below w1.heap.size w1 (w1.alloc (.cells #[.slice A c.nodes.length ca, v2, .int .i64 half, .int .i64 age] 25)) := by (repeat' (first | (with_reducible exact Below.refl _ _) | (with_reducible assumption) | (with_reducible refine Below.alloc ?_ ?_ _) | (with_reducible refine Go.Proofs.Ytbfpljnfalopdaa.L.below_drewN ?_ _) | (with_reducible refine Below.drew ?_) | (with_reducible refine Below.setCell ?_ ?_ _) | (with_reducible refine Below.frame ?_ _) | go_size))
  have HX := Lib.hid (And.intro hbx hbw)
  have GL := Lib.hid gL
  have GA := Lib.hid gA
  have HR := Lib.hid hrA
  obtain ⟨N, hNe⟩ : ∃ N, c.nodes.length = N := ⟨_, rfl⟩
  have HN := Lib.hid hNe
  rw [hNe] at HX GL ⊢
  clear hbx hbw gL gA hc ha hrA hlA hhalf hage hNe
  show Calls Try.prog 23 #[.agg #[.slice A N ca, v2, .int .i64 half, .int .i64 age], .slice A5 U c5, .int .i64 t] w1 _
  go_enter Try.func23, Try.ntmps23
  go_wp2_with fail
  generalize w1.alloc (.cells #[.slice A N ca, v2, .int .i64 half, .int .i64 age] 25) = wq at *
  obtain ⟨⟨y0, y1, y2, y3, y4⟩, hbw⟩ := HX.out
  have P0 := fun W' (k : Onward wq W') => k.cell y0 y1
  have P1 := fun W' (k : Onward wq W') => k.cell y0 y2
  have P2 := fun W' (k : Onward wq W') => k.cell y0 y3
  have P3 := fun W' (k : Onward wq W') => k.cell y0 y4
  have HBW := Lib.hid hbw
  by_cases hlf : Cfg.leaf c t = true
  · have hlt := Tree.leaf_lt hlf
    have hkt : t.toNat < c.nodes.length := by omega
    have hte : ((t.toNat : Nat) : Int) = t := by omega
    obtain ⟨bA, oA, rfl, hbA, hcA⟩ := row_node HR.out hkt
    have hno : Quo.node c t.toNat = c.nodes[t.toNat] := by unfold Quo.node; rw [List.getD_eq_getElem?_getD, List.getElem?_eq_getElem hkt, Option.getD_some]
    have hwt : Quo.borrows c xs t = !Vec.fits (Tree.at_ xs t) c.nodes[t.toNat].nominal := by unfold Quo.borrows; rw [hlf, hno, Bool.true_and]
    obtain ⟨p, hp⟩ : ∃ p, Tree.at_ xs t = p := ⟨_, rfl⟩
    have g2 := VecW.gover p c.nodes[t.toNat].nominal
    have hQ : ∀ W, Onward wq W → NodeAt W bA (oA + t.toNat * 11) c.nodes[t.toNat] := fun W k => hcA W (keeps_trans hbw k)
    generalize c.nodes[t.toNat] = x at *
    obtain ⟨par, wt, ⟨m0, m1, m2⟩, ⟨b0, b1, b2⟩, ⟨l0, l1, l2⟩⟩ := x
    have Q2 := fun W k => (hQ W k).2.2.1
    have Q3 := fun W k => (hQ W k).2.2.2.1
    have Q4 := fun W k => (hQ W k).2.2.2.2.1
    simp only at Q2 Q3 Q4 hwt g2
    obtain ⟨k, rfl⟩ : ∃ k : Nat, t = (k : Int) := ⟨t.toNat, hte.symm⟩
    rw [Int.toNat_natCast] at *
    have hkN : k < N := by rw [← HN.out]; exact hkt
    have gl := (GL.out.val (by rw [hlf])).up hbw
    have ga := (GA.out.val (by rw [hp])).up hbw
    rw [hp] at hwt
    obtain ⟨r, hr⟩ : ∃ r, (!Vec.fits p ⟨m0, m1, m2⟩) = r := ⟨_, rfl⟩
    rw [hr] at g2 hwt
    obtain ⟨p0, p1, p2⟩ := p
    have ga' : ∀ W, Onward wq W → Calls Try.prog 44 #[.slice A5 U c5, .int .i64 (k : Int)] W fun e W' => e = .returned (.agg #[.int .i64 p0, .int .i64 p1, .int .i64 p2]) ∧ Onward wq W' := ga
    have g2' : Gives Try.prog 45 #[.agg #[.int .i64 p0, .int .i64 p1, .int .i64 p2], .agg #[.int .i64 m0, .int .i64 m1, .int .i64 m2]] (.bool r) := g2
    have hkd : decide (k < N) = true := by simpa using hkN
    have HWt := Lib.hid hwt
    clear ga g2 hQ hcA hno hp hr hlt hte hkt hwt hlf y1 y2 y3 y4
    refine region_keep (by kernel_rfl) (by kernel_rfl) ?_
    repeat (apply Go.Proofs.Ytbfpljnfalopdaa.L.wpKeep_yes; (focus rfl); (focus (intro W hW; go_simp; first | done | exact ⟨rfl, hW⟩ | rfl)); (focus (go_simp; first | done | rfl)))
    (apply Go.Proofs.Ytbfpljnfalopdaa.L.wpKeep_yes; (focus rfl); (focus (intro W hW; go_simp; first | exact gl W hW | exact ⟨hW, gl W hW⟩)); (focus (go_simp; first | done | rfl)))
    repeat (apply Go.Proofs.Ytbfpljnfalopdaa.L.wpKeep_yes; (focus rfl); (focus (intro W hW; go_simp; first | done | exact ⟨rfl, hW⟩ | rfl)); (focus (go_simp; first | done | rfl)))
    (apply Go.Proofs.Ytbfpljnfalopdaa.L.wpKeep_yes; (focus rfl); (focus (intro W hW; go_simp; first | exact ga' W hW | exact ⟨hW, ga' W hW⟩)); (focus (go_simp; first | done | rfl)))
    repeat (apply Go.Proofs.Ytbfpljnfalopdaa.L.wpKeep_yes; (focus rfl); (focus (intro W hW; go_simp; first | done | exact ⟨rfl, hW⟩ | rfl)); (focus (go_simp; first | done | rfl)))
    (apply Go.Proofs.Ytbfpljnfalopdaa.L.wpKeep_yes; (focus rfl); (focus (intro W hW; go_simp; first | exact Go.Proofs.Ytbfpljnfalopdaa.L.Gives.up g2' hW | exact ⟨hW, Go.Proofs.Ytbfpljnfalopdaa.L.Gives.up g2' hW⟩)); (focus (go_simp; first | done | rfl)))
    (apply Go.Proofs.Ytbfpljnfalopdaa.L.wpKeep_yes; (focus rfl); (focus (intro W hW; go_simp; first | done | exact ⟨rfl, hW⟩ | rfl)); (focus (go_simp; first | done | rfl)))
    (apply Go.Proofs.Ytbfpljnfalopdaa.L.wpKeep_yes; (focus rfl); (focus (intro W hW; go_simp; first | done | exact ⟨rfl, hW⟩ | rfl)); (focus (go_simp; first | done | rfl)))
    refine wpKeep_nil ?_
    intro W hW
    have HE := Lib.hid (keeps_trans hbw hW)
    clear gl ga' g2' P0 P1 P2 P3 Q2 Q3 Q4 hW hbw
    go_wp2_with fail
    go_ret
    exact ⟨by rw [HWt.out]; rfl, HE.out⟩
  · have hlf' : Cfg.leaf c t = false := by simpa using hlf
    have hwt : Quo.borrows c xs t = false := by unfold Quo.borrows; rw [hlf', Bool.false_and]
    have gl : ∀ W, Onward wq W → Calls Try.prog 34 #[.agg #[.slice A N ca, v2, .int .i64 half, .int .i64 age], .int .i64 t] W fun e W' => e = .returned (.bool false) ∧ Onward wq W' := (GL.out.val (v' := .bool false) (by rw [hlf'])).up hbw
    have HWt := Lib.hid hwt
    clear hlf hlf' hwt y1 y2 y3 y4
    refine region_keep (by kernel_rfl) (by kernel_rfl) ?_
    repeat (apply Go.Proofs.Ytbfpljnfalopdaa.L.wpKeep_yes; (focus rfl); (focus (intro W hW; go_simp; first | done | exact ⟨rfl, hW⟩ | rfl)); (focus (go_simp; first | done | rfl)))
    (apply Go.Proofs.Ytbfpljnfalopdaa.L.wpKeep_yes; (focus rfl); (focus (intro W hW; go_simp; first | exact gl W hW | exact ⟨hW, gl W hW⟩)); (focus (go_simp; first | done | rfl)))
    (apply Go.Proofs.Ytbfpljnfalopdaa.L.wpKeep_yes; (focus rfl); (focus (intro W hW; go_simp; first | done | exact ⟨rfl, hW⟩ | rfl)); (focus (go_simp; first | done | rfl)))
    (apply Go.Proofs.Ytbfpljnfalopdaa.L.wpKeep_no; (focus rfl); (focus (go_simp; first | done | rfl)))
    (apply Go.Proofs.Ytbfpljnfalopdaa.L.wpKeep_no; (focus rfl); (focus (go_simp; first | done | rfl)))
    (apply Go.Proofs.Ytbfpljnfalopdaa.L.wpKeep_no; (focus rfl); (focus (go_simp; first | done | rfl)))
    (apply Go.Proofs.Ytbfpljnfalopdaa.L.wpKeep_no; (focus rfl); (focus (go_simp; first | done | rfl)))
    (apply Go.Proofs.Ytbfpljnfalopdaa.L.wpKeep_no; (focus rfl); (focus (go_simp; first | done | rfl)))
    (apply Go.Proofs.Ytbfpljnfalopdaa.L.wpKeep_no; (focus rfl); (focus (go_simp; first | done | rfl)))
    (apply Go.Proofs.Ytbfpljnfalopdaa.L.wpKeep_no; (focus rfl); (focus (go_simp; first | done | rfl)))
    (apply Go.Proofs.Ytbfpljnfalopdaa.L.wpKeep_no; (focus rfl); (focus (go_simp; first | done | rfl)))
    (apply Go.Proofs.Ytbfpljnfalopdaa.L.wpKeep_no; (focus rfl); (focus (go_simp; first | done | rfl)))
    (apply Go.Proofs.Ytbfpljnfalopdaa.L.wpKeep_no; (focus rfl); (focus (go_simp; first | done | rfl)))
    (apply Go.Proofs.Ytbfpljnfalopdaa.L.wpKeep_yes; (focus rfl); (focus (intro W hW; go_simp; first | done | exact ⟨rfl, hW⟩ | rfl)); (focus (go_simp; first | done | rfl)))
    (apply Go.Proofs.Ytbfpljnfalopdaa.L.wpKeep_yes; (focus rfl); (focus (intro W hW; go_simp; first | done | exact ⟨rfl, hW⟩ | rfl)); (focus (go_simp; first | done | rfl)))
    refine wpKeep_nil ?_
    intro W hW
    have HE := Lib.hid (keeps_trans hbw hW)
    clear gl P0 P1 P2 P3 hW hbw
    go_wp2_with fail
    go_ret
    exact ⟨by rw [HWt.out]; rfl, HE.out⟩
end Go.Proofs.Ytbfpljnfalopdaa.CfgW
