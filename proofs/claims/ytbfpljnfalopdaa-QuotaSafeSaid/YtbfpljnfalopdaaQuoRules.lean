/-
  The two rules: quota.rules and its closures.
-/
import Derived.Test.YtbfpljnfalopdaaQuoKept
import Derived.Laws.EntriesVeiled
import Derived.BigRegion
import Derived.RegionTactic
set_option linter.unusedVariables false
set_option linter.unusedSimpArgs false
namespace Go.Proofs.Ytbfpljnfalopdaa.CfgW
open Go Go.RowKit Go.Proofs.Ytbfpljnfalopdaa.L

/-- What the closures lean on: the boxes of the configuration, of the amounts, of the tenant and of the need. -/
structure RuleAt (W : World) (bc bu bt bn : Nat) (v1 v2 va : Value) (half age t : Int) (need : Vec.V) (c : Cfg.C) (xs : List Vec.V) : Prop where
  cfg : CfgAt W (.agg #[v1, v2, .int .i64 half, .int .i64 age]) c
  box : CBox W bc v1 v2 half age
  sl : VSl W va xs
  use : bu < W.heap.size ∧ W.cell? ⟨bu, 0, none⟩ = some va
  ten : bt < W.heap.size ∧ W.cell? ⟨bt, 0, none⟩ = some (.int .i64 t)
  need : VBox3 W bn 0 need
theorem RuleAt.on {W W' : World} {bc bu bt bn : Nat} {v1 v2 va : Value} {half age t : Int} {need : Vec.V} {c : Cfg.C} {xs : List Vec.V} (h : RuleAt W bc bu bt bn v1 v2 va half age t need c xs) (hb : Below W.heap.size W W') : RuleAt W' bc bu bt bn v1 v2 va half age t need c xs :=
  ⟨h.cfg.below hb, h.box.on hb, h.sl.below hb, ⟨Nat.lt_of_lt_of_le h.use.1 hb.size, (hb.cell (p := ⟨bu, 0, none⟩) h.use.1).trans h.use.2⟩, ⟨Nat.lt_of_lt_of_le h.ten.1 hb.size, (hb.cell (p := ⟨bt, 0, none⟩) h.ten.1).trans h.ten.2⟩, h.need.on hb⟩

def own56 (b : Nat) : Value := .func (.func 56) #[] #[.pointer (some ⟨b, 0, none⟩), .pointer (some ⟨b + 1, 0, none⟩), .pointer (some ⟨b + 1 + 1 + 1, 0, none⟩)]
def all57 (b : Nat) : Value := .func (.func 57) #[] #[.pointer (some ⟨b, 0, none⟩), .pointer (some ⟨b + 1, 0, none⟩), .pointer (some ⟨b + 1 + 1 + 1, 0, none⟩), .pointer (some ⟨b + 1 + 1, 0, none⟩)]
def RulesEnd (v1 v2 va : Value) (half age t : Int) (need : Vec.V) (w : World) (e : Ending) (w' : World) : Prop :=
  e = .returned (.tuple #[.agg #[own56 w.heap.size], .agg #[all57 w.heap.size]]) ∧ Below w.heap.size w w' ∧ CBox w' w.heap.size v1 v2 half age ∧ w'.cell? ⟨w.heap.size + 1, 0, none⟩ = some va ∧ w'.cell? ⟨w.heap.size + 1 + 1, 0, none⟩ = some (.int .i64 t) ∧ VBox3 w' (w.heap.size + 1 + 1 + 1) 0 need

set_option maxRecDepth 100000 in
set_option maxHeartbeats 1000000 in
theorem rules_any {w : World} {v1 v2 : Value} {half age : Int} (A : Option Addr) (N ca : Nat) (t : Int) (n0 n1 n2 : Int) :
    Calls Try.prog 35 #[.agg #[v1, v2, .int .i64 half, .int .i64 age], .slice A N ca, .int .i64 t, .agg #[.int .i64 n0, .int .i64 n1, .int .i64 n2]] w fun e w' => RulesEnd v1 v2 (.slice A N ca) half age t ⟨n0, n1, n2⟩ w e w' := by
  go_enter Try.func35, Try.ntmps35
  go_wp2_with fail
  obtain ⟨wq, hwq⟩ : ∃ wq, ((((((((w.alloc (.cells #[v1, v2, .int .i64 half, .int .i64 age] 25)).alloc (.cells #[.slice A N ca] 26)).alloc (.cells #[.int .i64 t] 3)).alloc (.cells #[.int .i64 n0, .int .i64 n1, .int .i64 n2] 29)).alloc (.cells #[.nilFunc] 70)).alloc (.cells #[.nilFunc] 70)).alloc (.cells #[.func (.func 56) #[] #[.pointer (some ⟨w.heap.size, 0, none⟩), .pointer (some ⟨w.heap.size + 1, 0, none⟩), .pointer (some ⟨w.heap.size + 1 + 1 + 1, 0, none⟩)]] 70)).alloc (.cells #[.func (.func 57) #[] #[.pointer (some ⟨w.heap.size, 0, none⟩), .pointer (some ⟨w.heap.size + 1, 0, none⟩), .pointer (some ⟨w.heap.size + 1 + 1 + 1, 0, none⟩), .pointer (some ⟨w.heap.size + 1 + 1, 0, none⟩)]] 70)) = wq := ⟨_, rfl⟩
  have hb : Below w.heap.size w wq := by rw [← hwq]; (repeat' (first | (with_reducible exact Below.refl _ _) | (with_reducible assumption) | (with_reducible refine Below.alloc ?_ ?_ _) | (with_reducible refine Go.Proofs.Ytbfpljnfalopdaa.L.below_drewN ?_ _) | (with_reducible refine Below.drew ?_) | (with_reducible refine Below.setCell ?_ ?_ _) | (with_reducible refine Below.frame ?_ _) | go_size))
  have k0 : CBox wq w.heap.size v1 v2 half age := by
    rw [← hwq]
    refine (CBox.new w v1 v2 half age).on ?_
    have hz : (w.alloc (.cells #[v1, v2, .int .i64 half, .int .i64 age] 25)).heap.size = w.heap.size + 1 := by simp
    (repeat' (first | (with_reducible exact Below.refl _ _) | (with_reducible assumption) | (with_reducible refine Below.alloc ?_ ?_ _) | (with_reducible refine Go.Proofs.Ytbfpljnfalopdaa.L.below_drewN ?_ _) | (with_reducible refine Below.drew ?_) | (with_reducible refine Below.setCell ?_ ?_ _) | (with_reducible refine Below.frame ?_ _) | go_size))
  have k1 : wq.cell? ⟨w.heap.size + 1, 0, none⟩ = some (.slice A N ca) := by rw [← hwq]; simp [go_sem]
  have k2 : wq.cell? ⟨w.heap.size + 1 + 1, 0, none⟩ = some (.int .i64 t) := by rw [← hwq]; simp [go_sem]
  have k3 : VBox3 wq (w.heap.size + 1 + 1 + 1) 0 ⟨n0, n1, n2⟩ := by rw [← hwq]; refine ⟨by simp, ?_, ?_, ?_⟩ <;> simp [go_sem]
  have k4 : wq.cell? ⟨w.heap.size + 1 + 1 + 1 + 1, 0, none⟩ = some .nilFunc ∧ wq.frozen? ⟨w.heap.size + 1 + 1 + 1 + 1, 0, none⟩ = false := by rw [← hwq]; constructor <;> simp [go_sem]
  have k5 : wq.cell? ⟨w.heap.size + 1 + 1 + 1 + 1 + 1, 0, none⟩ = some .nilFunc ∧ wq.frozen? ⟨w.heap.size + 1 + 1 + 1 + 1 + 1, 0, none⟩ = false := by rw [← hwq]; constructor <;> simp [go_sem]
  have k6 : wq.cell? ⟨w.heap.size + 1 + 1 + 1 + 1 + 1 + 1, 0, none⟩ = some (own56 w.heap.size) := by rw [← hwq]; simp [go_sem, own56]
  have k7 : wq.cell? ⟨w.heap.size + 1 + 1 + 1 + 1 + 1 + 1 + 1, 0, none⟩ = some (all57 w.heap.size) := by rw [← hwq]; simp [go_sem, all57]
  have hsz : wq.heap.size = w.heap.size + 8 := by rw [← hwq]; simp
  rw [hwq]
  have HB := Lib.hid (And.intro hb (And.intro k0 (And.intro k1 (And.intro k2 (And.intro k3 hsz)))))
  obtain ⟨k4, k4'⟩ := k4
  obtain ⟨k5, k5'⟩ := k5
  unfold own56 at k6
  unfold all57 at k7
  have hs8 : w.heap.size + 1 + 1 + 1 + 1 + 1 < wq.heap.size := by omega
  clear hwq hb k0 k1 k2 k3 hsz
  have c4 : ((wq.setCell ⟨w.heap.size + 1 + 1 + 1 + 1, 0, none⟩ (own56 w.heap.size)).setCell ⟨w.heap.size + 1 + 1 + 1 + 1 + 1, 0, none⟩ (all57 w.heap.size)).drew.cell? ⟨w.heap.size + 1 + 1 + 1 + 1, 0, none⟩ = some (own56 w.heap.size) :=
    (World.cell?_setCell_other _ _ _ _ (by intro e; injection e; omega)).trans (World.cell?_setCell_same' _ _ _ (by rw [k4]; rfl))
  have hk : Kept (fun i => w.heap.size + 1 + 1 + 1 + 1 ≤ i) wq ((wq.setCell ⟨w.heap.size + 1 + 1 + 1 + 1, 0, none⟩ (own56 w.heap.size)).setCell ⟨w.heap.size + 1 + 1 + 1 + 1 + 1, 0, none⟩ (all57 w.heap.size)).drew :=
    (((Kept.refl (fun i => w.heap.size + 1 + 1 + 1 + 1 ≤ i) wq).setCell (p := ⟨w.heap.size + 1 + 1 + 1 + 1, 0, none⟩) (.inl (Nat.le_refl _)) _).setCell (p := ⟨w.heap.size + 1 + 1 + 1 + 1 + 1, 0, none⟩) (.inl (by show _ ≤ w.heap.size + 1 + 1 + 1 + 1 + 1; omega)) _).drew
  have c5 : ((wq.setCell ⟨w.heap.size + 1 + 1 + 1 + 1, 0, none⟩ (own56 w.heap.size)).setCell ⟨w.heap.size + 1 + 1 + 1 + 1 + 1, 0, none⟩ (all57 w.heap.size)).drew.cell? ⟨w.heap.size + 1 + 1 + 1 + 1 + 1, 0, none⟩ = some (all57 w.heap.size) :=
    World.cell?_setCell_same' _ _ _ (by rw [World.cell?_setCell_other _ _ _ _ (by intro e; injection e; omega), k5]; rfl)
  unfold own56 all57 at c4 c5 hk
  have HK := Lib.hid (And.intro c4 (And.intro c5 hk))
  clear c4 c5 hk
  go_region
  go_wp2_with fail
  generalize ((wq.setCell ⟨w.heap.size + 1 + 1 + 1 + 1, 0, none⟩ (.func (.func 56) #[] #[.pointer (some ⟨w.heap.size, 0, none⟩), .pointer (some ⟨w.heap.size + 1, 0, none⟩), .pointer (some ⟨w.heap.size + 1 + 1 + 1, 0, none⟩)])).setCell ⟨w.heap.size + 1 + 1 + 1 + 1 + 1, 0, none⟩ (.func (.func 57) #[] #[.pointer (some ⟨w.heap.size, 0, none⟩), .pointer (some ⟨w.heap.size + 1, 0, none⟩), .pointer (some ⟨w.heap.size + 1 + 1 + 1, 0, none⟩), .pointer (some ⟨w.heap.size + 1 + 1, 0, none⟩)])).drew = wf at *
  obtain ⟨c4, c5, hk⟩ := HK.out
  obtain ⟨hb, k0, k1, k2, k3, hsz⟩ := HB.out
  refine bodyPost_ret (v := .tuple #[.agg #[own56 w.heap.size], .agg #[all57 w.heap.size]]) (by simp [results, Try.results35, go_sem, c4, c5, own56, all57]) rfl ?_
  exact ⟨rfl, hb.trans (hk.below hb.size (fun i h => by omega)), k0.kept hk (by omega), (hk.cell (p := ⟨w.heap.size + 1, 0, none⟩) (by show w.heap.size + 1 < _; omega) (by show ¬ _ ≤ w.heap.size + 1; omega)).trans k1, (hk.cell (p := ⟨w.heap.size + 1 + 1, 0, none⟩) (by show w.heap.size + 1 + 1 < _; omega) (by show ¬ _ ≤ w.heap.size + 1 + 1; omega)).trans k2, k3.kept hk (by omega)⟩

set_option maxRecDepth 100000 in
set_option maxHeartbeats 1000000 in
theorem own56_any {w : World} {bc bu bt bn : Nat} {v1 v2 va : Value} {half age t : Int} {need : Vec.V} {c : Cfg.C} {xs : List Vec.V} (h : RuleAt w bc bu bt bn v1 v2 va half age t need c xs) (x : Nat) (hx : x < c.nodes.length) :
    Calls Try.prog 56 #[.int .i64 (x : Int), .pointer (some ⟨bc, 0, none⟩), .pointer (some ⟨bu, 0, none⟩), .pointer (some ⟨bn, 0, none⟩)] w fun e w' => e = .returned (.bool (Quo.mayOwn c xs need x)) ∧ Below w.heap.size w w' := by
  obtain ⟨v1', v2', ee, ⟨A, ca, e1, hrA, hlA⟩, _⟩ := h.cfg
  have ev1 : v1 = .slice A c.nodes.length ca := by
    simp only [Value.agg.injEq, Array.mk.injEq, List.cons.injEq, and_true] at ee
    rw [ee.1, e1]
  subst ev1
  obtain ⟨bA, oA, rfl, hbA, hcA⟩ := row_node hrA hx
  obtain ⟨y0, y1, y2, y3, y4⟩ := h.box
  obtain ⟨u0, u1⟩ := h.use
  obtain ⟨m0, m1, m2, m3⟩ := h.need
  have hno : Quo.node c x = c.nodes[x] := by unfold Quo.node; rw [List.getD_eq_getElem?_getD, List.getElem?_eq_getElem hx, Option.getD_some]
  have hmay : Quo.mayOwn c xs need x = Vec.fits (Vec.add (Tree.at_ xs (x : Int)) need) (Vec.add c.nodes[x].nominal c.nodes[x].borrow) := by unfold Quo.mayOwn; rw [hno]
  have hnd := hcA w (Below.refl _ _)
  have gA0 := at_any h.sl (x : Int)
  obtain ⟨A5, c5, rfl, -, -⟩ := h.sl
  generalize xs.length = U at *
  have hxd : decide (x < c.nodes.length) = true := by simpa using hx
  generalize c.nodes[x] = nd at *
  generalize c.nodes.length = N at *
  obtain ⟨q0, q1, q2, q3, q4, q5, q6, q7, q8, q9, q10⟩ := hnd
  have hne : ∀ i, ¬ bA = w.heap.size + i := fun i e => by omega
  have hne0 : ¬ bA = w.heap.size := fun e => by omega
  obtain ⟨par, wt, ⟨n0, n1, n2⟩, ⟨b0, b1, b2⟩, ⟨l0, l1, l2⟩⟩ := nd
  simp only at q0 q1 q2 q3 q4 q5 q6 q7 q8 q9 q10 hmay
  obtain ⟨p, hp⟩ : ∃ p, Tree.at_ xs (x : Int) = p := ⟨_, rfl⟩
  obtain ⟨a, ha⟩ : ∃ a, Vec.add p need = a := ⟨_, rfl⟩
  obtain ⟨d, hd⟩ : ∃ d, Vec.add ⟨n0, n1, n2⟩ ⟨b0, b1, b2⟩ = d := ⟨_, rfl⟩
  have g1 := VecW.gadd p need
  have g2 := VecW.gadd ⟨n0, n1, n2⟩ ⟨b0, b1, b2⟩
  have g3 := VecW.gfits a d
  rw [hp] at gA0 hmay
  rw [ha] at g1 hmay
  rw [hd] at g2 hmay
  rw [hmay]
  obtain ⟨r, hr⟩ : ∃ r, Vec.fits a d = r := ⟨_, rfl⟩
  rw [hr] at g3 ⊢
  obtain ⟨p0, p1, p2⟩ := p
  obtain ⟨a0, a1, a2⟩ := a
  obtain ⟨d0, d1, d2⟩ := d
  obtain ⟨k0, k1, k2⟩ := need
  simp only [Nat.zero_add] at m1 m2 m3
  have hba : Below w.heap.size w (w.alloc (.cells #[.int .i64 par, .int .i64 wt, .int .i64 n0, .int .i64 n1, .int .i64 n2, .int .i64 b0, .int .i64 b1, .int .i64 b2, .int .i64 l0, .int .i64 l1, .int .i64 l2] 42)) := (Below.refl _ _).alloc (Nat.le_refl _) _
  have HB := Lib.hid hba
  have GA := Lib.hid (fun wb (hw : Onward _ wb) => gA0.up (keeps_trans hba hw))
  have G1 := Lib.hid g1
  have G2 := Lib.hid g2
  have G3 := Lib.hid g3
  have hx3 := (VBox3.on (w := w) (b := bn) (o := 0) (v := ⟨k0, k1, k2⟩) ⟨m0, by simpa using m1, by simpa using m2, by simpa using m3⟩ hba)
  have HX3 := Lib.hid hx3
  have HU := Lib.hid (And.intro u0 ((hba.cell (p := ⟨bu, 0, none⟩) u0).trans u1))
  have hbu : bu < w.heap.size := u0
  clear gA0 g1 g2 g3 hp ha hd hr hmay hcA hno ee e1 hrA hba hx3 h
  have hN0 : Blk (w.alloc (.cells #[.int .i64 par, .int .i64 wt, .int .i64 n0, .int .i64 n1, .int .i64 n2, .int .i64 b0, .int .i64 b1, .int .i64 b2, .int .i64 l0, .int .i64 l1, .int .i64 l2] 42)) w.heap.size 42 #[.int .i64 par, .int .i64 wt, .int .i64 n0, .int .i64 n1, .int .i64 n2, .int .i64 b0, .int .i64 b1, .int .i64 b2, .int .i64 l0, .int .i64 l1, .int .i64 l2] := Blk.new w _ _
  have HN0 := Lib.hid hN0
  clear hN0
  go_enter Try.func56, Try.ntmps56
  go_wp2_with fail
  generalize w.alloc (.cells #[.int .i64 par, .int .i64 wt, .int .i64 n0, .int .i64 n1, .int .i64 n2, .int .i64 b0, .int .i64 b1, .int .i64 b2, .int .i64 l0, .int .i64 l1, .int .i64 l2] 42) = wa at *
  have hb := HB.out
  have hlt : w.heap.size < wa.heap.size := Blk.lt HN0.out
  have hbua : bu < wa.heap.size := Nat.lt_trans hbu hlt
  have ga : ∀ W, Onward wa W → Calls Try.prog 44 #[.slice A5 U c5, .int .i64 (x : Int)] W fun e W' => e = .returned (.agg #[.int .i64 p0, .int .i64 p1, .int .i64 p2]) ∧ Onward wa W' := GA.out wa (Onward.refl wa)
  have g1' : Gives Try.prog 43 #[.agg #[.int .i64 p0, .int .i64 p1, .int .i64 p2], .agg #[.int .i64 k0, .int .i64 k1, .int .i64 k2]] (.agg #[.int .i64 a0, .int .i64 a1, .int .i64 a2]) := G1.out
  have g2' : Gives Try.prog 43 #[.agg #[.int .i64 n0, .int .i64 n1, .int .i64 n2], .agg #[.int .i64 b0, .int .i64 b1, .int .i64 b2]] (.agg #[.int .i64 d0, .int .i64 d1, .int .i64 d2]) := G2.out
  have g3' : Gives Try.prog 42 #[.agg #[.int .i64 a0, .int .i64 a1, .int .i64 a2], .agg #[.int .i64 d0, .int .i64 d1, .int .i64 d2]] (.bool r) := G3.out
  have P0 := fun W' (k : Onward wa W') => k.cell (b := bu) hbua HU.out.2
  have P1 := fun W' (k : Onward wa W') => k.cell HX3.out.1 HX3.out.2.1
  have P2 := fun W' (k : Onward wa W') => k.cell HX3.out.1 HX3.out.2.2.1
  have P3 := fun W' (k : Onward wa W') => k.cell HX3.out.1 HX3.out.2.2.2
  have P4 := fun W' (k : Onward wa W') => k.cell (b := w.heap.size) (o := 2) hlt (Blk.cell HN0.out 2)
  have P5 := fun W' (k : Onward wa W') => k.cell (b := w.heap.size) (o := 3) hlt (Blk.cell HN0.out 3)
  have P6 := fun W' (k : Onward wa W') => k.cell (b := w.heap.size) (o := 4) hlt (Blk.cell HN0.out 4)
  have P7 := fun W' (k : Onward wa W') => k.cell (b := w.heap.size) (o := 5) hlt (Blk.cell HN0.out 5)
  have P8 := fun W' (k : Onward wa W') => k.cell (b := w.heap.size) (o := 6) hlt (Blk.cell HN0.out 6)
  have P9 := fun W' (k : Onward wa W') => k.cell (b := w.heap.size) (o := 7) hlt (Blk.cell HN0.out 7)
  simp only [Nat.zero_add] at P2 P3
  refine region_keep (by kernel_rfl) (by kernel_rfl) ?_
  repeat (apply Go.Proofs.Ytbfpljnfalopdaa.L.wpKeep_yes; (focus rfl); (focus (intro W hW; go_simp; first | done | exact ⟨rfl, hW⟩ | rfl)); (focus (go_simp; first | done | rfl)))
  (apply Go.Proofs.Ytbfpljnfalopdaa.L.wpKeep_yes; (focus rfl); (focus (intro W hW; go_simp; first | exact ga W hW | exact ⟨hW, ga W hW⟩)); (focus (go_simp; first | done | rfl)))
  repeat (apply Go.Proofs.Ytbfpljnfalopdaa.L.wpKeep_yes; (focus rfl); (focus (intro W hW; go_simp; first | done | exact ⟨rfl, hW⟩ | rfl)); (focus (go_simp; first | done | rfl)))
  (apply Go.Proofs.Ytbfpljnfalopdaa.L.wpKeep_yes; (focus rfl); (focus (intro W hW; go_simp; first | exact Go.Proofs.Ytbfpljnfalopdaa.L.Gives.up g1' hW | exact ⟨hW, Go.Proofs.Ytbfpljnfalopdaa.L.Gives.up g1' hW⟩)); (focus (go_simp; first | done | rfl)))
  repeat (apply Go.Proofs.Ytbfpljnfalopdaa.L.wpKeep_yes; (focus rfl); (focus (intro W hW; go_simp; first | done | exact ⟨rfl, hW⟩ | rfl)); (focus (go_simp; first | done | rfl)))
  (apply Go.Proofs.Ytbfpljnfalopdaa.L.wpKeep_yes; (focus rfl); (focus (intro W hW; go_simp; first | exact Go.Proofs.Ytbfpljnfalopdaa.L.Gives.up g2' hW | exact ⟨hW, Go.Proofs.Ytbfpljnfalopdaa.L.Gives.up g2' hW⟩)); (focus (go_simp; first | done | rfl)))
  (apply Go.Proofs.Ytbfpljnfalopdaa.L.wpKeep_yes; (focus rfl); (focus (intro W hW; go_simp; first | exact Go.Proofs.Ytbfpljnfalopdaa.L.Gives.up g3' hW | exact ⟨hW, Go.Proofs.Ytbfpljnfalopdaa.L.Gives.up g3' hW⟩)); (focus (go_simp; first | done | rfl)))
  repeat (apply Go.Proofs.Ytbfpljnfalopdaa.L.wpKeep_yes; (focus rfl); (focus (intro W hW; go_simp; first | done | exact ⟨rfl, hW⟩ | rfl)); (focus (go_simp; first | done | rfl)))
  refine wpKeep_nil ?_
  intro W hW
  have HE := Lib.hid (keeps_trans hb hW)
  clear ga g1' g2' g3' P0 P1 P2 P3 P4 P5 P6 P7 P8 P9 hW hb
  go_wp2_with fail
  go_ret
  exact ⟨rfl, HE.out⟩
end Go.Proofs.Ytbfpljnfalopdaa.CfgW
