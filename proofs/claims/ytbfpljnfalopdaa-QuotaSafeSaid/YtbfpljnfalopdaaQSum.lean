/-
  What all tenants below a node have: qtree.Sum.
-/
import Derived.Test.YtbfpljnfalopdaaCollect
set_option linter.unusedVariables false
set_option linter.unusedSimpArgs false
namespace Go.Proofs.Ytbfpljnfalopdaa.CfgW
open Go Go.RowKit Go.Proofs.Ytbfpljnfalopdaa.L
attribute [local go_sem] Oper.semAt_some

def vrow (v : Vec.V) : Array Value := #[.int .i64 v.x, .int .i64 v.y, .int .i64 v.z]
/-- An amount in a box of its own. -/
def VOwn (W : World) (b : Nat) (v : Vec.V) : Prop := Blk W b 29 (vrow v)
theorem VOwn.cells {W : World} {b : Nat} {v : Vec.V} (h : VOwn W b v) : VAt W b 0 v ∧ (∀ i, W.frozen? ⟨b, i, none⟩ = false) ∧ b < W.heap.size := ⟨⟨Blk.cell h 0, Blk.cell h 1, Blk.cell h 2⟩, fun i => Blk.frozen h i, Blk.lt h⟩
theorem VOwn.new (W : World) (v : Vec.V) : VOwn (W.alloc (.cells (vrow v) 29)) W.heap.size v := Blk.new W _ _
theorem VOwn.store {W : World} {b : Nat} {v : Vec.V} (h : VOwn W b v) (u : Vec.V) : VOwn (((W.setCell ⟨b, 0, none⟩ (.int .i64 u.x)).setCell ⟨b, 1, none⟩ (.int .i64 u.y)).setCell ⟨b, 2, none⟩ (.int .i64 u.z)) b u := ((Blk.set_ h 0 _).set_ 1 _).set_ 2 _
theorem store3_kept (W : World) (b : Nat) (x y z : Value) : Kept (fun k => k = b) W (((W.setCell ⟨b, 0, none⟩ x).setCell ⟨b, 1, none⟩ y).setCell ⟨b, 2, none⟩ z) :=
  (((Kept.refl (fun k => k = b) W).setCell (p := ⟨b, 0, none⟩) (.inl rfl) _).setCell (p := ⟨b, 1, none⟩) (.inl rfl) _).setCell (p := ⟨b, 2, none⟩) (.inl rfl) _

/-- What a sum over a range keeps: its own box. -/
def SumJ (b : Nat) (g : List Nat → Vec.V) (D : Nat → Prop) (pre : List Nat) (W : World) : Prop := VOwn W b (g pre) ∧ ∀ k, D k ↔ k = b
theorem sumJ_abide (b : Nat) (g : List Nat → Vec.V) (B : Nat) (own : Nat → Prop) : Abide B own (SumJ b g) :=
  ⟨fun D pre W ⟨h1, h2⟩ k hk => by
    have : k = b := (h2 k).1 hk
    subst this; exact Blk.lt h1, fun D pre W W' F ⟨h1, h2⟩ kp hF => ⟨Blk.kept h1 kp (fun h => (hF b (Blk.lt h1) h).1 ((h2 b).2 rfl)), h2⟩⟩

set_option maxRecDepth 100000 in
set_option maxHeartbeats 1000000 in
theorem qsum_any {w : World} {v va : Value} {c : Cfg.C} {xs : List Vec.V} (hc : CfgAt w v c) (hN : c.nodes.length ≤ 1000000) (ha : VSl w va xs) (n : Int) : GivesAt Try.prog w 58 #[v, .int .i64 n, va] (Tree.sum c n xs).val := by
  intro w1 hb1
  replace hc := hc.below hb1
  replace ha := ha.below hb1
  clear hb1
  obtain ⟨v1, v2, rfl, -⟩ := id hc
  obtain ⟨half, hhalf⟩ : ∃ z, c.half = z := ⟨_, rfl⟩
  obtain ⟨age, hage⟩ : ∃ z, c.age = z := ⟨_, rfl⟩
  rw [hhalf, hage] at hc ⊢
  have HC := Lib.hid hc
  have HA := Lib.hid ha
  obtain ⟨A, ca, rfl, -⟩ := ha
  clear hc hhalf hage
  obtain ⟨G, hG⟩ : ∃ G : List Nat → Vec.V, G = fun l => l.foldl (fun v (t : Nat) => Vec.add v (Tree.at_ xs (t : Int))) Vec.zero := ⟨_, rfl⟩
  have HG := Lib.hid hG
  have hT : Tree.sum c n xs = G (Tree.below c n) := by rw [hG]; rfl
  rw [hT]
  clear hG hT
  obtain ⟨N, hNl⟩ : ∃ N, xs.length = N := ⟨_, rfl⟩
  rw [hNl] at HA ⊢
  clear hNl
  refine (callsIn_wide (n := 0)).1 (callsIn_of_wp_marks Try.func58 rfl trivial (wpIn_wide.2 ?_))
  simp only [Try.ntmps58, List.size_toArray, List.length_cons, List.length_nil, Nat.reduceAdd, Nat.reduceSub, Array.replicate_succ, Array.replicate_zero, List.push_toArray, List.append_toArray, List.nil_append, List.cons_append]
  have hb4 : Below w1.heap.size w1 ((((w1.alloc (.cells #[v1, v2, .int .i64 half, .int .i64 age] 25)).alloc (.cells #[.slice A N ca] 26)).alloc (.cells #[.int .i64 0, .int .i64 0, .int .i64 0] 29)).alloc (.cells #[.int .i64 0, .int .i64 0, .int .i64 0] 29)) := by (repeat' (first | (with_reducible exact Below.refl _ _) | (with_reducible assumption) | (with_reducible refine Below.alloc ?_ ?_ _) | (with_reducible refine Go.Proofs.Ytbfpljnfalopdaa.L.below_drewN ?_ _) | (with_reducible refine Below.drew ?_) | (with_reducible refine Below.setCell ?_ ?_ _) | (with_reducible refine Below.frame ?_ _) | go_size))
  have hsl : ((((w1.alloc (.cells #[v1, v2, .int .i64 half, .int .i64 age] 25)).alloc (.cells #[.slice A N ca] 26)).alloc (.cells #[.int .i64 0, .int .i64 0, .int .i64 0] 29)).alloc (.cells #[.int .i64 0, .int .i64 0, .int .i64 0] 29)).cell? ⟨w1.heap.size + 1, 0, none⟩ = some (.slice A N ca) := by simp [go_sem]
  have hr : VOwn ((((w1.alloc (.cells #[v1, v2, .int .i64 half, .int .i64 age] 25)).alloc (.cells #[.slice A N ca] 26)).alloc (.cells #[.int .i64 0, .int .i64 0, .int .i64 0] 29)).alloc (.cells #[.int .i64 0, .int .i64 0, .int .i64 0] 29)) (w1.heap.size + 1 + 1) Vec.zero := by
    have h := VOwn.new ((w1.alloc (.cells #[v1, v2, .int .i64 half, .int .i64 age] 25)).alloc (.cells #[.slice A N ca] 26)) Vec.zero
    simp only [World.size_alloc] at h
    exact Blk.alloc h _
  have hv : VOwn ((((w1.alloc (.cells #[v1, v2, .int .i64 half, .int .i64 age] 25)).alloc (.cells #[.slice A N ca] 26)).alloc (.cells #[.int .i64 0, .int .i64 0, .int .i64 0] 29)).alloc (.cells #[.int .i64 0, .int .i64 0, .int .i64 0] 29)) (w1.heap.size + 1 + 1 + 1) Vec.zero := by
    have h := VOwn.new (((w1.alloc (.cells #[v1, v2, .int .i64 half, .int .i64 age] 25)).alloc (.cells #[.slice A N ca] 26)).alloc (.cells #[.int .i64 0, .int .i64 0, .int .i64 0] 29)) Vec.zero
    simp only [World.size_alloc] at h
    exact h
  have hs4 : ((((w1.alloc (.cells #[v1, v2, .int .i64 half, .int .i64 age] 25)).alloc (.cells #[.slice A N ca] 26)).alloc (.cells #[.int .i64 0, .int .i64 0, .int .i64 0] 29)).alloc (.cells #[.int .i64 0, .int .i64 0, .int .i64 0] 29)).heap.size = w1.heap.size + 4 := by simp
  have HB := Lib.hid hb4
  have HSl := Lib.hid hsl
  have HRr := Lib.hid hr
  have HV := Lib.hid hv
  have HS4 := Lib.hid hs4
  clear hb4 hsl hr hv hs4
  go_wp2_with fail
  generalize (((w1.alloc (.cells #[v1, v2, .int .i64 half, .int .i64 age] 25)).alloc (.cells #[.slice A N ca] 26)).alloc (.cells #[.int .i64 0, .int .i64 0, .int .i64 0] 29)).alloc (.cells #[.int .i64 0, .int .i64 0, .int .i64 0] 29) = w4 at *
  refine (tenants_val v1 v2 half age n w4).mono ?_
  rintro e w5 ⟨rfl, rfl⟩
  go_wp2_with fail
  have hb5 : Below w4.heap.size w4 ((w4.alloc (.cells #[v1, v2, .int .i64 half, .int .i64 age] 25)).alloc (.cells #[.int .i64 n] 3)) := by (repeat' (first | (with_reducible exact Below.refl _ _) | (with_reducible assumption) | (with_reducible refine Below.alloc ?_ ?_ _) | (with_reducible refine Go.Proofs.Ytbfpljnfalopdaa.L.below_drewN ?_ _) | (with_reducible refine Below.drew ?_) | (with_reducible refine Below.setCell ?_ ?_ _) | (with_reducible refine Below.frame ?_ _) | go_size))
  have hx5 : CBox ((w4.alloc (.cells #[v1, v2, .int .i64 half, .int .i64 age] 25)).alloc (.cells #[.int .i64 n] 3)) w4.heap.size v1 v2 half age := (CBox.new w4 v1 v2 half age).on ((Below.refl _ _).alloc (Nat.le_refl _) _)
  have hc5 : ((w4.alloc (.cells #[v1, v2, .int .i64 half, .int .i64 age] 25)).alloc (.cells #[.int .i64 n] 3)).cell? ⟨w4.heap.size + 1, 0, none⟩ = some (.int .i64 n) := by simp [go_sem]
  have hs5 : ((w4.alloc (.cells #[v1, v2, .int .i64 half, .int .i64 age] 25)).alloc (.cells #[.int .i64 n] 3)).heap.size = w4.heap.size + 2 := by simp
  generalize (w4.alloc (.cells #[v1, v2, .int .i64 half, .int .i64 age] 25)).alloc (.cells #[.int .i64 n] 3) = w5 at *
  have hs4 := HS4.out
  have hit := tenants_iter HC.out hN n w4.heap.size (w4.heap.size + 1)
  have hv5 : VOwn w5 (w1.heap.size + 1 + 1 + 1) Vec.zero := Blk.below HV.out hb5 (Blk.lt HV.out)
  have Hb5 := Lib.hid hb5
  refine (wpIn_wide (n := 0)).1 (range_iter hit rfl (fun _ _ => by kernel_rfl) rfl (fun W hW => ⟨keeps_trans (keeps_trans HB.out hb5) hW, hx5.on hW, (hW.cell (p := ⟨w4.heap.size + 1, 0, none⟩) (by show w4.heap.size + 1 < w5.heap.size; omega)).trans hc5, by have := hW.size; omega⟩)
    (fun k h => by omega) (fun k h => h.elim) (SumJ (w1.heap.size + 1 + 1 + 1) G) (fun _ _ _ => False) (sumJ_abide _ _ _ _) ⟨fun _ _ _ h => h.elim, fun _ _ _ _ _ h => h.elim⟩ (fun k => k = w1.heap.size + 1 + 1 + 1) (fun k h e => by omega)
    ⟨by rw [HG.out]; exact hv5, fun k => Iff.rfl⟩ ?round ?done (fun _ _ _ _ h => h.elim))
  case round =>
    intro l m D pre x rest W hl hpre hj hk hD hlt
    gi_wp2
    refine ⟨trivial, fun W2 hj2 hk2 hs2 => ?_⟩
    obtain ⟨h1, h2⟩ := hj2
    have hk1 : Kept (fun k => k = w1.heap.size + 1 + 1 + 1) w1 W2 := ((Kept.of_below (keeps_trans HB.out Hb5.out)).trans' hk2 (fun i hi h => by rcases h with h | h; exact h; exact h.elim))
    have hbw : Below w1.heap.size w1 W2 := hk1.below (Nat.le_refl _) (fun i h => by omega)
    have gA := Lib.hid ((at_any (HA.out.below hbw) (x : Int)).up (keeps_refl _))
    have gD := Lib.hid (VecW.gadd (G pre) (Tree.at_ xs (x : Int)))
    have hsl2 : W2.cell? ⟨w1.heap.size + 1, 0, none⟩ = some (.slice A N ca) := (hk2.cell (p := ⟨w1.heap.size + 1, 0, none⟩) (by show w1.heap.size + 1 < w5.heap.size; omega) (by rintro (h | h); have h' : w1.heap.size + 1 = w1.heap.size + 1 + 1 + 1 := h; omega; exact h)).trans ((Hb5.out.cell (p := ⟨w1.heap.size + 1, 0, none⟩) (by show w1.heap.size + 1 < w4.heap.size; omega)).trans HSl.out)
    have hsn : G (pre ++ [x]) = Vec.add (G pre) (Tree.at_ xs (x : Int)) := by rw [HG.out]; simp only [List.foldl_append]; rfl
    have HSn := Lib.hid hsn
    obtain ⟨rr, hrr⟩ : ∃ rr, G (pre ++ [x]) = rr := ⟨_, rfl⟩
    have HSm := Lib.hid hrr
    rw [hrr] at HSn
    have HV2 := Lib.hid h1
    have HDk := Lib.hid h2
    clear hrr hsn
    generalize G pre = y at *
    generalize Tree.at_ xs (x : Int) = z at *
    have gD' : Gives Try.prog 43 #[y.val, z.val] rr.val := gD.out.val (by rw [HSn.out])
    obtain ⟨r0, r1, r2⟩ := rr
    obtain ⟨y0, y1, y2⟩ := y
    obtain ⟨z0, z1, z2⟩ := z
    have gA' : ∀ W, Onward W2 W → Calls Try.prog 44 #[.slice A N ca, .int .i64 (x : Int)] W fun e W' => e = .returned (.agg #[.int .i64 z0, .int .i64 z1, .int .i64 z2]) ∧ Onward W2 W' := gA.out
    have gD2 : Gives Try.prog 43 #[.agg #[.int .i64 y0, .int .i64 y1, .int .i64 y2], .agg #[.int .i64 z0, .int .i64 z1, .int .i64 z2]] (.agg #[.int .i64 r0, .int .i64 r1, .int .i64 r2]) := gD'
    obtain ⟨⟨q0, q1, q2⟩, q3, q4⟩ := HV2.out.cells
    have hl1 : w1.heap.size + 1 < W2.heap.size := by omega
    have P0 := fun W' (k : Onward W2 W') => k.cell (b := w1.heap.size + 1) hl1 hsl2
    have P1 := fun W' (k : Onward W2 W') => k.cell q4 q0
    have P2 := fun W' (k : Onward W2 W') => k.cell q4 q1
    have P3 := fun W' (k : Onward W2 W') => k.cell q4 q2
    clear gA gD gD' hsl2 q0 q1 q2 q3 h1 h2 hk1 hbw hk hj hl hlt hs2 hk2 hpre hit hb5 hx5 hc5 hs5 hv5 hs4 hD
    gi_wp2
    refine region_keep_tail_round 5 (fun ⟨_, _, h⟩ => by cases h) (by kernel_rfl) (by kernel_rfl) (by kernel_rfl) ?_
    simp only [List.take_succ_cons, List.take_zero, List.drop_succ_cons, List.drop_zero]
    repeat (apply Go.Proofs.Ytbfpljnfalopdaa.L.wpKeep_yes; (focus rfl); (focus (intro W hW; go_simp; first | done | exact ⟨rfl, hW⟩ | rfl)); (focus (go_simp; first | done | rfl)))
    (apply Go.Proofs.Ytbfpljnfalopdaa.L.wpKeep_yes; (focus rfl); (focus (intro W hW; go_simp; first | exact gA' W hW | exact ⟨hW, gA' W hW⟩)); (focus (go_simp; first | done | rfl)))
    (apply Go.Proofs.Ytbfpljnfalopdaa.L.wpKeep_yes; (focus rfl); (focus (intro W hW; go_simp; first | exact Go.Proofs.Ytbfpljnfalopdaa.L.Gives.up gD2 hW | exact ⟨hW, Go.Proofs.Ytbfpljnfalopdaa.L.Gives.up gD2 hW⟩)); (focus (go_simp; first | done | rfl)))
    refine wpKeep_nil ?_
    intro W3 hW3
    have hv3 : VOwn W3 (w1.heap.size + 1 + 1 + 1) ⟨y0, y1, y2⟩ := Blk.below HV2.out hW3 q4
    obtain ⟨⟨q0, q1, q2⟩, q3, q5⟩ := hv3.cells
    have HE := Lib.hid (show Step D W2 (fun D' => SumJ (w1.heap.size + 1 + 1 + 1) G D' (pre ++ [x])) (((W3.setCell ⟨w1.heap.size + 1 + 1 + 1, 0, none⟩ (.int .i64 r0)).setCell ⟨w1.heap.size + 1 + 1 + 1, 1, none⟩ (.int .i64 r1)).setCell ⟨w1.heap.size + 1 + 1 + 1, 2, none⟩ (.int .i64 r2)) from
      ⟨D, ⟨by rw [HSm.out]; exact VOwn.store hv3 ⟨r0, r1, r2⟩, HDk.out⟩, fun k h => .inl h, (Kept.of_below hW3).trans ((store3_kept W3 _ _ _ _).mono fun i _ e => (HDk.out i).2 e)⟩)
    clear P0 P1 P2 P3 gA' gD2 hW3 hv3
    go_wp2_with fail
    exact HE.out
  case done =>
    intro D W hj hk hD hd
    obtain ⟨h1, h2⟩ := hj
    have hr5 : VOwn W (w1.heap.size + 1 + 1) Vec.zero := Blk.kept (Blk.below HRr.out Hb5.out (Blk.lt HRr.out)) hk (by rintro (h | h); have h' : w1.heap.size + 1 + 1 = w1.heap.size + 1 + 1 + 1 := h; omega; exact h)
    obtain ⟨r, hr⟩ : ∃ r, G (Tree.below c n) = r := ⟨_, rfl⟩
    rw [hr] at h1
    have HRe := Lib.hid hr
    obtain ⟨r0, r1, r2⟩ := r
    clear hr
    obtain ⟨⟨q0, q1, q2⟩, q3, q4⟩ := h1.cells
    obtain ⟨⟨p0, p1, p2⟩, p3, p4⟩ := hr5.cells
    have hbw : Below w1.heap.size w1 W := ((Kept.of_below (F := fun k => k = w1.heap.size + 1 + 1 + 1) (keeps_trans HB.out Hb5.out)).trans' hk (fun i hi h => by rcases h with h | h; exact h; exact h.elim)).below (Nat.le_refl _) (fun i h => by omega)
    have hW5 : w5.heap.size < W.heap.size := (Array.getElem?_eq_some_iff.1 hd).1
    have hst := VOwn.store hr5 ⟨r0, r1, r2⟩
    have hsk := store3_kept W (w1.heap.size + 1 + 1) (.int .i64 r0) (.int .i64 r1) (.int .i64 r2)
    have HE := Lib.hid (And.intro hst (And.intro hsk (And.intro hbw hd)))
    have HZ := Lib.hid (And.intro hs4 (And.intro hs5 hW5))
    clear h1 h2 hk hD hr5 hbw hd hst hsk hit hb5 hx5 hc5 hs5 hv5 hs4 hW5 q3
    go_wp2_with fail
    rw [HRe.out]
    generalize ((W.setCell ⟨w1.heap.size + 1 + 1, 0, none⟩ (.int .i64 r0)).setCell ⟨w1.heap.size + 1 + 1, 1, none⟩ (.int .i64 r1)).setCell ⟨w1.heap.size + 1 + 1, 2, none⟩ (.int .i64 r2) = Ws at *
    obtain ⟨hst, hsk, hbw, hd⟩ := HE.out
    obtain ⟨e4, e5, hW5⟩ := HZ.out
    have hd' : Ws.heap[w5.heap.size]? = some (.deferred (some [])) := (hsk.block _ hW5 (by show ¬ w5.heap.size = w1.heap.size + 1 + 1; omega)).trans hd
    have kd := kept_putObj Ws w5.heap.size (.deferred none)
    have hf : VOwn (Ws.putObj w5.heap.size (.deferred none)) (w1.heap.size + 1 + 1) ⟨r0, r1, r2⟩ := Blk.kept hst kd (by show ¬ w1.heap.size + 1 + 1 = w5.heap.size; omega)
    obtain ⟨⟨x0, x1, x2⟩, -, -⟩ := hf.cells
    refine ⟨by simp, .inl ⟨_, _, rfl, run_takeDeferred hd', ?_⟩⟩
    refine ⟨.agg #[.int .i64 r0, .int .i64 r1, .int .i64 r2], ?_, rfl, ?_⟩
    · simp only [Nat.zero_add] at x1 x2
      simp [results, Try.results58, go_sem, x0, x1, x2]
    · exact hbw.trans (((hsk.mono fun i _ (e : i = w1.heap.size + 1 + 1) => (show w1.heap.size ≤ i by omega)).trans' (G := fun i => w1.heap.size ≤ i) (kd.mono fun i _ (e : i = w5.heap.size) => (show w1.heap.size ≤ i by omega)) (fun i _ h => h)).below hbw.size (fun i h => h))
end Go.Proofs.Ytbfpljnfalopdaa.CfgW
