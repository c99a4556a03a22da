/-
  May a tenant use so much more: quota.May.
-/
import Derived.Test.YtbfpljnfalopdaaQuoAll
set_option linter.unusedVariables false
set_option linter.unusedSimpArgs false
namespace Go.Proofs.Ytbfpljnfalopdaa.CfgW
open Go Go.RowKit Go.Proofs.Ytbfpljnfalopdaa.L
attribute [local go_sem] Oper.semAt_some

/-- A truth value in a box of its own. -/
def BOwn (W : World) (b : Nat) (x : Bool) : Prop := Blk W b 4 #[.bool x]
/-- What the range in May keeps: all rules so far have said yes; the result's box says no. -/
def MayJ (c : Cfg.C) (xs : List Vec.V) (t : Int) (need : Vec.V) (b : Nat) (ok : Bool) (D : Nat → Prop) (pre : List Nat) (W : World) : Prop := (pre.all (Quo.mayAt c xs t need) = ok) ∧ BOwn W b false ∧ ∀ k, D k ↔ k = b
theorem mayJ_abide (c : Cfg.C) (xs : List Vec.V) (t : Int) (need : Vec.V) (b : Nat) (ok : Bool) (B : Nat) (own : Nat → Prop) : Abide B own (MayJ c xs t need b ok) :=
  ⟨fun D pre W ⟨_, h1, h2⟩ k hk => by
    have : k = b := (h2 k).1 hk
    subst this; exact Blk.lt h1, fun D pre W W' F ⟨h0, h1, h2⟩ kp hF => ⟨h0, Blk.kept h1 kp (fun h => (hF b (Blk.lt h1) h).1 ((h2 b).2 rfl)), h2⟩⟩

set_option maxRecDepth 100000 in
set_option maxHeartbeats 1000000 in
theorem may_any {w : World} {v va : Value} {c : Cfg.C} {xs : List Vec.V} (hc : CfgAt w v c) (hN : c.nodes.length ≤ 1000000) (ha : VSl w va xs) (t : Int) (need : Vec.V) : GivesAt Try.prog w 13 #[v, va, .int .i64 t, need.val] (.bool (Quo.may c xs t need)) := by
  intro w1 hb1
  replace hc := hc.below hb1
  replace ha := ha.below hb1
  clear hb1
  have gL := Lib.hid (leaf_any hc t)
  have HC := Lib.hid hc
  have HA := Lib.hid ha
  obtain ⟨v1, v2, rfl, ⟨A, ca, e1, hrA, hlA⟩, -⟩ := id hc
  obtain ⟨A5, c5, rfl, -, -⟩ := id ha
  obtain ⟨n0, n1, n2⟩ := need
  generalize xs.length = U at *
  generalize hhalf : c.half = half at *
  generalize hage : c.age = age at *
  have HR := Lib.hid hrA
  have HV1 := Lib.hid e1
  clear hc ha hhalf hage hrA e1
  show Calls Try.prog 13 #[.agg #[v1, v2, .int .i64 half, .int .i64 age], .slice A5 U c5, .int .i64 t, .agg #[.int .i64 n0, .int .i64 n1, .int .i64 n2]] w1 _
  have hw4 : Below w1.heap.size w1 ((((w1.alloc (.cells #[v1, v2, .int .i64 half, .int .i64 age] 25)).alloc (.cells #[.int .i64 t] 3)).alloc (.cells #[.int .i64 n0, .int .i64 n1, .int .i64 n2] 29)).alloc (.cells #[.bool false] 4)) := by (repeat' (first | (with_reducible exact Below.refl _ _) | (with_reducible assumption) | (with_reducible refine Below.alloc ?_ ?_ _) | (with_reducible refine Go.Proofs.Ytbfpljnfalopdaa.L.below_drewN ?_ _) | (with_reducible refine Below.drew ?_) | (with_reducible refine Below.setCell ?_ ?_ _) | (with_reducible refine Below.frame ?_ _) | go_size))
  have k0 : CBox ((((w1.alloc (.cells #[v1, v2, .int .i64 half, .int .i64 age] 25)).alloc (.cells #[.int .i64 t] 3)).alloc (.cells #[.int .i64 n0, .int .i64 n1, .int .i64 n2] 29)).alloc (.cells #[.bool false] 4)) w1.heap.size v1 v2 half age := by
    refine (CBox.new w1 v1 v2 half age).on ?_
    have hz : (w1.alloc (.cells #[v1, v2, .int .i64 half, .int .i64 age] 25)).heap.size = w1.heap.size + 1 := by simp
    (repeat' (first | (with_reducible exact Below.refl _ _) | (with_reducible assumption) | (with_reducible refine Below.alloc ?_ ?_ _) | (with_reducible refine Go.Proofs.Ytbfpljnfalopdaa.L.below_drewN ?_ _) | (with_reducible refine Below.drew ?_) | (with_reducible refine Below.setCell ?_ ?_ _) | (with_reducible refine Below.frame ?_ _) | go_size))
  have k1 : ((((w1.alloc (.cells #[v1, v2, .int .i64 half, .int .i64 age] 25)).alloc (.cells #[.int .i64 t] 3)).alloc (.cells #[.int .i64 n0, .int .i64 n1, .int .i64 n2] 29)).alloc (.cells #[.bool false] 4)).cell? ⟨w1.heap.size + 1, 0, none⟩ = some (.int .i64 t) := by simp [go_sem]
  have k2 : VBox3 ((((w1.alloc (.cells #[v1, v2, .int .i64 half, .int .i64 age] 25)).alloc (.cells #[.int .i64 t] 3)).alloc (.cells #[.int .i64 n0, .int .i64 n1, .int .i64 n2] 29)).alloc (.cells #[.bool false] 4)) (w1.heap.size + 1 + 1) 0 ⟨n0, n1, n2⟩ := by refine ⟨by simp, ?_, ?_, ?_⟩ <;> simp [go_sem]
  have k3 : BOwn ((((w1.alloc (.cells #[v1, v2, .int .i64 half, .int .i64 age] 25)).alloc (.cells #[.int .i64 t] 3)).alloc (.cells #[.int .i64 n0, .int .i64 n1, .int .i64 n2] 29)).alloc (.cells #[.bool false] 4)) (w1.heap.size + 1 + 1 + 1) false := by
    have h := Blk.new (((w1.alloc (.cells #[v1, v2, .int .i64 half, .int .i64 age] 25)).alloc (.cells #[.int .i64 t] 3)).alloc (.cells #[.int .i64 n0, .int .i64 n1, .int .i64 n2] 29)) 4 #[.bool false]
    simp only [World.size_alloc] at h
    exact h
  have hs4 : ((((w1.alloc (.cells #[v1, v2, .int .i64 half, .int .i64 age] 25)).alloc (.cells #[.int .i64 t] 3)).alloc (.cells #[.int .i64 n0, .int .i64 n1, .int .i64 n2] 29)).alloc (.cells #[.bool false] 4)).heap.size = w1.heap.size + 4 := by simp
  refine (callsIn_wide (n := 0)).1 (callsIn_of_wp_marks Try.func13 rfl trivial (wpIn_wide.2 ?_))
  simp only [Try.ntmps13, List.size_toArray, List.length_cons, List.length_nil, Nat.reduceAdd, Nat.reduceSub, Array.replicate_succ, Array.replicate_zero, List.push_toArray, List.append_toArray, List.nil_append, List.cons_append]
  have HW := Lib.hid (And.intro hw4 (And.intro k0 (And.intro k1 (And.intro k2 (And.intro k3 hs4)))))
  clear hw4 k0 k1 k2 k3 hs4
  go_wp2_with fail
  generalize (((w1.alloc (.cells #[v1, v2, .int .i64 half, .int .i64 age] 25)).alloc (.cells #[.int .i64 t] 3)).alloc (.cells #[.int .i64 n0, .int .i64 n1, .int .i64 n2] 29)).alloc (.cells #[.bool false] 4) = w4 at *
  refine (gL.out _ HW.out.1).mono ?_
  rintro e w5 ⟨rfl, hb5⟩
  obtain ⟨hw4, k0, k1, k2, k3, hs4⟩ := HW.out
  have hb15 := keeps_trans hw4 hb5
  have k1' := (hb5.cell (p := ⟨w1.heap.size + 1, 0, none⟩) (by show w1.heap.size + 1 < w4.heap.size; omega)).trans k1
  have HW5 := Lib.hid (And.intro hb15 (And.intro (k0.on hb5) (And.intro k1' (And.intro (k2.on hb5) (And.intro (Blk.below k3 hb5 (Blk.lt k3)) (show w1.heap.size + 4 ≤ w5.heap.size by have := hb5.size; omega))))))
  clear hw4 k0 k1 k2 k3 hs4 hb15 k1' hb5 HW gL
  by_cases hlf : Cfg.leaf c t = true
  · rw [hlf]
    obtain ⟨hb, k0, k1, k2, k3, hs⟩ := HW5.out
    obtain ⟨y0, y1, y2, y3, y4⟩ := k0
    obtain ⟨z0, z1, z2, z3⟩ := k2
    simp only [Nat.zero_add] at z1 z2 z3
    clear hb k3
    go_wp2_with fail
    refine (rules_any A5 U c5 t n0 n1 n2).mono ?_
    rintro e w6 ⟨rfl, hb6, c0, c1, c2, c3⟩
    unfold own56 all57
    obtain ⟨hb, k0, k1', k2, k3, hs'⟩ := HW5.out
    have HB6 := Lib.hid (keeps_trans hb hb6)
    have Hs5 := Lib.hid hs'
    have HK3 := Lib.hid (Blk.below k3 hb6 (Blk.lt k3))
    have HR6 := Lib.hid (show RuleAt w6 w5.heap.size (w5.heap.size + 1) (w5.heap.size + 1 + 1) (w5.heap.size + 1 + 1 + 1) v1 v2 (.slice A5 U c5) half age t ⟨n0, n1, n2⟩ c xs from
      ⟨HC.out.below (keeps_trans hb hb6), c0, HA.out.below (keeps_trans hb hb6), ⟨by have := c3.1; omega, c1⟩, ⟨by have := c3.1; omega, c2⟩, c3⟩)
    have HX6 := Lib.hid (k0.on hb6)
    have HT6 := Lib.hid ((hb6.cell (p := ⟨w1.heap.size + 1, 0, none⟩) (by show w1.heap.size + 1 < w5.heap.size; omega)).trans k1')
    have hs6 : w1.heap.size + 4 ≤ w6.heap.size := by have := hb6.size; omega
    have hs56 : w5.heap.size + 4 ≤ w6.heap.size := by have := c3.1; omega
    clear hb hb6 c0 c1 c2 c3 k0 k1 k1' k2 k3 y0 y1 y2 y3 y4 z0 z1 z2 z3 hs hs'
    obtain ⟨y0, y1, y2, y3, y4⟩ := HX6.out
    have y5 := HT6.out
    obtain ⟨bt, hbt⟩ : ∃ bt, w1.heap.size + 1 = bt := ⟨_, rfl⟩
    rw [hbt] at y5 ⊢
    have Hbt := Lib.hid hbt
    have i0 : ¬ w1.heap.size = w6.heap.size := fun e => by omega
    have i1 : ¬ w1.heap.size = w6.heap.size + 1 := fun e => by omega
    have i2 : ¬ bt = w6.heap.size := fun e => by omega
    have i3 : ¬ bt = w6.heap.size + 1 := fun e => by omega
    have i4 : bt < w6.heap.size := by omega
    clear hbt
    go_wp2_with fail
    refine (up_val v1 v2 half age t _).mono ?_
    rintro e w7 ⟨rfl, rfl⟩
    go_wp2_with fail
    clear y0 y1 y2 y3 y4 y5 i0 i1 i2 i3
    obtain ⟨wq, hwq⟩ : ∃ wq, (w6.alloc (.cells #[.func (.func 56) #[] #[.pointer (some ⟨w5.heap.size, 0, none⟩), .pointer (some ⟨w5.heap.size + 1, 0, none⟩), .pointer (some ⟨w5.heap.size + 1 + 1 + 1, 0, none⟩)]] 70)).alloc (.cells #[.func (.func 57) #[] #[.pointer (some ⟨w5.heap.size, 0, none⟩), .pointer (some ⟨w5.heap.size + 1, 0, none⟩), .pointer (some ⟨w5.heap.size + 1 + 1 + 1, 0, none⟩), .pointer (some ⟨w5.heap.size + 1 + 1, 0, none⟩)]] 70) = wq := ⟨_, rfl⟩
    rw [hwq]
    have hq0 : wq.heap.size = w6.heap.size + 1 + 1 := by rw [← hwq]; simp
    have hq1 : Below w6.heap.size w6 wq := by rw [← hwq]; (repeat' (first | (with_reducible exact Below.refl _ _) | (with_reducible assumption) | (with_reducible refine Below.alloc ?_ ?_ _) | (with_reducible refine Go.Proofs.Ytbfpljnfalopdaa.L.below_drewN ?_ _) | (with_reducible refine Below.drew ?_) | (with_reducible refine Below.setCell ?_ ?_ _) | (with_reducible refine Below.frame ?_ _) | go_size))
    have hq2 : wq.cell? ⟨w6.heap.size, 0, none⟩ = some (own56 w5.heap.size) := by rw [← hwq]; simp [go_sem, own56]
    have hq3 : wq.cell? ⟨w6.heap.size + 1, 0, none⟩ = some (all57 w5.heap.size) := by rw [← hwq]; simp [go_sem, all57]
    obtain ⟨w8, hw8⟩ : ∃ w8, (wq.alloc (.cells #[v1, v2, .int .i64 half, .int .i64 age] 25)).alloc (.cells #[.int .i64 t] 3) = w8 := ⟨_, rfl⟩
    rw [hw8, ← hq0]
    have h80 : w8.heap.size = wq.heap.size + 2 := by rw [← hw8]; simp
    have h81 : Below wq.heap.size wq w8 := by rw [← hw8]; (repeat' (first | (with_reducible exact Below.refl _ _) | (with_reducible assumption) | (with_reducible refine Below.alloc ?_ ?_ _) | (with_reducible refine Go.Proofs.Ytbfpljnfalopdaa.L.below_drewN ?_ _) | (with_reducible refine Below.drew ?_) | (with_reducible refine Below.setCell ?_ ?_ _) | (with_reducible refine Below.frame ?_ _) | go_size))
    have h68 : Below w6.heap.size w6 w8 := keeps_trans hq1 h81
    have hne : c.nodes ≠ [] := fun e => by
      have := (Tree.leaf_lt hlf)
      rw [e] at this; simp at this; omega
    obtain ⟨bA, oA, eA, hbA, -⟩ := HR.out hne
    have hwb : w1.heap.size ≤ w6.heap.size := by omega
    have hUp : UpAt w8 (wq.heap.size + 1) wq.heap.size A c.nodes.length ca v2 half age c.nodes t := by
      refine ⟨by rw [← hw8]; simp [go_sem], by rw [← hw8]; simp [go_sem], by omega, ?_, HR.out.below (keeps_trans HB6.out h68)⟩
      rw [← HV1.out, ← hw8]
      exact (CBox.new wq v1 v2 half age).on ((Below.refl _ _).alloc (Nat.le_refl _) _)
    have HQ := Lib.hid (And.intro ((h81.cell (p := ⟨w6.heap.size, 0, none⟩) (by show w6.heap.size < wq.heap.size; omega)).trans hq2) ((h81.cell (p := ⟨w6.heap.size + 1, 0, none⟩) (by show w6.heap.size + 1 < wq.heap.size; omega)).trans hq3))
    have HR8 := Lib.hid (HR6.out.on h68)
    have HB8 := Lib.hid (keeps_trans HB6.out h68)
    have hbt := Hbt.out
    have HT8 := Lib.hid ((h68.cell (p := ⟨bt, 0, none⟩) (by show bt < w6.heap.size; omega)).trans (hbt ▸ HT6.out))
    have HK6 : BOwn w6 (bt + 1 + 1) false := hbt ▸ HK3.out
    have HK8 : BOwn w8 (bt + 1 + 1) false := Blk.below HK6 h68 (Blk.lt HK6)
    have HS := Lib.hid (And.intro hq0 h80)
    clear hwq hq1 hq2 hq3 hw8 h81 HX6 HT6 HK3 HK6 HW5
    refine (wpIn_wide (n := 0)).1 (range_iter (up_iter c hlA t (by omega : wq.heap.size + 1 ≠ wq.heap.size) (fun b o e => by rw [eA] at e; cases e; omega)) rfl (fun _ _ => by kernel_rfl) rfl
      (fun W' hb => hUp.kept (Kept.of_below (F := fun _ => False) hb) (fun h => h) (fun h => h) (fun _ _ _ h => h))
      (fun i hi => by
        rcases hi with rfl | rfl | ⟨o, ho⟩
        · omega
        · omega
        · rw [eA] at ho; cases ho; omega) (fun i hi => .inl hi)
      (MayJ c xs t ⟨n0, n1, n2⟩ (bt + 1 + 1) true) (MayJ c xs t ⟨n0, n1, n2⟩ (bt + 1 + 1) false) (mayJ_abide _ _ _ _ _ _ _ _) (mayJ_abide _ _ _ _ _ _ _ _)
      (fun k => k = bt + 1 + 1) (fun i hi h => by
        rcases hi with rfl | rfl | ⟨o, ho⟩
        · omega
        · omega
        · rw [eA] at ho; cases ho; omega)
      ⟨rfl, HK8, fun k => Iff.rfl⟩ ?round ?done ?stop)
    case round =>
      intro l m D pre x rest W hl hpre hj hk hD hlt
      gi_wp2
      refine ⟨trivial, fun W2 hj2 hk2 hs2 => ?_⟩
      obtain ⟨hj0, hj1, hj3⟩ := hj2
      have hxn : x < c.nodes.length := (Tree.up_lt c t x (by rw [hpre]; simp)).1
      have hK18 : Kept (fun k => k = bt + 1 + 1 ∨ k = wq.heap.size + 1) w1 W2 := (Kept.of_below HB8.out).trans' hk2 (fun i _ h => h)
      have hB12 : Below w1.heap.size w1 W2 := hK18.below (Nat.le_refl _) (fun i h => by omega)
      have hr8 := HR8.out
      have hRule : RuleAt W2 w5.heap.size (w5.heap.size + 1) (w5.heap.size + 1 + 1) (w5.heap.size + 1 + 1 + 1) v1 v2 (.slice A5 U c5) half age t ⟨n0, n1, n2⟩ c xs := by
        have hn : ∀ j, j < 4 → ¬ (w5.heap.size + j = bt + 1 + 1 ∨ w5.heap.size + j = wq.heap.size + 1) := fun j hj => by
          have := hr8.need.1
          have h5 : w1.heap.size + 4 ≤ w5.heap.size := Hs5.out
          omega
        refine ⟨HC.out.below hB12, hr8.box.kept hk2 (hn 0 (by omega)), HA.out.below hB12, ⟨Nat.lt_of_lt_of_le hr8.use.1 hk2.size, (hk2.cell (p := ⟨w5.heap.size + 1, 0, none⟩) hr8.use.1 (hn 1 (by omega))).trans hr8.use.2⟩,
          ⟨Nat.lt_of_lt_of_le hr8.ten.1 hk2.size, (hk2.cell (p := ⟨w5.heap.size + 1 + 1, 0, none⟩) hr8.ten.1 (hn 2 (by omega))).trans hr8.ten.2⟩, hr8.need.kept hk2 (hn 3 (by omega))⟩
      have y0 : W2.cell? ⟨w6.heap.size, 0, none⟩ = some (own56 w5.heap.size) := (hk2.cell (p := ⟨w6.heap.size, 0, none⟩) (by show w6.heap.size < w8.heap.size; omega) (by show ¬ (w6.heap.size = bt + 1 + 1 ∨ w6.heap.size = wq.heap.size + 1); omega)).trans HQ.out.1
      have y1 : W2.cell? ⟨w6.heap.size + 1, 0, none⟩ = some (all57 w5.heap.size) := (hk2.cell (p := ⟨w6.heap.size + 1, 0, none⟩) (by show w6.heap.size + 1 < w8.heap.size; omega) (by show ¬ (w6.heap.size + 1 = bt + 1 + 1 ∨ w6.heap.size + 1 = wq.heap.size + 1); omega)).trans HQ.out.2
      have y2 : W2.cell? ⟨bt, 0, none⟩ = some (.int .i64 t) := (hk2.cell (p := ⟨bt, 0, none⟩) (by show bt < w8.heap.size; omega) (by show ¬ (bt = bt + 1 + 1 ∨ bt = wq.heap.size + 1); omega)).trans HT8.out
      unfold own56 at y0
      unfold all57 at y1
      have hat : (pre ++ [x]).all (Quo.mayAt c xs t ⟨n0, n1, n2⟩) = Quo.mayAt c xs t ⟨n0, n1, n2⟩ x := by rw [List.all_append, hj0]; simp
      have HRule := Lib.hid hRule
      have HAt := Lib.hid hat
      have HJ1 := Lib.hid hj1
      have HJ3 := Lib.hid hj3
      have hbs : bt + 1 + 1 < W2.heap.size := Blk.lt hj1
      clear hj hk hk2 hK18 hB12 hr8 hRule hat hj0 hj1 hj3 hpre hl hlt hs2 HK8 hD hUp h80 h68
      have fin : ∀ (W3 : World) (r : Bool), Below W2.heap.size W2 W3 → Quo.mayAt c xs t ⟨n0, n1, n2⟩ x = r → Step D W2 (fun D' => MayJ c xs t ⟨n0, n1, n2⟩ (bt + 1 + 1) r D' (pre ++ [x])) W3 := fun W3 r hb hr =>
        ⟨D, ⟨HAt.out.trans hr, Blk.below HJ1.out hb (Blk.lt HJ1.out), HJ3.out⟩, fun k h => .inl h, Kept.of_below hb⟩
      have fin2 : ∀ (W3 : World), Below W2.heap.size W2 W3 → Quo.mayAt c xs t ⟨n0, n1, n2⟩ x = false → (W3.cell? ⟨bt + 1 + 1, 0, none⟩ = some (.bool false) ∧ W3.frozen? ⟨bt + 1 + 1, 0, none⟩ = false) ∧ Step D W2 (fun D' => MayJ c xs t ⟨n0, n1, n2⟩ (bt + 1 + 1) false D' (pre ++ [x])) (W3.setCell ⟨bt + 1 + 1, 0, none⟩ (.bool false)) := fun W3 hb hr => by
        have h3 := Blk.below HJ1.out hb (Blk.lt HJ1.out)
        refine ⟨⟨Blk.cell h3 0, Blk.frozen h3 0⟩, D, ⟨HAt.out.trans hr, Blk.set_ h3 0 _, HJ3.out⟩, fun k h => .inl h, (Kept.of_below hb).trans ?_⟩
        exact (Kept.refl D W3).setCell (p := ⟨bt + 1 + 1, 0, none⟩) (.inl ((HJ3.out _).2 rfl)) _
      have HF := Lib.hid fin
      have HF2 := Lib.hid fin2
      clear fin fin2
      by_cases hxt : (x : Int) = t
      · have hm : Quo.mayAt c xs t ⟨n0, n1, n2⟩ x = Quo.mayOwn c xs ⟨n0, n1, n2⟩ x := by unfold Quo.mayAt; rw [if_pos hxt]
        have g := own56_any HRule.out x hxn
        have te : ((x : Int) == t) = true := by simpa using hxt
        have tn : ((x : Int) != t) = false := by simpa using hxt
        obtain ⟨r, hr⟩ : ∃ r, Quo.mayOwn c xs ⟨n0, n1, n2⟩ x = r := ⟨_, rfl⟩
        rw [hr] at g hm
        have G := Lib.hid g
        have HM := Lib.hid hm
        clear g hm hr hxt
        refine wpIn_block ?_
        apply wpIn_seq_k
        intro K hK
        refine region_round (fun ⟨_, _, h⟩ => by cases h) rfl ?_
        go_wp2_with fail
        refine G.out.mono ?_
        rintro e W3 ⟨rfl, hb3⟩
        have HB3 := Lib.hid hb3
        have y3 := (hb3.cell (p := ⟨bt, 0, none⟩) (by show bt < W2.heap.size; omega)).trans y2
        clear hb3 y0 y1 y2
        cases r
        · obtain ⟨⟨p0, p1⟩, p2⟩ := HF2.out W3 HB3.out HM.out
          have HS2 := Lib.hid p2
          clear p2
          go_wp2_with fail
          gi_wp2
          exact HS2.out
        · have HS2 := Lib.hid (HF.out W3 true HB3.out HM.out)
          go_wp2_with fail
          gi_wp2
          exact HS2.out
      · have hm : Quo.mayAt c xs t ⟨n0, n1, n2⟩ x = Quo.mayAll c xs t ⟨n0, n1, n2⟩ x := by unfold Quo.mayAt; rw [if_neg hxt]
        have g := all57_any HRule.out hN x
        have te : ((x : Int) == t) = false := by simpa using hxt
        have tn : ((x : Int) != t) = true := by simpa using hxt
        obtain ⟨r, hr⟩ : ∃ r, Quo.mayAll c xs t ⟨n0, n1, n2⟩ x = r := ⟨_, rfl⟩
        rw [hr] at g hm
        have G := Lib.hid g
        have HM := Lib.hid hm
        clear g hm hr hxt
        refine wpIn_block ?_
        apply wpIn_seq_k
        intro K hK
        refine region_round (fun ⟨_, _, h⟩ => by cases h) rfl ?_
        go_wp2_with fail
        refine G.out.mono ?_
        rintro e W3 ⟨rfl, hb3⟩
        have HB3 := Lib.hid hb3
        clear hb3 y0 y1 y2
        cases r
        · obtain ⟨⟨p0, p1⟩, p2⟩ := HF2.out W3 HB3.out HM.out
          have HS2 := Lib.hid p2
          clear p2
          go_wp2_with fail
          gi_wp2
          exact HS2.out
        · have HS2 := Lib.hid (HF.out W3 true HB3.out HM.out)
          go_wp2_with fail
          gi_wp2
          exact HS2.out
    case done =>
      intro D W hj hk hD hd
      obtain ⟨hj0, hj1, hj3⟩ := hj
      have hmay : Quo.may c xs t ⟨n0, n1, n2⟩ = true := by unfold Quo.may; rw [hlf, hj0]; rfl
      have HMay := Lib.hid hmay
      have hbw : Below w1.heap.size w1 W := ((Kept.of_below HB8.out).trans' hk (fun i _ h => h)).below (Nat.le_refl _) (fun i h => by omega)
      have q0 := Blk.cell hj1 0
      have q1 := Blk.frozen hj1 0
      have q2 := Blk.lt hj1
      have hWd : w8.heap.size < W.heap.size := (Array.getElem?_eq_some_iff.1 hd).1
      have ks : Kept (fun i => i = bt + 1 + 1) W (W.setCell ⟨bt + 1 + 1, 0, none⟩ (.bool true)) := (Kept.refl (fun i => i = bt + 1 + 1) W).setCell (p := ⟨bt + 1 + 1, 0, none⟩) (.inl rfl) _
      have hd' := (ks.block w8.heap.size hWd (by show ¬ w8.heap.size = bt + 1 + 1; omega)).trans hd
      have HE := Lib.hid (And.intro (Blk.set_ hj1 0 (.bool true)) (And.intro (hbw.trans (ks.below hbw.size (fun i (e : i = bt + 1 + 1) => by omega))) (And.intro hd' (show ¬ bt + 1 + 1 = w8.heap.size by omega))))
      simp only [List.getElem?_toArray, List.getElem?_cons_zero] at q0
      clear hj0 hj1 hj3 hk hD hd hbw ks hd' hmay hUp HK8
      go_wp2_with fail
      rw [HMay.out]
      generalize W.setCell ⟨bt + 1 + 1, 0, none⟩ (.bool true) = Wf at *
      obtain ⟨hst, hbw, hd, hne8⟩ := HE.out
      have kd := kept_putObj Wf w8.heap.size (.deferred none)
      have hf := Blk.kept hst kd hne8
      have x0 := Blk.cell hf 0
      simp only [List.setIfInBounds_toArray, List.set_cons_zero, List.getElem?_toArray, List.getElem?_cons_zero] at x0
      refine ⟨by simp, .inl ⟨_, _, rfl, run_takeDeferred hd, ?_⟩⟩
      refine ⟨.bool true, by simp [results, Try.results13, go_sem, x0], rfl, ?_⟩
      exact hbw.trans (kd.below hbw.size (fun i (e : i = w8.heap.size) => by omega))
    case stop =>
      intro D pre W hpf hj hk hD hd
      obtain ⟨hj0, hj1, hj3⟩ := hj
      have hmay : Quo.may c xs t ⟨n0, n1, n2⟩ = false := by
        unfold Quo.may
        rw [hlf, Bool.true_and]
        obtain ⟨r, hr⟩ := hpf
        rw [← hr, List.all_append, hj0]
        rfl
      have hbw : Below w1.heap.size w1 W := ((Kept.of_below HB8.out).trans' hk (fun i _ h => h)).below (Nat.le_refl _) (fun i h => by omega)
      have hWd : w8.heap.size < W.heap.size := (Array.getElem?_eq_some_iff.1 hd).1
      have HE := Lib.hid (And.intro hj1 (And.intro hbw (And.intro hd (And.intro (show ¬ bt + 1 + 1 = w8.heap.size by omega) hmay))))
      clear hj0 hj1 hj3 hk hD hd hbw hmay hUp HK8
      simp only [Exit.inBlock]
      go_wp2_with fail
      obtain ⟨hst, hbw, hd, hne8, hmay⟩ := HE.out
      rw [hmay]
      have kd := kept_putObj W w8.heap.size (.deferred none)
      have hf := Blk.kept hst kd hne8
      have x0 := Blk.cell hf 0
      simp only [List.getElem?_toArray, List.getElem?_cons_zero] at x0
      refine ⟨by simp, .inl ⟨_, _, rfl, run_takeDeferred hd, ?_⟩⟩
      refine ⟨.bool false, by simp [results, Try.results13, go_sem, x0], rfl, ?_⟩
      exact hbw.trans (kd.below hbw.size (fun i (e : i = w8.heap.size) => by omega))
  · have hlf' : Cfg.leaf c t = false := by simpa using hlf
    have hmay : Quo.may c xs t ⟨n0, n1, n2⟩ = false := by unfold Quo.may; rw [hlf']; rfl
    rw [hlf']
    have HMay := Lib.hid hmay
    obtain ⟨hb, k0, k1, k2, k3, hs⟩ := HW5.out
    have q0 := Blk.cell k3 0
    have q1 := Blk.frozen k3 0
    have q2 := Blk.lt k3
    have ks : Kept (fun i => i = w1.heap.size + 1 + 1 + 1) w5 (w5.setCell ⟨w1.heap.size + 1 + 1 + 1, 0, none⟩ (.bool false)) := (Kept.refl (fun i => i = w1.heap.size + 1 + 1 + 1) w5).setCell (p := ⟨w1.heap.size + 1 + 1 + 1, 0, none⟩) (.inl rfl) _
    have HE := Lib.hid (And.intro (Blk.set_ k3 0 (.bool false)) (hb.trans (ks.below hb.size (fun i (e : i = w1.heap.size + 1 + 1 + 1) => by omega))))
    simp only [List.getElem?_toArray, List.getElem?_cons_zero] at q0
    clear hb k0 k1 k2 k3 hs ks hmay hlf hlf'
    go_wp2_with fail
    rw [HMay.out]
    generalize w5.setCell ⟨w1.heap.size + 1 + 1 + 1, 0, none⟩ (.bool false) = w6 at *
    have x0 := Blk.cell HE.out.1 0
    simp only [List.setIfInBounds_toArray, List.set_cons_zero, List.getElem?_toArray, List.getElem?_cons_zero] at x0
    exact ⟨.bool false, by simp [results, Try.results13, go_sem, x0], rfl, HE.out.2⟩
end Go.Proofs.Ytbfpljnfalopdaa.CfgW
