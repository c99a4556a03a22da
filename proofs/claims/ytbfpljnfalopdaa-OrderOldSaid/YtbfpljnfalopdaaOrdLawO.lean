/-
  Chapter 15: who has waited long comes ahead of whoever has not, over any world.
-/
import Derived.Test.YtbfpljnfalopdaaSrtM
import Derived.Test.YtbfpljnfalopdaaOrdFew
set_option linter.unusedVariables false
set_option linter.unusedSimpArgs false
namespace Go.Proofs.Ytbfpljnfalopdaa.OrdW
open Go Go.RowKit Go.Proofs.Ytbfpljnfalopdaa.L Go.Proofs.Ytbfpljnfalopdaa.CfgW Go.Proofs.Ytbfpljnfalopdaa.Srt

set_option maxRecDepth 100000 in
set_option maxHeartbeats 4000000 in
theorem lawold_any {w : World} {v1 v2 : Value} {c : Cfg.C} {now next : Int} {ps : List Ord.P} {vp : Value} {Ar : Option Addr} {nr cr : Nat} {h : List Nat} {vh : Value} (hc : CfgAt w (.agg #[v1, v2, .int .i64 c.half, .int .i64 c.age]) c) (hA : InI c.age) (hN : InI now) (hp : PSl w vp ps) (hh : FSl w vh h) (a b : Ord.P) (ha : POk a) (hb : POk b) :
    Calls Try.prog 9 #[.agg #[v1, v2, .int .i64 c.half, .int .i64 c.age, .int .i64 now, .int .i64 next, vp, .slice Ar nr cr, vh], .agg (prow a), .agg (prow b)] w fun e w' => e = .returned (.bool true) ∧ Below w.heap.size w w' := by
  obtain ⟨Ap, cp, rfl, -, -, -, -⟩ := id hp
  obtain ⟨Ah, ch, rfl, -, -, -⟩ := id hh
  have gF := few_any (now := now) (next := next) hc Ap Ar Ah ps.length cp nr cr h.length ch
  have aw := Lib.hid awake15
  obtain ⟨fb, hfb⟩ : ∃ x, fewB c ps.length nr h.length = x := ⟨_, rfl⟩
  rw [hfb] at gF
  have HFB := Lib.hid hfb
  have GC := Lib.hid (fun hf : fewB c ps.length nr h.length = true => And.intro (cmp_any (vp := .slice Ap ps.length cp) (vr := .slice Ar nr cr) (next := next) ⟨hc, (fewB_ok hf).len, (fewB_ok hf).wok, hh⟩ (fewB_ok hf).ne ⟨hA, hN⟩ a b ha.1 hb.1) (cmp_any (vp := .slice Ap ps.length cp) (vr := .slice Ar nr cr) (next := next) ⟨hc, (fewB_ok hf).len, (fewB_ok hf).wok, hh⟩ (fewB_ok hf).ne ⟨hA, hN⟩ b a hb.1 ha.1))
  have GO := Lib.hid (And.intro (old_any v1 v2 c.half c.age now a hA hN ha.1) (old_any v1 v2 c.half c.age now b hA hN hb.1))
  have HL := Lib.hid (fun (h1 : Ord.old c.age now a.since = true) (h2 : Ord.old c.age now b.since = false) => Ord.cmp_old (c := c) (h := h) (now := now) (a := a) (b := b) h1 h2)
  obtain ⟨r, hr⟩ : ∃ r, Ord.cmp c h now a b = r := ⟨_, rfl⟩
  obtain ⟨r', hr'⟩ : ∃ r, Ord.cmp c h now b a = r := ⟨_, rfl⟩
  obtain ⟨x, hx⟩ : ∃ x, Ord.old c.age now a.since = x := ⟨_, rfl⟩
  obtain ⟨y, hy⟩ : ∃ x, Ord.old c.age now b.since = x := ⟨_, rfl⟩
  rw [hr, hr'] at GC HL
  rw [hx, hy] at GO HL
  obtain ⟨half, hhalf⟩ : ∃ z, c.half = z := ⟨_, rfl⟩
  obtain ⟨age, hage⟩ : ∃ z, c.age = z := ⟨_, rfl⟩
  obtain ⟨np, hnp⟩ : ∃ z, ps.length = z := ⟨_, rfl⟩
  obtain ⟨nh, hnh⟩ : ∃ z, h.length = z := ⟨_, rfl⟩
  rw [hhalf, hage, hnp, hnh] at gF ⊢
  rw [hhalf, hage] at GO
  rw [hfb, hhalf, hage, hnp, hnh] at GC
  clear hc hA hN hp hh ha hb hr hr' hx hy hhalf hage hnp hnh hfb HFB
  obtain ⟨wq, hwq⟩ : ∃ x, ((w.alloc (.cells #[v1, v2, .int .i64 half, .int .i64 age, .int .i64 now, .int .i64 next, .slice Ap np cp, .slice Ar nr cr, .slice Ah nh ch] 53)).alloc (.cells (prow a) 57)).alloc (.cells (prow b) 57) = x := ⟨_, rfl⟩
  have hbw : Below w.heap.size w wq := by
    rw [← hwq]
    have hz : (w.alloc (.cells #[v1, v2, .int .i64 half, .int .i64 age, .int .i64 now, .int .i64 next, .slice Ap np cp, .slice Ar nr cr, .slice Ah nh ch] 53)).heap.size = w.heap.size + 1 := by simp
    (repeat' (first | (with_reducible exact Below.refl _ _) | (with_reducible assumption) | (with_reducible refine Below.alloc ?_ ?_ _) | (with_reducible refine Go.Proofs.Ytbfpljnfalopdaa.L.below_drewN ?_ _) | (with_reducible refine Below.drew ?_) | (with_reducible refine Below.setCell ?_ ?_ _) | (with_reducible refine Below.frame ?_ _) | go_size))
  have hsb : Blk wq w.heap.size 53 #[v1, v2, .int .i64 half, .int .i64 age, .int .i64 now, .int .i64 next, .slice Ap np cp, .slice Ar nr cr, .slice Ah nh ch] := by rw [← hwq]; exact Blk.alloc (Blk.alloc (Blk.new _ _ _) _) _
  have hpa : PBox wq (w.heap.size + 1) a := by
    rw [← hwq]
    have h := Blk.new (w.alloc (.cells #[v1, v2, .int .i64 half, .int .i64 age, .int .i64 now, .int .i64 next, .slice Ap np cp, .slice Ar nr cr, .slice Ah nh ch] 53)) 57 (prow a)
    simp only [World.size_alloc] at h
    exact Blk.alloc h _
  have hpb : PBox wq (w.heap.size + 1 + 1) b := by
    rw [← hwq]
    have h := Blk.new ((w.alloc (.cells #[v1, v2, .int .i64 half, .int .i64 age, .int .i64 now, .int .i64 next, .slice Ap np cp, .slice Ar nr cr, .slice Ah nh ch] 53)).alloc (.cells (prow a) 57)) 57 (prow b)
    simp only [World.size_alloc] at h
    exact h
  have HX := Lib.hid (And.intro hsb (And.intro hpa hpb))
  have HB := Lib.hid hbw
  have HWQ := Lib.hid hwq
  clear hsb hpa hpb hbw hwq
  obtain ⟨a0, a1, a2, ⟨a3, a4, a5⟩, a6, a7, a8, a9, a10⟩ := a
  obtain ⟨b0, b1, b2, ⟨b3, b4, b5⟩, b6, b7, b8, b9, b10⟩ := b
  simp only [prow] at *
  cases fb
  · have GF := Lib.hid (show GivesAt Try.prog w _ _ (.int .i64 0) from gF)
    clear gF GC GO HL
    go_enter Try.func9, Try.ntmps9
    go_wp2_with fail
    refine Eq.mp (congrArg (fun z => Calls Try.prog _ _ z _) HWQ.out.symm) ?_
    refine (GF.out _ HB.out).mono ?_
    rintro e w2 ⟨rfl, hb2⟩
    have HB2 := Lib.hid (keeps_trans HB.out hb2)
    clear hb2
    go_wp2_with fail
    refine (aw.out _).mono ?_
    rintro e w3 ⟨rfl, hb3⟩
    have HF := Lib.hid (keeps_trans HB2.out hb3)
    clear hb3
    go_wp2_with fail
    go_ret
    exact ⟨rfl, HF.out⟩
  · have GF := Lib.hid (show GivesAt Try.prog w _ _ (.int .i64 1) from gF)
    clear gF
    go_enter Try.func9, Try.ntmps9
    go_wp2_with fail
    refine Eq.mp (congrArg (fun z => Calls Try.prog _ _ z _) HWQ.out.symm) ?_
    refine (GF.out _ HB.out).mono ?_
    rintro e w2 ⟨rfl, hb2⟩
    have HB2 := Lib.hid (keeps_trans HB.out hb2)
    have hsb := Blk.below HX.out.1 hb2 (Blk.lt HX.out.1)
    have hlt2 := Blk.lt HX.out.2.2
    have S0 : ∀ W, Onward w2 W → W.cell? ⟨w.heap.size, 0, none⟩ = some v1 ∧ W.cell? ⟨w.heap.size, 1, none⟩ = some v2 ∧ W.cell? ⟨w.heap.size, 2, none⟩ = some (.int .i64 half) ∧ W.cell? ⟨w.heap.size, 3, none⟩ = some (.int .i64 age) ∧ W.cell? ⟨w.heap.size, 4, none⟩ = some (.int .i64 now) ∧ W.cell? ⟨w.heap.size, 5, none⟩ = some (.int .i64 next) ∧ W.cell? ⟨w.heap.size, 6, none⟩ = some (.slice Ap np cp) ∧ W.cell? ⟨w.heap.size, 7, none⟩ = some (.slice Ar nr cr) ∧ W.cell? ⟨w.heap.size, 8, none⟩ = some (.slice Ah nh ch) := fun W hW => by
      have h := Blk.below hsb hW (Blk.lt hsb)
      exact ⟨Blk.cell h 0, Blk.cell h 1, Blk.cell h 2, Blk.cell h 3, Blk.cell h 4, Blk.cell h 5, Blk.cell h 6, Blk.cell h 7, Blk.cell h 8⟩
    have A := fun W (k : Onward w2 W) => HX.out.2.1.cells W (keeps_trans hb2 k)
    have B := fun W (k : Onward w2 W) => HX.out.2.2.cells W (keeps_trans hb2 k)
    dsimp only at A B
    have S1 := S0 w2 (keeps_refl _)
    have A1 := A w2 (keeps_refl _)
    have B1 := B w2 (keeps_refl _)
    have HK := Lib.hid (And.intro S0 (And.intro A B))
    obtain ⟨gc0, gr0⟩ := GC.out trivial
    have GC0 := Lib.hid (And.intro (gc0.up HB2.out) (gr0.up HB2.out))
    have GO1 := Lib.hid GO.out.1
    have GO2 := Lib.hid GO.out.2
    clear gc0 gr0 hsb hb2 hlt2 GC GO GF S0 A B
    by_cases hz : age = 0
    · have tz : (age == 0) = true := by simp [hz]
      clear hz
      go_wp2_with fail
      refine (aw.out _).mono ?_
      rintro e w3 ⟨rfl, hb3⟩
      have HF := Lib.hid (keeps_trans HB2.out hb3)
      clear hb3
      go_wp2_with fail
      go_ret
      exact ⟨rfl, HF.out⟩
    · have tz : (age == 0) = false := by simp [hz]
      clear hz
      go_wp2_with fail
      refine (GO1.out _).mono ?_
      rintro e w3 ⟨rfl, hb3⟩
      have HB3 := Lib.hid (keeps_trans HB2.out hb3)
      cases x
      · clear hb3 S1 A1 B1 HK
        go_wp2_with fail
        refine (aw.out _).mono ?_
        rintro e w3 ⟨rfl, hb3⟩
        have HF := Lib.hid (keeps_trans HB3.out hb3)
        clear hb3
        go_wp2_with fail
        go_ret
        exact ⟨rfl, HF.out⟩
      · have S1 := HK.out.1 w3 hb3
        have A1 := HK.out.2.1 w3 hb3
        have B1 := HK.out.2.2 w3 hb3
        have HB23 := Lib.hid hb3
        clear hb3
        go_wp2_with fail
        refine (GO2.out _).mono ?_
        rintro e w4 ⟨rfl, hb4⟩
        have HB4 := Lib.hid (keeps_trans HB3.out hb4)
        have HB24 := Lib.hid (keeps_trans HB23.out hb4)
        clear hb4 S1 A1 B1
        cases y
        · obtain ⟨e1, e2⟩ := HL.out trivial rfl
          subst e1
          subst e2
          have S1 := HK.out.1 w4 HB24.out
          have A1 := HK.out.2.1 w4 HB24.out
          have B1 := HK.out.2.2 w4 HB24.out
          go_wp2_with fail
          refine (GC0.out.1 _ HB24.out).mono ?_
          rintro e w5 ⟨rfl, hb5⟩
          clear S1 A1 B1
          have S1 := HK.out.1 w5 hb5
          have A1 := HK.out.2.1 w5 hb5
          have B1 := HK.out.2.2 w5 hb5
          have HB5 := Lib.hid hb5
          clear hb5
          go_wp2_with fail
          refine (GC0.out.2 _ HB5.out).mono ?_
          rintro e w6 ⟨rfl, hb6⟩
          have HB6 := Lib.hid (keeps_trans HB2.out hb6)
          clear hb6 S1 A1 B1
          go_wp2_with fail
          refine (aw.out _).mono ?_
          rintro e w7 ⟨rfl, hb7⟩
          have HF := Lib.hid (keeps_trans HB6.out hb7)
          clear hb7
          go_wp2_with fail
          go_ret
          exact ⟨rfl, HF.out⟩
        · go_wp2_with fail
          refine (aw.out _).mono ?_
          rintro e w3 ⟨rfl, hb3⟩
          have HF := Lib.hid (keeps_trans HB4.out hb3)
          clear hb3
          go_wp2_with fail
          go_ret
          exact ⟨rfl, HF.out⟩
end Go.Proofs.Ytbfpljnfalopdaa.OrdW
