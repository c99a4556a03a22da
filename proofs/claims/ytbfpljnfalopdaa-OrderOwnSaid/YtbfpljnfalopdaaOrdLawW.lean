/-
  Chapter 15: of one tenant's gangs, both old or neither, the one that was submitted first comes first, over any world.
-/
import Derived.Test.YtbfpljnfalopdaaSrtM
import Derived.Test.YtbfpljnfalopdaaOrdFew
set_option linter.unusedVariables false
set_option linter.unusedSimpArgs false
namespace Go.Proofs.Ytbfpljnfalopdaa.OrdW
open Go Go.RowKit Go.Proofs.Ytbfpljnfalopdaa.L Go.Proofs.Ytbfpljnfalopdaa.CfgW Go.Proofs.Ytbfpljnfalopdaa.Srt

set_option maxRecDepth 100000 in
set_option maxHeartbeats 4000000 in
theorem lawown15_any {w : World} {v1 v2 : Value} {c : Cfg.C} {now next : Int} {ps : List Ord.P} {vp : Value} {Ar : Option Addr} {nr cr : Nat} {h : List Nat} {vh : Value} (hc : CfgAt w (.agg #[v1, v2, .int .i64 c.half, .int .i64 c.age]) c) (hA : InI c.age) (hN : InI now) (hp : PSl w vp ps) (hh : FSl w vh h) (a b : Ord.P) (ha : POk a) (hb : POk b) :
    Calls Try.prog 10 #[.agg #[v1, v2, .int .i64 c.half, .int .i64 c.age, .int .i64 now, .int .i64 next, vp, .slice Ar nr cr, vh], .agg (prow a), .agg (prow b)] w fun e w' => e = .returned (.bool true) ∧ Below w.heap.size w w' := by
  obtain ⟨Ap, cp, rfl, -, -, -, -⟩ := id hp
  obtain ⟨Ah, ch, rfl, -, -, -⟩ := id hh
  have gF := few_any (now := now) (next := next) hc Ap Ar Ah ps.length cp nr cr h.length ch
  have aw := Lib.hid awake15
  obtain ⟨fb, hfb⟩ : ∃ x, fewB c ps.length nr h.length = x := ⟨_, rfl⟩
  rw [hfb] at gF
  have HFB := Lib.hid hfb
  obtain ⟨bb, hbb⟩ : ∃ z : Ord.P, ({ b with tenant := a.tenant } : Ord.P) = z := ⟨_, rfl⟩
  have hb1 : bb.since = b.since := by rw [← hbb]
  have hb2 : bb.seq = b.seq := by rw [← hbb]
  have hb3 : a.tenant = bb.tenant := by rw [← hbb]
  have hbO : POk bb := ⟨by rw [hb1]; exact hb.1, by rw [hb2]; exact hb.2⟩
  have GC := Lib.hid (fun hf : fewB c ps.length nr h.length = true => cmp_any (vp := .slice Ap ps.length cp) (vr := .slice Ar nr cr) (next := next) ⟨hc, (fewB_ok hf).len, (fewB_ok hf).wok, hh⟩ (fewB_ok hf).ne ⟨hA, hN⟩ a bb ha.1 hbO.1)
  have GO := Lib.hid (And.intro (old_any v1 v2 c.half c.age now a hA hN ha.1) (old_any v1 v2 c.half c.age now bb hA hN hbO.1))
  have HL := Lib.hid (fun (h1 : Ord.old c.age now a.since = Ord.old c.age now bb.since) (h2 : a.seq < bb.seq) => Ord.cmp_own (c := c) (h := h) (now := now) (a := a) (b := bb) hb3 h1 h2)
  obtain ⟨r, hr⟩ : ∃ r, Ord.cmp c h now a bb = r := ⟨_, rfl⟩
  obtain ⟨x, hx⟩ : ∃ x, Ord.old c.age now a.since = x := ⟨_, rfl⟩
  obtain ⟨y, hy⟩ : ∃ x, Ord.old c.age now bb.since = x := ⟨_, rfl⟩
  rw [hr] at GC HL
  rw [hx, hy] at GO HL
  obtain ⟨half, hhalf⟩ : ∃ z, c.half = z := ⟨_, rfl⟩
  obtain ⟨age, hage⟩ : ∃ z, c.age = z := ⟨_, rfl⟩
  obtain ⟨np, hnp⟩ : ∃ z, ps.length = z := ⟨_, rfl⟩
  obtain ⟨nh, hnh⟩ : ∃ z, h.length = z := ⟨_, rfl⟩
  rw [hhalf, hage, hnp, hnh] at gF ⊢
  rw [hhalf, hage] at GO
  rw [hfb, hhalf, hage, hnp, hnh] at GC
  clear hc hA hN hp hh ha hb hr hx hy hhalf hage hnp hnh hfb HFB hb1 hb2 hb3 hbO
  obtain ⟨wq, hwq⟩ : ∃ x, ((w.alloc (.cells #[v1, v2, .int .i64 half, .int .i64 age, .int .i64 now, .int .i64 next, .slice Ap np cp, .slice Ar nr cr, .slice Ah nh ch] 53)).alloc (.cells (prow a) 57)).alloc (.cells (prow bb) 57) = x := ⟨_, rfl⟩
  have hbw : Below w.heap.size w wq := by
    rw [← hwq]
    have hz : (w.alloc (.cells #[v1, v2, .int .i64 half, .int .i64 age, .int .i64 now, .int .i64 next, .slice Ap np cp, .slice Ar nr cr, .slice Ah nh ch] 53)).heap.size = w.heap.size + 1 := by simp
    (repeat' (first | (with_reducible exact Below.refl _ _) | (with_reducible assumption) | (with_reducible refine Below.alloc ?_ ?_ _) | (with_reducible refine Go.Proofs.Ytbfpljnfalopdaa.L.below_drewN ?_ _) | (with_reducible refine Below.drew ?_) | (with_reducible refine Below.setCell ?_ ?_ _) | (with_reducible refine Below.frame ?_ _) | go_size))
  have hsb : Blk wq w.heap.size 53 #[v1, v2, .int .i64 half, .int .i64 age, .int .i64 now, .int .i64 next, .slice Ap np cp, .slice Ar nr cr, .slice Ah nh ch] := by rw [← hwq]; exact Blk.alloc (Blk.alloc (Blk.new _ _ _) _) _
  have hpa : PBox wq (w.heap.size + 1) a := by
    rw [← hwq]
    have h := Blk.new (w.alloc (.cells #[v1, v2, .int .i64 half, .int .i64 age, .int .i64 now, .int .i64 next, .slice Ap np cp, .slice Ar nr cr, .slice Ah nh ch] 53)) 57 (prow a)
    simp only [World.size_alloc] at h
    exact Blk.alloc h _
  have hpb : PBox wq (w.heap.size + 1 + 1) bb := by
    rw [← hwq]
    have h := Blk.new ((w.alloc (.cells #[v1, v2, .int .i64 half, .int .i64 age, .int .i64 now, .int .i64 next, .slice Ap np cp, .slice Ar nr cr, .slice Ah nh ch] 53)).alloc (.cells (prow a) 57)) 57 (prow bb)
    simp only [World.size_alloc] at h
    exact h
  have HX := Lib.hid (And.intro hsb (And.intro hpa hpb))
  have HB := Lib.hid hbw
  have HWQ := Lib.hid hwq
  clear hsb hpa hpb hbw hwq
  subst hbb
  obtain ⟨a0, a1, a2, ⟨a3, a4, a5⟩, a6, a7, a8, a9, a10⟩ := a
  obtain ⟨b0, b1, b2, ⟨b3, b4, b5⟩, b6, b7, b8, b9, b10⟩ := b
  simp only [prow] at *
  have hsb := Blk.below HX.out.1 (keeps_refl wq) (Blk.lt HX.out.1)
  have hlt2 := HX.out.2.2
  have S0 : ∀ W, Onward wq W → W.cell? ⟨w.heap.size, 0, none⟩ = some v1 ∧ W.cell? ⟨w.heap.size, 1, none⟩ = some v2 ∧ W.cell? ⟨w.heap.size, 2, none⟩ = some (.int .i64 half) ∧ W.cell? ⟨w.heap.size, 3, none⟩ = some (.int .i64 age) ∧ W.cell? ⟨w.heap.size, 4, none⟩ = some (.int .i64 now) ∧ W.cell? ⟨w.heap.size, 5, none⟩ = some (.int .i64 next) ∧ W.cell? ⟨w.heap.size, 6, none⟩ = some (.slice Ap np cp) ∧ W.cell? ⟨w.heap.size, 7, none⟩ = some (.slice Ar nr cr) ∧ W.cell? ⟨w.heap.size, 8, none⟩ = some (.slice Ah nh ch) := fun W hW => by
    have h := Blk.below hsb hW (Blk.lt hsb)
    exact ⟨Blk.cell h 0, Blk.cell h 1, Blk.cell h 2, Blk.cell h 3, Blk.cell h 4, Blk.cell h 5, Blk.cell h 6, Blk.cell h 7, Blk.cell h 8⟩
  have A := fun W (k : Onward wq W) => HX.out.2.1.cells W (keeps_trans (keeps_refl wq) k)
  have B := fun W (k : Onward wq W) => HX.out.2.2.cells W (keeps_trans (keeps_refl wq) k)
  dsimp only at A B
  cases fb
  · have gf := GivesAt.up (show GivesAt Try.prog w _ _ (.int .i64 0) from gF) HB.out
    clear gF GC GO HL hsb hlt2
    go_enter Try.func10, Try.ntmps10
    go_wp2_with fail
    refine Eq.mp (congrArg (fun z => Code.wp _ _ _ _ z) HWQ.out.symm) ?_
    refine region_keep (by kernel_rfl) (by kernel_rfl) ?_
    repeat (apply Go.Proofs.Ytbfpljnfalopdaa.L.wpKeep_yes; (focus rfl); (focus (intro W hW; go_simp; first | done | exact ⟨rfl, hW⟩ | rfl)); (focus (go_simp; first | done | rfl)))
    (apply Go.Proofs.Ytbfpljnfalopdaa.L.wpKeep_yes; (focus rfl); (focus (intro W hW; go_simp; first | exact gf W hW | exact ⟨hW, gf W hW⟩)); (focus (go_simp; first | done | rfl)))
    repeat (first | (apply Go.Proofs.Ytbfpljnfalopdaa.L.wpKeep_yes; (focus rfl); (focus (intro W hW; go_simp; first | done | exact ⟨rfl, hW⟩ | rfl)); (focus (go_simp; first | done | rfl))) | (apply Go.Proofs.Ytbfpljnfalopdaa.L.wpKeep_no; (focus rfl); (focus (go_simp; first | done | rfl))))
    refine wpKeep_nil ?_
    intro W hW
    have HB2 := Lib.hid (keeps_trans HB.out hW)
    clear hW S0 A B gf
    go_wp2_with fail
    refine (aw.out _).mono ?_
    rintro e w3 ⟨rfl, hb3⟩
    have HF := Lib.hid (keeps_trans HB2.out hb3)
    clear hb3
    go_wp2_with fail
    go_ret
    exact ⟨rfl, HF.out⟩
  · have gf := GivesAt.up (show GivesAt Try.prog w _ _ (.int .i64 1) from gF) HB.out
    clear gF hlt2
    obtain ⟨go1, go2⟩ := GO.out
    clear GO
    by_cases hxy : x = y
    · subst hxy
      by_cases hsq : b9 ≤ a9
      · have tq : decide (b9 ≤ a9) = true := by simp [hsq]
        clear hsq HL GC hsb
        go_enter Try.func10, Try.ntmps10
        go_wp2_with fail
        refine Eq.mp (congrArg (fun z => Code.wp _ _ _ _ z) HWQ.out.symm) ?_
        refine region_keep (by kernel_rfl) (by kernel_rfl) ?_
        repeat (apply Go.Proofs.Ytbfpljnfalopdaa.L.wpKeep_yes; (focus rfl); (focus (intro W hW; go_simp; first | done | exact ⟨rfl, hW⟩ | rfl)); (focus (go_simp; first | done | rfl)))
        (apply Go.Proofs.Ytbfpljnfalopdaa.L.wpKeep_yes; (focus rfl); (focus (intro W hW; go_simp; first | exact gf W hW | exact ⟨hW, gf W hW⟩)); (focus (go_simp; first | done | rfl)))
        repeat (apply Go.Proofs.Ytbfpljnfalopdaa.L.wpKeep_yes; (focus rfl); (focus (intro W hW; go_simp; first | done | exact ⟨rfl, hW⟩ | rfl)); (focus (go_simp; first | done | rfl)))
        (apply Go.Proofs.Ytbfpljnfalopdaa.L.wpKeep_yes; (focus rfl); (focus (intro W hW; go_simp; first | exact Go.Proofs.Ytbfpljnfalopdaa.L.Gives.up go1 hW | exact ⟨hW, Go.Proofs.Ytbfpljnfalopdaa.L.Gives.up go1 hW⟩)); (focus (go_simp; first | done | rfl)))
        repeat (apply Go.Proofs.Ytbfpljnfalopdaa.L.wpKeep_yes; (focus rfl); (focus (intro W hW; go_simp; first | done | exact ⟨rfl, hW⟩ | rfl)); (focus (go_simp; first | done | rfl)))
        (apply Go.Proofs.Ytbfpljnfalopdaa.L.wpKeep_yes; (focus rfl); (focus (intro W hW; go_simp; first | exact Go.Proofs.Ytbfpljnfalopdaa.L.Gives.up go2 hW | exact ⟨hW, Go.Proofs.Ytbfpljnfalopdaa.L.Gives.up go2 hW⟩)); (focus (go_simp; first | done | rfl)))
        repeat (apply Go.Proofs.Ytbfpljnfalopdaa.L.wpKeep_yes; (focus rfl); (focus (intro W hW; go_simp; first | done | exact ⟨rfl, hW⟩ | rfl)); (focus (go_simp; first | done | rfl)))
        refine wpKeep_nil ?_
        intro W hW
        have HB2 := Lib.hid (keeps_trans HB.out hW)
        clear hW S0 A B gf go1 go2
        go_wp2_with fail
        refine (aw.out _).mono ?_
        rintro e w3 ⟨rfl, hb3⟩
        have HF := Lib.hid (keeps_trans HB2.out hb3)
        clear hb3
        go_wp2_with fail
        go_ret
        exact ⟨rfl, HF.out⟩
      · have tq : decide (b9 ≤ a9) = false := by simp [hsq]
        have e1 := HL.out rfl (by omega)
        subst e1
        clear hsq HL
        have gc := (GC.out rfl).up HB.out
        have HK := Lib.hid (And.intro S0 (And.intro A B))
        clear GC hsb
        go_enter Try.func10, Try.ntmps10
        go_wp2_with fail
        refine Eq.mp (congrArg (fun z => Code.wp _ _ _ _ z) HWQ.out.symm) ?_
        refine region_keep (by kernel_rfl) (by kernel_rfl) ?_
        repeat (apply Go.Proofs.Ytbfpljnfalopdaa.L.wpKeep_yes; (focus rfl); (focus (intro W hW; go_simp; first | done | exact ⟨rfl, hW⟩ | rfl)); (focus (go_simp; first | done | rfl)))
        (apply Go.Proofs.Ytbfpljnfalopdaa.L.wpKeep_yes; (focus rfl); (focus (intro W hW; go_simp; first | exact gf W hW | exact ⟨hW, gf W hW⟩)); (focus (go_simp; first | done | rfl)))
        repeat (apply Go.Proofs.Ytbfpljnfalopdaa.L.wpKeep_yes; (focus rfl); (focus (intro W hW; go_simp; first | done | exact ⟨rfl, hW⟩ | rfl)); (focus (go_simp; first | done | rfl)))
        (apply Go.Proofs.Ytbfpljnfalopdaa.L.wpKeep_yes; (focus rfl); (focus (intro W hW; go_simp; first | exact Go.Proofs.Ytbfpljnfalopdaa.L.Gives.up go1 hW | exact ⟨hW, Go.Proofs.Ytbfpljnfalopdaa.L.Gives.up go1 hW⟩)); (focus (go_simp; first | done | rfl)))
        repeat (apply Go.Proofs.Ytbfpljnfalopdaa.L.wpKeep_yes; (focus rfl); (focus (intro W hW; go_simp; first | done | exact ⟨rfl, hW⟩ | rfl)); (focus (go_simp; first | done | rfl)))
        (apply Go.Proofs.Ytbfpljnfalopdaa.L.wpKeep_yes; (focus rfl); (focus (intro W hW; go_simp; first | exact Go.Proofs.Ytbfpljnfalopdaa.L.Gives.up go2 hW | exact ⟨hW, Go.Proofs.Ytbfpljnfalopdaa.L.Gives.up go2 hW⟩)); (focus (go_simp; first | done | rfl)))
        repeat (apply Go.Proofs.Ytbfpljnfalopdaa.L.wpKeep_yes; (focus rfl); (focus (intro W hW; go_simp; first | done | exact ⟨rfl, hW⟩ | rfl)); (focus (go_simp; first | done | rfl)))
        refine wpKeep_nil ?_
        intro W hW
        have HB2 := Lib.hid (keeps_trans HB.out hW)
        have HO := Lib.hid hW
        have GC1 := Lib.hid (gc W hW)
        clear S0 A B gf go1 go2 gc
        have S1 := HK.out.1 W hW
        have A1 := HK.out.2.1 W hW
        have B1 := HK.out.2.2 W hW
        clear hW
        go_wp2_with fail
        refine GC1.out.mono ?_
        rintro e w5 ⟨rfl, hb5⟩
        clear S1 A1 B1
        have HB5 := Lib.hid (keeps_trans HB.out hb5)
        clear hb5
        go_wp2_with fail
        refine (aw.out _).mono ?_
        rintro e w7 ⟨rfl, hb7⟩
        have HF := Lib.hid (keeps_trans HB5.out hb7)
        clear hb7
        go_wp2_with fail
        go_ret
        exact ⟨rfl, HF.out⟩
    · cases x
      · cases y
        · exact absurd rfl hxy
        · clear hxy HL GC hsb
          go_enter Try.func10, Try.ntmps10
          go_wp2_with fail
          refine Eq.mp (congrArg (fun z => Code.wp _ _ _ _ z) HWQ.out.symm) ?_
          refine region_keep (by kernel_rfl) (by kernel_rfl) ?_
          repeat (apply Go.Proofs.Ytbfpljnfalopdaa.L.wpKeep_yes; (focus rfl); (focus (intro W hW; go_simp; first | done | exact ⟨rfl, hW⟩ | rfl)); (focus (go_simp; first | done | rfl)))
          (apply Go.Proofs.Ytbfpljnfalopdaa.L.wpKeep_yes; (focus rfl); (focus (intro W hW; go_simp; first | exact gf W hW | exact ⟨hW, gf W hW⟩)); (focus (go_simp; first | done | rfl)))
          repeat (apply Go.Proofs.Ytbfpljnfalopdaa.L.wpKeep_yes; (focus rfl); (focus (intro W hW; go_simp; first | done | exact ⟨rfl, hW⟩ | rfl)); (focus (go_simp; first | done | rfl)))
          (apply Go.Proofs.Ytbfpljnfalopdaa.L.wpKeep_yes; (focus rfl); (focus (intro W hW; go_simp; first | exact Go.Proofs.Ytbfpljnfalopdaa.L.Gives.up go1 hW | exact ⟨hW, Go.Proofs.Ytbfpljnfalopdaa.L.Gives.up go1 hW⟩)); (focus (go_simp; first | done | rfl)))
          repeat (apply Go.Proofs.Ytbfpljnfalopdaa.L.wpKeep_yes; (focus rfl); (focus (intro W hW; go_simp; first | done | exact ⟨rfl, hW⟩ | rfl)); (focus (go_simp; first | done | rfl)))
          (apply Go.Proofs.Ytbfpljnfalopdaa.L.wpKeep_yes; (focus rfl); (focus (intro W hW; go_simp; first | exact Go.Proofs.Ytbfpljnfalopdaa.L.Gives.up go2 hW | exact ⟨hW, Go.Proofs.Ytbfpljnfalopdaa.L.Gives.up go2 hW⟩)); (focus (go_simp; first | done | rfl)))
          repeat (first | (apply Go.Proofs.Ytbfpljnfalopdaa.L.wpKeep_yes; (focus rfl); (focus (intro W hW; go_simp; first | done | exact ⟨rfl, hW⟩ | rfl)); (focus (go_simp; first | done | rfl))) | (apply Go.Proofs.Ytbfpljnfalopdaa.L.wpKeep_no; (focus rfl); (focus (go_simp; first | done | rfl))))
          refine wpKeep_nil ?_
          intro W hW
          have HB2 := Lib.hid (keeps_trans HB.out hW)
          clear hW S0 A B gf go1 go2
          go_wp2_with fail
          refine (aw.out _).mono ?_
          rintro e w3 ⟨rfl, hb3⟩
          have HF := Lib.hid (keeps_trans HB2.out hb3)
          clear hb3
          go_wp2_with fail
          go_ret
          exact ⟨rfl, HF.out⟩
      · cases y
        · clear hxy HL GC hsb
          go_enter Try.func10, Try.ntmps10
          go_wp2_with fail
          refine Eq.mp (congrArg (fun z => Code.wp _ _ _ _ z) HWQ.out.symm) ?_
          refine region_keep (by kernel_rfl) (by kernel_rfl) ?_
          repeat (apply Go.Proofs.Ytbfpljnfalopdaa.L.wpKeep_yes; (focus rfl); (focus (intro W hW; go_simp; first | done | exact ⟨rfl, hW⟩ | rfl)); (focus (go_simp; first | done | rfl)))
          (apply Go.Proofs.Ytbfpljnfalopdaa.L.wpKeep_yes; (focus rfl); (focus (intro W hW; go_simp; first | exact gf W hW | exact ⟨hW, gf W hW⟩)); (focus (go_simp; first | done | rfl)))
          repeat (apply Go.Proofs.Ytbfpljnfalopdaa.L.wpKeep_yes; (focus rfl); (focus (intro W hW; go_simp; first | done | exact ⟨rfl, hW⟩ | rfl)); (focus (go_simp; first | done | rfl)))
          (apply Go.Proofs.Ytbfpljnfalopdaa.L.wpKeep_yes; (focus rfl); (focus (intro W hW; go_simp; first | exact Go.Proofs.Ytbfpljnfalopdaa.L.Gives.up go1 hW | exact ⟨hW, Go.Proofs.Ytbfpljnfalopdaa.L.Gives.up go1 hW⟩)); (focus (go_simp; first | done | rfl)))
          repeat (apply Go.Proofs.Ytbfpljnfalopdaa.L.wpKeep_yes; (focus rfl); (focus (intro W hW; go_simp; first | done | exact ⟨rfl, hW⟩ | rfl)); (focus (go_simp; first | done | rfl)))
          (apply Go.Proofs.Ytbfpljnfalopdaa.L.wpKeep_yes; (focus rfl); (focus (intro W hW; go_simp; first | exact Go.Proofs.Ytbfpljnfalopdaa.L.Gives.up go2 hW | exact ⟨hW, Go.Proofs.Ytbfpljnfalopdaa.L.Gives.up go2 hW⟩)); (focus (go_simp; first | done | rfl)))
          repeat (first | (apply Go.Proofs.Ytbfpljnfalopdaa.L.wpKeep_yes; (focus rfl); (focus (intro W hW; go_simp; first | done | exact ⟨rfl, hW⟩ | rfl)); (focus (go_simp; first | done | rfl))) | (apply Go.Proofs.Ytbfpljnfalopdaa.L.wpKeep_no; (focus rfl); (focus (go_simp; first | done | rfl))))
          refine wpKeep_nil ?_
          intro W hW
          have HB2 := Lib.hid (keeps_trans HB.out hW)
          clear hW S0 A B gf go1 go2
          go_wp2_with fail
          refine (aw.out _).mono ?_
          rintro e w3 ⟨rfl, hb3⟩
          have HF := Lib.hid (keeps_trans HB2.out hb3)
          clear hb3
          go_wp2_with fail
          go_ret
          exact ⟨rfl, HF.out⟩
        · exact absurd rfl hxy
end Go.Proofs.Ytbfpljnfalopdaa.OrdW
