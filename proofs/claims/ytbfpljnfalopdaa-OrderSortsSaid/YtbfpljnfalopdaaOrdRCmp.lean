/-
  Which of two gangs comes first: the reference's Cmp.
-/
import Derived.Test.YtbfpljnfalopdaaOrdRTree
set_option linter.unusedVariables false
set_option linter.unusedSimpArgs false
namespace Go.Proofs.Ytbfpljnfalopdaa.OrdW
open Go Go.RowKit Go.Proofs.Ytbfpljnfalopdaa.L Go.Proofs.Ytbfpljnfalopdaa.CfgW

/-- A waiting gang's eleven cells in a block. -/
def PBox (W : World) (b : Nat) (p : Ord.P) : Prop := Blk W b 57 (prow p)
theorem PBox.cells {W : World} {b : Nat} {p : Ord.P} (h : PBox W b p) : ∀ W', Onward W W' →
    W'.cell? ⟨b, 0, none⟩ = some (.int .i64 p.id) ∧ W'.cell? ⟨b, 1, none⟩ = some (.int .i64 p.tenant) ∧ W'.cell? ⟨b, 2, none⟩ = some (.int .i64 p.pods) ∧ W'.cell? ⟨b, 3, none⟩ = some (.int .i64 p.need.x) ∧ W'.cell? ⟨b, 4, none⟩ = some (.int .i64 p.need.y) ∧ W'.cell? ⟨b, 5, none⟩ = some (.int .i64 p.need.z) ∧
    W'.cell? ⟨b, 6, none⟩ = some (.int .i64 p.run) ∧ W'.cell? ⟨b, 7, none⟩ = some (.int .i64 p.level) ∧ W'.cell? ⟨b, 8, none⟩ = some (.int .i64 p.prefer) ∧ W'.cell? ⟨b, 9, none⟩ = some (.int .i64 p.seq) ∧ W'.cell? ⟨b, 10, none⟩ = some (.int .i64 p.since) := fun W' k => by
  have h' : PBox W' b p := Blk.below h k (Blk.lt h)
  exact ⟨Blk.cell h' 0, Blk.cell h' 1, Blk.cell h' 2, Blk.cell h' 3, Blk.cell h' 4, Blk.cell h' 5, Blk.cell h' 6, Blk.cell h' 7, Blk.cell h' 8, Blk.cell h' 9, Blk.cell h' 10⟩

/-- All numbers that are compared in 64 bits are such. -/
structure NumOk (c : Cfg.C) (now : Int) : Prop where
  age : InI c.age
  now : InI now

set_option maxRecDepth 100000 in
set_option maxHeartbeats 4000000 in
theorem rcmp_any {w : World} {v1 v2 vp vr vh : Value} {now next : Int} {c : Cfg.C} {h : List Nat} (hs : StAt w v1 v2 vh c h) (hn : NumOk c now) (a b : Ord.P) (ha : InI a.since) (hb : InI b.since) :
    GivesAt Try.prog w 27 #[.agg #[v1, v2, .int .i64 c.half, .int .i64 c.age, .int .i64 now, .int .i64 next, vp, vr, vh], .agg (prow a), .agg (prow b)] (.int .i64 (Ord.cmp c h now a b)) := by
  intro w1 hb1
  replace hs := hs.below hb1
  clear hb1
  have GT := Lib.hid (rtree_any (vp := vp) (vr := vr) (now := now) (next := next) hs a.tenant b.tenant)
  have HO := Lib.hid (And.intro (rold_any v1 v2 c.half c.age now a hn.age hn.now ha) (rold_any v1 v2 c.half c.age now b hn.age hn.now hb))
  have HE := Lib.hid (show Ord.cmp c h now a b = if Ord.oldP c now a = true ∧ Ord.oldP c now b = false then -1 else if Ord.oldP c now b = true ∧ Ord.oldP c now a = false then 1 else if Ord.oldP c now a = true then Ord.num a.seq b.seq else Ord.or2 (Ord.tree c h a.tenant b.tenant) (Ord.num a.seq b.seq) from rfl)
  have HXY := Lib.hid (And.intro (show Ord.oldP c now a = Ord.old c.age now a.since from rfl) (show Ord.oldP c now b = Ord.old c.age now b.since from rfl))
  rw [← HXY.out.1, ← HXY.out.2] at HO
  obtain ⟨r, hr⟩ : ∃ r, Ord.cmp c h now a b = r := ⟨_, rfl⟩
  rw [hr] at HE ⊢
  generalize Ord.oldP c now a = x at *
  generalize Ord.oldP c now b = y at *
  generalize Ord.tree c h a.tenant b.tenant = t at *
  obtain ⟨half, hhalf⟩ : ∃ z, c.half = z := ⟨_, rfl⟩
  obtain ⟨age, hage⟩ : ∃ z, c.age = z := ⟨_, rfl⟩
  obtain ⟨D, cd, rfl, -⟩ := id hs.hist
  generalize h.length = H at *
  rw [hhalf, hage] at GT HO ⊢
  clear hs hn ha hb hhalf hage hr HXY
  have hbx := SBox.new w1 53 v1 v2 half age now next vp vr (.slice D H cd)
  have hb2 : Below (w1.alloc (.cells #[v1, v2, .int .i64 half, .int .i64 age, .int .i64 now, .int .i64 next, vp, vr, .slice D H cd] 53)).heap.size (w1.alloc (.cells #[v1, v2, .int .i64 half, .int .i64 age, .int .i64 now, .int .i64 next, vp, vr, .slice D H cd] 53)) (((w1.alloc (.cells #[v1, v2, .int .i64 half, .int .i64 age, .int .i64 now, .int .i64 next, vp, vr, .slice D H cd] 53)).alloc (.cells (prow a) 57)).alloc (.cells (prow b) 57)) := ((Below.refl _ _).alloc (Nat.le_refl _) _).alloc (by simp) _
  have hx : SBox (((w1.alloc (.cells #[v1, v2, .int .i64 half, .int .i64 age, .int .i64 now, .int .i64 next, vp, vr, .slice D H cd] 53)).alloc (.cells (prow a) 57)).alloc (.cells (prow b) 57)) w1.heap.size v1 v2 half age now next vp vr (.slice D H cd) := hbx.below hb2
  have hbw : Below w1.heap.size w1 (((w1.alloc (.cells #[v1, v2, .int .i64 half, .int .i64 age, .int .i64 now, .int .i64 next, vp, vr, .slice D H cd] 53)).alloc (.cells (prow a) 57)).alloc (.cells (prow b) 57)) := by
    have hz : (w1.alloc (.cells #[v1, v2, .int .i64 half, .int .i64 age, .int .i64 now, .int .i64 next, vp, vr, .slice D H cd] 53)).heap.size = w1.heap.size + 1 := by simp
    (repeat' (first | (with_reducible exact Below.refl _ _) | (with_reducible assumption) | (with_reducible refine Below.alloc ?_ ?_ _) | (with_reducible refine Go.Proofs.Ytbfpljnfalopdaa.L.below_drewN ?_ _) | (with_reducible refine Below.drew ?_) | (with_reducible refine Below.setCell ?_ ?_ _) | (with_reducible refine Below.frame ?_ _) | go_size))
  have hpa : PBox (((w1.alloc (.cells #[v1, v2, .int .i64 half, .int .i64 age, .int .i64 now, .int .i64 next, vp, vr, .slice D H cd] 53)).alloc (.cells (prow a) 57)).alloc (.cells (prow b) 57)) (w1.heap.size + 1) a := by
    have h := Blk.new (w1.alloc (.cells #[v1, v2, .int .i64 half, .int .i64 age, .int .i64 now, .int .i64 next, vp, vr, .slice D H cd] 53)) 57 (prow a)
    simp only [World.size_alloc] at h
    exact Blk.alloc h _
  have hpb : PBox (((w1.alloc (.cells #[v1, v2, .int .i64 half, .int .i64 age, .int .i64 now, .int .i64 next, vp, vr, .slice D H cd] 53)).alloc (.cells (prow a) 57)).alloc (.cells (prow b) 57)) (w1.heap.size + 1 + 1) b := by
    have h := Blk.new ((w1.alloc (.cells #[v1, v2, .int .i64 half, .int .i64 age, .int .i64 now, .int .i64 next, vp, vr, .slice D H cd] 53)).alloc (.cells (prow a) 57)) 57 (prow b)
    simp only [World.size_alloc] at h
    exact h
  have HX := Lib.hid (And.intro hx (And.intro hbw (And.intro hpa hpb)))
  clear hbx hb2 hx hbw hpa hpb
  obtain ⟨a0, a1, a2, ⟨a3, a4, a5⟩, a6, a7, a8, a9, a10⟩ := a
  obtain ⟨b0, b1, b2, ⟨b3, b4, b5⟩, b6, b7, b8, b9, b10⟩ := b
  simp only [prow] at *
  go_enter Try.func27, Try.ntmps27
  go_wp2_with fail
  generalize ((w1.alloc (.cells #[v1, v2, .int .i64 half, .int .i64 age, .int .i64 now, .int .i64 next, vp, vr, .slice D H cd] 53)).alloc (.cells #[.int .i64 a0, .int .i64 a1, .int .i64 a2, .int .i64 a3, .int .i64 a4, .int .i64 a5, .int .i64 a6, .int .i64 a7, .int .i64 a8, .int .i64 a9, .int .i64 a10] 57)).alloc (.cells #[.int .i64 b0, .int .i64 b1, .int .i64 b2, .int .i64 b3, .int .i64 b4, .int .i64 b5, .int .i64 b6, .int .i64 b7, .int .i64 b8, .int .i64 b9, .int .i64 b10] 57) = wq at *
  obtain ⟨hx, hbw, hpa, hpb⟩ := HX.out
  have HBW := Lib.hid hbw
  have hlt : w1.heap.size + 1 + 1 < wq.heap.size := Blk.lt hpb
  have S0 := fun W' (k : Onward wq W') => k.cell hx.lt hx.c0
  have S1 := fun W' (k : Onward wq W') => k.cell hx.lt hx.c1
  have S2 := fun W' (k : Onward wq W') => k.cell hx.lt hx.c2
  have S3 := fun W' (k : Onward wq W') => k.cell hx.lt hx.c3
  have S4 := fun W' (k : Onward wq W') => k.cell hx.lt hx.c4
  have S5 := fun W' (k : Onward wq W') => k.cell hx.lt hx.c5
  have S6 := fun W' (k : Onward wq W') => k.cell hx.lt hx.c6
  have S7 := fun W' (k : Onward wq W') => k.cell hx.lt hx.c7
  have S8 := fun W' (k : Onward wq W') => k.cell hx.lt hx.c8
  have A := fun W' (k : Onward wq W') => hpa.cells W' k
  have B := fun W' (k : Onward wq W') => hpb.cells W' k
  dsimp only at A B
  obtain ⟨g1, g2⟩ := HO.out
  have HS := Lib.hid (And.intro S0 (And.intro S1 (And.intro S2 (And.intro S3 (And.intro S4 (And.intro S5 (And.intro S6 (And.intro S7 (And.intro S8 (And.intro A B))))))))))
  clear hx hbw hpa hpb HX HO S5 S6 S7 S8
  refine region_keep (by kernel_rfl) (by kernel_rfl) ?_
  repeat (apply Go.Proofs.Ytbfpljnfalopdaa.L.wpKeep_yes; (focus rfl); (focus (intro W hW; go_simp; first | done | exact ⟨rfl, hW⟩ | rfl)); (focus (go_simp; first | done | rfl)))
  (apply Go.Proofs.Ytbfpljnfalopdaa.L.wpKeep_yes; (focus rfl); (focus (intro W hW; go_simp; first | exact Go.Proofs.Ytbfpljnfalopdaa.L.Gives.up g1 hW | exact ⟨hW, Go.Proofs.Ytbfpljnfalopdaa.L.Gives.up g1 hW⟩)); (focus (go_simp; first | done | rfl)))
  repeat (apply Go.Proofs.Ytbfpljnfalopdaa.L.wpKeep_yes; (focus rfl); (focus (intro W hW; go_simp; first | done | exact ⟨rfl, hW⟩ | rfl)); (focus (go_simp; first | done | rfl)))
  (apply Go.Proofs.Ytbfpljnfalopdaa.L.wpKeep_yes; (focus rfl); (focus (intro W hW; go_simp; first | exact Go.Proofs.Ytbfpljnfalopdaa.L.Gives.up g2 hW | exact ⟨hW, Go.Proofs.Ytbfpljnfalopdaa.L.Gives.up g2 hW⟩)); (focus (go_simp; first | done | rfl)))
  repeat (apply Go.Proofs.Ytbfpljnfalopdaa.L.wpKeep_yes; (focus rfl); (focus (intro W hW; go_simp; first | done | exact ⟨rfl, hW⟩ | rfl)); (focus (go_simp; first | done | rfl)))
  refine wpKeep_nil ?_
  intro W hW
  have HW := Lib.hid hW
  clear g1 g2 S0 S1 S2 S3 S4 A B
  obtain ⟨S0, S1, S2, S3, S4, S5, S6, S7, S8, A, B⟩ := HS.out
  have s0 := S0 W hW
  have s1 := S1 W hW
  have s2 := S2 W hW
  have s3 := S3 W hW
  have s4 := S4 W hW
  have s5 := S5 W hW
  have s6 := S6 W hW
  have s7 := S7 W hW
  have s8 := S8 W hW
  obtain ⟨-, q1, -, -, -, -, -, -, -, q9, -⟩ := A W hW
  obtain ⟨-, p1, -, -, -, -, -, -, -, p9, -⟩ := B W hW
  clear S0 S1 S2 S3 S4 S5 S6 S7 S8 A B hW
  have HWB := Lib.hid (keeps_trans HBW.out HW.out)
  have hltW : w1.heap.size + 1 + 1 < W.heap.size := by have := HW.out.size; omega
  cases x
  · cases y
    · have hr : r = Ord.or2 t (Ord.num a9 b9) := by rw [HE.out]; simp
      have gt := Lib.hid (GT.out W HWB.out)
      clear HE GT HS
      by_cases ht : t = 0
      · have hr' : Ord.num a9 b9 = r := by rw [hr, Ord.or2, if_neg (by omega)]
        have GN : Hid (∀ w, Calls Try.prog 49 #[.int .i64 a9, .int .i64 b9] w fun e w' => e = .returned (.int .i64 r) ∧ w = w') := Lib.hid (fun w => by rw [← hr']; exact num_any a9 b9 w)
        have te : (t != 0) = false := by simp [ht]
        clear hr hr'
        go_wp2_with fail
        refine gt.out.mono ?_
        rintro e w5 ⟨rfl, hb5⟩
        have hq9 := (hb5.cell (p := ⟨w1.heap.size + 1, 9, none⟩) (by show w1.heap.size + 1 < W.heap.size; omega)).trans q9
        have hp9 := (hb5.cell (p := ⟨w1.heap.size + 1 + 1, 9, none⟩) hltW).trans p9
        have HF := Lib.hid (keeps_trans HWB.out hb5)
        clear hb5 s0 s1 s2 s3 s4 s5 s6 s7 s8 q1 q9 p1 p9
        go_wp2_with fail
        refine (GN.out _).mono ?_
        rintro e w6 ⟨rfl, rfl⟩
        go_wp2_with fail
        go_ret
        exact ⟨rfl, HF.out⟩
      · have hr' : r = t := by rw [hr, Ord.or2, if_pos ht]
        have te : (t != 0) = true := by simp [ht]
        subst hr'
        go_wp2_with fail
        refine gt.out.mono ?_
        rintro e w5 ⟨rfl, hb5⟩
        have HF := Lib.hid (keeps_trans HWB.out hb5)
        clear hb5 s0 s1 s2 s3 s4 s5 s6 s7 s8 q1 q9 p1 p9 hr
        go_wp2_with fail
        go_ret
        exact ⟨rfl, HF.out⟩
    · have hr : r = 1 := by rw [HE.out]; simp
      subst hr
      clear HE GT HS
      go_wp2_with fail
      go_ret
      exact ⟨rfl, HWB.out⟩
  · cases y
    · have hr : r = -1 := by rw [HE.out]; simp
      subst hr
      clear HE GT HS
      go_wp2_with fail
      go_ret
      exact ⟨rfl, HWB.out⟩
    · have hr' : Ord.num a9 b9 = r := by rw [HE.out]; simp
      have GN : Hid (∀ w, Calls Try.prog 49 #[.int .i64 a9, .int .i64 b9] w fun e w' => e = .returned (.int .i64 r) ∧ w = w') := Lib.hid (fun w => by rw [← hr']; exact num_any a9 b9 w)
      clear HE GT HS hr'
      go_wp2_with fail
      refine (GN.out _).mono ?_
      rintro e w6 ⟨rfl, rfl⟩
      go_wp2_with fail
      go_ret
      exact ⟨rfl, HWB.out⟩
end Go.Proofs.Ytbfpljnfalopdaa.OrdW
