/-
  Who comes first: Cmp.
-/
import Derived.Test.YtbfpljnfalopdaaOrdCmp
set_option linter.unusedVariables false
set_option linter.unusedSimpArgs false
namespace Go.Proofs.Ytbfpljnfalopdaa.OrdW
open Go Go.RowKit Go.Proofs.Ytbfpljnfalopdaa.L Go.Proofs.Ytbfpljnfalopdaa.CfgW

set_option maxRecDepth 100000 in
set_option maxHeartbeats 4000000 in
theorem cmp_any {w : World} {v1 v2 vp vr vh : Value} {now next : Int} {c : Cfg.C} {h : List Nat} (hs : StAt w v1 v2 vh c h) (hne : c.nodes ≠ []) (hn : NumOk c now) (a b : Ord.P) (ha : InI a.since) (hb : InI b.since) :
    GivesAt Try.prog w 26 #[.agg #[v1, v2, .int .i64 c.half, .int .i64 c.age, .int .i64 now, .int .i64 next, vp, vr, vh], .agg (prow a), .agg (prow b)] (.int .i64 (Ord.cmp c h now a b)) := by
  intro w1 hb1
  replace hs := hs.below hb1
  clear hb1
  obtain ⟨W3, hW3⟩ : ∃ W, ((w1.alloc (.cells #[v1, v2, .int .i64 c.half, .int .i64 c.age, .int .i64 now, .int .i64 next, vp, vr, vh] 53)).alloc (.cells (prow a) 57)).alloc (.cells (prow b) 57) = W := ⟨_, rfl⟩
  have hz3 : W3.heap.size = w1.heap.size + 1 + 1 + 1 := by rw [← hW3]; simp
  have hbw3 : Below w1.heap.size w1 W3 := by
    rw [← hW3]
    have hz : (w1.alloc (.cells #[v1, v2, .int .i64 c.half, .int .i64 c.age, .int .i64 now, .int .i64 next, vp, vr, vh] 53)).heap.size = w1.heap.size + 1 := by simp
    (repeat' (first | (with_reducible exact Below.refl _ _) | (with_reducible assumption) | (with_reducible refine Below.alloc ?_ ?_ _) | (with_reducible refine Go.Proofs.Ytbfpljnfalopdaa.L.below_drewN ?_ _) | (with_reducible refine Below.drew ?_) | (with_reducible refine Below.setCell ?_ ?_ _) | (with_reducible refine Below.frame ?_ _) | go_size))
  have hb4 : Below w1.heap.size w1 (W3.alloc (.cells #[v1, v2, .int .i64 c.half, .int .i64 c.age, .int .i64 now, .int .i64 next, vp, vr, vh] 87)) := hbw3.alloc (by omega) _
  have hx := SBox.new W3 87 v1 v2 c.half c.age now next vp vr vh
  have G := Lib.hid (compare_any (hs.below hb4) hne hn hx a b ha hb _ (keeps_refl _))
  have HB := Lib.hid hb4
  have HZ := Lib.hid hz3
  rw [hz3] at G
  obtain ⟨r, hr⟩ : ∃ r, Ord.cmp c h now a b = r := ⟨_, rfl⟩
  rw [hr] at G ⊢
  obtain ⟨half, hhalf⟩ : ∃ z, c.half = z := ⟨_, rfl⟩
  obtain ⟨age, hage⟩ : ∃ z, c.age = z := ⟨_, rfl⟩
  rw [hhalf, hage] at G HB hW3 ⊢
  subst hW3
  clear hs hn ha hb hhalf hage hr hx hb4 hbw3 hz3 HZ
  obtain ⟨a0, a1, a2, ⟨a3, a4, a5⟩, a6, a7, a8, a9, a10⟩ := a
  obtain ⟨b0, b1, b2, ⟨b3, b4, b5⟩, b6, b7, b8, b9, b10⟩ := b
  simp only [prow] at *
  go_enter Try.func26, Try.ntmps26
  go_wp2_with fail
  refine (G.out).mono ?_
  rintro e w5 ⟨rfl, hb5⟩
  have HF := Lib.hid (keeps_trans HB.out hb5)
  clear hb5 G HB
  go_wp2_with fail
  go_ret
  exact ⟨rfl, HF.out⟩
end Go.Proofs.Ytbfpljnfalopdaa.OrdW
