/-
  A configuration that may be, and few gangs: Few.
-/
import Derived.Test.YtbfpljnfalopdaaOrdOpen
import Derived.Test.YtbfpljnfalopdaaCfgM
set_option linter.unusedVariables false
set_option linter.unusedSimpArgs false
namespace Go.Proofs.Ytbfpljnfalopdaa.OrdW
open Go Go.RowKit Go.Proofs.Ytbfpljnfalopdaa.L Go.Proofs.Ytbfpljnfalopdaa.CfgW

def fewB (c : Cfg.C) (np nr nh : Nat) : Bool := decide (Cfg.check c = 0) && decide (np ≤ 60) && decide (nr ≤ 60) && decide (nh ≤ 60)
/-- What such a configuration has. -/
structure FewOk (c : Cfg.C) (np nh : Nat) : Prop where
  ok : Cfg.ok c = true
  len : c.nodes.length ≤ 1000000
  wok : WOk c
  ne : c.nodes ≠ []
  np : np ≤ 60
  nh : nh ≤ 60
theorem fewB_ok {c : Cfg.C} {np nr nh : Nat} (h : fewB c np nr nh = true) : FewOk c np nh := by
  unfold fewB at h
  simp only [Bool.and_eq_true, decide_eq_true_eq] at h
  obtain ⟨⟨⟨hk, h1⟩, h2⟩, h3⟩ := h
  have hok : Cfg.ok c = true := by
    unfold Cfg.check at hk
    split at hk
    · assumption
    · cases hk
  have hs : Cfg.sizesOk c = true := by unfold Cfg.ok at hok; simp only [Bool.and_eq_true] at hok; exact hok.1
  have hn : Cfg.nodesOk c c.nodes.length = true := by unfold Cfg.ok at hok; simp only [Bool.and_eq_true] at hok; exact hok.2.1
  have hs' := hs
  simp only [Cfg.sizesOk, Bool.and_eq_true] at hs'
  have hs1 := (Cfg.between_iff _ _ _).1 hs'.1
  refine ⟨hok, by omega, fun x hx => ?_, fun e => ?_, h1, h3⟩
  · obtain ⟨i, hi, rfl⟩ := List.getElem_of_mem hx
    have := Cfg.nodesOk_at hn hi
    rw [List.getD_eq_getElem?_getD, List.getElem?_eq_getElem hi, Option.getD_some] at this
    simp only [Cfg.nodeOk, Bool.and_eq_true] at this
    have := (Cfg.between_iff _ _ _).1 this.1.2
    unfold InI
    omega
  · rw [e] at hs1
    simp at hs1

set_option maxRecDepth 100000 in
set_option maxHeartbeats 1000000 in
theorem few_any {w : World} {v1 v2 : Value} {c : Cfg.C} {now next : Int} (hc : CfgAt w (.agg #[v1, v2, .int .i64 c.half, .int .i64 c.age]) c) (Ap Ar Ah : Option Addr) (np cp nr cr nh ch : Nat) :
    GivesAt Try.prog w 24 #[.agg #[v1, v2, .int .i64 c.half, .int .i64 c.age, .int .i64 now, .int .i64 next, .slice Ap np cp, .slice Ar nr cr, .slice Ah nh ch]] (.int .i64 (if fewB c np nr nh then 1 else 0)) := by
  intro w1 hb1
  replace hc := hc.below hb1
  clear hb1
  have gC := Lib.hid (rcheck_any hc)
  generalize hhalf : c.half = half at *
  generalize hage : c.age = age at *
  clear hc hhalf hage
  have hx := SBox.new w1 53 v1 v2 half age now next (.slice Ap np cp) (.slice Ar nr cr) (.slice Ah nh ch)
  have HX := Lib.hid hx
  have HB := Lib.hid (show Below w1.heap.size w1 (w1.alloc (.cells #[v1, v2, .int .i64 half, .int .i64 age, .int .i64 now, .int .i64 next, .slice Ap np cp, .slice Ar nr cr, .slice Ah nh ch] 53)) from (Below.refl _ _).alloc (Nat.le_refl _) _)
  unfold fewB
  obtain ⟨ck, hck⟩ : ∃ ck, Cfg.check c = ck := ⟨_, rfl⟩
  rw [hck] at gC ⊢
  obtain ⟨q, hq⟩ : ∃ q : Int, (if (decide (ck = 0) && decide (np ≤ 60) && decide (nr ≤ 60) && decide (nh ≤ 60)) = true then (1 : Int) else 0) = q := ⟨_, rfl⟩
  rw [hq]
  have HQ := Lib.hid hq
  obtain ⟨y0, y1, y2, y3, y4, y5, y6, y7, y8, y9⟩ := hx
  clear hck hq
  go_enter Try.func24, Try.ntmps24
  go_wp2_with fail
  generalize (w1.alloc (.cells #[v1, v2, .int .i64 half, .int .i64 age, .int .i64 now, .int .i64 next, .slice Ap np cp, .slice Ar nr cr, .slice Ah nh ch] 53)) = wq at *
  refine (gC.out _ HB.out).mono ?_
  rintro e w2 ⟨rfl, hb2⟩
  have HB2 := Lib.hid (keeps_trans HB.out hb2)
  have hx2 := HX.out.below (hb2.mono (by omega))
  clear hb2 y0 y1 y2 y3 y4 y5 y6 y7 y8 y9 gC
  obtain ⟨y0, y1, y2, y3, y4, y5, y6, y7, y8, y9⟩ := hx2
  by_cases h0 : ck = 0
  · have t0 : (ck == 0) = true := by simp [h0]
    by_cases h1 : np ≤ 60
    · have t1 : decide ((np : Int) ≤ 60) = true := by simp; omega
      by_cases h2 : nr ≤ 60
      · have t2 : decide ((nr : Int) ≤ 60) = true := by simp; omega
        by_cases h3 : nh ≤ 60
        · have t3 : decide ((nh : Int) ≤ 60) = true := by simp; omega
          have e1 : q = 1 := by rw [← HQ.out]; simp [h0, h1, h2, h3]
          clear h0 h1 h2 h3 HQ
          subst e1
          go_wp2_with fail
          go_ret
          exact ⟨rfl, HB2.out⟩
        · have t3 : decide ((nh : Int) ≤ 60) = false := by simp; omega
          have e1 : q = 0 := by rw [← HQ.out]; simp [h3]
          clear h0 h1 h2 h3 HQ
          subst e1
          go_wp2_with fail
          go_ret
          exact ⟨rfl, HB2.out⟩
      · have t2 : decide ((nr : Int) ≤ 60) = false := by simp; omega
        have e1 : q = 0 := by rw [← HQ.out]; simp [h2]
        clear h0 h1 h2 HQ
        subst e1
        go_wp2_with fail
        go_ret
        exact ⟨rfl, HB2.out⟩
    · have t1 : decide ((np : Int) ≤ 60) = false := by simp; omega
      have e1 : q = 0 := by rw [← HQ.out]; simp [h1]
      clear h0 h1 HQ
      subst e1
      go_wp2_with fail
      go_ret
      exact ⟨rfl, HB2.out⟩
  · have t0 : (ck == 0) = false := by simp [h0]
    have e1 : q = 0 := by rw [← HQ.out]; simp [h0]
    clear h0 HQ
    subst e1
    go_wp2_with fail
    go_ret
    exact ⟨rfl, HB2.out⟩
end Go.Proofs.Ytbfpljnfalopdaa.OrdW
