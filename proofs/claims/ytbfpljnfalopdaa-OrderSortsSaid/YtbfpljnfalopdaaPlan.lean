/-
  A region that draws its order, walked by a plan: operations that only read are taken first, calls whose results lie in new memory when nothing else may come up.
-/
import Derived.Test.YtbfpljnfalopdaaKeep
import Derived.OrdersHeld
import Derived.Deep.RegionHeld3
set_option linter.unusedVariables false
set_option linter.unusedSimpArgs false
namespace Go.Proofs.Ytbfpljnfalopdaa.L
open Go Go.RowKit

section
variable {P : Program} {ops : Array Oper} {md : Region.Mode} {Q : Exit → Act → World → Prop} {S : World → Prop}

def valueUpon (v : Value) (W : World) : Result Next → Prop
  | .ok (.value u) W' => u = v ∧ W' = W
  | _ => False
theorem valueUpon_value (v u : Value) (W W' : World) : valueUpon v W (.ok (.value u) W') = (u = v ∧ W' = W) := rfl

def planB (md : Region.Mode) (ops : Array Oper) : List (Nat × Bool) → Array Bool → Bool
  | [], listed => (Region.ready md ops listed).isEmpty
  | (i, true) :: r, listed => (Region.ready md ops listed).contains i && (Region.free md ops listed i && planB md ops r (listed.setIfInBounds i true))
  | (i, false) :: r, listed => (Region.ready md ops listed == [i]) && planB md ops r (listed.setIfInBounds i true)

def wpPlan (P : Program) (ops : Array Oper) (Q : Exit → Act → World → Prop) (S : World → Prop) : List (Nat × Bool) → Act → World → Prop
  | [], a, w => Q .normal a w
  | (i, true) :: r, a, w => ∃ o v, ops[i]? = some o ∧ YieldsIf P ops S o v a ∧ wpPlan P ops Q S r (a.put o.dst v) w
  | (i, false) :: r, a, w => wpOp P ops (NoPanic Q) i (fun a' w' => S w' ∧ wpPlan P ops Q S r a' w') a w
structure WpPlan (P : Program) (ops : Array Oper) (Q : Exit → Act → World → Prop) (S : World → Prop) (pl : List (Nat × Bool)) (a : Act) (w : World) : Prop where
  out : wpPlan P ops Q S pl a w

theorem plan_nil {a : Act} {w : World} (h : Q .normal a w) : WpPlan P ops Q S [] a w := ⟨h⟩
theorem plan_take {i : Nat} {r : List (Nat × Bool)} {o : Oper} {v : Value} {a a' : Act} {w : World} (hi : ops[i]? = some o) (hw : Region.wanted o (yielded ops a.tmps) = true)
    (h : ∀ W, S W → valueUpon v W ((execOp a.eval o).run P W)) (ha : a.put o.dst v = a') (hk : WpPlan P ops Q S r a' w) : WpPlan P ops Q S ((i, true) :: r) a w := by
  subst ha
  refine ⟨⟨o, v, hi, .inl ⟨hw, fun W hW => ?_⟩, hk.out⟩⟩
  have := h W hW
  unfold valueUpon at this
  split at this
  · rename_i e; obtain ⟨rfl, rfl⟩ := this; exact e
  · exact this.elim
theorem plan_skip {i : Nat} {r : List (Nat × Bool)} {o : Oper} {a a' : Act} {w : World} (hi : ops[i]? = some o) (hw : Region.wanted o (yielded ops a.tmps) = false)
    (ha : a.put o.dst undef = a') (hk : WpPlan P ops Q S r a' w) : WpPlan P ops Q S ((i, true) :: r) a w := by
  subst ha
  exact ⟨⟨o, undef, hi, .inr ⟨hw, rfl⟩, hk.out⟩⟩
theorem plan_call {i : Nat} {r : List (Nat × Bool)} {o : Oper} {a : Act} {w w1 : World} {f : FuncId} {args : Array Value} (hi : ops[i]? = some o) (hw : Region.wanted o (yielded ops a.tmps) = true)
    (h : (execOp a.eval o).run P w = .ok (.enter f args) w1) (hc : Calls P f args w1 fun e w' => ∃ v, e = .returned v ∧ S w' ∧ WpPlan P ops Q S r (a.put o.dst v) w') : WpPlan P ops Q S ((i, false) :: r) a w := by
  constructor
  show wpOp P ops (NoPanic Q) i _ a w
  unfold wpOp
  simp only [hi, hw, if_true, Oper.wp, h, Oper.upon]
  refine .inl (Calls.mono hc fun e w' he => ?_)
  obtain ⟨v, rfl, hS, hp⟩ := he
  exact ⟨hS, hp.out⟩

theorem plan_held (hs : Region.noSelect ops = true) : ∀ (pl : List (Nat × Bool)) (listed : Array Bool) (a : Act) (w : World), planB md ops pl listed = true → S w → wpPlan P ops Q S pl a w → wpAnyH P md ops (NoPanic Q) S pl.length listed a w
  | [], listed, a, w, hB, hS, h => wpAnyH_done (by simpa [planB] using hB) (NoPanic.normal h) 0
  | (i, true) :: r, listed, a, w, hB, hS, h => by
    simp only [planB, Bool.and_eq_true] at hB
    obtain ⟨o, v, hi, hy, hk⟩ := h
    exact wpAnyH_take hi hs hB.2.1 hB.1 (fun _ _ _ h => h) hy hS (plan_held hs r _ _ _ hB.2.2 hS hk)
  | (i, false) :: r, listed, a, w, hB, hS, h => by
    simp only [planB, Bool.and_eq_true, beq_iff_eq] at hB
    refine wpAnyH_all hB.1 (by simp) (fun j hj => ?_)
    simp only [List.mem_singleton] at hj
    subst hj
    exact wpOp_mono (fun a' w' h' => ⟨h'.1, plan_held hs r _ _ _ hB.2 h'.1 h'.2⟩) h
end

/-- The region, by a plan that names each operation once. -/
theorem region_plan {P : Program} {id : Nat} {Q : Exit → Act → World → Prop} {a : Act} {w : World} {l : List Oper} (pl : List (Nat × Bool)) (hm : P.follows .mixedOrders = true)
    (hB : (Region.noSelect l.toArray && (planB .any l.toArray pl (Array.replicate l.length false) && pl.length == l.length)) = true)
    (h : WpPlan P l.toArray Q (Onward w) pl a w.drew) : (Code.region id l.toArray true).wp P Q a w := by
  simp only [Bool.and_eq_true, beq_iff_eq] at hB
  obtain ⟨hs, hp, hl⟩ := hB
  refine wp_region_noPanic (wp_region_held (S := Onward w) hm ?_)
  have := plan_held (Q := Q) (P := P) (S := Onward w) hs pl (Array.replicate l.length false) a w.drew hp (Onward.drew w) h.out
  rw [hl] at this
  simpa using this
attribute [go_sem] valueUpon_value
end Go.Proofs.Ytbfpljnfalopdaa.L
