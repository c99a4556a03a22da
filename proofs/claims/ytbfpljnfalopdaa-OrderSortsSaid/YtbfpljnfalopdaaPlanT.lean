/-
  A region that draws its order, walked by a plan that parts where either of two operations may come up.
-/
import Derived.Test.YtbfpljnfalopdaaPlan
set_option linter.unusedVariables false
set_option linter.unusedSimpArgs false
namespace Go.Proofs.Ytbfpljnfalopdaa.L
open Go Go.RowKit

/-- A plan: take i first; only i may come up; i or j may come up. -/
inductive PT where
  | done
  | take (i : Nat) (r : PT)
  | one (i : Nat) (r : PT)
  | two (i j : Nat) (r s : PT)

section
variable {P : Program} {ops : Array Oper} {md : Region.Mode} {Q : Exit → Act → World → Prop} {S : World → Prop}

def ptB (md : Region.Mode) (ops : Array Oper) : PT → Array Bool → Bool
  | .done, listed => (Region.ready md ops listed).isEmpty
  | .take i r, listed => (Region.ready md ops listed).contains i && (Region.free md ops listed i && ptB md ops r (listed.setIfInBounds i true))
  | .one i r, listed => (Region.ready md ops listed == [i]) && ptB md ops r (listed.setIfInBounds i true)
  | .two i j r s, listed => (Region.ready md ops listed == [i, j]) && (ptB md ops r (listed.setIfInBounds i true) && ptB md ops s (listed.setIfInBounds j true))
def ptF : PT → Nat → Bool
  | .done, _ => true
  | .take _ r, n + 1 => ptF r n
  | .one _ r, n + 1 => ptF r n
  | .two _ _ r s, n + 1 => ptF r n && ptF s n
  | _, 0 => false

def wpPT (P : Program) (ops : Array Oper) (Q : Exit → Act → World → Prop) (S : World → Prop) : PT → Act → World → Prop
  | .done, a, w => Q .normal a w
  | .take i r, a, w => ∃ o v, ops[i]? = some o ∧ YieldsIf P ops S o v a ∧ wpPT P ops Q S r (a.put o.dst v) w
  | .one i r, a, w => wpOp P ops (NoPanic Q) i (fun a' w' => S w' ∧ wpPT P ops Q S r a' w') a w
  | .two i j r s, a, w => wpOp P ops (NoPanic Q) i (fun a' w' => S w' ∧ wpPT P ops Q S r a' w') a w ∧ wpOp P ops (NoPanic Q) j (fun a' w' => S w' ∧ wpPT P ops Q S s a' w') a w
structure WpPT (P : Program) (ops : Array Oper) (Q : Exit → Act → World → Prop) (S : World → Prop) (pl : PT) (a : Act) (w : World) : Prop where
  out : wpPT P ops Q S pl a w

theorem pt_done {a : Act} {w : World} (h : Q .normal a w) : WpPT P ops Q S .done a w := ⟨h⟩
theorem pt_take {i : Nat} {r : PT} {o : Oper} {v : Value} {a a' : Act} {w : World} (hi : ops[i]? = some o) (hw : Region.wanted o (yielded ops a.tmps) = true)
    (h : ∀ W, S W → valueUpon v W ((execOp a.eval o).run P W)) (ha : a.put o.dst v = a') (hk : WpPT P ops Q S r a' w) : WpPT P ops Q S (.take i r) a w := by
  subst ha
  refine ⟨⟨o, v, hi, .inl ⟨hw, fun W hW => ?_⟩, hk.out⟩⟩
  have := h W hW
  unfold valueUpon at this
  split at this
  · rename_i e; obtain ⟨rfl, rfl⟩ := this; exact e
  · exact this.elim
theorem pt_take_eq {i : Nat} {r : PT} {o : Oper} {v : Value} {a a' : Act} {w : World} (hi : ops[i]? = some o) (hw : Region.wanted o (yielded ops a.tmps) = true)
    (h : ∀ W, S W → (execOp a.eval o).run P W = .ok (.value v) W) (ha : a.put o.dst v = a') (hk : WpPT P ops Q S r a' w) : WpPT P ops Q S (.take i r) a w :=
  pt_take hi hw (fun W hW => by rw [h W hW]; exact ⟨rfl, rfl⟩) ha hk
theorem pt_skip {i : Nat} {r : PT} {o : Oper} {a a' : Act} {w : World} (hi : ops[i]? = some o) (hw : Region.wanted o (yielded ops a.tmps) = false)
    (ha : a.put o.dst undef = a') (hk : WpPT P ops Q S r a' w) : WpPT P ops Q S (.take i r) a w := by
  subst ha
  exact ⟨⟨o, undef, hi, .inr ⟨hw, rfl⟩, hk.out⟩⟩
/-- One operation's turn, whose run is known. -/
structure RunPT (P : Program) (ops : Array Oper) (Q : Exit → Act → World → Prop) (S : World → Prop) (i : Nat) (r : PT) (a : Act) (w : World) : Prop where
  out : wpOp P ops (NoPanic Q) i (fun a' w' => S w' ∧ wpPT P ops Q S r a' w') a w
theorem pt_one {i : Nat} {r : PT} {a : Act} {w : World} (h : RunPT P ops Q S i r a w) : WpPT P ops Q S (.one i r) a w := ⟨h.out⟩
theorem pt_two {i j : Nat} {r s : PT} {a : Act} {w : World} (h : RunPT P ops Q S i r a w) (k : RunPT P ops Q S j s a w) : WpPT P ops Q S (.two i j r s) a w := ⟨⟨h.out, k.out⟩⟩
theorem pt_run {i : Nat} {r : PT} {o : Oper} {a a' : Act} {w w1 : World} {v : Value} (hi : ops[i]? = some o) (hw : Region.wanted o (yielded ops a.tmps) = true)
    (h : (execOp a.eval o).run P w = .ok (.value v) w1) (hS : S w1) (ha : a.put o.dst v = a') (hp : WpPT P ops Q S r a' w1) : RunPT P ops Q S i r a w := by
  subst ha
  constructor
  unfold wpOp
  simp only [hi, hw, if_true, Oper.wp, h, Oper.upon]
  exact .inl ⟨hS, hp.out⟩
theorem pt_call {i : Nat} {r : PT} {o : Oper} {a : Act} {w w1 : World} {f : FuncId} {args : Array Value} (hi : ops[i]? = some o) (hw : Region.wanted o (yielded ops a.tmps) = true)
    (h : (execOp a.eval o).run P w = .ok (.enter f args) w1) (hc : Calls P f args w1 fun e w' => ∃ v, e = .returned v ∧ S w' ∧ WpPT P ops Q S r (a.put o.dst v) w') : RunPT P ops Q S i r a w := by
  constructor
  unfold wpOp
  simp only [hi, hw, if_true, Oper.wp, h, Oper.upon]
  refine .inl (Calls.mono hc fun e w' he => ?_)
  obtain ⟨v, rfl, hS, hp⟩ := he
  exact ⟨hS, hp.out⟩

theorem pt_held (hs : Region.noSelect ops = true) : ∀ (pl : PT) (n : Nat) (listed : Array Bool) (a : Act) (w : World), ptB md ops pl listed = true → ptF pl n = true → S w → wpPT P ops Q S pl a w → wpAnyH P md ops (NoPanic Q) S n listed a w
  | .done, n, listed, a, w, hB, hF, hS, h => wpAnyH_done (by simpa [ptB] using hB) (NoPanic.normal h) n
  | .take i r, 0, listed, a, w, hB, hF, hS, h => by cases hF
  | .take i r, n + 1, listed, a, w, hB, hF, hS, h => by
    simp only [ptB, Bool.and_eq_true] at hB
    obtain ⟨o, v, hi, hy, hk⟩ := h
    exact wpAnyH_take hi hs hB.2.1 hB.1 (fun _ _ _ h => h) hy hS (pt_held hs r n _ _ _ hB.2.2 hF hS hk)
  | .one i r, 0, listed, a, w, hB, hF, hS, h => by cases hF
  | .one i r, n + 1, listed, a, w, hB, hF, hS, h => by
    simp only [ptB, Bool.and_eq_true, beq_iff_eq] at hB
    refine wpAnyH_all hB.1 (by simp) (fun j hj => ?_)
    simp only [List.mem_singleton] at hj
    subst hj
    exact wpOp_mono (fun a' w' h' => ⟨h'.1, pt_held hs r n _ _ _ hB.2 hF h'.1 h'.2⟩) h
  | .two i k r s, 0, listed, a, w, hB, hF, hS, h => by cases hF
  | .two i k r s, n + 1, listed, a, w, hB, hF, hS, h => by
    simp only [ptB, Bool.and_eq_true, beq_iff_eq] at hB
    simp only [ptF, Bool.and_eq_true] at hF
    refine wpAnyH_all hB.1 (by simp) (fun j hj => ?_)
    simp only [List.mem_cons, List.not_mem_nil, or_false] at hj
    rcases hj with rfl | rfl
    · exact wpOp_mono (fun a' w' h' => ⟨h'.1, pt_held hs r n _ _ _ hB.2.1 hF.1 h'.1 h'.2⟩) h.1
    · exact wpOp_mono (fun a' w' h' => ⟨h'.1, pt_held hs s n _ _ _ hB.2.2 hF.2 h'.1 h'.2⟩) h.2
end

/-- The region, by a plan. -/
theorem region_pt {P : Program} {id : Nat} {Q : Exit → Act → World → Prop} {a : Act} {w : World} {l : List Oper} (pl : PT) (hm : P.follows .mixedOrders = true)
    (hB : (Region.noSelect l.toArray && (ptB .any l.toArray pl (Array.replicate l.length false) && ptF pl l.length)) = true)
    (h : WpPT P l.toArray Q (Onward w) pl a w.drew) : (Code.region id l.toArray true).wp P Q a w := by
  simp only [Bool.and_eq_true] at hB
  obtain ⟨hs, hp, hl⟩ := hB
  refine wp_region_noPanic (wp_region_held (S := Onward w) hm ?_)
  have := pt_held (Q := Q) (P := P) (S := Onward w) hs pl l.length (Array.replicate l.length false) a w.drew hp hl (Onward.drew w) h.out
  simpa using this
end Go.Proofs.Ytbfpljnfalopdaa.L
