/-
  Regions that draw their order, in a round of a range over a function: the laws of XKeep and XKeepTail there. Over any program.
-/
import Derived.RangeFuncNested
import Derived.OwnWalkIn
import Derived.OrdersIn
import Derived.Test.YtbfpljnfalopdaaKeepTail
set_option linter.unusedVariables false
set_option linter.unusedSimpArgs false
namespace Go.Proofs.Ytbfpljnfalopdaa.L
open Go Go.RowKit

section
variable {P : Program} {ops : Array Oper} {md : Region.Mode}

def noDeferB (l : List Oper) : Bool := l.all fun o => match o.op with
  | .defer _ => false
  | _ => true
theorem noDefer_spec {l : List Oper} (h : noDeferB l = true) {i : Nat} {o : Oper} (hi : l.toArray[i]? = some o) : ∀ c, o.op ≠ .defer c := by
  intro c e
  have hm : o ∈ l := by
    have : l[i]? = some o := by simpa using hi
    exact List.mem_of_getElem? this
  have := List.all_eq_true.1 h o hm
  rw [e] at this
  cases this
theorem oper_in {o : Oper} {a : Act} {w : World} {K : Act → World → Prop} {Q : Exit → Act → World → Prop} {l n : Nat} (hd : ∀ c, o.op ≠ .defer c) (h : o.wp P a w K Q) : o.wpIn (Fence.wide.inRound l) n P a w K Q := by
  refine ⟨fun _ _ => trivial, ?_⟩
  rw [show (Fence.wide.inRound l).round = some l from rfl, Oper.semAt_some l _ _ hd]
  unfold Oper.wp at h
  generalize (execOp a.eval o).run P w = r at *
  cases r with
  | ok x w' =>
    cases x <;> simp only [Oper.upon, Oper.uponIn] at h ⊢
    case value => exact h
    case skip => exact h
    case defer => exact h
    case enter => exact ⟨(fun hh => by cases hh), CallsIn.inRound l (callsIn_wide.2 h)⟩
    case row => exact ⟨(fun hh => by cases hh), fun c cs _ => by obtain ⟨v, w'', r, s⟩ := h c cs; exact ⟨v, w'', r, stepsIn_wide.2 s⟩⟩
  | halt x w' => cases x <;> simp only [Oper.upon, Oper.uponIn] at h ⊢ <;> exact h
theorem wpOpIn_of {i : Nat} {a : Act} {w : World} {K : Act → World → Prop} {K' : Act → World → Prop} {Q : Exit → Act → World → Prop} {l n : Nat} (hQ : ¬ LetsOut Q) (nd : ∀ (i : Nat) (o : Oper), ops[i]? = some o → ∀ c : Call, o.op ≠ Op.defer c) (hk : ∀ a w, K a w → K' a w) (h : wpOp P ops Q i K a w) : wpOpIn (Fence.wide.inRound l) n P ops Q i K' a w := by
  unfold wpOp at h
  unfold wpOpIn
  split
  · rename_i ho; simp only [ho] at h; exact hk _ _ h
  · rename_i o ho
    simp only [ho] at h
    split
    · rename_i hw
      simp only [hw, if_true] at h
      exact Oper.wpIn_mono hk (oper_in (nd i o ho) (h.resolve_right (fun hh => hQ hh.2)))
    · rename_i hw
      simp only [hw] at h
      exact ⟨fun _ _ => trivial, hk _ _ h⟩
theorem wpAnyIn_of_any {Q : Exit → Act → World → Prop} {l n : Nat} (hQ : ¬ LetsOut Q) (nd : ∀ (i : Nat) (o : Oper), ops[i]? = some o → ∀ c : Call, o.op ≠ Op.defer c) : ∀ (fuel : Nat) (listed : Array Bool) (a : Act) (w : World), wpAny P md ops Q fuel listed a w → wpAnyIn (Fence.wide.inRound l) n P md ops Q fuel listed a w
  | 0, _, _, _, h => h
  | fuel + 1, _, _, _, h => ⟨h.1, fun i hi => wpOpIn_of hQ nd (fun a w => wpAnyIn_of_any hQ nd fuel _ a w) (h.2 i hi)⟩
end

/-- XKeep's region_keep in a round. -/
theorem region_keep_round {P : Program} {id lp m : Nat} {Q : Exit → Act → World → Prop} {a : Act} {w : World} {l : List Oper} (hQ : ¬ LetsOut Q) (hm : P.follows .mixedOrders = true) (nd : noDeferB l = true) (hB : Region.lexB .any l.toArray = true)
    (h : WpKeep P l.toArray (Onward w) (fun a' => ∀ W, Onward w W → Q .normal a' W) l a) : (Code.region id l.toArray true).wpIn (Fence.wide.inRound lp) m P Q a w := by
  simp only [Region.lexB, Bool.and_eq_true] at hB
  refine wpIn_region_any hm (wpAnyIn_of_any hQ (fun i o ho => noDefer_spec nd ho) _ _ _ _ ?_)
  refine wpAny_of_keep (I := Onward w) (Q := fun a' => ∀ W, Onward w W → Q .normal a' W) (fun _ W h hI => h W hI) _ _ _ _ (Onward.drew w) ?_
  have := wpAnyK_lex (md := .any) hB.1 l.toArray.toList 0 (Array.replicate l.toArray.size false) a (by simp) (by simpa using hB.2) (by simpa using h.out)
  simpa using this
/-- XKeepTail's region_keep_tail in a round. -/
theorem region_keep_tail_round {P : Program} {id lp m : Nat} {Q : Exit → Act → World → Prop} {a : Act} {w : World} {l : List Oper} (n : Nat) (hQ : ¬ LetsOut Q) (hm : P.follows .mixedOrders = true) (nd : noDeferB l = true) (hB : Region.lexTailB .any l.toArray n = true)
    (h : WpKeep P l.toArray (Onward w) (fun a' => ∀ W, Onward w W → wpList P l.toArray Q (l.drop n) a' W) (l.take n) a) : (Code.region id l.toArray true).wpIn (Fence.wide.inRound lp) m P Q a w := by
  simp only [Region.lexTailB, Bool.and_eq_true, decide_eq_true_eq] at hB
  obtain ⟨⟨⟨⟨hsel, hn⟩, hs⟩, hc⟩, hlex⟩ := hB
  have hn' : n < l.length := by simpa using hn
  have htl : (l.take n).length = n := by simp; omega
  have hdl : (l.drop n).length = l.toArray.size - n := by simp
  have inv0 : HeadInv .any l.toArray n (Array.replicate l.toArray.size false) :=
    ⟨by simp, fun j oj _ hl => (by rw [getD_replicate_false] at hl; cases hl), fun t _ ht => getD_in (by simpa using ht) (getD_replicate_false _ _)⟩
  have H := wpAnyKL_lex (md := .any) (g := l.toArray.size - n) hsel hs hc hn (l.take n) 0 _ a (fun j hj => by
    have hj' : j < n := by rw [htl] at hj; exact hj
    simp [hj']) (by simpa using htl) inv0 (by rw [htl]; exact hlex) h.out
  refine wpIn_region_any hm (wpAnyIn_of_any hQ (fun i o ho => noDefer_spec nd ho) _ _ _ _ ?_)
  have := wpAny_of_keepHead (Q' := Q) (I := Onward w) (g := l.toArray.size - n) (fun listed a' W hL hI => by
    have := wpAny_of_seq (md := .any) (Q' := Q) (l.drop n) n listed a' W (fun j => by simp [List.getElem?_drop]) (by rw [hdl]; exact hL.1) (hL.2 W hI)
    rwa [hdl] at this) _ _ _ _ (Onward.drew w) H
  rw [htl, show n + (l.toArray.size - n) = l.toArray.size by omega] at this
  exact this
end Go.Proofs.Ytbfpljnfalopdaa.L
