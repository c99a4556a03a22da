/-
  A region that draws its order: its first operations read, or call functions that make memory; beside them a variable is made, at whatever time; the last operations wait for all. Walked once, in the text's order.
-/
import Derived.Test.YtbfpljnfalopdaaKeepTail
import Derived.Test.YtbfpljnfalopdaaHeap
set_option linter.unusedVariables false
set_option linter.unusedSimpArgs false
namespace Go.Proofs.Ytbfpljnfalopdaa.L
open Go Go.RowKit

section
variable {P : Program} {ops : Array Oper} {md : Region.Mode} {Y : Sem Next → Value → Prop}

def kpY (ops : Array Oper) (Y : Sem Next → Value → Prop) (i : Nat) (K : Act → Prop) (a : Act) : Prop :=
  match ops[i]? with
  | none => K a
  | some o => if Region.wanted o (yielded ops a.tmps) then ∃ v, Y (execOp a.eval o) v ∧ K (a.put o.dst v) else K (a.put o.dst undef)
theorem kpY_mono {i : Nat} {a : Act} {K K' : Act → Prop} (h : ∀ a, K a → K' a) (hh : kpY ops Y i K a) : kpY ops Y i K' a := by
  unfold kpY at *
  split
  · exact h _ (by simpa [*] using hh)
  · rename_i o ho
    simp only [ho] at hh
    split
    · rename_i hw
      simp only [hw, if_true] at hh
      obtain ⟨v, h1, h2⟩ := hh
      exact ⟨v, h1, h _ h2⟩
    · rename_i hw; simp only [hw] at hh; exact h _ hh
def YAt (ops : Array Oper) (Y : Sem Next → Value → Prop) (o : Oper) (v : Value) (a : Act) : Prop :=
  (Region.wanted o (yielded ops a.tmps) = true ∧ Y (execOp a.eval o) v) ∨ (Region.wanted o (yielded ops a.tmps) = false ∧ v = undef)
theorem YAt.kpY {i : Nat} {o : Oper} {v : Value} {a : Act} (hi : ops[i]? = some o) (hy : YAt ops Y o v a) {K : Act → Prop} (h : K (a.put o.dst v)) : kpY ops Y i K a := by
  unfold L.kpY
  simp only [hi]
  rcases hy with ⟨hw, hv⟩ | ⟨hw, rfl⟩
  · simp only [hw, if_true]; exact ⟨v, hv, h⟩
  · simp only [hw, Bool.false_eq_true, if_false]; exact h
theorem yAt_of_kpY {i : Nat} {o : Oper} {a : Act} {K : Act → Prop} (hi : ops[i]? = some o) (h : kpY ops Y i K a) : ∃ v, YAt ops Y o v a ∧ K (a.put o.dst v) := by
  unfold kpY at h
  simp only [hi] at h
  by_cases hw : Region.wanted o (yielded ops a.tmps) = true
  · simp only [hw, if_true] at h
    obtain ⟨v, h1, h2⟩ := h
    exact ⟨v, .inl ⟨hw, h1⟩, h2⟩
  · simp only [hw] at h
    exact ⟨undef, .inr ⟨by simpa using hw, rfl⟩, h⟩
theorem YAt.of_same {o : Oper} {v : Value} {a a' : Act} (hy : YAt ops Y o v a) (he : execOp a'.eval o = execOp a.eval o)
    (hw : Region.wanted o (yielded ops a'.tmps) = Region.wanted o (yielded ops a.tmps)) : YAt ops Y o v a' := by
  unfold YAt at *
  rw [he, hw]
  exact hy
theorem kpY_put {j : Nat} {oi oj : Oper} {v : Value} (hj : ops[j]? = some oj) (hap : oi.apart ops oj = true)
    (hsi : ∀ cs b, oi.op ≠ .select cs b) (hsj : ∀ cs b, oj.op ≠ .select cs b) {K : Act → Prop} {a : Act}
    (hy : YAt ops Y oi v a) (h : kpY ops Y j K (a.put oi.dst v)) :
    kpY ops Y j (fun a' => YAt ops Y oi v a' ∧ K (a'.put oi.dst v)) a := by
  obtain ⟨h1, h2, h3⟩ := Oper.apart_spec hap
  have keep : ∀ (a : Act), YAt ops Y oi v a → ∀ u, YAt ops Y oi v (a.put oj.dst u) := fun a hy u =>
    hy.of_same (execOp_put oi hsi a oj.dst u h3) (wanted_put oi a oj.dst u h3)
  unfold kpY at *
  simp only [hj] at *
  rw [wanted_put oj a oi.dst v h1] at h
  split
  · rename_i hw
    simp only [hw, if_true] at h
    obtain ⟨u, hu, hk⟩ := h
    refine ⟨u, ?_, keep a hy u, by rw [← Act.put_comm a v u h2]; exact hk⟩
    rw [execOp_put oj hsj a oi.dst v h1] at hu
    exact hu
  · rename_i hw
    simp only [hw] at h
    exact ⟨keep a hy _, by rw [← Act.put_comm a v undef h2]; exact h⟩
/-- A slot that the operation does not read and does not write, set ahead of it. -/
theorem kpY_ahead {j : Nat} {oi oj : Oper} {x : Value} (hj : ops[j]? = some oj) (hap : oi.apart ops oj = true) (hsj : ∀ cs b, oj.op ≠ .select cs b) {K K' : Act → Prop} {a : Act}
    (hK : ∀ a, K a → K' (a.put oi.dst x)) (h : kpY ops Y j K a) : kpY ops Y j K' (a.put oi.dst x) := by
  obtain ⟨h1, h2, h3⟩ := Oper.apart_spec hap
  unfold kpY at *
  simp only [hj] at *
  rw [wanted_put oj a oi.dst x h1]
  split
  · rename_i hw
    simp only [hw, if_true] at h
    obtain ⟨u, hu, hk⟩ := h
    refine ⟨u, ?_, by rw [Act.put_comm a x u h2]; exact hK _ hk⟩
    rw [execOp_put oj hsj a oi.dst x h1]
    exact hu
  · rename_i hw
    simp only [hw] at h
    rw [Act.put_comm a x undef h2]
    exact hK _ h

/-- The head's operations, those at n and behind being no part of it. -/
def wpAnyYL (md : Region.Mode) (ops : Array Oper) (Y : Sem Next → Value → Prop) (n : Nat) (L : Array Bool → Act → Prop) : Nat → Array Bool → Act → Prop
  | 0, listed, a => L listed a
  | f + 1, listed, a =>
    Region.ready md ops listed ≠ [] ∧ ∀ i ∈ Region.ready md ops listed, i < n ∧ kpY ops Y i (wpAnyYL md ops Y n L f (listed.setIfInBounds i true)) a

/-- n: the variable's making (listed from the start); the tail from n + 1 on. -/
theorem wpAnyYL_first {n i : Nat} {oi : Oper} {v : Value} {L : Array Bool → Act → Prop} (hi : ops[i]? = some oi) (hsel : ∀ (j : Nat) (o : Oper) cs b, ops[j]? = some o → o.op ≠ .select cs b)
    (hs : Region.sinkB md ops (n + 1) = true) (hc : Region.chainB md ops (n + 1) = true) (hn : n + 1 < ops.size) (hin : i < n)
    (hdone : ∀ listed a, L listed a → ∀ j ∈ Region.ready md ops listed, n + 1 ≤ j) :
    ∀ (f : Nat) (listed : Array Bool) (a : Act), HeadInv md ops (n + 1) listed → listed.getD n false = true →
      (∀ j oj, ops[j]? = some oj → j ≠ i → listed.getD j true = false → (∀ e ∈ oj.after, Region.binds md e = true → e.on ≠ i) → oi.apart ops oj = true) →
      i ∈ Region.ready md ops listed → YAt ops Y oi v a →
      wpAnyYL md ops Y n L f (listed.setIfInBounds i true) (a.put oi.dst v) → wpAnyYL md ops Y n L (f + 1) listed a := by
  have small : ∀ (listed : Array Bool) (j : Nat), HeadInv md ops (n + 1) listed → listed.getD n false = true → listed.getD i true = false → j ∈ Region.ready md ops listed → j < n := by
    intro listed j inv hln hun hj
    rcases Nat.lt_trichotomy j n with h | h | h
    · exact h
    · subst h
      have h0 := (mem_ready.1 hj).1
      rw [getD_both h0] at hln; cases hln
    · exact absurd hj (tail_waits hs hc hn inv _ i rfl (by omega) hun j (by omega))
  intro f
  induction f with
  | zero =>
    intro listed a inv hln _ hr hy H
    have hun := (mem_ready.1 hr).1
    refine ⟨fun h => (by rw [h] at hr; cases hr), fun j hj => ?_⟩
    refine ⟨small listed j inv hln hun hj, ?_⟩
    by_cases hji : j = i
    · subst hji; exact hy.kpY hi H
    · have := hdone _ _ H j (ready_mono hj hji)
      have := small listed j inv hln hun hj
      omega
  | succ f ih =>
    intro listed a inv hln hfree hr hy H
    have hun := (mem_ready.1 hr).1
    refine ⟨fun h => (by rw [h] at hr; cases hr), fun j hj => ?_⟩
    have hjn := small listed j inv hln hun hj
    refine ⟨hjn, ?_⟩
    by_cases hji : j = i
    · subst hji; exact hy.kpY hi H
    · have h1 := (H.2 j (ready_mono hj hji)).2
      obtain ⟨hjun, oj, hoj, hall⟩ := mem_ready.1 hj
      have hnot : ∀ e ∈ oj.after, Region.binds md e = true → e.on ≠ i := fun e he hb heq => by
        have h1 := hall e he hb
        rw [heq, getD_both hun] at h1
        cases h1
      have h2 := kpY_put hoj (hfree j oj hoj hji hjun hnot) (fun cs b => hsel i oi cs b hi) (fun cs b => hsel j oj cs b hoj) hy h1
      have hfree' : ∀ k ok, ops[k]? = some ok → k ≠ i → (listed.setIfInBounds j true).getD k true = false →
          (∀ e ∈ ok.after, Region.binds md e = true → e.on ≠ i) → oi.apart ops ok = true := fun k ok hk hki hun hno => by
        refine hfree k ok hk hki ?_ hno
        by_cases hjk : j = k
        · subst hjk; exact hjun
        · rw [getD_set_ne true hjk] at hun; exact hun
      refine kpY_mono (fun a' h3 => ih (listed.setIfInBounds j true) a' (inv.set hj (by omega)) (getD_set_true hln) hfree' (ready_mono hr (Ne.symm hji)) h3.1 ?_) h2
      rw [Array.setIfInBounds_comm _ _ hji]
      exact h3.2

/-- The head in the text's order. -/
def wpKeepY (ops : Array Oper) (Y : Sem Next → Value → Prop) (Q : Act → Prop) : List Oper → Act → Prop
  | [], a => Q a
  | o :: rest, a => if Region.wanted o (yielded ops a.tmps) then ∃ v, Y (execOp a.eval o) v ∧ wpKeepY ops Y Q rest (a.put o.dst v) else wpKeepY ops Y Q rest (a.put o.dst undef)
/-- Closed, so that no tactic looks behind it. -/
structure WpKeepY (ops : Array Oper) (Y : Sem Next → Value → Prop) (Q : Act → Prop) (l : List Oper) (a : Act) : Prop where
  out : wpKeepY ops Y Q l a
def lexFloat (md : Region.Mode) (ops : Array Oper) (n g : Nat) : Nat → Nat → Array Bool → Bool
  | 0, k, listed => k == n && Region.seqB md ops g (n + 1) listed
  | f + 1, k, listed => (Region.ready md ops listed).contains k && Region.free md ops listed k && lexFloat md ops n g f (k + 1) (listed.setIfInBounds k true)

theorem wpAnyYL_lex {n g : Nat} {Lq : Act → Prop} (hsel : Region.noSelect ops = true) (hs : Region.sinkB md ops (n + 1) = true) (hc : Region.chainB md ops (n + 1) = true) (hn : n + 1 < ops.size) (hg : 0 < g) :
    ∀ (l : List Oper) (k : Nat) (listed : Array Bool) (a : Act), (∀ j, j < l.length → l[j]? = ops[k + j]?) → k + l.length = n → HeadInv md ops (n + 1) listed → listed.getD n false = true →
    lexFloat md ops n g l.length k listed = true → wpKeepY ops Y Lq l a →
    wpAnyYL md ops Y n (fun listed' a' => Region.seqB md ops g (n + 1) listed' = true ∧ Lq a') l.length listed a
  | [], k, listed, a, _, hk, _, _, hB, h => by
    simp only [lexFloat, List.length_nil, Bool.and_eq_true] at hB
    exact ⟨hB.2, h⟩
  | o :: l, k, listed, a, hl, hk, inv, hln, hB, h => by
    have h0 : ops[k]? = some o := by simpa using (hl 0 (by simp)).symm
    simp only [List.length_cons, lexFloat, Bool.and_eq_true] at hB
    obtain ⟨⟨hr, hf⟩, hB'⟩ := hB
    have hkn : k < n := by simp only [List.length_cons] at hk; omega
    have hr' : k ∈ Region.ready md ops listed := by simpa using hr
    have hst : kpY ops Y k (wpKeepY ops Y Lq l) a := by unfold kpY; simp only [h0]; exact h
    obtain ⟨v, hy, hK⟩ := yAt_of_kpY h0 hst
    refine wpAnyYL_first h0 (Region.noSelect_spec hsel) hs hc hn hkn (fun listed' a' hL => ?_) l.length listed a inv hln (Region.free_spec h0 hf) hr' hy
      (wpAnyYL_lex hsel hs hc hn hg l (k + 1) _ _ (fun j hj => by have := hl (j + 1) (by simp; omega); simpa [Nat.add_assoc, Nat.add_comm 1 j] using this) (by simp only [List.length_cons] at hk; omega) (inv.set hr' (by omega)) (getD_set_true hln) hB' hK)
    have := hL.1
    cases g with
    | zero => omega
    | succ g =>
      simp only [Region.seqB, Bool.and_eq_true, decide_eq_true_eq] at this
      intro j hj
      rw [this.1] at hj
      simp at hj
      omega

/-- In whatever world that came of w, all of it kept: the operation's run gives v, and what was there stays. -/
def keptUpon (P : Program) (v : Value) (W : World) : Result Next → Prop
  | .ok (.value u) W' => u = v ∧ Below W.heap.size W W'
  | .ok .skip W' => v = undef ∧ Below W.heap.size W W'
  | .ok (.enter f args) W' => Below W.heap.size W W' ∧ Calls P f args W' (fun e W'' => e = .returned v ∧ Below W.heap.size W W'')
  | _ => False
theorem keptUpon_value (P : Program) (v u : Value) (W W' : World) : keptUpon P v W (.ok (.value u) W') = (u = v ∧ Below W.heap.size W W') := rfl
theorem keptUpon_skip (P : Program) (v : Value) (W W' : World) : keptUpon P v W (.ok .skip W') = (v = undef ∧ Below W.heap.size W W') := rfl
theorem keptUpon_enter (P : Program) (v : Value) (f : FuncId) (args : Array Value) (W W' : World) : keptUpon P v W (.ok (.enter f args) W') = (Below W.heap.size W W' ∧ Calls P f args W' (fun e W'' => e = .returned v ∧ Below W.heap.size W W'')) := rfl
def YB (P : Program) (w : World) : Sem Next → Value → Prop := fun s v => ∀ W, Onward w W → keptUpon P v W (s.run P W)

theorem wpOp_of_kpYB {w : World} {i : Nat} {a : Act} {W : World} {S : World → Prop} (hS : ∀ W W', S W → Below W.heap.size W W' → S W') {K : Act → Prop} {K' : Act → World → Prop} {Q' : Exit → Act → World → Prop} (hI : Below w.heap.size w W) (hSW : S W)
    (h : ∀ a W, K a → Below w.heap.size w W → S W → K' a W) (hh : kpY ops (YB P w) i K a) : wpOp P ops Q' i K' a W := by
  unfold kpY at hh
  unfold wpOp
  split
  · rename_i ho; simp only [ho] at hh; exact h _ _ hh hI hSW
  · rename_i o ho
    simp only [ho] at hh
    split
    · rename_i hw
      simp only [hw, if_true] at hh
      obtain ⟨v, h1, h2⟩ := hh
      refine .inl ?_
      have h3 := h1 W hI
      unfold Oper.wp
      generalize (execOp a.eval o).run P W = r at *
      cases r with
      | ok n w' =>
        cases n <;> simp only [keptUpon] at h3 <;> simp only [Oper.upon]
        case value u => obtain ⟨rfl, h4⟩ := h3; exact h _ _ h2 (keeps_trans hI h4) (hS _ _ hSW h4)
        case skip => obtain ⟨rfl, h4⟩ := h3; exact h _ _ h2 (keeps_trans hI h4) (hS _ _ hSW h4)
        case enter f args =>
          exact h3.2.mono fun e w'' ⟨he, hw⟩ => by subst he; exact h _ _ h2 (keeps_trans hI hw) (hS _ _ hSW hw)
      | halt x w' => simp only [keptUpon] at h3
    · rename_i hw; simp only [hw] at hh; exact h _ _ hh hI hSW

/-- Behind the variable's making. -/
theorem wpAny_of_YHead {w : World} {n g : Nat} {L : Array Bool → Act → Prop} {S : World → Prop} (hS : ∀ W W', S W → Below W.heap.size W W' → S W') {Q' : Exit → Act → World → Prop}
    (hL : ∀ listed a W, L listed a → Below w.heap.size w W → S W → wpAny P md ops Q' g listed a W) :
    ∀ (f : Nat) (listed : Array Bool) (a : Act) (W : World), Below w.heap.size w W → S W → wpAnyYL md ops (YB P w) n L f listed a → wpAny P md ops Q' (f + g) listed a W
  | 0, listed, a, W, hI, hSW, h => by rw [Nat.zero_add]; exact hL _ _ _ h hI hSW
  | f + 1, listed, a, W, hI, hSW, h => by
    rw [show f + 1 + g = (f + g) + 1 by omega]
    exact ⟨fun h0 => absurd h0 h.1, fun i hi => wpOp_of_kpYB hS hI hSW (fun a' W' h' hI' hS' => wpAny_of_YHead hS hL f _ a' W' hI' hS' h') (h.2 i hi).2⟩

theorem wpAnyYL_ahead {n : Nat} {on : Oper} {x : Value} {L L' : Array Bool → Act → Prop} (hL : ∀ listed a, L listed a → L' listed (a.put on.dst x)) (hsel : ∀ (j : Nat) (o : Oper) cs b, ops[j]? = some o → o.op ≠ .select cs b)
    (hap : ∀ i oi, i < n → ops[i]? = some oi → on.apart ops oi = true) : ∀ (f : Nat) (listed : Array Bool) (a : Act), wpAnyYL md ops Y n L f listed a → wpAnyYL md ops Y n L' f listed (a.put on.dst x)
  | 0, _, _, h => hL _ _ h
  | f + 1, listed, a, h => ⟨h.1, fun i hi => by
    obtain ⟨h1, h2⟩ := h.2 i hi
    obtain ⟨_, oi, hoi, _⟩ := mem_ready.1 hi
    exact ⟨h1, kpY_ahead hoi (hap i oi h1 hoi) (fun cs b => hsel i oi cs b hoi) (fun a h => wpAnyYL_ahead hL hsel hap f _ a h) h2⟩⟩

def floatB (md : Region.Mode) (ops : Array Oper) (n : Nat) : Bool :=
  Region.noSelect ops && Region.sinkB md ops (n + 1) && Region.chainB md ops (n + 1) && decide (n + 1 < ops.size) &&
  (match ops[n]? with
   | none => false
   | some on => on.after.all (fun e => !Region.binds md e) && on.guard.isNone && (List.range n).all (fun i => match ops[i]? with
      | none => false
      | some oi => on.apart ops oi && oi.after.all (fun e => !(Region.binds md e && e.on == n)))) &&
  (List.range ops.size).all (fun t => decide (t ≤ n) || Region.waitsFor md ops t n || decide (n + 1 < t)) &&
  lexFloat md ops n (ops.size - (n + 1)) n 0 ((Array.replicate ops.size false).setIfInBounds n true)

theorem wpAny_float {w : World} {n g : Nat} {on : Oper} {s : Tmp} {T : TypeId} {z : Array Value} {Lq : Act → Prop} {Q' : Exit → Act → World → Prop}
    (hsel : Region.noSelect ops = true) (hs : Region.sinkB md ops (n + 1) = true) (hc : Region.chainB md ops (n + 1) = true) (hn : n + 1 < ops.size) (hg : 0 < g)
    (hon : ops[n]? = some on) (hfree : ∀ e ∈ on.after, Region.binds md e = false) (hgd : on.guard = none) (hdst : on.dst = some s)
    (hap : ∀ i oi, i < n → ops[i]? = some oi → on.apart ops oi = true) (hwait : Region.waitsFor md ops (n + 1) n = true)
    (hrun : ∀ (a : Act) (W : World), (execOp a.eval on).run P W = .ok (.value (.pointer (some ⟨W.heap.size, 0, none⟩))) (W.alloc (.cells z T)))
    (hL : ∀ listed a b W, Region.seqB md ops g (n + 1) listed = true → Lq a → Below w.heap.size w W → w.heap.size ≤ b → Blk W b T z → wpAny P md ops Q' g listed (a.put (some s) (.pointer (some ⟨b, 0, none⟩))) W) :
    ∀ (f : Nat) (listed : Array Bool) (a : Act) (W : World), Below w.heap.size w W → HeadInv md ops (n + 1) listed → listed.getD n true = false →
      wpAnyYL md ops (YB P w) n (fun listed' a' => Region.seqB md ops g (n + 1) listed' = true ∧ Lq a') f (listed.setIfInBounds n true) a → wpAny P md ops Q' (f + 1 + g) listed a W := by
  intro f
  induction f with
  | zero =>
    intro listed a W hI inv hln h
    have hrn : n ∈ Region.ready md ops listed := mem_ready.2 ⟨hln, on, hon, fun e he hb => by rw [hfree e he] at hb; cases hb⟩
    rw [show 0 + 1 + g = g + 1 by omega]
    refine ⟨fun h0 => (by rw [h0] at hrn; cases hrn), fun i hi => ?_⟩
    have hin : i = n := by
      rcases Nat.lt_trichotomy i n with h1 | h1 | h1
      · have h2 := ready_mono (i := n) hi (by omega)
        cases g with
        | zero => omega
        | succ g =>
          have h3 := h.1
          simp only [Region.seqB, Bool.and_eq_true, decide_eq_true_eq] at h3
          rw [h3.1] at h2
          simp at h2
          omega
      · exact h1
      · exfalso
        obtain ⟨_, oi, hoi, hall⟩ := mem_ready.1 hi
        have hilt : i < ops.size := (Array.getElem?_eq_some_iff.1 hoi).1
        rcases Nat.lt_or_ge (n + 1) i with h2 | h2
        · have h3 := List.all_eq_true.1 hc i (List.mem_range.2 hilt)
          simp only [Bool.or_eq_true, decide_eq_true_eq] at h3
          rcases h3 with h3 | h3
          · omega
          · obtain ⟨o', ho', e, he, hb, heo⟩ := Region.waitsFor_spec h3
            have : o' = oi := Option.some.inj (ho'.symm.trans hoi)
            subst this
            have h4 := hall e he hb
            rw [heo, getD_both (inv.tail (i - 1) (by omega) (by omega))] at h4
            cases h4
        · have : i = n + 1 := by omega
          subst this
          obtain ⟨o', ho', e, he, hb, heo⟩ := Region.waitsFor_spec hwait
          have : o' = oi := Option.some.inj (ho'.symm.trans hoi)
          subst this
          have h4 := hall e he hb
          rw [heo, getD_both hln] at h4
          cases h4
    subst hin
    unfold wpOp
    simp only [hon, Region.wanted, hgd, if_true]
    refine .inl ?_
    unfold Oper.wp
    rw [hrun]
    simp only [Oper.upon]
    rw [hdst]
    exact hL _ _ _ _ h.1 h.2 (keeps_trans hI ((Below.refl _ _).alloc (Nat.le_refl _) _)) hI.size (Blk.new _ _ _)
  | succ f ih =>
    intro listed a W hI inv hln h
    have hrn : n ∈ Region.ready md ops listed := mem_ready.2 ⟨hln, on, hon, fun e he hb => by rw [hfree e he] at hb; cases hb⟩
    rw [show f + 1 + 1 + g = (f + 1 + g) + 1 by omega]
    refine ⟨fun h0 => (by rw [h0] at hrn; cases hrn), fun i hi => ?_⟩
    by_cases hin : i = n
    · subst hin
      unfold wpOp
      simp only [hon, Region.wanted, hgd, if_true]
      refine .inl ?_
      unfold Oper.wp
      rw [hrun]
      simp only [Oper.upon]
      have h2 := wpAnyYL_ahead (on := on) (x := .pointer (some ⟨W.heap.size, 0, none⟩)) (L' := fun listed' a' => Region.seqB md ops g (i + 1) listed' = true ∧ ∃ a'', a' = a''.put on.dst (.pointer (some ⟨W.heap.size, 0, none⟩)) ∧ Lq a'') (fun listed' a' hl => ⟨hl.1, a', rfl, hl.2⟩) (Region.noSelect_spec hsel) hap _ _ _ h
      refine wpAny_of_YHead (S := fun W' => Blk W' W.heap.size T z) (fun W1 W2 hb hk => Blk.below hb hk (Blk.lt hb)) (fun listed' a' W' hl hI' hS' => ?_) (f + 1) _ _ _ (keeps_trans hI ((Below.refl _ _).alloc (Nat.le_refl _) _)) (Blk.new _ _ _) h2
      obtain ⟨h3, a'', rfl, h4⟩ := hl
      rw [hdst]
      exact hL _ _ _ _ h3 h4 hI' hI.size hS'
    · have h2 := ready_mono (i := n) hi hin
      obtain ⟨hilt, h3⟩ := h.2 i h2
      have hset : (listed.setIfInBounds n true).setIfInBounds i true = (listed.setIfInBounds i true).setIfInBounds n true := Array.setIfInBounds_comm _ _ (by omega)
      rw [hset] at h3
      refine wpOp_of_kpYB (S := fun _ => True) (fun _ _ _ _ => trivial) hI trivial (fun a' W' h' hI' _ => ?_) h3
      exact ih _ a' W' hI' (inv.set hi (by omega)) (by rw [getD_set_ne true (by omega)]; exact hln) h'
end

/-- The region: n operations that keep what was there; a variable made; then the rest in the text's order. -/
theorem region_float {P : Program} {id : Nat} {Q : Exit → Act → World → Prop} {a : Act} {w : World} {l : List Oper} (n : Nat) (T : TypeId) (z : Array Value) (s : Tmp) (hm : P.follows .mixedOrders = true) (hB : floatB .any l.toArray n = true)
    (ho : ∃ on, l[n]? = some on ∧ on.dst = some s ∧ ∀ (a : Act) (W : World), (execOp a.eval on).run P W = .ok (.value (.pointer (some ⟨W.heap.size, 0, none⟩))) (W.alloc (.cells z T)))
    (h : WpKeepY l.toArray (YB P w) (fun a' => ∀ b W, Onward w W → w.heap.size ≤ b → Blk W b T z → wpList P l.toArray Q (l.drop (n + 1)) (a'.put (some s) (.pointer (some ⟨b, 0, none⟩))) W) (l.take n) a) : (Code.region id l.toArray true).wp P Q a w := by
  obtain ⟨on, hon, hdst, hrun⟩ := ho
  simp only [floatB, Bool.and_eq_true, decide_eq_true_eq] at hB
  obtain ⟨⟨⟨⟨⟨⟨hsel, hs⟩, hc⟩, hn⟩, hmid⟩, hall⟩, hlex⟩ := hB
  have hon' : l.toArray[n]? = some on := by simpa using hon
  rw [hon'] at hmid
  simp only [Bool.and_eq_true] at hmid
  obtain ⟨⟨hfr, hgd⟩, hap⟩ := hmid
  have hn' : n + 1 < l.length := by simpa using hn
  have htl : (l.take n).length = n := by simp; omega
  have hdl : (l.drop (n + 1)).length = l.toArray.size - (n + 1) := by simp
  have hsz : l.toArray.size = l.length := by simp
  have hwait : Region.waitsFor .any l.toArray (n + 1) n = true := by
    have h1 := List.all_eq_true.1 hall (n + 1) (List.mem_range.2 hn)
    simp only [Bool.or_eq_true, decide_eq_true_eq] at h1
    rcases h1 with (h1 | h1) | h1
    · omega
    · exact h1
    · omega
  have inv0 : HeadInv .any l.toArray (n + 1) (Array.replicate l.toArray.size false) :=
    ⟨by simp, fun j oj _ hl => (by rw [getD_replicate_false] at hl; cases hl), fun t _ ht => getD_in (by simpa using ht) (getD_replicate_false _ _)⟩
  have hfree : ∀ e ∈ on.after, Region.binds .any e = false := fun e he => by
    have := Array.all_eq_true'.1 hfr e he
    simpa using this
  have inv1 : HeadInv .any l.toArray (n + 1) ((Array.replicate l.toArray.size false).setIfInBounds n true) := by
    refine inv0.set (mem_ready.2 ⟨getD_in (by simp; omega) (getD_replicate_false _ _), on, hon', fun e he hb => by rw [hfree e he] at hb; cases hb⟩) (by omega)
  have hln1 : ((Array.replicate l.toArray.size false).setIfInBounds n true).getD n false = true := by
    simp [hn']
    omega
  have H := wpAnyYL_lex (md := .any) (Y := YB P w) (n := n) (g := l.toArray.size - (n + 1)) hsel hs hc hn (by omega) (l.take n) 0 _ a (fun j hj => by
    have hj' : j < n := by rw [htl] at hj; exact hj
    simp [hj']) (by simpa using htl) inv1 hln1 (by rw [htl]; exact hlex) h.out
  refine wp_region_any hm ?_
  have := wpAny_float (Q' := Q) (w := w) (s := s) (T := T) (z := z) hsel hs hc hn (by omega : 0 < l.toArray.size - (n + 1)) hon' hfree (by simpa using hgd) hdst (fun i oi hi hoi => by
      have h1 := List.all_eq_true.1 hap i (List.mem_range.2 hi)
      rw [hoi] at h1
      simp only [Bool.and_eq_true] at h1
      exact h1.1) hwait hrun (fun listed a b W hq hLq hI hb hBk => by
      have := wpAny_of_seq (md := .any) (Q' := Q) (l.drop (n + 1)) (n + 1) listed (a.put (some s) (.pointer (some ⟨b, 0, none⟩))) W (fun j => by simp [List.getElem?_drop]) (by rw [hdl]; exact hq) (hLq b W hI hb hBk)
      rwa [hdl] at this) (l.take n).length _ a w.drew ((Below.refl _ _ : Below w.heap.size w w).drew) inv0 (getD_in (by simp; omega) (getD_replicate_false _ _)) H
  rw [htl, show n + 1 + (l.toArray.size - (n + 1)) = l.toArray.size by omega] at this
  exact this
theorem wpKeepY_nil {ops : Array Oper} {Y : Sem Next → Value → Prop} {Q : Act → Prop} {a : Act} (h : Q a) : WpKeepY ops Y Q [] a := ⟨h⟩
theorem wpKeepY_yes {ops : Array Oper} {Y : Sem Next → Value → Prop} {Q : Act → Prop} {a a' : Act} {o : Oper} {rest : List Oper} (v : Value) (hw : Region.wanted o (yielded ops a.tmps) = true) (h : Y (execOp a.eval o) v) (ha : a.put o.dst v = a')
    (k : WpKeepY ops Y Q rest a') : WpKeepY ops Y Q (o :: rest) a := by
  subst ha
  refine ⟨?_⟩
  unfold wpKeepY
  rw [if_pos hw]
  exact ⟨v, h, k.out⟩
theorem wpKeepY_no {ops : Array Oper} {Y : Sem Next → Value → Prop} {Q : Act → Prop} {a a' : Act} {o : Oper} {rest : List Oper} (hw : Region.wanted o (yielded ops a.tmps) = false) (ha : a.put o.dst undef = a')
    (k : WpKeepY ops Y Q rest a') : WpKeepY ops Y Q (o :: rest) a := by
  subst ha
  refine ⟨?_⟩
  unfold wpKeepY
  rw [if_neg (by rw [hw]; decide)]
  exact k.out
attribute [go_sem] keptUpon_value keptUpon_skip keptUpon_enter
end Go.Proofs.Ytbfpljnfalopdaa.L
