/-
  A region that draws its order, whose operations read, or call functions that make memory: whatever the order, each operation gives the same value, and what was there stays. Walked once, in the text's order.
-/
import Derived.Test.YtbfpljnfalopdaaLibB
import Derived.Still
set_option linter.unusedVariables false
set_option linter.unusedSimpArgs false
namespace Go.Proofs.Ytbfpljnfalopdaa.L
open Go Go.RowKit

section
variable {P : Program} {ops : Array Oper} {md : Region.Mode} {I : World → Prop}

/-- In whatever world that I allows the operation's run gives v, and I holds behind it. -/
def keepsUpon (P : Program) (I : World → Prop) (v : Value) : Result Next → Prop
  | .ok (.value u) W => u = v ∧ I W
  | .ok .skip W => v = undef ∧ I W
  | .ok (.enter f args) W => I W ∧ Calls P f args W (fun e W' => e = .returned v ∧ I W')
  | _ => False

theorem keepsUpon_value (v u : Value) (W : World) : keepsUpon P I v (.ok (.value u) W) = (u = v ∧ I W) := rfl
theorem keepsUpon_skip (v : Value) (W : World) : keepsUpon P I v (.ok .skip W) = (v = undef ∧ I W) := rfl
theorem keepsUpon_enter (v : Value) (f : FuncId) (args : Array Value) (W : World) : keepsUpon P I v (.ok (.enter f args) W) = (I W ∧ Calls P f args W (fun e W' => e = .returned v ∧ I W')) := rfl

def OpKeeps (P : Program) (I : World → Prop) (o : Oper) (a : Act) (v : Value) : Prop := ∀ W, I W → keepsUpon P I v ((execOp a.eval o).run P W)

def wpKeep (P : Program) (ops : Array Oper) (I : World → Prop) (Q : Act → Prop) : List Oper → Act → Prop
  | [], a => Q a
  | o :: rest, a => if Region.wanted o (yielded ops a.tmps) then ∃ v, OpKeeps P I o a v ∧ wpKeep P ops I Q rest (a.put o.dst v) else wpKeep P ops I Q rest (a.put o.dst undef)

/-- Closed, so that no tactic looks behind it. -/
structure WpKeep (P : Program) (ops : Array Oper) (I : World → Prop) (Q : Act → Prop) (l : List Oper) (a : Act) : Prop where
  out : wpKeep P ops I Q l a

theorem wpKeep_nil {Q : Act → Prop} {a : Act} (h : Q a) : WpKeep P ops I Q [] a := ⟨h⟩
/-- The operation's turn. -/
theorem wpKeep_yes {Q : Act → Prop} {a a' : Act} {o : Oper} {rest : List Oper} (v : Value) (hw : Region.wanted o (yielded ops a.tmps) = true) (h : OpKeeps P I o a v) (ha : a.put o.dst v = a')
    (k : WpKeep P ops I Q rest a') : WpKeep P ops I Q (o :: rest) a := by
  subst ha
  refine ⟨?_⟩
  unfold wpKeep
  rw [if_pos hw]
  exact ⟨v, h, k.out⟩
/-- Its guard says no. -/
theorem wpKeep_no {Q : Act → Prop} {a a' : Act} {o : Oper} {rest : List Oper} (hw : Region.wanted o (yielded ops a.tmps) = false) (ha : a.put o.dst undef = a')
    (k : WpKeep P ops I Q rest a') : WpKeep P ops I Q (o :: rest) a := by
  subst ha
  refine ⟨?_⟩
  unfold wpKeep
  rw [if_neg (by rw [hw]; decide)]
  exact k.out

def kpOp (P : Program) (ops : Array Oper) (I : World → Prop) (i : Nat) (K : Act → Prop) (a : Act) : Prop :=
  match ops[i]? with
  | none => K a
  | some o => if Region.wanted o (yielded ops a.tmps) then ∃ v, OpKeeps P I o a v ∧ K (a.put o.dst v) else K (a.put o.dst undef)

theorem kpOp_mono {i : Nat} {a : Act} {K K' : Act → Prop} (h : ∀ a, K a → K' a) (hh : kpOp P ops I i K a) : kpOp P ops I i K' a := by
  unfold kpOp at *
  split
  · exact h _ (by simpa [*] using hh)
  · rename_i o ho
    simp only [ho] at hh
    split
    · rename_i hw
      simp only [hw, if_true] at hh
      obtain ⟨v, h1, h2⟩ := hh
      exact ⟨v, h1, h _ h2⟩
    · rename_i hw; simp only [hw] at hh; exact h _ hh

def wpAnyK (P : Program) (md : Region.Mode) (ops : Array Oper) (I : World → Prop) (Q : Act → Prop) : Nat → Array Bool → Act → Prop
  | 0, listed, a => Region.ready md ops listed = [] ∧ Q a
  | fuel + 1, listed, a =>
    (Region.ready md ops listed = [] → Q a) ∧
    ∀ i ∈ Region.ready md ops listed, kpOp P ops I i (wpAnyK P md ops I Q fuel (listed.setIfInBounds i true)) a

theorem wpOp_of_kpOp {i : Nat} {a : Act} {W : World} {K : Act → Prop} {K' : Act → World → Prop} {Q' : Exit → Act → World → Prop} (hI : I W) (h : ∀ a W, K a → I W → K' a W) (hh : kpOp P ops I i K a) : wpOp P ops Q' i K' a W := by
  unfold kpOp at hh
  unfold wpOp
  split
  · rename_i ho; simp only [ho] at hh; exact h _ _ hh hI
  · rename_i o ho
    simp only [ho] at hh
    split
    · rename_i hw
      simp only [hw, if_true] at hh
      obtain ⟨v, h1, h2⟩ := hh
      refine .inl ?_
      have h3 := h1 W hI
      unfold Oper.wp
      generalize (execOp a.eval o).run P W = r at *
      cases r with
      | ok n w' =>
        cases n <;> simp only [keepsUpon] at h3 <;> simp only [Oper.upon]
        case value u => obtain ⟨rfl, h4⟩ := h3; exact h _ _ h2 h4
        case skip => obtain ⟨rfl, h4⟩ := h3; exact h _ _ h2 h4
        case enter f args =>
          exact h3.2.mono fun e w'' ⟨he, hw⟩ => by subst he; exact h _ _ h2 hw
      | halt x w' => simp only [keepsUpon] at h3
    · rename_i hw; simp only [hw] at hh; exact h _ _ hh hI

theorem wpAny_of_keep {Q : Act → Prop} {Q' : Exit → Act → World → Prop} (hQ : ∀ a W, Q a → I W → Q' .normal a W) : ∀ (fuel : Nat) (listed : Array Bool) (a : Act) (W : World), I W →
    wpAnyK P md ops I Q fuel listed a → wpAny P md ops Q' fuel listed a W
  | 0, _, _, _, hI, h => ⟨h.1, hQ _ _ h.2 hI⟩
  | fuel + 1, _, _, _, hI, h => ⟨fun h0 => hQ _ _ (h.1 h0) hI, fun i hi => wpOp_of_kpOp hI (fun a' W' k hk => wpAny_of_keep hQ fuel _ a' W' hk k) (h.2 i hi)⟩

def KeepsAt (P : Program) (ops : Array Oper) (I : World → Prop) (o : Oper) (v : Value) (a : Act) : Prop :=
  (Region.wanted o (yielded ops a.tmps) = true ∧ OpKeeps P I o a v) ∨ (Region.wanted o (yielded ops a.tmps) = false ∧ v = undef)

theorem KeepsAt.kpOp {i : Nat} {o : Oper} {v : Value} {a : Act} (hi : ops[i]? = some o) (hy : KeepsAt P ops I o v a) {K : Act → Prop} (h : K (a.put o.dst v)) : kpOp P ops I i K a := by
  unfold L.kpOp
  simp only [hi]
  rcases hy with ⟨hw, hv⟩ | ⟨hw, rfl⟩
  · simp only [hw, if_true]; exact ⟨v, hv, h⟩
  · simp only [hw, Bool.false_eq_true, if_false]; exact h

theorem keepsAt_of_kpOp {i : Nat} {o : Oper} {a : Act} {K : Act → Prop} (hi : ops[i]? = some o) (h : kpOp P ops I i K a) : ∃ v, KeepsAt P ops I o v a ∧ K (a.put o.dst v) := by
  unfold kpOp at h
  simp only [hi] at h
  by_cases hw : Region.wanted o (yielded ops a.tmps) = true
  · simp only [hw, if_true] at h
    obtain ⟨v, h1, h2⟩ := h
    exact ⟨v, .inl ⟨hw, h1⟩, h2⟩
  · simp only [hw] at h
    exact ⟨undef, .inr ⟨by simpa using hw, rfl⟩, h⟩

theorem KeepsAt.of_same {o : Oper} {v : Value} {a a' : Act} (hy : KeepsAt P ops I o v a) (he : execOp a'.eval o = execOp a.eval o)
    (hw : Region.wanted o (yielded ops a'.tmps) = Region.wanted o (yielded ops a.tmps)) : KeepsAt P ops I o v a' := by
  unfold KeepsAt OpKeeps at *
  rw [he, hw]
  exact hy

theorem kpOp_put {j : Nat} {oi oj : Oper} {v : Value} (hj : ops[j]? = some oj) (hap : oi.apart ops oj = true)
    (hsi : ∀ cs b, oi.op ≠ .select cs b) (hsj : ∀ cs b, oj.op ≠ .select cs b) {K : Act → Prop} {a : Act}
    (hy : KeepsAt P ops I oi v a) (h : kpOp P ops I j K (a.put oi.dst v)) :
    kpOp P ops I j (fun a' => KeepsAt P ops I oi v a' ∧ K (a'.put oi.dst v)) a := by
  obtain ⟨h1, h2, h3⟩ := Oper.apart_spec hap
  have keep : ∀ (a : Act), KeepsAt P ops I oi v a → ∀ u, KeepsAt P ops I oi v (a.put oj.dst u) := fun a hy u =>
    hy.of_same (execOp_put oi hsi a oj.dst u h3) (wanted_put oi a oj.dst u h3)
  unfold kpOp at *
  simp only [hj] at *
  rw [wanted_put oj a oi.dst v h1] at h
  split
  · rename_i hw
    simp only [hw, if_true] at h
    obtain ⟨u, hu, hk⟩ := h
    refine ⟨u, ?_, keep a hy u, by rw [← Act.put_comm a v u h2]; exact hk⟩
    unfold OpKeeps at *
    rw [execOp_put oj hsj a oi.dst v h1] at hu
    exact hu
  · rename_i hw
    simp only [hw] at h
    exact ⟨keep a hy _, by rw [← Act.put_comm a v undef h2]; exact h⟩

theorem wpAnyK_first {Q : Act → Prop} {i : Nat} {oi : Oper} {v : Value} (hi : ops[i]? = some oi) (hsel : ∀ (j : Nat) (o : Oper) cs b, ops[j]? = some o → o.op ≠ .select cs b) :
    ∀ (fuel : Nat) (listed : Array Bool) (a : Act),
      (∀ j oj, ops[j]? = some oj → j ≠ i → listed.getD j true = false → (∀ e ∈ oj.after, Region.binds md e = true → e.on ≠ i) → oi.apart ops oj = true) →
      i ∈ Region.ready md ops listed → KeepsAt P ops I oi v a →
      wpAnyK P md ops I Q fuel (listed.setIfInBounds i true) (a.put oi.dst v) → wpAnyK P md ops I Q (fuel + 1) listed a := by
  intro fuel
  induction fuel with
  | zero =>
    intro listed a _ hr hy H
    refine ⟨fun h => (by rw [h] at hr; cases hr), fun j hj => ?_⟩
    by_cases hji : j = i
    · subst hji; exact hy.kpOp hi H
    · have := ready_mono hj hji
      rw [H.1] at this
      cases this
  | succ fuel ih =>
    intro listed a hfree hr hy H
    refine ⟨fun h => (by rw [h] at hr; cases hr), fun j hj => ?_⟩
    by_cases hji : j = i
    · subst hji; exact hy.kpOp hi H
    · have h1 := H.2 j (ready_mono hj hji)
      obtain ⟨hjun, oj, hoj, hall⟩ := mem_ready.1 hj
      have hnot : ∀ e ∈ oj.after, Region.binds md e = true → e.on ≠ i := fun e he hb heq => by
        have h1 := hall e he hb
        have h0 := (mem_ready.1 hr).1
        rw [heq] at h1
        rcases Nat.lt_or_ge i listed.size with h' | h'
        · simp [h'] at h0 h1; rw [h0] at h1; cases h1
        · simp [Array.getElem?_eq_none h'] at h1
      have h2 := kpOp_put hoj (hfree j oj hoj hji hjun hnot) (fun cs b => hsel i oi cs b hi) (fun cs b => hsel j oj cs b hoj) hy h1
      have hfree' : ∀ k ok, ops[k]? = some ok → k ≠ i → (listed.setIfInBounds j true).getD k true = false →
          (∀ e ∈ ok.after, Region.binds md e = true → e.on ≠ i) → oi.apart ops ok = true := fun k ok hk hki hun hno => by
        refine hfree k ok hk hki ?_ hno
        by_cases hjk : j = k
        · subst hjk; exact hjun
        · rw [getD_set_ne true hjk] at hun; exact hun
      refine kpOp_mono (fun a' h3 => ih (listed.setIfInBounds j true) a' hfree' (ready_mono hr (Ne.symm hji)) h3.1 ?_) h2
      rw [Array.setIfInBounds_comm _ _ hji]
      exact h3.2

theorem wpAnyK_lex {Q : Act → Prop} (hs : Region.noSelect ops = true) : ∀ (l : List Oper) (k : Nat) (listed : Array Bool) (a : Act), (∀ j, l[j]? = ops[k + j]?) →
    Region.lexFrom md ops l.length k listed = true → wpKeep P ops I Q l a → wpAnyK P md ops I Q l.length listed a
  | [], _, _, _, _, hB, h => ⟨by simpa [Region.lexFrom] using hB, h⟩
  | o :: l, k, listed, a, hl, hB, h => by
    have h0 : ops[k]? = some o := by simpa using (hl 0).symm
    simp only [List.length_cons, Region.lexFrom, Bool.and_eq_true] at hB
    obtain ⟨⟨hr, hf⟩, hB'⟩ := hB
    have hst : kpOp P ops I k (wpKeep P ops I Q l) a := by unfold kpOp; simp only [h0]; exact h
    obtain ⟨v, hy, hK⟩ := keepsAt_of_kpOp h0 hst
    exact wpAnyK_first h0 (Region.noSelect_spec hs) l.length listed a (Region.free_spec h0 hf) (by simpa using hr) hy
      (wpAnyK_lex hs l (k + 1) _ _ (fun j => by have := hl (j + 1); simpa [Nat.add_assoc, Nat.add_comm 1 j] using this) hB' hK)

theorem wp_region_keep {id : Nat} {Q : Exit → Act → World → Prop} {a : Act} {w : World} (hm : P.follows .mixedOrders = true) (hB : Region.lexB .any ops = true) (h0 : I w.drew)
    (h : wpKeep P ops I (fun a' => ∀ W, I W → Q .normal a' W) ops.toList a) : (Code.region id ops true).wp P Q a w := by
  simp only [Region.lexB, Bool.and_eq_true] at hB
  refine wp_region_any hm (wpAny_of_keep (I := I) (Q := fun a' => ∀ W, I W → Q .normal a' W) (fun _ W h hI => h W hI) _ _ _ _ h0 ?_)
  have := wpAnyK_lex (md := .any) hB.1 ops.toList 0 (Array.replicate ops.size false) a (by simp) (by simpa using hB.2) h
  simpa using this
end

/-- What was there in 'wb' stands in W. (A plain definition: the walk does not look behind it.) -/
def Onward (wb W : World) : Prop := Below wb.heap.size wb W
theorem Onward.refl (w : World) : Onward w w := Below.refl _ _
theorem Onward.drew (w : World) : Onward w w.drew := (Below.refl _ _ : Below w.heap.size w w).drew
theorem Onward.cell {wb W : World} (h : Onward wb W) {b o : Nat} {x : Option Value} (hb : b < wb.heap.size) (hc : wb.cell? ⟨b, o, none⟩ = x) : W.cell? ⟨b, o, none⟩ = x := (Below.cell (p := ⟨b, o, none⟩) h hb).trans hc
theorem Onward.size {wb W : World} (h : Onward wb W) : wb.heap.size ≤ W.heap.size := Below.size h
theorem Onward.after {wb W : World} (h : Onward wb W) {W' : World} (k : Below W.heap.size W W') : Onward wb W' := keeps_trans h k

theorem Gives.up {P : Program} {f : FuncId} {args : Array Value} {v : Value} (g : Gives P f args v) {wb W : World} (h : Onward wb W) : Calls P f args W fun e W' => e = .returned v ∧ Onward wb W' :=
  (g W).mono fun _ _ ⟨he, hb⟩ => ⟨he, h.after hb⟩

/-- The region, over all worlds that hold what this one does. -/
theorem region_keep {P : Program} {id : Nat} {Q : Exit → Act → World → Prop} {a : Act} {w : World} {l : List Oper} (hm : P.follows .mixedOrders = true) (hB : Region.lexB .any l.toArray = true)
    (h : WpKeep P l.toArray (Onward w) (fun a' => ∀ W, Onward w W → Q .normal a' W) l a) : (Code.region id l.toArray true).wp P Q a w :=
  wp_region_keep (I := Onward w) hm hB (Onward.drew w) (by simpa using h.out)

attribute [go_sem] keepsUpon_value keepsUpon_skip keepsUpon_enter

end Go.Proofs.Ytbfpljnfalopdaa.L
