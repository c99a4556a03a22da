/-
  A region that draws its order, some of whose operations turn what others leave alone: whatever the order, each operation gives the same value; what has turned is told by which operations have been. Walked once, in the text's order.
-/
import Derived.Test.YtjkmcncgndkdoaaKeep
set_option linter.unusedVariables false
set_option linter.unusedSimpArgs false
namespace Go.Proofs.Ytjkmcncgndkdoaa.L
open Go Go.RowKit

section
variable {P : Program} {ops : Array Oper} {md : Region.Mode} {I : Array Bool → World → Prop}

/-- The operation's run gives v, and J holds behind it. -/
def sUpon (P : Program) (J : World → Prop) (v : Value) : Result Next → Prop
  | .ok (.value u) W => u = v ∧ J W
  | .ok .skip W => v = undef ∧ J W
  | .ok (.enter f args) W => Calls P f args W (fun e W' => e = .returned v ∧ J W')
  | _ => False
theorem sUpon_value {J : World → Prop} (v u : Value) (W : World) : sUpon P J v (.ok (.value u) W) = (u = v ∧ J W) := rfl
theorem sUpon_skip {J : World → Prop} (v : Value) (W : World) : sUpon P J v (.ok .skip W) = (v = undef ∧ J W) := rfl
theorem sUpon_enter {J : World → Prop} (v : Value) (f : FuncId) (args : Array Value) (W : World) : sUpon P J v (.ok (.enter f args) W) = Calls P f args W (fun e W' => e = .returned v ∧ J W') := rfl

/-- Operation i's turn, whatever has been. -/
def OpStep (P : Program) (I : Array Bool → World → Prop) (i : Nat) (o : Oper) (a : Act) (v : Value) : Prop :=
  ∀ listed W, listed.getD i true = false → I listed W → sUpon P (I (listed.setIfInBounds i true)) v ((execOp a.eval o).run P W)
def OpSkip (I : Array Bool → World → Prop) (i : Nat) : Prop := ∀ listed W, listed.getD i true = false → I listed W → I (listed.setIfInBounds i true) W

def wpComm (P : Program) (ops : Array Oper) (I : Array Bool → World → Prop) (Q : Array Bool → Act → Prop) : Nat → Array Bool → List Oper → Act → Prop
  | _, listed, [], a => Q listed a
  | k, listed, o :: rest, a => if Region.wanted o (yielded ops a.tmps) then ∃ v, OpStep P I k o a v ∧ wpComm P ops I Q (k + 1) (listed.setIfInBounds k true) rest (a.put o.dst v)
      else OpSkip I k ∧ wpComm P ops I Q (k + 1) (listed.setIfInBounds k true) rest (a.put o.dst undef)

theorem wpComm_nil {Q : Array Bool → Act → Prop} {k : Nat} {listed : Array Bool} {a : Act} (h : Q listed a) : wpComm P ops I Q k listed [] a := h
theorem wpComm_yes {Q : Array Bool → Act → Prop} {a a' : Act} {o : Oper} {rest : List Oper} {k : Nat} {listed : Array Bool} (v : Value) (hw : Region.wanted o (yielded ops a.tmps) = true) (h : OpStep P I k o a v) (ha : a.put o.dst v = a')
    (r : wpComm P ops I Q (k + 1) (listed.setIfInBounds k true) rest a') : wpComm P ops I Q k listed (o :: rest) a := by
  subst ha
  unfold wpComm
  rw [if_pos hw]
  exact ⟨v, h, r⟩
theorem wpComm_no {Q : Array Bool → Act → Prop} {a a' : Act} {o : Oper} {rest : List Oper} {k : Nat} {listed : Array Bool} (hw : Region.wanted o (yielded ops a.tmps) = false) (hs : OpSkip I k) (ha : a.put o.dst undef = a')
    (r : wpComm P ops I Q (k + 1) (listed.setIfInBounds k true) rest a') : wpComm P ops I Q k listed (o :: rest) a := by
  subst ha
  unfold wpComm
  rw [if_neg (by rw [hw]; decide)]
  exact ⟨hs, r⟩

def cpOp (P : Program) (ops : Array Oper) (I : Array Bool → World → Prop) (i : Nat) (K : Act → Prop) (a : Act) : Prop :=
  match ops[i]? with
  | none => K a
  | some o => if Region.wanted o (yielded ops a.tmps) then ∃ v, OpStep P I i o a v ∧ K (a.put o.dst v) else OpSkip I i ∧ K (a.put o.dst undef)

theorem cpOp_mono {i : Nat} {a : Act} {K K' : Act → Prop} (h : ∀ a, K a → K' a) (hh : cpOp P ops I i K a) : cpOp P ops I i K' a := by
  unfold cpOp at *
  split
  · exact h _ (by simpa [*] using hh)
  · rename_i o ho
    simp only [ho] at hh
    split
    · rename_i hw
      simp only [hw, if_true] at hh
      obtain ⟨v, h1, h2⟩ := hh
      exact ⟨v, h1, h _ h2⟩
    · rename_i hw; simp only [hw] at hh; exact ⟨hh.1, h _ hh.2⟩

def wpAnyC (P : Program) (md : Region.Mode) (ops : Array Oper) (I : Array Bool → World → Prop) (Q : Array Bool → Act → Prop) : Nat → Array Bool → Act → Prop
  | 0, listed, a => Region.ready md ops listed = [] ∧ Q listed a
  | fuel + 1, listed, a =>
    (Region.ready md ops listed = [] → Q listed a) ∧
    ∀ i ∈ Region.ready md ops listed, cpOp P ops I i (wpAnyC P md ops I Q fuel (listed.setIfInBounds i true)) a

theorem wpOp_of_cpOp {i : Nat} {o : Oper} {a : Act} {W : World} {K : Act → Prop} {K' : Act → World → Prop} {Q' : Exit → Act → World → Prop} {listed : Array Bool} (ho : ops[i]? = some o) (hl : listed.getD i true = false) (hI : I listed W)
    (h : ∀ a W, K a → I (listed.setIfInBounds i true) W → K' a W) (hh : cpOp P ops I i K a) : wpOp P ops Q' i K' a W := by
  unfold cpOp at hh
  unfold wpOp
  simp only [ho] at hh ⊢
  split
  · rename_i hw
    simp only [hw, if_true] at hh
    obtain ⟨v, h1, h2⟩ := hh
    refine .inl ?_
    have h3 := h1 listed W hl hI
    unfold Oper.wp
    generalize (execOp a.eval o).run P W = r at *
    cases r with
    | ok n w' =>
      cases n <;> simp only [sUpon] at h3 <;> simp only [Oper.upon]
      case value u => obtain ⟨rfl, h4⟩ := h3; exact h _ _ h2 h4
      case skip => obtain ⟨rfl, h4⟩ := h3; exact h _ _ h2 h4
      case enter f args => exact h3.mono fun e w'' ⟨he, hw⟩ => by subst he; exact h _ _ h2 hw
    | halt x w' => simp only [sUpon] at h3
  · rename_i hw; simp only [hw] at hh; exact h _ _ hh.2 (hh.1 listed W hl hI)

theorem getD_of_ready {listed : Array Bool} {i : Nat} {o : Oper} (hs : listed.size = ops.size) (hi : i ∈ Region.ready md ops listed) (ho : ops[i]? = some o) : listed.getD i true = false := by
  have h0 := (mem_ready.1 hi).1
  have hlt : i < listed.size := by
    rcases Nat.lt_or_ge i ops.size with h | h
    · omega
    · rw [Array.getElem?_eq_none h] at ho; cases ho
  simp [hlt] at h0 ⊢
  exact h0

theorem wpAny_of_comm {Q : Array Bool → Act → Prop} {Q' : Exit → Act → World → Prop} (hQ : ∀ listed a W, Q listed a → I listed W → Q' .normal a W) : ∀ (fuel : Nat) (listed : Array Bool) (a : Act) (W : World), listed.size = ops.size → I listed W →
    wpAnyC P md ops I Q fuel listed a → wpAny P md ops Q' fuel listed a W
  | 0, _, _, _, _, hI, h => ⟨h.1, hQ _ _ _ h.2 hI⟩
  | fuel + 1, listed, a, W, hsz, hI, h => ⟨fun h0 => hQ _ _ _ (h.1 h0) hI, fun i hi => by
      obtain ⟨_, o, ho, _⟩ := mem_ready.1 hi
      exact wpOp_of_cpOp ho (getD_of_ready hsz hi ho) hI (fun a' W' k hk => wpAny_of_comm hQ fuel _ a' W' (by simpa using hsz) hk k) (h.2 i hi)⟩

def StepAt (P : Program) (ops : Array Oper) (I : Array Bool → World → Prop) (i : Nat) (o : Oper) (v : Value) (a : Act) : Prop :=
  (Region.wanted o (yielded ops a.tmps) = true ∧ OpStep P I i o a v) ∨ (Region.wanted o (yielded ops a.tmps) = false ∧ v = undef ∧ OpSkip I i)

theorem StepAt.cpOp {i : Nat} {o : Oper} {v : Value} {a : Act} (hi : ops[i]? = some o) (hy : StepAt P ops I i o v a) {K : Act → Prop} (h : K (a.put o.dst v)) : cpOp P ops I i K a := by
  unfold L.cpOp
  simp only [hi]
  rcases hy with ⟨hw, hv⟩ | ⟨hw, rfl, hs⟩
  · simp only [hw, if_true]; exact ⟨v, hv, h⟩
  · simp only [hw, Bool.false_eq_true, if_false]; exact ⟨hs, h⟩

theorem stepAt_of_cpOp {i : Nat} {o : Oper} {a : Act} {K : Act → Prop} (hi : ops[i]? = some o) (h : cpOp P ops I i K a) : ∃ v, StepAt P ops I i o v a ∧ K (a.put o.dst v) := by
  unfold cpOp at h
  simp only [hi] at h
  by_cases hw : Region.wanted o (yielded ops a.tmps) = true
  · simp only [hw, if_true] at h
    obtain ⟨v, h1, h2⟩ := h
    exact ⟨v, .inl ⟨hw, h1⟩, h2⟩
  · simp only [hw] at h
    exact ⟨undef, .inr ⟨by simpa using hw, rfl, h.1⟩, h.2⟩

theorem StepAt.of_same {i : Nat} {o : Oper} {v : Value} {a a' : Act} (hy : StepAt P ops I i o v a) (he : execOp a'.eval o = execOp a.eval o)
    (hw : Region.wanted o (yielded ops a'.tmps) = Region.wanted o (yielded ops a.tmps)) : StepAt P ops I i o v a' := by
  unfold StepAt OpStep at *
  rw [he, hw]
  exact hy

theorem cpOp_put {i j : Nat} {oi oj : Oper} {v : Value} (hj : ops[j]? = some oj) (hap : oi.apart ops oj = true)
    (hsi : ∀ cs b, oi.op ≠ .select cs b) (hsj : ∀ cs b, oj.op ≠ .select cs b) {K : Act → Prop} {a : Act}
    (hy : StepAt P ops I i oi v a) (h : cpOp P ops I j K (a.put oi.dst v)) :
    cpOp P ops I j (fun a' => StepAt P ops I i oi v a' ∧ K (a'.put oi.dst v)) a := by
  obtain ⟨h1, h2, h3⟩ := Oper.apart_spec hap
  have keep : ∀ (a : Act), StepAt P ops I i oi v a → ∀ u, StepAt P ops I i oi v (a.put oj.dst u) := fun a hy u =>
    hy.of_same (execOp_put oi hsi a oj.dst u h3) (wanted_put oi a oj.dst u h3)
  unfold cpOp at *
  simp only [hj] at *
  rw [wanted_put oj a oi.dst v h1] at h
  split
  · rename_i hw
    simp only [hw, if_true] at h
    obtain ⟨u, hu, hk⟩ := h
    refine ⟨u, ?_, keep a hy u, by rw [← Act.put_comm a v u h2]; exact hk⟩
    unfold OpStep at *
    rw [execOp_put oj hsj a oi.dst v h1] at hu
    exact hu
  · rename_i hw
    simp only [hw] at h
    exact ⟨h.1, keep a hy _, by rw [← Act.put_comm a v undef h2]; exact h.2⟩

theorem wpAnyC_first {Q : Array Bool → Act → Prop} {i : Nat} {oi : Oper} {v : Value} (hi : ops[i]? = some oi) (hsel : ∀ (j : Nat) (o : Oper) cs b, ops[j]? = some o → o.op ≠ .select cs b) :
    ∀ (fuel : Nat) (listed : Array Bool) (a : Act),
      (∀ j oj, ops[j]? = some oj → j ≠ i → listed.getD j true = false → (∀ e ∈ oj.after, Region.binds md e = true → e.on ≠ i) → oi.apart ops oj = true) →
      i ∈ Region.ready md ops listed → StepAt P ops I i oi v a →
      wpAnyC P md ops I Q fuel (listed.setIfInBounds i true) (a.put oi.dst v) → wpAnyC P md ops I Q (fuel + 1) listed a := by
  intro fuel
  induction fuel with
  | zero =>
    intro listed a _ hr hy H
    refine ⟨fun h => (by rw [h] at hr; cases hr), fun j hj => ?_⟩
    by_cases hji : j = i
    · subst hji; exact hy.cpOp hi H
    · have := ready_mono hj hji
      rw [H.1] at this
      cases this
  | succ fuel ih =>
    intro listed a hfree hr hy H
    refine ⟨fun h => (by rw [h] at hr; cases hr), fun j hj => ?_⟩
    by_cases hji : j = i
    · subst hji; exact hy.cpOp hi H
    · have h1 := H.2 j (ready_mono hj hji)
      obtain ⟨hjun, oj, hoj, hall⟩ := mem_ready.1 hj
      have hnot : ∀ e ∈ oj.after, Region.binds md e = true → e.on ≠ i := fun e he hb heq => by
        have h1 := hall e he hb
        have h0 := (mem_ready.1 hr).1
        rw [heq] at h1
        rcases Nat.lt_or_ge i listed.size with h' | h'
        · simp [h'] at h0 h1; rw [h0] at h1; cases h1
        · simp [Array.getElem?_eq_none h'] at h1
      have h2 := cpOp_put hoj (hfree j oj hoj hji hjun hnot) (fun cs b => hsel i oi cs b hi) (fun cs b => hsel j oj cs b hoj) hy h1
      have hfree' : ∀ k ok, ops[k]? = some ok → k ≠ i → (listed.setIfInBounds j true).getD k true = false →
          (∀ e ∈ ok.after, Region.binds md e = true → e.on ≠ i) → oi.apart ops ok = true := fun k ok hk hki hun hno => by
        refine hfree k ok hk hki ?_ hno
        by_cases hjk : j = k
        · subst hjk; exact hjun
        · rw [getD_set_ne true hjk] at hun; exact hun
      refine cpOp_mono (fun a' h3 => ih (listed.setIfInBounds j true) a' hfree' (ready_mono hr (Ne.symm hji)) h3.1 ?_) h2
      rw [Array.setIfInBounds_comm _ _ hji]
      exact h3.2

theorem wpAnyC_lex {Q : Array Bool → Act → Prop} (hs : Region.noSelect ops = true) : ∀ (l : List Oper) (k : Nat) (listed : Array Bool) (a : Act), (∀ j, l[j]? = ops[k + j]?) →
    Region.lexFrom md ops l.length k listed = true → wpComm P ops I Q k listed l a → wpAnyC P md ops I Q l.length listed a
  | [], _, _, _, _, hB, h => ⟨by simpa [Region.lexFrom] using hB, h⟩
  | o :: l, k, listed, a, hl, hB, h => by
    have h0 : ops[k]? = some o := by simpa using (hl 0).symm
    simp only [List.length_cons, Region.lexFrom, Bool.and_eq_true] at hB
    obtain ⟨⟨hr, hf⟩, hB'⟩ := hB
    have hst : cpOp P ops I k (wpComm P ops I Q (k + 1) (listed.setIfInBounds k true) l) a := by unfold cpOp; simp only [h0]; exact h
    obtain ⟨v, hy, hK⟩ := stepAt_of_cpOp h0 hst
    exact wpAnyC_first h0 (Region.noSelect_spec hs) l.length listed a (Region.free_spec h0 hf) (by simpa using hr) hy
      (wpAnyC_lex hs l (k + 1) _ _ (fun j => by have := hl (j + 1); simpa [Nat.add_assoc, Nat.add_comm 1 j] using this) hB' hK)

theorem wp_region_comm {id : Nat} {Q : Exit → Act → World → Prop} {a : Act} {w : World} (hm : P.follows .mixedOrders = true) (hB : Region.lexB .any ops = true) (h0 : I (Array.replicate ops.size false) w.drew)
    (h : wpComm P ops I (fun listed a' => ∀ W, I listed W → Q .normal a' W) 0 (Array.replicate ops.size false) ops.toList a) : (Code.region id ops true).wp P Q a w := by
  simp only [Region.lexB, Bool.and_eq_true] at hB
  refine wp_region_any hm (wpAny_of_comm (I := I) (Q := fun listed a' => ∀ W, I listed W → Q .normal a' W) (fun _ _ W h hI => h W hI) _ _ _ _ (by simp) h0 ?_)
  have := wpAnyC_lex (md := .any) hB.1 ops.toList 0 (Array.replicate ops.size false) a (by simp) (by simpa using hB.2) h
  simpa using this
end

/-- Two operations turn something: p and q; J says what there is when they have been, or not. -/
def Two (p q : Nat) (J : Bool → Bool → World → Prop) (listed : Array Bool) (W : World) : Prop := J (listed.getD p true) (listed.getD q true) W

theorem two_set {p k : Nat} (listed : Array Bool) (h : k ≠ p) : (listed.setIfInBounds k true).getD p true = listed.getD p true := getD_set_ne true h
theorem two_self (listed : Array Bool) (k : Nat) : (listed.setIfInBounds k true).getD k true = true := by
  rcases Nat.lt_or_ge k listed.size with h | h <;> simp [h]

section
variable {P : Program} {p q : Nat} {J : Bool → Bool → World → Prop}
/-- A plain operation: it reads, or calls what keeps all. -/
theorem step_plain {k : Nat} {o : Oper} {a : Act} {v : Value} (hp : k ≠ p) (hq : k ≠ q) (h : ∀ x y W, J x y W → sUpon P (J x y) v ((execOp a.eval o).run P W)) : OpStep P (Two p q J) k o a v := fun listed W _ hI => by
  have := h _ _ W hI
  have e : (Two p q J (listed.setIfInBounds k true)) = J (listed.getD p true) (listed.getD q true) := by
    funext W; unfold Two; rw [two_set listed hp, two_set listed hq]
  rw [e]; exact this
theorem step_one {o : Oper} {a : Act} {v : Value} (hpq : p ≠ q) (h : ∀ y W, J false y W → sUpon P (J true y) v ((execOp a.eval o).run P W)) : OpStep P (Two p q J) p o a v := fun listed W hl hI => by
  unfold Two at hI
  rw [hl] at hI
  have e : (Two p q J (listed.setIfInBounds p true)) = J true (listed.getD q true) := by
    funext W; unfold Two; rw [two_self, two_set listed hpq]
  rw [e]; exact h _ W hI
theorem step_two {o : Oper} {a : Act} {v : Value} (hpq : p ≠ q) (h : ∀ x W, J x false W → sUpon P (J x true) v ((execOp a.eval o).run P W)) : OpStep P (Two p q J) q o a v := fun listed W hl hI => by
  unfold Two at hI
  rw [hl] at hI
  have e : (Two p q J (listed.setIfInBounds q true)) = J (listed.getD p true) true := by
    funext W; unfold Two; rw [two_self, two_set listed (Ne.symm hpq)]
  rw [e]; exact h _ W hI
theorem skip_plain {k : Nat} (hp : k ≠ p) (hq : k ≠ q) : OpSkip (Two p q J) k := fun listed W _ hI => by
  unfold Two at *
  rw [two_set listed hp, two_set listed hq]; exact hI

/-- The region, over all worlds. -/
theorem region_two {id : Nat} {Q : Exit → Act → World → Prop} {a : Act} {w : World} {l : List Oper} (p q : Nat) (J : Bool → Bool → World → Prop) (hm : P.follows .mixedOrders = true) (hB : Region.lexB .any l.toArray = true) (hp : p < l.length) (hq : q < l.length) (h0 : J false false w.drew)
    (h : wpComm P l.toArray (Two p q J) (fun listed a' => ∀ W, Two p q J listed W → Q .normal a' W) 0 (Array.replicate l.length false) l a) : (Code.region id l.toArray true).wp P Q a w :=
  wp_region_comm (I := Two p q J) hm hB (by unfold Two; simpa [hp, hq] using h0) (by simpa using h)
end

/-- In one of the four states. -/
def Some2 (J : Bool → Bool → World → Prop) (W : World) : Prop := ∃ x y, J x y W
theorem some2 {J : Bool → Bool → World → Prop} {x y : Bool} {W : World} (h : J x y W) : Some2 J W := ⟨x, y, h⟩

attribute [go_sem] sUpon_value sUpon_skip sUpon_enter

end Go.Proofs.Ytjkmcncgndkdoaa.L
