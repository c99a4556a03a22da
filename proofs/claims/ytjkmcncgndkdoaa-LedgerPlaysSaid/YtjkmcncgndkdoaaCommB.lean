/-
  A region that draws its order, some of whose operations turn what others leave alone, and some wait for those: whatever the order, each operation gives the same value. Walked once, in the text's order.
-/
import Derived.Test.YtjkmcncgndkdoaaComm
import Derived.StillTail
set_option linter.unusedVariables false
set_option linter.unusedSimpArgs false
namespace Go.Proofs.Ytjkmcncgndkdoaa.L
open Go Go.RowKit

section
variable {P : Program} {ops : Array Oper} {md : Region.Mode} {I : Array Bool → World → Prop}

/-- What has been has had all that it waits for. -/
structure Closed (md : Region.Mode) (ops : Array Oper) (listed : Array Bool) : Prop where
  size : listed.size = ops.size
  closed : ∀ j oj, ops[j]? = some oj → listed.getD j false = true → ∀ e ∈ oj.after, Region.binds md e = true → listed.getD e.on false = true
/-- .. and i's turn has come. -/
def Good (md : Region.Mode) (ops : Array Oper) (listed : Array Bool) (i : Nat) : Prop := Closed md ops listed ∧ i ∈ Region.ready md ops listed

theorem Closed.start (md : Region.Mode) (ops : Array Oper) : Closed md ops (Array.replicate ops.size false) := ⟨by simp, fun j oj _ hl => by rw [getD_replicate_false] at hl; cases hl⟩
theorem Closed.set {i : Nat} {listed : Array Bool} (inv : Closed md ops listed) (hi : i ∈ Region.ready md ops listed) : Closed md ops (listed.setIfInBounds i true) := by
  obtain ⟨_, oi, hoi, hall⟩ := mem_ready.1 hi
  refine ⟨by simp [inv.size], fun j oj hj hl e he hb => ?_⟩
  by_cases hij : i = j
  · subst hij
    have : oj = oi := Option.some.inj (hj.symm.trans hoi)
    subst this
    exact getD_set_true (hall e he hb)
  · rw [getD_set_ne false hij] at hl
    exact getD_set_true (inv.closed j oj hj hl e he hb)
/-- Does i wait for d, directly or through others? -/
def needs (md : Region.Mode) (ops : Array Oper) (d : Nat) : Nat → Nat → Bool
  | 0, _ => false
  | f + 1, i => match ops[i]? with
    | none => false
    | some o => o.after.any fun e => Region.binds md e && (e.on == d || needs md ops d f e.on)
theorem needs_edge {d f i : Nat} (h : needs md ops d (f + 1) i = true) : ∃ o, ops[i]? = some o ∧ ∃ e ∈ o.after, Region.binds md e = true ∧ (e.on = d ∨ needs md ops d f e.on = true) := by
  unfold needs at h
  split at h
  · cases h
  · rename_i o ho
    obtain ⟨e, he, hb⟩ := Array.any_eq_true'.1 h
    simp only [Bool.and_eq_true, Bool.or_eq_true, beq_iff_eq] at hb
    exact ⟨o, ho, e, he, hb.1, hb.2⟩
theorem Closed.needs {listed : Array Bool} (inv : Closed md ops listed) {d : Nat} : ∀ (f j : Nat), listed.getD j false = true → L.needs md ops d f j = true → listed.getD d false = true
  | 0, _, _, h => by cases h
  | f + 1, j, hl, h => by
    obtain ⟨o, ho, e, he, hb, hd⟩ := needs_edge h
    have h1 := inv.closed j o ho hl e he hb
    rcases hd with rfl | hd
    · exact h1
    · exact inv.needs f _ h1 hd
theorem Good.needs {listed : Array Bool} {i d : Nat} (g : Good md ops listed i) (f : Nat) (h : L.needs md ops d f i = true) : listed.getD d true = true := by
  cases f with
  | zero => cases h
  | succ f =>
    obtain ⟨o, ho, e, he, hb, hd⟩ := needs_edge h
    obtain ⟨_, o', ho', hall⟩ := mem_ready.1 g.2
    have : o = o' := Option.some.inj (ho.symm.trans ho')
    subst this
    have h1 := hall e he hb
    have key : listed.getD d false = true := by
      rcases hd with rfl | hd
      · exact h1
      · exact g.1.needs f _ h1 hd
    rcases Nat.lt_or_ge d listed.size with h' | h'
    · simp [h'] at key ⊢; exact key
    · simp [Array.getElem?_eq_none h'] at key
theorem Good.not {listed : Array Bool} {i : Nat} (g : Good md ops listed i) : listed.getD i true = false := by
  obtain ⟨hun, o, ho, _⟩ := mem_ready.1 g.2
  have hlt : i < listed.size := by
    rw [g.1.size]
    exact (Array.getElem?_eq_some_iff.1 ho).1
  exact getD_in hlt (getD_both hun)

/-- Operation i's turn, whatever has been. -/
def DpStep (P : Program) (md : Region.Mode) (ops : Array Oper) (I : Array Bool → World → Prop) (i : Nat) (o : Oper) (a : Act) (v : Value) : Prop :=
  ∀ listed W, Good md ops listed i → I listed W → sUpon P (I (listed.setIfInBounds i true)) v ((execOp a.eval o).run P W)
def DpSkip (md : Region.Mode) (ops : Array Oper) (I : Array Bool → World → Prop) (i : Nat) : Prop := ∀ listed W, Good md ops listed i → I listed W → I (listed.setIfInBounds i true) W

def wpDeep (P : Program) (md : Region.Mode) (ops : Array Oper) (I : Array Bool → World → Prop) (Q : Array Bool → Act → Prop) : Nat → Array Bool → List Oper → Act → Prop
  | _, listed, [], a => Q listed a
  | k, listed, o :: rest, a => if Region.wanted o (yielded ops a.tmps) then ∃ v, DpStep P md ops I k o a v ∧ wpDeep P md ops I Q (k + 1) (listed.setIfInBounds k true) rest (a.put o.dst v)
      else DpSkip md ops I k ∧ wpDeep P md ops I Q (k + 1) (listed.setIfInBounds k true) rest (a.put o.dst undef)

theorem wpDeep_nil {Q : Array Bool → Act → Prop} {k : Nat} {listed : Array Bool} {a : Act} (h : Q listed a) : wpDeep P md ops I Q k listed [] a := h
theorem wpDeep_yes {Q : Array Bool → Act → Prop} {a a' : Act} {o : Oper} {rest : List Oper} {k : Nat} {listed : Array Bool} (v : Value) (hw : Region.wanted o (yielded ops a.tmps) = true) (h : DpStep P md ops I k o a v) (ha : a.put o.dst v = a')
    (r : wpDeep P md ops I Q (k + 1) (listed.setIfInBounds k true) rest a') : wpDeep P md ops I Q k listed (o :: rest) a := by
  subst ha
  unfold wpDeep
  rw [if_pos hw]
  exact ⟨v, h, r⟩
theorem wpDeep_no {Q : Array Bool → Act → Prop} {a a' : Act} {o : Oper} {rest : List Oper} {k : Nat} {listed : Array Bool} (hw : Region.wanted o (yielded ops a.tmps) = false) (hs : DpSkip md ops I k) (ha : a.put o.dst undef = a')
    (r : wpDeep P md ops I Q (k + 1) (listed.setIfInBounds k true) rest a') : wpDeep P md ops I Q k listed (o :: rest) a := by
  subst ha
  unfold wpDeep
  rw [if_neg (by rw [hw]; decide)]
  exact ⟨hs, r⟩

def dpOp (P : Program) (md : Region.Mode) (ops : Array Oper) (I : Array Bool → World → Prop) (i : Nat) (K : Act → Prop) (a : Act) : Prop :=
  match ops[i]? with
  | none => K a
  | some o => if Region.wanted o (yielded ops a.tmps) then ∃ v, DpStep P md ops I i o a v ∧ K (a.put o.dst v) else DpSkip md ops I i ∧ K (a.put o.dst undef)

theorem dpOp_mono {i : Nat} {a : Act} {K K' : Act → Prop} (h : ∀ a, K a → K' a) (hh : dpOp P md ops I i K a) : dpOp P md ops I i K' a := by
  unfold dpOp at *
  split
  · exact h _ (by simpa [*] using hh)
  · rename_i o ho
    simp only [ho] at hh
    split
    · rename_i hw
      simp only [hw, if_true] at hh
      obtain ⟨v, h1, h2⟩ := hh
      exact ⟨v, h1, h _ h2⟩
    · rename_i hw; simp only [hw] at hh; exact ⟨hh.1, h _ hh.2⟩

def wpAnyD (P : Program) (md : Region.Mode) (ops : Array Oper) (I : Array Bool → World → Prop) (Q : Array Bool → Act → Prop) : Nat → Array Bool → Act → Prop
  | 0, listed, a => Region.ready md ops listed = [] ∧ Q listed a
  | fuel + 1, listed, a =>
    (Region.ready md ops listed = [] → Q listed a) ∧
    ∀ i ∈ Region.ready md ops listed, dpOp P md ops I i (wpAnyD P md ops I Q fuel (listed.setIfInBounds i true)) a

theorem wpOp_of_dpOp {i : Nat} {o : Oper} {a : Act} {W : World} {K : Act → Prop} {K' : Act → World → Prop} {Q' : Exit → Act → World → Prop} {listed : Array Bool} (ho : ops[i]? = some o) (hl : Good md ops listed i) (hI : I listed W)
    (h : ∀ a W, K a → I (listed.setIfInBounds i true) W → K' a W) (hh : dpOp P md ops I i K a) : wpOp P ops Q' i K' a W := by
  unfold dpOp at hh
  unfold wpOp
  simp only [ho] at hh ⊢
  split
  · rename_i hw
    simp only [hw, if_true] at hh
    obtain ⟨v, h1, h2⟩ := hh
    refine .inl ?_
    have h3 := h1 listed W hl hI
    unfold Oper.wp
    generalize (execOp a.eval o).run P W = r at *
    cases r with
    | ok n w' =>
      cases n <;> simp only [sUpon] at h3 <;> simp only [Oper.upon]
      case value u => obtain ⟨rfl, h4⟩ := h3; exact h _ _ h2 h4
      case skip => obtain ⟨rfl, h4⟩ := h3; exact h _ _ h2 h4
      case enter f args => exact h3.mono fun e w'' ⟨he, hw⟩ => by subst he; exact h _ _ h2 hw
    | halt x w' => simp only [sUpon] at h3
  · rename_i hw; simp only [hw] at hh; exact h _ _ hh.2 (hh.1 listed W hl hI)

theorem wpAny_of_deep {Q : Array Bool → Act → Prop} {Q' : Exit → Act → World → Prop} (hQ : ∀ listed a W, Q listed a → I listed W → Q' .normal a W) : ∀ (fuel : Nat) (listed : Array Bool) (a : Act) (W : World), Closed md ops listed → I listed W →
    wpAnyD P md ops I Q fuel listed a → wpAny P md ops Q' fuel listed a W
  | 0, _, _, _, _, hI, h => ⟨h.1, hQ _ _ _ h.2 hI⟩
  | fuel + 1, listed, a, W, hsz, hI, h => ⟨fun h0 => hQ _ _ _ (h.1 h0) hI, fun i hi => by
      obtain ⟨_, o, ho, _⟩ := mem_ready.1 hi
      exact wpOp_of_dpOp ho ⟨hsz, hi⟩ hI (fun a' W' k hk => wpAny_of_deep hQ fuel _ a' W' (hsz.set hi) hk k) (h.2 i hi)⟩

def DepAt (P : Program) (md : Region.Mode) (ops : Array Oper) (I : Array Bool → World → Prop) (i : Nat) (o : Oper) (v : Value) (a : Act) : Prop :=
  (Region.wanted o (yielded ops a.tmps) = true ∧ DpStep P md ops I i o a v) ∨ (Region.wanted o (yielded ops a.tmps) = false ∧ v = undef ∧ DpSkip md ops I i)

theorem DepAt.dpOp {i : Nat} {o : Oper} {v : Value} {a : Act} (hi : ops[i]? = some o) (hy : DepAt P md ops I i o v a) {K : Act → Prop} (h : K (a.put o.dst v)) : dpOp P md ops I i K a := by
  unfold L.dpOp
  simp only [hi]
  rcases hy with ⟨hw, hv⟩ | ⟨hw, rfl, hs⟩
  · simp only [hw, if_true]; exact ⟨v, hv, h⟩
  · simp only [hw, Bool.false_eq_true, if_false]; exact ⟨hs, h⟩

theorem depAt_of_dpOp {i : Nat} {o : Oper} {a : Act} {K : Act → Prop} (hi : ops[i]? = some o) (h : dpOp P md ops I i K a) : ∃ v, DepAt P md ops I i o v a ∧ K (a.put o.dst v) := by
  unfold dpOp at h
  simp only [hi] at h
  by_cases hw : Region.wanted o (yielded ops a.tmps) = true
  · simp only [hw, if_true] at h
    obtain ⟨v, h1, h2⟩ := h
    exact ⟨v, .inl ⟨hw, h1⟩, h2⟩
  · simp only [hw] at h
    exact ⟨undef, .inr ⟨by simpa using hw, rfl, h.1⟩, h.2⟩

theorem DepAt.of_same {i : Nat} {o : Oper} {v : Value} {a a' : Act} (hy : DepAt P md ops I i o v a) (he : execOp a'.eval o = execOp a.eval o)
    (hw : Region.wanted o (yielded ops a'.tmps) = Region.wanted o (yielded ops a.tmps)) : DepAt P md ops I i o v a' := by
  unfold DepAt DpStep at *
  rw [he, hw]
  exact hy

theorem dpOp_put {i j : Nat} {oi oj : Oper} {v : Value} (hj : ops[j]? = some oj) (hap : oi.apart ops oj = true)
    (hsi : ∀ cs b, oi.op ≠ .select cs b) (hsj : ∀ cs b, oj.op ≠ .select cs b) {K : Act → Prop} {a : Act}
    (hy : DepAt P md ops I i oi v a) (h : dpOp P md ops I j K (a.put oi.dst v)) :
    dpOp P md ops I j (fun a' => DepAt P md ops I i oi v a' ∧ K (a'.put oi.dst v)) a := by
  obtain ⟨h1, h2, h3⟩ := Oper.apart_spec hap
  have keep : ∀ (a : Act), DepAt P md ops I i oi v a → ∀ u, DepAt P md ops I i oi v (a.put oj.dst u) := fun a hy u =>
    hy.of_same (execOp_put oi hsi a oj.dst u h3) (wanted_put oi a oj.dst u h3)
  unfold dpOp at *
  simp only [hj] at *
  rw [wanted_put oj a oi.dst v h1] at h
  split
  · rename_i hw
    simp only [hw, if_true] at h
    obtain ⟨u, hu, hk⟩ := h
    refine ⟨u, ?_, keep a hy u, by rw [← Act.put_comm a v u h2]; exact hk⟩
    unfold DpStep at *
    rw [execOp_put oj hsj a oi.dst v h1] at hu
    exact hu
  · rename_i hw
    simp only [hw] at h
    exact ⟨h.1, keep a hy _, by rw [← Act.put_comm a v undef h2]; exact h.2⟩

theorem wpAnyD_first {Q : Array Bool → Act → Prop} {i : Nat} {oi : Oper} {v : Value} (hi : ops[i]? = some oi) (hsel : ∀ (j : Nat) (o : Oper) cs b, ops[j]? = some o → o.op ≠ .select cs b) :
    ∀ (fuel : Nat) (listed : Array Bool) (a : Act),
      (∀ j oj, ops[j]? = some oj → j ≠ i → listed.getD j true = false → (∀ e ∈ oj.after, Region.binds md e = true → e.on ≠ i) → oi.apart ops oj = true) →
      i ∈ Region.ready md ops listed → DepAt P md ops I i oi v a →
      wpAnyD P md ops I Q fuel (listed.setIfInBounds i true) (a.put oi.dst v) → wpAnyD P md ops I Q (fuel + 1) listed a := by
  intro fuel
  induction fuel with
  | zero =>
    intro listed a _ hr hy H
    refine ⟨fun h => (by rw [h] at hr; cases hr), fun j hj => ?_⟩
    by_cases hji : j = i
    · subst hji; exact hy.dpOp hi H
    · have := ready_mono hj hji
      rw [H.1] at this
      cases this
  | succ fuel ih =>
    intro listed a hfree hr hy H
    refine ⟨fun h => (by rw [h] at hr; cases hr), fun j hj => ?_⟩
    by_cases hji : j = i
    · subst hji; exact hy.dpOp hi H
    · have h1 := H.2 j (ready_mono hj hji)
      obtain ⟨hjun, oj, hoj, hall⟩ := mem_ready.1 hj
      have hnot : ∀ e ∈ oj.after, Region.binds md e = true → e.on ≠ i := fun e he hb heq => by
        have h1 := hall e he hb
        have h0 := (mem_ready.1 hr).1
        rw [heq] at h1
        rcases Nat.lt_or_ge i listed.size with h' | h'
        · simp [h'] at h0 h1; rw [h0] at h1; cases h1
        · simp [Array.getElem?_eq_none h'] at h1
      have h2 := dpOp_put hoj (hfree j oj hoj hji hjun hnot) (fun cs b => hsel i oi cs b hi) (fun cs b => hsel j oj cs b hoj) hy h1
      have hfree' : ∀ k ok, ops[k]? = some ok → k ≠ i → (listed.setIfInBounds j true).getD k true = false →
          (∀ e ∈ ok.after, Region.binds md e = true → e.on ≠ i) → oi.apart ops ok = true := fun k ok hk hki hun hno => by
        refine hfree k ok hk hki ?_ hno
        by_cases hjk : j = k
        · subst hjk; exact hjun
        · rw [getD_set_ne true hjk] at hun; exact hun
      refine dpOp_mono (fun a' h3 => ih (listed.setIfInBounds j true) a' hfree' (ready_mono hr (Ne.symm hji)) h3.1 ?_) h2
      rw [Array.setIfInBounds_comm _ _ hji]
      exact h3.2

theorem wpAnyD_lex {Q : Array Bool → Act → Prop} (hs : Region.noSelect ops = true) : ∀ (l : List Oper) (k : Nat) (listed : Array Bool) (a : Act), (∀ j, l[j]? = ops[k + j]?) →
    Region.lexFrom md ops l.length k listed = true → wpDeep P md ops I Q k listed l a → wpAnyD P md ops I Q l.length listed a
  | [], _, _, _, _, hB, h => ⟨by simpa [Region.lexFrom] using hB, h⟩
  | o :: l, k, listed, a, hl, hB, h => by
    have h0 : ops[k]? = some o := by simpa using (hl 0).symm
    simp only [List.length_cons, Region.lexFrom, Bool.and_eq_true] at hB
    obtain ⟨⟨hr, hf⟩, hB'⟩ := hB
    have hst : dpOp P md ops I k (wpDeep P md ops I Q (k + 1) (listed.setIfInBounds k true) l) a := by unfold dpOp; simp only [h0]; exact h
    obtain ⟨v, hy, hK⟩ := depAt_of_dpOp h0 hst
    exact wpAnyD_first h0 (Region.noSelect_spec hs) l.length listed a (Region.free_spec h0 hf) (by simpa using hr) hy
      (wpAnyD_lex hs l (k + 1) _ _ (fun j => by have := hl (j + 1); simpa [Nat.add_assoc, Nat.add_comm 1 j] using this) hB' hK)

theorem wp_region_deep {id : Nat} {Q : Exit → Act → World → Prop} {a : Act} {w : World} (hm : P.follows .mixedOrders = true) (hB : Region.lexB .any ops = true) (h0 : I (Array.replicate ops.size false) w.drew)
    (h : wpDeep P .any ops I (fun listed a' => ∀ W, I listed W → Q .normal a' W) 0 (Array.replicate ops.size false) ops.toList a) : (Code.region id ops true).wp P Q a w := by
  simp only [Region.lexB, Bool.and_eq_true] at hB
  refine wp_region_any hm (wpAny_of_deep (I := I) (Q := fun listed a' => ∀ W, I listed W → Q .normal a' W) (fun _ _ W h hI => h W hI) _ _ _ _ (Closed.start _ _) h0 ?_)
  have := wpAnyD_lex (md := .any) hB.1 ops.toList 0 (Array.replicate ops.size false) a (by simp) (by simpa using hB.2) h
  simpa using this
end


section
variable {P : Program} {md : Region.Mode} {ops : Array Oper} {p q : Nat} {J : Bool → Bool → World → Prop}
/-- A plain operation: it reads, or calls what keeps all. -/
theorem dp_plain {k : Nat} {o : Oper} {a : Act} {v : Value} (hp : k ≠ p) (hq : k ≠ q) (h : ∀ x y W, J x y W → sUpon P (J x y) v ((execOp a.eval o).run P W)) : DpStep P md ops (Two p q J) k o a v := fun listed W _ hI => by
  have := h _ _ W hI
  have e : (Two p q J (listed.setIfInBounds k true)) = J (listed.getD p true) (listed.getD q true) := by
    funext W; unfold Two; rw [two_set listed hp, two_set listed hq]
  rw [e]; exact this
/-- One that waits for both. -/
theorem dp_late {k : Nat} {o : Oper} {a : Act} {v : Value} (hp : k ≠ p) (hq : k ≠ q) (f : Nat) (np : needs md ops p f k = true) (nq : needs md ops q f k = true) (h : ∀ W, J true true W → sUpon P (J true true) v ((execOp a.eval o).run P W)) : DpStep P md ops (Two p q J) k o a v := fun listed W g hI => by
  unfold Two at hI
  rw [g.needs f np, g.needs f nq] at hI
  have := h W hI
  have e : (Two p q J (listed.setIfInBounds k true)) = J true true := by
    funext W; unfold Two; rw [two_set listed hp, two_set listed hq, g.needs f np, g.needs f nq]
  rw [e]; exact this
theorem dp_one {o : Oper} {a : Act} {v : Value} (hpq : p ≠ q) (h : ∀ y W, J false y W → sUpon P (J true y) v ((execOp a.eval o).run P W)) : DpStep P md ops (Two p q J) p o a v := fun listed W hl hI => by
  unfold Two at hI
  rw [hl.not] at hI
  have e : (Two p q J (listed.setIfInBounds p true)) = J true (listed.getD q true) := by
    funext W; unfold Two; rw [two_self, two_set listed hpq]
  rw [e]; exact h _ W hI
theorem dp_two {o : Oper} {a : Act} {v : Value} (hpq : p ≠ q) (h : ∀ x W, J x false W → sUpon P (J x true) v ((execOp a.eval o).run P W)) : DpStep P md ops (Two p q J) q o a v := fun listed W hl hI => by
  unfold Two at hI
  rw [hl.not] at hI
  have e : (Two p q J (listed.setIfInBounds q true)) = J (listed.getD p true) true := by
    funext W; unfold Two; rw [two_self, two_set listed (Ne.symm hpq)]
  rw [e]; exact h _ W hI
theorem dp_skip {k : Nat} (hp : k ≠ p) (hq : k ≠ q) : DpSkip md ops (Two p q J) k := fun listed W _ hI => by
  unfold Two at *
  rw [two_set listed hp, two_set listed hq]; exact hI

/-- The region, over all worlds. -/
theorem region_deep {id : Nat} {Q : Exit → Act → World → Prop} {a : Act} {w : World} {l : List Oper} (p q : Nat) (J : Bool → Bool → World → Prop) (hm : P.follows .mixedOrders = true) (hB : Region.lexB .any l.toArray = true) (hp : p < l.length) (hq : q < l.length) (h0 : J false false w.drew)
    (h : wpDeep P .any l.toArray (Two p q J) (fun listed a' => ∀ W, Two p q J listed W → Q .normal a' W) 0 (Array.replicate l.length false) l a) : (Code.region id l.toArray true).wp P Q a w :=
  wp_region_deep (I := Two p q J) hm hB (by unfold Two; simpa [hp, hq] using h0) (by simpa using h)
end
end Go.Proofs.Ytjkmcncgndkdoaa.L
