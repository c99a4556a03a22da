/-
  Iterators over whole numbers, whatever they keep in memory; a range over one, whatever its body writes.
-/
import Derived.Test.YtbfpljnfalopdaaUpRange
import Derived.Test.YtbfpljnfalopdaaRound
set_option linter.unusedVariables false
set_option linter.unusedSimpArgs false
namespace Go.Proofs.Ytbfpljnfalopdaa.CfgW
open Go Go.RowKit Go.Proofs.Ytbfpljnfalopdaa.L
attribute [local go_sem] Oper.semAt_some

/-- What a caller keeps through a range: D, the blocks that it leans on, all there; what turns elsewhere (the iterator's own, or made since) does not touch it. -/
def Abide (B : Nat) (own : Nat → Prop) (J : (Nat → Prop) → List Nat → World → Prop) : Prop :=
  (∀ D pre W, J D pre W → ∀ k, D k → k < W.heap.size) ∧
  ∀ D pre W W' (F : Nat → Prop), J D pre W → Kept F W W' → (∀ k, k < W.heap.size → F k → ¬ D k ∧ (own k ∨ B ≤ k)) → J D pre W'
/-- A step of the caller: it turns what it leans on, and leans on no more than that and what is new. -/
def Step (D : Nat → Prop) (W : World) (J : (Nat → Prop) → World → Prop) (W' : World) : Prop := ∃ D', J D' W' ∧ (∀ k, D' k → D k ∨ W.heap.size ≤ k) ∧ Kept D W W'

/-- An iterator over xs: it reads R, turns 'own' of what was there, and starts from a world as St says. -/
def IterIn (f : FuncId) (caps : Array Value) (xs : List Nat) (R own : Nat → Prop) (St : World → Prop) : Prop :=
  ∀ (n l : Nat) (J Jx : (Nat → Prop) → List Nat → World → Prop) (W0 : World), St W0 → Abide W0.heap.size own J → Abide W0.heap.size own Jx →
    (∀ D pre (x : Nat) rest W, xs = pre ++ x :: rest → J D pre W → (∀ k, R k → ¬ D k) → YieldAt Fence.wide (n - 1) Try.prog l #[.int .i64 (x : Int)] W fun e W' =>
      (e = .returned (.bool true) ∧ Step D W (fun D' => J D' (pre ++ [x])) W') ∨ (e = .returned (.bool false) ∧ Step D W (fun D' => Jx D' (pre ++ [x])) W')) →
    ∀ D, (∀ k, R k → ¬ D k) → J D [] W0 →
    CallsIn Fence.wide n Try.prog f (#[.func (.yield l) #[] #[]] ++ caps) W0 fun e W' => (∃ v, e = .returned v) ∧ ((∃ D', J D' xs W') ∨ ∃ D' pre, pre <+: xs ∧ Jx D' pre W')

/-- How a round's body is left. -/
def IterEnd (J Jx : (Nat → Prop) → World → Prop) (D : Nat → Prop) (W : World) : Exit → Act → World → Prop
  | .normal, _, W' => Step D W J W'
  | .ret, _, W' => Step D W Jx W'
  | _, _, _ => False

theorem range_iter {m : Nat} {Q : Exit → Act → World → Prop} {a : Act} {w : World} {g : Operand} {ps : Array Tmp} {assign body : Code} {f : FuncId} {caps : Array Value} {xs : List Nat} {R own : Nat → Prop} {St : World → Prop}
    (hit : IterIn f caps xs R own St) (hg : a.eval g = .func (.func f) #[] caps) (eg : ∀ args w, (callFunc f args).run Try.prog w = .ok (.enter f args) w) (hps : ps.size = 1)
    (hst : ∀ W, Below w.heap.size w W → St W) (hRlt : ∀ k, R k → k < w.heap.size) (howR : ∀ k, own k → R k)
    (J Jx : (Nat → Prop) → List Nat → World → Prop) (hJ : Abide w.heap.size own J) (hJx : Abide w.heap.size own Jx) (D0 : Nat → Prop) (hR : ∀ k, R k → ¬ D0 k) (hJ0 : J D0 [] w)
    (hround : ∀ (l m : Nat) (D : Nat → Prop) (pre : List Nat) (x : Nat) (rest : List Nat) (W : World), l = w.heap.size + 1 → xs = pre ++ x :: rest → J D pre W → Kept (fun k => D0 k ∨ own k) w W → (∀ k, D k → D0 k ∨ w.heap.size + 2 ≤ k) → w.heap.size + 1 < W.heap.size →
      assign.wpIn (Fence.wide.inRound l) m Try.prog (Exit.then (fun a' W' => W' = W ∧ ∀ W2, J D pre W2 → Kept (fun k => D0 k ∨ own k) w W2 → W2.heap.size = W.heap.size →
        body.wpIn (Fence.wide.inRound l) m Try.prog (IterEnd (fun D' => J D' (pre ++ [x])) (fun D' => Jx D' (pre ++ [x])) D W2) a' W2) (fun _ _ _ => False)) { tmps := (ps.zip #[.int .i64 (x : Int)]).foldl (fun t (p, v) => t.setIfInBounds p v) a.tmps, defers := [] } W)
    (hdone : ∀ (D : Nat → Prop) (W : World), J D xs W → Kept (fun k => D0 k ∨ own k) w W → (∀ k, D k → D0 k ∨ w.heap.size + 2 ≤ k) → W.heap[w.heap.size]? = some (.deferred (some [])) → Q .normal { a with defers := { target := .collected w.heap.size, args := #[] } :: a.defers } W)
    (hstop : ∀ (D : Nat → Prop) (pre : List Nat) (W : World), pre <+: xs → Jx D pre W → Kept (fun k => D0 k ∨ own k) w W → (∀ k, D k → D0 k ∨ w.heap.size + 2 ≤ k) → W.heap[w.heap.size]? = some (.deferred (some [])) → Q .ret { a with defers := { target := .collected w.heap.size, args := #[] } :: a.defers } W) :
    (Code.rangeFunc g ps assign body).wpIn Fence.wide m Try.prog Q a w := by
  have hD0 : ∀ k, D0 k → k < w.heap.size := hJ.1 D0 [] w hJ0
  refine wpIn_rangeFunc ?_
  intro fn hfn
  rw [show Fence.wide.round = none from rfl]
  obtain ⟨rec, hrec⟩ : ∃ rec : LoopState → Option Code → Loop, rec = fun st pe => { state := st, pending := pe, fn, tmps := a.tmps, params := ps, assign, body, defers := w.heap.size } := ⟨_, rfl⟩
  obtain ⟨W1, hW1⟩ : ∃ W1, (w.alloc (.deferred (some []))).alloc (.loop (rec .ready none)) = W1 := ⟨_, rfl⟩
  have hL1 : W1.heap[w.heap.size + 1]? = some (.loop (rec .ready none)) := by
    rw [← hW1]; have := World.alloc_heap_new (w.alloc (.deferred (some []))) (.loop (rec .ready none)); rwa [World.size_alloc] at this
  have hK1 : W1.heap[w.heap.size]? = some (.deferred (some [])) := by
    rw [← hW1]; exact (Below.heap_alloc _ _ _ (by simp)).trans (World.alloc_heap_new w _)
  have hb1 : Below w.heap.size w W1 := by
    rw [← hW1]; exact ((Below.refl _ w).alloc (Nat.le_refl _) _).alloc (by simp) _
  have hs1 : W1.heap.size = w.heap.size + 2 := by rw [← hW1]; simp
  -- what the iterator is handed: the caller's, with the records
  obtain ⟨WithR, hWith⟩ : ∃ WithR : ((Nat → Prop) → List Nat → World → Prop) → Loop → (Nat → Prop) → List Nat → World → Prop, WithR = fun J r Dp pre W => ∃ D, (∀ k, Dp k ↔ (D k ∨ k = w.heap.size ∨ k = w.heap.size + 1)) ∧ J D pre W ∧
      (∀ k, D k → D0 k ∨ w.heap.size + 2 ≤ k) ∧ Kept (fun k => D0 k ∨ own k) w W ∧ W.heap[w.heap.size + 1]? = some (.loop r) ∧ W.heap[w.heap.size]? = some (.deferred (some [])) := ⟨_, rfl⟩
  have habide : ∀ (J : (Nat → Prop) → List Nat → World → Prop) r, Abide w.heap.size own J → Abide W1.heap.size own (WithR J r) := by
    intro J r hJ
    rw [hWith]
    constructor
    · rintro Dp pre W ⟨D, hDp, hj, hDn, hk, hl, hd⟩ k hk'
      have hlt : w.heap.size + 1 < W.heap.size := (Array.getElem?_eq_some_iff.1 hl).1
      rcases (hDp k).1 hk' with h | h | h
      · exact hJ.1 D pre W hj k h
      · omega
      · omega
    · rintro Dp pre W W' F ⟨D, hDp, hj, hDn, hk, hl, hd⟩ kf hF
      have hlt : w.heap.size + 1 < W.heap.size := (Array.getElem?_eq_some_iff.1 hl).1
      refine ⟨D, hDp, hJ.2 D pre W W' F hj kf (fun k hk hFk => ?_), hDn, ?_, ?_, ?_⟩
      · have := hF k hk hFk
        refine ⟨fun h => this.1 ((hDp k).2 (.inl h)), ?_⟩
        rcases this.2 with h | h
        · exact .inl h
        · right; omega
      · refine hk.trans' kf (fun i hi hFi => ?_)
        have := hF i (by have := hk.size; omega) hFi
        rcases this.2 with h | h
        · exact .inr h
        · omega
      · refine (kf.block _ hlt (fun hFk => ?_)).trans hl
        exact (hF _ hlt hFk).1 ((hDp _).2 (.inr (.inr rfl)))
      · refine (kf.block _ (by omega) (fun hFk => ?_)).trans hd
        exact (hF _ (by omega) hFk).1 ((hDp _).2 (.inr (.inl rfl)))
  refine ⟨w.heap.size + 1, [{ target := .collected w.heap.size, args := #[] }], W1, { target := .fn (.func f) caps, args := #[.func (.yield (w.heap.size + 1)) #[] #[]] }, W1, f,
    #[.func (.yield (w.heap.size + 1)) #[] #[]] ++ caps, W1, ?_, ?_, ?_, ?_, fun h => by simp [Fence.wide] at h, ?_⟩
  · rw [← hW1, hrec]; exact run_enterLoop_outer _ _ _ _ _
  · simp only [resolve, hg]
    simp [go_sem]
  · intro f' hf'; trivial
  · simp [invoke, go_sem, eg]
  · have hJ1 : J D0 [] W1 := hJ.2 D0 [] w W1 (fun _ => False) hJ0 (Kept.of_below hb1) (fun k _ h => h.elim)
    refine (hit _ (w.heap.size + 1) (WithR J (rec .ready none)) (WithR Jx (rec .done (some .ret))) W1 (hst W1 hb1) (habide J _ hJ) (habide Jx _ hJx) ?_
      (fun k => D0 k ∨ k = w.heap.size ∨ k = w.heap.size + 1) (fun k hk => ?_) ?_).mono ?_
    · intro Dp pre x rest W hpre hW hRD
      rw [hWith] at hW
      obtain ⟨D, hDp, hj, hDn, hkw, hl, hk⟩ := hW
      have hlt : w.heap.size + 1 < W.heap.size := (Array.getElem?_eq_some_iff.1 hl).1
      have hy := run_yield (P := Try.prog) (args := #[.int .i64 (x : Int)]) hl (by rw [hrec]; exact hps.symm)
      rw [hrec] at hy
      refine ⟨fn, _, assign, body, hy, roundIn_of_wpIn hfn (wpIn_mono (hround (w.heap.size + 1) _ D pre x rest W rfl hpre hj hkw hDn hlt) ?_)⟩
      intro e a' W' he
      cases e with
      | normal =>
        obtain ⟨rfl, hbody⟩ := he
        refine ⟨_, run_beginRound hl (by rw [hrec]), ?_⟩
        have hl2 : (W'.putObj (w.heap.size + 1) (.loop { rec .ready none with state := .busy })).heap[w.heap.size + 1]? = some (.loop { rec .ready none with state := .busy }) := World.putObj_heap_same hlt
        have hk2 : (W'.putObj (w.heap.size + 1) (.loop { rec .ready none with state := .busy })).heap[w.heap.size]? = some (.deferred (some [])) := (World.putObj_heap_other (by omega)).trans hk
        have hkp := kept_putObj W' (w.heap.size + 1) (.loop { rec .ready none with state := .busy })
        have hLD : ¬ D (w.heap.size + 1) := fun h => by rcases hDn _ h with h | h; have := hD0 _ h; omega; omega
        have hKD : ¬ D w.heap.size := fun h => by rcases hDn _ h with h | h; have := hD0 _ h; omega; omega
        refine wpIn_mono (hbody _ (hJ.2 _ _ _ _ _ hj hkp (fun k _ e => by subst e; exact ⟨hLD, .inr (by omega)⟩)) (hkw.trans' hkp (fun i hi e => by omega)) (by simp)) ?_
        generalize hW2 : W'.putObj (w.heap.size + 1) (.loop { rec .ready none with state := .busy }) = W2 at *
        have hs2 : W2.heap.size = W'.heap.size := by rw [← hW2]; simp
        have hlt2 : w.heap.size + 1 < W2.heap.size := (Array.getElem?_eq_some_iff.1 hl2).1
        have fin : ∀ (J : (Nat → Prop) → List Nat → World → Prop) (jump : Option Code) (W3 : World), Abide w.heap.size own J → Step D W2 (fun D' => J D' (pre ++ [x])) W3 →
            (Instr.endRound (w.heap.size + 1) jump).run Try.prog W3 = .ok (.bool jump.isNone) (W3.putObj (w.heap.size + 1) (.loop (rec (if jump.isNone then .ready else .done) jump))) ∧
            Step Dp W' (fun D' => WithR J (rec (if jump.isNone then .ready else .done) jump) D' (pre ++ [x])) (W3.putObj (w.heap.size + 1) (.loop (rec (if jump.isNone then .ready else .done) jump))) := by
          intro J jump W3 hJ ⟨D', hj3, hD', hk3⟩
          have hl3 := (hk3.block _ hlt2 hLD).trans hl2
          have hk3' := (hk3.block _ (by omega) hKD).trans hk2
          have hr := run_endRound (P := Try.prog) jump hl3
          rw [hrec] at hr
          have hLD' : ¬ D' (w.heap.size + 1) := fun h => by rcases hD' _ h with h | h; exact hLD h; omega
          have hkq := kept_putObj W3 (w.heap.size + 1) (.loop (rec (if jump.isNone then .ready else .done) jump))
          refine ⟨by rw [hrec]; exact hr, fun k => D' k ∨ k = w.heap.size ∨ k = w.heap.size + 1, ?_, ?_, ?_⟩
          · rw [hWith]
            refine ⟨D', fun k => Iff.rfl, hJ.2 _ _ _ _ _ hj3 hkq (fun k _ e => by subst e; exact ⟨hLD', .inr (by omega)⟩), fun k hk => ?_, ?_, World.putObj_heap_same (Array.getElem?_eq_some_iff.1 hl3).1, (World.putObj_heap_other (by omega)).trans hk3'⟩
            · rcases hD' k hk with h | h
              · exact hDn k h
              · right; omega
            · refine ((hkw.trans' hkp (fun i hi e => by omega)).trans' hk3 (fun i hi h => ?_)).trans' hkq (fun i hi e => by omega)
              rcases hDn i h with h | h
              · exact .inl h
              · omega
          · rintro k (h | h | h)
            · rcases hD' k h with h | h
              · exact .inl ((hDp k).2 (.inl h))
              · right; omega
            · exact .inl ((hDp k).2 (.inr (.inl h)))
            · exact .inl ((hDp k).2 (.inr (.inr h)))
          · exact ((hkp.mono fun i _ e => (hDp i).2 (.inr (.inr e))).trans (hk3.mono fun i _ e => (hDp i).2 (.inl e))).trans (hkq.mono fun i _ e => (hDp i).2 (.inr (.inr e)))
        rintro e a3 W3 hp
        cases e with
        | normal =>
          obtain ⟨hr, hs⟩ := fin J none W3 hJ hp
          exact ⟨_, _, hr, .inl ⟨rfl, hs⟩⟩
        | ret =>
          obtain ⟨hr, hs⟩ := fin Jx (some .ret) W3 hJx hp
          exact ⟨_, _, hr, .inr ⟨rfl, hs⟩⟩
        | exit id => exact hp.elim
        | goto t => exact hp.elim
        | panic ch => exact hp.elim
        | outgrown => exact hp.elim
      | exit id => exact he.elim
      | goto t => exact he.elim
      | ret => exact he.elim
      | panic ch => exact he.elim
      | outgrown => exact he.elim
    · rintro (h | h | h)
      · exact hR k hk h
      · have := hRlt k hk; omega
      · have := hRlt k hk; omega
    · rw [hWith]
      exact ⟨D0, fun k => Iff.rfl, hJ1, fun k h => .inl h, Kept.of_below hb1, hL1, hK1⟩
    · rintro e W2 ⟨⟨v, rfl⟩, (⟨D', hi⟩ | ⟨D', pre, hpf, hi⟩)⟩
      · rw [hWith] at hi
        obtain ⟨D, hDp, hj, hDn, hkw, hl, hk⟩ := hi
        have hLD : ¬ D (w.heap.size + 1) := fun h => by rcases hDn _ h with h | h; have := hD0 _ h; omega; omega
        have hkq : ∀ o, Kept (fun k => k = w.heap.size + 1) W2 (W2.putObj (w.heap.size + 1) o) := fun o => kept_putObj W2 (w.heap.size + 1) o
        exact ⟨none, _, by have := run_endLoop (P := Try.prog) hl (by rw [hrec]; simp); rw [hrec] at this; exact this,
          hdone D _ (hJ.2 _ _ _ _ _ hj (hkq _) (fun k _ e => by subst e; exact ⟨hLD, .inr (by omega)⟩)) (hkw.trans' (hkq _) (fun i hi e => by omega)) hDn ((World.putObj_heap_other (by omega)).trans hk)⟩
      · rw [hWith] at hi
        obtain ⟨D, hDp, hj, hDn, hkw, hl, hk⟩ := hi
        have hLD : ¬ D (w.heap.size + 1) := fun h => by rcases hDn _ h with h | h; have := hD0 _ h; omega; omega
        have hkq : ∀ o, Kept (fun k => k = w.heap.size + 1) W2 (W2.putObj (w.heap.size + 1) o) := fun o => kept_putObj W2 (w.heap.size + 1) o
        exact ⟨some .ret, _, by have := run_endLoop (P := Try.prog) hl (by rw [hrec]; simp); rw [hrec] at this; exact this,
          wpIn_ret (hstop D pre _ hpf (hJx.2 _ _ _ _ _ hj (hkq _) (fun k _ e => by subst e; exact ⟨hLD, .inr (by omega)⟩)) (hkw.trans' (hkq _) (fun i hi e => by omega)) hDn ((World.putObj_heap_other (by omega)).trans hk))⟩

/-- The way up, as an iterator. -/
theorem up_iter {bn bc : Nat} {A : Option Addr} {ca : Nat} {v2 : Value} {half age : Int} (c : Cfg.C) (hN : c.nodes.length ≤ maxLen) (t : Int) (h4 : bn ≠ bc) (h5 : ∀ b o, A = some ⟨b, o, none⟩ → b ≠ bn) :
    IterIn 59 #[.pointer (some ⟨bn, 0, none⟩), .pointer (some ⟨bc, 0, none⟩)] (Tree.up c t) (fun k => k = bn ∨ k = bc ∨ ∃ o, A = some ⟨k, o, none⟩) (fun k => k = bn)
      (fun W => UpAt W bn bc A c.nodes.length ca v2 half age c.nodes t) := by
  intro n l J Jx W0 hst hJ hJx hY D hD hJ0
  obtain ⟨R, hRe⟩ : ∃ R : Nat → Prop, R = fun k => k = bn ∨ k = bc ∨ ∃ o, A = some ⟨k, o, none⟩ := ⟨_, rfl⟩
  have hlt : ∀ k, R k → k < W0.heap.size ∨ ∃ o, A = some ⟨k, o, none⟩ := fun k hk => by
    rw [hRe] at hk
    rcases hk with rfl | rfl | h
    · exact .inl hst.lt
    · exact .inl hst.box.1
    · exact .inr h
  refine (up1_in (n := n) l bn bc (A := A) (ca := ca) (v2 := v2) (half := half) (age := age) c hN t (fun pre W => ∃ D, J D pre W ∧ ∀ k, R k → ¬ D k) (fun pre W => ∃ D, Jx D pre W) (fun k => ¬ R k)
    (by rw [hRe]; simp) (by rw [hRe]; simp) (fun b o e => by rw [hRe]; simp [e]) h4 h5 ?_ ?_ W0 hst ⟨D, hJ0, by rw [hRe]; exact hD⟩).mono ?_
  · rintro pre W v ⟨D, hj, hd⟩
    refine ⟨D, hJ.2 D pre W _ (fun k => k = bn) hj ((Kept.refl (fun k => k = bn) W).setCell (p := ⟨bn, 0, none⟩) (.inl rfl) v) (fun k hk e => ?_), hd⟩
    subst e
    exact ⟨hd k (by rw [hRe]; exact .inl rfl), .inl rfl⟩
  · rintro pre x rest W hpre ⟨D, hj, hd⟩ hat
    obtain ⟨fn, tmps, assign, body, hy, hR⟩ := hY D pre x rest W hpre hj (by rw [hRe] at hd; exact hd)
    refine ⟨fn, tmps, assign, body, hy, hR.mono ?_⟩
    have hRW : ∀ k, R k → k < W.heap.size := fun k hk => by
      rw [hRe] at hk
      rcases hk with rfl | rfl | ⟨o, ho⟩
      · exact hat.lt
      · exact hat.box.1
      · have hxn : c.nodes ≠ [] := fun e => by
          have := (Tree.up_lt c t x (by rw [hpre]; simp)).1
          rw [e] at this; simp at this
        obtain ⟨b, o', e, hb, _⟩ := hat.row hxn
        rw [ho] at e; cases e; exact hb
    rintro e W' (⟨rfl, D', hj', hd', hk'⟩ | ⟨rfl, D', hj', hd', hk'⟩)
    · refine .inl ⟨rfl, ⟨D', hj', fun k hk h => ?_⟩, hk'.mono fun i _ h hr => hd i hr h⟩
      rcases hd' k h with h | h
      · exact hd k hk h
      · have := hRW k hk; omega
    · exact .inr ⟨rfl, D', hj'⟩
  · rintro e W' ⟨hv, ⟨D', hj, _⟩ | ⟨pre, hp, D', hj⟩⟩
    · exact ⟨hv, .inl ⟨D', hj⟩⟩
    · exact ⟨hv, .inr ⟨D', pre, hp, hj⟩⟩
end Go.Proofs.Ytbfpljnfalopdaa.CfgW
