/-
  A range over the way up the tree; qtree.Up's contract; regions in a round.
-/
import Derived.Test.YtbfpljnfalopdaaUp
set_option linter.unusedVariables false
set_option linter.unusedSimpArgs false
namespace Go.Proofs.Ytbfpljnfalopdaa.CfgW
open Go Go.RowKit Go.Proofs.Ytbfpljnfalopdaa.L
attribute [local go_sem] Oper.semAt_some

theorem kept_putObj (W : World) (l : Nat) (o : Obj) : Kept (fun k => k = l) W (W.putObj l o) := Kept.of_grown (grownBy_putObj' W l o) (fun i e => by cases e; rfl)

/-- How a round's body is left. -/
def UpEnd (J Jx : World → Prop) (F0 : Nat → Prop) (W : World) : Exit → Act → World → Prop
  | .normal, _, W' => J W' ∧ Kept F0 W W'
  | .ret, _, W' => Jx W' ∧ Kept F0 W W'
  | _, _, _ => False

theorem range_up {m : Nat} {Q : Exit → Act → World → Prop} {a : Act} {w : World} {g : Operand} {ps : Array Tmp} {assign body : Code} {bn bc : Nat} {A : Option Addr} {ca : Nat} {v2 : Value} {half age : Int} (c : Cfg.C) (hN : c.nodes.length ≤ maxLen) (t : Int)
    (hg : a.eval g = .func (.func 59) #[] #[.pointer (some ⟨bn, 0, none⟩), .pointer (some ⟨bc, 0, none⟩)]) (hps : ps.size = 1)
    (hat : UpAt w bn bc A c.nodes.length ca v2 half age c.nodes t) (h4 : bn ≠ bc) (h5 : ∀ b o, A = some ⟨b, o, none⟩ → b < w.heap.size ∧ b ≠ bn) (F0 : Nat → Prop) (h1 : ¬ F0 bn) (h2 : ¬ F0 bc) (h3 : ∀ b o, A = some ⟨b, o, none⟩ → ¬ F0 b) (hD : ¬ F0 w.heap.size) (hL : ¬ F0 (w.heap.size + 1))
    (J Jx : List Nat → World → Prop) (hJ : ∀ pre W W', J pre W → Kept (fun k => k = bn ∨ k = w.heap.size + 1) W W' → J pre W') (hJx : ∀ pre W W', Jx pre W → Kept (fun k => k = bn ∨ k = w.heap.size + 1) W W' → Jx pre W') (hJ0 : ∀ W, Below w.heap.size w W → J [] W)
    (hround : ∀ (l m : Nat) (pre : List Nat) (x : Nat) (rest : List Nat) (W : World), l = w.heap.size + 1 → Tree.up c t = pre ++ x :: rest → J pre W → UpAt W bn bc A c.nodes.length ca v2 half age c.nodes (x : Int) →
      assign.wpIn (Fence.wide.inRound l) m Try.prog (Exit.then (fun a' W' => W' = W ∧ ∀ W2, J pre W2 → UpAt W2 bn bc A c.nodes.length ca v2 half age c.nodes (x : Int) → w.heap.size + 1 < W2.heap.size →
        body.wpIn (Fence.wide.inRound l) m Try.prog (UpEnd (J (pre ++ [x])) (Jx (pre ++ [x])) F0 W2) a' W2) (fun _ _ _ => False)) { tmps := (ps.zip #[.int .i64 (x : Int)]).foldl (fun t (p, v) => t.setIfInBounds p v) a.tmps, defers := [] } W)
    (hdone : ∀ (W : World), J (Tree.up c t) W → W.heap[w.heap.size]? = some (.deferred (some [])) → Q .normal { a with defers := { target := .collected w.heap.size, args := #[] } :: a.defers } W)
    (hstop : ∀ (pre : List Nat) (W : World), pre <+: Tree.up c t → Jx pre W → W.heap[w.heap.size]? = some (.deferred (some [])) → Q .ret { a with defers := { target := .collected w.heap.size, args := #[] } :: a.defers } W) :
    (Code.rangeFunc g ps assign body).wpIn Fence.wide m Try.prog Q a w := by
  refine wpIn_rangeFunc ?_
  intro fn hfn
  rw [show Fence.wide.round = none from rfl]
  obtain ⟨rec, hrec⟩ : ∃ rec : LoopState → Option Code → Loop, rec = fun st pe => { state := st, pending := pe, fn, tmps := a.tmps, params := ps, assign, body, defers := w.heap.size } := ⟨_, rfl⟩
  obtain ⟨W1, hW1⟩ : ∃ W1, (w.alloc (.deferred (some []))).alloc (.loop (rec .ready none)) = W1 := ⟨_, rfl⟩
  have hL1 : W1.heap[w.heap.size + 1]? = some (.loop (rec .ready none)) := by
    rw [← hW1]; have := World.alloc_heap_new (w.alloc (.deferred (some []))) (.loop (rec .ready none)); rwa [World.size_alloc] at this
  have hK1 : W1.heap[w.heap.size]? = some (.deferred (some [])) := by
    rw [← hW1]; exact (Below.heap_alloc _ _ _ (by simp)).trans (World.alloc_heap_new w _)
  have hb1 : Below w.heap.size w W1 := by
    rw [← hW1]; exact ((Below.refl _ w).alloc (Nat.le_refl _) _).alloc (by simp) _
  refine ⟨w.heap.size + 1, [{ target := .collected w.heap.size, args := #[] }], W1, { target := .fn (.func 59) #[.pointer (some ⟨bn, 0, none⟩), .pointer (some ⟨bc, 0, none⟩)], args := #[.func (.yield (w.heap.size + 1)) #[] #[]] }, W1, 59,
    #[.func (.yield (w.heap.size + 1)) #[] #[]] ++ #[.pointer (some ⟨bn, 0, none⟩), .pointer (some ⟨bc, 0, none⟩)], W1, ?_, ?_, ?_, ?_, fun h => by simp [Fence.wide] at h, ?_⟩
  · rw [← hW1, hrec]; exact run_enterLoop_outer _ _ _ _ _
  · simp only [resolve, hg]
    simp [go_sem]
  · intro f' hf'; trivial
  · have eg : ∀ args w, (callFunc 59 args).run Try.prog w = .ok (.enter 59 args) w := fun _ _ => by kernel_rfl
    simp [invoke, go_sem, eg]
  · have hbn : bn < w.heap.size := hat.lt
    have hbc : bc < w.heap.size := hat.box.1
    refine (up1_in (w.heap.size + 1) bn bc (A := A) (ca := ca) (v2 := v2) (half := half) (age := age) c hN t
      (fun pre W => J pre W ∧ W.heap[w.heap.size + 1]? = some (.loop (rec .ready none)) ∧ W.heap[w.heap.size]? = some (.deferred (some [])))
      (fun pre W => Jx pre W ∧ W.heap[w.heap.size + 1]? = some (.loop (rec .done (some .ret))) ∧ W.heap[w.heap.size]? = some (.deferred (some [])))
      (fun k => F0 k ∨ k = w.heap.size + 1) (by rintro (h | h); exact h1 h; omega) (by rintro (h | h); exact h2 h; omega)
      (fun b o e => by
        rintro (h | h)
        · exact h3 b o e h
        · have := (h5 b o e).1; omega) h4 (fun b o e => (h5 b o e).2)
      (fun pre W v ⟨hj, hl, hk⟩ => by
        have k : Kept (fun i => i = bn ∨ i = w.heap.size + 1) W (W.setCell ⟨bn, 0, none⟩ v) := (Kept.refl _ W).setCell (p := ⟨bn, 0, none⟩) (.inl (.inl rfl)) _
        exact ⟨hJ pre W _ hj k, (Below.heap_setCell W ⟨bn, 0, none⟩ v _ (by show w.heap.size + 1 ≠ bn; omega)).trans hl, (Below.heap_setCell W ⟨bn, 0, none⟩ v _ (by show w.heap.size ≠ bn; omega)).trans hk⟩)
      ?_ W1 ?_ ⟨hJ0 W1 hb1, hL1, hK1⟩).mono ?_
    · rintro pre x rest W hpre ⟨hj, hl, hk⟩ hatW
      have hlt : w.heap.size + 1 < W.heap.size := (Array.getElem?_eq_some_iff.1 hl).1
      have hy := run_yield (P := Try.prog) (args := #[.int .i64 (x : Int)]) hl (by rw [hrec]; exact hps.symm)
      rw [hrec] at hy
      refine ⟨fn, _, assign, body, hy, roundIn_of_wpIn hfn (wpIn_mono (hround (w.heap.size + 1) _ pre x rest W rfl hpre hj hatW) ?_)⟩
      intro e a' W' he
      cases e with
      | normal =>
        obtain ⟨rfl, hbody⟩ := he
        refine ⟨_, run_beginRound hl (by rw [hrec]), ?_⟩
        have hl2 : (W'.putObj (w.heap.size + 1) (.loop { rec .ready none with state := .busy })).heap[w.heap.size + 1]? = some (.loop { rec .ready none with state := .busy }) := World.putObj_heap_same hlt
        have hk2 : (W'.putObj (w.heap.size + 1) (.loop { rec .ready none with state := .busy })).heap[w.heap.size]? = some (.deferred (some [])) := (World.putObj_heap_other (by omega)).trans hk
        have hkp := kept_putObj W' (w.heap.size + 1) (.loop { rec .ready none with state := .busy })
        have hat2 := hatW.kept hkp (by omega) (by omega) (fun b o e => by have := (h5 b o e).1; omega)
        refine wpIn_mono (hbody _ (hJ pre W' _ hj (hkp.mono fun i _ e => .inr e)) hat2 (by simpa using hlt)) ?_
        generalize W'.putObj (w.heap.size + 1) (.loop { rec .ready none with state := .busy }) = W2 at *
        have hlt2 : w.heap.size + 1 < W2.heap.size := (Array.getElem?_eq_some_iff.1 hl2).1
        have fin : ∀ (jump : Option Code) (W3 : World), Kept F0 W2 W3 →
            (Instr.endRound (w.heap.size + 1) jump).run Try.prog W3 = .ok (.bool jump.isNone) (W3.putObj (w.heap.size + 1) (.loop (rec (if jump.isNone then .ready else .done) jump))) ∧
            (W3.putObj (w.heap.size + 1) (.loop (rec (if jump.isNone then .ready else .done) jump))).heap[w.heap.size + 1]? = some (.loop (rec (if jump.isNone then .ready else .done) jump)) ∧
            (W3.putObj (w.heap.size + 1) (.loop (rec (if jump.isNone then .ready else .done) jump))).heap[w.heap.size]? = some (.deferred (some [])) ∧ Kept (fun k => k = w.heap.size + 1) W3 (W3.putObj (w.heap.size + 1) (.loop (rec (if jump.isNone then .ready else .done) jump))) := fun jump W3 hk3 => by
          have hl3 := (hk3.block _ hlt2 hL).trans hl2
          have hk3' := (hk3.block _ (by omega) hD).trans hk2
          have := run_endRound (P := Try.prog) jump hl3
          rw [hrec] at this ⊢
          exact ⟨this, World.putObj_heap_same (Array.getElem?_eq_some_iff.1 hl3).1, (World.putObj_heap_other (by omega)).trans hk3', kept_putObj _ _ _⟩
        rintro e a3 W3 hp
        cases e with
        | normal =>
          obtain ⟨hj3, hk3⟩ := hp
          obtain ⟨hr, hl4, hk4, hkk⟩ := fin none W3 hk3
          refine ⟨_, _, hr, .inl ⟨rfl, ⟨hJ _ _ _ hj3 (hkk.mono fun i _ e => .inr e), hl4, hk4⟩, ?_⟩⟩
          exact ((hkp.mono fun i _ e => .inr e).trans (hk3.mono fun i _ e => .inl e)).trans (hkk.mono fun i _ e => .inr e)
        | ret =>
          obtain ⟨hj3, hk3⟩ := hp
          obtain ⟨hr, hl4, hk4, hkk⟩ := fin (some .ret) W3 hk3
          exact ⟨_, _, hr, .inr ⟨rfl, hJx _ _ _ hj3 (hkk.mono fun i _ e => .inr e), hl4, hk4⟩⟩
        | exit id => exact hp.elim
        | goto t => exact hp.elim
        | panic ch => exact hp.elim
        | outgrown => exact hp.elim
      | exit id => exact he.elim
      | goto t => exact he.elim
      | ret => exact he.elim
      | panic ch => exact he.elim
      | outgrown => exact he.elim
    · exact hat.kept (Kept.of_below hb1) (F := fun _ => False) (fun h => h) (fun h => h) (fun _ _ _ h => h)
    · rintro e W2 ⟨⟨v, rfl⟩, (⟨hi, hl, hk⟩ | ⟨pre, hpf, hi, hl, hk⟩)⟩
      · exact ⟨none, _, by have := run_endLoop (P := Try.prog) hl (by rw [hrec]; simp); rw [hrec] at this; exact this, hdone _ (hJ _ _ _ hi ((kept_putObj _ _ _).mono fun i _ e => .inr e)) ((World.putObj_heap_other (by omega)).trans hk)⟩
      · exact ⟨some .ret, _, by have := run_endLoop (P := Try.prog) hl (by rw [hrec]; simp); rw [hrec] at this; exact this, wpIn_ret (hstop pre _ hpf (hJx _ _ _ hi ((kept_putObj _ _ _).mono fun i _ e => .inr e)) ((World.putObj_heap_other (by omega)).trans hk))⟩
end Go.Proofs.Ytbfpljnfalopdaa.CfgW
