/-
  A map that the program owns, as a list of entries of which each has its own key: looked up, written, deleted. Over any program.
-/
import Derived.Test.YtjkmcncgndkdoaaHeap
import Derived.MapKept
import Derived.WideKeyRuns
set_option linter.unusedVariables false
set_option linter.unusedSimpArgs false
namespace Go.Proofs.Ytjkmcncgndkdoaa.L
open Go Go.RowKit Go.MapKept

section
variable {α : Type} [DecidableEq α]

/-- The first entry of a key, and where it stands. -/
def findIn (a : α) : List (α × Value) → Nat → Option (Nat × Value)
  | [], _ => none
  | p :: l, i => if a = p.1 then some (i, p.2) else findIn a l (i + 1)
/-- What a key has. -/
def valOf (a : α) : List (α × Value) → Option Value
  | [] => none
  | p :: l => if a = p.1 then some p.2 else valOf a l
def putIn (a : α) (v : Value) : List (α × Value) → List (α × Value)
  | [] => [(a, v)]
  | p :: l => if a = p.1 then (a, v) :: l else p :: putIn a v l
def cutIn (a : α) : List (α × Value) → List (α × Value)
  | [] => []
  | p :: l => if a = p.1 then l else p :: cutIn a l

theorem findIn_val (a : α) : ∀ (l : List (α × Value)) (i : Nat), (findIn a l i).map (·.2) = valOf a l
  | [], i => rfl
  | p :: l, i => by
    unfold findIn valOf
    split
    · rfl
    · exact findIn_val a l (i + 1)
theorem findIn_none (a : α) (v : Value) : ∀ (l : List (α × Value)) (i : Nat), findIn a l i = none → putIn a v l = l ++ [(a, v)] ∧ cutIn a l = l ∧ valOf a l = none
  | [], i, _ => ⟨rfl, rfl, rfl⟩
  | p :: l, i, h => by
    unfold findIn at h
    split at h
    · cases h
    · rename_i hne
      obtain ⟨h1, h2, h3⟩ := findIn_none a v l (i + 1) h
      unfold putIn cutIn valOf
      rw [if_neg hne, if_neg hne, if_neg hne, h1, h2, h3]
      exact ⟨rfl, rfl, rfl⟩
theorem findIn_some (a : α) (v : Value) : ∀ (l : List (α × Value)) (i k : Nat) (u : Value), findIn a l i = some (k, u) → i ≤ k ∧ l[k - i]? = some (a, u) ∧ putIn a v l = l.set (k - i) (a, v) ∧ cutIn a l = l.eraseIdx (k - i) ∧ valOf a l = some u
  | [], i, k, u, h => by cases h
  | p :: l, i, k, u, h => by
    unfold findIn at h
    split at h
    · rename_i he
      simp only [Option.some.injEq, Prod.mk.injEq] at h
      obtain ⟨rfl, rfl⟩ := h
      unfold putIn cutIn valOf
      rw [if_pos he, if_pos he, if_pos he]
      subst he
      simp
    · rename_i hne
      obtain ⟨h1, h2, h3, h4, h5⟩ := findIn_some a v l (i + 1) k u h
      unfold putIn cutIn valOf
      rw [if_neg hne, if_neg hne, if_neg hne]
      rw [show k - i = (k - (i + 1)) + 1 by omega]
      refine ⟨by omega, by simpa using h2, by rw [h3]; rfl, by rw [h4]; rfl, h5⟩
theorem valOf_put (a b : α) (v : Value) : ∀ l : List (α × Value), valOf b (putIn a v l) = if b = a then some v else valOf b l
  | [] => by
    unfold putIn valOf valOf
    split <;> rfl
  | p :: l => by
    unfold putIn
    by_cases h : a = p.1
    · rw [if_pos h]
      unfold valOf
      subst h
      split <;> rfl
    · rw [if_neg h]
      unfold valOf
      rw [valOf_put a b v l]
      by_cases hb : b = p.1
      · rw [if_pos hb, if_pos hb]
        by_cases hba : b = a
        · exact absurd (hba ▸ hb) h
        · rw [if_neg hba]
      · rw [if_neg hb, if_neg hb]
def Own1 : List (α × Value) → Prop
  | [] => True
  | p :: l => valOf p.1 l = none ∧ Own1 l
theorem own1_put (a : α) (v : Value) : ∀ l : List (α × Value), Own1 l → Own1 (putIn a v l)
  | [], _ => ⟨rfl, trivial⟩
  | p :: l, h => by
    unfold putIn
    by_cases he : a = p.1
    · rw [if_pos he]; subst he; exact h
    · rw [if_neg he]
      refine ⟨?_, own1_put a v l h.2⟩
      rw [valOf_put, if_neg (fun e => he e.symm)]; exact h.1
theorem valOf_cut (a b : α) : ∀ l : List (α × Value), Own1 l → valOf b (cutIn a l) = if b = a then none else valOf b l
  | [], _ => by unfold cutIn valOf; split <;> rfl
  | p :: l, h => by
    unfold cutIn
    by_cases he : a = p.1
    · rw [if_pos he]
      by_cases hb : b = p.1
      · rw [if_pos (hb.trans he.symm), hb]; exact h.1
      · rw [if_neg (fun e => hb (e.trans he))]
        conv => rhs; unfold valOf
        rw [if_neg hb]
    · rw [if_neg he]
      unfold valOf
      rw [valOf_cut a b l h.2]
      by_cases hb : b = p.1
      · rw [if_pos hb, if_pos hb, if_neg (fun e => he (e.symm.trans hb))]
      · rw [if_neg hb, if_neg hb]
theorem own1_cut (a : α) : ∀ l : List (α × Value), Own1 l → Own1 (cutIn a l)
  | [], _ => trivial
  | p :: l, h => by
    unfold cutIn
    by_cases he : a = p.1
    · rw [if_pos he]; exact h.2
    · rw [if_neg he]
      refine ⟨?_, own1_cut a l h.2⟩
      rw [valOf_cut a p.1 l h.2]
      split
      · rfl
      · exact h.1

theorem map_cut {β γ : Type} (f : β → γ) : ∀ (l : List β) (k : Nat), (l.eraseIdx k).map f = (l.map f).eraseIdx k
  | [], k => rfl
  | x :: l, 0 => rfl
  | x :: l, k + 1 => by simp [map_cut f l k]
theorem toList_cut {β : Type} (es : Array β) (k : Nat) : (es.eraseIdxIfInBounds k).toList = es.toList.eraseIdx k := by
  unfold Array.eraseIdxIfInBounds
  split
  · rw [Array.toList_eraseIdx]
  · rename_i h
    rw [List.eraseIdx_of_length_le (by simpa using h)]

/-- How a key is compared and checked. -/
structure KeyOf (P : Program) (kt : TypeId) (enc : α → Value) : Prop where
  chk : ∀ (em : Bool) (a : α) (w : World), (Instr.checkKey em 10000 kt (enc a)).run P w = .ok () w
  find : ∀ (a : α) (es : List MapEntry) (l : List (α × Value)) (w : World), es.map (fun e => (e.key, e.val)) = l.map (fun p => (enc p.1, p.2)) → (Instr.findKey kt (enc a) es).run P w = .ok (findIn a l 0) w
  same : ∀ (a : α), Instr.sameBits 10000 (enc a) (enc a) = true

/-- Block b of w is a map that holds these. -/
def MapAt (w : World) (b : Nat) (enc : α → Value) (l : List (α × Value)) : Prop := ∃ es clock, w.heap[b]? = some (.map es clock) ∧ es.toList.map (fun e => (e.key, e.val)) = l.map (fun p => (enc p.1, p.2)) ∧ Own1 l
theorem MapAt.lt {w : World} {b : Nat} {enc : α → Value} {l : List (α × Value)} (h : MapAt w b enc l) : b < w.heap.size := by
  obtain ⟨es, c, hb, _⟩ := h
  exact (Array.getElem?_eq_some_iff.1 hb).1
theorem MapAt.kept {w w' : World} {b : Nat} {enc : α → Value} {l : List (α × Value)} {F : Nat → Prop} (h : MapAt w b enc l) (k : Kept F w w') (hf : ¬ F b) : MapAt w' b enc l := by
  have hlt := h.lt
  obtain ⟨es, c, hb, hr⟩ := h
  exact ⟨es, c, (k.block b hlt hf).trans hb, hr⟩
theorem MapAt.on {w w' : World} {b : Nat} {enc : α → Value} {l : List (α × Value)} (h : MapAt w b enc l) (k : Below w.heap.size w w') : MapAt w' b enc l :=
  h.kept (F := fun _ => False) (Kept.of_below k) (fun f => f)
theorem MapAt.new (w : World) (enc : α → Value) : MapAt (w.alloc (.map #[] 0)) w.heap.size enc ([] : List (α × Value)) := ⟨#[], 0, (heap_alloc w _).1, rfl, trivial⟩

variable {P : Program} {kt et t : TypeId} {enc : α → Value} {w : World} {b : Nat} {l : List (α × Value)}
theorem MapAt.look (h : MapAt w b enc l) (K : KeyOf P kt enc) (ht : P.underlying t = some (.map kt et)) {z : Value} (hz : ∀ w : World, (zeroValue et).run P w = .ok z w) (a : α) :
    (Instr.lookup t (.map (some b)) (enc a) true).run P w = .ok (.tuple #[(valOf a l).getD z, .bool (valOf a l).isSome]) w ∧ (Instr.lookup t (.map (some b)) (enc a) false).run P w = .ok ((valOf a l).getD z) w := by
  obtain ⟨es, c, hb, hr, _⟩ := h
  have h1 := K.find a es.toList l w hr
  have h2 := findIn_val a l 0
  cases hf : findIn a l 0 with
  | none =>
    rw [hf] at h1 h2
    have h3 : valOf a l = none := h2.symm
    rw [h3]
    constructor <;> simp [Instr.lookup, run_underlying ht, Go.MapKept.run_getObj_map hb, K.chk, h1, hz]
  | some p =>
    rw [hf] at h1 h2
    have h3 : valOf a l = some p.2 := h2.symm
    rw [h3]
    constructor <;> simp [Instr.lookup, run_underlying ht, Go.MapKept.run_getObj_map hb, K.chk, h1]
theorem MapAt.put (h : MapAt w b enc l) (K : KeyOf P kt enc) (ht : P.underlying t = some (.map kt et)) (a : α) (v : Value) :
    ∃ w', (Instr.mapUpdate t (.map (some b)) (enc a) v).run P w = .ok () w' ∧ MapAt w' b enc (putIn a v l) ∧ Kept (fun k => k = b) w w' := by
  have hlt := h.lt
  obtain ⟨es, c, hb, hr, ho⟩ := h
  have h1 := K.find a es.toList l w hr
  have hkept : ∀ o, Kept (fun k => k = b) w { w with heap := w.heap.setIfInBounds b o } := fun o =>
    ⟨rfl, rfl, rfl, by simp, fun k hk hf => by simp [Ne.symm hf]⟩
  cases hf : findIn a l 0 with
  | none =>
    rw [hf] at h1
    obtain ⟨h2, _, _⟩ := findIn_none a v l 0 hf
    refine ⟨_, by simp [Instr.mapUpdate, run_underlying ht, Go.MapKept.run_getObj_map hb, K.chk, h1, Go.MapKept.run_setObj_map _ hb]; rfl, ⟨_, _, (heap_set hb).1, ?_, own1_put a v l ho⟩, hkept _⟩
    rw [h2]
    simp [hr]
  | some p =>
    obtain ⟨k, u⟩ := p
    rw [hf] at h1
    obtain ⟨_, h2, h3, _, _⟩ := findIn_some a v l 0 k u hf
    rw [Nat.sub_zero] at h2 h3
    have hkl : k < l.length := (List.getElem?_eq_some_iff.1 h2).1
    have hel : es.toList.length = l.length := by simpa using congrArg List.length hr
    have hke : k < es.size := by simpa using (hel ▸ hkl : k < es.toList.length)
    have hek : (es.toList.map (fun e => (e.key, e.val)))[k]? = some (enc a, u) := by rw [hr, List.getElem?_map, h2]; rfl
    have hek2 : es[k].key = enc a := by
      rw [List.getElem?_map, Array.getElem?_toList, Array.getElem?_eq_getElem hke] at hek
      simp at hek; exact hek.1
    have hks : (Instr.keyThatStays (((es[k]?).map (·.key)).getD (enc a)) (enc a)).run P w = .ok (enc a) w := by
      rw [Array.getElem?_eq_getElem hke]
      simp [Instr.keyThatStays, hek2, K.same]
    refine ⟨_, by simp only [Instr.mapUpdate, Sem.run_bind, run_underlying ht, Result.andThen_ok, Go.MapKept.run_getObj_map hb, K.chk, h1, hks, Go.MapKept.run_setObj_map _ hb]; rfl, ⟨_, _, (heap_set hb).1, ?_, own1_put a v l ho⟩, hkept _⟩
    rw [h3, List.map_set, ← hr]
    apply List.ext_getElem?
    intro j
    by_cases hj : j = k
    · subst hj
      simp [hke]
    · simp [Array.getElem?_modify, Ne.symm hj, List.getElem?_set, hj]
theorem MapAt.cut (h : MapAt w b enc l) (K : KeyOf P kt enc) (ht : P.underlying t = some (.map kt et)) (a : α) :
    ∃ w', (∀ ty t2, (Builtin.delete_ #[t, t2] ty #[.map (some b), enc a]).run P w = .ok (.tuple #[]) w') ∧ MapAt w' b enc (cutIn a l) ∧ Kept (fun k => k = b) w w' := by
  have hlt := h.lt
  obtain ⟨es, c, hb, hr, ho⟩ := h
  have h1 := K.find a es.toList l w hr
  have hkept : ∀ o, Kept (fun k => k = b) w { w with heap := w.heap.setIfInBounds b o } := fun o =>
    ⟨rfl, rfl, rfl, by simp, fun k hk hf => by simp [Ne.symm hf]⟩
  cases hf : findIn a l 0 with
  | none =>
    rw [hf] at h1
    obtain ⟨_, h2, _⟩ := findIn_none a .nilIface l 0 hf
    refine ⟨_, fun ty t2 => by simp [Builtin.delete_, run_underlying ht, Go.MapKept.run_getObj_map hb, K.chk, h1, Go.MapKept.run_setObj_map _ hb]; rfl, ⟨_, _, (heap_set hb).1, ?_, own1_cut a l ho⟩, hkept _⟩
    rw [h2]; exact hr
  | some p =>
    obtain ⟨k, u⟩ := p
    rw [hf] at h1
    obtain ⟨_, h2, _, h4, _⟩ := findIn_some a .nilIface l 0 k u hf
    rw [Nat.sub_zero] at h2 h4
    refine ⟨_, fun ty t2 => by simp [Builtin.delete_, run_underlying ht, Go.MapKept.run_getObj_map hb, K.chk, h1, Go.MapKept.run_setObj_map _ hb]; rfl, ⟨_, _, (heap_set hb).1, ?_, own1_cut a l ho⟩, hkept _⟩
    rw [h4]
    rw [toList_cut, map_cut, hr, map_cut]
end
end Go.Proofs.Ytjkmcncgndkdoaa.L
