/-
  Maps whose keys are whole numbers: how the key is compared. Over any program.
-/
import Derived.Test.YtjkmcncgndkdoaaMapAt
set_option linter.unusedVariables false
set_option linter.unusedSimpArgs false
namespace Go.Proofs.Ytjkmcncgndkdoaa.L
open Go Go.RowKit Go.MapKept
theorem find_by {α : Type} [DecidableEq α] {P : Program} {kt : TypeId} {enc : α → Value} (heq : ∀ (a b : α) (w : World), (Op.equal kt (enc a) (enc b)).run P w = .ok (decide (a = b)) w) (a : α) :
    ∀ (es : List MapEntry) (l : List (α × Value)) (i : Nat) (w : World), es.map (fun e => (e.key, e.val)) = l.map (fun p => (enc p.1, p.2)) → (Instr.findAsking kt (enc a) es i).run P w = .ok (findIn a l i) w
  | [], [], i, w, _ => by simp [Instr.findAsking, findIn]
  | [], p :: l, i, w, h => by simp at h
  | e :: es, [], i, w, h => by simp at h
  | e :: es, p :: l, i, w, h => by
    simp only [List.map_cons, List.cons.injEq, Prod.mk.injEq] at h
    obtain ⟨⟨hk, hv⟩, ht⟩ := h
    have ih := find_by heq a es l (i + 1) w ht
    unfold Instr.findAsking findIn
    rw [hk, hv]
    by_cases hp : a = p.1
    · simp [heq, hp]
    · simp [heq, hp, ih]
theorem key_find {P : Program} {kt : TypeId} {q : IntKind} (a : Int) : ∀ (es : List MapEntry) (l : List (Int × Value)) (i : Nat), es.map (fun e => (e.key, e.val)) = l.map (fun p => (Value.int q p.1, p.2)) → Instr.findNow (.int q) (.int q a) es i = some (findIn a l i)
  | [], [], i, _ => rfl
  | [], p :: l, i, h => by simp at h
  | e :: es, [], i, h => by simp at h
  | e :: es, p :: l, i, h => by
    simp only [List.map_cons, List.cons.injEq, Prod.mk.injEq] at h
    obtain ⟨⟨hk, hv⟩, ht⟩ := h
    have ih := key_find (P := P) (kt := kt) a es l (i + 1) ht
    unfold Instr.findNow findIn
    rw [hk, hv]
    by_cases hp : a = p.1
    · simp [Instr.sameNow, hp]
    · have : (a == p.1) = false := by simpa using hp
      simp [Instr.sameNow, hp, this, ih]
theorem key_int {P : Program} {kt : TypeId} {q : IntKind} (hk : P.underlying kt = some (.int q)) : KeyOf P kt (Value.int q) where
  chk em a w := by
    have h : ∀ n, (Instr.checkKey em (n + 1) kt (.int q a)).run P w = .ok () w := fun n => by simp [Instr.checkKey, run_underlying hk]
    exact h 9999
  find a es l w h := Go.MapKept.run_findKey hk (key_find (P := P) (kt := kt) a es l 0 h)
  same a := by
    have h : ∀ n, Instr.sameBits n (.int q a) (.int q a) = true := fun n => by cases n <;> simp [Instr.sameBits]
    exact h _
end Go.Proofs.Ytjkmcncgndkdoaa.L
