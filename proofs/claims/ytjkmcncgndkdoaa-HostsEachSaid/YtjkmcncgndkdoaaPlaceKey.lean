/-
  Places as keys of a map; whole numbers as keys.
-/
import Derived.Test.YtjkmcncgndkdoaaMapAt
import Derived.Test.YtjkmcncgndkdoaaHostTake
import Derived.Test.YtjkmcncgndkdoaaGroupPlain
set_option linter.unusedVariables false
set_option linter.unusedSimpArgs false
namespace Go.Proofs.Ytjkmcncgndkdoaa.L
open Go Go.RowKit Go.MapKept
theorem find_by {α : Type} [DecidableEq α] {P : Program} {kt : TypeId} {enc : α → Value} (heq : ∀ (a b : α) (w : World), (Op.equal kt (enc a) (enc b)).run P w = .ok (decide (a = b)) w) (a : α) :
    ∀ (es : List MapEntry) (l : List (α × Value)) (i : Nat) (w : World), es.map (fun e => (e.key, e.val)) = l.map (fun p => (enc p.1, p.2)) → (Instr.findAsking kt (enc a) es i).run P w = .ok (findIn a l i) w
  | [], [], i, w, _ => by simp [Instr.findAsking, findIn]
  | [], p :: l, i, w, h => by simp at h
  | e :: es, [], i, w, h => by simp at h
  | e :: es, p :: l, i, w, h => by
    simp only [List.map_cons, List.cons.injEq, Prod.mk.injEq] at h
    obtain ⟨⟨hk, hv⟩, ht⟩ := h
    have ih := find_by heq a es l (i + 1) w ht
    unfold Instr.findAsking findIn
    rw [hk, hv]
    by_cases hp : a = p.1
    · simp [heq, hp]
    · simp [heq, hp, ih]
theorem find_now {P : Program} {kt : TypeId} {q : IntKind} (a : Int) : ∀ (es : List MapEntry) (l : List (Int × Value)) (i : Nat), es.map (fun e => (e.key, e.val)) = l.map (fun p => (Value.int q p.1, p.2)) → Instr.findNow (.int q) (.int q a) es i = some (findIn a l i)
  | [], [], i, _ => rfl
  | [], p :: l, i, h => by simp at h
  | e :: es, [], i, h => by simp at h
  | e :: es, p :: l, i, h => by
    simp only [List.map_cons, List.cons.injEq, Prod.mk.injEq] at h
    obtain ⟨⟨hk, hv⟩, ht⟩ := h
    have ih := find_now (P := P) (kt := kt) a es l (i + 1) ht
    unfold Instr.findNow findIn
    rw [hk, hv]
    by_cases hp : a = p.1
    · simp [Instr.sameNow, hp]
    · have : (a == p.1) = false := by simpa using hp
      simp [Instr.sameNow, hp, this, ih]
theorem int_key {P : Program} {kt : TypeId} {q : IntKind} (hk : P.underlying kt = some (.int q)) : KeyOf P kt (Value.int q) where
  chk em a w := by
    have h : ∀ n, (Instr.checkKey em (n + 1) kt (.int q a)).run P w = .ok () w := fun n => by simp [Instr.checkKey, run_underlying hk]
    exact h 9999
  find a es l w h := Go.MapKept.run_findKey hk (find_now (P := P) (kt := kt) a es l 0 h)
  same a := by
    have h : ∀ n, Instr.sameBits n (.int q a) (.int q a) = true := fun n => by cases n <;> simp [Instr.sameBits]
    exact h _
end Go.Proofs.Ytjkmcncgndkdoaa.L
namespace Go.Proofs.Ytjkmcncgndkdoaa.CfgW
open Go.RowKit Go.Proofs.Ytjkmcncgndkdoaa.L

def penc (p : Hst.Place) : Value := .agg #[.int .i64 p.flavor, .int .i64 p.block, .int .i64 p.rack, .int .i64 p.host]
section
variable (a0 a1 a2 a3 b0 b1 b2 b3 : Int) (w : World)
theorem ppart0 : (part 3 #[Value.int .i64 a0, .int .i64 a1, .int .i64 a2, .int .i64 a3] 0).run Try.prog w = .ok (.int .i64 a0) w := by kernel_rfl
theorem ppart1 : (part 3 #[Value.int .i64 a0, .int .i64 a1, .int .i64 a2, .int .i64 a3] 1).run Try.prog w = .ok (.int .i64 a1) w := by kernel_rfl
theorem ppart2 : (part 3 #[Value.int .i64 a0, .int .i64 a1, .int .i64 a2, .int .i64 a3] 2).run Try.prog w = .ok (.int .i64 a2) w := by kernel_rfl
theorem ppart3 : (part 3 #[Value.int .i64 a0, .int .i64 a1, .int .i64 a2, .int .i64 a3] 3).run Try.prog w = .ok (.int .i64 a3) w := by kernel_rfl
theorem eqplace : (Op.equalIn 10000 93 (.agg #[.int .i64 a0, .int .i64 a1, .int .i64 a2, .int .i64 a3]) (.agg #[.int .i64 b0, .int .i64 b1, .int .i64 b2, .int .i64 b3])).run Try.prog w =
    .ok ((a0 == b0) && ((a1 == b1) && ((a2 == b2) && (a3 == b3)))) w := by
  have hS : Try.prog.underlying 93 = some (.struct (Try.prog.fieldsOf 93)) := by kernel_rfl
  have hp : Try.prog.stoodInHeld 93 = false := by kernel_rfl
  rw [show (10000 : Nat) = 9999 + 1 from rfl, run_equalIn_agg w 9999 93 _ _ hS hp]
  simp only [Program.fieldsOf, Try.underlying93]
  have i1 := fun a b w => eqint 9998 a b w
  simp only [Op.eqFields, ppart0, ppart1, ppart2, ppart3, i1, Sem.run_bind, Result.andThen_ok, Sem.run_pure, Sem.run_ite]
  have n1 : ("flavor" : String) ≠ "_" := by decide
  have n2 : ("block" : String) ≠ "_" := by decide
  have n3 : ("rack" : String) ≠ "_" := by decide
  have n4 : ("host" : String) ≠ "_" := by decide
  simp only [n1, n2, n3, n4, ne_eq, not_false_eq_true, if_true]
  generalize (a0 == b0) = t0
  generalize (a1 == b1) = t1
  generalize (a2 == b2) = t2
  generalize (a3 == b3) = t3
  cases t0 <;> cases t1 <;> cases t2 <;> cases t3 <;> rfl
end
theorem place_key : KeyOf Try.prog 93 penc where
  chk em a w := by
    have hS := Try.underlying93
    have hI : Try.prog.underlying 3 = some (.int .i64) := by kernel_rfl
    have hc : ∀ n (x : Int) (w : World), (Instr.checkKey em (n + 1) 3 (.int .i64 x)).run Try.prog w = .ok () w := fun n x w => by simp [Instr.checkKey, run_underlying hI]
    unfold penc
    rw [show (10000 : Nat) = 9998 + 1 + 1 from rfl]
    unfold Instr.checkKey
    simp [run_underlying hS, ppart0, ppart1, ppart2, ppart3, hc]
  find a es l w h := by
    rw [run_findKey_eq w (by rw [Try.underlying93]) (penc a) es]
    refine find_by (fun x y w => ?_) a es l 0 w h
    unfold penc Op.equal Op.maxDepth
    rw [eqplace]
    congr 1
    obtain ⟨x0, x1, x2, x3⟩ := x
    obtain ⟨y0, y1, y2, y3⟩ := y
    by_cases h0 : x0 = y0 <;> by_cases h1 : x1 = y1 <;> by_cases h2 : x2 = y2 <;> by_cases h3 : x3 = y3 <;> simp [h0, h1, h2, h3]
  same a := by simp [Instr.sameBits, penc]
end Go.Proofs.Ytjkmcncgndkdoaa.CfgW
