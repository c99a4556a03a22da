/-
  An array of integers handed in by value, opened.
-/
import Derived.Test.YtbfpljnfalopdaaLib
import Derived.OpenShut
import Derived.ChangeShapes
import Derived.WideShapes
set_option linter.unusedVariables false
set_option linter.unusedSimpArgs false
namespace Go.Proofs.Ytbfpljnfalopdaa.L
open Go Go.RowKit Go.WideShapes

section
variable {H : Type} {enc : TypeId × Value → H} {P : Program} {w : World} {base : Nat} {spare : Nat → Bool} {held : Bool}

theorem open_intArr {r : Reach} {b0 n : Nat} {t e : TypeId} {q : IntKind} {v : Value} {d : DataW H} {p : List MemPlace} (hu : P.underlying t = some (.array n e)) (he : P.underlying e = some (.int q)) (hc : P.cellsOf e = 1) (hC : P.cellsOf t = n)
    (hv : Value.okWide P w r b0 t v) (h : DataW.Trod enc P w base spare held t v d p) :
    ∃ ls : List Int, ls.length = n ∧ v = .agg (ls.map (Value.int q)).toArray ∧ ∀ x ∈ ls, (Lit.int q x).wf = true := by
  simp only [Value.okWide, hu] at hv
  obtain ⟨cs, rfl, hsz, _⟩ := hv
  obtain ⟨fuel, hf⟩ := h
  obtain ⟨xs, m, _, _, hlen, hxs, hel⟩ := DataW.trod_array hu hf
  simp only [Value.cells] at hlen hel
  have hsz' : cs.size = n := hsz.trans hC
  have key : ∀ i (hi : i < cs.size), ∃ z, cs[i] = .int q z ∧ (Lit.int q z).wf = true := by
    intro i hi
    have h1 := hel i (by omega)
    rw [hc] at h1
    have h2 : (cs.toList.drop (i * 1)).take 1 = [cs[i]] := by
      rw [Nat.mul_one, List.drop_eq_getElem_cons (by simpa using hi)]
      simp
    rw [h2] at h1
    cases hx : xs[i]? with
    | none => rw [List.getElem?_eq_none_iff] at hx; omega
    | some y =>
      rw [hx] at h1
      obtain ⟨z, hz, _, hw⟩ := DataW.trod_int he h1
      exact ⟨z, by simpa using hz, hw⟩
  refine ⟨cs.toList.map fun | .int _ z => z | _ => 0, by simpa using hsz', ?_, ?_⟩
  · congr 1
    apply Array.ext
    · simp
    · intro i h1 h2
      obtain ⟨z, hz, _⟩ := key i h1
      simp [hz]
  · intro x hx
    simp only [List.mem_map] at hx
    obtain ⟨y, hy, rfl⟩ := hx
    obtain ⟨i, hi, rfl⟩ := List.getElem_of_mem hy
    obtain ⟨z, hz, hw⟩ := key i (by simpa using hi)
    simp only [Array.getElem_toList]
    rw [hz]
    exact hw

theorem open_int3 {r : Reach} {b0 : Nat} {t e : TypeId} {q : IntKind} {v : Value} {d : DataW H} {p : List MemPlace} (hu : P.underlying t = some (.array 3 e)) (he : P.underlying e = some (.int q)) (hc : P.cellsOf e = 1) (hC : P.cellsOf t = 3)
    (hv : Value.okWide P w r b0 t v) (h : DataW.Trod enc P w base spare held t v d p) :
    ∃ x y z : Int, v = .agg #[.int q x, .int q y, .int q z] ∧ (Lit.int q x).wf = true ∧ (Lit.int q y).wf = true ∧ (Lit.int q z).wf = true := by
  obtain ⟨ls, hl, rfl, hw⟩ := open_intArr hu he hc hC hv h
  match ls, hl with
  | [x, y, z], _ => exact ⟨x, y, z, rfl, hw x (by simp), hw y (by simp), hw z (by simp)⟩
end

end Go.Proofs.Ytbfpljnfalopdaa.L
