/-
  Three waiting gangs handed in by value, opened.
-/
import Derived.Test.YtbfpljnfalopdaaOrdOpen
import Derived.Test.YtbfpljnfalopdaaOrdLawT
set_option linter.unusedVariables false
set_option linter.unusedSimpArgs false
namespace Go.Proofs.Ytbfpljnfalopdaa.OrdW
open Go Go.RowKit Go.WideShapes Go.Proofs.Ytbfpljnfalopdaa.L

theorem okWide_array {P : Program} {w : World} {r : Reach} {b0 : Nat} {t e : TypeId} {n : Nat} {v : Value} (hu : P.underlying t = some (.array n e)) (hv : Value.okWide P w r b0 t v) : ∃ cs, v = .agg cs ∧ cs.size = P.cellsOf t := by
  simp only [Value.okWide, hu] at hv
  obtain ⟨cs, h1, h2, _⟩ := hv
  exact ⟨cs, h1, h2⟩
section
variable {H : Type} {P : Program} {enc : TypeId × Value → H} {w : World} {base : Nat} {spare : Nat → Bool} {held : Bool}
/-- An array by value: its stretches of cells read as elements. -/
theorem open_arrk {r : Reach} {b0 : Nat} {t e : TypeId} {n k : Nat} {v : Value} {d : DataW H} {p : List MemPlace} (hu : P.underlying t = some (.array n e)) (hc : P.cellsOf e = k) (hC : P.cellsOf t = n * k)
    (hv : Value.okWide P w r b0 t v) (h : DataW.Trod enc P w base spare held t v d p) :
    ∃ cs, v = .agg cs ∧ cs.size = n * k ∧ ∀ i, i < n → ∃ m y, DataW.trod enc P w base spare held m e ((cs.toList.drop (i * k)).take k) = some y := by
  obtain ⟨cs, rfl, hsz⟩ := okWide_array hu hv
  obtain ⟨fuel, hf⟩ := h
  obtain ⟨xs, m, _, _, hlen, hxs, hel⟩ := DataW.trod_array hu hf
  simp only [Value.cells] at hlen hel
  refine ⟨cs, rfl, hsz.trans hC, fun i hi => ?_⟩
  have h1 := hel i hi
  rw [hc] at h1
  cases hx : xs[i]? with
  | none => rw [List.getElem?_eq_none_iff] at hx; omega
  | some y =>
    rw [hx] at h1
    exact ⟨_, _, h1⟩
end
theorem cut_three {α : Type} (cs : List α) (h : cs.length = 33) : cs = cs.take 11 ++ ((cs.drop 11).take 11 ++ (cs.drop 22).take 11) := by
  have l1 : cs = cs.take 11 ++ cs.drop 11 := (List.take_append_drop ..).symm
  have l2 : cs.drop 11 = (cs.drop 11).take 11 ++ (cs.drop 11).drop 11 := (List.take_append_drop ..).symm
  have l3 : (cs.drop 11).drop 11 = (cs.drop 22).take 11 := by
    rw [List.drop_drop, List.take_of_length_le]
    rw [List.length_drop, h]
    decide
  rw [l3] at l2
  rw [← l2]
  exact l1
theorem prow3_list (x y z : Ord.P) : (prow3 x y z).toList = (prow x).toList ++ ((prow y).toList ++ (prow z).toList) := by simp [prow3]
theorem three_of (cs : List Value) (hsz : cs.length = 33) (x y z : Ord.P) (ex : cs.take 11 = (prow x).toList) (ey : (cs.drop 11).take 11 = (prow y).toList) (ez : (cs.drop 22).take 11 = (prow z).toList) :
    cs = (prow3 x y z).toList := by
  rw [prow3_list, ← ex, ← ey, ← ez]
  exact cut_three cs hsz
section
variable {H : Type} {enc : TypeId × Value → H} {w : World} {base : Nat} {spare : Nat → Bool} {held : Bool}
set_option maxRecDepth 100000 in
theorem c_pend3 : Try.prog.cellsOf 57 = 11 ∧ Try.prog.cellsOf 65 = 3 * 11 := ⟨by kernel_rfl, by kernel_rfl⟩
set_option maxRecDepth 100000 in
theorem open_pend3 {r : Reach} {b0 : Nat} {v : Value} {d : DataW H} {p : List MemPlace} (hv : Value.okWide Try.prog w r b0 65 v) (h : DataW.Trod enc Try.prog w base spare held 65 v d p) :
    ∃ x y z : Ord.P, v = .agg (prow3 x y z) ∧ POk x ∧ POk y ∧ POk z := by
  obtain ⟨cs, rfl, hsz, key⟩ := open_arrk Try.underlying65 c_pend3.1 c_pend3.2 hv h
  obtain ⟨m0, y0, k0⟩ := key 0 (by decide)
  obtain ⟨m1, y1, k1⟩ := key 1 (by decide)
  obtain ⟨m2, y2, k2⟩ := key 2 (by decide)
  obtain ⟨x, ex, hx⟩ := pend_el _ _ _ k0
  obtain ⟨y, ey, hy⟩ := pend_el _ _ _ k1
  obtain ⟨z, ez, hz⟩ := pend_el _ _ _ k2
  exact ⟨x, y, z, congrArg Value.agg (Array.toList_inj.1 (three_of cs.toList hsz x y z ((congrArg (List.take 11) (by rw [Nat.zero_mul, List.drop_zero])).trans ex) ey ez)), hx, hy, hz⟩
end
end Go.Proofs.Ytbfpljnfalopdaa.OrdW
