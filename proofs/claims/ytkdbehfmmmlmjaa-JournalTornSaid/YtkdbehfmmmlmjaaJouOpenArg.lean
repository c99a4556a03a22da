/-
  Rows of texts that are handed in, opened.
-/
import Derived.Test.YtkdbehfmmmlmjaaJouPlaysB
set_option linter.unusedVariables false
set_option linter.unusedSimpArgs false
namespace Go.Proofs.Ytkdbehfmmmlmjaa.JouW
open Go.RowKit Go.WideShapes Go.Proofs.Ytkdbehfmmmlmjaa.L

def Text.Fine {H : Type} (x : List UInt8) (d : DataW H) : Prop := d = .lit (.string x)
section
variable {H : Type} {enc : TypeId × Value → H} {w : World} {base : Nat} {spare : Nat → Bool} {held : Bool}
theorem text_el : ∀ n cs y, DataW.trod enc Try.prog w base spare held n 9 cs = some y → ∃ x : List UInt8, cs = sdec x ∧ Text.Fine x y.1 := by
  intro n cs y h
  obtain ⟨z, rfl, rfl, hz⟩ := DataW.trod_string Try.underlying9 h
  exact ⟨z.data.toList, rfl, rfl⟩
theorem open_texts {fuel : Nat} {cs : List Value} {x : DataW H × List MemPlace} (h : DataW.trod enc Try.prog w base spare held fuel 42 cs = some x)
    (hz : ∀ n ∈ x.1.weights Try.prog 42, n ≤ reachBytes) :
    ∃ A cap, ∃ xs : List (List UInt8), cs = [.slice A xs.length cap] ∧ xs.length ≤ maxLen ∧ RowOf w A 1 sdec xs ∧ ∀ y ∈ xs, y.length ≤ 140737488351232 := by
  obtain ⟨A, cap, xs, rfl, h1, h2, h3, h4⟩ := open_row (sz := 1) sdec Text.Fine Try.underlying42 (by kernel_rfl) (by decide) text_el h
  refine ⟨A, cap, xs, rfl, Nat.le_trans h1 h2, h3, fun y hy => ?_⟩
  rcases h4 with rfl | ⟨elems, sp, hx, _, hall⟩
  · cases hy
  · obtain ⟨d, hd, rfl⟩ := hall y hy
    have := hz y.length (by
      rw [hx]
      refine weights_elem Try.underlying42 hd ?_
      unfold DataW.weights
      simp)
    simpa [reachBytes] using this
end
end Go.Proofs.Ytkdbehfmmmlmjaa.JouW
