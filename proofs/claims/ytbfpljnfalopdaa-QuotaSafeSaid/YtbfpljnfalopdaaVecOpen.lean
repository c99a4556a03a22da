/-
  Rows of amounts that are handed in, opened.
-/
import Derived.Test.YtbfpljnfalopdaaCfgOpen
import Derived.Test.YtbfpljnfalopdaaVRow
set_option linter.unusedVariables false
set_option linter.unusedSimpArgs false
namespace Go.Proofs.Ytbfpljnfalopdaa.CfgW
open Go.RowKit Go.WideShapes Go.Proofs.Ytbfpljnfalopdaa.L
theorem list4 {l : List Int} (h : l.length = 4) : ∃ a b c d, l = [a, b, c, d] := by
  match l, h with
  | [a, b, c, d], _ => exact ⟨a, b, c, d, rfl⟩
theorem list5 {l : List Int} (h : l.length = 5) : ∃ a b c d e, l = [a, b, c, d, e] := by
  match l, h with
  | [a, b, c, d, e], _ => exact ⟨a, b, c, d, e, rfl⟩
section
variable {H : Type} {enc : TypeId × Value → H} {w : World} {base : Nat} {spare : Nat → Bool} {held : Bool}
set_option maxRecDepth 100000 in
theorem open_vecs {fuel : Nat} {cs : List Value} {y : DataW H × List MemPlace} (h : DataW.trod enc Try.prog w base spare held fuel 26 cs = some y) : ∃ v xs, cs = [v] ∧ VSl w v xs := by
  obtain ⟨A, ca, xs, e0, l1, l2, hr1, _⟩ := open_row (sz := 3) vdec (fun _ _ => True) Try.underlying26 (by kernel_rfl) (by decide) (fun n cs y h => by
    obtain ⟨v, e, _⟩ := vec_el h
    exact ⟨v, e, trivial⟩) h
  exact ⟨_, xs, e0, A, ca, rfl, hr1, Nat.le_trans l1 l2⟩
end
end Go.Proofs.Ytbfpljnfalopdaa.CfgW
