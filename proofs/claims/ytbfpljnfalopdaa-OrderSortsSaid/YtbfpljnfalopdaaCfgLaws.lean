/-
  Trimmed for this seat: CfgLaws.
-/
import Derived.Test.YtbfpljnfalopdaaCfgLeaves
set_option linter.unusedVariables false
set_option linter.unusedSimpArgs false
namespace Go.Proofs.Ytbfpljnfalopdaa.CfgW
open Go.RowKit Go.Proofs.Ytbfpljnfalopdaa.L

theorem CBox.all {w1 : World} {b : Nat} {v1 v2 : Value} {h a : Int} (x : CBox w1 b v1 v2 h a) : (∀ W, Onward w1 W → W.cell? ⟨b, 0, none⟩ = some v1) ∧ (∀ W, Onward w1 W → W.cell? ⟨b, 1, none⟩ = some v2) ∧ (∀ W, Onward w1 W → W.cell? ⟨b, 2, none⟩ = some (.int .i64 h)) ∧ (∀ W, Onward w1 W → W.cell? ⟨b, 3, none⟩ = some (.int .i64 a)) :=
  ⟨fun W hW => (x.on hW).2.1, fun W hW => (x.on hW).2.2.1, fun W hW => (x.on hW).2.2.2.1, fun W hW => (x.on hW).2.2.2.2⟩

end Go.Proofs.Ytbfpljnfalopdaa.CfgW
