/-
  Trimmed for this seat: CfgRefSame.
-/
import Derived.Test.YtbfpljnfalopdaaCfgSame
set_option linter.unusedVariables false
set_option linter.unusedSimpArgs false
namespace Go.Proofs.Ytbfpljnfalopdaa.CfgW
open Go.RowKit Go.Proofs.Ytbfpljnfalopdaa.L

theorem sameC_false {a b : Cfg.C} (h : a.nodes ≠ b.nodes ∨ a.hosts ≠ b.hosts ∨ a.half ≠ b.half ∨ a.age ≠ b.age) : sameC a b = false := by
  unfold sameC
  rcases h with h | h | h | h
  · rw [sameNs_no h]; rfl
  · rw [sameHs_no h]; simp
  · rw [show (a.half == b.half) = false by simpa using h]; simp
  · rw [show (a.age == b.age) = false by simpa using h]; simp
theorem sameC_true {a b : Cfg.C} (h1 : a.nodes = b.nodes) (h2 : a.hosts = b.hosts) (h3 : a.half = b.half) (h4 : a.age = b.age) : sameC a b = true := by
  unfold sameC
  rw [h1, h2, h3, h4]
  simp [sameNs_self, sameHs_self]

end Go.Proofs.Ytbfpljnfalopdaa.CfgW
