/-
  A journal's block; how many records it has.
-/
import Derived.Test.YtkdbehfmmmlmjaaJouFew
set_option linter.unusedVariables false
set_option linter.unusedSimpArgs false
namespace Go.Proofs.Ytkdbehfmmmlmjaa.JouW
open Go.RowKit Go.Proofs.Ytkdbehfmmmlmjaa.L Go.Proofs.Ytkdbehfmmmlmjaa.CrcW

/-- In block j lies a journal on the disk of block g, with n records. -/
def JBlk (w : World) (j g n : Nat) : Prop := Blk w j 72 #[.pointer (some ⟨g, 0, none⟩), .int .i64 (n : Int)]

theorem records_any {w : World} {j g n : Nat} (h : JBlk w j g n) : Calls Try.prog 30 #[.pointer (some ⟨j, 0, none⟩)] w fun e w' => e = .returned (.int .i64 (n : Int)) ∧ w' = w := by
  have c1 : w.cell? ⟨j, 1, none⟩ = some (.int .i64 (n : Int)) := Blk.cell h 1
  go_enter Try.func30, Try.ntmps30
  go_wp2
  go_ret
  exact ⟨rfl, rfl⟩
theorem records_nil (w : World) : Calls Try.prog 30 #[.pointer none] w fun e w' => e = .returned (.int .i64 0) ∧ w' = w := by
  go_enter Try.func30, Try.ntmps30
  go_wp2
  go_ret
  exact ⟨rfl, rfl⟩
end Go.Proofs.Ytkdbehfmmmlmjaa.JouW
