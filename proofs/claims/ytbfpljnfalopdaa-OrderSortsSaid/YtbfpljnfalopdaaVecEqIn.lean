/-
  Amounts inside of structs, held against each other.
-/
import Derived.Test.YtbfpljnfalopdaaOrdWalk
import Derived.Laws.StructEq
import Derived.ChangeKeysEq
set_option linter.unusedVariables false
set_option linter.unusedSimpArgs false
namespace Go.Proofs.Ytbfpljnfalopdaa.L
open Go Go.RowKit

theorem intinfo : (Try.prog.info? 3).isSome = true := by kernel_rfl
theorem cells_int : Try.prog.cellsOf 3 = 1 := by kernel_rfl
theorem eqIn_vec (d : Nat) (a b c x y z : Int) (w : World) : (Op.equalIn (d + 1 + 1) 29 (.agg #[.int .i64 a, .int .i64 b, .int .i64 c]) (.agg #[.int .i64 x, .int .i64 y, .int .i64 z])).run Try.prog w = .ok ((a == x) && ((b == y) && (c == z))) w := by
  obtain ⟨i, hi⟩ := Option.isSome_iff_exists.1 intinfo
  rw [run_equalIn_array w (d + 1) #[.int .i64 a, .int .i64 b, .int .i64 c] #[.int .i64 x, .int .i64 y, .int .i64 z] Try.underlying29 hi]
  have hu := Try.underlying3
  have e := fun (a b : Int) => run_equalIn_int (P := Try.prog) w d 3 .i64 .i64 a b hu
  rw [cells_int]
  show (Op.eqItems (d + 1) 3 1 _ _ [0, 1, 2]).run Try.prog w = _
  unfold Op.eqItems Op.eqItems Op.eqItems Op.eqItems
  go_simp
  by_cases h1 : a = x <;> by_cases h2 : b = y <;> by_cases h3 : c = z <;> simp [h1, h2, h3, go_sem]
end Go.Proofs.Ytbfpljnfalopdaa.L
