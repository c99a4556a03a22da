/-
  Two amounts compared.
-/
import Derived.Test.YtplbdipgnhddkaaVecDom
import Derived.Test.YtplbdipgnhddkaaKeep
import Derived.Laws.StructEq
namespace Go.Proofs.Ytplbdipgnhddkaa.VecW
open Go.RowKit Go.Proofs.Ytplbdipgnhddkaa.L
theorem part0 (x y z : Int) (w : World) : (part 3 #[Value.int .i64 x, .int .i64 y, .int .i64 z] 0).run Try.prog w = .ok (.int .i64 x) w := by kernel_rfl
theorem part1 (x y z : Int) (w : World) : (part 3 #[Value.int .i64 x, .int .i64 y, .int .i64 z] 1).run Try.prog w = .ok (.int .i64 y) w := by kernel_rfl
theorem part2 (x y z : Int) (w : World) : (part 3 #[Value.int .i64 x, .int .i64 y, .int .i64 z] 2).run Try.prog w = .ok (.int .i64 z) w := by kernel_rfl
theorem sz (w : World) : (sizeOf 3).run Try.prog w = .ok 1 w := by kernel_rfl
theorem eqd (d : Nat) (x0 x1 x2 y0 y1 y2 : Int) (w : World) (hd : ∀ (a b : Int) (w : World), (Op.equalIn d 3 (.int .i64 a) (.int .i64 b)).run Try.prog w = .ok (a == b) w) :
    (Op.equalIn (d + 1) 23 (.agg #[.int .i64 x0, .int .i64 x1, .int .i64 x2]) (.agg #[.int .i64 y0, .int .i64 y1, .int .i64 y2])).run Try.prog w = .ok (x0 == y0 && (x1 == y1 && x2 == y2)) w := by
  have hu : Try.prog.underlying 23 = some (.array 3 3) := by kernel_rfl
  by_cases h0 : x0 = y0 <;> by_cases h1 : x1 = y1 <;> by_cases h2 : x2 = y2 <;>
    simp [Op.equalIn, Sem.run_bind, run_underlying hu, Result.andThen_ok, List.range', List.forIn_cons, part0, part1, part2, hd, h0, h1, h2, Sem.run_pure, Sem.run_ite]
@[go_sem] theorem eqv (x0 x1 x2 y0 y1 y2 : Int) (w : World) : (Op.equalIn 10000 23 (.agg #[.int .i64 x0, .int .i64 x1, .int .i64 x2]) (.agg #[.int .i64 y0, .int .i64 y1, .int .i64 y2])).run Try.prog w = .ok (x0 == y0 && (x1 == y1 && x2 == y2)) w :=
  eqd 9999 x0 x1 x2 y0 y1 y2 w (fun a b w => run_equalIn_int w 9998 3 .i64 .i64 a b (by kernel_rfl))
end Go.Proofs.Ytplbdipgnhddkaa.VecW
