/-
  Amounts, nodes and hosts compared.
-/
import Derived.Test.YtbfpljnfalopdaaCfgLeaf
import Derived.Laws.StructEq
set_option linter.unusedVariables false
set_option linter.unusedSimpArgs false
namespace Go.Proofs.Ytbfpljnfalopdaa.CfgW
open Go.RowKit Go.Proofs.Ytbfpljnfalopdaa.L

theorem part0 (x y z : Int) (w : World) : (part 3 #[Value.int .i64 x, .int .i64 y, .int .i64 z] 0).run Try.prog w = .ok (.int .i64 x) w := by kernel_rfl
theorem part1 (x y z : Int) (w : World) : (part 3 #[Value.int .i64 x, .int .i64 y, .int .i64 z] 1).run Try.prog w = .ok (.int .i64 y) w := by kernel_rfl
theorem part2 (x y z : Int) (w : World) : (part 3 #[Value.int .i64 x, .int .i64 y, .int .i64 z] 2).run Try.prog w = .ok (.int .i64 z) w := by kernel_rfl
theorem eqd (d : Nat) (x0 x1 x2 y0 y1 y2 : Int) (w : World) (hd : ∀ (a b : Int) (w : World), (Op.equalIn d 3 (.int .i64 a) (.int .i64 b)).run Try.prog w = .ok (a == b) w) :
    (Op.equalIn (d + 1) 29 (.agg #[.int .i64 x0, .int .i64 x1, .int .i64 x2]) (.agg #[.int .i64 y0, .int .i64 y1, .int .i64 y2])).run Try.prog w = .ok (Cfg.sameV ⟨x0, x1, x2⟩ ⟨y0, y1, y2⟩) w := by
  have hu : Try.prog.underlying 29 = some (.array 3 3) := by kernel_rfl
  by_cases h0 : x0 = y0 <;> by_cases h1 : x1 = y1 <;> by_cases h2 : x2 = y2 <;>
    simp [Cfg.sameV, Op.equalIn, Sem.run_bind, run_underlying hu, Result.andThen_ok, List.range', List.forIn_cons, part0, part1, part2, hd, h0, h1, h2, Sem.run_pure, Sem.run_ite]
theorem eqint (d : Nat) (a b : Int) (w : World) : (Op.equalIn (d + 1) 3 (.int .i64 a) (.int .i64 b)).run Try.prog w = .ok (a == b) w := run_equalIn_int w d 3 .i64 .i64 a b (by kernel_rfl)
theorem eqvec (d : Nat) (x0 x1 x2 y0 y1 y2 : Int) (w : World) : (Op.equalIn (d + 1 + 1) 29 (.agg #[.int .i64 x0, .int .i64 x1, .int .i64 x2]) (.agg #[.int .i64 y0, .int .i64 y1, .int .i64 y2])).run Try.prog w = .ok (Cfg.sameV ⟨x0, x1, x2⟩ ⟨y0, y1, y2⟩) w :=
  eqd (d + 1) x0 x1 x2 y0 y1 y2 w (fun a b w => eqint d a b w)
@[go_sem high] theorem eqv (x0 x1 x2 y0 y1 y2 : Int) (w : World) : (Op.equalIn 10000 29 (.agg #[.int .i64 x0, .int .i64 x1, .int .i64 x2]) (.agg #[.int .i64 y0, .int .i64 y1, .int .i64 y2])).run Try.prog w = .ok (Cfg.sameV ⟨x0, x1, x2⟩ ⟨y0, y1, y2⟩) w := eqvec 9998 x0 x1 x2 y0 y1 y2 w

section
variable (a0 a1 a2 a3 a4 a5 a6 a7 a8 a9 a10 b0 b1 b2 b3 b4 b5 b6 b7 b8 b9 b10 : Int) (w : World)
theorem npart0 : (part 3 #[Value.int .i64 a0, .int .i64 a1, .int .i64 a2, .int .i64 a3, .int .i64 a4, .int .i64 a5, .int .i64 a6, .int .i64 a7, .int .i64 a8, .int .i64 a9, .int .i64 a10] 0).run Try.prog w = .ok (.int .i64 a0) w := by kernel_rfl
theorem npart1 : (part 3 #[Value.int .i64 a0, .int .i64 a1, .int .i64 a2, .int .i64 a3, .int .i64 a4, .int .i64 a5, .int .i64 a6, .int .i64 a7, .int .i64 a8, .int .i64 a9, .int .i64 a10] 1).run Try.prog w = .ok (.int .i64 a1) w := by kernel_rfl
theorem npart2 : (part 29 #[Value.int .i64 a0, .int .i64 a1, .int .i64 a2, .int .i64 a3, .int .i64 a4, .int .i64 a5, .int .i64 a6, .int .i64 a7, .int .i64 a8, .int .i64 a9, .int .i64 a10] 2).run Try.prog w = .ok (.agg #[.int .i64 a2, .int .i64 a3, .int .i64 a4]) w := by kernel_rfl
theorem npart5 : (part 29 #[Value.int .i64 a0, .int .i64 a1, .int .i64 a2, .int .i64 a3, .int .i64 a4, .int .i64 a5, .int .i64 a6, .int .i64 a7, .int .i64 a8, .int .i64 a9, .int .i64 a10] 5).run Try.prog w = .ok (.agg #[.int .i64 a5, .int .i64 a6, .int .i64 a7]) w := by kernel_rfl
theorem npart8 : (part 29 #[Value.int .i64 a0, .int .i64 a1, .int .i64 a2, .int .i64 a3, .int .i64 a4, .int .i64 a5, .int .i64 a6, .int .i64 a7, .int .i64 a8, .int .i64 a9, .int .i64 a10] 8).run Try.prog w = .ok (.agg #[.int .i64 a8, .int .i64 a9, .int .i64 a10]) w := by kernel_rfl
theorem hpart2 : (part 3 #[Value.int .i64 a0, .int .i64 a1, .int .i64 a2, .int .i64 a3, .int .i64 a4, .int .i64 a5] 2).run Try.prog w = .ok (.int .i64 a2) w := by kernel_rfl
theorem hpart1 : (part 3 #[Value.int .i64 a0, .int .i64 a1, .int .i64 a2, .int .i64 a3, .int .i64 a4, .int .i64 a5] 1).run Try.prog w = .ok (.int .i64 a1) w := by kernel_rfl
theorem hpart0 : (part 3 #[Value.int .i64 a0, .int .i64 a1, .int .i64 a2, .int .i64 a3, .int .i64 a4, .int .i64 a5] 0).run Try.prog w = .ok (.int .i64 a0) w := by kernel_rfl
theorem hpart3 : (part 29 #[Value.int .i64 a0, .int .i64 a1, .int .i64 a2, .int .i64 a3, .int .i64 a4, .int .i64 a5] 3).run Try.prog w = .ok (.agg #[.int .i64 a3, .int .i64 a4, .int .i64 a5]) w := by kernel_rfl

@[go_sem high] theorem eqnode : (Op.equalIn 10000 42 (.agg #[.int .i64 a0, .int .i64 a1, .int .i64 a2, .int .i64 a3, .int .i64 a4, .int .i64 a5, .int .i64 a6, .int .i64 a7, .int .i64 a8, .int .i64 a9, .int .i64 a10]) (.agg #[.int .i64 b0, .int .i64 b1, .int .i64 b2, .int .i64 b3, .int .i64 b4, .int .i64 b5, .int .i64 b6, .int .i64 b7, .int .i64 b8, .int .i64 b9, .int .i64 b10])).run Try.prog w =
    .ok (Cfg.sameN ⟨a0, a1, ⟨a2, a3, a4⟩, ⟨a5, a6, a7⟩, ⟨a8, a9, a10⟩⟩ ⟨b0, b1, ⟨b2, b3, b4⟩, ⟨b5, b6, b7⟩, ⟨b8, b9, b10⟩⟩) w := by
  have hS : Try.prog.underlying 42 = some (.struct (Try.prog.fieldsOf 42)) := by kernel_rfl
  have hp : Try.prog.stoodInHeld 42 = false := by kernel_rfl
  rw [show (10000 : Nat) = 9999 + 1 from rfl, run_equalIn_agg w 9999 42 _ _ hS hp]
  simp only [Program.fieldsOf, Try.underlying42]
  have v1 := fun x0 x1 x2 y0 y1 y2 w => eqvec 9997 x0 x1 x2 y0 y1 y2 w
  have i1 := fun a b w => eqint 9998 a b w
  simp only [Op.eqFields, npart0, npart1, npart2, npart5, npart8, v1, i1, Sem.run_bind, Result.andThen_ok, Sem.run_pure, Sem.run_ite, Cfg.sameN]
  have n1 : ("Parent" : String) ≠ "_" := by decide
  have n2 : ("Weight" : String) ≠ "_" := by decide
  have n3 : ("Nominal" : String) ≠ "_" := by decide
  have n4 : ("Borrow" : String) ≠ "_" := by decide
  have n5 : ("Lend" : String) ≠ "_" := by decide
  simp only [n1, n2, n3, n4, n5, ne_eq, not_false_eq_true, if_true]
  generalize (a0 == b0) = t0
  generalize (a1 == b1) = t1
  generalize Cfg.sameV ⟨a2, a3, a4⟩ ⟨b2, b3, b4⟩ = t2
  generalize Cfg.sameV ⟨a5, a6, a7⟩ ⟨b5, b6, b7⟩ = t3
  generalize Cfg.sameV ⟨a8, a9, a10⟩ ⟨b8, b9, b10⟩ = t4
  cases t0 <;> cases t1 <;> cases t2 <;> cases t3 <;> cases t4 <;> rfl
@[go_sem high] theorem eqhost : (Op.equalIn 10000 80 (.agg #[.int .i64 a0, .int .i64 a1, .int .i64 a2, .int .i64 a3, .int .i64 a4, .int .i64 a5]) (.agg #[.int .i64 b0, .int .i64 b1, .int .i64 b2, .int .i64 b3, .int .i64 b4, .int .i64 b5])).run Try.prog w =
    .ok (Cfg.sameH ⟨a0, a1, a2, ⟨a3, a4, a5⟩⟩ ⟨b0, b1, b2, ⟨b3, b4, b5⟩⟩) w := by
  have hS : Try.prog.underlying 80 = some (.struct (Try.prog.fieldsOf 80)) := by kernel_rfl
  have hp : Try.prog.stoodInHeld 80 = false := by kernel_rfl
  rw [show (10000 : Nat) = 9999 + 1 from rfl, run_equalIn_agg w 9999 80 _ _ hS hp]
  simp only [Program.fieldsOf, Try.underlying80]
  have v1 := fun x0 x1 x2 y0 y1 y2 w => eqvec 9997 x0 x1 x2 y0 y1 y2 w
  have i1 := fun a b w => eqint 9998 a b w
  simp only [Op.eqFields, hpart0, hpart1, hpart2, hpart3, v1, i1, Sem.run_bind, Result.andThen_ok, Sem.run_pure, Sem.run_ite, Cfg.sameH]
  have n1 : ("Flavor" : String) ≠ "_" := by decide
  have n2 : ("Block" : String) ≠ "_" := by decide
  have n3 : ("Rack" : String) ≠ "_" := by decide
  have n4 : ("Cap" : String) ≠ "_" := by decide
  simp only [n1, n2, n3, n4, ne_eq, not_false_eq_true, if_true]
  generalize (a0 == b0) = t0
  generalize (a1 == b1) = t1
  generalize (a2 == b2) = t2
  generalize Cfg.sameV ⟨a3, a4, a5⟩ ⟨b3, b4, b5⟩ = t3
  cases t0 <;> cases t1 <;> cases t2 <;> cases t3 <;> rfl
end

@[go_sem] theorem gnode : Try.prog.eqGuardType Try.prog.depth 42 = false := by kernel_rfl
@[go_sem] theorem ghost : Try.prog.eqGuardType Try.prog.depth 80 = false := by kernel_rfl
@[go_sem] theorem gvec : Try.prog.eqGuardType Try.prog.depth 29 = false := by kernel_rfl
theorem sameN_self (x : Cfg.Node) : Cfg.sameN x x = true := (Cfg.sameN_iff x x).2 rfl
theorem sameN_ne {x y : Cfg.Node} (h : x ≠ y) : Cfg.sameN x y = false := by rw [Bool.eq_false_iff]; exact fun e => h ((Cfg.sameN_iff x y).1 e)
theorem sameH_self (x : Cfg.Host) : Cfg.sameH x x = true := (Cfg.sameH_iff x x).2 rfl
theorem sameH_ne {x y : Cfg.Host} (h : x ≠ y) : Cfg.sameH x y = false := by rw [Bool.eq_false_iff]; exact fun e => h ((Cfg.sameH_iff x y).1 e)
end Go.Proofs.Ytbfpljnfalopdaa.CfgW
