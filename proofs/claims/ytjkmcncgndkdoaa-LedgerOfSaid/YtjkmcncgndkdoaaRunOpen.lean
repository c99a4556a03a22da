/-
  Gangs that run, hosts and amounts that are handed in, opened.
-/
import Derived.Test.YtjkmcncgndkdoaaCfgOpen
import Derived.Test.YtjkmcncgndkdoaaRuns
set_option linter.unusedVariables false
set_option linter.unusedSimpArgs false
namespace Go.Proofs.Ytjkmcncgndkdoaa.CfgW
open Go.RowKit Go.WideShapes Go.Proofs.Ytjkmcncgndkdoaa.L

section
variable {H : Type} {enc : TypeId × Value → H} {w : World} {base : Nat} {spare : Nat → Bool} {held : Bool}
theorem isl_el {n : Nat} {cs : List Value} {y : DataW H × List MemPlace} (h : DataW.trod enc Try.prog w base spare held n 37 cs = some y) : ∃ v l, cs = [v] ∧ ISl w v l := by
  obtain ⟨A, ca, ns, e0, l1, l2, hr1, _⟩ := open_row (sz := 1) idec (fun _ _ => True) Try.underlying37 (by kernel_rfl) (by decide) (fun n cs y h => by
    obtain ⟨x, hx, _⟩ := int_el h
    exact ⟨x, hx, trivial⟩) h
  exact ⟨_, ns, e0, A, ca, rfl, hr1, Nat.le_trans l1 l2⟩
theorem vsl_el {n : Nat} {cs : List Value} {y : DataW H × List MemPlace} (h : DataW.trod enc Try.prog w base spare held n 49 cs = some y) : ∃ v l, cs = [v] ∧ VSl w v l := by
  obtain ⟨A, ca, ns, e0, l1, l2, hr1, _⟩ := open_row (sz := 3) vdec (fun _ _ => True) Try.underlying49 (by kernel_rfl) (by decide) (fun n cs y h => by
    obtain ⟨x, hx, _⟩ := vec_el h
    exact ⟨x, hx, trivial⟩) h
  exact ⟨_, ns, e0, A, ca, rfl, hr1, Nat.le_trans l1 l2⟩
set_option maxRecDepth 100000 in
theorem gang_el {n : Nat} {cs : List Value} {y : DataW H × List MemPlace} (h : DataW.trod enc Try.prog w base spare held n 87 cs = some y) : ∃ (a b c : Int) (v : Vec.V) (d e f : Int), cs = [.int .i64 a, .int .i64 b, .int .i64 c, .int .i64 v.x, .int .i64 v.y, .int .i64 v.z, .int .i64 d, .int .i64 e, .int .i64 f] := by
  obtain ⟨xs, m, _, rfl, hlen, hxl, hf⟩ := DataW.trod_struct Try.underlying87 h
  have h3 : Try.prog.cellsOf 87 = 9 := by kernel_rfl
  rw [h3] at hlen
  match cs, hlen with
  | [a0, a1, a2, a3, a4, a5, a6, a7, a8], _ =>
    match xs, hxl with
    | [x0, x1, x2, x3, x4, x5, x6], _ =>
      have g0 := hf 0 _ rfl
      have g1 := hf 1 _ rfl
      have g2 := hf 2 _ rfl
      have g3 := hf 3 _ rfl
      have g4 := hf 4 _ rfl
      have g5 := hf 5 _ rfl
      have g6 := hf 6 _ rfl
      simp [c_int, c_vec] at g0 g1 g2 g3 g4 g5 g6
      obtain ⟨z0, e0, _⟩ := int_el g0
      obtain ⟨z1, e1, _⟩ := int_el g1
      obtain ⟨z2, e2, _⟩ := int_el g2
      obtain ⟨v3, e3, _⟩ := vec_el g3
      obtain ⟨z4, e4, _⟩ := int_el g4
      obtain ⟨z5, e5, _⟩ := int_el g5
      obtain ⟨z6, e6, _⟩ := int_el g6
      cases e0; cases e1; cases e2; cases e3; cases e4; cases e5; cases e6
      exact ⟨_, _, _, v3, _, _, _, rfl⟩
set_option maxRecDepth 100000 in
theorem run_el : ∀ n cs y, DataW.trod enc Try.prog w base spare held n 89 cs = some y → ∃ x : Run, cs = rdec x ∧ ISl w x.hv x.hosts := by
  intro n cs y h
  obtain ⟨xs, m, _, rfl, hlen, hxl, hf⟩ := DataW.trod_struct Try.underlying89 h
  have h3 : Try.prog.cellsOf 89 = 14 := by kernel_rfl
  have h4 : Try.prog.cellsOf 87 = 9 := by kernel_rfl
  have h5 : Try.prog.cellsOf 37 = 1 := by kernel_rfl
  rw [h3] at hlen
  match cs, hlen with
  | [a0, a1, a2, a3, a4, a5, a6, a7, a8, a9, a10, a11, a12, a13], _ =>
    match xs, hxl with
    | [x0, x1, x2, x3, x4, x5], _ =>
      have g0 := hf 0 _ rfl
      have g1 := hf 1 _ rfl
      have g2 := hf 2 _ rfl
      have g3 := hf 3 _ rfl
      have g4 := hf 4 _ rfl
      have g5 := hf 5 _ rfl
      simp [c_int, h4, h5] at g0 g1 g2 g3 g4 g5
      obtain ⟨a, b, c, v, d, e, f, e0⟩ := gang_el g0
      obtain ⟨z1, e1, _⟩ := int_el g1
      obtain ⟨z2, e2, _⟩ := int_el g2
      obtain ⟨z3, e3, _⟩ := int_el g3
      obtain ⟨z4, e4, _⟩ := int_el g4
      obtain ⟨hv, l, e5, hi⟩ := isl_el g5
      cases e0; cases e1; cases e2; cases e3; cases e4; cases e5
      exact ⟨⟨a, b, c, v, d, e, f, z1, z2, z3, z4, l, _⟩, rfl, hi⟩
theorem open_runs {n : Nat} {v : Value} {y : DataW H × List MemPlace} (h : DataW.trod enc Try.prog w base spare held n 61 [v] = some y) : ∃ rs, Runs w v rs := by
  obtain ⟨A, ca, rs, e0, l1, l2, hr1, hq⟩ := open_row (sz := 14) rdec (fun x _ => ISl w x.hv x.hosts) Try.underlying61 (by kernel_rfl) (by decide) run_el h
  simp only [List.cons.injEq, and_true] at e0
  refine ⟨rs, A, ca, e0, hr1, Nat.le_trans l1 l2, fun r hr => ?_⟩
  rcases hq with rfl | ⟨elems, sp, _, _, ha⟩
  · cases hr
  · obtain ⟨d, _, hd⟩ := ha r hr
    exact hd
end
end Go.Proofs.Ytjkmcncgndkdoaa.CfgW
