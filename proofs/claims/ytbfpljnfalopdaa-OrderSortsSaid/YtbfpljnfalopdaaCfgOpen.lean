/-
  Configurations that are handed in, opened.
-/
import Derived.Test.YtbfpljnfalopdaaCfgLaws
set_option linter.unusedVariables false
set_option linter.unusedSimpArgs false
namespace Go.Proofs.Ytbfpljnfalopdaa.CfgW
open Go.RowKit Go.WideShapes Go.Proofs.Ytbfpljnfalopdaa.L

section
variable {H : Type} {enc : TypeId × Value → H} {w : World} {base : Nat} {spare : Nat → Bool} {held : Bool}
theorem c_int : Try.prog.cellsOf 3 = 1 := by kernel_rfl
theorem c_vec : Try.prog.cellsOf 29 = 3 := by kernel_rfl
set_option maxRecDepth 100000 in
theorem int_el {n : Nat} {cs : List Value} {y : DataW H × List MemPlace} (h : DataW.trod enc Try.prog w base spare held n 3 cs = some y) : ∃ x : Int, cs = [.int .i64 x] ∧ (Lit.int .i64 x).wf = true := by
  obtain ⟨z, e, _, hw⟩ := DataW.trod_int Try.underlying3 h
  exact ⟨z, e, hw⟩
set_option maxRecDepth 100000 in
theorem vec_el {n : Nat} {cs : List Value} {y : DataW H × List MemPlace} (h : DataW.trod enc Try.prog w base spare held n 29 cs = some y) : ∃ v : Vec.V, cs = [.int .i64 v.x, .int .i64 v.y, .int .i64 v.z] ∧ (Lit.int .i64 v.x).wf = true ∧ (Lit.int .i64 v.y).wf = true ∧ (Lit.int .i64 v.z).wf = true := by
  have hu : Try.prog.underlying 29 = some (.array 3 3) := by kernel_rfl
  obtain ⟨xs, m, _, _, hlen, hxl, hel⟩ := DataW.trod_array hu h
  rw [c_vec] at hlen
  match cs, hlen with
  | [a, b, c], _ =>
    match xs, hxl with
    | [x0, x1, x2], _ =>
      have g0 := hel 0 (by omega)
      have g1 := hel 1 (by omega)
      have g2 := hel 2 (by omega)
      simp [c_int] at g0 g1 g2
      obtain ⟨z0, e0, w0⟩ := int_el g0
      obtain ⟨z1, e1, w1⟩ := int_el g1
      obtain ⟨z2, e2, w2⟩ := int_el g2
      cases e0; cases e1; cases e2
      exact ⟨⟨z0, z1, z2⟩, rfl, w0, w1, w2⟩
set_option maxRecDepth 100000 in
theorem node_el : ∀ n cs y, DataW.trod enc Try.prog w base spare held n 42 cs = some y → ∃ x : Cfg.Node, cs = ndec x ∧ True := by
  intro n cs y h
  obtain ⟨xs, m, _, rfl, hlen, hxl, hf⟩ := DataW.trod_struct Try.underlying42 h
  have h3 : Try.prog.cellsOf 42 = 11 := by kernel_rfl
  rw [h3] at hlen
  match cs, hlen with
  | [a0, a1, a2, a3, a4, a5, a6, a7, a8, a9, a10], _ =>
    match xs, hxl with
    | [x0, x1, x2, x3, x4], _ =>
      have g0 := hf 0 _ rfl
      have g1 := hf 1 _ rfl
      have g2 := hf 2 _ rfl
      have g3 := hf 3 _ rfl
      have g4 := hf 4 _ rfl
      simp [c_int, c_vec] at g0 g1 g2 g3 g4
      obtain ⟨z0, e0, _⟩ := int_el g0
      obtain ⟨z1, e1, _⟩ := int_el g1
      obtain ⟨v2, e2, _⟩ := vec_el g2
      obtain ⟨v3, e3, _⟩ := vec_el g3
      obtain ⟨v4, e4, _⟩ := vec_el g4
      cases e0; cases e1; cases e2; cases e3; cases e4
      exact ⟨⟨z0, z1, v2, v3, v4⟩, rfl, trivial⟩
set_option maxRecDepth 100000 in
theorem host_el : ∀ n cs y, DataW.trod enc Try.prog w base spare held n 80 cs = some y → ∃ x : Cfg.Host, cs = hdec x ∧ True := by
  intro n cs y h
  obtain ⟨xs, m, _, rfl, hlen, hxl, hf⟩ := DataW.trod_struct Try.underlying80 h
  have h3 : Try.prog.cellsOf 80 = 6 := by kernel_rfl
  rw [h3] at hlen
  match cs, hlen with
  | [a0, a1, a2, a3, a4, a5], _ =>
    match xs, hxl with
    | [x0, x1, x2, x3], _ =>
      have g0 := hf 0 _ rfl
      have g1 := hf 1 _ rfl
      have g2 := hf 2 _ rfl
      have g3 := hf 3 _ rfl
      simp [c_int, c_vec] at g0 g1 g2 g3
      obtain ⟨z0, e0, _⟩ := int_el g0
      obtain ⟨z1, e1, _⟩ := int_el g1
      obtain ⟨z2, e2, _⟩ := int_el g2
      obtain ⟨v3, e3, _⟩ := vec_el g3
      cases e0; cases e1; cases e2; cases e3
      exact ⟨⟨z0, z1, z2, v3⟩, rfl, trivial⟩
set_option maxRecDepth 100000 in
theorem cfg_el {n : Nat} {cs : List Value} {y : DataW H × List MemPlace} (h : DataW.trod enc Try.prog w base spare held n 25 cs = some y) : ∃ c : Cfg.C, ∃ v1 v2, cs = [v1, v2, .int .i64 c.half, .int .i64 c.age] ∧ Nodes w v1 c.nodes ∧ Hosts w v2 c.hosts ∧ (Lit.int .i64 c.half).wf = true ∧ (Lit.int .i64 c.age).wf = true := by
  obtain ⟨xs, m, _, rfl, hlen, hxl, hf⟩ := DataW.trod_struct Try.underlying25 h
  have h3 : Try.prog.cellsOf 25 = 4 := by kernel_rfl
  have c1 : Try.prog.cellsOf 22 = 1 := by kernel_rfl
  have c2 : Try.prog.cellsOf 23 = 1 := by kernel_rfl
  rw [h3] at hlen
  match cs, hlen with
  | [a0, a1, a2, a3], _ =>
    match xs, hxl with
    | [x0, x1, x2, x3], _ =>
      have g0 := hf 0 _ rfl
      have g1 := hf 1 _ rfl
      have g2 := hf 2 _ rfl
      have g3 := hf 3 _ rfl
      simp [c_int, c1, c2] at g0 g1 g2 g3
      obtain ⟨A, ca, ns, e0, l1, l2, hr1, _⟩ := open_row (sz := 11) ndec (fun _ _ => True) Try.underlying22 (by kernel_rfl) (by decide) node_el g0
      obtain ⟨B, cb, hs, e1, l3, l4, hr2, _⟩ := open_row (sz := 6) hdec (fun _ _ => True) Try.underlying23 (by kernel_rfl) (by decide) host_el g1
      obtain ⟨z2, e2, w2⟩ := int_el g2
      obtain ⟨z3, e3, w3⟩ := int_el g3
      cases e0; cases e1; cases e2; cases e3
      exact ⟨⟨ns, hs, z2, z3⟩, _, _, rfl, ⟨A, ca, rfl, hr1, Nat.le_trans l1 l2⟩, ⟨B, cb, rfl, hr2, Nat.le_trans l3 l4⟩, w2, w3⟩
theorem open_cfg {fuel : Nat} {cs : Array Value} {y : DataW H × List MemPlace} (h : DataW.trod enc Try.prog w base spare held fuel 25 cs.toList = some y) : ∃ c : Cfg.C, CfgAt w (.agg cs) c ∧ (Lit.int .i64 c.half).wf = true ∧ (Lit.int .i64 c.age).wf = true := by
  obtain ⟨c, v1, v2, e, h1, h2, w1, w2⟩ := cfg_el h
  obtain rfl : cs = #[v1, v2, .int .i64 c.half, .int .i64 c.age] := Array.toList_inj.1 (by rw [e])
  exact ⟨c, ⟨_, _, rfl, h1, h2⟩, w1, w2⟩
end
end Go.Proofs.Ytbfpljnfalopdaa.CfgW
