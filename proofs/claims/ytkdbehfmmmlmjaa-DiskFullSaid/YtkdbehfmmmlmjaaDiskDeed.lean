/-
  Deeds: what they are in memory; how a row of them is opened; whether they are few.
-/
import Derived.Test.YtkdbehfmmmlmjaaDiskLaws
import Derived.Test.YtkdbehfmmmlmjaaOpen
set_option linter.unusedVariables false
set_option linter.unusedSimpArgs false
namespace Go.Proofs.Ytkdbehfmmmlmjaa.DiskW
open Go.RowKit Go.WideShapes Go.Proofs.Ytkdbehfmmmlmjaa.L

structure Deed where
  kind : Int
  n : Int
  s : ByteArray
def Deed.dec (x : Deed) : List Value := [.int .i64 x.kind, .int .i64 x.n, .string x.s]
def Deed.Fine {H : Type} (x : Deed) (d : DataW H) : Prop := x.s.size ≤ maxLen ∧ d = .agg [.lit (.int .i64 x.kind), .lit (.int .i64 x.n), .lit (.string x.s.data.toList)]
instance : Inhabited Deed := ⟨⟨0, 0, ByteArray.empty⟩⟩

section
variable {H : Type} {enc : TypeId × Value → H} {w : World} {base : Nat} {spare : Nat → Bool} {held : Bool}
theorem deed_el : ∀ n cs y, DataW.trod enc Try.prog w base spare held n 29 cs = some y → ∃ x : Deed, cs = x.dec ∧ x.Fine y.1 := by
  intro n cs y h
  obtain ⟨xs, m, _, rfl, hlen, hxl, hf⟩ := DataW.trod_struct Try.underlying29 h
  have h3 : Try.prog.cellsOf 29 = 3 := by kernel_rfl
  have c1 : Try.prog.cellsOf 3 = 1 := by kernel_rfl
  have c2 : Try.prog.cellsOf 9 = 1 := by kernel_rfl
  rw [h3] at hlen
  match cs, hlen with
  | [a, b, c], _ =>
    match xs, hxl with
    | [x0, x1, x2], _ =>
      have g0 := hf 0 _ rfl
      have g1 := hf 1 _ rfl
      have g2 := hf 2 _ rfl
      simp [c1, c2] at g0 g1 g2
      obtain ⟨z0, e0, rfl, _⟩ := DataW.trod_int Try.underlying3 g0
      obtain ⟨z1, e1, rfl, _⟩ := DataW.trod_int Try.underlying3 g1
      obtain ⟨z2, e2, rfl, hz⟩ := DataW.trod_string Try.underlying9 g2
      cases e0; cases e1; cases e2
      exact ⟨⟨z0, z1, z2⟩, rfl, hz, rfl⟩
/-- A row of deeds, opened. -/
theorem open_deeds {fuel : Nat} {cs : List Value} {x : DataW H × List MemPlace} (h : DataW.trod enc Try.prog w base spare held fuel 22 cs = some x)
    (hz : ∀ n ∈ x.1.weights Try.prog 22, n ≤ reachBytes) :
    ∃ A cap, ∃ xs : List Deed, cs = [.slice A xs.length cap] ∧ xs.length ≤ maxLen ∧ RowOf w A 3 Deed.dec xs ∧ ∀ y ∈ xs, y.s.size ≤ 140737488351232 := by
  obtain ⟨A, cap, xs, rfl, h1, h2, h3, h4⟩ := open_row (sz := 3) Deed.dec Deed.Fine Try.underlying22 (by kernel_rfl) (by decide) deed_el h
  refine ⟨A, cap, xs, rfl, Nat.le_trans h1 h2, h3, fun y hy => ?_⟩
  rcases h4 with rfl | ⟨elems, sp, hx, _, hall⟩
  · cases hy
  · obtain ⟨d, hd, _, rfl⟩ := hall y hy
    have := hz y.s.data.toList.length (by
      rw [hx]
      refine weights_elem Try.underlying22 hd ?_
      unfold DataW.weights
      rw [Try.underlying29]
      simp [DataW.weightsEach, DataW.weights])
    simpa [reachBytes] using this
end
end Go.Proofs.Ytkdbehfmmmlmjaa.DiskW
