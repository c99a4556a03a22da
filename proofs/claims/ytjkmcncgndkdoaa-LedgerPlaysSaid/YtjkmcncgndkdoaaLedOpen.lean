/-
  Deeds that are handed in, opened.
-/
import Derived.Test.YtjkmcncgndkdoaaCfgOpen
import Derived.Test.YtjkmcncgndkdoaaLedAwake
set_option linter.unusedVariables false
set_option linter.unusedSimpArgs false
namespace Go.Proofs.Ytjkmcncgndkdoaa.CfgW
open Go Go.RowKit Go.WideShapes Go.Proofs.Ytjkmcncgndkdoaa.L

def ddec (d : Led.Deed) : List Value := [.bool d.give, .int .i64 d.t, .int .i64 d.v.x, .int .i64 d.v.y, .int .i64 d.v.z]
/-- A slice of deeds. -/
def Deeds (w : World) (v : Value) (ds : List Led.Deed) : Prop := ∃ A cap, v = .slice A ds.length cap ∧ RowOf w A 5 ddec ds ∧ ds.length ≤ maxLen
section
variable {H : Type} {enc : TypeId × Value → H} {w : World} {base : Nat} {spare : Nat → Bool} {held : Bool}
set_option maxRecDepth 100000 in
theorem deed_el : ∀ n cs y, DataW.trod enc Try.prog w base spare held n 45 cs = some y → ∃ x : Led.Deed, cs = ddec x ∧ True := by
  intro n cs y h
  obtain ⟨xs, m, _, rfl, hlen, hxl, hf⟩ := DataW.trod_struct Try.underlying45 h
  have h3 : Try.prog.cellsOf 45 = 5 := by kernel_rfl
  have h4 : Try.prog.cellsOf 4 = 1 := by kernel_rfl
  rw [h3] at hlen
  match cs, hlen with
  | [a0, a1, a2, a3, a4], _ =>
    match xs, hxl with
    | [x0, x1, x2], _ =>
      have g0 := hf 0 _ rfl
      have g1 := hf 1 _ rfl
      have g2 := hf 2 _ rfl
      simp [c_int, c_vec, h4] at g0 g1 g2
      obtain ⟨b, e0, _⟩ := DataW.trod_bool Try.underlying4 g0
      obtain ⟨z1, e1, _⟩ := int_el g1
      obtain ⟨v2, e2, _⟩ := vec_el g2
      cases e0; cases e1; cases e2
      exact ⟨⟨b, z1, v2⟩, rfl, trivial⟩
theorem open_deed {fuel : Nat} {cs : Array Value} {y : DataW H × List MemPlace} (h : DataW.trod enc Try.prog w base spare held fuel 45 cs.toList = some y) : ∃ d : Led.Deed, cs = #[.bool d.give, .int .i64 d.t, .int .i64 d.v.x, .int .i64 d.v.y, .int .i64 d.v.z] := by
  obtain ⟨d, e, _⟩ := deed_el _ _ _ h
  exact ⟨d, Array.toList_inj.1 (by rw [e]; rfl)⟩
theorem deeds_el {n : Nat} {cs : List Value} {y : DataW H × List MemPlace} (h : DataW.trod enc Try.prog w base spare held n 39 cs = some y) : ∃ v l, cs = [v] ∧ Deeds w v l := by
  obtain ⟨A, ca, ns, e0, l1, l2, hr1, _⟩ := open_row (sz := 5) ddec (fun _ _ => True) Try.underlying39 (by kernel_rfl) (by decide) deed_el h
  exact ⟨_, ns, e0, A, ca, rfl, hr1, Nat.le_trans l1 l2⟩
end
end Go.Proofs.Ytjkmcncgndkdoaa.CfgW
