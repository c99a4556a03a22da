/-
  The contracts of package decay's functions and of its reference's.
-/
import Derived.Test.YtplbdipgnhddkaaFixLaws
import Derived.Test.YtplbdipgnhddkaaDecPlain
import Derived.Test.YtplbdipgnhddkaaLibB
set_option linter.unusedVariables false
set_option linter.unusedSimpArgs false
namespace Go.Proofs.Ytplbdipgnhddkaa.DecW
open Go.RowKit Go.Proofs.Ytplbdipgnhddkaa.L

/-- The table as a value. -/
def tabC : Array Value := #[.int .u64 3037000499, .int .u64 3611622602, .int .u64 3938502375, .int .u64 4112874772, .int .u64 4202935002, .int .u64 4248701964, .int .u64 4271771996, .int .u64 4283353945, .int .u64 4289156689, .int .u64 4292061009, .int .u64 4293513906, .int .u64 4294240539, .int .u64 4294603902, .int .u64 4294785595, .int .u64 4294876444, .int .u64 4294921869]
def tabV : Value := .agg tabC
theorem tabC_at (k : Nat) (h : k < 16) : tabC[k]? = some (.int .u64 (Dec.t k : Int)) := by
  have : k = 0 ∨ k = 1 ∨ k = 2 ∨ k = 3 ∨ k = 4 ∨ k = 5 ∨ k = 6 ∨ k = 7 ∨ k = 8 ∨ k = 9 ∨ k = 10 ∨ k = 11 ∨ k = 12 ∨ k = 13 ∨ k = 14 ∨ k = 15 := by omega
  rcases this with rfl | rfl | rfl | rfl | rfl | rfl | rfl | rfl | rfl | rfl | rfl | rfl | rfl | rfl | rfl | rfl <;> rfl
theorem tab_index (k : Nat) (h : k < 16) : ∀ w : World, (Instr.index 35 tabV (.int .i64 (k : Int))).run Try.prog w = .ok (.int .u64 (Dec.t k : Int)) w := by
  have : k = 0 ∨ k = 1 ∨ k = 2 ∨ k = 3 ∨ k = 4 ∨ k = 5 ∨ k = 6 ∨ k = 7 ∨ k = 8 ∨ k = 9 ∨ k = 10 ∨ k = 11 ∨ k = 12 ∨ k = 13 ∨ k = 14 ∨ k = 15 := by omega
  rcases this with rfl | rfl | rfl | rfl | rfl | rfl | rfl | rfl | rfl | rfl | rfl | rfl | rfl | rfl | rfl | rfl <;> (intro w; kernel_rfl)

set_option maxHeartbeats 400000 in
theorem table_any (w : World) : Calls Try.prog 35 #[] w fun e w' => e = .returned tabV ∧ Below w.heap.size w w' := by
  go_enter Try.func35, Try.ntmps35
  go_wp2
  go_returns
  exact ⟨rfl, by (repeat' (first | (with_reducible exact Below.refl _ _) | (with_reducible assumption) | (with_reducible refine Below.alloc ?_ ?_ _) | (with_reducible refine L.below_drewN ?_ _) | (with_reducible refine Below.drew ?_) | (with_reducible refine Below.setCell ?_ ?_ _) | (with_reducible refine Below.frame ?_ _) | go_size))⟩
set_option maxHeartbeats 400000 in
theorem rtable_any (w : World) : Calls Try.prog 37 #[] w fun e w' => e = .returned tabV ∧ Below w.heap.size w w' := by
  go_enter Try.func37, Try.ntmps37
  go_wp2
  go_returns
  exact ⟨rfl, by (repeat' (first | (with_reducible exact Below.refl _ _) | (with_reducible assumption) | (with_reducible refine Below.alloc ?_ ?_ _) | (with_reducible refine L.below_drewN ?_ _) | (with_reducible refine Below.drew ?_) | (with_reducible refine Below.setCell ?_ ?_ _) | (with_reducible refine Below.frame ?_ _) | go_size))⟩

end Go.Proofs.Ytplbdipgnhddkaa.DecW
