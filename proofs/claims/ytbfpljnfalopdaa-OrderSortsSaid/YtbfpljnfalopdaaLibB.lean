/-
  More general lemmas of our own, over any program: what is known behind a call that makes memory.
-/
import Derived.Test.YtbfpljnfalopdaaLib
set_option linter.unusedVariables false
set_option linter.unusedSimpArgs false
namespace Go.Proofs.Ytbfpljnfalopdaa.L
open Go Go.RowKit

/-- Behind a call that keeps what was there: every old cell and every old mark reads as before, and no block has gone. -/
theorem bcell {W w1 : World} (hb : Below W.heap.size W w1) : (∀ b o, b < W.heap.size → w1.cell? ⟨b, o, none⟩ = W.cell? ⟨b, o, none⟩) ∧ (∀ b o, b < W.heap.size → w1.frozen? ⟨b, o, none⟩ = W.frozen? ⟨b, o, none⟩) ∧ W.heap.size ≤ w1.heap.size :=
  ⟨fun b o h => hb.cell (p := ⟨b, o, none⟩) h, fun b o h => hb.frozen (p := ⟨b, o, none⟩) h, hb.size⟩

theorem drewN_of {w w' : World} {n : Nat} (h : w' = w.drewN n) : Below w.heap.size w w' := h ▸ below_drewN (Below.refl _ _) n

/-- A region that draws its order, all of whose operations read or call what leaves the world alone: as 'region_tail', with no tail. -/
theorem region_whole {P : Program} {id : Nat} {Q : Exit → Act → World → Prop} {a : Act} {w : World} {l : List Oper} (hm : P.follows .mixedOrders = true) (hB : Region.lexB .any l.toArray = true)
    (h : wpStill P l.toArray w.drew (fun a' => Q .normal a' w.drew) l a) : (Code.region id l.toArray true).wp P Q a w :=
  wp_region_still_lit hm hB h

end Go.Proofs.Ytbfpljnfalopdaa.L
