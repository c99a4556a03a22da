/-
TopHead: whatever commands came ahead, the start that was reserved holds: when time has gone on to it and nothing but rounds came between, the head fits. Conditions: none beyond the card.
-/
import Derived.Test.YtedmeglbjmdlhaaGreatDoorG2
set_option maxRecDepth 100000
set_option maxHeartbeats 16000000
set_option linter.all false
namespace Go.Proofs.YtedmeglbjmdlhaaGreatDoor
open L
namespace L
open Go Go.RowKit
variable {α:Type} {w w':World} {B k:Nat} {E:TypeId} {v:Value} {dec:α->List Value} {xs ys:List α}
theorem gQ.dD{A:Option Addr}(h:gQ w A k dec xs){i:Nat}(hi:i<xs.length):∃b o,A=some ⟨b,o,none⟩/\b<(w:Nat)/\∀w',Below w w w'->∀j u,(dec xs[i])[j]? =some u->w'.cell? ⟨b,o+i*k+j,none⟩=some u:=by obtain⟨b,o,e,a,d⟩:=h (by intro e;subst e;simp at hi);exact⟨b,o,e,a,λw' c j u f=>(c.cell (p:=⟨b,_,none⟩) a).trans (d i _ (aH hi) j u f)⟩
section
variable {P:Program}
end
end L
end Go.Proofs.YtedmeglbjmdlhaaGreatDoor
