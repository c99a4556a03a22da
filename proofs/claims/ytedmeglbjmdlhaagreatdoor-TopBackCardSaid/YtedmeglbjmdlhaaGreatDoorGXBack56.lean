/-
TopBack: whatever commands came ahead, who had to give way first in a round borrowed, and somebody who was admitted behind those that gave way stays within its nominal. Conditions: none beyond the card.
-/
import Derived.Test.YtedmeglbjmdlhaaGreatDoorGXBack51
import Derived.Test.YtedmeglbjmdlhaaGreatDoorG10
set_option maxRecDepth 100000
set_option maxHeartbeats 16000000
set_option linter.all false
namespace Go.Proofs.YtedmeglbjmdlhaaGreatDoor
open Go
open bM
variable{xs:List Vec.V}{v:Value}{w:World}
namespace bM
open Go.RowKit L
theorem iN.form{B:Nat}(h:iN w B v xs):∃A c,v=.slice A xs.length c/\(0<xs.length->∃g,A=some ⟨g,0,none⟩):=by
 rcases h.2 with⟨rfl,a⟩|⟨g,cap,cur,rfl,b,e,d⟩
 .exact⟨none,0,by rw[a],λh=>oZ⟩
 .exact⟨_,_,rfl,λ_=>⟨g,rfl⟩⟩
end bM
end Go.Proofs.YtedmeglbjmdlhaaGreatDoor
