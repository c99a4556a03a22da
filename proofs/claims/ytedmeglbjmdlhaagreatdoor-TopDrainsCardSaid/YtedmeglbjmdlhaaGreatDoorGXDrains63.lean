/-
TopDrains: whatever commands came ahead, as time goes on each gang that waits is admitted: behind as many rounds as there are gangs, with the greatest tick between, nobody waits. Conditions: none beyond the card.
-/
import Derived.Test.YtedmeglbjmdlhaaGreatDoorGXDrains59
import Derived.Test.YtedmeglbjmdlhaaGreatDoorG32
set_option maxRecDepth 100000
set_option maxHeartbeats 16000000
set_option linter.all false
namespace Go.Proofs.YtedmeglbjmdlhaaGreatDoor
open bM bU
namespace bU
open Go Go.RowKit L bM eZ Srt
theorem VR(W:World):bX W (.agg #[true,true,(),()]) Top.noC:=⟨_,_,rfl,⟨none,0,rfl,λe=>absurd rfl e,dZ⟩,⟨none,0,rfl,λe=>absurd rfl e,dZ⟩⟩
end bU
end Go.Proofs.YtedmeglbjmdlhaaGreatDoor
