/-
TopBack: whatever commands came ahead, who had to give way first in a round borrowed, and somebody who was admitted behind those that gave way stays within its nominal. Conditions: none beyond the card.
-/
import Derived.Test.YtedmeglbjmdlhaaGreatDoorG1
set_option maxRecDepth 100000
set_option maxHeartbeats 16000000
set_option linter.all false
namespace Go.Proofs.YtedmeglbjmdlhaaGreatDoor
open Vec
namespace Vec
theorem anA(n m:Int)(h:0<=m):max (-m) (min n m)=cut n m:=by unfold cut;omega
end Vec
end Go.Proofs.YtedmeglbjmdlhaaGreatDoor
