/-
TopBack: whatever commands came ahead, who had to give way first in a round borrowed, and somebody who was admitted behind those that gave way stays within its nominal. Conditions: none beyond the card.
-/
import Derived.Test.YtedmeglbjmdlhaaGreatDoorGXBack62
import Derived.Test.YtedmeglbjmdlhaaGreatDoorG32
set_option maxRecDepth 100000
set_option maxHeartbeats 16000000
set_option linter.all false
open Go.Proofs.Tryz
namespace Go.Proofs.YtedmeglbjmdlhaaGreatDoor
open Go
open bU
variable{n z:Nat}{s:Top.S}{W:World}
namespace bU
open Go Go.RowKit L bM eZ Srt
theorem aai{d:Array Value}(h:StV W z d s)(m:Top.Good n s)(o:n<=1000):∀w1,Below W W w1->Calls prog 13 #[.agg d] w1 λe w'=>∃f c,e=.returned (.tuple #[.agg f,c])/\StV w' (w1:Nat) f (Top.run s).1/\bQ w' w1 49 3 oQ c (Top.run s).2/\Below w1 w1 w':=by intro w1 l;obtain⟨_,_,_,_,_,_,e,a,b⟩:=h.out;rw[<-e];refine(afC a m o w1 l).mono ?_;rintro e w'⟨v1,v2,vp,vr,p,c,rl,rfl,g,i,j,k⟩;exact⟨_,c,rfl,⟨⟨_,_,_,_,_,rl,rfl,g,k _ lZ⟩⟩,i,j⟩
end bU
end Go.Proofs.YtedmeglbjmdlhaaGreatDoor
