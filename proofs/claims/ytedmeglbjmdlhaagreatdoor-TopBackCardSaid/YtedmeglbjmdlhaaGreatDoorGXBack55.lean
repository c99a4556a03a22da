/-
TopBack: whatever commands came ahead, who had to give way first in a round borrowed, and somebody who was admitted behind those that gave way stays within its nominal. Conditions: none beyond the card.
-/
import Derived.Test.YtedmeglbjmdlhaaGreatDoorGXBack51
import Derived.Test.YtedmeglbjmdlhaaGreatDoorG9
import Derived.RegionTactic
import Derived.BigRegion
set_option maxRecDepth 100000
set_option maxHeartbeats 16000000
set_option linter.all false
open Go.Proofs.Tryz
namespace Go.Proofs.YtedmeglbjmdlhaaGreatDoor
open L bM jN
namespace bM
open Go Go.RowKit L
theorem afl(a b p:Int)(v:Vec.V)(d e f:Int):bW prog 18 #[.agg #[a,b,p,v.x,v.y,v.z,d,e,f]] (Vec.mM v p).val:=by
 intro w;have m:=jN.asD v p;obtain⟨x0,g,i⟩:=v;generalize Vec.mM ⟨x0,g,i⟩ p=y at*;obtain⟨s,u,x⟩:=y;have z:Hid (bW prog 46 #[.agg #[x0,g,i],p] (.agg #[s,u,x])):=qZ m;clear m;simp only[Vec.V.val];have r:oW ((w.alloc (.cells #[a,b,p,x0,g,i,d,e,f] 42)).alloc (.cells #[(),(),()] 40)) ((w:Nat)+1) 0 ⟨0,0,0⟩:=by refine⟨sZ,?_,?_,?_⟩<;>simp[go_sem]
 have o:∀j,((w.alloc (.cells #[a,b,p,x0,g,i,d,e,f] 42)).alloc (.cells #[(),(),()] 40)).frozen? ⟨(w:Nat)+1,j,none⟩=false:=λj=>by simp[go_sem]
 have n:Below w w ((w.alloc (.cells #[a,b,p,x0,g,i,d,e,f] 42)).alloc (.cells #[(),(),()] 40)):=kp;have I:((w.alloc (.cells #[a,b,p,x0,g,i,d,e,f] 42)).alloc (.cells #[(),(),()] 40)).heap.size=(w:Nat)+2:=sZ;have F:=qZ r;have k:=qZ o;have H:=qZ n;clear r o n;go_enter func18,ntmps18;go_wp2_with fail;refine(z.out _).mono ?_;rintro e N⟨rfl,c⟩;obtain⟨M,l,c1,c2⟩:=F.out.on c;simp only[aU]at l c1 c2;have J:=(c.frozen (p:=⟨(w:Nat)+1,0,none⟩) (by show(w:Nat)+1<_;omega)).trans (k.out 0);have K:=(c.frozen (p:=⟨(w:Nat)+1,1,none⟩) (by show(w:Nat)+1<_;omega)).trans (k.out 1);have L:=(c.frozen (p:=⟨(w:Nat)+1,2,none⟩) (by show(w:Nat)+1<_;omega)).trans (k.out 2);have A:=qZ (aA H.out c);clear c I;go_wp2_with fail;exact bodyPost_ret (v:=.agg #[s,u,x]) (by simp[results,Tryz.results18,go_sem,l,c1,c2]) rfl ⟨rfl,by have:=A.out;exact kp⟩
end bM
end Go.Proofs.YtedmeglbjmdlhaaGreatDoor
