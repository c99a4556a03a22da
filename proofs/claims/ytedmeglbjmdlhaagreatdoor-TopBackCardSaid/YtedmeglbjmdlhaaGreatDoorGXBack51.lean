/-
TopBack: whatever commands came ahead, who had to give way first in a round borrowed, and somebody who was admitted behind those that gave way stays within its nominal. Conditions: none beyond the card.
-/
import Derived.Test.YtedmeglbjmdlhaaGreatDoorGXBack43
import Derived.Test.YtedmeglbjmdlhaaGreatDoorG3
set_option maxRecDepth 100000
set_option maxHeartbeats 16000000
set_option linter.all false
open Go.Proofs.Tryz
namespace Go.Proofs.YtedmeglbjmdlhaaGreatDoor
open L Vec jN
namespace jN
open Go.RowKit L
theorem FV(n m:Int)(w:World)(h:0<=m)(b:m<=1099511627776):Calls prog 96 #[n,m] w λe w'=>e=.returned (.int .i64 (Vec.cut n m))/\w=w':=by have a:=qZ (anA n m h);go_enter func96,ntmps96;go_wp2;go_ret;exact⟨gP a.out,rfl⟩
theorem asD(a:Vec.V)(n:Int):bW prog 46 #[a.val,n] (Vec.mM a n).val:=by
 obtain⟨a0,a1,a2⟩:=a;obtain⟨f,g,b⟩:=MN a0 n;obtain⟨p1,s1,c⟩:=MN a1 n;obtain⟨p2,s2,d⟩:=MN a2 n;intro w;have hv:(Vec.mM ⟨a0,a1,a2⟩ n).val=.agg #[(Vec.cut f 1099511627776:Int),(Vec.cut p1 1099511627776:Int),(Vec.cut p2 1099511627776:Int)]:=by rw[<-b,<-c,<-d];rfl
 rw[hv];unfold Vec.V.val;clear b c d hv;go_enter func46,ntmps46;go_wp2;refine wp_loop_rounds 4 ?_;rw[rounds_succ];go_wp2_with(go_at_call 96;(with_reducible refine(FV _ _ _ oZ oZ).mono ?_);rintro e w'⟨rfl,rfl⟩);rw[rounds_succ];go_wp2_with(go_at_call 96;(with_reducible refine(FV _ _ _ oZ oZ).mono ?_);rintro e w'⟨rfl,rfl⟩);rw[rounds_succ];go_wp2_with(go_at_call 96;(with_reducible refine(FV _ _ _ oZ oZ).mono ?_);rintro e w'⟨rfl,rfl⟩);rw[rounds_succ];go_wp2_with(go_at_call 96;(with_reducible refine(FV _ _ _ oZ oZ).mono ?_);rintro e w'⟨rfl,rfl⟩);go_returns;exact⟨rfl,kp⟩
end jN
end Go.Proofs.YtedmeglbjmdlhaaGreatDoor
