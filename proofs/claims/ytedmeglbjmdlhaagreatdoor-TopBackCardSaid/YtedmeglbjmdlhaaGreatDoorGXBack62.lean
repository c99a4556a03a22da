/-
TopBack: whatever commands came ahead, who had to give way first in a round borrowed, and somebody who was admitted behind those that gave way stays within its nominal. Conditions: none beyond the card.
-/
import Derived.Test.YtedmeglbjmdlhaaGreatDoorGXBack56
import Derived.Test.YtedmeglbjmdlhaaGreatDoorGXBack44
import Derived.Test.YtedmeglbjmdlhaaGreatDoorG25
set_option maxRecDepth 100000
set_option maxHeartbeats 16000000
set_option linter.all false
open Go.Proofs.Tryz
namespace Go.Proofs.YtedmeglbjmdlhaaGreatDoor
open Go
open Top bU
namespace bU
open Go Go.RowKit L bM eZ Srt
section
variable {W W':World} {z y:Nat} {CS:Array Value} {s:Top.S}
end
theorem uD.below{w W W':World}{tb:Nat}{CS:Array Value}{s:Top.S}(h:uD w W tb CS s)(a:Below W W W'):uD w W' tb CS s:=
 ⟨h.old.trans (a.mono h.old.size),h.lo,h.box.below a h.box.lt,h.st.below a⟩
section
variable {ops:Array Oper} {rest:List Oper} {o:Oper} {a:Act} {w W wc:World} {Q:Exit->Act->World->Prop} {tb z:Nat} {CS CS':Array Value} {s s':Top.S}
end
section
variable {P:Program} {fn:Func} {tmps:Array Value} {w:World} {cs:Array Value} {g p q:Nat} {t ty:TypeId} {d:TypeDesc}
end
open Go Go.RowKit L bM eZ Srt
theorem GK(e:Top.E):(oQ e).length=3:=rfl
section
variable {wm w w':World} {L rb:Nat} {v1 v2 vh vp vr ve:Value} {s:Top.S} {rl:List Run} {x:Top.Rd}
end
end bU
variable{id:Int}{k:Nat}{v:Value}{w:World}
namespace bU
open Go Go.RowKit L bM eZ Srt
def vG(ps:List Ord.P)(id:Int):Int:=((lD ps id).map λk=>(k:Int)).getD (-1)
theorem ZU:∀{ps:List Ord.P} {k:Nat} (a:k<ps.length),(∀p∈ps.take k,¬p.id=id)->ps[k].id=id->lD ps id=some k
 |[],_,a,_,_=>absurd a sZ
 |p::t,0,_,_,e=>by unfold lD;rw[aG (show p.id=id from e)]
 |p::t,k+1,a,h,e=>by unfold lD;rw[aD (h p sZ),ZU (ps:=t) (k:=k) (by simpa using a) (λq b=>h q (by simp[b])) (by simpa using e)];rfl
theorem ZV:∀{ps:List Ord.P},(∀p∈ps,¬p.id=id)->lD ps id=none
 |[],_=>rfl
 |p::t,h=>by unfold lD;rw[aD (h p sZ),ZV λq a=>h q (by simp[a])];rfl
theorem asB{ps:List Ord.P}(b:k<ps.length){c:Int}(h:∀p∈ps.take k,¬p.id=c)(e:¬ps[k].id=c):∀p∈ps.take (k+1),¬p.id=c:=λx a=>by
 rw[bF b]at a;rcases bY.1 a with a|a
 .exact h x a
 .rw[List.mem_singleton.1 a];exact e
theorem MS{ps:List Ord.P}(h:PSl w v ps)(H:ps.length<=1000000)(id:Int):∀w1,Below w w w1->Calls prog 15 #[v,id] w1 λe w'=>e=.returned (.int .i64 (vG ps id))/\Below w1 w1 w':=by
 intro w1 l;obtain⟨A,cap,rfl,_,_,o,_⟩:=h;have s:=qZ (o.below l);obtain⟨N,i⟩:=nZ ps.length;have j:=qZ i;rw[i]at H⊢;clear o i l;go_enter func15,ntmps15;go_wp2_with fail;go_loopg[5] N (λz L wr=>∃k:Nat,L=.int .i64 k/\k<=N/\N<=z+k/\Hid (∀p∈ps.take k,¬p.id=id)/\Hid (Below w1 w1 wr));case atStart=>exact⟨0,mZ,oZ,oZ,qZ λe F=>by simp at F,qZ (aJ _ _)⟩
 case round=>
  obtain⟨k,rfl,T,O,f,a⟩:=hrel;by_cases I:k<N
  .have W:(k:Int)<(N:Int):=oZ;have d:k<ps.length:=by rw[j.out];exact I
   obtain⟨y,J,rfl,-,m⟩:=zD s d;have K:CI wr y (J+k*11) (ps[k].id):=m wr a 0 _ rfl;have c:=qZ (λe:ps[k].id=id=>show vG ps id=(k:Int)from by unfold vG;rw[ZU d f.out e];rfl);have b:=qZ (λe:¬ps[k].id=id=>asB d f e);obtain⟨q,n⟩:=nZ (ps[k].id);rw[n]at K c b;clear m d n;by_cases g:q=id
   .subst g;have x:=qZ (c rfl);clear b c;go_wp2_with fail;go_ret;rw[x.out];exact⟨rfl,a⟩
   .have M:(q==id)=false:=by simpa using g
    have u:=qZ (b g);clear b c;go_wp2_with fail;go_roundg(N-(k+1));case measure=>omega
    case rel=>exact⟨k+1,mZ,oZ,oZ,u,a⟩
  .have Q:¬(k:Int)<(N:Int):=oZ;have r:=qY (vG ps id= -1) (by have h:=f.out;rw[show k=ps.length by have:=j.out;omega,List.take_length]at h;unfold vG;rw[ZV h];rfl);go_wp2_with fail;go_ret;rw[r.out];exact⟨rfl,a⟩
end bU
end Go.Proofs.YtedmeglbjmdlhaaGreatDoor
