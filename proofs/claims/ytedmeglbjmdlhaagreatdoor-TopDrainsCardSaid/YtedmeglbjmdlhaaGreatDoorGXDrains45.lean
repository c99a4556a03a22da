/-
TopDrains: whatever commands came ahead, as time goes on each gang that waits is admitted: behind as many rounds as there are gangs, with the greatest tick between, nobody waits. Conditions: none beyond the card.
-/
import Derived.Test.YtedmeglbjmdlhaaGreatDoorG7
set_option maxRecDepth 100000
set_option maxHeartbeats 16000000
set_option linter.all false
namespace Go.Proofs.YtedmeglbjmdlhaaGreatDoor
open Go
open Quo Top
variable{n:Nat}{p:Ord.P}{s:Top.S}
namespace Top
open Go.Proofs.YtedmeglbjmdlhaaGreatDoor Quo
theorem QK(i:xP s){x:Rd}{l:List Ord.P}(m:Mid s x (p::l))(h:x.rs≠[]):(look s.c s.aN x p).rs≠[]:=by
 have f:=qF (c:=s.c) (aN:=s.aN) (p:=p) (m.rG i);generalize look s.c s.aN x p=y at f;cases f with
 |run fl j a b=>simp
 |wait a b=>exact h
 |give g fl j a b d e=>simp
 |first t a b d e=>exact h
 |none a b d e=>exact h
theorem TV(a:xP s):∀(l:List Ord.P) (x:Rd),Mid s x l->x.rs≠[]->(rounds s.c s.aN x l).rs≠[]
 |[],x,_,h=>h
 |p::l,x,m,h=>TV a l _ (m.step a) (QK a m h)
theorem aoR(h:Good n s)(j:s.rs=[])(z:s.ps≠[]):(run s).1.ps.length<s.ps.length:=by
 have I:=wP h.sane;have u:=I.perm.length_eq;rw[j]at u;simp only[aW,gs,bN,List.length_nil]at u;have x:(lT s).rs≠[]:=by
  cases i:row s with
  |nil=>
   have:=(uU s).length_eq;rw[i]at this;exact absurd (jM.1 this.symm) z
  |cons p l=>
   have m:=Mid.start h.sane;rw[i]at m;have A:p∈s.ps:=(m.left p (aZ ..)).2;have J:=h.kR p (cO _ A);have r:=qF (c:=s.c) (aN:=s.aN) (p:=p) (m.rG h.sane);have d:(dR s.c s.rs p).isSome=true:=by
    rw[j];have:=J.may;unfold never at this;cases e:dR s.c [] p with
    |none=>rw[e]at this;cases this
    |some v=>rfl
   have H:(look s.c s.aN ⟨s.ps,s.rs,[],false,0⟩ p).rs≠[]:=by
    generalize look s.c s.aN ⟨s.ps,s.rs,[],false,0⟩ p=y at r;cases r with
    |run fl F b a=>simp
    |wait b a=>cases b
    |give g fl F b a k o=>simp
    |first t b a k o=>
     have f:dR s.c s.rs p=none:=a;rw[f]at d;cases d
    |none b a k o=>
     have f:dR s.c s.rs p=none:=a;rw[f]at d;cases d
   have w:lT s=rounds s.c s.aN (look s.c s.aN ⟨s.ps,s.rs,[],false,0⟩ p) l:=by unfold lT;rw[i];rfl
   rw[w];exact TV h.sane l _ (m.step h.sane) H
 have:0<(lT s).rs.length:=mG.2 x;show(lT s).ps.length<s.ps.length;omega
theorem PD(h:Good n s):(tick s 1048576).1.rs=[]:=by show dD s.rs (s.aN+1048576)=[];unfold dD;rw[kX];intro r a;have b:=h.time r a;have c:=(h.kR r.p (fG _ (bL.2 ⟨r,a,rfl⟩))).nums.run;have e:jC r=r.start+r.p.run:=rfl;simp only[fA];omega
theorem YM(h:Good n s)(b:s.aN+1048576<=1099511627776):sP s 1048576=0/\(tick s 1048576).1.rs=[]/\Good n (tick s 1048576).1/\(tick s 1048576).1.ps=s.ps/\(tick s 1048576).1.aN=s.aN+1048576/\Good n (run (tick s 1048576).1).1/\(run (tick s 1048576).1).1.aN=s.aN+1048576/\(0<s.ps.length->(run (tick s 1048576).1).1.ps.length<s.ps.length)/\(s.ps.length=0->(run (tick s 1048576).1).1.ps.length=0):=by
 have e:sP s 1048576=0:=by unfold sP;rw[aG dZ,aD oZ]
 have g:=h.tick e;refine⟨e,PD h,g,rfl,rfl,g.run,rfl,λa=>?_,λa=>?_⟩
 .exact aoR g (PD h) (by show s.ps≠[];exact mG.1 a)
 .have:=(wP g.sane).perm.length_eq;have e1:(tick s 1048576).1.ps=s.ps:=rfl;rw[PD h,e1]at this;simp only[aW,gs,bN,List.length_nil]at this;show(lT (tick s 1048576).1).ps.length=0;omega
end Top
end Go.Proofs.YtedmeglbjmdlhaaGreatDoor
