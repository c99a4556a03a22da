/-
TopQuiet: whatever commands came ahead, a second round right behind one admits nobody if nobody had to give way in either, and the head and its start are the same. Conditions: none beyond the card.
-/
import Derived.Test.YtedmeglbjmdlhaaGreatDoorG1
set_option maxRecDepth 100000
set_option maxHeartbeats 16000000
set_option linter.all false
namespace Go.Proofs.YtedmeglbjmdlhaaGreatDoor
open Go
open Cfg Led Ord Quo Tree Vec
namespace Led
open Go.Proofs.YtedmeglbjmdlhaaGreatDoor
def Small(u:U)(k:Int):Prop:=∀i,(0<=(u i).x/\(u i).x<=k)/\(0<=(u i).y/\(u i).y<=k)/\(0<=(u i).z/\(u i).z<=k)
theorem ajn:Small none_ 0:=λi=>by simp[none_,Vec.zero]
end Led
variable{c:Cfg.C}
namespace Quo
open Go.Proofs.YtedmeglbjmdlhaaGreatDoor Led
theorem CJ(f:Nat->Int)(t:Nat):∀(l:List Nat),l.Nodup->iF f l=iF f (l.filter λ(s:Nat)=>(s:Int) !=(t:Int))+(if t∈l then f t else 0)
 |[],_=>by simp[iF]
 |x::xs,a=>by
  rw[fQ]at a;have c:=CJ f t xs a.2;by_cases b:x=t
  .subst b;rw[List.filter_cons,aD sZ,kI];rw[aD a.1]at c;simp;omega
  .have d:((x:Int) !=(t:Int))=true:=by rw[bne_iff_ne];omega
   rw[List.filter_cons,aG d,kI,kI,c];have:¬t=x:=λe=>b e.symm;by_cases g:t∈xs<;>simp[g,this]<;>omega
theorem QM(h:Cfg.ok c=true){s:Nat}(b:iC c (s:Int)=true):iJ (node c s).dQ=true/\iJ (node c s).borrow=true/\iJ (node c s).lend=true/\Vec.dR (node c s).lend (node c s).dQ=true:=by have d:=rF b;have a:=AU (FX h) (i:=s) oZ;unfold wN at a;rw[aG b]at a;simp only[Bool.and_eq_true]at a;exact⟨a.2.1,a.2.2.1,a.2.2.2.1,a.2.2.2.2⟩
end Quo
variable{h:List Nat}
namespace Ord
open Go.Proofs.YtedmeglbjmdlhaaGreatDoor
instance:Inhabited P:=⟨⟨0,0,0,⟨0,0,0⟩,0,0,0,0,0⟩⟩
theorem ahY{aN:Int}{a b:P}(e:cmp c h aN a b=0):a.seq=b.seq:=by
 rw[cmp_eq]at e;unfold or2 at e;split at e
 .omega
 .split at e
  .omega
  .exact aeK e
end Ord
end Go.Proofs.YtedmeglbjmdlhaaGreatDoor
