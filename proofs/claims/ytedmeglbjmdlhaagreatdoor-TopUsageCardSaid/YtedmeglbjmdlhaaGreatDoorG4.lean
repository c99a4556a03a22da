/-
Parts that the laws of the whole program share: contracts of its functions, and plain laws.
-/
import Derived.RangeFuncNested
import Derived.OwnWalkIn
import Derived.OrdersIn
import Derived.Test.YtedmeglbjmdlhaaGreatDoorG2
set_option maxRecDepth 100000
set_option maxHeartbeats 16000000
set_option linter.all false
namespace Go.Proofs.YtedmeglbjmdlhaaGreatDoor
open L
namespace L
open Go Go.RowKit
section
variable {P:Program} {ops:Array Oper} {md:Region.Mode}
def MK(l:List Oper):Bool:=l.all λo=>match o.op with
 |.defer _=>false
 |_=>true
theorem FY{l:List Oper}(h:MK l=true){i:Nat}{o:Oper}(hi:l.toArray[i]? =some o):∀c,o.op≠.defer c:=by
 intro c e;have a:o∈l:=by
  have:l[i]? =some o:=by simpa using hi
  exact gG this
 have:=gT.1 h o a;rw[e]at this;cases this
theorem ahC{o:Oper}{a:Act}{w:World}{K:Act->World->Prop}{Q:Exit->Act->World->Prop}{l n:Nat}(d:∀c,o.op≠.defer c)(h:o.wp P a w K Q):o.wpIn (Fence.wide.inRound l) n P a w K Q:=by
 refine⟨λ_ _=>trivial,?_⟩;rw[show(Fence.wide.inRound l).round=some l from rfl,Oper.semAt_some l _ _ d];unfold Oper.wp at h;generalize(execOp a.eval o).run P w=r at*;cases r with
 |ok x w'=>
  cases x<;>simp only[Oper.upon,Oper.uponIn]at h⊢
  case value=>exact h
  case skip=>exact h
  case defer=>exact h
  case enter=>exact⟨(λb=>by cases b),CallsIn.inRound l (callsIn_wide.2 h)⟩
  case row=>exact⟨(λb=>by cases b),λc cs _=>by obtain⟨v,e,r,s⟩:=h c cs;exact⟨v,e,r,stepsIn_wide.2 s⟩⟩
 |halt x w'=>cases x<;>simp only[Oper.upon,Oper.uponIn]at h⊢ <;>exact h
theorem akQ{i:Nat}{a:Act}{w:World}{K:Act->World->Prop}{d:Act->World->Prop}{Q:Exit->Act->World->Prop}{l n:Nat}(e:¬LetsOut Q)(g:∀(i:Nat) (o:Oper),ops[i]? =some o->∀c:Call,o.op≠Op.defer c)(b:∀a w,K a w->d a w)(h:wpOp P ops Q i K a w):wpOpIn (Fence.wide.inRound l) n P ops Q i d a w:=by
 unfold wpOp at h;unfold wpOpIn;split
 .rename_i ho;simp only[ho]at h;exact b _ _ h
 .rename_i o ho;simp only[ho]at h;split
  .rename_i hw;simp only[hw,if_true]at h;exact Oper.wpIn_mono b (ahC (g i o ho) (h.resolve_right λf=>e f.2))
  .rename_i hw;simp only[hw]at h;exact⟨λ_ _=>trivial,b _ _ h⟩
theorem BF{Q:Exit->Act->World->Prop}{l n:Nat}(b:¬LetsOut Q)(d:∀(i:Nat) (o:Oper),ops[i]? =some o->∀c:Call,o.op≠Op.defer c):∀(fuel:Nat) (listed:Array Bool) (a:Act) (w:World),wpAny P md ops Q fuel listed a w->wpAnyIn (Fence.wide.inRound l) n P md ops Q fuel listed a w
 |0,_,_,_,h=>h
 |fuel+1,_,_,_,h=>⟨h.1,λi hi=>akQ b d (λa w=>BF b d fuel _ a w) (h.2 i hi)⟩
end
theorem yN{P:Program}{id L m:Nat}{Q:Exit->Act->World->Prop}{a:Act}{w:World}{l:List Oper}(n:Nat)(s:¬LetsOut Q)(y:P.follows .mixedOrders=true)(M:MK l=true)(c:Region.lexTailB .any l.toArray n=true)(h:sD P l.toArray (aF w) (λa'=>∀W,aF w W->wpList P l.toArray Q (l.drop n) a' W) (l.take n) a):(Code.region id l.toArray true).wpIn (Fence.wide.inRound L) m P Q a w:=by
 simp only[Region.lexTailB,Bool.and_eq_true,fA]at c;obtain⟨⟨⟨⟨F,p⟩,A⟩,u⟩,x⟩:=c;have N:n<l.length:=by simpa using p
 have b:(l.take n).length=n:=by simp;omega
 have e:(l.drop n).length=l.toArray.size-n:=sZ;have K:HeadInv .any l.toArray n (Array.replicate l.toArray.size false):=
  ⟨sZ,λj O _ k=>(by rw[getD_replicate_false]at k;cases k),λt _ J=>getD_in (by simpa using J) (getD_replicate_false _ _)⟩
 have H:=JO (md:=.any) (g:=l.toArray.size-n) F A u p (l.take n) 0 _ a (λj f=>by
  have v:j<n:=by rw[b]at f;exact f
  simp[v]) (by simpa using b) K (by rw[b];exact x) h.out
 refine wpIn_region_any y (BF s (λi o z=>FY M z) _ _ _ _ ?_);have:=yH (Q':=Q) (I:=aF w) (g:=l.toArray.size-n) (λlisted a' W d r=>by have:=wpAny_of_seq (md:=.any) (Q':=Q) (l.drop n) n listed a' W (λj=>by simp[lH]) (by rw[e];exact d.1) (d.2 W r);rwa [e]at this) _ _ _ _ (aF.drew w) H;rw[b,show n+(l.toArray.size-n)=l.toArray.size by omega]at this;exact this
end L
end Go.Proofs.YtedmeglbjmdlhaaGreatDoor
