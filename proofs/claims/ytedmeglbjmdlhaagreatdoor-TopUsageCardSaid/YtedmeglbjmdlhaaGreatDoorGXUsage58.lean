/-
Parts of the law TopUsage.
-/
import Derived.Test.YtedmeglbjmdlhaaGreatDoorG20
import Derived.Test.YtedmeglbjmdlhaaGreatDoorG7
set_option maxRecDepth 100000
set_option maxHeartbeats 16000000
set_option linter.all false
namespace Go.Proofs.YtedmeglbjmdlhaaGreatDoor
open Go.Value renaming slice→ac,int→cJ,agg→eh
open Fix renaming ofInt→bU,one→cF,pre→cL,top→cN,add→cX,quo→dt,cut→dT,mul→eo
open Vec renaming zero→cA,sub→cQ,cut→el,add→en,V→er
open Tree renaming path→cC,below→dl,on→dV,par→ej,up→ep
open Bool renaming false→cD,true→cH
open Ord renaming num→cE,tree→dw,or2→ea,cmp→ee,old→ef,P→eu
open List renaming count→cG,range→cS,length_reverse→dk,length_mapIdx→dx,replicate→ed
open Go.Obj renaming cells→cI
open Go.Ending renaming returned→cM
open Go.RowKit renaming Below→cP
open Go.Proofs.Tryz renaming prog→cR
open Go.IntKind renaming u64→cT,u64→dp,i64→du
open Go.Builtin renaming append_→cU,firstCells→dy,lenOf→eg
open Hst renaming caps→cV,dW→dn,one→dC
open Option renaming getD_some→cW,some→di,none→dz,map_some→ec
open Go renaming World→cY,Value→dj,Calls→dm,bits→ei
open Nat renaming div_eq_of_lt→dq,mul_assoc→dv,div_le_self→eb,pow_add→ek
open Cfg renaming C→ds,ok→dE,oV→et
section
open Go
open Fix Ord Quo
namespace Fix
theorem apg(a:Nat)(h:a<=top):pre a 0=0:=by
 unfold pre;apply dq;have:a*one<2 ^ 96:=by
  have:a*one<=top*one:=bR _ h;have:top*one<2 ^ 96:=by decide
  omega
 simpa using this
theorem arV(a:Nat):pre a 96=a*one:=by simp[pre]
theorem aeB(a k:Nat)(h:k<96):pre a (k+1)=2*pre a k+pre a (k+1)%2:=by
 have e:pre a k=pre a (k+1)/2:=by unfold pre;rw[Nat.div_div_eq_div_mul,show(2:Nat) ^ (96-(k+1))*2=2 ^ (96-k) by rw[<-Nat.pow_succ];congr 1;omega]
 rw[e];omega
theorem arW(a k:Nat)(h:k<64):pre a (k+1)%2=a/2 ^ (63-k)%2:=by unfold pre;rw[show(2:Nat) ^ (96-(k+1))=2 ^ (63-k)*one by rw[show one=2 ^ 32 from rfl,<-ek];congr 1;omega,Nat.mul_div_mul_right _ _ (by decide:0<one)]
theorem arU(a k:Nat)(h:64<=k)(b:k<96):pre a (k+1)%2=0:=by
 unfold pre;have e:a*one=a*2 ^ (k-64+1)*2 ^ (96-(k+1)):=by rw[dv,<-ek,show one=2 ^ 32 from rfl];congr 2;omega
 rw[e,Nat.mul_div_cancel _ (Nat.two_pow_pos _),Nat.pow_succ,<-dv];omega
theorem atL(a k:Nat)(h:k<=96):pre a k<=a*one:=eb _ _
theorem aqw(x b t:Nat)(a:0<b)(f:t<2):(2*x+t)/b=2*(x/b)+(if b<=2*(x%b)+t then 1 else 0)/\(2*x+t)%b=(if b<=2*(x%b)+t then 2*(x%b)+t-b else 2*(x%b)+t):=by
 have c:=iY x b;have d:=jS x a;generalize x/b=q at*;generalize x%b=r at*;have e:2*x+t=b*(2*q)+(2*r+t):=by rw[<-c];simp only[Nat.mul_add];rw[Nat.mul_left_comm];omega
 rw[e,Nat.mul_add_div a,Nat.mul_add_mod];by_cases h:b<=2*r+t
 .rw[aG h,aG h];have e2:2*r+t=b*1+(2*r+t-b):=oZ;constructor
  .rw[e2,Nat.mul_add_div a,dq oZ]
  .conv=>lhs;rw[e2]
   rw[Nat.mul_add_mod,Nat.mod_eq_of_lt oZ]
 .rw[aD h,aD h];exact⟨by rw[dq oZ],Nat.mod_eq_of_lt oZ⟩
theorem apx(a b k:Nat)(e:k<96)(h:9223372036854775808<=pre a k/b):cut (a*one/b)=top:=by
 apply LB;have d:0<b:=by
  rcases gI b with c|c
  .rw[c,Nat.div_zero]at h;omega
  .exact c
 have f:2*pre a k<=pre a (k+1):=by rw[aeB a k e];omega
 have g:pre a (k+1)<=a*one:=atL _ _ oZ;have i:2*(pre a k/b)<=2*pre a k/b:=by rw[Nat.le_div_iff_mul_le d];have:=Nat.div_mul_le_self (pre a k) b;rw[dv];omega
 have j:2*pre a k/b<=a*one/b:=Nat.div_le_div_right oZ;have:top<2*9223372036854775808:=by decide
 omega
end Fix
variable{c:ds}{h:List Nat}
namespace Ord
open Go.Proofs.YtedmeglbjmdlhaaGreatDoor
instance:Inhabited P:=⟨⟨0,0,0,⟨0,0,0⟩,0,0,0,0,0⟩⟩
theorem ahY{aN:Int}{a b:P}(e:cmp c h aN a b=0):a.seq=b.seq:=by
 rw[cmp_eq]at e;unfold or2 at e;split at e
 .omega
 .split at e
  .omega
  .exact aeK e
end Ord
end
section
open Cfg Dec Fix Led Ord Quo Top Vec sK
namespace Top
open Go.Proofs.YtedmeglbjmdlhaaGreatDoor Quo
structure Part (f:Vec.V->Int):Prop where
 sub:∀a b,f (Vec.sub a b)=nA (f a) (f b)
 add:∀a b,f (Vec.add a b)=Vec.add1 (f a) (f b)
 mM:∀a n,f (Vec.mM a n)=vN (f a) n
 zero:f Vec.zero=0
 le:∀a b,Le a b->f a<=f b
 pos:∀a,iP a->0<=f a
 iJ:∀a,iJ a=true->0<=f a/\f a<=1048576
 box:∀a,Boxed a-> -1099511627776<=f a/\f a<=1099511627776
theorem avR:Part (·.x):=⟨λ_ _=>rfl,λ_ _=>rfl,λ_ _=>rfl,rfl,λ_ _ h=>h.1,λ_ h=>h.1,λa h=>((jX a).1 h).1,λ_ h=>h.1⟩
theorem avQ:Part (·.y):=⟨λ_ _=>rfl,λ_ _=>rfl,λ_ _=>rfl,rfl,λ_ _ h=>h.2.1,λ_ h=>h.2.1,λa h=>((jX a).1 h).2.1,λ_ h=>h.2.1⟩
theorem avP:Part (·.z):=⟨λ_ _=>rfl,λ_ _=>rfl,λ_ _=>rfl,rfl,λ_ _ h=>h.2.2,λ_ h=>h.2.2,λa h=>((jX a).1 h).2.2,λ_ h=>h.2.2⟩
section
variable {f:er->Int}
theorem ZJ(F:Part f){need:er}(hv:iJ need=cH)(b:iP need):∀(l:List Int) (o:List er) (i:Nat),i<o.length->f (o.getD i cA)<=1048576->KE o->iP ((dn cQ need l o).getD i cA)->f ((dn cQ need l o).getD i cA)=f (o.getD i cA)-f need*cG (i:Int) l
 |[],o,i,hi,g,c,a=>by simp[dn]
 |h::t,o,i,hi,g,c,a=>by
  have step:dn cQ need (h::t) o=dn cQ need t (dC cQ need o h):=rfl;rw[step]at a⊢;obtain⟨j,d⟩:=ahD c b h;have m:=F.le _ _ (j.2 i);have l2:=F.le _ _ ((BQ b t d).1.2 i);have n:=F.pos _ a;rw[ZJ F hv b t _ i (by rw[FJ];exact hi) oZ d a];by_cases e:h=(i:Int)
  .subst e;have e2:(dC cQ need o (i:Int)).getD i cA=cQ (o.getD i cA) need:=by unfold dC;rw[aG ⟨oZ,oZ⟩,Int.toNat_natCast,xJ,aG ⟨rfl,hi⟩]
   rw[e2]at l2⊢;have p:=F.iJ _ hv;have k:=F.box _ (c i);rw[F.sub]at l2⊢;rw[List.count_cons_self,Int.natCast_add,Int.mul_add];unfold nA el at*;simp only[Int.natCast_one,Int.mul_one];omega
  .have e2:(dC cQ need o h).getD i cA=o.getD i cA:=by
    unfold dC;split
    .rw[xJ,aD];omega
    .rfl
   rw[e2,List.count_cons_of_ne e]
def BH(g:R->Int):List R->Int
 |[]=>0
 |r::t=>g r+BH g t
theorem abz(g:R->Int)(r:R)(t:List R):BH g (r::t)=g r+BH g t:=rfl
theorem UM(F:Part f):∀(rs:List R) (o:List er) (i:Nat),(∀r∈rs,Fair r.p)->i<o.length->f (o.getD i cA)<=1048576->KE o->iP ((EW o (rs.map λr=>(r.p.need,r.aQ))).getD i cA)->f ((EW o (rs.map λr=>(r.p.need,r.aQ))).getD i cA)=f (o.getD i cA)-BH (λr=>f r.p.need*cG (i:Int) r.aQ) rs
 |[],o,i,_,hi,e,a,b=>by simp[EW,BH]
 |r::t,o,i,g,hi,e,a,b=>by
  have step:EW o ((r::t).map λr=>(r.p.need,r.aQ))=EW (dn cQ r.p.need r.aQ o) (t.map λr=>(r.p.need,r.aQ)):=rfl;rw[step]at b⊢;have c:=g r (aZ ..);have j:∀x∈t,Fair x.p:=λx a=>g x (bG _ a);obtain⟨k,d⟩:=BQ c.nonneg r.aQ a;have low:=acB (l:=[]) (l':=t.map λr=>(r.p.need,r.aQ)) (List.nil_sublist _) (dn cQ r.p.need r.aQ o) (dn cQ r.p.need r.aQ o) (λx a=>by obtain⟨y,p,rfl⟩:=bL.1 a;exact(j y p).nonneg) (LeL.refl _) d;have m:=low.2 i;have n:iP ((dn cQ r.p.need r.aQ o).getD i cA):=by have s:Le _ ((dn cQ r.p.need r.aQ o).getD i cA):=m;unfold Le iP at*;omega
  have u:=F.le _ _ (k.2 i);rw[UM F t _ i j (by rw[Hst.wS];exact hi) oZ d b,ZJ F c.need c.nonneg r.aQ o i hi e a n,abz];omega
theorem adX(g h:Nat->Int):∀l:List Nat,iF (λi=>g i+h i) l=iF g l+iF h l
 |[]=>rfl
 |x::l=>by rw[kI,kI,kI,adX g h l];omega
theorem adW(a:Int)(g:Nat->Int):∀l:List Nat,iF (λi=>a*g i) l=a*iF g l
 |[]=>by simp[iF]
 |x::l=>by rw[kI,kI,adW a g l,Int.mul_add]
theorem ahu{g h:Nat->Int}:∀(l:List Nat),(∀x∈l,g x<=h x)->iF g l<=iF h l
 |[],_=>gN _
 |x::l,a=>by rw[kI,kI];have:=ahu l (λy b=>a y (bG _ b));have:=a x (aZ ..);omega
theorem PI:∀(l:List Nat),iF (λ_=>(0:Int)) l=0
 |[]=>rfl
 |x::l=>by rw[kI,PI l];rfl
theorem acI(n:Nat):∀(l:List Int),(∀h∈l,0<=h/\h<(n:Int))->iF (λi=>(cG (i:Int) l:Int)) (cS n)=l.length
 |[],_=>by simp[PI]
 |h::t,a=>by have c:=acI n t (λx b=>a x (bG _ b));obtain⟨j,k⟩:=a h (aZ ..);have:=BI (f:=λi=>(cG (i:Int) t:Int)) (g:=λi=>(cG (i:Int) (h::t):Int)) (t:=h.toNat) (d:=1) (cS n) List.nodup_range (λx _ b=>by have:h≠(x:Int):=oZ;show(cG (x:Int) (h::t):Int)=cG (x:Int) t;rw[List.count_cons_of_ne this]) (by show(cG (h.toNat:Int) (h::t):Int)=cG (h.toNat:Int) t+1;have e:h=(h.toNat:Int):=oZ;rw[<-e,List.count_cons_self,Int.natCast_add];rfl);rw[this,c,aG (by rw[jU];omega)];simp
theorem YC(F:Part f)(n:Nat):∀(rs:List R),(∀r∈rs,(r.aQ.length:Int)=r.p.eU/\∀h∈r.aQ,0<=h/\h<(n:Int))->iF (λi=>BH (λr=>f r.p.need*cG (i:Int) r.aQ) rs) (cS n)=BH (λr=>f r.p.need*r.p.eU) rs
 |[],_=>by simp[BH,PI]
 |r::t,h=>by have d:=YC F n t (λx c=>h x (bG _ c));obtain⟨a,b⟩:=h r (aZ ..);have e:(λi:Nat=>BH (λr=>f r.p.need*cG (i:Int) r.aQ) (r::t))=λi:Nat=>f r.p.need*cG (i:Int) r.aQ+BH (λr=>f r.p.need*cG (i:Int) r.aQ) t:=rfl;rw[e,adX,d,adW,acI n r.aQ b,a];rfl
theorem aiB(g:Nat->Int)(n:Nat):iF g (cS (n+1))=iF g (cS n)+g n:=by
 rw[List.range_succ];have b:∀(l:List Nat) (x:Nat),iF g (l++[x])=iF g l+g x:=by
  intro l x;induction l with
  |nil=>simp[iF]
  |cons y l a=>rw[List.cons_append,kI,kI,a];omega
 exact b _ _
theorem VE(F:Part f)(a:List gW)(hv:∀h∈a,iJ h.cap=cH):∀k,k<=a.length->k<=24->f ((a.take k).foldl (λv h=>en v h.cap) cA)=iF (λi=>f ((cV a).getD i cA)) (cS k)/\0<=f ((a.take k).foldl (λv h=>en v h.cap) cA)/\f ((a.take k).foldl (λv h=>en v h.cap) cA)<=(k:Int)*1048576
 |0,_,_=>by simp[F.zero,iF]
 |k+1,d,g=>by
  obtain⟨c,j,l⟩:=VE F a hv k oZ oZ;have b:k<a.length:=oZ;have v:=F.iJ _ (hv _ (bB b));have e:(cV a).getD k cA=a[k].cap:=by unfold cV;rw[aL,fK,aH b];rfl
  rw[bF b,fB,List.foldl_cons,List.foldl_nil,F.add,aiB,e,<-c];rw[kQ _ _ oZ oZ oZ oZ];omega
theorem WR{c:ds}(a:dE c=cH):∀h∈c.aQ,iJ h.cap=cH:=λh b=>by obtain⟨i,hi,rfl⟩:=jR b;have h:=EU (MH a) hi;rw[aL,aH hi]at h;unfold vP at h;simp only[Bool.and_eq_true]at h;exact h.2.2.2
theorem ala(F:Part f){c:ds}(a:dE c=cH):f (et c)=iF (λi=>f ((cV c.aQ).getD i cA)) (cS c.aQ.length):=by have:=(VE F c.aQ (WR a) c.aQ.length lZ (rE a).2.1.2).1;rw[aT lZ]at this;exact this
theorem aqI(F:Part f){c:ds}(a:dE c=cH){rs:List R}(d:∀r∈rs,Fair r.p)(b:tV c rs):BH (λr=>f r.p.need*r.p.eU) rs<=f (et c):=by
 rw[ala F a,<-YC F c.aQ.length rs b.aQ];refine ahu _ λi hi=>?_;rw[jU]at hi;have e:=UM F rs (cV c.aQ) i d (by simpa[cV]using hi) ?_ (LC a) (b.room i)
 .have p:=F.pos _ (b.room i);have g:0<=f ((EW (cV c.aQ) (rs.map λr=>(r.p.need,r.aQ))).getD i cA):=p;rw[e]at g;omega
 .have v:=F.iJ _ (WR a _ (bB hi));have e:(cV c.aQ).getD i cA=c.aQ[i].cap:=by unfold cV;rw[aL,fK,aH hi];rfl
  rw[e];omega
theorem anx(F:Part f){p:eu}(h:Fair p):f (jT p)<=f p.need*p.eU:=by have v:=F.iJ _ h.need;have a:=h.eU;unfold jT;rw[F.mM];unfold vN;rw[Vec.tO (f p.need) _ oZ oZ,Vec.tO p.eU _ oZ oZ];have:=iH v.1 (show 0<=p.eU by omega);unfold el;omega
theorem adI(F:Part f)(c:ds):∀(rs:List R) (u:Led.U) (i:Nat),(∀r∈rs,Fair r.p)->iP (u i)->f (AJ c u rs i)<=f (u i)+BH (λr=>f r.p.need*r.p.eU) rs/\iP (AJ c u rs i)
 |[],u,i,_,a=>by simp[AJ,BH,a]
 |r::t,u,i,g,a=>by
  have b:=g r (aZ ..);have e:=b.jT;have step:AJ c u (r::t)=AJ c (yY c u r.p) t:=rfl;have v:=F.iJ _ b.need;have o:=b.eU;have n:=iH v.1 (show 0<=r.p.eU by omega);have j:f (yY c u r.p i)<=f (u i)+f r.p.need*r.p.eU/\iP (yY c u r.p i):=by
   rw[FQ];split
   .refine⟨?_,(acU a e).1⟩;have d:=anx F b;have m:=F.pos _ e;have u0:=F.pos _ a;rw[F.add];unfold Vec.add1 el;omega
   .exact⟨oZ,a⟩
  have l:=adI F c t (yY c u r.p) i (λx k=>g x (bG _ k)) j.2;rw[step];refine⟨?_,l.2⟩;rw[abz];omega
theorem aaC(F:Part f){c:ds}(b:dE c=cH){rs:List R}(d:∀r∈rs,Fair r.p)(g:tV c rs)(i:Nat):f ((used c rs).getD i cA)<=f (et c)/\0<=f ((used c rs).getD i cA):=by
 have a:=aqI F b d g;have u:=adI F c rs Led.none_ i d (aeM i).1;have z:f (Led.none_ i)=0:=F.zero;have e:used c rs=Led.all c (AJ c Led.none_ rs):=rfl;rw[e];unfold Led.all;rw[aL,fK];by_cases hi:i<c.aP.length
 .rw[List.getElem?_range hi];have:=F.pos _ u.2;simp only[ec,cW];omega
 .rw[dY (by simpa using hi)];simp only[Option.map_none,Option.getD_none,F.zero];have t:=VE F c.aQ (WR b) c.aQ.length lZ (rE b).2.1.2;rw[aT lZ]at t;exact⟨t.2.1,gN _⟩
end
theorem alV{u k:Int}(h:u<=k)(b:0<u):qR u k<=cF:=by
 unfold qR dt;rw[aD oZ,aD oZ];have a:u.toNat*cF/k.toNat<=cF:=by refine Nat.div_le_of_le_mul ?_;exact bR _ oZ
 unfold dT;split
 .exact a
 .unfold cN cF at*;omega
theorem WK{m:Nat}{u k:Int}(a:m<=cF)(h:u<=k):GL m u k<=cF:=by
 unfold GL;split
 .have:=alV h ‹_›;omega
 .exact a
theorem abJ{c:ds}(a:dE c=cH){rs:List R}(b:∀r∈rs,Fair r.p)(d:tV c rs)(i:Nat):(mI c rs).getD i 0<=cF/\(iC c (i:Int)=cD->(mI c rs).getD i 0=0):=by
 unfold mI;rw[aL,List.getElem?_mapIdx];cases h:(used c rs)[i]? with
 |none=>simp
 |some v=>
  simp only[ec,cW];have e:(used c rs).getD i cA=v:=by rw[aL,h];rfl
  have f:=aaC avR a b d i;have g:=aaC avQ a b d i;have j:=aaC avP a b d i;rw[e]at f g j;unfold JB;refine⟨?_,λh=>by rw[h];rfl⟩;split
  .exact WK (WK (WK (bK _) f.1) g.1) j.1
  .exact bK _
structure Used (s:S):Prop where
 time:∀i,s.h.getD i 0<=Fix.ofInt s.aN
 GQ:∀i,i<s.h.length->iC s.c (i:Int)=false->s.h.getD i 0=0
theorem ofInt_add{a b:Int}(f:0<=a)(g:0<=b):cX (bU a) (bU b)<=bU (a+b):=by
 unfold bU;by_cases c:a+b<=0
 .rw[aG oZ,aG oZ,aG c];exact bI _
 .rw[aD c];by_cases d:(cF:Int)<=a+b
  .rw[aG d];exact Fix.add_lt _ _
  .rw[aD d];have e:∀x:Int,0<=x->x<(cF:Int)->(if x<=0 then 0 else if(cF:Int)<=x then cN else x.toNat*cF)=x.toNat*cF:=λx i c=>by
    by_cases e:x<=0
    .have:x=0:=by omega
     subst this;simp
    .rw[aD e,aD oZ]
   rw[e a f oZ,e b g oZ,Int.toNat_add f g,gJ];unfold cX;split
   .exact bI _
   .omega
theorem ajm{a b:Int}(h:a<=b):bU a<=bU b:=by
 have e:=MI a;by_cases c:a<=0
 .have:bU a=0:=by unfold bU;rw[aG c]
  omega
 .by_cases d:(cF:Int)<=b
  .have:bU b=cN:=by unfold bU;rw[aD oZ,aG d]
   omega
  .have e1:bU a=a.toNat*cF:=by unfold bU;rw[aD c,aD oZ]
   have e2:bU b=b.toNat*cF:=by unfold bU;rw[aD (show¬b<=0 by omega),aD d]
   rw[e1,e2];exact bR _ oZ
theorem atg{a b c d:Nat}(e:a<=c)(f:b<=d):cX a b<=cX c d:=by unfold cX;split<;>split<;>omega
theorem Used.tick{s:S}(d:dE s.c=cH)(e:∀r∈s.rs,Fair r.p)(g:tV s.c s.rs)(l:0<=s.aN)(h:Used s){n:Int}(p:1<=n):Used (tick s n).1:=by
 have k:∀i,i<s.h.length->(rR s.h (mI s.c s.rs) n s.c.aI).getD i 0=xV (nX n s.c.aI) (bU n) (mI s.c s.rs) i (s.h.getD i 0):=λi hi=>by unfold rR;rw[aL,List.getElem?_mapIdx,aL,aH hi];rfl
 have out:∀i,¬i<s.h.length->(rR s.h (mI s.c s.rs) n s.c.aI).getD i 0=0:=λi hi=>by unfold rR;rw[aL,dY (by rw[dx];omega)];rfl
 refine⟨λi=>?_,λi hi j=>?_⟩
 .show(rR s.h (mI s.c s.rs) n s.c.aI).getD i 0<=bU (s.aN+n);by_cases hi:i<s.h.length
  .rw[k i hi];have a:=ZA (s.h.getD i 0) _ (RF n s.c.aI);have b:=h.time i;unfold xV;split
   .have c:=(abJ d e g i).1;have m:eo ((mI s.c s.rs).getD i 0) (bU n)<=bU n:=by rw[Fix.mul_comm];exact ZA _ _ c
    exact aV (atg (aV a b) m) (ofInt_add l oZ)
   .exact aV (aV a b) (ajm oZ)
  .rw[out i hi];exact bK _
 .have f:i<s.h.length:=by
   have:(rR s.h (mI s.c s.rs) n s.c.aI).length=s.h.length:=by unfold rR;rw[dx]
   have o:i<(rR s.h (mI s.c s.rs) n s.c.aI).length:=hi;omega
  show(rR s.h (mI s.c s.rs) n s.c.aI).getD i 0=0;rw[k i f,h.GQ i f j];have c:=(abJ d e g i).2 j;unfold xV;rw[c];have z:∀x,eo 0 x=0:=λx=>by unfold eo dT;simp
  rw[z,z];split<;>simp[cX]
theorem Used.apply{n:Nat}{s:S}(b:Good n s)(h:Used s)(x:Cmd):Used (apply s x).1:=by
 unfold Top.apply;split
 .rename_i e;have a:NA s x=0:=by
   unfold gZ at e;split at e
   .rename_i e2;exact absurd e e2
   .exact e
  unfold NA at a;unfold doS;by_cases f:x.kind=1
  .rw[aG f];have z:∀i,(ed x.c.aP.length 0).getD i 0=0:=λi=>by rw[aL,mJ];split<;>rfl
   exact⟨λi=>by show(ed x.c.aP.length 0).getD i 0<=_;rw[z];exact bK _,λi _ _=>z i⟩
  rw[aD f]at a⊢;by_cases g:x.kind=2
  .rw[aG g];exact⟨h.time,h.GQ⟩
  rw[aD g]at a⊢;by_cases j:x.kind=3
  .rw[aG j];exact⟨h.time,h.GQ⟩
  rw[aD j]at a⊢;by_cases k:x.kind=4
  .rw[aG k];simp only;split
   .exact⟨h.time,h.GQ⟩
   .exact⟨h.time,h.GQ⟩
  rw[aD k]at a⊢;by_cases l:x.kind=5
  .rw[aG l]at a⊢;have m:1<=x.n:=by
    unfold sP at a;split at a
    .rename_i e1;rw[uY]at e1;exact e1.1
    .cases a
   rcases b.cfg with e1|e1
   .have c:s.h=[]:=jM.1 (by rw[b.hist,e1];rfl);refine⟨λi=>?_,λi hi _=>?_⟩
    .show(rR s.h _ _ _).getD i 0<=_;rw[c];exact bK _
    .have d:i<(rR s.h (mI s.c s.rs) x.n s.c.aI).length:=hi;rw[c]at d;exact absurd d (Nat.not_lt_zero _)
   .exact h.tick e1 b.rG b.lies b.aN.1 m
  rw[aD l]at a⊢;exact⟨h.time,h.GQ⟩
 .exact h
theorem Used.fold:∀(l:List Cmd) (n:Nat) (s:S),Good n s->Used s->Used (l.foldl (λs x=>(Top.apply s x).1) s)
 |[],_,_,_,h=>h
 |x::l,n,s,g,h=>Used.fold l (n+1) _ (g.apply x) (h.apply g x)
theorem ame(l:List Cmd):Used (jB l):=Used.fold l 0 new Good.new ⟨λi=>bK _,λi hi _=>by cases hi⟩
theorem agK{n:Nat}{s:S}(d:Good n s)(h:Used s){i:Nat}(hi:i<s.h.length){x:kL}(c:x∈s.c.aP)(b:x.parent=(i:Int)):s.h.getD i 0=0:=by refine h.GQ i hi ?_;rw[gD];intro a;rw[zF]at a;exact a.2.2 x c b
theorem asR{n:Nat}{s:S}(a:Good n s){i k:Nat}(hi:i<s.ps.length)(b:k<i):ee s.c s.h s.aN (s.ps[i]) (s.ps[k])≠0:=λe=>by have e:=ahY e;have h:=a.nos;rw[dO,iW]at h;have h:=h.1;rw[List.nodup_iff_pairwise_ne,List.pairwise_iff_getElem]at h;exact h k i (by simp;omega) (by simpa using hi) b (by simpa using e.symm)
end Top
end
section
open Go.Proofs.Tryz
open L sK
namespace sK
open Go.RowKit L
theorem aiT(a b:Nat)(d:a<=cN)(f:b<=cN)(w:cY):dm cR 219 #[cJ cT a,cJ cT b] w λe w'=>e=cM (cJ cT (cX a b))/\w=w':=by
 unfold cN at d f;have hv:cX a b=if a+b<=18446744073709551615 then a+b else 18446744073709551615:=rfl;have c:=qZ hv;clear hv;by_cases h:a+b<=18446744073709551615
 .go_enter func219,ntmps219;go_wp2;go_ret;exact⟨gP (by rw[c.out,aG h];omega),rfl⟩
 .go_enter func219,ntmps219;go_wp2;go_ret;exact⟨gP (by rw[c.out,aD h];rfl),rfl⟩
theorem alT(n:Int)(b: -9223372036854775808<=n)(c:n<=9223372036854775807)(w:cY):dm cR 177 #[n] w λe w'=>e=cM (cJ cT (bU n))/\w=w':=by
 by_cases h:n<0
 .go_enter func177,ntmps177;go_wp2;go_ret;exact⟨gP (by rw[bU,aG oZ];rfl),rfl⟩
 by_cases a:4294967296<=n
 .go_enter func177,ntmps177;go_wp2;go_ret;exact⟨gP (by rw[bU,aD oZ,aG (by simp only[cF];omega)];rfl),rfl⟩
 .go_enter func177,ntmps177;go_wp2;go_ret;refine⟨gP ?_,rfl⟩;unfold bU cF;split
  .omega
  .rw[aD oZ];omega
end sK
end
section
open Go.Proofs.Tryz
open L Quo eZ sK
namespace eZ
open Go Go.RowKit L bM
theorem vM(a b:Int)(w:cY):dm cR 57 #[a,b] w λe w'=>e=cM (cJ du (cE a b))/\w=w':=by
 unfold cE;by_cases h:a<b
 .rw[aG h];go_enter func57,ntmps57;go_wp2;go_ret;exact⟨rfl,rfl⟩
 by_cases c:b<a
 .rw[aD h,aG c];go_enter func57,ntmps57;go_wp2;go_ret;exact⟨rfl,rfl⟩
 .rw[aD h,aD c];go_enter func57,ntmps57;go_wp2;go_ret;exact⟨rfl,rfl⟩
theorem aeo(v1 v2:dj)(aI aK aN:Int)(p:eu)(f:InI aK)(g:InI aN)(i:InI p.since):bW cR 55 #[eh #[v1,v2,aI,aK],aN,eh (eP p)] (.bool (ef aK aN p.since)):=by
 intro w;obtain⟨a0,a1,a2,⟨a3,a4,j⟩,a6,a7,k,l,s⟩:=p;have a:=λh:s<=aN=>adz aN s h g i;have c:0<aK->IntKind.u64.wrap aK=aK:=λh=>TF aK oZ f.2;unfold eP ef
 dsimp only at a⊢
 clear f g i;go_enter func55,ntmps55;by_cases b:0<aK
 .by_cases d:s<=aN
  .have e1:=a d;have e2:=c b;clear a c;rw[decide_eq_true b,decide_eq_true d];by_cases e:aK<=aN-s
   .rw[decide_eq_true e];go_wp2_with fail;go_ret;exact⟨rfl,kp⟩
   .rw[eG e];go_wp2_with fail;go_ret;exact⟨rfl,kp⟩
  .clear a c;rw[decide_eq_true b,eG d];go_wp2_with fail;go_ret;exact⟨rfl,kp⟩
 .clear a c;rw[eG b];go_wp2_with fail;go_ret;exact⟨rfl,kp⟩
end eZ
end
section
open Go.Proofs.Tryz
open Fix L sK
namespace sK
open Go.RowKit L
theorem or_one(n:Nat)(h:2*n+1<=18446744073709551615)(x:Int)(a:x=((2*n:Nat):Int)):ei .or cT x 1=((2*n+1:Nat):Int):=by subst a;rw[show(1:Int)=((1:Nat):Int)from rfl,uX cT rfl _ _ (by show _<18446744073709551616;omega) dZ];congr 1;exact(jP (i:=1) oZ _).symm
theorem anZ(n:Nat)(h:n<=18446744073709551615):ei .and cT (n:Int) 1=((n%2:Nat):Int):=by rw[show(1:Int)=((1:Nat):Int)from rfl,rQ cT rfl _ _ (by show _<18446744073709551616;omega) dZ,Nat.and_one_is_mod]
theorem ajh(a b k:Nat)(u:a<=18446744073709551615)(i:0<b)(v:b<=18446744073709551615)(l:k<96):∃r2 r3 f β:Nat,IntKind.u64.wrap ((cL a k%b:Nat)*2:Int)=(r2:Int)/\((95-k<32/\r3=r2)\/(32<=95-k/\(ei BinOp.and dp ((a:Int)/2 ^ (95-k-32)) 1==1)=cD/\r3=r2)\/(32<=95-k/\(ei BinOp.and dp ((a:Int)/2 ^ (95-k-32)) 1==1)=cH/\ei BinOp.or dp (r2:Int) 1=(r3:Int)))/\((decide ((9223372036854775808:Int)<=((cL a k%b:Nat):Int))=cH/\IntKind.u64.wrap ((r3:Int)-(b:Int))=(f:Int)/\β=1)\/(decide ((9223372036854775808:Int)<=((cL a k%b:Nat):Int))=cD/\decide (b<=r3)=cH/\IntKind.u64.wrap ((r3:Int)-(b:Int))=(f:Int)/\β=1)\/(decide ((9223372036854775808:Int)<=((cL a k%b:Nat):Int))=cD/\decide (b<=r3)=cD/\f=r3/\β=0))/\cL a (k+1)/b=2*(cL a k/b)+β/\cL a (k+1)%b=f:=by
 have n:=aeB a k l;have y:=jS (cL a k) i;obtain⟨t,d⟩:=nZ (cL a (k+1)%2);rw[d]at n;have s:t<2:=by rw[<-d];exact jS _ oZ
 have g:=aqw (cL a k) b t i s;rw[<-n]at g;have j:∀h:32<=95-k,ei BinOp.and dp ((a:Int)/2 ^ (95-k-32)) 1=(t:Int):=λh=>by
  have e:=arW a k oZ;rw[d]at e;have e2:((a:Int)/2 ^ (95-k-32))=((a/2 ^ (63-k):Nat):Int):=by rw[Int.natCast_ediv,Int.natCast_pow,show 95-k-32=63-k by omega];rfl
  have x:a/2 ^ (63-k)<=a:=eb _ _;rw[e2,anZ _ oZ,e]
 have p:¬32<=95-k->t=0:=λh=>by rw[<-d];exact arU a k oZ l
 generalize cL a k%b=r at*;generalize cL a k/b=q at*;have m:∃r2,2*r%18446744073709551616=r2/\r2%2=0:=⟨_,rfl,oZ⟩;obtain⟨r2,m,w⟩:=m;refine⟨r2,r2+t,if b<=2*r+t then 2*r+t-b else 2*r+t,if b<=2*r+t then 1 else 0,xC _ _ oZ,?_,?_,g.1,g.2⟩
 .by_cases h:32<=95-k
  .rcases(show t=0\/t=1 by omega)with o|c
   .refine .inr (.inl ⟨h,?_,oZ⟩);rw[j h,o];rfl
   .refine .inr (.inr ⟨h,?_,?_⟩)
    .rw[j h,c];rfl
    .rw[c];have:=or_one (r2/2) oZ (r2:Int) oZ;rw[this];omega
  .exact .inl ⟨oZ,by have:=p h;omega⟩
 .by_cases z:9223372036854775808<=r
  .have c:b<=2*r+t:=oZ;refine .inl ⟨by simp;omega,?_,aG c⟩;rw[aG c];exact xC _ _ oZ
  .have e:r2=2*r:=oZ;by_cases c:b<=2*r+t
   .refine .inr (.inl ⟨by simp;omega,by simp;omega,?_,aG c⟩);rw[aG c];exact xC _ _ oZ
   .exact .inr (.inr ⟨by simp;omega,by simp;omega,by rw[aD c];omega,aD c⟩)
theorem apy(a b:Nat)(s:a<=cN)(J:0<b)(L:b<=cN)(w:cY):dm cR 218 #[cJ cT a,cJ cT b] w λe w'=>e=cM (cJ cT (dT (a*cF/b)))/\w=w':=by
 have O:=apg a s;have M:=arV a;unfold cN at s L;obtain⟨V,f⟩:=nZ (dT (a*cF/b));have K:∀k,k<96->9223372036854775808<=cL a k/b->V=cN:=λk g h=>by rw[<-f];exact apx a b k g h
 have N:∀q,cL a 96/b=q->q<=18446744073709551615->V=q:=λq X Y=>by rw[<-f,<-M,X];exact zX Y
 rw[f];have m:=qZ O;have Q:=qZ K;have H:=qZ N;have F:=qZ (λk g=>ajh a b k s J L g);clear O K N M f;go_enter func218,ntmps218;go_wp2
 go_loop [5,6,7] (λx z i=>∃k q r:Nat,k<=96/\i=cJ du (95-(k:Int))/\x=cJ cT q/\z=cJ cT r/\q<=18446744073709551615/\r<=18446744073709551615/\cL a k/b=q/\cL a k%b=r) (λ_ _ i=>(intOf i+1).toNat)
 case atStart=>exact⟨0,0,0,oZ,rfl,rfl,rfl,oZ,oZ,by rw[m.out,Nat.zero_div],by rw[m.out,Nat.zero_mod]⟩
 case round=>
  obtain⟨k,q,r,g,rfl,rfl,rfl,aa,aj,c,l⟩:=hrel;by_cases j:k<96
  .obtain⟨r2,r3,ad,β,W,n,d,o,p⟩:=F.out k j;rw[l]at W d;rw[c]at o;have ak:ad<b:=by rw[<-p];exact jS _ J
   have al:β<=1:=by rcases d with h|h|h<;>omega
   have T:=qZ c;have af:=qZ l;have y:=qZ o;have A:=qZ p;obtain⟨i,hi⟩:=nZ (95-k);rw[hi]at n;have ah:(95:Int)-(k:Int)=(i:Int):=oZ;have ag:i<=95:=oZ;clear c l o p hi F m H;by_cases u:9223372036854775808<=q
   .have ae:decide ((9223372036854775808:Int)<=(q:Int))=cH:=by simp;omega
    have hv:=qZ (Q k j (by rw[T.out];exact u));clear u;rcases n with⟨c1,rfl⟩|⟨c2,c3,rfl⟩|⟨c2,c3,c4⟩<;>rcases d with⟨d1,d2,rfl⟩|⟨d1,d2,d3,rfl⟩|⟨d1,d2,rfl,rfl⟩
    all_goals
     go_wp2;go_ret;exact⟨gP (by rw[hv.out];rfl),rfl⟩
   .have ae:decide ((9223372036854775808:Int)<=(q:Int))=cD:=by simp;omega
    have ai:q<=9223372036854775807:=oZ;have Z:ei BinOp.or dp ((q:Int)*2) 1=((2*q+1:Nat):Int):=or_one q oZ _ oZ;obtain⟨ab,v⟩:=nZ (2*q+1);rw[v]at Z;have I:=qZ v;clear u v;rcases n with⟨c1,rfl⟩|⟨c2,c3,rfl⟩|⟨c2,c3,c4⟩<;>rcases d with⟨d1,d2,rfl⟩|⟨d1,d2,d3,rfl⟩|⟨d1,d2,rfl,rfl⟩
    all_goals
     go_wp2
     go_round
     case rel=>first|exact⟨k+1,ab,_,j,ret_val oZ,rfl,rfl,by have:=I.out;omega,oZ,by rw[y.out];have:=I.out;omega,A⟩|exact⟨k+1,2*q,_,j,ret_val oZ,ret_val oZ,rfl,oZ,oZ,y,A⟩
     case measure=>simp[intOf];omega
  .obtain rfl:k=96:=by omega
   have hv:=qZ (H q c aa);clear c l;go_wp2;go_ret;exact⟨gP (by rw[hv.out]),rfl⟩
theorem adr(a b:Nat)(c:a<=cN)(d:b<=cN):bW cR 219 #[cJ cT a,cJ cT b] (cJ cT (cX a b)):=.of_eq λw=>aiT a b c d w
theorem axw(n:Int)(a: -9223372036854775808<=n)(b:n<=9223372036854775807):bW cR 177 #[n] (cJ cT (bU n)):=.of_eq λw=>alT n a b w
theorem awh(a b:Nat)(f:a<=cN)(g:b<=cN):bW cR 175 #[cJ cT a,cJ cT b] (cJ cT (dt a b)):=by
 refine .of_eq λw=>?_;by_cases c:a=0
 .subst c;go_enter func175,ntmps175;go_wp2;go_ret;exact⟨rfl,rfl⟩
 have k:((a:Int)==0)=cD:=by simp;omega
 by_cases d:b=0
 .have hv:=qY (dt a b=18446744073709551615) (by rw[dt,aD c,aG d];rfl);have j:((b:Int)==0)=cH:=by simp;omega
  clear c d;go_enter func175,ntmps175;go_wp2;go_ret;exact⟨gP (by rw[hv.out];rfl),rfl⟩
 .have hv:=qY (dt a b=dT (a*cF/b)) (by rw[dt,aD c,aD d]);have j:((b:Int)==0)=cD:=by simp;omega
  have i:=qZ (λw=>apy a b f oZ g w);clear c d;go_enter func175,ntmps175;go_wp2_with fail;refine(i.out _).mono ?_;rintro e w1⟨rfl,rfl⟩;go_wp2;go_ret;exact⟨gP (by rw[hv.out]),rfl⟩
end sK
end
section
open Go.Proofs.Tryz
open Go
open Cfg L Ord Tree bM sK
variable{c:ds}{v:dj}{w:cY}
namespace bM
open Go.RowKit L
theorem abP(l:bX w v c)(n:Int):gX cR w 64 #[v,n] (.bool (iC c n)):=by
 intro w1 b;replace l:=l.below b;clear b;obtain⟨v1,v2,rfl,⟨A,cap,rfl,z,u⟩,J⟩:=l;have a:=qZ (ahJ c n);have F:=qZ z;obtain⟨N,j⟩:=nZ c.aP.length;have p:=qZ j;rw[j]at a u⊢;unfold maxLen at u;clear J z j;by_cases g:n<0
 .have T:decide (n<0)=cH:=by simpa using g
  go_enter func64,ntmps64;go_wp2_with fail;go_ret;exact⟨fJ (by rw[a.out,show decide (0<=n)=cD by simpa using g];simp),kp⟩
 .by_cases r:n<(N:Int)
  .have W:¬(N:Int)<=n:=oZ;go_enter func64,ntmps64;go_wp2_with fail
   go_loop [5] (λi=>∃k:Nat,i=cJ du (k:Int)/\k<=N/\Hid ((c.aP.take k).any (λx=>x.parent==n)=cD)) (λi=>N-(intOf i).toNat)
   case atStart=>exact⟨0,rfl,oZ,qZ sZ⟩
   case round=>
    obtain⟨k,rfl,Y,m⟩:=hrel;by_cases K:k<N
    .have f:k<c.aP.length:=by have:=p.out;omega
     obtain⟨H,o,rfl,aa,s⟩:=EL F f;have X:=s w1 (aJ _ _);have ab:¬H=(w1:Nat):=oZ;have M:=qZ (afV c.aP n k f);have Q:=qZ (λe=>anY (n:=n) f e);generalize c.aP[k].parent=y at*;clear s f;by_cases d:y=n
     .have O:=qZ (Q.out d);have b:(y==n)=cH:=by simpa using d
      clear d;go_wp2_with fail;go_ret;exact⟨fJ (by rw[a.out,O.out];simp),kp⟩
     .have b:(y==n)=cD:=by simpa using d
      have L:=qY ((c.aP.take (k+1)).any (λx=>x.parent==n)=cD) (by rw[M.out,m.out,b];rfl);clear d;go_wp2_with fail
      go_round
      case rel=>exact⟨k+1,mZ,oZ,L⟩
      case measure=>simp[intOf];omega
    .have I:=qY (c.aP.any (λx=>x.parent==n)=cD) (by have:=m.out;rwa [aT (by have:=p.out;omega)]at this);have Z:N<=k:=oZ;clear K;go_wp2_with fail;go_ret;exact⟨fJ (by rw[a.out,I.out,show decide (n<(N:Int))=cH by simpa using r,show decide (0<=n)=cH by simpa using g];rfl),kp⟩
  .go_enter func64,ntmps64;go_wp2_with fail;go_ret;exact⟨fJ (by rw[a.out,show decide (n<(N:Int))=cD by simpa using r];simp),kp⟩
end bM
namespace L
open Go Go.RowKit
section
variable {P:Program}
theorem aho{w:cY}{B:Nat}{v:dj}{xs:List dj}(t ty E:TypeId)(i:TypeInfo)(a:P.underlying t=di (.slice E))(hi:P.info? E=di i)(e:i.size=1)(h:fI w B E v xs)(c:Nat):(cU #[t,t] ty #[v,ac dz 0 c]).run P w=.ok v w:=by
 rcases h.2 with⟨rfl,d⟩|⟨g,cap,cur,rfl,_,_,b,_⟩
 .simp[cU,run_underlying a,sizeOf,typeInfo,hi,eg,dy,d]
 .simp[cU,run_underlying a,sizeOf,typeInfo,hi,eg,dy,b,storeCells]
theorem aar{w:cY}{B C:Nat}{v u:dj}{xs ys:List dj}(t ty E:TypeId)(i:TypeInfo)(z:dj)(bytes:Nat)(l:P.underlying t=di (.slice E))(hi:P.info? E=di i)(L:i.zero=di z)(f:i.size=1)(s:i.bytes=bytes)(M:z.cells.size=1)(h:fI w B E v xs)(k:fI w C E u ys)(p:B<=(w:Nat))(o:∀x∈ys,x.oneCell'=cH)(H:(xs.length+ys.length)*bytes<=140737488355328)(N:xs.length+ys.length<=140737488355328):∃v' w',(cU #[t,t] ty #[v,u]).run P w=.ok v' w'/\fI w' B E v' (xs++ys)/\w.grownBy w' v.ownBlock/\(∀k,v'.ownBlock=di k->v.ownBlock=di k\/(w:Nat)<=k):=by
 obtain⟨a,c,rfl,d⟩:=k.form;cases a with
 |none=>
  have I:ys=[]:=by
   rcases ys with _|⟨y,ys⟩
   .rfl
   .obtain⟨g,e,_⟩:=d sZ;cases e
  subst I;exact⟨v,w,aho t ty E i l hi f h c,by simpa using h,World.grownBy.refl w _,λk b=>.inl b⟩
 |some n=>
  obtain⟨v',w',K,J,F,_,r⟩:=run_append_own_at (P:=P) w B t ty E i z 1 bytes l hi L f s M oZ v xs.length xs h n ys.length c ys sZ
   (λj u m=>by obtain⟨g,e,_,A⟩:=d (by intro e;subst e;simp at m);injection e with e;subst e;rw[addr_add];exact A j u m) o (by unfold maxLen;omega) H p
  refine⟨v',w',K,?_,F,λk b=>?_⟩
  .unfold fI;rw[aW];exact J
  .rcases r with e|e
   .exact .inl (e▸b)
   .rw[e]at b;right;have:(w:Nat)=k:=by injection b
    omega
end
end L
namespace bM
open Go Go.RowKit L
theorem apO(w:cY)(k:Nat):nC (w.alloc (cI #[(k:Int)] 3)) (w:Nat) (ac w 1 1) [k]:=by refine⟨rfl,.inr ⟨(w:Nat),1,#[(k:Int)],rfl,bI _,heap_alloc_new w _,bI _,by unfold maxLen;omega,rfl,rfl⟩⟩
theorem ajz{B:Nat}{l:List Nat}(h:nC w B v l)(k:Nat)(u:l.length<=1000000):∃v' w',(cU #[36,36] 36 #[ac w 1 1,v]).run cR (w.alloc (cI #[(k:Int)] 3))=.ok v' w'/\nC w' (w:Nat) v' (k::l)/\cP w w w':=by
 obtain⟨i0,hi,p,r,s⟩:=info_parts zU;have a:cP w w (w.alloc (cI #[(k:Int)] 3)):=bZ;have f:nC (w.alloc (cI #[(k:Int)] 3)) B v l:=fI.below h a;have d:(ival l).length=l.length:=by simp[ival]
 have c:(ival [k]).length=1:=rfl;obtain⟨v',w',n,m,j,x⟩:=aar (P:=cR) 36 36 3 i0 _ 8 underlying36 hi p r s rfl (apO w k) f sZ (λy o=>by obtain⟨_,_,rfl⟩:=bL.1 o;rfl) (by rw[c,d];omega) (by rw[c,d];omega);have g:cP w w w':=a.trans ((aO.lG (F:=λb=>b=(w:Nat)) j (λi e=>by cases e;rfl)).below sZ λi e=>by rw[e];exact bI _);exact⟨v',w',n,m,g⟩
theorem PY(F:bX w v c)(ap:c.aP.length<=1000000)(t:Int):∀w1,cP w w w1->dm cR 68 #[v,t] w1 λe w'=>sU (cC c t) w1 e w':=by
 intro w1 Z;replace F:=F.below Z;clear Z;obtain⟨v1,v2,rfl,⟨A,ca,rfl,aj,aq⟩,⟨B,y,rfl,aw,ar⟩⟩:=F;obtain⟨M,W⟩:=nZ c.aQ.length;obtain⟨aI,af⟩:=nZ c.aI;obtain⟨aK,X⟩:=nZ c.aK;obtain⟨N,j⟩:=nZ c.aP.length;have L:=qZ j;have al:=qZ aj;rw[W,af,X];rw[j]at ap⊢;have an:=qY ((cC c t).length<=N) (by unfold cC;rw[dk,<-j];exact zK c t);have am:=qY (cC c t=(ep c t).reverse++[]) (by unfold cC;simp);generalize cC c t=PT at*;clear aj aq aw ar W af X j;have ad:=iB.new w1 (ac A N ca) (ac B M y) aI aK;have ab:cP w1 w1 (w1.alloc (cI #[ac A N ca,ac B M y,aI,aK] 26)):=bZ;go_enter func68,ntmps68;generalize ax:w1.alloc (cI #[ac A N ca,ac B M y,aI,aK] 26)=wq at*;have K:=qZ ad;have i:=qZ ab;clear ad ab;go_wp2_with fail;clear ax;go_loopw [1,5] (λn l wr=>∃(m:Int) (a:List Nat),n=cJ du m/\Hid (PT=(ep c m).reverse++a)/\nC wr (w1:Nat) l a/\cP wq wq wr) (λn _ _=>(intOf n+1).toNat);exact⟨t,[],rfl,am,fI.nil _ _ _,aJ _ _⟩
 obtain⟨m,a,rfl,r,g,b⟩:=hrel
 rename cY=>wr
 obtain⟨-,x0,bb,bc,bd⟩:=K.out.on b;have az:=qZ b;by_cases k:0<=m/\m<(N:Int)
 .obtain⟨o,a8⟩:=k;obtain⟨x,rfl⟩:=dX o;have u:x<c.aP.length:=by rw[L.out];omega
  have H:=XR c x u;obtain⟨a0,a9,rfl,a5,ae⟩:=EL al.out u;have Y:a.length<=1000000:=by have:=an.out;rw[r.out,aW]at this;omega
  obtain⟨ba,I,ai,z,aa⟩:=ajz g x Y;have s:cP wq wq I:=aA b aa;obtain⟨-,be,-,-,-⟩:=K.out.on s;have ag:=ae I (aA i.out s);rw[<-show ej c x=c.aP[x].parent by unfold ej;rw[aL,aH u,cW]]at ag;obtain⟨p,ah⟩:=nZ (ej c x);rw[ah]at ag H;have O:=qZ H;have T:=qZ (fI.low z (by have:=(aA i.out b).size;omega:(w1:Nat)<=(wr:Nat)));have Q:=qZ s;obtain⟨ak,c5,ao,-⟩:=fI.form z;obtain⟨J,c4,e4,-⟩:=fI.form g;subst ao e4;clear g b ae H z aa s ah u Y;by_cases f:(x:Int)<=p
  .have d:=qY (sU PT w1 (cM (ac ak (ival (x::a)).length c5)) I) (⟨_,rfl,by rw[r.out,O.out,aG f];exact T.out,aA i.out Q.out⟩);have av:decide ((x:Int)<=p)=cH:=by simpa using f
   clear f;go_wp2_with(at_builtin;refine dJ rfl (.tmp 17) (.tmp 18) _ _ rfl (ac wr 1 1) (ac J (ival a).length c4) rfl rfl ai ?_);go_ret;exact d.out
  .have d:=qY (PT=(ep c p).reverse++(x::a)) (by rw[r.out,O.out,aD f];simp);have av:decide ((x:Int)<=p)=cD:=by simpa using f
   have au:=qY ((p+1).toNat<((x:Int)+1).toNat) (by omega);clear f;go_wp2_with(at_builtin;refine dJ rfl (.tmp 17) (.tmp 18) _ _ rfl (ac wr 1 1) (ac J (ival a).length c4) rfl rfl ai ?_);go_roundw;exact⟨p,x::a,rfl,d,T.out,Q.out⟩;exact au.out
 .have d:=qY (sU PT w1 (cM u5) wr) (⟨_,rfl,by rw[r.out,OT c m (by rw[L.out];exact k)];simpa using g,aA i.out b⟩);clear g b;by_cases o:0<=m
  .have ay:decide (m<(N:Int))=cD:=by simp;omega
   clear k;go_wp2_with fail;go_ret;exact d.out
  .have ay:decide (0<=m)=cD:=by simpa using o
   clear k o;go_wp2_with fail;go_ret;exact d.out
end bM
variable{v1 v2:dj}{w1:cY}
namespace bM
open Go.RowKit L
theorem iB.all{b:Nat}{h a:Int}(x:iB w1 b v1 v2 h a):(∀W,aF w1 W->W.cell? (b,0)=di v1)/\(∀W,aF w1 W->W.cell? (b,1)=di v2)/\(∀W,aF w1 W->W.cell? (b,2)=di (cJ du h))/\(∀W,aF w1 W->W.cell? (b,3)=di (cJ du a)):=
 ⟨λW c=>(x.on c).2.1,λW c=>(x.on c).2.2.1,λW c=>(x.on c).2.2.2.1,λW c=>(x.on c).2.2.2.2⟩
open Go
theorem agE(a:bX w v c)(aj:c.aP.length<=1000000):∀w1,cP w w w1->dm cR 194 #[v] w1 λe w'=>JJ c w1 e w':=by
 intro w1 I;replace a:=a.below I;clear I;have o:=qZ (λn=>abP a n);obtain⟨v1,v2,rfl,⟨A,ca,rfl,ak,ah⟩,⟨B,b,rfl,al,ai⟩⟩:=id a;have L:Hid (iG c=qG c c.aP.length):=qZ rfl;generalize ae:c.aQ.length=M at*;obtain⟨N,F⟩:=nZ c.aP.length;rw[F]at o aj L⊢;obtain⟨aI,O⟩:=nZ c.aI;obtain⟨aK,H⟩:=nZ c.aK;rw[O,H]at o⊢;clear F ae ak al ah ai a O H;have K:=iB.new w1 (ac A N ca) (ac B M b) aI aK;have J:cP w1 w1 (w1.alloc (cI #[ac A N ca,ac B M b,aI,aK] 26)):=bZ;have z:nC (w1.alloc (cI #[ac A N ca,ac B M b,aI,aK] 26)) (w1:Nat) (ac dz 0 0) (qG c 0):=fI.nil _ _ _;go_enter func194,ntmps194;go_wp2_with fail;go_loopw [3,4] (λl i wr=>∃k:Nat,i=cJ du (k:Int)/\k<=N/\nC wr (w1:Nat) l (qG c k)/\l.ownBlock≠di (w1:Nat)/\cP w1 w1 wr/\iB wr (w1:Nat) (ac A N ca) (ac B M b) aI aK) (λ_ i _=>N-(intOf i).toNat);exact⟨0,rfl,oZ,z,by simp[Value.ownBlock],J,K⟩
 obtain⟨k,rfl,ar,g,r,d,Z⟩:=hrel;clear J K z;have x:=qZ Z;obtain⟨ax,x0,ao,ap,aq⟩:=Z;by_cases ag:k<N
 .have Y:=qZ (OC c k);have y:=qZ (o.out (k:Int));have av:=yP c k;generalize iC c (k:Int)=q at*;have ad:=qZ g;have m:=qZ r;clear g r;go_wp2_with fail;refine(y.out _ d).mono ?_;rintro e aa⟨rfl,f⟩;have p:=aA d f;have j:=x.out.on f;have s:nC aa (w1:Nat) u3 (qG c k):=ad.out.below f;clear d f x0 ao ap aq y x;cases q
  .go_wp2_with fail;go_roundw;exact⟨k+1,mZ,oZ,by rw[Y.out];exact s,m.out,p,j⟩;simp[intOf];omega
  .obtain⟨v',ay,am,X,af,Q,T⟩:=QN s p k oZ;have an:=j.bD Q m.out;have aw:=j.1;have W:v'.ownBlock≠di (w1:Nat):=λe=>by
    rcases T _ e with h|h
    .exact m.out h
    .omega
   have u:=qZ (aC X W);clear s p j X Q T W;go_wp2_with(at_builtin;refine dJ rfl (.tmp 15) (.tmp 17) _ _ rfl u3 (ac aa 1 1) rfl rfl am ?_);go_roundw;exact⟨k+1,mZ,oZ,by rw[Y.out];exact u.out.1,u.out.2,af,an⟩;simp[intOf];omega
 .have au:N<=k:=oZ;have ab:=qY (JJ c w1 (cM u3) wr) (⟨u3,rfl,by rw[L.out,show N=k by omega];exact g,d⟩);clear ag g r;go_wp2_with fail;go_ret;exact ab.out
theorem arL(d:bX w v c)(aa:c.aP.length<=1000000)(n:Int)(t:Nat):gX cR w 195 #[v,n,(t:Int)] (.bool (dV c n t)):=by
 intro w1 O;replace d:=d.below O;clear O;have I:=qZ (λW ah=>PY d aa (t:Int) W ah);obtain⟨v1,v2,rfl,⟨A,ca,rfl,am,aj⟩,⟨B,H,rfl,an,ak⟩⟩:=id d;generalize ag:c.aQ.length=M at*;obtain⟨N,f⟩:=nZ c.aP.length;obtain⟨aI,Z⟩:=nZ c.aI;obtain⟨aK,K⟩:=nZ c.aK;rw[f,Z,K]at I⊢;have ab:dV c n t=(cC c (t:Int)).any (λx=>(x:Int)==n):=by unfold dV cC;rw[List.any_reverse]
 have ad:=zK c (t:Int);have al:(cC c (t:Int)).length<=N:=by unfold cC;rw[dk,<-f];exact ad
 rw[ab];rw[f]at aa;clear f ag am an aj ak d Z K ab ad;generalize cC c (t:Int)=PT at*;obtain⟨Q,p⟩:=nZ (PT.any λx=>(x:Int)==n);have z:=qZ p;rw[p];clear p;have ai:=iB.new w1 (ac A N ca) (ac B M H) aI aK;have X:cP w1 w1 (w1.alloc (cI #[ac A N ca,ac B M H,aI,aK] 26)):=bZ;have F:=qZ X;obtain⟨a9,x0,aq,ar,au⟩:=ai;clear X;go_enter func195,ntmps195;go_wp2_with fail;refine(I.out _ F.out).mono ?_;rintro e ap⟨v2,rfl,J,T⟩;have u:=qZ (aA F.out T);obtain⟨av,c2,rfl,Y⟩:=pQ J;have af:=qZ Y;obtain⟨L,o⟩:=nZ PT.length;have y:=qZ o;have ax:L<=1000000:=oZ;rw[o];clear T J Y x0 aq ar au o al;go_wp2_with fail;go_loopw [8] (λi wr=>∃k:Nat,i=cJ du (k:Int)/\k<=L/\Hid ((PT.take k).any (λx=>(x:Int)==n)=cD)/\wr=ap) (λi _=>L-(intOf i).toNat);exact⟨0,rfl,oZ,qZ rfl,rfl⟩
 obtain⟨k,rfl,a5,ae,rfl⟩:=hrel;by_cases r:k<L
 .have g:k<PT.length:=by rw[y.out];exact r
  obtain⟨x,j⟩:=nZ (PT[k]);have l:PT[k]? =di x:=by rw[aH g,j]
  obtain⟨aw,rfl,az,a0,ay⟩:=af.out k x l;have s:PT.take (k+1)=PT.take k++[x]:=by rw[bF g,j]
  by_cases a:(x:Int)=n
  .have b:=qY (Q=cH) (by rw[<-z.out,lY];exact⟨x,gG l,by simpa using a⟩);have ao:((x:Int)==n)=cH:=by simpa using a
   have m:=b.out;subst m;clear l j s g a;go_wp2_with fail;go_ret;exact⟨rfl,u.out⟩
  .have b:=qY ((PT.take (k+1)).any (λx=>(x:Int)==n)=cD) (by rw[s,List.any_append,ae.out];simpa using a);have ao:((x:Int)==n)=cD:=by simpa using a
   clear l j s g a;go_wp2_with fail;go_roundw;exact⟨k+1,mZ,oZ,b,trivial⟩;simp[intOf];omega
 .have b:=qY (Q=cD) (by have:=ae.out;rw[aT (by rw[y.out];omega)]at this;rw[<-z.out,this]);have a8:decide (k<L)=cD:=by simpa using r
  have m:=b.out;subst m;clear r;go_wp2_with fail;go_ret;exact⟨rfl,u.out⟩
theorem akw(c:ds)(n:Int)(k:Nat):(kW c n k).length<=k:=by have:=eF (λt=>dV c n t) ((iG c).take k);unfold kW;rw[bO]at this;omega
theorem YS(d:bX w v c)(ap:c.aP.length<=1000000)(n:Int):∀w1,cP w w w1->dm cR 128 #[v,n] w1 λe w'=>sU (dl c n) w1 e w':=by
 intro w1 ag;replace d:=d.below ag;clear ag;have Z:=qZ (λW a=>agE d ap W a);have aa:=qZ (λt=>arL d ap n t);obtain⟨v1,v2,rfl,⟨A,ca,rfl,bi,be⟩,⟨B,s,rfl,bj,bf⟩⟩:=id d;have bg:(iG c).length<=1000000:=by have:=eF (λ(i:Nat)=>iC c (i:Int)) (cS c.aP.length);unfold iG;rw[List.length_range]at this;omega
 generalize bb:c.aQ.length=M at*;obtain⟨N,ae⟩:=nZ c.aP.length;obtain⟨aI,ao⟩:=nZ c.aI;obtain⟨aK,af⟩:=nZ c.aK;rw[ae,ao,af]at Z aa⊢;have a0:=qZ (UZ c n);generalize dl c n=TB at*;clear ae bb bi bj be bf d ao af;have f:=iB.new w1 (ac A N ca) (ac B M s) aI aK;have aj:cP w1 w1 (w1.alloc (cI #[ac A N ca,ac B M s,aI,aK] 26)):=bZ;go_enter func128,ntmps128;generalize bl:w1.alloc (cI #[ac A N ca,ac B M s,aI,aK] 26)=wq at*;have aw:=qZ f;have g:=qZ aj;obtain⟨bv,x0,bm,bn,bo⟩:=f;clear aj;go_wp2_with fail;refine(Z.out _ g.out).mono ?_;rintro e o⟨v2,rfl,ad,ah⟩;have r:=qZ ah;obtain⟨bp,c2,rfl,ak⟩:=pQ ad;have ax:=qZ ak;obtain⟨L,y⟩:=nZ ((iG c).length);have O:=qZ y;rw[y]at bg⊢;clear ah ad ak x0 bm bn bo y bl;go_wp2_with fail;go_loopw [5,7] (λl i wr=>∃k:Nat,i=cJ du (k:Int)/\k<=L/\nC wr (o:Nat) l (kW c n k)/\cP o o wr) (λ_ i _=>L-(intOf i).toNat);exact⟨0,rfl,oZ,fI.nil _ _ _,aJ _ _⟩
 obtain⟨k,rfl,bs,j,b⟩:=hrel
 rename cY=>wr
 by_cases z:k<L
 .have F:k<(iG c).length:=by rw[O.out];exact z
  have m:=RL c n k F;obtain⟨x,I⟩:=nZ ((iG c)[k]);rw[I]at m;have au:(iG c)[k]? =di x:=by rw[aH F,I]
  obtain⟨ab,rfl,br,an,al⟩:=ax.out k x au;have am:=(b.cell (p:=⟨ab,k,dz⟩) an).trans al;have bc:ab<(wr:Nat):=aM an b.size;have H:=aA r.out b;have f:=aw.out.on H;obtain⟨a5,a8,a9,ba⟩:=f.all;have Y:=λW (h:aF wr W)=>h.cell bc am;have u:=(aa.out x).on (aA g.out H);have bu:=akw c n k;obtain⟨q,ar⟩:=nZ (dV c n x);rw[ar]at m u;have X:=qZ m;have az:=qZ j;have av:=qZ b;have J:=qZ u;clear m I au al am ar F j b H f u;go_wp2_with fail;refine kK ?_;(repeat refine kY ?_);refine kM ?_ (h:=by intro W a;go_simp;first|exact(J.out.up (aJ _ _)) W a|exact⟨a,(J.out.up (aJ _ _)) W a⟩);(repeat refine kY ?_);refine eH ?_;intro W a;have bq:=Y W a;have K:=qZ (aA av.out a);have T:=qZ (fI.below az.out a);clear a5 a8 a9 ba Y a;cases q
  .go_wp2_with fail;go_roundw;exact⟨k+1,mZ,oZ,by rw[X.out];exact T.out,K.out⟩;simp[intOf];omega
  .obtain⟨v',bw,bk,aq,ai,bd,bh⟩:=QN (w1:=o) T.out K.out x oZ;have Q:=qZ (aC aq ai);clear aq ai bd bh;go_wp2_with(at_builtin;refine dJ rfl (.tmp 23) (.tmp 28) _ _ rfl u5 (ac W 1 1) rfl rfl bk ?_);go_roundw;exact⟨k+1,mZ,oZ,by rw[X.out];exact Q.out.1,Q.out.2⟩;simp[intOf];omega
 .have ay:=qY (sU TB w1 (cM u5) wr) (⟨_,rfl,by rw[<-a0.out k (by rw[O.out];omega)];exact fI.low j (by have:=(aA g.out r.out).size;omega),aA g.out (aA r.out b)⟩);have bt:decide (k<L)=cD:=by simpa using z
  clear z j b;go_wp2_with fail;go_ret;exact ay.out
end bM
namespace L
open Go Go.RowKit
variable {α:Type} {w w':cY} {B k:Nat} {E:TypeId} {v:dj} {dec:α->List dj} {xs ys:List α}
theorem gQ.dD{A:Option Addr}(h:gQ w A k dec xs){i:Nat}(hi:i<xs.length):∃b o,A=di ⟨b,o,dz⟩/\b<(w:Nat)/\∀w',cP w w w'->∀j u,(dec xs[i])[j]? =di u->w'.cell? ⟨b,o+i*k+j,dz⟩=di u:=by obtain⟨b,o,e,a,d⟩:=h (by intro e;subst e;simp at hi);exact⟨b,o,e,a,λw' c j u f=>(c.cell (p:=⟨b,_,dz⟩) a).trans (d i _ (aH hi) j u f)⟩
section
variable {P:Program}
end
end L
end
section
open Go.Proofs.Tryz
open Go
open Fix L Ord bM eZ sK
variable{c:ds}{h:List Nat}{v va:dj}{w:cY}
namespace eZ
open Go Go.RowKit L bM
theorem ael(f:bX w v c)(Y:c.aP.length<=1000000)(l:FSl w va h)(n:Int):gX cR w 176 #[v,va,n] (cJ cT (rT c h n:Nat)):=by
 intro w1 A;replace f:=f.below A;replace l:=l.below A;clear A;have o:=qZ (λW az=>YS f Y n W az);obtain⟨v1,v2,rfl,-⟩:=id f;obtain⟨D,cd,rfl,ai,a8,g⟩:=id l;have a9:=acO Y n;obtain⟨aI,ah⟩:=nZ c.aI;obtain⟨aK,Z⟩:=nZ c.aK;rw[ah,Z]at o⊢;have aw:=qZ (abD c h n);have av:=qZ (YE c h n);have aq:=qZ (aea c h n);have ar:=qZ ai;have ax:=qZ g;obtain⟨H,r⟩:=nZ h.length;have N:=qZ r;rw[r]at a8⊢;have be:=qY (((0:Nat):Int)=((sG c h n 0:Nat):Int)) rfl;obtain⟨S,z⟩:=nZ (rT c h n);have au:=qZ z;rw[z];clear ah Z ai g l z r f;have a0:=iB.new w1 v1 v2 aI aK;have ad:cP w1 w1 (w1.alloc (cI #[v1,v2,aI,aK] 26)):=bZ;go_enter func176,ntmps176;have T:=qZ ad;obtain⟨bm,x0,ba,bb,bc⟩:=a0;clear ad;go_wp2_with fail;refine(o.out _ T).mono ?_;rintro e al⟨v2,rfl,X,aa⟩;have M:=qZ (aA T aa);obtain⟨bd,c2,rfl,af⟩:=pQ X;have ao:=qZ af;obtain⟨L,u⟩:=nZ ((dl c n).length);have O:=qZ u;rw[u]at a9⊢;clear aa X af x0 ba bb bc u o;go_wp2_with fail;go_loopw [7,9] (λs i wr=>∃k:Nat,i=cJ du (k:Int)/\k<=L/\s=cJ cT (sG c h n k:Nat)/\cP al al wr) (λ_ i _=>L-(intOf i).toNat);exact⟨0,rfl,oZ,rfl,aJ _ _⟩
 obtain⟨k,rfl,bj,rfl,a⟩:=hrel
 rename cY=>wr
 by_cases F:k<L
 .have I:k<(dl c n).length:=by rw[O.out];exact F
  have b:=av.out k I;obtain⟨x,K⟩:=nZ ((dl c n)[k]);rw[K]at b;have aj:(dl c n)[k]? =di x:=by rw[aH I,K]
  obtain⟨ay,rfl,bi,a5,ag⟩:=ao.out k x aj;have bh:=(a.cell (p:=⟨ay,k,dz⟩) a5).trans ag;have m:=aq.out k;have Q:=qZ a;clear aj K ag I;obtain⟨s,J⟩:=nZ (sG c h n k);rw[J]at m b⊢;by_cases ak:x<H
  .have j:x<h.length:=by rw[N.out];exact ak
   obtain⟨bf,bn,rfl,bl,ae⟩:=KP ar j;have bg:=ae wr (aA M a);have g:h[x]<=cN:=ax _ (bB j);have d:=qY (sG c h n (k+1)=cX s h[x]) (by rw[b,aG j,aL,aH j];rfl);have am:=qZ (sK.adr s h[x] m g);generalize h[x]=y at*;clear b ae a J g m j;go_wp2_with fail;refine(am _).mono ?_;rintro e bo⟨rfl,ab⟩;have an:=qZ ab;clear ab;go_wp2_with fail;go_roundw;exact⟨k+1,mZ,oZ,by rw[d.out],aA Q an⟩;simp[intOf];omega
  .have d:=qY (sG c h n (k+1)=s) (by rw[b,aD (by rw[N.out];exact ak)]);clear b a J m;go_wp2_with fail;go_roundw;exact⟨k+1,mZ,oZ,by rw[d.out],Q⟩;simp[intOf];omega
 .have d:=qY (sG c h n k=S) (by rw[<-au.out];exact aw k (by rw[O.out];omega));have bk:decide (k<L)=cD:=by simpa using F
  have ap:=qZ (aA M a);clear F a;rw[d.out];go_wp2_with fail;go_ret;exact⟨rfl,ap⟩
theorem aiO(p:bX w v c)(au:c.aP.length<=1000000)(ad:WOk c)(o:FSl w va h)(n:Int):gX cR w 116 #[v,va,n] (cJ cT (aR c h n:Nat)):=by
 intro w1 M;replace p:=p.below M;replace o:=o.below M;clear M;have I:=qZ (ael p au o n);have F:=qZ (sK.axw (jH c n) (IC ad n).1 (IC ad n).2);have z:=qZ (sK.awh (rT c h n) (bU (jH c n)) (YD c h n) (MI _));obtain⟨D,cd,rfl,-⟩:=id o;obtain⟨v1,v2,rfl,⟨A,ca,rfl,ah,ay⟩,-⟩:=id p;obtain⟨aI,O⟩:=nZ c.aI;obtain⟨aK,L⟩:=nZ c.aK;obtain⟨H,K⟩:=nZ h.length;obtain⟨N,m⟩:=nZ c.aP.length;have a0:=qZ m;have an:=qZ ah;have aa:=qY (aR c h n=dt (rT c h n) (bU (jH c n))) rfl;obtain⟨az,Q⟩:=nZ (aR c h n);obtain⟨s,u⟩:=nZ (rT c h n);rw[O,L,K,m,u]at I;rw[Q,u]at aa;rw[u]at z;rw[O,L,K,m,Q];have aj:(0<=n/\n<(N:Int)->∃k:Nat,n=(k:Int)/\k<c.aP.length/\∃r:k<c.aP.length,jH c n=max 1 (c.aP[k]).jH):=λg=>by have r:n.toNat<c.aP.length:=oZ;refine⟨n.toNat,oZ,r,r,?_⟩;unfold jH;rw[aG oZ,aL,aH r,cW]
 have ai:¬(0<=n/\n<(N:Int))->jH c n=1:=λg=>by unfold jH;rw[aD (by rw[m];exact g)]
 generalize jH c n=wt at*;have aq:=qZ aj;have ap:=qZ ai;clear O L o K p ah ay m Q u aj ai;have av:=iB.new w1 (ac A N ca) v2 aI aK;have ae:cP w1 w1 (w1.alloc (cI #[ac A N ca,v2,aI,aK] 26)):=bZ;have f:=qZ ae;obtain⟨T,W,X,Y,Z⟩:=av;have gs:=I;have J:=qZ (z.val (show _=cJ cT (az:Int) by rw[aa.out]));clear ae z I;by_cases g:0<=n/\n<(N:Int)
 .obtain⟨k,rfl,ag,ax,y⟩:=aq.out g;obtain⟨a5,bb,rfl,a9,af⟩:=oH an ag;have ar:=(af _ f).2.1;have ao:=qZ y;clear y;generalize(c.aP[k]).jH=x at*;have ba:k<N:=oZ;have ab:(0:Int)<=(k:Int):=oZ;clear af ag ax g;go_enter func116,ntmps116;go_wp2_with fail;refine(gs.out _ f).mono ?_;rintro e ak⟨rfl,a⟩;have i:=qZ (aA f a);clear a ar T W X Y Z;go_wp2_with fail;rw[<-ao.out];refine(F _).mono ?_;rintro e al⟨rfl,b⟩;have j:=qZ (aA i b);clear b;go_wp2_with fail;refine(J.out _).mono ?_;rintro e am⟨rfl,d⟩;have l:=qZ (aA j d);clear d;go_wp2_with fail;go_ret;exact⟨rfl,l⟩
 .have y:=ap.out g;subst y;have aw:(0<=n/\¬n<(N:Int))\/¬0<=n:=oZ;clear g;rcases aw with⟨ab,a8⟩|ab
  .go_enter func116,ntmps116;go_wp2_with fail;refine(gs.out _ f).mono ?_;rintro e ak⟨rfl,a⟩;have i:=qZ (aA f a);clear a T W X Y Z;go_wp2_with fail;refine(F _).mono ?_;rintro e al⟨rfl,b⟩;have j:=qZ (aA i b);clear b;go_wp2_with fail;refine(J.out _).mono ?_;rintro e am⟨rfl,d⟩;have l:=qZ (aA j d);clear d;go_wp2_with fail;go_ret;exact⟨rfl,l⟩
  .go_enter func116,ntmps116;go_wp2_with fail;refine(gs.out _ f).mono ?_;rintro e ak⟨rfl,a⟩;have i:=qZ (aA f a);clear a T W X Y Z;go_wp2_with fail;refine(F _).mono ?_;rintro e al⟨rfl,b⟩;have j:=qZ (aA i b);clear b;go_wp2_with fail;refine(J.out _).mono ?_;rintro e am⟨rfl,d⟩;have l:=qZ (aA j d);clear d;go_wp2_with fail;go_ret;exact⟨rfl,l⟩
end eZ
end
section
open Go.Proofs.Tryz
open Go
open L Ord Quo Tree bM eZ sK
variable{c:ds}{h:List Nat}{v1 v2 vp vr:dj}{w:cY}
namespace eZ
open Go Go.RowKit L bM
theorem alN{ca:dj}{aN next:Int}(m:EA w v1 v2 ca c h)(a b:Int):gX cR w 56 #[eh #[v1,v2,c.aI,c.aK,aN,next,vp,vr,ca],a,b] (cJ du (dw c h a b)):=by
 intro w1 bw;replace m:=m.below bw;clear bw;have an:=qZ (λt W d=>PY m.cfg m.len t W d);have a9:=qZ (λn=>aiO m.cfg m.len m.wok m.hist n);have bh:∀t:Int,(cC c t).length<=1000000:=λt=>by have:=zK c t;have:=m.len;unfold cC;rw[dk];omega
 have cn:=qZ (aC (bh a) (bh b));have bk:=qY (dw c h a b=Ord.lex (aP c h) (cC c a) (cC c b)) rfl;have cl:=qZ (λx y:Nat=>show aP c h x y=ea (cE (aR c h (x:Int)) (aR c h (y:Int))) (cE x y)from rfl);obtain⟨aI,b6⟩:=nZ c.aI;obtain⟨aK,bv⟩:=nZ c.aK;obtain⟨D,cd,rfl,-⟩:=id m.hist;generalize h.length=H at*;rw[b6,bv]at an a9⊢;obtain⟨r,g⟩:=nZ (dw c h a b);rw[g]at bk⊢;have bl:=qZ (λW d=>an a W d);have bm:=qZ (λW d=>an b W d);clear an;generalize cC c a=PA at*;generalize cC c b=PB at*;clear m bh b6 bv g;have a0:=yK.new w1 31 v1 v2 aI aK aN next vp vr (ac D H cd)
 have ah:cP w1 w1 (w1.alloc (cI #[v1,v2,aI,aK,aN,next,vp,vr,ac D H cd] 31)):=bZ;go_enter func56,ntmps56;have co:=qZ (aC a0 ah);clear a0 ah;go_wp2_with fail;generalize w1.alloc (cI #[v1,v2,aI,aK,aN,next,vp,vr,ac D H cd] 31)=wq at*;obtain⟨a0,ah⟩:=co.out;obtain⟨x0,cb,cc,ce,cg,cx,cy,cz,c0,ch⟩:=a0;clear cy cz c0;have z:=qZ ah;clear ah;have bp:∀W,aF wq W->dm cR 68 #[eh #[v1,v2,aI,aK],a] W λe w'=>sU PA W e w':=λW d=>bl W (aA z d);have bq:∀W,aF wq W->dm cR 68 #[eh #[v1,v2,aI,aK],b] W λe w'=>sU PB W e w':=λW d=>bm W (aA z d);have X:=λW' (k:aF wq W')=>k.cell x0 cb;have Y:=λW' (k:aF wq W')=>k.cell x0 cc;have Z:=λW' (k:aF wq W')=>k.cell x0 ce;have aa:=λW' (k:aF wq W')=>k.cell x0 cg;have ab:=λW' (k:aF wq W')=>k.cell x0 ch;clear cb cc ce cg cx ch;refine UA [(0,cH),(1,cH),(2,cH),(4,cH),(5,cH),(6,cH),(3,cD),(7,cD),(8,cH),(9,cH)] kZ kZ ?_;(repeat apply IY;rfl;rfl;(focus(intro W d;go_simp;first|done|exact⟨rfl,rfl⟩|rfl));(focus(go_simp;first|done|rfl)));apply IZ;rfl;rfl;(focus(go_simp;first|done|exact⟨⟨rfl,rfl⟩,rfl⟩|rfl));refine(bp _ (aF.drew _)).mono ?_;rintro e dh⟨b9,rfl,br,ai⟩;refine⟨b9,rfl,aA (aF.drew wq) ai,?_⟩;apply IZ;rfl;rfl;(focus(go_simp;first|done|exact⟨⟨rfl,rfl⟩,rfl⟩|rfl));refine(bq _ (aA (aF.drew wq) ai)).mono ?_;rintro e a8⟨cv,rfl,bt,a5⟩;refine⟨cv,rfl,aA (aA (aF.drew wq) ai) a5,?_⟩;(repeat apply IY;rfl;rfl;(focus(intro W d;go_simp;first|done|exact⟨rfl,rfl⟩|rfl));(focus(go_simp;first|done|rfl)));refine aeC ?_;have b7:aF wq a8:=aA (aA (aF.drew wq) ai) a5;have T:=qZ b7;have bs:nC a8 wq.drew.heap.size b9 PA:=fI.below br a5;obtain⟨da,c1,rfl,b1⟩:=pQ bs;obtain⟨db,c2,rfl,b2⟩:=pQ bt;have ci:=qZ b1;have cj:=qZ b2;obtain⟨j,bd⟩:=nZ PA.length;obtain⟨l,be⟩:=nZ PB.length;have ba:=qZ bd;have ao:=qZ be;obtain⟨cs,ct⟩:=cn.out;have cm:=qZ (aC X (aC Y (aC Z (aC aa ab))));rw[bd]at cs⊢;rw[be]at ct⊢;clear br bs bt ai a5 b1 b2 bd be X Y Z aa ab b7 bp bq bl bm;go_wp2_with fail;go_loopw [9] (λi wr=>∃k:Nat,i=cJ du (k:Int)/\k<=j/\k<=l/\Hid (r=Ord.lex (aP c h) (PA.drop k) (PB.drop k))/\cP a8 a8 wr) (λi _=>j-(intOf i).toNat);exact⟨0,rfl,oZ,oZ,qZ (by simpa using bk.out),aJ _ _⟩
 obtain⟨k,rfl,dd,de,v,o⟩:=hrel;have A:=qZ o;by_cases af:k<j
 .by_cases ag:k<l
  .have aj:k<PA.length:=by rw[ba.out];exact af
   have ak:k<PB.length:=by rw[ao.out];exact ag
   obtain⟨x,bi⟩:=nZ (PA[k]);obtain⟨y,bj⟩:=nZ (PB[k]);have b4:PA.drop k=x::PA.drop (k+1):=by rw[<-bi];exact dM aj
   have b5:PB.drop k=y::PB.drop (k+1):=by rw[<-bj];exact dM ak
   have u:=v.out;rw[b4,b5,Ord.lex]at u;obtain⟨cp,rfl,-,bf,bz⟩:=ci.out k x (by rw[aH aj,bi]);obtain⟨cq,rfl,-,bg,b0⟩:=cj.out k y (by rw[aH ak,bj]);have ad:=λW (d:aF wr W)=>d.cell (aM bf o.size) ((o.cell (p:=⟨cp,k,dz⟩) bf).trans bz);have ae:=λW (d:aF wr W)=>d.cell (aM bg o.size) ((o.cell (p:=⟨cq,k,dz⟩) bg).trans b0);have b3:decide ((k:Int)<(j:Int))=cH:=by simpa using af
   have cr:decide ((k:Int)<(l:Int))=cH:=by simpa using ag
   have Q:=qZ (aC ad ae);clear bz b0 bf bg bi bj b4 b5 aj ak o ad ae;go_wp2_with fail;obtain⟨ad,ae⟩:=Q.out;refine kK ?_;(repeat refine kY ?_);refine eH ?_;intro W d;have ap:=qZ d;have F:=λW' (f:aF W W')=>ad W' (aA d f);have I:=λW' (f:aF W W')=>ae W' (aA d f);clear ad ae d Q;by_cases b8:x=y
   .subst b8;rw[aG rfl]at u;have O:=qZ u;have cu:((x:Int)==(x:Int))=cH:=sZ;clear u F I v;go_wp2_with fail;go_roundw;exact⟨k+1,mZ,oZ,oZ,O,aA A ap⟩;simp[intOf];omega
   .rw[aD b8,cl.out]at u;have cu:((x:Int)==(y:Int))=cD:=by simp;omega
    have bc:cP w1 w1 W:=aA (aA (aA z T) A) ap;have J:=(a9 (x:Int)).up bc;have K:=(a9 (y:Int)).up bc;have s:bW cR 57 #[(x:Int),(y:Int)] (cJ du (cE x y)):=.of_eq λw=>vM x y w;generalize aR c h (x:Int)=al at*;generalize aR c h (y:Int)=am at*;have O:=qZ u;have M:=aA (aA T A) ap;obtain⟨X,Y,Z,aa,ab⟩:=cm.out;have aq:=λW' (f:aF W W')=>X W' (aA M f);have ar:=λW' (f:aF W W')=>Y W' (aA M f);have au:=λW' (f:aF W W')=>Z W' (aA M f);have av:=λW' (f:aF W W')=>aa W' (aA M f);have aw:=λW' (f:aF W W')=>ab W' (aA M f);have N:=qZ s;have Q:=qZ (aC J (aC K (aC aq (aC ar (aC au (aC av (aC aw (aC F I))))))));clear u v s J K X Y Z aa ab aq ar au av aw M bc F I;go_wp2_with fail;obtain⟨J,K,aq,ar,au,av,aw,F,I⟩:=Q.out;refine kK ?_;(repeat refine kY ?_);refine kM ?_ (h:=by intro W d;go_simp;first|exact J W d|exact⟨d,J W d⟩);(repeat refine kY ?_);refine kM ?_ (h:=by intro W d;go_simp;first|exact K W d|exact⟨d,K W d⟩);(repeat refine kY ?_);refine eH ?_;intro bo az;have ax:=λW' (f:aF bo W')=>F W' (aA az f);have ay:=λW' (f:aF bo W')=>I W' (aA az f);have bb:=qZ (aA (aA (aA (aA z T) A) ap) az);have bn:=qZ (aC ax ay);clear J K aq ar au av aw F I ax ay Q az;by_cases df:al<am
    .have e1:cE (al:Int) (am:Int)= -1:=by unfold cE;rw[aG oZ]
     have g:r= -1:=by rw[O.out,e1];rfl
     subst g;go_wp2_with fail;go_ret;exact⟨rfl,bb⟩
    .by_cases dg:am<al
     .have e1:cE (al:Int) (am:Int)=1:=by unfold cE;rw[aD oZ,aG oZ]
      have g:r=1:=by rw[O.out,e1];rfl
      subst g;go_wp2_with fail;go_ret;exact⟨rfl,bb⟩
     .have e1:cE (al:Int) (am:Int)=0:=by unfold cE;rw[aD oZ,aD oZ]
      have g:cE x y=r:=by rw[O.out,e1];rfl
      have s:=N.out;rw[g]at s;go_wp2_with fail;obtain⟨ax,ay⟩:=bn.out;refine kK ?_;(repeat refine kY ?_);refine kM ?_ (h:=by intro W d;go_simp;first|exact bW.up s d|exact⟨d,bW.up s d⟩);(repeat refine kY ?_);refine eH ?_;intro dc bu;have ck:=qZ (aA bb bu);clear ax ay bn s bu;go_wp2_with fail;go_ret;exact⟨rfl,ck⟩
  .have g:cE (j:Int) (l:Int)=r:=by
    rw[v.out,show PB.drop k=[]from jA (by rw[ao.out];omega)];have aj:k<PA.length:=by rw[ba.out];exact af
    rw[dM aj];unfold cE;rw[aD oZ,aG oZ];rfl
   have N:Hid (∀w,dm cR 57 #[(j:Int),(l:Int)] w λe w'=>e=cM r/\w=w'):=qZ (λw=>by rw[<-g];exact vM j l w);have b3:decide ((k:Int)<(j:Int))=cH:=by simpa using af
   have cr:decide ((k:Int)<(l:Int))=cD:=by simpa using ag
   clear g o v;go_wp2_with fail;refine(N _).mono ?_;rintro e cw⟨rfl,rfl⟩;go_wp2_with fail;go_ret;exact⟨rfl,aA (aA z T) A⟩
 .have g:cE (j:Int) (l:Int)=r:=by
   rw[v.out,show PA.drop k=[]from jA (by rw[ba.out];omega)];unfold cE;by_cases ag:k<l
   .have ak:k<PB.length:=by rw[ao.out];exact ag
    rw[dM ak,aG oZ];rfl
   .rw[show PB.drop k=[]from jA (by rw[ao.out];omega),aD oZ,aD oZ];rfl
  have N:Hid (∀w,dm cR 57 #[(j:Int),(l:Int)] w λe w'=>e=cM r/\w=w'):=qZ (λw=>by rw[<-g];exact vM j l w);have b3:decide ((k:Int)<(j:Int))=cD:=by simpa using af
  clear g o v;go_wp2_with fail;refine(N _).mono ?_;rintro e cw⟨rfl,rfl⟩;go_wp2_with fail;go_ret;exact⟨rfl,aA (aA z T) A⟩
theorem aew{a8:dj}{aN next:Int}(aa:EA w v1 v2 a8 c h)(Y:NV c aN)(a b:eu)(ao:InI a.since)(aq:InI b.since):gX cR w 21 #[eh #[v1,v2,c.aI,c.aK,aN,next,vp,vr,a8],eh (eP a),eh (eP b)] (cJ du (ee c h aN a b)):=by
 intro w1 ar;replace aa:=aa.below ar;clear ar;have s:=qZ (alN (vp:=vp) (vr:=vr) (aN:=aN) (next:=next) aa a.dN b.dN);have ab:=qZ (aC (aeo v1 v2 c.aI c.aK aN a Y.aK Y.aN ao) (aeo v1 v2 c.aI c.aK aN b Y.aK Y.aN aq));have j:=qY (ee c h aN a b=if nS c aN a=cH/\nS c aN b=cD then-1 else if nS c aN b=cH/\nS c aN a=cD then 1 else if nS c aN a=cH then cE a.seq b.seq else ea (dw c h a.dN b.dN) (cE a.seq b.seq)) rfl;have af:=qZ (aC (show nS c aN a=ef c.aK aN a.since from rfl) (show nS c aN b=ef c.aK aN b.since from rfl));rw[<-af.out.1,<-af.out.2]at ab;obtain⟨r,i⟩:=nZ (ee c h aN a b);rw[i]at j⊢;generalize nS c aN a=x at*;generalize nS c aN b=y at*;generalize dw c h a.dN b.dN=t at*;obtain⟨aI,aw⟩:=nZ c.aI;obtain⟨aK,ap⟩:=nZ c.aK;obtain⟨D,cd,rfl,-⟩:=id aa.hist;generalize h.length=H at*;rw[aw,ap]at s ab⊢;clear aa Y ao aq aw ap i af;obtain⟨X1,n1⟩:=nZ (w1.alloc (cI #[v1,v2,aI,aK,aN,next,vp,vr,ac D H cd] 31));obtain⟨X2,n2⟩:=nZ (X1.alloc (cI (eP a) 44));obtain⟨X3,n3⟩:=nZ (X2.alloc (cI (eP b) 44));have br:X1.heap.size=(w1:Nat)+1:=by rw[<-n1];exact sZ
 have d:yK X3 (w1:Nat) v1 v2 aI aK aN next vp vr (ac D H cd):=(n1▸yK.new w1 31 v1 v2 aI aK aN next vp vr (ac D H cd):yK X1 (w1:Nat) v1 v2 aI aK aN next vp vr (ac D H cd)).below (by subst n3 n2;exact(bZ).alloc sZ _)
 have X:cP w1 w1 X3:=by subst n3 n2 n1;exact kp
 have Z:WX X3 ((w1:Nat)+1) a:=by subst n3 n2;rw[<-br];exact(Blk.new X1 44 (eP a)).alloc _
 have v:WX X3 ((w1:Nat)+1+1) b:=by subst n3 n2;have h:=Blk.new (X1.alloc (cI (eP a) 44)) 44 (eP b);simp only[bC,br]at h;exact h
 have am:=qZ (aC d (aC X (aC Z v)));subst n3 n2 n1;clear br d X Z v;obtain⟨a0,a1,a2,⟨a3,a4,bb⟩,a6,a7,bc,l,ba⟩:=a;obtain⟨bd,b1,b2,⟨b3,bf,bg⟩,bh,bi,bj,m,be⟩:=b;simp only[eP]at*;go_enter func21,ntmps21;go_wp2_with fail;generalize((w1.alloc (cI #[v1,v2,aI,aK,aN,next,vp,vr,ac D H cd] 31)).alloc (cI #[a0,a1,a2,a3,a4,bb,a6,a7,bc,l,ba] 44)).alloc (cI #[bd,b1,b2,b3,bf,bg,bh,bi,bj,m,be] 44)=g at*;obtain⟨d,X,Z,v⟩:=am.out;have a9:=qZ X;have bo:(w1:Nat)+1+1<(g:Nat):=Blk.lt v;have F:=λW' (k:aF g W')=>k.cell d.lt d.c0;have I:=λW' (k:aF g W')=>k.cell d.lt d.c1;have J:=λW' (k:aF g W')=>k.cell d.lt d.c2;have K:=λW' (k:aF g W')=>k.cell d.lt d.c3;have M:=λW' (k:aF g W')=>k.cell d.lt d.c4;have N:=λW' (k:aF g W')=>k.cell d.lt d.c5;have O:=λW' (k:aF g W')=>k.cell d.lt d.c6;have Q:=λW' (k:aF g W')=>k.cell d.lt d.c7;have T:=λW' (k:aF g W')=>k.cell d.lt d.c8;have A:=λW' (k:aF g W')=>Z.cells W' k;have B:=λW' (k:aF g W')=>v.cells W' k
 dsimp only at A B
 obtain⟨ag,ah⟩:=ab.out;have z:=qZ (aC F (aC I (aC J (aC K (aC M (aC N (aC O (aC Q (aC T (aC A B))))))))));clear d X Z v am ab N O Q T;refine kK ?_;(repeat refine kY ?_);refine kM ?_ (h:=by intro W f;go_simp;first|exact bW.up ag f|exact⟨f,bW.up ag f⟩);(repeat refine kY ?_);refine kM ?_ (h:=by intro W f;go_simp;first|exact bW.up ah f|exact⟨f,bW.up ah f⟩);(repeat refine kY ?_);refine eH ?_;intro W f;have al:=qZ f;clear ag ah F I J K M A B;obtain⟨F,I,J,K,M,N,O,Q,T,A,B⟩:=z.out;have ay:=F W f;have s1:=I W f;have s2:=J W f;have s3:=K W f;have s4:=M W f;have az:=N W f;have s6:=O W f;have s7:=Q W f;have a5:=T W f;obtain⟨-,ax,-,-,-,-,-,-,-,ak,-⟩:=A W f;obtain⟨-,p1,-,-,-,-,-,-,-,aj,-⟩:=B W f;clear F I J K M N O Q T A B f;have u:=qZ (aA a9 al);have bk:(w1:Nat)+1+1<(W:Nat):=by have:=al.size;omega
 cases x
 .cases y
  .have i:r=ea t (cE l m):=by rw[j.out];simp
   have an:=qZ (s W u);clear j s z;by_cases ai:t=0
   .have o:cE l m=r:=by rw[i,ea,aD oZ]
    have ad:Hid (∀w,dm cR 57 #[l,m] w λe w'=>e=cM r/\w=w'):=qZ (λw=>by rw[<-o];exact vM l m w);have bl:(t !=0)=cD:=by simp[ai]
    clear i o;go_wp2_with fail;refine an.out.mono ?_;rintro e bm⟨rfl,n⟩;have bq:=(n.cell (p:=⟨(w1:Nat)+1,9,dz⟩) (by show(w1:Nat)+1<(W:Nat);omega)).trans ak;have bp:=(n.cell (p:=⟨(w1:Nat)+1+1,9,dz⟩) bk).trans aj;have ae:=qZ (aA u n);clear n ay s1 s2 s3 s4 az s6 s7 a5 ax ak p1 aj;go_wp2_with fail;refine(ad _).mono ?_;rintro e bn⟨rfl,rfl⟩;go_wp2_with fail;go_ret;exact⟨rfl,ae⟩
   .have o:r=t:=by rw[i,ea,aG ai]
    have bl:(t !=0)=cH:=by simp[ai]
    subst o;go_wp2_with fail;refine an.out.mono ?_;rintro e bm⟨rfl,n⟩;have ae:=qZ (aA u n);clear n ay s1 s2 s3 s4 az s6 s7 a5 ax ak p1 aj i;go_wp2_with fail;go_ret;exact⟨rfl,ae⟩
  .have i:r=1:=by rw[j.out];simp
   subst i;clear j s z;go_wp2_with fail;go_ret;exact⟨rfl,u⟩
 .cases y
  .have i:r= -1:=by rw[j.out];simp
   subst i;clear j s z;go_wp2_with fail;go_ret;exact⟨rfl,u⟩
  .have o:cE l m=r:=by rw[j.out];simp
   have ad:Hid (∀w,dm cR 57 #[l,m] w λe w'=>e=cM r/\w=w'):=qZ (λw=>by rw[<-o];exact vM l m w);clear j s z o;go_wp2_with fail;refine(ad _).mono ?_;rintro e bn⟨rfl,rfl⟩;go_wp2_with fail;go_ret;exact⟨rfl,u⟩
end eZ
end
end Go.Proofs.YtedmeglbjmdlhaaGreatDoor
