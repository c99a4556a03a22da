/-
Parts of TopFirst.
-/
import Derived.Test.YtedmeglbjmdlhaaGreatDoorF0
import Derived.Shelf.SlSortCmp.Insertion
import Derived.SevenTiedAt
import Derived.Test.YtedmeglbjmdlhaaGreatDoorCards
set_option maxRecDepth 100000
set_option maxHeartbeats 16000000
set_option linter.all false
open Go.Proofs.Tryz
namespace Go.Proofs.YtedmeglbjmdlhaaGreatDoor
open Vec renaming zero->ac,V->an,add->bo,cut->bz
open Ord renaming P->ao,num->b6,cmp->b7
open Bool renaming true->ap,and_eq_true->ba,false->bd
open Go.Sort renaming insertionSort->aq,size_swp->bm,insInner->bO,insOuter->b4
open Cfg renaming C->ar,ok->bj,check->b5
open List renaming count->av,length_cons->aw,foldl_cons->ay,perm_append_comm->az,cons_append->bb,singleton_append->bg,replicate->bh,nil_append->bn,nodup_nil->br,find?_some->bT
open Option renaming some->ax,none->be
open _root_.Array renaming getElem_setIfInBounds->a8
open Hst renaming caps->bc,lY->bw
open Go.Proofs renaming ltOf->bf
open Nat renaming eq_or_lt_of_le->bi,sub_zero->b3
open Rows renaming topFirstSpec->bk
open Int renaming le_trans->bl,toNat_natCast->bu
open Led renaming U->bp,none_->bt,change->b0
open List.Perm renaming swap->bq
open Go
open Cfg Dec Jou Ord Quo Srt Top Vec rM topFirst
namespace Srt
open Go.Sort
variable {α:Type} [Inhabited α] {f:α->α->Int}
def jR(f:α->α->Int)(l l':List α):Prop:=∀x,l.filter (λy=>f x y==0)=l'.filter (λy=>f x y==0)
omit [Inhabited α]in
theorem jR.refl(l:List α):jR f l l:=λ_=>rfl
omit [Inhabited α]in
theorem jR.symm{l a:List α}(h:jR f l a):jR f a l:=λx=>(h x).symm
omit [Inhabited α]in
theorem jR.trans{l a b:List α}(h:jR f l a)(c:jR f a b):jR f l b:=λx=>(h x).trans (c x)
omit [Inhabited α]in
theorem jR.append{a b c d:List α}(h:jR f a b)(e:jR f c d):jR f (a++c) (b++d):=λx=>by rw[fU,fU,h x,e x]
omit [Inhabited α]in
theorem jR.swap(b:iQ f){u v:List α}(h:∀x∈u,∀y∈v,f y x<0):jR f (u++v) (v++u):=λz=>by
 rw[fU,fU];by_cases c:u.filter (λy=>f z y==0)=[]
 .rw[c];simp
 .obtain⟨x,a⟩:=List.exists_mem_of_ne_nil _ c;obtain⟨a,g⟩:=iF.1 a;have hv:v.filter (λy=>f z y==0)=[]:=by
   rw[nA];intro y d e;have h1:f z y=0:=by simpa using e
   have h2:f z x=0:=by simpa using g
   have i:=b.eq_left y h2;have j:=b.neg x y;have k:=h x a y d;omega
  rw[hv];simp
omit [Inhabited α]in
theorem jR.mem(b:iQ f){l a:List α}(h:jR f l a){x:α}(c:x∈l):x∈a:=by have h1:x∈l.filter (λy=>f x y==0):=iF.2 ⟨c,by simp[b.self]⟩;rw[h x]at h1;exact(iF.1 h1).1
omit [Inhabited α]in
theorem CO(a:iQ f):∀{l c:List α},l.Pairwise (λx y=>f x y<=0)->c.Pairwise (λx y=>f x y<=0)->jR f l c->l=c
 |[],[],_,_,_=>rfl
 |[],y::d,_,_,h=>by have:=h.symm.mem a (bJ ..);cases this
 |x::t,[],_,_,h=>by have:=h.mem a (bJ ..);cases this
 |x::t,y::d,h1,h2,h=>by
  have p1:=jY.1 h1;have p2:=jY.1 h2;have k:f y x<=0:=by
   rcases bH.1 (h.mem a (bJ ..))with e|e
   .rw[e,a.self];exact iR _
   .exact p2.1 _ e
  have m:f x y<=0:=by
   rcases bH.1 (h.symm.mem a (bJ ..))with e|e
   .rw[e,a.self];exact iR _
   .exact p1.1 _ e
  have g:f x y=0:=by have:=a.neg x y;omega
  have j:x=y:=by have:=h x;rw[lD (by simp[a.self]),lD (by simp[g])]at this;exact(List.cons.inj this).1
  subst j;have i:jR f t d:=λz=>by
   have:=h z;by_cases b:f z x=0
   .rw[lD (by simp[b]),lD (by simp[b])]at this;exact(List.cons.inj this).2
   .rwa [List.filter_cons_of_neg (by simp[b]),List.filter_cons_of_neg (by simp[b])]at this
  rw[CO a p1.2 p2.2 i]
def sg(d:Array α)(a n:Nat):List α:=(List.range n).map (λi=>d[a+i]!)
theorem wF(d:Array α)(a n m:Nat):sg d a (n+m)=sg d a n++sg d (a+n) m:=by unfold sg;rw[List.range_add,dO,List.map_map];congr 1;apply List.map_congr_left;intro i _;show d[a+(n+i)]! =d[a+n+i]!;rw[iY]
theorem vC{d d':Array α}{a a' n:Nat}(h:∀i,i<n->d'[a'+i]! =d[a+i]!):sg d' a' n=sg d a n:=by unfold sg;apply List.map_congr_left;intro i hi;exact h i (kQ.1 hi)
theorem SF{d:Array α}{a n:Nat}{x:α}:x∈sg d a n↔∃i,a<=i/\i<a+n/\d[i]! =x:=by
 unfold sg;rw[bU];constructor
 .rintro⟨i,hi,rfl⟩;exact⟨a+i,oZ,by have:=kQ.1 hi;omega,rfl⟩
 .rintro⟨i,h1,h2,rfl⟩;exact⟨i-a,kQ.2 oZ,by rw[show a+(i-a)=i by omega]⟩
theorem RO(d:Array α):sg d 0 d.size=d.toList:=by
 apply List.ext_getElem
 .simp[sg]
 .intro i h1 h2;simp only[sg,List.getElem_map,List.getElem_range,aO,Array.getElem_toList];exact bX d i (by simpa using h2)
def Sd(f:α->α->Int)(d:Array α)(a b:Nat):Prop:=∀i j,a<=i->i<j->j<b->f d[i]! d[j]! <=0
theorem Sd.le(e:iQ f){d:Array α}{a b:Nat}(h:Sd f d a b){i j:Nat}(h1:a<=i)(h2:i<=j)(c:j<b):f d[i]! d[j]! <=0:=by
 rcases bi h2 with rfl|h2
 .rw[e.self];exact iR _
 .exact h i j h1 h2 c
theorem Sd.sub{d:Array α}{a b a' c:Nat}(h:Sd f d a b)(h1:a<=a')(h2:c<=b):Sd f d a' c:=λi j hi e g=>h i j oZ e oZ
theorem Sd.shift{d d':Array α}{a b a':Nat}(h:Sd f d a b)(e:∀i,i<b-a->d'[a'+i]! =d[a+i]!){c:Nat}(g:c=a'+(b-a)):Sd f d' a' c:=by intro i j hi k l;have e1:=e (i-a') oZ;have e2:=e (j-a') oZ;rw[show a'+(i-a')=i by omega]at e1;rw[show a'+(j-a')=j by omega]at e2;rw[e1,e2];exact h _ _ oZ oZ oZ
theorem Sd.pairwise(d:Array α)(h:Sd f d 0 d.size):d.toList.Pairwise (λx y=>f x y<=0):=by rw[List.pairwise_iff_getElem];intro i j hi a b;have:=h i j (bI _) b (by simpa using a);rw[bX d i (by simpa using hi),bX d j (by simpa using a)]at this;simpa using this
theorem Sd.one(d:Array α){a b:Nat}(h:b<=a+1):Sd f d a b:=λi j _ _ _=>oZ
def rot(a m b k:Nat):Nat:=if a<=k/\k<a+(b-m)then k+(m-a)else if a+(b-m)<=k/\k<b then k-(b-m)else k
structure Rot (d d':Array α) (a m b:Nat):Prop where
 size:d'.size=d.size
 get:∀k,d'[k]! =d[rot a m b k]!
theorem Rot.self(d:Array α){a m b:Nat}(h:m<=a\/b<=m)(h2:a<=m)(c:m<=b):Rot d d a m b:=⟨rfl,λk=>by
 unfold rot;split
 .congr 1;omega
 .split
  .congr 1;omega
  .rfl⟩
section
variable {d d':Array α} {a m b:Nat} (h:Rot d d' a m b) (h1:a<=m) (h2:m<=b)
include h h1 h2
theorem Rot.fst{i:Nat}(hi:i<b-m):d'[a+i]! =d[m+i]! :=by have _:=h1;have _:=h2;rw[h.get,rot,aI oZ];congr 1;omega
theorem Rot.snd{i:Nat}(hi:i<m-a):d'[a+(b-m)+i]! =d[a+i]! :=by rw[h.get,rot,aF oZ,aI oZ];congr 1;omega
theorem Rot.out{i:Nat}(hi:i<a\/b<=i):d'[i]! =d[i]! :=by rw[h.get,rot,aF oZ,aF oZ]
theorem Rot.st(g:iQ f){p q:Nat}(u:p<=a)(v:b<=q)(hs:∀i j,a<=i->i<m->m<=j->j<b->f d[j]! d[i]! <0):jR f (sg d p (q-p)) (sg d' p (q-p)):=by
 have e:q-p=(a-p)+((m-a)+((b-m)+(q-b))):=oZ;have c:q-p=(a-p)+((b-m)+((m-a)+(q-b))):=oZ;have s1:sg d p (q-p)=sg d p (a-p)++((sg d a (m-a)++sg d m (b-m))++sg d b (q-b)):=by rw[e,wF,wF,wF,show p+(a-p)=a by omega,show a+(m-a)=m by omega,show m+(b-m)=b by omega,bM]
 have s2:sg d' p (q-p)=sg d p (a-p)++((sg d m (b-m)++sg d a (m-a))++sg d b (q-b)):=by rw[c,wF,wF,wF,show p+(a-p)=a by omega,show a+(b-m)+(m-a)=b by omega,bM];rw[vC (d:=d) (d':=d') (a:=p) (a':=p) λi hi=>h.out h1 h2 oZ,vC (d:=d) (d':=d') (a:=m) (a':=a) λi hi=>h.fst h1 h2 hi,vC (d:=d) (d':=d') (a:=a) (a':=a+(b-m)) λi hi=>h.snd h1 h2 hi,vC (d:=d) (d':=d') (a:=b) (a':=b) λi hi=>h.out h1 h2 oZ]
 rw[s1,s2];refine(jR.refl _).append (jR.append (jR.swap g ?_) (jR.refl _));intro x n y o;obtain⟨i,k,r,rfl⟩:=SF.1 n;obtain⟨j,l,s,rfl⟩:=SF.1 o;exact hs i j k oZ l oZ
end
structure Mrg (f:α->α->Int) (d d':Array α) (a b:Nat):Prop where
 size:d'.size=d.size
 out:∀k,k<a\/b<=k->d'[k]! =d[k]!
 st:jR f (sg d a (b-a)) (sg d' a (b-a))
 sorted:Sd f d' a b
theorem Mrg.same{d:Array α}{a b:Nat}(h:Sd f d a b):Mrg f d d a b:=⟨rfl,λ_ _=>rfl,jR.refl _,h⟩
theorem Mrg.from_(c:iQ f){d d':Array α}{a b:Nat}(h:Mrg f d d' a b){i:Nat}(h1:a<=i)(h2:i<b):∃j,a<=j/\j<b/\d'[i]! =d[j]! :=by have k:d'[i]! ∈sg d' a (b-a):=SF.2 ⟨i,h1,oZ,rfl⟩;obtain⟨j,g,l,e⟩:=SF.1 (h.st.symm.mem c k);exact⟨j,g,oZ,e.symm⟩
theorem Mrg.join(g:iQ f){d1 d2 d3:Array α}{a m b:Nat}(h1:a<=m)(h2:m<=b)(d:Mrg f d1 d2 a m)(c:Mrg f d2 d3 m b)(v:∀i j,a<=i->i<m->m<=j->j<b->f d1[i]! d1[j]! <=0):Mrg f d1 d3 a b where
 size:=c.size.trans d.size
 out:=λk x=>(c.out k oZ).trans (d.out k oZ)
 st:=by have e:b-a=(m-a)+(b-m):=oZ;rw[e,wF,wF,show a+(m-a)=m by omega];have e1:sg d3 a (m-a)=sg d2 a (m-a):=vC (λi hi=>c.out _ oZ);have e2:sg d2 m (b-m)=sg d1 m (b-m):=vC (λi hi=>d.out _ oZ);have:=c.st;rw[e2]at this;rw[e1];exact d.st.append this
 sorted:=by
  intro i j hi l n;by_cases u:j<m
  .rw[c.out i oZ,c.out j oZ];exact d.sorted i j hi l u
  .by_cases s:i<m
   .rw[c.out i oZ];obtain⟨w,a1,a2,p⟩:=d.from_ g hi s;obtain⟨o,b1,b2,r⟩:=c.from_ g (show m<=j by omega) n;rw[p,r,d.out o oZ];exact v w o a1 a2 b1 b2
   .exact c.sorted i j oZ l n
theorem xX(g:iQ f){d d1 d2 d3:Array α}{a m b s e mid:Nat}(N:a<=s)(hs:s<=m)(o:m<=e)(O:e<=b)(ad:mid=s+(e-m))(v:Sd f d a m)(w:Sd f d m b)(c1:a<s->e<b->0<=f d[e]! d[s-1]!)(c2:s<m->m<e->f d[e-1]! d[s]! <0)(R:Rot d d1 s m e)(I:Mrg f d1 d2 a mid)(K:Mrg f d2 d3 mid b):Mrg f d d3 a b:=by
 have strict:∀i j,s<=i->i<m->m<=j->j<e->f d[j]! d[i]! <0:=by
  intro i j hi y z ab;have F:=v.le g (show a<=s by omega) hi y;have H:=w.le g z (show j<=e-1 by omega) oZ;have ae:=c2 oZ oZ;have t4:=g.trans _ _ _ H (show f d[e-1]! d[s]! <=0 by omega);have aa:=g.trans _ _ _ t4 F;have n:=g.strict (a:=d[j]!) (b:=d[e-1]!) (c:=d[s]!) H oZ;have n2:=g.strict (a:=d[j]!) (b:=d[s]!) (c:=d[i]!) t4 F;rcases Int.lt_or_eq_of_le aa with h|h
  .exact h
  .have:=n2 h;have:=n this.1;omega
 have J:=I.join g oZ oZ K (by
  intro i j hi y z Y;have Q:∃l,d1[i]! =d[l]! /\((a<=l/\l<s)\/(m<=l/\l<e)):=by
   by_cases h:i<s
   .exact⟨i,R.out hs o (Or.inl h),Or.inl ⟨hi,h⟩⟩
   .refine⟨m+(i-s),?_,Or.inr ⟨oZ,oZ⟩⟩;have:=R.fst hs o (i:=i-s) oZ;rwa [show s+(i-s)=i by omega]at this
  have T:∃p,d1[j]! =d[p]! /\((s<=p/\p<m)\/(e<=p/\p<b)):=by
   by_cases h:j<e
   .refine⟨s+(j-mid),?_,Or.inl ⟨oZ,oZ⟩⟩;have:=R.snd hs o (i:=j-mid) oZ;rwa [show s+(e-m)+(j-mid)=j by omega]at this
   .exact⟨j,R.out hs o (Or.inr oZ),Or.inr ⟨oZ,Y⟩⟩
  obtain⟨l,L,W⟩:=Q;obtain⟨p,M,X⟩:=T;rw[L,M];rcases W with⟨r,A⟩|⟨r,A⟩<;>rcases X with⟨x,u⟩|⟨x,u⟩
  .exact v.le g r oZ u
  .have q:=c1 oZ oZ;have n:=g.neg d[e]! d[s-1]!;exact g.trans _ _ _ (g.trans _ _ _ (v.le g r (show l<=s-1 by omega) oZ) (show f d[s-1]! d[e]! <=0 by omega)) (w.le g o x u)
  .have:=strict p l x u r A;omega
  .exact w.le g r oZ u)
 exact⟨J.size.trans R.size,λk Z=>(J.out k Z).trans (R.out hs o oZ),(R.st hs o g N O strict).trans J.st,J.sorted⟩
theorem anG(d:Array α){j:Nat}(a:j+1<d.size):Rot d (swp d (j+1) j) j (j+1) (j+2):=⟨bm _ _ _,λk=>by
 rw[swp_get d a oZ];unfold rot;split
 .subst k;rw[aI oZ];congr 1;omega
 .split
  .subst k;rw[aF oZ,aI oZ];congr 1;omega
  .rw[aF oZ,aF oZ]⟩
theorem FM(l:iQ f)(a b:Nat):∀(j:Nat) (d:Array α),a<=j->j<b->b<=d.size->(bO (bf f) a j d).size=d.size/\(∀k,k<a\/b<=k->(bO (bf f) a j d)[k]! =d[k]!)/\jR f (sg d a (b-a)) (sg (bO (bf f) a j d) a (b-a))
 |0,d,_,_,_=>⟨rfl,λ_ _=>rfl,jR.refl _⟩
 |j+1,d,h1,h2,m=>by
  by_cases c:a<j+1/\bf f d[j+1]! d[j]! =ap
  .have R:=anG d (j:=j) oZ;have g:=FM l a b j (swp d (j+1) j) oZ oZ (by rw[bm];exact m);rw[insInner_go _ _ _ _ c.1 (by simpa using c.2)];refine⟨g.1.trans (bm _ _ _),λk n=>(g.2.1 k n).trans (R.out oZ oZ oZ),?_⟩;refine(R.st oZ oZ l oZ oZ ?_).trans g.2.2;intro i k o p r s;have:i=j:=by omega
   have:k=j+1:=by omega
   subst i k;exact of_decide_eq_true c.2
  .rw[insInner_stop]
   .exact⟨rfl,λ_ _=>rfl,jR.refl _⟩
   .by_cases h:a<j+1
    .right;have:¬bf f d[j+1]! d[j]! =ap:=λe=>c ⟨h,e⟩;simpa using this
    .left;omega
theorem FL(e:iQ f)(a b:Nat):∀(n i:Nat) (d:Array α),b-i<=n->a<=i->b<=d.size->(b4 (bf f) a b i d).size=d.size/\(∀k,k<a\/b<=k->(b4 (bf f) a b i d)[k]! =d[k]!)/\jR f (sg d a (b-a)) (sg (b4 (bf f) a b i d) a (b-a))
 |0,i,d,j,h1,h2=>by rw[insOuter_stop _ _ _ _ _ oZ];exact⟨rfl,λ_ _=>rfl,jR.refl _⟩
 |n+1,i,d,j,h1,h2=>by
  by_cases hi:i<b
  .have k:=FM e a b i d h1 hi h2;have c:=FL e a b n (i+1) (bO (bf f) a i d) oZ oZ (by rw[k.1];exact h2);rw[insOuter_go _ _ _ _ _ hi];exact⟨c.1.trans k.1,λq g=>(c.2.1 q g).trans (k.2.1 q g),k.2.2.trans c.2.2⟩
  .rw[insOuter_stop _ _ _ _ _ hi];exact⟨rfl,λ_ _=>rfl,jR.refl _⟩
omit [Inhabited α]in
theorem apj(a:iQ f):SWO (bf f) where
 irrefl:=λx=>by simp[bf,a.self]
 trans:=λx y z h1 h2=>by
  have h1:=of_decide_eq_true h1;have h2:=of_decide_eq_true h2;refine decide_eq_true ?_;have t:=a.trans x y z oZ oZ;rcases Int.lt_or_eq_of_le t with h|h
  .exact h
  .have:=a.strict (show f x y<=0 by omega) (show f y z<=0 by omega) h;omega
 ntrans:=λx y z h1 h2=>by have h1:=of_decide_eq_false h1;have h2:=of_decide_eq_false h2;refine dS ?_;have n1:=a.neg x y;have n2:=a.neg y z;have b:=a.neg x z;have t:=a.trans z y x oZ oZ;omega
theorem MF(c:iQ f)(d:Array α){a b:Nat}(g:a<=b)(e:b<=d.size):Mrg f d (aq (bf f) d a b) a b:=by have k:=FL c a b (b-(a+1)) (a+1) d lZ oZ e;have hs:=(insertionSort_holds (apj c) d a b g e).2;refine⟨k.1,k.2.1,k.2.2,λi j hi l m=>?_⟩;have:=of_decide_eq_false (hs i j hi l m);have n:=c.neg (aq (bf f) d a b)[i]! (aq (bf f) d a b)[j]!;omega
omit [Inhabited α]in
theorem afv(d:iQ f){l c g:List α}{x:α}(j:l=c++g)(h:l.Pairwise λx y=>f x y<=0)(h1:∀y∈c.getLast?,0<=f x y)(h2:∀y∈g,f x y<0):(c++([x]++g)).Pairwise (λx y=>f x y<=0)/\jR f (l++[x]) (c++([x]++g)):=by
 subst j;have e:=List.pairwise_append.1 h;have k:∀y∈c,f y x<=0:=by
  intro y a;rcases c.eq_nil_or_concat with rfl|⟨o,z,rfl⟩
  .cases a
  .have b:=h1 z sZ;have n:=d.neg z x;have m:y∈o\/y=z:=by simpa using a
   rcases m with i|i
   .have:=(List.pairwise_append.1 (by simpa using e.1)).2.2 y i z sZ;exact d.trans _ _ _ this (by have:=d.neg z x;omega)
   .subst i;omega
 refine⟨?_,?_⟩
 .rw[List.pairwise_append];refine⟨e.1,?_,?_⟩
  .rw[bg,jY];exact⟨λy a=>by have:=h2 y a;omega,e.2.1⟩
  .intro y a z b;rcases dM.1 b with b|b
   .have:z=x:=by simpa using b
    subst this;exact k y a
   .exact e.2.2 y a z b
 .rw[bM];refine(jR.refl _).append (jR.swap d ?_);intro y a z b;have:z=x:=by simpa using b
  subst this;exact h2 y a
open Go.Sort
variable {α:Type} [Inhabited α] {f:α->α->Int}
def xch(a b n k:Nat):Nat:=if a<=k/\k<a+n then k+(b-a)else if b<=k/\k<b+n then k-(b-a)else k
theorem xB(a b n k:Nat):(a<=k/\k<a+n/\xch a b n k=k+(b-a))\/(¬(a<=k/\k<a+n)/\b<=k/\k<b+n/\xch a b n k=k-(b-a))\/(¬(a<=k/\k<a+n)/\¬(b<=k/\k<b+n)/\xch a b n k=k):=by
 unfold xch;by_cases c:a<=k/\k<a+n
 .rw[aI c];exact .inl ⟨c.1,c.2,rfl⟩
 .rw[aF c];by_cases d:b<=k/\k<b+n
  .rw[aI d];exact .inr (.inl ⟨c,d.1,d.2,rfl⟩)
  .rw[aF d];exact .inr (.inr ⟨c,d,rfl⟩)
theorem sD(a m b k:Nat):(a<=k/\k<a+(b-m)/\rot a m b k=k+(m-a))\/(¬(a<=k/\k<a+(b-m))/\a+(b-m)<=k/\k<b/\rot a m b k=k-(b-m))\/(¬(a<=k/\k<a+(b-m))/\¬(a+(b-m)<=k/\k<b)/\rot a m b k=k):=by
 unfold rot;by_cases c:a<=k/\k<a+(b-m)
 .rw[aI c];exact .inl ⟨c.1,c.2,rfl⟩
 .rw[aF c];by_cases d:a+(b-m)<=k/\k<b
  .rw[aI d];exact .inr (.inl ⟨c,d.1,d.2,rfl⟩)
  .rw[aF d];exact .inr (.inr ⟨c,d,rfl⟩)
structure Xch (d d':Array α) (a b n:Nat):Prop where
 size:d'.size=d.size
 get:∀k,d'[k]! =d[xch a b n k]!
theorem Xch.none(d:Array α)(a b:Nat):Xch d d a b 0:=⟨rfl,λk=>by congr 1;rcases xB a b 0 k with h|h|h<;>omega⟩
theorem aaQ(d:Array α){i j:Nat}(hi:i<d.size)(c:j<d.size)(k:Nat):∃q,(swp d i j)[k]! =d[q]! /\((k=j/\q=i)\/(k≠j/\k=i/\q=j)\/(k≠j/\k≠i/\q=k)):=by
 rw[swp_get d hi c];by_cases a:k=j
 .rw[aI a];exact⟨i,rfl,.inl ⟨a,rfl⟩⟩
 .rw[aF a];by_cases b:k=i
  .rw[aI b];exact⟨j,rfl,.inr (.inl ⟨a,b,rfl⟩)⟩
  .rw[aF b];exact⟨k,rfl,.inr (.inr ⟨a,b,rfl⟩)⟩
theorem Xch.step{d d':Array α}{a b i:Nat}(h:Xch d d' a b i)(l:a+i<b)(m:b+i<d.size):Xch d (swp d' (a+i) (b+i)) a b (i+1):=⟨by rw[bm,h.size],λk=>by obtain⟨q,e,g⟩:=aaQ d' (i:=a+i) (j:=b+i) (by rw[h.size];omega) (by rw[h.size];omega) k;rw[e,h.get];congr 1;have c:=xB a b i q;have f:=xB a b (i+1) k;rcases g with g|g|g<;>rcases c with c|c|c<;>rcases f with f|f|f<;>omega⟩
def Left(d dk:Array α)(a m b i j:Nat):Prop:=dk.size=d.size/\∀d',Rot dk d' (m-i) m (m+j)->Rot d d' a m b
theorem Left.start(d:Array α){a m b:Nat}(c:a<=m)(e:m<=b):Left d d a m b (m-a) (b-m):=⟨rfl,λd' h=>by rwa [show m-(m-a)=a by omega,show m+(b-m)=b by omega]at h⟩
theorem Left.fst{d l n:Array α}{a m b i j:Nat}(h:Left d l a m b i j)(hi:i<=m)(p:j<i)(g:Xch l n (m-i) m j):Left d n a m b (i-j) j:=⟨g.size.trans h.1,λd' o=>h.2 d' ⟨o.size.trans g.size,λk=>by rw[o.get,g.get];congr 1;have c:=sD (m-(i-j)) m (m+j) k;have e:=xB (m-i) m j (rot (m-(i-j)) m (m+j) k);have f:=sD (m-i) m (m+j) k;rcases c with c|c|c<;>rcases e with e|e|e<;>rcases f with f|f|f<;>omega⟩⟩
theorem Left.snd{d l n:Array α}{a m b i j:Nat}(h:Left d l a m b i j)(hi:i<=m)(p:i<j)(g:Xch l n (m-i) (m+j-i) i):Left d n a m b i (j-i):=⟨g.size.trans h.1,λd' o=>h.2 d' ⟨o.size.trans g.size,λk=>by rw[o.get,g.get];congr 1;have c:=sD (m-i) m (m+(j-i)) k;have e:=xB (m-i) (m+j-i) i (rot (m-i) m (m+(j-i)) k);have f:=sD (m-i) m (m+j) k;rcases c with c|c|c<;>rcases e with e|e|e<;>rcases f with f|f|f<;>omega⟩⟩
theorem Left.done{d g f:Array α}{a m b i:Nat}(h:Left d g a m b i i)(hi:i<=m)(j:Xch g f (m-i) m i):Rot d f a m b:=h.2 f ⟨j.size,λk=>by rw[j.get];congr 1;have c:=xB (m-i) m i k;have e:=sD (m-i) m (m+i) k;rcases c with c|c|c<;>rcases e with e|e|e<;>omega⟩
theorem Rot.up{d g:Array α}{a k:Nat}(h:Rot d g a (a+1) (k+1))(m:k+1<d.size)(l:a<=k):Rot d (swp g k (k+1)) a (a+1) (k+2):=⟨(bm _ _ _).trans h.size,λx=>by obtain⟨q,e,f⟩:=aaQ g (i:=k) (j:=k+1) (by rw[h.size];omega) (by rw[h.size];omega) x;rw[e,h.get];congr 1;have b:=sD a (a+1) (k+1) q;have c:=sD a (a+1) (k+2) x;rcases f with f|f|f<;>rcases b with b|b|b<;>rcases c with c|c|c<;>omega⟩
theorem Rot.down{d f:Array α}{m k:Nat}(h:Rot d f (k+1) m (m+1))(l:m<d.size)(g:k+1<=m):Rot d (swp f (k+1) k) k m (m+1):=⟨(bm _ _ _).trans h.size,λx=>by obtain⟨q,e,c⟩:=aaQ f (i:=k+1) (j:=k) (by rw[h.size];omega) (by rw[h.size];omega) x;rw[e,h.get];congr 1;have a:=sD (k+1) m (m+1) q;have b:=sD k m (m+1) x;rcases c with c|c|c<;>rcases a with a|a|a<;>rcases b with b|b|b<;>omega⟩
section
variable (hf:iQ f) {d d1:Array α} {a m b:Nat}
include hf
theorem adB{i:Nat}(r:a+1=m)(e:m<=i)(j:i<=b)(g:Sd f d m b)(c1:i<b->0<=f d[i]! d[a]!)(c2:m<i->f d[i-1]! d[a]! <0)(R:Rot d d1 a m i):Mrg f d d1 a b:=by
 subst r;have w:Sd f d1 a (a+(i-(a+1))):=(g.sub lZ j).shift (λk s=>R.fst oZ e s) rfl;have z:Sd f d1 (a+(i-(a+1))) b:=by
  have o:d1[a+(i-(a+1))]! =d[a]! :=by have:=R.snd oZ e (i:=0) oZ;simpa using this
  intro x y A v l;have p:d1[y]! =d[y]! :=R.out oZ e oZ;rw[p];by_cases u:x=a+(i-(a+1))
  .subst u;rw[o];have n:=hf.neg d[i]! d[a]!;have c:=c1 oZ;exact hf.trans _ _ _ (show f d[a]! d[i]! <=0 by omega) (g.le hf e oZ l)
  .rw[R.out oZ e oZ];exact g x y oZ v l
 exact xX hf (bG a) oZ e j rfl (Sd.one d lZ) g (λh=>oZ) (λ_ h=>c2 h) R (Mrg.same w) (Mrg.same z)
theorem afN{i:Nat}(r:m+1=b)(j:a<=i)(e:i<=m)(g:Sd f d a m)(c1:a<i->0<=f d[m]! d[i-1]!)(c2:i<m->f d[m]! d[i]! <0)(R:Rot d d1 i m b):Mrg f d d1 a b:=by
 subst r;have z:Sd f d1 (i+(m+1-m)) (m+1):=(g.sub j lZ).shift (λk s=>R.snd e oZ s) oZ;have w:Sd f d1 a (i+(m+1-m)):=by
  have o:d1[i]! =d[m]! :=by have:=R.fst e oZ (i:=0) oZ;simpa using this
  intro x y l u A;have p:d1[x]! =d[x]! :=R.out e oZ oZ;rw[p];by_cases v:y=i
  .subst v;rw[o];have n:=hf.neg d[m]! d[y-1]!;have c:=c1 oZ;exact hf.trans _ _ _ (g.le hf l (show x<=y-1 by omega) oZ) (show f d[y-1]! d[m]! <=0 by omega)
  .rw[R.out e oZ oZ];exact g x y l u oZ
 exact xX hf j e oZ lZ rfl g (Sd.one d oZ) (λ_ h=>oZ) (λh _=>by simpa using c2 h) R (Mrg.same w) (Mrg.same z)
end
theorem apn{d d1:Array α}{a m b s e mid:Nat}(r:a<=s)(hs:s<=m)(c:m<=e)(u:e<=b)(v:mid=s+(e-m))(n:Sd f d a m)(o:Sd f d m b)(R:Rot d d1 s m e):Sd f d1 a s/\Sd f d1 s mid/\Sd f d1 mid e/\Sd f d1 e b:=by
 subst v;refine⟨?_,(o.sub lZ u).shift (λk l=>R.fst hs c l) rfl,(n.sub r lZ).shift (λk l=>R.snd hs c l) oZ,?_⟩
 .intro i j hi g p;rw[R.out hs c oZ,R.out hs c oZ];exact n i j hi g oZ
 .intro i j hi g p;rw[R.out hs c oZ,R.out hs c oZ];exact o i j oZ g p
theorem Mrg.sd{d d':Array α}{a b p q:Nat}(h:Mrg f d d' a b)(g:q<=a\/b<=p)(S:Sd f d p q):Sd f d' p q:=by intro i j hi c e;rw[h.out i oZ,h.out j oZ];exact S i j hi c e
inductive Bks (f:α->α->Int) (d:Array α) (k:Nat):Nat->Nat->Prop
 |nil (p:Nat):Bks f d k p p
 |cons {p q:Nat}:Sd f d p (p+k)->Bks f d k (p+k) q->Bks f d k p q
theorem Bks.le{d:Array α}{k p q:Nat}(h:Bks f d k p q):p<=q:=by
 induction h with
 |nil=>omega
 |cons _ _ a=>omega
theorem Bks.snoc{d:Array α}{k p q:Nat}(h:Bks f d k p q)(hs:Sd f d q (q+k)):Bks f d k p (q+k):=by
 induction h with
 |nil p=>exact .cons hs (.nil _)
 |cons a _ b=>exact .cons a (b hs)
theorem Bks.first{d:Array α}{k p q:Nat}(h:Bks f d k p q)(c:0<k)(e:p<q):Sd f d p (p+k)/\Bks f d k (p+k) q/\p+k<=q:=by
 cases h with
 |nil=>omega
 |cons b a=>exact⟨b,a,a.le⟩
theorem Bks.mrg{d d':Array α}{k p q a b:Nat}(M:Mrg f d d' a b)(h:Bks f d k p q)(i:q<=a\/b<=p):Bks f d' k p q:=by
 induction h with
 |nil=>exact .nil _
 |cons c e g=>
  have:=e.le;exact .cons (M.sd oZ c) (g oZ)
theorem Mrg.all{d d':Array α}{a b n:Nat}(M:Mrg f d d' a b)(c:a<=b)(g:b<=n):jR f (sg d 0 n) (sg d' 0 n):=by
 have e:n=a+((b-a)+(n-b)):=oZ;have s1:∀x:Array α,sg x 0 n=sg x 0 a++(sg x a (b-a)++sg x b (n-b)):=λx=>by
  conv=>lhs;rw[e]
  rw[wF,wF,aO,show a+(b-a)=b by omega]
 rw[s1,s1,vC (d:=d) (d':=d') (a:=0) (a':=0) (n:=a) λi hi=>M.out _ oZ,vC (d:=d) (d':=d') (a:=b) (a':=b) (n:=n-b) λi hi=>M.out _ oZ];exact(jR.refl _).append (M.st.append (jR.refl _))
structure Lot (f:α->α->Int) (d0 d:Array α) (k n a q:Nat):Prop where
 size:d.size=d0.size
 st:jR f (sg d0 0 n) (sg d 0 n)
 low:Bks f d (k+k) 0 a
 high:Bks f d k a q
 rest:Sd f d q n
 qn:q<=n
 nq:n<q+k
structure Lot0 (f:α->α->Int) (d0 d:Array α) (k n a:Nat):Prop where
 size:d.size=d0.size
 st:jR f (sg d0 0 n) (sg d 0 n)
 low:Bks f d k 0 a
theorem Lot0.start(d:Array α)(k n:Nat):Lot0 f d d k n 0:=⟨rfl,jR.refl _,.nil _⟩
theorem Lot0.step{b d d':Array α}{k n a:Nat}(h:Lot0 f b d k n a)(M:Mrg f d d' a (a+k))(c:a+k<=n):Lot0 f b d' k n (a+k):=
 ⟨M.size.trans h.size,h.st.trans (M.all oZ c),(h.low.mrg M (.inl lZ)).snoc M.sorted⟩
theorem Lot0.done{b d d':Array α}{k n a:Nat}(h:Lot0 f b d k n a)(M:Mrg f d d' a n)(c:a<=n)(e:n<a+k):Lot f b d' k n 0 a:=
 ⟨M.size.trans h.size,h.st.trans (M.all c lZ),.nil _,h.low.mrg M (.inl lZ),M.sorted,c,e⟩
theorem Lot.two{e d:Array α}{k n a q:Nat}(h:Lot f e d k n a q)(c:0<k)(i:a+(k+k)<=n):Sd f d a (a+k)/\Sd f d (a+k) (a+(k+k)):=by have:=h.nq;have b:=h.high.first c oZ;have g:=b.2.1.first c oZ;exact⟨b.1,by simpa[iY]using g.1⟩
theorem Lot.step{b d d':Array α}{k n a q:Nat}(h:Lot f b d k n a q)(e:0<k)(j:a+(k+k)<=n)(M:Mrg f d d' a (a+(k+k))):Lot f b d' k n (a+(k+k)) q:=by
 have:=h.nq;have g:=h.high.first e oZ;have i:=g.2.1.first e oZ;have c:Bks f d k (a+(k+k)) q:=by simpa[iY]using i.2.1
 have:=c.le;exact⟨M.size.trans h.size,h.st.trans (M.all oZ j),(h.low.mrg M (.inl lZ)).snoc M.sorted,c.mrg M (.inr lZ),M.sd (.inr oZ) h.rest,h.qn,h.nq⟩
theorem Lot.last{g d:Array α}{k n a q:Nat}(h:Lot f g d k n a q)(c:0<k)(m:n<a+(k+k))(l:a+k<n):Sd f d a (a+k)/\Sd f d (a+k) n:=by
 have:=h.nq;have:=h.qn;have b:=h.high.first c oZ;rcases bi b.2.2 with e|j
 .exact⟨b.1,e▸h.rest⟩
 .have i:=b.2.1.first c j;have:=i.2.2;omega
theorem Lot.next{b d d':Array α}{k n a q:Nat}(h:Lot f b d k n a q)(c:a<=n)(e:n<a+(k+k))(M:Mrg f d d' a n):Lot f b d' (k+k) n 0 a:=
 ⟨M.size.trans h.size,h.st.trans (M.all c lZ),.nil _,h.low.mrg M (.inl lZ),M.sorted,c,e⟩
theorem Lot.one{b d:Array α}{k n a q:Nat}(h:Lot f b d k n a q)(g:0<k)(j:n<=a+k):Sd f d a n:=by
 have:=h.nq;have:=h.qn;have:=h.high.le;rcases bi h.high.le with e|i
 .exact e▸h.rest
 .have c:=h.high.first g i;have:a+k=n:=by omega
  exact this▸c.1
theorem Lot.whole(hf:iQ f){a d:Array α}{k q:Nat}(h:Lot f a d k a.size 0 q)(c:0<k)(g:a.size<=k):d=aq (bf f) a 0 a.size:=by have s:=h.one c oZ;have M:=MF hf a (bI a.size) lZ;have e1:d.size=a.size:=h.size;have e2:=M.size;refine Array.toList_inj.1 (CO hf (Sd.pairwise d (by rw[e1];exact s)) (Sd.pairwise _ (by rw[e2];exact M.sorted)) ?_);have b:=M.st;have e:=h.st;rw[b3]at b;rw[<-RO,<-RO,e1,e2];exact e.symm.trans b
open Go.Sort
variable {α:Type} [Inhabited α] {f:α->α->Int}
def oO(f:α->α->Int)(x:α)(l:List α):Nat->Nat
 |0=>0
 |k+1=>if f x (l.getD k default)<0 then oO f x l k else k+1
def lH(f:α->α->Int)(l:List α)(x:α):List α:=l.take (oO f x l l.length)++([x]++l.drop (oO f x l l.length))
def tJ(f:α->α->Int)(xs:List α):List α:=xs.foldl (lH f) []
theorem DK(x:α)(l:List α):∀k,oO f x l k<=k
 |0=>bG _
 |k+1=>by
  unfold oO;split
  .exact Nat.le_succ_of_le (DK x l k)
  .exact bG _
theorem OE(x:α)(l:List α):∀k,(∀i,oO f x l k<=i->i<k->f x (l.getD i default)<0)/\(0<oO f x l k->0<=f x (l.getD (oO f x l k-1) default))
 |0=>⟨λi _ h=>oZ,λh=>by simp[oO]at h⟩
 |k+1=>by
  have b:=OE x l k;unfold oO;split
  .rename_i h;refine⟨λi a c=>?_,b.2⟩;by_cases e:i=k
   .rw[e];exact h
   .exact b.1 i a oZ
  .rename_i h;refine⟨λi a c=>oZ,λ_=>by rw[gN];omega⟩
theorem ail(l:List α)(x:α):(lH f l x).length=l.length+1:=by have:=DK (f:=f) x l l.length;simp[lH];omega
theorem getD_at(l:List α){i:Nat}(h:i<l.length):l.getD i default=l[i]:=by simp[h]
theorem abt(d:iQ f)(l:List α)(x:α)(h:l.Pairwise λx y=>f x y<=0):(lH f l x).Pairwise (λx y=>f x y<=0)/\jR f (l++[x]) (lH f l x):=by
 have hs:=OE (f:=f) x l l.length;have g:=DK (f:=f) x l l.length;refine afv d (gX _ l).symm h (λy a=>?_) λy a=>?_
 .have j:0<oO f x l l.length:=by
   rcases jF (oO f x l l.length)with e|e
   .rw[e]at a;simp at a
   .exact e
  have c:=hs.2 j;rw[getD_at l oZ]at c;rw[List.getLast?_eq_getElem?,bN,gV g]at a;rw[dU,aI oZ,aH oZ]at a;have:l[oO f x l l.length-1]=y:=by simpa using a
  rw[<-this];exact c
 .obtain⟨i,hi,e⟩:=kX a;rw[List.getElem_drop]at e;have b:=hs.1 (oO f x l l.length+i) oZ (by simp at hi;omega);rw[getD_at l (by simp at hi;omega),e]at b;exact b
theorem zB(a:iQ f):∀(xs l:List α),l.Pairwise (λx y=>f x y<=0)->(xs.foldl (lH f) l).Pairwise (λx y=>f x y<=0)/\jR f (l++xs) (xs.foldl (lH f) l)
 |[],l,h=>⟨h,by rw[eZ];exact jR.refl _⟩
 |x::xs,l,h=>by
  have p:=abt a l x h;have b:=zB a xs (lH f l x) p.1;refine⟨b.1,?_⟩;have:l++x::xs=(l++[x])++xs:=by simp
  rw[this];exact(p.2.append (jR.refl xs)).trans b.2
theorem adx(a:iQ f)(xs:List α):tJ f xs=(aq (bf f) xs.toArray 0 xs.length).toList:=by
 have M:=MF a xs.toArray (bI xs.length) sZ;have F:=zB a xs [] List.Pairwise.nil;have hs:=M.size;have e2:(aq (bf f) xs.toArray 0 xs.length).size=xs.length:=by rw[hs];simp
 refine CO a F.1 (Sd.pairwise _ (by rw[e2];exact M.sorted)) ?_;have st:=M.st;rw[b3]at st;have a1:sg xs.toArray 0 xs.length=xs:=by have:=RO xs.toArray;simpa using this
 have a2:sg (aq (bf f) xs.toArray 0 xs.length) 0 xs.length=(aq (bf f) xs.toArray 0 xs.length).toList:=by have:=RO (aq (bf f) xs.toArray 0 xs.length);rwa [e2]at this
 rw[a1,a2]at st;have b:=F.2;rw[bn]at b;exact b.symm.trans st
theorem afx(xs:List α):(tJ f xs).length=xs.length:=by
 have:∀(xs l:List α),(xs.foldl (lH f) l).length=l.length+xs.length:=by
  intro xs;induction xs with
  |nil=>intro l;simp
  |cons x xs a=>intro l;rw[ay,a,ail,aw];omega
 simpa[tJ]using this xs []
theorem NQ(xs:List α){k:Nat}(a:k<xs.length):tJ f (xs.take (k+1))=lH f (tJ f (xs.take k)) xs[k]:=by unfold tJ;rw[bE a,fB];rfl
end Srt
namespace Top
open Go.Proofs.YtedmeglbjmdlhaaGreatDoor
structure R where
 p:Ord.P
 start:Int
 flavor:Int
 aR:List Int
structure E where
 kind:Int
 id:Int
 n:Int
deriving DecidableEq
structure S where
 c:Cfg.C
 aQ:Int
 next:Int
 ps:List Ord.P
 rs:List R
 h:List Nat
def noC:ar:=⟨[],[],0,0⟩
def new:S:=⟨noC,0,1,[],[],[]⟩
def kM(p:ao):an:=Vec.nI p.need p.fG
def used(c:ar)(rs:List R):List an:=Led.all c (rs.foldl (λu r=>b0 c u r.p.dI λa=>bo a (kM r.p)) bt)
def free(c:ar)(rs:List R):List an:=Hst.free c.aR (rs.map λr=>(r.p.need,r.aR))
def iT(n f k:Int):Int:=if 0<k then min n (f/k)else n
def room(f k:an):Int:=if Vec.dX k f then iT (iT (iT 16 f.x k.x) f.y k.y) f.z k.z else 0
def iJ(free:List an)(need:an)(fG:Int):List Nat->List Int->List Int
 |[],out=>out
 |h::t,out=>iJ free need fG t (if h<free.length then out++bh (min (room (free.getD h ac) need) (fG-out.length)).toNat (h:Int)else out)
def mF(free:List an)(p:ao)(group:List Nat):Option (List Int):=
 let l:=iJ free p.need p.fG group []
 if(l.length:Int)<p.fG then be else ax l
def oV(free:List an)(p:ao):List (List Nat)->Option (List Int×List Nat)
 |[]=>be
 |g::gs=>match mF free p g with
  |some l=>ax (l,g)
  |none=>oV free p gs
def IK(c:ar)(g:List Nat):Int:=(c.aR.getD (g.headD 0) default).flavor
def pK(c:ar)(free:List an)(p:ao):Nat->Int->Option (Int×List Int)
 |0,_=>be
 |n+1,aP=>match oV free p (bw c.aR aP)with
  |some (l,g)=>ax (IK c g,l)
  |none=>pK c free p n (aP+1)
def find(c:ar)(free:List an)(p:ao):Option (Int×List Int):=pK c free p (min p.aP 3-max p.prefer 0+1).toNat (max p.prefer 0)
def dX(c:ar)(rs:List R)(p:ao):Option (Int×List Int):=if Quo.may c (used c rs) p.dI (kM p)then find c (free c rs) p else be
def kF(r:R):Int:=r.start+r.p.run
def dR(rs:List R)(t:Int):List R:=rs.filter λr=>decide (t<kF r)
def vZ(n:Int):List Int->List Int
 |[]=>[n]
 |x::t=>if n<x then n::x::t else x::vZ n t
def zU(l:List Int):List Int:=l.foldr vZ []
def rF(rs:List R)(aQ:Int):List Int:=rs.foldl (λl r=>if decide (aQ<kF r)&& !(l.contains (kF r))then l++[kF r]else l) []
def ends(rs:List R)(aQ:Int):List Int:=zU (rF rs aQ)
def rR(c:ar)(rs:List R)(p:ao):List Int->Option Int
 |[]=>be
 |t::ts=>match dX c (dR rs t) p with
  |some _=>ax t
  |none=>rR c rs p ts
def start(c:ar)(aQ:Int)(rs:List R)(p:ao):Option Int:=rR c rs p (aQ::ends rs aQ)
def never(c:ar)(p:ao):Bool:=(dX c [] p).isNone
def vT(aQ:Int)(p:ao)(start:Int):Bool:=decide (aQ+p.run<=start)
def oC:List ao->Int->Option Nat
 |[],_=>be
 |p::t,id=>if p.id=id then ax 0 else(oC t id).map (· +1)
def nG(p:ao):List ao->List ao
 |[]=>[p]
 |x::t=>if p.seq<x.seq then p::x::t else x::nG p t
def mE:List ao->Int->List ao
 |[],_=>[]
 |p::t,id=>if p.id=id then t else p::mE t id
def later(a b:R):Bool:=decide (Ord.or2 (b6 b.start a.start) (b6 b.p.seq a.p.seq)<0)
def dH(rs:List R)(cB:List Int):List R:=rs.filter λr=> !cB.contains r.p.id
def upH{α:Type}[Inhabited α](less:α->α->Bool):Nat->Nat->Array α->Array α
 |0,_,l=>l
 |f+1,i,l=>if 0<i then(if less l[i]! l[(i-1)/2]! then upH less f ((i-1)/2) ((l.setIfInBounds i l[(i-1)/2]!).setIfInBounds ((i-1)/2) l[i]!)else l)else l
def nY{α:Type}[Inhabited α](less:α->α->Bool)(l:Array α)(x:α):Array α:=upH less l.size l.size (l.push x)
def sO{α:Type}[Inhabited α](less:α->α->Bool)(n:Nat):Nat->Nat->Array α->Array α
 |0,_,l=>l
 |f+1,i,l=>if 2*i+1<n then
   let k:=if 2*i+2<n&&less l[2*i+2]! l[2*i+1]! then 2*i+2 else 2*i+1
   if less l[k]! l[i]! then sO less n f k ((l.setIfInBounds i l[k]!).setIfInBounds k l[i]!)else l
  else l
def qK{α:Type}[Inhabited α](less:α->α->Bool)(l:Array α):Array α:=sO less (l.size-1) (l.size-1) 0 ((l.setIfInBounds 0 l[l.size-1]!).pop)
def uF{α:Type}[Inhabited α](less:α->α->Bool):Nat->Array α->List α
 |0,_=>[]
 |n+1,l=>l[0]! ::uF less n (qK less l)
instance:Inhabited R:=⟨⟨⟨0,0,0,⟨0,0,0⟩,0,0,0,0,0⟩,0,0,[]⟩⟩
def order(rs:List R):List R:=uF later rs.length (rs.foldl (nY later) #[])
def oW(c:ar)(rs:List R)(p:ao):Nat->List Int->Option (List Int)
 |0,_=>be
 |f+1,cB=>match dX c (dH rs cB) p with
  |some _=>ax cB
  |none=>match(order (dH rs cB)).find? (λr=>kW c (used c (dH rs cB)) r.p.dI)with
   |some r=>oW c rs p f (cB++[r.p.id])
   |none=>be
def kE(c:ar)(rs:List R)(p:ao):List Int->List Int->List Int
 |[],cB=>cB
 |id::t,cB=>kE c rs p t (if(dX c (dH rs (cB.filter λx=> !(x==id))) p).isSome then cB.filter (λx=> !(x==id))else cB)
def choose(c:ar)(rs:List R)(p:ao):Option (List Int):=if sU c (used c rs) p.dI (kM p)then(oW c rs p (rs.length+1) []).map λcB=>kE c rs p cB cB else be
structure Rd where
 ps:List Ord.P
 rs:List R
 ev:List E
 head:Bool
 start:Int
def aDm(c:ar)(aQ:Int)(x:Rd)(p:ao):Option Rd:=
 match dX c x.rs p with
 |none=>be
 |some (fl,hs)=>if x.head&& !vT aQ p x.start then be else ax {x with ps:=mE x.ps p.id,rs:=x.rs++[⟨p,aQ,fl,hs⟩],ev:=x.ev++[⟨1,p.id,fl⟩]}
def oM(rs:List R)(x:List ao×List E)(id:Int):List ao×List E:=
 match rs.find? (λr=>r.p.id==id)with
 |some r=>(nG r.p x.1,x.2++[⟨2,id,0⟩])
 |none=>x
def lJ(x:Rd)(cB:List Int):Rd:={x with ps:=(cB.foldl (oM x.rs) (x.ps,x.ev)).1,ev:=(cB.foldl (oM x.rs) (x.ps,x.ev)).2,rs:=dH x.rs cB}
def look(c:ar)(aQ:Int)(x:Rd)(p:ao):Rd:=
 match aDm c aQ x p with
 |some y=>y
 |none=>if x.head then x else match choose c x.rs p with
  |some cB=>(aDm c aQ (lJ x cB) p).getD (lJ x cB)
  |none=>match start c aQ x.rs p with
   |some t=>{x with head:=ap,start:=t,ev:=x.ev++[⟨4,p.id,t⟩]}
   |none=>{x with start:=0}
def row(s:S):List ao:=tJ (b7 s.c s.h s.aQ) s.ps
def rounds(c:ar)(aQ:Int)(x:Rd)(l:List ao):Rd:=l.foldl (look c aQ) x
def EA(s:S):Rd:=rounds s.c s.aQ ⟨s.ps,s.rs,[],bd,0⟩ (row s)
def run(s:S):S×List E:=({s with ps:=(EA s).ps,rs:=(EA s).rs},(EA s).ev)
def KU(c:ar)(all:an)(i:Nat)(v:an):Nat:=if iP c (i:Int)then Vec.dom v all else 0
def qH(c:ar)(rs:List R):List Nat:=(used c rs).mapIdx λi v=>KU c (Cfg.xR c) i v
def yY(left time:Nat)(qH:List Nat)(i x:Nat):Nat:=if i<qH.length then Fix.add (Fix.mul x left) (Fix.mul (qH.getD i 0) time)else Fix.mul x left
def zT(h qH:List Nat)(n aG:Int):List Nat:=h.mapIdx λi x=>yY (vK n aG) (Fix.ofInt n) qH i x
structure Cmd where
 kind:Int
 c:Cfg.C
 g:Ord.P
 n:Int
def rU(c:ar)(p:ao):Int:=if fD p.id 1 1073741824&&fD p.fG 1 16&&lU p.need&&fD p.run 1 1048576&&fD p.aP 0 3&&fD p.prefer 0 p.aP then(if iP c p.dI then 0 else 3)else 1
def rP(rs:List R)(id:Int):Bool:=rs.any λr=>r.p.id==id
def uD:List R->Int->List R
 |[],_=>[]
 |r::t,id=>if r.p.id=id then t else r::uD t id
def rZ(s:S)(g:ao):Int:=if rU s.c g≠0 then rU s.c g else if(oC s.ps g.id).isSome||rP s.rs g.id then 5 else if never s.c g then 6 else if 32<=s.ps.length+s.rs.length then 8 else 0
def xU(s:S)(g:ao):S:={s with ps:=nG {g with seq:=s.next,since:=s.aQ} s.ps,next:=s.next+1}
def yI(s:S)(n:Int):Int:=if fD n 1 1048576 then(if 1099511627776-s.aQ<n then 8 else 0)else 1
def tick(s:S)(n:Int):S×List E:=({s with h:=zT s.h (qH s.c s.rs) n s.c.aG,aQ:=s.aQ+n,rs:=dR s.rs (s.aQ+n)},(s.rs.filter λr=>decide (kF r<=s.aQ+n)).map λr=>⟨3,r.p.id,0⟩)
def iB(n:Int):Bool:=fD n 0 1099511627776
def rX(v:an):Bool:=iB v.x&&iB v.y&&iB v.z
def xS(n:lN):Bool:=fD n.parent (-1) 1099511627776&&iB n.iO&&rX n.fC&&rX n.borrow&&rX n.lend
def wS(h:iI):Bool:=iB h.flavor&&iB h.block&&iB h.zM&&rX h.cap
def FV(c:ar):Bool:=c.aN.all xS&&c.aR.all wS&&iB c.aG&&iB c.aJ
def FU(g:ao):Bool:=iB g.id&&iB g.dI&&iB g.fG&&iB g.run&&iB g.aP&&iB g.prefer&&rX g.need
def ane(c:ar):Bool:=c.aN.isEmpty&&c.aR.isEmpty&&(c.aG==0)&&(c.aJ==0)
def IY(g:ao):Bool:=(g.id==0)&&(g.dI==0)&&(g.fG==0)&&pW g.need&&(g.run==0)&&(g.aP==0)&&(g.prefer==0)
def ajX(x:Cmd):Bool:=fD x.kind 1 6&&((x.kind==1)||ane x.c)&&((x.kind==2)||IY x.g)&&((x.kind==3)||(x.kind==4)||(x.kind==5)||(x.n==0))
def wM(x:Cmd):Int:=if ajX x&&FV x.c&&FU x.g&&iB x.n then(if x.c.aN.length<=12/\x.c.aR.length<=24 then 0 else 8)else 1
def TV(s:S)(x:Cmd):Int:=if x.kind=1 then(if b5 x.c≠0 then 2 else if 0<s.ps.length+s.rs.length then 7 else 0)else if x.kind=2 then rZ s x.g else if x.kind=3 then(if rP s.rs x.n then 0 else 4)else if x.kind=4 then(if(oC s.ps x.n).isSome||rP s.rs x.n then 0 else 4)else if x.kind=5 then yI s x.n else 0
def doS(s:S)(x:Cmd):S×List E:=if x.kind=1 then({s with c:=x.c,h:=bh x.c.aN.length 0},[])else if x.kind=2 then(xU s x.g,[])else if x.kind=3 then({s with rs:=uD s.rs x.n},[])else if x.kind=4 then((if(oC s.ps x.n).isSome then{s with ps:=mE s.ps x.n}else{s with rs:=uD s.rs x.n}),[])else if x.kind=5 then tick s x.n else run s
def iU(s:S)(x:Cmd):Int:=if wM x≠0 then wM x else TV s x
def apply(s:S)(x:Cmd):S×List E:=if iU s x=0 then doS s x else(s,[])
def iK(l:List Cmd):S:=l.foldl (λs x=>(apply s x).1) new
end Top
variable{c:ar}{d f:Int}{rs rs':List Top.R}{K:List an}{p:ao}{b:an}
namespace Top
open Go.Proofs.YtedmeglbjmdlhaaGreatDoor Quo
def jL(v:an):Prop:=0<=v.x/\0<=v.y/\0<=v.z
def Boxed(v:an):Prop:=(-1099511627776<=v.x/\v.x<=1099511627776)/\(-1099511627776<=v.y/\v.y<=1099511627776)/\(-1099511627776<=v.z/\v.z<=1099511627776)
theorem Le.trans{a c:an}(h:Le a b)(k:Le b c):Le a c:=⟨bl h.1 k.1,bl h.2.1 k.2.1,bl h.2.2 k.2.2⟩
def LeL(a b:List an):Prop:=a.length=b.length/\∀i,Le (a.getD i ac) (b.getD i ac)
def WX(a:List an):Prop:=∀i,Boxed (a.getD i ac)
theorem LeL.refl(a:List an):LeL a a:=⟨rfl,λ_=>Le.refl _⟩
theorem LeL.trans{a b c:List an}(h:LeL a b)(k:LeL b c):LeL a c:=⟨h.1.trans k.1,λi=>Le.trans (h.2 i) (k.2 i)⟩
theorem yQ(l:List an)(i:Nat)(v:an)(j:Nat):(l.set i v).getD j ac=if i=j/\i<l.length then v else l.getD j ac:=by
 rw[aV,List.getElem?_set];by_cases h:i=j
 .subst h;by_cases a:i<l.length
  .simp[a]
  .simp[a]
 .simp[h]
theorem akN{a:an}(h:Le a b)(n:an):Le (Vec.sub a n) (Vec.sub b n):=by unfold Le Vec.sub vB bz at*;simp only;omega
theorem anw{a n:an}(b:Boxed a)(c:jL n):Le (Vec.sub a n) a:=by unfold Le Vec.sub vB bz Boxed jL at*;simp only;omega
theorem anx(a n:an):Boxed (Vec.sub a n):=by unfold Vec.sub vB bz Boxed;simp only;omega
theorem FD(f:an->an->an)(n:an)(o:List an)(h:Int):(Hst.one f n o h).length=o.length:=by
 unfold Hst.one;split
 .simp
 .rfl
theorem alG{o:List an}(h:LeL o K)(n:an)(k:Int):LeL (Hst.one Vec.sub n o k) (Hst.one Vec.sub n K k):=by
 refine⟨by rw[FD,FD];exact h.1,λi=>?_⟩;unfold Hst.one;rw[h.1];split
 .rw[yQ,yQ,h.1];split
  .exact akN (h.2 _) n
  .exact h.2 i
 .exact h.2 i
theorem aoe{o:List an}(a:WX o){n:an}(b:jL n)(k:Int):LeL (Hst.one Vec.sub n o k) o/\WX (Hst.one Vec.sub n o k):=by
 refine⟨⟨FD _ _ _ _,λi=>?_⟩,λi=>?_⟩
 .unfold Hst.one;split
  .rw[yQ];split
   .rename_i h2;obtain⟨rfl,_⟩:=h2;exact anw (a _) b
   .exact Le.refl _
  .exact Le.refl _
 .unfold Hst.one;split
  .rw[yQ];split
   .exact anx _ _
   .exact a i
  .exact a i
theorem YW(n:an):∀(l:List Int) {o a:List an},LeL o a->LeL (Hst.dV Vec.sub n l o) (Hst.dV Vec.sub n l a)
 |[],_,_,h=>h
 |k::l,_,_,h=>YW n l (alG h n k)
theorem PV{n:an}(c:jL n):∀(l:List Int) {o:List an},WX o->LeL (Hst.dV Vec.sub n l o) o/\WX (Hst.dV Vec.sub n l o)
 |[],_,h=>⟨LeL.refl _,h⟩
 |k::l,o,h=>by have a:=aoe h c k;have b:=PV c l a.2;exact⟨b.1.trans a.1,b.2⟩
def ana(o:List an)(l:List (an×List Int)):List an:=l.foldl (λo r=>Hst.dV Vec.sub r.1 r.2 o) o
theorem ajj{l i:List (an×List Int)}(h:l.Sublist i):∀(o b:List an),(∀r∈i,jL r.1)->LeL b o->WX b->LeL (ana b i) (ana o l):=by
 induction h with
 |slnil=>intro o b _ h _;exact h
 |cons a _ f=>
  intro o b c h d;have g:=PV (c a (bJ ..)) a.2 d;exact f o _ (λx e=>c x (bK _ e)) (g.1.trans h) g.2
 |cons_cons a _ f=>
  intro o b c h d;exact f _ _ (λx e=>c x (bK _ e)) (YW a.1 a.2 h) (PV (c a (bJ ..)) a.2 d).2
def anm(c:ar):Prop:=WX (bc c.aR)
structure Fair (p:Ord.P):Prop where
 need:lU p.need=true
 fG:1<=p.fG/\p.fG<=16
theorem Fair.nonneg(h:Fair p):jL p.need:=by have:=h.need;rw[pR]at this;unfold jL;omega
theorem abZ(a:anm c)(h:rs.Sublist rs')(b:∀r∈rs',Fair r.p):LeL (free c rs') (free c rs):=by refine ajj (h.map _) _ _ (λr d=>?_) (LeL.refl _) a;obtain⟨x,e,rfl⟩:=bU.1 d;exact(b x e).nonneg
theorem GQ{n a k:Int}(c:n<=d)(b:f<=a):iT n f k<=iT d a k:=by
 unfold iT;split
 .rename_i hk;have:=Int.ediv_le_ediv hk b;omega
 .exact c
theorem BH{n k:Int}(a:0<=n)(b:k<=f):0<=iT n f k:=by
 unfold iT;split
 .rename_i hk;have:=Int.ediv_nonneg (show 0<=f by omega) (show 0<=k by omega);omega
 .exact a
theorem zA(f k:an):0<=room f k:=by
 unfold room;split
 .rename_i h;rw[yR]at h;exact BH (BH (BH oZ h.1) h.2.1) h.2.2
 .omega
theorem aia{f k:an}(h:Le f b):room f k<=room b k:=by
 by_cases a:Vec.dX k f=ap
 .have c:Vec.dX k b=ap:=by rw[yR]at*;unfold Le at h;omega
  unfold room;rw[aI a,aI c];exact GQ (GQ (GQ (iR _) h.1) h.2.1) h.2.2
 .have:room f k=0:=by unfold room;rw[aF a]
  rw[this];exact zA b k
theorem PZ{free:List an}(h:LeL free K)(need:an)(b:Int):∀(g:List Nat) (o a:List Int),o.length<=a.length->(a.length:Int)<=b->(iJ free need b g o).length<=(iJ K need b g a).length/\((iJ K need b g a).length:Int)<=b
 |[],o,a,c,d=>⟨c,d⟩
 |x::t,o,a,c,d=>by
  unfold iJ;rw[h.1];have f:=aia (k:=need) (h.2 x);have e:=zA (free.getD x ac) need;split
  .refine PZ h need b t _ _ ?_ ?_ <;>simp only[aW,gY]<;>omega
  .exact PZ h need b t o a c d
theorem aoA{free:List an}(need:an)(a:Int)(g:List Nat)(b:0<=a):((iJ free need a g []).length:Int)<=a:=
 (PZ (LeL.refl free) need a g [] [] lZ (by simpa using b)).2
theorem abU{free:List an}{g:List Nat}{l:List Int}(a:0<=p.fG)(h:mF free p g=ax l):l=iJ free p.need p.fG g []/\(l.length:Int)=p.fG:=by
 unfold mF at h;simp only at h;split at h
 .cases h
 .rename_i hn;cases h;have:=aoA (free:=free) p.need p.fG g a;exact⟨rfl,oZ⟩
def LeU(u u':bp):Prop:=∀i,Le (u i) (u' i)
def agX(u:bp):Prop:=∀i,jL (u i)/\Boxed (u i)
theorem aqt{a v:an}(b:jL a/\Boxed a)(hv:jL v):Le a (bo a v):=by unfold jL Boxed at*;exact⟨AY b.1.1 b.2.1.2 hv.1,AY b.1.2.1 b.2.2.1.2 hv.2.1,AY b.1.2.2 b.2.2.2.2 hv.2.2⟩
theorem akm{a v:an}(b:jL a)(hv:jL v):jL (bo a v)/\Boxed (bo a v):=by unfold jL Boxed bo Vec.add1 bz at*;simp only;omega
def GJ(c:ar)(u:bp)(p:ao):bp:=b0 c u p.dI (λa=>bo a (kM p))
theorem OO(c:ar)(u:bp)(p:ao)(i:Nat):GJ c u p i=if iP c p.dI=ap/\i∈Tree.up c p.dI then bo (u i) (kM p)else u i:=by unfold GJ b0 Led.bump;by_cases h:iP c p.dI=ap<;>by_cases a:i∈Tree.up c p.dI<;>simp[h,a]
theorem afa(c:ar)(p:ao){u u':bp}(h:LeU u u'):LeU (GJ c u p) (GJ c u' p):=λi=>by
 rw[OO,OO];split
 .exact acO (h i) (Le.refl _)
 .exact h i
theorem aaW(c:ar)(b:jL (kM p)){u:bp}(a:agX u):LeU u (GJ c u p)/\agX (GJ c u p):=by
 refine⟨λi=>?_,λi=>?_⟩<;>rw[OO]
 .split
  .exact aqt (a i) b
  .exact Le.refl _
 .split
  .exact akm (a i).1 b
  .exact a i
def aeQ(c:ar)(u:bp)(rs:List R):bp:=rs.foldl (λu r=>GJ c u r.p) u
theorem ahk(c:ar)(h:rs.Sublist rs'):∀(u u':bp),(∀r∈rs',jL (kM r.p))->LeU u u'->agX u'->LeU (aeQ c u rs) (aeQ c u' rs'):=by
 induction h with
 |slnil=>intro u u' _ h _;exact h
 |cons a _ f=>
  intro u u' b h d;have g:=aaW c (b a (bJ ..)) d;exact f u _ (λx e=>b x (bK _ e)) (λi=>Le.trans (h i) (g.1 i)) g.2
 |cons_cons a _ f=>
  intro u u' b h d;exact f _ _ (λx e=>b x (bK _ e)) (afa c a.p h) (aaW c (b a (bJ ..)) d).2
theorem alL:agX bt:=λi=>by unfold bt ac jL Boxed;simp only;omega
theorem OL(c:ar)(rs:List R):(used c rs).length=c.aN.length:=by simp[used,Led.all]
theorem UZ(c:ar)(rs:List R)(n:Nat):Tree.dR (used c rs) (n:Int)=if n<c.aN.length then aeQ c bt rs n else ac:=by
 unfold Tree.dR;rw[OL];by_cases h:n<c.aN.length
 .rw[aI oZ,aI h];simp only[used,Led.all,bu,aV];rw[gB,List.getElem?_range h];rfl
 .rw[aF oZ,aF h]
theorem Fair.kM(h:Fair p):jL (kM p):=by have a:=h.need;rw[pR]at a;have b:=h.fG;unfold jL Top.kM Vec.nI wX bz;simp only;have e:min (max p.fG (-1048576)) 1048576=p.fG:=oZ;rw[e];have a1:=kR (show 0<=min (max p.need.x (-1099511627776)) 1099511627776 by omega) (show 0<=p.fG by omega);have a2:=kR (show 0<=min (max p.need.y (-1099511627776)) 1099511627776 by omega) (show 0<=p.fG by omega);have a3:=kR (show 0<=min (max p.need.z (-1099511627776)) 1099511627776 by omega) (show 0<=p.fG by omega);omega
theorem aaE(c:ar)(h:rs.Sublist rs')(a:∀r∈rs',Fair r.p)(n:Int):Le (Tree.dR (used c rs) n) (Tree.dR (used c rs') n):=by
 by_cases b:0<=n
 .obtain⟨k,rfl⟩:=fM b;rw[UZ,UZ];split
  .exact ahk c h _ _ (λr d=>(a r d).kM) (λ_=>Le.refl _) alL k
  .exact Le.refl _
 .unfold Tree.dR;rw[aF oZ,aF oZ];exact Le.refl _
open Led
theorem ajP(b:bj c=ap):anm c:=λi=>by
 unfold bc;rw[aV,gB];cases h:c.aR[i]? with
 |none=>simp[ac,Boxed]
 |some x=>
  have hi:i<c.aR.length:=(bF.1 h).1;have a:=IG (PE b) hi;have e:c.aR.getD i default=x:=by simp[h]
  rw[e]at a;unfold wI at a;simp only[ba]at a;have hv:=a.2.2.2;rw[pR]at hv;simp only[Option.map_some,Option.getD_some];unfold Boxed;omega
end Top
variable{id:Int}{i j:Nat}
namespace Top
open Go.Proofs.YtedmeglbjmdlhaaGreatDoor Quo
theorem xI(p:ao):∀l:List ao,(nG p l).Perm (p::l)
 |[]=>gD _
 |x::t=>by
  unfold nG;split
  .exact gD _
  .exact((xI p t).cons x).trans (bq p x t)
theorem FY:∀{l:List ao},p∈l->(l.map (·.id)).Nodup->l.Perm (p::mE l p.id)
 |[],h,_=>by cases h
 |x::t,h,b=>by
  rw[dG,iE]at b;unfold mE;by_cases e:x.id=p.id
  .rw[aI e];rcases bH.1 h with rfl|a
   .exact gD _
   .exact absurd (bU.2 ⟨p,a,e.symm⟩) b.1
  .rw[aF e];rcases bH.1 h with rfl|a
   .exact absurd rfl e
   .exact((FY a b.2).cons x).trans (bq p x _)
theorem rY{q:ao}:∀{l:List ao},q∈l->q.id≠id->q∈mE l id
 |x::t,h,b=>by
  unfold mE;split
  .rename_i e;rcases bH.1 h with rfl|a
   .exact absurd e b
   .exact a
  .rcases bH.1 h with rfl|a
   .exact bJ ..
   .exact bK _ (rY a b)
theorem swap_perm{α:Type}(l:Array α)[Inhabited α](hi:i<l.size)(a:j<l.size):((l.setIfInBounds i l[j]!).setIfInBounds j l[i]!).toList.Perm l.toList:=by
 have h:=Array.swap_perm (xs:=l) hi a;have e:(l.setIfInBounds i l[j]!).setIfInBounds j l[i]! =l.swap i j hi a:=by rw[bX l i hi,bX l j a,Array.swap_def];simp[Array.setIfInBounds,hi,a]
 rw[e];exact h.toList
theorem aaI{α:Type}[Inhabited α](less:α->α->Bool):∀(f i:Nat) (l:Array α),i<l.size->(upH less f i l).toList.Perm l.toList
 |0,_,_,_=>gD _
 |f+1,i,l,hi=>by
  unfold upH;split
  .split
   .exact(aaI less f _ _ (by simp;omega)).trans (swap_perm l hi oZ)
   .exact gD _
  .exact gD _
theorem GX{α:Type}[Inhabited α](less:α->α->Bool)(l:Array α)(x:α):(nY less l x).toList.Perm (x::l.toList):=by refine(aaI less _ _ _ sZ).trans ?_;rw[Array.toList_push];exact az
theorem TU{α:Type}[Inhabited α](less:α->α->Bool)(n:Nat):∀(f i:Nat) (l:Array α),n=l.size->(sO less n f i l).toList.Perm l.toList
 |0,_,_,_=>gD _
 |f+1,i,l,b=>by
  unfold sO;split
  .rename_i hi;simp only;have a:(if(2*i+2<n&&less l[2*i+2]! l[2*i+1]!)=ap then 2*i+2 else 2*i+1)<l.size:=by
    split
    .rename_i h;simp at h;omega
    .omega
   generalize(if(2*i+2<n&&less l[2*i+2]! l[2*i+1]!)=ap then 2*i+2 else 2*i+1)=k at*;split
   .exact(TU less n f k _ (by simp[b])).trans (swap_perm l (i:=i) (j:=k) oZ a)
   .exact gD _
  .exact gD _
theorem CR{α:Type}[Inhabited α](less:α->α->Bool)(l:Array α)(h:0<l.size):(l[0]! ::(qK less l).toList).Perm l.toList:=by
 unfold qK;refine((TU less _ _ _ _ sZ).cons _).trans ?_;have b:=swap_perm l (i:=0) (j:=l.size-1) h oZ;refine List.Perm.trans ?_ b;have e:((l.setIfInBounds 0 l[l.size-1]!).setIfInBounds (l.size-1) l[0]!)=((l.setIfInBounds 0 l[l.size-1]!).pop).push l[0]! :=by
  apply Array.ext
  .simp;omega
  .intro i a c;simp only[Array.size_setIfInBounds]at a;rw[a8 (by simpa using a),Array.getElem_push];simp only[Array.size_pop,Array.size_setIfInBounds];by_cases hi:i<l.size-1
   .rw[aF oZ,dif_pos hi,Array.getElem_pop]
   .rw[aI oZ,dif_neg hi]
 rw[e,Array.toList_push];exact(az (l₁:=[l[0]!])).trans (gD _)
theorem YA{α:Type}[Inhabited α](less:α->α->Bool)(l:Array α)(h:0<l.size):(qK less l).size=l.size-1:=by have:=(CR less l h).length_eq;simp at this;omega
theorem ZR{α:Type}[Inhabited α](less:α->α->Bool):∀(n:Nat) (l:Array α),n=l.size->(uF less n l).Perm l.toList
 |0,l,h=>by have:l=#[]:=Array.eq_empty_of_size_eq_zero h.symm;subst this;exact gD _
 |n+1,l,h=>by unfold uF;exact((ZR less n _ (by rw[YA less l oZ];omega)).cons _).trans (CR less l oZ)
theorem TA{α:Type}[Inhabited α](less:α->α->Bool):∀(rs:List α) (l:Array α),(rs.foldl (nY less) l).toList.Perm (l.toList++rs)
 |[],l=>sZ
 |r::rs,l=>by rw[ay];refine(TA less rs _).trans ?_;refine((GX less l r).append_right rs).trans ?_;rw[bb];exact List.perm_middle.symm
theorem zY(rs:List R):(order rs).Perm rs:=by unfold order;have h:=TA later rs #[];rw[show(#[]:Array R).toList=[]from rfl,bn]at h;have a:=h.length_eq;exact(ZR later _ _ (by rw[<-a];simp)).trans h
theorem aiD{r:R}:r∈order rs↔r∈rs:=(zY rs).mem_iff
def cB(rs:List R):List Int:=rs.map (·.p.id)
theorem EB{l:List Int}{r:R}:r∈dH rs l↔r∈rs/\r.p.id∉l:=by unfold dH;rw[iF];simp
theorem DW(rs:List R)(l:List Int):(dH rs l).Sublist rs:=mP
theorem yX(rs:List R):dH rs []=rs:=by unfold dH;simp
structure wQ (c:Cfg.C) (rs:List R) (l:List Int):Prop where
 nodup:l.Nodup
 of:∀id∈l,∃r∈rs,r.p.id=id/\kW c (used c rs) r.p.dI=true
theorem acF(h:rs.Sublist rs')(d:∀r∈rs',Fair r.p){t:Int}(a:kW c (used c rs) t=ap):kW c (used c rs') t=ap:=by
 unfold kW at*;simp only[ba,Bool.not_eq_true']at*;refine⟨a.1,?_⟩;cases b:Vec.dX (Tree.dR (used c rs') t) (node c t.toNat).fC with
 |false=>rfl
 |true=>
  have:=WC (aaE c h d t) b;rw[this]at a;cases a.2
theorem LH(n:∀r∈rs,Fair r.p):∀(f:Nat) (l d:List Int),wQ c rs l->oW c rs p f l=ax d->wQ c rs d/\(dX c (dH rs d) p).isSome=ap/\(d=l\/d.length>0)
 |0,l,d,_,h=>by cases h
 |f+1,l,d,k,h=>by
  unfold oW at h;cases i:dX c (dH rs l) p with
  |some x=>
   rw[i]at h;cases h;exact⟨k,by rw[i];rfl,.inl rfl⟩
  |none=>
   rw[i]at h;cases g:(order (dH rs l)).find? (λr=>kW c (used c (dH rs l)) r.p.dI)with
   |none=>simp only[g]at h;cases h
   |some r=>
    simp only[g]at h;have y:=bT g;have o:=EB.1 (aiD.1 (List.mem_of_find?_eq_some g));have w:wQ c rs (l++[r.p.id]):=by
     refine⟨?_,λid v=>?_⟩
     .rw[kG];refine⟨k.nodup,sZ,λa s b u=>?_⟩;have:b=r.p.id:=by simpa using u
      intro e;exact o.2 (this▸e▸s)
     .rcases dM.1 v with j|j
      .exact k.of id j
      .have:id=r.p.id:=by simpa using j
       exact⟨r,o.1,this.symm,acF (DW rs l) n y⟩
    have m:=LH n f _ d w h;refine⟨m.1,m.2.1,.inr ?_⟩;rcases m.2.2 with e|e
    .rw[e];simp
    .exact e
theorem afd(t:List Int):∀(l:List Int),wQ c rs l->(dX c (dH rs l) p).isSome=ap->wQ c rs (kE c rs p t l)/\(dX c (dH rs (kE c rs p t l)) p).isSome=ap:=by
 induction t with
 |nil=>exactλl a b=>⟨a,b⟩
 |cons id t d=>
  intro l a b;rw[kE];by_cases h:(dX c (dH rs (l.filter λx=> !(x==id))) p).isSome=ap
  .rw[aI h];exact d _ ⟨a.nodup.sublist mP,λx e=>a.of x (iF.1 e).1⟩ h
  .rw[aF h];exact d l a b
theorem choose_spec(f:∀r∈rs,Fair r.p){l:List Int}(h:choose c rs p=ax l)(g:dX c rs p=be):wQ c rs l/\(dX c (dH rs l) p).isSome=ap/\l≠[]/\sU c (used c rs) p.dI (kM p)=ap:=by
 unfold choose at h;split at h
 .rename_i hw;cases b:oW c rs p (rs.length+1) []with
  |none=>rw[b]at h;cases h
  |some a=>
   rw[b]at h;cases h;have s1:=LH f _ _ _ ⟨br,λid h=>by cases h⟩ b;have s2:=afd a a s1.1 s1.2.1;refine⟨s2.1,s2.2,λe=>?_,hw⟩;have this:=s2.2;have d:kE c rs p a a=[]:=e;rw[d,yX,g]at this;cases this
 .cases h
theorem agP{aQ:Int}{x y:Rd}(h:aDm c aQ x p=ax y):∃fl hs,dX c x.rs p=ax (fl,hs)/\(x.head=ap->vT aQ p x.start=ap)/\y={x with ps:=mE x.ps p.id,rs:=x.rs++[⟨p,aQ,fl,hs⟩],ev:=x.ev++[⟨1,p.id,fl⟩]}:=by
 unfold aDm at h;cases a:dX c x.rs p with
 |none=>rw[a]at h;cases h
 |some v=>
  obtain⟨fl,hs⟩:=v;rw[a]at h;simp only at h;split at h
  .cases h
  .rename_i b;cases h;refine⟨fl,hs,rfl,λd=>?_,rfl⟩;simp[d]at b;exact b
theorem JB{aQ:Int}{x:Rd}(h:aDm c aQ x p=be):dX c x.rs p=be\/(x.head=ap/\vT aQ p x.start=bd):=by
 unfold aDm at h;cases b:dX c x.rs p with
 |none=>exact .inl rfl
 |some v=>
  obtain⟨fl,hs⟩:=v;rw[b]at h;simp only at h;split at h
  .rename_i a;simp at a;exact .inr a
  .cases h
theorem akl{aQ:Int}{x:Rd}{v:Int×List Int}(h:dX c x.rs p=ax v)(a:x.head=bd):aDm c aQ x p=ax {x with ps:=mE x.ps p.id,rs:=x.rs++[⟨p,aQ,v.1,v.2⟩],ev:=x.ev++[⟨1,p.id,v.1⟩]}:=by unfold aDm;rw[h,a];rfl
inductive Look (c:Cfg.C) (aQ:Int) (x:Rd) (p:Ord.P):Rd->Prop
 |run (fl:Int) (hs:List Int):dX c x.rs p=some (fl,hs)->(x.head=true->vT aQ p x.start=true)->
   Look c aQ x p {x with ps:=mE x.ps p.id,rs:=x.rs++[⟨p,aQ,fl,hs⟩],ev:=x.ev++[⟨1,p.id,fl⟩]}
 |wait:x.head=true->(dX c x.rs p=none\/vT aQ p x.start=false)->Look c aQ x p x
 |give (l:List Int) (fl:Int) (hs:List Int):x.head=false->dX c x.rs p=none->choose c x.rs p=some l->dX c (dH x.rs l) p=some (fl,hs)->
   Look c aQ x p {lJ x l with ps:=mE (lJ x l).ps p.id,rs:=dH x.rs l++[⟨p,aQ,fl,hs⟩],ev:=(lJ x l).ev++[⟨1,p.id,fl⟩]}
 |first(t:Int):x.head=false->dX c x.rs p=none->choose c x.rs p=none->start c aQ x.rs p=some t->Look c aQ x p {x with head:=true,start:=t,ev:=x.ev++[⟨4,p.id,t⟩]}
 |none:x.head=false->dX c x.rs p=none->choose c x.rs p=none->start c aQ x.rs p=none->Look c aQ x p {x with start:=0}
theorem xZ{aQ:Int}{x:Rd}(k:∀r∈x.rs,Fair r.p):Look c aQ x p (look c aQ x p):=by
 unfold look;cases i:aDm c aQ x p with
 |some y=>
  obtain⟨fl,hs,a,b,rfl⟩:=agP i;exact .run fl hs a b
 |none=>
  simp only;cases d:x.head with
  |true=>
   rw[aI rfl];rcases JB i with e|e
   .exact .wait d (.inl e)
   .exact .wait d (.inr e.2)
  |false=>
   rw[aF dZ];have g:dX c x.rs p=be:=by
    rcases JB i with e|e
    .exact e
    .rw[d]at e;cases e.1
   cases f:choose c x.rs p with
   |some l=>
    simp only;have s:=choose_spec k f g;obtain⟨v,hv⟩:=Option.isSome_iff_exists.1 s.2.1;have m:dX c (lJ x l).rs p=ax v:=hv;rw[akl m d];exact .give l v.1 v.2 d g f hv
   |none=>
    simp only;cases j:start c aQ x.rs p with
    |some t=>exact .first t d g f j
    |none=>
     have:=Look.none d g f j;rw[d]at this;exact this
end Top
variable{ps:List ao}{ev:List Top.E}{s:Top.S}
namespace Top
open Go.Proofs.YtedmeglbjmdlhaaGreatDoor Quo
def gs(rs:List R):List ao:=rs.map (·.p)
theorem apH(rs:List R):(gs rs).map (·.id)=cB rs:=by simp[gs,cB]
theorem aoz(h:id∈cB rs):∃r,rs.find? (λr=>r.p.id==id)=ax r/\r∈rs/\r.p.id=id:=by
 obtain⟨c,b,e⟩:=bU.1 h;cases a:rs.find? (λr=>r.p.id==id)with
 |none=>
  have:=List.find?_eq_none.1 a c b;simp[e]at this
 |some r=>exact⟨r,rfl,List.mem_of_find?_eq_some a,by simpa using bT a⟩
theorem aaA(f:(cB rs).Nodup){r:R}(i:r∈rs){t:List Int}(j:r.p.id∉t):(dH rs t).Perm (r::dH rs (r.p.id::t)):=by
 have e:dH rs (r.p.id::t)=(dH rs t).filter (λx=> !(x.p.id==r.p.id)):=by unfold dH;rw[List.filter_filter];apply List.filter_congr;intro x _;by_cases d:x.p.id=r.p.id<;>simp[d]
 have b:r∈dH rs t:=EB.2 ⟨i,j⟩;have a:(cB (dH rs t)).Nodup:=f.sublist ((DW rs t).map _);rw[e];generalize dH rs t=q at*;clear e;induction q with
 |nil=>cases b
 |cons y q l=>
  have m:=a;rw[cB,dG,iE]at a;rcases bH.1 b with rfl|c
  .rw[List.filter_cons_of_neg sZ];refine List.Perm.cons _ ?_;have:q.filter (λx=> !(x.p.id==r.p.id))=q:=List.filter_eq_self.2 λx k=>by have:x.p.id≠r.p.id:=λe=>a.1 (bU.2 ⟨x,k,e⟩);simp[this]
   rw[this]
  .have g:y.p.id≠r.p.id:=λe=>a.1 (bU.2 ⟨r,c,e.symm⟩);rw[lD (by simp[g])];exact((l c a.2).cons y).trans (bq r y _)
theorem yB(i:(cB rs).Nodup):∀(l:List Int) (ps:List ao) (ev:List E),l.Nodup->(∀id∈l,id∈cB rs)->((l.foldl (oM rs) (ps,ev)).1++gs (dH rs l)).Perm (ps++gs rs)/\(∀q∈ps,q∈(l.foldl (oM rs) (ps,ev)).1)/\(∀id∈l,∃q∈(l.foldl (oM rs) (ps,ev)).1,q.id=id)/\(l.foldl (oM rs) (ps,ev)).2=ev++l.map (λid=>⟨2,id,0⟩)
 |[],ps,ev,_,_=>by simp[yX]
 |id::t,ps,ev,f,g=>by
  rw[iE]at f;obtain⟨r,k,n,e⟩:=aoz (g id (bJ ..));have j:oM rs (ps,ev) id=(nG r.p ps,ev++[⟨2,id,0⟩]):=by unfold oM;rw[k]
  have d:=yB i t (nG r.p ps) (ev++[⟨2,id,0⟩]) f.2 (λx c=>g x (bK _ c));rw[ay,j];refine⟨?_,λq m=>d.2.1 q ((xI r.p ps).mem_iff.2 (bK _ m)),λx c=>?_,?_⟩
  .have w:=aaA i n (t:=t) (by rw[e];exact f.1);rw[e]at w;have o:(gs (dH rs t)).Perm (r.p::gs (dH rs (id::t))):=w.map _;have a:=(o.append_left (t.foldl (oM rs) (nG r.p ps,ev++[⟨2,id,0⟩])).1).symm.trans d.1;have b:(r.p::((t.foldl (oM rs) (nG r.p ps,ev++[⟨2,id,0⟩])).1++gs (dH rs (id::t)))).Perm (r.p::(ps++gs rs)):=
    (List.perm_middle.symm).trans (a.trans ((xI r.p ps).append_right _))
   exact b.cons_inv
  .rcases bH.1 c with rfl|c
   .exact⟨r.p,d.2.1 _ ((xI r.p ps).mem_iff.2 (bJ ..)),e⟩
   .exact d.2.2.1 x c
  .rw[d.2.2.2];simp
def Told(c:ar)(ps:List ao)(ev:List E):Prop:=∀(i:Nat) (e:E),ev[i]? =ax e->e.kind=2->∃e':E,ev[i+1]? =ax e'/\(e'.kind=2\/(e'.kind=1/\∃p∈ps,p.id=e'.id/\sU c [] p.dI (kM p)=ap))
theorem Told.nil(c:ar)(ps:List ao):Told c ps []:=λi e h=>by simp at h
theorem Told.one(h:Told c ps ev){e:E}(j:e.kind≠2):Told c ps (ev++[e]):=λi x a d=>by
 by_cases hi:i<ev.length
 .rw[cO hi]at a;obtain⟨f,b,g⟩:=h i x a d;have:i+1<ev.length:=(bF.1 b).1;exact⟨f,by rw[cO this];exact b,g⟩
 .rw[dK oZ]at a;have:i-ev.length=0:=by have:=(bF.1 a).1;simp at this;omega
  rw[this]at a;have:e=x:=by simpa using a
  exact absurd (this▸d) j
theorem Told.gave(h:Told c ps ev)(l:List Int)(m:p∈ps)(o:sU c [] p.dI (kM p)=ap)(n:Int):Told c ps (ev++l.map (λid=>(⟨2,id,0⟩:E))++[⟨1,p.id,n⟩]):=λi x a f=>by
 rw[bM]at a⊢;by_cases hi:i<ev.length
 .rw[cO hi]at a;obtain⟨g,b,k⟩:=h i x a f;have:i+1<ev.length:=(bF.1 b).1;exact⟨g,by rw[cO this];exact b,k⟩
 .rw[dK oZ]at a;rw[dK oZ,show i+1-ev.length=(i-ev.length)+1 by omega];generalize i-ev.length=j at*;by_cases r:j<l.length
  .by_cases d:j+1<l.length
   .exact⟨⟨2,l[j+1],0⟩,by rw[cO (by simpa using d)];simp[d],.inl rfl⟩
   .exact⟨⟨1,p.id,n⟩,by rw[dK (by simp;omega)];simp[show j+1-l.length=0 by omega],.inr ⟨rfl,p,m,rfl,o⟩⟩
  .rw[dK (by simp;omega)]at a;have:j-(l.map λid=>(⟨2,id,0⟩:E)).length=0:=by have:=(bF.1 a).1;simp at this;simp;omega
   rw[this]at a;have e:(⟨1,p.id,n⟩:E)=x:=by simpa using a
   subst e;cases f
structure Mid (s:S) (x:Rd) (l:List Ord.P):Prop where
 perm:(x.ps++gs x.rs).Perm (s.ps++gs s.rs)
 left:∀p∈l,p∈x.ps/\p∈s.ps
 nodup:(l.map (·.id)).Nodup
 same:x.ev=[]->x.rs=s.rs/\x.head=false
 told:Told s.c s.ps x.ev
 waits:∀e∈x.ev,e.kind=2->∃q∈x.ps,q.id=e.id/\∀p∈l,p.id≠q.id
 begun:∀e,x.ev.head? =some e->e.kind=2->∃r∈s.rs,r.p.id=e.id/\kW s.c (used s.c s.rs) r.p.dI=true
 runs:∀r∈x.rs,r∈s.rs\/(r.start=s.aQ/\r.p∈s.ps)
structure EK (s:S):Prop where
 cB:((s.ps++gs s.rs).map (·.id)).Nodup
 wY:∀p∈s.ps++gs s.rs,Fair p
theorem ada(a:∀r∈rs,Fair r.p)(e:Fair p)(h:sU c (used c rs) p.dI (kM p)=ap):sU c [] p.dI (kM p)=ap:=by
 unfold sU at*;simp only[ba]at*;refine⟨h.1,WC (acO ?_ (Le.refl _)) h.2⟩;rw[at_nil];have:=aaE c (rs:=[]) (rs':=rs) (List.nil_sublist _) a p.dI;refine Le.trans ?_ this;by_cases d:0<=p.dI
 .obtain⟨k,b⟩:=fM d;rw[b,UZ];split<;>exact Le.refl _
 .unfold Tree.dR;rw[aF oZ];exact Le.refl _
theorem Mid.wY(hs:EK s){x:Rd}{l:List ao}(m:Mid s x l):∀r∈x.rs,Fair r.p:=λr a=>
 hs.wY _ (m.perm.mem_iff.1 (gL _ (bU.2 ⟨r,a,rfl⟩)))
theorem Mid.cB(hs:EK s){x:Rd}{l:List ao}(m:Mid s x l):(x.ps.map (·.id)).Nodup/\(Top.cB x.rs).Nodup/\∀q∈x.ps,q.id∉Top.cB x.rs:=by have h:=(m.perm.map (·.id)).nodup_iff.2 hs.cB;rw[dO,apH,kG]at h;exact⟨h.1,h.2.1,λq b a=>h.2.2 q.id (bU.2 ⟨q,b,rfl⟩) q.id a rfl⟩
theorem Mid.step(hs:EK s){x:Rd}{l:List ao}(m:Mid s x (p::l)):Mid s (look s.c s.aQ x p) l:=by
 have W:=m.wY hs;obtain⟨aj,ak,al⟩:=m.cB hs;obtain⟨Y,N⟩:=m.left p (bJ ..);have w:=m.nodup;rw[dG,iE]at w;have ab:∀q∈l,q.id≠p.id:=λq i e=>w.1 (bU.2 ⟨q,i,e⟩);have o:∀q∈l,q∈x.ps/\q∈s.ps:=λq i=>m.left q (bK _ i);have K:∀e∈x.ev,e.kind=2->∃q∈x.ps,q.id=e.id/\(p.id≠q.id/\∀z∈l,z.id≠q.id):=λe b d=>by obtain⟨q,A,v,F⟩:=m.waits e b d;exact⟨q,A,v,F p (bJ ..),λz L=>F z (bK _ L)⟩
 have O:∀(t:List E),(∀e,t.head? =ax e->x.ev=[]->e.kind=2->∃r∈s.rs,r.p.id=e.id/\kW s.c (used s.c s.rs) r.p.dI=ap)->∀e,(x.ev++t).head? =ax e->e.kind=2->∃r∈s.rs,r.p.id=e.id/\kW s.c (used s.c s.rs) r.p.dI=ap:=by
  intro t ah e b d;cases I:x.ev with
  |nil=>rw[I]at b;exact ah e b I d
  |cons y z=>rw[I]at b;exact m.begun e (by rw[I];simpa using b) d
 have ae:=xZ (c:=s.c) (aQ:=s.aQ) (p:=p) W;generalize look s.c s.aQ x p=y at ae;cases ae with
 |run fl H A v=>
  refine⟨?_,λq i=>⟨rY (o q i).1 (ab q i),(o q i).2⟩,w.2,λe=>by simp at e,m.told.one (by show(1:Int)≠2;decide),λe b d=>?_,O _ (λe b _ d=>by simp at b;subst b;cases d),λr j=>?_⟩
  .refine List.Perm.trans ?_ m.perm;have t:=FY Y aj;have e:gs (x.rs++[⟨p,s.aQ,fl,H⟩])=gs x.rs++[p]:=by simp[gs]
   rw[e,<-bM];refine(az).trans ?_;rw[bg,<-bb];exact t.symm.append_right _
  .rcases dM.1 b with b|b
   .obtain⟨q,k,f,J,n⟩:=K e b d;exact⟨q,rY k (Ne.symm J),f,n⟩
   .have:e=⟨1,p.id,fl⟩:=by simpa using b
    rw[this]at d;cases d
  .rcases dM.1 j with j|j
   .exact m.runs r j
   .have:r=⟨p,s.aQ,fl,H⟩:=by simpa using j
    rw[this];exact .inr ⟨rfl,N⟩
 |wait A v=>exact⟨m.perm,o,w.2,m.same,m.told,λe b d=>by obtain⟨q,k,f,J,n⟩:=K e b d;exact⟨q,k,f,n⟩,m.begun,m.runs⟩
 |give g fl H A v F Z=>
  have cs:=choose_spec W F v;have aa:∀id∈g,id∈Top.cB x.rs:=λid M=>by obtain⟨r,r1,r2,_⟩:=cs.1.of id M;exact bU.2 ⟨r,r1,r2⟩
  have u:=yB ak g x.ps x.ev cs.1.nodup aa;have ag:p∈(lJ x g).ps:=u.2.1 p Y;have af:((lJ x g).ps.map (·.id)).Nodup:=by have h:=(((u.1.trans m.perm).map (·.id)).nodup_iff.2 hs.cB);rw[dO,kG]at h;exact h.1
  have T:(lJ x g).ev=x.ev++g.map (λid=>⟨2,id,0⟩):=u.2.2.2;have am:=ada W (hs.wY p (dY _ N)) cs.2.2.2;refine⟨?_,λq i=>⟨rY (u.2.1 q (o q i).1) (ab q i),(o q i).2⟩,w.2,λe=>by simp at e,?_,λe b d=>?_,?_,λr j=>?_⟩
  .refine List.Perm.trans ?_ (u.1.trans m.perm);have t:=FY ag af;have e:gs (dH x.rs g++[⟨p,s.aQ,fl,H⟩])=gs (dH x.rs g)++[p]:=by simp[gs]
   show(mE (lJ x g).ps p.id++gs (dH x.rs g++[⟨p,s.aQ,fl,H⟩])).Perm _;rw[e,<-bM];refine(az).trans ?_;rw[bg,<-bb];exact t.symm.append_right _
  .show Told s.c s.ps ((lJ x g).ev++[⟨1,p.id,fl⟩]);rw[T];exact m.told.gave g N am fl
  .have Q:e∈x.ev++g.map (λid=>(⟨2,id,0⟩:E))++[⟨1,p.id,fl⟩]:=by rw[<-T];exact b
   rcases dM.1 Q with b|b
   .rcases dM.1 b with b|b
    .obtain⟨q,k,f,J,n⟩:=K e b d;exact⟨q,rY (u.2.1 q k) (Ne.symm J),f,n⟩
    .obtain⟨id,M,rfl⟩:=bU.1 b;obtain⟨q,k,f⟩:=u.2.2.1 id M;have ad:∀z∈x.ps,z.id≠id:=λz L e=>al z L (e▸aa id M);exact⟨q,rY k (by rw[f];exact Ne.symm (ad p Y)),f,λz L=>by rw[f];exact ad z (o z L).1⟩
   .have:e=⟨1,p.id,fl⟩:=by simpa using b
    rw[this]at d;cases d
  .intro e b d;have Q:(x.ev++(g.map (λid=>(⟨2,id,0⟩:E))++[(⟨1,p.id,fl⟩:E)])).head? =ax e:=by rw[<-bM,<-T];exact b
   refine O _ (λe b I d=>?_) e Q d;have ai:=(m.same I).1;cases X:g with
   |nil=>exact absurd X cs.2.2.1
   |cons a t=>
    rw[X]at b;have:(⟨2,a,0⟩:E)=e:=by simpa using b
    subst this;obtain⟨r,r1,r2,r3⟩:=cs.1.of a (by rw[X];exact bJ ..);rw[ai]at r1 r3;exact⟨r,r1,r2,r3⟩
  .rcases dM.1 j with j|j
   .exact m.runs r (EB.1 j).1
   .have:r=⟨p,s.aQ,fl,H⟩:=by simpa using j
    rw[this];exact .inr ⟨rfl,N⟩
 |first t A v F Z=>
  refine⟨m.perm,o,w.2,λe=>by simp at e,m.told.one (by show(4:Int)≠2;decide),λe b d=>?_,O _ (λe b _ d=>by simp at b;subst b;cases d),m.runs⟩;rcases dM.1 b with b|b
  .obtain⟨q,k,f,J,n⟩:=K e b d;exact⟨q,k,f,n⟩
  .have:e=⟨4,p.id,t⟩:=by simpa using b
   rw[this]at d;cases d
 |none A v F Z=>exact⟨m.perm,o,w.2,m.same,m.told,λe b d=>by obtain⟨q,k,f,J,n⟩:=K e b d;exact⟨q,k,f,n⟩,m.begun,m.runs⟩
theorem Mid.all(hs:EK s):∀(l:List ao) (x:Rd),Mid s x l->Mid s (rounds s.c s.aQ x l) []
 |[],x,m=>m
 |p::l,x,m=>Mid.all hs l _ (m.step hs)
theorem afw{α:Type}[Inhabited α](f:α->α->Int)(l:List α)(x:α):(Srt.lH f l x).Perm (x::l):=by unfold Srt.lH;refine(List.perm_middle).trans ?_;show(x::(l.take _++l.drop _)).Perm _;rw[gX]
theorem NS{α:Type}[Inhabited α](f:α->α->Int):∀(xs l:List α),(xs.foldl (Srt.lH f) l).Perm (l++xs)
 |[],l=>sZ
 |x::xs,l=>by rw[ay];refine(NS f xs _).trans ?_;refine((afw f l x).append_right xs).trans ?_;rw[bb];exact List.perm_middle.symm
theorem vE(s:S):(row s).Perm s.ps:=by have h:=NS (b7 s.c s.h s.aQ) s.ps [];rwa [bn]at h
theorem Mid.start(hs:EK s):Mid s ⟨s.ps,s.rs,[],bd,0⟩ (row s) where
 perm:=gD _
 left:=λp a=>⟨(vE s).mem_iff.1 a,(vE s).mem_iff.1 a⟩
 nodup:=by refine((vE s).map (·.id)).nodup_iff.2 ?_;have:=hs.cB;rw[dO,kG]at this;exact this.1
 same:=λ_=>⟨rfl,rfl⟩
 told:=Told.nil _ _
 waits:=λe h=>by cases h
 begun:=λe h=>by cases h
 runs:=λr b=>.inl b
theorem EX(hs:EK s):Mid s (EA s) []:=Mid.all hs _ _ (Mid.start hs)
end Top
variable{fl:Int}{hs:List Int}{need:an}
namespace Top
open Go.Proofs.YtedmeglbjmdlhaaGreatDoor Quo
theorem amk{hs:List iI}{aP:Int}{g:List Nat}(h:g∈bw hs aP):g.Nodup/\∀x∈g,x<hs.length:=by
 unfold bw at h;split at h
 .obtain⟨q,d,rfl⟩:=bU.1 h;obtain⟨i,hi,rfl⟩:=kX d;obtain⟨j,b⟩:=Hst.aeA hs aP hs.length;refine⟨?_,λx f=>?_⟩
  .rw[List.nodup_iff_count];intro a;rw[b a i hi];split<;>omega
  .have c:=List.count_pos_iff.2 f;rw[b x i hi]at c;by_cases e:x<hs.length
   .exact e
   .rw[aF λh=>e h.1]at c;omega
 .cases h
theorem LA{free:List an}:∀{gs:List (List Nat)} {l:List Int} {g:List Nat},oV free p gs=ax (l,g)->g∈gs/\mF free p g=ax l
 |[],_,_,h=>by cases h
 |x::gs,l,g,h=>by
  unfold oV at h;cases a:mF free p x with
  |some b=>
   rw[a]at h;cases h;exact⟨bJ ..,a⟩
  |none=>
   rw[a]at h;have:=LA h;exact⟨bK _ this.1,this.2⟩
theorem JM{free:List an}:∀{n:Nat} {aP fl:Int} {l:List Int},pK c free p n aP=ax (fl,l)->∃b g,g∈bw c.aR b/\mF free p g=ax l
 |0,_,_,_,h=>by cases h
 |n+1,aP,fl,l,h=>by
  unfold pK at h;cases a:oV free p (bw c.aR aP)with
  |some x=>
   obtain⟨d,g⟩:=x;rw[a]at h;cases h;have:=LA a;exact⟨aP,g,this.1,this.2⟩
  |none=>
   rw[a]at h;exact JM h
theorem TN{free:List an}(need:an)(c:Int):∀(g:List Nat) (out:List Int),g.Nodup->(∀x∈g,x<free.length)->(∀x∈out,0<=x/\x<(free.length:Int))->(∀x∈iJ free need c g out,0<=x/\x<(free.length:Int))/\∀i:Nat,(av (i:Int) (iJ free need c g out):Int)<=av (i:Int) out+(if i∈g then room (free.getD i ac) need else 0)
 |[],out,_,_,f=>⟨f,λi=>by simp[iJ]⟩
 |h::t,out,d,j,f=>by
  rw[iE]at d;have l:=j h (bJ ..);unfold iJ;rw[aI l];have m:=zA (free.getD h ac) need;have k:=TN need c t (out++bh (min (room (free.getD h ac) need) (c-out.length)).toNat (h:Int)) d.2 (λx a=>j x (bK _ a)) (λx a=>by
   rcases dM.1 a with a|a
   .exact f x a
   .have:=List.eq_of_mem_replicate a;omega)
  refine⟨k.1,λi=>?_⟩;have b:=k.2 i;rw[List.count_append,List.count_replicate]at b;by_cases e:h=i
  .subst e;rw[aF d.1]at b;rw[aI (bJ ..)];simp only[beq_self_eq_true,if_true]at b;omega
  .have e2:((h:Int)==(i:Int))=bd:=by simp;omega
   rw[e2]at b;have e3:(i∈h::t)↔i∈t:=by simp[Ne.symm e]
   simp only[e3];simp only[jG,if_false]at b;omega
theorem OW{n k m:Int}(a:0<=k)(c:0<=m)(h:m<=iT n f k):m<=n/\(0<k->k*m<=f):=by
 unfold iT at h;split at h
 .rename_i a;refine⟨oZ,λ_=>?_⟩;have b:m<=f/k:=oZ;have:=Int.mul_le_mul_of_nonneg_left b (Int.le_of_lt a);exact bl this (Int.mul_ediv_self_le oZ)
 .exact⟨h,λh=>absurd h ‹_›⟩
def Mul(need:an)(m:Int)(f:an):Prop:=need.x*m<=f.x/\need.y*m<=f.y/\need.z*m<=f.z
theorem room_le{f k:an}{m:Int}(c:jL k)(g:jL f)(i:0<=m)(h:m<=room f k):Mul k m f:=by
 have zero:∀a b:Int,0<=a->0<=b->(0<a->a*m<=b)->a*m<=b:=λa b n o d=>by
  by_cases e:0<a
  .exact d e
  .have:a=0:=by omega
   subst this;omega
 unfold room at h;split at h
 .have d:=OW c.2.2 i h;have j:=OW c.2.1 i d.1;have l:=OW c.1 i j.1;exact⟨zero _ _ c.1 g.1 l.2,zero _ _ c.2.1 g.2.1 j.2,zero _ _ c.2.2 g.2.2 d.2⟩
 .have:m=0:=by omega
  subst this;unfold Mul jL at*;omega
theorem WA(c:jL need)(hv:lU need=ap):∀(l:List Int) (o:List an) (i:Nat),i<o.length->(o.getD i ac).x<=1048576/\(o.getD i ac).y<=1048576/\(o.getD i ac).z<=1048576->Mul need (av (i:Int) l) (o.getD i ac)->(Hst.dV Vec.sub need l o).getD i ac=⟨(o.getD i ac).x-need.x*av (i:Int) l,(o.getD i ac).y-need.y*av (i:Int) l,(o.getD i ac).z-need.z*av (i:Int) l⟩
 |[],o,i,hi,j,b=>by simp[Hst.dV]
 |h::t,o,i,hi,j,b=>by
  have m:=hv;rw[pR]at m;have f:(0:Int)<=av (i:Int) t:=oZ;have n:=kR c.1 f;have p:=kR c.2.1 f;have r:=kR c.2.2 f;have step:Hst.dV Vec.sub need (h::t) o=Hst.dV Vec.sub need t (Hst.one Vec.sub need o h):=rfl;rw[step];by_cases e:h=(i:Int)
  .subst e;rw[List.count_cons_self]at b⊢;unfold Mul at b;have d:∀a:Int,a*((av (i:Int) t+1:Nat):Int)=a*av (i:Int) t+a:=λa=>by rw[Int.natCast_add,Int.mul_add];simp
   rw[d,d,d]at b;have e1:Hst.one Vec.sub need o (i:Int)=o.set i (Vec.sub (o.getD i ac) need):=by unfold Hst.one;rw[aI ⟨oZ,oZ⟩,bu]
   have e2:(Hst.one Vec.sub need o (i:Int)).getD i ac=Vec.sub (o.getD i ac) need:=by rw[e1,yQ,aI ⟨rfl,hi⟩]
   have e3:Vec.sub (o.getD i ac) need=⟨(o.getD i ac).x-need.x,(o.getD i ac).y-need.y,(o.getD i ac).z-need.z⟩:=by unfold Vec.sub;rw[VE _ _ oZ oZ oZ oZ,VE _ _ oZ oZ oZ oZ,VE _ _ oZ oZ oZ oZ]
   have g:=WA c hv t (Hst.one Vec.sub need o (i:Int)) i (by rw[FD];exact hi) (by rw[e2,e3];unfold jL at c;simp only;omega) (by rw[e2,e3];unfold Mul;simp only;omega);rw[g,e2,e3,d,d,d];simp only[Vec.V.mk.injEq];omega
  .have k:av (i:Int) (h::t)=av (i:Int) t:=by rw[List.count_cons_of_ne e]
   rw[k]at b⊢;have e2:(Hst.one Vec.sub need o h).getD i ac=o.getD i ac:=by
    unfold Hst.one;split
    .rw[yQ,aF];omega
    .rfl
   have g:=WA c hv t (Hst.one Vec.sub need o h) i (by rw[FD];exact hi) (by rw[e2];exact j) (by rw[e2];exact b);rw[g,e2]
structure uH (c:Cfg.C) (rs:List R):Prop where
 aR:∀r∈rs,(r.aR.length:Int)=r.p.fG/\∀h∈r.aR,0<=h/\h<(c.aR.length:Int)
 room:∀i,jL ((free c rs).getD i Vec.zero)
theorem acd(c:ar)(rs:List R):(free c rs).length=c.aR.length:=Hst.OB _ _
theorem aeC(b:bj c=ap)(i:Nat):jL ((bc c.aR).getD i ac)/\((bc c.aR).getD i ac).x<=1048576/\((bc c.aR).getD i ac).y<=1048576/\((bc c.aR).getD i ac).z<=1048576:=by
 by_cases hi:i<c.aR.length
 .have h:=IG (PE b) hi;unfold wI at h;simp only[ba]at h;have a:=h.2.2.2;have e:(bc c.aR).getD i ac=(c.aR.getD i default).cap:=by unfold bc;rw[aV,gB,aV,aH hi];rfl
  rw[e];rw[pR]at a;unfold jL;omega
 .rw[aV,eH (by simp[bc];omega)];simp only[Option.getD_none,ac,jL];omega
theorem aox(a:bj c=ap)(b:∀r∈rs,Fair r.p)(i:Nat):Le ((free c rs).getD i ac) ((bc c.aR).getD i ac):=
 (abZ (ajP a) (List.nil_sublist rs) b).2 i
theorem ajh(c:ar)(rs:List R)(r:R):free c (rs++[r])=Hst.dV Vec.sub r.p.need r.aR (free c rs):=by unfold free Hst.free;rw[dO,fB];rfl
theorem aey(l:0<=p.fG)(h:dX c rs p=ax (fl,hs)):(hs.length:Int)=p.fG/\(∀x∈hs,0<=x/\x<(c.aR.length:Int))/\∀i:Nat,(av (i:Int) hs:Int)<=room ((free c rs).getD i ac) p.need:=by
 unfold dX at h;split at h
 .unfold find at h;obtain⟨m,g,j,hi⟩:=JM h;obtain⟨e,k⟩:=abU l hi;have f:=amk j;have a:=TN (free:=free c rs) p.need p.fG g [] f.1 (λx b=>by rw[acd];exact f.2 x b) (λx b=>by cases b);rw[<-e,acd]at a;refine⟨k,a.1,λi=>?_⟩;have d:=a.2 i;have n:=zA ((free c rs).getD i ac) p.need;simp only[List.count_nil]at d;split at d<;>omega
 .cases h
theorem uH.aDm(d:bj c=ap)(m:∀r∈rs,Fair r.p)(e:uH c rs)(b:Fair p)(h:dX c rs p=ax (fl,hs))(aQ:Int):uH c (rs++[⟨p,aQ,fl,hs⟩]):=by
 obtain⟨g,j,k⟩:=aey (by have:=b.fG;omega) h;refine⟨λr a=>?_,λi=>?_⟩
 .rcases dM.1 a with a|a
  .exact e.aR r a
  .have:r=⟨p,aQ,fl,hs⟩:=by simpa using a
   subst this;exact⟨g,j⟩
 .rw[ajh];by_cases hi:i<(free c rs).length
  .have l:=aox d m i;have n:=aeC d i;have f:=room_le b.nonneg (e.room i) oZ (k i);have:=WA b.nonneg b.need hs (free c rs) i hi (by unfold Le at l;omega) f;show jL ((Hst.dV Vec.sub p.need hs (free c rs)).getD i ac);rw[this];unfold Mul at f;unfold jL;simp only;omega
  .rw[aV,eH (by rw[Hst.wK];omega)];simp[ac,jL]
theorem uH.sub(b:bj c=ap)(d:∀r∈rs',Fair r.p)(a:uH c rs')(h:rs.Sublist rs'):uH c rs:=by refine⟨λr e=>a.aR r (h.subset e),λi=>?_⟩;have f:=(abZ (ajP b) h d).2 i;have g:=a.room i;unfold Le jL at*;omega
theorem uH.nil(a:bj c=ap):uH c []:=⟨λr b=>(by cases b),λi=>(aeC a i).1⟩
end Top
variable{m n:Nat}
namespace Top
open Go.Proofs.YtedmeglbjmdlhaaGreatDoor Quo
structure EJ (c:Cfg.C) (aQ next:Int) (p:Ord.P):Prop where
 err:rU c p=0
 may:never c p=false
 seq:1<=p.seq/\p.seq<next
 since:0<=p.since/\p.since<=aQ
structure anj (c:Cfg.C) (p:Ord.P):Prop where
 id:1<=p.id/\p.id<=1073741824
 fG:1<=p.fG/\p.fG<=16
 need:lU p.need=true
 run:1<=p.run/\p.run<=1048576
 aP:0<=p.aP/\p.aP<=3
 prefer:0<=p.prefer/\p.prefer<=p.aP
 iP:iP c p.dI=true
theorem KY(h:rU c p=0):anj c p:=by
 unfold rU at h;split at h
 .rename_i a;split at h
  .rename_i h2;simp only[ba,wN]at a;obtain⟨⟨⟨⟨⟨a1,a2⟩,a3⟩,a4⟩,b⟩,a6⟩:=a;exact⟨a1,a2,a3,a4,b,a6,h2⟩
  .cases h
 .cases h
theorem EJ.nums{aQ next:Int}(h:EJ c aQ next p):anj c p:=KY h.err
theorem EJ.wY{aQ next:Int}(h:EJ c aQ next p):Fair p:=⟨h.nums.need,h.nums.fG⟩
theorem EJ.later{aQ next:Int}(h:EJ c aQ next p)(a:aQ<=d)(b:next<=f):EJ c d f p:=
 ⟨h.err,h.may,⟨h.seq.1,by have:=h.seq.2;omega⟩,⟨h.since.1,by have:=h.since.2;omega⟩⟩
structure Good (n:Nat) (s:S):Prop where
 cfg:s.c=noC\/Cfg.ok s.c=true
 hist:s.h.length=s.c.aN.length
 aQ:0<=s.aQ/\s.aQ<=1099511627776
 next:1<=s.next/\s.next<=n+1
 kV:∀p∈s.ps++gs s.rs,EJ s.c s.aQ s.next p
 cB:((s.ps++gs s.rs).map (·.id)).Nodup
 nos:((s.ps++gs s.rs).map (·.seq)).Nodup
 time:∀r∈s.rs,0<=r.start/\r.start<=s.aQ/\s.aQ<kF r
 lies:uH s.c s.rs
 len:s.ps.length+s.rs.length<=32
theorem Good.new:Good 0 new:=by refine⟨.inl rfl,rfl,dZ,dZ,λp b=>(by cases b),br,br,λr a=>(by cases a),⟨λr a=>(by cases a),λi=>?_⟩,dZ⟩;have:free Top.new.c Top.new.rs=[]:=rfl;rw[this];simp[ac,jL]
theorem alV(t:Int):iP noC t=bd:=by rw[iD];intro h;rw[PL]at h;have:noC.aN.length=0:=rfl;omega
theorem Good.none(h:Good n s)(a:s.c=noC):s.ps=[]/\s.rs=[]:=by
 have c:∀p∈s.ps++gs s.rs,False:=λp b=>by have:=(h.kV p b).nums.iP;rw[a,alV]at this;cases this
 have e:s.ps++gs s.rs=[]:=List.eq_nil_iff_forall_not_mem.2 c;have e1:=List.append_eq_nil_iff.1 e;exact⟨e1.1,oD.1 e1.2⟩
theorem Good.sane(h:Good n s):EK s:=⟨h.cB,λp a=>(h.kV p a).wY⟩
theorem Good.wY(h:Good n s):∀r∈s.rs,Fair r.p:=λr a=>(h.kV r.p (gL _ (bU.2 ⟨r,a,rfl⟩))).wY
theorem abX(h:rs.Sublist rs'):(gs rs).Sublist (gs rs'):=h.map _
theorem Good.less(h:Good n s)(b:ps.Sublist s.ps)(a:rs.Sublist s.rs):Good n {s with ps:=ps,rs:=rs} where
 cfg:=h.cfg
 hist:=h.hist
 aQ:=h.aQ
 next:=h.next
 kV:=λp c=>h.kV p ((b.append (abX a)).subset c)
 cB:=h.cB.sublist ((b.append (abX a)).map _)
 nos:=h.nos.sublist ((b.append (abX a)).map _)
 time:=λr d=>h.time r (a.subset d)
 lies:=by
  rcases h.cfg with e|e
  .have e1:=(h.none e).2;rw[e1]at a;have e2:=List.sublist_nil.1 a;show uH s.c rs;rw[e2,<-e1];exact h.lies
  .exact uH.sub e h.wY h.lies a
 len:=by have:=b.length_le;have:=a.length_le;have:=h.len;show ps.length+rs.length<=32;omega
theorem LG:∀(rs:List R) (id:Int),(uD rs id).Sublist rs
 |[],_=>lT _
 |r::t,id=>by
  unfold uD;split
  .exact List.sublist_cons_self ..
  .exact(LG t id).cons_cons r
theorem KF:∀(ps:List ao) (id:Int),(mE ps id).Sublist ps
 |[],_=>lT _
 |r::t,id=>by
  unfold mE;split
  .exact List.sublist_cons_self ..
  .exact(KF t id).cons_cons r
theorem acI(rs:List R)(t:Int):(dR rs t).Sublist rs:=mP
theorem YM(f:bj s.c=ap)(hs:EK s){x:Rd}{l:List ao}(m:Mid s x (p::l))(h:uH s.c x.rs):uH s.c (look s.c s.aQ x p).rs:=by
 have d:=m.wY hs;have j:=hs.wY p (dY _ (m.left p (bJ ..)).2);have k:=xZ (c:=s.c) (aQ:=s.aQ) (p:=p) d;generalize look s.c s.aQ x p=y at k;cases k with
 |run fl o a b=>exact h.aDm f d j a s.aQ
 |wait a b=>exact h
 |give g fl o a b i e=>
  have sub:=DW x.rs g;exact(h.sub f d sub).aDm f (λr n=>d r (sub.subset n)) j e s.aQ
 |first t a b i e=>exact h
 |none a b i e=>exact h
theorem NK(a:bj s.c=ap)(hs:EK s):∀(l:List ao) (x:Rd),Mid s x l->uH s.c x.rs->uH s.c (rounds s.c s.aQ x l).rs
 |[],x,_,h=>h
 |p::l,x,m,h=>NK a hs l _ (m.step hs) (YM a hs m h)
theorem abk(h:s.ps=[]):row s=[]:=by have:=(vE s).length_eq;rw[h]at this;exact lC.1 this
theorem Good.run(h:Good n s):Good n (run s).1:=by
 rcases h.cfg with e|e
 .obtain⟨e1,e2⟩:=h.none e;have e3:(Top.run s).1=s:=by unfold Top.run EA;rw[abk e1];rfl
  rw[e3];exact h
 .have m:=EX h.sane;have f:=NK e h.sane _ _ (Mid.start h.sane) h.lies;refine⟨h.cfg,h.hist,h.aQ,h.next,λp g=>h.kV p (m.perm.mem_iff.1 g),(m.perm.map (·.id)).nodup_iff.2 h.cB,(m.perm.map (·.seq)).nodup_iff.2 h.nos,λr a=>?_,f,?_⟩
  .rcases m.runs r a with a|⟨b,c⟩
   .exact h.time r a
   .have:=(h.kV r.p (dY _ c)).nums.run;have:=h.aQ;have d:kF r=r.start+r.p.run:=rfl;rw[b]at d;show 0<=r.start/\r.start<=s.aQ/\s.aQ<kF r;omega
  .have:=m.perm.length_eq;simp only[aW,gs,bP]at this;have:=h.len;show(EA s).ps.length+(EA s).rs.length<=32;omega
theorem abV{free:List an}{q:ao}(a:p.fG=q.fG)(b:p.need=q.need)(g:List Nat):mF free p g=mF free q g:=by unfold mF;rw[a,b]
theorem LB{free:List an}{q:ao}(a:p.fG=q.fG)(b:p.need=q.need):∀gs,oV free p gs=oV free q gs
 |[]=>rfl
 |g::gs=>by unfold oV;rw[abV a b,LB a b gs]
theorem JN{free:List an}{q:ao}(a:p.fG=q.fG)(b:p.need=q.need):∀(n:Nat) (l:Int),pK c free p n l=pK c free q n l
 |0,_=>rfl
 |n+1,l=>by
  unfold pK;rw[LB a b];cases oV free q (bw c.aR l)with
  |some x=>rfl
  |none=>exact JN a b n (l+1)
theorem ajo{q:ao}(d:p.dI=q.dI)(a:p.fG=q.fG)(b:p.need=q.need)(e:p.aP=q.aP)(f:p.prefer=q.prefer):dX c rs p=dX c rs q:=by unfold dX find kM;rw[d,a,b,e,f,JN a b]
theorem ZA:∀{ps:List ao},(oC ps id).isSome=bd->∀p∈ps,p.id≠id
 |[],_,p,a=>by cases a
 |q::t,h,p,a=>by
  unfold oC at h;by_cases e:q.id=id
  .rw[aI e]at h;cases h
  .rw[aF e]at h;rcases bH.1 a with rfl|a
   .exact e
   .exact ZA (by simpa using h) p a
theorem Good.xU(h:Good n s){g:ao}(b:rZ s g=0):Good (n+1) (xU s g):=by
 unfold rZ at b;split at b
 .rename_i e;exact absurd b e
 rename_i e1;have e1:rU s.c g=0:=oZ;split at b
 .cases b
 rename_i e2;split at b
 .cases b
 rename_i e3;split at b
 .cases b
 rename_i e4;simp only[Bool.or_eq_true,not_or,Bool.not_eq_true]at e2 e3;have i:EJ s.c s.aQ (s.next+1) {g with seq:=s.next,since:=s.aQ}:=by
  refine⟨e1,?_,⟨h.next.1,show s.next<s.next+1 by omega⟩,⟨h.aQ.1,iR _⟩⟩;have:never s.c {g with seq:=s.next,since:=s.aQ}=never s.c g:=by unfold never;rw[ajo (p:={g with seq:=s.next,since:=s.aQ}) (q:=g) rfl rfl rfl rfl rfl]
  rw[this];exact e3
 have d:(nG {g with seq:=s.next,since:=s.aQ} s.ps++gs s.rs).Perm ({g with seq:=s.next,since:=s.aQ}::(s.ps++gs s.rs)):=(xI _ s.ps).append_right _;refine⟨h.cfg,h.hist,h.aQ,?_,λp a=>?_,?_,?_,h.time,h.lies,?_⟩
 .have:=h.next;show 1<=s.next+1/\s.next+1<=((n+1:Nat):Int)+1;omega
 .rcases bH.1 (d.mem_iff.1 a)with rfl|a
  .exact i
  .exact(h.kV p a).later (iR _) (show s.next<=s.next+1 by omega)
 .refine(d.map (·.id)).nodup_iff.2 ?_;rw[dG,iE];refine⟨λc=>?_,h.cB⟩;obtain⟨p,a,e⟩:=bU.1 c;rcases dM.1 a with a|a
  .exact ZA e2.1 p a e
  .obtain⟨r,f,rfl⟩:=bU.1 a;have:=e2.2;unfold rP at this;rw[List.any_eq_false]at this;exact this r f (by simpa using e)
 .refine(d.map (·.seq)).nodup_iff.2 ?_;rw[dG,iE];refine⟨λc=>?_,h.nos⟩;obtain⟨p,a,e⟩:=bU.1 c;have:=(h.kV p a).seq;simp only at e;omega
 .have:=(xI {g with seq:=s.next,since:=s.aQ} s.ps).length_eq;show(nG {g with seq:=s.next,since:=s.aQ} s.ps).length+s.rs.length<=32;simp only[aw]at this;omega
theorem Good.tick(h:Good n s){k:Int}(a:yI s k=0):Good n (tick s k).1:=by
 unfold yI at a;split at a
 .rename_i e1;rw[wN]at e1;split at a
  .cases a
  .have g:=h.less (lT s.ps) (acI s.rs (s.aQ+k));refine⟨h.cfg,?_,?_,h.next,λp d=>(g.kV p d).later (show s.aQ<=s.aQ+k by omega) (iR _),g.cB,g.nos,λr b=>?_,g.lies,g.len⟩
   .show(zT s.h (qH s.c s.rs) k s.c.aG).length=_;unfold zT;rw[List.length_mapIdx];exact h.hist
   .have:=h.aQ;show 0<=s.aQ+k/\s.aQ+k<=1099511627776;omega
   .have e:=h.time r ((acI s.rs (s.aQ+k)).subset b);have c:decide (s.aQ+k<kF r)=ap:=(iF.1 b).2;have f:=of_decide_eq_true c;show 0<=r.start/\r.start<=s.aQ+k/\s.aQ+k<kF r;omega
 .cases a
theorem Good.more(h:Good n s)(a:n<=m):Good m s:=⟨h.cfg,h.hist,h.aQ,by have:=h.next;omega,h.kV,h.cB,h.nos,h.time,h.lies,h.len⟩
theorem Good.config(h:Good n s)(a:bj c=ap)(d:¬0<s.ps.length+s.rs.length):Good n {s with c:=c,h:=bh c.aN.length 0}:=by
 have e1:s.ps=[]:=lC.1 oZ;have e2:s.rs=[]:=lC.1 oZ;refine⟨.inr a,sZ,h.aQ,h.next,λp b=>?_,h.cB,h.nos,h.time,?_,h.len⟩
 .have:p∈s.ps++gs s.rs:=b;rw[e1,e2]at this;cases this
 .show uH c s.rs;rw[e2];exact uH.nil a
theorem Good.do(h:Good n s)(x:Cmd)(c:TV s x=0):Good (n+1) (doS s x).1:=by
 unfold TV at c;unfold doS;by_cases d:x.kind=1
 .rw[aI d]at c⊢;split at c
  .cases c
  .split at c
   .cases c
   .rename_i a b;refine(h.config ?_ b).more (eX _);unfold b5 at a;cases j:bj x.c with
    |true=>rfl
    |false=>rw[j]at a;simp at a
 rw[aF d]at c⊢;by_cases e:x.kind=2
 .rw[aI e]at c⊢;exact h.xU c
 rw[aF e]at c⊢;by_cases f:x.kind=3
 .rw[aI f]at c⊢;exact(h.less (lT _) (LG _ _)).more (eX _)
 rw[aF f]at c⊢;by_cases g:x.kind=4
 .rw[aI g]at c⊢;simp only;split
  .exact(h.less (KF _ _) (lT _)).more (eX _)
  .exact(h.less (lT _) (LG _ _)).more (eX _)
 rw[aF g]at c⊢;by_cases i:x.kind=5
 .rw[aI i]at c⊢;exact(h.tick c).more (eX _)
 rw[aF i]at c⊢;exact h.run.more (eX _)
theorem Good.apply(h:Good n s)(x:Cmd):Good (n+1) (apply s x).1:=by
 unfold Top.apply;split
 .rename_i e;refine h.do x ?_;unfold iU at e;split at e
  .rename_i e2;exact absurd e e2
  .exact e
 .exact h.more (eX _)
theorem Good.fold:∀(l:List Cmd) (n:Nat) (s:S),Good n s->Good (n+l.length) (l.foldl (λs x=>(Top.apply s x).1) s)
 |[],n,s,h=>h
 |x::l,n,s,h=>by have:=Good.fold l (n+1) _ (h.apply x);rw[ay,aw];exact this.more oZ
theorem CU(l:List Cmd):Good l.length (iK l):=(Good.fold l 0 new Good.new).more oZ
theorem map_set{α β:Type}(f:α->β)(l:Array α)(i:Nat)(x:α):(l.setIfInBounds i x).map f=(l.map f).setIfInBounds i (f x):=by
 apply Array.ext
 .simp
 .intro j a b;simp only[Array.size_map,Array.size_setIfInBounds]at a;rw[Array.getElem_map,a8 (by simpa using a),a8 (by simpa using a)];split
  .rfl
  .rw[Array.getElem_map]
section
variable {α β:Type} [Inhabited α] [Inhabited β] (f:α->β) (less:β->β->Bool)
theorem KS(a:f default=default)(l:Array α)(i:Nat):(l.map f)[i]! =f l[i]! :=by
 by_cases h:i<l.size
 .rw[bX (l.map f) i (by simpa using h),bX l i h,Array.getElem_map]
 .rw[getElem!_neg (l.map f) i (by simpa using h),getElem!_neg l i h,a]
theorem adZ(c:f default=default):∀(n i:Nat) (l:Array α),(upH (λa b=>less (f a) (f b)) n i l).map f=upH less n i (l.map f)
 |0,_,_=>rfl
 |n+1,i,l=>by
  unfold upH;rw[KS f c,KS f c];split
  .split
   .rw[adZ c n,map_set,map_set]
   .rfl
  .rfl
theorem ain(c:f default=default)(l:Array α)(x:α):(nY (λa b=>less (f a) (f b)) l x).map f=nY less (l.map f) (f x):=by unfold nY;rw[adZ f less c,Array.map_push];simp
theorem ZE(e:f default=default)(m:Nat):∀(n i:Nat) (l:Array α),(sO (λa b=>less (f a) (f b)) m n i l).map f=sO less m n i (l.map f)
 |0,_,_=>rfl
 |n+1,i,l=>by
  unfold sO;simp only[KS f e];generalize(if(decide (2*i+2<m)&&less (f l[2*i+2]!) (f l[2*i+1]!))=ap then 2*i+2 else 2*i+1)=k;by_cases c:2*i+1<m
  .rw[aI c,aI c];by_cases d:less (f l[k]!) (f l[i]!)=ap
   .rw[aI d,aI d,ZE e m n,map_set,map_set]
   .rw[aF d,aF d]
  .rw[aF c,aF c]
theorem alq(c:f default=default)(l:Array α):(qK (λa b=>less (f a) (f b)) l).map f=qK less (l.map f):=by
 unfold qK;rw[ZE f less c];have e:((l.setIfInBounds 0 l[l.size-1]!).pop).map f=((l.map f).setIfInBounds 0 (l.map f)[(l.map f).size-1]!).pop:=by rw[Array.map_pop,map_set,KS f c];simp
 rw[e];simp
theorem QH(c:f default=default):∀(n:Nat) (l:Array α),(uF (λa b=>less (f a) (f b)) n l).map f=uF less n (l.map f)
 |0,_=>rfl
 |n+1,l=>by unfold uF;rw[dG,QH c n,alq f less c,KS f c]
end
def pops{α:Type}[Inhabited α](less:α->α->Bool):Nat->Array α->Array α
 |0,l=>l
 |k+1,l=>qK less (pops less k l)
theorem ZQ{α:Type}[Inhabited α](less:α->α->Bool):∀(k:Nat) (l:Array α),uF less (k+1) l=uF less k l++[(pops less k l)[0]!]
 |0,l=>rfl
 |k+1,l=>by
  have e:∀(k:Nat) (l:Array α),pops less k (qK less l)=pops less (k+1) l:=by
   intro k;induction k with
   |zero=>exactλl=>rfl
   |succ k a=>exactλl=>by show qK less (pops less k (qK less l))=_;rw[a];rfl
  show l[0]! ::uF less (k+1) (qK less l)=(l[0]! ::uF less k (qK less l))++_;rw[ZQ less k,bb,e]
theorem KP{α:Type}[Inhabited α](less:α->α->Bool):∀(k:Nat) (l:Array α),k<=l.size->(pops less k l).size=l.size-k
 |0,l,_=>rfl
 |k+1,l,h=>by have a:=KP less k l oZ;show(qK less (pops less k l)).size=_;rw[YA less _ oZ,a];omega
theorem afy{α:Type}[Inhabited α](less:α->α->Bool)(l:Array α)(x:α):(nY less l x).size=l.size+1:=by have:=(GX less l x).length_eq;simpa using this
open Go.Proofs.YtedmeglbjmdlhaaGreatDoor
def mH(v:an):List Int:=[v.x,v.y,v.z]
def lK(n:lN):List Int:=(n.parent+1)::n.iO::(mH n.fC++(mH n.borrow++mH n.lend))
def oN(h:iI):List Int:=h.flavor::h.block::h.zM::mH h.cap
def qM(c:ar):List Int:=(c.aN.length:Int)::(c.aN.flatMap lK++((c.aR.length:Int)::(c.aR.flatMap oN++[c.aG,c.aJ])))
def pO(g:ao):List Int:=g.id::g.dI::g.fG::(mH g.need++[g.run,g.aP,g.prefer])
def qE(x:Cmd):List Int:=x.kind::(if x.kind=1 then qM x.c else if x.kind=2 then pO x.g else if x.kind=3\/x.kind=4\/x.kind=5 then[x.n]else[])
def Low(l:List Int):Prop:=∀n∈l,0<=n/\n<=127
instance (l:List Int):Decidable (Low l):=inferInstanceAs (Decidable (∀n∈l,0<=n/\n<=127))
def byte(n:Int):UInt8:=UInt8.ofNat n.toNat
def bytes(l:List Int):List UInt8:=l.map byte
def lQ(x:Cmd):List UInt8:=67::bytes (qE x)
theorem bytes_append(a b:List Int):bytes (a++b)=bytes a++bytes b:=dO
theorem IX(a:Int)(b:List Int):bytes (a::b)=byte a::bytes b:=rfl
theorem iX(a:List Int):(bytes a).length=a.length:=bP _
theorem acC{n:Int}(h:0<=n/\n<=127):((byte n).toNat:Int)=n:=by unfold byte;rw[UInt8.toNat_ofNat'];omega
theorem Low.cons{a:Int}{l:List Int}(h:Low (a::l)):(0<=a/\a<=127)/\Low l:=⟨h a (bJ ..),λn b=>h n (bK _ b)⟩
def pX:an:=⟨4,4,4⟩
def two:an:=⟨2,2,2⟩
def nU:ar:=⟨[⟨-1,1,ac,ac,ac⟩,⟨0,1,pX,pX,pX⟩,⟨0,1,pX,pX,pX⟩],[⟨0,0,0,pX⟩,⟨0,0,1,pX⟩],10,0⟩
def noG:ao:=⟨0,0,0,ac,0,0,0,0,0⟩
def aqQ(id t run:Int):ao:=⟨id,t,2,two,run,3,0,0,0⟩
def jP:Cmd:=⟨1,nU,noG,0⟩
def gJ(id t run:Int):Cmd:=⟨2,noC,aqQ id t run,0⟩
def lW:Cmd:=⟨6,noC,noG,0⟩
def gq(id t run seq:Int):ao:=⟨id,t,2,two,run,3,0,seq,0⟩
def s1:S:=⟨nU,0,1,[],[],[0,0,0]⟩
def s2:S:=⟨nU,0,2,[gq 1 1 50 1],[],[0,0,0]⟩
def s3:S:=⟨nU,0,3,[gq 1 1 50 1,gq 2 1 50 2],[],[0,0,0]⟩
theorem a1:apply new jP=(s1,[]):=by rfl
theorem a2:apply s1 (gJ 1 1 50)=(s2,[]):=by rfl
theorem a3:apply s2 (gJ 2 1 50)=(s3,[]):=by rfl
def r1:R:=⟨gq 1 1 50 1,0,0,[0,0]⟩
def r2:R:=⟨gq 2 1 50 2,0,0,[1,1]⟩
def r3:R:=⟨gq 3 2 9 3,0,0,[1,1]⟩
def s4:S:=⟨nU,0,3,[],[r1,r2],[0,0,0]⟩
def s6:S:=⟨nU,0,4,[gq 3 2 9 3],[r1,r2],[0,0,0]⟩
def s7:S:=⟨nU,0,4,[gq 2 1 50 2],[r1,r3],[0,0,0]⟩
theorem a4:apply s3 lW=(s4,[⟨1,1,0⟩,⟨1,2,0⟩]):=by kernel_rfl
theorem a6:apply s4 (gJ 3 2 9)=(s6,[]):=by rfl
theorem a7:apply s6 lW=(s7,[⟨2,2,0⟩,⟨1,3,0⟩]):=by kernel_rfl
theorem e1:iU new jP=0:=by rfl
theorem e2:iU s1 (gJ 1 1 50)=0:=by rfl
theorem e3:iU s2 (gJ 2 1 50)=0:=by rfl
theorem e4:iU s3 lW=0:=by rfl
theorem e6:iU s4 (gJ 3 2 9)=0:=by rfl
theorem e7:iU s6 lW=0:=by rfl
structure Plain (x:Cmd):Prop where
 low:Low (qE x)
 err:wM x=0
 kind:x.kind=1\/x.kind=2\/x.kind=6
 c:x.kind≠1->x.c=noC
 g:x.kind≠2->x.g=noG
 n:x.n=0
theorem p1:Plain jP:=⟨dZ,dZ,.inl rfl,λh=>absurd rfl h,λ_=>rfl,rfl⟩
theorem p2:Plain (gJ 1 1 50):=⟨dZ,dZ,.inr (.inl rfl),λ_=>rfl,λh=>absurd rfl h,rfl⟩
theorem p3:Plain (gJ 2 1 50):=⟨dZ,dZ,.inr (.inl rfl),λ_=>rfl,λh=>absurd rfl h,rfl⟩
theorem p4:Plain lW:=⟨dZ,dZ,.inr (.inr rfl),λ_=>rfl,λ_=>rfl,rfl⟩
theorem p6:Plain (gJ 3 2 9):=⟨dZ,dZ,.inr (.inl rfl),λ_=>rfl,λh=>absurd rfl h,rfl⟩
theorem sizes{x:Cmd}(h:wM x=0):x.c.aN.length<=12/\x.c.aR.length<=24:=by
 unfold wM at h;split at h
 .split at h
  .assumption
  .cases h
 .cases h
theorem Plain.config{x:Cmd}(h:Plain x)(k:x.kind=1):Low (qM x.c):=by have:=h.low;unfold qE at this;rw[aI k]at this;exact this.cons.2
theorem Plain.dV{x:Cmd}(h:Plain x)(k:x.kind=2):Low (pO x.g):=by have:=h.low;unfold qE at this;rw[aF oZ,aI k]at this;exact this.cons.2
theorem enc1{x:Cmd}(k:x.kind=1):qE x=1::qM x.c:=by unfold qE;rw[aI k,k]
theorem enc2{x:Cmd}(k:x.kind=2):qE x=2::pO x.g:=by unfold qE;rw[aF oZ,aI k,k]
theorem amx{x:Cmd}(k:x.kind=6):qE x=[6]:=by unfold qE;rw[aF oZ,aF oZ,aF oZ,k]
def bA(xs:List Cmd):List UInt8:=frames (xs.map lQ)
def WU(xs:List Cmd):Prop:=(∀x∈xs,Plain x)/\∀k (h:k<xs.length),iU (iK (xs.take k)) xs[k]=0
theorem uK{x:Cmd}(h:Plain x):(lQ x).length<=1000:=by
 unfold lQ;rw[aw,iX];rcases h.kind with k|k|k
 .have hs:=sizes h.err;rw[enc1 k];unfold qM;have e1:∀l:List lN,(l.flatMap lK).length=11*l.length:=by
   intro l;induction l with
   |nil=>rfl
   |cons a t b=>rw[dA,aW,b,aw];show 11+_=_;omega
  have e2:∀l:List iI,(l.flatMap oN).length=6*l.length:=by
   intro l;induction l with
   |nil=>rfl
   |cons a t b=>rw[dA,aW,b,aw];show 6+_=_;omega
  simp only[aw,aW,e1,e2,List.length_nil];omega
 .rw[enc2 k];show(2::pO x.g).length+1<=1000;simp[pO,mH]
 .rw[amx k];simp
theorem aff{xs:List Cmd}(h:∀x∈xs,Plain x):Jou.Small (xs.map lQ):=λr a=>by obtain⟨x,b,rfl⟩:=bU.1 a;have:=uK (h x b);omega
theorem aiS(xs:List Cmd)(x:Cmd):bA (xs++[x])=bA xs++Crc.frame (lQ x):=by unfold bA;rw[dO,aah,dG,fQ,agb]
theorem YQ{xs:List Cmd}(h:∀x∈xs,Plain x):scan (bA xs)=(xs.map lQ,(bA xs).length):=afi _ (aff h)
theorem adD{xs:List Cmd}(h:∀x∈xs,Plain x):Jou.opened (bA xs)=bA xs:=by unfold Jou.opened;rw[YQ h,List.take_length]
open Quo
theorem abS{n x:Int}:∀{l:List Int},x∈vZ n l↔x=n\/x∈l
 |[]=>by simp[vZ]
 |y::t=>by
  unfold vZ;split
  .simp
  .rw[bH,abS,bH];constructor
   .rintro(h|h|h)
    .exact .inr (.inl h)
    .exact .inl h
    .exact .inr (.inr h)
   .rintro(h|h|h)
    .exact .inr (.inl h)
    .exact .inl h
    .exact .inr (.inr h)
theorem XG{x:Int}:∀{l:List Int},x∈zU l↔x∈l
 |[]=>by simp[zU]
 |y::t=>by show x∈vZ y (zU t)↔_;rw[abS,XG,bH]
theorem TR{aQ x:Int}:∀{rs:List R} {l:List Int},x∈rs.foldl (λl r=>if decide (aQ<kF r)&& !(l.contains (kF r))then l++[kF r]else l) l↔x∈l\/∃r∈rs,aQ<kF r/\kF r=x
 |[],l=>sZ
 |r::t,l=>by
  rw[ay,TR];by_cases h:aQ<kF r
  .by_cases d:kF r∈l
   .have e:(decide (aQ<kF r)&& !(l.contains (kF r)))=bd:=by simp[d]
    rw[e];simp only[jG,if_false];constructor
    .rintro(a|⟨r',a,b⟩)
     .exact .inl a
     .exact .inr ⟨r',bK _ a,b⟩
    .rintro(a|⟨r',a,b,c⟩)
     .exact .inl a
     .rcases bH.1 a with rfl|a
      .exact .inl (c▸d)
      .exact .inr ⟨r',a,b,c⟩
   .have e:(decide (aQ<kF r)&& !(l.contains (kF r)))=ap:=by simp[d,h]
    rw[e];simp only[if_true,dM,List.mem_singleton];constructor
    .rintro((a|a)|⟨r',a,b⟩)
     .exact .inl a
     .exact .inr ⟨r,bJ ..,h,a.symm⟩
     .exact .inr ⟨r',bK _ a,b⟩
    .rintro(a|⟨r',a,b,c⟩)
     .exact .inl (.inl a)
     .rcases bH.1 a with rfl|a
      .exact .inl (.inr c.symm)
      .exact .inr ⟨r',a,b,c⟩
  .have e:(decide (aQ<kF r)&& !(l.contains (kF r)))=bd:=by simp[h]
   rw[e];simp only[jG,if_false];constructor
   .rintro(a|⟨r',a,b⟩)
    .exact .inl a
    .exact .inr ⟨r',bK _ a,b⟩
   .rintro(a|⟨r',a,b,c⟩)
    .exact .inl a
    .rcases bH.1 a with rfl|a
     .exact absurd b h
     .exact .inr ⟨r',a,b,c⟩
theorem amu{aQ x:Int}:x∈ends rs aQ↔∃r∈rs,aQ<kF r/\kF r=x:=by unfold ends rF;rw[XG,TR];simp
def nI(rs:List R)(aQ:Int):List Int:=aQ::ends rs aQ
theorem aiK:∀(l:List Int) (n:Int),∃m∈n::l,∀x∈n::l,x<=m
 |[],n=>⟨n,bJ ..,λx a=>Int.le_of_eq (by simpa using a)⟩
 |y::t,n=>by
  obtain⟨m,c,b⟩:=aiK t n;by_cases h:m<=y
  .refine⟨y,sZ,λx a=>?_⟩;rcases bH.1 a with rfl|a
   .have:=b x (bJ ..);omega
   .rcases bH.1 a with rfl|a
    .omega
    .have:=b x (bK _ a);omega
  .refine⟨m,?_,λx a=>?_⟩
   .rcases bH.1 c with rfl|c
    .exact bJ ..
    .exact bK _ (bK _ c)
   .rcases bH.1 a with rfl|a
    .exact b x (bJ ..)
    .rcases bH.1 a with rfl|a
     .omega
     .exact b x (bK _ a)
theorem aiQ(rs:List R)(aQ:Int):∃t∈nI rs aQ,dR rs t=[]:=by obtain⟨m,b,a⟩:=aiK (ends rs aQ) aQ;refine⟨m,b,?_⟩;unfold dR;rw[nA];intro r c;simp only[eT];intro h;have n:=a aQ (bJ ..);have:=a (kF r) (bK _ (amu.2 ⟨r,c,oZ,rfl⟩));omega
theorem KH:∀{l:List Int},rR c rs p l=be->∀t∈l,dX c (dR rs t) p=be
 |[],_,t,a=>by cases a
 |x::l,h,t,a=>by
  unfold rR at h;cases b:dX c (dR rs x) p with
  |some v=>rw[b]at h;cases h
  |none=>
   rw[b]at h;rcases bH.1 a with rfl|a
   .exact b
   .exact KH h t a
theorem afb(h:never c p=bd)(aQ:Int)(rs:List R):(start c aQ rs p).isSome=ap:=by
 cases e:start c aQ rs p with
 |some t=>rfl
 |none=>
  obtain⟨t,a,b⟩:=aiQ rs aQ;have:=KH e t a;rw[b]at this;unfold never at h;rw[this]at h;cases h
theorem aon{aQ:Int}{x:Rd}(n:∀r∈x.rs,Fair r.p):∃l,(look c aQ x p).ev=x.ev++l:=by
 have m:=xZ (c:=c) (aQ:=aQ) (p:=p) n;generalize look c aQ x p=y at m;cases m with
 |run fl s b d=>exact⟨_,rfl⟩
 |wait b d=>exact⟨[],sZ⟩
 |give g fl s b d j k=>
  have e:∀(g:List Int) (q:List ao×List E),∃l,(g.foldl (oM x.rs) q).2=q.2++l:=by
   intro g;induction g with
   |nil=>exactλq=>⟨[],sZ⟩
   |cons a t u=>
    intro q;obtain⟨l,f⟩:=u (oM x.rs q a);have:∃i,(oM x.rs q a).2=q.2++i:=by
     unfold oM;split
     .exact⟨_,rfl⟩
     .exact⟨[],sZ⟩
    obtain⟨i,o⟩:=this;exact⟨i++l,by rw[ay,f,o,bM]⟩
  obtain⟨l,f⟩:=e g (x.ps,x.ev);refine⟨l++[⟨1,p.id,fl⟩],?_⟩;show(lJ x g).ev++[⟨1,p.id,fl⟩]=_;have:(lJ x g).ev=x.ev++l:=f;rw[this,bM]
 |first t b d j k=>exact⟨_,rfl⟩
 |none b d j k=>exact⟨[],sZ⟩
theorem XQ(hs:EK s):∀(l:List ao) (x:Rd),Mid s x l->∃t,(rounds s.c s.aQ x l).ev=x.ev++t
 |[],x,m=>⟨[],by simp[rounds]⟩
 |p::l,x,m=>by obtain⟨a,d⟩:=aon (c:=s.c) (aQ:=s.aQ) (p:=p) (m.wY hs);obtain⟨b,e⟩:=XQ hs l _ (m.step hs);exact⟨a++b,by show(rounds s.c s.aQ (look s.c s.aQ x p) l).ev=_;rw[e,d,bM]⟩
theorem TH(h:Good n s){l:List ao}(v:row s=p::l):(∀fl hs,dX s.c s.rs p=ax (fl,hs)->∃t,(run s).2=⟨1,p.id,fl⟩::t)/\(dX s.c s.rs p=be->∃e t,(run s).2=e::t):=by
 have m:=Mid.start h.sane;rw[v]at m;have I:p∈s.ps:=(m.left p (bJ ..)).2;have J:=h.kV p (dY _ I);have z:=xZ (c:=s.c) (aQ:=s.aQ) (p:=p) (m.wY h.sane);obtain⟨t,x⟩:=XQ h.sane l _ (m.step h.sane);have F:(run s).2=(rounds s.c s.aQ (look s.c s.aQ ⟨s.ps,s.rs,[],bd,0⟩ p) l).ev:=by unfold Top.run EA;rw[v];rfl
 rw[F,x];generalize look s.c s.aQ ⟨s.ps,s.rs,[],bd,0⟩ p=y at z x;cases z with
 |run fl o d f=>
  refine⟨λr w e=>?_,λe=>?_⟩
  .have i:dX s.c s.rs p=ax (fl,o):=d;rw[i]at e;cases e;exact⟨t,rfl⟩
  .have i:dX s.c s.rs p=ax (fl,o):=d;rw[i]at e;cases e
 |wait d f=>cases d
 |give g fl o d f u k=>
  refine⟨λr w e=>?_,λe=>?_⟩
  .have j:dX s.c s.rs p=be:=f;rw[j]at e;cases e
  .obtain⟨M,L⟩:=nZ ((lJ ⟨s.ps,s.rs,[],bd,0⟩ g).ev++[⟨1,p.id,fl⟩]);show∃e A,((lJ ⟨s.ps,s.rs,[],bd,0⟩ g).ev++[⟨1,p.id,fl⟩])++t=e::A;cases K:(lJ ⟨s.ps,s.rs,[],bd,0⟩ g).ev with
   |nil=>exact⟨_,_,rfl⟩
   |cons a b=>exact⟨_,_,rfl⟩
 |first A d f u k=>
  refine⟨λr w e=>?_,λe=>⟨_,t,rfl⟩⟩;have j:dX s.c s.rs p=be:=f;rw[j]at e;cases e
 |none d f u k=>
  have:=afb J.may s.aQ s.rs;have H:start s.c s.aQ s.rs p=be:=k;rw[H]at this;cases this
theorem afl(h:Good n s){l:List ao}(b:row s=p::l)(a:dX s.c s.rs p=ax (fl,hs)):(∃t,(run s).2=⟨1,p.id,fl⟩::t)/\(hs.length:Int)=p.fG/\(run s).1.rs.length+(run s).1.ps.length=s.rs.length+s.ps.length:=by have c:p∈s.ps:=(vE s).mem_iff.1 (by rw[b];exact bJ ..);have d:=h.kV p (dY _ c);refine⟨(TH h b).1 fl hs a,(aey (by have:=d.nums.fG;omega) a).1,?_⟩;have:=(EX h.sane).perm.length_eq;simp only[aW,gs,bP]at this;show(EA s).rs.length+(EA s).ps.length=_;omega
end Top
namespace topFirst
theorem c1:(Rows.topFirstRow.inPlace==Tryz.pinned.checked.prog.inPlace 3)=ap:=by kernel_rfl
theorem c2:(Rows.topFirstRow.unfollowed==Tryz.pinned.checked.prog.unfollowed 3)=ap:=by kernel_rfl
theorem c3:(Rows.topFirstRow.recurses==Tryz.pinned.checked.prog.recurses 3)=ap:=by kernel_rfl
theorem c4:(Rows.topFirstRow.named==Tryz.pinned.checked.prog.varsNamed 3)=ap:=by kernel_rfl
theorem c5:laidOutB Tryz.pinned.checked.prog=ap:=by kernel_rfl
theorem c6:mapsRowed Tryz.pinned.checked.prog=ap:=by kernel_rfl
theorem c7:Rows.topFirstRow.wf (OpenSpec.ofChange bk)=ap:=by kernel_rfl
theorem c8:Tryz.pinned.checked.prog.stopsHeard=ap:=by kernel_rfl
theorem c9:Tryz.pinned.checked.prog.mayEnter=ap:=by kernel_rfl
theorem c10:(Rows.topFirstRow.lifted==Tryz.pinned.checked.prog.liftsFinal)=ap:=by kernel_rfl
theorem c11:(Tryz.pinned.checked.prog.make==ax Rows.topFirstRow.make)=ap:=by kernel_rfl
theorem c12:(Rows.topFirstRow.plainKeys==Tryz.pinned.checked.prog.plainKeys)=ap:=by kernel_rfl
theorem joined:joinedFacts Tryz.pinned.checked.prog 3 Tryz.f3 bk Rows.topFirstRow=ap:=by
 unfold joinedFacts;rw[c1,c2,c3,c4,c5,c6,c7,c8,c9,c10,c11,c12]
 kernel_rfl
theorem ajm:Tryz.pinned.checked.prog.funcNamed Rows.topFirstRow.func=ax 3:=by kernel_rfl
theorem aqN:Tryz.f3.isInstance Tryz.pinned.checked.prog Rows.topFirstRow.origin Rows.topFirstRow.targs:=of_decide_eq_true kZ
theorem aqD:Tryz.f3.isWrapper Tryz.pinned.checked.prog Rows.topFirstRow.wrapper Rows.topFirstRow.mainSum:=by unfold Func.isWrapper;first|(rw[aI (by decide+kernel)];kernel_rfl)|(rw[aF (by decide+kernel)];exact⟨rfl,rfl⟩)
theorem d1:Rows.topFirstRow.wfByText (OpenSpec.ofChange bk)=ap:=by kernel_rfl
theorem d2:Tryz.pinned.checked.prog.mainIs=ax (ap,"c97910147129ad8b29a81bf79b7d3dfe1754e7ca21dcd0dadd0273f90efd963e".toList):=by kernel_rfl
theorem d3:ap=Tryz.pinned.checked.prog.looks []:=by kernel_rfl
theorem d4:Tryz.pinned.checked.prog.wantsStandIn 22=bd:=by kernel_rfl
theorem d5:bd=Rows.topFirstRow.goesBy Tryz.pinned.checked.prog:=by kernel_rfl
end topFirst
end Go.Proofs.YtedmeglbjmdlhaaGreatDoor
