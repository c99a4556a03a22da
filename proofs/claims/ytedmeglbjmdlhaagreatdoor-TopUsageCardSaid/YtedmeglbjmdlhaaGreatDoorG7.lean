/-
Parts that the laws of the whole program share: contracts of its functions, and plain laws.
-/
import Derived.Test.YtedmeglbjmdlhaaGreatDoorG1
import Derived.Shelf.SlSortCmp.Insertion
import Derived.Sort.LotA
import Derived.Sort.WalkA
import Derived.KernelRfl
set_option maxRecDepth 100000
set_option maxHeartbeats 16000000
set_option linter.all false
namespace Go.Proofs.YtedmeglbjmdlhaaGreatDoor
open Go
open Cfg Dec Jou Ord Quo Srt Top Vec sK
namespace Srt
open Go Go.Sort
variable {α:Type} [Inhabited α] {f:α->α->Int}
def kT(f:α->α->Int)(l l':List α):Prop:=∀x,l.filter (λy=>f x y==0)=l'.filter (λy=>f x y==0)
omit [Inhabited α]in
theorem kT.refl(l:List α):kT f l l:=λ_=>rfl
omit [Inhabited α]in
theorem kT.symm{l l':List α}(h:kT f l l'):kT f l' l:=λx=>(h x).symm
omit [Inhabited α]in
theorem kT.trans{l l' a:List α}(h:kT f l l')(b:kT f l' a):kT f l a:=λx=>(h x).trans (b x)
omit [Inhabited α]in
theorem kT.append{a b l2 c:List α}(h:kT f a b)(d:kT f l2 c):kT f (a++l2) (b++c):=λx=>by rw[fO,fO,h x,d x]
omit [Inhabited α]in
theorem kT.swap(b:jE f){u v:List α}(h:∀x∈u,∀y∈v,f y x<0):kT f (u++v) (v++u):=λz=>by
 rw[fO,fO];by_cases c:u.filter (λy=>f z y==0)=[]
 .rw[c];simp
 .obtain⟨x,a⟩:=List.exists_mem_of_ne_nil _ c;obtain⟨a,g⟩:=fT.1 a;have hv:v.filter (λy=>f z y==0)=[]:=by
   rw[kX];intro y d e;have h1:f z y=0:=by simpa using e
   have h2:f z x=0:=by simpa using g
   have i:=b.eq_left y h2;have j:=b.neg x y;have k:=h x a y d;omega
  rw[hv];simp
omit [Inhabited α]in
theorem kT.mem(a:jE f){l l':List α}(h:kT f l l'){x:α}(b:x∈l):x∈l':=by have h1:x∈l.filter (λy=>f x y==0):=fT.2 ⟨b,by simp[a.self]⟩;rw[h x]at h1;exact(fT.1 h1).1
omit [Inhabited α]in
theorem IJ(a:jE f):∀{l l':List α},l.Pairwise (λx y=>f x y<=0)->l'.Pairwise (λx y=>f x y<=0)->kT f l l'->l=l'
 |[],[],_,_,_=>rfl
 |[],y::c,_,_,h=>by have:=h.symm.mem a (aZ ..);cases this
 |x::t,[],_,_,h=>by have:=h.mem a (aZ ..);cases this
 |x::t,y::c,h1,h2,h=>by
  have p1:=eX.1 h1;have p2:=eX.1 h2;have j:f y x<=0:=by
   rcases bA.1 (h.mem a (aZ ..))with e|e
   .rw[e,a.self];exact gN _
   .exact p2.1 _ e
  have k:f x y<=0:=by
   rcases bA.1 (h.symm.mem a (aZ ..))with e|e
   .rw[e,a.self];exact gN _
   .exact p1.1 _ e
  have d:f x y=0:=by have:=a.neg x y;omega
  have i:x=y:=by have:=h x;rw[mK (by simp[a.self]),mK (by simp[d])]at this;exact(List.cons.inj this).1
  subst i;have g:kT f t c:=λz=>by
   have:=h z;by_cases b:f z x=0
   .rw[mK (by simp[b]),mK (by simp[b])]at this;exact(List.cons.inj this).2
   .rwa [List.filter_cons_of_neg (by simp[b]),List.filter_cons_of_neg (by simp[b])]at this
  rw[IJ a p1.2 p2.2 g]
def sg(d:Array α)(a n:Nat):List α:=(List.range n).map (λi=>d[a+i]!)
theorem yM(d:Array α)(a n m:Nat):sg d a (n+m)=sg d a n++sg d (a+n) m:=by unfold sg;rw[List.range_add,dO,List.map_map];congr 1;apply List.map_congr_left;intro i _;show d[a+(n+i)]! =d[a+n+i]!;rw[iQ]
theorem xD{d d':Array α}{a a' n:Nat}(h:∀i,i<n->d'[a'+i]! =d[a+i]!):sg d' a' n=sg d a n:=by unfold sg;apply List.map_congr_left;intro i hi;exact h i (jU.1 hi)
theorem ZB{d:Array α}{a n:Nat}{x:α}:x∈sg d a n↔∃i,a<=i/\i<a+n/\d[i]! =x:=by
 unfold sg;rw[bL];constructor
 .rintro⟨i,hi,rfl⟩;exact⟨a+i,oZ,by have:=jU.1 hi;omega,rfl⟩
 .rintro⟨i,h1,h2,rfl⟩;exact⟨i-a,jU.2 oZ,by rw[show a+(i-a)=i by omega]⟩
theorem YJ(d:Array α):sg d 0 d.size=d.toList:=by
 apply List.ext_getElem
 .simp[sg]
 .intro i h1 h2;simp only[sg,List.getElem_map,List.getElem_range,aU,Array.getElem_toList];exact dF d i (by simpa using h2)
def Sd(f:α->α->Int)(d:Array α)(a b:Nat):Prop:=∀i j,a<=i->i<j->j<b->f d[i]! d[j]! <=0
theorem Sd.le(e:jE f){d:Array α}{a b:Nat}(h:Sd f d a b){i j:Nat}(h1:a<=i)(h2:i<=j)(c:j<b):f d[i]! d[j]! <=0:=by
 rcases Nat.eq_or_lt_of_le h2 with rfl|h2
 .rw[e.self];exact gN _
 .exact h i j h1 h2 c
theorem Sd.sub{d:Array α}{a b a' c:Nat}(h:Sd f d a b)(h1:a<=a')(h2:c<=b):Sd f d a' c:=λi j hi e g=>h i j oZ e oZ
theorem Sd.shift{d d':Array α}{a b a':Nat}(h:Sd f d a b)(e:∀i,i<b-a->d'[a'+i]! =d[a+i]!){c:Nat}(g:c=a'+(b-a)):Sd f d' a' c:=by intro i j hi k l;have e1:=e (i-a') oZ;have e2:=e (j-a') oZ;rw[show a'+(i-a')=i by omega]at e1;rw[show a'+(j-a')=j by omega]at e2;rw[e1,e2];exact h _ _ oZ oZ oZ
theorem Sd.pairwise(d:Array α)(h:Sd f d 0 d.size):d.toList.Pairwise (λx y=>f x y<=0):=by rw[List.pairwise_iff_getElem];intro i j hi a b;have:=h i j (bK _) b (by simpa using a);rw[dF d i (by simpa using hi),dF d j (by simpa using a)]at this;simpa using this
theorem Sd.one(d:Array α){a b:Nat}(h:b<=a+1):Sd f d a b:=λi j _ _ _=>oZ
def rot(a m b k:Nat):Nat:=if a<=k/\k<a+(b-m)then k+(m-a)else if a+(b-m)<=k/\k<b then k-(b-m)else k
structure Rot (d d':Array α) (a m b:Nat):Prop where
 size:d'.size=d.size
 get:∀k,d'[k]! =d[rot a m b k]!
theorem Rot.self(d:Array α){a m b:Nat}(h:m<=a\/b<=m)(h2:a<=m)(c:m<=b):Rot d d a m b:=⟨rfl,λk=>by
 unfold rot;split
 .congr 1;omega
 .split
  .congr 1;omega
  .rfl⟩
section
variable {d d':Array α} {a m b:Nat} (h:Rot d d' a m b) (h1:a<=m) (h2:m<=b)
include h h1 h2
theorem Rot.fst{i:Nat}(hi:i<b-m):d'[a+i]! =d[m+i]! :=by have _:=h1;have _:=h2;rw[h.get,rot,aG oZ];congr 1;omega
theorem Rot.snd{i:Nat}(hi:i<m-a):d'[a+(b-m)+i]! =d[a+i]! :=by rw[h.get,rot,aD oZ,aG oZ];congr 1;omega
theorem Rot.out{i:Nat}(hi:i<a\/b<=i):d'[i]! =d[i]! :=by rw[h.get,rot,aD oZ,aD oZ]
theorem Rot.st(g:jE f){p q:Nat}(v:p<=a)(w:b<=q)(n:∀i j,a<=i->i<m->m<=j->j<b->f d[j]! d[i]! <0):kT f (sg d p (q-p)) (sg d' p (q-p)):=by
 have e:q-p=(a-p)+((m-a)+((b-m)+(q-b))):=oZ;have c:q-p=(a-p)+((b-m)+((m-a)+(q-b))):=oZ;have s1:sg d p (q-p)=sg d p (a-p)++((sg d a (m-a)++sg d m (b-m))++sg d b (q-b)):=by rw[e,yM,yM,yM,show p+(a-p)=a by omega,show a+(m-a)=m by omega,show m+(b-m)=b by omega,bP]
 have s2:sg d' p (q-p)=sg d p (a-p)++((sg d m (b-m)++sg d a (m-a))++sg d b (q-b)):=by rw[c,yM,yM,yM,show p+(a-p)=a by omega,show a+(b-m)+(m-a)=b by omega,bP];rw[xD (d:=d) (d':=d') (a:=p) (a':=p) λi hi=>h.out h1 h2 oZ,xD (d:=d) (d':=d') (a:=m) (a':=a) λi hi=>h.fst h1 h2 hi,xD (d:=d) (d':=d') (a:=a) (a':=a+(b-m)) λi hi=>h.snd h1 h2 hi,xD (d:=d) (d':=d') (a:=b) (a':=b) λi hi=>h.out h1 h2 oZ]
 rw[s1,s2];refine(kT.refl _).append (kT.append (kT.swap g ?_) (kT.refl _));intro x o y r;obtain⟨i,k,s,rfl⟩:=ZB.1 o;obtain⟨j,l,u,rfl⟩:=ZB.1 r;exact n i j k oZ l oZ
end
structure Mrg (f:α->α->Int) (d d':Array α) (a b:Nat):Prop where
 size:d'.size=d.size
 out:∀k,k<a\/b<=k->d'[k]! =d[k]!
 st:kT f (sg d a (b-a)) (sg d' a (b-a))
 sorted:Sd f d' a b
theorem Mrg.same{d:Array α}{a b:Nat}(h:Sd f d a b):Mrg f d d a b:=⟨rfl,λ_ _=>rfl,kT.refl _,h⟩
theorem Mrg.from_(c:jE f){d d':Array α}{a b:Nat}(h:Mrg f d d' a b){i:Nat}(h1:a<=i)(h2:i<b):∃j,a<=j/\j<b/\d'[i]! =d[j]! :=by have k:d'[i]! ∈sg d' a (b-a):=ZB.2 ⟨i,h1,oZ,rfl⟩;obtain⟨j,g,l,e⟩:=ZB.1 (h.st.symm.mem c k);exact⟨j,g,oZ,e.symm⟩
theorem Mrg.join(g:jE f){d1 d2 d3:Array α}{a m b:Nat}(h1:a<=m)(h2:m<=b)(d:Mrg f d1 d2 a m)(c:Mrg f d2 d3 m b)(v:∀i j,a<=i->i<m->m<=j->j<b->f d1[i]! d1[j]! <=0):Mrg f d1 d3 a b where
 size:=c.size.trans d.size
 out:=λk x=>(c.out k oZ).trans (d.out k oZ)
 st:=by have e:b-a=(m-a)+(b-m):=oZ;rw[e,yM,yM,show a+(m-a)=m by omega];have e1:sg d3 a (m-a)=sg d2 a (m-a):=xD (λi hi=>c.out _ oZ);have e2:sg d2 m (b-m)=sg d1 m (b-m):=xD (λi hi=>d.out _ oZ);have:=c.st;rw[e2]at this;rw[e1];exact d.st.append this
 sorted:=by
  intro i j hi l n;by_cases u:j<m
  .rw[c.out i oZ,c.out j oZ];exact d.sorted i j hi l u
  .by_cases s:i<m
   .rw[c.out i oZ];obtain⟨w,a1,a2,p⟩:=d.from_ g hi s;obtain⟨o,b1,b2,r⟩:=c.from_ g (show m<=j by omega) n;rw[p,r,d.out o oZ];exact v w o a1 a2 b1 b2
   .exact c.sorted i j oZ l n
theorem AV(g:jE f){d d1 d2 d3:Array α}{a m b s e mid:Nat}(O:a<=s)(r:s<=m)(o:m<=e)(Q:e<=b)(ae:mid=s+(e-m))(w:Sd f d a m)(x:Sd f d m b)(c1:a<s->e<b->0<=f d[e]! d[s-1]!)(c2:s<m->m<e->f d[e-1]! d[s]! <0)(R:Rot d d1 s m e)(K:Mrg f d1 d2 a mid)(L:Mrg f d2 d3 mid b):Mrg f d d3 a b:=by
 have strict:∀i j,s<=i->i<m->m<=j->j<e->f d[j]! d[i]! <0:=by
  intro i j hi z A ad;have H:=w.le g (show a<=s by omega) hi z;have I:=x.le g A (show j<=e-1 by omega) oZ;have af:=c2 oZ oZ;have t4:=g.trans _ _ _ I (show f d[e-1]! d[s]! <=0 by omega);have ab:=g.trans _ _ _ t4 H;have n:=g.strict (a:=d[j]!) (b:=d[e-1]!) (c:=d[s]!) I oZ;have n2:=g.strict (a:=d[j]!) (b:=d[s]!) (c:=d[i]!) t4 H;rcases Int.lt_or_eq_of_le ab with h|h
  .exact h
  .have:=n2 h;have:=n this.1;omega
 have J:=K.join g oZ oZ L (by
  intro i j hi z A Z;have T:∃l,d1[i]! =d[l]! /\((a<=l/\l<s)\/(m<=l/\l<e)):=by
   by_cases h:i<s
   .exact⟨i,R.out r o (Or.inl h),Or.inl ⟨hi,h⟩⟩
   .refine⟨m+(i-s),?_,Or.inr ⟨oZ,oZ⟩⟩;have:=R.fst r o (i:=i-s) oZ;rwa [show s+(i-s)=i by omega]at this
  have W:∃p,d1[j]! =d[p]! /\((s<=p/\p<m)\/(e<=p/\p<b)):=by
   by_cases h:j<e
   .refine⟨s+(j-mid),?_,Or.inl ⟨oZ,oZ⟩⟩;have:=R.snd r o (i:=j-mid) oZ;rwa [show s+(e-m)+(j-mid)=j by omega]at this
   .exact⟨j,R.out r o (Or.inr oZ),Or.inr ⟨oZ,Z⟩⟩
  obtain⟨l,M,X⟩:=T;obtain⟨p,N,Y⟩:=W;rw[M,N];rcases X with⟨u,F⟩|⟨u,F⟩<;>rcases Y with⟨y,v⟩|⟨y,v⟩
  .exact w.le g u oZ v
  .have q:=c1 oZ oZ;have n:=g.neg d[e]! d[s-1]!;exact g.trans _ _ _ (g.trans _ _ _ (w.le g u (show l<=s-1 by omega) oZ) (show f d[s-1]! d[e]! <=0 by omega)) (x.le g o y v)
  .have:=strict p l y v u F;omega
  .exact x.le g u oZ v)
 exact⟨J.size.trans R.size,λk aa=>(J.out k aa).trans (R.out r o oZ),(R.st r o g O Q strict).trans J.st,J.sorted⟩
theorem arK(d:Array α){j:Nat}(a:j+1<d.size):Rot d (swp d (j+1) j) j (j+1) (j+2):=⟨size_swp _ _ _,λk=>by
 rw[swp_get d a oZ];unfold rot;split
 .subst k;rw[aG oZ];congr 1;omega
 .split
  .subst k;rw[aD oZ,aG oZ];congr 1;omega
  .rw[aD oZ,aD oZ]⟩
theorem KY(l:jE f)(a b:Nat):∀(j:Nat) (d:Array α),a<=j->j<b->b<=d.size->(insInner (ltOf f) a j d).size=d.size/\(∀k,k<a\/b<=k->(insInner (ltOf f) a j d)[k]! =d[k]!)/\kT f (sg d a (b-a)) (sg (insInner (ltOf f) a j d) a (b-a))
 |0,d,_,_,_=>⟨rfl,λ_ _=>rfl,kT.refl _⟩
 |j+1,d,h1,h2,m=>by
  by_cases c:a<j+1/\ltOf f d[j+1]! d[j]! =true
  .have R:=arK d (j:=j) oZ;have g:=KY l a b j (swp d (j+1) j) oZ oZ (by rw[size_swp];exact m);rw[insInner_go _ _ _ _ c.1 (by simpa using c.2)];refine⟨g.1.trans (size_swp _ _ _),λk n=>(g.2.1 k n).trans (R.out oZ oZ oZ),?_⟩;refine(R.st oZ oZ l oZ oZ ?_).trans g.2.2;intro i k o p r s;have:i=j:=by omega
   have:k=j+1:=by omega
   subst i k;exact of_decide_eq_true c.2
  .rw[insInner_stop]
   .exact⟨rfl,λ_ _=>rfl,kT.refl _⟩
   .by_cases h:a<j+1
    .right;have:¬ltOf f d[j+1]! d[j]! =true:=λe=>c ⟨h,e⟩;simpa using this
    .left;omega
theorem KX(e:jE f)(a b:Nat):∀(n i:Nat) (d:Array α),b-i<=n->a<=i->b<=d.size->(insOuter (ltOf f) a b i d).size=d.size/\(∀k,k<a\/b<=k->(insOuter (ltOf f) a b i d)[k]! =d[k]!)/\kT f (sg d a (b-a)) (sg (insOuter (ltOf f) a b i d) a (b-a))
 |0,i,d,j,h1,h2=>by rw[insOuter_stop _ _ _ _ _ oZ];exact⟨rfl,λ_ _=>rfl,kT.refl _⟩
 |n+1,i,d,j,h1,h2=>by
  by_cases hi:i<b
  .have k:=KY e a b i d h1 hi h2;have c:=KX e a b n (i+1) (insInner (ltOf f) a i d) oZ oZ (by rw[k.1];exact h2);rw[insOuter_go _ _ _ _ _ hi];exact⟨c.1.trans k.1,λq g=>(c.2.1 q g).trans (k.2.1 q g),k.2.2.trans c.2.2⟩
  .rw[insOuter_stop _ _ _ _ _ hi];exact⟨rfl,λ_ _=>rfl,kT.refl _⟩
omit [Inhabited α]in
theorem atz(a:jE f):SWO (ltOf f) where
 irrefl:=λx=>by simp[ltOf,a.self]
 trans:=λx y z h1 h2=>by
  have h1:=of_decide_eq_true h1;have h2:=of_decide_eq_true h2;refine decide_eq_true ?_;have t:=a.trans x y z oZ oZ;rcases Int.lt_or_eq_of_le t with h|h
  .exact h
  .have:=a.strict (show f x y<=0 by omega) (show f y z<=0 by omega) h;omega
 ntrans:=λx y z h1 h2=>by have h1:=of_decide_eq_false h1;have h2:=of_decide_eq_false h2;refine eG ?_;have n1:=a.neg x y;have n2:=a.neg y z;have b:=a.neg x z;have t:=a.trans z y x oZ oZ;omega
theorem SG(c:jE f)(d:Array α){a b:Nat}(g:a<=b)(e:b<=d.size):Mrg f d (Sort.insertionSort (ltOf f) d a b) a b:=by have k:=KX c a b (b-(a+1)) (a+1) d lZ oZ e;have o:=(insertionSort_holds (atz c) d a b g e).2;refine⟨k.1,k.2.1,k.2.2,λi j hi l m=>?_⟩;have:=of_decide_eq_false (o i j hi l m);have n:=c.neg (Sort.insertionSort (ltOf f) d a b)[i]! (Sort.insertionSort (ltOf f) d a b)[j]!;omega
omit [Inhabited α]in
theorem aiY(d:jE f){l c l2:List α}{x:α}(i:l=c++l2)(h:l.Pairwise λx y=>f x y<=0)(h1:∀y∈c.getLast?,0<=f x y)(h2:∀y∈l2,f x y<0):(c++([x]++l2)).Pairwise (λx y=>f x y<=0)/\kT f (l++[x]) (c++([x]++l2)):=by
 subst i;have e:=List.pairwise_append.1 h;have j:∀y∈c,f y x<=0:=by
  intro y a;rcases c.eq_nil_or_concat with rfl|⟨m,z,rfl⟩
  .cases a
  .have b:=h1 z sZ;have n:=d.neg z x;have k:y∈m\/y=z:=by simpa using a
   rcases k with g|g
   .have:=(List.pairwise_append.1 (by simpa using e.1)).2.2 y g z sZ;exact d.trans _ _ _ this (by have:=d.neg z x;omega)
   .subst g;omega
 refine⟨?_,?_⟩
 .rw[List.pairwise_append];refine⟨e.1,?_,?_⟩
  .rw[List.singleton_append,eX];exact⟨λy a=>by have:=h2 y a;omega,e.2.1⟩
  .intro y a z b;rcases bY.1 b with b|b
   .have:z=x:=by simpa using b
    subst this;exact j y a
   .exact e.2.2 y a z b
 .rw[bP];refine(kT.refl _).append (kT.swap d ?_);intro y a z b;have:z=x:=by simpa using b
  subst this;exact h2 y a
open Go Go.Sort
variable {α:Type} [Inhabited α] {f:α->α->Int}
def xch(a b n k:Nat):Nat:=if a<=k/\k<a+n then k+(b-a)else if b<=k/\k<b+n then k-(b-a)else k
theorem zI(a b n k:Nat):(a<=k/\k<a+n/\xch a b n k=k+(b-a))\/(¬(a<=k/\k<a+n)/\b<=k/\k<b+n/\xch a b n k=k-(b-a))\/(¬(a<=k/\k<a+n)/\¬(b<=k/\k<b+n)/\xch a b n k=k):=by
 unfold xch;by_cases c:a<=k/\k<a+n
 .rw[aG c];exact .inl ⟨c.1,c.2,rfl⟩
 .rw[aD c];by_cases d:b<=k/\k<b+n
  .rw[aG d];exact .inr (.inl ⟨c,d.1,d.2,rfl⟩)
  .rw[aD d];exact .inr (.inr ⟨c,d,rfl⟩)
theorem uM(a m b k:Nat):(a<=k/\k<a+(b-m)/\rot a m b k=k+(m-a))\/(¬(a<=k/\k<a+(b-m))/\a+(b-m)<=k/\k<b/\rot a m b k=k-(b-m))\/(¬(a<=k/\k<a+(b-m))/\¬(a+(b-m)<=k/\k<b)/\rot a m b k=k):=by
 unfold rot;by_cases c:a<=k/\k<a+(b-m)
 .rw[aG c];exact .inl ⟨c.1,c.2,rfl⟩
 .rw[aD c];by_cases d:a+(b-m)<=k/\k<b
  .rw[aG d];exact .inr (.inl ⟨c,d.1,d.2,rfl⟩)
  .rw[aD d];exact .inr (.inr ⟨c,d,rfl⟩)
structure Xch (d d':Array α) (a b n:Nat):Prop where
 size:d'.size=d.size
 get:∀k,d'[k]! =d[xch a b n k]!
theorem Xch.none(d:Array α)(a b:Nat):Xch d d a b 0:=⟨rfl,λk=>by congr 1;rcases zI a b 0 k with h|h|h<;>omega⟩
theorem adU(d:Array α){i j:Nat}(hi:i<d.size)(c:j<d.size)(k:Nat):∃q,(swp d i j)[k]! =d[q]! /\((k=j/\q=i)\/(k≠j/\k=i/\q=j)\/(k≠j/\k≠i/\q=k)):=by
 rw[swp_get d hi c];by_cases a:k=j
 .rw[aG a];exact⟨i,rfl,.inl ⟨a,rfl⟩⟩
 .rw[aD a];by_cases b:k=i
  .rw[aG b];exact⟨j,rfl,.inr (.inl ⟨a,b,rfl⟩)⟩
  .rw[aD b];exact⟨k,rfl,.inr (.inr ⟨a,b,rfl⟩)⟩
theorem Xch.step{d d':Array α}{a b i:Nat}(h:Xch d d' a b i)(l:a+i<b)(m:b+i<d.size):Xch d (swp d' (a+i) (b+i)) a b (i+1):=⟨by rw[size_swp,h.size],λk=>by obtain⟨q,e,g⟩:=adU d' (i:=a+i) (j:=b+i) (by rw[h.size];omega) (by rw[h.size];omega) k;rw[e,h.get];congr 1;have c:=zI a b i q;have f:=zI a b (i+1) k;rcases g with g|g|g<;>rcases c with c|c|c<;>rcases f with f|f|f<;>omega⟩
def Left(d dk:Array α)(a m b i j:Nat):Prop:=dk.size=d.size/\∀d',Rot dk d' (m-i) m (m+j)->Rot d d' a m b
theorem Left.start(d:Array α){a m b:Nat}(c:a<=m)(e:m<=b):Left d d a m b (m-a) (b-m):=⟨rfl,λd' h=>by rwa [show m-(m-a)=a by omega,show m+(b-m)=b by omega]at h⟩
theorem Left.fst{d l n:Array α}{a m b i j:Nat}(h:Left d l a m b i j)(hi:i<=m)(p:j<i)(g:Xch l n (m-i) m j):Left d n a m b (i-j) j:=⟨g.size.trans h.1,λd' o=>h.2 d' ⟨o.size.trans g.size,λk=>by rw[o.get,g.get];congr 1;have c:=uM (m-(i-j)) m (m+j) k;have e:=zI (m-i) m j (rot (m-(i-j)) m (m+j) k);have f:=uM (m-i) m (m+j) k;rcases c with c|c|c<;>rcases e with e|e|e<;>rcases f with f|f|f<;>omega⟩⟩
theorem Left.snd{d l n:Array α}{a m b i j:Nat}(h:Left d l a m b i j)(hi:i<=m)(p:i<j)(g:Xch l n (m-i) (m+j-i) i):Left d n a m b i (j-i):=⟨g.size.trans h.1,λd' o=>h.2 d' ⟨o.size.trans g.size,λk=>by rw[o.get,g.get];congr 1;have c:=uM (m-i) m (m+(j-i)) k;have e:=zI (m-i) (m+j-i) i (rot (m-i) m (m+(j-i)) k);have f:=uM (m-i) m (m+j) k;rcases c with c|c|c<;>rcases e with e|e|e<;>rcases f with f|f|f<;>omega⟩⟩
theorem Left.done{d g f:Array α}{a m b i:Nat}(h:Left d g a m b i i)(hi:i<=m)(j:Xch g f (m-i) m i):Rot d f a m b:=h.2 f ⟨j.size,λk=>by rw[j.get];congr 1;have c:=zI (m-i) m i k;have e:=uM (m-i) m (m+i) k;rcases c with c|c|c<;>rcases e with e|e|e<;>omega⟩
theorem Rot.up{d g:Array α}{a k:Nat}(h:Rot d g a (a+1) (k+1))(m:k+1<d.size)(l:a<=k):Rot d (swp g k (k+1)) a (a+1) (k+2):=⟨(size_swp _ _ _).trans h.size,λx=>by obtain⟨q,e,f⟩:=adU g (i:=k) (j:=k+1) (by rw[h.size];omega) (by rw[h.size];omega) x;rw[e,h.get];congr 1;have b:=uM a (a+1) (k+1) q;have c:=uM a (a+1) (k+2) x;rcases f with f|f|f<;>rcases b with b|b|b<;>rcases c with c|c|c<;>omega⟩
theorem Rot.down{d f:Array α}{m k:Nat}(h:Rot d f (k+1) m (m+1))(l:m<d.size)(g:k+1<=m):Rot d (swp f (k+1) k) k m (m+1):=⟨(size_swp _ _ _).trans h.size,λx=>by obtain⟨q,e,c⟩:=adU f (i:=k+1) (j:=k) (by rw[h.size];omega) (by rw[h.size];omega) x;rw[e,h.get];congr 1;have a:=uM (k+1) m (m+1) q;have b:=uM k m (m+1) x;rcases c with c|c|c<;>rcases a with a|a|a<;>rcases b with b|b|b<;>omega⟩
section
variable (hf:jE f) {d d1:Array α} {a m b:Nat}
include hf
theorem agO{i:Nat}(r:a+1=m)(e:m<=i)(j:i<=b)(g:Sd f d m b)(c1:i<b->0<=f d[i]! d[a]!)(c2:m<i->f d[i-1]! d[a]! <0)(R:Rot d d1 a m i):Mrg f d d1 a b:=by
 subst r;have w:Sd f d1 a (a+(i-(a+1))):=(g.sub lZ j).shift (λk s=>R.fst oZ e s) rfl;have z:Sd f d1 (a+(i-(a+1))) b:=by
  have o:d1[a+(i-(a+1))]! =d[a]! :=by have:=R.snd oZ e (i:=0) oZ;simpa using this
  intro x y A v l;have p:d1[y]! =d[y]! :=R.out oZ e oZ;rw[p];by_cases u:x=a+(i-(a+1))
  .subst u;rw[o];have n:=hf.neg d[i]! d[a]!;have c:=c1 oZ;exact hf.trans _ _ _ (show f d[a]! d[i]! <=0 by omega) (g.le hf e oZ l)
  .rw[R.out oZ e oZ];exact g x y oZ v l
 exact AV hf (bI a) oZ e j rfl (Sd.one d lZ) g (λh=>oZ) (λ_ h=>c2 h) R (Mrg.same w) (Mrg.same z)
theorem ajt{i:Nat}(r:m+1=b)(j:a<=i)(e:i<=m)(g:Sd f d a m)(c1:a<i->0<=f d[m]! d[i-1]!)(c2:i<m->f d[m]! d[i]! <0)(R:Rot d d1 i m b):Mrg f d d1 a b:=by
 subst r;have z:Sd f d1 (i+(m+1-m)) (m+1):=(g.sub j lZ).shift (λk s=>R.snd e oZ s) oZ;have w:Sd f d1 a (i+(m+1-m)):=by
  have o:d1[i]! =d[m]! :=by have:=R.fst e oZ (i:=0) oZ;simpa using this
  intro x y l u A;have p:d1[x]! =d[x]! :=R.out e oZ oZ;rw[p];by_cases v:y=i
  .subst v;rw[o];have n:=hf.neg d[m]! d[y-1]!;have c:=c1 oZ;exact hf.trans _ _ _ (g.le hf l (show x<=y-1 by omega) oZ) (show f d[y-1]! d[m]! <=0 by omega)
  .rw[R.out e oZ oZ];exact g x y l u oZ
 exact AV hf j e oZ lZ rfl g (Sd.one d oZ) (λ_ h=>oZ) (λh _=>by simpa using c2 h) R (Mrg.same w) (Mrg.same z)
end
theorem atG{d d1:Array α}{a m b s e mid:Nat}(u:a<=s)(g:s<=m)(c:m<=e)(v:e<=b)(w:mid=s+(e-m))(o:Sd f d a m)(p:Sd f d m b)(R:Rot d d1 s m e):Sd f d1 a s/\Sd f d1 s mid/\Sd f d1 mid e/\Sd f d1 e b:=by
 subst w;refine⟨?_,(p.sub lZ v).shift (λk n=>R.fst g c n) rfl,(o.sub u lZ).shift (λk n=>R.snd g c n) oZ,?_⟩
 .intro i j hi l r;rw[R.out g c oZ,R.out g c oZ];exact o i j hi l oZ
 .intro i j hi l r;rw[R.out g c oZ,R.out g c oZ];exact p i j oZ l r
theorem Mrg.sd{d d':Array α}{a b p q:Nat}(h:Mrg f d d' a b)(g:q<=a\/b<=p)(S:Sd f d p q):Sd f d' p q:=by intro i j hi c e;rw[h.out i oZ,h.out j oZ];exact S i j hi c e
inductive Bks (f:α->α->Int) (d:Array α) (k:Nat):Nat->Nat->Prop
 |nil (p:Nat):Bks f d k p p
 |cons {p q:Nat}:Sd f d p (p+k)->Bks f d k (p+k) q->Bks f d k p q
theorem Bks.le{d:Array α}{k p q:Nat}(h:Bks f d k p q):p<=q:=by
 induction h with
 |nil=>omega
 |cons _ _ a=>omega
theorem Bks.snoc{d:Array α}{k p q:Nat}(h:Bks f d k p q)(a:Sd f d q (q+k)):Bks f d k p (q+k):=by
 induction h with
 |nil p=>exact .cons a (.nil _)
 |cons b _ c=>exact .cons b (c a)
theorem Bks.first{d:Array α}{k p q:Nat}(h:Bks f d k p q)(c:0<k)(e:p<q):Sd f d p (p+k)/\Bks f d k (p+k) q/\p+k<=q:=by
 cases h with
 |nil=>omega
 |cons b a=>exact⟨b,a,a.le⟩
theorem Bks.mrg{d d':Array α}{k p q a b:Nat}(M:Mrg f d d' a b)(h:Bks f d k p q)(i:q<=a\/b<=p):Bks f d' k p q:=by
 induction h with
 |nil=>exact .nil _
 |cons c e g=>
  have:=e.le;exact .cons (M.sd oZ c) (g oZ)
theorem Mrg.all{d d':Array α}{a b n:Nat}(M:Mrg f d d' a b)(c:a<=b)(g:b<=n):kT f (sg d 0 n) (sg d' 0 n):=by
 have e:n=a+((b-a)+(n-b)):=oZ;have s1:∀x:Array α,sg x 0 n=sg x 0 a++(sg x a (b-a)++sg x b (n-b)):=λx=>by
  conv=>lhs;rw[e]
  rw[yM,yM,aU,show a+(b-a)=b by omega]
 rw[s1,s1,xD (d:=d) (d':=d') (a:=0) (a':=0) (n:=a) λi hi=>M.out _ oZ,xD (d:=d) (d':=d') (a:=b) (a':=b) (n:=n-b) λi hi=>M.out _ oZ];exact(kT.refl _).append (M.st.append (kT.refl _))
structure Lot (f:α->α->Int) (d0 d:Array α) (k n a q:Nat):Prop where
 size:d.size=d0.size
 st:kT f (sg d0 0 n) (sg d 0 n)
 low:Bks f d (k+k) 0 a
 high:Bks f d k a q
 rest:Sd f d q n
 qn:q<=n
 nq:n<q+k
structure Lot0 (f:α->α->Int) (d0 d:Array α) (k n a:Nat):Prop where
 size:d.size=d0.size
 st:kT f (sg d0 0 n) (sg d 0 n)
 low:Bks f d k 0 a
theorem Lot0.start(d:Array α)(k n:Nat):Lot0 f d d k n 0:=⟨rfl,kT.refl _,.nil _⟩
theorem Lot0.step{b d d':Array α}{k n a:Nat}(h:Lot0 f b d k n a)(M:Mrg f d d' a (a+k))(c:a+k<=n):Lot0 f b d' k n (a+k):=
 ⟨M.size.trans h.size,h.st.trans (M.all oZ c),(h.low.mrg M (.inl lZ)).snoc M.sorted⟩
theorem Lot0.done{b d d':Array α}{k n a:Nat}(h:Lot0 f b d k n a)(M:Mrg f d d' a n)(c:a<=n)(e:n<a+k):Lot f b d' k n 0 a:=
 ⟨M.size.trans h.size,h.st.trans (M.all c lZ),.nil _,h.low.mrg M (.inl lZ),M.sorted,c,e⟩
theorem Lot.two{e d:Array α}{k n a q:Nat}(h:Lot f e d k n a q)(c:0<k)(i:a+(k+k)<=n):Sd f d a (a+k)/\Sd f d (a+k) (a+(k+k)):=by have:=h.nq;have b:=h.high.first c oZ;have g:=b.2.1.first c oZ;exact⟨b.1,by simpa[iQ]using g.1⟩
theorem Lot.step{b d d':Array α}{k n a q:Nat}(h:Lot f b d k n a q)(e:0<k)(j:a+(k+k)<=n)(M:Mrg f d d' a (a+(k+k))):Lot f b d' k n (a+(k+k)) q:=by
 have:=h.nq;have g:=h.high.first e oZ;have i:=g.2.1.first e oZ;have c:Bks f d k (a+(k+k)) q:=by simpa[iQ]using i.2.1
 have:=c.le;exact⟨M.size.trans h.size,h.st.trans (M.all oZ j),(h.low.mrg M (.inl lZ)).snoc M.sorted,c.mrg M (.inr lZ),M.sd (.inr oZ) h.rest,h.qn,h.nq⟩
theorem Lot.last{g d:Array α}{k n a q:Nat}(h:Lot f g d k n a q)(c:0<k)(m:n<a+(k+k))(l:a+k<n):Sd f d a (a+k)/\Sd f d (a+k) n:=by
 have:=h.nq;have:=h.qn;have b:=h.high.first c oZ;rcases Nat.eq_or_lt_of_le b.2.2 with e|j
 .exact⟨b.1,e▸h.rest⟩
 .have i:=b.2.1.first c j;have:=i.2.2;omega
theorem Lot.next{b d d':Array α}{k n a q:Nat}(h:Lot f b d k n a q)(c:a<=n)(e:n<a+(k+k))(M:Mrg f d d' a n):Lot f b d' (k+k) n 0 a:=
 ⟨M.size.trans h.size,h.st.trans (M.all c lZ),.nil _,h.low.mrg M (.inl lZ),M.sorted,c,e⟩
theorem Lot.one{b d:Array α}{k n a q:Nat}(h:Lot f b d k n a q)(g:0<k)(j:n<=a+k):Sd f d a n:=by
 have:=h.nq;have:=h.qn;have:=h.high.le;rcases Nat.eq_or_lt_of_le h.high.le with e|i
 .exact e▸h.rest
 .have c:=h.high.first g i;have:a+k=n:=by omega
  exact this▸c.1
theorem Lot.whole(hf:jE f){a d:Array α}{k q:Nat}(h:Lot f a d k a.size 0 q)(c:0<k)(g:a.size<=k):d=Sort.insertionSort (ltOf f) a 0 a.size:=by have s:=h.one c oZ;have M:=SG hf a (bK a.size) lZ;have e1:d.size=a.size:=h.size;have e2:=M.size;refine Array.toList_inj.1 (IJ hf (Sd.pairwise d (by rw[e1];exact s)) (Sd.pairwise _ (by rw[e2];exact M.sorted)) ?_);have b:=M.st;have e:=h.st;rw[Nat.sub_zero]at b;rw[<-YJ,<-YJ,e1,e2];exact e.symm.trans b
open Go Go.Sort
variable {α:Type} [Inhabited α] {f:α->α->Int}
def qJ(f:α->α->Int)(x:α)(l:List α):Nat->Nat
 |0=>0
 |k+1=>if f x (l.getD k default)<0 then qJ f x l k else k+1
def mX(f:α->α->Int)(l:List α)(x:α):List α:=l.take (qJ f x l l.length)++([x]++l.drop (qJ f x l l.length))
def vL(f:α->α->Int)(xs:List α):List α:=xs.foldl (mX f) []
theorem JH(x:α)(l:List α):∀k,qJ f x l k<=k
 |0=>bI _
 |k+1=>by
  unfold qJ;split
  .exact Nat.le_succ_of_le (JH x l k)
  .exact bI _
theorem UO(x:α)(l:List α):∀k,(∀i,qJ f x l k<=i->i<k->f x (l.getD i default)<0)/\(0<qJ f x l k->0<=f x (l.getD (qJ f x l k-1) default))
 |0=>⟨λi _ h=>oZ,λh=>by simp[qJ]at h⟩
 |k+1=>by
  have b:=UO x l k;unfold qJ;split
  .rename_i h;refine⟨λi a c=>?_,b.2⟩;by_cases e:i=k
   .rw[e];exact h
   .exact b.1 i a oZ
  .rename_i h;refine⟨λi a c=>oZ,λ_=>by rw[iE];omega⟩
theorem getD_at(l:List α){i:Nat}(h:i<l.length):l.getD i default=l[i]:=by simp[h]
theorem aez(g:jE f)(l:List α)(x:α)(h:l.Pairwise λx y=>f x y<=0):(mX f l x).Pairwise (λx y=>f x y<=0)/\kT f (l++[x]) (mX f l x):=by
 have d:=UO (f:=f) x l l.length;have j:=JH (f:=f) x l l.length;refine aiY g (gU _ l).symm h (λy a=>?_) λy a=>?_
 .have k:0<qJ f x l l.length:=by
   rcases gI (qJ f x l l.length)with e|e
   .rw[e]at a;simp at a
   .exact e
  have c:=d.2 k;rw[getD_at l oZ]at c;rw[List.getLast?_eq_getElem?,bO,iM j]at a;rw[eB,aG oZ,aH oZ]at a;have:l[qJ f x l l.length-1]=y:=by simpa using a
  rw[<-this];exact c
 .obtain⟨i,hi,e⟩:=jR a;rw[List.getElem_drop]at e;have b:=d.1 (qJ f x l l.length+i) oZ (by simp at hi;omega);rw[getD_at l (by simp at hi;omega),e]at b;exact b
theorem yR(a:jE f):∀(xs l:List α),l.Pairwise (λx y=>f x y<=0)->(xs.foldl (mX f) l).Pairwise (λx y=>f x y<=0)/\kT f (l++xs) (xs.foldl (mX f) l)
 |[],l,h=>⟨h,by rw[fC];exact kT.refl _⟩
 |x::xs,l,h=>by
  have p:=aez a l x h;have b:=yR a xs (mX f l x) p.1;refine⟨b.1,?_⟩;have:l++x::xs=(l++[x])++xs:=by simp
  rw[this];exact(p.2.append (kT.refl xs)).trans b.2
theorem agI(a:jE f)(xs:List α):vL f xs=(Sort.insertionSort (ltOf f) xs.toArray 0 xs.length).toList:=by
 have M:=SG a xs.toArray (bK xs.length) sZ;have F:=yR a xs [] List.Pairwise.nil;have c:=M.size;have e2:(Sort.insertionSort (ltOf f) xs.toArray 0 xs.length).size=xs.length:=by rw[c];simp
 refine IJ a F.1 (Sd.pairwise _ (by rw[e2];exact M.sorted)) ?_;have st:=M.st;rw[Nat.sub_zero]at st;have a1:sg xs.toArray 0 xs.length=xs:=by have:=YJ xs.toArray;simpa using this
 have a2:sg (Sort.insertionSort (ltOf f) xs.toArray 0 xs.length) 0 xs.length=(Sort.insertionSort (ltOf f) xs.toArray 0 xs.length).toList:=by have:=YJ (Sort.insertionSort (ltOf f) xs.toArray 0 xs.length);rwa [e2]at this
 rw[a1,a2]at st;have b:=F.2;rw[List.nil_append]at b;exact b.symm.trans st
end Srt
namespace Top
open Go.Proofs.YtedmeglbjmdlhaaGreatDoor
structure R where
 p:Ord.P
 start:Int
 flavor:Int
 aQ:List Int
structure E where
 kind:Int
 id:Int
 n:Int
deriving DecidableEq
structure S where
 c:Cfg.C
 aN:Int
 next:Int
 ps:List Ord.P
 rs:List R
 h:List Nat
def noC:Cfg.C:=⟨[],[],0,0⟩
def new:S:=⟨noC,0,1,[],[],[]⟩
def jT(p:Ord.P):Vec.V:=Vec.mM p.need p.eU
def used(c:Cfg.C)(rs:List R):List Vec.V:=Led.all c (rs.foldl (λu r=>Led.change c u r.p.dN λa=>Vec.add a (jT r.p)) Led.none_)
def free(c:Cfg.C)(rs:List R):List Vec.V:=Hst.free c.aQ (rs.map λr=>(r.p.need,r.aQ))
def lI(n f k:Int):Int:=if 0<k then min n (f/k)else n
def room(f k:Vec.V):Int:=if Vec.dR k f then lI (lI (lI 16 f.x k.x) f.y k.y) f.z k.z else 0
def kE(free:List Vec.V)(need:Vec.V)(eU:Int):List Nat->List Int->List Int
 |[],out=>out
 |h::t,out=>kE free need eU t (if h<free.length then out++List.replicate (min (room (free.getD h Vec.zero) need) (eU-out.length)).toNat (h:Int)else out)
def nJ(free:List Vec.V)(p:Ord.P)(group:List Nat):Option (List Int):=
 let l:=kE free p.need p.eU group []
 if(l.length:Int)<p.eU then none else some l
def oN(free:List Vec.V)(p:Ord.P):List (List Nat)->Option (List Int×List Nat)
 |[]=>none
 |g::gs=>match nJ free p g with
  |some l=>some (l,g)
  |none=>oN free p gs
def WG(c:Cfg.C)(g:List Nat):Int:=(c.aQ.getD (g.headD 0) default).flavor
def qH(c:Cfg.C)(free:List Vec.V)(p:Ord.P):Nat->Int->Option (Int×List Int)
 |0,_=>none
 |n+1,aR=>match oN free p (Hst.mU c.aQ aR)with
  |some (l,g)=>some (WG c g,l)
  |none=>qH c free p n (aR+1)
def find(c:Cfg.C)(free:List Vec.V)(p:Ord.P):Option (Int×List Int):=qH c free p (min p.aR 3-max p.prefer 0+1).toNat (max p.prefer 0)
def dR(c:Cfg.C)(rs:List R)(p:Ord.P):Option (Int×List Int):=if Quo.may c (used c rs) p.dN (jT p)then find c (free c rs) p else none
def jC(r:R):Int:=r.start+r.p.run
def dD(rs:List R)(t:Int):List R:=rs.filter λr=>decide (t<jC r)
def wB(n:Int):List Int->List Int
 |[]=>[n]
 |x::t=>if n<x then n::x::t else x::wB n t
def CO(l:List Int):List Int:=l.foldr wB []
def tL(rs:List R)(aN:Int):List Int:=rs.foldl (λl r=>if decide (aN<jC r)&& !(l.contains (jC r))then l++[jC r]else l) []
def ends(rs:List R)(aN:Int):List Int:=CO (tL rs aN)
def qL(c:Cfg.C)(rs:List R)(p:Ord.P):List Int->Option Int
 |[]=>none
 |t::ts=>match dR c (dD rs t) p with
  |some _=>some t
  |none=>qL c rs p ts
def start(c:Cfg.C)(aN:Int)(rs:List R)(p:Ord.P):Option Int:=qL c rs p (aN::ends rs aN)
def never(c:Cfg.C)(p:Ord.P):Bool:=(dR c [] p).isNone
def sS(aN:Int)(p:Ord.P)(start:Int):Bool:=decide (aN+p.run<=start)
def lD:List Ord.P->Int->Option Nat
 |[],_=>none
 |p::t,id=>if p.id=id then some 0 else(lD t id).map (· +1)
def oI(p:Ord.P):List Ord.P->List Ord.P
 |[]=>[p]
 |x::t=>if p.seq<x.seq then p::x::t else x::oI p t
def nG:List Ord.P->Int->List Ord.P
 |[],_=>[]
 |p::t,id=>if p.id=id then t else p::nG t id
def nO(a b:R):Bool:=decide (Ord.or2 (Ord.num b.start a.start) (Ord.num b.p.seq a.p.seq)<0)
def dK(rs:List R)(dB:List Int):List R:=rs.filter λr=> !dB.contains r.p.id
def upH{α:Type}[Inhabited α](less:α->α->Bool):Nat->Nat->Array α->Array α
 |0,_,l=>l
 |f+1,i,l=>if 0<i then(if less l[i]! l[(i-1)/2]! then upH less f ((i-1)/2) ((l.setIfInBounds i l[(i-1)/2]!).setIfInBounds ((i-1)/2) l[i]!)else l)else l
def oD{α:Type}[Inhabited α](less:α->α->Bool)(l:Array α)(x:α):Array α:=upH less l.size l.size (l.push x)
def vC{α:Type}[Inhabited α](less:α->α->Bool)(n:Nat):Nat->Nat->Array α->Array α
 |0,_,l=>l
 |f+1,i,l=>if 2*i+1<n then
   let k:=if 2*i+2<n&&less l[2*i+2]! l[2*i+1]! then 2*i+2 else 2*i+1
   if less l[k]! l[i]! then vC less n f k ((l.setIfInBounds i l[k]!).setIfInBounds k l[i]!)else l
  else l
def sH{α:Type}[Inhabited α](less:α->α->Bool)(l:Array α):Array α:=vC less (l.size-1) (l.size-1) 0 ((l.setIfInBounds 0 l[l.size-1]!).pop)
def wG{α:Type}[Inhabited α](less:α->α->Bool):Nat->Array α->List α
 |0,_=>[]
 |n+1,l=>l[0]! ::wG less n (sH less l)
instance:Inhabited R:=⟨⟨⟨0,0,0,⟨0,0,0⟩,0,0,0,0,0⟩,0,0,[]⟩⟩
def order(rs:List R):List R:=wG nO rs.length (rs.foldl (oD nO) #[])
def qM(c:Cfg.C)(rs:List R)(p:Ord.P):Nat->List Int->Option (List Int)
 |0,_=>none
 |f+1,dB=>match dR c (dK rs dB) p with
  |some _=>some dB
  |none=>match(order (dK rs dB)).find? (λr=>kP c (used c (dK rs dB)) r.p.dN)with
   |some r=>qM c rs p f (dB++[r.p.id])
   |none=>none
def iK(c:Cfg.C)(rs:List R)(p:Ord.P):List Int->List Int->List Int
 |[],dB=>dB
 |id::t,dB=>iK c rs p t (if(dR c (dK rs (dB.filter λx=> !(x==id))) p).isSome then dB.filter (λx=> !(x==id))else dB)
def choose(c:Cfg.C)(rs:List R)(p:Ord.P):Option (List Int):=if pK c (used c rs) p.dN (jT p)then(qM c rs p (rs.length+1) []).map λdB=>iK c rs p dB dB else none
structure Rd where
 ps:List Ord.P
 rs:List R
 ev:List E
 head:Bool
 start:Int
def aDm(c:Cfg.C)(aN:Int)(x:Rd)(p:Ord.P):Option Rd:=
 match dR c x.rs p with
 |none=>none
 |some (fl,hs)=>if x.head&& !sS aN p x.start then none else some {x with ps:=nG x.ps p.id,rs:=x.rs++[⟨p,aN,fl,hs⟩],ev:=x.ev++[⟨1,p.id,fl⟩]}
def qI(rs:List R)(x:List Ord.P×List E)(id:Int):List Ord.P×List E:=
 match rs.find? (λr=>r.p.id==id)with
 |some r=>(oI r.p x.1,x.2++[⟨2,id,0⟩])
 |none=>x
def lM(x:Rd)(dB:List Int):Rd:={x with ps:=(dB.foldl (qI x.rs) (x.ps,x.ev)).1,ev:=(dB.foldl (qI x.rs) (x.ps,x.ev)).2,rs:=dK x.rs dB}
def look(c:Cfg.C)(aN:Int)(x:Rd)(p:Ord.P):Rd:=
 match aDm c aN x p with
 |some y=>y
 |none=>if x.head then x else match choose c x.rs p with
  |some dB=>(aDm c aN (lM x dB) p).getD (lM x dB)
  |none=>match start c aN x.rs p with
   |some t=>{x with head:=true,start:=t,ev:=x.ev++[⟨4,p.id,t⟩]}
   |none=>{x with start:=0}
def row(s:S):List Ord.P:=vL (Ord.cmp s.c s.h s.aN) s.ps
def rounds(c:Cfg.C)(aN:Int)(x:Rd)(l:List Ord.P):Rd:=l.foldl (look c aN) x
def lT(s:S):Rd:=rounds s.c s.aN ⟨s.ps,s.rs,[],false,0⟩ (row s)
def run(s:S):S×List E:=({s with ps:=(lT s).ps,rs:=(lT s).rs},(lT s).ev)
def JB(c:Cfg.C)(all:Vec.V)(i:Nat)(v:Vec.V):Nat:=if iC c (i:Int)then Vec.dom v all else 0
def mI(c:Cfg.C)(rs:List R):List Nat:=(used c rs).mapIdx λi v=>JB c (Cfg.oV c) i v
def xV(left time:Nat)(mI:List Nat)(i x:Nat):Nat:=if i<mI.length then Fix.add (Fix.mul x left) (Fix.mul (mI.getD i 0) time)else Fix.mul x left
def rR(h mI:List Nat)(n aI:Int):List Nat:=h.mapIdx λi x=>xV (nX n aI) (Fix.ofInt n) mI i x
structure Cmd where
 kind:Int
 c:Cfg.C
 g:Ord.P
 n:Int
def uG(c:Cfg.C)(p:Ord.P):Int:=if fF p.id 1 1073741824&&fF p.eU 1 16&&iJ p.need&&fF p.run 1 1048576&&fF p.aR 0 3&&fF p.prefer 0 p.aR then(if iC c p.dN then 0 else 3)else 1
def tY(rs:List R)(id:Int):Bool:=rs.any λr=>r.p.id==id
def wD:List R->Int->List R
 |[],_=>[]
 |r::t,id=>if r.p.id=id then t else r::wD t id
def uL(s:S)(g:Ord.P):Int:=if uG s.c g≠0 then uG s.c g else if(lD s.ps g.id).isSome||tY s.rs g.id then 5 else if never s.c g then 6 else if 32<=s.ps.length+s.rs.length then 8 else 0
def AO(s:S)(g:Ord.P):S:={s with ps:=oI {g with seq:=s.next,since:=s.aN} s.ps,next:=s.next+1}
def sP(s:S)(n:Int):Int:=if fF n 1 1048576 then(if 1099511627776-s.aN<n then 8 else 0)else 1
def tick(s:S)(n:Int):S×List E:=({s with h:=rR s.h (mI s.c s.rs) n s.c.aI,aN:=s.aN+n,rs:=dD s.rs (s.aN+n)},(s.rs.filter λr=>decide (jC r<=s.aN+n)).map λr=>⟨3,r.p.id,0⟩)
def iU(n:Int):Bool:=fF n 0 1099511627776
def uJ(v:Vec.V):Bool:=iU v.x&&iU v.y&&iU v.z
def AL(n:kL):Bool:=fF n.parent (-1) 1099511627776&&iU n.jH&&uJ n.dQ&&uJ n.borrow&&uJ n.lend
def yX(h:gW):Bool:=iU h.flavor&&iU h.block&&iU h.AQ&&uJ h.cap
def LP(c:Cfg.C):Bool:=c.aP.all AL&&c.aQ.all yX&&iU c.aI&&iU c.aK
def LM(g:Ord.P):Bool:=iU g.id&&iU g.dN&&iU g.eU&&iU g.run&&iU g.aR&&iU g.prefer&&uJ g.need
def ard(c:Cfg.C):Bool:=c.aP.isEmpty&&c.aQ.isEmpty&&(c.aI==0)&&(c.aK==0)
def NJ(g:Ord.P):Bool:=(g.id==0)&&(g.dN==0)&&(g.eU==0)&&qW g.need&&(g.run==0)&&(g.aR==0)&&(g.prefer==0)
def anT(x:Cmd):Bool:=fF x.kind 1 6&&((x.kind==1)||ard x.c)&&((x.kind==2)||NJ x.g)&&((x.kind==3)||(x.kind==4)||(x.kind==5)||(x.n==0))
def yS(x:Cmd):Int:=if anT x&&LP x.c&&LM x.g&&iU x.n then(if x.c.aP.length<=12/\x.c.aQ.length<=24 then 0 else 8)else 1
def NA(s:S)(x:Cmd):Int:=if x.kind=1 then(if Cfg.check x.c≠0 then 2 else if 0<s.ps.length+s.rs.length then 7 else 0)else if x.kind=2 then uL s x.g else if x.kind=3 then(if tY s.rs x.n then 0 else 4)else if x.kind=4 then(if(lD s.ps x.n).isSome||tY s.rs x.n then 0 else 4)else if x.kind=5 then sP s x.n else 0
def doS(s:S)(x:Cmd):S×List E:=if x.kind=1 then({s with c:=x.c,h:=List.replicate x.c.aP.length 0},[])else if x.kind=2 then(AO s x.g,[])else if x.kind=3 then({s with rs:=wD s.rs x.n},[])else if x.kind=4 then((if(lD s.ps x.n).isSome then{s with ps:=nG s.ps x.n}else{s with rs:=wD s.rs x.n}),[])else if x.kind=5 then tick s x.n else run s
def gZ(s:S)(x:Cmd):Int:=if yS x≠0 then yS x else NA s x
def apply(s:S)(x:Cmd):S×List E:=if gZ s x=0 then doS s x else(s,[])
def jB(l:List Cmd):S:=l.foldl (λs x=>(apply s x).1) new
end Top
variable{c:Cfg.C}{d f:Int}{rs':List Top.R}{K:List Vec.V}{p:Ord.P}{b:Vec.V}
namespace Top
open Go.Proofs.YtedmeglbjmdlhaaGreatDoor Quo
def iP(v:Vec.V):Prop:=0<=v.x/\0<=v.y/\0<=v.z
def Boxed(v:Vec.V):Prop:=(-1099511627776<=v.x/\v.x<=1099511627776)/\(-1099511627776<=v.y/\v.y<=1099511627776)/\(-1099511627776<=v.z/\v.z<=1099511627776)
theorem Le.trans{a c:Vec.V}(h:Le a b)(k:Le b c):Le a c:=⟨Int.le_trans h.1 k.1,Int.le_trans h.2.1 k.2.1,Int.le_trans h.2.2 k.2.2⟩
def LeL(a b:List Vec.V):Prop:=a.length=b.length/\∀i,Le (a.getD i Vec.zero) (b.getD i Vec.zero)
def KE(a:List Vec.V):Prop:=∀i,Boxed (a.getD i Vec.zero)
theorem LeL.refl(a:List Vec.V):LeL a a:=⟨rfl,λ_=>Le.refl _⟩
theorem LeL.trans{a b c:List Vec.V}(h:LeL a b)(k:LeL b c):LeL a c:=⟨h.1.trans k.1,λi=>Le.trans (h.2 i) (k.2 i)⟩
theorem xJ(l:List Vec.V)(i:Nat)(v:Vec.V)(j:Nat):(l.set i v).getD j Vec.zero=if i=j/\i<l.length then v else l.getD j Vec.zero:=by
 rw[aL,List.getElem?_set];by_cases h:i=j
 .subst h;by_cases a:i<l.length
  .simp[a]
  .simp[a]
 .simp[h]
theorem adZ{a:Vec.V}(h:Le a b)(n:Vec.V):Le (Vec.sub a n) (Vec.sub b n):=by unfold Le Vec.sub nA Vec.cut at*;simp only;omega
theorem arB{a n:Vec.V}(b:Boxed a)(c:iP n):Le (Vec.sub a n) a:=by unfold Le Vec.sub nA Vec.cut Boxed iP at*;simp only;omega
theorem arC(a n:Vec.V):Boxed (Vec.sub a n):=by unfold Vec.sub nA Vec.cut Boxed;simp only;omega
theorem FJ(f:Vec.V->Vec.V->Vec.V)(n:Vec.V)(o:List Vec.V)(h:Int):(Hst.one f n o h).length=o.length:=by
 unfold Hst.one;split
 .simp
 .rfl
theorem apB{o:List Vec.V}(h:LeL o K)(n:Vec.V)(k:Int):LeL (Hst.one Vec.sub n o k) (Hst.one Vec.sub n K k):=by
 refine⟨by rw[FJ,FJ];exact h.1,λi=>?_⟩;unfold Hst.one;rw[h.1];split
 .rw[xJ,xJ,h.1];split
  .exact adZ (h.2 _) n
  .exact h.2 i
 .exact h.2 i
theorem ahD{o:List Vec.V}(a:KE o){n:Vec.V}(b:iP n)(k:Int):LeL (Hst.one Vec.sub n o k) o/\KE (Hst.one Vec.sub n o k):=by
 refine⟨⟨FJ _ _ _ _,λi=>?_⟩,λi=>?_⟩
 .unfold Hst.one;split
  .rw[xJ];split
   .rename_i h2;obtain⟨rfl,_⟩:=h2;exact arB (a _) b
   .exact Le.refl _
  .exact Le.refl _
 .unfold Hst.one;split
  .rw[xJ];split
   .exact arC _ _
   .exact a i
  .exact a i
theorem acz(n:Vec.V):∀(l:List Int) {o a:List Vec.V},LeL o a->LeL (Hst.dW Vec.sub n l o) (Hst.dW Vec.sub n l a)
 |[],_,_,h=>h
 |k::l,_,_,h=>acz n l (apB h n k)
theorem BQ{n:Vec.V}(c:iP n):∀(l:List Int) {o:List Vec.V},KE o->LeL (Hst.dW Vec.sub n l o) o/\KE (Hst.dW Vec.sub n l o)
 |[],_,h=>⟨LeL.refl _,h⟩
 |k::l,o,h=>by have a:=ahD h c k;have b:=BQ c l a.2;exact⟨b.1.trans a.1,b.2⟩
def EW(o:List Vec.V)(l:List (Vec.V×List Int)):List Vec.V:=l.foldl (λo r=>Hst.dW Vec.sub r.1 r.2 o) o
theorem acB{l l':List (Vec.V×List Int)}(h:l.Sublist l'):∀(o b:List Vec.V),(∀r∈l',iP r.1)->LeL b o->KE b->LeL (EW b l') (EW o l):=by
 induction h with
 |slnil=>intro o b _ h _;exact h
 |cons a _ f=>
  intro o b c h d;have g:=BQ (c a (aZ ..)) a.2 d;exact f o _ (λx e=>c x (bG _ e)) (g.1.trans h) g.2
 |cons_cons a _ f=>
  intro o b c h d;exact f _ _ (λx e=>c x (bG _ e)) (acz a.1 a.2 h) (BQ (c a (aZ ..)) a.2 d).2
def akJ(c:Cfg.C):Prop:=KE (Hst.caps c.aQ)
structure Fair (p:Ord.P):Prop where
 need:iJ p.need=true
 eU:1<=p.eU/\p.eU<=16
theorem Fair.nonneg(h:Fair p):iP p.need:=by have:=h.need;rw[jX]at this;unfold iP;omega
theorem WE(a:akJ c){rs:List R}(h:rs.Sublist rs')(b:∀r∈rs',Fair r.p):LeL (free c rs') (free c rs):=by refine acB (h.map _) _ _ (λr d=>?_) (LeL.refl _) a;obtain⟨x,e,rfl⟩:=bL.1 d;exact(b x e).nonneg
theorem LZ{n a k:Int}(c:n<=d)(b:f<=a):lI n f k<=lI d a k:=by
 unfold lI;split
 .rename_i hk;have:=Int.ediv_le_ediv hk b;omega
 .exact c
theorem FR{n k:Int}(a:0<=n)(b:k<=f):0<=lI n f k:=by
 unfold lI;split
 .rename_i hk;have:=Int.ediv_nonneg (show 0<=f by omega) (show 0<=k by omega);omega
 .exact a
theorem CQ(f k:Vec.V):0<=room f k:=by
 unfold room;split
 .rename_i h;rw[oK]at h;exact FR (FR (FR oZ h.1) h.2.1) h.2.2
 .omega
theorem alS{f k:Vec.V}(h:Le f b):room f k<=room b k:=by
 by_cases a:Vec.dR k f=true
 .have c:Vec.dR k b=true:=by rw[oK]at*;unfold Le at h;omega
  unfold room;rw[aG a,aG c];exact LZ (LZ (LZ (gN _) h.1) h.2.1) h.2.2
 .have:room f k=0:=by unfold room;rw[aD a]
  rw[this];exact CQ b k
theorem MU{free:List Vec.V}(h:LeL free K)(need:Vec.V)(b:Int):∀(g:List Nat) (o a:List Int),o.length<=a.length->(a.length:Int)<=b->(kE free need b g o).length<=(kE K need b g a).length/\((kE K need b g a).length:Int)<=b
 |[],o,a,c,d=>⟨c,d⟩
 |x::t,o,a,c,d=>by
  unfold kE;rw[h.1];have f:=alS (k:=need) (h.2 x);have e:=CQ (free.getD x Vec.zero) need;split
  .refine MU h need b t _ _ ?_ ?_ <;>simp only[aW,jZ]<;>omega
  .exact MU h need b t o a c d
theorem asI{free:List Vec.V}(need:Vec.V)(a:Int)(g:List Nat)(b:0<=a):((kE free need a g []).length:Int)<=a:=
 (MU (LeL.refl free) need a g [] [] lZ (by simpa using b)).2
theorem aff{free:List Vec.V}{g:List Nat}{l:List Int}(a:0<=p.eU)(h:nJ free p g=some l):l=kE free p.need p.eU g []/\(l.length:Int)=p.eU:=by
 unfold nJ at h;simp only at h;split at h
 .cases h
 .rename_i hn;cases h;have:=asI (free:=free) p.need p.eU g a;exact⟨rfl,oZ⟩
def LeU(u u':Led.U):Prop:=∀i,Le (u i) (u' i)
def akK(u:Led.U):Prop:=∀i,iP (u i)/\Boxed (u i)
theorem auY{a v:Vec.V}(b:iP a/\Boxed a)(hv:iP v):Le a (Vec.add a v):=by unfold iP Boxed at*;exact⟨yF b.1.1 b.2.1.2 hv.1,yF b.1.2.1 b.2.2.1.2 hv.2.1,yF b.1.2.2 b.2.2.2.2 hv.2.2⟩
theorem acU{a v:Vec.V}(b:iP a)(hv:iP v):iP (Vec.add a v)/\Boxed (Vec.add a v):=by unfold iP Boxed Vec.add Vec.add1 Vec.cut at*;simp only;omega
def yY(c:Cfg.C)(u:Led.U)(p:Ord.P):Led.U:=Led.change c u p.dN (λa=>Vec.add a (jT p))
theorem FQ(c:Cfg.C)(u:Led.U)(p:Ord.P)(i:Nat):yY c u p i=if iC c p.dN=true/\i∈Tree.up c p.dN then Vec.add (u i) (jT p)else u i:=by unfold yY Led.change Led.bump;by_cases h:iC c p.dN=true<;>by_cases a:i∈Tree.up c p.dN<;>simp[h,a]
theorem aiD(c:Cfg.C)(p:Ord.P){u u':Led.U}(h:LeU u u'):LeU (yY c u p) (yY c u' p):=λi=>by
 rw[FQ,FQ];split
 .exact xM (h i) (Le.refl _)
 .exact h i
theorem aec(c:Cfg.C)(b:iP (jT p)){u:Led.U}(a:akK u):LeU u (yY c u p)/\akK (yY c u p):=by
 refine⟨λi=>?_,λi=>?_⟩<;>rw[FQ]
 .split
  .exact auY (a i) b
  .exact Le.refl _
 .split
  .exact acU (a i).1 b
  .exact a i
def AJ(c:Cfg.C)(u:Led.U)(rs:List R):Led.U:=rs.foldl (λu r=>yY c u r.p) u
theorem akW(c:Cfg.C){rs:List R}(h:rs.Sublist rs'):∀(u u':Led.U),(∀r∈rs',iP (jT r.p))->LeU u u'->akK u'->LeU (AJ c u rs) (AJ c u' rs'):=by
 induction h with
 |slnil=>intro u u' _ h _;exact h
 |cons a _ f=>
  intro u u' b h d;have g:=aec c (b a (aZ ..)) d;exact f u _ (λx e=>b x (bG _ e)) (λi=>Le.trans (h i) (g.1 i)) g.2
 |cons_cons a _ f=>
  intro u u' b h d;exact f _ _ (λx e=>b x (bG _ e)) (aiD c a.p h) (aec c (b a (aZ ..)) d).2
theorem aeM:akK Led.none_:=λi=>by unfold Led.none_ Vec.zero iP Boxed;simp only;omega
theorem VD(c:Cfg.C)(rs:List R):(used c rs).length=c.aP.length:=by simp[used,Led.all]
theorem RY(c:Cfg.C)(rs:List R)(n:Nat):Tree.dD (used c rs) (n:Int)=if n<c.aP.length then AJ c Led.none_ rs n else Vec.zero:=by
 unfold Tree.dD;rw[VD];by_cases h:n<c.aP.length
 .rw[aG oZ,aG h];simp only[used,Led.all,Int.toNat_natCast,aL];rw[fK,List.getElem?_range h];rfl
 .rw[aD oZ,aD h]
theorem Fair.jT(h:Fair p):iP (jT p):=by have a:=h.need;rw[jX]at a;have b:=h.eU;unfold iP Top.jT Vec.mM vN Vec.cut;simp only;have e:min (max p.eU (-1048576)) 1048576=p.eU:=oZ;rw[e];have a1:=iH (show 0<=min (max p.need.x (-1099511627776)) 1099511627776 by omega) (show 0<=p.eU by omega);have a2:=iH (show 0<=min (max p.need.y (-1099511627776)) 1099511627776 by omega) (show 0<=p.eU by omega);have a3:=iH (show 0<=min (max p.need.z (-1099511627776)) 1099511627776 by omega) (show 0<=p.eU by omega);omega
theorem VB(c:Cfg.C){rs:List R}(h:rs.Sublist rs')(a:∀r∈rs',Fair r.p)(n:Int):Le (Tree.dD (used c rs) n) (Tree.dD (used c rs') n):=by
 by_cases b:0<=n
 .obtain⟨k,rfl⟩:=dX b;rw[RY,RY];split
  .exact akW c h _ _ (λr d=>(a r d).jT) (λ_=>Le.refl _) aeM k
  .exact Le.refl _
 .unfold Tree.dD;rw[aD oZ,aD oZ];exact Le.refl _
open Led
theorem LC(b:Cfg.ok c=true):akJ c:=λi=>by
 unfold Hst.caps;rw[aL,fK];cases h:c.aQ[i]? with
 |none=>simp[Vec.zero,Boxed]
 |some x=>
  have hi:i<c.aQ.length:=(bE.1 h).1;have a:=EU (MH b) hi;have e:c.aQ.getD i default=x:=by simp[h]
  rw[e]at a;unfold vP at a;simp only[Bool.and_eq_true]at a;have hv:=a.2.2.2;rw[jX]at hv;simp only[Option.map_some,Option.getD_some];unfold Boxed;omega
end Top
variable{id:Int}{i j:Nat}
namespace Top
open Go.Proofs.YtedmeglbjmdlhaaGreatDoor Quo
theorem zQ(p:Ord.P):∀l:List Ord.P,(oI p l).Perm (p::l)
 |[]=>gV _
 |x::t=>by
  unfold oI;split
  .exact gV _
  .exact((zQ p t).cons x).trans (List.Perm.swap p x t)
theorem EG:∀{l:List Ord.P},p∈l->(l.map (·.id)).Nodup->l.Perm (p::nG l p.id)
 |[],h,_=>by cases h
 |x::t,h,b=>by
  rw[cZ,fQ]at b;unfold nG;by_cases e:x.id=p.id
  .rw[aG e];rcases bA.1 h with rfl|a
   .exact gV _
   .exact absurd (bL.2 ⟨p,a,e.symm⟩) b.1
  .rw[aD e];rcases bA.1 h with rfl|a
   .exact absurd rfl e
   .exact((EG a b.2).cons x).trans (List.Perm.swap p x _)
theorem sN{q:Ord.P}:∀{l:List Ord.P},q∈l->q.id≠id->q∈nG l id
 |x::t,h,b=>by
  unfold nG;split
  .rename_i e;rcases bA.1 h with rfl|a
   .exact absurd e b
   .exact a
  .rcases bA.1 h with rfl|a
   .exact aZ ..
   .exact bG _ (sN a b)
theorem swap_perm{α:Type}(l:Array α)[Inhabited α](hi:i<l.size)(a:j<l.size):((l.setIfInBounds i l[j]!).setIfInBounds j l[i]!).toList.Perm l.toList:=by
 have h:=Array.swap_perm (xs:=l) hi a;have e:(l.setIfInBounds i l[j]!).setIfInBounds j l[i]! =l.swap i j hi a:=by rw[dF l i hi,dF l j a,Array.swap_def];simp[Array.setIfInBounds,hi,a]
 rw[e];exact h.toList
theorem adM{α:Type}[Inhabited α](less:α->α->Bool):∀(f i:Nat) (l:Array α),i<l.size->(upH less f i l).toList.Perm l.toList
 |0,_,_,_=>gV _
 |f+1,i,l,hi=>by
  unfold upH;split
  .split
   .exact(adM less f _ _ (by simp;omega)).trans (swap_perm l hi oZ)
   .exact gV _
  .exact gV _
theorem ME{α:Type}[Inhabited α](less:α->α->Bool)(l:Array α)(x:α):(oD less l x).toList.Perm (x::l.toList):=by refine(adM less _ _ _ sZ).trans ?_;rw[Array.toList_push];exact List.perm_append_comm
theorem aaf{α:Type}[Inhabited α](less:α->α->Bool)(n:Nat):∀(f i:Nat) (l:Array α),n=l.size->(vC less n f i l).toList.Perm l.toList
 |0,_,_,_=>gV _
 |f+1,i,l,b=>by
  unfold vC;split
  .rename_i hi;simp only;have a:(if(2*i+2<n&&less l[2*i+2]! l[2*i+1]!)=true then 2*i+2 else 2*i+1)<l.size:=by
    split
    .rename_i h;simp at h;omega
    .omega
   generalize(if(2*i+2<n&&less l[2*i+2]! l[2*i+1]!)=true then 2*i+2 else 2*i+1)=k at*;split
   .exact(aaf less n f k _ (by simp[b])).trans (swap_perm l (i:=i) (j:=k) oZ a)
   .exact gV _
  .exact gV _
theorem IW{α:Type}[Inhabited α](less:α->α->Bool)(l:Array α)(h:0<l.size):(l[0]! ::(sH less l).toList).Perm l.toList:=by
 unfold sH;refine((aaf less _ _ _ _ sZ).cons _).trans ?_;have b:=swap_perm l (i:=0) (j:=l.size-1) h oZ;refine List.Perm.trans ?_ b;have e:((l.setIfInBounds 0 l[l.size-1]!).setIfInBounds (l.size-1) l[0]!)=((l.setIfInBounds 0 l[l.size-1]!).pop).push l[0]! :=by
  apply Array.ext
  .simp;omega
  .intro i a c;simp only[Array.size_setIfInBounds]at a;rw[Array.getElem_setIfInBounds (by simpa using a),Array.getElem_push];simp only[Array.size_pop,Array.size_setIfInBounds];by_cases hi:i<l.size-1
   .rw[aD oZ,dif_pos hi,Array.getElem_pop]
   .rw[aG oZ,dif_neg hi]
 rw[e,Array.toList_push];exact(List.perm_append_comm (l₁:=[l[0]!])).trans (gV _)
theorem abV{α:Type}[Inhabited α](less:α->α->Bool)(l:Array α)(h:0<l.size):(sH less l).size=l.size-1:=by have:=(IW less l h).length_eq;simp at this;omega
theorem acS{α:Type}[Inhabited α](less:α->α->Bool):∀(n:Nat) (l:Array α),n=l.size->(wG less n l).Perm l.toList
 |0,l,h=>by have:l=#[]:=Array.eq_empty_of_size_eq_zero h.symm;subst this;exact gV _
 |n+1,l,h=>by unfold wG;exact((acS less n _ (by rw[abV less l oZ];omega)).cons _).trans (IW less l oZ)
theorem MR{α:Type}[Inhabited α](less:α->α->Bool):∀(rs:List α) (l:Array α),(rs.foldl (oD less) l).toList.Perm (l.toList++rs)
 |[],l=>sZ
 |r::rs,l=>by rw[List.foldl_cons];refine(MR less rs _).trans ?_;refine((ME less l r).append_right rs).trans ?_;rw[List.cons_append];exact List.perm_middle.symm
theorem EP(rs:List R):(order rs).Perm rs:=by unfold order;have h:=MR nO rs #[];rw[show(#[]:Array R).toList=[]from rfl,List.nil_append]at h;have a:=h.length_eq;exact(acS nO _ _ (by rw[<-a];simp)).trans h
theorem amq{rs:List R}{r:R}:r∈order rs↔r∈rs:=(EP rs).mem_iff
def dB(rs:List R):List Int:=rs.map (·.p.id)
theorem JV{rs:List R}{l:List Int}{r:R}:r∈dK rs l↔r∈rs/\r.p.id∉l:=by unfold dK;rw[fT];simp
theorem JQ(rs:List R)(l:List Int):(dK rs l).Sublist rs:=mH
theorem CG(rs:List R):dK rs []=rs:=by unfold dK;simp
structure yU (c:Cfg.C) (rs:List R) (l:List Int):Prop where
 nodup:l.Nodup
 of:∀id∈l,∃r∈rs,r.p.id=id/\kP c (used c rs) r.p.dN=true
theorem afP{rs:List R}(h:rs.Sublist rs')(d:∀r∈rs',Fair r.p){t:Int}(a:kP c (used c rs) t=true):kP c (used c rs') t=true:=by
 unfold kP at*;simp only[Bool.and_eq_true,Bool.not_eq_true']at*;refine⟨a.1,?_⟩;cases b:Vec.dR (Tree.dD (used c rs') t) (node c t.toNat).dQ with
 |false=>rfl
 |true=>
  have:=zW (VB c h d t) b;rw[this]at a;cases a.2
theorem RI{rs:List R}(m:∀r∈rs,Fair r.p):∀(f:Nat) (l l':List Int),yU c rs l->qM c rs p f l=some l'->yU c rs l'/\(dR c (dK rs l') p).isSome=true/\(l'=l\/l'.length>0)
 |0,l,l',_,h=>by cases h
 |f+1,l,l',j,h=>by
  unfold qM at h;cases g:dR c (dK rs l) p with
  |some x=>
   rw[g]at h;cases h;exact⟨j,by rw[g];rfl,.inl rfl⟩
  |none=>
   rw[g]at h;cases d:(order (dK rs l)).find? (λr=>kP c (used c (dK rs l)) r.p.dN)with
   |none=>simp only[d]at h;cases h
   |some r=>
    simp only[d]at h;have w:=List.find?_some d;have n:=JV.1 (amq.1 (List.mem_of_find?_eq_some d));have v:yU c rs (l++[r.p.id]):=by
     refine⟨?_,λid u=>?_⟩
     .rw[iW];refine⟨j.nodup,sZ,λa o b s=>?_⟩;have:b=r.p.id:=by simpa using s
      intro e;exact n.2 (this▸e▸o)
     .rcases bY.1 u with i|i
      .exact j.of id i
      .have:id=r.p.id:=by simpa using i
       exact⟨r,n.1,this.symm,afP (JQ rs l) m w⟩
    have k:=RI m f _ l' v h;refine⟨k.1,k.2.1,.inr ?_⟩;rcases k.2.2 with e|e
    .rw[e];simp
    .exact e
theorem aiF{rs:List R}(t:List Int):∀(l:List Int),yU c rs l->(dR c (dK rs l) p).isSome=true->yU c rs (iK c rs p t l)/\(dR c (dK rs (iK c rs p t l)) p).isSome=true:=by
 induction t with
 |nil=>exactλl a b=>⟨a,b⟩
 |cons id t d=>
  intro l a b;rw[iK];by_cases h:(dR c (dK rs (l.filter λx=> !(x==id))) p).isSome=true
  .rw[aG h];exact d _ ⟨a.nodup.sublist mH,λx e=>a.of x (fT.1 e).1⟩ h
  .rw[aD h];exact d l a b
theorem choose_spec{rs:List R}(f:∀r∈rs,Fair r.p){l:List Int}(h:choose c rs p=some l)(g:dR c rs p=none):yU c rs l/\(dR c (dK rs l) p).isSome=true/\l≠[]/\pK c (used c rs) p.dN (jT p)=true:=by
 unfold choose at h;split at h
 .rename_i hw;cases b:qM c rs p (rs.length+1) []with
  |none=>rw[b]at h;cases h
  |some a=>
   rw[b]at h;cases h;have s1:=RI f _ _ _ ⟨List.nodup_nil,λid h=>by cases h⟩ b;have s2:=aiF a a s1.1 s1.2.1;refine⟨s2.1,s2.2,λe=>?_,hw⟩;have this:=s2.2;have d:iK c rs p a a=[]:=e;rw[d,CG,g]at this;cases this
 .cases h
theorem akC{aN:Int}{x y:Rd}(h:aDm c aN x p=some y):∃fl a,dR c x.rs p=some (fl,a)/\(x.head=true->sS aN p x.start=true)/\y={x with ps:=nG x.ps p.id,rs:=x.rs++[⟨p,aN,fl,a⟩],ev:=x.ev++[⟨1,p.id,fl⟩]}:=by
 unfold aDm at h;cases b:dR c x.rs p with
 |none=>rw[b]at h;cases h
 |some v=>
  obtain⟨fl,a⟩:=v;rw[b]at h;simp only at h;split at h
  .cases h
  .rename_i d;cases h;refine⟨fl,a,rfl,λe=>?_,rfl⟩;simp[e]at d;exact d
theorem NQ{aN:Int}{x:Rd}(h:aDm c aN x p=none):dR c x.rs p=none\/(x.head=true/\sS aN p x.start=false):=by
 unfold aDm at h;cases b:dR c x.rs p with
 |none=>exact .inl rfl
 |some v=>
  obtain⟨fl,d⟩:=v;rw[b]at h;simp only at h;split at h
  .rename_i a;simp at a;exact .inr a
  .cases h
theorem aoe{aN:Int}{x:Rd}{v:Int×List Int}(h:dR c x.rs p=some v)(a:x.head=false):aDm c aN x p=some {x with ps:=nG x.ps p.id,rs:=x.rs++[⟨p,aN,v.1,v.2⟩],ev:=x.ev++[⟨1,p.id,v.1⟩]}:=by unfold aDm;rw[h,a];rfl
inductive Look (c:Cfg.C) (aN:Int) (x:Rd) (p:Ord.P):Rd->Prop
 |run (fl:Int) (hs:List Int):dR c x.rs p=some (fl,hs)->(x.head=true->sS aN p x.start=true)->
   Look c aN x p {x with ps:=nG x.ps p.id,rs:=x.rs++[⟨p,aN,fl,hs⟩],ev:=x.ev++[⟨1,p.id,fl⟩]}
 |wait:x.head=true->(dR c x.rs p=none\/sS aN p x.start=false)->Look c aN x p x
 |give (l:List Int) (fl:Int) (hs:List Int):x.head=false->dR c x.rs p=none->choose c x.rs p=some l->dR c (dK x.rs l) p=some (fl,hs)->
   Look c aN x p {lM x l with ps:=nG (lM x l).ps p.id,rs:=dK x.rs l++[⟨p,aN,fl,hs⟩],ev:=(lM x l).ev++[⟨1,p.id,fl⟩]}
 |first(t:Int):x.head=false->dR c x.rs p=none->choose c x.rs p=none->start c aN x.rs p=some t->Look c aN x p {x with head:=true,start:=t,ev:=x.ev++[⟨4,p.id,t⟩]}
 |none:x.head=false->dR c x.rs p=none->choose c x.rs p=none->start c aN x.rs p=none->Look c aN x p {x with start:=0}
theorem qF{aN:Int}{x:Rd}(k:∀r∈x.rs,Fair r.p):Look c aN x p (look c aN x p):=by
 unfold look;cases i:aDm c aN x p with
 |some y=>
  obtain⟨fl,m,a,b,rfl⟩:=akC i;exact .run fl m a b
 |none=>
  simp only;cases d:x.head with
  |true=>
   rw[aG rfl];rcases NQ i with e|e
   .exact .wait d (.inl e)
   .exact .wait d (.inr e.2)
  |false=>
   rw[aD dZ];have g:dR c x.rs p=none:=by
    rcases NQ i with e|e
    .exact e
    .rw[d]at e;cases e.1
   cases f:choose c x.rs p with
   |some l=>
    simp only;have s:=choose_spec k f g;obtain⟨v,hv⟩:=Option.isSome_iff_exists.1 s.2.1;have n:dR c (lM x l).rs p=some v:=hv;rw[aoe n d];exact .give l v.1 v.2 d g f hv
   |none=>
    simp only;cases j:start c aN x.rs p with
    |some t=>exact .first t d g f j
    |none=>
     have:=Look.none d g f j;rw[d]at this;exact this
end Top
variable{ev:List Top.E}{s:Top.S}
namespace Top
open Go.Proofs.YtedmeglbjmdlhaaGreatDoor Quo
def gs(rs:List R):List Ord.P:=rs.map (·.p)
theorem auk(rs:List R):(gs rs).map (·.id)=dB rs:=by simp[gs,dB]
theorem asH{rs:List R}(h:id∈dB rs):∃r,rs.find? (λr=>r.p.id==id)=some r/\r∈rs/\r.p.id=id:=by
 obtain⟨c,b,e⟩:=bL.1 h;cases a:rs.find? (λr=>r.p.id==id)with
 |none=>
  have:=List.find?_eq_none.1 a c b;simp[e]at this
 |some r=>exact⟨r,rfl,List.mem_of_find?_eq_some a,by simpa using List.find?_some a⟩
theorem adE{rs:List R}(f:(dB rs).Nodup){r:R}(i:r∈rs){t:List Int}(j:r.p.id∉t):(dK rs t).Perm (r::dK rs (r.p.id::t)):=by
 have e:dK rs (r.p.id::t)=(dK rs t).filter (λx=> !(x.p.id==r.p.id)):=by unfold dK;rw[List.filter_filter];apply List.filter_congr;intro x _;by_cases d:x.p.id=r.p.id<;>simp[d]
 have b:r∈dK rs t:=JV.2 ⟨i,j⟩;have a:(dB (dK rs t)).Nodup:=f.sublist ((JQ rs t).map _);rw[e];generalize dK rs t=q at*;clear e;induction q with
 |nil=>cases b
 |cons y q l=>
  have m:=a;rw[dB,cZ,fQ]at a;rcases bA.1 b with rfl|c
  .rw[List.filter_cons_of_neg sZ];refine List.Perm.cons _ ?_;have:q.filter (λx=> !(x.p.id==r.p.id))=q:=List.filter_eq_self.2 λx k=>by have:x.p.id≠r.p.id:=λe=>a.1 (bL.2 ⟨x,k,e⟩);simp[this]
   rw[this]
  .have g:y.p.id≠r.p.id:=λe=>a.1 (bL.2 ⟨r,c,e.symm⟩);rw[mK (by simp[g])];exact((l c a.2).cons y).trans (List.Perm.swap r y _)
theorem wC{rs:List R}(i:(dB rs).Nodup):∀(l:List Int) (ps:List Ord.P) (ev:List E),l.Nodup->(∀id∈l,id∈dB rs)->((l.foldl (qI rs) (ps,ev)).1++gs (dK rs l)).Perm (ps++gs rs)/\(∀q∈ps,q∈(l.foldl (qI rs) (ps,ev)).1)/\(∀id∈l,∃q∈(l.foldl (qI rs) (ps,ev)).1,q.id=id)/\(l.foldl (qI rs) (ps,ev)).2=ev++l.map (λid=>⟨2,id,0⟩)
 |[],ps,ev,_,_=>by simp[CG]
 |id::t,ps,ev,f,g=>by
  rw[fQ]at f;obtain⟨r,k,n,e⟩:=asH (g id (aZ ..));have j:qI rs (ps,ev) id=(oI r.p ps,ev++[⟨2,id,0⟩]):=by unfold qI;rw[k]
  have d:=wC i t (oI r.p ps) (ev++[⟨2,id,0⟩]) f.2 (λx c=>g x (bG _ c));rw[List.foldl_cons,j];refine⟨?_,λq m=>d.2.1 q ((zQ r.p ps).mem_iff.2 (bG _ m)),λx c=>?_,?_⟩
  .have w:=adE i n (t:=t) (by rw[e];exact f.1);rw[e]at w;have o:(gs (dK rs t)).Perm (r.p::gs (dK rs (id::t))):=w.map _;have a:=(o.append_left (t.foldl (qI rs) (oI r.p ps,ev++[⟨2,id,0⟩])).1).symm.trans d.1;have b:(r.p::((t.foldl (qI rs) (oI r.p ps,ev++[⟨2,id,0⟩])).1++gs (dK rs (id::t)))).Perm (r.p::(ps++gs rs)):=
    (List.perm_middle.symm).trans (a.trans ((zQ r.p ps).append_right _))
   exact b.cons_inv
  .rcases bA.1 c with rfl|c
   .exact⟨r.p,d.2.1 _ ((zQ r.p ps).mem_iff.2 (aZ ..)),e⟩
   .exact d.2.2.1 x c
  .rw[d.2.2.2];simp
def Told(c:Cfg.C)(ps:List Ord.P)(ev:List E):Prop:=∀(i:Nat) (e:E),ev[i]? =some e->e.kind=2->∃e':E,ev[i+1]? =some e'/\(e'.kind=2\/(e'.kind=1/\∃p∈ps,p.id=e'.id/\pK c [] p.dN (jT p)=true))
theorem Told.nil(c:Cfg.C)(ps:List Ord.P):Told c ps []:=λi e h=>by simp at h
theorem Told.one{ps:List Ord.P}(h:Told c ps ev){e:E}(j:e.kind≠2):Told c ps (ev++[e]):=λi x a d=>by
 by_cases hi:i<ev.length
 .rw[dG hi]at a;obtain⟨f,b,g⟩:=h i x a d;have:i+1<ev.length:=(bE.1 b).1;exact⟨f,by rw[dG this];exact b,g⟩
 .rw[dI oZ]at a;have:i-ev.length=0:=by have:=(bE.1 a).1;simp at this;omega
  rw[this]at a;have:e=x:=by simpa using a
  exact absurd (this▸d) j
theorem Told.gave{ps:List Ord.P}(h:Told c ps ev)(l:List Int)(m:p∈ps)(o:pK c [] p.dN (jT p)=true)(n:Int):Told c ps (ev++l.map (λid=>(⟨2,id,0⟩:E))++[⟨1,p.id,n⟩]):=λi x a f=>by
 rw[bP]at a⊢;by_cases hi:i<ev.length
 .rw[dG hi]at a;obtain⟨g,b,k⟩:=h i x a f;have:i+1<ev.length:=(bE.1 b).1;exact⟨g,by rw[dG this];exact b,k⟩
 .rw[dI oZ]at a;rw[dI oZ,show i+1-ev.length=(i-ev.length)+1 by omega];generalize i-ev.length=j at*;by_cases r:j<l.length
  .by_cases d:j+1<l.length
   .exact⟨⟨2,l[j+1],0⟩,by rw[dG (by simpa using d)];simp[d],.inl rfl⟩
   .exact⟨⟨1,p.id,n⟩,by rw[dI (by simp;omega)];simp[show j+1-l.length=0 by omega],.inr ⟨rfl,p,m,rfl,o⟩⟩
  .rw[dI (by simp;omega)]at a;have:j-(l.map λid=>(⟨2,id,0⟩:E)).length=0:=by have:=(bE.1 a).1;simp at this;simp;omega
   rw[this]at a;have e:(⟨1,p.id,n⟩:E)=x:=by simpa using a
   subst e;cases f
structure Mid (s:S) (x:Rd) (l:List Ord.P):Prop where
 perm:(x.ps++gs x.rs).Perm (s.ps++gs s.rs)
 left:∀p∈l,p∈x.ps/\p∈s.ps
 nodup:(l.map (·.id)).Nodup
 same:x.ev=[]->x.rs=s.rs/\x.head=false
 told:Told s.c s.ps x.ev
 waits:∀e∈x.ev,e.kind=2->∃q∈x.ps,q.id=e.id/\∀p∈l,p.id≠q.id
 begun:∀e,x.ev.head? =some e->e.kind=2->∃r∈s.rs,r.p.id=e.id/\kP s.c (used s.c s.rs) r.p.dN=true
 runs:∀r∈x.rs,r∈s.rs\/(r.start=s.aN/\r.p∈s.ps)
structure xP (s:S):Prop where
 dB:((s.ps++gs s.rs).map (·.id)).Nodup
 rG:∀p∈s.ps++gs s.rs,Fair p
theorem agq{rs:List R}(a:∀r∈rs,Fair r.p)(e:Fair p)(h:pK c (used c rs) p.dN (jT p)=true):pK c [] p.dN (jT p)=true:=by
 unfold pK at*;simp only[Bool.and_eq_true]at*;refine⟨h.1,zW (xM ?_ (Le.refl _)) h.2⟩;rw[at_nil];have:=VB c (rs:=[]) (rs':=rs) (List.nil_sublist _) a p.dN;refine Le.trans ?_ this;by_cases d:0<=p.dN
 .obtain⟨k,b⟩:=dX d;rw[b,RY];split<;>exact Le.refl _
 .unfold Tree.dD;rw[aD oZ];exact Le.refl _
theorem Mid.rG(b:xP s){x:Rd}{l:List Ord.P}(m:Mid s x l):∀r∈x.rs,Fair r.p:=λr a=>
 b.rG _ (m.perm.mem_iff.1 (fG _ (bL.2 ⟨r,a,rfl⟩)))
theorem Mid.dB(c:xP s){x:Rd}{l:List Ord.P}(m:Mid s x l):(x.ps.map (·.id)).Nodup/\(Top.dB x.rs).Nodup/\∀q∈x.ps,q.id∉Top.dB x.rs:=by have h:=(m.perm.map (·.id)).nodup_iff.2 c.dB;rw[dO,auk,iW]at h;exact⟨h.1,h.2.1,λq b a=>h.2.2 q.id (bL.2 ⟨q,b,rfl⟩) q.id a rfl⟩
theorem Mid.step(O:xP s){x:Rd}{l:List Ord.P}(m:Mid s x (p::l)):Mid s (look s.c s.aN x p) l:=by
 have X:=m.rG O;obtain⟨ak,al,am⟩:=m.dB O;obtain⟨Z,N⟩:=m.left p (aZ ..);have w:=m.nodup;rw[cZ,fQ]at w;have ad:∀q∈l,q.id≠p.id:=λq i e=>w.1 (bL.2 ⟨q,i,e⟩);have o:∀q∈l,q∈x.ps/\q∈s.ps:=λq i=>m.left q (bG _ i);have K:∀e∈x.ev,e.kind=2->∃q∈x.ps,q.id=e.id/\(p.id≠q.id/\∀z∈l,z.id≠q.id):=λe b d=>by obtain⟨q,A,v,F⟩:=m.waits e b d;exact⟨q,A,v,F p (aZ ..),λz L=>F z (bG _ L)⟩
 have Q:∀(t:List E),(∀e,t.head? =some e->x.ev=[]->e.kind=2->∃r∈s.rs,r.p.id=e.id/\kP s.c (used s.c s.rs) r.p.dN=true)->∀e,(x.ev++t).head? =some e->e.kind=2->∃r∈s.rs,r.p.id=e.id/\kP s.c (used s.c s.rs) r.p.dN=true:=by
  intro t ai e b d;cases I:x.ev with
  |nil=>rw[I]at b;exact ai e b I d
  |cons y z=>rw[I]at b;exact m.begun e (by rw[I];simpa using b) d
 have af:=qF (c:=s.c) (aN:=s.aN) (p:=p) X;generalize look s.c s.aN x p=y at af;cases af with
 |run fl H A v=>
  refine⟨?_,λq i=>⟨sN (o q i).1 (ad q i),(o q i).2⟩,w.2,λe=>by simp at e,m.told.one (by show(1:Int)≠2;decide),λe b d=>?_,Q _ (λe b _ d=>by simp at b;subst b;cases d),λr j=>?_⟩
  .refine List.Perm.trans ?_ m.perm;have t:=EG Z ak;have e:gs (x.rs++[⟨p,s.aN,fl,H⟩])=gs x.rs++[p]:=by simp[gs]
   rw[e,<-bP];refine(List.perm_append_comm).trans ?_;rw[List.singleton_append,<-List.cons_append];exact t.symm.append_right _
  .rcases bY.1 b with b|b
   .obtain⟨q,k,f,J,n⟩:=K e b d;exact⟨q,sN k (Ne.symm J),f,n⟩
   .have:e=⟨1,p.id,fl⟩:=by simpa using b
    rw[this]at d;cases d
  .rcases bY.1 j with j|j
   .exact m.runs r j
   .have:r=⟨p,s.aN,fl,H⟩:=by simpa using j
    rw[this];exact .inr ⟨rfl,N⟩
 |wait A v=>exact⟨m.perm,o,w.2,m.same,m.told,λe b d=>by obtain⟨q,k,f,J,n⟩:=K e b d;exact⟨q,k,f,n⟩,m.begun,m.runs⟩
 |give g fl H A v F aa=>
  have cs:=choose_spec X F v;have ab:∀id∈g,id∈Top.dB x.rs:=λid M=>by obtain⟨r,r1,r2,_⟩:=cs.1.of id M;exact bL.2 ⟨r,r1,r2⟩
  have u:=wC al g x.ps x.ev cs.1.nodup ab;have ah:p∈(lM x g).ps:=u.2.1 p Z;have ag:((lM x g).ps.map (·.id)).Nodup:=by have h:=(((u.1.trans m.perm).map (·.id)).nodup_iff.2 O.dB);rw[dO,iW]at h;exact h.1
  have W:(lM x g).ev=x.ev++g.map (λid=>⟨2,id,0⟩):=u.2.2.2;have an:=agq X (O.rG p (cO _ N)) cs.2.2.2;refine⟨?_,λq i=>⟨sN (u.2.1 q (o q i).1) (ad q i),(o q i).2⟩,w.2,λe=>by simp at e,?_,λe b d=>?_,?_,λr j=>?_⟩
  .refine List.Perm.trans ?_ (u.1.trans m.perm);have t:=EG ah ag;have e:gs (dK x.rs g++[⟨p,s.aN,fl,H⟩])=gs (dK x.rs g)++[p]:=by simp[gs]
   show(nG (lM x g).ps p.id++gs (dK x.rs g++[⟨p,s.aN,fl,H⟩])).Perm _;rw[e,<-bP];refine(List.perm_append_comm).trans ?_;rw[List.singleton_append,<-List.cons_append];exact t.symm.append_right _
  .show Told s.c s.ps ((lM x g).ev++[⟨1,p.id,fl⟩]);rw[W];exact m.told.gave g N an fl
  .have T:e∈x.ev++g.map (λid=>(⟨2,id,0⟩:E))++[⟨1,p.id,fl⟩]:=by rw[<-W];exact b
   rcases bY.1 T with b|b
   .rcases bY.1 b with b|b
    .obtain⟨q,k,f,J,n⟩:=K e b d;exact⟨q,sN (u.2.1 q k) (Ne.symm J),f,n⟩
    .obtain⟨id,M,rfl⟩:=bL.1 b;obtain⟨q,k,f⟩:=u.2.2.1 id M;have ae:∀z∈x.ps,z.id≠id:=λz L e=>am z L (e▸ab id M);exact⟨q,sN k (by rw[f];exact Ne.symm (ae p Z)),f,λz L=>by rw[f];exact ae z (o z L).1⟩
   .have:e=⟨1,p.id,fl⟩:=by simpa using b
    rw[this]at d;cases d
  .intro e b d;have T:(x.ev++(g.map (λid=>(⟨2,id,0⟩:E))++[(⟨1,p.id,fl⟩:E)])).head? =some e:=by rw[<-bP,<-W];exact b
   refine Q _ (λe b I d=>?_) e T d;have aj:=(m.same I).1;cases Y:g with
   |nil=>exact absurd Y cs.2.2.1
   |cons a t=>
    rw[Y]at b;have:(⟨2,a,0⟩:E)=e:=by simpa using b
    subst this;obtain⟨r,r1,r2,r3⟩:=cs.1.of a (by rw[Y];exact aZ ..);rw[aj]at r1 r3;exact⟨r,r1,r2,r3⟩
  .rcases bY.1 j with j|j
   .exact m.runs r (JV.1 j).1
   .have:r=⟨p,s.aN,fl,H⟩:=by simpa using j
    rw[this];exact .inr ⟨rfl,N⟩
 |first t A v F aa=>
  refine⟨m.perm,o,w.2,λe=>by simp at e,m.told.one (by show(4:Int)≠2;decide),λe b d=>?_,Q _ (λe b _ d=>by simp at b;subst b;cases d),m.runs⟩;rcases bY.1 b with b|b
  .obtain⟨q,k,f,J,n⟩:=K e b d;exact⟨q,k,f,n⟩
  .have:e=⟨4,p.id,t⟩:=by simpa using b
   rw[this]at d;cases d
 |none A v F aa=>exact⟨m.perm,o,w.2,m.same,m.told,λe b d=>by obtain⟨q,k,f,J,n⟩:=K e b d;exact⟨q,k,f,n⟩,m.begun,m.runs⟩
theorem Mid.all(a:xP s):∀(l:List Ord.P) (x:Rd),Mid s x l->Mid s (rounds s.c s.aN x l) []
 |[],x,m=>m
 |p::l,x,m=>Mid.all a l _ (m.step a)
theorem aiZ{α:Type}[Inhabited α](f:α->α->Int)(l:List α)(x:α):(Srt.mX f l x).Perm (x::l):=by unfold Srt.mX;refine(List.perm_middle).trans ?_;show(x::(l.take _++l.drop _)).Perm _;rw[gU]
theorem UE{α:Type}[Inhabited α](f:α->α->Int):∀(xs l:List α),(xs.foldl (Srt.mX f) l).Perm (l++xs)
 |[],l=>sZ
 |x::xs,l=>by rw[List.foldl_cons];refine(UE f xs _).trans ?_;refine((aiZ f l x).append_right xs).trans ?_;rw[List.cons_append];exact List.perm_middle.symm
theorem uU(s:S):(row s).Perm s.ps:=by have h:=UE (Ord.cmp s.c s.h s.aN) s.ps [];rwa [List.nil_append]at h
theorem Mid.start(c:xP s):Mid s ⟨s.ps,s.rs,[],false,0⟩ (row s) where
 perm:=gV _
 left:=λp a=>⟨(uU s).mem_iff.1 a,(uU s).mem_iff.1 a⟩
 nodup:=by refine((uU s).map (·.id)).nodup_iff.2 ?_;have:=c.dB;rw[dO,iW]at this;exact this.1
 same:=λ_=>⟨rfl,rfl⟩
 told:=Told.nil _ _
 waits:=λe h=>by cases h
 begun:=λe h=>by cases h
 runs:=λr b=>.inl b
theorem wP(a:xP s):Mid s (lT s) []:=Mid.all a _ _ (Mid.start a)
end Top
variable{L:List Int}{need:Vec.V}
namespace Top
open Go.Proofs.YtedmeglbjmdlhaaGreatDoor Quo
theorem aqf{b:List gW}{aR:Int}{g:List Nat}(h:g∈Hst.mU b aR):g.Nodup/\∀x∈g,x<b.length:=by
 unfold Hst.mU at h;split at h
 .obtain⟨q,f,rfl⟩:=bL.1 h;obtain⟨i,hi,rfl⟩:=jR f;obtain⟨k,c⟩:=Hst.KZ b aR b.length;refine⟨?_,λx j=>?_⟩
  .rw[List.nodup_iff_count];intro a;rw[c a i hi];split<;>omega
  .have d:=List.count_pos_iff.2 j;rw[c x i hi]at d;by_cases e:x<b.length
   .exact e
   .rw[aD λh=>e h.1]at d;omega
 .cases h
theorem QW{free:List Vec.V}:∀{gs:List (List Nat)} {l:List Int} {g:List Nat},oN free p gs=some (l,g)->g∈gs/\nJ free p g=some l
 |[],_,_,h=>by cases h
 |x::gs,l,g,h=>by
  unfold oN at h;cases a:nJ free p x with
  |some l'=>
   rw[a]at h;cases h;exact⟨aZ ..,a⟩
  |none=>
   rw[a]at h;have:=QW h;exact⟨bG _ this.1,this.2⟩
theorem OD{free:List Vec.V}:∀{n:Nat} {aR fl:Int} {l:List Int},qH c free p n aR=some (fl,l)->∃b g,g∈Hst.mU c.aQ b/\nJ free p g=some l
 |0,_,_,_,h=>by cases h
 |n+1,aR,fl,l,h=>by
  unfold qH at h;cases a:oN free p (Hst.mU c.aQ aR)with
  |some x=>
   obtain⟨l',g⟩:=x;rw[a]at h;cases h;have:=QW a;exact⟨aR,g,this.1,this.2⟩
  |none=>
   rw[a]at h;exact OD h
theorem ZX{free:List Vec.V}(need:Vec.V)(c:Int):∀(g:List Nat) (out:List Int),g.Nodup->(∀x∈g,x<free.length)->(∀x∈out,0<=x/\x<(free.length:Int))->(∀x∈kE free need c g out,0<=x/\x<(free.length:Int))/\∀i:Nat,(List.count (i:Int) (kE free need c g out):Int)<=List.count (i:Int) out+(if i∈g then room (free.getD i Vec.zero) need else 0)
 |[],out,_,_,f=>⟨f,λi=>by simp[kE]⟩
 |h::t,out,d,j,f=>by
  rw[fQ]at d;have l:=j h (aZ ..);unfold kE;rw[aG l];have m:=CQ (free.getD h Vec.zero) need;have k:=ZX need c t (out++List.replicate (min (room (free.getD h Vec.zero) need) (c-out.length)).toNat (h:Int)) d.2 (λx a=>j x (bG _ a)) (λx a=>by
   rcases bY.1 a with a|a
   .exact f x a
   .have:=List.eq_of_mem_replicate a;omega)
  refine⟨k.1,λi=>?_⟩;have b:=k.2 i;rw[List.count_append,List.count_replicate]at b;by_cases e:h=i
  .subst e;rw[aD d.1]at b;rw[aG (aZ ..)];simp only[beq_self_eq_true,if_true]at b;omega
  .have e2:((h:Int)==(i:Int))=false:=by simp;omega
   rw[e2]at b;have e3:(i∈h::t)↔i∈t:=by simp[Ne.symm e]
   simp only[e3];simp only[kC,if_false]at b;omega
theorem VL{n k m:Int}(a:0<=k)(c:0<=m)(h:m<=lI n f k):m<=n/\(0<k->k*m<=f):=by
 unfold lI at h;split at h
 .rename_i a;refine⟨oZ,λ_=>?_⟩;have b:m<=f/k:=oZ;have:=Int.mul_le_mul_of_nonneg_left b (Int.le_of_lt a);exact Int.le_trans this (Int.mul_ediv_self_le oZ)
 .exact⟨h,λh=>absurd h ‹_›⟩
def Mul(need:Vec.V)(m:Int)(f:Vec.V):Prop:=need.x*m<=f.x/\need.y*m<=f.y/\need.z*m<=f.z
theorem room_le{f k:Vec.V}{m:Int}(c:iP k)(g:iP f)(i:0<=m)(h:m<=room f k):Mul k m f:=by
 have zero:∀a b:Int,0<=a->0<=b->(0<a->a*m<=b)->a*m<=b:=λa b n o d=>by
  by_cases e:0<a
  .exact d e
  .have:a=0:=by omega
   subst this;omega
 unfold room at h;split at h
 .have d:=VL c.2.2 i h;have j:=VL c.2.1 i d.1;have l:=VL c.1 i j.1;exact⟨zero _ _ c.1 g.1 l.2,zero _ _ c.2.1 g.2.1 j.2,zero _ _ c.2.2 g.2.2 d.2⟩
 .have:m=0:=by omega
  subst this;unfold Mul iP at*;omega
theorem aaY(c:iP need)(hv:iJ need=true):∀(l:List Int) (o:List Vec.V) (i:Nat),i<o.length->(o.getD i Vec.zero).x<=1048576/\(o.getD i Vec.zero).y<=1048576/\(o.getD i Vec.zero).z<=1048576->Mul need (List.count (i:Int) l) (o.getD i Vec.zero)->(Hst.dW Vec.sub need l o).getD i Vec.zero=⟨(o.getD i Vec.zero).x-need.x*List.count (i:Int) l,(o.getD i Vec.zero).y-need.y*List.count (i:Int) l,(o.getD i Vec.zero).z-need.z*List.count (i:Int) l⟩
 |[],o,i,hi,j,b=>by simp[Hst.dW]
 |h::t,o,i,hi,j,b=>by
  have m:=hv;rw[jX]at m;have f:(0:Int)<=List.count (i:Int) t:=oZ;have n:=iH c.1 f;have p:=iH c.2.1 f;have r:=iH c.2.2 f;have step:Hst.dW Vec.sub need (h::t) o=Hst.dW Vec.sub need t (Hst.one Vec.sub need o h):=rfl;rw[step];by_cases e:h=(i:Int)
  .subst e;rw[List.count_cons_self]at b⊢;unfold Mul at b;have d:∀a:Int,a*((List.count (i:Int) t+1:Nat):Int)=a*List.count (i:Int) t+a:=λa=>by rw[Int.natCast_add,Int.mul_add];simp
   rw[d,d,d]at b;have e1:Hst.one Vec.sub need o (i:Int)=o.set i (Vec.sub (o.getD i Vec.zero) need):=by unfold Hst.one;rw[aG ⟨oZ,oZ⟩,Int.toNat_natCast]
   have e2:(Hst.one Vec.sub need o (i:Int)).getD i Vec.zero=Vec.sub (o.getD i Vec.zero) need:=by rw[e1,xJ,aG ⟨rfl,hi⟩]
   have e3:Vec.sub (o.getD i Vec.zero) need=⟨(o.getD i Vec.zero).x-need.x,(o.getD i Vec.zero).y-need.y,(o.getD i Vec.zero).z-need.z⟩:=by unfold Vec.sub;rw[xW _ _ oZ oZ oZ oZ,xW _ _ oZ oZ oZ oZ,xW _ _ oZ oZ oZ oZ]
   have g:=aaY c hv t (Hst.one Vec.sub need o (i:Int)) i (by rw[FJ];exact hi) (by rw[e2,e3];unfold iP at c;simp only;omega) (by rw[e2,e3];unfold Mul;simp only;omega);rw[g,e2,e3,d,d,d];simp only[Vec.V.mk.injEq];omega
  .have k:List.count (i:Int) (h::t)=List.count (i:Int) t:=by rw[List.count_cons_of_ne e]
   rw[k]at b⊢;have e2:(Hst.one Vec.sub need o h).getD i Vec.zero=o.getD i Vec.zero:=by
    unfold Hst.one;split
    .rw[xJ,aD];omega
    .rfl
   have g:=aaY c hv t (Hst.one Vec.sub need o h) i (by rw[FJ];exact hi) (by rw[e2];exact j) (by rw[e2];exact b);rw[g,e2]
structure tV (c:Cfg.C) (rs:List R):Prop where
 aQ:∀r∈rs,(r.aQ.length:Int)=r.p.eU/\∀h∈r.aQ,0<=h/\h<(c.aQ.length:Int)
 room:∀i,iP ((free c rs).getD i Vec.zero)
theorem afn(c:Cfg.C)(rs:List R):(free c rs).length=c.aQ.length:=Hst.UK _ _
theorem ahZ(b:Cfg.ok c=true)(i:Nat):iP ((Hst.caps c.aQ).getD i Vec.zero)/\((Hst.caps c.aQ).getD i Vec.zero).x<=1048576/\((Hst.caps c.aQ).getD i Vec.zero).y<=1048576/\((Hst.caps c.aQ).getD i Vec.zero).z<=1048576:=by
 by_cases hi:i<c.aQ.length
 .have h:=EU (MH b) hi;unfold vP at h;simp only[Bool.and_eq_true]at h;have a:=h.2.2.2;have e:(Hst.caps c.aQ).getD i Vec.zero=(c.aQ.getD i default).cap:=by unfold Hst.caps;rw[aL,fK,aL,aH hi];rfl
  rw[e];rw[jX]at a;unfold iP;omega
 .rw[aL,dY (by simp[Hst.caps];omega)];simp only[Option.getD_none,Vec.zero,iP];omega
theorem asF(a:Cfg.ok c=true){rs:List R}(b:∀r∈rs,Fair r.p)(i:Nat):Le ((free c rs).getD i Vec.zero) ((Hst.caps c.aQ).getD i Vec.zero):=
 (WE (LC a) (List.nil_sublist rs) b).2 i
theorem ana(c:Cfg.C)(rs:List R)(r:R):free c (rs++[r])=Hst.dW Vec.sub r.p.need r.aQ (free c rs):=by unfold free Hst.free;rw[dO,fB];rfl
theorem ahV{rs:List R}{fl:Int}(l:0<=p.eU)(h:dR c rs p=some (fl,L)):(L.length:Int)=p.eU/\(∀x∈L,0<=x/\x<(c.aQ.length:Int))/\∀i:Nat,(List.count (i:Int) L:Int)<=room ((free c rs).getD i Vec.zero) p.need:=by
 unfold dR at h;split at h
 .unfold find at h;obtain⟨m,g,j,hi⟩:=OD h;obtain⟨e,k⟩:=aff l hi;have f:=aqf j;have a:=ZX (free:=free c rs) p.need p.eU g [] f.1 (λx b=>by rw[afn];exact f.2 x b) (λx b=>by cases b);rw[<-e,afn]at a;refine⟨k,a.1,λi=>?_⟩;have d:=a.2 i;have n:=CQ ((free c rs).getD i Vec.zero) p.need;simp only[List.count_nil]at d;split at d<;>omega
 .cases h
theorem tV.aDm(d:Cfg.ok c=true){rs:List R}(m:∀r∈rs,Fair r.p)(e:tV c rs)(b:Fair p){fl:Int}(h:dR c rs p=some (fl,L))(aN:Int):tV c (rs++[⟨p,aN,fl,L⟩]):=by
 obtain⟨g,j,k⟩:=ahV (by have:=b.eU;omega) h;refine⟨λr a=>?_,λi=>?_⟩
 .rcases bY.1 a with a|a
  .exact e.aQ r a
  .have:r=⟨p,aN,fl,L⟩:=by simpa using a
   subst this;exact⟨g,j⟩
 .rw[ana];by_cases hi:i<(free c rs).length
  .have l:=asF d m i;have n:=ahZ d i;have f:=room_le b.nonneg (e.room i) oZ (k i);have:=aaY b.nonneg b.need L (free c rs) i hi (by unfold Le at l;omega) f;show iP ((Hst.dW Vec.sub p.need L (free c rs)).getD i Vec.zero);rw[this];unfold Mul at f;unfold iP;simp only;omega
  .rw[aL,dY (by rw[Hst.wS];omega)];simp[Vec.zero,iP]
theorem tV.sub(b:Cfg.ok c=true){rs:List R}(d:∀r∈rs',Fair r.p)(a:tV c rs')(h:rs.Sublist rs'):tV c rs:=by refine⟨λr e=>a.aQ r (h.subset e),λi=>?_⟩;have f:=(WE (LC b) h d).2 i;have g:=a.room i;unfold Le iP at*;omega
theorem tV.nil(a:Cfg.ok c=true):tV c []:=⟨λr b=>(by cases b),λi=>(ahZ a i).1⟩
end Top
variable{m n:Nat}
namespace Top
open Go.Proofs.YtedmeglbjmdlhaaGreatDoor Quo
structure KC (c:Cfg.C) (aN next:Int) (p:Ord.P):Prop where
 err:uG c p=0
 may:never c p=false
 seq:1<=p.seq/\p.seq<next
 since:0<=p.since/\p.since<=aN
structure arj (c:Cfg.C) (p:Ord.P):Prop where
 id:1<=p.id/\p.id<=1073741824
 eU:1<=p.eU/\p.eU<=16
 need:iJ p.need=true
 run:1<=p.run/\p.run<=1048576
 aR:0<=p.aR/\p.aR<=3
 prefer:0<=p.prefer/\p.prefer<=p.aR
 iC:iC c p.dN=true
theorem QT(h:uG c p=0):arj c p:=by
 unfold uG at h;split at h
 .rename_i a;split at h
  .rename_i h2;simp only[Bool.and_eq_true,uY]at a;obtain⟨⟨⟨⟨⟨a1,a2⟩,a3⟩,a4⟩,b⟩,a6⟩:=a;exact⟨a1,a2,a3,a4,b,a6,h2⟩
  .cases h
 .cases h
theorem KC.nums{aN next:Int}(h:KC c aN next p):arj c p:=QT h.err
theorem KC.rG{aN next:Int}(h:KC c aN next p):Fair p:=⟨h.nums.need,h.nums.eU⟩
theorem KC.nO{aN next:Int}(h:KC c aN next p)(a:aN<=d)(b:next<=f):KC c d f p:=
 ⟨h.err,h.may,⟨h.seq.1,by have:=h.seq.2;omega⟩,⟨h.since.1,by have:=h.since.2;omega⟩⟩
structure Good (n:Nat) (s:S):Prop where
 cfg:s.c=noC\/Cfg.ok s.c=true
 hist:s.h.length=s.c.aP.length
 aN:0<=s.aN/\s.aN<=1099511627776
 next:1<=s.next/\s.next<=n+1
 kR:∀p∈s.ps++gs s.rs,KC s.c s.aN s.next p
 dB:((s.ps++gs s.rs).map (·.id)).Nodup
 nos:((s.ps++gs s.rs).map (·.seq)).Nodup
 time:∀r∈s.rs,0<=r.start/\r.start<=s.aN/\s.aN<jC r
 lies:tV s.c s.rs
 len:s.ps.length+s.rs.length<=32
theorem Good.new:Good 0 new:=by refine⟨.inl rfl,rfl,dZ,dZ,λp b=>(by cases b),List.nodup_nil,List.nodup_nil,λr a=>(by cases a),⟨λr a=>(by cases a),λi=>?_⟩,dZ⟩;have:free Top.new.c Top.new.rs=[]:=rfl;rw[this];simp[Vec.zero,iP]
theorem apR(t:Int):iC noC t=false:=by rw[gD];intro h;rw[zF]at h;have:noC.aP.length=0:=rfl;omega
theorem Good.none(h:Good n s)(a:s.c=noC):s.ps=[]/\s.rs=[]:=by
 have c:∀p∈s.ps++gs s.rs,False:=λp b=>by have:=(h.kR p b).nums.iC;rw[a,apR]at this;cases this
 have e:s.ps++gs s.rs=[]:=List.eq_nil_iff_forall_not_mem.2 c;have e1:=List.append_eq_nil_iff.1 e;exact⟨e1.1,pW.1 e1.2⟩
theorem Good.sane(h:Good n s):xP s:=⟨h.dB,λp a=>(h.kR p a).rG⟩
theorem Good.rG(h:Good n s):∀r∈s.rs,Fair r.p:=λr a=>(h.kR r.p (fG _ (bL.2 ⟨r,a,rfl⟩))).rG
theorem afk{rs:List R}(h:rs.Sublist rs'):(gs rs).Sublist (gs rs'):=h.map _
theorem Good.less(h:Good n s){ps:List Ord.P}{rs:List R}(b:ps.Sublist s.ps)(a:rs.Sublist s.rs):Good n {s with ps:=ps,rs:=rs} where
 cfg:=h.cfg
 hist:=h.hist
 aN:=h.aN
 next:=h.next
 kR:=λp c=>h.kR p ((b.append (afk a)).subset c)
 dB:=h.dB.sublist ((b.append (afk a)).map _)
 nos:=h.nos.sublist ((b.append (afk a)).map _)
 time:=λr d=>h.time r (a.subset d)
 lies:=by
  rcases h.cfg with e|e
  .have e1:=(h.none e).2;rw[e1]at a;have e2:=List.sublist_nil.1 a;show tV s.c rs;rw[e2,<-e1];exact h.lies
  .exact tV.sub e h.rG h.lies a
 len:=by have:=b.length_le;have:=a.length_le;have:=h.len;show ps.length+rs.length<=32;omega
theorem RG:∀(rs:List R) (id:Int),(wD rs id).Sublist rs
 |[],_=>lN _
 |r::t,id=>by
  unfold wD;split
  .exact List.sublist_cons_self ..
  .exact(RG t id).cons_cons r
theorem PG:∀(ps:List Ord.P) (id:Int),(nG ps id).Sublist ps
 |[],_=>lN _
 |r::t,id=>by
  unfold nG;split
  .exact List.sublist_cons_self ..
  .exact(PG t id).cons_cons r
theorem RN(rs:List R)(t:Int):(dD rs t).Sublist rs:=mH
theorem acj(f:Cfg.ok s.c=true)(k:xP s){x:Rd}{l:List Ord.P}(m:Mid s x (p::l))(h:tV s.c x.rs):tV s.c (look s.c s.aN x p).rs:=by
 have d:=m.rG k;have j:=k.rG p (cO _ (m.left p (aZ ..)).2);have n:=qF (c:=s.c) (aN:=s.aN) (p:=p) d;generalize look s.c s.aN x p=y at n;cases n with
 |run fl u a b=>exact h.aDm f d j a s.aN
 |wait a b=>exact h
 |give g fl u a b i e=>
  have sub:=JQ x.rs g;exact(h.sub f d sub).aDm f (λr o=>d r (sub.subset o)) j e s.aN
 |first t a b i e=>exact h
 |none a b i e=>exact h
theorem TW(b:Cfg.ok s.c=true)(a:xP s):∀(l:List Ord.P) (x:Rd),Mid s x l->tV s.c x.rs->tV s.c (rounds s.c s.aN x l).rs
 |[],x,_,h=>h
 |p::l,x,m,h=>TW b a l _ (m.step a) (acj b a m h)
theorem aen(h:s.ps=[]):row s=[]:=by have:=(uU s).length_eq;rw[h]at this;exact jM.1 this
theorem Good.run(h:Good n s):Good n (run s).1:=by
 rcases h.cfg with e|e
 .obtain⟨e1,e2⟩:=h.none e;have e3:(Top.run s).1=s:=by unfold Top.run lT;rw[aen e1];rfl
  rw[e3];exact h
 .have m:=wP h.sane;have f:=TW e h.sane _ _ (Mid.start h.sane) h.lies;refine⟨h.cfg,h.hist,h.aN,h.next,λp g=>h.kR p (m.perm.mem_iff.1 g),(m.perm.map (·.id)).nodup_iff.2 h.dB,(m.perm.map (·.seq)).nodup_iff.2 h.nos,λr a=>?_,f,?_⟩
  .rcases m.runs r a with a|⟨b,c⟩
   .exact h.time r a
   .have:=(h.kR r.p (cO _ c)).nums.run;have:=h.aN;have d:jC r=r.start+r.p.run:=rfl;rw[b]at d;show 0<=r.start/\r.start<=s.aN/\s.aN<jC r;omega
  .have:=m.perm.length_eq;simp only[aW,gs,bN]at this;have:=h.len;show(lT s).ps.length+(lT s).rs.length<=32;omega
theorem afg{free:List Vec.V}{q:Ord.P}(a:p.eU=q.eU)(b:p.need=q.need)(g:List Nat):nJ free p g=nJ free q g:=by unfold nJ;rw[a,b]
theorem QX{free:List Vec.V}{q:Ord.P}(a:p.eU=q.eU)(b:p.need=q.need):∀gs,oN free p gs=oN free q gs
 |[]=>rfl
 |g::gs=>by unfold oN;rw[afg a b,QX a b gs]
theorem OE{free:List Vec.V}{q:Ord.P}(a:p.eU=q.eU)(b:p.need=q.need):∀(n:Nat) (l:Int),qH c free p n l=qH c free q n l
 |0,_=>rfl
 |n+1,l=>by
  unfold qH;rw[QX a b];cases oN free q (Hst.mU c.aQ l)with
  |some x=>rfl
  |none=>exact OE a b n (l+1)
theorem ani{rs:List R}{q:Ord.P}(d:p.dN=q.dN)(a:p.eU=q.eU)(b:p.need=q.need)(e:p.aR=q.aR)(f:p.prefer=q.prefer):dR c rs p=dR c rs q:=by unfold dR find jT;rw[d,a,b,e,f,OE a b]
theorem RB:∀{ps:List Ord.P},(lD ps id).isSome=false->∀p∈ps,p.id≠id
 |[],_,p,a=>by cases a
 |q::t,h,p,a=>by
  unfold lD at h;by_cases e:q.id=id
  .rw[aG e]at h;cases h
  .rw[aD e]at h;rcases bA.1 a with rfl|a
   .exact e
   .exact RB (by simpa using h) p a
theorem Good.AO(h:Good n s){g:Ord.P}(b:uL s g=0):Good (n+1) (AO s g):=by
 unfold uL at b;split at b
 .rename_i e;exact absurd b e
 rename_i e1;have e1:uG s.c g=0:=oZ;split at b
 .cases b
 rename_i e2;split at b
 .cases b
 rename_i e3;split at b
 .cases b
 rename_i e4;simp only[Bool.or_eq_true,not_or,Bool.not_eq_true]at e2 e3;have i:KC s.c s.aN (s.next+1) {g with seq:=s.next,since:=s.aN}:=by
  refine⟨e1,?_,⟨h.next.1,show s.next<s.next+1 by omega⟩,⟨h.aN.1,gN _⟩⟩;have:never s.c {g with seq:=s.next,since:=s.aN}=never s.c g:=by unfold never;rw[ani (p:={g with seq:=s.next,since:=s.aN}) (q:=g) rfl rfl rfl rfl rfl]
  rw[this];exact e3
 have d:(oI {g with seq:=s.next,since:=s.aN} s.ps++gs s.rs).Perm ({g with seq:=s.next,since:=s.aN}::(s.ps++gs s.rs)):=(zQ _ s.ps).append_right _;refine⟨h.cfg,h.hist,h.aN,?_,λp a=>?_,?_,?_,h.time,h.lies,?_⟩
 .have:=h.next;show 1<=s.next+1/\s.next+1<=((n+1:Nat):Int)+1;omega
 .rcases bA.1 (d.mem_iff.1 a)with rfl|a
  .exact i
  .exact(h.kR p a).nO (gN _) (show s.next<=s.next+1 by omega)
 .refine(d.map (·.id)).nodup_iff.2 ?_;rw[cZ,fQ];refine⟨λc=>?_,h.dB⟩;obtain⟨p,a,e⟩:=bL.1 c;rcases bY.1 a with a|a
  .exact RB e2.1 p a e
  .obtain⟨r,f,rfl⟩:=bL.1 a;have:=e2.2;unfold tY at this;rw[List.any_eq_false]at this;exact this r f (by simpa using e)
 .refine(d.map (·.seq)).nodup_iff.2 ?_;rw[cZ,fQ];refine⟨λc=>?_,h.nos⟩;obtain⟨p,a,e⟩:=bL.1 c;have:=(h.kR p a).seq;simp only at e;omega
 .have:=(zQ {g with seq:=s.next,since:=s.aN} s.ps).length_eq;show(oI {g with seq:=s.next,since:=s.aN} s.ps).length+s.rs.length<=32;simp only[List.length_cons]at this;omega
theorem Good.tick(h:Good n s){k:Int}(a:sP s k=0):Good n (tick s k).1:=by
 unfold sP at a;split at a
 .rename_i e1;rw[uY]at e1;split at a
  .cases a
  .have g:=h.less (lN s.ps) (RN s.rs (s.aN+k));refine⟨h.cfg,?_,?_,h.next,λp d=>(g.kR p d).nO (show s.aN<=s.aN+k by omega) (gN _),g.dB,g.nos,λr b=>?_,g.lies,g.len⟩
   .show(rR s.h (mI s.c s.rs) k s.c.aI).length=_;unfold rR;rw[List.length_mapIdx];exact h.hist
   .have:=h.aN;show 0<=s.aN+k/\s.aN+k<=1099511627776;omega
   .have e:=h.time r ((RN s.rs (s.aN+k)).subset b);have c:decide (s.aN+k<jC r)=true:=(fT.1 b).2;have f:=of_decide_eq_true c;show 0<=r.start/\r.start<=s.aN+k/\s.aN+k<jC r;omega
 .cases a
theorem Good.more(h:Good n s)(a:n<=m):Good m s:=⟨h.cfg,h.hist,h.aN,by have:=h.next;omega,h.kR,h.dB,h.nos,h.time,h.lies,h.len⟩
theorem Good.config(h:Good n s)(a:Cfg.ok c=true)(d:¬0<s.ps.length+s.rs.length):Good n {s with c:=c,h:=List.replicate c.aP.length 0}:=by
 have e1:s.ps=[]:=jM.1 oZ;have e2:s.rs=[]:=jM.1 oZ;refine⟨.inr a,sZ,h.aN,h.next,λp b=>?_,h.dB,h.nos,h.time,?_,h.len⟩
 .have:p∈s.ps++gs s.rs:=b;rw[e1,e2]at this;cases this
 .show tV c s.rs;rw[e2];exact tV.nil a
theorem Good.do(h:Good n s)(x:Cmd)(c:NA s x=0):Good (n+1) (doS s x).1:=by
 unfold NA at c;unfold doS;by_cases d:x.kind=1
 .rw[aG d]at c⊢;split at c
  .cases c
  .split at c
   .cases c
   .rename_i a b;refine(h.config ?_ b).more (fE _);unfold Cfg.check at a;cases j:Cfg.ok x.c with
    |true=>rfl
    |false=>rw[j]at a;simp at a
 rw[aD d]at c⊢;by_cases e:x.kind=2
 .rw[aG e]at c⊢;exact h.AO c
 rw[aD e]at c⊢;by_cases f:x.kind=3
 .rw[aG f]at c⊢;exact(h.less (lN _) (RG _ _)).more (fE _)
 rw[aD f]at c⊢;by_cases g:x.kind=4
 .rw[aG g]at c⊢;simp only;split
  .exact(h.less (PG _ _) (lN _)).more (fE _)
  .exact(h.less (lN _) (RG _ _)).more (fE _)
 rw[aD g]at c⊢;by_cases i:x.kind=5
 .rw[aG i]at c⊢;exact(h.tick c).more (fE _)
 rw[aD i]at c⊢;exact h.run.more (fE _)
theorem Good.apply(h:Good n s)(x:Cmd):Good (n+1) (apply s x).1:=by
 unfold Top.apply;split
 .rename_i e;refine h.do x ?_;unfold gZ at e;split at e
  .rename_i e2;exact absurd e e2
  .exact e
 .exact h.more (fE _)
theorem Good.fold:∀(l:List Cmd) (n:Nat) (s:S),Good n s->Good (n+l.length) (l.foldl (λs x=>(Top.apply s x).1) s)
 |[],n,s,h=>h
 |x::l,n,s,h=>by have:=Good.fold l (n+1) _ (h.apply x);rw[List.foldl_cons,List.length_cons];exact this.more oZ
theorem IX(l:List Cmd):Good l.length (jB l):=(Good.fold l 0 new Good.new).more oZ
theorem map_set{α β:Type}(f:α->β)(l:Array α)(i:Nat)(x:α):(l.setIfInBounds i x).map f=(l.map f).setIfInBounds i (f x):=by
 apply Array.ext
 .simp
 .intro j a b;simp only[Array.size_map,Array.size_setIfInBounds]at a;rw[Array.getElem_map,Array.getElem_setIfInBounds (by simpa using a),Array.getElem_setIfInBounds (by simpa using a)];split
  .rfl
  .rw[Array.getElem_map]
section
variable {α β:Type} [Inhabited α] [Inhabited β] (f:α->β) (less:β->β->Bool)
theorem QJ(a:f default=default)(l:Array α)(i:Nat):(l.map f)[i]! =f l[i]! :=by
 by_cases h:i<l.size
 .rw[dF (l.map f) i (by simpa using h),dF l i h,Array.getElem_map]
 .rw[getElem!_neg (l.map f) i (by simpa using h),getElem!_neg l i h,a]
theorem ahq(c:f default=default):∀(n i:Nat) (l:Array α),(upH (λa b=>less (f a) (f b)) n i l).map f=upH less n i (l.map f)
 |0,_,_=>rfl
 |n+1,i,l=>by
  unfold upH;rw[QJ f c,QJ f c];split
  .split
   .rw[ahq c n,map_set,map_set]
   .rfl
  .rfl
theorem abU(c:f default=default)(l:Array α)(x:α):(oD (λa b=>less (f a) (f b)) l x).map f=oD less (l.map f) (f x):=by unfold oD;rw[ahq f less c,Array.map_push];simp
theorem acF(e:f default=default)(m:Nat):∀(n i:Nat) (l:Array α),(vC (λa b=>less (f a) (f b)) m n i l).map f=vC less m n i (l.map f)
 |0,_,_=>rfl
 |n+1,i,l=>by
  unfold vC;simp only[QJ f e];generalize(if(decide (2*i+2<m)&&less (f l[2*i+2]!) (f l[2*i+1]!))=true then 2*i+2 else 2*i+1)=k;by_cases c:2*i+1<m
  .rw[aG c,aG c];by_cases d:less (f l[k]!) (f l[i]!)=true
   .rw[aG d,aG d,acF e m n,map_set,map_set]
   .rw[aD d,aD d]
  .rw[aD c,aD c]
theorem apk(c:f default=default)(l:Array α):(sH (λa b=>less (f a) (f b)) l).map f=sH less (l.map f):=by
 unfold sH;rw[acF f less c];have e:((l.setIfInBounds 0 l[l.size-1]!).pop).map f=((l.map f).setIfInBounds 0 (l.map f)[(l.map f).size-1]!).pop:=by rw[Array.map_pop,map_set,QJ f c];simp
 rw[e];simp
theorem WU(c:f default=default):∀(n:Nat) (l:Array α),(wG (λa b=>less (f a) (f b)) n l).map f=wG less n (l.map f)
 |0,_=>rfl
 |n+1,l=>by unfold wG;rw[cZ,WU c n,apk f less c,QJ f c]
end
def pops{α:Type}[Inhabited α](less:α->α->Bool):Nat->Array α->Array α
 |0,l=>l
 |k+1,l=>sH less (pops less k l)
theorem acR{α:Type}[Inhabited α](less:α->α->Bool):∀(k:Nat) (l:Array α),wG less (k+1) l=wG less k l++[(pops less k l)[0]!]
 |0,l=>rfl
 |k+1,l=>by
  have e:∀(k:Nat) (l:Array α),pops less k (sH less l)=pops less (k+1) l:=by
   intro k;induction k with
   |zero=>exactλl=>rfl
   |succ k a=>exactλl=>by show sH less (pops less k (sH less l))=_;rw[a];rfl
  show l[0]! ::wG less (k+1) (sH less l)=(l[0]! ::wG less k (sH less l))++_;rw[acR less k,List.cons_append,e]
theorem QG{α:Type}[Inhabited α](less:α->α->Bool):∀(k:Nat) (l:Array α),k<=l.size->(pops less k l).size=l.size-k
 |0,l,_=>rfl
 |k+1,l,h=>by have a:=QG less k l oZ;show(sH less (pops less k l)).size=_;rw[abV less _ oZ,a];omega
theorem ajb{α:Type}[Inhabited α](less:α->α->Bool)(l:Array α)(x:α):(oD less l x).size=l.size+1:=by have:=(ME less l x).length_eq;simpa using this
open Go.Proofs.YtedmeglbjmdlhaaGreatDoor
def nL(v:Vec.V):List Int:=[v.x,v.y,v.z]
def mV(n:kL):List Int:=(n.parent+1)::n.jH::(nL n.dQ++(nL n.borrow++nL n.lend))
def qA(h:gW):List Int:=h.flavor::h.block::h.AQ::nL h.cap
def sJ(c:Cfg.C):List Int:=(c.aP.length:Int)::(c.aP.flatMap mV++((c.aQ.length:Int)::(c.aQ.flatMap qA++[c.aI,c.aK])))
def rH(g:Ord.P):List Int:=g.id::g.dN::g.eU::(nL g.need++[g.run,g.aR,g.prefer])
def rX(x:Cmd):List Int:=x.kind::(if x.kind=1 then sJ x.c else if x.kind=2 then rH x.g else if x.kind=3\/x.kind=4\/x.kind=5 then[x.n]else[])
def Low(l:List Int):Prop:=∀n∈l,0<=n/\n<=127
instance (l:List Int):Decidable (Low l):=inferInstanceAs (Decidable (∀n∈l,0<=n/\n<=127))
def byte(n:Int):UInt8:=UInt8.ofNat n.toNat
def bytes(l:List Int):List UInt8:=l.map byte
def mQ(x:Cmd):List UInt8:=67::bytes (rX x)
theorem bytes_append(a b:List Int):bytes (a++b)=bytes a++bytes b:=dO
theorem NG(a:Int)(b:List Int):bytes (a::b)=byte a::bytes b:=rfl
theorem jQ(a:List Int):(bytes a).length=a.length:=bN _
theorem afL{n:Int}(h:0<=n/\n<=127):((byte n).toNat:Int)=n:=by unfold byte;rw[UInt8.toNat_ofNat'];omega
theorem Low.cons{a:Int}{l:List Int}(h:Low (a::l)):(0<=a/\a<=127)/\Low l:=⟨h a (aZ ..),λn b=>h n (bG _ b)⟩
def nT:Vec.V:=⟨4,4,4⟩
def two:Vec.V:=⟨2,2,2⟩
def pO:Cfg.C:=⟨[⟨-1,1,Vec.zero,Vec.zero,Vec.zero⟩,⟨0,1,nT,nT,nT⟩,⟨0,1,nT,nT,nT⟩],[⟨0,0,0,nT⟩,⟨0,0,1,nT⟩],10,0⟩
def noG:Ord.P:=⟨0,0,0,Vec.zero,0,0,0,0,0⟩
def awj(id t run:Int):Ord.P:=⟨id,t,2,two,run,3,0,0,0⟩
def iX:Cmd:=⟨1,pO,noG,0⟩
def gF(id t run:Int):Cmd:=⟨2,noC,awj id t run,0⟩
def kD:Cmd:=⟨6,noC,noG,0⟩
def gq(id t run seq:Int):Ord.P:=⟨id,t,2,two,run,3,0,seq,0⟩
def s1:S:=⟨pO,0,1,[],[],[0,0,0]⟩
def s2:S:=⟨pO,0,2,[gq 1 1 50 1],[],[0,0,0]⟩
def s3:S:=⟨pO,0,3,[gq 1 1 50 1,gq 2 1 50 2],[],[0,0,0]⟩
theorem a1:apply new iX=(s1,[]):=by rfl
theorem a2:apply s1 (gF 1 1 50)=(s2,[]):=by rfl
theorem a3:apply s2 (gF 2 1 50)=(s3,[]):=by rfl
def r1:R:=⟨gq 1 1 50 1,0,0,[0,0]⟩
def r2:R:=⟨gq 2 1 50 2,0,0,[1,1]⟩
def r3:R:=⟨gq 3 2 9 3,0,0,[1,1]⟩
def s4:S:=⟨pO,0,3,[],[r1,r2],[0,0,0]⟩
def s6:S:=⟨pO,0,4,[gq 3 2 9 3],[r1,r2],[0,0,0]⟩
def s7:S:=⟨pO,0,4,[gq 2 1 50 2],[r1,r3],[0,0,0]⟩
theorem a4:apply s3 kD=(s4,[⟨1,1,0⟩,⟨1,2,0⟩]):=by kernel_rfl
theorem a6:apply s4 (gF 3 2 9)=(s6,[]):=by rfl
theorem a7:apply s6 kD=(s7,[⟨2,2,0⟩,⟨1,3,0⟩]):=by kernel_rfl
theorem e1:gZ new iX=0:=by rfl
theorem e2:gZ s1 (gF 1 1 50)=0:=by rfl
theorem e3:gZ s2 (gF 2 1 50)=0:=by rfl
theorem e4:gZ s3 kD=0:=by rfl
theorem e6:gZ s4 (gF 3 2 9)=0:=by rfl
theorem e7:gZ s6 kD=0:=by rfl
structure Plain (x:Cmd):Prop where
 low:Low (rX x)
 err:yS x=0
 kind:x.kind=1\/x.kind=2\/x.kind=6
 c:x.kind≠1->x.c=noC
 g:x.kind≠2->x.g=noG
 n:x.n=0
theorem p1:Plain iX:=⟨dZ,dZ,.inl rfl,λh=>absurd rfl h,λ_=>rfl,rfl⟩
theorem p2:Plain (gF 1 1 50):=⟨dZ,dZ,.inr (.inl rfl),λ_=>rfl,λh=>absurd rfl h,rfl⟩
theorem p3:Plain (gF 2 1 50):=⟨dZ,dZ,.inr (.inl rfl),λ_=>rfl,λh=>absurd rfl h,rfl⟩
theorem p4:Plain kD:=⟨dZ,dZ,.inr (.inr rfl),λ_=>rfl,λ_=>rfl,rfl⟩
theorem p6:Plain (gF 3 2 9):=⟨dZ,dZ,.inr (.inl rfl),λ_=>rfl,λh=>absurd rfl h,rfl⟩
theorem sizes{x:Cmd}(h:yS x=0):x.c.aP.length<=12/\x.c.aQ.length<=24:=by
 unfold yS at h;split at h
 .split at h
  .assumption
  .cases h
 .cases h
theorem Plain.config{x:Cmd}(h:Plain x)(k:x.kind=1):Low (sJ x.c):=by have:=h.low;unfold rX at this;rw[aG k]at this;exact this.cons.2
theorem Plain.dW{x:Cmd}(h:Plain x)(k:x.kind=2):Low (rH x.g):=by have:=h.low;unfold rX at this;rw[aD oZ,aG k]at this;exact this.cons.2
theorem enc1{x:Cmd}(k:x.kind=1):rX x=1::sJ x.c:=by unfold rX;rw[aG k,k]
theorem enc2{x:Cmd}(k:x.kind=2):rX x=2::rH x.g:=by unfold rX;rw[aD oZ,aG k,k]
theorem aqs{x:Cmd}(k:x.kind=6):rX x=[6]:=by unfold rX;rw[aD oZ,aD oZ,aD oZ,k]
def bD(xs:List Cmd):List UInt8:=frames (xs.map mQ)
def abo(xs:List Cmd):Prop:=(∀x∈xs,Plain x)/\∀k (h:k<xs.length),gZ (jB (xs.take k)) xs[k]=0
theorem uE{x:Cmd}(h:Plain x):(mQ x).length<=1000:=by
 unfold mQ;rw[List.length_cons,jQ];rcases h.kind with k|k|k
 .have c:=sizes h.err;rw[enc1 k];unfold sJ;have e1:∀l:List kL,(l.flatMap mV).length=11*l.length:=by
   intro l;induction l with
   |nil=>rfl
   |cons a t b=>rw[dL,aW,b,List.length_cons];show 11+_=_;omega
  have e2:∀l:List gW,(l.flatMap qA).length=6*l.length:=by
   intro l;induction l with
   |nil=>rfl
   |cons a t b=>rw[dL,aW,b,List.length_cons];show 6+_=_;omega
  simp only[List.length_cons,aW,e1,e2,List.length_nil];omega
 .rw[enc2 k];show(2::rH x.g).length+1<=1000;simp[rH,nL]
 .rw[aqs k];simp
theorem aiH{xs:List Cmd}(h:∀x∈xs,Plain x):Jou.Small (xs.map mQ):=λr a=>by obtain⟨x,b,rfl⟩:=bL.1 a;have:=uE (h x b);omega
theorem amE(xs:List Cmd)(x:Cmd):bD (xs++[x])=bD xs++Crc.frame (mQ x):=by unfold bD;rw[dO,adh,cZ,gM,ajN]
theorem acr{xs:List Cmd}(h:∀x∈xs,Plain x):scan (bD xs)=(xs.map mQ,(bD xs).length):=YK _ (aiH h)
theorem agQ{xs:List Cmd}(h:∀x∈xs,Plain x):Jou.opened (bD xs)=bD xs:=by unfold Jou.opened;rw[acr h,List.take_length]
end Top
end Go.Proofs.YtedmeglbjmdlhaaGreatDoor
