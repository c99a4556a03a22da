/-
TopQuiet: whatever commands came ahead, a second round right behind one admits nobody if nobody had to give way in either, and the head and its start are the same. Conditions: none beyond the card.
-/
import Derived.Test.YtedmeglbjmdlhaaGreatDoorGXQuiet39
import Derived.Test.YtedmeglbjmdlhaaGreatDoorG7
set_option maxRecDepth 100000
set_option maxHeartbeats 16000000
set_option linter.all false
namespace Go.Proofs.YtedmeglbjmdlhaaGreatDoor
open Go
open Cfg Led Ord Quo Srt Top Tree Vec
variable{c:Cfg.C}{K:List Vec.V}{p:Ord.P}
namespace Top
open Go.Proofs.YtedmeglbjmdlhaaGreatDoor Quo
theorem afh{free:List Vec.V}(h:LeL free K)(b:0<=p.eU){g:List Nat}(a:(nJ free p g).isSome=true):(nJ K p g).isSome=true:=by
 unfold nJ at*;simp only at*;have:=(MU h p.need p.eU g [] [] lZ (by simpa using b)).1;split at a
 .cases a
 .rw[aD oZ];rfl
theorem QZ{free:List Vec.V}(h:LeL free K)(c:0<=p.eU):∀(gs:List (List Nat)),(oN free p gs).isSome=true->(oN K p gs).isSome=true
 |[],a=>by cases a
 |g::gs,a=>by
  unfold oN at*;cases d:nJ K p g with
  |some l=>rfl
  |none=>
   cases b:nJ free p g with
   |some l=>
    have:=afh h c (g:=g) (by rw[b];rfl);rw[d]at this;cases this
   |none=>
    rw[b]at a;exact QZ h c gs a
theorem OG{free:List Vec.V}(h:LeL free K)(d:0<=p.eU):∀(n:Nat) (aR:Int),(qH c free p n aR).isSome=true->(qH c K p n aR).isSome=true
 |0,_,a=>by cases a
 |n+1,aR,a=>by
  unfold qH at*;cases e:oN K p (Hst.mU c.aQ aR)with
  |some l=>rfl
  |none=>
   cases b:oN free p (Hst.mU c.aQ aR)with
   |some l=>
    have:=QZ h d (Hst.mU c.aQ aR) (by rw[b];rfl);rw[e]at this;cases this
   |none=>
    rw[b]at a;exact OG h d n _ a
end Top
variable{d:Int}{rs':List Top.R}{need:Vec.V}
namespace Top
open Go.Proofs.YtedmeglbjmdlhaaGreatDoor Quo Led
theorem VY{l:List Nat}{t:Nat}{f e o:Nat->Int}(N:l.length<=12)(w:l.Nodup)(i:∀s∈l,0<=f s/\f s<=1073741824)(p:∀s∈l,0<=e s/\e s<=f s)(u:∀s∈l,0<=o s/\o s<=1048576)(K:0<=d/\d<=1073741824):Vec.add1 (Vec.add1 (nR e l 0) d) (nR (λs=>max (nA (o s) (e s)) 0) (l.filter λ(s:Nat)=>(s:Int) !=(t:Int)) 0)<=Vec.add1 (Vec.add1 (nR f l 0) d) (nR (λs=>max (nA (o s) (f s)) 0) (l.filter λ(s:Nat)=>(s:Int) !=(t:Int)) 0):=by
 have J:(l.length:Int)*1073741824<=12884901888:=oZ;have L:(l.filter λ(s:Nat)=>(s:Int) !=(t:Int)).length<=l.length:=eF _ _;have M:((l.filter λ(s:Nat)=>(s:Int) !=(t:Int)).length:Int)*1048576<=12582912:=oZ;have j:∀s∈(l.filter λ(s:Nat)=>(s:Int) !=(t:Int)),s∈l:=λs g=>(fT.1 g).1;have e1:nR f l 0=iF f l:=by rw[sF (k:=1073741824) oZ l 0 i oZ oZ];omega
 have r:∀s∈l,0<=e s/\e s<=1073741824:=λs g=>by have:=i s g;have:=p s g;omega
 have e2:nR e l 0=iF e l:=by rw[sF (k:=1073741824) oZ l 0 r oZ oZ];omega
 have n:∀(x y:Int),0<=y->y<=1073741824->0<=x->x<=1048576->0<=max (nA x y) 0/\max (nA x y) 0<=1048576/\max (nA x y) 0=max (x-y) 0:=by intro x y _ _ _ _;unfold nA Vec.cut;omega
 have A:∀s∈(l.filter λ(s:Nat)=>(s:Int) !=(t:Int)),0<=max (nA (o s) (f s)) 0/\max (nA (o s) (f s)) 0<=1048576:=λs g=>by have a:=i s (j s g);have b:=u s (j s g);have c:=n (o s) (f s) a.1 a.2 b.1 b.2;omega
 have F:∀s∈(l.filter λ(s:Nat)=>(s:Int) !=(t:Int)),0<=max (nA (o s) (e s)) 0/\max (nA (o s) (e s)) 0<=1048576:=λs g=>by have a:=r s (j s g);have b:=u s (j s g);have c:=n (o s) (e s) a.1 a.2 b.1 b.2;omega
 have e3:nR (λs=>max (nA (o s) (f s)) 0) (l.filter λ(s:Nat)=>(s:Int) !=(t:Int)) 0=iF (λs=>max (nA (o s) (f s)) 0) (l.filter λ(s:Nat)=>(s:Int) !=(t:Int)):=by rw[sF (k:=1048576) oZ _ 0 A oZ oZ];omega
 have e4:nR (λs=>max (nA (o s) (e s)) 0) (l.filter λ(s:Nat)=>(s:Int) !=(t:Int)) 0=iF (λs=>max (nA (o s) (e s)) 0) (l.filter λ(s:Nat)=>(s:Int) !=(t:Int)):=by rw[sF (k:=1048576) oZ _ 0 F oZ oZ];omega
 have b1:=uK l i;have b2:=uK l r;have b3:=uK _ A;have I:=uK _ F;have s1:=CJ f t l w;have s2:=CJ e t l w;have m:∀(q:List Nat),(∀s∈q,s∈l)->iF e q+iF (λs=>max (nA (o s) (e s)) 0) q<=iF f q+iF (λs=>max (nA (o s) (f s)) 0) q:=by
  intro q;induction q with
  |nil=>intro _;simp[iF]
  |cons x q H=>
   intro z;have:=H (λs g=>z s (bG _ g));have v:=z x (aZ ..);have a:=i x v;have a':=p x v;have b:=u x v;have c1:=(n (o x) (f x) a.1 a.2 b.1 b.2).2.2;have c2:=(n (o x) (e x) a'.1 oZ b.1 b.2).2.2;rw[kI,kI,kI,kI];omega
 have Q:=m _ j;have O:(if t∈l then e t else 0)<=(if t∈l then f t else 0):=by
  split
  .rename_i h;exact(p t h).2
  .exact gN _
 rw[e1,e2,e3,e4,kQ _ d oZ oZ oZ oZ,kQ _ d oZ oZ oZ oZ,kQ _ _ oZ oZ oZ oZ,kQ _ _ oZ oZ oZ oZ];omega
def wI(l:List Vec.V):Prop:=∀n:Int,(0<=(Tree.dD l n).x/\(Tree.dD l n).x<=1073741824)/\(0<=(Tree.dD l n).y/\(Tree.dD l n).y<=1073741824)/\(0<=(Tree.dD l n).z/\(Tree.dD l n).z<=1073741824)
theorem apQ(h:Cfg.ok c=true){s:Nat}(a:iC c (s:Int)=true):(0<=(Vec.sub (node c s).dQ (node c s).lend).x/\(Vec.sub (node c s).dQ (node c s).lend).x<=1048576)/\(0<=(Vec.sub (node c s).dQ (node c s).lend).y/\(Vec.sub (node c s).dQ (node c s).lend).y<=1048576)/\(0<=(Vec.sub (node c s).dQ (node c s).lend).z/\(Vec.sub (node c s).dQ (node c s).lend).z<=1048576):=by obtain⟨v1,_,b,v4⟩:=QM h a;rw[jX]at v1 b;rw[oK]at v4;unfold Vec.sub nA Vec.cut;simp only;omega
theorem apK(d:Cfg.ok c=true){used:List Vec.V}{t:Int}(k:∀n,Le (Tree.dD K n) (Tree.dD used n))(l:wI used)(m:wI K)(f:(0<=need.x/\need.x<=1073741824)/\(0<=need.y/\need.y<=1073741824)/\(0<=need.z/\need.z<=1073741824))(h:may c used t need=true):may c K t need=true:=by
 unfold may at*;simp only[Bool.and_eq_true,gT]at*;refine⟨h.1,λn p=>?_⟩;have b:=h.2 n p;have v:=rF h.1;have r:((t.toNat:Nat):Int)=t:=oZ;unfold vY at*;split
 .rename_i he;rw[aG he]at b;exact zW (xM (k _) (Le.refl _)) b
 .rename_i he;rw[aD he]at b;refine zW ?_ b;have g:=aV (AX c (n:Int)) ((rE d).1.2);have i:=wV c (n:Int);have j:∀s∈Tree.below c (n:Int),iC c (s:Int)=true:=λs a=>(GV a).1;rw[zL,zL];unfold Quo.bD;rw[yA,yA,<-r];unfold own pos;have u:=λs:Nat=>l (s:Int);have u':=λs:Nat=>m (s:Int);have e:=λs:Nat=>k (s:Int);refine⟨?_,?_,?_⟩
  .exact VY (o:=λs=>(Vec.sub (node c s).dQ (node c s).lend).x) g i (λs _=>(u s).1) (λs _=>⟨(u' s).1.1,(e s).1⟩) (λs a=>(apQ d (j s a)).1) f.1
  .exact VY (o:=λs=>(Vec.sub (node c s).dQ (node c s).lend).y) g i (λs _=>(u s).2.1) (λs _=>⟨(u' s).2.1.1,(e s).2.1⟩) (λs a=>(apQ d (j s a)).2.1) f.2.1
  .exact VY (o:=λs=>(Vec.sub (node c s).dQ (node c s).lend).z) g i (λs _=>(u s).2.2) (λs _=>⟨(u' s).2.2.1,(e s).2.2⟩) (λs a=>(apQ d (j s a)).2.2) f.2.2
theorem Fair.mild(h:Fair p):(0<=(Top.jT p).x/\(Top.jT p).x<=16777216)/\(0<=(Top.jT p).y/\(Top.jT p).y<=16777216)/\(0<=(Top.jT p).z/\(Top.jT p).z<=16777216):=by
 have c:=h.need;rw[jX]at c;have f:=h.eU;have d:∀x:Int,0<=x->x<=1048576->0<=vN x p.eU/\vN x p.eU<=16777216:=by intro x e g;unfold vN Vec.cut;have e1:min (max x (-1099511627776)) 1099511627776=x:=oZ;have e2:min (max p.eU (-1048576)) 1048576=p.eU:=oZ;rw[e1,e2];have a:=iH e (show 0<=p.eU by omega);have b:x*p.eU<=1048576*16:=Int.mul_le_mul g f.2 oZ oZ;omega
 exact⟨d _ c.1.1 c.1.2,d _ c.2.1.1 c.2.1.2,d _ c.2.2.1 c.2.2.2⟩
theorem XP(c:Cfg.C):∀(rs:List R) (u:Led.U) (k:Int),(∀r∈rs,Fair r.p)->0<=k->k+(rs.length:Int)*16777216<=1073741824->Led.Small u k->Led.Small (AJ c u rs) (k+(rs.length:Int)*16777216)
 |[],u,k,_,_,_,h=>by simpa[AJ]using h
 |r::rs,u,k,b,j,d,h=>by
  have a:((rs.length+1:Nat):Int)*16777216=(rs.length:Int)*16777216+16777216:=oZ;rw[List.length_cons,a]at d;have l:=(b r (aZ ..)).mild;have e:Led.Small (yY c u r.p) (k+16777216):=λi=>by
   have hi:=h i;rw[FQ];split
   .unfold Vec.add;simp only;rw[kQ _ _ oZ oZ oZ oZ,kQ _ _ oZ oZ oZ oZ,kQ _ _ oZ oZ oZ oZ];omega
   .omega
  have g:=XP c rs _ (k+16777216) (λx f=>b x (bG _ f)) oZ oZ e;rw[List.length_cons,a,show k+((rs.length:Int)*16777216+16777216)=k+16777216+(rs.length:Int)*16777216 by omega];exact g
theorem abv(c:Cfg.C){rs:List R}(a:∀r∈rs,Fair r.p)(d:rs.length<=64):wI (used c rs):=λn=>by
 by_cases b:0<=n
 .obtain⟨k,rfl⟩:=dX b;rw[RY];split
  .have:=XP c rs Led.none_ 0 a oZ oZ ajn k;omega
  .simp[Vec.zero]
 .unfold Tree.dD;rw[aD oZ];simp[Vec.zero]
theorem WH(g:Cfg.ok c=true)(f:akJ c){rs:List R}(h:rs.Sublist rs')(a:∀r∈rs',Fair r.p)(d:rs'.length<=64)(e:Fair p)(b:(dR c rs' p).isSome=true):(dR c rs p).isSome=true:=by
 have i:∀r∈rs,Fair r.p:=λr k=>a r (h.subset k);have j:rs.length<=64:=aV h.length_le d;unfold dR at*;split at b
 .rename_i hm;have l:=e.mild;rw[aG (apK g (VB c h a) (abv c a d) (abv c i j) oZ hm)];exact OG (WE f h a) (by have:=e.eU;omega) _ _ b
 .cases b
end Top
variable{s:Top.S}
namespace Top
open Go.Proofs.YtedmeglbjmdlhaaGreatDoor Quo
theorem VZ{n x:Int}:∀{l:List Int},x∈wB n l↔x=n\/x∈l
 |[]=>by simp[wB]
 |y::t=>by
  unfold wB;split
  .simp
  .rw[bA,VZ,bA];constructor
   .rintro(h|h|h)
    .exact .inr (.inl h)
    .exact .inl h
    .exact .inr (.inr h)
   .rintro(h|h|h)
    .exact .inr (.inl h)
    .exact .inl h
    .exact .inr (.inr h)
theorem abG{x:Int}:∀{l:List Int},x∈CO l↔x∈l
 |[]=>by simp[CO]
 |y::t=>by show x∈wB y (CO t)↔_;rw[VZ,abG,bA]
theorem UH{n:Int}:∀{l:List Int},l.Pairwise (λa b=>a<=b)->(wB n l).Pairwise (λa b=>a<=b)
 |[],_=>by simp[wB]
 |y::t,h=>by
  unfold wB;rw[eX]at h;split
  .rw[eX,eX];refine⟨λa c=>?_,h.1,h.2⟩;rcases bA.1 c with rfl|c
   .omega
   .have:=h.1 a c;omega
  .rw[eX];refine⟨λa c=>?_,UH h.2⟩;rcases VZ.1 c with rfl|c
   .omega
   .exact h.1 a c
theorem PU:∀(l:List Int),(CO l).Pairwise (λa b=>a<=b)
 |[]=>List.Pairwise.nil
 |y::t=>UH (PU t)
theorem aac{aN x:Int}:∀{rs:List R} {l:List Int},x∈rs.foldl (λl r=>if decide (aN<jC r)&& !(l.contains (jC r))then l++[jC r]else l) l↔x∈l\/∃r∈rs,aN<jC r/\jC r=x
 |[],l=>sZ
 |r::t,l=>by
  rw[List.foldl_cons,aac];by_cases h:aN<jC r
  .by_cases d:jC r∈l
   .have e:(decide (aN<jC r)&& !(l.contains (jC r)))=false:=by simp[d]
    rw[e];simp only[kC,if_false];constructor
    .rintro(a|⟨r',a,b⟩)
     .exact .inl a
     .exact .inr ⟨r',bG _ a,b⟩
    .rintro(a|⟨r',a,b,c⟩)
     .exact .inl a
     .rcases bA.1 a with rfl|a
      .exact .inl (c▸d)
      .exact .inr ⟨r',a,b,c⟩
   .have e:(decide (aN<jC r)&& !(l.contains (jC r)))=true:=by simp[d,h]
    rw[e];simp only[if_true,bY,List.mem_singleton];constructor
    .rintro((a|a)|⟨r',a,b⟩)
     .exact .inl a
     .exact .inr ⟨r,aZ ..,h,a.symm⟩
     .exact .inr ⟨r',bG _ a,b⟩
    .rintro(a|⟨r',a,b,c⟩)
     .exact .inl (.inl a)
     .rcases bA.1 a with rfl|a
      .exact .inl (.inr c.symm)
      .exact .inr ⟨r',a,b,c⟩
  .have e:(decide (aN<jC r)&& !(l.contains (jC r)))=false:=by simp[h]
   rw[e];simp only[kC,if_false];constructor
   .rintro(a|⟨r',a,b⟩)
    .exact .inl a
    .exact .inr ⟨r',bG _ a,b⟩
   .rintro(a|⟨r',a,b,c⟩)
    .exact .inl a
    .rcases bA.1 a with rfl|a
     .exact absurd b h
     .exact .inr ⟨r',a,b,c⟩
theorem zG{rs:List R}{aN x:Int}:x∈ends rs aN↔∃r∈rs,aN<jC r/\jC r=x:=by unfold ends tL;rw[abG,aac];simp
def mM(rs:List R)(aN:Int):List Int:=aN::ends rs aN
theorem OZ(rs:List R)(aN:Int):(mM rs aN).Pairwise (λa b=>a<=b):=by unfold mM;rw[eX];refine⟨λa c=>?_,PU _⟩;obtain⟨r,_,h,e⟩:=zG.1 c;omega
theorem aeR:∀(l:List Int) (n:Int),∃m∈n::l,∀x∈n::l,x<=m
 |[],n=>⟨n,aZ ..,λx a=>Int.le_of_eq (by simpa using a)⟩
 |y::t,n=>by
  obtain⟨m,c,b⟩:=aeR t n;by_cases h:m<=y
  .refine⟨y,sZ,λx a=>?_⟩;rcases bA.1 a with rfl|a
   .have:=b x (aZ ..);omega
   .rcases bA.1 a with rfl|a
    .omega
    .have:=b x (bG _ a);omega
  .refine⟨m,?_,λx a=>?_⟩
   .rcases bA.1 c with rfl|c
    .exact aZ ..
    .exact bG _ (bG _ c)
   .rcases bA.1 a with rfl|a
    .exact b x (aZ ..)
    .rcases bA.1 a with rfl|a
     .omega
     .exact b x (bG _ a)
theorem amB(rs:List R)(aN:Int):∃t∈mM rs aN,dD rs t=[]:=by obtain⟨m,b,a⟩:=aeR (ends rs aN) aN;refine⟨m,b,?_⟩;unfold dD;rw[kX];intro r c;simp only[fA];intro h;have n:=a aN (aZ ..);have:=a (jC r) (bG _ (zG.2 ⟨r,c,oZ,rfl⟩));omega
theorem PS{rs:List R}:∀{l:List Int},qL c rs p l=none->∀t∈l,dR c (dD rs t) p=none
 |[],_,t,a=>by cases a
 |x::l,h,t,a=>by
  unfold qL at h;cases b:dR c (dD rs x) p with
  |some v=>rw[b]at h;cases h
  |none=>
   rw[b]at h;rcases bA.1 a with rfl|a
   .exact b
   .exact PS h t a
theorem AP{rs:List R}{t:Int}:∀{l:List Int},qL c rs p l=some t->t∈l/\(dR c (dD rs t) p).isSome=true/\(l.Pairwise (λa b=>a<=b)->∀u∈l,u<t->dR c (dD rs u) p=none)
 |[],h=>by cases h
 |x::l,h=>by
  unfold qL at h;cases f:dR c (dD rs x) p with
  |some v=>
   rw[f]at h;cases h;refine⟨aZ ..,by rw[f];rfl,λg u e i=>?_⟩;rcases bA.1 e with rfl|e
   .omega
   .have:=(eX.1 g).1 u e;omega
  |none=>
   rw[f]at h;obtain⟨a,b,d⟩:=AP h;refine⟨bG _ a,b,λg u e i=>?_⟩;rcases bA.1 e with rfl|e
   .exact f
   .exact d (eX.1 g).2 u e i
theorem YH{rs:List R}{t:Int}:∀{l:List Int},l.Pairwise (λa b=>a<=b)->t∈l->(dR c (dD rs t) p).isSome=true->(∀u∈l,u<t->dR c (dD rs u) p=none)->qL c rs p l=some t
 |[],_,g,_,_=>by cases g
 |x::l,f,g,d,i=>by
  unfold qL;rw[eX]at f;by_cases e:x=t
  .subst e;cases k:dR c (dD rs x) p with
   |some v=>rfl
   |none=>rw[k]at d;cases d
  .have j:t∈l:=by
    rcases bA.1 g with h|h
    .exact absurd h.symm e
    .exact h
   have m:x<t:=by have:=f.1 t j;omega
   rw[i x (aZ ..) m];exact YH f.2 j d λu n=>i u (bG _ n)
theorem YG(h:never c p=false)(aN:Int)(rs:List R):(start c aN rs p).isSome=true:=by
 cases e:start c aN rs p with
 |some t=>rfl
 |none=>
  obtain⟨t,a,b⟩:=amB rs aN;have:=PS e t a;rw[b]at this;unfold never at h;rw[this]at h;cases h
theorem asr{aN:Int}{x:Rd}(m:∀r∈x.rs,Fair r.p):∃l,(look c aN x p).ev=x.ev++l:=by
 have k:=qF (c:=c) (aN:=aN) (p:=p) m;generalize look c aN x p=y at k;cases k with
 |run fl o b d=>exact⟨_,rfl⟩
 |wait b d=>exact⟨[],sZ⟩
 |give g fl o b d i j=>
  have e:∀(g:List Int) (q:List Ord.P×List E),∃l,(g.foldl (qI x.rs) q).2=q.2++l:=by
   intro g;induction g with
   |nil=>exactλq=>⟨[],sZ⟩
   |cons a t s=>
    intro q;obtain⟨l,f⟩:=s (qI x.rs q a);have:∃l',(qI x.rs q a).2=q.2++l':=by
     unfold qI;split
     .exact⟨_,rfl⟩
     .exact⟨[],sZ⟩
    obtain⟨l',n⟩:=this;exact⟨l'++l,by rw[List.foldl_cons,f,n,bP]⟩
  obtain⟨l,f⟩:=e g (x.ps,x.ev);refine⟨l++[⟨1,p.id,fl⟩],?_⟩;show(lM x g).ev++[⟨1,p.id,fl⟩]=_;have:(lM x g).ev=x.ev++l:=f;rw[this,bP]
 |first t b d i j=>exact⟨_,rfl⟩
 |none b d i j=>exact⟨[],sZ⟩
theorem QC(d:xP s):∀(l:List Ord.P) (x:Rd),Mid s x l->∃t,(rounds s.c s.aN x l).ev=x.ev++t
 |[],x,m=>⟨[],by simp[rounds]⟩
 |p::l,x,m=>by obtain⟨a,e⟩:=asr (c:=s.c) (aN:=s.aN) (p:=p) (m.rG d);obtain⟨b,f⟩:=QC d l _ (m.step d);exact⟨a++b,by show(rounds s.c s.aN (look s.c s.aN x p) l).ev=_;rw[f,e,bP]⟩
end Top
variable{ev:List Top.E}{Z:List Top.R}{n:Nat}
namespace Top
open Go.Proofs.YtedmeglbjmdlhaaGreatDoor Quo
theorem ata(rs:List R)(aN v:Int)(hv:aN<=v):∃u∈mM rs aN,u<=v/\dD rs u=dD rs v:=by
 obtain⟨m,a,b⟩:=aeR ((ends rs aN).filter λx=>decide (x<=v)) aN;have c:m∈mM rs aN/\m<=v:=by
  rcases bA.1 a with rfl|a
  .exact⟨aZ ..,hv⟩
  .rw[fT]at a;exact⟨bG _ a.1,by simpa using a.2⟩
 refine⟨m,c.1,c.2,?_⟩;unfold dD;apply List.filter_congr;intro r d;have n:=b aN (aZ ..);by_cases h:v<jC r
 .have:m<jC r:=by omega
  simp[h,this]
 .have:¬m<jC r:=λe=>by have:=b (jC r) (bG _ (fT.2 ⟨zG.2 ⟨r,d,oZ,rfl⟩,by simp;omega⟩));omega
  simp[h,this]
theorem afT(a b:List R)(t:Int):dD (a++b) t=dD a t++dD b t:=by unfold dD;rw[fO]
theorem aib{b:List R}{t:Int}(h:∀r∈b,jC r<=t):dD b t=[]:=by unfold dD;rw[kX];intro r a;have:=h r a;simp;omega
theorem agw(j:Cfg.ok c=true){rs:List R}(w:Fair p)(m:∀r∈rs++Z,Fair r.p)(o:(rs++Z).length<=64){aN t:Int}(h:start c aN rs p=some t)(l:∀b∈Z,jC b<=t):start c aN (rs++Z) p=some t:=by
 obtain⟨f,k,g⟩:=AP h;have g:=g (OZ rs aN);refine YH (OZ (rs++Z) aN) ?_ ?_ ?_
 .rcases bA.1 f with rfl|f
  .exact aZ ..
  .obtain⟨r,d,a,b⟩:=zG.1 f;exact bG _ (zG.2 ⟨r,cO _ d,a,b⟩)
 .rw[afT,aib l,fC];exact k
 .intro u i z;have s:aN<=u:=by
   rcases bA.1 i with rfl|i
   .exact gN _
   .obtain⟨r,d,a,b⟩:=zG.1 i;omega
  obtain⟨v,v1,v2,y⟩:=ata rs aN u s;have n:=g v v1 oZ;rw[y]at n;cases e:dR c (dD (rs++Z) u) p with
  |none=>rfl
  |some x=>
   have sub:(dD rs u).Sublist (dD (rs++Z) u):=by rw[afT];exact List.sublist_append_left ..
   have:=WH j (LC j) sub (λr d=>m r ((RN _ _).subset d)) (aV (RN _ _).length_le o) w (by rw[e];rfl);rw[n]at this;cases this
def lV(ev:List E):Option E:=ev.find? λe=>e.kind==4
theorem DL{e:E}(a:e.kind≠4):lV (ev++[e])=lV ev:=by
 unfold lV;rw[List.find?_append];have:([e].find? λe=>e.kind==4)=none:=by simp[a]
 rw[this];simp
theorem ZH{e:E}(h:lV ev=none)(a:e.kind=4):lV (ev++[e])=some e:=by unfold lV at*;rw[List.find?_append,h];simp[a]
structure Way (s:S) (x:Rd) (q l:List Ord.P):Prop where
 perm:x.ps.Perm (q++l)
 sub:(q++l).Sublist (row s)
 none:x.head=false->q=[]/\lV x.ev=Option.none
 rest:x.head=true->∃(H:Ord.P) (q':List Ord.P) (rs bs:List R),q=H::q'/\x.rs=rs++bs/\start s.c s.aN rs H=some x.start/\dR s.c rs H=Option.none/\(∀b∈bs,jC b<=x.start)/\lV x.ev=some ⟨4,H.id,x.start⟩/\
  ∀p∈q',(∃rs0:List R,rs0.Sublist x.rs/\dR s.c rs0 p=Option.none)\/sS s.aN p x.start=false
theorem anq(b:xP s){x:Rd}{l:List Ord.P}(m:Mid s x l){e:E}(a:e∈x.ev):e∈(rounds s.c s.aN x l).ev:=by obtain⟨t,c⟩:=QC b l x m;rw[c];exact cO _ a
theorem ahR(b:xP s){x:Rd}{l:List Ord.P}(m:Mid s x l){g:List Int}(d:dR s.c x.rs p=none)(f:choose s.c x.rs p=some g):∃e∈(lM x g).ev,e.kind=2:=by
 obtain⟨v,u,w⟩:=m.dB b;have j:=m.rG b;have cs:=choose_spec j f d;have o:∀id∈g,id∈dB x.rs:=λid n=>by obtain⟨r,r1,r2,_⟩:=cs.1.of id n;exact bL.2 ⟨r,r1,r2⟩
 have c:=wC u g x.ps x.ev cs.1.nodup o;have i:(lM x g).ev=x.ev++g.map (λid=>⟨2,id,0⟩):=c.2.2.2;rw[i];cases k:g with
 |nil=>exact absurd k cs.2.2.1
 |cons a t=>exact⟨⟨2,a,0⟩,sZ,rfl⟩
theorem Way.step(h:Good n s){x:Rd}{q l:List Ord.P}(m:Mid s x (p::l))(w:Way s x q (p::l))(J:∀e∈(look s.c s.aN x p).ev,e.kind≠2):∃k,Way s (look s.c s.aN x p) k l:=by
 have F:=h.sane;obtain⟨T,Z,aa⟩:=m.dB F;obtain⟨N,O⟩:=m.left p (aZ ..);have Y:=h.kR p (cO _ O);have K:=qF (c:=s.c) (aN:=s.aN) (p:=p) (m.rG F);generalize look s.c s.aN x p=y at K J;have W:∀{ps:List Ord.P},ps.Perm (q++p::l)->ps.Perm ((q++[p])++l):=λh=>by simpa using h
 cases K with
 |run fl I i d=>
  refine⟨q,?_,?_,λe=>⟨(w.none e).1,(DL (by show(1:Int)≠4;decide)).trans (w.none e).2⟩,λe=>?_⟩
  .have a:=(EG N T).symm.trans w.perm;exact(a.trans List.perm_middle).cons_inv
  .exact((List.sublist_cons_self p l).append_left q).trans w.sub
  .obtain⟨H,k,rs,v,a0,a1,a2,a3,a4,u,a6⟩:=w.rest e;have r:=d e;unfold sS at r;refine⟨H,k,rs,v++[⟨p,s.aN,fl,I⟩],a0,by simp[a1],a2,a3,λb j=>?_,(DL (by show(1:Int)≠4;decide)).trans u,λz f=>?_⟩
   .rcases bY.1 j with j|j
    .exact a4 b j
    .have:b=⟨p,s.aN,fl,I⟩:=by simpa using j
     subst this;exact of_decide_eq_true r
   .rcases a6 z f with⟨X,b1,b2⟩|b
    .exact .inl ⟨X,b1.trans (List.sublist_append_left ..),b2⟩
    .exact .inr b
 |wait i d=>
  refine⟨q++[p],W w.perm,by simpa using w.sub,λe=>(by rw[i]at e;cases e),λe=>?_⟩;obtain⟨H,k,rs,v,a0,a1,a2,a3,a4,u,a6⟩:=w.rest e;refine⟨H,k++[p],rs,v,by simp[a0],a1,a2,a3,a4,u,λz f=>?_⟩;rcases bY.1 f with f|f
  .exact a6 z f
  .have:z=p:=by simpa using f
   subst this;rcases d with d|d
   .exact .inl ⟨x.rs,lN _,d⟩
   .exact .inr d
 |give g fl I i d A o=>
  obtain⟨e,L,M⟩:=ahR F m d A;exact absurd M (J e (cO _ L))
 |first t i d A o=>
  have Q:=(w.none i).1;subst Q;refine⟨[p],by simpa using w.perm,by simpa using w.sub,λe=>(by cases e),λ_=>?_⟩;exact⟨p,[],x.rs,[],rfl,sZ,o,d,λb r=>(by cases r),ZH (w.none i).2 rfl,λz f=>(by cases f)⟩
 |none i d A o=>
  have:=YG Y.may s.aN x.rs;rw[o]at this;cases this
theorem Way.all(h:Good n s):∀(l:List Ord.P) (x:Rd) (q:List Ord.P),Mid s x l->Way s x q l->(∀e∈(rounds s.c s.aN x l).ev,e.kind≠2)->∃a,Way s (rounds s.c s.aN x l) a []
 |[],x,q,_,w,_=>⟨q,w⟩
 |p::l,x,q,m,w,b=>by have c:=m.step h.sane;obtain⟨a,w'⟩:=w.step h m (λe d=>b e (anq h.sane c d));exact Way.all h l _ a c w' b
theorem arH(h:Good n s)(a:∀e∈(run s).2,e.kind≠2):∃q,Way s (lT s) q []:=
 Way.all h _ _ [] (Mid.start h.sane) ⟨by simpa using(uU s).symm,sZ,λ_=>⟨rfl,rfl⟩,λe=>(by cases e)⟩ a
theorem YP(s:S):(row s).Pairwise (λx y=>Ord.cmp s.c s.h s.aN x y<=0):=(yR (yC s.c s.h s.aN) s.ps [] List.Pairwise.nil).1
theorem abE{f:Ord.P->Ord.P->Int}(k:jE f)(l:∀a b,f a b=0->a.seq=b.seq):∀(a b:List Ord.P),a.Perm b->(a.map (·.seq)).Nodup->a.Pairwise (λx y=>f x y<=0)->b.Pairwise (λx y=>f x y<=0)->a=b
 |[],b,h,_,_,_=>(List.nil_perm.1 h).symm
 |x::a,[],h,_,_,_=>by have:=h.length_eq;simp at this
 |x::a,y::b,h,d,i,j=>by
  have e:x=y:=by
   have g:x∈y::b:=h.mem_iff.1 (aZ ..);have c:y∈x::a:=h.mem_iff.2 (aZ ..);rcases bA.1 g with e|g
   .exact e
   .rcases bA.1 c with e|c
    .exact e.symm
    .have c1:=(eX.1 i).1 y c;have c2:=(eX.1 j).1 x g;have m:=k.neg x y;have:=l x y oZ;rw[cZ,fQ]at d;exact absurd (bL.2 ⟨y,c,this.symm⟩) d.1
  subst e;rw[cZ,fQ]at d;rw[abE k l a b h.cons_inv d.2 (eX.1 i).2 (eX.1 j).2]
theorem aru(h:Good n s){q:List Ord.P}(w:Way s (lT s) q []):row (run s).1=q:=by
 have g:(lT s).ps.Perm q:=by simpa using w.perm
 have f:q.Sublist (row s):=by simpa using w.sub
 have e:(run s).1.ps=(lT s).ps:=rfl;have d:(row (run s).1).Perm q:=(uU _).trans (by rw[e];exact g);refine abE (yC s.c s.h s.aN) (λa b e=>ahY e) _ _ d ?_ (YP (run s).1) ((YP s).sublist f);refine(d.map (·.seq)).nodup_iff.2 ?_;have c:=h.nos;rw[dO,iW]at c;exact(((uU s).map (·.seq)).nodup_iff.2 c.1).sublist (f.map _)
theorem still(h:Good n s)(i:Cfg.ok s.c=true){l2:List Ord.P}:∀(l:List Ord.P) (x:Rd),Mid s x l->x.head=true->(∀p∈l,(∃j:List R,j.Sublist x.rs/\dR s.c j p=none)\/sS s.aN p x.start=false)->rounds s.c s.aN x l=x
 |[],x,_,_,_=>rfl
 |p::l,x,m,d,u=>by
  have v:=h.sane;have r:=m.rG v;have I:=(m.left p (aZ ..)).2;have H:=(h.kR p (cO _ I)).rG;have F:x.rs.length<=64:=by have:=m.perm.length_eq;simp only[aW,gs,bN]at this;have:=h.len;omega
  have e:look s.c s.aN x p=x:=by
   have w:=qF (c:=s.c) (aN:=s.aN) (p:=p) r;generalize look s.c s.aN x p=y at w;cases w with
   |run fl J a f=>
    rcases u p (aZ ..)with⟨j,b1,b2⟩|b
    .have:=WH i (LC i) b1 r F H (by rw[a];rfl);rw[b2]at this;cases this
    .rw[f d]at b;cases b
   |wait a f=>rfl
   |give g fl J a f k o=>rw[a]at d;cases d
   |first t a f k o=>rw[a]at d;cases d
   |none a f k o=>rw[a]at d;cases d
  have A:=m.step v;rw[e]at A;show rounds s.c s.aN (look s.c s.aN x p) l=x;rw[e];exact still (l2:=l2) h i l x A d λz K=>u z (bG _ K)
theorem quiet(h:Good n s)(ae:∀e∈(run s).2,e.kind≠2)(M:∀e∈(run (run s).1).2,e.kind≠2):(∀e∈(run (run s).1).2,e.kind≠1)/\lV (run (run s).1).2=lV (run s).2:=by
 obtain⟨q,w⟩:=arH h ae;have f:=aru h w;have a:=h.run;obtain⟨s2,k⟩:=nZ ((run s).1);have v:s2.c=s.c:=by rw[<-k];rfl
 have K:s2.aN=s.aN:=by rw[<-k];rfl
 have aj:s2.ps=(lT s).ps:=by rw[<-k];rfl
 have j:s2.rs=(lT s).rs:=by rw[<-k];rfl
 have L:(run s).2=(lT s).ev:=rfl;rw[k]at f M a⊢;cases Q:(lT s).head with
 |false=>
  obtain⟨e1,e2⟩:=w.none Q;rw[e1]at f;have e3:(run s2).2=[]:=by unfold run lT;rw[f];rfl
  rw[e3,L,e2];exact⟨λe d=>(by cases d),rfl⟩
 |true=>
  obtain⟨H,Y,rs,A,a0,a1,a2,a3,a4,aa,a6⟩:=w.rest Q;rw[a0]at f;have m:=Mid.start a.sane;rw[f]at m;have F:=(m.left H (aZ ..)).2;have Z:=a.kR H (cO _ F);have x:Cfg.ok s2.c=true:=by
   rcases a.cfg with e|e
   .rw[(a.none e).1]at F;cases F
   .exact e
  have T:(rs++A).length<=64:=by rw[<-a1,<-j];have:=a.len;omega
  have O:∀r∈rs++A,Fair r.p:=by rw[<-a1,<-j];exact a.rG
  have st:start s2.c s2.aN s2.rs H=some (lT s).start:=by rw[j,a1,v,K];exact agw (v▸x) Z.rG O T a2 a4
  have u:lT s2=rounds s2.c s2.aN (look s2.c s2.aN ⟨s2.ps,s2.rs,[],false,0⟩ H) Y:=by unfold lT;rw[f];rfl
  have J:=m.step a.sane;have N:∀e∈(look s2.c s2.aN ⟨s2.ps,s2.rs,[],false,0⟩ H).ev,e.kind≠2:=λe d=>M e (by show e∈(lT s2).ev;rw[u];exact anq a.sane J d);have ad:look s2.c s2.aN ⟨s2.ps,s2.rs,[],false,0⟩ H=⟨s2.ps,s2.rs,[⟨4,H.id,(lT s).start⟩],true,(lT s).start⟩:=by
   have X:=qF (c:=s2.c) (aN:=s2.aN) (p:=H) (m.rG a.sane);generalize look s2.c s2.aN ⟨s2.ps,s2.rs,[],false,0⟩ H=y at X N;cases X with
   |run fl W i l=>
    have ah:dR s2.c s2.rs H=some (fl,W):=i;have:=WH x (LC x) (rs:=rs) (rs':=rs++A) (List.sublist_append_left ..) O T Z.rG (by rw[<-a1,<-j,ah];rfl);rw[v,a3]at this;cases this
   |wait i l=>cases i
   |give g fl W i l I z=>
    obtain⟨e,d,af⟩:=ahR a.sane m l I;exact absurd af (N e (cO _ d))
   |first t i l I z=>
    have o:start s2.c s2.aN s2.rs H=some t:=z;rw[st]at o;cases o;rfl
   |none i l I z=>
    have o:start s2.c s2.aN s2.rs H=none:=z;rw[st]at o;cases o
  rw[ad]at u J;have ab:=still (l2:=[]) a x Y _ J rfl (λp ag=>by
   rcases a6 p ag with⟨ai,b1,b2⟩|b
   .exact .inl ⟨ai,by rw[j];exact b1,by rw[v];exact b2⟩
   .exact .inr (by rw[K];exact b))
  rw[ab]at u;have e3:(run s2).2=[⟨4,H.id,(lT s).start⟩]:=by show(lT s2).ev=_;rw[u]
  rw[e3,L,aa];refine⟨λe d=>?_,rfl⟩;have:e=⟨4,H.id,(lT s).start⟩:=by simpa using d
  subst this;show(4:Int)≠1;decide
end Top
end Go.Proofs.YtedmeglbjmdlhaaGreatDoor
