/-
Parts that the laws of the whole program share: contracts of its functions, and plain laws.
-/
import Derived.Test.YtedmeglbjmdlhaaGreatDoorG0
set_option maxRecDepth 100000
set_option maxHeartbeats 16000000
set_option linter.all false
namespace Go.Proofs.YtedmeglbjmdlhaaGreatDoor
open Go
open Cfg Crc Dec Dsk Dv Fix Jou Led Ord Quo Tree Vec sK
variable{n:Nat}
namespace Fix
def top:Nat:=18446744073709551615
def one:Nat:=4294967296
def add(a b:Nat):Nat:=if a+b<=top then a+b else top
def cut(n:Nat):Nat:=if n<=top then n else top
def mul(a b:Nat):Nat:=cut (a*b/one)
def quo(a b:Nat):Nat:=if a=0 then 0 else if b=0 then top else cut (a*one/b)
def ofInt(n:Int):Nat:=if n<=0 then 0 else if(one:Int)<=n then top else n.toNat*one
def qR(a b:Int):Nat:=quo a.toNat b.toNat
theorem add_lt(a b:Nat):add a b<=top:=by unfold add;split<;>omega
theorem anB(n:Nat):cut n<=top:=by unfold cut;split<;>omega
theorem mul_lt(a b:Nat):mul a b<=top:=anB _
theorem atJ(a b:Nat):quo a b<=top:=by
 unfold quo;split
 .omega
 .split
  .omega
  .exact anB _
theorem MI(n:Int):ofInt n<=top:=by
 unfold ofInt;split
 .exact bK _
 .split
  .exact bI _
  .simp only[one,top]at*;omega
theorem zX(h:n<=top):cut n=n:=aG h
theorem LB(h:top<n):cut n=top:=aD oZ
theorem mul_one(a:Nat)(h:a<=top):mul a one=a:=by unfold mul;rw[Nat.mul_div_cancel _ (by decide:0<one)];exact zX h
theorem mul_comm(a b:Nat):mul a b=mul b a:=by unfold mul;rw[eD]
theorem one_mul(a:Nat)(h:a<=top):mul one a=a:=by rw[mul_comm];exact mul_one a h
theorem add_comm(a b:Nat):add a b=add b a:=by unfold add;rw[jJ]
def pre(a k:Nat):Nat:=a*one/2 ^ (96-k)
end Fix
namespace Vec
structure V where
 x:Int
 y:Int
 z:Int
theorem V.ext'{a b:V}(c:a.x=b.x)(d:a.y=b.y)(e:a.z=b.z):a=b:=by cases a;cases b;simp_all
def cut(n m:Int):Int:=min (max n (-m)) m
def add1(x y:Int):Int:=cut (cut x 1099511627776+cut y 1099511627776) 1099511627776
def nA(x y:Int):Int:=cut (cut x 1099511627776-cut y 1099511627776) 1099511627776
def vN(x n:Int):Int:=cut (cut x 1099511627776*cut n 1048576) 1099511627776
def ok1(x:Int):Bool:=decide (0<=x)&&decide (x<=1048576)
def zero:V:=⟨0,0,0⟩
def add(a b:V):V:=⟨add1 a.x b.x,add1 a.y b.y,add1 a.z b.z⟩
def sub(a b:V):V:=⟨nA a.x b.x,nA a.y b.y,nA a.z b.z⟩
def mM(a:V)(n:Int):V:=⟨vN a.x n,vN a.y n,vN a.z n⟩
def iJ(a:V):Bool:=ok1 a.x&&(ok1 a.y&&ok1 a.z)
def dR(a b:V):Bool:=decide (a.x<=b.x)&&(decide (a.y<=b.y)&&decide (a.z<=b.z))
def GL(m:Nat)(u k:Int):Nat:=if 0<u then max m (qR u k)else m
def dom(u a:V):Nat:=GL (GL (GL 0 u.x a.x) u.y a.y) u.z a.z
theorem pR(n m:Int)(h:0<=m): -m<=cut n m:=by unfold cut;omega
theorem pU(n m:Int)(h:0<=m):cut n m<=m:=by unfold cut;omega
theorem tO(n m:Int)(a: -m<=n)(b:n<=m):cut n m=n:=by unfold cut;omega
theorem ash(x:Int):ok1 x=true↔0<=x/\x<=1048576:=by unfold ok1;simp
theorem jX(a:V):iJ a=true↔(0<=a.x/\a.x<=1048576)/\(0<=a.y/\a.y<=1048576)/\(0<=a.z/\a.z<=1048576):=by unfold iJ;simp only[Bool.and_eq_true,ash]
theorem oK(a b:V):dR a b=true↔a.x<=b.x/\a.y<=b.y/\a.z<=b.z:=by unfold dR;simp only[Bool.and_eq_true,fA]
theorem kQ(x y:Int)(a:0<=x)(b:x<=274877906944)(c:0<=y)(d:y<=274877906944):add1 x y=x+y:=by unfold add1;rw[tO x _ oZ oZ,tO y _ oZ oZ,tO _ _ oZ oZ]
theorem xW(x y:Int)(a:0<=x)(b:x<=549755813888)(c:0<=y)(d:y<=549755813888):nA x y=x-y:=by unfold nA;rw[tO x _ oZ oZ,tO y _ oZ oZ,tO _ _ oZ oZ]
theorem abf(m:Nat)(u k:Int)(h:m<=Fix.top):GL m u k<=Fix.top:=by
 unfold GL;split
 .have:qR u k<=Fix.top:=atJ _ _;omega
 .exact h
theorem auB(u a:V):dom u a<=Fix.top:=abf _ _ _ (abf _ _ _ (abf _ _ _ (bK _)))
end Vec
variable{i k:Nat}
namespace Cfg
open Go.Proofs.YtedmeglbjmdlhaaGreatDoor
structure kL where
 parent:Int
 jH:Int
 dQ:Vec.V
 borrow:Vec.V
 lend:Vec.V
structure gW where
 flavor:Int
 block:Int
 AQ:Int
 cap:Vec.V
structure C where
 aP:List kL
 aQ:List gW
 aI:Int
 aK:Int
instance:Inhabited kL:=⟨⟨0,0,Vec.zero,Vec.zero,Vec.zero⟩⟩
instance:Inhabited gW:=⟨⟨0,0,0,Vec.zero⟩⟩
def iC(c:C)(n:Int):Bool:=decide (0<=n)&&decide (n<(c.aP.length:Int))&&c.aP.all (λx=>x.parent !=n)
def iG(c:C):List Nat:=(List.range c.aP.length).filter λi=>iC c (i:Int)
def oV(c:C):Vec.V:=c.aQ.foldl (λv h=>Vec.add v h.cap) Vec.zero
def fF(n lo hi:Int):Bool:=decide (lo<=n)&&decide (n<=hi)
def qW(v:Vec.V):Bool:=v.x==0&&(v.y==0&&v.z==0)
def VO(i:Nat)(p:Int):Bool:=if i=0 then p== -1 else fF p 0 ((i:Int)-1)
def wN(c:C)(i:Nat)(n:kL):Bool:=VO i n.parent&&fF n.jH 1 1000&&(if iC c (i:Int)then iJ n.dQ&&(iJ n.borrow&&(iJ n.lend&&Vec.dR n.lend n.dQ))else qW n.dQ&&(qW n.borrow&&qW n.lend))
def vP(h:gW):Bool:=fF h.flavor 0 100&&(fF h.block 0 100&&(fF h.AQ 0 100&&iJ h.cap))
def nU(c:C)(k:Nat):Bool:=(List.range k).all λi=>wN c i (c.aP.getD i default)
def nV(c:C)(k:Nat):Bool:=(List.range k).all λi=>vP (c.aQ.getD i default)
def xX(c:C):Bool:=fF (c.aP.length:Int) 1 12&&(fF (c.aQ.length:Int) 1 24&&(fF c.aI 1 1048576&&fF c.aK 0 1048576))
def ok(c:C):Bool:=xX c&&(nU c c.aP.length&&nV c c.aQ.length)
def check(c:C):Int:=if ok c then 0 else 2
theorem uY(n lo hi:Int):fF n lo hi=true↔lo<=n/\n<=hi:=by unfold fF;simp
theorem aeN(c:C)(k:Nat):nU c (k+1)=(nU c k&&wN c k (c.aP.getD k default)):=by unfold nU;rw[List.range_succ];simp
theorem afj(c:C)(k:Nat):nV c (k+1)=(nV c k&&vP (c.aQ.getD k default)):=by unfold nV;rw[List.range_succ];simp
theorem AU{c:C}(h:nU c n=true)(hi:i<n):wN c i (c.aP.getD i default)=true:=by unfold nU at h;rw[gT]at h;exact h i (by simpa using hi)
theorem EU{c:C}(h:nV c n=true)(hi:i<n):vP (c.aQ.getD i default)=true:=by unfold nV at h;rw[gT]at h;exact h i (by simpa using hi)
theorem ajp{c:C}(h:nU c n=true)(a:k<=n):nU c k=true:=by unfold nU at*;rw[gT]at*;intro i hi;exact h i (by simp at hi⊢;omega)
theorem zF(c:C)(n:Int):iC c n=true↔0<=n/\n<(c.aP.length:Int)/\∀x∈c.aP,x.parent≠n:=by unfold iC;simp[and_assoc]
theorem FX{c:C}(h:ok c=true):nU c c.aP.length=true:=by unfold ok at h;simp only[Bool.and_eq_true]at h;exact h.2.1
theorem MH{c:C}(h:ok c=true):nV c c.aQ.length=true:=by unfold ok at h;simp only[Bool.and_eq_true]at h;exact h.2.2
theorem rE{c:C}(h:ok c=true):(1<=c.aP.length/\c.aP.length<=12)/\(1<=c.aQ.length/\c.aQ.length<=24)/\(1<=c.aI/\c.aI<=1048576)/\(0<=c.aK/\c.aK<=1048576):=by unfold ok xX at h;simp only[Bool.and_eq_true,uY]at h;omega
def qE(a b:Vec.V):Bool:=a.x==b.x&&(a.y==b.y&&a.z==b.z)
def CP(a b:kL):Bool:=a.parent==b.parent&&(a.jH==b.jH&&(qE a.dQ b.dQ&&(qE a.borrow b.borrow&&qE a.lend b.lend)))
end Cfg
variable{c:Cfg.C}
namespace Tree
open Go.Proofs.YtedmeglbjmdlhaaGreatDoor
def par(c:Cfg.C)(n:Nat):Int:=(c.aP.getD n default).parent
def upF(c:Cfg.C):Nat->Int->List Nat
 |0,_=>[]
 |f+1,n=>if 0<=n/\n<(c.aP.length:Int)then n.toNat::(if n<=par c n.toNat then[]else upF c f (par c n.toNat))else[]
def up(c:Cfg.C)(n:Int):List Nat:=upF c (n.toNat+1) n
def path(c:Cfg.C)(n:Int):List Nat:=(up c n).reverse
def on(c:Cfg.C)(n:Int)(t:Nat):Bool:=(up c (t:Int)).any λx=>(x:Int)==n
def below(c:Cfg.C)(n:Int):List Nat:=(iG c).filter λt=>on c n t
def dD(l:List Vec.V)(n:Int):Vec.V:=if 0<=n/\n<(l.length:Int)then l.getD n.toNat Vec.zero else Vec.zero
def sum(c:Cfg.C)(n:Int)(l:List Vec.V):Vec.V:=(below c n).foldl (λv (t:Nat)=>Vec.add v (dD l (t:Int))) Vec.zero
theorem adO(c:Cfg.C):∀(f g:Nat) (n:Int),n.toNat<f->n.toNat<g->upF c f n=upF c g n
 |0,_,_,h,_=>oZ
 |_,0,_,_,h=>oZ
 |f+1,g+1,n,e,i=>by
  unfold upF;by_cases h:0<=n/\n<(c.aP.length:Int)
  .rw[aG h,aG h];by_cases a:n<=par c n.toNat
   .rw[aG a,aG a]
   .rw[aD a,aD a];by_cases d:par c n.toNat<0
    .have b:∀k,upF c k (par c n.toNat)=[]:=by
      intro k;cases k with
      |zero=>rfl
      |succ k=>unfold upF;rw[aD oZ]
     rw[b,b]
    .rw[adO c f g _ oZ oZ]
  .rw[aD h,aD h]
theorem OT(c:Cfg.C)(n:Int)(h:¬(0<=n/\n<(c.aP.length:Int))):up c n=[]:=by unfold up upF;rw[aD h]
theorem XR(c:Cfg.C)(n:Nat)(h:n<c.aP.length):up c (n:Int)=n::(if(n:Int)<=par c n then[]else up c (par c n)):=by
 show upF c (n+1) (n:Int)=_;rw[upF,aG oZ,Int.toNat_natCast];by_cases a:(n:Int)<=par c n
 .rw[aG a,aG a]
 .rw[aD a,aD a];by_cases b:par c n<0
  .rw[OT c _ oZ];cases n with
   |zero=>rfl
   |succ k=>unfold upF;rw[aD oZ]
  .unfold up;rw[adO c n ((par c n).toNat+1) (par c n) oZ oZ]
theorem adP(c:Cfg.C):∀(f:Nat) (n:Int),∀x∈upF c f n,x<c.aP.length/\(x:Int)<=n
 |0,_,x,h=>by simp[upF]at h
 |f+1,n,x,h=>by
  unfold upF at h;split at h
  .rename_i hn;rcases bA.1 h with rfl|h
   .omega
   .split at h
    .simp at h
    .rename_i hp;have:=adP c f _ x h;omega
  .simp at h
theorem XQ(c:Cfg.C)(n:Int):∀x∈up c n,x<c.aP.length/\(x:Int)<=n:=adP c _ n
theorem OV(c:Cfg.C):∀(f:Nat) (n:Int),(upF c f n).Pairwise (λa b=>b<a)
 |0,_=>List.Pairwise.nil
 |f+1,n=>by
  unfold upF;split
  .rename_i hn;refine List.Pairwise.cons ?_ ?_
   .intro b d;split at d
    .simp at d
    .rename_i hp;have:=adP c f _ b d;omega
   .split
    .exact List.Pairwise.nil
    .exact OV c f _
  .exact List.Pairwise.nil
theorem TK(c:Cfg.C)(n:Int):(up c n).Pairwise (λa b=>b<a):=OV c _ n
theorem adK(c:Cfg.C)(n:Int):(up c n).Nodup:=(TK c n).imp (λh=>oZ)
theorem XT(c:Cfg.C):∀(f:Nat) (n:Int),(upF c f n).length<=f
 |0,_=>bI _
 |f+1,n=>by
  unfold upF;split
  .rw[List.length_cons];split
   .simp
   .have:=XT c f (par c n.toNat);omega
  .simp
theorem zK(c:Cfg.C)(n:Int):(up c n).length<=c.aP.length:=by
 by_cases h:0<=n/\n<(c.aP.length:Int)
 .have:=XT c (n.toNat+1) n;unfold up;omega
 .rw[OT c n h];simp
theorem MP(c:Cfg.C)(t:Nat):t∈iG c↔iC c (t:Int)=true:=by
 unfold iG;rw[fT,jU];constructor
 .exactλh=>h.2
 .intro h;refine⟨?_,h⟩;rw[zF]at h;omega
theorem rF{t:Int}(h:iC c t=true):0<=t/\t<(c.aP.length:Int):=by rw[zF]at h;omega
end Tree
namespace Led
open Go.Proofs.YtedmeglbjmdlhaaGreatDoor
abbrev U:=Nat->Vec.V
def none_:U:=λ_=>Vec.zero
def bump(f:Vec.V->Vec.V)(u:U)(xs:List Nat):U:=λi=>if i∈xs then f (u i)else u i
def VU(c:Cfg.C)(u:U)(t:Int):Vec.V:=if iC c t then u t.toNat else Vec.zero
def change(c:Cfg.C)(u:U)(t:Int)(f:Vec.V->Vec.V):U:=if iC c t then bump f u (Tree.up c t)else u
def xL(c:Cfg.C)(t:Int):Int:=if iC c t then 0 else 3
def take(c:Cfg.C)(u:U)(t:Int)(v:Vec.V):U:=if iJ v then change c u t (λa=>Vec.add a v)else u
def KU(c:Cfg.C)(u:U)(t:Int)(v:Vec.V):Bool:=iJ v&&Vec.dR v (VU c u t)
def give(c:Cfg.C)(u:U)(t:Int)(v:Vec.V):U:=if KU c u t v then change c u t (λa=>Vec.sub a v)else u
def all(c:Cfg.C)(u:U):List Vec.V:=(List.range c.aP.length).map u
def dD(c:Cfg.C)(u:U)(n:Int):Vec.V:=if 0<=n/\n<(c.aP.length:Int)then u n.toNat else Vec.zero
theorem afO(f:Vec.V->Vec.V)(u:U):bump f u []=u:=by funext i;simp[bump]
end Led
variable{d:Int}
namespace Led
open Go.Proofs.YtedmeglbjmdlhaaGreatDoor
def iF(f:Nat->Int):List Nat->Int
 |[]=>0
 |x::xs=>f x+iF f xs
theorem kI(f:Nat->Int)(x:Nat)(xs:List Nat):iF f (x::xs)=f x+iF f xs:=rfl
theorem abA{f g:Nat->Int}:∀(l:List Nat),(∀x∈l,f x=g x)->iF f l=iF g l
 |[],_=>rfl
 |x::xs,h=>by unfold iF;rw[h x sZ,abA xs λy a=>h y (by simp[a])]
theorem BI{f g:Nat->Int}{t:Nat}:∀(l:List Nat),l.Nodup->(∀x∈l,x≠t->g x=f x)->g t=f t+d->iF g l=iF f l+(if t∈l then d else 0)
 |[],_,_,_=>by simp[iF]
 |x::xs,a,h,c=>by
  unfold iF;rw[fQ]at a;have k:=BI xs a.2 (λy j=>h y (by simp[j])) c;rw[k];by_cases b:x=t
  .subst b;rw[c];simp[a.1];omega
  .rw[h x sZ b];have:¬t=x:=λe=>b e.symm;by_cases i:t∈xs<;>simp[i,this]<;>omega
theorem aeV(c:Cfg.C):(iG c).Nodup:=List.Nodup.sublist mH List.nodup_range
theorem ade(c:Cfg.C):(iG c).length<=c.aP.length:=by have:=eF (λi:Nat=>iC c (i:Int)) (List.range c.aP.length);simpa[iG]using this
theorem wV(c:Cfg.C)(n:Int):(Tree.below c n).Nodup:=List.Nodup.sublist mH (aeV c)
theorem AX(c:Cfg.C)(n:Int):(Tree.below c n).length<=c.aP.length:=aV (eF _ _) (ade c)
theorem zY(c:Cfg.C)(n t:Nat):t∈Tree.below c (n:Int)↔iC c (t:Int)=true/\n∈Tree.up c (t:Int):=by
 unfold Tree.below Tree.on;rw[fT,MP,lY];constructor
 .rintro⟨a,x,e,d⟩;have:x=n:=by simp at d;omega
  exact⟨a,this▸e⟩
 .rintro⟨a,b⟩;exact⟨a,n,b,sZ⟩
end Led
variable{b need:Vec.V}
namespace Quo
open Go.Proofs.YtedmeglbjmdlhaaGreatDoor Led
def node(c:Cfg.C)(n:Nat):kL:=c.aP.getD n default
def iR(c:Cfg.C):List Vec.V:=c.aP.map (·.dQ)
def dQ(c:Cfg.C)(n:Int):Vec.V:=Tree.sum c n (iR c)
def pos(v:Vec.V):Vec.V:=⟨max v.x 0,max v.y 0,max v.z 0⟩
def own(c:Cfg.C)(used:List Vec.V)(s:Nat):Vec.V:=pos (Vec.sub (Vec.sub (node c s).dQ (node c s).lend) (Tree.dD used (s:Int)))
def bD(c:Cfg.C)(used:List Vec.V)(n t:Int):Vec.V:=((Tree.below c n).filter λ(s:Nat)=>(s:Int) !=t).foldl (λv s=>Vec.add v (own c used s)) Vec.zero
def DJ(c:Cfg.C)(used:List Vec.V)(need:Vec.V)(n:Nat):Bool:=Vec.dR (Vec.add (Tree.dD used (n:Int)) need) (Vec.add (node c n).dQ (node c n).borrow)
def KV(c:Cfg.C)(used:List Vec.V)(t:Int)(need:Vec.V)(n:Nat):Bool:=Vec.dR (Vec.add (Vec.add (Tree.sum c (n:Int) used) need) (bD c used (n:Int) t)) (dQ c (n:Int))
def vY(c:Cfg.C)(used:List Vec.V)(t:Int)(need:Vec.V)(n:Nat):Bool:=if(n:Int)=t then DJ c used need n else KV c used t need n
def may(c:Cfg.C)(used:List Vec.V)(t:Int)(need:Vec.V):Bool:=iC c t&&(Tree.up c t).all (vY c used t need)
def pK(c:Cfg.C)(used:List Vec.V)(t:Int)(need:Vec.V):Bool:=iC c t&&Vec.dR (Vec.add (Tree.dD used t) need) (node c t.toNat).dQ
def kP(c:Cfg.C)(used:List Vec.V)(t:Int):Bool:=iC c t&& !Vec.dR (Tree.dD used t) (node c t.toNat).dQ
def nR(f:Nat->Int)(l:List Nat)(a:Int):Int:=l.foldl (λa t=>Vec.add1 a (f t)) a
theorem abC(f:Nat->Int)(t:Nat)(l:List Nat)(a:Int):nR f (t::l) a=nR f l (Vec.add1 a (f t)):=rfl
theorem yA(f:Nat->Vec.V):∀(l:List Nat) (v:Vec.V),l.foldl (λv t=>Vec.add v (f t)) v=⟨nR (λt=>(f t).x) l v.x,nR (λt=>(f t).y) l v.y,nR (λt=>(f t).z) l v.z⟩
 |[],v=>rfl
 |t::l,v=>by rw[List.foldl_cons,yA f l];rfl
theorem RP{a b x y:Int}(h:a<=b)(k:x<=y):Vec.add1 a x<=Vec.add1 b y:=by unfold Vec.add1 Vec.cut;omega
theorem yF{a x:Int}(b:0<=a)(c:a<=1099511627776)(d:0<=x):a<=Vec.add1 a x:=by unfold Vec.add1 Vec.cut;omega
theorem ahp{a x:Int}(b:0<=a)(c:0<=x):0<=Vec.add1 a x:=by unfold Vec.add1 Vec.cut;omega
theorem CK{f:Nat->Int}:∀(l:List Nat) (a:Int),(∀t∈l,0<=f t)->0<=a->0<=nR f l a
 |[],a,_,h=>h
 |t::l,a,b,h=>CK l _ (λy c=>b y (by simp[c])) (ahp h (b t sZ))
theorem sF{f:Nat->Int}{k:Int}(d:0<=k):∀(l:List Nat) (a:Int),(∀t∈l,0<=f t/\f t<=k)->0<=a->a+(l.length:Int)*k<=100000000000->nR f l a=a+iF f l
 |[],a,_,_,_=>by simp[nR,iF]
 |t::l,a,c,i,b=>by
  rw[List.length_cons]at b;have e:((l.length+1:Nat):Int)*k=(l.length:Int)*k+k:=by rw[Int.natCast_add,Int.add_mul];simp
  rw[e]at b;have j:0<=(l.length:Int)*k:=iH oZ d;have m:=c t sZ;rw[abC,kQ _ _ oZ oZ oZ oZ,sF d l _ (λy g=>c y (by simp[g])) oZ oZ,kI];omega
theorem uK{f:Nat->Int}{k:Int}:∀(l:List Nat),(∀t∈l,0<=f t/\f t<=k)->0<=iF f l/\iF f l<=(l.length:Int)*k
 |[],_=>by simp[iF]
 |t::l,h=>by
  have:=h t sZ;have:=uK l (λy b=>h y (by simp[b]));rw[kI,List.length_cons];have a:((l.length+1:Nat):Int)*k=(l.length:Int)*k+k:=by rw[Int.natCast_add,Int.add_mul];simp
  rw[a];omega
def Le(a b:Vec.V):Prop:=a.x<=b.x/\a.y<=b.y/\a.z<=b.z
theorem xM{a x y:Vec.V}(h:Le a b)(k:Le x y):Le (Vec.add a x) (Vec.add b y):=⟨RP h.1 k.1,RP h.2.1 k.2.1,RP h.2.2 k.2.2⟩
theorem Le.refl(a:Vec.V):Le a a:=⟨gN _,gN _,gN _⟩
theorem zW{a c:Vec.V}(h:Le a b)(k:Vec.dR b c=true):Vec.dR a c=true:=by rw[oK]at*;unfold Le at h;omega
def less(need:Vec.V)(k:Nat):Vec.V:=if k=0 then{need with x:=need.x/2}else if k=1 then{need with y:=need.y/2}else{need with z:=need.z/2}
def agm(l:List Vec.V):Prop:=∀v∈l,iJ v=true
theorem aqH{l:List Vec.V}(h:agm l)(n:Int):iJ (Tree.dD l n)=true:=by
 unfold Tree.dD;split
 .rename_i hn;rw[aL,aH oZ];exact h _ (bB _)
 .decide
def aN(c:Cfg.C)(used:List Vec.V)(t:Int)(need:Vec.V):List Vec.V:=(List.range c.aP.length).map λ(i:Nat)=>if(i:Int)=t then Vec.add (Tree.dD used (i:Int)) need else Tree.dD used (i:Int)
theorem amr(c:Cfg.C)(used:List Vec.V)(t:Int)(need:Vec.V)(i:Nat)(h:i<c.aP.length):Tree.dD (aN c used t need) (i:Int)=if(i:Int)=t then Vec.add (Tree.dD used (i:Int)) need else Tree.dD used (i:Int):=by
 obtain⟨g,a⟩:∃g:Nat->Vec.V,g=λi:Nat=>if(i:Int)=t then Vec.add (Tree.dD used (i:Int)) need else Tree.dD used (i:Int):=⟨_,rfl⟩;have e:aN c used t need=(List.range c.aP.length).map g:=by rw[a];rfl
 have e2:g i=if(i:Int)=t then Vec.add (Tree.dD used (i:Int)) need else Tree.dD used (i:Int):=by rw[a]
 rw[e,<-e2];unfold Tree.dD;rw[bN,List.length_range,aG oZ];simp[aL,h]
theorem agR(c:Cfg.C)(used:List Vec.V)(n t:Int):0<=(bD c used n t).x/\0<=(bD c used n t).y/\0<=(bD c used n t).z:=by unfold bD;rw[yA];refine⟨CK _ _ (λs _=>?_) (gN _),CK _ _ (λs _=>?_) (gN _),CK _ _ (λs _=>?_) (gN _)⟩<;>(unfold own pos;simp only;omega)
theorem zL(c:Cfg.C)(n:Int)(l:List Vec.V):Tree.sum c n l=⟨nR (λt=>(Tree.dD l (t:Int)).x) (Tree.below c n) 0,nR (λt=>(Tree.dD l (t:Int)).y) (Tree.below c n) 0,nR (λt=>(Tree.dD l (t:Int)).z) (Tree.below c n) 0⟩:=by unfold Tree.sum;rw[yA];rfl
theorem GV{n:Int}{s:Nat}(h:s∈Tree.below c n):iC c (s:Int)=true/\s<c.aP.length:=by unfold Tree.below at h;rw[fT,MP]at h;have:=rF h.1;exact⟨h.1,oZ⟩
theorem PL{f g:Nat->Int}{l:List Nat}{t:Nat}(u:l.length<=12)(j:l.Nodup)(i:t∈l)(b:∀s∈l,0<=f s/\f s<=1048576)(p:0<=d/\d<=1048576)(c:∀s∈l,s≠t->g s=f s)(m:g t=f t+d):nR g l 0=Vec.add1 (nR f l 0) d/\0<=nR g l 0/\nR g l 0<=1099511627776:=by
 have o:(l.length:Int)*1048576<=12582912:=oZ;have n:=uK l b;have e1:nR f l 0=iF f l:=by rw[sF (k:=1048576) oZ l 0 b oZ oZ];omega
 have e:∀s∈l,0<=g s/\g s<=2097152:=by
  intro s a;by_cases h:s=t
  .subst h;have:=b s a;omega
  .have:=b s a;rw[c s a h];omega
 have r:=uK l e;have e2:nR g l 0=iF g l:=by rw[sF (k:=2097152) oZ l 0 e oZ oZ];omega
 have e3:=BI (f:=f) (g:=λs=>if s=t then g t else f s) (t:=t) (d:=d) l j (λs _ h=>by simp[h]) (by simp[m]);have e4:iF g l=iF (λs=>if s=t then g t else f s) l:=abA l (λs a=>by
  by_cases h:s=t
  .simp[h]
  .simp[h,c s a h])
 rw[aG i]at e3;rw[e2,e1,e4,e3,kQ _ _ oZ oZ oZ oZ];omega
theorem safe{used:List Vec.V}{t:Int}(y:c.aP.length<=12)(F:agm used)(hv:iJ need=true)(h:may c used t need=true):(∀n∈Tree.up c t,(n:Int)≠t->Vec.dR (Tree.sum c (n:Int) (aN c used t need)) (dQ c (n:Int))=true)/\Vec.dR (Vec.add (Tree.dD used t) need) (Vec.add (node c t.toNat).dQ (node c t.toNat).borrow)=true:=by
 unfold may at h;simp only[Bool.and_eq_true,gT]at h;obtain⟨v,h⟩:=h;have H:=rF v;have i:((t.toNat:Nat):Int)=t:=oZ;have z:t.toNat∈Tree.up c t:=by have:=XR c t.toNat oZ;rw[i]at this;rw[this];simp
 constructor
 .intro n w A;have a:=h n w;unfold vY at a;rw[aD A]at a;refine zW ?_ a;have m:t.toNat∈Tree.below c (n:Int):=by rw[zY,i];exact⟨v,w⟩
  have p:=aV (AX c (n:Int)) y;have r:=wV c (n:Int);have o:=agR c used (n:Int) t;have l:∀s:Nat,(0<=(Tree.dD used (s:Int)).x/\(Tree.dD used (s:Int)).x<=1048576)/\(0<=(Tree.dD used (s:Int)).y/\(Tree.dD used (s:Int)).y<=1048576)/\(0<=(Tree.dD used (s:Int)).z/\(Tree.dD used (s:Int)).z<=1048576):=λs=>by have:=aqH F (s:Int);rwa [jX]at this
  have k:=hv;rw[jX]at k;have u:∀s∈Tree.below c (n:Int),s≠t.toNat->Tree.dD (aN c used t need) (s:Int)=Tree.dD used (s:Int):=λs b e=>by rw[amr c used t need s (GV b).2,aD oZ]
  have j:Tree.dD (aN c used t need) ((t.toNat:Nat):Int)=Vec.add (Tree.dD used ((t.toNat:Nat):Int)) need:=by rw[amr c used t need t.toNat oZ,aG i]
  have I:=l t.toNat;have x:(Vec.add (Tree.dD used ((t.toNat:Nat):Int)) need)=⟨(Tree.dD used ((t.toNat:Nat):Int)).x+need.x,(Tree.dD used ((t.toNat:Nat):Int)).y+need.y,(Tree.dD used ((t.toNat:Nat):Int)).z+need.z⟩:=by unfold Vec.add;rw[kQ _ _ oZ oZ oZ oZ,kQ _ _ oZ oZ oZ oZ,kQ _ _ oZ oZ oZ oZ]
  rw[x]at j;have s1:=PL (f:=λs=>(Tree.dD used (s:Int)).x) (g:=λs=>(Tree.dD (aN c used t need) (s:Int)).x) (t:=t.toNat) (d:=need.x) p r m (λs _=>(l s).1) k.1 (λs b e=>by simp only[u s b e]) (by simp only[j]);have s2:=PL (f:=λs=>(Tree.dD used (s:Int)).y) (g:=λs=>(Tree.dD (aN c used t need) (s:Int)).y) (t:=t.toNat) (d:=need.y) p r m (λs _=>(l s).2.1) k.2.1 (λs b e=>by simp only[u s b e]) (by simp only[j]);have s3:=PL (f:=λs=>(Tree.dD used (s:Int)).z) (g:=λs=>(Tree.dD (aN c used t need) (s:Int)).z) (t:=t.toNat) (d:=need.z) p r m (λs _=>(l s).2.2) k.2.2 (λs b e=>by simp only[u s b e]) (by simp only[j]);rw[zL c (n:Int) (aN c used t need),zL c (n:Int) used];refine⟨?_,?_,?_⟩
  .show nR _ _ _<=Vec.add1 (Vec.add1 _ need.x) _;rw[<-s1.1];exact yF s1.2.1 s1.2.2 o.1
  .show nR _ _ _<=Vec.add1 (Vec.add1 _ need.y) _;rw[<-s2.1];exact yF s2.2.1 s2.2.2 o.2.1
  .show nR _ _ _<=Vec.add1 (Vec.add1 _ need.z) _;rw[<-s3.1];exact yF s3.2.1 s3.2.2 o.2.2
 .have a:=h _ z;unfold vY DJ at a;rw[aG i,i]at a;exact a
theorem at_nil(n:Int):Tree.dD [] n=Vec.zero:=by
 unfold Tree.dD;split
 .simp
 .rfl
end Quo
namespace Hst
open Go.Proofs.YtedmeglbjmdlhaaGreatDoor
def one(f:Vec.V->Vec.V->Vec.V)(need:Vec.V)(out:List Vec.V)(h:Int):List Vec.V:=if 0<=h/\h<(out.length:Int)then out.set h.toNat (f (out.getD h.toNat Vec.zero) need)else out
def dW(f:Vec.V->Vec.V->Vec.V)(need:Vec.V)(l:List Int)(out:List Vec.V):List Vec.V:=l.foldl (one f need) out
def caps(hs:List gW):List Vec.V:=hs.map (·.cap)
def free(hs:List gW)(rs:List (Vec.V×List Int)):List Vec.V:=rs.foldl (λo r=>dW Vec.sub r.1 r.2 o) (caps hs)
theorem ajk(f:Vec.V->Vec.V->Vec.V)(need:Vec.V)(out:List Vec.V)(h:Int):(one f need out h).length=out.length:=by unfold one;split<;>simp
theorem wS(f:Vec.V->Vec.V->Vec.V)(need:Vec.V):∀(l:List Int) (out:List Vec.V),(dW f need l out).length=out.length
 |[],out=>rfl
 |h::l,out=>by show(dW f need l (one f need out h)).length=_;rw[wS f need l,ajk]
theorem acy(f:Vec.V->Vec.V->Vec.V)(need:Vec.V)(l:List Int)(out:List Vec.V)(k:Nat)(h:k<l.length):dW f need (l.take (k+1)) out=one f need (dW f need (l.take k) out) l[k]:=by unfold dW;rw[iA,aH h,fB];rfl
def tJ(hs:List gW)(rs:List (Vec.V×List Int))(k:Nat):List Vec.V:=free hs (rs.take k)
theorem UL(a:List gW)(rs:List (Vec.V×List Int))(k:Nat)(h:k<rs.length):tJ a rs (k+1)=dW Vec.sub rs[k].1 rs[k].2 (tJ a rs k):=by unfold tJ free;rw[iA,aH h,fB];rfl
theorem UK(a:List gW):∀(rs:List (Vec.V×List Int)),(free a rs).length=a.length:=by
 intro rs;have c:∀(rs:List (Vec.V×List Int)) (o:List Vec.V),(rs.foldl (λo r=>dW Vec.sub r.1 r.2 o) o).length=o.length:=by
  intro rs;induction rs with
  |nil=>intro o;rfl
  |cons r rs b=>intro o;rw[List.foldl_cons,b,wS]
 rw[free,c];simp[caps]
theorem DX(a:List gW)(rs:List (Vec.V×List Int))(k:Nat):(tJ a rs k).length=a.length:=UK a _
theorem ZL(a:List gW)(rs:List (Vec.V×List Int))(k:Nat)(h:rs.length<=k):tJ a rs k=free a rs:=by unfold tJ;rw[aT h]
def yD(hs:List gW)(k:Nat):List Vec.V:=(caps hs).take k++List.replicate (hs.length-k) Vec.zero
theorem akq(a:List gW):yD a 0=List.replicate a.length Vec.zero:=by simp[yD]
theorem anN(a:List gW)(k:Nat)(h:a.length<=k):yD a k=caps a:=by unfold yD;rw[aT (by simpa[caps]using h),show a.length-k=0 by omega];simp
theorem afJ(a:List gW)(k:Nat)(h:k<=a.length):(yD a k).length=a.length:=by simp[yD,caps];omega
theorem akr(a:List gW)(k:Nat)(h:k<a.length):(yD a k).set k a[k].cap=yD a (k+1):=by
 unfold yD;have b:(List.take k (caps a)).length=k:=by simp[caps];omega
 rw[List.set_append_right _ _ oZ,b,Nat.sub_self,show a.length-k=(a.length-(k+1))+1 by omega,List.replicate_succ,List.set_cons_zero,iA];have:(caps a)[k]? =some a[k].cap:=by simp[caps,aH h]
 rw[this,bP];rfl
def fine(o:List Vec.V)(l:List Int):Bool:=l.all λh=>Vec.dR Vec.zero (o.getD h.toNat Vec.zero)
end Hst
variable{j:Nat}
namespace Hst
open Go.Proofs.YtedmeglbjmdlhaaGreatDoor
structure nH where
 flavor:Int
 block:Int
 AQ:Int
 host:Int
 deriving DecidableEq
def rD(h:gW)(i aR:Int):nH:=⟨h.flavor,if 2<aR then 0 else h.block,if 1<aR then 0 else h.AQ,if 0<aR then 0 else i⟩
abbrev G:=List (nH×List Nat)
def qO(p:nH)(i:Nat):G->G
 |[]=>[(p,[i])]
 |q::r=>if p=q.1 then(q.1,q.2++[i])::r else q::qO p i r
def idx(p:nH):G->Option Nat
 |[]=>none
 |q::r=>if p=q.1 then some 0 else(idx p r).map (· +1)
def dD(hs:List gW)(i:Nat):gW:=hs.getD i default
def iL(hs:List gW)(aR:Int)(i:Nat):nH:=rD (dD hs i) (i:Int) aR
def gTo(hs:List gW)(aR:Int):Nat->G
 |0=>[]
 |k+1=>qO (iL hs aR k) k (gTo hs aR k)
def wR(aR:Int):Bool:=decide (0<=aR)&&decide (aR<=3)
def mU(hs:List gW)(aR:Int):List (List Nat):=if wR aR then(gTo hs aR hs.length).map (·.2)else[]
theorem uR(p:nH)(i:Nat):∀g:G,idx p g=none->qO p i g=g++[(p,[i])]
 |[],_=>rfl
 |q::r,h=>by
  unfold idx at h;unfold qO;by_cases a:p=q.1
  .rw[aG a]at h;cases h
  .rw[aD a]at h;rw[aD a,uR p i r (by simpa using h)];rfl
theorem vV(p:nH)(i:Nat):∀(g:G) (k:Nat),idx p g=some k->∃l,g[k]? =some (p,l)/\qO p i g=g.set k (p,l++[i])
 |[],k,h=>by cases h
 |q::r,k,h=>by
  unfold idx at h;unfold qO;by_cases a:p=q.1
  .rw[aG a]at h;injection h with h;subst h;rw[aG a];exact⟨q.2,by rw[a];rfl,by rw[a];rfl⟩
  .rw[aD a]at h;rw[aD a];cases b:idx p r with
   |none=>rw[b]at h;cases h
   |some j=>
    rw[b]at h;simp only[Option.map_some,Option.some.injEq]at h;subst h;obtain⟨l,c,d⟩:=vV p i r j b;exact⟨l,by simpa using c,by rw[d];rfl⟩
theorem ahP(q p:nH)(l:List Nat):∀g:G,idx p g=none->idx q (g++[(p,l)])=if q=p then some g.length else idx q g
 |[],_=>by show idx q [(p,l)]=_;unfold idx idx;simp
 |x::r,h=>by
  unfold idx at h;by_cases c:p=x.1
  .rw[aG c]at h;cases h
  .rw[aD c]at h;have f:=ahP q p l r (by simpa using h);show idx q (x::(r++[(p,l)]))=_;unfold idx;rw[f];by_cases a:q=x.1
   .rw[aG a,aG a];have d:¬q=p:=λe=>c (e▸a);rw[aD d]
   .rw[aD a,aD a];by_cases b:q=p
    .rw[aG b,aG b];simp
    .rw[aD b,aD b]
theorem ahO(q:nH):∀(g:G) (k:Nat) (p:nH) (l l':List Nat),g[k]? =some (p,l)->idx q (g.set k (p,l'))=idx q g
 |[],k,p,l,l',h=>by simp at h
 |x::r,0,p,l,l',h=>by simp at h;subst h;rfl
 |x::r,k+1,p,l,l',h=>by have:=ahO q r k p l l' (by simpa using h);rw[List.set_cons_succ];unfold idx;rw[this]
theorem afi(p:nH):∀(g:G) (k:Nat),idx p g=some k->k<g.length
 |[],k,h=>by cases h
 |x::r,k,h=>by
  unfold idx at h;split at h
  .injection h with h;subst h;simp
  .cases a:idx p r with
   |none=>rw[a]at h;cases h
   |some j=>
    rw[a]at h;simp only[Option.map_some,Option.some.injEq]at h;subst h;have:=afi p r j a;simp;omega
theorem ZK(a:List gW)(aR:Int):∀k,(gTo a aR k).length<=k
 |0=>bI _
 |k+1=>by
  have c:=ZK a aR k;show(qO _ _ _).length<=_;cases h:idx (iL a aR k) (gTo a aR k)with
  |none=>rw[uR _ _ _ h];simp;omega
  |some j=>
   obtain⟨l,_,b⟩:=vV _ k _ _ h;rw[b];simp;omega
theorem amW(p:nH)(i n:Nat)(g:G)(h:∀q∈g,q.2.length<=n):∀q∈qO p i g,q.2.length<=n+1:=by
 cases b:idx p g with
 |none=>
  rw[uR _ _ _ b];intro q a;simp only[bY,List.mem_singleton]at a;rcases a with a|rfl
  .have:=h q a;omega
  .simp
 |some k=>
  obtain⟨l,c,d⟩:=vV p i g k b;rw[d];intro q a;rcases List.mem_or_eq_of_mem_set a with a|rfl
  .have:=h q a;omega
  .have:=h _ (gG c);simp only[aW,List.length_singleton]at this⊢;omega
theorem WB(a:List gW)(aR:Int):∀k,∀q∈gTo a aR k,q.2.length<=k
 |0=>λq b=>by cases b
 |k+1=>amW _ k k _ (WB a aR k)
def rows(g:G):List (List Nat):=g.map (·.2)
theorem alP{p:nH}{g:G}(h:idx p g=none):rows (qO p i g)=(rows g++[[]]).set (rows g).length ([]++[i]):=by rw[uR _ _ _ h,List.set_append_right _ _ lZ,Nat.sub_self];simp[rows]
theorem PZ{p:nH}{g:G}(h:idx p g=some k):∃a:k<(rows g).length,rows (qO p i g)=(rows g).set k ((rows g)[k]++[i]):=by
 obtain⟨l,b,c⟩:=vV p i g k h;have a:k<g.length:=(bE.1 b).1;refine⟨by simpa[rows]using a,?_⟩;have d:(rows g)[k]'(by simpa[rows]using a)=l:=by have:=(bE.1 b).2;simp[rows,this]
 rw[c,d];simp[rows,List.map_set]
theorem rC(g:G):(rows g).length=g.length:=by simp[rows]
theorem GH{p:nH}{g:G}(h:idx p g=none)(q:nH):idx q (qO p i g)=if q=p then some g.length else idx q g:=by rw[uR _ _ _ h,ahP _ _ _ _ h]
theorem GD{p:nH}{g:G}(h:idx p g=some k)(q:nH):idx q (qO p i g)=idx q g:=by obtain⟨l,a,b⟩:=vV p i g k h;rw[b];exact ahO q g k p l (l++[i]) a
theorem abO(a:List gW)(aR:Int)(k:Nat)(h:j<(rows (gTo a aR k)).length):(rows (gTo a aR k))[j].length<=k:=by
 have b:j<(gTo a aR k).length:=by simpa[rows]using h
 have:=WB a aR k _ (bB b);simpa[rows]using this
def akF(hs:List gW)(aR:Int)(g:G):Prop:=∀q∈g,∃h t,q.2=h::t/\iL hs aR h=q.1/\h<hs.length
theorem amN(c:List gW)(aR:Int)(g:G)(i:Nat)(hi:i<c.length)(h:akF c aR g):akF c aR (qO (iL c aR i) i g):=by
 cases d:idx (iL c aR i) g with
 |none=>
  rw[uR _ _ _ d];intro q b;simp only[bY,List.mem_singleton]at b;rcases b with b|rfl
  .exact h q b
  .exact⟨i,[],rfl,rfl,hi⟩
 |some k=>
  obtain⟨l,e,f⟩:=vV (iL c aR i) i g k d;rw[f];intro q b;rcases List.mem_or_eq_of_mem_set b with b|rfl
  .exact h q b
  .obtain⟨a,t,e1,e2,e3⟩:=h _ (gG e);simp only at e1 e2;exact⟨a,t++[i],by simp[e1],e2,e3⟩
theorem WA(a:List gW)(aR:Int):∀k,k<=a.length->akF a aR (gTo a aR k)
 |0,_=>λq b=>by cases b
 |k+1,c=>amN a aR _ k oZ (WA a aR k oZ)
end Hst
namespace Ord
open Go.Proofs.YtedmeglbjmdlhaaGreatDoor
structure P where
 id:Int
 dN:Int
 eU:Int
 need:Vec.V
 run:Int
 aR:Int
 prefer:Int
 seq:Int
 since:Int
instance:Inhabited P:=⟨⟨0,0,0,⟨0,0,0⟩,0,0,0,0,0⟩⟩
def num(a b:Int):Int:=if a<b then-1 else if b<a then 1 else 0
def or2(a b:Int):Int:=if a≠0 then a else b
def old(aK aN since:Int):Bool:=decide (0<aK)&&decide (since<=aN)&&decide (aK<=aN-since)
def rT(c:Cfg.C)(h:List Nat)(n:Int):Nat:=(Tree.below c n).foldl (λs (t:Nat)=>if t<h.length then Fix.add s (h.getD t 0)else s) 0
def jH(c:Cfg.C)(n:Int):Int:=if 0<=n/\n<(c.aP.length:Int)then max 1 ((c.aP.getD n.toNat default).jH)else 1
def aR(c:Cfg.C)(h:List Nat)(n:Int):Nat:=Fix.quo (rT c h n) (Fix.ofInt (jH c n))
def aP(c:Cfg.C)(h:List Nat)(a b:Nat):Int:=or2 (num (aR c h (a:Int)) (aR c h (b:Int))) (num a b)
def lex(f:Nat->Nat->Int):List Nat->List Nat->Int
 |[],[]=>0
 |[],_::_=> -1
 |_::_,[]=>1
 |x::xs,y::ys=>if x=y then lex f xs ys else f x y
def tree(c:Cfg.C)(h:List Nat)(a b:Int):Int:=lex (aP c h) (Tree.path c a) (Tree.path c b)
def nS(c:Cfg.C)(aN:Int)(p:P):Bool:=old c.aK aN p.since
def cmp(c:Cfg.C)(h:List Nat)(aN:Int)(a b:P):Int:=if nS c aN a=true/\nS c aN b=false then-1 else if nS c aN b=true/\nS c aN a=false then 1 else if nS c aN a=true then num a.seq b.seq else or2 (tree c h a.dN b.dN) (num a.seq b.seq)
structure jE {α:Type} (f:α->α->Int):Prop where
 neg:∀a b,f a b= -f b a
 sgn:∀a b,f a b= -1\/f a b=0\/f a b=1
 trans:∀a b c,f a b<=0->f b c<=0->f a c<=0
theorem jE.self{α:Type}{f:α->α->Int}(h:jE f)(a:α):f a a=0:=by have:=h.neg a a;omega
theorem jE.strict{α:Type}{f:α->α->Int}(h:jE f){a b c:α}(d:f a b<=0)(e:f b c<=0)(g:f a c=0):f a b=0/\f b c=0:=by have n1:=h.neg a c;have n2:=h.neg a b;have i:=h.neg b c;have j:=h.trans b c a e oZ;have k:=h.trans c a b oZ d;omega
theorem jE.eq_left{α:Type}{f:α->α->Int}(h:jE f){a b:α}(c:α)(d:f a b=0):f a c=f b c:=by have n1:=h.neg a b;have n2:=h.neg a c;have e:=h.neg b c;have s1:=h.sgn a c;have s2:=h.sgn b c;have g:=h.trans a b c oZ;have i:=h.trans b a c oZ;have j:=h.trans c a b;have t4:=h.trans c b a;omega
theorem aaN:jE num:=by
 refine⟨λa b=>?_,λa b=>?_,λa b c=>?_⟩
 .unfold num;split<;>split<;>omega
 .unfold num;split
  .omega
  .split<;>omega
 .unfold num;split<;>split<;>(try split)<;>(try split)<;>(try split)<;>(try split)<;>omega
theorem aeK{a b:Int}(h:num a b=0):a=b:=by unfold num at h;split at h;omega;split at h<;>omega
theorem jE.pull{α β:Type}{f:α->α->Int}(h:jE f)(g:β->α):jE (λa b=>f (g a) (g b)):=⟨λ_ _=>h.neg _ _,λ_ _=>h.sgn _ _,λ_ _ _=>h.trans _ _ _⟩
theorem jE.or{α:Type}{f g:α->α->Int}(d:jE f)(e:jE g):jE (λa b=>or2 (f a b) (g a b)):=by
 refine⟨λa b=>?_,λa b=>?_,λa b c i j=>?_⟩
 .have:=d.neg a b;have:=e.neg a b;simp only[or2];split<;>split<;>omega
 .have:=d.sgn a b;have:=e.sgn a b;simp only[or2];split<;>omega
 .have t:=d.trans a b c;have s:= @jE.strict α f d a b c;have k:=e.trans a b c;simp only[or2]at i j⊢;split at i<;>split at j<;>split<;>omega
theorem ahI{f:Nat->Nat->Int}(j:jE f)(k:∀a b,f a b=0->a=b):jE (lex f):=by
 refine⟨?_,?_,?_⟩
 .intro a;induction a with
  |nil=>intro b;cases b<;>simp[lex]
  |cons x xs i=>
   intro b;cases b with
   |nil=>simp[lex]
   |cons y ys=>
    simp only[lex];by_cases h:x=y
    .rw[aG h,aG h.symm];exact i ys
    .rw[aD h,aD λe=>h e.symm];exact j.neg x y
 .intro a;induction a with
  |nil=>intro b;cases b<;>simp[lex]
  |cons x xs i=>
   intro b;cases b with
   |nil=>simp[lex]
   |cons y ys=>
    simp only[lex];split
    .exact i ys
    .exact j.sgn x y
 .intro a;induction a with
  |nil=>intro b c _ _;cases c<;>simp[lex]
  |cons x xs i=>
   intro b c g d;cases b with
   |nil=>simp[lex]at g
   |cons y ys=>
    cases c with
    |nil=>simp[lex]at d
    |cons z m=>
     simp only[lex]at g d⊢;have t:=j.trans x y z;by_cases e1:x=y
     .subst e1;rw[aG rfl]at g;by_cases e2:x=z
      .subst e2;rw[aG rfl]at d⊢;exact i ys m g d
      .rw[aD e2]at d⊢;exact d
     .rw[aD e1]at g;by_cases e2:y=z
      .subst e2;rw[aD e1];exact g
      .rw[aD e2]at d;have l:=t g d;by_cases e3:x=z
       .subst e3;have n:=j.neg x y;have:=k x y oZ;exact absurd this e1
       .rw[aD e3];exact l
theorem acf(c:Cfg.C)(h:List Nat):jE (aP c h):=
 (aaN.pull λa:Nat=>((aR c h (a:Int):Nat):Int)).or (aaN.pull λa:Nat=>(a:Int))
theorem YZ(c:Cfg.C)(h:List Nat)(a b:Nat)(e:aP c h a b=0):a=b:=by
 unfold aP or2 at e;split at e
 .omega
 .have:=aeK e;omega
theorem abx(c:Cfg.C)(h:List Nat)(a:Int):tree c h a a=0:=(ahI (acf c h) (YZ c h)).self _
def YX(a b:Bool):Int:=if a=true/\b=false then-1 else if b=true/\a=false then 1 else 0
theorem ajl:jE YX:=⟨dZ,dZ,dZ⟩
def way(c:Cfg.C)(aN:Int)(p:P):List Nat:=if nS c aN p=true then[]else Tree.path c p.dN
theorem cmp_eq(c:Cfg.C)(h:List Nat)(aN:Int)(a b:P):cmp c h aN a b=or2 (YX (nS c aN a) (nS c aN b)) (or2 (lex (aP c h) (way c aN a) (way c aN b)) (num a.seq b.seq)):=by unfold cmp way tree YX;cases nS c aN a<;>cases nS c aN b<;>simp[or2,lex]
theorem yC(c:Cfg.C)(h:List Nat)(aN:Int):jE (cmp c h aN):=by
 have e:cmp c h aN=λa b=>or2 (YX (nS c aN a) (nS c aN b)) (or2 (lex (aP c h) (way c aN a) (way c aN b)) (num a.seq b.seq)):=by funext a b;exact cmp_eq c h aN a b
 rw[e];exact(ajl.pull (nS c aN)).or (((ahI (acf c h) (YZ c h)).pull (way c aN)).or (aaN.pull λp:P=>p.seq))
end Ord
namespace Dv
def B:Nat:=4294967296
theorem more{U u Y a b q r:Nat}(d:Y=a*B+b)(f:q*a+r=U)(g:(U*B+u)/Y<B)(e:0<Y)(h:B<=q\/B*r+u<q*b)(i:(U*B+u)/Y<=q):(U*B+u)/Y<=q-1/\1<=q:=by
 have c:(U*B+u)/Y<q:=by
  rcases h with h|h
  .omega
  .rw[jY e,d,<-f];have e1:q*(a*B+b)=q*a*B+q*b:=by rw[Nat.mul_add,Nat.mul_assoc]
   have e2:(q*a+r)*B=q*a*B+B*r:=by rw[gJ,eD r B]
   omega
 exact⟨Nat.le_sub_one_of_lt c,Nat.lt_of_le_of_lt (bK _) c⟩
theorem done{U u Y a b q r:Nat}(c:Y=a*B+b)(f:q*a+r=U)(e:0<Y)(h:q*b<=B*r+u)(d:(U*B+u)/Y<=q):q=(U*B+u)/Y:=by
 have g:q<=(U*B+u)/Y:=by
  rw[Nat.le_div_iff_mul_le e,c,<-f];have e1:q*(a*B+b)=q*a*B+q*b:=by rw[Nat.mul_add,Nat.mul_assoc]
  have e2:(q*a+r)*B=q*a*B+B*r:=by rw[gJ,eD r B]
  omega
 exact Nat.le_antisymm g d
theorem brk{U u Y a b q r:Nat}(g:Y=a*B+b)(k:b<B)(j:q*a+r=U)(f:U<Y)(c:B<=r):q*b<=B*r+u:=by
 have i:q<B:=by
  rcases fP q B with h|h
  .exact h
  .have:B*a<=q*a:=bR _ h;rw[eD B a]at this;omega
 have d:q*b<=B*B:=Nat.mul_le_mul oZ oZ;have e:B*B<=B*r:=Nat.mul_le_mul_left _ c;omega
theorem start{U u Y a d:Nat}(g:Y=a*B+d)(b:u<B)(c:0<a):(U*B+u)/Y<=U/a:=by
 have e:(U*B+u)/Y<=(U*B+u)/(a*B):=Nat.div_le_div_left oZ (Nat.mul_pos c dZ);have f:(U*B+u)/(a*B)=U/a:=by rw[eD a B,<-Nat.div_div_eq_div_mul,eD U B,Nat.mul_add_div (by decide:0<B),Nat.div_eq_of_lt b,Nat.add_zero]
 omega
theorem small{U u Y:Nat}(a:U<Y)(b:u<B):(U*B+u)/Y<B:=by rw[jY oZ];have:(U+1)*B<=Y*B:=bR _ a;rw[gJ,Nat.one_mul]at this;rw[eD B Y];omega
theorem both(U u1 u0 Y:Nat)(b:0<Y):(U*B+u1)/Y*B+((U*B+u1)%Y*B+u0)/Y=(U*(B*B)+(u1*B+u0))/Y:=by
 have e:U*(B*B)+(u1*B+u0)=(U*B+u1)*B+u0:=by rw[gJ,Nat.mul_assoc];omega
 have a:=iY (U*B+u1) Y;generalize(U*B+u1)/Y=q at*;generalize(U*B+u1)%Y=r at*;rw[e,<-a];have e2:(Y*q+r)*B+u0=r*B+u0+Y*(q*B):=by rw[gJ,Nat.mul_assoc];omega
 rw[e2,Nat.add_mul_div_left _ _ b];omega
theorem left(U u Y Q:Nat)(d:Y<18446744073709551616)(c:0<Y)(b:(U*B+u)/Y=Q):U*B+u=Q*Y+(U*B+u)%Y/\(U*B+u)%Y<Y:=by have a:=iY (U*B+u) Y;rw[b,eD]at a;exact⟨a.symm,jS _ c⟩
theorem norm(hi lo y:Nat)(j:hi<y)(i:lo<18446744073709551616)(l:y<18446744073709551616):∃s,s<64/\2 ^ (63-s)<=y/\y/2 ^ (63-s)=1/\9223372036854775808<=y*2 ^ s/\y*2 ^ s<18446744073709551616/\hi*2 ^ s<18446744073709551616/\lo/2 ^ (64-s)<2 ^ s/\hi*2 ^ s+lo/2 ^ (64-s)<y*2 ^ s/\(hi*18446744073709551616+lo)*2 ^ s=(hi*2 ^ s+lo/2 ^ (64-s))*18446744073709551616+lo*2 ^ s%18446744073709551616:=by
 have f:y≠0:=oZ;have a:=Nat.log2_self_le f;have b:= @Nat.lt_log2_self y;have m:y.log2<64:=(Nat.log2_lt f).2 l;generalize y.log2=k at*;have d:63-(63-k)=k:=oZ;have p1:(2:Nat) ^ k*2 ^ (63-k)=9223372036854775808:=by rw[<-Nat.pow_add,show k+(63-k)=63 by omega]
 have p2:(2:Nat) ^ (k+1)*2 ^ (63-k)=18446744073709551616:=by rw[<-Nat.pow_add,show k+1+(63-k)=64 by omega]
 have p3:(2:Nat) ^ (64-(63-k))*2 ^ (63-k)=18446744073709551616:=by rw[<-Nat.pow_add,show 64-(63-k)+(63-k)=64 by omega]
 have c:0<2 ^ (63-k):=Nat.two_pow_pos _;have a1:9223372036854775808<=y*2 ^ (63-k):=by rw[<-p1];exact bR _ a
 have a2:y*2 ^ (63-k)<18446744073709551616:=by rw[<-p2];exact Nat.mul_lt_mul_of_pos_right b c
 have a3:(hi+1)*2 ^ (63-k)<=y*2 ^ (63-k):=bR _ j;rw[gJ,Nat.one_mul]at a3;have a4:lo/2 ^ (64-(63-k))<2 ^ (63-k):=by rw[jY (Nat.two_pow_pos _),eD,p3];exact i
 refine⟨63-k,oZ,by rw[d];exact a,?_,a1,a2,oZ,a4,oZ,?_⟩
 .rw[d];exact Nat.div_eq_of_lt_le (by rw[Nat.one_mul];exact a) (by rw[Nat.pow_succ]at b;omega)
 .have g:=iY (lo*2 ^ (63-k)) 18446744073709551616;have e:lo*2 ^ (63-k)/18446744073709551616=lo/2 ^ (64-(63-k)):=by rw[<-p3];exact Nat.mul_div_mul_right _ _ c
  rw[e]at g;rw[gJ,gJ,Nat.mul_right_comm];omega
theorem shifted(N y s:Nat):N*2 ^ s/(y*2 ^ s)=N/y:=Nat.mul_div_mul_right _ _ (Nat.two_pow_pos _)
end Dv
namespace Crc
def poly:Nat:=2197175160
def bit(x:Nat):Nat:=if x%2=1 then(x/2) ^^^ poly else x/2
def turns:Nat->Nat->Nat
 |0,x=>x
 |n+1,x=>turns n (bit x)
def all:List UInt8->Nat->Nat
 |[],x=>x
 |b::r,x=>all r (turns 8 (x ^^^ b.toNat))
def sum(l:List UInt8):Nat:=(all l 4294967295) ^^^ 4294967295
theorem GU(x:Nat)(h:x<4294967296):bit x<4294967296:=by
 unfold bit;split
 .exact Nat.xor_lt_two_pow (n:=32) oZ dZ
 .omega
theorem BG:∀(n x:Nat),x<4294967296->turns n x<4294967296
 |0,_,h=>h
 |n+1,_,h=>BG n _ (GU _ h)
theorem nI(x:Nat)(b:UInt8)(h:x<4294967296):x ^^^ b.toNat<4294967296:=
 Nat.xor_lt_two_pow (n:=32) h (by have:=b.toNat_lt;omega)
theorem afY:∀(l:List UInt8) (x:Nat),x<4294967296->all l x<4294967296
 |[],_,h=>h
 |b::r,_,h=>afY r _ (BG 8 _ (nI _ b h))
theorem sum_lt(l:List UInt8):sum l<4294967296:=
 Nat.xor_lt_two_pow (n:=32) (afY l _ dZ) dZ
theorem all_append:∀(l r:List UInt8) (x:Nat),all (l++r) x=all r (all l x)
 |[],_,_=>rfl
 |_::l,r,_=>all_append l r _
def nT(n:Nat):List UInt8:=[UInt8.ofNat n,UInt8.ofNat (n/256),UInt8.ofNat (n/65536),UInt8.ofNat (n/16777216)]
def back:List UInt8->Nat
 |a::b::c::d::_=>a.toNat+b.toNat*256+c.toNat*65536+d.toNat*16777216
 |_=>0
theorem kG(n:Nat):(nT n).length=4:=rfl
theorem aia(l:List UInt8):back l<4294967296:=by
 unfold back;split
 .rename_i a b c d _;have:=a.toNat_lt;have:=b.toNat_lt;have:=c.toNat_lt;have:=d.toNat_lt;omega
 .omega
theorem DN(n:Nat)(h:n<4294967296)(r:List UInt8):back (nT n++r)=n:=by simp only[nT,back,List.cons_append,List.nil_append,UInt8.toNat_ofNat'];omega
def frame(l:List UInt8):List UInt8:=if l.length>16384 then[]else nT l.length++(nT (sum l)++l)
def read(s:List UInt8):List UInt8×Nat×Nat:=if s.length<8 then([],0,10)else if back s>16384 then([],0,8)else if back s>s.length-8 then([],0,10)else if sum ((s.drop 8).take (back s))≠back (s.drop 4)then([],0,11)else((s.drop 8).take (back s),back s+8,0)
theorem rP(l:List UInt8)(h:l.length<=16384):(frame l).length=l.length+8:=by unfold frame;rw[aD oZ];simp[kG];omega
theorem BU(l:List UInt8)(h:l.length<=16384):frame l=nT l.length++(nT (sum l)++l):=aD oZ
theorem aiW(l t:List UInt8)(h:l.length<=16384):read (frame l++t)=(l,l.length+8,0):=by
 have c:back (frame l++t)=l.length:=by rw[BU l h,bP];exact DN _ oZ _
 have a:(frame l++t).drop 4=nT (sum l)++(l++t):=by rw[BU l h];simp[nT]
 have b:(frame l++t).drop 8=l++t:=by rw[BU l h];simp[nT]
 have d:back ((frame l++t).drop 4)=sum l:=by rw[a];exact DN _ (sum_lt l) _
 have e:(frame l++t).length=l.length+8+t.length:=by rw[aW,rP l h]
 unfold read;rw[aD oZ,c,aD oZ,aD oZ,b,d,List.take_left' rfl,aD sZ]
end Crc
namespace Dsk
structure D where
 size:Nat
 safe:List UInt8
 waits:List UInt8
 swaps:Bool
deriving DecidableEq
def new(n:Int):D:=⟨(min (max n 0) 1048576).toNat,[],[],false⟩
def free(d:D):Int:=(d.size:Int)-(d.waits.length:Int)-(if d.swaps then 0 else(d.safe.length:Int))
def pI(d:D)(s:List UInt8):Bool:=decide ((s.length:Int)<=free d)
def write(d:D)(s:List UInt8):D:=if pI d s then{d with waits:=d.waits++s}else d
def qD(d:D)(s:List UInt8):Int:=if pI d s then 0 else 9
def replace(d:D)(s:List UInt8):D:=if d.size<s.length then d else{d with waits:=s,swaps:=true}
def uN(d:D)(s:List UInt8):Int:=if d.size<s.length then 9 else 0
def uP(d:D)(n:Int):Nat:=(min (max n 0) (d.waits.length:Int)).toNat
def rJ(d:D)(n:Int):D:={d with safe:=if d.swaps then(if uP d n=d.waits.length then d.waits else d.safe)else d.safe++d.waits.take (uP d n),waits:=[],swaps:=false}
def sync(d:D):D:=rJ d d.waits.length
def Ok(d:D):Prop:=d.safe.length<=d.size/\d.waits.length<=d.size/\(d.swaps=false->d.safe.length+d.waits.length<=d.size)
theorem afa(d:D)(n:Int):uP d n<=d.waits.length:=by unfold uP;omega
theorem ady(d:D)(s:List UInt8)(h:Ok d):Ok (write d s):=by
 unfold write;by_cases a:pI d s=true
 .rw[aG a];unfold pI free at a;unfold Ok at*;simp only[fA]at a;simp only[aW];cases b:d.swaps<;>simp[b]at h a⊢ <;>omega
 .rw[aD a];exact h
theorem WM(d:D)(n:Int)(h:Ok d):Ok (rJ d n):=by
 have b:=afa d n;unfold Ok rJ at*;simp only[List.length_nil,Nat.add_zero,bK,true_and];have:(if d.swaps then(if uP d n=d.waits.length then d.waits else d.safe)else d.safe++d.waits.take (uP d n)).length<=d.size:=by
  cases a:d.swaps
  .have:=h.2.2 a;simp only[kC,if_false,aW,bO];omega
  .simp only[if_true];split<;>omega
 exact⟨this,λ_=>this⟩
end Dsk
namespace Jou
open Go.Proofs.YtedmeglbjmdlhaaGreatDoor
def vW:Nat->List UInt8->List (List UInt8)×Nat
 |0,_=>([],0)
 |f+1,l=>if(Crc.read l).2.2=0 then((Crc.read l).1::(vW f (l.drop (Crc.read l).2.1)).1,(Crc.read l).2.1+(vW f (l.drop (Crc.read l).2.1)).2)else([],0)
def scan(l:List UInt8):List (List UInt8)×Nat:=vW (l.length+1) l
theorem FH(l:List UInt8)(h:(Crc.read l).2.2=0):8<=(Crc.read l).2.1/\(Crc.read l).2.1<=l.length/\(Crc.read l).2.1=(Crc.read l).1.length+8:=by
 unfold Crc.read at h⊢;split
 .simp_all
 .split
  .simp_all
  .split
   .simp_all
   .split
    .simp_all
    .simp only[bO,fV];omega
theorem YL:∀(f g:Nat) (l:List UInt8),l.length<f->l.length<g->vW f l=vW g l
 |0,_,_,h,_=>oZ
 |_,0,_,_,h=>oZ
 |f+1,g+1,l,c,d=>by
  unfold vW;by_cases h:(Crc.read l).2.2=0
  .have a:=FH l h;have b:(l.drop (Crc.read l).2.1).length=l.length-(Crc.read l).2.1:=fV;rw[aG h,aG h,YL f g _ oZ oZ]
  .rw[aD h,aD h]
theorem abK(l:List UInt8)(h:(Crc.read l).2.2=0):scan l=((Crc.read l).1::(scan (l.drop (Crc.read l).2.1)).1,(Crc.read l).2.1+(scan (l.drop (Crc.read l).2.1)).2):=by have a:=FH l h;have b:(l.drop (Crc.read l).2.1).length=l.length-(Crc.read l).2.1:=fV;show vW (l.length+1) l=_;rw[vW,aG h];rw[YL l.length ((l.drop (Crc.read l).2.1).length+1) _ oZ oZ];rfl
theorem PV(l:List UInt8)(h:(Crc.read l).2.2≠0):scan l=([],0):=by show vW (l.length+1) l=_;rw[vW,aD h]
theorem aoN:scan []=([],0):=PV [] dZ
def frames:List (List UInt8)->List UInt8
 |[]=>[]
 |x::xs=>Crc.frame x++frames xs
theorem adh(a b:List (List UInt8)):frames (a++b)=frames a++frames b:=by
 induction a with
 |nil=>rfl
 |cons x xs c=>show Crc.frame x++frames (xs++b)=_;rw[c,<-bP];rfl
theorem ajN(x:List UInt8):frames [x]=Crc.frame x:=fC _
def Small(l:List (List UInt8)):Prop:=∀x∈l,x.length<=16384
theorem TR(l:List (List UInt8))(t:List UInt8)(h:Small l):scan (frames l++t)=(l++(scan t).1,(frames l).length+(scan t).2):=by
 induction l with
 |nil=>simp[frames]
 |cons x xs g=>
  have b:=h x sZ;have e:=aiW x (frames xs++t) b;have c:frames (x::xs)++t=Crc.frame x++(frames xs++t):=by show(Crc.frame x++frames xs)++t=_;rw[bP]
  rw[c,abK _ (by rw[e]),e];have a:=rP x b;have d:(Crc.frame x++(frames xs++t)).drop (x.length+8)=frames xs++t:=by rw[<-a];exact List.drop_left' rfl
  show(x::(scan ((Crc.frame x++(frames xs++t)).drop (x.length+8))).1,x.length+8+(scan ((Crc.frame x++(frames xs++t)).drop (x.length+8))).2)=_;rw[d,g λy f=>h y (by simp[f])];show _=((x::xs)++(scan t).1,(Crc.frame x++frames xs).length+(scan t).2);rw[aW,a];simp only[List.cons_append,iQ]
theorem YK(l:List (List UInt8))(h:Small l):scan (frames l)=(l,(frames l).length):=by have:=TR l [] h;rw[fC,aoN]at this;simpa using this
theorem aeg:∀(f:Nat) (l:List UInt8),(vW f l).2<=l.length
 |0,_=>bK _
 |f+1,l=>by
  unfold vW;split
  .rename_i h;have a:=FH l h;have:=aeg f (l.drop (Crc.read l).2.1);have b:(l.drop (Crc.read l).2.1).length=l.length-(Crc.read l).2.1:=fV;show _+_<=_;omega
  .exact bK _
theorem arG(l:List UInt8):(scan l).2<=l.length:=aeg _ _
theorem TS:∀(f:Nat) (l:List UInt8),8*(vW f l).1.length<=(vW f l).2
 |0,_=>bI _
 |f+1,l=>by
  unfold vW;split
  .rename_i h;have a:=FH l h;have:=TS f (l.drop (Crc.read l).2.1);show 8*(_::_).length<=_+_;rw[List.length_cons];omega
  .exact bI _
theorem aiK(l:List UInt8):8*(scan l).1.length<=(scan l).2:=TS _ _
def clean(m:Nat)(l:List UInt8):Dsk.D:=⟨m,l,[],false⟩
theorem acL(m:Nat)(l f:List UInt8):pI (clean m l) f=decide (l.length+f.length<=m):=by unfold pI Dsk.free clean;refine decide_eq_decide.2 ?_;simp;omega
theorem aix(m:Nat)(l f:List UInt8)(h:l.length+f.length<=m):Dsk.sync (Dsk.write (clean m l) f)=clean m (l++f):=by
 have e:pI (clean m l) f=true:=by rw[acL];simpa using h
 unfold Dsk.write;rw[aG e];simp[Dsk.sync,rJ,uP,clean]
theorem adS(m:Nat)(l f:List UInt8)(h:f.length<=m):Dsk.sync (Dsk.replace (clean m l) f)=clean m f:=by unfold Dsk.replace;rw[aD (by unfold clean;simp;omega)];simp[Dsk.sync,rJ,uP,clean]
def opened(l:List UInt8):List UInt8:=l.take (scan l).2
theorem aeH(l:List UInt8)(h:¬(scan l).2<l.length):opened l=l:=aT oZ
def vS(m:Nat)(l s:List UInt8):Int:=if 16384<s.length then 8 else if l.length+(Crc.frame s).length<=m then 0 else 9
def NP(m:Nat)(l s:List UInt8):List UInt8:=if vS m l s=0 then l++Crc.frame s else l
def WT(m:Nat)(l s:List UInt8)(n:Nat):Nat:=if vS m l s=0 then n+1 else n
theorem atc(m:Nat)(l s:List UInt8)(n:Nat)(h:16384<s.length):vS m l s=8/\NP m l s=l/\WT m l s n=n:=by unfold NP WT vS;simp[h]
theorem aqJ(m:Nat)(l s:List UInt8)(n:Nat)(h:¬16384<s.length)(a:¬l.length+(Crc.frame s).length<=m):vS m l s=9/\NP m l s=l/\WT m l s n=n:=by unfold NP WT vS;simp[h,a]
theorem anX(m:Nat)(l s:List UInt8)(n:Nat)(h:¬16384<s.length)(a:l.length+(Crc.frame s).length<=m):vS m l s=0/\NP m l s=l++Crc.frame s/\WT m l s n=n+1:=by unfold NP WT vS;simp[h,a]
end Jou
namespace Dec
open Go.Proofs.YtedmeglbjmdlhaaGreatDoor
def tab:List Nat:=[3037000499,3611622602,3938502375,4112874772,4202935002,4248701964,4271771996,4283353945,4289156689,4292061009,4293513906,4294240539,4294603902,4294785595,4294876444,4294921869]
def t(i:Nat):Nat:=tab.getD i 0
def stp(f x i:Nat):Nat:=if f/2 ^ (15-i)%2=1 then Fix.mul x (t i)else x
def rounds(f:Nat):Nat->Nat
 |0=>Fix.one
 |k+1=>stp f (rounds f k) k
def QU(r h:Int):Nat:=qR r h/65536
def fac(a h:Int):Nat:=rounds (QU (a%h) h) 16/2 ^ (a/h).toNat
def nX(aK aI:Int):Nat:=fac (max aK 0) (max aI 1)
theorem aty(i:Nat):t i<=4294921869:=by
 unfold t tab;rcases fP i 16 with h|h
 .have:i=0\/i=1\/i=2\/i=3\/i=4\/i=5\/i=6\/i=7\/i=8\/i=9\/i=10\/i=11\/i=12\/i=13\/i=14\/i=15:=by omega
  rcases this with rfl|rfl|rfl|rfl|rfl|rfl|rfl|rfl|rfl|rfl|rfl|rfl|rfl|rfl|rfl|rfl<;>decide
 .rw[aL,dY (by simpa using h)];exact bK _
theorem aqS(i:Nat):t i<=Fix.top:=by have:=aty i;unfold Fix.top;omega
theorem ZA(x y:Nat)(h:y<=Fix.one):Fix.mul x y<=x:=by
 have a:x*y/Fix.one<=x:=by apply Nat.div_le_of_le_mul;rw[eD];exact bR _ h
 unfold Fix.mul Fix.cut;split<;>omega
theorem atB(f x i:Nat):stp f x i<=x:=by
 unfold stp;split
 .exact ZA _ _ (by have:=aty i;unfold Fix.one;omega)
 .exact bI _
theorem CZ(f:Nat):∀k,rounds f k<=Fix.one
 |0=>bI _
 |k+1=>aV (atB _ _ _) (CZ f k)
theorem auw(a h:Int):fac a h<=Fix.one:=aV (Nat.div_le_self _ _) (CZ _ _)
theorem RF(a h:Int):nX a h<=Fix.one:=auw _ _
theorem ajV(a h:Int):nX a h<=Fix.top:=by have:=RF a h;simp only[Fix.one,Fix.top]at*;omega
theorem asJ(a h:Int)(d:63<a/h):fac a h=0:=by
 unfold fac;apply Nat.div_eq_of_lt;have b:=CZ (QU (a%h) h) 16;have c:(2:Nat) ^ 64<=2 ^ (a/h).toNat:=Nat.pow_le_pow_right oZ oZ;have:Fix.one<2 ^ 64:=by decide
 omega
theorem aex(r h:Int)(a:0<=r)(d:r<h):qR r h<4294967296:=by
 obtain⟨r,rfl⟩:=dX a;obtain⟨h,rfl⟩:=dX (show 0<=h by omega);unfold qR Fix.quo;simp only[Int.toNat_natCast];have c:r<h:=oZ;have b:r*Fix.one/h<4294967296:=by rw[jY oZ,eD];exact Nat.mul_lt_mul_of_pos_left c dZ
 split
 .omega
 .rw[aD oZ,zX (by unfold Fix.top;omega)];exact b
theorem asG(r h:Int)(a:0<=r)(b:r<h):QU r h<65536:=by have:=aex r h a b;unfold QU;omega
end Dec
namespace Hst
open Go.Proofs.YtedmeglbjmdlhaaGreatDoor
def Fair(hs:List gW)(aR:Int)(k:Nat)(g:G):Prop:=(∀h,h<k->∃j,idx (iL hs aR h) g=some j)/\∀(h i:Nat) (hi:i<g.length),List.count h g[i].2=if h<k/\idx (iL hs aR h) g=some i then 1 else 0
theorem aqn(a:List gW)(aR:Int)(k:Nat)(g:G)(y:Fair a aR k g):Fair a aR (k+1) (qO (iL a aR k) k g):=by
 obtain⟨m,n⟩:=y;cases c:idx (iL a aR k) g with
 |none=>
  refine⟨λh o=>?_,λh i hi=>?_⟩
  .rw[GH c];by_cases e:iL a aR h=iL a aR k
   .rw[aG e];exact⟨_,rfl⟩
   .rw[aD e];exact m h (by
     by_cases b:h=k
     .subst b;exact absurd rfl e
     .omega)
  .rw[GH c];have r:(qO (iL a aR k) k g)=g++[(iL a aR k,[k])]:=uR _ _ _ c;have w:∀h,h<k->iL a aR h≠iL a aR k:=λh o e=>by obtain⟨j,v⟩:=m h o;rw[e,c]at v;cases v
   by_cases d:i<g.length
   .have:(qO (iL a aR k) k g)[i]=g[i]:=by simp only[r];rw[List.getElem_append_left d]
    rw[this,n h i d];by_cases b:h<k
    .rw[aD (w h b)];simp[b,Nat.lt_succ_of_lt b]
    .rw[aD (by omega:¬(h<k/\_))];by_cases e:h=k
     .subst e;rw[aG rfl,aD];rintro⟨_,e⟩;injection e with e;omega
     .rw[aD (by omega:¬(h<k+1/\_))]
   .have A:i=g.length:=by rw[r]at hi;simp at hi;omega
    subst A;have:(qO (iL a aR k) k g)[g.length]=(iL a aR k,[k]):=by simp[r]
    rw[this];by_cases b:h<k
    .rw[aD (w h b),aD]
     .simp[List.count_cons];omega
     .rintro⟨_,e⟩;have:=afi _ _ _ e;omega
    .by_cases e:h=k
     .subst e;rw[aG rfl,aG ⟨oZ,rfl⟩];simp
     .rw[aD (by omega:¬(h<k+1/\_))];simp[List.count_cons];omega
 |some j=>
  obtain⟨l,x,s⟩:=vV (iL a aR k) k g j c;refine⟨λh o=>?_,λh i hi=>?_⟩
  .rw[GD c];by_cases b:h=k
   .subst b;exact⟨j,c⟩
   .exact m h oZ
  .rw[GD c];have d:i<g.length:=by rw[s]at hi;simpa using hi
   have z:(qO (iL a aR k) k g)[i]=if j=i then(iL a aR k,l++[k])else g[i]:=by simp only[s];rw[List.getElem_set]
   rw[z];by_cases p:j=i
   .subst p;rw[aG rfl];have F:g[j].2=l:=by rw[(bE.1 x).2]
    have u:=n h j d;rw[F]at u;rw[List.count_append,u];by_cases b:h<k
    .simp[b,Nat.lt_succ_of_lt b,List.count_cons];omega
    .rw[aD (by omega:¬(h<k/\_))];by_cases e:h=k
     .subst e;rw[aG ⟨oZ,c⟩];simp
     .rw[aD (by omega:¬(h<k+1/\_))];simp[List.count_cons];omega
   .rw[aD p,n h i d];by_cases b:h<k
    .simp[b,Nat.lt_succ_of_lt b]
    .rw[aD (by omega:¬(h<k/\_)),aD];rintro⟨H,f⟩;have:h=k:=by omega
     subst this;rw[c]at f;injection f with f;exact p f
theorem KZ(a:List gW)(aR:Int):∀k,Fair a aR k (gTo a aR k)
 |0=>⟨λh b=>oZ,λh i hi=>by simp[gTo]at hi⟩
 |k+1=>aqn a aR k _ (KZ a aR k)
def many(rows:List (List Nat)):Nat->Nat
 |0=>0
 |i+1=>many rows i+(rows.getD i []).length
end Hst
end Go.Proofs.YtedmeglbjmdlhaaGreatDoor
