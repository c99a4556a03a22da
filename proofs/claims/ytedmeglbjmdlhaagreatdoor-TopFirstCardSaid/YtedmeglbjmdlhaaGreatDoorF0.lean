/-
Parts of TopFirst.
-/
import Derived.Lib.Hide
import Derived.WalkKit
import Derived.ProofKit
set_option maxRecDepth 100000
set_option maxHeartbeats 16000000
set_option linter.all false
namespace Go.Proofs.YtedmeglbjmdlhaaGreatDoor
open Bool renaming true->aa,and_eq_true->ab,false->ap
open Nat renaming mul_assoc->ac,div_eq_of_lt->ad,two_pow_pos->ah,xor_lt_two_pow->aj,pow_add->ak,one_mul->aq,div_le_self->av,add_zero->az
open List renaming range->ae,length_cons->ag,count_cons->ai,mem_singleton->ao,cons_append->ar,range_succ->aw,foldl_cons->ax,replicate->ay
open List.Pairwise renaming nil->al
open UInt8 renaming ofNat->an
open Go
namespace Cfg
end Cfg
namespace bO
end bO
namespace Crc
end Crc
namespace EM
end EM
namespace Dec
end Dec
namespace agV
end agV
namespace oU
end oU
namespace Dsk
end Dsk
namespace Dv
end Dv
namespace Fix
end Fix
namespace rM
end rM
namespace Jou
end Jou
namespace oQ
end oQ
namespace L
end L
namespace Led
end Led
namespace Ord
end Ord
namespace eO
end eO
namespace Quo
end Quo
namespace Srt
end Srt
namespace Top
end Top
namespace bT
end bT
namespace Tree
end Tree
namespace Vec
end Vec
namespace gT
end gT
namespace topFirst
end topFirst
open Cfg Crc Dec Dsk Dv Fix Jou Led Ord Quo Tree Vec rM
variable{n:Nat}{w:World}
theorem nZ{α:Sort _}(a:α):∃x,a=x:=⟨a,rfl⟩
theorem oZ{p:Prop}(h:p:=by omega):p:=h
theorem lZ:n<=n:=Nat.le_refl n
theorem bZ{o:Obj}:RowKit.Below w.heap.size w (w.alloc o):=(RowKit.Below.refl _ _).alloc (Nat.le_refl _) _
theorem kZ{p:Prop}(h:p:=by kernel_rfl):p:=h
theorem sZ{p:Prop}(h:p:=by simp):p:=h
theorem dZ{p:Prop}(h:p:=by decide):p:=h
theorem mZ{p:Prop}(h:p:=by go_num):p:=h
theorem qZ{p:Prop}(h:p):RowKit.Hid p:=h
theorem qY(p:Prop)(h:p):RowKit.Hid p:=h
instance:Coe Nat (Option Addr):=⟨λg=>some ⟨g,0,none⟩⟩
instance (g i:Nat):CoeDep (Nat×Nat) (g,i) Addr:=⟨⟨g,i,none⟩⟩
instance (g:World)(i:Nat):CoeDep (World×Nat) (g,i) Addr:=⟨⟨g.heap.size,i,none⟩⟩
instance:Coe Int Value:=⟨λx=>.int .i64 x⟩
instance:Coe Nat Value:=⟨λk=>.int .i64 (k:Int)⟩
instance:Coe Unit Value:=⟨λ_=>.int .i64 0⟩
instance:Coe Bool Value:=⟨λ_=>.slice none 0 0⟩
instance:Coe World Nat:=⟨λw=>w.heap.size⟩
abbrev CI(w:World)(b i:Nat)(x:Int):Prop:=w.cell? ⟨b,i,none⟩=some (.int .i64 x)
abbrev CV(w:World)(b i:Nat)(v:Value):Prop:=w.cell? ⟨b,i,none⟩=some v
def aH:= @List.getElem?_eq_getElem
def aV:= @List.getD_eq_getElem?_getD
def aM:= @Nat.lt_of_lt_of_le
def aF:= @if_neg
def aU:= @List.take_of_length_le
def aI:= @if_pos
def aZ:= @List.drop_succ_cons
def aW:= @List.length_append
def bJ:= @List.mem_cons_self
def bF:= @List.getElem?_eq_some_iff
def bK:= @List.mem_cons_of_mem
def bE:= @List.take_succ_eq_append_getElem
def aO:= @Nat.zero_add
def bB:= @List.drop_zero
def bD:= @List.getElem_mem
def bH:= @List.mem_cons
def bC:= @Nat.le_trans
def bI:= @Nat.zero_le
def bS:= @Array.getElem?_eq_some_iff
def bG:= @Nat.le_refl
def dD:= @Nat.mul_le_mul_right
def bP:= @List.length_map
def bN:= @List.length_take
def bM:= @List.append_assoc
def bU:= @List.mem_map
def cO:= @List.getElem?_append_left
def fM:= @Int.eq_ofNat_of_zero_le
def bY:= @Array.getElem?_eq_getElem
def dK:= @List.getElem?_append_right
def dY:= @List.mem_append_left
def dJ:= @List.cons.injEq
def cZ:= @List.drop_eq_getElem_cons
def dM:= @List.mem_append
def dG:= @List.map_cons
def dF:= @Array.getElem?_toList
def dA:= @List.flatMap_cons
def dB:= @congrArg
def bX:= @getElem!_pos
def dO:= @List.map_append
def dL:= @List.not_mem_nil
def fF:= @List.getElem?_toArray
def eG:= @List.length_filter_le
def dU:= @List.getElem?_take
def iD:= @Bool.eq_false_iff
def eH:= @List.getElem?_eq_none
def jY:= @List.pairwise_cons
def eT:= @decide_eq_true_eq
def dS:= @decide_eq_false
def gB:= @List.getElem?_map
def fB:= @List.foldl_append
def fK:= @List.eq_nil_of_length_eq_zero
def eB:= @Array.mk.injEq
def dW:= @Nat.mul_comm
def eY:= @List.append_toArray
def gL:= @List.mem_append_right
def eZ:= @List.append_nil
def fU:= @List.filter_append
def fJ:= @List.length_drop
def fO:= @List.size_toArray
def iE:= @List.nodup_cons
def iF:= @List.mem_filter
def gP:= @List.mem_of_getElem?
def fI:= @Nat.lt_or_ge
def eX:= @Nat.le_succ
def gZ:= @List.all_eq_true
def lS:= @List.take_add_one
def fP:= @List.ext_getElem?
def gD:= @List.Perm.refl
def fQ:= @List.map_nil
def fZ:= @Nat.add_mul
def gN:= @Nat.add_sub_cancel
def gX:= @List.take_append_drop
def iR:= @Int.le_refl
def gI:= @Nat.mul_one
def jG:= @Bool.false_eq_true
def iG:= @List.drop_of_length_le
def iH:= @List.drop_eq_nil_of_le
def jA:= @Array.getElem?_eq_none
def gV:= @Nat.min_eq_left
def kR:= @Int.mul_nonneg
def jJ:= @List.take_append_of_le_length
def iW:= @Nat.two_pow_add_eq_or_of_lt
def jF:= @Nat.eq_zero_or_pos
def jI:= @Nat.div_add_mod
def iY:= @Nat.add_assoc
def lC:= @List.length_eq_zero_iff
def jW:= @List.getElem?_set_self
def kG:= @List.nodup_append
def kX:= @List.getElem_of_mem
def kC:= @Nat.div_lt_iff_lt_mul
def gY:= @List.length_replicate
def jK:= @Array.setIfInBounds_comm
def jC:= @List.mem_flatMap
def jD:= @List.map_toArray
def kI:= @List.getElem?_set_ne
def jT:= @Nat.add_comm
def kQ:= @List.mem_range
def jQ:= @List.flatMap_append
def nA:= @List.filter_eq_nil_iff
def jU:= @List.flatMap_nil
def jZ:= @List.getElem?_drop
def kL:= @Array.replicate_succ
def jO:= @Nat.mod_lt
def lT:= @List.Sublist.refl
def kP:= @Nat.zero_mul
def oD:= @List.map_eq_nil_iff
def oF:= @List.length_pos_iff
def mP:= @List.filter_sublist
def lD:= @List.filter_cons_of_pos
def kS:= @List.any_eq_true
def aC:= @And.intro
def aK:= @Go.RowKit.Below.refl
def aT:= @Go.World.size_alloc
namespace Fix
def top:Nat:=18446744073709551615
def one:Nat:=4294967296
def add(a b:Nat):Nat:=if a+b<=top then a+b else top
def cut(n:Nat):Nat:=if n<=top then n else top
def mul(a b:Nat):Nat:=cut (a*b/one)
def quo(a b:Nat):Nat:=if a=0 then 0 else if b=0 then top else cut (a*one/b)
def ofInt(n:Int):Nat:=if n<=0 then 0 else if(one:Int)<=n then top else n.toNat*one
def uU(a b:Int):Nat:=quo a.toNat b.toNat
theorem add_lt(a b:Nat):add a b<=top:=by unfold add;split<;>omega
theorem ajC(n:Nat):cut n<=top:=by unfold cut;split<;>omega
theorem mul_lt(a b:Nat):mul a b<=top:=ajC _
theorem apq(a b:Nat):quo a b<=top:=by
 unfold quo;split
 .omega
 .split
  .omega
  .exact ajC _
theorem PG(n:Int):ofInt n<=top:=by
 unfold ofInt;split
 .exact bI _
 .split
  .exact bG _
  .simp only[one,top]at*;omega
theorem zK(h:n<=top):cut n=n:=aI h
theorem WL(h:top<n):cut n=top:=aF oZ
theorem mul_one(a:Nat)(h:a<=top):mul a one=a:=by unfold mul;rw[Nat.mul_div_cancel _ (by decide:0<one)];exact zK h
theorem mul_comm(a b:Nat):mul a b=mul b a:=by unfold mul;rw[dW]
theorem one_mul(a:Nat)(h:a<=top):mul one a=a:=by rw[mul_comm];exact mul_one a h
theorem add_comm(a b:Nat):add a b=add b a:=by unfold add;rw[jT]
def pre(a k:Nat):Nat:=a*one/2 ^ (96-k)
theorem aln(a:Nat)(h:a<=top):pre a 0=0:=by
 unfold pre;apply ad;have:a*one<2 ^ 96:=by
  have:a*one<=top*one:=dD _ h;have:top*one<2 ^ 96:=by decide
  omega
 simpa using this
theorem anT(a:Nat):pre a 96=a*one:=by simp[pre]
theorem abu(a k:Nat)(h:k<96):pre a (k+1)=2*pre a k+pre a (k+1)%2:=by
 have e:pre a k=pre a (k+1)/2:=by unfold pre;rw[Nat.div_div_eq_div_mul,show(2:Nat) ^ (96-(k+1))*2=2 ^ (96-k) by rw[<-Nat.pow_succ];congr 1;omega]
 rw[e];omega
theorem anU(a k:Nat)(h:k<64):pre a (k+1)%2=a/2 ^ (63-k)%2:=by unfold pre;rw[show(2:Nat) ^ (96-(k+1))=2 ^ (63-k)*one by rw[show one=2 ^ 32 from rfl,<-ak];congr 1;omega,Nat.mul_div_mul_right _ _ (by decide:0<one)]
theorem anS(a k:Nat)(h:64<=k)(b:k<96):pre a (k+1)%2=0:=by
 unfold pre;have e:a*one=a*2 ^ (k-64+1)*2 ^ (96-(k+1)):=by rw[ac,<-ak,show one=2 ^ 32 from rfl];congr 2;omega
 rw[e,Nat.mul_div_cancel _ (ah _),Nat.pow_succ,<-ac];omega
theorem aps(a k:Nat)(h:k<=96):pre a k<=a*one:=av _ _
theorem amD(x b t:Nat)(a:0<b)(f:t<2):(2*x+t)/b=2*(x/b)+(if b<=2*(x%b)+t then 1 else 0)/\(2*x+t)%b=(if b<=2*(x%b)+t then 2*(x%b)+t-b else 2*(x%b)+t):=by
 have c:=jI x b;have d:=jO x a;generalize x/b=q at*;generalize x%b=r at*;have e:2*x+t=b*(2*q)+(2*r+t):=by rw[<-c];simp only[Nat.mul_add];rw[Nat.mul_left_comm];omega
 rw[e,Nat.mul_add_div a,Nat.mul_add_mod];by_cases h:b<=2*r+t
 .rw[aI h,aI h];have e2:2*r+t=b*1+(2*r+t-b):=oZ;constructor
  .rw[e2,Nat.mul_add_div a,ad oZ]
  .conv=>lhs;rw[e2]
   rw[Nat.mul_add_mod,Nat.mod_eq_of_lt oZ]
 .rw[aF h,aF h];exact⟨by rw[ad oZ],Nat.mod_eq_of_lt oZ⟩
theorem alD(a b k:Nat)(e:k<96)(h:9223372036854775808<=pre a k/b):cut (a*one/b)=top:=by
 apply WL;have d:0<b:=by
  rcases jF b with c|c
  .rw[c,Nat.div_zero]at h;omega
  .exact c
 have f:2*pre a k<=pre a (k+1):=by rw[abu a k e];omega
 have g:pre a (k+1)<=a*one:=aps _ _ oZ;have i:2*(pre a k/b)<=2*pre a k/b:=by rw[Nat.le_div_iff_mul_le d];have:=Nat.div_mul_le_self (pre a k) b;rw[ac];omega
 have j:2*pre a k/b<=a*one/b:=Nat.div_le_div_right oZ;have:top<2*9223372036854775808:=by decide
 omega
end Fix
namespace Vec
structure V where
 x:Int
 y:Int
 z:Int
theorem V.ext'{a b:V}(c:a.x=b.x)(d:a.y=b.y)(e:a.z=b.z):a=b:=by cases a;cases b;simp_all
def cut(n m:Int):Int:=min (max n (-m)) m
def add1(x y:Int):Int:=cut (cut x 1099511627776+cut y 1099511627776) 1099511627776
def vB(x y:Int):Int:=cut (cut x 1099511627776-cut y 1099511627776) 1099511627776
def wX(x n:Int):Int:=cut (cut x 1099511627776*cut n 1048576) 1099511627776
def ok1(x:Int):Bool:=decide (0<=x)&&decide (x<=1048576)
def zero:V:=⟨0,0,0⟩
def add(a b:V):V:=⟨add1 a.x b.x,add1 a.y b.y,add1 a.z b.z⟩
def sub(a b:V):V:=⟨vB a.x b.x,vB a.y b.y,vB a.z b.z⟩
def nI(a:V)(n:Int):V:=⟨wX a.x n,wX a.y n,wX a.z n⟩
def lU(a:V):Bool:=ok1 a.x&&(ok1 a.y&&ok1 a.z)
def dX(a b:V):Bool:=decide (a.x<=b.x)&&(decide (a.y<=b.y)&&decide (a.z<=b.z))
def WJ(m:Nat)(u k:Int):Nat:=if 0<u then max m (uU u k)else m
def dom(u a:V):Nat:=WJ (WJ (WJ 0 u.x a.x) u.y a.y) u.z a.z
theorem nV(n m:Int)(h:0<=m): -m<=cut n m:=by unfold cut;omega
theorem nW(n m:Int)(h:0<=m):cut n m<=m:=by unfold cut;omega
theorem wL(n m:Int)(a: -m<=n)(b:n<=m):cut n m=n:=by unfold cut;omega
theorem ajB(n m:Int)(h:0<=m):max (-m) (min n m)=cut n m:=by unfold cut;omega
theorem aog(x:Int):ok1 x=aa↔0<=x/\x<=1048576:=by unfold ok1;simp
theorem pR(a:V):lU a=aa↔(0<=a.x/\a.x<=1048576)/\(0<=a.y/\a.y<=1048576)/\(0<=a.z/\a.z<=1048576):=by unfold lU;simp only[ab,aog]
theorem yR(a b:V):dX a b=aa↔a.x<=b.x/\a.y<=b.y/\a.z<=b.z:=by unfold dX;simp only[ab,eT]
theorem FP(x y:Int)(a:0<=x)(b:x<=274877906944)(c:0<=y)(d:y<=274877906944):add1 x y=x+y:=by unfold add1;rw[wL x _ oZ oZ,wL y _ oZ oZ,wL _ _ oZ oZ]
theorem VE(x y:Int)(a:0<=x)(b:x<=549755813888)(c:0<=y)(d:y<=549755813888):vB x y=x-y:=by unfold vB;rw[wL x _ oZ oZ,wL y _ oZ oZ,wL _ _ oZ oZ]
theorem WI(m:Nat)(u k:Int)(h:m<=Fix.top):WJ m u k<=Fix.top:=by
 unfold WJ;split
 .have:uU u k<=Fix.top:=apq _ _;omega
 .exact h
theorem apV(u a:V):dom u a<=Fix.top:=WI _ _ _ (WI _ _ _ (WI _ _ _ (bI _)))
end Vec
variable{i k:Nat}
namespace Cfg
open Go.Proofs.YtedmeglbjmdlhaaGreatDoor
structure lN where
 parent:Int
 iO:Int
 fC:Vec.V
 borrow:Vec.V
 lend:Vec.V
structure iI where
 flavor:Int
 block:Int
 zM:Int
 cap:Vec.V
structure C where
 aN:List lN
 aR:List iI
 aG:Int
 aJ:Int
instance:Inhabited lN:=⟨⟨0,0,Vec.zero,Vec.zero,Vec.zero⟩⟩
instance:Inhabited iI:=⟨⟨0,0,0,Vec.zero⟩⟩
def iP(c:C)(n:Int):Bool:=decide (0<=n)&&decide (n<(c.aN.length:Int))&&c.aN.all (λx=>x.parent !=n)
def gQ(c:C):List Nat:=(ae c.aN.length).filter λi=>iP c (i:Int)
def xR(c:C):Vec.V:=c.aR.foldl (λv h=>Vec.add v h.cap) Vec.zero
def fD(n lo hi:Int):Bool:=decide (lo<=n)&&decide (n<=hi)
def pW(v:Vec.V):Bool:=v.x==0&&(v.y==0&&v.z==0)
def abz(i:Nat)(p:Int):Bool:=if i=0 then p== -1 else fD p 0 ((i:Int)-1)
def xW(c:C)(i:Nat)(n:lN):Bool:=abz i n.parent&&fD n.iO 1 1000&&(if iP c (i:Int)then lU n.fC&&(lU n.borrow&&(lU n.lend&&Vec.dX n.lend n.fC))else pW n.fC&&(pW n.borrow&&pW n.lend))
def wI(h:iI):Bool:=fD h.flavor 0 100&&(fD h.block 0 100&&(fD h.zM 0 100&&lU h.cap))
def nK(c:C)(k:Nat):Bool:=(ae k).all λi=>xW c i (c.aN.getD i default)
def nL(c:C)(k:Nat):Bool:=(ae k).all λi=>wI (c.aR.getD i default)
def EU(c:C):Bool:=fD (c.aN.length:Int) 1 12&&(fD (c.aR.length:Int) 1 24&&(fD c.aG 1 1048576&&fD c.aJ 0 1048576))
def ok(c:C):Bool:=EU c&&(nK c c.aN.length&&nL c c.aR.length)
def check(c:C):Int:=if ok c then 0 else 2
theorem wN(n lo hi:Int):fD n lo hi=aa↔lo<=n/\n<=hi:=by unfold fD;simp
theorem abD(c:C)(k:Nat):nK c (k+1)=(nK c k&&xW c k (c.aN.getD k default)):=by unfold nK;rw[aw];simp
theorem abW(c:C)(k:Nat):nL c (k+1)=(nL c k&&wI (c.aR.getD k default)):=by unfold nL;rw[aw];simp
theorem afJ{c:C}(h:nK c n=aa)(hi:i<n):xW c i (c.aN.getD i default)=aa:=by unfold nK at h;rw[gZ]at h;exact h i (by simpa using hi)
theorem IG{c:C}(h:nL c n=aa)(hi:i<n):wI (c.aR.getD i default)=aa:=by unfold nL at h;rw[gZ]at h;exact h i (by simpa using hi)
theorem afI{c:C}(h:nK c n=aa)(a:k<=n):nK c k=aa:=by unfold nK at*;rw[gZ]at*;intro i hi;exact h i (by simp at hi⊢;omega)
theorem PL(c:C)(n:Int):iP c n=aa↔0<=n/\n<(c.aN.length:Int)/\∀x∈c.aN,x.parent≠n:=by unfold iP;simp[and_assoc]
theorem alI{c:C}(h:ok c=aa):nK c c.aN.length=aa:=by unfold ok at h;simp only[ab]at h;exact h.2.1
theorem PE{c:C}(h:ok c=aa):nL c c.aR.length=aa:=by unfold ok at h;simp only[ab]at h;exact h.2.2
theorem yO{c:C}(h:ok c=aa):(1<=c.aN.length/\c.aN.length<=12)/\(1<=c.aR.length/\c.aR.length<=24)/\(1<=c.aG/\c.aG<=1048576)/\(0<=c.aJ/\c.aJ<=1048576):=by unfold ok EU at h;simp only[ab,wN]at h;omega
def sN(a b:Vec.V):Bool:=a.x==b.x&&(a.y==b.y&&a.z==b.z)
def aam(a b:lN):Bool:=a.parent==b.parent&&(a.iO==b.iO&&(sN a.fC b.fC&&(sN a.borrow b.borrow&&sN a.lend b.lend)))
end Cfg
variable{c:Cfg.C}
namespace Tree
open Go.Proofs.YtedmeglbjmdlhaaGreatDoor
def par(c:Cfg.C)(n:Nat):Int:=(c.aN.getD n default).parent
def upF(c:Cfg.C):Nat->Int->List Nat
 |0,_=>[]
 |f+1,n=>if 0<=n/\n<(c.aN.length:Int)then n.toNat::(if n<=par c n.toNat then[]else upF c f (par c n.toNat))else[]
def up(c:Cfg.C)(n:Int):List Nat:=upF c (n.toNat+1) n
def path(c:Cfg.C)(n:Int):List Nat:=(up c n).reverse
def on(c:Cfg.C)(n:Int)(t:Nat):Bool:=(up c (t:Int)).any λx=>(x:Int)==n
def below(c:Cfg.C)(n:Int):List Nat:=(gQ c).filter λt=>on c n t
def dR(l:List Vec.V)(n:Int):Vec.V:=if 0<=n/\n<(l.length:Int)then l.getD n.toNat Vec.zero else Vec.zero
def sum(c:Cfg.C)(n:Int)(l:List Vec.V):Vec.V:=(below c n).foldl (λv (t:Nat)=>Vec.add v (dR l (t:Int))) Vec.zero
theorem aaJ(c:Cfg.C):∀(f g:Nat) (n:Int),n.toNat<f->n.toNat<g->upF c f n=upF c g n
 |0,_,_,h,_=>oZ
 |_,0,_,_,h=>oZ
 |f+1,g+1,n,e,i=>by
  unfold upF;by_cases h:0<=n/\n<(c.aN.length:Int)
  .rw[aI h,aI h];by_cases a:n<=par c n.toNat
   .rw[aI a,aI a]
   .rw[aF a,aF a];by_cases d:par c n.toNat<0
    .have b:∀k,upF c k (par c n.toNat)=[]:=by
      intro k;cases k with
      |zero=>rfl
      |succ k=>unfold upF;rw[aF oZ]
     rw[b,b]
    .rw[aaJ c f g _ oZ oZ]
  .rw[aF h,aF h]
theorem KA(c:Cfg.C)(n:Int)(h:¬(0<=n/\n<(c.aN.length:Int))):up c n=[]:=by unfold up upF;rw[aF h]
theorem aal(c:Cfg.C)(n:Nat)(h:n<c.aN.length):up c (n:Int)=n::(if(n:Int)<=par c n then[]else up c (par c n)):=by
 show upF c (n+1) (n:Int)=_;rw[upF,aI oZ,Int.toNat_natCast];by_cases a:(n:Int)<=par c n
 .rw[aI a,aI a]
 .rw[aF a,aF a];by_cases b:par c n<0
  .rw[KA c _ oZ];cases n with
   |zero=>rfl
   |succ k=>unfold upF;rw[aF oZ]
  .unfold up;rw[aaJ c n ((par c n).toNat+1) (par c n) oZ oZ]
theorem aaK(c:Cfg.C):∀(f:Nat) (n:Int),∀x∈upF c f n,x<c.aN.length/\(x:Int)<=n
 |0,_,x,h=>by simp[upF]at h
 |f+1,n,x,h=>by
  unfold upF at h;split at h
  .rename_i hn;rcases bH.1 h with rfl|h
   .omega
   .split at h
    .simp at h
    .rename_i hp;have:=aaK c f _ x h;omega
  .simp at h
theorem aak(c:Cfg.C)(n:Int):∀x∈up c n,x<c.aN.length/\(x:Int)<=n:=aaK c _ n
theorem KD(c:Cfg.C):∀(f:Nat) (n:Int),(upF c f n).Pairwise (λa b=>b<a)
 |0,_=>al
 |f+1,n=>by
  unfold upF;split
  .rename_i hn;refine List.Pairwise.cons ?_ ?_
   .intro b d;split at d
    .simp at d
    .rename_i hp;have:=aaK c f _ b d;omega
   .split
    .exact al
    .exact KD c f _
  .exact al
theorem DZ(c:Cfg.C)(n:Int):(up c n).Pairwise (λa b=>b<a):=KD c _ n
theorem aaG(c:Cfg.C)(n:Int):(up c n).Nodup:=(DZ c n).imp (λh=>oZ)
theorem RD(c:Cfg.C):∀(f:Nat) (n:Int),(upF c f n).length<=f
 |0,_=>bG _
 |f+1,n=>by
  unfold upF;split
  .rw[ag];split
   .simp
   .have:=RD c f (par c n.toNat);omega
  .simp
theorem uZ(c:Cfg.C)(n:Int):(up c n).length<=c.aN.length:=by
 by_cases h:0<=n/\n<(c.aN.length:Int)
 .have:=RD c (n.toNat+1) n;unfold up;omega
 .rw[KA c n h];simp
theorem IC(c:Cfg.C)(t:Nat):t∈gQ c↔iP c (t:Int)=aa:=by
 unfold gQ;rw[iF,kQ];constructor
 .exactλh=>h.2
 .intro h;refine⟨?_,h⟩;rw[PL]at h;omega
theorem xL{t:Int}(h:iP c t=aa):0<=t/\t<(c.aN.length:Int):=by rw[PL]at h;omega
end Tree
namespace Led
open Go.Proofs.YtedmeglbjmdlhaaGreatDoor
abbrev U:=Nat->Vec.V
def none_:U:=λ_=>Vec.zero
def bump(f:Vec.V->Vec.V)(u:U)(xs:List Nat):U:=λi=>if i∈xs then f (u i)else u i
def alW(c:Cfg.C)(u:U)(t:Int):Vec.V:=if iP c t then u t.toNat else Vec.zero
def change(c:Cfg.C)(u:U)(t:Int)(f:Vec.V->Vec.V):U:=if iP c t then bump f u (Tree.up c t)else u
def LJ(c:Cfg.C)(t:Int):Int:=if iP c t then 0 else 3
def take(c:Cfg.C)(u:U)(t:Int)(v:Vec.V):U:=if lU v then change c u t (λa=>Vec.add a v)else u
def aol(c:Cfg.C)(u:U)(t:Int)(v:Vec.V):Bool:=lU v&&Vec.dX v (alW c u t)
def give(c:Cfg.C)(u:U)(t:Int)(v:Vec.V):U:=if aol c u t v then change c u t (λa=>Vec.sub a v)else u
def all(c:Cfg.C)(u:U):List Vec.V:=(ae c.aN.length).map u
def dR(c:Cfg.C)(u:U)(n:Int):Vec.V:=if 0<=n/\n<(c.aN.length:Int)then u n.toNat else Vec.zero
theorem acE(f:Vec.V->Vec.V)(u:U):bump f u []=u:=by funext i;simp[bump]
theorem ajT(f:Vec.V->Vec.V)(u:U){xs ys:List Nat}(h:∀i,i∈xs↔i∈ys):bump f u xs=bump f u ys:=by funext i;unfold bump;simp[h i]
end Led
namespace Hst
open Go.Proofs.YtedmeglbjmdlhaaGreatDoor
def one(f:Vec.V->Vec.V->Vec.V)(need:Vec.V)(out:List Vec.V)(h:Int):List Vec.V:=if 0<=h/\h<(out.length:Int)then out.set h.toNat (f (out.getD h.toNat Vec.zero) need)else out
def dV(f:Vec.V->Vec.V->Vec.V)(need:Vec.V)(l:List Int)(out:List Vec.V):List Vec.V:=l.foldl (one f need) out
def caps(hs:List iI):List Vec.V:=hs.map (·.cap)
def free(hs:List iI)(rs:List (Vec.V×List Int)):List Vec.V:=rs.foldl (λo r=>dV Vec.sub r.1 r.2 o) (caps hs)
theorem afG(f:Vec.V->Vec.V->Vec.V)(need:Vec.V)(out:List Vec.V)(h:Int):(one f need out h).length=out.length:=by unfold one;split<;>simp
theorem wK(f:Vec.V->Vec.V->Vec.V)(need:Vec.V):∀(l:List Int) (out:List Vec.V),(dV f need l out).length=out.length
 |[],out=>rfl
 |h::l,out=>by show(dV f need l (one f need out h)).length=_;rw[wK f need l,afG]
theorem YV(f:Vec.V->Vec.V->Vec.V)(need:Vec.V)(l:List Int)(out:List Vec.V)(k:Nat)(h:k<l.length):dV f need (l.take (k+1)) out=one f need (dV f need (l.take k) out) l[k]:=by unfold dV;rw[lS,aH h,fB];rfl
def sG(hs:List iI)(rs:List (Vec.V×List Int))(k:Nat):List Vec.V:=free hs (rs.take k)
theorem OC(hs:List iI)(rs:List (Vec.V×List Int))(k:Nat)(h:k<rs.length):sG hs rs (k+1)=dV Vec.sub rs[k].1 rs[k].2 (sG hs rs k):=by unfold sG free;rw[lS,aH h,fB];rfl
theorem OB(hs:List iI):∀(rs:List (Vec.V×List Int)),(free hs rs).length=hs.length:=by
 intro rs;have b:∀(rs:List (Vec.V×List Int)) (o:List Vec.V),(rs.foldl (λo r=>dV Vec.sub r.1 r.2 o) o).length=o.length:=by
  intro rs;induction rs with
  |nil=>intro o;rfl
  |cons r rs a=>intro o;rw[ax,a,wK]
 rw[free,b];simp[caps]
theorem zO(hs:List iI)(rs:List (Vec.V×List Int))(k:Nat):(sG hs rs k).length=hs.length:=OB hs _
theorem SY(hs:List iI)(rs:List (Vec.V×List Int))(k:Nat)(h:rs.length<=k):sG hs rs k=free hs rs:=by unfold sG;rw[aU h]
def vV(hs:List iI)(k:Nat):List Vec.V:=(caps hs).take k++ay (hs.length-k) Vec.zero
theorem agD(hs:List iI):vV hs 0=ay hs.length Vec.zero:=by simp[vV]
theorem ajQ(hs:List iI)(k:Nat)(h:hs.length<=k):vV hs k=caps hs:=by unfold vV;rw[aU (by simpa[caps]using h),show hs.length-k=0 by omega];simp
theorem acB(hs:List iI)(k:Nat)(h:k<=hs.length):(vV hs k).length=hs.length:=by simp[vV,caps];omega
theorem agE(hs:List iI)(k:Nat)(h:k<hs.length):(vV hs k).set k hs[k].cap=vV hs (k+1):=by
 unfold vV;have a:(List.take k (caps hs)).length=k:=by simp[caps];omega
 rw[List.set_append_right _ _ oZ,a,Nat.sub_self,show hs.length-k=(hs.length-(k+1))+1 by omega,List.replicate_succ,List.set_cons_zero,lS];have:(caps hs)[k]? =some hs[k].cap:=by simp[caps,aH h]
 rw[this,bM];rfl
def fine(o:List Vec.V)(l:List Int):Bool:=l.all λh=>Vec.dX Vec.zero (o.getD h.toNat Vec.zero)
end Hst
namespace Ord
open Go.Proofs.YtedmeglbjmdlhaaGreatDoor
structure P where
 id:Int
 dI:Int
 fG:Int
 need:Vec.V
 run:Int
 aP:Int
 prefer:Int
 seq:Int
 since:Int
instance:Inhabited P:=⟨⟨0,0,0,⟨0,0,0⟩,0,0,0,0,0⟩⟩
def num(a b:Int):Int:=if a<b then-1 else if b<a then 1 else 0
def or2(a b:Int):Int:=if a≠0 then a else b
def old(aJ aQ since:Int):Bool:=decide (0<aJ)&&decide (since<=aQ)&&decide (aJ<=aQ-since)
def pY(c:Cfg.C)(h:List Nat)(n:Int):Nat:=(Tree.below c n).foldl (λs (t:Nat)=>if t<h.length then Fix.add s (h.getD t 0)else s) 0
def iO(c:Cfg.C)(n:Int):Int:=if 0<=n/\n<(c.aN.length:Int)then max 1 ((c.aN.getD n.toNat default).iO)else 1
def aP(c:Cfg.C)(h:List Nat)(n:Int):Nat:=Fix.quo (pY c h n) (Fix.ofInt (iO c n))
def aN(c:Cfg.C)(h:List Nat)(a b:Nat):Int:=or2 (num (aP c h (a:Int)) (aP c h (b:Int))) (num a b)
def lex(f:Nat->Nat->Int):List Nat->List Nat->Int
 |[],[]=>0
 |[],_::_=> -1
 |_::_,[]=>1
 |x::xs,y::ys=>if x=y then lex f xs ys else f x y
def tree(c:Cfg.C)(h:List Nat)(a b:Int):Int:=lex (aN c h) (Tree.path c a) (Tree.path c b)
def nS(c:Cfg.C)(aQ:Int)(p:P):Bool:=old c.aJ aQ p.since
def cmp(c:Cfg.C)(h:List Nat)(aQ:Int)(a b:P):Int:=if nS c aQ a=aa/\nS c aQ b=ap then-1 else if nS c aQ b=aa/\nS c aQ a=ap then 1 else if nS c aQ a=aa then num a.seq b.seq else or2 (tree c h a.dI b.dI) (num a.seq b.seq)
structure iQ {α:Type} (f:α->α->Int):Prop where
 neg:∀a b,f a b= -f b a
 sgn:∀a b,f a b= -1\/f a b=0\/f a b=1
 trans:∀a b c,f a b<=0->f b c<=0->f a c<=0
theorem iQ.self{α:Type}{f:α->α->Int}(h:iQ f)(a:α):f a a=0:=by have:=h.neg a a;omega
theorem iQ.strict{α:Type}{f:α->α->Int}(h:iQ f){a b c:α}(d:f a b<=0)(e:f b c<=0)(g:f a c=0):f a b=0/\f b c=0:=by have n1:=h.neg a c;have n2:=h.neg a b;have i:=h.neg b c;have j:=h.trans b c a e oZ;have k:=h.trans c a b oZ d;omega
theorem iQ.eq_left{α:Type}{f:α->α->Int}(h:iQ f){a b:α}(c:α)(d:f a b=0):f a c=f b c:=by have n1:=h.neg a b;have n2:=h.neg a c;have e:=h.neg b c;have s1:=h.sgn a c;have s2:=h.sgn b c;have g:=h.trans a b c oZ;have i:=h.trans b a c oZ;have j:=h.trans c a b;have t4:=h.trans c b a;omega
theorem VN:iQ num:=by
 refine⟨λa b=>?_,λa b=>?_,λa b c=>?_⟩
 .unfold num;split<;>split<;>omega
 .unfold num;split
  .omega
  .split<;>omega
 .unfold num;split<;>split<;>(try split)<;>(try split)<;>(try split)<;>(try split)<;>omega
theorem alK{a b:Int}(h:num a b=0):a=b:=by unfold num at h;split at h;omega;split at h<;>omega
theorem iQ.pull{α β:Type}{f:α->α->Int}(h:iQ f)(g:β->α):iQ (λa b=>f (g a) (g b)):=⟨λ_ _=>h.neg _ _,λ_ _=>h.sgn _ _,λ_ _ _=>h.trans _ _ _⟩
theorem iQ.or{α:Type}{f g:α->α->Int}(d:iQ f)(e:iQ g):iQ (λa b=>or2 (f a b) (g a b)):=by
 refine⟨λa b=>?_,λa b=>?_,λa b c i j=>?_⟩
 .have:=d.neg a b;have:=e.neg a b;simp only[or2];split<;>split<;>omega
 .have:=d.sgn a b;have:=e.sgn a b;simp only[or2];split<;>omega
 .have t:=d.trans a b c;have s:= @iQ.strict α f d a b c;have k:=e.trans a b c;simp only[or2]at i j⊢;split at i<;>split at j<;>split<;>omega
theorem aem{f:Nat->Nat->Int}(j:iQ f)(k:∀a b,f a b=0->a=b):iQ (lex f):=by
 refine⟨?_,?_,?_⟩
 .intro a;induction a with
  |nil=>intro b;cases b<;>simp[lex]
  |cons x xs i=>
   intro b;cases b with
   |nil=>simp[lex]
   |cons y ys=>
    simp only[lex];by_cases h:x=y
    .rw[aI h,aI h.symm];exact i ys
    .rw[aF h,aF λe=>h e.symm];exact j.neg x y
 .intro a;induction a with
  |nil=>intro b;cases b<;>simp[lex]
  |cons x xs i=>
   intro b;cases b with
   |nil=>simp[lex]
   |cons y ys=>
    simp only[lex];split
    .exact i ys
    .exact j.sgn x y
 .intro a;induction a with
  |nil=>intro b c _ _;cases c<;>simp[lex]
  |cons x xs i=>
   intro b c g d;cases b with
   |nil=>simp[lex]at g
   |cons y ys=>
    cases c with
    |nil=>simp[lex]at d
    |cons z m=>
     simp only[lex]at g d⊢;have t:=j.trans x y z;by_cases e1:x=y
     .subst e1;rw[aI rfl]at g;by_cases e2:x=z
      .subst e2;rw[aI rfl]at d⊢;exact i ys m g d
      .rw[aF e2]at d⊢;exact d
     .rw[aF e1]at g;by_cases e2:y=z
      .subst e2;rw[aF e1];exact g
      .rw[aF e2]at d;have l:=t g d;by_cases e3:x=z
       .subst e3;have n:=j.neg x y;have:=k x y oZ;exact absurd this e1
       .rw[aF e3];exact l
theorem YI(c:Cfg.C)(h:List Nat):iQ (aN c h):=
 (VN.pull λa:Nat=>((aP c h (a:Int):Nat):Int)).or (VN.pull λa:Nat=>(a:Int))
theorem SC(c:Cfg.C)(h:List Nat)(a b:Nat)(e:aN c h a b=0):a=b:=by
 unfold aN or2 at e;split at e
 .omega
 .have:=alK e;omega
theorem ahn(c:Cfg.C)(h:List Nat)(a:Int):tree c h a a=0:=(aem (YI c h) (SC c h)).self _
def SB(a b:Bool):Int:=if a=aa/\b=ap then-1 else if b=aa/\a=ap then 1 else 0
theorem afH:iQ SB:=⟨dZ,dZ,dZ⟩
def way(c:Cfg.C)(aQ:Int)(p:P):List Nat:=if nS c aQ p=aa then[]else Tree.path c p.dI
theorem cmp_eq(c:Cfg.C)(h:List Nat)(aQ:Int)(a b:P):cmp c h aQ a b=or2 (SB (nS c aQ a) (nS c aQ b)) (or2 (lex (aN c h) (way c aQ a) (way c aQ b)) (num a.seq b.seq)):=by unfold cmp way tree SB;cases nS c aQ a<;>cases nS c aQ b<;>simp[or2,lex]
theorem AX(c:Cfg.C)(h:List Nat)(aQ:Int):iQ (cmp c h aQ):=by
 have e:cmp c h aQ=λa b=>or2 (SB (nS c aQ a) (nS c aQ b)) (or2 (lex (aN c h) (way c aQ a) (way c aQ b)) (num a.seq b.seq)):=by funext a b;exact cmp_eq c h aQ a b
 rw[e];exact(afH.pull (nS c aQ)).or (((aem (YI c h) (SC c h)).pull (way c aQ)).or (VN.pull λp:P=>p.seq))
end Ord
namespace Dv
def B:Nat:=4294967296
theorem more{U u Y a b q r:Nat}(d:Y=a*B+b)(f:q*a+r=U)(g:(U*B+u)/Y<B)(e:0<Y)(h:B<=q\/B*r+u<q*b)(i:(U*B+u)/Y<=q):(U*B+u)/Y<=q-1/\1<=q:=by
 have c:(U*B+u)/Y<q:=by
  rcases h with h|h
  .omega
  .rw[kC e,d,<-f];have e1:q*(a*B+b)=q*a*B+q*b:=by rw[Nat.mul_add,ac]
   have e2:(q*a+r)*B=q*a*B+B*r:=by rw[fZ,dW r B]
   omega
 exact⟨Nat.le_sub_one_of_lt c,Nat.lt_of_le_of_lt (bI _) c⟩
theorem done{U u Y a b q r:Nat}(c:Y=a*B+b)(f:q*a+r=U)(e:0<Y)(h:q*b<=B*r+u)(d:(U*B+u)/Y<=q):q=(U*B+u)/Y:=by
 have g:q<=(U*B+u)/Y:=by
  rw[Nat.le_div_iff_mul_le e,c,<-f];have e1:q*(a*B+b)=q*a*B+q*b:=by rw[Nat.mul_add,ac]
  have e2:(q*a+r)*B=q*a*B+B*r:=by rw[fZ,dW r B]
  omega
 exact Nat.le_antisymm g d
theorem brk{U u Y a b q r:Nat}(g:Y=a*B+b)(k:b<B)(j:q*a+r=U)(f:U<Y)(c:B<=r):q*b<=B*r+u:=by
 have i:q<B:=by
  rcases fI q B with h|h
  .exact h
  .have:B*a<=q*a:=dD _ h;rw[dW B a]at this;omega
 have d:q*b<=B*B:=Nat.mul_le_mul oZ oZ;have e:B*B<=B*r:=Nat.mul_le_mul_left _ c;omega
theorem start{U u Y a d:Nat}(g:Y=a*B+d)(b:u<B)(c:0<a):(U*B+u)/Y<=U/a:=by
 have e:(U*B+u)/Y<=(U*B+u)/(a*B):=Nat.div_le_div_left oZ (Nat.mul_pos c dZ);have f:(U*B+u)/(a*B)=U/a:=by rw[dW a B,<-Nat.div_div_eq_div_mul,dW U B,Nat.mul_add_div (by decide:0<B),ad b,az]
 omega
theorem small{U u Y:Nat}(a:U<Y)(b:u<B):(U*B+u)/Y<B:=by rw[kC oZ];have:(U+1)*B<=Y*B:=dD _ a;rw[fZ,aq]at this;rw[dW B Y];omega
theorem both(U u1 u0 Y:Nat)(b:0<Y):(U*B+u1)/Y*B+((U*B+u1)%Y*B+u0)/Y=(U*(B*B)+(u1*B+u0))/Y:=by
 have e:U*(B*B)+(u1*B+u0)=(U*B+u1)*B+u0:=by rw[fZ,ac];omega
 have a:=jI (U*B+u1) Y;generalize(U*B+u1)/Y=q at*;generalize(U*B+u1)%Y=r at*;rw[e,<-a];have e2:(Y*q+r)*B+u0=r*B+u0+Y*(q*B):=by rw[fZ,ac];omega
 rw[e2,Nat.add_mul_div_left _ _ b];omega
theorem left(U u Y Q:Nat)(d:Y<18446744073709551616)(c:0<Y)(b:(U*B+u)/Y=Q):U*B+u=Q*Y+(U*B+u)%Y/\(U*B+u)%Y<Y:=by have a:=jI (U*B+u) Y;rw[b,dW]at a;exact⟨a.symm,jO _ c⟩
theorem norm(hi lo y:Nat)(i:hi<y)(g:lo<18446744073709551616)(j:y<18446744073709551616):∃s,s<64/\2 ^ (63-s)<=y/\y/2 ^ (63-s)=1/\9223372036854775808<=y*2 ^ s/\y*2 ^ s<18446744073709551616/\hi*2 ^ s<18446744073709551616/\lo/2 ^ (64-s)<2 ^ s/\hi*2 ^ s+lo/2 ^ (64-s)<y*2 ^ s/\(hi*18446744073709551616+lo)*2 ^ s=(hi*2 ^ s+lo/2 ^ (64-s))*18446744073709551616+lo*2 ^ s%18446744073709551616:=by
 have d:y≠0:=oZ;have a:=Nat.log2_self_le d;have b:= @Nat.lt_log2_self y;have l:y.log2<64:=(Nat.log2_lt d).2 j;generalize y.log2=k at*;have hs:63-(63-k)=k:=oZ;have p1:(2:Nat) ^ k*2 ^ (63-k)=9223372036854775808:=by rw[<-ak,show k+(63-k)=63 by omega]
 have p2:(2:Nat) ^ (k+1)*2 ^ (63-k)=18446744073709551616:=by rw[<-ak,show k+1+(63-k)=64 by omega]
 have p3:(2:Nat) ^ (64-(63-k))*2 ^ (63-k)=18446744073709551616:=by rw[<-ak,show 64-(63-k)+(63-k)=64 by omega]
 have c:0<2 ^ (63-k):=ah _;have a1:9223372036854775808<=y*2 ^ (63-k):=by rw[<-p1];exact dD _ a
 have a2:y*2 ^ (63-k)<18446744073709551616:=by rw[<-p2];exact Nat.mul_lt_mul_of_pos_right b c
 have a3:(hi+1)*2 ^ (63-k)<=y*2 ^ (63-k):=dD _ i;rw[fZ,aq]at a3;have a4:lo/2 ^ (64-(63-k))<2 ^ (63-k):=by rw[kC (ah _),dW,p3];exact g
 refine⟨63-k,oZ,by rw[hs];exact a,?_,a1,a2,oZ,a4,oZ,?_⟩
 .rw[hs];exact Nat.div_eq_of_lt_le (by rw[aq];exact a) (by rw[Nat.pow_succ]at b;omega)
 .have f:=jI (lo*2 ^ (63-k)) 18446744073709551616;have e:lo*2 ^ (63-k)/18446744073709551616=lo/2 ^ (64-(63-k)):=by rw[<-p3];exact Nat.mul_div_mul_right _ _ c
  rw[e]at f;rw[fZ,fZ,Nat.mul_right_comm];omega
theorem shifted(N y s:Nat):N*2 ^ s/(y*2 ^ s)=N/y:=Nat.mul_div_mul_right _ _ (ah _)
end Dv
variable{d:Int}
namespace Led
open Go.Proofs.YtedmeglbjmdlhaaGreatDoor
def tV(f:Nat->Int):List Nat->Int
 |[]=>0
 |x::xs=>f x+tV f xs
theorem XD(f:Nat->Int)(x:Nat)(xs:List Nat):tV f (x::xs)=f x+tV f xs:=rfl
theorem XC{f g:Nat->Int}:∀(l:List Nat),(∀x∈l,f x=g x)->tV f l=tV g l
 |[],_=>rfl
 |x::xs,h=>by unfold tV;rw[h x sZ,XC xs λy a=>h y (by simp[a])]
theorem aaS{f g:Nat->Int}{t:Nat}:∀(l:List Nat),l.Nodup->(∀x∈l,x≠t->g x=f x)->g t=f t+d->tV g l=tV f l+(if t∈l then d else 0)
 |[],_,_,_=>by simp[tV]
 |x::xs,a,h,c=>by
  unfold tV;rw[iE]at a;have k:=aaS xs a.2 (λy j=>h y (by simp[j])) c;rw[k];by_cases b:x=t
  .subst b;rw[c];simp[a.1];omega
  .rw[h x sZ b];have:¬t=x:=λe=>b e.symm;by_cases i:t∈xs<;>simp[i,this]<;>omega
theorem abI(c:Cfg.C):(gQ c).Nodup:=List.Nodup.sublist mP List.nodup_range
theorem aae(c:Cfg.C):(gQ c).length<=c.aN.length:=by have:=eG (λi:Nat=>iP c (i:Int)) (ae c.aN.length);simpa[gQ]using this
theorem adV(c:Cfg.C)(n:Int):(Tree.below c n).Nodup:=List.Nodup.sublist mP (abI c)
theorem acG(c:Cfg.C)(n:Int):(Tree.below c n).length<=c.aN.length:=bC (eG _ _) (aae c)
theorem ajW(c:Cfg.C)(n t:Nat):t∈Tree.below c (n:Int)↔iP c (t:Int)=aa/\n∈Tree.up c (t:Int):=by
 unfold Tree.below Tree.on;rw[iF,IC,kS];constructor
 .rintro⟨a,x,e,d⟩;have:x=n:=by simp at d;omega
  exact⟨a,this▸e⟩
 .rintro⟨a,b⟩;exact⟨a,n,b,sZ⟩
end Led
variable{b need:Vec.V}
namespace Quo
open Go.Proofs.YtedmeglbjmdlhaaGreatDoor Led
def node(c:Cfg.C)(n:Nat):lN:=c.aN.getD n default
def jE(c:Cfg.C):List Vec.V:=c.aN.map (·.fC)
def fC(c:Cfg.C)(n:Int):Vec.V:=Tree.sum c n (jE c)
def pos(v:Vec.V):Vec.V:=⟨max v.x 0,max v.y 0,max v.z 0⟩
def own(c:Cfg.C)(used:List Vec.V)(s:Nat):Vec.V:=pos (Vec.sub (Vec.sub (node c s).fC (node c s).lend) (Tree.dR used (s:Int)))
def bA(c:Cfg.C)(used:List Vec.V)(n t:Int):Vec.V:=((Tree.below c n).filter λ(s:Nat)=>(s:Int) !=t).foldl (λv s=>Vec.add v (own c used s)) Vec.zero
def xY(c:Cfg.C)(used:List Vec.V)(need:Vec.V)(n:Nat):Bool:=Vec.dX (Vec.add (Tree.dR used (n:Int)) need) (Vec.add (node c n).fC (node c n).borrow)
def uL(c:Cfg.C)(used:List Vec.V)(t:Int)(need:Vec.V)(n:Nat):Bool:=Vec.dX (Vec.add (Vec.add (Tree.sum c (n:Int) used) need) (bA c used (n:Int) t)) (fC c (n:Int))
def uV(c:Cfg.C)(used:List Vec.V)(t:Int)(need:Vec.V)(n:Nat):Bool:=if(n:Int)=t then xY c used need n else uL c used t need n
def may(c:Cfg.C)(used:List Vec.V)(t:Int)(need:Vec.V):Bool:=iP c t&&(Tree.up c t).all (uV c used t need)
def sU(c:Cfg.C)(used:List Vec.V)(t:Int)(need:Vec.V):Bool:=iP c t&&Vec.dX (Vec.add (Tree.dR used t) need) (node c t.toNat).fC
def kW(c:Cfg.C)(used:List Vec.V)(t:Int):Bool:=iP c t&& !Vec.dX (Tree.dR used t) (node c t.toNat).fC
def sV(f:Nat->Int)(l:List Nat)(a:Int):Int:=l.foldl (λa t=>Vec.add1 a (f t)) a
theorem ahA(f:Nat->Int)(t:Nat)(l:List Nat)(a:Int):sV f (t::l) a=sV f l (Vec.add1 a (f t)):=rfl
theorem IJ(f:Nat->Vec.V):∀(l:List Nat) (v:Vec.V),l.foldl (λv t=>Vec.add v (f t)) v=⟨sV (λt=>(f t).x) l v.x,sV (λt=>(f t).y) l v.y,sV (λt=>(f t).z) l v.z⟩
 |[],v=>rfl
 |t::l,v=>by rw[ax,IJ f l];rfl
theorem LU{a b x y:Int}(h:a<=b)(k:x<=y):Vec.add1 a x<=Vec.add1 b y:=by unfold Vec.add1 Vec.cut;omega
theorem AY{a x:Int}(b:0<=a)(c:a<=1099511627776)(d:0<=x):a<=Vec.add1 a x:=by unfold Vec.add1 Vec.cut;omega
theorem adY{a x:Int}(b:0<=a)(c:0<=x):0<=Vec.add1 a x:=by unfold Vec.add1 Vec.cut;omega
theorem yZ{f:Nat->Int}:∀(l:List Nat) (a:Int),(∀t∈l,0<=f t)->0<=a->0<=sV f l a
 |[],a,_,h=>h
 |t::l,a,b,h=>yZ l _ (λy c=>b y (by simp[c])) (adY h (b t sZ))
theorem GD{f:Nat->Int}{k:Int}(d:0<=k):∀(l:List Nat) (a:Int),(∀t∈l,0<=f t/\f t<=k)->0<=a->a+(l.length:Int)*k<=100000000000->sV f l a=a+tV f l
 |[],a,_,_,_=>by simp[sV,tV]
 |t::l,a,c,i,b=>by
  rw[ag]at b;have e:((l.length+1:Nat):Int)*k=(l.length:Int)*k+k:=by rw[Int.natCast_add,Int.add_mul];simp
  rw[e]at b;have j:0<=(l.length:Int)*k:=kR oZ d;have m:=c t sZ;rw[ahA,FP _ _ oZ oZ oZ oZ,GD d l _ (λy g=>c y (by simp[g])) oZ oZ,XD];omega
theorem GA{f:Nat->Int}{k:Int}:∀(l:List Nat),(∀t∈l,0<=f t/\f t<=k)->0<=tV f l/\tV f l<=(l.length:Int)*k
 |[],_=>by simp[tV]
 |t::l,h=>by
  have:=h t sZ;have:=GA l (λy b=>h y (by simp[b]));rw[XD,ag];have a:((l.length+1:Nat):Int)*k=(l.length:Int)*k+k:=by rw[Int.natCast_add,Int.add_mul];simp
  rw[a];omega
def Le(a b:Vec.V):Prop:=a.x<=b.x/\a.y<=b.y/\a.z<=b.z
theorem acO{a x y:Vec.V}(h:Le a b)(k:Le x y):Le (Vec.add a x) (Vec.add b y):=⟨LU h.1 k.1,LU h.2.1 k.2.1,LU h.2.2 k.2.2⟩
theorem Le.refl(a:Vec.V):Le a a:=⟨iR _,iR _,iR _⟩
theorem WC{a c:Vec.V}(h:Le a b)(k:Vec.dX b c=aa):Vec.dX a c=aa:=by rw[yR]at*;unfold Le at h;omega
def less(need:Vec.V)(k:Nat):Vec.V:=if k=0 then{need with x:=need.x/2}else if k=1 then{need with y:=need.y/2}else{need with z:=need.z/2}
def acY(l:List Vec.V):Prop:=∀v∈l,lU v=aa
theorem amO{l:List Vec.V}(h:acY l)(n:Int):lU (Tree.dR l n)=aa:=by
 unfold Tree.dR;split
 .rename_i hn;rw[aV,aH oZ];exact h _ (bD _)
 .decide
def aQ(c:Cfg.C)(used:List Vec.V)(t:Int)(need:Vec.V):List Vec.V:=(ae c.aN.length).map λ(i:Nat)=>if(i:Int)=t then Vec.add (Tree.dR used (i:Int)) need else Tree.dR used (i:Int)
theorem aiF(c:Cfg.C)(used:List Vec.V)(t:Int)(need:Vec.V)(i:Nat)(h:i<c.aN.length):Tree.dR (aQ c used t need) (i:Int)=if(i:Int)=t then Vec.add (Tree.dR used (i:Int)) need else Tree.dR used (i:Int):=by
 obtain⟨g,a⟩:∃g:Nat->Vec.V,g=λi:Nat=>if(i:Int)=t then Vec.add (Tree.dR used (i:Int)) need else Tree.dR used (i:Int):=⟨_,rfl⟩;have e:aQ c used t need=(ae c.aN.length).map g:=by rw[a];rfl
 have e2:g i=if(i:Int)=t then Vec.add (Tree.dR used (i:Int)) need else Tree.dR used (i:Int):=by rw[a]
 rw[e,<-e2];unfold Tree.dR;rw[bP,List.length_range,aI oZ];simp[aV,h]
theorem adE(c:Cfg.C)(used:List Vec.V)(n t:Int):0<=(bA c used n t).x/\0<=(bA c used n t).y/\0<=(bA c used n t).z:=by unfold bA;rw[IJ];refine⟨yZ _ _ (λs _=>?_) (iR _),yZ _ _ (λs _=>?_) (iR _),yZ _ _ (λs _=>?_) (iR _)⟩<;>(unfold own pos;simp only;omega)
theorem XB(c:Cfg.C)(n:Int)(l:List Vec.V):Tree.sum c n l=⟨sV (λt=>(Tree.dR l (t:Int)).x) (Tree.below c n) 0,sV (λt=>(Tree.dR l (t:Int)).y) (Tree.below c n) 0,sV (λt=>(Tree.dR l (t:Int)).z) (Tree.below c n) 0⟩:=by unfold Tree.sum;rw[IJ];rfl
theorem QF{n:Int}{s:Nat}(h:s∈Tree.below c n):iP c (s:Int)=aa/\s<c.aN.length:=by unfold Tree.below at h;rw[iF,IC]at h;have:=xL h.1;exact⟨h.1,oZ⟩
theorem KG{f g:Nat->Int}{l:List Nat}{t:Nat}(r:l.length<=12)(i:l.Nodup)(e:t∈l)(a:∀s∈l,0<=f s/\f s<=1048576)(o:0<=d/\d<=1048576)(b:∀s∈l,s≠t->g s=f s)(j:g t=f t+d):sV g l 0=Vec.add1 (sV f l 0) d/\0<=sV g l 0/\sV g l 0<=1099511627776:=by
 have n:(l.length:Int)*1048576<=12582912:=oZ;have m:=GA l a;have e1:sV f l 0=tV f l:=by rw[GD (k:=1048576) oZ l 0 a oZ oZ];omega
 have c:∀s∈l,0<=g s/\g s<=2097152:=by
  intro s hs;by_cases h:s=t
  .subst h;have:=a s hs;omega
  .have:=a s hs;rw[b s hs h];omega
 have p:=GA l c;have e2:sV g l 0=tV g l:=by rw[GD (k:=2097152) oZ l 0 c oZ oZ];omega
 have e3:=aaS (f:=f) (g:=λs=>if s=t then g t else f s) (t:=t) (d:=d) l i (λs _ h=>by simp[h]) (by simp[j]);have e4:tV g l=tV (λs=>if s=t then g t else f s) l:=XC l (λs hs=>by
  by_cases h:s=t
  .simp[h]
  .simp[h,b s hs h])
 rw[aI e]at e3;rw[e2,e1,e4,e3,FP _ _ oZ oZ oZ oZ];omega
theorem safe{used:List Vec.V}{t:Int}(x:c.aN.length<=12)(A:acY used)(hv:lU need=aa)(h:may c used t need=aa):(∀n∈Tree.up c t,(n:Int)≠t->Vec.dX (Tree.sum c (n:Int) (aQ c used t need)) (fC c (n:Int))=aa)/\Vec.dX (Vec.add (Tree.dR used t) need) (Vec.add (node c t.toNat).fC (node c t.toNat).borrow)=aa:=by
 unfold may at h;simp only[ab,gZ]at h;obtain⟨u,h⟩:=h;have F:=xL u;have e:((t.toNat:Nat):Int)=t:=oZ;have y:t.toNat∈Tree.up c t:=by have:=aal c t.toNat oZ;rw[e]at this;rw[this];simp
 constructor
 .intro n v z;have a:=h n v;unfold uV at a;rw[aF z]at a;refine WC ?_ a;have l:t.toNat∈Tree.below c (n:Int):=by rw[ajW,e];exact⟨u,v⟩
  have o:=bC (acG c (n:Int)) x;have p:=adV c (n:Int);have m:=adE c used (n:Int) t;have k:∀s:Nat,(0<=(Tree.dR used (s:Int)).x/\(Tree.dR used (s:Int)).x<=1048576)/\(0<=(Tree.dR used (s:Int)).y/\(Tree.dR used (s:Int)).y<=1048576)/\(0<=(Tree.dR used (s:Int)).z/\(Tree.dR used (s:Int)).z<=1048576):=λs=>by have:=amO A (s:Int);rwa [pR]at this
  have j:=hv;rw[pR]at j;have r:∀s∈Tree.below c (n:Int),s≠t.toNat->Tree.dR (aQ c used t need) (s:Int)=Tree.dR used (s:Int):=λs hs b=>by rw[aiF c used t need s (QF hs).2,aF oZ]
  have i:Tree.dR (aQ c used t need) ((t.toNat:Nat):Int)=Vec.add (Tree.dR used ((t.toNat:Nat):Int)) need:=by rw[aiF c used t need t.toNat oZ,aI e]
  have H:=k t.toNat;have w:(Vec.add (Tree.dR used ((t.toNat:Nat):Int)) need)=⟨(Tree.dR used ((t.toNat:Nat):Int)).x+need.x,(Tree.dR used ((t.toNat:Nat):Int)).y+need.y,(Tree.dR used ((t.toNat:Nat):Int)).z+need.z⟩:=by unfold Vec.add;rw[FP _ _ oZ oZ oZ oZ,FP _ _ oZ oZ oZ oZ,FP _ _ oZ oZ oZ oZ]
  rw[w]at i;have s1:=KG (f:=λs=>(Tree.dR used (s:Int)).x) (g:=λs=>(Tree.dR (aQ c used t need) (s:Int)).x) (t:=t.toNat) (d:=need.x) o p l (λs _=>(k s).1) j.1 (λs hs b=>by simp only[r s hs b]) (by simp only[i]);have s2:=KG (f:=λs=>(Tree.dR used (s:Int)).y) (g:=λs=>(Tree.dR (aQ c used t need) (s:Int)).y) (t:=t.toNat) (d:=need.y) o p l (λs _=>(k s).2.1) j.2.1 (λs hs b=>by simp only[r s hs b]) (by simp only[i]);have s3:=KG (f:=λs=>(Tree.dR used (s:Int)).z) (g:=λs=>(Tree.dR (aQ c used t need) (s:Int)).z) (t:=t.toNat) (d:=need.z) o p l (λs _=>(k s).2.2) j.2.2 (λs hs b=>by simp only[r s hs b]) (by simp only[i]);rw[XB c (n:Int) (aQ c used t need),XB c (n:Int) used];refine⟨?_,?_,?_⟩
  .show sV _ _ _<=Vec.add1 (Vec.add1 _ need.x) _;rw[<-s1.1];exact AY s1.2.1 s1.2.2 m.1
  .show sV _ _ _<=Vec.add1 (Vec.add1 _ need.y) _;rw[<-s2.1];exact AY s2.2.1 s2.2.2 m.2.1
  .show sV _ _ _<=Vec.add1 (Vec.add1 _ need.z) _;rw[<-s3.1];exact AY s3.2.1 s3.2.2 m.2.2
 .have a:=h _ y;unfold uV xY at a;rw[aI e,e]at a;exact a
theorem at_nil(n:Int):Tree.dR [] n=Vec.zero:=by
 unfold Tree.dR;split
 .simp
 .rfl
end Quo
variable{j:Nat}
namespace Hst
open Go.Proofs.YtedmeglbjmdlhaaGreatDoor
structure mU where
 flavor:Int
 block:Int
 zM:Int
 host:Int
 deriving DecidableEq
def qB(h:iI)(i aP:Int):mU:=⟨h.flavor,if 2<aP then 0 else h.block,if 1<aP then 0 else h.zM,if 0<aP then 0 else i⟩
abbrev G:=List (mU×List Nat)
def qD(p:mU)(i:Nat):G->G
 |[]=>[(p,[i])]
 |q::r=>if p=q.1 then(q.1,q.2++[i])::r else q::qD p i r
def idx(p:mU):G->Option Nat
 |[]=>none
 |q::r=>if p=q.1 then some 0 else(idx p r).map (· +1)
def dR(hs:List iI)(i:Nat):iI:=hs.getD i default
def jH(hs:List iI)(aP:Int)(i:Nat):mU:=qB (dR hs i) (i:Int) aP
def gTo(hs:List iI)(aP:Int):Nat->G
 |0=>[]
 |k+1=>qD (jH hs aP k) k (gTo hs aP k)
def uN(aP:Int):Bool:=decide (0<=aP)&&decide (aP<=3)
def lY(hs:List iI)(aP:Int):List (List Nat):=if uN aP then(gTo hs aP hs.length).map (·.2)else[]
theorem tQ(p:mU)(i:Nat):∀g:G,idx p g=none->qD p i g=g++[(p,[i])]
 |[],_=>rfl
 |q::r,h=>by
  unfold idx at h;unfold qD;by_cases a:p=q.1
  .rw[aI a]at h;cases h
  .rw[aF a]at h;rw[aF a,tQ p i r (by simpa using h)];rfl
theorem vJ(p:mU)(i:Nat):∀(g:G) (k:Nat),idx p g=some k->∃l,g[k]? =some (p,l)/\qD p i g=g.set k (p,l++[i])
 |[],k,h=>by cases h
 |q::r,k,h=>by
  unfold idx at h;unfold qD;by_cases a:p=q.1
  .rw[aI a]at h;injection h with h;subst h;rw[aI a];exact⟨q.2,by rw[a];rfl,by rw[a];rfl⟩
  .rw[aF a]at h;rw[aF a];cases b:idx p r with
   |none=>rw[b]at h;cases h
   |some j=>
    rw[b]at h;simp only[Option.map_some,Option.some.injEq]at h;subst h;obtain⟨l,c,d⟩:=vJ p i r j b;exact⟨l,by simpa using c,by rw[d];rfl⟩
theorem aes(q p:mU)(l:List Nat):∀g:G,idx p g=none->idx q (g++[(p,l)])=if q=p then some g.length else idx q g
 |[],_=>by show idx q [(p,l)]=_;unfold idx idx;simp
 |x::r,h=>by
  unfold idx at h;by_cases c:p=x.1
  .rw[aI c]at h;cases h
  .rw[aF c]at h;have f:=aes q p l r (by simpa using h);show idx q (x::(r++[(p,l)]))=_;unfold idx;rw[f];by_cases a:q=x.1
   .rw[aI a,aI a];have d:¬q=p:=λe=>c (e▸a);rw[aF d]
   .rw[aF a,aF a];by_cases b:q=p
    .rw[aI b,aI b];simp
    .rw[aF b,aF b]
theorem aer(q:mU):∀(g:G) (k:Nat) (p:mU) (l a:List Nat),g[k]? =some (p,l)->idx q (g.set k (p,a))=idx q g
 |[],k,p,l,a,h=>by simp at h
 |x::r,0,p,l,a,h=>by simp at h;subst h;rfl
 |x::r,k+1,p,l,a,h=>by have:=aer q r k p l a (by simpa using h);rw[List.set_cons_succ];unfold idx;rw[this]
theorem aiY(p:mU):∀(g:G) (k:Nat),idx p g=some k->k<g.length
 |[],k,h=>by cases h
 |x::r,k,h=>by
  unfold idx at h;split at h
  .injection h with h;subst h;simp
  .cases a:idx p r with
   |none=>rw[a]at h;cases h
   |some j=>
    rw[a]at h;simp only[Option.map_some,Option.some.injEq]at h;subst h;have:=aiY p r j a;simp;omega
theorem SX(hs:List iI)(aP:Int):∀k,(gTo hs aP k).length<=k
 |0=>bG _
 |k+1=>by
  have b:=SX hs aP k;show(qD _ _ _).length<=_;cases h:idx (jH hs aP k) (gTo hs aP k)with
  |none=>rw[tQ _ _ _ h];simp;omega
  |some j=>
   obtain⟨l,_,a⟩:=vJ _ k _ _ h;rw[a];simp;omega
theorem aje(p:mU)(i n:Nat)(g:G)(h:∀q∈g,q.2.length<=n):∀q∈qD p i g,q.2.length<=n+1:=by
 cases b:idx p g with
 |none=>
  rw[tQ _ _ _ b];intro q a;simp only[dM,ao]at a;rcases a with a|rfl
  .have:=h q a;omega
  .simp
 |some k=>
  obtain⟨l,c,d⟩:=vJ p i g k b;rw[d];intro q a;rcases List.mem_or_eq_of_mem_set a with a|rfl
  .have:=h q a;omega
  .have:=h _ (gP c);simp only[aW,List.length_singleton]at this⊢;omega
theorem PW(hs:List iI)(aP:Int):∀k,∀q∈gTo hs aP k,q.2.length<=k
 |0=>λq a=>by cases a
 |k+1=>aje _ k k _ (PW hs aP k)
def rows(g:G):List (List Nat):=g.map (·.2)
theorem ahX{p:mU}{g:G}(h:idx p g=none):rows (qD p i g)=(rows g++[[]]).set (rows g).length ([]++[i]):=by rw[tQ _ _ _ h,List.set_append_right _ _ lZ,Nat.sub_self];simp[rows]
theorem XO{p:mU}{g:G}(h:idx p g=some k):∃a:k<(rows g).length,rows (qD p i g)=(rows g).set k ((rows g)[k]++[i]):=by
 obtain⟨l,b,c⟩:=vJ p i g k h;have a:k<g.length:=(bF.1 b).1;refine⟨by simpa[rows]using a,?_⟩;have d:(rows g)[k]'(by simpa[rows]using a)=l:=by have:=(bF.1 b).2;simp[rows,this]
 rw[c,d];simp[rows,List.map_set]
theorem vD(g:G):(rows g).length=g.length:=by simp[rows]
theorem BO{p:mU}{g:G}(h:idx p g=none)(q:mU):idx q (qD p i g)=if q=p then some g.length else idx q g:=by rw[tQ _ _ _ h,aes _ _ _ _ h]
theorem BN{p:mU}{g:G}(h:idx p g=some k)(q:mU):idx q (qD p i g)=idx q g:=by obtain⟨l,a,b⟩:=vJ p i g k h;rw[b];exact aer q g k p l (l++[i]) a
theorem XP(hs:List iI)(aP:Int)(k:Nat)(h:j<(rows (gTo hs aP k)).length):(rows (gTo hs aP k))[j].length<=k:=by
 have a:j<(gTo hs aP k).length:=by simpa[rows]using h
 have:=PW hs aP k _ (bD a);simpa[rows]using this
def alike(hs:List iI)(aP:Int)(a b:Nat):Bool:=if aP=0 then decide (a=b)else if aP=1 then(dR hs a).flavor==(dR hs b).flavor&&((dR hs a).block==(dR hs b).block&&(dR hs a).zM==(dR hs b).zM)else if aP=2 then(dR hs a).flavor==(dR hs b).flavor&&(dR hs a).block==(dR hs b).block else(dR hs a).flavor==(dR hs b).flavor
theorem akj(hs:List iI)(aP:Int)(a b:Nat)(h:uN aP=aa):alike hs aP a b=decide (jH hs aP a=jH hs aP b):=by
 unfold uN at h;simp only[ab,eT]at h;have c:aP=0\/aP=1\/aP=2\/aP=3:=oZ;unfold alike jH qB;rw[Bool.eq_iff_iff];rcases c with rfl|rfl|rfl|rfl
 .simp only[eT,mU.mk.injEq,if_true,if_false];constructor
  .intro e;subst e;simp
  .intro e;have:=e.2.2.2;simp at this;omega
 .simp
 .simp
 .simp
def agS(hs:List iI)(aP:Int)(g:G):Prop:=∀q∈g,∃h t,q.2=h::t/\jH hs aP h=q.1/\h<hs.length
theorem ajb(hs:List iI)(aP:Int)(g:G)(i:Nat)(hi:i<hs.length)(h:agS hs aP g):agS hs aP (qD (jH hs aP i) i g):=by
 cases c:idx (jH hs aP i) g with
 |none=>
  rw[tQ _ _ _ c];intro q b;simp only[dM,ao]at b;rcases b with b|rfl
  .exact h q b
  .exact⟨i,[],rfl,rfl,hi⟩
 |some k=>
  obtain⟨l,d,e⟩:=vJ (jH hs aP i) i g k c;rw[e];intro q b;rcases List.mem_or_eq_of_mem_set b with b|rfl
  .exact h q b
  .obtain⟨a,t,e1,e2,e3⟩:=h _ (gP d);simp only at e1 e2;exact⟨a,t++[i],by simp[e1],e2,e3⟩
theorem PU(hs:List iI)(aP:Int):∀k,k<=hs.length->agS hs aP (gTo hs aP k)
 |0,_=>λq a=>by cases a
 |k+1,b=>ajb hs aP _ k oZ (PU hs aP k oZ)
end Hst
namespace Dec
open Go.Proofs.YtedmeglbjmdlhaaGreatDoor
def tab:List Nat:=[3037000499,3611622602,3938502375,4112874772,4202935002,4248701964,4271771996,4283353945,4289156689,4292061009,4293513906,4294240539,4294603902,4294785595,4294876444,4294921869]
def t(i:Nat):Nat:=tab.getD i 0
def stp(f x i:Nat):Nat:=if f/2 ^ (15-i)%2=1 then Fix.mul x (t i)else x
def rounds(f:Nat):Nat->Nat
 |0=>Fix.one
 |k+1=>stp f (rounds f k) k
def PY(r h:Int):Nat:=uU r h/65536
def fac(a h:Int):Nat:=rounds (PY (a%h) h) 16/2 ^ (a/h).toNat
def vK(aJ aG:Int):Nat:=fac (max aJ 0) (max aG 1)
theorem aph(i:Nat):t i<=4294921869:=by
 unfold t tab;rcases fI i 16 with h|h
 .have:i=0\/i=1\/i=2\/i=3\/i=4\/i=5\/i=6\/i=7\/i=8\/i=9\/i=10\/i=11\/i=12\/i=13\/i=14\/i=15:=by omega
  rcases this with rfl|rfl|rfl|rfl|rfl|rfl|rfl|rfl|rfl|rfl|rfl|rfl|rfl|rfl|rfl|rfl<;>decide
 .rw[aV,eH (by simpa using h)];exact bI _
theorem amW(i:Nat):t i<=Fix.top:=by have:=aph i;unfold Fix.top;omega
theorem apC(x y:Nat)(h:y<=Fix.one):Fix.mul x y<=x:=by
 have a:x*y/Fix.one<=x:=by apply Nat.div_le_of_le_mul;rw[dW];exact dD _ h
 unfold Fix.mul Fix.cut;split<;>omega
theorem apk(f x i:Nat):stp f x i<=x:=by
 unfold stp;split
 .exact apC _ _ (by have:=aph i;unfold Fix.one;omega)
 .exact bG _
theorem zH(f:Nat):∀k,rounds f k<=Fix.one
 |0=>bG _
 |k+1=>bC (apk _ _ _) (zH f k)
theorem apR(a h:Int):fac a h<=Fix.one:=bC (av _ _) (zH _ _)
theorem ajt(a h:Int):vK a h<=Fix.one:=apR _ _
theorem agk(a h:Int):vK a h<=Fix.top:=by have:=ajt a h;simp only[Fix.one,Fix.top]at*;omega
theorem aoB(a h:Int)(d:63<a/h):fac a h=0:=by
 unfold fac;apply ad;have b:=zH (PY (a%h) h) 16;have c:(2:Nat) ^ 64<=2 ^ (a/h).toNat:=Nat.pow_le_pow_right oZ oZ;have:Fix.one<2 ^ 64:=by decide
 omega
theorem abq(r h:Int)(a:0<=r)(d:r<h):uU r h<4294967296:=by
 obtain⟨r,rfl⟩:=fM a;obtain⟨h,rfl⟩:=fM (show 0<=h by omega);unfold uU Fix.quo;simp only[Int.toNat_natCast];have c:r<h:=oZ;have b:r*Fix.one/h<4294967296:=by rw[kC oZ,dW];exact Nat.mul_lt_mul_of_pos_left c dZ
 split
 .omega
 .rw[aF oZ,zK (by unfold Fix.top;omega)];exact b
theorem aoy(r h:Int)(a:0<=r)(b:r<h):PY r h<65536:=by have:=abq r h a b;unfold PY;omega
end Dec
namespace Hst
open Go.Proofs.YtedmeglbjmdlhaaGreatDoor
def Fair(hs:List iI)(aP:Int)(k:Nat)(g:G):Prop:=(∀h,h<k->∃j,idx (jH hs aP h) g=some j)/\∀(h i:Nat) (hi:i<g.length),List.count h g[i].2=if h<k/\idx (jH hs aP h) g=some i then 1 else 0
theorem ams(hs:List iI)(aP:Int)(k:Nat)(g:G)(x:Fair hs aP k g):Fair hs aP (k+1) (qD (jH hs aP k) k g):=by
 obtain⟨f,m⟩:=x;cases b:idx (jH hs aP k) g with
 |none=>
  refine⟨λh n=>?_,λh i hi=>?_⟩
  .rw[BO b];by_cases e:jH hs aP h=jH hs aP k
   .rw[aI e];exact⟨_,rfl⟩
   .rw[aF e];exact f h (by
     by_cases a:h=k
     .subst a;exact absurd rfl e
     .omega)
  .rw[BO b];have p:(qD (jH hs aP k) k g)=g++[(jH hs aP k,[k])]:=tQ _ _ _ b;have v:∀h,h<k->jH hs aP h≠jH hs aP k:=λh n e=>by obtain⟨j,u⟩:=f h n;rw[e,b]at u;cases u
   by_cases c:i<g.length
   .have:(qD (jH hs aP k) k g)[i]=g[i]:=by simp only[p];rw[List.getElem_append_left c]
    rw[this,m h i c];by_cases a:h<k
    .rw[aF (v h a)];simp[a,Nat.lt_succ_of_lt a]
    .rw[aF (by omega:¬(h<k/\_))];by_cases e:h=k
     .subst e;rw[aI rfl,aF];rintro⟨_,e⟩;injection e with e;omega
     .rw[aF (by omega:¬(h<k+1/\_))]
   .have z:i=g.length:=by rw[p]at hi;simp at hi;omega
    subst z;have:(qD (jH hs aP k) k g)[g.length]=(jH hs aP k,[k]):=by simp[p]
    rw[this];by_cases a:h<k
    .rw[aF (v h a),aF]
     .simp[ai];omega
     .rintro⟨_,e⟩;have:=aiY _ _ _ e;omega
    .by_cases e:h=k
     .subst e;rw[aI rfl,aI ⟨oZ,rfl⟩];simp
     .rw[aF (by omega:¬(h<k+1/\_))];simp[ai];omega
 |some j=>
  obtain⟨l,w,r⟩:=vJ (jH hs aP k) k g j b;refine⟨λh n=>?_,λh i hi=>?_⟩
  .rw[BN b];by_cases a:h=k
   .subst a;exact⟨j,b⟩
   .exact f h oZ
  .rw[BN b];have c:i<g.length:=by rw[r]at hi;simpa using hi
   have y:(qD (jH hs aP k) k g)[i]=if j=i then(jH hs aP k,l++[k])else g[i]:=by simp only[r];rw[List.getElem_set]
   rw[y];by_cases o:j=i
   .subst o;rw[aI rfl];have A:g[j].2=l:=by rw[(bF.1 w).2]
    have s:=m h j c;rw[A]at s;rw[List.count_append,s];by_cases a:h<k
    .simp[a,Nat.lt_succ_of_lt a,ai];omega
    .rw[aF (by omega:¬(h<k/\_))];by_cases e:h=k
     .subst e;rw[aI ⟨oZ,b⟩];simp
     .rw[aF (by omega:¬(h<k+1/\_))];simp[ai];omega
   .rw[aF o,m h i c];by_cases a:h<k
    .simp[a,Nat.lt_succ_of_lt a]
    .rw[aF (by omega:¬(h<k/\_)),aF];rintro⟨F,d⟩;have:h=k:=by omega
     subst this;rw[b]at d;injection d with d;exact o d
theorem aeA(hs:List iI)(aP:Int):∀k,Fair hs aP k (gTo hs aP k)
 |0=>⟨λh a=>oZ,λh i hi=>by simp[gTo]at hi⟩
 |k+1=>ams hs aP k _ (aeA hs aP k)
def many(rows:List (List Nat)):Nat->Nat
 |0=>0
 |i+1=>many rows i+(rows.getD i []).length
end Hst
namespace Crc
def poly:Nat:=2197175160
def bit(x:Nat):Nat:=if x%2=1 then(x/2) ^^^ poly else x/2
def turns:Nat->Nat->Nat
 |0,x=>x
 |n+1,x=>turns n (bit x)
def all:List UInt8->Nat->Nat
 |[],x=>x
 |b::r,x=>all r (turns 8 (x ^^^ b.toNat))
def sum(l:List UInt8):Nat:=(all l 4294967295) ^^^ 4294967295
theorem LM(x:Nat)(h:x<4294967296):bit x<4294967296:=by
 unfold bit;split
 .exact aj (n:=32) oZ dZ
 .omega
theorem aaL:∀(n x:Nat),x<4294967296->turns n x<4294967296
 |0,_,h=>h
 |n+1,_,h=>aaL n _ (LM _ h)
theorem wD(x:Nat)(b:UInt8)(h:x<4294967296):x ^^^ b.toNat<4294967296:=
 aj (n:=32) h (by have:=b.toNat_lt;omega)
theorem akh:∀(l:List UInt8) (x:Nat),x<4294967296->all l x<4294967296
 |[],_,h=>h
 |b::r,_,h=>akh r _ (aaL 8 _ (wD _ b h))
theorem sum_lt(l:List UInt8):sum l<4294967296:=
 aj (n:=32) (akh l _ dZ) dZ
theorem all_append:∀(l r:List UInt8) (x:Nat),all (l++r) x=all r (all l x)
 |[],_,_=>rfl
 |_::l,r,_=>all_append l r _
def pX(n:Nat):List UInt8:=[an n,an (n/256),an (n/65536),an (n/16777216)]
def back:List UInt8->Nat
 |a::b::c::d::_=>a.toNat+b.toNat*256+c.toNat*65536+d.toNat*16777216
 |_=>0
theorem adG(n:Nat):(pX n).length=4:=rfl
theorem aeD(l:List UInt8):back l<4294967296:=by
 unfold back;split
 .rename_i a b c d _;have:=a.toNat_lt;have:=b.toNat_lt;have:=c.toNat_lt;have:=d.toNat_lt;omega
 .omega
theorem ZO(n:Nat)(h:n<4294967296)(r:List UInt8):back (pX n++r)=n:=by simp only[pX,back,ar,List.nil_append,UInt8.toNat_ofNat'];omega
def frame(l:List UInt8):List UInt8:=if l.length>16384 then[]else pX l.length++(pX (sum l)++l)
def read(s:List UInt8):List UInt8×Nat×Nat:=if s.length<8 then([],0,10)else if back s>16384 then([],0,8)else if back s>s.length-8 then([],0,10)else if sum ((s.drop 8).take (back s))≠back (s.drop 4)then([],0,11)else((s.drop 8).take (back s),back s+8,0)
theorem yA(l:List UInt8)(h:l.length<=16384):(frame l).length=l.length+8:=by unfold frame;rw[aF oZ];simp[adG];omega
theorem II(l:List UInt8)(h:l.length<=16384):frame l=pX l.length++(pX (sum l)++l):=aF oZ
theorem afu(l t:List UInt8)(h:l.length<=16384):read (frame l++t)=(l,l.length+8,0):=by
 have c:back (frame l++t)=l.length:=by rw[II l h,bM];exact ZO _ oZ _
 have a:(frame l++t).drop 4=pX (sum l)++(l++t):=by rw[II l h];simp[pX]
 have b:(frame l++t).drop 8=l++t:=by rw[II l h];simp[pX]
 have hs:back ((frame l++t).drop 4)=sum l:=by rw[a];exact ZO _ (sum_lt l) _
 have d:(frame l++t).length=l.length+8+t.length:=by rw[aW,yA l h]
 unfold read;rw[aF oZ,c,aF oZ,aF oZ,b,hs,List.take_left' rfl,aF sZ]
end Crc
namespace Dsk
structure D where
 size:Nat
 safe:List UInt8
 waits:List UInt8
 swaps:Bool
deriving DecidableEq
def new(n:Int):D:=⟨(min (max n 0) 1048576).toNat,[],[],ap⟩
def free(d:D):Int:=(d.size:Int)-(d.waits.length:Int)-(if d.swaps then 0 else(d.safe.length:Int))
def qG(d:D)(s:List UInt8):Bool:=decide ((s.length:Int)<=free d)
def write(d:D)(s:List UInt8):D:=if qG d s then{d with waits:=d.waits++s}else d
def sI(d:D)(s:List UInt8):Int:=if qG d s then 0 else 9
def replace(d:D)(s:List UInt8):D:=if d.size<s.length then d else{d with waits:=s,swaps:=aa}
def vR(d:D)(s:List UInt8):Int:=if d.size<s.length then 9 else 0
def uX(d:D)(n:Int):Nat:=(min (max n 0) (d.waits.length:Int)).toNat
def yC(d:D)(n:Int):D:={d with safe:=if d.swaps then(if uX d n=d.waits.length then d.waits else d.safe)else d.safe++d.waits.take (uX d n),waits:=[],swaps:=ap}
def sync(d:D):D:=yC d d.waits.length
def Ok(d:D):Prop:=d.safe.length<=d.size/\d.waits.length<=d.size/\(d.swaps=ap->d.safe.length+d.waits.length<=d.size)
theorem abN(d:D)(n:Int):uX d n<=d.waits.length:=by unfold uX;omega
theorem aky(d:D)(s:List UInt8)(h:Ok d):Ok (write d s):=by
 unfold write;by_cases a:qG d s=aa
 .rw[aI a];unfold qG free at a;unfold Ok at*;simp only[eT]at a;simp only[aW];cases hs:d.swaps<;>simp[hs]at h a⊢ <;>omega
 .rw[aF a];exact h
theorem amE(d:D)(n:Int)(h:Ok d):Ok (yC d n):=by
 have a:=abN d n;unfold Ok yC at*;simp only[List.length_nil,az,bI,true_and];have:(if d.swaps then(if uX d n=d.waits.length then d.waits else d.safe)else d.safe++d.waits.take (uX d n)).length<=d.size:=by
  cases hs:d.swaps
  .have:=h.2.2 hs;simp only[jG,if_false,aW,bN];omega
  .simp only[if_true];split<;>omega
 exact⟨this,λ_=>this⟩
end Dsk
namespace Jou
open Go.Proofs.YtedmeglbjmdlhaaGreatDoor
def tX:Nat->List UInt8->List (List UInt8)×Nat
 |0,_=>([],0)
 |f+1,l=>if(Crc.read l).2.2=0 then((Crc.read l).1::(tX f (l.drop (Crc.read l).2.1)).1,(Crc.read l).2.1+(tX f (l.drop (Crc.read l).2.1)).2)else([],0)
def scan(l:List UInt8):List (List UInt8)×Nat:=tX (l.length+1) l
theorem AU(l:List UInt8)(h:(Crc.read l).2.2=0):8<=(Crc.read l).2.1/\(Crc.read l).2.1<=l.length/\(Crc.read l).2.1=(Crc.read l).1.length+8:=by
 unfold Crc.read at h⊢;split
 .simp_all
 .split
  .simp_all
  .split
   .simp_all
   .split
    .simp_all
    .simp only[bN,fJ];omega
theorem RP:∀(f g:Nat) (l:List UInt8),l.length<f->l.length<g->tX f l=tX g l
 |0,_,_,h,_=>oZ
 |_,0,_,_,h=>oZ
 |f+1,g+1,l,c,d=>by
  unfold tX;by_cases h:(Crc.read l).2.2=0
  .have a:=AU l h;have b:(l.drop (Crc.read l).2.1).length=l.length-(Crc.read l).2.1:=fJ;rw[aI h,aI h,RP f g _ oZ oZ]
  .rw[aF h,aF h]
theorem XK(l:List UInt8)(h:(Crc.read l).2.2=0):scan l=((Crc.read l).1::(scan (l.drop (Crc.read l).2.1)).1,(Crc.read l).2.1+(scan (l.drop (Crc.read l).2.1)).2):=by have a:=AU l h;have b:(l.drop (Crc.read l).2.1).length=l.length-(Crc.read l).2.1:=fJ;show tX (l.length+1) l=_;rw[tX,aI h];rw[RP l.length ((l.drop (Crc.read l).2.1).length+1) _ oZ oZ];rfl
theorem XJ(l:List UInt8)(h:(Crc.read l).2.2≠0):scan l=([],0):=by show tX (l.length+1) l=_;rw[tX,aF h]
theorem akT:scan []=([],0):=XJ [] dZ
def frames:List (List UInt8)->List UInt8
 |[]=>[]
 |x::xs=>Crc.frame x++frames xs
theorem aah(a b:List (List UInt8)):frames (a++b)=frames a++frames b:=by
 induction a with
 |nil=>rfl
 |cons x xs c=>show Crc.frame x++frames (xs++b)=_;rw[c,<-bM];rfl
theorem agb(x:List UInt8):frames [x]=Crc.frame x:=eZ _
def Small(l:List (List UInt8)):Prop:=∀x∈l,x.length<=16384
theorem ado(l:List (List UInt8))(t:List UInt8)(h:Small l):scan (frames l++t)=(l++(scan t).1,(frames l).length+(scan t).2):=by
 induction l with
 |nil=>simp[frames]
 |cons x xs g=>
  have b:=h x sZ;have e:=afu x (frames xs++t) b;have c:frames (x::xs)++t=Crc.frame x++(frames xs++t):=by show(Crc.frame x++frames xs)++t=_;rw[bM]
  rw[c,XK _ (by rw[e]),e];have a:=yA x b;have d:(Crc.frame x++(frames xs++t)).drop (x.length+8)=frames xs++t:=by rw[<-a];exact List.drop_left' rfl
  show(x::(scan ((Crc.frame x++(frames xs++t)).drop (x.length+8))).1,x.length+8+(scan ((Crc.frame x++(frames xs++t)).drop (x.length+8))).2)=_;rw[d,g λy f=>h y (by simp[f])];show _=((x::xs)++(scan t).1,(Crc.frame x++frames xs).length+(scan t).2);rw[aW,a];simp only[ar,iY]
theorem afi(l:List (List UInt8))(h:Small l):scan (frames l)=(l,(frames l).length):=by have:=ado l [] h;rw[eZ,akT]at this;simpa using this
theorem abb:∀(f:Nat) (l:List UInt8),(tX f l).2<=l.length
 |0,_=>bI _
 |f+1,l=>by
  unfold tX;split
  .rename_i h;have a:=AU l h;have:=abb f (l.drop (Crc.read l).2.1);have b:(l.drop (Crc.read l).2.1).length=l.length-(Crc.read l).2.1:=fJ;show _+_<=_;omega
  .exact bI _
theorem anD(l:List UInt8):(scan l).2<=l.length:=abb _ _
theorem NJ:∀(f:Nat) (l:List UInt8),8*(tX f l).1.length<=(tX f l).2
 |0,_=>bG _
 |f+1,l=>by
  unfold tX;split
  .rename_i h;have a:=AU l h;have:=NJ f (l.drop (Crc.read l).2.1);show 8*(_::_).length<=_+_;rw[ag];omega
  .exact bG _
theorem afj(l:List UInt8):8*(scan l).1.length<=(scan l).2:=NJ _ _
def clean(m:Nat)(l:List UInt8):Dsk.D:=⟨m,l,[],ap⟩
theorem ZJ(m:Nat)(l f:List UInt8):qG (clean m l) f=decide (l.length+f.length<=m):=by unfold qG Dsk.free clean;refine decide_eq_decide.2 ?_;simp;omega
theorem aeW(m:Nat)(l f:List UInt8)(h:l.length+f.length<=m):Dsk.sync (Dsk.write (clean m l) f)=clean m (l++f):=by
 have e:qG (clean m l) f=aa:=by rw[ZJ];simpa using h
 unfold Dsk.write;rw[aI e];simp[Dsk.sync,yC,uX,clean]
theorem aaO(m:Nat)(l f:List UInt8)(h:f.length<=m):Dsk.sync (Dsk.replace (clean m l) f)=clean m f:=by unfold Dsk.replace;rw[aF (by unfold clean;simp;omega)];simp[Dsk.sync,yC,uX,clean]
def opened(l:List UInt8):List UInt8:=l.take (scan l).2
theorem abA(l:List UInt8)(h:¬(scan l).2<l.length):opened l=l:=aU oZ
def yE(m:Nat)(l s:List UInt8):Int:=if 16384<s.length then 8 else if l.length+(Crc.frame s).length<=m then 0 else 9
def JA(m:Nat)(l s:List UInt8):List UInt8:=if yE m l s=0 then l++Crc.frame s else l
def QG(m:Nat)(l s:List UInt8)(n:Nat):Nat:=if yE m l s=0 then n+1 else n
theorem aoQ(m:Nat)(l s:List UInt8)(n:Nat)(h:16384<s.length):yE m l s=8/\JA m l s=l/\QG m l s n=n:=by unfold JA QG yE;simp[h]
theorem amP(m:Nat)(l s:List UInt8)(n:Nat)(h:¬16384<s.length)(a:¬l.length+(Crc.frame s).length<=m):yE m l s=9/\JA m l s=l/\QG m l s n=n:=by unfold JA QG yE;simp[h,a]
theorem akd(m:Nat)(l s:List UInt8)(n:Nat)(h:¬16384<s.length)(a:l.length+(Crc.frame s).length<=m):yE m l s=0/\JA m l s=l++Crc.frame s/\QG m l s n=n+1:=by unfold JA QG yE;simp[h,a]
end Jou
end Go.Proofs.YtedmeglbjmdlhaaGreatDoor
