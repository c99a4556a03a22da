/-
Parts that the laws of the whole program share: contracts of its functions, and plain laws.
-/
import Derived.Test.YtedmeglbjmdlhaaGreatDoorG9
import Derived.Test.YtedmeglbjmdlhaaGreatDoorG10
import Derived.Test.YtedmeglbjmdlhaaGreatDoorG11
set_option maxRecDepth 100000
set_option maxHeartbeats 16000000
set_option linter.all false
open Go.Proofs.Tryz
namespace Go.Proofs.YtedmeglbjmdlhaaGreatDoor
open Go
open Cfg Fix L Ord Quo Top Tree bM eZ sK
variable{c:Cfg.C}{g:Nat}{v:Value}{w:World}
namespace bM
open Go Go.RowKit L
attribute [local go_sem] Oper.semAt_some
theorem RJ{t:TypeId}:∀(vs:List Value) (o:Nat) (w:World) (cur:Array Value),Blk w g t cur->o+vs.length<=cur.size->∃a,Blk (w.setCells g o vs) g t a/\a.size=cur.size/\a.toList=cur.toList.take o++vs++cur.toList.drop (o+vs.length)
 |[],o,w,cur,h,_=>⟨cur,h,rfl,sZ⟩
 |v::vs,o,w,cur,h,e=>by
  simp only[List.length_cons]at e;obtain⟨a,b,c,d⟩:=RJ vs (o+1) (w.setCell (g,o) v) (cur.setIfInBounds o v) (Blk.bV h o v) (by simp;omega);refine⟨a,b,by simpa using c,?_⟩;rw[d,Array.toList_setIfInBounds];apply gL;intro i;simp only[List.getElem?_append,eB,lH,List.getElem?_set,bO,aW,List.length_cons,List.length_set,Array.length_toList];have f:min (o+1) cur.size=o+1:=oZ;have k:min o cur.size=o:=oZ;rw[f,k];by_cases c1:i<o
  .have:¬o=i:=by omega
   simp[c1,this,show i<o+1+vs.length by omega,show i<o+1 by omega,show i<o+(vs.length+1) by omega]
  .by_cases c2:i=o
   .subst c2;simp[show i<i+1+vs.length by omega,show i<cur.size by omega,show i<i+(vs.length+1) by omega]
   .by_cases c3:i<o+1+vs.length
    .obtain⟨j,rfl⟩:∃j,i=o+1+j:=⟨i-(o+1),oZ⟩;have e1:o+1+j-o=j+1:=oZ;simp[c3,show¬o+1+j<o+1 by omega,show¬o+1+j<o by omega,show o+1+j<o+(vs.length+1) by omega,e1]
    .have e2:o+1+vs.length+(i-(o+1+vs.length))=i:=oZ;have e3:o+(vs.length+1)+(i-(o+(vs.length+1)))=i:=oZ;simp[c3,show¬i<o+(vs.length+1) by omega,e2,e3,show¬o=i by omega]
theorem zA(g:Nat):∀(vs:List Value) (o:Nat) (w:World),aO (λk=>k=g) w (w.setCells g o vs)
 |[],o,w=>aO.refl _ w
 |v::vs,o,w=>((aO.refl (λk=>k=g) w).setCell (p:=⟨g,o,none⟩) (.inl rfl) v).trans (zA g vs (o+1) _)
theorem afc{B:Nat}{l:List Nat}(h:nC w B v l)(F:l.length<=1000000):Calls prog 199 #[v] w λe w'=>e=.returned (.tuple #[])/\nC w' B v l.reverse/\aO (λk=>v.ownBlock=some k) w w':=by
 have x:(ival l).length=l.length:=by simp[ival]
 rcases h.2 with⟨rfl,H⟩|⟨g,cap,cur,rfl,s,b,d,y,m,c⟩
 .have z:l=[]:=fM oZ;subst z;refine(Tryz.slices_Reverse_int_empty none 0 w).mono ?_;rintro e w'⟨rfl,rfl⟩;exact⟨rfl,fI.nil _ _ _,aO.refl _ _⟩
 .rw[x]at d c⊢;rw[gY]at c m;have u:∀j (a:j<l.length),cur[j]? =some (.int .i64 (l[j]:Int)):=λj a=>by
   have e:(cur.toList.take l.length)[j]? =(ival l)[j]? :=by rw[c]
   rw[eB,aG a,dP]at e;rw[e];simp[ival,a]
  refine(Tryz.slices_Reverse_int_cells g 0 l.length cap (l.map λk:Nat=>(k:Int)) w sZ oZ (λj a=>?_) λj a=>Blk.frozen b _).mono ?_
  .simp only[bN]at a;rw[aU];refine(Blk.cell b j).trans ?_;rw[u j a,aL,fK,aH a];rfl
  .rintro e w'⟨rfl,q,rfl⟩;obtain⟨n,o,p,r⟩:=RJ (g:=g) (t:=3) (((l.map λk:Nat=>(k:Int)).take l.length).reverse.map (Value.int .i64)) 0 (w.drewN q) cur b (by simp;omega);have A:((l.map λk:Nat=>(k:Int)).take l.length).reverse.map (Value.int .i64)=ival l.reverse:=by rw[aT sZ];simp[ival,List.map_reverse]
   have f:(ival l.reverse).length=l.length:=by simp[ival]
   refine⟨rfl,⟨by simp[ival],.inr ⟨g,cap,n,by rw[f],s,o,by rw[f];exact d,y,by rw[p,gY];exact m,?_⟩⟩,?_⟩
   .rw[gY,r,A,List.take_zero,List.nil_append,jD lZ,List.take_length]
   .have:=((aO.refl (λk=>k=g) w).drewN q).trans (zA g (((l.map λk:Nat=>(k:Int)).take l.length).reverse.map (Value.int .i64)) 0 (w.drewN q));exact this.mono λi _ e=>by rw[e];rfl
theorem apu(f:bX w v c)(ah:c.aP.length<=1000000)(an:c.aP≠[])(n:Int):∀w1,Below w w w1->Calls prog 135 #[v,n] w1 λe w'=>sU (Tree.path c n) w1 e w':=by
 intro w1 L;replace f:=f.below L;clear L;have O:(Tree.up c n).length<=1000000:=by have:=zK c n;omega
 have x:=qZ O;obtain⟨v1,v2,rfl,⟨A,ca,rfl,T,am⟩,-⟩:=id f;obtain⟨aI,M⟩:=nZ c.aI;obtain⟨aK,J⟩:=nZ c.aK;rw[M,J]at f⊢;have ab:=qZ f;have y:=qZ T;obtain⟨N,r⟩:=nZ c.aP.length;have ae:=qZ r;have Q:c.aP.length<=maxLen:=by unfold maxLen;omega
 have af:=qZ Q;rw[r]at ab⊢;clear f O M J T am r Q ah;have K:Below w1 w1 (w1.alloc (.cells #[.slice A N ca,v2,aI,aK] 26)):=bZ;have ak:=(iB.new w1 (.slice A N ca) v2 aI aK);obtain⟨z0,z1,z2,aq,z4⟩:=ak;have ao:(w1.alloc (.cells #[.slice A N ca,v2,aI,aK] 26)).heap.size=(w1:Nat)+1:=sZ;go_enter func135,ntmps135;have u:=qZ K;clear K;go_wp2_with fail;generalize w1.alloc (.cells #[.slice A N ca,v2,aI,aK] 26)=a at*;refine(adJ (.slice A N ca) v2 aI aK n a).mono ?_;rintro e m⟨rfl,rfl⟩;have s:Below a a ((a.alloc (.cells #[.slice A N ca,v2,aI,aK] 26)).alloc (.cells #[n] 3)):=kp;have Y:iB ((a.alloc (.cells #[.slice A N ca,v2,aI,aK] 26)).alloc (.cells #[n] 3)) (a:Nat) (.slice A N ca) v2 aI aK:=(iB.new a (.slice A N ca) v2 aI aK).on (bZ);have l:Blk ((a.alloc (.cells #[.slice A N ca,v2,aI,aK] 26)).alloc (.cells #[n] 3)) ((a:Nat)+1) 3 #[n]:=by have h:=Blk.new (a.alloc (.cells #[.slice A N ca,v2,aI,aK] 26)) 3 #[n];simp only[bC]at h;exact h
 have av:((a.alloc (.cells #[.slice A N ca,v2,aI,aK] 26)).alloc (.cells #[n] 3)).heap.size=(a:Nat)+2:=sZ;generalize(a.alloc (.cells #[.slice A N ca,v2,aI,aK] 26)).alloc (.cells #[n] 3)=m at*;have aa:=qZ s;have p:∀b o,A=some ⟨b,o,none⟩->b<(w1:Nat):=λb o e=>by obtain⟨ar,aw,H,aj,_⟩:=y.out an;rw[e]at H;cases H;exact aj
 have X:gQ m A 11 oP c.aP:=y.out.below (aA u.out s);have g:=qZ (UQ (w:=m) (aaD (bn:=(a:Nat)+1) (bc:=(a:Nat)) (A:=A) (ca:=ca) (v2:=v2) (aI:=aI) (aK:=aK) c af.out n oZ λb o e=>by have:=p b o e;omega) (λ_ _=>kZ)
  (λW ai=>(⟨(Blk.cell l 0),(Blk.frozen l 0),Blk.lt l,by rw[ae.out];exact Y,X⟩:xO m ((a:Nat)+1) (a:Nat) A c.aP.length ca v2 aI aK c.aP n).bD (F:=λ_=>False) (aO.bS ai) (λh=>h) (λh=>h) λ_ _ _ h=>h)
  (λk h=>by
   rcases h with h|h|⟨o,h⟩
   .omega
   .omega
   .have:=p _ _ h;omega) (λk h=>.inl h) x.out)
 clear s Y l z1 z2 aq z4 p X;go_wp2_with fail;rw[<-ao];refine g.out.mono ?_;rintro e ax⟨v,rfl,d,j⟩;have I:=qZ (afc d x.out);have au:=j.size;have z:=qZ (aC (fI.lt d) (j.mono (G:=λi=>(w1:Nat)<=i) λi _ h=>oZ));have al:=fI.form d;obtain⟨Z,c5,ag,-⟩:=al;subst ag;clear d j g;go_wp2_with fail;refine I.out.mono ?_;rintro e ap⟨rfl,d,j⟩;have ad:=qY (sU (Tree.path c n) w1 (.returned (.slice Z (ival (Tree.up c n)).length c5)) ap) (⟨_,rfl,fI.low d oZ,(((aO.bS (F:=λi=>(w1:Nat)<=i) (aA u.out aa.out)).trans z.out.2).trans (j.mono λi _ e=>(show(w1:Nat)<=i by have:=(z.out.1 i e).1;omega))).below lZ λi h=>h⟩);clear d j I;go_wp2_with fail;go_ret;exact ad.out
end bM
variable{h:List Nat}{k:Nat}{A:Option Addr}{va:Value}{w':World}
namespace eZ
open Go Go.RowKit L bM
def oL(k:Nat):List Value:=[.int .u64 (k:Int)]
def FSl(w:World)(v:Value)(h:List Nat):Prop:=∃A cap,v=.slice A h.length cap/\gQ w A 1 oL h/\h.length<=maxLen/\∀k∈h,k<=Fix.top
theorem FSl.below(b:FSl w v h)(a:Below w w w'):FSl w' v h:=by obtain⟨A,cap,e,d,c,f⟩:=b;exact⟨A,cap,e,d.below a,c,f⟩
theorem KP{xs:List Nat}(h:gQ w A 1 oL xs)(a:k<xs.length):∃b o,A=some ⟨b,o,none⟩/\b<(w:Nat)/\∀w',Below w w w'->w'.cell? ⟨b,o+k,none⟩=some (.int .u64 (xs[k]:Int)):=by obtain⟨b,o,rfl,c,f⟩:=h (by intro e;subst e;simp at a);have g:=aH a;refine⟨b,o,rfl,c,λw' d=>?_⟩;have:=f k xs[k] g 0 (.int .u64 (xs[k]:Int)) rfl;rw[Nat.add_zero,gY]at this;exact(d.cell (p:=⟨b,o+k,none⟩) c).trans this
theorem acO(d:c.aP.length<=1000000)(n:Int):(Tree.below c n).length<=1000000:=by have a:=eF (λt=>Tree.on c n t) (iG c);have b:=eF (λ(i:Nat)=>iC c (i:Int)) (List.range c.aP.length);rw[List.length_range]at b;unfold Tree.below;unfold iG at a⊢;omega
def aaE(h:List Nat)(s t:Nat):Nat:=if t<h.length then Fix.add s (h.getD t 0)else s
def sG(c:Cfg.C)(h:List Nat)(n:Int)(k:Nat):Nat:=((Tree.below c n).take k).foldl (aaE h) 0
theorem YE(c:Cfg.C)(h:List Nat)(n:Int)(k:Nat)(a:k<(Tree.below c n).length):sG c h n (k+1)=if(Tree.below c n)[k]<h.length then Fix.add (sG c h n k) (h.getD (Tree.below c n)[k] 0)else sG c h n k:=by unfold sG;rw[bF a,fB];rfl
theorem abD(c:Cfg.C)(h:List Nat)(n:Int)(k:Nat)(a:(Tree.below c n).length<=k):sG c h n k=rT c h n:=by unfold sG rT;rw[aT a];rfl
theorem JW(h:List Nat):∀(l:List Nat) (s:Nat),s<=Fix.top->l.foldl (aaE h) s<=Fix.top
 |[],s,a=>a
 |t::l,s,a=>by
  refine JW h l _ ?_;unfold aaE;split
  .exact Fix.add_lt _ _
  .exact a
theorem aea(c:Cfg.C)(h:List Nat)(n:Int)(k:Nat):sG c h n k<=Fix.top:=JW h _ 0 (bK _)
theorem YD(c:Cfg.C)(h:List Nat)(n:Int):rT c h n<=Fix.top:=JW h _ 0 (bK _)
theorem agu(f:bX w v c)(Y:c.aP.length<=1000000)(l:FSl w va h)(n:Int):gX prog w 240 #[v,va,n] (.int .u64 (rT c h n:Nat)):=by
 intro w1 A;replace f:=f.below A;replace l:=l.below A;clear A;have o:=qZ (λW az=>acP f Y n W az);obtain⟨v1,v2,rfl,-⟩:=id f;obtain⟨D,cd,rfl,ai,a8,g⟩:=id l;have a9:=acO Y n;obtain⟨aI,ah⟩:=nZ c.aI;obtain⟨aK,Z⟩:=nZ c.aK;rw[ah,Z]at o⊢;have aw:=qZ (abD c h n);have av:=qZ (YE c h n);have aq:=qZ (aea c h n);have ar:=qZ ai;have ax:=qZ g;obtain⟨H,r⟩:=nZ h.length;have N:=qZ r;rw[r]at a8⊢;have be:=qY (((0:Nat):Int)=((sG c h n 0:Nat):Int)) rfl;obtain⟨S,z⟩:=nZ (rT c h n);have au:=qZ z;rw[z];clear ah Z ai g l z r f;have a0:=iB.new w1 v1 v2 aI aK;have ad:Below w1 w1 (w1.alloc (.cells #[v1,v2,aI,aK] 26)):=bZ;go_enter func240,ntmps240;have T:=qZ ad;obtain⟨bm,x0,ba,bb,bc⟩:=a0;clear ad;go_wp2_with fail;refine(o.out _ T).mono ?_;rintro e al⟨v2,rfl,X,aa⟩;have M:=qZ (aA T aa);obtain⟨bd,c2,rfl,af⟩:=pQ X;have ao:=qZ af;obtain⟨L,u⟩:=nZ ((Tree.below c n).length);have O:=qZ u;rw[u]at a9⊢;clear aa X af x0 ba bb bc u o;go_wp2_with fail;go_loopw [7,14] (λs i wr=>∃k:Nat,i=.int .i64 (k:Int)/\k<=L/\s=.int .u64 (sG c h n k:Nat)/\Below al al wr) (λ_ i _=>L-(intOf i).toNat);case atStart=>exact⟨0,rfl,oZ,rfl,aJ _ _⟩
 case round=>
  obtain⟨k,rfl,bj,rfl,a⟩:=hrel
  rename World=>wr
  by_cases F:k<L
  .have I:k<(Tree.below c n).length:=by rw[O.out];exact F
   have b:=av.out k I;obtain⟨x,K⟩:=nZ ((Tree.below c n)[k]);rw[K]at b;have aj:(Tree.below c n)[k]? =some x:=by rw[aH I,K]
   obtain⟨ay,rfl,bi,a5,ag⟩:=ao.out k x aj;have bh:=(a.cell (p:=⟨ay,k,none⟩) a5).trans ag;have m:=aq.out k;have Q:=qZ a;clear aj K ag I;obtain⟨s,J⟩:=nZ (sG c h n k);rw[J]at m b⊢;by_cases ak:x<H
   .have j:x<h.length:=by rw[N.out];exact ak
    obtain⟨bf,bn,rfl,bl,ae⟩:=KP ar j;have bg:=ae wr (aA M a);have g:h[x]<=Fix.top:=ax _ (bB j);have d:=qY (sG c h n (k+1)=Fix.add s h[x]) (by rw[b,aG j,aL,aH j];rfl);have am:=qZ (sK.BR s h[x] m g);generalize h[x]=y at*;clear b ae a J g m j;go_wp2_with fail;refine(am _).mono ?_;rintro e bo⟨rfl,ab⟩;have an:=qZ ab;clear ab;go_wp2_with fail;go_roundw;case rel=>exact⟨k+1,mZ,oZ,by rw[d.out],aA Q an⟩
    case measure=>simp[intOf];omega
   .have d:=qY (sG c h n (k+1)=s) (by rw[b,aD (by rw[N.out];exact ak)]);clear b a J m;go_wp2_with fail;go_roundw;case rel=>exact⟨k+1,mZ,oZ,by rw[d.out],Q⟩
    case measure=>simp[intOf];omega
  .have d:=qY (sG c h n k=S) (by rw[<-au.out];exact aw k (by rw[O.out];omega));have bk:decide (k<L)=false:=by simpa using F
   have ap:=qZ (aA M a);clear F a;rw[d.out];go_wp2_with fail;go_ret;exact⟨rfl,ap⟩
def WOk(c:Cfg.C):Prop:=∀x∈c.aP,InI x.jH
theorem IC(h:WOk c)(n:Int): -9223372036854775808<=jH c n/\jH c n<=9223372036854775807:=by
 unfold jH;split
 .rename_i hn;have a:n.toNat<c.aP.length:=oZ;rw[aL,aH a,Option.getD_some];have:=h _ (bB a);unfold InI at this;omega
 .omega
theorem acn(p:bX w v c)(au:c.aP.length<=1000000)(ad:WOk c)(o:FSl w va h)(n:Int):gX prog w 201 #[v,va,n] (.int .u64 (aR c h n:Nat)):=by
 intro w1 M;replace p:=p.below M;replace o:=o.below M;clear M;have I:=qZ (agu p au o n);have F:=qZ (sK.gof (jH c n) (IC ad n).1 (IC ad n).2);have z:=qZ (sK.aut (rT c h n) (Fix.ofInt (jH c n)) (YD c h n) (MI _));obtain⟨D,cd,rfl,-⟩:=id o;obtain⟨v1,v2,rfl,⟨A,ca,rfl,ah,ay⟩,-⟩:=id p;obtain⟨aI,O⟩:=nZ c.aI;obtain⟨aK,L⟩:=nZ c.aK;obtain⟨H,K⟩:=nZ h.length;obtain⟨N,m⟩:=nZ c.aP.length;have a0:=qZ m;have an:=qZ ah;have aa:=qY (aR c h n=Fix.quo (rT c h n) (Fix.ofInt (jH c n))) rfl;obtain⟨az,Q⟩:=nZ (aR c h n);obtain⟨s,u⟩:=nZ (rT c h n);rw[O,L,K,m,u]at I;rw[Q,u]at aa;rw[u]at z;rw[O,L,K,m,Q];have aj:(0<=n/\n<(N:Int)->∃k:Nat,n=(k:Int)/\k<c.aP.length/\∃r:k<c.aP.length,jH c n=max 1 (c.aP[k]).jH):=λg=>by have r:n.toNat<c.aP.length:=oZ;refine⟨n.toNat,oZ,r,r,?_⟩;unfold jH;rw[aG oZ,aL,aH r,Option.getD_some]
 have ai:¬(0<=n/\n<(N:Int))->jH c n=1:=λg=>by unfold jH;rw[aD (by rw[m];exact g)]
 generalize jH c n=wt at*;have aq:=qZ aj;have ap:=qZ ai;clear O L o K p ah ay m Q u aj ai;have av:=iB.new w1 (.slice A N ca) v2 aI aK;have ae:Below w1 w1 (w1.alloc (.cells #[.slice A N ca,v2,aI,aK] 26)):=bZ;have f:=qZ ae;obtain⟨T,W,X,Y,Z⟩:=av;have gs:=I;have J:=qZ (z.val (show _=.int .u64 (az:Int) by rw[aa.out]));clear ae z I;by_cases g:0<=n/\n<(N:Int)
 .obtain⟨k,rfl,ag,ax,y⟩:=aq.out g;obtain⟨a5,bb,rfl,a9,af⟩:=oH an ag;have ar:=(af _ f).2.1;have ao:=qZ y;clear y;generalize(c.aP[k]).jH=x at*;have ba:k<N:=oZ;have ab:(0:Int)<=(k:Int):=oZ;clear af ag ax g;go_enter func201,ntmps201;go_wp2_with fail;refine(gs.out _ f).mono ?_;rintro e ak⟨rfl,a⟩;have i:=qZ (aA f a);clear a ar T W X Y Z;go_wp2_with fail;rw[<-ao.out];refine(F _).mono ?_;rintro e al⟨rfl,b⟩;have j:=qZ (aA i b);clear b;go_wp2_with fail;refine(J.out _).mono ?_;rintro e am⟨rfl,d⟩;have l:=qZ (aA j d);clear d;go_wp2_with fail;go_ret;exact⟨rfl,l⟩
 .have y:=ap.out g;subst y;have aw:(0<=n/\¬n<(N:Int))\/¬0<=n:=oZ;clear g;rcases aw with⟨ab,a8⟩|ab
  .go_enter func201,ntmps201;go_wp2_with fail;refine(gs.out _ f).mono ?_;rintro e ak⟨rfl,a⟩;have i:=qZ (aA f a);clear a T W X Y Z;go_wp2_with fail;refine(F _).mono ?_;rintro e al⟨rfl,b⟩;have j:=qZ (aA i b);clear b;go_wp2_with fail;refine(J.out _).mono ?_;rintro e am⟨rfl,d⟩;have l:=qZ (aA j d);clear d;go_wp2_with fail;go_ret;exact⟨rfl,l⟩
  .go_enter func201,ntmps201;go_wp2_with fail;refine(gs.out _ f).mono ?_;rintro e ak⟨rfl,a⟩;have i:=qZ (aA f a);clear a T W X Y Z;go_wp2_with fail;refine(F _).mono ?_;rintro e al⟨rfl,b⟩;have j:=qZ (aA i b);clear b;go_wp2_with fail;refine(J.out _).mono ?_;rintro e am⟨rfl,d⟩;have l:=qZ (aA j d);clear d;go_wp2_with fail;go_ret;exact⟨rfl,l⟩
end eZ
variable{aK:Int}{n:Nat}{v1 v2 vp vr:Value}{W W':World}
namespace eZ
open Go Go.RowKit L bM
structure yK (W:World) (b:Nat) (v1 v2:Value) (aI aK aN next:Int) (vp vr vh:Value):Prop where
 lt:b<(W:Nat)
 c0:W.cell? (b,0)=some v1
 c1:W.cell? (b,1)=some v2
 c2:W.cell? (b,2)=some (.int .i64 aI)
 c3:W.cell? (b,3)=some (.int .i64 aK)
 c4:W.cell? (b,4)=some (.int .i64 aN)
 c5:W.cell? (b,5)=some (.int .i64 next)
 c6:W.cell? (b,6)=some vp
 c7:W.cell? (b,7)=some vr
 c8:W.cell? (b,8)=some vh
theorem yK.below{b:Nat}{aI aN next:Int}{c:Value}(h:yK W b v1 v2 aI aK aN next vp vr c)(a:Below W W W'):yK W' b v1 v2 aI aK aN next vp vr c:=
 ⟨aM h.lt a.size,(a.cell (p:=⟨b,0,none⟩) h.lt).trans h.c0,(a.cell (p:=⟨b,1,none⟩) h.lt).trans h.c1,(a.cell (p:=⟨b,2,none⟩) h.lt).trans h.c2,(a.cell (p:=⟨b,3,none⟩) h.lt).trans h.c3,(a.cell (p:=⟨b,4,none⟩) h.lt).trans h.c4,(a.cell (p:=⟨b,5,none⟩) h.lt).trans h.c5,(a.cell (p:=⟨b,6,none⟩) h.lt).trans h.c6,(a.cell (p:=⟨b,7,none⟩) h.lt).trans h.c7,(a.cell (p:=⟨b,8,none⟩) h.lt).trans h.c8⟩
theorem yK.new(w:World)(t:TypeId)(v1 v2:Value)(aI aK aN next:Int)(vp vr a:Value):yK (w.alloc (.cells #[v1,v2,aI,aK,aN,next,vp,vr,a] t)) (w:Nat) v1 v2 aI aK aN next vp vr a:=by refine⟨sZ,?_,?_,?_,?_,?_,?_,?_,?_,?_⟩<;>simp[go_sem]
structure EA (w:World) (v1 v2:Value) (vh:Value) (c:Cfg.C) (h:List Nat):Prop where
 cfg:bX w (.agg #[v1,v2,c.aI,c.aK]) c
 len:c.aP.length<=1000000
 wok:WOk c
 hist:FSl w vh h
theorem EA.below{b:Value}(s:EA w v1 v2 b c h)(a:Below w w w'):EA w' v1 v2 b c h:=⟨s.cfg.below a,s.len,s.wok,s.hist.below a⟩
theorem ams{M:Value}{aN next:Int}(g:EA w v1 v2 M c h)(f:yK w n v1 v2 c.aI c.aK aN next vp vr M)(a b:Nat):gX prog w 136 #[.pointer n,(a:Int),(b:Int)] (.int .i64 (aP c h a b)):=by
 intro w1 s;replace g:=g.below s;replace f:=f.below s;clear s;have i:=(acn g.cfg g.len g.wok g.hist (a:Int)).up (ES _);have j:=(acn g.cfg g.len g.wok g.hist (b:Int)).up (ES _);have o:aP c h a b=Ord.or2 (Ord.num (aR c h (a:Int)) (aR c h (b:Int))) (Ord.num a b):=rfl;obtain⟨x,v⟩:=nZ (aR c h (a:Int));obtain⟨y,z⟩:=nZ (aR c h (b:Int));obtain⟨r,u⟩:=nZ (aP c h a b);rw[v,z,u]at o;rw[v]at i;rw[z]at j;rw[u];have l:bW prog 200 #[.int .u64 x,.int .u64 y] (.int .i64 (Ord.num x y)):=.of_eq λw=>ahj x y w;have m:bW prog 134 #[a,b] (.int .i64 (Ord.num a b)):=.of_eq λw=>wT a b w;generalize Ord.num x y=p at*;generalize Ord.num a b=q at*;obtain⟨aI,K⟩:=nZ c.aI;obtain⟨aK,I⟩:=nZ c.aK;obtain⟨D,cd,rfl,-⟩:=id g.hist;generalize h.length=H at*;rw[K,I]at i j f;have Y:=λW' (k:aF w1 W')=>k.cell f.lt f.c0;have Z:=λW' (k:aF w1 W')=>k.cell f.lt f.c1;have aa:=λW' (k:aF w1 W')=>k.cell f.lt f.c2;have ab:=λW' (k:aF w1 W')=>k.cell f.lt f.c3;have ad:=λW' (k:aF w1 W')=>k.cell f.lt f.c8;have Q:=qZ o;clear o v z u K I f g;go_enter func136,ntmps136;go_wp2_with fail;refine lF 28 kZ kZ ?_;simp only[List.take_succ_cons,List.take_zero,bH,bJ];(repeat refine kY ?_);refine kM ?_ (h:=by intro W d;go_simp;first|exact i W d|exact⟨d,i W d⟩);(repeat refine kY ?_);refine kM ?_ (h:=by intro W d;go_simp;first|exact j W d|exact⟨d,j W d⟩);refine kM ?_ (h:=by intro W d;go_simp;first|exact bW.up l d|exact⟨d,bW.up l d⟩);(repeat refine kY ?_);refine kM ?_ (h:=by intro W d;go_simp;first|exact bW.up m d|exact⟨d,bW.up m d⟩);refine eH ?_;intro W d;clear i j l m Y Z aa ab ad;have X:=qZ d;have A:(W.alloc (.cells #[p,q] 3)).cell? (W,0)=some (.int .i64 p):=by simp[go_sem]
 have F:(W.alloc (.cells #[p,q] 3)).cell? (W,1)=some (.int .i64 q):=by simp[go_sem]
 have N:=qZ (YW (w:=W.alloc (.cells #[p,q] 3)) (b:=(W:Nat)) sZ p q A F);have O:=qZ ((aJ (W:Nat) W).alloc lZ (.cells #[p,q] 3));clear A F d;go_wp2_with fail;refine N.mono ?_;rintro e ae⟨rfl,J⟩;have T:=qZ (aA X (aA O J));clear J;go_wp2_with fail;go_ret;exact⟨by rw[Q.out];rfl,T⟩
open Go.WideShapes
def POk(p:Ord.P):Prop:=InI p.since/\InI p.seq
def PSl(w:World)(v:Value)(ps:List Ord.P):Prop:=∃A cap,v=.slice A ps.length cap/\ps.length<=cap/\cap<=maxLen/\gQ w A 11 (λp=>(eP p).toList) ps/\∀p∈ps,POk p
section
variable {H:Type} {enc:TypeId×Value->H} {w:World} {base:Nat} {iK:Nat->Bool} {held:Bool}
end
end eZ
end Go.Proofs.YtedmeglbjmdlhaaGreatDoor
