/-
Parts that the laws of the whole program share: contracts of its functions, and plain laws.
-/
import Derived.Test.YtedmeglbjmdlhaaGreatDoorG23
import Derived.Test.YtedmeglbjmdlhaaGreatDoorG18
set_option maxRecDepth 100000
set_option maxHeartbeats 16000000
set_option linter.all false
open Go.Proofs.Tryz
namespace Go.Proofs.YtedmeglbjmdlhaaGreatDoor
open Go
open Cfg L Ord Quo Srt Top Vec bM bU eZ sK
variable{c:Cfg.C}{h:List Nat}{g m:Nat}{v1 v2 vp vr:Value}{w w1:World}
namespace Srt
open Go Go.RowKit Go.Sort L bM eZ
def abj(c:Cfg.C)(h:List Nat)(aN:Int)(x y:PO):Int:=Ord.cmp c h aN x.1 y.1
def sorted(c:Cfg.C)(h:List Nat)(aN:Int)(qs:List PO):Array PO:=Sort.insertionSort (ltOf (abj c h aN)) qs.toArray 0 qs.length
def aik(w w':World)(qs:List PO)(d:Array PO)(v:Value):Prop:=(qs=[]/\v=.slice none 0 0)\/∃g cap,v=.slice (some ⟨g,0,none⟩) qs.length cap/\HoldsK qP 11 w' g 0 d/\(w:Nat)<=g/\g<(w':Nat)
theorem aeZ{a:World}(h:Below w w w1)(k:aO (λi=>i=g) w1 a)(b:m<=g)(c:m=(w:Nat)+1):Below w w a:=
 h.trans (k.below h.size λi hi=>by subst hi;omega)
theorem aoK{p:Value}{aN next:Int}(au:EA w v1 v2 p c h)(F:c.aP≠[])(an:NV c aN){qs:List PO}(bb:PSl w vp (qs.map (·.1)))(bm:qs.length<1000000):Calls prog 35 #[.agg #[v1,v2,c.aI,c.aK,aN,next,vp,vr,p]] w λe w'=>∃v,e=.returned v/\aik w w' qs (sorted c h aN qs) v/\Below w w w':=by
 obtain⟨A,cap,rfl,_,_,ar,_⟩:=bb;have m:=yK.new w 31 v1 v2 c.aI c.aK aN next (.slice A (qs.map (·.1)).length cap) vr p
 have k:Below w w (w.alloc (.cells #[v1,v2,c.aI,c.aK,aN,next,.slice A (qs.map (·.1)).length cap,vr,p] 31)):=bZ;have l:=ar.below k;rw[bN]at m k l⊢;obtain⟨aI,Y⟩:=nZ c.aI;obtain⟨aK,Q⟩:=nZ c.aK;obtain⟨n,f⟩:=nZ qs.length;rw[Y,Q,f]at m k l⊢;have i:=qZ (aC Y (aC Q f));generalize Z:w.alloc (.cells #[v1,v2,aI,aK,aN,next,.slice A n cap,vr,p] 31)=I at m k l;have ad:=qZ Z;have K:=qZ (aC au (aC F an));have J:=qZ l;have M:=qZ (aC m k);have N:=qY ((I:Nat)=(w:Nat)+1) (by rw[<-Z];simp);obtain⟨bn,bd,be,bf,bg,bh,bi,bj,bk,bl⟩:=m;clear au F an ar l k f Y Q Z;have ae:=qY (n<1000000) (by have:=i.2.2;omega);cases A with
 |none=>
  have r:=qY (qs=[]) (by
   rcases qs with _|⟨q,qs⟩
   .rfl
   .obtain⟨b,o,e,_⟩:=J.out sZ;cases e)
  have G:=qZ (anH n cap I);go_enter func35,ntmps35;go_wp2_with fail;rw[ad.out];refine G.mono ?_;rintro e d⟨rfl,rfl⟩;clear G;go_wp2_with fail;refine(agy _ _ _).mono ?_;rintro e bc⟨rfl,rfl⟩;go_wp2_with fail;go_ret;exact⟨_,rfl,.inl ⟨r,rfl⟩,M.2.alloc (by have:=N.out;omega) _⟩
 |some a=>
  have ap:(flatK qP 11 qs.toArray).toList.length=n*11:=by have:=i.2.2;simp[this]
  have ai:∀j u,(flatK qP 11 qs.toArray).toList[j]? =some u->I.cell? (a.add j)=some u:=λj u H=>by
   have F:qs.map (·.1)≠[]:=λe=>by have e:=pW.1 e;subst e;simp[flatK]at H
   obtain⟨b,o,e,_⟩:=J.out F;cases e;rw[Addr.add_lit];exact ajP J j u H
  have af:∀u∈(flatK qP 11 qs.toArray).toList,u.oneCell'=true:=λu H=>by
   obtain⟨j,a5,rfl⟩:=jR H;have am:j<qs.length*11:=by simpa using a5
   have:=get_flatK qP 11 qs.toArray j (by simpa using am);rw[Array.getElem_toList,<-dF (flatK qP 11 qs.toArray) j (by simpa using am),this,dF (qP _) (j%11) (by rw[MX];omega)];exact afy _ _ (bB _)
  have G:=qZ (anI (w:=I) a n cap _ ap (by have:=ae.out;omega) ai af);clear ap ai af;go_enter func35,ntmps35;go_wp2_with fail;rw[ad.out];refine G.mono ?_;rintro e d⟨v',rfl,ba,aq,T⟩;clear G bd be bf bg bh bi bj bk bl;obtain⟨_,⟨e,_⟩|⟨g,O,cur,rfl,z,y,ao,az,ak,aw⟩⟩:=ba
  .exact absurd e aq
  have X:g<(d:Nat):=by
   rcases fP g (d:Nat)with a9|a0
   .exact a9
   .rw[gH a0]at y;cases y
  have ab:=N.out;have f:=i.2.2;have ag:HoldsK qP 11 d g 0 qs.toArray:=amL (n:=n) (cap:=O) y (by rw[gB,f];exact aw) (by rw[gB,f,ak];exact bR 11 ao);have s:Below d d (d.alloc (.cells #[.func (.func 80) #[] #[]] 145)):=bZ;have W:Below w w (d.alloc (.cells #[.func (.func 80) #[] #[]] 145)):=aA (aA M.2 T) s;have ah:=QO ag X s;have aa:=(M.1.below T).below s;have al:(d.alloc (.cells #[.func (.func 80) #[] #[]] 145)).cell? (d,0)=some (.func (.func 80) #[] #[]):=by simp[go_sem]
  rw[<-i.out.1,<-i.out.2.1]at aa;have aj:=apP K.1 K.2.1 K.2.2 W aa al sZ oZ (show g≠(d:Nat) by omega) oZ;have G:=qZ (aee (abj c h aN) ((yC c h aN).pull λx:PO=>x.1) _ _ g O qs.toArray _ (λargs w=>by simp[go_sem]) aj ah (by simp;omega) (by rw[gB,f];exact ae));rw[gB]at G;have ax:=qZ W;have ay:=qZ (aC z X);have r:=qY (Sort.insertionSort (ltOf (abj c h aN)) qs.toArray 0 qs.length=sorted c h aN qs) rfl;rw[r.out,f]at G;clear ab f ag s W ah aa al aj z X y ao az ak aw aq T r;go_wp2_with fail;refine G.mono ?_;rintro e bc⟨rfl,av⟩;have L:=qZ av;clear av G;go_wp2_with fail;go_ret;have z:=ay.out;have ab:=N.out;have a8:=L.bD;exact⟨_,rfl,.inr ⟨g,O,by rw[i.out.2.2];rfl,L.holds,oZ,L.out.lt⟩,aeZ ax a8 z.1 ab⟩
end Srt
variable{rl:List bM.Run}
namespace bU
open Go Go.RowKit L bM eZ Srt
structure FC (c:Cfg.C):Prop where
 aP:c.aP.length<=1000000
 aQ:c.aQ.length<=1000000
 caps:∀h∈c.aQ,wI h.cap
theorem GI{a5:Value}(g:bX w a5 c)(n:Runs w vr rl)(k:FC c)(p:Ord.P)(au:NY p)(av:RU p):∀w1,Below w w w1->Calls prog 23 #[a5,vr,dW p] w1 λe w'=>SV (Top.dR c (rl.map eY) p) w1 e w':=by
 intro w1 Z;replace g:=g.below Z;replace n:=n.below Z;have L:=qZ (λW (h:Below w1 w1 W)=>by have:=AR g n k.aP W h;rw[KM]at this;exact this);have ah:=qZ (λW (h:Below w1 w1 W)=>by have:=BS g n k.aQ W h;rw[free_eq]at this;exact this);have l:=qZ (λW va (h:Below w1 w1 W) (Y:VSl W va (Top.used c (rl.map eY)))=>asl (g.below h) k.aP Y p.dN (jT p) W (aJ _ _));have K:=qZ (λW b0 (h:Below w1 w1 W) (Y:VSl W b0 (Top.free c (rl.map eY)))=>aqk (g.below h) Y (by rw[<-free_eq];exact anb _ k.caps _) k.aQ p au av W (aJ _ _));have y:=aaX p.id p.dN p.eU p.need p.run p.aR p.prefer;obtain⟨v1,v2,rfl,⟨A,ca,rfl,bu,br⟩,⟨B,m,rfl,bv,bs⟩⟩:=g;obtain⟨F,cf,rfl,bw,bt,bq⟩:=n;obtain⟨R,Q⟩:=nZ (Top.dR c (rl.map eY) p);have T:=Q;unfold Top.dR at T;have f:=qZ T;rw[Q];obtain⟨bf,X⟩:=nZ (Top.used c (rl.map eY));obtain⟨ba,O⟩:=nZ (Top.free c (rl.map eY));rw[X,O]at f;rw[X]at L l;rw[O]at ah K;have ar:jT p=Vec.mM p.need p.eU:=rfl;rw[<-ar]at y;obtain⟨⟨bg,d1,d2⟩,ak⟩:∃D,jT p=D:=⟨_,rfl⟩;rw[ak]at y f l;obtain⟨q,aw⟩:=nZ (Quo.may c bf p.dN ⟨bg,d1,d2⟩);rw[aw]at l f;obtain⟨J,al⟩:=nZ (Top.find c ba p);rw[al]at K f;generalize c.aP.length=NN at*;generalize c.aQ.length=NH at*;generalize c.aI=aI at*;generalize c.aK=aK at*;generalize rl.length=NR at*;obtain⟨r,p1,x,⟨n0,n1,n2⟩,p6,s,u,b6,b5⟩:=p;simp only[dW,iD,Vec.V.val]at*;obtain⟨d,o⟩:=nZ ((w1.alloc (.cells #[.slice A NN ca,.slice B NH m,aI,aK] 26)).alloc (.cells #[r,p1,x,n0,n1,n2,p6,s,u] 42));have a8:Blk d ((w1:Nat)+1) 42 #[r,p1,x,n0,n1,n2,p6,s,u]:=by rw[<-o];have h:=Blk.new (w1.alloc (.cells #[.slice A NN ca,.slice B NH m,aI,aK] 26)) 42 #[r,p1,x,n0,n1,n2,p6,s,u];simp only[bC]at h;exact h
 have a9:Blk d w1 26 #[.slice A NN ca,.slice B NH m,aI,aK]:=by rw[<-o];exact Blk.alloc (Blk.new _ _ _) _
 have aq:Below w1 w1 d:=by rw[<-o];exact kp
 have a:=qZ (aC a8 a9);have j:=qZ aq;have be:=qZ o;have ag:=qZ y;clear o a8 a9 aq bu bv br bs bw bt bq Q T X O ar ak aw al k au av Z y;go_enter func23,ntmps23;go_wp2_with fail;rw[be.out];refine lU (aF d) (.take 0 (.take 1 (.take 2 (.take 4 (.take 5 (.take 6 (.one 3 (.one 7 (.one 8 (.take 9 .done)))))))))) kZ kZ (aF.drew d) ?_;have N:∀W,aF d W->CV W w1 0 (.slice A NN ca):=λW b=>(Blk.below a.2 b a.2.lt).cell 0;have c1:∀W,aF d W->CV W w1 1 (.slice B NH m):=λW b=>(Blk.below a.2 b a.2.lt).cell 1;have c2:∀W,aF d W->CI W w1 2 aI:=λW b=>(Blk.below a.2 b a.2.lt).cell 2;have c3:∀W,aF d W->CI W w1 3 aK:=λW b=>(Blk.below a.2 b a.2.lt).cell 3;have bh:∀W,aF d W->CI W ((w1:Nat)+1) 0 r:=λW b=>(Blk.below a.1 b a.1.lt).cell 0;have bi:∀W,aF d W->CI W ((w1:Nat)+1) 1 p1:=λW b=>(Blk.below a.1 b a.1.lt).cell 1;have bj:∀W,aF d W->CI W ((w1:Nat)+1) 2 x:=λW b=>(Blk.below a.1 b a.1.lt).cell 2;have bk:∀W,aF d W->CI W ((w1:Nat)+1) 3 n0:=λW b=>(Blk.below a.1 b a.1.lt).cell 3;have bl:∀W,aF d W->CI W ((w1:Nat)+1) 4 n1:=λW b=>(Blk.below a.1 b a.1.lt).cell 4;have bm:∀W,aF d W->CI W ((w1:Nat)+1) 5 n2:=λW b=>(Blk.below a.1 b a.1.lt).cell 5;have bn:∀W,aF d W->CI W ((w1:Nat)+1) 6 p6:=λW b=>(Blk.below a.1 b a.1.lt).cell 6;have bo:∀W,aF d W->CI W ((w1:Nat)+1) 7 s:=λW b=>(Blk.below a.1 b a.1.lt).cell 7;have bp:∀W,aF d W->CI W ((w1:Nat)+1) 8 u:=λW b=>(Blk.below a.1 b a.1.lt).cell 8;(iterate 6 refine tT ?_);clear N c1 c2 c3 bh bi bj bk bl bm bn bo bp;refine eT ?_;refine tC ?_;refine(L _ (aA j (aF.drew d))).mono ?_;rintro e b1⟨va,rfl,ay,am⟩;have ad:aF d b1:=aA (aF.drew d) am;refine⟨va,rfl,ad,?_⟩;refine eT ?_;refine tC ?_;refine(ag _).mono ?_;rintro e b2⟨rfl,aa⟩;have z:aF d b2:=aA ad aa;refine⟨_,rfl,z,?_⟩;refine eT ?_;refine tC ?_;refine(l _ va (aA j z) (ay.below aa).sl).mono ?_;rintro e I⟨rfl,an⟩;have i:aF d I:=aA z an;refine⟨_,rfl,i,?_⟩;(iterate 1 refine tT ?_);refine fZ ?_;have M:=qZ i;clear ay am aa an ad z i L ag l;cases q
 .go_wp2_with fail;refine bodyPost_ret (v:=.tuple #[(),true,.bool false]) (by simp[results,Tryz.results23,go_sem]) rfl ?_;rw[<-f.out];exact⟨_,rfl,bQ.nil _ _ _ _ _,aA j M⟩
 .go_wp2_with fail;refine lU (aF d) (.take 0 (.take 1 (.take 2 (.take 4 (.one 3 (.one 5 (.take 6 (.take 7 (.take 8 (.take 9 (.take 10 (.take 11 .done)))))))))))) kZ kZ (aA M (aF.drew I)) ?_;have N:∀W,aF d W->CV W w1 0 (.slice A NN ca)/\CV W w1 1 (.slice B NH m)/\CI W w1 2 aI/\CI W w1 3 aK/\CI W ((w1:Nat)+1) 0 r/\CI W ((w1:Nat)+1) 1 p1/\CI W ((w1:Nat)+1) 2 x/\CI W ((w1:Nat)+1) 3 n0/\CI W ((w1:Nat)+1) 4 n1/\CI W ((w1:Nat)+1) 5 n2/\CI W ((w1:Nat)+1) 6 p6/\CI W ((w1:Nat)+1) 7 s/\CI W ((w1:Nat)+1) 8 u:=λW b=>⟨(Blk.below a.2 b a.2.lt).cell 0,(Blk.below a.2 b a.2.lt).cell 1,(Blk.below a.2 b a.2.lt).cell 2,(Blk.below a.2 b a.2.lt).cell 3,(Blk.below a.1 b a.1.lt).cell 0,(Blk.below a.1 b a.1.lt).cell 1,(Blk.below a.1 b a.1.lt).cell 2,(Blk.below a.1 b a.1.lt).cell 3,(Blk.below a.1 b a.1.lt).cell 4,(Blk.below a.1 b a.1.lt).cell 5,(Blk.below a.1 b a.1.lt).cell 6,(Blk.below a.1 b a.1.lt).cell 7,(Blk.below a.1 b a.1.lt).cell 8⟩;(iterate 4 refine tT ?_);clear N;refine eT ?_;refine tC ?_;have i:aF d I.drew:=aA M (aF.drew I);refine(ah _ (aA j i)).mono ?_;rintro e b3⟨a0,rfl,az,ao⟩;have H:aF d b3:=aA i ao;refine⟨a0,rfl,H,?_⟩;refine eT ?_;refine tC ?_;have aj:=qZ (aA j H);refine(K _ a0 aj az.sl).mono ?_;rintro e b4⟨v',rfl,ax,ap⟩;have ae:aF d b4:=aA H ap;refine⟨_,rfl,ae,?_⟩;have bc:=qZ (ax.low aj.size);have bd:=qZ (aA j ae);clear ax ap ae az ao H i;obtain⟨fl,ab⟩:=nZ ((Option.map (·.1) J).getD 0);obtain⟨bz,af⟩:=nZ J.isSome;rw[ab,af];have ai:=qZ (aC ab af);have bb:=qY (R=J) (by have:=f.out;simpa using this.symm);clear ab af f;(iterate 6 refine tT ?_);refine fZ ?_;go_wp2_with fail;refine bodyPost_ret (v:=.tuple #[fl,v',.bool bz]) (by simp[results,Tryz.results23,go_sem]) rfl ?_;rw[bb.out];exact⟨v',by rw[ai.out.1,ai.out.2],bc,bd⟩
end bU
variable{k n z:Nat}{A:Option Addr}{p:Ord.P}{s:Top.S}{v:Value}{w':World}
namespace bU
open Go Go.RowKit L bM eZ Srt
def stv(v1 v2 vp vr vh:Value)(s:Top.S):Value:=.agg #[v1,v2,s.c.aI,s.c.aK,s.aN,s.next,vp,vr,vh]
structure StR (w:World) (v1 v2 vp vr vh:Value) (s:Top.S) (rl:List Run):Prop where
 cfg:bX w (.agg #[v1,v2,s.c.aI,s.c.aK]) s.c
 ps:PSl w vp s.ps
 rs:Runs w vr rl
 map:rl.map eY=s.rs
 h:FSl w vh s.h
theorem rO{ps:List Ord.P}(h:PSl w v ps)(f:Below w w w'):PSl w' v ps:=by obtain⟨A,cap,e,a,b,c,d⟩:=h;exact⟨A,cap,e,a,b,c.below f,d⟩
theorem StR.below{b:Value}(h:StR w v1 v2 vp vr b s rl)(a:Below w w w'):StR w' v1 v2 vp vr b s rl:=
 ⟨h.cfg.below a,rO h.ps a,h.rs.below a,h.map,h.h.below a⟩
structure rV (z:Nat) (v1 v2 vp vr vh:Value) (s:Top.S) (rl:List Run):Prop where
 aP:s.c.aP≠[]->∀b,v1.ownBlock=some b->z<=b
 aQ:s.c.aQ≠[]->∀b,v2.ownBlock=some b->z<=b
 ps:s.ps≠[]->∀b,vp.ownBlock=some b->z<=b
 rs:rl≠[]->∀b,vr.ownBlock=some b->z<=b
 hv:∀y∈rl,y.aQ≠[]->∀b,y.hv.ownBlock=some b->z<=b
 h:s.h≠[]->∀b,vh.ownBlock=some b->z<=b
theorem rV.low{c:Value}(h:rV z v1 v2 vp vr c s rl)(a:k<=z):rV k v1 v2 vp vr c s rl:=
 ⟨λn b e=>aV a (h.aP n b e),λn b e=>aV a (h.aQ n b e),λn b e=>aV a (h.ps n b e),λn b e=>aV a (h.rs n b e),λy d n b e=>aV a (h.hv y d n b e),λn b e=>aV a (h.h n b e)⟩
theorem FE{α:Type}{c:Nat}{dec:α->List Value}{xs:List α}(h:gQ w A k dec xs)(a:aO (λi=>i=z) w w')(l:xs≠[]->∀b,(Value.slice A n c).ownBlock=some b->b≠z):gQ w' A k dec xs:=λe=>by obtain⟨g,o,rfl,d,f⟩:=h e;exact⟨g,o,rfl,aM d a.size,λi x r j u m=>(a.cell (p:=⟨g,o+i*k+j,none⟩) d (l e g rfl)).trans (f i x r j u m)⟩
theorem StR.off{y:Nat}{d:Value}(h:StR w v1 v2 vp vr d s rl)(f:rV z v1 v2 vp vr d s rl)(Z:y<z)(c:aO (λi=>i=y) w w'):StR w' v1 v2 vp vr d s rl:=by obtain⟨⟨aa,ab,e,⟨A,ca,rfl,W,x⟩,⟨B,l,rfl,X,F⟩⟩,⟨P,n,rfl,J,K,L,M⟩,⟨Q,o,rfl,N,O,T⟩,I,⟨H,m,rfl,r,u,v⟩⟩:=h;simp only[Value.agg.injEq,eO,cB,and_true]at e;obtain⟨rfl,rfl⟩:=e;refine⟨⟨_,_,rfl,⟨A,ca,rfl,FE W c λa b e=>by have:=f.aP a b e;omega,x⟩,⟨B,l,rfl,FE X c λa b e=>by have:=f.aQ a b e;omega,F⟩⟩,⟨P,n,rfl,J,K,FE L c λa b e=>by have:=f.ps a b e;omega,M⟩,⟨Q,o,rfl,FE N c λa b e=>by have:=f.rs a b e;omega,O,λk j=>?_⟩,I,⟨H,m,rfl,FE r c λa b e=>by have:=f.h a b e;omega,u,v⟩⟩;obtain⟨V,p,e,hv,Y⟩:=T k j;have g:=f.hv k j;rw[e]at g;exact⟨V,p,e,FE hv c λa b e=>by have:=g a b e;omega,Y⟩
structure GOk (p:Ord.P):Prop where
 num:NY p
 lev:RU p
 ok:POk p
 run:0<=p.run/\p.run<=1048576
structure ROk (r:Top.R):Prop where
 start:0<=r.start/\r.start<=1099511627776
 aQ:r.aQ.length<=16
structure WW (s:Top.S):Prop where
 mild:FC s.c
 wok:WOk s.c
 num:NV s.c s.aN
 aN:0<=s.aN/\s.aN<=1099511627776
 next:1<=s.next/\s.next<=1000000
 kR:∀p∈s.ps++Top.gs s.rs,GOk p
 rs:∀r∈s.rs,ROk r
 len:s.ps.length+s.rs.length<=32
 ne:s.ps≠[]->s.c.aP≠[]
 hlen:s.h.length<=1000000
theorem arw{aN next:Int}(h:KC c aN next p)(j:aN<=1099511627776)(k:next<=1000000):GOk p:=by have g:=h.nums;have a:=g.eU;have b:=g.aR;have d:=g.prefer;have e:=h.seq;have f:=h.since;have i:=g.run;refine⟨⟨oZ⟩,⟨oZ,oZ⟩,⟨?_,?_⟩,oZ⟩<;>unfold InI<;>omega
theorem asg(h:Cfg.ok c=true):FC c:=by have e:=rE h;refine⟨oZ,oZ,λx d=>?_⟩;obtain⟨i,hi,rfl⟩:=jR d;have a:=EU (MH h) hi;rw[aL,aH hi,Option.getD_some]at a;unfold vP at a;simp only[Bool.and_eq_true]at a;have b:=a.2.2.2;rw[jX]at b;unfold wI;omega
theorem atP(h:Cfg.ok c=true):WOk c:=λx b=>by obtain⟨i,hi,rfl⟩:=jR b;have a:=AU (FX h) hi;rw[aL,aH hi,Option.getD_some]at a;simp only[wN,Bool.and_eq_true]at a;have:=(uY _ _ _).1 a.1.2;unfold InI;omega
theorem BP(h:Top.Good n s)(k:n<=1000):WW s:=by
 have a:s.next<=1000000:=by have:=h.next;omega
 have f:=h.aN;refine⟨?_,?_,?_,h.aN,⟨h.next.1,a⟩,λp b=>arw (h.kR p b) f.2 a,λr c=>?_,h.len,λb d=>?_,?_⟩
 .rcases h.cfg with e|e
  .rw[e];exact⟨dZ,dZ,λx a=>(by cases a)⟩
  .exact asg e
 .rcases h.cfg with e|e
  .rw[e];exactλx a=>(by cases a)
  .exact atP e
 .refine⟨?_,by unfold InI;omega⟩;rcases h.cfg with e|e
  .rw[e];unfold InI;decide
  .have:=rE e;unfold InI;omega
 .have g:=h.time r c;have i:=h.lies.aQ r c;have j:=(h.kR r.p (fG _ (bL.2 ⟨r,c,rfl⟩))).nums.eU;exact⟨oZ,oZ⟩
 .rcases h.cfg with e|e
  .exact b (h.none e).1
  .have:=rE e;rw[d]at this;simp at this
 .rw[h.hist];rcases h.cfg with e|e
  .rw[e];decide
  .have:=rE e;omega
theorem MO{rs:List Top.R}(h:rl.map eY=rs)(e:rs.length<=1000)(f:∀r∈rs,ROk r)(g:∀p∈Top.gs rs,GOk p):Many rl:=by
 have c:∀x∈rl,eY x∈rs:=λx a=>by rw[<-h];exact bL.2 ⟨x,a,rfl⟩
 refine⟨by rw[<-h]at e;simpa using e,λx a=>?_,λx a=>?_⟩
 .have b:=(f _ (c x a)).start;have d:=(g _ (bL.2 ⟨_,c x a,rfl⟩)).run;have e1:(eY x).start=x.start:=rfl;have e2:(eY x).p.run=x.run:=rfl;rw[e1]at b;rw[e2]at d;exact⟨oZ,d⟩
 .have b:=(f _ (c x a)).aQ;have e1:(eY x).aQ=x.aQ:=rfl;rw[e1]at b;omega
structure HV (x:Top.Rd):Prop where
 kR:∀p∈x.ps++Top.gs x.rs,GOk p
 rs:∀r∈x.rs,ROk r
 len:x.ps.length<=100/\x.rs.length<=100
 sum:x.ps.length+x.rs.length<=100
theorem HV.many{x:Top.Rd}(h:HV x)(a:rl.map eY=x.rs):Many rl:=MO a (by have:=h.len;omega) h.rs (λp b=>h.kR p (fG _ b))
theorem aeP(e:Top.Good n s)(g:n<=1000){x:Top.Rd}{l:List Ord.P}(m:Top.Mid s x l)(f:tV s.c x.rs):HV x:=by
 have ok:=BP e g;have c:∀p∈x.ps++Top.gs x.rs,GOk p:=λp i=>ok.kR p (m.perm.mem_iff.1 i);have j:x.ps.length+x.rs.length<=100:=by have b:=m.perm.length_eq;have d:=ok.len;simp only[aW,Top.gs,bN]at b;omega
 refine⟨c,λr a=>?_,oZ,j⟩
 .have b:=(c r.p (fG _ (bL.2 ⟨r,a,rfl⟩))).num.eU;have d:=f.aQ r a;refine⟨?_,oZ⟩;rcases m.runs r a with h|⟨h,_⟩
  .exact(ok.rs r h).start
  .rw[h];exact ok.aN
theorem pS{ps:List Ord.P}(h:PSl w v ps):∃A n k,v=.slice A n k:=by obtain⟨A,c,e,_⟩:=h;exact⟨_,_,_,e⟩
theorem rS{ps:List Run}(h:Runs w v ps):∃A n k,v=.slice A n k:=by obtain⟨A,c,e,_⟩:=h;exact⟨_,_,_,e⟩
theorem fS{ps:List Nat}(h:FSl w v ps):∃A n k,v=.slice A n k:=by obtain⟨A,c,e,_⟩:=h;exact⟨_,_,_,e⟩
structure StV (W:World) (z:Nat) (CS:Array Value) (s:Top.S):Prop where
 out:∃v1 v2 vp vr vh rl,stv v1 v2 vp vr vh s=.agg CS/\StR W v1 v2 vp vr vh s rl/\rV z v1 v2 vp vr vh s rl
section
variable {W W':World} {z y:Nat} {CS:Array Value} {s:Top.S}
theorem StV.below(h:StV W z CS s)(c:Below W W W'):StV W' z CS s:=by obtain⟨_,_,_,_,_,_,e,a,b⟩:=h.out;exact⟨⟨_,_,_,_,_,_,e,a.below c,b⟩⟩
theorem StV.off(h:StV W z CS s)(d:y<z)(c:aO (λi=>i=y) W W'):StV W' z CS s:=by obtain⟨_,_,_,_,_,_,e,a,b⟩:=h.out;exact⟨⟨_,_,_,_,_,_,e,a.off b d c,b⟩⟩
theorem StV.low(h:StV W z CS s)(c:y<=z):StV W y CS s:=by obtain⟨_,_,_,_,_,_,e,a,b⟩:=h.out;exact⟨⟨_,_,_,_,_,_,e,a,b.low c⟩⟩
theorem StV.parts(h:StV W z CS s):∃c c1 d c2 f c3 g c4 i c5 rl,CS=#[.slice c s.c.aP.length c1,.slice d s.c.aQ.length c2,.int .i64 s.c.aI,.int .i64 s.c.aK,.int .i64 s.aN,.int .i64 s.next,.slice f s.ps.length c3,.slice g s.rs.length c4,.slice i s.h.length c5]/\StR W (.slice c s.c.aP.length c1) (.slice d s.c.aQ.length c2) (.slice f s.ps.length c3) (.slice g s.rs.length c4) (.slice i s.h.length c5) s rl:=by
 obtain⟨v1,v2,vp,vr,p,rl,e,a,b⟩:=h.out;have a0:=a;obtain⟨⟨r,u,e2,⟨A,ca,rfl,_⟩,⟨B,l,rfl,_⟩⟩,⟨P,n,rfl,_⟩,⟨Q,o,rfl,_⟩,k,⟨H,m,rfl,_⟩⟩:=a;simp only[Value.agg.injEq,eO,cB,and_true]at e2;obtain⟨rfl,rfl⟩:=e2;have j:rl.length=s.rs.length:=by rw[<-k,bN]
 rw[j]at e a0;unfold stv at e;simp only[Value.agg.injEq]at e;exact⟨_,_,_,_,_,_,_,_,_,_,_,e.symm,a0⟩
theorem StV.size(h:StV W z CS s):CS.size=9:=by obtain⟨_,_,_,_,_,_,_,_,_,_,_,rfl,_⟩:=h.parts;rfl
theorem StV.one(h:StV W z CS s):CS.all (·.oneCell')=true:=by obtain⟨_,_,_,_,_,_,_,_,_,_,_,rfl,_⟩:=h.parts;rw[<-Array.all_toList];rfl
end
theorem oC:(prog.info? 31).map (·.size)=some 9:=by kernel_rfl
theorem StV.info{W:World}{z:Nat}{CS:Array Value}{s:Top.S}(h:StV W z CS s):(prog.info? 31).map (·.size)=some CS.size:=by rw[h.size];exact oC
structure uD (w W:World) (tb:Nat) (CS:Array Value) (s:Top.S):Prop where
 old:Below w w W
 lo:(w:Nat)<=tb
 box:Blk W tb 31 CS
 st:StV W 0 CS s
def bx(wc:World)(CS:Array Value):World:=(wc.alloc (.cells #[true,true,(),(),(),(),true,true,true] 31)).setRow (wc:Nat) CS
theorem xB(wc:World)(CS:Array Value):Below wc wc (bx wc CS):=by have a:=(aJ (wc:Nat) wc).alloc lZ (.cells #[true,true,(),(),(),(),true,true,true] 31);exact a.trans ((jO _ (wc:Nat) CS).below a.size λi e=>oZ)
theorem uD.new{w wc:World}{z:Nat}{CS:Array Value}{s:Top.S}(h:StV wc z CS s)(a:Below w w wc):uD w (bx wc CS) (wc:Nat) CS s:=
 ⟨a.trans ((xB wc CS).mono a.size),a.size,(Blk.new wc _ _).row CS,(h.low (bK _)).below (xB wc CS)⟩
section
variable {ops:Array Oper} {rest:List Oper} {o:Oper} {a:Act} {w W wc:World} {Q:Exit->Act->World->Prop} {tb z:Nat} {CS CS':Array Value} {s s':Top.S}
theorem rZ(b:o.guard=none)(x y:Operand)(d:o.op=.store 31 x y)(e:a.eval x=.pointer wc)(CS:Array Value)(f:a.eval y=.agg CS)(h:StV W z CS s)(c:wpList prog ops Q rest (a.put o.dst undef) (bx wc CS)):wpList prog ops Q (o::rest) a (wc.alloc (.cells #[true,true,(),(),(),(),true,true,true] 31)):=
 wpList_store_row b 31 x y d (wc:Nat) CS e f 31 _ (Blk.new wc _ _) h.info (by rw[h.size];rfl) h.one c
theorem AB(c:o.guard=none)(x:Operand)(e:o.op=.load 31 x)(b:uD w W tb CS s)(f:a.eval x=.pointer tb)(d:wpList prog ops Q rest (a.put o.dst (.agg CS)) W):wpList prog ops Q (o::rest) a W:=
 wpList_load_row c 31 x e tb f 31 CS (0,0) _ b.box underlying31 rfl b.st.info d
end
theorem StV.mk'{W:World}{z:Nat}{v1 v2 vp vr a:Value}{s:Top.S}{rl:List Run}(h:StR W v1 v2 vp vr a s rl)(f:rV z v1 v2 vp vr a s rl):∃CS,stv v1 v2 vp vr a s=.agg CS/\StV W z CS s:=⟨_,rfl,⟨⟨_,_,_,_,_,rl,rfl,h,f⟩⟩⟩
section
variable {P:Program} {fn:Func} {tmps:Array Value} {w:World} {cs:Array Value} {g p q:Nat} {t ty:TypeId} {d:TypeDesc}
theorem xE(h:fn.results=#[.cell p ty,.tmp q])(c:tmps.getD p undef=.pointer g)(b:w.heap[g]? =some (.cells cs t (0,0)))(f:P.underlying ty=some d)(a:(match d with|.struct _|.array _ _=>true|_=>false)=true)(hi:(P.info? ty).map (·.size)=some cs.size)(v:Value)(hv:tmps.getD q undef=v):(results fn tmps).run P w=.ok (.tuple #[.agg cs,v]) w:=by
 have e:tmps[p]?.getD undef=.pointer g:=by simpa using c
 have i:tmps[q]?.getD undef=v:=by simpa using hv
 simp[results,h,e,i,asAddr,run_loadVar_row w g t ty cs (0,0) d b f a hi]
theorem DW{a:Nat}(h:fn.results=#[.cell p ty,.tmp q,.tmp a])(e:tmps.getD p undef=.pointer g)(c:w.heap[g]? =some (.cells cs t (0,0)))(i:P.underlying ty=some d)(b:(match d with|.struct _|.array _ _=>true|_=>false)=true)(hi:(P.info? ty).map (·.size)=some cs.size)(v:Value)(hv:tmps.getD q undef=v)(v':Value)(k:tmps.getD a undef=v'):(results fn tmps).run P w=.ok (.tuple #[.agg cs,v,v']) w:=by
 have f:tmps[p]?.getD undef=.pointer g:=by simpa using e
 have j:tmps[q]?.getD undef=v:=by simpa using hv
 have l:tmps[a]?.getD undef=v':=by simpa using k
 simp[results,h,f,j,l,asAddr,run_loadVar_row w g t ty cs (0,0) d c i b hi]
theorem aep(h:fn.results=#[.tmp q,.cell p ty])(c:tmps.getD p undef=.pointer g)(b:w.heap[g]? =some (.cells cs t (0,0)))(f:P.underlying ty=some d)(a:(match d with|.struct _|.array _ _=>true|_=>false)=true)(hi:(P.info? ty).map (·.size)=some cs.size)(v:Value)(hv:tmps.getD q undef=v):(results fn tmps).run P w=.ok (.tuple #[v,.agg cs]) w:=by
 have e:tmps[p]?.getD undef=.pointer g:=by simpa using c
 have i:tmps[q]?.getD undef=v:=by simpa using hv
 simp[results,h,e,i,asAddr,run_loadVar_row w g t ty cs (0,0) d b f a hi]
end
open Go Go.RowKit L bM eZ Srt
def oQ(e:Top.E):List Value:=[.int .i64 e.kind,.int .i64 e.id,.int .i64 e.n]
theorem ara:(prog.info? 49).map (λi=>(i.zero,i.size,i.bytes))=some (some (.agg #[(),(),()]),3,24):=by kernel_rfl
theorem eel:Elem oQ 3:=⟨λ_=>rfl,λx u a=>by simp only[oQ,bA,dS,or_false]at a;rcases a with rfl|rfl|rfl<;>rfl⟩
def mF(rb:Nat)(vr ve:Value):Nat->Prop:=λi=>i=rb\/vr.ownBlock=some i\/ve.ownBlock=some i
structure nE (L:Nat) (wm w:World) (rb:Nat) (v1 v2 vh vp vr ve:Value) (s:Top.S) (rl:List Run) (x:Top.Rd):Prop where
 on:Below wm wm w
 cfg:bX wm (.agg #[v1,v2,s.c.aI,s.c.aK]) s.c
 box:Blk w rb 91 #[v1,v2,s.c.aI,s.c.aK,s.aN,s.next,vp,vr,vh,ve,.bool x.head,x.start]
 low:(wm:Nat)<=rb
 ps:PSl w vp x.ps
 rs:kU w (wm:Nat) vr rl
 map:rl.map eY=x.rs
 ev:bQ w wm 49 3 oQ ve x.ev
 nr:vr.ownBlock≠some rb
 ne:ve.ownBlock≠some rb
 nre:∀b,vr.ownBlock=some b->ve.ownBlock≠some b
 fp:x.ps≠[]->∀b,vp.ownBlock=some b->¬mF rb vr ve b
 fh:∀y∈rl,y.aQ≠[]->∀b,y.hv.ownBlock=some b->¬mF rb vr ve b
 lw:L<=(wm:Nat)
 lp:x.ps≠[]->∀b,vp.ownBlock=some b->L<=b
 lh:∀y∈rl,y.aQ≠[]->∀b,y.hv.ownBlock=some b->L<=b
section
variable {wm w w':World} {L rb:Nat} {v1 v2 vh vp vr ve:Value} {s:Top.S} {rl:List Run} {x:Top.Rd}
theorem nK(rb k:Nat)(w:World)(v:Value):aO (λi=>i=rb) w (w.setCell (rb,k) v):=(aO.refl (λi=>i=rb) w).setCell (p:=⟨rb,k,none⟩) (.inl rfl) v
theorem BM{v:Value}{ps:List Ord.P}{F:Nat->Prop}(h:PSl w v ps)(a:aO F w w')(n:ps≠[]->∀b,v.ownBlock=some b->¬F b):PSl w' v ps:=by obtain⟨A,cap,rfl,e,f,k,l⟩:=h;refine⟨A,cap,rfl,e,f,λd=>?_,l⟩;obtain⟨g,o,rfl,c,m⟩:=k d;exact⟨g,o,rfl,aM c a.size,λi y s j u r=>(a.cell (p:=⟨g,o+i*11+j,none⟩) c (n d g rfl)).trans (m i y s j u r)⟩
theorem YU{v:Value}{ps:List Ord.P}(h:PSl w v ps)(d:ps≠[]):∃b,v.ownBlock=some b/\b<(w:Nat):=by obtain⟨A,cap,rfl,e,f,a,i⟩:=h;obtain⟨g,o,rfl,c,j⟩:=a d;exact⟨g,rfl,c⟩
theorem oM{F:Nat->Prop}{B:Nat}{v:Value}(h:kU w B v rl)(d:aO F w w')(e:∀b,v.ownBlock=some b->¬F b)(f:∀x∈rl,x.aQ≠[]->∀b,x.hv.ownBlock=some b->¬F b):kU w' B v rl:=
 ⟨h.1.bD λb c=>d.block b (h.1.lt b c).2 (e b c),λx a=>⟨vO (h.2 x a).1 d (f x a),(h.2 x a).2⟩⟩
theorem nE.dU(h:nE L wm w rb v1 v2 vh vp vr ve s rl x)(a:Below w w w'):nE L wm w' rb v1 v2 vh vp vr ve s rl x:=
 ⟨h.on.trans (a.mono h.on.size),h.cfg,Blk.below h.box a h.box.lt,h.low,rO h.ps a,h.rs.below a,h.map,h.ev.below a,h.nr,h.ne,h.nre,h.fp,h.fh,h.lw,h.lp,h.lh⟩
theorem nE.foot(h:nE L wm w rb v1 v2 vh vp vr ve s rl x):∀i,mF rb vr ve i->(wm:Nat)<=i:=λi hi=>by
 rcases hi with rfl|hi|hi
 .exact h.low
 .exact(h.rs.1.lt i hi).1
 .exact(h.ev.lt i hi).1
theorem nE.flt(h:nE L wm w rb v1 v2 vh vp vr ve s rl x):∀i,mF rb vr ve i->i<(w:Nat):=λi hi=>by
 rcases hi with rfl|hi|hi
 .exact h.box.lt
 .exact(h.rs.1.lt i hi).2
 .exact(h.ev.lt i hi).2
theorem nE.atC(h:nE L wm w rb v1 v2 vh vp vr ve s rl x){c:Value}{qs:List Ord.P}(l:PSl w c qs)(g:qs≠[]->∀b,c.ownBlock=some b->¬mF rb vr ve b)(k:qs≠[]->∀b,c.ownBlock=some b->L<=b):nE L wm (w.setCell (rb,6) c) rb v1 v2 vh c vr ve s rl {x with ps:=qs}/\aO (mF rb vr ve) w (w.setCell (rb,6) c):=by have d:aO (λi=>i=rb) w (w.setCell (rb,6) c):=nK _ _ _ _;have j:=Blk.bV h.box 6 c;refine⟨⟨h.on.setCell h.low _,h.cfg,j,h.low,BM l d λf b a e=>g f b a (.inl e),oM h.rs d (λb a e=>h.nr (e▸a)) λy m f b a e=>h.fh y m f b a (.inl e),h.map,h.ev.bD λb a=>d.block b (h.ev.lt b a).2 λe=>h.ne (e▸a),h.nr,h.ne,h.nre,g,h.fh,h.lw,k,h.lh⟩,d.mono λi _ hi=>.inl hi⟩
theorem nE.axf(h:nE L wm w rb v1 v2 vh vp vr ve s rl x)(t:Int):nE L wm (w.setCell (rb,11) t) rb v1 v2 vh vp vr ve s rl {x with start:=t}/\aO (mF rb vr ve) w (w.setCell (rb,11) t):=by have c:aO (λi=>i=rb) w (w.setCell (rb,11) t):=nK _ _ _ _;have f:=Blk.bV h.box 11 t;refine⟨⟨h.on.setCell h.low _,h.cfg,f,h.low,BM h.ps c λd b a e=>h.fp d b a (.inl e),oM h.rs c (λb a e=>h.nr (e▸a)) λy g d b a e=>h.fh y g d b a (.inl e),h.map,h.ev.bD λb a=>c.block b (h.ev.lt b a).2 λe=>h.ne (e▸a),h.nr,h.ne,h.nre,h.fp,h.fh,h.lw,h.lp,h.lh⟩,c.mono λi _ hi=>.inl hi⟩
theorem nE.setH(h:nE L wm w rb v1 v2 vh vp vr ve s rl x)(t:Bool):nE L wm (w.setCell (rb,10) (.bool t)) rb v1 v2 vh vp vr ve s rl {x with head:=t}/\aO (mF rb vr ve) w (w.setCell (rb,10) (.bool t)):=by have c:aO (λi=>i=rb) w (w.setCell (rb,10) (.bool t)):=nK _ _ _ _;have f:=Blk.bV h.box 10 (.bool t);refine⟨⟨h.on.setCell h.low _,h.cfg,f,h.low,BM h.ps c λd b a e=>h.fp d b a (.inl e),oM h.rs c (λb a e=>h.nr (e▸a)) λy g d b a e=>h.fh y g d b a (.inl e),h.map,h.ev.bD λb a=>c.block b (h.ev.lt b a).2 λe=>h.ne (e▸a),h.nr,h.ne,h.nre,h.fp,h.fh,h.lw,h.lp,h.lh⟩,c.mono λi _ hi=>.inl hi⟩
theorem nE.axg(h:nE L wm w rb v1 v2 vh vp vr ve s rl x){f:Value}{j:List Run}{qs:List Top.R}{B:Nat}(n:kU w B f j)(z:j.map eY=qs)(r:(wm:Nat)<=B)(o:∀b,mF rb vr ve b->b<B)(p:∀b,x.ps≠[]->vp.ownBlock=some b->b<B)(m:∀y∈j,y.aQ≠[]->∀b,y.hv.ownBlock=some b->¬mF rb vr ve b)(v:∀y∈j,y.aQ≠[]->∀b,y.hv.ownBlock=some b->L<=b):nE L wm (w.setCell (rb,7) f) rb v1 v2 vh vp f ve s j {x with rs:=qs}/\aO (mF rb vr ve) w (w.setCell (rb,7) f):=by
 have k:aO (λi=>i=rb) w (w.setCell (rb,7) f):=nK _ _ _ _;have u:=Blk.bV h.box 7 f;have F:rb<B:=o rb (.inl rfl);have l:∀b,f.ownBlock=some b->B<=b:=λb a=>(n.1.lt b a).1;have A:∀b,ve.ownBlock=some b->b<B:=λb a=>o b (.inr (.inr a));refine⟨⟨h.on.setCell h.low _,h.cfg,u,h.low,BM h.ps k λd b a e=>h.fp d b a (.inl e),(oM n k (λb a e=>by have:=l b a;omega) λy g d b a e=>m y g d b a (.inl e)).low r,z,h.ev.bD λb a=>k.block b (h.ev.lt b a).2 λe=>h.ne (e▸a),λe=>by have:=l _ e;omega,h.ne,λb a e=>by have:=l b a;have:=A b e;omega,λd b a c=>?_,λy g d b a c=>?_,h.lw,h.lp,v⟩,k.mono λi _ hi=>.inl hi⟩
 .rcases c with c|c|c
  .exact h.fp d b a (.inl c)
  .have:=l b c;have:=p b d a;omega
  .exact h.fp d b a (.inr (.inr c))
 .rcases c with c|c|c
  .exact m y g d b a (.inl c)
  .exact(n.2 y g).2 d b c a
  .exact m y g d b a (.inr (.inr c))
theorem nE.axh(h:nE L wm w rb v1 v2 vh vp vr ve s rl x){l:World}{g:Value}{ev':List Top.E}(o:aO (λi=>ve.ownBlock=some i) w l)(z:bQ l wm 49 3 oQ g ev')(n:∀b,g.ownBlock=some b->ve.ownBlock=some b\/(w:Nat)<=b):nE L wm (l.setCell (rb,9) g) rb v1 v2 vh vp vr g s rl {x with ev:=ev'}/\aO (mF rb vr ve) w (l.setCell (rb,9) g):=by
 have m:aO (λi=>i=rb\/ve.ownBlock=some i) w (l.setCell (rb,9) g):=(o.mono λi _ hi=>.inr hi).setCell (.inl (.inl rfl)) _;have u:Blk l rb 91 _:=Blk.bD h.box o h.ne;have r:=Blk.bV u 9 g;have A:=h.box.lt;have p:g.ownBlock≠some rb:=λe=>by
  rcases n _ e with e|e
  .exact h.ne e
  .omega
 refine⟨⟨h.on.trans (m.below h.on.size (λi hi=>by
   rcases hi with rfl|hi
   .exact h.low
   .exact(h.ev.lt i hi).1)),h.cfg,r,h.low,BM h.ps m λf b a e=>h.fp f b a (e.imp id .inr),oM h.rs m (λb a e=>by
   rcases e with e|e
   .exact h.nr (e▸a)
   .exact h.nre b a e) λy k f b a e=>h.fh y k f b a (e.imp id .inr),h.map,
  z.bD λb a=>Below.heap_setCell _ _ _ _ (λe=>by have e:b=rb:=e;exact p (e▸a)),h.nr,p,λb a e=>?_,λf b a d=>?_,λy k f b a d=>?_,h.lw,h.lp,h.lh⟩,m.mono λi _ hi=>hi.imp id .inr⟩
 .rcases n _ e with e|e
  .exact h.nre b a e
  .have:=(h.rs.1.lt b a).2;omega
 .rcases d with d|d|d
  .exact h.fp f b a (.inl d)
  .exact h.fp f b a (.inr (.inl d))
  .rcases n _ d with e|e
   .exact h.fp f b a (.inr (.inr e))
   .obtain⟨c,j,v⟩:=YU h.ps f;rw[a]at j;injection j with j;omega
 .rcases d with d|d|d
  .exact h.fh y k f b a (.inl d)
  .exact h.fh y k f b a (.inr (.inl d))
  .rcases n _ d with e|e
   .exact h.fh y k f b a (.inr (.inr e))
   .obtain⟨c,j,v⟩:=DK (h.rs.2 y k).1 f;rw[a]at j;injection j with j;omega
theorem nE.avM(h:nE L wm w rb v1 v2 vh vp vr ve s rl x){j:World}{g:Value}{k:List Run}{rs':List Top.R}(u:aO (λi=>vr.ownBlock=some i) w j)(z:kU j (wm:Nat) g k)(M:k.map eY=rs')(o:∀b,g.ownBlock=some b->vr.ownBlock=some b\/(w:Nat)<=b)(r:∀y∈k,y.aQ≠[]->∀b,y.hv.ownBlock=some b->b≠rb/\ve.ownBlock≠some b)(K:∀y∈k,y.aQ≠[]->∀b,y.hv.ownBlock=some b->L<=b):nE L wm (j.setCell (rb,7) g) rb v1 v2 vh vp g ve s k {x with rs:=rs'}/\aO (mF rb vr ve) w (j.setCell (rb,7) g):=by
 have l:aO (λi=>i=rb\/vr.ownBlock=some i) w (j.setCell (rb,7) g):=(u.mono λi _ hi=>.inr hi).setCell (.inl (.inl rfl)) _;have I:Blk j rb 91 _:=Blk.bD h.box u h.nr;have H:=Blk.bV I 7 g;have O:=h.box.lt;have v:g.ownBlock≠some rb:=λe=>by
  rcases o _ e with e|e
  .exact h.nr e
  .omega
 have J:aO (λi=>i=rb) j (j.setCell (rb,7) g):=nK _ _ _ _;refine⟨⟨h.on.trans (l.below h.on.size (λi hi=>by
   rcases hi with rfl|hi
   .exact h.low
   .exact(h.rs.1.lt i hi).1)),h.cfg,H,h.low,BM h.ps l λf b a e=>h.fp f b a (e.imp id .inl),oM z J (λb a e=>v (e▸a)) λy m f b a e=>(r y m f b a).1 e,M,
  h.ev.bD (λb a=>l.block b (h.ev.lt b a).2 (λe=>by
   rcases e with e|e
   .exact h.ne (e▸a)
   .exact h.nre b e a)),v,h.ne,λb a e=>?_,λf b a d=>?_,λy m f b a d=>?_,h.lw,h.lp,K⟩,l.mono λi _ hi=>hi.imp id .inl⟩
 .rcases o _ a with p|p
  .exact h.nre b p e
  .have:=(h.ev.lt b e).2;omega
 .rcases d with d|d|d
  .exact h.fp f b a (.inl d)
  .rcases o _ d with e|e
   .exact h.fp f b a (.inr (.inl e))
   .obtain⟨c,n,N⟩:=YU h.ps f;rw[a]at n;injection n with n;omega
  .exact h.fp f b a (.inr (.inr d))
 .obtain⟨A,F⟩:=r y m f b a;rcases d with d|d|d
  .exact A d
  .exact(z.2 y m).2 f b d a
  .exact F d
end
end bU
variable{x:Value}
namespace bU
open Go Go.RowKit L bM eZ Srt
def pX(L:Nat)(wm w:World)(rb:Nat)(v1 v2 vh vr ve:Value)(s:Top.S)(y:Top.Rd)(w':World):Prop:=∃vp' vr' ve' rl',nE L wm w' rb v1 v2 vh vp' vr' ve' s rl' y/\aO (mF rb vr ve) w w'/\∀i,mF rb vr' ve' i->mF rb vr ve i\/(w:Nat)<=i
theorem pX.after{f:World}{L a:Nat}{e b:Value}{y:Top.Rd}(d:aO (mF a vr b) w w1)(c:∀i,mF a v x i->mF a vr b i\/(w:Nat)<=i)(h:pX L f w1 a v1 v2 e v x s y w'):pX L f w a v1 v2 e vr b s y w':=by
 obtain⟨o,p,n,m,g,j,k⟩:=h;refine⟨o,p,n,m,g,d.trans' j λi hi l=>?_,λi hi=>?_⟩
 .rcases c i l with h|h
  .exact h
  .omega
 .rcases k i hi with h|h
  .exact c i h
  .exact .inr (aV d.size h)
theorem MJ{Y:World}{L d:Nat}{I a:Value}{x:Top.Rd}(h:nE L Y w d v1 v2 I vp vr a s rl x)(ak:x.ev.length<=1000000)(kind id n:Int):Calls prog 87 #[.pointer d,kind,id,n] w λe w'=>e=.returned (.tuple #[])/\∃f,nE L Y w' d v1 v2 I vp vr f s rl {x with ev:=x.ev++[⟨kind,id,n⟩]}/\aO (mF d vr a) w w'/\∀b,f.ownBlock=some b->a.ownBlock=some b\/(w:Nat)<=b:=by
 obtain⟨i0,M,T,W,X⟩:=info_parts ara;obtain⟨ap,l⟩:=nZ (w.alloc (.cells #[kind,id,n] 49));have j:=aB l;have Z:=aX l;have ae:=h.on.size;have ad:=j.size;have N:=rU (k:=3) (dec:=oQ) (x:=(⟨kind,id,n⟩:Top.E)) Z rfl;obtain⟨f,o,e1,e2,e3,e4,J⟩:=mP (P:=prog) 45 45 i0 _ 24 underlying45 M T W X rfl oZ (λ_=>rfl) (ys:=[(⟨kind,id,n⟩:Top.E)]) (m:=1) (c:=1)
  (λu z=>by obtain⟨y,al,z⟩:=jV.1 z;exact eel.one y u z) (h.ev.below j) rfl N oZ (by unfold maxLen;omega) oZ
 have H:aO (λi=>a.ownBlock=some i) w o:=(aO.bS j).trans' (aO.lG (F:=λi=>a.ownBlock=some i) e3 λi hi=>hi) (λi _ hi=>hi);have r:Blk o d 91 #[v1,v2,s.c.aI,s.c.aK,s.aN,s.next,vp,vr,I,a,.bool x.head,x.start]:=h.box.bD H h.ne;have v:∀b,f.ownBlock=some b->a.ownBlock=some b\/(w:Nat)<=b:=λb ab=>by
  rcases J b ab with K|K
  .exact .inl K
  .exact .inr oZ
 obtain⟨O,Q⟩:=h.axh H e2 v;have p:=qZ (aC O (aC Q v));have ao:(w.alloc (.cells #[kind,id,n] 49)).cell? (d,9)=some a:=by rw[l];exact(h.box.below j h.box.lt).cell 9
 have c9:CV w d 9 a:=h.box.cell 9;have an:CV o d 9 a:=r.cell 9;have aj:o.frozen? (d,9)=false:=r.frozen 9;rw[<-l]at e1;have aa:=qZ e1;have af:a.oneCell'=true:=by rcases h.ev.form with⟨e,_⟩|⟨g,cap,e,_⟩<;>rw[e]<;>rfl
 have ag:f.oneCell'=true:=by rcases e2.form with⟨e,_⟩|⟨g,cap,e,_⟩<;>rw[e]<;>rfl
 obtain⟨A,m,cap,rfl⟩:∃A m cap,a=.slice A m cap:=by rcases h.ev.form with⟨e,_⟩|⟨g,cap,e,_⟩<;>exact⟨_,_,_,e⟩
 obtain⟨ah,am,ai,rfl⟩:∃A m cap,f=.slice A m cap:=by rcases e2.form with⟨e,_⟩|⟨g,cap,e,_⟩<;>exact⟨_,_,_,e⟩
 clear v r O Q H e2 e3 e4 J N Z j l ad ae h M T W X e1 af ag;go_enter func87,ntmps87;go_wp2_with(at_builtin;refine dJ rfl (.tmp 12) (.tmp 17) _ _ rfl (.slice A m cap) (.slice w 1 1) rfl rfl aa ?_)
 go_end0
 exact⟨rfl,_,p.1,p.2.1,p.2.2⟩
def aga(o:Option Int)(w1:World)(e:Ending)(w':World):Prop:=e=.returned (.tuple #[(o.getD 0:Int),.bool o.isSome])/\Below w1 w1 w'
theorem at_len(rs:List Top.R)(t:Int):(Top.dD rs t).length<=rs.length:=eF _ _
theorem aed(c:Cfg.C)(rs:List Top.R)(p:Ord.P)(t:Int)(ts:List Int):qL c rs p (t::ts)=if(Top.dR c (Top.dD rs t) p).isSome then some t else qL c rs p ts:=by show(match Top.dR c (Top.dD rs t) p with|some _=>some t|none=>qL c rs p ts)=_;cases Top.dR c (Top.dD rs t) p<;>rfl
theorem afe(n:Int):∀l:List Int,(wB n l).length=l.length+1
 |[]=>rfl
 |x::t=>by
  unfold wB;split
  .rfl
  .rw[List.length_cons,afe n t,List.length_cons]
theorem abH:∀l:List Int,(CO l).length=l.length
 |[]=>rfl
 |x::t=>by show(wB x (CO t)).length=_;rw[afe,abH t,List.length_cons]
theorem aad(aN:Int):∀(rs:List Top.R) (l:List Int),(rs.foldl (λl r=>if decide (aN<jC r)&& !(l.contains (jC r))then l++[jC r]else l) l).length<=l.length+rs.length
 |[],l=>sZ
 |r::rs,l=>by rw[List.foldl_cons];refine aV (aad aN rs _) ?_;split<;>simp<;>omega
theorem aqp(rs:List Top.R)(aN:Int):(Top.ends rs aN).length<=rs.length:=by unfold Top.ends;rw[abH];have:=aad aN rs [];simpa[tL]using this
theorem amv{r:Value}(a:bX w r c)(m:FC c)(p:Ord.P)(n:NY p)(o:RU p):gX prog w 107 #[r,dW p] (.bool (Top.never c p)):=by
 intro w1 j;replace a:=a.below j;have b:=qZ (λW (h:Below w1 w1 W)=>GI (vr:=.slice none 0 0) (rl:=[]) (a.below h) ⟨none,0,rfl,λh=>absurd rfl h,by simp[maxLen],λx h=>by cases h⟩ m p n o W (aJ _ _));obtain⟨v1,v2,rfl,⟨A,ca,rfl,J,H⟩,⟨B,F,rfl,K,I⟩⟩:=a;obtain⟨R,d⟩:=nZ (Top.dR c [] p);rw[show Top.never c p=R.isNone by rw[<-d];rfl];simp only[gM,d]at b;generalize c.aP.length=NN at*;generalize c.aQ.length=NH at*;generalize c.aI=aI at*;generalize c.aK=aK at*;obtain⟨M,p1,Q,⟨n0,n1,n2⟩,p6,N,O,Y,X⟩:=p;simp only[dW,iD]at*;obtain⟨s,g⟩:=nZ ((w1.alloc (.cells #[.slice A NN ca,.slice B NH F,aI,aK] 26)).alloc (.cells #[M,p1,Q,n0,n1,n2,p6,N,O] 42));have l:Below w1 w1 s:=by rw[<-g];exact kp
 have i:=qZ l;have z:=qZ g;obtain⟨T,f⟩:=nZ R.isSome;have v:=qY (R.isNone= !T) (by rw[<-f];cases R<;>rfl);have y:=qZ f;clear g l J K H I d m n o j f;go_enter func107,ntmps107;go_wp2_with fail;rw[z.out];refine(b s i).mono ?_;rintro e Z⟨v',rfl,L,k⟩;rw[y.out];have u:=qZ (aA i k);clear L k b;go_wp2_with fail;go_ret;exact⟨by rw[v.out];rfl,u⟩
theorem alq{bt:Value}(n:bX w bt c)(ad:Runs w vr rl)(bn:FC c)(au:Many rl)(aN:Int)(p:Ord.P)(bp:NY p)(bq:RU p):∀w1,Below w w w1->Calls prog 86 #[bt,aN,vr,dW p] w1 λe w'=>aga (Top.start c aN (rl.map eY) p) w1 e w':=by
 intro w1 bb;replace n:=n.below bb;replace ad:=ad.below bb;have am:=qZ (λW (h:Below w1 w1 W)=>aqr ad au aN W h);have aw:=qZ (λt W (h:Below w1 w1 W)=>GX ad au t W h);have an:=qZ (λW cm (x:List Run) (h:Below w1 w1 W) (ch:Runs W cm x)=>GI (n.below h) ch bn p bp bq W (aJ _ _));have ap:=qZ (aqp (rl.map eY) aN);have ao:=qZ (λt=>at_len (rl.map eY) t);have cu:=au.len;have ay:=qZ (λt ts=>aed c (rl.map eY) p t ts);obtain⟨v1,v2,rfl,⟨A,ca,rfl,ci,cb⟩,⟨B,Q,rfl,cj,cc⟩⟩:=n;obtain⟨F,cf,rfl,ck,ce,b9⟩:=ad;obtain⟨R,a9⟩:=nZ (Top.start c aN (rl.map eY) p);have ba:=a9;unfold Top.start at ba;have aq:=qZ ba;rw[a9];rw[bN]at ap ao;obtain⟨g,bk⟩:=nZ (rl.map eY);rw[bk]at am aw aq ap ao ay;obtain⟨j,bh⟩:=nZ (Top.ends g aN);rw[bh]at aq am ap;generalize c.aP.length=NN at*;generalize c.aQ.length=NH at*;generalize c.aI=aI at*;generalize c.aK=aK at*;generalize rl.length=NR at*;obtain⟨P,bj⟩:=nZ p;have bg:=qZ bj;obtain⟨ag,p1,aj,⟨n0,n1,n2⟩,p6,ah,ai,cx,cw⟩:=p;simp only[dW,iD]at*;replace an:Hid _:=qZ (by have h:=an.out;simp only[bg.out]at h;exact h);rw[bg.out]at aq ay;obtain⟨N,bi⟩:=nZ j.length;have K:=qZ bi;have ct:N<=1000:=by have:=ap.out;omega
 obtain⟨al,af⟩:=nZ ((w1.alloc (.cells #[.slice A NN ca,.slice B NH Q,aI,aK] 26)).alloc (.cells #[ag,p1,aj,n0,n1,n2,p6,ah,ai] 42));have bu:Blk al ((w1:Nat)+1) 42 #[ag,p1,aj,n0,n1,n2,p6,ah,ai]:=by rw[<-af];have h:=Blk.new (w1.alloc (.cells #[.slice A NN ca,.slice B NH Q,aI,aK] 26)) 42 #[ag,p1,aj,n0,n1,n2,p6,ah,ai];simp only[bC]at h;exact h
 have bv:Blk al w1 26 #[.slice A NN ca,.slice B NH Q,aI,aK]:=by rw[<-af];exact Blk.alloc (Blk.new _ _ _) _
 have bm:Below w1 w1 al:=by rw[<-af];exact kp
 have a:=qZ (aC bu bv);have l:=qZ bm;have bz:=qZ af;clear af bu bv bm ci cj cb cc ck ce b9 a9 ba bk bh bi bn bp bq bb bj au;go_enter func86,ntmps86;go_wp2_with fail;rw[bz.out];refine(am _ l).mono ?_;rintro e z⟨cy,rfl,cl,bl⟩;obtain⟨E,cn,rfl,br,cd⟩:=cl;rw[K.out];have bw:=qZ br;have be:=qZ bl;clear br cd bl am;go_wp2_with fail;go_loopg[22] (N+1) (λa5 v22 wr=>∃k:Nat,v22=.int .i64 k/\k<=N+1/\N+1<=a5+k/\Hid (qL c g P ((aN::j).drop k)=R)/\Hid (Below z z wr));case atStart=>exact⟨0,mZ,oZ,oZ,qZ (by rw[bJ];exact aq),qZ (aJ _ _)⟩
 case round=>
  obtain⟨k,rfl,cp,co,O,I⟩:=hrel;by_cases cr:k<N+1
  .have cg:(k:Int)<(N:Int)+1:=oZ;obtain⟨t,av⟩:=nZ ((aN::j)[k]'(by simp;have:=K.out;omega));have m:Hid (qL c g P ((aN::j).drop k)=if(Top.dR c (Top.dD g t) P).isSome then some t else qL c g P ((aN::j).drop (k+1))):=qZ (by rw[dM (show k<(aN::j).length by simp;have:=K.out;omega),av,ay.out]);have bs:Below al al wr:=aA be I;have f:=qZ bs;have ar:Hid ((k=0/\t=aN)\/(0<k/\∃b o,E=some ⟨b,o,none⟩/\wr.cell? ⟨b,o+(k-1),none⟩=some (.int .i64 t))):=qZ (by
    by_cases a8:k=0
    .subst a8;exact .inl ⟨rfl,av.symm⟩
    .refine .inr ⟨oZ,?_⟩;obtain⟨b,o,e,cs,n⟩:=vK bw (k:=k-1) (by have:=K.out;omega);refine⟨b,o,e,?_⟩;rw[n wr I.out,<-av];congr 2;rw[List.getElem_cons];simp[a8])
   clear av bs;by_cases a8:0<k
   .rcases ar.out with⟨T,_⟩|⟨_,b,o,rfl,n⟩
    .omega
    .have cv:(k:Int)-1=((k-1:Nat):Int):=oZ;have cq:k-1<N:=oZ;have b8:(0:Int)<(k:Int):=oZ;clear ar;go_wp2_with fail;refine lU (aF wr) (.take 0 (.take 1 (.take 2 (.take 4 (.one 3 (.one 5 (.take 6 (.take 7 (.take 8 (.take 9 (.take 10 (.take 11 (.take 12 .done))))))))))))) kZ kZ (aF.drew wr) ?_;have a0:∀W,aF wr W->W.cell? (w1,0)=some (.slice A NN ca):=λW d=>(Blk.below a.2 (aA f d) a.2.lt).cell 0;have c1:∀W,aF wr W->W.cell? (w1,1)=some (.slice B NH Q):=λW d=>(Blk.below a.2 (aA f d) a.2.lt).cell 1;have c2:∀W,aF wr W->W.cell? (w1,2)=some (.int .i64 aI):=λW d=>(Blk.below a.2 (aA f d) a.2.lt).cell 2;have c3:∀W,aF wr W->W.cell? (w1,3)=some (.int .i64 aK):=λW d=>(Blk.below a.2 (aA f d) a.2.lt).cell 3;have b0:∀W,aF wr W->W.cell? ((w1:Nat)+1,0)=some (.int .i64 ag):=λW d=>(Blk.below a.1 (aA f d) a.1.lt).cell 0;have a5:∀W,aF wr W->W.cell? ((w1:Nat)+1,1)=some (.int .i64 p1):=λW d=>(Blk.below a.1 (aA f d) a.1.lt).cell 1;have b1:∀W,aF wr W->W.cell? ((w1:Nat)+1,2)=some (.int .i64 aj):=λW d=>(Blk.below a.1 (aA f d) a.1.lt).cell 2;have b2:∀W,aF wr W->W.cell? ((w1:Nat)+1,3)=some (.int .i64 n0):=λW d=>(Blk.below a.1 (aA f d) a.1.lt).cell 3;have b3:∀W,aF wr W->W.cell? ((w1:Nat)+1,4)=some (.int .i64 n1):=λW d=>(Blk.below a.1 (aA f d) a.1.lt).cell 4;have b4:∀W,aF wr W->W.cell? ((w1:Nat)+1,5)=some (.int .i64 n2):=λW d=>(Blk.below a.1 (aA f d) a.1.lt).cell 5;have b5:∀W,aF wr W->W.cell? ((w1:Nat)+1,6)=some (.int .i64 p6):=λW d=>(Blk.below a.1 (aA f d) a.1.lt).cell 6;have b6:∀W,aF wr W->W.cell? ((w1:Nat)+1,7)=some (.int .i64 ah):=λW d=>(Blk.below a.1 (aA f d) a.1.lt).cell 7;have b7:∀W,aF wr W->W.cell? ((w1:Nat)+1,8)=some (.int .i64 ai):=λW d=>(Blk.below a.1 (aA f d) a.1.lt).cell 8;(iterate 4 refine tT ?_);clear a0 c1 c2 c3 b0 a5 b1 b2 b3 b4 b5 b6 b7;refine eT ?_;refine tC ?_;refine(aw t _ (aA l (aA f (aF.drew wr)))).mono ?_;rintro e ak⟨va,x,rfl,ae,s,Y⟩;have i:aF wr ak:=aA (aF.drew wr) Y;refine⟨va,rfl,i,?_⟩;refine eT ?_;refine tC ?_;have ab:x.length<=1000000:=by have T:=ao.out t;rw[<-s,bN]at T;omega
     refine(an ak va x (aA l (aA f i)) (ae.runs ab)).mono ?_;rw[s];rintro e y⟨v',rfl,bc,Z⟩;have r:aF wr y:=aA i Z;refine⟨_,rfl,r,?_⟩;have M:=qZ r;obtain⟨H,X⟩:=nZ (Top.dR c (Top.dD g t) P);rw[X]at m⊢;obtain⟨fl,aa⟩:=nZ ((Option.map (·.1) H).getD 0);obtain⟨bd,u⟩:=nZ H.isSome;rw[aa,u];rw[u]at m;clear bc Z r ae Y i X aa u s ab;(iterate 7 refine tT ?_);refine fZ ?_;have ax:=qY (Below z z y) (aA I M);have J:=qY (Below w1 w1 y) (aA l (aA f M));cases bd
     .have az:=qY (qL c g P ((aN::j).drop (k+1))=R) (by have h:=m.out;rw[O.out]at h;simpa using h.symm);go_wp2_with fail;go_roundg(N+1-(k+1));case measure=>omega
      case rel=>exact⟨k+1,mZ,oZ,oZ,az,ax⟩
     .have L:=qY (R=some t) (by have h:=m.out;rw[O.out]at h;simpa using h);go_wp2_with fail;refine bodyPost_ret (v:=.tuple #[t,.bool true]) (by simp[results,Tryz.results86,go_sem]) rfl ?_;rw[L.out];exact⟨rfl,J⟩
   .rcases ar.out with⟨_,bo⟩|⟨T,_⟩
    .have b8:¬(0:Int)<(k:Int):=oZ;have bf:=qZ bo.symm;clear ar bo;go_wp2_with fail;rw[bf.out];refine lU (aF wr) (.take 0 (.take 1 (.take 2 (.take 4 (.one 3 (.one 5 (.take 6 (.take 7 (.take 8 (.take 9 (.take 10 (.take 11 (.take 12 .done))))))))))))) kZ kZ (aF.drew wr) ?_;have a0:∀W,aF wr W->W.cell? (w1,0)=some (.slice A NN ca)/\W.cell? (w1,1)=some (.slice B NH Q)/\W.cell? (w1,2)=some (.int .i64 aI)/\W.cell? (w1,3)=some (.int .i64 aK)/\W.cell? ((w1:Nat)+1,0)=some (.int .i64 ag)/\W.cell? ((w1:Nat)+1,1)=some (.int .i64 p1)/\W.cell? ((w1:Nat)+1,2)=some (.int .i64 aj)/\W.cell? ((w1:Nat)+1,3)=some (.int .i64 n0)/\W.cell? ((w1:Nat)+1,4)=some (.int .i64 n1)/\W.cell? ((w1:Nat)+1,5)=some (.int .i64 n2)/\W.cell? ((w1:Nat)+1,6)=some (.int .i64 p6)/\W.cell? ((w1:Nat)+1,7)=some (.int .i64 ah)/\W.cell? ((w1:Nat)+1,8)=some (.int .i64 ai):=λW d=>⟨(Blk.below a.2 (aA f d) a.2.lt).cell 0,(Blk.below a.2 (aA f d) a.2.lt).cell 1,(Blk.below a.2 (aA f d) a.2.lt).cell 2,(Blk.below a.2 (aA f d) a.2.lt).cell 3,(Blk.below a.1 (aA f d) a.1.lt).cell 0,(Blk.below a.1 (aA f d) a.1.lt).cell 1,(Blk.below a.1 (aA f d) a.1.lt).cell 2,(Blk.below a.1 (aA f d) a.1.lt).cell 3,(Blk.below a.1 (aA f d) a.1.lt).cell 4,(Blk.below a.1 (aA f d) a.1.lt).cell 5,(Blk.below a.1 (aA f d) a.1.lt).cell 6,(Blk.below a.1 (aA f d) a.1.lt).cell 7,(Blk.below a.1 (aA f d) a.1.lt).cell 8⟩;(iterate 4 refine tT ?_);clear a0;refine eT ?_;refine tC ?_;refine(aw t _ (aA l (aA f (aF.drew wr)))).mono ?_;rintro e ak⟨va,x,rfl,ae,s,Y⟩;have i:aF wr ak:=aA (aF.drew wr) Y;refine⟨va,rfl,i,?_⟩;refine eT ?_;refine tC ?_;have ab:x.length<=1000000:=by have T:=ao.out t;rw[<-s,bN]at T;omega
     refine(an ak va x (aA l (aA f i)) (ae.runs ab)).mono ?_;rw[s];rintro e y⟨v',rfl,bc,Z⟩;have r:aF wr y:=aA i Z;refine⟨_,rfl,r,?_⟩;have M:=qZ r;obtain⟨H,X⟩:=nZ (Top.dR c (Top.dD g t) P);rw[X]at m⊢;obtain⟨fl,aa⟩:=nZ ((Option.map (·.1) H).getD 0);obtain⟨bd,u⟩:=nZ H.isSome;rw[aa,u];rw[u]at m;clear bc Z r ae Y i X aa u s ab;(iterate 7 refine tT ?_);refine fZ ?_;have ax:=qY (Below z z y) (aA I M);have J:=qY (Below w1 w1 y) (aA l (aA f M));cases bd
     .have az:=qY (qL c g P ((aN::j).drop (k+1))=R) (by have h:=m.out;rw[O.out]at h;simpa using h.symm);go_wp2_with fail;rw[<-bf.out];go_roundg(N+1-(k+1));case measure=>omega
      case rel=>exact⟨k+1,by rw[show k=0 by omega];rfl,oZ,oZ,az,ax⟩
     .have L:=qY (R=some t) (by have h:=m.out;rw[O.out]at h;simpa using h);go_wp2_with fail;refine bodyPost_ret (v:=.tuple #[t,.bool true]) (by simp[results,Tryz.results86,go_sem]) rfl ?_;rw[L.out];exact⟨rfl,J⟩
    .omega
  .have cg:¬(k:Int)<(N:Int)+1:=oZ;have L:=qY (R=none) (by have h:=O.out;rw[lC (by simp;have:=K.out;omega)]at h;exact h.symm);have J:=qY (Below w1 w1 wr) (aA l (aA be I));go_wp2_with fail;refine bodyPost_ret (v:=.tuple #[(),.bool false]) (by simp[results,Tryz.results86,go_sem]) rfl ?_;rw[L.out];exact⟨rfl,J⟩
end bU
variable{b1 b2 b3:Nat}
namespace bU
open Go Go.RowKit L bM eZ Srt
structure CX (w:World) (b1 b2 b3:Nat) (vc vr:Value) (p:Ord.P):Prop where
 cfg:∃v1 v2 h a,vc=.agg #[v1,v2,.int .i64 h,.int .i64 a]/\Blk w b1 26 #[v1,v2,.int .i64 h,.int .i64 a]
 row:Blk w b2 28 #[vr]
 dW:Blk w b3 42 (iD p)
theorem CX.on{g:Value}(h:CX w b1 b2 b3 g vr p)(b:Below w w w'):CX w' b1 b2 b3 g vr p:=by obtain⟨⟨v1,v2,x,a,e,c⟩,f,d⟩:=h;exact⟨⟨v1,v2,x,a,e,c.below b c.lt⟩,f.below b f.lt,d.below b d.lt⟩
theorem JR(rs:List Top.R)(dB:List Int):(dK rs dB).length<=rs.length:=eF _ _
theorem anM{Z:Value}{dB:List Int}(u:CX w b1 b2 b3 Z vr p)(g:bX w Z c)(j:Runs w vr rl)(Q:FC c)(r:Many rl)(hi:ISl w v dB)(ak:dB.length<=1000000)(T:NY p)(X:RU p):∀w1,Below w w w1->Calls prog 140 #[v,.pointer b1,.pointer b2,.pointer b3] w1 λe w'=>e=.returned (.bool (Top.dR c (dK (rl.map eY) dB) p).isSome)/\Below w1 w1 w':=by
 intro w1 d;replace u:=u.on d;replace g:=g.below d;replace j:=j.below d;replace hi:=hi.below d;have H:=qZ (λW (h:Below w1 w1 W)=>TH j r hi ak W h);have ab:=qZ (λW a8 (k:List Run) (h:Below w1 w1 W) (aq:Runs W a8 k)=>GI (g.below h) aq Q p T X W (aJ _ _));have l:=qZ (JR (rl.map eY) dB);have bb:=r.len;rw[bN]at l;obtain⟨⟨v1,v2,aI,aK,rfl,xc⟩,y,x⟩:=u;obtain⟨u1,u2,e,⟨A,ca,rfl,ar,am⟩,⟨B,J,rfl,au,an⟩⟩:=g;obtain⟨rfl,rfl,rfl,rfl⟩:v1=.slice A c.aP.length ca/\v2=.slice B c.aQ.length J/\aI=c.aI/\aK=c.aK:=by simp at e;exact e
 obtain⟨F,cf,rfl,av,ao,al⟩:=j;obtain⟨I,ba,rfl,aw,ap⟩:=hi;obtain⟨ah,K⟩:=nZ (dK (rl.map eY) dB);rw[K]at H l⊢;obtain⟨z,m⟩:=nZ (Top.dR c ah p);rw[m];have ad:=qZ m;generalize c.aP.length=NN at*;generalize c.aQ.length=NH at*;generalize c.aI=aI at*;generalize c.aK=aK at*;generalize rl.length=NR at*;generalize dB.length=NI at*;have f:=qZ (λW (a:aF w1 W)=>Blk.below xc a xc.lt);have af:=qZ (λW (a:aF w1 W)=>Blk.below y a y.lt);have b:=qZ (λW (a:aF w1 W)=>Blk.below x a x.lt);obtain⟨ay,p1,a5,⟨n0,n1,n2⟩,p6,az,a0,bd,bc⟩:=p;simp only[dW,iD]at*;clear xc y x ar au am an av ao al aw ap Q T X d r K m e;go_enter func140,ntmps140;go_wp2_with fail;refine lU (aF w1) (.take 0 (.take 1 (.take 2 (.take 4 (.one 3 (.one 5 (.take 6 (.take 7 (.take 8 (.take 9 (.take 10 (.take 11 (.take 12 .done))))))))))))) kZ kZ (aF.drew w1) ?_;have ai:∀W,aF w1 W->CV W b1 0 (.slice A NN ca)/\CV W b1 1 (.slice B NH J)/\CI W b1 2 aI/\CI W b1 3 aK/\CV W b2 0 (.slice F NR cf)/\CI W b3 0 ay/\CI W b3 1 p1/\CI W b3 2 a5/\CI W b3 3 n0/\CI W b3 4 n1/\CI W b3 5 n2/\CI W b3 6 p6/\CI W b3 7 az/\CI W b3 8 a0:=λW a=>⟨(f W a).cell 0,(f W a).cell 1,(f W a).cell 2,(f W a).cell 3,(af W a).cell 0,(b W a).cell 0,(b W a).cell 1,(b W a).cell 2,(b W a).cell 3,(b W a).cell 4,(b W a).cell 5,(b W a).cell 6,(b W a).cell 7,(b W a).cell 8⟩;(iterate 4 refine tT ?_);clear ai;refine eT ?_;refine tC ?_;refine(H _ (aF.drew w1)).mono ?_;rintro e aa⟨va,k,rfl,Y,o,L⟩;have i:aF w1 aa:=aA (aF.drew w1) L;refine⟨va,rfl,i,?_⟩;refine eT ?_;refine tC ?_;have O:k.length<=1000000:=by have aj:=l.out;rw[<-o,bN]at aj;omega
 refine(ab aa va k i (Y.runs O)).mono ?_;rw[o,ad.out];rintro e a9⟨v',rfl,ax,M⟩;have n:aF w1 a9:=aA i M;refine⟨_,rfl,n,?_⟩;have ae:=qZ n;obtain⟨fl,N⟩:=nZ ((Option.map (·.1) z).getD 0);obtain⟨be,s⟩:=nZ z.isSome;rw[N,s];have ag:=qZ s;clear ax M n Y L i N s o O;(iterate 7 refine tT ?_);refine fZ ?_;go_wp2_with fail;go_ret;exact⟨by rw[ag.out];rfl,ae⟩
structure abq (w:World) (b1 b2:Nat) (vc vu:Value):Prop where
 cfg:∃v1 v2 h a,vc=.agg #[v1,v2,.int .i64 h,.int .i64 a]/\Blk w b1 26 #[v1,v2,.int .i64 h,.int .i64 a]
 use:Blk w b2 51 #[vu]
theorem abq.on{f g:Value}(h:abq w b1 b2 f g)(b:Below w w w'):abq w' b1 b2 f g:=by obtain⟨⟨v1,v2,x,a,e,c⟩,d⟩:=h;exact⟨⟨v1,v2,x,a,e,c.below b c.lt⟩,d.below b d.lt⟩
theorem afI{K L:Value}{s:List Vec.V}(v:abq w b1 b2 K L)(p:bX w K c)(r:VSl w L s)(x:Run):∀w1,Below w w w1->Calls prog 143 #[rM x,.pointer b1,.pointer b2] w1 λe w'=>e=.returned (.bool (kP c s x.dN))/\Below w1 w1 w':=by
 intro w1 n;replace v:=v.on n;replace p:=p.below n;replace r:=r.below n;have z:=qZ (UY p r x.dN);obtain⟨⟨v1,v2,aI,aK,rfl,xc⟩,y⟩:=v;obtain⟨u1,u2,e,⟨A,ca,rfl,Z,W⟩,⟨B,I,rfl,aa,X⟩⟩:=p;obtain⟨rfl,rfl,rfl,rfl⟩:v1=.slice A c.aP.length ca/\v2=.slice B c.aQ.length I/\aI=c.aI/\aK=c.aK:=by simp at e;exact e
 obtain⟨U,T,rfl,ab,Y⟩:=r;obtain⟨a,u,Q,⟨d,e1,f⟩,g,h,i,j,ad,st,l,aQ,hv⟩:=x;simp only[rM,sW]at*;generalize kP c s u=q at*;generalize c.aP.length=NN at*;generalize c.aQ.length=NH at*;generalize c.aI=aI at*;generalize c.aK=aK at*;generalize s.length=NU at*;obtain⟨b,k⟩:=nZ (w1.alloc (.cells #[a,u,Q,d,e1,f,g,h,i,j,ad,st,l,hv] 86));have o:=aB k;have m:=Blk.below xc o xc.lt;have M:=Blk.below y o y.lt;have H:CV b b1 0 (.slice A NN ca):=m.cell 0;have c1:CV b b1 1 (.slice B NH I):=m.cell 1;have c2:CI b b1 2 aI:=m.cell 2;have c3:CI b b1 3 aK:=m.cell 3;have c4:CV b b2 0 (.slice U NU T):=M.cell 0;have c5:b.cell? (w1,1)=some (.int .i64 u):=by rw[<-k];exact(Blk.new _ _ _).cell 1
 have O:=qZ k;have F:=qZ o;rw[<-k]at H c1 c2 c3 c4 c5;clear k o m M xc y Z aa W X ab Y n e;go_enter func143,ntmps143;go_wp2_with fail;rw[O.out];refine(z b F).mono ?_;rintro e ae⟨rfl,J⟩;have N:=qZ (aA F J);clear H c1 c2 c3 c4 c5 J z;go_wp2_with fail;go_ret;exact⟨rfl,N⟩
theorem abb{α:Type}(p:α->Bool)(l:List α)(h:k<l.length)(a:(l.take k).find? p=none)(b:p l[k]=true):l.find? p=some l[k]:=by
 conv=>lhs;rw[<-gU k l]
 rw[List.find?_append,a,dM h,List.find?_cons,b];rfl
theorem JF{α:Type}(p:α->Bool)(l:List α)(h:k<l.length)(a:(l.take k).find? p=none)(b:p l[k]=false):(l.take (k+1)).find? p=none:=by rw[bF h,List.find?_append,a,List.find?_cons,b];rfl
def First(p:Run->Bool)(rl:List Run)(w:World)(e:Ending)(w':World):Prop:=(e=.returned (.int .i64 (-1))/\rl.find? p=none\/∃(k:Nat) (h:k<rl.length),e=.returned k/\rl.find? p=some rl[k])/\Below w w w'
theorem akv{ak al:Value}{L:List Vec.V}(r:abq w b1 b2 ak al)(ad:bX w ak c)(aj:VSl w al L)(ah:Runs w vr rl)(a9:rl.length<=1000000):∀w1,Below w w w1->Calls prog 141 #[vr,.func (.func 143) #[] #[.pointer b1,.pointer b2]] w1 λe w'=>First (λx=>kP c L x.dN) rl w1 e w':=by
 intro w1 o;have am:=qZ (λx W (h:Below w1 w1 W)=>afI (r.on o) (ad.below o) (aj.below o) x W h);obtain⟨R,bg,rfl,ai,az,af⟩:=ah.below o;have aq:=qZ ai;have an:=qZ af;obtain⟨N,X⟩:=nZ rl.length;have Z:=qZ X;rw[X]at a9⊢;obtain⟨q,Y⟩:∃q:Run->Bool,(λx:Run=>kP c L x.dN)=q:=⟨_,rfl⟩;have ap:=qZ (λx:Run=>show kP c L x.dN=q x by rw[<-Y]);rw[Y];clear ai az af X r ad aj ah o Y;go_enter func141,ntmps141;go_wp2_with fail;go_loopg[8] N (λaw ba wr=>∃k:Nat,ba=.int .i64 k/\k<=N/\N<=aw+k/\Hid ((rl.take k).find? q=none)/\Hid (Below w1 w1 wr));case atStart=>exact⟨0,mZ,oZ,oZ,qZ sZ,qZ (aJ _ _)⟩
 case round=>
  obtain⟨k,rfl,bj,bi,Q,n⟩:=hrel;by_cases a0:k<N
  .have a8:(k:Int)<(N:Int):=oZ;have m:k<rl.length:=by rw[Z.out];exact a0
   obtain⟨be,bm,rfl,a5,ae⟩:=sQ aq m;obtain⟨y,p1,p2,p3,p4,H,p6,I,J,K,z,A,F,u⟩:=ae wr n;have aa:=qZ (an _ (bB m));have b:=qZ (am rl[k] wr n);rw[ap.out]at b;obtain⟨s,v⟩:=nZ (q rl[k]);rw[v]at b;have T:Hid (s=true->∃h:k<rl.length,rl.find? q=some (rl[k]'h)):=qZ (λe=>⟨m,abb q rl m Q (v.trans e)⟩);have O:=qZ (λe:s=false=>JF q rl m Q (v.trans e));obtain⟨x,r⟩:=nZ (rl[k]);rw[r]at y p1 p2 p3 p4 H p6 I J K z A F u aa b;clear ae m a5 v r;obtain⟨bc,bh,ab,_,_⟩:=id aa;obtain⟨a,bd,bf,⟨d,e,f⟩,g,h,i,j,bk,st,l,aQ,hv⟩:=x;simp only at ab y p1 p2 p3 p4 H p6 I J K z A F u;subst ab;obtain⟨bl,ag⟩:=nZ aQ.length;simp only[rM,sW,ag]at b u;clear ag;cases s
   .have ar:=qZ (O rfl);clear O T;go_wp2_with fail;refine b.out.mono ?_;rintro av bb⟨rfl,p⟩;have M:=qZ (aA n p);clear y p1 p2 p3 p4 H p6 I J K z A F u p b;go_wp2_with fail;go_roundg(N-(k+1));case measure=>omega
    case rel=>exact⟨k+1,mZ,oZ,oZ,ar,M⟩
   .have au:=qZ (T rfl);clear O T;go_wp2_with fail;refine b.out.mono ?_;rintro av bb⟨rfl,p⟩;have M:=qZ (aA n p);clear y p1 p2 p3 p4 H p6 I J K z A F u p b;go_wp2_with fail;go_ret;obtain⟨ax,ay⟩:=au.out;exact⟨.inr ⟨k,ax,rfl,ay⟩,M⟩
  .have a8:¬(k:Int)<(N:Int):=oZ;have ao:=qY (rl.find? q=none) (by have:=Q.out;rwa [aT (by have:=Z.out;omega)]at this);go_wp2_with fail;go_ret;exact⟨.inl ⟨rfl,ao⟩,n⟩
end bU
variable{a:Act}{cs:Array Value}{Q:Exit->Act->World->Prop}{cap i j:Nat}{v':Value}
namespace bU
open Go Go.RowKit Go.Sort L bM eZ Srt
theorem JE:∀l:List Int,l.map (Value.int .i64)=l.flatMap jL
 |[]=>rfl
 |a::t=>by rw[cZ,dL,JE t];rfl
theorem acJ{l:List Int}(h:ISl w v l)(p:l.length<=1000000):∀w1,Below w w w1->Calls prog 144 #[v] w1 λe w'=>∃v',e=.returned v'/\bQ w' w1 3 1 jL v' l/\Below w1 w1 w':=λw1 m=>by
 obtain⟨A,cap,rfl,i,s⟩:=h.below m;have k:∀{w':World} {v':Value},w'.ownsRow (w1:Nat) 3 1 v' l.length (l.map (Value.int .i64))->bQ w' w1 3 1 jL v' l:=λh=>by rw[JE]at h;exact h
 cases A with
 |none=>
  have:l=[]:=by
   rcases l with _|⟨x,l⟩
   .rfl
   .obtain⟨b,o,e,_⟩:=i sZ;cases e
  subst this;refine(Tryz.slices_Clone_int_nil _ _ _).mono ?_;rintro e w'⟨rfl,rfl⟩;exact⟨_,rfl,bQ.nil _ _ _ _ _,aJ _ _⟩
 |some a=>
  by_cases g:l=[]
  .subst g;refine(Tryz.slices_Clone_int_zero _ _ _).mono ?_;rintro e w'⟨v',rfl,c,_,d⟩;exact⟨v',rfl,k c,d⟩
  .obtain⟨b,o,e,r,n⟩:=i g;cases e;refine(Tryz.slices_Clone_int b o l.length cap l w1 lZ oZ λj f=>?_).mono ?_
   .have:=n j _ (aH f) 0 _ rfl;rw[gY,Nat.add_zero]at this;simpa[f]using this
   .rintro e w'⟨v',rfl,c,_,d⟩;rw[aT lZ]at c;exact⟨v',rfl,k c,d⟩
def avf(p:Int->Bool)(l:List Int)(w:World)(e:Ending)(w':World):Prop:=(e=.returned (.int .i64 (-1))/\l.find? p=none\/∃(k:Nat) (h:k<l.length),e=.returned k/\(l.take k).find? p=none/\p l[k]=true)/\w'=w
theorem ajD{l:List Int}(h:ISl w v l)(Z:l.length<=1000000)(n:Int)(b:Nat)(Q:b<(w:Nat))(p:w.cell? (b,0)=some (.int .i64 n)):Calls prog 207 #[v,.func (.func 146) #[] #[.pointer b]] w λe w'=>avf (λx=>x==n) l w e w':=by
 obtain⟨R,af,rfl,u,T⟩:=h;have z:=qZ (λx=>afA x n b w Q p);have F:=qZ u;obtain⟨N,j⟩:=nZ l.length;have o:=qZ j;rw[j]at Z⊢;clear u T j p;go_enter func207,ntmps207;go_wp2_with fail;go_loopg[8] N (λL ab wr=>∃k:Nat,ab=.int .i64 k/\k<=N/\N<=L+k/\Hid ((l.take k).find? (λx=>x==n)=none)/\Hid (wr=w));case atStart=>exact⟨0,mZ,oZ,oZ,qZ sZ,qZ rfl⟩
 case round=>
  obtain⟨k,rfl,ah,ag,g,I⟩:=hrel;have aa:=I.out;subst aa;by_cases W:k<N
  .have Y:(k:Int)<(N:Int):=oZ;have c:k<l.length:=by rw[o.out];exact W
   obtain⟨ae,ai,rfl,X,r⟩:=vK F c;have m:=r wr (aJ _ _);have a:=qZ (z l[k]);obtain⟨s,d⟩:=nZ ((l[k]==n));rw[d]at a;have i:Hid (s=true->∃h:k<l.length,(l[k]'h==n)=true):=qZ (λe=>⟨c,d.trans e⟩);have f:=qZ (λe:s=false=>JF (λx=>x==n) l c g (d.trans e));obtain⟨x,y⟩:=nZ (l[k]);rw[y]at m a;clear r c X d y;cases s
   .have H:=qZ (f rfl);clear f i;go_wp2_with fail;refine a.out.mono ?_;rintro K ad⟨rfl,rfl⟩;clear m a;go_wp2_with fail;go_roundg(N-(k+1));case measure=>omega
    case rel=>exact⟨k+1,mZ,oZ,oZ,H,qZ rfl⟩
   .have J:=qZ (i rfl);clear f i;go_wp2_with fail;refine a.out.mono ?_;rintro K ad⟨rfl,rfl⟩;clear m a;go_wp2_with fail;go_ret;obtain⟨M,O⟩:=J.out;exact⟨.inr ⟨k,M,rfl,g,O⟩,rfl⟩
  .have Y:¬(k:Int)<(N:Int):=oZ;have A:=qY (l.find? (λx=>x==n)=none) (by have:=g.out;rwa [aT (by have:=o.out;omega)]at this);go_wp2_with fail;go_ret;exact⟨.inl ⟨rfl,A⟩,rfl⟩
def pG(n:Int)(l:List Int):List Int:=l.filter λx=> !(x==n)
theorem ach{n:Int}{l:List Int}(h:l.find? (λx=>x==n)=none):pG n l=l:=by unfold pG;rw[List.filter_eq_self];intro x a;have:=List.find?_eq_none.1 h x a;simpa using this
theorem acg{n:Int}{l:List Int}(a:j<l.length):pG n (l.take (j+1))=if l[j]==n then pG n (l.take j)else pG n (l.take j)++[l[j]]:=by
 unfold pG;rw[bF a,fO];by_cases h:(l[j]==n)=true
 .rw[aG h];simp[h]
 .rw[aD h];have:(l[j]==n)=false:=by simpa using h
  simp[this]
structure SS (w:World) (g cap:Nat) (front l:List Int) (j:Nat):Prop where
 shape:∃cs:Array Value,Blk w g 3 cs/\cs.size=cap/\(∀(t:Nat) (x:Int),front[t]? =some x->cs[t]? =some (Value.int .i64 x))/\∀(t:Nat) (x:Int),j<=t->l[t]? =some x->cs[t]? =some (Value.int .i64 x)
theorem SS.cell{front l:List Int}(h:SS w g cap front l j){t:Nat}{x:Int}(c:j<=t)(d:l[t]? =some x):w.cell? (g,t)=some (.int .i64 x):=by obtain⟨cs,a,e,f,b⟩:=h;rw[a.cell,b t x c d]
theorem anJ{c:Nat}(h:Blk w g 3 cs)(F:i+m<=cs.size):∃w',(∀ty,(Builtin.clear_ #[36] ty #[.slice (some ⟨g,i,none⟩) m c]).run prog w=.ok (.tuple #[]) w')/\aO (λk=>k=g) w w'/\∃e,Blk w' g 3 e/\e.size=cs.size/\∀t,t<i->e[t]? =cs[t]? :=by
 by_cases s:m=0
 .subst s;exact⟨w,λty=>by simp[Builtin.clear_,run_underlying underlying36],aO.refl _ _,cs,h,rfl,λ_ _=>rfl⟩
 .obtain⟨m,rfl⟩:∃q,m=q+1:=⟨m-1,oZ⟩;have n:(Value.int IntKind.i64 0).cells=#[.int .i64 0]:=kZ;obtain⟨b,f⟩:=nZ (Builtin.zeroCells (Value.int IntKind.i64 0).cells (m+1));have I:b.toList.length=m+1:=by rw[<-f];simp[Builtin.zeroCells,n]
  have y:∀v∈b.toList,v.oneCell'=true:=by
   intro v hv;obtain⟨j,a⟩:=List.getElem?_of_mem hv;have x:j<m+1:=by have:=(bE.1 a).1;omega
   rw[<-f]at a;simp[Builtin.zeroCells,n,x,Nat.mod_one]at a;subst a;rfl
  have u:Holds id w g 0 cs:=λj a=>⟨by rw[aU,h.cell,dF cs j a,dH a];rfl,by rw[aU];exact h.frozen j⟩;have r:=stores_of_holds prog u i b.toList oZ y;rw[aU]at r;have A:∀(vs:List Value) (o:Nat) (W:World) (cs:Array Value),Blk W g 3 cs->Blk (W.setCells g o vs) g 3 (setMany cs o vs):=by
   intro vs;induction vs with
   |nil=>exactλo W cs h=>h
   |cons v vs l=>exactλo W cs h=>l (o+1) _ _ (Blk.bV h o v)
  have z:∀(vs:List Value) (o:Nat) (W:World),aO (λk=>k=g) W (W.setCells g o vs):=by
   intro vs;induction vs with
   |nil=>exactλo W=>aO.refl _ _
   |cons v vs l=>exactλo W=>((aO.refl (λk=>k=g) W).setCell (p:=⟨g,o,none⟩) (.inl rfl) v).trans (l (o+1) _)
  refine⟨_,λty=>?_,z b.toList i w,_,A b.toList i w cs h,sZ,λt H=>?_⟩
  .have hv:∀w,(zeroValue 3).run prog w=.ok (Value.int IntKind.i64 0) w:=Tryz.zeroValue3;simp[Builtin.clear_,run_underlying underlying36,hv,f,r]
  .have d:t<cs.size:=oZ;have:=get_setMany b.toList i cs t d;rw[aD oZ,dF _ t (by simpa using d),dF cs t d]at this;rw[dH (by simpa using d),dH d,this]
theorem LX{P:Program}{t E:TypeId}{i:TypeInfo}(d:P.underlying t=some (.slice E))(hi:P.info? E=some i)(b:m<=n)(c:n<=cap)(W:World):(Instr.slice t (.slice g n cap) none (some (.int .i64 m)) none).run P W=.ok (.slice g m cap) W:=by
 have a:Addr.add ⟨g,0,none⟩ 0=⟨g,0,none⟩:=by rw[Addr.add_lit]
 simp[Instr.slice,run_underlying d,Instr.sliceBounds,Instr.sliceBound,asIntOf,sizeOf,typeInfo,hi,aV b c,a]
theorem aaB{P:Program}{c:Array Oper}{rest:List Oper}{o:Oper}(f:o.guard=none)(s y:Operand)(t e:TypeId)(l:P.underlying t=some (.slice e))(g:o.op=.slice t s none (some y) none)(vs b:Value)(k:a.eval s=vs)(m:a.eval y=b)(j:(Instr.slice t vs none (some b) none).run P w=.ok v' w)(h:wpList P c Q rest (a.put o.dst v') w):wpList P c Q (o::rest) a w:=
 wpList_plain f λ_ d=>by
  have i:(Instr.sliceAt t vs none (some b) none).run P w=.ok v' w:=by simp[Instr.sliceAt,run_underlying l,j]
  unfold Oper.wp execOp;simp only[g,Sem.run_bind,Sem.run_pure,Result.andThen_ok,Option.map_none,Option.map_some,k,m,i];exact d _ _ h
theorem aaA{P:Program}{c:Array Oper}{rest:List Oper}{o:Oper}(f:o.guard=none)(s y:Operand)(t e:TypeId)(l:P.underlying t=some (.slice e))(g:o.op=.slice t s (some y) none none)(vs b:Value)(k:a.eval s=vs)(m:a.eval y=b)(j:(Instr.slice t vs (some b) none none).run P w=.ok v' w)(h:wpList P c Q rest (a.put o.dst v') w):wpList P c Q (o::rest) a w:=
 wpList_plain f λ_ d=>by
  have i:(Instr.sliceAt t vs (some b) none none).run P w=.ok v' w:=by simp[Instr.sliceAt,run_underlying l,j]
  unfold Oper.wp execOp;simp only[g,Sem.run_bind,Sem.run_pure,Result.andThen_ok,Option.map_none,Option.map_some,k,m,i];exact d _ _ h
theorem aoP{P:Program}{t E:TypeId}{i:TypeInfo}(e:P.underlying t=some (.slice E))(hi:P.info? E=some i)(d:i.size=1)(a:m<=n)(b:n<=cap)(c:m<cap)(W:World):(Instr.slice t (.slice g n cap) (some (.int .i64 m)) none none).run P W=.ok (.slice (some ⟨g,m,none⟩) (n-m) (cap-m)) W:=by simp[Instr.slice,run_underlying e,Instr.sliceBounds,Instr.sliceBound,asIntOf,sizeOf,typeInfo,hi,a,b,aV a b,d,Addr.add_lit,Nat.ne_of_gt c]
theorem aqW:(prog.info? 3).map (λi=>(i.zero,i.size,i.bytes))=some (some (.int .i64 0),1,8):=by kernel_rfl
def agj(v:Value)(l:List Int)(B:Nat)(w:World)(e:Ending)(w':World):Prop:=∃v',e=.returned v'/\bQ w' B 3 1 jL v' l/\aO (λi=>v.ownBlock=some i) w w'/\(∀b,v'.ownBlock=some b->v.ownBlock=some b)
theorem ahd{B:Nat}{l:List Int}(h:bQ w B 3 1 jL v l)(au:l.length<=1000000)(n:Int)(b:Nat)(ad:b<(w:Nat))(ae:w.cell? (b,0)=some (.int .i64 n))(am:v.ownBlock≠some b):Calls prog 145 #[v,.func (.func 146) #[] #[.pointer b]] w λe w'=>agj v (pG n l) B w e w':=by
 obtain⟨A,cap,ev,av⟩:=h.sl (λ_=>rfl);have L:=qZ (ajD ⟨A,cap,ev,av,by unfold maxLen;omega⟩ au n b ad ae);have M:=qZ h;have J:=qZ (aC ad (aC ae am));subst ev;clear av h ad ae am;obtain⟨N,ab⟩:=nZ l.length;have z:=qZ ab;rw[ab]at au L M J⊢;clear ab;go_enter func145,ntmps145;go_wp2_with fail;refine L.mono ?_;rintro ak r⟨bi,rfl⟩;rcases bi with⟨rfl,I⟩|⟨k,aq,rfl,I,ag⟩
 .have Z:=qY (agj (.slice A N cap) (pG n l) B r (.returned (.slice A N cap)) r) (⟨_,rfl,by rw[ach I];exact M,aO.refl _ _,λ_ h=>h⟩);clear I L;go_wp2_with fail;go_ret;exact Z
 .rw[z.out]at aq;have ca:((k:Int)== -1)=false:=sZ;obtain⟨g,rfl,be,b9,an,bf⟩:∃g,A=some ⟨g,0,none⟩/\B<=g/\g<(r:Nat)/\N<=cap/\cap<=maxLen:=by
   rcases M.out.form with⟨e,e2⟩|⟨g,bw,e,Q,bc,al,bd⟩
   .have:=z.out;rw[e2]at this;simp at this;omega
   .rw[z.out]at e al;cases e;exact⟨g,rfl,Q,bc,al,bd⟩
  have a8:=qY (SS r g cap (pG n (l.take (k+1))) l (k+1)/\(pG n (l.take (k+1))).length=k) (by
   obtain⟨_,⟨e,_⟩|⟨b0,bv,cur,e,_,bg,_,_,X,o⟩⟩:=M.out
   .cases e
   .cases e;have bj:k<l.length:=by rw[z.out];exact aq
    have e1:pG n (l.take (k+1))=l.take k:=by rw[acg bj,aG ag,ach I]
    have all:∀(t:Nat) (x:Int),l[t]? =some x->cur[t]? =some (Value.int .i64 x):=λt x a=>by
     have Y:t<l.length:=(bE.1 a).1;rw[<-JE]at o;have Q:(l.map (Value.int .i64))[t]? =some (Value.int .i64 x):=by rw[fK,a];rfl
     rw[<-o,eB,aG (by simpa using Y),dP]at Q;exact Q
    rw[e1];exact⟨⟨cur,bg,by rw[X];omega,λt x a=>all t x (by rw[eB]at a;split at a;exact a;cases a),λt x _ a=>all t x a⟩,by simp;omega⟩)
  have bt:=qZ (aC I ag);clear I ag L;have bh:g≠b:=λe=>J.2.2 (by rw[e];rfl);go_wp2_with fail;go_loopg[5,6] N (λbb bp bq wr=>∃i j:Nat,bp=.int .i64 i/\bq=.int .i64 j/\i<j/\j<=N/\N<=bb+j/\Hid (SS wr g cap (pG n (l.take j)) l j/\(pG n (l.take j)).length=i)/\Hid (aO (λq=>q=g) r wr));case atStart=>exact⟨k,k+1,by first|rfl|go_num,mZ,oZ,oZ,oZ,a8,qZ (aO.refl _ _)⟩
  case round=>
   obtain⟨i,j,rfl,rfl,b6,b8,b5,d,K⟩:=hrel;by_cases bk:j<N
   .have bm:(j:Int)<(N:Int):=oZ;have T:j<l.length:=by rw[z.out];exact bk
    have ai:CI wr g j (l[j]):=d.1.cell lZ (aH T);have O:=qZ (acg (n:=n) T);have H:=qZ (afA l[j] n b wr (aM J.1 K.size) ((K.cell (p:=⟨b,0,none⟩) J.1 (Ne.symm bh)).trans J.2.1));have aj:=qY (∀x,l[j]=x->l[j]? =some x) (λx e=>by rw[aH T,e]);obtain⟨x,a⟩:=nZ (l[j]);have bs:=qZ (aj x a);rw[a]at ai O H;clear aj T a;obtain⟨s,X⟩:=nZ ((x==n));rw[X]at O H;clear X;cases s
    .obtain⟨cs,b1,b2,b3,F⟩:=id d.1.shape;have bz:wr.frozen? (g,i)=false:=b1.frozen i;have af:i<cs.size:=oZ;obtain⟨ba,ap⟩:∃u,cs[i]? =some u:=⟨_,dH af⟩;have bu:wr.cell? (g,i)=some ba:=by rw[b1.cell];exact ap
     have aa:=qY (SS (wr.setCell (g,i) x) g cap (pG n (l.take (j+1))) l (j+1)/\(pG n (l.take (j+1))).length=i+1) (by
      rw[O.out];simp only[kC,if_false];refine⟨⟨_,Blk.bV b1 i _,by simpa using b2,λt y f=>?_,λt y o f=>?_⟩,by simp[d.out.2]⟩
      .rw[Array.getElem?_setIfInBounds];by_cases e:i=t
       .subst e;rw[dI (by rw[d.out.2];exact bI _),d.out.2]at f;simp at f;rw[aG rfl,aG af,f]
       .rw[aD e];refine b3 t y ?_;have bl:t<i:=by have:=(bE.1 f).1;simp[d.out.2]at this;omega
        rwa [dG (by rw[d.out.2];exact bl)]at f
      .rw[Array.getElem?_setIfInBounds,aD oZ];exact F t y oZ f)
     have a0:=qY (aO (λq=>q=g) r (wr.setCell (g,i) x)) (K.setCell (.inl rfl) _);have b7:(i:Int)<(N:Int):=oZ;clear b1 b2 b3 F af ap;go_wp2_with fail;refine H.out.mono ?_;rintro ak br⟨rfl,rfl⟩;clear H ai;go_wp2_with fail;go_roundg(N-(j+1));case measure=>omega
     case rel=>exact⟨i+1,j+1,mZ,mZ,oZ,oZ,oZ,aa,a0⟩
    .have aa:=qY (SS wr g cap (pG n (l.take (j+1))) l (j+1)/\(pG n (l.take (j+1))).length=i) (by rw[O.out];simp only[if_true];obtain⟨cs,b1,b2,b3,F⟩:=d.out.1.shape;exact⟨⟨cs,b1,b2,b3,λt y o f=>F t y oZ f⟩,d.2⟩);go_wp2_with fail;refine H.out.mono ?_;rintro ak br⟨rfl,rfl⟩;clear H ai;go_wp2_with fail;go_roundg(N-(j+1));case measure=>omega
     case rel=>exact⟨i,j+1,rfl,mZ,oZ,oZ,oZ,aa,K⟩
   .have bm:¬(j:Int)<(N:Int):=oZ;obtain rfl:j=N:=by omega
    obtain⟨i0,hi,bn,aw,bo⟩:=info_parts aqW;obtain⟨cs,b1,b2,b3,F⟩:=d.out.1.shape;obtain⟨ay,b4,ax,a9,d1,d2,d3⟩:=anJ (i:=i) (m:=j-i) (c:=cap-i) b1 oZ;have Y:=aoP (P:=prog) underlying36 hi aw (g:=g) (n:=j) (m:=i) (cap:=cap) oZ an oZ wr;have ao:=LX (P:=prog) underlying36 hi (g:=g) (n:=j) (m:=i) (cap:=cap) oZ an ay;have a5:=qZ Y;have az:=qZ ao;have Z:=qY (agj (.slice g j cap) (pG n l) B r (.returned (.slice g i cap)) ay) (by
     have ar:pG n (l.take j)=pG n l:=by rw[aT (by rw[z.out];exact bI _)]
     rw[ar]at b3;have W:(pG n l).length=i:=by rw[<-ar];exact d.2
     refine⟨_,rfl,⟨by rw[jG (dec:=jL) (k:=1) λ_=>rfl],.inr ⟨g,cap,a9,by rw[W],be,d1,oZ,bf,oZ,?_⟩⟩,((K.out.trans ax)).mono λq _ ah=>by rw[ah];rfl,λq ah=>ah⟩;rw[<-JE];apply gL;intro t;by_cases o:t<i
     .have a:(pG n l)[t]? =some (pG n l)[t]:=aH (by rw[W];exact o);rw[eB,aG (by rw[W];omega),dP,d3 t o,b3 t _ a,fK,a];rfl
     .rw[eB,aD (by rw[W];omega),dY (by simp;omega)])
    clear Y ao hi bn aw bo b1 b2 b3 F d1 d2 d3 ax;go_wp2_with(first|(with_reducible refine aaA rfl (.tmp 36) (.tmp 37) _ _ underlying36 rfl (.slice g j cap) i rfl rfl a5.out ?_)|(with_reducible refine aaB rfl (.tmp 39) (.tmp 40) _ _ underlying36 rfl (.slice g j cap) i rfl rfl az.out ?_));go_ret;exact Z
structure AnyW (w:World):Prop where
 t:True
def Deleted{α:Type}(E:TypeId)(k:Nat)(dec:α->List Value)(v:Value)(xs:List α)(B:Nat)(w:World)(e:Ending)(w':World):Prop:=∃v',e=.returned v'/\bQ w' B E k dec v' xs/\aO (λi=>v.ownBlock=some i) w w'/\v'.ownBlock=v.ownBlock
theorem ahA:(Builtin.zeroCells (Value.cells (.agg #[(),(),(),(),(),(),(),(),(),(),()])) 1).toList.length=11/\∀u∈(Builtin.zeroCells (Value.cells (.agg #[(),(),(),(),(),(),(),(),(),(),()])) 1).toList,u.oneCell'=true:=by have e:(Builtin.zeroCells (Value.cells (.agg #[(),(),(),(),(),(),(),(),(),(),()])) 1).toList=[.int .i64 0,.int .i64 0,.int .i64 0,.int .i64 0,.int .i64 0,.int .i64 0,.int .i64 0,.int .i64 0,.int .i64 0,.int .i64 0,.int .i64 0]:=kZ;rw[e];refine⟨rfl,λu a=>?_⟩;simp only[bA,dS,or_false]at a;rcases a with rfl|rfl|rfl|rfl|rfl|rfl|rfl|rfl|rfl|rfl|rfl<;>rfl
theorem apr{B:Nat}{xs:List Ord.P}(h:bQ w B 44 11 gK v xs)(O:∀x∈xs,∀u∈gK x,u.oneCell'=true)(ap:xs.length<=1000000)(hi:i<xs.length):Calls prog 110 #[v,(i:Int),((i:Int)+1:Int)] w λe w'=>Deleted 44 11 gK v (xs.eraseIdx i) B w e w':=by
 obtain⟨i0,b,au,j,av⟩:=info_parts pinfo;obtain⟨aq,⟨rfl,ax⟩|⟨g,cap,cs,rfl,am,Y,d,ao,H,ad⟩⟩:=h
 .omega
 have y:Blk w g 44 cs:=Y;obtain⟨a,c,p,X⟩:=abN (P:=prog) (i0:=i0) underlying27 b j (g:=g) (n:=xs.length) (m:=i+1) (cap:=cap) oZ d;obtain⟨az,Q⟩:=abM (P:=prog) (i0:=i0) underlying27 b j (g:=g) (n:=xs.length) (m:=i) (h:=i+1) (cap:=cap) oZ oZ d;have z:=LX (P:=prog) underlying27 b (g:=g) (n:=xs.length) (m:=i) (cap:=cap) oZ d;obtain⟨f,I⟩:=aag (P:=prog) (k:=11) (dec:=gK) underlying27 b j oZ (λ_=>rfl) 27 O (w:=w.drew) (Blk.drew y) H ad d hi a c X;have b2:=wF ((xs.drop (i+1)).flatMap gK) (i*11) w.drew cs (Blk.drew y);have J:=uO g ((xs.drop (i+1)).flatMap gK) (i*11) w.drew;obtain⟨r,af⟩:=nZ (w.drew.setCells g (i*11) ((xs.drop (i+1)).flatMap gK));rw[af]at f b2 J;have l:(setMany cs (i*11) ((xs.drop (i+1)).flatMap gK)).size=cap*11:=by simpa using H
 obtain⟨al,aa⟩:=nZ (setMany cs (i*11) ((xs.drop (i+1)).flatMap gK));rw[aa]at b2 I l;have F:=wP (P:=prog) underlying27 b j (g:=g) (n:=xs.length-1) (m:=xs.length-1) (h:=xs.length) (cap:=cap) oZ d oZ r;obtain⟨Z,ae⟩:=acK (P:=prog) (k:=11) (c:=cap-(xs.length-1)) underlying27 Tryz.zeroValue44 ahA.1 ahA.2 b2 (o:=(xs.length-1)*11) (by rw[l];have:=bR 11 (show xs.length-1+1<=cap by omega);omega);have b3:=wF (Builtin.zeroCells (Value.cells (.agg #[(),(),(),(),(),(),(),(),(),(),()])) 1).toList ((xs.length-1)*11) r al b2;have K:=uO g (Builtin.zeroCells (Value.cells (.agg #[(),(),(),(),(),(),(),(),(),(),()])) 1).toList ((xs.length-1)*11) r;obtain⟨aw,ag⟩:=nZ (r.setCells g ((xs.length-1)*11) (Builtin.zeroCells (Value.cells (.agg #[(),(),(),(),(),(),(),(),(),(),()])) 1).toList);rw[ag]at Z b3 K;have A:(xs.eraseIdx i).length=xs.length-1:=List.length_eraseIdx_of_lt hi;have M:=qY (Deleted 44 11 gK (.slice g xs.length cap) (xs.eraseIdx i) B w (.returned (.slice g (xs.length-1) cap)) aw) (by refine⟨_,rfl,⟨by rw[jG (dec:=gK) (k:=11) λ_=>rfl],.inr ⟨g,cap,_,by rw[A],am,b3,oZ,ao,by simpa using l,?_⟩⟩,(((aO.refl (λq=>q=g) w).drew.trans J).trans K).mono λq _ ar=>by rw[ar];rfl,rfl⟩;rw[A,ae];exact I);obtain⟨N,T⟩:=nZ xs.length;rw[T]at hi ap d p Q z f F Z M⊢;obtain⟨n,rfl⟩:∃n,N=n+1:=⟨N-1,oZ⟩;simp only[iE,Nat.add_sub_cancel_left]at*;have ab:n+1-(i+1)=n-i:=oZ;rw[ab]at p f;have ak:=qZ p;have ai:=qZ z;have ah:=qZ f;have aj:=qZ F;have ay:((i:Int)==(i:Int)+1)=false:=by rw[beq_eq_false_iff_ne];omega
 clear aq Y y H ad p X Q z f I b2 J af l aa F ae b3 K ag A T ab b au j av O;go_enter func110,ntmps110;go_wp2_with fail;refine iT AnyW 7 (.take 0 (.take 1 (.take 2 (.take 3 (.take 4 (.take 5 (.one 6 .done))))))) kZ kZ ⟨trivial⟩ ?_;(iterate 2 refine tT ?_);apply nN (v:=.slice g i cap);(focus rfl);(focus rfl);(focus(intro W an;exact nD (E:=44) (s:=.tmp 20) (lo:=none) (hi:=some (.tmp 21)) underlying27 rfl rfl (ai W)));(focus(go_simp;first|done|rfl));(iterate 2 refine tT ?_);apply nN (v:=.slice (some a) (n-i) c);(focus rfl);(focus rfl);(focus(intro W an;exact nD (E:=44) (s:=.tmp 23) (lo:=some (.tmp 24)) (hi:=none) underlying27 rfl rfl (ak W)));(focus(go_simp;first|done|rfl));refine eT ?_;apply lK;(focus rfl);(focus rfl);(focus exact nY (s:=.tmp 22) (x:=.tmp 25) (vs:=.slice g i cap) (vx:=.slice (some a) (n-i) c) rfl rfl rfl ah);(focus exact⟨trivial⟩);(focus(go_simp;first|done|rfl));refine fZ ?_;show wpList prog _ _ (List.drop 7 _) _ _;simp only[bH,bJ];go_wp2_with(with_reducible refine oO rfl (.tmp 27) (some (.tmp 29)) (some (.tmp 30)) none _ _ underlying27 rfl (.slice g n cap) (some (.int .i64 n)) (some (.int .i64 (n+1))) none rfl rfl rfl rfl aj.out ?_);go_ret;exact M
theorem ahx:(Builtin.zeroCells (Value.cells (.agg #[(),(),(),(),(),(),(),(),(),(),(),(),(),true])) 1).toList.length=14/\∀u∈(Builtin.zeroCells (Value.cells (.agg #[(),(),(),(),(),(),(),(),(),(),(),(),(),true])) 1).toList,u.oneCell'=true:=by have e:(Builtin.zeroCells (Value.cells (.agg #[(),(),(),(),(),(),(),(),(),(),(),(),(),true])) 1).toList=[.int .i64 0,.int .i64 0,.int .i64 0,.int .i64 0,.int .i64 0,.int .i64 0,.int .i64 0,.int .i64 0,.int .i64 0,.int .i64 0,.int .i64 0,.int .i64 0,.int .i64 0,.slice none 0 0]:=kZ;rw[e];refine⟨rfl,λu a=>?_⟩;simp only[bA,dS,or_false]at a;rcases a with rfl|rfl|rfl|rfl|rfl|rfl|rfl|rfl|rfl|rfl|rfl|rfl|rfl|rfl<;>rfl
theorem aoZ{B:Nat}{xs:List Run}(h:bQ w B 86 14 mR v xs)(O:∀x∈xs,∀u∈mR x,u.oneCell'=true)(ap:xs.length<=1000000)(hi:i<xs.length):Calls prog 109 #[v,(i:Int),((i:Int)+1:Int)] w λe w'=>Deleted 86 14 mR v (xs.eraseIdx i) B w e w':=by
 obtain⟨i0,b,au,j,av⟩:=info_parts YQ;obtain⟨aq,⟨rfl,ax⟩|⟨g,cap,cs,rfl,am,Y,d,ao,H,ad⟩⟩:=h
 .omega
 have y:Blk w g 86 cs:=Y;obtain⟨a,c,p,X⟩:=abN (P:=prog) (i0:=i0) underlying28 b j (g:=g) (n:=xs.length) (m:=i+1) (cap:=cap) oZ d;obtain⟨az,Q⟩:=abM (P:=prog) (i0:=i0) underlying28 b j (g:=g) (n:=xs.length) (m:=i) (h:=i+1) (cap:=cap) oZ oZ d;have z:=LX (P:=prog) underlying28 b (g:=g) (n:=xs.length) (m:=i) (cap:=cap) oZ d;obtain⟨f,I⟩:=aag (P:=prog) (k:=14) (dec:=mR) underlying28 b j oZ (λ_=>rfl) 28 O (w:=w.drew) (Blk.drew y) H ad d hi a c X;have b2:=wF ((xs.drop (i+1)).flatMap mR) (i*14) w.drew cs (Blk.drew y);have J:=uO g ((xs.drop (i+1)).flatMap mR) (i*14) w.drew;obtain⟨r,af⟩:=nZ (w.drew.setCells g (i*14) ((xs.drop (i+1)).flatMap mR));rw[af]at f b2 J;have l:(setMany cs (i*14) ((xs.drop (i+1)).flatMap mR)).size=cap*14:=by simpa using H
 obtain⟨al,aa⟩:=nZ (setMany cs (i*14) ((xs.drop (i+1)).flatMap mR));rw[aa]at b2 I l;have F:=wP (P:=prog) underlying28 b j (g:=g) (n:=xs.length-1) (m:=xs.length-1) (h:=xs.length) (cap:=cap) oZ d oZ r;obtain⟨Z,ae⟩:=acK (P:=prog) (k:=14) (c:=cap-(xs.length-1)) underlying28 Tryz.zeroValue86 ahx.1 ahx.2 b2 (o:=(xs.length-1)*14) (by rw[l];have:=bR 14 (show xs.length-1+1<=cap by omega);omega);have b3:=wF (Builtin.zeroCells (Value.cells (.agg #[(),(),(),(),(),(),(),(),(),(),(),(),(),true])) 1).toList ((xs.length-1)*14) r al b2;have K:=uO g (Builtin.zeroCells (Value.cells (.agg #[(),(),(),(),(),(),(),(),(),(),(),(),(),true])) 1).toList ((xs.length-1)*14) r;obtain⟨aw,ag⟩:=nZ (r.setCells g ((xs.length-1)*14) (Builtin.zeroCells (Value.cells (.agg #[(),(),(),(),(),(),(),(),(),(),(),(),(),true])) 1).toList);rw[ag]at Z b3 K;have A:(xs.eraseIdx i).length=xs.length-1:=List.length_eraseIdx_of_lt hi;have M:=qY (Deleted 86 14 mR (.slice g xs.length cap) (xs.eraseIdx i) B w (.returned (.slice g (xs.length-1) cap)) aw) (by refine⟨_,rfl,⟨by rw[jG (dec:=mR) (k:=14) λ_=>rfl],.inr ⟨g,cap,_,by rw[A],am,b3,oZ,ao,by simpa using l,?_⟩⟩,(((aO.refl (λq=>q=g) w).drew.trans J).trans K).mono λq _ ar=>by rw[ar];rfl,rfl⟩;rw[A,ae];exact I);obtain⟨N,T⟩:=nZ xs.length;rw[T]at hi ap d p Q z f F Z M⊢;obtain⟨n,rfl⟩:∃n,N=n+1:=⟨N-1,oZ⟩;simp only[iE,Nat.add_sub_cancel_left]at*;have ab:n+1-(i+1)=n-i:=oZ;rw[ab]at p f;have ak:=qZ p;have ai:=qZ z;have ah:=qZ f;have aj:=qZ F;have ay:((i:Int)==(i:Int)+1)=false:=by rw[beq_eq_false_iff_ne];omega
 clear aq Y y H ad p X Q z f I b2 J af l aa F ae b3 K ag A T ab b au j av O;go_enter func109,ntmps109;go_wp2_with fail;refine iT AnyW 7 (.take 0 (.take 1 (.take 2 (.take 3 (.take 4 (.take 5 (.one 6 .done))))))) kZ kZ ⟨trivial⟩ ?_;(iterate 2 refine tT ?_);apply nN (v:=.slice g i cap);(focus rfl);(focus rfl);(focus(intro W an;exact nD (E:=86) (s:=.tmp 20) (lo:=none) (hi:=some (.tmp 21)) underlying28 rfl rfl (ai W)));(focus(go_simp;first|done|rfl));(iterate 2 refine tT ?_);apply nN (v:=.slice (some a) (n-i) c);(focus rfl);(focus rfl);(focus(intro W an;exact nD (E:=86) (s:=.tmp 23) (lo:=some (.tmp 24)) (hi:=none) underlying28 rfl rfl (ak W)));(focus(go_simp;first|done|rfl));refine eT ?_;apply lK;(focus rfl);(focus rfl);(focus exact nY (s:=.tmp 22) (x:=.tmp 25) (vs:=.slice g i cap) (vx:=.slice (some a) (n-i) c) rfl rfl rfl ah);(focus exact⟨trivial⟩);(focus(go_simp;first|done|rfl));refine fZ ?_;show wpList prog _ _ (List.drop 7 _) _ _;simp only[bH,bJ];go_wp2_with(with_reducible refine oO rfl (.tmp 27) (some (.tmp 29)) (some (.tmp 30)) none _ _ underlying28 rfl (.slice g n cap) (some (.int .i64 n)) (some (.int .i64 (n+1))) none rfl rfl rfl rfl aj.out ?_);go_ret;exact M
def aoj(p:Ord.P->Bool)(rl:List Ord.P)(w:World)(e:Ending)(w':World):Prop:=(e=.returned (.int .i64 (-1))/\rl.find? p=none\/∃(k:Nat) (h:k<rl.length),e=.returned k/\rl.find? p=some rl[k]/\(rl.take k).find? p=none)/\Below w w w'
theorem zD{xs:List Ord.P}(h:gQ w A 11 (λp=>(eP p).toList) xs)(a:k<xs.length):∃b o,A=some ⟨b,o,none⟩/\b<(w:Nat)/\∀w',Below w w w'->∀j u,(eP xs[k])[j]? =some u->w'.cell? ⟨b,o+k*11+j,none⟩=some u:=by obtain⟨b,o,rfl,c,f⟩:=h (by intro e;subst e;simp at a);refine⟨b,o,rfl,c,λw' d j u g=>?_⟩;exact(d.cell (p:=⟨b,o+k*11+j,none⟩) c).trans (f k xs[k] (aH a) j u (by simpa using g))
theorem YV{ps:List Ord.P}(ah:PSl w vr ps)(af:ps.length<=1000000)(d b:Nat)(q:Ord.P->Bool)(am:∀a W,(callFunc d a).run prog W=.ok (.enter d a) W)(F:∀p W,Below w w W->Calls prog d #[.agg (eP p),.pointer b] W λe w'=>e=.returned (.bool (q p))/\Below W W w'):∀w1,Below w w w1->Calls prog 158 #[vr,.func (.func d) #[] #[.pointer b]] w1 λe w'=>aoj q ps w1 e w':=by
 intro w1 y;obtain⟨R,al,rfl,aa,Z,H,ag⟩:=ah;have J:=qZ (λp W (h:Below w1 w1 W)=>F p W (aA y h));have L:=qZ (H.below y);obtain⟨N,v⟩:=nZ ps.length;have z:=qZ v;rw[v]at af⊢;clear H aa Z ag v F y;go_enter func158,ntmps158;go_wp2_with fail;go_loopg[8] N (λT ai wr=>∃k:Nat,ai=.int .i64 k/\k<=N/\N<=T+k/\Hid ((ps.take k).find? q=none)/\Hid (Below w1 w1 wr));case atStart=>exact⟨0,mZ,oZ,oZ,qZ sZ,qZ (aJ _ _)⟩
 case round=>
  obtain⟨k,rfl,ao,an,j,g⟩:=hrel;by_cases ab:k<N
  .have ae:(k:Int)<(N:Int):=oZ;have l:k<ps.length:=by rw[z.out];exact ab
   obtain⟨ak,ap,rfl,ad,A⟩:=zD L l;have c:=A wr g;obtain⟨s,m⟩:=nZ (q ps[k]);have f:=qZ (J ps[k] wr g);rw[m]at f;have r:Hid (s=true->∃h:k<ps.length,ps.find? q=some (ps[k]'h)):=qZ (λe=>⟨l,abb q ps l j (m.trans e)⟩);have o:=qZ (λe:s=false=>JF q ps l j (m.trans e));obtain⟨x,I⟩:=nZ (ps[k]);rw[I]at c f;clear A ad m I;obtain⟨aq,p1,ax,⟨n0,n1,n2⟩,p6,au,av,aw,ar⟩:=x;simp only[eP]at c f;obtain⟨u,c1,c2,c3,c4,c5,c6,c7,c8,c9,c10⟩:=aC (c 0 _ rfl) (aC (c 1 _ rfl) (aC (c 2 _ rfl) (aC (c 3 _ rfl) (aC (c 4 _ rfl) (aC (c 5 _ rfl) (aC (c 6 _ rfl) (aC (c 7 _ rfl) (aC (c 8 _ rfl) (aC (c 9 _ rfl) (c 10 _ rfl))))))))));rw[Nat.add_zero]at u;clear c;cases s
   .have M:=qZ (o rfl);clear o r;go_wp2_with fail;refine f.out.mono ?_;rintro Q aj⟨rfl,i⟩;have n:=qZ (aA g i);clear u c1 c2 c3 c4 c5 c6 c7 c8 c9 c10 i f;go_wp2_with fail;go_roundg(N-(k+1));case measure=>omega
    case rel=>exact⟨k+1,mZ,oZ,oZ,M,n⟩
   .have O:=qZ (r rfl);clear o r;go_wp2_with fail;refine f.out.mono ?_;rintro Q aj⟨rfl,i⟩;have n:=qZ (aA g i);clear u c1 c2 c3 c4 c5 c6 c7 c8 c9 c10 i f;go_wp2_with fail;go_ret;obtain⟨X,Y⟩:=O.out;exact⟨.inr ⟨k,X,rfl,Y,j⟩,n⟩
  .have ae:¬(k:Int)<(N:Int):=oZ;have K:=qY (ps.find? q=none) (by have:=j.out;rwa [aT (by have:=z.out;omega)]at this);go_wp2_with fail;go_ret;exact⟨.inl ⟨rfl,K⟩,g⟩
def ark(ps:List Ord.P)(id:Int)(w:World)(e:Ending)(w':World):Prop:=e=.returned (.int .i64 (match lD ps id with|some k=>(k:Int)|none=> -1))/\Below w w w'
theorem ZT(id:Int):∀ps:List Ord.P,ps.find? (λp=>p.id==id)=none->lD ps id=none
 |[],_=>rfl
 |p::t,h=>by
  rw[List.find?_cons]at h;unfold lD;by_cases e:p.id=id
  .simp[e]at h
  .rw[aD e];have e2:(p.id==id)=false:=by simpa using e
   rw[e2]at h;rw[ZT id t h];rfl
theorem ZR(id:Int):∀(ps:List Ord.P) (k:Nat) (a:k<ps.length),(ps.take k).find? (λp=>p.id==id)=none->(ps[k].id==id)=true->lD ps id=some k
 |[],k,a,_,_=>by simp at a
 |p::t,0,a,_,h=>by unfold lD;rw[aG (by simpa using h)]
 |p::t,k+1,a,b,h=>by
  rw[List.take_succ_cons,List.find?_cons]at b;unfold lD;by_cases e:p.id=id
  .simp[e]at b
  .have e2:(p.id==id)=false:=by simpa using e
   rw[e2]at b;rw[aD e,ZR id t k (by simpa using a) b (by simpa using h)];rfl
theorem abX{ps:List Ord.P}(y:PSl w vr ps)(v:ps.length<=1000000)(id:Int):∀w1,Below w w w1->Calls prog 105 #[vr,id] w1 λe w'=>ark ps id w1 e w':=by
 intro w1 r;have c:Below w1 w1 (w1.alloc (.cells #[id] 3)):=bZ;have a:Blk (w1.alloc (.cells #[id] 3)) (w1:Nat) 3 #[id]:=Blk.new _ _ _;have z:=(show PSl (w1.alloc (.cells #[id] 3)) vr ps from by obtain⟨R,l,e,f,d,i,g⟩:=y;exact⟨R,l,e,f,d,(i.below r).below c,g⟩);have m:=qZ (YV z v 159 (w1:Nat) (λp=>p.id==id) (λ_ _=>kZ) (λp W o=>aqm p id (w1:Nat) W (aM a.lt o.size) ((a.below o a.lt).cell 0)) _ (aJ _ _));have F:=qZ c;obtain⟨R,l,rfl,f,d,i,g⟩:=y;generalize ps.length=NN at*;clear c a z f d i g v r;go_enter func105,ntmps105;go_wp2_with fail;refine m.out.mono ?_;rintro e I⟨H,s⟩;have j:=qZ (aA F s);clear s m;rcases H with⟨rfl,x⟩|⟨k,u,rfl,A,n⟩
 .have b:=qZ (ZT id ps x);clear x;go_wp2_with fail;go_ret;exact⟨by rw[b.out];rfl,j⟩
 .have b:=qZ (ZR id ps k u n (List.find?_some (p:=λp:Ord.P=>p.id==id) A));clear A n u;go_wp2_with fail;go_ret;exact⟨by rw[b.out];rfl,j⟩
def aoi(p:Run->Bool)(rl:List Run)(w:World)(e:Ending)(w':World):Prop:=(e=.returned (.int .i64 (-1))/\rl.find? p=none\/∃(k:Nat) (h:k<rl.length),e=.returned k/\rl.find? p=some rl[k]/\(rl.take k).find? p=none)/\Below w w w'
theorem YR(ag:Runs w vr rl)(ay:rl.length<=1000000)(d b:Nat)(q:Run->Bool)(bd:∀a W,(callFunc d a).run prog W=.ok (.enter d a) W)(af:∀x W,x.hv.oneCell'=true->Below w w W->Calls prog d #[rM x,.pointer b] W λe w'=>e=.returned (.bool (q x))/\Below W W w'):∀w1,Below w w w1->Calls prog 141 #[vr,.func (.func d) #[] #[.pointer b]] w1 λe w'=>aoi q rl w1 e w':=by
 intro w1 Y;have aj:=qZ (λx W (T:x.hv.oneCell'=true) (h:Below w1 w1 W)=>af x W T (aA Y h));obtain⟨R,bb,rfl,ah,au,ad⟩:=ag.below Y;have am:=qZ ah;have ak:=qZ ad;obtain⟨N,X⟩:=nZ rl.length;have Z:=qZ X;rw[X]at ay⊢;clear ah au ad X ag Y af;go_enter func141,ntmps141;go_wp2_with fail;go_loopg[8] N (λaq az wr=>∃k:Nat,az=.int .i64 k/\k<=N/\N<=aq+k/\Hid ((rl.take k).find? q=none)/\Hid (Below w1 w1 wr));case atStart=>exact⟨0,mZ,oZ,oZ,qZ sZ,qZ (aJ _ _)⟩
 case round=>
  obtain⟨k,rfl,bf,be,r,n⟩:=hrel;by_cases av:k<N
  .have ax:(k:Int)<(N:Int):=oZ;have m:k<rl.length:=by rw[Z.out];exact av
   obtain⟨a9,bi,rfl,aw,ab⟩:=sQ am m;obtain⟨v,p1,p2,p3,p4,H,p6,I,J,K,y,z,F,p⟩:=ab wr n;have O:=qZ (ak _ (bB m));have c:=qZ (aj rl[k] wr (by obtain⟨A,cap,e,_⟩:=O.out;rw[e];rfl) n);obtain⟨s,u⟩:=nZ (q rl[k]);rw[u]at c;have Q:Hid (s=true->∃h:k<rl.length,rl.find? q=some (rl[k]'h)):=qZ (λe=>⟨m,abb q rl m r (u.trans e)⟩);have M:=qZ (λe:s=false=>JF q rl m r (u.trans e));obtain⟨x,ai⟩:=nZ (rl[k]);rw[ai]at v p1 p2 p3 p4 H p6 I J K y z F p O c;clear ab m aw u ai;obtain⟨a5,bc,aa,_,_⟩:=id O;obtain⟨a,a8,ba,⟨d',e,f⟩,g,h,i,j,bg,st,l,aQ,hv⟩:=x;simp only at aa v p1 p2 p3 p4 H p6 I J K y z F p;subst aa;obtain⟨bh,ae⟩:=nZ aQ.length;simp only[rM,sW,ae]at c p;clear ae;cases s
   .have an:=qZ (M rfl);clear M Q;go_wp2_with fail;refine c.out.mono ?_;rintro ap a0⟨rfl,o⟩;have L:=qZ (aA n o);clear v p1 p2 p3 p4 H p6 I J K y z F p o c;go_wp2_with fail;go_roundg(N-(k+1));case measure=>omega
    case rel=>exact⟨k+1,mZ,oZ,oZ,an,L⟩
   .have ao:=qZ (Q rfl);clear M Q;go_wp2_with fail;refine c.out.mono ?_;rintro ap a0⟨rfl,o⟩;have L:=qZ (aA n o);clear v p1 p2 p3 p4 H p6 I J K y z F p o c;go_wp2_with fail;go_ret;obtain⟨T,ar⟩:=ao.out;exact⟨.inr ⟨k,T,rfl,ar,r⟩,L⟩
  .have ax:¬(k:Int)<(N:Int):=oZ;have al:=qY (rl.find? q=none) (by have:=r.out;rwa [aT (by have:=Z.out;omega)]at this);go_wp2_with fail;go_ret;exact⟨.inl ⟨rfl,al⟩,n⟩
theorem agB(x:Run)(n:Int)(b:Nat)(w:World)(o:x.hv.oneCell'=true)(p:b<(w:Nat))(r:w.cell? (b,0)=some (.int .i64 n)):Calls prog 161 #[rM x,.pointer b] w λe w'=>e=.returned (.bool (x.id==n))/\Below w w w':=by obtain⟨a,c,d,⟨d',e,f⟩,g,h,i,j,m,st,l,aQ,hv⟩:=x;simp only[rM,sW]at*;have k:Below w w (w.alloc (.cells #[a,c,d,d',e,f,g,h,i,j,m,st,l,hv] 86)):=bZ;go_enter func161,ntmps161;go_wp2_with fail;go_ret;exact⟨rfl,k⟩
theorem afw(x:Run)(n:Int)(b:Nat)(w:World)(o:x.hv.oneCell'=true)(p:b<(w:Nat))(r:w.cell? (b,0)=some (.int .i64 n)):Calls prog 147 #[rM x,.pointer b] w λe w'=>e=.returned (.bool (x.id==n))/\Below w w w':=by obtain⟨a,c,d,⟨d',e,f⟩,g,h,i,j,m,st,l,aQ,hv⟩:=x;simp only[rM,sW]at*;have k:Below w w (w.alloc (.cells #[a,c,d,d',e,f,g,h,i,j,m,st,l,hv] 86)):=bZ;go_enter func147,ntmps147;go_wp2_with fail;go_ret;exact⟨rfl,k⟩
end bU
variable{W:World}
namespace bU
open Go Go.RowKit L bM eZ Srt
theorem afG{rs:List Top.R}{f:Nat}{dB:List Int}(h:(Top.dR c (dK rs dB) p).isSome=true):qM c rs p (f+1) dB=some dB:=by
 unfold qM;cases e:Top.dR c (dK rs dB) p with
 |some v=>rfl
 |none=>rw[e]at h;cases h
theorem afF{rs:List Top.R}{f:Nat}{dB:List Int}(h:(Top.dR c (dK rs dB) p).isSome=false)(a:(Top.order (dK rs dB)).find? (λr=>kP c (Top.used c (dK rs dB)) r.p.dN)=none):qM c rs p (f+1) dB=none:=by
 unfold qM;cases e:Top.dR c (dK rs dB) p with
 |some v=>rw[e]at h;cases h
 |none=>simp only[a]
theorem akn{rs:List Top.R}{f:Nat}{dB:List Int}{r:Top.R}(h:(Top.dR c (dK rs dB) p).isSome=false)(a:(Top.order (dK rs dB)).find? (λr=>kP c (Top.used c (dK rs dB)) r.p.dN)=some r):qM c rs p (f+1) dB=qM c rs p f (dB++[r.p.id]):=by
 conv=>lhs;unfold qM
 cases e:Top.dR c (dK rs dB) p with
 |some v=>rw[e]at h;cases h
 |none=>simp only[a]
theorem OP{rs:List Top.R}{dB:List Int}{r:Top.R}(h:r∈dK rs dB):(dK rs (dB++[r.p.id])).length<(dK rs dB).length:=by
 have e:dK rs (dB++[r.p.id])=(dK rs dB).filter (λx=> !(x.p.id==r.p.id)):=by unfold dK;rw[List.filter_filter];apply List.filter_congr;intro x _;by_cases a:x.p.id=r.p.id<;>by_cases b:x.p.id∈dB<;>simp[a,b]
 rw[e];refine List.length_filter_lt_length_iff_exists.2 ⟨r,h,sZ⟩
theorem aft{p:Top.R->Bool}:∀{rl:List Run} {rs:List Top.R},rl.map eY=rs->rs.find? p=(rl.find? λx=>p (eY x)).map eY
 |[],rs,h=>by subst h;rfl
 |x::rl,rs,h=>by
  subst h;rw[cZ,List.find?_cons,List.find?_cons];cases e:p (eY x)with
  |true=>rfl
  |false=>exact aft rfl
theorem aso{b:List Run}(h:Many rl)(f:b.length<=rl.length)(g:∀r∈b.map eY,r∈rl.map eY):Many b:=by
 have d:∀x∈b,∃y∈rl,eY y=eY x:=λx a=>bL.1 (g _ (bL.2 ⟨x,a,rfl⟩));refine⟨aV f h.len,λx a=>?_,λx a=>?_⟩
 .obtain⟨y,c,e⟩:=d x a;have n:=h.num y c;have e1:y.start=x.start:=dA Top.R.start e;have e2:y.run=x.run:=dA (λr:Top.R=>r.p.run) e;exact⟨e1▸n.start,e2▸n.run⟩
 .obtain⟨y,c,e⟩:=d x a;have e1:y.aQ=x.aQ:=dA Top.R.aQ e;rw[<-e1];exact h.aQ y c
theorem bQ.isl{B:Nat}{l:List Int}(h:bQ w B 3 1 jL v l)(b:l.length<=1000000):ISl w v l:=by obtain⟨A,cap,e,a⟩:=h.sl (λ_=>rfl);exact⟨A,cap,e,a,by unfold maxLen;omega⟩
theorem alG{B:Nat}{l:List Int}(h:bQ W B 3 1 jL v l)(e:B<=(W:Nat))(n:Int)(r:l.length<=1000000):∃v' a,(Builtin.append_ #[36,36] 36 #[v,.slice W 1 1]).run prog (W.alloc (.cells #[n] 3))=.ok v' a/\bQ a B 3 1 jL v' (l++[n])/\Below B W a:=by obtain⟨i0,hi,i,j,o⟩:=info_parts aqW;have b:Below W W (W.alloc (.cells #[n] 3)):=bZ;have g:=rU (k:=1) (dec:=jL) (x:=n) (Blk.new W 3 #[n]) rfl;obtain⟨v',a,e1,e2,e3,e4,p⟩:=mP 36 36 i0 _ 8 underlying36 hi i j o rfl oZ (λ_=>rfl) (ys:=[n]) (m:=1) (c:=1) (λu d=>by simp only[dL,kV,fC,jL,bA,dS,or_false]at d;subst d;rfl) (h.below b) rfl g (by simp;omega) (by unfold maxLen;omega) oZ;exact⟨v',a,e1,e2,Below.grown (Below.mono b e) e3 (by simp;omega) λk f=>(h.lt k f).1⟩
theorem alQ(w:World):PSl w (.slice none 0 0) []:=⟨none,0,rfl,bI _,bK _,λh=>absurd rfl h,λy a=>by cases a⟩
def avd(w:World)(e:Ending)(w':World):Prop:=e=.returned (stv (.slice none 0 0) (.slice none 0 0) (.slice none 0 0) (.slice none 0 0) (.slice none 0 0) Top.new)/\StR w' (.slice none 0 0) (.slice none 0 0) (.slice none 0 0) (.slice none 0 0) (.slice none 0 0) Top.new []/\Below w w w'
theorem VG(w:World):Calls prog 24 #[] w λe w'=>avd w e w':=by go_enter func24,ntmps24;go_wp2;obtain⟨p,a⟩:=nZ (w.alloc (.cells #[true,true,(),(),(),(1:Int),true,true,true] 31));have d:=aX a;have c:=aB a;rw[a];obtain⟨f,g,i,j,k,l,m,n,o⟩:=d.c9;refine bodyPost_ret (v:=.agg #[true,true,(),(),(),(1:Int),true,true,true]) (by simp[results,Tryz.results24,go_sem,f,g,i,j,k,l,m,n,o]) rfl ?_;refine⟨rfl,⟨⟨_,_,rfl,⟨none,0,rfl,λh=>absurd rfl h,bK _⟩,⟨none,0,rfl,λh=>absurd rfl h,bK _⟩⟩,alQ _,⟨none,0,rfl,λh=>absurd rfl h,bK _,λy b=>by cases b⟩,rfl,⟨none,0,rfl,λh=>absurd rfl h,bK _,λy b=>by cases b⟩⟩,c⟩
end bU
end Go.Proofs.YtedmeglbjmdlhaaGreatDoor
