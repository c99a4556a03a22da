/-
Parts of TopFirst.
-/
import Derived.Test.YtedmeglbjmdlhaaGreatDoorF6
import Derived.Test.YtedmeglbjmdlhaaGreatDoorF11
set_option maxRecDepth 100000
set_option maxHeartbeats 16000000
set_option linter.all false
open Go.Proofs.Tryz
namespace Go.Proofs.YtedmeglbjmdlhaaGreatDoor
open Go.Value renaming slice->ac,int->cE,pointer->cQ,cells->cU,bool->cW,agg->cY,tuple->eA,int->eQ
open Option renaming some->cA,none->cC,map_some->fW,getD_some->hA,map->hM,map_none->ih
open Go.IntKind renaming i64->cD,wrap_i64->hC,i64->hV
open Go.RowKit renaming Below->cF
open Go.Proofs.Tryz renaming underlying27->cG,prog->cI,underlying28->dE,underlying36->eN,sizeOf44->hN
open Go.Ending renaming returned->cH
open Go renaming Value->cJ,World->cM,Calls->cT,wpList->dT,info_parts->eJ,maxLen->eR,Ending->eS,bodyPost_ret->eV,undef->fN,TypeId->gC,run_loadVar_row->hG,wp_loop_rounds->hL,Program->hU,rounds_succ->hZ,Oper->ik,Operand->im,wpList_plain->iq,callFunc->iv,goInt->iS
open Go.Builtin renaming zeroCells->cL,append_->fX,copy_->gR,clear_->hK
open Go.Obj renaming cells->cN
open Bool renaming true->cP,false->cV,and_eq_true->hT
open L.aD renaming drew->cR
open Ord renaming P->cS,cmp->jd
open Top renaming dX->cX,used->eM,R->eW,Rd->fL,order->gT,S->hD,dR->hP,E->hR,choose->il,start->io,ends->iu,aDm->iy,never->iz,gs->ja,free->jb,Good->jc,row->jf
open List renaming find?_cons->dC,drop->eI,length_cons->hB,take_succ_cons->hO,take_length->hY,find?_some->ij
open Go.Instr renaming slice->eC,sliceAt->gO,sliceBounds->hS,sliceBound->hX
open Go.Addr renaming add_lit->eE
open L.aL renaming refl->eK,bQ->ix,jX->je
open L renaming kD->eL
open Go.Sort renaming insertionSort->gA,setMany->hW,size_setMany->ir,flatK->iw
open Nat renaming min->gS,add_sub_cancel_left->hE,min_def->hJ,add_zero->hQ
open L.Blk renaming alloc->hH,bR->hI,drew->ii
open Go
open Cfg L Ord Quo Srt Top Vec bO bT eO rM
variable{c:Cfg.C}{rl:List bO.Run}{vr:cJ}{w:cM}
namespace bT
open Go.RowKit L bO eO Srt
structure zD (c:Cfg.C):Prop where
 aN:c.aN.length<=1000000
 aR:c.aR.length<=1000000
 caps:∀h∈c.aR,wZ h.cap
theorem IL{al:cJ}(f:bW w al c)(m:Runs w vr rl)(k:zD c)(p:cS)(a9:zS p)(ba:EL p):∀w1,cF w w w1->cT cI 23 #[al,vr,dV p] w1 λe w'=>yT (cX c (rl.map eD) p) w1 e w':=by
 intro w1 af;replace f:=f.below af;replace m:=m.below af;have Z:=qZ (λW (h:cF w1 w1 W)=>by have:=FH f m k.aN W h;rw[ET]at this;exact this);have Y:=qZ (λW (h:cF w1 w1 W)=>by have:=BP f m k.aR W h;rw[free_eq]at this;exact this);have u:=qZ (λW va (h:cF w1 w1 W) (N:VSl W va (eM c (rl.map eD)))=>aok (f.below h) k.aN N p.dI (kM p) W (aK _ _));have H:=qZ (λW bf (h:cF w1 w1 W) (N:VSl W bf (jb c (rl.map eD)))=>amq (f.below h) N (by rw[<-free_eq];exact aji _ k.caps _) k.aR p a9 ba W (aK _ _));have J:=VZ p.id p.dI p.fG p.need p.run p.aP p.prefer;obtain⟨v1,v2,rfl,⟨A,ca,rfl,b1,bw⟩,⟨B,j,rfl,b2,bz⟩⟩:=f;obtain⟨F,cf,rfl,b3,b0,bv⟩:=m;obtain⟨R,L⟩:=nZ (cX c (rl.map eD) p);have ae:=L;unfold cX at ae;have i:=qZ ae;rw[L];obtain⟨ar,M⟩:=nZ (eM c (rl.map eD));obtain⟨am,K⟩:=nZ (jb c (rl.map eD));rw[M,K]at i;rw[M]at Z u;rw[K]at Y H;have a8:kM p=Vec.nI p.need p.fG:=rfl;rw[<-a8]at J;obtain⟨⟨av,d1,d2⟩,aw⟩:∃D,kM p=D:=⟨_,rfl⟩;rw[aw]at J i u;obtain⟨q,ah⟩:=nZ (Quo.may c ar p.dI ⟨av,d1,d2⟩);rw[ah]at u i;obtain⟨z,ad⟩:=nZ (Top.find c am p);rw[ad]at H i;generalize c.aN.length=NN at*;generalize c.aR.length=NH at*;generalize c.aG=aG at*;generalize c.aJ=aJ at*;generalize rl.length=NR at*;obtain⟨n,p1,s,⟨n0,n1,n2⟩,p6,o,r,b5,b4⟩:=p;simp only[dV,gK,Vec.V.val]at*;obtain⟨d,x⟩:=nQ ((w1.alloc (cN #[ac A NN ca,ac B NH j,aG,aJ] 26)).alloc (cN #[n,p1,s,n0,n1,n2,p6,o,r] 42));have bk:Blk d ((w1:Nat)+1) 42 #[n,p1,s,n0,n1,n2,p6,o,r]:=by rw[<-x.out];have h:=Blk.new (w1.alloc (cN #[ac A NN ca,ac B NH j,aG,aJ] 26)) 42 #[n,p1,s,n0,n1,n2,p6,o,r];simp only[aT]at h;exact h
 have bl:Blk d w1 26 #[ac A NN ca,ac B NH j,aG,aJ]:=by rw[<-x.out];exact hH (Blk.new _ _ _) _
 have a5:cF w1 w1 d:=by rw[<-x.out];exact kp
 have a:=qZ (aC bk bl);have g:=qZ a5;have an:=qZ J;clear L M K ah ad;go_enter func23,ntmps23;go_wp2_with fail;rw[x.out];refine jB (aD d) (.take 0 (.take 1 (.take 2 (.take 4 (.take 5 (.take 6 (.one 3 (.one 7 (.one 8 (.take 9 .done)))))))))) kZ kZ (cR d) ?_;have au:∀W,aD d W->CV W w1 0 (ac A NN ca):=λW b=>(Blk.below a.2 b a.2.lt).cell 0;have c1:∀W,aD d W->CV W w1 1 (ac B NH j):=λW b=>(Blk.below a.2 b a.2.lt).cell 1;have c2:∀W,aD d W->CI W w1 2 aG:=λW b=>(Blk.below a.2 b a.2.lt).cell 2;have c3:∀W,aD d W->CI W w1 3 aJ:=λW b=>(Blk.below a.2 b a.2.lt).cell 3;have bm:∀W,aD d W->CI W ((w1:Nat)+1) 0 n:=λW b=>(Blk.below a.1 b a.1.lt).cell 0;have bn:∀W,aD d W->CI W ((w1:Nat)+1) 1 p1:=λW b=>(Blk.below a.1 b a.1.lt).cell 1;have bo:∀W,aD d W->CI W ((w1:Nat)+1) 2 s:=λW b=>(Blk.below a.1 b a.1.lt).cell 2;have bp:∀W,aD d W->CI W ((w1:Nat)+1) 3 n0:=λW b=>(Blk.below a.1 b a.1.lt).cell 3;have bq:∀W,aD d W->CI W ((w1:Nat)+1) 4 n1:=λW b=>(Blk.below a.1 b a.1.lt).cell 4;have br:∀W,aD d W->CI W ((w1:Nat)+1) 5 n2:=λW b=>(Blk.below a.1 b a.1.lt).cell 5;have bs:∀W,aD d W->CI W ((w1:Nat)+1) 6 p6:=λW b=>(Blk.below a.1 b a.1.lt).cell 6;have bt:∀W,aD d W->CI W ((w1:Nat)+1) 7 o:=λW b=>(Blk.below a.1 b a.1.lt).cell 7;have bu:∀W,aD d W->CI W ((w1:Nat)+1) 8 r:=λW b=>(Blk.below a.1 b a.1.lt).cell 8;(iterate 6 refine tT ?_);refine dQ ?_;refine tC ?_;refine(Z _ (aA g (cR d))).mono ?_;rintro e bg⟨va,rfl,bc,ax⟩;have ai:aD d bg:=aA (cR d) ax;refine⟨va,rfl,ai,?_⟩;refine dQ ?_;refine tC ?_;refine(an _).mono ?_;rintro e bh⟨rfl,ag⟩;have Q:aD d bh:=aA ai ag;refine⟨_,rfl,Q,?_⟩;refine dQ ?_;refine tC ?_;refine(u _ va (aA g Q) (bc.below ag).sl).mono ?_;rintro e y⟨rfl,ay⟩;have l:aD d y:=aA Q ay;refine⟨_,rfl,l,?_⟩;(iterate 1 refine tT ?_);refine fA ?_;have I:=qZ l;cases q
 .go_wp2_with fail;refine eV (v:=eA #[(),cP,cW cV]) (by simp[results,Tryz.results23,go_sem]) rfl ?_;rw[<-i.out];exact⟨_,rfl,bL.nil _ _ _ _ _,aA g I⟩
 .go_wp2_with fail;refine jB (aD d) (.take 0 (.take 1 (.take 2 (.take 4 (.one 3 (.one 5 (.take 6 (.take 7 (.take 8 (.take 9 (.take 10 (.take 11 .done)))))))))))) kZ kZ (aA I (cR y)) ?_;have au:∀W,aD d W->CV W w1 0 (ac A NN ca)/\CV W w1 1 (ac B NH j)/\CI W w1 2 aG/\CI W w1 3 aJ/\CI W ((w1:Nat)+1) 0 n/\CI W ((w1:Nat)+1) 1 p1/\CI W ((w1:Nat)+1) 2 s/\CI W ((w1:Nat)+1) 3 n0/\CI W ((w1:Nat)+1) 4 n1/\CI W ((w1:Nat)+1) 5 n2/\CI W ((w1:Nat)+1) 6 p6/\CI W ((w1:Nat)+1) 7 o/\CI W ((w1:Nat)+1) 8 r:=λW b=>⟨(Blk.below a.2 b a.2.lt).cell 0,(Blk.below a.2 b a.2.lt).cell 1,(Blk.below a.2 b a.2.lt).cell 2,(Blk.below a.2 b a.2.lt).cell 3,(Blk.below a.1 b a.1.lt).cell 0,(Blk.below a.1 b a.1.lt).cell 1,(Blk.below a.1 b a.1.lt).cell 2,(Blk.below a.1 b a.1.lt).cell 3,(Blk.below a.1 b a.1.lt).cell 4,(Blk.below a.1 b a.1.lt).cell 5,(Blk.below a.1 b a.1.lt).cell 6,(Blk.below a.1 b a.1.lt).cell 7,(Blk.below a.1 b a.1.lt).cell 8⟩;(iterate 4 refine tT ?_);refine dQ ?_;refine tC ?_;have l:aD d y.drew:=aA I (cR y);refine(Y _ (aA g l)).mono ?_;rintro e bi⟨ak,rfl,bd,az⟩;have T:aD d bi:=aA l az;refine⟨ak,rfl,T,?_⟩;refine dQ ?_;refine tC ?_;have ab:=qZ (aA g T);refine(H _ ak ab bd.sl).mono ?_;rintro e bj⟨v',rfl,bb,a0⟩;have aj:aD d bj:=aA T a0;refine⟨_,rfl,aj,?_⟩;have ap:=qZ (bb.low ab.size);have aq:=qZ (aA g aj);obtain⟨fl,O⟩:=nZ ((hM (·.1) z).getD 0);obtain⟨be,X⟩:=nZ z.isSome;rw[O,X];have aa:=qZ (aC O X);have ao:=qY (R=z) (by have:=i.out;simpa using this.symm);clear O X;(iterate 6 refine tT ?_);refine fA ?_;go_wp2_with fail;refine eV (v:=eA #[fl,v',cW be]) (by simp[results,Tryz.results23,go_sem]) rfl ?_;rw[ao.out];exact⟨v',by rw[aa.out.1,aa.out.2],ap,aq⟩
end bT
variable{h:List Nat}{g m:Nat}{v1 v2 vp:cJ}{w1:cM}
namespace Srt
open Go.RowKit Go.Sort L bO eO
def WO(c:Cfg.C)(h:List Nat)(aQ:Int)(x y:PO):Int:=jd c h aQ x.1 y.1
def sorted(c:Cfg.C)(h:List Nat)(aQ:Int)(qs:List PO):Array PO:=gA (ltOf (WO c h aQ)) qs.toArray 0 qs.length
def aeI(w w':cM)(qs:List PO)(d:Array PO)(v:cJ):Prop:=(qs=[]/\v=ac cC 0 0)\/∃g cap,v=ac (cA ⟨g,0,cC⟩) qs.length cap/\HoldsK pE 11 w' g 0 d/\(w:Nat)<=g/\g<(w':Nat)
theorem abM{a:cM}(h:cF w w w1)(k:aL (λi=>i=g) w1 a)(b:m<=g)(c:m=(w:Nat)+1):cF w w a:=
 h.trans (k.below h.size λi hi=>by subst hi;omega)
theorem akQ{p:cJ}{aQ next:Int}(hs:zQ w v1 v2 p c h)(W:c.aN≠[])(aw:MP c aQ){qs:List PO}(a5:PSl w vp (qs.map (·.1)))(bb:qs.length<1000000):cT cI 35 #[cY #[v1,v2,c.aG,c.aJ,aQ,next,vp,vr,p]] w λe w'=>∃v,e=cH v/\aeI w w' qs (sorted c h aQ qs) v/\cF w w w':=by
 obtain⟨A,cap,rfl,_,_,a8,_⟩:=a5;have m:=wC.new w 31 v1 v2 c.aG c.aJ aQ next (ac A (qs.map (·.1)).length cap) vr p
 have k:cF w w (w.alloc (cN #[v1,v2,c.aG,c.aJ,aQ,next,ac A (qs.map (·.1)).length cap,vr,p] 31)):=bZ;have l:=a8.below k;rw[bP]at m k l⊢;obtain⟨aG,T⟩:=nZ c.aG;obtain⟨aJ,L⟩:=nZ c.aJ;obtain⟨n,f⟩:=nZ qs.length;rw[T,L,f]at m k l⊢;have i:=qZ (aC T (aC L f));generalize X:w.alloc (cN #[v1,v2,aG,aJ,aQ,next,ac A n cap,vr,p] 31)=s at m k l;have Y:=qZ X;have F:=qZ (aC hs (aC W aw));have z:=qZ l;have I:=qZ (aC m k);have J:=qY ((s:Nat)=(w:Nat)+1) (by rw[<-X];simp);obtain⟨bd,be,bf,bg,bh,bi,bj,bk,bl,bm⟩:=m;clear l f T L X;have Z:=qY (n<1000000) (by have:=i.2.2;omega);cases A with
 |none=>
  have y:=qY (qs=[]) (by
   rcases qs with _|⟨q,qs⟩
   .rfl
   .obtain⟨b,o,e,_⟩:=z.out sZ;cases e)
  have G:=qZ (ajI n cap s);go_enter func35,ntmps35;go_wp2_with fail;rw[Y.out];refine G.mono ?_;rintro e d⟨rfl,rfl⟩;go_wp2_with fail;refine(adk _ _ _).mono ?_;rintro e ba⟨rfl,rfl⟩;go_wp2_with fail;go_ret;exact⟨_,rfl,.inl ⟨y,rfl⟩,I.2.alloc (by have:=J.out;omega) _⟩
 |some a=>
  have ay:(iw pE 11 qs.toArray).toList.length=n*11:=by have:=i.2.2;simp[this]
  have am:∀j u,(iw pE 11 qs.toArray).toList[j]? =cA u->s.cell? (a.add j)=cA u:=λj u r=>by
   have W:qs.map (·.1)≠[]:=λe=>by have e:=oD.1 e;subst e;simp[iw]at r
   obtain⟨b,o,e,_⟩:=z.out W;cases e;rw[eE];exact agd z j u r
  have aj:∀u∈(iw pE 11 qs.toArray).toList,u.oneCell'=cP:=λu r=>by
   obtain⟨j,ar,rfl⟩:=kX r;have ad:j<qs.length*11:=by simpa using ar
   have:=get_flatK pE 11 qs.toArray j (by simpa using ad);rw[Array.getElem_toList,<-bX (iw pE 11 qs.toArray) j (by simpa using ad),this,bX (pE _) (j%11) (by rw[IV];omega)];exact acp _ _ (bD _)
  have G:=qZ (ajJ (w:=s) a n cap _ ay (by have:=Z.out;omega) am aj);go_enter func35,ntmps35;go_wp2_with fail;rw[Y.out];refine G.mono ?_;rintro e d⟨v',rfl,a0,az,aa⟩;obtain⟨_,⟨e,_⟩|⟨g,K,cur,rfl,Q,O,ax,bc,ao,a9⟩⟩:=a0
  .exact absurd e az
  have ab:g<(d:Nat):=by
   rcases fI g (d:Nat)with av|aq
   .exact av
   .rw[jA aq]at O;cases O
  have ag:=J.out;have f:=i.2.2;have ak:HoldsK pE 11 d g 0 qs.toArray:=aiZ (n:=n) (cap:=K) O (by rw[fO,f];exact a9) (by rw[fO,f,ao];exact dD 11 ax);have M:cF d d (d.alloc (cN #[.func (.func 80) #[] #[]] 145)):=bZ;have N:cF w w (d.alloc (cN #[.func (.func 80) #[] #[]] 145)):=aA (aA I.2 aa) M;have al:=KW ak ab M;have af:=(I.1.below aa).below M;have ap:(d.alloc (cN #[.func (.func 80) #[] #[]] 145)).cell? (d,0)=cA (.func (.func 80) #[] #[]):=by simp[go_sem]
  rw[<-i.out.1,<-i.out.2.1]at af;have an:=alU F.1 F.2.1 F.2.2 N af ap sZ oZ (show g≠(d:Nat) by omega) oZ;have G:=qZ (aaY (WO c h aQ) ((AX c h aQ).pull λx:PO=>x.1) _ _ g K qs.toArray _ (λargs w=>by simp[go_sem]) an al (by simp;omega) (by rw[fO,f];exact Z));rw[fO]at G;have ah:=qZ N;have ai:=qZ (aC Q ab);have y:=qY (gA (ltOf (WO c h aQ)) qs.toArray 0 qs.length=sorted c h aQ qs) rfl;rw[y.out,f]at G;clear f N;go_wp2_with fail;refine G.mono ?_;rintro e ba⟨rfl,ae⟩;have H:=qZ ae;clear ae;go_wp2_with fail;go_ret;have Q:=ai.out;have ag:=J.out;have au:=H.bA;exact⟨_,rfl,.inr ⟨g,K,by rw[i.out.2.2];rfl,H.holds,oZ,H.out.lt⟩,abM ah au Q.1 ag⟩
end Srt
variable{ps:List cS}{rs:List eW}{k n z:Nat}{A:Option Addr}{p:cS}{s:hD}{v:cJ}{w':cM}
namespace bT
open Go.RowKit L bO eO Srt
def stv(v1 v2 vp vr vh:cJ)(s:hD):cJ:=cY #[v1,v2,s.c.aG,s.c.aJ,s.aQ,s.next,vp,vr,vh]
structure StR (w:World) (v1 v2 vp vr vh:Value) (s:Top.S) (rl:List Run):Prop where
 cfg:bW w (.agg #[v1,v2,s.c.aG,s.c.aJ]) s.c
 ps:PSl w vp s.ps
 rs:Runs w vr rl
 map:rl.map eD=s.rs
 h:FSl w vh s.h
theorem pV(h:PSl w v ps)(f:cF w w w'):PSl w' v ps:=by obtain⟨A,cap,e,a,b,c,d⟩:=h;exact⟨A,cap,e,a,b,c.below f,d⟩
theorem StR.below{b:cJ}(h:StR w v1 v2 vp vr b s rl)(a:cF w w w'):StR w' v1 v2 vp vr b s rl:=
 ⟨h.cfg.below a,pV h.ps a,h.rs.below a,h.map,h.h.below a⟩
structure qC (z:Nat) (v1 v2 vp vr vh:Value) (s:Top.S) (rl:List Run):Prop where
 aN:s.c.aN≠[]->∀b,v1.ownBlock=some b->z<=b
 aR:s.c.aR≠[]->∀b,v2.ownBlock=some b->z<=b
 ps:s.ps≠[]->∀b,vp.ownBlock=some b->z<=b
 rs:rl≠[]->∀b,vr.ownBlock=some b->z<=b
 hv:∀y∈rl,y.aR≠[]->∀b,y.hv.ownBlock=some b->z<=b
 h:s.h≠[]->∀b,vh.ownBlock=some b->z<=b
theorem qC.low{c:cJ}(h:qC z v1 v2 vp vr c s rl)(a:k<=z):qC k v1 v2 vp vr c s rl:=
 ⟨λn b e=>bC a (h.aN n b e),λn b e=>bC a (h.aR n b e),λn b e=>bC a (h.ps n b e),λn b e=>bC a (h.rs n b e),λy d n b e=>bC a (h.hv y d n b e),λn b e=>bC a (h.h n b e)⟩
theorem AR{α:Type}{c:Nat}{dec:α->List cJ}{xs:List α}(h:gF w A k dec xs)(a:aL (λi=>i=z) w w')(l:xs≠[]->∀b,(Value.slice A n c).ownBlock=cA b->b≠z):gF w' A k dec xs:=λe=>by obtain⟨g,o,rfl,d,f⟩:=h e;exact⟨g,o,rfl,aM d a.size,λi x r j u m=>(a.cell (p:=⟨g,o+i*k+j,cC⟩) d (l e g rfl)).trans (f i x r j u m)⟩
theorem StR.off{y:Nat}{d:cJ}(h:StR w v1 v2 vp vr d s rl)(f:qC z v1 v2 vp vr d s rl)(Z:y<z)(c:aL (λi=>i=y) w w'):StR w' v1 v2 vp vr d s rl:=by obtain⟨⟨aa,ab,e,⟨A,ca,rfl,W,x⟩,⟨B,l,rfl,X,F⟩⟩,⟨P,n,rfl,J,K,L,M⟩,⟨Q,o,rfl,N,O,T⟩,I,⟨H,m,rfl,r,u,v⟩⟩:=h;simp only[Value.agg.injEq,eB,dJ,and_true]at e;obtain⟨rfl,rfl⟩:=e;refine⟨⟨_,_,rfl,⟨A,ca,rfl,AR W c λa b e=>by have:=f.aN a b e;omega,x⟩,⟨B,l,rfl,AR X c λa b e=>by have:=f.aR a b e;omega,F⟩⟩,⟨P,n,rfl,J,K,AR L c λa b e=>by have:=f.ps a b e;omega,M⟩,⟨Q,o,rfl,AR N c λa b e=>by have:=f.rs a b e;omega,O,λk j=>?_⟩,I,⟨H,m,rfl,AR r c λa b e=>by have:=f.h a b e;omega,u,v⟩⟩;obtain⟨V,p,e,hv,Y⟩:=T k j;have g:=f.hv k j;rw[e]at g;exact⟨V,p,e,AR hv c λa b e=>by have:=g a b e;omega,Y⟩
structure GOk (p:Ord.P):Prop where
 num:zS p
 lev:EL p
 ok:POk p
 run:0<=p.run/\p.run<=1048576
structure ROk (r:Top.R):Prop where
 start:0<=r.start/\r.start<=1099511627776
 aR:r.aR.length<=16
structure QJ (s:Top.S):Prop where
 mild:zD s.c
 wok:WOk s.c
 num:MP s.c s.aQ
 aQ:0<=s.aQ/\s.aQ<=1099511627776
 next:1<=s.next/\s.next<=1000000
 kV:∀p∈s.ps++Top.gs s.rs,GOk p
 rs:∀r∈s.rs,ROk r
 len:s.ps.length+s.rs.length<=32
 ne:s.ps≠[]->s.c.aN≠[]
 hlen:s.h.length<=1000000
theorem ant{aQ next:Int}(h:EJ c aQ next p)(j:aQ<=1099511627776)(k:next<=1000000):GOk p:=by have g:=h.nums;have a:=g.fG;have b:=g.aP;have d:=g.prefer;have e:=h.seq;have f:=h.since;have i:=g.run;refine⟨⟨oZ⟩,⟨oZ,oZ⟩,⟨?_,?_⟩,oZ⟩<;>unfold InI<;>omega
theorem aof(h:Cfg.ok c=cP):zD c:=by have hs:=yO h;refine⟨oZ,oZ,λx d=>?_⟩;obtain⟨i,hi,rfl⟩:=kX d;have a:=IG (PE h) hi;rw[aV,aH hi,hA]at a;unfold wI at a;simp only[hT]at a;have b:=a.2.2.2;rw[pR]at b;unfold wZ;omega
theorem apv(h:Cfg.ok c=cP):WOk c:=λx b=>by obtain⟨i,hi,rfl⟩:=kX b;have a:=afJ (alI h) hi;rw[aV,aH hi,hA]at a;simp only[xW,hT]at a;have:=(wN _ _ _).1 a.1.2;unfold InI;omega
theorem MG(h:jc n s)(k:n<=1000):QJ s:=by
 have a:s.next<=1000000:=by have:=h.next;omega
 have f:=h.aQ;refine⟨?_,?_,?_,h.aQ,⟨h.next.1,a⟩,λp b=>ant (h.kV p b) f.2 a,λr c=>?_,h.len,λb d=>?_,?_⟩
 .rcases h.cfg with e|e
  .rw[e];exact⟨dZ,dZ,λx a=>(by cases a)⟩
  .exact aof e
 .rcases h.cfg with e|e
  .rw[e];exactλx a=>(by cases a)
  .exact apv e
 .refine⟨?_,by unfold InI;omega⟩;rcases h.cfg with e|e
  .rw[e];unfold InI;decide
  .have:=yO e;unfold InI;omega
 .have g:=h.time r c;have i:=h.lies.aR r c;have j:=(h.kV r.p (gL _ (bU.2 ⟨r,c,rfl⟩))).nums.fG;exact⟨oZ,oZ⟩
 .rcases h.cfg with e|e
  .exact b (h.none e).1
  .have:=yO e;rw[d]at this;simp at this
 .rw[h.hist];rcases h.cfg with e|e
  .rw[e];decide
  .have:=yO e;omega
theorem IB(h:rl.map eD=rs)(e:rs.length<=1000)(f:∀r∈rs,ROk r)(g:∀p∈ja rs,GOk p):Many rl:=by
 have c:∀x∈rl,eD x∈rs:=λx a=>by rw[<-h];exact bU.2 ⟨x,a,rfl⟩
 refine⟨by rw[<-h]at e;simpa using e,λx a=>?_,λx a=>?_⟩
 .have b:=(f _ (c x a)).start;have d:=(g _ (bU.2 ⟨_,c x a,rfl⟩)).run;have e1:(eD x).start=x.start:=rfl;have e2:(eD x).p.run=x.run:=rfl;rw[e1]at b;rw[e2]at d;exact⟨oZ,d⟩
 .have b:=(f _ (c x a)).aR;have e1:(eD x).aR=x.aR:=rfl;rw[e1]at b;omega
structure BZ (x:Top.Rd):Prop where
 kV:∀p∈x.ps++Top.gs x.rs,GOk p
 rs:∀r∈x.rs,ROk r
 len:x.ps.length<=100/\x.rs.length<=100
 sum:x.ps.length+x.rs.length<=100
theorem BZ.many{x:fL}(h:BZ x)(a:rl.map eD=x.rs):Many rl:=IB a (by have:=h.len;omega) h.rs (λp b=>h.kV p (gL _ b))
theorem abF(e:jc n s)(g:n<=1000){x:fL}{l:List cS}(m:Top.Mid s x l)(f:uH s.c x.rs):BZ x:=by
 have ok:=MG e g;have c:∀p∈x.ps++ja x.rs,GOk p:=λp i=>ok.kV p (m.perm.mem_iff.1 i);have j:x.ps.length+x.rs.length<=100:=by have b:=m.perm.length_eq;have d:=ok.len;simp only[aW,ja,bP]at b;omega
 refine⟨c,λr a=>?_,oZ,j⟩
 .have b:=(c r.p (gL _ (bU.2 ⟨r,a,rfl⟩))).num.fG;have d:=f.aR r a;refine⟨?_,oZ⟩;rcases m.runs r a with h|⟨h,_⟩
  .exact(ok.rs r h).start
  .rw[h];exact ok.aQ
theorem pS(h:PSl w v ps):∃A n k,v=ac A n k:=by obtain⟨A,c,e,_⟩:=h;exact⟨_,_,_,e⟩
theorem rS{ps:List Run}(h:Runs w v ps):∃A n k,v=ac A n k:=by obtain⟨A,c,e,_⟩:=h;exact⟨_,_,_,e⟩
theorem fS{ps:List Nat}(h:FSl w v ps):∃A n k,v=ac A n k:=by obtain⟨A,c,e,_⟩:=h;exact⟨_,_,_,e⟩
structure StV (W:World) (z:Nat) (CS:Array Value) (s:Top.S):Prop where
 out:∃v1 v2 vp vr vh rl,stv v1 v2 vp vr vh s=.agg CS/\StR W v1 v2 vp vr vh s rl/\qC z v1 v2 vp vr vh s rl
section
variable {W W':cM} {z y:Nat} {CS:Array cJ} {s:hD}
theorem StV.below(h:StV W z CS s)(c:cF W W W'):StV W' z CS s:=by obtain⟨_,_,_,_,_,_,e,a,b⟩:=h.out;exact⟨⟨_,_,_,_,_,_,e,a.below c,b⟩⟩
theorem StV.off(h:StV W z CS s)(d:y<z)(c:aL (λi=>i=y) W W'):StV W' z CS s:=by obtain⟨_,_,_,_,_,_,e,a,b⟩:=h.out;exact⟨⟨_,_,_,_,_,_,e,a.off b d c,b⟩⟩
theorem StV.low(h:StV W z CS s)(c:y<=z):StV W y CS s:=by obtain⟨_,_,_,_,_,_,e,a,b⟩:=h.out;exact⟨⟨_,_,_,_,_,_,e,a,b.low c⟩⟩
theorem StV.parts(h:StV W z CS s):∃c c1 d c2 f c3 g c4 i c5 rl,CS=#[ac c s.c.aN.length c1,ac d s.c.aR.length c2,cE cD s.c.aG,cE cD s.c.aJ,cE cD s.aQ,cE cD s.next,ac f s.ps.length c3,ac g s.rs.length c4,ac i s.h.length c5]/\StR W (ac c s.c.aN.length c1) (ac d s.c.aR.length c2) (ac f s.ps.length c3) (ac g s.rs.length c4) (ac i s.h.length c5) s rl:=by
 obtain⟨v1,v2,vp,vr,p,rl,e,a,b⟩:=h.out;have a0:=a;obtain⟨⟨r,u,e2,⟨A,ca,rfl,_⟩,⟨B,l,rfl,_⟩⟩,⟨P,n,rfl,_⟩,⟨Q,o,rfl,_⟩,k,⟨H,m,rfl,_⟩⟩:=a;simp only[Value.agg.injEq,eB,dJ,and_true]at e2;obtain⟨rfl,rfl⟩:=e2;have j:rl.length=s.rs.length:=by rw[<-k,bP]
 rw[j]at e a0;unfold stv at e;simp only[Value.agg.injEq]at e;exact⟨_,_,_,_,_,_,_,_,_,_,_,e.symm,a0⟩
theorem StV.size(h:StV W z CS s):CS.size=9:=by obtain⟨_,_,_,_,_,_,_,_,_,_,_,rfl,_⟩:=h.parts;rfl
theorem StV.one(h:StV W z CS s):CS.all (·.oneCell')=cP:=by obtain⟨_,_,_,_,_,_,_,_,_,_,_,rfl,_⟩:=h.parts;rw[<-Array.all_toList];rfl
end
theorem mX:(prog.info? 31).map (·.size)=cA 9:=by kernel_rfl
theorem StV.info{W:cM}{z:Nat}{CS:Array cJ}{s:hD}(h:StV W z CS s):(prog.info? 31).map (·.size)=cA CS.size:=by rw[h.size];exact mX
structure JH (w W:World) (tb:Nat) (CS:Array Value) (s:Top.S):Prop where
 old:Below w w W
 lo:(w:Nat)<=tb
 box:Blk W tb 31 CS
 st:StV W 0 CS s
def bx(wc:cM)(CS:Array cJ):cM:=(wc.alloc (cN #[cP,cP,(),(),(),(),cP,cP,cP] 31)).setRow (wc:Nat) CS
theorem DN(wc:cM)(CS:Array cJ):cF wc wc (bx wc CS):=by have a:=(aK (wc:Nat) wc).alloc lZ (cN #[cP,cP,(),(),(),(),cP,cP,cP] 31);exact a.trans ((jM _ (wc:Nat) CS).below a.size λi e=>oZ)
theorem JH.new{w wc:cM}{z:Nat}{CS:Array cJ}{s:hD}(h:StV wc z CS s)(a:cF w w wc):JH w (bx wc CS) (wc:Nat) CS s:=
 ⟨a.trans ((DN wc CS).mono a.size),a.size,(Blk.new wc _ _).row CS,(h.low (bI _)).below (DN wc CS)⟩
theorem JH.below{w W W':cM}{tb:Nat}{CS:Array cJ}{s:hD}(h:JH w W tb CS s)(a:cF W W W'):JH w W' tb CS s:=
 ⟨h.old.trans (a.mono h.old.size),h.lo,h.box.below a h.box.lt,h.st.below a⟩
section
variable {ops:Array ik} {rest:List ik} {o:ik} {a:Act} {w W wc:cM} {Q:Exit->Act->cM->Prop} {tb z:Nat} {CS CS':Array cJ} {s s':hD}
theorem BF(b:o.guard=cC)(x y:im)(d:o.op=.store 31 x y)(e:a.eval x=cQ wc)(CS:Array cJ)(f:a.eval y=cY CS)(h:StV W z CS s)(c:dT cI ops Q rest (a.put o.dst fN) (bx wc CS)):dT cI ops Q (o::rest) a (wc.alloc (cN #[cP,cP,(),(),(),(),cP,cP,cP] 31)):=
 wpList_store_row b 31 x y d (wc:Nat) CS e f 31 _ (Blk.new wc _ _) h.info (by rw[h.size];rfl) h.one c
theorem aeM(c:o.guard=cC)(x:im)(e:o.op=.load 31 x)(b:JH w W tb CS s)(f:a.eval x=cQ tb)(d:dT cI ops Q rest (a.put o.dst (cY CS)) W):dT cI ops Q (o::rest) a W:=
 wpList_load_row c 31 x e tb f 31 CS (0,0) _ b.box underlying31 rfl b.st.info d
end
theorem StV.mk'{W:cM}{z:Nat}{v1 v2 vp vr a:cJ}{s:hD}{rl:List Run}(h:StR W v1 v2 vp vr a s rl)(f:qC z v1 v2 vp vr a s rl):∃CS,stv v1 v2 vp vr a s=cY CS/\StV W z CS s:=⟨_,rfl,⟨⟨_,_,_,_,_,rl,rfl,h,f⟩⟩⟩
section
variable {P:hU} {fn:Func} {tmps:Array cJ} {w:cM} {cs:Array cJ} {g p q:Nat} {t ty:gC} {d:TypeDesc}
theorem vF(h:fn.results=#[.cell p ty,.tmp q])(c:tmps.getD p fN=cQ g)(b:w.heap[g]? =cA (cN cs t (0,0)))(f:P.underlying ty=cA d)(a:(match d with|.struct _|.array _ _=>cP|_=>cV)=cP)(hi:(P.info? ty).map (·.size)=cA cs.size)(v:cJ)(hv:tmps.getD q fN=v):(results fn tmps).run P w=.ok (eA #[cY cs,v]) w:=by
 have e:tmps[p]?.getD fN=cQ g:=by simpa using c
 have i:tmps[q]?.getD fN=v:=by simpa using hv
 simp[results,h,e,i,asAddr,hG w g t ty cs (0,0) d b f a hi]
theorem zL{a:Nat}(h:fn.results=#[.cell p ty,.tmp q,.tmp a])(e:tmps.getD p fN=cQ g)(c:w.heap[g]? =cA (cN cs t (0,0)))(i:P.underlying ty=cA d)(b:(match d with|.struct _|.array _ _=>cP|_=>cV)=cP)(hi:(P.info? ty).map (·.size)=cA cs.size)(v:cJ)(hv:tmps.getD q fN=v)(v':cJ)(k:tmps.getD a fN=v'):(results fn tmps).run P w=.ok (eA #[cY cs,v,v']) w:=by
 have f:tmps[p]?.getD fN=cQ g:=by simpa using e
 have j:tmps[q]?.getD fN=v:=by simpa using hv
 have l:tmps[a]?.getD fN=v':=by simpa using k
 simp[results,h,f,j,l,asAddr,hG w g t ty cs (0,0) d c i b hi]
theorem abn(h:fn.results=#[.tmp q,.cell p ty])(c:tmps.getD p fN=cQ g)(b:w.heap[g]? =cA (cN cs t (0,0)))(f:P.underlying ty=cA d)(a:(match d with|.struct _|.array _ _=>cP|_=>cV)=cP)(hi:(P.info? ty).map (·.size)=cA cs.size)(v:cJ)(hv:tmps.getD q fN=v):(results fn tmps).run P w=.ok (eA #[v,cY cs]) w:=by
 have e:tmps[p]?.getD fN=cQ g:=by simpa using c
 have i:tmps[q]?.getD fN=v:=by simpa using hv
 simp[results,h,e,i,asAddr,hG w g t ty cs (0,0) d b f a hi]
end
open Go.RowKit L bO eO Srt
def mY(e:hR):List cJ:=[cE cD e.kind,cE cD e.id,cE cD e.n]
theorem amy(e:hR):(mY e).length=3:=rfl
theorem anc:(prog.info? 49).map (λi=>(i.zero,i.size,i.bytes))=cA (cA (cY #[(),(),()]),3,24):=by kernel_rfl
theorem eel:Elem mY 3:=⟨λ_=>rfl,λx u a=>by simp only[mY,bH,dL,or_false]at a;rcases a with rfl|rfl|rfl<;>rfl⟩
def kU(rb:Nat)(vr ve:cJ):Nat->Prop:=λi=>i=rb\/vr.ownBlock=cA i\/ve.ownBlock=cA i
structure mD (L:Nat) (wm w:World) (rb:Nat) (v1 v2 vh vp vr ve:Value) (s:Top.S) (rl:List Run) (x:Top.Rd):Prop where
 on:Below wm wm w
 cfg:bW wm (.agg #[v1,v2,s.c.aG,s.c.aJ]) s.c
 box:Blk w rb 91 #[v1,v2,s.c.aG,s.c.aJ,s.aQ,s.next,vp,vr,vh,ve,.bool x.head,x.start]
 low:(wm:Nat)<=rb
 ps:PSl w vp x.ps
 rs:jS w (wm:Nat) vr rl
 map:rl.map eD=x.rs
 ev:bL w wm 49 3 mY ve x.ev
 nr:vr.ownBlock≠some rb
 ne:ve.ownBlock≠some rb
 nre:∀b,vr.ownBlock=some b->ve.ownBlock≠some b
 fp:x.ps≠[]->∀b,vp.ownBlock=some b->¬kU rb vr ve b
 fh:∀y∈rl,y.aR≠[]->∀b,y.hv.ownBlock=some b->¬kU rb vr ve b
 lw:L<=(wm:Nat)
 lp:x.ps≠[]->∀b,vp.ownBlock=some b->L<=b
 lh:∀y∈rl,y.aR≠[]->∀b,y.hv.ownBlock=some b->L<=b
section
variable {wm w w':cM} {L rb:Nat} {v1 v2 vh vp vr ve:cJ} {s:hD} {rl:List Run} {x:fL}
theorem mG(rb k:Nat)(w:cM)(v:cJ):aL (λi=>i=rb) w (w.setCell (rb,k) v):=(eK (λi=>i=rb) w).setCell (p:=⟨rb,k,cC⟩) (.inl rfl) v
theorem yM{v:cJ}{ps:List cS}{F:Nat->Prop}(h:PSl w v ps)(a:aL F w w')(n:ps≠[]->∀b,v.ownBlock=cA b->¬F b):PSl w' v ps:=by obtain⟨A,cap,rfl,e,f,k,l⟩:=h;refine⟨A,cap,rfl,e,f,λd=>?_,l⟩;obtain⟨g,o,rfl,c,m⟩:=k d;exact⟨g,o,rfl,aM c a.size,λi y s j u r=>(a.cell (p:=⟨g,o+i*11+j,cC⟩) c (n d g rfl)).trans (m i y s j u r)⟩
theorem RY{v:cJ}{ps:List cS}(h:PSl w v ps)(d:ps≠[]):∃b,v.ownBlock=cA b/\b<(w:Nat):=by obtain⟨A,cap,rfl,e,f,a,i⟩:=h;obtain⟨g,o,rfl,c,j⟩:=a d;exact⟨g,rfl,c⟩
theorem nJ{F:Nat->Prop}{B:Nat}{v:cJ}(h:jS w B v rl)(d:aL F w w')(e:∀b,v.ownBlock=cA b->¬F b)(f:∀x∈rl,x.aR≠[]->∀b,x.hv.ownBlock=cA b->¬F b):jS w' B v rl:=
 ⟨h.1.bA λb c=>d.block b (h.1.lt b c).2 (e b c),λx a=>⟨tL (h.2 x a).1 d (f x a),(h.2 x a).2⟩⟩
theorem mD.dN(h:mD L wm w rb v1 v2 vh vp vr ve s rl x)(a:cF w w w'):mD L wm w' rb v1 v2 vh vp vr ve s rl x:=
 ⟨h.on.trans (a.mono h.on.size),h.cfg,Blk.below h.box a h.box.lt,h.low,pV h.ps a,h.rs.below a,h.map,h.ev.below a,h.nr,h.ne,h.nre,h.fp,h.fh,h.lw,h.lp,h.lh⟩
theorem mD.foot(h:mD L wm w rb v1 v2 vh vp vr ve s rl x):∀i,kU rb vr ve i->(wm:Nat)<=i:=λi hi=>by
 rcases hi with rfl|hi|hi
 .exact h.low
 .exact(h.rs.1.lt i hi).1
 .exact(h.ev.lt i hi).1
theorem mD.flt(h:mD L wm w rb v1 v2 vh vp vr ve s rl x):∀i,kU rb vr ve i->i<(w:Nat):=λi hi=>by
 rcases hi with rfl|hi|hi
 .exact h.box.lt
 .exact(h.rs.1.lt i hi).2
 .exact(h.ev.lt i hi).2
theorem mD.apl(h:mD L wm w rb v1 v2 vh vp vr ve s rl x){c:cJ}{qs:List cS}(l:PSl w c qs)(g:qs≠[]->∀b,c.ownBlock=cA b->¬kU rb vr ve b)(k:qs≠[]->∀b,c.ownBlock=cA b->L<=b):mD L wm (w.setCell (rb,6) c) rb v1 v2 vh c vr ve s rl {x with ps:=qs}/\aL (kU rb vr ve) w (w.setCell (rb,6) c):=by have d:aL (λi=>i=rb) w (w.setCell (rb,6) c):=mG _ _ _ _;have j:=hI h.box 6 c;refine⟨⟨h.on.setCell h.low _,h.cfg,j,h.low,yM l d λf b a e=>g f b a (.inl e),nJ h.rs d (λb a e=>h.nr (e▸a)) λy m f b a e=>h.fh y m f b a (.inl e),h.map,h.ev.bA λb a=>d.block b (h.ev.lt b a).2 λe=>h.ne (e▸a),h.nr,h.ne,h.nre,g,h.fh,h.lw,k,h.lh⟩,d.mono λi _ hi=>.inl hi⟩
theorem mD.aqV(h:mD L wm w rb v1 v2 vh vp vr ve s rl x)(t:Int):mD L wm (w.setCell (rb,11) t) rb v1 v2 vh vp vr ve s rl {x with start:=t}/\aL (kU rb vr ve) w (w.setCell (rb,11) t):=by have c:aL (λi=>i=rb) w (w.setCell (rb,11) t):=mG _ _ _ _;have f:=hI h.box 11 t;refine⟨⟨h.on.setCell h.low _,h.cfg,f,h.low,yM h.ps c λd b a e=>h.fp d b a (.inl e),nJ h.rs c (λb a e=>h.nr (e▸a)) λy g d b a e=>h.fh y g d b a (.inl e),h.map,h.ev.bA λb a=>c.block b (h.ev.lt b a).2 λe=>h.ne (e▸a),h.nr,h.ne,h.nre,h.fp,h.fh,h.lw,h.lp,h.lh⟩,c.mono λi _ hi=>.inl hi⟩
theorem mD.setH(h:mD L wm w rb v1 v2 vh vp vr ve s rl x)(t:Bool):mD L wm (w.setCell (rb,10) (cW t)) rb v1 v2 vh vp vr ve s rl {x with head:=t}/\aL (kU rb vr ve) w (w.setCell (rb,10) (cW t)):=by have c:aL (λi=>i=rb) w (w.setCell (rb,10) (cW t)):=mG _ _ _ _;have f:=hI h.box 10 (cW t);refine⟨⟨h.on.setCell h.low _,h.cfg,f,h.low,yM h.ps c λd b a e=>h.fp d b a (.inl e),nJ h.rs c (λb a e=>h.nr (e▸a)) λy g d b a e=>h.fh y g d b a (.inl e),h.map,h.ev.bA λb a=>c.block b (h.ev.lt b a).2 λe=>h.ne (e▸a),h.nr,h.ne,h.nre,h.fp,h.fh,h.lw,h.lp,h.lh⟩,c.mono λi _ hi=>.inl hi⟩
theorem mD.aqW(h:mD L wm w rb v1 v2 vh vp vr ve s rl x){f:cJ}{j:List Run}{qs:List eW}{B:Nat}(n:jS w B f j)(z:j.map eD=qs)(r:(wm:Nat)<=B)(o:∀b,kU rb vr ve b->b<B)(p:∀b,x.ps≠[]->vp.ownBlock=cA b->b<B)(m:∀y∈j,y.aR≠[]->∀b,y.hv.ownBlock=cA b->¬kU rb vr ve b)(v:∀y∈j,y.aR≠[]->∀b,y.hv.ownBlock=cA b->L<=b):mD L wm (w.setCell (rb,7) f) rb v1 v2 vh vp f ve s j {x with rs:=qs}/\aL (kU rb vr ve) w (w.setCell (rb,7) f):=by
 have k:aL (λi=>i=rb) w (w.setCell (rb,7) f):=mG _ _ _ _;have u:=hI h.box 7 f;have F:rb<B:=o rb (.inl rfl);have l:∀b,f.ownBlock=cA b->B<=b:=λb a=>(n.1.lt b a).1;have A:∀b,ve.ownBlock=cA b->b<B:=λb a=>o b (.inr (.inr a));refine⟨⟨h.on.setCell h.low _,h.cfg,u,h.low,yM h.ps k λd b a e=>h.fp d b a (.inl e),(nJ n k (λb a e=>by have:=l b a;omega) λy g d b a e=>m y g d b a (.inl e)).low r,z,h.ev.bA λb a=>k.block b (h.ev.lt b a).2 λe=>h.ne (e▸a),λe=>by have:=l _ e;omega,h.ne,λb a e=>by have:=l b a;have:=A b e;omega,λd b a c=>?_,λy g d b a c=>?_,h.lw,h.lp,v⟩,k.mono λi _ hi=>.inl hi⟩
 .rcases c with c|c|c
  .exact h.fp d b a (.inl c)
  .have:=l b c;have:=p b d a;omega
  .exact h.fp d b a (.inr (.inr c))
 .rcases c with c|c|c
  .exact m y g d b a (.inl c)
  .exact(n.2 y g).2 d b c a
  .exact m y g d b a (.inr (.inr c))
theorem mD.aqX(h:mD L wm w rb v1 v2 vh vp vr ve s rl x){l:cM}{g:cJ}{ev':List hR}(o:aL (λi=>ve.ownBlock=cA i) w l)(z:bL l wm 49 3 mY g ev')(n:∀b,g.ownBlock=cA b->ve.ownBlock=cA b\/(w:Nat)<=b):mD L wm (l.setCell (rb,9) g) rb v1 v2 vh vp vr g s rl {x with ev:=ev'}/\aL (kU rb vr ve) w (l.setCell (rb,9) g):=by
 have m:aL (λi=>i=rb\/ve.ownBlock=cA i) w (l.setCell (rb,9) g):=(o.mono λi _ hi=>.inr hi).setCell (.inl (.inl rfl)) _;have u:Blk l rb 91 _:=Blk.bA h.box o h.ne;have r:=hI u 9 g;have A:=h.box.lt;have p:g.ownBlock≠cA rb:=λe=>by
  rcases n _ e with e|e
  .exact h.ne e
  .omega
 refine⟨⟨h.on.trans (m.below h.on.size (λi hi=>by
   rcases hi with rfl|hi
   .exact h.low
   .exact(h.ev.lt i hi).1)),h.cfg,r,h.low,yM h.ps m λf b a e=>h.fp f b a (e.imp id .inr),nJ h.rs m (λb a e=>by
   rcases e with e|e
   .exact h.nr (e▸a)
   .exact h.nre b a e) λy k f b a e=>h.fh y k f b a (e.imp id .inr),h.map,
  z.bA λb a=>Below.heap_setCell _ _ _ _ (λe=>by have e:b=rb:=e;exact p (e▸a)),h.nr,p,λb a e=>?_,λf b a d=>?_,λy k f b a d=>?_,h.lw,h.lp,h.lh⟩,m.mono λi _ hi=>hi.imp id .inr⟩
 .rcases n _ e with e|e
  .exact h.nre b a e
  .have:=(h.rs.1.lt b a).2;omega
 .rcases d with d|d|d
  .exact h.fp f b a (.inl d)
  .exact h.fp f b a (.inr (.inl d))
  .rcases n _ d with e|e
   .exact h.fp f b a (.inr (.inr e))
   .obtain⟨c,j,v⟩:=RY h.ps f;rw[a]at j;injection j with j;omega
 .rcases d with d|d|d
  .exact h.fh y k f b a (.inl d)
  .exact h.fh y k f b a (.inr (.inl d))
  .rcases n _ d with e|e
   .exact h.fh y k f b a (.inr (.inr e))
   .obtain⟨c,j,v⟩:=zJ (h.rs.2 y k).1 f;rw[a]at j;injection j with j;omega
theorem mD.aqF(h:mD L wm w rb v1 v2 vh vp vr ve s rl x){j:cM}{g:cJ}{k:List Run}{rs':List eW}(u:aL (λi=>vr.ownBlock=cA i) w j)(z:jS j (wm:Nat) g k)(M:k.map eD=rs')(o:∀b,g.ownBlock=cA b->vr.ownBlock=cA b\/(w:Nat)<=b)(r:∀y∈k,y.aR≠[]->∀b,y.hv.ownBlock=cA b->b≠rb/\ve.ownBlock≠cA b)(K:∀y∈k,y.aR≠[]->∀b,y.hv.ownBlock=cA b->L<=b):mD L wm (j.setCell (rb,7) g) rb v1 v2 vh vp g ve s k {x with rs:=rs'}/\aL (kU rb vr ve) w (j.setCell (rb,7) g):=by
 have l:aL (λi=>i=rb\/vr.ownBlock=cA i) w (j.setCell (rb,7) g):=(u.mono λi _ hi=>.inr hi).setCell (.inl (.inl rfl)) _;have I:Blk j rb 91 _:=Blk.bA h.box u h.nr;have H:=hI I 7 g;have O:=h.box.lt;have v:g.ownBlock≠cA rb:=λe=>by
  rcases o _ e with e|e
  .exact h.nr e
  .omega
 have J:aL (λi=>i=rb) j (j.setCell (rb,7) g):=mG _ _ _ _;refine⟨⟨h.on.trans (l.below h.on.size (λi hi=>by
   rcases hi with rfl|hi
   .exact h.low
   .exact(h.rs.1.lt i hi).1)),h.cfg,H,h.low,yM h.ps l λf b a e=>h.fp f b a (e.imp id .inl),nJ z J (λb a e=>v (e▸a)) λy m f b a e=>(r y m f b a).1 e,M,
  h.ev.bA (λb a=>l.block b (h.ev.lt b a).2 (λe=>by
   rcases e with e|e
   .exact h.ne (e▸a)
   .exact h.nre b e a)),v,h.ne,λb a e=>?_,λf b a d=>?_,λy m f b a d=>?_,h.lw,h.lp,K⟩,l.mono λi _ hi=>hi.imp id .inl⟩
 .rcases o _ a with p|p
  .exact h.nre b p e
  .have:=(h.ev.lt b e).2;omega
 .rcases d with d|d|d
  .exact h.fp f b a (.inl d)
  .rcases o _ d with e|e
   .exact h.fp f b a (.inr (.inl e))
   .obtain⟨c,n,N⟩:=RY h.ps f;rw[a]at n;injection n with n;omega
  .exact h.fp f b a (.inr (.inr d))
 .obtain⟨A,F⟩:=r y m f b a;rcases d with d|d|d
  .exact A d
  .exact(z.2 y m).2 f b d a
  .exact F d
end
end bT
variable{x:cJ}
variable{b1 b2 b3:Nat}
variable{a:Act}{cs:Array cJ}{Q:Exit->Act->cM->Prop}{cap i j:Nat}{v':cJ}
variable{l:Nat}
variable{W:cM}
variable{id:Int}{ev:List hR}{X:cJ}{wr:cM}
namespace bT
open Go.RowKit L bO eO Srt
def oG(L:Nat)(wm w:cM)(rb:Nat)(v1 v2 vh vr ve:cJ)(s:hD)(y:fL)(w':cM):Prop:=∃vp' vr' ve' rl',mD L wm w' rb v1 v2 vh vp' vr' ve' s rl' y/\aL (kU rb vr ve) w w'/\∀i,kU rb vr' ve' i->kU rb vr ve i\/(w:Nat)<=i
theorem oG.after{f:cM}{L a:Nat}{e b:cJ}{y:fL}(d:aL (kU a vr b) w w1)(c:∀i,kU a v x i->kU a vr b i\/(w:Nat)<=i)(h:oG L f w1 a v1 v2 e v x s y w'):oG L f w a v1 v2 e vr b s y w':=by
 obtain⟨o,p,n,m,g,j,k⟩:=h;refine⟨o,p,n,m,g,d.trans' j λi hi l=>?_,λi hi=>?_⟩
 .rcases c i l with h|h
  .exact h
  .omega
 .rcases k i hi with h|h
  .exact c i h
  .exact .inr (bC d.size h)
theorem HV{Y:cM}{L d:Nat}{I a:cJ}{x:fL}(h:mD L Y w d v1 v2 I vp vr a s rl x)(ak:x.ev.length<=1000000)(kind id n:Int):cT cI 87 #[cQ d,kind,id,n] w λe w'=>e=cH (eA #[])/\∃f,mD L Y w' d v1 v2 I vp vr f s rl {x with ev:=x.ev++[⟨kind,id,n⟩]}/\aL (kU d vr a) w w'/\∀b,f.ownBlock=cA b->a.ownBlock=cA b\/(w:Nat)<=b:=by
 obtain⟨i0,M,T,W,X⟩:=eJ anc;obtain⟨ap,l⟩:=nZ (w.alloc (cN #[kind,id,n] 49));have j:=aB l;have Z:=aX l;have ae:=h.on.size;have ad:=j.size;have N:=qA (k:=3) (dec:=mY) (x:=(⟨kind,id,n⟩:hR)) Z rfl;obtain⟨f,o,e1,e2,e3,e4,J⟩:=lF (P:=cI) 45 45 i0 _ 24 underlying45 M T W X rfl oZ (λ_=>rfl) (ys:=[(⟨kind,id,n⟩:hR)]) (m:=1) (c:=1)
  (λu z=>by obtain⟨y,al,z⟩:=jC.1 z;exact eel.one y u z) (h.ev.below j) rfl N oZ (by unfold eR;omega) oZ
 have H:aL (λi=>a.ownBlock=cA i) w o:=(ix j).trans' (je (F:=λi=>a.ownBlock=cA i) e3 λi hi=>hi) (λi _ hi=>hi);have r:Blk o d 91 #[v1,v2,s.c.aG,s.c.aJ,s.aQ,s.next,vp,vr,I,a,cW x.head,x.start]:=h.box.bA H h.ne;have v:∀b,f.ownBlock=cA b->a.ownBlock=cA b\/(w:Nat)<=b:=λb ab=>by
  rcases J b ab with K|K
  .exact .inl K
  .exact .inr oZ
 obtain⟨O,Q⟩:=h.aqX H e2 v;have p:=qZ (aC O (aC Q v));have ao:(w.alloc (cN #[kind,id,n] 49)).cell? (d,9)=cA a:=by rw[l];exact(h.box.below j h.box.lt).cell 9
 have c9:CV w d 9 a:=h.box.cell 9;have an:CV o d 9 a:=r.cell 9;have aj:o.frozen? (d,9)=cV:=r.frozen 9;rw[<-l]at e1;have aa:=qZ e1;have af:a.oneCell'=cP:=by rcases h.ev.form with⟨e,_⟩|⟨g,cap,e,_⟩<;>rw[e]<;>rfl
 have ag:f.oneCell'=cP:=by rcases e2.form with⟨e,_⟩|⟨g,cap,e,_⟩<;>rw[e]<;>rfl
 obtain⟨A,m,cap,rfl⟩:∃A m cap,a=ac A m cap:=by rcases h.ev.form with⟨e,_⟩|⟨g,cap,e,_⟩<;>exact⟨_,_,_,e⟩
 obtain⟨ah,am,ai,rfl⟩:∃A m cap,f=ac A m cap:=by rcases e2.form with⟨e,_⟩|⟨g,cap,e,_⟩<;>exact⟨_,_,_,e⟩
 clear v r O Q H e2 e3 e4 J N Z j l ad ae h M T W X e1 af ag;go_enter func87,ntmps87;go_wp2_with(at_builtin;refine cK rfl (.tmp 12) (.tmp 17) _ _ rfl (ac A m cap) (ac w 1 1) rfl rfl aa ?_)
 go_end0
 exact⟨rfl,_,p.1,p.2.1,p.2.2⟩
def acQ(o:Option Int)(w1:cM)(e:eS)(w':cM):Prop:=e=cH (eA #[(o.getD 0:Int),cW o.isSome])/\cF w1 w1 w'
theorem at_len(rs:List eW)(t:Int):(hP rs t).length<=rs.length:=eG _ _
theorem aaX(c:Cfg.C)(rs:List eW)(p:cS)(t:Int)(ts:List Int):rR c rs p (t::ts)=if(cX c (hP rs t) p).isSome then cA t else rR c rs p ts:=by show(match cX c (hP rs t) p with|some _=>cA t|none=>rR c rs p ts)=_;cases cX c (hP rs t) p<;>rfl
theorem abT(n:Int):∀l:List Int,(vZ n l).length=l.length+1
 |[]=>rfl
 |x::t=>by
  unfold vZ;split
  .rfl
  .rw[hB,abT n t,hB]
theorem XH:∀l:List Int,(zU l).length=l.length
 |[]=>rfl
 |x::t=>by show(vZ x (zU t)).length=_;rw[abT,XH t,hB]
theorem TS(aQ:Int):∀(rs:List eW) (l:List Int),(rs.foldl (λl r=>if decide (aQ<kF r)&& !(l.contains (kF r))then l++[kF r]else l) l).length<=l.length+rs.length
 |[],l=>sZ
 |r::rs,l=>by rw[List.foldl_cons];refine bC (TS aQ rs _) ?_;split<;>simp<;>omega
theorem amv(rs:List eW)(aQ:Int):(iu rs aQ).length<=rs.length:=by unfold iu;rw[XH];have:=TS aQ rs [];simpa[rF]using this
theorem aiJ{j:cJ}(a:bW w j c)(u:zD c)(p:cS)(v:zS p)(y:EL p):fV cI w 107 #[j,dV p] (cW (iz c p)):=by
 intro w1 o;replace a:=a.below o;have d:=qZ (λW (h:cF w1 w1 W)=>IL (vr:=ac cC 0 0) (rl:=[]) (a.below h) ⟨cC,0,rfl,λh=>absurd rfl h,by simp[eR],λx h=>by cases h⟩ u p v y W (aK _ _));obtain⟨v1,v2,rfl,⟨A,ca,rfl,M,K⟩,⟨B,n,rfl,N,L⟩⟩:=a;obtain⟨R,b⟩:=nZ (cX c [] p);rw[show iz c p=R.isNone by rw[<-b];rfl];simp only[fQ,b]at d;generalize c.aN.length=NN at*;generalize c.aR.length=NH at*;generalize c.aG=aG at*;generalize c.aJ=aJ at*;obtain⟨z,p1,I,⟨n0,n1,n2⟩,p6,F,H,T,Q⟩:=p;simp only[dV,gK]at*;obtain⟨k,i⟩:=nQ ((w1.alloc (cN #[ac A NN ca,ac B NH n,aG,aJ] 26)).alloc (cN #[z,p1,I,n0,n1,n2,p6,F,H] 42));have s:cF w1 w1 k:=by rw[<-i.out];exact kp
 have f:=qZ s;obtain⟨J,g⟩:=nQ R.isSome;have m:=qY (R.isNone= !J) (by rw[<-g.out];cases R<;>rfl);clear b;go_enter func107,ntmps107;go_wp2_with fail;rw[i.out];refine(d k f).mono ?_;rintro e X⟨v',rfl,O,r⟩;rw[g.out];have l:=qZ (aA f r);go_wp2_with fail;go_ret;exact⟨by rw[m.out];rfl,l⟩
theorem ahC{bt:cJ}(n:bW w bt c)(ad:Runs w vr rl)(bn:zD c)(au:Many rl)(aQ:Int)(p:cS)(bp:zS p)(bq:EL p):∀w1,cF w w w1->cT cI 86 #[bt,aQ,vr,dV p] w1 λe w'=>acQ (io c aQ (rl.map eD) p) w1 e w':=by
 intro w1 bb;replace n:=n.below bb;replace ad:=ad.below bb;have am:=qZ (λW (h:cF w1 w1 W)=>amw ad au aQ W h);have aw:=qZ (λt W (h:cF w1 w1 W)=>BS ad au t W h);have an:=qZ (λW cm (x:List Run) (h:cF w1 w1 W) (ch:Runs W cm x)=>IL (n.below h) ch bn p bp bq W (aK _ _));have ap:=qZ (amv (rl.map eD) aQ);have ao:=qZ (λt=>at_len (rl.map eD) t);have cu:=au.len;have ay:=qZ (λt ts=>aaX c (rl.map eD) p t ts);obtain⟨v1,v2,rfl,⟨A,ca,rfl,ci,cb⟩,⟨B,Q,rfl,cj,cc⟩⟩:=n;obtain⟨F,cf,rfl,ck,ce,b9⟩:=ad;obtain⟨R,a9⟩:=nZ (io c aQ (rl.map eD) p);have ba:=a9;unfold io at ba;have aq:=qZ ba;rw[a9];rw[bP]at ap ao;obtain⟨g,bk⟩:=nZ (rl.map eD);rw[bk]at am aw aq ap ao ay;obtain⟨j,bh⟩:=nZ (iu g aQ);rw[bh]at aq am ap;generalize c.aN.length=NN at*;generalize c.aR.length=NH at*;generalize c.aG=aG at*;generalize c.aJ=aJ at*;generalize rl.length=NR at*;obtain⟨P,bj⟩:=nZ p;have bg:=qZ bj;obtain⟨ag,p1,aj,⟨n0,n1,n2⟩,p6,ah,ai,cx,cw⟩:=p;simp only[dV,gK]at*;replace an:Hid _:=qZ (by have h:=an.out;simp only[bg.out]at h;exact h);rw[bg.out]at aq ay;obtain⟨N,bi⟩:=nZ j.length;have K:=qZ bi;have ct:N<=1000:=by have:=ap.out;omega
 obtain⟨al,af⟩:=nZ ((w1.alloc (cN #[ac A NN ca,ac B NH Q,aG,aJ] 26)).alloc (cN #[ag,p1,aj,n0,n1,n2,p6,ah,ai] 42));have bu:Blk al ((w1:Nat)+1) 42 #[ag,p1,aj,n0,n1,n2,p6,ah,ai]:=by rw[<-af];have h:=Blk.new (w1.alloc (cN #[ac A NN ca,ac B NH Q,aG,aJ] 26)) 42 #[ag,p1,aj,n0,n1,n2,p6,ah,ai];simp only[aT]at h;exact h
 have bv:Blk al w1 26 #[ac A NN ca,ac B NH Q,aG,aJ]:=by rw[<-af];exact hH (Blk.new _ _ _) _
 have bm:cF w1 w1 al:=by rw[<-af];exact kp
 have a:=qZ (aC bu bv);have l:=qZ bm;have bz:=qZ af;clear af bu bv bm ci cj cb cc ck ce b9 a9 ba bk bh bi bn bp bq bb bj au;go_enter func86,ntmps86;go_wp2_with fail;rw[bz.out];refine(am _ l).mono ?_;rintro e z⟨cy,rfl,cl,bl⟩;obtain⟨E,cn,rfl,br,cd⟩:=cl;rw[K.out];have bw:=qZ br;have be:=qZ bl;clear br cd bl am;go_wp2_with fail;go_loopg[22] (N+1) (λa5 v22 wr=>∃k:Nat,v22=cE cD k/\k<=N+1/\N+1<=a5+k/\Hid (rR c g P ((aQ::j).drop k)=R)/\Hid (cF z z wr));exact⟨0,mZ,oZ,oZ,qZ (by rw[bB];exact aq),qZ (aK _ _)⟩
 obtain⟨k,rfl,cp,co,O,I⟩:=hrel;by_cases cr:k<N+1
 .have cg:(k:Int)<(N:Int)+1:=oZ;obtain⟨t,av⟩:=nZ ((aQ::j)[k]'(by simp;have:=K.out;omega));have m:Hid (rR c g P ((aQ::j).drop k)=if(cX c (hP g t) P).isSome then cA t else rR c g P ((aQ::j).drop (k+1))):=qZ (by rw[cZ (show k<(aQ::j).length by simp;have:=K.out;omega),av,ay.out]);have bs:cF al al wr:=aA be I;have f:=qZ bs;have ar:Hid ((k=0/\t=aQ)\/(0<k/\∃b o,E=cA ⟨b,o,cC⟩/\wr.cell? ⟨b,o+(k-1),cC⟩=cA (cE cD t))):=qZ (by
   by_cases a8:k=0
   .subst a8;exact .inl ⟨rfl,av.symm⟩
   .refine .inr ⟨oZ,?_⟩;obtain⟨b,o,e,cs,n⟩:=qR bw (k:=k-1) (by have:=K.out;omega);refine⟨b,o,e,?_⟩;rw[n wr I.out,<-av];congr 2;rw[List.getElem_cons];simp[a8])
  clear av bs;by_cases a8:0<k
  .rcases ar.out with⟨T,_⟩|⟨_,b,o,rfl,n⟩
   .omega
   .have cv:(k:Int)-1=((k-1:Nat):Int):=oZ;have cq:k-1<N:=oZ;have b8:(0:Int)<(k:Int):=oZ;clear ar;go_wp2_with fail;refine jB (aD wr) (.take 0 (.take 1 (.take 2 (.take 4 (.one 3 (.one 5 (.take 6 (.take 7 (.take 8 (.take 9 (.take 10 (.take 11 (.take 12 .done))))))))))))) kZ kZ (cR wr) ?_;have a0:∀W,aD wr W->W.cell? (w1,0)=cA (ac A NN ca):=λW d=>(Blk.below a.2 (aA f d) a.2.lt).cell 0;have c1:∀W,aD wr W->W.cell? (w1,1)=cA (ac B NH Q):=λW d=>(Blk.below a.2 (aA f d) a.2.lt).cell 1;have c2:∀W,aD wr W->W.cell? (w1,2)=cA (cE cD aG):=λW d=>(Blk.below a.2 (aA f d) a.2.lt).cell 2;have c3:∀W,aD wr W->W.cell? (w1,3)=cA (cE cD aJ):=λW d=>(Blk.below a.2 (aA f d) a.2.lt).cell 3;have b0:∀W,aD wr W->W.cell? ((w1:Nat)+1,0)=cA (cE cD ag):=λW d=>(Blk.below a.1 (aA f d) a.1.lt).cell 0;have a5:∀W,aD wr W->W.cell? ((w1:Nat)+1,1)=cA (cE cD p1):=λW d=>(Blk.below a.1 (aA f d) a.1.lt).cell 1;have b1:∀W,aD wr W->W.cell? ((w1:Nat)+1,2)=cA (cE cD aj):=λW d=>(Blk.below a.1 (aA f d) a.1.lt).cell 2;have b2:∀W,aD wr W->W.cell? ((w1:Nat)+1,3)=cA (cE cD n0):=λW d=>(Blk.below a.1 (aA f d) a.1.lt).cell 3;have b3:∀W,aD wr W->W.cell? ((w1:Nat)+1,4)=cA (cE cD n1):=λW d=>(Blk.below a.1 (aA f d) a.1.lt).cell 4;have b4:∀W,aD wr W->W.cell? ((w1:Nat)+1,5)=cA (cE cD n2):=λW d=>(Blk.below a.1 (aA f d) a.1.lt).cell 5;have b5:∀W,aD wr W->W.cell? ((w1:Nat)+1,6)=cA (cE cD p6):=λW d=>(Blk.below a.1 (aA f d) a.1.lt).cell 6;have b6:∀W,aD wr W->W.cell? ((w1:Nat)+1,7)=cA (cE cD ah):=λW d=>(Blk.below a.1 (aA f d) a.1.lt).cell 7;have b7:∀W,aD wr W->W.cell? ((w1:Nat)+1,8)=cA (cE cD ai):=λW d=>(Blk.below a.1 (aA f d) a.1.lt).cell 8;(iterate 4 refine tT ?_);clear a0 c1 c2 c3 b0 a5 b1 b2 b3 b4 b5 b6 b7;refine dQ ?_;refine tC ?_;refine(aw t _ (aA l (aA f (cR wr)))).mono ?_;rintro e ak⟨va,x,rfl,ae,s,Y⟩;have i:aD wr ak:=aA (cR wr) Y;refine⟨va,rfl,i,?_⟩;refine dQ ?_;refine tC ?_;have ab:x.length<=1000000:=by have T:=ao.out t;rw[<-s,bP]at T;omega
    refine(an ak va x (aA l (aA f i)) (ae.runs ab)).mono ?_;rw[s];rintro e y⟨v',rfl,bc,Z⟩;have r:aD wr y:=aA i Z;refine⟨_,rfl,r,?_⟩;have M:=qZ r;obtain⟨H,X⟩:=nZ (cX c (hP g t) P);rw[X]at m⊢;obtain⟨fl,aa⟩:=nZ ((hM (·.1) H).getD 0);obtain⟨bd,u⟩:=nZ H.isSome;rw[aa,u];rw[u]at m;clear bc Z r ae Y i X aa u s ab;(iterate 7 refine tT ?_);refine fA ?_;have ax:=qY (cF z z y) (aA I M);have J:=qY (cF w1 w1 y) (aA l (aA f M));cases bd
    .have az:=qY (rR c g P ((aQ::j).drop (k+1))=R) (by have h:=m.out;rw[O.out]at h;simpa using h.symm);go_wp2_with fail;go_roundg(N+1-(k+1));exact⟨k+1,mZ,oZ,oZ,az,ax⟩;omega
    .have L:=qY (R=cA t) (by have h:=m.out;rw[O.out]at h;simpa using h);go_wp2_with fail;refine eV (v:=eA #[t,cW cP]) (by simp[results,Tryz.results86,go_sem]) rfl ?_;rw[L.out];exact⟨rfl,J⟩
  .rcases ar.out with⟨_,bo⟩|⟨T,_⟩
   .have b8:¬(0:Int)<(k:Int):=oZ;have bf:=qZ bo.symm;clear ar bo;go_wp2_with fail;rw[bf.out];refine jB (aD wr) (.take 0 (.take 1 (.take 2 (.take 4 (.one 3 (.one 5 (.take 6 (.take 7 (.take 8 (.take 9 (.take 10 (.take 11 (.take 12 .done))))))))))))) kZ kZ (cR wr) ?_;have a0:∀W,aD wr W->W.cell? (w1,0)=cA (ac A NN ca)/\W.cell? (w1,1)=cA (ac B NH Q)/\W.cell? (w1,2)=cA (cE cD aG)/\W.cell? (w1,3)=cA (cE cD aJ)/\W.cell? ((w1:Nat)+1,0)=cA (cE cD ag)/\W.cell? ((w1:Nat)+1,1)=cA (cE cD p1)/\W.cell? ((w1:Nat)+1,2)=cA (cE cD aj)/\W.cell? ((w1:Nat)+1,3)=cA (cE cD n0)/\W.cell? ((w1:Nat)+1,4)=cA (cE cD n1)/\W.cell? ((w1:Nat)+1,5)=cA (cE cD n2)/\W.cell? ((w1:Nat)+1,6)=cA (cE cD p6)/\W.cell? ((w1:Nat)+1,7)=cA (cE cD ah)/\W.cell? ((w1:Nat)+1,8)=cA (cE cD ai):=λW d=>⟨(Blk.below a.2 (aA f d) a.2.lt).cell 0,(Blk.below a.2 (aA f d) a.2.lt).cell 1,(Blk.below a.2 (aA f d) a.2.lt).cell 2,(Blk.below a.2 (aA f d) a.2.lt).cell 3,(Blk.below a.1 (aA f d) a.1.lt).cell 0,(Blk.below a.1 (aA f d) a.1.lt).cell 1,(Blk.below a.1 (aA f d) a.1.lt).cell 2,(Blk.below a.1 (aA f d) a.1.lt).cell 3,(Blk.below a.1 (aA f d) a.1.lt).cell 4,(Blk.below a.1 (aA f d) a.1.lt).cell 5,(Blk.below a.1 (aA f d) a.1.lt).cell 6,(Blk.below a.1 (aA f d) a.1.lt).cell 7,(Blk.below a.1 (aA f d) a.1.lt).cell 8⟩;(iterate 4 refine tT ?_);clear a0;refine dQ ?_;refine tC ?_;refine(aw t _ (aA l (aA f (cR wr)))).mono ?_;rintro e ak⟨va,x,rfl,ae,s,Y⟩;have i:aD wr ak:=aA (cR wr) Y;refine⟨va,rfl,i,?_⟩;refine dQ ?_;refine tC ?_;have ab:x.length<=1000000:=by have T:=ao.out t;rw[<-s,bP]at T;omega
    refine(an ak va x (aA l (aA f i)) (ae.runs ab)).mono ?_;rw[s];rintro e y⟨v',rfl,bc,Z⟩;have r:aD wr y:=aA i Z;refine⟨_,rfl,r,?_⟩;have M:=qZ r;obtain⟨H,X⟩:=nZ (cX c (hP g t) P);rw[X]at m⊢;obtain⟨fl,aa⟩:=nZ ((hM (·.1) H).getD 0);obtain⟨bd,u⟩:=nZ H.isSome;rw[aa,u];rw[u]at m;clear bc Z r ae Y i X aa u s ab;(iterate 7 refine tT ?_);refine fA ?_;have ax:=qY (cF z z y) (aA I M);have J:=qY (cF w1 w1 y) (aA l (aA f M));cases bd
    .have az:=qY (rR c g P ((aQ::j).drop (k+1))=R) (by have h:=m.out;rw[O.out]at h;simpa using h.symm);go_wp2_with fail;rw[<-bf.out];go_roundg(N+1-(k+1));exact⟨k+1,by rw[show k=0 by omega];rfl,oZ,oZ,az,ax⟩;omega
    .have L:=qY (R=cA t) (by have h:=m.out;rw[O.out]at h;simpa using h);go_wp2_with fail;refine eV (v:=eA #[t,cW cP]) (by simp[results,Tryz.results86,go_sem]) rfl ?_;rw[L.out];exact⟨rfl,J⟩
   .omega
 .have cg:¬(k:Int)<(N:Int)+1:=oZ;have L:=qY (R=cC) (by have h:=O.out;rw[iG (by simp;have:=K.out;omega)]at h;exact h.symm);have J:=qY (cF w1 w1 wr) (aA l (aA be I));go_wp2_with fail;refine eV (v:=eA #[(),cW cV]) (by simp[results,Tryz.results86,go_sem]) rfl ?_;rw[L.out];exact⟨rfl,J⟩
structure zF (w:World) (b1 b2 b3:Nat) (vc vr:Value) (p:Ord.P):Prop where
 cfg:∃v1 v2 h a,vc=.agg #[v1,v2,.int .i64 h,.int .i64 a]/\Blk w b1 26 #[v1,v2,.int .i64 h,.int .i64 a]
 row:Blk w b2 28 #[vr]
 dV:Blk w b3 42 (gK p)
theorem zF.on{g:cJ}(h:zF w b1 b2 b3 g vr p)(b:cF w w w'):zF w' b1 b2 b3 g vr p:=by obtain⟨⟨v1,v2,x,a,e,c⟩,f,d⟩:=h;exact⟨⟨v1,v2,x,a,e,c.below b c.lt⟩,f.below b f.lt,d.below b d.lt⟩
theorem DX(rs:List eW)(cB:List Int):(dH rs cB).length<=rs.length:=eG _ _
theorem ajO{J:cJ}{cB:List Int}(m:zF w b1 b2 b3 J vr p)(g:bW w J c)(i:Runs w vr rl)(ae:zD c)(H:Many rl)(hi:ISl w v cB)(ab:cB.length<=1000000)(af:zS p)(ag:EL p):∀w1,cF w w w1->cT cI 140 #[v,cQ b1,cQ b2,cQ b3] w1 λe w'=>e=cH (cW (cX c (dH (rl.map eD) cB) p).isSome)/\cF w1 w1 w':=by
 intro w1 f;replace m:=m.on f;replace g:=g.below f;replace i:=i.below f;replace hi:=hi.below f;have o:=qZ (λW (h:cF w1 w1 W)=>MZ i H hi ab W h);have N:=qZ (λW an (j:List Run) (h:cF w1 w1 W) (ah:Runs W an j)=>IL (g.below h) ah ae p af ag W (aK _ _));have k:=qZ (DX (rl.map eD) cB);have a8:=H.len;rw[bP]at k;obtain⟨⟨v1,v2,aG,aJ,rfl,xc⟩,M,L⟩:=m;obtain⟨u1,u2,e,⟨A,ca,rfl,ay,au⟩,⟨B,u,rfl,az,av⟩⟩:=g;obtain⟨rfl,rfl,rfl,rfl⟩:v1=ac A c.aN.length ca/\v2=ac B c.aR.length u/\aG=c.aG/\aJ=c.aJ:=by simp at e;exact e
 obtain⟨F,cf,rfl,a0,aw,ar⟩:=i;obtain⟨I,aq,rfl,a5,ax⟩:=hi;obtain⟨X,x⟩:=nZ (dH (rl.map eD) cB);rw[x]at o k⊢;obtain⟨n,r⟩:=nQ (cX c X p);rw[r.out];generalize c.aN.length=NN at*;generalize c.aR.length=NH at*;generalize c.aG=aG at*;generalize c.aJ=aJ at*;generalize rl.length=NR at*;generalize cB.length=NI at*;have d:=qZ (λW (a:aD w1 W)=>Blk.below xc a xc.lt);have Q:=qZ (λW (a:aD w1 W)=>Blk.below M a M.lt);have b:=qZ (λW (a:aD w1 W)=>Blk.below L a L.lt);obtain⟨aj,p1,am,⟨n0,n1,n2⟩,p6,ak,al,bb,ba⟩:=p;simp only[dV,gK]at*;clear x;go_enter func140,ntmps140;go_wp2_with fail;refine jB (aD w1) (.take 0 (.take 1 (.take 2 (.take 4 (.one 3 (.one 5 (.take 6 (.take 7 (.take 8 (.take 9 (.take 10 (.take 11 (.take 12 .done))))))))))))) kZ kZ (cR w1) ?_;have ap:∀W,aD w1 W->CV W b1 0 (ac A NN ca)/\CV W b1 1 (ac B NH u)/\CI W b1 2 aG/\CI W b1 3 aJ/\CV W b2 0 (ac F NR cf)/\CI W b3 0 aj/\CI W b3 1 p1/\CI W b3 2 am/\CI W b3 3 n0/\CI W b3 4 n1/\CI W b3 5 n2/\CI W b3 6 p6/\CI W b3 7 ak/\CI W b3 8 al:=λW a=>⟨(d W a).cell 0,(d W a).cell 1,(d W a).cell 2,(d W a).cell 3,(Q W a).cell 0,(b W a).cell 0,(b W a).cell 1,(b W a).cell 2,(b W a).cell 3,(b W a).cell 4,(b W a).cell 5,(b W a).cell 6,(b W a).cell 7,(b W a).cell 8⟩;(iterate 4 refine tT ?_);refine dQ ?_;refine tC ?_;refine(o _ (cR w1)).mono ?_;rintro e K⟨va,j,rfl,ai,z,Z⟩;have l:aD w1 K:=aA (cR w1) Z;refine⟨va,rfl,l,?_⟩;refine dQ ?_;refine tC ?_;have ad:j.length<=1000000:=by have Y:=k.out;rw[<-z,bP]at Y;omega
 refine(N K va j l (ai.runs ad)).mono ?_;rw[z,r.out];rintro e ao⟨v',rfl,a9,aa⟩;have y:aD w1 ao:=aA l aa;refine⟨_,rfl,y,?_⟩;have O:=qZ y;obtain⟨fl,T⟩:=nQ ((hM (·.1) n).getD 0);obtain⟨bc,s⟩:=nQ n.isSome;rw[T.out,s.out];(iterate 7 refine tT ?_);refine fA ?_;go_wp2_with fail;go_ret;exact⟨by rw[s.out];rfl,O⟩
structure WW (w:World) (b1 b2:Nat) (vc vu:Value):Prop where
 cfg:∃v1 v2 h a,vc=.agg #[v1,v2,.int .i64 h,.int .i64 a]/\Blk w b1 26 #[v1,v2,.int .i64 h,.int .i64 a]
 use:Blk w b2 51 #[vu]
theorem WW.on{f g:cJ}(h:WW w b1 b2 f g)(b:cF w w w'):WW w' b1 b2 f g:=by obtain⟨⟨v1,v2,x,a,e,c⟩,d⟩:=h;exact⟨⟨v1,v2,x,a,e,c.below b c.lt⟩,d.below b d.lt⟩
theorem acA{F H:cJ}{o:List Vec.V}(v:WW w b1 b2 F H)(m:bW w F c)(n:VSl w H o)(x:Run):∀w1,cF w w w1->cT cI 143 #[pU x,cQ b1,cQ b2] w1 λe w'=>e=cH (cW (kW c o x.dI))/\cF w1 w1 w':=by
 intro w1 s;replace v:=v.on s;replace m:=m.below s;replace n:=n.below s;have J:=qZ (adT m n x.dI);obtain⟨⟨v1,v2,aG,aJ,rfl,xc⟩,I⟩:=v;obtain⟨u1,u2,e,⟨A,ca,rfl,Z,W⟩,⟨B,z,rfl,aa,X⟩⟩:=m;obtain⟨rfl,rfl,rfl,rfl⟩:v1=ac A c.aN.length ca/\v2=ac B c.aR.length z/\aG=c.aG/\aJ=c.aJ:=by simp at e;exact e
 obtain⟨U,N,rfl,ab,Y⟩:=n;obtain⟨a,r,M,⟨d,e1,f⟩,g,h,i,j,Q,st,l,aR,hv⟩:=x;simp only[pU,qW]at*;generalize kW c o r=q at*;generalize c.aN.length=NN at*;generalize c.aR.length=NH at*;generalize c.aG=aG at*;generalize c.aJ=aJ at*;generalize o.length=NU at*;obtain⟨b,k⟩:=nQ (w1.alloc (cN #[a,r,M,d,e1,f,g,h,i,j,Q,st,l,hv] 86));have u:=aB k;have p:=Blk.below xc u xc.lt;have T:=Blk.below I u I.lt;have L:CV b b1 0 (ac A NN ca):=p.cell 0;have c1:CV b b1 1 (ac B NH z):=p.cell 1;have c2:CI b b1 2 aG:=p.cell 2;have c3:CI b b1 3 aJ:=p.cell 3;have c4:CV b b2 0 (ac U NU N):=T.cell 0;have c5:b.cell? (w1,1)=cA (cE cD r):=by rw[<-k.out];exact(Blk.new _ _ _).cell 1
 have y:=qZ u;rw[<-k.out]at L c1 c2 c3 c4 c5;go_enter func143,ntmps143;go_wp2_with fail;rw[k.out];refine(J b y).mono ?_;rintro e ad⟨rfl,O⟩;have K:=qZ (aA y O);go_wp2_with fail;go_ret;exact⟨rfl,K⟩
theorem WE{α:Type}(p:α->Bool)(l:List α)(h:k<l.length)(a:(l.take k).find? p=cC)(b:p l[k]=cP):l.find? p=cA l[k]:=by
 conv=>lhs;rw[<-gX k l]
 rw[List.find?_append,a,cZ h,dC,b];rfl
theorem DI{α:Type}(p:α->Bool)(l:List α)(h:k<l.length)(a:(l.take k).find? p=cC)(b:p l[k]=cV):(l.take (k+1)).find? p=cC:=by rw[bE h,List.find?_append,a,dC,b];rfl
def First(p:Run->Bool)(rl:List Run)(w:cM)(e:eS)(w':cM):Prop:=(e=cH (cE cD (-1))/\rl.find? p=cC\/∃(k:Nat) (h:k<rl.length),e=cH k/\rl.find? p=cA rl[k])/\cF w w w'
theorem agI{aa ab:cJ}{r:List Vec.V}(o:WW w b1 b2 aa ab)(aq:bW w aa c)(a0:VSl w ab r)(ay:Runs w vr rl)(ax:rl.length<=1000000):∀w1,cF w w w1->cT cI 141 #[vr,.func (.func 143) #[] #[cQ b1,cQ b2]] w1 λe w'=>First (λx=>kW c r x.dI) rl w1 e w':=by
 intro w1 p;have ad:=qZ (λx W (h:cF w1 w1 W)=>acA (o.on p) (aq.below p) (a0.below p) x W h);obtain⟨R,bd,rfl,az,bh,au⟩:=ay.below p;have ai:=qZ az;have ae:=qZ au;obtain⟨N,v⟩:=nQ rl.length;rw[v.out]at ax⊢;obtain⟨q,K⟩:∃q:Run->Bool,(λx:Run=>kW c r x.dI)=q:=⟨_,rfl⟩;have ah:=qZ (λx:Run=>show kW c r x.dI=q x by rw[<-K]);rw[K];clear o;go_enter func141,ntmps141;go_wp2_with fail;go_loopg[8] N (λan a5 wr=>∃k:Nat,a5=cE cD k/\k<=N/\N<=an+k/\Hid ((rl.take k).find? q=cC)/\Hid (cF w1 w1 wr));exact⟨0,mZ,oZ,oZ,qZ sZ,qZ (aK _ _)⟩
 obtain⟨k,rfl,bg,bf,y,m⟩:=hrel;by_cases av:k<N
 .have aw:(k:Int)<(N:Int):=oZ;have n:k<rl.length:=by rw[v.out];exact av
  obtain⟨bb,bl,rfl,bi,ar⟩:=qQ ai n;obtain⟨L,p1,p2,p3,p4,T,p6,X,Y,Z,M,O,Q,F⟩:=ar wr m;have H:=qZ (ae _ (bD n));have b:=qZ (ad rl[k] wr m);rw[ah.out]at b;obtain⟨s,z⟩:=nQ (q rl[k]);rw[z.out]at b;have al:Hid (s=cP->∃h:k<rl.length,rl.find? q=cA (rl[k]'h)):=qZ (λe=>⟨n,WE q rl n y (z.out.trans e)⟩);have ag:=qZ (λe:s=cV=>DI q rl n y (z.out.trans e));obtain⟨x,o⟩:=nZ (rl[k]);rw[o]at L p1 p2 p3 p4 T p6 X Y Z M O Q F H b;clear o;obtain⟨a9,be,I,_,_⟩:=id H;obtain⟨a,ba,bc,⟨d,e,f⟩,g,h,i,j,bj,st,l,aR,hv⟩:=x;simp only at I L p1 p2 p3 p4 T p6 X Y Z M O Q F;subst I;obtain⟨bk,J⟩:=nZ aR.length;simp only[pU,qW,J]at b F;clear J;cases s
  .have aj:=qZ (ag rfl);go_wp2_with fail;refine b.out.mono ?_;rintro am a8⟨rfl,A⟩;have u:=qZ (aA m A);go_wp2_with fail;go_roundg(N-(k+1));exact⟨k+1,mZ,oZ,oZ,aj,u⟩;omega
  .have ak:=qZ (al rfl);go_wp2_with fail;refine b.out.mono ?_;rintro am a8⟨rfl,A⟩;have u:=qZ (aA m A);go_wp2_with fail;go_ret;obtain⟨ao,ap⟩:=ak.out;exact⟨.inr ⟨k,ao,rfl,ap⟩,u⟩
 .have aw:¬(k:Int)<(N:Int):=oZ;have af:=qY (rl.find? q=cC) (by have:=y.out;rwa [aU (by have:=v.out;omega)]at this);go_wp2_with fail;go_ret;exact⟨.inl ⟨rfl,af⟩,m⟩
open Go.Sort
theorem DF:∀l:List Int,l.map (eQ cD)=l.flatMap iL
 |[]=>rfl
 |a::t=>by rw[dG,dA,DF t];rfl
theorem ZH{l:List Int}(h:ISl w v l)(p:l.length<=1000000):∀w1,cF w w w1->cT cI 144 #[v] w1 λe w'=>∃v',e=cH v'/\bL w' w1 3 1 iL v' l/\cF w1 w1 w':=λw1 m=>by
 obtain⟨A,cap,rfl,i,s⟩:=h.below m;have k:∀{w':cM} {v':cJ},w'.ownsRow (w1:Nat) 3 1 v' l.length (l.map (eQ cD))->bL w' w1 3 1 iL v' l:=λh=>by rw[DF]at h;exact h
 cases A with
 |none=>
  have:l=[]:=by
   rcases l with _|⟨x,l⟩
   .rfl
   .obtain⟨b,o,e,_⟩:=i sZ;cases e
  subst this;refine(Tryz.slices_Clone_int_nil _ _ _).mono ?_;rintro e w'⟨rfl,rfl⟩;exact⟨_,rfl,bL.nil _ _ _ _ _,aK _ _⟩
 |some a=>
  by_cases g:l=[]
  .subst g;refine(Tryz.slices_Clone_int_zero _ _ _).mono ?_;rintro e w'⟨v',rfl,c,_,d⟩;exact⟨v',rfl,k c,d⟩
  .obtain⟨b,o,e,r,n⟩:=i g;cases e;refine(Tryz.slices_Clone_int b o l.length cap l w1 lZ oZ λj f=>?_).mono ?_
   .have:=n j _ (aH f) 0 _ rfl;rw[gI,hQ]at this;simpa[f]using this
   .rintro e w'⟨v',rfl,c,_,d⟩;rw[aU lZ]at c;exact⟨v',rfl,k c,d⟩
def aqA(p:Int->Bool)(l:List Int)(w:cM)(e:eS)(w':cM):Prop:=(e=cH (cE cD (-1))/\l.find? p=cC\/∃(k:Nat) (h:k<l.length),e=cH k/\(l.take k).find? p=cC/\p l[k]=cP)/\w'=w
theorem afV{l:List Int}(h:ISl w v l)(Q:l.length<=1000000)(n:Int)(b:Nat)(J:b<(w:Nat))(K:w.cell? (b,0)=cA (cE cD n)):cT cI 207 #[v,.func (.func 146) #[] #[cQ b]] w λe w'=>aqA (λx=>x==n) l w e w':=by
 obtain⟨R,ab,rfl,T,af⟩:=h;have i:=qZ (λx=>acr x n b w J K);have o:=qZ T;obtain⟨N,c⟩:=nQ l.length;rw[c.out]at Q⊢;go_enter func207,ntmps207;go_wp2_with fail;go_loopg[8] N (λF Y wr=>∃k:Nat,Y=cE cD k/\k<=N/\N<=F+k/\Hid ((l.take k).find? (λx=>x==n)=cC)/\Hid (wr=w));exact⟨0,mZ,oZ,oZ,qZ sZ,qZ rfl⟩
 obtain⟨k,rfl,ae,ad,d,r⟩:=hrel;have W:=r.out;subst W;by_cases M:k<N
 .have O:(k:Int)<(N:Int):=oZ;have g:k<l.length:=by rw[c.out];exact M
  obtain⟨aa,ah,rfl,ag,L⟩:=qR o g;have X:=L wr (aK _ _);have a:=qZ (i l[k]);obtain⟨s,f⟩:=nQ ((l[k]==n));rw[f.out]at a;have y:Hid (s=cP->∃h:k<l.length,(l[k]'h==n)=cP):=qZ (λe=>⟨g,f.out.trans e⟩);have m:=qZ (λe:s=cV=>DI (λx=>x==n) l g d (f.out.trans e));obtain⟨x,z⟩:=nQ (l[k]);rw[z.out]at X a;cases s
  .have p:=qZ (m rfl);go_wp2_with fail;refine a.out.mono ?_;rintro A Z⟨rfl,rfl⟩;go_wp2_with fail;go_roundg(N-(k+1));exact⟨k+1,mZ,oZ,oZ,p,qZ rfl⟩;omega
  .have u:=qZ (y rfl);go_wp2_with fail;refine a.out.mono ?_;rintro A Z⟨rfl,rfl⟩;go_wp2_with fail;go_ret;obtain⟨H,I⟩:=u.out;exact⟨.inr ⟨k,H,rfl,d,I⟩,rfl⟩
 .have O:¬(k:Int)<(N:Int):=oZ;have j:=qY (l.find? (λx=>x==n)=cC) (by have:=d.out;rwa [aU (by have:=c.out;omega)]at this);go_wp2_with fail;go_ret;exact⟨.inl ⟨rfl,j⟩,rfl⟩
def nT(n:Int)(l:List Int):List Int:=l.filter λx=> !(x==n)
theorem YK{n:Int}{l:List Int}(h:l.find? (λx=>x==n)=cC):nT n l=l:=by unfold nT;rw[List.filter_eq_self];intro x a;have:=List.find?_eq_none.1 h x a;simpa using this
theorem YJ{n:Int}{l:List Int}(a:j<l.length):nT n (l.take (j+1))=if l[j]==n then nT n (l.take j)else nT n (l.take j)++[l[j]]:=by
 unfold nT;rw[bE a,fU];by_cases h:(l[j]==n)=cP
 .rw[aI h];simp[h]
 .rw[aF h];have:(l[j]==n)=cV:=by simpa using h
  simp[this]
structure MO (w:World) (g cap:Nat) (front l:List Int) (j:Nat):Prop where
 shape:∃cs:Array Value,Blk w g 3 cs/\cs.size=cap/\(∀(t:Nat) (x:Int),front[t]? =some x->cs[t]? =some (Value.int .i64 x))/\∀(t:Nat) (x:Int),j<=t->l[t]? =some x->cs[t]? =some (Value.int .i64 x)
theorem MO.cell{front l:List Int}(h:MO w g cap front l j){t:Nat}{x:Int}(c:j<=t)(d:l[t]? =cA x):w.cell? (g,t)=cA (cE cD x):=by obtain⟨cs,a,e,f,b⟩:=h;rw[a.cell,b t x c d]
theorem ajK{c:Nat}(h:Blk w g 3 cs)(F:i+m<=cs.size):∃w',(∀ty,(hK #[36] ty #[ac (cA ⟨g,i,cC⟩) m c]).run cI w=.ok (eA #[]) w')/\aL (λk=>k=g) w w'/\∃e,Blk w' g 3 e/\e.size=cs.size/\∀t,t<i->e[t]? =cs[t]? :=by
 by_cases s:m=0
 .subst s;exact⟨w,λty=>by simp[hK,run_underlying eN],eK _ _,cs,h,rfl,λ_ _=>rfl⟩
 .obtain⟨m,rfl⟩:∃q,m=q+1:=⟨m-1,oZ⟩;have n:(eQ hV 0).cells=#[cE cD 0]:=kZ;obtain⟨b,f⟩:=nZ (cL (eQ hV 0).cells (m+1));have I:b.toList.length=m+1:=by rw[<-f];simp[cL,n]
  have y:∀v∈b.toList,v.oneCell'=cP:=by
   intro v hv;obtain⟨j,a⟩:=List.getElem?_of_mem hv;have x:j<m+1:=by have:=(bF.1 a).1;omega
   rw[<-f]at a;simp[cL,n,x,Nat.mod_one]at a;subst a;rfl
  have u:Holds id w g 0 cs:=λj a=>⟨by rw[aO,h.cell,bX cs j a,bY a];rfl,by rw[aO];exact h.frozen j⟩;have r:=stores_of_holds cI u i b.toList oZ y;rw[aO]at r;have A:∀(vs:List cJ) (o:Nat) (W:cM) (cs:Array cJ),Blk W g 3 cs->Blk (W.setCells g o vs) g 3 (hW cs o vs):=by
   intro vs;induction vs with
   |nil=>exactλo W cs h=>h
   |cons v vs l=>exactλo W cs h=>l (o+1) _ _ (hI h o v)
  have z:∀(vs:List cJ) (o:Nat) (W:cM),aL (λk=>k=g) W (W.setCells g o vs):=by
   intro vs;induction vs with
   |nil=>exactλo W=>eK _ _
   |cons v vs l=>exactλo W=>((eK (λk=>k=g) W).setCell (p:=⟨g,o,cC⟩) (.inl rfl) v).trans (l (o+1) _)
  refine⟨_,λty=>?_,z b.toList i w,_,A b.toList i w cs h,sZ,λt H=>?_⟩
  .have hv:∀w,(zeroValue 3).run cI w=.ok (eQ hV 0) w:=Tryz.zeroValue3;simp[hK,run_underlying eN,hv,f,r]
  .have d:t<cs.size:=oZ;have:=get_setMany b.toList i cs t d;rw[aF oZ,bX _ t (by simpa using d),bX cs t d]at this;rw[bY (by simpa using d),bY d,this]
theorem GL{P:hU}{t E:gC}{i:TypeInfo}(d:P.underlying t=cA (.slice E))(hi:P.info? E=cA i)(b:m<=n)(c:n<=cap)(W:cM):(eC t (ac g n cap) cC (cA (cE cD m)) cC).run P W=.ok (ac g m cap) W:=by
 have a:Addr.add ⟨g,0,cC⟩ 0=⟨g,0,cC⟩:=by rw[eE]
 simp[eC,run_underlying d,hS,hX,asIntOf,sizeOf,typeInfo,hi,bC b c,a]
theorem UW{P:hU}{c:Array ik}{rest:List ik}{o:ik}(f:o.guard=cC)(s y:im)(t e:gC)(k:P.underlying t=cA (.slice e))(g:o.op=.slice t s cC (cA y) cC)(vs b:cJ)(hs:a.eval s=vs)(l:a.eval y=b)(j:(eC t vs cC (cA b) cC).run P w=.ok v' w)(h:dT P c Q rest (a.put o.dst v') w):dT P c Q (o::rest) a w:=
 iq f λ_ d=>by
  have i:(gO t vs cC (cA b) cC).run P w=.ok v' w:=by simp[gO,run_underlying k,j]
  unfold Oper.wp execOp;simp only[g,Sem.run_bind,Sem.run_pure,Result.andThen_ok,ih,fW,hs,l,i];exact d _ _ h
theorem UU{P:hU}{c:Array ik}{rest:List ik}{o:ik}(f:o.guard=cC)(s y:im)(t e:gC)(k:P.underlying t=cA (.slice e))(g:o.op=.slice t s (cA y) cC cC)(vs b:cJ)(hs:a.eval s=vs)(l:a.eval y=b)(j:(eC t vs (cA b) cC cC).run P w=.ok v' w)(h:dT P c Q rest (a.put o.dst v') w):dT P c Q (o::rest) a w:=
 iq f λ_ d=>by
  have i:(gO t vs (cA b) cC cC).run P w=.ok v' w:=by simp[gO,run_underlying k,j]
  unfold Oper.wp execOp;simp only[g,Sem.run_bind,Sem.run_pure,Result.andThen_ok,ih,fW,hs,l,i];exact d _ _ h
theorem akV{P:hU}{t E:gC}{i:TypeInfo}(e:P.underlying t=cA (.slice E))(hi:P.info? E=cA i)(d:i.size=1)(a:m<=n)(b:n<=cap)(c:m<cap)(W:cM):(eC t (ac g n cap) (cA (cE cD m)) cC cC).run P W=.ok (ac (cA ⟨g,m,cC⟩) (n-m) (cap-m)) W:=by simp[eC,run_underlying e,hS,hX,asIntOf,sizeOf,typeInfo,hi,a,b,bC a b,d,eE,Nat.ne_of_gt c]
theorem amY:(prog.info? 3).map (λi=>(i.zero,i.size,i.bytes))=cA (cA (cE cD 0),1,8):=by kernel_rfl
def acW(v:cJ)(l:List Int)(B:Nat)(w:cM)(e:eS)(w':cM):Prop:=∃v',e=cH v'/\bL w' B 3 1 iL v' l/\aL (λi=>v.ownBlock=cA i) w w'/\(∀b,v'.ownBlock=cA b->v.ownBlock=cA b)
theorem adL{B:Nat}{l:List Int}(h:bL w B 3 1 iL v l)(ak:l.length<=1000000)(n:Int)(b:Nat)(ae:b<(w:Nat))(af:w.cell? (b,0)=cA (cE cD n))(a0:v.ownBlock≠cA b):cT cI 145 #[v,.func (.func 146) #[] #[cQ b]] w λe w'=>acW v (nT n l) B w e w':=by
 obtain⟨A,cap,ev,bh⟩:=h.sl (λ_=>rfl);have aa:=qZ (afV ⟨A,cap,ev,bh,by unfold eR;omega⟩ ak n b ae af);have I:=qZ h;have F:=qZ (aC ae (aC af a0));subst ev;obtain⟨N,o⟩:=nQ l.length;rw[o.out]at ak aa I F⊢;go_enter func145,ntmps145;go_wp2_with fail;refine aa.mono ?_;rintro ab z⟨bc,rfl⟩;rcases bc with⟨rfl,Q⟩|⟨k,ai,rfl,Q,al⟩
 .have T:=qY (acW (ac A N cap) (nT n l) B z (cH (ac A N cap)) z) (⟨_,rfl,by rw[YK Q];exact I,eK _ _,λ_ h=>h⟩);go_wp2_with fail;go_ret;exact T
 .rw[o.out]at ai;have b6:((k:Int)== -1)=cV:=sZ;obtain⟨g,rfl,az,b5,ag,a5⟩:∃g,A=cA ⟨g,0,cC⟩/\B<=g/\g<(z:Nat)/\N<=cap/\cap<=eR:=by
   rcases I.out.form with⟨e,e2⟩|⟨g,bs,e,M,ax,ad,ay⟩
   .have:=o.out;rw[e2]at this;simp at this;omega
   .rw[o.out]at e ad;cases e;exact⟨g,rfl,M,ax,ad,ay⟩
  have ar:=qY (MO z g cap (nT n (l.take (k+1))) l (k+1)/\(nT n (l.take (k+1))).length=k) (by
   obtain⟨_,⟨e,_⟩|⟨bu,br,cur,e,_,a9,_,_,hs,r⟩⟩:=I.out
   .cases e
   .cases e;have bd:k<l.length:=by rw[o.out];exact ai
    have e1:nT n (l.take (k+1))=l.take k:=by rw[YJ bd,aI al,YK Q]
    have all:∀(t:Nat) (x:Int),l[t]? =cA x->cur[t]? =cA (eQ cD x):=λt x a=>by
     have Z:t<l.length:=(bF.1 a).1;rw[<-DF]at r;have M:(l.map (eQ cD))[t]? =cA (eQ cD x):=by rw[gB,a];rfl
     rw[<-r,dU,aI (by simpa using Z),dF]at M;exact M
    rw[e1];exact⟨⟨cur,a9,by rw[hs];omega,λt x a=>all t x (by rw[dU]at a;split at a;exact a;cases a),λt x _ a=>all t x a⟩,by simp;omega⟩)
  have bb:g≠b:=λe=>F.2.2 (by rw[e];rfl);go_wp2_with fail;go_loopg[5,6] N (λaw bl bm wr=>∃i j:Nat,bl=cE cD i/\bm=cE cD j/\i<j/\j<=N/\N<=aw+j/\Hid (MO wr g cap (nT n (l.take j)) l j/\(nT n (l.take j)).length=i)/\Hid (aL (λq=>q=g) z wr));exact⟨k,k+1,by first|rfl|go_num,mZ,oZ,oZ,oZ,ar,qZ (eK _ _)⟩
  obtain⟨i,j,rfl,rfl,bz,b4,bw,d,H⟩:=hrel;by_cases be:j<N
  .have bg:(j:Int)<(N:Int):=oZ;have X:j<l.length:=by rw[o.out];exact be
   have bk:CI wr g j (l[j]):=d.1.cell lZ (aH X);have J:=qZ (YJ (n:=n) X);have L:=qZ (acr l[j] n b wr (aM F.1 H.size) ((H.cell (p:=⟨b,0,cC⟩) F.1 (Ne.symm bb)).trans F.2.1));obtain⟨x,a⟩:=nZ (l[j]);rw[a]at bk J L;clear a;obtain⟨s,hs⟩:=nZ ((x==n));rw[hs]at J L;clear hs;cases s
   .obtain⟨cs,b1,b2,b3,K⟩:=id d.1.shape;have bt:wr.frozen? (g,i)=cV:=b1.frozen i;have ah:i<cs.size:=oZ;obtain⟨av,ba⟩:∃u,cs[i]? =cA u:=⟨_,bY ah⟩;have bq:wr.cell? (g,i)=cA av:=by rw[b1.cell];exact ba
    have W:=qY (MO (wr.setCell (g,i) x) g cap (nT n (l.take (j+1))) l (j+1)/\(nT n (l.take (j+1))).length=i+1) (by
     rw[J.out];simp only[jG,if_false];refine⟨⟨_,hI b1 i _,by simpa using b2,λt y f=>?_,λt y r f=>?_⟩,by simp[d.out.2]⟩
     .rw[Array.getElem?_setIfInBounds];by_cases e:i=t
      .subst e;rw[dK (by rw[d.out.2];exact bG _),d.out.2]at f;simp at f;rw[aI rfl,aI ah,f]
      .rw[aF e];refine b3 t y ?_;have bf:t<i:=by have:=(bF.1 f).1;simp[d.out.2]at this;omega
       rwa [cO (by rw[d.out.2];exact bf)]at f
     .rw[Array.getElem?_setIfInBounds,aF oZ];exact K t y oZ f)
    have ao:=qY (aL (λq=>q=g) z (wr.setCell (g,i) x)) (H.setCell (.inl rfl) _);have b0:(i:Int)<(N:Int):=oZ;go_wp2_with fail;refine L.out.mono ?_;rintro ab bn⟨rfl,rfl⟩;go_wp2_with fail;go_roundg(N-(j+1));exact⟨i+1,j+1,mZ,mZ,oZ,oZ,oZ,W,ao⟩;omega
   .have W:=qY (MO wr g cap (nT n (l.take (j+1))) l (j+1)/\(nT n (l.take (j+1))).length=i) (by rw[J.out];simp only[if_true];obtain⟨cs,b1,b2,b3,K⟩:=d.out.1.shape;exact⟨⟨cs,b1,b2,b3,λt y r f=>K t y oZ f⟩,d.2⟩);go_wp2_with fail;refine L.out.mono ?_;rintro ab bn⟨rfl,rfl⟩;go_wp2_with fail;go_roundg(N-(j+1));exact⟨i,j+1,rfl,mZ,oZ,oZ,oZ,W,H⟩;omega
  .have bg:¬(j:Int)<(N:Int):=oZ;obtain rfl:j=N:=by omega
   obtain⟨i0,hi,b7,bi,b8⟩:=eJ amY;obtain⟨cs,b1,b2,b3,K⟩:=d.out.1.shape;obtain⟨am,bv,bj,au,d1,d2,d3⟩:=ajK (i:=i) (m:=j-i) (c:=cap-i) b1 oZ;have Z:=akV (P:=cI) eN hi bi (g:=g) (n:=j) (m:=i) (cap:=cap) oZ ag oZ wr;have a8:=GL (P:=cI) eN hi (g:=g) (n:=j) (m:=i) (cap:=cap) oZ ag am;have aq:=qZ Z;have an:=qZ a8;have T:=qY (acW (ac g j cap) (nT n l) B z (cH (ac g i cap)) am) (by
    have aj:nT n (l.take j)=nT n l:=by rw[aU (by rw[o.out];exact bG _)]
    rw[aj]at b3;have O:(nT n l).length=i:=by rw[<-aj];exact d.2
    refine⟨_,rfl,⟨by rw[iN (dec:=iL) (k:=1) λ_=>rfl],.inr ⟨g,cap,au,by rw[O],az,d1,oZ,a5,oZ,?_⟩⟩,((H.out.trans bj)).mono λq _ Y=>by rw[Y];rfl,λq Y=>Y⟩;rw[<-DF];apply fP;intro t;by_cases r:t<i
    .have a:(nT n l)[t]? =cA (nT n l)[t]:=aH (by rw[O];exact r);rw[dU,aI (by rw[O];omega),dF,d3 t r,b3 t _ a,gB,a];rfl
    .rw[dU,aF (by rw[O];omega),eH (by simp;omega)])
   go_wp2_with(first|(with_reducible refine UU rfl (.tmp 36) (.tmp 37) _ _ eN rfl (ac g j cap) i rfl rfl aq.out ?_)|(with_reducible refine UW rfl (.tmp 39) (.tmp 40) _ _ eN rfl (ac g j cap) i rfl rfl an.out ?_));go_ret;exact T
structure AnyW (w:World):Prop where
 t:True
def Deleted{α:Type}(E:gC)(k:Nat)(dec:α->List cJ)(v:cJ)(xs:List α)(B:Nat)(w:cM)(e:eS)(w':cM):Prop:=∃v',e=cH v'/\bL w' B E k dec v' xs/\aL (λi=>v.ownBlock=cA i) w w'/\v'.ownBlock=v.ownBlock
theorem aef:(cL (cU (cY #[(),(),(),(),(),(),(),(),(),(),()])) 1).toList.length=11/\∀u∈(cL (cU (cY #[(),(),(),(),(),(),(),(),(),(),()])) 1).toList,u.oneCell'=cP:=by have e:(cL (cU (cY #[(),(),(),(),(),(),(),(),(),(),()])) 1).toList=[cE cD 0,cE cD 0,cE cD 0,cE cD 0,cE cD 0,cE cD 0,cE cD 0,cE cD 0,cE cD 0,cE cD 0,cE cD 0]:=kZ;rw[e];refine⟨rfl,λu a=>?_⟩;simp only[bH,dL,or_false]at a;rcases a with rfl|rfl|rfl|rfl|rfl|rfl|rfl|rfl|rfl|rfl|rfl<;>rfl
theorem alx{B:Nat}{xs:List cS}(h:bL w B 44 11 fH v xs)(ae:∀x∈xs,∀u∈fH x,u.oneCell'=cP)(al:xs.length<=1000000)(hi:i<xs.length):cT cI 110 #[v,(i:Int),((i:Int)+1:Int)] w λe w'=>Deleted 44 11 fH v (xs.eraseIdx i) B w e w':=by
 obtain⟨i0,d,aw,j,ax⟩:=eJ pinfo;obtain⟨au,⟨rfl,ar⟩|⟨g,cap,cs,rfl,ag,aj,b,ak,hs,ao⟩⟩:=h
 .omega
 have A:Blk w g 44 cs:=aj;obtain⟨a,c,r,ai⟩:=XM (P:=cI) (i0:=i0) cG d j (g:=g) (n:=xs.length) (m:=i+1) (cap:=cap) oZ b;obtain⟨ay,af⟩:=XL (P:=cI) (i0:=i0) cG d j (g:=g) (n:=xs.length) (m:=i) (h:=i+1) (cap:=cap) oZ oZ b;have I:=GL (P:=cI) cG d (g:=g) (n:=xs.length) (m:=i) (cap:=cap) oZ b;obtain⟨f,M⟩:=TW (P:=cI) (k:=11) (dec:=fH) cG d j oZ (λ_=>rfl) 27 ae (w:=w.drew) (ii A) hs ao b hi a c ai;have b2:=uE ((xs.drop (i+1)).flatMap fH) (i*11) w.drew cs (ii A);have Q:=sF g ((xs.drop (i+1)).flatMap fH) (i*11) w.drew;obtain⟨l,ab⟩:=nQ (w.drew.setCells g (i*11) ((xs.drop (i+1)).flatMap fH));rw[ab.out]at f b2 Q;have p:(hW cs (i*11) ((xs.drop (i+1)).flatMap fH)).size=cap*11:=by simpa using hs
 obtain⟨ad,H⟩:=nZ (hW cs (i*11) ((xs.drop (i+1)).flatMap fH));rw[H]at b2 M p;have K:=EX (P:=cI) cG d j (g:=g) (n:=xs.length-1) (m:=xs.length-1) (h:=xs.length) (cap:=cap) oZ b oZ l;obtain⟨F,ap⟩:=ZI (P:=cI) (k:=11) (c:=cap-(xs.length-1)) cG Tryz.zeroValue44 aef.1 aef.2 b2 (o:=(xs.length-1)*11) (by rw[p];have:=dD 11 (show xs.length-1+1<=cap by omega);omega);have b3:=uE (cL (cU (cY #[(),(),(),(),(),(),(),(),(),(),()])) 1).toList ((xs.length-1)*11) l ad b2;have T:=sF g (cL (cU (cY #[(),(),(),(),(),(),(),(),(),(),()])) 1).toList ((xs.length-1)*11) l;obtain⟨aq,O⟩:=nZ (l.setCells g ((xs.length-1)*11) (cL (cU (cY #[(),(),(),(),(),(),(),(),(),(),()])) 1).toList);rw[O]at F b3 T;have J:(xs.eraseIdx i).length=xs.length-1:=List.length_eraseIdx_of_lt hi;have y:=qY (Deleted 44 11 fH (ac g xs.length cap) (xs.eraseIdx i) B w (cH (ac g (xs.length-1) cap)) aq) (by refine⟨_,rfl,⟨by rw[iN (dec:=fH) (k:=11) λ_=>rfl],.inr ⟨g,cap,_,by rw[J],ag,b3,oZ,ak,by simpa using p,?_⟩⟩,(((eK (λq=>q=g) w).drew.trans Q).trans T).mono λq _ am=>by rw[am];rfl,rfl⟩;rw[J,ap];exact M);obtain⟨N,z⟩:=nZ xs.length;rw[z]at hi al b r af I f K F y⊢;obtain⟨n,rfl⟩:∃n,N=n+1:=⟨N-1,oZ⟩;simp only[gN,hE]at*;have an:n+1-(i+1)=n-i:=oZ;rw[an]at r f;have aa:=qZ r;have Y:=qZ I;have X:=qZ f;have Z:=qZ K;have av:((i:Int)==(i:Int)+1)=cV:=by rw[beq_eq_false_iff_ne];omega
 clear H O z;go_enter func110,ntmps110;go_wp2_with fail;refine iA AnyW 7 (.take 0 (.take 1 (.take 2 (.take 3 (.take 4 (.take 5 (.one 6 .done))))))) kZ kZ ⟨trivial⟩ ?_;(iterate 2 refine tT ?_);apply mM (v:=ac g i cap);rfl;rfl;(focus(intro W ah;exact lX (E:=44) (s:=.tmp 20) (lo:=cC) (hi:=cA (.tmp 21)) cG rfl rfl (Y W)));(focus(go_simp;first|done|rfl));(iterate 2 refine tT ?_);apply mM (v:=ac (cA a) (n-i) c);rfl;rfl;(focus(intro W ah;exact lX (E:=44) (s:=.tmp 23) (lo:=cA (.tmp 24)) (hi:=cC) cG rfl rfl (aa W)));(focus(go_simp;first|done|rfl));refine dQ ?_;apply kD;rfl;rfl;exact mW (s:=.tmp 22) (x:=.tmp 25) (vs:=ac g i cap) (vx:=ac (cA a) (n-i) c) rfl rfl rfl X;exact⟨trivial⟩;(focus(go_simp;first|done|rfl));refine fA ?_;show dT cI _ _ (eI 7 _) _ _;simp only[aZ,bB];go_wp2_with(with_reducible refine nM rfl (.tmp 27) (cA (.tmp 29)) (cA (.tmp 30)) cC _ _ cG rfl (ac g n cap) (cA (cE cD n)) (cA (cE cD (n+1))) cC rfl rfl rfl rfl Z.out ?_);go_ret;exact y
theorem aed:(cL (cU (cY #[(),(),(),(),(),(),(),(),(),(),(),(),(),cP])) 1).toList.length=14/\∀u∈(cL (cU (cY #[(),(),(),(),(),(),(),(),(),(),(),(),(),cP])) 1).toList,u.oneCell'=cP:=by have e:(cL (cU (cY #[(),(),(),(),(),(),(),(),(),(),(),(),(),cP])) 1).toList=[cE cD 0,cE cD 0,cE cD 0,cE cD 0,cE cD 0,cE cD 0,cE cD 0,cE cD 0,cE cD 0,cE cD 0,cE cD 0,cE cD 0,cE cD 0,ac cC 0 0]:=kZ;rw[e];refine⟨rfl,λu a=>?_⟩;simp only[bH,dL,or_false]at a;rcases a with rfl|rfl|rfl|rfl|rfl|rfl|rfl|rfl|rfl|rfl|rfl|rfl|rfl|rfl<;>rfl
theorem alf{B:Nat}{xs:List Run}(h:bL w B 86 14 lV v xs)(ae:∀x∈xs,∀u∈lV x,u.oneCell'=cP)(al:xs.length<=1000000)(hi:i<xs.length):cT cI 109 #[v,(i:Int),((i:Int)+1:Int)] w λe w'=>Deleted 86 14 lV v (xs.eraseIdx i) B w e w':=by
 obtain⟨i0,d,aw,j,ax⟩:=eJ RU;obtain⟨au,⟨rfl,ar⟩|⟨g,cap,cs,rfl,ag,aj,b,ak,hs,ao⟩⟩:=h
 .omega
 have A:Blk w g 86 cs:=aj;obtain⟨a,c,r,ai⟩:=XM (P:=cI) (i0:=i0) dE d j (g:=g) (n:=xs.length) (m:=i+1) (cap:=cap) oZ b;obtain⟨ay,af⟩:=XL (P:=cI) (i0:=i0) dE d j (g:=g) (n:=xs.length) (m:=i) (h:=i+1) (cap:=cap) oZ oZ b;have I:=GL (P:=cI) dE d (g:=g) (n:=xs.length) (m:=i) (cap:=cap) oZ b;obtain⟨f,M⟩:=TW (P:=cI) (k:=14) (dec:=lV) dE d j oZ (λ_=>rfl) 28 ae (w:=w.drew) (ii A) hs ao b hi a c ai;have b2:=uE ((xs.drop (i+1)).flatMap lV) (i*14) w.drew cs (ii A);have Q:=sF g ((xs.drop (i+1)).flatMap lV) (i*14) w.drew;obtain⟨l,ab⟩:=nQ (w.drew.setCells g (i*14) ((xs.drop (i+1)).flatMap lV));rw[ab.out]at f b2 Q;have p:(hW cs (i*14) ((xs.drop (i+1)).flatMap lV)).size=cap*14:=by simpa using hs
 obtain⟨ad,H⟩:=nZ (hW cs (i*14) ((xs.drop (i+1)).flatMap lV));rw[H]at b2 M p;have K:=EX (P:=cI) dE d j (g:=g) (n:=xs.length-1) (m:=xs.length-1) (h:=xs.length) (cap:=cap) oZ b oZ l;obtain⟨F,ap⟩:=ZI (P:=cI) (k:=14) (c:=cap-(xs.length-1)) dE Tryz.zeroValue86 aed.1 aed.2 b2 (o:=(xs.length-1)*14) (by rw[p];have:=dD 14 (show xs.length-1+1<=cap by omega);omega);have b3:=uE (cL (cU (cY #[(),(),(),(),(),(),(),(),(),(),(),(),(),cP])) 1).toList ((xs.length-1)*14) l ad b2;have T:=sF g (cL (cU (cY #[(),(),(),(),(),(),(),(),(),(),(),(),(),cP])) 1).toList ((xs.length-1)*14) l;obtain⟨aq,O⟩:=nZ (l.setCells g ((xs.length-1)*14) (cL (cU (cY #[(),(),(),(),(),(),(),(),(),(),(),(),(),cP])) 1).toList);rw[O]at F b3 T;have J:(xs.eraseIdx i).length=xs.length-1:=List.length_eraseIdx_of_lt hi;have y:=qY (Deleted 86 14 lV (ac g xs.length cap) (xs.eraseIdx i) B w (cH (ac g (xs.length-1) cap)) aq) (by refine⟨_,rfl,⟨by rw[iN (dec:=lV) (k:=14) λ_=>rfl],.inr ⟨g,cap,_,by rw[J],ag,b3,oZ,ak,by simpa using p,?_⟩⟩,(((eK (λq=>q=g) w).drew.trans Q).trans T).mono λq _ am=>by rw[am];rfl,rfl⟩;rw[J,ap];exact M);obtain⟨N,z⟩:=nZ xs.length;rw[z]at hi al b r af I f K F y⊢;obtain⟨n,rfl⟩:∃n,N=n+1:=⟨N-1,oZ⟩;simp only[gN,hE]at*;have an:n+1-(i+1)=n-i:=oZ;rw[an]at r f;have aa:=qZ r;have Y:=qZ I;have X:=qZ f;have Z:=qZ K;have av:((i:Int)==(i:Int)+1)=cV:=by rw[beq_eq_false_iff_ne];omega
 clear H O z;go_enter func109,ntmps109;go_wp2_with fail;refine iA AnyW 7 (.take 0 (.take 1 (.take 2 (.take 3 (.take 4 (.take 5 (.one 6 .done))))))) kZ kZ ⟨trivial⟩ ?_;(iterate 2 refine tT ?_);apply mM (v:=ac g i cap);rfl;rfl;(focus(intro W ah;exact lX (E:=86) (s:=.tmp 20) (lo:=cC) (hi:=cA (.tmp 21)) dE rfl rfl (Y W)));(focus(go_simp;first|done|rfl));(iterate 2 refine tT ?_);apply mM (v:=ac (cA a) (n-i) c);rfl;rfl;(focus(intro W ah;exact lX (E:=86) (s:=.tmp 23) (lo:=cA (.tmp 24)) (hi:=cC) dE rfl rfl (aa W)));(focus(go_simp;first|done|rfl));refine dQ ?_;apply kD;rfl;rfl;exact mW (s:=.tmp 22) (x:=.tmp 25) (vs:=ac g i cap) (vx:=ac (cA a) (n-i) c) rfl rfl rfl X;exact⟨trivial⟩;(focus(go_simp;first|done|rfl));refine fA ?_;show dT cI _ _ (eI 7 _) _ _;simp only[aZ,bB];go_wp2_with(with_reducible refine nM rfl (.tmp 27) (cA (.tmp 29)) (cA (.tmp 30)) cC _ _ dE rfl (ac g n cap) (cA (cE cD n)) (cA (cE cD (n+1))) cC rfl rfl rfl rfl Z.out ?_);go_ret;exact y
theorem SL(x:cS):∀u∈fH x,u.oneCell'=cP:=λu a=>by simp only[fH,eF,bH,dL,or_false]at a;rcases a with rfl|rfl|rfl|rfl|rfl|rfl|rfl|rfl|rfl|rfl|rfl<;>rfl
theorem VY(xs:List cS):∀u∈xs.flatMap fH,u.oneCell'=cP:=λu a=>by obtain⟨x,_,b⟩:=jC.1 a;exact SL x u b
theorem als{B:Nat}{xs:List cS}(h:bL w B 44 11 fH v xs)(l:B<=(w:Nat))(H:xs.length<=1000000)(p:cS){T:gC}(hv:Blk w k T cs)(r:cs=(fH p).toArray):cT cI 164 #[v,(xs.length:Int),ac k 1 1] w λe w'=>vN 44 11 fH v (xs++[p]) B w e w':=by
 obtain⟨i0,b,z,d,F⟩:=eJ pinfo;obtain⟨A,c,y,_⟩:=NG (P:=cI) 27 i0 cG b d (λ_=>rfl) h (m:=xs.length) lZ;obtain⟨v',w',o,x,s,_,u⟩:=lF (P:=cI) 27 27 i0 _ 88 cG b z d F rfl oZ (λ_=>rfl) (VY [p]) h (m:=1) (c:=1) rfl (qA hv r) l (by unfold eR;omega) oZ;have g:=qY (vN 44 11 fH v (xs++[p]) B w (cH v') w') (⟨v',rfl,x,je s λi hi=>hi,u⟩);have j:=qZ y;have f:=qZ o;obtain⟨a,cap,ev⟩:∃a cap,v=ac a xs.length cap:=by obtain⟨a,cap,e,_⟩:=h.sl (λ_=>rfl);exact⟨a,cap,e⟩
 subst ev;generalize xs.length=n at*;go_enter func164,ntmps164;go_wp2_with(first|(with_reducible refine nM rfl (.tmp 10) (cA (.tmp 11)) cC cC _ _ cG rfl (ac a n cap) (cA (cE cD n)) cC cC rfl rfl rfl rfl (j.out _) ?_)|(at_builtin;refine cK rfl (.tmp 23) (.tmp 24) _ _ rfl (ac a n cap) (ac k 1 1) rfl rfl f.out ?_));go_ret;exact g
theorem afC{B:Nat}{xs:List cS}(aq:B<=g)(f:Blk w g 44 cs)(o:xs.length=n)(az:cap<=eR)(hs:cs.size=cap*11)(ba:cs.toList.take (n*11)=xs.flatMap fH)(be:n<=1000000)(hi:i<n)(af:n+1<=cap)(p:cS){T:gC}{ps:Array cJ}(hv:Blk w l T ps)(a9:ps=(fH p).toArray)(ae:l≠g):cT cI 164 #[ac g n cap,(i:Int),ac l 1 1] w λe w'=>vN 44 11 fH (ac g n cap) (xs.take i++p::xs.drop i) B w e w':=by
 obtain⟨i0,a,bh,b,bi⟩:=eJ pinfo;have au:=xG (P:=cI) (t:=27) cG a b (g:=g) (n:=n) (m:=i) (cap:=cap) oZ oZ oZ;have av:=xG (P:=cI) (t:=27) cG a b (g:=g) (n:=n+1) (m:=i) (cap:=cap) oZ oZ oZ;have aw:=xG (P:=cI) (t:=27) cG a b (g:=g) (n:=n+1) (m:=i+1) (cap:=cap) oZ oZ oZ;have ax:=anE (P:=cI) (t:=27) cG a (g:=g) (n:=n) (m:=n+1) (cap:=cap) af;obtain⟨an,ao⟩:=YZ (dec:=fH) (k:=11) (λ_=>rfl) xs (i:=i) (cs:=cs.toList) oZ (by rw[o];exact ba);have ar:((xs.drop i).flatMap fH).length=(n-i)*11:=by rw[iN (dec:=fH) (k:=11) λ_=>rfl,fJ,o]
 have bf:(i+1)*11+(n-i)*11=(n+1)*11:=oZ;have a5:(n+1)*11<=cs.size:=by rw[hs];exact dD 11 af
 have Z:∀ty,(gR #[27,27] ty #[ac (cA ⟨g,(i+1)*11,cC⟩) (n+1-(i+1)) (cap-(i+1)),ac (cA ⟨g,i*11,cC⟩) (n+1-i) (cap-i)]).run cI w.drew=.ok (iS (gS (n+1-i) (n+1-(i+1)))) (w.drew.setCells g ((i+1)*11) ((xs.drop i).flatMap fH)):=λty=>
  DL (P:=cI) cG a b (w:=w.drew) f.drew _ (by rw[ar,show gS (n+1-i) (n+1-(i+1))=n-i by simp only[hJ];split<;>omega]) (λj u H=>by rw[eE,f.drew.cell,<-dF];exact ao j u H) oZ (VY _) ty
 have b1:=uE ((xs.drop i).flatMap fH) ((i+1)*11) w.drew cs f.drew;have I:=sF g ((xs.drop i).flatMap fH) ((i+1)*11) w.drew;obtain⟨w1,am⟩:=nQ (w.drew.setCells g ((i+1)*11) ((xs.drop i).flatMap fH));rw[am.out]at Z b1 I;have bb:Blk w1 l T ps:=hv.drew.bA I ae;have aa:∀ty,(gR #[27,27] ty #[ac (cA ⟨g,i*11,cC⟩) (n+1-i) (cap-i),ac l 1 1]).run cI w1=.ok (iS (gS 1 (n+1-i))) (w1.setCells g (i*11) (fH p)):=λty=>
  DL (P:=cI) cG a b b1 _ (by rw[show gS 1 (n+1-i)=1 by simp only[hJ];split<;>omega];rfl) (λj u H=>by rw[eE,aO,bb.cell,a9];simpa using H) (by rw[ir];show i*11+11<=_;omega) (SL p) ty
 have b2:=uE (fH p) (i*11) w1 _ b1;have ah:=sF g (fH p) (i*11) w1;obtain⟨bd,ag⟩:=nZ (w1.setCells g (i*11) (fH p));rw[ag]at aa b2 ah;have ab:=(abR (dec:=fH) (k:=11) (λ_=>rfl) xs p (cs:=cs) (i:=i) oZ (by rw[o];exact a5) an).1;rw[o]at ab;have aj:=qY (vN 44 11 fH (ac g n cap) (xs.take i++p::xs.drop i) B w (cH (ac g (n+1) cap)) bd) (by
  have ad:(xs.take i++p::xs.drop i).length=n+1:=by simp;omega
  refine⟨_,rfl,⟨by rw[iN (dec:=fH) (k:=11) λ_=>rfl],.inr ⟨g,cap,_,by rw[ad],aq,b2,oZ,az,by simpa using hs,by rw[ad];exact ab⟩⟩,(((eK (λq=>q=g) w).drew.trans I).trans ah).mono λq _ F=>by rw[F];rfl,λq F=>.inl F⟩)
 have a8:∀J z W,Blk W l T ps->Blk W g 44 cs->(iv 211 #[ac l 1 1,ac (cA ⟨g,(i+1)*11,cC⟩) J z]).run cI W=.ok (.value (cW cV)) W:=λJ z W A ap=>by have a0:cs.size≠0:=oZ;rw[run_callFunc_extern func211 kZ kZ kZ (e:=Extern.SlicesOverlaps.overlaps #[27,27] #[4]) kZ,Lib.run_overlaps_apart W 27 4 44 cG 11 hN ⟨l,0,cC⟩ ⟨g,(i+1)*11,cC⟩ 1 1 J z ae _ _ _ _ (ZL A) (ZL ap) a0 (A.frozen _) (A.frozen _)];rfl
 have bc:=a8 (n+1-(i+1)) (cap-(i+1)) w hv f;have O:=qZ au;have r:=qZ av;have x:=qY (∀W,(eC 27 (ac g (n+1) cap) (cA (cE cD ((i:Int)+1))) cC cC).run cI W=.ok (ac (cA ⟨g,(i+1)*11,cC⟩) (n+1-(i+1)) (cap-(i+1))) W) (λW=>by have:=aw W;rwa [Int.natCast_succ]at this);have ak:=qY (∀W,(eC 27 (ac g n cap) cC (cA (cE cD ((n:Int)+1))) cC).run cI W=.ok (ac g (n+1) cap) W) (λW=>by have:=ax W;rwa [Int.natCast_succ]at this);have M:=qZ Z;have N:=qZ aa;have bj:((i:Int)==(n:Int))=cV:=by rw[beq_eq_false_iff_ne];omega
 have bk:¬((cap:Int)<(n:Int)+1):=oZ;have bg:IntKind.i64.wrap ((i:Int)+1)=(i:Int)+1:=by rw[hC];omega
 obtain⟨d1,Q⟩:=nQ (n+1-(i+1));obtain⟨d2,X⟩:=nQ (cap-(i+1));obtain⟨d3,y⟩:=nQ (n+1-i);obtain⟨d4,c⟩:=nQ (cap-i);obtain⟨d5,al⟩:=nQ (n-i);obtain⟨ai,Y⟩:=nQ ((i+1)*11);obtain⟨K,d⟩:=nQ (i*11);rw[Q.out,X.out,Y.out]at bc x;rw[y.out,c.out,d.out]at r;rw[al.out,c.out,d.out]at O;rw[Q.out,X.out,y.out,c.out,Y.out,d.out]at M;rw[y.out,c.out,d.out]at N;clear ag;go_enter func164,ntmps164;go_wp2_with(first|(with_reducible refine nM rfl (.tmp 10) (cA (.tmp 11)) cC cC _ _ cG rfl (ac g n cap) (cA (cE cD i)) cC cC rfl rfl rfl rfl (O.out _) ?_)|(with_reducible refine nM rfl (.tmp 56) cC (cA (.tmp 59)) cC _ _ cG rfl (ac g n cap) cC (cA (cE cD ((n:Int)+1))) cC rfl rfl rfl rfl (ak.out _) ?_)|(with_reducible refine nM rfl (.tmp 62) (cA (.tmp 65)) cC cC _ _ cG rfl (ac g (n+1) cap) (cA (cE cD ((i:Int)+1))) cC cC rfl rfl rfl rfl (x.out _) ?_));refine iA AnyW 8 (.take 0 (.take 1 (.take 2 (.take 3 (.take 4 (.take 5 (.take 6 (.take 7 .done)))))))) kZ kZ ⟨trivial⟩ ?_;(iterate 4 refine tT ?_);apply mM (v:=ac (cA ⟨g,ai,cC⟩) d1 d2);rfl;rfl;(focus(intro W ay;exact lX (E:=44) (s:=.tmp 69) (lo:=cA (.tmp 72)) (hi:=cC) cG rfl rfl (x W)));(focus(go_simp;first|done|rfl));(iterate 2 refine tT ?_);apply mM (v:=ac (cA ⟨g,K,cC⟩) d3 d4);rfl;rfl;(focus(intro W ay;exact lX (E:=44) (s:=.tmp 74) (lo:=cA (.tmp 75)) (hi:=cC) cG rfl rfl (r W)));(focus(go_simp;first|done|rfl));refine fA ?_;show dT cI _ _ (eI 8 _) _ _;simp only[aZ,bB];go_wp2_with(first|(with_reducible refine vP rfl (.tmp 73) (.tmp 76) _ _ rfl (ac (cA ⟨g,ai,cC⟩) d1 d2) (ac (cA ⟨g,K,cC⟩) d3 d4) rfl rfl (M.out _) ?_)|(with_reducible refine vP rfl (.tmp 80) (.tmp 81) _ _ rfl (ac (cA ⟨g,K,cC⟩) d3 d4) (ac l 1 1) rfl rfl (N.out _) ?_)|(with_reducible refine nM rfl (.tmp 78) (cA (.tmp 79)) cC cC _ _ cG rfl (ac g (n+1) cap) (cA (cE cD i)) cC cC rfl rfl rfl rfl (r.out _) ?_));go_ret;exact aj
theorem aiu{B:Nat}{xs:List cS}(b0:B<=g)(M:Blk w g 44 cs)(H:xs.length=n)(au:n<=cap)(b3:cap<=eR)(hs:cs.size=cap*11)(bt:cs.toList.take (n*11)=xs.flatMap fH)(bd:B<=(w:Nat))(b4:n<=1000000)(hi:i<n)(br:cap<n+1)(p:cS){T:gC}{ps:Array cJ}(hv:Blk w l T ps)(bq:ps=(fH p).toArray)(b5:l≠g):cT cI 164 #[ac g n cap,(i:Int),ac l 1 1] w λe w'=>vN 44 11 fH (ac g n cap) (xs.take i++p::xs.drop i) B w e w':=by
 obtain⟨i0,c,bv,o,ax⟩:=eJ pinfo;obtain⟨bb,bc⟩:=YZ (dec:=fH) (k:=11) (λ_=>rfl) xs (i:=i) (cs:=cs.toList) oZ (by rw[H];exact bt);have K:((xs.take i).flatMap fH).length=i*11:=by rw[iN (dec:=fH) (k:=11) λ_=>rfl,bN,gV oZ]
 have am:((xs.drop i).flatMap fH).length=(n-i)*11:=by rw[iN (dec:=fH) (k:=11) λ_=>rfl,fJ,H]
 have bs:(i+1)*11+(n-i)*11=(n+1)*11:=oZ;have bp:(Builtin.firstCells i0.size i (ac g i cap)).run cI w.drew=.ok ((xs.take i).flatMap fH).toArray w.drew:=by
  rw[o];refine run_firstCells_some (P:=cI) (w:=w.drew) 11 i ⟨g,0,cC⟩ i cap _ K (λj u b=>?_);rw[eE,aO,M.drew.cell,<-dF];rw[<-bb,dU]at b;split at b
  .exact b
  .cases b
 obtain⟨G,y⟩:=nZ (grownCap w (n+1) cap 44);have z:n+1<=G:=by rw[<-y];exact grownCap_ge w _ _ _
 have be:G<=eR:=by rw[<-y];exact grownCap_le_maxLen w (n+1) cap 44 (by unfold eR;omega)
 have aq:i+(n+1-i)=n+1:=oZ;obtain⟨a,J⟩:∃a:Array cJ,((xs.take i).flatMap fH).toArray++cL (cU (cY #[(),(),(),(),(),(),(),(),(),(),()])) (n+1-i)++cL (cU (cY #[(),(),(),(),(),(),(),(),(),(),()])) (G-(n+1))=a:=⟨_,rfl⟩;have bm:(cU (cY #[(),(),(),(),(),(),(),(),(),(),()])).size=11:=kZ;have bz:∀m,(cL (cU (cY #[(),(),(),(),(),(),(),(),(),(),()])) m).size=m*11:=λm=>by simp[cL,bm]
 have A:a.size=G*11:=by rw[<-J];simp only[Array.size_append,fO,K,bz];omega
 have bf:a.toList.take (i*11)=(xs.take i).flatMap fH:=by rw[<-J,<-K,Array.toList_append,Array.toList_append,bM,List.toList_toArray,List.take_left]
 have av:∀ty,(fX #[27,3] ty #[ac g i cap,((n:Int)+1-(i:Int):Int)]).run cI w=
   .ok (ac w (n+1) G) (w.drew.alloc (cN a 44)):=λty=>by
  have h:=Lib.run_append_grow_zeros (P:=cI) w 27 3 ty 44 i0 _ cD cD cG underlying3 c bv (cA ⟨g,0,cC⟩) i cap ((xs.take i).flatMap fH) bp (n+1-i) oZ oZ oZ oZ (by rw[ax];omega) (by rw[ax,aq];exact growslice_fits br oZ);rw[aq,y,J]at h;rw[show(n:Int)+1-(i:Int)=((n+1-i:Nat):Int) by omega];exact h
 have O:Blk (w.drew.alloc (cN a 44)) (w:Nat) 44 a:=Blk.new w.drew _ _;have F:aL (λ_=>False) w (w.drew.alloc (cN a 44)):=(eK _ w).drew.alloc _;have bw:(w.drew.alloc (cN a 44)).heap.size=(w:Nat)+1:=sZ;obtain⟨d,a8⟩:=nQ (w.drew.alloc (cN a 44));rw[a8.out]at av O F bw;have bu:=hv.bA F sZ;have bk:=M.bA F sZ;have b6:l≠(w:Nat):=Nat.ne_of_lt hv.lt;have bo:g≠(w:Nat):=Nat.ne_of_lt M.lt;have an:∀ty,(gR #[27,27] ty #[ac (cA ⟨(w:Nat),i*11,cC⟩) (n+1-i) (G-i),ac l 1 1]).run cI d=.ok (iS (gS 1 (n+1-i))) (d.setCells (w:Nat) (i*11) (fH p)):=λty=>
  DL (P:=cI) cG c o O _ (by rw[show gS 1 (n+1-i)=1 by simp only[hJ];split<;>omega];rfl) (λj u b=>by rw[eE,aO,bu.cell,bq];simpa using b) (by rw[A];show i*11+11<=_;omega) (SL p) ty
 have b1:=uE (fH p) (i*11) d _ O;have Q:=sF (w:Nat) (fH p) (i*11) d;obtain⟨w1,aw⟩:=nZ (d.setCells (w:Nat) (i*11) (fH p));rw[aw]at an b1 Q;have bn:=(bk.bA Q bo).drew;have ao:∀ty,(gR #[27,27] ty #[ac (cA ⟨(w:Nat),(i+1)*11,cC⟩) (n+1-(i+1)) (G-(i+1)),ac (cA ⟨g,i*11,cC⟩) (n-i) (cap-i)]).run cI w1.drew=.ok (iS (gS (n-i) (n+1-(i+1)))) (w1.drew.setCells (w:Nat) ((i+1)*11) ((xs.drop i).flatMap fH)):=λty=>
  DL (P:=cI) cG c o (w:=w1.drew) b1.drew _ (by rw[am,show gS (n-i) (n+1-(i+1))=n-i by simp only[hJ];split<;>omega]) (λj u b=>by rw[eE,bn.cell,<-dF];exact bc j u b) (by rw[am,ir,A,bs];exact dD 11 z) (VY _) ty
 have b2:=uE ((xs.drop i).flatMap fH) ((i+1)*11) w1.drew _ b1.drew;have ay:=sF (w:Nat) ((xs.drop i).flatMap fH) ((i+1)*11) w1.drew;obtain⟨a0,a9⟩:=nQ (w1.drew.setCells (w:Nat) ((i+1)*11) ((xs.drop i).flatMap fH));rw[a9.out]at ao b2 ay;have ap:=(abR (dec:=fH) (k:=11) (λ_=>rfl) xs p (cs:=a) (i:=i) oZ (by rw[H,A];exact dD 11 z) bf).2;rw[H]at ap;have aa:=qY (vN 44 11 fH (ac g n cap) (xs.take i++p::xs.drop i) B w (cH (ac w (n+1) G)) a0) (by
  have ar:(xs.take i++p::xs.drop i).length=n+1:=by simp;omega
  refine⟨_,rfl,⟨by rw[iN (dec:=fH) (k:=11) λ_=>rfl],.inr ⟨(w:Nat),G,_,by rw[ar],bd,b2,oZ,be,by simpa using A,by rw[ar];exact ap⟩⟩,?_,λq f=>?_⟩
  .have e1:aL (λq=>q=(w:Nat)) d a0:=(Q.trans (eK _ w1).drew).trans ay;exact(F.mono λq _ f=>f.elim).trans' e1 λq f e=>oZ
  .injection f with f;exact .inr (Nat.le_of_eq f))
 have bg:=xG (P:=cI) (t:=27) cG c o (g:=g) (n:=n) (m:=i) (cap:=cap) oZ au oZ;have bh:=xG (P:=cI) (t:=27) cG c o (g:=(w:Nat)) (n:=n+1) (m:=i) (cap:=G) oZ z oZ;have bi:=xG (P:=cI) (t:=27) cG c o (g:=(w:Nat)) (n:=n+1) (m:=i+1) (cap:=G) oZ z oZ;have bl:=GL (P:=cI) cG c (g:=g) (n:=n) (m:=i) (cap:=cap) oZ au;have I:=qZ bg;have ad:=qZ bh;have ae:=qY (∀W,(eC 27 (ac w (n+1) G) (cA (cE cD ((i:Int)+1))) cC cC).run cI W=.ok (ac (cA ⟨(w:Nat),(i+1)*11,cC⟩) (n+1-(i+1)) (G-(i+1))) W) (λW=>by have:=bi W;rwa [Int.natCast_succ]at this);have a5:=qZ bl;have ab:=qZ av;have Y:=qZ an;have Z:=qZ ao;have b8:((i:Int)==(n:Int))=cV:=by rw[beq_eq_false_iff_ne];omega
 have b9:(cap:Int)<(n:Int)+1:=oZ;have b7:IntKind.i64.wrap ((i:Int)+1)=(i:Int)+1:=by rw[hC];omega
 obtain⟨d1,af⟩:=nQ (n+1-(i+1));obtain⟨d2,ag⟩:=nQ (G-(i+1));obtain⟨d3,ah⟩:=nQ (n+1-i);obtain⟨d4,ai⟩:=nQ (cap-i);obtain⟨d5,aj⟩:=nQ (n-i);obtain⟨ba,ak⟩:=nQ (G-i);obtain⟨az,al⟩:=nQ ((i+1)*11);obtain⟨X,x⟩:=nQ (i*11);obtain⟨N,r⟩:=nQ (w:Nat);rw[aj.out,ai.out,x.out]at I;rw[ah.out,ak.out,x.out,r.out]at ad;rw[af.out,ag.out,al.out,r.out]at ae;rw[ah.out,ak.out,x.out,r.out]at Y;rw[af.out,ag.out,ai.out,aj.out,al.out,x.out,r.out]at Z;rw[r.out]at ab aa;clear y aw;go_enter func164,ntmps164;go_wp2_with(first|(with_reducible refine nM rfl (.tmp 10) (cA (.tmp 11)) cC cC _ _ cG rfl (ac g n cap) (cA (cE cD i)) cC cC rfl rfl rfl rfl (I.out _) ?_)|(with_reducible refine nM rfl (.tmp 32) cC (cA (.tmp 33)) cC _ _ cG rfl (ac g n cap) cC (cA (cE cD i)) cC rfl rfl rfl rfl (a5.out _) ?_)|(at_builtin;refine cK rfl (.tmp 34) (.tmp 39) _ _ rfl (ac g i cap) (cE cD ((n:Int)+1-(i:Int))) rfl rfl (ab.out _) ?_)|(with_reducible refine nM rfl (.tmp 41) (cA (.tmp 42)) cC cC _ _ cG rfl (ac N (n+1) G) (cA (cE cD i)) cC cC rfl rfl rfl rfl (ad.out _) ?_)|(with_reducible refine vP rfl (.tmp 43) (.tmp 44) _ _ rfl (ac (cA ⟨N,X,cC⟩) d3 ba) (ac l 1 1) rfl rfl (Y.out _) ?_));refine iA AnyW 8 (.take 0 (.take 1 (.take 2 (.take 3 (.take 4 (.take 5 (.take 6 (.take 7 .done)))))))) kZ kZ ⟨trivial⟩ ?_;(iterate 4 refine tT ?_);apply mM (v:=ac (cA ⟨N,az,cC⟩) d1 d2);rfl;rfl;(focus(intro W bj;exact lX (E:=44) (s:=.tmp 46) (lo:=cA (.tmp 49)) (hi:=cC) cG rfl rfl (ae W)));(focus(go_simp;first|done|rfl));(iterate 2 refine tT ?_);apply mM (v:=ac (cA ⟨g,X,cC⟩) d5 d4);rfl;rfl;(focus(intro W bj;exact lX (E:=44) (s:=.tmp 51) (lo:=cA (.tmp 52)) (hi:=cC) cG rfl rfl (I W)));(focus(go_simp;first|done|rfl));refine fA ?_;show dT cI _ _ (eI 8 _) _ _;simp only[aZ,bB];go_wp2_with(with_reducible refine vP rfl (.tmp 50) (.tmp 53) _ _ rfl (ac (cA ⟨N,az,cC⟩) d1 d2) (ac (cA ⟨g,X,cC⟩) d5 d4) rfl rfl (Z.out _) ?_);go_ret;exact aa
def akq(p:cS->Bool)(rl:List cS)(w:cM)(e:eS)(w':cM):Prop:=(e=cH (cE cD (-1))/\rl.find? p=cC\/∃(k:Nat) (h:k<rl.length),e=cH k/\rl.find? p=cA rl[k]/\(rl.take k).find? p=cC)/\cF w w w'
theorem ala{xs:List cS}(h:gF w A 11 (λp=>(eF p).toList) xs)(a:k<xs.length):∃b o,A=cA ⟨b,o,cC⟩/\b<(w:Nat)/\∀w',cF w w w'->∀j u,(eF xs[k])[j]? =cA u->w'.cell? ⟨b,o+k*11+j,cC⟩=cA u:=by obtain⟨b,o,rfl,c,f⟩:=h (by intro e;subst e;simp at a);refine⟨b,o,rfl,c,λw' d j u g=>?_⟩;exact(d.cell (p:=⟨b,o+k*11+j,cC⟩) c).trans (f k xs[k] (aH a) j u (by simpa using g))
theorem RZ(aa:PSl w vr ps)(Y:ps.length<=1000000)(d b:Nat)(q:cS->Bool)(ah:∀a W,(iv d a).run cI W=.ok (.enter d a) W)(Z:∀p W,cF w w W->cT cI d #[cY (eF p),cQ b] W λe w'=>e=cH (cW (q p))/\cF W W w'):∀w1,cF w w w1->cT cI 158 #[vr,.func (.func d) #[] #[cQ b]] w1 λe w'=>akq q ps w1 e w':=by
 intro w1 r;obtain⟨R,ag,rfl,al,ai,ab,an⟩:=aa;have u:=qZ (λp W (h:cF w1 w1 W)=>Z p W (aA r h));have z:=qZ (ab.below r);obtain⟨N,m⟩:=nQ ps.length;rw[m.out]at Y⊢;go_enter func158,ntmps158;go_wp2_with fail;go_loopg[8] N (λL ad wr=>∃k:Nat,ad=cE cD k/\k<=N/\N<=L+k/\Hid ((ps.take k).find? q=cC)/\Hid (cF w1 w1 wr));exact⟨0,mZ,oZ,oZ,qZ sZ,qZ (aK _ _)⟩
 obtain⟨k,rfl,ak,aj,i,f⟩:=hrel;by_cases T:k<N
 .have X:(k:Int)<(N:Int):=oZ;have j:k<ps.length:=by rw[m.out];exact T
  obtain⟨af,ao,rfl,am,Q⟩:=ala z j;have c:=Q wr f;obtain⟨s,n⟩:=nQ (q ps[k]);have g:=qZ (u ps[k] wr f);rw[n.out]at g;have H:Hid (s=cP->∃h:k<ps.length,ps.find? q=cA (ps[k]'h)):=qZ (λe=>⟨j,WE q ps j i (n.out.trans e)⟩);have y:=qZ (λe:s=cV=>DI q ps j i (n.out.trans e));obtain⟨x,I⟩:=nQ (ps[k]);rw[I.out]at c g;obtain⟨ap,p1,aw,⟨n0,n1,n2⟩,p6,ar,au,av,aq⟩:=x;simp only[eF]at c g;obtain⟨J,c1,c2,c3,c4,c5,c6,c7,c8,c9,c10⟩:=aC (c 0 _ rfl) (aC (c 1 _ rfl) (aC (c 2 _ rfl) (aC (c 3 _ rfl) (aC (c 4 _ rfl) (aC (c 5 _ rfl) (aC (c 6 _ rfl) (aC (c 7 _ rfl) (aC (c 8 _ rfl) (aC (c 9 _ rfl) (c 10 _ rfl))))))))));rw[hQ]at J;cases s
  .have A:=qZ (y rfl);go_wp2_with fail;refine g.out.mono ?_;rintro K ae⟨rfl,o⟩;have l:=qZ (aA f o);go_wp2_with fail;go_roundg(N-(k+1));exact⟨k+1,mZ,oZ,oZ,A,l⟩;omega
  .have F:=qZ (H rfl);go_wp2_with fail;refine g.out.mono ?_;rintro K ae⟨rfl,o⟩;have l:=qZ (aA f o);go_wp2_with fail;go_ret;obtain⟨M,O⟩:=F.out;exact⟨.inr ⟨k,M,rfl,O,i⟩,l⟩
 .have X:¬(k:Int)<(N:Int):=oZ;have v:=qY (ps.find? q=cC) (by have:=i.out;rwa [aU (by have:=m.out;omega)]at this);go_wp2_with fail;go_ret;exact⟨.inl ⟨rfl,v⟩,f⟩
def ank(ps:List cS)(id:Int)(w:cM)(e:eS)(w':cM):Prop:=e=cH (cE cD (match oC ps id with|some k=>(k:Int)|none=> -1))/\cF w w w'
theorem TL(id:Int):∀ps:List cS,ps.find? (λp=>p.id==id)=cC->oC ps id=cC
 |[],_=>rfl
 |p::t,h=>by
  rw[dC]at h;unfold oC;by_cases e:p.id=id
  .simp[e]at h
  .rw[aF e];have e2:(p.id==id)=cV:=by simpa using e
   rw[e2]at h;rw[TL id t h];rfl
theorem TK(id:Int):∀(ps:List cS) (k:Nat) (a:k<ps.length),(ps.take k).find? (λp=>p.id==id)=cC->(ps[k].id==id)=cP->oC ps id=cA k
 |[],k,a,_,_=>by simp at a
 |p::t,0,a,_,h=>by unfold oC;rw[aI (by simpa using h)]
 |p::t,k+1,a,b,h=>by
  rw[hO,dC]at b;unfold oC;by_cases e:p.id=id
  .simp[e]at b
  .have e2:(p.id==id)=cV:=by simpa using e
   rw[e2]at b;rw[aF e,TK id t k (by simpa using a) b (by simpa using h)];rfl
theorem YD(m:PSl w vr ps)(z:ps.length<=1000000)(id:Int):∀w1,cF w w w1->cT cI 105 #[vr,id] w1 λe w'=>ank ps id w1 e w':=by
 intro w1 u;have g:cF w1 w1 (w1.alloc (cN #[id] 3)):=bZ;have b:Blk (w1.alloc (cN #[id] 3)) (w1:Nat) 3 #[id]:=Blk.new _ _ _;have F:=(show PSl (w1.alloc (cN #[id] 3)) vr ps from by obtain⟨R,d,e,j,i,n,l⟩:=m;exact⟨R,d,e,j,i,(n.below u).below g,l⟩);have r:=qZ (RZ F z 159 (w1:Nat) (λp=>p.id==id) (λ_ _=>kZ) (λp W f=>amr p id (w1:Nat) W (aM b.lt f.size) ((b.below f b.lt).cell 0)) _ (aK _ _));have o:=qZ g;obtain⟨R,d,rfl,j,i,n,l⟩:=m;generalize ps.length=NN at*;go_enter func105,ntmps105;go_wp2_with fail;refine r.out.mono ?_;rintro e H⟨x,v⟩;have c:=qZ (aA o v);rcases x with⟨rfl,A⟩|⟨k,y,rfl,hs,s⟩
 .have a:=qZ (TL id ps A);go_wp2_with fail;go_ret;exact⟨by rw[a.out];rfl,c⟩
 .have a:=qZ (TK id ps k y s (ij (p:=λp:cS=>p.id==id) hs));go_wp2_with fail;go_ret;exact⟨by rw[a.out];rfl,c⟩
theorem yJ{B:Nat}(h:bL w B 44 11 fH v ps)(a:∀p∈ps,POk p):PSl w v ps:=by
 obtain⟨A,cap,e,b⟩:=h.sl (λ_=>rfl);rcases h.form with⟨e2,rfl⟩|⟨g,c2,e2,_,_,c,d⟩
 .rw[e2]at e;cases e;exact⟨cC,0,e2,bG _,by unfold eR;omega,b,a⟩
 .rw[e2]at e;cases e;exact⟨_,_,e2,c,d,b,a⟩
theorem zX(h:PSl w v ps)(c:ps.length<=1000000):∀w1,cF w w w1->cT cI 77 #[v] w1 λe w'=>∃v',e=cH v'/\bL w' w1 44 11 fH v' ps/\cF w1 w1 w':=λw1 a=>by obtain⟨A,cap,e,_,_,b,_⟩:=h;exact uQ abJ pinfo rfl oZ hN pel (w:=w1) (show SlK w1 11 fH v ps from⟨A,cap,e,b.below a⟩) (by unfold eR;omega) oZ
theorem FZ(id:Int):∀ps:List cS,oC ps id=cC->mE ps id=ps
 |[],_=>rfl
 |p::t,h=>by
  unfold oC at h;unfold mE;by_cases e:p.id=id
  .rw[aI e]at h;cases h
  .rw[aF e]at h⊢;rw[FZ id t (by simpa using h)]
theorem RH(id:Int):∀(ps:List cS) (k:Nat),oC ps id=cA k->k<ps.length/\mE ps id=ps.eraseIdx k
 |[],k,h=>by cases h
 |p::t,k,h=>by
  unfold oC at h;unfold mE;by_cases e:p.id=id
  .rw[aI e]at h⊢;cases h;simp
  .rw[aF e]at h⊢;cases a:oC t id with
   |none=>rw[a]at h;cases h
   |some j=>
    rw[a]at h;cases h;obtain⟨b,c⟩:=RH id t j a;exact⟨by simpa using b,by rw[c];rfl⟩
def acT(qs:List cS)(w1:cM)(e:eS)(w':cM):Prop:=∃v',e=cH v'/\bL w' w1 44 11 fH v' qs/\cF w1 w1 w'
def MK(ps:List cS)(id:Int)(w1:cM)(e:eS)(w':cM):Prop:=∃v',e=cH (eA #[v',cW (oC ps id).isSome])/\bL w' w1 44 11 fH v' (mE ps id)/\cF w1 w1 w'
theorem XW(l:PSl w vr ps)(j:ps.length<=1000000)(id:Int):∀w1,cF w w w1->cT cI 53 #[vr,id] w1 λe w'=>MK ps id w1 e w':=by
 intro w1 r;have m:=qZ (zX l j w1 r);have n:=qZ (λW (h:cF w1 w1 W)=>YD l j id W (aA r h));have F:=qZ (RH id ps);have y:=qZ (FZ id ps);obtain⟨A,cap,rfl,_⟩:=l;obtain⟨N,f⟩:=nQ ps.length;rw[f.out]at j m n⊢;go_enter func53,ntmps53;go_wp2_with fail;refine m.mono ?_;rintro e Z⟨v',rfl,K,H⟩;have z:=qZ K;have o:=qZ H;go_wp2_with fail;refine(n _ o).mono ?_;rintro e O⟨a,s⟩;have g:=qZ (z.below s);have c:=qZ (aA o s);cases b:oC ps id with
 |none=>
  rw[b]at a;have d:=qY (MK ps id w1 (cH (eA #[v',cW cV])) O) (⟨v',by rw[b];rfl,by rw[y.out b];exact g,c⟩);simp only at a;subst a;go_wp2_with fail;go_ret2;exact d
 |some k=>
  rw[b]at a;obtain⟨I,M⟩:=F.out k b;have u:=qZ (alx g (λx _=>SL x) (by rw[f.out];omega) I);have p:=qZ (aC M b);have v:=qZ (g.out.lt);have X:IntKind.i64.wrap ((k:Int)+1)=(k:Int)+1:=by rw[hC];have:=f.out;omega
  simp only at a;subst a;have Y:¬((k:Int)<0):=oZ;go_wp2_with fail;refine u.mono ?_;rintro e Q⟨v4,rfl,L,J,T⟩;have d:=qY (MK ps id w1 (cH (eA #[v4,cW cP])) Q) (⟨v4,by rw[p.out.2];rfl,by rw[p.out.1];exact L,c.out.trans (J.below (Below.size c) λi hi=>(v i hi).1)⟩);go_wp2_with fail;go_ret2;exact d
theorem XZ(p:cS):∀ps:List cS,ps.find? (λx=>decide (p.seq<x.seq))=cC->nG p ps=ps++[p]
 |[],_=>rfl
 |x::t,h=>by
  rw[dC]at h;unfold nG;by_cases e:p.seq<x.seq
  .simp[e]at h
  .rw[aF e];have e2:decide (p.seq<x.seq)=cV:=dS e;rw[e2]at h;rw[XZ p t h];rfl
theorem XY(p:cS):∀(ps:List cS) (k:Nat) (a:k<ps.length),(ps.take k).find? (λx=>decide (p.seq<x.seq))=cC->decide (p.seq<ps[k].seq)=cP->nG p ps=ps.take k++p::ps.drop k
 |[],k,a,_,_=>by simp at a
 |x::t,0,a,_,h=>by unfold nG;rw[aI (by simpa using h)];rfl
 |x::t,k+1,a,b,h=>by
  rw[hO,dC]at b;unfold nG;by_cases e:p.seq<x.seq
  .simp[e]at b
  .have e2:decide (p.seq<x.seq)=cV:=dS e;rw[e2]at b;rw[aF e,XY p t k (by simpa using a) b (by simpa using h)];rfl
def JD(p:cS)(ps:List cS)(k:Nat):Prop:=k<=ps.length/\nG p ps=ps.take k++p::ps.drop k
theorem alu{B:Nat}{xs:List cS}(h:bL w B 44 11 fH v xs)(c:B<=(w:Nat))(b:xs.length<=1000000)(p:cS){T:gC}(hv:Blk w n T cs)(a:cs=(fH p).toArray)(x:v.ownBlock≠cA n)(r:JD p xs k):cT cI 164 #[v,(k:Int),ac n 1 1] w λe w'=>vN 44 11 fH v (nG p xs) B w e w':=by
 obtain⟨A,o⟩:=r;rw[o];by_cases s:k=xs.length
 .subst s;rw[hY,List.drop_length];exact als h c b p hv a
 .have l:k<xs.length:=oZ;obtain⟨_,⟨rfl,z⟩|⟨g,cap,cur,rfl,d,f,u,i,hs,m⟩⟩:=h
  .omega
  .have j:n≠g:=λe=>x (by rw[e];rfl);by_cases y:xs.length+1<=cap
   .exact afC d f rfl i hs m b l y p hv a j
   .exact aiu d f rfl u i hs m c b l oZ p hv a j
theorem MB(aj:PSl w vr ps)(M:ps.length<=1000000)(p:cS):∀w1,cF w w w1->cT cI 108 #[vr,cY (eF p)] w1 λe w'=>acT (nG p ps) w1 e w':=by
 intro w1 av;obtain⟨a,ad⟩:=nQ (w1.alloc (cN (eF p) 44));have aw:=aB ad;have am:Blk a w1 44 (eF p):=by rw[<-ad.out];exact Blk.new _ _ _
 have ao:=qZ (RZ (pV aj (aA av aw)) M 162 (w1:Nat) (λx=>decide (p.seq<x.seq)) (λ_ _=>kZ) (λx W af=>alz x p (w1:Nat) W (am.below af am.lt)) a (aK _ _));have X:=qZ (λW (h:cF w1 w1 W)=>zX aj M W (aA av h));have K:=qY (∀W v O (k:Nat),bL W w1 44 11 fH v ps->(w1:Nat)<=(W:Nat)->Blk W O 44 (eF p)->v.ownBlock≠cA O->JD p ps k->cT cI 164 #[v,(k:Int),ac O 1 1] W λe w'=>vN 44 11 fH v (nG p ps) (w1:Nat) W e w') (λW v O k h bd hv bg ah=>alu h bd M p hv rfl bg ah);have ab:=qY (∀e w',akq (λx=>decide (p.seq<x.seq)) ps a e w'->(e=cH (cE cD (-1))/\JD p ps ps.length\/∃k:Nat,e=cH k/\JD p ps k)/\cF a a w') (λe w' ⟨h,y⟩=>by
  refine⟨?_,y⟩;rcases h with⟨rfl,bf⟩|⟨k,ah,rfl,hs,bc⟩
  .exact .inl ⟨rfl,bG _,by rw[hY,List.drop_length];exact XZ p ps bf⟩
  .exact .inr ⟨k,rfl,oZ,XY p ps k ah bc (ij (p:=λx:cS=>decide (p.seq<x.seq)) hs)⟩)
 have au:=qZ am;have s:=qZ aw;obtain⟨A,cap,rfl,_⟩:=aj;obtain⟨N,a8⟩:=nQ ps.length;rw[a8.out]at M X ao ab⊢;obtain⟨Q,ba⟩:=nQ (nG p ps);rw[ba.out]at K⊢;have a0:=qY (∀k:Nat,JD p ps k->JD p ps k) (λ_ h=>h);obtain⟨ae,a9⟩:=nQ (JD p ps);rw[a9.out]at K ab a0;obtain⟨i,p1,o,⟨n0,n1,n2⟩,p6,l,m,n,j⟩:=p;simp only[eF]at*;go_enter func108,ntmps108;go_wp2_with fail;rw[ad.out];refine ao.mono ?_;intro e bj ag;obtain⟨ag,be⟩:=ab.out e bj ag;have ap:=qZ be;have az:=qZ ag;have bh:∃u:Int,e=cH u/\((u= -1/\ae N)\/∃k:Nat,u=k/\ae k):=by
  rcases az.out with⟨h,f⟩|⟨k,h,f⟩
  .exact⟨-1,h,.inl ⟨rfl,f⟩⟩
  .exact⟨k,h,.inr ⟨k,rfl,f⟩⟩
 obtain⟨u,rfl,bi⟩:=bh;have a5:=qZ bi
 go_upto_if 10 with fail
 go_cut[5] (λv bk=>∃k:Nat,v=cE cD k/\Hid (ae k)/\Hid (cF a a bk));case first=>
  rcases a5.out with⟨rfl,f⟩|⟨k,rfl,f⟩
  .have Y:=qZ f;go_wp2_with fail;go_meet;exact⟨N,rfl,Y,ap⟩
  .have Y:=qZ f;have bm:¬((k:Int)<0):=oZ;go_wp2_with fail;go_meet;exact⟨k,rfl,Y,ap⟩
 case rest=>
  obtain⟨k,rfl,aq,ay⟩:=hcut;go_wp2_with fail;have bl:∀W,aD a W->CI W w1 0 i/\CI W w1 1 p1/\CI W w1 2 o/\CI W w1 3 n0/\CI W w1 4 n1/\CI W w1 5 n2/\CI W w1 6 p6/\CI W w1 7 l/\CI W w1 8 m/\CI W w1 9 n/\CI W w1 10 j:=λW af=>have x:=(au.below af au.out.lt);⟨x.cell 0,x.cell 1,x.cell 2,x.cell 3,x.cell 4,x.cell 5,x.cell 6,x.cell 7,x.cell 8,x.cell 9,x.cell 10⟩;have H:aD a wc.drew:=aA ay (cR wc);refine iA (aD a) 5 (.take 0 (.take 2 (.take 3 (.two 1 4 (.one 4 .done) (.one 1 .done))))) kZ kZ H ?_;(iterate 3 refine tT ?_);refine wH ?_ ?_
  .refine tC ?_;refine(X _ (aA s H)).mono ?_;rintro e c⟨r,rfl,I,z⟩;have ax:aD a c:=aA H z;refine⟨r,rfl,ax,?_⟩;have T:Blk (c.alloc (cN #[i,p1,o,n0,n1,n2,p6,l,m,n,j] 44)) (c:Nat) 44 #[i,p1,o,n0,n1,n2,p6,l,m,n,j]:=Blk.new _ _ _;have L:=(aK (c:Nat) c).alloc lZ (cN #[i,p1,o,n0,n1,n2,p6,l,m,n,j] 44);have g:aD a _:=aA ax L;refine dQ ?_;apply kD;rfl;rfl;(focus(go_simp;first|done|exact⟨rfl,rfl⟩));exact g;(focus(go_simp;first|done|rfl));have J:=aA s H;have F:=I.lt;have G:=qZ (K _ r (c:Nat) k ((I.below L).low J.size) (aA s g).size T (λe=>by have:=(F _ e).2;omega) aq);have d:=qZ (aA s g);have aa:=qY (∀b,r.ownBlock=cA b->(w1:Nat)<=b) (λb y=>bC J.size (F b y).1);refine fA ?_;show dT cI _ _ (eI 5 _) _ _;simp only[aZ,bB];go_wp2_with fail;refine G.mono ?_;rintro e al⟨v4,rfl,ak,ai,_⟩;have Z:=qY (acT Q w1 (cH v4) al) (⟨v4,rfl,ak,d.out.trans (ai.below d.size aa)⟩);go_wp2_with fail;go_ret;exact Z
  .have T:Blk (wc.drew.alloc (cN #[i,p1,o,n0,n1,n2,p6,l,m,n,j] 44)) (wc:Nat) 44 #[i,p1,o,n0,n1,n2,p6,l,m,n,j]:=Blk.new _ _ _;have L:=(aK wc.drew.heap.size wc.drew).alloc lZ (cN #[i,p1,o,n0,n1,n2,p6,l,m,n,j] 44);have g:aD a _:=aA H L;apply kD;rfl;rfl;(focus(go_simp;first|done|exact⟨rfl,rfl⟩));exact g;(focus(go_simp;first|done|rfl));refine dQ ?_;refine tC ?_;have an:=qZ T;have d:=qZ (aA s g);refine(X _ d).mono ?_;rintro e c⟨r,rfl,I,z⟩;refine⟨r,rfl,aA g z,?_⟩;have F:=I.lt;have J:=aA d z;have bb:=an.out.lt;have G:=qZ (K c r (wc:Nat) k (I.low d.size) J.size (an.below z bb) (λe=>by have:=(F _ e).1;omega) aq);have aa:=qY (∀b,r.ownBlock=cA b->(w1:Nat)<=b) (λb y=>bC d.size (F b y).1);have ar:=qZ J;refine fA ?_;show dT cI _ _ (eI 5 _) _ _;simp only[aZ,bB];go_wp2_with fail;refine G.mono ?_;rintro e al⟨v4,rfl,ak,ai,_⟩;have Z:=qY (acT Q w1 (cH v4) al) (⟨v4,rfl,ak,ar.out.trans (ai.below ar.size aa)⟩);go_wp2_with fail;go_ret;exact Z
theorem ahP{B:Nat}(h:jS W B v rl)(O:B<=(W:Nat)){x:Run}(s:ISl W x.hv x.aR)(A:x.aR≠[]->∀b,x.hv.ownBlock=cA b->v.ownBlock≠cA b)(Q:rl.length<=1000000):∃v' f,(fX #[28,28] 28 #[v,ac W 1 1]).run cI (W.alloc (cN (lV x).toArray 86))=.ok v' f/\jS f B v' (rl++[x])/\aL (λi=>v.ownBlock=cA i) W f/\∀b,v'.ownBlock=cA b->v.ownBlock=cA b\/(W:Nat)<=b:=by
 obtain⟨i0,hi,L,M,N⟩:=eJ RU;have n:cF W W (W.alloc (cN (lV x).toArray 86)):=bZ;have a:=h.below n;have K:=qA (k:=14) (dec:=lV) (x:=x) (Blk.new W 86 (lV x).toArray) rfl;obtain⟨v',f,e1,e2,e3,e4,p⟩:=lF 28 28 i0 _ 128 dE hi L M N rfl oZ (λ_=>rfl) (ys:=[x]) (m:=1) (c:=1)
  (λu r=>by simp only[dA,jU,eZ,lV,bH,dL,or_false]at r;rcases r with rfl|rfl|rfl|rfl|rfl|rfl|rfl|rfl|rfl|rfl|rfl|rfl|rfl|rfl<;>first|rfl|exact FJ s) a.1 rfl K (by simp;omega) (by unfold eR;omega) oZ
 have I:=h.1.lt;have all:∀y∈rl++[x],ISl W y.hv y.aR/\(y.aR≠[]->∀b,y.hv.ownBlock=cA b->v.ownBlock≠cA b):=λy d=>by
  rcases dM.1 d with d|d
  .exact⟨(h.2 y d).1,λJ b o e=>(h.2 y d).2 J b e o⟩
  .have:y=x:=by simpa using d
   subst this;exact⟨s,A⟩
 refine⟨v',f,e1,⟨e2,λy d=>?_⟩,(ix n).trans' (je (F:=λi=>v.ownBlock=cA i) e3 λi hi=>hi) λi _ hi=>hi,λb o=>?_⟩
 .obtain⟨a1,a2⟩:=all y d;refine⟨IE (a1.below n) e3 λj g H e=>a2 j g e H,λj b w l=>?_⟩;rcases p b w with a|a
  .exact a2 j b l a
  .obtain⟨c,z,I⟩:=zJ a1 j;rw[z]at l;injection l with l;simp at a;omega
 .rcases p b o with a|a
  .exact .inl a
  .simp at a;exact .inr oZ
theorem abj{B:Nat}{l:List Int}(h:bL w B 3 1 iL v l):ISl w v l:=by
 obtain⟨A,cap,e,a⟩:=h.sl (λ_=>rfl);refine⟨A,cap,e,a,?_⟩;rcases h.form with⟨_,rfl⟩|⟨_,_,_,_,_,b,c⟩
 .exact bI _
 .omega
structure tO (rb pb:Nat) (cs ps:Array Value) (W:World):Prop where
 box:Blk W rb 91 cs
 dV:Blk W pb 44 ps
theorem tO.on{c b:Nat}{ps:Array cJ}(h:tO c b cs ps w)(a:cF w w w'):tO c b cs ps w':=⟨h.box.below a h.box.lt,h.dV.below a h.dV.lt⟩
def amV(L:Nat)(wm w:cM)(rb:Nat)(v1 v2 vh vr ve:cJ)(s:hD)(o:Option fL)(e:eS)(w':cM):Prop:=
 match o with
 |none=>e=cH (cW cV)/\cF w w w'
 |some y=>e=cH (cW cP)/\oG L wm w rb v1 v2 vh vr ve s y w'
theorem amQ(c:Cfg.C)(aQ:Int)(x:fL)(p:cS)(a:Option (Int×List Int))(h:cX c x.rs p=a):iy c aQ x p=if(!a.isSome||(x.head&& !vT aQ p x.start))=cP then cC else cA {x with ps:=mE x.ps p.id,rs:=x.rs++[⟨p,aQ,(a.map (·.1)).getD 0,(a.map (·.2)).getD []⟩],ev:=x.ev++[⟨1,p.id,(a.map (·.1)).getD 0⟩]}:=by
 unfold iy;rw[h];cases a with
 |none=>rfl
 |some q=>
  obtain⟨fl,hs⟩:=q;simp only[Option.isSome_some,Bool.not_true,Bool.false_or,fW,hA]
theorem ZT{ck:cM}{L d:Nat}{ah N:cJ}{x:fL}(h:mD L ck w d v1 v2 ah vp vr N s rl x)(bc:BZ x)(de:x.ev.length<=100000)(dj:zD s.c)(dm:0<=s.aQ/\s.aQ<=1099511627776)(p:cS)(a8:GOk p):cT cI 83 #[cQ (cA ⟨d,0,cC⟩),cY (eF p)] w λe w'=>amV L ck w d v1 v2 ah vr N s (iy s.c s.aQ x p) e w':=by
 have du:=h.on.size;have df:=h.flt;obtain⟨g,ap⟩:=nZ (w.alloc (cN (eF p) 44));have b9:=aB ap;have d7:Blk g w 44 (eF p):=by rw[<-ap];exact Blk.new _ _ _
 have k:=h.dN b9;have di:rl.length<=100:=by have:=bc.len.2;rw[<-h.map]at this;simpa using this
 have cu:tO d (w:Nat) #[v1,v2,s.c.aG,s.c.aJ,s.aQ,s.next,vp,vr,ah,N,cW x.head,x.start] (eF p) g:=⟨k.box,d7⟩;have bg:=qY (∀W,cF w w W->cT cI 23 #[cY #[v1,v2,s.c.aG,s.c.aJ],vr,dV p] W λe w'=>yT (cX s.c x.rs p) W e w') (λW a=>by have an:=h.dN a;have:=IL (an.cfg.below an.on) (an.rs.runs oZ) dj p a8.num a8.lev W (aK _ _);rw[an.map]at this;exact this);have aj:=qZ (abG p s.aQ x.start ⟨dm.1,oZ⟩ a8.run);have bj:=qY (∀W,cF w w W->cT cI 53 #[vp,p.id] W λe w'=>MK x.ps p.id W e w') (λW a=>XW h.ps (by have:=bc.len.1;omega) p.id W a);obtain⟨ai,bu⟩:=nQ (cX s.c x.rs p);rw[amQ s.c s.aQ x p ai bu.out];rw[bu.out]at bg;obtain⟨ch,ct⟩:=nQ (vT s.aQ p x.start);rw[ct.out]at aj⊢;obtain⟨be,bw⟩:=nQ ai.isSome;obtain⟨fl,bv⟩:=nQ ((ai.map (·.1)).getD 0);obtain⟨aR,X⟩:=nZ ((ai.map (·.2)).getD []);obtain⟨q,a9⟩:=nZ ((!be||(x.head&& !ch)));rw[bw.out,bv.out,X,a9];have bh:=qY (∀W,cF w w W->cT cI 23 #[cY #[v1,v2,s.c.aG,s.c.aJ],vr,dV p] W λe w'=>∃v',e=cH (eA #[fl,v',cW be])/\bL w' W 3 1 iL v' aR/\cF W W w') (λW a=>by have:=bg.out W a;unfold yT at this;rw[bw.out,bv.out,X]at this;exact this);have ab:=qZ h;have a0:=qZ (aC bc (aC de di));have f:=qZ cu;have av:=qZ b9;have O:=qZ df;have bt:=qZ ap;have bp:=qZ a9;clear X a9 ap;obtain⟨ep,d9⟩:=nQ x.rs;obtain⟨ca,bl⟩:=nQ x.head;obtain⟨st,bz⟩:=nQ x.start;rw[bl.out,bz.out]at f;rw[bl.out]at bp;rw[bz.out]at aj;obtain⟨r,p1,I,⟨n0,n1,n2⟩,p6,F,H,M,K⟩:=p;simp only[eF,dV,gK]at bh aj bj f bt;simp only[eF];go_enter func83,ntmps83;go_wp2_with fail;rw[bt.out];have ed:∀W,aD g W->W.cell? ⟨d,0,cC⟩=cA v1:=λW a=>(f.out.on a).box.cell 0;have c1:∀W,aD g W->W.cell? ⟨d,1,cC⟩=cA v2:=λW a=>(f.out.on a).box.cell 1;have c2:∀W,aD g W->W.cell? ⟨d,2,cC⟩=cA (cE cD s.c.aG):=λW a=>(f.out.on a).box.cell 2;have c3:∀W,aD g W->W.cell? ⟨d,3,cC⟩=cA (cE cD s.c.aJ):=λW a=>(f.out.on a).box.cell 3;have c7:∀W,aD g W->W.cell? ⟨d,7,cC⟩=cA vr:=λW a=>(f.out.on a).box.cell 7;have am:∀W,aD g W->W.cell? ⟨w,0,cC⟩=cA (cE cD r):=λW a=>(f.out.on a).dV.cell 0;have b0:∀W,aD g W->W.cell? ⟨w,1,cC⟩=cA (cE cD p1):=λW a=>(f.out.on a).dV.cell 1;have b1:∀W,aD g W->W.cell? ⟨w,2,cC⟩=cA (cE cD I):=λW a=>(f.out.on a).dV.cell 2;have b2:∀W,aD g W->W.cell? ⟨w,3,cC⟩=cA (cE cD n0):=λW a=>(f.out.on a).dV.cell 3;have b3:∀W,aD g W->W.cell? ⟨w,4,cC⟩=cA (cE cD n1):=λW a=>(f.out.on a).dV.cell 4;have b4:∀W,aD g W->W.cell? ⟨w,5,cC⟩=cA (cE cD n2):=λW a=>(f.out.on a).dV.cell 5;have b5:∀W,aD g W->W.cell? ⟨w,6,cC⟩=cA (cE cD p6):=λW a=>(f.out.on a).dV.cell 6;have b6:∀W,aD g W->W.cell? ⟨w,7,cC⟩=cA (cE cD F):=λW a=>(f.out.on a).dV.cell 7;have b7:∀W,aD g W->W.cell? ⟨w,8,cC⟩=cA (cE cD H):=λW a=>(f.out.on a).dV.cell 8;refine jB (aD g) (.take 0 (.take 1 (.take 2 (.take 3 (.take 4 (.take 5 (.take 6 (.take 7 (.take 8 (.take 9 (.take 10 (.take 11 (.one 12 (.take 13 (.take 14 (.take 15 (.take 16 (.take 17 (.take 18 (.take 19 .done)))))))))))))))))))) kZ kZ (cR g) ?_;(iterate 12 refine tT ?_);refine dQ ?_;refine tC ?_;refine(bh.out _ (aA av.out (cR g))).mono ?_;rintro e l⟨cj,rfl,ds,db⟩;have ce:aD g l:=aA (cR g) db;refine⟨_,rfl,ce,?_⟩;have bq:=qZ (ds.low (show(w:Nat)<=_ from av.out.size));have u:=qZ ce;(iterate 7 refine tT ?_);refine fA ?_;go_upto_region 2 with fail;go_cut[47] (λb d6=>b=cW q/\Hid (aD l d6));case first=>
  have ec:∀W,aD l W->W.cell? ⟨d,4,cC⟩=cA (cE cD s.aQ):=λW a=>(f.out.on (aA u.out a)).box.cell 4;have ea:∀W,aD l W->W.cell? ⟨d,10,cC⟩=cA (cW ca):=λW a=>(f.out.on (aA u.out a)).box.cell 10;have eb:∀W,aD l W->W.cell? ⟨d,11,cC⟩=cA (cE cD st):=λW a=>(f.out.on (aA u.out a)).box.cell 11;have am:∀W,aD l W->W.cell? ⟨w,0,cC⟩=cA (cE cD r):=λW a=>(f.out.on (aA u.out a)).dV.cell 0;have b0:∀W,aD l W->W.cell? ⟨w,1,cC⟩=cA (cE cD p1):=λW a=>(f.out.on (aA u.out a)).dV.cell 1;have b1:∀W,aD l W->W.cell? ⟨w,2,cC⟩=cA (cE cD I):=λW a=>(f.out.on (aA u.out a)).dV.cell 2;have b2:∀W,aD l W->W.cell? ⟨w,3,cC⟩=cA (cE cD n0):=λW a=>(f.out.on (aA u.out a)).dV.cell 3;have b3:∀W,aD l W->W.cell? ⟨w,4,cC⟩=cA (cE cD n1):=λW a=>(f.out.on (aA u.out a)).dV.cell 4;have b4:∀W,aD l W->W.cell? ⟨w,5,cC⟩=cA (cE cD n2):=λW a=>(f.out.on (aA u.out a)).dV.cell 5;have b5:∀W,aD l W->W.cell? ⟨w,6,cC⟩=cA (cE cD p6):=λW a=>(f.out.on (aA u.out a)).dV.cell 6;have b6:∀W,aD l W->W.cell? ⟨w,7,cC⟩=cA (cE cD F):=λW a=>(f.out.on (aA u.out a)).dV.cell 7;have b7:∀W,aD l W->W.cell? ⟨w,8,cC⟩=cA (cE cD H):=λW a=>(f.out.on (aA u.out a)).dV.cell 8;refine iA (aD l) 19 (.take 0 (.take 1 (.take 2 (.take 3 (.take 4 (.take 5 (.take 6 (.take 7 (.take 8 (.take 9 (.take 10 (.take 11 (.take 12 (.take 13 (.take 14 (.take 15 (.take 16 (.take 17 (.take 18 .done))))))))))))))))))) kZ kZ (cR l) ?_;have aw:=qZ (cR l);have ba:=bp.out;cases be
  .obtain rfl:q=cP:=by rw[<-ba];rfl
   (iterate 3 refine tT ?_);(iterate 16 refine tN ?_);refine fA ?_;show dT cI _ _ (eI 19 _) _ _;simp only[aZ,bB];go_wp2_with fail;go_meet;exact⟨rfl,aw⟩
  .cases ca
   .obtain rfl:q=cV:=by rw[<-ba];rfl
    (iterate 8 refine tT ?_);(iterate 11 refine tN ?_);refine fA ?_;show dT cI _ _ (eI 19 _) _ _;simp only[aZ,bB];go_wp2_with fail;go_meet;exact⟨rfl,aw⟩
   .obtain rfl:q= !ch:=by rw[<-ba];rfl
    (iterate 19 refine tT ?_);refine fA ?_;show dT cI _ _ (eI 19 _) _ _;simp only[aZ,bB];go_wp2_with fail;refine(aj.out _).mono ?_;rintro e er⟨rfl,dc⟩;have cm:=qZ (aA aw.out dc);go_wp2_with fail;go_meet;exact⟨rfl,cm⟩
 case rest=>
  obtain⟨rfl,az⟩:=hcut;have al:=qZ (aA av.out (aA u.out az.out));have ay:=qZ (f.out.on (aA u.out az.out));have cq:=qZ ((abj bq.out).below az.out);have ak:=qY (aR≠[]->∀b,cj.ownBlock=cA b->(w:Nat)<=b) (λ_ b k=>(bq.out.lt b k).1);cases q
  .go_wp2_with fail;have c6:∀W,aD wc W->W.cell? ⟨d,6,cC⟩=cA vp:=λW a=>(ay.out.on a).box.cell 6;have am:∀W,aD wc W->W.cell? ⟨w,0,cC⟩=cA (cE cD r):=λW a=>(ay.out.on a).dV.cell 0;refine afr (aD wc) 16 (.take 0 (.take 1 (.take 2 (.take 3 (.take 4 (.take 5 (.take 6 (.take 7 (.take 8 (.one 9 (.take 10 (.take 11 (.take 12 (.take 13 (.take 14 (.take 15 (.one 16 .done))))))))))))))))) kZ kZ (cR wc) ?_;(iterate 5 apply Go.Proofs.YtedmeglbjmdlhaaGreatDoor.L.VL;rfl;rfl;(focus(intro W;go_simp;first|done|exact⟨rfl,rfl⟩|rfl));(focus(go_simp;first|done|rfl)));apply Go.Proofs.YtedmeglbjmdlhaaGreatDoor.L.aeg;rfl;rfl;(focus kernel_rfl);(focus(intro W a;go_simp;first|done|exact⟨rfl,rfl⟩|rfl));(focus(go_simp;first|done|rfl));(iterate 2 apply Go.Proofs.YtedmeglbjmdlhaaGreatDoor.L.VL;rfl;rfl;(focus(intro W;go_simp;first|done|exact⟨rfl,rfl⟩|rfl));(focus(go_simp;first|done|rfl)));apply Go.Proofs.YtedmeglbjmdlhaaGreatDoor.L.aeg;rfl;rfl;(focus kernel_rfl);(focus(intro W a;go_simp;first|done|exact⟨rfl,rfl⟩|rfl));(focus(go_simp;first|done|rfl));apply Go.Proofs.YtedmeglbjmdlhaaGreatDoor.L.anY;rfl;rfl;(focus(go_simp;first|done|exact⟨⟨rfl,rfl⟩,rfl⟩|rfl));refine(bj.out _ (aA al.out (cR wc))).mono ?_;rintro e ar⟨v4,rfl,bb,dd⟩;have ao:aD wc ar:=aA (cR wc) dd;refine⟨_,rfl,λ_=>ao,?_⟩;have cg:=aA al.out ao;have a5:=ab.out.dN cg;have dq:∀y∈Top.mE x.ps r,POk y:=λy z=>(a0.out.1.kV y (dY _ ((KF _ _).subset z))).ok;have cd:=bb.lt;have em:(w:Nat)<=(wc:Nat):=al.out.size;obtain⟨b8,aq⟩:=a5.apl (yJ bb dq) (λ_ b k T=>by
    have e1:=(cd b k).1;have e2:=O.out b T;have e3:wc.drew.heap.size=(wc:Nat):=rfl;omega) (λ_ b k=>by
    have e1:=(cd b k).1;have e2:=ab.out.lw;have e3:=ab.out.on.size;have e4:wc.drew.heap.size=(wc:Nat):=rfl;omega)
   obtain⟨au,bd,c4,rfl⟩:=bb.sA;have en:ar.cell? ⟨d,6,cC⟩=cA vp:=a5.box.cell 6;have ef:ar.frozen? ⟨d,6,cC⟩=cV:=a5.box.frozen 6;obtain⟨j,br⟩:=nQ (ar.setCell ⟨d,6,cC⟩ (ac au bd c4));have dg:=(ay.out.on ao).dV;have dl:¬kU d vr N (w:Nat):=λT=>by have:=O.out _ T;omega
   have cb:=dg.bA aq dl;have X:=tL (cq.out.below ao) aq (λJ b k T=>by have:=ak.out J b k;have:=O.out b T;omega);rw[br.out]at b8 aq X cb;have bm:=qY (aL (kU d vr N) w j) ((ix cg).trans aq);have Q:=qZ b8;have bk:=qZ cb;have bo:=qZ X;have cs:=qY ((w:Nat)<=(j:Nat)) bm.out.size;clear X;(iterate 6 apply Go.Proofs.YtedmeglbjmdlhaaGreatDoor.L.VL;rfl;rfl;(focus(intro W;go_simp;first|done|exact⟨rfl,rfl⟩|rfl));(focus(go_simp;first|done|rfl)));apply Go.Proofs.YtedmeglbjmdlhaaGreatDoor.L.aly;rfl;rfl;(focus(go_simp;first|done|rfl));(focus(intro dk;exact absurd rfl dk));(focus(go_simp;first|done|rfl));refine anX ?_;rw[br.out];go_upto_region 5 with fail;obtain⟨aa,ag,cf,cy⟩:∃A n c,cj=ac A n c:=by obtain⟨A,cap,e,_⟩:=bo.out;exact⟨_,_,_,e⟩
   subst cy;have cv:tO d (w:Nat) #[v1,v2,s.c.aG,s.c.aJ,s.aQ,s.next,ac au bd c4,vr,ah,N,cW x.head,x.start] #[r,p1,I,n0,n1,n2,p6,F,H,M,K] j:=⟨Q.out.box,bk.out⟩;have ae:=qZ cv;obtain⟨m,af⟩:=nZ (#[v1,v2,cE cD s.c.aG,cE cD s.c.aJ,cE cD s.aQ,cE cD s.next,ac au bd c4,vr,ah,N,cW x.head,cE cD x.start]);obtain⟨o,v⟩:=nZ (#[eQ cD r,cE cD p1,cE cD I,cE cD n0,cE cD n1,cE cD n2,cE cD p6,cE cD F,cE cD H,cE cD M,cE cD K]);rw[af,v]at ae;have ee:∀W,tO d (w:Nat) m o W->W.cell? ⟨d,4,cC⟩=cA (cE cD s.aQ):=λW a=>by rw[a.box.cell 4,<-af];rfl
   have c7:∀W,tO d (w:Nat) m o W->W.cell? ⟨d,7,cC⟩=cA vr:=λW a=>by rw[a.box.cell 7,<-af];rfl
   have am:∀W,tO d (w:Nat) m o W->W.cell? ⟨w,0,cC⟩=cA (cE cD r):=λW a=>by rw[a.dV.cell 0,<-v];rfl
   have b0:∀W,tO d (w:Nat) m o W->W.cell? ⟨w,1,cC⟩=cA (cE cD p1):=λW a=>by rw[a.dV.cell 1,<-v];rfl
   have b1:∀W,tO d (w:Nat) m o W->W.cell? ⟨w,2,cC⟩=cA (cE cD I):=λW a=>by rw[a.dV.cell 2,<-v];rfl
   have b2:∀W,tO d (w:Nat) m o W->W.cell? ⟨w,3,cC⟩=cA (cE cD n0):=λW a=>by rw[a.dV.cell 3,<-v];rfl
   have b3:∀W,tO d (w:Nat) m o W->W.cell? ⟨w,4,cC⟩=cA (cE cD n1):=λW a=>by rw[a.dV.cell 4,<-v];rfl
   have b4:∀W,tO d (w:Nat) m o W->W.cell? ⟨w,5,cC⟩=cA (cE cD n2):=λW a=>by rw[a.dV.cell 5,<-v];rfl
   have b5:∀W,tO d (w:Nat) m o W->W.cell? ⟨w,6,cC⟩=cA (cE cD p6):=λW a=>by rw[a.dV.cell 6,<-v];rfl
   have b6:∀W,tO d (w:Nat) m o W->W.cell? ⟨w,7,cC⟩=cA (cE cD F):=λW a=>by rw[a.dV.cell 7,<-v];rfl
   have b7:∀W,tO d (w:Nat) m o W->W.cell? ⟨w,8,cC⟩=cA (cE cD H):=λW a=>by rw[a.dV.cell 8,<-v];rfl
   have ei:∀W,tO d (w:Nat) m o W->W.cell? ⟨w,9,cC⟩=cA (cE cD M):=λW a=>by rw[a.dV.cell 9,<-v];rfl
   have eh:∀W,tO d (w:Nat) m o W->W.cell? ⟨w,10,cC⟩=cA (cE cD K):=λW a=>by rw[a.dV.cell 10,<-v];rfl
   refine iA (tO d (w:Nat) m o) 22 (.take 0 (.take 1 (.take 2 (.take 3 (.take 4 (.take 5 (.take 6 (.take 7 (.take 8 (.take 9 (.take 10 (.take 11 (.take 12 (.take 13 (.take 14 (.take 15 (.take 16 (.take 17 (.take 18 (.take 19 (.one 20 (.one 21 .done)))))))))))))))))))))) kZ kZ (ae.out.on (cR j)) ?_;(iterate 20 refine tT ?_);refine dQ ?_;have dr:=Q.out.rs.below (cR j);obtain⟨dz,Y,da,dt,Z,dx⟩:=ahP (W:=j.drew) (x:=⟨r,p1,I,⟨n0,n1,n2⟩,p6,F,H,M,K,s.aQ,fl,aR,ac aa ag cf⟩) dr Q.out.on.size (bo.out.below (cR j)) (λJ b k e=>by have:=ak.out J b k;have:=O.out b (.inr (.inl e));omega) (by have:=a0.out.2.2;omega);have dv:cF j j (j.drew.alloc (cN #[r,p1,I,n0,n1,n2,p6,F,H,M,K,s.aQ,fl,ac aa ag cf] 86)):=(cR j).alloc lZ _;have cw:=ae.out.on dv;have dp:vr.ownBlock≠cA d:=Q.out.nr;have dn:vr.ownBlock≠cA (w:Nat):=λe=>by have:=O.out _ (.inr (.inl e));omega
   have cx:tO d (w:Nat) m o Y:=⟨(ae.out.on (cR j)).box.bA Z dp,(ae.out.on (cR j)).dV.bA Z dn⟩;have cl:=qY ((fX #[28,28] 28 #[vr,ac (cA ⟨j,0,cC⟩) 1 1]).run cI (j.drew.alloc (cN #[r,p1,I,n0,n1,n2,p6,F,H,M,K,s.aQ,fl,ac aa ag cf] 86))=.ok dz Y) da;have ad:=qZ (aC dt (aC Z dx));have cr:=qZ cw;have ax:=qZ cx;apply eL;rfl;rfl;(focus(go_simp;first|done|exact⟨rfl,rfl⟩));exact cr.out;(focus(go_simp;first|done|rfl));refine dQ ?_;apply eL;rfl;rfl;exact mW (s:=.tmp 69) (x:=.tmp 84) (vs:=vr) (vx:=ac (cA ⟨j,0,cC⟩) 1 1) rfl rfl rfl cl.out;exact ax.out;(focus(go_simp;first|done|rfl));refine fA ?_;show dT cI _ _ (eI 22 _) _ _;simp only[aZ,bB];have eo:Y.cell? ⟨d,7,cC⟩=cA vr:=by rw[ax.out.box.cell 7,<-af];rfl
   have eg:Y.frozen? ⟨d,7,cC⟩=cV:=ax.out.box.frozen 7;obtain⟨bf,ci,c6,rfl⟩:=ad.out.1.1.sA;have dh:aL (λi=>vr.ownBlock=cA i) j Y:=(eK _ j).drew.trans ad.out.2.1;obtain⟨cz,Z⟩:=Q.out.aqF (rs':=x.rs++[⟨⟨r,p1,I,⟨n0,n1,n2⟩,p6,F,H,M,K⟩,s.aQ,fl,aR⟩]) dh ad.out.1 (by rw[dO,Q.out.map];rfl) ad.out.2.2 (λy z J b k=>by
    rcases dM.1 z with z|z
    .have:=Q.out.fh y z J b k;exact⟨λe=>this (.inl e),λe=>this (.inr (.inr e))⟩
    .have e:y=⟨r,p1,I,⟨n0,n1,n2⟩,p6,F,H,M,K,s.aQ,fl,aR,ac aa ag cf⟩:=by simpa using z
     subst e;have:=ak.out J b k;exact⟨λe=>by have:=O.out b (.inl e);omega,λe=>by have:=O.out b (.inr (.inr e));omega⟩) (λy z J b k=>by
    rcases dM.1 z with z|z
    .exact Q.out.lh y z J b k
    .have e:y=⟨r,p1,I,⟨n0,n1,n2⟩,p6,F,H,M,K,s.aQ,fl,aR,ac aa ag cf⟩:=by simpa using z
     subst e;have ej:=ak.out J b k;have ek:=ab.out.lw;have el:=ab.out.on.size;omega)
   have bi:=qZ (HV cz (bC a0.out.2.1 dZ) 1 r fl);have cc:=bk.out.bA Z (λT=>by have:=O.out _ T;omega);have cp:=qY (∀i,kU d (ac bf ci c6) N i->kU d vr N i\/(w:Nat)<=i) (λi hi=>by
    rcases hi with hi|hi|hi
    .exact .inl (.inl hi)
    .rcases ad.out.2.2 i hi with h|h
     .exact .inl (.inr (.inl h))
     .have h:(j:Nat)<=i:=h;exact .inr (by have:=cs.out;omega)
    .exact .inl (.inr (.inr hi)))
   obtain⟨d0,bs⟩:=nQ (Y.setCell ⟨d,7,cC⟩ (ac bf ci c6));have bn:=qZ (bm.out.trans Z);rw[bs.out]at bi cc bn;have co:=qZ cc;clear af v;go_upto_region 6 with fail;rw[bs.out];have am:d0.cell? ⟨w,0,cC⟩=cA (cE cD r):=co.out.cell 0;go_wp2_with fail;refine bi.out.mono ?_;rintro e es⟨rfl,eq,c0,dw,dy⟩;have cn:=qZ (oG.after bn.out cp.out ⟨_,_,_,_,c0,dw,λi hi=>by
    rcases hi with hi|hi|hi
    .exact .inl (.inl hi)
    .exact .inl (.inr (.inl hi))
    .rcases dy i hi with h|h
     .exact .inl (.inr (.inr h))
     .exact .inr h⟩)
   go_wp2_with fail;go_ret;exact⟨rfl,cn.out⟩
  .go_wp2_with fail;go_ret;exact⟨rfl,al.out⟩
def akp(p:Run->Bool)(rl:List Run)(w:cM)(e:eS)(w':cM):Prop:=(e=cH (cE cD (-1))/\rl.find? p=cC\/∃(k:Nat) (h:k<rl.length),e=cH k/\rl.find? p=cA rl[k]/\(rl.take k).find? p=cC)/\cF w w w'
theorem RV(au:Runs w vr rl)(aq:rl.length<=1000000)(d b:Nat)(q:Run->Bool)(ba:∀a W,(iv d a).run cI W=.ok (.enter d a) W)(ar:∀x W,x.hv.oneCell'=cP->cF w w W->cT cI d #[pU x,cQ b] W λe w'=>e=cH (cW (q x))/\cF W W w'):∀w1,cF w w w1->cT cI 141 #[vr,.func (.func d) #[] #[cQ b]] w1 λe w'=>akp q rl w1 e w':=by
 intro w1 I;have Z:=qZ (λx W (y:x.hv.oneCell'=cP) (h:cF w1 w1 W)=>ar x W y (aA I h));obtain⟨R,a8,rfl,av,bd,an⟩:=au.below I;have ae:=qZ av;have aa:=qZ an;obtain⟨N,r⟩:=nQ rl.length;rw[r.out]at aq⊢;go_enter func141,ntmps141;go_wp2_with fail;go_loopg[8] N (λak aw wr=>∃k:Nat,aw=cE cD k/\k<=N/\N<=ak+k/\Hid ((rl.take k).find? q=cC)/\Hid (cF w1 w1 wr));exact⟨0,mZ,oZ,oZ,qZ sZ,qZ (aK _ _)⟩
 obtain⟨k,rfl,bc,bb,o,c⟩:=hrel;by_cases ao:k<N
 .have ap:(k:Int)<(N:Int):=oZ;have n:k<rl.length:=by rw[r.out];exact ao
  obtain⟨a0,bh,rfl,be,am⟩:=qQ ae n;obtain⟨K,p1,p2,p3,p4,Q,p6,T,X,Y,L,M,O,F⟩:=am wr c;have u:=qZ (aa _ (bD n));have m:=qZ (Z rl[k] wr (by obtain⟨A,cap,e,_⟩:=u.out;rw[e];rfl) c);obtain⟨s,v⟩:=nQ (q rl[k]);rw[v.out]at m;have ah:Hid (s=cP->∃h:k<rl.length,rl.find? q=cA (rl[k]'h)):=qZ (λe=>⟨n,WE q rl n o (v.out.trans e)⟩);have ad:=qZ (λe:s=cV=>DI q rl n o (v.out.trans e));obtain⟨x,ai⟩:=nQ (rl[k]);rw[ai.out]at K p1 p2 p3 p4 Q p6 T X Y L M O F u m;obtain⟨ay,a9,H,_,_⟩:=id u;obtain⟨a,az,a5,⟨d',e,f⟩,g,h,i,j,bf,st,l,aR,hv⟩:=x;simp only at H K p1 p2 p3 p4 Q p6 T X Y L M O F;subst H;obtain⟨bg,J⟩:=nZ aR.length;simp only[pU,qW,J]at m F;clear J;cases s
  .have af:=qZ (ad rfl);go_wp2_with fail;refine m.out.mono ?_;rintro aj ax⟨rfl,z⟩;have p:=qZ (aA c z);go_wp2_with fail;go_roundg(N-(k+1));exact⟨k+1,mZ,oZ,oZ,af,p⟩;omega
  .have ag:=qZ (ah rfl);go_wp2_with fail;refine m.out.mono ?_;rintro aj ax⟨rfl,z⟩;have p:=qZ (aA c z);go_wp2_with fail;go_ret;obtain⟨y,al⟩:=ag.out;exact⟨.inr ⟨k,y,rfl,al,o⟩,p⟩
 .have ap:¬(k:Int)<(N:Int):=oZ;have ab:=qY (rl.find? q=cC) (by have:=o.out;rwa [aU (by have:=r.out;omega)]at this);go_wp2_with fail;go_ret;exact⟨.inl ⟨rfl,ab⟩,c⟩
theorem adp(x:Run)(n:Int)(b:Nat)(w:cM)(o:x.hv.oneCell'=cP)(p:b<(w:Nat))(r:w.cell? (b,0)=cA (cE cD n)):cT cI 161 #[pU x,cQ b] w λe w'=>e=cH (cW (x.id==n))/\cF w w w':=by obtain⟨a,c,d,⟨d',e,f⟩,g,h,i,j,m,st,l,aR,hv⟩:=x;simp only[pU,qW]at*;have k:cF w w (w.alloc (cN #[a,c,d,d',e,f,g,h,i,j,m,st,l,hv] 86)):=bZ;go_enter func161,ntmps161;go_wp2_with fail;go_ret;exact⟨rfl,k⟩
theorem acn(x:Run)(n:Int)(b:Nat)(w:cM)(o:x.hv.oneCell'=cP)(p:b<(w:Nat))(r:w.cell? (b,0)=cA (cE cD n)):cT cI 147 #[pU x,cQ b] w λe w'=>e=cH (cW (x.id==n))/\cF w w w':=by obtain⟨a,c,d,⟨d',e,f⟩,g,h,i,j,m,st,l,aR,hv⟩:=x;simp only[pU,qW]at*;have k:cF w w (w.alloc (cN #[a,c,d,d',e,f,g,h,i,j,m,st,l,hv] 86)):=bZ;go_enter func147,ntmps147;go_wp2_with fail;go_ret;exact⟨rfl,k⟩
theorem ajv(a:rl.map eD=rs){r:Run}(h:rl.find? (λx=>x.id==id)=cA r)(y:List cS×List hR):oM rs y id=(nG (toP r) y.1,y.2++[⟨2,id,0⟩]):=by
 have e:rs.find? (λq=>q.p.id==id)=cA (eD r):=by rw[<-a,List.find?_map];have e2:((λq:eW=>q.p.id==id)∘eD)=λx:Run=>x.id==id:=rfl;rw[e2,h];rfl
 unfold oM;rw[e];rfl
theorem agf(b:rl.map eD=rs)(h:∃r∈rs,r.p.id=id):rl.find? (λx=>x.id==id)≠cC:=by obtain⟨r,a,e⟩:=h;rw[<-b]at a;obtain⟨y,d,rfl⟩:=bU.1 a;intro c;have:=List.find?_eq_none.1 c y d;have e2:y.id=id:=e;simp[e2]at this
structure WV (L:Nat) (wm w wr:World) (rb:Nat) (v1 v2 vh vr ve:Value) (s:Top.S) (rl:List Run) (x:Top.Rd) (cB:List Int) (vpk vek:Value) (ps:List Ord.P) (ev:List Top.E) (k:Nat):Prop where
 rd:mD L wm wr rb v1 v2 vh vpk vr vek s rl {x with ps:=ps,ev:=ev}
 eq:(cB.take k).foldl (oM x.rs) (x.ps,x.ev)=(ps,ev)
 bA:aL (kU rb vr ve) w wr
 grown:∀i,kU rb vr vek i->kU rb vr ve i\/(w:Nat)<=i
 lens:ps.length<=x.ps.length+k/\ev.length<=x.ev.length+k
 ok:∀p∈ps,POk p
theorem GV(p q:cS):∀ps:List cS,q∈nG p ps->q=p\/q∈ps
 |[],h=>by simpa[nG]using h
 |x::t,h=>by
  unfold nG at h;split at h
  .simpa using h
  .rcases bH.1 h with rfl|h
   .exact .inr (bJ ..)
   .rcases GV p q t h with h|h
    .exact .inl h
    .exact .inr (bK _ h)
theorem OY(p:cS):∀ps:List cS,(nG p ps).length=ps.length+1
 |[]=>rfl
 |x::t=>by
  unfold nG;split
  .rfl
  .simp[OY p t]
theorem WV.next{g:cM}{L a:Nat}{f l:cJ}{x:fL}{cB:List Int}{m e:cJ}(h:WV L g w wr a v1 v2 f vr l s rl x cB v X ps ev k)(j:cB[k]? =cA id){r:Run}(H:rl.find? (λy=>y.id==id)=cA r)(n:mD L g W a v1 v2 f m vr e s rl {x with ps:=nG (toP r) ps,ev:=ev++[⟨2,id,0⟩]})(I:aL (kU a vr X) wr W)(J:∀b,e.ownBlock=cA b->X.ownBlock=cA b\/(wr:Nat)<=b)(F:POk (toP r)):WV L g w W a v1 v2 f vr l s rl x cB m e (nG (toP r) ps) (ev++[⟨2,id,0⟩]) (k+1):=by
 have A:rl.map eD=x.rs:=h.rd.map;refine⟨n,?_,h.bA.trans' I λi hi u=>?_,λi hi=>?_,?_,λp d=>?_⟩
 .have z:=(bF.1 j).1;have o:=(bF.1 j).2;rw[bE z,fB,h.eq,o];exact ajv A H _
 .rcases h.grown i u with h|h
  .exact h
  .omega
 .rcases hi with hi|hi|hi
  .exact .inl (.inl hi)
  .exact .inl (.inr (.inl hi))
  .rcases J i hi with c|c
   .exact h.grown i (.inr (.inr c))
   .exact .inr (bC h.bA.size c)
 .have:=h.lens;rw[OY];simp;omega
 .rcases GV _ _ _ d with rfl|d
  .exact F
  .exact h.ok p d
theorem ami{x:fL}(h:BZ x)(a:rl.map eD=x.rs):Many rl:=h.many a
theorem aju{ah:cM}{L u:Nat}{ag Z:cJ}{x:fL}{cB:List Int}(h:mD L ah w u v1 v2 ag vp vr Z s rl x)(bq:BZ x)(dl:x.ev.length<=100000)(hi:ISl w v cB)(dq:cB.length<=1000)(dm:cB≠[]->∀b,v.ownBlock=cA b->¬kU u vr Z b)(dr:∀id∈cB,∃r∈x.rs,r.p.id=id):cT cI 85 #[cQ u,v] w λe w'=>e=cH (eA #[])/\oG L ah w u v1 v2 ag vr Z s (lJ x cB) w':=by
 have cc:rl.length<=100:=by have:=bq.len.2;rw[<-h.map]at this;simpa using this
 have dn:=h.flt;have bu:=qY (WV L ah w w u v1 v2 ag vr Z s rl x cB vp Z x.ps x.ev 0) (⟨h,rfl,eK _ _,λi hi=>.inl hi,⟨bG _,bG _⟩,λp an=>(bq.kV p (dY _ an)).ok⟩);have T:=qZ (aC bq (aC dl cc));have ai:=qZ (aC hi dm);have cw:=qZ dn;have cy:=qZ dr;have au:=qZ h.map;obtain⟨bt,dd,rfl,d6,_⟩:=id hi;obtain⟨F,cf,df⟩:∃F cf,vr=ac F rl.length cf:=by obtain⟨F,cf,e,_⟩:=h.rs.runs oZ;exact⟨F,cf,e⟩
 subst df;obtain⟨K,bd⟩:=nQ rl.length;obtain⟨N,av⟩:=nQ cB.length;rw[bd.out]at cc bu ai cw⊢;rw[av.out]at dq ai⊢;obtain⟨b4,b1⟩:=nQ (lJ x cB);rw[b1.out];go_enter func85,ntmps85;go_wp2_with fail;go_loopg[10] N (λdg v10 wr=>∃(k:Nat) (ap af:cJ) (ps:List cS) (ev:List hR),v10=cE cD k/\k<=N/\N<=dg+k/\Hid (WV L ah w wr u v1 v2 ag (ac F K cf) Z s rl x cB ap af ps ev k));exact⟨0,_,_,_,_,mZ,oZ,oZ,bu⟩
 obtain⟨k,ap,af,ps,ev,rfl,ew,et,m⟩:=hrel;by_cases ds:k<N
 .have du:(k:Int)<(N:Int):=oZ;have bm:k<cB.length:=by rw[av.out];exact ds
  have dw:cB≠[]:=λe=>by rw[e]at bm;simp at bm
  have bl:=tL ai.1 m.bA ai.2;obtain⟨id,bk⟩:∃id,cB[k]? =cA id:=⟨_,aH bm⟩;obtain⟨aw,br,rfl,er,es⟩:∃aw br,bt=cA ⟨aw,br,cC⟩/\aw<(wr:Nat)/\wr.cell? ⟨aw,br+k,cC⟩=cA (cE cD id):=by obtain⟨cp,dc,e,dz,_⟩:=bl;cases e;obtain⟨g,o,e,dt,am⟩:=dz dw;have:=am k id bk 0 _ rfl;rw[gI,hQ]at this;exact⟨g,o,e,dt,this⟩
  have cx:=qZ bk;have da:=qZ (agf au (cy id (gP bk)));have e0:u<(wr:Nat):=m.rd.box.lt;have c7:CV wr u 7 (ac F K cf):=m.rd.box.cell 7;obtain⟨eh,be⟩:=nQ (wr.alloc (cN #[id] 3));have b8:=aB be;have a9:=aX be;have d7:=(m.rd.dN b8).rs.runs (by have:=T.2.2;omega);have cr:=qZ (RV d7 (by have:=T.2.2;omega) 147 (wr:Nat) (λy=>y.id==id) (λ_ _=>kZ) (λy W X J=>acn y id (wr:Nat) W X (aM a9.lt J.size) ((a9.below J a9.lt).cell 0)) eh (aK _ _));have aq:=qZ (aC b8 a9);go_wp2_with fail;refine Eq.mp (dB (λz=>cT cI _ _ z _) be.out.symm) ?_;refine cr.mono ?_;rintro e I⟨dk,aj⟩;rcases dk with⟨rfl,ad⟩|⟨j,ax,rfl,hs,_⟩
  .exact absurd ad da
  have bw:=qZ (aA aq.1 aj);have ar:=qZ m.rd.flt;have ae:=m.rd.dN bw;have e5:u<(I:Nat):=ae.box.lt;have c7:CV I u 7 (ac F K cf):=ae.box.cell 7;obtain⟨R',eo,b5,d0,ey,ca⟩:=ae.rs.runs (by have:=T.out.2.2;omega);rw[bd.out]at b5;cases b5;obtain⟨al,ao,rfl,ez,dj⟩:=qQ d0 ax;obtain⟨ce,p1,p2,p3,p4,ck,p6,cl,cm,cn,cg,ch,ci,cj⟩:=dj I (aK _ _);have eu:(j:Int)<(K:Int):=by have:=bd.out;omega
  have dy:POk (toP rl[j]):=(T.1.kV (toP rl[j]) (gL _ (by rw[<-au.out];exact bU.2 ⟨eD rl[j],bU.2 ⟨_,bD ax,rfl⟩,rfl⟩))).ok;have cd:rl[j].hv.oneCell'=cP:=FJ (ca _ (bD ax));have bc:=qZ (aC hs dy);obtain⟨y,Y⟩:=nZ (rl[j]);rw[Y]at ce p1 p2 p3 p4 ck p6 cl cm cn cg ch ci cj bc cd;obtain⟨ek,fc,en,b6⟩:∃A n c,y.hv=ac A n c:=by obtain⟨A,c,e,_⟩:=ca _ (bD ax);rw[Y]at e;exact⟨_,_,_,e⟩
  obtain⟨O,az⟩:=nZ (I.alloc (cN (qW y) 86));have b7:=aB az;have ei:Blk O I 86 (qW y):=by rw[<-az];exact Blk.new _ _ _
  have bb:=qZ (aA bw b7);have aa:=qZ (m.rd.dN bb);have bz:=qZ ((aq.2.below aj aq.2.lt).below b7 (aM aq.2.lt (Below.size aj)));have ba:=qY (∀W,aD O W->cT cI 108 #[ap,cY (eF (toP y))] W λe w'=>acT (nG (toP y) ps) W e w') (λW J=>MB aa.ps (by have:=m.lens.1;have:=T.1.len.1;show ps.length<=_;omega) (toP y) W J);have H:=qZ ei;have b2:=qZ az;have b0:=qY (∀a8 bs ak,mD L ah a8 u v1 v2 ag bs (ac (cA ⟨al,ao,cC⟩) K cf) ak s rl {x with ps:=nG (toP y) ps,ev:=ev++[⟨2,id,0⟩]}->aL (kU u (ac (cA ⟨al,ao,cC⟩) K cf) af) wr a8->(∀b,ak.ownBlock=cA b->af.ownBlock=cA b\/(wr:Nat)<=b)->WV L ah w a8 u v1 v2 ag (ac (cA ⟨al,ao,cC⟩) K cf) Z s rl x cB bs ak (nG (toP y) ps) (ev++[⟨2,id,0⟩]) (k+1)) (λa8 bs ak X bg bh=>m.next cx (r:=y) (by rw[<-Y];exact hs) X bg bh bc.2);obtain⟨Q,bj⟩:=nZ (nG (toP y) ps);rw[bj]at ba b0;have c0:=qY (Q.length<=100000/\∀p∈Q,POk p) (by
   rw[<-bj];refine⟨by rw[OY];have:=m.lens.1;have:=T.1.len.1;omega,λp an=>?_⟩;rcases GV _ _ _ an with rfl|an
   .exact bc.2
   .exact m.ok p an)
  have cv:=qY (ev.length<=1000000) (by have:=m.lens.2;have:=T.2.1;omega);clear Y az bj;obtain⟨a,b,c,⟨d,e,f⟩,g,h,i,d9,eb,st,l,aR,hv⟩:=y;simp only at b6;subst b6;simp only[qW,toP,eF]at ce p1 p2 p3 p4 ck p6 cl cm cn cg ch ci cj cd ba H b2;go_wp2_with fail;rw[b2.out];have c6:∀W,aD O W->CV W u 6 ap/\CI W I 0 a/\CI W I 1 b/\CI W I 2 c/\CI W I 3 d/\CI W I 4 e/\CI W I 5 f/\CI W I 6 g/\CI W I 7 h/\CI W I 8 i/\CI W I 9 d9/\CI W I 10 eb:=λW J=>⟨(aa.box.below J aa.box.lt).cell 6,(H.below J H.out.lt).cell 0,(H.below J H.out.lt).cell 1,(H.below J H.out.lt).cell 2,(H.below J H.out.lt).cell 3,(H.below J H.out.lt).cell 4,(H.below J H.out.lt).cell 5,(H.below J H.out.lt).cell 6,(H.below J H.out.lt).cell 7,(H.below J H.out.lt).cell 8,(H.below J H.out.lt).cell 9,(H.below J H.out.lt).cell 10⟩;refine iA (aD O) 14 (.take 0 (.take 1 (.take 2 (.take 3 (.take 4 (.take 5 (.take 6 (.take 7 (.take 8 (.take 9 (.take 10 (.take 11 (.take 12 (.one 13 .done)))))))))))))) kZ kZ (cR O) ?_;(iterate 13 refine tT ?_);refine dQ ?_;refine tC ?_;refine(ba _ (cR O)).mono ?_;rintro de a5⟨ee,rfl,bo,di⟩;have ay:aD O a5:=aA (cR O) di;refine⟨ee,rfl,ay,?_⟩;have bn:=aa.dN ay;have cb:=bo.lt;have e9:O.drew.heap.size=(O:Nat):=rfl;have dp:=aa.flt;obtain⟨bi,a0⟩:=bn.apl (yJ bo c0.2) (λ_ b M ab=>by
   have:=(cb b M).1;have:=dp b ab;omega) (λ_ b M=>by
   have X:=(cb b M).1;have bg:=aa.lw;have bh:=aa.on.size;omega)
  obtain⟨cq,ec,c5,rfl⟩:=bo.sA;have fd:CV a5 u 6 ap:=bn.box.cell 6;have ep:a5.frozen? (u,6)=cV:=bn.box.frozen 6;have ej:=bz.below ay bz.out.lt;have dx:¬kU u (ac (cA ⟨al,ao,cC⟩) K cf) af (wr:Nat):=λab=>by have:=ar.out _ ab;omega
  have co:=ej.bA a0 dx;have bv:=qZ (HV bi cv 2 id 0);have e8:=bb.size;have bf:=qZ ((ix (F:=kU u (ac (cA ⟨al,ao,cC⟩) K cf) af) (aA bb ay)).trans a0);obtain⟨ef,b3⟩:=nQ (a5.setCell (u,6) (ac cq ec c5));rw[b3.out]at bv co bf;have db:=qZ co;refine fA ?_;show dT cI _ _ (eI 14 _) _ _;simp only[aZ,bB];go_upto_region 6 with fail;rw[b3.out];have em:CI ef wr 0 id:=db.cell 0;go_wp2_with fail;refine bv.mono ?_;rintro de eg⟨rfl,ak,dh,ea,ed⟩;have cz:=qZ (b0 eg _ ak dh (bf.out.trans ea) (λb M=>by
   rcases ed b M with X|X
   .exact .inl X
   .exact .inr (bC bf.size X)))
  go_wp2_with fail;go_roundg(N-(k+1));exact⟨k+1,_,_,_,_,mZ,oZ,oZ,cz⟩;omega
 .have du:¬(k:Int)<(N:Int):=oZ;obtain rfl:k=N:=by omega
  have bl:=tL ai.1 m.bA ai.2;have c7:CV wr u 7 (ac F K cf):=m.rd.box.cell 7;have d8:=m.rd.rs.runs (by have:=T.2.2;omega);have cs:=qY (cT cI 79 #[ac F K cf,ac bt k dd] wr λe w'=>MN (dH x.rs cB) wr e w') (by have:=wR d8 (ami T.1 au) bl (by rw[av.out];omega) wr (aK _ _);rw[au.out]at this;exact this);have ar:=qZ m.rd.flt;have cu:=qY (b4={x with ps:=ps,ev:=ev,rs:=dH x.rs cB}) (by rw[<-b1.out];have:=m.eq;rw[aU (by rw[av.out];omega)]at this;unfold lJ;rw[this]);go_wp2_with fail;refine cs.mono ?_;rintro e I⟨v',ff,rfl,bp,dv,aj,b9⟩;have ae:=m.rd.dN aj;obtain⟨cp,fb,dc,rfl⟩:=bp.1.sA;obtain⟨bi,a0⟩:=ae.aqW bp dv m.rd.on.size ar (λb ad M=>by
   obtain⟨c,am,ex⟩:=RY m.rd.ps ad;rw[M]at am;injection am with am;omega) (λy Y ad b M ab=>by
   have:=b9 y Y ad b M;have:=ar.out b ab;omega) (λy Y ad b M=>by
   have X:=b9 y Y ad b M;have bg:=m.rd.lw;have bh:=m.rd.on.size;omega)
  have fe:CV I u 7 (ac F K cf):=ae.box.cell 7;have eq:I.frozen? (u,7)=cV:=ae.box.frozen 7;have ct:=qY (oG L ah w u v1 v2 ag (ac F K cf) Z s b4 _) (by
   rw[cu.out];refine⟨_,_,_,_,bi,m.bA.trans' ((ix (F:=kU u (ac F K cf) af) aj).trans a0) λi hi ab=>?_,λi hi=>?_⟩
   .rcases m.out.grown i ab with h|h
    .exact h
    .omega
   .rcases hi with hi|hi|hi
    .exact .inl (.inl hi)
    .exact .inr (bC m.bA.size (bp.1.lt i hi).1)
    .exact m.grown i (.inr (.inr hi)))
  go_wp2_with fail
  go_end0
  exact⟨rfl,ct⟩
theorem acy{f:Nat}{cB:List Int}(h:(cX c (dH rs cB) p).isSome=cP):oW c rs p (f+1) cB=cA cB:=by
 unfold oW;cases e:cX c (dH rs cB) p with
 |some v=>rfl
 |none=>rw[e]at h;cases h
theorem acw{f:Nat}{cB:List Int}(h:(cX c (dH rs cB) p).isSome=cV)(a:(gT (dH rs cB)).find? (λr=>kW c (eM c (dH rs cB)) r.p.dI)=cC):oW c rs p (f+1) cB=cC:=by
 unfold oW;cases e:cX c (dH rs cB) p with
 |some v=>rw[e]at h;cases h
 |none=>simp only[a]
theorem agz{f:Nat}{cB:List Int}{r:eW}(h:(cX c (dH rs cB) p).isSome=cV)(a:(gT (dH rs cB)).find? (λr=>kW c (eM c (dH rs cB)) r.p.dI)=cA r):oW c rs p (f+1) cB=oW c rs p f (cB++[r.p.id]):=by
 conv=>lhs;unfold oW
 cases e:cX c (dH rs cB) p with
 |some v=>rw[e]at h;cases h
 |none=>simp only[a]
theorem aaz{cB:List Int}{r:eW}(h:r∈dH rs cB):(dH rs (cB++[r.p.id])).length<(dH rs cB).length:=by
 have e:dH rs (cB++[r.p.id])=(dH rs cB).filter (λx=> !(x.p.id==r.p.id)):=by unfold dH;rw[List.filter_filter];apply List.filter_congr;intro x _;by_cases a:x.p.id=r.p.id<;>by_cases b:x.p.id∈cB<;>simp[a,b]
 rw[e];refine List.length_filter_lt_length_iff_exists.2 ⟨r,h,sZ⟩
theorem aci{p:eW->Bool}:∀{rl:List Run} {rs:List eW},rl.map eD=rs->rs.find? p=(rl.find? λx=>p (eD x)).map eD
 |[],rs,h=>by subst h;rfl
 |x::rl,rs,h=>by
  subst h;rw[dG,dC,dC];cases e:p (eD x)with
  |true=>rfl
  |false=>exact aci rfl
theorem aom{b:List Run}(h:Many rl)(f:b.length<=rl.length)(hs:∀r∈b.map eD,r∈rl.map eD):Many b:=by
 have d:∀x∈b,∃y∈rl,eD y=eD x:=λx a=>bU.1 (hs _ (bU.2 ⟨x,a,rfl⟩));refine⟨bC f h.len,λx a=>?_,λx a=>?_⟩
 .obtain⟨y,c,e⟩:=d x a;have n:=h.num y c;have e1:y.start=x.start:=dB Top.R.start e;have e2:y.run=x.run:=dB (λr:eW=>r.p.run) e;exact⟨e1▸n.start,e2▸n.run⟩
 .obtain⟨y,c,e⟩:=d x a;have e1:y.aR=x.aR:=dB Top.R.aR e;rw[<-e1];exact h.aR y c
theorem bL.isl{B:Nat}{l:List Int}(h:bL w B 3 1 iL v l)(b:l.length<=1000000):ISl w v l:=by obtain⟨A,cap,e,a⟩:=h.sl (λ_=>rfl);exact⟨A,cap,e,a,by unfold eR;omega⟩
theorem ahM{B:Nat}{l:List Int}(h:bL W B 3 1 iL v l)(e:B<=(W:Nat))(n:Int)(r:l.length<=1000000):∃v' a,(fX #[36,36] 36 #[v,ac W 1 1]).run cI (W.alloc (cN #[n] 3))=.ok v' a/\bL a B 3 1 iL v' (l++[n])/\cF B W a:=by obtain⟨i0,hi,i,j,o⟩:=eJ amY;have b:cF W W (W.alloc (cN #[n] 3)):=bZ;have g:=qA (k:=1) (dec:=iL) (x:=n) (Blk.new W 3 #[n]) rfl;obtain⟨v',a,e1,e2,e3,e4,p⟩:=lF 36 36 i0 _ 8 eN hi i j o rfl oZ (λ_=>rfl) (ys:=[n]) (m:=1) (c:=1) (λu d=>by simp only[dA,jU,eZ,iL,bH,dL,or_false]at d;subst d;rfl) (h.below b) rfl g (by simp;omega) (by unfold eR;omega) oZ;exact⟨v',a,e1,e2,Below.grown (Below.mono b e) e3 (by simp;omega) λk f=>(h.lt k f).1⟩
theorem zF.upto{B:Nat}{c:cJ}(h:zF w b1 b2 b3 c vr p)(b:cF B w w')(d:b1<B)(f:b2<B)(g:b3<B):zF w' b1 b2 b3 c vr p:=by obtain⟨⟨v1,v2,x,a,e,i⟩,k,j⟩:=h;exact⟨⟨v1,v2,x,a,e,i.below b d⟩,k.below b f,j.below b g⟩
def akv(o:Option (List Int))(w:cM)(e:eS)(w':cM):Prop:=∃v',e=cH (eA #[v',cW o.isSome])/\bL w' w 3 1 iL v' (o.getD [])/\cF w w w'
theorem AJ{dl:cJ}(aa:bW w dl c)(Q:Runs w vr rl)(ab:zD c)(aj:Many rl)(p:cS)(cy:zS p)(cz:EL p):∀w1,cF w w w1->cT cI 84 #[dl,vr,dV p] w1 λe w'=>akv (il c (rl.map eD) p) w1 e w':=by
 intro w1 co;replace aa:=aa.below co;replace Q:=Q.below co;have ar:=qY (∀W,cF w1 w1 W->bW W dl c/\Runs W vr rl) (λW h=>⟨aa.below h,Q.below h⟩);obtain⟨rs,ad⟩:=nZ (rl.map eD);have gi:=qZ ad;have hf:=aj.len;have bn:rs.length=rl.length:=by rw[<-ad];simp
 rw[ad];obtain⟨q,c0⟩:=nZ (sU c (eM c rs) p.dI (kM p));have bf:=qY (il c rs p=if q=cP then(oW c rs p (rs.length+1) []).map λcB=>kE c rs p cB cB else cC) (by rw[<-c0];rfl);have a9:=qZ (λW (h:cF w1 w1 W)=>by have:=FH aa Q ab.aN W h;rw[ET,ad]at this;exact this);have ba:=qZ (λW va (h:cF w1 w1 W) (g7:VSl W va (eM c rs))=>by have:=aeN (aa.below h) g7 p.dI (kM p) W (aK _ _);rw[c0]at this;exact this);have bi:=VZ p.id p.dI p.fG p.need p.run p.aP p.prefer;obtain⟨v1,v2,rfl,⟨A,ca,rfl,hl,bm⟩,⟨B,J,rfl,hm,cu⟩⟩:=aa;obtain⟨F,cf,rfl,hn,hd,ha⟩:=Q;have b1:=qY (∀a,Blk a w1 26 #[ac A c.aN.length ca,ac B c.aR.length J,c.aG,c.aJ]->Blk a ((w1:Nat)+1) 28 #[ac F rl.length cf]->Blk a ((w1:Nat)+1+1) 42 (gK p)->zF a (w1:Nat) ((w1:Nat)+1) ((w1:Nat)+1+1) (cY #[ac A c.aN.length ca,ac B c.aR.length J,c.aG,c.aJ]) (ac F rl.length cf) p) (λa v ai g6=>⟨⟨_,_,_,_,rfl,v⟩,ai,g6⟩);have bz:=qY (∀a,cF w1 w1 a->zF a (w1:Nat) ((w1:Nat)+1) ((w1:Nat)+1+1) (cY #[ac A c.aN.length ca,ac B c.aR.length J,c.aG,c.aJ]) (ac F rl.length cf) p->∀ae cB,ISl a ae cB->cB.length<=1000000->cT cI 140 #[ae,cQ w1,cQ (cA ⟨(w1:Nat)+1,0,cC⟩),cQ (cA ⟨(w1:Nat)+1+1,0,cC⟩)] a λe w'=>e=cH (cW (cX c (dH rs cB) p).isSome)/\cF a a w') (λa X dg ae cB hi cs=>by have:=ajO dg (ar a X).1 (ar a X).2 ab aj hi cs cy cz a (aK _ _);rw[ad]at this;exact this);have d6:=qY (∀W,cF w1 w1 W->∀ae cB,ISl W ae cB->cB.length<=1000000->cT cI 79 #[ac F rl.length cf,ae] W λe w'=>agR (dH rs cB) W e w') (λW X ae cB hi cs=>by have:=MZ (ar W X).2 aj hi cs W (aK _ _);rw[ad]at this;exact this);have fx:=qY (∀W,cF w1 w1 W->∀af Y,Runs W af Y->cT cI 14 #[cY #[ac A c.aN.length ca,ac B c.aR.length J,c.aG,c.aJ],af] W λe w'=>UM (eM c (Y.map eD)) W e w') (λW X af Y da=>by have:=FH (ar W X).1 da ab.aN W (aK _ _);rw[ET]at this;exact this);have fw:=qY (∀W,cF w1 w1 W->∀cg dm dj af Y,WW W (w1:Nat) cg (cY #[ac A c.aN.length ca,ac B c.aR.length J,c.aG,c.aJ]) dm->VSl W dm dj->Runs W af Y->Y.length<=1000000->cT cI 141 #[af,.func (.func 143) #[] #[cQ w1,cQ (cA ⟨cg,0,cC⟩)]] W λe w'=>First (λx=>kW c dj x.dI) Y W e w') (λW X cg dm dj af Y dg ho da bm=>agI dg (ar W X).1 ho da bm W (aK _ _));obtain⟨R,eu⟩:=nZ (il c rs p);rw[eu]at bf⊢;obtain⟨h2,ew⟩:=nZ (eM c rs);rw[ew]at a9 ba;have e0:kM p=Vec.nI p.need p.fG:=rfl;rw[<-e0]at bi;obtain⟨⟨h4,d1,d2⟩,es⟩:∃D,kM p=D:=⟨_,rfl⟩;rw[es]at bi ba;obtain⟨H,cn⟩:=nZ rl.length;rw[cn]at hf bn b1 bz d6 a9⊢;rw[bn]at bf;have b4:=qZ (aC cn bn);generalize c.aN.length=NN at*;generalize c.aR.length=NH at*;generalize c.aG=aG at*;generalize c.aJ=aJ at*;obtain⟨g,p1,m,⟨n0,n1,n2⟩,p6,j,l,o,n⟩:=p;simp only[dV,gK,Vec.V.val]at*;obtain⟨a,ak⟩:=nZ (((w1.alloc (cN #[ac A NN ca,ac B NH J,aG,aJ] 26)).alloc (cN #[ac F H cf] 28)).alloc (cN #[g,p1,m,n0,n1,n2,p6,j,l] 42));have ds:Blk a ((w1:Nat)+1+1) 42 #[g,p1,m,n0,n1,n2,p6,j,l]:=by rw[<-ak];have h:=Blk.new ((w1.alloc (cN #[ac A NN ca,ac B NH J,aG,aJ] 26)).alloc (cN #[ac F H cf] 28)) 42 #[g,p1,m,n0,n1,n2,p6,j,l];simp only[aT]at h;exact h
 have dt:Blk a ((w1:Nat)+1) 28 #[ac F H cf]:=by rw[<-ak];have h:=Blk.new (w1.alloc (cN #[ac A NN ca,ac B NH J,aG,aJ] 26)) 28 #[ac F H cf];simp only[aT]at h;exact hH h _
 have xc:Blk a w1 26 #[ac A NN ca,ac B NH J,aG,aJ]:=by rw[<-ak];exact hH (hH (Blk.new _ _ _) _) _
 have ez:cF w1 w1 a:=by rw[<-ak];exact kp
 have b:=qZ (aC xc (aC dt ds));have bd:=qZ ez;have gu:=qZ ak;have dw:=qZ bi;have f2:=qZ (b1 a xc dt ds);have gc:=qZ aj;clear ak xc dt ds ez hl hm bm cu hn hd ha eu ew e0 es c0 ad ab aj cy cz co bi cn bn b1;go_enter func84,ntmps84;go_wp2_with fail;rw[gu.out];refine jB (aD a) (.take 0 (.take 1 (.take 2 (.take 4 (.take 5 (.take 6 (.one 3 (.one 7 (.one 8 (.take 9 .done)))))))))) kZ kZ (cR a) ?_;have ch:∀W,aD a W->CV W w1 0 (ac A NN ca):=λW d=>(Blk.below b.1 d b.1.lt).cell 0;have c1:∀W,aD a W->CV W w1 1 (ac B NH J):=λW d=>(Blk.below b.1 d b.1.lt).cell 1;have c2:∀W,aD a W->CI W w1 2 aG:=λW d=>(Blk.below b.1 d b.1.lt).cell 2;have c3:∀W,aD a W->CI W w1 3 aJ:=λW d=>(Blk.below b.1 d b.1.lt).cell 3;have di:∀W,aD a W->CV W ((w1:Nat)+1) 0 (ac F H cf):=λW d=>(Blk.below b.2.1 d b.2.1.lt).cell 0;have gz:∀W,aD a W->CI W ((w1:Nat)+1+1) 0 g:=λW d=>(Blk.below b.2.2 d b.2.2.lt).cell 0;have ck:∀W,aD a W->CI W ((w1:Nat)+1+1) 1 p1:=λW d=>(Blk.below b.2.2 d b.2.2.lt).cell 1;have cl:∀W,aD a W->CI W ((w1:Nat)+1+1) 2 m:=λW d=>(Blk.below b.2.2 d b.2.2.lt).cell 2;have g0:∀W,aD a W->CI W ((w1:Nat)+1+1) 3 n0:=λW d=>(Blk.below b.2.2 d b.2.2.lt).cell 3;have g1:∀W,aD a W->CI W ((w1:Nat)+1+1) 4 n1:=λW d=>(Blk.below b.2.2 d b.2.2.lt).cell 4;have g2:∀W,aD a W->CI W ((w1:Nat)+1+1) 5 n2:=λW d=>(Blk.below b.2.2 d b.2.2.lt).cell 5;have g3:∀W,aD a W->CI W ((w1:Nat)+1+1) 6 p6:=λW d=>(Blk.below b.2.2 d b.2.2.lt).cell 6;have g4:∀W,aD a W->CI W ((w1:Nat)+1+1) 7 j:=λW d=>(Blk.below b.2.2 d b.2.2.lt).cell 7;have g5:∀W,aD a W->CI W ((w1:Nat)+1+1) 8 l:=λW d=>(Blk.below b.2.2 d b.2.2.lt).cell 8;(iterate 6 refine tT ?_);clear ch c1 c2 c3 di gz ck cl g0 g1 g2 g3 g4 g5;refine dQ ?_;refine tC ?_;refine(a9 _ (aA bd (cR a))).mono ?_;rintro e hu⟨va,rfl,fm,ex⟩;have db:aD a hu:=aA (cR a) ex;refine⟨va,rfl,db,?_⟩;refine dQ ?_;refine tC ?_;refine(dw _).mono ?_;rintro e hv⟨rfl,cq⟩;have bp:aD a hv:=aA db cq;refine⟨_,rfl,bp,?_⟩;refine dQ ?_;refine tC ?_;refine(ba _ va (aA bd bp) (fm.below cq).sl).mono ?_;rintro e fr⟨rfl,ey⟩;have dc:aD a fr:=aA bp ey;refine⟨_,rfl,dc,?_⟩;(iterate 1 refine tT ?_);refine fA ?_;have ce:=qZ dc;clear fm ex cq ey db bp dc a9 dw ba;cases q
 .have b8:=qY (R=cC) (by have:=bf.out;simpa using this);go_wp2_with fail;go_ret2;rw[b8.out];exact⟨_,rfl,bL.nil _ _ _ _ _,aA bd ce⟩
 .go_wp2_with fail;have fy:=qY (cF w1 w1 fr) (aA bd ce);have f5:=qZ (f2.on ce);have f8:=qY ((oW c rs ⟨g,p1,m,⟨n0,n1,n2⟩,p6,j,l,o,n⟩ (H+1) []).map (λcB=>kE c rs ⟨g,p1,m,⟨n0,n1,n2⟩,p6,j,l,o,n⟩ cB cB)=R) (by have:=bf.out;simpa using this.symm);have fn:(dH rs []).length<H+1:=by have:=DX rs [];have:=b4.2;omega
  have gv:=qZ fn;clear fn;go_wp2_with fail;go_loopg[9] (H+1) (λck dk wr=>∃(cB:List Int) (f:Nat),f<=ck/\cB.length+f=H+1/\Hid ((dH rs cB).length<f)/\Hid (bL wr ((w1:Nat)+1+1+1) 3 1 iL dk cB)/\Hid ((oW c rs ⟨g,p1,m,⟨n0,n1,n2⟩,p6,j,l,o,n⟩ f cB).map (λcB=>kE c rs ⟨g,p1,m,⟨n0,n1,n2⟩,p6,j,l,o,n⟩ cB cB)=R)/\Hid (cF w1 w1 wr)/\Hid (zF wr (w1:Nat) ((w1:Nat)+1) ((w1:Nat)+1+1) (cY #[ac A NN ca,ac B NH J,aG,aJ]) (ac F H cf) ⟨g,p1,m,⟨n0,n1,n2⟩,p6,j,l,o,n⟩));exact⟨[],H+1,bG _,sZ,gv,qZ (bL.nil _ _ _ _ _),f8,fy,f5⟩
  obtain⟨cB,cj,h6,g9,el,ah,b3,d7,ec⟩:=hrel;have h5:0<cj:=Nat.lt_of_le_of_lt (bI _) el;obtain⟨f,rfl⟩:∃f,cj=f+1:=⟨cj-1,oZ⟩;have bv:=qZ (bz _ d7 ec _ cB (bL.isl ah oZ) oZ);obtain⟨s,hs⟩:=nZ ((cX c (dH rs cB) ⟨g,p1,m,⟨n0,n1,n2⟩,p6,j,l,o,n⟩).isSome);rw[hs]at bv;have b9:=qZ hs;clear hs;go_wp2_with fail;refine bv.mono ?_;rintro e dp⟨rfl,bk⟩;have b0:=qZ (aA d7 bk);have b2:=qZ (ec.on bk);have bh:=qZ (ah.below bk);clear bk bv;cases s
  .obtain⟨⟨_,_,_,_,ci,hw⟩,fs,hx⟩:=id b2;cases ci;have di:CV dp ((w1:Nat)+1) 0 (ac F H cf):=fs.cell 0;have d0:=qZ (d6 dp b0 _ cB (bL.isl bh oZ) oZ);clear hw fs hx;go_wp2_with fail;refine d0.mono ?_;rintro e Z⟨hq,L,rfl,a0,bo,M⟩;have hc:L.length<=H:=by
    have v:L.length=(dH rs cB).length:=by rw[<-bo];simp
    have:=DX rs cB;have:=b4.2;omega
   have bg:=qY (Many L) (aom gc (by rw[b4.out.1];exact hc) λr Q=>by rw[bo]at Q;have:=(iF.1 Q).1;rw[<-gi.out]at this;exact this);have fi:=a0.runs oZ;have eg:=qZ fi;obtain⟨fv,c7,rfl,_,_,_⟩:=fi;have bb:=qZ (aA b0 M);have ap:=qZ (b2.on M);have cd:=qZ (bh.below M);have b5:=qZ bo;obtain⟨⟨_,_,_,_,ci,a8⟩,hz,hy⟩:=id ap;cases ci;have ch:CV Z w1 0 (ac A NN ca):=a8.cell 0;have c1:CV Z w1 1 (ac B NH J):=a8.cell 1;have c2:CI Z w1 2 aG:=a8.cell 2;have c3:CI Z w1 3 aJ:=a8.cell 3;have dz:=qZ (fx Z bb _ L eg);clear a8 hz hy a0 M bo di d0;go_wp2_with fail;refine dz.mono ?_;rintro e bu⟨ie,rfl,br,O⟩;obtain⟨bt,df⟩:=nZ (eM c (L.map eD));rw[df]at br;have gl:=qY (eM c (dH rs cB)=bt) (by rw[<-b5.out];exact df);have ek:=qZ br.sl;obtain⟨ep,er,rfl,_,_⟩:=id br.sl;obtain⟨eo,fd⟩:=nZ bt.length;rw[fd]at ek⊢;have f1:=qZ (aA bb O);have f6:=qZ (ap.on O);have gp:=qZ (cd.below O);have ag:=qZ (eg.below O);obtain⟨al,bs⟩:=nZ (bu.alloc (cN #[ac ep eo er] 51));have aw:=aB bs;have ft:=aX bs;have gd:=qZ bs;have en:=qZ ft;have bc:=qZ aw;have am:=qZ (YE ag bg al bc);clear br O df fd bs aw ft ch c1 c2 c3 dz;go_wp2_with fail;refine Eq.mp (dB (λz=>cT cI _ _ z _) gd.out.symm) ?_;refine am.mono ?_;rintro e fq⟨v10,y,rfl,fg,cw,T⟩;have fb:y.length<=1000:=by
    have v:y.length=(gT (L.map eD)).length:=by rw[<-cw];simp
    have ai:=(zY (L.map eD)).length_eq;rw[ai]at v;have:=bg.len;simp at v;omega
   have b6:=qZ cw;have ga:=qZ fb;have ge:=qZ (fg.runs oZ);have ao:=qZ (aA bc T);have an:=qZ (aA f1 ao);have cc:=qZ (gp.below ao);have ea:=qZ (f6.on ao);have gf:=qZ (ag.below ao);have dy:=qZ (fw fq an (bu:Nat) (ac ep eo er) bt v10 y ⟨ea.cfg,Blk.below en T en.out.lt⟩ (ek.below ao) ge oZ);clear fg cw T fb am;go_wp2_with fail;refine dy.mono ?_;rintro e ht⟨g8,av⟩;have d8:=qZ (aA an av);have gm:=qZ (cc.below av);have f3:=qZ (ea.on av);have gg:=qZ (gf.below av);clear av dy;have ee:=qY ((gT (dH rs cB)).find? (λr=>kW c (eM c (dH rs cB)) r.p.dI)=(y.find? λx=>kW c bt x.dI).map eD) (by rw[gl.out,<-b5.out];exact aci b6);rcases g8 with⟨rfl,az⟩|⟨k,bl,rfl,az⟩
   .have b8:=qY (R=cC) (by have:=b3.out;rw[acw b9.out (by rw[ee.out,az];rfl)]at this;simpa using this.symm);clear az;go_wp2_with fail;go_ret2;rw[b8.out];exact⟨_,rfl,bL.nil _ _ _ _ _,d8⟩
   .have h9:¬(k:Int)<0:=oZ;have ed:=qY ((oW c rs ⟨g,p1,m,⟨n0,n1,n2⟩,p6,j,l,o,n⟩ f (cB++[y[k].id])).map (λcB=>kE c rs ⟨g,p1,m,⟨n0,n1,n2⟩,p6,j,l,o,n⟩ cB cB)=R) (by have:=b3.out;rwa [agz b9 (r:=eD y[k]) (by rw[ee.out,az];rfl)]at this);have em:=qY ((dH rs (cB++[y[k].id])).length<f) (by
     have ab:eD y[k]∈dH rs cB:=by have v:eD y[k]∈y.map eD:=bU.2 ⟨_,bD bl,rfl⟩;rw[b6.out]at v;rw[<-b5.out];exact(zY _).mem_iff.1 v
     have ai:(dH rs (cB++[y[k].id])).length<(dH rs cB).length:=aaz ab;have:=el.out;omega)
    have ef:=qY (∀K:List Run,K.map eD=gT (L.map eD)->∃h:k<K.length,K[k].id=y[k].id) (λK h=>by
     have e:K.map eD=y.map eD:=h.trans b6.out.symm;have bm:K.length=y.length:=by simpa using dB List.length e
     refine⟨oZ,?_⟩;have v:(K.map eD)[k]? =(y.map eD)[k]? :=by rw[e]
     rw[gB,gB,aH oZ,aH bl]at v;simp only[fW,Option.some.injEq]at v;exact dB (λr:eW=>r.p.id) v)
    obtain⟨I,ay⟩:=nZ (y[k].id);rw[ay]at ed em ef;have h8:k<=1000:=by have:=ga.out;omega
    have am:=qZ (YE gg bg ht (aK _ _));clear az ay bl;go_wp2_with fail;refine am.mono ?_;rintro e dn⟨ic,K,rfl,fh,cx,bj⟩;obtain⟨e8,e5⟩:=ef.out K cx;obtain⟨h1,h3,rfl,fe,he,hb⟩:=fh.runs (by
     have v:K.length=(gT (L.map eD)).length:=by rw[<-cx];simp
     have ai:=(zY (L.map eD)).length_eq;have:=bg.len;simp at ai;omega)
    obtain⟨eq,fo,rfl,cv,ax⟩:=qQ fe e8;have dh:dn.cell? (eq,fo+k*14)=cA (cE cD I):=by have:=(ax dn (aK _ _)).1;rwa [e5]at this
    obtain⟨gx,et⟩:=nZ K.length;rw[et]at e8 he⊢;have ia:(k:Int)<(gx:Int):=oZ;have fz:=qZ (aA d8 bj);have eb:=qZ (f3.on bj);have gn:=qZ (gm.below bj);obtain⟨ig,gy,hk,ev,cp⟩:=ahM gn (by have:=eb.dV.lt;omega) I oZ;have go:=qZ ev;have f0:=qY (cF w1 w1 gy) (fz.out.trans (Below.mono cp oZ));have f4:=qZ (eb.upto cp oZ oZ oZ);have fc:(cB++[I]).length+f=H+1:=by simp;omega
    have gb:=qZ fc;clear fh cx bj e5 fe hb ax cv et ev cp fc am;go_wp2_with(at_builtin;refine cK rfl (.tmp 43) (.tmp 51) _ _ rfl u9 (ac dn 1 1) rfl rfl hk ?_);go_roundg f;exact⟨cB++[I],f,bG _,gb,em,go,ed,f0,f4⟩;omega
  .have gj:=qY (R=cA (kE c rs ⟨g,p1,m,⟨n0,n1,n2⟩,p6,j,l,o,n⟩ cB cB)) (by have:=b3.out;rw[acy b9.out]at this;exact this.symm);have dv:=qZ (ZH (bL.isl bh oZ) oZ dp (aK _ _));go_wp2_with fail;refine dv.mono ?_;rintro e Z⟨hq,rfl,a0,M⟩;obtain⟨fv,c7,rfl,ff⟩:=a0.sl (λ_=>rfl);have gh:=qZ ff;have bb:=qZ (aA b0 M);have ap:=qZ (b2.on M);have cd:=qZ (bh.below M);obtain⟨N,cm⟩:=nZ cB.length;have b7:=qZ cm;rw[cm]at g9⊢;clear ff a0 M cm dv;go_wp2_with fail;go_loopg[9,56] N (λcl dk hp wr=>∃(k:Nat) (u:List Int),hp=cE cD k/\k<=N/\N<=cl+k/\u.length<=H+1/\Hid (bL wr ((w1:Nat)+1+1+1) 3 1 iL dk u)/\Hid (kE c rs ⟨g,p1,m,⟨n0,n1,n2⟩,p6,j,l,o,n⟩ (cB.drop k) u=kE c rs ⟨g,p1,m,⟨n0,n1,n2⟩,p6,j,l,o,n⟩ cB cB)/\Hid (cF Z Z wr));exact⟨0,cB,mZ,oZ,oZ,by rw[b7.out];omega,cd,qZ rfl,qZ (aK _ _)⟩
   obtain⟨k,u,rfl,bl,h7,cu,ah,ej,aq⟩:=hrel;have d9:=qZ (aA bb aq);by_cases hg:k<N
   .have hh:(k:Int)<(N:Int):=oZ;have ct:k<cB.length:=by rw[b7.out];exact hg
    obtain⟨eq,fo,rfl,cv,ax⟩:=qR gh ct;have dh:=ax wr aq;have eh:=qY (∀s2,(cX c (dH rs (nT cB[k] u)) ⟨g,p1,m,⟨n0,n1,n2⟩,p6,j,l,o,n⟩).isSome=s2->kE c rs ⟨g,p1,m,⟨n0,n1,n2⟩,p6,j,l,o,n⟩ (cB.drop (k+1)) (if s2=cP then nT cB[k] u else u)=kE c rs ⟨g,p1,m,⟨n0,n1,n2⟩,p6,j,l,o,n⟩ cB cB) (λs2 e=>by rw[<-ej.out,cZ ct,<-e];rfl);obtain⟨I,ay⟩:=nZ (cB[k]);rw[ay]at dh eh;obtain⟨dq,a5⟩:=nZ (wr.alloc (cN #[I] 3));have cr:=aB a5;have fu:=aX a5;have fj:(dq:Nat)=(wr:Nat)+1:=by rw[<-a5];simp
    have gw:=qZ a5;have au:=qZ (aC fu (aC cr fj));have du:=qZ (ZH (bL.isl ah oZ) oZ dq cr);clear ax cv ct ay a5 cr fu fj;go_wp2_with fail;refine Eq.mp (dB (λz=>cT cI _ _ z _) gw.out.symm) ?_;refine du.mono ?_;rintro e bu⟨hr,rfl,bq,O⟩;have dr:=Blk.below au.1 O au.1.lt;have fl:hr.ownBlock≠cA (wr:Nat):=λe=>by have:=(bq.lt _ e).1;have:=au.2.2;omega
    have dx:=qZ (adL bq oZ I (wr:Nat) dr.lt (dr.cell 0) fl);have ag:=qZ (aC bq O);clear bq O dr fl du;go_wp2_with fail;refine dx.mono ?_;rintro e al⟨fp,rfl,dd,e9,hj⟩;have aw:cF dq bu al:=e9.below (Below.size ag.2) (λi hi=>(ag.1.lt i hi).1);have be:=qY (cF wr wr al) (aA au.2.1 (ag.2.trans aw));have bc:=qZ (aA d9 be);have f7:=qZ (ap.on (aA aq be));have ib:(nT I u).length<=u.length:=eG _ _;have gr:=qY (bL al ((w1:Nat)+1+1+1) 3 1 iL fp (nT I u)) (dd.low (by have:=ap.dV.lt;have:=Below.size aq;have:=au.2.2;omega));have bw:=qZ (bz al bc f7 fp (nT I u) (bL.isl dd oZ) oZ);obtain⟨s2,de⟩:=nZ ((cX c (dH rs (nT I u)) ⟨g,p1,m,⟨n0,n1,n2⟩,p6,j,l,o,n⟩).isSome);have ei:=qZ (eh s2 de);rw[de]at bw;clear dd e9 hj aw de dx dh;go_wp2_with fail;refine bw.mono ?_;rintro e fq⟨rfl,T⟩;have an:=qZ (aA aq (aA be T));have cc:=qZ (gr.below T);have gt:=qZ (ah.below (aA be T));clear T bw;cases s2
    .have cb:=qY (kE c rs ⟨g,p1,m,⟨n0,n1,n2⟩,p6,j,l,o,n⟩ (cB.drop (k+1)) u=kE c rs ⟨g,p1,m,⟨n0,n1,n2⟩,p6,j,l,o,n⟩ cB cB) (by have:=ei.out;simpa using this);go_wp2_with fail;go_roundg(N-(k+1));exact⟨k+1,u,mZ,oZ,oZ,cu,gt,cb,an⟩;omega
    .have cb:=qY (kE c rs ⟨g,p1,m,⟨n0,n1,n2⟩,p6,j,l,o,n⟩ (cB.drop (k+1)) (nT I u)=kE c rs ⟨g,p1,m,⟨n0,n1,n2⟩,p6,j,l,o,n⟩ cB cB) (by have:=ei.out;simpa using this);go_wp2_with fail;go_roundg(N-(k+1));exact⟨k+1,nT I u,mZ,oZ,oZ,oZ,cc,cb,an⟩;omega
   .have hh:¬(k:Int)<(N:Int):=oZ;have f9:=qY (R=cA u) (by have v:=ej.out;rw[iH (by rw[b7.out];omega)]at v;rw[gj.out,<-v];rfl);go_wp2_with fail;go_ret2;rw[f9.out];exact⟨_,rfl,ah.low oZ,d9⟩
end bT
variable{aJ:Int}
namespace Srt
open Go.RowKit Go.Sort L bO eO
theorem jR.ara{α β:Type}{f:α->α->Int}(i:iQ f){g:β->α}{l d:List β}(h:jR (λa b=>f (g a) (g b)) l d):jR f (l.map g) (d.map g):=λx=>by
 rw[List.filter_map,List.filter_map];congr 1;by_cases c:∃y,f x (g y)=0
 .obtain⟨y,j⟩:=c;have e:((λz=>f x z==0)∘g)=λz=>f (g y) (g z)==0:=by funext z;show(f x (g z)==0)=_;rw[i.eq_left (g z) j]
  rw[e];exact h y
 .have e:((λz=>f x z==0)∘g)=λ_=>cV:=by funext z;show(f x (g z)==0)=cV;rw[beq_eq_false_iff_ne];exactλe=>c ⟨z,e⟩
  rw[e,nA.2 (λ_ _ h=>by cases h),nA.2 (λ_ _ h=>by cases h)]
theorem sorted_put(c:Cfg.C)(h:List Nat)(aQ:Int)(qs:List PO):(sorted c h aQ qs).toList.map (·.1)=tJ (jd c h aQ) (qs.map (·.1)):=by
 have f:iQ (WO c h aQ):=(AX c h aQ).pull (λx:PO=>x.1);have F:=zB (AX c h aQ) (qs.map (·.1)) [] List.Pairwise.nil;have a:=zB f qs [] List.Pairwise.nil;have e:=adx f qs;have e2:sorted c h aQ qs=gA (ltOf (WO c h aQ)) qs.toArray 0 qs.length:=rfl;rw[e2,<-e];refine CO (AX c h aQ) ?_ F.1 ?_
 .exact List.Pairwise.map (λx:PO=>x.1) (λx y h=>h) a.1
 .have b:=F.2;have d:=a.2;rw[List.nil_append]at b d;exact(jR.ara (AX c h aQ) d).symm.trans b
theorem afe{qs:List PO}{d:Array PO}(h:aeI w w' qs d v)(b:d.size=qs.length):SlK w' 11 fH v (d.toList.map (·.1)):=by
 rcases h with⟨rfl,rfl⟩|⟨g,cap,rfl,n,_,p⟩
 .have:d=#[]:=Array.eq_empty_of_size_eq_zero b;subst this;exact⟨cC,0,rfl,λe=>absurd rfl e⟩
 .refine⟨cA ⟨g,0,cC⟩,cap,by simp[b],λ_=>⟨g,0,rfl,p,λi x k j u f=>?_⟩⟩;have hi:i<d.size:=by have:=(bF.1 k).1;simpa using this
  have o:j<11:=(bF.1 f).1;have a:=(n.cell (i:=i) (c:=j) hi o).1;have r:x=(d[i]!).1:=by rw[bX d i hi];simpa[hi]using k.symm
  subst r;have l:(pE d[i]!)[j]! =u:=by have m:(pE d[i]!)[j]? =cA u:=f;rw[getElem!_def,m]
  rw[l]at a;rw[aO];rw[aO]at a;exact a
end Srt
namespace eO
open Go.RowKit Go.Sort L bO Srt
theorem adl(c:Cfg.C)(h:List Nat)(aQ:Int)(qs:List PO):(sorted c h aQ qs).size=qs.length:=by have:=(MF (f:=WO c h aQ) ((AX c h aQ).pull λx:PO=>x.1) qs.toArray (bI qs.length) sZ).size;simpa[sorted]using this
end eO
namespace bT
open Go.RowKit L bO eO Srt
theorem ame(A:Option Addr)(c:Nat)(g:Nat)(a:Array cJ)(w:cM):cT cI 202 #[ac A 0 c,(),(),.func (.func g) #[] a] w λe w'=>e=cH (eA #[])/\w'=w:=by
 go_enter func202,ntmps202;go_wp2_with fail;refine hL 1 ?_;rw[hZ];go_wp2_with fail
 go_end0
 exact⟨rfl,rfl⟩
theorem adj(A:Option Addr)(c:Nat)(g:Nat)(a:Array cJ)(w:cM):cT cI 81 #[ac A 0 c,.func (.func g) #[] a] w λe w'=>e=cH (eA #[])/\w'=w:=by
 have G:=qZ (ame A c g a w);go_enter func81,ntmps81;go_wp2_with fail;go_enter func138,ntmps138;go_wp2_with fail;refine hL 1 ?_;rw[hZ];go_wp2_with fail;refine G.mono ?_;rintro e b⟨rfl,rfl⟩;go_wp2_with fail;refine hL 1 ?_;rw[hZ];go_wp2_with fail
 go_end0
 exact⟨rfl,rfl⟩
def acR(qs:List cS)(w:cM)(e:eS)(w':cM):Prop:=∃v,e=cH v/\SlK w' 11 fH v qs/\(qs≠[]->∀b,v.ownBlock=cA b->(w:Nat)<=b)/\cF w w w'
theorem ahE{l:cJ}{aG aQ next:Int}(w:cM)(A:Option Addr)(cap:Nat):cT cI 35 #[cY #[v1,v2,aG,aJ,aQ,next,ac A 0 cap,vr,l]] w λe w'=>acR [] w e w':=by
 obtain⟨a,d⟩:=nZ (w.alloc (cN #[v1,v2,aG,aJ,aQ,next,ac A 0 cap,vr,l] 31));have j:=aB d;have m:=qZ j;have n:=qZ d;have G:=qY (cT cI 77 #[ac A 0 cap] a λe w'=>∃v',e=cH v'/\bL w' a 44 11 fH v' []/\cF a a w') (uQ abJ pinfo rfl oZ hN pel (w:=a) (show SlK a 11 fH (ac A 0 cap) []from⟨A,cap,rfl,λh=>absurd rfl h⟩) (bI _) (bI _));clear j d;go_enter func35,ntmps35;go_wp2_with fail;rw[n.out];refine G.mono ?_;rintro e o⟨v',rfl,k,i⟩;obtain⟨b,c,rfl⟩:∃b c,v'=ac b 0 c:=by
  rcases k.form with⟨e,_⟩|⟨g,cap,e,_⟩
  .exact⟨_,_,e⟩
  .exact⟨_,_,e⟩
 have f:=qZ (aA m i);clear G k i;go_wp2_with fail;refine(adj b c _ _ _).mono ?_;rintro e p⟨rfl,rfl⟩;go_wp2_with fail;go_ret;exact⟨_,rfl,⟨b,c,rfl,λh=>absurd rfl h⟩,λh=>absurd rfl h,f.alloc f.size _⟩
theorem aio{j:cJ}(h:StR w v1 v2 vp vr j s rl)(ok:QJ s):cT cI 35 #[stv v1 v2 vp vr j s] w λe w'=>acR (jf s) w e w':=by
 by_cases a:s.ps=[]
 .obtain⟨A,cap,e,_⟩:=h.ps;rw[a]at e;subst e;have m:jf s=[]:=abk a;rw[m];exact ahE w A cap
 .obtain⟨qs,d⟩:=abH s.ps (λp a=>(ok.kV p (dY _ a)).ok);have n:qs.length=s.ps.length:=by rw[<-d,bP]
  refine(akQ (vr:=vr) (next:=s.next) ⟨h.cfg,ok.mild.aN,ok.wok,h.h⟩ (ok.ne a) ok.num (by rw[d];exact h.ps) (by have:=ok.len;omega)).mono ?_;rintro e w'⟨v,rfl,i,k⟩;have f:=afe i (adl s.c s.h s.aQ qs);rw[sorted_put,d]at f;refine⟨v,rfl,f,λ_ b c=>?_,k⟩;rcases i with⟨_,rfl⟩|⟨g,cap,rfl,_,l,_⟩
  .cases c
  .injection c with c;exact c▸l
theorem ahY(w:cM):PSl w (ac cC 0 0) []:=⟨cC,0,rfl,bG _,bI _,λh=>absurd rfl h,λy a=>by cases a⟩
def aqy(w:cM)(e:eS)(w':cM):Prop:=e=cH (stv (ac cC 0 0) (ac cC 0 0) (ac cC 0 0) (ac cC 0 0) (ac cC 0 0) Top.new)/\StR w' (ac cC 0 0) (ac cC 0 0) (ac cC 0 0) (ac cC 0 0) (ac cC 0 0) Top.new []/\cF w w w'
theorem OP(w:cM):cT cI 24 #[] w λe w'=>aqy w e w':=by go_enter func24,ntmps24;go_wp2;obtain⟨p,a⟩:=nZ (w.alloc (cN #[cP,cP,(),(),(),(1:Int),cP,cP,cP] 31));have d:=aX a;have c:=aB a;rw[a];obtain⟨f,g,i,j,k,l,m,n,o⟩:=d.c9;refine eV (v:=cY #[cP,cP,(),(),(),(1:Int),cP,cP,cP]) (by simp[results,Tryz.results24,go_sem,f,g,i,j,k,l,m,n,o]) rfl ?_;refine⟨rfl,⟨⟨_,_,rfl,⟨cC,0,rfl,λh=>absurd rfl h,bI _⟩,⟨cC,0,rfl,λh=>absurd rfl h,bI _⟩⟩,ahY _,⟨cC,0,rfl,λh=>absurd rfl h,bI _,λy b=>by cases b⟩,rfl,⟨cC,0,rfl,λh=>absurd rfl h,bI _,λy b=>by cases b⟩⟩,c⟩
end bT
end Go.Proofs.YtedmeglbjmdlhaaGreatDoor
