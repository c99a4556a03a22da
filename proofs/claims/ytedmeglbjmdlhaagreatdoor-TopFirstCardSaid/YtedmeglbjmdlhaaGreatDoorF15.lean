/-
TopFirst: whatever commands came ahead, of the gangs that wait the first, if it fits, is admitted first. No conditions beyond the card.
-/
import Derived.Test.YtedmeglbjmdlhaaGreatDoorF14
import Derived.Test.YtedmeglbjmdlhaaGreatDoorTie
import Derived.ShutString
import Derived.LaidMore
import Derived.Stop.LaidErr
set_option maxRecDepth 100000
set_option maxHeartbeats 16000000
set_option linter.all false
open Go.Proofs.Tryz
namespace Go.Proofs.YtedmeglbjmdlhaaGreatDoor
open Go.Value renaming int->ac,slice->cC,pointer->cF,agg->cM,bool->eV,tuple->gb
open Go.IntKind renaming i64->cA,wrap_i64->eM
open Go renaming undef->cD,Value->cJ,World->cL,bodyPost_ret->cT,wpList_store_row->cU,Addr->cV,TypeId->cX,Calls->cY,laidMetH->eI,results_cell_row->eJ,execOp->eL,wpList_load_row->eQ,Program->eR,Ending->eW,Operand->fW
open Bool renaming true->cE,false->dC
open Option renaming some->cG,none->cH,map->fX
open Go.Obj renaming cells->cI
open Go.RowKit renaming Below->cN
open Go.Ending renaming returned->cP
open Top renaming Cmd->cQ,apply->cS,E->eE,iK->eK,row->eS,s7->fL,p4->fN,Plain->ga,Good->gd,noC->gf,new->gg,run->gh
open Go.Proofs.Tryz renaming prog->cR,underlying75->cW,f3->eN
open L.Blk renaming new->dE
open _root_.Array renaming all_toList->dT
open Jou renaming clean->eA
open Go.Result renaming andThen_ok->eC
open Go
open Crc Dsk L Ord Quo Srt Top bO bT eO oQ oU rM topFirst
namespace bT
open Go.RowKit L bO eO Srt oU oQ
section
variable {B z:Nat} {L L' G:Nat->Prop} {w w':cL} {sb g m:Nat} {xs:List cQ}
theorem pF.bA(h:pF B L z w sb g m xs)(k:aL G w w')(a:∀i,G i->L i/\i<z):pF B L z w' sb g m xs:=by obtain⟨⟨j,v1,v2,vp,vr,r,rl,f,l,n,c⟩,p,d⟩:=h;exact⟨⟨j,v1,v2,vp,vr,r,rl,f.bA k λe=>d (a _ e).1,l.uW k λb o e=>by have:=(c b o).1;have:=(a b e).2;omega,n.bA k λi e=>.inl (.inl (a i e).1),c⟩,p,d⟩
theorem pF.below(h:pF B L z w sb g m xs)(k:cN w w w'):pF B L z w' sb g m xs:=h.bA (aL.bQ (F:=λ_=>False) k) (λ_ h=>h.elim)
theorem pF.lt(h:pF B L z w sb g m xs):sb<(w:Nat):=by obtain⟨⟨j,v1,v2,vp,vr,b,rl,a,_⟩,_,_⟩:=h;exact a.lt
theorem pF.more(h:pF B L z w sb g m xs)(k:aL G w w')(a:∀i,G i->L i/\i<z)(d:∀i,L' i->L i\/(w:Nat)<=i):pF B L' z w' sb g m xs:=by
 have v:=h.lt;have u:=h.bA k a;obtain⟨⟨j,v1,v2,vp,vr,s,rl,l,n,o,c⟩,r,f⟩:=h;refine⟨⟨j,v1,v2,vp,vr,s,rl,l.bA k λe=>f (a _ e).1,n.uW k λb p e=>by have:=(c b p).1;have:=(a b e).2;omega,o.more k (λi e=>.inl (.inl (a i e).1)) λi hi=>?_,c⟩,r,λe=>?_⟩
 .rcases hi with e|e
  .rcases d i e with e2|e2
   .exact .inl (.inl e2)
   .exact .inr e2
  .exact .inl (.inr e)
 .rcases d sb e with e2|e2
  .exact f e2
  .omega
theorem pF.less(h:pF B L z w sb g m xs)(a:∀i,L' i->L i):pF B L' z w sb g m xs:=h.more (aL.refl (λ_=>False) w) (λ_ h=>h.elim) (λi e=>.inl (a i e))
theorem pF.disk(h:pF B L z w sb g m xs):oU.Own B L w g (eA m (Top.bA xs)):=by obtain⟨⟨j,v1,v2,vp,vr,l,rl,b,c,a,d⟩,k,f⟩:=h;exact alC a.own (λi e=>.inl (.inl e))
end
structure yU (B:Nat) (L:Nat->Prop) (z:Nat) (w:World) (db sb g m:Nat) (xs:List Top.Cmd):Prop where
 bV:Blk w db 196 #[.pointer g,.pointer sb]
 sto:pF B (λk=>L k\/k=db) z w sb g m xs
 low:B<=db
 apart:¬L db
 lz:db<z
theorem yU.more{B z:Nat}{L L' G:Nat->Prop}{w w':cL}{b sb g m:Nat}{xs:List cQ}(h:yU B L z w b sb g m xs)(k:aL G w w')(a:∀i,G i->L i/\i<z)(c:∀i,L' i->L i\/(w:Nat)<=i):yU B L' z w' b sb g m xs:=
 ⟨h.bV.bA k λe=>h.apart (a _ e).1,h.sto.more k (λi e=>⟨.inl (a i e).1,(a i e).2⟩) (λi e=>by
  rcases e with e|e
  .exact(c i e).imp .inl id
  .exact .inl (.inr e)),h.low,λe=>by
  rcases c _ e with e2|e2
  .exact h.apart e2
  .have:=h.bV.lt;omega,h.lz⟩
theorem yU.below{B z:Nat}{L:Nat->Prop}{w w':cL}{a sb g m:Nat}{xs:List cQ}(h:yU B L z w a sb g m xs)(k:cN w w w'):yU B L z w' a sb g m xs:=h.more (aL.bQ (F:=λ_=>False) k) (λ_ h=>h.elim) (λi e=>.inl e)
def anl(B:Nat)(L:Nat->Prop)(db g m:Nat)(xs:List cQ)(w:cL)(e:eW)(w':cL):Prop:=∃sb,e=cP (ac cA 0)/\yU B L (w:Nat) w' db sb g m xs/\aL (Room B L) w w'
theorem ZF{B:Nat}{L:Nat->Prop}{w:cL}{a g m:Nat}{xs:List cQ}{s:Option cV}(f:Blk w a 196 #[cF g,cF s])(I:B<=a)(J:¬L a)(o:oU.Own B (λk=>L k\/k=a) w g (eA m (Top.bA xs)))(z:B<=(w:Nat))(y:0<B)(A:Live L w)(F:WU xs)(l:xs.length<=900){ty:cX}{K:cJ}(H:w.cell? (0,0)=cG (.iface ty K)):cY cR 122 #[cF a] w λe w'=>anl B L a g m xs w e w':=by
 have n:=f.lt;have x:=qZ (ahF o z y (λk b=>by
  rcases b with b|b
  .exact A k b
  .rw[b];exact n) F l H)
 have M:CV w a 0 (cF g):=f.cell 0;have u:=qZ f;have c:=qZ (aC I (aC J n));go_enter func122,ntmps122;go_wp2_with fail;refine x.out.mono ?_;rintro e w1⟨sb,rfl,hs,O,b⟩;have j:=u.bA b (λd=>d.2 (.inr rfl));have c1:CV w1 a 1 (cF s):=j.cell 1;have N:w1.frozen? (a,1)=dC:=j.frozen 1;have r:aL (λi=>i=a) w1 (w1.setCell (a,1) (cF sb)):=(aL.refl (λi=>i=a) w1).setCell (p:=⟨a,1,cH⟩) (.inl rfl) _;have v:=qY (anl B L a g m xs w (cP (ac cA 0)) (w1.setCell (a,1) (cF sb))) (⟨sb,rfl,⟨j.bR 1 _,hs.bA r λi e=>⟨.inr e,by rw[e];exact c.2.2⟩,c.1,c.2.1,c.2.2⟩,(b.mono λi _ d=>⟨d.1,λl=>d.2 (.inl l)⟩).trans (r.mono λi _ e=>by rw[e];exact⟨c.1,c.2.1⟩)⟩);go_wp2_with fail;go_ret;exact v
def aqB(m:Nat)(w:cL)(e:eW)(w':cL):Prop:=∃db sb g,e=cP (cF (cG ⟨db,0,cH⟩))/\(∃z,yU (w:Nat) Nothing z w' db sb g m [])/\cN w w w'
theorem amC{w:cL}(m:Nat)(v:m<=1048576){ty:cX}{M:cJ}(u:w.cell? (0,0)=cG (.iface ty M))(r:0<(w:Nat)):cY cR 61 #[m] w λe w'=>aqB m w e w':=by
 have c:=oU.VP (m:Int) w;have y:(Dsk.new (m:Int)).size=m:=by unfold Dsk.new;simp only;omega
 rw[y]at c;have g:=qZ c;have F:=qZ u;have H:=qZ v;clear c y u v;go_enter func61,ntmps61;go_wp2_with fail;refine g.mono ?_;rintro e w1⟨rfl,f⟩;have z:oU.Own (w:Nat) Nothing w1 (w:Nat) (eA m (Top.bA [])):=by rw[f];exact aob m H lZ (KT _)
 have b1:cN w w w1:=by rw[f];exact bZ
 obtain⟨O,b⟩:=nZ (w1.alloc (cI #[cF w,cF cH] 196));have b2:=aB b;obtain⟨n,d⟩:=nZ (w1:Nat);have A:=aY b d;have J:=b1.size;have o:=qZ (ZF (L:=Nothing) (m:=m) (xs:=[]) A oZ (λh=>h) (yN z (G:=λ_=>False) (aL.bQ b2) (λ_ h=>h.elim) (λi hi=>by
  rcases hi with h|h
  .exact h.elim
  .right;omega)) (by have:=b2.size;omega) r (KT _) ⟨λx K=>(by cases K),λk a=>(by cases a)⟩ sZ (((aA b1 b2).cell (p:=⟨0,0,cH⟩) r).trans F))
 have j:=qZ (aA b1 b2);have l:=qZ (aC b d);clear f z b1 b b2 d A J g;go_upto_region 2 with fail;rw[l.out.1,l.out.2];go_wp2_with fail;refine o.out.mono ?_;rintro e N⟨sb,rfl,s,a⟩;have I:=qY (aqB m w (cP (cF n)) N) (⟨n,sb,_,rfl,⟨_,s⟩,j.out.trans (a.below j.size λi hi=>hi.1)⟩);clear o s a;go_wp2_with fail;go_ret;exact I
end bT
variable{g m z:Nat}{ty:cX}{x:cJ}{w:cL}
variable{ev:List eE}{j k l n:Nat}{A:Option cV}{v:cJ}{W w1 wr:cL}
variable{cs:Array cJ}{sz:Nat}
variable{s:Top.S}
variable{a:Act}{Q:Exit->Act->cL->Prop}{rl:List bO.Run}{v' v1 v2 vp vr:cJ}{w':cL}
variable{X:cJ}
namespace bT
open Go.RowKit L bO eO Srt oU oQ
theorem adM(m:Nat)(l:List UInt8)(n:Int):yC (eA m l) n=eA m l:=by unfold yC eA uX;simp
def aeZ(kind:Int)(x:cQ)(c1 c2:cJ)(n:Int):cJ:=cM (#[ac cA kind]++(rG x c1 c2)++#[ac cA n])
structure ML (db bx:Nat) (ds cs:Array Value) (W:World):Prop where
 db:Blk W db 196 ds
 box:Blk W bx 75 cs
def DDo(B:Nat)(L:Nat->Prop)(db g m:Nat)(xs:List cQ)(evs:List eE)(w:cL)(e:eW)(w':cL):Prop:=∃ve sb z,e=cP (cM #[(),ve])/\yU B (λk=>L k\/ve.ownBlock=cG k) z w' db sb g m xs/\bL w' w 49 3 mY ve evs/\aL (Room B L) w w'/\(w:Nat)<=z
theorem aoI{B:Nat}{L:Nat->Prop}{f u:Nat}{xs:List cQ}(h:yU B L z w f u g m xs)(b0:B<=(w:Nat))(bd:Live L w){x:cQ}(b9:ga x){c1 c2:cJ}(ay:bW w (cM #[c1,c2,x.c.aG,x.c.aJ]) x.c)(b3:iU (iK xs) x=0)(b6:(Top.bA (xs++[x])).length<=m)(a5:xs.length<=900)(A:Int):cY cR 62 #[cF f,aeZ 1 x c1 c2 A] w λe w'=>DDo B L f g m (xs++[x]) (cS (iK xs) x).2 w e w':=by
 obtain⟨ax,b8,b5,b1,cm⟩:=h;obtain⟨bc,az⟩:=nZ ((cS (iK xs) x).2);obtain⟨ys,a8⟩:=nZ (xs++[x]);rw[az,a8];obtain⟨w0,F⟩:=nZ (w.alloc (cI (#[ac cA 1]++(rG x c1 c2)++#[ac cA A]) 75));obtain⟨j,ak⟩:=nQ (w0.alloc (cI #[(),cE] 84));have bi:(w0:Nat)=(w:Nat)+1:=by rw[<-F];exact aT ..
 have b2:=aB F;have bf:=aB ak;have r:cN w w j:=aA b2 bf;have x0:Blk w0 w 75 (#[ac cA 1]++(rG x c1 c2)++#[ac cA A]):=by rw[<-F];exact dE _ _ _
 have a9:=x0.below bf x0.lt;have cb:Blk j ((w:Nat)+1) 84 #[(),cE]:=by rw[<-ak.out,<-bi];exact dE _ _ _
 have bj:(j:Nat)=(w:Nat)+1+1:=by rw[<-ak.out,aT,bi]
 have bg:=ax.lt;have st:pF B (λk=>(L k\/k=f)\/k=(w:Nat)+1\/k=(w:Nat)) z j u g m xs:=(b8.more (G:=λ_=>False) (aL.bQ r) (λ_ h=>h.elim) (λi e=>by
  rcases e with e|e|e
  .exact .inl e
  .right;omega
  .right;omega))
 have ca:Live (λk=>(L k\/k=f)\/k=(w:Nat)+1\/k=(w:Nat)) j:=λk b4=>by
  rcases b4 with(e|e)|e|e
  .have:=bd k e;have:=r.size;omega
  .have:=r.size;omega
  .omega
  .omega
 have av:∀W,aD j W->cY cR 123 #[cF u,qF x.kind c1 c2 x.c.aG x.c.aJ x.g x.n] W λe w'=>SDo B (λk=>(L k\/k=f)\/k=(w:Nat)+1\/k=(w:Nat)) u g m ys bc W e w':=λW d=>by rw[<-a8,<-az];exact anC (st.below d) (by have:=r.size;have:=d.size;omega) (ca.bA d.size) b9 ((ay.below r).below d) b3 b6 a5
 obtain⟨B1,aa,Y,rfl⟩:=bW.s1 ay;obtain⟨B2,ab,Z,rfl⟩:=bW.s2 ay;have bb:=qZ (ax.below r ax.lt);have ap:=qZ (aC b5 (aC b1 bg));obtain⟨kind,c,⟨I,J,K,⟨M,N,O⟩,Q,T,X,cr,cq⟩,xn⟩:=x;obtain⟨aG,bh⟩:=nZ c.aG;obtain⟨aJ,be⟩:=nZ c.aJ;simp only[bh,be,qF,gK,aeZ,rG]at av F a9⊢;simp only[eY,List.cons_append,List.nil_append]at av F a9⊢;have bt:Hid ((w.alloc (cI #[(1:Int),kind,cC B1 aa Y,cC B2 ab Z,aG,aJ,I,J,K,M,N,O,Q,T,X,xn,A] 75)).alloc (cI #[(),cE] 84)=j):=qZ (by rw[F,ak.out]);have ar:=qZ a9;have bu:=qZ cb;have bo:=qZ r;have bs:=qZ bj;have bm:=qZ av;clear az a8 F bh be;go_enter func62,ntmps62;go_upto_region 3 with fail;rw[bt.out];have co:CI j w 0 1:=ar.cell 0;go_upto_region 9 with fail;have cp:∀W,ML f (w:Nat) #[cF g,cF u] #[(1:Int),kind,cC B1 aa Y,cC B2 ab Z,aG,aJ,I,J,K,M,N,O,Q,T,X,xn,A] W->CI W w 1 kind/\CV W w 2 (cC B1 aa Y)/\CV W w 3 (cC B2 ab Z)/\CI W w 4 aG/\CI W w 5 aJ/\CI W w 6 I/\CI W w 7 J/\CI W w 8 K/\CI W w 9 M/\CI W w 10 N/\CI W w 11 O/\CI W w 12 Q/\CI W w 13 T/\CI W w 14 X/\CI W w 15 xn/\CV W f 1 (cF u):=λW d=>⟨d.box.cell 1,d.box.cell 2,d.box.cell 3,d.box.cell 4,d.box.cell 5,d.box.cell 6,d.box.cell 7,d.box.cell 8,d.box.cell 9,d.box.cell 10,d.box.cell 11,d.box.cell 12,d.box.cell 13,d.box.cell 14,d.box.cell 15,d.db.cell 1⟩;refine jB (ML f (w:Nat) #[cF g,cF u] #[(1:Int),kind,cC B1 aa Y,cC B2 ab Z,aG,aJ,I,J,K,M,N,O,Q,T,X,xn,A]) (.take 0 (.take 1 (.take 2 (.take 3 (.take 4 (.take 5 (.one 6 (.take 7 (.take 8 (.take 9 (.take 10 (.one 11 (.take 12 (.one 13 .done)))))))))))))) kZ kZ ⟨bb.drew,ar.drew⟩ ?_;(iterate 6 refine tT ?_);refine dQ ?_;refine tC ?_;refine(bm _ (aD.drew j)).mono ?_;rintro e H⟨cs,rfl,b7,af,al⟩;obtain⟨l,s,o,rfl⟩:=af.sA;have ba:=(bb.drew).bA al (λy=>y.2 (.inl (.inr rfl)));have bl:=(ar.drew).bA al (λy=>y.2 (.inr (.inr rfl)));have ah:=(bu.drew).bA al (λy=>y.2 (.inr (.inl rfl)));refine⟨_,rfl,⟨ba,bl⟩,?_⟩;have bg:=ap.2.2;obtain⟨a,aw⟩:=nZ ((w:Nat)+1);rw[aw]at ah;obtain⟨ad,ai⟩:=nQ (H.setCell (a,1) (cC l s o));obtain⟨ae,aj⟩:=nQ (ad.setCell (a,0) (ac cA 0));obtain⟨ag,aq⟩:=nQ ((ae.setCell (a,0) (ac cA 0)).setCell (a,1) (cC l s o));have an:Blk ad a 84 #[(),cC l s o]:=by rw[<-ai.out];exact ah.bR 1 _
 have ao:Blk ae a 84 #[(),cC l s o]:=by rw[<-aj.out];exact an.bR 0 _
 have bk:Blk ag a 84 #[(),cC l s o]:=by rw[<-aq.out];exact(ao.bR 0 _).bR 1 _
 have am:aL (λi=>i=a) H ag:=by rw[<-aq.out,<-aj.out,<-ai.out];exact((((aL.refl (λi=>i=a) H).setCell (p:=⟨a,1,cH⟩) (.inl rfl) _).setCell (p:=⟨a,0,cH⟩) (.inl rfl) _).setCell (p:=⟨a,0,cH⟩) (.inl rfl) _).setCell (p:=⟨a,1,cH⟩) (.inl rfl) _
 have au:ML f (w:Nat) #[cF g,cF u] #[(1:Int),kind,cC B1 aa Y,cC B2 ab Z,aG,aJ,I,J,K,M,N,O,Q,T,X,xn,A] ad:=by rw[<-ai.out];exact⟨ba.far (by show f≠a;omega) _,bl.far (by show(w:Nat)≠a;omega) _⟩
 have bv:ML f (w:Nat) #[cF g,cF u] #[(1:Int),kind,cC B1 aa Y,cC B2 ab Z,aG,aJ,I,J,K,M,N,O,Q,T,X,xn,A] ae:=by rw[<-aj.out];exact⟨au.db.far (by show f≠a;omega) _,au.box.far (by show(w:Nat)≠a;omega) _⟩
 have bj:=bs.out;have cn:j.drew.heap.size=(j:Nat):=rfl;have bp:=qY (DDo B L f g m ys bc w (cP (cM #[(),cC l s o])) ag) (by
  refine⟨_,u,j.drew.heap.size,rfl,⟨ba.bA am oZ,(b7.bA am λi e=>⟨.inl (.inr (.inl oZ)),oZ⟩).less λi hi=>?_,ap.1,λh=>?_,oZ⟩,?_,?_,oZ⟩
  .rcases hi with(e|e)|e
   .exact .inl (.inl (.inl e))
   .exact .inr e
   .exact .inl (.inl (.inr e))
  .rcases h with e|e
   .exact ap.2.1 e
   .have:=(af.lt _ e).1;omega
  .exact(af.bA λb r=>am.block b (af.lt b r).2 (by have:=(af.lt b r).1;omega)).low oZ
  .have bw:aL (Room B L) w j.drew:=(aL.bQ bo).drew;have bz:aL (Room B L) j.drew H:=al.mono (λi _ y=>⟨y.1,λa5=>y.2 (.inl (.inl a5))⟩);exact(bw.trans bz).trans' am λi hi e=>oZ)
 obtain⟨ci,e1⟩:CI H a 0 0/\CV H a 1 (cC cH 0 0):=⟨ah.cell 0,ah.cell 1⟩;obtain⟨a0,a1⟩:CI ad a 0 0/\CV ad a 1 (cC l s o):=⟨an.cell 0,an.cell 1⟩;obtain⟨ch,d1⟩:CI ae a 0 0/\CV ae a 1 (cC l s o):=⟨ao.cell 0,ao.cell 1⟩;obtain⟨cc,cd⟩:CI ag a 0 0/\CV ag a 1 (cC l s o):=⟨bk.cell 0,bk.cell 1⟩;have cj:∀n,H.frozen? ⟨a,n,cH⟩=dC:=λn=>ah.frozen n;have ck:∀n,ad.frozen? ⟨a,n,cH⟩=dC:=λn=>an.frozen n;have cl:∀n,ae.frozen? ⟨a,n,cH⟩=dC:=λn=>ao.frozen n;have bn:=qZ aw;have bq:=qZ au;have br:=qZ bv;clear aw;rw[bn.out];(iterate 4 refine tT ?_);refine dQ ?_;apply sK;rfl;rfl;(focus(go_simp;first|done|(rw[ai.out])|rfl));exact bq;(focus(go_simp;first|done|rfl));(iterate 1 refine tT ?_);refine dQ ?_;apply sK;rfl;rfl;(focus(go_simp;first|done|(rw[aj.out])|rfl));exact br;(focus(go_simp;first|done|rfl));refine fA ?_;go_wp2_with fail;rw[aq.out];refine cT (v:=cM #[(),cC l s o]) (by simp[results,Tryz.results62,go_sem,cc,cd]) rfl ?_;exact bp
theorem agv{B:Nat}{L:Nat->Prop}{d T:Nat}{xs:List cQ}(h:yU B L z w d T g m xs)(a5:B<=(w:Nat))(a0:0<B)(ad:Live L w)(bb:WU xs)(r:xs.length<=900)(bc:w.cell? (0,0)=cG (.iface ty x))(j:Int):cY cR 62 #[cF d,cM #[(3:Int),(),cE,cE,(),(),(),(),(),(),(),(),(),(),(),(),j]] w λe w'=>DDo B L d g m xs [] w e w':=by
 obtain⟨M,be,bd,a8,bu⟩:=h;obtain⟨w0,F⟩:=nQ (w.alloc (cI #[(3:Int),(),cE,cE,(),(),(),(),(),(),(),(),(),(),(),(),j] 75));obtain⟨c,H⟩:=nQ (w0.alloc (cI #[(),cE] 84));have ah:(w0:Nat)=(w:Nat)+1:=by rw[<-F.out];exact aT ..
 have a9:=aB F;have af:=aB H;have l:cN w w c:=aA a9 af;have x0:=aX F;have bj:=x0.below af x0.lt;have bk:Blk c ((w:Nat)+1) 84 #[(),cE]:=by rw[<-H.out,<-ah];exact dE _ _ _
 have Q:(c:Nat)=(w:Nat)+1+1:=by rw[<-H.out,aT,ah]
 have N:=M.lt;have bh:oU.Own B (λk=>(L k\/k=(w:Nat)+1\/k=(w:Nat))\/k=d) c.drew g (eA m (Top.bA xs)):=yN be.disk (G:=λ_=>False) (aL.bQ l).drew (λ_ h=>h.elim) (λi e=>by
  rcases e with(e|e|e)|e
  .exact .inl (.inl e)
  .right;omega
  .right;omega
  .exact .inl (.inr e))
 have aj:Live (λk=>(L k\/k=(w:Nat)+1\/k=(w:Nat))\/k=d) c.drew:=λk O=>by
  have bf:c.drew.heap.size=(c:Nat):=rfl;rcases O with(e|e|e)|e
  .have:=ad k e;have:=l.size;omega
  .omega
  .omega
  .have:=l.size;omega
 have ab:=ajF bh (by have:=l.size;have bf:c.drew.heap.size=(c:Nat):=rfl;omega) aj j;rw[adM]at ab;have av:Hid ((w.alloc (cI #[(3:Int),(),cE,cE,(),(),(),(),(),(),(),(),(),(),(),(),j] 75)).alloc (cI #[(),cE] 84)=c):=qZ (by rw[F.out,H.out]);have Z:=qZ (M.below l M.lt);have A:=qZ (aC bd (aC a8 N));have y:=qZ (aC a5 a0);have J:=qZ bj;have aw:=qZ bk;have Y:=qZ l;have aa:=qZ Q;have am:=qZ ab;have ao:=qZ bb;have ap:=qZ bc;have aq:=qZ aj;go_enter func62,ntmps62;go_upto_region 3 with fail;rw[av.out];have bz:CI c w 0 3:=J.cell 0;go_upto_region 13 with fail;have b0:∀W,ML d (w:Nat) #[cF g,cF T] #[(3:Int),(),cE,cE,(),(),(),(),(),(),(),(),(),(),(),(),j] W->CI W w 16 j/\CV W d 0 (cF g):=λW ae=>⟨ae.box.cell 16,ae.db.cell 0⟩;refine jB (ML d (w:Nat) #[cF g,cF T] #[(3:Int),(),cE,cE,(),(),(),(),(),(),(),(),(),(),(),(),j]) (.take 0 (.take 1 (.take 2 (.take 3 (.take 4 (.take 5 (.one 6 .done))))))) kZ kZ ⟨Z.drew,J.drew⟩ ?_;(iterate 6 refine tT ?_);refine dQ ?_;refine tC ?_;refine am.mono ?_;rintro e X⟨rfl,bg,f⟩;have al:=(Z.drew).bA f (λa=>a.2 (.inr rfl));have bm:=(J.drew).bA f (λa=>a.2 (.inl (.inr (.inr rfl))));have bl:=(aw.drew).bA f (λa=>a.2 (.inl (.inr (.inl rfl))));refine⟨_,rfl,⟨al,bm⟩,?_⟩;have N:=A.2.2;have Q:=aa.out;have bt:=f.size;have bw:c.drew.heap.size=(c:Nat):=rfl;have az:=qZ (ZF (L:=λk=>L k\/k=(w:Nat)+1\/k=(w:Nat)) al A.1 (λh=>by
  rcases h with e|e|e
  .exact A.2.1 e
  .omega
  .omega) bg (by have:=y.1;omega) y.2 (λk O=>aM (aq k (.inl O)) f.size) ao r ((f.cell (p:=⟨0,0,cH⟩) (by show 0<_;omega) (λa=>by have bs:B<=0:=a.1;have:=y.2;omega)).trans ((Y.cell (p:=⟨0,0,cH⟩) (by show 0<_;have:=y.out;omega)).trans ap)))
 have ay:=qY (aL (Room B L) w X) (((aL.bQ Y).drew).trans (f.mono λi _ a=>⟨a.1,λr=>a.2 (.inl (.inl r))⟩));have ax:=qZ bl;have au:=qY ((c:Nat)<=(X:Nat)) oZ;refine fA ?_;go_wp2_with fail;refine az.out.mono ?_;rintro e o⟨bi,rfl,ba,ag⟩;have N:=A.2.2;have Q:=aa.out;obtain⟨b,K⟩:=nZ ((w:Nat)+1);have u:=ax.bA ag (λa=>a.2 (.inr (.inl rfl)));rw[K]at u;obtain⟨s,I⟩:=nQ (((o.setCell (b,0) (ac cA 0)).setCell (b,0) (ac cA 0)).setCell (b,1) (cC cH 0 0));have ak:Blk s b 84 #[(),cE]:=by rw[<-I.out];exact((u.bR 0 _).bR 0 _).bR 1 _
 have ai:aL (λi=>i=b) o s:=by rw[<-I.out];exact(((aL.refl (λi=>i=b) o).setCell (p:=⟨b,0,cH⟩) (.inl rfl) _).setCell (p:=⟨b,0,cH⟩) (.inl rfl) _).setCell (p:=⟨b,1,cH⟩) (.inl rfl) _
 have bv:=au.out;have ar:=qY (DDo B L d g m xs [] w (cP (cM #[(),cE])) s) (by
  refine⟨_,bi,(X:Nat),rfl,ba.more ai (λi e=>⟨.inr (.inl oZ),oZ⟩) λi hi=>?_,bL.nil _ _ _ _ _,?_,oZ⟩
  .rcases hi with e|e
   .exact .inl (.inl e)
   .cases e
  .exact(ay.out.trans (ag.mono λi _ a=>⟨a.1,λr=>a.2 (.inl r)⟩)).trans' ai λi hi e=>oZ)
 obtain⟨bq,e1⟩:CI o b 0 0/\CV o b 1 (cC cH 0 0):=⟨u.cell 0,u.cell 1⟩;obtain⟨bn,bo⟩:CI s b 0 0/\CV s b 1 (cC cH 0 0):=⟨ak.cell 0,ak.cell 1⟩;have br:∀n,o.frozen? ⟨b,n,cH⟩=dC:=λn=>u.frozen n;have an:=qZ K;clear K;rw[an.out];go_wp2_with fail;rw[I.out];refine cT (v:=cM #[(),cE]) (by simp[results,Tryz.results62,go_sem,bn,bo]) rfl ?_;exact ar
structure vX where
 kind:Int
 y:vO
 n:Int
def wT(s:vX):List cJ:=ac cA s.kind::((rG s.y.x s.y.v1 s.y.v2).toList++[ac cA s.n])
def Steps(w:cL)(v:cJ)(ys:List vX):Prop:=∃A cap,v=cC A ys.length cap/\gF w A 17 wT ys/\∀y∈ys,bW w (cM #[y.y.v1,y.y.v2,ac cA y.y.x.c.aG,ac cA y.y.x.c.aJ]) y.y.x.c
def nO(ys:List vX):Nat->List cQ
 |0=>[]
 |k+1=>match ys[k]? with
  |some y=>if y.kind=1 then nO ys k++[y.y.x]else nO ys k
  |none=>nO ys k
def BQ(ys:List vX):Nat->List (List eE)
 |0=>[]
 |k+1=>match ys[k]? with
  |some y=>BQ ys k++[if y.kind=1 then(cS (iK (nO ys k)) y.y.x).2 else[]]
  |none=>BQ ys k
theorem adJ(ys:List vX)(h:k<ys.length):nO ys (k+1)=if ys[k].kind=1 then nO ys k++[ys[k].y.x]else nO ys k:=by show(match ys[k]? with|some y=>_|none=>_)=_;rw[aH h]
theorem ZB(ys:List vX)(h:k<ys.length):BQ ys (k+1)=BQ ys k++[if ys[k].kind=1 then(cS (iK (nO ys k)) ys[k].y.x).2 else[]]:=by show(match ys[k]? with|some y=>_|none=>_)=_;rw[aH h]
structure Goes (ys:List vX) (m:Nat):Prop where
 step:∀k (h:k<ys.length),(ys[k].kind=1/\Top.Plain ys[k].y.x/\iU (iK (nO ys k)) ys[k].y.x=0)\/(ys[k].kind=3/\ys[k].y=⟨⟨0,Top.noC,Top.noG,0⟩,.slice none 0 0,.slice none 0 0⟩)
 room:∀k,k<=ys.length->(Top.bA (nO ys k)).length<=m
 fine:∀k,k<=ys.length->WU (nO ys k)
 few:∀k,k<=ys.length->(nO ys k).length<=900
 len:ys.length<=900
theorem ainfo:(prog.info? 84).map (λi=>(i.zero,i.size,i.bytes))=cG (cG (cM #[(),cE]),2,32):=by kernel_rfl
def QI(p:cJ×List eE):List cJ:=[ac cA 0,p.1]
structure aaq (wz:World) (W:World) (db sb z g m:Nat) (xs:List Top.Cmd) (evs:List (List Top.E)) (vo:Value) (ps:List (Value×List Top.E)):Prop where
 old:Below wz wz W
 ev:ps.map (·.2)=evs
 row:bL W wz 84 2 QI vo ps
 evs:∀p∈ps,bL W wz 49 3 mY p.1 p.2/\∀b,p.1.ownBlock=some b->vo.ownBlock≠some b
 dr:yU (wz:Nat) (λi=>vo.ownBlock=some i\/∃p∈ps,p.1.ownBlock=some i) z W db sb g m xs
theorem alr{d:cL}{H ai z2:Nat}{xs aa:List cQ}{O:List (List eE)}{o:cJ}{ps:List (cJ×List eE)}(h:aaq w wr H ai z g m xs O o ps)(r:cN wr wr W)(ad:yU (w:Nat) (λk=>(o.ownBlock=cG k\/∃p∈ps,p.1.ownBlock=cG k)\/(Value.slice A j l).ownBlock=cG k) z2 d H n g m aa)(y:bL d W 49 3 mY (cC A j l) ev)(K:aL (Room (w:Nat) λk=>o.ownBlock=cG k\/∃p∈ps,p.1.ownBlock=cG k) W d)(ak:(W:Nat)<=z2)(aj:ps.length<=1000):∃v' v,(Builtin.append_ #[77,77] 77 #[o,cC d 1 1]).run cR (d.alloc (cI #[(),cC A j l] 84))=.ok v' v/\aaq w v H n z2 g m aa (O++[ev]) v' (ps++[(cC A j l,ev)]):=by
 obtain⟨i0,hi,af,ag,ah⟩:=info_parts ainfo;have N:cN w w d:=(h.old.trans (r.mono h.old.size)).trans (K.below (bC h.old.size r.size) λi s=>s.1);have Z:bL d w 84 2 QI o ps:=(h.row.below r).bA (λb a=>K.block b ((h.row.below r).lt b a).2 λs=>s.2 (.inl a));have X:cN d d (d.alloc (cI #[(),cC A j l] 84)):=bZ;have s:=qA (k:=2) (dec:=QI) (x:=((cC A j l,ev):cJ×List eE)) (dE d 84 #[(),cC A j l]) rfl;obtain⟨v',v,e1,e2,e3,e4,ab⟩:=lF 77 77 i0 _ 32 underlying77 hi af ag ah rfl oZ (λ_=>rfl) (ys:=[((cC A j l,ev):cJ×List eE)]) (m:=1) (c:=1) (λu Y=>by simp only[dA,jU,eZ,QI,bH,dL,or_false]at Y;rcases Y with rfl|rfl<;>rfl) (Z.below X) rfl s (by have:=N.size;simp;omega) (by unfold maxLen;omega) oZ;have F:aL (λi=>o.ownBlock=cG i) d v:=(aL.bQ X).trans' (aL.jX e3 λi e=>e) (λi _ e=>e);have I:∀b,v'.ownBlock=cG b->o.ownBlock=cG b\/(d:Nat)<=b:=λb a=>(ab b a).imp id (λe=>by simp at e;omega);have M:∀b,o.ownBlock=cG b->b<(wr:Nat):=λb a=>(h.row.lt b a).2;have ae:=r.size;refine⟨v',v,e1,N.trans (F.below N.size λi e=>(Z.lt i e).1),by rw[dO,h.ev];rfl,e2,λp f=>?_,ad.more F (λi e=>⟨.inl (.inl e),by have:=M i e;omega⟩) λi hi=>?_⟩
 .rcases dM.1 f with f|f
  .obtain⟨Q,T⟩:=h.evs p f;have J:bL d w 49 3 mY p.1 p.2:=(Q.below r).bA (λb a=>K.block b ((Q.below r).lt b a).2 λs=>s.2 (.inr ⟨p,f,a⟩));refine⟨J.bA λb a=>F.block b (J.lt b a).2 (T b a),λb a e=>?_⟩;rcases I b e with e|e
   .exact T b a e
   .have:=(J.lt b a).2;omega
  .have e:p=(cC A j l,ev):=by simpa using f
   subst e;refine⟨(y.bA λb a=>F.block b (y.lt b a).2 λe=>by have:=(y.lt b a).1;have:=M b e;omega).low (bC h.old.size ae),λb a e=>?_⟩;rcases I b e with e|e
   .have:=(y.lt b a).1;have:=M b e;omega
   .have:=(y.lt b a).2;omega
 .rcases hi with e|⟨p,f,e⟩
  .rcases I i e with e|e
   .exact .inl (.inl (.inl e))
   .exact .inr e
  .rcases dM.1 f with f|f
   .exact .inl (.inl (.inr ⟨p,f,e⟩))
   .have e2:p=(cC A j l,ev):=by simpa using f
    subst e2;exact .inl (.inr e)
theorem CK(y:vX):(wT y).toArray=#[ac cA y.kind]++(rG y.y.x y.y.v1 y.y.v2)++#[ac cA y.n]:=by simp[wT,rG]
theorem xD:(prog.info? 75).map (·.size)=cG 17:=by kernel_rfl
def acS(ys:List vX)(w1:cL)(e:eW)(w':cL):Prop:=∃vo ps v1 v2 vp vr vh rl,e=cP (gb #[vo,stv v1 v2 vp vr vh (iK (nO ys ys.length))])/\ps.map (·.2)=BQ ys ys.length/\bL w' w1 84 2 QI vo ps/\(∀p∈ps,bL w' w1 49 3 mY p.1 p.2)/\StR w' v1 v2 vp vr vh (iK (nO ys ys.length)) rl/\qC w1 v1 v2 vp vr vh (iK (nO ys ys.length)) rl/\cN w1 w1 w'
theorem row_step{ys:List vX}(h:gF w A 17 wT ys)(a:k<ys.length):∃b o,A=cG ⟨b,o,cH⟩/\b<(w:Nat)/\∀W,cN w w W->∀j u,(wT ys[k])[j]? =cG u->W.cell? ⟨b,o+k*17+j,cH⟩=cG u:=by obtain⟨b,o,rfl,c,f⟩:=h (by intro e;subst e;simp at a);exact⟨b,o,rfl,c,λW d j u g=>(d.cell (p:=⟨b,o+k*17+j,cH⟩) c).trans (f k _ (aH a) j u g)⟩
theorem ajy{ys:List vX}(hs:Steps w1 v ys)(bd:Goes ys m)(cs:m<=1048576)(be:w1.cell? (0,0)=cG (.iface ty x))(az:0<(w1:Nat)):cY cR 27 #[m,v] w1 λe w'=>acS ys w1 e w':=by
 obtain⟨A,ca,rfl,cw,cn⟩:=hs;have b4:=qZ cw;have bz:=qZ cn;have u:=qZ bd;obtain⟨N,O⟩:=nQ ys.length;have cq:=bd.len;rw[O.out]at cq⊢;obtain⟨K,ai⟩:=nQ (w1.alloc (cI #[cE,cE,(),(),(),(),cE,cE,cE] 31));have ak:=aB ai;have aq:=aX ai;have ay:CV K 0 0 (.iface ty x):=(ak.cell (p:=⟨0,0,cH⟩) az).trans be;have bl:0<(K:Nat):=aM az ak.size;have bp:=qZ (amC m cs ay bl);have o:=qZ ak;have ax:=qZ aq;have ae:=qZ (aC ay bl);go_enter func27,ntmps27;go_upto_region 1 with fail;rw[ai.out];go_wp2_with fail;refine bp.mono ?_;rintro e di⟨X,dd,g,rfl,⟨z0,cj⟩,ch⟩;have b8:=qY (aaq K di X dd z0 g m (nO ys 0) (BQ ys 0) (cC cH 0 0) []) (⟨ch,rfl,bL.nil _ _ _ _ _,λp f=>(by cases f),cj.more (aL.refl (λ_=>False) _) (λ_ h=>h.elim) (λi hi=>by
   rcases hi with e|⟨p,f,_⟩
   .cases e
   .cases f)⟩)
 go_wp2_with fail;go_loopg[7,14] N (λcb df de wr=>∃(k:Nat),de=ac cA k/\k<=N/\N<=cb+k/\∃bo z ps,Hid (aaq K wr X bo z g m (nO ys k) (BQ ys k) df ps));exact⟨0,mZ,oZ,oZ,_,_,_,b8⟩
 obtain⟨k,rfl,dt,dr,bo,z,ps,c⟩:=hrel;by_cases cr:k<N
 .have du:(k:Int)<(N:Int):=oZ;have I:k<ys.length:=by rw[O.out];exact cr
  obtain⟨b9,dc,rfl,dq,al⟩:=row_step b4 I;replace al:=al wr (o.out.trans (c.old.mono o.size));have ba:=(bz _ (bD I)).below (o.out.trans (c.old.mono o.size));have cx:=u.step k I;have H:=adJ ys I;have Y:=ZB ys I;have bj:=u.room (k+1) oZ;have cm:=u.fine k oZ;have Z:=u.few k oZ;have b0:=qY (ps.length<=1000) (by
   have w:=dB List.length c.ev;have cc:∀j,j<=ys.length->(BQ ys j).length=j:=by
    intro j;induction j with
    |zero=>intro _;rfl
    |succ j db=>intro ds;rw[ZB ys oZ,aW,db oZ];rfl
   rw[bP,cc k oZ]at w;omega)
  generalize ys[k]=y at*;have bh:∀l,cN wr wr l->Live (λi=>u7.ownBlock=cG i\/∃p∈ps,p.1.ownBlock=cG i) l:=λl n i hi=>by
   have dw:=n.size;rcases hi with e|⟨p,f,e⟩
   .have:=(c.row.lt i e).2;omega
   .have:=((c.evs p f).1.lt i e).2;omega
  have cd:∃ap aj,nO ys (k+1)=ap/\BQ ys (k+1)=BQ ys k++[aj]/\∀l,cN wr wr l->cY cR 62 #[cF X,cM (wT y).toArray] l λe w'=>DDo (K:Nat) (λi=>u7.ownBlock=cG i\/∃p∈ps,p.1.ownBlock=cG i) X g m ap aj l e w':=by
   rcases cx with⟨bf,cu,cg⟩|⟨bg,cz⟩
   .rw[aI bf]at H Y;refine⟨_,_,H,Y,λl n=>?_⟩;rw[H]at bj;have h:=aoI (c.dr.below n) (bC c.old.size n.size) (bh l n) cu (ba.below n) cg bj Z y.n;unfold aeZ at h;rw[CK,bf];exact h
   .rw[aF (by rw[bg];decide)]at H Y;refine⟨_,_,H,Y,λl n=>?_⟩;have h:=agv (c.dr.below n) (bC c.old.size n.size) ae.2 (bh l n) cm Z (((c.old.trans (n.mono c.old.size)).cell (p:=⟨0,0,cH⟩) ae.2).trans ae.1) y.n;rw[CK,bg,cz];exact h
  obtain⟨ap,aj,ci,cl,a5⟩:=cd;have bi:(wT y).toArray.all (·.oneCell')=cE:=by rw[CK];obtain⟨_,_,e,⟨dk,d0,e1,_⟩,⟨dl,d6,e2,_⟩⟩:=ba;simp only[Value.agg.injEq,eB,dJ,and_true]at e;rw[e.1,e.2,e1,e2,<-dT];rfl
  have an:(wT y).toArray.size=17:=by rw[CK];rfl
  have bb:∀j v,(wT y).toArray[j]? =cG v->wr.cell? ((⟨b9,dc+k*17,cH⟩:cV).add j)=cG v:=λj v hv=>by rw[Addr.add_lit];exact al j v (by simpa using hv)
  obtain⟨d,a0⟩:=nZ ((wT y).toArray);rw[a0]at a5 bi an bb;have hinfo:(prog.info? 75).map (·.size)=cG d.size:=by rw[an];exact xD
  have bt:=qZ ci;have bu:=qZ cl;have bs:=qZ bb;have af:=qZ hinfo;have b2:=qZ bi;have b5:=qZ an;obtain⟨w0,aa⟩:=nZ (wr.alloc (cI #[(),(),cE,cE,(),(),(),(),(),(),(),(),(),(),(),(),()] 75));obtain⟨J,am⟩:=nZ (wr:Nat);have a9:=aB aa;have bk:=aY aa am;obtain⟨l,ah⟩:=nQ (w0.setRow J d);have n:cN wr wr l:=by rw[<-ah.out];exact a9.trans ((jM w0 J d).below a9.size λi e=>oZ)
  have b7:=qY (Blk l J 75 d) (by rw[<-ah.out];exact bk.row d);have b6:=qZ bk;have av:=qZ (aC aa am);have br:=qZ n;have bv:=qZ (a5 l n);clear a0 aa am;obtain⟨M,ad,ab,rfl⟩:=c.row.sA;go_upto_region 5 with fail;go_wp2_with(first
   |refine yH rfl 75 (.tmp 16) rfl _ rfl d _ bs cW rfl af ?_
   |(rw[av.out.1,av.out.2];refine cU rfl 75 (.tmp 9) (.tmp 17) rfl J d rfl rfl 75 _ b6 af (by rw[b5.out];rfl) b2 ?_;rw[ah.out])
   |refine eQ rfl 75 (.tmp 9) rfl J rfl 75 d (0,0) _ b7 cW rfl af ?_)
  refine bv.mono ?_;rintro e dh⟨d8,d7,z2,rfl,ck,bc,co,da⟩;obtain⟨dm,dz,dp,rfl⟩:=bc.sA;obtain⟨v',dn,e1,au⟩:=alr c br ck bc co da b0;obtain⟨dj,dy,dx,rfl⟩:=au.row.sA;have bq:=qZ e1;have b1:=qZ au;go_wp2_with(at_builtin;refine cK rfl _ _ _ _ rfl (cC M ad ab) (cC dh 1 1) rfl rfl bq ?_);go_roundg(N-(k+1));exact⟨k+1,mZ,oZ,oZ,_,_,_,by rw[bt.out,bu.out];exact b1⟩;omega
 .have be:¬(k:Int)<(N:Int):=oZ;have cp:k=N:=oZ;have Z:=u.few k (by have:=O.out;omega);have ar:=agq c.dr.bV (λW ce=>afc c.dr.sto Z W ce);have c0:ys.length=k:=by rw[O.out,cp]
  have T:=qZ c0;obtain⟨s,hs⟩:=nZ (iK (nO ys k));have ag:=qZ hs;rw[hs]at ar;have bw:=qZ ar;obtain⟨M,ad,ab,rfl⟩:=c.row.sA;clear hs;go_wp2_with fail;refine bw.mono ?_;rintro e wc⟨d,rfl,a8,r⟩;have f:=c.out;have ao:=o.size;have cy:=ax.out.lt;have dv:=f.old.size;have aq:=(ax.below f.old cy).below r oZ;have bm:=jM wc (w1:Nat) d;have b3:=qY (acS ys w1 (cP (gb #[cC M ad ab,cM d])) (wc.setRow (w1:Nat) d)) (by have bn:cN w1 w1 wr:=o.out.trans (f.old.mono ao);obtain⟨⟨v1,v2,vp,vr,dg,rl,e,a,b⟩,ct⟩:=a8.VT oZ lZ (bn.trans (r.mono bn.size));rw[<-T.out]at f;refine⟨_,ps,v1,v2,vp,vr,dg,rl,by rw[T.out,ag.out,e],f.ev,((f.row.below r).bA λb F=>bm.block b ((f.row.below r).lt b F).2 (by have:=(f.row.lt b F).1;omega)).low ao,λp cv=>?_,by rw[T.out,ag.out];exact a,by rw[T.out,ag.out];exact b,ct⟩;have w:=(f.evs p cv).1;exact((w.below r).bA λb F=>bm.block b ((w.below r).lt b F).2 (by have:=(w.lt b F).1;omega)).low ao);have Q:=qZ a8;have aw:=qZ aq;go_wp2_with(refine cU rfl 31 (.tmp 5) (.tmp 27) rfl (w1:Nat) d rfl rfl 31 _ aw Q.info (by rw[Q.out.size];rfl) Q.one ?_);refine cT (v:=gb #[cC M ad ab,cM d]) (abn Tryz.results27 rfl (aw.row d) underlying31 rfl Q.info _ rfl) rfl ?_;exact b3
theorem acu:(prog.info? 61).map (·.size)=cG 15:=by kernel_rfl
theorem GI(kind aG aJ a b c d f g j k l xn:Int)(B1 B2:Option cV)(o m p n:Nat):eP cR 26 #[cM #[kind,cC B1 o m,cC B2 p n,aG,aJ,a,b,c,d,f,g,j,k,l,xn]] (cM #[(1:Int),kind,cC B1 o m,cC B2 p n,aG,aJ,a,b,c,d,f,g,j,k,l,xn,()]):=by
 intro w;obtain⟨s,r⟩:=nQ ((w.alloc (cI #[kind,cC B1 o m,cC B2 p n,aG,aJ,a,b,c,d,f,g,j,k,l,xn] 61)).alloc (cI #[(),(),cE,cE,(),(),(),(),(),(),(),(),(),(),(),(),()] 75));have x:cN w w s:=by rw[<-r.out];exact(bZ).alloc sZ _
 have x0:Blk s w 61 #[kind,cC B1 o m,cC B2 p n,aG,aJ,a,b,c,d,f,g,j,k,l,xn]:=by rw[<-r.out];exact(dE w _ _).alloc _
 have z:Blk s ((w:Nat)+1) 75 #[(),(),cE,cE,(),(),(),(),(),(),(),(),(),(),(),(),()]:=by have:=dE (w.alloc (cI #[kind,cC B1 o m,cC B2 p n,aG,aJ,a,b,c,d,f,g,j,k,l,xn] 61)) 75 #[(),(),cE,cE,(),(),(),(),(),(),(),(),(),(),(),(),()];rw[aT]at this;rw[<-r.out];exact this
 obtain⟨y,u⟩:=nQ (s.setRow ((w:Nat)+1) #[(1:Int),kind,cC B1 o m,cC B2 p n,aG,aJ,a,b,c,d,f,g,j,k,l,xn,()]);have A:=qY (cN w w y) (by rw[<-u.out];exact x.trans ((jM _ _ _).below x.size λi e=>oZ));have I:=qY (Blk y ((w:Nat)+1) 75 #[(1:Int),kind,cC B1 o m,cC B2 p n,aG,aJ,a,b,c,d,f,g,j,k,l,xn,()]) (by rw[<-u.out];exact z.row _);have F:=qZ x0;have H:=qZ z;go_enter func26,ntmps26;go_upto_region 1 with fail;rw[r.out];go_wp2_with(first
  |refine eQ rfl 61 (.tmp 1) rfl (w:Nat) rfl 61 #[kind,cC B1 o m,cC B2 p n,aG,aJ,a,b,c,d,f,g,j,k,l,xn] (0,0) _ F underlying61 rfl acu ?_
  |(refine cU rfl 75 (.tmp 2) (.tmp 4) rfl ((w:Nat)+1) #[(1:Int),kind,cC B1 o m,cC B2 p n,aG,aJ,a,b,c,d,f,g,j,k,l,xn,()] rfl rfl 75 _ H xD rfl (by rw[<-dT];rfl) ?_;rw[u.out]))
 refine cT (v:=cM #[(1:Int),kind,cC B1 o m,cC B2 p n,aG,aJ,a,b,c,d,f,g,j,k,l,xn,()]) (by exact eJ Tryz.results26 _ _ ((w:Nat)+1) 75 _ (0,0) _ rfl I cW rfl xD) rfl ?_;exact⟨rfl,A⟩
theorem xP(id b a:Int):eP cR 29 #[id,b,a] (cM #[(1:Int),(2:Int),cE,cE,(),(),id,b,(2:Int),(2:Int),(2:Int),(2:Int),a,(3:Int),(),(),()]):=by intro w;obtain⟨x,c⟩:=nQ (w.alloc (cI #[(),(),cE,cE,(),(),(),(),(),(),(),(),(),(),(),(),()] 75));have s:=aB c;have y:=aX c;have f:=qZ y;have n:=qZ s;have r:=GI 2 0 0 id b 2 2 2 2 a 3 0 0 cH cH 0 0 0 0 x;have m:=qZ r;go_enter func29,ntmps29;go_upto_region 1 with fail;rw[c.out];go_wp2_with fail;refine m.mono ?_;rintro e u⟨rfl,k⟩;have g:=qZ (f.below k f.out.lt);obtain⟨l,d⟩:=nQ (u.setRow (w:Nat) #[(1:Int),(2:Int),cE,cE,(),(),id,b,(2:Int),(2:Int),(2:Int),(2:Int),a,(3:Int),(),(),()]);have p:=qY (Blk l w 75 #[(1:Int),(2:Int),cE,cE,(),(),id,b,(2:Int),(2:Int),(2:Int),(2:Int),a,(3:Int),(),(),()]) (by rw[<-d.out];exact g.row _);have o:=qY (cN w w l) (by have j:=aA n k;rw[<-d.out];exact j.trans ((jM _ _ _).below j.size λi e=>oZ));go_wp2_with(refine cU rfl 75 (.tmp 6) (.tmp 13) rfl (w:Nat) #[(1:Int),(2:Int),cE,cE,(),(),id,b,(2:Int),(2:Int),(2:Int),(2:Int),a,(3:Int),(),(),()] rfl rfl 75 _ g xD rfl (by rw[<-dT];rfl) ?_;rw[d.out]);refine cT (v:=cM #[(1:Int),(2:Int),cE,cE,(),(),id,b,(2:Int),(2:Int),(2:Int),(2:Int),a,(3:Int),(),(),()]) (by exact eJ Tryz.results29 _ _ (w:Nat) 75 _ (0,0) _ rfl p cW rfl xD) rfl ?_;exact⟨rfl,o⟩
theorem aew{α:Type}{dec:α->List cJ}(hs:∀x,(dec x).length=sz):∀(xs:List α) (i:Nat) (x:α),xs[i]? =cG x->∀j v,(dec x)[j]? =cG v->(xs.flatMap dec)[i*sz+j]? =cG v
 |[],i,x,h=>by simp at h
 |y::l,0,x,h=>λj v hv=>by simp at h;subst h;rw[dA,kP,aO,cO (bF.1 hv).1];exact hv
 |y::l,i+1,x,h=>λj v hv=>by rw[dA,dK (by rw[hs,Nat.succ_mul];omega),hs,show(i+1)*sz+j-sz=i*sz+j by rw[Nat.succ_mul];omega];exact aew hs l i x (by simpa using h) j v hv
theorem OT{α:Type}{b:Nat}{dec:α->List cJ}(hs:∀x,(dec x).length=sz){t:cX}{xs:List α}(h:Blk w b t cs)(a:cs=(xs.flatMap dec).toArray):gF w (cG ⟨b,0,cH⟩) sz dec xs:=λ_=>
 ⟨b,0,rfl,h.lt,λi x c j v hv=>by have:=aew hs xs i x c j v hv;rw[aO];exact(Blk.cell h (i*sz+j)).trans (by rw[a];simpa using this)⟩
theorem XI(w:cL):cY cR 28 #[] w λe w'=>∃B1 B2,e=cP (cM #[cC B1 3 3,cC B2 2 2,(10:Int),()])/\bW w' (cM #[cC B1 3 3,cC B2 2 2,(10:Int),()]) nU/\cN w w w':=by
 obtain⟨a,b⟩:=nQ (((((w.alloc (cI #[cC (cG ⟨(w:Nat)+1+1,0,cH⟩) 3 3,cC (cG ⟨(w:Nat)+1+1+1,0,cH⟩) 2 2,(10:Int),()] 26)).alloc (cI #[(4:Int),(4:Int),(4:Int)] 40)).alloc (cI #[ac cA (-1),ac cA 1,ac cA 0,ac cA 0,ac cA 0,ac cA 0,ac cA 0,ac cA 0,ac cA 0,ac cA 0,ac cA 0,ac cA 0,ac cA 1,ac cA 4,ac cA 4,ac cA 4,ac cA 4,ac cA 4,ac cA 4,ac cA 4,ac cA 4,ac cA 4,ac cA 0,ac cA 1,ac cA 4,ac cA 4,ac cA 4,ac cA 4,ac cA 4,ac cA 4,ac cA 4,ac cA 4,ac cA 4] 66)).alloc (cI #[(),(),(),(4:Int),(4:Int),(4:Int),(),(),(1:Int),(4:Int),(4:Int),(4:Int)] 131)));have xn:Blk a ((w:Nat)+1+1) 66 #[ac cA (-1),ac cA 1,ac cA 0,ac cA 0,ac cA 0,ac cA 0,ac cA 0,ac cA 0,ac cA 0,ac cA 0,ac cA 0,ac cA 0,ac cA 1,ac cA 4,ac cA 4,ac cA 4,ac cA 4,ac cA 4,ac cA 4,ac cA 4,ac cA 4,ac cA 4,ac cA 0,ac cA 1,ac cA 4,ac cA 4,ac cA 4,ac cA 4,ac cA 4,ac cA 4,ac cA 4,ac cA 4,ac cA 4]:=by have:=dE ((w.alloc (cI #[cC (cG ⟨(w:Nat)+1+1,0,cH⟩) 3 3,cC (cG ⟨(w:Nat)+1+1+1,0,cH⟩) 2 2,(10:Int),()] 26)).alloc (cI #[(4:Int),(4:Int),(4:Int)] 40)) 66 #[ac cA (-1),ac cA 1,ac cA 0,ac cA 0,ac cA 0,ac cA 0,ac cA 0,ac cA 0,ac cA 0,ac cA 0,ac cA 0,ac cA 0,ac cA 1,ac cA 4,ac cA 4,ac cA 4,ac cA 4,ac cA 4,ac cA 4,ac cA 4,ac cA 4,ac cA 4,ac cA 0,ac cA 1,ac cA 4,ac cA 4,ac cA 4,ac cA 4,ac cA 4,ac cA 4,ac cA 4,ac cA 4,ac cA 4];simp only[aT]at this;rw[<-b.out];exact this.alloc _
 have f:Blk a ((w:Nat)+1+1+1) 131 #[(),(),(),(4:Int),(4:Int),(4:Int),(),(),(1:Int),(4:Int),(4:Int),(4:Int)]:=by have:=dE (((w.alloc (cI #[cC (cG ⟨(w:Nat)+1+1,0,cH⟩) 3 3,cC (cG ⟨(w:Nat)+1+1+1,0,cH⟩) 2 2,(10:Int),()] 26)).alloc (cI #[(4:Int),(4:Int),(4:Int)] 40)).alloc (cI #[ac cA (-1),ac cA 1,ac cA 0,ac cA 0,ac cA 0,ac cA 0,ac cA 0,ac cA 0,ac cA 0,ac cA 0,ac cA 0,ac cA 0,ac cA 1,ac cA 4,ac cA 4,ac cA 4,ac cA 4,ac cA 4,ac cA 4,ac cA 4,ac cA 4,ac cA 4,ac cA 0,ac cA 1,ac cA 4,ac cA 4,ac cA 4,ac cA 4,ac cA 4,ac cA 4,ac cA 4,ac cA 4,ac cA 4] 66)) 131 #[(),(),(),(4:Int),(4:Int),(4:Int),(),(),(1:Int),(4:Int),(4:Int),(4:Int)];simp only[aT]at this;rw[<-b.out];exact this
 have xc:Blk a w 26 #[cC (cG ⟨(w:Nat)+1+1,0,cH⟩) 3 3,cC (cG ⟨(w:Nat)+1+1+1,0,cH⟩) 2 2,(10:Int),()]:=by rw[<-b.out];exact(((dE w _ _).alloc _).alloc _).alloc _
 have d:cN w w a:=by rw[<-b.out];exact(((bZ).alloc sZ _).alloc (by simp;omega) _).alloc (by simp;omega) _
 have c:=qY (bW a (cM #[cC (cG ⟨(w:Nat)+1+1,0,cH⟩) 3 3,cC (cG ⟨(w:Nat)+1+1+1,0,cH⟩) 2 2,(10:Int),()]) nU/\cN w w a) (⟨⟨_,_,rfl,⟨_,_,rfl,OT (dec:=nN) (λ_=>rfl) xn rfl,dZ⟩,⟨_,_,rfl,OT (dec:=hdec) (λ_=>rfl) f rfl,dZ⟩⟩,d⟩);obtain⟨g,i,j,k⟩:=xc.c4;go_enter func28,ntmps28;go_upto_region 2 with fail;go_wp2_with fail;rw[b.out];refine cT (v:=cM #[cC (cG ⟨(w:Nat)+1+1,0,cH⟩) 3 3,cC (cG ⟨(w:Nat)+1+1+1,0,cH⟩) 2 2,(10:Int),()]) (by simp[results,Tryz.results28,go_sem,g,i,j,k]) rfl ?_;exact⟨_,_,rfl,c⟩
def ysB(v1 v2:cJ):List vX:=[⟨1,⟨jP,v1,v2⟩,0⟩,⟨1,⟨gJ 1 1 50,cC cH 0 0,cC cH 0 0⟩,0⟩,⟨1,⟨gJ 2 1 50,cC cH 0 0,cC cH 0 0⟩,0⟩,⟨1,⟨lW,cC cH 0 0,cC cH 0 0⟩,0⟩,⟨3,⟨⟨0,gf,Top.noG,0⟩,cC cH 0 0,cC cH 0 0⟩,0⟩,⟨1,⟨gJ 3 2 9,cC cH 0 0,cC cH 0 0⟩,0⟩,⟨1,⟨lW,cC cH 0 0,cC cH 0 0⟩,0⟩]
theorem py1:eK [jP]=Top.s1:=by show(cS gg jP).1=_;rw[Top.a1]
theorem py2:eK [jP,gJ 1 1 50]=Top.s2:=by rw[show[jP,gJ 1 1 50]=[jP]++[gJ 1 1 50]from rfl,xJ,py1,Top.a2]
theorem py3:eK [jP,gJ 1 1 50,gJ 2 1 50]=Top.s3:=by rw[show[jP,gJ 1 1 50,gJ 2 1 50]=[jP,gJ 1 1 50]++[gJ 2 1 50]from rfl,xJ,py2,Top.a3]
theorem py4:eK [jP,gJ 1 1 50,gJ 2 1 50,lW]=Top.s4:=by rw[show[jP,gJ 1 1 50,gJ 2 1 50,lW]=[jP,gJ 1 1 50,gJ 2 1 50]++[lW]from rfl,xJ,py3,Top.a4]
theorem py6:eK [jP,gJ 1 1 50,gJ 2 1 50,lW,gJ 3 2 9]=Top.s6:=by rw[show[jP,gJ 1 1 50,gJ 2 1 50,lW,gJ 3 2 9]=[jP,gJ 1 1 50,gJ 2 1 50,lW]++[gJ 3 2 9]from rfl,xJ,py4,Top.a6]
theorem py7:eK [jP,gJ 1 1 50,gJ 2 1 50,lW,gJ 3 2 9,lW]=fL:=by rw[show[jP,gJ 1 1 50,gJ 2 1 50,lW,gJ 3 2 9,lW]=[jP,gJ 1 1 50,gJ 2 1 50,lW,gJ 3 2 9]++[lW]from rfl,xJ,py6,Top.a7]
theorem anb(v1 v2:cJ):iK (nO (ysB v1 v2) (ysB v1 v2).length)=fL:=py7
theorem apS(v1 v2:cJ):BQ (ysB v1 v2) (ysB v1 v2).length=[[],[],[],[⟨1,1,0⟩,⟨1,2,0⟩],[],[],[⟨2,2,0⟩,⟨1,3,0⟩]]:=by show[(cS (iK []) jP).2,(cS (iK [jP]) (gJ 1 1 50)).2,(cS (iK [jP,gJ 1 1 50]) (gJ 2 1 50)).2,(cS (iK [jP,gJ 1 1 50,gJ 2 1 50]) lW).2,[],(cS (iK [jP,gJ 1 1 50,gJ 2 1 50,lW]) (gJ 3 2 9)).2,(cS (iK [jP,gJ 1 1 50,gJ 2 1 50,lW,gJ 3 2 9]) lW).2]=_;rw[show iK []=gg from rfl,py1,py2,py3,py4,py6,Top.a1,Top.a2,Top.a3,Top.a4,Top.a6,Top.a7]
theorem nP{xs:List cQ}(x:cQ)(h:iK xs=s)(e:iU s x=0):iU (iK xs) x=0:=by rw[h];exact e
def yG:List cQ:=[jP,gJ 1 1 50,gJ 2 1 50,lW,gJ 3 2 9,lW]
theorem apt:∀x∈yG,ga x:=by
 intro x a;simp only[yG,bH,dL,or_false]at a;rcases a with rfl|rfl|rfl|rfl|rfl|rfl
 .exact Top.p1
 .exact Top.p2
 .exact Top.p3
 .exact fN
 .exact Top.p6
 .exact fN
theorem arj:∀k (h:k<yG.length),iU (iK (yG.take k)) yG[k]=0
 |0,_=>Top.e1
 |1,_=>nP _ py1 Top.e2
 |2,_=>nP _ py2 Top.e3
 |3,_=>nP _ py3 Top.e4
 |4,_=>nP _ py4 Top.e6
 |5,_=>nP _ py6 Top.e7
 |k+6,h=>absurd h (by simp[yG])
theorem ajq(n:Nat):WU (yG.take n):=⟨λx b=>apt x (List.mem_of_mem_take b),λk h=>by
 have a:k<n/\k<yG.length:=by rw[bN]at h;exact⟨aM h (Nat.min_le_left _ _),aM h (Nat.min_le_right _ _)⟩
 have:=arj k a.2;rw[List.take_take,gV oZ,List.getElem_take];exact this⟩
theorem aor{xs:List cQ}{b:Nat}(a:∀x∈xs,(lQ x).length<=b)(hs:b<=16000):(Top.bA xs).length<=(b+8)*xs.length:=by
 induction xs with
 |nil=>exact bI _
 |cons x t d=>
  have e:=a x (bJ ..);have f:=d (λy c=>a y (bK _ c));show(Crc.frame (lQ x)++Top.bA t).length<=_;rw[aW,yA _ oZ,List.length_cons,Nat.mul_succ];omega
theorem arb:∀x∈yG,(lQ x).length<=500:=by intro x a;simp only[yG,bH,dL,or_false]at a;rcases a with rfl|rfl|rfl|rfl|rfl|rfl<;>decide+kernel
theorem ahZ(n:Nat):(Top.bA (yG.take n)).length<=5000:=by
 have h:=aor (xs:=yG.take n) (λx a=>arb x (List.mem_of_mem_take a)) oZ;have:(yG.take n).length<=6:=by rw[bN];exact Nat.min_le_right _ _
 omega
theorem WK(v1 v2:cJ):∀k,k<=(ysB v1 v2).length->∃n,n<=6/\nO (ysB v1 v2) k=yG.take n
 |0,_=>⟨0,oZ,rfl⟩
 |1,_=>⟨1,oZ,rfl⟩
 |2,_=>⟨2,oZ,rfl⟩
 |3,_=>⟨3,oZ,rfl⟩
 |4,_=>⟨4,oZ,rfl⟩
 |5,_=>⟨4,oZ,rfl⟩
 |6,_=>⟨5,oZ,rfl⟩
 |7,_=>⟨6,oZ,rfl⟩
 |k+8,h=>absurd h (by simp[ysB])
theorem aqP(v1 v2:cJ):Goes (ysB v1 v2) 5000 where
 step
  |0,_=>.inl ⟨rfl,Top.p1,Top.e1⟩
  |1,_=>.inl ⟨rfl,Top.p2,nP _ py1 Top.e2⟩
  |2,_=>.inl ⟨rfl,Top.p3,nP _ py2 Top.e3⟩
  |3,_=>.inl ⟨rfl,fN,nP _ py3 Top.e4⟩
  |4,_=>.inr ⟨rfl,rfl⟩
  |5,_=>.inl ⟨rfl,Top.p6,nP _ py4 Top.e6⟩
  |6,_=>.inl ⟨rfl,fN,nP _ py6 Top.e7⟩
  |k+7,h=>absurd h (by simp[ysB])
 room k hk:=by obtain⟨n,_,e⟩:=WK v1 v2 k hk;rw[e];exact ahZ n
 fine k hk:=by obtain⟨n,_,e⟩:=WK v1 v2 k hk;rw[e];exact ajq n
 few k hk:=by obtain⟨n,a,e⟩:=WK v1 v2 k hk;rw[e,bN];exact bC (Nat.min_le_right _ _) dZ
 len:=by show 7<=900;omega
theorem JO{P:eR}{o:Oper}(ty:cX)(x:fW)(f:o.op=.load ty x)(g:Nat)(j:a.eval x=cF g)(t:cX)(cs:Array cJ)(b:Nat×Nat)(d:TypeDesc)(e:w.heap[g]? =cG (cI cs t b))(i:P.underlying ty=cG d)(c:(match d with|.struct _|.array _ _=>cE|_=>dC)=cE)(hi:(P.info? ty).map (·.size)=cG cs.size):(eL a.eval o).run P w=.ok (.value (cM cs)) w:=by unfold eL;simp only[f,j,Instr.loadAt,Instr.sureAddr,Sem.run_bind,Sem.run_pure,eC,run_loadVar_row w g t ty cs b d e i c hi]
theorem CP{P:eR}{o:Oper}{t:cX}{parts:Array (Nat×fW)}(b:o.op=.buildSlice t n parts){vs:Array (Nat×cJ)}(hv:(parts.map λ(i,x)=>(i,a.eval x))=vs)(c:(Instr.buildSlice t n vs).run P w=.ok v' w'):(eL a.eval o).run P w=.ok (.value v') w':=by unfold eL;simp only[b,Sem.run_bind,Sem.run_pure,eC,hv,c]
theorem FN{P:eR}{o:Oper}(ty:cX)(x y:fW)(d:o.op=.store ty x y)(g:Nat)(cells:Array cJ)(f:a.eval x=cF g)(i:a.eval y=cM cells)(t:cX)(old:Array cJ)(c:w.heap[g]? =cG (cI old t (0,0)))(hi:(P.info? ty).map (·.size)=cG cells.size)(e:old.size=cells.size)(b:cells.all (·.oneCell')=cE):(eL a.eval o).run P w=.ok .skip (w.setRow g cells):=by unfold eL;simp only[d,f,i,Instr.storeAt,Instr.sureAddr,Sem.run_bind,Sem.run_pure,eC,run_storeVar_row w g t ty old cells c hi e b]
theorem aqE{P:eR}{b:Array Oper}{S:cL->Prop}{c:PT}(h:∀F:PT->Act->cL->Prop,F=rQ P b Q S->F c a w):rQ P b Q S c a w:=h _ rfl
def c6:Array cJ:=#[ac cA 1,ac cA 6,cC cH 0 0,cC cH 0 0,ac cA 0,ac cA 0,ac cA 0,ac cA 0,ac cA 0,ac cA 0,ac cA 0,ac cA 0,ac cA 0,ac cA 0,ac cA 0,ac cA 0,ac cA 0]
def c3v:cJ:=cM #[(3:Int),(),cE,cE,(),(),(),(),(),(),(),(),(),(),(),(),()]
def c9v(B1 B2:Option cV):cJ:=cM #[(1:Int),(1:Int),cC B1 3 3,cC B2 2 2,(10:Int),(),(),(),(),(),(),(),(),(),(),(),()]
def gCv(id tt rn:Int):cJ:=cM #[(1:Int),(2:Int),cE,cE,(),(),id,tt,(2:Int),(2:Int),(2:Int),(2:Int),rn,(3:Int),(),(),()]
def TG(B1 B2:Option cV):Array cJ:=#[ac cA 1,ac cA 1,cC B1 3 3,cC B2 2 2,ac cA 10,ac cA 0,ac cA 0,ac cA 0,ac cA 0,ac cA 0,ac cA 0,ac cA 0,ac cA 0,ac cA 0,ac cA 0,ac cA 0,ac cA 0,ac cA 1,ac cA 2,cC cH 0 0,cC cH 0 0,ac cA 0,ac cA 0,ac cA 1,ac cA 1,ac cA 2,ac cA 2,ac cA 2,ac cA 2,ac cA 50,ac cA 3,ac cA 0,ac cA 0,ac cA 0,ac cA 1,ac cA 2,cC cH 0 0,cC cH 0 0,ac cA 0,ac cA 0,ac cA 2,ac cA 1,ac cA 2,ac cA 2,ac cA 2,ac cA 2,ac cA 50,ac cA 3,ac cA 0,ac cA 0,ac cA 0,ac cA 1,ac cA 6,cC cH 0 0,cC cH 0 0,ac cA 0,ac cA 0,ac cA 0,ac cA 0,ac cA 0,ac cA 0,ac cA 0,ac cA 0,ac cA 0,ac cA 0,ac cA 0,ac cA 0,ac cA 0,ac cA 3,ac cA 0,cC cH 0 0,cC cH 0 0,ac cA 0,ac cA 0,ac cA 0,ac cA 0,ac cA 0,ac cA 0,ac cA 0,ac cA 0,ac cA 0,ac cA 0,ac cA 0,ac cA 0,ac cA 0,ac cA 1,ac cA 2,cC cH 0 0,cC cH 0 0,ac cA 0,ac cA 0,ac cA 3,ac cA 2,ac cA 2,ac cA 2,ac cA 2,ac cA 2,ac cA 9,ac cA 3,ac cA 0,ac cA 0,ac cA 0,ac cA 1,ac cA 6,cC cH 0 0,cC cH 0 0,ac cA 0,ac cA 0,ac cA 0,ac cA 0,ac cA 0,ac cA 0,ac cA 0,ac cA 0,ac cA 0,ac cA 0,ac cA 0,ac cA 0,ac cA 0]
def cfv(B1 B2:Option cV):cJ:=cM #[cC B1 3 3,cC B2 2 2,(10:Int),()]
def k1v(B1 B2:Option cV):cJ:=cM #[(1:Int),cC B1 3 3,cC B2 2 2,(10:Int),(),(),(),(),(),(),(),(),(),(),()]
def awf(b1:Nat)(v3 v7 v8 v9 v10 v11 v14 v16:cJ):Act:=⟨#[eV dC,cF b1,cD,v3,cM #[(6:Int),cE,cE,(),(),(),(),(),(),(),(),(),(),(),()],cM c6,cD,v7,v8,v9,v10,v11,cM c6,c3v,v14,cM c6,v16,cD,cD,cD,cD,cD,cD,cD,cD,cD,cD,cD,cD,cD,cD,cD,cD,cD,cD,cD,cD,cD,cD,cD,cD,cD,cD,cD,cD,cD,cD,cD,cD,cD,cD,cD,cD,cD,cD,cD,cD,cD,cD,cD,cD,cD,cD,cD,cD,cD,cD,cD,cD,cD,cD,cD,cD,cD,cD,cD,cD,cD],[]⟩
def pT6:PT:=.one 10 (.take 11 (.take 12 (.take 13 (.take 15 (.one 16 .done)))))
def pT5:PT:=.one 9 pT6
def pT4:PT:=.one 7 pT5
def pT3:PT:=.one 4 pT4
def pT2:PT:=.one 3 pT3
def pT1:PT:=.one 2 pT2
def pT0:PT:=.one 0 (.take 1 pT1)
def pU6:PT:=.two 10 14 (.take 11 (.take 12 (.take 13 (.one 14 (.take 15 (.one 16 .done)))))) pT6
def pU5:PT:=.two 9 14 pU6 pT5
def pU4:PT:=.two 7 14 pU5 pT4
def pU3:PT:=.two 4 14 pU4 pT3
def pU2:PT:=.two 3 14 pU3 pT2
def pU1:PT:=.two 2 14 pU2 pT1
def pU0:PT:=.two 0 14 (.take 1 pU1) pT0
theorem ajV(B1 B2:Option cV)(w:cL):(Instr.buildSlice 82 7 #[(0,c9v B1 B2),(1,gCv 1 1 50),(2,gCv 2 1 50),(3,cM c6),(4,c3v),(5,gCv 3 2 9),(6,cM c6)]).run cR w=.ok (cC w 7 7) (w.alloc (cI (TG B1 B2) 75)):=by kernel_rfl
theorem amo(B1 B2:Option cV):TG B1 B2=((ysB (cC B1 3 3) (cC B2 2 2)).flatMap wT).toArray:=by kernel_rfl
theorem ahB(B1 B2:Option cV)(w:cL)(h:bW w (cM #[cC B1 3 3,cC B2 2 2,(10:Int),()]) nU):Steps (w.alloc (cI (TG B1 B2) 75)) (cC w 7 7) (ysB (cC B1 3 3) (cC B2 2 2)):=by
 have a:∀W,bW W (cM #[cE,cE,(),()]) gf:=λW=>⟨_,_,rfl,⟨cH,0,rfl,λe=>absurd rfl e,dZ⟩,⟨cH,0,rfl,λe=>absurd rfl e,dZ⟩⟩;refine⟨_,_,rfl,OT (dec:=wT) (λ_=>rfl) (dE _ _ _) (amo B1 B2),λy b=>?_⟩;simp only[ysB,bH,dL,or_false]at b;rcases b with rfl|rfl|rfl|rfl|rfl|rfl|rfl
 .exact h.below (bZ)
 .exact a _
 .exact a _
 .exact a _
 .exact a _
 .exact a _
 .exact a _
theorem amX(B1 B2:Option cV)(hs:Steps W v (ysB (cC B1 3 3) (cC B2 2 2)))(b:W.cell? (0,0)=cG (.iface ty x))(a:0<(W:Nat)):cY cR 27 #[(5000:Int),v] W λe w'=>acS (ysB (cC B1 3 3) (cC B2 2 2)) W e w':=ajy (m:=5000) hs (aqP _ _) dZ b a
theorem Steps.below{ys:List vX}(h:Steps w v ys)(a:cN w w w'):Steps w' v ys:=by obtain⟨A,c,e,d,b⟩:=h;exact⟨A,c,e,d.below a,λy f=>(b y f).below a⟩
structure aar (w:World) (v:Value) (fb:Nat) (W:World):Prop where
 ex:∃(ps:List (Value×List Top.E)) (v1 v2 vp vr vh:Value) (rl:List Run),ps.map (·.2)=[[],[],[],[⟨1,1,0⟩,⟨1,2,0⟩],[],[],[⟨2,2,0⟩,⟨1,3,0⟩]]/\bL W 0 84 2 QI v ps/\(∀p∈ps,bL W 0 49 3 mY p.1 p.2)/\StR W v1 v2 vp vr vh Top.s7 rl/\
  Blk W fb 31 #[v1,v2,Top.s7.c.aG,Top.s7.c.aJ,Top.s7.aQ,Top.s7.next,vp,vr,vh]
 old:aD w W
theorem akb{f b:cL}{a B:Nat}{l d:cJ}{ps:List (cJ×List eE)}{old:Array cJ}(m:aD f b)(z:(f:Nat)<=a)(y:Blk b a 31 old)(s:ps.map (·.2)=[[],[],[],[⟨1,1,0⟩,⟨1,2,0⟩],[],[],[⟨2,2,0⟩,⟨1,3,0⟩]])(r:bL b B 84 2 QI l ps)(o:∀p∈ps,bL b B 49 3 mY p.1 p.2)(x:StR b v1 v2 vp vr d fL rl)(w:∀k,l.ownBlock=cG k->¬k=a)(v:∀p∈ps,∀k,p.1.ownBlock=cG k->¬k=a)(u:∀k,zC v1 v2 vp vr d fL rl k->¬k=a):aar f l a (b.setRow a #[v1,v2,Top.s7.c.aG,Top.s7.c.aJ,Top.s7.aQ,Top.s7.next,vp,vr,d])/\aD f (b.setRow a #[v1,v2,Top.s7.c.aG,Top.s7.c.aJ,Top.s7.aQ,Top.s7.next,vp,vr,d]):=by have g:=jM b a #[v1,v2,Top.s7.c.aG,Top.s7.c.aJ,Top.s7.aQ,Top.s7.next,vp,vr,d];have n:aD f _:=m.trans (g.below m.size λi e=>oZ);exact⟨⟨⟨ps,_,_,_,_,_,rl,s,(r.bA λk c=>g.block k (r.lt k c).2 (w k c)).low (bI _),λp j=>((o p j).bA λk c=>g.block k ((o p j).lt k c).2 (v p j k c)).low (bI _),x.uW g u,y.row _⟩,n⟩,n⟩
theorem seven{α β:Type}{f:α->β}{l:List α}{c b1 b2 b3 d e b:β}(h:l.map f=[c,b1,b2,b3,d,e,b]):∃a0 a1 a2 a3 a4 a a6,l=[a0,a1,a2,a3,a4,a,a6]/\f a3=b3/\f a6=b:=by
 match l,h with
 |[a0,a1,a2,a3,a4,a,a6],h=>
  simp only[dG,fQ,dJ,and_true]at h;exact⟨_,_,_,_,_,_,_,rfl,h.2.2.2.1,h.2.2.2.2.2.2⟩
theorem aqL{α β:Type}{f:α->β}{l:List α}{a b1:β}(h:l.map f=[a,b1]):∃a0 a1,l=[a0,a1]/\f a1=b1:=by
 match l,h with
 |[a0,a1],h=>
  simp only[dG,fQ,dJ,and_true]at h;exact⟨_,_,rfl,h.2⟩
structure aqC (v:Value) (fb:Nat) (W:World) (g c b3 c3 b6 o6 c6 br or_ cr cp:Nat) (Ap:Option Addr):Prop where
 v:v=.slice g 7 c
 e3:W.cell? (g,7)=some (.slice b3 2 c3)
 e6:W.cell? (g,13)=some (.slice b6 2 c6)
 x0:W.cell? (b6,0)=some (.int .i64 2)
 x1:W.cell? (b6,1)=some (.int .i64 2)
 x2:W.cell? (b6,2)=some (.int .i64 0)
 x3:W.cell? (b6,3)=some (.int .i64 1)
 x4:W.cell? (b6,4)=some (.int .i64 3)
 x5:W.cell? (b6,5)=some (.int .i64 0)
 r:W.cell? (fb,7)=some (.slice (some ⟨br,or_,none⟩) 2 cr)
 p:W.cell? (fb,6)=some (.slice Ap 1 cp)
 i:W.cell? (br,or_+14)=some (.int .i64 3)
theorem VH{α:Type}{B:Nat}{E:cX}{dec:α->List cJ}{xs:List α}(h:bL w B E k dec v xs)(i:xs≠[]):∃g c,v=cC (cG ⟨g,0,cH⟩) xs.length c/\∀j u,(xs.flatMap dec)[j]? =cG u->w.cell? ⟨g,j,cH⟩=cG u:=by
 obtain⟨n,⟨rfl,b⟩|⟨g,cap,cur,rfl,m,d,o,l,hs,f⟩⟩:=h
 .exact absurd (lC.1 b) i
 .have e:Blk w g E cur:=d;refine⟨g,cap,rfl,λj u a=>?_⟩;rw[e.cell,<-dF];rw[<-f,dU]at a;split at a
  .exact a
  .cases a
theorem aar.read{k:Nat}(h:aar w v k W):∃g c b3 c3 b I c6 d j f e Ap,aqC v k W g c b3 c3 b I c6 d j f e Ap:=by
 obtain⟨ps,v1,v2,vp,vr,M,rl,y,F,m,i,n⟩:=h.ex;obtain⟨a0,a1,a2,a3,a4,K,a6,rfl,s,u⟩:=seven y;obtain⟨g,c,rfl,l⟩:=VH F sZ;have r3:=m a3 sZ;have o:=m a6 sZ;rw[s]at r3;rw[u]at o;obtain⟨b3,c3,e3,_⟩:=VH r3 sZ;obtain⟨b,c6,e6,a⟩:=VH o sZ;obtain⟨J,f,rfl,H,_,_⟩:=i.rs;obtain⟨Ap,e,rfl,_⟩:=i.ps;obtain⟨L,p,rfl,A⟩:=aqL i.map;obtain⟨d,j,rfl,_,x⟩:=H sZ;have z:p.id=3:=dB (λr:Top.R=>r.p.id) A;refine⟨g,c,b3,c3,b,0,c6,d,j,f,e,Ap,rfl,?_,?_,a 0 _ rfl,a 1 _ rfl,a 2 _ rfl,a 3 _ rfl,a 4 _ rfl,a 5 _ rfl,n.cell 7,n.cell 6,?_⟩
 .exact(l 7 _ rfl).trans (dB cG e3)
 .exact(l 13 _ rfl).trans (dB cG e6)
 .rw[<-z];exact x 1 p rfl 0 _ rfl
theorem ajZ(a9:w.cell? (0,0)=cG (.iface ty x))(a8:0<(w:Nat)):cY cR 11 #[] w λe w'=>e=cP (eV cE)/\cN w w w':=by
 have bd:=qZ (GI 6 0 0 0 0 0 0 0 0 0 0 0 0 cH cH 0 0 0 0 w);have ah:=qZ (aC a9 a8);clear a9 a8;go_enter func11,ntmps11;go_upto_region 1 with fail;go_wp2_with fail;refine bd.mono ?_;rintro e ba⟨rfl,ad⟩;obtain⟨b1,ao⟩:=nZ (ba:Nat);obtain⟨w0,af⟩:=nZ (ba.alloc (cI #[(),(),cE,cE,(),(),(),(),(),(),(),(),(),(),(),(),()] 75));have an:cN w w w0:=by rw[<-af];exact ad.alloc ad.size _
 have x0:=aY af ao;obtain⟨o,ag⟩:=nZ (w0.setRow b1 c6);have bb:Blk o b1 75 c6:=by rw[<-ag];exact x0.row c6
 have ae:cN w w o:=by rw[<-ag];exact an.trans ((jM _ _ _).below an.size λi e=>by have:=ad.size;omega)
 have bh:=qZ x0;have ab:=qZ bb;have be:=qZ ae;have X:=qY (o.cell? (0,0)=cG (.iface ty x)/\0<(o:Nat)) (⟨(ae.cell (p:=⟨0,0,cH⟩) ah.2).trans ah.1,aM ah.2 ae.size⟩);have av:=qZ (aC af ao);have bg:=qZ ag;have ak:(prog.info? 75).map (·.size)=cG c6.size:=xD;clear ad af an x0 ag bb ae ao;go_upto_region 2 with(rw[av.out.1,av.out.2];refine cU rfl 75 (.tmp 1) (.tmp 5) rfl b1 c6 rfl rfl 75 _ bh ak rfl (by rw[<-dT];rfl) ?_;rw[bg.out]);rw[show∀a:Act,a.put cH cD=a fromλ_=>rfl];go_cut[2,3,6,7,8,9,10,11,12,13,14,15,16,17,18,19] (λv2 bt cr cs ct cu v10 v11 cj ck cl cm cn co cp cq bw=>∃f,bt=cF (cG ⟨f,0,cH⟩)/\Hid (aar o v2 f bw));case first=>
  refine jB (aD o) (.take 5 (.take 6 (.take 8 pU0))) kZ kZ (aD.drew o) ?_;apply mM;rfl;rfl;(focus(intro W b;exact JO 75 (.tmp 1) rfl b1 rfl 75 c6 (0,0) _ (ab.below b ab.out.lt) cW rfl ak));(focus(go_simp;first|done|rfl));refine tT ?_;apply mM;rfl;rfl;(focus(intro W b;exact JO 75 (.tmp 1) rfl b1 rfl 75 c6 (0,0) _ (ab.below b ab.out.lt) cW rfl ak));(focus(go_simp;first|done|rfl));refine aqE ?_;intro F hF;have j:=qZ hF;clear hF;have a5:∀(B1 B2:Option cV) (N:Nat) (f:Nat) (W:cL),aD o W->Steps W (cC N 7 7) (ysB (cC B1 3 3) (cC B2 2 2))->Blk W f 31 #[cE,cE,(),(),(),(),cE,cE,cE]->(o:Nat)<=f->F pT6 (awf b1 (cF f) (cfv B1 B2) (k1v B1 B2) (c9v B1 B2) (gCv 1 1 50) (gCv 2 1 50) (gCv 3 2 9) (cC N 7 7)) W:=by intro B1 B2 N f W b l u H;rw[j.out];simp only[awf,cfv,k1v];refine dQ ?_;refine tC ?_;refine(amX B1 B2 l ((Below.cell (p:=⟨0,0,cH⟩) b X.2).trans X.1) (aM X.2 b.size)).mono ?_;rintro e n⟨bv,ps,v1,v2,vp,vr,bu,rl,rfl,O,K,Q,J,M,d⟩;rw[anb]at J M⊢;rw[apS]at O;have ai:=qZ (StV.mk (W:=n) (z:=_) ⟨_,_,_,_,_,_,rfl,J,M⟩).one;simp only[stv];obtain⟨bc,bs,br,rfl⟩:=K.sA;refine⟨_,rfl,aA b d,?_⟩;have y:=u.below d u.lt;have bq:=u.lt;have Y:=qZ (akb (aA b d) H y O K Q J (λk I e=>by have:=(K.lt k I).1;omega) (λp aa k I e=>by have:=((Q p aa).lt k I).1;omega) λk I e=>by have:=M.foot I;omega);have aj:=qZ y;clear O K Q J M y d bq;(iterate 4 refine tT ?_);refine dQ ?_;apply sK;rfl;rfl;exact FN 31 (.tmp 3) (.tmp 19) rfl f _ rfl rfl 31 _ aj mX rfl ai;exact Y.2;(focus(go_simp;first|done|rfl));refine fA ?_;go_wp2_with fail;go_meet;exact⟨f,rfl,Y.1⟩
  have a0:∀(B1 B2:Option cV) (f:Nat) (W:cL),aD o W->bW W (cM #[cC B1 3 3,cC B2 2 2,(10:Int),()]) nU->Blk W f 31 #[cE,cE,(),(),(),(),cE,cE,cE]->(o:Nat)<=f->F pT5 (awf b1 (cF f) (cfv B1 B2) (k1v B1 B2) (c9v B1 B2) (gCv 1 1 50) (gCv 2 1 50) (gCv 3 2 9) cD) W:=by
   intro B1 B2 f W b l u H;rw[j.out];simp only[awf,cfv,k1v];refine dQ ?_;obtain⟨n,T⟩:=nZ (W.alloc (cI (TG B1 B2) 75));have d:=aB T;have am:Steps n (cC W 7 7) (ysB (cC B1 3 3) (cC B2 2 2)):=by rw[<-T];exact ahB B1 B2 W l
   apply kD;rfl;rfl;(focus(refine CP rfl ?_ ((ajV B1 B2 W).trans (by rw[T]));(simp only[jD,dG,fQ];rfl)));exact aA b d;rfl;have h:=a5 B1 B2 (W:Nat) f n (aA b d) am (u.below d u.lt) H;rw[j.out]at h;exact h
  have az:∀(B1 B2:Option cV) (f:Nat) (W:cL),aD o W->bW W (cM #[cC B1 3 3,cC B2 2 2,(10:Int),()]) nU->Blk W f 31 #[cE,cE,(),(),(),(),cE,cE,cE]->(o:Nat)<=f->F pT4 (awf b1 (cF f) (cfv B1 B2) (k1v B1 B2) (c9v B1 B2) (gCv 1 1 50) (gCv 2 1 50) cD cD) W:=by intro B1 B2 f W b l u H;rw[j.out];simp only[awf,cfv,k1v];refine dQ ?_;refine tC ?_;refine(xP 3 2 9 W).mono ?_;rintro e n⟨rfl,d⟩;refine⟨_,rfl,aA b d,?_⟩;have h:=a0 B1 B2 f n (aA b d) (l.below d) (u.below d u.lt) H;rw[j.out]at h;exact h
  have ay:∀(B1 B2:Option cV) (f:Nat) (W:cL),aD o W->bW W (cM #[cC B1 3 3,cC B2 2 2,(10:Int),()]) nU->Blk W f 31 #[cE,cE,(),(),(),(),cE,cE,cE]->(o:Nat)<=f->F pT3 (awf b1 (cF f) (cfv B1 B2) (k1v B1 B2) (c9v B1 B2) (gCv 1 1 50) cD cD cD) W:=by intro B1 B2 f W b l u H;rw[j.out];simp only[awf,cfv,k1v];refine dQ ?_;refine tC ?_;refine(xP 2 1 50 W).mono ?_;rintro e n⟨rfl,d⟩;refine⟨_,rfl,aA b d,?_⟩;have h:=az B1 B2 f n (aA b d) (l.below d) (u.below d u.lt) H;rw[j.out]at h;exact h
  have ax:∀(B1 B2:Option cV) (f:Nat) (W:cL),aD o W->bW W (cM #[cC B1 3 3,cC B2 2 2,(10:Int),()]) nU->Blk W f 31 #[cE,cE,(),(),(),(),cE,cE,cE]->(o:Nat)<=f->F pT2 (awf b1 (cF f) (cfv B1 B2) (k1v B1 B2) (c9v B1 B2) cD cD cD cD) W:=by intro B1 B2 f W b l u H;rw[j.out];simp only[awf,cfv,k1v];refine dQ ?_;refine tC ?_;refine(xP 1 1 50 W).mono ?_;rintro e n⟨rfl,d⟩;refine⟨_,rfl,aA b d,?_⟩;have h:=ay B1 B2 f n (aA b d) (l.below d) (u.below d u.lt) H;rw[j.out]at h;exact h
  have aw:∀(B1 B2:Option cV) (f:Nat) (W:cL),aD o W->bW W (cM #[cC B1 3 3,cC B2 2 2,(10:Int),()]) nU->Blk W f 31 #[cE,cE,(),(),(),(),cE,cE,cE]->(o:Nat)<=f->F pT1 (awf b1 (cF f) (cfv B1 B2) (k1v B1 B2) cD cD cD cD cD) W:=by intro B1 B2 f W b l u H;rw[j.out];simp only[awf,cfv,k1v];refine dQ ?_;refine tC ?_;refine(GI 1 10 0 0 0 0 0 0 0 0 0 0 0 B1 B2 3 3 2 2 W).mono ?_;rintro e n⟨rfl,d⟩;refine⟨_,rfl,aA b d,?_⟩;have h:=ax B1 B2 f n (aA b d) (l.below d) (u.below d u.lt) H;rw[j.out]at h;exact h
  have bi:∀(f:Nat) (W:cL),aD o W->True->Blk W f 31 #[cE,cE,(),(),(),(),cE,cE,cE]->(o:Nat)<=f->F pT0 (awf b1 (cF f) cD cD cD cD cD cD cD) W:=by intro f W b l u H;rw[j.out];simp only[awf,cfv,k1v];refine dQ ?_;refine tC ?_;refine(XI W).mono ?_;rintro e n⟨B1,B2,rfl,al,d⟩;refine⟨_,rfl,aA b d,?_⟩;refine tT ?_;have h:=aw B1 B2 f n (aA b d) al (u.below d u.lt) H;rw[j.out]at h;exact h
  have bp:∀(B1 B2:Option cV) (N:Nat) (W:cL),aD o W->Steps W (cC N 7 7) (ysB (cC B1 3 3) (cC B2 2 2))->F pU6 (awf b1 cD (cfv B1 B2) (k1v B1 B2) (c9v B1 B2) (gCv 1 1 50) (gCv 2 1 50) (gCv 3 2 9) (cC N 7 7)) W:=by
   intro B1 B2 N W b l;rw[j.out];simp only[awf,cfv,k1v];refine wH ?_ ?_
   .refine tC ?_;refine(amX B1 B2 l ((Below.cell (p:=⟨0,0,cH⟩) b X.2).trans X.1) (aM X.2 b.size)).mono ?_;rintro e n⟨bv,ps,v1,v2,vp,vr,bu,rl,rfl,O,K,Q,J,M,d⟩;rw[anb]at J M⊢;rw[apS]at O;have ai:=qZ (StV.mk (W:=n) (z:=_) ⟨_,_,_,_,_,_,rfl,J,M⟩).one;simp only[stv];obtain⟨bc,bs,br,rfl⟩:=K.sA;refine⟨_,rfl,aA b d,?_⟩;have aq:=aA b d;obtain⟨f,ap⟩:=nZ (n:Nat);obtain⟨A,m⟩:=nZ (n.alloc (cI #[cE,cE,(),(),(),(),cE,cE,cE] 31));have r:=aB m;have y:=aY m ap;have s:=aA aq r;have Y:=qZ (akb s (by have:=aq.size;omega) y O (K.below r) (λp aa=>(Q p aa).below r) (J.below r) (λk I e=>by have:=(K.lt k I).2;omega) (λp aa k I e=>by have:=((Q p aa).lt k I).2;omega) λk I e=>by have:=J.foot I;omega);have aj:=qZ y;have au:=qZ s;have Z:=qZ (aC m ap);clear O K Q J M y d r m aq s ap;(iterate 3 refine tT ?_);refine dQ ?_;apply kD;rfl;rfl;(focus(go_simp;first|done|(rw[Z.out.1,Z.out.2];exact⟨rfl,rfl⟩)|exact⟨rfl,rfl⟩));(focus(first|exact au|(rw[Z.out.1];exact au)));(focus(go_simp;first|done|rfl))
    try rw[Z.out.1]
    try rw[Z.out.2]
    refine tT ?_;refine dQ ?_;apply sK;rfl;rfl;exact FN 31 (.tmp 3) (.tmp 19) rfl f _ rfl rfl 31 _ aj mX rfl ai;exact Y.2;(focus(go_simp;first|done|rfl));refine fA ?_;go_wp2_with fail;go_meet;exact⟨f,rfl,Y.1⟩
   .obtain⟨A,m⟩:=nZ (W.alloc (cI #[cE,cE,(),(),(),(),cE,cE,cE] 31));have r:=aB m;have s:=aA b r;have y:=aX m;have h:=a5 B1 B2 N (W:Nat) A s (Steps.below l r) y b.size;rw[j.out]at h;apply kD;rfl;rfl;(focus(go_simp;first|done|(rw[m];exact⟨rfl,rfl⟩)|exact⟨rfl,rfl⟩));exact s;rfl;exact h
  have bo:∀(B1 B2:Option cV) (W:cL),aD o W->bW W (cM #[cC B1 3 3,cC B2 2 2,(10:Int),()]) nU->F pU5 (awf b1 cD (cfv B1 B2) (k1v B1 B2) (c9v B1 B2) (gCv 1 1 50) (gCv 2 1 50) (gCv 3 2 9) cD) W:=by
   intro B1 B2 W b l;rw[j.out];simp only[awf,cfv,k1v];refine wH ?_ ?_
   .obtain⟨n,T⟩:=nZ (W.alloc (cI (TG B1 B2) 75));have d:=aB T;have am:Steps n (cC W 7 7) (ysB (cC B1 3 3) (cC B2 2 2)):=by rw[<-T];exact ahB B1 B2 W l
    apply kD;rfl;rfl;(focus(refine CP rfl ?_ ((ajV B1 B2 W).trans (by rw[T]));(simp only[jD,dG,fQ];rfl)));exact aA b d;rfl;have h:=bp B1 B2 (W:Nat) n (aA b d) am;rw[j.out]at h;exact h
   .obtain⟨A,m⟩:=nZ (W.alloc (cI #[cE,cE,(),(),(),(),cE,cE,cE] 31));have r:=aB m;have s:=aA b r;have y:=aX m;have h:=a0 B1 B2 (W:Nat) A s (l.below r) y b.size;rw[j.out]at h;apply kD;rfl;rfl;(focus(go_simp;first|done|(rw[m];exact⟨rfl,rfl⟩)|exact⟨rfl,rfl⟩));exact s;rfl;exact h
  have bn:∀(B1 B2:Option cV) (W:cL),aD o W->bW W (cM #[cC B1 3 3,cC B2 2 2,(10:Int),()]) nU->F pU4 (awf b1 cD (cfv B1 B2) (k1v B1 B2) (c9v B1 B2) (gCv 1 1 50) (gCv 2 1 50) cD cD) W:=by
   intro B1 B2 W b l;rw[j.out];simp only[awf,cfv,k1v];refine wH ?_ ?_
   .refine tC ?_;refine(xP 3 2 9 W).mono ?_;rintro e n⟨rfl,d⟩;refine⟨_,rfl,aA b d,?_⟩;have h:=bo B1 B2 n (aA b d) (l.below d);rw[j.out]at h;exact h
   .obtain⟨A,m⟩:=nZ (W.alloc (cI #[cE,cE,(),(),(),(),cE,cE,cE] 31));have r:=aB m;have s:=aA b r;have y:=aX m;have h:=az B1 B2 (W:Nat) A s (l.below r) y b.size;rw[j.out]at h;apply kD;rfl;rfl;(focus(go_simp;first|done|(rw[m];exact⟨rfl,rfl⟩)|exact⟨rfl,rfl⟩));exact s;rfl;exact h
  have bm:∀(B1 B2:Option cV) (W:cL),aD o W->bW W (cM #[cC B1 3 3,cC B2 2 2,(10:Int),()]) nU->F pU3 (awf b1 cD (cfv B1 B2) (k1v B1 B2) (c9v B1 B2) (gCv 1 1 50) cD cD cD) W:=by
   intro B1 B2 W b l;rw[j.out];simp only[awf,cfv,k1v];refine wH ?_ ?_
   .refine tC ?_;refine(xP 2 1 50 W).mono ?_;rintro e n⟨rfl,d⟩;refine⟨_,rfl,aA b d,?_⟩;have h:=bn B1 B2 n (aA b d) (l.below d);rw[j.out]at h;exact h
   .obtain⟨A,m⟩:=nZ (W.alloc (cI #[cE,cE,(),(),(),(),cE,cE,cE] 31));have r:=aB m;have s:=aA b r;have y:=aX m;have h:=ay B1 B2 (W:Nat) A s (l.below r) y b.size;rw[j.out]at h;apply kD;rfl;rfl;(focus(go_simp;first|done|(rw[m];exact⟨rfl,rfl⟩)|exact⟨rfl,rfl⟩));exact s;rfl;exact h
  have bl:∀(B1 B2:Option cV) (W:cL),aD o W->bW W (cM #[cC B1 3 3,cC B2 2 2,(10:Int),()]) nU->F pU2 (awf b1 cD (cfv B1 B2) (k1v B1 B2) (c9v B1 B2) cD cD cD cD) W:=by
   intro B1 B2 W b l;rw[j.out];simp only[awf,cfv,k1v];refine wH ?_ ?_
   .refine tC ?_;refine(xP 1 1 50 W).mono ?_;rintro e n⟨rfl,d⟩;refine⟨_,rfl,aA b d,?_⟩;have h:=bm B1 B2 n (aA b d) (l.below d);rw[j.out]at h;exact h
   .obtain⟨A,m⟩:=nZ (W.alloc (cI #[cE,cE,(),(),(),(),cE,cE,cE] 31));have r:=aB m;have s:=aA b r;have y:=aX m;have h:=ax B1 B2 (W:Nat) A s (l.below r) y b.size;rw[j.out]at h;apply kD;rfl;rfl;(focus(go_simp;first|done|(rw[m];exact⟨rfl,rfl⟩)|exact⟨rfl,rfl⟩));exact s;rfl;exact h
  have bk:∀(B1 B2:Option cV) (W:cL),aD o W->bW W (cM #[cC B1 3 3,cC B2 2 2,(10:Int),()]) nU->F pU1 (awf b1 cD (cfv B1 B2) (k1v B1 B2) cD cD cD cD cD) W:=by
   intro B1 B2 W b l;rw[j.out];simp only[awf,cfv,k1v];refine wH ?_ ?_
   .refine tC ?_;refine(GI 1 10 0 0 0 0 0 0 0 0 0 0 0 B1 B2 3 3 2 2 W).mono ?_;rintro e n⟨rfl,d⟩;refine⟨_,rfl,aA b d,?_⟩;have h:=bl B1 B2 n (aA b d) (l.below d);rw[j.out]at h;exact h
   .obtain⟨A,m⟩:=nZ (W.alloc (cI #[cE,cE,(),(),(),(),cE,cE,cE] 31));have r:=aB m;have s:=aA b r;have y:=aX m;have h:=aw B1 B2 (W:Nat) A s (l.below r) y b.size;rw[j.out]at h;apply kD;rfl;rfl;(focus(go_simp;first|done|(rw[m];exact⟨rfl,rfl⟩)|exact⟨rfl,rfl⟩));exact s;rfl;exact h
  have bj:∀(W:cL),aD o W->True->F pU0 (awf b1 cD cD cD cD cD cD cD cD) W:=by
   intro W b l;rw[j.out];simp only[awf,cfv,k1v];refine wH ?_ ?_
   .refine tC ?_;refine(XI W).mono ?_;rintro e n⟨B1,B2,rfl,al,d⟩;refine⟨_,rfl,aA b d,?_⟩;refine tT ?_;have h:=bk B1 B2 n (aA b d) al;rw[j.out]at h;exact h
   .obtain⟨A,m⟩:=nZ (W.alloc (cI #[cE,cE,(),(),(),(),cE,cE,cE] 31));have r:=aB m;have s:=aA b r;have y:=aX m;have h:=bi (W:Nat) A s l y b.size;rw[j.out]at h;apply kD;rfl;rfl;(focus(go_simp;first|done|(rw[m];exact⟨rfl,rfl⟩)|exact⟨rfl,rfl⟩));exact s;rfl;exact h
  exact bj _ (aD.drew o) trivial
 case rest=>obtain⟨f,rfl,ar⟩:=hcut;obtain⟨g,c,b3,c3,bz,b5,c6,b0,b6,b4,b2,Ap,R⟩:=ar.read;obtain⟨rfl,b7,b8,ca,cb,cc,cd,ce,cg,ch,ci,b9⟩:=R;have bf:=qY (cN w w wc) (aA be ar.old);go_wp2_with fail;refine cT (v:=eV cE) (by simp[results,Tryz.results11,go_sem]) rfl ?_;exact⟨rfl,bf⟩
theorem ajp{ys:List vO}(h:agW w v ys)(dm:w.cell? (0,0)=cG (.iface ty X))(L:0<(w:Nat)):cY cR 3 #[v] w λe w'=>e=cP (eV cE)/\cN w w w':=by
 have bc:=qZ (apf h);have bd:Hid (∀W,cN w w W->cY cR 11 #[] W λe w'=>e=cP (eV cE)/\cN W W w'):=qZ (λW d=>ajZ ((d.cell (p:=⟨0,0,cH⟩) L).trans dm) (aM L d.size));obtain⟨A,ca,rfl,_,_,_⟩:=h;obtain⟨fi,bo⟩:=nZ ys.length;have ej:=qZ bo;rw[bo]at bc⊢;clear dm L bo;go_enter func3,ntmps3;go_upto_region 1 with fail;go_wp2_with fail;refine bc.mono ?_;rintro e wc⟨a5,s,ok,rfl,b7,cc,df⟩;obtain⟨O,ce⟩:=nZ (wc:Nat);obtain⟨ah,ch⟩:=nZ (bx wc a5);have bq:=JH.new cc df;rw[ch,ce]at bq;have Q:=qZ bq;have c0:=qZ cc;have bj:=qZ (aC ch ce);rw[<-ej.out]at b7;have es:∃n,gd n s/\n<=1000:=by
  rcases b7 with⟨_,rfl⟩|⟨a,b,c⟩
  .exact⟨0,Top.Good.new,dZ⟩
  .exact⟨_,(anW (.inr ⟨a,b,c⟩) a).1,oZ⟩
 obtain⟨ey,ap,b0⟩:=es;have y:=qZ (aC ap b0);have aa:=MG ap b0;have cx:=qZ aa;obtain⟨a9,c1,ba,c2,ed,c3,bb,c4,ee,c5,rl,I,ab⟩:=Q.st.parts;have bm:=ahU (next:=s.next) (vr:=cC bb s.rs.length c4) (show zQ ah (cC a9 s.c.aN.length c1) (cC ba s.c.aR.length c2) (cC ee s.h.length c5) s.c s.h from⟨ab.cfg,aa.mild.aN,aa.wok,ab.h⟩) aa.num ab.ps (by have:=ap.len;omega);rw[<-I]at bm;have cq:=qY (cY cR 10 #[cM a5] ah λe w'=>∃v,e=cP v/\bL w' ah 44 11 fH v (eS s)/\cN ah ah w') bm;have bi:=qZ ab;have ei:=qZ I;clear cc df b7 bq ch ce bc ap b0 aa I ab bm;go_upto_region 2 with(refine BF rfl (.tmp 3) (.tmp 14) rfl rfl a5 rfl c0 ?_);rw[bj.out.1,bj.out.2];go_wp2_with(refine aeM rfl (.tmp 3) rfl Q rfl ?_);refine cq.mono ?_;rintro e f⟨f4,rfl,du,aq⟩;obtain⟨fe,fy,rfl,dt⟩:=du.sl (λ_=>rfl);have ek:=qZ dt;have et:(eS s).length<=32:=by rw[(vE s).length_eq];have:=y.1.len;omega
 obtain⟨ae,b2⟩:=nZ ((eS s).length);rw[b2]at et⊢;have cw:=qZ b2;have cs:=qZ aq;have ai:=qZ (Q.below aq);have bg:=qZ (Q.old.trans (aq.mono Q.old.size));have cr:=qZ (bd f bg);clear du dt b2 aq cq c0 bj;cases ok
 .go_wp2_with fail;refine cr.mono ?_;rintro e a0⟨rfl,M⟩;have Y:=aA bg M;go_wp2_with fail;go_ret;exact⟨rfl,Y⟩
 .cases z:eS s with
  |nil=>
   have eu:ae=0:=by have:=cw.out;rw[z]at this;exact this.symm
   subst eu;clear z;go_wp2_with fail;refine cr.mono ?_;rintro e a0⟨rfl,M⟩;have Y:=aA bg M;go_wp2_with fail;go_ret;exact⟨rfl,Y⟩
  |cons p l=>
   have b8:p∈s.ps:=(vE s).mem_iff.1 (by rw[z];exact bJ ..);have dy:=y.1.kV p (dY _ b8);have bt:=cx.kV p (dY _ b8);have Z:1<=ae:=by have:=cw.out;rw[z]at this;simp at this;omega
   have fo:((ae:Int)==0)=dC:=by simp;omega
   have fq:(0:Int)<(ae:Int):=oZ;have fp:0<ae:=oZ;have dl:=TH y.1 z;have dx:=λfl hs er=>afl y.1 (p:=p) (l:=l) z (fl:=fl) (hs:=hs) er;obtain⟨k,m,rfl,-,di⟩:=ek.dR (i:=0) (by rw[z];simp);have dg:∀j u,(fH p)[j]? =cG u->∀W,aD f W->CV W k (m+j) u:=λj u ex W d=>by have:=di W d j u (by simpa[z]using ex);simpa using this
   have N:=aie (bi.cfg.below cs) (bi.rs.below cs) cx.mild p bt.num bt.lev dy.nums.need;have r:=qZ dg;have cu:=qZ (aC dl dx);rw[bi.out.map]at N;obtain⟨o,b6⟩:=nZ (Top.dX s.c s.rs p);rw[b6]at N;have cy:=qZ b6;obtain⟨dz,bw⟩:=nZ s.c.aN.length;obtain⟨d0,bz⟩:=nZ s.c.aR.length;obtain⟨ci,b3⟩:=nZ s.ps.length;obtain⟨az,av⟩:=nZ s.rs.length;obtain⟨dp,bv⟩:=nZ s.c.aG;obtain⟨de,bu⟩:=nZ s.c.aJ;have I:=ei.out;rw[bw,bz,b3,av,bv,bu]at I;rw[bw,bz,av,bv,bu]at N;have ak:=qZ (aC b3 av);obtain⟨id,ec,ck,⟨n0,n1,n2⟩,d9,d6,d8,f1,f0⟩:=p;simp only[dV,gK]at N;have cv:=qY (∀W,aD f W->cY cR 12 #[cM #[cC a9 dz c1,cC ba d0 c2,dp,de],cC bb az c4,cM #[id,ec,ck,n0,n1,n2,d9,d6,d8]] W λe w'=>yT o W e w') (λW d=>N W d);have H:=qY (∀W,aD f W->W.cell? (O,0)=cG (cC a9 dz c1)/\W.cell? (O,1)=cG (cC ba d0 c2)/\W.cell? (O,2)=cG (ac cA dp)/\W.cell? (O,3)=cG (ac cA de)/\W.cell? (O,6)=cG (cC ed ci c3)/\W.cell? (O,7)=cG (cC bb az c4)) (λW d=>by have x:=ai.box.below d ai.box.lt;rw[I]at x;exact⟨x.cell 0,x.cell 1,x.cell 2,x.cell 3,x.cell 6,x.cell 7⟩);have cz:=qY (∀W,aD f W->W.cell? (k,m)=cG (ac cA id)/\W.cell? (k,m+1)=cG (ac cA ec)/\W.cell? (k,m+2)=cG (ac cA ck)/\W.cell? (k,m+3)=cG (ac cA n0)/\W.cell? (k,m+4)=cG (ac cA n1)/\W.cell? (k,m+5)=cG (ac cA n2)/\W.cell? (k,m+6)=cG (ac cA d9)/\W.cell? (k,m+7)=cG (ac cA d6)/\W.cell? (k,m+8)=cG (ac cA d8)) (λW d=>⟨r 0 _ rfl W d,r 1 _ rfl W d,r 2 _ rfl W d,r 3 _ rfl W d,r 4 _ rfl W d,r 5 _ rfl W d,r 6 _ rfl W d,r 7 _ rfl W d,r 8 _ rfl W d⟩);clear b8 dy bt dl dx di dg N b6 bw bz b3 av bv bu I Z;go_upto_region 5 with fail;refine jB (aD f) (.take 0 (.take 1 (.take 2 (.take 3 (.take 4 (.take 5 (.take 6 (.take 7 (.one 8 (.take 9 (.take 10 (.take 11 (.take 12 (.take 13 (.take 14 (.take 15 .done)))))))))))))))) kZ kZ (aD.drew f) ?_;have x0:=λW (d:aD f W)=>(H W d).1;have ez:=λW (d:aD f W)=>(H W d).2.1;have e0:=λW (d:aD f W)=>(H W d).2.2.1;have e5:=λW (d:aD f W)=>(H W d).2.2.2.1;have co:=λW (d:aD f W)=>(H W d).2.2.2.2.2;have cl:=cz.out;(iterate 8 refine tT ?_);clear x0 ez e0 e5 co cl;refine dQ ?_;refine tC ?_;refine(cv _ (aD.drew f)).mono ?_;rintro e a0⟨f3,rfl,dw,M⟩;have cb:aD f a0:=aA (aD.drew f) M;refine⟨_,rfl,cb,?_⟩;obtain⟨fd,fx,rfl,-⟩:=dw.sl (λ_=>rfl);obtain⟨fl,bs⟩:=nZ ((fX (·.1) o).getD 0);obtain⟨d7,b1⟩:=nZ (((fX (·.2) o).getD []).length);obtain⟨ea,K⟩:=nZ o.isSome;rw[bs,b1,K];have aj:=qZ (aC bs (aC b1 K));have ct:=qZ cb;clear dw M cb bs b1 K cv;(iterate 7 refine tT ?_);refine fA ?_;have T:=qZ (ai.below ct);have cp:=qZ (aqR T.st y.1 y.2 a0 (aK _ _));go_upto_region 6 with fail;go_wp2_with(refine aeM rfl (.tmp 3) rfl T rfl ?_);refine cp.mono ?_;rintro e cn⟨a8,f2,rfl,ax,au,bp⟩;obtain⟨cm,ay⟩:=nZ ((gh s).1);obtain⟨ev,br⟩:=nZ ((gh s).2);rw[ay]at ax;rw[br]at au;have dq:ev.length<=maxLen:=by
    rcases au.form with⟨_,e⟩|⟨g,c,_,_,_,an,ao⟩
    .rw[e];decide
    .exact bC an ao
   obtain⟨fc,fw,rfl,dv⟩:=au.sl amy;obtain⟨ad,Z⟩:=nZ ev.length;rw[Z]at dq⊢;unfold maxLen at dq;obtain⟨eb,cd⟩:=nZ (cn:Nat);obtain⟨w1,cg⟩:=nZ (bx cn a8);have J:=JH.new ax (T.old.trans (bp.mono T.old.size));have aw:=DN cn a8;rw[cg]at J aw;rw[cd]at J;obtain⟨ff,d1,fg,d2,ef,d3,eg,d4,fh,d5,fz,bn,-⟩:=J.st.parts;obtain⟨af,b4⟩:=nZ cm.ps.length;obtain⟨ag,b5⟩:=nZ cm.rs.length;rw[b4,b5]at bn;have dn:gd ey cm:=by rw[<-ay];exact y.1.run
   have fn:af+ag<=32:=by have:=dn.len;omega
   have fm:ci+az<=32:=by have:=y.1.len;have:=ak.1;have:=ak.2;omega
   have db:=qY (∀W,aD w1 W->W.cell? (eb,6)=cG (cC ef af d3)/\W.cell? (eb,7)=cG (cC eg ag d4)) (λW d=>by have x:=J.box.below d J.box.lt;rw[bn]at x;exact⟨x.cell 6,x.cell 7⟩);have em:=qZ ax;have da:=qZ (aC cg cd);have el:=qZ (dv.below aw);have bh:=qZ (aC ay br);have al:=qZ (aC Z (aC b4 b5));have be:=qY (aD f w1) (aA ct (aA bp aw));have am:=qZ J.old;clear ay br ax au bp dv Z cd cg J aw bn dn b4 b5 cp T ai;go_upto_region 7 with(refine BF rfl (.tmp 9) (.tmp 42) rfl rfl a8 rfl em ?_);rw[da.out.1,da.out.2];have eh:=qZ (bd w1 am);cases o with
   |none=>
    have K:ea=dC:=aj.2.2.symm;subst K;have ew:(0:Int)<(ad:Int):=by obtain⟨e,t,dj⟩:=cu.out.1.2 cy;rw[bh.out.2]at dj;have:=al.1;rw[dj]at this;simp at this;omega
    have ds:(ad:Int)>0:=ew;go_wp2_with fail;refine eh.mono ?_;rintro e f5⟨rfl,Y⟩;have ep:=aA am Y;go_wp2_with fail;go_ret;exact⟨rfl,ep⟩
   |some eo=>
    obtain⟨bl,hs⟩:=eo;have K:ea=cE:=aj.2.2.symm;have dk:fl=bl:=aj.1.symm;have dr:d7=hs.length:=aj.2.1.symm;subst K;obtain⟨⟨t,F⟩,b9,dh⟩:=cu.out.2 bl hs cy;rw[bh.out.2]at F;rw[bh.out.1,al.out.2.1,al.out.2.2,ak.out.1,ak.out.2]at dh
    try simp only at b9 F
    have ds:(ad:Int)>0:=by have:=al.1;rw[F]at this;simp at this;omega
    have ft:(0:Int)<(ad:Int):=ds;have fs:0<ad:=oZ;obtain⟨bk,cj,rfl,-,ar⟩:=el.dR (i:=0) (by rw[F];simp);have bf:=qY (∀W,aD w1 W->W.cell? (bk,cj)=cG (ac cA 1)/\W.cell? (bk,cj+1)=cG (ac cA id)/\W.cell? (bk,cj+2)=cG (ac cA fl)) (λW d=>by rw[dk];have L:=ar W d 0 (ac cA 1) (by simp[F,mY]);have an:=ar W d 1 id (by simp[F,mY]);have ao:=ar W d 2 bl (by simp[F,mY]);simp only[kP,Nat.add_zero]at L an ao;exact⟨L,an,ao⟩);have fr:((d7:Int)==ck)=cE:=by rw[dr,b9];simp
    have fu:IntKind.i64.wrap ((ag:Int)+(af:Int))=(ag:Int)+(af:Int):=by rw[eM];omega
    have fv:IntKind.i64.wrap ((az:Int)+(ci:Int))=(ag:Int)+(af:Int):=by rw[eM];omega
    have en:=λW (d:aD w1 W)=>(bf W d).1;have e1:=λW (d:aD w1 W)=>(bf W d).2.1;have e2:=λW (d:aD w1 W)=>(bf W d).2.2;have cl:=λW (d:aD w1 W)=>cz W (aA be d);have e8:=λW (d:aD w1 W)=>(H W (aA be d)).2.2.2.2.1;have co:=λW (d:aD w1 W)=>(H W (aA be d)).2.2.2.2.2;have e9:=λW (d:aD w1 W)=>(db W d).1;have fb:=λW (d:aD w1 W)=>(db W d).2;have dc:∀W,aD w1 W->cY cR 11 #[] W λe w'=>e=cP (eV cE)/\aD w1 w':=λW d=>(bd W (aA am d)).mono λe w' ⟨a,b⟩=>⟨a,aA d b⟩;clear F b9 dh dk dr ar;go_upto_region 9 with fail;refine kK ?_;(repeat refine kY ?_);refine kJ dc ?_;(repeat refine kY ?_);refine dP ?_;intro fj dd;have eq:=aA am dd;clear en e1 e2 cl e8 co e9 fb dc dd;go_wp2_with fail;go_ret;exact⟨rfl,eq⟩
end bT
namespace topFirst
open Go.ChangeShapes Go.WideShapes Go.ChangeAt Go.RowKit
theorem own:ownKnob prog.godebug=cH:=by kernel_rfl
theorem laidOut:laidOutB cR=cE:=by kernel_rfl
theorem gE:prog.globalNamed "tithebarn/store.errBad" =cG 0:=by kernel_rfl
theorem tE:(prog.globals[0]?).map (·.type)=cG 291:=by kernel_rfl
theorem aqY(u:cX)(h:prog.typeName? 3 u=cG "*errors.errorString"):u=405:=
 typeName_ptr_named (nm:= "errors.errorString") (by rw[show "*" ++ "errors.errorString" = "*errors.errorString" from by decide];kernel_rfl) kZ dZ u (by rw[show "*" ++ "errors.errorString" = "*errors.errorString" from by decide];exact h)
theorem amB(os:Os)(args:Array cJ):eI cR Rows.topFirstRow.laid ((World.doorLaid cR 400 os).forCall (λ_ _=>0) ⟨#[],args,[]⟩).memory:=
 laidMetH_of_parts3 (fuel:=8) (laidMet_of_run' 8 kZ kZ) kZ kZ
theorem aoh(h:eI cR Rows.topFirstRow.laid W):∃b,W.cell? (0,0)=cG (.iface 405 b):=by rw[MakeChecks.laidMetH_plain _ _ _ kZ]at h;obtain⟨a,s,hv,_⟩:=laid_sentinel h gE tE underlying291 aqY underlying405 underlying427 rfl rfl underlying9 kZ kZ;exact⟨_,by simpa using World.var?_cell gE hv 0⟩
theorem aqM(h:W.cell? (0,0)=cG v):0<(W:Nat):=by
 rcases jF (W:Nat)with e|e
 .have:W.heap[0]? =cH:=jA oZ;simp[World.cell?,this]at h
 .exact e
theorem lifted(os:Os)(A:os.Started)(H:Type)(enc:cX×cJ->H):ReturnsInHanded {} Tryz.checked os 3 .any (λw args=>(Rows.topFirstSpec.pre enc cR eN [] dC w args/\eI cR Rows.topFirstRow.laid w)/\sizedMet enc cR eN (OpenSpec.ofChange Rows.topFirstSpec) dC w args) (Rows.topFirstSpec.post enc cR eN dC cE dC dC):=by
 refine returnsInHanded_of_change_and (C:=Tryz.checked) (X:=λw _=>eI cR Rows.topFirstRow.laid w) (λ_ _ _ r h=>h.of_heap r) own A kZ func3
  (ChangeSpec.witness_shaped (enc:=enc) (C:=Tryz.checked) (os:=os) (X:=λw _=>eI cR Rows.topFirstRow.laid w) dC (World.doorLaid cR 400 os) #[cE] 8 rfl (World.shaped_of_RefB kZ kZ) kZ kZ kZ (amB os _)) ?_
 intro W base args ds gs I u c _ _ i _;have hval:∀(j:Nat) t v,Tryz.f3.params[j]? =cG t->args[j]? =cG v->Value.okWide cR W .any base t v:=u;have l:=c;obtain⟨p,q,g,k,rfl,M,N⟩:=c;have b:DataW.TrodAll enc cR W 0 (λ_=>cE) cE Tryz.f3.params.toList args.toList ds p:=g;rw[Tryz.params3]at b hval;obtain⟨F,K,rfl,rfl,a⟩:=trodAll_one b;obtain⟨rfl,rfl⟩:=trodVars_none k;have f:=a;have z:∀x∈p,x.block<(W:Nat):=by obtain⟨m,s⟩:=f;exact DataW.trod_lt m _ _ _ s
 obtain⟨a0,n0,J,rfl⟩:=okWide_slice underlying22 (hval 0 22 F rfl rfl);obtain⟨L,o⟩:=a;obtain⟨ys,y⟩:=bT.aiE o;obtain⟨O,d⟩:=aoh i;refine(bT.ajp y d (aqM d)).mono λe W' ⟨n,bel⟩=>?_;subst n;exact⟨_,rfl,_,_,_,[],_,[],l,trodAll_mk1 (shut_bool underlying4 _),(trodAll_cons_mk (Below.trod laidOut kZ (of_decide_eq_true kZ) f bel z) trodAll_mk0),rfl,bel.frame _,λh=>by cases h⟩
theorem over:Rows.topFirstRow.holds Tryz.pinned (OpenSpec.ofChange Rows.topFirstSpec):=
 OpenClaim.holds_of_wide 3 eN rfl rfl rfl rfl rfl rfl rfl ⟨rfl,rfl,rfl,rfl,rfl⟩ rfl rfl rfl rfl rfl ajm func3 joined aqN aqD
  (λos a H enc _=>lifted os a H enc)
theorem proved:Rows.TopFirstCardSaid:=
 Claim7.holds_tied_plain_at .later [] [.sentinel] cE (cE,"c97910147129ad8b29a81bf79b7d3dfe1754e7ca21dcd0dadd0273f90efd963e") cE
  over (λ_ h=>by cases h) d1 (λ_ h=>by cases h) topFirst_row_tie rfl ⟨rfl,rfl⟩ d2 rfl
  (λf fn c d=>by
   obtain rfl:f=3:=Option.some.inj (ajm.symm.trans c) |>.symm;obtain rfl:fn=eN:=(Option.some.inj (func3.symm.trans d)).symm;exact⟨d3,λj t a=>by
    rw[Tryz.params3]at a;have b:t=22:=by
     rcases j with _|j
     .simpa using a.symm
     .simp at a
    subst b;exact d4⟩)
  d5
#print axioms proved
end topFirst
end Go.Proofs.YtedmeglbjmdlhaaGreatDoor
