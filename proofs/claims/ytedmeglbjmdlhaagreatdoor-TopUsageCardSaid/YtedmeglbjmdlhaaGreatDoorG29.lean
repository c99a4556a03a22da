/-
Parts that the laws of the whole program share: contracts of its functions, and plain laws.
-/
import Derived.Test.YtedmeglbjmdlhaaGreatDoorG28
import Derived.Test.YtedmeglbjmdlhaaGreatDoorG27
set_option maxRecDepth 100000
set_option maxHeartbeats 16000000
set_option linter.all false
open Go.Proofs.Tryz
namespace Go.Proofs.YtedmeglbjmdlhaaGreatDoor
open Go
open Cfg L Ord Quo Srt Top bM bU eZ sK
variable{c:Cfg.C}{rl:List bM.Run}{b1 b2 b3:Nat}{p:Ord.P}{vr:Value}{w w':World}
namespace bU
open Go Go.RowKit L bM eZ Srt
theorem CX.upto{B:Nat}{c:Value}(h:CX w b1 b2 b3 c vr p)(b:Below B w w')(d:b1<B)(f:b2<B)(g:b3<B):CX w' b1 b2 b3 c vr p:=by obtain⟨⟨v1,v2,x,a,e,i⟩,k,j⟩:=h;exact⟨⟨v1,v2,x,a,e,i.below b d⟩,k.below b f,j.below b g⟩
def aoo(o:Option (List Int))(w:World)(e:Ending)(w':World):Prop:=∃v',e=.returned (.tuple #[v',.bool o.isSome])/\bQ w' w 3 1 jL v' (o.getD [])/\Below w w w'
theorem EY{dm:Value}(aa:bX w dm c)(Q:Runs w vr rl)(ab:FC c)(aj:Many rl)(p:Ord.P)(cy:NY p)(cz:RU p):∀w1,Below w w w1->Calls prog 84 #[dm,vr,dW p] w1 λe w'=>aoo (Top.choose c (rl.map eY) p) w1 e w':=by
 intro w1 co;replace aa:=aa.below co;replace Q:=Q.below co;have h0:=qZ (aC aa (aC Q (aC ab (aC aj (aC cy cz)))));have ar:=qY (∀W,Below w1 w1 W->bX W dm c/\Runs W vr rl) (λW h=>⟨aa.below h,Q.below h⟩);obtain⟨rs,ad⟩:=nZ (rl.map eY);have gj:=qZ ad;have hg:=aj.len;have bn:rs.length=rl.length:=by rw[<-ad];simp
 rw[ad];obtain⟨q,c0⟩:=nZ (pK c (Top.used c rs) p.dN (jT p));have bf:=qY (Top.choose c rs p=if q=true then(qM c rs p (rs.length+1) []).map λdB=>iK c rs p dB dB else none) (by rw[<-c0];rfl);have a9:=qZ (λW (h:Below w1 w1 W)=>by have:=AR aa Q ab.aP W h;rw[KM,ad]at this;exact this);have ba:=qZ (λW va (h:Below w1 w1 W) (g8:VSl W va (Top.used c rs))=>by have:=XI (aa.below h) g8 p.dN (jT p) W (aJ _ _);rw[c0]at this;exact this);have bi:=aaX p.id p.dN p.eU p.need p.run p.aR p.prefer;obtain⟨v1,v2,rfl,⟨A,ca,rfl,hm,bm⟩,⟨B,J,rfl,hn,cu⟩⟩:=aa;obtain⟨F,cf,rfl,ho,he,hb⟩:=Q;have b1:=qY (∀a,Blk a w1 26 #[.slice A c.aP.length ca,.slice B c.aQ.length J,c.aI,c.aK]->Blk a ((w1:Nat)+1) 28 #[.slice F rl.length cf]->Blk a ((w1:Nat)+1+1) 42 (iD p)->CX a (w1:Nat) ((w1:Nat)+1) ((w1:Nat)+1+1) (.agg #[.slice A c.aP.length ca,.slice B c.aQ.length J,c.aI,c.aK]) (.slice F rl.length cf) p) (λa v ai g7=>⟨⟨_,_,_,_,rfl,v⟩,ai,g7⟩);have bz:=qY (∀a,Below w1 w1 a->CX a (w1:Nat) ((w1:Nat)+1) ((w1:Nat)+1+1) (.agg #[.slice A c.aP.length ca,.slice B c.aQ.length J,c.aI,c.aK]) (.slice F rl.length cf) p->∀ae dB,ISl a ae dB->dB.length<=1000000->Calls prog 140 #[ae,.pointer w1,.pointer (some ⟨(w1:Nat)+1,0,none⟩),.pointer (some ⟨(w1:Nat)+1+1,0,none⟩)] a λe w'=>e=.returned (.bool (Top.dR c (dK rs dB) p).isSome)/\Below a a w') (λa X dh ae dB hi cs=>by have:=anM dh (ar a X).1 (ar a X).2 ab aj hi cs cy cz a (aJ _ _);rw[ad]at this;exact this);have d7:=qY (∀W,Below w1 w1 W->∀ae dB,ISl W ae dB->dB.length<=1000000->Calls prog 79 #[.slice F rl.length cf,ae] W λe w'=>akE (dK rs dB) W e w') (λW X ae dB hi cs=>by have:=TH (ar W X).2 aj hi cs W (aJ _ _);rw[ad]at this;exact this);have fy:=qY (∀W,Below w1 w1 W->∀af Y,Runs W af Y->Calls prog 14 #[.agg #[.slice A c.aP.length ca,.slice B c.aQ.length J,c.aI,c.aK],af] W λe w'=>aaw (Top.used c (Y.map eY)) W e w') (λW X af Y da=>by have:=AR (ar W X).1 da ab.aP W (aJ _ _);rw[KM]at this;exact this);have fx:=qY (∀W,Below w1 w1 W->∀cg dn dk af Y,abq W (w1:Nat) cg (.agg #[.slice A c.aP.length ca,.slice B c.aQ.length J,c.aI,c.aK]) dn->VSl W dn dk->Runs W af Y->Y.length<=1000000->Calls prog 141 #[af,.func (.func 143) #[] #[.pointer w1,.pointer (some ⟨cg,0,none⟩)]] W λe w'=>First (λx=>kP c dk x.dN) Y W e w') (λW X cg dn dk af Y dh hp da bm=>akv dh (ar W X).1 hp da bm W (aJ _ _));obtain⟨R,ev⟩:=nZ (Top.choose c rs p);rw[ev]at bf⊢;obtain⟨h2,ex⟩:=nZ (Top.used c rs);rw[ex]at a9 ba;have e5:jT p=Vec.mM p.need p.eU:=rfl;rw[<-e5]at bi;obtain⟨⟨h4,d1,d2⟩,et⟩:∃D,jT p=D:=⟨_,rfl⟩;rw[et]at bi ba;obtain⟨H,cn⟩:=nZ rl.length;rw[cn]at hg bn b1 bz d7 a9⊢;rw[bn]at bf;have b4:=qZ (aC cn bn);generalize c.aP.length=NN at*;generalize c.aQ.length=NH at*;generalize c.aI=aI at*;generalize c.aK=aK at*;obtain⟨g,p1,m,⟨n0,n1,n2⟩,p6,j,l,o,n⟩:=p;simp only[dW,iD,Vec.V.val]at*;obtain⟨a,ak⟩:=nZ (((w1.alloc (.cells #[.slice A NN ca,.slice B NH J,aI,aK] 26)).alloc (.cells #[.slice F H cf] 28)).alloc (.cells #[g,p1,m,n0,n1,n2,p6,j,l] 42));have dt:Blk a ((w1:Nat)+1+1) 42 #[g,p1,m,n0,n1,n2,p6,j,l]:=by rw[<-ak];have h:=Blk.new ((w1.alloc (.cells #[.slice A NN ca,.slice B NH J,aI,aK] 26)).alloc (.cells #[.slice F H cf] 28)) 42 #[g,p1,m,n0,n1,n2,p6,j,l];simp only[bC]at h;exact h
 have du:Blk a ((w1:Nat)+1) 28 #[.slice F H cf]:=by rw[<-ak];have h:=Blk.new (w1.alloc (.cells #[.slice A NN ca,.slice B NH J,aI,aK] 26)) 28 #[.slice F H cf];simp only[bC]at h;exact Blk.alloc h _
 have xc:Blk a w1 26 #[.slice A NN ca,.slice B NH J,aI,aK]:=by rw[<-ak];exact Blk.alloc (Blk.alloc (Blk.new _ _ _) _) _
 have e0:Below w1 w1 a:=by rw[<-ak];exact kp
 have b:=qZ (aC xc (aC du dt));have bd:=qZ e0;have gv:=qZ ak;have dx:=qZ bi;have f3:=qZ (b1 a xc du dt);have gd:=qZ aj;clear ak xc du dt e0 hm hn bm cu ho he hb ev ex e5 et c0 ad ab aj cy cz co bi cn bn b1;go_enter func84,ntmps84;go_wp2_with fail;rw[gv.out];refine lU (aF a) (.take 0 (.take 1 (.take 2 (.take 4 (.take 5 (.take 6 (.one 3 (.one 7 (.one 8 (.take 9 .done)))))))))) kZ kZ (aF.drew a) ?_;have ch:∀W,aF a W->CV W w1 0 (.slice A NN ca):=λW d=>(Blk.below b.1 d b.1.lt).cell 0;have c1:∀W,aF a W->CV W w1 1 (.slice B NH J):=λW d=>(Blk.below b.1 d b.1.lt).cell 1;have c2:∀W,aF a W->CI W w1 2 aI:=λW d=>(Blk.below b.1 d b.1.lt).cell 2;have c3:∀W,aF a W->CI W w1 3 aK:=λW d=>(Blk.below b.1 d b.1.lt).cell 3;have dj:∀W,aF a W->CV W ((w1:Nat)+1) 0 (.slice F H cf):=λW d=>(Blk.below b.2.1 d b.2.1.lt).cell 0;have g0:∀W,aF a W->CI W ((w1:Nat)+1+1) 0 g:=λW d=>(Blk.below b.2.2 d b.2.2.lt).cell 0;have ck:∀W,aF a W->CI W ((w1:Nat)+1+1) 1 p1:=λW d=>(Blk.below b.2.2 d b.2.2.lt).cell 1;have cl:∀W,aF a W->CI W ((w1:Nat)+1+1) 2 m:=λW d=>(Blk.below b.2.2 d b.2.2.lt).cell 2;have g1:∀W,aF a W->CI W ((w1:Nat)+1+1) 3 n0:=λW d=>(Blk.below b.2.2 d b.2.2.lt).cell 3;have g2:∀W,aF a W->CI W ((w1:Nat)+1+1) 4 n1:=λW d=>(Blk.below b.2.2 d b.2.2.lt).cell 4;have g3:∀W,aF a W->CI W ((w1:Nat)+1+1) 5 n2:=λW d=>(Blk.below b.2.2 d b.2.2.lt).cell 5;have g4:∀W,aF a W->CI W ((w1:Nat)+1+1) 6 p6:=λW d=>(Blk.below b.2.2 d b.2.2.lt).cell 6;have g5:∀W,aF a W->CI W ((w1:Nat)+1+1) 7 j:=λW d=>(Blk.below b.2.2 d b.2.2.lt).cell 7;have g6:∀W,aF a W->CI W ((w1:Nat)+1+1) 8 l:=λW d=>(Blk.below b.2.2 d b.2.2.lt).cell 8;(iterate 6 refine tT ?_);clear ch c1 c2 c3 dj g0 ck cl g1 g2 g3 g4 g5 g6;refine eT ?_;refine tC ?_;refine(a9 _ (aA bd (aF.drew a))).mono ?_;rintro e hu⟨va,rfl,fn,ey⟩;have db:aF a hu:=aA (aF.drew a) ey;refine⟨va,rfl,db,?_⟩;refine eT ?_;refine tC ?_;refine(dx _).mono ?_;rintro e hv⟨rfl,cq⟩;have bp:aF a hv:=aA db cq;refine⟨_,rfl,bp,?_⟩;refine eT ?_;refine tC ?_;refine(ba _ va (aA bd bp) (fn.below cq).sl).mono ?_;rintro e fs⟨rfl,ez⟩;have dc:aF a fs:=aA bp ez;refine⟨_,rfl,dc,?_⟩;(iterate 1 refine tT ?_);refine fZ ?_;have ce:=qZ dc;clear fn ey cq ez db bp dc a9 dx ba;cases q
 .have b8:=qY (R=none) (by have:=bf.out;simpa using this);go_wp2_with fail;go_ret2;rw[b8.out];exact⟨_,rfl,bQ.nil _ _ _ _ _,aA bd ce⟩
 .go_wp2_with fail;have fz:=qY (Below w1 w1 fs) (aA bd ce);have f6:=qZ (f3.on ce);have f9:=qY ((qM c rs ⟨g,p1,m,⟨n0,n1,n2⟩,p6,j,l,o,n⟩ (H+1) []).map (λdB=>iK c rs ⟨g,p1,m,⟨n0,n1,n2⟩,p6,j,l,o,n⟩ dB dB)=R) (by have:=bf.out;simpa using this.symm);have fo:(dK rs []).length<H+1:=by have:=JR rs [];have:=b4.2;omega
  have gw:=qZ fo;clear fo;go_wp2_with fail;go_loopg[9] (H+1) (λck dl wr=>∃(dB:List Int) (f:Nat),f<=ck/\dB.length+f=H+1/\Hid ((dK rs dB).length<f)/\Hid (bQ wr ((w1:Nat)+1+1+1) 3 1 jL dl dB)/\Hid ((qM c rs ⟨g,p1,m,⟨n0,n1,n2⟩,p6,j,l,o,n⟩ f dB).map (λdB=>iK c rs ⟨g,p1,m,⟨n0,n1,n2⟩,p6,j,l,o,n⟩ dB dB)=R)/\Hid (Below w1 w1 wr)/\Hid (CX wr (w1:Nat) ((w1:Nat)+1) ((w1:Nat)+1+1) (.agg #[.slice A NN ca,.slice B NH J,aI,aK]) (.slice F H cf) ⟨g,p1,m,⟨n0,n1,n2⟩,p6,j,l,o,n⟩));case atStart=>exact⟨[],H+1,bI _,sZ,gw,qZ (bQ.nil _ _ _ _ _),f9,fz,f6⟩
  case round=>
   obtain⟨dB,cj,h6,ha,em,ah,b3,d8,ed⟩:=hrel;have h5:0<cj:=Nat.lt_of_le_of_lt (bK _) em;obtain⟨f,rfl⟩:∃f,cj=f+1:=⟨cj-1,oZ⟩;have bv:=qZ (bz _ d8 ed _ dB (bQ.isl ah oZ) oZ);obtain⟨s,de⟩:=nZ ((Top.dR c (dK rs dB) ⟨g,p1,m,⟨n0,n1,n2⟩,p6,j,l,o,n⟩).isSome);rw[de]at bv;have b9:=qZ de;clear de;go_wp2_with fail;refine bv.mono ?_;rintro e dq⟨rfl,bk⟩;have b0:=qZ (aA d8 bk);have b2:=qZ (ed.on bk);have bh:=qZ (ah.below bk);clear bk bv;cases s
   .obtain⟨⟨_,_,_,_,ci,hw⟩,ft,hx⟩:=id b2;cases ci;have dj:CV dq ((w1:Nat)+1) 0 (.slice F H cf):=ft.cell 0;have d6:=qZ (d7 dq b0 _ dB (bQ.isl bh oZ) oZ);clear hw ft hx;go_wp2_with fail;refine d6.mono ?_;rintro e Z⟨hr,L,rfl,a0,bo,M⟩;have hd:L.length<=H:=by
     have v:L.length=(dK rs dB).length:=by rw[<-bo];simp
     have:=JR rs dB;have:=b4.2;omega
    have bg:=qY (Many L) (aso gd (by rw[b4.out.1];exact hd) λr Q=>by rw[bo]at Q;have:=(fT.1 Q).1;rw[<-gj.out]at this;exact this);have fj:=a0.runs oZ;have eh:=qZ fj;obtain⟨fw,c7,rfl,_,_,_⟩:=fj;have bb:=qZ (aA b0 M);have ap:=qZ (b2.on M);have cd:=qZ (bh.below M);have b5:=qZ bo;obtain⟨⟨_,_,_,_,ci,a8⟩,hz,hy⟩:=id ap;cases ci;have ch:CV Z w1 0 (.slice A NN ca):=a8.cell 0;have c1:CV Z w1 1 (.slice B NH J):=a8.cell 1;have c2:CI Z w1 2 aI:=a8.cell 2;have c3:CI Z w1 3 aK:=a8.cell 3;have d0:=qZ (fy Z bb _ L eh);clear a8 hz hy a0 M bo dj d6;go_wp2_with fail;refine d0.mono ?_;rintro e bu⟨ie,rfl,br,O⟩;obtain⟨bt,dg⟩:=nZ (Top.used c (L.map eY));rw[dg]at br;have gm:=qY (Top.used c (dK rs dB)=bt) (by rw[<-b5.out];exact dg);have el:=qZ br.sl;obtain⟨eq,es,rfl,_,_⟩:=id br.sl;obtain⟨ep,fe⟩:=nZ bt.length;rw[fe]at el⊢;have f2:=qZ (aA bb O);have f7:=qZ (ap.on O);have gr:=qZ (cd.below O);have ag:=qZ (eh.below O);obtain⟨al,bs⟩:=nZ (bu.alloc (.cells #[.slice eq ep es] 51));have aw:=aB bs;have fu:=aX bs;have ge:=qZ bs;have eo:=qZ fu;have bc:=qZ aw;have am:=qZ (abY ag bg al bc);clear br O dg fe bs aw fu ch c1 c2 c3 d0;go_wp2_with fail;refine Eq.mp (dA (λz=>Calls prog _ _ z _) ge.out.symm) ?_;refine am.mono ?_;rintro e fr⟨v10,y,rfl,fh,cw,T⟩;have fc:y.length<=1000:=by
     have v:y.length=(Top.order (L.map eY)).length:=by rw[<-cw];simp
     have ai:=(EP (L.map eY)).length_eq;rw[ai]at v;have:=bg.len;simp at v;omega
    have b6:=qZ cw;have gb:=qZ fc;have gf:=qZ (fh.runs oZ);have ao:=qZ (aA bc T);have an:=qZ (aA f2 ao);have cc:=qZ (gr.below ao);have eb:=qZ (f7.on ao);have gg:=qZ (ag.below ao);have dz:=qZ (fx fr an (bu:Nat) (.slice eq ep es) bt v10 y ⟨eb.cfg,Blk.below eo T eo.out.lt⟩ (el.below ao) gf oZ);clear fh cw T fc am;go_wp2_with fail;refine dz.mono ?_;rintro e ht⟨g9,av⟩;have d9:=qZ (aA an av);have gn:=qZ (cc.below av);have f4:=qZ (eb.on av);have gh:=qZ (gg.below av);clear av dz;have ef:=qY ((Top.order (dK rs dB)).find? (λr=>kP c (Top.used c (dK rs dB)) r.p.dN)=(y.find? λx=>kP c bt x.dN).map eY) (by rw[gm.out,<-b5.out];exact aft b6);rcases g9 with⟨rfl,az⟩|⟨k,bl,rfl,az⟩
    .have b8:=qY (R=none) (by have:=b3.out;rw[afF b9.out (by rw[ef.out,az];rfl)]at this;simpa using this.symm);clear az;go_wp2_with fail;go_ret2;rw[b8.out];exact⟨_,rfl,bQ.nil _ _ _ _ _,d9⟩
    .have h9:¬(k:Int)<0:=oZ;have ee:=qY ((qM c rs ⟨g,p1,m,⟨n0,n1,n2⟩,p6,j,l,o,n⟩ f (dB++[y[k].id])).map (λdB=>iK c rs ⟨g,p1,m,⟨n0,n1,n2⟩,p6,j,l,o,n⟩ dB dB)=R) (by have:=b3.out;rwa [akn b9 (r:=eY y[k]) (by rw[ef.out,az];rfl)]at this);have en:=qY ((dK rs (dB++[y[k].id])).length<f) (by
      have ab:eY y[k]∈dK rs dB:=by have v:eY y[k]∈y.map eY:=bL.2 ⟨_,bB bl,rfl⟩;rw[b6.out]at v;rw[<-b5.out];exact(EP _).mem_iff.1 v
      have ai:(dK rs (dB++[y[k].id])).length<(dK rs dB).length:=OP ab;have:=em.out;omega)
     have eg:=qY (∀K:List Run,K.map eY=Top.order (L.map eY)->∃h:k<K.length,K[k].id=y[k].id) (λK h=>by
      have e:K.map eY=y.map eY:=h.trans b6.out.symm;have bm:K.length=y.length:=by simpa using dA List.length e
      refine⟨oZ,?_⟩;have v:(K.map eY)[k]? =(y.map eY)[k]? :=by rw[e]
      rw[fK,fK,aH oZ,aH bl]at v;simp only[Option.map_some,Option.some.injEq]at v;exact dA (λr:Top.R=>r.p.id) v)
     obtain⟨I,ay⟩:=nZ (y[k].id);rw[ay]at ee en eg;have h8:k<=1000:=by have:=gb.out;omega
     have am:=qZ (abY gh bg ht (aJ _ _));clear az ay bl;go_wp2_with fail;refine am.mono ?_;rintro e dp⟨ic,K,rfl,fi,cx,bj⟩;obtain⟨e9,e8⟩:=eg.out K cx;obtain⟨h1,h3,rfl,ff,hf,hc⟩:=fi.runs (by
      have v:K.length=(Top.order (L.map eY)).length:=by rw[<-cx];simp
      have ai:=(EP (L.map eY)).length_eq;have:=bg.len;simp at ai;omega)
     obtain⟨er,fp,rfl,cv,ax⟩:=sQ ff e9;have di:dp.cell? (er,fp+k*14)=some (.int .i64 I):=by have:=(ax dp (aJ _ _)).1;rwa [e8]at this
     obtain⟨gy,eu⟩:=nZ K.length;rw[eu]at e9 hf⊢;have ia:(k:Int)<(gy:Int):=oZ;have f0:=qZ (aA d9 bj);have ec:=qZ (f4.on bj);have go:=qZ (gn.below bj);obtain⟨ig,gz,hl,ew,cp⟩:=alG go (by have:=ec.dW.lt;omega) I oZ;have gp:=qZ ew;have f1:=qY (Below w1 w1 gz) (f0.out.trans (Below.mono cp oZ));have f5:=qZ (ec.upto cp oZ oZ oZ);have fd:(dB++[I]).length+f=H+1:=by simp;omega
     have gc:=qZ fd;clear fi cx bj e8 ff hc ax cv eu ew cp fd am;go_wp2_with(at_builtin;refine dJ rfl (.tmp 43) (.tmp 51) _ _ rfl u9 (.slice dp 1 1) rfl rfl hl ?_);go_roundg f;case measure=>omega
     case rel=>exact⟨dB++[I],f,bI _,gc,en,gp,ee,f1,f5⟩
   .have gl:=qY (R=some (iK c rs ⟨g,p1,m,⟨n0,n1,n2⟩,p6,j,l,o,n⟩ dB dB)) (by have:=b3.out;rw[afG b9.out]at this;exact this.symm);have dw:=qZ (acJ (bQ.isl bh oZ) oZ dq (aJ _ _));go_wp2_with fail;refine dw.mono ?_;rintro e Z⟨hr,rfl,a0,M⟩;obtain⟨fw,c7,rfl,fg⟩:=a0.sl (λ_=>rfl);have gi:=qZ fg;have bb:=qZ (aA b0 M);have ap:=qZ (b2.on M);have cd:=qZ (bh.below M);obtain⟨N,cm⟩:=nZ dB.length;have b7:=qZ cm;rw[cm]at ha⊢;clear fg a0 M cm dw;go_wp2_with fail;go_loopg[9,56] N (λcl dl hq wr=>∃(k:Nat) (u:List Int),hq=.int .i64 k/\k<=N/\N<=cl+k/\u.length<=H+1/\Hid (bQ wr ((w1:Nat)+1+1+1) 3 1 jL dl u)/\Hid (iK c rs ⟨g,p1,m,⟨n0,n1,n2⟩,p6,j,l,o,n⟩ (dB.drop k) u=iK c rs ⟨g,p1,m,⟨n0,n1,n2⟩,p6,j,l,o,n⟩ dB dB)/\Hid (Below Z Z wr));case atStart=>exact⟨0,dB,mZ,oZ,oZ,by rw[b7.out];omega,cd,qZ rfl,qZ (aJ _ _)⟩
    case round=>
     obtain⟨k,u,rfl,bl,h7,cu,ah,ek,aq⟩:=hrel;have ea:=qZ (aA bb aq);by_cases hh:k<N
     .have hj:(k:Int)<(N:Int):=oZ;have ct:k<dB.length:=by rw[b7.out];exact hh
      obtain⟨er,fp,rfl,cv,ax⟩:=vK gi ct;have di:=ax wr aq;have ei:=qY (∀s2,(Top.dR c (dK rs (pG dB[k] u)) ⟨g,p1,m,⟨n0,n1,n2⟩,p6,j,l,o,n⟩).isSome=s2->iK c rs ⟨g,p1,m,⟨n0,n1,n2⟩,p6,j,l,o,n⟩ (dB.drop (k+1)) (if s2=true then pG dB[k] u else u)=iK c rs ⟨g,p1,m,⟨n0,n1,n2⟩,p6,j,l,o,n⟩ dB dB) (λs2 e=>by rw[<-ek.out,dM ct,<-e];rfl);obtain⟨I,ay⟩:=nZ (dB[k]);rw[ay]at di ei;obtain⟨dr,a5⟩:=nZ (wr.alloc (.cells #[I] 3));have cr:=aB a5;have fv:=aX a5;have fl:(dr:Nat)=(wr:Nat)+1:=by rw[<-a5];simp
      have gx:=qZ a5;have au:=qZ (aC fv (aC cr fl));have dv:=qZ (acJ (bQ.isl ah oZ) oZ dr cr);clear ax cv ct ay a5 cr fv fl;go_wp2_with fail;refine Eq.mp (dA (λz=>Calls prog _ _ z _) gx.out.symm) ?_;refine dv.mono ?_;rintro e bu⟨hs,rfl,bq,O⟩;have ds:=Blk.below au.1 O au.1.lt;have fm:hs.ownBlock≠some (wr:Nat):=λe=>by have:=(bq.lt _ e).1;have:=au.2.2;omega
      have dy:=qZ (ahd bq oZ I (wr:Nat) ds.lt (ds.cell 0) fm);have ag:=qZ (aC bq O);clear bq O ds fm dv;go_wp2_with fail;refine dy.mono ?_;rintro e al⟨fq,rfl,dd,fb,hk⟩;have aw:Below dr bu al:=fb.below (Below.size ag.2) (λi hi=>(ag.1.lt i hi).1);have be:=qY (Below wr wr al) (aA au.2.1 (ag.2.trans aw));have bc:=qZ (aA ea be);have f8:=qZ (ap.on (aA aq be));have ib:(pG I u).length<=u.length:=eF _ _;have gt:=qY (bQ al ((w1:Nat)+1+1+1) 3 1 jL fq (pG I u)) (dd.low (by have:=ap.dW.lt;have:=Below.size aq;have:=au.2.2;omega));have bw:=qZ (bz al bc f8 fq (pG I u) (bQ.isl dd oZ) oZ);obtain⟨s2,df⟩:=nZ ((Top.dR c (dK rs (pG I u)) ⟨g,p1,m,⟨n0,n1,n2⟩,p6,j,l,o,n⟩).isSome);have ej:=qZ (ei s2 df);rw[df]at bw;clear dd fb hk aw df dy di;go_wp2_with fail;refine bw.mono ?_;rintro e fr⟨rfl,T⟩;have an:=qZ (aA aq (aA be T));have cc:=qZ (gt.below T);have gu:=qZ (ah.below (aA be T));clear T bw;cases s2
      .have cb:=qY (iK c rs ⟨g,p1,m,⟨n0,n1,n2⟩,p6,j,l,o,n⟩ (dB.drop (k+1)) u=iK c rs ⟨g,p1,m,⟨n0,n1,n2⟩,p6,j,l,o,n⟩ dB dB) (by have:=ej.out;simpa using this);go_wp2_with fail;go_roundg(N-(k+1));case measure=>omega
       case rel=>exact⟨k+1,u,mZ,oZ,oZ,cu,gu,cb,an⟩
      .have cb:=qY (iK c rs ⟨g,p1,m,⟨n0,n1,n2⟩,p6,j,l,o,n⟩ (dB.drop (k+1)) (pG I u)=iK c rs ⟨g,p1,m,⟨n0,n1,n2⟩,p6,j,l,o,n⟩ dB dB) (by have:=ej.out;simpa using this);go_wp2_with fail;go_roundg(N-(k+1));case measure=>omega
       case rel=>exact⟨k+1,pG I u,mZ,oZ,oZ,oZ,cc,cb,an⟩
     .have hj:¬(k:Int)<(N:Int):=oZ;have ga:=qY (R=some u) (by have v:=ek.out;rw[jA (by rw[b7.out];omega)]at v;rw[gl.out,<-v];rfl);go_wp2_with fail;go_ret2;rw[ga.out];exact⟨_,rfl,ah.low oZ,ea⟩
section
variable {P:Program} {ops:Array Oper} {Q:Exit->Act->World->Prop} {S:World->Prop}
theorem uW{i:Nat}{r:PT}{o:Oper}{a a':Act}{w w1:World}(hi:ops[i]? =some o)(e:Region.wanted o (yielded ops a.tmps)=true)(h:(execOp a.eval o).run P w=.ok .skip w1)(b:S w1)(c:a.put o.dst undef=a')(d:tZ P ops Q S r a' w1):NS P ops Q S i r a w:=by subst c;constructor;unfold wpOp;simp only[hi,e,if_true,Oper.wp,h,Oper.upon];exact .inl ⟨b,d.out⟩
end
theorem aqo{c:Cfg.C}{x:Top.Rd}{l:List Int}(b:HV x)(m:(dB x.rs).Nodup)(f:yU c x.rs l):HV (lM x l):=by
 have j:∀id∈l,id∈dB x.rs:=λid i=>by obtain⟨r,a,e,_⟩:=f.of id i;exact bL.2 ⟨r,a,e⟩
 have d:=(wC m l x.ps x.ev f.nodup j).1;have k:=d.length_eq;simp only[aW,Top.gs,bN]at k;have o:=b.sum;have e1:(lM x l).ps=(l.foldl (qI x.rs) (x.ps,x.ev)).1:=rfl;have e2:(lM x l).rs=dK x.rs l:=rfl;have n:(lM x l).ps.length+(lM x l).rs.length<=100:=by rw[e1,e2];omega
 refine⟨λp g=>?_,λr a=>?_,oZ,n⟩
 .rw[e1,e2]at g;exact b.kR p (d.mem_iff.1 g)
 .rw[e2]at a;exact b.rs r (fT.1 a).1
theorem ace:∀(l m:List Int),l.Nodup->(∀x∈l,x∈m)->l.length<=m.length
 |[],m,_,_=>bK _
 |x::t,m,h,b=>by have c:=b x (aZ ..);have a:=fQ.1 h;have f:=ace t (m.erase x) a.2 (λy d=>(List.mem_erase_of_ne (by intro e;subst e;exact a.1 d)).2 (b y (bG _ d)));rw[List.length_erase_of_mem c]at f;have:=List.length_pos_of_mem c;simp only[List.length_cons];omega
theorem NC{c:Cfg.C}{rs:List Top.R}{l:List Int}(a:yU c rs l):l.length<=rs.length:=by
 have d:∀id∈l,id∈dB rs:=λid b=>by obtain⟨r,f,e,_⟩:=a.of id b;exact bL.2 ⟨r,f,e⟩
 have:=ace l _ a.nodup d;simpa[dB]using this
structure qV (rb pb:Nat) (v1 v2 vr:Value) (aI aK aN:Int) (ps:Array Value) (W:World):Prop where
 c0:W.cell? (rb,0)=some v1
 c1:W.cell? (rb,1)=some v2
 c2:W.cell? (rb,2)=some (.int .i64 aI)
 c3:W.cell? (rb,3)=some (.int .i64 aK)
 c4:W.cell? (rb,4)=some (.int .i64 aN)
 c7:W.cell? (rb,7)=some vr
 dW:Blk W pb 44 ps
theorem qV.of{W:World}{b a:Nat}{v1 v2 vp vr e d v10 v11 f:Value}{aI aK aN:Int}{ps:Array Value}(h:Blk W b 91 #[v1,v2,aI,aK,aN,f,vp,vr,e,d,v10,v11])(c:Blk W a 44 ps):qV b a v1 v2 vr aI aK aN ps W:=
 ⟨h.cell 0,h.cell 1,h.cell 2,h.cell 3,h.cell 4,h.cell 7,c⟩
theorem pX.below{d w w1 w':World}{L a:Nat}{v1 v2 c vr b:Value}{s:Top.S}{y:Top.Rd}(e:Below w w w1)(h:pX L d w1 a v1 v2 c vr b s y w'):pX L d w a v1 v2 c vr b s y w':=
 pX.after (aO.bS e) (λi hi=>.inl hi) h
theorem nE.out{e w w':World}{L b:Nat}{v1 v2 d vp vr c:Value}{s:Top.S}{rl:List Run}{x:Top.Rd}(h:nE L e w b v1 v2 d vp vr c s rl x)(a:Below w w w'):pX L e w b v1 v2 d vr c s x w':=
 ⟨_,_,_,_,h.dU a,aO.bS a,λi hi=>.inl hi⟩
theorem QK{c:Cfg.C}{aN:Int}{x y:Top.Rd}{p:Ord.P}(h:Top.aDm c aN x p=some y):Top.look c aN x p=y:=by unfold Top.look;rw[h]
theorem amy{c:Cfg.C}{aN:Int}{x:Top.Rd}{p:Ord.P}(h:Top.aDm c aN x p=none)(a:x.head=true):Top.look c aN x p=x:=by unfold Top.look;rw[h];simp[a]
theorem amz{c:Cfg.C}{aN:Int}{x:Top.Rd}{p:Ord.P}(h:Top.aDm c aN x p=none)(a:x.head=false):Top.look c aN x p=match Top.choose c x.rs p with
  |some dB=>(Top.aDm c aN (lM x dB) p).getD (lM x dB)
  |none=>match Top.start c aN x.rs p with
   |some t=>{x with head:=true,start:=t,ev:=x.ev++[⟨4,p.id,t⟩]}
   |none=>{x with start:=0}:=by
 unfold Top.look;rw[h];show(if x.head=true then x else _)=_;rw[aD (by rw[a];decide)];cases Top.choose c x.rs p with
 |some dB=>rfl
 |none=>cases Top.start c aN x.rs p<;>rfl
theorem apN{T w:World}{L a:Nat}{v1 v2 O vp vr v:Value}{s:Top.S}{rl:List Run}{x:Top.Rd}(h:nE L T w a v1 v2 O vp vr v s rl x)(H:HV x)(dj:x.ev.length<=90000)(ba:FC s.c)(ci:0<=s.aN/\s.aN<=1099511627776)(dk:∀r∈x.rs,Top.Fair r.p)(cg:(Top.dB x.rs).Nodup)(p:Ord.P)(N:GOk p):Calls prog 36 #[.pointer a,.agg (eP p)] w λe w'=>e=.returned (.tuple #[])/\pX L T w a v1 v2 O vr v s (Top.look s.c s.aN x p) w':=by
 obtain⟨ek,bp⟩:=nZ (w.alloc (.cells (eP p) 44));have cb:=aB bp;have dt:Blk ek w 44 (eP p):=by rw[<-bp];exact Blk.new _ _ _
 have a8:=h.dU cb;have aj:=qZ (acT a8 H oZ ba ci p N);have eb:rl.length<=100:=by have:=H.len.2;rw[<-h.map]at this;simpa using this
 have Y:=qY (∀W,Below w w W->Calls prog 84 #[.agg #[v1,v2,s.c.aI,s.c.aK],vr,dW p] W λe w'=>aoo (Top.choose s.c x.rs p) W e w') (λW c=>by have M:=h.dU c;have:=EY (M.cfg.below M.on) (M.rs.runs oZ) ba (H.many h.map) p N.num N.lev W (aJ _ _);rw[h.map]at this;exact this);have I:=qY (∀W,Below w w W->Calls prog 86 #[.agg #[v1,v2,s.c.aI,s.c.aK],s.aN,vr,dW p] W λe w'=>aga (Top.start s.c s.aN x.rs p) W e w') (λW c=>by have M:=h.dU c;have:=alq (M.cfg.below M.on) (M.rs.runs oZ) ba (H.many h.map) s.aN p N.num N.lev W (aJ _ _);rw[h.map]at this;exact this);have be:=qY (Top.dR s.c x.rs p=none->∀dB,Top.choose s.c x.rs p=some dB->yU s.c x.rs dB) (λec dB h=>(Top.choose_spec dk h ec).1);have br:=qY (∀dB,yU s.c x.rs dB->HV (lM x dB)/\(lM x dB).ev.length<=100000/\dB.length<=1000/\∀id∈dB,∃r∈x.rs,r.p.id=id) (λdB ah=>by
  refine⟨aqo H cg ah,?_,?_,λid cd=>?_⟩
  .have ea:∀id∈dB,id∈Top.dB x.rs:=λid cd=>by obtain⟨r,cj,e,_⟩:=ah.of id cd;exact bL.2 ⟨r,cj,e⟩
   have e:=(wC cg dB x.ps x.ev ah.nodup ea).2.2.2;show((dB.foldl (qI x.rs) (x.ps,x.ev)).2).length<=_;rw[e];have:=NC ah;have:=H.len.2;simp;omega
  .have:=NC ah;have:=H.len.2;omega
  .obtain⟨r,cj,e,_⟩:=ah.of id cd;exact⟨r,cj,e⟩)
 have J:=qZ (aC ba (aC ci (aC N dj)));have cz:=qZ h;have dx:=qZ H;have bt:=qZ h.flt;have cx:=qZ cb;have bm:=qZ dt;have dw:=qZ a8;have dd:=qZ bp;obtain⟨R,b8⟩:=nZ (Top.look s.c s.aN x p);have aq:=qZ b8;rw[b8];obtain⟨du,b4⟩:=nZ (Top.aDm s.c s.aN x p);have Z:=qZ b4;rw[b4]at aj;obtain⟨cu,b6⟩:=nZ (Top.choose s.c x.rs p);have al:=qZ b6;rw[b6]at Y;obtain⟨b2,b9⟩:=nZ (Top.start s.c s.aN x.rs p);have b0:=qZ b9;rw[b9]at I;clear h H dj ba ci dk cg N cb dt a8 bp b8 b4 b6 b9 eb;obtain⟨ae,b7⟩:∃ae:Ord.P,p=ae:=⟨_,rfl⟩;have bg:=qZ b7;rw[b7]at Z al b0 aq J be;clear b7;obtain⟨di,dl⟩:=nZ x.head;have an:=qZ dl;clear dl;obtain⟨d,p1,k,⟨n0,n1,n2⟩,p6,g,j,m,l⟩:=p;simp only[eP,dW,iD]at aj Y I bm dd;simp only[eP];go_enter func36,ntmps36;go_wp2_with fail;rw[dd.out];refine aj.mono ?_;rintro e f ai;cases du with
 |some y=>
  obtain⟨rfl,dm⟩:=ai;have bs:=qY (pX L T w a v1 v2 O vr v s R f) (by rw[<-aq.out,QK Z.out];exact pX.below cx dm);clear dm aj Y I;go_wp2_with fail;refine bodyPost_ret (results_none rfl _ _ _) rfl ?_;exact⟨rfl,bs⟩
 |none=>
  obtain⟨rfl,ca⟩:=ai;have aa:=qZ (aA cx ca);have z:=qZ (cz.dU aa);have u:=qZ (bm.below ca bm.out.lt);clear ca aj dw;have c10:f.cell? (a,10)=some (.bool di):=by have:=z.box.cell 10;rw[an.out]at this;exact this
  cases di
  .go_wp2_with fail;clear c10;have ce:=amz Z an;rw[aq.out,al.out,b0.out]at ce;have ad:=qZ ce;clear ce;have cy:=qY (Top.dR s.c x.rs ae=none) (by
    rcases Top.NQ Z with e|e
    .exact e
    .rw[an.out]at e;cases e.1)
   have el:=qZ (qV.of z.box u);have b3:∀W,aF f W->CV W a 0 v1:=λW c=>(z.dU c).box.cell 0;have c1:∀W,aF f W->CV W a 1 v2:=λW c=>(z.dU c).box.cell 1;have c2:∀W,aF f W->CI W a 2 s.c.aI:=λW c=>(z.dU c).box.cell 2;have c3:∀W,aF f W->CI W a 3 s.c.aK:=λW c=>(z.dU c).box.cell 3;have c7:∀W,aF f W->CV W a 7 vr:=λW c=>(z.dU c).box.cell 7;have ar:∀W,aF f W->CI W w 0 d:=u.fa 0;have au:∀W,aF f W->CI W w 1 p1:=u.fa 1;have av:∀W,aF f W->CI W w 2 k:=u.fa 2;have aw:∀W,aF f W->CI W w 3 n0:=u.fa 3;have ax:∀W,aF f W->CI W w 4 n1:=u.fa 4;have ay:∀W,aF f W->CI W w 5 n2:=u.fa 5;have az:∀W,aF f W->CI W w 6 p6:=u.fa 6;have a0:∀W,aF f W->CI W w 7 g:=u.fa 7;have a5:∀W,aF f W->CI W w 8 j:=u.fa 8;refine lU (aF f) (.take 0 (.take 1 (.take 2 (.take 3 (.take 4 (.take 5 (.take 6 (.take 7 (.take 8 (.take 9 (.take 10 (.take 11 (.one 12 (.take 13 (.take 14 (.take 15 (.take 16 (.take 17 .done)))))))))))))))))) kZ kZ (aF.drew f) ?_;(iterate 12 refine tT ?_);clear b3 c1 c2 c3 c7 ar au av aw ax ay az a0 a5;refine eT ?_;refine tC ?_;refine(Y _ (aA aa (aF.drew f))).mono ?_;rintro e cs⟨eh,rfl,dn,df⟩;have bb:aF f cs:=aA (aF.drew f) df;refine⟨_,rfl,bb,?_⟩;obtain⟨ds,cl⟩:=nZ cu.isSome;rw[cl];have da:=qZ cl;have bk:=qZ dn;have ak:=qZ (aA aa bb);have bj:=qZ (z.dU bb);have ab:=qZ (u.below bb u.out.lt);have dy:=qY ((w:Nat)<=f.drew.heap.size) aa.size;clear cl dn df bb Y;(iterate 5 refine tT ?_);refine fZ ?_;go_upto_region 3 with fail;cases cu with
   |some dB=>
    obtain rfl:ds=true:=by rw[<-da.out];rfl
    have dh:=be.out cy dB al;obtain⟨e1,e2,e3,e4⟩:=br.out dB dh;have cv:=qZ (ano (dB:=dB) bj dx (by have:=J.2.2.2;omega) (show ISl cs eh dB from aem bk) e3 (λ_ b a8 a9=>by have:=(bk.out.lt b a8).1;have:=bt.out b a9;have:=dy.out;omega) e4);have bz:=qZ (aC e1 e2);clear dh e1 e2 e3 e4 bk I;go_wp2_with fail;refine cv.mono ?_;rintro e o⟨rfl,eo,ei,eg,em,A,cp,dq⟩;have n:=ab.bD cp (λa9=>by have:=bt.out _ a9;omega);have X:=qZ (acT A bz.1 bz.2 J.1 J.2.1 ae J.2.2.1);rw[<-bg.out]at X;have bh:=qZ (aC A (aC cp dq));obtain⟨ct,b5⟩:=nZ (Top.aDm s.c s.aN (lM x dB) ae);have c0:=qY (R=ct.getD (lM x dB)) (by rw[<-b5];exact ad);rw[bg.out,b5]at X;rw[<-bg.out]at X;simp only[eP]at X;have ar:CI o w 0 d:=n.cell 0;have au:CI o w 1 p1:=n.cell 1;have av:CI o w 2 k:=n.cell 2;have aw:CI o w 3 n0:=n.cell 3;have ax:CI o w 4 n1:=n.cell 4;have ay:CI o w 5 n2:=n.cell 5;have az:CI o w 6 p6:=n.cell 6;have a0:CI o w 7 g:=n.cell 7;have a5:CI o w 8 j:=n.cell 8;have d8:CI o w 9 m:=n.cell 9;have d7:CI o w 10 l:=n.cell 10;clear A cp dq n cv bz ad b5 be br Z al b0 aq;go_wp2_with fail;refine X.mono ?_;rintro e bd ai;clear X ar au av aw ax ay az a0 a5 d8 d7;have bu:=qY (aO (mF a vr v) w o) ((aO.bS ak).trans bh.2.1);have bw:=qY (∀i,mF a ei eg i->mF a vr v i\/(w:Nat)<=i) (λi hi=>by
     rcases bh.out.2.2 i hi with h|h
     .exact .inl h
     .exact .inr (aV ak.size h))
    have bn:(∃b,e=.returned (.bool b))/\pX L T w a v1 v2 O vr v s R bd:=by
     rw[c0.out];cases ct with
     |none=>
      obtain⟨rfl,d9⟩:=ai;exact⟨⟨_,rfl⟩,pX.after bu bw (bh.1.out d9)⟩
     |some y=>
      obtain⟨rfl,ed⟩:=ai;exact⟨⟨_,rfl⟩,pX.after bu bw ed⟩
    obtain⟨⟨b,rfl⟩,bn⟩:=bn;have am:=qZ bn;clear bn ai bu bw bh c0;go_wp2_with fail;refine bodyPost_ret (results_none rfl _ _ _) rfl ?_;exact⟨rfl,am⟩
   |none=>
    obtain rfl:ds=false:=by rw[<-da.out];rfl
    clear bk be br al cy;go_upto_region 6 with fail;have b3:∀W,qV a (w:Nat) v1 v2 vr s.c.aI s.c.aK s.aN #[d,p1,k,n0,n1,n2,p6,g,j,m,l] W->CV W a 0 v1:=λW c=>c.c0;have c1:∀W,qV a (w:Nat) v1 v2 vr s.c.aI s.c.aK s.aN #[d,p1,k,n0,n1,n2,p6,g,j,m,l] W->CV W a 1 v2:=λW c=>c.c1;have c2:∀W,qV a (w:Nat) v1 v2 vr s.c.aI s.c.aK s.aN #[d,p1,k,n0,n1,n2,p6,g,j,m,l] W->CI W a 2 s.c.aI:=λW c=>c.c2;have c3:∀W,qV a (w:Nat) v1 v2 vr s.c.aI s.c.aK s.aN #[d,p1,k,n0,n1,n2,p6,g,j,m,l] W->CI W a 3 s.c.aK:=λW c=>c.c3;have c4:∀W,qV a (w:Nat) v1 v2 vr s.c.aI s.c.aK s.aN #[d,p1,k,n0,n1,n2,p6,g,j,m,l] W->CI W a 4 s.aN:=λW c=>c.c4;have c7:∀W,qV a (w:Nat) v1 v2 vr s.c.aI s.c.aK s.aN #[d,p1,k,n0,n1,n2,p6,g,j,m,l] W->CV W a 7 vr:=λW c=>c.c7;have ar:∀W,qV a (w:Nat) v1 v2 vr s.c.aI s.c.aK s.aN #[d,p1,k,n0,n1,n2,p6,g,j,m,l] W->CI W w 0 d:=λW c=>c.dW.cell 0;have au:∀W,qV a (w:Nat) v1 v2 vr s.c.aI s.c.aK s.aN #[d,p1,k,n0,n1,n2,p6,g,j,m,l] W->CI W w 1 p1:=λW c=>c.dW.cell 1;have av:∀W,qV a (w:Nat) v1 v2 vr s.c.aI s.c.aK s.aN #[d,p1,k,n0,n1,n2,p6,g,j,m,l] W->CI W w 2 k:=λW c=>c.dW.cell 2;have aw:∀W,qV a (w:Nat) v1 v2 vr s.c.aI s.c.aK s.aN #[d,p1,k,n0,n1,n2,p6,g,j,m,l] W->CI W w 3 n0:=λW c=>c.dW.cell 3;have ax:∀W,qV a (w:Nat) v1 v2 vr s.c.aI s.c.aK s.aN #[d,p1,k,n0,n1,n2,p6,g,j,m,l] W->CI W w 4 n1:=λW c=>c.dW.cell 4;have ay:∀W,qV a (w:Nat) v1 v2 vr s.c.aI s.c.aK s.aN #[d,p1,k,n0,n1,n2,p6,g,j,m,l] W->CI W w 5 n2:=λW c=>c.dW.cell 5;have az:∀W,qV a (w:Nat) v1 v2 vr s.c.aI s.c.aK s.aN #[d,p1,k,n0,n1,n2,p6,g,j,m,l] W->CI W w 6 p6:=λW c=>c.dW.cell 6;have a0:∀W,qV a (w:Nat) v1 v2 vr s.c.aI s.c.aK s.aN #[d,p1,k,n0,n1,n2,p6,g,j,m,l] W->CI W w 7 g:=λW c=>c.dW.cell 7;have a5:∀W,qV a (w:Nat) v1 v2 vr s.c.aI s.c.aK s.aN #[d,p1,k,n0,n1,n2,p6,g,j,m,l] W->CI W w 8 j:=λW c=>c.dW.cell 8;have ap:=qZ (aF.drew cs);refine iT (qV a (w:Nat) v1 v2 vr s.c.aI s.c.aK s.aN #[d,p1,k,n0,n1,n2,p6,g,j,m,l]) 26 (.take 0 (.take 1 (.take 2 (.take 3 (.take 4 (.take 5 (.take 6 (.take 7 (.take 8 (.take 9 (.take 10 (.take 11 (.take 12 (.take 13 (.take 14 (.take 15 (.take 16 (.take 17 (.take 18 (.one 19 (.take 20 (.take 21 (.take 22 (.take 23 (.take 24 (.one 25 .done)))))))))))))))))))))))))) kZ kZ (qV.of (bj.dU ap).box (ab.below ap ab.out.lt)) ?_;(iterate 19 refine tT ?_);clear b3 c1 c2 c3 c4 c7 ar au av aw ax ay az a0 a5;refine eT ?_;refine tC ?_;refine(I _ (aA ak ap)).mono ?_;rintro e o⟨rfl,dg⟩;have bi:=qZ (aA ap dg);have A:=bj.dU bi;have n:=ab.below bi ab.out.lt;refine⟨_,rfl,qV.of A.box n,?_⟩;obtain⟨t,cm⟩:=nZ (b2.getD 0);obtain⟨bc,ck⟩:=nZ b2.isSome;rw[cm,ck];have bl:=qZ (aC cm ck);obtain⟨af,cq⟩:=A.axf t;have ch:¬mF a vr v (w:Nat):=λa9=>by have:=bt.out _ a9;omega
    have bo:=n.bD cq ch;have ef:CI o a 11 x.start:=A.box.cell 11;have d6:o.frozen? (a,11)=false:=A.box.frozen 11;have bv:=qZ ((aO.bS (F:=mF a vr v) (aA ak bi)).trans cq);have b1:=qZ (qV.of af.box bo);obtain⟨bd,cn⟩:=nZ (o.setCell (a,11) t);rw[cn]at af bo bv b1;obtain⟨ag,cr⟩:=af.setH bc;have cc:=bo.bD cr ch;have ee:CV bd a 10 (.bool x.head):=af.box.cell 10;have d0:bd.frozen? (a,10)=false:=af.box.frozen 10;have ao:=qZ (bv.out.trans cr);obtain⟨Q,co⟩:=nZ (bd.setCell (a,10) (.bool bc));rw[co]at ag cc ao;have db:=qZ cn;have dc:=qZ co;have K:=qZ ag;have bf:=qZ cc;clear cm ck ch A n af cq bo cn ag cr cc co dg bv I z u bj ab ap bi bm aa ak;(iterate 5 refine tT ?_);refine eT ?_;apply uW;(focus rfl);(focus rfl);(focus(go_simp;first|done|(rw[db.out])|rfl));(focus exact b1);(focus(go_simp;first|done|rfl));refine fZ ?_;show wpList prog _ _ (List.drop 26 _) _ _;simp only[bH,bJ];clear ef d6 db b1;go_upto_region 7 with fail;rw[dc.out];clear ee d0 dc;have c10:CV Q a 10 (.bool bc):=K.box.cell 10;cases b2 with
    |none=>
     obtain rfl:bc=false:=by rw[<-bl.out.2];rfl
     obtain rfl:t=0:=by rw[<-bl.out.1];rfl
     have am:=qY (pX L T w a v1 v2 O vr v s R Q) (by rw[ad.out];have e:x.head=false:=an;have ag:=K.out;rw[<-e]at ag;exact⟨_,_,_,_,ag,ao,λi hi=>.inl hi⟩);clear K ao ad bf;go_wp2_with fail
     go_end0
     exact⟨rfl,am⟩
    |some bq=>
     obtain rfl:bc=true:=by rw[<-bl.out.2];rfl
     obtain rfl:bq=t:=by rw[<-bl.out.1];rfl
     have dv:=qZ (MJ K (show x.ev.length<=1000000 from by have:=J.2.2.2;omega) 4 d bq);go_wp2_with fail;clear c10;have c11:∀W,aF Q W->CI W a 11 bq/\CI W w 0 d:=λW c=>⟨(K.dU c).box.cell 11,(bf.below c bf.out.lt).cell 0⟩;refine iT (aF Q) 8 (.take 0 (.take 1 (.take 2 (.take 3 (.take 4 (.take 5 (.take 6 (.take 7 .done)))))))) kZ kZ (aF.drew Q) ?_;(iterate 8 refine tT ?_);clear c11;have cw:=qZ (MJ (K.dU (aF.drew Q)) (show x.ev.length<=1000000 from by have:=J.2.2.2;omega) 4 d bq);refine fZ ?_;show wpList prog _ _ (List.drop 8 _) _ _;simp only[bH,bJ];go_wp2_with fail;refine cw.mono ?_;rintro e ej⟨rfl,en,de,dp,dr⟩;have am:=qY (pX L T w a v1 v2 O vr v s R ej) (by
      rw[ad.out];have dz:ae.id=d:=by rw[<-bg.out]
      rw[dz];exact pX.after (ao.out.trans (aO.bS (aF.drew Q))) (λi hi=>.inl hi) ⟨_,_,_,_,de,dp,λi hi=>by
       rcases hi with hi|hi|hi
       .exact .inl (.inl hi)
       .exact .inl (.inr (.inl hi))
       .rcases dr i hi with h|h
        .exact .inl (.inr (.inr h))
        .exact .inr h⟩)
     clear de dp dr dv cw K ao ad bf;go_wp2_with fail
     go_end0
     exact⟨rfl,am⟩
  .have bs:=qY (pX L T w a v1 v2 O vr v s R f) (by rw[<-aq.out,amy Z.out an.out];exact cz.out.out aa);clear Y I;go_wp2_with fail;refine bodyPost_ret (results_none rfl _ _ _) rfl ?_;exact⟨rfl,bs⟩
end bU
variable{r:List bM.Run}{k n:Nat}{F:Nat->Prop}{A:Option Addr}{s:Top.S}{X u1 u2 uh v v1 v2 vp:Value}{wr:World}
namespace bU
open Go Go.RowKit L bM eZ Srt
theorem apM{aN:Int}{x:Top.Rd}(u:HV x)(i:∀r∈x.rs,Top.Fair r.p)(n:(dB x.rs).Nodup):(Top.look c aN x p).ev.length<=x.ev.length+101:=by
 have j:=qF (c:=c) (aN:=aN) (p:=p) i;generalize Top.look c aN x p=y at j;cases j with
 |run fl s b a=>simp
 |wait b a=>simp
 |give l fl s b a d g=>
  have f:=(Top.choose_spec i d a).1;have m:∀id∈l,id∈dB x.rs:=λid k=>by obtain⟨r,o,e,_⟩:=f.of id k;exact bL.2 ⟨r,o,e⟩
  have e:=(wC n l x.ps x.ev f.nodup m).2.2.2;have e2:(lM x l).ev=x.ev++l.map (λid=>⟨2,id,0⟩):=e;have v:=NC f;have w:=u.len.2;show((lM x l).ev++[_]).length<=_;rw[e2];simp;omega
 |first t b a d g=>simp
 |none b a d g=>simp
def aon(s:Top.S)(r:Top.S×List Top.E)(w1:World)(e:Ending)(w':World):Prop:=∃v1 v2 vp vr vh ve rl,e=.returned (.tuple #[stv v1 v2 vp vr vh r.1,ve])/\StR w' v1 v2 vp vr vh r.1 rl/\bQ w' w1 49 3 oQ ve r.2/\Below w1 w1 w'/\∀z,z<=(w1:Nat)->rV z v1 v2 vp vr vh r.1 rl
structure ava (rb:Nat) (cs:Array Value) (W:World):Prop where
 box:Blk W rb 91 cs
theorem atN{n m:World}{i:Value}(h:OwnAt n m w v1 v2 vp vr i s rl):nE (n:Nat) m (w.alloc (.cells #[v1,v2,s.c.aI,s.c.aK,s.aN,s.next,vp,vr,i,true,.bool false,()] 91)) (w:Nat) v1 v2 i vp vr (.slice none 0 0) s rl ⟨s.ps,s.rs,[],false,0⟩:=by
 have j:Below w w (w.alloc (.cells #[v1,v2,s.c.aI,s.c.aK,s.aN,s.next,vp,vr,i,true,.bool false,()] 91)):=bZ;have l:=aA h.on j;have p:=h.on.size;have k:=h.rs.1.lt;refine⟨l,h.cfg,Blk.new _ _ _,p,rO h.ps l,h.rs.below j,h.map,bQ.nil _ _ _ _ _,λe=>?_,λe=>(by cases e),λb _ e=>(by cases e),λf b e a=>?_,λy g f b e a=>?_,h.low,λ_ b e=>h.fp b e,λy g f b e=>aV h.low (h.fresh y g f b e)⟩
 .have:=(k _ e).2;omega
 .obtain⟨c,d,o⟩:=YU h.ps f;rw[e]at d;injection d with d;rcases a with a|a|a
  .omega
  .have:=(k _ a).1;omega
  .cases a
 .obtain⟨c,d,o⟩:=DK (h.rs.2 y g).1 f;rw[e]at d;injection d with d;rcases a with a|a|a
  .omega
  .exact(h.rs.2 y g).2 f b a e
  .cases a
theorem agD(c:Cfg.C)(aN:Int)(x:Top.Rd)(l:List Ord.P)(h:l[k]? =some p):Top.rounds c aN x (l.take (k+1))=Top.look c aN (Top.rounds c aN x (l.take k)) p:=by have b:=(bE.1 h).1;have a:=(bE.1 h).2;unfold Top.rounds;rw[bF b,fB,a];rfl
structure SX (L:Nat) (wm ws wr:World) (rb:Nat) (v1 v2 vh vr0 ve0:Value) (s:Top.S) (x0:Top.Rd) (row:List Ord.P) (k:Nat) (vpk vrk vek:Value) (rlk:List Run) (x:Top.Rd):Prop where
 rd:nE L wm wr rb v1 v2 vh vpk vrk vek s rlk x
 eq:x=Top.rounds s.c s.aN x0 (row.take k)
 mid:Top.Mid s x (row.drop k)
 lies:tV s.c x.rs
 evs:x.ev.length<=101*k
 bD:aO (mF rb vr0 ve0) ws wr
 grown:∀i,mF rb vrk vek i->mF rb vr0 ve0 i\/(ws:Nat)<=i
theorem SX.next{A:World}{L l:Nat}{u Z H F:Value}{x0 x:Top.Rd}{row:List Ord.P}(h:SX L A w wr l v1 v2 u v X s x0 row k Z H F r x)(d:Top.Good n s)(T:n<=1000)(j:row[k]? =some p)(W:pX L A wr l v1 v2 u H F s (Top.look s.c s.aN x p) w'):∃y z o m xn,SX L A w w' l v1 v2 u v X s x0 row (k+1) y z o m xn:=by
 obtain⟨y,z,o,m,I,b,J⟩:=W;have Q:=(bE.1 j).1;have N:=(bE.1 j).2;have M:row.drop k=p::row.drop (k+1):=by rw[<-N];exact dM Q
 have a:=h.mid;rw[M]at a;have f:=d.sane;have Y:=aeP d T a h.lies;have K:Cfg.ok s.c=true:=by
  rcases d.cfg with e|e
  .have:=(d.none e).1;have b:=(a.left p (aZ ..)).2;rw[this]at b;cases b
  .exact e
 refine⟨y,z,o,m,_,I,?_,a.step f,acj K f a h.lies,?_,h.bD.trans' b λi hi O=>?_,λi hi=>?_⟩
 .rw[h.eq];exact(agD s.c s.aN x0 row j).symm
 .have:=apM (c:=s.c) (aN:=s.aN) (p:=p) Y (a.rG f) (a.dB f).2.1;have:=h.evs;omega
 .rcases h.grown i O with h|h
  .exact h
  .omega
 .rcases J i hi with g|g
  .exact h.grown i g
  .exact .inr (aV h.bD.size g)
theorem aaJ{α:Type}{c:Nat}{dec:α->List Value}{xs:List α}(h:gQ w A k dec xs)(a:aO F w w')(f:∀b,(Value.slice A n c).ownBlock=some b->¬F b):gQ w' A k dec xs:=λl=>by obtain⟨g,o,rfl,d,e⟩:=h l;exact⟨g,o,rfl,aM d a.size,λi x r j u m=>(a.cell (p:=⟨g,o+i*k+j,none⟩) d (f g rfl)).trans (e i x r j u m)⟩
theorem asV(h:bX w (.agg #[v1,v2,c.aI,c.aK]) c)(a:aO F w w')(f:∀b,v1.ownBlock=some b->¬F b)(g:∀b,v2.ownBlock=some b->¬F b):bX w' (.agg #[v1,v2,c.aI,c.aK]) c:=by obtain⟨u1,u2,e,⟨A,ca,rfl,k,i⟩,⟨B,d,rfl,l,j⟩⟩:=h;simp only[Value.agg.injEq,eO,cB,and_true]at e;obtain⟨rfl,rfl⟩:=e;exact⟨_,_,rfl,⟨A,ca,rfl,aaJ k a f,i⟩,⟨B,d,rfl,aaJ l a g,j⟩⟩
theorem asE{l:List Nat}(h:FSl w v l)(c:aO F w w')(a:∀b,v.ownBlock=some b->¬F b):FSl w' v l:=by obtain⟨A,cap,rfl,e,d,f⟩:=h;exact⟨A,cap,rfl,aaJ e c a,d,f⟩
theorem afC{up:Value}(h:StR w u1 u2 up X uh s r)(bo:Top.Good n s)(aa:n<=1000):∀w1,Below w w w1->Calls prog 13 #[stv u1 u2 up X uh s] w1 λe w'=>aon s (Top.run s) w1 e w':=by
 intro w1 cg;replace h:=h.below cg;have ok:=BP bo aa;obtain⟨Y,ao⟩:=nZ ((w1.alloc (.cells #[u1,u2,s.c.aI,s.c.aK,s.aN,s.next,up,X,uh] 31)).alloc (.cells #[true,true,(),(),(),(),true,true,true] 31));have bk:Below w1 w1 Y:=by rw[<-ao];have d8:(w1.alloc (.cells #[u1,u2,s.c.aI,s.c.aK,s.aN,s.next,up,X,uh] 31)).heap.size=(w1:Nat)+1:=sZ;exact kp
 have ba:(Y:Nat)=(w1:Nat)+1+1:=by rw[<-ao];simp
 have db:Blk Y w1 31 #[u1,u2,s.c.aI,s.c.aK,s.aN,s.next,up,X,uh]:=by rw[<-ao];exact Blk.alloc (Blk.new _ _ _) _
 have dc:Blk Y ((w1:Nat)+1) 31 #[true,true,(),(),(),(),true,true,true]:=by rw[<-ao];have h:=Blk.new (w1.alloc (.cells #[u1,u2,s.c.aI,s.c.aK,s.aN,s.next,up,X,uh] 31)) 31 #[true,true,(),(),(),(),true,true,true];simp only[bC]at h;exact h
 have be:=qZ (aqx h ok Y bk);have aw:=qZ (λW (bj:Below w1 w1 W)=>alZ (h.below bj) ok);have b5:=qZ ok;have ab:=qZ (aC bo aa);have bv:=qZ bk;have cb:=qZ db;have cc:=qZ dc;have cd:=qZ ba;have dl:=qZ ao;obtain⟨Z,aq⟩:=nZ (Top.row s);have dj:=qZ aq;rw[aq]at aw;obtain⟨N,bi⟩:=nZ Z.length;have bg:=qZ bi;have ed:N<=32:=by rw[<-bi,<-aq,(uU s).length_eq];have:=ok.len;omega
 have b8:=qY (∀y,y=Top.rounds s.c s.aN ⟨s.ps,s.rs,[],false,0⟩ Z->Top.run s=({s with ps:=y.ps,rs:=y.rs},y.ev)) (λy e=>by rw[e,<-aq];rfl);obtain⟨dn,ce⟩:=nZ (Top.run s);rw[ce]at b8⊢;clear h cg ok bo aa bk db dc ba ao aq bi ce;simp only[stv]at be aw⊢;go_enter func13,ntmps13;go_wp2_with fail;rw[dl.out];refine be.mono ?_;rintro e da⟨v1,v2,vp,vr,av,rl,bc,rfl,ae⟩;have ap:=qZ (atN ae);have am:=qZ (aC ae.f1 (aC ae.f2 ae.fh));have bf:=qY ((w1:Nat)+1<(bc:Nat)) (by have:=ae.low;have:=cd.out;omega);have b4:=qZ ae.h;obtain⟨c0,a8⟩:=nZ (da.alloc (.cells #[v1,v2,s.c.aI,s.c.aK,s.aN,s.next,vp,vr,av,true,.bool false,()] 91));rw[a8]at ap;have bl:Below Y Y c0:=ae.old.trans (Below.mono (by rw[<-a8];exact bZ) ae.old.size);have bw:=qZ bl;have bu:=qZ (aw c0 (aA bv bl));have ca:=qZ a8;obtain⟨f,bq⟩:=nZ (da:Nat);rw[bq]at ap;have b7:=qZ bq;clear be aw ae a8 bl bq;simp only[stv];obtain⟨dp,b1,b2,b3,dq,dr,ds,dt,du⟩:=(cb.below bw cb.out.lt).c9;go_upto_region 2 with fail;rw[ca.out,b7.out];clear ca b7;go_wp2_with fail;refine bu.mono ?_;rintro e al⟨vs,rfl,⟨bt,cs,rfl,cp⟩,cn,az⟩;have bh:=qZ (ap.dU az);have dk:=qZ cp;have b0:=qY (Z≠[]->∀b,(Value.slice bt Z.length cs).ownBlock=some b->¬mF f vr (.slice none 0 0) b) (λak b a bn=>by have aj:=cn ak b a;have an:=ap.flt b bn;omega);have ck:Below Y Y al:=aA bw az;have bz:=qZ ck;rw[bg.out]at b0⊢;clear cp cn az ck bu dp b1 b2 b3 dq dr ds dt du ap;have dd:=qY (SX (Y:Nat) bc al al f v1 v2 av vr (.slice none 0 0) s ⟨s.ps,s.rs,[],false,0⟩ Z 0 vp vr (.slice none 0 0) rl ⟨s.ps,s.rs,[],false,0⟩) (⟨bh,rfl,by rw[<-dj.out];exact Top.Mid.start ab.1.sane,ab.1.lies,bI _,aO.refl _ _,λi hi=>.inl hi⟩);go_wp2_with fail;go_loopg[14] N (λdw d9 wr=>∃(k:Nat) (cw cy cu:Value) (bb:List Run) (x:Top.Rd),d9=.int .i64 k/\k<=N/\N<=dw+k/\Hid (SX (Y:Nat) bc al wr f v1 v2 av vr (.slice none 0 0) s ⟨s.ps,s.rs,[],false,0⟩ Z k cw cy cu bb x));case atStart=>exact⟨0,_,_,_,_,_,mZ,oZ,oZ,dd⟩
 case round=>
  obtain⟨k,cw,cy,cu,bb,x,rfl,ef,ee,g⟩:=hrel;by_cases dy:k<N
  .have dz:(k:Int)<(N:Int):=oZ;have ar:k<Z.length:=by rw[bg.out];exact dy
   have ak:Z≠[]:=λe=>by rw[e]at ar;simp at ar
   obtain⟨p,a5⟩:∃p,Z[k]? =some p:=⟨_,aH ar⟩;have b6:=qZ a5;obtain⟨ax,os,rfl,az,m⟩:∃ax os,bt=some ⟨ax,os,none⟩/\ax<(wr:Nat)/\∀j u,(eP p)[j]? =some u->wr.cell? ⟨ax,os+k*11+j,none⟩=some u:=by obtain⟨b,o,e,co,a0⟩:=dk.out ak;refine⟨b,o,e,aM co g.bD.size,λj u d7=>?_⟩;have d0:¬mF f vr (.slice none 0 0) b:=b0 ak b (by rw[e];rfl);exact(g.bD.cell (p:=⟨b,o+k*11+j,none⟩) co d0).trans (a0 k p a5 j u (by simpa[gK]using d7))
   obtain⟨ea,br⟩:=nZ (wr.alloc (.cells (eP p) 44));have bm:=aB br;have au:Top.Mid s x (p::Z.drop (k+1)):=by have:=g.mid;rwa [dM ar,(bE.1 a5).2]at this
   have bp:=aeP ab.1 ab.2 au g.lies;have bd:=qY (Calls prog 36 #[.pointer f,.agg (eP p)] ea λe w'=>e=.returned (.tuple #[])/\∃cx cz cv ct xn,SX (Y:Nat) bc al w' f v1 v2 av vr (.slice none 0 0) s ⟨s.ps,s.rs,[],false,0⟩ Z (k+1) cx cz cv ct xn) (by refine(apN (g.rd.dU bm) bp (by have:=g.evs;omega) b5.mild b5.aN (au.rG ab.1.sane) (au.dB ab.1.sane).2.1 p (bp.kR p (cO _ (au.left p (aZ ..)).1))).mono ?_;rintro e w'⟨rfl,d6⟩;exact⟨rfl,g.next ab.1 ab.2 b6 (pX.below bm d6)⟩);have b9:=qZ br;obtain⟨eg,p1,el,⟨n0,n1,n2⟩,p6,ei,ej,ek,eh⟩:=p;simp only[eP]at m bd b9;obtain⟨ay,c1,c2,c3,c4,c5,c6,c7,c8,c9,c10⟩:=aC (m 0 _ rfl) (aC (m 1 _ rfl) (aC (m 2 _ rfl) (aC (m 3 _ rfl) (aC (m 4 _ rfl) (aC (m 5 _ rfl) (aC (m 6 _ rfl) (aC (m 7 _ rfl) (aC (m 8 _ rfl) (aC (m 9 _ rfl) (m 10 _ rfl))))))))));rw[Nat.add_zero]at ay;clear m ar ak a5 br bm au bp g b6;go_wp2_with fail;refine Eq.mp (dA (λz=>Calls prog _ _ z _) b9.out.symm) ?_;clear ay c1 c2 c3 c4 c5 c6 c7 c8 c9 c10;refine bd.mono ?_;rintro e em⟨rfl,cx,cz,cv,ct,xn,a0⟩;have dg:=qZ a0;clear a0 bd;go_wp2_with fail;go_roundg(N-(k+1));case measure=>omega
   case rel=>exact⟨k+1,_,_,_,_,_,mZ,oZ,oZ,dg⟩
  .have dz:¬(k:Int)<(N:Int):=oZ;obtain rfl:k=N:=by omega
   have di:=qZ (b8 x (by have:=g.eq;rwa [aT (by rw[bg.out];exact bI _)]at this));obtain⟨F,n1,c1,rfl⟩:=bX.s1 g.rd.cfg;obtain⟨H,n2,c2,rfl⟩:=bX.s2 g.rd.cfg;obtain⟨I,O,c3,rfl⟩:∃A n c,av=.slice A n c:=by obtain⟨A,c,e,_⟩:=b4.out;exact⟨_,_,_,e⟩
   have cr:Blk wr ((w1:Nat)+1) 31 #[true,true,(),(),(),(),true,true,true]:=by refine Blk.bD (cc.below bz cc.out.lt) g.bD (λbn=>?_);have aj:=bh.foot _ bn;have an:=bf.out;omega
   have d:=g.rd;obtain⟨Ap,Q,K,rfl⟩:=pS d.ps;obtain⟨J,T,L,rfl⟩:=iO d.rs.1;obtain⟨ah,ne,ai,rfl⟩:=iO d.ev;have ch:=d.box.drew;have M:=cr;have ak:f≠(w1:Nat)+1:=by have:=d.low;have:=bf.out;omega
   obtain⟨l,a9⟩:=nZ (World.drew ((((((((((wr.setCell ((w1:Nat)+1,0) ((.slice F n1 c1))).setCell ((w1:Nat)+1,1) ((.slice H n2 c2))).setCell ((w1:Nat)+1,2) s.c.aI).setCell ((w1:Nat)+1,3) s.c.aK).setCell ((w1:Nat)+1,4) s.aN).setCell ((w1:Nat)+1,5) s.next).setCell ((w1:Nat)+1,6) (.slice Ap Q K)).setCell ((w1:Nat)+1,7) (.slice J T L)).setCell ((w1:Nat)+1,8) ((.slice I O c3)))));have ag:aO (λi=>i=(w1:Nat)+1) wr l:=by rw[<-a9];have af:∀(W:World) (j:Nat) (u:Value),aO (λi=>i=(w1:Nat)+1) wr W->aO (λi=>i=(w1:Nat)+1) wr (W.setCell ((w1:Nat)+1,j) u):=λW j u h=>h.setCell (p:=⟨(w1:Nat)+1,j,none⟩) (.inl rfl) u;exact(af _ _ _ (af _ _ _ (af _ _ _ (af _ _ _ (af _ _ _ (af _ _ _ (af _ _ _ (af _ _ _ (af _ _ _ (aO.refl _ _)))))))))).drew
   have ci:Blk l f 91 #[(.slice F n1 c1),(.slice H n2 c2),s.c.aI,s.c.aK,s.aN,s.next,.slice Ap Q K,.slice J T L,(.slice I O c3),.slice ah ne ai,.bool x.head,x.start]:=d.box.bD ag ak;have df:=qZ ci;have de:=qZ ch;have dx:=d.lw;have ba:=cd.out;have cl:bQ l w1 49 3 oQ (.slice ah ne ai) x.ev:=(d.ev.bD λb a=>ag.block b (d.ev.lt b a).2 λe=>by have:=(d.ev.lt b a).1;omega).low oZ;have cq:StR l (.slice F n1 c1) (.slice H n2 c2) (.slice Ap Q K) (.slice J T L) (.slice I O c3) {s with ps:=x.ps,rs:=x.rs} bb:=
    ⟨asV (d.cfg.below d.on) ag (λb a e=>by have:=am.1 b a;omega) λb a e=>by have:=am.2.1 b a;omega,BM d.ps ag λaa b a e=>by have:=d.lp aa b a;omega,(oM d.rs ag (λb a e=>by have:=(d.rs.1.lt b a).1;omega) λy bs aa b a e=>by have:=d.lh y bs aa b a;omega).runs (by have aj:=d.map;have an:=(aeP ab.1 ab.2 g.mid g.lies).len.2;rw[<-aj,bN]at an;omega),d.map,asE (b4.below d.on) ag λb a e=>by have:=am.2.2 b a;omega⟩
   have cm:∀z,z<=(w1:Nat)->rV z (.slice F n1 c1) (.slice H n2 c2) (.slice Ap Q K) (.slice J T L) (.slice I O c3) {s with ps:=x.ps,rs:=x.rs} bb:=λz d8=>
    ⟨λ_ b a=>by have:=am.1 b a;omega,λ_ b a=>by have:=am.2.1 b a;omega,λaa b a=>by have:=d.lp aa b a;omega,λ_ b a=>by have:=(d.rs.1.lt b a).1;omega,λy bs aa b a=>by have:=d.lh y bs aa b a;omega,λ_ b a=>by have:=am.2.2 b a;omega⟩
   have cj:Below w1 w1 l:=by have aj:Below w1 w1 al:=aA bv bz;have an:Below w1 al wr:=g.bD.below aj.size (λi hi=>by have:=bh.foot i hi;have:=bf.out;omega);exact(aj.trans an).trans (ag.below (aj.trans an).size λi hi=>oZ)
   have dh:=qY (aon s dn w1 (.returned (.tuple #[.agg #[(.slice F n1 c1),(.slice H n2 c2),s.c.aI,s.c.aK,s.aN,s.next,.slice Ap Q K,.slice J T L,(.slice I O c3)],.slice ah ne ai])) l) (by rw[di.out];exact⟨_,_,_,_,_,_,_,rfl,cq,cl,cj,cm⟩);have eb:CV wr ((w1:Nat)+1) 0 (.slice none 0 0)/\CV wr ((w1:Nat)+1) 1 (.slice none 0 0)/\CI wr ((w1:Nat)+1) 2 0/\CI wr ((w1:Nat)+1) 3 0/\CI wr ((w1:Nat)+1) 4 0/\CI wr ((w1:Nat)+1) 5 0/\CV wr ((w1:Nat)+1) 6 (.slice none 0 0)/\CV wr ((w1:Nat)+1) 7 (.slice none 0 0)/\CV wr ((w1:Nat)+1) 8 (.slice none 0 0):=
    ⟨M.cell 0,M.cell 1,M.cell 2,M.cell 3,M.cell 4,M.cell 5,M.cell 6,M.cell 7,M.cell 8⟩
   have ec:∀n,wr.frozen? ⟨(w1:Nat)+1,n,none⟩=false:=λn=>M.frozen n;have dm:=qZ a9;have ad:=qY (Blk l ((w1:Nat)+1) 31 #[.slice F n1 c1,.slice H n2 c2,s.c.aI,s.c.aK,s.aN,s.next,.slice Ap Q K,.slice J T L,.slice I O c3]) (by rw[<-a9];have h:=Blk.bV (Blk.bV (Blk.bV (Blk.bV (Blk.bV (Blk.bV (Blk.bV (Blk.bV (Blk.bV M 0 (.slice F n1 c1)) 1 (.slice H n2 c2)) 2 s.c.aI) 3 s.c.aK) 4 s.aN) 5 s.next) 6 (.slice Ap Q K)) 7 (.slice J T L)) 8 (.slice I O c3);exact Blk.drew (by simpa using h));clear cr ch M a9 ag ci cl cq cj cm d dx ba g;go_wp2_with fail;have ay:∀W,ava f (#[(.slice F n1 c1),(.slice H n2 c2),.int .i64 s.c.aI,.int .i64 s.c.aK,.int .i64 s.aN,.int .i64 s.next,.slice Ap Q K,.slice J T L,(.slice I O c3),.slice ah ne ai,.bool x.head,.int .i64 x.start]) W->CV W f 0 (.slice F n1 c1)/\CV W f 1 (.slice H n2 c2)/\CI W f 2 s.c.aI/\CI W f 3 s.c.aK/\CI W f 4 s.aN/\CI W f 5 s.next/\CV W f 6 (.slice Ap Q K)/\CV W f 7 (.slice J T L)/\CV W f 8 (.slice I O c3)/\CV W f 9 (.slice ah ne ai):=λW bj=>have x:=bj.box;⟨x.cell 0,x.cell 1,x.cell 2,x.cell 3,x.cell 4,x.cell 5,x.cell 6,x.cell 7,x.cell 8,x.cell 9⟩;refine iT (ava f (#[(.slice F n1 c1),(.slice H n2 c2),.int .i64 s.c.aI,.int .i64 s.c.aK,.int .i64 s.aN,.int .i64 s.next,.slice Ap Q K,.slice J T L,(.slice I O c3),.slice ah ne ai,.bool x.head,.int .i64 x.start])) 9 (.take 0 (.take 1 (.take 2 (.take 3 (.take 4 (.take 5 (.take 6 (.take 7 (.one 8 .done))))))))) kZ kZ ⟨de⟩ ?_;(iterate 8 refine tT ?_);clear ay;refine eT ?_;apply uW;(focus rfl);(focus rfl);(focus(go_simp;first|done|(rw[dm.out])|rfl));(focus exact⟨df⟩);(focus(go_simp;first|done|rfl));refine fZ ?_;show wpList prog _ _ (List.drop 9 _) _ _;simp only[bH,bJ];have dv:CV l ((w1:Nat)+1) 0 (.slice F n1 c1)/\CV l ((w1:Nat)+1) 1 (.slice H n2 c2)/\CI l ((w1:Nat)+1) 2 s.c.aI/\CI l ((w1:Nat)+1) 3 s.c.aK/\CI l ((w1:Nat)+1) 4 s.aN/\CI l ((w1:Nat)+1) 5 s.next/\CV l ((w1:Nat)+1) 6 (.slice Ap Q K)/\CV l ((w1:Nat)+1) 7 (.slice J T L)/\CV l ((w1:Nat)+1) 8 (.slice I O c3):=
    ⟨ad.cell 0,ad.cell 1,ad.cell 2,ad.cell 3,ad.cell 4,ad.cell 5,ad.cell 6,ad.cell 7,ad.cell 8⟩
   go_wp2_with fail;refine bodyPost_ret (v:=.tuple #[.agg #[(.slice F n1 c1),(.slice H n2 c2),s.c.aI,s.c.aK,s.aN,s.next,.slice Ap Q K,.slice J T L,(.slice I O c3)],.slice ah ne ai]) (by simp[results,Tryz.results13,go_sem,dv]) rfl ?_;exact dh
structure EB (z:Nat) (wm w:World) (sb:Nat) (v1 v2 vp vr vh:Value) (s:Top.S) (rl:List Run):Prop where
 on:Below wm wm w
 cfg:bX wm (.agg #[v1,v2,s.c.aI,s.c.aK]) s.c
 box:Blk w sb 31 #[v1,v2,s.c.aI,s.c.aK,s.aN,s.next,vp,vr,vh]
 low:(wm:Nat)<=sb
 ps:PSl wm vp s.ps
 rs:kU w (wm:Nat) vr rl
 map:rl.map eY=s.rs
 h:FSl wm vh s.h
 nr:vr.ownBlock≠some sb
 fh:∀y∈rl,y.aQ≠[]->∀b,y.hv.ownBlock=some b->(wm:Nat)<=b/\b≠sb
 zlt:z<=(wm:Nat)
 far:rV z v1 v2 vp vr vh s rl
def vE(z:Nat)(wm:World)(sb:Nat)(s':Top.S)(err:Int)(w':World):Prop:=Below wm wm w'/\(err=0->∃v1 v2 vp vr vh rl,Blk w' sb 31 #[v1,v2,s'.c.aI,s'.c.aK,s'.aN,s'.next,vp,vr,vh]/\StR w' v1 v2 vp vr vh s' rl/\rV z v1 v2 vp vr vh s' rl)
section
variable {z:Nat} {wm w w':World} {sb:Nat} {v1 v2 vp vr vh:Value} {s:Top.S} {rl:List Run}
theorem EB.dU(h:EB z wm w sb v1 v2 vp vr vh s rl)(a:Below w w w'):EB z wm w' sb v1 v2 vp vr vh s rl:=
 ⟨aA h.on a,h.cfg,h.box.below a h.box.lt,h.low,h.ps,h.rs.below a,h.map,h.h,h.nr,h.fh,h.zlt,h.far⟩
theorem EB.str(h:EB z wm w sb v1 v2 vp vr vh s rl)(a:rl.length<=1000000):StR w v1 v2 vp vr vh s rl:=
 ⟨h.cfg.below h.on,rO h.ps h.on,h.rs.runs a,h.map,h.h.below h.on⟩
theorem amm{j wm a:World}(h:OwnAt j wm a v1 v2 vp vr vh s rl)(k:z<=(j:Nat)):EB z wm (a.alloc (.cells #[v1,v2,s.c.aI,s.c.aK,s.aN,s.next,vp,vr,vh] 31)) (a:Nat) v1 v2 vp vr vh s rl:=by
 have i:Below a a (a.alloc (.cells #[v1,v2,s.c.aI,s.c.aK,s.aN,s.next,vp,vr,vh] 31)):=bZ;refine⟨aA h.on i,h.cfg,Blk.new _ _ _,h.on.size,h.ps,h.rs.below i,h.map,h.h,λe=>?_,λy f d b e=>⟨h.fresh y f d b e,λe2=>?_⟩,aV k h.low,⟨λ_ b e=>by have:=h.f1 b e;omega,λ_ b e=>by have:=h.f2 b e;omega,λ_ b e=>by have:=h.fp b e;omega,λ_ b e=>by have:=(h.rs.1.lt b e).1;have:=h.low;omega,λy f d b e=>by have:=h.fresh y f d b e;have:=h.low;omega,λ_ b e=>by have:=h.fh b e;omega⟩⟩
 .have:=(h.rs.1.lt _ e).2;omega
 .obtain⟨c,g,l⟩:=DK (h.rs.2 y f).1 d;rw[e]at g;injection g with g;omega
end
theorem aeh{w:World}{u1 u2 u3 u4 u5 u6 up vr uh:Value}{rl:List Run}(o:Runs w vr rl)(n:rl.length<=1000000)(id:Int):∀w1,Below w w w1->Calls prog 106 #[.agg #[u1,u2,u3,u4,u5,u6,up,vr,uh],id] w1 λe w'=>aoi (λx=>x.id==id) rl w1 e w':=by
 intro w1 j;obtain⟨d,a⟩:=nZ ((w1.alloc (.cells #[u1,u2,u3,u4,u5,u6,up,vr,uh] 31)).alloc (.cells #[id] 3));have c:Below w1 w1 d:=by rw[<-a];have z:(w1.alloc (.cells #[u1,u2,u3,u4,u5,u6,up,vr,uh] 31)).heap.size=(w1:Nat)+1:=sZ;exact kp
 have b:Blk d ((w1:Nat)+1) 3 #[id]:=by rw[<-a];have h:=Blk.new (w1.alloc (.cells #[u1,u2,u3,u4,u5,u6,up,vr,uh] 31)) 3 #[id];simp only[bC]at h;exact h
 have f:=qZ (YR (o.below (aA j c)) n 161 ((w1:Nat)+1) (λy=>y.id==id) (λ_ _=>kZ) (λy W v i=>agB y id ((w1:Nat)+1) W v (aM b.lt i.size) ((b.below i b.lt).cell 0)) d (aJ _ _));have p:=qZ c;have s:=qZ a;obtain⟨A,cap,rfl,_⟩:=o;generalize rl.length=nr at*;clear j a c b n;go_enter func106,ntmps106;go_wp2_with fail;rw[s.out];refine f.mono ?_;rintro e F⟨m,l⟩;have r:=qZ (aA p l);have g:=qZ m;clear l m f;obtain⟨u,rfl⟩:∃u:Int,e=.returned u:=by rcases g.out with⟨rfl,_⟩|⟨k,_,rfl,_⟩<;>exact⟨_,rfl⟩
 go_wp2_with fail;go_ret;exact⟨g,r⟩
theorem aqt{rl:List Run}(id:Int):∀(k:Nat) (c:k<rl.length),(rl.take k).find? (λx=>x.id==id)=none->rl.find? (λx=>x.id==id)=some rl[k]->wD (rl.map eY) id=(rl.eraseIdx k).map eY:=by
 induction rl with
 |nil=>intro k c;simp at c
 |cons x t f=>
  intro k c a d;have e1:(eY x).p.id=x.id:=rfl;cases k with
  |zero=>
   have b:x.id=id:=by have:=List.find?_some d;simpa using this
   show(if(eY x).p.id=id then t.map eY else _)=_;rw[e1,aG b];rfl
  |succ k=>
   rw[List.take_succ_cons,List.find?_cons]at a;have b:(x.id==id)=false:=by
    cases e:(x.id==id)with
    |false=>rfl
    |true=>rw[e]at a;cases a
   rw[b]at a;rw[List.find?_cons,b]at d;show(if(eY x).p.id=id then t.map eY else eY x::wD (t.map eY) id)=_;rw[e1,aD (by simpa using b),f k (by simpa using c) a d];rfl
theorem ZQ{rl:List Run}{id:Int}(h:rl.find? (λx=>x.id==id)=none):tY (rl.map eY) id=false:=by unfold tY;rw[List.any_map,List.any_eq_false];intro x a;have:=List.find?_eq_none.1 h x a;exact this
theorem ZP{rl:List Run}{id:Int}{r:Run}(h:rl.find? (λx=>x.id==id)=some r):tY (rl.map eY) id=true:=by unfold tY;rw[List.any_map,lY];exact⟨r,List.mem_of_find?_eq_some h,List.find?_some (p:=λx:Run=>x.id==id) h⟩
theorem apa{w:World}{x:Run}(h:ISl w x.hv x.aQ):∀u∈mR x,u.oneCell'=true:=λu a=>by simp only[mR,bA,dS,or_false]at a;rcases a with rfl|rfl|rfl|rfl|rfl|rfl|rfl|rfl|rfl|rfl|rfl|rfl|rfl|rfl<;>first|rfl|exact KW h
structure SbQ (z:Nat) (wm w:World) (sb:Nat) (v1 v2 vp vr vh:Value) (s:Top.S) (rl:List Run):Prop where
 on:Below wm wm w
 cfg:bX wm (.agg #[v1,v2,s.c.aI,s.c.aK]) s.c
 box:Blk w sb 31 #[v1,v2,s.c.aI,s.c.aK,s.aN,s.next,vp,vr,vh]
 low:(wm:Nat)<=sb
 rs:kU w (wm:Nat) vr rl
 map:rl.map eY=s.rs
 h:FSl wm vh s.h
 nr:vr.ownBlock≠some sb
 fh:∀y∈rl,y.aQ≠[]->∀b,y.hv.ownBlock=some b->(wm:Nat)<=b/\b≠sb
 zlt:z<=(wm:Nat)
 far:rV z v1 v2 vp vr vh s rl
theorem SbQ.dU{z:Nat}{wm w w':World}{sb:Nat}{v1 v2 vp vr vh:Value}{s:Top.S}{rl:List Run}(h:SbQ z wm w sb v1 v2 vp vr vh s rl)(a:Below w w w'):SbQ z wm w' sb v1 v2 vp vr vh s rl:=
 ⟨aA h.on a,h.cfg,h.box.below a h.box.lt,h.low,h.rs.below a,h.map,h.h,h.nr,h.fh,h.zlt,h.far⟩
theorem EB.q{z:Nat}{wm w:World}{sb:Nat}{v1 v2 vp vr vh:Value}{s:Top.S}{rl:List Run}(h:EB z wm w sb v1 v2 vp vr vh s rl):SbQ z wm w sb v1 v2 vp vr vh s rl:=⟨h.on,h.cfg,h.box,h.low,h.rs,h.map,h.h,h.nr,h.fh,h.zlt,h.far⟩
theorem TN{z:Nat}{wm w:World}{sb:Nat}{v1 v2 vp vr vh:Value}{s:Top.S}{rl:List Run}(h:SbQ z wm w sb v1 v2 vp vr vh s rl)(ab:∀W,aO (λi=>vr.ownBlock=some i\/i=sb) w W->PSl W vp s.ps)(aa:rl.length<=1000)(id:Int):Calls prog 52 #[.pointer sb,id] w λe w'=>e=.returned (.int .i64 (if tY s.rs id then 0 else 4))/\vE z wm sb {s with rs:=wD s.rs id} (if tY s.rs id then 0 else 4) w':=by
 have T:=qZ (aeh (u1:=v1) (u2:=v2) (u3:=.int .i64 s.c.aI) (u4:=.int .i64 s.c.aK) (u5:=.int .i64 s.aN) (u6:=.int .i64 s.next) (up:=vp) (uh:=vh) (h.rs.runs oZ) oZ id w (aJ _ _));obtain⟨ah,c1,c2,c3,c4,c5,c6,c7,c8⟩:=h.box.c9;obtain⟨A,n,c,rfl⟩:=iO h.rs.1;have d:=qZ h;have ag:=qZ ab;have H:=qZ aa;obtain⟨err,I⟩:∃err:Int,(if tY s.rs id=true then 0 else 4)=err:=⟨_,rfl⟩;have X:=qZ I;rw[I];clear h aa I ab;go_enter func52,ntmps52;go_wp2_with fail;refine T.mono ?_;rintro e O⟨aj,r⟩;clear T ah c1 c2 c3 c4 c5 c6 c7 c8;have a:=qZ (d.dU r);have ae:=qZ r;rcases aj with⟨rfl,j⟩|⟨k,J,rfl,M,Y⟩
 .have F:=qY ((4:Int)=err/\vE z wm sb {s with rs:=wD s.rs id} err O) (by
   have e1:err=4:=by rw[<-X.out,<-d.out.map,ZQ j];rfl
   exact⟨e1.symm,a.on,λe=>oZ⟩)
  clear j r;go_wp2_with fail;go_ret;obtain⟨e1,e2⟩:=F.out;subst e1;exact⟨rfl,e2⟩
 .have ai:err=0:=by rw[<-X.out,<-d.out.map,ZP M];rfl
  subst ai;have Z:=aqt id k J Y M;have c7:CV O sb 7 (.slice A n c):=a.box.cell 7;have Q:=qZ (aoZ a.rs.1 (λx an=>apa (a.rs.2 x an).1) (by have:=H.out;omega) J);have af:=qZ Z;have ar:IntKind.i64.wrap ((k:Int)+1)=(k:Int)+1:=by rw[IntKind.wrap_i64];have:=H.out;omega
  have au:¬((k:Int)<0):=oZ;clear M Y J Z r;go_wp2_with fail;refine Q.mono ?_;rintro e g⟨v4,rfl,L,o,v⟩;obtain⟨l,m,c4,rfl⟩:=iO L;have u:=a.box.bD o a.nr;have av:CV g sb 7 (.slice A n c):=u.cell 7;have ao:g.frozen? (sb,7)=false:=u.frozen 7;have F:=qY (vE z wm sb {s with rs:=wD s.rs id} 0 (g.setCell (sb,7) (.slice l m c4))) (by
   have ak:Below wm O g:=o.below a.on.size (λi hi=>(a.rs.1.lt i hi).1);have K:Below wm wm (g.setCell (sb,7) (.slice l m c4)):=(a.on.trans ak).setCell a.low _;have ad:aO (λi=>i=sb) g (g.setCell (sb,7) (.slice l m c4)):=nK sb 7 g _;have al:kU g (wm:Nat) (.slice l m c4) (rl.eraseIdx k):=⟨L,λy p=>by have N:=List.mem_of_mem_eraseIdx p;refine⟨vO (a.rs.2 y N).1 o λj b f e=>(a.rs.2 y N).2 j b e f,λj b f=>?_⟩;rw[v]at f;exact(a.rs.2 y N).2 j b f⟩;have am:=oM al ad (λb f e=>a.nr (by rw[v]at f;rw[f,e])) (λy p j b f e=>(a.fh y (List.mem_of_mem_eraseIdx p) j b f).2 e);refine⟨K,λ_=>⟨v1,v2,vp,.slice l m c4,vh,rl.eraseIdx k,?_,⟨d.cfg.below K,ag _ (((aO.bS ae).trans (o.mono λi _ hi=>Or.inl hi)).trans (ad.mono λi _ hi=>Or.inr hi)),am.runs (by have:=List.length_eraseIdx_le rl k;have:=H.out;omega),?_,d.h.below K⟩,⟨d.far.aP,d.far.aQ,d.far.ps,λ_ b f=>by have ap:=(d.rs.1.lt b (by rw[<-v];exact f)).1;have aq:=d.zlt;omega,λy p=>d.far.hv y (List.mem_of_mem_eraseIdx p),d.far.h⟩⟩⟩
   .have:=Blk.bV u 7 (.slice l m c4);simpa using this
   .show(rl.eraseIdx k).map eY=wD s.rs id;rw[<-d.out.map];exact af.out.symm)
  clear L o v u Q c7;go_wp2_with fail;go_ret;exact⟨rfl,F⟩
theorem agv{z:Nat}{wm w:World}{sb:Nat}{v1 v2 vp vr vh:Value}{s:Top.S}{rl:List Run}(h:EB z wm w sb v1 v2 vp vr vh s rl)(a:rl.length<=1000)(id:Int):Calls prog 52 #[.pointer sb,id] w λe w'=>e=.returned (.int .i64 (if tY s.rs id then 0 else 4))/\vE z wm sb {s with rs:=wD s.rs id} (if tY s.rs id then 0 else 4) w':=
 TN h.q (λW k=>rO h.ps (h.on.trans (k.below h.on.size (λi hi=>by
  rcases hi with hi|rfl
  .exact(h.rs.1.lt i hi).1
  .exact h.low)))) a id
end bU
variable{z:Nat}
namespace bU
open Go Go.RowKit L bM eZ Srt
def abd(o:Option Nat):Int:=match o with|some k=>(k:Int)|none=> -1
theorem adY(s:Top.S)(g:Ord.P)(e:Int)(a b c d:Bool)(f:uG s.c g=e)(i:(lD s.ps g.id).isSome=a)(j:tY s.rs g.id=b)(k:Top.never s.c g=c)(l:decide (32<=s.ps.length+s.rs.length)=d):uL s g=if e≠0 then e else if a||b then 5 else if c then 6 else if d then 8 else 0:=by
 unfold uL;rw[f,i,j,k];congr 3;rw[<-l];by_cases h:32<=s.ps.length+s.rs.length
 .rw[aG h,aG (decide_eq_true h)]
 .rw[aD h,aD (by rw[eG h];decide)]
theorem ajM(h:uG c p=0):NY p/\RU p:=by have g:=QT h;have a:=g.eU;have b:=g.aR;have d:=g.prefer;exact⟨⟨oZ⟩,⟨oZ,oZ⟩⟩
theorem acZ{N:World}{d:Nat}{ay:Value}(h:EB z N w d v1 v2 vp vr ay s rl)(ok:WW s)(g:Ord.P):Calls prog 51 #[.pointer d,dW g] w λe w'=>e=.returned (.int .i64 (uL s g))/\vE z N d (Top.AO s g) (uL s g) w':=by
 have cw:rl.length<=100:=by have:=ok.len;rw[<-h.map,bN]at this;omega
 obtain⟨l,bi⟩:=nZ (w.alloc (.cells (iD g) 42));have b2:=aB bi;have cz:Blk l w 42 (iD g):=by rw[<-bi];exact Blk.new _ _ _
 obtain⟨ae,bf⟩:=nZ (uG s.c g);obtain⟨ak,b5⟩:=nZ (lD s.ps g.id);obtain⟨af,bg⟩:=nZ (tY s.rs g.id);obtain⟨ax,cb⟩:=nZ (Top.never s.c g);obtain⟨am,b7⟩:=nZ (decide (32<=s.ps.length+s.rs.length));obtain⟨err,b4⟩:=nZ (uL s g);have a0:=qY (err=if ae≠0 then ae else if ak.isSome||af then 5 else if ax then 6 else if am then 8 else 0) (by rw[<-b4];exact adY s g ae _ af ax am bf (by rw[b5]) bg cb b7);have bl:=qY (∀W,Below w w W->Calls prog 104 #[.agg #[v1,v2,s.c.aI,s.c.aK],dW g] W λe w'=>e=.returned ae/\Below W W w') (λW a=>by have:=aqh (h.cfg.below (h.dU a).on) g W (aJ _ _);rw[bf]at this;exact this);have ah:=qY (∀W,Below w w W->Calls prog 105 #[vp,g.id] W λe w'=>e=.returned (.int .i64 (abd ak))/\Below W W w') (λW a=>by have:=abX (rO h.ps (h.dU a).on) (by have:=ok.len;omega) g.id W (aJ _ _);unfold ark at this;rw[b5]at this;exact this);have ab:=qY (∀W,Below w w W->Calls prog 106 #[.agg #[v1,v2,s.c.aI,s.c.aK,s.aN,s.next,vp,vr,ay],g.id] W λe w'=>∃u:Int,e=.returned u/\decide (0<=u)=af/\Below W W w') (λW a=>by
  refine(aeh (u1:=v1) (u2:=v2) (u3:=.int .i64 s.c.aI) (u4:=.int .i64 s.c.aK) (u5:=.int .i64 s.aN) (u6:=.int .i64 s.next) (up:=vp) (uh:=ay) ((h.dU a).rs.runs oZ) oZ g.id W (aJ _ _)).mono ?_;rintro e w'⟨cv,H⟩;rcases cv with⟨rfl,b8⟩|⟨k,b6,rfl,dg,_⟩
  .exact⟨-1,rfl,by rw[<-bg,<-h.map,ZQ b8];rfl,H⟩
  .exact⟨k,rfl,by rw[<-bg,<-h.map,ZP dg];simp,H⟩)
 have az:=qY (ae=0->∀W,Below w w W->Calls prog 107 #[.agg #[v1,v2,s.c.aI,s.c.aK],dW g] W λe w'=>e=.returned (.bool ax)/\Below W W w') (λdd W a=>by obtain⟨au,av⟩:=ajM (bf.trans dd);have:=amv (h.cfg.below (h.dU a).on) ok.mild g au av W (aJ _ _);rw[cb]at this;exact this);have K:=qY (∀W,Below w w W->Calls prog 108 #[vp,.agg (eP {g with seq:=s.next,since:=s.aN})] W λe w'=>agf (Top.AO s g).ps W e w') (λW a=>
  SC (rO h.ps (h.dU a).on) (by have:=ok.len;omega) {g with seq:=s.next,since:=s.aN} W (aJ _ _))
 have ck:=qY (∀p∈(Top.AO s g).ps,POk p) (λp cd=>by
  rcases MC _ _ _ cd with rfl|cd
  .have co:=ok.next;have cp:=ok.aN;refine⟨?_,?_⟩<;>unfold InI<;>simp only<;>omega
  .exact(ok.kR p (cO _ cd)).ok)
 have cj:=qZ h;have I:=qZ (h.dU b2);have r:=qZ cz;have bn:=qZ b2;have cn:=qZ bi;have da:=qZ ok.next;have ba:=qY (s.ps.length<=100/\rl.length<=100) (⟨by have:=ok.len;omega,cw⟩);have bp:=qY (decide (32<=s.ps.length+rl.length)=am) (by rw[<-b7,<-h.map,bN]);rw[b4];obtain⟨Y,b1⟩:=nZ (Top.AO s g);have br:=qY (Y={s with ps:=Y.ps,next:=s.next+1}) (by rw[<-b1];rfl);rw[b1]at K ck⊢;have db:∃A c,vp=.slice A s.ps.length c:=by obtain⟨A,c,e,_⟩:=h.ps;exact⟨A,c,e⟩
 have dc:∃A c,vr=.slice A rl.length c:=by obtain⟨A,c,e,_⟩:=h.rs.runs oZ;exact⟨A,c,e⟩
 obtain⟨Ap,be,rfl⟩:=db;obtain⟨bk,bs,rfl⟩:=dc;clear h ok cw bi b2 cz bf b5 bg cb b7 b4 b1;obtain⟨an,b9⟩:=nZ s.ps.length;obtain⟨aw,ca⟩:=nZ rl.length;rw[b9]at I ah ab K cj ba bp;rw[ca]at I ab cj ba bp;have c0:=qZ (aC b9 ca);clear b9 ca;obtain⟨bj,p1,ci,⟨n0,n1,n2⟩,p6,cg,ch,dx,dw⟩:=g;simp only[dW,iD,eP]at bl ah ab az K r cn⊢;go_enter func51,ntmps51;go_wp2_with fail;rw[cn.out];have aj:∀W,aF l W->CV W d 0 v1:=λW a=>(I.dU a).box.cell 0;have c1:∀W,aF l W->CV W d 1 v2:=λW a=>(I.dU a).box.cell 1;have c2:∀W,aF l W->CI W d 2 s.c.aI:=λW a=>(I.dU a).box.cell 2;have c3:∀W,aF l W->CI W d 3 s.c.aK:=λW a=>(I.dU a).box.cell 3;have al:∀W,aF l W->CI W w 0 bj:=r.fa 0;have au:∀W,aF l W->CI W w 1 p1:=r.fa 1;have av:∀W,aF l W->CI W w 2 ci:=r.fa 2;have bt:∀W,aF l W->CI W w 3 n0:=r.fa 3;have bu:∀W,aF l W->CI W w 4 n1:=r.fa 4;have bv:∀W,aF l W->CI W w 5 n2:=r.fa 5;have bw:∀W,aF l W->CI W w 6 p6:=r.fa 6;have bz:∀W,aF l W->CI W w 7 cg:=r.fa 7;have b0:∀W,aF l W->CI W w 8 ch:=r.fa 8;refine iT (aF l) 5 (.take 0 (.take 1 (.take 2 (.take 3 (.take 4 .done))))) kZ kZ (aF.drew l) ?_;(iterate 5 refine tT ?_);clear aj c1 c2 c3 al au av bt bu bv bw bz b0;refine fZ ?_;show wpList prog _ _ (List.drop 5 _) _ _;simp only[bH,bJ];have X:=qZ (aF.drew l);go_wp2_with fail;refine(bl _ (aA bn X)).mono ?_;rintro e m⟨rfl,cq⟩;have ai:=qZ (aA X cq);clear cq bl;by_cases b3:ae=0
 .subst b3;have bm:=qZ (az rfl);have T:=qY (err=if ak.isSome||af then 5 else if ax then 6 else if am then 8 else 0) (by rw[a0.out,aD dZ]);have F:=qZ (I.dU ai);have bd:=qZ (r.below ai r.out.lt);have a5:=qZ (aA bn ai);clear az a0 I r ai X bn;go_upto_region 4 with fail;go_cut[16] (λv dp=>v=.bool (ak.isSome||af)/\Hid (aF m dp));case first=>
   have aj:∀W,aF m W->CV W d 0 v1:=λW a=>(F.dU a).box.cell 0;have c1:∀W,aF m W->CV W d 1 v2:=λW a=>(F.dU a).box.cell 1;have c2:∀W,aF m W->CI W d 2 s.c.aI:=λW a=>(F.dU a).box.cell 2;have c3:∀W,aF m W->CI W d 3 s.c.aK:=λW a=>(F.dU a).box.cell 3;have c4:∀W,aF m W->CI W d 4 s.aN:=λW a=>(F.dU a).box.cell 4;have c5:∀W,aF m W->CI W d 5 s.next:=λW a=>(F.dU a).box.cell 5;have c6:∀W,aF m W->CV W d 6 (.slice Ap an be):=λW a=>(F.dU a).box.cell 6;have c7:∀W,aF m W->CV W d 7 (.slice bk aw bs):=λW a=>(F.dU a).box.cell 7;have c8:∀W,aF m W->CV W d 8 ay:=λW a=>(F.dU a).box.cell 8;have al:∀W,aF m W->CI W w 0 bj:=bd.fa 0;refine iT (aF m) 14 (.take 0 (.take 1 (.take 2 (.take 3 (.take 4 (.take 5 (.one 6 (.take 7 (.take 8 (.take 9 (.take 10 (.take 11 (.take 12 (.take 13 .done)))))))))))))) kZ kZ (aF.drew m) ?_;(iterate 6 refine tT ?_);refine eT ?_;refine tC ?_;refine(ah _ (aA a5 (aF.drew m))).mono ?_;rintro e d0⟨rfl,cr⟩;have bb:=qZ (aA (aF.drew m) cr);refine⟨_,rfl,bb,?_⟩;clear cr ah;cases ak with
   |some k=>
    have dt:(0:Int)<=(k:Int):=oZ;simp only[abd];(iterate 2 refine tT ?_);(iterate 5 refine tN ?_);clear aj c1 c2 c3 c4 c5 c6 c7 c8 al;refine fZ ?_;show wpList prog _ _ (List.drop 14 _) _ _;simp only[bH,bJ];go_wp2_with fail;go_meet;exact⟨sZ,bb⟩
   |none=>
    simp only[abd];(iterate 7 refine tT ?_);clear aj c1 c2 c3 c4 c5 c6 c7 c8 al;refine fZ ?_;show wpList prog _ _ (List.drop 14 _) _ _;simp only[bH,bJ];go_wp2_with fail;refine(ab _ (aA a5 bb)).mono ?_;rintro e d6⟨u,rfl,bh,cs⟩;have cl:=qZ (aA bb cs);clear cs ab;cases af
    .have dj:¬((0:Int)<=u):=of_decide_eq_false bh;clear bh;go_wp2_with fail;go_meet;exact⟨by simp;omega,cl⟩
    .have dj:(0:Int)<=u:=of_decide_eq_true bh;clear bh;go_wp2_with fail;go_meet;exact⟨sZ,cl⟩
  case rest=>
   obtain⟨rfl,bc⟩:=hcut;have O:=qZ (F.dU bc);have x:=qZ (bd.below bc bd.out.lt);have a8:=qZ (aA a5 bc);clear F bd a5 bc ah ab;obtain⟨dm,cx⟩:=nZ ((ak.isSome||af));rw[cx]at T⊢;clear cx;cases dm
   .go_wp2_with fail;have aj:∀W,aF wc W->CV W d 0 v1:=λW a=>(O.dU a).box.cell 0;have c1:∀W,aF wc W->CV W d 1 v2:=λW a=>(O.dU a).box.cell 1;have c2:∀W,aF wc W->CI W d 2 s.c.aI:=λW a=>(O.dU a).box.cell 2;have c3:∀W,aF wc W->CI W d 3 s.c.aK:=λW a=>(O.dU a).box.cell 3;have al:∀W,aF wc W->CI W w 0 bj:=x.fa 0;have au:∀W,aF wc W->CI W w 1 p1:=x.fa 1;have av:∀W,aF wc W->CI W w 2 ci:=x.fa 2;have bt:∀W,aF wc W->CI W w 3 n0:=x.fa 3;have bu:∀W,aF wc W->CI W w 4 n1:=x.fa 4;have bv:∀W,aF wc W->CI W w 5 n2:=x.fa 5;have bw:∀W,aF wc W->CI W w 6 p6:=x.fa 6;have bz:∀W,aF wc W->CI W w 7 cg:=x.fa 7;have b0:∀W,aF wc W->CI W w 8 ch:=x.fa 8;refine iT (aF wc) 5 (.take 0 (.take 1 (.take 2 (.take 3 (.take 4 .done))))) kZ kZ (aF.drew wc) ?_;(iterate 5 refine tT ?_);clear aj c1 c2 c3 al au av bt bu bv bw bz b0;refine fZ ?_;show wpList prog _ _ (List.drop 5 _) _ _;simp only[bH,bJ];have X:=qZ (aF.drew wc);go_wp2_with fail;refine(bm _ (aA a8 X)).mono ?_;rintro e Z⟨rfl,ct⟩;have J:=qZ (aA X ct);have Q:=qZ (O.dU J);have ar:=qZ (x.below J x.out.lt);have a9:=qZ (aA a8 J);clear ct X J O x a8 bm;cases ax
    .go_wp2_with fail;have c6:∀W,aF Z W->CV W d 6 (.slice Ap an be):=λW a=>(Q.dU a).box.cell 6;have c7:∀W,aF Z W->CV W d 7 (.slice bk aw bs):=λW a=>(Q.dU a).box.cell 7;have du:=ba.out;obtain⟨ao,dh⟩:∃ao:Nat,an+aw=ao:=⟨_,rfl⟩;have di:(an:Int)+(aw:Int)=(ao:Int):=oZ;have dk:IntKind.i64.wrap (ao:Int)=(ao:Int):=by rw[IntKind.wrap_i64];omega
     have de:decide ((32:Int)<=(ao:Int))=am:=by rw[<-bp.out];congr 1;apply propext;constructor<;>intro cv<;>omega
     refine lU (aF Z) (.take 0 (.take 1 (.take 2 (.take 3 (.take 4 (.take 5 (.take 6 (.take 7 (.take 8 (.take 9 (.take 10 (.take 11 (.take 12 .done))))))))))))) kZ kZ (aF.drew Z) ?_;(iterate 13 refine tT ?_);clear c6 c7 di dk de dh;have J:=qZ (aF.drew Z);refine fZ ?_;cases am
     .have o:=qY (err=0) (by rw[T.out];rfl);go_upto_region 10 with fail;have ad:=qZ (Q.dU J);have j:=qZ (ar.below J ar.out.lt);have bo:=qZ (aA a9 J);clear Q ar a9 J;obtain⟨ap,cy⟩:=nZ Z.drew;rw[cy]at ad j bo⊢;clear cy;have c4:∀W,aF ap W->CI W d 4 s.aN/\CI W d 5 s.next/\CV W d 6 (.slice Ap an be)/\CI W w 0 bj/\CI W w 1 p1/\CI W w 2 ci/\CI W w 3 n0/\CI W w 4 n1/\CI W w 5 n2/\CI W w 6 p6/\CI W w 7 cg/\CI W w 8 ch:=λW a=>⟨(ad.dU a).box.cell 4,(ad.dU a).box.cell 5,(ad.dU a).box.cell 6,(j.below a j.out.lt).cell 0,(j.below a j.out.lt).cell 1,(j.below a j.out.lt).cell 2,(j.below a j.out.lt).cell 3,(j.below a j.out.lt).cell 4,(j.below a j.out.lt).cell 5,(j.below a j.out.lt).cell 6,(j.below a j.out.lt).cell 7,(j.below a j.out.lt).cell 8⟩;refine iT (aF ap) 16 (.take 0 (.take 1 (.take 2 (.take 3 (.take 4 (.take 5 (.take 6 (.take 7 (.take 8 (.take 9 (.take 10 (.take 11 (.take 12 (.take 13 (.take 14 (.one 15 .done)))))))))))))))) kZ kZ (aF.drew ap) ?_;(iterate 15 refine tT ?_);clear c4;refine eT ?_;refine tC ?_;refine(K _ (aA bo (aF.drew ap))).mono ?_;rintro e M⟨dn,rfl,ce,cu⟩;have bq:=qZ (aA (aF.drew ap) cu);refine⟨dn,rfl,bq,?_⟩;obtain⟨aa,ag,c7,rfl⟩:=iO ce;have f:=qZ (ad.dU bq);have aq:=qZ ce;have dy:CI M d 5 s.next:=f.box.cell 5;have dz:CV M d 6 (.slice Ap an be):=f.box.cell 6;have dq:∀n,M.frozen? ⟨d,n,none⟩=false:=λn=>f.box.frozen n;have dv:IntKind.i64.wrap (s.next+1)=s.next+1:=by rw[IntKind.wrap_i64];have:=da.out;omega
      have cm:=qY (d<ap.drew.heap.size) ad.box.lt;clear ce cu bq K ad j bo;refine fZ ?_;show wpList prog _ _ (List.drop 16 _) _ _;simp only[bH,bJ];have L:=qY (vE z N d Y 0 ((M.setCell (d,6) (.slice aa ag c7)).setCell (d,5) (.int .i64 (s.next+1)))) (by
       have b6:aO (λi=>i=d) M ((M.setCell (d,6) (.slice aa ag c7)).setCell (d,5) (.int .i64 (s.next+1))):=(nK d 6 M _).trans (nK d 5 _ _);have cc:Below N N ((M.setCell (d,6) (.slice aa ag c7)).setCell (d,5) (.int .i64 (s.next+1))):=(f.on.setCell f.low _).setCell f.low _;have df:bQ ((M.setCell (d,6) (.slice aa ag c7)).setCell (d,5) (.int .i64 (s.next+1))) _ 44 11 gK (.slice aa ag c7) Y.ps:=aq.bD (λb H=>b6.block b (aq.out.lt b H).2 λe=>by have co:=(aq.out.lt b H).1;have cp:=cm.out;omega);refine⟨cc,λ_=>⟨v1,v2,.slice aa ag c7,.slice bk aw bs,ay,rl,?_,?_,?_⟩⟩
       .rw[br.out];have:=Blk.bV (Blk.bV f.box 6 (.slice aa ag c7)) 5 (.int .i64 (s.next+1));simpa using this
       .rw[br.out];exact⟨f.cfg.below cc,BJ df ck,(oM f.rs b6 (λb H e=>f.nr (e▸H)) λy dl b8 b H e=>(f.fh y dl b8 b H).2 e).runs (by have:=ba.2;have:=c0.2;omega),f.map,f.h.below cc⟩
       .rw[br.out];exact⟨f.far.aP,f.far.aQ,λ_ b H=>by have co:=(aq.out.lt b H).1;have cp:=cm.out;have dr:=f.zlt;have ds:=f.low;omega,f.far.rs,f.far.hv,f.far.h⟩)
      have e1:=o.out;subst e1;clear f aq o;go_wp2_with fail;go_ret;exact⟨rfl,L⟩
     .have o:=qY (err=8) (by rw[T.out];rfl);have L:=qY (vE z N d Y err Z.drew) (⟨aA Q.on J,λe=>by rw[o.out]at e;cases e⟩);clear Q ar a9 T K;go_wp2_with fail;go_ret;have e1:=o.out;subst e1;exact⟨rfl,L⟩
    .have o:=qY (err=6) (by rw[T.out];rfl);have L:=qY (vE z N d Y err Z) (⟨Q.on,λe=>by rw[o.out]at e;cases e⟩);clear Q ar a9 T K;go_wp2_with fail;go_ret;have e1:=o.out;subst e1;exact⟨rfl,L⟩
   .have o:=qY (err=5) (by rw[T.out];rfl);have L:=qY (vE z N d Y err wc) (⟨O.on,λe=>by rw[o.out]at e;cases e⟩);clear O x a8 T K bm;go_wp2_with fail;go_ret;have e1:=o.out;subst e1;exact⟨rfl,L⟩
 .have o:=qY (err=ae) (by rw[a0.out,aG b3]);have L:=qY (vE z N d Y err m) (⟨(I.dU ai).on,λe=>absurd (o.out.symm.trans e) b3⟩);clear az ah ab K a0 I r ai X;go_wp2_with fail;go_ret;have e1:=o.out;subst e1;exact⟨rfl,L⟩
theorem adv(o:bX w v c)(r:c.aP.length<=1000000):∀w1,Below w w w1->Calls prog 103 #[v] w1 λe w'=>KD (List.replicate c.aP.length 0) w1 e w':=by intro w1 i;obtain⟨v1,v2,rfl,k,p⟩:=o;obtain⟨s,d⟩:=nZ (w1.alloc (.cells #[v1,v2,c.aI,c.aK] 26));have a:=aB d;have f:=qZ (abt k r s (aA i a));have g:=qZ a;have n:=qZ d;obtain⟨A,cap,rfl,_,_⟩:=k;generalize c.aP.length=nn at*;clear i a d p;go_enter func103,ntmps103;go_wp2_with fail;rw[n.out];refine f.mono ?_;rintro e z⟨v',rfl,b,j⟩;have m:=qZ (b.low g.size);have l:=qZ (aA g j);obtain⟨u,y,x,rfl⟩:=iO b;clear b j f;go_wp2_with fail;go_ret;exact⟨_,rfl,m,l⟩
structure CbS (cb:Nat) (cs:Array Value) (W:World):Prop where
 box:Blk W cb 26 cs
def BX(s:Top.S)(c:Cfg.C):Int:=if Cfg.check c≠0 then 2 else if 0<s.ps.length+s.rs.length then 7 else 0
theorem anK(c:Cfg.C):Cfg.check c=0\/Cfg.check c=2:=by unfold Cfg.check;split<;>simp
theorem abh{Z:World}{a:Nat}{bq cm:Value}(h:EB z Z w a v1 v2 vp vr bq s rl)(ok:WW s)(cc:bX w cm c)(da:∀W,aO (λi=>i=a) w W->bX W cm c):Calls prog 50 #[.pointer (some ⟨a,0,none⟩),cm] w λe w'=>e=.returned (.int .i64 (BX s c))/\vE z Z a {s with c:=c,h:=List.replicate c.aP.length 0} (BX s c) w':=by
 have dd:rl.length<=100:=by have:=ok.len;rw[<-h.map,bN]at this;omega
 have dc:s.ps.length<=100:=by have:=ok.len;omega
 have db:s.rs.length=rl.length:=by rw[<-h.map,bN]
 obtain⟨u1,u2,rfl,⟨j,m,rfl,dg,dv⟩,⟨g,l,rfl,df,du⟩⟩:=id cc;obtain⟨ee,bn⟩:=nZ (w.alloc (.cells #[.slice j c.aP.length m,.slice g c.aQ.length l,c.aI,c.aK] 26));have bj:=aB bn;have dl:=aX bn;have aw:=qZ (xK cc ee bj);have ay:=qY (c.aP.length<=1000000->∀W,Below w w W->Calls prog 75 #[.slice j c.aP.length m] W λe w'=>∃v',e=.returned v'/\bQ w' W 66 11 oP v' c.aP/\Below W W w') (λp W o=>
  wU VW ado rfl oZ Tryz.sizeOf66 nel (w:=W) (show SlK W 11 oP _ c.aP from⟨j,m,rfl,dg.below o⟩) (by unfold maxLen;omega) oZ)
 have ax:=qY (c.aQ.length<=1000000->∀W,Below w w W->Calls prog 76 #[.slice g c.aQ.length l] W λe w'=>∃v',e=.returned v'/\bQ w' W 131 6 hdec v' c.aQ/\Below W W w') (λp W o=>
  wU VX hinfo rfl oZ Tryz.sizeOf131 hel (w:=W) (show SlK W 6 hdec _ c.aQ from⟨g,l,rfl,df.below o⟩) (by unfold maxLen;omega) oZ)
 have az:=qY (c.aP.length<=1000000->∀W,bX W (.agg #[.slice j c.aP.length m,.slice g c.aQ.length l,c.aI,c.aK]) c->Calls prog 103 #[.agg #[.slice j c.aP.length m,.slice g c.aQ.length l,c.aI,c.aK]] W λe w'=>KD (List.replicate c.aP.length 0) W e w') (λp W o=>adv o p W (aJ _ _));have co:=qY (∀W,aO (λi=>i=a) w W->bX W (.agg #[.slice j c.aP.length m,.slice g c.aQ.length l,c.aI,c.aK]) c) da;obtain⟨aa,ap⟩:=nZ (Cfg.check c);obtain⟨bp,cg⟩:=nZ (decide (0<s.ps.length+rl.length));have ai:=qY (BX s c=if aa≠0 then 2 else if bp then 7 else 0) (by
  unfold BX;rw[ap,db,<-cg];by_cases p:0<s.ps.length+rl.length
  .simp[p]
  .simp[p])
 have dn:=qY (aa=0\/aa=2) (by rw[<-ap];exact anK c);have ag:=qY (aa=0->c.aP.length<=1000000/\c.aQ.length<=1000000) (λe=>by
  have dx:Cfg.ok c=true:=by
   have e2:=ap.trans e;unfold Cfg.check at e2;split at e2
   .assumption
   .cases e2
  have:=rE dx;exact⟨oZ,oZ⟩)
 rw[ap]at aw;obtain⟨err,c0⟩:=nZ (BX s c);rw[c0]at ai⊢;have bw:=qZ h;have a0:=qZ (h.dU bj);have bd:=qZ dl;have dm:=qZ bj;have ct:=qZ bn;have bc:=qZ (aC dc dd);have b0:=qZ cg;have dp:∃A c,vp=.slice A s.ps.length c:=by obtain⟨A,c,e,_⟩:=h.ps;exact⟨A,c,e⟩
 have dq:∃A c,vr=.slice A rl.length c:=by obtain⟨A,c,e,_⟩:=h.rs.runs oZ;exact⟨A,c,e⟩
 obtain⟨Ap,be,rfl⟩:=dp;obtain⟨av,bf,rfl⟩:=dq;obtain⟨b5,b9⟩:=nZ (({s with c:=c,h:=List.replicate c.aP.length 0}:Top.S));have b4:=qZ b9;rw[b9];clear h ok cc da dd dc db dg dv df du bn bj dl ap cg c0 b9;obtain⟨v,ar⟩:=nZ c.aP.length;obtain⟨u,aq⟩:=nZ c.aQ.length;obtain⟨aI,bk⟩:=nZ c.aI;obtain⟨aK,bh⟩:=nZ c.aK;obtain⟨ab,ci⟩:=nZ s.ps.length;obtain⟨ad,cj⟩:=nZ rl.length;have a8:=qZ (aC ar (aC aq (aC bk (aC bh (aC ci cj)))));rw[ar,aq,bk,bh]at aw az co bd ct;rw[ar]at ay ag;rw[aq]at ax ag;rw[ci]at bw a0 bc b0;rw[cj]at bw a0 bc b0;rw[ar,aq,bk,bh];clear ar aq bk bh ci cj;go_enter func50,ntmps50;go_wp2_with fail;rw[ct.out];refine aw.out.mono ?_;rintro e T⟨rfl,bi⟩;have N:=qZ (a0.out.dU bi);have am:=qZ (bd.out.below bi bd.out.lt);have ba:=qZ (aA dm.out bi);clear bi aw a0 bd;by_cases cd:aa=0
 .subst cd;obtain⟨ce,cz⟩:=ag.out rfl;have bt:=qZ (ay.out ce);have bs:=qZ (ax.out cz);have bu:=qZ (az.out ce);have a9:=qY (err=if bp then 7 else 0) (by rw[ai.out,aD dZ]);clear ce cz ay ax az ag ai;go_upto_region 4 with fail;have e6:∀W,aF T W->W.cell? ⟨a,6,none⟩=some (.slice Ap ab be)/\W.cell? ⟨a,7,none⟩=some (.slice av ad bf):=λW o=>have x:=(N.out.dU o).box;⟨x.cell 6,x.cell 7⟩;have dt:=bc.out;obtain⟨ae,dy⟩:∃ae:Nat,ab+ad=ae:=⟨_,rfl⟩;have dz:(ab:Int)+(ad:Int)=(ae:Int):=oZ;have d0:IntKind.i64.wrap (ae:Int)=(ae:Int):=by rw[IntKind.wrap_i64];omega
  have dw:decide (0<ae)=bp:=by rw[<-b0.out];congr 1;apply propext;constructor<;>intro eh<;>omega
  refine lU (aF T) (.take 0 (.take 1 (.take 2 (.take 3 (.take 4 (.take 5 (.take 6 (.take 7 (.take 8 (.take 9 (.take 10 (.take 11 .done)))))))))))) kZ kZ (aF.drew T) ?_;(iterate 12 refine tT ?_);clear e6 dz d0 dw dy dt;have aj:=qZ (aF.drew T);refine fZ ?_;cases bp
  .have I:=qY (err=0) (by rw[a9.out];rfl);have bv:=qZ (N.out.dU aj.out);have r:=qZ (am.out.below aj.out am.out.lt);have bb:=qZ (aA ba.out aj.out);clear N am ba aj a9;obtain⟨X,di⟩:=nZ T.drew;rw[di]at bv r bb⊢;clear di;go_upto_region 6 with fail;have b6:∀W,CbS (w:Nat) #[.slice j v m,.slice g u l,aI,aK] W->W.cell? ⟨w,0,none⟩=some (.slice j v m):=λW o=>o.box.cell 0;have d1:∀W,CbS (w:Nat) #[.slice j v m,.slice g u l,aI,aK] W->W.cell? ⟨w,1,none⟩=some (.slice g u l):=λW o=>o.box.cell 1;refine iT (CbS (w:Nat) #[.slice j v m,.slice g u l,aI,aK]) 12 (.take 0 (.take 1 (.take 2 (.take 3 (.take 5 (.take 6 (.one 4 (.one 7 (.take 8 (.take 9 (.take 10 (.one 11 .done)))))))))))) kZ kZ ⟨r.out.drew⟩ ?_;(iterate 6 refine tT ?_);clear b6 d1;refine eT ?_;refine tC ?_;refine(bt.out _ (aA bb.out (aF.drew X))).mono ?_;rintro e ek⟨ec,rfl,O,cy⟩;have ak:=qZ (aA (aF.drew X) cy);refine⟨ec,rfl,⟨r.out.below ak.out r.out.lt⟩,?_⟩;refine eT ?_;refine tC ?_;refine(bs.out _ (aA bb.out ak.out)).mono ?_;rintro e Y⟨ed,rfl,au,cb⟩;have al:=qZ (aA ak.out cb);refine⟨ed,rfl,⟨r.out.below al.out r.out.lt⟩,?_⟩;obtain⟨H,n1,c1,rfl⟩:=iO O;obtain⟨L,n2,c2,rfl⟩:=iO au;have f:=qZ (bv.out.dU al.out);have dh:a<(X:Nat):=bv.out.box.lt;have b1:=qZ (aC (O.below cb) (show∀b,(Value.slice H n1 c1).ownBlock=some b->b≠a fromλb d e=>by have:=(O.lt b d).1;have bg:X.drew.heap.size=(X:Nat):=rfl;omega));have b3:=qZ (aC au (show∀b,(Value.slice L n2 c2).ownBlock=some b->b≠a fromλb d e=>by have:=(au.lt b d).1;have:=ak.out.size;omega));have cq:=qZ (aC (show∀b,(Value.slice H n1 c1).ownBlock=some b->z<=b fromλb d=>by have b8:=(O.lt b d).1;have bg:X.drew.heap.size=(X:Nat):=rfl;have cw:=f.out.zlt;have cx:=f.out.low;omega) (show∀b,(Value.slice L n2 c2).ownBlock=some b->z<=b fromλb d=>by have b8:=(au.lt b d).1;have bg:=ak.out.size;have cw:=f.out.zlt;have cx:=f.out.low;omega));have ef:=qZ dh;have d8:Y.cell? ⟨a,0,none⟩=some v1:=f.out.box.cell 0;have d9:Y.cell? ⟨a,1,none⟩=some v2:=f.out.box.cell 1;have b7:∀n,Y.frozen? ⟨a,n,none⟩=false:=λn=>f.out.box.frozen n;have ch:(w:Nat)≠a:=by have:=bw.out.box.lt;omega
   have cu:=qY (CbS (w:Nat) #[.slice j v m,.slice g u l,aI,aK] (Y.setCell ⟨a,0,none⟩ (.slice H n1 c1))) (⟨Blk.far (r.out.below al.out r.out.lt) ch _⟩);have b2:=qZ ch;clear O au cy cb dh ch bt bs;(iterate 3 refine tT ?_);refine eT ?_;apply uW;(focus rfl);(focus rfl);(focus(go_simp;first|done|rfl));(focus exact cu.out);(focus(go_simp;first|done|rfl));refine fZ ?_;show wpList prog _ _ (List.drop 12 _) _ _;simp only[bH,bJ];obtain⟨J,bl⟩:=nZ ((Y.setCell ⟨a,0,none⟩ (.slice H n1 c1)).setCell ⟨a,1,none⟩ (.slice L n2 c2));have ck:aO (λi=>i=a) Y J:=by rw[<-bl];exact(nK a 0 _ _).trans (nK a 1 _ _)
   have dj:Blk J a 31 #[.slice H n1 c1,.slice L n2 c2,s.c.aI,s.c.aK,s.aN,s.next,.slice Ap ab be,.slice av ad bf,bq]:=by rw[<-bl];have:=Blk.bV (Blk.bV f.out.box 0 (.slice H n1 c1)) 1 (.slice L n2 c2);simpa using this
   have an:=qZ dj;have cp:=qZ ck;have a5:=qZ ((r.out.below al.out r.out.lt).bD ck b2.out);have cr:=qZ bl;clear ck dj bl cu;go_upto_region 7 with fail;rw[cr.out];clear d8 d9 b7 cr;have d2:∀W,CbS (w:Nat) #[.slice j v m,.slice g u l,aI,aK] W->W.cell? ⟨w,2,none⟩=some (.int .i64 aI):=λW o=>o.box.cell 2;have d3:∀W,CbS (w:Nat) #[.slice j v m,.slice g u l,aI,aK] W->W.cell? ⟨w,3,none⟩=some (.int .i64 aK):=λW o=>o.box.cell 3;refine iT (CbS (w:Nat) #[.slice j v m,.slice g u l,aI,aK]) 10 (.take 0 (.take 1 (.take 2 (.take 3 (.take 4 (.take 5 (.take 6 (.take 7 (.take 8 (.one 9 .done)))))))))) kZ kZ ⟨a5.out.drew⟩ ?_;(iterate 9 refine tT ?_);clear d2 d3;refine eT ?_;have ea:J.cell? ⟨a,2,none⟩=some (.int .i64 s.c.aI):=an.out.cell 2;have eb:J.cell? ⟨a,3,none⟩=some (.int .i64 s.c.aK):=an.out.cell 3;have b7:∀n,J.frozen? ⟨a,n,none⟩=false:=λn=>an.out.frozen n;have cv:=qY (CbS (w:Nat) #[.slice j v m,.slice g u l,aI,aK] (J.setCell ⟨a,2,none⟩ (.int .i64 aI)).drew) (⟨Blk.drew (Blk.far a5.out b2.out _)⟩);apply uW;(focus rfl);(focus rfl);(focus(go_simp;first|done|rfl));(focus exact cv.out);(focus(go_simp;first|done|rfl));refine fZ ?_;show wpList prog _ _ (List.drop 10 _) _ _;simp only[bH,bJ];obtain⟨F,bm⟩:=nZ (((J.setCell ⟨a,2,none⟩ (.int .i64 aI)).setCell ⟨a,3,none⟩ (.int .i64 aK)).drew);have cl:aO (λi=>i=a) J F:=by rw[<-bm];exact((nK a 2 _ _).trans (nK a 3 _ _)).drew
   have dk:Blk F a 31 #[.slice H n1 c1,.slice L n2 c2,aI,aK,s.aN,s.next,.slice Ap ab be,.slice av ad bf,bq]:=by rw[<-bm];have:=Blk.bV (Blk.bV an.out 2 (.int .i64 aI)) 3 (.int .i64 aK);exact Blk.drew (by simpa using this)
   have ao:=qZ dk;have bz:=qZ (cp.out.trans cl);have af:=qZ (a5.out.bD cl b2.out);have cs:=qZ bm;clear cl dk bm cv;go_upto_region 8 with fail;rw[cs.out];clear ea eb b7 cs;have b6:F.cell? ⟨w,0,none⟩=some (.slice j v m):=af.out.cell 0;have d1:F.cell? ⟨w,1,none⟩=some (.slice g u l):=af.out.cell 1;have d2:F.cell? ⟨w,2,none⟩=some (.int .i64 aI):=af.out.cell 2;have d3:F.cell? ⟨w,3,none⟩=some (.int .i64 aK):=af.out.cell 3;have cn:=qZ (bu.out F (co.out F ((aO.bS (aA bb.out al.out)).trans bz.out)));clear bu;go_wp2_with fail;refine cn.out.mono ?_;rintro e K⟨ej,rfl,p,ca⟩;obtain⟨M,Q,c6,rfl⟩:=iO p;have br:=ao.out.below ca ao.out.lt;have ei:K.cell? ⟨a,8,none⟩=some bq:=br.cell 8;have eg:K.frozen? ⟨a,8,none⟩=false:=br.frozen 8;have ah:=qY (vE z Z a b5 0 (K.setCell ⟨a,8,none⟩ (.slice M Q c6))) (by
    have bo:aO (λi=>i=a) Y (K.setCell ⟨a,8,none⟩ (.slice M Q c6)):=(bz.out.trans (aO.bS ca)).trans (nK a 8 _ _);have d7:aO (λi=>i=a) K (K.setCell ⟨a,8,none⟩ (.slice M Q c6)):=nK a 8 _ _;have de:Below Z Z (K.setCell ⟨a,8,none⟩ (.slice M Q c6)):=f.out.on.trans (bo.below f.out.on.size λi hi=>by rw[hi];exact f.out.low);refine⟨de,λ_=>⟨.slice H n1 c1,.slice L n2 c2,.slice Ap ab be,.slice av ad bf,.slice M Q c6,rl,?_,?_,?_⟩⟩
    .rw[<-b4.out];have:=Blk.bV br 8 (.slice M Q c6);simp only[a8.out.2.2.1,a8.out.2.2.2.1];simpa using this
    .rw[<-b4.out];refine⟨⟨_,_,rfl,YN (b1.out.1.bD λb d=>bo.block b (b1.out.1.lt b d).2 (b1.out.2 b d)),YO (b3.out.1.bD λb d=>bo.block b (b3.out.1.lt b d).2 (b3.out.2 b d))⟩,rO f.out.ps de,(oM f.out.rs bo (λb d e=>f.out.nr (e▸d)) λy d6 O b d e=>(f.out.fh y d6 O b d).2 e).runs (by have:=bc.out.2;have:=a8.out.2.2.2.2.2;omega),f.out.map,VH ((show bQ K F 63 1 oL (.slice M Q c6) (List.replicate c.aP.length 0)from by rw[a8.out.1];exact p).bD λb d=>d7.block b (p.lt b d).2 λe=>by have b8:=(p.lt b d).1;have bg:=ao.out.lt;omega) λk ds=>by rw[List.eq_of_mem_replicate ds];exact bK _⟩
    .rw[<-b4.out];exact⟨λ_=>cq.out.1,λ_=>cq.out.2,f.out.far.ps,f.out.far.rs,f.out.far.hv,λ_ b d=>by have b8:=(p.lt b d).1;have bg:=ao.out.lt;have cw:=f.out.zlt;have cx:=f.out.low;omega⟩)
   have e1:=I.out;subst e1;clear p ca br cn b6 d1 d2 d3 ao bz af an cp a5 I;go_wp2_with fail;go_ret;exact⟨rfl,ah.out⟩
  .have I:=qY (err=7) (by rw[a9.out];rfl);have ah:=qY (vE z Z a b5 err T.drew) (⟨aA N.out.on aj.out,λe=>by rw[I.out]at e;cases e⟩);clear N am ba a9 bt bs bu;go_wp2_with fail;go_ret;have e1:=I.out;subst e1;exact⟨rfl,ah.out⟩
 .have dr:aa=2:=dn.out.resolve_left cd;subst dr;have I:=qY (err=2) (by rw[ai.out,aG dZ]);have ah:=qY (vE z Z a b5 err T) (⟨N.out.on,λe=>by rw[I.out]at e;cases e⟩);clear N am ba ai ay ax az ag cd;go_wp2_with fail;go_ret;have e1:=I.out;subst e1;exact⟨rfl,ah.out⟩
end bU
end Go.Proofs.YtedmeglbjmdlhaaGreatDoor
