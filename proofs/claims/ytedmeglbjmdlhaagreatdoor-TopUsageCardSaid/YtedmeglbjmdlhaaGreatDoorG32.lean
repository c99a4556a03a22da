/-
Parts that the laws of the whole program share: contracts of its functions, and plain laws.
-/
import Derived.Test.YtedmeglbjmdlhaaGreatDoorG31
import Derived.Test.YtedmeglbjmdlhaaGreatDoorG30
set_option maxRecDepth 100000
set_option maxHeartbeats 16000000
set_option linter.all false
open Go.Proofs.Tryz
namespace Go.Proofs.YtedmeglbjmdlhaaGreatDoor
open Go
open Crc Dsk Jou L Ord Quo Top bM bU pE pJ sK
variable{v:Value}{w:World}
namespace bU
open Go Go.RowKit L bM eZ Srt
theorem OX{ys:List vB}(h:RV w v ys):Calls prog 9 #[v] w λe w'=>∃a s ok,e=.returned (.tuple #[.agg a,.bool ok])/\((ok=false/\s=Top.new)\/(ok=true/\ys.length<=40/\s=tF ys ys.length))/\StV w' (w:Nat) a s/\Below w w w':=by
 have aa:=qZ h;obtain⟨A,ca,rfl,am,ak,ag⟩:=h;have ax:=qZ am;have av:=qZ (λy T=>(ag y T).1);obtain⟨N,I⟩:=nZ ys.length;have r:=qZ I;rw[I]at ak aa⊢;unfold maxLen at ak;obtain⟨n,p⟩:=nZ (w.alloc (.cells #[true,true,(),(),(),(),true,true,true] 31));have l:=qY (Below w w n) (by rw[<-p];exact bZ);have f:=qY (Blk n w 31 #[true,true,(),(),(),(),true,true,true]) (by rw[<-p];exact Blk.new _ _ _);have ay:=qZ p;have ab:Hid (∀wr wc z a s ok,aF n wr->Below wr wr wc->StV wc z a s->(wr:Nat)<=z->((ok=false/\s=Top.new)\/(ok=true/\N<=40/\s=tF ys N))->Blk (wc.setRow (w:Nat) a) (w:Nat) 31 a/\∃Z Y X,Ending.returned (.tuple #[.agg a,.bool ok])=.returned (.tuple #[.agg Z,.bool X])/\((X=false/\Y=Top.new)\/(X=true/\N<=40/\Y=tF ys N))/\StV (wc.setRow (w:Nat) a) (w:Nat) Z Y/\Below w w (wc.setRow (w:Nat) a)):=qZ (λwr wc z a s ok x F a0 bn a5=>by have bg:=l.size;have be:=f.out.lt;have bo:=x.size;have k:=jO wc (w:Nat) a;have ao:Below w w wr:=l.out.trans (x.mono bg);refine⟨((f.below x be).below F oZ).row a,a,s,ok,rfl,a5,(a0.off oZ k).low oZ,(ao.trans (F.mono ao.size)).trans (k.below (by have:=F.size;omega) λi e=>oZ)⟩);clear am ag I p;go_enter func9,ntmps9;go_upto_region 1 with fail;rw[ay.out];go_wp2_with fail;go_loopg[4,5] N (λaz v4 bl wr=>∃(k:Nat) (c:Int),bl=.int .i64 k/\v4=.int .i64 c/\k<=N/\N<=az+k/\Hid (aF n wr));case atStart=>exact⟨0,0,mZ,rfl,oZ,oZ,qZ (aJ _ _)⟩
 case round=>
  obtain⟨k,c,rfl,rfl,bq,bc,b⟩:=hrel;by_cases M:k<N/\c<400
  .obtain⟨M,a9⟩:=M;have bs:(k:Int)<(N:Int):=oZ;have ah:k<ys.length:=by rw[r.out];exact M
   obtain⟨ad,ap,rfl,a8,K⟩:=ahw ax ah;have T:=av.out _ (bB ah);generalize ys[k]=y at*;obtain⟨_,_,e,⟨B1,bh,rfl,_,ai⟩,⟨B2,bi,rfl,_,aj⟩⟩:=T;simp only[Value.agg.injEq,eO,cB,and_true]at e;obtain⟨e1,e2⟩:=e;obtain⟨bj,O⟩:=nZ y.x.c.aP.length;obtain⟨bk,Q⟩:=nZ y.x.c.aQ.length;rw[O]at e1 ai;rw[Q]at e2 aj;unfold maxLen at ai aj;have bm:=qZ (aC O Q);have bu:∀W,aF wr W->CV W ad (ap+k*15+1) (.slice B1 bj bh):=λW J=>K W (l.out.trans ((b.out.trans (J.mono b.size)).mono l.size)) 1 _ (by rw[<-e1];rfl);have bv:∀W,aF wr W->CV W ad (ap+k*15+2) (.slice B2 bk bi):=λW J=>K W (l.out.trans ((b.out.trans (J.mono b.size)).mono l.size)) 2 _ (by rw[<-e2];rfl);have aw:=qY (aF n wr.drew) (Below.drew b);clear K e1 e2 a8 O Q;go_upto_region 5 with fail;refine QD (.take 0 (.take 1 (.take 2 (.take 3 (.take 4 (.take 5 (.take 6 (.take 7 (.take 8 (.take 9 (.take 10 (.take 11 (.take 12 (.take 13 (.take 14 (.take 15 (.take 16 (.take 17 (.take 18 .done))))))))))))))))))) kZ kZ ?_;(iterate 19 refine tT ?_);refine fZ ?_;go_wp2_with fail;go_roundg(N-(k+1));case measure=>omega
   case rel=>exact⟨k+1,_,mZ,rfl,oZ,oZ,aw⟩
  .clear bc;have bd:(k:Int)<(N:Int)->400<=c:=λh=>oZ;by_cases al:c<400/\N<=40
   .obtain⟨a9,bf⟩:=al;have br:¬(k:Int)<(N:Int):=oZ;have bt:¬(40:Int)<(N:Int):=oZ;have bp:¬(400:Int)<=c:=oZ;have ar:=qZ (alr aa (by rw[r.out];omega) wr (l.out.trans (b.mono l.size)));go_upto_region 8 with fail;go_wp2_with fail;refine ar.mono ?_;rintro e wc⟨a,bw,rfl,g,bb,j⟩;rw[r.out]at g;have o:=xB wc a;have ae:=g.below o;have d:=qZ g;have au:=qZ (uD.new g (aJ _ wc));have af:=ab.out wr (bx wc a) _ a _ true b (j.trans (o.mono j.size)) ae lZ (.inr ⟨rfl,bf,rfl⟩);have u:=qZ (((f.below b f.out.lt).below j (aM f.out.lt b.size)).below o (aM f.out.lt (aV b.size j.size)));have m:=qZ af;clear bb j g o ae af;go_upto_region 9 with(refine rZ rfl (.tmp 6) (.tmp 47) rfl rfl a rfl d ?_);go_wp2_with(first|refine AB rfl (.tmp 6) rfl au rfl ?_ |refine wpList_store_row rfl 31 (.tmp 2) (.tmp 49) rfl (w:Nat) a rfl rfl 31 _ u d.info (by rw[d.out.size];rfl) d.one ?_);refine bodyPost_ret (v:=.tuple #[.agg a,.bool true]) (xE Tryz.results9 rfl m.1 underlying31 rfl d.info _ rfl) rfl ?_;exact m.2
   .have aq:=qZ (VG wr);have ba:(¬(400:Int)<=c/\c<400/\(40:Int)<(N:Int)/\¬(k:Int)<(N:Int))\/(400<=c/\¬c<400/\(k:Int)<(N:Int))\/(400<=c/\¬c<400/\¬(k:Int)<(N:Int)):=oZ;clear bd al;rcases ba with⟨_,_,_,_⟩|⟨_,_,_⟩|⟨_,_,_⟩
    all_goals
     go_upto_region 7 with fail;go_wp2_with fail;refine aq.mono ?_;rintro e wc⟨rfl,an,j⟩;obtain⟨a,H⟩:∃a,stv (.slice none 0 0) (.slice none 0 0) (.slice none 0 0) (.slice none 0 0) (.slice none 0 0) Top.new=.agg a:=⟨_,rfl⟩;rw[H];have g:=ajs (wr:Nat) H an;have d:=qZ g;have u:=qZ ((f.below b f.out.lt).below j (aM f.out.lt b.size));have m:=qZ (ab wr wc _ a _ false b j g lZ (.inl ⟨rfl,rfl⟩));clear an j H g;go_wp2_with(refine wpList_store_row rfl 31 (.tmp 2) (.tmp 43) rfl (w:Nat) a rfl rfl 31 _ u d.info (by rw[d.out.size];rfl) d.one ?_);refine bodyPost_ret (v:=.tuple #[.agg a,.bool false]) (xE Tryz.results9 rfl m.1 underlying31 rfl d.info _ rfl) rfl ?_;exact m.2
end bU
variable{s:Top.S}
namespace bU
open Go Go.RowKit L bM eZ Srt
theorem KQ{ys:List vB}{ok:Bool}(h:(ok=false/\s=Top.new)\/(ok=true/\ys.length<=40/\s=tF ys ys.length))(e:ok=true):Top.Good ys.length s/\ys.length<=40/\∃l,s=jB l:=by
 rcases h with⟨h,_⟩|⟨_,a,rfl⟩
 .rw[e]at h;cases h
 .exact⟨UF ys _ lZ,a,_,rfl⟩
def atj(x:Top.Cmd)(w:World)(e:Ending)(w':World):Prop:=∃v1 v2,e=.returned (.tuple #[rY x.kind v1 v2 x.c.aI x.c.aK x.g x.n,.agg #[true,true,(),(),(),(),true,true,true],.bool false,.nilIface])/\uT (w:Nat) w' v1 v2 x.c/\Below w w w'
theorem alU{x:Top.Cmd}(ab:Top.Plain x)(w:World):Calls prog 252 #[.string (str (mQ x))] w λe w'=>atj x w e w':=by
 have A:=qZ (λW=>akh ab W);have Q:=qZ (aeb 67 (Top.bytes (rX x)));have r:(str (mQ x)).size=(Top.bytes (rX x)).length+1:=by unfold mQ;rw[pF,List.length_cons]
 have aa:=uE ab;have Y:∀w,(Instr.index 9 (.string (str (mQ x))) (.int .i64 0)).run prog w=.ok (.int .u8 67) w:=λw=>
  vJ 9 underlying9 (str (mQ x)) .i64 0 (by rw[r];omega) w
 have k:(str (mQ x)).data.toList=67::Top.bytes (rX x):=mO _;unfold mQ at r aa Y k⊢;obtain⟨E,af⟩:=nZ (Top.bytes (rX x));rw[af]at A Q r aa Y k⊢;obtain⟨s,aj⟩:=nZ (str (67::E));rw[aj]at Q r Y k⊢;have bf:1<=s.size:=oZ;have bc:s.toList.isEmpty=false:=by
  have h:=pJ.aqB (a:=s) (b:=ByteArray.empty) (λe=>by rw[e]at k;cases k);cases F:s.toList with
  |nil=>rw[F]at h;simp at h
  |cons a l=>rfl
 obtain⟨K,u⟩:=nZ ((w.alloc (.cells #[(),true,true,(),(),(),(),(),(),(),(),(),(),(),()] 61)).alloc (.cells #[true,true,(),(),(),(),true,true,true] 31));have ag:Below w w K:=by rw[<-u];exact(bZ).alloc sZ _
 have x0:Blk K w 61 #[(),true,true,(),(),(),(),(),(),(),(),(),(),(),()]:=by rw[<-u];exact(Blk.new w _ _).alloc _
 have al:Blk K ((w:Nat)+1) 31 #[true,true,(),(),(),(),true,true,true]:=by have:=Blk.new (w.alloc (.cells #[(),true,true,(),(),(),(),(),(),(),(),(),(),(),()] 61)) 31 #[true,true,(),(),(),(),true,true,true];rw[bC]at this;rw[<-u];exact this
 have T:=qZ x0;have X:=qZ al;have ad:=qZ ag;have ap:=qZ u;clear aj r aa k af x0 al ag u ab;go_enter func252,ntmps252;go_upto_region 3 with fail;rw[ap.out];rw[<-Q.out]at A;go_wp2_with fail;refine(A.out _).mono ?_;rintro e w1⟨v1,v2,rfl,cf,o⟩;obtain⟨B1,f,c,rfl⟩:=bX.s1 cf.cfg;obtain⟨B2,g,d,rfl⟩:=bX.s2 cf.cfg;simp only[rY,iD];simp only[fH,List.cons_append,List.nil_append];have ah:=T.out.lt;have ai:=X.out.lt;obtain⟨j,H⟩:=nZ (w1.alloc (.cells #[x.kind,.slice B1 f c,.slice B2 g d,x.c.aI,x.c.aK,x.g.id,x.g.dN,x.g.eU,x.g.need.x,x.g.need.y,x.g.need.z,x.g.run,x.g.aR,x.g.prefer,x.n] 61));have p:=aB H;obtain⟨z,Z⟩:=nZ (w1:Nat);have a5:=o.size;have au:=qY (Blk j z 61 (tQ x (.slice B1 f c) (.slice B2 g d))) (by rw[<-H,<-Z];exact Blk.new _ _ _);have L:=(T.below o T.out.lt).below p oZ;have M:=(X.below o X.out.lt).below p oZ;have an:=qZ (cf.below p);have N:=qZ (ad.out.trans ((aA o p).mono ad.size));have O:=qZ (aC ah ai);have aq:=qZ H;have am:=qZ Z;have ae:=qY ((K:Nat)<=z) oZ;clear cf o p H Z a5 ah ai A;go_upto_region 6 with fail;rw[aq.out,am.out];obtain⟨bg,p1,p2,p3,p4,bm,p6,bn,bo,bp,bh,bi,bj,bk,bl⟩:=au.c15;obtain⟨z0,z1,z2,b0,z4,b1,b2,b3,b4,b5,bt,bu,bv,bw,bz⟩:=L.c15;obtain⟨bq,s1,s2,s3,s4,br,s6,s7,bs⟩:=M.c9;have a8:∀n,j.frozen? ⟨(w:Nat),n,none⟩=false:=λn=>L.frozen n;have a9:∀n,j.frozen? ⟨(w:Nat)+1,n,none⟩=false:=λn=>M.frozen n;obtain⟨m,I⟩:=nZ (CR (fifteen j (w:Nat) x (.slice B1 f c) (.slice B2 g d)) ((w:Nat)+1) (.slice none 0 0) (.slice none 0 0) (.int .i64 0) (.int .i64 0) (.int .i64 0) (.int .i64 0) (.slice none 0 0) (.slice none 0 0) (.slice none 0 0));have ak:(((((((((((((((((((((((j.setCell (w,0) x.kind).setCell (w,1) (.slice B1 f c)).setCell (w,2) (.slice B2 g d)).setCell (w,3) x.c.aI).setCell (w,4) x.c.aK).setCell (w,5) x.g.id).setCell (w,6) x.g.dN).setCell (w,7) x.g.eU).setCell (w,8) x.g.need.x).setCell (w,9) x.g.need.y).setCell (w,10) x.g.need.z).setCell (w,11) x.g.run).setCell (w,12) x.g.aR).setCell (w,13) x.g.prefer).setCell (w,14) x.n).setCell ((w:Nat)+1,0) (.slice none 0 0)).setCell ((w:Nat)+1,1) (.slice none 0 0)).setCell ((w:Nat)+1,2) (.int .i64 0)).setCell ((w:Nat)+1,3) (.int .i64 0)).setCell ((w:Nat)+1,4) (.int .i64 0)).setCell ((w:Nat)+1,5) (.int .i64 0)).setCell ((w:Nat)+1,6) (.slice none 0 0)).setCell ((w:Nat)+1,7) (.slice none 0 0)).setCell ((w:Nat)+1,8) (.slice none 0 0)=m:=I;have y:aO (λi=>i=(w:Nat)) j (fifteen j (w:Nat) x (.slice B1 f c) (.slice B2 g d)):=RD _ _ _ _ _;have J:aO (λi=>i=(w:Nat)+1) (fifteen j (w:Nat) x (.slice B1 f c) (.slice B2 g d)) m:=by rw[<-I];exact MV _ _ _ _ _ _ _ _ _ _ _
 have a0:Blk m w 61 (tQ x (.slice B1 f c) (.slice B2 g d)):=(UN L).bD J oZ;have a1:Blk m ((w:Nat)+1) 31 #[true,true,(),(),(),(),true,true,true]:=by rw[<-I];exact JG (M.bD y oZ) _ _ _ _ _ _ _ _ _
 have ao:=qY (uT (w:Nat) m (.slice B1 f c) (.slice B2 g d) x.c/\Below w w m) (by have F:=O.out;exact⟨((an.bD y λi e=>by rw[e];exact F.1).bD J λi e=>by rw[e];exact F.2).low oZ,(N.out.trans (y.below N.size λi e=>oZ)).trans (J.below (aV N.size y.size) λi e=>oZ)⟩);have ar:=qZ ak;obtain⟨av,c1,c2,c3,c4,c5,c6,c7,c8,c9,c10,c11,c12,c13,c14⟩:=a0.c15;obtain⟨aw,d1,d2,d3,d4,d5,ax,ay,az⟩:=a1.c9;have bd:¬(w:Nat)=(w:Nat)+1:=oZ;have be:¬(w:Nat)+1=(w:Nat):=oZ;have ba:¬z=(w:Nat):=by have:=O.1;have:=ae.out;omega
 have bb:¬z=(w:Nat)+1:=by have:=O.2;have:=ae.out;omega
 clear L M I ak y J a0 a1;go_wp2_with fail;rw[ar.out];refine bodyPost_ret (v:=.tuple #[.agg #[x.kind,.slice B1 f c,.slice B2 g d,x.c.aI,x.c.aK,x.g.id,x.g.dN,x.g.eU,x.g.need.x,x.g.need.y,x.g.need.z,x.g.run,x.g.aR,x.g.prefer,x.n],.agg #[true,true,(),(),(),(),true,true,true],.bool false,.nilIface]) (by simp[results,Tryz.results252,go_sem,av,c1,c2,c3,c4,c5,c6,c7,c8,c9,c10,c11,c12,c13,c14,aw,d1,d2,d3,d4,d5,ax,ay,az]) rfl ?_;exact⟨_,_,rfl,ao⟩
end bU
variable{L:List Int}{k n:Nat}{W W' w1:World}
namespace bU
open Go Go.RowKit L bM eZ Srt
theorem HY.dU{c:Value}(h:HY w1 W n s L c)(a:Below W W W'):HY w1 W' n s L c:=by obtain⟨d,b,e⟩:=h.st;exact⟨aA h.old a,⟨d,b.below a b.lt,e.below a⟩,h.out.below a,h.zero.below a h.zero.lt⟩
def aoh(xs:List Top.Cmd)(w1:World)(e:Ending)(w':World):Prop:=∃v1 v2 vp vr vh rl,e=.returned (.tuple #[stv v1 v2 vp vr vh (jB xs),.nilIface])/\StR w' v1 v2 vp vr vh (jB xs) rl/\rV w1 v1 v2 vp vr vh (jB xs) rl/\Below w1 w1 w'
theorem amf(xs:List Top.Cmd)(h:k<xs.length):jB (xs.take (k+1))=(Top.apply (jB (xs.take k)) xs[k]).1:=by unfold jB;rw[bF h,fB];rfl
theorem ajd(xs:List Top.Cmd)(k:Nat)(h:k<=xs.length):Top.Good k (jB (xs.take k)):=by have:=IX (xs.take k);rwa [bO,iM h]at this
theorem aiP{B:Nat}{xs:List Top.Cmd}(aw:abo xs)(bo:xs.length<=900)(ay:pJ.GZ w B v (xs.map mQ)):∀w1,Below w w w1->Calls prog 224 #[v] w1 λe w'=>aoh xs w1 e w':=by
 intro w1 aa;obtain⟨A,ca,rfl,av⟩:=fI.form ay;have ax:((xs.map mQ).map pJ.vs).length=xs.length:=sZ;rw[ax];have bc:=qZ (λ(k:Nat) (ag:k<xs.length)=>show∃g,A=some ⟨g,0,none⟩/\∀W,Below w1 w1 W->W.cell? ⟨g,k,none⟩=some (.string (str (mQ xs[k])))from by obtain⟨g,e,bn,bl⟩:=av (by intro e;have:=dA List.length e;simp at this;subst this;simp at ag);refine⟨g,e,λW bk=>?_⟩;refine((aa.trans (bk.mono aa.size)).cell (p:=⟨g,k,none⟩) bn).trans (bl k _ ?_);simp[ag,pJ.vs]);have O:=qZ aw;obtain⟨N,Z⟩:=nZ xs.length;have an:=qZ Z;rw[Z]at bo⊢;clear ay av ax aw Z aa;go_enter func224,ntmps224;go_wp2_with fail;refine(VG _).mono ?_;rintro e l⟨rfl,a0,ab⟩;obtain⟨c,Y⟩:∃c,stv (.slice none 0 0) (.slice none 0 0) (.slice none 0 0) (.slice none 0 0) (.slice none 0 0) Top.new=.agg c:=⟨_,rfl⟩;rw[Y];have d:=ajs ((w1:Nat)+1) Y a0;have bg:=qZ d;have I:=xB l c;have x0:Blk l w1 31 #[true,true,(),(),(),(),true,true,true]:=(Blk.new w1 _ _).below ab sZ;have ar:=qY (HY w1 (bx l c) (l:Nat) (jB (xs.take 0)) [] (.slice none 0 0)) (⟨aA ((bZ).trans (ab.mono sZ)) I,⟨c,(Blk.new _ _ _).row c,d.below I⟩,bQ.nil _ _ _ _ _,x0.below I x0.lt⟩);have am:=qY ((w1:Nat)<(l:Nat)) x0.lt;obtain⟨j,K⟩:=nZ (l:Nat);obtain⟨b3,ah⟩:=nZ (bx l c);rw[K,ah]at ar;rw[K]at am;have ap:=qZ (aC K ah);clear I x0 a0 ab K ah d Y;go_upto_region 2 with(refine rZ rfl (.tmp 4) (.tmp 13) rfl rfl c rfl bg ?_);rw[ap.out.1,ap.out.2];go_wp2_with fail;go_loopg[5,16] N (λbj bu bt wr=>∃(k:Nat),bt=.int .i64 k/\k<=N/\N<=bj+k/\bu=.nilIface/\Hid (HY w1 wr j (jB (xs.take k)) [] (.slice none 0 0)));case atStart=>exact⟨0,mZ,oZ,oZ,rfl,ar⟩
 case round=>
  obtain⟨k,rfl,ag,bw,rfl,s⟩:=hrel;by_cases bp:k<N
  .have b0:(k:Int)<(N:Int):=oZ;have m:k<xs.length:=by rw[an.out];exact bp
   obtain⟨g,rfl,af⟩:=bc.out k m;replace af:=af wr s.old;have aj:=qZ (λW=>alU (O.1 _ (bB m)) W);have al:=qZ (ajd xs k oZ);have ao:=qZ (amf xs m);have ak:=qZ (O.2 k m);have bf:=qZ (O.1 _ (bB m));generalize xs[k]=x at*;obtain⟨b1,az⟩:=nZ (jB (xs.take k));rw[az]at al ao ak s;clear az m;go_wp2_with fail;refine(aj _).mono ?_;rintro e n⟨v1,v2,rfl,cf,au⟩;obtain⟨B1,a9,a5,rfl⟩:=bX.s1 cf.cfg;obtain⟨B2,ba,a8,rfl⟩:=bX.s2 cf.cfg;simp only[rY,iD];simp only[fH,List.cons_append,List.nil_append];go_upto_region 13 with fail;obtain⟨ai,M⟩:=nZ ((n.alloc (.cells #[x.kind,.slice B1 a9 a5,.slice B2 ba a8,x.c.aI,x.c.aK,x.g.id,x.g.dN,x.g.eU,x.g.need.x,x.g.need.y,x.g.need.z,x.g.run,x.g.aR,x.g.prefer,x.n] 61)).alloc (.cells #[true,true,(),(),(),(),true,true,true] 31));have ad:Below n n ai:=by rw[<-M];exact(bZ).alloc sZ _
   have bb:Blk ai n 61 #[x.kind,.slice B1 a9 a5,.slice B2 ba a8,x.c.aI,x.c.aK,x.g.id,x.g.dN,x.g.eU,x.g.need.x,x.g.need.y,x.g.need.z,x.g.run,x.g.aR,x.g.prefer,x.n]:=by rw[<-M];exact(Blk.new n _ _).alloc _
   have Q:=qZ ((s.dU au).dU ad);obtain⟨c,u,d⟩:=Q.st;have z:=qZ (LD (x:=x) d al oZ (cf.below ad).cfg (by rw[bf.out.n];decide) ai (aJ _ _));simp only[rY,iD]at z;simp only[fH,List.cons_append,List.nil_append]at z;have F:=qZ u;have bh:=qZ M;have bi:=qZ bb;have f:=qZ d;clear M ad bb u d cf au aj af;rw[bh.out];go_wp2_with(first
    |refine wpList_load_row rfl 31 (.tmp 4) rfl j rfl 31 c (0,0) _ F underlying31 rfl f.info ?_
    |refine wpList_load_row rfl 61 (.tmp 8) rfl (n:Nat) rfl 61 _ (0,0) _ bi underlying61 rfl afE ?_)
   refine z.mono ?_;rintro e wc⟨r,b2,rfl,H,bm,ae⟩;rw[ak.out];rw[<-ao.out]at H;have J:=jO wc j r;have aq:=qZ (F.below ae F.out.lt);have bq:=am.out;have bs:=Q.zero.lt;have bd:=qY (HY w1 (wc.setRow j r) j (jB (xs.take (k+1))) [] (.slice none 0 0)) (by have o:=Q.dU ae;exact⟨o.old.trans (J.below o.old.size λi e=>oZ),⟨r,aq.row r,(H.off F.out.lt J).low oZ⟩,bQ.nil _ _ _ _ _,o.zero.bD J oZ⟩);have T:=qZ H;clear J bm ae H bq bs z;go_upto_region 14 with(refine wpList_store_row rfl 31 (.tmp 4) (.tmp 42) rfl j r rfl rfl 31 _ aq T.info (by rw[T.out.size,f.out.size]) T.one ?_);go_wp2_with fail;go_roundg(N-(k+1));case measure=>omega
   case rel=>exact⟨k+1,mZ,oZ,oZ,rfl,bd⟩
  .have bz:¬(k:Int)<(N:Int):=oZ;have y:=s.out;rw[aT (by have:=an.out;omega)]at y;obtain⟨c,u,d⟩:=y.st;have be:=qY (aoh xs w1 (.returned (.tuple #[.agg c,.nilIface])) (wr.setRow (w1:Nat) c)) (by obtain⟨⟨v1,v2,vp,vr,bv,rl,e,a,b⟩,br⟩:=d.aaR (Nat.lt_succ_self _) lZ y.old;exact⟨v1,v2,vp,vr,bv,rl,by rw[e],a,b,br⟩);have f:=qZ d;have X:=qZ (aC u y.zero);clear u y d s;go_wp2_with(first
    |refine wpList_load_row rfl 31 (.tmp 4) rfl j rfl 31 _ (0,0) _ X.1 underlying31 rfl f.info ?_
    |refine wpList_store_row rfl 31 (.tmp 2) (.tmp 49) rfl (w1:Nat) c rfl rfl 31 _ X.2 f.info (by rw[f.out.size];rfl) f.one ?_)
   refine bodyPost_ret (v:=.tuple #[.agg c,.nilIface]) (xE Tryz.results224 rfl (X.2.row c) underlying31 rfl f.info _ rfl) rfl ?_;exact be
open pE pJ
def CW(v1 v2 vp vr vh:Value)(s:Top.S)(rl:List Run)(k:Nat):Prop:=(s.c.aP≠[]/\v1.ownBlock=some k)\/(s.c.aQ≠[]/\v2.ownBlock=some k)\/(s.ps≠[]/\vp.ownBlock=some k)\/(rl≠[]/\vr.ownBlock=some k)\/(∃y∈rl,y.aQ≠[]/\y.hv.ownBlock=some k)\/(s.h≠[]/\vh.ownBlock=some k)
section
variable {w w':World} {v1 v2 vp vr vh:Value} {s:Top.S} {rl:List Run} {k z:Nat}
theorem rV.foot(h:rV z v1 v2 vp vr vh s rl)(c:CW v1 v2 vp vr vh s rl k):z<=k:=by
 rcases c with⟨a,b⟩|⟨a,b⟩|⟨a,b⟩|⟨a,b⟩|⟨y,d,a,b⟩|⟨a,b⟩
 .exact h.aP a k b
 .exact h.aQ a k b
 .exact h.ps a k b
 .exact h.rs a k b
 .exact h.hv y d a k b
 .exact h.h a k b
theorem KO{α:Type}{A:Option Addr}{n c j:Nat}{dec:α->List Value}{xs:List α}(h:gQ w A j dec xs)(d:xs≠[])(a:(Value.slice A n c).ownBlock=some k):k<(w:Nat):=by
 obtain⟨b,o,rfl,f,_⟩:=h d;have e:b=k:=by simpa[Value.ownBlock]using a
 omega
theorem StR.foot(h:StR w v1 v2 vp vr vh s rl)(d:CW v1 v2 vp vr vh s rl k):k<(w:Nat):=by
 obtain⟨⟨N,O,e,⟨A,ca,rfl,j,z⟩,⟨B,n,rfl,l,F⟩⟩,⟨P,p,rfl,J,K,f,L⟩,⟨Q,r,rfl,g,M,i⟩,I,⟨H,o,rfl,c,v,x⟩⟩:=h;simp only[Value.agg.injEq,eO,cB,and_true]at e;obtain⟨rfl,rfl⟩:=e;rcases d with⟨a,b⟩|⟨a,b⟩|⟨a,b⟩|⟨a,b⟩|⟨y,m,a,b⟩|⟨a,b⟩
 .exact KO j a b
 .exact KO l a b
 .exact KO f a b
 .exact KO g a b
 .obtain⟨V,u,e,hv,_⟩:=i y m;rw[e]at b;exact KO hv a b
 .exact KO c a b
theorem zP{α:Type}{A:Option Addr}{n c j:Nat}{F:Nat->Prop}{dec:α->List Value}{xs:List α}(h:gQ w A j dec xs)(a:aO F w w')(k:xs≠[]->∀b,(Value.slice A n c).ownBlock=some b->¬F b):gQ w' A j dec xs:=λe=>by obtain⟨g,o,rfl,d,f⟩:=h e;exact⟨g,o,rfl,aM d a.size,λi x m q u l=>(a.cell (p:=⟨g,o+i*j+q,none⟩) d (k e g rfl)).trans (f i x m q u l)⟩
theorem StR.xA{F:Nat->Prop}(h:StR w v1 v2 vp vr vh s rl)(d:aO F w w')(c:∀b,CW v1 v2 vp vr vh s rl b->¬F b):StR w' v1 v2 vp vr vh s rl:=by obtain⟨⟨T,W,e,⟨A,ca,rfl,M,p⟩,⟨B,g,rfl,N,r⟩⟩,⟨P,j,rfl,v,x,z,I⟩,⟨Q,k,rfl,J,K,L⟩,u,⟨H,i,rfl,m,n,o⟩⟩:=h;simp only[Value.agg.injEq,eO,cB,and_true]at e;obtain⟨rfl,rfl⟩:=e;refine⟨⟨_,_,rfl,⟨A,ca,rfl,zP M d λa b e=>c b (.inl ⟨a,e⟩),p⟩,⟨B,g,rfl,zP N d λa b e=>c b (.inr (.inl ⟨a,e⟩)),r⟩⟩,⟨P,j,rfl,v,x,zP z d λa b e=>c b (.inr (.inr (.inl ⟨a,e⟩))),I⟩,⟨Q,k,rfl,zP J d λa b e=>c b (.inr (.inr (.inr (.inl ⟨a,e⟩)))),K,λy f=>?_⟩,u,⟨H,i,rfl,zP m d λa b e=>c b (.inr (.inr (.inr (.inr (.inr ⟨a,e⟩))))),n,o⟩⟩;obtain⟨V,l,e,hv,O⟩:=L y f;exact⟨V,l,e,zP hv d λa b e2=>c b (.inr (.inr (.inr (.inr (.inl ⟨y,f,a,by rw[e];exact e2⟩))))),O⟩
end
structure qU (B:Nat) (L:Nat->Prop) (z:Nat) (w:World) (sb g m:Nat) (xs:List Top.Cmd):Prop where
 ex:∃j v1 v2 vp vr vh rl,Blk w sb 246 #[.pointer (some ⟨j,0,none⟩),v1,v2,.int .i64 (jB xs).c.aI,.int .i64 (jB xs).c.aK,.int .i64 (jB xs).aN,.int .i64 (jB xs).next,vp,vr,vh]/\
  StR w v1 v2 vp vr vh (jB xs) rl/\zH B (λk=>L k\/k=sb\/CW v1 v2 vp vr vh (jB xs) rl k) w j g m (Top.bD xs) xs.length/\(∀k,CW v1 v2 vp vr vh (jB xs) rl k->z<=k/\k≠sb)
 low:B<=sb
 apart:¬L sb
theorem amF(ty:TypeId)(a:Value)(w:World):Calls prog 225 #[.nilIface,.iface ty a] w λe w'=>e=.returned (.bool false)/\w'=w:=by have b:∀w,(binOp .eql 291 .nilIface (.iface ty a)).run prog w=.ok (.bool false) w:=λw=>kZ;go_enter func225,ntmps225;go_wp2_with fail;go_ret;exact⟨rfl,rfl⟩
def arh(B:Nat)(L:Nat->Prop)(g m:Nat)(xs:List Top.Cmd)(w:World)(e:Ending)(w':World):Prop:=∃sb,e=.returned (.tuple #[.pointer (some ⟨sb,0,none⟩),()])/\qU B L (w:Nat) w' sb g m xs/\(w:Nat)<=sb/\aO (Room B L) w w'
theorem alu{B:Nat}{L:Nat->Prop}{w:World}{g m:Nat}{xs:List Top.Cmd}(o:pE.Own B L w g (Jou.clean m (Top.bD xs)))(r:B<=(w:Nat))(bg:0<B)(J:Live L w)(x:abo xs)(bj:xs.length<=900){ty:TypeId}{F:Value}(ai:w.cell? (0,0)=some (.iface ty F)):Calls prog 187 #[.pointer g] w λe w'=>arh B L g m xs w e w':=by
 have l:=qZ (apz o r J);unfold abn at l;rw[acr x.1,agQ x.1,bN]at l;have a0:=qZ x;have H:=qZ r;have ba:=qZ J;have a5:=qZ ai;clear o r J x ai;go_enter func187,ntmps187;go_wp2_with fail;refine l.out.mono ?_;rintro e w1⟨v,j,rfl,d,bl,bm,aj,N⟩;have ag:=qZ (aiP a0 bj d w1 (aJ _ _));obtain⟨A,bt,ca,rfl⟩:∃A n c,v=.slice A n c:=by obtain⟨A,c,e,_⟩:=d.form;exact⟨_,_,_,e⟩
 have a9:=qZ aj;have ad:=qZ N;have af:CV w1 0 0 (.iface ty F):=(N.cell (p:=⟨0,0,none⟩) (by have:=H.out;show 0<_;omega) (λd=>by have h:B<=0:=d.1;omega)).trans a5;have a8:=qZ af;clear l d bl bm aj N af;go_wp2_with fail;refine ag.out.mono ?_;rintro e aw⟨v1,v2,vp,vr,vh,rl,rfl,a,M,u⟩;have I:=qZ (λk (h:CW v1 v2 vp vr vh (jB xs) rl k)=>aC (M.foot h) (a.foot h));obtain⟨s,O⟩:=nZ (jB xs);have f:=qZ O;rw[O]at a M I⊢;simp only[stv];obtain⟨X,n1,al,rfl⟩:=bX.s1 a.cfg;obtain⟨Y,n2,am,rfl⟩:=bX.s2 a.cfg;obtain⟨Z,aq,an,rfl⟩:=pS a.ps;obtain⟨aa,ar,ao,rfl⟩:=rS a.rs;obtain⟨ab,au,ap,rfl⟩:=fS a.h;obtain⟨W,y⟩:=nZ (aw.alloc (.cells #[.slice X n1 al,.slice Y n2 am,s.c.aI,s.c.aK,s.aN,s.next,.slice Z aq an,.slice aa ar ao,.slice ab au ap] 31));have b:=aB y;obtain⟨bv,T⟩:=nZ (aw:Nat);have ay:=aY y T;have bh:=aM bg H;have bi:=ad.size;have bf:CV W 0 0 (.iface ty F):=((aA u b).cell (p:=⟨0,0,none⟩) (by show 0<_;omega)).trans a8;obtain⟨ax,z⟩:=nZ (W.alloc (.cells #[.pointer j,.slice X n1 al,.slice Y n2 am,s.c.aI,s.c.aK,s.aN,s.next,.slice Z aq an,.slice aa ar ao,.slice ab au ap] 246));obtain⟨av,Q⟩:=nZ (W:Nat);have K:=aB z;have az:=aY z Q;have bb:=qY (arh B L g m xs w (.returned (.tuple #[.pointer av,()])) ax) (by
  have ah:Below w1 w1 ax:=aA (aA u b) K;have br:=u.size;have bs:=b.size;have r:=H.out;have bk:=λi (hi:L i)=>ba i hi;refine⟨av,rfl,⟨⟨j,_,_,_,_,_,rl,by rw[f.out];exact az,by rw[f.out];exact(a.below b).below K,?_,λk ak=>?_⟩,oZ,λh=>by have:=bk _ h;omega⟩,oZ,ad.out.trans (aO.bS ah)⟩
  .rw[f.out];refine a9.more (G:=λ_=>False) (aO.bS ah) (λ_ h=>h.elim) (λi hi=>?_);rcases hi with h|h|h
   .exact .inl (.inl h)
   .right;omega
   .exact .inr (I i h).1
  .rw[f.out]at ak;have h:=I.out k ak;exact⟨oZ,oZ⟩)
 have bc:=qZ y;have be:=qZ T;have bd:=qZ ay;have ae:=qZ (aC z Q);clear ag a M u b K y T ay z Q az bh bi O;go_upto_region 3 with fail;rw[bc.out,be.out];go_wp2_with fail;refine(amF ty F _).mono ?_;rintro e bu⟨rfl,rfl⟩;clear bf;obtain⟨bn,d1,d2,d3,d4,d5,bo,bp,bq⟩:=bd.c9;go_wp2_with fail;rw[ae.out.1,ae.out.2];go_ret2;exact bb
end bU
variable{g m z:Nat}
namespace bU
open Go Go.RowKit L bM eZ Srt pE pJ
def adq(w:World)(b:Nat)(u0 u1 u2 u3 u4 u5 u6 u7 u8:Value):World:=((((((((w.setCell (b,1) u0).setCell (b,2) u1).setCell (b,3) u2).setCell (b,4) u3).setCell (b,5) u4).setCell (b,6) u5).setCell (b,7) u6).setCell (b,8) u7).setCell (b,9) u8
theorem amu{b:Nat}{t:TypeId}{q a c1 c2 c3 c4 c5 c6 c7 c8:Value}(h:Blk w b t #[q,a,c1,c2,c3,c4,c5,c6,c7,c8])(u0 u1 u2 u3 u4 u5 u6 u7 u8:Value):Blk (adq w b u0 u1 u2 u3 u4 u5 u6 u7 u8) b t #[q,u0,u1,u2,u3,u4,u5,u6,u7,u8]:=by have h:=(((((((((h.bV 1 u0).bV 2 u1).bV 3 u2).bV 4 u3).bV 5 u4).bV 6 u5).bV 7 u6).bV 8 u7).bV 9 u8);simpa[adq]using h
theorem ajr(w:World)(b:Nat)(u0 u1 u2 u3 u4 u5 u6 u7 u8:Value):aO (λi=>i=b) w (adq w b u0 u1 u2 u3 u4 u5 u6 u7 u8):=by have a:∀(W:World) (j:Nat) (u:Value),aO (λi=>i=b) w W->aO (λi=>i=b) w (W.setCell (b,j) u):=λW j u h=>h.setCell (p:=⟨b,j,none⟩) (.inl rfl) u;exact a _ _ _ (a _ _ _ (a _ _ _ (a _ _ _ (a _ _ _ (a _ _ _ (a _ _ _ (a _ _ _ (a _ _ _ (aO.refl _ _)))))))))
structure akH (w:World) (s7:Top.S) (evs:List Top.E) (xb:Nat) (ve:Value) (wx:World):Prop where
 ex:∃v1 v2 vp vr vh rl,Blk wx xb 31 #[v1,v2,s7.c.aI,s7.c.aK,s7.aN,s7.next,vp,vr,vh]/\StR wx v1 v2 vp vr vh s7 rl/\∀k,CW v1 v2 vp vr vh s7 rl k->(w:Nat)<=k/\k≠xb
 box:(w:Nat)<=xb
 ev:bQ wx w 49 3 oQ ve evs
 axB:ve.ownBlock≠some xb
 old:Below w w wx
def SDo(B:Nat)(L:Nat->Prop)(sb g m:Nat)(xs:List Top.Cmd)(evs:List Top.E)(w:World)(e:Ending)(w':World):Prop:=∃ve,e=.returned (.tuple #[ve,()])/\qU B (λk=>L k\/ve.ownBlock=some k) (w:Nat) w' sb g m xs/\bQ w' w 49 3 oQ ve evs/\aO (Room B L) w w'
theorem zR(xs:List Top.Cmd)(x:Top.Cmd):jB (xs++[x])=(Top.apply (jB xs) x).1:=by unfold jB;rw[fB];rfl
theorem arF{B:Nat}{L:Nat->Prop}{l:Nat}{xs:List Top.Cmd}(h:qU B L z w l g m xs)(dn:B<=(w:Nat))(dq:Live L w){x:Top.Cmd}(b9:Top.Plain x){c1 c2:Value}(bm:bX w (.agg #[c1,c2,x.c.aI,x.c.aK]) x.c)(cg:gZ (jB xs) x=0)(cm:(Top.bD (xs++[x])).length<=m)(dw:xs.length<=900):Calls prog 123 #[.pointer l,rY x.kind c1 c2 x.c.aI x.c.aK x.g x.n] w λe w'=>SDo B L l g m (xs++[x]) (Top.apply (jB xs) x).2 w e w':=by
 obtain⟨⟨j,u1,u2,up,gi,uh,gh,bc,v,cj,bf⟩,dx,ds⟩:=h;have ba:=qZ (zR xs x);have cl:=uE b9;have ck:=amE xs x;have dy:(Top.bD xs).length+(Crc.frame (mQ x)).length<=m:=by rw[ck,aW]at cm;exact cm
 obtain⟨ec,ed,ee⟩:=anX m (Top.bD xs) (mQ x) xs.length oZ dy;have de:=qZ ec;have df:=qZ (ed.trans ck.symm);have dg:=qZ (ee.trans (show xs.length+1=(xs++[x]).length by simp));have ci:=IX xs;obtain⟨s,dz⟩:=nZ (jB xs);rw[dz]at bc v cj bf cg ci ba⊢;obtain⟨s7,cn⟩:=nZ ((Top.apply s x).1);obtain⟨bq,ch⟩:=nZ ((Top.apply s x).2);rw[cn]at ba;rw[ch];obtain⟨cu,ef,d7,rfl⟩:=bX.s1 v.cfg;obtain⟨cv,eg,d8,rfl⟩:=bX.s2 v.cfg;obtain⟨cw,eh,d9,rfl⟩:=pS v.ps;obtain⟨cx,t4,ea,rfl⟩:=rS v.rs;obtain⟨cy,ei,eb,rfl⟩:=fS v.h;obtain⟨B1,cr,cp,rfl⟩:=bX.s1 bm;obtain⟨B2,cs,cq,rfl⟩:=bX.s2 bm;have bk:=λW (d:Below w w W)=>aiU (x:=x) (bm.below d) b9;have b2:=λW (d:Below w w W)=>acQ (x:=x) (v.below d) ci oZ (bm.below d) (by rw[b9.n];decide) W (aJ _ _);have db:=qZ cn;have dc:=qZ ch;have da:=qZ cg;obtain⟨R,ey⟩:=nZ (mQ x);rw[ey]at bk de df dg cl;obtain⟨kind,c,⟨br,bs,bt,⟨bu,bv,bw⟩,bz,b0,b1,fp,fo⟩,xn⟩:=x;obtain⟨aI,du⟩:=nZ c.aI;obtain⟨aK,dr⟩:=nZ c.aK;simp only[du,dr,rY,iD,stv]at bk b2⊢;simp only[fH,List.cons_append,List.nil_append]at bk b2⊢;obtain⟨a,b8⟩:=nZ (w.alloc (.cells #[kind,.slice B1 cr cp,.slice B2 cs cq,aI,aK,br,bs,bt,bu,bv,bw,bz,b0,b1,xn] 61));have y:=aB b8;have el:=aX b8;have u:=qZ el;have ak:=qZ (Blk.below bc y bc.lt);have dh:=qZ bc.lt;have en:=qZ bc;have ep:=qZ cj;have Z:=qZ y;have ew:=qZ b8;have eq:=qZ dq;have cc:=qZ (aC dx ds);have em:=qZ bk;have cz:=qZ b2;have dd:=qZ dn;have eu:=qZ cl;clear bc cj bf y b8 el bk b2 dq dn dx ds dz cn ch cg b9 bm v ci cl ck ec ed ee cm dy du dr;go_enter func123,ntmps123;go_upto_region 3 with fail;rw[ew.out];go_cut[6,7,8] (λfq fr fs ej=>∃o,fq=.pointer (some ⟨o,0,none⟩)/\fs=.int .i64 0/\Hid (akH w s7 bq o fr ej)/\Hid (aF a ej));case first=>
  have c1:∀W,aF a W->CV W l 1 (.slice cu ef d7):=ak.fa 1;have c2:∀W,aF a W->CV W l 2 (.slice cv eg d8):=ak.fa 2;have c3:∀W,aF a W->CI W l 3 s.c.aI:=ak.fa 3;have c4:∀W,aF a W->CI W l 4 s.c.aK:=ak.fa 4;have c5:∀W,aF a W->CI W l 5 s.aN:=ak.fa 5;have c6:∀W,aF a W->CI W l 6 s.next:=ak.fa 6;have c7:∀W,aF a W->CV W l 7 (.slice cw eh d9):=ak.fa 7;have c8:∀W,aF a W->CV W l 8 (.slice cx t4 ea):=ak.fa 8;have c9:∀W,aF a W->CV W l 9 (.slice cy ei eb):=ak.fa 9;have e5:∀W,aF a W->CI W w 0 kind:=u.fa 0;have e8:∀W,aF a W->CV W w 1 (.slice B1 cr cp):=u.fa 1;have ff:∀W,aF a W->CV W w 2 (.slice B2 cs cq):=u.fa 2;have fg:∀W,aF a W->CI W w 3 aI:=u.fa 3;have fh:∀W,aF a W->CI W w 4 aK:=u.fa 4;have fi:∀W,aF a W->CI W w 5 br:=u.fa 5;have fj:∀W,aF a W->CI W w 6 bs:=u.fa 6;have fl:∀W,aF a W->CI W w 7 bt:=u.fa 7;have fm:∀W,aF a W->CI W w 8 bu:=u.fa 8;have fn:∀W,aF a W->CI W w 9 bv:=u.fa 9;have e9:∀W,aF a W->CI W w 10 bw:=u.fa 10;have fb:∀W,aF a W->CI W w 11 bz:=u.fa 11;have fc:∀W,aF a W->CI W w 12 b0:=u.fa 12;have fd:∀W,aF a W->CI W w 13 b1:=u.fa 13;have fe:∀W,aF a W->CI W w 14 xn:=u.fa 14;refine lU (aF a) (.take 0 (.take 1 (.take 2 (.take 3 (.take 4 (.two 5 10 (.take 6 (.take 7 (.take 8 (.take 9 (.one 10 (.one 11 (.take 12 (.take 13 .done)))))))) (.one 5 (.take 6 (.take 7 (.take 8 (.take 9 (.one 11 (.take 12 (.take 13 .done)))))))))))))) kZ kZ (aF.drew a) ?_;(iterate 5 refine tT ?_);clear c1 c2 c3 c4 c5 c6 c7 c8 c9 e5 e8 ff fg fh fi fj fl fm fn e9 fb fc fd fe;have b6:aF a a.drew:=aF.drew a;refine yO ?_ ?_
  .refine tC ?_;refine(cz _ (Z.out.trans (b6.mono Z.size))).mono ?_;rintro e wc⟨z1,z2,f0,f1,fz,ft,a5,rfl,r,F,bb,al⟩;rw[da.out];rw[db.out]at r al⊢;rw[dc.out]at F;simp only[stv];obtain⟨O,n1,ab,rfl⟩:=bX.s1 r.cfg;obtain⟨Q,n2,ad,rfl⟩:=bX.s2 r.cfg;obtain⟨T,ah,ae,rfl⟩:=pS r.ps;obtain⟨X,ai,af,rfl⟩:=rS r.rs;obtain⟨Y,aj,ag,rfl⟩:=fS r.h;obtain⟨au,a0,av,rfl⟩:=F.sA;have am:aF a wc:=aA b6 bb;refine⟨_,rfl,am,?_⟩;obtain⟨ap,an⟩:=nZ (wc.alloc (.cells #[true,true,(),(),(),(),true,true,true] 31));have b4:=aB an;obtain⟨o,az⟩:=nZ (wc:Nat);have ar:=aY an az;have ay:aF a ap:=aA am b4;obtain⟨J,H⟩:=nZ (CR ap o (.slice O n1 ab) (.slice Q n2 ad) s7.c.aI s7.c.aK s7.aN s7.next (.slice T ah ae) (.slice X ai af) (.slice Y aj ag));have N:=H;unfold CR at N;have A:aO (λi=>i=o) ap J:=by rw[<-H];exact MV _ _ _ _ _ _ _ _ _ _ _
   have aq:Blk J o 31 #[.slice O n1 ab,.slice Q n2 ad,s7.c.aI,s7.c.aK,s7.aN,s7.next,.slice T ah ae,.slice X ai af,.slice Y aj ag]:=by rw[<-H];exact JG ar _ _ _ _ _ _ _ _ _
   have ez:=Z.size;have co:(a:Nat)<=o:=by have:=am.size;omega
   have ax:aF a J:=ay.trans (A.below ay.size λi e=>oZ);have cd:=qY (akH w s7 bq o (.slice au a0 av) J) (by have e0:=r.below b4;have dt:=F.below b4;refine⟨⟨_,_,_,_,_,a5,aq,e0.xA A λk p e=>by have:=r.foot p;omega,λk p=>⟨by have aw:=al.foot p;have:a.drew.heap.size=(a:Nat):=rfl;omega,by have:=r.foot p;omega⟩⟩,oZ,?_,λe=>by have:=(F.lt _ e).2;omega,Z.out.trans (ax.mono Z.size)⟩;exact(dt.bD λb y=>A.block b (dt.lt b y).2 (by have:=(F.lt b y).2;omega)).low (by have:a.drew.heap.size=(a:Nat):=rfl;omega));obtain⟨z0,z1,z2,fu,z4,fv,fw,fx,fy⟩:=ar.c9;have dl:∀n,ap.frozen? ⟨o,n,none⟩=false:=λn=>ar.frozen n;have ao:=qZ (aC an az);have bj:=qZ N;have bi:=qZ ay;have bh:=qZ ax;clear r F bb al am b4 ar ay H N A aq ez co ax an az b6;(iterate 4 refine tT ?_);refine eT ?_;apply lK;(focus rfl);(focus rfl);(focus(go_simp;first|done|(rw[ao.out.1,ao.out.2];exact⟨rfl,rfl⟩)|exact⟨rfl,rfl⟩));(focus exact bi);(focus(go_simp;first|done|rfl))
   try rw[ao.out.2]
   refine eT ?_;apply uW;(focus rfl);(focus rfl);(focus(go_simp;first|done|(rw[bj.out])|rfl));(focus exact bh);(focus(go_simp;first|done|rfl));(iterate 2 refine tT ?_);refine fZ ?_;go_wp2_with fail;go_meet;exact⟨o,rfl,rfl,cd,bh⟩
  .obtain⟨ap,an⟩:=nZ ((a.alloc (.cells #[true,true,(),(),(),(),true,true,true] 31)).drew);have ay:aF a ap:=by rw[<-an];exact(bZ).drew
   obtain⟨o,az⟩:=nZ (a:Nat);have ar:Blk ap o 31 #[true,true,(),(),(),(),true,true,true]:=by rw[<-an,<-az];exact(Blk.new a _ _).drew
   have ao:=qZ (aC an az);have bi:=qZ ay;have dk:=qZ ar;have gc:o<(ap:Nat):=ar.lt;have ca:(w:Nat)<=o:=by have:=Z.size;omega
   clear an az ay ar b6;apply lK;(focus rfl);(focus rfl);(focus(go_simp;first|done|(rw[ao.out.1,ao.out.2];exact⟨rfl,rfl⟩)|exact⟨rfl,rfl⟩));(focus exact bi);(focus(go_simp;first|done|rfl))
   try rw[ao.out.2]
   refine eT ?_;refine tC ?_;refine(cz _ (Z.out.trans (bi.mono Z.size))).mono ?_;rintro e wc⟨z1,z2,f0,f1,fz,ft,a5,rfl,r,F,bb,al⟩;rw[da.out];rw[db.out]at r al⊢;rw[dc.out]at F;simp only[stv];obtain⟨O,n1,ab,rfl⟩:=bX.s1 r.cfg;obtain⟨Q,n2,ad,rfl⟩:=bX.s2 r.cfg;obtain⟨T,ah,ae,rfl⟩:=pS r.ps;obtain⟨X,ai,af,rfl⟩:=rS r.rs;obtain⟨Y,aj,ag,rfl⟩:=fS r.h;obtain⟨au,a0,av,rfl⟩:=F.sA;have am:aF a wc:=aA bi bb;refine⟨_,rfl,am,?_⟩;have xc:=dk.below bb dk.out.lt;obtain⟨J,H⟩:=nZ (CR wc o (.slice O n1 ab) (.slice Q n2 ad) s7.c.aI s7.c.aK s7.aN s7.next (.slice T ah ae) (.slice X ai af) (.slice Y aj ag));have N:=H;unfold CR at N;have A:aO (λi=>i=o) wc J:=by rw[<-H];exact MV _ _ _ _ _ _ _ _ _ _ _
   have aq:Blk J o 31 #[.slice O n1 ab,.slice Q n2 ad,s7.c.aI,s7.c.aK,s7.aN,s7.next,.slice T ah ae,.slice X ai af,.slice Y aj ag]:=by rw[<-H];exact JG xc _ _ _ _ _ _ _ _ _
   have co:(a:Nat)<=o:=by have:=dA (λn=>n) ao.2;omega
   have ax:aF a J:=am.trans (A.below am.size λi e=>oZ);have cd:=qY (akH w s7 bq o (.slice au a0 av) J) (⟨⟨_,_,_,_,_,a5,aq,r.xA A λk p e=>by have:=al.foot p;omega,λk p=>⟨by have aw:=al.foot p;omega,by have aw:=al.foot p;omega⟩⟩,ca,(F.bD λb y=>A.block b (F.lt b y).2 (by have:=(F.lt b y).1;omega)).low oZ,λe=>by have:=(F.lt _ e).1;omega,Z.out.trans (ax.mono Z.size)⟩);obtain⟨z0,z1,z2,fu,z4,fv,fw,fx,fy⟩:=xc.c9;have dl:∀n,wc.frozen? ⟨o,n,none⟩=false:=λn=>xc.frozen n;have bj:=qZ N;have bh:=qZ ax;clear r F bb al am xc H N A aq co ax;(iterate 4 refine tT ?_);refine eT ?_;apply uW;(focus rfl);(focus rfl);(focus(go_simp;first|done|(rw[bj.out])|rfl));(focus exact bh);(focus(go_simp;first|done|rfl));(iterate 2 refine tT ?_);refine fZ ?_;go_wp2_with fail;go_meet;exact⟨o,rfl,rfl,cd,bh⟩
 case rest=>
  obtain⟨o,rfl,rfl,a9,es⟩:=hcut;obtain⟨v1,v2,vp,vr,gj,a5,ct,v,bf⟩:=a9.ex;obtain⟨O,n1,ab,rfl⟩:=bX.s1 v.cfg;obtain⟨Q,n2,ad,rfl⟩:=bX.s2 v.cfg;obtain⟨T,ah,ae,rfl⟩:=pS v.ps;obtain⟨X,ai,af,rfl⟩:=rS v.rs;obtain⟨Y,aj,ag,rfl⟩:=fS v.h;have be:=a9.old;have bn:=a9.ev;have ca:=a9.box;obtain⟨au,a0,av,rfl⟩:=bn.sA;obtain⟨M,bl⟩:∃M:Nat->Prop,(λk=>(L k\/(Value.slice au a0 av).ownBlock=some k\/k=o)\/k=l\/CW (.slice O n1 ab) (.slice Q n2 ad) (.slice T ah ae) (.slice X ai af) (.slice Y aj ag) s7 a5 k)=M:=⟨_,rfl⟩;have d0:=dh.out;have er:=qY (Live M wc) (by
   rw[<-bl];intro k p;rcases p with(h|h|h)|h|h
   .exact aM (eq k h) be.size
   .exact(bn.lt k h).2
   .rw[h];exact ct.lt
   .rw[h];exact aM d0 be.size
   .exact v.foot h)
  have eo:=qY (zH B M wc j g m (Top.bD xs) xs.length) (by
   rw[<-bl];refine ep.more (G:=λ_=>False) (aO.bS be) (λ_ h=>h.elim) (λi hi=>?_);rcases hi with(h|h|h)|h|h
   .exact .inl (.inl h)
   .exact .inr (bn.lt i h).1
   .right;omega
   .exact .inl (.inr (.inl h))
   .exact .inr (bf i h).1)
  have aa:=qY ((∀k,L k->M k)/\M o/\M l/\(∀k,CW (.slice O n1 ab) (.slice Q n2 ad) (.slice T ah ae) (.slice X ai af) (.slice Y aj ag) s7 a5 k->M k)/\(∀k,(Value.slice au a0 av).ownBlock=some k->M k)) (by rw[<-bl];exact⟨λk h=>.inl (.inl h),.inl (.inr (.inr rfl)),.inr (.inl rfl),λk h=>.inr (.inr h),λk h=>.inl (.inr (.inl h))⟩);have f4:=qZ bl;have ev:=qZ v;have di:=qZ bf;have dj:=qZ ct;have cb:=qZ bn;have bg:=qZ be;have f2:=qZ ca;have f3:=qZ a9.axB;have bp:=qZ (en.below be d0);have f:=qZ (u.below es u.out.lt);clear bl v bf ct bn be ca a9;go_upto_region 6 with fail;have ex:∀W,aF wc W->CV W l 0 (.pointer j)/\CI W w 0 kind/\CV W w 1 (.slice B1 cr cp)/\CV W w 2 (.slice B2 cs cq)/\CI W w 3 aI/\CI W w 4 aK/\CI W w 5 br/\CI W w 6 bs/\CI W w 7 bt/\CI W w 8 bu/\CI W w 9 bv/\CI W w 10 bw/\CI W w 11 bz/\CI W w 12 b0/\CI W w 13 b1/\CI W w 14 xn:=λW d=>⟨(bp.below d bp.out.lt).cell 0,(f.below d f.out.lt).cell 0,(f.below d f.out.lt).cell 1,(f.below d f.out.lt).cell 2,(f.below d f.out.lt).cell 3,(f.below d f.out.lt).cell 4,(f.below d f.out.lt).cell 5,(f.below d f.out.lt).cell 6,(f.below d f.out.lt).cell 7,(f.below d f.out.lt).cell 8,(f.below d f.out.lt).cell 9,(f.below d f.out.lt).cell 10,(f.below d f.out.lt).cell 11,(f.below d f.out.lt).cell 12,(f.below d f.out.lt).cell 13,(f.below d f.out.lt).cell 14⟩;refine lF 6 kZ kZ ?_;simp only[List.take_succ_cons,List.take_zero,bH,bJ];have ce:=λW (d:aF wc W)=>(em W (bg.out.trans (d.mono bg.size))).mono (λe W' h=>(aC h.1 (aA d h.2):e=.returned (.string (str R))/\aF wc W'));(repeat refine kY ?_);refine kM ?_ (h:=by intro W d;go_simp;first|exact ce W d|exact⟨d,ce W d⟩);(repeat refine kY ?_);refine eH ?_;intro W d;have dp:B<=(W:Nat):=by have aw:=d.size;have dm:=bg.size;have f9:=dd.out;omega
  have b3:=akA (eo.below d) dp (er.bD d.size) oZ (str R) (by rw[pF];have:=eu.out;unfold maxLen;omega);unfold RX at b3;rw[mO,de.out,df.out,dg.out]at b3;have c0:=qZ b3;have a8:=qZ d;clear ex ce b3 dp d;go_wp2_with fail;refine c0.mono ?_;rintro e I⟨rfl,dv,bd⟩;have bo:∀k,M k->¬Room B M k:=λk p b7=>b7.2 p;have K:=(bp.below a8 bp.out.lt).bD bd (bo _ aa.2.2.1);have ek:=(dj.below a8 dj.out.lt).bD bd (bo _ aa.2.1);have d6:=(ev.below a8).xA bd (λk p=>bo k (aa.2.2.2.1 k p));have b5:=(cb.below a8).bD (λb y=>bd.block b ((cb.below a8).lt b y).2 (bo b (aa.2.2.2.2 b y)));obtain⟨f5,d1,d2,d3,d4,d5,f6,f7,f8⟩:=ek.c9;obtain⟨gd,p1,p2,p3,p4,ge,p6,gf,gg⟩:CV I l 1 (.slice cu ef d7)/\CV I l 2 (.slice cv eg d8)/\CI I l 3 s.c.aI/\CI I l 4 s.c.aK/\CI I l 5 s.aN/\CI I l 6 s.next/\CV I l 7 (.slice cw eh d9)/\CV I l 8 (.slice cx t4 ea)/\CV I l 9 (.slice cy ei eb):=⟨K.cell 1,K.cell 2,K.cell 3,K.cell 4,K.cell 5,K.cell 6,K.cell 7,K.cell 8,K.cell 9⟩;have dl:∀n,I.frozen? ⟨l,n,none⟩=false:=λn=>K.frozen n;obtain⟨J,H⟩:=nZ (adq I l (.slice O n1 ab) (.slice Q n2 ad) s7.c.aI s7.c.aK s7.aN s7.next (.slice T ah ae) (.slice X ai af) (.slice Y aj ag));have N:=H;unfold adq at N;have A:aO (λi=>i=l) I J:=by rw[<-H];exact ajr _ _ _ _ _ _ _ _ _ _ _
  have aq:Blk J l 246 #[.pointer j,.slice O n1 ab,.slice Q n2 ad,s7.c.aI,s7.c.aK,s7.aN,s7.next,.slice T ah ae,.slice X ai af,.slice Y aj ag]:=by rw[<-H];exact amu K _ _ _ _ _ _ _ _ _
  have gb:=dh.out;have et:=qY (SDo B L l g m (xs++[⟨kind,c,⟨br,bs,bt,⟨bu,bv,bw⟩,bz,b0,b1,fp,fo⟩,xn⟩]) bq w (.returned (.tuple #[.slice au a0 av,()])) J) (by
   have ga:=dd.out;refine⟨_,rfl,⟨⟨j,_,_,_,_,_,a5,by rw[ba.out];exact aq,by rw[ba.out];exact d6.xA A λk p e=>by have:=(di k p).1;omega,?_,λk p=>?_⟩,cc.1,λh=>?_⟩,?_,?_⟩
   .rw[ba.out];refine zH.more (dv.bD A λi e=>.inl (by rw[e];exact aa.2.2.1)) (aO.refl (λ_=>False) _) (λ_ h=>h.elim) (λi hi=>.inl ?_);rcases hi with(h|h)|h|h
    .exact aa.1 i h
    .exact aa.2.2.2.2 i h
    .rw[h];exact aa.2.2.1
    .exact aa.2.2.2.1 i h
   .rw[ba.out]at p;have aw:=di.out k p;exact⟨aw.1,oZ⟩
   .rcases h with h|h
    .exact cc.2 h
    .have:=(cb.out.lt _ h).1;omega
   .exact b5.bD (λb y=>A.block b (b5.lt b y).2 (by have:=(b5.lt b y).1;omega))
   .have aw:aO (Room B L) w W:=aO.bS (bg.out.trans (a8.mono bg.size));have dm:aO (Room B L) W I:=bd.mono (λi _ b7=>⟨b7.1,λdw=>b7.2 (aa.1 i dw)⟩);exact(aw.trans dm).trans (A.mono λi _ e=>by rw[e];exact cc))
  have bj:=qZ N;clear K ek d6 b5 dv bd bo H N A aq c0;go_upto_region 10 with fail;rw[bj.out];go_wp2_with fail;go_ret2;exact et
theorem aqd(s:Top.S):gZ s ⟨0,Top.noC,Top.noG,0⟩=1:=rfl
theorem asA(s:Top.S):Top.apply s ⟨0,Top.noC,Top.noG,0⟩=(s,[]):=rfl
def SY(s:Top.S)(w1:World)(f:Value->Value)(e:Ending)(w':World):Prop:=∃CS,e=.returned (f (.agg CS))/\StV w' (w1:Nat) CS s/\Below w1 w1 w'
theorem akl{b:Array Value}(h:StV w z b s)(u:Top.Good n s)(y:n<=1000):∀w1,Below w w w1->Calls prog 193 #[.agg b] w1 λe w'=>SY s w1 (λv=>.tuple #[v,(1:Int)]) e w':=by
 intro w1 r;replace h:=h.below r;obtain⟨f,d⟩:=nZ ((w1.alloc (.cells b 31)).alloc (.cells #[true,true,(),(),(),(),true,true,true] 31));have l:Below w1 w1 f:=by rw[<-d];exact(bZ).alloc sZ _
 have K:=qY (Blk f w1 31 b) (by rw[<-d];exact(Blk.new w1 _ _).alloc _);have o:=qY (Blk f ((w1:Nat)+1) 31 #[true,true,(),(),(),(),true,true,true]) (by have:=Blk.new (w1.alloc (.cells b 31)) 31 #[true,true,(),(),(),(),true,true,true];rw[bC]at this;rw[<-d];exact this);have g:=LD (x:=⟨0,Top.noC,Top.noG,0⟩) (h.below l) u y (WQ 0 f).cfg dZ f (aJ _ _);simp only[rY,iD,fH,List.cons_append,List.nil_append]at g;rw[aqd,asA]at g;have F:=qZ g;have H:=qZ h.info;have A:=qZ l;have J:=qZ d;clear g l d h u y r;go_enter func193,ntmps193;go_upto_region 1 with fail;rw[J.out];go_wp2_with(refine wpList_load_row rfl 31 (.tmp 1) rfl (w1:Nat) rfl 31 b (0,0) _ K underlying31 rfl H ?_);refine F.mono ?_;rintro e wc⟨a,M,rfl,k,L,i⟩;have j:=xB wc a;have m:=o.out.lt;have p:=qZ ((o.below i m).below j (by have:=i.size;omega));have c:=qZ k;have I:=qZ ((k.below j).aaR m (fE _) (aA (aA A i) j));clear k L i j m;go_upto_region 2 with(refine rZ rfl (.tmp 4) (.tmp 11) rfl rfl a rfl c ?_);go_wp2_with(first
  |refine wpList_load_row rfl 31 (.tmp 4) rfl (wc:Nat) rfl 31 a (0,0) _ ((Blk.new wc _ _).row a) underlying31 rfl c.info ?_
  |refine wpList_store_row rfl 31 (.tmp 2) (.tmp 14) rfl ((w1:Nat)+1) a rfl rfl 31 _ p c.info (by rw[c.out.size];rfl) c.one ?_)
 refine bodyPost_ret (v:=.tuple #[.agg a,(1:Int)]) (xE Tryz.results193 rfl (p.row a) underlying31 rfl c.info _ rfl) rfl ?_;exact⟨_,rfl,I⟩
theorem aiE{B:Nat}{L:Nat->Prop}{x:Nat}{xs:List Top.Cmd}(h:qU B L z w x g m xs)(n:xs.length<=900):∀w1,Below w w w1->Calls prog 127 #[.pointer x] w1 λe w'=>SY (jB xs) w1 (λv=>v) e w':=by
 intro w1 f;obtain⟨⟨j,u1,u2,up,X,uh,W,i,u,_,_⟩,_,_⟩:=h;have r:=IX xs;obtain⟨s,I⟩:=nZ (jB xs);rw[I]at i u r⊢;have d:=(aJ (w1:Nat) w1).alloc lZ (.cells #[true,true,(),(),(),(),true,true,true] 31);obtain⟨y,p⟩:=nZ (w1.alloc (.cells #[true,true,(),(),(),(),true,true,true] 31));have F:=qY (Blk y w1 31 #[true,true,(),(),(),(),true,true,true]) (by rw[<-p];exact Blk.new w1 _ _);rw[p]at d;have J:=(Blk.below i f i.lt).below d (by have:=i.lt;have:=f.size;omega);obtain⟨A,k,b⟩:=StV.mk' (z:=0) u ⟨λ_ _ _=>bK _,λ_ _ _=>bK _,λ_ _ _=>bK _,λ_ _ _=>bK _,λ_ _ _ _ _=>bK _,λ_ _ _=>bK _⟩;have M:=qY (∀j v,A[j]? =some v->y.cell? ((⟨x,1,none⟩:Addr).add j)=some v) (λj v hv=>by unfold stv at k;simp only[Value.agg.injEq]at k;rw[<-k]at hv;rw[Addr.add_lit,J.cell,jJ];simpa using hv);have O:=qZ b.info;have N:=qZ (akl b r oZ y (f.trans (d.mono f.size)));have K:=qZ d;have T:=qZ p;clear i u r d p J I f k b;go_enter func127,ntmps127;go_upto_region 3 with fail;rw[T.out];go_wp2_with(refine BA rfl 31 (.tmp 11) rfl _ rfl A _ M underlying31 rfl O ?_);refine N.mono ?_;rintro e wc⟨a,rfl,b,l⟩;have o:=xB wc a;have n:=F.out.lt;have H:=qZ ((F.below l n).below o (by have:=l.size;omega));have c:=qZ b;have Q:=qZ ((b.below o).aaR n lZ (aA (aA K l) o));clear b l o n;go_upto_region 4 with(refine rZ rfl (.tmp 3) (.tmp 14) rfl rfl a rfl c ?_);go_wp2_with(first
  |refine wpList_load_row rfl 31 (.tmp 3) rfl (wc:Nat) rfl 31 a (0,0) _ ((Blk.new wc _ _).row a) underlying31 rfl c.info ?_
  |refine wpList_store_row rfl 31 (.tmp 2) (.tmp 16) rfl (w1:Nat) a rfl rfl 31 _ H c.info (by rw[c.out.size];rfl) c.one ?_)
 refine bodyPost_ret (v:=.agg a) (results_cell_row Tryz.results127 _ _ (w1:Nat) 31 a (0,0) _ rfl (H.row a) underlying31 rfl c.info) rfl ?_;exact⟨_,rfl,Q⟩
theorem akc{i m:Nat}(l:Blk w1 i 196 #[.pointer g,.pointer m])(p:∀W,Below w1 w1 W->Calls prog 127 #[.pointer m] W λe w'=>SY s W (λv=>v) e w'):Calls prog 63 #[.pointer i] w1 λe w'=>SY s w1 (λv=>v) e w':=by have a:=(aJ (w1:Nat) w1).alloc lZ (.cells #[true,true,(),(),(),(),true,true,true] 31);obtain⟨n,d⟩:=nZ (w1.alloc (.cells #[true,true,(),(),(),(),true,true,true] 31));have f:=qY (Blk n w1 31 #[true,true,(),(),(),(),true,true,true]) (by rw[<-d];exact Blk.new w1 _ _);rw[d]at a;have c1:CV n i 1 (.pointer m):=(l.below a l.lt).cell 1;have u:=qZ (p n a);have r:=qZ a;have x:=qZ d;clear l a d p;go_enter func63,ntmps63;go_upto_region 3 with fail;rw[x.out];go_wp2_with fail;refine u.mono ?_;rintro e y⟨b,rfl,j,k⟩;have o:=qZ (f.below k f.out.lt);have c:=qZ j;have w:=qZ (j.aaR f.out.lt lZ (aA r k));clear j k c1;go_wp2_with(refine wpList_store_row rfl 31 (.tmp 2) (.tmp 10) rfl (w1:Nat) b rfl rfl 31 _ o c.info (by rw[c.out.size];rfl) c.one ?_);refine bodyPost_ret (v:=.agg b) (results_cell_row Tryz.results63 _ _ (w1:Nat) 31 b (0,0) _ rfl (o.row b) underlying31 rfl c.info) rfl ?_;exact⟨_,rfl,w⟩
section
variable {B z:Nat} {L L' G:Nat->Prop} {w w':World} {sb g m:Nat} {xs:List Top.Cmd}
theorem qU.bD(h:qU B L z w sb g m xs)(k:aO G w w')(a:∀i,G i->L i/\i<z):qU B L z w' sb g m xs:=by obtain⟨⟨j,v1,v2,vp,vr,r,rl,f,l,n,c⟩,p,d⟩:=h;exact⟨⟨j,v1,v2,vp,vr,r,rl,f.bD k λe=>d (a _ e).1,l.xA k λb o e=>by have:=(c b o).1;have:=(a b e).2;omega,n.bD k λi e=>.inl (.inl (a i e).1),c⟩,p,d⟩
theorem qU.below(h:qU B L z w sb g m xs)(k:Below w w w'):qU B L z w' sb g m xs:=h.bD (aO.bS (F:=λ_=>False) k) (λ_ h=>h.elim)
theorem qU.lt(h:qU B L z w sb g m xs):sb<(w:Nat):=by obtain⟨⟨j,v1,v2,vp,vr,b,rl,a,_⟩,_,_⟩:=h;exact a.lt
theorem qU.more(h:qU B L z w sb g m xs)(k:aO G w w')(a:∀i,G i->L i/\i<z)(d:∀i,L' i->L i\/(w:Nat)<=i):qU B L' z w' sb g m xs:=by
 have v:=h.lt;have u:=h.bD k a;obtain⟨⟨j,v1,v2,vp,vr,s,rl,l,n,o,c⟩,r,f⟩:=h;refine⟨⟨j,v1,v2,vp,vr,s,rl,l.bD k λe=>f (a _ e).1,n.xA k λb p e=>by have:=(c b p).1;have:=(a b e).2;omega,o.more k (λi e=>.inl (.inl (a i e).1)) λi hi=>?_,c⟩,r,λe=>?_⟩
 .rcases hi with e|e
  .rcases d i e with e2|e2
   .exact .inl (.inl e2)
   .exact .inr e2
  .exact .inl (.inr e)
 .rcases d sb e with e2|e2
  .exact f e2
  .omega
theorem qU.less(h:qU B L z w sb g m xs)(a:∀i,L' i->L i):qU B L' z w sb g m xs:=h.more (aO.refl (λ_=>False) w) (λ_ h=>h.elim) (λi e=>.inl (a i e))
theorem qU.disk(h:qU B L z w sb g m xs):pE.Own B L w g (Jou.clean m (Top.bD xs)):=by obtain⟨⟨j,v1,v2,vp,vr,l,rl,b,c,a,d⟩,k,f⟩:=h;exact apw a.own (λi e=>.inl (.inl e))
end
structure CB (B:Nat) (L:Nat->Prop) (z:Nat) (w:World) (db sb g m:Nat) (xs:List Top.Cmd):Prop where
 cK:Blk w db 196 #[.pointer g,.pointer sb]
 sto:qU B (λk=>L k\/k=db) z w sb g m xs
 low:B<=db
 apart:¬L db
 lz:db<z
theorem CB.more{B z:Nat}{L L' G:Nat->Prop}{w w':World}{b sb g m:Nat}{xs:List Top.Cmd}(h:CB B L z w b sb g m xs)(k:aO G w w')(a:∀i,G i->L i/\i<z)(c:∀i,L' i->L i\/(w:Nat)<=i):CB B L' z w' b sb g m xs:=
 ⟨h.cK.bD k λe=>h.apart (a _ e).1,h.sto.more k (λi e=>⟨.inl (a i e).1,(a i e).2⟩) (λi e=>by
  rcases e with e|e
  .exact(c i e).imp .inl id
  .exact .inl (.inr e)),h.low,λe=>by
  rcases c _ e with e2|e2
  .exact h.apart e2
  .have:=h.cK.lt;omega,h.lz⟩
theorem CB.below{B z:Nat}{L:Nat->Prop}{w w':World}{a sb g m:Nat}{xs:List Top.Cmd}(h:CB B L z w a sb g m xs)(k:Below w w w'):CB B L z w' a sb g m xs:=h.more (aO.bS (F:=λ_=>False) k) (λ_ h=>h.elim) (λi e=>.inl e)
def arn(B:Nat)(L:Nat->Prop)(db g m:Nat)(xs:List Top.Cmd)(w:World)(e:Ending)(w':World):Prop:=∃sb,e=.returned (.int .i64 0)/\CB B L (w:Nat) w' db sb g m xs/\aO (Room B L) w w'
theorem acG{B:Nat}{L:Nat->Prop}{w:World}{a g m:Nat}{xs:List Top.Cmd}{H:Option Addr}(d:Blk w a 196 #[.pointer g,.pointer H])(z:B<=a)(A:¬L a)(o:pE.Own B (λk=>L k\/k=a) w g (Jou.clean m (Top.bD xs)))(u:B<=(w:Nat))(M:0<B)(v:Live L w)(x:abo xs)(l:xs.length<=900){ty:TypeId}{N:Value}(y:w.cell? (0,0)=some (.iface ty N)):Calls prog 122 #[.pointer a] w λe w'=>arn B L a g m xs w e w':=by
 have n:=d.lt;have s:=qZ (alu o u M (λk b=>by
  rcases b with b|b
  .exact v k b
  .rw[b];exact n) x l y)
 have K:CV w a 0 (.pointer g):=d.cell 0;have I:=qZ d;have c:=qZ (aC z (aC A n));clear d z A o u v x y n;go_enter func122,ntmps122;go_wp2_with fail;refine s.out.mono ?_;rintro e w1⟨sb,rfl,F,Q,b⟩;have f:=I.bD b (λj=>j.2 (.inr rfl));have c1:CV w1 a 1 (.pointer H):=f.cell 1;have O:w1.frozen? (a,1)=false:=f.frozen 1;have r:aO (λi=>i=a) w1 (w1.setCell (a,1) (.pointer sb)):=(aO.refl (λi=>i=a) w1).setCell (p:=⟨a,1,none⟩) (.inl rfl) _;have J:=qY (arn B L a g m xs w (.returned (.int .i64 0)) (w1.setCell (a,1) (.pointer sb))) (⟨sb,rfl,⟨f.bV 1 _,F.bD r λi e=>⟨.inr e,by rw[e];exact c.2.2⟩,c.1,c.2.1,c.2.2⟩,(b.mono λi _ j=>⟨j.1,λl=>j.2 (.inl l)⟩).trans (r.mono λi _ e=>by rw[e];exact⟨c.1,c.2.1⟩)⟩);clear F b f r s K;go_wp2_with fail;go_ret;exact J
def avg(m:Nat)(w:World)(e:Ending)(w':World):Prop:=∃db sb g,e=.returned (.pointer (some ⟨db,0,none⟩))/\(∃z,CB (w:Nat) Nothing z w' db sb g m [])/\Below w w w'
theorem aqv{w:World}(m:Nat)(v:m<=1048576){ty:TypeId}{M:Value}(u:w.cell? (0,0)=some (.iface ty M))(r:0<(w:Nat)):Calls prog 61 #[m] w λe w'=>avg m w e w':=by
 have c:=pE.aaP (m:Int) w;have y:(Dsk.new (m:Int)).size=m:=by unfold Dsk.new;simp only;omega
 rw[y]at c;have g:=qZ c;have F:=qZ u;have H:=qZ v;clear c y u v;go_enter func61,ntmps61;go_wp2_with fail;refine g.mono ?_;rintro e w1⟨rfl,f⟩;have z:pE.Own (w:Nat) Nothing w1 (w:Nat) (Jou.clean m (Top.bD [])):=by rw[f];exact asc m H lZ (QL _)
 have b1:Below w w w1:=by rw[f];exact bZ
 obtain⟨O,b⟩:=nZ (w1.alloc (.cells #[.pointer w,.pointer none] 196));have b2:=aB b;obtain⟨n,d⟩:=nZ (w1:Nat);have A:=aY b d;have J:=b1.size;have o:=qZ (acG (L:=Nothing) (m:=m) (xs:=[]) A oZ (λh=>h) (BN z (G:=λ_=>False) (aO.bS b2) (λ_ h=>h.elim) (λi hi=>by
  rcases hi with h|h
  .exact h.elim
  .right;omega)) (by have:=b2.size;omega) r (QL _) ⟨λx K=>(by cases K),λk a=>(by cases a)⟩ sZ (((aA b1 b2).cell (p:=⟨0,0,none⟩) r).trans F))
 have j:=qZ (aA b1 b2);have l:=qZ (aC b d);clear f z b1 b b2 d A J g;go_upto_region 2 with fail;rw[l.out.1,l.out.2];go_wp2_with fail;refine o.out.mono ?_;rintro e N⟨sb,rfl,s,a⟩;have I:=qY (avg m w (.returned (.pointer n)) N) (⟨n,sb,_,rfl,⟨_,s⟩,j.out.trans (a.below j.size λi hi=>hi.1)⟩);clear o s a;go_wp2_with fail;go_ret;exact I
end bU
variable{ty:TypeId}{x:Value}
namespace bU
open Go Go.RowKit L bM eZ Srt pE pJ
theorem ahe(m:Nat)(l:List UInt8)(n:Int):rJ (Jou.clean m l) n=Jou.clean m l:=by unfold rJ Jou.clean uP;simp
def aiC(kind:Int)(x:Top.Cmd)(c1 c2:Value)(n:Int):Value:=.agg (#[.int .i64 kind]++(tQ x c1 c2)++#[.int .i64 n])
structure SN (db bx:Nat) (ds cs:Array Value) (W:World):Prop where
 db:Blk W db 196 ds
 box:Blk W bx 75 cs
def DDo(B:Nat)(L:Nat->Prop)(db g m:Nat)(xs:List Top.Cmd)(evs:List Top.E)(w:World)(e:Ending)(w':World):Prop:=∃ve sb z,e=.returned (.agg #[(),ve])/\CB B (λk=>L k\/ve.ownBlock=some k) z w' db sb g m xs/\bQ w' w 49 3 oQ ve evs/\aO (Room B L) w w'/\(w:Nat)<=z
theorem asQ{B:Nat}{L:Nat->Prop}{f u:Nat}{xs:List Top.Cmd}(h:CB B L z w f u g m xs)(bl:B<=(w:Nat))(a9:Live L w){x:Top.Cmd}(bv:Top.Plain x){c1 c2:Value}(au:bX w (.agg #[c1,c2,x.c.aI,x.c.aK]) x.c)(bp:gZ (jB xs) x=0)(bs:(Top.bD (xs++[x])).length<=m)(bd:xs.length<=900)(A:Int):Calls prog 62 #[.pointer f,aiC 1 x c1 c2 A] w λe w'=>DDo B L f g m (xs++[x]) (Top.apply (jB xs) x).2 w e w':=by
 obtain⟨ar,bu,br,bn,cg⟩:=h;obtain⟨bk,bc⟩:=nZ ((Top.apply (jB xs) x).2);obtain⟨ys,bf⟩:=nZ (xs++[x]);rw[bc,bf];obtain⟨w0,F⟩:=nZ (w.alloc (.cells (#[.int .i64 1]++(tQ x c1 c2)++#[.int .i64 A]) 75));obtain⟨j,ak⟩:=nZ (w0.alloc (.cells #[(),true] 84));have be:(w0:Nat)=(w:Nat)+1:=by rw[<-F];exact bC ..
 have bo:=aB F;have bb:=aB ak;have l:Below w w j:=aA bo bb;have x0:Blk w0 w 75 (#[.int .i64 1]++(tQ x c1 c2)++#[.int .i64 A]):=by rw[<-F];exact Blk.new _ _ _
 have ay:=x0.below bb x0.lt;have bz:Blk j ((w:Nat)+1) 84 #[(),true]:=by rw[<-ak,<-be];exact Blk.new _ _ _
 have aw:(j:Nat)=(w:Nat)+1+1:=by rw[<-ak,bC,be]
 have av:=ar.lt;have st:qU B (λk=>(L k\/k=f)\/k=(w:Nat)+1\/k=(w:Nat)) z j u g m xs:=(bu.more (G:=λ_=>False) (aO.bS l) (λ_ h=>h.elim) (λi e=>by
  rcases e with e|e|e
  .exact .inl e
  .right;omega
  .right;omega))
 have bw:Live (λk=>(L k\/k=f)\/k=(w:Nat)+1\/k=(w:Nat)) j:=λk ce=>by
  rcases ce with(e|e)|e|e
  .have:=a9 k e;have:=l.size;omega
  .have:=l.size;omega
  .omega
  .omega
 have aq:∀W,aF j W->Calls prog 123 #[.pointer u,rY x.kind c1 c2 x.c.aI x.c.aK x.g x.n] W λe w'=>SDo B (λk=>(L k\/k=f)\/k=(w:Nat)+1\/k=(w:Nat)) u g m ys bk W e w':=λW d=>by rw[<-bf,<-bc];exact arF (st.below d) (by have:=l.size;have:=d.size;omega) (bw.bD d.size) bv ((au.below l).below d) bp bs bd
 obtain⟨B1,ab,Z,rfl⟩:=bX.s1 au;obtain⟨B2,ad,aa,rfl⟩:=bX.s2 au;have bi:=qZ (ar.below l ar.lt);have a5:=qZ (aC br (aC bn av));have cm:=qZ bl;have cn:=qZ a9;obtain⟨kind,c,⟨I,J,K,⟨M,N,O⟩,Q,T,X,cu,ct⟩,xn⟩:=x;obtain⟨aI,bq⟩:=nZ c.aI;obtain⟨aK,bm⟩:=nZ c.aK;simp only[bq,bm,rY,iD,aiC,tQ]at aq F ay⊢;simp only[fH,List.cons_append,List.nil_append]at aq F ay⊢;have b7:Hid ((w.alloc (.cells #[(1:Int),kind,.slice B1 ab Z,.slice B2 ad aa,aI,aK,I,J,K,M,N,O,Q,T,X,xn,A] 75)).alloc (.cells #[(),true] 84)=j):=qZ (by rw[F,ak]);have a8:=qZ ay;have cb:=qZ bz;have b2:=qZ l;have b6:=qZ aw;have b0:=qZ aq;clear ar bu br bn bc bf F ak be bo bb l x0 ay bz aw av st bw aq a9 bl bv au bp bs bq bm cg;go_enter func62,ntmps62;go_upto_region 3 with fail;rw[b7.out];have ci:CI j w 0 1:=a8.cell 0;go_upto_region 9 with fail;clear ci;have cj:∀W,SN f (w:Nat) #[.pointer g,.pointer u] #[(1:Int),kind,.slice B1 ab Z,.slice B2 ad aa,aI,aK,I,J,K,M,N,O,Q,T,X,xn,A] W->CI W w 1 kind/\CV W w 2 (.slice B1 ab Z)/\CV W w 3 (.slice B2 ad aa)/\CI W w 4 aI/\CI W w 5 aK/\CI W w 6 I/\CI W w 7 J/\CI W w 8 K/\CI W w 9 M/\CI W w 10 N/\CI W w 11 O/\CI W w 12 Q/\CI W w 13 T/\CI W w 14 X/\CI W w 15 xn/\CV W f 1 (.pointer u):=λW d=>⟨d.box.cell 1,d.box.cell 2,d.box.cell 3,d.box.cell 4,d.box.cell 5,d.box.cell 6,d.box.cell 7,d.box.cell 8,d.box.cell 9,d.box.cell 10,d.box.cell 11,d.box.cell 12,d.box.cell 13,d.box.cell 14,d.box.cell 15,d.db.cell 1⟩;refine lU (SN f (w:Nat) #[.pointer g,.pointer u] #[(1:Int),kind,.slice B1 ab Z,.slice B2 ad aa,aI,aK,I,J,K,M,N,O,Q,T,X,xn,A]) (.take 0 (.take 1 (.take 2 (.take 3 (.take 4 (.take 5 (.one 6 (.take 7 (.take 8 (.take 9 (.take 10 (.one 11 (.take 12 (.one 13 .done)))))))))))))) kZ kZ ⟨bi.drew,a8.drew⟩ ?_;(iterate 6 refine tT ?_);clear cj;refine eT ?_;refine tC ?_;refine(b0 _ (aF.drew j)).mono ?_;rintro e H⟨cv,rfl,bt,Y,ah⟩;obtain⟨o,s,r,rfl⟩:=Y.sA;have az:=(bi.drew).bD ah (λy=>y.2 (.inl (.inr rfl)));have bh:=(a8.drew).bD ah (λy=>y.2 (.inr (.inr rfl)));have ag:=(cb.drew).bD ah (λy=>y.2 (.inr (.inl rfl)));refine⟨_,rfl,⟨az,bh⟩,?_⟩;have av:=a5.2.2;obtain⟨a,ba⟩:=nZ ((w:Nat)+1);rw[ba]at ag;obtain⟨ae,ai⟩:=nZ (H.setCell (a,1) (.slice o s r));obtain⟨af,aj⟩:=nZ (ae.setCell (a,0) (.int .i64 0));obtain⟨am,ax⟩:=nZ ((af.setCell (a,0) (.int .i64 0)).setCell (a,1) (.slice o s r));have an:Blk ae a 84 #[(),.slice o s r]:=by rw[<-ai];exact ag.bV 1 _
 have ao:Blk af a 84 #[(),.slice o s r]:=by rw[<-aj];exact an.bV 0 _
 have bg:Blk am a 84 #[(),.slice o s r]:=by rw[<-ax];exact(ao.bV 0 _).bV 1 _
 have al:aO (λi=>i=a) H am:=by rw[<-ax,<-aj,<-ai];exact((((aO.refl (λi=>i=a) H).setCell (p:=⟨a,1,none⟩) (.inl rfl) _).setCell (p:=⟨a,0,none⟩) (.inl rfl) _).setCell (p:=⟨a,0,none⟩) (.inl rfl) _).setCell (p:=⟨a,1,none⟩) (.inl rfl) _
 have ap:SN f (w:Nat) #[.pointer g,.pointer u] #[(1:Int),kind,.slice B1 ab Z,.slice B2 ad aa,aI,aK,I,J,K,M,N,O,Q,T,X,xn,A] ae:=by rw[<-ai];exact⟨az.far (by show f≠a;omega) _,bh.far (by show(w:Nat)≠a;omega) _⟩
 have bj:SN f (w:Nat) #[.pointer g,.pointer u] #[(1:Int),kind,.slice B1 ab Z,.slice B2 ad aa,aI,aK,I,J,K,M,N,O,Q,T,X,xn,A] af:=by rw[<-aj];exact⟨ap.db.far (by show f≠a;omega) _,ap.box.far (by show(w:Nat)≠a;omega) _⟩
 have aw:=b6.out;have ch:j.drew.heap.size=(j:Nat):=rfl;have b3:=qY (DDo B L f g m ys bk w (.returned (.agg #[(),.slice o s r])) am) (by
  refine⟨_,u,j.drew.heap.size,rfl,⟨az.bD al oZ,(bt.bD al λi e=>⟨.inl (.inr (.inl oZ)),oZ⟩).less λi hi=>?_,a5.1,λh=>?_,oZ⟩,?_,?_,oZ⟩
  .rcases hi with(e|e)|e
   .exact .inl (.inl (.inl e))
   .exact .inr e
   .exact .inl (.inl (.inr e))
  .rcases h with e|e
   .exact a5.2.1 e
   .have:=(Y.lt _ e).1;omega
  .exact(Y.bD λb l=>al.block b (Y.lt b l).2 (by have:=(Y.lt b l).1;omega)).low oZ
  .have cc:aO (Room B L) w j.drew:=(aO.bS b2).drew;have cd:aO (Room B L) j.drew H:=ah.mono (λi _ y=>⟨y.1,λbd=>y.2 (.inl (.inl bd))⟩);exact(cc.trans cd).trans' al λi hi e=>oZ)
 obtain⟨cp,e1⟩:CI H a 0 0/\CV H a 1 (.slice none 0 0):=⟨ag.cell 0,ag.cell 1⟩;obtain⟨a0,a1⟩:CI ae a 0 0/\CV ae a 1 (.slice o s r):=⟨an.cell 0,an.cell 1⟩;obtain⟨co,d1⟩:CI af a 0 0/\CV af a 1 (.slice o s r):=⟨ao.cell 0,ao.cell 1⟩;obtain⟨ck,cl⟩:CI am a 0 0/\CV am a 1 (.slice o s r):=⟨bg.cell 0,bg.cell 1⟩;have cq:∀n,H.frozen? ⟨a,n,none⟩=false:=λn=>ag.frozen n;have cr:∀n,ae.frozen? ⟨a,n,none⟩=false:=λn=>an.frozen n;have cs:∀n,af.frozen? ⟨a,n,none⟩=false:=λn=>ao.frozen n;have b1:=qZ ba;have b4:=qZ ap;have b5:=qZ bj;have b8:=qZ ai;have b9:=qZ aj;have ca:=qZ ax;clear bt Y ah az bh ag an ao bg al ap bj ai aj ax ba av aw ch;rw[b1.out];(iterate 4 refine tT ?_);refine eT ?_;apply uW;(focus rfl);(focus rfl);(focus(go_simp;first|done|(rw[b8.out])|rfl));(focus exact b4);(focus(go_simp;first|done|rfl));(iterate 1 refine tT ?_);refine eT ?_;apply uW;(focus rfl);(focus rfl);(focus(go_simp;first|done|(rw[b9.out])|rfl));(focus exact b5);(focus(go_simp;first|done|rfl));refine fZ ?_;go_wp2_with fail;rw[ca.out];refine bodyPost_ret (v:=.agg #[(),.slice o s r]) (by simp[results,Tryz.results62,go_sem,ck,cl]) rfl ?_;exact b3
theorem akj{B:Nat}{L:Nat->Prop}{d ae:Nat}{xs:List Top.Cmd}(h:CB B L z w d ae g m xs)(ao:B<=(w:Nat))(an:0<B)(Q:Live L w)(av:abo xs)(y:xs.length<=900)(aw:w.cell? (0,0)=some (.iface ty x))(l:Int):Calls prog 62 #[.pointer d,.agg #[(3:Int),(),true,true,(),(),(),(),(),(),(),(),(),(),(),(),l]] w λe w'=>DDo B L d g m xs [] w e w':=by
 obtain⟨K,ay,ax,aq,bn⟩:=h;obtain⟨w0,A⟩:=nZ (w.alloc (.cells #[(3:Int),(),true,true,(),(),(),(),(),(),(),(),(),(),(),(),l] 75));obtain⟨c,F⟩:=nZ (w0.alloc (.cells #[(),true] 84));have aa:(w0:Nat)=(w:Nat)+1:=by rw[<-A];exact bC ..
 have ar:=aB A;have X:=aB F;have j:Below w w c:=aA ar X;have x0:=aX A;have a5:=x0.below X x0.lt;have a8:Blk c ((w:Nat)+1) 84 #[(),true]:=by rw[<-F,<-aa];exact Blk.new _ _ _
 have r:(c:Nat)=(w:Nat)+1+1:=by rw[<-F,bC,aa]
 have o:=K.lt;have a0:pE.Own B (λk=>(L k\/k=(w:Nat)+1\/k=(w:Nat))\/k=d) c.drew g (Jou.clean m (Top.bD xs)):=BN ay.disk (G:=λ_=>False) (aO.bS j).drew (λ_ h=>h.elim) (λi e=>by
  rcases e with(e|e|e)|e
  .exact .inl (.inl e)
  .right;omega
  .right;omega
  .exact .inl (.inr e))
 have ad:Live (λk=>(L k\/k=(w:Nat)+1\/k=(w:Nat))\/k=d) c.drew:=λk Y=>by
  have bq:c.drew.heap.size=(c:Nat):=rfl;rcases Y with(e|e|e)|e
  .have:=Q k e;have:=j.size;omega
  .omega
  .omega
  .have:=j.size;omega
 have O:=anE a0 (by have:=j.size;have bq:c.drew.heap.size=(c:Nat):=rfl;omega) ad l;rw[ahe]at O;have bh:Hid ((w.alloc (.cells #[(3:Int),(),true,true,(),(),(),(),(),(),(),(),(),(),(),(),l] 75)).alloc (.cells #[(),true] 84)=c):=qZ (by rw[A,F]);have ak:=qZ (K.below j K.lt);have J:=qZ (aC ax (aC aq o));have I:=qZ (aC ao an);have bw:=qZ Q;have N:=qZ a5;have bj:=qZ a8;have aj:=qZ j;have al:=qZ r;have ai:=qZ O;have bc:=qZ av;have bd:=qZ aw;have be:=qZ ad;clear K ay ax aq A F aa ar X j x0 a5 a8 r o a0 ad O Q ao an bn av aw;go_enter func62,ntmps62;go_upto_region 3 with fail;rw[bh.out];have br:CI c w 0 3:=N.cell 0;go_upto_region 13 with fail;clear br;have bs:∀W,SN d (w:Nat) #[.pointer g,.pointer ae] #[(3:Int),(),true,true,(),(),(),(),(),(),(),(),(),(),(),(),l] W->CI W w 16 l/\CV W d 0 (.pointer g):=λW ap=>⟨ap.box.cell 16,ap.db.cell 0⟩;refine lU (SN d (w:Nat) #[.pointer g,.pointer ae] #[(3:Int),(),true,true,(),(),(),(),(),(),(),(),(),(),(),(),l]) (.take 0 (.take 1 (.take 2 (.take 3 (.take 4 (.take 5 (.one 6 .done))))))) kZ kZ ⟨ak.drew,N.drew⟩ ?_;(iterate 6 refine tT ?_);clear bs;refine eT ?_;refine tC ?_;refine ai.mono ?_;rintro e af⟨rfl,az,f⟩;have ah:=(ak.drew).bD f (λa=>a.2 (.inr rfl));have ba:=(N.drew).bD f (λa=>a.2 (.inl (.inr (.inr rfl))));have a9:=(bj.drew).bD f (λa=>a.2 (.inl (.inr (.inl rfl))));refine⟨_,rfl,⟨ah,ba⟩,?_⟩;have o:=J.2.2;have r:=al.out;have bm:=f.size;have bp:c.drew.heap.size=(c:Nat):=rfl;have am:=qZ (acG (L:=λk=>L k\/k=(w:Nat)+1\/k=(w:Nat)) ah J.1 (λh=>by
  rcases h with e|e|e
  .exact J.2.1 e
  .omega
  .omega) az (by have:=I.1;omega) I.2 (λk Y=>aM (be k (.inl Y)) f.size) bc y ((f.cell (p:=⟨0,0,none⟩) (by show 0<_;omega) (λa=>by have b1:B<=0:=a.1;have:=I.2;omega)).trans ((aj.cell (p:=⟨0,0,none⟩) (by show 0<_;have:=I.out;omega)).trans bd)))
 have bl:=qY (aO (Room B L) w af) (((aO.bS aj).drew).trans (f.mono λi _ a=>⟨a.1,λy=>a.2 (.inl (.inl y))⟩));have bk:=qZ a9;have bg:=qY ((c:Nat)<=(af:Nat)) oZ;clear az f ah ba a9 o r bm bp ai;refine fZ ?_;go_wp2_with fail;refine am.out.mono ?_;rintro e s⟨bt,rfl,au,Z⟩;have o:=J.2.2;have r:=al.out;obtain⟨b,T⟩:=nZ ((w:Nat)+1);have u:=bk.bD Z (λa=>a.2 (.inr (.inl rfl)));rw[T]at u;obtain⟨H,M⟩:=nZ (((s.setCell (b,0) (.int .i64 0)).setCell (b,0) (.int .i64 0)).setCell (b,1) (.slice none 0 0));have ag:Blk H b 84 #[(),true]:=by rw[<-M];exact((u.bV 0 _).bV 0 _).bV 1 _
 have ab:aO (λi=>i=b) s H:=by rw[<-M];exact(((aO.refl (λi=>i=b) s).setCell (p:=⟨b,0,none⟩) (.inl rfl) _).setCell (p:=⟨b,0,none⟩) (.inl rfl) _).setCell (p:=⟨b,1,none⟩) (.inl rfl) _
 have bo:=bg.out;have bf:=qY (DDo B L d g m xs [] w (.returned (.agg #[(),true])) H) (by
  refine⟨_,bt,(af:Nat),rfl,au.more ab (λi e=>⟨.inr (.inl oZ),oZ⟩) λi hi=>?_,bQ.nil _ _ _ _ _,?_,oZ⟩
  .rcases hi with e|e
   .exact .inl (.inl e)
   .cases e
  .exact(bl.out.trans (Z.mono λi _ a=>⟨a.1,λy=>a.2 (.inl y)⟩)).trans' ab λi hi e=>oZ)
 obtain⟨bz,e1⟩:CI s b 0 0/\CV s b 1 (.slice none 0 0):=⟨u.cell 0,u.cell 1⟩;obtain⟨bu,bv⟩:CI H b 0 0/\CV H b 1 (.slice none 0 0):=⟨ag.cell 0,ag.cell 1⟩;have b0:∀n,s.frozen? ⟨b,n,none⟩=false:=λn=>u.frozen n;have bi:=qZ M;have bb:=qZ T;clear au Z u ag ab M T o r bo am;rw[bb.out];go_wp2_with fail;rw[bi.out];refine bodyPost_ret (v:=.agg #[(),true]) (by simp[results,Tryz.results62,go_sem,bu,bv]) rfl ?_;exact bf
end bU
variable{ev:List Top.E}{j l:Nat}{A:Option Addr}{wr:World}
namespace bU
open Go Go.RowKit L bM eZ Srt pE pJ
structure yG where
 kind:Int
 y:vB
 n:Int
def yZ(s:yG):List Value:=.int .i64 s.kind::((tQ s.y.x s.y.v1 s.y.v2).toList++[.int .i64 s.n])
def Steps(w:World)(v:Value)(ys:List yG):Prop:=∃A cap,v=.slice A ys.length cap/\gQ w A 17 yZ ys/\∀y∈ys,bX w (.agg #[y.y.v1,y.y.v2,.int .i64 y.y.x.c.aI,.int .i64 y.y.x.c.aK]) y.y.x.c
def lW(ys:List yG):Nat->List Top.Cmd
 |0=>[]
 |k+1=>match ys[k]? with
  |some y=>if y.kind=1 then lW ys k++[y.y.x]else lW ys k
  |none=>lW ys k
def GJ(ys:List yG):Nat->List (List Top.E)
 |0=>[]
 |k+1=>match ys[k]? with
  |some y=>GJ ys k++[if y.kind=1 then(Top.apply (jB (lW ys k)) y.y.x).2 else[]]
  |none=>GJ ys k
theorem ahb(ys:List yG)(h:k<ys.length):lW ys (k+1)=if ys[k].kind=1 then lW ys k++[ys[k].y.x]else lW ys k:=by show(match ys[k]? with|some y=>_|none=>_)=_;rw[aH h]
theorem acD(ys:List yG)(h:k<ys.length):GJ ys (k+1)=GJ ys k++[if ys[k].kind=1 then(Top.apply (jB (lW ys k)) ys[k].y.x).2 else[]]:=by show(match ys[k]? with|some y=>_|none=>_)=_;rw[aH h]
structure Goes (ys:List yG) (m:Nat):Prop where
 step:∀k (h:k<ys.length),(ys[k].kind=1/\Top.Plain ys[k].y.x/\gZ (jB (lW ys k)) ys[k].y.x=0)\/(ys[k].kind=3/\ys[k].y=⟨⟨0,Top.noC,Top.noG,0⟩,.slice none 0 0,.slice none 0 0⟩)
 room:∀k,k<=ys.length->(Top.bD (lW ys k)).length<=m
 fine:∀k,k<=ys.length->abo (lW ys k)
 few:∀k,k<=ys.length->(lW ys k).length<=900
 len:ys.length<=900
theorem ainfo:(prog.info? 84).map (λi=>(i.zero,i.size,i.bytes))=some (some (.agg #[(),true]),2,32):=by kernel_rfl
def WV(p:Value×List Top.E):List Value:=[.int .i64 0,p.1]
structure adt (wz:World) (W:World) (db sb z g m:Nat) (xs:List Top.Cmd) (evs:List (List Top.E)) (vo:Value) (ps:List (Value×List Top.E)):Prop where
 old:Below wz wz W
 ev:ps.map (·.2)=evs
 row:bQ W wz 84 2 WV vo ps
 evs:∀p∈ps,bQ W wz 49 3 oQ p.1 p.2/\∀b,p.1.ownBlock=some b->vo.ownBlock≠some b
 dr:CB (wz:Nat) (λi=>vo.ownBlock=some i\/∃p∈ps,p.1.ownBlock=some i) z W db sb g m xs
theorem apl{d:World}{H ai z2:Nat}{xs aa:List Top.Cmd}{O:List (List Top.E)}{o:Value}{ps:List (Value×List Top.E)}(h:adt w wr H ai z g m xs O o ps)(r:Below wr wr W)(ad:CB (w:Nat) (λk=>(o.ownBlock=some k\/∃p∈ps,p.1.ownBlock=some k)\/(Value.slice A j l).ownBlock=some k) z2 d H n g m aa)(y:bQ d W 49 3 oQ (.slice A j l) ev)(K:aO (Room (w:Nat) λk=>o.ownBlock=some k\/∃p∈ps,p.1.ownBlock=some k) W d)(ak:(W:Nat)<=z2)(aj:ps.length<=1000):∃v' v,(Builtin.append_ #[77,77] 77 #[o,.slice d 1 1]).run prog (d.alloc (.cells #[(),.slice A j l] 84))=.ok v' v/\adt w v H n z2 g m aa (O++[ev]) v' (ps++[(.slice A j l,ev)]):=by
 obtain⟨i0,hi,af,ag,ah⟩:=info_parts ainfo;have N:Below w w d:=(h.old.trans (r.mono h.old.size)).trans (K.below (aV h.old.size r.size) λi s=>s.1);have Z:bQ d w 84 2 WV o ps:=(h.row.below r).bD (λb a=>K.block b ((h.row.below r).lt b a).2 λs=>s.2 (.inl a));have X:Below d d (d.alloc (.cells #[(),.slice A j l] 84)):=bZ;have s:=rU (k:=2) (dec:=WV) (x:=((.slice A j l,ev):Value×List Top.E)) (Blk.new d 84 #[(),.slice A j l]) rfl;obtain⟨v',v,e1,e2,e3,e4,ab⟩:=mP 77 77 i0 _ 32 underlying77 hi af ag ah rfl oZ (λ_=>rfl) (ys:=[((.slice A j l,ev):Value×List Top.E)]) (m:=1) (c:=1) (λu Y=>by simp only[dL,kV,fC,WV,bA,dS,or_false]at Y;rcases Y with rfl|rfl<;>rfl) (Z.below X) rfl s (by have:=N.size;simp;omega) (by unfold maxLen;omega) oZ;have F:aO (λi=>o.ownBlock=some i) d v:=(aO.bS X).trans' (aO.lG e3 λi e=>e) (λi _ e=>e);have I:∀b,v'.ownBlock=some b->o.ownBlock=some b\/(d:Nat)<=b:=λb a=>(ab b a).imp id (λe=>by simp at e;omega);have M:∀b,o.ownBlock=some b->b<(wr:Nat):=λb a=>(h.row.lt b a).2;have ae:=r.size;refine⟨v',v,e1,N.trans (F.below N.size λi e=>(Z.lt i e).1),by rw[dO,h.ev];rfl,e2,λp f=>?_,ad.more F (λi e=>⟨.inl (.inl e),by have:=M i e;omega⟩) λi hi=>?_⟩
 .rcases bY.1 f with f|f
  .obtain⟨Q,T⟩:=h.evs p f;have J:bQ d w 49 3 oQ p.1 p.2:=(Q.below r).bD (λb a=>K.block b ((Q.below r).lt b a).2 λs=>s.2 (.inr ⟨p,f,a⟩));refine⟨J.bD λb a=>F.block b (J.lt b a).2 (T b a),λb a e=>?_⟩;rcases I b e with e|e
   .exact T b a e
   .have:=(J.lt b a).2;omega
  .have e:p=(.slice A j l,ev):=by simpa using f
   subst e;refine⟨(y.bD λb a=>F.block b (y.lt b a).2 λe=>by have:=(y.lt b a).1;have:=M b e;omega).low (aV h.old.size ae),λb a e=>?_⟩;rcases I b e with e|e
   .have:=(y.lt b a).1;have:=M b e;omega
   .have:=(y.lt b a).2;omega
 .rcases hi with e|⟨p,f,e⟩
  .rcases I i e with e|e
   .exact .inl (.inl (.inl e))
   .exact .inr e
  .rcases bY.1 f with f|f
   .exact .inl (.inl (.inr ⟨p,f,e⟩))
   .have e2:p=(.slice A j l,ev):=by simpa using f
    subst e2;exact .inl (.inr e)
theorem II(y:yG):(yZ y).toArray=#[.int .i64 y.kind]++(tQ y.y.x y.y.v1 y.y.v2)++#[.int .i64 y.n]:=by simp[yZ,tQ]
theorem zM:(prog.info? 75).map (·.size)=some 17:=by kernel_rfl
def agd(ys:List yG)(w1:World)(e:Ending)(w':World):Prop:=∃vo ps v1 v2 vp vr vh rl,e=.returned (.tuple #[vo,stv v1 v2 vp vr vh (jB (lW ys ys.length))])/\ps.map (·.2)=GJ ys ys.length/\bQ w' w1 84 2 WV vo ps/\(∀p∈ps,bQ w' w1 49 3 oQ p.1 p.2)/\StR w' v1 v2 vp vr vh (jB (lW ys ys.length)) rl/\rV w1 v1 v2 vp vr vh (jB (lW ys ys.length)) rl/\Below w1 w1 w'
theorem row_step{ys:List yG}(h:gQ w A 17 yZ ys)(a:k<ys.length):∃b o,A=some ⟨b,o,none⟩/\b<(w:Nat)/\∀W,Below w w W->∀j u,(yZ ys[k])[j]? =some u->W.cell? ⟨b,o+k*17+j,none⟩=some u:=by obtain⟨b,o,rfl,c,f⟩:=h (by intro e;subst e;simp at a);exact⟨b,o,rfl,c,λW d j u g=>(d.cell (p:=⟨b,o+k*17+j,none⟩) c).trans (f k _ (aH a) j u g)⟩
theorem anu{ys:List yG}(M:Steps w1 v ys)(a9:Goes ys m)(db:m<=1048576)(ba:w1.cell? (0,0)=some (.iface ty x))(av:0<(w1:Nat)):Calls prog 27 #[m,v] w1 λe w'=>agd ys w1 e w':=by
 obtain⟨A,ca,rfl,b2,bw⟩:=M;have cl:=qZ b2;have cg:=qZ bw;have H:=qZ a9;obtain⟨N,ax⟩:=nZ ys.length;have ao:=qZ ax;have c0:=a9.len;rw[ax]at c0⊢;obtain⟨Q,ah⟩:=nZ (w1.alloc (.cells #[true,true,(),(),(),(),true,true,true] 31));have ab:=aB ah;have T:=aX ah;have au:CV Q 0 0 (.iface ty x):=(ab.cell (p:=⟨0,0,none⟩) av).trans ba;have bg:0<(Q:Nat):=aM av ab.size;have bj:=qZ (aqv m db au bg);have r:=qZ ab;have bo:=qZ T;have am:=qZ (aC au bg);have co:=qZ ah;clear b2 bw a9 ax ah ab T au bg ba av;go_enter func27,ntmps27;go_upto_region 1 with fail;rw[co.out];go_wp2_with fail;refine bj.mono ?_;rintro e dp⟨aa,dj,g,rfl,⟨z0,bs⟩,bq⟩;have cr:=qY (adt Q dp aa dj z0 g m (lW ys 0) (GJ ys 0) (.slice none 0 0) []) (⟨bq,rfl,bQ.nil _ _ _ _ _,λp d=>(by cases d),bs.more (aO.refl (λ_=>False) _) (λ_ h=>h.elim) (λi hi=>by
   rcases hi with e|⟨p,d,_⟩
   .cases e
   .cases d)⟩)
 clear bs bq bj;go_wp2_with fail;go_loopg[7,14] N (λct dl dk wr=>∃(k:Nat),dk=.int .i64 k/\k<=N/\N<=ct+k/\∃b8 z ps,Hid (adt Q wr aa b8 z g m (lW ys k) (GJ ys k) dl ps));case atStart=>exact⟨0,mZ,oZ,oZ,_,_,_,cr⟩
 case round=>
  obtain⟨k,rfl,dy,dw,b8,z,ps,c⟩:=hrel;by_cases da:k<N
  .have dz:(k:Int)<(N:Int):=oZ;have F:k<ys.length:=by rw[ao.out];exact da
   obtain⟨cs,di,rfl,cy,ad⟩:=row_step cl F;replace ad:=ad wr (r.out.trans (c.old.mono r.size));have a0:=(cg _ (bB F)).below (r.out.trans (c.old.mono r.size));have b3:=H.step k F;have u:=ahb ys F;have K:=acD ys F;have be:=H.room (k+1) oZ;have bv:=H.fine k oZ;have w:=H.few k oZ;have ch:=qY (ps.length<=1000) (by
    have I:=dA List.length c.ev;have cu:∀j,j<=ys.length->(GJ ys j).length=j:=by
     intro j;induction j with
     |zero=>intro _;rfl
     |succ j dh=>intro dx;rw[acD ys oZ,aW,dh oZ];rfl
    rw[bN,cu k oZ]at I;omega)
   generalize ys[k]=y at*;have bb:∀n,Below wr wr n->Live (λi=>u7.ownBlock=some i\/∃p∈ps,p.1.ownBlock=some i) n:=λn l i hi=>by
    have d0:=l.size;rcases hi with e|⟨p,d,e⟩
    .have:=(c.row.lt i e).2;omega
    .have:=((c.evs p d).1.lt i e).2;omega
   have cv:∃bi ar,lW ys (k+1)=bi/\GJ ys (k+1)=GJ ys k++[ar]/\∀n,Below wr wr n->Calls prog 62 #[.pointer aa,.agg (yZ y).toArray] n λe w'=>DDo (Q:Nat) (λi=>u7.ownBlock=some i\/∃p∈ps,p.1.ownBlock=some i) aa g m bi ar n e w':=by
    rcases b3 with⟨bz,de,cx⟩|⟨b1,dg⟩
    .rw[aG bz]at u K;refine⟨_,_,u,K,λn l=>?_⟩;rw[u]at be;have h:=asQ (c.dr.below l) (aV c.old.size l.size) (bb n l) de (a0.below l) cx be w y.n;unfold aiC at h;rw[II,bz];exact h
    .rw[aD (by rw[b1];decide)]at u K;refine⟨_,_,u,K,λn l=>?_⟩;have h:=akj (c.dr.below l) (aV c.old.size l.size) am.2 (bb n l) bv w (((c.old.trans (l.mono c.old.size)).cell (p:=⟨0,0,none⟩) am.2).trans am.1) y.n;rw[II,b1,dg];exact h
   obtain⟨bi,ar,br,bu,aw⟩:=cv;have bd:(yZ y).toArray.all (·.oneCell')=true:=by rw[II];obtain⟨_,_,e,⟨dr,d9,e1,_⟩,⟨ds,ea,e2,_⟩⟩:=a0;simp only[Value.agg.injEq,eO,cB,and_true]at e;rw[e.1,e.2,e1,e2,<-Array.all_toList];rfl
   have ae:(yZ y).toArray.size=17:=by rw[II];rfl
   have a5:∀j v,(yZ y).toArray[j]? =some v->wr.cell? ((⟨cs,di+k*17,none⟩:Addr).add j)=some v:=λj v hv=>by rw[Addr.add_lit];exact ad j v (by simpa using hv)
   obtain⟨f,bp⟩:=nZ ((yZ y).toArray);rw[bp]at aw bd ae a5;have hinfo:(prog.info? 75).map (·.size)=some f.size:=by rw[ae];exact zM
   have cd:=qZ br;have ce:=qZ bu;have cc:=qZ a5;have an:=qZ hinfo;have cj:=qZ bd;have cm:=qZ ae;obtain⟨w0,af⟩:=nZ (wr.alloc (.cells #[(),(),true,true,(),(),(),(),(),(),(),(),(),(),(),(),()] 75));obtain⟨O,bc⟩:=nZ (wr:Nat);have az:=aB af;have bf:=aY af bc;obtain⟨n,ag⟩:=nZ (w0.setRow O f);have l:Below wr wr n:=by rw[<-ag];exact az.trans ((jO w0 O f).below az.size λi e=>oZ)
   have cq:=qY (Blk n O 75 f) (by rw[<-ag];exact bf.row f);have cp:=qZ bf;have bm:=qZ (aC af bc);have cn:=qZ ag;have cb:=qZ l;have bk:=qZ (aw n l);clear u K br bu b3 be bv w a0 ad a5 hinfo bd ae bb aw bp af bc az bf ag l F cy;obtain⟨X,ak,aj,rfl⟩:=c.row.sA;go_upto_region 5 with fail;go_wp2_with(first
    |refine BA rfl 75 (.tmp 16) rfl _ rfl f _ cc underlying75 rfl an ?_
    |(rw[bm.out.1,bm.out.2];refine wpList_store_row rfl 75 (.tmp 9) (.tmp 17) rfl O f rfl rfl 75 _ cp an (by rw[cm.out];rfl) cj ?_;rw[cn.out])
    |refine wpList_load_row rfl 75 (.tmp 9) rfl O rfl 75 f (0,0) _ cq underlying75 rfl an ?_)
   refine bk.mono ?_;rintro e dn⟨ec,eb,z2,rfl,bt,a8,b0,b6⟩;obtain⟨dt,d8,dv,rfl⟩:=a8.sA;obtain⟨v',du,e1,ap⟩:=apl c cb bt a8 b0 b6 ch;obtain⟨dq,d7,d6,rfl⟩:=ap.row.sA;have b9:=qZ e1;have ci:=qZ ap;clear bt a8 b0 b6 e1 ap c bk;go_wp2_with(at_builtin;refine dJ rfl _ _ _ _ rfl (.slice X ak aj) (.slice dn 1 1) rfl rfl b9 ?_);go_roundg(N-(k+1));case measure=>omega
   case rel=>exact⟨k+1,mZ,oZ,oZ,_,_,_,by rw[cd.out,ce.out];exact ci⟩
  .have ba:¬(k:Int)<(N:Int):=oZ;have cz:k=N:=oZ;have w:=H.few k (by have:=ao.out;omega);have al:=akc c.dr.cK (λW cw=>aiE c.dr.sto w W cw);have b5:ys.length=k:=by rw[ao.out,cz]
   have Z:=qZ b5;obtain⟨s,M⟩:=nZ (jB (lW ys k));have aq:=qZ M;rw[M]at al;have bl:=qZ al;obtain⟨X,ak,aj,rfl⟩:=c.row.sA;clear al M b5 w;go_wp2_with fail;refine bl.mono ?_;rintro e wc⟨f,rfl,ay,o⟩;have d:=c.out;have ai:=r.size;have b4:=bo.out.lt;have dd:=d.old.size;have T:=(bo.below d.old b4).below o oZ;have bh:=jO wc (w1:Nat) f;have ck:=qY (agd ys w1 (.returned (.tuple #[.slice X ak aj,.agg f])) (wc.setRow (w1:Nat) f)) (by have b7:Below w1 w1 wr:=r.out.trans (d.old.mono ai);obtain⟨⟨v1,v2,vp,vr,dm,rl,e,a,b⟩,dc⟩:=ay.aaR oZ lZ (b7.trans (o.mono b7.size));rw[<-Z.out]at d;refine⟨_,ps,v1,v2,vp,vr,dm,rl,by rw[Z.out,aq.out,e],d.ev,((d.row.below o).bD λb J=>bh.block b ((d.row.below o).lt b J).2 (by have:=(d.row.lt b J).1;omega)).low ai,λp df=>?_,by rw[Z.out,aq.out];exact a,by rw[Z.out,aq.out];exact b,dc⟩;have I:=(d.evs p df).1;exact((I.below o).bD λb J=>bh.block b ((I.below o).lt b J).2 (by have:=(I.lt b J).1;omega)).low ai);have Y:=qZ ay;have bn:=qZ T;clear ay o d ai b4 dd T bh c bl;go_wp2_with(refine wpList_store_row rfl 31 (.tmp 5) (.tmp 27) rfl (w1:Nat) f rfl rfl 31 _ bn Y.info (by rw[Y.out.size];rfl) Y.one ?_);refine bodyPost_ret (v:=.tuple #[.slice X ak aj,.agg f]) (aep Tryz.results27 rfl (bn.row f) underlying31 rfl Y.info _ rfl) rfl ?_;exact ck
end bU
variable{cs:Array Value}{sz:Nat}
namespace bU
open Go Go.RowKit L bM eZ Srt
theorem afD:(prog.info? 61).map (·.size)=some 15:=by kernel_rfl
theorem LV(kind aI aK a b c d f g j k l xn:Int)(B1 B2:Option Addr)(o m p n:Nat):bW prog 26 #[.agg #[kind,.slice B1 o m,.slice B2 p n,aI,aK,a,b,c,d,f,g,j,k,l,xn]] (.agg #[(1:Int),kind,.slice B1 o m,.slice B2 p n,aI,aK,a,b,c,d,f,g,j,k,l,xn,()]):=by
 intro w;obtain⟨u,r⟩:=nZ ((w.alloc (.cells #[kind,.slice B1 o m,.slice B2 p n,aI,aK,a,b,c,d,f,g,j,k,l,xn] 61)).alloc (.cells #[(),(),true,true,(),(),(),(),(),(),(),(),(),(),(),(),()] 75));have x:Below w w u:=by rw[<-r];exact(bZ).alloc sZ _
 have x0:Blk u w 61 #[kind,.slice B1 o m,.slice B2 p n,aI,aK,a,b,c,d,f,g,j,k,l,xn]:=by rw[<-r];exact(Blk.new w _ _).alloc _
 have y:Blk u ((w:Nat)+1) 75 #[(),(),true,true,(),(),(),(),(),(),(),(),(),(),(),(),()]:=by have:=Blk.new (w.alloc (.cells #[kind,.slice B1 o m,.slice B2 p n,aI,aK,a,b,c,d,f,g,j,k,l,xn] 61)) 75 #[(),(),true,true,(),(),(),(),(),(),(),(),(),(),(),(),()];rw[bC]at this;rw[<-r];exact this
 obtain⟨z,s⟩:=nZ (u.setRow ((w:Nat)+1) #[(1:Int),kind,.slice B1 o m,.slice B2 p n,aI,aK,a,b,c,d,f,g,j,k,l,xn,()]);have A:=qY (Below w w z) (by rw[<-s];exact x.trans ((jO _ _ _).below x.size λi e=>oZ));have K:=qY (Blk z ((w:Nat)+1) 75 #[(1:Int),kind,.slice B1 o m,.slice B2 p n,aI,aK,a,b,c,d,f,g,j,k,l,xn,()]) (by rw[<-s];exact y.row _);have I:=qZ x0;have J:=qZ y;have F:=qZ r;have H:=qZ s;clear r x x0 y s;go_enter func26,ntmps26;go_upto_region 1 with fail;rw[F.out];go_wp2_with(first
  |refine wpList_load_row rfl 61 (.tmp 1) rfl (w:Nat) rfl 61 #[kind,.slice B1 o m,.slice B2 p n,aI,aK,a,b,c,d,f,g,j,k,l,xn] (0,0) _ I underlying61 rfl afD ?_
  |(refine wpList_store_row rfl 75 (.tmp 2) (.tmp 4) rfl ((w:Nat)+1) #[(1:Int),kind,.slice B1 o m,.slice B2 p n,aI,aK,a,b,c,d,f,g,j,k,l,xn,()] rfl rfl 75 _ J zM rfl (by rw[<-Array.all_toList];rfl) ?_;rw[H.out]))
 refine bodyPost_ret (v:=.agg #[(1:Int),kind,.slice B1 o m,.slice B2 p n,aI,aK,a,b,c,d,f,g,j,k,l,xn,()]) (by exact results_cell_row Tryz.results26 _ _ ((w:Nat)+1) 75 _ (0,0) _ rfl K underlying75 rfl zM) rfl ?_;exact⟨rfl,A⟩
theorem zV(id b a:Int):bW prog 29 #[id,b,a] (.agg #[(1:Int),(2:Int),true,true,(),(),id,b,(2:Int),(2:Int),(2:Int),(2:Int),a,(3:Int),(),(),()]):=by intro w;obtain⟨A,d⟩:=nZ (w.alloc (.cells #[(),(),true,true,(),(),(),(),(),(),(),(),(),(),(),(),()] 75));have n:=aB d;have p:=aX d;have j:=qZ p;have r:=qZ n;have u:=qZ d;have l:=LV 2 0 0 id b 2 2 2 2 a 3 0 0 none none 0 0 0 0 A;have g:=qZ l;clear d n p l;go_enter func29,ntmps29;go_upto_region 1 with fail;rw[u.out];go_wp2_with fail;refine g.mono ?_;rintro e z⟨rfl,f⟩;have k:=qZ (j.below f j.out.lt);obtain⟨o,c⟩:=nZ (z.setRow (w:Nat) #[(1:Int),(2:Int),true,true,(),(),id,b,(2:Int),(2:Int),(2:Int),(2:Int),a,(3:Int),(),(),()]);have y:=qY (Blk o w 75 #[(1:Int),(2:Int),true,true,(),(),id,b,(2:Int),(2:Int),(2:Int),(2:Int),a,(3:Int),(),(),()]) (by rw[<-c];exact k.row _);have s:=qY (Below w w o) (by have m:=aA r f;rw[<-c];exact m.trans ((jO _ _ _).below m.size λi e=>oZ));have x:=qZ c;clear f c g;go_wp2_with(refine wpList_store_row rfl 75 (.tmp 6) (.tmp 13) rfl (w:Nat) #[(1:Int),(2:Int),true,true,(),(),id,b,(2:Int),(2:Int),(2:Int),(2:Int),a,(3:Int),(),(),()] rfl rfl 75 _ k zM rfl (by rw[<-Array.all_toList];rfl) ?_;rw[x.out]);refine bodyPost_ret (v:=.agg #[(1:Int),(2:Int),true,true,(),(),id,b,(2:Int),(2:Int),(2:Int),(2:Int),a,(3:Int),(),(),()]) (by exact results_cell_row Tryz.results29 _ _ (w:Nat) 75 _ (0,0) _ rfl y underlying75 rfl zM) rfl ?_;exact⟨rfl,s⟩
theorem ahT{α:Type}{dec:α->List Value}(a:∀x,(dec x).length=sz):∀(xs:List α) (i:Nat) (x:α),xs[i]? =some x->∀j v,(dec x)[j]? =some v->(xs.flatMap dec)[i*sz+j]? =some v
 |[],i,x,h=>by simp at h
 |y::l,0,x,h=>λj v hv=>by simp at h;subst h;rw[dL,lX,aU,dG (bE.1 hv).1];exact hv
 |y::l,i+1,x,h=>λj v hv=>by rw[dL,dI (by rw[a,Nat.succ_mul];omega),a,show(i+1)*sz+j-sz=i*sz+j by rw[Nat.succ_mul];omega];exact ahT a l i x (by simpa using h) j v hv
theorem VI{α:Type}{b:Nat}{dec:α->List Value}(c:∀x,(dec x).length=sz){t:TypeId}{xs:List α}(h:Blk w b t cs)(a:cs=(xs.flatMap dec).toArray):gQ w (some ⟨b,0,none⟩) sz dec xs:=λ_=>
 ⟨b,0,rfl,h.lt,λi x d j v hv=>by have:=ahT c xs i x d j v hv;rw[aU];exact(Blk.cell h (i*sz+j)).trans (by rw[a];simpa using this)⟩
theorem abI(w:World):Calls prog 28 #[] w λe w'=>∃B1 B2,e=.returned (.agg #[.slice B1 3 3,.slice B2 2 2,(10:Int),()])/\bX w' (.agg #[.slice B1 3 3,.slice B2 2 2,(10:Int),()]) pO/\Below w w w':=by
 obtain⟨b,a⟩:=nZ (((((w.alloc (.cells #[.slice (some ⟨(w:Nat)+1+1,0,none⟩) 3 3,.slice (some ⟨(w:Nat)+1+1+1,0,none⟩) 2 2,(10:Int),()] 26)).alloc (.cells #[(4:Int),(4:Int),(4:Int)] 40)).alloc (.cells #[.int .i64 (-1),.int .i64 1,.int .i64 0,.int .i64 0,.int .i64 0,.int .i64 0,.int .i64 0,.int .i64 0,.int .i64 0,.int .i64 0,.int .i64 0,.int .i64 0,.int .i64 1,.int .i64 4,.int .i64 4,.int .i64 4,.int .i64 4,.int .i64 4,.int .i64 4,.int .i64 4,.int .i64 4,.int .i64 4,.int .i64 0,.int .i64 1,.int .i64 4,.int .i64 4,.int .i64 4,.int .i64 4,.int .i64 4,.int .i64 4,.int .i64 4,.int .i64 4,.int .i64 4] 66)).alloc (.cells #[(),(),(),(4:Int),(4:Int),(4:Int),(),(),(1:Int),(4:Int),(4:Int),(4:Int)] 131)));have xn:Blk b ((w:Nat)+1+1) 66 #[.int .i64 (-1),.int .i64 1,.int .i64 0,.int .i64 0,.int .i64 0,.int .i64 0,.int .i64 0,.int .i64 0,.int .i64 0,.int .i64 0,.int .i64 0,.int .i64 0,.int .i64 1,.int .i64 4,.int .i64 4,.int .i64 4,.int .i64 4,.int .i64 4,.int .i64 4,.int .i64 4,.int .i64 4,.int .i64 4,.int .i64 0,.int .i64 1,.int .i64 4,.int .i64 4,.int .i64 4,.int .i64 4,.int .i64 4,.int .i64 4,.int .i64 4,.int .i64 4,.int .i64 4]:=by have:=Blk.new ((w.alloc (.cells #[.slice (some ⟨(w:Nat)+1+1,0,none⟩) 3 3,.slice (some ⟨(w:Nat)+1+1+1,0,none⟩) 2 2,(10:Int),()] 26)).alloc (.cells #[(4:Int),(4:Int),(4:Int)] 40)) 66 #[.int .i64 (-1),.int .i64 1,.int .i64 0,.int .i64 0,.int .i64 0,.int .i64 0,.int .i64 0,.int .i64 0,.int .i64 0,.int .i64 0,.int .i64 0,.int .i64 0,.int .i64 1,.int .i64 4,.int .i64 4,.int .i64 4,.int .i64 4,.int .i64 4,.int .i64 4,.int .i64 4,.int .i64 4,.int .i64 4,.int .i64 0,.int .i64 1,.int .i64 4,.int .i64 4,.int .i64 4,.int .i64 4,.int .i64 4,.int .i64 4,.int .i64 4,.int .i64 4,.int .i64 4];simp only[bC]at this;rw[<-a];exact this.alloc _
 have d:Blk b ((w:Nat)+1+1+1) 131 #[(),(),(),(4:Int),(4:Int),(4:Int),(),(),(1:Int),(4:Int),(4:Int),(4:Int)]:=by have:=Blk.new (((w.alloc (.cells #[.slice (some ⟨(w:Nat)+1+1,0,none⟩) 3 3,.slice (some ⟨(w:Nat)+1+1+1,0,none⟩) 2 2,(10:Int),()] 26)).alloc (.cells #[(4:Int),(4:Int),(4:Int)] 40)).alloc (.cells #[.int .i64 (-1),.int .i64 1,.int .i64 0,.int .i64 0,.int .i64 0,.int .i64 0,.int .i64 0,.int .i64 0,.int .i64 0,.int .i64 0,.int .i64 0,.int .i64 0,.int .i64 1,.int .i64 4,.int .i64 4,.int .i64 4,.int .i64 4,.int .i64 4,.int .i64 4,.int .i64 4,.int .i64 4,.int .i64 4,.int .i64 0,.int .i64 1,.int .i64 4,.int .i64 4,.int .i64 4,.int .i64 4,.int .i64 4,.int .i64 4,.int .i64 4,.int .i64 4,.int .i64 4] 66)) 131 #[(),(),(),(4:Int),(4:Int),(4:Int),(),(),(1:Int),(4:Int),(4:Int),(4:Int)];simp only[bC]at this;rw[<-a];exact this
 have xc:Blk b w 26 #[.slice (some ⟨(w:Nat)+1+1,0,none⟩) 3 3,.slice (some ⟨(w:Nat)+1+1+1,0,none⟩) 2 2,(10:Int),()]:=by rw[<-a];exact(((Blk.new w _ _).alloc _).alloc _).alloc _
 have c:Below w w b:=by rw[<-a];exact(((bZ).alloc sZ _).alloc (by simp;omega) _).alloc (by simp;omega) _
 have f:=qY (bX b (.agg #[.slice (some ⟨(w:Nat)+1+1,0,none⟩) 3 3,.slice (some ⟨(w:Nat)+1+1+1,0,none⟩) 2 2,(10:Int),()]) pO/\Below w w b) (⟨⟨_,_,rfl,⟨_,_,rfl,VI (dec:=oP) (λ_=>rfl) xn rfl,dZ⟩,⟨_,_,rfl,VI (dec:=hdec) (λ_=>rfl) d rfl,dZ⟩⟩,c⟩);obtain⟨i,j,k,l⟩:=xc.c4;have g:=qZ a;clear a xn d xc c;go_enter func28,ntmps28;go_upto_region 2 with fail;go_wp2_with fail;rw[g.out];refine bodyPost_ret (v:=.agg #[.slice (some ⟨(w:Nat)+1+1,0,none⟩) 3 3,.slice (some ⟨(w:Nat)+1+1+1,0,none⟩) 2 2,(10:Int),()]) (by simp[results,Tryz.results28,go_sem,i,j,k,l]) rfl ?_;exact⟨_,_,rfl,f⟩
def ysB(v1 v2:Value):List yG:=[⟨1,⟨iX,v1,v2⟩,0⟩,⟨1,⟨gF 1 1 50,.slice none 0 0,.slice none 0 0⟩,0⟩,⟨1,⟨gF 2 1 50,.slice none 0 0,.slice none 0 0⟩,0⟩,⟨1,⟨kD,.slice none 0 0,.slice none 0 0⟩,0⟩,⟨3,⟨⟨0,Top.noC,Top.noG,0⟩,.slice none 0 0,.slice none 0 0⟩,0⟩,⟨1,⟨gF 3 2 9,.slice none 0 0,.slice none 0 0⟩,0⟩,⟨1,⟨kD,.slice none 0 0,.slice none 0 0⟩,0⟩]
theorem py1:Top.jB [iX]=Top.s1:=by show(Top.apply Top.new iX).1=_;rw[Top.a1]
theorem py2:Top.jB [iX,gF 1 1 50]=Top.s2:=by rw[show[iX,gF 1 1 50]=[iX]++[gF 1 1 50]from rfl,zR,py1,Top.a2]
theorem py3:Top.jB [iX,gF 1 1 50,gF 2 1 50]=Top.s3:=by rw[show[iX,gF 1 1 50,gF 2 1 50]=[iX,gF 1 1 50]++[gF 2 1 50]from rfl,zR,py2,Top.a3]
theorem py4:Top.jB [iX,gF 1 1 50,gF 2 1 50,kD]=Top.s4:=by rw[show[iX,gF 1 1 50,gF 2 1 50,kD]=[iX,gF 1 1 50,gF 2 1 50]++[kD]from rfl,zR,py3,Top.a4]
theorem py6:Top.jB [iX,gF 1 1 50,gF 2 1 50,kD,gF 3 2 9]=Top.s6:=by rw[show[iX,gF 1 1 50,gF 2 1 50,kD,gF 3 2 9]=[iX,gF 1 1 50,gF 2 1 50,kD]++[gF 3 2 9]from rfl,zR,py4,Top.a6]
theorem py7:Top.jB [iX,gF 1 1 50,gF 2 1 50,kD,gF 3 2 9,kD]=Top.s7:=by rw[show[iX,gF 1 1 50,gF 2 1 50,kD,gF 3 2 9,kD]=[iX,gF 1 1 50,gF 2 1 50,kD,gF 3 2 9]++[kD]from rfl,zR,py6,Top.a7]
theorem aqZ(v1 v2:Value):jB (lW (ysB v1 v2) (ysB v1 v2).length)=Top.s7:=py7
theorem auy(v1 v2:Value):GJ (ysB v1 v2) (ysB v1 v2).length=[[],[],[],[⟨1,1,0⟩,⟨1,2,0⟩],[],[],[⟨2,2,0⟩,⟨1,3,0⟩]]:=by show[(Top.apply (jB []) iX).2,(Top.apply (jB [iX]) (gF 1 1 50)).2,(Top.apply (jB [iX,gF 1 1 50]) (gF 2 1 50)).2,(Top.apply (jB [iX,gF 1 1 50,gF 2 1 50]) kD).2,[],(Top.apply (jB [iX,gF 1 1 50,gF 2 1 50,kD]) (gF 3 2 9)).2,(Top.apply (jB [iX,gF 1 1 50,gF 2 1 50,kD,gF 3 2 9]) kD).2]=_;rw[show jB []=Top.new from rfl,py1,py2,py3,py4,py6,Top.a1,Top.a2,Top.a3,Top.a4,Top.a6,Top.a7]
theorem oU{xs:List Top.Cmd}(x:Top.Cmd)(h:jB xs=s)(e:gZ s x=0):gZ (jB xs) x=0:=by rw[h];exact e
def AZ:List Top.Cmd:=[iX,gF 1 1 50,gF 2 1 50,kD,gF 3 2 9,kD]
theorem atM:∀x∈AZ,Top.Plain x:=by
 intro x a;simp only[AZ,bA,dS,or_false]at a;rcases a with rfl|rfl|rfl|rfl|rfl|rfl
 .exact Top.p1
 .exact Top.p2
 .exact Top.p3
 .exact Top.p4
 .exact Top.p6
 .exact Top.p4
theorem axC:∀k (h:k<AZ.length),gZ (jB (AZ.take k)) AZ[k]=0
 |0,_=>Top.e1
 |1,_=>oU _ py1 Top.e2
 |2,_=>oU _ py2 Top.e3
 |3,_=>oU _ py3 Top.e4
 |4,_=>oU _ py4 Top.e6
 |5,_=>oU _ py6 Top.e7
 |k+6,h=>absurd h (by simp[AZ])
theorem anj(n:Nat):abo (AZ.take n):=⟨λx b=>atM x (List.mem_of_mem_take b),λk h=>by
 have a:k<n/\k<AZ.length:=by rw[bO]at h;exact⟨aM h (Nat.min_le_left _ _),aM h (Nat.min_le_right _ _)⟩
 have:=axC k a.2;rw[List.take_take,iM oZ,List.getElem_take];exact this⟩
theorem asy{xs:List Top.Cmd}{b:Nat}(a:∀x∈xs,(mQ x).length<=b)(g:b<=16000):(Top.bD xs).length<=(b+8)*xs.length:=by
 induction xs with
 |nil=>exact bK _
 |cons x t d=>
  have e:=a x (aZ ..);have f:=d (λy c=>a y (bG _ c));show(Crc.frame (mQ x)++Top.bD t).length<=_;rw[aW,rP _ oZ,List.length_cons,Nat.mul_succ];omega
theorem axu:∀x∈AZ,(mQ x).length<=500:=by intro x a;simp only[AZ,bA,dS,or_false]at a;rcases a with rfl|rfl|rfl|rfl|rfl|rfl<;>decide+kernel
theorem alR(n:Nat):(Top.bD (AZ.take n)).length<=5000:=by
 have h:=asy (xs:=AZ.take n) (λx a=>axu x (List.mem_of_mem_take a)) oZ;have:(AZ.take n).length<=6:=by rw[bO];exact Nat.min_le_right _ _
 omega
theorem abg(v1 v2:Value):∀k,k<=(ysB v1 v2).length->∃n,n<=6/\lW (ysB v1 v2) k=AZ.take n
 |0,_=>⟨0,oZ,rfl⟩
 |1,_=>⟨1,oZ,rfl⟩
 |2,_=>⟨2,oZ,rfl⟩
 |3,_=>⟨3,oZ,rfl⟩
 |4,_=>⟨4,oZ,rfl⟩
 |5,_=>⟨4,oZ,rfl⟩
 |6,_=>⟨5,oZ,rfl⟩
 |7,_=>⟨6,oZ,rfl⟩
 |k+8,h=>absurd h (by simp[ysB])
theorem awi(v1 v2:Value):Goes (ysB v1 v2) 5000 where
 step
  |0,_=>.inl ⟨rfl,Top.p1,Top.e1⟩
  |1,_=>.inl ⟨rfl,Top.p2,oU _ py1 Top.e2⟩
  |2,_=>.inl ⟨rfl,Top.p3,oU _ py2 Top.e3⟩
  |3,_=>.inl ⟨rfl,Top.p4,oU _ py3 Top.e4⟩
  |4,_=>.inr ⟨rfl,rfl⟩
  |5,_=>.inl ⟨rfl,Top.p6,oU _ py4 Top.e6⟩
  |6,_=>.inl ⟨rfl,Top.p4,oU _ py6 Top.e7⟩
  |k+7,h=>absurd h (by simp[ysB])
 room k hk:=by obtain⟨n,_,e⟩:=abg v1 v2 k hk;rw[e];exact alR n
 fine k hk:=by obtain⟨n,_,e⟩:=abg v1 v2 k hk;rw[e];exact anj n
 few k hk:=by obtain⟨n,a,e⟩:=abg v1 v2 k hk;rw[e,bO];exact aV (Nat.min_le_right _ _) dZ
 len:=by show 7<=900;omega
end bU
end Go.Proofs.YtedmeglbjmdlhaaGreatDoor
