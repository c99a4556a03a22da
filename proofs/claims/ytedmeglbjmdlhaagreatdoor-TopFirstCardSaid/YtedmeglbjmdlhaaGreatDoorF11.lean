/-
Parts of TopFirst.
-/
import Derived.Test.YtedmeglbjmdlhaaGreatDoorF10
import Derived.Test.YtedmeglbjmdlhaaGreatDoorF9
set_option maxRecDepth 100000
set_option maxHeartbeats 16000000
set_option linter.all false
open Go.Proofs.Tryz
namespace Go.Proofs.YtedmeglbjmdlhaaGreatDoor
open Top renaming bytes->ac,byte->cA,later->cH,Low->cQ,pops->cS,bytes_append->dE,used->eR,order->eV,room->gj,room->gp
open Go.Value renaming slice->cC,pointer->cF,int->cI,agg->ft,tuple->fu,string->fv,ownBlock->fy,int->fW
open Go.RowKit renaming Below->cD
open Go.Obj renaming cells->cE
open Go.Ending renaming returned->cG
open List renaming length_cons->cJ,length_nil->cU,replicate->eQ,range_succ->fw,range->gh,map->gl
open Go renaming Value->cL,Calls->cN,World->dC,rounds_succ->eN,bodyPost_ret->eS,info_parts->fx,maxLen->ga,TypeId->gd
open Go.Proofs.Tryz renaming prog->cM,underlying28->fX
open L.Blk renaming new->cP,lt->gf,cell->gn
open Option renaming some->cR,none->cV,getD_some->eJ
open Fix renaming top->cT,mul->eM,ofInt->fN,add->gi
open Go.IntKind renaming u64->cW,i64->cY
open Go.RowKit.Below renaming size->cX,grown->gb
open Vec renaming V->dT,dom->eW,dX->fz,nI->fL,add->gg,zero->gm
open _root_.Array renaming length_toList->eA
open bT.iZ renaming after->eC
open Vec.V renaming val->eE
open Bool renaming false->eI,true->eK
open gT renaming In64->eL
open Go
open Cfg Dec L Ord Quo Top Vec agV bO bT eO gT rM
variable{rl:List bO.Run}{k:Nat}{X v x:cL}{w:dC}
variable{F:Nat->Prop}{W w':dC}
variable{c:Cfg.C}
variable{b1 b2:Nat}
variable{vr:cL}
variable{b3:Nat}{A:Option Addr}
variable{h:List Nat}
variable{g n:Nat}
variable{cs:Array cL}{va:cL}
variable{w0:dC}
namespace bT
open Go.RowKit L bO eO Srt
theorem BR{l:List Int}(h:ISl w v l)(i:l.length<=1000000)(x:Int):∀w1,cD w w w1->cN cM 131 #[v,x] w1 λe w'=>e=cG (.bool (l.contains x))/\w'=w1:=λw1 d=>by
 obtain⟨A,cap,rfl,g,m⟩:=h.below d;by_cases c:l=[]
 .subst c;exact Tryz.slices_Contains_int_empty A cap x w1
 .obtain⟨b,o,rfl,k,f⟩:=g c;have:=Tryz.slices_Contains_int b o l.length cap l x w1 lZ oZ (λj a=>by have:=f j _ (aH a) 0 _ rfl;rw[gI,Nat.add_zero]at this;simpa[a]using this);rwa [aU lZ]at this
theorem aay(rl:List Run)(cB:List Int)(h:k<rl.length):dH ((rl.take (k+1)).map eD) cB=if cB.contains rl[k].id then dH ((rl.take k).map eD) cB else dH ((rl.take k).map eD) cB++[eD rl[k]]:=by
 unfold dH;rw[bE h,dO,fU];have e:(eD rl[k]).p.id=rl[k].id:=rfl;by_cases a:cB.contains rl[k].id=eK
 .rw[aI a];simp[e];simpa using a
 .rw[aF a];simp[e];simpa using a
theorem wR{cB:List Int}(h:Runs w v rl)(am:Many rl)(bp:ISl w X cB)(bo:cB.length<=1000000):∀w1,cD w w w1->cN cM 79 #[v,X] w1 λe w'=>MN (dH (rl.map eD) cB) w1 e w':=by
 intro w1 ah;have bg:=qZ (BR (bp.below ah) bo);obtain⟨R,ci,rfl,bu,cp,bq⟩:=h.below ah;have a8:=qZ bu;have a0:=qZ bq;have ab:=qZ am;obtain⟨K,M⟩:=nQ rl.length;have bh:=am.len;rw[M.out]at bh⊢;go_enter func79,ntmps79;go_wp2_with fail;go_loopg[5,10] K (λbf cc v10 wr=>∃(k:Nat) (m:List Run),v10=cI cY k/\k<=K/\K<=bf+k/\Hid (jS wr (w1:Nat) cc m/\m.map eD=dH ((rl.take k).map eD) cB/\m.length<=k)/\Hid (cD w1 w1 wr)/\Hid (JE (w1:Nat) m));exact⟨0,[],mZ,oZ,oZ,qZ ⟨jS.nil _ _,by simp[dH],sZ⟩,qZ (aK _ _),qZ (λy p=>by cases p)⟩
 obtain⟨k,m,rfl,co,cn,o,n,Q⟩:=hrel;by_cases br:k<K
 .have bs:(k:Int)<(K:Int):=oZ;have H:k<rl.length:=by rw[M.out];exact br
  obtain⟨ch,ct,rfl,cq,bn⟩:=qQ a8 H;obtain⟨ao,p1,p2,p3,p4,au,p6,av,aw,ax,ap,aq,ar,Y⟩:=bn wr n;have F:=qZ (aay rl cB H);have I:=qZ (aC ((a0 _ (bD H)).below n) (aC (ab.num _ (bD H)) (ab.aR _ (bD H))));have T:=qZ (aaC _ I.1 I.2.2);obtain⟨x,bb⟩:=nQ (rl[k]);rw[bb.out]at ao p1 p2 p3 p4 au p6 av aw ax ap aq ar Y F I T;obtain⟨az,bd,af,_,_⟩:=id I.1;obtain⟨a,b,c,⟨d,e,f⟩,g,h,i,j,r,st,l,aR,hv⟩:=x;simp only at af ao p1 p2 p3 p4 au p6 av aw ax ap aq ar Y F;subst af;obtain⟨bv,a5⟩:=nQ aR.length;simp only[pU,qW,a5.out]at T Y;obtain⟨ce,N⟩:=nQ (wr.alloc (cE #[a,b,c,d,e,f,g,h,i,j,r,st,l,cC az bv bd] 86));have bm:=aB N;have ay:=aX N;have J:=qZ (aC bm ay);obtain⟨bw,bz,b4,b5,b6,b7,b8,b9,ca,cb,b0,b1,b2,b3⟩:=ay.c14;obtain⟨bc,ba⟩:=nQ (cB.contains a);have ag:=bg.out a ce (aA n J.1);rw[ba.out]at ag F;go_wp2_with fail;refine Eq.mp (dB (λz=>cN cM _ _ z _) N.out.symm) ?_;refine(ag).mono ?_;rintro be Z⟨rfl,rfl⟩;have cg:=J.2;have u:=qZ J.1;obtain⟨bw,bz,b4,b5,b6,b7,b8,b9,ca,cb,b0,b1,b2,b3⟩:=cg.c14;cases bc
  .go_wp2_with fail;refine(T.out Z u).mono ?_;rintro be cd⟨v',rfl,al,ak,bk⟩;obtain⟨s,A,rfl,cm,cr⟩:=id al;have ai:=aA u bk;obtain⟨u6,ad,W,bi,bl,cs⟩:=abe (x:=⟨a,b,c,⟨d,e,f⟩,g,h,i,j,r,st,l,aR,cC s aR.length A⟩) o.1 ai n.size al
    (λbt b bj=>by have:=ak bt b bj;have:=cX u;omega) (by have:=o.2.2;omega)
   rw[VG]at W;simp only[qW]at W;have O:=qY (jS ad (w1:Nat) u6 (m++[⟨a,b,c,⟨d,e,f⟩,g,h,i,j,r,st,l,aR,cC s aR.length A⟩])/\(m++[(⟨a,b,c,⟨d,e,f⟩,g,h,i,j,r,st,l,aR,cC s aR.length A⟩:Run)]).map eD=dH ((rl.take (k+1)).map eD) cB/\(m++[(⟨a,b,c,⟨d,e,f⟩,g,h,i,j,r,st,l,aR,cC s aR.length A⟩:Run)]).length<=k+1) (⟨bi,by rw[F.out,aF dZ,dO,o.out.2.1];rfl,by have:=o.2.2;simp;omega⟩);have L:=qY (cD w1 w1 ad) ((n.out.trans (Below.mono ai n.size)).trans bl);have a9:=qY (JE (w1:Nat) (m++[(⟨a,b,c,⟨d,e,f⟩,g,h,i,j,r,st,l,aR,cC s aR.length A⟩:Run)])) (λy p an ae aj=>by
    rcases dM.1 p with p|p
    .exact Q y p an ae aj
    .have e:y=⟨a,b,c,⟨d,e,f⟩,g,h,i,j,r,st,l,aR,cC s aR.length A⟩:=by simpa using p
     subst e;have cj:=ak an ae aj;have ck:=cX u;have cl:=n.size;omega)
   go_wp2_with(at_builtin;refine cK rfl (.tmp 20) (.tmp 23) _ _ rfl u5 (cC cd 1 1) rfl rfl W ?_);go_roundg(K-(k+1));exact⟨k+1,_,mZ,oZ,oZ,O,L,a9⟩;omega
  .have O:=qY (jS Z (w1:Nat) u5 m/\m.map eD=dH ((rl.take (k+1)).map eD) cB/\m.length<=k+1) (⟨o.1.below u,by rw[F.out,aI rfl];exact o.2.1,by have:=o.2.2;omega⟩);have L:=qY (cD w1 w1 Z) (aA n u);go_wp2_with fail;go_roundg(K-(k+1));exact⟨k+1,_,mZ,oZ,oZ,O,L,Q⟩;omega
 .have bs:¬(k:Int)<(K:Int):=oZ;have aa:=qY (jS wr (w1:Nat) _ m/\m.map eD=dH (rl.map eD) cB) (⟨o.1,by have:=o.2.1;rwa [aU (by have:=M.out;omega)]at this⟩);go_wp2_with fail;go_ret;exact⟨_,m,rfl,aa.1,aa.2,n,Q⟩
theorem MZ{cB:List Int}(h:Runs w v rl)(j:Many rl)(i:ISl w x cB)(g:cB.length<=1000000):∀w1,cD w w w1->cN cM 79 #[v,x] w1 λe w'=>agR (dH (rl.map eD) cB) w1 e w':=λw1 f=>
 (wR h j i g w1 f).mono λe w' ⟨v',rl',a,b,c,d,_⟩=>⟨v',rl',a,b,c,d⟩
theorem YO(x y:Run)(ai:x.hv.oneCell'=eK)(aj:y.hv.oneCell'=eK):eP cM 204 #[pU x,pU y] (.bool (cH (eD x) (eD y))):=λw=>by
 have Z:cH (eD x) (eD y)=decide (Ord.or2 (Ord.num y.start x.start) (Ord.num y.seq x.seq)<0):=rfl;obtain⟨a0,n,l,⟨o,p,s⟩,v,A,i0,d,K,g,M,ao,O⟩:=x;obtain⟨a1,b1,c1,⟨d1,e1,u⟩,z,j,J,f,L,i,N,ap,v1⟩:=y;simp only at Z ai aj;rw[Z];simp only[pU,qW];obtain⟨n0,F⟩:=nZ (Ord.num i g);obtain⟨n1,H⟩:=nZ (Ord.num f d);obtain⟨r,I⟩:=nZ (Ord.or2 n0 n1);rw[F,H,I];have Q:=qZ (λW=>uP i g W);have T:=qZ (λW=>uP f d W);rw[F]at Q;rw[H]at T;have X:=qZ (λW b af j ae=>SA (w:=W) (b:=b) af n0 n1 j ae);rw[I]at X;obtain⟨a,k⟩:=nQ ((w.alloc (cE #[a0,n,l,o,p,s,v,A,i0,d,K,g,M,O] 86)).alloc (cE #[a1,b1,c1,d1,e1,u,z,j,J,f,L,i,N,v1] 86));have am:Blk a w 86 #[a0,n,l,o,p,s,v,A,i0,d,K,g,M,O]:=by rw[<-k.out];exact Blk.alloc (cP _ _ _) _
 have an:Blk a ((w:Nat)+1) 86 #[a1,b1,c1,d1,e1,u,z,j,J,f,L,i,N,v1]:=by rw[<-k.out];have h:=cP (w.alloc (cE #[a0,n,l,o,p,s,v,A,i0,d,K,g,M,O] 86)) 86 #[a1,b1,c1,d1,e1,u,z,j,J,f,L,i,N,v1];simp only[aT]at h;exact h
 have ah:cD w w a:=by rw[<-k.out];exact kp
 have c:=qZ (aC am an);have ab:=qZ ah;clear F H I;go_enter func204,ntmps204;go_wp2_with fail;rw[k.out];refine jB (aD a) (.take 0 (.take 1 (.take 2 (.take 3 (.take 5 (.take 6 (.take 7 (.take 8 (.one 4 (.one 9 (.one 10 (.one 11 (.take 12 (.take 13 .done)))))))))))))) kZ kZ (aD.drew a) ?_;have l:∀W,aD a W->CI W w 11 g/\CI W w 9 d/\CI W ((w:Nat)+1) 11 i/\CI W ((w:Nat)+1) 9 f:=λW m=>⟨(Blk.below c.1 m c.1.lt).cell 11,(Blk.below c.1 m c.1.lt).cell 9,(Blk.below c.2 m c.2.lt).cell 11,(Blk.below c.2 m c.2.lt).cell 9⟩;(iterate 8 refine tT ?_);refine dQ ?_;refine tC ?_;refine(Q _).mono ?_;rintro e ak⟨rfl,rfl⟩;refine⟨_,rfl,aD.drew a,?_⟩;refine dQ ?_;refine tC ?_;refine(T _).mono ?_;rintro e ak⟨rfl,rfl⟩;refine⟨_,rfl,aD.drew a,?_⟩;refine dQ ?_;have Y:aD a (a.drew.alloc (cE #[n0,n1] 3)):=Below.alloc (aD.drew a) lZ _;apply kD;rfl;rfl;(focus(go_simp;first|done|exact⟨rfl,rfl⟩));exact Y;(focus(go_simp;first|done|rfl));refine dQ ?_;refine tC ?_;refine(X _ (a:Nat) sZ (by simp[go_sem]) (by simp[go_sem])).mono ?_;rintro e al⟨rfl,ag⟩;have aa:aD a al:=aA Y ag;refine⟨_,rfl,aa,?_⟩;(iterate 2 refine tT ?_);refine fA ?_;have ad:=qZ (aA ab aa);go_wp2_with fail;go_ret;exact⟨rfl,ad⟩
theorem abG(p:Ord.P)(aQ start:Int)(g:0<=aQ/\aQ<=2199023255552)(i:0<=p.run/\p.run<=1048576):eP cM 139 #[aQ,dV p,start] (.bool (vT aQ p start)):=λw=>by have a:=MH ⟨p.id,p.dI,p.fG,p.need,p.run,p.aP,p.prefer,0,0,aQ,0,[],cC cV 0 0⟩ ⟨g,i⟩;have j:vT aQ p start=decide (aQ+p.run<=start):=rfl;rw[j];obtain⟨n,p1,s,⟨n0,n1,n2⟩,p6,o,r,v,u⟩:=p;simp only[dV,gK,pU,qW]at*;obtain⟨m,f⟩:=nQ (aQ+p6);rw[f.out]at a⊢;have b:=qZ a;have k:cD w w (w.alloc (cE #[n,p1,s,n0,n1,n2,p6,o,r] 42)):=bZ;have c:=qZ k;go_enter func139,ntmps139;go_wp2_with fail;refine(b _).mono ?_;rintro e x⟨rfl,l⟩;have d:=qZ (aA c l);go_wp2_with fail;go_ret;exact⟨rfl,d⟩
theorem ajU(cs:Array cL)(w:dC)(h:cs.size=14):(Instr.buildSlice 28 1 #[(0,ft cs)]).run cM w=.ok (cC w 1 1) (w.alloc (cE cs 86)):=by
 obtain⟨l⟩:=cs;obtain⟨a0,a1,a2,a3,a4,e,a6,a7,f,g,a,b,c,d,rfl⟩:∃a0 a1 a2 a3 a4 e a6 a7 f g a b c d,l=[a0,a1,a2,a3,a4,e,a6,a7,f,g,a,b,c,d]:=by
  simp only[fO]at h
  match l,h with
  |[a0,a1,a2,a3,a4,e,a6,a7,f,g,a,b,c,d],_=>exact⟨_,_,_,_,_,_,_,_,_,_,_,_,_,_,rfl⟩
 simp[Instr.buildSlice,go_sem]
theorem ph:PH cM 14 where
 mixed:=by kernel_rfl
 t3:=underlying3
 a3:=Tryz.isAgg3
 z3:=Tryz.sizeOf3
 v3:=Tryz.zeroValue3
 t4:=underlying4
 a4:=Tryz.isAgg4
 z4:=Tryz.sizeOf4
 v4:=Tryz.zeroValue4
 ts:=fX
 aS:=Tryz.isAgg28
 zs:=Tryz.sizeOf28
 vs:=Tryz.zeroValue28
 tf:=⟨_,_,_,underlying263⟩
 af:=Tryz.isAgg263
 zf:=Tryz.sizeOf263
 th:=underlying265
 aE:=Tryz.isAgg86
 zE:=Tryz.sizeOf86
 bs:=ajU
 pos:=by decide
 info:=by obtain⟨i0,hi,a,b,c⟩:=fx RU;exact⟨i0,_,hi,a,b,c,rfl⟩
abbrev vM:Type:={x:Run//x.hv.oneCell'=eK}
instance:Inhabited vM:=⟨⟨⟨0,0,0,⟨0,0,0⟩,0,0,0,0,0,0,0,[],cC cV 0 0⟩,rfl⟩⟩
def encR(x:vM):List cL:=lV x.1
theorem QB(x:vM):(encR x).length=14:=rfl
theorem aco(x:vM):∀v∈encR x,v.oneCell'=eK:=by intro v hv;simp only[encR,lV,bH,dL,or_false]at hv;rcases hv with rfl|rfl|rfl|rfl|rfl|rfl|rfl|rfl|rfl|rfl|rfl|rfl|rfl|rfl<;>first|rfl|exact x.2
def fR(x:vM):Top.R:=eD x.1
theorem IU:fR default=default:=rfl
def mR(a b:vM):Bool:=cH (fR a) (fR b)
theorem ahW{B a:Nat}{xs:List vM}(x:vM)(g:Blk w a 265 #[v,.func (.func 204) #[] #[]])(f:bL w B 86 14 encR v xs)(d:v.ownBlock≠cR a)(b:B<=(w:Nat))(c:xs.length<=100000):cN cM 205 #[cF a,ft (encR x).toArray] w λe w'=>UJ encR 14 B a (.func (.func 204) #[] #[]) v (nY mR xs.toArray x).toList w e w':=
 alm ph func205 QB aco mR 204 (λ_ _=>kZ) (λW x y=>YO x.1 y.1 x.2 y.2 W) x g f d b c
theorem akX{B a:Nat}{xs:List vM}(f:Blk w a 265 #[v,.func (.func 204) #[] #[]])(d:bL w B 86 14 encR v xs)(c:v.ownBlock≠cR a)(b:xs.length<=100000)(g:xs≠[]):cN cM 206 #[cF a] w λe w'=>UL encR 14 B a (.func (.func 204) #[] #[]) v (xs.toArray[0]!) (qK mR xs.toArray).toList w e w':=
 anV ph func206 QB aco mR 204 (λ_ _=>kZ) (λW x y=>YO x.1 y.1 x.2 y.2 W) _ rfl Tryz.zeroValue86 f d c b g
structure nD (w:World) (B hb:Nat) (v:Value) (qs:List vM):Prop where
 box:Blk w hb 265 #[v,(.func (.func 204) #[] #[])]
 row:bL w B 86 14 encR v qs
 ne:v.ownBlock≠some hb
 aR:∀q∈qs,ISl w q.1.hv q.1.aR/\Far v q.1/\(q.1.aR≠[]->q.1.hv.ownBlock≠some hb)
theorem nD.on{B b:Nat}{qs:List vM}(h:nD w B b v qs)(a:cD w w w'):nD w' B b v qs:=
 ⟨Blk.below h.box a h.box.lt,h.row.below a,h.ne,λq c=>⟨(h.aR q c).1.below a,(h.aR q c).2⟩⟩
theorem nD.low{B d:Nat}{qs:List vM}(h:nD w B d v qs):∀q∈qs,q.1.aR≠[]->∀b,q.1.hv.ownBlock=cR b->b<(w:Nat):=λq g f b a=>by obtain⟨c,e,i⟩:=zJ (h.aR q g).1 f;rw[e]at a;injection a with a;omega
theorem nD.pushed{B j:Nat}{qs:List vM}{x:vM}(h:nD w B j v qs)(o:ISl w x.1.hv x.1.aR)(u:x.1.aR≠[]->∀b,x.1.hv.ownBlock=cR b->b≠j/\v.ownBlock≠cR b){e:Ending}(A:UJ encR 14 B j (.func (.func 204) #[] #[]) v (nY mR qs.toArray x).toList w e w'):e=cG (fu #[])/\∃v',nD w' B j v' (nY mR qs.toArray x).toList/\aL (λi=>i=j\/v.ownBlock=cR i) w w':=by
 obtain⟨v',rfl,p,r,m,n⟩:=A;have all:∀q∈x::qs,ISl w q.1.hv q.1.aR/\(q.1.aR≠[]->∀b,q.1.hv.ownBlock=cR b->b<(w:Nat)/\b≠j/\v.ownBlock≠cR b):=λq k=>by
  rcases bH.1 k with rfl|k
  .refine⟨o,λf b d=>⟨?_,u f b d⟩⟩;obtain⟨c,s,I⟩:=zJ o f;rw[s]at d;injection d with d;omega
  .obtain⟨a,b,c⟩:=h.aR q k;exact⟨a,λf l d=>⟨h.low q k f l d,λe=>c f (by rw[d,e]),λe=>b f l e d⟩⟩
 refine⟨rfl,v',⟨p,r,λe=>?_,λq k=>?_⟩,m⟩
 .rcases n j e with g|g
  .exact h.ne g
  .have:=h.box.lt;omega
 .have z:q∈x::qs:=by have:=(GX mR qs.toArray x).mem_iff.1 k;simpa using this
  obtain⟨a1,a2⟩:=all q z;refine⟨tL a1 m λf b d y=>?_,λf b F d=>?_,λf e=>(a2 f j e).2.1 rfl⟩
  .obtain⟨_,c1,c2⟩:=a2 f b d;rcases y with g|g
   .exact c1 g
   .exact c2 g
  .obtain⟨H,c1,c2⟩:=a2 f b d;rcases n b F with g|g
   .exact c2 g
   .omega
theorem nD.popped{B d:Nat}{qs:List vM}(h:nD w B d v qs)(c:qs≠[]){e:Ending}(x:UL encR 14 B d (.func (.func 204) #[] #[]) v (qs.toArray[0]!) (Top.qK mR qs.toArray).toList w e w'):e=cG (ft (encR (qs.toArray[0]!)).toArray)/\∃v',nD w' B d v' (Top.qK mR qs.toArray).toList/\v'.ownBlock=v.ownBlock/\aL (λi=>i=d\/v.ownBlock=cR i) w w'/\ISl w' (qs.toArray[0]!).1.hv (qs.toArray[0]!).1.aR/\((qs.toArray[0]!).1.aR≠[]->∀b,(qs.toArray[0]!).1.hv.ownBlock=cR b->b<(w:Nat)):=by
 obtain⟨v',rfl,r,s,l,g⟩:=x;have m:0<qs.length:=oF.2 c;have n:qs.toArray[0]! ∈qs:=by rw[bX qs.toArray 0 (by simpa using m)];simp
 have k:∀q∈(Top.qK mR qs.toArray).toList,q∈qs:=λq a=>by have:=(CR mR qs.toArray (by simpa using m)).mem_iff.1 (bK _ a);simpa using this
 have p:∀q∈qs,ISl w' q.1.hv q.1.aR:=λq a=>tL (h.aR q a).1 l (λc b f u=>by
  obtain⟨_,b1,c1⟩:=h.aR q a;rcases u with j|j
  .exact c1 c (by rw[f,j])
  .exact b1 c b j f)
 refine⟨rfl,v',⟨r,s,by rw[g];exact h.ne,λq a=>⟨p q (k q a),λc b o f=>?_,(h.aR q (k q a)).2.2⟩⟩,g,l,p _ n,h.low _ n⟩;rw[g]at o;exact(h.aR q (k q a)).2.1 c b o f
theorem ahQ{B:Nat}(h:jS W B v rl)(s:B<=(W:Nat)){x:Run}(p:ISl W x.hv x.aR)(F:x.aR≠[]->∀b,x.hv.ownBlock=cR b->v.ownBlock≠cR b)(O:rl.length<=1000000):∃v' d,(Builtin.append_ #[28,28] 28 #[v,cC W 1 1]).run cM (W.alloc (cE (lV x).toArray 86))=.ok v' d/\jS d B v' (rl++[x])/\cD B W d/\(W.alloc (cE (lV x).toArray 86)).grownBy d v.ownBlock:=by
 obtain⟨i0,hi,L,M,N⟩:=fx RU;have l:cD W W (W.alloc (cE (lV x).toArray 86)):=bZ;have f:=h.below l;have K:=qA (k:=14) (dec:=lV) (x:=x) (cP W 86 (lV x).toArray) rfl;obtain⟨v',d,e1,e2,e3,e4,r⟩:=lF 28 28 i0 _ 128 fX hi L M N rfl oZ (λ_=>rfl) (ys:=[x]) (m:=1) (c:=1)
  (λu o=>by simp only[dA,jU,eZ,lV,bH,dL,or_false]at o;rcases o with rfl|rfl|rfl|rfl|rfl|rfl|rfl|rfl|rfl|rfl|rfl|rfl|rfl|rfl<;>first|rfl|exact FJ p) f.1 rfl K (by simp;omega) (by unfold ga;omega) oZ
 have n:=h.1.lt;have all:∀y∈rl++[x],ISl W y.hv y.aR/\(y.aR≠[]->∀b,y.hv.ownBlock=cR b->v.ownBlock≠cR b):=λy a=>by
  rcases dM.1 a with a|a
  .exact⟨(h.2 y a).1,λJ b w e=>(h.2 y a).2 J b e w⟩
  .have:y=x:=by simpa using a
   subst this;exact⟨p,F⟩
 refine⟨v',d,e1,⟨e2,λy a=>?_⟩,?_,e3⟩
 .obtain⟨a1,a2⟩:=all y a;refine⟨IE (a1.below l) e3 λi g H e=>a2 i g e H,λi b z j=>?_⟩;rcases r b z with f|f
  .exact a2 i b j f
  .obtain⟨c,A,n⟩:=zJ a1 i;rw[A]at j;injection j with j;simp at f;omega
 .exact gb (Below.mono l s) e3 (by simp;omega) λk I=>(n k I).1
theorem jS.bA{B:Nat}(h:jS w B v rl)(d:aL F w w')(e:∀b,v.ownBlock=cR b->¬F b)(f:∀x∈rl,x.aR≠[]->∀b,x.hv.ownBlock=cR b->¬F b):jS w' B v rl:=
 ⟨h.1.bA λb c=>d.block b (h.1.lt b c).2 (e b c),λx a=>⟨tL (h.2 x a).1 d (f x a),(h.2 x a).2⟩⟩
theorem nD.bA{B a:Nat}{qs:List vM}(h:nD w B a v qs)(c:aL F w w')(f:¬F a)(g:∀b,v.ownBlock=cR b->¬F b)(i:∀q∈qs,q.1.aR≠[]->∀b,q.1.hv.ownBlock=cR b->¬F b):nD w' B a v qs:=
 ⟨h.box.bA c f,h.row.bA λb e=>c.block b (h.row.lt b e).2 (g b e),h.ne,λq d=>⟨tL (h.aR q d).1 c (i q d),(h.aR q d).2⟩⟩
theorem YE(h:Runs w v rl)(bg:Many rl):∀w1,cD w w w1->cN cM 142 #[v] w1 λe w'=>agR (eV (rl.map eD)) w1 e w':=by
 intro w1 cd;obtain⟨R,fj,rfl,co,ec,ck⟩:=h.below cd;have dr:=qZ co;have di:=qZ ck;have b3:=qZ bg;obtain⟨K,bb⟩:=nZ rl.length;have ax:=qZ bb;have cb:=bg.len;rw[bb]at cb⊢;have cu:=qY (nD (w1.alloc (cE #[eK,(.func (.func 204) #[] #[])] 265)) (w1:Nat) (w1:Nat) (cC cV 0 0) []) (⟨cP _ _ _,bL.nil _ _ _ _ _,λe=>(by cases e),λq n=>(by cases n)⟩);have cx:=qY (cD w1 w1 (w1.alloc (cE #[eK,(.func (.func 204) #[] #[])] 265))) bZ;clear h bg cd co ec ck bb;go_enter func142,ntmps142;go_wp2_with fail;go_loopg[11] K (λd0 v11 wr=>∃(k:Nat) (qs:List vM) (O:cL),v11=cI cY k/\k<=K/\K<=d0+k/\qs.length=k/\Hid (nD wr (w1:Nat) (w1:Nat) O qs)/\Hid (qs.toArray.map fR=((rl.take k).map eD).foldl (nY cH) #[])/\Hid (cD w1 w1 wr));exact⟨0,[],_,mZ,oZ,oZ,rfl,cu,qZ sZ,cx⟩
 obtain⟨k,qs,O,rfl,eb,d9,aa,u,b1,ad⟩:=hrel;by_cases ed:k<K
 .have cm:(k:Int)<(K:Int):=oZ;have N:k<rl.length:=by rw[ax.out];exact ed
  obtain⟨fi,fr,rfl,ef,ch⟩:=qQ dr.out N;obtain⟨bn,p1,p2,p3,p4,br,p6,bs,bt,bu,bo,bp,bq,ao⟩:=ch wr ad.out;have af:=qZ (aC ((di.out _ (bD N)).below ad.out) (aC (b3.out.num _ (bD N)) (b3.out.aR _ (bD N))));have ag:=qZ (aaC _ af.out.1 af.out.2.2);have a5:=qY (((rl.take (k+1)).map eD).foldl (nY cH) #[]=nY cH (((rl.take k).map eD).foldl (nY cH) #[]) (eD rl[k])) (by rw[bE N,dO,fB];rfl);obtain⟨x,r⟩:=nZ (rl[k]);rw[r]at bn p1 p2 p3 p4 br p6 bs bt bu bo bp bq ao a5 af ag;clear r ch N ef;obtain⟨ct,dx,b9,_,_⟩:=id af.out.1;obtain⟨a,b,c,⟨d,e,f⟩,g,h,i,j,s,st,l,aR,hv⟩:=x;simp only at b9 bn p1 p2 p3 p4 br p6 bs bt bu bo bp bq ao a5;subst b9;obtain⟨ep,bi⟩:=nZ aR.length;simp only[pU,qW,bi]at ag ao;clear bi;obtain⟨fe,aj⟩:=nZ (wr.alloc (cE #[a,b,c,d,e,f,g,h,i,j,s,st,l,cC ct ep dx] 86));have cg:=aB aj;have bw:=aX aj;have au:=qZ (aC cg bw);have dp:=qZ aj;obtain⟨eq,er,ew,ex,ey,ez,e0,e5,e8,e9,es,et,eu,ev⟩:=bw.c14;clear cg bw aj;go_wp2_with fail;refine Eq.mp (dB (λz=>cN cM _ _ z _) dp.out.symm) ?_;clear bn p1 p2 p3 p4 br p6 bs bt bu bo bp bq ao eq er ew ex ey ez e0 e5 e8 e9 es et eu ev;refine(ag.out fe au.out.1).mono ?_;rintro b7 fs⟨v',rfl,bf,ci,ce⟩;obtain⟨aq,a8,rfl,d7,eg⟩:=id bf;have bd:=aA au.out.1 ce;have T:=qZ (u.out.on bd);have dh:=qZ bf;have db:=qZ ci;have av:=qZ (aA ad.out bd);have dv:=qZ (cX au.out.1);have Q:=qZ (ahW (x:=⟨⟨a,b,c,⟨d,e,f⟩,g,h,i,j,s,st,l,aR,cC aq aR.length a8⟩,rfl⟩) T.out.box T.out.row T.out.ne (cX av.out) oZ);clear bf ci ce d7 eg bd ag;go_wp2_with fail;refine Q.out.mono ?_;rintro b7 fd Z;obtain⟨rfl,fb,ca,cp⟩:=nD.pushed T.out dh.out (λA b p=>by have:=db.out A b p;have fq:=dv.out;have fo:=u.out.box.lt;refine⟨oZ,λe=>?_⟩;have:=(u.out.row.lt b e).2;omega) Z
  .have dt:=qZ ca;have cz:=qY (cD w1 w1 fd) (av.out.trans (cp.below (cX av.out) (λi hi=>by
    rcases hi with rfl|hi
    .exact bG _
    .exact(T.out.row.lt _ hi).1)))
   have da:=qY ((nY mR qs.toArray ⟨⟨a,b,c,⟨d,e,f⟩,g,h,i,j,s,st,l,aR,cC aq aR.length a8⟩,rfl⟩).toList.toArray.map fR=((rl.take (k+1)).map eD).foldl (nY cH) #[]) (by rw[a5.out,<-b1.out,Array.toArray_toList];exact ain fR cH IU _ _);have cn:(nY mR qs.toArray ⟨⟨a,b,c,⟨d,e,f⟩,g,h,i,j,s,st,l,aR,cC aq aR.length a8⟩,rfl⟩).toList.length=k+1:=by rw[eA,afy];simpa using aa
   have dq:=qZ cn;clear ca cp Z cn Q;go_wp2_with fail;go_roundg(K-(k+1));exact⟨k+1,_,fb,mZ,oZ,oZ,dq.out,dt,da,cz⟩;omega
 .have cm:¬(k:Int)<(K:Int):=oZ;obtain rfl:k=K:=by omega
  have dc:=qY (qs.toArray.map fR=(rl.map eD).foldl (nY cH) #[]) (by have:=b1.out;rwa [aU (by rw[ax.out];exact bG _)]at this);have dm:=qY (uF cH k (qs.toArray.map fR)=eV (rl.map eD)) (by rw[dc.out];unfold eV;rw[bP,ax.out]);obtain⟨W0,M⟩:=nZ (wr:Nat);have b2:=qY (∀q∈qs,q.1.aR≠[]->∀b,q.1.hv.ownBlock=cR b->b<W0) (by rw[<-M];exact u.out.low);have dn:=qY (∀j,j<=k->(cS mR j qs.toArray).toList.length=k-j) (λj X=>by rw[eA,KP _ _ _ (by simpa[aa]using X)];simp[aa]);have b4:=qY (∀j,j<=k->∀q∈(cS mR j qs.toArray).toList,q∈qs) (by
   intro j;induction j with
   |zero=>exactλ_ q n=>by simpa[cS]using n
   |succ j eo=>
    intro X q n;refine eo oZ q ?_;have hs:=KP mR j qs.toArray (by simp[aa];omega);exact(CR mR _ (by simp[aa]at hs;omega)).mem_iff.1 (bK _ n))
  have cv:=qY (nD wr (w1:Nat) (w1:Nat) O (cS mR 0 qs.toArray).toList) (by simpa[cS]using u.out);have az:=qY (∀b,O.ownBlock=cR b->b<W0/\(w1:Nat)<=b) (λb p=>by have:=u.out.row.lt b p;rw[M]at this;omega);have ae:=qY ((w1:Nat)<W0) (by rw[<-M];exact u.out.box.lt);have el:W0<=(wr:Nat):=by rw[M];exact bG _
  have cy:=qZ ad.out;have fn:k<=1000:=cb;obtain⟨bj,ah⟩:=nZ O.ownBlock;rw[ah]at az;have cw:=qZ (aC cv.out ah);have df:=qZ ah;clear M cm d9 ah eb;go_wp2_with fail;go_loopg[6] k (λd6 fc ap=>∃(j:Nat) (o:List Run) (bv:cL),j<=k/\k<=d6+j/\o.length=j/\W0<=(ap:Nat)/\Hid (nD ap (w1:Nat) (w1:Nat) bv (cS mR j qs.toArray).toList/\bv.ownBlock=bj)/\Hid (jS ap W0 fc o/\o.map eD=uF cH j (qs.toArray.map fR)/\∀x∈o,∃q∈qs,q.1=x)/\Hid (cD w1 w1 ap));exact⟨0,[],O,oZ,oZ,rfl,el,cw,qZ ⟨jS.nil _ _,by simp[uF],λx r=>(by cases r)⟩,cy⟩
  obtain⟨j,o,bv,X,fm,ej,ek,H,I,aw⟩:=hrel;have ai:(cS mR j qs.toArray).toList.length=k-j:=dn.out j X;obtain⟨cs,dw,a9,ei⟩:=H.out.1.row.sl QB;rw[ai]at a9;have b6:wr.cell? (w1,0)=cR (cC cs (k-j) dw):=by rw[<-a9];exact H.out.1.box.cell 0
  obtain⟨m,eh⟩:=nZ (k-j);rw[eh]at b6 ai;have ay:=qZ ai;clear a9 ei ai;by_cases ee:0<m
  .have em:(0:Int)<(m:Int):=oZ;have bh:(cS mR j qs.toArray).toList≠[]:=oF.1 (by rw[ay.out];exact ee);have Q:=qZ (akX H.out.1.box H.out.1.row H.out.1.ne (by rw[ay.out];omega) bh);have dk:=qZ bh;clear bh;go_wp2_with fail;refine Q.out.mono ?_;rintro b7 F Z;obtain⟨rfl,ab,ba,cr,am,al,bm⟩:=nD.popped H.out.1 dk.out Z;have ea:j+1<=k:=oZ;have b8:(cS mR j qs.toArray).toList.toArray=cS mR j qs.toArray:=Array.toArray_toList;rw[b8]at ba al bm⊢;obtain⟨y,ak⟩:=nZ ((cS mR j qs.toArray)[0]!);have bl:y∈qs:=by have hs:=ay.out;rw[eA]at hs;refine b4.out j X y ?_;rw[<-ak,bX _ 0 oZ];simp
   have dl:=qY (uF cH (j+1) (qs.toArray.map fR)=uF cH j (qs.toArray.map fR)++[fR y]) (by rw[<-QH fR cH IU,<-QH fR cH IU];show gl fR (uF mR (j+1) qs.toArray)=gl fR (uF mR j qs.toArray)++_;rw[ZQ,dO,ak];rfl);rw[ak]at al bm⊢;have bc:=az.out;have Y:=H.out.2;have bz:=qY (cD w1 w1 F) (aw.out.trans (am.below (cX aw.out) (λq n=>by
    rcases n with rfl|n
    .exact bG _
    .exact(bc q (Y▸n)).2)))
   have a0:=qY (jS F W0 _ o) (jS.bA I.out.1 am (λb p be=>by
    have fl:=(I.out.1.1.lt b p).1;rcases be with L|L
    .have:=ae.out;omega
    .have:=(bc b (Y▸L)).1;omega) (λx r A b p be=>by
    obtain⟨q,n,rfl⟩:=I.out.2.2 x r;obtain⟨_,dy,dz⟩:=u.out.aR q n;rcases be with L|L
    .exact dz A (by rw[p,L])
    .exact dy A b (df.out.trans (Y.symm.trans L)) p))
   have dd:=qY (y.1.aR≠[]->∀b,y.1.hv.ownBlock=cR b->b<W0) (b2.out y bl);have b5:=qY (W0<=(F:Nat)) (bC ek am.size);have ar:=qY (nD F (w1:Nat) (w1:Nat) ab (cS mR (j+1) qs.toArray).toList/\ab.ownBlock=bj) (⟨ba,cr.trans Y⟩);have dg:=qZ al;have du:=qZ bl;clear ba cr am al bm Z Q bc Y b8 bl b6 ak;obtain⟨⟨a,b,c,⟨d,e,f⟩,g,h,i,J,s,st,l,aR,hv⟩,fp⟩:=y;simp only[encR,lV];obtain⟨ff,W,bk,cc,d8,cj⟩:=ahQ (x:=⟨a,b,c,⟨d,e,f⟩,g,h,i,J,s,st,l,aR,hv⟩) a0.out b5.out dg.out (λA q n e=>by have:=dd.out A q n;have:=(a0.out.1.lt q e).1;omega) oZ;rw[VG]at bk;simp only[qW]at bk;have ds:=qY (jS W W0 ff (o++[⟨a,b,c,⟨d,e,f⟩,g,h,i,J,s,st,l,aR,hv⟩])/\(o++[(⟨a,b,c,⟨d,e,f⟩,g,h,i,J,s,st,l,aR,hv⟩:Run)]).map eD=uF cH (j+1) (qs.toArray.map fR)/\∀x∈o++[(⟨a,b,c,⟨d,e,f⟩,g,h,i,J,s,st,l,aR,hv⟩:Run)],∃q∈qs,q.1=x) (⟨cc,by rw[dl.out,dO,I.out.2.1];rfl,λx r=>by
     rcases dM.1 r with r|r
     .exact I.out.2.2 x r
     .have:x=⟨a,b,c,⟨d,e,f⟩,g,h,i,J,s,st,l,aR,hv⟩:=by simpa using r
      exact⟨_,du.out,this.symm⟩⟩)
   have cq:aL (λi=>W0<=i) F (F.alloc (cE (lV ⟨a,b,c,⟨d,e,f⟩,g,h,i,J,s,st,l,aR,hv⟩).toArray 86)):=(aL.refl _ _).alloc _;have an:aL (λi=>W0<=i) F W:=cq.trans (aL.jX cj λi hi=>(a0.out.1.lt i hi).1);have de:=qY (nD W (w1:Nat) (w1:Nat) ab (cS mR (j+1) qs.toArray).toList/\ab.ownBlock=bj) (⟨ar.out.1.bA an (by have:=ae.out;omega) (λb p=>by have:=(az.out b (ar.out.2▸p)).1;omega) λq n A b p=>by have:=b2.out q (b4.out (j+1) ea q n) A b p;omega,ar.out.2⟩);have c0:=qY (cD w1 w1 W) (bz.out.trans (an.below (cX bz.out) λi hi=>by have:=ae.out;omega));have en:W0<=(W:Nat):=bC b5.out an.size;have cl:(o++[(⟨a,b,c,⟨d,e,f⟩,g,h,i,J,s,st,l,aR,hv⟩:Run)]).length=j+1:=by simp[ej]
   have dj:=qZ cl;clear cc d8 cj cq an cl;go_wp2_with(at_builtin;refine cK rfl (.tmp 26) (.tmp 29) _ _ rfl u6 (cC F 1 1) rfl rfl bk ?_);go_roundg(k-(j+1));exact⟨j+1,_,ab,oZ,oZ,dj.out,en,de,ds,c0⟩;omega
  .have em:¬(0:Int)<(m:Int):=oZ;obtain rfl:j=k:=by omega
   have b0:=qY (jS wr (w1:Nat) _ o/\o.map eD=eV (rl.map eD)) (⟨I.out.1.low (Nat.le_of_lt ae.out),by rw[I.out.2.1];exact dm.out⟩);go_wp2_with fail;go_ret;exact⟨_,o,rfl,b0.out.1,b0.out.2,aw.out⟩
def vQ(hs:List iI)(k:Nat):dT:=(hs.take k).foldl (λv h=>gg v h.cap) gm
theorem aaN(hs:List iI)(h:k<hs.length):vQ hs (k+1)=gg (vQ hs k) hs[k].cap:=by unfold vQ;rw[bE h,fB];rfl
theorem uR{b:Nat}{E:gd}{a0 a1 a2:cL}(h:Blk W b E #[a0,a1,a2])(x0 a c:cL):Blk (((W.setCell (b,0) x0).setCell (b,1) a).setCell (b,2) c) b E #[x0,a,c]:=by have:=((h.bR 0 x0).bR 1 a).bR 2 c;simpa using this
theorem aho(ae:bW w v c):fV cM w 170 #[v] (vQ c.aR c.aR.length).val:=by
 intro w1 ab;obtain⟨v1,v2,rfl,⟨A,ca,rfl,bf,bb⟩,⟨B,M,rfl,ah,ag⟩⟩:=ae.below ab;have am:=qZ ah;generalize c.aN.length=NN at*;generalize c.aG=aG at*;generalize c.aJ=aJ at*;generalize c.aR=hs at*;obtain⟨N,O⟩:=nZ hs.length;have ar:=qZ O;rw[O]at ag⊢;unfold ga at ag;obtain⟨W,i⟩:=nZ (((w1.alloc (cE #[cC A NN ca,cC B N M,aG,aJ] 26)).alloc (cE #[(),(),()] 40)).alloc (cE #[(),(),()] 40));have ad:cD w1 w1 W:=by rw[<-i];exact kp
 have b:Blk W ((w1:Nat)+1+1) 40 #[(),(),()]:=by rw[<-i];have h:=cP ((w1.alloc (cE #[cC A NN ca,cC B N M,aG,aJ] 26)).alloc (cE #[(),(),()] 40)) 40 #[(),(),()];simp only[aT]at h;exact h
 have a:Blk W ((w1:Nat)+1) 40 #[(),(),()]:=by rw[<-i];have h:=cP (w1.alloc (cE #[cC A NN ca,cC B N M,aG,aJ] 26)) 40 #[(),(),()];simp only[aT]at h;exact h.alloc _
 have Z:=qZ (aC a b);have an:=qZ ad;have av:=qZ i;clear i a b ad bf ah bb O ae ab;go_enter func170,ntmps170;go_wp2_with fail;rw[av.out];go_loopg[9] N (λa5 bg wr=>∃k:Nat,bg=cI cY k/\k<=N/\N<=a5+k/\Hid (∃s,s=vQ hs k/\Blk wr ((w1:Nat)+1+1) 40 #[cI cY s.x,cI cY s.y,cI cY s.z]/\Blk wr ((w1:Nat)+1) 40 #[(),(),()])/\Hid (cD w1 w1 wr));exact⟨0,mZ,oZ,oZ,qZ ⟨_,rfl,Z.2,Z.1⟩,an⟩
 obtain⟨k,rfl,bj,bi,Y,K⟩:=hrel;obtain⟨⟨d,s1,s2⟩,H,b,a⟩:=Y.out;clear Y;have au:=qZ H;by_cases bc:k<N
 .have be:(k:Int)<(N:Int):=oZ;have Q:k<hs.length:=by rw[ar.out];exact bc
  obtain⟨bh,bl,rfl,bk,af⟩:=qX am Q;obtain⟨ai,p1,p2,p3,p4,aj⟩:=af wr K;have X:=qZ (aaN hs Q);generalize hs[k]=h at*;obtain⟨a8,a9,ba,⟨r,u,x⟩⟩:=h;simp only at ai p1 p2 p3 p4 aj;obtain⟨wc,j⟩:=nZ (wr.alloc (cE #[a8,a9,ba,r,u,x] 131));have I:=aX j;have F:=aB j;have g:=b.below F b.lt;have ak:=a.below F a.lt;simp only at g;have L:CI wc ((w1:Nat)+1+1) 0 d:=g.cell 0;have c1:CI wc ((w1:Nat)+1+1) 1 s1:=g.cell 1;have c2:CI wc ((w1:Nat)+1+1) 2 s2:=g.cell 2;have d3:CI wc wr 3 r:=I.cell 3;have d4:CI wc wr 4 u:=I.cell 4;have d5:CI wc wr 5 x:=I.cell 5;have m:=qZ (gT.zN ⟨d,s1,s2⟩ ⟨r,u,x⟩);obtain⟨⟨z0,z1,z2⟩,T⟩:∃z,gg ⟨d,s1,s2⟩ ⟨r,u,x⟩=z:=⟨_,rfl⟩;rw[T]at m;simp only[eE]at m;have ax:=qY (vQ hs (k+1)=⟨z0,z1,z2⟩) (by rw[X.out,<-au.out];exact T);have o:=qZ (aC ak g);have ao:=qZ (aA K F);have aw:=qZ j;rw[<-j]at L c1 c2 d3 d4 d5;clear j I g ak b a F H T af Q X;go_wp2_with fail;rw[aw.out];refine(m _).mono ?_;rintro e l⟨rfl,y⟩;have al:=o.1.below y o.1.lt;have f:=o.2.below y o.2.lt;have ap:=qZ (aA ao y);have aa:CI l ((w1:Nat)+1+1) 0 d:=f.cell 0;have e1:CI l ((w1:Nat)+1+1) 1 s1:=f.cell 1;have e2:CI l ((w1:Nat)+1+1) 2 s2:=f.cell 2;have a0:∀n,l.frozen? ⟨(w1:Nat)+1+1,n,cV⟩=eI:=λn=>f.frozen n;have bd:=f.lt;have az:=qZ (uR f z0 z1 z2);have ay:=qZ (((al.far (p:=⟨(w1:Nat)+1+1,0,cV⟩) sZ z0).far (p:=⟨(w1:Nat)+1+1,1,cV⟩) sZ z1).far (p:=⟨(w1:Nat)+1+1,2,cV⟩) sZ z2);have J:Hid (cD w1 w1 (((l.setCell ((w1:Nat)+1+1,0) z0).setCell ((w1:Nat)+1+1,1) z1).setCell ((w1:Nat)+1+1,2) z2)):=qZ (((ap.setCell (by simp;omega) _).setCell (by simp;omega) _).setCell (by simp;omega) _);clear al f y m L c1 c2 d3 d4 d5 ai p1 p2 p3 p4 aj;go_wp2_with fail;go_roundg(N-(k+1));exact⟨k+1,mZ,oZ,oZ,qZ ⟨⟨z0,z1,z2⟩,ax.out.symm,az,ay⟩,J⟩;omega
 .have be:¬(k:Int)<(N:Int):=oZ;simp only at b;have L:CI wr ((w1:Nat)+1+1) 0 d:=b.cell 0;have c1:CI wr ((w1:Nat)+1+1) 1 s1:=b.cell 1;have c2:CI wr ((w1:Nat)+1+1) 2 s2:=b.cell 2;have aa:CI wr ((w1:Nat)+1) 0 0:=a.cell 0;have e1:CI wr ((w1:Nat)+1) 1 0:=a.cell 1;have e2:CI wr ((w1:Nat)+1) 2 0:=a.cell 2;have a0:∀n,wr.frozen? ⟨(w1:Nat)+1,n,cV⟩=eI:=λn=>a.frozen n;have bd:=a.lt;have aq:=qY (vQ hs N=⟨d,s1,s2⟩) (by rw[show N=k by omega];exact H.symm);have J:Hid (cD w1 w1 (((wr.setCell ((w1:Nat)+1,0) d).setCell ((w1:Nat)+1,1) s1).setCell ((w1:Nat)+1,2) s2)):=qZ (((K.setCell sZ _).setCell sZ _).setCell sZ _);clear b a H;go_wp2_with fail;refine eS (v:=ft #[d,s1,s2]) (by simp[results,Tryz.results170,go_sem,aa,e1,e2]) rfl ?_;exact⟨by rw[aq.out];rfl,J⟩
def oI(n:Nat):List cL:=[cI cW (n:Int)]
theorem finfo:(prog.info? 63).map (λi=>(i.zero,i.size,i.bytes))=cR (cR (cI cW 0),1,8):=by kernel_rfl
theorem afz{B:Nat}{xs:List Nat}(x:Nat)(h:bL w B 63 1 oI v xs)(b:cD w w W)(p:B<=(w:Nat))(r:xs.length<=1000000):∃v' a,(Builtin.append_ #[29,29] 29 #[v,cC W 1 1]).run cM (W.alloc (cE #[cI cW (x:Int)] 63))=.ok v' a/\bL a B 63 1 oI v' (xs++[x])/\cD B W a/\(W:Nat)<=(a:Nat):=by
 obtain⟨i0,hi,j,l,n⟩:=fx finfo;have d:cD W W (W.alloc (cE #[cI cW (x:Int)] 63)):=bZ;have f:=(h.below b).below d;have i:=qA (k:=1) (dec:=oI) (x:=x) (cP W 63 #[cI cW (x:Int)]) rfl;obtain⟨v',a,e1,e2,e3,e4,o⟩:=lF 29 29 i0 _ 8 underlying29 hi j l n rfl oZ (λ_=>rfl) (ys:=[x]) (m:=1) (c:=1)
  (λu e=>by simp only[dA,jU,eZ,oI,bH,dL,or_false]at e;subst e;rfl) f rfl i (by have:=b.size;simp;omega) (by unfold ga;omega) oZ
 refine⟨v',a,e1,e2,?_,?_⟩
 .exact gb (Below.mono d (by have:=b.size;omega)) e3 (by simp;have:=b.size;omega) λk g=>(h.lt k g).1
 .have:=e3.size;simp at this;omega
def JF(l:List Nat)(w1:dC)(e:Ending)(w':dC):Prop:=∃v',e=cG v'/\bL w' w1 63 1 oI v' l/\cD w1 w1 w'
theorem akx(i:Int)(x:lN):eP cM 156 #[i,nval x] (cI cW 0):=λw=>by obtain⟨n0,n1,⟨n2,b,c⟩,⟨d,e,f⟩,⟨g,j,a⟩⟩:=x;simp only[nval];go_enter func156,ntmps156;go_wp2_with fail;go_ret;exact⟨rfl,bZ⟩
theorem agZ{a:List lN}(Q:Nodes w v a)(L:a.length<=1000000):∀w1,cD w w w1->cN cM 155 #[v,.func (.func 156) #[] #[]] w1 λe w'=>JF (eQ a.length 0) w1 e w':=by
 intro w1 z;obtain⟨A,ca,rfl,W,ap⟩:=Q.below z;have n:=qZ W;obtain⟨N,c⟩:=nQ a.length;rw[c.out]at L⊢;go_enter func155,ntmps155;go_wp2_with fail;go_loopg[5,10] N (λu am v10 wr=>∃k:Nat,v10=cI cY k/\k<=N/\N<=u+k/\Hid (bL wr w1 63 1 oI am (eQ k 0))/\Hid (cD w1 w1 wr));exact⟨0,mZ,oZ,oZ,qZ (bL.nil _ _ _ _ _),qZ (aK _ _)⟩
 obtain⟨k,rfl,ao,an,d,b⟩:=hrel;by_cases M:k<N
 .have O:(k:Int)<(N:Int):=oZ;have K:k<a.length:=by rw[c.out];exact M
  obtain⟨bn,au,rfl,aq,J⟩:=nE n K;obtain⟨ag,p1,p2,p3,p4,ai,p6,aj,ak,al,ah⟩:=J wr b;generalize a[k]=x at*;have i:=akx (k:Int) x;obtain⟨n0,n1,⟨n2,Y,Z⟩,⟨aa,ab,ad⟩,⟨ae,af,X⟩⟩:=x;simp only[nval]at i ag p1 p2 p3 p4 ai p6 aj ak al ah;have m:=qZ i;obtain⟨av,f⟩:=nQ (wr.alloc (cE #[n0,n1,n2,Y,Z,aa,ab,ad,ae,af,X] 66));have I:=aB f;have p:=qZ I;go_wp2_with fail;rw[f.out];refine(m _).mono ?_;rintro e l⟨rfl,F⟩;have j:cD wr wr l:=aA p F;obtain⟨u6,g,T,y,H,ar⟩:=afz 0 d j b.size (by simp;omega);have s:=qY (bL g w1 63 1 oI u6 (eQ (k+1) 0)) (by rw[List.replicate_succ'];exact y);have o:=qY (cD w1 w1 g) ((b.out.trans (Below.mono j b.size)).trans H);go_wp2_with(at_builtin;refine cK rfl (.tmp 15) (.tmp 20) _ _ rfl u5 (cC l 1 1) rfl rfl T ?_);go_roundg(N-(k+1));exact⟨k+1,mZ,oZ,oZ,s,o⟩;omega
 .have O:¬(k:Int)<(N:Int):=oZ;have r:=qY (k=N) (by omega);go_wp2_with fail;go_ret;exact⟨_,rfl,by rw[<-r.out];exact d,b⟩
def PX(b0 b1 b2 b3 b4 b5 b6:Bool):Int:=if b0&&b1&&b2&&b3&&b4&&b5 then(if b6 then 0 else 3)else 1
theorem amn{J:cL}(o:bW w J c)(p:Ord.P):fV cM w 104 #[J,dV p] (cI cY (rU c p)):=by
 intro w1 aj;replace o:=o.below aj;have W:=qZ (tZ o p.dI);have d:=qY (PX (fD p.id 1 1073741824) (fD p.fG 1 16) (lU p.need) (fD p.run 1 1048576) (fD p.aP 0 3) (fD p.prefer 0 p.aP) (iP c p.dI)=rU c p) rfl;have L:=qZ (tF p.id 1 1073741824);have M:=qZ (tF p.fG 1 16);have N:=qZ (gT.KX p.need);have O:=qZ (tF p.run 1 1048576);have Q:=qZ (tF p.aP 0 3);have T:=qZ (tF p.prefer 0 p.aP);obtain⟨v1,v2,rfl,⟨A,ca,rfl,ba,a8⟩,⟨B,n,rfl,bb,a9⟩⟩:=o;obtain⟨R,I⟩:=nZ (rU c p);rw[I]at d⊢;generalize fD p.id 1 1073741824=X at*;generalize fD p.fG 1 16=b1 at*;generalize lU p.need=b2 at*;generalize fD p.run 1 1048576=b3 at*;generalize fD p.aP 0 3=Y at*;generalize fD p.prefer 0 p.aP=Z at*;generalize iP c p.dI=aa at*;generalize c.aN.length=NN at*;generalize c.aR.length=NH at*;generalize c.aG=aG at*;generalize c.aJ=aJ at*;obtain⟨y,p1,s,⟨n0,n1,n2⟩,p6,j,r,bd,bc⟩:=p;simp only[dV,gK,eE]at*;obtain⟨F,m⟩:=nQ ((w1.alloc (cE #[cC A NN ca,cC B NH n,aG,aJ] 26)).alloc (cE #[y,p1,s,n0,n1,n2,p6,j,r] 42));have ao:Blk F ((w1:Nat)+1) 42 #[y,p1,s,n0,n1,n2,p6,j,r]:=by rw[<-m.out];have h:=cP (w1.alloc (cE #[cC A NN ca,cC B NH n,aG,aJ] 26)) 42 #[y,p1,s,n0,n1,n2,p6,j,r];simp only[aT]at h;exact h
 have ap:Blk F w1 26 #[cC A NN ca,cC B NH n,aG,aJ]:=by rw[<-m.out];exact Blk.alloc (cP _ _ _) _
 have ak:cD w1 w1 F:=by rw[<-m.out];exact kp
 have a:=qZ (aC ao ap);have g:=qZ ak;clear I;go_enter func104,ntmps104;go_wp2_with fail;rw[m.out];refine(L _).mono ?_;rintro e al⟨rfl,ad⟩;have u:=qZ ad;have aq:CI al ((w1:Nat)+1) 2 s:=(a.1.below u a.1.lt).cell 2;cases X
 .have b:=qY (R=1) (by rw[<-d.out];unfold PX;simp);go_wp2_with fail;go_ret;exact⟨by rw[b.out];rfl,aA g u⟩
 go_wp2_with fail;refine(M _).mono ?_;rintro e z⟨rfl,ae⟩;have i:=qZ (aA u ae);have ar:CI z ((w1:Nat)+1) 3 n0:=(a.1.below i a.1.lt).cell 3;have au:CI z ((w1:Nat)+1) 4 n1:=(a.1.below i a.1.lt).cell 4;have av:CI z ((w1:Nat)+1) 5 n2:=(a.1.below i a.1.lt).cell 5;cases b1
 .have b:=qY (R=1) (by rw[<-d.out];unfold PX;simp);go_wp2_with fail;go_ret;exact⟨by rw[b.out];rfl,aA g i⟩
 go_wp2_with fail;refine(N _).mono ?_;rintro e am⟨rfl,af⟩;have v:=qZ (aA i af);have aw:CI am ((w1:Nat)+1) 6 p6:=(a.1.below v a.1.lt).cell 6;cases b2
 .have b:=qY (R=1) (by rw[<-d.out];unfold PX;simp);go_wp2_with fail;go_ret;exact⟨by rw[b.out];rfl,aA g v⟩
 go_wp2_with fail;refine(O _).mono ?_;rintro e an⟨rfl,ag⟩;have x:=qZ (aA v ag);have ax:CI an ((w1:Nat)+1) 7 j:=(a.1.below x a.1.lt).cell 7;cases b3
 .have b:=qY (R=1) (by rw[<-d.out];unfold PX;simp);go_wp2_with fail;go_ret;exact⟨by rw[b.out];rfl,aA g x⟩
 go_wp2_with fail;refine(Q _).mono ?_;rintro e K⟨rfl,ah⟩;have l:=qZ (aA x ah);have az:CI K ((w1:Nat)+1) 8 r:=(a.1.below l a.1.lt).cell 8;have ay:CI K ((w1:Nat)+1) 7 j:=(a.1.below l a.1.lt).cell 7;cases Y
 .have b:=qY (R=1) (by rw[<-d.out];unfold PX;simp);go_wp2_with fail;go_ret;exact⟨by rw[b.out];rfl,aA g l⟩
 go_wp2_with fail;refine(T _).mono ?_;rintro e k⟨rfl,ai⟩;have f:=qZ (aA l ai);have a0:CI k ((w1:Nat)+1) 1 p1:=(a.1.below f a.1.lt).cell 1;have a5:CV k (w1:Nat) 0 (cC A NN ca):=(a.2.below f a.2.lt).cell 0;have d1:CV k (w1:Nat) 1 (cC B NH n):=(a.2.below f a.2.lt).cell 1;have d2:CI k (w1:Nat) 2 aG:=(a.2.below f a.2.lt).cell 2;have d3:CI k (w1:Nat) 3 aJ:=(a.2.below f a.2.lt).cell 3;cases Z
 .have b:=qY (R=1) (by rw[<-d.out];unfold PX;simp);go_wp2_with fail;go_ret;exact⟨by rw[b.out];rfl,aA g f⟩
 go_wp2_with fail;refine(W _ (aA g f)).mono ?_;rintro e be⟨rfl,ab⟩;have H:=qZ (aA g (aA f ab));cases aa
 .have b:=qY (R=3) (by rw[<-d.out];rfl);go_wp2_with fail;go_ret;exact⟨by rw[b.out];rfl,H⟩
 .have b:=qY (R=0) (by rw[<-d.out];rfl);go_wp2_with fail;go_ret;exact⟨by rw[b.out];rfl,H⟩
structure QN (w:World) (b1 b2:Nat) (vc:Value) (t:Vec.V):Prop where
 cfg:∃v1 v2 h a,vc=.agg #[v1,v2,.int .i64 h,.int .i64 a]/\Blk w b1 26 #[v1,v2,.int .i64 h,.int .i64 a]
 tot:Blk w b2 40 #[t.x,t.y,t.z]
theorem QN.on{f:cL}{t:dT}(h:QN w b1 b2 f t)(b:cD w w w'):QN w' b1 b2 f t:=by obtain⟨⟨v1,v2,x,a,e,c⟩,d⟩:=h;exact⟨⟨v1,v2,x,a,e,c.below b c.lt⟩,d.below b d.lt⟩
theorem akS{I:cL}{t:dT}(n:QN w b1 b2 I t)(j:bW w I c)(i:Nat)(x:dT)(T:eL x)(Q:eL t):∀w1,cD w w w1->cN cM 172 #[(i:Int),x.val,cF b1,cF b2] w1 λe w'=>e=cG (cI cW (if iP c (i:Int)then(eW x t:Nat)else(0:Nat):Nat))/\cD w1 w1 w':=by
 intro w1 F;replace n:=n.on F;replace j:=j.below F;have u:=qZ (tZ j (i:Int));have r:=qZ (gT.arf x t T Q);obtain⟨⟨v1,v2,aG,aJ,rfl,xc⟩,L⟩:=n;obtain⟨u1,u2,e,⟨A,ca,rfl,af,ad⟩,⟨B,z,rfl,ag,ae⟩⟩:=j;obtain⟨rfl,rfl,rfl,rfl⟩:v1=cC A c.aN.length ca/\v2=cC B c.aR.length z/\aG=c.aG/\aJ=c.aJ:=by simp at e;exact e
 obtain⟨s,hs⟩:=nZ (iP c (i:Int));obtain⟨d,H⟩:=nZ (eW x t);rw[hs]at u⊢;rw[H]at r⊢;obtain⟨x0,J,K⟩:=x;obtain⟨W,X,Y⟩:=t;simp only[eE]at*;generalize c.aN.length=NN at*;generalize c.aR.length=NH at*;generalize c.aG=aG at*;generalize c.aJ=aJ at*;obtain⟨b,f⟩:=nQ (w1.alloc (cE #[x0,J,K] 40));have m:=aB f;have Z:=aX f;have k:=xc.below m xc.lt;have aa:=L.below m L.lt;have g:=qZ (aC Z aa);have N:CV b b1 0 (cC A NN ca):=k.cell 0;have c1:CV b b1 1 (cC B NH z):=k.cell 1;have c2:CI b b1 2 aG:=k.cell 2;have c3:CI b b1 3 aJ:=k.cell 3;have y:=qZ m;rw[<-f.out]at N c1 c2 c3;clear hs H;go_enter func172,ntmps172;go_wp2_with fail;rw[f.out];refine(u b y).mono ?_;rintro e a⟨rfl,l⟩;have o:=g.1.below l g.1.lt;have p:=g.2.below l g.2.lt;have v:=qZ (aA y l);have ab:CI a w1 0 x0:=o.cell 0;have d1:CI a w1 1 J:=o.cell 1;have d2:CI a w1 2 K:=o.cell 2;have d3:CI a b2 0 W:=p.cell 0;have d4:CI a b2 1 X:=p.cell 1;have d5:CI a b2 2 Y:=p.cell 2;cases s
 .go_wp2_with fail;go_ret;exact⟨rfl,v⟩
 .go_wp2_with fail;refine(r _).mono ?_;rintro e ah⟨rfl,O⟩;have M:=qZ (aA v O);go_wp2_with fail;go_ret;exact⟨rfl,M⟩
def GK(c:Cfg.C)(t:dT)(us:List dT)(k:Nat):List Nat:=(gh k).map λi:Nat=>if iP c (i:Int)then eW (us.getD i gm) t else 0
theorem ahH(c:Cfg.C)(t:dT)(a:List dT)(h:k<a.length):GK c t a (k+1)=GK c t a k++[if iP c (k:Int)then eW a[k] t else 0]:=by unfold GK;rw[fw,dO,dG,fQ,aV,aH h,eJ]
theorem akR(c:Cfg.C)(rs:List Top.R):GK c (Cfg.xR c) (eR c rs) (eR c rs).length=qH c rs:=by
 unfold GK qH KU;apply List.ext_getElem
 .simp
 .intro i a b;simp at a;simp[a]
theorem ahI{u:cL}{t:dT}{a:List dT}(al:QN w b1 b2 u t)(Z:bW w u c)(ak:VSl w v a)(ae:a.length<=1000000)(hi:∀x∈a,eL x)(aj:eL t):∀w1,cD w w w1->cN cM 171 #[v,.func (.func 172) #[] #[cF b1,cF b2]] w1 λe w'=>JF (GK c t a a.length) w1 e w':=by
 intro w1 j;have z:=qZ (λ(i:Nat) x (am:eL x) W (h:cD w1 w1 W)=>akS (al.on j) (Z.below j) i x am aj W h);obtain⟨A,ca,rfl,ai,au⟩:=ak.below j;have H:=qZ ai;have L:=qZ hi;obtain⟨N,m⟩:=nQ a.length;rw[m.out]at ae⊢;go_enter func171,ntmps171;go_wp2_with fail;go_loopg[5,10] N (λQ ao v10 wr=>∃k:Nat,v10=cI cY k/\k<=N/\N<=Q+k/\Hid (bL wr w1 63 1 oI ao (GK c t a k))/\Hid (cD w1 w1 wr));exact⟨0,mZ,oZ,oZ,qZ (bL.nil _ _ _ _ _),qZ (aK _ _)⟩
 obtain⟨k,rfl,ar,aq,o,b⟩:=hrel;by_cases af:k<N
 .have ag:(k:Int)<(N:Int):=oZ;have l:k<a.length:=by rw[m.out];exact af
  obtain⟨bn,ax,rfl,av,aa⟩:=EY H l;obtain⟨an,p1,p2⟩:=aa wr b;have n:=qZ (ahH c t a l);have ad:=L.out _ (bD l);generalize a[k]=x at*;obtain⟨ap,f⟩:=nZ (wr.alloc (cE #[x.x,x.y,x.z] 40));have s:=aB f;have g:=z.out k x ad ap (aA b s);obtain⟨d,ab⟩:∃d:Nat,(if iP c (k:Int)then eW x t else 0)=d:=⟨_,rfl⟩;rw[ab]at g n;obtain⟨x0,ay,az⟩:=x;simp only[eE]at g an p1 p2 f;have F:=qZ g;have J:=qZ s;have O:=qZ f;clear f;go_wp2_with fail;rw[O.out];refine F.mono ?_;rintro e y⟨rfl,X⟩;have r:cD wr wr y:=aA J X;obtain⟨u6,p,ah,T,Y,aw⟩:=afz d o r b.size (by simp[GK];omega);have M:=qY (bL p w1 63 1 oI u6 (GK c t a (k+1))) (by rw[n.out];exact T);have I:=qY (cD w1 w1 p) ((b.out.trans (Below.mono r b.size)).trans Y);go_wp2_with(at_builtin;refine cK rfl (.tmp 15) (.tmp 20) _ _ rfl u5 (cC y 1 1) rfl rfl ah ?_);go_roundg(N-(k+1));exact⟨k+1,mZ,oZ,oZ,M,I⟩;omega
 .have ag:¬(k:Int)<(N:Int):=oZ;have K:=qY (k=N) (by omega);go_wp2_with fail;go_ret;exact⟨_,rfl,by rw[<-K.out];exact o,b⟩
theorem akB(c:Cfg.C):vQ c.aR c.aR.length=Cfg.xR c:=by unfold vQ Cfg.xR;rw[aU lZ]
theorem afh(a:bW w v c)(i:Runs w vr rl)(ai:c.aN.length<=1000000)(N:(eR c (rl.map eD)).length<=1000000)(hi:∀x∈eR c (rl.map eD),eL x)(M:eL (Cfg.xR c)):∀w1,cD w w w1->cN cM 113 #[v,vr] w1 λe w'=>JF (qH c (rl.map eD)) w1 e w':=by intro w1 J;replace a:=a.below J;replace i:=i.below J;have d:=qZ (aho a);rw[akB]at d;have u:=qZ (λW (h:cD w1 w1 W)=>by have:=FH a i ai W h;rw[ET]at this;exact this);rw[<-akR];obtain⟨ad,I⟩:=nZ (eR c (rl.map eD));rw[I]at u N hi⊢;obtain⟨⟨n,o,p⟩,af⟩:∃T,Cfg.xR c=T:=⟨_,rfl⟩;rw[af]at d M⊢;have X:=qZ (λW b1 b2 r (h:cD w1 w1 W) (am:QN W b1 b2 v ⟨n,o,p⟩) (ak:VSl W r ad)=>ahI am (a.below h) ak N hi M W (aK _ _));obtain⟨v1,v2,rfl,⟨A,ca,rfl,aw,ar⟩,⟨B,l,rfl,ax,au⟩⟩:=a;obtain⟨F,cf,rfl,ay,av,aq⟩:=i;simp only[eE]at d;generalize c.aN.length=NN at*;generalize c.aR.length=NH at*;generalize c.aG=aG at*;generalize c.aJ=aJ at*;generalize rl.length=NR at*;obtain⟨an,k⟩:=nQ (w1.alloc (cE #[cC A NN ca,cC B NH l,aG,aJ] 26));have ap:=aX k;have ah:=aB k;have H:=qZ ap;have z:=qZ ah;clear I;go_enter func113,ntmps113;go_wp2_with fail;rw[k.out];refine(d an z).mono ?_;rintro e s⟨rfl,K⟩;have Q:=H.below K H.out.lt;obtain⟨b,f⟩:=nQ (s.alloc (cE #[n,o,p] 40));have ao:=aX f;have L:=aB f;have z4:=Q.below L Q.lt;have ae:CV b w1 0 (cC A NN ca):=z4.cell 0;have c1:CV b w1 1 (cC B NH l):=z4.cell 1;have c2:CI b w1 2 aG:=z4.cell 2;have c3:CI b w1 3 aJ:=z4.cell 3;have g:=qZ (aC z4 ao);have y:=qZ (aA z (aA K L));rw[<-f.out]at ae c1 c2 c3;go_wp2_with fail;rw[f.out];refine(u b y).mono ?_;rintro e O⟨r,rfl,al,m⟩;have aa:=qZ al.sl;have j:=qZ (aA y m);have ab:=qY (QN O (w1:Nat) (s:Nat) (ft #[cC A NN ca,cC B NH l,aG,aJ]) ⟨n,o,p⟩) (⟨⟨_,_,_,_,rfl,g.1.below m g.1.lt⟩,g.2.below m g.2.lt⟩);go_wp2_with fail;refine(X O (w1:Nat) (s:Nat) r j ab aa).mono ?_;rintro e az⟨v',rfl,aj,ag⟩;have Z:=qZ (aj.low j.size);have Y:=qZ (aA j ag);go_wp2_with fail;go_ret;exact⟨_,rfl,Z,Y⟩
theorem aej(a b:Nat):eM a b<=cT:=by unfold eM Fix.cut;split<;>omega
theorem FB{xs:List Nat}(h:gF w A 1 oI xs)(a:k<xs.length):∃b o,A=cR ⟨b,o,cV⟩/\b<(w:Nat)/\∀w',cD w w w'->w'.cell? ⟨b,o+k,cV⟩=cR (cI cW (xs[k]:Int)):=by obtain⟨b,o,rfl,c,f⟩:=h (by intro e;subst e;simp at a);have g:=aH a;refine⟨b,o,rfl,c,λw' d=>?_⟩;have:=f k xs[k] g 0 (cI cW (xs[k]:Int)) rfl;rw[Nat.add_zero,gI]at this;exact(d.cell (p:=⟨b,o+k,cV⟩) c).trans this
theorem akJ{vs:cL}{a:List Nat}{left time:Nat}(y:Blk w b1 63 #[cI cW (left:Int)])(z:Blk w b2 29 #[vs])(F:Blk w b3 63 #[cI cW (time:Int)])(hs:SlK w 1 oI vs a)(aj:a.length<=1000000)(ai:left<=cT)(an:time<=cT)(am:∀x∈a,x<=cT)(i x:Nat)(ao:x<=cT):∀w1,cD w w w1->cN cM 167 #[(i:Int),cI cW (x:Int),cF b1,cF b2,cF b3] w1 λe w'=>e=cG (cI cW (yY left time a i x:Nat))/\cD w1 w1 w':=by
 intro w1 f;replace hs:=hs.below f;have T:=qZ (λW (b:cD w1 w1 W)=>y.below (aA f b) y.lt);have g:=qZ (λW (b:cD w1 w1 W)=>z.below (aA f b) z.lt);have X:=qZ (λW (b:cD w1 w1 W)=>F.below (aA f b) F.lt);obtain⟨A,ca,rfl,al⟩:=hs;obtain⟨m,l⟩:=nQ (eM x left);have o:=qZ (rM.aml x left ao ai);have ak:m<=cT:=by rw[<-l.out];exact aej _ _
 rw[l.out]at o;have k:=qY (yY left time a i x=if i<a.length then gi m (eM (a.getD i 0) time)else m) (by unfold yY;rw[l.out]);have Y:=qZ al;have ad:=qZ am;obtain⟨N,u⟩:=nQ a.length;rw[u.out]at aj k g;have ab:=qZ ak;have ae:=qZ an;have c1:CV w1 b1 0 (cI cW (left:Int)):=(T w1 (aK _ _)).cell 0;go_enter func167,ntmps167;go_wp2_with fail;refine(o _).mono ?_;rintro e c⟨rfl,H⟩;have d:=qZ H;have c2:CV c b2 0 (cC A N ca):=(g c H).cell 0;by_cases hi:i<N
 .have ah:(i:Int)<(N:Int):=oZ;have n:i<a.length:=by rw[u.out];exact hi
  obtain⟨v,M,rfl,au,I⟩:=FB Y n;have L:=ad.out _ (bD n);have p:Hid (a.getD i 0=a[i]):=qZ (by rw[aV,aH n,eJ]);obtain⟨s,hs⟩:=nZ (a[i]);rw[hs]at L I p;have O:=qZ (rM.aml s time L ae);have Q:=qZ (rM.zN m (eM s time) ab (aej _ _));have j:=qY (yY left time a i x=gi m (eM s time)) (by rw[k.out,aI hi,p.out]);generalize eM s time=q at*;generalize gi m q=r at*;have Z:=qZ I;clear hs;go_wp2_with fail;refine jB (aD c) (.take 0 (.take 1 (.take 2 (.take 3 (.take 4 (.take 5 (.one 6 (.one 7 (.take 8 .done))))))))) kZ kZ (aD.drew c) ?_;have ar:∀W,aD c W->CV W b2 0 (cC (cR ⟨v,M,cV⟩) N ca)/\CV W b3 0 (cI cW (time:Int)):=λW b=>⟨(g W (aA d b)).cell 0,(X W (aA d b)).cell 0⟩;have d2:∀W,aD c W->CV W v (M+i) (cI cW (s:Int)):=λW b=>Z W (aA d b);(iterate 6 refine tT ?_);refine dQ ?_;refine tC ?_;refine(O _).mono ?_;rintro e ap⟨rfl,af⟩;have J:aD c ap:=aA (aD.drew c) af;refine⟨_,rfl,J,?_⟩;refine dQ ?_;refine tC ?_;refine(Q _).mono ?_;rintro e aq⟨rfl,ag⟩;have K:aD c aq:=aA J ag;refine⟨_,rfl,K,?_⟩;(iterate 1 refine tT ?_);refine fA ?_;have aa:=qZ (aA d K);go_wp2_with fail;go_ret;exact⟨by rw[j.out];rfl,aa⟩
 .have ah:¬(i:Int)<(N:Int):=oZ;have j:=qY (yY left time a i x=m) (by rw[k.out,aF hi]);go_wp2_with fail;go_ret;exact⟨by rw[j.out];rfl,d⟩
def FW(left time:Nat)(sh h:List Nat)(k:Nat):List Nat:=(gh k).map λi:Nat=>yY left time sh i (h.getD i 0)
theorem ahq(left time:Nat)(a h:List Nat)(b:k<h.length):FW left time a h (k+1)=FW left time a h k++[yY left time a k h[k]]:=by unfold FW;rw[fw,dO,dG,fQ,aV,aH b,eJ]
theorem akH(h b:List Nat)(n aG:Int):FW (vK n aG) (fN n) b h h.length=zT h b n aG:=by
 unfold FW zT;apply List.ext_getElem
 .simp
 .intro i a c;simp at a;simp[a]
theorem ahu{vs:cL}{a:List Nat}{left time:Nat}(I:Blk w b1 63 #[cI cW (left:Int)])(J:Blk w b2 29 #[vs])(K:Blk w b3 63 #[cI cW (time:Int)])(hs:SlK w 1 oI vs a)(aa:a.length<=1000000)(X:left<=cT)(ag:time<=cT)(af:∀x∈a,x<=cT)(hv:SlK w 1 oI v h)(ab:h.length<=1000000)(Q:∀x∈h,x<=cT):∀w1,cD w w w1->cN cM 166 #[v,.func (.func 167) #[] #[cF b1,cF b2,cF b3]] w1 λe w'=>JF (FW left time a h h.length) w1 e w':=by
 intro w1 l;have n:=qZ (λ(i x:Nat) (ah:x<=cT) W (h:cD w1 w1 W)=>akJ I J K hs aa X ag af i x ah W (aA l h));obtain⟨A,ca,rfl,ae⟩:=hv.below l;have p:=qZ ae;have u:=qZ Q;obtain⟨N,f⟩:=nQ h.length;rw[f.out]at ab⊢;go_enter func166,ntmps166;go_wp2_with fail;go_loopg[5,10] N (λF ai v10 wr=>∃k:Nat,v10=cI cY k/\k<=N/\N<=F+k/\Hid (bL wr w1 63 1 oI ai (FW left time a h k))/\Hid (cD w1 w1 wr));exact⟨0,mZ,oZ,oZ,qZ (bL.nil _ _ _ _ _),qZ (aK _ _)⟩
 obtain⟨k,rfl,al,ak,g,b⟩:=hrel;by_cases Y:k<N
 .have Z:(k:Int)<(N:Int):=oZ;have c:k<h.length:=by rw[f.out];exact Y
  obtain⟨bn,ao,rfl,am,O⟩:=FB p c;have ap:=O wr b;have y:=qZ (ahq left time a h c);have T:=u.out _ (bD c);generalize h[k]=x at*;have H:=n.out k x T wr b;generalize yY left time a k x=d at*;have o:=qZ H;go_wp2_with fail;refine o.mono ?_;rintro e aj⟨rfl,m⟩;obtain⟨u6,j,ad,L,M,an⟩:=afz d g m b.size (by simp[FW];omega);have z:=qY (bL j w1 63 1 oI u6 (FW left time a h (k+1))) (by rw[y.out];exact L);have r:=qY (cD w1 w1 j) ((b.out.trans (Below.mono m b.size)).trans M);go_wp2_with(at_builtin;refine cK rfl (.tmp 15) (.tmp 20) _ _ rfl u5 (cC aj 1 1) rfl rfl ad ?_);go_roundg(N-(k+1));exact⟨k+1,mZ,oZ,oZ,z,r⟩;omega
 .have Z:¬(k:Int)<(N:Int):=oZ;have s:=qY (k=N) (by omega);go_wp2_with fail;go_ret;exact⟨_,rfl,by rw[<-s.out];exact g,b⟩
theorem akI{vs:cL}{b:List Nat}{n aG:Int}(hs:SlK w 1 oI vs b)(O:b.length<=1000000)(Y:∀x∈b,x<=cT)(hv:SlK w 1 oI v h)(Q:h.length<=1000000)(N:∀x∈h,x<=cT)(d: -9223372036854775808<=n/\n<=9223372036854775807)(f: -9223372036854775808<=aG/\aG<=9223372036854775807)(M:vK n aG<=cT)(T:fN n<=cT):∀w1,cD w w w1->cN cM 112 #[v,vs,n,aG] w1 λe w'=>JF (zT h b n aG) w1 e w':=by
 intro w1 m;rw[<-akH];have u:=qZ (λW=>agV.agl n aG d.1 d.2 f.1 f.2 W);have y:=qZ (rM.gof n d.1 d.2);generalize vK n aG=left at*;generalize fN n=time at*;have z:=qZ (λW b1 b2 b3 (l:cD w1 w1 W) f h2 h3=>ahu (w:=W) (b1:=b1) (b2:=b2) (b3:=b3) (left:=left) (time:=time) f h2 h3 ((hs.below m).below l) O M T Y ((hv.below m).below l) Q N W (aK _ _));obtain⟨A,ca,rfl,ae⟩:=hs;obtain⟨B,ad,rfl,af⟩:=hv;have J:=qZ ((aK _ _:cD w1 w1 w1).alloc lZ (cE #[cC A b.length ca] 29));have k:=qZ (cP w1 29 #[cC A b.length ca]);go_enter func112,ntmps112;go_wp2_with fail;refine(u _).mono ?_;rintro e ag⟨rfl,o⟩;have s:=k.below o k.out.lt;have F:=qZ (aA J o);go_wp2_with fail;refine(y _).mono ?_;rintro e a⟨rfl,p⟩;have Z:=s.below p s.lt;have H:=qZ (aA F p);have j:=qZ Z;go_wp2_with fail;obtain⟨g,c⟩:=nQ ((a.alloc (cE #[cI cW (left:Int)] 63)).alloc (cE #[cI cW (time:Int)] 63));have aa:Blk g a 63 #[cI cW (left:Int)]:=by rw[<-c.out];exact Blk.alloc (cP _ _ _) _
 have ab:Blk g ((a:Nat)+1) 63 #[cI cW (time:Int)]:=by rw[<-c.out];have h:=cP (a.alloc (cE #[cI cW (left:Int)] 63)) 63 #[cI cW (time:Int)];simp only[aT]at h;exact h
 have r:cD a a g:=by rw[<-c.out];exact kp
 have i:=qZ (aA H r);rw[c.out];refine(z g (a:Nat) (w1:Nat) ((a:Nat)+1) i aa (j.below r j.out.lt) ab).mono ?_;rintro e ah⟨v',rfl,X,L⟩;have K:=qZ (X.low i.size);have I:=qZ (aA i L);go_wp2_with fail;go_ret;exact⟨_,rfl,K,I⟩
def nC(w:dC)(rb:Nat)(l:List UInt8):Prop:=Blk w rb 386 #[fv (str l)]
def gU(w:dC)(rb:Nat)(l:List UInt8)(w':dC):Prop:=nC w' rb l/\aL (λi=>i=rb) w w'
theorem gU.trans{a b c:dC}{d:Nat}{l e:List UInt8}(h:gU a d l b)(k:gU b d e c):gU a d e c:=⟨k.1,h.2.trans k.2⟩
theorem nC.below{a:Nat}{l:List UInt8}(h:nC w a l)(b:cD w w w'):nC w' a l:=Blk.below h b (gf h)
theorem aaV(b:UInt8)(t:List UInt8):(str (b::t)).extract 1 (str (b::t)).size=str t:=by rw[extract_eq,mK,nR];congr 1;simp
theorem tK{n:Int}(o:0<=n/\n<=127){t:List UInt8}(y:t.length<=100000){a:Nat}(h:nC w a (cA n::t)):cN cM 301 #[cF (cR ⟨a,0,cV⟩)] w λe w'=>e=cG (cI cY n)/\gU w a t w':=by
 have g:(str (cA n::t)).size=t.length+1:=by rw[nR,cJ]
 have v:=gf h;have l:CV w a 0 (fv (str (cA n::t))):=gn h 0;have d:=amm o t oZ;have k:=qZ (aaV (cA n) t);have b:=qZ h;unfold nC at b;obtain⟨s,hs⟩:=nZ (str (cA n::t));rw[hs]at g l d k b;have x:1<=s.size:=oZ;clear hs h o g;go_enter func301,ntmps301;go_wp2_with fail;refine(d _).mono ?_;rintro e w1⟨rfl,f⟩;have c:=b.below f b.out.lt;have c1:CV w1 a 0 (fv s):=c.cell 0;have u:w1.frozen? ⟨a,0,cV⟩=eI:=c.frozen 0;have j:=qY (gU w a t (w1.setCell ⟨a,0,cV⟩ (fv (str t)))) (⟨c.bR 0 _,aL.setCell (F:=λi=>i=a) (p:=⟨a,0,cV⟩) (aL.bQ f) (.inl rfl) _⟩);rw[<-k.out]at j;clear c f d l;go_wp2_with fail;refine(iC eK 10 _).mono ?_;rintro e z⟨m,rfl⟩;rw[eU,aI rfl]at m;subst m;go_wp2_with fail;go_ret;exact⟨rfl,j⟩
theorem gU.refl{w:dC}{a:Nat}{l:List UInt8}(h:nC w a l):gU w a l w:=⟨h,aL.refl _ _⟩
theorem gU.alloc{a:Nat}{l:List UInt8}(h:gU w a l W)(o:Obj):gU w a l (W.alloc o):=⟨h.1.below (bZ),h.2.alloc _⟩
theorem gU.bR{a:Nat}{l:List UInt8}(h:gU w a l W)(b:(w:Nat)<=g)(c:g≠a)(i:Nat)(u:cL):gU w a l (W.setCell (g,i) u):=⟨Blk.far h.1 (λe=>c e.symm) u,h.2.setCell (p:=⟨g,i,cV⟩) (.inr b) u⟩
theorem nH{a:Nat}{n:Int}{t:List UInt8}(c:0<=n/\n<=127)(d:t.length<=100000)(h:gU w a (cA n::t) W):cN cM 301 #[cF a] W λe w'=>e=cG n/\gU w a t w'/\aL (λi=>i=a) W w':=
 (tK c d h.1).mono λ_ _ ⟨b,ho⟩=>⟨b,h.trans ho,ho.2⟩
theorem amL{a b c:cL}{t:gd}(h:Blk w g t #[a,b,c])(x y z:cL):Blk (((w.setCell (g,0) x).setCell (g,1) y).setCell (g,2) z) g t #[x,y,z]:=by have:=((h.bR 0 x).bR 1 y).bR 2 z;simpa using this
theorem akz{x y z:Int}(W:0<=x/\x<=127)(X:0<=y/\y<=127)(Y:0<=z/\z<=127){t:List UInt8}(T:t.length<=90000){b:Nat}(h:nC w b (cA x::cA y::cA z::t)):cN cM 313 #[cF b] w λe w'=>e=cG (ft #[x,y,z])/\gU w b t w':=by
 have az:b<(w:Nat):=gf h;obtain⟨ad,o⟩:=nZ (w.alloc (cE #[(),(),()] 40));have ah:=qY (gU w b (cA x::cA y::cA z::t) ad) (by rw[<-o];exact(gU.refl h).alloc _);have J:=qY (Blk ad w 40 #[(),(),()]) (by rw[<-o];exact cP _ _ _);have am:=qZ o;obtain⟨a,F⟩:=nZ (w:Nat);have al:=qZ F;have c:=qY (a≠b) oZ;have f:=qY ((w:Nat)<=a) oZ;have A:=qZ T;rw[F]at J;have ae:=qZ W;have af:=qZ X;have ag:=qZ Y;clear o F h az T W X Y;go_enter func313,ntmps313;go_wp2_with fail;rw[am.out,al.out];refine wp_loop_rounds 4 ?_;rw[eN];go_wp2_with fail;refine(nH ae (by have:=A.out;simp;omega) ah).mono ?_;rintro e w1⟨rfl,N,Z⟩;have r:=J.bA Z c;have av:CI w1 a 0 0:=r.cell 0;have aw:w1.frozen? (a,0)=eI:=r.frozen 0;obtain⟨K,j⟩:=nZ (w1.setCell (a,0) x);have ai:=qY (gU w b (cA y::cA z::t) K) (by rw[<-j];exact N.bR f c 0 _);have ar:=qY (Blk K a 40 #[x,(),()]) (by rw[<-j];exact r.bR 0 _);have an:=qZ j;clear j N Z r;go_wp2_with fail;rw[an.out];rw[eN];clear av aw;go_wp2_with fail;refine(nH af (by have:=A.out;simp;omega) ai).mono ?_;rintro e H⟨rfl,O,aa⟩;have s:=ar.bA aa c;have c1:CI H a 1 0:=s.cell 1;have ax:H.frozen? (a,1)=eI:=s.frozen 1;obtain⟨L,k⟩:=nZ (H.setCell (a,1) y);have aj:=qY (gU w b (cA z::t) L) (by rw[<-k];exact O.bR f c 1 _);have au:=qY (Blk L a 40 #[x,y,()]) (by rw[<-k];exact s.bR 1 _);have ao:=qZ k;clear k O aa s;go_wp2_with fail;rw[ao.out];rw[eN];clear c1 ax;go_wp2_with fail;refine(nH ag (by have:=A.out;omega) aj).mono ?_;rintro e I⟨rfl,Q,ab⟩;have u:=au.bA ab c;have c2:CI I a 2 0:=u.cell 2;have ay:I.frozen? (a,2)=eI:=u.frozen 2;obtain⟨d,l⟩:=nZ (I.setCell (a,2) z);have M:gU w b t d:=by rw[<-l];exact Q.bR f c 2 _
 have g:Blk d a 40 #[x,y,z]:=by rw[<-l];exact u.bR 2 _
 have ap:=qZ l;clear l Q ab u;go_wp2_with fail;rw[ap.out];rw[eN];clear c2 ay;obtain⟨i,m⟩:=nZ (((d.setCell (a,0) x).setCell (a,1) y).setCell (a,2) z);have ak:=qY (gU w b t i) (by rw[<-m];exact((M.bR f c 0 _).bR f c 1 _).bR f c 2 _);have p:Blk i a 40 #[x,y,z]:=by rw[<-m];exact amL g _ _ _
 have aq:=qZ m;obtain⟨a9,d1,d2⟩:CI d a 0 x/\CI d a 1 y/\CI d a 2 z:=⟨g.cell 0,g.cell 1,g.cell 2⟩;obtain⟨a0,a5,a8⟩:CI i a 0 x/\CI i a 1 y/\CI i a 2 z:=⟨p.cell 0,p.cell 1,p.cell 2⟩;have ba:∀n,d.frozen? ⟨a,n,cV⟩=eI:=λn=>g.frozen n;clear M g m p;go_wp2_with fail;rw[aq.out];refine eS (v:=ft #[x,y,z]) (by simp[results,Tryz.results313,go_sem,a0,a5,a8]) rfl ?_;exact⟨rfl,ak⟩
theorem ajG(o:n<=127){t:List UInt8}(p:t.length<=90000)(l:n<=t.length){a:Nat}(h:nC w a (cA n::t)):cN cM 312 #[cF a] w λe w'=>e=cG n/\gU w a t w':=by
 have i:=qZ (tK (n:=n) oZ oZ h);have f:(str t).size=t.length:=nR t;obtain⟨s,b⟩:=nQ (str t);rw[b.out]at f;have m:decide (n<=s.size)=eK:=by simp;omega
 go_enter func312,ntmps312;go_wp2_with fail;refine i.out.mono ?_;rintro e w1⟨rfl,d⟩;have k:w1.cell? (a,0)=cR (fv s):=by rw[<-b.out];exact gn d.1 0
 have g:=qZ d;go_wp2_with fail;refine(iC eK 10 _).mono ?_;rintro e r⟨c,rfl⟩;rw[eU,aI rfl]at c;subst c;go_wp2_with fail;go_ret;exact⟨rfl,g⟩
open bO eO Srt
theorem zG{a:Nat}{x y z:Int}(d:0<=x/\x<=127)(f:0<=y/\y<=127)(g:0<=z/\z<=127){t:List UInt8}(c:t.length<=90000)(h:gU w a (cA x::cA y::cA z::t) W):cN cM 313 #[cF a] W λe w'=>e=cG (ft #[x,y,z])/\gU w a t w'/\aL (λi=>i=a) W w':=
 (akz d f g c h.1).mono λ_ _ ⟨b,ho⟩=>⟨b,h.trans ho,ho.2⟩
theorem TY{a:Nat}(d:n<=127){t:List UInt8}(f:t.length<=90000)(b:n<=t.length)(h:gU w a (cA n::t) W):cN cM 312 #[cF a] W λe w'=>e=cG n/\gU w a t w'/\aL (λi=>i=a) W w':=
 (ajG d f b h.1).mono λ_ _ ⟨c,ho⟩=>⟨c,h.trans ho,ho.2⟩
def nine(w:dC)(b:Nat)(u0 u1 u2 u3 u4 u5 u6 u7 u8:cL):dC:=((((((((w.setCell (b,0) u0).setCell (b,1) u1).setCell (b,2) u2).setCell (b,3) u3).setCell (b,4) u4).setCell (b,5) u5).setCell (b,6) u6).setCell (b,7) u7).setCell (b,8) u8
theorem alP{b:Nat}{t:gd}{a c1 c2 c3 c4 c5 c6 c7 c8:cL}(h:Blk w b t #[a,c1,c2,c3,c4,c5,c6,c7,c8])(u0 u1 u2 u3 u4 u5 u6 u7 u8:cL):Blk (nine w b u0 u1 u2 u3 u4 u5 u6 u7 u8) b t #[u0,u1,u2,u3,u4,u5,u6,u7,u8]:=by have h:=(((((((((h.bR 0 u0).bR 1 u1).bR 2 u2).bR 3 u3).bR 4 u4).bR 5 u5).bR 6 u6).bR 7 u7).bR 8 u8);simpa[nine]using h
theorem alO{d:Nat}{l:List UInt8}(h:gU w d l W){b:Nat}(a:(w:Nat)<=b)(c:b≠d)(u0 u1 u2 u3 u4 u5 u6 u7 u8:cL):gU w d l (nine W b u0 u1 u2 u3 u4 u5 u6 u7 u8):=
 (((((((((h.bR a c 0 _).bR a c 1 _).bR a c 2 _).bR a c 3 _).bR a c 4 _).bR a c 5 _).bR a c 6 _).bR a c 7 _).bR a c 8 _)
theorem ajg{g:Ord.P}(m:cQ (pO g)){t:List UInt8}(aj:t.length<=80000){k:Nat}(h:nC w k (ac (pO g)++t)):cN cM 303 #[cF k] w λe w'=>e=cG (dV g)/\gU w k t w':=by
 obtain⟨id,j,f,⟨x,y,z⟩,run,aP,i,b4,b3⟩:=g;have T:=qZ (m id (by simp[pO,mH]));have aa:=qZ (m j (by simp[pO,mH]));have X:=qZ (m f (by simp[pO,mH]));have ab:=qZ (m x (by simp[pO,mH]));have ad:=qZ (m y (by simp[pO,mH]));have ae:=qZ (m z (by simp[pO,mH]));have Z:=qZ (m run (by simp[pO,mH]));have W:=qZ (m aP (by simp[pO,mH]));have Y:=qZ (m i (by simp[pO,mH]));replace h:nC w k (cA id::cA j::cA f::cA x::cA y::cA z::cA run::cA aP::cA i::t):=h;have bm:k<(w:Nat):=gf h;obtain⟨al,M⟩:=nZ (w.alloc (cE #[(),(),(),(),(),(),(),(),()] 42));have am:=qY (gU w k (cA id::cA j::cA f::cA x::cA y::cA z::cA run::cA aP::cA i::t) al) (by rw[<-M];exact(gU.refl h).alloc _);have af:=qY (Blk al w 42 #[(),(),(),(),(),(),(),(),()]) (by rw[<-M];exact cP _ _ _);have a5:=qZ M;obtain⟨a,Q⟩:=nZ (w:Nat);have a0:=qZ Q;have d:=qY (a≠k) oZ;have l:=qY ((w:Nat)<=a) oZ;have o:=qZ aj;rw[Q]at af;clear M Q h bm aj m;simp only[dV,gK];go_enter func303,ntmps303;go_wp2_with fail;rw[a5.out,a0.out];refine(nH T (by have:=o.out;simp;omega) am).mono ?_;rintro e w1⟨rfl,c,b⟩;have ar:=qZ c;have be:=qZ (af.bA b d);clear c b;go_wp2_with fail;refine(nH aa (by have:=o.out;simp;omega) ar).mono ?_;rintro e b5⟨rfl,c,b⟩;have au:=qZ c;have bf:=qZ (be.bA b d);clear c b;go_wp2_with fail;refine(nH X (by have:=o.out;simp;omega) au).mono ?_;rintro e A⟨rfl,c,b⟩;have av:=qZ c;have p:=qZ (bf.bA b d);clear c b;obtain⟨bi,c1,c2⟩:CI A a 0 0/\CI A a 1 0/\CI A a 2 0:=⟨p.cell 0,p.cell 1,p.cell 2⟩;have bj:∀n,A.frozen? ⟨a,n,cV⟩=eI:=λn=>p.frozen n;obtain⟨ag,I⟩:=nZ (((A.setCell (a,0) id).setCell (a,1) j).setCell (a,2) f);have ao:=qY (gU w k (cA x::cA y::cA z::cA run::cA aP::cA i::t) ag) (by rw[<-I];exact(((av.bR l d 0 _).bR l d 1 _).bR l d 2 _));have bc:=qY (Blk ag a 42 #[id,j,f,(),(),(),(),(),()]) (by rw[<-I];exact(((p.bR 0 id).bR 1 j).bR 2 f));have a8:=qZ I;clear I;go_wp2_with fail;rw[a8.out];clear bi c1 c2 bj;refine(zG ab ad ae (by have:=o.out;simp;omega) ao).mono ?_;rintro e F⟨rfl,c,b⟩;have aw:=qZ c;have r:=qZ (bc.bA b d);clear c b;obtain⟨c3,c4,c5⟩:CI F a 3 0/\CI F a 4 0/\CI F a 5 0:=⟨r.cell 3,r.cell 4,r.cell 5⟩;have bk:∀n,F.frozen? ⟨a,n,cV⟩=eI:=λn=>r.frozen n;obtain⟨ah,J⟩:=nZ (((F.setCell (a,3) x).setCell (a,4) y).setCell (a,5) z);have ap:=qY (gU w k (cA run::cA aP::cA i::t) ah) (by rw[<-J];exact(((aw.bR l d 3 _).bR l d 4 _).bR l d 5 _));have bd:=qY (Blk ah a 42 #[id,j,f,x,y,z,(),(),()]) (by rw[<-J];exact(((r.bR 3 x).bR 4 y).bR 5 z));have a9:=qZ J;clear J;go_wp2_with fail;rw[a9.out];clear c3 c4 c5 bk;refine(nH Z (by have:=o.out;simp;omega) ap).mono ?_;rintro e b6⟨rfl,c,b⟩;have ax:=qZ c;have bg:=qZ (bd.bA b d);clear c b;go_wp2_with fail;refine(nH W (by have:=o.out;simp;omega) ax).mono ?_;rintro e b7⟨rfl,c,b⟩;have ay:=qZ c;have bh:=qZ (bg.bA b d);clear c b;go_wp2_with fail;refine(nH Y (by have:=o.out;simp;omega) ay).mono ?_;rintro e H⟨rfl,c,b⟩;have az:=qZ c;have s:=qZ (bh.bA b d);clear c b;obtain⟨c6,c7,c8⟩:CI H a 6 0/\CI H a 7 0/\CI H a 8 0:=⟨s.cell 6,s.cell 7,s.cell 8⟩;have bl:∀n,H.frozen? ⟨a,n,cV⟩=eI:=λn=>s.frozen n;obtain⟨u,K⟩:=nZ (((H.setCell (a,6) run).setCell (a,7) aP).setCell (a,8) i);have aq:=qY (gU w k (t) u) (by rw[<-K];exact(((az.bR l d 6 _).bR l d 7 _).bR l d 8 _));have N:=qY (Blk u a 42 #[id,j,f,x,y,z,run,aP,i]) (by rw[<-K];exact(((s.bR 6 run).bR 7 aP).bR 8 i));have ba:=qZ K;clear K;clear T aa X ab ad ae Z W Y;go_upto_region 4 with fail;rw[ba.out];clear c6 c7 c8 bl;obtain⟨O,L⟩:=nZ (nine u a id j f x y z run aP i);have ai:((((((((u.setCell (a,0) id).setCell (a,1) j).setCell (a,2) f).setCell (a,3) x).setCell (a,4) y).setCell (a,5) z).setCell (a,6) run).setCell (a,7) aP).setCell (a,8) i=O:=L;have an:=qY (gU w k t O) (by rw[<-L];exact alO aq l d id j f x y z run aP i);have ak:Blk O a 42 #[id,j,f,x,y,z,run,aP,i]:=by rw[<-L];exact alP N id j f x y z run aP i
 obtain⟨bw,d1,d2,d3,d4,d5,bz,b0,b1⟩:=N.c9;obtain⟨bn,bo,bp,bq,br,bs,bt,bu,bv⟩:=ak.c9;have b2:∀n,u.frozen? ⟨a,n,cV⟩=eI:=λn=>N.frozen n;have bb:=qZ ai;clear L ai ak;go_wp2_with fail;rw[bb.out];refine eS (v:=ft #[id,j,f,x,y,z,run,aP,i]) (by simp[results,Tryz.results303,go_sem,bn,bo,bp,bq,br,bs,bt,bu,bv]) rfl ?_;exact⟨rfl,an⟩
theorem KI{α:Type}{dec:α->List cL}{xs:List α}(h:gF w A k dec xs)(a:aL F w w')(e:∀b o,A=cR ⟨b,o,cV⟩->¬F b):gF w' A k dec xs:=λf=>by obtain⟨g,o,rfl,c,d⟩:=h f;exact⟨g,o,rfl,aM c a.size,λi x m j u l=>(a.cell (p:=⟨g,o+i*k+j,cV⟩) c (e g o rfl)).trans (d i x m j u l)⟩
theorem iZ.refl{w:dC}{b:Nat}{v:cL}{l:List UInt8}(h:wB w b v l):iZ w b v l w:=⟨v,h,aL.refl _ _,λi hi=>.inl hi⟩
theorem agF(l:List Int)(b:k<l.length)(a:List UInt8):a++ac (l.take (k+1))=(a++ac (l.take k))++[cA l[k]]:=by rw[bE b,dE,bM];rfl
theorem WZ{b:Nat}{a:List UInt8}(h:wB w b v a){l:List Int}(hv:ISl w va l)(af:∀i,va.ownBlock=cR i->¬oP b v i)(ab:cQ l)(aa:a.length+l.length<=1000000):cN cM 259 #[cF b,va] w λe w'=>e=cG (fu #[])/\iZ w b v (a++ac l) w':=by
 obtain⟨A,cap,rfl,ag,au⟩:=hv;have J:=qZ ag;have I:=qZ (λj o (e:A=cR ⟨j,o,cV⟩)=>af j (by rw[e];rfl));have F:=qZ ab;have M:=qY (iZ w b v (a++ac (l.take 0)) w) (by have:=iZ.refl h;simpa[ac]using this);have y:=qZ (λk (f:k<l.length)=>show(a++ac (l.take k)).length+1<=1000000 from by simp only[aW,iX,bN];omega);have r:=qZ (λk (f:l.length<=k)=>dB (λt=>a++ac t) (aU f));obtain⟨N,d⟩:=nQ l.length;rw[d.out]at aa⊢;go_enter func259,ntmps259;go_wp2_with fail;go_loopg[8] N (λO ak wr=>∃k:Nat,ak=cI cY k/\k<=N/\N<=O+k/\Hid (iZ w b v (a++ac (l.take k)) wr));exact⟨0,mZ,oZ,oZ,M⟩
 obtain⟨k,rfl,f,ap,g⟩:=hrel;by_cases ad:k<N
 .have ar:(k:Int)<(N:Int):=oZ;have c:k<l.length:=by rw[d.out];exact ad
  obtain⟨v1,ai,n,Z⟩:=g.out;have ah:=KI J n I;obtain⟨an,o,rfl,ao,X⟩:=qR ah c;have av:=X wr (aK _ _);have aj:=F.out _ (bD c);have K:=qZ (agF l c a);have z:=qZ (y k c);have Q:=alk aj;generalize l[k]=x at*;have L:=qZ ai;have s:=qZ n;have p:=qZ Z;go_wp2_with fail;refine jN 5 kZ kZ ?_;simp only[List.take_succ_cons,List.take_zero,aZ,bB];(repeat refine kY ?_);refine kJ Q ?_;(repeat refine kY ?_);refine dP ?_;intro W m;have T:=qZ (aeL (L.below m) [cA x] z);have u:=qZ (s.out.trans (aL.bQ m));go_wp2_with fail;refine T.out.mono ?_;rintro e al⟨rfl,ae⟩;have H:=qY (iZ w b v (a++ac (l.take (k+1))) al) (by rw[K.out];exact eC u p ae);go_wp2_with fail;go_roundg(N-(k+1));exact⟨k+1,mZ,oZ,oZ,H⟩;omega
 .have aq:¬(k:Int)<(N:Int):=oZ;go_wp2_with fail
  go_end0
  refine⟨rfl,?_⟩;have:=g.out;have Y:=r.out k (by rw[d.out];omega);rw[Y]at this;exact this
theorem alb(w:dC)(xs:List Int):gF (w.alloc (cE (xs.map λn=>fW cY n).toArray 3)) (cR ⟨w,0,cV⟩) 1 iL xs:=λ_=>
 ⟨(w:Nat),0,rfl,sZ,λi x b j u a=>by
  cases j with
  |zero=>
   have e:u=cI cY x:=by simpa[iL]using a.symm
   rw[World.cell?_alloc_mark,e];simp[b]
  |succ n=>simp[iL]at a⟩
theorem vG{b:Nat}{a:List UInt8}(h:iZ w b v a W)(xs:List Int)(m:cQ xs)(k:a.length+xs.length<=1000000):cN cM 259 #[cF b,cC W xs.length xs.length] (W.alloc (cE (xs.map λn=>fW cY n).toArray 3)) λe w'=>e=cG (fu #[])/\iZ w b v (a++ac xs) w':=by
 obtain⟨v1,c,f,g⟩:=h;have d:cD W W (W.alloc (cE (xs.map λn=>fW cY n).toArray 3)):=bZ;refine(WZ (c.below d) (va:=cC W xs.length xs.length) (l:=xs) ⟨_,_,rfl,alb W xs,by unfold ga;omega⟩ (λi hi j=>?_) m k).mono ?_
 .have e:(W:Nat)=i:=by simpa[fy]using hi
  have:=c.foot j;omega
 .rintro e w'⟨rfl,o⟩;exact⟨rfl,eC (f.trans (aL.bQ d)) g o⟩
theorem BD{b:Nat}{a:List UInt8}(h:iZ w b v a W)(x y z:Int)(p:cQ [x,y,z])(o:a.length+3<=1000000):cN cM 285 #[cF b,ft #[x,y,z]] W λe w'=>e=cG (fu #[])/\iZ w b v (a++ac [x,y,z]) w':=by
 obtain⟨v1,c,l,m⟩:=h;have d:cD W W (W.alloc (cE #[x,y,z] 40)):=bZ;have hi:ISl (W.alloc (cE #[x,y,z] 40)) (cC W 3 3) [x,y,z]:=vI sZ (by simp[go_sem]) (by simp[go_sem]) (by simp[go_sem]);have k:=qZ (WZ (c.below d) hi (λi hi n=>by
  have e:(W:Nat)=i:=by simpa[fy]using hi
  have:=c.foot n;omega) p (by simpa using o))
 have g:=qZ (l.trans (aL.bQ d));have f:=qZ m;go_enter func285,ntmps285;go_wp2_with fail;refine k.out.mono ?_;rintro e s⟨rfl,r⟩;have j:=qZ (eC g f r);go_wp2_with fail
 go_end0
 exact⟨rfl,j⟩
theorem iZ.bV{b:Nat}{l:List UInt8}(h:iZ w b v l W){t:gd}(c:Blk w g t cs)(a:¬oP b v g):Blk W g t cs:=by obtain⟨_,_,k,_⟩:=h;exact c.bA k a
theorem iZ.len{b:Nat}{l a:List UInt8}(h:iZ w b v l W)(e:l=a):iZ w b v a W:=e▸h
theorem ahg{b:Nat}{k:List UInt8}(h:iZ w b v k W)(g:Ord.P)(m:cQ (pO g))(ai:k.length+20<=1000000):cN cM 261 #[cF b,dV g] W λe w'=>e=cG (fu #[])/\iZ w b v (k++ac (pO g)) w':=by
 obtain⟨v1,F,ab,ad⟩:=h;obtain⟨id,f,c,⟨x,y,z⟩,run,aP,d,ag,af⟩:=g;have Y:cQ [id,f,c]:=λn j=>m n (by simp[pO]at j⊢;omega);have Z:cQ [x,y,z]:=λn j=>m n (by simp[pO,mH]at j⊢;omega);have aa:cQ [run,aP,d]:=λn j=>m n (by simp[pO]at j⊢;omega);have J:=qY (((k++ac [id,f,c])++ac [x,y,z])++ac [run,aP,d]=k++ac (pO ⟨id,f,c,⟨x,y,z⟩,run,aP,d,ag,af⟩)) (by rw[bM,bM];rfl);simp only[dV,gK];obtain⟨r,l⟩:=nQ (W.alloc (cE #[id,f,c,x,y,z,run,aP,d] 42));have H:=aB l;have ah:=aX l;have A:=qY (¬oP b v1 (W:Nat)) (λae=>by have:=F.foot ae;omega);have i:=qZ ah;have O:=qZ (iZ.refl (F.below H));have I:=qZ (ab.trans (aL.bQ H));have K:=qZ ad;have L:=qZ Y;have M:=qZ Z;have N:=qZ aa;go_enter func261,ntmps261;go_upto_region 1 with fail;rw[l.out];obtain⟨aj,p1,p2⟩:CI r W 0 id/\CI r W 1 f/\CI r W 2 c:=⟨i.cell 0,i.cell 1,i.cell 2⟩;go_wp2_with fail;refine(vG O [id,f,c] L (by simp;omega)).mono ?_;rintro e o⟨rfl,a⟩;have Q:=qZ a;have s:=a.bV i A;obtain⟨p3,p4,ak⟩:CI o W 3 x/\CI o W 4 y/\CI o W 5 z:=⟨s.cell 3,s.cell 4,s.cell 5⟩;go_wp2_with fail;refine(BD Q x y z M (by simp[iX];omega)).mono ?_;rintro e p⟨rfl,a⟩;have T:=qZ a;have u:=a.bV i A;obtain⟨p6,al,am⟩:CI p W 6 run/\CI p W 7 aP/\CI p W 8 d:=⟨u.cell 6,u.cell 7,u.cell 8⟩;go_wp2_with fail;refine(vG T [run,aP,d] N (by simp[iX];omega)).mono ?_;rintro e an⟨rfl,a⟩;have X:=qZ (eC I K (a.len J));go_wp2_with fail
 go_end0
 exact⟨rfl,X⟩
theorem iZ.under{b:Nat}{l:List UInt8}(h:iZ w b v l W)(a:cD w0 w0 w)(c:∀i,oP b v i->(w0:Nat)<=i):cD w0 w0 W:=by obtain⟨_,_,k,_⟩:=h;exact a.trans (k.below a.size c)
theorem vH{a b:List Int}(h:cQ b)(hs:∀x∈a,x∈b):cQ a:=λn c=>h n (hs n c)
theorem EG(n:lN):(lK n).length=11:=rfl
theorem EH(n:iI):(oN n).length=6:=rfl
theorem rE{α:Type}(f:α->List Int)(m:Nat)(a:∀x,(f x).length=m):∀l:List α,(l.flatMap f).length=m*l.length
 |[]=>sZ
 |x::t=>by rw[dA,aW,a,rE f m a t,cJ,Nat.mul_succ,jT]
theorem TF{α:Type}(f:α->List Int)(l:List α)(a:k<l.length):(l.take (k+1)).flatMap f=(l.take k).flatMap f++f l[k]:=by rw[bE a,jQ];simp
theorem YL(h:cQ (qM c)):cQ [(c.aN.length:Int)]/\(∀x∈c.aN,cQ (lK x))/\cQ [(c.aR.length:Int)]/\(∀x∈c.aR,cQ (oN x))/\cQ [c.aG,c.aJ]:=by
 refine⟨vH h (by simp[qM]),λx b=>vH h λn a=>?_,vH h (by simp[qM]),λx b=>vH h λn a=>?_,vH h (by simp[qM])⟩
 .unfold qM;exact bK _ (dY _ (jC.2 ⟨x,b,a⟩))
 .unfold qM;exact bK _ (gL _ (bK _ (dY _ (jC.2 ⟨x,b,a⟩))))
theorem adb{b:Nat}{j:List UInt8}(h:wB W b v j)(bp:cD w0 w0 W)(cn:∀i,oP b v i->(w0:Nat)<=i){b3:cL}(co:bW w0 b3 c)(cr:cQ (qM c))(cz:j.length<=1000)(br:c.aN.length<=12)(bq:c.aR.length<=24):cN cM 260 #[cF b,b3] W λe w'=>e=cG (fu #[])/\iZ W b v (j++ac (qM c)) w':=by
 obtain⟨bk,bl,bm,bn,bo⟩:=YL cr;obtain⟨v1,v2,rfl,⟨A,ca,rfl,bs,_⟩,⟨B,aw,rfl,bt,_⟩⟩:=co;obtain⟨f,hs,aG,aJ⟩:=c;simp only at bs bt bk bl bm bn bo br bq⊢;have b4:=qZ bs;have b5:=qZ bt;have be:=qZ bk;have b9:=qZ bl;have bf:=qZ bm;have cb:=qZ bn;have cc:=qZ bo;have bh:=qZ (λk=>show((f.take k).flatMap lK).length<=132 from by rw[rE _ 11 EG,bN];omega);have bg:=qZ (λk=>show((hs.take k).flatMap oN).length<=144 from by rw[rE _ 6 EH,bN];omega);have b7:=qZ (λk (ab:f.length<=k)=>dB (List.flatMap lK) (aU ab));have b6:=qZ (λk (ab:hs.length<=k)=>dB (List.flatMap oN) (aU ab));have af:=qY (((((j++ac [(f.length:Int)])++ac (f.flatMap lK))++ac [(hs.length:Int)])++ac (hs.flatMap oN))++ac [aG,aJ]=j++ac (qM ⟨f,hs,aG,aJ⟩)) (by simp only[qM,dE,IX,bM];rfl);obtain⟨N,an⟩:=nQ f.length;obtain⟨M,am⟩:=nQ hs.length;rw[an.out]at br be af⊢;rw[am.out]at bq bf af⊢;obtain⟨bc,ar⟩:=nQ (W.alloc (cE #[cC A N ca,cC B M aw,aG,aJ] 26));have ax:=aB ar;have cw:=aX ar;have ag:=qY (¬oP b v (W:Nat)) (λg=>by have:=h.foot g;omega);have Z:=qZ cw;have ce:=qZ (iZ.refl (h.below ax));have b8:=qZ (aL.bQ (F:=oP b v) ax);have bj:=qZ (bp.trans (ax.mono bp.size));have bd:=qZ cn;go_enter func260,ntmps260;go_upto_region 1 with fail;rw[ar.out];have L:CV bc W 0 (cC A N ca):=Z.cell 0;go_wp2_with fail;refine(vG ce [(N:Int)] be (by simp;omega)).mono ?_;rintro e w1⟨rfl,d⟩;have cg:=qZ d;have dc:CV w1 W 0 (cC A N ca):=(d.bV Z ag).cell 0;go_wp2_with fail;go_loopg[17] N (λcl ba wr=>∃k:Nat,ba=cI cY k/\k<=N/\N<=cl+k/\Hid (iZ bc b v ((j++ac [(N:Int)])++ac ((f.take k).flatMap lK)) wr));exact⟨0,mZ,oZ,oZ,qZ (by have:=cg.out;simpa[ac]using this)⟩
 obtain⟨k,rfl,ab,cx,l⟩:=hrel;by_cases az:k<N
 .have ct:(k:Int)<(N:Int):=oZ;have u:k<f.length:=by rw[an.out];exact az
  obtain⟨ck,cu,rfl,cs,ay⟩:=nE b4 u;have a9:=ay wr (l.under bj bd);have m:=b9.out _ (bD u);have aq:=qZ (TF lK f u);have H:=qZ (bh k);generalize f[k]=x at*;obtain⟨p,Q,⟨a0,a1,a2⟩,⟨I,b1,b2⟩,⟨K,c1,c2⟩⟩:=x;obtain⟨L,p1,p2,p3,p4,ae,p6,bw,bz,b0,bv⟩:=a9;simp only at L p1 p2 p3 p4 ae p6 bw bz b0 bv;have au:=qZ (vH (a:=[p+1,Q]) m (by simp[lK]));have av:=qZ (vH (a:=[a0,a1,a2]) m (by simp[lK,mH]));have ci:=qZ (vH (a:=[I,b1,b2]) m (by simp[lK,mH]));have cj:=qZ (vH (a:=[K,c1,c2]) m (by simp[lK,mH]));have da:=m (p+1) (by simp[lK]);have db:IntKind.i64.wrap (p+1)=p+1:=by simp only[IntKind.wrap,IntKind.bits,IntKind.signed];simp;omega
  obtain⟨z,w⟩:=nZ ((j++ac [(N:Int)])++ac ((f.take k).flatMap lK));have cq:z.length<=2000:=by rw[<-w];have:=H.out;simp only[aW,iX,cJ,cU];omega
  have al:=qY ((((z++ac [p+1,Q])++ac [a0,a1,a2])++ac [I,b1,b2])++ac [K,c1,c2]=(j++ac [(N:Int)])++ac ((f.take (k+1)).flatMap lK)) (by rw[aq.out,dE,<-bM,w];simp only[bM];rfl);rw[w]at l;obtain⟨vr,ad,a5,a8⟩:=l.out;obtain⟨o,r⟩:=nQ (wr.alloc (cE #[p,Q,a0,a1,a2,I,b1,b2,K,c1,c2] 66));have aa:=aB r;have s:=qY (Blk o wr 66 #[p,Q,a0,a1,a2,I,b1,b2,K,c1,c2]) (by rw[<-r.out];exact cP _ _ _);have T:=qY (¬oP b vr (wr:Nat)) (λg=>by have:=ad.foot g;omega);have ap:=qZ (iZ.refl (ad.below aa));have ak:=qZ (a5.trans (aL.bQ aa));have aj:=qZ a8;clear w;go_upto_region 5 with fail;rw[r.out];have x:=s.out;have L:CI o wr 0 p:=x.cell 0;have p1:CI o wr 1 Q:=x.cell 1;go_wp2_with fail;refine(vG ap [p+1,Q] au (by simp;omega)).mono ?_;rintro e n⟨rfl,d⟩;have x:=d.bV s T;have ao:=qZ d;obtain⟨p2,p3,p4⟩:CI n wr 2 a0/\CI n wr 3 a1/\CI n wr 4 a2:=⟨x.cell 2,x.cell 3,x.cell 4⟩;go_wp2_with fail;refine(BD ao a0 a1 a2 av (by simp[iX];omega)).mono ?_;rintro e ai⟨rfl,d⟩;have x:=d.bV s T;have X:=qZ d;obtain⟨ae,p6,bw⟩:CI ai wr 5 I/\CI ai wr 6 b1/\CI ai wr 7 b2:=⟨x.cell 5,x.cell 6,x.cell 7⟩;go_wp2_with fail;refine(BD X I b1 b2 ci (by simp[iX];omega)).mono ?_;rintro e bb⟨rfl,d⟩;have x:=d.bV s T;have ch:=qZ d;obtain⟨bz,b0,bv⟩:CI bb wr 8 K/\CI bb wr 9 c1/\CI bb wr 10 c2:=⟨x.cell 8,x.cell 9,x.cell 10⟩;go_wp2_with fail;refine(BD ch K c1 c2 cj (by simp[iX];omega)).mono ?_;rintro e de⟨rfl,d⟩;have Y:=qZ (eC ak aj (d.len al));go_wp2_with fail;go_roundg(N-(k+1));exact⟨k+1,mZ,oZ,oZ,Y⟩;omega
 .have cp:¬(k:Int)<(N:Int):=oZ;have y:=l.out;have g:=b7.out k (by rw[an.out];omega);rw[g]at y;have bi:=qZ y;have x:=y.bV Z ag;have H:=qY (((j++ac [(N:Int)])++ac (f.flatMap lK)).length<=2000) (by have:=bh.out k;rw[g]at this;simp only[aW,iX,cJ,cU];omega);have p1:CV wr W 1 (cC B M aw):=x.cell 1;obtain⟨z,w⟩:=nZ ((j++ac [(N:Int)])++ac (f.flatMap lK));rw[w]at bi af H;have c0:=H.out;clear w;go_wp2_with fail;refine(vG bi [(M:Int)] bf (by simp;omega)).mono ?_;rintro e cv⟨rfl,d⟩;have ao:=qZ d;have dd:CV cv W 1 (cC B M aw):=(d.bV Z ag).cell 1;go_wp2_with fail;go_loopg[51] M (λcm ba wr=>∃k:Nat,ba=cI cY k/\k<=M/\M<=cm+k/\Hid (iZ bc b v ((z++ac [(M:Int)])++ac ((hs.take k).flatMap oN)) wr));exact⟨0,mZ,oZ,oZ,qZ (by have:=ao.out;simpa[ac]using this)⟩
  obtain⟨k,rfl,ab,cy,l⟩:=hrel;by_cases az:k<M
  .have ct:(k:Int)<(M:Int):=oZ;have u:k<hs.length:=by rw[am.out];exact az
   obtain⟨ck,cu,rfl,cs,ay⟩:=qX b5 u;have a9:=ay wr (l.under bj bd);have m:=cb.out _ (bD u);have aq:=qZ (TF oN hs u);have H:=qZ (bg k);generalize hs[k]=x at*;obtain⟨fl,J,O,⟨a0,a1,a2⟩⟩:=x;obtain⟨L,p1,p2,p3,p4,ae⟩:=a9;simp only at L p1 p2 p3 p4 ae;have au:=qZ (vH (a:=[fl,J,O]) m (by simp[oN]));have av:=qZ (vH (a:=[a0,a1,a2]) m (by simp[oN,mH]));obtain⟨bu,ah⟩:=nZ ((z++ac [(M:Int)])++ac ((hs.take k).flatMap oN));have cq:bu.length<=4000:=by rw[<-ah];have:=H.out;simp only[aW,iX,cJ,cU];omega
   have al:=qY ((bu++ac [fl,J,O])++ac [a0,a1,a2]=(z++ac [(M:Int)])++ac ((hs.take (k+1)).flatMap oN)) (by rw[aq.out,dE,<-bM,ah];simp only[bM];rfl);rw[ah]at l;obtain⟨vr,ad,a5,a8⟩:=l.out;obtain⟨o,r⟩:=nQ (wr.alloc (cE #[fl,J,O,a0,a1,a2] 131));have aa:=aB r;have s:=qY (Blk o wr 131 #[fl,J,O,a0,a1,a2]) (by rw[<-r.out];exact cP _ _ _);have T:=qY (¬oP b vr (wr:Nat)) (λg=>by have:=ad.foot g;omega);have ap:=qZ (iZ.refl (ad.below aa));have ak:=qZ (a5.trans (aL.bQ aa));have aj:=qZ a8;clear ah;go_upto_region 14 with fail;rw[r.out];have x:=s.out;obtain⟨L,p1,p2⟩:CI o wr 0 fl/\CI o wr 1 J/\CI o wr 2 O:=⟨x.cell 0,x.cell 1,x.cell 2⟩;go_wp2_with fail;refine(vG ap [fl,J,O] au (by simp;omega)).mono ?_;rintro e n⟨rfl,d⟩;have x:=d.bV s T;have X:=qZ d;obtain⟨p3,p4,ae⟩:CI n wr 3 a0/\CI n wr 4 a1/\CI n wr 5 a2:=⟨x.cell 3,x.cell 4,x.cell 5⟩;go_wp2_with fail;refine(BD X a0 a1 a2 av (by simp[iX];omega)).mono ?_;rintro e ai⟨rfl,d⟩;have Y:=qZ (eC ak aj (d.len al));go_wp2_with fail;go_roundg(M-(k+1));exact⟨k+1,mZ,oZ,oZ,Y⟩;omega
  .have cp:¬(k:Int)<(M:Int):=oZ;have y:=l.out;have g:=b6.out k (by rw[am.out];omega);rw[g]at y;have X:=qZ y;have x:=y.bV Z ag;have cd:=qY (((z++ac [(M:Int)])++ac (hs.flatMap oN)).length<=4000) (by have:=bg.out k;rw[g]at this;simp only[aW,iX,cJ,cU];omega);obtain⟨p2,p3⟩:CI wr W 2 aG/\CI wr W 3 aJ:=⟨x.cell 2,x.cell 3⟩;go_wp2_with fail;refine(vG X [aG,aJ] cc (by have:=cd.out;simp only[cJ,cU];omega)).mono ?_;rintro e n⟨rfl,d⟩;have Y:=qZ (eC b8 (λi hi=>.inl hi) (d.len af));go_wp2_with fail
   go_end0
   exact⟨rfl,Y⟩
end bT
variable{f:Int}
namespace Top
theorem VQ{k:Int}(a:0<=k/\k<=1048576)(b:n<=16):wX k (n:Int)=k*(n:Int):=by
 have h:0<=k*(n:Int)/\k*(n:Int)<=1048576*16:=
  ⟨kR a.1 oZ,Int.mul_le_mul a.2 oZ oZ oZ⟩
 unfold wX Vec.cut;rw[show min (max k (-1099511627776)) 1099511627776=k by omega,show min (max (n:Int) (-1048576)) 1048576=(n:Int) by omega];omega
theorem OX{k r:Int}(d:0<=k)(c:k<=f)(n:Nat):(n:Int)<iT r f k↔(n:Int)<r/\k*((n+1:Nat):Int)<=f:=by
 unfold iT;by_cases h:0<k
 .rw[aI h];have:=Int.le_ediv_iff_mul_le (a:=((n+1:Nat):Int)) (b:=f) h;rw[Int.mul_comm]at this;rw[<-this];omega
 .have e:k=0:=oZ;subst e;rw[aF h,Int.zero_mul];omega
theorem anH{f k:dT}(a:lU k=eK)(e:n<16):(fz (fL k ((n+1:Nat):Int)) f&&fz k f)=decide ((n:Int)<gj f k):=by
 rw[pR]at a;obtain⟨b,c,d⟩:=a;unfold gj;by_cases h:fz k f=eK
 .rw[aI h,h,Bool.and_true];rw[yR]at h;rw[Bool.eq_iff_iff,yR,eT,OX d.1 h.2.2,OX c.1 h.2.1,OX b.1 h.1];simp only[fL];rw[VQ b (n:=n+1) oZ,VQ c (n:=n+1) oZ,VQ d (n:=n+1) oZ];omega
 .rw[aF h,iD.2 h,Bool.and_false];symm;rw[decide_eq_false_iff_not];omega
theorem XT(f k:dT):gj f k<=16:=by
 have h:∀r f k:Int,iT r f k<=r:=λr f k=>by unfold iT;split<;>omega
 unfold gj;split
 .have a:=h 16 f.x k.x;have b:=h (iT 16 f.x k.x) f.y k.y;have c:=h (iT (iT 16 f.x k.x) f.y k.y) f.z k.z;omega
 .omega
theorem XR{f k:dT}(a:lU k=eK):0<=gj f k:=by
 rw[pR]at a;have h:∀r f k:Int,0<=r->0<=k->k<=f->0<=iT r f k:=λr f k b c d=>by
  unfold iT;split
  .have:0<=f/k:=Int.ediv_nonneg oZ c;omega
  .exact b
 unfold gj;split
 next e=>
  rw[yR]at e;exact h _ _ _ (h _ _ _ (h _ _ _ oZ a.1.1 e.1) a.2.1.1 e.2.1) a.2.2.1 e.2.2
 next=>omega
end Top
namespace bT
open Go.RowKit L bO eO Srt
theorem ahV(f k:dT)(O:lU k=eK):eP cM 130 #[f.val,k.val] (cI cY (gp f k)):=by
 intro w;have J:=qZ (λn (ae:n<16)=>anH (f:=f) O ae);have N:=λn:Int=>gT.aev k n;have H:=gT.SS k f;have M:=λn:Int=>gT.SS (fL k n) f;obtain⟨r,Q⟩:=nZ (gp f k);have ar:=XR (f:=f) O;have au:=XT f k;rw[Q]at J ar au⊢;have al:∃b,fz k f=b:=⟨_,rfl⟩;obtain⟨b2,aa⟩:=al;rw[aa]at J H;obtain⟨g,i,j⟩:=f;obtain⟨o,p,s⟩:=k;simp only[eE]at N H M⊢;obtain⟨A,z⟩:=nZ ((w.alloc (cE #[g,i,j] 40)).alloc (cE #[o,p,s] 40));have ab:cD w w A:=by rw[<-z];exact kp
 have ag:Blk A w 40 #[g,i,j]:=by rw[<-z];exact(cP w 40 #[g,i,j]).alloc _
 have ah:Blk A ((w:Nat)+1) 40 #[o,p,s]:=by rw[<-z];have h:=cP (w.alloc (cE #[g,i,j] 40)) 40 #[o,p,s];simp only[aT]at h;exact h
 have X:=qZ ag;have Y:=qZ ah;have am:=qZ ab;have ap:=qZ z;have ak:=qZ N;have ai:=qZ H;have aj:=qZ M;clear z ab ag ah N H M Q aa O;go_enter func130,ntmps130;go_upto_region 1 with fail;rw[ap.out];go_wp2_with fail;go_loopg[5] 16 (λc av wr=>∃n:Nat,av=cI cY n/\n<=16/\16<=c+n/\(n:Int)<=r/\Hid (cD A A wr));exact⟨0,mZ,oZ,oZ,oZ,qZ (aK _ _)⟩
 obtain⟨n,rfl,ae,ax,a5,F⟩:=hrel;have I:Hid (∀W,aD wr W->(n:Int)=r->(Ending.returned (cI cY (n:Int))=cG r/\cD w w W)):=qZ (λW a e=>⟨by rw[e],aA am (aA F a)⟩);by_cases ad:n<16
 .have az:(n:Int)<16:=oZ;have l:=J.out n ad;have T:IntKind.i64.wrap ((n:Int)+1)=((n+1:Nat):Int):=by rw[IntKind.wrap_i64];omega
  have c:=ak.out ((n+1:Nat):Int);have d:=aj.out ((n+1:Nat):Int);obtain⟨b1,Z⟩:=nZ (fz (fL ⟨o,p,s⟩ ((n+1:Nat):Int)) ⟨g,i,j⟩);rw[Z]at d l;obtain⟨y,af⟩:=nZ (fL ⟨o,p,s⟩ ((n+1:Nat):Int));rw[af]at c d;clear Z af;obtain⟨m,aq⟩:=nZ (n+1);rw[aq]at T c;obtain⟨a8,a9,ba⟩:=y;simp only at c d;have x:=ai.out;have K:=qY (∀W,aD wr W->Blk W w 40 #[g,i,j]) (λW a=>X.below (aA F a) X.out.lt);have L:=qY (∀W,aD wr W->Blk W ((w:Nat)+1) 40 #[o,p,s]) (λW a=>Y.below (aA F a) Y.out.lt);have a0:∀W,aD wr W->CI W w 0 g/\CI W w 1 i/\CI W w 2 j/\CI W ((w:Nat)+1) 0 o/\CI W ((w:Nat)+1) 1 p/\CI W ((w:Nat)+1) 2 s:=λW a=>⟨(K W a).cell 0,(K W a).cell 1,(K W a).cell 2,(L W a).cell 0,(L W a).cell 1,(L W a).cell 2⟩;cases b1
  .have v:=qY ((n:Int)=r) (by have:=l.symm;simp at this;omega);clear l;go_wp2_with fail;refine kK ?_;(repeat refine kY ?_);refine kJ c ?_;(repeat refine kY ?_);refine kJ d ?_;(repeat first|(refine kY ?_)|(refine kN ?_));refine dP ?_;intro W a;have u:=qZ (I W a v);clear a0 c d x a T;go_wp2_with fail;go_ret;exact u
  .cases b2
   .have v:=qY ((n:Int)=r) (by have:=l.symm;simp at this;omega);clear l;go_wp2_with fail;refine kK ?_;(repeat refine kY ?_);refine kJ c ?_;(repeat refine kY ?_);refine kJ d ?_;(repeat refine kY ?_);refine kJ x ?_;(repeat refine kY ?_);refine dP ?_;intro W a;have u:=qZ (I W a v);clear a0 c d x a T;go_wp2_with fail;go_ret;exact u
   .have v:=qY ((m:Int)<=r) (by have:=l.symm;simp at this;omega);clear l;go_wp2_with fail;refine kK ?_;(repeat refine kY ?_);refine kJ c ?_;(repeat refine kY ?_);refine kJ d ?_;(repeat refine kY ?_);refine kJ x ?_;(repeat refine kY ?_);refine dP ?_;intro W a;have u:=qZ (aA F a);clear a0 c d x a;go_wp2_with fail;go_roundg(16-m);exact⟨m,mZ,oZ,oZ,v,u⟩;omega
 .have ay:decide ((n:Int)<16)=eI:=dS oZ;have ao:=qY ((n:Int)=r) (by omega);clear ad;go_wp2_with fail;refine kK ?_;(repeat first|(refine kY ?_)|(refine kN ?_));refine dP ?_;intro W a;have an:=qZ (I W a ao);clear a;go_wp2_with fail;go_ret;exact an
end bT
end Go.Proofs.YtedmeglbjmdlhaaGreatDoor
