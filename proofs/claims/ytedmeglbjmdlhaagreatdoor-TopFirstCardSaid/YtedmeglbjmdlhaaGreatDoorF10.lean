/-
Parts of TopFirst.
-/
import Derived.Test.YtedmeglbjmdlhaaGreatDoorF8
import Derived.Sort.OwnSortedInts
set_option maxRecDepth 100000
set_option maxHeartbeats 16000000
set_option linter.all false
open Go.Proofs.Tryz
namespace Go.Proofs.YtedmeglbjmdlhaaGreatDoor
open Go.Value renaming slice->ac,int->cF,int->cQ,agg->cS,pointer->cU,bool->eu,tuple->ey,pointer->e5,ownBlock->fx
open Option renaming some->cA,none->cL,getD_some->ft
open Go.RowKit renaming Below->cC
open Go.IntKind renaming i64->cD,wrap_i64->eE
open Go.Obj renaming cells->cE
open Go.Proofs.Tryz renaming prog->cG,underlying27->cW,underlying36->dE,zeroValue4->ew,sizeOf4->eJ,underlying4->eR,isAgg4->eS,ntmps49->fg,func49->fu
open Go renaming World->cH,Value->cN,Calls->cP,undef->cV,maxLen->cX,info_parts->dT,bodyPost_ret->eA,wp_loop_rounds->eN,TypeId->eV,Ending->eW,rounds_succ->e9,Addr->fw,part->fz,results_none->fL,TypeInfo->fW,Program->ga,sizeOf->gb
open Bool renaming false->cI,true->cM,and_assoc->eQ,true_and->ff
open Go.Ending renaming returned->cJ
open List renaming replicate->cR,mem_of_mem_take->fc,all_append->fv
open Go.Proofs.SlLaysE0 renaming n41->cT
open Ord renaming P->cY,cmp->fo
open L.Blk renaming new->dC,lt->fi,alloc->fy
open Vec renaming V->ez,sub->fq,dX->gd
open Go.Shelf renaming Ren->eC
open Go.Builtin renaming append_->eI,copy_->fe
open Top renaming dR->eK,iJ->fj,room->fN,find->fX,used->gf,free->gh,ends->gi,R->gj
open Int renaming reduceEq->eL
open Go.Op renaming equalIn->eM
open Go.Result renaming andThen_ok->e0
open Go.Instr renaming slice->e8,sliceBounds->fm,sliceBound->fr
open Hst renaming lY->fb,free->gg,one->gl
open Go
open Cfg L Led Ord Quo Srt Top Vec bO bT eO gT rM
variable{c:Cfg.C}{h:List Nat}{g:Nat}{v1 v2 vp vr:cN}{w w0:cH}
variable{ps:List cY}{m:Nat}{A:Option fw}{p:cY}{v:cN}{W:cH}
namespace Srt
open Go.RowKit Go.Sort L bO eO
abbrev PO:Type:={p:cY//POk p}
instance:Inhabited PO:=⟨⟨⟨0,0,0,⟨0,0,0⟩,0,0,0,0,0⟩,by unfold POk InI;decide⟩⟩
def pE(x:PO):List cN:=(eF x.1).toList
theorem IV(x:PO):(pE x).length=11:=rfl
theorem acp(x:PO):∀v∈pE x,v.oneCell'=cM:=by intro v hv;simp only[pE,eF,bH,dL,or_false]at hv;rcases hv with rfl|rfl|rfl|rfl|rfl|rfl|rfl|rfl|rfl|rfl|rfl<;>rfl
theorem pk:PK cG 11 where
 mixed:=by kernel_rfl
 t3:=underlying3
 a3:=Tryz.isAgg3
 z3:=Tryz.sizeOf3
 v3:=Tryz.zeroValue3
 t4:=eR
 a4:=eS
 z4:=eJ
 v4:=ew
 t49:=cW
 a49:=Tryz.isAgg27
 z49:=Tryz.sizeOf27
 v49:=Tryz.zeroValue27
 tu:=underlying123
 au:=Tryz.isAgg123
 zu:=Tryz.sizeOf123
 aE:=Tryz.isAgg44
 zE:=Tryz.sizeOf44
theorem abH:∀ps:List cY,(∀p∈ps,POk p)->∃qs:List PO,qs.map (·.1)=ps
 |[],_=>⟨[],rfl⟩
 |p::ps,h=>by obtain⟨qs,a⟩:=abH ps (λx b=>h x (bK _ b));exact⟨⟨p,h p (bJ ..)⟩::qs,by simp[a]⟩
theorem agd{b o:Nat}{qs:List PO}(h:gF w (cA ⟨b,o,cL⟩) 11 (λp=>(eF p).toList) (qs.map (·.1))):∀j u,(flatK pE 11 qs.toArray).toList[j]? =cA u->w.cell? ⟨b,o+j,cL⟩=cA u:=by
 intro j u a;have c:j<qs.length*11:=by have:=(bF.1 a).1;simpa using this
 have i:qs.map (·.1)≠[]:=λe=>by rw[oD.1 e]at c;exact absurd c sZ
 obtain⟨m,r,e,n,f⟩:=h i;cases e;have d:j/11<qs.length:=oZ;have l:(qs.map (·.1))[j/11]? =cA (qs[j/11]).1:=by simp[d]
 have k:u=(pE qs[j/11])[j%11]! :=by have:=get_flatK pE 11 qs.toArray j (by simpa using c);rw[dF]at a;rw[bX _ j (by simpa using c)]at this;rw[bY (by simpa using c)]at a;injection a with a;rw[<-a,this];simp[d]
 have g:(pE qs[j/11])[j%11]? =cA u:=by rw[k,aH (by rw[IV];omega),bX _ _ (by rw[IV];omega)]
 have:=f (j/11) _ l (j%11) u g;rw[show o+j/11*11+j%11=o+j by omega]at this;exact this
theorem aiZ{n cap:Nat}{e:eV}{cur:Array cN}{d:Array PO}(h:w.heap[g]? =cA (cE cur e (0,0)))(f:cur.toList.take (d.size*11)=(flatK pE 11 d).toList)(i:d.size*11<=cur.size):HoldsK pE 11 w g 0 d:=λj a=>by
 have c:j<d.size*11:=by simpa using a
 have b:Blk w g e cur:=h;have e1:cur[j]? =cA (flatK pE 11 d)[j]! :=by
  rw[bX _ j a];have:(flatK pE 11 d).toList[j]? =cA (flatK pE 11 d)[j]:=by rw[dF,bY a]
  rw[<-f,dU,aI c,dF]at this;exact this
 exact⟨by rw[aO,b.cell,e1];rfl,by rw[aO];exact b.frozen j⟩
theorem pinfo:(prog.info? 44).map (λi=>(i.zero,i.size,i.bytes))=cA (cA (cS #[(),(),(),(),(),(),(),(),(),(),()]),11,88):=by kernel_rfl
theorem ajJ(a:fw)(n c:Nat)(b:List cN)(p:b.length=n*11)(z:n<=1048576)(i:∀j u,b[j]? =cA u->w.cell? (a.add j)=cA u)(g:∀u∈b,u.oneCell'=cM):cP cG 77 #[ac (cA a) n c] w λe w'=>∃v',e=cJ v'/\w'.ownsRow (w:Nat) 44 11 v' n b/\v'≠ac cL 0 0/\cC w w w':=by
 obtain⟨i0,hi,v,x,y⟩:=dT pinfo;have F:∀(w:cH) (a:Option fw) (n c f d:Nat),(binOp .eql 27 (ac a n c) (ac cL f d)).run cG w=.ok (eu a.isNone) w:=λw a n c f d=>Lib.run_eql_slice_nil w _ _ a n c f d cW;have A:=qZ i;go_enter func77,ntmps77;go_wp2_with(at_builtin;refine wpList_append_own _ rfl _ _ 27 rfl (w:Nat) 44 i0 _ 11 88 cW hi v x y rfl oZ _ _ _ rfl (World.ownsRow_made w #[] 0 lZ (bI _) sZ) a n c b rfl ?qc1 ?qc2 ?qc3 ?qc4 ?qc5 ?qc6 ?_);case qc1=>exact p
 case qc2=>intro j u m;exact Lib.cell?_alloc_some _ (A j u m)
 case qc3=>exact g
 case qc4=>rw[aO];unfold cX;omega
 case qc5=>omega
 case qc6=>simp
 intro v' w1 s l r;go_wp2;go_ret;refine⟨v',rfl,by simpa using s,?_,?_⟩
 .exact r
 .exact((aK _ w).alloc lZ _).grown l sZ (by intro k o;simp[fx]at o;omega)
theorem ajI(n c:Nat)(w:cH):cP cG 77 #[ac cL n c] w λe w'=>e=cJ (ac cL 0 0)/\w'=w:=by have f:∀(w:cH) (a:Option fw) (n c d b:Nat),(binOp .eql 27 (ac a n c) (ac cL d b)).run cG w=.ok (eu a.isNone) w:=λw a n c d b=>Lib.run_eql_slice_nil w _ _ a n c d b cW;go_enter func77,ntmps77;go_wp2;go_ret;exact⟨rfl,rfl⟩
theorem alU{k:cN}{aQ next:Int}(hs:zQ w0 v1 v2 k c h)(Q:c.aN≠[])(O:MP c aQ){d j bV:Nat}(o:cC w0 w0 w)(f:wC w d v1 v2 c.aG c.aJ aQ next vp vr k)(N:w.cell? (j,0)=cA (.func (.func 80) #[] #[]))(u:j<(w:Nat))(I:(w0:Nat)<=bV)(am:bV≠j)(an:bV≠d):wW cG 82 #[cU j,cU d] pE (λx y=>fo c h aQ x.1 y.1) bV w:=by
 intro W g x y;have T:zQ W v1 v2 k c h:=hs.below (o.trans (g.below o.size λi hi=>by subst hi;exact I));have v:wC W d v1 v2 c.aG c.aJ aQ next vp vr k:=⟨aM f.lt g.size,(g.cell (p:=⟨d,0,cL⟩) f.lt (by show¬d=bV;omega)).trans f.c0,(g.cell (p:=⟨d,1,cL⟩) f.lt (by show¬d=bV;omega)).trans f.c1,(g.cell (p:=⟨d,2,cL⟩) f.lt (by show¬d=bV;omega)).trans f.c2,(g.cell (p:=⟨d,3,cL⟩) f.lt (by show¬d=bV;omega)).trans f.c3,(g.cell (p:=⟨d,4,cL⟩) f.lt (by show¬d=bV;omega)).trans f.c4,(g.cell (p:=⟨d,5,cL⟩) f.lt (by show¬d=bV;omega)).trans f.c5,(g.cell (p:=⟨d,6,cL⟩) f.lt (by show¬d=bV;omega)).trans f.c6,(g.cell (p:=⟨d,7,cL⟩) f.lt (by show¬d=bV;omega)).trans f.c7,(g.cell (p:=⟨d,8,cL⟩) f.lt (by show¬d=bV;omega)).trans f.c8⟩
 have ao:CV W j 0 (.func (.func 80) #[] #[]):=(g.cell (p:=⟨j,0,cL⟩) u (by show¬j=bV;omega)).trans N;have ap:j<(W:Nat):=aM u g.size;obtain⟨a,J⟩:=x;obtain⟨b,K⟩:=y;obtain⟨l,m⟩:=nZ ((W.alloc (cE (eF a) 44)).alloc (cE (eF b) 44));have Y:(l:Nat)=(W:Nat)+1+1:=by rw[<-m];simp
 have M:cC W W l:=by rw[<-m];have aq:(W.alloc (cE (eF a) 44)).heap.size=(W:Nat)+1:=sZ;exact kp
 have s:cC W W (l.alloc (cE #[v1,v2,c.aG,c.aJ,aQ,next,vp,vr,k] 150)):=M.alloc oZ _;have X:=wC.new l 150 v1 v2 c.aG c.aJ aQ next vp vr k
 have G:=qZ (adS (T.below s) Q O X a b J.1 K.1 _ (zZ _));have n:=qZ s;rw[Y]at G;show cP _ _ #[cS (eF a),cS (eF b),cU j,cU d] _ λe w'=>e=cJ (cF cD (fo c h aQ a b))/\aD W w';obtain⟨r,H⟩:=nQ (fo c h aQ a b);rw[H.out]at G⊢;obtain⟨aG,F⟩:=nQ c.aG;obtain⟨aJ,A⟩:=nQ c.aJ;rw[F.out,A.out]at G n v;obtain⟨au,av,aw,ax,ay,az,a5,a8,a9,ba⟩:=v;subst m;obtain⟨a0,a1,a2,⟨a3,a4,aa⟩,a6,a7,ab,ad,Z⟩:=a;obtain⟨ae,b1,b2,⟨b3,ag,ah⟩,ai,aj,ak,al,af⟩:=b;simp only[pE,eF]at*;go_enter func82,ntmps82;go_wp2_with fail;refine G.mono ?_;rintro e ar⟨rfl,L⟩;have z:=qZ (aA n L);go_wp2_with fail;go_ret;exact⟨rfl,z⟩
def fH(p:cY):List cN:=(eF p).toList
theorem pel:Elem fH 11:=⟨λ_=>rfl,λx u a=>by simp only[fH,eF,bH,dL,or_false]at a;rcases a with rfl|rfl|rfl|rfl|rfl|rfl|rfl|rfl|rfl|rfl|rfl<;>rfl⟩
theorem aik{α:Type}[Inhabited α]{f:α->α->Int}{l:List α}{x y:α}(h:y∈lH f l x):y∈l\/y=x:=by
 unfold lH at h;rw[dM,dM]at h;rcases h with h|h|h
 .exact .inl (fc h)
 .exact .inr (by simpa using h)
 .exact .inl (List.mem_of_mem_drop h)
theorem RX{α:Type}[Inhabited α]{f:α->α->Int}:∀(xs l:List α) (y:α),y∈xs.foldl (lH f) l->y∈l\/y∈xs
 |[],l,y,h=>.inl h
 |x::xs,l,y,h=>by
  rcases RX xs _ y h with h|h
  .rcases aik h with h|h
   .exact .inl h
   .exact .inr (by simp[h])
  .exact .inr (bK _ h)
theorem aix{b o:Nat}(h:∀j u,(fH p)[j]? =cA u->W.cell? ⟨b,o+j,cL⟩=cA u):W.cell? (b,o)=cA (cF cD p.id)/\W.cell? (b,o+1)=cA (cF cD p.dI)/\W.cell? (b,o+2)=cA (cF cD p.fG)/\W.cell? (b,o+3)=cA (cF cD p.need.x)/\W.cell? (b,o+4)=cA (cF cD p.need.y)/\W.cell? (b,o+5)=cA (cF cD p.need.z)/\W.cell? (b,o+6)=cA (cF cD p.run)/\W.cell? (b,o+7)=cA (cF cD p.aP)/\W.cell? (b,o+8)=cA (cF cD p.prefer)/\W.cell? (b,o+9)=cA (cF cD p.seq)/\W.cell? (b,o+10)=cA (cF cD p.since):=
 ⟨by have:=h 0 _ rfl;rwa [Nat.add_zero]at this,h 1 _ rfl,h 2 _ rfl,h 3 _ rfl,h 4 _ rfl,h 5 _ rfl,h 6 _ rfl,h 7 _ rfl,h 8 _ rfl,h 9 _ rfl,h 10 _ rfl⟩
theorem WR{wc:cH}(b:aD wc W){xs ys:List cY}(h:bL W wc 44 11 fH v xs){c:Nat}(i:gF W A 11 fH ys)(g:ys.length=m)(o:xs.length+m<=1048576):∃v' W',(eI #[27,27] 27 #[v,ac A m c]).run cG W=.ok v' W'/\bL W' wc 44 11 fH v' (xs++ys)/\aD wc W'/\(v.ownBlock=cL->aD W W'):=by obtain⟨i0,hi,j,l,n⟩:=dT pinfo;obtain⟨v',W',e,f,d,_,_⟩:=aoP 27 27 i0 _ 88 cW hi j l n rfl oZ pel h g i b.size (by unfold cX;omega) oZ (c:=c);refine⟨v',W',e,f,Below.grown b d b.size λk a=>(h.lt k a).1,λhv=>Below.grown (aK _ _) d lZ (λk a=>by rw[hv]at a;cases a)⟩
theorem ahU{Q:cN}{aQ next:Int}(hs:zQ w v1 v2 Q c h)(cb:MP c aQ)(dg:PSl w vp ps)(dd:ps.length<=1000000):cP cG 10 #[cS #[v1,v2,c.aG,c.aJ,aQ,next,vp,vr,Q]] w λe w'=>∃v,e=cJ v/\bL w' w 44 11 fH v (tJ (fo c h aQ) ps)/\cC w w w':=by
 obtain⟨i0,hi,cm,cn,co⟩:=dT pinfo;have au:=qZ (aC hi (aC cm (aC cn co)));obtain⟨A,cap,rfl,de,dm,cg,cc⟩:=dg;have ah:=wC.new w 31 v1 v2 c.aG c.aJ aQ next (ac A ps.length cap) vr Q
 have ag:cC w w (w.alloc (cE #[v1,v2,c.aG,c.aJ,aQ,next,ac A ps.length cap,vr,Q] 31)):=bZ;have be:=qZ (cg.below ag);have bf:=qZ (hs.below ag);have bd:=qZ (aC cb cc);obtain⟨aG,bt⟩:=nZ c.aG;obtain⟨aJ,bp⟩:=nZ c.aJ;obtain⟨n,a8⟩:=nZ ps.length;obtain⟨f,bs⟩:∃f,f=fo c h aQ:=⟨_,rfl⟩;rw[bt,bp,a8]at ah ag be bf⊢;rw[a8]at dd de;rw[<-bs];have F:=qZ (aC bt (aC bp (aC a8 bs)));obtain⟨w1,a9⟩:=nZ (w.alloc (cE #[v1,v2,aG,aJ,aQ,next,ac A n cap,vr,Q] 31));have cj:(w1:Nat)=(w:Nat)+1:=by rw[<-a9];simp
 have cu:=qZ a9;rw[a9]at ah ag be bf;have ax:=qZ (aC ah (aC ag cj));have bm:∀W,aD w1 W->CV W w 0 v1/\CV W w 1 v2/\CI W w 2 aG/\CI W w 3 aJ/\CI W w 4 aQ/\CI W w 5 next/\CV W w 6 (ac A n cap)/\CV W w 7 vr/\CV W w 8 Q:=λW a=>by have y:=ax.1.below a;exact⟨y.c0,y.c1,y.c2,y.c3,y.c4,y.c5,y.c6,y.c7,y.c8⟩
 have cv:=qZ bm;have s6:=(bm w1 (aD.refl w1)).2.2.2.2.2.2.1;clear hs cb cc cg ah ag bt bp bs a8 a9 cj hi cm cn co bm;have ct:Hid (∀(x y:cY),x∈ps->y∈ps->∀W,aD w1 W->cP cG 21 #[cS #[v1,v2,aG,aJ,aQ,next,ac A n cap,vr,Q],cS (eF x),cS (eF y)] W λe W'=>e=cJ (cF cD (f x y))/\aD W W'):=qZ λx y ah I W a=>by have g:=alh (vp:=ac A n cap) (vr:=vr) (next:=next) bf bd.1 x y (bd.2 x ah).1 (bd.2 y I).1 W a;rw[F.out.1,F.out.2.1,<-F.out.2.2.2]at g;exact g
 go_enter func10,ntmps10;go_wp2_with fail;rw[cu.out];go_loopg[3,4] n (λc0 v dh wr=>∃i:Nat,dh=cF cD i/\i<=n/\n<=c0+i/\Hid (bL wr w 44 11 fH v (tJ f (ps.take i)))/\Hid (aD w1 wr));exact⟨0,mZ,oZ,oZ,qZ (bL.nil _ _ _ _ _),qZ (aD.refl w1)⟩
 obtain⟨L,rfl⟩:∃L:cH,L=wr:=⟨_,rfl⟩;obtain⟨i,rfl,dq,dn,ab,M⟩:=hrel;obtain⟨out,ap⟩:∃out,out=tJ f (ps.take i):=⟨_,rfl⟩;have cd:out.length=i:=by rw[ap,afx,bN];have:=F.2.2.1;omega
 have b9:∀y∈out,y∈ps:=λy I=>by
  rw[ap]at I;rcases RX _ _ _ I with e|e
  .cases e
  .exact fc e
 rw[<-ap]at ab;have l:=qZ (aC ap (aC cd b9));clear ap cd b9 s6;have Y:=λW (a:aD L W)=>cv W (aA M a);have s6:=(Y L (aD.refl L)).2.2.2.2.2.2.1;by_cases du:i<n
 .have df:(i:Int)<(n:Int):=oZ;obtain⟨x,aq⟩:∃x,ps[i]? =cA x:=⟨_,aH (by have:=F.out.2.2.1;omega)⟩;obtain⟨b,o,rfl,dk,bq⟩:=be.dR (i:=i) (by have:=F.out.2.2.1;omega);have cx:=qY (x∈ps) (gP aq);have b1:ps[i]'(by have:=F.2.2.1;omega)=x:=by rw[aH (by have:=F.out.2.2.1;omega)]at aq;exact Option.some.inj aq
  rw[b1]at bq;have af:∀W,aD L W->CI W b (o+i*11) x.id/\CI W b (o+i*11+1) x.dI/\CI W b (o+i*11+2) x.fG/\CI W b (o+i*11+3) x.need.x/\CI W b (o+i*11+4) x.need.y/\CI W b (o+i*11+5) x.need.z/\CI W b (o+i*11+6) x.run/\CI W b (o+i*11+7) x.aP/\CI W b (o+i*11+8) x.prefer/\CI W b (o+i*11+9) x.seq/\CI W b (o+i*11+10) x.since:=λW a=>aix (bq W (aA M a));have ay:=qZ (aC Y af);have b5:=qZ (aC aq b1);clear bq aq b1 Y af;obtain⟨dj,c2,rfl,ci⟩:=ab.sl pel.len;rw[l.out.2.1]at ab⊢;have cw:=qZ ci;clear ci;obtain⟨d,bu⟩:∃k,k=oO f x out i:=⟨_,rfl⟩;have dt:d<=i:=by rw[bu];exact DK x out i
  have bc:=qZ bu;clear bu;go_upto_block 2 with fail;go_cut[5] (λv b3=>v=cF cD d/\aD L b3);case first=>
   go_wp2_with fail;go_loopg[5] i (λda di b3=>∃k:Nat,di=cF cD k/\k<=i/\k<=da/\Hid (oO f x out k=d)/\Hid (aD L b3));exact⟨i,rfl,bG _,bG _,qZ bc.out.symm,qZ (aD.refl L)⟩
   obtain⟨k,rfl,dr,dp,aa,N⟩:=hrel;by_cases ds:0<k
   .obtain⟨p,rfl⟩:∃p,k=p+1:=⟨k-1,oZ⟩;obtain⟨y,I⟩:∃y,out[p]? =cA y:=⟨_,aH (by have:=l.out.2.1;omega)⟩;obtain⟨b2,H,rfl,dl,br⟩:=cw.dR (i:=p) (by have:=l.out.2.1;omega);have ck:out[p]'(by have:=l.2.1;omega)=y:=by rw[aH (by have:=l.out.2.1;omega)]at I;exact Option.some.inj I
    rw[ck]at br;have b7:out.getD p default=y:=by simp[I]
    have af:∀W,aD wr W->CI W b (o+i*11) x.id/\CI W b (o+i*11+1) x.dI/\CI W b (o+i*11+2) x.fG/\CI W b (o+i*11+3) x.need.x/\CI W b (o+i*11+4) x.need.y/\CI W b (o+i*11+5) x.need.z/\CI W b (o+i*11+6) x.run/\CI W b (o+i*11+7) x.aP/\CI W b (o+i*11+8) x.prefer/\CI W b (o+i*11+9) x.seq/\CI W b (o+i*11+10) x.since:=λW a=>(ay.2 W (aA N a));have cz:∀W,aD wr W->CI W b2 (H+p*11) y.id/\CI W b2 (H+p*11+1) y.dI/\CI W b2 (H+p*11+2) y.fG/\CI W b2 (H+p*11+3) y.need.x/\CI W b2 (H+p*11+4) y.need.y/\CI W b2 (H+p*11+5) y.need.z/\CI W b2 (H+p*11+6) y.run/\CI W b2 (H+p*11+7) y.aP/\CI W b2 (H+p*11+8) y.prefer/\CI W b2 (H+p*11+9) y.seq/\CI W b2 (H+p*11+10) y.since:=λW a=>aix (br W (aA N a));have Y:=λW (a:aD wr W)=>ay.1 W (aA N a);have cl:=l.2.2 y (gP I);have a5:∀W,aD wr W->cP cG 21 #[cS #[v1,v2,aG,aJ,aQ,next,ac (cA ⟨b,o,cL⟩) n cap,vr,Q],cS (eF x),cS (eF y)] W λe W'=>e=cJ (cF cD (f x y))/\aD wr W':=λW a=>
     (ct x y cx cl W (aA M (aA N a))).mono λe W' ⟨dc,hb⟩=>⟨dc,aA a hb⟩
    have b6:=qZ b7;have dv:(p:Int)+1>0:=oZ;have dw:IntKind.i64.wrap (p:Int)=(p:Int):=by rw[eE];omega
    have dx:(p:Int)<(i:Int):=oZ;clear I br ck b7 cl;obtain⟨r,ce⟩:=nZ (f x y);have av:=qZ ce;rw[ce]at a5;simp only[eF]at a5;go_wp2_with fail;refine kK ?_;(repeat refine kY ?_);refine kJ a5 ?_;(repeat refine kY ?_);refine dP ?_;intro W a;have aw:=qZ (aA N a);clear af cz Y a5 a N;by_cases b8:r<0
    .have ai:=qY (oO f x out p=d) (by
      rw[<-aa.out]
      conv=>rhs;unfold oO
      rw[b6.out,av.out,aI b8])
     clear aa av;go_wp2_with fail;go_roundg p;exact⟨p,mZ,oZ,oZ,ai,aw⟩;omega
    .have ai:=qY (p+1=d) (by
      rw[<-aa.out]
      conv=>rhs;unfold oO
      rw[b6.out,av.out,aF b8])
     clear aa av;go_wp2_with fail;go_meet;exact⟨by rw[<-ai.out];go_num,aw⟩
   .obtain rfl:k=0:=by omega
    have ai:=qY (0=d) aa;clear aa;go_wp2_with fail;refine kK ?_;(repeat first|(refine kY ?_)|(refine kN ?_));refine dP ?_;intro W a;have aw:=qZ (aA N a);clear a N;go_wp2_with fail;go_meet;exact⟨by rw[<-ai.out];rfl,aw⟩
  case rest=>
   obtain⟨rfl,ba⟩:=hcut;have af:=λW (a:aD wc W)=>ay.2 W (aA ba a);have Y:=λW (a:aD wc W)=>ay.1 W (aA ba a);have ad:=qZ ba;clear ba s6;simp only[eF]at*;go_wp2_with fail;refine XU (.take 0 (.take 1 (.take 2 (.take 4 (.take 5 (.take 6 (.take 7 (.take 8 (.take 11 (.take 12 (.take 13 (.two 3 9 (.one 9 (.one 10 (.one 14 (.take 15 .done)))) (.one 3 (.one 10 (.one 14 (.take 15 .done)))))))))))))))) kZ kZ ?_;have bv:=l.2.1;obtain⟨cr,ca,ch,cp⟩:=ahG 27 i0 cW au.1 au.2.2.1 pel.len ab (m:=d) oZ;obtain⟨cs,bo,bz,cq⟩:=NG 27 i0 cW au.1 au.2.2.1 pel.len ab (m:=d) oZ;rw[bv]at bz;have bk:=qZ (aC ch (cp.below ad));have bl:=qZ (aC bz (cq.below ad));clear ch bz cp cq;(iterate 2 refine tT ?_);apply mM (v:=ac cr d ca);rfl;rfl;(focus(intro W a;exact lX (E:=44) (s:=.tmp 34) (lo:=cL) (hi:=cA (.tmp 35)) cW rfl rfl (bk.1 W)));(focus(go_simp;first|done|rfl));(iterate 7 refine tT ?_);apply mM (v:=ac cs (i-d) bo);rfl;rfl;(focus(intro W a;exact lX (E:=44) (s:=.tmp 45) (lo:=cA (.tmp 46)) (hi:=cL) cW rfl rfl (bl.1 W)));(focus(go_simp;first|done|rfl));clear af Y;refine wH ?_ ?_
   .obtain⟨u1,K,Z,aj,O,az⟩:=WR (aD.drew wc) (bL.nil wc.drew (wc:Nat) 44 11 fH) (ys:=out.take d) (m:=d) (bk.2.below (aD.drew wc)) (by rw[bN];omega) (by simp;omega) (c:=ca);apply kD;rfl;rfl;exact mW (s:=.const (ac cL 0 0)) (x:=.tmp 36) rfl rfl rfl Z;exact O;(focus(go_simp;first|done|rfl));have T:Blk (K.alloc (cE (eF x) 44)) (K:Nat) 44 (eF x):=dC _ _ _;have ae:aD wc (K.alloc (cE (eF x) 44)):=Below.alloc O O.size _;have ak:=aj.below ((aK _ _:cC K K K).alloc lZ (cE (eF x) 44));refine dQ ?_;apply kD;rfl;rfl;(focus(go_simp;first|done|exact⟨rfl,rfl⟩));exact ae;(focus(go_simp;first|done|rfl));obtain⟨u2,cy,an,al,J,bi⟩:=WR ae ak (A:=cA ⟨K,0,cL⟩) (ys:=[x]) (m:=1) (c:=1) (λ_=>⟨_,0,rfl,T.lt,λq z ar j u b0=>by
     have bw:q=0:=by
      rcases q with _|q
      .rfl
      .simp at ar
     subst bw;have e:x=z:=by simpa using ar
     subst e;rw[show 0+0*11+j=j by omega];exact(T.cell j).trans ((show(eF x)[j]? =(eF x).toList[j]? by simp).trans b0)⟩) rfl (by simp;omega)
    refine dQ ?_;apply kD;rfl;rfl;exact mW (s:=.tmp 37) (x:=.tmp 43) rfl rfl rfl an;exact J;(focus(go_simp;first|done|rfl));obtain⟨u3,bn,ao,am,X,bj⟩:=WR J al (bl.2.below J) (m:=i-d) (by rw[fJ];omega) (by simp;omega) (c:=bo);refine dQ ?_;apply kD;rfl;rfl;exact mW (s:=.tmp 44) (x:=.tmp 47) rfl rfl rfl ao;exact X;(focus(go_simp;first|done|rfl));(repeat refine tT ?_);refine fA ?_;have bg:=qY (bL bn w 44 11 fH u3 (tJ f (ps.take (i+1)))) (by have e:=NQ (f:=f) ps (k:=i) (by have:=F.2.2.1;omega);rw[b5.out.2,<-l.out.1]at e;rw[e];unfold lH;rw[l.out.2.1,<-bc.out,<-bM];exact am.low (by have:=ax.2.2;have Z:=M.size;have db:=ad.size;omega));have bh:=qZ (aA M (aA ad X));clear ao am X bj an al J bi Z aj O az ak ae T bv;go_wp2_with fail;go_roundg(n-(i+1));exact⟨i+1,mZ,oZ,oZ,bg,bh⟩;omega
   .have bb:Blk (wc.drew.alloc (cE (eF x) 44)) (wc:Nat) 44 (eF x):=dC _ _ _;have a0:aD wc (wc.drew.alloc (cE (eF x) 44)):=Below.alloc (aD.drew wc) lZ _;apply kD;rfl;rfl;(focus(go_simp;first|done|exact⟨rfl,rfl⟩));exact a0;(focus(go_simp;first|done|rfl));obtain⟨u1,K,Z,aj,O,az⟩:=WR a0 (bL.nil _ (wc:Nat) 44 11 fH) (ys:=out.take d) (m:=d) (bk.2.below a0) (by rw[bN];omega) (by simp;omega) (c:=ca);refine dQ ?_;apply kD;rfl;rfl;exact mW (s:=.const (ac cL 0 0)) (x:=.tmp 36) rfl rfl rfl Z;exact O;(focus(go_simp;first|done|rfl));have T:Blk K wc 44 (eF x):=bb.below (az rfl) bb.lt;have ae:=O;have ak:=aj;clear bb a0;obtain⟨u2,cy,an,al,J,bi⟩:=WR ae ak (A:=cA ⟨wc,0,cL⟩) (ys:=[x]) (m:=1) (c:=1) (λ_=>⟨_,0,rfl,T.lt,λq z ar j u b0=>by
     have bw:q=0:=by
      rcases q with _|q
      .rfl
      .simp at ar
     subst bw;have e:x=z:=by simpa using ar
     subst e;rw[show 0+0*11+j=j by omega];exact(T.cell j).trans ((show(eF x)[j]? =(eF x).toList[j]? by simp).trans b0)⟩) rfl (by simp;omega)
    refine dQ ?_;apply kD;rfl;rfl;exact mW (s:=.tmp 37) (x:=.tmp 43) rfl rfl rfl an;exact J;(focus(go_simp;first|done|rfl));obtain⟨u3,bn,ao,am,X,bj⟩:=WR J al (bl.2.below J) (m:=i-d) (by rw[fJ];omega) (by simp;omega) (c:=bo);refine dQ ?_;apply kD;rfl;rfl;exact mW (s:=.tmp 44) (x:=.tmp 47) rfl rfl rfl ao;exact X;(focus(go_simp;first|done|rfl));(repeat refine tT ?_);refine fA ?_;have bg:=qY (bL bn w 44 11 fH u3 (tJ f (ps.take (i+1)))) (by have e:=NQ (f:=f) ps (k:=i) (by have:=F.2.2.1;omega);rw[b5.out.2,<-l.out.1]at e;rw[e];unfold lH;rw[l.out.2.1,<-bc.out,<-bM];exact am.low (by have:=ax.2.2;have Z:=M.size;have db:=ad.size;omega));have bh:=qZ (aA M (aA ad X));clear ao am X bj an al J bi Z aj O az ak ae T bv;go_wp2_with fail;go_roundg(n-(i+1));exact⟨i+1,mZ,oZ,oZ,bg,bh⟩;omega
 .have df:¬(i:Int)<(n:Int):=oZ;have b4:=ab;rw[l.out.1,aU (show ps.length<=i by have:=F.out.2.2.1;omega)]at b4;go_wp2;go_ret;exact⟨_,rfl,b4,aA ax.2.1 M⟩
end Srt
variable{F:Nat->Prop}{w':cH}
variable{rl:List bO.Run}{B':Nat}
namespace bT
open Go.RowKit L bO eO Srt
def toP(r:Run):cY:=⟨r.id,r.dI,r.fG,r.need,r.run,r.aP,r.prefer,r.seq,r.dR⟩
def eD(r:Run):gj:=⟨toP r,r.start,r.flavor,r.aR⟩
theorem YF(c:Cfg.C)(l:List (Int×ez)):∀k,k<=l.length->qL c l k=(l.take k).foldl (λu x=>Led.change c u x.1 λa=>Vec.add a x.2) Led.none_
 |0,_=>by simp[qL]
 |k+1,h=>by have b:=YF c l k oZ;rw[bE oZ,fB,<-b];simp[qL,show k<l.length by omega]
theorem ET(c:Cfg.C)(rl:List Run):Led.all c (qL c (needs rl) rl.length)=gf c (rl.map eD):=by unfold gf;rw[YF c (needs rl) rl.length (by simp[needs]),aU (by simp[needs]),needs,List.foldl_map,List.foldl_map];rfl
theorem free_eq(c:Cfg.C)(rl:List Run):gg c.aR (asks rl)=gh c (rl.map eD):=by unfold gh asks;rw[List.map_map];rfl
structure aqw (x:Run):Prop where
 start:0<=x.start/\x.start<=2199023255552
 run:0<=x.run/\x.run<=1048576
def qW(x:Run):Array cN:=#[cF cD x.id,cF cD x.dI,cF cD x.fG,cF cD x.need.x,cF cD x.need.y,cF cD x.need.z,cF cD x.run,cF cD x.aP,cF cD x.prefer,cF cD x.seq,cF cD x.dR,cF cD x.start,cF cD x.flavor,x.hv]
theorem VG(x:Run):(lV x).toArray=qW x:=rfl
def pU(x:Run):cN:=cS (qW x)
theorem MH(x:Run)(o:aqw x):eP cG 114 #[pU x] (cF cD (x.start+x.run)):=λw=>by
 obtain⟨⟨s,s1⟩,⟨r,r1⟩⟩:=o;have u:¬x.start+x.run<x.start:=oZ;have y:¬x.start<x.start+0:=oZ;have z:¬x.run<0:=oZ;obtain⟨a,b,c,⟨d,e,f⟩,g,h,i,j,k,st,l,m,v⟩:=x;simp only[pU,qW]at*;have n:cC w w (w.alloc (cE #[a,b,c,d,e,f,g,h,i,j,k,st,l,v] 86)):=bZ;by_cases p:0<g
 .go_enter func114,ntmps114;go_wp2;go_ret;exact⟨rfl,n⟩
 .go_enter func114,ntmps114;go_wp2;go_ret;exact⟨rfl,n⟩
theorem ME{B:Nat}{l:List Int}(h:w.ownsRow B 3 1 v l.length (l.map (cQ cD)))(b:l.length<=cX):ISl w v l:=by
 have e:∀l:List Int,l.map (cQ cD)=l.flatMap iL:=by
  intro l;induction l with
  |nil=>rfl
  |cons a t c=>rw[dG,dA,c];rfl
 rw[e]at h;obtain⟨A,cap,e1,e2⟩:=bL.sl (dec:=iL) (k:=1) h (λ_=>rfl);exact⟨A,cap,e1,e2,b⟩
theorem tL{l:List Int}(h:ISl w v l)(a:aL F w w')(f:l≠[]->∀b,v.ownBlock=cA b->¬F b):ISl w' v l:=by obtain⟨A,cap,rfl,m,k⟩:=h;refine⟨A,cap,rfl,λd=>?_,k⟩;obtain⟨g,o,rfl,c,e⟩:=m d;exact⟨g,o,rfl,aM c a.size,λi x r j u n=>(a.cell (p:=⟨g,o+i*1+j,cL⟩) c (f d g rfl)).trans (e i x r j u n)⟩
theorem UA{l:List Int}(h:ISl w v l)(p:l.length<=1000000):∀w1,cC w w w1->cP cG 144 #[v] w1 λe w'=>∃v',e=cJ v'/\ISl w' v' l/\(l≠[]->∀b,v'.ownBlock=cA b->w1.heap.size<=b)/\cC w1 w1 w':=λw1 d=>by
 obtain⟨A,cap,rfl,m,g⟩:=h.below d;cases A with
 |none=>
  have:l=[]:=by
   rcases l with _|⟨x,l⟩
   .rfl
   .obtain⟨b,o,e,_⟩:=m sZ;cases e
  subst this;refine(Tryz.slices_Clone_int_nil _ _ _).mono ?_;rintro e w'⟨rfl,rfl⟩;exact⟨_,rfl,⟨cL,0,rfl,λh=>absurd rfl h,g⟩,λh=>absurd rfl h,aK _ _⟩
 |some a=>
  by_cases k:l=[]
  .subst k;refine(Tryz.slices_Clone_int_zero _ _ _).mono ?_;rintro e w'⟨v',rfl,c,_,f⟩;exact⟨v',rfl,ME (l:=[]) c g,λh=>absurd rfl h,f⟩
  .obtain⟨b,o,e,r,n⟩:=m k;cases e;refine(Tryz.slices_Clone_int b o l.length cap l w1 lZ oZ λj i=>?_).mono ?_
   .have:=n j _ (aH i) 0 _ rfl;rw[gI,Nat.add_zero]at this;simpa[i]using this
   .rintro e w'⟨v',rfl,c,_,f⟩;rw[aU lZ]at c;exact⟨v',rfl,ME c g,λ_ b d=>(World.ownsRow.lt c b d).1,f⟩
theorem RU:(prog.info? 86).map (λi=>(i.zero,i.size,i.bytes))=cA (cA (cS #[(),(),(),(),(),(),(),(),(),(),(),(),(),cM]),14,128):=by kernel_rfl
def Far(v:cN)(x:Run):Prop:=x.aR≠[]->∀b,v.ownBlock=cA b->x.hv.ownBlock≠cA b
def jS(w:cH)(B:Nat)(v:cN)(rl:List Run):Prop:=bL w B 86 14 lV v rl/\∀x∈rl,ISl w x.hv x.aR/\Far v x
theorem jS.nil(w:cH)(B:Nat):jS w B (ac cL 0 0) []:=⟨bL.nil _ _ _ _ _,λx h=>by cases h⟩
theorem jS.below{B:Nat}(h:jS w B v rl)(a:cC w w w'):jS w' B v rl:=⟨h.1.below a,λx b=>⟨(h.2 x b).1.below a,(h.2 x b).2⟩⟩
theorem jS.low{B:Nat}(h:jS w B v rl)(a:B'<=B):jS w B' v rl:=⟨h.1.low a,h.2⟩
theorem jS.runs{B:Nat}(h:jS w B v rl)(c:rl.length<=1000000):Runs w v rl:=by obtain⟨A,cap,e,a⟩:=h.1.sl (λ_=>rfl);exact⟨A,cap,e,a,by unfold cX;omega,λx b=>(h.2 x b).1⟩
theorem FJ{l:List Int}(h:ISl w v l):v.oneCell'=cM:=by obtain⟨A,cap,rfl,_⟩:=h;rfl
theorem zJ{l:List Int}(h:ISl w v l)(c:l≠[]):∃b,v.ownBlock=cA b/\b<(w:Nat):=by obtain⟨A,cap,rfl,d,f⟩:=h;obtain⟨g,o,rfl,a,e⟩:=d c;exact⟨g,rfl,a⟩
theorem IE{l:List Int}{b:Option Nat}(h:ISl w v l)(c:w.grownBy w' b)(k:l≠[]->∀g,b=cA g->v.ownBlock≠cA g):ISl w' v l:=by obtain⟨A,cap,rfl,r,p⟩:=h;refine⟨A,cap,rfl,λf=>?_,p⟩;obtain⟨g,o,rfl,d,n⟩:=r f;have m:w'.heap[g]? =w.heap[g]? :=c.block g d (λe=>k f g e.symm rfl);refine⟨g,o,rfl,aM d c.size,λi x y j u s=>?_⟩;rw[World.cell?_of_block (w:=w) (w':=w') (a:=⟨g,o+i*1+j,cL⟩) m];exact n i x y j u s
theorem abe{B:Nat}(h:jS w B v rl)(l:cC w w W)(X:B<=(w:Nat)){x:Run}(A:ISl W x.hv x.aR)(J:x.aR≠[]->∀b,x.hv.ownBlock=cA b->(w:Nat)<=b)(Y:rl.length<=1000000):∃v' e,(eI #[28,28] 28 #[v,ac W 1 1]).run cG (W.alloc (cE (lV x).toArray 86))=.ok v' e/\jS e B v' (rl++[x])/\cC B W e/\(W:Nat)<=(e:Nat):=by
 obtain⟨i0,hi,N,O,Q⟩:=dT RU;have p:cC W W (W.alloc (cE (lV x).toArray 86)):=bZ;have i:=(h.below l).below p;have M:=qA (k:=14) (dec:=lV) (x:=x) (dC W 86 (lV x).toArray) rfl;obtain⟨v',e,e1,e2,e3,e4,H⟩:=lF 28 28 i0 _ 128 underlying28 hi N O Q rfl oZ (λ_=>rfl) (ys:=[x]) (m:=1) (c:=1)
  (λu z=>by simp only[dA,jU,eZ,lV,bH,dL,or_false]at z;rcases z with rfl|rfl|rfl|rfl|rfl|rfl|rfl|rfl|rfl|rfl|rfl|rfl|rfl|rfl<;>first|rfl|exact FJ A) i.1 rfl M (by have:=l.size;simp;omega) (by unfold cX;omega) oZ
 have o:=h.1.lt;refine⟨v',e,e1,⟨e2,λy d=>?_⟩,?_,?_⟩
 .have T:∀b,v'.ownBlock=cA b->v.ownBlock=cA b\/(W:Nat)+1<=b:=λb j=>by have:=H b j;simpa using this
  have old:∀y,ISl (W.alloc (cE (lV x).toArray 86)) y.hv y.aR->Far v y->Far v' y:=λy d K a b j f=>by
   rcases T b j with i|i
   .exact K a b i f
   .obtain⟨c,I,o⟩:=zJ d a;rw[I]at f;injection f with f;simp at o;omega
  rcases dM.1 d with d|d
  .have n:=i.2 y d;exact⟨IE n.1 e3 λa g r=>n.2 a g r,old y n.1 n.2⟩
  .have:y=x:=by simpa using d
   subst this;have F:=A.below p;have s:Far v y:=λa b j f=>by have:=J a b f;have:=(o b j).2;omega
   exact⟨IE F e3 λa g r=>s a g r,old y F s⟩
 .exact Below.grown (Below.mono p (by have:=l.size;omega)) e3 (by simp;have:=l.size;omega) λk L=>(o k L).1
 .have:=e3.size;simp at this;omega
def agR(rs:List gj)(w1:cH)(e:eW)(w':cH):Prop:=∃v' rl',e=cJ v'/\jS w' (w1:Nat) v' rl'/\rl'.map eD=rs/\cC w1 w1 w'
def wZ(f:ez):Prop:=f.x<=4398046511104/\f.y<=4398046511104/\f.z<=4398046511104
theorem alc(f k:ez)(M:wZ f):eP cG 184 #[f.val,k.val] (cF cD (fN f k)):=by
 have g:=gT.amZ k f;obtain⟨ah,ai,aj⟩:=M;have N:gd k f=cM->k.x<=f.x/\k.y<=f.y/\k.z<=f.z:=by simp[gd]
 unfold fN;generalize gd k f=s at*;obtain⟨b,d,l⟩:=f;obtain⟨a,c,i⟩:=k;simp only[Vec.V.val]at*;intro w;have O:Blk (w.alloc (cE #[b,d,l] 40)) (w:Nat) 40 #[b,d,l]:=dC _ _ _;have Q:=qZ (O.alloc (cE #[a,c,i] 40));have T:=qZ (dC (w.alloc (cE #[b,d,l] 40)) 40 #[a,c,i]);have L:cC w w ((w.alloc (cE #[b,d,l] 40)).alloc (cE #[a,c,i] 40)):=kp;have I:=qZ L;have J:=qZ N;go_enter func184,ntmps184;go_wp2_with fail;refine(g _).mono ?_;rintro e v⟨rfl,A⟩;have H:=qZ (aA I A);have F:=Blk.below Q.out A (by simp;omega);have z:=Blk.below T.out A sZ;simp only[aT]at z;have a0:CI v w 0 b:=F.cell 0;have a1:CI v w 1 d:=F.cell 1;have a2:CI v w 2 l:=F.cell 2;have Y:CI v ((w:Nat)+1) 0 a:=z.cell 0;have b1:CI v ((w:Nat)+1) 1 c:=z.cell 1;have b2:CI v ((w:Nat)+1) 2 i:=z.cell 2;cases s
 .go_wp2_with fail;go_ret;exact⟨rfl,H⟩
 .obtain⟨ae,af,ag⟩:=J.out rfl;go_wp2_with fail;obtain⟨i0,ab,ad⟩:=gT.idx a c i;go_loopg[5,12] 3 (λK X W wr=>∃j:Nat,W=cF cD j/\j<=3/\3<=K+j/\X=cF cD (if j=0 then 16 else if j=1 then iT 16 b a else if j=2 then iT (iT 16 b a) d c else iT (iT (iT 16 b a) d c) l i)/\wr=v);exact⟨0,mZ,oZ,oZ,rfl,rfl⟩
  obtain⟨j,rfl,aa,Z,rfl,rfl⟩:=hrel;rcases(by omega:j=0\/j=1\/j=2\/j=3)with rfl|rfl|rfl|rfl
  .by_cases n:0<a
   .have y:IntKind.i64.wrap (b.tdiv a)=b/a:=Go.IntWalk.i64_quo b a ⟨oZ,oZ,oZ⟩;obtain⟨q,o⟩:=nZ (b/a);rw[o]at y;have p:=qY (min (16:Int) q=iT 16 b a) (by unfold iT;rw[aI n,o]);generalize iT 16 b a=r at*;go_wp2_with fail;go_roundg 2;exact⟨1,mZ,oZ,oZ,dB _ p.out,rfl⟩;omega
   .have x:=qY (iT 16 b a=16) (by unfold iT;rw[aF n]);go_wp2_with fail;go_roundg 2;exact⟨1,mZ,oZ,oZ,dB _ x.out.symm,rfl⟩;omega
  .simp only[Nat.one_ne_zero,if_false,if_true];obtain⟨n1,u⟩:=nZ (iT 16 b a);rw[u];by_cases n:0<c
   .have y:IntKind.i64.wrap (d.tdiv c)=d/c:=Go.IntWalk.i64_quo d c ⟨oZ,oZ,oZ⟩;obtain⟨q,o⟩:=nZ (d/c);rw[o]at y;have p:=qY (min n1 q=iT n1 d c) (by unfold iT;rw[aI n,o]);obtain⟨r,m⟩:=nQ (iT n1 d c);rw[m.out]at p;go_wp2_with fail;go_roundg 1;exact⟨2,mZ,oZ,oZ,by rw[u,m.out];exact dB _ p.out,rfl⟩;omega
   .have x:=qY (iT n1 d c=n1) (by unfold iT;rw[aF n]);go_wp2_with fail;go_roundg 1;exact⟨2,mZ,oZ,oZ,by rw[u,x.out];rfl,rfl⟩;omega
  .simp only[show¬(2:Nat)=0 by omega,show¬(2:Nat)=1 by omega,if_false,if_true];obtain⟨n1,u⟩:=nZ (iT (iT 16 b a) d c);rw[u];by_cases n:0<i
   .have y:IntKind.i64.wrap (l.tdiv i)=l/i:=Go.IntWalk.i64_quo l i ⟨oZ,oZ,oZ⟩;obtain⟨q,o⟩:=nZ (l/i);rw[o]at y;have p:=qY (min n1 q=iT n1 l i) (by unfold iT;rw[aI n,o]);obtain⟨r,m⟩:=nQ (iT n1 l i);rw[m.out]at p;go_wp2_with fail;go_roundg 0;exact⟨3,mZ,oZ,oZ,by rw[u,m.out];exact dB _ p.out,rfl⟩;omega
   .have x:=qY (iT n1 l i=n1) (by unfold iT;rw[aF n]);go_wp2_with fail;go_roundg 0;exact⟨3,mZ,oZ,oZ,by rw[u,x.out];rfl,rfl⟩;omega
  .simp only[show¬(3:Nat)=0 by omega,show¬(3:Nat)=1 by omega,show¬(3:Nat)=2 by omega,if_false,if_true];obtain⟨r,m⟩:=nQ (iT (iT (iT 16 b a) d c) l i);rw[m.out];go_wp2_with fail;go_ret;exact⟨by rw[<-m.out];rfl,H⟩
theorem VD(x y:Int):vB x y<=1099511627776:=by unfold vB Vec.cut;omega
theorem akO(a b:ez):wZ (fq a b):=by have c:=VD a.x b.x;have d:=VD a.y b.y;have e:=VD a.z b.z;unfold wZ fq;simp only;omega
theorem alH(need:ez)(out:List ez)(h:Int)(b:∀f∈out,wZ f):∀f∈gl fq need out h,wZ f:=by
 intro f a;unfold gl at a;split at a
 .rcases List.mem_or_eq_of_mem_set a with h|rfl
  .exact b f h
  .exact akO _ _
 .exact b f a
theorem YX(need:ez):∀(l:List Int) (out:List ez),(∀f∈out,wZ f)->∀f∈Hst.dV fq need l out,wZ f
 |[],out,a=>a
 |h::l,out,a=>YX need l _ (alH need out h a)
theorem aji(hs:List iI)(a:∀h∈hs,wZ h.cap):∀rs:List (ez×List Int),∀f∈gg hs rs,wZ f:=by
 have e:∀(rs:List (ez×List Int)) (o:List ez),(∀f∈o,wZ f)->∀f∈rs.foldl (λo r=>Hst.dV fq r.1 r.2 o) o,wZ f:=by
  intro rs;induction rs with
  |nil=>intro o h;exact h
  |cons r rs d=>intro o h;exact d _ (YX r.1 r.2 o h)
 intro rs;refine e rs _ (λf b=>?_);obtain⟨h,c,rfl⟩:=bU.1 b;exact a h c
def rO(h:Int)(m n:Nat):Array cN:=(cR m (cQ cD h)++cR (n-m) (cQ cD 0)).toArray
theorem aiy(h:Int){m n k:Nat}(a:m+k<=n):((rO h m n).toList.take m++cR k (cQ cD h)++(rO h m n).toList.drop (m+k)).toArray=rO h (m+k) n:=by unfold rO;congr 1;simp only;rw[jJ sZ,List.take_replicate,Nat.min_self,List.drop_append];simp only[gY,List.drop_replicate];rw[show m-(m+k)=0 by omega,show m+k-m=k by omega,<-List.replicate_append_replicate,show n-m-k=n-(m+k) by omega];simp
section
variable {P:ga}
theorem nV{t E:eV}{i:fW}(c:P.underlying t=cA (.slice E))(hi:P.info? E=cA i)(d:i.size=1)(g m n:Nat)(b:m<=n)(W:cH):(e8 t (ac g n n) cL (cA (cF cD m)) cL).run P W=.ok (ac g m n) W:=by
 have a:Addr.add ⟨g,0,cL⟩ 0=⟨g,0,cL⟩:=by rw[Addr.add_lit]
 simp[e8,run_underlying c,fm,fr,asIntOf,sizeOf,typeInfo,hi,b,a]
theorem nW{t E:eV}{i:fW}(c:P.underlying t=cA (.slice E))(hi:P.info? E=cA i)(b:i.size=1)(g m n:Nat)(a:m<n)(W:cH):(e8 t (ac g n n) (cA (cF cD m)) cL cL).run P W=.ok (ac (cA ⟨g,m,cL⟩) (n-m) (n-m)) W:=by simp[e8,run_underlying c,fm,fr,asIntOf,sizeOf,typeInfo,hi,Nat.le_of_lt a,Nat.ne_of_gt a,Nat.ne_of_lt a,b,Addr.add_lit]
end
theorem adq{P:ga}{o:Oper}{a:Act}{w w':cH}{s x:Operand}{t b:eV}(c:o.op=.call {callee:=.builtin .copy,args:=#[s,x],argTypes:=#[t,b]}){vs vx v':cN}(hs:a.eval s=vs)(e:a.eval x=vx)(d:(fe #[t,b] o.type #[vs,vx]).run P w=.ok v' w'):(execOp a.eval o).run P w=.ok (.value v') w':=by unfold execOp;simp only[c,resolve,invoke,builtin,Sem.run_bind,Sem.run_pure,e0,jD,dG,fQ,hs,e,d]
def ars(l:List Int)(w1:cH)(e:eW)(w':cH):Prop:=∃v',e=cJ v'/\bL w' w1 3 1 iL v' l/\cC w1 w1 w'
theorem below_setRow{w W:cH}{B g:Nat}{c a:Array cN}{E:eV}(h:cC B w W)(d:B<=g):cC B w (W.setRow g a):=by
 refine⟨h.os,h.tape,h.output,by simpa[World.setRow]using h.size,λk b=>?_⟩;rw[<-h.block k b];have:g≠k:=by omega
 simp[World.setRow,Array.getElem?_modify,this]
theorem agH{W:cH}{g:Nat}{c a:Array cN}{E:eV}(h:Blk W g E c):Blk (W.setRow g a) g E a:=by unfold Blk at*;exact setRow_heap W g c a E _ h
theorem copy_part{W:cH}{g m n k b o:Nat}{h:Int}{c cd:Nat}(d:Blk W g 3 (rO h m n))(r:m+k<=n)(sl:Nat)(p:k=Nat.min sl (n-m))(hs:∀j,j<k->W.cell? ⟨b,o+j,cL⟩=cA (cF cD h))(ty:eV):∃w',(fe #[36,36] ty #[ac (cA ⟨g,m,cL⟩) (n-m) cd,ac (cA ⟨b,o,cL⟩) sl c]).run cG W=.ok (cF cD (k:Int)) w'/\Blk w' g 3 (rO h (m+k) n)/\∀B w,cC B w W->B<=g->cC B w w':=by obtain⟨i0,hi,u,s,x⟩:=dT xO;have a:=run_copy_row cG W 36 36 ty 3 g m (n-m) cd ⟨b,o,cL⟩ sl c (rO h m n) 3 (cR k (cQ cD h)) dE (by rw[hi];simp[s]) d (by simp[p]) (λj v hv=>by obtain⟨f,e⟩:=bF.1 hv;simp at f e;rw[Addr.add_lit,hs j f,e]) (by simp[rO];omega) (by simp;intro _;rfl);simp only[gY]at a;rw[aiy h r]at a;exact⟨_,a,agH d,λB w i l=>below_setRow (c:=rO h m n) (E:=0) i l⟩
theorem aby{w:cH}{g B n:Nat}{h:Int}(c:Blk w g 3 (rO h n n))(b:B<=g)(f:n<=1000000):bL w B 3 1 iL (ac g n n) (cR n h):=by
 have e:(cR n h).flatMap iL=cR n (cQ cD h):=by
  have:∀l:List Int,l.flatMap iL=l.map (cQ cD):=by
   intro l;induction l with
   |nil=>rfl
   |cons a t d=>rw[dA,dG,d];rfl
  rw[this,List.map_replicate]
 unfold bL;rw[e];refine⟨sZ,.inr ⟨g,n,_,sZ,b,c,sZ,by unfold cX;omega,by simp[rO],by simp[rO]⟩⟩
theorem afq(h:Int)(n b:Nat)(bc:n<=1000)(w:cH)(aj:b<(w:Nat))(ak:w.cell? (b,0)=cA (cF cD h)):cP cG 185 #[ac b 1 1,n] w λe w'=>ars (cR n h) w e w':=by
 obtain⟨i0,hi,bk,z,bl⟩:=dT xO;obtain⟨l,bb,T,I,a9⟩:=aiL w n oZ;have M:Blk l w 3 (rO h 0 n):=by
  rcases T.2 with⟨e,_⟩|⟨g,cap,cur,e,az,am,bg,ay,hs,X⟩
  .cases e
  .simp[KM]at e;obtain⟨rfl,rfl⟩:=e;unfold Blk;rw[am];congr 2;have al:cur.size=n:=oZ;apply Array.toList_inj.1;rw[<-aU (show cur.toList.length<=n by simp[al])];simp[KM]at X;rw[X];simp[rO]
 have r:=qZ M;have f:=qZ I;have O:Hid (∀x y:Nat,x=1->y=n->(x*y/18446744073709551616:Nat)=0/\(x*y%18446744073709551616:Nat)=n):=qZ (by rintro x y rfl rfl;omega);have af:=qZ (λW=>(Tryz.bits_Mul 1 n oZ oZ W).mono (R':=λe w'=>e=cJ (ey #[cF .u64 0,cF .u64 n])/\w'=W) λe w' N=>by obtain⟨ag,ah⟩:=O.out 1 n rfl rfl;rw[ag,ah]at N;exact N);have bh:¬((n:Int)<0):=oZ;have bd:((n:Int)%18446744073709551616)=n:=oZ;have be:IntKind.u64.wrap (n:Int)=n:=by rw[IntKind.wrap_u64];omega
 have bf:IntKind.i64.wrap (n:Int)=n:=by rw[eE];omega
 have ax:¬((9223372036854775807:Int)<(n:Int)):=oZ;clear O M I T;go_enter func185,ntmps185;go_wp2_with fail;refine(af.out _).mono ?_;rintro e a⟨rfl,rfl⟩;by_cases i:n=0
 .have d:∀ty,(fe #[36,36] ty #[ac a n n,ac b 1 1]).run cG l=.ok (cF cD 0) l:=λty=>by subst i;exact run_copy_none l _ _ ty 3 _ _ 0 0 1 1 dE (by rw[hi];simp[z]) rfl
  have bj:¬((0:Int)<(n:Int)):=oZ;have Y:=qZ i;clear i;go_wp2_with fail;refine eN 1 ?_;rw[e9];go_wp2_with fail;go_ret;refine⟨_,rfl,?_,f⟩;have L:=r.out;rw[show rO h 0 n=rO h n n by rw[Y.out]]at L;exact aby L lZ oZ
 .obtain⟨bm,d,J,F⟩:=copy_part (b:=b) (o:=0) (c:=1) (cd:=n) (k:=1) r oZ 1 (by show(1:Nat)=min 1 (n-0);omega) (λj an=>by
   obtain rfl:j=0:=by omega
   exact(f.cell (p:=⟨b,0,cL⟩) aj).trans ak) 3
  rw[Nat.sub_zero]at d;have Z:=qZ (F _ _ f lZ);have ab:=qZ J;have a8:n≠0:=i;clear F J r f;go_wp2_with fail;clear d;go_loopg[8] n (λae aw wr=>∃m:Nat,aw=cF cD m/\1<=m/\m<=n/\n<=ae+m/\Hid (Blk wr a 3 (rO h m n))/\Hid (cC a a wr));exact⟨1,mZ,oZ,oZ,oZ,ab,Z⟩
  obtain⟨m,rfl,ba,ar,a0,u,A⟩:=hrel;by_cases ap:m<n
  .obtain⟨k,Q⟩:=nZ (min m (n-m));have a5:1<=k:=oZ;have ao:m+k<=n:=oZ;have au:=nV (P:=cG) dE hi z (a:Nat) m n ar;have av:=nW (P:=cG) dE hi z (a:Nat) m n ap;obtain⟨bn,d,K,H⟩:=copy_part (W:=wr.drew) (b:=(a:Nat)) (o:=0) (c:=n) (cd:=n-m) (k:=k) u.drew ao m Q.symm (λj an=>by rw[aO,u.out.drew.cell j];simp[rO,List.getElem?_append,show j<m by omega]) 3;have aa:=qZ (H _ _ A.drew lZ);have ad:=qZ K;have aq:(m:Int)<(n:Int):=oZ;have bi:IntKind.i64.wrap ((m:Int)+(k:Int))=((m+k:Nat):Int):=by rw[eE];omega
   clear H K Q;go_wp2_with fail;refine jB (λ_=>True) (.take 0 (.take 1 (.take 2 (.take 3 (.take 4 (.take 5 (.take 6 (.one 7 (.take 8 (.take 9 .done)))))))))) kZ kZ trivial ?_;(iterate 3 refine tT ?_);apply mM (v:=ac (cA ⟨(a:Nat),m,cL⟩) (n-m) (n-m));rfl;rfl;(focus(intro W ai;exact lX (E:=3) (s:=.tmp 39) (lo:=cA (.tmp 40)) (hi:=cL) dE rfl rfl (av W)));(focus(go_simp;first|done|rfl));(iterate 2 refine tT ?_);apply mM (v:=ac a m n);rfl;rfl;(focus(intro W ai;exact lX (E:=3) (s:=.tmp 42) (lo:=cL) (hi:=cA (.tmp 43)) dE rfl rfl (au W)));(focus(go_simp;first|done|rfl));refine dQ ?_;apply kD;rfl;rfl;exact adq (s:=.tmp 41) (x:=.tmp 44) rfl rfl rfl d;(focus trivial);(focus(go_simp;first|done|rfl));(iterate 2 refine tT ?_);refine fA ?_;go_wp2_with fail;go_roundg(n-(m+k));exact⟨m+k,dB _ oZ,oZ,oZ,oZ,ad,aa⟩;omega
  .have aq:¬(m:Int)<(n:Int):=oZ;obtain rfl:m=n:=by omega
   go_wp2_with fail;go_ret;exact⟨_,rfl,aby u lZ oZ,A⟩
open Go.RowKit L bO eO Srt
theorem alo(x:Run)(hi:ISl w x.hv x.aR)(N:x.aR.length<=1000000):∀w1,cC w w w1->cP cG 174 #[pU x] w1 λe w'=>∃v',e=cJ (pU {x with hv:=v'})/\ISl w' v' x.aR/\(x.aR≠[]->∀b,v'.ownBlock=cA b->w1.heap.size<=b)/\cC w1 w1 w':=by
 intro w1 J;obtain⟨a,b,c,⟨d,e,f⟩,g,h,i,j,k,st,l,aR,v⟩:=x;simp only[pU,qW]at*;obtain⟨s,p⟩:=nZ ((w1.alloc (cE #[a,b,c,d,e,f,g,h,i,j,k,st,l,v] 86)).alloc (cE #[(),(),(),(),(),(),(),(),(),(),(),(),(),cM] 86));have ag:(s:Nat)=(w1:Nat)+1+1:=by rw[<-p];simp
 have H:cC w1 w1 s:=by rw[<-p];have af:(w1.alloc (cE #[a,b,c,d,e,f,g,h,i,j,k,st,l,v] 86)).heap.size=(w1:Nat)+1:=sZ;exact kp
 have x0:Blk s w1 86 #[a,b,c,d,e,f,g,h,i,j,k,st,l,v]:=by rw[<-p];exact fy (dC _ _ _) _
 have O:Blk s ((w1:Nat)+1) 86 #[(),(),(),(),(),(),(),(),(),(),(),(),(),cM]:=by rw[<-p];have h:=dC (w1.alloc (cE #[a,b,c,d,e,f,g,h,i,j,k,st,l,v] 86)) 86 #[(),(),(),(),(),(),(),(),(),(),(),(),(),cM];simp only[aT]at h;exact h
 have G:=qZ (UA hi N s (aA J H));have T:=qZ H;have Z:=qZ p;have u:=qZ (aC x0 O);have aa:=qZ ag;have ah:=x0.cell 13;simp at ah;clear hi N J H p x0 O;go_enter func174,ntmps174;go_wp2_with fail;refine Eq.mp (dB (λz=>cP cG _ _ z _) Z.out.symm) ?_;refine G.mono ?_;rintro e o⟨v',rfl,M,L,r⟩;have X:=qZ L;clear L;have y:=Blk.below u.1 r (fi u.1);have m:=Blk.below u.2 r (fi u.2);have W:=qZ (aA T r);have Y:=qZ M;have ab:=qZ (Below.size r);obtain⟨aj,c1,c2,c3,c4,c5,c6,c7,c8,c9,c10,c11,c12,c13⟩:=y.c14;have an:=y.frozen 13;obtain⟨Q,ad,rfl,_,_⟩:=M;have ak:=m.lt;have ae:CI o ((w1:Nat)+1) 0 0/\CI o ((w1:Nat)+1) 1 0/\CI o ((w1:Nat)+1) 2 0/\CI o ((w1:Nat)+1) 3 0/\CI o ((w1:Nat)+1) 4 0/\CI o ((w1:Nat)+1) 5 0/\CI o ((w1:Nat)+1) 6 0/\CI o ((w1:Nat)+1) 7 0/\CI o ((w1:Nat)+1) 8 0/\CI o ((w1:Nat)+1) 9 0/\CI o ((w1:Nat)+1) 10 0/\CI o ((w1:Nat)+1) 11 0/\CI o ((w1:Nat)+1) 12 0/\CV o ((w1:Nat)+1) 13 (ac cL 0 0):=
  ⟨m.cell 0,m.cell 1,m.cell 2,m.cell 3,m.cell 4,m.cell 5,m.cell 6,m.cell 7,m.cell 8,m.cell 9,m.cell 10,m.cell 11,m.cell 12,m.cell 13⟩
 have al:∀n,o.frozen? ⟨(w1:Nat)+1,n,cL⟩=cI:=λn=>m.frozen n;clear y m r G;go_wp2_with fail;have K:=X.out;have af:=aa.out;have am:=ab.out;refine eA (v:=cS #[a,b,c,d,e,f,g,h,i,j,k,st,l,ac Q aR.length ad]) (by simp[results,Tryz.results174,go_sem,ae]) rfl ?_;refine⟨_,rfl,tL (F:=λi=>i=(w1:Nat)\/i=(w1:Nat)+1) Y ?_ (λI b A=>?_),λI b A=>?_,?_⟩
 ·(repeat refine aL.setCell ?_ sZ _);exact aL.refl _ _
 .have:=K I b A;omega
 .have:=K I b A;omega
 .have:=W.out;(repeat refine Below.setCell ?_ sZ _);exact this
theorem aaC(x:Run)(hi:ISl w x.hv x.aR)(N:x.aR.length<=1000000):∀w1,cC w w w1->cP cG 132 #[pU x] w1 λe w'=>∃v',e=cJ (pU {x with hv:=v'})/\ISl w' v' x.aR/\(x.aR≠[]->∀b,v'.ownBlock=cA b->w1.heap.size<=b)/\cC w1 w1 w':=by
 intro w1 J;obtain⟨a,b,c,⟨d,e,f⟩,g,h,i,j,k,st,l,aR,v⟩:=x;simp only[pU,qW]at*;obtain⟨s,p⟩:=nZ ((w1.alloc (cE #[a,b,c,d,e,f,g,h,i,j,k,st,l,v] 86)).alloc (cE #[(),(),(),(),(),(),(),(),(),(),(),(),(),cM] 86));have ag:(s:Nat)=(w1:Nat)+1+1:=by rw[<-p];simp
 have H:cC w1 w1 s:=by rw[<-p];have af:(w1.alloc (cE #[a,b,c,d,e,f,g,h,i,j,k,st,l,v] 86)).heap.size=(w1:Nat)+1:=sZ;exact kp
 have x0:Blk s w1 86 #[a,b,c,d,e,f,g,h,i,j,k,st,l,v]:=by rw[<-p];exact fy (dC _ _ _) _
 have O:Blk s ((w1:Nat)+1) 86 #[(),(),(),(),(),(),(),(),(),(),(),(),(),cM]:=by rw[<-p];have h:=dC (w1.alloc (cE #[a,b,c,d,e,f,g,h,i,j,k,st,l,v] 86)) 86 #[(),(),(),(),(),(),(),(),(),(),(),(),(),cM];simp only[aT]at h;exact h
 have G:=qZ (UA hi N s (aA J H));have T:=qZ H;have Z:=qZ p;have u:=qZ (aC x0 O);have aa:=qZ ag;have ah:=x0.cell 13;simp at ah;clear hi N J H p x0 O;go_enter func132,ntmps132;go_wp2_with fail;refine Eq.mp (dB (λz=>cP cG _ _ z _) Z.out.symm) ?_;refine G.mono ?_;rintro e o⟨v',rfl,M,L,r⟩;have X:=qZ L;clear L;have y:=Blk.below u.1 r (fi u.1);have m:=Blk.below u.2 r (fi u.2);have W:=qZ (aA T r);have Y:=qZ M;have ab:=qZ (Below.size r);obtain⟨aj,c1,c2,c3,c4,c5,c6,c7,c8,c9,c10,c11,c12,c13⟩:=y.c14;have an:=y.frozen 13;obtain⟨Q,ad,rfl,_,_⟩:=M;have ak:=m.lt;have ae:CI o ((w1:Nat)+1) 0 0/\CI o ((w1:Nat)+1) 1 0/\CI o ((w1:Nat)+1) 2 0/\CI o ((w1:Nat)+1) 3 0/\CI o ((w1:Nat)+1) 4 0/\CI o ((w1:Nat)+1) 5 0/\CI o ((w1:Nat)+1) 6 0/\CI o ((w1:Nat)+1) 7 0/\CI o ((w1:Nat)+1) 8 0/\CI o ((w1:Nat)+1) 9 0/\CI o ((w1:Nat)+1) 10 0/\CI o ((w1:Nat)+1) 11 0/\CI o ((w1:Nat)+1) 12 0/\CV o ((w1:Nat)+1) 13 (ac cL 0 0):=
  ⟨m.cell 0,m.cell 1,m.cell 2,m.cell 3,m.cell 4,m.cell 5,m.cell 6,m.cell 7,m.cell 8,m.cell 9,m.cell 10,m.cell 11,m.cell 12,m.cell 13⟩
 have al:∀n,o.frozen? ⟨(w1:Nat)+1,n,cL⟩=cI:=λn=>m.frozen n;clear y m r G;go_wp2_with fail;have K:=X.out;have af:=aa.out;have am:=ab.out;refine eA (v:=cS #[a,b,c,d,e,f,g,h,i,j,k,st,l,ac Q aR.length ad]) (by simp[results,Tryz.results132,go_sem,ae]) rfl ?_;refine⟨_,rfl,tL (F:=λi=>i=(w1:Nat)\/i=(w1:Nat)+1) Y ?_ (λI b A=>?_),λI b A=>?_,?_⟩
 ·(repeat refine aL.setCell ?_ sZ _);exact aL.refl _ _
 .have:=K I b A;omega
 .have:=K I b A;omega
 .have:=W.out;(repeat refine Below.setCell ?_ sZ _);exact this
end bT
variable{k:Nat}
variable{ty:eV}
variable{X:cN}
variable{x:cN}
namespace bT
open Go.RowKit L bO eO Srt
structure Many (rl:List Run):Prop where
 len:rl.length<=1000
 num:∀x∈rl,aqw x
 aR:∀x∈rl,x.aR.length<=1000000
theorem aoO(rl:List Run)(t:Int)(h:k<rl.length):eK ((rl.take (k+1)).map eD) t=if t<rl[k].start+rl[k].run then eK ((rl.take k).map eD) t++[eD rl[k]]else eK ((rl.take k).map eD) t:=by
 unfold eK;rw[bE h,dO,fU];have e:kF (eD rl[k])=rl[k].start+rl[k].run:=rfl;by_cases a:t<rl[k].start+rl[k].run
 .rw[aI a];simp[e,a]
 .rw[aF a];simp[e,a]
def JE(B:Nat)(rl:List Run):Prop:=∀y∈rl,y.aR≠[]->∀b,y.hv.ownBlock=cA b->B<=b
def MN(rs:List gj)(w1:cH)(e:eW)(w':cH):Prop:=∃v' rl',e=cJ v'/\jS w' (w1:Nat) v' rl'/\rl'.map eD=rs/\cC w1 w1 w'/\JE (w1:Nat) rl'
theorem acJ(h:Runs w v rl)(au:Many rl)(t:Int):∀w1,cC w w w1->cP cG 115 #[v,t] w1 λe w'=>MN (eK (rl.map eD) t) w1 e w':=by
 intro w1 bk;obtain⟨R,cl,rfl,bs,b8,bq⟩:=h.below bk;have b0:=qZ bs;have bw:=qZ bq;have bf:=qZ au;obtain⟨K,am⟩:=nZ rl.length;have be:=qZ am;have b6:=au.len;rw[am]at b6⊢;clear h au bk bs b8 bq am;go_enter func115,ntmps115;go_wp2_with fail;go_loopg[5,10] K (λb4 ch v10 wr=>∃(k:Nat) (m:List Run),v10=cF cD k/\k<=K/\K<=b4+k/\Hid (jS wr (w1:Nat) ch m/\m.map eD=eK ((rl.take k).map eD) t/\m.length<=k)/\Hid (cC w1 w1 wr)/\Hid (JE (w1:Nat) m));exact⟨0,[],mZ,oZ,oZ,qZ ⟨jS.nil _ _,by simp[eK],sZ⟩,qZ (aK _ _),qZ (λy p=>by cases p)⟩
 obtain⟨k,m,rfl,cr,cp,n,o,ak⟩:=hrel;by_cases b9:k<K
 .have cb:(k:Int)<(K:Int):=oZ;have F:k<rl.length:=by rw[be.out];exact b9
  obtain⟨ck,cs,rfl,ca,bp⟩:=qQ b0 F;obtain⟨ax,p1,p2,p3,p4,a5,p6,a8,a9,ba,ay,az,a0,M⟩:=bp wr o;have I:=qZ (aoO rl t F);have H:=qZ (aC ((bw _ (bD F)).below o) (aC (bf.num _ (bD F)) (bf.aR _ (bD F))));have J:=MH _ (H.2.1);have al:=qZ (alo _ H.1 H.2.2);obtain⟨x,bt⟩:=nZ (rl[k]);rw[bt]at ax p1 p2 p3 p4 a5 p6 a8 a9 ba ay az a0 M I H J al;clear bt bp F ca;obtain⟨bv,b2,bi,_,_⟩:=id H.1;obtain⟨a,b,c,⟨d,e,f⟩,g,h,i,j,r,st,l,aR,hv⟩:=x;simp only at bi ax p1 p2 p3 p4 a5 p6 a8 a9 ba ay az a0 M I;subst bi;obtain⟨cg,av⟩:=nZ aR.length;simp only[pU,qW,av]at J al M;clear av;obtain⟨ct,L⟩:=nZ (wr.alloc (cE #[a,b,c,d,e,f,g,h,i,j,r,st,l,ac bv cg b2] 86));have bn:=aB L;have bc:=aX L;have ah:=qZ (aC bn bc);have bz:=qZ L;obtain⟨N,O,Y,Z,aa,ab,ad,ae,af,ag,Q,T,W,X⟩:=bc.c14;clear bn bc L;go_wp2_with fail;refine Eq.mp (dB (λz=>cP cG _ _ z _) bz.out.symm) ?_;clear ax p1 p2 p3 p4 a5 p6 a8 a9 ba ay az a0 M N O Y Z aa ab ad ae af ag Q T W X;refine(J _).mono ?_;rintro b3 bb⟨rfl,an⟩;have bu:=Blk.below ah.2 an (fi ah.2);have u:=qZ (aA ah.1 an);obtain⟨N,O,Y,Z,aa,ab,ad,ae,af,ag,Q,T,W,X⟩:=bu.c14;clear bu an J;by_cases aq:t<st+g
  .have cq:st+g>t:=aq;go_wp2_with fail;refine(al.out bb u).mono ?_;rintro b3 ci⟨v',rfl,ar,ap,bl⟩;obtain⟨s,A,rfl,b5,cc⟩:=id ar;have ao:=aA u bl;obtain⟨u6,bg,aw,bj,bm,ce⟩:=abe (x:=⟨a,b,c,⟨d,e,f⟩,g,h,i,j,r,st,l,aR,ac s aR.length A⟩) n.1 ao o.size ar
    (λcd b b7=>by have:=ap cd b b7;have:=Below.size u;omega) (by have:=n.2.2;omega)
   rw[VG]at aw;simp only[qW]at aw;have aj:=qY (jS bg (w1:Nat) u6 (m++[⟨a,b,c,⟨d,e,f⟩,g,h,i,j,r,st,l,aR,ac s aR.length A⟩])/\(m++[(⟨a,b,c,⟨d,e,f⟩,g,h,i,j,r,st,l,aR,ac s aR.length A⟩:Run)]).map eD=eK ((rl.take (k+1)).map eD) t/\(m++[(⟨a,b,c,⟨d,e,f⟩,g,h,i,j,r,st,l,aR,ac s aR.length A⟩:Run)]).length<=k+1) (⟨bj,by rw[I.out,aI aq,dO,n.out.2.1];rfl,by have:=n.2.2;simp;omega⟩);have ai:=qY (cC w1 w1 bg) ((o.out.trans (Below.mono ao o.size)).trans bm);have b1:=qY (JE (w1:Nat) (m++[(⟨a,b,c,⟨d,e,f⟩,g,h,i,j,r,st,l,aR,ac s aR.length A⟩:Run)])) (λy p br bh bo=>by
    rcases dM.1 p with p|p
    .exact ak y p br bh bo
    .have e:y=⟨a,b,c,⟨d,e,f⟩,g,h,i,j,r,st,l,aR,ac s aR.length A⟩:=by simpa using p
     subst e;have cm:=ap br bh bo;have cn:=Below.size u;have co:=o.size;omega)
   clear bj bm ce ao ar ap bl b5 cc N O Y Z aa ab ad ae af ag Q T W X;go_wp2_with(at_builtin;refine cK rfl (.tmp 18) (.tmp 21) _ _ rfl u5 (ac ci 1 1) rfl rfl aw ?_);go_roundg(K-(k+1));exact⟨k+1,_,mZ,oZ,oZ,aj,ai,b1⟩;omega
  .have aj:=qY (jS bb (w1:Nat) u5 m/\m.map eD=eK ((rl.take (k+1)).map eD) t/\m.length<=k+1) (⟨n.1.below u,by rw[I.out,aF aq];exact n.2.1,by have:=n.2.2;omega⟩);have ai:=qY (cC w1 w1 bb) (aA o u);clear N O Y Z aa ab ad ae af ag Q T W X;go_wp2_with fail;go_roundg(K-(k+1));exact⟨k+1,_,mZ,oZ,oZ,aj,ai,ak⟩;omega
 .have cb:¬(k:Int)<(K:Int):=oZ;have bd:=qY (jS wr (w1:Nat) _ m/\m.map eD=eK (rl.map eD) t) (⟨n.1,by have:=n.2.1;rwa [aU (by have:=be.out;omega)]at this⟩);go_wp2_with fail;go_ret;exact⟨_,m,rfl,bd.1,bd.2,o,ak⟩
theorem BS(h:Runs w v rl)(g:Many rl)(t:Int):∀w1,cC w w w1->cP cG 115 #[v,t] w1 λe w'=>agR (eK (rl.map eD) t) w1 e w':=λw1 f=>
 (acJ h g t w1 f).mono λe w' ⟨v',rl',a,b,c,d,_⟩=>⟨v',rl',a,b,c,d⟩
theorem afA{P:ga}{E t:eV}{z:cN}(l:P.underlying t=cA (.slice E))(hi:(P.info? E).map (λi=>(i.zero,i.size,i.bytes))=cA (cA z,1,8))(n:z.cells.size=1){B:Nat}{xs:List Int}(x:Int)(h:bL w B E 1 iL v xs)(b:cC w w W)(y:B<=(w:Nat))(A:xs.length<=1000000):∃v' a,(eI #[t,t] ty #[v,ac W 1 1]).run P (W.alloc (cE #[x] E))=.ok v' a/\bL a B E 1 iL v' (xs++[x])/\cC B W a/\(W:Nat)<=(a:Nat):=by
 obtain⟨i0,hi,o,p,r⟩:=dT hi;have d:cC W W (W.alloc (cE #[x] E)):=bZ;have f:=(h.below b).below d;have j:=qA (k:=1) (dec:=iL) (x:=x) (dC W E #[x]) rfl;obtain⟨v',a,e1,e2,e3,e4,s⟩:=lF t ty i0 _ 8 l hi o p r n oZ (λ_=>rfl) (ys:=[x]) (m:=1) (c:=1)
  (λu e=>by simp only[dA,jU,eZ,iL,bH,dL,or_false]at e;subst e;rfl) f rfl j (by have:=b.size;simp;omega) (by unfold cX;omega) oZ
 refine⟨v',a,e1,e2,?_,?_⟩
 .exact Below.grown (Below.mono d (by have:=b.size;omega)) e3 (by simp;have:=b.size;omega) λk g=>(h.lt k g).1
 .have:=e3.size;simp at this;omega
theorem KZ:∀l:List Int,l.flatMap iL=l.map (cQ cD)
 |[]=>rfl
 |a::t=>by rw[dA,dG,KZ t];rfl
theorem XF:∀l:List Int,(zU l).Perm l
 |[]=>gD _
 |a::t=>by
  have c:∀(n:Int) (l:List Int),(vZ n l).Perm (n::l):=by
   intro n l;induction l with
   |nil=>exact gD _
   |cons x t b=>
    unfold vZ;split
    .exact gD _
    .exact(b.cons x).trans (List.Perm.swap n x t)
  exact(c a _).trans ((XF t).cons a)
theorem ND:∀l:List Int,(zU l).Pairwise (· <= ·)
 |[]=>List.Pairwise.nil
 |a::t=>by
  have mem:∀(n y:Int) (l:List Int),y∈vZ n l->y=n\/y∈l:=by
   intro n y l;induction l with
   |nil=>intro h;exact .inl (by simpa[vZ]using h)
   |cons x t d=>
    unfold vZ;split
    .intro h;simpa using h
    .intro h;rcases bH.1 h with rfl|h
     .exact .inr bJ
     .rcases d h with h|h
      .exact .inl h
      .exact .inr (bK _ h)
  have e:∀(n:Int) (l:List Int),l.Pairwise (· <= ·)->(vZ n l).Pairwise (· <= ·):=by
   intro n l;induction l with
   |nil=>intro _;exact List.pairwise_singleton _ _
   |cons x t d=>
    intro h;have c:=jY.1 h;unfold vZ;split
    .refine jY.2 ⟨λy b=>?_,h⟩;rcases bH.1 b with rfl|b
     .omega
     .have:=c.1 y b;omega
    .refine jY.2 ⟨λy b=>?_,d c.2⟩;rcases mem _ _ _ b with rfl|b
     .omega
     .exact c.1 y b
  exact e a _ (ND t)
theorem anA(l:List Int):(l.mergeSort λx y=>decide (x<=y))=zU l:=by refine List.Perm.eq_of_pairwise (le:=(· <= ·)) (λa b _ _ d e=>oZ) ?_ (ND l) ((List.mergeSort_perm _ _).trans (XF l).symm);have:=List.pairwise_mergeSort (le:=λx y:Int=>decide (x<=y)) (by intro a b c d e;simp at*;omega) (by intro a b;simp;omega) l;simpa using this
def aru(l:List Int)(w1:cH)(e:eW)(w':cH):Prop:=∃v',e=cJ v'/\ISl w' v' l/\cC w1 w1 w'
theorem aqH(x:Int)(w:cH):(fz 3 #[cQ cD x] 0).run cG w=.ok x w:=by kernel_rfl
theorem apT(d:Nat)(x y:Int)(w:cH)(e:∀(a b:Int) (w:cH),(eM d 3 a b).run cG w=.ok (a==b) w):(eM (d+1) 271 (cS #[x]) (cS #[y])).run cG w=.ok (x==y) w:=by have f:prog.underlying 271=cA (.array 1 3):=kZ;by_cases c:x=y<;>simp[eM,Sem.run_bind,run_underlying f,e0,List.range',List.forIn_cons,aqH,e,c,Sem.run_pure,Sem.run_ite]
theorem apU(d:Nat)(x y:Int)(w:cH):(eM (d+1+1) 271 (cS #[x]) (cS #[y])).run cG w=.ok (x==y) w:=apT (d+1) x y w (λa b w=>TQ d a b w)
@[go_sem high] theorem arw (x y:Int) (w:cH):(eM 10000 271 (cS #[x]) (cS #[y])).run cG w=.ok (x==y) w:=apU 9998 x y w
theorem ama(x n:Int)(b:Nat)(w:cH)(a:b<(w:Nat))(c:w.cell? (b,0)=cA (cF cD n)):cP cG 209 #[cS #[x],cU b] w λe w'=>e=cJ (eu (x==n))/\cC w w w':=by have d:¬b=(w:Nat):=oZ;go_enter func209,ntmps209;go_wp2;go_ret;exact⟨rfl,bZ⟩
theorem aai(xs:List Int)(n:Int)(k:Nat)(h:k<xs.length):(xs.take (k+1)).contains n=((xs.take k).contains n||(xs[k]==n)):=by rw[lS,aH h,List.contains_append];simp only[Option.toList_some,List.contains_cons,List.contains_nil,Bool.or_false];rw[Bool.beq_comm (a:=n)]
theorem adP{xs:List Int}{n:Int}(h:k<xs.length)(e:xs[k]=n):xs.contains n=cM:=by subst e;simp
theorem afQ{xs:List Int}(n:Int)(b:Nat)(w:cH)(hv:ISl w v xs)(y:b<(w:Nat))(F:w.cell? (b,0)=cA (cF cD n)):cP cG 242 #[v,.func (.func 209) #[] #[cU b]] w λe w'=>aks (xs.contains n) w e w':=by
 obtain⟨A,cap,rfl,K,J⟩:=hv;unfold cX at J;have M:=qZ K;have L:=qZ F;obtain⟨N,l⟩:=nZ xs.length;have s:=qZ l;rw[l]at J⊢;clear K F l;go_enter func242,ntmps242;go_wp2_with fail;go_loopw [8] (λi wr=>∃k:Nat,i=cF cD (k:Int)/\k<=N/\Hid ((xs.take k).contains n=cI)/\cC w w wr) (λi _=>N-(intOf i).toNat);exact⟨0,rfl,oZ,qZ sZ,aK _ _⟩
 obtain⟨k,rfl,ab,r,a⟩:=hrel;by_cases Q:k<N
 .have j:k<xs.length:=by have:=s.out;omega
  obtain⟨aa,o,rfl,ae,H⟩:=qR M j;have u:=H wr a;have W:=qZ (aai xs n k j);have Y:=qZ (λe=>adP (n:=n) j e);generalize xs[k]=x at*;have z:b<(wr:Nat):=aM y a.size;have I:CI wr b 0 n:=(a.cell (p:=⟨b,0,cL⟩) y).trans L;have d:=qZ (ama x n b wr z I);clear H j I z;by_cases g:x=n
  .have c:(x==n)=cM:=by simpa using g
   rw[c]at d;have X:=qZ (Y.out g);clear g c;go_wp2_with fail;refine d.out.mono ?_;rintro e Z⟨rfl,f⟩;have m:=a.trans (f.mono a.size);clear f a d u;go_wp2_with fail;go_ret;exact⟨k,rfl,by rw[X.out];simp,m⟩
  .have c:(x==n)=cI:=by simpa using g
   rw[c]at d;have T:=qY ((xs.take (k+1)).contains n=cI) (by rw[W.out,r.out,c];rfl);clear g c;go_wp2_with fail;refine d.out.mono ?_;rintro e Z⟨rfl,f⟩;have m:=a.trans (f.mono a.size);clear f a d u;go_wp2_with fail;go_roundw;exact⟨k+1,mZ,oZ,T,m⟩;simp[intOf];omega
 .have O:=qY (xs.contains n=cI) (by have:=r.out;rwa [aU (by have:=s.out;omega)]at this);have ad:N<=k:=oZ;clear Q;go_wp2_with fail;go_ret;exact⟨-1,rfl,by rw[O.out];decide,a⟩
theorem aag{xs:List Int}(n:Int)(b:Nat)(w:cH)(hv:ISl w v xs)(d:b<(w:Nat))(g:w.cell? (b,0)=cA (cF cD n)):cP cG 208 #[v,.func (.func 209) #[] #[cU b]] w λe w'=>e=cJ (eu (xs.contains n))/\cC w w w':=by have hi:=qZ (afQ n b w hv d g);generalize(xs.contains n)=r at*;go_enter func208,ntmps208;go_wp2_with fail;refine hi.out.mono ?_;rintro e w1⟨q,rfl,a,f⟩;have c:=qZ a;clear a;go_wp2_with fail;go_ret;exact⟨gH c,f⟩
theorem ajw(rl:List Run)(aQ:Int)(h:k<rl.length):rF ((rl.take (k+1)).map eD) aQ=if aQ<rl[k].start+rl[k].run then(if(rF ((rl.take k).map eD) aQ).contains (rl[k].start+rl[k].run)then rF ((rl.take k).map eD) aQ else rF ((rl.take k).map eD) aQ++[rl[k].start+rl[k].run])else rF ((rl.take k).map eD) aQ:=by
 have e:kF (eD rl[k])=rl[k].start+rl[k].run:=rfl;unfold rF;rw[bE h,dO,fB];simp only[dG,fQ,List.foldl_cons,List.foldl_nil,e];by_cases a:aQ<rl[k].start+rl[k].run
 .rw[aI a];cases b:(List.foldl (λl r=>if(decide (aQ<kF r)&& !(l.contains (kF r)))=cM then l++[kF r]else l) [] ((rl.take k).map eD)).contains (rl[k].start+rl[k].run)<;>simp[a,b]
 .rw[aF a];simp[a]
theorem amw(h:Runs w v rl)(N:Many rl)(aQ:Int):∀w1,cC w w w1->cP cG 148 #[v,aQ] w1 λe w'=>aru (gi (rl.map eD) aQ) w1 e w':=by
 intro w1 ck;obtain⟨R,de,rfl,bt,di,bo⟩:=h.below ck;have ce:=qZ bt;have cb:=qZ bo;have cc:=qZ N;obtain⟨K,ao⟩:=nZ rl.length;have bf:=qZ ao;have cj:=N.len;rw[ao]at cj⊢;clear N bt bo ao;go_enter func148,ntmps148;go_wp2_with fail;go_loopg[5,14] K (λan da cz wr=>∃(k:Nat) (p:List Int),cz=cF cD k/\k<=K/\K<=an+k/\Hid (bL wr w1 271 1 iL da p/\p=rF ((rl.take k).map eD) aQ/\p.length<=k)/\Hid (cC w1 w1 wr));exact⟨0,[],mZ,oZ,oZ,qZ ⟨bL.nil _ _ _ _ _,by simp[rF],sZ⟩,qZ (aK _ _)⟩
 obtain⟨k,p,rfl,aw,dg,r,s⟩:=hrel;by_cases bq:k<K
 .have cs:(k:Int)<(K:Int):=oZ;have ae:k<rl.length:=by rw[bf.out];exact bq
  obtain⟨dd,dl,rfl,dj,co⟩:=qQ ce ae;obtain⟨bz,p1,p2,p3,p4,b3,p6,b4,b5,b6,b0,b1,b2,a8⟩:=co wr s;have J:=qZ (ajw rl aQ ae);have ak:=qZ (aC ((cb _ (bD ae)).below s) (cc.num _ (bD ae)));have ad:=MH _ ak.2;obtain⟨x,O⟩:=nZ (rl[k]);rw[O]at bz p1 p2 p3 p4 b3 p6 b4 b5 b6 b0 b1 b2 a8 J ak ad;clear O;obtain⟨b7,ci,bk,_,_⟩:=id ak.1;obtain⟨a,b,c,⟨d,e,f⟩,g,h,i,j,cx,st,l,aR,hv⟩:=x;simp only at bk bz p1 p2 p3 p4 b3 p6 b4 b5 b6 b0 b1 b2 a8 J;subst bk;obtain⟨cy,br⟩:=nZ aR.length;simp only[pU,qW,br]at ad a8;obtain⟨m,N⟩:=nZ (st+g);rw[N]at ad J;obtain⟨d7,ah⟩:=nZ (wr.alloc (cE #[a,b,c,d,e,f,g,h,i,j,cx,st,l,ac b7 cy ci] 86));have X:=aB ah;have dc:=aX ah;have aj:=qZ X;have cd:=qZ ah;obtain⟨dm,dn,dt,du,dv,dw,dx,dy,dz,d0,dp,dq,dr,ds⟩:=dc.c14;clear X ah br N;go_wp2_with fail;refine Eq.mp (dB (λz=>cP cG _ _ z _) cd.out.symm) ?_;refine(ad _).mono ?_;rintro am ai⟨rfl,cl⟩;have u:=qZ (aA aj cl);obtain⟨Z,ag⟩:=nZ (ai.alloc (cE #[m] 271));have a9:=aX ag;have cm:=aB ag;have I:=qZ (aA u cm);have al:=qZ a9;have bh:=qZ ag;have c4:CI Z ai 0 m:=a9.cell 0;clear ag a9;by_cases Y:aQ<m
  .have cp:m>aQ:=Y;have cr:ISl Z u5 p:=by obtain⟨A,cap,e1,e2⟩:=(r.1.below I).sl (λ_=>rfl);exact⟨A,cap,e1,e2,by have:=r.2.2;unfold cX;omega⟩
   obtain⟨bc,au⟩:=nZ (p.contains m);have bl:=qZ (aag m (ai:Nat) Z cr (fi al) c4);rw[au]at bl;have ba:=qZ au;clear au;go_wp2_with fail;refine Eq.mp (dB (λz=>cP cG _ _ z _) bh.out.symm) ?_;refine bl.out.mono ?_;rintro am Q⟨rfl,bn⟩;have c5:CI Q ai 0 m:=(Blk.below al bn (fi al)).cell 0;have aa:=qZ (aA I bn);cases bc
   .obtain⟨u6,W,af,aq,ar,cw⟩:=afA (P:=cG) (z:=cS #[()]) (t:=269) (ty:=269) underlying269 kZ rfl m r.1 aa s.size (by have:=r.out.2.2;omega);have L:=qY (bL W w1 271 1 iL u6 (p++[m])/\p++[m]=rF ((rl.take (k+1)).map eD) aQ/\(p++[m]).length<=k+1) (⟨aq,by rw[J.out,aI Y,<-r.out.2.1,ba.out,aF dZ],by have:=r.2.2;simp;omega⟩);have H:=qY (cC w1 w1 W) ((s.out.trans (Below.mono aa s.size)).trans ar);go_wp2_with(at_builtin;refine cK rfl (.tmp 31) (.tmp 33) _ _ rfl u5 (ac Q 1 1) rfl rfl af ?_);go_roundg(K-(k+1));exact⟨k+1,_,mZ,oZ,oZ,L,H⟩;omega
   .have L:=qY (bL Q w1 271 1 iL u5 p/\p=rF ((rl.take (k+1)).map eD) aQ/\p.length<=k+1) (⟨r.1.below aa,by rw[J.out,aI Y,<-r.out.2.1,ba.out,aI rfl],by have:=r.2.2;omega⟩);have H:=qY (cC w1 w1 Q) (aA s aa);go_wp2_with fail;go_roundg(K-(k+1));exact⟨k+1,_,mZ,oZ,oZ,L,H⟩;omega
  .have cp:¬m>aQ:=Y;have L:=qY (bL Z w1 271 1 iL u5 p/\p=rF ((rl.take (k+1)).map eD) aQ/\p.length<=k+1) (⟨r.1.below I,by rw[J.out,aF Y];exact r.2.1,by have:=r.2.2;omega⟩);have H:=qY (cC w1 w1 Z) (aA s I);rw[<-bh.out]at L H;go_wp2_with fail;go_roundg(K-(k+1));exact⟨k+1,_,mZ,oZ,oZ,L,H⟩;omega
 .have cs:¬(k:Int)<(K:Int):=oZ;have b9:=qY (p=rF (rl.map eD) aQ) (by have:=r.2.1;rwa [aU (by have:=bf.out;omega)]at this);obtain⟨A,cap,rfl,bm⟩:=r.out.1.sl (λ_=>rfl);have aj:=qZ bm;obtain⟨M,ap⟩:=nZ p.length;have ab:=qZ ap;have df:M<=1000:=by have:=r.2.2;omega
  rw[ap];clear ap bm;obtain⟨T,rfl⟩:∃z,z=wr:=⟨_,rfl⟩;go_wp2_with fail;go_loopg[9,38] M (λan db c0 wr=>∃(k:Nat),c0=cF cD k/\k<=M/\M<=an+k/\Hid (bL wr T 3 1 iL db (p.take k))/\Hid (cC T T wr));exact⟨0,mZ,oZ,oZ,qZ (by rw[List.take_zero];exact bL.nil _ _ _ _ _),qZ (aK _ _)⟩
  obtain⟨q,rfl,dk,dh,bi,u⟩:=hrel;by_cases cu:q<M
  .have cv:(q:Int)<(M:Int):=oZ;have bs:q<p.length:=by rw[ab.out];exact cu
   obtain⟨b,o,rfl,bq,F⟩:=qR aj bs;have ch:=F wr u;obtain⟨x,O⟩:=nZ (p[q]);rw[O]at ch;have X:cC wr wr (wr.alloc (cE #[x] 271)):=bZ;obtain⟨u6,W,af,aq,ar,cw⟩:=afA (P:=cG) (z:=cF cD 0) (t:=36) (ty:=36) dE kZ rfl x bi X u.size (by simp;omega);have cg:=qY (bL W T 3 1 iL u6 (p.take (q+1))) (by rw[bE bs,O];exact aq);have I:=qY (cC T T W) ((u.alloc u.size _).trans ar);simp only[aT]at af;clear O X;go_wp2_with(at_builtin;refine cK rfl (.tmp 42) (.tmp 45) _ _ rfl u9 (ac (cA ⟨(wr:Nat)+1,0,cL⟩) 1 1) rfl rfl af ?_);go_roundg(M-(q+1));exact⟨q+1,mZ,oZ,oZ,cg,I⟩;omega
  .have cv:¬(q:Int)<(M:Int):=oZ;have bu:=bi.out;rw[aU (by have:=ab.out;omega)]at bu;have bb:=qY (gi (rl.map eD) aQ=p.mergeSort λx y=>decide (x<=y)) (by rw[anA,b9.out];rfl);have bg:=qY (p.length<4611686018427387904) (by have:=ab.out;omega);rcases bu.2 with⟨rfl,cq⟩|⟨g,bj,cur,rfl,av,F,ay,ax,az,bv⟩
   .have bp:p=[]:=fK cq;have ca:=qZ bp;clear bp;go_wp2_with fail;refine(Tryz.slices_Sort_int_none cL 0 wr).mono ?_;rintro am Q⟨rfl,rfl⟩;go_wp2_with fail;go_ret;refine⟨_,rfl,⟨cL,0,?_,?_,?_⟩,s.out.trans (Below.mono u s.size)⟩<;>rw[bb.out,ca.out]<;>simp[gF,cX]
   .rw[gI,KZ]at bv;have cn:=qZ (Tryz.slices_Sort_int g 0 bj p wr (holds_of_blockI F bv) (bS.1 F).1 bg);have b8:=qZ (aC F (aC av (aC ay (aC ax az))));go_wp2_with fail;refine cn.out.mono ?_;rintro am Q⟨rfl,a0,a5,rfl⟩;obtain⟨F,av,ay,ax,az⟩:=b8.out;have ct:=ownsRow_sortedI (n:=a0) (os:=a5) (ts:=p.mergeSort λx y=>decide (x<=y)) sZ av F ay ax az;have be:=qZ (ME (l:=p.mergeSort λx y=>decide (x<=y)) (v:=ac g p.length bj) (by simpa using ct) (by have:=bg.out;have:=ab.out;simp;unfold cX;omega));have bd:=qY (cC w1 w1 _) ((s.out.trans (Below.mono u s.size)).grown (grownBy_sortedI (w:=wr) (g:=g) (n:=a0) (os:=a5) (p.mergeSort λx y=>decide (x<=y)).toArray) (bC s.size u.size) λk aw=>by injection aw with aw;have:=s.size;omega);obtain⟨d6,bw⟩:=nZ (Go.Sort.grow (Go.Sort.putRow (cQ cD) (Go.Sort.ahead wr a0) g 0 (p.mergeSort λx y=>decide (x<=y)).toArray) a5);rw[bw]at be bd⊢;clear bw;go_wp2_with fail;go_ret;exact⟨_,rfl,by rw[bb.out];exact be,bd⟩
def gK(p:cY):Array cN:=#[cF cD p.id,cF cD p.dI,cF cD p.fG,cF cD p.need.x,cF cD p.need.y,cF cD p.need.z,cF cD p.run,cF cD p.aP,cF cD p.prefer]
def dV(p:cY):cN:=cS (gK p)
structure zS (p:Ord.P):Prop where
 fG:0<=p.fG/\p.fG<=16
theorem aqG{B:Nat}{xs ys:List Int}(h:bL w B 3 1 iL v xs)(b:cC w w W)(o:B<=(w:Nat))(e:bL W B' 3 1 iL v2 ys)(p:xs.length+ys.length<=1000000)(ty:eV):∃v' a,(eI #[36,36] ty #[v,v2]).run cG W=.ok v' a/\bL a B 3 1 iL v' (xs++ys)/\cC B W a:=by
 obtain⟨i0,hi,i,j,l⟩:=dT xO;obtain⟨A,cap,rfl,g⟩:=e.sl (λ_=>rfl);obtain⟨v',a,e1,e2,e3,e4,n⟩:=lF 36 ty i0 _ 8 dE hi i j l rfl oZ (λ_=>rfl) (ys:=ys) (m:=ys.length) (c:=cap)
  (λu d=>by rw[KZ]at d;obtain⟨x,_,rfl⟩:=bU.1 d;rfl) (h.below b) rfl g (by have:=b.size;omega) (by unfold cX;omega) oZ
 exact⟨v',a,e1,e2,(aK B W).grown e3 (by have:=b.size;omega) λk f=>(h.lt k f).1⟩
def ani(o:Option (List Int))(w1:cH)(e:eW)(w':cH):Prop:=∃v',e=cJ (ey #[v',eu o.isSome])/\bL w' w1 3 1 iL v' (o.getD [])/\cC w1 w1 w'
theorem SN(free:List ez)(p:cY)(group:List Nat){l:List Int}(h:fj free p.need p.fG group []=l):mF free p group=if(l.length:Int)<p.fG then cL else cA l:=by unfold mF;rw[h]
theorem apE{bj bk:cN}{free:List ez}{group:List Nat}(b6:bW w bj c)(b8:VSl w X free)(b9:ISl w bk (group.map λn:Nat=>(n:Int)))(a9:∀f∈free,wZ f)(cb:group.length<=1000000)(p:cY)(ci:zS p):∀w1,cC w w w1->cP cG 119 #[bj,X,bk,dV p] w1 λe w'=>ani (mF free p group) w1 e w':=by
 intro w1 av;obtain⟨v1,v2,rfl,⟨A,ca,rfl,dd,cy⟩,⟨B,ar,rfl,de,cz⟩⟩:=id b6;obtain⟨F,cf,rfl,be,a5⟩:=b8.below av;obtain⟨G,cu,rfl,bf,c0⟩:=b9.below av;obtain⟨L,ag⟩:=nZ (fj free p.need p.fG group []);have br:=qZ ag;have ap:=qZ (SN free p group ag);have cj:=ci.fG;rw[bP];obtain⟨K,af⟩:=nZ group.length;obtain⟨M,ah⟩:=nZ free.length;have aq:=qZ af;have aa:=qZ ah;rw[af]at cb⊢;rw[ah]at a5⊢;unfold cX at a5;have bp:=qZ be;have bq:=qZ bf;have bz:=qZ a9;generalize c.aN.length=NN;generalize c.aR.length=NH;generalize c.aG=aG;generalize c.aJ=aJ;obtain⟨s,p1,a,⟨n0,n1,n2⟩,p6,u,y,bi,bh⟩:=p;simp only[dV,gK]at*;obtain⟨j,N⟩:=nZ ((w1.alloc (cE #[ac A NN ca,ac B NH ar,aG,aJ] 26)).alloc (cE #[s,p1,a,n0,n1,n2,p6,u,y] 42));have bm:Blk j ((w1:Nat)+1) 42 #[s,p1,a,n0,n1,n2,p6,u,y]:=by rw[<-N];have h:=dC (w1.alloc (cE #[ac A NN ca,ac B NH ar,aG,aJ] 26)) 42 #[s,p1,a,n0,n1,n2,p6,u,y];simp only[aT]at h;exact h
 have aw:cC w1 w1 j:=by rw[<-N];exact kp
 have I:=qZ bm;have H:=qZ aw;have bw:=qZ N;clear N bm aw be bf ag af ah a9;go_enter func119,ntmps119;go_wp2_with fail;go_loopg[10,16] K (λb0 v10 cn wr=>∃(k:Nat) (out:List Int),cn=cF cD k/\k<=K/\K<=b0+k/\Hid (bL wr j 3 1 iL v10 out/\fj free ⟨n0,n1,n2⟩ a (group.drop k) out=L)/\(out.length:Int)<=a/\Hid (cC j j wr));exact⟨0,[],mZ,oZ,oZ,qZ ⟨bL.nil _ _ _ _ _,by rw[bB];exact br⟩,by simpa using cj.1,qZ (by rw[<-bw.out];exact aK _ _)⟩
 obtain⟨k,out,rfl,cx,cv,l,al,d⟩:=hrel;by_cases ce:k<K
 .have cg:(k:Int)<(K:Int):=oZ;have a0:k<group.length:=by rw[aq.out];exact ce
  obtain⟨cs,df,rfl,db,b7⟩:=qR bq (k:=k) (by simpa using a0);have au:=b7 wr (aA H d);rw[List.getElem_map]at au;have Y:Hid (group.drop k=group[k]::group.drop (k+1)):=qZ (cZ a0);obtain⟨i,hi⟩:=nZ (group[k]);rw[hi]at Y au;clear hi;by_cases ai:i<M
  .have aj:i<free.length:=by rw[aa.out];exact ai
   obtain⟨J,O,rfl,da,ay⟩:=EY bp aj;have ba:=bz.out _ (bD aj);have az:Hid (free.getD i Vec.zero=free[i]):=qZ (by rw[aV,aH aj,ft]);obtain⟨z,bg⟩:=nZ (free[i]);rw[bg]at ba ay az;clear bg;obtain⟨z0,z1,z2⟩:=z;have ae:=alc ⟨z0,z1,z2⟩ ⟨n0,n1,n2⟩ ba;obtain⟨r,am⟩:=nZ (fN ⟨z0,z1,z2⟩ ⟨n0,n1,n2⟩);rw[am]at ae;have bu:=qZ am;simp only[Vec.V.val]at ae;obtain⟨Q,c10,rfl,b2⟩:=l.out.1.sl (λ_=>rfl);obtain⟨g,o⟩:=nZ out.length;have m:=qZ o;rw[o]at al⊢;have T:Hid (∀W,aD wr W->VAt W J (O+i*3) ⟨z0,z1,z2⟩):=qZ (λW b=>ay W (aA H (aA d b)));have bn:Hid (∀W,aD wr W->Blk W ((w1:Nat)+1) 42 #[s,p1,a,n0,n1,n2,p6,u,y]):=qZ (λW b=>by have b1:=aA d b;exact I.below b1 I.out.lt);have cc:¬(i:Int)<0:=oZ;have cd:¬(M:Int)<=(i:Int):=oZ;have cw:(i:Int)<(M:Int):=oZ;clear am o;go_wp2_with fail;refine kK ?_;have ct:∀W,aD wr W->CI W J (O+i*3) z0:=λW b=>(T W b).1;have c1:∀W,aD wr W->CI W J (O+i*3+1) z1:=λW b=>(T W b).2.1;have c2:∀W,aD wr W->CI W J (O+i*3+2) z2:=λW b=>(T W b).2.2;have c3:∀W,aD wr W->CI W ((w1:Nat)+1) 3 n0/\CI W ((w1:Nat)+1) 4 n1/\CI W ((w1:Nat)+1) 5 n2/\CI W ((w1:Nat)+1) 2 a:=λW b=>have x:=(bn W b);⟨x.cell 3,x.cell 4,x.cell 5,x.cell 2⟩;(repeat refine kY ?_);refine kJ ae ?_;(repeat refine kY ?_);refine dP ?_;intro W b;obtain⟨n,ak⟩:=nZ (min r (a-(g:Int)));obtain⟨q,bb⟩:∃q:Nat,max n 0=(q:Int):=⟨n.toNat,oZ⟩;have dc:(g:Int)+q<=a:=oZ;have bc:(min r (a-(g:Int))).toNat=q:=oZ;have bs:=qZ bb;have bt:=qZ bc;have bv:=qZ b;have cm:IntKind.i64.wrap (a-(g:Int))=a-(g:Int):=by rw[eE];omega
   rw[cm,ak];clear ak bb bc b;go_wp2_with fail;rw[bs.out];refine(afq (i:Int) q (W:Nat) oZ _ sZ (by simp[go_sem])).mono ?_;rintro e cp⟨v',rfl,cl,b4⟩;have ax:cC wr wr cp:=aA bv (aA (bZ) b4);obtain⟨co,bl,bd,b3,b5⟩:=aqG l.1 ax d.size cl (by simp;have:=m.out;omega) 36;rw[m.out]at bd;have ad:=qY (bL bl j 3 1 iL co (out++cR q (i:Int))/\fj free ⟨n0,n1,n2⟩ a (group.drop (k+1)) (out++cR q (i:Int))=L) (⟨b3,by have h:=l.2;rw[Y.out]at h;unfold fj at h;rw[aI (by rw[aa.out];exact ai),az.out,bu.out,m.out,bt.out]at h;exact h⟩);have ch:((out++cR q (i:Int)).length:Int)<=a:=by rw[aW,gY,m.out];omega
   have bo:=qY (cC j j bl) ((d.out.trans (Below.mono ax d.size)).trans b5);go_wp2_with(at_builtin;refine cK rfl (.tmp 41) (.tmp 46) _ _ rfl (ac Q g c10) v' rfl rfl bd ?_);go_roundg(K-(k+1));exact⟨k+1,_,mZ,oZ,oZ,ad,ch,bo⟩;omega
  .have cc:¬(i:Int)<0:=oZ;have cd:(M:Int)<=(i:Int):=oZ;have ad:=qY (bL wr j 3 1 iL u10 out/\fj free ⟨n0,n1,n2⟩ a (group.drop (k+1)) out=L) (⟨l.1,by have h:=l.2;rw[Y.out]at h;unfold fj at h;rwa [aF (by rw[aa.out];exact ai)]at h⟩);go_wp2_with fail;go_roundg(K-(k+1));exact⟨k+1,out,mZ,oZ,oZ,ad,al,d⟩;omega
 .have cg:¬(k:Int)<(K:Int):=oZ;have Z:=qY (out=L) (by have h:=l.2;rwa [iG (by have:=aq.out;omega)]at h);have c2:CI wr ((w1:Nat)+1) 2 a:=(Blk.below I d I.out.lt).cell 2;obtain⟨Q,c10,an,b2⟩:=l.out.1.sl (λ_=>rfl);obtain⟨g,o⟩:=nZ out.length;have m:=qZ o;rw[o]at an al;subst an;have ao:=qY (cC w1 w1 wr) (aA H d);clear o;by_cases a8:(g:Int)<a
  .have ab:=qY (mF free ⟨s,p1,a,⟨n0,n1,n2⟩,p6,u,y,bi,bh⟩ group=cL) (by rw[ap.out,aI (by rw[<-Z.out,m.out];exact a8)]);go_wp2_with fail;refine eA (v:=ey #[cM,eu cI]) (by simp[results,Tryz.results119,go_sem]) rfl ?_;rw[ab.out];exact⟨_,rfl,bL.nil _ _ _ _ _,ao⟩
  .have ab:=qY (mF free ⟨s,p1,a,⟨n0,n1,n2⟩,p6,u,y,bi,bh⟩ group=cA out) (by rw[ap.out,aF (by rw[<-Z.out,m.out];exact a8),Z.out]);go_wp2_with fail;refine eA (v:=ey #[ac Q g c10,eu cM]) (by simp[results,Tryz.results119,go_sem]) rfl ?_;have ck:=l.1.low H.size;rw[ab.out];exact⟨_,rfl,ck,ao⟩
theorem abQ{B:Nat}{l:List Nat}(h:mI w B x l)(a:l.length<=1000000):ISl w x (l.map λn:Nat=>(n:Int)):=by
 have e:ival l=(l.map λn:Nat=>(n:Int)).map (cQ cD):=by unfold ival;rw[List.map_map];rfl
 refine ME (B:=B) (l:=l.map λn:Nat=>(n:Int)) ?_ (by unfold cX;rw[bP];omega);rw[<-e];unfold mI fE at h;have e2:(ival l).length=(l.map λn:Nat=>(n:Int)).length:=by simp[ival]
 rw[<-e2];exact h
structure EL (p:Ord.P):Prop where
 aP:0<=p.aP/\p.aP<=3
 prefer:0<=p.prefer/\p.prefer<=3
def yT(o:Option (Int×List Int))(w1:cH)(e:eW)(w':cH):Prop:=∃v',e=cJ (ey #[((o.map (·.1)).getD 0:Int),v',eu o.isSome])/\bL w' w1 3 1 iL v' ((o.map (·.2)).getD [])/\cC w1 w1 w'
theorem NZ(hs:List iI)(aP:Int):∀l∈fb hs aP,∃h t,l=h::t/\h<hs.length:=by
 intro l a;unfold fb at a;split at a
 .obtain⟨q,c,rfl⟩:=bU.1 a;obtain⟨h,t,e,_,b⟩:=Hst.PU hs aP hs.length lZ q c;exact⟨h,t,e,b⟩
 .cases a
theorem SQ(hs:List iI)(aP:Int):(fb hs aP).length<=hs.length:=by
 unfold fb;split
 .rw[bP];exact Hst.SX hs aP _
 .simp
theorem OA(hs:List iI)(aP:Int):∀l∈fb hs aP,l.length<=hs.length:=by
 intro l a;unfold fb at a;split at a
 .obtain⟨q,b,rfl⟩:=bU.1 a;exact Hst.PW hs aP _ q b
 .cases a
theorem JL(c:Cfg.C)(free:List ez)(p:cY)(n:Nat)(aP:Int):pK c free p (n+1) aP=match oV free p (fb c.aR aP)with
  |some (l,g)=>cA (IK c g,l)
  |none=>pK c free p n (aP+1):=rfl
theorem amq{b0:cN}{free:List ez}(ap:bW w b0 c)(bm:VSl w X free)(cu:∀f∈free,wZ f)(bk:c.aR.length<=1000000)(p:cY)(cw:zS p)(cx:EL p):∀w1,cC w w w1->cP cG 59 #[b0,X,dV p] w1 λe w'=>yT (fX c free p) w1 e w':=by
 intro w1 J;have a0:=qZ (λaP W (h:cC w1 w1 W)=>afZ (ap.below J) aP bk W h);have u:=qZ (λW de (group:List Nat) (h:cC w1 w1 W) (cq:ISl W de (group.map λn:Nat=>(n:Int))) hgl=>apE ((ap.below J).below h) ((bm.below J).below h) cq cu hgl p cw W (aK _ _));obtain⟨v1,v2,rfl,⟨A,ca,rfl,eg,d8⟩,⟨B,O,rfl,bu,d9⟩⟩:=ap.below J;obtain⟨F,cf,rfl,eh,ea⟩:=bm.below J;obtain⟨R,an⟩:=nZ (fX c free p);have ao:=an;unfold fX at ao;have bd:=qZ ao;rw[an];have b5:=qZ bu;have b4:=qZ (λg=>show IK c g=(c.aR.getD (g.headD 0) default).flavor from rfl);obtain⟨s,ak⟩:=nZ c.aR.length;have bb:=qZ ak;rw[ak]at bk a0 u⊢;generalize c.aN.length=NN at*;generalize c.aG=aG at*;generalize c.aJ=aJ at*;obtain⟨M,bh⟩:=nZ free.length;rw[bh]at u⊢;obtain⟨⟨ei,ej⟩,⟨em,r1⟩⟩:=cx;obtain⟨P,am⟩:=nZ p;have b7:=qZ am;obtain⟨ay,p1,az,⟨n0,n1,n2⟩,p6,m,Y,el,ek⟩:=p;simp only[dV,gK]at*;obtain⟨lo,aw⟩:=nZ (max Y 0);obtain⟨hi,au⟩:=nZ (min m 3);obtain⟨n,cv⟩:=nZ ((hi-lo+1).toNat);rw[au,aw,cv,am]at bd;have cs:=qZ aw;have bp:=qZ au;replace u:Hid _:=qZ (by have h:=u.out;simp only[b7.out]at h;exact h);have eb:0<=lo/\lo<=3:=oZ;have dy:hi<=3:=oZ;obtain⟨r,K⟩:=nZ ((w1.alloc (cE #[ac A NN ca,ac B s O,aG,aJ] 26)).alloc (cE #[ay,p1,az,n0,n1,n2,p6,m,Y] 42));have df:Blk r ((w1:Nat)+1) 42 #[ay,p1,az,n0,n1,n2,p6,m,Y]:=by rw[<-K];have h:=dC (w1.alloc (cE #[ac A NN ca,ac B s O,aG,aJ] 26)) 42 #[ay,p1,az,n0,n1,n2,p6,m,Y];simp only[aT]at h;exact h
 have dk:Blk r w1 26 #[ac A NN ca,ac B s O,aG,aJ]:=by rw[<-K];exact fy (dC _ _ _) _
 have bj:cC w1 w1 r:=by rw[<-K];exact kp
 have a:=qZ (aC df dk);have ab:=qZ bj;have cd:=qZ K;clear K bj bu an ao ak bh aw au am;go_enter func59,ntmps59;go_wp2_with fail;rw[cs.out];go_loopg[9] n (λci dd wr=>∃k:Nat,dd=cF cD (lo+k)/\k<=n/\n<=ci+k/\Hid (pK c free P (n-k) (lo+k)=R)/\Hid (cC r r wr));exact⟨0,sZ,oZ,oZ,qZ (by simpa using bd.out),qZ (by rw[<-cd.out];exact aK _ _)⟩
 obtain⟨k,rfl,d6,dw,be,y⟩:=hrel;have eo:wr.cell? ((w1:Nat)+1,7)=cA (cF cD m):=(Blk.below a.out.1 y.out a.out.1.lt).cell 7;by_cases bs:lo+(k:Int)<=hi
 .have ct:lo+(k:Int)<=min m 3:=by rw[bp.out];exact bs
  have d7:k<n:=oZ;obtain⟨dg,dh,di,dj⟩:=(Blk.below a.out.2 y.out a.out.2.lt).c4;have I:=qZ (JL c free P (n-(k+1)) (lo+k));rw[show n-(k+1)+1=n-k by omega,be.out]at I;go_wp2_with fail;refine(a0.out (lo+k) wr (aA ab.out y.out)).mono ?_;rintro e b1⟨dr,rfl,Q,co⟩;obtain⟨dl,dp,rfl,ah⟩:=Q.form;have ba:=qZ (NZ c.aR (lo+k));have L:=qZ (SQ c.aR (lo+k));have af:=qZ (OA c.aR (lo+k));rw[bb.out]at L af;obtain⟨gs,bo⟩:=nZ (fb c.aR (lo+k));rw[bo]at Q I ah ba L af⊢;have a9:=qZ Q;obtain⟨j,al⟩:=nZ gs.length;have bc:=qZ al;have a5:=qZ ah;rw[al]at a9 a5 L⊢;have H:=qZ (aA y.out co);have dv:=L.out;clear bo Q al ah;obtain⟨en,rfl⟩:∃z,z=wr:=⟨_,rfl⟩;obtain⟨aa,ai⟩:=nZ (oV free P gs);have b3:=qZ ai;rw[ai]at I;clear ai;go_wp2_with fail;go_loopg[28] j (λcj dc wr=>∃q:Nat,dc=cF cD q/\q<=j/\j<=cj+q/\Hid (oV free P (gs.drop q)=aa)/\Hid (cC b1 b1 wr));exact⟨0,mZ,oZ,oZ,qZ (by rw[bB];exact b3.out),qZ (aK _ _)⟩
  obtain⟨q,rfl,ef,dx,bf,b⟩:=hrel;by_cases cy:q<j
  .have cz:(q:Int)<(j:Int):=oZ;have T:q<gs.length:=by rw[bc.out];exact cy
   obtain⟨G,rfl⟩:=a5.out oZ;obtain⟨ds,cm,dt,x,da,cn,ee⟩:=a9.out.dR T;obtain⟨h,t,br,bq⟩:=ba.out _ (bD T);have cr:=af.out _ (bD T);have av:=(abQ cn oZ).below b.out;have a8:Hid (gs.drop q=gs[q]::gs.drop (q+1)):=qZ (cZ T);obtain⟨ck,bn⟩:=nZ (gs[q]);rw[bn]at a8 av br cr;have ad:=qZ (aA ab.out (aA H.out b.out));have aq:=qZ (u.out wr x ck ad.out av oZ);have ch:wr.cell? (G,q)=cA x:=(b.out.cell (p:=⟨G,q,cL⟩) cm).trans da;obtain⟨dm,dq,rfl,c0,_⟩:=av;subst br;obtain⟨bx,db,rfl,ed,bl⟩:=qR c0 (k:=0) sZ;have b2:=qZ bl;obtain⟨dg,dh,di,dj⟩:=(Blk.below a.out.2 (aA H.out b.out) a.out.2.lt).c4;obtain⟨z0,z1,z2,ep,z4,eq,er,es,et⟩:=(Blk.below a.out.1 (aA H.out b.out) a.out.1.lt).c9;have N:=qZ bq;obtain⟨cg,aj⟩:=nZ ((List.map (λn:Nat=>(n:Int)) (h::t)).length);have du:0<cg:=by rw[<-aj];simp
   rw[aj]at aq ch;have ae:=qY (aa=match mF free P (h::t)with|some l=>cA (l,h::t)|none=>oV free P (gs.drop (q+1))) (by rw[<-bf.out,a8.out];rfl);obtain⟨o,bt⟩:=nZ (mF free P (h::t));rw[bt]at ae aq;clear bn bl bq aj bt;go_wp2_with fail;refine aq.out.mono ?_;rintro e Z⟨v',rfl,bv,bi⟩;have b8:=qZ bv;have d:=qZ bi;clear bv bi;cases o with
   |none=>
    simp only[Option.isSome_none];go_wp2_with fail;go_roundg(j-(q+1));exact⟨q+1,mZ,oZ,oZ,qZ ae.out.symm,qZ (aA b.out d.out)⟩;omega
   |some l=>
    simp only[Option.isSome_some];obtain⟨bg,bz,rfl,ec,cp⟩:=qX b5.out N.out;have ax:cC w1 w1 Z:=aA ad.out d.out;have dn:∀W,aD Z W->W.cell? (w1,1)=cA (ac (cA ⟨bg,bz,cL⟩) s O):=λW i=>by have cl:=aA (aA H.out b.out) (aA d.out i);exact(Blk.below a.out.2 cl a.out.2.lt).cell 1
    have c1:∀W,aD Z W->W.cell? (bx,db)=cA (cF cD (h:Int)):=λW i=>b2.out W (aA d.out i);obtain⟨fl,ar⟩:=nZ ((c.aR[h]'N.out).flavor);have c2:∀W,aD Z W->W.cell? (bg,bz+h*6)=cA (cF cD fl):=λW i=>by have:=(cp W (aA ax i)).1;rwa [ar]at this
    have dz:h<s:=by have:=N.out;rw[bb.out]at this;exact this
    have d0:(h:Int)<(s:Int):=oZ;have b6:=qY (R=cA (fl,l)) (by have bw:=I.out;rw[ae.out]at bw;rw[bw];simp only;rw[b4.out];simp only[List.headD_cons];rw[aV,aH N.out,ft,ar]);have cc:=qZ ax;clear ax ar;go_wp2_with fail;refine kK ?_;(repeat refine kY ?_);refine dP ?_;intro W i;have b9:=qZ ((b8.out.below i).low (B':=(w1:Nat)) ad.out.size);have ce:=qZ (aA cc.out i);go_wp2_with fail;refine eA (v:=ey #[fl,v',eu cM]) (by simp[results,Tryz.results59,go_sem]) rfl ?_;rw[b6.out];exact⟨_,rfl,b9.out,ce.out⟩
  .have cz:¬(q:Int)<(j:Int):=oZ;have ag:Hid (aa=cL):=qZ (by have h:=bf.out;rw[iG (by have:=bc.out;omega)]at h;exact h.symm);have cb:=qY (pK c free P (n-(k+1)) (lo+((k+1:Nat):Int))=R) (by have h:=I.out;rw[ag.out]at h;rw[h];congr 1;omega);have d:=qY (cC r r wr) (aA H.out b.out);go_wp2_with fail;go_roundg(n-(k+1));exact⟨k+1,dB _ oZ,oZ,oZ,cb,d⟩;omega
 .have ct:¬lo+(k:Int)<=min m 3:=by rw[bp.out];exact bs
  have ag:Hid (R=cL):=qZ (by have h:=be.out;rw[show n-k=0 by omega]at h;exact h.symm);have d:=qY (cC w1 w1 wr) (aA ab.out y.out);go_wp2_with fail;refine eA (v:=ey #[(),cM,eu cI]) (by simp[results,Tryz.results59,go_sem]) rfl ?_;rw[ag.out];exact⟨_,rfl,bL.nil _ _ _ _ _,d.out⟩
open Go.Lib Go.Shelf Go.Proofs
def anL:eC:=⟨λ |41=>77|n=>n,λ |22=>27|23=>44|4=>4|n=>n,λ |n=>n⟩
theorem abJ:cT cG anL:={
 mixed:=by kernel_rfl
 f41:=⟨Tryz.f77.name,dZ,func77.trans (dB cA kZ)⟩
 t4:=eR
 a4:=eS
 z4:=eJ
 v4:=ew
 t22:=cW
 a22:=Tryz.isAgg27
 z22:=Tryz.sizeOf27
 v22:=Tryz.zeroValue27}
def anM:eC:=⟨λ |41=>75|n=>n,λ |22=>23|23=>66|4=>4|n=>n,λ |n=>n⟩
theorem PN:cT cG anM:={
 mixed:=by kernel_rfl
 f41:=⟨Tryz.f75.name,dZ,func75.trans (dB cA kZ)⟩
 t4:=eR
 a4:=eS
 z4:=eJ
 v4:=ew
 t22:=underlying23
 a22:=Tryz.isAgg23
 z22:=Tryz.sizeOf23
 v22:=Tryz.zeroValue23}
def anN:eC:=⟨λ |41=>76|n=>n,λ |22=>24|23=>131|4=>4|n=>n,λ |n=>n⟩
theorem PS:cT cG anN:={
 mixed:=by kernel_rfl
 f41:=⟨Tryz.f76.name,dZ,func76.trans (dB cA kZ)⟩
 t4:=eR
 a4:=eS
 z4:=eJ
 v4:=ew
 t22:=underlying24
 a22:=Tryz.isAgg24
 z22:=Tryz.sizeOf24
 v22:=Tryz.zeroValue24}
def apo:eC:=⟨λ |41=>78|n=>n,λ |22=>29|23=>63|4=>4|n=>n,λ |n=>n⟩
theorem aeo:cT cG apo:={
 mixed:=by kernel_rfl
 f41:=⟨Tryz.f78.name,dZ,func78.trans (dB cA kZ)⟩
 t4:=eR
 a4:=eS
 z4:=eJ
 v4:=ew
 t22:=underlying29
 a22:=Tryz.isAgg29
 z22:=Tryz.sizeOf29
 v22:=Tryz.zeroValue29}
open L in
theorem agy{ρ:eC}(L:cT cG ρ)(i0:fW)(z:cN)(size bytes:Nat)(hi:prog.info? (ρ.t 23)=cA i0)(r:i0.zero=cA z)(s:i0.size=size)(v:i0.bytes=bytes)(x:z.cells.size=size)(o:0<size)(F:∀w,(gb (ρ.t 23)).run cG w=.ok size w)(a:fw)(c:Nat)(w:cH):cP cG (ρ.f 41) #[ac (cA a) 0 c] w λe w'=>∃v',e=cJ v'/\w'.ownsRow (w:Nat) (ρ.t 23) size v' 0 []/\cC w w w':=by have mixed:=L.mixed;have t4:=L.t4;have a4:=L.a4;have z4:=L.z4;have v4:=L.v4;have t22:=L.t22;have a22:=L.a22;have z22:=L.z22;have v22:=L.v22;have A:∀(w:cH) (a:Option fw) (n c d b:Nat),(binOp .eql (ρ.t 22) (ac a n c) (ac cL d b)).run cG w=.ok (eu a.isNone) w:=λw a n c d b=>Lib.run_eql_slice_nil w _ _ a n c d b L.t22;have u22:∀w,Sem.run cG (underlying (ρ.t 22)) w=.ok (TypeDesc.slice (ρ.t 23)) w:=run_underlying t22;obtain⟨_,_,f⟩:=L.f41;go_enter f,SlBodyN.n41_ntmps ρ;go_wp2_with(at_builtin;refine wpList_append_own _ rfl _ _ (ρ.t 22) rfl (w:Nat) (ρ.t 23) i0 z size bytes t22 hi r s v x o _ _ _ rfl (World.ownsRow_made w #[] 0 lZ (bI _) sZ) a 0 c [] rfl sZ (by intro j u i;simp at i) (by intro u p;cases p) (by unfold cX;omega) oZ sZ ?_);intro v' w1 m g y;go_wp2;go_ret;refine⟨v',rfl,by simpa using m,?_⟩;exact((aK _ w).alloc lZ _).grown g sZ (by intro k l;simp[fx]at l;omega)
open L in
theorem uQ{α:Type}{ρ:eC}(L:cT cG ρ){bytes:Nat}{z:cN}{dec:α->List cN}(hi:(prog.info? (ρ.t 23)).map (λi=>(i.zero,i.size,i.bytes))=cA (cA z,k,bytes))(r:z.cells.size=k)(g:0<k)(H:∀w,(gb (ρ.t 23)).run cG w=.ok k w)(f:Elem dec k){xs:List α}(h:SlK w k dec v xs)(M:xs.length<=cX)(J:xs.length*bytes<=140737488355328):cP cG (ρ.f 41) #[v] w λe w'=>∃v',e=cJ v'/\bL w' w (ρ.t 23) k dec v' xs/\cC w w w':=by
 obtain⟨i0,n,s,y,F⟩:=dT hi;obtain⟨A,cap,rfl,p⟩:=h;cases A with
 |none=>
  have c:xs=[]:=by
   rcases xs with _|⟨x,xs⟩
   .rfl
   .obtain⟨b,o,e,_⟩:=p sZ;cases e
  subst c;refine(AnyE.slices_Clone_nil L _ _ _).mono ?_;rintro e w'⟨rfl,rfl⟩;exact⟨_,rfl,bL.nil _ _ _ _ _,aK _ _⟩
 |some a=>
  by_cases c:xs=[]
  .subst c;refine(agy L i0 z k bytes n s y F r g H a cap w).mono ?_;rintro e w'⟨v',rfl,l,d⟩;exact⟨v',rfl,l,d⟩
  .obtain⟨I,m,e,T,K⟩:=p c;cases e;refine(AnyE.slices_Clone L i0 z k bytes n s y F r g H I m xs.length cap (xs.flatMap dec) w (iN f.len xs) M J (λj u N=>?_) (acf f)).mono ?_
   .obtain⟨x,Q,O⟩:=TD g f.len xs N;have:=K _ x Q _ u O;rwa [show m+j/k*k+j%k=m+j by rw[iY,dW,jI]]at this
   .rintro e w'⟨v',rfl,l,_,d⟩;exact⟨v',rfl,l,d⟩
end bT
namespace Srt
open Go.RowKit Go.Sort L bO eO
theorem fk:FK cG where
 f98:=func268
 f95:=func241
 f85:=func203
 f84:=func202
 f72:=func138
 e98:=λargs w=>by simp[go_sem]
 e95:=λargs w=>by simp[go_sem]
 e85:=λargs w=>by simp[go_sem]
 e84:=λargs w=>by simp[go_sem]
theorem aaY(cf:PO->PO->Int)(k:iQ cf)(g:Nat)(a:Array cN)(bV cap:Nat)(d:Array PO)(w:cH)(c:∀args w,(callFunc g args).run cG w=.ok (.enter g args) w)(j:wW cG g a pE cf bV w)(f:HoldsK pE 11 w bV 0 d)(i:bV<(w:Nat))(l:d.size<1000000):cP cG 81 #[ac bV d.size cap,.func (.func g) #[] a] w λe w'=>e=cJ (ey #[])/\Sit pE 11 w bV 0 (Sort.insertionSort (ltOf cf) d 0 d.size) w':=by
 have G:=qZ (aac pk fk pE IV acp cf k g a bV 0 cap d.size d w c j (Sit.start f i) rfl oZ);generalize Sort.insertionSort (ltOf cf) d 0 d.size=d' at*;generalize d.size=n at*;go_enter func81,ntmps81;go_wp2_with fail;refine G.mono ?_;rintro e m⟨rfl,hs⟩;have b:=qZ hs;go_wp2_with fail
 go_end0
 exact⟨rfl,b⟩
theorem amf(g:Nat)(a:Array cN)(w:cH):cP cG 202 #[cM,(),(),.func (.func g) #[] a] w λe w'=>e=cJ (ey #[])/\w'=w:=by
 go_enter func202,ntmps202;go_wp2_with fail;refine eN 1 ?_;rw[e9];go_wp2_with fail
 go_end0
 exact⟨rfl,rfl⟩
theorem adk(g:Nat)(a:Array cN)(w:cH):cP cG 81 #[cM,.func (.func g) #[] a] w λe w'=>e=cJ (ey #[])/\w'=w:=by
 have G:=qZ (amf g a w);go_enter func81,ntmps81;go_wp2_with fail;go_enter func138,ntmps138;go_wp2_with fail;refine eN 1 ?_;rw[e9];go_wp2_with fail;refine G.mono ?_;rintro e b⟨rfl,rfl⟩;go_wp2_with fail;refine eN 1 ?_;rw[e9];go_wp2_with fail
 go_end0
 exact⟨rfl,rfl⟩
end Srt
variable{cap:Nat}
namespace bT
open Go.RowKit L bO eO Srt
def RL(n:Int):cN:=.iface 216 (cS #[n])
def wJ(n:Int):eW:=.panicked [{v:=RL n,recovered:=cI}]
def eU(ok:Bool)(n:Int)(e:eW):Prop:=e=if ok then cJ (ey #[])else wJ n
theorem iC(ok:Bool)(n:Int)(w:cH):cP cG 98 #[eu ok,n] w λe w'=>eU ok n e/\w'=w:=by
 cases ok
 .go_enter func98,ntmps98;go_wp2;exact⟨rfl,rfl,rfl⟩
 .go_enter func98,ntmps98;go_wp2
  go_end0
  exact⟨rfl,rfl⟩
theorem adW(W:cH)(v:cN):(Instr.typeAssert (.iface 216 v) 20 216 cM).run cG W=.ok (ey #[v,eu cM]) W:=by kernel_rfl
theorem agC(p:fw)(x n:Int)(g:List PanicEntry)(w:cH)(f:p.block<(w:Nat))(l:w.cell? p=cA (cF cD x))(k:w.frozen? p=cI):CallsD cG 97 #[cU (cA p)] (.panicking ({v:=RL n,recovered:=cI}::g)) w λe u' w'=>e=cJ (ey #[])/\u'=.panicking ({v:=RL n,recovered:=cM}::g)/\∃w1,cC w w w1/\w'=w1.setCell p n:=by have d:cC w w (w.alloc (cE #[n] 216)):=bZ;have j:¬p.block=(w:Nat):=oZ;obtain⟨b,c,ps⟩:=p;simp only at f j;refine callsD_of_wpS func97 rfl λi cs a=>?_;unfold RL at a⊢;apply wpS_seq;apply wpS_region;simp[wpOpsS,go_sem,recoverD,a,ntmps97,Exit.thenS];refine wpS_of_wp ?_;have e1:(#[e5 (cA ⟨b,c,ps⟩)]++(Array.replicate 14 cV).setIfInBounds 4 (.iface 216 (cS #[n])))=#[e5 (cA ⟨b,c,ps⟩),cV,cV,cV,cV,.iface 216 (cS #[n]),cV,cV,cV,cV,cV,cV,cV,cV,cV]:=rfl;rw[e1];have m:=λW=>adW W (cS #[n]);have o:(w.alloc (cE #[n] 216)).frozen? ⟨b,c,ps⟩=cI:=(d.frozen f).trans k;go_wp2;cases i;simp only at a;exact⟨rfl,_,rfl,_,fL rfl _ _ _,rfl,rfl,_,d,rfl⟩
theorem UD(p:fw)(w:cH):CallsD cG 97 #[cU (cA p)] .returning w λe u' w'=>e=cJ (ey #[])/\u'=.returning/\w'=w:=by refine callsD_of_wpS func97 rfl λb cs a=>?_;apply wpS_seq;apply wpS_region;simp[wpOpsS,go_sem,recoverD,a,ntmps97,Exit.thenS];refine wpS_of_wp ?_;have e1:(#[e5 (cA p)]++(Array.replicate 14 cV).setIfInBounds 4 .nilIface)=#[e5 (cA p),cV,cV,cV,cV,.nilIface,cV,cV,cV,cV,cV,cV,cV,cV,cV]:=rfl;rw[e1];go_wp2;cases b;simp only at a;subst a;exact⟨rfl,_,rfl,_,fL rfl _ _ _,rfl,rfl,rfl⟩
theorem ahp(l:List Int)(a:k<l.length)(h:(l.take k).all iB=cM)(b:iB l[k]=cM):(l.take (k+1)).all iB=cM:=by rw[bE a,fv,h];simp[b]
theorem akC(l:List Int)(a:k<l.length)(b:iB l[k]=cI):l.all iB=cI:=by rw[List.all_eq_false];exact⟨l[k],bD a,by simp[b]⟩
theorem anu(x:Int):iB x=(decide (x≥0)&&decide (x<=1099511627776)):=by unfold iB fD;rfl
theorem OM{l:List Int}(h:ISl w v l)(Q:l.length<=1000000):cP cG 101 #[v] w λe w'=>eU (l.all iB) 1 e/\w'=w:=by
 obtain⟨A,cap,rfl,W,af⟩:=h;have z:=qZ W;obtain⟨N,m⟩:=nQ l.length;rw[m.out]at Q⊢;obtain⟨r,p⟩:=nQ (l.all iB);rw[p.out];obtain⟨R,a⟩:=nZ (eU r 1);have i:=qZ a;rw[a];clear a;go_enter func101,ntmps101;go_wp2_with fail;go_loopg[6] N (λJ X wr=>∃k:Nat,X=cF cD k/\k<=N/\N<=J+k/\Hid ((l.take k).all iB=cM)/\Hid (wr=w));exact⟨0,mZ,oZ,oZ,qZ sZ,qZ rfl⟩
 obtain⟨k,rfl,ad,aa,y,f⟩:=hrel;by_cases T:k<N
 .have ae:(k:Int)<(N:Int):=oZ;have s:k<l.length:=by rw[m.out];exact T
  obtain⟨b,o,rfl,Z,O⟩:=qR z s;have ag:=O wr (by rw[f.out];exact aK _ _);have F:=qZ (anu l[k]);have I:=qZ (λe:iB l[k]=cM=>ahp l s y e);have n:=qZ (λe:iB l[k]=cI=>p.out.symm.trans (akC l s e));generalize l[k]=x at*;obtain⟨b1,K⟩:=nZ (decide (x≥0));obtain⟨b2,L⟩:=nZ (decide (x<=1099511627776));have j:Hid (iB x=(b1&&b2)):=qZ (by rw[F.out,K,L]);cases b1<;>cases b2
  .go_wp2_with fail;refine(iC cI 1 wr).mono ?_;rintro g u⟨c,rfl⟩;have a:=i.out;rw[n.out (by rw[j.out];rfl)]at a;have d:R g:=by rw[<-a];exact c
   rw[c]at d⊢;exact⟨rfl,d,f⟩
  .go_wp2_with fail;refine(iC cI 1 wr).mono ?_;rintro g u⟨c,rfl⟩;have a:=i.out;rw[n.out (by rw[j.out];rfl)]at a;have d:R g:=by rw[<-a];exact c
   rw[c]at d⊢;exact⟨rfl,d,f⟩
  .go_wp2_with fail;refine(iC cI 1 wr).mono ?_;rintro g u⟨c,rfl⟩;have a:=i.out;rw[n.out (by rw[j.out];rfl)]at a;have d:R g:=by rw[<-a];exact c
   rw[c]at d⊢;exact⟨rfl,d,f⟩
  .have H:=qZ (I (by rw[j.out];rfl));go_wp2_with fail;refine(iC cM 1 wr).mono ?_;rintro g u⟨c,rfl⟩;rw[eU,aI rfl]at c;subst c;go_wp2_with fail;go_roundg(N-(k+1));exact⟨k+1,mZ,oZ,oZ,H,f⟩;omega
 .have ab:¬(k:Int)<(N:Int):=oZ;have M:r=cM:=by have:=y.out;rw[aU (by rw[m.out];omega)]at this;exact p.out.symm.trans this
  subst M;go_wp2_with fail
  go_end0
  exact⟨by rw[<-i.out];rfl,f⟩
theorem DC{b o:Nat}{l:List Int}(d:b<(W:Nat))(h:∀k (g:k<l.length),W.cell? (b,o+k)=cA (cF cD l[k]))(c:l.length<=cX):ISl W (ac (cA ⟨b,o,cL⟩) l.length cap) l:=by
 refine⟨_,_,rfl,λ_=>⟨b,o,rfl,d,?_⟩,c⟩;intro j x f i v hv;obtain⟨a,rfl⟩:=bF.1 f;cases i with
 |zero=>
  have e:v=cF cD l[j]:=by simpa[iL]using hv.symm
  rw[e,gI,Nat.add_zero];exact h j a
 |succ n=>simp[iL]at hv
theorem vI{b o:Nat}{x y z:Int}(f:b<(W:Nat))(a:W.cell? (b,o)=cA (cF cD x))(c:W.cell? (b,o+1)=cA (cF cD y))(d:W.cell? (b,o+2)=cA (cF cD z)):ISl W (ac (cA ⟨b,o,cL⟩) 3 cap) [x,y,z]:=
 DC (l:=[x,y,z]) f (λk e=>by
  match k,e with
  |0,_=>exact a
  |1,_=>exact c
  |2,_=>exact d) (by simp[cX])
theorem BG(x y z:Int):[x,y,z].all iB=rX ⟨x,y,z⟩:=by simp[rX,eQ]
theorem akF(g:cY):FU g=([g.id,g.dI,g.fG,g.run,g.aP,g.prefer].all iB&&rX g.need):=by simp[FU,eQ]
theorem ahs(g:cY)(w:cH):cP cG 100 #[dV g] w λe w'=>eU (FU g) 1 e/\cC w w w':=by
 have i:=qZ (akF g);obtain⟨r,s⟩:=nQ (FU g);rw[s.out]at i⊢;obtain⟨id,d,b,⟨x,y,z⟩,run,aP,c⟩:=g;obtain⟨R,j⟩:=nQ (eU r 1);rw[j.out];simp only[dV,gK]at i⊢;go_enter func100,ntmps100;go_wp2_with fail;have u:ISl ((w.alloc (cE #[id,d,b,x,y,z,run,aP,c] 42)).alloc (cE #[id,d,b,run,aP,c] 3)) (ac (cA ⟨(w:Nat)+1,0,cL⟩) 6 6) [id,d,b,run,aP,c]:=
  DC (l:=[id,d,b,run,aP,c]) (by simp[aT]) (λk A=>by
   match k,A with
   |0,_=>simp[go_sem]
   |1,_=>simp[go_sem]
   |2,_=>simp[go_sem]
   |3,_=>simp[go_sem]
   |4,_=>simp[go_sem]
   |5,_=>simp[go_sem]) (by simp[cX])
 obtain⟨b1,o⟩:=nZ ([id,d,b,run,aP,c].all iB);refine(OM u sZ).mono ?_;rw[o]at i⊢;clear o;rintro m F⟨a,rfl⟩;cases b1
 .have n:r=cI:=i;subst n;have f:R m:=by rw[<-j.out];exact a
  rw[a]at f⊢;exact⟨rfl,f,kp⟩
 .rw[eU,aI rfl]at a;subst a;go_wp2_with fail;have v:ISl ((w.alloc (cE #[id,d,b,x,y,z,run,aP,c] 42)).alloc (cE #[id,d,b,run,aP,c] 3)) (ac (cA ⟨w,3,cL⟩) 3 3) [x,y,z]:=
   vI (by simp only[aT];omega) (by simp[go_sem]) (by simp[go_sem]) (by simp[go_sem])
  have p:=qZ (BG x y z);refine(OM v sZ).mono ?_;rintro m F⟨a,rfl⟩;rw[p.out]at a;have n:r=rX ⟨x,y,z⟩:=i;rw[<-n]at a;have f:R m:=by rw[<-j.out];exact a
  cases r
  .rw[eU,aF sZ]at a;rw[a]at f⊢;exact⟨rfl,f,kp⟩
  .rw[eU,aI rfl]at a;subst a;go_wp2_with fail
   go_end0
   exact⟨f,kp⟩
theorem iM{B:Nat}(h:cC B w w')(a:B<=(w:Nat))(o:Obj):cC B w (w'.alloc o):=h.alloc (bC a h.size) o
theorem acN{α:Type}(p:α->Bool)(l:List α)(a:k<l.length)(h:(l.take k).all p=cM)(b:p l[k]=cM):(l.take (k+1)).all p=cM:=by rw[bE a,fv,h];simp[b]
theorem aeG{α:Type}(p:α->Bool)(l:List α)(a:k<l.length)(b:p l[k]=cI):l.all p=cI:=by rw[List.all_eq_false];exact⟨l[k],bD a,by simp[b]⟩
theorem rW{l:List Int}{b:Bool}(h:ISl w v l)(c:l.length<=1000000)(a:l.all iB=b):cP cG 101 #[v] w λe w'=>eU b 1 e/\w'=w:=by rw[<-a];exact OM h c
theorem akD(p d:Int)(a b c:ez):xS ⟨p,d,a,b,c⟩=((decide (p≥ -1)&&decide (p<=1099511627776))&&[d].all iB&&rX a&&rX b&&rX c):=by simp[xS,fD]
theorem akE(a b c:Int)(v:ez):wS ⟨a,b,c,v⟩=([a,b,c].all iB&&rX v):=by simp[wS,eQ]
theorem akG(c:Cfg.C):FV c=(c.aN.all xS&&c.aR.all wS&&[c.aG,c.aJ].all iB):=by simp[FV,eQ]
theorem abO{b o:Nat}{x:Int}(d:b<(W:Nat))(a:W.cell? (b,o)=cA (cF cD x)):ISl W (ac (cA ⟨b,o,cL⟩) 1 cap) [x]:=
 DC (l:=[x]) d (λk c=>by
  match k,c with
  |0,_=>exact a) (by simp[cX])
theorem amb{b o:Nat}{x y:Int}(e:b<(W:Nat))(a:W.cell? (b,o)=cA (cF cD x))(c:W.cell? (b,o+1)=cA (cF cD y)):ISl W (ac (cA ⟨b,o,cL⟩) 2 cap) [x,y]:=
 DC (l:=[x,y]) e (λk d=>by
  match k,d with
  |0,_=>exact a
  |1,_=>exact c) (by simp[cX])
theorem aht(bg:bW w v c):cP cG 99 #[v] w λe w'=>eU (FV c) 1 e/\cC w w w':=by
 obtain⟨v1,v2,rfl,⟨A,ca,rfl,bl,al⟩,⟨B,ay,rfl,bm,am⟩⟩:=id bg;have O:=qZ (akG c);obtain⟨r,bb⟩:=nQ (FV c);rw[bb.out]at O⊢;obtain⟨R,g⟩:=nQ (eU r 1);rw[g.out];have ar:=qZ bl;have au:=qZ bm;obtain⟨m,hs,aG,aJ⟩:=c;simp only at al am ar au O⊢;obtain⟨N,aa⟩:=nQ m.length;obtain⟨M,Z⟩:=nQ hs.length;rw[aa.out]at al⊢;rw[Z.out]at am⊢;unfold cX at al am;obtain⟨K,ad⟩:=nQ (w.alloc (cE #[ac A N ca,ac B M ay,aG,aJ] 26));have bf:cC w w K:=by rw[<-ad.out];exact kp
 have X:=aX ad;have z:=qZ X;have L:=qZ bf;go_enter func99,ntmps99;go_wp2_with fail;rw[ad.out];go_loopg[9] N (λai aq wr=>∃k:Nat,aq=cF cD k/\k<=N/\N<=ai+k/\Hid ((m.take k).all xS=cM)/\Hid (cC K K wr));exact⟨0,mZ,oZ,oZ,qZ sZ,qZ (aK _ _)⟩
 obtain⟨k,rfl,b5,bz,I,l⟩:=hrel;have s:Hid (cC w w wr):=qZ (L.out.trans (l.mono L.size));by_cases bh:k<N
 .have bk:(k:Int)<(N:Int):=oZ;have y:k<m.length:=by rw[aa.out];exact bh
  obtain⟨bc,bn,rfl,bj,ak⟩:=nE ar y;have bs:=ak wr s;have ae:=qZ (λe:xS m[k]=cM=>acN xS m y I e);have ab:Hid (xS m[k]=cI->r=cI):=qZ (λe=>by rw[O.out,aeG xS m y e];rfl);generalize m[k]=x at*;obtain⟨p,az,⟨a0,a1,a2⟩,⟨ag,b1,b2⟩,⟨ah,c1,c2⟩⟩:=x;obtain⟨an,p1,p2,p3,p4,ao,p6,bp,bq,br,bo⟩:=bs;simp only at an p1 p2 p3 p4 ao p6 bp bq br bo;have u:=qZ (akD p az ⟨a0,a1,a2⟩ ⟨ag,b1,b2⟩ ⟨ah,c1,c2⟩);obtain⟨ap,bd⟩:=nZ (decide (p≥ -1));obtain⟨Q,be⟩:=nZ (decide (p<=1099511627776));obtain⟨o,F⟩:=nQ ([az].all iB);obtain⟨t4,J⟩:=nQ (rX ⟨a0,a1,a2⟩);obtain⟨T,aw⟩:=nQ (rX ⟨ag,b1,b2⟩);obtain⟨W,ax⟩:=nQ (rX ⟨ah,c1,c2⟩);rw[bd,be,F.out,J.out,aw.out,ax.out]at u;have Y:=qZ ((BG a0 a1 a2).trans J);have a8:=qZ ((BG ag b1 b2).trans aw);have a9:=qZ ((BG ah c1 c2).trans ax);have j:Hid ((ap&&Q&&o&&t4&&T&&W)=cI->r=cI):=qZ (λe=>ab (u.out.trans e));have af:Hid ((ap&&Q&&o&&t4&&T&&W)=cM->(m.take (k+1)).all xS=cM):=qZ (λe=>ae (u.out.trans e));cases ap
  .cases Q
   .go_wp2_with fail;refine(iC cI 1 _).mono ?_;rintro i n⟨a,rfl⟩;have f:r=cI:=j rfl;have d:R (wJ 1):=by rw[<-g.out,f];exact rfl
    rw[eU,aF sZ]at a;subst a;exact⟨rfl,d,iM s lZ _⟩
   .go_wp2_with fail;refine(iC cI 1 _).mono ?_;rintro i n⟨a,rfl⟩;have f:r=cI:=j rfl;have d:R (wJ 1):=by rw[<-g.out,f];exact rfl
    rw[eU,aF sZ]at a;subst a;exact⟨rfl,d,iM s lZ _⟩
  cases Q
  .go_wp2_with fail;refine(iC cI 1 _).mono ?_;rintro i n⟨a,rfl⟩;have f:r=cI:=j rfl;have d:R (wJ 1):=by rw[<-g.out,f];exact rfl
   rw[eU,aF sZ]at a;subst a;exact⟨rfl,d,iM s lZ _⟩
  .go_wp2_with fail;refine(iC cM 1 _).mono ?_;rintro i n⟨a,rfl⟩;rw[eU,aI rfl]at a;subst a;go_wp2_with fail;refine(rW (b:=o) (abO (by simp only[aT];omega) (by simp[go_sem])) sZ F).mono ?_;rintro i n⟨a,rfl⟩;cases o
   .have f:r=cI:=j rfl;have d:R (wJ 1):=by rw[<-g.out,f];exact rfl
    rw[eU,aF sZ]at a;subst a;exact⟨rfl,d,iM (iM s lZ _) lZ _⟩
   rw[eU,aI rfl]at a;subst a;go_wp2_with fail;refine(rW (b:=t4) (vI (by simp only[aT];omega) (by simp[go_sem]) (by simp[go_sem]) (by simp[go_sem])) sZ Y).mono ?_;rintro i n⟨a,rfl⟩;cases t4
   .have f:r=cI:=j rfl;have d:R (wJ 1):=by rw[<-g.out,f];exact rfl
    rw[eU,aF sZ]at a;subst a;exact⟨rfl,d,iM (iM s lZ _) lZ _⟩
   rw[eU,aI rfl]at a;subst a;go_wp2_with fail;refine(rW (b:=T) (vI (by simp only[aT];omega) (by simp[go_sem]) (by simp[go_sem]) (by simp[go_sem])) sZ a8).mono ?_;rintro i n⟨a,rfl⟩;cases T
   .have f:r=cI:=j rfl;have d:R (wJ 1):=by rw[<-g.out,f];exact rfl
    rw[eU,aF sZ]at a;subst a;exact⟨rfl,d,iM (iM s lZ _) lZ _⟩
   rw[eU,aI rfl]at a;subst a;go_wp2_with fail;refine(rW (b:=W) (vI (by simp only[aT];omega) (by simp[go_sem]) (by simp[go_sem]) (by simp[go_sem])) sZ a9).mono ?_;rintro i n⟨a,rfl⟩;cases W
   .have f:r=cI:=j rfl;have d:R (wJ 1):=by rw[<-g.out,f];exact rfl
    rw[eU,aF sZ]at a;subst a;exact⟨rfl,d,iM (iM s lZ _) lZ _⟩
   rw[eU,aI rfl]at a;subst a;go_wp2_with fail;go_roundg(N-(k+1));exact⟨k+1,mZ,oZ,oZ,qZ (af rfl),qZ (iM (iM l lZ _) lZ _)⟩;omega
 .have b3:¬(k:Int)<(N:Int):=oZ;have aj:m.all xS=cM:=by have:=I.out;rwa [aU (by rw[aa.out];omega)]at this
  have av:Hid (r=(hs.all wS&&[aG,aJ].all iB)):=qZ (by rw[O.out];simp only[aj,ff]);have bu:CV wr w 1 (ac B M ay):=(z.below l z.out.lt).cell 1;go_wp2_with fail;have bt:=l;go_loopg[39] M (λai aq wr=>∃k:Nat,aq=cF cD k/\k<=M/\M<=ai+k/\Hid ((hs.take k).all wS=cM)/\Hid (cC K K wr));exact⟨0,mZ,oZ,oZ,qZ sZ,l⟩
  obtain⟨q,rfl,b6,b0,I,l⟩:=hrel;have H:Hid (cC w w wr):=qZ (L.out.trans (l.mono L.size));by_cases bi:q<M
  .have bk:(q:Int)<(M:Int):=oZ;have y:q<hs.length:=by rw[Z.out];exact bi
   obtain⟨bc,bn,rfl,bj,ak⟩:=qX au y;obtain⟨an,p1,p2,p3,p4,ao⟩:=ak wr H;have ae:=qZ (λe:wS hs[q]=cM=>acN wS hs y I e);have ab:Hid (wS hs[q]=cI->r=cI):=qZ (λe=>by rw[av.out,aeG wS hs y e];rfl);generalize hs[q]=x at*;obtain⟨x0,X,a5,⟨a0,a1,a2⟩⟩:=x;simp only at an p1 p2 p3 p4 ao;have u:=qZ (akE x0 X a5 ⟨a0,a1,a2⟩);obtain⟨o,F⟩:=nQ ([x0,X,a5].all iB);obtain⟨t4,J⟩:=nQ (rX ⟨a0,a1,a2⟩);rw[F.out,J.out]at u;have Y:=qZ ((BG a0 a1 a2).trans J);have j:Hid ((o&&t4)=cI->r=cI):=qZ (λe=>ab (u.out.trans e));have af:Hid ((o&&t4)=cM->(hs.take (q+1)).all wS=cM):=qZ (λe=>ae (u.out.trans e));go_wp2_with fail;refine(rW (b:=o) (vI (by simp only[aT];omega) (by simp[go_sem]) (by simp[go_sem]) (by simp[go_sem])) sZ F).mono ?_;rintro i n⟨a,rfl⟩;cases o
   .have f:r=cI:=j rfl;have d:R (wJ 1):=by rw[<-g.out,f];exact rfl
    rw[eU,aF sZ]at a;subst a;exact⟨rfl,d,iM (iM H lZ _) lZ _⟩
   rw[eU,aI rfl]at a;subst a;go_wp2_with fail;refine(rW (b:=t4) (vI (by simp only[aT];omega) (by simp[go_sem]) (by simp[go_sem]) (by simp[go_sem])) sZ Y).mono ?_;rintro i n⟨a,rfl⟩;cases t4
   .have f:r=cI:=j rfl;have d:R (wJ 1):=by rw[<-g.out,f];exact rfl
    rw[eU,aF sZ]at a;subst a;exact⟨rfl,d,iM (iM H lZ _) lZ _⟩
   rw[eU,aI rfl]at a;subst a;go_wp2_with fail;go_roundg(M-(q+1));exact⟨q+1,mZ,oZ,oZ,qZ (af rfl),qZ (iM (iM l lZ _) lZ _)⟩;omega
  .have b4:¬(q:Int)<(M:Int):=oZ;have aj:hs.all wS=cM:=by have:=I.out;rwa [aU (by rw[Z.out];omega)]at this
   have ba:Hid (r=[aG,aJ].all iB):=qZ (by rw[av.out];simp only[aj,ff]);have bv:CI wr w 2 aG:=(z.below l z.out.lt).cell 2;have bw:CI wr w 3 aJ:=(z.below l z.out.lt).cell 3;go_wp2_with fail;refine(rW (b:=r) (amb (by simp only[aT];omega) (by simp[go_sem]) (by simp[go_sem])) sZ ba.out.symm).mono ?_;rintro i n⟨a,rfl⟩;have d:R i:=by rw[<-g.out];exact a
   cases r
   .rw[eU,aF sZ]at a;subst a;exact⟨rfl,d,iM H lZ _⟩
   .rw[eU,aI rfl]at a;subst a;go_wp2_with fail
    go_end0
    exact⟨d,iM H lZ _⟩
section
variable (a0 a1 a2 a3 a4 a5 a6 a7 a8:Int) (w:cH)
theorem apP:(fz 3 #[cQ cD a0,a1,a2,a3,a4,a5,a6,a7,a8] 0).run cG w=.ok a0 w:=by kernel_rfl
theorem apO:(fz 3 #[cQ cD a0,a1,a2,a3,a4,a5,a6,a7,a8] 1).run cG w=.ok a1 w:=by kernel_rfl
theorem apN:(fz 3 #[cQ cD a0,a1,a2,a3,a4,a5,a6,a7,a8] 2).run cG w=.ok a2 w:=by kernel_rfl
theorem apM:(fz 40 #[cQ cD a0,a1,a2,a3,a4,a5,a6,a7,a8] 3).run cG w=.ok (cS #[a3,a4,a5]) w:=by kernel_rfl
theorem apL:(fz 3 #[cQ cD a0,a1,a2,a3,a4,a5,a6,a7,a8] 6).run cG w=.ok a6 w:=by kernel_rfl
theorem apK:(fz 3 #[cQ cD a0,a1,a2,a3,a4,a5,a6,a7,a8] 7).run cG w=.ok a7 w:=by kernel_rfl
theorem apJ:(fz 3 #[cQ cD a0,a1,a2,a3,a4,a5,a6,a7,a8] 8).run cG w=.ok a8 w:=by kernel_rfl
theorem aoE:(eM 10000 42 (cS #[a0,a1,a2,a3,a4,a5,a6,a7,a8]) (cS #[(),(),(),(),(),(),(),(),()])).run cG w=.ok (IY ⟨a0,a1,a2,⟨a3,a4,a5⟩,a6,a7,a8,0,0⟩) w:=by
 have c:prog.underlying 42=cA (.struct (prog.fieldsOf 42)):=kZ;have d:prog.stoodInHeld 42=cI:=kZ;rw[show(10000:Nat)=9999+1 from rfl,run_equalIn_agg w 9999 42 _ _ c d];simp only[Program.fieldsOf,underlying42];have v1:=λx0 u v x y z w=>agm 9997 x0 u v x y z w;have f:=λa b w=>TQ 9998 a b w;simp only[Op.eqFields,apP,apO,apN,apM,apL,apK,apJ,v1,f,Sem.run_bind,e0,Sem.run_pure,Sem.run_ite];have n1:("Id" :String)≠ "_" :=dZ;have n2:("Tenant" :String)≠ "_" :=dZ;have g:("Pods" :String)≠ "_" :=dZ;have i:("Need" :String)≠ "_" :=dZ;have j:("Run" :String)≠ "_" :=dZ;have k:("Level" :String)≠ "_" :=dZ;have l:("Prefer" :String)≠ "_" :=dZ;simp only[n1,n2,g,i,j,k,l,ne_eq,not_false_eq_true,if_true];have e:sN ⟨a3,a4,a5⟩ ⟨0,0,0⟩=pW ⟨a3,a4,a5⟩:=by simp[sN,pW]
 rw[e];unfold IY;simp only;generalize(a0==0)=m;generalize(a1==0)=n;generalize(a2==0)=o;generalize pW ⟨a3,a4,a5⟩=p;generalize(a6==0)=t4;generalize(a7==0)=r;generalize(a8==0)=s;cases m<;>cases n<;>cases o<;>cases p<;>cases t4<;>cases r<;>cases s<;>rfl
end
def qF(kind:Int)(v1 v2:cN)(aG aJ:Int)(g:cY)(n:Int):cN:=cS (#[cF cD kind,v1,v2,cF cD aG,cF cD aJ]++gK g++#[cF cD n])
theorem ajH(kind:Int)(c:List lN)(hs:List iI)(aG aJ:Int)(g:cY)(n:Int){N M:Nat}(j:c.length=N)(i:hs.length=M):wM ⟨kind,⟨c,hs,aG,aJ⟩,g,n⟩=if(decide (kind≥1)&&decide (kind<=6))&&((kind==1)||((((N:Int)==0)&&((M:Int)==0))&&(aG==0))&&(aJ==0))&&((kind==2)||IY g)&&((((kind==3)||(kind==4))||(kind==5))||(n==0))&&FV ⟨c,hs,aG,aJ⟩&&FU g&&[n].all iB then(if decide ((N:Int)<=12)&&decide ((M:Int)<=24)then 0 else 8)else 1:=by
 subst j i;unfold wM ajX ane fD;have d:(c.isEmpty)=((c.length:Int)==0):=by
  cases c with
  |nil=>rfl
  |cons a l=>simp;omega
 have e:(hs.isEmpty)=((hs.length:Int)==0):=by
  cases hs with
  |nil=>rfl
  |cons a l=>simp;omega
 rw[d,e];have f:(if c.length<=12/\hs.length<=24 then(0:Int)else 8)=(if decide ((c.length:Int)<=12)&&decide ((hs.length:Int)<=24)then 0 else 8):=by by_cases a:c.length<=12<;>by_cases b:hs.length<=24<;>simp[a,b]<;>omega
 rw[f];simp only[List.all_cons,List.all_nil,Bool.and_true]
def acX(E:Int)(w:cH)(e:eW)(w':cH):Prop:=e=cJ E/\cC w w w'
theorem amH{w1 W:cH}{b:Nat}{x k:Int}(c:b<(W:Nat))(a:cC W W w1)(d:W.cell? (b,0)=cA (cF cD x)):(w1.setCell (b,0) k).cell? (b,0)=cA (cF cD k):=by have h:CI w1 b 0 x:=(a.cell c).trans d;simp[h,go_sem]
theorem nX{w W:cH}{E k:Int}{b:Nat}{tmps:Array cN}(j:k=E)(l:tmps[2]? =cA (cU b))(c:b<(W:Nat))(m:(w:Nat)<=b)(g:cC w w W)(d:W.cell? (b,0)=cA (cF cD 0))(n:W.frozen? (b,0)=cI):Leaves cG Tryz.f48 tmps (acX E w) [{target:=.fn (.func 97) #[],args:=#[cU b]}] (.panicking [{v:=RL k,recovered:=cI}]) W:=by
 subst j;refine leaves_cons (f:=97) (args:=#[cU b]) sZ (by simp[go_sem]) ?_;refine(agC ⟨b,0,cL⟩ 0 k [] W c d n).mono ?_;rintro e u' o⟨rfl,rfl,w1,a,rfl⟩;have i:=amH (k:=k) c a d;refine⟨cF cD k,?_,rfl,?_⟩
 .simp[results,Tryz.results48,l,i,go_sem]
 .exact(g.trans (a.mono g.size)).setCell m _
theorem amG{w W:cH}{E k:Int}{b:Nat}{tmps:Array cN}(a:k=E)(g:tmps[2]? =cA (cU b))(d:cC w w W)(c:W.cell? (b,0)=cA (cF cD k)):Leaves cG Tryz.f48 tmps (acX E w) [{target:=.fn (.func 97) #[],args:=#[cU b]}] .returning W:=by subst a;refine leaves_cons (f:=97) (args:=#[cU b]) sZ (by simp[go_sem]) ?_;refine(UD ⟨b,0,cL⟩ W).mono ?_;rintro e u' i⟨rfl,rfl,rfl⟩;refine⟨cF cD k,?_,rfl,d⟩;simp[results,Tryz.results48,g,c,go_sem]
theorem FX{w:cH}{v1 v2:cN}{x:Top.Cmd}(L:bW w (cS #[v1,v2,x.c.aG,x.c.aJ]) x.c):cP cG 48 #[qF x.kind v1 v2 x.c.aG x.c.aJ x.g x.n] w λe w'=>acX (wM x) w e w':=by
 obtain⟨kind,⟨X,hs,aG,aJ⟩,g,n⟩:=x;simp only at L⊢;obtain⟨_,_,a,⟨A,ca,rfl,cd,bi⟩,⟨B,K,rfl,ce,bj⟩⟩:=id L;simp only[Value.agg.injEq,eB,dJ,and_true]at a;obtain⟨rfl,rfl⟩:=a;simp only at bi bj;obtain⟨N,a9⟩:=nQ X.length;obtain⟨M,a8⟩:=nQ hs.length;obtain⟨E,a5⟩:=nQ (wM ⟨kind,⟨X,hs,aG,aJ⟩,g,n⟩);have T:=qZ ((a5.out.symm).trans (ajH kind X hs aG aJ g n a9 a8));rw[a5.out];rw[a9.out]at L bi⊢;rw[a8.out]at L bj⊢;obtain⟨id,s,p,⟨x,y,z⟩,run,aP,r,av,au⟩:=g;have J:IY ⟨id,s,p,⟨x,y,z⟩,run,aP,r,av,au⟩=IY ⟨id,s,p,⟨x,y,z⟩,run,aP,r,0,0⟩:=rfl;rw[J]at T;have bq:=qZ L;clear J;simp only[qF,gK];have aw:=qZ (aoE id s p x y z run aP r);obtain⟨ao,bg⟩:=nZ (decide (kind≥1));obtain⟨ap,bh⟩:=nZ (decide (kind<=6));obtain⟨e1,bb⟩:=nZ ((kind==1));obtain⟨e2,bc⟩:=nZ ((kind==2));obtain⟨e3,bd⟩:=nZ ((kind==3));obtain⟨e4,be⟩:=nZ ((kind==4));obtain⟨ag,bf⟩:=nZ ((kind==5));obtain⟨n0,bk⟩:=nZ ((n==0));obtain⟨n1,bl⟩:=nZ (((N:Int)==0));obtain⟨n2,bm⟩:=nZ (((M:Int)==0));obtain⟨aq,bn⟩:=nZ ((aG==0));obtain⟨ar,bo⟩:=nZ ((aJ==0));obtain⟨af,J⟩:=nZ (IY ⟨id,s,p,⟨x,y,z⟩,run,aP,r,0,0⟩);obtain⟨Y,al⟩:=nZ (FV ⟨X,hs,aG,aJ⟩);obtain⟨Z,am⟩:=nZ (FU ⟨id,s,p,⟨x,y,z⟩,run,aP,r,av,au⟩);obtain⟨O,an⟩:=nZ ([n].all iB);obtain⟨s1,bw⟩:=nZ (decide ((N:Int)<=12));obtain⟨s2,bz⟩:=nZ (decide ((M:Int)<=24));rw[bg,bh,bb,bc,bd,be,bf,bk,bl,bm,bn,bo,J,al,am,an,bw,bz]at T;rw[J]at aw;have br:=qZ al;have bs:=qZ am;have bt:=qZ an;clear al am an J;obtain⟨f,W⟩:=nQ ((w.alloc (cE #[kind,ac A N ca,ac B M K,aG,aJ,id,s,p,x,y,z,run,aP,r,n] 61)).alloc (cE #[()] 57));have bu:cC w w f:=by rw[<-W.out];exact kp
 have l:Blk f w 61 #[kind,ac A N ca,ac B M K,aG,aJ,id,s,p,x,y,z,run,aP,r,n]:=by rw[<-W.out];exact(dC _ _ _).alloc _
 have b9:Blk f ((w:Nat)+1) 57 #[()]:=by rw[<-W.out];have h:=dC (w.alloc (cE #[kind,ac A N ca,ac B M K,aG,aJ,id,s,p,x,y,z,run,aP,r,n] 61)) 57 #[()];simp only[aT]at h;exact h
 have a0:=qZ l;have c:=qZ b9;have o:=qZ bu;have cg:CI f w 0 kind:=l.cell 0;have p1:CV f w 1 (ac A N ca):=l.cell 1;have p2:CV f w 2 (ac B M K):=l.cell 2;have p3:CI f w 3 aG:=l.cell 3;have p4:CI f w 4 aJ:=l.cell 4;have b5:CI f w 5 id:=l.cell 5;have p6:CI f w 6 s:=l.cell 6;have b6:CI f w 7 p:=l.cell 7;have b7:CI f w 8 x:=l.cell 8;have b8:CI f w 9 y:=l.cell 9;have b0:CI f w 10 z:=l.cell 10;have b1:CI f w 11 run:=l.cell 11;have b2:CI f w 12 aP:=l.cell 12;have b3:CI f w 13 r:=l.cell 13;have b4:CI f w 14 n:=l.cell 14;have v:Hid (((ao&&ap)&&(e1||(((n1&&n2)&&aq)&&ar))&&(e2||af)&&(((e3||e4)||ag)||n0)&&Y&&Z&&O)=cI->E=1):=qZ (λh=>by rw[T.out,h];rfl);have cc:∀(fn:Fn) (first cap:Array cN) (w:cH),(Instr.makeFunc fn first cap).run cG w=.ok (.func fn first cap) w:=λ_ _ _ _=>rfl;go_enter_defers func48,ntmps48;go_upto_region 2 with fail;rw[W.out];go_cut[]from 3 (λI=>f=I/\(ao&&ap)=cM);case first=>
  cases ao
  .go_wp2_with fail;refine(iC cI _ _).mono ?_;rintro d j⟨a,rfl⟩;rw[eU,aF sZ]at a;subst a;exact nX (v sZ).symm rfl c.out.lt (eX _) o (c.cell 0) (c.frozen 0)
  .cases ap
   .go_wp2_with fail;refine(iC cI _ _).mono ?_;rintro d j⟨a,rfl⟩;rw[eU,aF sZ]at a;subst a;exact nX (v sZ).symm rfl c.out.lt (eX _) o (c.cell 0) (c.frozen 0)
   .go_wp2_with fail;refine(iC cM _ _).mono ?_;rintro d j⟨a,rfl⟩;rw[eU,aI rfl]at a;subst a;go_wp2_with fail;go_meet;exact⟨rfl,rfl⟩
 case rest=>
  obtain⟨H,F⟩:=hcut;subst H;have ax:=qZ F;clear bg bh;go_upto_region 3 with fail;go_cut[]from 3 (λI=>f=I/\(e1||(((n1&&n2)&&aq)&&ar))=cM);case first=>
   cases e1
   .cases n1
    .go_wp2_with fail;refine(iC cI _ _).mono ?_;rintro d j⟨a,rfl⟩;rw[eU,aF sZ]at a;subst a;exact nX (v sZ).symm rfl c.out.lt (eX _) o (c.cell 0) (c.frozen 0)
    .cases n2
     .go_wp2_with fail;refine(iC cI _ _).mono ?_;rintro d j⟨a,rfl⟩;rw[eU,aF sZ]at a;subst a;exact nX (v sZ).symm rfl c.out.lt (eX _) o (c.cell 0) (c.frozen 0)
     .cases aq
      .go_wp2_with fail;refine(iC cI _ _).mono ?_;rintro d j⟨a,rfl⟩;rw[eU,aF sZ]at a;subst a;exact nX (v sZ).symm rfl c.out.lt (eX _) o (c.cell 0) (c.frozen 0)
      .cases ar
       .go_wp2_with fail;refine(iC cI _ _).mono ?_;rintro d j⟨a,rfl⟩;rw[eU,aF sZ]at a;subst a;exact nX (v sZ).symm rfl c.out.lt (eX _) o (c.cell 0) (c.frozen 0)
       .go_wp2_with fail;refine(iC cM _ _).mono ?_;rintro d j⟨a,rfl⟩;rw[eU,aI rfl]at a;subst a;go_wp2_with fail;go_meet;exact⟨rfl,rfl⟩
   .go_wp2_with fail;refine(iC cM _ _).mono ?_;rintro d j⟨a,rfl⟩;rw[eU,aI rfl]at a;subst a;go_wp2_with fail;go_meet;exact⟨rfl,rfl⟩
  case rest=>
   obtain⟨H,F⟩:=hcut;subst H;have ay:=qZ F;clear bb bl bm bn bo;go_upto_region 4 with fail;go_cut[]from 3 (λI=>f=I/\(e2||af)=cM);case first=>
    have cb:=aw.out;cases e2
    .cases af
     .go_wp2_with fail;refine(iC cI _ _).mono ?_;rintro d j⟨a,rfl⟩;rw[eU,aF sZ]at a;subst a;exact nX (v sZ).symm rfl c.out.lt (eX _) o (c.cell 0) (c.frozen 0)
     .go_wp2_with fail;refine(iC cM _ _).mono ?_;rintro d j⟨a,rfl⟩;rw[eU,aI rfl]at a;subst a;go_wp2_with fail;go_meet;exact⟨rfl,rfl⟩
    .go_wp2_with fail;refine(iC cM _ _).mono ?_;rintro d j⟨a,rfl⟩;rw[eU,aI rfl]at a;subst a;go_wp2_with fail;go_meet;exact⟨rfl,rfl⟩
   case rest=>
    obtain⟨H,F⟩:=hcut;subst H;have az:=qZ F;clear bc;go_upto_region 5 with fail;go_cut[]from 3 (λI=>f=I/\(((e3||e4)||ag)||n0)=cM);case first=>
     cases e3
     .cases e4
      .cases ag
       .cases n0
        .go_wp2_with fail;refine(iC cI _ _).mono ?_;rintro d j⟨a,rfl⟩;rw[eU,aF sZ]at a;subst a;exact nX (v sZ).symm rfl c.out.lt (eX _) o (c.cell 0) (c.frozen 0)
        .go_wp2_with fail;refine(iC cM _ _).mono ?_;rintro d j⟨a,rfl⟩;rw[eU,aI rfl]at a;subst a;go_wp2_with fail;go_meet;exact⟨rfl,rfl⟩
       .go_wp2_with fail;refine(iC cM _ _).mono ?_;rintro d j⟨a,rfl⟩;rw[eU,aI rfl]at a;subst a;go_wp2_with fail;go_meet;exact⟨rfl,rfl⟩
      .go_wp2_with fail;refine(iC cM _ _).mono ?_;rintro d j⟨a,rfl⟩;rw[eU,aI rfl]at a;subst a;go_wp2_with fail;go_meet;exact⟨rfl,rfl⟩
     .go_wp2_with fail;refine(iC cM _ _).mono ?_;rintro d j⟨a,rfl⟩;rw[eU,aI rfl]at a;subst a;go_wp2_with fail;go_meet;exact⟨rfl,rfl⟩
    case rest=>
     obtain⟨H,F⟩:=hcut;subst H;have ab:Hid ((Y&&Z&&O)=cI->E=1):=qZ (λh=>v (by rw[ax.out,ay.out,az.out,F];simpa using h));have ad:Hid ((Y&&Z&&O)=cM->E=if(s1&&s2)then 0 else 8):=qZ (λh=>by rw[T.out,ax.out,ay.out,az.out,F];simp only[ff];rw[aI h]);clear bd be bf bk;have ba:=qZ (aht (bq.below o));rw[br.out]at ba;go_wp2_with fail;refine ba.out.mono ?_;rintro d u⟨a,ai⟩;have i:=qZ (aC (a0.below ai a0.out.lt) (aC (c.below ai c.out.lt) (o.out.trans (ai.mono o.size))));cases Y
     .rw[eU,aF sZ]at a;subst a;exact nX (ab sZ).symm rfl i.2.1.lt (eX _) i.2.2 (i.2.1.cell 0) (i.2.1.frozen 0)
     .rw[eU,aI rfl]at a;subst a;have b5:CI u w 5 id:=i.1.cell 5;have p6:CI u w 6 s:=i.1.cell 6;have b6:CI u w 7 p:=i.1.cell 7;have b7:CI u w 8 x:=i.1.cell 8;have b8:CI u w 9 y:=i.1.cell 9;have b0:CI u w 10 z:=i.1.cell 10;have b1:CI u w 11 run:=i.1.cell 11;have b2:CI u w 12 aP:=i.1.cell 12;have b3:CI u w 13 r:=i.1.cell 13;have ah:=qZ (ahs ⟨id,s,p,⟨x,y,z⟩,run,aP,r,av,au⟩ u);rw[bs.out]at ah;simp only[dV,gK]at ah;go_wp2_with fail;refine ah.out.mono ?_;rintro d Q⟨a,aj⟩;have m:=qZ (aC (i.1.below aj i.1.lt) (aC (i.2.1.below aj i.2.1.lt) (i.2.2.trans (aj.mono i.2.2.size))));cases Z
      .rw[eU,aF sZ]at a;subst a;exact nX (ab sZ).symm rfl m.2.1.lt (eX _) m.2.2 (m.2.1.cell 0) (m.2.1.frozen 0)
      .rw[eU,aI rfl]at a;subst a;have b4:CI Q w 14 n:=m.1.cell 14;go_wp2_with fail;obtain⟨bp,ae⟩:=nQ (Q.alloc (cE #[n] 3));have ak:cC Q Q bp:=by rw[<-ae.out];exact kp
       have bv:ISl bp (ac Q 1 1) [n]:=by rw[<-ae.out];exact abO (by simp only[aT];omega) (by simp[go_sem])
       have k:=qZ (aC (m.1.below ak m.1.lt) (aC (m.2.1.below ak m.2.1.lt) (m.2.2.trans (ak.mono m.2.2.size))));rw[ae.out];refine(rW (b:=O) bv sZ bt).mono ?_;rintro d aa⟨a,rfl⟩;cases O
       .rw[eU,aF sZ]at a;subst a;exact nX (ab sZ).symm rfl k.2.1.lt (eX _) k.2.2 (k.2.1.cell 0) (k.2.1.frozen 0)
       .rw[eU,aI rfl]at a;subst a;have p1:CV aa w 1 (ac A N ca):=k.1.cell 1;have p2:CV aa w 2 (ac B M K):=k.1.cell 2;have ch:CI aa ((w:Nat)+1) 0 0:=k.2.1.cell 0;have ci:aa.frozen? ((w:Nat)+1,0)=cI:=k.2.1.frozen 0;cases s1
        .go_wp2_with fail;refine(iC cI _ _).mono ?_;rintro d j⟨a,rfl⟩;rw[eU,aF sZ]at a;subst a;exact nX (ad sZ).symm rfl k.2.1.lt (eX _) k.2.2 (k.2.1.cell 0) (k.2.1.frozen 0)
        .cases s2
         .go_wp2_with fail;refine(iC cI _ _).mono ?_;rintro d j⟨a,rfl⟩;rw[eU,aF sZ]at a;subst a;exact nX (ad sZ).symm rfl k.2.1.lt (eX _) k.2.2 (k.2.1.cell 0) (k.2.1.frozen 0)
         .go_wp2_with fail;refine(iC cM _ _).mono ?_;rintro d j⟨a,rfl⟩;rw[eU,aI rfl]at a;subst a;go_wp2_with fail;exact amG (ad sZ).symm rfl (k.2.2.setCell (eX _) _) ((k.2.1.bR 0 (cF cD 0)).cell 0)
open Go.RowKit L bO eO Srt
def ofV(kind:Int)(v1 v2:cN)(aG aJ:Int)(g:cY)(n:Int):cN:=if kind=1 then .iface 105 (cS #[v1,v2,aG,aJ])else if kind=2 then .iface 109 (cS (gK g))else if kind=3 then .iface 112 (cS #[n])else if kind=4 then .iface 114 (cS #[n])else if kind=5 then .iface 118 (cS #[n])else .iface 122 (cS #[])
def aqT(V:cN)(w:cH)(e:eW)(w':cH):Prop:=e=cJ V/\cC w w w'
theorem anB(kind:Int)(A B:Option fw)(N ca M c:Nat)(aG aJ:Int)(g:cY)(n:Int)(w:cH):cP cG 49 #[qF kind (ac A N ca) (ac B M c) aG aJ g n] w λe w'=>aqT (ofV kind (ac A N ca) (ac B M c) aG aJ g n) w e w':=by
 obtain⟨V,b⟩:=nZ (ofV kind (ac A N ca) (ac B M c) aG aJ g n);rw[b];obtain⟨id,H,s,⟨x,y,z⟩,run,aP,u,F,v⟩:=g;simp only[ofV,gK]at b;have a:=qZ b;clear b;simp only[qF,gK];by_cases d:kind=1
 .subst d;have hv:=a.out;simp only[if_true,eL,if_false]at hv;subst hv;go_enter fu,fg;go_wp2_with fail;go_ret;exact⟨rfl,kp⟩
 by_cases f:kind=2
 .subst f;have hv:=a.out;simp only[if_true,eL,if_false]at hv;subst hv;go_enter fu,fg;go_wp2_with fail;go_ret;exact⟨rfl,kp⟩
 by_cases i:kind=3
 .subst i;have hv:=a.out;simp only[if_true,eL,if_false]at hv;subst hv;go_enter fu,fg;go_wp2_with fail;go_ret;exact⟨rfl,kp⟩
 by_cases j:kind=4
 .subst j;have hv:=a.out;simp only[if_true,eL,if_false]at hv;subst hv;go_enter fu,fg;go_wp2_with fail;go_ret;exact⟨rfl,kp⟩
 by_cases k:kind=5
 .subst k;have hv:=a.out;simp only[if_true,eL,if_false]at hv;subst hv;go_enter fu,fg;go_wp2_with fail;go_ret;exact⟨rfl,kp⟩
 have l:(kind==1)=cI:=by simpa using d
 have m:(kind==2)=cI:=by simpa using f
 have o:(kind==3)=cI:=by simpa using i
 have p:(kind==4)=cI:=by simpa using j
 have r:(kind==5)=cI:=by simpa using k
 have hv:=a.out;rw[aF d,aF f,aF i,aF j,aF k]at hv;subst hv;go_enter fu,fg;go_wp2_with fail;go_ret;exact⟨rfl,kp⟩
theorem tF(n lo hi:Int):eP cG 111 #[n,lo,hi] (eu (fD n lo hi)):=λw=>by
 unfold fD;by_cases h:lo<=n
 .by_cases a:n<=hi
  .go_enter func111,ntmps111;go_wp2;go_ret;exact⟨by simp[h,a],kp⟩
  .go_enter func111,ntmps111;go_wp2;go_ret;exact⟨by simp[h,a],kp⟩
 .go_enter func111,ntmps111;go_wp2;go_ret;exact⟨by simp;omega,kp⟩
theorem acr(x n:Int)(b:Nat)(w:cH)(a:b<(w:Nat))(c:w.cell? (b,0)=cA (cF cD n)):cP cG 146 #[x,cU b] w λe w'=>e=cJ (eu (x==n))/\w'=w:=by go_enter func146,ntmps146;go_wp2_with fail;go_ret;exact⟨rfl,rfl⟩
theorem anq(p:cY):eP cG 337 #[cS (eF p)] p.id:=λw=>by obtain⟨a,p1,f,⟨n0,n1,n2⟩,p6,c,d,e,b⟩:=p;simp only[eF];go_enter func337,ntmps337;go_wp2_with fail;go_ret;exact⟨rfl,bZ⟩
theorem aat(p:cY):eP cG 338 #[cS (eF p)] p.seq:=λw=>by obtain⟨a,p1,f,⟨n0,n1,n2⟩,p6,c,d,e,b⟩:=p;simp only[eF];go_enter func338,ntmps338;go_wp2_with fail;go_ret;exact⟨rfl,bZ⟩
theorem apD(p:cY)(n:Int):eP cG 160 #[.iface 223 (cS (eF p)),n] (eu (p.id==n)):=λw=>by have g:=anq p;obtain⟨c,p1,k,⟨n0,n1,n2⟩,p6,f,i,j,d⟩:=p;simp only[eF]at*;go_enter func160,ntmps160;go_wp2_with fail;refine(g _).mono ?_;rintro e l⟨rfl,b⟩;have a:=qZ b;go_wp2_with fail;go_ret;exact⟨rfl,a⟩
theorem agK(p q:cY):eP cG 163 #[.iface 223 (cS (eF p)),.iface 223 (cS (eF q))] (eu (decide (q.seq<p.seq))):=λw=>by have g:=qZ (aat p);have a:=qZ (aat q);obtain⟨k,d⟩:=nQ (eF p);obtain⟨l,f⟩:=nQ (eF q);rw[d.out]at g⊢;rw[f.out]at a⊢;generalize p.seq=m at*;generalize q.seq=n at*;go_enter func163,ntmps163;go_wp2_with fail;refine(g.out _).mono ?_;rintro e o⟨rfl,i⟩;have b:=qZ i;go_wp2_with fail;refine(a.out _).mono ?_;rintro e r⟨rfl,j⟩;have c:=qZ (aA b j);go_wp2_with fail;go_ret;exact⟨rfl,c⟩
theorem amr(p:cY)(n:Int)(b:Nat)(w:cH)(o:b<(w:Nat))(u:w.cell? (b,0)=cA (cF cD n)):cP cG 159 #[cS (eF p),cU b] w λe w'=>e=cJ (eu (p.id==n))/\cC w w w':=by have g:=qZ (apD p n);obtain⟨a,p1,k,⟨n0,n1,n2⟩,p6,f,i,j,d⟩:=p;simp only[eF]at*;generalize(a==n)=s at*;have c:cC w w (w.alloc (cE #[a,p1,k,n0,n1,n2,p6,f,i,j,d] 44)):=bZ;have v:(w.alloc (cE #[a,p1,k,n0,n1,n2,p6,f,i,j,d] 44)).cell? (b,0)=cA (cF cD n):=(c.cell (p:=⟨b,0,cL⟩) o).trans u;have m:=qZ c;have x:¬b=(w:Nat):=oZ;go_enter func159,ntmps159;go_wp2_with fail;refine(g.out _).mono ?_;rintro e y⟨rfl,r⟩;have l:=qZ (aA m r);go_wp2_with fail;go_ret;exact⟨rfl,l⟩
theorem alz(p q:cY)(b:Nat)(w:cH)(l:Blk w b 44 (eF q)):cP cG 162 #[cS (eF p),cU b] w λe w'=>e=cJ (eu (decide (q.seq<p.seq)))/\cC w w w':=by
 have g:=qZ (agK p q);obtain⟨c,p1,j,⟨n0,n1,n2⟩,p6,f,i,a,d⟩:=p;obtain⟨z,A,K,⟨v,x,y⟩,H,I,J,n,F⟩:=q;simp only[eF]at*;generalize decide (n<a)=s at*;have m:cC w w (w.alloc (cE #[c,p1,j,n0,n1,n2,p6,f,i,a,d] 44)):=bZ;have k:=l.below m l.lt;have M:¬b=(w:Nat):=by have:=l.lt;omega
 have L:(w.alloc (cE #[c,p1,j,n0,n1,n2,p6,f,i,a,d] 44)).cell? (b,0)=cA (cF cD z):=k.cell 0;have c1:(w.alloc (cE #[c,p1,j,n0,n1,n2,p6,f,i,a,d] 44)).cell? (b,1)=cA (cF cD A):=k.cell 1;have c2:(w.alloc (cE #[c,p1,j,n0,n1,n2,p6,f,i,a,d] 44)).cell? (b,2)=cA (cF cD K):=k.cell 2;have c3:(w.alloc (cE #[c,p1,j,n0,n1,n2,p6,f,i,a,d] 44)).cell? (b,3)=cA (cF cD v):=k.cell 3;have c4:(w.alloc (cE #[c,p1,j,n0,n1,n2,p6,f,i,a,d] 44)).cell? (b,4)=cA (cF cD x):=k.cell 4;have c5:(w.alloc (cE #[c,p1,j,n0,n1,n2,p6,f,i,a,d] 44)).cell? (b,5)=cA (cF cD y):=k.cell 5;have c6:(w.alloc (cE #[c,p1,j,n0,n1,n2,p6,f,i,a,d] 44)).cell? (b,6)=cA (cF cD H):=k.cell 6;have c7:(w.alloc (cE #[c,p1,j,n0,n1,n2,p6,f,i,a,d] 44)).cell? (b,7)=cA (cF cD I):=k.cell 7;have c8:(w.alloc (cE #[c,p1,j,n0,n1,n2,p6,f,i,a,d] 44)).cell? (b,8)=cA (cF cD J):=k.cell 8;have c9:(w.alloc (cE #[c,p1,j,n0,n1,n2,p6,f,i,a,d] 44)).cell? (b,9)=cA (cF cD n):=k.cell 9;have c10:(w.alloc (cE #[c,p1,j,n0,n1,n2,p6,f,i,a,d] 44)).cell? (b,10)=cA (cF cD F):=k.cell 10;have r:=qZ m;go_enter func162,ntmps162;go_wp2_with fail;refine(g.out _).mono ?_;rintro e N⟨rfl,u⟩;have o:=qZ (aA r u);go_wp2_with fail;go_ret;exact⟨rfl,o⟩
end bT
end Go.Proofs.YtedmeglbjmdlhaaGreatDoor
