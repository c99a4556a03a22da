/-
Parts of TopFirst.
-/
import Derived.RangeFuncNested
import Derived.RangeFuncBound
import Derived.OwnWalkIn
import Derived.TacticsInMore
import Derived.LoopNIn
import Derived.LoopIn
import Derived.Test.YtedmeglbjmdlhaaGreatDoorF3
set_option maxRecDepth 100000
set_option maxHeartbeats 16000000
set_option linter.all false
open Go.Proofs.Tryz
namespace Go.Proofs.YtedmeglbjmdlhaaGreatDoor
open Go.Obj renaming cells->ac
open Go.Value renaming slice->bT,pointer->cE,agg->cN,int->cR,int->gz,ownBlock->ha,bool->hb
open Go renaming World->cA,Value->cS,bodyPost_ret->eK,Calls->eQ,callsIn_of_wp_marks->fq,run_takeDeferred->fx,Ending->gf,results_none->gg,callFunc->gi,run_endLoop->gl,FuncId->gm,getD_replicate_false->gn,maxLen->gr,Deferred->gv,Oper->gw,callsIn_wide->gx,wpIn_mono->gy,wpIn_wide->gA,LetsOut->gC,Exit->gS,Code->hd,wpList->hg,Program->hh
open Option renaming some->cC,none->cD,getD_some->gb
open Vec renaming zero->cF,V->cI,add->dE,nI->fy
open Go.Proofs.Tryz renaming prog->cG,underlying157->fW,underlying23->hc
open Go.RowKit renaming Below->cH
open Go.World renaming putObj_heap_other->cJ,putObj_heap_same->eN,alloc_heap_new->eS,cell?_setCell_same'->fL,frozen?_setCell->gj
open Go.Ending renaming returned->cL
open Tree renaming below->cM,up->cT,path->ga,dR->gp,par->gu,sum->gR
open Go.IntKind renaming i64->cP
open Led renaming all->cQ,bump->cU,U->eL,change->fu,none_->fX,dR->gd
open Bool renaming false->cV,true->eV
open Go.Oper renaming semAt_some->cW,upon->hl
open Go.Fence renaming wide->cX
open List renaming take_succ_cons->cY,take_zero->eI,length_cons->eJ,nil_append->eM,push_toArray->eO,cons_append->eW,length_nil->fr,replicate->fz,any_append->gO,range->hj
open Cfg renaming C->dC
open L.aL renaming refl->dT,bQ->eA,jX->hp
open L.Blk renaming below->eC,lt->eR,cell->hf,alloc->hn
open _root_.Array renaming replicate_zero->eE
open Go.Value.agg renaming injEq->ft
open Nat renaming reduceAdd->fv,reduceSub->fw,succ_mul->gh
open Int renaming toNat_natCast->fN
open Go
open Cfg L Led Ord Quo Tree bO gT rM
variable{aJ:Int}{bc bn ca n sz:Nat}{F:Nat->Prop}{A:Option Addr}{v2:cS}{W W' w w':cA}
namespace bO
open Go.RowKit L
attribute [local go_sem] cW
theorem OU{α:Type}{dec:α->List cS}{xs:List α}(h:gF w A sz dec xs)(k:aL F w w')(hF:∀b o,A=cC ⟨b,o,cD⟩->¬F b):gF w' A sz dec xs:=λd=>by obtain⟨b,o,e,a,c⟩:=h d;exact⟨b,o,e,aM a k.size,λi x f j v hv=>(k.cell (p:=⟨b,o+i*sz+j,cD⟩) a (hF b o e)).trans (c i x f j v hv)⟩
structure vL (W:World) (bn bc:Nat) (A:Option Addr) (N ca:Nat) (v2:Value) (aG aJ:Int) (xs:List lN) (n:Int):Prop where
 cell:W.cell? (bn,0)=some (.int .i64 n)
 free:W.frozen? (bn,0)=false
 lt:bn<(W:Nat)
 box:gM W bc (.slice A N ca) v2 aG aJ
 row:gF W A 11 nN xs
theorem vL.bA{N:Nat}{aG:Int}{xs:List lN}{n:Int}(h:vL W bn bc A N ca v2 aG aJ xs n)(k:aL F W W')(a:¬F bn)(c:¬F bc)(d:∀b o,A=cC ⟨b,o,cD⟩->¬F b):vL W' bn bc A N ca v2 aG aJ xs n:=
 ⟨(k.cell (p:=⟨bn,0,cD⟩) h.lt a).trans h.cell,(k.frozen (p:=⟨bn,0,cD⟩) h.lt a).trans h.free,aM h.lt k.size,h.box.bA k c,OU h.row k d⟩
theorem vL.set{N:Nat}{aG:Int}{xs:List lN}{n:Int}(h:vL W bn bc A N ca v2 aG aJ xs n)(a:bn≠bc)(c:∀b o,A=cC ⟨b,o,cD⟩->b≠bn)(m:Int):vL (W.setCell (bn,0) m) bn bc A N ca v2 aG aJ xs m:=by have k:aL (λi=>i=bn) W (W.setCell (bn,0) m):=(dT (λi=>i=bn) W).setCell (p:=⟨bn,0,cD⟩) (.inl rfl) _;exact⟨fL _ _ _ (by rw[h.cell];rfl),by rw[gj];exact h.free,aM h.lt k.size,h.box.bA k λe=>a e.symm,OU h.row k λb o e=>c b o e⟩
def KC(W:cA)(bn:Nat):Nat:=match W.cell? (bn,0)with
 |some (cR _ n)=>(n+1).toNat
 |_=>0
theorem XA{n:Int}(h:W.cell? (bn,0)=cC (cR cP n)):KC W bn=(n+1).toNat:=by unfold KC;rw[h]
theorem ahl(l bn bc:Nat){aG:Int}(c:dC)(au:c.aN.length<=gr)(t:Int)(J:List Nat->cA->Prop)(Jx:List Nat->cA->Prop)(F0:Nat->Prop)(ai:¬F0 bn)(aj:¬F0 bc)(ak:∀b o,A=cC ⟨b,o,cD⟩->¬F0 b)(al:bn≠bc)(am:∀b o,A=cC ⟨b,o,cD⟩->b≠bn)(ao:∀pre W v,J pre W->J pre (W.setCell (bn,0) v))(aw:∀pre (x:Nat) rest W,cT c t=pre++x::rest->J pre W->vL W bn bc A c.aN.length ca v2 aG aJ c.aN (x:Int)->YieldAt cX (n-1) cG l #[(x:Int)] W λe W'=>(e=cL (hb eV)/\J (pre++[x]) W'/\aL F0 W W')\/(e=cL (hb cV)/\Jx (pre++[x]) W'))(W:cA)(ah:vL W bn bc A c.aN.length ca v2 aG aJ c.aN t)(ap:J [] W):CallsIn cX n cG 149 #[.func (.yield l) #[] #[],cE bn,cE bc] W λe W'=>(∃v,e=cL v)/\(J (cT c t) W'\/∃pre,pre<+:cT c t/\Jx pre W'):=by
 refine callsIn_of_wp func149 rfl trivial ?_ rfl;simp only[ntmps149,fO,eJ,fr,fv,fw,kL,eE,eO,eY,eM,eW];gi_wp2
 gi_loopw [4] (λp wr=>∃(pre:List Nat) (m:Int),cT c t=pre++cT c m/\vL wr bn bc A c.aN.length ca v2 aG aJ c.aN m/\J pre wr)
  (λp wr=>KC wr bn)
 case atStart=>exact⟨[],t,rfl,ah,ap⟩
 case round=>
  obtain⟨pre,m,g,d,f⟩:=hrel;unfold gr at au;have ba:=qZ f;have i:=qZ g;by_cases K:0<=m
  .by_cases az:m<(c.aN.length:Int)
   .obtain⟨x,rfl⟩:=fM K;have z:x<c.aN.length:=oZ;have M:=aal c x z;obtain⟨fn,tmps,assign,body,bf,av⟩:=aw pre x (if(x:Int)<=gu c x then[]else cT c (gu c x)) wr (by rw[g,M]) f d;have a5:gu c x=c.aN[x].parent:=by unfold gu;rw[aV,aH z,gb]
    have k:=qZ M;have af:=qZ a5;have F:=qZ d;obtain⟨N,O,Q,⟨T,x0,Y,Z,aa⟩,X⟩:=d;have ag:=qZ av;gi_wp2;refine⟨λh=>by simp[cX]at h,ag.out.mono ?_⟩;rintro e s (⟨rfl,aq,ay⟩|⟨rfl,ar⟩)
    .have w:=F.out.bA ay ai aj ak;obtain⟨bb,o,an,bd,ax⟩:=GN w.row z;have L:=ax s (aK _ _);have ab:=qZ w;have H:=qZ aq;subst an;rw[<-af.out]at L;obtain⟨p,j⟩:=nQ (gu c x);rw[j.out]at L;obtain⟨r1,r2,r3,⟨bg,z0,z1,z2,bi⟩,bh⟩:=w;by_cases y:(x:Int)<=p
     .have a:=qY (J (cT c t) s) (by rw[i.out,k.out,j.out,aI y];exact H.out);gi_wp2;refine eK (gg rfl _ _ _) rfl ?_;exact⟨⟨_,rfl⟩,.inl a.out⟩
     .have a:=qY (cT c t=(pre++[x])++cT c p) (by rw[i.out,k.out,j.out,aF y];simp);have I:=qZ (ab.out.set al am p);have ad:=qZ (ao _ _ p H.out);have be:decide ((x:Int)<=p)=cV:=by simpa using y
      have ae:=qY (KC (s.setCell (bn,0) p) bn<KC wr bn) (by rw[XA I.out.cell,XA F.out.cell];omega);gi_wp2;go_roundw;exact⟨_,p,a.out,I.out,ad.out⟩;exact ae.out
    .have a:=qZ ar;have a8:=qY (pre++[x]<+:cT c t) (by obtain⟨r,a9⟩:∃r,cT c (x:Int)=x::r:=⟨_,k.out⟩;rw[i.out,a9];exact⟨r,sZ⟩);gi_wp2
     go_end0
     exact⟨⟨_,rfl⟩,.inr ⟨_,a8.out,a.out⟩⟩
   .have u:=qY (J (cT c t) wr) (by rw[g,KA c m oZ,eZ];exact f);obtain⟨N,O,Q,⟨T,x0,Y,Z,aa⟩,X⟩:=d;have a0:decide (m<(c.aN.length:Int))=cV:=by simpa using az
    gi_wp2;refine⟨λ_ _=>trivial,?_⟩;gi_wp2
    go_end0
    exact⟨⟨_,rfl⟩,.inl u.out⟩
  .have u:=qY (J (cT c t) wr) (by rw[g,KA c m oZ,eZ];exact f);obtain⟨N,O,Q,⟨T,x0,Y,Z,aa⟩,X⟩:=d;have a0:decide (0<=m)=cV:=by simpa using K
   gi_wp2;refine⟨λ_ _=>trivial,?_⟩;gi_wp2
   go_end0
   exact⟨⟨_,rfl⟩,.inl u.out⟩
end bO
variable{a:Act}{Q:gS->Act->cA->Prop}{m:Nat}
namespace bO
open Go.RowKit L
attribute [local go_sem] cW
theorem lI(W:cA)(l:Nat)(o:Obj):aL (λk=>k=l) W (W.putObj l o):=hp (grownBy_putObj' W l o) (λi e=>by cases e;rfl)
def aqS(J Jx:cA->Prop)(F0:Nat->Prop)(W:cA):gS->Act->cA->Prop
 |.normal,_,W'=>J W'/\aL F0 W W'
 |.ret,_,W'=>Jx W'/\aL F0 W W'
 |_,_,_=>False
theorem ali{g:Operand}{ps:Array Tmp}{assign body:hd}{aG:Int}(c:dC)(ax:c.aN.length<=gr)(t:Int)(a8:a.eval g=.func (.func 149) #[] #[cE bn,cE bc])(bf:ps.size=1)(T:vL w bn bc A c.aN.length ca v2 aG aJ c.aN t)(ap:bn≠bc)(O:∀b o,A=cC ⟨b,o,cD⟩->b<(w:Nat)/\b≠bn)(F0:Nat->Prop)(am:¬F0 bn)(an:¬F0 bc)(ao:∀b o,A=cC ⟨b,o,cD⟩->¬F0 b)(aq:¬F0 (w:Nat))(av:¬F0 ((w:Nat)+1))(J Jx:List Nat->cA->Prop)(K:∀pre W W',J pre W->aL (λk=>k=bn\/k=(w:Nat)+1) W W'->J pre W')(ae:∀pre W W',Jx pre W->aL (λk=>k=bn\/k=(w:Nat)+1) W W'->Jx pre W')(ar:∀W,cH w w W->J [] W)(bg:∀(l m:Nat) (pre:List Nat) (x:Nat) (rest:List Nat) (W:cA),l=(w:Nat)+1->cT c t=pre++x::rest->J pre W->vL W bn bc A c.aN.length ca v2 aG aJ c.aN (x:Int)->assign.wpIn (Fence.wide.inRound l) m cG (Exit.then (λa' W'=>W'=W/\∀n,J pre n->vL n bn bc A c.aN.length ca v2 aG aJ c.aN (x:Int)->(w:Nat)+1<(n:Nat)->body.wpIn (Fence.wide.inRound l) m cG (aqS (J (pre++[x])) (Jx (pre++[x])) F0 n) a' n) λ_ _ _=>False) {tmps:=(ps.zip #[cR cP (x:Int)]).foldl (λt (p,v)=>t.setIfInBounds p v) a.tmps,defers:=[]} W)(a0:∀(W:cA),J (cT c t) W->W.heap[(w:Nat)]? =cC (.deferred (cC []))->Q .normal {a with defers:={target:=.collected (w:Nat),args:=#[]}::a.defers} W)(bh:∀(pre:List Nat) (W:cA),pre<+:cT c t->Jx pre W->W.heap[(w:Nat)]? =cC (.deferred (cC []))->Q .ret {a with defers:={target:=.collected (w:Nat),args:=#[]}::a.defers} W):(Code.rangeFunc g ps assign body).wpIn cX m cG Q a w:=by
 refine wpIn_rangeFunc ?_;intro fn a5;rw[show Fence.wide.round=cD from rfl];obtain⟨d,s⟩:∃d:LoopState->Option hd->Loop,d=λst pe=>{state:=st,pending:=pe,fn,tmps:=a.tmps,params:=ps,assign,body,defers:=(w:Nat)}:=⟨_,rfl⟩;obtain⟨u,L⟩:=nZ ((w.alloc (.deferred (cC []))).alloc (.loop (d .ready cD)));have aw:u.heap[(w:Nat)+1]? =cC (.loop (d .ready cD)):=by rw[<-L];have:=eS (w.alloc (.deferred (cC []))) (.loop (d .ready cD));rwa [aT]at this
 have au:u.heap[(w:Nat)]? =cC (.deferred (cC [])):=by rw[<-L];exact(Below.heap_alloc _ _ _ sZ).trans (eS w _)
 have af:cH w w u:=by rw[<-L];exact((aK _ w).alloc lZ _).alloc sZ _
 refine⟨(w:Nat)+1,[{target:=.collected (w:Nat),args:=#[]}],u,{target:=.fn (.func 149) #[cE bn,cE bc],args:=#[.func (.yield ((w:Nat)+1)) #[] #[]]},u,149,#[.func (.yield ((w:Nat)+1)) #[] #[]]++#[cE bn,cE bc],u,?_,?_,?_,?_,λh=>by simp[cX]at h,?_⟩
 .rw[<-L,s];exact run_enterLoop_outer _ _ _ _ _
 .simp only[resolve,a8];simp[go_sem]
 .intro bi bl;trivial
 .have al:∀args w,(gi 149 args).run cG w=.ok (.enter 149 args) w:=λ_ _=>kZ;simp[invoke,go_sem,al]
 .have bk:bn<(w:Nat):=T.lt;have bj:bc<(w:Nat):=T.box.1;refine(ahl ((w:Nat)+1) bn bc (A:=A) (ca:=ca) (v2:=v2) (aG:=aG) (aJ:=aJ) c ax t
   (λpre W=>J pre W/\W.heap[(w:Nat)+1]? =cC (.loop (d .ready cD))/\W.heap[(w:Nat)]? =cC (.deferred (cC [])))
   (λpre W=>Jx pre W/\W.heap[(w:Nat)+1]? =cC (.loop (d .done (cC .ret)))/\W.heap[(w:Nat)]? =cC (.deferred (cC [])))
   (λk=>F0 k\/k=(w:Nat)+1) (by rintro(h|h);exact am h;omega) (by rintro(h|h);exact an h;omega)
   (λb o e=>by
    rintro(h|h)
    .exact ao b o e h
    .have:=(O b o e).1;omega) ap (λb o e=>(O b o e).2)
   (λpre W v ⟨M,r,y⟩=>by have k:aL (λi=>i=bn\/i=(w:Nat)+1) W (W.setCell (bn,0) v):=(dT _ W).setCell (p:=⟨bn,0,cD⟩) (.inl (.inl rfl)) _;exact⟨K pre W _ M k,(Below.heap_setCell W ⟨bn,0,cD⟩ v _ (by show(w:Nat)+1≠bn;omega)).trans r,(Below.heap_setCell W ⟨bn,0,cD⟩ v _ (by show(w:Nat)≠bn;omega)).trans y⟩)
   ?_ u ?_ ⟨ar u af,aw,au⟩).mono ?_
  .rintro pre x rest W be⟨M,r,y⟩ apF;have ai:(w:Nat)+1<(W:Nat):=(bS.1 r).1;have aj:=run_yield (P:=cG) (args:=#[cR cP (x:Int)]) r (by rw[s];exact bf.symm);rw[s]at aj;refine⟨fn,_,assign,body,aj,roundIn_of_wpIn a5 (gy (bg ((w:Nat)+1) _ pre x rest W rfl be M apF) ?_)⟩;intro e a' W' H;cases e with
   |normal=>
    obtain⟨rfl,az⟩:=H;refine⟨_,run_beginRound r (by rw[s]),?_⟩;have ag:(W'.putObj ((w:Nat)+1) (.loop {d .ready cD with state:=.busy})).heap[(w:Nat)+1]? =cC (.loop {d .ready cD with state:=.busy}):=eN ai;have a9:(W'.putObj ((w:Nat)+1) (.loop {d .ready cD with state:=.busy})).heap[(w:Nat)]? =cC (.deferred (cC [])):=(cJ oZ).trans y;have Z:=lI W' ((w:Nat)+1) (.loop {d .ready cD with state:=.busy});have ay:=apF.bA Z oZ oZ (λb o e=>by have:=(O b o e).1;omega);refine gy (az _ (K pre W' _ M (Z.mono λi _ e=>.inr e)) ay (by simpa using ai)) ?_;generalize W'.putObj ((w:Nat)+1) (.loop {d .ready cD with state:=.busy})=n at*;have bb:(w:Nat)+1<(n:Nat):=(bS.1 ag).1;have ad:∀(f:Option hd) (j:cA),aL F0 n j->
      (Instr.endRound ((w:Nat)+1) f).run cG j=.ok (hb f.isNone) (j.putObj ((w:Nat)+1) (.loop (d (if f.isNone then .ready else .done) f)))/\
      (j.putObj ((w:Nat)+1) (.loop (d (if f.isNone then .ready else .done) f))).heap[(w:Nat)+1]? =cC (.loop (d (if f.isNone then .ready else .done) f))/\
      (j.putObj ((w:Nat)+1) (.loop (d (if f.isNone then .ready else .done) f))).heap[(w:Nat)]? =cC (.deferred (cC []))/\aL (λk=>k=(w:Nat)+1) j (j.putObj ((w:Nat)+1) (.loop (d (if f.isNone then .ready else .done) f))):=λf j z=>by
     have ah:=(z.block _ bb av).trans ag;have ba:=(z.block _ oZ aq).trans a9;have:=run_endRound (P:=cG) f ah;rw[s]at this⊢;exact⟨this,eN (bS.1 ah).1,(cJ oZ).trans ba,lI _ _ _⟩
    rintro e a3 j I;cases e with
    |normal=>
     obtain⟨X,z⟩:=I;obtain⟨ab,aa,Y,N⟩:=ad cD j z;refine⟨_,_,ab,.inl ⟨rfl,⟨K _ _ _ X (N.mono λi _ e=>.inr e),aa,Y⟩,?_⟩⟩;exact((Z.mono λi _ e=>.inr e).trans (z.mono λi _ e=>.inl e)).trans (N.mono λi _ e=>.inr e)
    |ret=>
     obtain⟨X,z⟩:=I;obtain⟨ab,aa,Y,N⟩:=ad (cC .ret) j z;exact⟨_,_,ab,.inr ⟨rfl,ae _ _ _ X (N.mono λi _ e=>.inr e),aa,Y⟩⟩
    |exit id=>exact I.elim
    |goto t=>exact I.elim
    |panic ak=>exact I.elim
    |outgrown=>exact I.elim
   |exit id=>exact H.elim
   |goto t=>exact H.elim
   |ret=>exact H.elim
   |panic ak=>exact H.elim
   |outgrown=>exact H.elim
  .exact T.bA (eA af) (F:=λ_=>False) (λh=>h) (λh=>h) λ_ _ _ h=>h
  .rintro e n⟨⟨v,rfl⟩,(⟨hi,r,y⟩|⟨pre,bd,hi,r,y⟩)⟩
   .exact⟨cD,_,by have:=gl (P:=cG) r (by rw[s];simp);rw[s]at this;exact this,a0 _ (K _ _ _ hi ((lI _ _ _).mono λi _ e=>.inr e)) ((cJ oZ).trans y)⟩
   .exact⟨cC .ret,_,by have:=gl (P:=cG) r (by rw[s];simp);rw[s]at this;exact this,wpIn_ret (bh pre _ bd (ae _ _ _ hi ((lI _ _ _).mono λi _ e=>.inr e)) ((cJ oZ).trans y))⟩
end bO
variable{c:dC}{g:Nat}{v v1 x:cS}{w0:cA}
namespace bO
open Go.RowKit L
theorem afU:MQ cG 3 (gz cP):=aoq kZ
theorem aaD:∀w:cA,(zeroValue 40).run cG w=.ok (cN #[(),(),()]) w:=λw=>by obtain⟨i0,hi,a,_,_⟩:=info_parts UY;simp[zeroValue,typeInfo,hi,a]
abbrev zeroV:cS:=cN #[(),(),()]
theorem VO{b o:Nat}(h:w.cell? (b,o)=cC x){a:Array MapEntry}(c:w.heap[b]? =cC (.map a n)):False:=by unfold World.cell? at h;simp[c]at h
theorem KJ{α:Type}{dec:α->List cS}{xs:List α}(r:∀x,∃v,(dec x)[0]? =cC v)(n:gF w0 A sz dec xs)(h:gF W A sz dec xs)(k:aL F W W')(hF:∀b,F b->(w0:Nat)<=b\/∃f c,W.heap[b]? =cC (.map f c)):gF W' A sz dec xs:=λa=>by
 obtain⟨b,o,e,m,l⟩:=h a;obtain⟨y,H,d,z,_⟩:=n a;rw[e]at d;cases d;have u:¬F b:=λs=>by
  rcases hF b s with g|⟨f,c,g⟩
  .omega
  .obtain⟨x,t,rfl⟩:=List.exists_cons_of_ne_nil a;obtain⟨v,hv⟩:=r x;exact VO (l 0 x rfl 0 v hv) g
 exact⟨b,o,e,aM m k.size,λi x w j v hv=>(k.cell (p:=⟨b,o+i*sz+j,cD⟩) m u).trans (l i x w j v hv)⟩
theorem acz(n:bW w0 v c)(h:bW W v c)(k:aL F W W')(hF:∀b,F b->(w0:Nat)<=b\/∃m f,W.heap[b]? =cC (.map m f)):bW W' v c:=by obtain⟨v1,v2,e,⟨A,ca,e1,r1,o⟩,⟨B,d,e2,r2,p⟩⟩:=h;obtain⟨z,H,a,⟨u,w,g,r,_⟩,⟨B',y,i,s,_⟩⟩:=n;subst e1 e2 g i;rw[e]at a;simp only[ft,eB,dJ,Value.slice.injEq,true_and,and_true]at a;obtain⟨⟨j,_⟩,⟨l,_⟩⟩:=a;subst j l;exact⟨_,_,e,⟨A,ca,rfl,KJ (λx=>⟨_,rfl⟩) r r1 k hF,o⟩,⟨B,d,rfl,KJ (λx=>⟨_,rfl⟩) s r2 k hF,p⟩⟩
structure mQ (w:World) (g mb:Nat) (v1 v2:Value) (aG aJ:Int) (c:Cfg.C) (u:Led.U):Prop where
 box:gM w g v1 v2 aG aJ
 ptr:w.cell? (g,4)=some (.map (some mb))
 cfg:bW w (.agg #[v1,v2,aG,aJ]) c
 map:∃L,oH w mb (Value.int .i64) L/\∀n,(Go.Proofs.YtedmeglbjmdlhaaGreatDoor.L.mJ n L).getD zeroV=(Led.dR c u n).val
theorem mQ.isMap{d:Nat}{aG:Int}{u:eL}(h:mQ w g d v1 v2 aG aJ c u):∃b a,w.heap[d]? =cC (.map b a):=by obtain⟨L,⟨b,a,e,_⟩,_⟩:=h.map;exact⟨b,a,e⟩
theorem mQ.mlt{a:Nat}{aG:Int}{u:eL}(h:mQ w g a v1 v2 aG aJ c u):a<(w:Nat):=by obtain⟨L,b,_⟩:=h.map;exact b.lt
theorem mQ.ne{a:Nat}{aG:Int}{u:eL}(h:mQ w g a v1 v2 aG aJ c u):g≠a:=λe=>by subst e;obtain⟨f,d,b⟩:=h.isMap;exact VO h.ptr b
theorem mQ.bA{a:Nat}{aG:Int}{u:eL}(e:bW w0 (cN #[v1,v2,aG,aJ]) c)(h:mQ W g a v1 v2 aG aJ c u)(k:aL F W W')(d:¬F g)(j:¬F a)(hF:∀b,F b->(w0:Nat)<=b):mQ W' g a v1 v2 aG aJ c u:=by obtain⟨L,f,l⟩:=h.map;exact⟨h.box.bA k d,(k.cell (p:=⟨g,4,cD⟩) h.box.1 d).trans h.ptr,acz e h.cfg k λb i=>.inl (hF b i),L,f.bA k j,l⟩
theorem mQ.on{a:Nat}{aG:Int}{u:eL}(h:mQ w g a v1 v2 aG aJ c u)(b:cH w w w'):mQ w' g a v1 v2 aG aJ c u:=
 h.bA (F:=λ_=>False) h.cfg (eA b) (λh=>h) (λh=>h) (λ_ h=>h.elim)
theorem mQ.turn{a:Nat}{aG:Int}{u u':eL}(h:mQ w g a v1 v2 aG aJ c u)(k:aL (λb=>b=a) w w'){L:List (Int×cS)}(d:oH w' a (gz cP) L)(f:∀n,(Go.Proofs.YtedmeglbjmdlhaaGreatDoor.L.mJ n L).getD zeroV=(gd c u' n).val):mQ w' g a v1 v2 aG aJ c u':=
 ⟨h.box.bA k h.ne,(k.cell (p:=⟨g,4,cD⟩) h.box.1 h.ne).trans h.ptr,acz h.cfg h.cfg k λb e=>by subst e;exact .inr h.isMap,L,d,f⟩
def upd(u:eL)(x:Nat)(v:cI):eL:=λi=>if i=x then v else u i
theorem akc(c:dC)(u:eL)(x:Nat)(v:cI)(b:x<c.aN.length)(n:Int):gd c (upd u x v) n=if n=(x:Int)then v else gd c u n:=by
 unfold gd upd;by_cases h:n=(x:Int)
 .subst h;rw[aI ⟨oZ,oZ⟩,aI rfl,fN,aI rfl]
 .rw[aF h];by_cases a:0<=n/\n<(c.aN.length:Int)
  .rw[aI a,aI a,aF oZ]
  .rw[aF a,aF a]
theorem ZK(f:cI->cI)(u:eL)(xs:List Nat)(x:Nat)(h:x∉xs):cU f u (xs++[x])=upd (cU f u xs) x (f (u x)):=by
 funext i;unfold cU upd;by_cases hi:i=x
 .subst hi;simp
 .simp[hi]
theorem acD(f:cI->cI)(u:eL)(xs:List Nat)(x:Nat)(h:x∉xs):cU f u xs x=u x:=by unfold cU;rw[aF h]
def aqx(g mb:Nat)(v1 v2:cS)(aG aJ:Int)(c:dC)(u':eL)(w:cA)(e:gf)(w':cA):Prop:=e=cL (.tuple #[])/\mQ w' g mb v1 v2 aG aJ c u'/\aL (λk=>k=mb) w w'
theorem MB{j:Nat}{aG:Int}{u:eL}(h:mQ w g j v1 v2 aG aJ c u)(x:Nat)(K:x<c.aN.length)(v:cI):eQ cG 89 #[cE g,(x:Int),v.val] w λe w'=>aqx g j v1 v2 aG aJ c (upd u x v) w e w':=by
 have r:cH w w (w.alloc (ac #[v.x,v.y,v.z] 40)):=bZ;have d:=h.on r;have z:arz (w.alloc (ac #[v.x,v.y,v.z] 40)) (w:Nat) 0 v:=by refine⟨sZ,?_,?_,?_⟩<;>simp[go_sem]
 obtain⟨x0,a,b⟩:=v;simp only at r d z;show eQ cG 89 #[cE g,(x:Int),cN #[x0,a,b]] w _;go_enter func89,ntmps89;generalize af:w.alloc (ac #[x0,a,b] 40)=wq at*;have l:=qZ d;have X:=qZ z;have A:=qZ r;obtain⟨N,ad,b1,b2,b3⟩:=d.box;have Q:=d.ptr;obtain⟨s,H,c1,c2⟩:=z;simp only at H c1 c2;by_cases M:sN ⟨x0,a,b⟩ ⟨0,0,0⟩=eV
 .have T:(⟨x0,a,b⟩:cI)=cF:=by simp[sN]at M;exact Vec.V.ext' (by simp[cF];omega) (by simp[cF];omega) (by simp[cF];omega)
  obtain⟨L,i,y⟩:=l.map;obtain⟨w',J,o,f⟩:=i.cut afU (t:=157) (et:=40) fW (x:Int);have p:=qZ (l.turn (u':=upd u x ⟨x0,a,b⟩) f o (λn=>by
   obtain⟨_,_,_,_,O⟩:=i;rw[JZ _ _ _ O,akc c u x _ K];by_cases e:n=(x:Int)
   .rw[aI e,aI e,T];rfl
   .rw[aF e,aF e];exact y n))
  have m:=qZ ((eA (F:=λk=>k=j) A).trans f);have ae:=J 0 3;go_wp2_with fail;refine eK (gg rfl _ _ _) rfl ?_;exact⟨rfl,p.out,m.out⟩
 .have ag:sN ⟨x0,a,b⟩ ⟨0,0,0⟩=cV:=by simpa using M
  have Y:=λW (k:aD wq W)=>k.cell N Q;have Z:=λW (k:aD wq W)=>k.cell s H;have aa:=λW (k:aD wq W)=>k.cell s c1;have ab:=λW (k:aD wq W)=>k.cell s c2;go_wp2_with fail;refine jN 6 kZ kZ ?_;simp only[cY,eI,aZ,bB];(repeat refine kY ?_);refine dP ?_;intro W I;have d:=l.on I;obtain⟨L,i,y⟩:=d.map;obtain⟨w',J,o,f⟩:=i.put afU (t:=157) (et:=40) fW (x:Int) (cN #[x0,a,b]);have p:=qZ (d.turn (u':=upd u x ⟨x0,a,b⟩) f o (λn=>by
   rw[CJ,akc c u x _ K];by_cases e:n=(x:Int)
   .rw[aI e,aI e];rfl
   .rw[aF e,aF e];exact y n))
  have m:=qZ ((eA (F:=λk=>k=j) (aA A I)).trans f);go_wp2_with fail
  go_end0
  exact⟨rfl,p.out,m.out⟩
theorem apd(v1 v2:cS)(aG aJ t:Int)(w:cA):eQ cG 88 #[cN #[v1,v2,aG,aJ],t] w λe w'=>e=cL (.func (.func 149) #[] #[cE (cC ⟨(w:Nat)+1,0,cD⟩),cE w])/\w'=(w.alloc (ac #[v1,v2,aG,aJ] 26)).alloc (ac #[t] 3):=by go_enter func88,ntmps88;go_wp2_with fail;go_ret;exact⟨rfl,rfl⟩
end bO
namespace L
open Go.RowKit
section
variable {P:hh} {ops:Array gw} {md:Region.Mode}
def PI(l:List gw):Bool:=l.all λo=>match o.op with
 |.defer _=>cV
 |_=>eV
theorem KR{l:List gw}(h:PI l=eV){i:Nat}{o:gw}(hi:l.toArray[i]? =cC o):∀c,o.op≠.defer c:=by
 intro c e;have a:o∈l:=by
  have:l[i]? =cC o:=by simpa using hi
  exact gP this
 have:=gZ.1 h o a;rw[e]at this;cases this
theorem aeh{o:gw}{a:Act}{w:cA}{K:Act->cA->Prop}{Q:gS->Act->cA->Prop}{l n:Nat}(d:∀c,o.op≠.defer c)(h:o.wp P a w K Q):o.wpIn (Fence.wide.inRound l) n P a w K Q:=by
 refine⟨λ_ _=>trivial,?_⟩;rw[show(Fence.wide.inRound l).round=cC l from rfl,cW l _ _ d];unfold Oper.wp at h;generalize(execOp a.eval o).run P w=r at*;cases r with
 |ok x w'=>
  cases x<;>simp only[hl,Oper.uponIn]at h⊢
  case value=>exact h
  case skip=>exact h
  case defer=>exact h
  case enter=>exact⟨(λb=>by cases b),CallsIn.inRound l (callsIn_wide.2 h)⟩
  case row=>exact⟨(λb=>by cases b),λc cs _=>by obtain⟨v,e,r,s⟩:=h c cs;exact⟨v,e,r,stepsIn_wide.2 s⟩⟩
 |halt x w'=>cases x<;>simp only[hl,Oper.uponIn]at h⊢ <;>exact h
theorem ahe{i:Nat}{a:Act}{w:cA}{K:Act->cA->Prop}{d:Act->cA->Prop}{Q:gS->Act->cA->Prop}{l n:Nat}(e:¬gC Q)(g:∀(i:Nat) (o:gw),ops[i]? =cC o->∀c:Call,o.op≠Op.defer c)(b:∀a w,K a w->d a w)(h:wpOp P ops Q i K a w):wpOpIn (Fence.wide.inRound l) n P ops Q i d a w:=by
 unfold wpOp at h;unfold wpOpIn;split
 .rename_i ho;simp only[ho]at h;exact b _ _ h
 .rename_i o ho;simp only[ho]at h;split
  .rename_i hw;simp only[hw,if_true]at h;exact Oper.wpIn_mono b (aeh (g i o ho) (h.resolve_right λf=>e f.2))
  .rename_i hw;simp only[hw]at h;exact⟨λ_ _=>trivial,b _ _ h⟩
theorem ER{Q:gS->Act->cA->Prop}{l n:Nat}(b:¬gC Q)(d:∀(i:Nat) (o:gw),ops[i]? =cC o->∀c:Call,o.op≠Op.defer c):∀(fuel:Nat) (listed:Array Bool) (a:Act) (w:cA),wpAny P md ops Q fuel listed a w->wpAnyIn (Fence.wide.inRound l) n P md ops Q fuel listed a w
 |0,_,_,_,h=>h
 |fuel+1,_,_,_,h=>⟨h.1,λi hi=>ahe b d (λa w=>ER b d fuel _ a w) (h.2 i hi)⟩
end
theorem wG{P:hh}{id K m:Nat}{Q:gS->Act->cA->Prop}{a:Act}{w:cA}{l:List gw}(n:Nat)(s:¬gC Q)(y:P.follows .mixedOrders=eV)(L:PI l=eV)(c:Region.lexTailB .any l.toArray n=eV)(h:rJ P l.toArray (aD w) (λa'=>∀W,aD w W->hg P l.toArray Q (l.drop n) a' W) (l.take n) a):(Code.region id l.toArray eV).wpIn (Fence.wide.inRound K) m P Q a w:=by
 simp only[Region.lexTailB,Bool.and_eq_true,eT]at c;obtain⟨⟨⟨⟨A,p⟩,hs⟩,u⟩,x⟩:=c;have M:n<l.length:=by simpa using p
 have b:(l.take n).length=n:=by simp;omega
 have e:(l.drop n).length=l.toArray.size-n:=sZ;have J:HeadInv .any l.toArray n (Array.replicate l.toArray.size cV):=
  ⟨sZ,λj N _ k=>(by rw[gn]at k;cases k),λt _ F=>getD_in (by simpa using F) (gn _ _)⟩
 have H:=DV (md:=.any) (g:=l.toArray.size-n) A hs u p (l.take n) 0 _ a (λj f=>by
  have v:j<n:=by rw[b]at f;exact f
  simp[v]) (by simpa using b) J (by rw[b];exact x) h.out
 refine wpIn_region_any y (ER s (λi o z=>KR L z) _ _ _ _ ?_);have:=vY (Q':=Q) (I:=aD w) (g:=l.toArray.size-n) (λlisted a' W d r=>by have:=wpAny_of_seq (md:=.any) (Q':=Q) (l.drop n) n listed a' W (λj=>by simp[jZ]) (by rw[e];exact d.1) (d.2 W r);rwa [e]at this) _ _ _ _ (aD.drew w) H;rw[b,show n+(l.toArray.size-n)=l.toArray.size by omega]at this;exact this
end L
namespace bO
open Go.RowKit L
attribute [local go_sem] cW
def UO(n:Int)(g mb:Nat)(v1 v2:cS)(aG aJ:Int)(c:dC)(u':eL)(w:cA)(e:gf)(w':cA):Prop:=e=cL n/\mQ w' g mb v1 v2 aG aJ c u'/\aL (λk=>k=mb) w w'
theorem ajN{j:Nat}{aG:Int}{u:eL}(h:mQ w g j v1 v2 aG aJ c u)(t:Int)(p:iP c t=cV)(v:cI)(d:gm):eQ cG 38 #[cE g,t,v.val,.func (.func d) #[] #[]] w λe w'=>UO 3 g j v1 v2 aG aJ c u w e w':=by obtain⟨x0,l,m⟩:=v;have H:=qZ h;have f:=tZ h.cfg t;rw[p]at f;have n:=qZ f;obtain⟨x,r,b1,b2,b3⟩:=h.box;have z:∀k,¬g=(w:Nat)+k:=λk e=>oZ;show eQ cG 38 #[cE g,t,cN #[x0,l,m],.func (.func d) #[] #[]] w _;have i:cH w w (((w.alloc (ac #[cE g] 93)).alloc (ac #[x0,l,m] 40)).alloc (ac #[.func (.func d) #[] #[]] 96)):=kp;have b:=qZ i;obtain⟨y,s,c1,c2,c3⟩:=H.box.on i;go_enter func38,ntmps38;go_wp2_with fail;refine(n _ b).mono ?_;rintro e A⟨rfl,o⟩;have a:=qZ (aA b o);go_wp2_with fail;go_ret;exact⟨rfl,H.on a,eA a⟩
theorem agB{I:Nat}{aG:Int}{u:eL}(h:mQ w g I v1 v2 aG aJ c u)(t:Int)(O:iP c t=eV)(v:cI)(d:gm)(f:cI->cI->cI)(bh:∀a b,eP cG d #[a.val,b.val] (f a b).val)(ae:∀(a:Array cS) (W:cA),(gi d a).run cG W=.ok (.enter d a) W):eQ cG 38 #[cE g,t,v.val,.func (.func d) #[] #[]] w λe w'=>UO 0 g I v1 v2 aG aJ c (cU (λa=>f a v) u (cT c t)) w e w':=by
 have H:=qZ h;have ai:=tZ h.cfg t;rw[O]at ai;have ax:=qZ ai;have bl:=xL O;obtain⟨x0,r,s⟩:=v;have a0:=qZ bh;have bs:=qZ ae;obtain⟨cm,cd,b1,b2,b3⟩:=h.box;clear ai O bh ae;show eQ cG 38 #[cE g,t,cN #[x0,r,s],.func (.func d) #[] #[]] w _;have ad:cH w w (((w.alloc (ac #[cE g] 93)).alloc (ac #[x0,r,s] 40)).alloc (ac #[.func (.func d) #[] #[]] 96)):=kp;have Y:=qZ ad;obtain⟨ak,ag,c1,c2,c3⟩:=H.box.on ad;clear ad cd b1 b2 b3 h;refine(gx (n:=0)).1 (fq func38 rfl trivial (wpIn_wide.2 ?_));simp only[ntmps38,fO,eJ,fr,fv,fw,kL,eE,eO,eY,eM,eW];have Q:(((w.alloc (ac #[cE g] 93)).alloc (ac #[x0,r,s] 40)).alloc (ac #[.func (.func d) #[] #[]] 96)).cell? (w,0)=cC (cE g):=by simp[go_sem]
 have T:arz (((w.alloc (ac #[cE g] 93)).alloc (ac #[x0,r,s] 40)).alloc (ac #[.func (.func d) #[] #[]] 96)) ((w:Nat)+1) 0 ⟨x0,r,s⟩:=by refine⟨sZ,?_,?_,?_⟩<;>simp[go_sem]
 have X:(((w.alloc (ac #[cE g] 93)).alloc (ac #[x0,r,s] 40)).alloc (ac #[.func (.func d) #[] #[]] 96)).cell? ((w:Nat)+1+1,0)=cC (.func (.func d) #[] #[]):=by simp[go_sem]
 generalize bp:((w.alloc (ac #[cE g] 93)).alloc (ac #[x0,r,s] 40)).alloc (ac #[.func (.func d) #[] #[]] 96)=ar at*;have da:(ar:Nat)=(w:Nat)+3:=by rw[<-bp];simp
 have Z:=qZ (aC Q (aC T X));clear T X;go_wp2_with fail;refine(ax _ Y).mono ?_;rintro e j⟨rfl,M⟩;have az:=qZ M;have ay:=qZ (H.on (aA Y M));clear ag c1 c2 c3 Q bp ak ax;obtain⟨cy,ag,c1,c2,c3⟩:=ay.box;have Q:CV j w 0 (cE g):=(M.cell (p:=⟨w,0,cD⟩) (by show(w:Nat)<(ar:Nat);omega)).trans Z.1;have T:=qZ (Z.2.1.on M);have X:=qY (j.cell? ((w:Nat)+1+1,0)=cC (.func (.func d) #[] #[])) ((M.cell (p:=⟨(w:Nat)+1+1,0,cD⟩) (by show(w:Nat)+1+1<(ar:Nat);omega)).trans Z.2.2);have db:(w:Nat)+3<=(j:Nat):=by have:=M.size;omega
 clear M;go_wp2_with fail;refine(apd v1 v2 aG aJ t j).mono ?_;rintro e di⟨rfl,rfl⟩;go_wp2_with fail;obtain⟨dg,dh,ah,⟨A,ca,e1,an,cp⟩,_⟩:=H.cfg;have ba:v1=bT A c.aN.length ca:=by simp only[ft,eB,dJ,and_true]at ah;rw[ah.1,e1]
 have bn:c.aN≠[]:=λe=>by rw[e]at bl;simp at bl;omega
 obtain⟨ce,de,a9,cx,bg⟩:=an bn;have ci:ce≠I:=λe=>by obtain⟨x,df,cg⟩:=List.exists_cons_of_ne_nil bn;obtain⟨cw,cv,al⟩:=H.isMap;subst e;exact VO (bg 0 x (by rw[cg];rfl) 0 _ rfl) al
 have c0:I<(w:Nat):=H.mlt;have N:cH j j ((j.alloc (ac #[v1,v2,aG,aJ] 26)).alloc (ac #[t] 3)):=kp;have be:vL ((j.alloc (ac #[v1,v2,aG,aJ] 26)).alloc (ac #[t] 3)) ((j:Nat)+1) (j:Nat) A c.aN.length ca v2 aG aJ c.aN t:=by refine⟨by simp[go_sem],by simp[go_sem],sZ,?_,an.below (aA (aA Y az) N)⟩;rw[<-ba];exact(gM.new j v1 v2 aG aJ).on (bZ)
 have dc:((j.alloc (ac #[v1,v2,aG,aJ] 26)).alloc (ac #[t] 3)).heap.size=(j:Nat)+2:=sZ;generalize(j.alloc (ac #[v1,v2,aG,aJ] 26)).alloc (ac #[t] 3)=K at*;have bc:=H.cfg;have cz:g<(w:Nat):=cm;have bv:=qZ (ay.on N);have b9:=qZ ((N.cell (p:=⟨w,0,cD⟩) (by show(w:Nat)<(j:Nat);omega)).trans Q);have cb:=qZ (T.out.on N);have cc:=qZ ((N.cell (p:=⟨(w:Nat)+1+1,0,cD⟩) (by show(w:Nat)+1+1<(j:Nat);omega)).trans X.out);have cs:=qZ (aA (aA Y az) N);clear ag c1 c2 c3 Q T X e1 ah ba bg an Z;refine(gA (n:=0)).1 (ali c cp t rfl rfl be oZ (λb o e=>by rw[a9]at e;cases e;omega) (λk=>k=I) oZ oZ (λb o e=>by rw[a9]at e;cases e;exact ci) oZ oZ
  (λpre W=>mQ W g I v1 v2 aG aJ c (cU (λa=>f a ⟨x0,r,s⟩) u pre)/\aL (λk=>k=I\/k=(j:Nat)+1\/(K:Nat)<=k) K W) (λ_ _=>False)
  (λpre W W' ⟨ch,h2⟩ k=>⟨ch.bA bc k oZ oZ λb ad=>oZ,h2.trans (k.mono λi _ e=>oZ)⟩)
  (λ_ _ _ h _=>h.elim)
  (λW bf=>⟨by rw[acE];exact bv.on bf,eA bf⟩)
  ?round ?done (λ_ _ _ h=>h.elim))
 case round=>
  intro l m pre x rest W O am cn cl;gi_wp2;refine⟨trivial,λJ ⟨ab,hk2⟩ arx hlt2=>?_⟩;have ct:x<c.aN.length:=(aak c t x (by rw[am];simp)).1;have bq:x∉pre:=λal=>by have bm:=aaG c t;rw[am,kG]at bm;exact bm.2.2 x al x sZ rfl
  have a8:=qZ (ZK (λa=>f a ⟨x0,r,s⟩) u pre x bq);have ao:gd c (cU (λa=>f a ⟨x0,r,s⟩) u pre) (x:Int)=u x:=by unfold gd;rw[aI ⟨oZ,oZ⟩,fN,acD _ _ _ _ bq]
  have aa:=a0.out (u x) ⟨x0,r,s⟩;obtain⟨y,ap⟩:=nZ (u x);obtain⟨au,av,aw⟩:=y;rw[ap]at aa ao;have a5:=qZ ab;have br:CV J w 0 (cE g):=(hk2.cell (p:=⟨w,0,cD⟩) (by show(w:Nat)<(K:Nat);omega) (by show¬((w:Nat)=I\/(w:Nat)=(j:Nat)+1\/(K:Nat)<=(w:Nat));omega)).trans b9;have r1:=cb.bA hk2 oZ;have r2:CV J ((w:Nat)+1+1) 0 (.func (.func d) #[] #[]):=(hk2.cell (p:=⟨(w:Nat)+1+1,0,cD⟩) (by show(w:Nat)+1+1<(K:Nat);omega) (by show¬((w:Nat)+1+1=I\/(w:Nat)+1+1=(j:Nat)+1\/(K:Nat)<=(w:Nat)+1+1);omega)).trans cc;obtain⟨ak,-,-,-,-⟩:=ab.box;have bo:=ab.ptr;have dd:(w:Nat)+2<(J:Nat):=oZ;have bz:=λW' (k:aD J W')=>k.cell (b:=(w:Nat)) oZ br;have b0:=λW' (k:aD J W')=>k.cell (b:=(w:Nat)+1+1) oZ r2;have b4:=λW' (k:aD J W')=>k.cell r1.1 r1.2.1;have b5:=λW' (k:aD J W')=>k.cell r1.1 r1.2.2.1;have b6:=λW' (k:aD J W')=>k.cell r1.1 r1.2.2.2;have b7:=λW' (k:aD J W')=>k.cell ak bo;have b8:∀W',aD J W'->(Instr.lookup 157 (.map (cC I)) (cR cP (x:Int)) cV).run cG W'=.ok (cN #[au,av,aw]) W':=λW' k=>by obtain⟨L,cj,cr⟩:=(a5.on k).map;have:=(cj.look afU (t:=157) (et:=40) fW aaD (x:Int)).2;rw[cr,ao]at this;exact this
  have ae:=bs.out;obtain⟨z,aq⟩:=nZ (f ⟨au,av,aw⟩ ⟨x0,r,s⟩);rw[aq]at aa;have bw:=qY (cU (λa=>f a ⟨x0,r,s⟩) u (pre++[x])=upd (cU (λa=>f a ⟨x0,r,s⟩) u pre) x z) (by rw[a8.out,ap,aq]);obtain⟨z0,z1,z2⟩:=z;have bb:eP cG d #[cN #[au,av,aw],cN #[x0,r,s]] (cN #[z0,z1,z2]):=aa;clear ao aa ap a8 br r1 r2 bo cn cl arx am ab aq O be a0;gi_wp2;refine wG 11 (λ⟨_,_,h⟩=>by cases h) kZ kZ kZ ?_;simp only[cY,eI,aZ,bB];(repeat refine kY ?_);refine kJ bb ?_;(repeat refine kY ?_);refine dP ?_;intro cu aj;have cq:=qZ (MB (a5.on aj) x ct ⟨z0,z1,z2⟩);have bu:=qZ aj;clear bz b0 b4 b5 b6 b7 b8 ae bb aj;go_wp2_with fail;refine cq.out.mono ?_;rintro e af⟨rfl,bd,bi⟩;have bt:=qY ((mQ af g I v1 v2 aG aJ c (cU (λa=>f a ⟨x0,r,s⟩) u (pre++[x]))/\aL (λk=>k=I\/k=(j:Nat)+1\/(K:Nat)<=k) K af)/\aL (λk=>k=I) J af) (by have bj:aL (λk=>k=I) J af:=(eA bu).trans bi;exact⟨⟨by rw[bw.out];exact bd,hk2.trans (bj.mono λi _ e=>.inl e)⟩,bj⟩);clear bd bi hk2;go_wp2_with fail;exact bt
 case done=>rintro W⟨ck,co⟩ hD;go_wp2_with fail;have bk:=lI W (K:Nat) (.deferred cD);refine⟨sZ,.inl ⟨_,_,rfl,fx hD,?_⟩⟩;refine⟨_,results_tmp rfl _ _ _,rfl,ck.bA bc bk oZ oZ λb e=>oZ,?_⟩;exact((eA (F:=λk=>k=I) cs.out).trans' co λi hi e=>oZ).trans' bk λi hi e=>oZ
theorem adC{j:Nat}{aG:Int}{u:eL}(h:mQ w g j v1 v2 aG aJ c u)(t:Int)(v:cI)(d:gm)(f:cI->cI->cI)(l:∀a b,eP cG d #[a.val,b.val] (f a b).val)(k:∀(a:Array cS) (W:cA),(gi d a).run cG W=.ok (.enter d a) W):eQ cG 38 #[cE g,t,v.val,.func (.func d) #[] #[]] w λe w'=>UO (LJ c t) g j v1 v2 aG aJ c (fu c u t λa=>f a v) w e w':=by
 unfold LJ fu;by_cases i:iP c t=eV
 .rw[aI i,aI i];exact agB h t i v d f l k
 .rw[aF i,aF i];exact ajN h t (by simpa using i) v d
def iJ(f:Nat->cI)(n k:Nat):List cI:=(hj n).map λi=>if i<k then f i else cF
theorem zP(f:Nat->cI)(n k:Nat):(iJ f n k).length=n:=by simp[iJ]
theorem adH(f:Nat->cI)(n:Nat):iJ f n 0=fz n cF:=by apply fP;intro i;by_cases h:i<n<;>simp[iJ,h]
theorem agj(f:Nat->cI)(n:Nat):iJ f n n=(hj n).map f:=by apply fP;intro i;by_cases h:i<n<;>simp[iJ,h]
theorem agi(f:Nat->cI)(n k:Nat)(h:k<n):(iJ f n k).set k (f k)=iJ f n (k+1):=by
 apply fP;intro i;by_cases hi:i=k
 .subst hi;rw[jW (by rw[zP];exact h)];simp[iJ,h]
 .rw[kI (Ne.symm hi)];by_cases a:i<n
  .have:(i<k+1)=(i<k):=by simp;omega
   simp[iJ,a,this]
  .simp[iJ,a]
def AllEnd(l:List cI)(w:cA)(e:gf)(w':cA):Prop:=∃v,e=cL v/\iV w' (w:Nat) v l/\cH w w w'
theorem alX{W:Nat}{aG:Int}{u:eL}(h:mQ w g W v1 v2 aG aJ c u)(J:c.aN.length<=1000000):eQ cG 41 #[cE g] w λe w'=>AllEnd (cQ c u) w e w':=by
 have H:=qZ h;have aa:=h.box.1;have F:=h.box.2.1;obtain⟨an,ao,o,⟨A,ca,e1,ai,af⟩,_⟩:=h.cfg;have p:v1=bT A c.aN.length ca:=by simp only[ft,eB,dJ,and_true]at o;rw[o.1,e1]
 obtain⟨N,b⟩:=nQ c.aN.length;rw[b.out]at p J;rw[p]at F;obtain⟨ap,ah,T,M,aj⟩:=CY w N oZ;have x:=qZ T;have v:=qZ M;go_enter func41,ntmps41;go_wp2_with fail;go_loopw [16] (λi wr=>∃k:Nat,i=cR cP (k:Int)/\k<=N/\iV wr (w:Nat) (bT w N N) (iJ u N k)/\cH w w wr) (λi _=>N-(intOf i).toNat);exact⟨0,rfl,oZ,by rw[adH];exact x,v⟩
 obtain⟨k,rfl,ae,a,j⟩:=hrel
 rename cA=>wr
 by_cases l:k<N
 .have f:=H.on j;obtain⟨L,I,Q⟩:=f.map;have r:=(I.look afU (t:=157) (et:=40) fW aaD (k:Int)).2;have K:gd c u (k:Int)=u k:=by unfold gd;rw[aI ⟨oZ,by rw[b.out];omega⟩,fN]
  rw[Q,K]at r;have ag:=f.ptr;have ab:=f.box.1;obtain⟨-,-,ad,ak,al,am⟩:=a.dR (i:=k) (by rw[zP];exact l);have d:=a.ok;have m:=qZ (a.set k (u k));rw[agi u N k l]at m;have n:=qZ (zW (w0:=w) j lZ (k*3) (u k));unfold uR at n;have X:=d (k*3);have Y:=d (k*3+1);have Z:=d (k*3+2);generalize u k=y at*;obtain⟨aq,ar,au⟩:=y;simp only[Vec.V.val]at r;have O:k<(iJ u N k).length:=by rw[zP];exact l
  generalize(iJ u N k)[k]'O=z at*;go_wp2_with fail;go_roundw;exact⟨k+1,mZ,oZ,m,n⟩;simp[intOf];omega
 .have s:=qY (AllEnd (cQ c u) w (cL (bT w N N)) wr) (⟨_,rfl,by have e:k=N:=oZ;subst e;rw[agj]at a;unfold cQ;rw[b.out];exact a,j⟩);go_wp2_with fail;go_ret;exact s
theorem flat_get{α:Type}{dec:α->List cS}(hs:∀x,(dec x).length=sz):∀(xs:List α) (i:Nat) (x:α),xs[i]? =cC x->∀j v,(dec x)[j]? =cC v->(xs.flatMap dec)[i*sz+j]? =cC v
 |[],i,x,h=>by simp at h
 |y::l,0,x,h=>λj v hv=>by simp at h;subst h;rw[dA,kP,aO,cO (bF.1 hv).1];exact hv
 |y::l,i+1,x,h=>λj v hv=>by rw[dA,dK (by rw[hs,gh];omega),hs,show(i+1)*sz+j-sz=i*sz+j by rw[gh];omega];exact flat_get hs l i x (by simpa using h) j v hv
theorem WB{α:Type}{dec:α->List cS}(hs:∀x,(dec x).length=sz):∀(xs:List α) (j:Nat) (u:cS),(xs.flatMap dec)[j]? =cC u->∃i x k,j=i*sz+k/\xs[i]? =cC x/\(dec x)[k]? =cC u
 |[],j,u,h=>by simp at h
 |y::l,j,u,h=>by
  rw[dA]at h;by_cases a:j<sz
  .rw[cO (by rw[hs];exact a)]at h;exact⟨0,y,j,oZ,rfl,h⟩
  .rw[dK (by rw[hs];omega),hs]at h;obtain⟨i,x,k,e,c,b⟩:=WB hs l (j-sz) u h;exact⟨i+1,x,k,by rw[gh];omega,by simpa using c,b⟩
theorem acg{α:Type}{dec:α->List cS}(hs:∀x,(dec x).length=sz):∀(xs:List α),(xs.flatMap dec).length=xs.length*sz
 |[]=>sZ
 |y::l=>by rw[dA,aW,hs,acg hs l,eJ,gh];omega
theorem HY(x:lN):(nN x).length=11:=rfl
theorem alM:(prog.info? 66).map (λi=>(i.zero,i.size,i.bytes))=cC (cC (cN #[(),(),(),(),(),(),(),(),(),(),()]),11,88):=by kernel_rfl
theorem agw{xs:List lN}(h:Nodes w v xs)(W:xs.length<=1000000):∃A c w',(Builtin.append_ #[23,23] 23 #[eV,v]).run cG w=.ok (bT A xs.length c) w'/\Nodes w' (bT A xs.length c) xs/\cH w w w'/\(∀b o,A=cC ⟨b,o,cD⟩->(w:Nat)<=b/\b<w'.heap.size):=by
 obtain⟨i0,hi,N,O,Q⟩:=info_parts alM;obtain⟨A,ca,rfl,F,l⟩:=h;cases A with
 |none=>
  have a:xs=[]:=by
   by_cases e:xs=[]
   .exact e
   .obtain⟨b,o,f,_⟩:=F e;cases f
  subst a;refine⟨cD,0,w,?_,⟨cD,0,rfl,λe=>absurd rfl e,l⟩,aK _ _,λb o e=>by cases e⟩;simp[Builtin.append_,run_underlying hc,sizeOf,typeInfo,hi,Builtin.lenOf,Builtin.firstCells]
 |some I=>
  obtain⟨v',w',H,n,K,_,T⟩:=run_append_own_at (P:=cG) w (w:Nat) 23 23 66 i0 _ 11 88 hc hi N O Q rfl oZ (bT cD 0 0) 0 [] (World.ownsRow_nil w (w:Nat) _ 11) I xs.length ca (xs.flatMap nN) (acg HY xs)
   (λj u p=>by
    obtain⟨i,x,k,e,a,d⟩:=WB HY xs j u p;obtain⟨b,o,f,_,s⟩:=F (by intro e;subst e;simp at a);cases f;have:=s i x a k u d;have e2:(⟨b,o,cD⟩:Addr).add j=⟨b,o+j,cD⟩:=by cases j<;>simp[Addr.add]
    rw[e2,e,<-iY];exact this)
   (λu p=>by obtain⟨j,L,rfl⟩:=kX p;obtain⟨i,x,k,e,a,d⟩:=WB HY xs j _ (aH L);have m:=gP d;generalize(xs.flatMap nN)[j]=y at*;simp only[nN,bH,dL,or_false]at m;rcases m with rfl|rfl|rfl|rfl|rfl|rfl|rfl|rfl|rfl|rfl|rfl<;>rfl) (by unfold gr;omega) oZ lZ
  rw[eM,aO]at n;have r:cH w w w':=(aK _ _).grown K lZ (λk d=>by cases d);rcases n.2 with⟨rfl,a⟩|⟨g,cap,cur,rfl,J,z,s,m,_⟩
  .have M:xs=[]:=fK a;subst M;exact⟨cD,0,w',H,⟨cD,0,rfl,λe=>absurd rfl e,l⟩,r,λb o e=>by cases e⟩
  .refine⟨cC ⟨g,0,cD⟩,cap,w',H,⟨_,_,rfl,λX=>⟨g,0,rfl,(bS.1 z).1,λi x a j v hv=>?_⟩,l⟩,r,λb o e=>by cases e;exact⟨J,(bS.1 z).1⟩⟩;have:=World.ownsRow.cells n (g:=g) rfl (i*11+j) v (flat_get HY xs i x a j v hv);rw[addr_add]at this;rw[aO];exact this
def aoX(v2:cS)(aG aJ:Int)(c:dC)(w:cA)(e:gf)(w':cA):Prop:=∃g mb A ca,e=cL (cE (cC ⟨g,0,cD⟩))/\mQ w' g mb (bT A c.aN.length ca) v2 aG aJ c fX/\(w:Nat)<=g/\(w:Nat)<=mb/\cH w w w'/\(∀b o,A=cC ⟨b,o,cD⟩->(w:Nat)<=b/\b<(w':Nat))
def aqz(v2:cS)(aG aJ:Int)(c:dC)(w:cA)(e:gf)(w':cA):Prop:=∃g mb v1,e=cL (cE (cC ⟨g,0,cD⟩))/\mQ w' g mb v1 v2 aG aJ c fX/\(w:Nat)<=g/\(w:Nat)<=mb/\cH w w w'
theorem alQ{aG:Int}(y:bW w (cN #[v1,v2,aG,aJ]) c)(ap:c.aN.length<=1000000):∀w1,cH w w w1->eQ cG 37 #[cN #[v1,v2,aG,aJ]] w1 λe w'=>aoX v2 aG aJ c w1 e w':=by
 intro w1 al;replace y:=y.below al;obtain⟨bf,bg,T,X,W⟩:=y;simp only[ft,eB,dJ,Value.int.injEq,true_and,and_true]at T;obtain⟨rfl,rfl,rfl,rfl⟩:=T;have i:cH w1 w1 (w1.alloc (ac #[v1,v2,c.aG,c.aJ] 26)):=bZ;have v:=gM.new w1 v1 v2 c.aG c.aJ;have z:∀j,(w1.alloc (ac #[v1,v2,c.aG,c.aJ] 26)).frozen? ⟨(w1:Nat),j,cD⟩=cV:=λj=>by simp[go_sem]
 obtain⟨A,ca,a,H,ak,d,ag⟩:=agw (X.below i) ap;have ai:=qZ W;have I:=qZ ag;obtain⟨m,s,ae,_,_⟩:=X;subst ae;have ah:=W.below (aA i d);obtain⟨aG,F⟩:=nZ c.aG;obtain⟨aJ,u⟩:=nZ c.aJ;have J:=qZ (aC F u);rw[F,u]at H i d v z⊢;obtain⟨N,r⟩:=nQ c.aN.length;have K:=qZ ak;have Z:=qZ ah;rw[r.out]at H K v i d z⊢;clear F u;go_enter func37,ntmps37;generalize be:w1.alloc (ac #[bT m N s,v2,aG,aJ] 26)=wq at*;obtain⟨g,x0,ax,ay,az⟩:=v;have a5:CV a w1 0 (bT m N s):=(d.cell (p:=⟨w1,0,cD⟩) g).trans x0;have c1:CV a w1 1 v2:=(d.cell (p:=⟨w1,1,cD⟩) g).trans ax;have c2:CI a w1 2 aG:=(d.cell (p:=⟨w1,2,cD⟩) g).trans ay;have c3:CI a w1 3 aJ:=(d.cell (p:=⟨w1,3,cD⟩) g).trans az;have ba:a.frozen? (w1,0)=cV:=(d.frozen (p:=⟨w1,0,cD⟩) g).trans (z 0);have bd:(w1:Nat)<(a:Nat):=aM g d.size;have ab:=qZ d;have aa:=qZ i;have bc:= @run_makeMap cG;go_wp2_with(at_builtin;refine cK rfl (.const (bT cD 0 0)) (.tmp 4) _ _ rfl (bT cD 0 0) (bT m N s) rfl rfl H ?_);refine eK (results_tmp rfl _ _ _) rfl ?_;have Y:aL (λk=>k=(w1:Nat)) a (a.setCell (w1,0) (bT A N ca)):=(dT (λk=>k=(w1:Nat)) a).setCell (p:=⟨w1,0,cD⟩) (.inl rfl) _;have am:cH w1 w1 (a.setCell (w1,0) (bT A N ca)):=(aA aa ab).setCell (p:=⟨w1,0,cD⟩) lZ _;have f:(a.setCell (w1,0) (bT A N ca)).heap.size=(a:Nat):=sZ;obtain⟨a0,a8,M,aq,an⟩:=K.out;simp only[Value.slice.injEq]at M;obtain⟨af,-,-⟩:=M;subst af;have ar:gF (a.setCell (w1,0) (bT A N ca)) A 11 nN c.aN:=OU aq Y (λb o e=>by have:=(I b o e).1;simp at this;omega);obtain⟨B,ad,O,au,ao⟩:=Z.out;obtain⟨B',a9,Q,av,_⟩:=ai.out;rw[O]at Q;cases Q;have aw:gF (a.setCell (w1,0) (bT A N ca)) B 6 hdec c.aR:=KJ (λx=>⟨_,rfl⟩) av au Y (λb e=>.inl oZ);generalize a.setCell (w1,0) (bT A N ca)=wA at*;have aj:=oH.new wA (gz cP);have l:cH wA wA ((wA.alloc (.map #[] 0)).alloc (ac #[bT A N ca,v2,aG,aJ,.map (cC (a:Nat))] 159)):=kp;refine⟨(a:Nat)+1,(a:Nat),A,ca,rfl,?_,oZ,oZ,aA am l,λb o e=>by have:=I.out b o e;have bb:=l.size;simp at this;omega⟩;rw[r.out];refine⟨⟨by simp;omega,?_,?_,?_,?_⟩,?_,?_,[],?_,λn=>?_⟩
 .rw[<-f];simp[go_sem]
 .rw[<-f];simp[go_sem]
 .rw[<-f];simp[go_sem]
 .rw[<-f];simp[go_sem]
 .rw[<-f];simp[go_sem]
 .refine⟨_,v2,by rw[J.out.1,J.out.2],⟨A,ca,by rw[r.out],ar.below l,an⟩,⟨B,ad,O,aw.below l,ao⟩⟩
 .rw[<-f];exact aj.on (bZ)
 .simp[mJ,gd,fX,Vec.V.val,cF]
theorem VP{aG:Int}(b:bW w (cN #[v1,v2,aG,aJ]) c)(d:c.aN.length<=1000000):∀w1,cH w w w1->eQ cG 37 #[cN #[v1,v2,aG,aJ]] w1 λe w'=>aqz v2 aG aJ c w1 e w':=λw1 a=>
 (alQ b d w1 a).mono λe w' ⟨g,mb,A,ca,h1,h2,h3,h4,h5,_⟩=>⟨g,mb,_,h1,h2,h3,h4,h5⟩
end bO
variable{vr:cS}
namespace Led
open Go.Proofs.YtedmeglbjmdlhaaGreatDoor
def qL(c:dC)(l:List (Int×cI)):Nat->U
 |0=>none_
 |k+1=>change c (qL c l k) (l.getD k (0,⟨0,0,0⟩)).1 (λa=>dE a (l.getD k (0,⟨0,0,0⟩)).2)
end Led
namespace bO
open Go.RowKit L
def needs(rs:List Run):List (Int×cI):=rs.map λr=>(r.dI,fy r.need r.fG)
theorem YG(c:dC)(rs:List Run)(k:Nat)(h:k<rs.length):qL c (needs rs) (k+1)=fu c (qL c (needs rs) k) rs[k].dI (λa=>dE a (fy rs[k].need rs[k].fG)):=by
 have e:(needs rs).getD k (0,⟨0,0,0⟩)=(rs[k].dI,fy rs[k].need rs[k].fG):=by rw[aV,aH (by simp[needs];exact h),gb];simp[needs]
 show fu c _ ((needs rs).getD k _).1 _=_;rw[e]
theorem VZ(a b p:Int)(v:cI)(d e f:Int):eP cG 39 #[cN #[a,b,p,v.x,v.y,v.z,d,e,f]] (fy v p).val:=by
 intro w;have z:=gT.apG v p;obtain⟨x0,c,g⟩:=v;generalize fy ⟨x0,c,g⟩ p=y at*;obtain⟨m,n,o⟩:=y;have r:Hid (eP cG 90 #[cN #[x0,c,g],p] (cN #[m,n,o])):=qZ z;simp only[Vec.V.val];have H:arz ((w.alloc (ac #[a,b,p,x0,c,g,d,e,f] 42)).alloc (ac #[(),(),()] 40)) ((w:Nat)+1) 0 ⟨0,0,0⟩:=by refine⟨sZ,?_,?_,?_⟩<;>simp[go_sem]
 have F:∀j,((w.alloc (ac #[a,b,p,x0,c,g,d,e,f] 42)).alloc (ac #[(),(),()] 40)).frozen? ⟨(w:Nat)+1,j,cD⟩=cV:=λj=>by simp[go_sem]
 have A:cH w w ((w.alloc (ac #[a,b,p,x0,c,g,d,e,f] 42)).alloc (ac #[(),(),()] 40)):=kp;have L:((w.alloc (ac #[a,b,p,x0,c,g,d,e,f] 42)).alloc (ac #[(),(),()] 40)).heap.size=(w:Nat)+2:=sZ;have u:=qZ H;have k:=qZ F;have x:=qZ A;go_enter func39,ntmps39;go_wp2_with fail;refine(r _).mono ?_;rintro e N⟨rfl,i⟩;obtain⟨M,l,c1,c2⟩:=u.on i;simp only[aO]at l c1 c2;have I:=(i.frozen (p:=⟨(w:Nat)+1,0,cD⟩) (by show(w:Nat)+1<_;omega)).trans (k 0);have J:=(i.frozen (p:=⟨(w:Nat)+1,1,cD⟩) (by show(w:Nat)+1<_;omega)).trans (k 1);have K:=(i.frozen (p:=⟨(w:Nat)+1,2,cD⟩) (by show(w:Nat)+1<_;omega)).trans (k 2);have s:=qZ (aA x i);go_wp2_with fail;exact eK (v:=cN #[m,n,o]) (by simp[results,Tryz.results39,go_sem,l,c1,c2]) rfl ⟨rfl,by have:=s.out;exact kp⟩
def UM(l:List cI)(w:cA)(e:gf)(w':cA):Prop:=∃v,e=cL v/\iV w' (w:Nat) v l/\cH w w w'
theorem FH{rs:List Run}(l:bW w v c)(L:Runs w vr rs)(ai:c.aN.length<=1000000):∀w1,cH w w w1->eQ cG 14 #[v,vr] w1 λe w'=>UM (cQ c (qL c (needs rs) rs.length)) w1 e w':=by
 intro w1 af;replace l:=l.below af;replace L:=L.below af;obtain⟨v1,v2,rfl,b3,b4⟩:=id l;obtain⟨aG,ax⟩:=nQ c.aG;obtain⟨aJ,aw⟩:=nQ c.aJ;rw[ax.out,aw.out]at l⊢;have a0:=qZ (λW f=>VP l ai W f);obtain⟨R,b2,rfl,bl,ah,bg⟩:=L;have ao:=qZ (λ(k:Nat) (h:k<rs.length)=>(show∃A n c,rs[k].hv=bT A n c from by obtain⟨A,c,e,_⟩:=bg _ (bD h);exact⟨A,_,c,e⟩));unfold gr at ah;have au:=qZ bl;have ar:=qZ ai;obtain⟨K,aa⟩:=nQ rs.length;rw[aa.out]at ah⊢;have be:cH w1 w1 (w1.alloc (ac #[v1,v2,aG,aJ] 26)):=bZ;have H:=qZ be;obtain⟨b9,x0,ce,cg,ch⟩:=gM.new w1 v1 v2 aG aJ;go_enter func14,ntmps14;go_wp2_with fail;refine(a0.out _ H).mono ?_;rintro e cd⟨g,z,u1,rfl,a9,b5,bk,bc⟩;have ap:=qZ a9;have am:=qZ (aA H bc);have av:=qZ (bC H.size bk);go_wp2_with fail;go_loopw [12] (λi wr=>∃k:Nat,i=cR cP (k:Int)/\k<=K/\mQ wr g z u1 v2 aG aJ c (qL c (needs rs) k)/\cH w1 w1 wr) (λi _=>K-(intOf i).toNat);exact⟨0,rfl,oZ,ap,am⟩
 obtain⟨k,rfl,b6,bj,bb⟩:=hrel
 rename cA=>wr
 have ab:=qZ bj;have s:=qZ bb;by_cases bi:k<K
 .have J:k<rs.length:=by rw[aa.out];exact bi
  obtain⟨b0,ca,rfl,b8,bf⟩:=qQ au J;obtain⟨bo,p1,p2,p3,p4,bt,p6,bu,bv,bw,bp,bq,br,bs⟩:=bf wr s;have ad:=qZ (YG c rs k J);obtain⟨F,M,I,aj⟩:=ao.out k J;generalize rs[k]=r at*;obtain⟨m,r1,r2,⟨z0,z1,z2⟩,r3,o,p,N,O,Q,T,cb,cc⟩:=r;simp only at bo p1 p2 p3 p4 bt p6 bu bv bw bp bq br bs ad aj;subst aj;have a5:=VZ m r1 r2 ⟨z0,z1,z2⟩ r3 o p;generalize fy ⟨z0,z1,z2⟩ r2=y at*;have az:=qZ (λW (f:mQ W g z u1 v2 aG aJ c (qL c (needs rs) k))=>adC f r1 y 40 dE (λa b=>gT.zN a b) λ_ _=>kZ);obtain⟨X,Y,Z⟩:=y;have a8:eP cG 39 #[cN #[m,r1,r2,z0,z1,z2,r3,o,p]] (cN #[X,Y,Z]):=a5;have ag:cH wr wr (wr.alloc (ac #[m,r1,r2,z0,z1,z2,r3,o,p,N,O,Q,T,bT F M I] 86)):=bZ;have d:∀(j:Nat) (x:cS),(#[gz cP m,cR cP r1,cR cP r2,cR cP z0,cR cP z1,cR cP z2,cR cP r3,cR cP o,cR cP p,cR cP N,cR cP O,cR cP Q,cR cP T,bT F M I]:Array cS)[j]? =cC x->∀W,aD (wr.alloc (ac #[m,r1,r2,z0,z1,z2,r3,o,p,N,O,Q,T,bT F M I] 86)) W->CV W (wr:Nat) j x:=λj x bn W f=>
   f.cell sZ (by rw[World.cell?_alloc_mark];exact bn)
  have b1:=d 0 _ rfl;have c1:=d 1 _ rfl;have c2:=d 2 _ rfl;have c3:=d 3 _ rfl;have c4:=d 4 _ rfl;have c5:=d 5 _ rfl;have c6:=d 6 _ rfl;have c7:=d 7 _ rfl;have c8:=d 8 _ rfl;have an:=qZ (aA s ag);have aq:=qZ (ab.on ag);go_wp2_with fail;refine jN 7 kZ kZ ?_;simp only[cY,eI,aZ,bB];(repeat refine kY ?_);refine kJ a8 ?_;(repeat refine kY ?_);refine dP ?_;intro W f;have ae:=qZ (aA an f);have al:Hid (eQ cG 38 #[cE g,r1,cN #[X,Y,Z],.func (.func 40) #[] #[]] W λe w'=>UO (LJ c r1) g z u1 v2 aG aJ c (fu c (qL c (needs rs) k) r1 λa=>dE a ⟨X,Y,Z⟩) W e w'):=qZ (az.out W (aq.on f));go_wp2_with fail;refine al.mono ?_;rintro e ak⟨rfl,ba,bh⟩;have u:=qY (mQ ak g z u1 v2 aG aJ c (qL c (needs rs) (k+1))/\cH w1 w1 ak) (by rw[ad.out];exact⟨ba,ae.out.trans (bh.below ae.size λi e=>by rw[e];exact av)⟩);go_wp2_with fail;go_roundw;exact⟨k+1,mZ,oZ,u.1,u.2⟩;simp[intOf];omega
 .have ay:=qZ (alX ab ar);have e:k=K:=oZ;subst e;have b7:decide (k<k)=cV:=sZ;go_wp2_with fail;refine ay.out.mono ?_;rintro e bz⟨v4,rfl,bm,bd⟩;have u:=qY (UM (cQ c (qL c (needs rs) k)) w1 (cL v4) bz) (⟨v4,rfl,bm.low s.size,aA s bd⟩);go_wp2_with fail;go_ret;exact u
attribute [local go_sem] cW
def sS(B:Nat)(own:Nat->Prop)(J:(Nat->Prop)->List Nat->cA->Prop):Prop:=(∀D pre W,J D pre W->∀k,D k->k<W.heap.size)/\∀D pre W W' (F:Nat->Prop),J D pre W->aL F W W'->(∀k,k<(W:Nat)->F k->¬D k/\(own k\/B<=k))->J D pre W'
def Step(D:Nat->Prop)(W:cA)(J:(Nat->Prop)->cA->Prop)(W':cA):Prop:=∃D',J D' W'/\(∀k,D' k->D k\/(W:Nat)<=k)/\aL D W W'
def LW(f:gm)(caps:Array cS)(xs:List Nat)(R own:Nat->Prop)(St:cA->Prop):Prop:=∀(n l:Nat) (J Jx:(Nat->Prop)->List Nat->cA->Prop) (W0:cA),St W0->sS (W0:Nat) own J->sS (W0:Nat) own Jx->(∀D pre (x:Nat) rest W,xs=pre++x::rest->J D pre W->(∀k,R k->¬D k)->YieldAt cX (n-1) cG l #[(x:Int)] W λe W'=>(e=cL (hb eV)/\Step D W (λD'=>J D' (pre++[x])) W')\/(e=cL (hb cV)/\Step D W (λD'=>Jx D' (pre++[x])) W'))->∀D,(∀k,R k->¬D k)->J D [] W0->CallsIn cX n cG f (#[.func (.yield l) #[] #[]]++caps) W0 λe W'=>(∃v,e=cL v)/\((∃D',J D' xs W')\/∃D' pre,pre<+:xs/\Jx D' pre W')
def aoY(J Jx:(Nat->Prop)->cA->Prop)(D:Nat->Prop)(W:cA):gS->Act->cA->Prop
 |.normal,_,W'=>Step D W J W'
 |.ret,_,W'=>Step D W Jx W'
 |_,_,_=>False
theorem zV{g:Operand}{ps:Array Tmp}{assign body:hd}{f:gm}{caps:Array cS}{xs:List Nat}{R own:Nat->Prop}{St:cA->Prop}(be:LW f caps xs R own St)(bd:a.eval g=.func (.func f) #[] caps)(av:∀args w,(gi f args).run cG w=.ok (.enter f args) w)(bl:ps.size=1)(bn:∀W,cH w w W->St W)(al:∀k,R k->k<(w:Nat))(bs:∀k,own k->R k)(J Jx:(Nat->Prop)->List Nat->cA->Prop)(z:sS (w:Nat) own J)(ah:sS (w:Nat) own Jx)(D0:Nat->Prop)(a8:∀k,R k->¬D0 k)(ak:J D0 [] w)(bm:∀(l m:Nat) (D:Nat->Prop) (pre:List Nat) (x:Nat) (rest:List Nat) (W:cA),l=(w:Nat)+1->xs=pre++x::rest->J D pre W->aL (λk=>D0 k\/own k) w W->(∀k,D k->D0 k\/(w:Nat)+2<=k)->(w:Nat)+1<(W:Nat)->assign.wpIn (Fence.wide.inRound l) m cG (Exit.then (λa' W'=>W'=W/\∀c,J D pre c->aL (λk=>D0 k\/own k) w c->(c:Nat)=(W:Nat)->body.wpIn (Fence.wide.inRound l) m cG (aoY (λD'=>J D' (pre++[x])) (λD'=>Jx D' (pre++[x])) D c) a' c) λ_ _ _=>False) {tmps:=(ps.zip #[cR cP (x:Int)]).foldl (λt (p,v)=>t.setIfInBounds p v) a.tmps,defers:=[]} W)(bb:∀(D:Nat->Prop) (W:cA),J D xs W->aL (λk=>D0 k\/own k) w W->(∀k,D k->D0 k\/(w:Nat)+2<=k)->W.heap[(w:Nat)]? =cC (.deferred (cC []))->Q .normal {a with defers:={target:=.collected (w:Nat),args:=#[]}::a.defers} W)(bo:∀(D:Nat->Prop) (pre:List Nat) (W:cA),pre<+:xs->Jx D pre W->aL (λk=>D0 k\/own k) w W->(∀k,D k->D0 k\/(w:Nat)+2<=k)->W.heap[(w:Nat)]? =cC (.deferred (cC []))->Q .ret {a with defers:={target:=.collected (w:Nat),args:=#[]}::a.defers} W):(Code.rangeFunc g ps assign body).wpIn cX m cG Q a w:=by
 have ae:∀k,D0 k->k<(w:Nat):=z.1 D0 [] w ak;refine wpIn_rangeFunc ?_;intro fn bc;rw[show Fence.wide.round=cD from rfl];obtain⟨d,H⟩:∃d:LoopState->Option hd->Loop,d=λst pe=>{state:=st,pending:=pe,fn,tmps:=a.tmps,params:=ps,assign,body,defers:=(w:Nat)}:=⟨_,rfl⟩;obtain⟨s,ad⟩:=nZ ((w.alloc (.deferred (cC []))).alloc (.loop (d .ready cD)));have a0:s.heap[(w:Nat)+1]? =cC (.loop (d .ready cD)):=by rw[<-ad];have:=eS (w.alloc (.deferred (cC []))) (.loop (d .ready cD));rwa [aT]at this
 have ay:s.heap[(w:Nat)]? =cC (.deferred (cC [])):=by rw[<-ad];exact(Below.heap_alloc _ _ _ sZ).trans (eS w _)
 have ai:cH w w s:=by rw[<-ad];exact((aK _ w).alloc lZ _).alloc sZ _
 have bt:(s:Nat)=(w:Nat)+2:=by rw[<-ad];simp
 obtain⟨N,O⟩:∃N:((Nat->Prop)->List Nat->cA->Prop)->Loop->(Nat->Prop)->List Nat->cA->Prop,N=λJ r aa pre W=>∃D,(∀k,aa k↔(D k\/k=(w:Nat)\/k=(w:Nat)+1))/\J D pre W/\
   (∀k,D k->D0 k\/(w:Nat)+2<=k)/\aL (λk=>D0 k\/own k) w W/\W.heap[(w:Nat)+1]? =cC (.loop r)/\W.heap[(w:Nat)]? =cC (.deferred (cC [])):=⟨_,rfl⟩
 have an:∀(J:(Nat->Prop)->List Nat->cA->Prop) r,sS (w:Nat) own J->sS (s:Nat) own (N J r):=by
  intro J r z;rw[O];constructor
  .rintro aa pre W⟨D,j,A,n,b,u,ao⟩ k bf;have X:(w:Nat)+1<(W:Nat):=(bS.1 u).1;rcases(j k).1 bf with h|h|h
   .exact z.1 D pre W A k h
   .omega
   .omega
  .rintro aa pre W W' F⟨D,j,A,n,b,u,ao⟩ kf hF;have X:(w:Nat)+1<(W:Nat):=(bS.1 u).1;refine⟨D,j,z.2 D pre W W' F A kf λk b ab=>?_,n,?_,?_,?_⟩
   .have:=hF k b ab;refine⟨λh=>this.1 ((j k).2 (.inl h)),?_⟩;rcases this.2 with h|h
    .exact .inl h
    .right;omega
   .refine b.trans' kf (λi hi aw=>?_);have:=hF i (by have:=b.size;omega) aw;rcases this.2 with h|h
    .exact .inr h
    .omega
   .refine(kf.block _ X λab=>?_).trans u;exact(hF _ X ab).1 ((j _).2 (.inr (.inr rfl)))
   .refine(kf.block _ oZ λab=>?_).trans ao;exact(hF _ oZ ab).1 ((j _).2 (.inr (.inl rfl)))
 refine⟨(w:Nat)+1,[{target:=.collected (w:Nat),args:=#[]}],s,{target:=.fn (.func f) caps,args:=#[.func (.yield ((w:Nat)+1)) #[] #[]]},s,f,#[.func (.yield ((w:Nat)+1)) #[] #[]]++caps,s,?_,?_,?_,?_,λh=>by simp[cX]at h,?_⟩
 .rw[<-ad,H];exact run_enterLoop_outer _ _ _ _ _
 .simp only[resolve,bd];simp[go_sem]
 .intro bp br;trivial
 .simp[invoke,go_sem,av]
 .have ax:J D0 [] s:=z.2 D0 [] w s (λ_=>False) ak (eA ai) (λk _ h=>h.elim);refine(be _ ((w:Nat)+1) (N J (d .ready cD)) (N Jx (d .done (cC .ret))) s (bn s ai) (an J _ z) (an Jx _ ah) ?_
   (λk=>D0 k\/k=(w:Nat)\/k=(w:Nat)+1) (λk b=>?_) ?_).mono ?_
  .intro aa pre x rest W bk am bq;rw[O]at am;obtain⟨D,j,A,n,M,u,b⟩:=am;have X:(w:Nat)+1<(W:Nat):=(bS.1 u).1;have ar:=run_yield (P:=cG) (args:=#[cR cP (x:Int)]) u (by rw[H];exact bl.symm);rw[H]at ar;refine⟨fn,_,assign,body,ar,roundIn_of_wpIn bc (gy (bm ((w:Nat)+1) _ D pre x rest W rfl bk A M n X) ?_)⟩;intro e a' W' T;cases e with
   |normal=>
    obtain⟨rfl,ba⟩:=T;refine⟨_,run_beginRound u (by rw[H]),?_⟩;have ap:(W'.putObj ((w:Nat)+1) (.loop {d .ready cD with state:=.busy})).heap[(w:Nat)+1]? =cC (.loop {d .ready cD with state:=.busy}):=eN X;have bg:(W'.putObj ((w:Nat)+1) (.loop {d .ready cD with state:=.busy})).heap[(w:Nat)]? =cC (.deferred (cC [])):=(cJ oZ).trans b;have af:=lI W' ((w:Nat)+1) (.loop {d .ready cD with state:=.busy});have L:¬D ((w:Nat)+1):=λh=>by rcases n _ h with h|h;have:=ae _ h;omega;omega
    have az:¬D (w:Nat):=λh=>by rcases n _ h with h|h;have:=ae _ h;omega;omega
    refine gy (ba _ (z.2 _ _ _ _ _ A af λk _ e=>by subst e;exact⟨L,.inr oZ⟩) (M.trans' af λi hi e=>oZ) sZ) ?_;generalize a9:W'.putObj ((w:Nat)+1) (.loop {d .ready cD with state:=.busy})=c at*;have bu:(c:Nat)=(W':Nat):=by rw[<-a9];simp
    have bi:(w:Nat)+1<(c:Nat):=(bS.1 ap).1;have aj:∀(J:(Nat->Prop)->List Nat->cA->Prop) (y:Option hd) (I:cA),sS (w:Nat) own J->Step D c (λD'=>J D' (pre++[x])) I->
      (Instr.endRound ((w:Nat)+1) y).run cG I=.ok (hb y.isNone) (I.putObj ((w:Nat)+1) (.loop (d (if y.isNone then .ready else .done) y)))/\
      Step aa W' (λD'=>N J (d (if y.isNone then .ready else .done) y) D' (pre++[x])) (I.putObj ((w:Nat)+1) (.loop (d (if y.isNone then .ready else .done) y))):=by
     intro J y I z⟨D',hj3,ag,hk3⟩;have aq:=(hk3.block _ bi L).trans ap;have bh:=(hk3.block _ oZ az).trans bg;have Z:=run_endRound (P:=cG) y aq;rw[H]at Z;have a5:¬D' ((w:Nat)+1):=λh=>by rcases ag _ h with h|h;exact L h;omega
     have K:=lI I ((w:Nat)+1) (.loop (d (if y.isNone then .ready else .done) y));refine⟨by rw[H];exact Z,λk=>D' k\/k=(w:Nat)\/k=(w:Nat)+1,?_,?_,?_⟩
     .rw[O];refine⟨D',λk=>Iff.rfl,z.2 _ _ _ _ _ hj3 K λk _ e=>by subst e;exact⟨a5,.inr oZ⟩,λk b=>?_,?_,eN (bS.1 aq).1,(cJ oZ).trans bh⟩
      .rcases ag k b with h|h
       .exact n k h
       .right;omega
      .refine((M.trans' af λi hi e=>oZ).trans' hk3 λi hi h=>?_).trans' K (λi hi e=>oZ);rcases n i h with h|h
       .exact .inl h
       .omega
     .rintro k (h|h|h)
      .rcases ag k h with h|h
       .exact .inl ((j k).2 (.inl h))
       .right;omega
      .exact .inl ((j k).2 (.inr (.inl h)))
      .exact .inl ((j k).2 (.inr (.inr h)))
     .exact((af.mono λi _ e=>(j i).2 (.inr (.inr e))).trans (hk3.mono λi _ e=>(j i).2 (.inl e))).trans (K.mono λi _ e=>(j i).2 (.inr (.inr e)))
    rintro e a3 I Y;cases e with
    |normal=>
     obtain⟨Z,hs⟩:=aj J cD I z Y;exact⟨_,_,Z,.inl ⟨rfl,hs⟩⟩
    |ret=>
     obtain⟨Z,hs⟩:=aj Jx (cC .ret) I ah Y;exact⟨_,_,Z,.inr ⟨rfl,hs⟩⟩
    |exit id=>exact Y.elim
    |goto t=>exact Y.elim
    |panic au=>exact Y.elim
    |outgrown=>exact Y.elim
   |exit id=>exact T.elim
   |goto t=>exact T.elim
   |ret=>exact T.elim
   |panic au=>exact T.elim
   |outgrown=>exact T.elim
  .rintro(h|h|h)
   .exact a8 k b h
   .have:=al k b;omega
   .have:=al k b;omega
  .rw[O];exact⟨D0,λk=>Iff.rfl,ax,λk h=>.inl h,eA ai,a0,ay⟩
  .rintro e c⟨⟨v,rfl⟩,(⟨D',hi⟩|⟨D',pre,bj,hi⟩)⟩
   .rw[O]at hi;obtain⟨D,j,A,n,M,u,b⟩:=hi;have L:¬D ((w:Nat)+1):=λh=>by rcases n _ h with h|h;have:=ae _ h;omega;omega
    have K:∀o,aL (λk=>k=(w:Nat)+1) c (c.putObj ((w:Nat)+1) o):=λo=>lI c ((w:Nat)+1) o;exact⟨cD,_,by have:=gl (P:=cG) u (by rw[H];simp);rw[H]at this;exact this,bb D _ (z.2 _ _ _ _ _ A (K _) λk _ e=>by subst e;exact⟨L,.inr oZ⟩) (M.trans' (K _) λi hi e=>oZ) n ((cJ oZ).trans b)⟩
   .rw[O]at hi;obtain⟨D,j,A,n,M,u,b⟩:=hi;have L:¬D ((w:Nat)+1):=λh=>by rcases n _ h with h|h;have:=ae _ h;omega;omega
    have K:∀o,aL (λk=>k=(w:Nat)+1) c (c.putObj ((w:Nat)+1) o):=λo=>lI c ((w:Nat)+1) o;exact⟨cC .ret,_,by have:=gl (P:=cG) u (by rw[H];simp);rw[H]at this;exact this,wpIn_ret (bo D pre _ bj (ah.2 _ _ _ _ _ A (K _) λk _ e=>by subst e;exact⟨L,.inr oZ⟩) (M.trans' (K _) λi hi e=>oZ) n ((cJ oZ).trans b))⟩
theorem VA{aG:Int}(c:dC)(I:c.aN.length<=gr)(t:Int)(w:bn≠bc)(y:∀b o,A=cC ⟨b,o,cD⟩->b≠bn):LW 149 #[cE bn,cE bc] (cT c t) (λk=>k=bn\/k=bc\/∃o,A=cC ⟨k,o,cD⟩) (λk=>k=bn) (λW=>vL W bn bc A c.aN.length ca v2 aG aJ c.aN t):=by
 intro n l J Jx W0 m F Z M D z H;obtain⟨R,d⟩:∃R:Nat->Prop,R=λk=>k=bn\/k=bc\/∃o,A=cC ⟨k,o,cD⟩:=⟨_,rfl⟩;have aa:∀k,R k->k<(W0:Nat)\/∃o,A=cC ⟨k,o,cD⟩:=λk a=>by
  rw[d]at a;rcases a with rfl|rfl|h
  .exact .inl m.lt
  .exact .inl m.box.1
  .exact .inr h
 refine(ahl (n:=n) l bn bc (A:=A) (ca:=ca) (v2:=v2) (aG:=aG) (aJ:=aJ) c I t (λpre W=>∃D,J D pre W/\∀k,R k->¬D k) (λpre W=>∃D,Jx D pre W) (λk=>¬R k)
  (by rw[d];simp) (by rw[d];simp) (λb o e=>by rw[d];simp[e]) w y ?_ ?_ W0 m ⟨D,H,by rw[d];exact z⟩).mono ?_
 .rintro pre W v⟨D,g,f⟩;refine⟨D,F.2 D pre W _ (λk=>k=bn) g ((dT (λk=>k=bn) W).setCell (p:=⟨bn,0,cD⟩) (.inl rfl) v) λk a e=>?_,f⟩;subst e;exact⟨f k (by rw[d];exact .inl rfl),.inl rfl⟩
 .rintro pre x rest W u⟨D,g,f⟩ hat;obtain⟨fn,tmps,assign,body,Y,K⟩:=M D pre x rest W u g (by rw[d]at f;exact f);refine⟨fn,tmps,assign,body,Y,K.mono ?_⟩;have L:∀k,R k->k<(W:Nat):=λk a=>by
   rw[d]at a;rcases a with rfl|rfl|⟨o,O⟩
   .exact hat.lt
   .exact hat.box.1
   .have X:c.aN≠[]:=λe=>by have:=(aak c t x (by rw[u];simp)).1;rw[e]at this;simp at this
    obtain⟨b,ab,e,N,_⟩:=hat.row X;rw[O]at e;cases e;exact N
  rintro e W' (⟨rfl,D',j,r,s⟩|⟨rfl,D',j,r,s⟩)
  .refine .inl ⟨rfl,⟨D',j,λk a h=>?_⟩,s.mono λi _ h T=>f i T h⟩;rcases r k h with h|h
   .exact f k a h
   .have:=L k a;omega
  .exact .inr ⟨rfl,D',j⟩
 .rintro e W'⟨hv,⟨D',g,_⟩|⟨pre,Q,D',g⟩⟩
  .exact⟨hv,.inl ⟨D',g⟩⟩
  .exact⟨hv,.inr ⟨D',pre,Q,g⟩⟩
end bO
variable{tmps:Array cS}{B' k l:Nat}
namespace bO
open Go.RowKit L
attribute [local go_sem] cW
theorem aaF(v1 v2:cS)(aG aJ t:Int)(w:cA):eQ cG 88 #[cN #[v1,v2,aG,aJ],t] w λe w'=>e=cL (.func (.func 149) #[] #[cE (cC ⟨(w:Nat)+1,0,cD⟩),cE w])/\w'=(w.alloc (ac #[v1,v2,aG,aJ] 26)).alloc (ac #[t] 3):=by go_enter func88,ntmps88;go_wp2_with fail;go_ret;exact⟨rfl,rfl⟩
theorem NA(v1 v2:cS)(aG aJ t:Int)(w:cA):eQ cG 220 #[cN #[v1,v2,aG,aJ],t] w λe w'=>e=cL (.func (.func 247) #[] #[cE w,cE (cC ⟨(w:Nat)+1,0,cD⟩)])/\w'=(w.alloc (ac #[v1,v2,aG,aJ] 26)).alloc (ac #[t] 3):=by go_enter func220,ntmps220;go_wp2_with fail;go_ret;exact⟨rfl,rfl⟩
def Marks(B:Nat)(D:Nat->Prop)(ds:List gv)(W:cA):Prop:=(∀d∈ds,∃r,d={target:=.collected r,args:=#[]}/\W.heap[r]? =cC (.deferred (cC []))/\B<=r/\¬D r)/\ds.Nodup
theorem Marks.nil(B:Nat)(D:Nat->Prop)(W:cA):Marks B D [] W:=⟨λ_ h=>by simp at h,List.nodup_nil⟩
theorem Marks.more{B:Nat}{D D':Nat->Prop}{ds:List gv}(h:Marks B D ds W)(k:aL D W W')(f:∀i,D' i->D i\/(W:Nat)<=i):Marks B D' ds W':=
 ⟨λd g=>by
  obtain⟨r,e,b,c,a⟩:=h.1 d g;have j:=(bS.1 b).1;refine⟨r,e,(k.block r j a).trans b,c,λh=>?_⟩;rcases f r h with h|h
  .exact a h
  .omega,h.2⟩
theorem Marks.cons{B:Nat}{D:Nat->Prop}{ds:List gv}{r:Nat}(h:Marks B D ds W)(g:W.heap[r]? =cC (.deferred (cC [])))(b:B<=r)(c:¬D r)(f:∀d∈ds,∀r',d={target:=.collected r',args:=#[]}->r'≠r):Marks B D ({target:=.collected r,args:=#[]}::ds) W:=
 ⟨λd a=>by
  rcases bH.1 a with rfl|a
  .exact⟨r,rfl,g,b,c⟩
  .exact h.1 d a,by
  rw[iE];refine⟨λe=>f _ e r rfl rfl,h.2⟩⟩
theorem BM{fn:Func}{R:gf->cA->Prop}{B:Nat}{D:Nat->Prop}(g:∀W,(results fn tmps).run cG W=.ok v W):∀(ds:List gv) (W:cA),Marks B D ds W->(∀W',aL (λi=>B<=i/\¬D i) W W'->R (cL v) W')->LeavesInM cX n cG fn tmps R ds .returning W
 |[],W,_,a=>⟨_,g W,a W (dT _ _)⟩
 |d::ds,W,b,a=>by
  obtain⟨r,rfl,s,l,o⟩:=b.1 d sZ;have c:=b.2;rw[iE]at c;refine⟨sZ,.inl ⟨r,_,rfl,fx s,BM (B:=B) (D:=D) g ds _ ⟨λd' f=>?_,c.2⟩ λW' k=>a W' ?_⟩⟩
  .obtain⟨r',e,u,m,p⟩:=b.1 d' (by simp[f]);refine⟨r',e,(cJ λj=>?_).trans u,m,p⟩;subst j;exact c.1 (e▸f)
  .exact((lI W r (.deferred cD)).mono λi _ e=>by subst e;exact⟨l,o⟩).trans k
theorem ahc(k:Nat)(h:k<1000000):wrap64 ((k:Int)+1)=((k+1:Nat):Int):=(IntWalk.wrap64_in _ oZ).trans rfl
theorem afm{f:gm}{assign body:hd}{R:gf->cA->Prop}(h:RoundIn cX n cG l f tmps assign body w R):RoundIn (Fence.wide.inRound m) k cG l f tmps assign body w R:=
 ⟨h.1,λc cs _=>h.2 c cs (room_wide _)⟩
theorem sS.sub{B:Nat}{own c:Nat->Prop}{J:(Nat->Prop)->List Nat->cA->Prop}(h:sS B own J)(g:List Nat->List Nat)(j:B<=B')(f:∀k,c k->own k\/B<=k):sS B' c (λD pre W=>J D (g pre) W):=
 ⟨λD pre W b=>h.1 D (g pre) W b,λD pre W W' F b k hF=>h.2 D (g pre) W W' F b k λi hi e=>by
  obtain⟨d,a⟩:=hF i hi e;refine⟨d,?_⟩;rcases a with a|a
  .exact f i a
  .right;omega⟩
theorem sS.pure{B:Nat}{own:Nat->Prop}{J:(Nat->Prop)->List Nat->cA->Prop}(h:sS B own J)(p:Prop):sS B own (λD pre W=>J D pre W/\p):=
 ⟨λD pre W a=>h.1 D pre W a.1,λD pre W W' F a k hF=>⟨h.2 D pre W W' F a.1 k hF,a.2⟩⟩
def pick(n:Int)(t:Nat)(pre:List Nat):List Nat:=if pre.any (λx=>(x:Int)==n)then[t]else[]
theorem abw{n:Int}{t x:Nat}{pre:List Nat}(h:(x:Int)≠n):pick n t (pre++[x])=pick n t pre:=by
 unfold pick;rw[gO];have:((x:Int)==n)=cV:=by simpa using h
 simp[this]
theorem abx{n:Int}{t x:Nat}{pre:List Nat}(h:(x:Int)=n):pick n t (pre++[x])=[t]:=by unfold pick;rw[gO,aI];simp[h]
theorem aiv{n:Int}{t x:Nat}{pre rest:List Nat}(h:(x:Int)=n)(b:(pre++x::rest).Nodup):pick n t pre=[]:=by
 unfold pick;rw[aF];intro a;rw[kS]at a;obtain⟨y,c,e⟩:=a;have:y=x:=by have:=beq_iff_eq.1 e;omega
 subst this;rw[kG]at b;exact b.2.2 y c y sZ rfl
theorem alv(c:dC)(n:Int)(k:Nat)(h:k<(gQ c).length):jV c n k++pick n (gQ c)[k] (cT c ((gQ c)[k]:Int))=jV c n (k+1):=by rw[LP c n k h];unfold pick Tree.on;split<;>simp
theorem adU(c:dC)(n:Int)(k:Nat)(h:k<(gQ c).length)(a:Tree.on c n (gQ c)[k]=eV):∃rest,cM c n=jV c n k++(gQ c)[k]::rest:=by
 refine⟨((gQ c).drop (k+1)).filter λt=>Tree.on c n t,?_⟩;unfold cM jV
 conv=>lhs;rw[<-gX k (gQ c),fU,cZ h,List.filter_cons,aI a]
theorem KE{aG:Int}(bl:bW w0 (cN #[v1,v2,aG,aJ]) c)(bj:c.aN.length<=1000000)(n:Int)(bc bn:Nat):LW 247 #[cE bc,cE bn] (cM c n) (λk=>k<(w0:Nat)\/k=bc\/k=bn) (λ_=>False) (λW=>cH w0 w0 W/\gM W bc v1 v2 aG aJ/\W.cell? (bn,0)=cC (cR cP n)/\bn<(W:Nat)):=by
 intro m l J Jx W0⟨ap,hbx,hcn,hbn⟩ hJ hJx hY D0 hD0 hJ0;have cc:=qZ hY;have X:=qZ hJ;have ba:=qZ hJx;have b5:=qZ hJ0;have T:=qZ hD0;have bi:=qZ (hJ.1 _ _ _ hJ0);have bz:=qZ bl;refine fq func247 rfl trivial (wpIn_wide.2 ?_);simp only[ntmps247,fO,eJ,fr,fv,fw,kL,eE,eO,eY,eM,eW];have aq:cH W0 W0 (W0.alloc (ac #[.func (.yield l) #[] #[]] 187)):=bZ;have dv:(W0.alloc (ac #[.func (.yield l) #[] #[]] 187)).cell? (W0,0)=cC (.func (.yield l) #[] #[]):=by simp[go_sem]
 have eg:(W0.alloc (ac #[.func (.yield l) #[] #[]] 187)).heap.size=(W0:Nat)+1:=sZ;obtain⟨z0,z1,z2,eu,z4⟩:=hbx.on aq;have ev:=(aq.cell (p:=⟨bn,0,cD⟩) hbn).trans hcn;have be:=qZ hbx;have b0:=qZ hcn;have bd:=qZ aq;go_wp2_with fail;refine(afO bl bj _ (ap.trans (bd.out.mono ap.size))).mono ?_;rintro e f⟨es,rfl,cm,ar⟩;have af:=qZ (aA bd.out ar);obtain⟨bw,c2,rfl,cx⟩:=mV cm;have b4:=qZ cx;have d9:(W0.alloc (ac #[.func (.yield l) #[] #[]] 187)).heap.size<=(f:Nat):=ar.size;have dw:=qZ ((ar.cell (p:=⟨W0,0,cD⟩) (by show(W0:Nat)<_;omega)).trans dv);have ei:(W0:Nat)+1<=(f:Nat):=oZ;have cn:=qZ (X.out.2 _ _ _ _ (λ_=>False) b5.out (eA af.out) λ_ _ h=>h.elim);obtain⟨L,ae⟩:=nQ ((gQ c).length);have cq:=qY (L<=1000000) (by rw[<-ae.out];have:=uO c c.aN.length;exact bC this bj);rw[ae.out];have bb:=qZ ap;have cd:=qZ hbn;go_wp2_with fail;refine wp_loop (λa' W=>∃(k:Nat) (ds:List gv) (D:Nat->Prop) (u5 u6 u11 u12 u13 u14 u15 u16 u17 u18 u19 u20 u21 u22 u23 u24 u25 u26 u27:cS),k<=L/\J D (jV c n k) W/\(∀i,D i->D0 i\/(f:Nat)<=i)/\aL D0 f W/\Marks (f:Nat) D ds W/\a'={tmps:=#[.func (.yield l) #[] #[],cE bc,cE bn,cE W0,undef,u5,u6,cN #[v1,v2,aG,aJ],bT bw L c2,cR cP (L:Int),cR cP (k:Int),u11,u12,u13,u14,u15,u16,u17,u18,u19,u20,u21,u22,u23,u24,u25,u26,u27],defers:=ds})
  (λa' _=>L-(intOf (a'.tmps.getD 10 undef)).toNat) ?_ ?_
 .exact⟨0,[],D0,_,_,_,_,_,_,_,_,_,_,_,_,_,_,_,_,_,_,_,oZ,cn.out,λi h=>.inl h,dT _ _,Marks.nil _ _ _,rfl⟩
 .rintro _ W⟨k,ds,D,u5,u6,u11,u12,u13,u14,u15,u16,u17,u18,u19,u20,u21,u22,u23,u24,u25,u26,u27,H,z,cj,ai,cr,rfl⟩;have am:=qZ z;have M:=qZ cj;have ag:=qZ ai;have Y:=qZ cr;by_cases aa:k<L
  .have ax:k<(gQ c).length:=by rw[ae.out];exact aa
   obtain⟨t,a8⟩:=nZ ((gQ c)[k]);have bu:(gQ c)[k]? =cC t:=by rw[aH ax,a8]
   obtain⟨g,ci,c0,da,cw⟩:=b4.out k t bu;have dq:(W0.alloc (ac #[.func (.yield l) #[] #[]] 187)).heap.size=(W0:Nat)+1:=sZ;rw[dq]at c0;have d7:W.cell? (g,k)=cC (cR cP (t:Int)):=(ai.cell (p:=⟨g,k,cD⟩) da (λh=>by have v:D0 g:=h;have:=bi.out g v;omega)).trans cw;have d6:(f:Nat)<=(W:Nat):=ai.size;have de:aL D0 W0 W:=(eA af.out).trans' ai (λi hi h=>h);have bq:=alv c n k ax;have bt:=adU c n k ax;rw[a8]at bq bt;have b7:=qZ bq;have cb:=qZ bt;have dr:(t:Int)<(c.aN.length:Int):=by have:=gP bu;rw[IC]at this;exact(xL this).2
   have bf:=qZ dr;obtain⟨dy,b1,b2,b3,dz⟩:=be.out.bA de (T.out bc (.inr (.inl rfl)));subst ci;have d8:g<(W:Nat):=oZ;have ec:∀i,¬g=(W:Nat)+i:=λi e=>oZ;have ed:¬g=(W:Nat):=λe=>oZ;have ee:¬bc=(W:Nat):=λe=>oZ;clear a8;go_wp2_with fail;refine(aaF v1 v2 aG aJ (t:Int) _).mono ?_;rintro e et⟨rfl,rfl⟩;go_wp2_with fail;obtain⟨eq,er,bh,⟨A,ca,e1,br,dj⟩,_⟩:=bz.out;have ch:v1=bT A c.aN.length ca:=by simp only[ft,eB,dJ,and_true]at bh;rw[bh.1,e1]
   have I:c.aN≠[]:=λe=>by rw[e]at bf;have:=bf.out;simp at this;omega
   obtain⟨cg,ep,an,cv,-⟩:=br I;obtain⟨a,ah⟩:=nQ (W.alloc (ac #[(t:Int)] 3));rw[ah.out];have dp:(a:Nat)=(W:Nat)+1:=by rw[<-ah.out];simp
   have bm:aL (λ_=>False) W a:=by rw[<-ah.out];exact(dT _ W).alloc _
   have cy:a.cell? (W,0)=cC (cR cP (t:Int)):=by rw[<-ah.out];simp[go_sem]
   obtain⟨j,N⟩:=nQ ((a.alloc (ac #[v1,v2,aG,aJ] 26)).alloc (ac #[(t:Int)] 3));have ay:aL (λ_=>False) a j:=by rw[<-N.out];exact((dT _ a).alloc _).alloc _
   have ej:(j:Nat)=(a:Nat)+2:=by rw[<-N.out];simp
   have bk:cH w0 w0 j:=((eA (F:=D0) bb.out).trans' (((eA af.out).trans' ag.out λi _ h=>h).trans' ((bm.trans ay).mono λ_ _ h=>h.elim) λi _ (h:D0 i)=>h) λi _ h=>h).below lZ (λi h=>by
    rcases fI i (w0:Nat)with v|v
    .exact absurd h (T.out i (.inl v))
    .exact v)
   have ct:vL j ((a:Nat)+1) (a:Nat) A c.aN.length ca v2 aG aJ c.aN (t:Int):=by refine⟨by rw[<-N.out];simp[go_sem],by rw[<-N.out];simp[go_sem],oZ,?_,br.below bk⟩;rw[<-ch,<-N.out];exact(gM.new a v1 v2 aG aJ).on (bZ)
   rw[N.out,<-dp];have ek:=bk.size;have el:=bb.out.size;have ad:=qZ (λi (h:D i)=>X.out.1 _ _ _ am.out i h);have O:aL (λ_=>False) W j:=bm.trans ay;have co:J D (jV c n k) j:=X.out.2 _ _ _ _ (λ_=>False) am.out O (λ_ _ h=>h.elim);have ak:=qZ (aC be.out.1 cd.out);have dg:aL D0 W0 j:=((eA af.out).trans' ag.out λi _ h=>h).trans' O (λ_ _ h=>h.elim);refine(gA (n:=0)).1 (zV (VA c dj (t:Int) (by omega:(a:Nat)+1≠(a:Nat)) (λb o e=>by rw[an]at e;cases e;omega)) rfl (λ_ _=>kZ) rfl
    (λW' cu=>ct.bA (eA (F:=λ_=>False) cu) (λh=>h) (λh=>h) λ_ _ _ h=>h)
    (λi hi=>by
     rcases hi with rfl|rfl|⟨o,ab⟩
     .omega
     .omega
     .rw[an]at ab;cases ab;omega) (λi hi=>.inl hi)
    (λD' pre=>J D' (jV c n k++pick n t pre)) (λD' pre W'=>Jx D' (jV c n k++[t]) W'/\jV c n k++[t]<+:cM c n)
    (X.out.sub (λpre=>jV c n k++pick n t pre) oZ λi hi=>.inr (by have:i=(a:Nat)+1:=hi;omega))
    ((ba.out.sub (λpre=>jV c n k++[t]) oZ λi hi=>.inr (by have:i=(a:Nat)+1:=hi;omega)).pure _)
    D (λi hi h=>by
     have:=ad.out i h;rcases hi with rfl|rfl|⟨o,ab⟩
     .omega
     .omega
     .rw[an]at ab;cases ab;rcases M.out _ h with h|h
      .exact T.out cg (.inl cv) h
      .omega)
    (by show J D (jV c n k++pick n t []) j;rw[show pick n t []=[]from rfl,eZ];exact co) ?round ?done ?stop)
   case round=>
    intro en eo D' pre x rest ce eb aj z H y dk;gi_wp2;refine⟨trivial,λs dc av eh=>?_⟩;have cl:¬D (W:Nat):=λh=>by have:=ad.out _ h;omega
    have c5:s.cell? (W,0)=cC (cR cP (t:Int)):=(av.cell (p:=⟨W,0,cD⟩) (by show(W:Nat)<(j:Nat);omega) (by rintro(h|h);exact cl h;have v:(W:Nat)=(a:Nat)+1:=h;omega)).trans ((ay.cell (p:=⟨W,0,cD⟩) (by show(W:Nat)<(a:Nat);omega) λh=>h).trans cy);have df:aL D0 W0 s:=dg.trans' av (λi hi h=>by
     rcases h with h|h
     .rcases M.out i h with h|h
      .exact h
      .omega
     .omega)
    have d0:s.cell? (bn,0)=cC (cR cP n):=(df.cell (p:=⟨bn,0,cD⟩) ak.out.2 (T.out bn (.inr (.inr rfl)))).trans b0.out;have c3:s.cell? (W0,0)=cC (.func (.yield l) #[] #[]):=by
     refine(World.cell?_of_block (w:=f) ?_).trans dw.out;have dl:∀i,i<(f:Nat)->¬i<(W0:Nat)->¬D0 i:=λi _ h v=>h (bi.out i v);show s.heap[(W0:Nat)]? =f.heap[(W0:Nat)]?;have bp:¬D0 (W0:Nat):=dl _ oZ oZ;exact(av.block _ oZ (by
      rintro(h|h)
      .rcases M.out _ h with h|h
       .exact bp h
       .omega
      .omega)).trans ((O.block _ oZ λh=>h).trans (ag.out.block _ oZ bp))
    have a9:=qZ dc;by_cases I:(x:Int)=n
    .have bo:=aaG c (t:Int);rw[aj]at bo;have dn:pick n t pre=[]:=aiv I bo;have dm:Tree.on c n t=eV:=by unfold Tree.on;rw[kS];exact⟨x,by rw[aj];simp,by simpa using I⟩
     obtain⟨bv,bs⟩:=cb.out dm;have dd:J D' (jV c n k) s:=by have:=a9.out;rw[dn,eZ]at this;exact this
     obtain⟨fn,tmps,assign,body,em,cs⟩:=cc.out D' (jV c n k) t bv s bs dd (λi hi h=>by
      have dk:i<(W0:Nat):=by
       rcases hi with h|rfl|rfl
       .omega
       .exact ak.out.1
       .exact ak.out.2
      rcases y i h with h|h
      .rcases M.out i h with h|h
       .exact T.out i hi h
       .omega
      .omega)
     have b8:=qZ cs;have b9:=qZ bs;have az:=qZ (abx (n:=n) (t:=t) (pre:=pre) I);have dx:((x:Int)==n)=eV:=by simpa using I
     gi_wp2;refine⟨λh=>by simp[cX]at h,(afm b8.out).mono ?_⟩;rintro e bg (⟨rfl,a5⟩|⟨rfl,a5⟩)
     .have al:=qY (Step D' s (λQ=>J Q (jV c n k++pick n t (pre++[x]))) bg) (by rw[az.out];exact a5);gi_wp2;exact al.out
     .have al:=qY (Step D' s (λQ W'=>Jx Q (jV c n k++[t]) W'/\jV c n k++[t]<+:cM c n) bg) (by obtain⟨Q,du,u,H⟩:=a5;exact⟨Q,⟨du,by rw[b9.out];exact⟨bv,sZ⟩⟩,u,H⟩);gi_wp2;exact al.out
    .have dx:((x:Int)==n)=cV:=by simpa using I
     have az:=qZ (abw (n:=n) (t:=t) (pre:=pre) I);gi_wp2;refine⟨λ_ _=>trivial,?_⟩;gi_wp2;exact⟨D',by rw[az.out];exact a9.out,λi h=>.inl h,dT _ _⟩
   case done=>
    intro D' W' z H y u;have ao:Marks (f:Nat) D' ({target:=.collected (j:Nat),args:=#[]}::ds) W':=by
     have aw:aL D W W':=(O.mono λ_ _ h=>h.elim).trans' H (λi hi h=>by
      rcases h with h|h
      .exact h
      .omega)
     refine(Y.out.more aw (λi h=>by rcases y i h with h|h;exact .inl h;right;omega)).cons u oZ (λh=>by
      rcases y _ h with h|h
      .have:=ad.out _ h;omega
      .omega) (λd u r' e=>?_)
     obtain⟨r,Z,a0,-⟩:=Y.out.1 d u;rw[e]at Z;cases Z;have:=(bS.1 a0).1;omega
    have db:J D' (jV c n (k+1)) W':=by rw[<-b7.out];exact z
    have ck:∀i,D' i->D0 i\/(f:Nat)<=i:=λi h=>by
     rcases y i h with h|h
     .exact M.out i h
     .right;omega
    have dh:aL D0 f W':=(ag.out.trans' O λ_ _ h=>h.elim).trans' H (λi hi h=>by
     rcases h with h|h
     .rcases M.out i h with h|h
      .exact h
      .omega
     .omega)
    have K:=qZ (aC db (aC ck (aC dh ao)));go_wp2_with fail;have cp:=cq.out;have di:k<1000000:=aM aa cp;have dt:=ahc k di;rw[dt];refine⟨⟨k+1,_,D',_,_,_,_,_,_,_,_,_,_,_,_,_,_,_,_,_,_,_,Nat.succ_le_of_lt aa,K.out.1,K.out.2.1,K.out.2.2.1,K.out.2.2.2,rfl⟩,?_⟩;show L-(k+1)<L-k;exact Nat.sub_lt_sub_left aa (Nat.lt_succ_self k)
   case stop=>
    intro D' pre W' ef z H y u;have ao:Marks (f:Nat) D' ({target:=.collected (j:Nat),args:=#[]}::ds) W':=by
     have aw:aL D W W':=(O.mono λ_ _ h=>h.elim).trans' H (λi hi h=>by
      rcases h with h|h
      .exact h
      .omega)
     refine(Y.out.more aw (λi h=>by rcases y i h with h|h;exact .inl h;right;omega)).cons u oZ (λh=>by
      rcases y _ h with h|h
      .have:=ad.out _ h;omega
      .omega) (λd u r' e=>?_)
     obtain⟨r,Z,a0,-⟩:=Y.out.1 d u;rw[e]at Z;cases Z;have:=(bS.1 a0).1;omega
    obtain⟨z,aj⟩:=z;have K:=qZ (aC z ao);have b6:=qZ aj;go_wp2_with fail;refine BM (λW=>gg rfl _ _ _) _ W' K.out.2 (λce au=>⟨⟨_,rfl⟩,.inr ⟨D',_,b6.out,?_⟩⟩);exact ba.out.2 _ _ _ _ _ K.out.1 au λi _ h=>⟨h.2,.inr oZ⟩
  .have ea:decide (k<L)=cV:=by simpa using aa
   have cz:=OI c n k (by rw[ae.out];omega);go_wp2_with fail;refine BM (λW=>gg rfl _ _ _) ds W Y.out (λW' au=>⟨⟨_,rfl⟩,.inl ⟨D,?_⟩⟩);rw[<-cz];exact X.out.2 _ _ _ _ _ am.out au λi _ h=>⟨h.2,.inr oZ⟩
end bO
namespace L
open Go.RowKit
section
variable {P:hh} {ops:Array gw}
theorem DU{Q:gS->Act->cA->Prop}{l n:Nat}(d:¬gC Q):∀(b:List gw),(∀o∈b,∀c:Call,o.op≠Op.defer c)->∀(a:Act) (w:cA),hg P ops Q b a w->wpListIn (Fence.wide.inRound l) n P ops Q b a w
 |[],_,_,_,h=>h
 |o::b,f,a,w,h=>by
  unfold hg at h;unfold wpListIn;split
  .rename_i hw;simp only[hw,if_true]at h;exact Oper.wpIn_mono (λa w k=>DU d b (λo e=>f o (by simp[e])) a w k) (aeh (f o sZ) (h.resolve_right λg=>d g.2))
  .rename_i hw;simp only[hw]at h;exact⟨λ_ _=>trivial,DU d b (λo e=>f o (by simp[e])) _ _ h⟩
theorem BI{id d m:Nat}{Q:gS->Act->cA->Prop}{a:Act}{w:cA}{l:List gw}(b:¬gC Q)(e:PI l=eV)(h:hg P l.toArray Q l a w):(Code.region id l.toArray cV).wpIn (Fence.wide.inRound d) m P Q a w:=
 wpIn_region_lit (DU b l (λo c=>by obtain⟨i,hi⟩:=List.getElem?_of_mem c;exact KR e (by simpa using hi)) a w h)
end
end L
namespace bO
open Go.RowKit L
attribute [local go_sem] cW
def amU(b0 B:Nat)(D:Nat->Prop)(pre:List Nat)(W:cA):Prop:=∃v,W.cell? (b0,0)=cC v/\W.frozen? (b0,0)=cV/\b0<(W:Nat)/\mI W B v pre/\v.ownBlock≠cC b0/\∀k,D k↔(k=b0\/v.ownBlock=cC k)
theorem agO(a B B':Nat)(own:Nat->Prop):sS B' own (amU a B):=
 ⟨λD pre W ⟨v,h1,h2,h3,h4,h5,b⟩ k c=>by
  rcases(b k).1 c with rfl|h
  .exact h3
  .exact(h4.lt k h).2,λD pre W W' F ⟨v,h1,h2,h3,h4,h5,b⟩ kp hF=>by
  have d:=λh:F a=>(hF a h3 h).1 ((b a).2 (.inl rfl));refine⟨v,(kp.cell (p:=⟨a,0,cD⟩) h3 d).trans h1,(kp.frozen (p:=⟨a,0,cD⟩) h3 d).trans h2,aM h3 kp.size,h4.bA λk c=>kp.block k (h4.lt k c).2 λh=>?_,h5,b⟩;exact(hF k (h4.lt k c).2 h).1 ((b k).2 (.inr c))⟩
def UH(own:Nat->Prop)(l:List Nat)(w:cA)(e:gf)(w':cA):Prop:=∃v,e=cL v/\mI w' (w:Nat) v l/\aL own w w'
theorem aaj{f:gm}{caps:Array cS}{xs:List Nat}{R own:Nat->Prop}{St:cA->Prop}(Y:LW f caps xs R own St)(N:∀args w,(gi f args).run cG w=.ok (.enter f args) w){w:cA}(ae:∀W,cH w w W->St W)(Q:∀k,R k->k<(w:Nat))(ab:∀k,own k->R k)(aa:xs.length<=1000000):eQ cG 237 #[eV,.func (.func f) #[] caps] w λe w'=>UH own xs w e w':=by
 have ak:=qZ Y;have ag:=qZ N;have aj:=qZ ae;have M:=qZ Q;have ai:=qZ ab;have ah:=qZ aa;clear Y N ae Q ab aa;refine(gx (n:=0)).1 (fq func237 rfl trivial (wpIn_wide.2 ?_));simp only[ntmps237,fO,eJ,fr,fv,fw,kL,eE,eO,eY,eM,eW];have T:cH w w (w.alloc (ac #[eV] 36)):=bZ;have an:(w.alloc (ac #[eV] 36)).cell? (w,0)=cC (bT cD 0 0):=by simp[go_sem]
 have ap:(w.alloc (ac #[eV] 36)).frozen? (w,0)=cV:=by simp[go_sem]
 have hs:(w.alloc (ac #[eV] 36)).heap.size=(w:Nat)+1:=sZ;go_wp2_with fail;generalize w.alloc (ac #[eV] 36)=W0 at*;refine(gA (n:=0)).1 (zV ak.out rfl ag.out rfl (λW h=>aj.out W (aA T h)) (λk h=>by have:=M.out k h;omega) ai.out (amU (w:Nat) (w:Nat)) (λ_ _ _=>False) (agO _ _ _ _) ⟨λ_ _ _ h=>h.elim,λ_ _ _ _ _ h=>h.elim⟩
  (λk=>k=(w:Nat)) (λk h e=>by have:=M.out k h;omega) ⟨_,an,ap,oZ,fE.nil _ _ _,by simp[ha],λk=>by simp[ha]⟩ ?round ?done (λ_ _ _ _ h=>h.elim))
 case round=>
  intro l m D pre x rest W au ad I a s av;gi_wp2;refine⟨trivial,λd aq ar ax=>?_⟩;obtain⟨v,O,H,g,c,r,b⟩:=aq;have ay:pre.length<=1000000:=by have:=ah.out;rw[ad,aW]at this;omega
  obtain⟨v',w',aw,u,X,J⟩:=AL c (Nat.le_of_lt g) x oZ;have o:aL (λk=>v.ownBlock=cC k) d w':=((dT _ d).alloc _).trans (hp X λi e=>e);have al:w'.cell? (w,0)=cC v:=(o.cell (p:=⟨w,0,cD⟩) g r).trans O;have am:w'.frozen? (w,0)=cV:=(o.frozen (p:=⟨w,0,cD⟩) g r).trans H;have K:v'.ownBlock≠cC (w:Nat):=λe=>by
   rcases J _ e with h|h
   .exact r h
   .omega
  have y:aL (λk=>k=(w:Nat)) w' (w'.setCell (w,0) v'):=(dT (λk=>k=(w:Nat)) w').setCell (p:=⟨w,0,cD⟩) (.inl rfl) _;have z:=qY (Step D d (λD'=>amU (w:Nat) (w:Nat) D' (pre++[x])) (w'.setCell (w,0) v')) (⟨λk=>k=(w:Nat)\/v'.ownBlock=cC k,⟨v',fL _ _ _ (by rw[al];rfl),by rw[gj];exact am,aM (aM g o.size) y.size,u.bA λk a=>y.block k (u.lt k a).2 λe=>K (by rw[a,e]),K,λk=>Iff.rfl⟩,λk a=>by
     rcases a with rfl|a
     .exact .inl ((b _).2 (.inl rfl))
     .rcases J k a with h|h
      .exact .inl ((b k).2 (.inr h))
      .exact .inr h,(o.mono λi _ e=>(b i).2 (.inr e)).trans (y.mono λi _ e=>(b i).2 (.inl e))⟩)
  obtain⟨af,c5,A,-⟩:=fE.form u;subst A;have az:∀j,¬(w:Nat)=(d:Nat)+j:=λj e=>oZ;have a0:¬(w:Nat)=(d:Nat):=λe=>oZ;clear ar c b u X J o K y a s I ad ax au av;refine wpIn_block (BI (λ⟨_,_,h⟩=>by cases h) rfl ?_);go_wp2_with(at_builtin;refine cK rfl (.tmp 8) (.tmp 10) _ _ rfl v (bT d 1 1) rfl rfl aw ?_);exact z.out
 case done=>
  intro D W I a s ao;obtain⟨v,O,H,g,c,r,b⟩:=I;have L:=lI W (W0:Nat) (.deferred cD);have z:=qY (UH own xs w (cL v) (W.putObj (W0:Nat) (.deferred cD))) (⟨v,rfl,c.bA (λk Z=>L.block k (c.lt k Z).2 (λe=>by
    rcases s k ((b k).2 (.inr Z))with h|h
    .omega
    .omega)),((eA (F:=own) T).trans' (a.trans' L λi hi h=>oZ) (λi hi h=>by
     rcases h with h|h
     .omega
     .exact h))⟩)
  obtain⟨af,c5,A,-⟩:=fE.form c;subst A;clear a s c b L H;go_wp2_with fail;refine⟨sZ,.inl ⟨_,_,rfl,fx ao,?_⟩⟩;exact⟨_,by simp[results,Tryz.results237,go_sem],z.out⟩
theorem OG{f:gm}{caps:Array cS}{xs:List Nat}{R own:Nat->Prop}{St:cA->Prop}(j:LW f caps xs R own St)(d:∀args w,(gi f args).run cG w=.ok (.enter f args) w){w:cA}(o:∀W,cH w w W->St W)(i:∀k,R k->k<(w:Nat))(n:∀k,own k->R k)(m:xs.length<=1000000):eQ cG 198 #[.func (.func f) #[] caps] w λe w'=>UH own xs w e w':=by have g:=qZ (aaj j d o i n m);go_enter func198,ntmps198;go_wp2_with fail;refine g.out.mono ?_;rintro e w'⟨v,rfl,a,l⟩;have b:=qY (UH own xs w (cL v) w') (⟨v,rfl,a,l⟩);obtain⟨p,c5,c,-⟩:=fE.form a;subst c;go_wp2_with fail;go_ret;exact b.out
theorem ZN{w:cA}{v:cS}{c:dC}(b:bW w v c)(A:c.aN.length<=1000000)(n:Int):∀w1,cH w w w1->eQ cG 221 #[v,n] w1 λe w'=>qU (cM c n) w1 e w':=by
 intro w1 H;replace b:=b.below H;obtain⟨v1,v2,rfl,-⟩:=id b;obtain⟨aG,r⟩:=nZ c.aG;obtain⟨aJ,o⟩:=nZ c.aJ;rw[r,o]at b⊢;have s:=qZ b;have M:(cM c n).length<=1000000:=by have T:=eG (λt=>Tree.on c n t) (gQ c);have z:=uO c c.aN.length;have X:(gQ c).length<=c.aN.length:=z;unfold cM;omega
 have x:=qZ M;clear r o;have F:cH w1 w1 (w1.alloc (ac #[v1,v2,aG,aJ] 26)):=bZ;have J:=(gM.new w1 v1 v2 aG aJ);obtain⟨z0,z1,z2,Z,z4⟩:=J;have hs:(w1.alloc (ac #[v1,v2,aG,aJ] 26)).heap.size=(w1:Nat)+1:=sZ;go_enter func221,ntmps221;have j:=qZ F;go_wp2_with fail;generalize w1.alloc (ac #[v1,v2,aG,aJ] 26)=a at*;refine(NA v1 v2 aG aJ n a).mono ?_;rintro e f⟨rfl,rfl⟩;have I:cH a a ((a.alloc (ac #[v1,v2,aG,aJ] 26)).alloc (ac #[n] 3)):=kp;have N:gM ((a.alloc (ac #[v1,v2,aG,aJ] 26)).alloc (ac #[n] 3)) (a:Nat) v1 v2 aG aJ:=(gM.new a v1 v2 aG aJ).on (bZ);have K:((a.alloc (ac #[v1,v2,aG,aJ] 26)).alloc (ac #[n] 3)).cell? ((a:Nat)+1,0)=cC (cR cP n):=by simp[go_sem]
 have Y:((a.alloc (ac #[v1,v2,aG,aJ] 26)).alloc (ac #[n] 3)).heap.size=(a:Nat)+2:=sZ;generalize(a.alloc (ac #[v1,v2,aG,aJ] 26)).alloc (ac #[n] 3)=f at*;have l:=qZ I;have g:=qZ (OG (w:=f) (KE s.out A n (a:Nat) ((a:Nat)+1)) (λ_ _=>kZ) (λW d=>⟨aA (aA j.out l.out) d,N.on d,(d.cell (p:=⟨(a:Nat)+1,0,cD⟩) (by show(a:Nat)+1<(f:Nat);omega)).trans K,by have:=d.size;omega⟩)
  (λk h=>oZ) (λk h=>h.elim) x.out)
 go_wp2_with fail;rw[<-hs];refine g.out.mono ?_;rintro e O⟨v,rfl,m,L⟩;have u:=qY (qU (cM c n) w1 (cL v) O) (⟨v,rfl,fE.low m oZ,aA (aA j.out l.out) (L.below lZ λi h=>h.elim)⟩);obtain⟨Q,c5,y,-⟩:=fE.form m;subst y;go_wp2_with fail;go_ret;exact u.out
end bO
variable{xs:List cI}{va:cS}
namespace bO
open Go.RowKit L
attribute [local go_sem] cW
def apc(v:cI):Array cS:=#[cR cP v.x,cR cP v.y,cR cP v.z]
def gG(W:cA)(b:Nat)(v:cI):Prop:=Blk W b 40 (apc v)
theorem gG.cells{b:Nat}{v:cI}(h:gG W b v):VAt W b 0 v/\(∀i,W.frozen? ⟨b,i,cD⟩=cV)/\b<(W:Nat):=⟨⟨hf h 0,hf h 1,hf h 2⟩,λi=>Blk.frozen h i,eR h⟩
theorem gG.new(W:cA)(v:cI):gG (W.alloc (ac (apc v) 40)) (W:Nat) v:=Blk.new W _ _
theorem gG.store{b:Nat}{v:cI}(h:gG W b v)(u:cI):gG (((W.setCell (b,0) u.x).setCell (b,1) u.y).setCell (b,2) u.z) b u:=((Blk.bR h 0 _).bR 1 _).bR 2 _
theorem lG(W:cA)(b:Nat)(x y z:cS):aL (λk=>k=b) W (((W.setCell (b,0) x).setCell (b,1) y).setCell (b,2) z):=
 (((dT (λk=>k=b) W).setCell (p:=⟨b,0,cD⟩) (.inl rfl) _).setCell (p:=⟨b,1,cD⟩) (.inl rfl) _).setCell (p:=⟨b,2,cD⟩) (.inl rfl) _
def amR(b:Nat)(g:List Nat->cI)(D:Nat->Prop)(pre:List Nat)(W:cA):Prop:=gG W b (g pre)/\∀k,D k↔k=b
theorem aeY(b:Nat)(g:List Nat->cI)(B:Nat)(own:Nat->Prop):sS B own (amR b g):=
 ⟨λD pre W ⟨a,h2⟩ k hk=>by have:k=b:=(h2 k).1 hk;subst this;exact eR a,λD pre W W' F ⟨a,h2⟩ kp hF=>⟨Blk.bA a kp λh=>(hF b (eR a) h).1 ((h2 b).2 rfl),h2⟩⟩
theorem abr(s:bW w v c)(b9:c.aN.length<=1000000)(Y:VSl w va xs)(n:Int):fV cG w 180 #[v,n,va] (gR c n xs).val:=by
 intro w1 al;replace s:=s.below al;replace Y:=Y.below al;clear al;obtain⟨v1,v2,rfl,-⟩:=id s;obtain⟨aG,bk⟩:=nZ c.aG;obtain⟨aJ,bi⟩:=nZ c.aJ;rw[bk,bi]at s⊢;have bw:=qZ s;have ay:=qZ Y;obtain⟨A,ca,rfl,-⟩:=Y;clear s bk bi;obtain⟨G,aj⟩:∃G:List Nat->cI,G=λl=>l.foldl (λv (t:Nat)=>dE v (gp xs (t:Int))) cF:=⟨_,rfl⟩;have a0:=qZ aj;have bh:gR c n xs=G (cM c n):=by rw[aj];rfl
 rw[bh];clear aj bh;obtain⟨N,bg⟩:=nZ xs.length;rw[bg]at ay⊢;clear bg;refine(gx (n:=0)).1 (fq func180 rfl trivial (wpIn_wide.2 ?_));simp only[ntmps180,fO,eJ,fr,fv,fw,kL,eE,eO,eY,eM,eW];have bj:cH w1 w1 ((((w1.alloc (ac #[v1,v2,aG,aJ] 26)).alloc (ac #[bT A N ca] 51)).alloc (ac #[(),(),()] 40)).alloc (ac #[(),(),()] 40)):=kp;have bm:((((w1.alloc (ac #[v1,v2,aG,aJ] 26)).alloc (ac #[bT A N ca] 51)).alloc (ac #[(),(),()] 40)).alloc (ac #[(),(),()] 40)).cell? ((w1:Nat)+1,0)=cC (bT A N ca):=by simp[go_sem]
 have u:gG ((((w1.alloc (ac #[v1,v2,aG,aJ] 26)).alloc (ac #[bT A N ca] 51)).alloc (ac #[(),(),()] 40)).alloc (ac #[(),(),()] 40)) ((w1:Nat)+1+1) cF:=by have h:=gG.new ((w1.alloc (ac #[v1,v2,aG,aJ] 26)).alloc (ac #[bT A N ca] 51)) cF;simp only[aT]at h;exact hn h _
 have hv:gG ((((w1.alloc (ac #[v1,v2,aG,aJ] 26)).alloc (ac #[bT A N ca] 51)).alloc (ac #[(),(),()] 40)).alloc (ac #[(),(),()] 40)) ((w1:Nat)+1+1+1) cF:=by have h:=gG.new (((w1.alloc (ac #[v1,v2,aG,aJ] 26)).alloc (ac #[bT A N ca] 51)).alloc (ac #[(),(),()] 40)) cF;simp only[aT]at h;exact h
 have H:((((w1.alloc (ac #[v1,v2,aG,aJ] 26)).alloc (ac #[bT A N ca] 51)).alloc (ac #[(),(),()] 40)).alloc (ac #[(),(),()] 40)).heap.size=(w1:Nat)+4:=sZ;have af:=qZ bj;have b1:=qZ bm;have a5:=qZ u;have a9:=qZ hv;have b0:=qZ H;clear bj bm u hv H;go_wp2_with fail;generalize(((w1.alloc (ac #[v1,v2,aG,aJ] 26)).alloc (ac #[bT A N ca] 51)).alloc (ac #[(),(),()] 40)).alloc (ac #[(),(),()] 40)=a at*;refine(NA v1 v2 aG aJ n a).mono ?_;rintro e f⟨rfl,rfl⟩;go_wp2_with fail;have I:cH a a ((a.alloc (ac #[v1,v2,aG,aJ] 26)).alloc (ac #[n] 3)):=kp;have ax:gM ((a.alloc (ac #[v1,v2,aG,aJ] 26)).alloc (ac #[n] 3)) (a:Nat) v1 v2 aG aJ:=(gM.new a v1 v2 aG aJ).on (bZ);have am:((a.alloc (ac #[v1,v2,aG,aJ] 26)).alloc (ac #[n] 3)).cell? ((a:Nat)+1,0)=cC (cR cP n):=by simp[go_sem]
 have au:((a.alloc (ac #[v1,v2,aG,aJ] 26)).alloc (ac #[n] 3)).heap.size=(a:Nat)+2:=sZ;generalize(a.alloc (ac #[v1,v2,aG,aJ] 26)).alloc (ac #[n] 3)=f at*;have H:=b0.out;have an:=KE bw.out b9 n (a:Nat) ((a:Nat)+1);have aw:gG f ((w1:Nat)+1+1+1) cF:=eC a9.out I (eR a9.out);have O:=qZ I;refine(gA (n:=0)).1 (zV an rfl (λ_ _=>kZ) rfl (λW T=>⟨aA (aA af.out I) T,ax.on T,(T.cell (p:=⟨(a:Nat)+1,0,cD⟩) (by show(a:Nat)+1<(f:Nat);omega)).trans am,by have:=T.size;omega⟩)
  (λk h=>oZ) (λk h=>h.elim) (amR ((w1:Nat)+1+1+1) G) (λ_ _ _=>False) (aeY _ _ _ _) ⟨λ_ _ _ h=>h.elim,λ_ _ _ _ _ h=>h.elim⟩ (λk=>k=(w1:Nat)+1+1+1) (λk h e=>oZ)
  ⟨by rw[a0.out];exact aw,λk=>Iff.rfl⟩ ?round ?done (λ_ _ _ _ h=>h.elim))
 case round=>
  intro l m D pre x rest W ce ci ao K ai ch;gi_wp2;refine⟨trivial,λd cd ap cj=>?_⟩;obtain⟨o,Q⟩:=cd;have bl:aL (λk=>k=(w1:Nat)+1+1+1) w1 d:=((eA (aA af.out O.out)).trans' ap (λi hi h=>by rcases h with h|h;exact h;exact h.elim));have j:cH w1 w1 d:=bl.below lZ (λi h=>oZ);have bb:=qZ ((BS (ay.out.below j) (x:Int)).up (zZ _));have bd:=qZ (gT.zN (G pre) (gp xs (x:Int)));have bn:d.cell? ((w1:Nat)+1,0)=cC (bT A N ca):=(ap.cell (p:=⟨(w1:Nat)+1,0,cD⟩) (by show(w1:Nat)+1<(f:Nat);omega) (by rintro(h|h);have b8:(w1:Nat)+1=(w1:Nat)+1+1+1:=h;omega;exact h)).trans ((O.out.cell (p:=⟨(w1:Nat)+1,0,cD⟩) (by show(w1:Nat)+1<(a:Nat);omega)).trans b1.out);have bo:G (pre++[x])=dE (G pre) (gp xs (x:Int)):=by rw[a0.out];simp only[fB];rfl
  have a8:=qZ bo;obtain⟨bq,ar⟩:=nZ (G (pre++[x]));have b2:=qZ ar;rw[ar]at a8;have ba:=qZ o;have az:=qZ Q;clear ar bo;generalize G pre=y at*;generalize gp xs (x:Int)=z at*;have be:eP cG 40 #[y.val,z.val] bq.val:=bd.out.val (by rw[a8.out]);obtain⟨g,r1,r2⟩:=bq;obtain⟨bt,bu,bv⟩:=y;obtain⟨z0,z1,z2⟩:=z;have bc:∀W,aD d W->eQ cG 44 #[bT A N ca,(x:Int)] W λe W'=>e=cL (cN #[z0,z1,z2])/\aD d W':=bb.out;have bf:eP cG 40 #[cN #[bt,bu,bv],cN #[z0,z1,z2]] (cN #[g,r1,r2]):=be;obtain⟨⟨aa,ab,ad⟩,ae,M⟩:=ba.out.cells;have cg:(w1:Nat)+1<(d:Nat):=oZ;have b4:=λW' (k:aD d W')=>k.cell (b:=(w1:Nat)+1) cg bn;have b5:=λW' (k:aD d W')=>k.cell M aa;have b6:=λW' (k:aD d W')=>k.cell M ab;have b7:=λW' (k:aD d W')=>k.cell M ad;clear bb bd be bn aa ab ad ae o Q bl j K ao ce ch cj ap ci an I ax am au aw H ai;gi_wp2;refine wG 5 (λ⟨_,_,h⟩=>by cases h) kZ kZ kZ ?_;simp only[cY,eI,aZ,bB];(repeat refine kY ?_);refine kJ bc ?_;refine kJ bf ?_;refine dP ?_;intro ah ak;have av:gG ah ((w1:Nat)+1+1+1) ⟨bt,bu,bv⟩:=eC ba.out ak M;obtain⟨⟨aa,ab,ad⟩,ae,cm⟩:=av.cells;have ag:=qY (Step D d (λD'=>amR ((w1:Nat)+1+1+1) G D' (pre++[x])) (((ah.setCell ((w1:Nat)+1+1+1,0) g).setCell ((w1:Nat)+1+1+1,1) r1).setCell ((w1:Nat)+1+1+1,2) r2)) (⟨D,⟨by rw[b2.out];exact gG.store av ⟨g,r1,r2⟩,az.out⟩,λk h=>.inl h,(eA ak).trans ((lG ah _ _ _ _).mono λi _ e=>(az.out i).2 e)⟩);clear b4 b5 b6 b7 bc bf ak av;go_wp2_with fail;exact ag.out
 case done=>
  intro D W ao K ai J;obtain⟨o,Q⟩:=ao;have aq:gG W ((w1:Nat)+1+1) cF:=Blk.bA (eC a5.out O.out (eR a5.out)) K (by rintro(h|h);have b8:(w1:Nat)+1+1=(w1:Nat)+1+1+1:=h;omega;exact h);obtain⟨r,u⟩:=nZ (G (cM c n));rw[u]at o;have bz:=qZ u;obtain⟨g,r1,r2⟩:=r;clear u;obtain⟨⟨aa,ab,ad⟩,ae,M⟩:=o.cells;obtain⟨⟨cl,p1,p2⟩,p3,p4⟩:=aq.cells;have j:cH w1 w1 W:=((eA (F:=λk=>k=(w1:Nat)+1+1+1) (aA af.out O.out)).trans' K (λi hi h=>by rcases h with h|h;exact h;exact h.elim)).below lZ (λi h=>oZ);have X:(f:Nat)<(W:Nat):=(bS.1 J).1;have Z:=gG.store aq ⟨g,r1,r2⟩;have L:=lG W ((w1:Nat)+1+1) g r1 r2;have ag:=qZ (aC Z (aC L (aC j J)));have b3:=qZ (aC H (aC au X));clear o Q K ai aq j J Z L an I ax am au aw H X ae;go_wp2_with fail;rw[bz.out];generalize((W.setCell ((w1:Nat)+1+1,0) g).setCell ((w1:Nat)+1+1,1) r1).setCell ((w1:Nat)+1+1,2) r2=Ws at*;obtain⟨Z,L,j,J⟩:=ag.out;obtain⟨e4,ck,X⟩:=b3.out;have cb:Ws.heap[(f:Nat)]? =cC (.deferred (cC [])):=(L.block _ X (by show¬(f:Nat)=(w1:Nat)+1+1;omega)).trans J;have bp:=lI Ws (f:Nat) (.deferred cD);have cc:gG (Ws.putObj (f:Nat) (.deferred cD)) ((w1:Nat)+1+1) ⟨g,r1,r2⟩:=Blk.bA Z bp (by show¬(w1:Nat)+1+1=(f:Nat);omega);obtain⟨⟨x0,br,bs⟩,-,-⟩:=cc.cells;refine⟨sZ,.inl ⟨_,_,rfl,fx cb,?_⟩⟩;refine⟨cN #[g,r1,r2],?_,rfl,?_⟩
  .simp only[aO]at br bs;simp[results,Tryz.results180,go_sem,x0,br,bs]
  .exact j.trans (((L.mono λi _ (e:i=(w1:Nat)+1+1)=>(show(w1:Nat)<=i by omega)).trans' (G:=λi=>(w1:Nat)<=i) (bp.mono λi _ (e:i=(f:Nat))=>(show(w1:Nat)<=i by omega)) λi _ h=>h).below j.size λi h=>h)
def vU(l:List cI)(k:Nat):List cI:=l.take k++fz (l.length-k) cF
theorem agh(l:List cI):vU l 0=fz l.length cF:=by simp[vU]
theorem acj(l:List cI)(k:Nat)(h:k<=l.length):(vU l k).length=l.length:=by simp[vU];omega
theorem ajs(l:List cI):vU l l.length=l:=by simp[vU]
theorem ajr(l:List cI)(k:Nat)(h:k<l.length):(vU l k).set k l[k]=vU l (k+1):=by
 unfold vU;apply fP;intro j;rw[List.getElem?_set,aW,bN,gY];by_cases a:k=j
 .subst a;rw[aI rfl,aI oZ,cO (by rw[bN];omega),dU,aI oZ,aH h]
 .rw[aF a];by_cases b:j<k
  .rw[cO (by rw[bN];omega),cO (by rw[bN];omega),dU,dU,aI b,aI oZ]
  .rw[dK (by rw[bN];omega),dK (by rw[bN];omega),bN,bN,List.getElem?_replicate,List.getElem?_replicate];by_cases c:j<l.length
   .rw[aI oZ,aI oZ]
   .rw[aF oZ,aF oZ]
theorem adz(o:bW w v c)(W:c.aN.length<=1000000)(n:Int):fV cG w 182 #[v,n] (fC c n).val:=by
 intro w1 ay;replace o:=o.below ay;obtain⟨v1,v2,rfl,⟨A,ca,rfl,bf,ce⟩,⟨B,a,rfl,cj,cg⟩⟩:=id o;have O:=qZ o;obtain⟨N,u⟩:=nQ c.aN.length;generalize c.aR.length=M at*;generalize c.aG=aG at*;generalize c.aJ=aJ at*;have ap:=qZ bf;have ao:=qZ W;rw[u.out]at O W⊢;have a9:(jE c).length=N:=by unfold jE;rw[bP,u.out]
 have f:=qZ a9;have bk:cH w1 w1 ((w1.alloc (ac #[bT A N ca,bT B M a,aG,aJ] 26)).alloc (ac #[(),(),()] 40)):=kp;have aa:gM ((w1.alloc (ac #[bT A N ca,bT B M a,aG,aJ] 26)).alloc (ac #[(),(),()] 40)) (w1:Nat) (bT A N ca) (bT B M a) aG aJ:=(gM.new w1 _ _ aG aJ).on (bZ);have af:gG ((w1.alloc (ac #[bT A N ca,bT B M a,aG,aJ] 26)).alloc (ac #[(),(),()] 40)) ((w1:Nat)+1) cF:=by have h:=gG.new (w1.alloc (ac #[bT A N ca,bT B M a,aG,aJ] 26)) cF;simp only[aT]at h;exact h
 have bg:((w1.alloc (ac #[bT A N ca,bT B M a,aG,aJ] 26)).alloc (ac #[(),(),()] 40)).heap.size=(w1:Nat)+1+1:=sZ;go_enter func182,ntmps182;obtain⟨cl,ba,ad,s,bb⟩:=CY ((w1.alloc (ac #[bT A N ca,bT B M a,aG,aJ] 26)).alloc (ac #[(),(),()] 40)) N oZ;rw[bg]at ad bb ba;have bl:=aa.on s;have bj:=eC af s (eR af);obtain⟨co,cp,cq,cr,cs⟩:=bl;have aq:=qZ bj;have ar:=qZ (aA bk s);have an:=qZ ad;have au:=qZ (aa.on s);go_wp2_with fail;go_loopw [15] (λi wr=>∃k:Nat,i=cR cP (k:Int)/\k<=N/\iV wr ((w1:Nat)+1+1) (bT (cC ⟨(w1:Nat)+1+1,0,cD⟩) N N) (vU (jE c) k)/\cH w1 w1 wr/\gG wr ((w1:Nat)+1) cF/\gM wr (w1:Nat) (bT A N ca) (bT B M a) aG aJ) (λi _=>N-(intOf i).toNat);exact⟨0,rfl,oZ,by rw[agh,f.out];exact an,ar,aq,au⟩
 obtain⟨k,rfl,a5,b,j,hv,ai⟩:=hrel
 rename cA=>wr
 by_cases p:k<N
 .have a8:k<c.aN.length:=by rw[u.out];exact p
  obtain⟨y,ck,rfl,az,a0⟩:=nE ap a8;have bc:=a0 wr j;have bd:(jE c)[k]'(by rw[f.out];exact p)=c.aN[k].fC:=by unfold jE;rw[List.getElem_map]
  generalize c.aN[k]=x at*;obtain⟨bp,bq,bs,bt,bu,bv,bw,bz,b0,b3,br⟩:=bc;have b9:y<(wr:Nat):=aM az j.size;have b8:(w1:Nat)+1+1<(wr:Nat):=(b.lt _ rfl).2;have ch:∀i,¬y=(wr:Nat)+i:=λi e=>oZ;have ci:¬y=(wr:Nat):=λe=>oZ;have cb:¬(w1:Nat)+1+1=(wr:Nat):=λe=>oZ;have ae:=ajr (jE c) k (by rw[f.out];exact p);rw[bd]at ae;obtain⟨par,b4,⟨n0,n1,n2⟩,⟨av,b1,b2⟩,⟨bm,bn,bo⟩⟩:=x;simp only at bp bq bs bt bu bv bw bz b0 b3 br;have ab:k<(vU (jE c) k).length:=by rw[acj _ _ (by rw[f.out];exact a5),f.out];exact p
  obtain⟨-,-,cc,ah⟩:=b.dR (i:=k) ab;obtain⟨z,ak⟩:=nZ ((vU (jE c) k)[k]'ab);rw[ak]at ah;obtain⟨z0,z1,z2⟩:=z;obtain⟨al,p1,p2⟩:=ah;simp only at al p1 p2;clear ak;have b5:=b.ok (k*3);have b6:=b.ok (k*3+1);have b7:=b.ok (k*3+2);have X:=b.set k ⟨n0,n1,n2⟩;rw[ae]at X;have F:=zI wr ((w1:Nat)+1+1) (k*3) ⟨n0,n1,n2⟩;have Y:=zW (w0:=w1) j (g:=(w1:Nat)+1+1) oZ (k*3) ⟨n0,n1,n2⟩;have H:=Blk.bA hv F oZ;have aj:=ai.bA F oZ;unfold uR at F Y H aj;have m:=(aK _ (((wr.setCell ((w1:Nat)+1+1,k*3) n0).setCell ((w1:Nat)+1+1,k*3+1) n1).setCell ((w1:Nat)+1+1,k*3+2) n2)).alloc lZ (ac #[par,b4,n0,n1,n2,av,b1,b2,bm,bn,bo] 66);have d:=qZ (aC (iV.below X m) (aC (aA Y m) (aC (eC H m (eR H)) (aj.on m))));go_wp2_with fail;go_roundw;exact⟨k+1,mZ,oZ,d.1,d.2.1,d.2.2.1,d.2.2.2⟩;simp[intOf];omega
 .have e:k=N:=oZ;have ax:vU (jE c) k=jE c:=by rw[e,<-f.out];exact ajs _
  rw[ax]at b;have g:=qZ (abr (O.below j) ao b.sl n);have cd:decide (k<N)=cV:=by simp;omega
  have be:gR c n (jE c)=fC c n:=rfl;rw[be]at g;obtain⟨r,Q⟩:=nQ (fC c n);rw[Q.out]at g;obtain⟨l,r1,r2⟩:=r;have T:=qZ hv;have am:=qZ j;obtain⟨x0,J,K,cm,cn⟩:=ai;go_wp2_with fail;have aw:fV cG wr 180 #[cN #[bT A N ca,bT B M a,aG,aJ],n,bT (cC ⟨(w1:Nat)+1+1,0,cD⟩) N N] (cN #[l,r1,r2]):=g.out;refine(aw _ (aK _ _)).mono ?_;rintro e I⟨rfl,Z⟩;have ag:gG I ((w1:Nat)+1) cF:=eC T Z (eR T);have L:=qZ (aA am Z);obtain⟨⟨al,p1,p2⟩,p3,p4⟩:=ag.cells;have d:=qZ (aC (gG.store ag ⟨l,r1,r2⟩) (lG I ((w1:Nat)+1) l r1 r2));go_wp2_with fail;rw[Q.out];generalize((I.setCell ((w1:Nat)+1,0) l).setCell ((w1:Nat)+1,1) r1).setCell ((w1:Nat)+1,2) r2=Ws at*;obtain⟨bi,bh⟩:=d.out;obtain⟨⟨x0,J,K⟩,-,-⟩:=bi.cells;simp only[aO]at J K;refine eK (v:=cN #[l,r1,r2]) (by simp[results,Tryz.results182,go_sem,x0,J,K]) rfl ⟨rfl,?_⟩;exact L.out.trans (bh.below L.size λi (e:i=(w1:Nat)+1)=>oZ)
def rD(c:dC)(used:List cI)(n t:Int)(k:Nat):cI:=(((cM c n).take k).filter λ(s:Nat)=>(s:Int) !=t).foldl (λv s=>dE v (Quo.own c used s)) cF
theorem NV(c:dC)(used:List cI)(n t:Int):rD c used n t 0=cF:=rfl
theorem SH(c:dC)(used:List cI)(n t:Int)(k:Nat)(h:(cM c n).length<=k):rD c used n t k=Quo.bA c used n t:=by unfold rD Quo.bA;rw[aU h]
theorem NW(c:dC)(used:List cI)(n t:Int)(k s:Nat)(h:(cM c n)[k]? =cC s)(a:(s:Int)=t):rD c used n t (k+1)=rD c used n t k:=by
 unfold rD;obtain⟨b,e⟩:=bF.1 h;rw[bE b,e,fU];have:((s:Int) !=t)=cV:=by simpa using a
 simp[this]
theorem NY(c:dC)(used:List cI)(n t:Int)(k s:Nat)(h:(cM c n)[k]? =cC s)(a:(s:Int)≠t):rD c used n t (k+1)=dE (rD c used n t k) (Quo.own c used s):=by
 unfold rD;obtain⟨b,e⟩:=bF.1 h;rw[bE b,e,fU];have:((s:Int) !=t)=eV:=by simpa using a
 simp[this]
theorem alZ(Z:bW w v c)(bh:c.aN.length<=1000000)(Y:VSl w va xs)(n t:Int):fV cG w 181 #[v,va,n,t] (Quo.bA c xs n t).val:=by
 intro w1 bj;replace Z:=Z.below bj;replace Y:=Y.below bj;have bg:=qZ (ZN Z bh n);have ay:=qZ Y;obtain⟨v1,v2,rfl,⟨A,ca,rfl,I,em⟩,⟨B,m,rfl,eu,en⟩⟩:=id Z;obtain⟨bw,c5,rfl,-,-⟩:=Y;obtain⟨U,cj⟩:=nQ xs.length;obtain⟨N,ad⟩:=nQ c.aN.length;generalize c.aR.length=M at*;generalize c.aG=aG at*;generalize c.aJ=aJ at*;have b9:=qZ I;rw[cj.out]at ay⊢;rw[ad.out]at bg bh⊢;clear I;have dl:cH w1 w1 (((w1.alloc (ac #[bT A N ca,bT B M m,aG,aJ] 26)).alloc (ac #[(),(),()] 40)).alloc (ac #[(),(),()] 40)):=kp;have bl:gM (((w1.alloc (ac #[bT A N ca,bT B M m,aG,aJ] 26)).alloc (ac #[(),(),()] 40)).alloc (ac #[(),(),()] 40)) (w1:Nat) (bT A N ca) (bT B M m) aG aJ:=(gM.new w1 _ _ aG aJ).on ((bZ).alloc sZ _);have l:gG (((w1.alloc (ac #[bT A N ca,bT B M m,aG,aJ] 26)).alloc (ac #[(),(),()] 40)).alloc (ac #[(),(),()] 40)) ((w1:Nat)+1) cF:=by have h:=gG.new (w1.alloc (ac #[bT A N ca,bT B M m,aG,aJ] 26)) cF;simp only[aT]at h;exact hn h _
 have d:gG (((w1.alloc (ac #[bT A N ca,bT B M m,aG,aJ] 26)).alloc (ac #[(),(),()] 40)).alloc (ac #[(),(),()] 40)) ((w1:Nat)+1+1) cF:=by have h:=gG.new ((w1.alloc (ac #[bT A N ca,bT B M m,aG,aJ] 26)).alloc (ac #[(),(),()] 40)) cF;simp only[aT]at h;exact h
 obtain⟨bt,bu,bv,fd,fe⟩:=id bl;have bb:=qZ dl;have ci:=qZ bl;have ba:=qZ l;have ae:=qZ d;go_enter func181,ntmps181;go_wp2_with fail;generalize((w1.alloc (ac #[bT A N ca,bT B M m,aG,aJ] 26)).alloc (ac #[(),(),()] 40)).alloc (ac #[(),(),()] 40)=br at*;refine(bg.out br bb).mono ?_;rintro e bs⟨e5,rfl,cq,Q⟩;obtain⟨d6,c2,rfl,c0⟩:=mV cq;have b7:=qZ c0;have cg:=qZ (aA bb Q);have ch:=qZ (ci.on Q);have cb:=qZ (eC ba Q (eR ba));have cc:=qZ (eC ae Q (eR ae));have ep:(br:Nat)<=(bs:Nat):=Q.size;have eo:=eR ae;obtain⟨L,W⟩:=nQ ((cM c n).length);have ef:L<=1000000:=by have ag:=eG (λt=>Tree.on c n t) (gQ c);have ah:=uO c c.aN.length;have X:(gQ c).length<=c.aN.length:=ah;have co:(cM c n).length<=(gQ c).length:=ag;rw[W.out,ad.out]at*;omega
 rw[W.out];go_wp2_with fail;go_loopw [20] (λi wr=>∃k:Nat,i=cR cP (k:Int)/\k<=L/\cH w1 w1 wr/\gM wr (w1:Nat) (bT A N ca) (bT B M m) aG aJ/\gG wr ((w1:Nat)+1) cF/\gG wr ((w1:Nat)+1+1) (rD c xs n t k)/\aL (λi=>i=(w1:Nat)+1+1) bs wr) (λi _=>L-(intOf i).toNat);exact⟨0,rfl,oZ,cg,ch,cb,by rw[NV];exact cc,dT _ _⟩
 obtain⟨k,rfl,ek,f,K,l,d,H⟩:=hrel
 rename cA=>wr
 by_cases bm:k<L
 .have de:k<(cM c n).length:=by rw[W.out];exact bm
  obtain⟨s,hs⟩:=nZ ((cM c n)[k]);have an:(cM c n)[k]? =cC s:=by rw[aH de,hs]
  obtain⟨g,cp,ei,da,cz⟩:=b7.out k s an;have ej:CI wr g k (s:Int):=(H.cell (p:=⟨g,k,cD⟩) da (λh=>by have ed:g=(w1:Nat)+1+1:=h;omega)).trans cz;have ao:=(QF (c:=c) (n:=n) (s:=s) (by rw[<-hs];exact bD _)).2;obtain⟨x0,aw,ax,fb,fc⟩:=id K;subst cp;by_cases J:(s:Int)=t
  .have ak:=NW c xs n t k s an J;have dz:((s:Int)==t)=eV:=by simpa using J
   have j:=qZ (aC f (aC K (aC l (aC d H))));clear hs;go_wp2_with fail;go_roundw;exact⟨k+1,mZ,oZ,j.1,j.2.1,j.2.2.1,by rw[ak];exact j.2.2.2.1,j.2.2.2.2⟩;simp[intOf];omega
  .have ak:=qZ (NY c xs n t k s an J);have dz:((s:Int)==t)=cV:=by simpa using J
   obtain⟨af,e0,rfl,cx,cy⟩:=nE b9 ao;have df:=cy wr f;have dg:Quo.node c s=c.aN[s]:=by unfold Quo.node;rw[aV,aH ao,gb]
   have al:Quo.own c xs s=Quo.pos (Vec.sub (Vec.sub c.aN[s].fC c.aN[s].lend) (gp xs (s:Int))):=by unfold Quo.own;rw[dg]
   generalize c.aN[s]=x at*;obtain⟨dn,dp,dr,ds,dt,du,dv,dw,dx,dy,dq⟩:=df;have eg:af<(wr:Nat):=aM cx f.size;have es:∀i,¬af=(wr:Nat)+i:=λi e=>oZ;have et:¬af=(wr:Nat):=λe=>oZ;have di:s<N:=by rw[<-ad.out];exact ao
   obtain⟨par,e9,⟨n0,n1,n2⟩,⟨d8,b1,b2⟩,⟨aq,ar,au⟩⟩:=x;simp only at dn dp dr ds dt du dv dw dx dy dq al;obtain⟨p,am⟩:=nZ (Vec.sub ⟨n0,n1,n2⟩ ⟨aq,ar,au⟩);obtain⟨a,ai⟩:=nZ (gp xs (s:Int));obtain⟨r,I⟩:=nZ (Vec.sub p a);rw[am,ai,I]at al;have b8:=qZ al;have bc:=gT.amj ⟨n0,n1,n2⟩ ⟨aq,ar,au⟩;have bd:=BS (ay.below f) (s:Int);have be:=gT.amj p a;rw[am]at bc;rw[ai]at bd;rw[I]at be;obtain⟨av,p1,p2⟩:=p;obtain⟨a0,a1,a2⟩:=a;obtain⟨b,r1,r2⟩:=r;have bz:Hid (eP cG 120 #[cN #[n0,n1,n2],cN #[aq,ar,au]] (cN #[av,p1,p2])):=qZ bc;have b0:Hid (fV cG wr 44 #[bT bw U c5,(s:Int)] (cN #[a0,a1,a2])):=qZ bd;have b3:Hid (eP cG 120 #[cN #[av,p1,p2],cN #[a0,a1,a2]] (cN #[b,r1,r2])):=qZ be;have ev:decide (s<N)=eV:=by simpa using di
   have j:=qZ (aC f (aC K (aC l (aC d H))));clear hs am ai I;go_wp2_with fail;refine(bz _).mono ?_;rintro e d0⟨rfl,cu⟩;have cv:cH wr wr d0:=aA (bZ) cu;have az:=qZ cv;go_wp2_with fail;refine(b0 _ az).mono ?_;rintro e e8⟨rfl,cw⟩;have a5:=qZ (aA az cw);go_wp2_with fail;refine(b3 _).mono ?_;rintro e u⟨rfl,bk⟩;have b5:=qZ (aA a5 bk);have ew:=(aA a5 bk).size;have dk:=gG.new u ⟨b,r1,r2⟩;have dd:cH u u (u.alloc (ac #[b,r1,r2] 40)):=bZ;obtain⟨o,aj⟩:=nZ (u:Nat);have bp:gG (u.alloc (ac #[b,r1,r2] 40)) o ⟨b,r1,r2⟩:=aj▸dk;have ab:=qZ (aA b5 dd);have eh:(wr:Nat)<=o:=oZ;have b6:=qZ aj;clear aj;go_wp2_with fail;rw[b6.out];generalize u.alloc (ac #[b,r1,r2] 40)=w8 at*;obtain⟨⟨d9,e1,e2⟩,e3,e4⟩:=bp.cells;have cd:=qZ bp;have db:=gT.idx b r1 r2;obtain⟨i0,ey,ez⟩:=db;have ce:=qZ (aC (gG.store cd ⟨max b 0,max r1 0,max r2 0⟩) (lG w8 o (cR cP (max b 0)) (cR cP (max r1 0)) (cR cP (max r2 0))));simp only[aO]at e1 e2;have ea:=e3 0;have eb:=e3 1;have ec:=e3 2;obtain⟨f,K,l,d,H⟩:=j.out;obtain⟨y,ap⟩:=nZ (rD c xs n t k);obtain⟨z,a9⟩:=nQ (rD c xs n t (k+1));have dm:dE y ⟨max b 0,max r1 0,max r2 0⟩=z:=by rw[<-a9.out,ak.out,ap,b8.out];rfl
   have bf:=gT.zN y ⟨max b 0,max r1 0,max r2 0⟩;rw[dm]at bf;rw[ap]at d;obtain⟨bt,bu,bv⟩:=y;obtain⟨z0,z1,z2⟩:=z;have b4:Hid (eP cG 40 #[cN #[bt,bu,bv],cN #[(max b 0:Int),(max r1 0:Int),(max r2 0:Int)]] (cN #[z0,z1,z2])):=qZ bf;have bo:=eC d ab (eR d);have eq:(w1:Nat)+1+1<(wr:Nat):=eR d;have d7:=qZ bo;obtain⟨⟨ck,d1,d2⟩,-,-⟩:=gG.cells bo;simp only[aO]at d1 d2;have er:¬(w1:Nat)+1+1=o:=λe=>oZ;clear ap;refine wp_loop_rounds 4 ?_;(iterate 4 rw[rounds_succ];go_wp2_with fail);refine(b4 _).mono ?_;rintro e bq⟨rfl,ct⟩;generalize((w8.setCell (o,0) (cR cP (max b 0))).setCell (o,1) (cR cP (max r1 0))).setCell (o,2) (cR cP (max r2 0))=w10 at*;obtain⟨ex,dc⟩:=ce.out;have cs:cH wr wr w10:=ab.out.trans (dc.below ab.size λi (e:i=o)=>oZ);have T:=aA cs ct;obtain⟨f,K,l,d,H⟩:=j.out;have bi:cH w1 w1 bq:=aA f T;have bn:=eC d T (eR d);have dj:=eC l T (eR l);obtain⟨⟨ee,ag,ah⟩,X,co⟩:=gG.cells bn;have cl:=X 0;have cm:=X 1;have cn:=X 2;simp only[aO]at ag ah;have aa:=lG bq ((w1:Nat)+1+1) z0 z1 z2;have O:=qZ (aC (bi.trans (aa.below bi.size λi (e:i=(w1:Nat)+1+1)=>oZ)) (aC ((K.on T).bA aa oZ) (aC (Blk.bA dj aa oZ) (aC (gG.store bn ⟨z0,z1,z2⟩) (H.trans' ((eA (F:=λi=>i=(w1:Nat)+1+1) T).trans aa) λi hi e=>e)))));go_wp2_with fail;go_roundw;exact⟨k+1,mZ,oZ,O.1,O.2.1,O.2.2.1,by rw[a9.out];exact O.2.2.2.1,O.2.2.2.2⟩;simp[intOf];omega
 .have cr:=SH c xs n t k (by rw[W.out];omega);rw[cr]at d;obtain⟨r,a8⟩:=nQ (Quo.bA c xs n t);rw[a8.out]at d;obtain⟨b,r1,r2⟩:=r;obtain⟨⟨ck,d1,d2⟩,-,-⟩:=gG.cells d;obtain⟨⟨av,p1,p2⟩,p3,p4⟩:=gG.cells l;simp only[aO]at d1 d2 p1 p2;have cl:=p3 0;have cm:=p3 1;have cn:=p3 2;have el:decide (k<L)=cV:=by simpa using bm
  have j:=qZ (aC (gG.store l ⟨b,r1,r2⟩) (aC (lG wr ((w1:Nat)+1) b r1 r2) f));go_wp2_with fail;rw[a8.out];generalize((wr.setCell ((w1:Nat)+1,0) b).setCell ((w1:Nat)+1,1) r1).setCell ((w1:Nat)+1,2) r2=Ws at*;obtain⟨J,dh,f⟩:=j.out;obtain⟨⟨x0,aw,ax⟩,-,-⟩:=gG.cells J;simp only[aO]at aw ax;refine eK (v:=cN #[b,r1,r2]) (by simp[results,Tryz.results181,go_sem,x0,aw,ax]) rfl ⟨rfl,?_⟩;exact f.trans (dh.below f.size λi (e:i=(w1:Nat)+1)=>oZ)
theorem abm(j:bW w v c)(Z:c.aN.length<=1000000)(n:Int):fV cG w 71 #[v,n] (fC c n).val:=by
 intro w1 ad;replace j:=j.below ad;clear ad;obtain⟨v1,v2,rfl,⟨A,ca,rfl,am,bb⟩,⟨B,a,rfl,bg,bc⟩⟩:=id j;have T:=qZ j;obtain⟨N,p⟩:=nZ c.aN.length;generalize c.aR.length=M at*;generalize c.aG=aG at*;generalize c.aJ=aJ at*;have aw:=qZ p;have ay:=qZ am;have ax:=qZ Z;rw[p]at T Z⊢;have ai:(jE c).length=N:=by unfold jE;rw[bP,p]
 have W:=qZ ai;have aq:cH w1 w1 ((w1.alloc (ac #[bT A N ca,bT B M a,aG,aJ] 26)).alloc (ac #[(),(),()] 40)):=kp;have ae:gM ((w1.alloc (ac #[bT A N ca,bT B M a,aG,aJ] 26)).alloc (ac #[(),(),()] 40)) (w1:Nat) (bT A N ca) (bT B M a) aG aJ:=(gM.new w1 _ _ aG aJ).on (bZ);have ap:gG ((w1.alloc (ac #[bT A N ca,bT B M a,aG,aJ] 26)).alloc (ac #[(),(),()] 40)) ((w1:Nat)+1) cF:=by have h:=gG.new (w1.alloc (ac #[bT A N ca,bT B M a,aG,aJ] 26)) cF;simp only[aT]at h;exact h
 have an:((w1.alloc (ac #[bT A N ca,bT B M a,aG,aJ] 26)).alloc (ac #[(),(),()] 40)).heap.size=(w1:Nat)+1+1:=sZ;clear j am bb bg bc p ai;go_enter func71,ntmps71;have a5:=qZ ap;have a8:=qZ aq;have a9:=qZ ae;have a0:=qZ an;clear aq ae ap an;go_wp2_with fail;generalize(w1.alloc (ac #[bT A N ca,bT B M a,aG,aJ] 26)).alloc (ac #[(),(),()] 40)=w2 at*;go_loopw [5,6] (λl i wr=>∃k:Nat,i=cR cP (k:Int)/\k<=N/\iV wr ((w1:Nat)+1+1) l ((jE c).take k)/\cH w1 w1 wr/\gG wr ((w1:Nat)+1) cF/\gM wr (w1:Nat) (bT A N ca) (bT B M a) aG aJ/\(w1:Nat)+1+1<=(wr:Nat)) (λ_ i _=>N-(intOf i).toNat);exact⟨0,rfl,oZ,iV.nil _ _,a8,a5,a9,by rw[a0.out];exact bG _⟩
 obtain⟨k,rfl,b5,f,d,hv,L,bk⟩:=hrel
 rename cA=>wr
 by_cases H:k<N
 .have ah:k<c.aN.length:=by rw[aw.out];exact H
  obtain⟨ba,bl,rfl,b4,af⟩:=nE ay ah;have bf:=af wr d;have F:k<(jE c).length:=by rw[W.out];exact H
  have aj:(jE c)[k]'F=c.aN[k].fC:=by simp[jE]
  have J:(jE c).take (k+1)=(jE c).take k++[c.aN[k].fC]:=by rw[bE F,aj]
  generalize c.aN[k]=x at*;obtain⟨bm,bn,bp,bq,br,bs,bt,bu,bv,bw,bo⟩:=bf;obtain⟨par,cc,⟨n0,n1,n2⟩,⟨b3,b1,b2⟩,⟨b7,b8,b9⟩⟩:=x;simp only at bp bq br J;have bd:((jE c).take k).length=k:=by rw[bN];omega
  obtain⟨v',w',bh,ak,ag,be⟩:=UF f bk ⟨n0,n1,n2⟩ oZ;have m:aL (λi=>u5.ownBlock=cC i) wr w':=((dT _ wr).alloc _).trans (hp ag λi e=>e);have s:∀i,u5.ownBlock=cC i->(w1:Nat)+1+1<=i:=λi hi=>(f.lt i hi).1;have ab:cH w1 w1 w':=d.trans (m.below d.size λi hi=>by have:=s i hi;omega);have ao:gG w' ((w1:Nat)+1) cF:=Blk.bA hv m (λh=>by have:=s _ h;omega);have ar:=L.bA m (λh=>by have:=s _ h;omega);have b:=qY (iV w' ((w1:Nat)+1+1) v' ((jE c).take (k+1))/\cH w1 w1 w'/\gG w' ((w1:Nat)+1) cF/\gM w' (w1:Nat) (bT (cC ⟨ba,bl,cD⟩) N ca) (bT B M a) aG aJ/\(w1:Nat)+1+1<=(w':Nat)) (⟨by rw[J];exact ak,ab,ao,ar,by have:=m.size;omega⟩);obtain⟨cd,ce,cg,ch,ci⟩:=L;clear af ah F aj J f d hv ak ag be m s ab ao ar bm bn bs bt bu bv bw bo bd;go_wp2_with(at_builtin;refine cK rfl (.tmp 14) (.tmp 21) _ _ rfl u5 (bT wr 1 1) rfl rfl bh ?_);go_roundw;exact⟨k+1,mZ,oZ,b.1,b.2.1,b.2.2.1,b.2.2.2.1,b.2.2.2.2⟩;simp[intOf];omega
 .have aa:(jE c).take k=jE c:=aU (by rw[W.out];omega);rw[aa]at f;have g:=qZ (abg (T.below d) ax f.sl n);have b6:decide (k<N)=cV:=by simp;omega
  have al:gR c n (jE c)=fC c n:=rfl;rw[al]at g;obtain⟨r,I⟩:=nZ (fC c n);rw[I]at g;have az:=qZ I;obtain⟨o,r1,r2⟩:=r;clear I al;have X:=qZ hv;have av:=qZ d;obtain⟨x0,u,y,bz,b0⟩:=L;obtain⟨au,c7,e7,-,-⟩:=f.sl;subst e7;clear f aa H hv d;go_wp2_with fail;have Y:fV cG wr 69 #[cN #[bT A N ca,bT B M a,aG,aJ],n,bT au (jE c).length c7] (cN #[o,r1,r2]):=g.out;refine(Y _ (aK _ _)).mono ?_;clear Y;rintro e O⟨rfl,z⟩;have K:gG O ((w1:Nat)+1) cF:=eC X z (eR X);have Q:=qZ (aA av z);obtain⟨⟨cb,p1,p2⟩,p3,p4⟩:=K.cells;have b:=qZ (aC (gG.store K ⟨o,r1,r2⟩) (lG O ((w1:Nat)+1) o r1 r2));clear z K x0 u y bz b0;go_wp2_with fail;rw[az.out];generalize((O.setCell ((w1:Nat)+1,0) o).setCell ((w1:Nat)+1,1) r1).setCell ((w1:Nat)+1,2) r2=Ws at*;obtain⟨bj,bi⟩:=b.out;obtain⟨⟨x0,u,y⟩,-,-⟩:=bj.cells;simp only[aO]at u y;refine eK (v:=cN #[o,r1,r2]) (by simp[results,Tryz.results71,go_sem,x0,u,y]) rfl ⟨rfl,?_⟩;exact Q.out.trans (bi.below Q.size λi (e:i=(w1:Nat)+1)=>oZ)
theorem AO(c:dC)(u:eL):(cQ c u).length=c.aN.length:=by simp[cQ]
theorem aoT(c:dC)(u:eL)(x:Nat)(h:x<(cQ c u).length):(cQ c u)[x]=u x:=by simp[cQ]
theorem aoS(c:dC)(u:eL)(x:Nat)(v:cI):(cQ c u).set x v=cQ c (upd u x v):=by
 apply fP;intro i;by_cases hi:i=x
 .subst hi;by_cases h:i<c.aN.length
  .rw[jW (by rw[AO];exact h)];simp[cQ,upd,h]
  .rw[eH (by rw[List.length_set,AO];omega),eH (by rw[AO];omega)]
 .rw[kI (Ne.symm hi)];by_cases h:i<c.aN.length<;>simp[cQ,upd,h,hi]
theorem akg(c:dC):cQ c fX=fz c.aN.length cF:=by apply fP;intro i;by_cases h:i<c.aN.length<;>simp[cQ,fX,h]
theorem afD(c:dC)(t:Int):(ga c t).Nodup:=(List.pairwise_reverse.2 (DZ c t)).imp (λh=>oZ)
theorem anZ(c:dC)(t:Int):∀x∈ga c t,x<c.aN.length:=λx a=>(aak c t x (List.mem_reverse.1 a)).1
theorem aiw(c:dC)(t:Int)(f:cI->cI)(u:eL):cU f u (ga c t)=cU f u (cT c t):=ajT f u (λi=>List.mem_reverse)
theorem abY(a b p:Int)(v:cI)(d e f:Int):eP cG 18 #[cN #[a,b,p,v.x,v.y,v.z,d,e,f]] (fy v p).val:=by
 intro w;have z:=gT.aev v p;obtain⟨x0,c,g⟩:=v;generalize fy ⟨x0,c,g⟩ p=y at*;obtain⟨m,n,o⟩:=y;have r:Hid (eP cG 46 #[cN #[x0,c,g],p] (cN #[m,n,o])):=qZ z;simp only[Vec.V.val];have H:arz ((w.alloc (ac #[a,b,p,x0,c,g,d,e,f] 42)).alloc (ac #[(),(),()] 40)) ((w:Nat)+1) 0 ⟨0,0,0⟩:=by refine⟨sZ,?_,?_,?_⟩<;>simp[go_sem]
 have F:∀j,((w.alloc (ac #[a,b,p,x0,c,g,d,e,f] 42)).alloc (ac #[(),(),()] 40)).frozen? ⟨(w:Nat)+1,j,cD⟩=cV:=λj=>by simp[go_sem]
 have A:cH w w ((w.alloc (ac #[a,b,p,x0,c,g,d,e,f] 42)).alloc (ac #[(),(),()] 40)):=kp;have L:((w.alloc (ac #[a,b,p,x0,c,g,d,e,f] 42)).alloc (ac #[(),(),()] 40)).heap.size=(w:Nat)+2:=sZ;have u:=qZ H;have k:=qZ F;have x:=qZ A;go_enter func18,ntmps18;go_wp2_with fail;refine(r.out _).mono ?_;rintro e N⟨rfl,i⟩;obtain⟨M,l,c1,c2⟩:=u.out.on i;simp only[aO]at l c1 c2;have I:=(i.frozen (p:=⟨(w:Nat)+1,0,cD⟩) (by show(w:Nat)+1<_;omega)).trans (k.out 0);have J:=(i.frozen (p:=⟨(w:Nat)+1,1,cD⟩) (by show(w:Nat)+1<_;omega)).trans (k.out 1);have K:=(i.frozen (p:=⟨(w:Nat)+1,2,cD⟩) (by show(w:Nat)+1<_;omega)).trans (k.out 2);have s:=qZ (aA x.out i);go_wp2_with fail;exact eK (v:=cN #[m,n,o]) (by simp[results,Tryz.results18,go_sem,l,c1,c2]) rfl ⟨rfl,by have:=s.out;exact kp⟩
theorem anJ{rs:List Run}(O:bW w v c)(ax:Runs w vr rs)(b7:c.aN.length<=1000000):∀w1,cH w w w1->eQ cG 31 #[v,vr] w1 λe w'=>UM (cQ c (qL c (needs rs) rs.length)) w1 e w':=by
 intro w1 bv;replace O:=O.below bv;replace ax:=ax.below bv;have an:=qZ (λt=>KL O t);have ao:=qZ (λt W F=>CQ O b7 t W F);obtain⟨v1,v2,rfl,⟨A,ca,rfl,_,_⟩,_⟩:=id O;obtain⟨aG,dl⟩:=nQ c.aG;obtain⟨aJ,dk⟩:=nQ c.aJ;rw[dl.out,dk.out]at an ao⊢;obtain⟨R,er,rfl,ec,b6,d6⟩:=ax;have ct:=qZ (λ(k:Nat) (h:k<rs.length)=>(show∃A n c,rs[k].hv=bT A n c from by obtain⟨A,c,e,_⟩:=d6 _ (bD h);exact⟨A,_,c,e⟩));unfold gr at b6;have cz:=qZ ec;obtain⟨N,H⟩:=nQ c.aN.length;obtain⟨K,be⟩:=nQ rs.length;rw[H.out]at b7 an ao;rw[be.out]at b6⊢;rw[H.out];have b0:=gM.new w1 (bT A N ca) v2 aG aJ;have dv:cH w1 w1 (w1.alloc (ac #[bT A N ca,v2,aG,aJ] 26)):=bZ;go_enter func31,ntmps31;generalize fb:w1.alloc (ac #[bT A N ca,v2,aG,aJ] 26)=z at*;have bc:=qZ b0;have bm:=qZ dv;obtain⟨fc,x0,fm,fn,fo⟩:=b0;obtain⟨cm,e8,ed,dt,e9⟩:=CY z N oZ;have df:=qZ ed;have bl:=qZ dt;go_wp2_with fail;generalize ay:(z:Nat)=rb at*;go_loopw [6] (λi wr=>∃k:Nat,i=cR cP (k:Int)/\k<=K/\iV wr rb (bT rb N N) (cQ c (qL c (needs rs) k))/\aL (λb=>b=rb) cm wr) (λi _=>K-(intOf i).toNat);exact⟨0,rfl,oZ,by rw[show qL c (needs rs) 0=fX from rfl,akg,H.out];exact df.out,dT _ _⟩
 obtain⟨k,rfl,e0,hv,b5⟩:=hrel
 rename cA=>wr
 have bj:=qZ hv;have cv:=qZ b5;have av:cH z z wr:=by rw[ay];exact bl.out.trans (b5.below (by rw[<-ay];exact bl.out.size) λi e=>by rw[e];exact bG _)
 have aw:=aA bm.out av;have bg:=qZ av;have bh:=qZ aw;by_cases d7:k<K
 .have au:k<rs.length:=by rw[be.out];exact d7
  obtain⟨al,fe,rfl,d8,dx⟩:=qQ cz.out au;have ad:=qZ (λW (F:cH z z W)=>dx W (aA bm.out F));have ai:=qZ (YG c rs k au);obtain⟨eg,fd,es,b9⟩:=ct.out k au;generalize rs[k]=r at*;obtain⟨cj,r1,r2,⟨z0,z1,z2⟩,r3,ck,cl,fg,fh,fi,fj,ff,fl⟩:=r;simp only at ai b9;subst b9;obtain⟨Q,p1,p2,p3,p4,T,p6,X,Y,bb,a5,a8,a9,ba⟩:=ad.out wr bg.out;simp only at Q p1 p2 p3 p4 T p6 X Y bb a5 a8 a9 ba;have bw:al<(wr:Nat):=aM d8 aw.size;have dg:=λW (h:aD wr W)=>h.cell bw p1;obtain⟨dm,dn,dp,dq⟩:=(bc.out.on av).all;have b1:=(an.out r1).on aw;obtain⟨q,ag⟩:=nQ (iP c r1);rw[ag.out]at b1;have co:=qZ b1;go_wp2_with fail;refine kK ?_;(repeat refine kY ?_);refine kJ (co.out.up (aK _ _)) ?_;(repeat refine kY ?_);refine dP ?_;intro W F;have ak:=qZ F;have aj:=qZ (bj.out.below F);have bf:=qZ (cv.out.trans (eA F));cases q
  .have ar:=qY (qL c (needs rs) (k+1)=qL c (needs rs) k) (by rw[ai.out];unfold fu;rw[aF (by rw[ag.out];decide)]);go_wp2_with fail;go_roundw;exact⟨k+1,mZ,oZ,by rw[ar.out];exact aj.out,bf.out⟩;simp[intOf];omega
  .have ar:=qY (qL c (needs rs) (k+1)=cU (λa=>dE a (fy ⟨z0,z1,z2⟩ r2)) (qL c (needs rs) k) (cT c r1)) (by rw[ai.out];unfold fu;rw[aI ag.out]);have ah:=qZ (aA bg.out ak.out);have cx:=qZ (aA bh.out ak.out);obtain⟨Q,p1,p2,p3,p4,T,p6,X,Y,bb,a5,a8,a9,ba⟩:=ad.out W ah.out;simp only at p1;have bz:al<(W:Nat):=aM bw ak.out.size;have dg:=λW' (h:aD W W')=>h.cell bz p1;obtain⟨dm,dn,dp,dq⟩:=(bc.out.on ah.out).all;go_wp2_with fail;refine jN 7 kZ kZ ?_;simp only[cY,eI,aZ,bB];(repeat refine kY ?_);refine dP ?_;intro bn bt;have cp:=qZ (ao.out r1 bn (aA cx.out bt));have bk:=qZ bt;go_wp2_with fail;refine cp.out.mono ?_;rintro e cn⟨v4,rfl,ds,du⟩;have aa:=qZ (aA bk.out du);obtain⟨ef,c4,rfl,dw⟩:=mV ds;have cr:=qZ dw;have de:=qY (rb<(bn:Nat)) (by have:=(aj.out.lt rb rfl).2;have:=bk.out.size;omega);have dd:=qZ (afD c r1);have dc:=qZ (anZ c r1);have db:=qZ (aiw c r1 (λa=>dE a (fy ⟨z0,z1,z2⟩ r2)) (qL c (needs rs) k));have ea:(ga c r1).length<=N:=by unfold ga;rw[List.length_reverse,<-H.out];exact uZ c r1
   generalize ga c r1=PT at*;obtain⟨L,af⟩:=nQ PT.length;rw[af.out]at ea⊢;have c0:=qZ (aj.out.below aa.out);have cy:=qZ (aA ah.out aa.out);have cu:=qZ (bf.out.trans (eA aa.out));have aq:=abY cj r1 r2 ⟨z0,z1,z2⟩ r3 ck cl;generalize fy ⟨z0,z1,z2⟩ r2=y at*;obtain⟨l,m,o⟩:=y;have cq:Hid (eP cG 18 #[cN #[cj,r1,r2,z0,z1,z2,r3,ck,cl]] (cN #[l,m,o])):=qZ aq;generalize qL c (needs rs) k=u at*;go_wp2_with fail;go_loopw [8] (λi d=>∃j:Nat,i=cR cP (j:Int)/\j<=L/\iV d rb (bT rb N N) (cQ c (cU (λa=>dE a ⟨l,m,o⟩) u (PT.take j)))/\aL (λb=>b=rb) cn d) (λi _=>L-(intOf i).toNat);exact⟨0,rfl,oZ,by rw[eI,acE];exact c0.out,dT _ _⟩
   obtain⟨j,rfl,ey,ab,J⟩:=hrel
   rename cA=>d
   have da:=qZ ab;have cw:=qZ J;by_cases b3:j<L
   .have b4:j<PT.length:=by rw[af.out];exact b3
    obtain⟨x,a0⟩:=nZ (PT[j]);have cd:PT[j]? =cC x:=by rw[aH b4,a0]
    have ee:x<N:=by rw[<-H.out];exact dc.out x (gP cd)
    obtain⟨ap,rfl,ex,b2,dy⟩:=cr.out j x cd;have dz:=(J.cell (p:=⟨ap,j,cD⟩) b2 (by show¬ap=rb;have:=de.out;omega)).trans dy;have cc:PT.take (j+1)=PT.take j++[x]:=by rw[bE b4,a0]
    have ce:x∉PT.take j:=λd9=>by have b8:=dd.out;rw[<-gX (j+1) PT,cc,bM,kG]at b8;exact b8.2.2 x d9 x sZ rfl
    have bi:=qY (cU (λa=>dE a ⟨l,m,o⟩) u (PT.take (j+1))=upd (cU (λa=>dE a ⟨l,m,o⟩) u (PT.take j)) x (dE (u x) ⟨l,m,o⟩)) (by rw[cc,ZK _ _ _ _ ce]);have bu:=ab.dR (i:=x) (by rw[AO,H.out];exact ee);rw[aoT,acD _ _ _ _ ce]at bu;have br:=gT.AA (u x) ⟨l,m,o⟩;generalize u x=f at*;obtain⟨bo,bp,bq⟩:=f;obtain⟨s,hs⟩:=nZ (dE ⟨bo,bp,bq⟩ ⟨l,m,o⟩);rw[hs]at br bi;obtain⟨Z,s1,s2⟩:=s;have dr:eP cG 66 #[cN #[bo,bp,bq],cN #[l,m,o]] (cN #[Z,s1,s2]):=br;obtain⟨-,-,az,cg,ch,ci⟩:=bu;have eb:cH z z d:=by have:=cy.out;exact this.trans (J.below this.size λi e=>by rw[e,<-ay];exact bG _)
    obtain⟨Q,p1,p2,p3,p4,T,p6,X,Y,bb,a5,a8,a9,ba⟩:=ad.out d eb;simp only at cg ch ci Q p1 p2 p3 p4 T p6 X Y;have d0:ap<(d:Nat):=aM b2 J.size;have g:al<(d:Nat):=aM bz (bC aa.out.size J.size);have eh:=λW (h:aD d W)=>h.cell d0 dz;have dh:=λW (h:aD d W)=>h.cell az cg;have di:=λW (h:aD d W)=>h.cell az ch;have dj:=λW (h:aD d W)=>h.cell az ci;have ei:=λW (h:aD d W)=>h.cell g Q;have ej:=λW (h:aD d W)=>h.cell g p1;have ek:=λW (h:aD d W)=>h.cell g p2;have el:=λW (h:aD d W)=>h.cell g p3;have em:=λW (h:aD d W)=>h.cell g p4;have en:=λW (h:aD d W)=>h.cell g T;have eo:=λW (h:aD d W)=>h.cell g p6;have ep:=λW (h:aD d W)=>h.cell g X;have eq:=λW (h:aD d W)=>h.cell g Y;have aq:=cq.out;clear a0 hs;go_wp2_with fail;refine jN 20 kZ kZ ?_;simp only[cY,eI,aZ,bB];(repeat refine kY ?_);refine kJ aq ?_;(repeat refine kY ?_);refine kJ dr ?_;(repeat refine kY ?_);refine dP ?_;intro I M;have bs:=da.out.below M;have am:=bs.ok;have eu:=am (x*3);have ev:=am (x*3+1);have ew:=am (x*3+2);have et:=dh I M;have d1:=di I M;have d2:=dj I M;have cb:=bs.set x ⟨Z,s1,s2⟩;rw[aoS,<-bi.out]at cb;have ae:=qY (iV (uR I rb (x*3) ⟨Z,s1,s2⟩) rb (bT rb N N) (cQ c (cU (λa=>dE a ⟨l,m,o⟩) u (PT.take (j+1))))/\aL (λb=>b=rb) cn (uR I rb (x*3) ⟨Z,s1,s2⟩)) (⟨cb,(cw.out.trans (eA M)).trans (zI I rb (x*3) ⟨Z,s1,s2⟩)⟩);unfold uR at ae;go_wp2_with fail;go_roundw;exact⟨j+1,mZ,oZ,ae.out.1,ae.out.2⟩;simp[intOf];omega
   .have bd:=qY (iV d rb (bT rb N N) (cQ c (qL c (needs rs) (k+1)))/\aL (λb=>b=rb) cm d) (by rw[ar.out,<-db.out];rw[aU (by rw[af.out];omega)]at ab;exact⟨ab,cu.out.trans J⟩);have ez:decide (j<L)=cV:=by simpa using b3
    go_wp2_with fail;go_roundw;exact⟨k+1,mZ,oZ,bd.out.1,bd.out.2⟩;simp[intOf];omega
 .have e:k=K:=oZ;subst e;have cs:=qY (UM (cQ c (qL c (needs rs) k)) w1 (cL (bT rb N N)) wr) (⟨_,rfl,bj.out.low oZ,bh.out⟩);have e5:decide (k<k)=cV:=sZ;go_wp2_with fail;go_ret;exact cs.out
end bO
end Go.Proofs.YtedmeglbjmdlhaaGreatDoor
