/-
Parts that the laws of the whole program share: contracts of its functions, and plain laws.
-/
import Derived.RangeFuncBound
import Derived.RangeFuncCalls
import Derived.RangeFuncLeaves
import Derived.TacticsInMore
import Derived.LoopNIn
import Derived.LoopIn
import Derived.Test.YtedmeglbjmdlhaaGreatDoorG3
import Derived.Test.YtedmeglbjmdlhaaGreatDoorG4
set_option maxRecDepth 100000
set_option maxHeartbeats 16000000
set_option linter.all false
open Go.Proofs.Tryz
namespace Go.Proofs.YtedmeglbjmdlhaaGreatDoor
open Go
open Cfg L Led Ord Tree bM jN sK
variable{aK:Int}{bc bn ca n sz:Nat}{F:Nat->Prop}{A:Option Addr}{v2:Value}{W W' w w':World}
namespace bM
open Go Go.RowKit L
attribute [local go_sem] Oper.semAt_some
theorem VJ{α:Type}{dec:α->List Value}{xs:List α}(h:gQ w A sz dec xs)(k:aO F w w')(hF:∀b o,A=some ⟨b,o,none⟩->¬F b):gQ w' A sz dec xs:=λd=>by obtain⟨b,o,e,a,c⟩:=h d;exact⟨b,o,e,aM a k.size,λi x f j v hv=>(k.cell (p:=⟨b,o+i*sz+j,none⟩) a (hF b o e)).trans (c i x f j v hv)⟩
structure xO (W:World) (bn bc:Nat) (A:Option Addr) (N ca:Nat) (v2:Value) (aI aK:Int) (xs:List kL) (n:Int):Prop where
 cell:W.cell? (bn,0)=some (.int .i64 n)
 free:W.frozen? (bn,0)=false
 lt:bn<(W:Nat)
 box:iB W bc (.slice A N ca) v2 aI aK
 row:gQ W A 11 oP xs
theorem xO.bD{N:Nat}{aI:Int}{xs:List kL}{n:Int}(h:xO W bn bc A N ca v2 aI aK xs n)(k:aO F W W')(a:¬F bn)(c:¬F bc)(d:∀b o,A=some ⟨b,o,none⟩->¬F b):xO W' bn bc A N ca v2 aI aK xs n:=
 ⟨(k.cell (p:=⟨bn,0,none⟩) h.lt a).trans h.cell,(k.frozen (p:=⟨bn,0,none⟩) h.lt a).trans h.free,aM h.lt k.size,h.box.bD k c,VJ h.row k d⟩
theorem xO.set{N:Nat}{aI:Int}{xs:List kL}{n:Int}(h:xO W bn bc A N ca v2 aI aK xs n)(a:bn≠bc)(c:∀b o,A=some ⟨b,o,none⟩->b≠bn)(m:Int):xO (W.setCell (bn,0) m) bn bc A N ca v2 aI aK xs m:=by have k:aO (λi=>i=bn) W (W.setCell (bn,0) m):=(aO.refl (λi=>i=bn) W).setCell (p:=⟨bn,0,none⟩) (.inl rfl) _;exact⟨World.cell?_setCell_same' _ _ _ (by rw[h.cell];rfl),by rw[World.frozen?_setCell];exact h.free,aM h.lt k.size,h.box.bD k λe=>a e.symm,VJ h.row k λb o e=>c b o e⟩
def OU(W:World)(bn:Nat):Nat:=match W.cell? (bn,0)with
 |some (.int _ n)=>(n+1).toNat
 |_=>0
theorem abw{n:Int}(h:W.cell? (bn,0)=some (.int .i64 n)):OU W bn=(n+1).toNat:=by unfold OU;rw[h]
theorem akY(l bn bc:Nat){aI:Int}(c:Cfg.C)(a5:c.aP.length<=maxLen)(t:Int)(J:List Nat->World->Prop)(Jx:List Nat->World->Prop)(F0:Nat->Prop)(ar:¬F0 bn)(au:¬F0 bc)(av:∀b o,A=some ⟨b,o,none⟩->¬F0 b)(aw:bn≠bc)(ax:∀b o,A=some ⟨b,o,none⟩->b≠bn)(az:∀pre W v,J pre W->J pre (W.setCell (bn,0) v))(j:∀pre (x:Nat) rest W,Tree.up c t=pre++x::rest->J pre W->xO W bn bc A c.aP.length ca v2 aI aK c.aP (x:Int)->YieldAt Fence.wide (n-1) prog l #[(x:Int)] W λe W'=>(e=.returned (.bool true)/\J (pre++[x]) W'/\aO F0 W W')\/(e=.returned (.bool false)/\Jx (pre++[x]) W'))(W:World)(aq:xO W bn bc A c.aP.length ca v2 aI aK c.aP t)(a0:J [] W):CallsIn Fence.wide n prog 149 #[.func (.yield l) #[] #[],.pointer bn,.pointer bc] W λe W'=>(∃v,e=.returned v)/\(J (Tree.up c t) W'\/∃pre,pre<+:Tree.up c t/\Jx pre W'):=by
 refine callsIn_of_wp func149 rfl trivial ?_ rfl;simp only[ntmps149,gB,List.length_cons,List.length_nil,Nat.reduceAdd,Nat.reduceSub,lS,Array.replicate_zero,List.push_toArray,fH,List.nil_append,List.cons_append];gi_wp2
 gi_loopw [4] (λp wr=>∃(pre:List Nat) (m:Int),Tree.up c t=pre++Tree.up c m/\xO wr bn bc A c.aP.length ca v2 aI aK c.aP m/\J pre wr)
  (λp wr=>OU wr bn)
 case atStart=>exact⟨[],t,rfl,aq,a0⟩
 case round=>
  obtain⟨pre,m,d,g,a⟩:=hrel;unfold maxLen at a5;have bf:=qZ a;have s:=qZ d;by_cases k:0<=m
  .by_cases ag:m<(c.aP.length:Int)
   .obtain⟨x,rfl⟩:=dX k;have K:x<c.aP.length:=oZ;have I:=XR c x K;obtain⟨fn,tmps,assign,body,bb,ad⟩:=j pre x (if(x:Int)<=Tree.par c x then[]else Tree.up c (Tree.par c x)) wr (by rw[d,I]) a g;have ai:Tree.par c x=c.aP[x].parent:=by unfold Tree.par;rw[aL,aH K,Option.getD_some]
    have u:=qZ I;have ao:=qZ ai;have T:=qZ g;obtain⟨L,M,aj,⟨ak,x0,N,O,Q⟩,i⟩:=g;have ap:=qZ ad;clear ad I ai i a d j k N O Q;gi_wp2;refine⟨λh=>by simp[Fence.wide]at h,ap.out.mono ?_⟩;rintro e w (⟨rfl,aa,af⟩|⟨rfl,ab⟩)
    .have z:=T.out.bD af ar au av;obtain⟨bg,o,ay,bh,ae⟩:=EL z.row K;have ah:=ae w (aJ _ _);have al:=qZ z;have X:=qZ aa;subst ay;rw[<-ao.out]at ah;obtain⟨p,F⟩:=nZ (Tree.par c x);have Y:=qZ F;rw[F]at ah;obtain⟨r1,r2,r3,⟨bj,z0,z1,z2,be⟩,bd⟩:=z;clear ae af aa bd F z1 z2 be x0 L M bb;by_cases H:(x:Int)<=p
     .have f:=qY (J (Tree.up c t) w) (by rw[s.out,u.out,Y.out,aG H];exact X.out);gi_wp2;refine bodyPost_ret (results_none rfl _ _ _) rfl ?_;exact⟨⟨_,rfl⟩,.inl f.out⟩
     .have f:=qY (Tree.up c t=(pre++[x])++Tree.up c p) (by rw[s.out,u.out,Y.out,aD H];simp);have Z:=qZ (al.out.set aw ax p);have am:=qZ (az _ _ p X.out);have bi:decide ((x:Int)<=p)=false:=by simpa using H
      have an:=qY (OU (w.setCell (bn,0) p) bn<OU wr bn) (by rw[abw Z.out.cell,abw T.out.cell];omega);gi_wp2;go_roundw;case rel=>exact⟨_,p,f.out,Z.out,am.out⟩
      case measure=>exact an.out
    .have f:=qZ ab;have a9:=qY (pre++[x]<+:Tree.up c t) (by obtain⟨r,ba⟩:∃r,Tree.up c (x:Int)=x::r:=⟨_,u.out⟩;rw[s.out,ba];exact⟨r,sZ⟩);clear ab;gi_wp2
     go_end0
     exact⟨⟨_,rfl⟩,.inr ⟨_,a9.out,f.out⟩⟩
   .have y:=qY (J (Tree.up c t) wr) (by rw[d,OT c m oZ,fC];exact a);obtain⟨L,M,aj,⟨ak,x0,N,O,Q⟩,i⟩:=g;have a8:decide (m<(c.aP.length:Int))=false:=by simpa using ag
    clear d a ag i j;gi_wp2;refine⟨λ_ _=>trivial,?_⟩;gi_wp2
    go_end0
    exact⟨⟨_,rfl⟩,.inl y.out⟩
  .have y:=qY (J (Tree.up c t) wr) (by rw[d,OT c m oZ,fC];exact a);obtain⟨L,M,aj,⟨ak,x0,N,O,Q⟩,i⟩:=g;have a8:decide (0<=m)=false:=by simpa using k
   clear d a k i j;gi_wp2;refine⟨λ_ _=>trivial,?_⟩;gi_wp2
   go_end0
   exact⟨⟨_,rfl⟩,.inl y.out⟩
end bM
variable{a:Act}{Q:Exit->Act->World->Prop}{m:Nat}
namespace bM
open Go Go.RowKit L
attribute [local go_sem] Oper.semAt_some
theorem mY(W:World)(l:Nat)(o:Obj):aO (λk=>k=l) W (W.putObj l o):=aO.lG (grownBy_putObj' W l o) (λi e=>by cases e;rfl)
def aws(J Jx:World->Prop)(F0:Nat->Prop)(W:World):Exit->Act->World->Prop
 |.normal,_,W'=>J W'/\aO F0 W W'
 |.ret,_,W'=>Jx W'/\aO F0 W W'
 |_,_,_=>False
theorem apb{g:Operand}{ps:Array Tmp}{assign body:Code}{aI:Int}(c:Cfg.C)(ax:c.aP.length<=maxLen)(t:Int)(a8:a.eval g=.func (.func 149) #[] #[.pointer bn,.pointer bc])(bf:ps.size=1)(T:xO w bn bc A c.aP.length ca v2 aI aK c.aP t)(ap:bn≠bc)(O:∀b o,A=some ⟨b,o,none⟩->b<(w:Nat)/\b≠bn)(F0:Nat->Prop)(am:¬F0 bn)(an:¬F0 bc)(ao:∀b o,A=some ⟨b,o,none⟩->¬F0 b)(aq:¬F0 (w:Nat))(av:¬F0 ((w:Nat)+1))(J Jx:List Nat->World->Prop)(K:∀pre W W',J pre W->aO (λk=>k=bn\/k=(w:Nat)+1) W W'->J pre W')(ae:∀pre W W',Jx pre W->aO (λk=>k=bn\/k=(w:Nat)+1) W W'->Jx pre W')(ar:∀W,Below w w W->J [] W)(bg:∀(l m:Nat) (pre:List Nat) (x:Nat) (rest:List Nat) (W:World),l=(w:Nat)+1->Tree.up c t=pre++x::rest->J pre W->xO W bn bc A c.aP.length ca v2 aI aK c.aP (x:Int)->assign.wpIn (Fence.wide.inRound l) m prog (Exit.then (λa' W'=>W'=W/\∀n,J pre n->xO n bn bc A c.aP.length ca v2 aI aK c.aP (x:Int)->(w:Nat)+1<(n:Nat)->body.wpIn (Fence.wide.inRound l) m prog (aws (J (pre++[x])) (Jx (pre++[x])) F0 n) a' n) λ_ _ _=>False) {tmps:=(ps.zip #[.int .i64 (x:Int)]).foldl (λt (p,v)=>t.setIfInBounds p v) a.tmps,defers:=[]} W)(a0:∀(W:World),J (Tree.up c t) W->W.heap[(w:Nat)]? =some (.deferred (some []))->Q .normal {a with defers:={target:=.collected (w:Nat),args:=#[]}::a.defers} W)(bh:∀(pre:List Nat) (W:World),pre<+:Tree.up c t->Jx pre W->W.heap[(w:Nat)]? =some (.deferred (some []))->Q .ret {a with defers:={target:=.collected (w:Nat),args:=#[]}::a.defers} W):(Code.rangeFunc g ps assign body).wpIn Fence.wide m prog Q a w:=by
 refine wpIn_rangeFunc ?_;intro fn a5;rw[show Fence.wide.round=none from rfl];obtain⟨d,s⟩:∃d:LoopState->Option Code->Loop,d=λst pe=>{state:=st,pending:=pe,fn,tmps:=a.tmps,params:=ps,assign,body,defers:=(w:Nat)}:=⟨_,rfl⟩;obtain⟨u,L⟩:=nZ ((w.alloc (.deferred (some []))).alloc (.loop (d .ready none)));have aw:u.heap[(w:Nat)+1]? =some (.loop (d .ready none)):=by rw[<-L];have:=World.alloc_heap_new (w.alloc (.deferred (some []))) (.loop (d .ready none));rwa [bC]at this
 have au:u.heap[(w:Nat)]? =some (.deferred (some [])):=by rw[<-L];exact(Below.heap_alloc _ _ _ sZ).trans (World.alloc_heap_new w _)
 have af:Below w w u:=by rw[<-L];exact((aJ _ w).alloc lZ _).alloc sZ _
 refine⟨(w:Nat)+1,[{target:=.collected (w:Nat),args:=#[]}],u,{target:=.fn (.func 149) #[.pointer bn,.pointer bc],args:=#[.func (.yield ((w:Nat)+1)) #[] #[]]},u,149,#[.func (.yield ((w:Nat)+1)) #[] #[]]++#[.pointer bn,.pointer bc],u,?_,?_,?_,?_,λh=>by simp[Fence.wide]at h,?_⟩
 .rw[<-L,s];exact run_enterLoop_outer _ _ _ _ _
 .simp only[resolve,a8];simp[go_sem]
 .intro bi bl;trivial
 .have al:∀args w,(callFunc 149 args).run prog w=.ok (.enter 149 args) w:=λ_ _=>kZ;simp[invoke,go_sem,al]
 .have bk:bn<(w:Nat):=T.lt;have bj:bc<(w:Nat):=T.box.1;refine(akY ((w:Nat)+1) bn bc (A:=A) (ca:=ca) (v2:=v2) (aI:=aI) (aK:=aK) c ax t
   (λpre W=>J pre W/\W.heap[(w:Nat)+1]? =some (.loop (d .ready none))/\W.heap[(w:Nat)]? =some (.deferred (some [])))
   (λpre W=>Jx pre W/\W.heap[(w:Nat)+1]? =some (.loop (d .done (some .ret)))/\W.heap[(w:Nat)]? =some (.deferred (some [])))
   (λk=>F0 k\/k=(w:Nat)+1) (by rintro(h|h);exact am h;omega) (by rintro(h|h);exact an h;omega)
   (λb o e=>by
    rintro(h|h)
    .exact ao b o e h
    .have:=(O b o e).1;omega) ap (λb o e=>(O b o e).2)
   (λpre W v ⟨M,r,y⟩=>by have k:aO (λi=>i=bn\/i=(w:Nat)+1) W (W.setCell (bn,0) v):=(aO.refl _ W).setCell (p:=⟨bn,0,none⟩) (.inl (.inl rfl)) _;exact⟨K pre W _ M k,(Below.heap_setCell W ⟨bn,0,none⟩ v _ (by show(w:Nat)+1≠bn;omega)).trans r,(Below.heap_setCell W ⟨bn,0,none⟩ v _ (by show(w:Nat)≠bn;omega)).trans y⟩)
   ?_ u ?_ ⟨ar u af,aw,au⟩).mono ?_
  .rintro pre x rest W be⟨M,r,y⟩ aui;have ai:(w:Nat)+1<(W:Nat):=(bT.1 r).1;have aj:=run_yield (P:=prog) (args:=#[.int .i64 (x:Int)]) r (by rw[s];exact bf.symm);rw[s]at aj;refine⟨fn,_,assign,body,aj,roundIn_of_wpIn a5 (wpIn_mono (bg ((w:Nat)+1) _ pre x rest W rfl be M aui) ?_)⟩;intro e a' W' H;cases e with
   |normal=>
    obtain⟨rfl,az⟩:=H;refine⟨_,run_beginRound r (by rw[s]),?_⟩;have ag:(W'.putObj ((w:Nat)+1) (.loop {d .ready none with state:=.busy})).heap[(w:Nat)+1]? =some (.loop {d .ready none with state:=.busy}):=World.putObj_heap_same ai;have a9:(W'.putObj ((w:Nat)+1) (.loop {d .ready none with state:=.busy})).heap[(w:Nat)]? =some (.deferred (some [])):=(World.putObj_heap_other oZ).trans y;have Z:=mY W' ((w:Nat)+1) (.loop {d .ready none with state:=.busy});have ay:=aui.bD Z oZ oZ (λb o e=>by have:=(O b o e).1;omega);refine wpIn_mono (az _ (K pre W' _ M (Z.mono λi _ e=>.inr e)) ay (by simpa using ai)) ?_;generalize W'.putObj ((w:Nat)+1) (.loop {d .ready none with state:=.busy})=n at*;have bb:(w:Nat)+1<(n:Nat):=(bT.1 ag).1;have ad:∀(f:Option Code) (j:World),aO F0 n j->
      (Instr.endRound ((w:Nat)+1) f).run prog j=.ok (.bool f.isNone) (j.putObj ((w:Nat)+1) (.loop (d (if f.isNone then .ready else .done) f)))/\
      (j.putObj ((w:Nat)+1) (.loop (d (if f.isNone then .ready else .done) f))).heap[(w:Nat)+1]? =some (.loop (d (if f.isNone then .ready else .done) f))/\
      (j.putObj ((w:Nat)+1) (.loop (d (if f.isNone then .ready else .done) f))).heap[(w:Nat)]? =some (.deferred (some []))/\aO (λk=>k=(w:Nat)+1) j (j.putObj ((w:Nat)+1) (.loop (d (if f.isNone then .ready else .done) f))):=λf j z=>by
     have ah:=(z.block _ bb av).trans ag;have ba:=(z.block _ oZ aq).trans a9;have:=run_endRound (P:=prog) f ah;rw[s]at this⊢;exact⟨this,World.putObj_heap_same (bT.1 ah).1,(World.putObj_heap_other oZ).trans ba,mY _ _ _⟩
    rintro e a3 j I;cases e with
    |normal=>
     obtain⟨X,z⟩:=I;obtain⟨ab,aa,Y,N⟩:=ad none j z;refine⟨_,_,ab,.inl ⟨rfl,⟨K _ _ _ X (N.mono λi _ e=>.inr e),aa,Y⟩,?_⟩⟩;exact((Z.mono λi _ e=>.inr e).trans (z.mono λi _ e=>.inl e)).trans (N.mono λi _ e=>.inr e)
    |ret=>
     obtain⟨X,z⟩:=I;obtain⟨ab,aa,Y,N⟩:=ad (some .ret) j z;exact⟨_,_,ab,.inr ⟨rfl,ae _ _ _ X (N.mono λi _ e=>.inr e),aa,Y⟩⟩
    |exit id=>exact I.elim
    |goto t=>exact I.elim
    |panic ak=>exact I.elim
    |outgrown=>exact I.elim
   |exit id=>exact H.elim
   |goto t=>exact H.elim
   |ret=>exact H.elim
   |panic ak=>exact H.elim
   |outgrown=>exact H.elim
  .exact T.bD (aO.bS af) (F:=λ_=>False) (λh=>h) (λh=>h) λ_ _ _ h=>h
  .rintro e n⟨⟨v,rfl⟩,(⟨hi,r,y⟩|⟨pre,bd,hi,r,y⟩)⟩
   .exact⟨none,_,by have:=run_endLoop (P:=prog) r (by rw[s];simp);rw[s]at this;exact this,a0 _ (K _ _ _ hi ((mY _ _ _).mono λi _ e=>.inr e)) ((World.putObj_heap_other oZ).trans y)⟩
   .exact⟨some .ret,_,by have:=run_endLoop (P:=prog) r (by rw[s];simp);rw[s]at this;exact this,wpIn_ret (bh pre _ bd (ae _ _ _ hi ((mY _ _ _).mono λi _ e=>.inr e)) ((World.putObj_heap_other oZ).trans y))⟩
end bM
variable{c:Cfg.C}{g:Nat}{v v1 x:Value}{w0:World}
namespace bM
open Go Go.RowKit L
theorem ajC:NW prog 3 (Value.int .i64):=asx kZ
theorem adH:∀w:World,(zeroValue 40).run prog w=.ok (.agg #[(),(),()]) w:=λw=>by obtain⟨i0,hi,a,_,_⟩:=info_parts KL;simp[zeroValue,typeInfo,hi,a]
abbrev zeroV:Value:=.agg #[(),(),()]
theorem aaO{b o:Nat}(h:w.cell? (b,o)=some x){a:Array MapEntry}(c:w.heap[b]? =some (.map a n)):False:=by unfold World.cell? at h;simp[c]at h
theorem QB{α:Type}{dec:α->List Value}{xs:List α}(r:∀x,∃v,(dec x)[0]? =some v)(n:gQ w0 A sz dec xs)(h:gQ W A sz dec xs)(k:aO F W W')(hF:∀b,F b->(w0:Nat)<=b\/∃f c,W.heap[b]? =some (.map f c)):gQ W' A sz dec xs:=λa=>by
 obtain⟨b,o,e,m,l⟩:=h a;obtain⟨y,H,d,z,_⟩:=n a;rw[e]at d;cases d;have u:¬F b:=λs=>by
  rcases hF b s with g|⟨f,c,g⟩
  .omega
  .obtain⟨x,t,rfl⟩:=List.exists_cons_of_ne_nil a;obtain⟨v,hv⟩:=r x;exact aaO (l 0 x rfl 0 v hv) g
 exact⟨b,o,e,aM m k.size,λi x w j v hv=>(k.cell (p:=⟨b,o+i*sz+j,none⟩) m u).trans (l i x w j v hv)⟩
theorem ND(n:bX w0 v c)(h:bX W v c)(k:aO F W W')(hF:∀b,F b->(w0:Nat)<=b\/∃m f,W.heap[b]? =some (.map m f)):bX W' v c:=by obtain⟨v1,v2,e,⟨A,ca,e1,r1,o⟩,⟨B,d,e2,r2,l2⟩⟩:=h;obtain⟨y,z,a,⟨s,u,g,p,_⟩,⟨B',w,i,r,_⟩⟩:=n;subst e1 e2 g i;rw[e]at a;simp only[Value.agg.injEq,eO,cB,Value.slice.injEq,true_and,and_true]at a;obtain⟨⟨j,_⟩,⟨l,_⟩⟩:=a;subst j l;exact⟨_,_,e,⟨A,ca,rfl,QB (λx=>⟨_,rfl⟩) p r1 k hF,o⟩,⟨B,d,rfl,QB (λx=>⟨_,rfl⟩) r r2 k hF,l2⟩⟩
structure nQ (w:World) (g mb:Nat) (v1 v2:Value) (aI aK:Int) (c:Cfg.C) (u:Led.U):Prop where
 box:iB w g v1 v2 aI aK
 ptr:w.cell? (g,4)=some (.map (some mb))
 cfg:bX w (.agg #[v1,v2,aI,aK]) c
 map:∃L,pY w mb (Value.int .i64) L/\∀n,(Go.Proofs.YtedmeglbjmdlhaaGreatDoor.L.nM n L).getD zeroV=(Led.dD c u n).val
theorem nQ.isMap{d:Nat}{aI:Int}{u:Led.U}(h:nQ w g d v1 v2 aI aK c u):∃b a,w.heap[d]? =some (.map b a):=by obtain⟨L,⟨b,a,e,_⟩,_⟩:=h.map;exact⟨b,a,e⟩
theorem nQ.mlt{a:Nat}{aI:Int}{u:Led.U}(h:nQ w g a v1 v2 aI aK c u):a<(w:Nat):=by obtain⟨L,b,_⟩:=h.map;exact b.lt
theorem nQ.ne{a:Nat}{aI:Int}{u:Led.U}(h:nQ w g a v1 v2 aI aK c u):g≠a:=λe=>by subst e;obtain⟨f,d,b⟩:=h.isMap;exact aaO h.ptr b
theorem nQ.bD{a:Nat}{aI:Int}{u:Led.U}(e:bX w0 (.agg #[v1,v2,aI,aK]) c)(h:nQ W g a v1 v2 aI aK c u)(k:aO F W W')(d:¬F g)(j:¬F a)(hF:∀b,F b->(w0:Nat)<=b):nQ W' g a v1 v2 aI aK c u:=by obtain⟨L,f,l⟩:=h.map;exact⟨h.box.bD k d,(k.cell (p:=⟨g,4,none⟩) h.box.1 d).trans h.ptr,ND e h.cfg k λb i=>.inl (hF b i),L,f.bD k j,l⟩
theorem nQ.on{a:Nat}{aI:Int}{u:Led.U}(h:nQ w g a v1 v2 aI aK c u)(b:Below w w w'):nQ w' g a v1 v2 aI aK c u:=
 h.bD (F:=λ_=>False) h.cfg (aO.bS b) (λh=>h) (λh=>h) (λ_ h=>h.elim)
theorem nQ.turn{a:Nat}{aI:Int}{u u':Led.U}(h:nQ w g a v1 v2 aI aK c u)(k:aO (λb=>b=a) w w'){L:List (Int×Value)}(d:pY w' a (Value.int .i64) L)(f:∀n,(Go.Proofs.YtedmeglbjmdlhaaGreatDoor.L.nM n L).getD zeroV=(Led.dD c u' n).val):nQ w' g a v1 v2 aI aK c u':=
 ⟨h.box.bD k h.ne,(k.cell (p:=⟨g,4,none⟩) h.box.1 h.ne).trans h.ptr,ND h.cfg h.cfg k λb e=>by subst e;exact .inr h.isMap,L,d,f⟩
def upd(u:Led.U)(x:Nat)(v:Vec.V):Led.U:=λi=>if i=x then v else u i
theorem anW(c:Cfg.C)(u:Led.U)(x:Nat)(v:Vec.V)(b:x<c.aP.length)(n:Int):Led.dD c (upd u x v) n=if n=(x:Int)then v else Led.dD c u n:=by
 unfold Led.dD upd;by_cases h:n=(x:Int)
 .subst h;rw[aG ⟨oZ,oZ⟩,aG rfl,Int.toNat_natCast,aG rfl]
 .rw[aD h];by_cases a:0<=n/\n<(c.aP.length:Int)
  .rw[aG a,aG a,aD oZ]
  .rw[aD a,aD a]
theorem acM(f:Vec.V->Vec.V)(u:Led.U)(xs:List Nat)(x:Nat)(h:x∉xs):Led.bump f u (xs++[x])=upd (Led.bump f u xs) x (f (u x)):=by
 funext i;unfold Led.bump upd;by_cases hi:i=x
 .subst hi;simp
 .simp[hi]
theorem afN(f:Vec.V->Vec.V)(u:Led.U)(xs:List Nat)(x:Nat)(h:x∉xs):Led.bump f u xs x=u x:=by unfold Led.bump;rw[aD h]
def avc(g mb:Nat)(v1 v2:Value)(aI aK:Int)(c:Cfg.C)(u':Led.U)(w:World)(e:Ending)(w':World):Prop:=e=.returned (.tuple #[])/\nQ w' g mb v1 v2 aI aK c u'/\aO (λk=>k=mb) w w'
theorem SC{o:Nat}{aI:Int}{u:Led.U}(h:nQ w g o v1 v2 aI aK c u)(x:Nat)(N:x<c.aP.length)(v:Vec.V):Calls prog 89 #[.pointer g,(x:Int),v.val] w λe w'=>avc g o v1 v2 aI aK c (upd u x v) w e w':=by
 have m:Below w w (w.alloc (.cells #[v.x,v.y,v.z] 40)):=bZ;have a:=h.on m;have I:oW (w.alloc (.cells #[v.x,v.y,v.z] 40)) (w:Nat) 0 v:=by refine⟨sZ,?_,?_,?_⟩<;>simp[go_sem]
 obtain⟨x0,b,d⟩:=v;simp only at m a I;show Calls prog 89 #[.pointer g,(x:Int),.agg #[x0,b,d]] w _;go_enter func89,ntmps89;generalize ad:w.alloc (.cells #[x0,b,d] 40)=wq at*;have p:=qZ a;have ae:=qZ I;have K:=qZ m;obtain⟨aa,Z,b1,b2,b3⟩:=a.box;have M:=a.ptr;obtain⟨A,r,c1,c2⟩:=I;simp only at r c1 c2;clear h a m Z b1 b2 b3;by_cases J:qE ⟨x0,b,d⟩ ⟨0,0,0⟩=true
 .have O:(⟨x0,b,d⟩:Vec.V)=Vec.zero:=by simp[qE]at J;exact Vec.V.ext' (by simp[Vec.zero];omega) (by simp[Vec.zero];omega) (by simp[Vec.zero];omega)
  obtain⟨L,i,l⟩:=p.map;obtain⟨w',H,j,f⟩:=i.cut ajC (t:=157) (et:=40) underlying157 (x:Int);have y:=qZ (p.turn (u':=upd u x ⟨x0,b,d⟩) f j (λn=>by
   obtain⟨_,_,_,_,ab⟩:=i;rw[OQ _ _ _ ab,anW c u x _ N];by_cases e:n=(x:Int)
   .rw[aG e,aG e,O];rfl
   .rw[aD e,aD e];exact l n))
  have s:=qZ ((aO.bS (F:=λk=>k=o) K).trans f);have af:=H 0 3;clear H j f i l O;go_wp2_with fail;refine bodyPost_ret (results_none rfl _ _ _) rfl ?_;exact⟨rfl,y.out,s.out⟩
 .have ag:qE ⟨x0,b,d⟩ ⟨0,0,0⟩=false:=by simpa using J
  have Q:=λW (k:aF wq W)=>k.cell aa M;have T:=λW (k:aF wq W)=>k.cell A r;have X:=λW (k:aF wq W)=>k.cell A c1;have Y:=λW (k:aF wq W)=>k.cell A c2;clear J;go_wp2_with fail;clear M r c1 c2 ad;refine lF 6 kZ kZ ?_;simp only[List.take_succ_cons,List.take_zero,bH,bJ];(repeat refine kY ?_);refine eH ?_;intro W z;clear Q T X Y;have a:=p.on z;obtain⟨L,i,l⟩:=a.map;obtain⟨w',H,j,f⟩:=i.put ajC (t:=157) (et:=40) underlying157 (x:Int) (.agg #[x0,b,d]);have y:=qZ (a.turn (u':=upd u x ⟨x0,b,d⟩) f j (λn=>by
   rw[IG,anW c u x _ N];by_cases e:n=(x:Int)
   .rw[aG e,aG e];rfl
   .rw[aD e,aD e];exact l n))
  have s:=qZ ((aO.bS (F:=λk=>k=o) (aA K z)).trans f);clear i l j f a z;go_wp2_with fail
  go_end0
  exact⟨rfl,y.out,s.out⟩
theorem atu(v1 v2:Value)(aI aK t:Int)(w:World):Calls prog 88 #[.agg #[v1,v2,aI,aK],t] w λe w'=>e=.returned (.func (.func 149) #[] #[.pointer (some ⟨(w:Nat)+1,0,none⟩),.pointer w])/\w'=(w.alloc (.cells #[v1,v2,aI,aK] 26)).alloc (.cells #[t] 3):=by go_enter func88,ntmps88;go_wp2_with fail;go_ret;exact⟨rfl,rfl⟩
attribute [local go_sem] Oper.semAt_some
def HZ(n:Int)(g mb:Nat)(v1 v2:Value)(aI aK:Int)(c:Cfg.C)(u':Led.U)(w:World)(e:Ending)(w':World):Prop:=e=.returned n/\nQ w' g mb v1 v2 aI aK c u'/\aO (λk=>k=mb) w w'
theorem anL{m:Nat}{aI:Int}{u:Led.U}(h:nQ w g m v1 v2 aI aK c u)(t:Int)(l:iC c t=false)(v:Vec.V)(d:FuncId):Calls prog 38 #[.pointer g,t,v.val,.func (.func d) #[] #[]] w λe w'=>HZ 3 g m v1 v2 aI aK c u w e w':=by obtain⟨x0,n,o⟩:=v;have H:=qZ h;have a:=vZ h.cfg t;rw[l]at a;have p:=qZ a;obtain⟨x,r,b1,b2,b3⟩:=h.box;have z:∀k,¬g=(w:Nat)+k:=λk e=>oZ;clear h a l;show Calls prog 38 #[.pointer g,t,.agg #[x0,n,o],.func (.func d) #[] #[]] w _;have b:Below w w (((w.alloc (.cells #[.pointer g] 93)).alloc (.cells #[x0,n,o] 40)).alloc (.cells #[.func (.func d) #[] #[]] 96)):=kp;have i:=qZ b;obtain⟨y,s,c1,c2,c3⟩:=H.box.on b;clear b r b1 b2 b3;go_enter func38,ntmps38;go_wp2_with fail;refine(p _ i).mono ?_;rintro e A⟨rfl,j⟩;have f:=qZ (aA i j);clear j s c1 c2 c3;go_wp2_with fail;go_ret;exact⟨rfl,H.on f,aO.bS f⟩
theorem ako{I:Nat}{aI:Int}{u:Led.U}(h:nQ w g I v1 v2 aI aK c u)(t:Int)(Q:iC c t=true)(v:Vec.V)(d:FuncId)(f:Vec.V->Vec.V->Vec.V)(bh:∀a b,bW prog d #[a.val,b.val] (f a b).val)(af:∀(a:Array Value) (W:World),(callFunc d a).run prog W=.ok (.enter d a) W):Calls prog 38 #[.pointer g,t,v.val,.func (.func d) #[] #[]] w λe w'=>HZ 0 g I v1 v2 aI aK c (Led.bump (λa=>f a v) u (Tree.up c t)) w e w':=by
 have H:=qZ h;have ak:=vZ h.cfg t;rw[Q]at ak;have az:=qZ ak;have bl:=rF Q;obtain⟨x0,r,s⟩:=v;have a8:=qZ bh;have bs:=qZ af;obtain⟨cm,cd,b1,b2,b3⟩:=h.box;clear ak Q bh af;show Calls prog 38 #[.pointer g,t,.agg #[x0,r,s],.func (.func d) #[] #[]] w _;have ae:Below w w (((w.alloc (.cells #[.pointer g] 93)).alloc (.cells #[x0,r,s] 40)).alloc (.cells #[.func (.func d) #[] #[]] 96)):=kp;have Z:=qZ ae;obtain⟨am,ah,c1,c2,c3⟩:=H.box.on ae;clear ae cd b1 b2 b3 h;refine(callsIn_wide (n:=0)).1 (callsIn_of_wp_marks func38 rfl trivial (wpIn_wide.2 ?_));simp only[ntmps38,gB,List.length_cons,List.length_nil,Nat.reduceAdd,Nat.reduceSub,lS,Array.replicate_zero,List.push_toArray,fH,List.nil_append,List.cons_append];have T:(((w.alloc (.cells #[.pointer g] 93)).alloc (.cells #[x0,r,s] 40)).alloc (.cells #[.func (.func d) #[] #[]] 96)).cell? (w,0)=some (.pointer g):=by simp[go_sem]
 have X:oW (((w.alloc (.cells #[.pointer g] 93)).alloc (.cells #[x0,r,s] 40)).alloc (.cells #[.func (.func d) #[] #[]] 96)) ((w:Nat)+1) 0 ⟨x0,r,s⟩:=by refine⟨sZ,?_,?_,?_⟩<;>simp[go_sem]
 have Y:(((w.alloc (.cells #[.pointer g] 93)).alloc (.cells #[x0,r,s] 40)).alloc (.cells #[.func (.func d) #[] #[]] 96)).cell? ((w:Nat)+1+1,0)=some (.func (.func d) #[] #[]):=by simp[go_sem]
 generalize bp:((w.alloc (.cells #[.pointer g] 93)).alloc (.cells #[x0,r,s] 40)).alloc (.cells #[.func (.func d) #[] #[]] 96)=av at*;have da:(av:Nat)=(w:Nat)+3:=by rw[<-bp];simp
 have aa:=qZ (aC T (aC X Y));clear X Y;go_wp2_with fail;refine(az _ Z).mono ?_;rintro e j⟨rfl,M⟩;have a5:=qZ M;have a0:=qZ (H.on (aA Z M));clear ah c1 c2 c3 T bp am az;obtain⟨cy,ah,c1,c2,c3⟩:=a0.box;have T:CV j w 0 (.pointer g):=(M.cell (p:=⟨w,0,none⟩) (by show(w:Nat)<(av:Nat);omega)).trans aa.1;have X:=qZ (aa.2.1.on M);have Y:=qY (j.cell? ((w:Nat)+1+1,0)=some (.func (.func d) #[] #[])) ((M.cell (p:=⟨(w:Nat)+1+1,0,none⟩) (by show(w:Nat)+1+1<(av:Nat);omega)).trans aa.2.2);have db:(w:Nat)+3<=(j:Nat):=by have:=M.size;omega
 clear M;go_wp2_with fail;refine(atu v1 v2 aI aK t j).mono ?_;rintro e di⟨rfl,rfl⟩;go_wp2_with fail;obtain⟨dg,dh,ai,⟨A,ca,e1,ap,cp⟩,_⟩:=H.cfg;have bc:v1=.slice A c.aP.length ca:=by simp only[Value.agg.injEq,eO,cB,and_true]at ai;rw[ai.1,e1]
 have bn:c.aP≠[]:=λe=>by rw[e]at bl;simp at bl;omega
 obtain⟨ce,de,bb,cx,bg⟩:=ap bn;have ci:ce≠I:=λe=>by obtain⟨x,df,cg⟩:=List.exists_cons_of_ne_nil bn;obtain⟨cw,cv,an⟩:=H.isMap;subst e;exact aaO (bg 0 x (by rw[cg];rfl) 0 _ rfl) an
 have c0:I<(w:Nat):=H.mlt;have O:Below j j ((j.alloc (.cells #[v1,v2,aI,aK] 26)).alloc (.cells #[t] 3)):=kp;have bf:xO ((j.alloc (.cells #[v1,v2,aI,aK] 26)).alloc (.cells #[t] 3)) ((j:Nat)+1) (j:Nat) A c.aP.length ca v2 aI aK c.aP t:=by refine⟨by simp[go_sem],by simp[go_sem],sZ,?_,ap.below (aA (aA Z a5) O)⟩;rw[<-bc];exact(iB.new j v1 v2 aI aK).on (bZ)
 have dc:((j.alloc (.cells #[v1,v2,aI,aK] 26)).alloc (.cells #[t] 3)).heap.size=(j:Nat)+2:=sZ;generalize(j.alloc (.cells #[v1,v2,aI,aK] 26)).alloc (.cells #[t] 3)=K at*;have bd:=H.cfg;have cz:g<(w:Nat):=cm;have bv:=qZ (a0.on O);have b9:=qZ ((O.cell (p:=⟨w,0,none⟩) (by show(w:Nat)<(j:Nat);omega)).trans T);have cb:=qZ (X.out.on O);have cc:=qZ ((O.cell (p:=⟨(w:Nat)+1+1,0,none⟩) (by show(w:Nat)+1+1<(j:Nat);omega)).trans Y.out);have cs:=qZ (aA (aA Z a5) O);clear ah c1 c2 c3 T X Y e1 ai bc bg ap aa;refine(wpIn_wide (n:=0)).1 (apb c cp t rfl rfl bf oZ (λb o e=>by rw[bb]at e;cases e;omega) (λk=>k=I) oZ oZ (λb o e=>by rw[bb]at e;cases e;exact ci) oZ oZ
  (λpre W=>nQ W g I v1 v2 aI aK c (Led.bump (λa=>f a ⟨x0,r,s⟩) u pre)/\aO (λk=>k=I\/k=(j:Nat)+1\/(K:Nat)<=k) K W) (λ_ _=>False)
  (λpre W W' ⟨ch,h2⟩ k=>⟨ch.bD bd k oZ oZ λb ae=>oZ,h2.trans (k.mono λi _ e=>oZ)⟩)
  (λ_ _ _ h _=>h.elim)
  (λW N=>⟨by rw[afO];exact bv.on N,aO.bS N⟩)
  ?round ?done (λ_ _ _ h=>h.elim))
 case round=>
  intro l m pre x rest W Q ao cn cl;gi_wp2;refine⟨trivial,λJ ⟨ad,hk2⟩ axv hlt2=>?_⟩;have ct:x<c.aP.length:=(XQ c t x (by rw[ao];simp)).1;have bq:x∉pre:=λan=>by have bm:=adK c t;rw[ao,iW]at bm;exact bm.2.2 x an x sZ rfl
  have ba:=qZ (acM (λa=>f a ⟨x0,r,s⟩) u pre x bq);have aq:Led.dD c (Led.bump (λa=>f a ⟨x0,r,s⟩) u pre) (x:Int)=u x:=by unfold Led.dD;rw[aG ⟨oZ,oZ⟩,Int.toNat_natCast,afN _ _ _ _ bq]
  have ab:=a8.out (u x) ⟨x0,r,s⟩;obtain⟨y,ar⟩:=nZ (u x);obtain⟨aw,ax,ay⟩:=y;rw[ar]at ab aq;have a9:=qZ ad;have br:CV J w 0 (.pointer g):=(hk2.cell (p:=⟨w,0,none⟩) (by show(w:Nat)<(K:Nat);omega) (by show¬((w:Nat)=I\/(w:Nat)=(j:Nat)+1\/(K:Nat)<=(w:Nat));omega)).trans b9;have r1:=cb.bD hk2 oZ;have r2:CV J ((w:Nat)+1+1) 0 (.func (.func d) #[] #[]):=(hk2.cell (p:=⟨(w:Nat)+1+1,0,none⟩) (by show(w:Nat)+1+1<(K:Nat);omega) (by show¬((w:Nat)+1+1=I\/(w:Nat)+1+1=(j:Nat)+1\/(K:Nat)<=(w:Nat)+1+1);omega)).trans cc;obtain⟨am,-,-,-,-⟩:=ad.box;have bo:=ad.ptr;have dd:(w:Nat)+2<(J:Nat):=oZ;have bz:=λW' (k:aF J W')=>k.cell (b:=(w:Nat)) oZ br;have b0:=λW' (k:aF J W')=>k.cell (b:=(w:Nat)+1+1) oZ r2;have b4:=λW' (k:aF J W')=>k.cell r1.1 r1.2.1;have b5:=λW' (k:aF J W')=>k.cell r1.1 r1.2.2.1;have b6:=λW' (k:aF J W')=>k.cell r1.1 r1.2.2.2;have b7:=λW' (k:aF J W')=>k.cell am bo;have b8:∀W',aF J W'->(Instr.lookup 157 (.map (some I)) (.int .i64 (x:Int)) false).run prog W'=.ok (.agg #[aw,ax,ay]) W':=λW' k=>by obtain⟨L,cj,cr⟩:=(a9.on k).map;have:=(cj.look ajC (t:=157) (et:=40) underlying157 adH (x:Int)).2;rw[cr,aq]at this;exact this
  have af:=bs.out;obtain⟨z,au⟩:=nZ (f ⟨aw,ax,ay⟩ ⟨x0,r,s⟩);rw[au]at ab;have bw:=qY (Led.bump (λa=>f a ⟨x0,r,s⟩) u (pre++[x])=upd (Led.bump (λa=>f a ⟨x0,r,s⟩) u pre) x z) (by rw[ba.out,ar,au]);obtain⟨z0,z1,z2⟩:=z;have aj:bW prog d #[.agg #[aw,ax,ay],.agg #[x0,r,s]] (.agg #[z0,z1,z2]):=ab;clear aq ab ar ba br r1 r2 bo cn cl axv ao ad au Q bf a8;gi_wp2;refine yN 11 (λ⟨_,_,h⟩=>by cases h) kZ kZ kZ ?_;simp only[List.take_succ_cons,List.take_zero,bH,bJ];(repeat refine kY ?_);refine kM ?_ (h:=by intro W N;go_simp;first|exact Go.Proofs.YtedmeglbjmdlhaaGreatDoor.L.bW.up aj N|exact⟨N,Go.Proofs.YtedmeglbjmdlhaaGreatDoor.L.bW.up aj N⟩);(repeat refine kY ?_);refine eH ?_;intro cu al;have cq:=qZ (SC (a9.on al) x ct ⟨z0,z1,z2⟩);have bu:=qZ al;clear bz b0 b4 b5 b6 b7 b8 af aj al;go_wp2_with fail;refine cq.out.mono ?_;rintro e ag⟨rfl,be,bi⟩;have bt:=qY ((nQ ag g I v1 v2 aI aK c (Led.bump (λa=>f a ⟨x0,r,s⟩) u (pre++[x]))/\aO (λk=>k=I\/k=(j:Nat)+1\/(K:Nat)<=k) K ag)/\aO (λk=>k=I) J ag) (by have bj:aO (λk=>k=I) J ag:=(aO.bS bu).trans bi;exact⟨⟨by rw[bw.out];exact be,hk2.trans (bj.mono λi _ e=>.inl e)⟩,bj⟩);clear be bi hk2;go_wp2_with fail;exact bt
 case done=>rintro W⟨ck,co⟩ hD;go_wp2_with fail;have bk:=mY W (K:Nat) (.deferred none);refine⟨sZ,.inl ⟨_,_,rfl,run_takeDeferred hD,?_⟩⟩;refine⟨_,results_tmp rfl _ _ _,rfl,ck.bD bd bk oZ oZ λb e=>oZ,?_⟩;exact((aO.bS (F:=λk=>k=I) cs.out).trans' co λi hi e=>oZ).trans' bk λi hi e=>oZ
theorem agP{j:Nat}{aI:Int}{u:Led.U}(h:nQ w g j v1 v2 aI aK c u)(t:Int)(v:Vec.V)(d:FuncId)(f:Vec.V->Vec.V->Vec.V)(l:∀a b,bW prog d #[a.val,b.val] (f a b).val)(k:∀(a:Array Value) (W:World),(callFunc d a).run prog W=.ok (.enter d a) W):Calls prog 38 #[.pointer g,t,v.val,.func (.func d) #[] #[]] w λe w'=>HZ (xL c t) g j v1 v2 aI aK c (Led.change c u t λa=>f a v) w e w':=by
 unfold xL Led.change;by_cases i:iC c t=true
 .rw[aG i,aG i];exact ako h t i v d f l k
 .rw[aD i,aD i];exact anL h t (by simpa using i) v d
def kE(f:Nat->Vec.V)(n k:Nat):List Vec.V:=(List.range n).map λi=>if i<k then f i else Vec.zero
theorem DY(f:Nat->Vec.V)(n k:Nat):(kE f n k).length=n:=by simp[kE]
theorem agZ(f:Nat->Vec.V)(n:Nat):kE f n 0=List.replicate n Vec.zero:=by apply gL;intro i;by_cases h:i<n<;>simp[kE,h]
theorem ajU(f:Nat->Vec.V)(n:Nat):kE f n n=(List.range n).map f:=by apply gL;intro i;by_cases h:i<n<;>simp[kE,h]
theorem ajT(f:Nat->Vec.V)(n k:Nat)(h:k<n):(kE f n k).set k (f k)=kE f n (k+1):=by
 apply gL;intro i;by_cases hi:i=k
 .subst hi;rw[iZ (by rw[DY];exact h)];simp[kE,h]
 .rw[jK (Ne.symm hi)];by_cases a:i<n
  .have:(i<k+1)=(i<k):=by simp;omega
   simp[kE,a,this]
  .simp[kE,a]
def AllEnd(l:List Vec.V)(w:World)(e:Ending)(w':World):Prop:=∃v,e=.returned v/\iN w' (w:Nat) v l/\Below w w w'
theorem apS{aa:Nat}{aI:Int}{u:Led.U}(h:nQ w g aa v1 v2 aI aK c u)(W:c.aP.length<=1000000):Calls prog 41 #[.pointer g] w λe w'=>AllEnd (Led.all c u) w e w':=by
 have H:=qZ h;have af:=h.box.1;have s:=h.box.2.1;obtain⟨ao,ap,j,⟨A,ca,e1,Z,X⟩,_⟩:=h.cfg;have l:v1=.slice A c.aP.length ca:=by simp only[Value.agg.injEq,eO,cB,and_true]at j;rw[j.1,e1]
 obtain⟨N,m⟩:=nZ c.aP.length;have o:=qZ m;rw[m]at l W;rw[l]at s;obtain⟨aq,Y,M,F,ak⟩:=JA w N oZ;have T:=qZ M;have Q:=qZ F;clear h X Z e1 j M F m l;go_enter func41,ntmps41;go_wp2_with fail;clear Y s;go_loopw [16] (λi wr=>∃k:Nat,i=.int .i64 (k:Int)/\k<=N/\iN wr (w:Nat) (.slice w N N) (kE u N k)/\Below w w wr) (λi _=>N-(intOf i).toNat);case atStart=>exact⟨0,rfl,oZ,by rw[agZ];exact T,Q⟩
 case round=>
  obtain⟨k,rfl,ai,a,b⟩:=hrel
  rename World=>wr
  by_cases n:k<N
  .have f:=H.on b;obtain⟨L,v,K⟩:=f.map;have J:=(v.look ajC (t:=157) (et:=40) underlying157 adH (k:Int)).2;have x:Led.dD c u (k:Int)=u k:=by unfold Led.dD;rw[aG ⟨oZ,by rw[o.out];omega⟩,Int.toNat_natCast]
   rw[K,x]at J;have aj:=f.ptr;have ag:=f.box.1;obtain⟨-,-,ah,al,am,an⟩:=a.dD (i:=k) (by rw[DY];exact n);have d:=a.ok;have p:=qZ (a.set k (u k));rw[ajT u N k n]at p;have r:=qZ (EN (w0:=w) b lZ (k*3) (u k));unfold wW at r;have ab:=d (k*3);have ad:=d (k*3+1);have ae:=d (k*3+2);generalize u k=y at*;obtain⟨ar,au,av⟩:=y;simp only[Vec.V.val]at J;have I:k<(kE u N k).length:=by rw[DY];exact n
   generalize(kE u N k)[k]'I=z at*;clear v K x f a d b I;go_wp2_with fail;go_roundw;case rel=>exact⟨k+1,mZ,oZ,p,r⟩
   case measure=>simp[intOf];omega
  .have O:=qY (AllEnd (Led.all c u) w (.returned (.slice w N N)) wr) (⟨_,rfl,by have e:k=N:=oZ;subst e;rw[ajU]at a;unfold Led.all;rw[o.out];exact a,b⟩);clear a b;go_wp2_with fail;go_ret;exact O
theorem flat_get{α:Type}{dec:α->List Value}(a:∀x,(dec x).length=sz):∀(xs:List α) (i:Nat) (x:α),xs[i]? =some x->∀j v,(dec x)[j]? =some v->(xs.flatMap dec)[i*sz+j]? =some v
 |[],i,x,h=>by simp at h
 |y::l,0,x,h=>λj v hv=>by simp at h;subst h;rw[dL,lX,aU,dG (bE.1 hv).1];exact hv
 |y::l,i+1,x,h=>λj v hv=>by rw[dL,dI (by rw[a,Nat.succ_mul];omega),a,show(i+1)*sz+j-sz=i*sz+j by rw[Nat.succ_mul];omega];exact flat_get a l i x (by simpa using h) j v hv
theorem aaZ{α:Type}{dec:α->List Value}(a:∀x,(dec x).length=sz):∀(xs:List α) (j:Nat) (u:Value),(xs.flatMap dec)[j]? =some u->∃i x k,j=i*sz+k/\xs[i]? =some x/\(dec x)[k]? =some u
 |[],j,u,h=>by simp at h
 |y::l,j,u,h=>by
  rw[dL]at h;by_cases b:j<sz
  .rw[dG (by rw[a];exact b)]at h;exact⟨0,y,j,oZ,rfl,h⟩
  .rw[dI (by rw[a];omega),a]at h;obtain⟨i,x,k,e,d,c⟩:=aaZ a l (j-sz) u h;exact⟨i+1,x,k,by rw[Nat.succ_mul];omega,by simpa using d,c⟩
theorem afq{α:Type}{dec:α->List Value}(a:∀x,(dec x).length=sz):∀(xs:List α),(xs.flatMap dec).length=xs.length*sz
 |[]=>sZ
 |y::l=>by rw[dL,aW,a,afq a l,List.length_cons,Nat.succ_mul];omega
theorem ML(x:kL):(oP x).length=11:=rfl
theorem apE:(prog.info? 66).map (λi=>(i.zero,i.size,i.bytes))=some (some (.agg #[(),(),(),(),(),(),(),(),(),(),()]),11,88):=by kernel_rfl
theorem akk{xs:List kL}(h:Nodes w v xs)(W:xs.length<=1000000):∃A c w',(Builtin.append_ #[23,23] 23 #[true,v]).run prog w=.ok (.slice A xs.length c) w'/\Nodes w' (.slice A xs.length c) xs/\Below w w w'/\(∀b o,A=some ⟨b,o,none⟩->(w:Nat)<=b/\b<w'.heap.size):=by
 obtain⟨i0,hi,N,O,Q⟩:=info_parts apE;obtain⟨A,ca,rfl,F,l⟩:=h;cases A with
 |none=>
  have a:xs=[]:=by
   by_cases e:xs=[]
   .exact e
   .obtain⟨b,o,f,_⟩:=F e;cases f
  subst a;refine⟨none,0,w,?_,⟨none,0,rfl,λe=>absurd rfl e,l⟩,aJ _ _,λb o e=>by cases e⟩;simp[Builtin.append_,run_underlying underlying23,sizeOf,typeInfo,hi,Builtin.lenOf,Builtin.firstCells]
 |some I=>
  obtain⟨v',w',H,n,K,_,T⟩:=run_append_own_at (P:=prog) w (w:Nat) 23 23 66 i0 _ 11 88 underlying23 hi N O Q rfl oZ (.slice none 0 0) 0 [] (World.ownsRow_nil w (w:Nat) _ 11) I xs.length ca (xs.flatMap oP) (afq ML xs)
   (λj u p=>by
    obtain⟨i,x,k,e,a,d⟩:=aaZ ML xs j u p;obtain⟨b,o,f,_,s⟩:=F (by intro e;subst e;simp at a);cases f;have:=s i x a k u d;have e2:(⟨b,o,none⟩:Addr).add j=⟨b,o+j,none⟩:=by cases j<;>simp[Addr.add]
    rw[e2,e,<-iQ];exact this)
   (λu p=>by obtain⟨j,L,rfl⟩:=jR p;obtain⟨i,x,k,e,a,d⟩:=aaZ ML xs j _ (aH L);have m:=gG d;generalize(xs.flatMap oP)[j]=y at*;simp only[oP,bA,dS,or_false]at m;rcases m with rfl|rfl|rfl|rfl|rfl|rfl|rfl|rfl|rfl|rfl|rfl<;>rfl) (by unfold maxLen;omega) oZ lZ
  rw[List.nil_append,aU]at n;have r:Below w w w':=(aJ _ _).grown K lZ (λk d=>by cases d);rcases n.2 with⟨rfl,a⟩|⟨g,cap,cur,rfl,J,z,s,m,_⟩
  .have M:xs=[]:=fM a;subst M;exact⟨none,0,w',H,⟨none,0,rfl,λe=>absurd rfl e,l⟩,r,λb o e=>by cases e⟩
  .refine⟨some ⟨g,0,none⟩,cap,w',H,⟨_,_,rfl,λX=>⟨g,0,rfl,(bT.1 z).1,λi x a j v hv=>?_⟩,l⟩,r,λb o e=>by cases e;exact⟨J,(bT.1 z).1⟩⟩;have:=World.ownsRow.cells n (g:=g) rfl (i*11+j) v (flat_get ML xs i x a j v hv);rw[addr_add]at this;rw[aU];exact this
def atl(v2:Value)(aI aK:Int)(c:Cfg.C)(w:World)(e:Ending)(w':World):Prop:=∃g mb A ca,e=.returned (.pointer (some ⟨g,0,none⟩))/\nQ w' g mb (.slice A c.aP.length ca) v2 aI aK c Led.none_/\(w:Nat)<=g/\(w:Nat)<=mb/\Below w w w'/\(∀b o,A=some ⟨b,o,none⟩->(w:Nat)<=b/\b<(w':Nat))
def ave(v2:Value)(aI aK:Int)(c:Cfg.C)(w:World)(e:Ending)(w':World):Prop:=∃g mb v1,e=.returned (.pointer (some ⟨g,0,none⟩))/\nQ w' g mb v1 v2 aI aK c Led.none_/\(w:Nat)<=g/\(w:Nat)<=mb/\Below w w w'
theorem apI{aI:Int}(F:bX w (.agg #[v1,v2,aI,aK]) c)(aq:c.aP.length<=1000000):∀w1,Below w w w1->Calls prog 37 #[.agg #[v1,v2,aI,aK]] w1 λe w'=>atl v2 aI aK c w1 e w':=by
 intro w1 ad;replace F:=F.below ad;clear ad;obtain⟨bg,bh,X,aa,u⟩:=F;simp only[Value.agg.injEq,eO,cB,Value.int.injEq,true_and,and_true]at X;obtain⟨rfl,rfl,rfl,rfl⟩:=X;have f:Below w1 w1 (w1.alloc (.cells #[v1,v2,c.aI,c.aK] 26)):=bZ;have z:=iB.new w1 v1 v2 c.aI c.aK;have m:∀j,(w1.alloc (.cells #[v1,v2,c.aI,c.aK] 26)).frozen? ⟨(w1:Nat),j,none⟩=false:=λj=>by simp[go_sem]
 obtain⟨A,ca,a,I,ab,d,Y⟩:=akk (aa.below f) aq;have al:=qZ u;have J:=qZ Y;clear Y;obtain⟨r,s,aj,_,_⟩:=aa;subst aj;have Z:=u.below (aA f d);obtain⟨aI,H⟩:=nZ c.aI;obtain⟨aK,y⟩:=nZ c.aK;have K:=qZ (aC H y);rw[H,y]at I f d z m⊢;obtain⟨N,v⟩:=nZ c.aP.length;have M:=qZ v;have O:=qZ ab;have af:=qZ Z;rw[v]at I O z f d m⊢;clear H y v ab Z u;go_enter func37,ntmps37;generalize bf:w1.alloc (.cells #[.slice r N s,v2,aI,aK] 26)=wq at*;obtain⟨i,x0,ay,az,a0⟩:=z;have a8:CV a w1 0 (.slice r N s):=(d.cell (p:=⟨w1,0,none⟩) i).trans x0;have c1:CV a w1 1 v2:=(d.cell (p:=⟨w1,1,none⟩) i).trans ay;have c2:CI a w1 2 aI:=(d.cell (p:=⟨w1,2,none⟩) i).trans az;have c3:CI a w1 3 aK:=(d.cell (p:=⟨w1,3,none⟩) i).trans a0;have bb:a.frozen? (w1,0)=false:=(d.frozen (p:=⟨w1,0,none⟩) i).trans (m 0);have be:(w1:Nat)<(a:Nat):=aM i d.size;have ah:=qZ d;have ag:=qZ f;have bd:= @run_makeMap prog;clear d f m;go_wp2_with(at_builtin;refine dJ rfl (.const (.slice none 0 0)) (.tmp 4) _ _ rfl (.slice none 0 0) (.slice r N s) rfl rfl I ?_);refine bodyPost_ret (results_tmp rfl _ _ _) rfl ?_;have ae:aO (λk=>k=(w1:Nat)) a (a.setCell (w1,0) (.slice A N ca)):=(aO.refl (λk=>k=(w1:Nat)) a).setCell (p:=⟨w1,0,none⟩) (.inl rfl) _;have an:Below w1 w1 (a.setCell (w1,0) (.slice A N ca)):=(aA ag ah).setCell (p:=⟨w1,0,none⟩) lZ _;have g:(a.setCell (w1,0) (.slice A N ca)).heap.size=(a:Nat):=sZ;obtain⟨a5,a9,Q,ar,ao⟩:=O.out;simp only[Value.slice.injEq]at Q;obtain⟨ak,-,-⟩:=Q;subst ak;have au:gQ (a.setCell (w1,0) (.slice A N ca)) A 11 oP c.aP:=VJ ar ae (λb o e=>by have:=(J b o e).1;simp at this;omega);obtain⟨B,ai,T,av,ap⟩:=af.out;obtain⟨B',ba,W,aw,_⟩:=al.out;rw[T]at W;cases W;have ax:gQ (a.setCell (w1,0) (.slice A N ca)) B 6 hdec c.aQ:=QB (λx=>⟨_,rfl⟩) aw av ae (λb e=>.inl oZ);generalize a.setCell (w1,0) (.slice A N ca)=wA at*;have am:=pY.new wA (Value.int .i64);have l:Below wA wA ((wA.alloc (.map #[] 0)).alloc (.cells #[.slice A N ca,v2,aI,aK,.map (some (a:Nat))] 159)):=kp;refine⟨(a:Nat)+1,(a:Nat),A,ca,rfl,?_,oZ,oZ,aA an l,λb o e=>by have:=J.out b o e;have bc:=l.size;simp at this;omega⟩;rw[M.out];refine⟨⟨by simp;omega,?_,?_,?_,?_⟩,?_,?_,[],?_,λn=>?_⟩
 .rw[<-g];simp[go_sem]
 .rw[<-g];simp[go_sem]
 .rw[<-g];simp[go_sem]
 .rw[<-g];simp[go_sem]
 .rw[<-g];simp[go_sem]
 .refine⟨_,v2,by rw[K.out.1,K.out.2],⟨A,ca,by rw[M.out],au.below l,ao⟩,⟨B,ai,T,ax.below l,ap⟩⟩
 .rw[<-g];exact am.on (bZ)
 .simp[nM,Led.dD,Led.none_,Vec.V.val,Vec.zero]
theorem aaP{aI:Int}(b:bX w (.agg #[v1,v2,aI,aK]) c)(d:c.aP.length<=1000000):∀w1,Below w w w1->Calls prog 37 #[.agg #[v1,v2,aI,aK]] w1 λe w'=>ave v2 aI aK c w1 e w':=λw1 a=>
 (apI b d w1 a).mono λe w' ⟨g,mb,A,ca,h1,h2,h3,h4,h5,_⟩=>⟨g,mb,_,h1,h2,h3,h4,h5⟩
end bM
variable{vr:Value}
namespace Led
open Go.Proofs.YtedmeglbjmdlhaaGreatDoor
def sI(c:Cfg.C)(l:List (Int×Vec.V)):Nat->U
 |0=>none_
 |k+1=>change c (sI c l k) (l.getD k (0,⟨0,0,0⟩)).1 (λa=>Vec.add a (l.getD k (0,⟨0,0,0⟩)).2)
end Led
namespace bM
open Go Go.RowKit L
def needs(rs:List Run):List (Int×Vec.V):=rs.map λr=>(r.dN,Vec.mM r.need r.eU)
theorem acd(c:Cfg.C)(rs:List Run)(k:Nat)(h:k<rs.length):sI c (needs rs) (k+1)=Led.change c (sI c (needs rs) k) rs[k].dN (λa=>Vec.add a (Vec.mM rs[k].need rs[k].eU)):=by
 have e:(needs rs).getD k (0,⟨0,0,0⟩)=(rs[k].dN,Vec.mM rs[k].need rs[k].eU):=by rw[aL,aH (by simp[needs];exact h),Option.getD_some];simp[needs]
 show Led.change c _ ((needs rs).getD k _).1 _=_;rw[e]
theorem aaX(a b p:Int)(v:Vec.V)(d e f:Int):bW prog 39 #[.agg #[a,b,p,v.x,v.y,v.z,d,e,f]] (Vec.mM v p).val:=by
 intro w;have m:=jN.auj v p;obtain⟨x0,g,i⟩:=v;generalize Vec.mM ⟨x0,g,i⟩ p=y at*;obtain⟨s,u,x⟩:=y;have z:Hid (bW prog 90 #[.agg #[x0,g,i],p] (.agg #[s,u,x])):=qZ m;clear m;simp only[Vec.V.val];have r:oW ((w.alloc (.cells #[a,b,p,x0,g,i,d,e,f] 42)).alloc (.cells #[(),(),()] 40)) ((w:Nat)+1) 0 ⟨0,0,0⟩:=by refine⟨sZ,?_,?_,?_⟩<;>simp[go_sem]
 have o:∀j,((w.alloc (.cells #[a,b,p,x0,g,i,d,e,f] 42)).alloc (.cells #[(),(),()] 40)).frozen? ⟨(w:Nat)+1,j,none⟩=false:=λj=>by simp[go_sem]
 have n:Below w w ((w.alloc (.cells #[a,b,p,x0,g,i,d,e,f] 42)).alloc (.cells #[(),(),()] 40)):=kp;have I:((w.alloc (.cells #[a,b,p,x0,g,i,d,e,f] 42)).alloc (.cells #[(),(),()] 40)).heap.size=(w:Nat)+2:=sZ;have F:=qZ r;have k:=qZ o;have H:=qZ n;clear r o n;go_enter func39,ntmps39;go_wp2_with fail;refine(z _).mono ?_;rintro e N⟨rfl,c⟩;obtain⟨M,l,c1,c2⟩:=F.on c;simp only[aU]at l c1 c2;have J:=(c.frozen (p:=⟨(w:Nat)+1,0,none⟩) (by show(w:Nat)+1<_;omega)).trans (k 0);have K:=(c.frozen (p:=⟨(w:Nat)+1,1,none⟩) (by show(w:Nat)+1<_;omega)).trans (k 1);have L:=(c.frozen (p:=⟨(w:Nat)+1,2,none⟩) (by show(w:Nat)+1<_;omega)).trans (k 2);have A:=qZ (aA H c);clear c I;go_wp2_with fail;exact bodyPost_ret (v:=.agg #[s,u,x]) (by simp[results,Tryz.results39,go_sem,l,c1,c2]) rfl ⟨rfl,by have:=A.out;exact kp⟩
def aaw(l:List Vec.V)(w:World)(e:Ending)(w':World):Prop:=∃v,e=.returned v/\iN w' (w:Nat) v l/\Below w w w'
theorem AR{rs:List Run}(l:bX w v c)(X:Runs w vr rs)(T:c.aP.length<=1000000):∀w1,Below w w w1->Calls prog 14 #[v,vr] w1 λe w'=>aaw (Led.all c (sI c (needs rs) rs.length)) w1 e w':=by
 intro w1 O;replace l:=l.below O;replace X:=X.below O;clear O;obtain⟨v1,v2,rfl,b1,b2⟩:=id l;obtain⟨aI,ax⟩:=nZ c.aI;obtain⟨aK,ap⟩:=nZ c.aK;rw[ax,ap]at l⊢;have b0:=qZ (λW d=>aaP l T W d);obtain⟨R,cc,rfl,ba,a8,ay⟩:=X;have bp:=qZ (λ(k:Nat) (h:k<rs.length)=>(show∃A n c,rs[k].hv=.slice A n c from by obtain⟨A,c,e,_⟩:=ay _ (bB h);exact⟨A,_,c,e⟩));clear ay;unfold maxLen at a8;have bu:=qZ ba;have bt:=qZ T;obtain⟨K,N⟩:=nZ rs.length;have bq:=qZ N;rw[N]at a8⊢;have av:Below w1 w1 (w1.alloc (.cells #[v1,v2,aI,aK] 26)):=bZ;have I:=qZ av;obtain⟨b6,x0,b8,b9,ca⟩:=iB.new w1 v1 v2 aI aK;clear av ax ap l b1 b2 ba N T;go_enter func14,ntmps14;go_wp2_with fail;refine(b0.out _ I).mono ?_;rintro e cj⟨g,F,u1,rfl,an,b3,a9,ar⟩;have br:=qZ an;have bn:=qZ (aA I ar);have bv:=qZ (aV I.size a9);clear an ar b3 a9 x0 b8 b9 ca b6;go_wp2_with fail;go_loopw [12] (λi wr=>∃k:Nat,i=.int .i64 (k:Int)/\k<=K/\nQ wr g F u1 v2 aI aK c (sI c (needs rs) k)/\Below w1 w1 wr) (λi _=>K-(intOf i).toNat);case atStart=>exact⟨0,rfl,oZ,br,bn⟩
 case round=>
  obtain⟨k,rfl,cd,a5,aq⟩:=hrel
  rename World=>wr
  have ai:=qZ a5;have s:=qZ aq;clear a5 aq;by_cases a0:k<K
  .have z:k<rs.length:=by rw[bq.out];exact a0
   obtain⟨cb,cg,rfl,b4,aw⟩:=sQ bu z;obtain⟨bd,p1,p2,p3,p4,bi,p6,bj,bk,bl,be,bf,bg,bh⟩:=aw wr s;have aj:=qZ (acd c rs k z);obtain⟨H,Y,J,bb⟩:=bp.out k z;generalize rs[k]=r at*;obtain⟨m,r1,r2,⟨z0,z1,z2⟩,r3,o,p,Z,aa,ab,ad,ch,ci⟩:=r;simp only at bd p1 p2 p3 p4 bi p6 bj bk bl be bf bg bh aj bb;subst bb;have am:=aaX m r1 r2 ⟨z0,z1,z2⟩ r3 o p;generalize Vec.mM ⟨z0,z1,z2⟩ r2=y at*;have al:=qZ (λW (d:nQ W g F u1 v2 aI aK c (sI c (needs rs) k))=>agP d r1 y 40 Vec.add (λa b=>jN.BR a b) λ_ _=>kZ);obtain⟨ae,af,ag⟩:=y;have M:bW prog 39 #[.agg #[m,r1,r2,z0,z1,z2,r3,o,p]] (.agg #[ae,af,ag]):=am;have Q:Below wr wr (wr.alloc (.cells #[m,r1,r2,z0,z1,z2,r3,o,p,Z,aa,ab,ad,.slice H Y J] 86)):=bZ;have f:∀(j:Nat) (x:Value),(#[Value.int .i64 m,.int .i64 r1,.int .i64 r2,.int .i64 z0,.int .i64 z1,.int .i64 z2,.int .i64 r3,.int .i64 o,.int .i64 p,.int .i64 Z,.int .i64 aa,.int .i64 ab,.int .i64 ad,.slice H Y J]:Array Value)[j]? =some x->∀W,aF (wr.alloc (.cells #[m,r1,r2,z0,z1,z2,r3,o,p,Z,aa,ab,ad,.slice H Y J] 86)) W->CV W (wr:Nat) j x:=λj x b5 W d=>
    d.cell sZ (by rw[World.cell?_alloc_mark];exact b5)
   have bw:=f 0 _ rfl;have c1:=f 1 _ rfl;have c2:=f 2 _ rfl;have c3:=f 3 _ rfl;have c4:=f 4 _ rfl;have c5:=f 5 _ rfl;have c6:=f 6 _ rfl;have c7:=f 7 _ rfl;have c8:=f 8 _ rfl;have bo:=qZ (aA s Q);have bs:=qZ (ai.on Q);clear aw z b4 f am Q;go_wp2_with fail;clear bd p1 p2 p3 p4 bi p6 bj bk bl be bf bg bh;refine lF 7 kZ kZ ?_;simp only[List.take_succ_cons,List.take_zero,bH,bJ];(repeat refine kY ?_);refine kM ?_ (h:=by intro W d;go_simp;first|exact bW.up M d|exact⟨d,bW.up M d⟩);(repeat refine kY ?_);refine eH ?_;intro W d;have ak:=qZ (aA bo d);have ah:Hid (Calls prog 38 #[.pointer g,r1,.agg #[ae,af,ag],.func (.func 40) #[] #[]] W λe w'=>HZ (xL c r1) g F u1 v2 aI aK c (Led.change c (sI c (needs rs) k) r1 λa=>Vec.add a ⟨ae,af,ag⟩) W e w'):=qZ (al.out W (bs.on d));clear bw c1 c2 c3 c4 c5 c6 c7 c8 d M al;go_wp2_with fail;refine ah.mono ?_;rintro e bm⟨rfl,ao,az⟩;have u:=qY (nQ bm g F u1 v2 aI aK c (sI c (needs rs) (k+1))/\Below w1 w1 bm) (by rw[aj.out];exact⟨ao,ak.out.trans (az.below ak.size λi e=>by rw[e];exact bv)⟩);clear ao az ah;go_wp2_with fail;go_roundw;case rel=>exact⟨k+1,mZ,oZ,u.1,u.2⟩
   case measure=>simp[intOf];omega
  .have bz:=qZ (apS ai bt);have e:k=K:=oZ;subst e;have ce:decide (k<k)=false:=sZ;clear a0;go_wp2_with fail;refine bz.out.mono ?_;rintro e b7⟨v4,rfl,bc,au⟩;have u:=qY (aaw (Led.all c (sI c (needs rs) k)) w1 (.returned v4) b7) (⟨v4,rfl,bc.low s.size,aA s au⟩);clear bc au;go_wp2_with fail;go_ret;exact u
attribute [local go_sem] Oper.semAt_some
def vF(B:Nat)(own:Nat->Prop)(J:(Nat->Prop)->List Nat->World->Prop):Prop:=(∀D pre W,J D pre W->∀k,D k->k<W.heap.size)/\∀D pre W W' (F:Nat->Prop),J D pre W->aO F W W'->(∀k,k<(W:Nat)->F k->¬D k/\(own k\/B<=k))->J D pre W'
def Step(D:Nat->Prop)(W:World)(J:(Nat->Prop)->World->Prop)(W':World):Prop:=∃D',J D' W'/\(∀k,D' k->D k\/(W:Nat)<=k)/\aO D W W'
def RS(f:FuncId)(caps:Array Value)(xs:List Nat)(R own:Nat->Prop)(St:World->Prop):Prop:=∀(n l:Nat) (J Jx:(Nat->Prop)->List Nat->World->Prop) (W0:World),St W0->vF (W0:Nat) own J->vF (W0:Nat) own Jx->(∀D pre (x:Nat) rest W,xs=pre++x::rest->J D pre W->(∀k,R k->¬D k)->YieldAt Fence.wide (n-1) prog l #[(x:Int)] W λe W'=>(e=.returned (.bool true)/\Step D W (λD'=>J D' (pre++[x])) W')\/(e=.returned (.bool false)/\Step D W (λD'=>Jx D' (pre++[x])) W'))->∀D,(∀k,R k->¬D k)->J D [] W0->CallsIn Fence.wide n prog f (#[.func (.yield l) #[] #[]]++caps) W0 λe W'=>(∃v,e=.returned v)/\((∃D',J D' xs W')\/∃D' pre,pre<+:xs/\Jx D' pre W')
def atm(J Jx:(Nat->Prop)->World->Prop)(D:Nat->Prop)(W:World):Exit->Act->World->Prop
 |.normal,_,W'=>Step D W J W'
 |.ret,_,W'=>Step D W Jx W'
 |_,_,_=>False
theorem EM{g:Operand}{ps:Array Tmp}{assign body:Code}{f:FuncId}{caps:Array Value}{xs:List Nat}{R own:Nat->Prop}{St:World->Prop}(bf:RS f caps xs R own St)(be:a.eval g=.func (.func f) #[] caps)(aw:∀args w,(callFunc f args).run prog w=.ok (.enter f args) w)(bm:ps.size=1)(bo:∀W,Below w w W->St W)(am:∀k,R k->k<(w:Nat))(bt:∀k,own k->R k)(J Jx:(Nat->Prop)->List Nat->World->Prop)(z:vF (w:Nat) own J)(ah:vF (w:Nat) own Jx)(D0:Nat->Prop)(a9:∀k,R k->¬D0 k)(al:J D0 [] w)(bn:∀(l m:Nat) (D:Nat->Prop) (pre:List Nat) (x:Nat) (rest:List Nat) (W:World),l=(w:Nat)+1->xs=pre++x::rest->J D pre W->aO (λk=>D0 k\/own k) w W->(∀k,D k->D0 k\/(w:Nat)+2<=k)->(w:Nat)+1<(W:Nat)->assign.wpIn (Fence.wide.inRound l) m prog (Exit.then (λa' W'=>W'=W/\∀c,J D pre c->aO (λk=>D0 k\/own k) w c->(c:Nat)=(W:Nat)->body.wpIn (Fence.wide.inRound l) m prog (atm (λD'=>J D' (pre++[x])) (λD'=>Jx D' (pre++[x])) D c) a' c) λ_ _ _=>False) {tmps:=(ps.zip #[.int .i64 (x:Int)]).foldl (λt (p,v)=>t.setIfInBounds p v) a.tmps,defers:=[]} W)(bc:∀(D:Nat->Prop) (W:World),J D xs W->aO (λk=>D0 k\/own k) w W->(∀k,D k->D0 k\/(w:Nat)+2<=k)->W.heap[(w:Nat)]? =some (.deferred (some []))->Q .normal {a with defers:={target:=.collected (w:Nat),args:=#[]}::a.defers} W)(bp:∀(D:Nat->Prop) (pre:List Nat) (W:World),pre<+:xs->Jx D pre W->aO (λk=>D0 k\/own k) w W->(∀k,D k->D0 k\/(w:Nat)+2<=k)->W.heap[(w:Nat)]? =some (.deferred (some []))->Q .ret {a with defers:={target:=.collected (w:Nat),args:=#[]}::a.defers} W):(Code.rangeFunc g ps assign body).wpIn Fence.wide m prog Q a w:=by
 have ae:∀k,D0 k->k<(w:Nat):=z.1 D0 [] w al;refine wpIn_rangeFunc ?_;intro fn bd;rw[show Fence.wide.round=none from rfl];obtain⟨d,H⟩:∃d:LoopState->Option Code->Loop,d=λst pe=>{state:=st,pending:=pe,fn,tmps:=a.tmps,params:=ps,assign,body,defers:=(w:Nat)}:=⟨_,rfl⟩;obtain⟨s,ad⟩:=nZ ((w.alloc (.deferred (some []))).alloc (.loop (d .ready none)));have a5:s.heap[(w:Nat)+1]? =some (.loop (d .ready none)):=by rw[<-ad];have:=World.alloc_heap_new (w.alloc (.deferred (some []))) (.loop (d .ready none));rwa [bC]at this
 have az:s.heap[(w:Nat)]? =some (.deferred (some [])):=by rw[<-ad];exact(Below.heap_alloc _ _ _ sZ).trans (World.alloc_heap_new w _)
 have ai:Below w w s:=by rw[<-ad];exact((aJ _ w).alloc lZ _).alloc sZ _
 have bu:(s:Nat)=(w:Nat)+2:=by rw[<-ad];simp
 obtain⟨N,O⟩:∃N:((Nat->Prop)->List Nat->World->Prop)->Loop->(Nat->Prop)->List Nat->World->Prop,N=λJ r aa pre W=>∃D,(∀k,aa k↔(D k\/k=(w:Nat)\/k=(w:Nat)+1))/\J D pre W/\
   (∀k,D k->D0 k\/(w:Nat)+2<=k)/\aO (λk=>D0 k\/own k) w W/\W.heap[(w:Nat)+1]? =some (.loop r)/\W.heap[(w:Nat)]? =some (.deferred (some [])):=⟨_,rfl⟩
 have ao:∀(J:(Nat->Prop)->List Nat->World->Prop) r,vF (w:Nat) own J->vF (s:Nat) own (N J r):=by
  intro J r z;rw[O];constructor
  .rintro aa pre W⟨D,j,A,n,b,u,ap⟩ k bg;have X:(w:Nat)+1<(W:Nat):=(bT.1 u).1;rcases(j k).1 bg with h|h|h
   .exact z.1 D pre W A k h
   .omega
   .omega
  .rintro aa pre W W' F⟨D,j,A,n,b,u,ap⟩ kf hF;have X:(w:Nat)+1<(W:Nat):=(bT.1 u).1;refine⟨D,j,z.2 D pre W W' F A kf λk b ab=>?_,n,?_,?_,?_⟩
   .have:=hF k b ab;refine⟨λh=>this.1 ((j k).2 (.inl h)),?_⟩;rcases this.2 with h|h
    .exact .inl h
    .right;omega
   .refine b.trans' kf (λi hi ax=>?_);have:=hF i (by have:=b.size;omega) ax;rcases this.2 with h|h
    .exact .inr h
    .omega
   .refine(kf.block _ X λab=>?_).trans u;exact(hF _ X ab).1 ((j _).2 (.inr (.inr rfl)))
   .refine(kf.block _ oZ λab=>?_).trans ap;exact(hF _ oZ ab).1 ((j _).2 (.inr (.inl rfl)))
 refine⟨(w:Nat)+1,[{target:=.collected (w:Nat),args:=#[]}],s,{target:=.fn (.func f) caps,args:=#[.func (.yield ((w:Nat)+1)) #[] #[]]},s,f,#[.func (.yield ((w:Nat)+1)) #[] #[]]++caps,s,?_,?_,?_,?_,λh=>by simp[Fence.wide]at h,?_⟩
 .rw[<-ad,H];exact run_enterLoop_outer _ _ _ _ _
 .simp only[resolve,be];simp[go_sem]
 .intro bq bs;trivial
 .simp[invoke,go_sem,aw]
 .have ay:J D0 [] s:=z.2 D0 [] w s (λ_=>False) al (aO.bS ai) (λk _ h=>h.elim);refine(bf _ ((w:Nat)+1) (N J (d .ready none)) (N Jx (d .done (some .ret))) s (bo s ai) (ao J _ z) (ao Jx _ ah) ?_
   (λk=>D0 k\/k=(w:Nat)\/k=(w:Nat)+1) (λk b=>?_) ?_).mono ?_
  .intro aa pre x rest W bl an br;rw[O]at an;obtain⟨D,j,A,n,M,u,b⟩:=an;have X:(w:Nat)+1<(W:Nat):=(bT.1 u).1;have au:=run_yield (P:=prog) (args:=#[.int .i64 (x:Int)]) u (by rw[H];exact bm.symm);rw[H]at au;refine⟨fn,_,assign,body,au,roundIn_of_wpIn bd (wpIn_mono (bn ((w:Nat)+1) _ D pre x rest W rfl bl A M n X) ?_)⟩;intro e a' W' T;cases e with
   |normal=>
    obtain⟨rfl,bb⟩:=T;refine⟨_,run_beginRound u (by rw[H]),?_⟩;have aq:(W'.putObj ((w:Nat)+1) (.loop {d .ready none with state:=.busy})).heap[(w:Nat)+1]? =some (.loop {d .ready none with state:=.busy}):=World.putObj_heap_same X;have bh:(W'.putObj ((w:Nat)+1) (.loop {d .ready none with state:=.busy})).heap[(w:Nat)]? =some (.deferred (some [])):=(World.putObj_heap_other oZ).trans b;have af:=mY W' ((w:Nat)+1) (.loop {d .ready none with state:=.busy});have L:¬D ((w:Nat)+1):=λh=>by rcases n _ h with h|h;have:=ae _ h;omega;omega
    have a0:¬D (w:Nat):=λh=>by rcases n _ h with h|h;have:=ae _ h;omega;omega
    refine wpIn_mono (bb _ (z.2 _ _ _ _ _ A af λk _ e=>by subst e;exact⟨L,.inr oZ⟩) (M.trans' af λi hi e=>oZ) sZ) ?_;generalize ba:W'.putObj ((w:Nat)+1) (.loop {d .ready none with state:=.busy})=c at*;have bv:(c:Nat)=(W':Nat):=by rw[<-ba];simp
    have bj:(w:Nat)+1<(c:Nat):=(bT.1 aq).1;have ak:∀(J:(Nat->Prop)->List Nat->World->Prop) (y:Option Code) (I:World),vF (w:Nat) own J->Step D c (λD'=>J D' (pre++[x])) I->
      (Instr.endRound ((w:Nat)+1) y).run prog I=.ok (.bool y.isNone) (I.putObj ((w:Nat)+1) (.loop (d (if y.isNone then .ready else .done) y)))/\
      Step aa W' (λD'=>N J (d (if y.isNone then .ready else .done) y) D' (pre++[x])) (I.putObj ((w:Nat)+1) (.loop (d (if y.isNone then .ready else .done) y))):=by
     intro J y I z⟨D',hj3,ag,hk3⟩;have ar:=(hk3.block _ bj L).trans aq;have bi:=(hk3.block _ oZ a0).trans bh;have Z:=run_endRound (P:=prog) y ar;rw[H]at Z;have a8:¬D' ((w:Nat)+1):=λh=>by rcases ag _ h with h|h;exact L h;omega
     have K:=mY I ((w:Nat)+1) (.loop (d (if y.isNone then .ready else .done) y));refine⟨by rw[H];exact Z,λk=>D' k\/k=(w:Nat)\/k=(w:Nat)+1,?_,?_,?_⟩
     .rw[O];refine⟨D',λk=>Iff.rfl,z.2 _ _ _ _ _ hj3 K λk _ e=>by subst e;exact⟨a8,.inr oZ⟩,λk b=>?_,?_,World.putObj_heap_same (bT.1 ar).1,(World.putObj_heap_other oZ).trans bi⟩
      .rcases ag k b with h|h
       .exact n k h
       .right;omega
      .refine((M.trans' af λi hi e=>oZ).trans' hk3 λi hi h=>?_).trans' K (λi hi e=>oZ);rcases n i h with h|h
       .exact .inl h
       .omega
     .rintro k (h|h|h)
      .rcases ag k h with h|h
       .exact .inl ((j k).2 (.inl h))
       .right;omega
      .exact .inl ((j k).2 (.inr (.inl h)))
      .exact .inl ((j k).2 (.inr (.inr h)))
     .exact((af.mono λi _ e=>(j i).2 (.inr (.inr e))).trans (hk3.mono λi _ e=>(j i).2 (.inl e))).trans (K.mono λi _ e=>(j i).2 (.inr (.inr e)))
    rintro e a3 I Y;cases e with
    |normal=>
     obtain⟨Z,aj⟩:=ak J none I z Y;exact⟨_,_,Z,.inl ⟨rfl,aj⟩⟩
    |ret=>
     obtain⟨Z,aj⟩:=ak Jx (some .ret) I ah Y;exact⟨_,_,Z,.inr ⟨rfl,aj⟩⟩
    |exit id=>exact Y.elim
    |goto t=>exact Y.elim
    |panic av=>exact Y.elim
    |outgrown=>exact Y.elim
   |exit id=>exact T.elim
   |goto t=>exact T.elim
   |ret=>exact T.elim
   |panic av=>exact T.elim
   |outgrown=>exact T.elim
  .rintro(h|h|h)
   .exact a9 k b h
   .have:=am k b;omega
   .have:=am k b;omega
  .rw[O];exact⟨D0,λk=>Iff.rfl,ay,λk h=>.inl h,aO.bS ai,a5,az⟩
  .rintro e c⟨⟨v,rfl⟩,(⟨D',hi⟩|⟨D',pre,bk,hi⟩)⟩
   .rw[O]at hi;obtain⟨D,j,A,n,M,u,b⟩:=hi;have L:¬D ((w:Nat)+1):=λh=>by rcases n _ h with h|h;have:=ae _ h;omega;omega
    have K:∀o,aO (λk=>k=(w:Nat)+1) c (c.putObj ((w:Nat)+1) o):=λo=>mY c ((w:Nat)+1) o;exact⟨none,_,by have:=run_endLoop (P:=prog) u (by rw[H];simp);rw[H]at this;exact this,bc D _ (z.2 _ _ _ _ _ A (K _) λk _ e=>by subst e;exact⟨L,.inr oZ⟩) (M.trans' (K _) λi hi e=>oZ) n ((World.putObj_heap_other oZ).trans b)⟩
   .rw[O]at hi;obtain⟨D,j,A,n,M,u,b⟩:=hi;have L:¬D ((w:Nat)+1):=λh=>by rcases n _ h with h|h;have:=ae _ h;omega;omega
    have K:∀o,aO (λk=>k=(w:Nat)+1) c (c.putObj ((w:Nat)+1) o):=λo=>mY c ((w:Nat)+1) o;exact⟨some .ret,_,by have:=run_endLoop (P:=prog) u (by rw[H];simp);rw[H]at this;exact this,wpIn_ret (bp D pre _ bk (ah.2 _ _ _ _ _ A (K _) λk _ e=>by subst e;exact⟨L,.inr oZ⟩) (M.trans' (K _) λi hi e=>oZ) n ((World.putObj_heap_other oZ).trans b))⟩
theorem aaD{aI:Int}(c:Cfg.C)(I:c.aP.length<=maxLen)(t:Int)(w:bn≠bc)(y:∀b o,A=some ⟨b,o,none⟩->b≠bn):RS 149 #[.pointer bn,.pointer bc] (Tree.up c t) (λk=>k=bn\/k=bc\/∃o,A=some ⟨k,o,none⟩) (λk=>k=bn) (λW=>xO W bn bc A c.aP.length ca v2 aI aK c.aP t):=by
 intro n l J Jx W0 m F Z M D z H;obtain⟨R,d⟩:∃R:Nat->Prop,R=λk=>k=bn\/k=bc\/∃o,A=some ⟨k,o,none⟩:=⟨_,rfl⟩;have aa:∀k,R k->k<(W0:Nat)\/∃o,A=some ⟨k,o,none⟩:=λk a=>by
  rw[d]at a;rcases a with rfl|rfl|h
  .exact .inl m.lt
  .exact .inl m.box.1
  .exact .inr h
 refine(akY (n:=n) l bn bc (A:=A) (ca:=ca) (v2:=v2) (aI:=aI) (aK:=aK) c I t (λpre W=>∃D,J D pre W/\∀k,R k->¬D k) (λpre W=>∃D,Jx D pre W) (λk=>¬R k)
  (by rw[d];simp) (by rw[d];simp) (λb o e=>by rw[d];simp[e]) w y ?_ ?_ W0 m ⟨D,H,by rw[d];exact z⟩).mono ?_
 .rintro pre W v⟨D,g,f⟩;refine⟨D,F.2 D pre W _ (λk=>k=bn) g ((aO.refl (λk=>k=bn) W).setCell (p:=⟨bn,0,none⟩) (.inl rfl) v) λk a e=>?_,f⟩;subst e;exact⟨f k (by rw[d];exact .inl rfl),.inl rfl⟩
 .rintro pre x rest W u⟨D,g,f⟩ hat;obtain⟨fn,tmps,assign,body,Y,K⟩:=M D pre x rest W u g (by rw[d]at f;exact f);refine⟨fn,tmps,assign,body,Y,K.mono ?_⟩;have L:∀k,R k->k<(W:Nat):=λk a=>by
   rw[d]at a;rcases a with rfl|rfl|⟨o,O⟩
   .exact hat.lt
   .exact hat.box.1
   .have X:c.aP≠[]:=λe=>by have:=(XQ c t x (by rw[u];simp)).1;rw[e]at this;simp at this
    obtain⟨b,ab,e,N,_⟩:=hat.row X;rw[O]at e;cases e;exact N
  rintro e W' (⟨rfl,D',j,r,s⟩|⟨rfl,D',j,r,s⟩)
  .refine .inl ⟨rfl,⟨D',j,λk a h=>?_⟩,s.mono λi _ h T=>f i T h⟩;rcases r k h with h|h
   .exact f k a h
   .have:=L k a;omega
  .exact .inr ⟨rfl,D',j⟩
 .rintro e W'⟨hv,⟨D',g,_⟩|⟨pre,Q,D',g⟩⟩
  .exact⟨hv,.inl ⟨D',g⟩⟩
  .exact⟨hv,.inr ⟨D',pre,Q,g⟩⟩
end bM
variable{tmps:Array Value}{B' k l:Nat}
namespace bM
open Go Go.RowKit L
attribute [local go_sem] Oper.semAt_some
theorem adJ(v1 v2:Value)(aI aK t:Int)(w:World):Calls prog 88 #[.agg #[v1,v2,aI,aK],t] w λe w'=>e=.returned (.func (.func 149) #[] #[.pointer (some ⟨(w:Nat)+1,0,none⟩),.pointer w])/\w'=(w.alloc (.cells #[v1,v2,aI,aK] 26)).alloc (.cells #[t] 3):=by go_enter func88,ntmps88;go_wp2_with fail;go_ret;exact⟨rfl,rfl⟩
theorem TL(v1 v2:Value)(aI aK t:Int)(w:World):Calls prog 220 #[.agg #[v1,v2,aI,aK],t] w λe w'=>e=.returned (.func (.func 247) #[] #[.pointer w,.pointer (some ⟨(w:Nat)+1,0,none⟩)])/\w'=(w.alloc (.cells #[v1,v2,aI,aK] 26)).alloc (.cells #[t] 3):=by go_enter func220,ntmps220;go_wp2_with fail;go_ret;exact⟨rfl,rfl⟩
def Marks(B:Nat)(D:Nat->Prop)(ds:List Deferred)(W:World):Prop:=(∀d∈ds,∃r,d={target:=.collected r,args:=#[]}/\W.heap[r]? =some (.deferred (some []))/\B<=r/\¬D r)/\ds.Nodup
theorem Marks.nil(B:Nat)(D:Nat->Prop)(W:World):Marks B D [] W:=⟨λ_ h=>by simp at h,List.nodup_nil⟩
theorem Marks.more{B:Nat}{D D':Nat->Prop}{ds:List Deferred}(h:Marks B D ds W)(k:aO D W W')(f:∀i,D' i->D i\/(W:Nat)<=i):Marks B D' ds W':=
 ⟨λd g=>by
  obtain⟨r,e,b,c,a⟩:=h.1 d g;have j:=(bT.1 b).1;refine⟨r,e,(k.block r j a).trans b,c,λh=>?_⟩;rcases f r h with h|h
  .exact a h
  .omega,h.2⟩
theorem Marks.cons{B:Nat}{D:Nat->Prop}{ds:List Deferred}{r:Nat}(h:Marks B D ds W)(g:W.heap[r]? =some (.deferred (some [])))(b:B<=r)(c:¬D r)(f:∀d∈ds,∀r',d={target:=.collected r',args:=#[]}->r'≠r):Marks B D ({target:=.collected r,args:=#[]}::ds) W:=
 ⟨λd a=>by
  rcases bA.1 a with rfl|a
  .exact⟨r,rfl,g,b,c⟩
  .exact h.1 d a,by
  rw[fQ];refine⟨λe=>f _ e r rfl rfl,h.2⟩⟩
theorem GA{fn:Func}{R:Ending->World->Prop}{B:Nat}{D:Nat->Prop}(g:∀W,(results fn tmps).run prog W=.ok v W):∀(ds:List Deferred) (W:World),Marks B D ds W->(∀W',aO (λi=>B<=i/\¬D i) W W'->R (.returned v) W')->LeavesInM Fence.wide n prog fn tmps R ds .returning W
 |[],W,_,a=>⟨_,g W,a W (aO.refl _ _)⟩
 |d::ds,W,b,a=>by
  obtain⟨r,rfl,s,l,o⟩:=b.1 d sZ;have c:=b.2;rw[fQ]at c;refine⟨sZ,.inl ⟨r,_,rfl,run_takeDeferred s,GA (B:=B) (D:=D) g ds _ ⟨λd' f=>?_,c.2⟩ λW' k=>a W' ?_⟩⟩
  .obtain⟨r',e,u,m,p⟩:=b.1 d' (by simp[f]);refine⟨r',e,(World.putObj_heap_other λj=>?_).trans u,m,p⟩;subst j;exact c.1 (e▸f)
  .exact((mY W r (.deferred none)).mono λi _ e=>by subst e;exact⟨l,o⟩).trans k
theorem akO(k:Nat)(h:k<1000000):wrap64 ((k:Int)+1)=((k+1:Nat):Int):=(IntWalk.wrap64_in _ oZ).trans rfl
theorem aiM{l':Nat}{f:FuncId}{assign body:Code}{R:Ending->World->Prop}(h:RoundIn Fence.wide n prog l f tmps assign body w R):RoundIn (Fence.wide.inRound l') k prog l f tmps assign body w R:=
 ⟨h.1,λc cs _=>h.2 c cs (room_wide _)⟩
theorem vF.sub{B:Nat}{own c:Nat->Prop}{J:(Nat->Prop)->List Nat->World->Prop}(h:vF B own J)(g:List Nat->List Nat)(j:B<=B')(f:∀k,c k->own k\/B<=k):vF B' c (λD pre W=>J D (g pre) W):=
 ⟨λD pre W b=>h.1 D (g pre) W b,λD pre W W' F b k hF=>h.2 D (g pre) W W' F b k λi hi e=>by
  obtain⟨d,a⟩:=hF i hi e;refine⟨d,?_⟩;rcases a with a|a
  .exact f i a
  .right;omega⟩
theorem vF.pure{B:Nat}{own:Nat->Prop}{J:(Nat->Prop)->List Nat->World->Prop}(h:vF B own J)(p:Prop):vF B own (λD pre W=>J D pre W/\p):=
 ⟨λD pre W a=>h.1 D pre W a.1,λD pre W W' F a k hF=>⟨h.2 D pre W W' F a.1 k hF,a.2⟩⟩
def pick(n:Int)(t:Nat)(pre:List Nat):List Nat:=if pre.any (λx=>(x:Int)==n)then[t]else[]
theorem aeD{n:Int}{t x:Nat}{pre:List Nat}(h:(x:Int)≠n):pick n t (pre++[x])=pick n t pre:=by
 unfold pick;rw[List.any_append];have:((x:Int)==n)=false:=by simpa using h
 simp[this]
theorem aeE{n:Int}{t x:Nat}{pre:List Nat}(h:(x:Int)=n):pick n t (pre++[x])=[t]:=by unfold pick;rw[List.any_append,aG];simp[h]
theorem amh{n:Int}{t x:Nat}{pre rest:List Nat}(h:(x:Int)=n)(b:(pre++x::rest).Nodup):pick n t pre=[]:=by
 unfold pick;rw[aD];intro a;rw[lY]at a;obtain⟨y,c,e⟩:=a;have:y=x:=by have:=beq_iff_eq.1 e;omega
 subst this;rw[iW]at b;exact b.2.2 y c y sZ rfl
theorem apo(c:Cfg.C)(n:Int)(k:Nat)(h:k<(iG c).length):kW c n k++pick n (iG c)[k] (Tree.up c ((iG c)[k]:Int))=kW c n (k+1):=by rw[RL c n k h];unfold pick Tree.on;split<;>simp
theorem ahm(c:Cfg.C)(n:Int)(k:Nat)(h:k<(iG c).length)(a:Tree.on c n (iG c)[k]=true):∃rest,Tree.below c n=kW c n k++(iG c)[k]::rest:=by
 refine⟨((iG c).drop (k+1)).filter λt=>Tree.on c n t,?_⟩;unfold Tree.below kW
 conv=>lhs;rw[<-gU k (iG c),fO,dM h,List.filter_cons,aG a]
theorem PE{aI:Int}(ay:bX w0 (.agg #[v1,v2,aI,aK]) c)(bz:c.aP.length<=1000000)(n:Int)(bc bn:Nat):RS 247 #[.pointer bc,.pointer bn] (Tree.below c n) (λk=>k<(w0:Nat)\/k=bc\/k=bn) (λ_=>False) (λW=>Below w0 w0 W/\iB W bc v1 v2 aI aK/\W.cell? (bn,0)=some (.int .i64 n)/\bn<(W:Nat)):=by
 intro m l J Jx W0⟨an,hbx,hcn,hbn⟩ hJ hJx hY D0 hD0 hJ0;have cv:=qZ hY;have Z:=qZ hJ;have bk:=qZ hJx;have cp:=qZ hJ0;have Y:=qZ hD0;have bs:=qZ (hJ.1 _ _ _ hJ0);have cm:=qZ ay;clear hY hJ hJx hJ0 hD0;refine callsIn_of_wp_marks func247 rfl trivial (wpIn_wide.2 ?_);simp only[ntmps247,gB,List.length_cons,List.length_nil,Nat.reduceAdd,Nat.reduceSub,lS,Array.replicate_zero,List.push_toArray,fH,List.nil_append,List.cons_append];have ao:Below W0 W0 (W0.alloc (.cells #[.func (.yield l) #[] #[]] 187)):=bZ;have cj:(W0.alloc (.cells #[.func (.yield l) #[] #[]] 187)).cell? (W0,0)=some (.func (.yield l) #[] #[]):=by simp[go_sem]
 have d0:(W0.alloc (.cells #[.func (.yield l) #[] #[]] 187)).heap.size=(W0:Nat)+1:=sZ;obtain⟨z0,z1,z2,eb,z4⟩:=hbx.on ao;have ec:=(ao.cell (p:=⟨bn,0,none⟩) hbn).trans hcn;have bp:=qZ hbx;have cn:=qZ hcn;have bo:=qZ ao;clear hbx hcn ao;go_wp2_with fail;refine(aju ay bz _ (an.trans (bo.out.mono an.size))).mono ?_;rintro e f⟨eu,rfl,bv,ap⟩;have ak:=qZ (aA bo.out ap);obtain⟨cl,c2,rfl,b6⟩:=pQ bv;have co:=qZ b6;have dr:(W0.alloc (.cells #[.func (.yield l) #[] #[]] 187)).heap.size<=(f:Nat):=ap.size;have d9:=qZ ((ap.cell (p:=⟨W0,0,none⟩) (by show(W0:Nat)<_;omega)).trans cj);have el:(W0:Nat)+1<=(f:Nat):=oZ;have dc:=qZ (Z.out.2 _ _ _ _ (λ_=>False) cp.out (aO.bS ak.out) λ_ _ h=>h.elim);obtain⟨L,am⟩:=nZ ((iG c).length);have bl:=qZ am;have df:=qY (L<=1000000) (by rw[<-am];have:=yP c c.aP.length;exact aV this bz);rw[am];have bm:=qZ an;have cw:=qZ hbn;clear bv ap b6 dr cj d0 z0 z1 z2 eb z4 ec am an hbn ay;go_wp2_with fail;refine wp_loop (λa' W=>∃(k:Nat) (ds:List Deferred) (D:Nat->Prop) (u5 u6 u11 u12 u13 u14 u15 u16 u17 u18 u19 u20 u21 u22 u23 u24 u25 u26 u27:Value),k<=L/\J D (kW c n k) W/\(∀i,D i->D0 i\/(f:Nat)<=i)/\aO D0 f W/\Marks (f:Nat) D ds W/\a'={tmps:=#[.func (.yield l) #[] #[],.pointer bc,.pointer bn,.pointer W0,undef,u5,u6,.agg #[v1,v2,aI,aK],.slice cl L c2,.int .i64 (L:Int),.int .i64 (k:Int),u11,u12,u13,u14,u15,u16,u17,u18,u19,u20,u21,u22,u23,u24,u25,u26,u27],defers:=ds})
  (λa' _=>L-(intOf (a'.tmps.getD 10 undef)).toNat) ?_ ?_
 .exact⟨0,[],D0,_,_,_,_,_,_,_,_,_,_,_,_,_,_,_,_,_,_,_,oZ,dc.out,λi h=>.inl h,aO.refl _ _,Marks.nil _ _ _,rfl⟩
 .rintro _ W⟨k,ds,D,u5,u6,u11,u12,u13,u14,u15,u16,u17,u18,u19,u20,u21,u22,u23,u24,u25,u26,u27,s,j,bt,ag,bw,rfl⟩;have av:=qZ j;have O:=qZ bt;have al:=qZ ag;have aa:=qZ bw;clear j bt bw;by_cases Q:k<L
  .have aq:k<(iG c).length:=by rw[bl.out];exact Q
   obtain⟨t,bh⟩:=nZ ((iG c)[k]);have bi:(iG c)[k]? =some t:=by rw[aH aq,bh]
   obtain⟨g,da,dl,dm,b5⟩:=co.out k t bi;have ch:(W0.alloc (.cells #[.func (.yield l) #[] #[]] 187)).heap.size=(W0:Nat)+1:=sZ;rw[ch]at dl;have dn:W.cell? (g,k)=some (.int .i64 (t:Int)):=(ag.cell (p:=⟨g,k,none⟩) dm (λh=>by have I:D0 g:=h;have:=bs.out g I;omega)).trans b5;have ef:(f:Nat)<=(W:Nat):=ag.size;have b9:aO D0 W0 W:=(aO.bS ak.out).trans' ag (λi hi h=>h);have ba:=apo c n k aq;have bg:=ahm c n k aq;rw[bh]at ba bg;have cr:=qZ ba;have cu:=qZ bg;have ci:(t:Int)<(c.aP.length:Int):=by have:=gG bi;rw[MP]at this;exact(rF this).2
   have bq:=qZ ci;obtain⟨ed,b1,b2,b3,cy⟩:=bp.out.bD b9 (Y.out bc (.inr (.inl rfl)));subst da;have eg:g<(W:Nat):=oZ;have dx:∀i,¬g=(W:Nat)+i:=λi e=>oZ;have dy:¬g=(W:Nat):=λe=>oZ;have dz:¬bc=(W:Nat):=λe=>oZ;clear b5 bh bi ch aq ag b9 ba bg ci;go_wp2_with fail;refine(adJ v1 v2 aI aK (t:Int) _).mono ?_;rintro e ev⟨rfl,rfl⟩;go_wp2_with fail;obtain⟨es,et,ax,⟨A,ca,e1,be,du⟩,_⟩:=cm.out;have c0:v1=.slice A c.aP.length ca:=by simp only[Value.agg.injEq,eO,cB,and_true]at ax;rw[ax.1,e1]
   have z:c.aP≠[]:=λe=>by rw[e]at bq;have:=bq.out;simp at this;omega
   obtain⟨cz,er,aw,di,-⟩:=be z;obtain⟨a,ae⟩:=nZ (W.alloc (.cells #[(t:Int)] 3));rw[ae];have d6:(a:Nat)=(W:Nat)+1:=by rw[<-ae];simp
   have cc:aO (λ_=>False) W a:=by rw[<-ae];exact(aO.refl _ W).alloc _
   have dj:a.cell? (W,0)=some (.int .i64 (t:Int)):=by rw[<-ae];simp[go_sem]
   obtain⟨u,M⟩:=nZ ((a.alloc (.cells #[v1,v2,aI,aK] 26)).alloc (.cells #[(t:Int)] 3));have a8:aO (λ_=>False) a u:=by rw[<-M];exact((aO.refl _ a).alloc _).alloc _
   have em:(u:Nat)=(a:Nat)+2:=by rw[<-M];simp
   have b4:Below w0 w0 u:=((aO.bS (F:=D0) bm.out).trans' (((aO.bS ak.out).trans' al.out λi _ h=>h).trans' ((cc.trans a8).mono λ_ _ h=>h.elim) λi _ (h:D0 i)=>h) λi _ h=>h).below lZ (λi h=>by
    rcases fP i (w0:Nat)with I|I
    .exact absurd h (Y.out i (.inl I))
    .exact I)
   have dg:xO u ((a:Nat)+1) (a:Nat) A c.aP.length ca v2 aI aK c.aP (t:Int):=by refine⟨by rw[<-M];simp[go_sem],by rw[<-M];simp[go_sem],oZ,?_,be.below b4⟩;rw[<-c0,<-M];exact(iB.new a v1 v2 aI aK).on (bZ)
   rw[M,<-d6];have en:=b4.size;have eo:=bm.out.size;have aj:=qZ (λi (h:D i)=>Z.out.1 _ _ _ av.out i h);have T:aO (λ_=>False) W u:=cc.trans a8;have dd:J D (kW c n k) u:=Z.out.2 _ _ _ _ (λ_=>False) av.out T (λ_ _ h=>h.elim);have ar:=qZ (aC bp.out.1 cw.out);have dq:aO D0 W0 u:=((aO.bS ak.out).trans' al.out λi _ h=>h).trans' T (λ_ _ h=>h.elim);clear ax e1 be ae M dn b1 b2 b3 cy dx dy dz;refine(wpIn_wide (n:=0)).1 (EM (aaD c du (t:Int) (by omega:(a:Nat)+1≠(a:Nat)) (λb o e=>by rw[aw]at e;cases e;omega)) rfl (λ_ _=>kZ) rfl
    (λW' dh=>dg.bD (aO.bS (F:=λ_=>False) dh) (λh=>h) (λh=>h) λ_ _ _ h=>h)
    (λi hi=>by
     rcases hi with rfl|rfl|⟨o,ah⟩
     .omega
     .omega
     .rw[aw]at ah;cases ah;omega) (λi hi=>.inl hi)
    (λD' pre=>J D' (kW c n k++pick n t pre)) (λD' pre W'=>Jx D' (kW c n k++[t]) W'/\kW c n k++[t]<+:Tree.below c n)
    (Z.out.sub (λpre=>kW c n k++pick n t pre) oZ λi hi=>.inr (by have:i=(a:Nat)+1:=hi;omega))
    ((bk.out.sub (λpre=>kW c n k++[t]) oZ λi hi=>.inr (by have:i=(a:Nat)+1:=hi;omega)).pure _)
    D (λi hi h=>by
     have:=aj.out i h;rcases hi with rfl|rfl|⟨o,ah⟩
     .omega
     .omega
     .rw[aw]at ah;cases ah;rcases O.out _ h with h|h
      .exact Y.out cz (.inl di) h
      .omega)
    (by show J D (kW c n k++pick n t []) u;rw[show pick n t []=[]from rfl,fC];exact dd) ?round ?done ?stop)
   case round=>
    intro l' eq D' pre x rest cx ei N j s y dv;gi_wp2;refine⟨trivial,λH az af ek=>?_⟩;have db:¬D (W:Nat):=λh=>by have:=aj.out _ h;omega
    have c5:H.cell? (W,0)=some (.int .i64 (t:Int)):=(af.cell (p:=⟨W,0,none⟩) (by show(W:Nat)<(u:Nat);omega) (by rintro(h|h);exact db h;have I:(W:Nat)=(a:Nat)+1:=h;omega)).trans ((a8.cell (p:=⟨W,0,none⟩) (by show(W:Nat)<(a:Nat);omega) λh=>h).trans dj);have dp:aO D0 W0 H:=dq.trans' af (λi hi h=>by
     rcases h with h|h
     .rcases O.out i h with h|h
      .exact h
      .omega
     .omega)
    have ee:H.cell? (bn,0)=some (.int .i64 n):=(dp.cell (p:=⟨bn,0,none⟩) ar.out.2 (Y.out bn (.inr (.inr rfl)))).trans cn.out;have c3:H.cell? (W0,0)=some (.func (.yield l) #[] #[]):=by
     refine(World.cell?_of_block (w:=f) ?_).trans d9.out;have dw:∀i,i<(f:Nat)->¬i<(W0:Nat)->¬D0 i:=λi _ h I=>h (bs.out i I);show H.heap[(W0:Nat)]? =f.heap[(W0:Nat)]?;have cd:¬D0 (W0:Nat):=dw _ oZ oZ;exact(af.block _ oZ (by
      rintro(h|h)
      .rcases O.out _ h with h|h
       .exact cd h
       .omega
      .omega)).trans ((T.block _ oZ λh=>h).trans (al.out.block _ oZ cd))
    have bj:=qZ az;by_cases z:(x:Int)=n
    .have a9:=adK c (t:Int);rw[N]at a9;have cg:pick n t pre=[]:=amh z a9;have ce:Tree.on c n t=true:=by unfold Tree.on;rw[lY];exact⟨x,by rw[N];simp,by simpa using z⟩
     obtain⟨ck,bf⟩:=cu.out ce;have b8:J D' (kW c n k) H:=by have:=bj.out;rw[cg,fC]at this;exact this
     obtain⟨fn,tmps,assign,body,ep,b0⟩:=cv.out D' (kW c n k) t ck H bf b8 (λi hi h=>by
      have dv:i<(W0:Nat):=by
       rcases hi with h|rfl|rfl
       .omega
       .exact ar.out.1
       .exact ar.out.2
      rcases y i h with h|h
      .rcases O.out i h with h|h
       .exact Y.out i hi h
       .omega
      .omega)
     have cs:=qZ b0;have ct:=qZ bf;have bb:=qZ (aeE (n:=n) (t:=t) (pre:=pre) z);have ea:((x:Int)==n)=true:=by simpa using z
     clear b0 a9 cg ce bf az j b8 s af z N;gi_wp2;refine⟨λh=>by simp[Fence.wide]at h,(aiM cs.out).mono ?_⟩;rintro e br (⟨rfl,ai⟩|⟨rfl,ai⟩)
     .have au:=qY (Step D' H (λX=>J X (kW c n k++pick n t (pre++[x]))) br) (by rw[bb.out];exact ai);clear ai;gi_wp2;exact au.out
     .have au:=qY (Step D' H (λX W'=>Jx X (kW c n k++[t]) W'/\kW c n k++[t]<+:Tree.below c n) br) (by obtain⟨X,d8,v,s⟩:=ai;exact⟨X,⟨d8,by rw[ct.out];exact⟨ck,sZ⟩⟩,v,s⟩);clear ai;gi_wp2;exact au.out
    .have ea:((x:Int)==n)=false:=by simpa using z
     have bb:=qZ (aeD (n:=n) (t:=t) (pre:=pre) z);clear az j s af z N;gi_wp2;refine⟨λ_ _=>trivial,?_⟩;gi_wp2;exact⟨D',by rw[bb.out];exact bj.out,λi h=>.inl h,aO.refl _ _⟩
   case done=>
    intro D' W' j s y v;have ad:Marks (f:Nat) D' ({target:=.collected (u:Nat),args:=#[]}::ds) W':=by
     have a5:aO D W W':=(T.mono λ_ _ h=>h.elim).trans' s (λi hi h=>by
      rcases h with h|h
      .exact h
      .omega)
     refine(aa.out.more a5 (λi h=>by rcases y i h with h|h;exact .inl h;right;omega)).cons v oZ (λh=>by
      rcases y _ h with h|h
      .have:=aj.out _ h;omega
      .omega) (λd v r' e=>?_)
     obtain⟨r,ab,bd,-⟩:=aa.out.1 d v;rw[e]at ab;cases ab;have:=(bT.1 bd).1;omega
    have b7:J D' (kW c n (k+1)) W':=by rw[<-cr.out];exact j
    have bu:∀i,D' i->D0 i\/(f:Nat)<=i:=λi h=>by
     rcases y i h with h|h
     .exact O.out i h
     .right;omega
    have cb:aO D0 f W':=(al.out.trans' T λ_ _ h=>h.elim).trans' s (λi hi h=>by
     rcases h with h|h
     .rcases O.out i h with h|h
      .exact h
      .omega
     .omega)
    have K:=qZ (aC b7 (aC bu (aC cb ad)));clear j s y v ad b7 bu cb;go_wp2_with fail;have de:=df.out;have dt:k<1000000:=aM Q de;have d7:=akO k dt;rw[d7];refine⟨⟨k+1,_,D',_,_,_,_,_,_,_,_,_,_,_,_,_,_,_,_,_,_,_,Nat.succ_le_of_lt Q,K.out.1,K.out.2.1,K.out.2.2.1,K.out.2.2.2,rfl⟩,?_⟩;show L-(k+1)<L-k;exact Nat.sub_lt_sub_left Q (Nat.lt_succ_self k)
   case stop=>
    intro D' pre W' ej j s y v;have ad:Marks (f:Nat) D' ({target:=.collected (u:Nat),args:=#[]}::ds) W':=by
     have a5:aO D W W':=(T.mono λ_ _ h=>h.elim).trans' s (λi hi h=>by
      rcases h with h|h
      .exact h
      .omega)
     refine(aa.out.more a5 (λi h=>by rcases y i h with h|h;exact .inl h;right;omega)).cons v oZ (λh=>by
      rcases y _ h with h|h
      .have:=aj.out _ h;omega
      .omega) (λd v r' e=>?_)
     obtain⟨r,ab,bd,-⟩:=aa.out.1 d v;rw[e]at ab;cases ab;have:=(bT.1 bd).1;omega
    obtain⟨j,N⟩:=j;have K:=qZ (aC j ad);have cq:=qZ N;clear j s y v ad N;go_wp2_with fail;refine GA (λW=>results_none rfl _ _ _) _ W' K.out.2 (λcx a0=>⟨⟨_,rfl⟩,.inr ⟨D',_,cq.out,?_⟩⟩);exact bk.out.2 _ _ _ _ _ K.out.1 a0 λi _ h=>⟨h.2,.inr oZ⟩
  .have eh:decide (k<L)=false:=by simpa using Q
   have dk:=UZ c n k (by rw[bl.out];omega);clear Q;go_wp2_with fail;refine GA (λW=>results_none rfl _ _ _) ds W aa.out (λW' a0=>⟨⟨_,rfl⟩,.inl ⟨D,?_⟩⟩);rw[<-dk];exact Z.out.2 _ _ _ _ _ av.out a0 λi _ h=>⟨h.2,.inr oZ⟩
end bM
namespace L
open Go Go.RowKit
section
variable {P:Program} {ops:Array Oper}
theorem JM{Q:Exit->Act->World->Prop}{l n:Nat}(d:¬LetsOut Q):∀(b:List Oper),(∀o∈b,∀c:Call,o.op≠Op.defer c)->∀(a:Act) (w:World),wpList P ops Q b a w->wpListIn (Fence.wide.inRound l) n P ops Q b a w
 |[],_,_,_,h=>h
 |o::b,f,a,w,h=>by
  unfold wpList at h;unfold wpListIn;split
  .rename_i hw;simp only[hw,if_true]at h;exact Oper.wpIn_mono (λa w k=>JM d b (λo e=>f o (by simp[e])) a w k) (ahC (f o sZ) (h.resolve_right λg=>d g.2))
  .rename_i hw;simp only[hw]at h;exact⟨λ_ _=>trivial,JM d b (λo e=>f o (by simp[e])) _ _ h⟩
theorem FU{id d m:Nat}{Q:Exit->Act->World->Prop}{a:Act}{w:World}{l:List Oper}(b:¬LetsOut Q)(e:MK l=true)(h:wpList P l.toArray Q l a w):(Code.region id l.toArray false).wpIn (Fence.wide.inRound d) m P Q a w:=
 wpIn_region_lit (JM b l (λo c=>by obtain⟨i,hi⟩:=List.getElem?_of_mem c;exact FY e (by simpa using hi)) a w h)
end
end L
namespace bM
open Go Go.RowKit L
attribute [local go_sem] Oper.semAt_some
def aqP(b0 B:Nat)(D:Nat->Prop)(pre:List Nat)(W:World):Prop:=∃v,W.cell? (b0,0)=some v/\W.frozen? (b0,0)=false/\b0<(W:Nat)/\nC W B v pre/\v.ownBlock≠some b0/\∀k,D k↔(k=b0\/v.ownBlock=some k)
theorem akB(a B B':Nat)(own:Nat->Prop):vF B' own (aqP a B):=
 ⟨λD pre W ⟨v,h1,h2,h3,h4,h5,b⟩ k c=>by
  rcases(b k).1 c with rfl|h
  .exact h3
  .exact(h4.lt k h).2,λD pre W W' F ⟨v,h1,h2,h3,h4,h5,b⟩ kp hF=>by
  have d:=λh:F a=>(hF a h3 h).1 ((b a).2 (.inl rfl));refine⟨v,(kp.cell (p:=⟨a,0,none⟩) h3 d).trans h1,(kp.frozen (p:=⟨a,0,none⟩) h3 d).trans h2,aM h3 kp.size,h4.bD λk c=>kp.block k (h4.lt k c).2 λh=>?_,h5,b⟩;exact(hF k (h4.lt k c).2 h).1 ((b k).2 (.inr c))⟩
def aas(own:Nat->Prop)(l:List Nat)(w:World)(e:Ending)(w':World):Prop:=∃v,e=.returned v/\nC w' (w:Nat) v l/\aO own w w'
theorem adk{f:FuncId}{caps:Array Value}{xs:List Nat}{R own:Nat->Prop}{St:World->Prop}(Y:RS f caps xs R own St)(N:∀args w,(callFunc f args).run prog w=.ok (.enter f args) w){w:World}(ae:∀W,Below w w W->St W)(Q:∀k,R k->k<(w:Nat))(ab:∀k,own k->R k)(aa:xs.length<=1000000):Calls prog 237 #[true,.func (.func f) #[] caps] w λe w'=>aas own xs w e w':=by
 have ak:=qZ Y;have ag:=qZ N;have aj:=qZ ae;have M:=qZ Q;have ai:=qZ ab;have ah:=qZ aa;clear Y N ae Q ab aa;refine(callsIn_wide (n:=0)).1 (callsIn_of_wp_marks func237 rfl trivial (wpIn_wide.2 ?_));simp only[ntmps237,gB,List.length_cons,List.length_nil,Nat.reduceAdd,Nat.reduceSub,lS,Array.replicate_zero,List.push_toArray,fH,List.nil_append,List.cons_append];have T:Below w w (w.alloc (.cells #[true] 36)):=bZ;have an:(w.alloc (.cells #[true] 36)).cell? (w,0)=some (.slice none 0 0):=by simp[go_sem]
 have ap:(w.alloc (.cells #[true] 36)).frozen? (w,0)=false:=by simp[go_sem]
 have a5:(w.alloc (.cells #[true] 36)).heap.size=(w:Nat)+1:=sZ;go_wp2_with fail;generalize w.alloc (.cells #[true] 36)=W0 at*;refine(wpIn_wide (n:=0)).1 (EM ak.out rfl ag.out rfl (λW h=>aj.out W (aA T h)) (λk h=>by have:=M.out k h;omega) ai.out (aqP (w:Nat) (w:Nat)) (λ_ _ _=>False) (akB _ _ _ _) ⟨λ_ _ _ h=>h.elim,λ_ _ _ _ _ h=>h.elim⟩
  (λk=>k=(w:Nat)) (λk h e=>by have:=M.out k h;omega) ⟨_,an,ap,oZ,fI.nil _ _ _,by simp[Value.ownBlock],λk=>by simp[Value.ownBlock]⟩ ?round ?done (λ_ _ _ _ h=>h.elim))
 case round=>
  intro l m D pre x rest W au ad I a s av;gi_wp2;refine⟨trivial,λd aq ar ax=>?_⟩;obtain⟨v,O,H,g,c,r,b⟩:=aq;have ay:pre.length<=1000000:=by have:=ah.out;rw[ad,aW]at this;omega
  obtain⟨v',w',aw,u,X,J⟩:=EZ c (Nat.le_of_lt g) x oZ;have o:aO (λk=>v.ownBlock=some k) d w':=((aO.refl _ d).alloc _).trans (aO.lG X λi e=>e);have al:w'.cell? (w,0)=some v:=(o.cell (p:=⟨w,0,none⟩) g r).trans O;have am:w'.frozen? (w,0)=false:=(o.frozen (p:=⟨w,0,none⟩) g r).trans H;have K:v'.ownBlock≠some (w:Nat):=λe=>by
   rcases J _ e with h|h
   .exact r h
   .omega
  have y:aO (λk=>k=(w:Nat)) w' (w'.setCell (w,0) v'):=(aO.refl (λk=>k=(w:Nat)) w').setCell (p:=⟨w,0,none⟩) (.inl rfl) _;have z:=qY (Step D d (λD'=>aqP (w:Nat) (w:Nat) D' (pre++[x])) (w'.setCell (w,0) v')) (⟨λk=>k=(w:Nat)\/v'.ownBlock=some k,⟨v',World.cell?_setCell_same' _ _ _ (by rw[al];rfl),by rw[World.frozen?_setCell];exact am,aM (aM g o.size) y.size,u.bD λk a=>y.block k (u.lt k a).2 λe=>K (by rw[a,e]),K,λk=>Iff.rfl⟩,λk a=>by
     rcases a with rfl|a
     .exact .inl ((b _).2 (.inl rfl))
     .rcases J k a with h|h
      .exact .inl ((b k).2 (.inr h))
      .exact .inr h,(o.mono λi _ e=>(b i).2 (.inr e)).trans (y.mono λi _ e=>(b i).2 (.inl e))⟩)
  obtain⟨af,c5,A,-⟩:=fI.form u;subst A;have az:∀j,¬(w:Nat)=(d:Nat)+j:=λj e=>oZ;have a0:¬(w:Nat)=(d:Nat):=λe=>oZ;clear ar c b u X J o K y a s I ad ax au av;refine wpIn_block (FU (λ⟨_,_,h⟩=>by cases h) rfl ?_);go_wp2_with(at_builtin;refine dJ rfl (.tmp 8) (.tmp 10) _ _ rfl v (.slice d 1 1) rfl rfl aw ?_);exact z.out
 case done=>
  intro D W I a s ao;obtain⟨v,O,H,g,c,r,b⟩:=I;have L:=mY W (W0:Nat) (.deferred none);have z:=qY (aas own xs w (.returned v) (W.putObj (W0:Nat) (.deferred none))) (⟨v,rfl,c.bD (λk Z=>L.block k (c.lt k Z).2 (λe=>by
    rcases s k ((b k).2 (.inr Z))with h|h
    .omega
    .omega)),((aO.bS (F:=own) T).trans' (a.trans' L λi hi h=>oZ) (λi hi h=>by
     rcases h with h|h
     .omega
     .exact h))⟩)
  obtain⟨af,c5,A,-⟩:=fI.form c;subst A;clear a s c b L H;go_wp2_with fail;refine⟨sZ,.inl ⟨_,_,rfl,run_takeDeferred ao,?_⟩⟩;exact⟨_,by simp[results,Tryz.results237,go_sem],z.out⟩
theorem UQ{f:FuncId}{caps:Array Value}{xs:List Nat}{R own:Nat->Prop}{St:World->Prop}(d:RS f caps xs R own St)(b:∀args w,(callFunc f args).run prog w=.ok (.enter f args) w){w:World}(m:∀W,Below w w W->St W)(c:∀k,R k->k<(w:Nat))(l:∀k,own k->R k)(j:xs.length<=1000000):Calls prog 198 #[.func (.func f) #[] caps] w λe w'=>aas own xs w e w':=by have g:=qZ (adk d b m c l j);clear d b m c l j;go_enter func198,ntmps198;go_wp2_with fail;refine g.out.mono ?_;rintro e w'⟨v,rfl,a,i⟩;have n:=qY (aas own xs w (.returned v) w') (⟨v,rfl,a,i⟩);obtain⟨p,c5,o,-⟩:=fI.form a;subst o;clear a i;go_wp2_with fail;go_ret;exact n.out
theorem acP{w:World}{v:Value}{c:Cfg.C}(b:bX w v c)(M:c.aP.length<=1000000)(n:Int):∀w1,Below w w w1->Calls prog 221 #[v,n] w1 λe w'=>sU (Tree.below c n) w1 e w':=by
 intro w1 s;replace b:=b.below s;clear s;obtain⟨v1,v2,rfl,-⟩:=id b;obtain⟨aI,y⟩:=nZ c.aI;obtain⟨aK,o⟩:=nZ c.aK;rw[y,o]at b⊢;have H:=qZ b;have A:(Tree.below c n).length<=1000000:=by have Y:=eF (λt=>Tree.on c n t) (iG c);have L:=yP c c.aP.length;have Z:(iG c).length<=c.aP.length:=L;unfold Tree.below;omega
 have J:=qZ A;clear b A y o;have r:Below w1 w1 (w1.alloc (.cells #[v1,v2,aI,aK] 26)):=bZ;have N:=(iB.new w1 v1 v2 aI aK);obtain⟨z0,z1,z2,T,z4⟩:=N;have O:(w1.alloc (.cells #[v1,v2,aI,aK] 26)).heap.size=(w1:Nat)+1:=sZ;go_enter func221,ntmps221;have l:=qZ r;clear r;go_wp2_with fail;generalize w1.alloc (.cells #[v1,v2,aI,aK] 26)=a at*;refine(TL v1 v2 aI aK n a).mono ?_;rintro e j⟨rfl,rfl⟩;have u:Below a a ((a.alloc (.cells #[v1,v2,aI,aK] 26)).alloc (.cells #[n] 3)):=kp;have F:iB ((a.alloc (.cells #[v1,v2,aI,aK] 26)).alloc (.cells #[n] 3)) (a:Nat) v1 v2 aI aK:=(iB.new a v1 v2 aI aK).on (bZ);have x:((a.alloc (.cells #[v1,v2,aI,aK] 26)).alloc (.cells #[n] 3)).cell? ((a:Nat)+1,0)=some (.int .i64 n):=by simp[go_sem]
 have aa:((a.alloc (.cells #[v1,v2,aI,aK] 26)).alloc (.cells #[n] 3)).heap.size=(a:Nat)+2:=sZ;generalize(a.alloc (.cells #[v1,v2,aI,aK] 26)).alloc (.cells #[n] 3)=j at*;have m:=qZ u;have g:=qZ (UQ (w:=j) (PE H.out M n (a:Nat) ((a:Nat)+1)) (λ_ _=>kZ) (λW d=>⟨aA (aA l.out m.out) d,F.on d,(d.cell (p:=⟨(a:Nat)+1,0,none⟩) (by show(a:Nat)+1<(j:Nat);omega)).trans x,by have:=d.size;omega⟩)
  (λk h=>oZ) (λk h=>h.elim) J.out)
 clear u F x z1 z2 T z4;go_wp2_with fail;rw[<-O];refine g.out.mono ?_;rintro e Q⟨v,rfl,f,z⟩;have I:=qY (sU (Tree.below c n) w1 (.returned v) Q) (⟨v,rfl,fI.low f oZ,aA (aA l.out m.out) (z.below lZ λi h=>h.elim)⟩);obtain⟨X,c5,K,-⟩:=fI.form f;subst K;clear f z g;go_wp2_with fail;go_ret;exact I.out
end bM
variable{xs:List Vec.V}{va:Value}
namespace bM
open Go Go.RowKit L
attribute [local go_sem] Oper.semAt_some
def att(v:Vec.V):Array Value:=#[.int .i64 v.x,.int .i64 v.y,.int .i64 v.z]
def kH(W:World)(b:Nat)(v:Vec.V):Prop:=Blk W b 40 (att v)
theorem kH.cells{b:Nat}{v:Vec.V}(h:kH W b v):VAt W b 0 v/\(∀i,W.frozen? ⟨b,i,none⟩=false)/\b<(W:Nat):=⟨⟨Blk.cell h 0,Blk.cell h 1,Blk.cell h 2⟩,λi=>Blk.frozen h i,Blk.lt h⟩
theorem kH.new(W:World)(v:Vec.V):kH (W.alloc (.cells (att v) 40)) (W:Nat) v:=Blk.new W _ _
theorem kH.store{b:Nat}{v:Vec.V}(h:kH W b v)(u:Vec.V):kH (((W.setCell (b,0) u.x).setCell (b,1) u.y).setCell (b,2) u.z) b u:=((Blk.bV h 0 _).bV 1 _).bV 2 _
theorem sO(W:World)(b:Nat)(x y z:Value):aO (λk=>k=b) W (((W.setCell (b,0) x).setCell (b,1) y).setCell (b,2) z):=
 (((aO.refl (λk=>k=b) W).setCell (p:=⟨b,0,none⟩) (.inl rfl) _).setCell (p:=⟨b,1,none⟩) (.inl rfl) _).setCell (p:=⟨b,2,none⟩) (.inl rfl) _
def aqL(b:Nat)(g:List Nat->Vec.V)(D:Nat->Prop)(pre:List Nat)(W:World):Prop:=kH W b (g pre)/\∀k,D k↔k=b
theorem aiA(b:Nat)(g:List Nat->Vec.V)(B:Nat)(own:Nat->Prop):vF B own (aqL b g):=
 ⟨λD pre W ⟨a,h2⟩ k hk=>by have:k=b:=(h2 k).1 hk;subst this;exact Blk.lt a,λD pre W W' F ⟨a,h2⟩ kp hF=>⟨Blk.bD a kp λh=>(hF b (Blk.lt a) h).1 ((h2 b).2 rfl),h2⟩⟩
theorem aey(u:bX w v c)(cb:c.aP.length<=1000000)(Z:VSl w va xs)(n:Int):gX prog w 180 #[v,n,va] (Tree.sum c n xs).val:=by
 intro w1 ao;replace u:=u.below ao;replace Z:=Z.below ao;clear ao;obtain⟨v1,v2,rfl,-⟩:=id u;obtain⟨aI,bl⟩:=nZ c.aI;obtain⟨aK,bj⟩:=nZ c.aK;rw[bl,bj]at u⊢;have bz:=qZ u;have a5:=qZ Z;obtain⟨A,ca,rfl,-⟩:=Z;clear u bl bj;obtain⟨G,am⟩:∃G:List Nat->Vec.V,G=λl=>l.foldl (λv (t:Nat)=>Vec.add v (Tree.dD xs (t:Int))) Vec.zero:=⟨_,rfl⟩;have a9:=qZ am;have bi:Tree.sum c n xs=G (Tree.below c n):=by rw[am];rfl
 rw[bi];clear am bi;obtain⟨N,bh⟩:=nZ xs.length;rw[bh]at a5⊢;clear bh;refine(callsIn_wide (n:=0)).1 (callsIn_of_wp_marks func180 rfl trivial (wpIn_wide.2 ?_));simp only[ntmps180,gB,List.length_cons,List.length_nil,Nat.reduceAdd,Nat.reduceSub,lS,Array.replicate_zero,List.push_toArray,fH,List.nil_append,List.cons_append];have bk:Below w1 w1 ((((w1.alloc (.cells #[v1,v2,aI,aK] 26)).alloc (.cells #[.slice A N ca] 51)).alloc (.cells #[(),(),()] 40)).alloc (.cells #[(),(),()] 40)):=kp;have bn:((((w1.alloc (.cells #[v1,v2,aI,aK] 26)).alloc (.cells #[.slice A N ca] 51)).alloc (.cells #[(),(),()] 40)).alloc (.cells #[(),(),()] 40)).cell? ((w1:Nat)+1,0)=some (.slice A N ca):=by simp[go_sem]
 have H:kH ((((w1.alloc (.cells #[v1,v2,aI,aK] 26)).alloc (.cells #[.slice A N ca] 51)).alloc (.cells #[(),(),()] 40)).alloc (.cells #[(),(),()] 40)) ((w1:Nat)+1+1) Vec.zero:=by have h:=kH.new ((w1.alloc (.cells #[v1,v2,aI,aK] 26)).alloc (.cells #[.slice A N ca] 51)) Vec.zero;simp only[bC]at h;exact Blk.alloc h _
 have hv:kH ((((w1.alloc (.cells #[v1,v2,aI,aK] 26)).alloc (.cells #[.slice A N ca] 51)).alloc (.cells #[(),(),()] 40)).alloc (.cells #[(),(),()] 40)) ((w1:Nat)+1+1+1) Vec.zero:=by have h:=kH.new (((w1.alloc (.cells #[v1,v2,aI,aK] 26)).alloc (.cells #[.slice A N ca] 51)).alloc (.cells #[(),(),()] 40)) Vec.zero;simp only[bC]at h;exact h
 have I:((((w1.alloc (.cells #[v1,v2,aI,aK] 26)).alloc (.cells #[.slice A N ca] 51)).alloc (.cells #[(),(),()] 40)).alloc (.cells #[(),(),()] 40)).heap.size=(w1:Nat)+4:=sZ;have ag:=qZ bk;have b2:=qZ bn;have ba:=qZ H;have bc:=qZ hv;have b1:=qZ I;clear bk bn H hv I;go_wp2_with fail;generalize(((w1.alloc (.cells #[v1,v2,aI,aK] 26)).alloc (.cells #[.slice A N ca] 51)).alloc (.cells #[(),(),()] 40)).alloc (.cells #[(),(),()] 40)=a at*;refine(TL v1 v2 aI aK n a).mono ?_;rintro e g⟨rfl,rfl⟩;go_wp2_with fail;have J:Below a a ((a.alloc (.cells #[v1,v2,aI,aK] 26)).alloc (.cells #[n] 3)):=kp;have a0:iB ((a.alloc (.cells #[v1,v2,aI,aK] 26)).alloc (.cells #[n] 3)) (a:Nat) v1 v2 aI aK:=(iB.new a v1 v2 aI aK).on (bZ);have ap:((a.alloc (.cells #[v1,v2,aI,aK] 26)).alloc (.cells #[n] 3)).cell? ((a:Nat)+1,0)=some (.int .i64 n):=by simp[go_sem]
 have ax:((a.alloc (.cells #[v1,v2,aI,aK] 26)).alloc (.cells #[n] 3)).heap.size=(a:Nat)+2:=sZ;generalize(a.alloc (.cells #[v1,v2,aI,aK] 26)).alloc (.cells #[n] 3)=g at*;have I:=b1.out;have aq:=PE bz.out cb n (a:Nat) ((a:Nat)+1);have az:kH g ((w1:Nat)+1+1+1) Vec.zero:=Blk.below bc.out J (Blk.lt bc.out);have T:=qZ J;refine(wpIn_wide (n:=0)).1 (EM aq rfl (λ_ _=>kZ) rfl (λW d=>⟨aA (aA ag.out J) d,a0.on d,(d.cell (p:=⟨(a:Nat)+1,0,none⟩) (by show(a:Nat)+1<(g:Nat);omega)).trans ap,by have:=d.size;omega⟩)
  (λk h=>oZ) (λk h=>h.elim) (aqL ((w1:Nat)+1+1+1) G) (λ_ _ _=>False) (aiA _ _ _ _) ⟨λ_ _ _ h=>h.elim,λ_ _ _ _ _ h=>h.elim⟩ (λk=>k=(w1:Nat)+1+1+1) (λk h e=>oZ)
  ⟨by rw[a9.out];exact az,λk=>Iff.rfl⟩ ?round ?done (λ_ _ _ _ h=>h.elim))
 case round=>
  intro l m D pre x rest W cg cj ar M al ci;gi_wp2;refine⟨trivial,λf ce au ck=>?_⟩;obtain⟨s,X⟩:=ce;have bm:aO (λk=>k=(w1:Nat)+1+1+1) w1 f:=((aO.bS (aA ag.out T.out)).trans' au (λi hi h=>by rcases h with h|h;exact h;exact h.elim));have o:Below w1 w1 f:=bm.below lZ (λi h=>oZ);have be:=qZ ((GX (a5.out.below o) (x:Int)).up (ES _));have bf:=qZ (jN.BR (G pre) (Tree.dD xs (x:Int)));have bo:f.cell? ((w1:Nat)+1,0)=some (.slice A N ca):=(au.cell (p:=⟨(w1:Nat)+1,0,none⟩) (by show(w1:Nat)+1<(g:Nat);omega) (by rintro(h|h);have b9:(w1:Nat)+1=(w1:Nat)+1+1+1:=h;omega;exact h)).trans ((T.out.cell (p:=⟨(w1:Nat)+1,0,none⟩) (by show(w1:Nat)+1<(a:Nat);omega)).trans b2.out);have bp:G (pre++[x])=Vec.add (G pre) (Tree.dD xs (x:Int)):=by rw[a9.out];simp only[fB];rfl
  have bb:=qZ bp;obtain⟨br,aw⟩:=nZ (G (pre++[x]));have b3:=qZ aw;rw[aw]at bb;have bd:=qZ s;have a8:=qZ X;clear aw bp;generalize G pre=y at*;generalize Tree.dD xs (x:Int)=z at*;have bg:bW prog 40 #[y.val,z.val] br.val:=bf.out.val (by rw[bb.out]);obtain⟨j,r1,r2⟩:=br;obtain⟨bu,bv,bw⟩:=y;obtain⟨z0,z1,z2⟩:=z;have aj:∀W,aF f W->Calls prog 44 #[.slice A N ca,(x:Int)] W λe W'=>e=.returned (.agg #[z0,z1,z2])/\aF f W':=be.out;have ak:bW prog 40 #[.agg #[bu,bv,bw],.agg #[z0,z1,z2]] (.agg #[j,r1,r2]):=bg;obtain⟨⟨ab,ad,ae⟩,af,Q⟩:=bd.out.cells;have ch:(w1:Nat)+1<(f:Nat):=oZ;have b5:=λW' (k:aF f W')=>k.cell (b:=(w1:Nat)+1) ch bo;have b6:=λW' (k:aF f W')=>k.cell Q ab;have b7:=λW' (k:aF f W')=>k.cell Q ad;have b8:=λW' (k:aF f W')=>k.cell Q ae;clear be bf bg bo ab ad ae af s X bm o M ar cg ci ck au cj aq J a0 ap ax az I al;gi_wp2;refine yN 5 (λ⟨_,_,h⟩=>by cases h) kZ kZ kZ ?_;simp only[List.take_succ_cons,List.take_zero,bH,bJ];(repeat refine kY ?_);refine kM ?_ (h:=by intro W d;go_simp;first|exact aj W d|exact⟨d,aj W d⟩);refine kM ?_ (h:=by intro W d;go_simp;first|exact bW.up ak d|exact⟨d,bW.up ak d⟩);refine eH ?_;intro ai an;have ay:kH ai ((w1:Nat)+1+1+1) ⟨bu,bv,bw⟩:=Blk.below bd.out an Q;obtain⟨⟨ab,ad,ae⟩,af,cn⟩:=ay.cells;have ah:=qY (Step D f (λD'=>aqL ((w1:Nat)+1+1+1) G D' (pre++[x])) (((ai.setCell ((w1:Nat)+1+1+1,0) j).setCell ((w1:Nat)+1+1+1,1) r1).setCell ((w1:Nat)+1+1+1,2) r2)) (⟨D,⟨by rw[b3.out];exact kH.store ay ⟨j,r1,r2⟩,a8.out⟩,λk h=>.inl h,(aO.bS an).trans ((sO ai _ _ _ _).mono λi _ e=>(a8.out i).2 e)⟩);clear b5 b6 b7 b8 aj ak an ay;go_wp2_with fail;exact ah.out
 case done=>
  intro D W ar M al K;obtain⟨s,X⟩:=ar;have av:kH W ((w1:Nat)+1+1) Vec.zero:=Blk.bD (Blk.below ba.out T.out (Blk.lt ba.out)) M (by rintro(h|h);have b9:(w1:Nat)+1+1=(w1:Nat)+1+1+1:=h;omega;exact h);obtain⟨r,H⟩:=nZ (G (Tree.below c n));rw[H]at s;have b0:=qZ H;obtain⟨j,r1,r2⟩:=r;clear H;obtain⟨⟨ab,ad,ae⟩,af,Q⟩:=s.cells;obtain⟨⟨cm,p1,p2⟩,p3,p4⟩:=av.cells;have o:Below w1 w1 W:=((aO.bS (F:=λk=>k=(w1:Nat)+1+1+1) (aA ag.out T.out)).trans' M (λi hi h=>by rcases h with h|h;exact h;exact h.elim)).below lZ (λi h=>oZ);have Y:(g:Nat)<(W:Nat):=(bT.1 K).1;have aa:=kH.store av ⟨j,r1,r2⟩;have O:=sO W ((w1:Nat)+1+1) j r1 r2;have ah:=qZ (aC aa (aC O (aC o K)));have b4:=qZ (aC I (aC ax Y));clear s X M al av o K aa O aq J a0 ap ax az I Y af;go_wp2_with fail;rw[b0.out];generalize((W.setCell ((w1:Nat)+1+1,0) j).setCell ((w1:Nat)+1+1,1) r1).setCell ((w1:Nat)+1+1,2) r2=Ws at*;obtain⟨aa,O,o,K⟩:=ah.out;obtain⟨e4,cl,Y⟩:=b4.out;have cc:Ws.heap[(g:Nat)]? =some (.deferred (some [])):=(O.block _ Y (by show¬(g:Nat)=(w1:Nat)+1+1;omega)).trans K;have bq:=mY Ws (g:Nat) (.deferred none);have cd:kH (Ws.putObj (g:Nat) (.deferred none)) ((w1:Nat)+1+1) ⟨j,r1,r2⟩:=Blk.bD aa bq (by show¬(w1:Nat)+1+1=(g:Nat);omega);obtain⟨⟨x0,bs,bt⟩,-,-⟩:=cd.cells;refine⟨sZ,.inl ⟨_,_,rfl,run_takeDeferred cc,?_⟩⟩;refine⟨.agg #[j,r1,r2],?_,rfl,?_⟩
  .simp only[aU]at bs bt;simp[results,Tryz.results180,go_sem,x0,bs,bt]
  .exact o.trans (((O.mono λi _ (e:i=(w1:Nat)+1+1)=>(show(w1:Nat)<=i by omega)).trans' (G:=λi=>(w1:Nat)<=i) (bq.mono λi _ (e:i=(g:Nat))=>(show(w1:Nat)<=i by omega)) λi _ h=>h).below o.size λi h=>h)
end bM
end Go.Proofs.YtedmeglbjmdlhaaGreatDoor
