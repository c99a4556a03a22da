/-
Parts of TopFirst.
-/
import Derived.Test.YtedmeglbjmdlhaaGreatDoorF12
set_option maxRecDepth 100000
set_option maxHeartbeats 16000000
set_option linter.all false
open Go.Proofs.Tryz
namespace Go.Proofs.YtedmeglbjmdlhaaGreatDoor
open Go.Value renaming slice->ac,int->cF,tuple->dE,bool->eA,agg->eC,slice->eJ,pointer->eL
open Go.RowKit renaming Below->cA
open L.aD renaming drew->cC
open Option renaming none->cD,some->cI,getD_some->gd
open Bool renaming true->cE,false->cQ
open Go.IntKind renaming i64->cG,wrap_i64->cX
open Go.Ending renaming returned->cH
open Go.Obj renaming cells->cJ
open Go.Proofs.Tryz renaming prog->cL
open Go renaming World->cM,Calls->cN,bodyPost_ret->cT,Value->cU,wpList->cY,maxLen->eR,results_none->fN,Ending->gm
open List renaming replicate->cP,drop->cS,length_cons->fX,cons_append->ga,find?_some->gf,find?_cons->gg,nil_append->gh
open L.Blk renaming bR->cR,new->cV,far->eI,alloc->fw,drew->gl
open Top renaming bytes->cW,look->dC,S->eE,Rd->eM,choose->eV,aDm->fy,rounds->fz,tick->fL,start->fW,iJ->gb,find->gi,dX->gj,xU->gn,run->gr,Cmd->gu,E->gv,never->gw,Plain->gx,dR->gy,Good->gz,used->gA,free->gC
open L.aL renaming bQ->dT,refl->eN,setCell->gp
open Go.Value.agg renaming injEq->eK
open Ord renaming P->eQ
open Cfg renaming check->eS,C->eW
open L.bL renaming nil->fx
open Go
open Cfg Dec Fix L Ord Quo Srt Top Vec bO bT eO rM
namespace bT
open Go.RowKit L bO eO Srt
section
variable {P:Program} {ops:Array Oper} {Q:Exit->Act->cM->Prop} {S:cM->Prop}
theorem sK{i:Nat}{r:PT}{o:Oper}{a a':Act}{w w1:cM}(hi:ops[i]? =cI o)(e:Region.wanted o (yielded ops a.tmps)=cE)(h:(execOp a.eval o).run P w=.ok .skip w1)(b:S w1)(c:a.put o.dst undef=a')(d:rQ P ops Q S r a' w1):JC P ops Q S i r a w:=by subst c;constructor;unfold wpOp;simp only[hi,e,if_true,Oper.wp,h,Oper.upon];exact .inl ⟨b,d.out⟩
end
theorem amt{c:eW}{x:eM}{l:List Int}(b:BZ x)(m:(cB x.rs).Nodup)(f:wQ c x.rs l):BZ (lJ x l):=by
 have j:∀id∈l,id∈cB x.rs:=λid i=>by obtain⟨r,a,e,_⟩:=f.of id i;exact bU.2 ⟨r,a,e⟩
 have d:=(yB m l x.ps x.ev f.nodup j).1;have k:=d.length_eq;simp only[aW,Top.gs,bP]at k;have hs:=b.sum;have e1:(lJ x l).ps=(l.foldl (oM x.rs) (x.ps,x.ev)).1:=rfl;have e2:(lJ x l).rs=dH x.rs l:=rfl;have n:(lJ x l).ps.length+(lJ x l).rs.length<=100:=by rw[e1,e2];omega
 refine⟨λp g=>?_,λr a=>?_,oZ,n⟩
 .rw[e1,e2]at g;exact b.kV p (d.mem_iff.1 g)
 .rw[e2]at a;exact b.rs r (iF.1 a).1
theorem YH:∀(l m:List Int),l.Nodup->(∀x∈l,x∈m)->l.length<=m.length
 |[],m,_,_=>bI _
 |x::t,m,h,hs=>by have b:=hs x (bJ ..);have a:=iE.1 h;have d:=YH t (m.erase x) a.2 (λy c=>(List.mem_erase_of_ne (by intro e;subst e;exact a.1 c)).2 (hs y (bK _ c)));rw[List.length_erase_of_mem b]at d;have:=List.length_pos_of_mem b;simp only[fX];omega
theorem IW{c:eW}{rs:List Top.R}{l:List Int}(a:wQ c rs l):l.length<=rs.length:=by
 have d:∀id∈l,id∈cB rs:=λid b=>by obtain⟨r,f,e,_⟩:=a.of id b;exact bU.2 ⟨r,f,e⟩
 have:=YH l _ a.nodup d;simpa[cB]using this
structure pG (rb pb:Nat) (v1 v2 vr:Value) (aG aJ aQ:Int) (ps:Array Value) (W:World):Prop where
 c0:W.cell? (rb,0)=some v1
 c1:W.cell? (rb,1)=some v2
 c2:W.cell? (rb,2)=some (.int .i64 aG)
 c3:W.cell? (rb,3)=some (.int .i64 aJ)
 c4:W.cell? (rb,4)=some (.int .i64 aQ)
 c7:W.cell? (rb,7)=some vr
 dV:Blk W pb 44 ps
theorem pG.of{W:cM}{b a:Nat}{v1 v2 vp vr e d v10 v11 f:cU}{aG aJ aQ:Int}{ps:Array cU}(h:Blk W b 91 #[v1,v2,aG,aJ,aQ,f,vp,vr,e,d,v10,v11])(c:Blk W a 44 ps):pG b a v1 v2 vr aG aJ aQ ps W:=
 ⟨h.cell 0,h.cell 1,h.cell 2,h.cell 3,h.cell 4,h.cell 7,c⟩
theorem oG.below{d w w1 w':cM}{L a:Nat}{v1 v2 c vr b:cU}{s:eE}{y:eM}(e:cA w w w1)(h:oG L d w1 a v1 v2 c vr b s y w'):oG L d w a v1 v2 c vr b s y w':=
 oG.after (dT e) (λi hi=>.inl hi) h
theorem mD.out{e w w':cM}{L b:Nat}{v1 v2 d vp vr c:cU}{s:eE}{rl:List Run}{x:eM}(h:mD L e w b v1 v2 d vp vr c s rl x)(a:cA w w w'):oG L e w b v1 v2 d vr c s x w':=
 ⟨_,_,_,_,h.dN a,dT a,λi hi=>.inl hi⟩
theorem aiM{c:eW}{aQ:Int}{x y:eM}{p:eQ}(h:fy c aQ x p=cI y):dC c aQ x p=y:=by unfold dC;rw[h]
theorem aiN{c:eW}{aQ:Int}{x:eM}{p:eQ}(h:fy c aQ x p=cD)(a:x.head=cE):dC c aQ x p=x:=by unfold dC;rw[h];simp[a]
theorem aiO{c:eW}{aQ:Int}{x:eM}{p:eQ}(h:fy c aQ x p=cD)(a:x.head=cQ):dC c aQ x p=match eV c x.rs p with
  |some cB=>(fy c aQ (lJ x cB) p).getD (lJ x cB)
  |none=>match fW c aQ x.rs p with
   |some t=>{x with head:=cE,start:=t,ev:=x.ev++[⟨4,p.id,t⟩]}
   |none=>{x with start:=0}:=by
 unfold dC;rw[h];show(if x.head=cE then x else _)=_;rw[aF (by rw[a];decide)];cases eV c x.rs p with
 |some cB=>rfl
 |none=>cases fW c aQ x.rs p<;>rfl
theorem alS{N w:cM}{L a:Nat}{v1 v2 K vp vr v:cU}{s:eE}{rl:List Run}{x:eM}(h:mD L N w a v1 v2 K vp vr v s rl x)(z:BZ x)(dt:x.ev.length<=90000)(au:zD s.c)(cv:0<=s.aQ/\s.aQ<=1099511627776)(du:∀r∈x.rs,Top.Fair r.p)(ct:(Top.cB x.rs).Nodup)(p:eQ)(X:GOk p):cN cL 36 #[eL a,eC (eF p)] w λe w'=>e=cH (dE #[])/\oG L N w a v1 v2 K vr v s (dC s.c s.aQ x p) w':=by
 obtain⟨eb,aw⟩:=nZ (w.alloc (cJ (eF p) 44));have bn:=aB aw;have da:Blk eb w 44 (eF p):=by rw[<-aw];exact cV _ _ _
 have ah:=h.dN bn;have ay:=qZ (ZT ah z oZ au cv p X);have ej:rl.length<=100:=by have:=z.len.2;rw[<-h.map]at this;simpa using this
 have az:=qY (∀W,cA w w W->cN cL 84 #[eC #[v1,v2,s.c.aG,s.c.aJ],vr,dV p] W λe w'=>akv (eV s.c x.rs p) W e w') (λW c=>by have J:=h.dN c;have:=AJ (J.cfg.below J.on) (J.rs.runs oZ) au (z.many h.map) p X.num X.lev W (aK _ _);rw[h.map]at this;exact this);have a0:=qY (∀W,cA w w W->cN cL 86 #[eC #[v1,v2,s.c.aG,s.c.aJ],s.aQ,vr,dV p] W λe w'=>acQ (fW s.c s.aQ x.rs p) W e w') (λW c=>by have J:=h.dN c;have:=ahC (J.cfg.below J.on) (J.rs.runs oZ) au (z.many h.map) s.aQ p X.num X.lev W (aK _ _);rw[h.map]at this;exact this);have b4:=qY (gj s.c x.rs p=cD->∀cB,eV s.c x.rs p=cI cB->wQ s.c x.rs cB) (λdw cB h=>(Top.choose_spec du h dw).1);have de:=qY (∀cB,wQ s.c x.rs cB->BZ (lJ x cB)/\(lJ x cB).ev.length<=100000/\cB.length<=1000/\∀id∈cB,∃r∈x.rs,r.p.id=id) (λcB T=>by
  refine⟨amt z ct T,?_,?_,λid bq=>?_⟩
  .have dv:∀id∈cB,id∈Top.cB x.rs:=λid bq=>by obtain⟨r,bs,e,_⟩:=T.of id bq;exact bU.2 ⟨r,bs,e⟩
   have e:=(yB ct cB x.ps x.ev T.nodup dv).2.2.2;show((cB.foldl (oM x.rs) (x.ps,x.ev)).2).length<=_;rw[e];have:=IW T;have:=z.len.2;simp;omega
  .have:=IW T;have:=z.len.2;omega
  .obtain⟨r,bs,e,_⟩:=T.of id bq;exact⟨r,bs,e⟩)
 have H:=qZ (aC au (aC cv (aC X dt)));have b6:=qZ h;have dj:=qZ z;have a9:=qZ h.flt;have b3:=qZ bn;have bf:=qZ da;have ce:=qZ aw;obtain⟨R,bl⟩:=nZ (dC s.c s.aQ x p);have ap:=qZ bl;rw[bl];obtain⟨db,bh⟩:=nZ (fy s.c s.aQ x p);have Z:=qZ bh;rw[bh]at ay;obtain⟨b2,bj⟩:=nZ (eV s.c x.rs p);have a5:=qZ bj;rw[bj]at az;obtain⟨bg,bm⟩:=nZ (fW s.c s.aQ x.rs p);have cc:=qZ bm;rw[bm]at a0;clear h z bn da ah aw bl bh bj bm;obtain⟨O,bk⟩:∃O:eQ,p=O:=⟨_,rfl⟩;have an:=qZ bk;rw[bk]at Z a5 cc ap H b4;clear bk;obtain⟨cr,cs⟩:=nZ x.head;have af:=qZ cs;clear cs;obtain⟨d,p1,k,⟨n0,n1,n2⟩,p6,g,j,m,l⟩:=p;simp only[eF,dV,gK]at ay az a0 bf ce;simp only[eF];go_enter func36,ntmps36;go_wp2_with fail;rw[ce.out];refine ay.mono ?_;rintro e f ai;cases db with
 |some y=>
  obtain⟨rfl,dy⟩:=ai;have a8:=qY (oG L N w a v1 v2 K vr v s R f) (by rw[<-ap.out,aiM Z.out];exact oG.below b3 dy);go_wp2_with fail;refine cT (fN rfl _ _ _) rfl ?_;exact⟨rfl,a8⟩
 |none=>
  obtain⟨rfl,cq⟩:=ai;have aa:=qZ (aA b3 cq);have A:=qZ (b6.dN aa);have u:=qZ (bf.below cq bf.out.lt);have c10:f.cell? (a,10)=cI (eA cr):=by have:=A.box.cell 10;rw[af.out]at this;exact this
  cases cr
  .go_wp2_with fail;have br:=aiO Z af;rw[ap.out,a5.out,cc.out]at br;have bb:=qZ br;clear br;have df:=qY (gj s.c x.rs O=cD) (by
    rcases Top.JB Z with e|e
    .exact e
    .rw[af.out]at e;cases e.1)
   have dl:∀W,aD f W->CV W a 0 v1:=λW c=>(A.dN c).box.cell 0;have c1:∀W,aD f W->CV W a 1 v2:=λW c=>(A.dN c).box.cell 1;have c2:∀W,aD f W->CI W a 2 s.c.aG:=λW c=>(A.dN c).box.cell 2;have c3:∀W,aD f W->CI W a 3 s.c.aJ:=λW c=>(A.dN c).box.cell 3;have c7:∀W,aD f W->CV W a 7 vr:=λW c=>(A.dN c).box.cell 7;have ch:∀W,aD f W->CI W w 0 d:=u.fa 0;have ci:∀W,aD f W->CI W w 1 p1:=u.fa 1;have cj:∀W,aD f W->CI W w 2 k:=u.fa 2;have ck:∀W,aD f W->CI W w 3 n0:=u.fa 3;have cl:∀W,aD f W->CI W w 4 n1:=u.fa 4;have cm:∀W,aD f W->CI W w 5 n2:=u.fa 5;have cn:∀W,aD f W->CI W w 6 p6:=u.fa 6;have co:∀W,aD f W->CI W w 7 g:=u.fa 7;have cp:∀W,aD f W->CI W w 8 j:=u.fa 8;refine jB (aD f) (.take 0 (.take 1 (.take 2 (.take 3 (.take 4 (.take 5 (.take 6 (.take 7 (.take 8 (.take 9 (.take 10 (.take 11 (.one 12 (.take 13 (.take 14 (.take 15 (.take 16 (.take 17 .done)))))))))))))))))) kZ kZ (cC f) ?_;(iterate 12 refine tT ?_);refine dQ ?_;refine tC ?_;refine(az _ (aA aa (cC f))).mono ?_;rintro e b0⟨d8,rfl,cw,dp⟩;have av:aD f b0:=aA (cC f) dp;refine⟨_,rfl,av,?_⟩;obtain⟨c0,bu⟩:=nZ b2.isSome;rw[bu];have cd:=qZ bu;have cb:=qZ cw;have am:=qZ (aA aa av);have be:=qZ (A.dN av);have ad:=qZ (u.below av u.out.lt);have dk:=qY ((w:Nat)<=f.drew.heap.size) aa.size;clear bu cw;(iterate 5 refine tT ?_);refine fA ?_;go_upto_region 3 with fail;cases b2 with
   |some cB=>
    obtain rfl:c0=cE:=by rw[<-cd.out];rfl
    have ds:=b4.out df cB a5;obtain⟨e1,e2,e3,e4⟩:=de.out cB ds;have dc:=qZ (aju (cB:=cB) be dj (by have:=H.2.2.2;omega) (show ISl b0 d8 cB from abj cb) e3 (λ_ b ah aj=>by have:=(cb.out.lt b ah).1;have:=a9.out b aj;have:=dk.out;omega) e4);have ca:=qZ (aC e1 e2);go_wp2_with fail;refine dc.mono ?_;rintro e n⟨rfl,eo,d9,d7,em,I,cx,d0⟩;have o:=ad.bA cx (λaj=>by have:=a9.out _ aj;omega);have Y:=qZ (ZT I ca.1 ca.2 H.1 H.2.1 O H.2.2.1);rw[<-an.out]at Y;have bc:=qZ (aC I (aC cx d0));obtain⟨b1,bi⟩:=nZ (fy s.c s.aQ (lJ x cB) O);have dg:=qY (R=b1.getD (lJ x cB)) (by rw[<-bi];exact bb);rw[an.out,bi]at Y;rw[<-an.out]at Y;simp only[eF]at Y;have ch:CI n w 0 d:=o.cell 0;have ci:CI n w 1 p1:=o.cell 1;have cj:CI n w 2 k:=o.cell 2;have ck:CI n w 3 n0:=o.cell 3;have cl:CI n w 4 n1:=o.cell 4;have cm:CI n w 5 n2:=o.cell 5;have cn:CI n w 6 p6:=o.cell 6;have co:CI n w 7 g:=o.cell 7;have cp:CI n w 8 j:=o.cell 8;have ei:CI n w 9 m:=o.cell 9;have eh:CI n w 10 l:=o.cell 10;clear bi;go_wp2_with fail;refine Y.mono ?_;rintro e al ai;have b7:=qY (aL (kU a vr v) w n) ((dT am).trans bc.2.1);have b9:=qY (∀i,kU a d9 d7 i->kU a vr v i\/(w:Nat)<=i) (λi hi=>by
     rcases bc.out.2.2 i hi with h|h
     .exact .inl h
     .exact .inr (bC am.size h))
    have ar:(∃b,e=cH (eA b))/\oG L N w a v1 v2 K vr v s R al:=by
     rw[dg.out];cases b1 with
     |none=>
      obtain⟨rfl,dr⟩:=ai;exact⟨⟨_,rfl⟩,oG.after b7 b9 (bc.1.out dr)⟩
     |some y=>
      obtain⟨rfl,dx⟩:=ai;exact⟨⟨_,rfl⟩,oG.after b7 b9 dx⟩
    obtain⟨⟨b,rfl⟩,ar⟩:=ar;have ab:=qZ ar;clear ar;go_wp2_with fail;refine cT (fN rfl _ _ _) rfl ?_;exact⟨rfl,ab⟩
   |none=>
    obtain rfl:c0=cQ:=by rw[<-cd.out];rfl
    go_upto_region 6 with fail;have dl:∀W,pG a (w:Nat) v1 v2 vr s.c.aG s.c.aJ s.aQ #[d,p1,k,n0,n1,n2,p6,g,j,m,l] W->CV W a 0 v1:=λW c=>c.c0;have c1:∀W,pG a (w:Nat) v1 v2 vr s.c.aG s.c.aJ s.aQ #[d,p1,k,n0,n1,n2,p6,g,j,m,l] W->CV W a 1 v2:=λW c=>c.c1;have c2:∀W,pG a (w:Nat) v1 v2 vr s.c.aG s.c.aJ s.aQ #[d,p1,k,n0,n1,n2,p6,g,j,m,l] W->CI W a 2 s.c.aG:=λW c=>c.c2;have c3:∀W,pG a (w:Nat) v1 v2 vr s.c.aG s.c.aJ s.aQ #[d,p1,k,n0,n1,n2,p6,g,j,m,l] W->CI W a 3 s.c.aJ:=λW c=>c.c3;have c4:∀W,pG a (w:Nat) v1 v2 vr s.c.aG s.c.aJ s.aQ #[d,p1,k,n0,n1,n2,p6,g,j,m,l] W->CI W a 4 s.aQ:=λW c=>c.c4;have c7:∀W,pG a (w:Nat) v1 v2 vr s.c.aG s.c.aJ s.aQ #[d,p1,k,n0,n1,n2,p6,g,j,m,l] W->CV W a 7 vr:=λW c=>c.c7;have ch:∀W,pG a (w:Nat) v1 v2 vr s.c.aG s.c.aJ s.aQ #[d,p1,k,n0,n1,n2,p6,g,j,m,l] W->CI W w 0 d:=λW c=>c.dV.cell 0;have ci:∀W,pG a (w:Nat) v1 v2 vr s.c.aG s.c.aJ s.aQ #[d,p1,k,n0,n1,n2,p6,g,j,m,l] W->CI W w 1 p1:=λW c=>c.dV.cell 1;have cj:∀W,pG a (w:Nat) v1 v2 vr s.c.aG s.c.aJ s.aQ #[d,p1,k,n0,n1,n2,p6,g,j,m,l] W->CI W w 2 k:=λW c=>c.dV.cell 2;have ck:∀W,pG a (w:Nat) v1 v2 vr s.c.aG s.c.aJ s.aQ #[d,p1,k,n0,n1,n2,p6,g,j,m,l] W->CI W w 3 n0:=λW c=>c.dV.cell 3;have cl:∀W,pG a (w:Nat) v1 v2 vr s.c.aG s.c.aJ s.aQ #[d,p1,k,n0,n1,n2,p6,g,j,m,l] W->CI W w 4 n1:=λW c=>c.dV.cell 4;have cm:∀W,pG a (w:Nat) v1 v2 vr s.c.aG s.c.aJ s.aQ #[d,p1,k,n0,n1,n2,p6,g,j,m,l] W->CI W w 5 n2:=λW c=>c.dV.cell 5;have cn:∀W,pG a (w:Nat) v1 v2 vr s.c.aG s.c.aJ s.aQ #[d,p1,k,n0,n1,n2,p6,g,j,m,l] W->CI W w 6 p6:=λW c=>c.dV.cell 6;have co:∀W,pG a (w:Nat) v1 v2 vr s.c.aG s.c.aJ s.aQ #[d,p1,k,n0,n1,n2,p6,g,j,m,l] W->CI W w 7 g:=λW c=>c.dV.cell 7;have cp:∀W,pG a (w:Nat) v1 v2 vr s.c.aG s.c.aJ s.aQ #[d,p1,k,n0,n1,n2,p6,g,j,m,l] W->CI W w 8 j:=λW c=>c.dV.cell 8;have ao:=qZ (cC b0);refine iA (pG a (w:Nat) v1 v2 vr s.c.aG s.c.aJ s.aQ #[d,p1,k,n0,n1,n2,p6,g,j,m,l]) 26 (.take 0 (.take 1 (.take 2 (.take 3 (.take 4 (.take 5 (.take 6 (.take 7 (.take 8 (.take 9 (.take 10 (.take 11 (.take 12 (.take 13 (.take 14 (.take 15 (.take 16 (.take 17 (.take 18 (.one 19 (.take 20 (.take 21 (.take 22 (.take 23 (.take 24 (.one 25 .done)))))))))))))))))))))))))) kZ kZ (pG.of (be.dN ao).box (ad.below ao ad.out.lt)) ?_;(iterate 19 refine tT ?_);refine dQ ?_;refine tC ?_;refine(a0 _ (aA am ao)).mono ?_;rintro e n⟨rfl,dq⟩;have bd:=qZ (aA ao dq);have I:=be.dN bd;have o:=ad.below bd ad.out.lt;refine⟨_,rfl,pG.of I.box o,?_⟩;obtain⟨t,bv⟩:=nZ (bg.getD 0);obtain⟨ak,bt⟩:=nZ bg.isSome;rw[bv,bt];have aq:=qZ (aC bv bt);obtain⟨ag,cy⟩:=I.aqV t;have cu:¬kU a vr v (w:Nat):=λaj=>by have:=a9.out _ aj;omega
    have bo:=o.bA cy cu;have el:CI n a 11 x.start:=I.box.cell 11;have eg:n.frozen? (a,11)=cQ:=I.box.frozen 11;have b8:=qZ ((dT (F:=kU a vr v) (aA am bd)).trans cy);have cg:=qZ (pG.of ag.box bo);obtain⟨al,bw⟩:=nZ (n.setCell (a,11) t);rw[bw]at ag bo b8 cg;obtain⟨Q,cz⟩:=ag.setH ak;have bp:=bo.bA cz cu;have ek:CV al a 10 (eA x.head):=ag.box.cell 10;have ef:al.frozen? (a,10)=cQ:=ag.box.frozen 10;have ba:=qZ (b8.out.trans cz);obtain⟨M,bz⟩:=nZ (al.setCell (a,10) (eA ak));rw[bz]at Q bp ba;have dh:=qZ bw;have di:=qZ bz;have ae:=qZ Q;have b5:=qZ bp;clear bv bt bw Q bp bz;(iterate 5 refine tT ?_);refine dQ ?_;apply sK;rfl;rfl;(focus(go_simp;first|done|(rw[dh.out])|rfl));exact cg;(focus(go_simp;first|done|rfl));refine fA ?_;show cY cL _ _ (cS 26 _) _ _;simp only[aZ,bB];go_upto_region 7 with fail;rw[di.out];have c10:CV M a 10 (eA ak):=ae.box.cell 10;cases bg with
    |none=>
     obtain rfl:ak=cQ:=by rw[<-aq.out.2];rfl
     obtain rfl:t=0:=by rw[<-aq.out.1];rfl
     have ab:=qY (oG L N w a v1 v2 K vr v s R M) (by rw[bb.out];have e:x.head=cQ:=af;have Q:=ae.out;rw[<-e]at Q;exact⟨_,_,_,_,Q,ba,λi hi=>.inl hi⟩);go_wp2_with fail
     go_end0
     exact⟨rfl,ab⟩
    |some ax=>
     obtain rfl:ak=cE:=by rw[<-aq.out.2];rfl
     obtain rfl:ax=t:=by rw[<-aq.out.1];rfl
     go_wp2_with fail;have c11:∀W,aD M W->CI W a 11 ax/\CI W w 0 d:=λW c=>⟨(ae.dN c).box.cell 11,(b5.below c b5.out.lt).cell 0⟩;refine iA (aD M) 8 (.take 0 (.take 1 (.take 2 (.take 3 (.take 4 (.take 5 (.take 6 (.take 7 .done)))))))) kZ kZ (cC M) ?_;(iterate 8 refine tT ?_);have dd:=qZ (HV (ae.dN (cC M)) (show x.ev.length<=1000000 from by have:=H.2.2.2;omega) 4 d ax);refine fA ?_;show cY cL _ _ (cS 8 _) _ _;simp only[aZ,bB];go_wp2_with fail;refine dd.mono ?_;rintro e ea⟨rfl,en,dn,dz,d6⟩;have ab:=qY (oG L N w a v1 v2 K vr v s R ea) (by
      rw[bb.out];have dm:O.id=d:=by rw[<-an.out]
      rw[dm];exact oG.after (ba.out.trans (dT (cC M))) (λi hi=>.inl hi) ⟨_,_,_,_,dn,dz,λi hi=>by
       rcases hi with hi|hi|hi
       .exact .inl (.inl hi)
       .exact .inl (.inr (.inl hi))
       .rcases d6 i hi with h|h
        .exact .inl (.inr (.inr h))
        .exact .inr h⟩)
     go_wp2_with fail
     go_end0
     exact⟨rfl,ab⟩
  .have a8:=qY (oG L N w a v1 v2 K vr v s R f) (by rw[<-ap.out,aiN Z.out af.out];exact b6.out.out aa);go_wp2_with fail;refine cT (fN rfl _ _ _) rfl ?_;exact⟨rfl,a8⟩
end bT
variable{rl:List bO.Run}{b1 b2 i j k l m n:Nat}{s:eE}{X u1 u2 uh v v1 v2 vp vr:cU}{W u w w' w1:cM}
variable{c:eW}{r:List bO.Run}{F:Nat->Prop}{A:Option Addr}{p:eQ}{wr:cM}
namespace bT
open Go.RowKit L bO eO Srt
theorem nel:Elem nN 11:=⟨λ_=>rfl,λx u a=>by simp only[nN,bH,dL,or_false]at a;rcases a with rfl|rfl|rfl|rfl|rfl|rfl|rfl|rfl|rfl|rfl|rfl<;>rfl⟩
theorem hel:Elem hdec 6:=⟨λ_=>rfl,λx u a=>by simp only[hdec,bH,dL,or_false]at a;rcases a with rfl|rfl|rfl|rfl|rfl|rfl<;>rfl⟩
theorem fel:Elem oI 1:=⟨λ_=>rfl,λx u a=>by simp only[oI,bH,dL,or_false]at a;rcases a with rfl;rfl⟩
theorem aan:(prog.info? 66).map (λi=>(i.zero,i.size,i.bytes))=cI (cI (eC #[(),(),(),(),(),(),(),(),(),(),()]),11,88):=by kernel_rfl
theorem hinfo:(prog.info? 131).map (λi=>(i.zero,i.size,i.bytes))=cI (cI (eC #[(),(),(),(),(),()]),6,48):=by kernel_rfl
theorem aex:(prog.info? 63).map (λi=>(i.zero,i.size,i.bytes))=cI (cI (cF .u64 0),1,8):=by kernel_rfl
def cut(w:cM)(m:Nat):cM:={w with heap:=w.heap.extract 0 m}
theorem QC(h:m<=(w:Nat)):(cut w m).heap.size=m:=by show(w.heap.extract 0 m).size=m;rw[Array.size_extract];omega
theorem ajE(hi:i<m):(cut w m).heap[i]? =w.heap[i]? :=by
 show(w.heap.extract 0 m)[i]? =w.heap[i]?;rw[Array.getElem?_extract];rw[aO];split
 .rfl
 .rename_i h;rw[jA oZ]
theorem ajD(h:m<=(w:Nat)):cA (cut w m).heap.size (cut w m) w:=
 ⟨rfl,rfl,rfl,by rw[QC h];exact h,λi hi=>by rw[QC h]at hi;exact(ajE hi).symm⟩
theorem RQ{B:Nat}{xs:List lN}(h:bL w B 66 11 nN v xs):Nodes w v xs:=by
 obtain⟨A,cap,e,a⟩:=h.sl (λ_=>rfl);refine⟨A,cap,e,a,?_⟩;rcases h.form with⟨_,rfl⟩|⟨_,_,_,_,_,b,c⟩
 .exact bI _
 .omega
theorem RS{B:Nat}{xs:List iI}(h:bL w B 131 6 hdec v xs):MR w v xs:=by
 obtain⟨A,cap,e,a⟩:=h.sl (λ_=>rfl);refine⟨A,cap,e,a,?_⟩;rcases h.form with⟨_,rfl⟩|⟨_,_,_,_,_,b,c⟩
 .exact bI _
 .omega
theorem OQ{B:Nat}{xs:List Nat}(h:bL w B 63 1 oI v xs)(b:∀k∈xs,k<=Fix.top):FSl w v xs:=by
 obtain⟨A,cap,e,a⟩:=h.sl (λ_=>rfl);refine⟨A,cap,e,a,?_,b⟩;rcases h.form with⟨_,rfl⟩|⟨_,_,_,_,_,c,d⟩
 .exact bI _
 .omega
theorem gW{α:Type}{B:Nat}{E:TypeId}{dec:α->List cU}{xs:List α}(h:bL w B E k dec v xs):∃A n c,v=ac A n c:=by rcases h.form with⟨e,_⟩|⟨g,cap,e,_⟩<;>exact⟨_,_,_,e⟩
theorem aep(w:cM):ISl w (ac cD 0 0) []:=⟨cD,0,rfl,λh=>absurd rfl h,bI _⟩
structure OwnAt (w1 wm w':World) (v1 v2 vp vr vh:Value) (s:Top.S) (rl:List Run):Prop where
 low:(w1:Nat)<=(wm:Nat)
 cfg:bW wm (.agg #[v1,v2,s.c.aG,s.c.aJ]) s.c
 ps:PSl wm vp s.ps
 h:FSl wm vh s.h
 rs:jS w' (wm:Nat) vr rl
 map:rl.map eD=s.rs
 fresh:JE (wm:Nat) rl
 on:Below wm wm w'
 old:Below w1 w1 w'
 f1:∀b,v1.ownBlock=some b->(w1:Nat)<=b
 f2:∀b,v2.ownBlock=some b->(w1:Nat)<=b
 fp:∀b,vp.ownBlock=some b->(w1:Nat)<=b
 fh:∀b,vh.ownBlock=some b->(w1:Nat)<=b
def akr(s:eE)(w1:cM)(e:gm)(w':cM):Prop:=∃v1 v2 vp vr vh rl wm,e=cH (stv v1 v2 vp vr vh s)/\OwnAt w1 wm w' v1 v2 vp vr vh s rl
theorem aiB{v wc:cM}{Q:cU}(c:bL w n 66 11 nN v1 s.c.aN)(f:bL v m 131 6 hdec v2 s.c.aR)(r:bL wc j 44 11 fH vp s.ps)(a:bL W l 63 1 oI Q s.h)(K:jS u (W:Nat) vr rl)(ab:rl.map eD=s.rs)(I:JE (W:Nat) rl)(aj:(w1:Nat)<=b1)(ak:b1<b2)(T:b2<n)(X:b2<m)(Y:b2<j)(Z:b2<l)(an:b2<(W:Nat))(ag:aL (λi=>i=b1\/i=b2) w v)(N:aL (λi=>i=b1\/i=b2) v wc)(F:aL (λi=>i=b1\/i=b2) wc W)(ai:aL (λi=>i=b1\/i=b2) W u)(O:aL (λi=>i=b1\/i=b2) u w')(M:aL (λi=>i=b1\/i=b2) w1 w)(ad:∀p∈s.ps,POk p)(ae:∀k∈s.h,k<=Fix.top):OwnAt w1 (cut w' (W:Nat)) w' v1 v2 vp vr Q s rl:=by
 have H:=ai.trans O;have L:(W:Nat)<=(w':Nat):=H.size;have z:=QC L;have d:∀(y:cM) (B g:Nat),b2<B->B<=g->g<(y:Nat)->aL (λi=>i=b1\/i=b2) y W->(cut w' (W:Nat)).heap[g]? =y.heap[g]? :=λy B g al am o J=>by have aa:g<(W:Nat):=aM o J.size;rw[ajE aa];exact((J.trans H).block g o oZ)
 have A:=(ag.trans N).trans F;have ah:=N.trans F;have low:(w1:Nat)<=(W:Nat):=(M.trans A).size;have o:∀b,vr.ownBlock=cI b->(W:Nat)<=b/\b<(u:Nat):=K.1.lt;refine⟨by rw[z];exact low,⟨v1,v2,rfl,?_,?_⟩,?_,?_,?_,ab,?_,ajD L,?_,λb e=>by have:=(c.lt b e).1;omega,λb e=>by have:=(f.lt b e).1;omega,λb e=>by have:=(r.lt b e).1;omega,λb e=>by have:=(a.lt b e).1;omega⟩
 .exact RQ (c.bA λb e=>d w n b T (c.lt b e).1 (c.lt b e).2 A)
 .exact RS (f.bA λb e=>d v m b X (f.lt b e).1 (f.lt b e).2 ah)
 .exact yJ (r.bA λb e=>d wc j b Y (r.lt b e).1 (r.lt b e).2 F) ad
 .exact OQ (a.bA λb e=>d W l b Z (a.lt b e).1 (a.lt b e).2 (eN _ _)) ae
 .rw[z];exact nJ K O (λb e a=>by have:=(o b e).1;omega) (λx af c b e a=>by have:=I x af c b e;omega)
 .rw[z];exact I
 .exact((M.trans A).trans H).below lZ λi hi=>oZ
theorem aaZ{up:cU}(h:StR w u1 u2 up X uh s rl)(ok:QJ s):∀w1,cA w w w1->cN cL 47 #[stv u1 u2 up X uh s] w1 λe w'=>akr s w1 e w':=by
 intro w1 b3;replace h:=h.below b3;have b9:=IB h.map (by have:=ok.len;omega) ok.rs (λp k=>ok.kV p (gL _ k));obtain⟨a,I⟩:=nQ ((w1.alloc (cJ #[u1,u2,s.c.aG,s.c.aJ,s.aQ,s.next,up,X,uh] 31)).alloc (cJ #[cE,cE,(),(),(),(),cE,cE,cE] 31));have b4:cA w1 w1 a:=by rw[<-I.out];have cs:(w1.alloc (cJ #[u1,u2,s.c.aG,s.c.aJ,s.aQ,s.next,up,X,uh] 31)).heap.size=(w1:Nat)+1:=sZ;exact kp
 have ce:(a:Nat)=(w1:Nat)+1+1:=by rw[<-I.out];simp
 have ci:Blk a w1 31 #[u1,u2,s.c.aG,s.c.aJ,s.aQ,s.next,up,X,uh]:=by rw[<-I.out];exact fw (cV _ _ _) _
 have cj:Blk a ((w1:Nat)+1) 31 #[cE,cE,(),(),(),(),cE,cE,cE]:=by rw[<-I.out];have h:=cV (w1.alloc (cJ #[u1,u2,s.c.aG,s.c.aJ,s.aQ,s.next,up,X,uh] 31)) 31 #[cE,cE,(),(),(),(),cE,cE,cE];simp only[aT]at h;exact h
 obtain⟨_,_,ev,⟨A,K,b0,cc,cr⟩,⟨z,J,bz,cb,cq⟩⟩:=id h.cfg;obtain⟨rfl,rfl⟩:u1=ac A s.c.aN.length K/\u2=ac z s.c.aR.length J:=by simp only[eK,eB,dJ]at ev;exact⟨ev.1.trans b0,ev.2.1.trans bz⟩
 obtain⟨Q,cf,rfl,ca,cp,cd⟩:=id h.h;obtain⟨Ap,a9,rfl,_⟩:=id h.ps;obtain⟨aq,ba,rfl,_⟩:=id h.rs;have bp:=qY (∀W,cA w1 w1 W->cN cL 75 #[ac A s.c.aN.length K] W λe w'=>∃v',e=cH v'/\bL w' W 66 11 nN v' s.c.aN/\cA W W w') (λW b=>
  uQ PN aan rfl oZ Tryz.sizeOf66 nel (w:=W) (show SlK W 11 nN _ s.c.aN from⟨A,K,rfl,cc.below b⟩) (by have:=ok.mild.aN;unfold eR;omega) (by have:=ok.mild.aN;omega))
 have bo:=qY (∀W,cA w1 w1 W->cN cL 76 #[ac z s.c.aR.length J] W λe w'=>∃v',e=cH v'/\bL w' W 131 6 hdec v' s.c.aR/\cA W W w') (λW b=>
  uQ PS hinfo rfl oZ Tryz.sizeOf131 hel (w:=W) (show SlK W 6 hdec _ s.c.aR from⟨z,J,rfl,cb.below b⟩) (by have:=ok.mild.aR;unfold eR;omega) (by have:=ok.mild.aR;omega))
 have bq:=qZ (λW (b:cA w1 w1 W)=>zX h.ps (by have:=ok.len;omega) W b);have bn:=qY (∀W,cA w1 w1 W->cN cL 78 #[ac Q s.h.length cf] W λe w'=>∃v',e=cH v'/\bL w' W 63 1 oI v' s.h/\cA W W w') (λW b=>
  uQ aeo aex rfl oZ Tryz.sizeOf63 fel (w:=W) (show SlK W 1 oI _ s.h from⟨Q,cf,rfl,ca.below b⟩) (by have:=ok.hlen;unfold eR;omega) (by have:=ok.hlen;omega))
 have br:=qY (∀W,cA w1 w1 W->cN cL 79 #[ac aq rl.length ba,cE] W λe w'=>MN s.rs W e w') (λW b=>by have:=wR (h.rs.below b) b9 (aep W) (bI _) W (aK _ _);rw[h.map,yX]at this;exact this);have av:=qZ (aC (λp k=>(ok.kV p (dY _ k)).ok:∀p∈s.ps,POk p) cd);have H:=qZ b4;have Y:=qZ ci;have az:=qZ cj;have ak:=qZ ce;generalize s.c.aN.length=nn at*;generalize s.c.aR.length=nh at*;generalize s.h.length=nf at*;generalize s.ps.length=np at*;generalize rl.length=nr at*;simp only[stv];go_enter func47,ntmps47;go_wp2_with fail;rw[I.out];have ck:∀W,aD a W->CV W w1 0 (ac A nn K):=Y.fa 0;have c1:∀W,aD a W->CV W w1 1 (ac z nh J):=Y.fa 1;refine iA (aD a) 10 (.take 0 (.take 1 (.take 2 (.take 4 (.take 5 (.take 6 (.one 3 (.take 8 (.take 9 (.one 7 .done)))))))))) kZ kZ (cC a) ?_;(iterate 6 refine tT ?_);refine dQ ?_;refine tC ?_;refine(bp _ (aA H (cC a))).mono ?_;rintro e bi⟨v1,rfl,bg,b5⟩;have L:aD a bi:=aA (cC a) b5;refine⟨v1,rfl,L,?_⟩;(iterate 2 refine tT ?_);refine dQ ?_;refine tC ?_;refine(bo _ (aA H L)).mono ?_;rintro e j⟨v2,rfl,bf,bc⟩;have l:aD a j:=aA L bc;refine⟨v2,rfl,l,?_⟩;obtain⟨o,n1,c1,rfl⟩:=gW bg;obtain⟨r,n2,c2,rfl⟩:=gW bf;have ad:=Y.below l Y.out.lt;have ct:CV j w1 0 (ac A nn K):=ad.cell 0;have cu:CV j w1 1 (ac z nh J):=ad.cell 1;have bb:∀n,j.frozen? ⟨(w1:Nat),n,cD⟩=cQ:=λn=>ad.frozen n;have ao:=cR (cR ad 0 (ac o n1 c1)) 1 (ac r n2 c2);have aa:aL (λi=>i=(w1:Nat)\/i=(w1:Nat)+1) j ((j.setCell (w1,0) (ac o n1 c1)).setCell (w1,1) (ac r n2 c2)):=((eN _ _).setCell (.inl (.inl rfl)) _).setCell (.inl (.inl rfl)) _;have bk:Blk ((j.setCell (w1,0) (ac o n1 c1)).setCell (w1,1) (ac r n2 c2)) ((w1:Nat)+1) 31 #[cE,cE,(),(),(),(),cE,cE,cE]:=eI (eI (az.below l az.out.lt) (by show(w1:Nat)+1≠(w1:Nat);omega) _) (by show(w1:Nat)+1≠(w1:Nat);omega) _;obtain⟨d,ay⟩:=nQ ((j.setCell (w1,0) (ac o n1 c1)).setCell (w1,1) (ac r n2 c2));rw[ay.out]at ao aa bk;simp at ao;have au:=qZ (aC bg (dT (F:=λi=>i=(w1:Nat)\/i=(w1:Nat)+1) bc));have ar:=qZ (aC bf aa);have aw:=qZ (aC (show(w1:Nat)+1<a.drew.heap.size from by show _<(a:Nat);have:=ak.out;omega) (show(w1:Nat)+1<(bi:Nat)from by have:=L.size;have:=ak.out;omega));have bv:=qZ (dT (F:=λi=>i=(w1:Nat)\/i=(w1:Nat)+1) (aA H L));have Z:=qZ ao;have a0:=qZ bk;have T:=qY (cA w1 w1 d) (((aA H l).trans (aa.below (aA H l).size λi hi=>oZ)));have al:=qY ((w1:Nat)+1<(d:Nat)) (by have:=aa.size;have:=l.size;have:=ak.out;omega);refine fA ?_;show cY cL _ _ (cS 10 _) _ _;simp only[aZ,bB];go_upto_region 2 with fail;rw[ay.out];have c6:∀W,aD d W->CV W w1 6 (ac Ap np a9)/\CV W w1 8 (ac Q nf cf):=λW b=>have x:=(Z.below b Z.out.lt);⟨x.cell 6,x.cell 8⟩;refine iA (aD d) 7 (.take 0 (.take 1 (.take 3 (.take 4 (.one 2 (.take 6 (.one 5 .done))))))) kZ kZ (cC d) ?_;(iterate 4 refine tT ?_);refine dQ ?_;refine tC ?_;refine(bq _ (aA T (cC d))).mono ?_;rintro e wc⟨vp,rfl,k,b6⟩;have M:aD d wc:=aA (cC d) b6;refine⟨vp,rfl,M,?_⟩;(iterate 1 refine tT ?_);refine dQ ?_;refine tC ?_;refine(bn _ (aA T M)).mono ?_;rintro e f⟨ch,rfl,be,bd⟩;have m:aD d f:=aA M bd;refine⟨ch,rfl,m,?_⟩;obtain⟨u,N,c3,rfl⟩:=gW k;obtain⟨y,O,c4,rfl⟩:=gW be;have ae:=Z.below m Z.out.lt;have cv:CV f w1 6 (ac Ap np a9):=ae.cell 6;have cw:CV f w1 8 (ac Q nf cf):=ae.cell 8;have bb:∀n,f.frozen? ⟨(w1:Nat),n,cD⟩=cQ:=λn=>ae.frozen n;have ap:=cR (cR ae 6 (ac u N c3)) 8 (ac y O c4);have an:aL (λi=>i=(w1:Nat)\/i=(w1:Nat)+1) f ((f.setCell (w1,6) (ac u N c3)).setCell (w1,8) (ac y O c4)):=((eN _ _).setCell (.inl (.inl rfl)) _).setCell (.inl (.inl rfl)) _;have bl:Blk ((f.setCell (w1,6) (ac u N c3)).setCell (w1,8) (ac y O c4)) ((w1:Nat)+1) 31 #[cE,cE,(),(),(),(),cE,cE,cE]:=eI (eI (a0.below m a0.out.lt) (by show(w1:Nat)+1≠(w1:Nat);omega) _) (by show(w1:Nat)+1≠(w1:Nat);omega) _;obtain⟨ab,ai⟩:=nQ ((f.setCell (w1,6) (ac u N c3)).setCell (w1,8) (ac y O c4));rw[ai.out]at ap an bl;simp at ap;have ag:=qZ (aC k (aC (dT (F:=λi=>i=(w1:Nat)\/i=(w1:Nat)+1) M) (dT (F:=λi=>i=(w1:Nat)\/i=(w1:Nat)+1) bd)));have af:=qZ (aC be (aC an (show(w1:Nat)+1<(f:Nat)from by have:=m.size;have:=al.out;omega)));have ax:=qZ (aC (show(w1:Nat)+1<d.drew.heap.size from al) (show(w1:Nat)+1<(wc:Nat)from by have:=M.size;have:=al.out;omega));have aj:=qZ ap;have a5:=qZ bl;have bt:=qY (cA w1 w1 ab) (((aA T m).trans (an.below (aA T m).size λi hi=>oZ)));have a8:=qY ((f:Nat)=(ab:Nat)) (by rw[<-ai.out];simp);refine fA ?_;show cY cL _ _ (cS 7 _) _ _;simp only[aZ,bB];go_upto_region 3 with fail;rw[ai.out];have c7:CV ab w1 7 (ac aq nr ba):=aj.cell 7;have bs:=qZ (br ab bt);go_wp2_with fail;refine bs.mono ?_;rintro e c⟨vr,cx,rfl,bh,b8,am,b7⟩;obtain⟨bm,cg,c5,rfl⟩:=gW bh.1;have bj:=aj.below am aj.out.lt;have g:=a5.below am a5.out.lt;obtain⟨cl,e1,e2,e3,e4,cm,e6,e7,cn⟩:=bj.c9;have bb:∀n,c.frozen? ⟨(w1:Nat),n,cD⟩=cQ:=λn=>bj.frozen n;have co:∀n,c.frozen? ⟨(w1:Nat)+1,n,cD⟩=cQ:=λn=>g.frozen n;have bw:CV c ((w1:Nat)+1) 0 (ac cD 0 0)/\CV c ((w1:Nat)+1) 1 (ac cD 0 0)/\CI c ((w1:Nat)+1) 2 0/\CI c ((w1:Nat)+1) 3 0/\CI c ((w1:Nat)+1) 4 0/\CI c ((w1:Nat)+1) 5 0/\CV c ((w1:Nat)+1) 6 (ac cD 0 0)/\CV c ((w1:Nat)+1) 7 (ac cD 0 0)/\CV c ((w1:Nat)+1) 8 (ac cD 0 0):=
  ⟨g.cell 0,g.cell 1,g.cell 2,g.cell 3,g.cell 4,g.cell 5,g.cell 6,g.cell 7,g.cell 8⟩
 have ah:=qZ (aC bh (aC b8 b7));have bu:=qZ am;go_wp2_with fail;refine cT (v:=eC #[ac o n1 c1,ac r n2 c2,s.c.aG,s.c.aJ,s.aQ,s.next,ac u N c3,ac bm cg c5,ac y O c4]) (by simp[results,Tryz.results47,go_sem,bw]) rfl ?_;refine⟨_,_,_,_,_,_,_,rfl,aiB (b1:=(w1:Nat)) (b2:=(w1:Nat)+1) au.1 ar.1 ag.1 af.1 (by rw[a8.out];exact ah.1) ah.2.1 (by rw[a8.out];exact ah.2.2) lZ (Nat.lt_succ_self _) aw.1 aw.2 ax.1 ax.2 af.2.2 au.2 (ar.2.trans ag.2.1) ag.2.2 (af.2.1.trans (dT bu)) ?_ bv av.1 av.2⟩;(repeat refine gp ?_ sZ _);exact eN _ _
theorem amF{up:cU}(h:StR w u1 u2 up X uh s rl)(ok:QJ s):∀w1,cA w w w1->cN cL 34 #[stv u1 u2 up X uh s] w1 λe w'=>akr s w1 e w':=by
 intro w1 b3;replace h:=h.below b3;have b9:=IB h.map (by have:=ok.len;omega) ok.rs (λp k=>ok.kV p (gL _ k));obtain⟨a,I⟩:=nQ ((w1.alloc (cJ #[u1,u2,s.c.aG,s.c.aJ,s.aQ,s.next,up,X,uh] 31)).alloc (cJ #[cE,cE,(),(),(),(),cE,cE,cE] 31));have b4:cA w1 w1 a:=by rw[<-I.out];have cs:(w1.alloc (cJ #[u1,u2,s.c.aG,s.c.aJ,s.aQ,s.next,up,X,uh] 31)).heap.size=(w1:Nat)+1:=sZ;exact kp
 have ce:(a:Nat)=(w1:Nat)+1+1:=by rw[<-I.out];simp
 have ci:Blk a w1 31 #[u1,u2,s.c.aG,s.c.aJ,s.aQ,s.next,up,X,uh]:=by rw[<-I.out];exact fw (cV _ _ _) _
 have cj:Blk a ((w1:Nat)+1) 31 #[cE,cE,(),(),(),(),cE,cE,cE]:=by rw[<-I.out];have h:=cV (w1.alloc (cJ #[u1,u2,s.c.aG,s.c.aJ,s.aQ,s.next,up,X,uh] 31)) 31 #[cE,cE,(),(),(),(),cE,cE,cE];simp only[aT]at h;exact h
 obtain⟨_,_,ev,⟨A,K,b0,cc,cr⟩,⟨z,J,bz,cb,cq⟩⟩:=id h.cfg;obtain⟨rfl,rfl⟩:u1=ac A s.c.aN.length K/\u2=ac z s.c.aR.length J:=by simp only[eK,eB,dJ]at ev;exact⟨ev.1.trans b0,ev.2.1.trans bz⟩
 obtain⟨Q,cf,rfl,ca,cp,cd⟩:=id h.h;obtain⟨Ap,a9,rfl,_⟩:=id h.ps;obtain⟨aq,ba,rfl,_⟩:=id h.rs;have bp:=qY (∀W,cA w1 w1 W->cN cL 75 #[ac A s.c.aN.length K] W λe w'=>∃v',e=cH v'/\bL w' W 66 11 nN v' s.c.aN/\cA W W w') (λW b=>
  uQ PN aan rfl oZ Tryz.sizeOf66 nel (w:=W) (show SlK W 11 nN _ s.c.aN from⟨A,K,rfl,cc.below b⟩) (by have:=ok.mild.aN;unfold eR;omega) (by have:=ok.mild.aN;omega))
 have bo:=qY (∀W,cA w1 w1 W->cN cL 76 #[ac z s.c.aR.length J] W λe w'=>∃v',e=cH v'/\bL w' W 131 6 hdec v' s.c.aR/\cA W W w') (λW b=>
  uQ PS hinfo rfl oZ Tryz.sizeOf131 hel (w:=W) (show SlK W 6 hdec _ s.c.aR from⟨z,J,rfl,cb.below b⟩) (by have:=ok.mild.aR;unfold eR;omega) (by have:=ok.mild.aR;omega))
 have bq:=qZ (λW (b:cA w1 w1 W)=>zX h.ps (by have:=ok.len;omega) W b);have bn:=qY (∀W,cA w1 w1 W->cN cL 78 #[ac Q s.h.length cf] W λe w'=>∃v',e=cH v'/\bL w' W 63 1 oI v' s.h/\cA W W w') (λW b=>
  uQ aeo aex rfl oZ Tryz.sizeOf63 fel (w:=W) (show SlK W 1 oI _ s.h from⟨Q,cf,rfl,ca.below b⟩) (by have:=ok.hlen;unfold eR;omega) (by have:=ok.hlen;omega))
 have br:=qY (∀W,cA w1 w1 W->cN cL 79 #[ac aq rl.length ba,cE] W λe w'=>MN s.rs W e w') (λW b=>by have:=wR (h.rs.below b) b9 (aep W) (bI _) W (aK _ _);rw[h.map,yX]at this;exact this);have av:=qZ (aC (λp k=>(ok.kV p (dY _ k)).ok:∀p∈s.ps,POk p) cd);have H:=qZ b4;have Y:=qZ ci;have az:=qZ cj;have ak:=qZ ce;generalize s.c.aN.length=nn at*;generalize s.c.aR.length=nh at*;generalize s.h.length=nf at*;generalize s.ps.length=np at*;generalize rl.length=nr at*;simp only[stv];go_enter func34,ntmps34;go_wp2_with fail;rw[I.out];have ck:∀W,aD a W->CV W w1 0 (ac A nn K):=Y.fa 0;have c1:∀W,aD a W->CV W w1 1 (ac z nh J):=Y.fa 1;refine iA (aD a) 10 (.take 0 (.take 1 (.take 2 (.take 4 (.take 5 (.take 6 (.one 3 (.take 8 (.take 9 (.one 7 .done)))))))))) kZ kZ (cC a) ?_;(iterate 6 refine tT ?_);refine dQ ?_;refine tC ?_;refine(bp _ (aA H (cC a))).mono ?_;rintro e bi⟨v1,rfl,bg,b5⟩;have L:aD a bi:=aA (cC a) b5;refine⟨v1,rfl,L,?_⟩;(iterate 2 refine tT ?_);refine dQ ?_;refine tC ?_;refine(bo _ (aA H L)).mono ?_;rintro e j⟨v2,rfl,bf,bc⟩;have l:aD a j:=aA L bc;refine⟨v2,rfl,l,?_⟩;obtain⟨o,n1,c1,rfl⟩:=gW bg;obtain⟨r,n2,c2,rfl⟩:=gW bf;have ad:=Y.below l Y.out.lt;have ct:CV j w1 0 (ac A nn K):=ad.cell 0;have cu:CV j w1 1 (ac z nh J):=ad.cell 1;have bb:∀n,j.frozen? ⟨(w1:Nat),n,cD⟩=cQ:=λn=>ad.frozen n;have ao:=cR (cR ad 0 (ac o n1 c1)) 1 (ac r n2 c2);have aa:aL (λi=>i=(w1:Nat)\/i=(w1:Nat)+1) j ((j.setCell (w1,0) (ac o n1 c1)).setCell (w1,1) (ac r n2 c2)):=((eN _ _).setCell (.inl (.inl rfl)) _).setCell (.inl (.inl rfl)) _;have bk:Blk ((j.setCell (w1,0) (ac o n1 c1)).setCell (w1,1) (ac r n2 c2)) ((w1:Nat)+1) 31 #[cE,cE,(),(),(),(),cE,cE,cE]:=eI (eI (az.below l az.out.lt) (by show(w1:Nat)+1≠(w1:Nat);omega) _) (by show(w1:Nat)+1≠(w1:Nat);omega) _;obtain⟨d,ay⟩:=nQ ((j.setCell (w1,0) (ac o n1 c1)).setCell (w1,1) (ac r n2 c2));rw[ay.out]at ao aa bk;simp at ao;have au:=qZ (aC bg (dT (F:=λi=>i=(w1:Nat)\/i=(w1:Nat)+1) bc));have ar:=qZ (aC bf aa);have aw:=qZ (aC (show(w1:Nat)+1<a.drew.heap.size from by show _<(a:Nat);have:=ak.out;omega) (show(w1:Nat)+1<(bi:Nat)from by have:=L.size;have:=ak.out;omega));have bv:=qZ (dT (F:=λi=>i=(w1:Nat)\/i=(w1:Nat)+1) (aA H L));have Z:=qZ ao;have a0:=qZ bk;have T:=qY (cA w1 w1 d) (((aA H l).trans (aa.below (aA H l).size λi hi=>oZ)));have al:=qY ((w1:Nat)+1<(d:Nat)) (by have:=aa.size;have:=l.size;have:=ak.out;omega);refine fA ?_;show cY cL _ _ (cS 10 _) _ _;simp only[aZ,bB];go_upto_region 2 with fail;rw[ay.out];have c6:∀W,aD d W->CV W w1 6 (ac Ap np a9)/\CV W w1 8 (ac Q nf cf):=λW b=>have x:=(Z.below b Z.out.lt);⟨x.cell 6,x.cell 8⟩;refine iA (aD d) 7 (.take 0 (.take 1 (.take 3 (.take 4 (.one 2 (.take 6 (.one 5 .done))))))) kZ kZ (cC d) ?_;(iterate 4 refine tT ?_);refine dQ ?_;refine tC ?_;refine(bq _ (aA T (cC d))).mono ?_;rintro e wc⟨vp,rfl,k,b6⟩;have M:aD d wc:=aA (cC d) b6;refine⟨vp,rfl,M,?_⟩;(iterate 1 refine tT ?_);refine dQ ?_;refine tC ?_;refine(bn _ (aA T M)).mono ?_;rintro e f⟨ch,rfl,be,bd⟩;have m:aD d f:=aA M bd;refine⟨ch,rfl,m,?_⟩;obtain⟨u,N,c3,rfl⟩:=gW k;obtain⟨y,O,c4,rfl⟩:=gW be;have ae:=Z.below m Z.out.lt;have cv:CV f w1 6 (ac Ap np a9):=ae.cell 6;have cw:CV f w1 8 (ac Q nf cf):=ae.cell 8;have bb:∀n,f.frozen? ⟨(w1:Nat),n,cD⟩=cQ:=λn=>ae.frozen n;have ap:=cR (cR ae 6 (ac u N c3)) 8 (ac y O c4);have an:aL (λi=>i=(w1:Nat)\/i=(w1:Nat)+1) f ((f.setCell (w1,6) (ac u N c3)).setCell (w1,8) (ac y O c4)):=((eN _ _).setCell (.inl (.inl rfl)) _).setCell (.inl (.inl rfl)) _;have bl:Blk ((f.setCell (w1,6) (ac u N c3)).setCell (w1,8) (ac y O c4)) ((w1:Nat)+1) 31 #[cE,cE,(),(),(),(),cE,cE,cE]:=eI (eI (a0.below m a0.out.lt) (by show(w1:Nat)+1≠(w1:Nat);omega) _) (by show(w1:Nat)+1≠(w1:Nat);omega) _;obtain⟨ab,ai⟩:=nQ ((f.setCell (w1,6) (ac u N c3)).setCell (w1,8) (ac y O c4));rw[ai.out]at ap an bl;simp at ap;have ag:=qZ (aC k (aC (dT (F:=λi=>i=(w1:Nat)\/i=(w1:Nat)+1) M) (dT (F:=λi=>i=(w1:Nat)\/i=(w1:Nat)+1) bd)));have af:=qZ (aC be (aC an (show(w1:Nat)+1<(f:Nat)from by have:=m.size;have:=al.out;omega)));have ax:=qZ (aC (show(w1:Nat)+1<d.drew.heap.size from al) (show(w1:Nat)+1<(wc:Nat)from by have:=M.size;have:=al.out;omega));have aj:=qZ ap;have a5:=qZ bl;have bt:=qY (cA w1 w1 ab) (((aA T m).trans (an.below (aA T m).size λi hi=>oZ)));have a8:=qY ((f:Nat)=(ab:Nat)) (by rw[<-ai.out];simp);refine fA ?_;show cY cL _ _ (cS 7 _) _ _;simp only[aZ,bB];go_upto_region 3 with fail;rw[ai.out];have c7:CV ab w1 7 (ac aq nr ba):=aj.cell 7;have bs:=qZ (br ab bt);go_wp2_with fail;refine bs.mono ?_;rintro e c⟨vr,cx,rfl,bh,b8,am,b7⟩;obtain⟨bm,cg,c5,rfl⟩:=gW bh.1;have bj:=aj.below am aj.out.lt;have g:=a5.below am a5.out.lt;obtain⟨cl,e1,e2,e3,e4,cm,e6,e7,cn⟩:=bj.c9;have bb:∀n,c.frozen? ⟨(w1:Nat),n,cD⟩=cQ:=λn=>bj.frozen n;have co:∀n,c.frozen? ⟨(w1:Nat)+1,n,cD⟩=cQ:=λn=>g.frozen n;have bw:CV c ((w1:Nat)+1) 0 (ac cD 0 0)/\CV c ((w1:Nat)+1) 1 (ac cD 0 0)/\CI c ((w1:Nat)+1) 2 0/\CI c ((w1:Nat)+1) 3 0/\CI c ((w1:Nat)+1) 4 0/\CI c ((w1:Nat)+1) 5 0/\CV c ((w1:Nat)+1) 6 (ac cD 0 0)/\CV c ((w1:Nat)+1) 7 (ac cD 0 0)/\CV c ((w1:Nat)+1) 8 (ac cD 0 0):=
  ⟨g.cell 0,g.cell 1,g.cell 2,g.cell 3,g.cell 4,g.cell 5,g.cell 6,g.cell 7,g.cell 8⟩
 have ah:=qZ (aC bh (aC b8 b7));have bu:=qZ am;go_wp2_with fail;refine cT (v:=eC #[ac o n1 c1,ac r n2 c2,s.c.aG,s.c.aJ,s.aQ,s.next,ac u N c3,ac bm cg c5,ac y O c4]) (by simp[results,Tryz.results34,go_sem,bw]) rfl ?_;refine⟨_,_,_,_,_,_,_,rfl,aiB (b1:=(w1:Nat)) (b2:=(w1:Nat)+1) au.1 ar.1 ag.1 af.1 (by rw[a8.out];exact ah.1) ah.2.1 (by rw[a8.out];exact ah.2.2) lZ (Nat.lt_succ_self _) aw.1 aw.2 ax.1 ax.2 af.2.2 au.2 (ar.2.trans ag.2.1) ag.2.2 (af.2.1.trans (dT bu)) ?_ bv av.1 av.2⟩;(repeat refine gp ?_ sZ _);exact eN _ _
theorem alR{aQ:Int}{x:eM}(s:BZ x)(i:∀r∈x.rs,Top.Fair r.p)(n:(cB x.rs).Nodup):(dC c aQ x p).ev.length<=x.ev.length+101:=by
 have j:=xZ (c:=c) (aQ:=aQ) (p:=p) i;generalize dC c aQ x p=y at j;cases j with
 |run fl hs b a=>simp
 |wait b a=>simp
 |give l fl hs b a d g=>
  have f:=(Top.choose_spec i d a).1;have m:∀id∈l,id∈cB x.rs:=λid k=>by obtain⟨r,o,e,_⟩:=f.of id k;exact bU.2 ⟨r,o,e⟩
  have e:=(yB n l x.ps x.ev f.nodup m).2.2.2;have e2:(lJ x l).ev=x.ev++l.map (λid=>⟨2,id,0⟩):=e;have u:=IW f;have v:=s.len.2;show((lJ x l).ev++[_]).length<=_;rw[e2];simp;omega
 |first t b a d g=>simp
 |none b a d g=>simp
def aku(s:eE)(r:eE×List gv)(w1:cM)(e:gm)(w':cM):Prop:=∃v1 v2 vp vr vh ve rl,e=cH (dE #[stv v1 v2 vp vr vh r.1,ve])/\StR w' v1 v2 vp vr vh r.1 rl/\bL w' w1 49 3 mY ve r.2/\cA w1 w1 w'/\∀z,z<=(w1:Nat)->qC z v1 v2 vp vr vh r.1 rl
structure aqv (rb:Nat) (cs:Array Value) (W:World):Prop where
 box:Blk W rb 91 cs
theorem apu{n m:cM}{i:cU}(h:OwnAt n m w v1 v2 vp vr i s rl):mD (n:Nat) m (w.alloc (cJ #[v1,v2,s.c.aG,s.c.aJ,s.aQ,s.next,vp,vr,i,cE,eA cQ,()] 91)) (w:Nat) v1 v2 i vp vr (ac cD 0 0) s rl ⟨s.ps,s.rs,[],cQ,0⟩:=by
 have j:cA w w (w.alloc (cJ #[v1,v2,s.c.aG,s.c.aJ,s.aQ,s.next,vp,vr,i,cE,eA cQ,()] 91)):=bZ;have l:=aA h.on j;have p:=h.on.size;have k:=h.rs.1.lt;refine⟨l,h.cfg,cV _ _ _,p,pV h.ps l,h.rs.below j,h.map,fx _ _ _ _ _,λe=>?_,λe=>(by cases e),λb _ e=>(by cases e),λf b e a=>?_,λy g f b e a=>?_,h.low,λ_ b e=>h.fp b e,λy g f b e=>bC h.low (h.fresh y g f b e)⟩
 .have:=(k _ e).2;omega
 .obtain⟨c,d,o⟩:=RY h.ps f;rw[e]at d;injection d with d;rcases a with a|a|a
  .omega
  .have:=(k _ a).1;omega
  .cases a
 .obtain⟨c,d,o⟩:=zJ (h.rs.2 y g).1 f;rw[e]at d;injection d with d;rcases a with a|a|a
  .omega
  .exact(h.rs.2 y g).2 f b a e
  .cases a
theorem adr(c:eW)(aQ:Int)(x:eM)(l:List eQ)(h:l[k]? =cI p):fz c aQ x (l.take (k+1))=dC c aQ (fz c aQ x (l.take k)) p:=by have b:=(bF.1 h).1;have a:=(bF.1 h).2;unfold fz;rw[bE b,fB,a];rfl
structure MS (L:Nat) (wm ws wr:World) (rb:Nat) (v1 v2 vh vr0 ve0:Value) (s:Top.S) (x0:Top.Rd) (row:List Ord.P) (k:Nat) (vpk vrk vek:Value) (rlk:List Run) (x:Top.Rd):Prop where
 rd:mD L wm wr rb v1 v2 vh vpk vrk vek s rlk x
 eq:x=Top.rounds s.c s.aQ x0 (row.take k)
 mid:Top.Mid s x (row.drop k)
 lies:uH s.c x.rs
 evs:x.ev.length<=101*k
 bA:aL (kU rb vr0 ve0) ws wr
 grown:∀i,kU rb vrk vek i->kU rb vr0 ve0 i\/(ws:Nat)<=i
theorem MS.next{z:cM}{L j:Nat}{o Y F A:cU}{x0 x:eM}{row:List eQ}(h:MS L z w wr j v1 v2 o v X s x0 row k Y F A r x)(d:gz n s)(Q:n<=1000)(g:row[k]? =cI p)(T:oG L z wr j v1 v2 o F A s (dC s.c s.aQ x p) w'):∃u y m l xn,MS L z w w' j v1 v2 o v X s x0 row (k+1) u y m l xn:=by
 obtain⟨u,y,m,l,H,b,I⟩:=T;have O:=(bF.1 g).1;have M:=(bF.1 g).2;have K:row.drop k=p::row.drop (k+1):=by rw[<-M];exact cZ O
 have a:=h.mid;rw[K]at a;have hs:=d.sane;have W:=abF d Q a h.lies;have J:Cfg.ok s.c=cE:=by
  rcases d.cfg with e|e
  .have:=(d.none e).1;have b:=(a.left p (bJ ..)).2;rw[this]at b;cases b
  .exact e
 refine⟨u,y,m,l,_,H,?_,a.step hs,YM J hs a h.lies,?_,h.bA.trans' b λi hi N=>?_,λi hi=>?_⟩
 .rw[h.eq];exact(adr s.c s.aQ x0 row g).symm
 .have:=alR (c:=s.c) (aQ:=s.aQ) (p:=p) W (a.wY hs) (a.cB hs).2.1;have:=h.evs;omega
 .rcases h.grown i N with h|h
  .exact h
  .omega
 .rcases I i hi with f|f
  .exact h.grown i f
  .exact .inr (bC h.bA.size f)
theorem VI{α:Type}{c:Nat}{dec:α->List cU}{xs:List α}(h:gF w A k dec xs)(a:aL F w w')(f:∀b,(eJ A n c).ownBlock=cI b->¬F b):gF w' A k dec xs:=λl=>by obtain⟨g,o,rfl,d,e⟩:=h l;exact⟨g,o,rfl,aM d a.size,λi x r j u m=>(a.cell (p:=⟨g,o+i*k+j,cD⟩) d (f g rfl)).trans (e i x r j u m)⟩
theorem aoM(h:bW w (eC #[v1,v2,c.aG,c.aJ]) c)(a:aL F w w')(f:∀b,v1.ownBlock=cI b->¬F b)(g:∀b,v2.ownBlock=cI b->¬F b):bW w' (eC #[v1,v2,c.aG,c.aJ]) c:=by obtain⟨u1,u2,e,⟨A,ca,rfl,k,i⟩,⟨B,d,rfl,l,j⟩⟩:=h;simp only[eK,eB,dJ,and_true]at e;obtain⟨rfl,rfl⟩:=e;exact⟨_,_,rfl,⟨A,ca,rfl,VI k a f,i⟩,⟨B,d,rfl,VI l a g,j⟩⟩
theorem aow{l:List Nat}(h:FSl w v l)(c:aL F w w')(a:∀b,v.ownBlock=cI b->¬F b):FSl w' v l:=by obtain⟨A,cap,rfl,e,d,f⟩:=h;exact⟨A,cap,rfl,VI e c a,d,f⟩
theorem acs{up:cU}(h:StR w u1 u2 up X uh s r)(b6:gz n s)(ab:n<=1000):∀w1,cA w w w1->cN cL 13 #[stv u1 u2 up X uh s] w1 λe w'=>aku s (gr s) w1 e w':=by
 intro w1 cy;replace h:=h.below cy;have ok:=MG b6 ab;obtain⟨T,ao⟩:=nQ ((w1.alloc (cJ #[u1,u2,s.c.aG,s.c.aJ,s.aQ,s.next,up,X,uh] 31)).alloc (cJ #[cE,cE,(),(),(),(),cE,cE,cE] 31));have b0:cA w1 w1 T:=by rw[<-ao.out];have dn:(w1.alloc (cJ #[u1,u2,s.c.aG,s.c.aJ,s.aQ,s.next,up,X,uh] 31)).heap.size=(w1:Nat)+1:=sZ;exact kp
 have b9:(T:Nat)=(w1:Nat)+1+1:=by rw[<-ao.out];simp
 have dr:Blk T w1 31 #[u1,u2,s.c.aG,s.c.aJ,s.aQ,s.next,up,X,uh]:=by rw[<-ao.out];exact fw (cV _ _ _) _
 have ds:Blk T ((w1:Nat)+1) 31 #[cE,cE,(),(),(),(),cE,cE,cE]:=by rw[<-ao.out];have h:=cV (w1.alloc (cJ #[u1,u2,s.c.aG,s.c.aJ,s.aQ,s.next,up,X,uh] 31)) 31 #[cE,cE,(),(),(),(),cE,cE,cE];simp only[aT]at h;exact h
 have bk:=qZ (amF h ok T b0);have a0:=qZ (λW (bb:cA w1 w1 W)=>aio (h.below bb) ok);have bq:=qZ ok;have aa:=qZ (aC b6 ab);have bl:=qZ b0;have bu:=qZ dr;have bv:=qZ ds;have bw:=qZ b9;obtain⟨Y,au⟩:=nQ (Top.row s);rw[au.out]at a0;obtain⟨N,aq⟩:=nQ Y.length;have d7:N<=32:=by rw[<-aq.out,<-au.out,(vE s).length_eq];have:=ok.len;omega
 have bs:=qY (∀y,y=fz s.c s.aQ ⟨s.ps,s.rs,[],cQ,0⟩ Y->gr s=({s with ps:=y.ps,rs:=y.rs},y.ev)) (λy e=>by rw[e,<-au.out];rfl);obtain⟨cv,cu⟩:=nQ (gr s);rw[cu.out]at bs⊢;simp only[stv]at bk a0⊢;go_enter func13,ntmps13;go_wp2_with fail;rw[ao.out];refine bk.mono ?_;rintro e cj⟨v1,v2,vp,vr,ap,rl,az,rfl,af⟩;have ar:=qZ (apu af);have al:=qZ (aC af.f1 (aC af.f2 af.fh));have a5:=qY ((w1:Nat)+1<(az:Nat)) (by have:=af.low;have:=bw.out;omega);have bp:=qZ af.h;obtain⟨ci,a9⟩:=nQ (cj.alloc (cJ #[v1,v2,s.c.aG,s.c.aJ,s.aQ,s.next,vp,vr,ap,cE,eA cQ,()] 91));rw[a9.out]at ar;have b4:cA T T ci:=af.old.trans (Below.mono (by rw[<-a9.out];exact bZ) af.old.size);have bm:=qZ b4;have cl:=qZ (a0 ci (aA bl b4));obtain⟨f,br⟩:=nQ (cj:Nat);rw[br.out]at ar;simp only[stv];obtain⟨dt,b1,b2,b3,du,dv,dw,dx,dy⟩:=(bu.below bm bu.out.lt).c9;go_upto_region 2 with fail;rw[a9.out,br.out];go_wp2_with fail;refine cl.mono ?_;rintro e ak⟨vs,rfl,⟨bi,cs,rfl,dj⟩,de,bc⟩;have a8:=qZ (ar.dN bc);have ct:=qZ dj;have bo:=qY (Y≠[]->∀b,(eJ bi Y.length cs).ownBlock=cI b->¬kU f vr (ac cD 0 0) b) (λan b a be=>by have ai:=de an b a;have am:=ar.flt b be;omega);have db:cA T T ak:=aA bm bc;have bn:=qZ db;rw[aq.out]at bo⊢;have ck:=qY (MS (T:Nat) az ak ak f v1 v2 ap vr (ac cD 0 0) s ⟨s.ps,s.rs,[],cQ,0⟩ Y 0 vp vr (ac cD 0 0) rl ⟨s.ps,s.rs,[],cQ,0⟩) (⟨a8,rfl,by rw[<-au.out];exact Top.Mid.start aa.1.sane,aa.1.lies,bG _,eN _ _,λi hi=>.inl hi⟩);go_wp2_with fail;go_loopg[14] N (λcx dp wr=>∃(k:Nat) (cd cg cb:cU) (ay:List Run) (x:eM),dp=cF cG k/\k<=N/\N<=cx+k/\Hid (MS (T:Nat) az ak wr f v1 v2 ap vr (ac cD 0 0) s ⟨s.ps,s.rs,[],cQ,0⟩ Y k cd cg cb ay x));exact⟨0,_,_,_,_,_,mZ,oZ,oZ,ck⟩
 obtain⟨k,cd,cg,cb,ay,x,rfl,d9,d8,l⟩:=hrel;by_cases df:k<N
 .have dg:(k:Int)<(N:Int):=oZ;have aw:k<Y.length:=by rw[aq.out];exact df
  have an:Y≠[]:=λe=>by rw[e]at aw;simp at aw
  obtain⟨p,bf⟩:∃p,Y[k]? =cI p:=⟨_,aH aw⟩;have cr:=qZ bf;obtain⟨av,os,rfl,bc,L⟩:∃av os,bi=cI ⟨av,os,cD⟩/\av<(wr:Nat)/\∀j u,(eF p)[j]? =cI u->wr.cell? ⟨av,os+k*11+j,cD⟩=cI u:=by obtain⟨b,o,e,b7,bd⟩:=ct.out an;refine⟨b,o,e,aM b7 l.bA.size,λj u dl=>?_⟩;have dh:¬kU f vr (ac cD 0 0) b:=bo an b (by rw[e];rfl);exact(l.bA.cell (p:=⟨b,o+k*11+j,cD⟩) b7 dh).trans (bd k p bf j u (by simpa[fH]using dl))
  obtain⟨dq,bg⟩:=nZ (wr.alloc (cJ (eF p) 44));have b5:=aB bg;have ax:Top.Mid s x (p::Y.drop (k+1)):=by have:=l.mid;rwa [cZ aw,(bF.1 bf).2]at this
  have b8:=abF aa.1 aa.2 ax l.lies;have bj:=qY (cN cL 36 #[eL f,eC (eF p)] dq λe w'=>e=cH (dE #[])/\∃ce ch cc ca xn,MS (T:Nat) az ak w' f v1 v2 ap vr (ac cD 0 0) s ⟨s.ps,s.rs,[],cQ,0⟩ Y (k+1) ce ch cc ca xn) (by refine(alS (l.rd.dN b5) b8 (by have:=l.evs;omega) bq.mild bq.aQ (ax.wY aa.1.sane) (ax.cB aa.1.sane).2.1 p (b8.kV p (dY _ (ax.left p (bJ ..)).1))).mono ?_;rintro e w'⟨rfl,di⟩;exact⟨rfl,l.next aa.1 aa.2 cr (oG.below b5 di)⟩);have bt:=qZ bg;obtain⟨ea,p1,ef,⟨n0,n1,n2⟩,p6,ec,ed,ee,eb⟩:=p;simp only[eF]at L bj bt;obtain⟨bz,c1,c2,c3,c4,c5,c6,c7,c8,c9,c10⟩:=aC (L 0 _ rfl) (aC (L 1 _ rfl) (aC (L 2 _ rfl) (aC (L 3 _ rfl) (aC (L 4 _ rfl) (aC (L 5 _ rfl) (aC (L 6 _ rfl) (aC (L 7 _ rfl) (aC (L 8 _ rfl) (aC (L 9 _ rfl) (L 10 _ rfl))))))))));rw[Nat.add_zero]at bz;clear bg;go_wp2_with fail;refine Eq.mp (dB (λz=>cN cL _ _ z _) bt.out.symm) ?_;refine bj.mono ?_;rintro e eg⟨rfl,ce,ch,cc,ca,xn,bd⟩;have co:=qZ bd;go_wp2_with fail;go_roundg(N-(k+1));exact⟨k+1,_,_,_,_,_,mZ,oZ,oZ,co⟩;omega
 .have dg:¬(k:Int)<(N:Int):=oZ;obtain rfl:k=N:=by omega
  have cq:=qZ (bs x (by have:=l.eq;rwa [aU (by rw[aq.out];exact bG _)]at this));obtain⟨m,n1,c1,rfl⟩:=bW.s1 l.rd.cfg;obtain⟨F,n2,c2,rfl⟩:=bW.s2 l.rd.cfg;obtain⟨H,M,c3,rfl⟩:∃A n c,ap=ac A n c:=by obtain⟨A,c,e,_⟩:=bp.out;exact⟨_,_,_,e⟩
  have dm:Blk wr ((w1:Nat)+1) 31 #[cE,cE,(),(),(),(),cE,cE,cE]:=by refine Blk.bA (bv.below bn bv.out.lt) l.bA (λbe=>?_);have ai:=a8.foot _ be;have am:=a5.out;omega
  have d:=l.rd;obtain⟨Ap,O,J,rfl⟩:=pS d.ps;obtain⟨I,Q,K,rfl⟩:=gW d.rs.1;obtain⟨ag,ne,ah,rfl⟩:=gW d.ev;have cz:=d.box.drew;have Z:=dm;have an:f≠(w1:Nat)+1:=by have:=d.low;have:=a5.out;omega
  obtain⟨g,ba⟩:=nQ (World.drew ((((((((((wr.setCell ((w1:Nat)+1,0) ((ac m n1 c1))).setCell ((w1:Nat)+1,1) ((ac F n2 c2))).setCell ((w1:Nat)+1,2) s.c.aG).setCell ((w1:Nat)+1,3) s.c.aJ).setCell ((w1:Nat)+1,4) s.aQ).setCell ((w1:Nat)+1,5) s.next).setCell ((w1:Nat)+1,6) (ac Ap O J)).setCell ((w1:Nat)+1,7) (ac I Q K)).setCell ((w1:Nat)+1,8) ((ac H M c3)))));have aj:aL (λi=>i=(w1:Nat)+1) wr g:=by rw[<-ba.out];have ae:∀(W:cM) (j:Nat) (u:cU),aL (λi=>i=(w1:Nat)+1) wr W->aL (λi=>i=(w1:Nat)+1) wr (W.setCell ((w1:Nat)+1,j) u):=λW j u h=>h.setCell (p:=⟨(w1:Nat)+1,j,cD⟩) (.inl rfl) u;exact(ae _ _ _ (ae _ _ _ (ae _ _ _ (ae _ _ _ (ae _ _ _ (ae _ _ _ (ae _ _ _ (ae _ _ _ (ae _ _ _ (eN _ _)))))))))).drew
  have c0:Blk g f 91 #[(ac m n1 c1),(ac F n2 c2),s.c.aG,s.c.aJ,s.aQ,s.next,ac Ap O J,ac I Q K,(ac H M c3),ac ag ne ah,eA x.head,x.start]:=d.box.bA aj an;have cn:=qZ c0;have cm:=qZ cz;have d6:=d.lw;have b9:=bw.out;have dc:bL g w1 49 3 mY (ac ag ne ah) x.ev:=(d.ev.bA λb a=>aj.block b (d.ev.lt b a).2 λe=>by have:=(d.ev.lt b a).1;omega).low oZ;have dk:StR g (ac m n1 c1) (ac F n2 c2) (ac Ap O J) (ac I Q K) (ac H M c3) {s with ps:=x.ps,rs:=x.rs} ay:=
   ⟨aoM (d.cfg.below d.on) aj (λb a e=>by have:=al.1 b a;omega) λb a e=>by have:=al.2.1 b a;omega,yM d.ps aj λab b a e=>by have:=d.lp ab b a;omega,(nJ d.rs aj (λb a e=>by have:=(d.rs.1.lt b a).1;omega) λy bh ab b a e=>by have:=d.lh y bh ab b a;omega).runs (by have ai:=d.map;have am:=(abF aa.1 aa.2 l.mid l.lies).len.2;rw[<-ai,bP]at am;omega),d.map,aow (bp.below d.on) aj λb a e=>by have:=al.2.2 b a;omega⟩
  have dd:∀z,z<=(w1:Nat)->qC z (ac m n1 c1) (ac F n2 c2) (ac Ap O J) (ac I Q K) (ac H M c3) {s with ps:=x.ps,rs:=x.rs} ay:=λz dn=>
   ⟨λ_ b a=>by have:=al.1 b a;omega,λ_ b a=>by have:=al.2.1 b a;omega,λab b a=>by have:=d.lp ab b a;omega,λ_ b a=>by have:=(d.rs.1.lt b a).1;omega,λy bh ab b a=>by have:=d.lh y bh ab b a;omega,λ_ b a=>by have:=al.2.2 b a;omega⟩
  have da:cA w1 w1 g:=by have ai:cA w1 w1 ak:=aA bl bn;have am:cA w1 ak wr:=l.bA.below ai.size (λi hi=>by have:=a8.foot i hi;have:=a5.out;omega);exact(ai.trans am).trans (aj.below (ai.trans am).size λi hi=>oZ)
  have cp:=qY (aku s cv w1 (cH (dE #[eC #[(ac m n1 c1),(ac F n2 c2),s.c.aG,s.c.aJ,s.aQ,s.next,ac Ap O J,ac I Q K,(ac H M c3)],ac ag ne ah])) g) (by rw[cq.out];exact⟨_,_,_,_,_,_,_,rfl,dk,dc,da,dd⟩);have dz:CV wr ((w1:Nat)+1) 0 (ac cD 0 0)/\CV wr ((w1:Nat)+1) 1 (ac cD 0 0)/\CI wr ((w1:Nat)+1) 2 0/\CI wr ((w1:Nat)+1) 3 0/\CI wr ((w1:Nat)+1) 4 0/\CI wr ((w1:Nat)+1) 5 0/\CV wr ((w1:Nat)+1) 6 (ac cD 0 0)/\CV wr ((w1:Nat)+1) 7 (ac cD 0 0)/\CV wr ((w1:Nat)+1) 8 (ac cD 0 0):=
   ⟨Z.cell 0,Z.cell 1,Z.cell 2,Z.cell 3,Z.cell 4,Z.cell 5,Z.cell 6,Z.cell 7,Z.cell 8⟩
  have d0:∀n,wr.frozen? ⟨(w1:Nat)+1,n,cD⟩=cQ:=λn=>Z.frozen n;have ad:=qY (Blk g ((w1:Nat)+1) 31 #[ac m n1 c1,ac F n2 c2,s.c.aG,s.c.aJ,s.aQ,s.next,ac Ap O J,ac I Q K,ac H M c3]) (by rw[<-ba.out];have h:=cR (cR (cR (cR (cR (cR (cR (cR (cR Z 0 (ac m n1 c1)) 1 (ac F n2 c2)) 2 s.c.aG) 3 s.c.aJ) 4 s.aQ) 5 s.next) 6 (ac Ap O J)) 7 (ac I Q K)) 8 (ac H M c3);exact gl (by simpa using h));go_wp2_with fail;have bz:∀W,aqv f (#[(ac m n1 c1),(ac F n2 c2),cF cG s.c.aG,cF cG s.c.aJ,cF cG s.aQ,cF cG s.next,ac Ap O J,ac I Q K,(ac H M c3),ac ag ne ah,eA x.head,cF cG x.start]) W->CV W f 0 (ac m n1 c1)/\CV W f 1 (ac F n2 c2)/\CI W f 2 s.c.aG/\CI W f 3 s.c.aJ/\CI W f 4 s.aQ/\CI W f 5 s.next/\CV W f 6 (ac Ap O J)/\CV W f 7 (ac I Q K)/\CV W f 8 (ac H M c3)/\CV W f 9 (ac ag ne ah):=λW bb=>have x:=bb.box;⟨x.cell 0,x.cell 1,x.cell 2,x.cell 3,x.cell 4,x.cell 5,x.cell 6,x.cell 7,x.cell 8,x.cell 9⟩;refine iA (aqv f (#[(ac m n1 c1),(ac F n2 c2),cF cG s.c.aG,cF cG s.c.aJ,cF cG s.aQ,cF cG s.next,ac Ap O J,ac I Q K,(ac H M c3),ac ag ne ah,eA x.head,cF cG x.start])) 9 (.take 0 (.take 1 (.take 2 (.take 3 (.take 4 (.take 5 (.take 6 (.take 7 (.one 8 .done))))))))) kZ kZ ⟨cm⟩ ?_;(iterate 8 refine tT ?_);refine dQ ?_;apply sK;rfl;rfl;(focus(go_simp;first|done|(rw[ba.out])|rfl));exact⟨cn⟩;(focus(go_simp;first|done|rfl));refine fA ?_;show cY cL _ _ (cS 9 _) _ _;simp only[aZ,bB];have cw:CV g ((w1:Nat)+1) 0 (ac m n1 c1)/\CV g ((w1:Nat)+1) 1 (ac F n2 c2)/\CI g ((w1:Nat)+1) 2 s.c.aG/\CI g ((w1:Nat)+1) 3 s.c.aJ/\CI g ((w1:Nat)+1) 4 s.aQ/\CI g ((w1:Nat)+1) 5 s.next/\CV g ((w1:Nat)+1) 6 (ac Ap O J)/\CV g ((w1:Nat)+1) 7 (ac I Q K)/\CV g ((w1:Nat)+1) 8 (ac H M c3):=
   ⟨ad.cell 0,ad.cell 1,ad.cell 2,ad.cell 3,ad.cell 4,ad.cell 5,ad.cell 6,ad.cell 7,ad.cell 8⟩
  go_wp2_with fail;refine cT (v:=dE #[eC #[(ac m n1 c1),(ac F n2 c2),s.c.aG,s.c.aJ,s.aQ,s.next,ac Ap O J,ac I Q K,(ac H M c3)],ac ag ne ah]) (by simp[results,Tryz.results13,go_sem,cw]) rfl ?_;exact cp
structure zR (z:Nat) (wm w:World) (sb:Nat) (v1 v2 vp vr vh:Value) (s:Top.S) (rl:List Run):Prop where
 on:Below wm wm w
 cfg:bW wm (.agg #[v1,v2,s.c.aG,s.c.aJ]) s.c
 box:Blk w sb 31 #[v1,v2,s.c.aG,s.c.aJ,s.aQ,s.next,vp,vr,vh]
 low:(wm:Nat)<=sb
 ps:PSl wm vp s.ps
 rs:jS w (wm:Nat) vr rl
 map:rl.map eD=s.rs
 h:FSl wm vh s.h
 nr:vr.ownBlock≠some sb
 fh:∀y∈rl,y.aR≠[]->∀b,y.hv.ownBlock=some b->(wm:Nat)<=b/\b≠sb
 zlt:z<=(wm:Nat)
 far:qC z v1 v2 vp vr vh s rl
def sQ(z:Nat)(wm:cM)(sb:Nat)(s':eE)(err:Int)(w':cM):Prop:=cA wm wm w'/\(err=0->∃v1 v2 vp vr vh rl,Blk w' sb 31 #[v1,v2,s'.c.aG,s'.c.aJ,s'.aQ,s'.next,vp,vr,vh]/\StR w' v1 v2 vp vr vh s' rl/\qC z v1 v2 vp vr vh s' rl)
section
variable {z:Nat} {wm w w':cM} {sb:Nat} {v1 v2 vp vr vh:cU} {s:eE} {rl:List Run}
theorem zR.dN(h:zR z wm w sb v1 v2 vp vr vh s rl)(a:cA w w w'):zR z wm w' sb v1 v2 vp vr vh s rl:=
 ⟨aA h.on a,h.cfg,h.box.below a h.box.lt,h.low,h.ps,h.rs.below a,h.map,h.h,h.nr,h.fh,h.zlt,h.far⟩
theorem zR.str(h:zR z wm w sb v1 v2 vp vr vh s rl)(a:rl.length<=1000000):StR w v1 v2 vp vr vh s rl:=
 ⟨h.cfg.below h.on,pV h.ps h.on,h.rs.runs a,h.map,h.h.below h.on⟩
theorem aiA{j wm a:cM}(h:OwnAt j wm a v1 v2 vp vr vh s rl)(k:z<=(j:Nat)):zR z wm (a.alloc (cJ #[v1,v2,s.c.aG,s.c.aJ,s.aQ,s.next,vp,vr,vh] 31)) (a:Nat) v1 v2 vp vr vh s rl:=by
 have i:cA a a (a.alloc (cJ #[v1,v2,s.c.aG,s.c.aJ,s.aQ,s.next,vp,vr,vh] 31)):=bZ;refine⟨aA h.on i,h.cfg,cV _ _ _,h.on.size,h.ps,h.rs.below i,h.map,h.h,λe=>?_,λy f d b e=>⟨h.fresh y f d b e,λe2=>?_⟩,bC k h.low,⟨λ_ b e=>by have:=h.f1 b e;omega,λ_ b e=>by have:=h.f2 b e;omega,λ_ b e=>by have:=h.fp b e;omega,λ_ b e=>by have:=(h.rs.1.lt b e).1;have:=h.low;omega,λy f d b e=>by have:=h.fresh y f d b e;have:=h.low;omega,λ_ b e=>by have:=h.fh b e;omega⟩⟩
 .have:=(h.rs.1.lt _ e).2;omega
 .obtain⟨c,g,l⟩:=zJ (h.rs.2 y f).1 d;rw[e]at g;injection g with g;omega
end
theorem abd{w:cM}{u1 u2 u3 u4 u5 u6 up vr uh:cU}{rl:List Run}(i:Runs w vr rl)(s:rl.length<=1000000)(id:Int):∀w1,cA w w w1->cN cL 106 #[eC #[u1,u2,u3,u4,u5,u6,up,vr,uh],id] w1 λe w'=>akp (λx=>x.id==id) rl w1 e w':=by
 intro w1 o;obtain⟨b,a⟩:=nQ ((w1.alloc (cJ #[u1,u2,u3,u4,u5,u6,up,vr,uh] 31)).alloc (cJ #[id] 3));have g:cA w1 w1 b:=by rw[<-a.out];have v:(w1.alloc (cJ #[u1,u2,u3,u4,u5,u6,up,vr,uh] 31)).heap.size=(w1:Nat)+1:=sZ;exact kp
 have c:Blk b ((w1:Nat)+1) 3 #[id]:=by rw[<-a.out];have h:=cV (w1.alloc (cJ #[u1,u2,u3,u4,u5,u6,up,vr,uh] 31)) 3 #[id];simp only[aT]at h;exact h
 have j:=qZ (RV (i.below (aA o g)) s 161 ((w1:Nat)+1) (λy=>y.id==id) (λ_ _=>kZ) (λy W n f=>adp y id ((w1:Nat)+1) W n (aM c.lt f.size) ((c.below f c.lt).cell 0)) b (aK _ _));have l:=qZ g;obtain⟨A,cap,rfl,_⟩:=i;generalize rl.length=nr at*;go_enter func106,ntmps106;go_wp2_with fail;rw[a.out];refine j.mono ?_;rintro e z⟨r,p⟩;have m:=qZ (aA l p);have d:=qZ r;obtain⟨u,rfl⟩:∃u:Int,e=cH u:=by rcases d.out with⟨rfl,_⟩|⟨k,_,rfl,_⟩<;>exact⟨_,rfl⟩
 go_wp2_with fail;go_ret;exact⟨d,m⟩
theorem amz{rl:List Run}(id:Int):∀(k:Nat) (c:k<rl.length),(rl.take k).find? (λx=>x.id==id)=cD->rl.find? (λx=>x.id==id)=cI rl[k]->uD (rl.map eD) id=(rl.eraseIdx k).map eD:=by
 induction rl with
 |nil=>intro k c;simp at c
 |cons x t f=>
  intro k c a d;have e1:(eD x).p.id=x.id:=rfl;cases k with
  |zero=>
   have b:x.id=id:=by have:=gf d;simpa using this
   show(if(eD x).p.id=id then t.map eD else _)=_;rw[e1,aI b];rfl
  |succ k=>
   rw[List.take_succ_cons,gg]at a;have b:(x.id==id)=cQ:=by
    cases e:(x.id==id)with
    |false=>rfl
    |true=>rw[e]at a;cases a
   rw[b]at a;rw[gg,b]at d;show(if(eD x).p.id=id then t.map eD else eD x::uD (t.map eD) id)=_;rw[e1,aF (by simpa using b),f k (by simpa using c) a d];rfl
theorem TJ{rl:List Run}{id:Int}(h:rl.find? (λx=>x.id==id)=cD):rP (rl.map eD) id=cQ:=by unfold rP;rw[List.any_map,List.any_eq_false];intro x a;have:=List.find?_eq_none.1 h x a;exact this
theorem TI{rl:List Run}{id:Int}{r:Run}(h:rl.find? (λx=>x.id==id)=cI r):rP (rl.map eD) id=cE:=by unfold rP;rw[List.any_map,kS];exact⟨r,List.mem_of_find?_eq_some h,gf (p:=λx:Run=>x.id==id) h⟩
theorem alg{w:cM}{x:Run}(h:ISl w x.hv x.aR):∀u∈lV x,u.oneCell'=cE:=λu a=>by simp only[lV,bH,dL,or_false]at a;rcases a with rfl|rfl|rfl|rfl|rfl|rfl|rfl|rfl|rfl|rfl|rfl|rfl|rfl|rfl<;>first|rfl|exact FJ h
structure SbQ (z:Nat) (wm w:World) (sb:Nat) (v1 v2 vp vr vh:Value) (s:Top.S) (rl:List Run):Prop where
 on:Below wm wm w
 cfg:bW wm (.agg #[v1,v2,s.c.aG,s.c.aJ]) s.c
 box:Blk w sb 31 #[v1,v2,s.c.aG,s.c.aJ,s.aQ,s.next,vp,vr,vh]
 low:(wm:Nat)<=sb
 rs:jS w (wm:Nat) vr rl
 map:rl.map eD=s.rs
 h:FSl wm vh s.h
 nr:vr.ownBlock≠some sb
 fh:∀y∈rl,y.aR≠[]->∀b,y.hv.ownBlock=some b->(wm:Nat)<=b/\b≠sb
 zlt:z<=(wm:Nat)
 far:qC z v1 v2 vp vr vh s rl
theorem SbQ.dN{z:Nat}{wm w w':cM}{sb:Nat}{v1 v2 vp vr vh:cU}{s:eE}{rl:List Run}(h:SbQ z wm w sb v1 v2 vp vr vh s rl)(a:cA w w w'):SbQ z wm w' sb v1 v2 vp vr vh s rl:=
 ⟨aA h.on a,h.cfg,h.box.below a h.box.lt,h.low,h.rs.below a,h.map,h.h,h.nr,h.fh,h.zlt,h.far⟩
theorem zR.q{z:Nat}{wm w:cM}{sb:Nat}{v1 v2 vp vr vh:cU}{s:eE}{rl:List Run}(h:zR z wm w sb v1 v2 vp vr vh s rl):SbQ z wm w sb v1 v2 vp vr vh s rl:=⟨h.on,h.cfg,h.box,h.low,h.rs,h.map,h.h,h.nr,h.fh,h.zlt,h.far⟩
theorem NC{z:Nat}{wm w:cM}{sb:Nat}{v1 v2 vp vr vh:cU}{s:eE}{rl:List Run}(h:SbQ z wm w sb v1 v2 vp vr vh s rl)(ai:∀W,aL (λi=>vr.ownBlock=cI i\/i=sb) w W->PSl W vp s.ps)(ag:rl.length<=1000)(id:Int):cN cL 52 #[eL sb,id] w λe w'=>e=cH (cF cG (if rP s.rs id then 0 else 4))/\sQ z wm sb {s with rs:=uD s.rs id} (if rP s.rs id then 0 else 4) w':=by
 have X:=qZ (abd (u1:=v1) (u2:=v2) (u3:=cF cG s.c.aG) (u4:=cF cG s.c.aJ) (u5:=cF cG s.aQ) (u6:=cF cG s.next) (up:=vp) (uh:=vh) (h.rs.runs oZ) oZ id w (aK _ _));obtain⟨am,c1,c2,c3,c4,c5,c6,c7,c8⟩:=h.box.c9;obtain⟨A,n,c,rfl⟩:=gW h.rs.1;have d:=qZ h;have aa:=qZ ai;have u:=qZ ag;obtain⟨err,M⟩:∃err:Int,(if rP s.rs id=cE then 0 else 4)=err:=⟨_,rfl⟩;have K:=qZ M;rw[M];go_enter func52,ntmps52;go_wp2_with fail;refine X.mono ?_;rintro e J⟨af,L⟩;have a:=qZ (d.dN L);have Y:=qZ L;rcases af with⟨rfl,j⟩|⟨k,N,rfl,hs,ab⟩
 .have r:=qY ((4:Int)=err/\sQ z wm sb {s with rs:=uD s.rs id} err J) (by
   have e1:err=4:=by rw[<-K.out,<-d.out.map,TJ j];rfl
   exact⟨e1.symm,a.on,λe=>oZ⟩)
  go_wp2_with fail;go_ret;obtain⟨e1,e2⟩:=r.out;subst e1;exact⟨rfl,e2⟩
 .have ae:err=0:=by rw[<-K.out,<-d.out.map,TI hs];rfl
  subst ae;have ad:=amz id k N ab hs;have c7:CV J sb 7 (ac A n c):=a.box.cell 7;have T:=qZ (alf a.rs.1 (λx al=>alg (a.rs.2 x al).1) (by have:=u.out;omega) N);have Z:=qZ ad;have aq:IntKind.i64.wrap ((k:Int)+1)=(k:Int)+1:=by rw[cX];have:=u.out;omega
  have ar:¬((k:Int)<0):=oZ;go_wp2_with fail;refine T.mono ?_;rintro e g⟨v4,rfl,O,p,F⟩;obtain⟨l,m,c4,rfl⟩:=gW O;have v:=a.box.bA p a.nr;have au:CV g sb 7 (ac A n c):=v.cell 7;have an:g.frozen? (sb,7)=cQ:=v.frozen 7;have r:=qY (sQ z wm sb {s with rs:=uD s.rs id} 0 (g.setCell (sb,7) (ac l m c4))) (by
   have ah:cA wm J g:=p.below a.on.size (λi hi=>(a.rs.1.lt i hi).1);have H:cA wm wm (g.setCell (sb,7) (ac l m c4)):=(a.on.trans ah).setCell a.low _;have Q:aL (λi=>i=sb) g (g.setCell (sb,7) (ac l m c4)):=mG sb 7 g _;have aj:jS g (wm:Nat) (ac l m c4) (rl.eraseIdx k):=⟨O,λy o=>by have I:=List.mem_of_mem_eraseIdx o;refine⟨tL (a.rs.2 y I).1 p λj b f e=>(a.rs.2 y I).2 j b e f,λj b f=>?_⟩;rw[F]at f;exact(a.rs.2 y I).2 j b f⟩;have ak:=nJ aj Q (λb f e=>a.nr (by rw[F]at f;rw[f,e])) (λy o j b f e=>(a.fh y (List.mem_of_mem_eraseIdx o) j b f).2 e);refine⟨H,λ_=>⟨v1,v2,vp,ac l m c4,vh,rl.eraseIdx k,?_,⟨d.cfg.below H,aa _ (((dT Y).trans (p.mono λi _ hi=>Or.inl hi)).trans (Q.mono λi _ hi=>Or.inr hi)),ak.runs (by have:=List.length_eraseIdx_le rl k;have:=u.out;omega),?_,d.h.below H⟩,⟨d.far.aN,d.far.aR,d.far.ps,λ_ b f=>by have ao:=(d.rs.1.lt b (by rw[<-F];exact f)).1;have ap:=d.zlt;omega,λy o=>d.far.hv y (List.mem_of_mem_eraseIdx o),d.far.h⟩⟩⟩
   .have:=cR v 7 (ac l m c4);simpa using this
   .show(rl.eraseIdx k).map eD=uD s.rs id;rw[<-d.out.map];exact Z.out.symm)
  go_wp2_with fail;go_ret;exact⟨rfl,r⟩
theorem adi{z:Nat}{wm w:cM}{sb:Nat}{v1 v2 vp vr vh:cU}{s:eE}{rl:List Run}(h:zR z wm w sb v1 v2 vp vr vh s rl)(a:rl.length<=1000)(id:Int):cN cL 52 #[eL sb,id] w λe w'=>e=cH (cF cG (if rP s.rs id then 0 else 4))/\sQ z wm sb {s with rs:=uD s.rs id} (if rP s.rs id then 0 else 4) w':=
 NC h.q (λW k=>pV h.ps (h.on.trans (k.below h.on.size (λi hi=>by
  rcases hi with hi|rfl
  .exact(h.rs.1.lt i hi).1
  .exact h.low)))) a id
end bT
variable{z:Nat}
namespace bT
open Go.RowKit L bO eO Srt
def WG(o:Option Nat):Int:=match o with|some k=>(k:Int)|none=> -1
theorem aaT(s:eE)(g:eQ)(e:Int)(a b c d:Bool)(f:rU s.c g=e)(i:(oC s.ps g.id).isSome=a)(j:rP s.rs g.id=b)(k:gw s.c g=c)(l:decide (32<=s.ps.length+s.rs.length)=d):rZ s g=if e≠0 then e else if a||b then 5 else if c then 6 else if d then 8 else 0:=by
 unfold rZ;rw[f,i,j,k];congr 3;rw[<-l];by_cases h:32<=s.ps.length+s.rs.length
 .rw[aI h,aI (decide_eq_true h)]
 .rw[aF h,aF (by rw[dS h];decide)]
theorem aga(h:rU c p=0):zS p/\EL p:=by have g:=KY h;have a:=g.fG;have b:=g.aP;have d:=g.prefer;exact⟨⟨oZ⟩,⟨oZ,oZ⟩⟩
theorem ZY{N:cM}{d:Nat}{ay:cU}(h:zR z N w d v1 v2 vp vr ay s rl)(ok:QJ s)(g:eQ):cN cL 51 #[eL d,dV g] w λe w'=>e=cH (cF cG (rZ s g))/\sQ z N d (gn s g) (rZ s g) w':=by
 have cw:rl.length<=100:=by have:=ok.len;rw[<-h.map,bP]at this;omega
 obtain⟨l,bi⟩:=nZ (w.alloc (cJ (gK g) 42));have b2:=aB bi;have cz:Blk l w 42 (gK g):=by rw[<-bi];exact cV _ _ _
 obtain⟨ae,bf⟩:=nZ (rU s.c g);obtain⟨ak,b5⟩:=nZ (oC s.ps g.id);obtain⟨af,bg⟩:=nZ (rP s.rs g.id);obtain⟨ax,cb⟩:=nZ (gw s.c g);obtain⟨am,b7⟩:=nZ (decide (32<=s.ps.length+s.rs.length));obtain⟨err,b4⟩:=nZ (rZ s g);have a0:=qY (err=if ae≠0 then ae else if ak.isSome||af then 5 else if ax then 6 else if am then 8 else 0) (by rw[<-b4];exact aaT s g ae _ af ax am bf (by rw[b5]) bg cb b7);have bl:=qY (∀W,cA w w W->cN cL 104 #[eC #[v1,v2,s.c.aG,s.c.aJ],dV g] W λe w'=>e=cH ae/\cA W W w') (λW a=>by have:=amn (h.cfg.below (h.dN a).on) g W (aK _ _);rw[bf]at this;exact this);have ah:=qY (∀W,cA w w W->cN cL 105 #[vp,g.id] W λe w'=>e=cH (cF cG (WG ak))/\cA W W w') (λW a=>by have:=YD (pV h.ps (h.dN a).on) (by have:=ok.len;omega) g.id W (aK _ _);unfold ank at this;rw[b5]at this;exact this);have ab:=qY (∀W,cA w w W->cN cL 106 #[eC #[v1,v2,s.c.aG,s.c.aJ,s.aQ,s.next,vp,vr,ay],g.id] W λe w'=>∃u:Int,e=cH u/\decide (0<=u)=af/\cA W W w') (λW a=>by
  refine(abd (u1:=v1) (u2:=v2) (u3:=cF cG s.c.aG) (u4:=cF cG s.c.aJ) (u5:=cF cG s.aQ) (u6:=cF cG s.next) (up:=vp) (uh:=ay) ((h.dN a).rs.runs oZ) oZ g.id W (aK _ _)).mono ?_;rintro e w'⟨cv,H⟩;rcases cv with⟨rfl,b8⟩|⟨k,b6,rfl,hs,_⟩
  .exact⟨-1,rfl,by rw[<-bg,<-h.map,TJ b8];rfl,H⟩
  .exact⟨k,rfl,by rw[<-bg,<-h.map,TI hs];simp,H⟩)
 have az:=qY (ae=0->∀W,cA w w W->cN cL 107 #[eC #[v1,v2,s.c.aG,s.c.aJ],dV g] W λe w'=>e=cH (eA ax)/\cA W W w') (λdd W a=>by obtain⟨au,av⟩:=aga (bf.trans dd);have:=aiJ (h.cfg.below (h.dN a).on) ok.mild g au av W (aK _ _);rw[cb]at this;exact this);have K:=qY (∀W,cA w w W->cN cL 108 #[vp,eC (eF {g with seq:=s.next,since:=s.aQ})] W λe w'=>acT (gn s g).ps W e w') (λW a=>
  MB (pV h.ps (h.dN a).on) (by have:=ok.len;omega) {g with seq:=s.next,since:=s.aQ} W (aK _ _))
 have ck:=qY (∀p∈(gn s g).ps,POk p) (λp cd=>by
  rcases GV _ _ _ cd with rfl|cd
  .have co:=ok.next;have cp:=ok.aQ;refine⟨?_,?_⟩<;>unfold InI<;>simp only<;>omega
  .exact(ok.kV p (dY _ cd)).ok)
 have cj:=qZ h;have I:=qZ (h.dN b2);have r:=qZ cz;have bn:=qZ b2;have cn:=qZ bi;have da:=qZ ok.next;have ba:=qY (s.ps.length<=100/\rl.length<=100) (⟨by have:=ok.len;omega,cw⟩);have bp:=qY (decide (32<=s.ps.length+rl.length)=am) (by rw[<-b7,<-h.map,bP]);rw[b4];obtain⟨Y,b1⟩:=nZ (gn s g);have br:=qY (Y={s with ps:=Y.ps,next:=s.next+1}) (by rw[<-b1];rfl);rw[b1]at K ck⊢;have db:∃A c,vp=ac A s.ps.length c:=by obtain⟨A,c,e,_⟩:=h.ps;exact⟨A,c,e⟩
 have dc:∃A c,vr=ac A rl.length c:=by obtain⟨A,c,e,_⟩:=h.rs.runs oZ;exact⟨A,c,e⟩
 obtain⟨Ap,be,rfl⟩:=db;obtain⟨bk,bs,rfl⟩:=dc;clear h ok cw bi b2 cz bf b5 bg cb b7 b4 b1;obtain⟨an,b9⟩:=nZ s.ps.length;obtain⟨aw,ca⟩:=nZ rl.length;rw[b9]at I ah ab K cj ba bp;rw[ca]at I ab cj ba bp;have c0:=qZ (aC b9 ca);clear b9 ca;obtain⟨bj,p1,ci,⟨n0,n1,n2⟩,p6,cg,ch,dw,dv⟩:=g;simp only[dV,gK,eF]at bl ah ab az K r cn⊢;go_enter func51,ntmps51;go_wp2_with fail;rw[cn.out];have aj:∀W,aD l W->CV W d 0 v1:=λW a=>(I.dN a).box.cell 0;have c1:∀W,aD l W->CV W d 1 v2:=λW a=>(I.dN a).box.cell 1;have c2:∀W,aD l W->CI W d 2 s.c.aG:=λW a=>(I.dN a).box.cell 2;have c3:∀W,aD l W->CI W d 3 s.c.aJ:=λW a=>(I.dN a).box.cell 3;have al:∀W,aD l W->CI W w 0 bj:=r.fa 0;have au:∀W,aD l W->CI W w 1 p1:=r.fa 1;have av:∀W,aD l W->CI W w 2 ci:=r.fa 2;have bt:∀W,aD l W->CI W w 3 n0:=r.fa 3;have bu:∀W,aD l W->CI W w 4 n1:=r.fa 4;have bv:∀W,aD l W->CI W w 5 n2:=r.fa 5;have bw:∀W,aD l W->CI W w 6 p6:=r.fa 6;have bz:∀W,aD l W->CI W w 7 cg:=r.fa 7;have b0:∀W,aD l W->CI W w 8 ch:=r.fa 8;refine iA (aD l) 5 (.take 0 (.take 1 (.take 2 (.take 3 (.take 4 .done))))) kZ kZ (cC l) ?_;(iterate 5 refine tT ?_);clear aj c1 c2 c3 al au av bt bu bv bw bz b0;refine fA ?_;show cY cL _ _ (cS 5 _) _ _;simp only[aZ,bB];have X:=qZ (cC l);go_wp2_with fail;refine(bl _ (aA bn X)).mono ?_;rintro e m⟨rfl,cq⟩;have ai:=qZ (aA X cq);clear cq bl;by_cases b3:ae=0
 .subst b3;have bm:=qZ (az rfl);have T:=qY (err=if ak.isSome||af then 5 else if ax then 6 else if am then 8 else 0) (by rw[a0.out,aF dZ]);have F:=qZ (I.dN ai);have bd:=qZ (r.below ai r.out.lt);have a5:=qZ (aA bn ai);clear az a0 I r ai X bn;go_upto_region 4 with fail;go_cut[16] (λv dn=>v=eA (ak.isSome||af)/\Hid (aD m dn));case first=>
   have aj:∀W,aD m W->CV W d 0 v1:=λW a=>(F.dN a).box.cell 0;have c1:∀W,aD m W->CV W d 1 v2:=λW a=>(F.dN a).box.cell 1;have c2:∀W,aD m W->CI W d 2 s.c.aG:=λW a=>(F.dN a).box.cell 2;have c3:∀W,aD m W->CI W d 3 s.c.aJ:=λW a=>(F.dN a).box.cell 3;have c4:∀W,aD m W->CI W d 4 s.aQ:=λW a=>(F.dN a).box.cell 4;have c5:∀W,aD m W->CI W d 5 s.next:=λW a=>(F.dN a).box.cell 5;have c6:∀W,aD m W->CV W d 6 (ac Ap an be):=λW a=>(F.dN a).box.cell 6;have c7:∀W,aD m W->CV W d 7 (ac bk aw bs):=λW a=>(F.dN a).box.cell 7;have c8:∀W,aD m W->CV W d 8 ay:=λW a=>(F.dN a).box.cell 8;have al:∀W,aD m W->CI W w 0 bj:=bd.fa 0;refine iA (aD m) 14 (.take 0 (.take 1 (.take 2 (.take 3 (.take 4 (.take 5 (.one 6 (.take 7 (.take 8 (.take 9 (.take 10 (.take 11 (.take 12 (.take 13 .done)))))))))))))) kZ kZ (cC m) ?_;(iterate 6 refine tT ?_);refine dQ ?_;refine tC ?_;refine(ah _ (aA a5 (cC m))).mono ?_;rintro e dz⟨rfl,cr⟩;have bb:=qZ (aA (cC m) cr);refine⟨_,rfl,bb,?_⟩;clear cr ah;cases ak with
   |some k=>
    have ds:(0:Int)<=(k:Int):=oZ;simp only[WG];(iterate 2 refine tT ?_);(iterate 5 refine tN ?_);clear aj c1 c2 c3 c4 c5 c6 c7 c8 al;refine fA ?_;show cY cL _ _ (cS 14 _) _ _;simp only[aZ,bB];go_wp2_with fail;go_meet;exact⟨sZ,bb⟩
   |none=>
    simp only[WG];(iterate 7 refine tT ?_);clear aj c1 c2 c3 c4 c5 c6 c7 c8 al;refine fA ?_;show cY cL _ _ (cS 14 _) _ _;simp only[aZ,bB];go_wp2_with fail;refine(ab _ (aA a5 bb)).mono ?_;rintro e d0⟨u,rfl,bh,cs⟩;have cl:=qZ (aA bb cs);clear cs ab;cases af
    .have di:¬((0:Int)<=u):=of_decide_eq_false bh;clear bh;go_wp2_with fail;go_meet;exact⟨by simp;omega,cl⟩
    .have di:(0:Int)<=u:=of_decide_eq_true bh;clear bh;go_wp2_with fail;go_meet;exact⟨sZ,cl⟩
  case rest=>
   obtain⟨rfl,bc⟩:=hcut;have O:=qZ (F.dN bc);have x:=qZ (bd.below bc bd.out.lt);have a8:=qZ (aA a5 bc);clear F bd a5 bc ah ab;obtain⟨dl,cx⟩:=nZ ((ak.isSome||af));rw[cx]at T⊢;clear cx;cases dl
   .go_wp2_with fail;have aj:∀W,aD wc W->CV W d 0 v1:=λW a=>(O.dN a).box.cell 0;have c1:∀W,aD wc W->CV W d 1 v2:=λW a=>(O.dN a).box.cell 1;have c2:∀W,aD wc W->CI W d 2 s.c.aG:=λW a=>(O.dN a).box.cell 2;have c3:∀W,aD wc W->CI W d 3 s.c.aJ:=λW a=>(O.dN a).box.cell 3;have al:∀W,aD wc W->CI W w 0 bj:=x.fa 0;have au:∀W,aD wc W->CI W w 1 p1:=x.fa 1;have av:∀W,aD wc W->CI W w 2 ci:=x.fa 2;have bt:∀W,aD wc W->CI W w 3 n0:=x.fa 3;have bu:∀W,aD wc W->CI W w 4 n1:=x.fa 4;have bv:∀W,aD wc W->CI W w 5 n2:=x.fa 5;have bw:∀W,aD wc W->CI W w 6 p6:=x.fa 6;have bz:∀W,aD wc W->CI W w 7 cg:=x.fa 7;have b0:∀W,aD wc W->CI W w 8 ch:=x.fa 8;refine iA (aD wc) 5 (.take 0 (.take 1 (.take 2 (.take 3 (.take 4 .done))))) kZ kZ (cC wc) ?_;(iterate 5 refine tT ?_);clear aj c1 c2 c3 al au av bt bu bv bw bz b0;refine fA ?_;show cY cL _ _ (cS 5 _) _ _;simp only[aZ,bB];have X:=qZ (cC wc);go_wp2_with fail;refine(bm _ (aA a8 X)).mono ?_;rintro e Z⟨rfl,ct⟩;have J:=qZ (aA X ct);have Q:=qZ (O.dN J);have ar:=qZ (x.below J x.out.lt);have a9:=qZ (aA a8 J);clear ct X J O x a8 bm;cases ax
    .go_wp2_with fail;have c6:∀W,aD Z W->CV W d 6 (ac Ap an be):=λW a=>(Q.dN a).box.cell 6;have c7:∀W,aD Z W->CV W d 7 (ac bk aw bs):=λW a=>(Q.dN a).box.cell 7;have dt:=ba.out;obtain⟨ao,dg⟩:∃ao:Nat,an+aw=ao:=⟨_,rfl⟩;have dh:(an:Int)+(aw:Int)=(ao:Int):=oZ;have dj:IntKind.i64.wrap (ao:Int)=(ao:Int):=by rw[cX];omega
     have de:decide ((32:Int)<=(ao:Int))=am:=by rw[<-bp.out];congr 1;apply propext;constructor<;>intro cv<;>omega
     refine jB (aD Z) (.take 0 (.take 1 (.take 2 (.take 3 (.take 4 (.take 5 (.take 6 (.take 7 (.take 8 (.take 9 (.take 10 (.take 11 (.take 12 .done))))))))))))) kZ kZ (cC Z) ?_;(iterate 13 refine tT ?_);clear c6 c7 dh dj de dg;have J:=qZ (cC Z);refine fA ?_;cases am
     .have o:=qY (err=0) (by rw[T.out];rfl);go_upto_region 10 with fail;have ad:=qZ (Q.dN J);have j:=qZ (ar.below J ar.out.lt);have bo:=qZ (aA a9 J);clear Q ar a9 J;obtain⟨ap,cy⟩:=nZ Z.drew;rw[cy]at ad j bo⊢;clear cy;have c4:∀W,aD ap W->CI W d 4 s.aQ/\CI W d 5 s.next/\CV W d 6 (ac Ap an be)/\CI W w 0 bj/\CI W w 1 p1/\CI W w 2 ci/\CI W w 3 n0/\CI W w 4 n1/\CI W w 5 n2/\CI W w 6 p6/\CI W w 7 cg/\CI W w 8 ch:=λW a=>⟨(ad.dN a).box.cell 4,(ad.dN a).box.cell 5,(ad.dN a).box.cell 6,(j.below a j.out.lt).cell 0,(j.below a j.out.lt).cell 1,(j.below a j.out.lt).cell 2,(j.below a j.out.lt).cell 3,(j.below a j.out.lt).cell 4,(j.below a j.out.lt).cell 5,(j.below a j.out.lt).cell 6,(j.below a j.out.lt).cell 7,(j.below a j.out.lt).cell 8⟩;refine iA (aD ap) 16 (.take 0 (.take 1 (.take 2 (.take 3 (.take 4 (.take 5 (.take 6 (.take 7 (.take 8 (.take 9 (.take 10 (.take 11 (.take 12 (.take 13 (.take 14 (.one 15 .done)))))))))))))))) kZ kZ (cC ap) ?_;(iterate 15 refine tT ?_);clear c4;refine dQ ?_;refine tC ?_;refine(K _ (aA bo (cC ap))).mono ?_;rintro e M⟨dm,rfl,ce,cu⟩;have bq:=qZ (aA (cC ap) cu);refine⟨dm,rfl,bq,?_⟩;obtain⟨aa,ag,c7,rfl⟩:=gW ce;have f:=qZ (ad.dN bq);have aq:=qZ ce;have dx:CI M d 5 s.next:=f.box.cell 5;have dy:CV M d 6 (ac Ap an be):=f.box.cell 6;have dp:∀n,M.frozen? ⟨d,n,cD⟩=cQ:=λn=>f.box.frozen n;have du:IntKind.i64.wrap (s.next+1)=s.next+1:=by rw[cX];have:=da.out;omega
      have cm:=qY (d<ap.drew.heap.size) ad.box.lt;clear ce cu bq K ad j bo;refine fA ?_;show cY cL _ _ (cS 16 _) _ _;simp only[aZ,bB];have L:=qY (sQ z N d Y 0 ((M.setCell (d,6) (ac aa ag c7)).setCell (d,5) (cF cG (s.next+1)))) (by
       have b6:aL (λi=>i=d) M ((M.setCell (d,6) (ac aa ag c7)).setCell (d,5) (cF cG (s.next+1))):=(mG d 6 M _).trans (mG d 5 _ _);have cc:cA N N ((M.setCell (d,6) (ac aa ag c7)).setCell (d,5) (cF cG (s.next+1))):=(f.on.setCell f.low _).setCell f.low _;have df:bL ((M.setCell (d,6) (ac aa ag c7)).setCell (d,5) (cF cG (s.next+1))) _ 44 11 fH (ac aa ag c7) Y.ps:=aq.bA (λb H=>b6.block b (aq.out.lt b H).2 λe=>by have co:=(aq.out.lt b H).1;have cp:=cm.out;omega);refine⟨cc,λ_=>⟨v1,v2,ac aa ag c7,ac bk aw bs,ay,rl,?_,?_,?_⟩⟩
       .rw[br.out];have:=cR (cR f.box 6 (ac aa ag c7)) 5 (cF cG (s.next+1));simpa using this
       .rw[br.out];exact⟨f.cfg.below cc,yJ df ck,(nJ f.rs b6 (λb H e=>f.nr (e▸H)) λy dk b8 b H e=>(f.fh y dk b8 b H).2 e).runs (by have:=ba.2;have:=c0.2;omega),f.map,f.h.below cc⟩
       .rw[br.out];exact⟨f.far.aN,f.far.aR,λ_ b H=>by have co:=(aq.out.lt b H).1;have cp:=cm.out;have dq:=f.zlt;have dr:=f.low;omega,f.far.rs,f.far.hv,f.far.h⟩)
      have e1:=o.out;subst e1;clear f aq o;go_wp2_with fail;go_ret;exact⟨rfl,L⟩
     .have o:=qY (err=8) (by rw[T.out];rfl);have L:=qY (sQ z N d Y err Z.drew) (⟨aA Q.on J,λe=>by rw[o.out]at e;cases e⟩);clear Q ar a9 T K;go_wp2_with fail;go_ret;have e1:=o.out;subst e1;exact⟨rfl,L⟩
    .have o:=qY (err=6) (by rw[T.out];rfl);have L:=qY (sQ z N d Y err Z) (⟨Q.on,λe=>by rw[o.out]at e;cases e⟩);clear Q ar a9 T K;go_wp2_with fail;go_ret;have e1:=o.out;subst e1;exact⟨rfl,L⟩
   .have o:=qY (err=5) (by rw[T.out];rfl);have L:=qY (sQ z N d Y err wc) (⟨O.on,λe=>by rw[o.out]at e;cases e⟩);clear O x a8 T K bm;go_wp2_with fail;go_ret;have e1:=o.out;subst e1;exact⟨rfl,L⟩
 .have o:=qY (err=ae) (by rw[a0.out,aI b3]);have L:=qY (sQ z N d Y err m) (⟨(I.dN ai).on,λe=>absurd (o.out.symm.trans e) b3⟩);clear az ah ab K a0 I r ai X;go_wp2_with fail;go_ret;have e1:=o.out;subst e1;exact⟨rfl,L⟩
theorem akw(n:bW w v c)(o:c.aN.length<=1000000):∀w1,cA w w w1->cN cL 103 #[v] w1 λe w'=>JF (cP c.aN.length 0) w1 e w':=by intro w1 l;obtain⟨v1,v2,rfl,f,u⟩:=n;obtain⟨p,b⟩:=nQ (w1.alloc (cJ #[v1,v2,c.aG,c.aJ] 26));have d:=aB b;have i:=qZ (agZ f o p (aA l d));have a:=qZ d;obtain⟨A,cap,rfl,_,_⟩:=f;generalize c.aN.length=nn at*;go_enter func103,ntmps103;go_wp2_with fail;rw[b.out];refine i.mono ?_;rintro e y⟨v',rfl,g,m⟩;have k:=qZ (g.low a.size);have j:=qZ (aA a m);obtain⟨r,x,s,rfl⟩:=gW g;go_wp2_with fail;go_ret;exact⟨_,rfl,k,j⟩
structure CbS (cb:Nat) (cs:Array Value) (W:World):Prop where
 box:Blk W cb 26 cs
def yS(s:eE)(c:eW):Int:=if eS c≠0 then 2 else if 0<s.ps.length+s.rs.length then 7 else 0
theorem ajL(c:eW):eS c=0\/eS c=2:=by unfold eS;split<;>simp
theorem WM{X:cM}{a:Nat}{bb bz:cU}(h:zR z X w a v1 v2 vp vr bb s rl)(ok:QJ s)(ce:bW w bz c)(df:∀W,aL (λi=>i=a) w W->bW W bz c):cN cL 50 #[eL (cI ⟨a,0,cD⟩),bz] w λe w'=>e=cH (cF cG (yS s c))/\sQ z X a {s with c:=c,h:=cP c.aN.length 0} (yS s c) w':=by
 have di:rl.length<=100:=by have:=ok.len;rw[<-h.map,bP]at this;omega
 have dh:s.ps.length<=100:=by have:=ok.len;omega
 have dg:s.rs.length=rl.length:=by rw[<-h.map,bP]
 obtain⟨u1,u2,rfl,⟨j,m,rfl,dl,d6⟩,⟨g,l,rfl,dk,d0⟩⟩:=id ce;obtain⟨ds,a8⟩:=nZ (w.alloc (cJ #[ac j c.aN.length m,ac g c.aR.length l,c.aG,c.aJ] 26));have bt:=aB a8;have dv:=aX a8;have bc:=qZ (ajM ce ds bt);have b2:=qY (c.aN.length<=1000000->∀W,cA w w W->cN cL 75 #[ac j c.aN.length m] W λe w'=>∃v',e=cH v'/\bL w' W 66 11 nN v' c.aN/\cA W W w') (λp W o=>
  uQ PN aan rfl oZ Tryz.sizeOf66 nel (w:=W) (show SlK W 11 nN _ c.aN from⟨j,m,rfl,dl.below o⟩) (by unfold eR;omega) oZ)
 have b1:=qY (c.aR.length<=1000000->∀W,cA w w W->cN cL 76 #[ac g c.aR.length l] W λe w'=>∃v',e=cH v'/\bL w' W 131 6 hdec v' c.aR/\cA W W w') (λp W o=>
  uQ PS hinfo rfl oZ Tryz.sizeOf131 hel (w:=W) (show SlK W 6 hdec _ c.aR from⟨g,l,rfl,dk.below o⟩) (by unfold eR;omega) oZ)
 have b3:=qY (c.aN.length<=1000000->∀W,bW W (eC #[ac j c.aN.length m,ac g c.aR.length l,c.aG,c.aJ]) c->cN cL 103 #[eC #[ac j c.aN.length m,ac g c.aR.length l,c.aG,c.aJ]] W λe w'=>JF (cP c.aN.length 0) W e w') (λp W o=>akw o p W (aK _ _));have b4:=qY (∀W,aL (λi=>i=a) w W->bW W (eC #[ac j c.aN.length m,ac g c.aR.length l,c.aG,c.aJ]) c) df;obtain⟨Y,ah⟩:=nZ (eS c);obtain⟨ba,bu⟩:=nZ (decide (0<s.ps.length+rl.length));have bh:=qY (yS s c=if Y≠0 then 2 else if ba then 7 else 0) (by
  unfold yS;rw[ah,dg,<-bu];by_cases p:0<s.ps.length+rl.length
  .simp[p]
  .simp[p])
 have cs:=qY (Y=0\/Y=2) (by rw[<-ah];exact ajL c);have bg:=qY (Y=0->c.aN.length<=1000000/\c.aR.length<=1000000) (λe=>by
  have dj:Cfg.ok c=cE:=by
   have e2:=ah.trans e;unfold eS at e2;split at e2
   .assumption
   .cases e2
  have:=yO dj;exact⟨oZ,oZ⟩)
 rw[ah]at bc;obtain⟨err,ci⟩:=nZ (yS s c);rw[ci]at bh⊢;have bi:=qZ h;have bd:=qZ (h.dN bt);have bp:=qZ dv;have cr:=qZ bt;have b8:=qZ a8;have ap:=qZ (aC dh di);have bj:=qZ bu;have cz:∃A c,vp=ac A s.ps.length c:=by obtain⟨A,c,e,_⟩:=h.ps;exact⟨A,c,e⟩
 have c0:∃A c,vr=ac A rl.length c:=by obtain⟨A,c,e,_⟩:=h.rs.runs oZ;exact⟨A,c,e⟩
 obtain⟨Ap,aw,rfl⟩:=cz;obtain⟨ak,ax,rfl⟩:=c0;obtain⟨bq,ar⟩:=nQ (({s with c:=c,h:=cP c.aN.length 0}:eE));rw[ar.out];clear a8 ah bu ci;obtain⟨v,aj⟩:=nZ c.aN.length;obtain⟨u,ai⟩:=nZ c.aR.length;obtain⟨aG,a0⟩:=nZ c.aG;obtain⟨aJ,az⟩:=nZ c.aJ;obtain⟨aa,bv⟩:=nZ s.ps.length;obtain⟨ab,bw⟩:=nZ rl.length;have an:=qZ (aC aj (aC ai (aC a0 (aC az (aC bv bw)))));rw[aj,ai,a0,az]at bc b3 b4 bp b8;rw[aj]at b2 bg;rw[ai]at b1 bg;rw[bv]at bi bd ap bj;rw[bw]at bi bd ap bj;rw[aj,ai,a0,az];clear aj ai a0 az bv bw;go_enter func50,ntmps50;go_wp2_with fail;rw[b8.out];refine bc.out.mono ?_;rintro e O⟨rfl,bs⟩;have al:=qZ (bd.out.dN bs);have b9:=qZ (bp.out.below bs bp.out.lt);have ct:=qZ (aA cr.out bs);by_cases cg:Y=0
 .subst cg;obtain⟨ch,dc⟩:=bg.out rfl;have co:=qZ (b2.out ch);have cn:=qZ (b1.out dc);have cp:=qZ (b3.out ch);have b5:=qY (err=if ba then 7 else 0) (by rw[bh.out,aF dZ]);go_upto_region 4 with fail;have e6:∀W,aD O W->W.cell? ⟨a,6,cD⟩=cI (ac Ap aa aw)/\W.cell? ⟨a,7,cD⟩=cI (ac ak ab ax):=λW o=>have x:=(al.out.dN o).box;⟨x.cell 6,x.cell 7⟩;have dz:=ap.out;obtain⟨ad,d8⟩:∃ad:Nat,aa+ab=ad:=⟨_,rfl⟩;have d9:(aa:Int)+(ab:Int)=(ad:Int):=oZ;have ea:IntKind.i64.wrap (ad:Int)=(ad:Int):=by rw[cX];omega
  have d7:decide (0<ad)=ba:=by rw[<-bj.out];congr 1;apply propext;constructor<;>intro dy<;>omega
  refine jB (aD O) (.take 0 (.take 1 (.take 2 (.take 3 (.take 4 (.take 5 (.take 6 (.take 7 (.take 8 (.take 9 (.take 10 (.take 11 .done)))))))))))) kZ kZ (cC O) ?_;(iterate 12 refine tT ?_);have aq:=qZ (cC O);refine fA ?_;cases ba
  .have M:=qY (err=0) (by rw[b5.out];rfl);have be:=qZ (al.out.dN aq.out);have r:=qZ (b9.out.below aq.out b9.out.lt);have ao:=qZ (aA ct.out aq.out);obtain⟨Q,cv⟩:=nQ O.drew;rw[cv.out]at be r ao⊢;go_upto_region 6 with fail;have cy:∀W,CbS (w:Nat) #[ac j v m,ac g u l,aG,aJ] W->W.cell? ⟨w,0,cD⟩=cI (ac j v m):=λW o=>o.box.cell 0;have d1:∀W,CbS (w:Nat) #[ac j v m,ac g u l,aG,aJ] W->W.cell? ⟨w,1,cD⟩=cI (ac g u l):=λW o=>o.box.cell 1;refine iA (CbS (w:Nat) #[ac j v m,ac g u l,aG,aJ]) 12 (.take 0 (.take 1 (.take 2 (.take 3 (.take 5 (.take 6 (.one 4 (.one 7 (.take 8 (.take 9 (.take 10 (.one 11 .done)))))))))))) kZ kZ ⟨r.out.drew⟩ ?_;(iterate 6 refine tT ?_);refine dQ ?_;refine tC ?_;refine(co.out _ (aA ao.out (cC Q))).mono ?_;rintro e eh⟨dq,rfl,Z,db⟩;have af:=qZ (aA (cC Q) db);refine⟨dq,rfl,⟨r.out.below af.out r.out.lt⟩,?_⟩;refine dQ ?_;refine tC ?_;refine(cn.out _ (aA ao.out af.out)).mono ?_;rintro e T⟨dr,rfl,a5,cd⟩;have ag:=qZ (aA af.out cd);refine⟨dr,rfl,⟨r.out.below ag.out r.out.lt⟩,?_⟩;obtain⟨H,n1,c1,rfl⟩:=gW Z;obtain⟨K,n2,c2,rfl⟩:=gW a5;have f:=qZ (be.out.dN ag.out);have dm:a<(Q:Nat):=be.out.box.lt;have bk:=qZ (aC (Z.below cd) (show∀b,(eJ H n1 c1).ownBlock=cI b->b≠a fromλb d e=>by have:=(Z.lt b d).1;have ay:Q.drew.heap.size=(Q:Nat):=rfl;omega));have bm:=qZ (aC a5 (show∀b,(eJ K n2 c2).ownBlock=cI b->b≠a fromλb d e=>by have:=(a5.lt b d).1;have:=af.out.size;omega));have b7:=qZ (aC (show∀b,(eJ H n1 c1).ownBlock=cI b->z<=b fromλb d=>by have br:=(Z.lt b d).1;have ay:Q.drew.heap.size=(Q:Nat):=rfl;have ca:=f.out.zlt;have cb:=f.out.low;omega) (show∀b,(eJ K n2 c2).ownBlock=cI b->z<=b fromλb d=>by have br:=(a5.lt b d).1;have ay:=af.out.size;have ca:=f.out.zlt;have cb:=f.out.low;omega));have eb:T.cell? ⟨a,0,cD⟩=cI v1:=f.out.box.cell 0;have ec:T.cell? ⟨a,1,cD⟩=cI v2:=f.out.box.cell 1;have da:∀n,T.frozen? ⟨a,n,cD⟩=cQ:=λn=>f.out.box.frozen n;have cj:(w:Nat)≠a:=by have:=bi.out.box.lt;omega
   have cw:=qY (CbS (w:Nat) #[ac j v m,ac g u l,aG,aJ] (T.setCell ⟨a,0,cD⟩ (ac H n1 c1))) (⟨eI (r.out.below ag.out r.out.lt) cj _⟩);have bl:=qZ cj;(iterate 3 refine tT ?_);refine dQ ?_;apply sK;rfl;rfl;(focus(go_simp;first|done|rfl));exact cw.out;(focus(go_simp;first|done|rfl));refine fA ?_;show cY cL _ _ (cS 12 _) _ _;simp only[aZ,bB];obtain⟨I,bn⟩:=nQ ((T.setCell ⟨a,0,cD⟩ (ac H n1 c1)).setCell ⟨a,1,cD⟩ (ac K n2 c2));have cl:aL (λi=>i=a) T I:=by rw[<-bn.out];exact(mG a 0 _ _).trans (mG a 1 _ _)
   have dt:Blk I a 31 #[ac H n1 c1,ac K n2 c2,s.c.aG,s.c.aJ,s.aQ,s.next,ac Ap aa aw,ac ak ab ax,bb]:=by rw[<-bn.out];have:=cR (cR f.out.box 0 (ac H n1 c1)) 1 (ac K n2 c2);simpa using this
   have au:=qZ dt;have cu:=qZ cl;have bf:=qZ ((r.out.below ag.out r.out.lt).bA cl bl.out);go_upto_region 7 with fail;rw[bn.out];have d2:∀W,CbS (w:Nat) #[ac j v m,ac g u l,aG,aJ] W->W.cell? ⟨w,2,cD⟩=cI (cF cG aG):=λW o=>o.box.cell 2;have d3:∀W,CbS (w:Nat) #[ac j v m,ac g u l,aG,aJ] W->W.cell? ⟨w,3,cD⟩=cI (cF cG aJ):=λW o=>o.box.cell 3;refine iA (CbS (w:Nat) #[ac j v m,ac g u l,aG,aJ]) 10 (.take 0 (.take 1 (.take 2 (.take 3 (.take 4 (.take 5 (.take 6 (.take 7 (.take 8 (.one 9 .done)))))))))) kZ kZ ⟨bf.out.drew⟩ ?_;(iterate 9 refine tT ?_);refine dQ ?_;have ed:I.cell? ⟨a,2,cD⟩=cI (cF cG s.c.aG):=au.out.cell 2;have ee:I.cell? ⟨a,3,cD⟩=cI (cF cG s.c.aJ):=au.out.cell 3;have da:∀n,I.frozen? ⟨a,n,cD⟩=cQ:=λn=>au.out.frozen n;have cx:=qY (CbS (w:Nat) #[ac j v m,ac g u l,aG,aJ] (I.setCell ⟨a,2,cD⟩ (cF cG aG)).drew) (⟨gl (eI bf.out bl.out _)⟩);apply sK;rfl;rfl;(focus(go_simp;first|done|rfl));exact cx.out;(focus(go_simp;first|done|rfl));refine fA ?_;show cY cL _ _ (cS 10 _) _ _;simp only[aZ,bB];obtain⟨F,bo⟩:=nQ (((I.setCell ⟨a,2,cD⟩ (cF cG aG)).setCell ⟨a,3,cD⟩ (cF cG aJ)).drew);have cm:aL (λi=>i=a) I F:=by rw[<-bo.out];exact((mG a 2 _ _).trans (mG a 3 _ _)).drew
   have du:Blk F a 31 #[ac H n1 c1,ac K n2 c2,aG,aJ,s.aQ,s.next,ac Ap aa aw,ac ak ab ax,bb]:=by rw[<-bo.out];have:=cR (cR au.out 2 (cF cG aG)) 3 (cF cG aJ);exact gl (by simpa using this)
   have av:=qZ du;have b6:=qZ (cu.out.trans cm);have am:=qZ (bf.out.bA cm bl.out);go_upto_region 8 with fail;rw[bo.out];have cy:F.cell? ⟨w,0,cD⟩=cI (ac j v m):=am.out.cell 0;have d1:F.cell? ⟨w,1,cD⟩=cI (ac g u l):=am.out.cell 1;have d2:F.cell? ⟨w,2,cD⟩=cI (cF cG aG):=am.out.cell 2;have d3:F.cell? ⟨w,3,cD⟩=cI (cF cG aJ):=am.out.cell 3;have cq:=qZ (cp.out F (b4.out F ((dT (aA ao.out ag.out)).trans b6.out)));go_wp2_with fail;refine cq.out.mono ?_;rintro e J⟨eg,rfl,p,cc⟩;obtain⟨L,N,c6,rfl⟩:=gW p;have b0:=av.out.below cc av.out.lt;have ef:J.cell? ⟨a,8,cD⟩=cI bb:=b0.cell 8;have dx:J.frozen? ⟨a,8,cD⟩=cQ:=b0.frozen 8;have ae:=qY (sQ z X a bq 0 (J.setCell ⟨a,8,cD⟩ (ac L N c6))) (by
    have a9:aL (λi=>i=a) T (J.setCell ⟨a,8,cD⟩ (ac L N c6)):=(b6.out.trans (dT cc)).trans (mG a 8 _ _);have dp:aL (λi=>i=a) J (J.setCell ⟨a,8,cD⟩ (ac L N c6)):=mG a 8 _ _;have ck:cA X X (J.setCell ⟨a,8,cD⟩ (ac L N c6)):=f.out.on.trans (a9.below f.out.on.size λi hi=>by rw[hi];exact f.out.low);refine⟨ck,λ_=>⟨ac H n1 c1,ac K n2 c2,ac Ap aa aw,ac ak ab ax,ac L N c6,rl,?_,?_,?_⟩⟩
    .rw[<-ar.out];have:=cR b0 8 (ac L N c6);simp only[an.out.2.2.1,an.out.2.2.2.1];simpa using this
    .rw[<-ar.out];refine⟨⟨_,_,rfl,RQ (bk.out.1.bA λb d=>a9.block b (bk.out.1.lt b d).2 (bk.out.2 b d)),RS (bm.out.1.bA λb d=>a9.block b (bm.out.1.lt b d).2 (bm.out.2 b d))⟩,pV f.out.ps ck,(nJ f.out.rs a9 (λb d e=>f.out.nr (e▸d)) λy dn Z b d e=>(f.out.fh y dn Z b d).2 e).runs (by have:=ap.out.2;have:=an.out.2.2.2.2.2;omega),f.out.map,OQ ((show bL J F 63 1 oI (ac L N c6) (cP c.aN.length 0)from by rw[an.out.1];exact p).bA λb d=>dp.block b (p.lt b d).2 λe=>by have br:=(p.lt b d).1;have ay:=av.out.lt;omega) λk de=>by rw[List.eq_of_mem_replicate de];exact bI _⟩
    .rw[<-ar.out];exact⟨λ_=>b7.out.1,λ_=>b7.out.2,f.out.far.ps,f.out.far.rs,f.out.far.hv,λ_ b d=>by have br:=(p.lt b d).1;have ay:=av.out.lt;have ca:=f.out.zlt;have cb:=f.out.low;omega⟩)
   have e1:=M.out;subst e1;go_wp2_with fail;go_ret;exact⟨rfl,ae.out⟩
  .have M:=qY (err=7) (by rw[b5.out];rfl);have ae:=qY (sQ z X a bq err O.drew) (⟨aA al.out.on aq.out,λe=>by rw[M.out]at e;cases e⟩);go_wp2_with fail;go_ret;have e1:=M.out;subst e1;exact⟨rfl,ae.out⟩
 .have dd:Y=2:=cs.out.resolve_left cg;subst dd;have M:=qY (err=2) (by rw[bh.out,aI dZ]);have ae:=qY (sQ z X a bq err O) (⟨al.out.on,λe=>by rw[M.out]at e;cases e⟩);go_wp2_with fail;go_ret;have e1:=M.out;subst e1;exact⟨rfl,ae.out⟩
theorem afg(c:eW)(rs:List Top.R):∀x∈Top.qH c rs,x<=Fix.top:=λx a=>by
 unfold Top.qH at a;obtain⟨i,hi,rfl⟩:=List.mem_iff_getElem.1 a;rw[List.getElem_mapIdx];unfold KU;split
 .exact apV _ _
 .exact bI _
theorem ahr(h b:List Nat)(n aG:Int):∀x∈Top.zT h b n aG,x<=Fix.top:=λx a=>by
 unfold Top.zT at a;obtain⟨i,hi,rfl⟩:=List.mem_iff_getElem.1 a;rw[List.getElem_mapIdx];unfold yY;split
 .exact Fix.add_lt _ _
 .exact Fix.mul_lt _ _
def ended(rl:List Run)(t:Int):List gv:=((rl.map eD).filter λr=>decide (kF r<=t)).map λr=>⟨3,r.p.id,0⟩
theorem agn(rl:List Run)(t:Int)(h:k<rl.length):ended (rl.take (k+1)) t=if decide (rl[k].start+rl[k].run<=t)=cE then ended (rl.take k) t++[⟨3,rl[k].id,0⟩]else ended (rl.take k) t:=by
 unfold ended;rw[bE h,dO,fU,dO];have e:kF (eD rl[k])=rl[k].start+rl[k].run:=rfl;by_cases a:decide (rl[k].start+rl[k].run<=t)=cE
 .rw[aI a];simp only[dG,fQ,List.filter_cons,e,a,if_true,List.filter_nil];rfl
 .rw[aF a];simp only[dG,fQ,List.filter_cons,e,a,List.filter_nil];simp
theorem anP{B:Nat}{l:List gv}(h:bL W B 49 3 mY v l)(e:B<=(W:Nat))(x:gv)(s:l.length<=1000000):∃v' a,(Builtin.append_ #[45,45] 45 #[v,ac W 1 1]).run cL (W.alloc (cJ #[x.kind,x.id,x.n] 49))=.ok v' a/\bL a B 49 3 mY v' (l++[x])/\cA B W a/\aL (λi=>v.ownBlock=cI i) W a:=by
 obtain⟨i0,f,n,o,p⟩:=info_parts anc;have b:cA W W (W.alloc (cJ #[x.kind,x.id,x.n] 49)):=bZ;have j:=qA (k:=3) (dec:=mY) (x:=x) (cV W 49 #[x.kind,x.id,x.n]) rfl;obtain⟨v',a,e1,e2,e3,e4,r⟩:=lF (P:=cL) 45 45 i0 _ 24 underlying45 f n o p rfl oZ (λ_=>rfl) (ys:=[x]) (m:=1) (c:=1)
  (λu d=>by obtain⟨y,w,d⟩:=jC.1 d;exact eel.one y u d) (h.below b) rfl j (by simp;omega) (by unfold eR;omega) oZ
 exact⟨v',a,e1,e2,Below.grown (Below.mono b e) e3 (by simp;omega) λk g=>(h.lt k g).1,(dT b).trans' (aL.jX (F:=λi=>v.ownBlock=cI i) e3 λi hi=>hi) λi _ hi=>hi⟩
def MJ(z:Nat)(wm w:cM)(sb:Nat)(s:eE)(n:Int)(err:Int)(e:gm)(w':cM):Prop:=∃ve,e=cH (dE #[ve,err])/\bL w' w 49 3 mY ve (if err=0 then(fL s n).2 else[])/\sQ z wm sb (fL s n).1 err w'
theorem afP{Q:cM}{m:Nat}{cw:cU}(h:zR z Q w m v1 v2 vp vr cw s rl)(ok:QJ s)(n:Int)(eb: -9223372036854775808<=n/\n<=9223372036854775807)(d6: -9223372036854775808<=s.c.aG/\s.c.aG<=9223372036854775807):cN cL 54 #[eL m,n] w λe w'=>MJ z Q w m s n (yI s n) e w':=by
 have cd:rl.length<=100:=by have:=ok.len;rw[<-h.map,bP]at this;omega
 have cg:=IB h.map (by have:=ok.len;omega) ok.rs (λp ec=>ok.kV p (gL _ ec));have bw:=qZ (tF n 1 1048576);obtain⟨bf,aw⟩:=nZ (fD n 1 1048576);rw[aw]at bw;obtain⟨bg,bj⟩:=nZ (decide (1099511627776-s.aQ<n));obtain⟨err,bi⟩:=nZ (yI s n);have a9:=qY (err=if bf then(if bg then 8 else 0)else 1) (by
  rw[<-bi];unfold yI;rw[aw,<-bj];by_cases cj:1099511627776-s.aQ<n
  .simp[cj]
  .simp[cj])
 have cz:=qY (bf=cE->1<=n/\n<=1048576) (λe=>(wN _ _ _).1 (aw.trans e));have bz:=qY (∀W,cA w w W->cN cL 113 #[eC #[v1,v2,s.c.aG,s.c.aJ],vr] W λe w'=>JF (qH s.c s.rs) W e w') (λW r=>by have:=afh (h.cfg.below (h.dN r).on) ((h.dN r).rs.runs oZ) ok.mild.aN (by rw[OL];exact ok.mild.aN) (ahj _ _) (aeT _) W (aK _ _);rw[h.map]at this;exact this);have cx:=qY (∀W vs,cA w w W->bL W w 63 1 oI vs (qH s.c s.rs)->cN cL 112 #[cw,vs,n,s.c.aG] W λe w'=>JF (zT s.h (qH s.c s.rs) n s.c.aG) W e w') (λW vs r eh=>by obtain⟨A,c,e,bl,fi,eg⟩:=h.h.below (h.dN r).on;exact akI (eh.sl λ_=>rfl) (by unfold qH;rw[List.length_mapIdx,OL];exact ok.mild.aN) (afg _ _) ⟨A,c,e,bl⟩ ok.hlen eg eb d6 (agk _ _) (PG _) W (aK _ _));have bv:=qY (∀W t,jS W (Q:Nat) vr rl->cN cL 115 #[vr,cF cG t] W λe w'=>MN (gy s.rs t) W e w') (λW t bl=>by have:=acJ (bl.runs oZ) cg t W (aK _ _);rw[h.map]at this;exact this);have db:=qZ cg;have dd:=qY (0<=s.aQ/\s.aQ<=1099511627776) ok.aQ;have ar:=qZ cd;obtain⟨br,n1,c1,rfl⟩:=bW.s1 h.cfg;obtain⟨bs,n2,c2,rfl⟩:=bW.s2 h.cfg;obtain⟨bt,cl,cf,rfl⟩:=fS h.h;obtain⟨ab,ai,dr⟩:∃A c,vr=ac A rl.length c:=by obtain⟨A,c,e,_⟩:=h.rs.runs oZ;exact⟨A,c,e⟩
 subst dr;obtain⟨J,Z⟩:=nQ rl.length;rw[Z.out]at h cd bz bv ar;have F:=qZ h;rw[bi];have fo:decide (1099511627776-s.aQ<n)=bg:=bj;have fr:IntKind.i64.wrap (1099511627776-s.aQ)=1099511627776-s.aQ:=by rw[cX];have:=ok.aQ;omega
 have d4:CI w m 4 s.aQ:=h.box.cell 4;have dj:=qY (m<(w:Nat)) h.box.lt;clear aw bj bi;go_enter func54,ntmps54;go_wp2_with fail;refine(bw _).mono ?_;rintro e H⟨rfl,b9⟩;have ap:=qZ b9;have I:=qZ (F.dN b9);have e4:CI H m 4 s.aQ:=I.box.cell 4;cases bf
 .have K:=qY (err=1) (by rw[a9.out];rfl);have ad:=qY (MJ z Q w m s n err (cH (dE #[cE,(1:Int)])) H) (⟨_,by rw[K.out],by rw[aF (by rw[K.out];decide)];exact fx _ _ _ _ _,I.on,λe=>by rw[K.out]at e;cases e⟩);go_wp2_with fail;go_ret2;exact ad
 .cases bg
  .have K:=qY (err=0) (by rw[a9.out];rfl);have ea:=cz.out rfl;have dc:=qZ ea;go_upto_region 5 with fail;have er:∀W,aD H W->CV W m 0 (ac br n1 c1):=λW r=>((I.dN r).box).cell 0;have d1:∀W,aD H W->CV W m 1 (ac bs n2 c2):=λW r=>((I.dN r).box).cell 1;have d2:∀W,aD H W->CI W m 2 s.c.aG:=λW r=>((I.dN r).box).cell 2;have d3:∀W,aD H W->CI W m 3 s.c.aJ:=λW r=>((I.dN r).box).cell 3;have dp:∀W,aD H W->CV W m 7 (ac ab J ai):=λW r=>((I.dN r).box).cell 7;have es:∀W,aD H W->CV W m 8 (ac bt cl cf):=λW r=>((I.dN r).box).cell 8;refine iA (aD H) 21 (.take 0 (.take 1 (.take 2 (.take 3 (.take 4 (.take 5 (.take 6 (.take 7 (.take 8 (.take 9 (.take 10 (.take 11 (.take 12 (.take 14 (.take 15 (.take 16 (.take 17 (.take 18 (.take 19 (.one 13 (.one 20 .done))))))))))))))))))))) kZ kZ (cC H) ?_;(iterate 19 refine tT ?_);refine dQ ?_;refine tC ?_;refine(bz _ (aA ap (cC H))).mono ?_;rintro e em⟨vs,rfl,ef,du⟩;have au:=qZ (aA (cC H) du);refine⟨vs,rfl,au,?_⟩;refine dQ ?_;refine tC ?_;refine(cx _ vs (aA ap au) (ef.low (show(w:Nat)<=H.drew.heap.size from ap.size))).mono ?_;rintro e an⟨v4,rfl,cc,dv⟩;have bb:=qZ (aA au dv);refine⟨v4,rfl,bb,?_⟩;obtain⟨a0,bn,c4,rfl⟩:=gW cc;have L:=qZ (I.dN bb);have Y:=qZ (aC cc (show(H:Nat)<=(em:Nat)from au.size));have fv:CV an m 8 (ac bt cl cf):=L.box.cell 8;have eu:∀n,an.frozen? ⟨m,n,cD⟩=cQ:=λn=>L.box.frozen n;have ft:CI an m 4 s.aQ:=L.box.cell 4;have fp:IntKind.i64.wrap (s.aQ+n)=s.aQ+n:=by rw[cX];have:=dd.out;have:=dc.out;omega
   refine fA ?_;show cY cL _ _ (cS 21 _) _ _;simp only[aZ,bB];obtain⟨M,bd⟩:=nQ ((an.setCell (m,8) (ac a0 bn c4)).setCell (m,4) (cF cG (s.aQ+n)));have am:aL (λi=>i=m) an M:=by rw[<-bd.out];exact(mG m 8 _ _).trans (mG m 4 _ _)
   have en:Blk M m 31 #[ac br n1 c1,ac bs n2 c2,s.c.aG,s.c.aJ,(s.aQ+n:Int),s.next,vp,ac ab J ai,ac a0 bn c4]:=by rw[<-bd.out];have:=cR (cR L.box 8 (ac a0 bn c4)) 4 (cF cG (s.aQ+n));simpa using this
   have ag:=qZ en;have df:=qZ (L.on.trans (am.below L.on.size λi hi=>by rw[hi];exact L.low));have de:=qY ((w:Nat)<=(M:Nat)) (by have O:=ap.size;have bh:=bb.size;have aj:=am.size;omega);have b2:=qZ (nJ L.rs am (λb o e=>L.nr (e▸o)) λy al ak b o e=>(L.fh y al ak b o).2 e);have c0:=qZ (Y.1.bA λb o=>am.block b (Y.1.lt b o).2 λe=>by have O:=(Y.1.lt b o).1;have bh:=Y.2;have aj:=I.box.lt;omega);go_upto_region 8 with fail;rw[bd.out];have dp:CV M m 7 (ac ab J ai):=ag.cell 7;go_wp2_with fail;obtain⟨_,_,b5,ee,fj,d7⟩:=b2.runs (by have:=ar.out;have:=Z.out;omega);rw[Z.out]at b5;cases b5;have di:=qZ ee;have da:=qZ d7;have fl:J<=100:=ar;go_loopg[6,57] J (λb7 ej ei wr=>∃k:Nat,ei=cF cG k/\k<=J/\J<=b7+k/\Hid (bL wr M 49 3 mY ej (ended (rl.take k) (s.aQ+n))/\(ended (rl.take k) (s.aQ+n)).length<=k)/\Hid (cA M M wr));exact⟨0,mZ,oZ,oZ,qZ ⟨by simp[ended];exact fx _ _ _ _ _,by simp[ended]⟩,qZ (aK _ _)⟩
   obtain⟨k,rfl,fg,ff,af,X⟩:=hrel;by_cases d8:k<J
   .have d9:(k:Int)<(J:Int):=oZ;have ax:k<rl.length:=by rw[Z.out];exact d8
    obtain⟨eq,fs,rfl,fm,d0⟩:=qQ di ax;obtain⟨cn,p1,p2,p3,p4,cr,p6,cs,ct,cu,co,cp,cq,bo⟩:=d0 wr X;have ae:=qZ (agn rl (s.aQ+n) ax);have a5:=qZ (MH rl[k] (db.num _ (bD ax)));have ci:=(da _ (bD ax));obtain⟨dn,T⟩:=nZ (decide (rl[k].start+rl[k].run<=s.aQ+n));rw[T]at ae;obtain⟨x,dl⟩:=nQ (rl[k]);rw[dl.out]at cn p1 p2 p3 p4 cr p6 cs ct cu co cp cq bo ae a5 ci T;obtain⟨bu,b4,b6,_,_⟩:=ci;obtain⟨a,b,c,⟨d,e,f⟩,g,h,i,j,ck,st,l,aR,hv⟩:=x;simp only at b6 cn p1 p2 p3 p4 cr p6 cs ct cu co cp cq bo ae T;subst b6;obtain⟨cm,ch⟩:=nZ aR.length;simp only[pU,qW,ch]at a5 bo;clear ch;obtain⟨u,be⟩:=nQ (wr.alloc (cJ #[a,b,c,d,e,f,g,h,i,j,ck,st,l,ac bu cm b4] 86));have ca:=aB be;have eo:=aX be;have b0:=qZ (aA X ca);have v:=qZ eo;have dk:=qZ (af.1.below ca);go_upto_region 11 with fail;rw[be.out];have ds:∀W,aD u W->CI W wr 0 a:=v.fa 0;have b7:∀W,aD u W->CI W wr 1 b:=v.fa 1;have ez:∀W,aD u W->CI W wr 2 c:=v.fa 2;have e0:∀W,aD u W->CI W wr 3 d:=v.fa 3;have e5:∀W,aD u W->CI W wr 4 e:=v.fa 4;have e8:∀W,aD u W->CI W wr 5 f:=v.fa 5;have e9:∀W,aD u W->CI W wr 6 g:=v.fa 6;have fb:∀W,aD u W->CI W wr 7 h:=v.fa 7;have fc:∀W,aD u W->CI W wr 8 i:=v.fa 8;have fd:∀W,aD u W->CI W wr 9 j:=v.fa 9;have ev:∀W,aD u W->CI W wr 10 ck:=v.fa 10;have ew:∀W,aD u W->CI W wr 11 st:=v.fa 11;have ex:∀W,aD u W->CI W wr 12 l:=v.fa 12;have ey:∀W,aD u W->CV W wr 13 (ac bu cm b4):=v.fa 13;have d4:∀W,aD u W->CI W m 4 (s.aQ+n):=λW r=>(ag.below (aA b0 r) ag.out.lt).cell 4;refine iA (aD u) 6 (.take 0 (.take 2 (.take 3 (.take 4 (.take 5 (.one 1 .done)))))) kZ kZ (cC u) ?_;(iterate 5 refine tT ?_);refine dQ ?_;refine tC ?_;refine(a5 _).mono ?_;rintro dq bp⟨rfl,dw⟩;have av:=qZ (aA (cC u) dw);refine⟨_,rfl,av,?_⟩;have a8:=qZ (aA b0 av);have b3:=qZ (dk.below av);have ds:CI bp wr 0 a:=(v.below av v.out.lt).cell 0;refine fA ?_;show cY cL _ _ (cS 6 _) _ _;simp only[aZ,bB];cases dn
    .have bc:=qY (bL bp M 49 3 mY u6 (ended (rl.take (k+1)) (s.aQ+n))/\(ended (rl.take (k+1)) (s.aQ+n)).length<=k+1) (by rw[ae.out,aF dZ];exact⟨b3,by have:=af.2;omega⟩);have dz:¬(st+g<=s.aQ+n):=of_decide_eq_false T;clear T;go_wp2_with fail;go_roundg(J-(k+1));exact⟨k+1,mZ,oZ,oZ,bc,a8⟩;omega
    .have dz:st+g<=s.aQ+n:=of_decide_eq_true T;obtain⟨ek,dm,dt,ed,dx,fh⟩:=anP b3 a8.size ⟨3,a,0⟩ (by have:=af.out.2;have:=ar.out;omega);have bc:=qY (bL dm M 49 3 mY ek (ended (rl.take (k+1)) (s.aQ+n))/\(ended (rl.take (k+1)) (s.aQ+n)).length<=k+1) (by rw[ae.out,aI rfl];exact⟨ed,by have:=af.2;simp;omega⟩);have cy:=qZ (a8.out.trans dx);have b1:=qZ dt;simp only at b1;clear T;go_wp2_with(at_builtin;refine cK rfl (.tmp 68) (.tmp 73) _ _ rfl u6 (ac bp 1 1) rfl rfl b1 ?_);go_roundg(J-(k+1));exact⟨k+1,mZ,oZ,oZ,bc,cy⟩;omega
   .have d9:¬(k:Int)<(J:Int):=oZ;obtain rfl:k=J:=by omega
    have ba:=qY (bL wr w 49 3 mY u6 (fL s n).2) (by
     have O:=af.1;rw[aU (by rw[Z.out];exact bG _)]at O;have e1:(fL s n).2=ended rl (s.aQ+n):=by unfold fL ended;rw[F.out.map]
     rw[e1];exact O.low de)
    have ah:=qZ (ag.below X ag.out.lt);have dh:=qZ (b2.below X);have aq:=qZ (c0.below X);have dg:=qZ (aA df X);go_upto_region 14 with fail;have d4:∀W,aD wr W->CI W m 4 (s.aQ+n)/\CV W m 7 (ac ab k ai):=λW r=>have x:=(ah.below r ah.out.lt);⟨x.cell 4,x.cell 7⟩;refine iA (aD wr) 10 (.take 0 (.take 1 (.take 2 (.take 3 (.take 4 (.take 5 (.take 6 (.take 7 (.take 8 (.one 9 .done)))))))))) kZ kZ (cC wr) ?_;(iterate 9 refine tT ?_);refine dQ ?_;refine tC ?_;refine(bv wr.drew (s.aQ+n) (dh.below (cC wr))).mono ?_;rintro dq aa⟨el,cv,rfl,ay,ce,dy,cb⟩;have N:=qZ (aA (cC wr) dy);refine⟨el,rfl,N,?_⟩;obtain⟨ao,az,c9,rfl⟩:=gW ay.1;have bq:=ah.below N ah.out.lt;have fu:CV aa m 7 (ac ab k ai):=bq.cell 7;have et:aa.frozen? (m,7)=cQ:=bq.frozen 7;have bm:aL (λi=>i=m) aa (aa.setCell (m,7) (ac ao az c9)):=mG m 7 _ _;have bk:cA Q Q (aa.setCell (m,7) (ac ao az c9)):=(aA dg N).setCell F.low _;have fn:m<(wr:Nat):=ah.out.lt;have ad:=qY (MJ z Q w m s n err (cH (dE #[u6,()])) (aa.setCell (m,7) (ac ao az c9))) (by
     have fq:wr.drew.heap.size=(wr:Nat):=rfl;refine⟨u6,by rw[K.out],?_,bk,λ_=>⟨_,_,_,_,_,cv,?_,⟨F.cfg.below bk,pV F.ps bk,(nJ ay bm (λb o e=>by have:=(ay.1.lt b o).1;omega) λy al ak b o e=>by have:=cb y al ak b o;omega).runs ?_,ce,OQ ((aq.below N).bA λb o=>bm.block b ((aq.below N).lt b o).2 λe=>?_) (ahr _ _ _ _)⟩,⟨F.far.aN,F.far.aR,F.far.ps,λ_ b o=>by have O:=(ay.1.lt b o).1;have aj:=F.zlt;have b8:=F.low;omega,λy al ak b o=>by have O:=cb y al ak b o;have aj:=F.zlt;have b8:=F.low;omega,λ_ b o=>by have O:=((aq.below N).lt b o).1;have bh:=Y.2;have aj:=I.box.lt;have fe:=F.zlt;have b8:=F.low;omega⟩⟩⟩
     .rw[aI K.out];exact(ba.below N).bA (λb o=>bm.block b ((ba.below N).lt b o).2 λe=>by have:=(ba.out.lt b o).1;have:=dj.out;omega)
     .have:=cR bq 7 (ac ao az c9);simp at this;exact this
     .have e1:cv.length=(gy s.rs (s.aQ+n)).length:=by rw[<-ce,bP]
      have e2:(gy s.rs (s.aQ+n)).length<=s.rs.length:=(acI s.rs (s.aQ+n)).length_le;have e3:s.rs.length=rl.length:=by rw[<-F.out.map,bP]
      have:=Z.out;omega
     .have O:=(aq.out.lt b o).1;have bh:=Y.2;have aj:=I.box.lt;omega)
    refine fA ?_;show cY cL _ _ (cS 10 _) _ _;simp only[aZ,bB];go_wp2_with fail;go_ret2;exact ad
  .have K:=qY (err=8) (by rw[a9.out];rfl);have ad:=qY (MJ z Q w m s n err (cH (dE #[cE,(8:Int)])) H) (⟨_,by rw[K.out],by rw[aF (by rw[K.out];decide)];exact fx _ _ _ _ _,I.on,λe=>by rw[K.out]at e;cases e⟩);go_wp2_with fail;go_ret2;exact ad
theorem iZ.low{b:Nat}{l:List UInt8}(h:iZ w b v l W){B:Nat}(f:∀i,oP b v i->B<=i)(g:B<=(w:Nat)):∃v',wB W b v' l/\aL (oP b v) w W/\∀i,oP b v' i->B<=i:=by
 obtain⟨v',a,c,d⟩:=h;refine⟨v',a,c,λi hi=>?_⟩;rcases d i hi with e|e
 .exact f i e
 .omega
def acV(x:gu)(w:cM)(e:gm)(w':cM):Prop:=e=cH (dE #[.string (str (cW (qE x))),()])/\cA w w w'
theorem agp{x:gu}(p:bW w (eC #[v1,v2,x.c.aG,x.c.aJ]) x.c)(J:gx x):cN cL 229 #[qF x.kind v1 v2 x.c.aG x.c.aJ x.g x.n] w λe w'=>acV x w e w':=by
 have bb:=J.err;have bc:=J.kind;have Y:=qZ (sizes J.err);have av:=qZ (λk=>J.config k);have ax:=qZ (λk=>J.dV k);have ay:=qY (Top.Low [x.kind]) (λn bt=>by
  have e:n=x.kind:=by simpa using bt
  omega)
 have a0:=qZ (λk=>Top.enc1 (x:=x) k);have a5:=qZ (λk=>Top.enc2 (x:=x) k);have a8:=qZ (λk=>amx (x:=x) k);have T:=qZ p;unfold acV;obtain⟨E,am⟩:=nZ (cW (qE x));have K:=qZ am;rw[am];obtain⟨kind,c,g,n⟩:=x;obtain⟨aG,N⟩:=nZ c.aG;obtain⟨aJ,M⟩:=nZ c.aJ;simp only at p bb bc Y av ax ay a0 a5 a8 T K⊢;rw[N,M]at p T⊢;obtain⟨bh,s⟩:=nZ (w.alloc (cJ (#[cF cG kind,v1,v2,cF cG aG,cF cG aJ]++gK g++#[cF cG n]) 61));have bd:=aB s;have au:Blk bh w 61 (#[cF cG kind,v1,v2,cF cG aG,cF cG aJ]++gK g++#[cF cG n]):=by rw[<-s];exact cV _ _ _
 have o:=qZ (FX (w:=bh) (x:=⟨kind,c,g,n⟩) (v1:=v1) (v2:=v2) (by simp only;rw[N,M];exact p.below bd));simp only[N,M]at o;rw[bb]at o;obtain⟨aa,ab,ad,ae,af,ag,ah,ai,aj,br⟩:∃aa ab ad ae af ag ah ai aj:Int,gK g=#[cF cG aa,cF cG ab,cF cG ad,cF cG ae,cF cG af,cF cG ag,cF cG ah,cF cG ai,cF cG aj]:=⟨_,_,_,_,_,_,_,_,_,rfl⟩;have ak:=λ(w W:cM) (b:Nat) (v:cU) (bz:List UInt8) (h:iZ w b v bz W)=>ahg h g;simp only[dV]at ak;simp only[qF]at o⊢;rw[br]at s au o ak⊢;obtain⟨bl,n1,bv,rfl⟩:=bW.s1 p;obtain⟨bm,n2,bw,rfl⟩:∃A n c,v2=ac A n c:=by obtain⟨_,_,e,_,⟨A,c,rfl,_⟩⟩:=p;simp only[eK,eB,dJ,and_true]at e;exact⟨_,_,_,e.2.1⟩
 simp only[eY,ga,gh]at s au o⊢;have L:=qZ au;have bp:=qZ s;have Q:=qZ bd;have bn:=qZ ak;clear am N M s;go_enter func229,ntmps229;go_upto_region 1 with fail;rw[bp.out];obtain⟨cb,cc,cj,ck,cl,cm,cn,co,cp,cq,cd,ce,cg,ch,ci⟩:=L.c15;go_wp2_with fail;refine o.out.mono ?_;rintro e w1⟨rfl,an⟩;have bj:=L.below an L.out.lt;obtain⟨aq,Z⟩:=nQ (w1.alloc (cJ #[eL cD,cE] 331));have be:=aB Z;have b2:=an.size;have b1:=L.out.lt;have a9:=qZ (bj.below be bj.lt);have az:=qY (iZ aq (w1:Nat) (ac cD 0 0) [] aq) (by rw[<-Z.out];exact iZ.refl (apa w1));have f:=qZ (Q.out.trans (((aA an be)).mono Q.size));obtain⟨bi,ap⟩:=nZ (w1:Nat);have bo:=qY (¬oP bi (ac cD 0 0) (w:Nat)) (λao=>by
  rcases ao with e|e
  .omega
  .cases e)
 have m:=qY (∀i,oP bi (ac cD 0 0) i->(w:Nat)<=i) (λi ao=>by
  rcases ao with e|e
  .have:=Q.size;omega
  .cases e)
 rw[ap]at az;have bq:=qZ ap;clear ap;go_upto_region 5 with fail;rw[Z.out,bq.out];have b0:CI aq w 0 kind:=a9.cell 0;go_wp2_with fail;refine(vG az [kind] ay sZ).mono ?_;rintro e a⟨rfl,r⟩;have bk:=r.bV a9 bo;have X:=qZ r;have d:=qZ bk;have b0:CI a w 0 kind:=bk.cell 0;rcases bc with rfl|rfl|rfl
 .obtain⟨p1,p2,p3,p4⟩:CV a w 1 (ac bl n1 bv)/\CV a w 2 (ac bm n2 bw)/\CI a w 3 aG/\CI a w 4 aJ:=⟨d.cell 1,d.cell 2,d.cell 3,d.cell 4⟩;obtain⟨cr,bu,bs,bf⟩:=X.low m (by have:=f.size;omega);have ba:cA w w a:=f.out.trans (bs.below f.size m);have al:=qZ (adb bu ba bf T (av (by first|rfl|trivial)) (by simp[cW]) Y.1 Y.2);have aw:=qZ bf;have O:=qZ ba;go_wp2_with fail;refine al.out.mono ?_;rintro e ar⟨rfl,r⟩;obtain⟨v4,l,I,H⟩:=r.low aw O.size;have z:cA w w ar:=O.out.trans (I.below O.size aw);have j:([]++cW [(1:Int)])++cW (qM c)=E:=by rw[<-K.out,a0.out (by first|rfl|trivial)];rfl
  rw[j]at l;have gs:=qZ (DT l (by rw[<-j];simp[cW]) H);have u:=qZ z;go_wp2_with fail;refine gs.out.mono ?_;rintro e bg⟨rfl,F⟩;have y:=qZ (u.out.trans F);go_wp2_with fail;go_ret2;exact⟨rfl,y⟩
 .obtain⟨b7,p6,b8,b9,ca,b3,b4,b5,b6⟩:CI a w 5 aa/\CI a w 6 ab/\CI a w 7 ad/\CI a w 8 ae/\CI a w 9 af/\CI a w 10 ag/\CI a w 11 ah/\CI a w 12 ai/\CI a w 13 aj:=⟨d.cell 5,d.cell 6,d.cell 7,d.cell 8,d.cell 9,d.cell 10,d.cell 11,d.cell 12,d.cell 13⟩;have al:=qZ (bn _ _ _ _ _ X (ax (by first|rfl|trivial)) (by simp[cW]));go_wp2_with fail;refine al.out.mono ?_;rintro e ar⟨rfl,r⟩;obtain⟨v4,l,I,H⟩:=r.low m f.size;have z:cA w w ar:=f.out.trans (I.below f.size m);have j:([]++cW [(2:Int)])++cW (pO g)=E:=by rw[<-K.out,a5.out (by first|rfl|trivial)];rfl
  rw[j]at l;have gs:=qZ (DT l (by rw[<-j];simp[cW]) H);have u:=qZ z;go_wp2_with fail;refine gs.out.mono ?_;rintro e bg⟨rfl,F⟩;have y:=qZ (u.out.trans F);go_wp2_with fail;go_ret2;exact⟨rfl,y⟩
 .obtain⟨v4,l,I,H⟩:=X.low m f.size;have z:cA w w a:=f.out.trans (I.below f.size m);have j:[]++cW [(6:Int)]=E:=by rw[<-K.out,a8.out (by first|rfl|trivial)];rfl
  rw[j]at l;have gs:=qZ (DT l (by rw[<-j];simp[cW]) H);have u:=qZ z;go_wp2_with fail;refine gs.out.mono ?_;rintro e bg⟨rfl,F⟩;have y:=qZ (u.out.trans F);go_wp2_with fail;go_ret2;exact⟨rfl,y⟩
theorem akP(a:UInt8)(l:List UInt8):(⟨#[a]⟩:ByteArray)++str l=str (a::l):=GH [a] l
theorem aft{x:gu}(c:bW w (eC #[v1,v2,x.c.aG,x.c.aJ]) x.c)(k:gx x):cN cL 189 #[qF x.kind v1 v2 x.c.aG x.c.aJ x.g x.n] w λe w'=>e=cH (.string (str (lQ x)))/\cA w w w':=by
 obtain⟨y,a⟩:=nZ (w.alloc (cJ (#[cF cG x.kind,v1,v2,cF cG x.c.aG,cF cG x.c.aJ]++gK x.g++#[cF cG x.n]) 61));have j:=aB a;have f:Blk y w 61 (#[cF cG x.kind,v1,v2,cF cG x.c.aG,cF cG x.c.aJ]++gK x.g++#[cF cG x.n]):=by rw[<-a];exact cV _ _ _
 have gE:=qZ (agp (c.below j) k);unfold acV at gE;have b:=qZ (akP 67 (cW (qE x)));unfold lQ;have d:=uK k;unfold lQ at d;rw[fX]at d;obtain⟨E,i⟩:=nZ (cW (qE x));rw[i]at gE b d⊢;have l:(str E).size<=1000:=by rw[nR];omega
 clear i;obtain⟨z,n1,Q,rfl⟩:=bW.s1 c;obtain⟨A,n2,T,rfl⟩:=bW.s2 c;obtain⟨kind,⟨W,hs,aG,aJ⟩,⟨F,H,I,⟨J,K,L⟩,M,N,O,ao,an⟩,n⟩:=x;simp only[qF,gK]at gE a f⊢;simp only[eY,ga,gh]at a f gE⊢;have p:=qZ f;have o:=qZ a;have g:=qZ j;clear a;go_enter func189,ntmps189;go_upto_region 1 with fail;rw[o.out];obtain⟨X,Y,af,ag,ah,ai,aj,ak,al,am,Z,aa,ab,ad,ae⟩:=p.c15;go_wp2_with fail;refine gE.out.mono ?_;rintro e w1⟨rfl,v⟩;have m:=qZ (g.out.trans (v.mono g.size));obtain⟨s,u⟩:=nQ (str E);rw[u.out]at b l⊢;have r:=qZ l;go_wp2_with fail;all_goals first
  |(exfalso;have:=r.out;omega)
  |(go_ret;exact⟨GR b,m⟩)
theorem ale(out:List Int)(j:Nat)(i:Int):out++cP (j+1) i=(out++cP j i)++[i]:=by rw[List.replicate_succ',bM]
theorem anK{bf bg:cU}{free:List Vec.V}{group:List Nat}(b2:bW w bf c)(b4:VSl w X free)(b5:ISl w bg (group.map λn:Nat=>(n:Int)))(b6:group.length<=1000000)(p:eQ)(cd:zS p)(hv:lU p.need=cE):∀w1,cA w w w1->cN cL 73 #[bf,X,bg,dV p] w1 λe w'=>ani (mF free p group) w1 e w':=by
 intro w1 ay;obtain⟨v1,v2,rfl,⟨A,ca,rfl,dh,dc⟩,⟨B,av,rfl,di,dd⟩⟩:=id b2;obtain⟨F,cf,rfl,ck,a9⟩:=b4.below ay;obtain⟨G,ct,rfl,cl,de⟩:=b5.below ay;obtain⟨L,ap⟩:=nQ (gb free p.need p.fG group []);have ao:=qZ (SN free p group ap);have ce:=cd.fG;rw[bP];obtain⟨K,ae⟩:=nQ group.length;obtain⟨M,T⟩:=nQ free.length;rw[ae.out]at b6⊢;rw[T.out]at a9⊢;unfold eR at a9;have bk:=qZ ck;have bl:=qZ cl;generalize c.aN.length=NN;generalize c.aR.length=NH;generalize c.aG=aG;generalize c.aJ=aJ;obtain⟨y,p1,a,need,p6,H,I,be,bd⟩:=p;simp only at hv;have ar:=qZ hv;obtain⟨n0,n1,n2⟩:=need;simp only[dV,gK]at*;obtain⟨d,ai⟩:=nQ ((w1.alloc (cJ #[ac A NN ca,ac B NH av,aG,aJ] 26)).alloc (cJ #[y,p1,a,n0,n1,n2,p6,H,I] 42));have cq:Blk d ((w1:Nat)+1) 42 #[y,p1,a,n0,n1,n2,p6,H,I]:=by rw[<-ai.out];have h:=cV (w1.alloc (cJ #[ac A NN ca,ac B NH av,aG,aJ] 26)) 42 #[y,p1,a,n0,n1,n2,p6,H,I];simp only[aT]at h;exact h
 have b1:cA w1 w1 d:=by rw[<-ai.out];exact kp
 have s:=qZ cq;have Q:=qZ b1;go_enter func73,ntmps73;go_wp2_with fail;go_loopg[10,11] K (λbu v10 v11 wr=>∃(k:Nat) (out:List Int),v11=cF cG k/\k<=K/\K<=bu+k/\Hid (bL wr d 3 1 iL v10 out/\gb free ⟨n0,n1,n2⟩ a (group.drop k) out=L)/\(out.length:Int)<=a/\Hid (cA d d wr));exact⟨0,[],mZ,oZ,oZ,qZ ⟨fx _ _ _ _ _,by rw[bB];exact ap⟩,by simpa using ce.1,qZ (by rw[<-ai.out];exact aK _ _)⟩
 obtain⟨k,out,rfl,db,cw,o,al,m⟩:=hrel;by_cases cb:k<K
 .have cc:(k:Int)<(K:Int):=oZ;have a8:k<group.length:=by rw[ae.out];exact cb
  obtain⟨bt,co,rfl,dg,b3⟩:=qR bl (k:=k) (by simpa using a8);have O:=qY (∀W,aD d W->W.cell? (bt,co+k)=cI (cF cG ((group[k]:Nat):Int))) (λW b=>by have:=b3 W (aA Q b);rw[List.getElem_map]at this;exact this);have ab:Hid (group.drop k=group[k]::group.drop (k+1)):=qZ (cZ a8);obtain⟨i,bq⟩:=nQ (group[k]);rw[bq.out]at ab O;have cu:=O.out wr m;by_cases ak:i<M
  .have a5:i<free.length:=by rw[T.out];exact ak
   obtain⟨Y,Z,rfl,df,az⟩:=EY bk a5;have a0:Hid (free.getD i Vec.zero=free[i]):=qZ (by rw[aV,aH a5,gd]);obtain⟨z,br⟩:=nQ (free[i]);rw[br.out]at az a0;obtain⟨z0,z1,z2⟩:=z;have aj:=ahV ⟨z0,z1,z2⟩ ⟨n0,n1,n2⟩ ar;have ch:=XR (f:=⟨z0,z1,z2⟩) ar;have ci:=XT ⟨z0,z1,z2⟩ ⟨n0,n1,n2⟩;obtain⟨r,aq⟩:=nQ (Top.room ⟨z0,z1,z2⟩ ⟨n0,n1,n2⟩);rw[aq.out]at aj ch ci;simp only[Vec.V.val]at aj;obtain⟨g,l⟩:=nQ out.length;rw[l.out]at al;have aa:Hid (∀W,aD wr W->VAt W Y (Z+i*3) ⟨z0,z1,z2⟩):=qZ (λW b=>az W (aA Q (aA m b)));have bi:Hid (∀W,aD wr W->Blk W ((w1:Nat)+1) 42 #[y,p1,a,n0,n1,n2,p6,H,I]):=qZ (λW b=>by have aw:=aA m b;exact s.below aw s.out.lt);have b7:¬(i:Int)<0:=oZ;have b8:¬(M:Int)<=(i:Int):=oZ;have cz:¬(i:Int)≥(M:Int):=oZ;have cy:(i:Int)<(M:Int):=oZ;go_wp2_with fail;refine kK ?_;have cs:∀W,aD wr W->CI W Y (Z+i*3) z0:=λW b=>(aa W b).1;have c1:∀W,aD wr W->CI W Y (Z+i*3+1) z1:=λW b=>(aa W b).2.1;have c2:∀W,aD wr W->CI W Y (Z+i*3+2) z2:=λW b=>(aa W b).2.2;have c3:∀W,aD wr W->CI W ((w1:Nat)+1) 3 n0/\CI W ((w1:Nat)+1) 4 n1/\CI W ((w1:Nat)+1) 5 n2:=λW b=>have x:=(bi W b);⟨x.cell 3,x.cell 4,x.cell 5⟩;have c6:=λW (b:aD wr W)=>O W (aA m b);(repeat refine kY ?_);refine kJ aj ?_;(repeat refine kY ?_);refine dP ?_;intro W b;obtain⟨q,bc⟩:∃q:Nat,min r (a-(g:Int))=(q:Int):=⟨(min r (a-(g:Int))).toNat,oZ⟩;have cg:(min r (a-(g:Int))).toNat=q:=oZ;have ag:=qZ bc;have bm:=qZ cg;have bp:=qZ (aA m b);have cn:=qY (bL W d 3 1 iL u10 (out++cP 0 (i:Int))) (by rw[List.replicate_zero,eZ];exact o.1.below b);obtain⟨dm,rfl⟩:∃z,z=wr:=⟨_,rfl⟩;go_wp2_with fail;go_loopg[10,12] q (λbv v10 cp bh=>∃j:Nat,cp=cF cG (r-j)/\j<=q/\q<=bv+j/\Hid (bL bh d 3 1 iL v10 (out++cP j (i:Int)))/\Hid (aD d bh));exact⟨0,sZ,oZ,oZ,cn,bp⟩
   obtain⟨j,rfl,c0,cx,ah,J⟩:=hrel;obtain⟨N,c10,u,bz⟩:=ah.sl (λ_=>rfl);rw[aW,gY,l.out]at u;subst u;have dp:CI wr ((w1:Nat)+1) 2 a:=(s.below J s.out.lt).cell 2;by_cases da:j<q
   .have bc:=ag.out;have aw:r-(j:Int)>0:=oZ;have bw:((g+j:Nat):Int)<a:=oZ;have dk:IntKind.i64.wrap (r-(j:Int)-1)=r-((j+1:Nat):Int):=by rw[cX];omega
    have dn:=O.out wr J;have cv:cA wr wr (wr.alloc (cJ #[(i:Int)] 3)):=bZ;obtain⟨u6,bs,cj,ax,b0,dl⟩:=afA (P:=cL) (z:=cF cG 0) (t:=36) (ty:=36) underlying36 kZ rfl (i:Int) ah (aK _ _) J.size (by simp;have:=l.out;omega);rw[<-ale]at ax;have bo:=qZ ax;have bj:=qY (aD d bs) (Below.trans J b0);go_wp2_with(at_builtin;refine cK rfl (.tmp 54) (.tmp 59) _ _ rfl (ac N (g+j) c10) (ac wr 1 1) rfl rfl cj ?_);go_roundg(q-(j+1));exact⟨j+1,rfl,oZ,oZ,bo,bj⟩;omega
   .have b9:j=q:=oZ;subst b9;have au:=qY (bL wr d 3 1 iL (ac N (g+j) c10) (out++cP j (i:Int))/\gb free ⟨n0,n1,n2⟩ a (group.drop (k+1)) (out++cP j (i:Int))=L) (⟨ah,by have h:=o.2;rw[ab.out]at h;unfold gb at h;rw[aI (by rw[T.out];exact ak),a0.out,aq.out,l.out,bm.out]at h;exact h⟩);have bb:((out++cP j (i:Int)).length:Int)<=a:=by rw[aW,gY,l.out];have:=ag.out;omega
    have am:=J;by_cases dj:r-(j:Int)>0
    .have bw:¬((g+j:Nat):Int)<a:=by have:=ag.out;omega
     go_wp2_with fail;go_roundg(K-(k+1));exact⟨k+1,_,mZ,oZ,oZ,au,bb,am⟩;omega
    .go_wp2_with fail;go_roundg(K-(k+1));exact⟨k+1,_,mZ,oZ,oZ,au,bb,am⟩;omega
  .have b7:¬(i:Int)<0:=oZ;have b8:(i:Int)≥(M:Int):=oZ;have bn:=qY (bL wr d 3 1 iL u10 out/\gb free ⟨n0,n1,n2⟩ a (group.drop (k+1)) out=L) (⟨o.1,by have h:=o.2;rw[ab.out]at h;unfold gb at h;rwa [aF (by rw[T.out];exact ak)]at h⟩);go_wp2_with fail;go_roundg(K-(k+1));exact⟨k+1,out,mZ,oZ,oZ,bn,al,m⟩;omega
 .have cc:¬(k:Int)<(K:Int):=oZ;have ad:=qY (out=L) (by have h:=o.2;rwa [iG (by have:=ae.out;omega)]at h);have c2:CI wr ((w1:Nat)+1) 2 a:=(Blk.below s m s.out.lt).cell 2;obtain⟨N,c10,u,bz⟩:=o.out.1.sl (λ_=>rfl);obtain⟨g,l⟩:=nQ out.length;rw[l.out]at u al;subst u;have an:=qY (cA w1 w1 wr) (aA Q m);by_cases ba:(g:Int)<a
  .have af:=qY (mF free ⟨y,p1,a,⟨n0,n1,n2⟩,p6,H,I,be,bd⟩ group=cD) (by rw[ao.out,aI (by rw[<-ad.out,l.out];exact ba)]);go_wp2_with fail;refine cT (v:=dE #[cE,eA cQ]) (by simp[results,Tryz.results73,go_sem]) rfl ?_;rw[af.out];exact⟨_,rfl,fx _ _ _ _ _,an⟩
  .have af:=qY (mF free ⟨y,p1,a,⟨n0,n1,n2⟩,p6,H,I,be,bd⟩ group=cI out) (by rw[ao.out,aF (by rw[<-ad.out,l.out];exact ba),ad.out]);go_wp2_with fail;refine cT (v:=dE #[ac N g c10,eA cE]) (by simp[results,Tryz.results73,go_sem]) rfl ?_;have cm:=o.1.low Q.size;rw[af.out];exact⟨_,rfl,cm,an⟩
theorem aif{bv:cU}{free:List Vec.V}(an:bW w bv c)(bl:VSl w X free)(bk:c.aR.length<=1000000)(p:eQ)(cw:zS p)(cx:EL p)(hv:lU p.need=cE):∀w1,cA w w w1->cN cL 32 #[bv,X,dV p] w1 λe w'=>yT (gi c free p) w1 e w':=by
 intro w1 K;have ax:=qZ (λaP W (h:cA w1 w1 W)=>adt (an.below K) aP bk W h);have u:=qZ (λW dg (group:List Nat) (h:cA w1 w1 W) (cq:ISl W dg (group.map λn:Nat=>(n:Int))) hgl=>anK ((an.below K).below h) ((bl.below K).below h) cq hgl p cw hv W (aK _ _));obtain⟨v1,v2,rfl,⟨A,ca,rfl,ej,d8⟩,⟨B,J,rfl,c0,d9⟩⟩:=an.below K;obtain⟨F,cf,rfl,ek,ea⟩:=bl.below K;obtain⟨R,am⟩:=nZ (gi c free p);have bj:=am;unfold gi at bj;have ba:=qZ bj;rw[am];have b3:=qZ c0;have b2:=qZ (λg=>show IK c g=(c.aR.getD (g.headD 0) default).flavor from rfl);obtain⟨j,aj⟩:=nZ c.aR.length;have a8:=qZ aj;rw[aj]at bk ax u⊢;generalize c.aN.length=NN at*;generalize c.aG=aG at*;generalize c.aJ=aJ at*;obtain⟨M,bi⟩:=nZ free.length;rw[bi]at u⊢;obtain⟨⟨el,em⟩,⟨ep,r1⟩⟩:=cx;obtain⟨P,al⟩:=nZ p;have b5:=qZ al;obtain⟨Y,p1,Z,⟨n0,n1,n2⟩,p6,i,N,eo,en⟩:=p;simp only[dV,gK]at*;obtain⟨lo,av⟩:=nZ (max N 0);obtain⟨hi,ar⟩:=nZ (min i 3);obtain⟨n,cv⟩:=nZ ((hi-lo+1).toNat);rw[ar,av,cv,al]at ba;have cu:=qZ av;have bo:=qZ ar;replace u:Hid _:=qZ (by have h:=u.out;simp only[b5.out]at h;exact h);have eb:0<=lo/\lo<=3:=oZ;have dy:hi<=3:=oZ;obtain⟨r,L⟩:=nZ ((w1.alloc (cJ #[ac A NN ca,ac B j J,aG,aJ] 26)).alloc (cJ #[Y,p1,Z,n0,n1,n2,p6,i,N] 42));have dh:Blk r ((w1:Nat)+1) 42 #[Y,p1,Z,n0,n1,n2,p6,i,N]:=by rw[<-L];have h:=cV (w1.alloc (cJ #[ac A NN ca,ac B j J,aG,aJ] 26)) 42 #[Y,p1,Z,n0,n1,n2,p6,i,N];simp only[aT]at h;exact h
 have di:Blk r w1 26 #[ac A NN ca,ac B j J,aG,aJ]:=by rw[<-L];exact fw (cV _ _ _) _
 have cn:cA w1 w1 r:=by rw[<-L];exact kp
 have b:=qZ (aC dh di);have ab:=qZ cn;have cd:=qZ L;clear L am aj bi av ar al;go_enter func32,ntmps32;go_wp2_with fail;rw[cu.out];go_loopg[9] n (λcg df wr=>∃k:Nat,df=cF cG (lo+k)/\k<=n/\n<=cg+k/\Hid (pK c free P (n-k) (lo+k)=R)/\Hid (cA r r wr));exact⟨0,sZ,oZ,oZ,qZ (by simpa using ba.out),qZ (by rw[<-cd.out];exact aK _ _)⟩
 obtain⟨k,rfl,d6,dw,bb,y⟩:=hrel;have es:wr.cell? ⟨(w1:Nat)+1,7,cD⟩=cI (cF cG i):=(Blk.below b.out.1 y.out b.out.1.lt).cell 7;by_cases ec:lo+(k:Int)<=hi
 .have ed:lo+(k:Int)<=i:=by have:=bo.out;omega
  have ee:lo+(k:Int)<=3:=oZ;have d7:k<n:=oZ;obtain⟨et,eu,ev,ew⟩:=(Blk.below b.out.2 y.out b.out.2.lt).c4;have I:=qZ (JL c free P (n-(k+1)) (lo+k));rw[show n-(k+1)+1=n-k by omega,bb.out]at I;go_wp2_with fail;refine(ax.out (lo+k) wr (aA ab.out y.out)).mono ?_;rintro e bw⟨dp,rfl,aq,cl⟩;obtain⟨dj,dm,rfl,bh⟩:=aq.form;have a5:=qZ (NZ c.aR (lo+k));have O:=qZ (SQ c.aR (lo+k));have af:=qZ (OA c.aR (lo+k));rw[a8.out]at O af;obtain⟨gs,bn⟩:=nZ (Hst.lY c.aR (lo+k));rw[bn]at aq I bh a5 O af⊢;have a0:=qZ aq;obtain⟨m,ak⟩:=nZ gs.length;have a9:=qZ ak;have ay:=qZ bh;rw[ak]at a0 ay O⊢;have H:=qZ (aA y.out cl);have dv:=O.out;clear bn ak;obtain⟨er,rfl⟩:∃z,z=wr:=⟨_,rfl⟩;obtain⟨aa,ah⟩:=nZ (oV free P gs);have b1:=qZ ah;rw[ah]at I;clear ah;go_wp2_with fail;go_loopg[11] m (λch de wr=>∃q:Nat,de=cF cG q/\q<=m/\m<=ch+q/\Hid (oV free P (gs.drop q)=aa)/\Hid (cA bw bw wr));exact⟨0,mZ,oZ,oZ,qZ (by rw[bB];exact b1.out),qZ (aK _ _)⟩
  obtain⟨q,rfl,ei,dx,bc,f⟩:=hrel;by_cases cy:q<m
  .have cz:(q:Int)<(m:Int):=oZ;have T:q<gs.length:=by rw[a9.out];exact cy
   obtain⟨G,rfl⟩:=ay.out oZ;obtain⟨dr,cj,ds,x,dc,ck,eh⟩:=a0.out.dR T;obtain⟨h,t,bp,cr⟩:=a5.out _ (bD T);have ct:=af.out _ (bD T);have au:=(abQ ck oZ).below f.out;have az:Hid (gs.drop q=gs[q]::gs.drop (q+1)):=qZ (cZ T);obtain⟨bg,bm⟩:=nZ (gs[q]);rw[bm]at az au bp ct;have ad:=qZ (aA ab.out (aA H.out f.out));have cs:=qY (∀W,aD wr W->ISl W x (bg.map λn:Nat=>(n:Int))) (λW a=>au.below a);have ao:=qY (∀W,aD wr W->_) (λW a=>u.out W x bg (aA ad.out a) (cs.out W a) oZ);have bf:∀W,aD wr W->W.cell? ⟨G,q,cD⟩=cI x:=λW a=>((aA f.out a).cell (p:=⟨G,q,cD⟩) cj).trans dc;obtain⟨dk,dn,rfl,db,_⟩:=au;subst bp;obtain⟨bx,dd,rfl,eg,cp⟩:=qR db (k:=0) sZ;have b0:=qZ cp;have ex:∀W,aD wr W->W.cell? ⟨w1,0,cD⟩=cI (ac A NN ca)/\W.cell? ⟨w1,1,cD⟩=cI (ac B j J)/\W.cell? ⟨w1,2,cD⟩=cI (cF cG aG)/\W.cell? ⟨w1,3,cD⟩=cI (cF cG aJ):=λW a=>by have h:=Blk.below b.out.2 (aA (aA H.out f.out) a) b.out.2.lt;exact⟨h.cell 0,h.cell 1,h.cell 2,h.cell 3⟩
   have ey:∀W,aD wr W->W.cell? ⟨(w1:Nat)+1,0,cD⟩=cI (cF cG Y)/\W.cell? ⟨(w1:Nat)+1,1,cD⟩=cI (cF cG p1)/\W.cell? ⟨(w1:Nat)+1,2,cD⟩=cI (cF cG Z)/\W.cell? ⟨(w1:Nat)+1,3,cD⟩=cI (cF cG n0)/\W.cell? ⟨(w1:Nat)+1,4,cD⟩=cI (cF cG n1)/\W.cell? ⟨(w1:Nat)+1,5,cD⟩=cI (cF cG n2)/\W.cell? ⟨(w1:Nat)+1,6,cD⟩=cI (cF cG p6)/\W.cell? ⟨(w1:Nat)+1,7,cD⟩=cI (cF cG i)/\W.cell? ⟨(w1:Nat)+1,8,cD⟩=cI (cF cG N):=λW a=>by have h:=Blk.below b.out.1 (aA (aA H.out f.out) a) b.out.1.lt;exact⟨h.cell 0,h.cell 1,h.cell 2,h.cell 3,h.cell 4,h.cell 5,h.cell 6,h.cell 7,h.cell 8⟩
   have Q:=qZ cr;obtain⟨bd,ai⟩:=nZ ((List.map (λn:Nat=>(n:Int)) (h::t)).length);have dt:0<bd:=by rw[<-ai];simp
   rw[ai]at ao bf;have ae:=qY (aa=match mF free P (h::t)with|some l=>cI (l,h::t)|none=>oV free P (gs.drop (q+1))) (by rw[<-bc.out,az.out];rfl);obtain⟨o,bq⟩:=nZ (mF free P (h::t));rw[bq]at ae ao;have bz:=qZ bf;have du:(0:Int)<(bd:Int):=oZ;clear bm ai bq;go_wp2_with fail;refine jB (aD wr) (.take 0 (.take 1 (.take 2 (.take 3 (.take 4 (.take 5 (.take 6 (.one 7 (.take 8 (.take 9 (.take 10 (.take 11 (.take 12 .done))))))))))))) kZ kZ (cC wr) ?_;(iterate 7 refine tT ?_);refine dQ ?_;refine tC ?_;refine(ao.out _ (cC wr)).mono ?_;rintro e s⟨v',rfl,da,cm⟩;have br:aD wr s:=aA (cC wr) cm;refine⟨_,rfl,br,?_⟩;have b6:=qZ (da.low (show(wr:Nat)<=wr.drew.heap.size from(cC wr).size));have d:=qZ br;obtain⟨eq,aw⟩:=nZ o.isSome;rw[aw];have b8:=qZ aw;clear aw;(iterate 5 refine tT ?_);refine fA ?_;have b9:=b8.out;rw[<-b9];cases o with
   |none=>
    simp only[Option.isSome_none];go_wp2_with fail;go_roundg(m-(q+1));exact⟨q+1,mZ,oZ,oZ,qZ ae.out.symm,qZ (aA f.out d.out)⟩;omega
   |some l=>
    simp only[Option.isSome_some];obtain⟨be,bu,rfl,ef,co⟩:=qX b3.out Q.out;have bt:cA w1 w1 s:=aA ad.out d.out;have dl:∀W,aD s W->W.cell? ⟨w1,1,cD⟩=cI (ac (cI ⟨be,bu,cD⟩) j J):=λW a=>by have ci:=aA (aA H.out f.out) (aA d.out a);exact(Blk.below b.out.2 ci b.out.2.lt).cell 1
    have c3:=λW (a:aD s W)=>bz.out W (aA d.out a);have c1:∀W,aD s W->W.cell? ⟨bx,dd,cD⟩=cI (cF cG (h:Int)):=λW a=>b0.out W (aA d.out a);obtain⟨fl,ap⟩:=nZ ((c.aR[h]'Q.out).flavor);have c2:∀W,aD s W->W.cell? ⟨be,bu+h*6,cD⟩=cI (cF cG fl):=λW a=>by have:=(co W (aA bt a)).1;rwa [ap]at this
    have dz:h<j:=by have:=Q.out;rw[a8.out]at this;exact this
    have d0:(h:Int)<(j:Int):=oZ;have b4:=qY (R=cI (fl,l)) (by have bs:=I.out;rw[ae.out]at bs;rw[bs];simp only;rw[b2.out];simp only[List.headD_cons];rw[aV,aH Q.out,gd,ap]);have cc:=qZ bt;clear ap;go_wp2_with fail;refine kK ?_;(repeat refine kY ?_);refine dP ?_;intro W a;have b7:=qZ ((b6.out.below a).low (B':=(w1:Nat)) ad.out.size);have ce:=qZ (aA cc.out a);go_wp2_with fail;refine cT (v:=dE #[fl,v',eA cE]) (by simp[results,Tryz.results32,go_sem]) rfl ?_;rw[b4.out];exact⟨_,rfl,b7.out,ce.out⟩
  .have cz:¬(q:Int)<(m:Int):=oZ;have ag:Hid (aa=cD):=qZ (by have h:=bc.out;rw[iG (by have:=a9.out;omega)]at h;exact h.symm);have cb:=qY (pK c free P (n-(k+1)) (lo+((k+1:Nat):Int))=R) (by have h:=I.out;rw[ag.out]at h;rw[h];congr 1;omega);have d:=qY (cA r r wr) (aA H.out f.out);go_wp2_with fail;go_roundg(n-(k+1));exact⟨k+1,dB _ oZ,oZ,oZ,cb,d⟩;omega
 .have ag:Hid (R=cD):=qZ (by have h:=bb.out;rw[show n-k=0 by omega]at h;exact h.symm);have d:=qY (cA w1 w1 wr) (aA ab.out y.out);have dq:¬lo+(k:Int)<=i:=by have:=bo.out;omega
  go_wp2_with fail;refine cT (v:=dE #[(),cE,eA cQ]) (by simp[results,Tryz.results32,go_sem]) rfl ?_;rw[ag.out];exact⟨_,rfl,fx _ _ _ _ _,d.out⟩
theorem aie{al:cU}(f:bW w al c)(l:Runs w vr rl)(x:zD c)(p:eQ)(a9:zS p)(ba:EL p)(hv:lU p.need=cE):∀w1,cA w w w1->cN cL 12 #[al,vr,dV p] w1 λe w'=>yT (gj c (rl.map eD) p) w1 e w':=by
 intro w1 af;replace f:=f.below af;replace l:=l.below af;have Z:=qZ (λW (h:cA w1 w1 W)=>by have:=anJ f l x.aN W h;rw[ET]at this;exact this);have Y:=qZ (λW (h:cA w1 w1 W)=>by have:=aic f l x.aR W h;rw[free_eq]at this;exact this);have s:=qZ (λW va (h:cA w1 w1 W) (N:VSl W va (gA c (rl.map eD)))=>ald (f.below h) x.aN N p.dI (kM p) W (aK _ _));have H:=qZ (λW bf (h:cA w1 w1 W) (N:VSl W bf (gC c (rl.map eD)))=>aif (f.below h) N x.aR p a9 ba hv W (aK _ _));have J:=abY p.id p.dI p.fG p.need p.run p.aP p.prefer;obtain⟨v1,v2,rfl,⟨A,ca,rfl,b1,bw⟩,⟨B,j,rfl,b2,bz⟩⟩:=f;obtain⟨F,cf,rfl,b3,b0,bv⟩:=l;obtain⟨R,L⟩:=nZ (gj c (rl.map eD) p);have ae:=L;unfold gj at ae;have i:=qZ ae;rw[L];obtain⟨ar,M⟩:=nZ (gA c (rl.map eD));obtain⟨am,K⟩:=nZ (gC c (rl.map eD));rw[M,K]at i;rw[M]at Z s;rw[K]at Y H;have a8:kM p=Vec.nI p.need p.fG:=rfl;rw[<-a8]at J;obtain⟨⟨av,d1,d2⟩,aw⟩:∃D,kM p=D:=⟨_,rfl⟩;rw[aw]at J i s;obtain⟨q,ah⟩:=nZ (Quo.may c ar p.dI ⟨av,d1,d2⟩);rw[ah]at s i;obtain⟨z,ad⟩:=nZ (gi c am p);rw[ad]at H i;generalize c.aN.length=NN at*;generalize c.aR.length=NH at*;generalize c.aG=aG at*;generalize c.aJ=aJ at*;generalize rl.length=NR at*;obtain⟨m,p1,r,⟨n0,n1,n2⟩,p6,n,o,b5,b4⟩:=p;simp only[dV,gK,Vec.V.val]at*;obtain⟨d,u⟩:=nQ ((w1.alloc (cJ #[ac A NN ca,ac B NH j,aG,aJ] 26)).alloc (cJ #[m,p1,r,n0,n1,n2,p6,n,o] 42));have bk:Blk d ((w1:Nat)+1) 42 #[m,p1,r,n0,n1,n2,p6,n,o]:=by rw[<-u.out];have h:=cV (w1.alloc (cJ #[ac A NN ca,ac B NH j,aG,aJ] 26)) 42 #[m,p1,r,n0,n1,n2,p6,n,o];simp only[aT]at h;exact h
 have bl:Blk d w1 26 #[ac A NN ca,ac B NH j,aG,aJ]:=by rw[<-u.out];exact fw (cV _ _ _) _
 have a5:cA w1 w1 d:=by rw[<-u.out];exact kp
 have a:=qZ (aC bk bl);have g:=qZ a5;have an:=qZ J;clear L M K ah ad;go_enter func12,ntmps12;go_wp2_with fail;rw[u.out];refine jB (aD d) (.take 0 (.take 1 (.take 2 (.take 4 (.take 5 (.take 6 (.one 3 (.one 7 (.one 8 (.take 9 .done)))))))))) kZ kZ (cC d) ?_;have au:∀W,aD d W->CV W w1 0 (ac A NN ca):=λW b=>(Blk.below a.2 b a.2.lt).cell 0;have c1:∀W,aD d W->CV W w1 1 (ac B NH j):=λW b=>(Blk.below a.2 b a.2.lt).cell 1;have c2:∀W,aD d W->CI W w1 2 aG:=λW b=>(Blk.below a.2 b a.2.lt).cell 2;have c3:∀W,aD d W->CI W w1 3 aJ:=λW b=>(Blk.below a.2 b a.2.lt).cell 3;have bm:∀W,aD d W->CI W ((w1:Nat)+1) 0 m:=λW b=>(Blk.below a.1 b a.1.lt).cell 0;have bn:∀W,aD d W->CI W ((w1:Nat)+1) 1 p1:=λW b=>(Blk.below a.1 b a.1.lt).cell 1;have bo:∀W,aD d W->CI W ((w1:Nat)+1) 2 r:=λW b=>(Blk.below a.1 b a.1.lt).cell 2;have bp:∀W,aD d W->CI W ((w1:Nat)+1) 3 n0:=λW b=>(Blk.below a.1 b a.1.lt).cell 3;have bq:∀W,aD d W->CI W ((w1:Nat)+1) 4 n1:=λW b=>(Blk.below a.1 b a.1.lt).cell 4;have br:∀W,aD d W->CI W ((w1:Nat)+1) 5 n2:=λW b=>(Blk.below a.1 b a.1.lt).cell 5;have bs:∀W,aD d W->CI W ((w1:Nat)+1) 6 p6:=λW b=>(Blk.below a.1 b a.1.lt).cell 6;have bt:∀W,aD d W->CI W ((w1:Nat)+1) 7 n:=λW b=>(Blk.below a.1 b a.1.lt).cell 7;have bu:∀W,aD d W->CI W ((w1:Nat)+1) 8 o:=λW b=>(Blk.below a.1 b a.1.lt).cell 8;(iterate 6 refine tT ?_);refine dQ ?_;refine tC ?_;refine(Z _ (aA g (cC d))).mono ?_;rintro e bg⟨va,rfl,bc,ax⟩;have ai:aD d bg:=aA (cC d) ax;refine⟨va,rfl,ai,?_⟩;refine dQ ?_;refine tC ?_;refine(an _).mono ?_;rintro e bh⟨rfl,ag⟩;have Q:aD d bh:=aA ai ag;refine⟨_,rfl,Q,?_⟩;refine dQ ?_;refine tC ?_;refine(s _ va (aA g Q) (bc.below ag).sl).mono ?_;rintro e y⟨rfl,ay⟩;have k:aD d y:=aA Q ay;refine⟨_,rfl,k,?_⟩;(iterate 1 refine tT ?_);refine fA ?_;have I:=qZ k;cases q
 .go_wp2_with fail;refine cT (v:=dE #[(),cE,eA cQ]) (by simp[results,Tryz.results12,go_sem]) rfl ?_;rw[<-i.out];exact⟨_,rfl,fx _ _ _ _ _,aA g I⟩
 .go_wp2_with fail;refine jB (aD d) (.take 0 (.take 1 (.take 2 (.take 4 (.one 3 (.one 5 (.take 6 (.take 7 (.take 8 (.take 9 (.take 10 (.take 11 .done)))))))))))) kZ kZ (aA I (cC y)) ?_;have au:∀W,aD d W->CV W w1 0 (ac A NN ca)/\CV W w1 1 (ac B NH j)/\CI W w1 2 aG/\CI W w1 3 aJ/\CI W ((w1:Nat)+1) 0 m/\CI W ((w1:Nat)+1) 1 p1/\CI W ((w1:Nat)+1) 2 r/\CI W ((w1:Nat)+1) 3 n0/\CI W ((w1:Nat)+1) 4 n1/\CI W ((w1:Nat)+1) 5 n2/\CI W ((w1:Nat)+1) 6 p6/\CI W ((w1:Nat)+1) 7 n/\CI W ((w1:Nat)+1) 8 o:=λW b=>⟨(Blk.below a.2 b a.2.lt).cell 0,(Blk.below a.2 b a.2.lt).cell 1,(Blk.below a.2 b a.2.lt).cell 2,(Blk.below a.2 b a.2.lt).cell 3,(Blk.below a.1 b a.1.lt).cell 0,(Blk.below a.1 b a.1.lt).cell 1,(Blk.below a.1 b a.1.lt).cell 2,(Blk.below a.1 b a.1.lt).cell 3,(Blk.below a.1 b a.1.lt).cell 4,(Blk.below a.1 b a.1.lt).cell 5,(Blk.below a.1 b a.1.lt).cell 6,(Blk.below a.1 b a.1.lt).cell 7,(Blk.below a.1 b a.1.lt).cell 8⟩;(iterate 4 refine tT ?_);refine dQ ?_;refine tC ?_;have k:aD d y.drew:=aA I (cC y);refine(Y _ (aA g k)).mono ?_;rintro e bi⟨ak,rfl,bd,az⟩;have T:aD d bi:=aA k az;refine⟨ak,rfl,T,?_⟩;refine dQ ?_;refine tC ?_;have ab:=qZ (aA g T);refine(H _ ak ab bd.sl).mono ?_;rintro e bj⟨v',rfl,bb,a0⟩;have aj:aD d bj:=aA T a0;refine⟨_,rfl,aj,?_⟩;have ap:=qZ (bb.low ab.size);have aq:=qZ (aA g aj);obtain⟨fl,O⟩:=nZ ((Option.map (·.1) z).getD 0);obtain⟨be,X⟩:=nZ z.isSome;rw[O,X];have aa:=qZ (aC O X);have ao:=qY (R=z) (by have:=i.out;simpa using this.symm);clear O X;(iterate 6 refine tT ?_);refine fA ?_;go_wp2_with fail;refine cT (v:=dE #[fl,v',eA be]) (by simp[results,Tryz.results12,go_sem]) rfl ?_;rw[ao.out];exact⟨v',by rw[aa.out.1,aa.out.2],ap,aq⟩
end bT
end Go.Proofs.YtedmeglbjmdlhaaGreatDoor
