/-
Parts of TopFirst.
-/
import Derived.Test.YtedmeglbjmdlhaaGreatDoorF4
import Derived.Test.YtedmeglbjmdlhaaGreatDoorF5
import Derived.Deep.RegionHeld3
import Derived.Test.YtedmeglbjmdlhaaGreatDoorF2
set_option maxRecDepth 100000
set_option maxHeartbeats 16000000
set_option linter.all false
open Go.Proofs.Tryz
namespace Go.Proofs.YtedmeglbjmdlhaaGreatDoor
open Bool renaming true->ac,and_eq_true->cD,false->cG
open Go renaming World->cA,rounds_succ->cE,wp_loop_rounds->cQ,Value->cR,Oper->cT,wpOp_mono->cV,Program->cW,NoPanic->er,yielded->et,Calls->ey,wpOp->ez,execOp->eC,wp_region_noPanic->eE,Exit->eL,getD_replicate_false->eM,ready_mono->eS,getD_set_ne->e5,HeadInv->e8,getD_both->fg,YieldsIf->ft,wp_region_any->gd,maxLen->gj,FuncId->gl,undef->gy
open Go.Obj renaming cells->cC
open Go.Region renaming ready->cF,wanted->cJ,noSelect->cS,Mode->cY,binds->eA,noSelect_spec->fi,chainB->fq,sinkB->fv,free->fx,free_spec->fy,seqB->gn
open Go.Value renaming slice->cH,int->cL,agg->fz,int->gb,string->gg
open Ord renaming num->cI,tree->eI,or2->eK,cmp->fo,P->fX,old->ga
open _root_.Array renaming replicate->cM
open Option renaming some->cN,none->eu,getD_some->fb
open Tree renaming path->cP,up->gO
open Go.IntKind renaming i64->cU,u64->fe,signed->fN,wrap->gh,bits->gi
open Go.Ending renaming returned->cX
open Go.Proofs.Tryz renaming prog->dC,ntmps173->eQ,func173->e9,underlying239->fr,underlying9->gr
open L.Blk renaming cell->dE,lt->gm,frozen->gv,alloc->gx
open Go.RowKit renaming Below->dT
open L.aD renaming drew->ew
open Vec renaming add1->eJ,cut->eV,add->gf,V->gp,dom->gw,zero->gz
open Go.Oper renaming upon->eN,wp->fl
open Top renaming byte->eR,used->gA
open Go.NoPanic renaming normal->eW
open Go.Code renaming region->e0
open List renaming length_cons->fc,length_reverse->fm,mem_singleton->fu,take_zero->fL,range->gu
open Fix renaming top->ff,ofInt->fw,add->fW,quo->gC
open Cfg renaming C->fj
open Go
open Cfg Fix L Ord Quo Top Tree Vec bO bT eO gT rM
variable{c:fj}{h:List Nat}{k:Nat}{A:Option Addr}{v va:cR}{w w':cA}
variable{aJ:Int}{n:Nat}{v1 v2 vp vr:cR}{W W':cA}
namespace eO
open Go.RowKit L bO
def oI(k:Nat):List cR:=[cL fe (k:Int)]
def FSl(w:cA)(v:cR)(h:List Nat):Prop:=∃A cap,v=cH A h.length cap/\gF w A 1 oI h/\h.length<=gj/\∀k∈h,k<=ff
theorem FSl.below(b:FSl w v h)(a:dT w w w'):FSl w' v h:=by obtain⟨A,cap,e,d,c,f⟩:=b;exact⟨A,cap,e,d.below a,c,f⟩
theorem FB{xs:List Nat}(h:gF w A 1 oI xs)(a:k<xs.length):∃b o,A=cN ⟨b,o,eu⟩/\b<(w:Nat)/\∀w',dT w w w'->w'.cell? ⟨b,o+k,eu⟩=cN (cL fe (xs[k]:Int)):=by obtain⟨b,o,rfl,c,f⟩:=h (by intro e;subst e;simp at a);have g:=aH a;refine⟨b,o,rfl,c,λw' d=>?_⟩;have:=f k xs[k] g 0 (cL fe (xs[k]:Int)) rfl;rw[Nat.add_zero,gI]at this;exact(d.cell (p:=⟨b,o+k,eu⟩) c).trans this
theorem ZM(d:c.aN.length<=1000000)(n:Int):(Tree.below c n).length<=1000000:=by have a:=eG (λt=>Tree.on c n t) (gQ c);have b:=eG (λ(i:Nat)=>iP c (i:Int)) (gu c.aN.length);rw[List.length_range]at b;unfold Tree.below;unfold gQ at a⊢;omega
def VB(h:List Nat)(s t:Nat):Nat:=if t<h.length then fW s (h.getD t 0)else s
def qJ(c:fj)(h:List Nat)(n:Int)(k:Nat):Nat:=((Tree.below c n).take k).foldl (VB h) 0
theorem RJ(c:fj)(h:List Nat)(n:Int)(k:Nat)(a:k<(Tree.below c n).length):qJ c h n (k+1)=if(Tree.below c n)[k]<h.length then fW (qJ c h n k) (h.getD (Tree.below c n)[k] 0)else qJ c h n k:=by unfold qJ;rw[bE a,fB];rfl
theorem XE(c:fj)(h:List Nat)(n:Int)(k:Nat)(a:(Tree.below c n).length<=k):qJ c h n k=pY c h n:=by unfold qJ pY;rw[aU a];rfl
theorem EC(h:List Nat):∀(l:List Nat) (s:Nat),s<=ff->l.foldl (VB h) s<=ff
 |[],s,hs=>hs
 |t::l,s,hs=>by
  refine EC h l _ ?_;unfold VB;split
  .exact Fix.add_lt _ _
  .exact hs
theorem aaU(c:fj)(h:List Nat)(n:Int)(k:Nat):qJ c h n k<=ff:=EC h _ 0 (bI _)
theorem RI(c:fj)(h:List Nat)(n:Int):pY c h n<=ff:=EC h _ 0 (bI _)
theorem adh(d:bW w v c)(J:c.aN.length<=1000000)(m:FSl w va h)(n:Int):fV dC w 240 #[v,va,n] (cL fe (pY c h n:Nat)):=by
 intro w1 K;replace d:=d.below K;replace m:=m.below K;have I:=qZ (λW am=>ZN d J n W am);obtain⟨v1,v2,rfl,-⟩:=id d;obtain⟨D,cd,rfl,az,ax,o⟩:=id m;have ay:=ZM J n;obtain⟨aG,ai⟩:=nQ c.aG;obtain⟨aJ,ah⟩:=nQ c.aJ;rw[ai.out,ah.out]at I⊢;have af:=qZ (XE c h n);have ae:=qZ (RJ c h n);have ab:=qZ (aaU c h n);have ad:=qZ az;have ag:=qZ o;obtain⟨H,j⟩:=nQ h.length;rw[j.out]at ax⊢;obtain⟨S,u⟩:=nQ (pY c h n);rw[u.out];have aq:=gM.new w1 v1 v2 aG aJ;have ap:dT w1 w1 (w1.alloc (cC #[v1,v2,aG,aJ] 26)):=bZ;go_enter func240,ntmps240;have A:=qZ ap;obtain⟨bg,x0,bj,bk,bl⟩:=aq;go_wp2_with fail;refine(I.out _ A).mono ?_;rintro e T⟨v2,rfl,al,an⟩;have r:=qZ (aA A an);obtain⟨a5,c2,rfl,au⟩:=mV al;have Z:=qZ au;obtain⟨L,l⟩:=nQ ((Tree.below c n).length);rw[l.out]at ay⊢;go_wp2_with fail;go_loopw [7,14] (λs i wr=>∃k:Nat,i=cL cU (k:Int)/\k<=L/\s=cL fe (qJ c h n k:Nat)/\dT T T wr) (λ_ i _=>L-(intOf i).toNat);exact⟨0,rfl,oZ,rfl,aK _ _⟩
 obtain⟨k,rfl,bd,rfl,b⟩:=hrel
 rename cA=>wr
 by_cases M:k<L
 .have N:k<(Tree.below c n).length:=by rw[l.out];exact M
  have f:=ae.out k N;obtain⟨x,F⟩:=nQ ((Tree.below c n)[k]);rw[F.out]at f;have a0:(Tree.below c n)[k]? =cN x:=by rw[aH N,F.out]
  obtain⟨ak,rfl,bc,aw,av⟩:=Z.out k x a0;have bb:=(b.cell (p:=⟨ak,k,eu⟩) aw).trans av;have O:=ab.out k;have z:=qZ b;obtain⟨s,aj⟩:=nQ (qJ c h n k);rw[aj.out]at O f⊢;by_cases Q:x<H
  .have g:x<h.length:=by rw[j.out];exact Q
   obtain⟨a9,bh,rfl,bf,ar⟩:=FB ad g;have ba:=ar wr (aA r b);have o:h[x]<=ff:=ag _ (bD g);have a:=qY (qJ c h n (k+1)=fW s h[x]) (by rw[f,aI g,aV,aH g];rfl);have X:=qZ (rM.zN s h[x] O o);generalize h[x]=y at*;go_wp2_with fail;refine(X _).mono ?_;rintro e bi⟨rfl,ao⟩;have Y:=qZ ao;go_wp2_with fail;go_roundw;exact⟨k+1,mZ,oZ,by rw[a.out],aA z Y⟩;simp[intOf];omega
  .have a:=qY (qJ c h n (k+1)=s) (by rw[f,aF (by rw[j.out];exact Q)]);go_wp2_with fail;go_roundw;exact⟨k+1,mZ,oZ,by rw[a.out],z⟩;simp[intOf];omega
 .have a:=qY (qJ c h n k=S) (by rw[<-u.out];exact af k (by rw[l.out];omega));have be:decide (k<L)=cG:=by simpa using M
  have aa:=qZ (aA r b);rw[a.out];go_wp2_with fail;go_ret;exact⟨rfl,aa⟩
theorem abh(d:bW w v c)(J:c.aN.length<=1000000)(m:FSl w va h)(n:Int):fV dC w 176 #[v,va,n] (cL fe (pY c h n:Nat)):=by
 intro w1 K;replace d:=d.below K;replace m:=m.below K;have I:=qZ (λW am=>GU d J n W am);obtain⟨v1,v2,rfl,-⟩:=id d;obtain⟨D,cd,rfl,az,ax,o⟩:=id m;have ay:=ZM J n;obtain⟨aG,ai⟩:=nQ c.aG;obtain⟨aJ,ah⟩:=nQ c.aJ;rw[ai.out,ah.out]at I⊢;have af:=qZ (XE c h n);have ae:=qZ (RJ c h n);have ab:=qZ (aaU c h n);have ad:=qZ az;have ag:=qZ o;obtain⟨H,j⟩:=nQ h.length;rw[j.out]at ax⊢;obtain⟨S,u⟩:=nQ (pY c h n);rw[u.out];have aq:=gM.new w1 v1 v2 aG aJ;have ap:dT w1 w1 (w1.alloc (cC #[v1,v2,aG,aJ] 26)):=bZ;go_enter func176,ntmps176;have A:=qZ ap;obtain⟨bg,x0,bj,bk,bl⟩:=aq;go_wp2_with fail;refine(I.out _ A).mono ?_;rintro e T⟨v2,rfl,al,an⟩;have r:=qZ (aA A an);obtain⟨a5,c2,rfl,au⟩:=mV al;have Z:=qZ au;obtain⟨L,l⟩:=nQ ((Tree.below c n).length);rw[l.out]at ay⊢;go_wp2_with fail;go_loopw [7,9] (λs i wr=>∃k:Nat,i=cL cU (k:Int)/\k<=L/\s=cL fe (qJ c h n k:Nat)/\dT T T wr) (λ_ i _=>L-(intOf i).toNat);exact⟨0,rfl,oZ,rfl,aK _ _⟩
 obtain⟨k,rfl,bd,rfl,b⟩:=hrel
 rename cA=>wr
 by_cases M:k<L
 .have N:k<(Tree.below c n).length:=by rw[l.out];exact M
  have f:=ae.out k N;obtain⟨x,F⟩:=nQ ((Tree.below c n)[k]);rw[F.out]at f;have a0:(Tree.below c n)[k]? =cN x:=by rw[aH N,F.out]
  obtain⟨ak,rfl,bc,aw,av⟩:=Z.out k x a0;have bb:=(b.cell (p:=⟨ak,k,eu⟩) aw).trans av;have O:=ab.out k;have z:=qZ b;obtain⟨s,aj⟩:=nQ (qJ c h n k);rw[aj.out]at O f⊢;by_cases Q:x<H
  .have g:x<h.length:=by rw[j.out];exact Q
   obtain⟨a9,bh,rfl,bf,ar⟩:=FB ad g;have ba:=ar wr (aA r b);have o:h[x]<=ff:=ag _ (bD g);have a:=qY (qJ c h n (k+1)=fW s h[x]) (by rw[f,aI g,aV,aH g];rfl);have X:=qZ (rM.AA s h[x] O o);generalize h[x]=y at*;go_wp2_with fail;refine(X _).mono ?_;rintro e bi⟨rfl,ao⟩;have Y:=qZ ao;go_wp2_with fail;go_roundw;exact⟨k+1,mZ,oZ,by rw[a.out],aA z Y⟩;simp[intOf];omega
  .have a:=qY (qJ c h n (k+1)=s) (by rw[f,aF (by rw[j.out];exact Q)]);go_wp2_with fail;go_roundw;exact⟨k+1,mZ,oZ,by rw[a.out],z⟩;simp[intOf];omega
 .have a:=qY (qJ c h n k=S) (by rw[<-u.out];exact af k (by rw[l.out];omega));have be:decide (k<L)=cG:=by simpa using M
  have aa:=qZ (aA r b);rw[a.out];go_wp2_with fail;go_ret;exact⟨rfl,aa⟩
def WOk(c:fj):Prop:=∀x∈c.aN,InI x.iO
theorem CG(h:WOk c)(n:Int): -9223372036854775808<=iO c n/\iO c n<=9223372036854775807:=by
 unfold iO;split
 .rename_i hn;have a:n.toNat<c.aN.length:=oZ;rw[aV,aH a,fb];have:=h _ (bD a);unfold InI at this;omega
 .omega
theorem YN(p:bW w v c)(aj:c.aN.length<=1000000)(T:WOk c)(o:FSl w va h)(n:Int):fV dC w 201 #[v,va,n] (cL fe (aP c h n:Nat)):=by
 intro w1 W;replace p:=p.below W;replace o:=o.below W;have M:=qZ (adh p aj o n);have y:=qZ (rM.gof (iO c n) (CG T n).1 (CG T n).2);have L:=qZ (rM.arh (pY c h n) (fw (iO c n)) (RI c h n) (PG _));obtain⟨D,cd,rfl,-⟩:=id o;obtain⟨v1,v2,rfl,⟨A,ca,rfl,Y,ay⟩,-⟩:=id p;obtain⟨aG,J⟩:=nZ c.aG;obtain⟨aJ,I⟩:=nZ c.aJ;obtain⟨H,F⟩:=nZ h.length;obtain⟨N,g⟩:=nZ c.aN.length;have af:=qZ Y;have O:=qY (aP c h n=gC (pY c h n) (fw (iO c n))) rfl;obtain⟨ao,K⟩:=nZ (aP c h n);obtain⟨s,hs⟩:=nZ (pY c h n);rw[J,I,F,g,hs]at M;rw[K,hs]at O;rw[hs]at L;rw[J,I,F,g,K];have aa:(0<=n/\n<(N:Int)->∃k:Nat,n=(k:Int)/\k<c.aN.length/\∃r:k<c.aN.length,iO c n=max 1 (c.aN[k]).iO):=λm=>by have r:n.toNat<c.aN.length:=oZ;refine⟨n.toNat,oZ,r,r,?_⟩;unfold iO;rw[aI oZ,aV,aH r,fb]
 have Z:¬(0<=n/\n<(N:Int))->iO c n=1:=λm=>by unfold iO;rw[aF (by rw[g];exact m)]
 generalize iO c n=wt at*;have ai:=qZ aa;have ah:=qZ Z;clear J I F Y g K hs aa Z;have ak:=gM.new w1 (cH A N ca) v2 aG aJ;have X:dT w1 w1 (w1.alloc (cC #[cH A N ca,v2,aG,aJ] 26)):=bZ;have a:=qZ X;obtain⟨a0,a5,a8,a9,ba⟩:=ak;have gs:=M;have z:=qZ (L.val (show _=cL fe (ao:Int) by rw[O.out]));clear X;by_cases m:0<=n/\n<(N:Int)
 .obtain⟨k,rfl,an,aw,u⟩:=ai.out m;obtain⟨ar,az,rfl,av,al⟩:=nE af an;have aq:=(al _ a).2.1;have ag:=qZ u;clear u;generalize(c.aN[k]).iO=x at*;have ax:k<N:=oZ;have Q:(0:Int)<=(k:Int):=oZ;go_enter func201,ntmps201;go_wp2_with fail;refine(gs.out _ a).mono ?_;rintro e ab⟨rfl,i⟩;have b:=qZ (aA a i);go_wp2_with fail;rw[<-ag.out];refine(y _).mono ?_;rintro e ad⟨rfl,j⟩;have d:=qZ (aA b j);go_wp2_with fail;refine(z.out _).mono ?_;rintro e ae⟨rfl,l⟩;have f:=qZ (aA d l);go_wp2_with fail;go_ret;exact⟨rfl,f⟩
 .have u:=ah.out m;subst u;have am:(0<=n/\¬n<(N:Int))\/¬0<=n:=oZ;rcases am with⟨Q,au⟩|Q
  .go_enter func201,ntmps201;go_wp2_with fail;refine(gs.out _ a).mono ?_;rintro e ab⟨rfl,i⟩;have b:=qZ (aA a i);go_wp2_with fail;refine(y _).mono ?_;rintro e ad⟨rfl,j⟩;have d:=qZ (aA b j);go_wp2_with fail;refine(z.out _).mono ?_;rintro e ae⟨rfl,l⟩;have f:=qZ (aA d l);go_wp2_with fail;go_ret;exact⟨rfl,f⟩
  .go_enter func201,ntmps201;go_wp2_with fail;refine(gs.out _ a).mono ?_;rintro e ab⟨rfl,i⟩;have b:=qZ (aA a i);go_wp2_with fail;refine(y _).mono ?_;rintro e ad⟨rfl,j⟩;have d:=qZ (aA b j);go_wp2_with fail;refine(z.out _).mono ?_;rintro e ae⟨rfl,l⟩;have f:=qZ (aA d l);go_wp2_with fail;go_ret;exact⟨rfl,f⟩
theorem afo(p:bW w v c)(aj:c.aN.length<=1000000)(T:WOk c)(o:FSl w va h)(n:Int):fV dC w 116 #[v,va,n] (cL fe (aP c h n:Nat)):=by
 intro w1 W;replace p:=p.below W;replace o:=o.below W;have M:=qZ (abh p aj o n);have y:=qZ (rM.ard (iO c n) (CG T n).1 (CG T n).2);have L:=qZ (rM.aqO (pY c h n) (fw (iO c n)) (RI c h n) (PG _));obtain⟨D,cd,rfl,-⟩:=id o;obtain⟨v1,v2,rfl,⟨A,ca,rfl,Y,ay⟩,-⟩:=id p;obtain⟨aG,J⟩:=nZ c.aG;obtain⟨aJ,I⟩:=nZ c.aJ;obtain⟨H,F⟩:=nZ h.length;obtain⟨N,g⟩:=nZ c.aN.length;have af:=qZ Y;have O:=qY (aP c h n=gC (pY c h n) (fw (iO c n))) rfl;obtain⟨ao,K⟩:=nZ (aP c h n);obtain⟨s,hs⟩:=nZ (pY c h n);rw[J,I,F,g,hs]at M;rw[K,hs]at O;rw[hs]at L;rw[J,I,F,g,K];have aa:(0<=n/\n<(N:Int)->∃k:Nat,n=(k:Int)/\k<c.aN.length/\∃r:k<c.aN.length,iO c n=max 1 (c.aN[k]).iO):=λm=>by have r:n.toNat<c.aN.length:=oZ;refine⟨n.toNat,oZ,r,r,?_⟩;unfold iO;rw[aI oZ,aV,aH r,fb]
 have Z:¬(0<=n/\n<(N:Int))->iO c n=1:=λm=>by unfold iO;rw[aF (by rw[g];exact m)]
 generalize iO c n=wt at*;have ai:=qZ aa;have ah:=qZ Z;clear J I F Y g K hs aa Z;have ak:=gM.new w1 (cH A N ca) v2 aG aJ;have X:dT w1 w1 (w1.alloc (cC #[cH A N ca,v2,aG,aJ] 26)):=bZ;have a:=qZ X;obtain⟨a0,a5,a8,a9,ba⟩:=ak;have gs:=M;have z:=qZ (L.val (show _=cL fe (ao:Int) by rw[O.out]));clear X;by_cases m:0<=n/\n<(N:Int)
 .obtain⟨k,rfl,an,aw,u⟩:=ai.out m;obtain⟨ar,az,rfl,av,al⟩:=nE af an;have aq:=(al _ a).2.1;have ag:=qZ u;clear u;generalize(c.aN[k]).iO=x at*;have ax:k<N:=oZ;have Q:(0:Int)<=(k:Int):=oZ;go_enter func116,ntmps116;go_wp2_with fail;refine(gs.out _ a).mono ?_;rintro e ab⟨rfl,i⟩;have b:=qZ (aA a i);go_wp2_with fail;rw[<-ag.out];refine(y _).mono ?_;rintro e ad⟨rfl,j⟩;have d:=qZ (aA b j);go_wp2_with fail;refine(z.out _).mono ?_;rintro e ae⟨rfl,l⟩;have f:=qZ (aA d l);go_wp2_with fail;go_ret;exact⟨rfl,f⟩
 .have u:=ah.out m;subst u;have am:(0<=n/\¬n<(N:Int))\/¬0<=n:=oZ;rcases am with⟨Q,au⟩|Q
  .go_enter func116,ntmps116;go_wp2_with fail;refine(gs.out _ a).mono ?_;rintro e ab⟨rfl,i⟩;have b:=qZ (aA a i);go_wp2_with fail;refine(y _).mono ?_;rintro e ad⟨rfl,j⟩;have d:=qZ (aA b j);go_wp2_with fail;refine(z.out _).mono ?_;rintro e ae⟨rfl,l⟩;have f:=qZ (aA d l);go_wp2_with fail;go_ret;exact⟨rfl,f⟩
  .go_enter func116,ntmps116;go_wp2_with fail;refine(gs.out _ a).mono ?_;rintro e ab⟨rfl,i⟩;have b:=qZ (aA a i);go_wp2_with fail;refine(y _).mono ?_;rintro e ad⟨rfl,j⟩;have d:=qZ (aA b j);go_wp2_with fail;refine(z.out _).mono ?_;rintro e ae⟨rfl,l⟩;have f:=qZ (aA d l);go_wp2_with fail;go_ret;exact⟨rfl,f⟩
structure wC (W:World) (b:Nat) (v1 v2:Value) (aG aJ aQ next:Int) (vp vr vh:Value):Prop where
 lt:b<(W:Nat)
 c0:W.cell? (b,0)=some v1
 c1:W.cell? (b,1)=some v2
 c2:W.cell? (b,2)=some (.int .i64 aG)
 c3:W.cell? (b,3)=some (.int .i64 aJ)
 c4:W.cell? (b,4)=some (.int .i64 aQ)
 c5:W.cell? (b,5)=some (.int .i64 next)
 c6:W.cell? (b,6)=some vp
 c7:W.cell? (b,7)=some vr
 c8:W.cell? (b,8)=some vh
theorem wC.below{b:Nat}{aG aQ next:Int}{c:cR}(h:wC W b v1 v2 aG aJ aQ next vp vr c)(a:dT W W W'):wC W' b v1 v2 aG aJ aQ next vp vr c:=
 ⟨aM h.lt a.size,(a.cell (p:=⟨b,0,eu⟩) h.lt).trans h.c0,(a.cell (p:=⟨b,1,eu⟩) h.lt).trans h.c1,(a.cell (p:=⟨b,2,eu⟩) h.lt).trans h.c2,(a.cell (p:=⟨b,3,eu⟩) h.lt).trans h.c3,(a.cell (p:=⟨b,4,eu⟩) h.lt).trans h.c4,(a.cell (p:=⟨b,5,eu⟩) h.lt).trans h.c5,(a.cell (p:=⟨b,6,eu⟩) h.lt).trans h.c6,(a.cell (p:=⟨b,7,eu⟩) h.lt).trans h.c7,(a.cell (p:=⟨b,8,eu⟩) h.lt).trans h.c8⟩
theorem wC.new(w:cA)(t:TypeId)(v1 v2:cR)(aG aJ aQ next:Int)(vp vr a:cR):wC (w.alloc (cC #[v1,v2,aG,aJ,aQ,next,vp,vr,a] t)) (w:Nat) v1 v2 aG aJ aQ next vp vr a:=by refine⟨sZ,?_,?_,?_,?_,?_,?_,?_,?_,?_⟩<;>simp[go_sem]
structure zQ (w:World) (v1 v2:Value) (vh:Value) (c:Cfg.C) (h:List Nat):Prop where
 cfg:bW w (.agg #[v1,v2,c.aG,c.aJ]) c
 len:c.aN.length<=1000000
 wok:WOk c
 hist:FSl w vh h
theorem zQ.below{b:cR}(s:zQ w v1 v2 b c h)(a:dT w w w'):zQ w' v1 v2 b c h:=⟨s.cfg.below a,s.len,s.wok,s.hist.below a⟩
theorem aiG{s:cR}{aQ next:Int}(hs:zQ w v1 v2 s c h)(d:wC w n v1 v2 c.aG c.aJ aQ next vp vr s)(a b:Nat):fV dC w 136 #[.pointer n,(a:Int),(b:Int)] (cL cU (aN c h a b)):=by
 intro w1 o;replace hs:=hs.below o;replace d:=d.below o;have f:=(YN hs.cfg hs.len hs.wok hs.hist (a:Int)).up (zZ _);have g:=(YN hs.cfg hs.len hs.wok hs.hist (b:Int)).up (zZ _);have m:aN c h a b=eK (cI (aP c h (a:Int)) (aP c h (b:Int))) (cI a b):=rfl;obtain⟨x,j⟩:=nQ (aP c h (a:Int));obtain⟨y,l⟩:=nQ (aP c h (b:Int));obtain⟨r,i⟩:=nQ (aN c h a b);rw[j.out,l.out,i.out]at m;rw[j.out]at f;rw[l.out]at g;rw[i.out];have K:eP dC 200 #[cL fe x,cL fe y] (cL cU (cI x y)):=.of_eq λw=>adR x y w;have L:eP dC 134 #[a,b] (cL cU (cI a b)):=.of_eq λw=>uP a b w;generalize cI x y=p at*;generalize cI a b=q at*;obtain⟨aG,J⟩:=nQ c.aG;obtain⟨aJ,I⟩:=nQ c.aJ;obtain⟨D,cd,rfl,-⟩:=id hs.hist;generalize h.length=H at*;rw[J.out,I.out]at f g d;have T:=λW' (k:aD w1 W')=>k.cell d.lt d.c0;have X:=λW' (k:aD w1 W')=>k.cell d.lt d.c1;have Y:=λW' (k:aD w1 W')=>k.cell d.lt d.c2;have Z:=λW' (k:aD w1 W')=>k.cell d.lt d.c3;have aa:=λW' (k:aD w1 W')=>k.cell d.lt d.c8;have z:=qZ m;go_enter func136,ntmps136;go_wp2_with fail;refine jN 28 kZ kZ ?_;simp only[List.take_succ_cons,fL,aZ,bB];(repeat refine kY ?_);refine kJ f ?_;(repeat refine kY ?_);refine kJ g ?_;refine kJ K ?_;(repeat refine kY ?_);refine kJ L ?_;refine dP ?_;intro W O;have F:=qZ O;have M:(W.alloc (cC #[p,q] 3)).cell? (W,0)=cN (cL cU p):=by simp[go_sem]
 have N:(W.alloc (cC #[p,q] 3)).cell? (W,1)=cN (cL cU q):=by simp[go_sem]
 have u:=qZ (SA (w:=W.alloc (cC #[p,q] 3)) (b:=(W:Nat)) sZ p q M N);have v:=qZ ((aK (W:Nat) W).alloc lZ (cC #[p,q] 3));go_wp2_with fail;refine u.mono ?_;rintro e ab⟨rfl,Q⟩;have A:=qZ (aA F (aA v Q));go_wp2_with fail;go_ret;exact⟨by rw[z.out];rfl,A⟩
open Go.WideShapes
def POk(p:fX):Prop:=InI p.since/\InI p.seq
def PSl(w:cA)(v:cR)(ps:List fX):Prop:=∃A cap,v=cH A ps.length cap/\ps.length<=cap/\cap<=gj/\gF w A 11 (λp=>(eF p).toList) ps/\∀p∈ps,POk p
section
variable {H:Type} {enc:TypeId×cR->H} {w:cA} {base:Nat} {kE:Nat->Bool} {held:Bool}
end
end eO
namespace L
open Go.RowKit
section
variable {P:cW} {ops:Array cT} {md:cY} {Q:eL->Act->cA->Prop} {S:cA->Prop}
def qP(v:cR)(W:cA):Result Next->Prop
 |.ok (.value u) W'=>u=v/\W'=W
 |_=>False
theorem RB(v u:cR)(W W':cA):qP v W (.ok (.value u) W')=(u=v/\W'=W):=rfl
def GZ(md:cY)(ops:Array cT):List (Nat×Bool)->Array Bool->Bool
 |[],listed=>(cF md ops listed).isEmpty
 |(i,ac)::r,listed=>(cF md ops listed).contains i&&(fx md ops listed i&&GZ md ops r (listed.setIfInBounds i ac))
 |(i,cG)::r,listed=>(cF md ops listed==[i])&&GZ md ops r (listed.setIfInBounds i ac)
def QT(P:cW)(ops:Array cT)(Q:eL->Act->cA->Prop)(S:cA->Prop):List (Nat×Bool)->Act->cA->Prop
 |[],a,w=>Q .normal a w
 |(i,ac)::r,a,w=>∃o v,ops[i]? =cN o/\ft P ops S o v a/\QT P ops Q S r (a.put o.dst v) w
 |(i,cG)::r,a,w=>ez P ops (er Q) i (λa' w'=>S w'/\QT P ops Q S r a' w') a w
structure FQ (P:Program) (ops:Array Oper) (Q:Exit->Act->World->Prop) (S:World->Prop) (pl:List (Nat×Bool)) (a:Act) (w:World):Prop where
 out:QT P ops Q S pl a w
theorem abv{a:Act}{w:cA}(h:Q .normal a w):FQ P ops Q S [] a w:=⟨h⟩
theorem CW{i:Nat}{r:List (Nat×Bool)}{o:cT}{v:cR}{a a':Act}{w:cA}(hi:ops[i]? =cN o)(f:cJ o (et ops a.tmps)=ac)(h:∀W,S W->qP v W ((eC a.eval o).run P W))(c:a.put o.dst v=a')(d:FQ P ops Q S r a' w):FQ P ops Q S ((i,ac)::r) a w:=by
 subst c;refine⟨⟨o,v,hi,.inl ⟨f,λW b=>?_⟩,d.out⟩⟩;have:=h W b;unfold qP at this;split at this
 .rename_i e;obtain⟨rfl,rfl⟩:=this;exact e
 .exact this.elim
theorem CX{i:Nat}{r:List (Nat×Bool)}{o:cT}{a:Act}{w w1:cA}{f:gl}{args:Array cR}(hi:ops[i]? =cN o)(j:cJ o (et ops a.tmps)=ac)(h:(eC a.eval o).run P w=.ok (.enter f args) w1)(c:ey P f args w1 λe w'=>∃v,e=cX v/\S w'/\FQ P ops Q S r (a.put o.dst v) w'):FQ P ops Q S ((i,cG)::r) a w:=by constructor;show ez P ops (er Q) i _ a w;unfold ez;simp only[hi,j,if_true,fl,h,eN];refine .inl (Calls.mono c λe w' d=>?_);obtain⟨v,rfl,b,g⟩:=d;exact⟨b,g.out⟩
theorem KQ(hs:cS ops=ac):∀(e:List (Nat×Bool)) (listed:Array Bool) (a:Act) (w:cA),GZ md ops e listed=ac->S w->QT P ops Q S e a w->wpAnyH P md ops (er Q) S e.length listed a w
 |[],listed,a,w,b,c,h=>wpAnyH_done (by simpa[GZ]using b) (eW h) 0
 |(i,ac)::r,listed,a,w,b,c,h=>by simp only[GZ,cD]at b;obtain⟨o,v,hi,k,g⟩:=h;exact wpAnyH_take hi hs b.2.1 b.1 (λ_ _ _ h=>h) k c (KQ hs r _ _ _ b.2.2 c g)
 |(i,cG)::r,listed,a,w,b,c,h=>by simp only[GZ,cD,beq_iff_eq]at b;refine wpAnyH_all b.1 sZ (λj f=>?_);simp only[fu]at f;subst f;exact cV (λa' w' d=>⟨d.1,KQ hs r _ _ _ b.2 d.1 d.2⟩) h
end
theorem NM{P:cW}{id:Nat}{Q:eL->Act->cA->Prop}{a:Act}{w:cA}{l:List cT}(b:List (Nat×Bool))(e:P.follows .mixedOrders=ac)(c:(cS l.toArray&&(GZ .any l.toArray b (cM l.length cG)&&b.length==l.length))=ac)(h:FQ P l.toArray Q (aD w) b a w.drew):(e0 id l.toArray ac).wp P Q a w:=by simp only[cD,beq_iff_eq]at c;obtain⟨hs,f,d⟩:=c;refine eE (wp_region_held (S:=aD w) e ?_);have:=KQ (Q:=Q) (P:=P) (S:=aD w) hs b (cM l.length cG) a w.drew f (ew w) h.out;rw[d]at this;simpa using this
attribute [go_sem] RB
end L
variable{p:fX}
namespace eO
open Go.RowKit L bO
theorem ahT{bt:cR}{aQ next:Int}(hs:zQ w v1 v2 bt c h)(a b:Int):fV dC w 56 #[fz #[v1,v2,c.aG,c.aJ,aQ,next,vp,vr,bt],a,b] (cL cU (eI c h a b)):=by
 intro w1 cg;replace hs:=hs.below cg;have ad:=qZ (λt W d=>CQ hs.cfg hs.len t W d);have ab:=qZ (λn=>afo hs.cfg hs.len hs.wok hs.hist n);have bp:∀t:Int,(cP c t).length<=1000000:=λt=>by have:=uZ c t;have:=hs.len;unfold cP;rw[fm];omega
 have b3:=qZ (aC (bp a) (bp b));have a8:=qY (eI c h a b=Ord.lex (aN c h) (cP c a) (cP c b)) rfl;have b1:=qZ (λx y:Nat=>show aN c h x y=eK (cI (aP c h (x:Int)) (aP c h (y:Int))) (cI x y)from rfl);obtain⟨aG,bo⟩:=nZ c.aG;obtain⟨aJ,bi⟩:=nZ c.aJ;obtain⟨D,cd,rfl,-⟩:=id hs.hist;generalize h.length=H at*;rw[bo,bi]at ad ab⊢;obtain⟨r,g⟩:=nZ (eI c h a b);rw[g]at a8⊢;have bz:=qZ (λW d=>ad a W d);have b0:=qZ (λW d=>ad b W d);generalize cP c a=PA at*;generalize cP c b=PB at*;clear bo bi g;have ax:=wC.new w1 31 v1 v2 aG aJ aQ next vp vr (cH D H cd)
 have K:dT w1 w1 (w1.alloc (cC #[v1,v2,aG,aJ,aQ,next,vp,vr,cH D H cd] 31)):=bZ;go_enter func56,ntmps56;have b5:=qZ (aC ax K);clear K;go_wp2_with fail;generalize w1.alloc (cC #[v1,v2,aG,aJ,aQ,next,vp,vr,cH D H cd] 31)=wq at*;obtain⟨ax,K⟩:=b5.out;obtain⟨x0,cr,cs,ct,cu,dd,de,df,dg,cv⟩:=ax;have s:=qZ K;clear K;have b8:∀W,aD wq W->ey dC 68 #[fz #[v1,v2,aG,aJ],a] W λe w'=>qU PA W e w':=λW d=>bz W (aA s d);have b9:∀W,aD wq W->ey dC 68 #[fz #[v1,v2,aG,aJ],b] W λe w'=>qU PB W e w':=λW d=>b0 W (aA s d);have ah:=λW' (k:aD wq W')=>k.cell x0 cr;have ai:=λW' (k:aD wq W')=>k.cell x0 cs;have aj:=λW' (k:aD wq W')=>k.cell x0 ct;have ak:=λW' (k:aD wq W')=>k.cell x0 cu;have al:=λW' (k:aD wq W')=>k.cell x0 cv;refine NM [(0,ac),(1,ac),(2,ac),(4,ac),(5,ac),(6,ac),(3,cG),(7,cG),(8,ac),(9,ac)] kZ kZ ?_;(repeat apply CW;rfl;rfl;(focus(intro W d;go_simp;first|done|exact⟨rfl,rfl⟩|rfl));(focus(go_simp;first|done|rfl)));apply CX;rfl;rfl;(focus(go_simp;first|done|exact⟨⟨rfl,rfl⟩,rfl⟩|rfl));refine(b8 _ (ew _)).mono ?_;rintro e dc⟨bs,rfl,ca,X⟩;refine⟨bs,rfl,aA (ew wq) X,?_⟩;apply CX;rfl;rfl;(focus(go_simp;first|done|exact⟨⟨rfl,rfl⟩,rfl⟩|rfl));refine(b9 _ (aA (ew wq) X)).mono ?_;rintro e aa⟨cp,rfl,cc,ay⟩;refine⟨cp,rfl,aA (aA (ew wq) X) ay,?_⟩;(repeat apply CW;rfl;rfl;(focus(intro W d;go_simp;first|done|exact⟨rfl,rfl⟩|rfl));(focus(go_simp;first|done|rfl)));refine abv ?_;have bq:aD wq aa:=aA (aA (ew wq) X) ay;have F:=qZ bq;have cb:mI aa wq.drew.heap.size bs PA:=fE.below ca ay;obtain⟨cw,c1,rfl,bj⟩:=mV cb;obtain⟨cx,c2,rfl,bk⟩:=mV cc;have bu:=qZ bj;have bv:=qZ bk;obtain⟨j,au⟩:=nZ PA.length;obtain⟨l,av⟩:=nZ PB.length;have ae:=qZ au;have Q:=qZ av;obtain⟨cm,cn⟩:=b3.out;have b2:=qZ (aC ah (aC ai (aC aj (aC ak al))));rw[au]at cm⊢;rw[av]at cn⊢;clear bj bk au av bq;go_wp2_with fail;go_loopw [9] (λi wr=>∃k:Nat,i=cL cU (k:Int)/\k<=j/\k<=l/\Hid (r=Ord.lex (aN c h) (PA.drop k) (PB.drop k))/\dT aa aa wr) (λi _=>j-(intOf i).toNat);exact⟨0,rfl,oZ,oZ,qZ (by simpa using a8.out),aK _ _⟩
 obtain⟨k,rfl,cz,c0,az,m⟩:=hrel;have u:=qZ m;by_cases I:k<j
 .by_cases J:k<l
  .have Y:k<PA.length:=by rw[ae.out];exact I
   have Z:k<PB.length:=by rw[Q.out];exact J
   obtain⟨x,a0⟩:=nZ (PA[k]);obtain⟨y,a5⟩:=nZ (PB[k]);have ck:PA.drop k=x::PA.drop (k+1):=by rw[<-a0];exact cZ Y
   have cl:PB.drop k=y::PB.drop (k+1):=by rw[<-a5];exact cZ Z
   have o:=az.out;rw[ck,cl,Ord.lex]at o;obtain⟨b6,rfl,-,bm,ch⟩:=bu.out k x (by rw[aH Y,a0]);obtain⟨b7,rfl,-,bn,ci⟩:=bv.out k y (by rw[aH Z,a5]);have am:=λW (d:aD wr W)=>d.cell (aM bm m.size) ((m.cell (p:=⟨b6,k,eu⟩) bm).trans ch);have an:=λW (d:aD wr W)=>d.cell (aM bn m.size) ((m.cell (p:=⟨b7,k,eu⟩) bn).trans ci);have bl:decide ((k:Int)<(j:Int))=ac:=by simpa using I
   have cj:decide ((k:Int)<(l:Int))=ac:=by simpa using J
   have af:=qZ (aC am an);clear a0 a5 m;go_wp2_with fail;obtain⟨am,an⟩:=af.out;refine kK ?_;(repeat refine kY ?_);refine dP ?_;intro W d;have T:=qZ d;have ao:=λW' (f:aD W W')=>am W' (aA d f);have ap:=λW' (f:aD W W')=>an W' (aA d f);clear d;by_cases br:x=y
   .subst br;rw[aI rfl]at o;have A:=qZ o;have co:((x:Int)==(x:Int))=ac:=sZ;clear o;go_wp2_with fail;go_roundw;exact⟨k+1,mZ,oZ,oZ,A,aA u T⟩;simp[intOf];omega
   .rw[aF br,b1.out]at o;have co:((x:Int)==(y:Int))=cG:=by simp;omega
    have bh:dT w1 w1 W:=aA (aA (aA s F) u) T;have aq:=(ab (x:Int)).up bh;have ar:=(ab (y:Int)).up bh;have v:eP dC 57 #[(x:Int),(y:Int)] (cL cU (cI x y)):=.of_eq λw=>tK x y w;generalize aP c h (x:Int)=N at*;generalize aP c h (y:Int)=O at*;have A:=qZ o;have M:=aA (aA F u) T;obtain⟨ah,ai,aj,ak,al⟩:=b2.out;have a9:=λW' (f:aD W W')=>ah W' (aA M f);have ba:=λW' (f:aD W W')=>ai W' (aA M f);have bb:=λW' (f:aD W W')=>aj W' (aA M f);have bc:=λW' (f:aD W W')=>ak W' (aA M f);have bd:=λW' (f:aD W W')=>al W' (aA M f);have z:=qZ v;have af:=qZ (aC aq (aC ar (aC a9 (aC ba (aC bb (aC bc (aC bd (aC ao ap))))))));clear o v;go_wp2_with fail;obtain⟨aq,ar,a9,ba,bb,bc,bd,ao,ap⟩:=af.out;refine kK ?_;(repeat refine kY ?_);refine kJ aq ?_;(repeat refine kY ?_);refine kJ ar ?_;(repeat refine kY ?_);refine dP ?_;intro bg aw;have be:=λW' (f:aD bg W')=>ao W' (aA aw f);have bf:=λW' (f:aD bg W')=>ap W' (aA aw f);have ag:=qZ (aA (aA (aA (aA s F) u) T) aw);have b4:=qZ (aC be bf);by_cases da:N<O
    .have e1:cI (N:Int) (O:Int)= -1:=by unfold cI;rw[aI oZ]
     have g:r= -1:=by rw[A.out,e1];rfl
     subst g;go_wp2_with fail;go_ret;exact⟨rfl,ag⟩
    .by_cases db:O<N
     .have e1:cI (N:Int) (O:Int)=1:=by unfold cI;rw[aF oZ,aI oZ]
      have g:r=1:=by rw[A.out,e1];rfl
      subst g;go_wp2_with fail;go_ret;exact⟨rfl,ag⟩
     .have e1:cI (N:Int) (O:Int)=0:=by unfold cI;rw[aF oZ,aF oZ]
      have g:cI x y=r:=by rw[A.out,e1];rfl
      have v:=z.out;rw[g]at v;go_wp2_with fail;obtain⟨be,bf⟩:=b4.out;refine kK ?_;(repeat refine kY ?_);refine kJ v ?_;(repeat refine kY ?_);refine dP ?_;intro cy ce;have bw:=qZ (aA ag ce);clear v;go_wp2_with fail;go_ret;exact⟨rfl,bw⟩
  .have g:cI (j:Int) (l:Int)=r:=by
    rw[az.out,show PB.drop k=[]from iH (by rw[Q.out];omega)];have Y:k<PA.length:=by rw[ae.out];exact I
    rw[cZ Y];unfold cI;rw[aF oZ,aI oZ];rfl
   have z:Hid (∀w,ey dC 57 #[(j:Int),(l:Int)] w λe w'=>e=cX r/\w=w'):=qZ (λw=>by rw[<-g];exact tK j l w);have bl:decide ((k:Int)<(j:Int))=ac:=by simpa using I
   have cj:decide ((k:Int)<(l:Int))=cG:=by simpa using J
   clear g m;go_wp2_with fail;refine(z _).mono ?_;rintro e cq⟨rfl,rfl⟩;go_wp2_with fail;go_ret;exact⟨rfl,aA (aA s F) u⟩
 .have g:cI (j:Int) (l:Int)=r:=by
   rw[az.out,show PA.drop k=[]from iH (by rw[ae.out];omega)];unfold cI;by_cases J:k<l
   .have Z:k<PB.length:=by rw[Q.out];exact J
    rw[cZ Z,aI oZ];rfl
   .rw[show PB.drop k=[]from iH (by rw[Q.out];omega),aF oZ,aF oZ];rfl
  have z:Hid (∀w,ey dC 57 #[(j:Int),(l:Int)] w λe w'=>e=cX r/\w=w'):=qZ (λw=>by rw[<-g];exact tK j l w);have bl:decide ((k:Int)<(j:Int))=cG:=by simpa using I
  clear g m;go_wp2_with fail;refine(z _).mono ?_;rintro e cq⟨rfl,rfl⟩;go_wp2_with fail;go_ret;exact⟨rfl,aA (aA s F) u⟩
def QK(W:cA)(b:Nat)(p:fX):Prop:=Blk W b 44 (eF p)
theorem QK.cells{b:Nat}(h:QK W b p):∀W',aD W W'->W'.cell? (b,0)=cN (cL cU p.id)/\W'.cell? (b,1)=cN (cL cU p.dI)/\W'.cell? (b,2)=cN (cL cU p.fG)/\W'.cell? (b,3)=cN (cL cU p.need.x)/\W'.cell? (b,4)=cN (cL cU p.need.y)/\W'.cell? (b,5)=cN (cL cU p.need.z)/\W'.cell? (b,6)=cN (cL cU p.run)/\W'.cell? (b,7)=cN (cL cU p.aP)/\W'.cell? (b,8)=cN (cL cU p.prefer)/\W'.cell? (b,9)=cN (cL cU p.seq)/\W'.cell? (b,10)=cN (cL cU p.since):=λW' k=>by have a:QK W' b p:=Blk.below h k (gm h);exact⟨dE a 0,dE a 1,dE a 2,dE a 3,dE a 4,dE a 5,dE a 6,dE a 7,dE a 8,dE a 9,dE a 10⟩
structure MP (c:Cfg.C) (aQ:Int):Prop where
 aJ:InI c.aJ
 aQ:InI aQ
theorem alh{ag:cR}{aQ next:Int}(hs:zQ w v1 v2 ag c h)(u:MP c aQ)(a b:fX)(a5:InI a.since)(a8:InI b.since):fV dC w 21 #[fz #[v1,v2,c.aG,c.aJ,aQ,next,vp,vr,ag],fz (eF a),fz (eF b)] (cL cU (fo c h aQ a b)):=by
 intro w1 a9;replace hs:=hs.below a9;have ab:=qZ (ahT (vp:=vp) (vr:=vr) (aQ:=aQ) (next:=next) hs a.dI b.dI);have I:=qZ (aC (abl v1 v2 c.aG c.aJ aQ a u.aJ u.aQ a5) (abl v1 v2 c.aG c.aJ aQ b u.aJ u.aQ a8));have n:=qY (fo c h aQ a b=if nS c aQ a=ac/\nS c aQ b=cG then-1 else if nS c aQ b=ac/\nS c aQ a=cG then 1 else if nS c aQ a=ac then cI a.seq b.seq else eK (eI c h a.dI b.dI) (cI a.seq b.seq)) rfl;have ae:=qZ (aC (show nS c aQ a=ga c.aJ aQ a.since from rfl) (show nS c aQ b=ga c.aJ aQ b.since from rfl));rw[<-ae.out.1,<-ae.out.2]at I;obtain⟨r,i⟩:=nZ (fo c h aQ a b);rw[i]at n⊢;generalize nS c aQ a=x at*;generalize nS c aQ b=y at*;generalize eI c h a.dI b.dI=t at*;obtain⟨aG,al⟩:=nQ c.aG;obtain⟨aJ,ak⟩:=nQ c.aJ;obtain⟨D,cd,rfl,-⟩:=id hs.hist;generalize h.length=H at*;rw[al.out,ak.out]at ab I⊢;clear i;have bb:=wC.new w1 31 v1 v2 aG aJ aQ next vp vr (cH D H cd)
 have ba:dT (w1.alloc (cC #[v1,v2,aG,aJ,aQ,next,vp,vr,cH D H cd] 31)).heap.size (w1.alloc (cC #[v1,v2,aG,aJ,aQ,next,vp,vr,cH D H cd] 31)) (((w1.alloc (cC #[v1,v2,aG,aJ,aQ,next,vp,vr,cH D H cd] 31)).alloc (cC (eF a) 44)).alloc (cC (eF b) 44)):=(bZ).alloc sZ _;have d:wC (((w1.alloc (cC #[v1,v2,aG,aJ,aQ,next,vp,vr,cH D H cd] 31)).alloc (cC (eF a) 44)).alloc (cC (eF b) 44)) (w1:Nat) v1 v2 aG aJ aQ next vp vr (cH D H cd):=bb.below ba
 have Y:dT w1 w1 (((w1.alloc (cC #[v1,v2,aG,aJ,aQ,next,vp,vr,cH D H cd] 31)).alloc (cC (eF a) 44)).alloc (cC (eF b) 44)):=by have bl:(w1.alloc (cC #[v1,v2,aG,aJ,aQ,next,vp,vr,cH D H cd] 31)).heap.size=(w1:Nat)+1:=sZ;exact kp
 have Z:QK (((w1.alloc (cC #[v1,v2,aG,aJ,aQ,next,vp,vr,cH D H cd] 31)).alloc (cC (eF a) 44)).alloc (cC (eF b) 44)) ((w1:Nat)+1) a:=by have h:=Blk.new (w1.alloc (cC #[v1,v2,aG,aJ,aQ,next,vp,vr,cH D H cd] 31)) 44 (eF a);simp only[aT]at h;exact gx h _
 have v:QK (((w1.alloc (cC #[v1,v2,aG,aJ,aQ,next,vp,vr,cH D H cd] 31)).alloc (cC (eF a) 44)).alloc (cC (eF b) 44)) ((w1:Nat)+1+1) b:=by have h:=Blk.new ((w1.alloc (cC #[v1,v2,aG,aJ,aQ,next,vp,vr,cH D H cd] 31)).alloc (cC (eF a) 44)) 44 (eF b);simp only[aT]at h;exact h
 have aj:=qZ (aC d (aC Y (aC Z v)));obtain⟨a0,a1,a2,⟨a3,a4,an⟩,a6,a7,ao,j,am⟩:=a;obtain⟨ap,b1,b2,⟨b3,ar,au⟩,av,aw,ax,l,aq⟩:=b;simp only[eF]at*;go_enter func21,ntmps21;go_wp2_with fail;generalize((w1.alloc (cC #[v1,v2,aG,aJ,aQ,next,vp,vr,cH D H cd] 31)).alloc (cC #[a0,a1,a2,a3,a4,an,a6,a7,ao,j,am] 44)).alloc (cC #[ap,b1,b2,b3,ar,au,av,aw,ax,l,aq] 44)=g at*;obtain⟨d,Y,Z,v⟩:=aj.out;have ah:=qZ Y;have bi:(w1:Nat)+1+1<(g:Nat):=gm v;have J:=λW' (k:aD g W')=>k.cell d.lt d.c0;have K:=λW' (k:aD g W')=>k.cell d.lt d.c1;have L:=λW' (k:aD g W')=>k.cell d.lt d.c2;have M:=λW' (k:aD g W')=>k.cell d.lt d.c3;have N:=λW' (k:aD g W')=>k.cell d.lt d.c4;have O:=λW' (k:aD g W')=>k.cell d.lt d.c5;have Q:=λW' (k:aD g W')=>k.cell d.lt d.c6;have T:=λW' (k:aD g W')=>k.cell d.lt d.c7;have X:=λW' (k:aD g W')=>k.cell d.lt d.c8;have A:=λW' (k:aD g W')=>Z.cells W' k;have B:=λW' (k:aD g W')=>v.cells W' k
 dsimp only at A B
 obtain⟨ay,az⟩:=I.out;have ai:=qZ (aC J (aC K (aC L (aC M (aC N (aC O (aC Q (aC T (aC X (aC A B))))))))));refine kK ?_;(repeat refine kY ?_);refine kJ ay ?_;(repeat refine kY ?_);refine kJ az ?_;(repeat refine kY ?_);refine dP ?_;intro W f;have ad:=qZ f;obtain⟨J,K,L,M,N,O,Q,T,X,A,B⟩:=ai.out;have bn:=J W f;have s1:=K W f;have s2:=L W f;have s3:=M W f;have s4:=N W f;have bo:=O W f;have s6:=Q W f;have s7:=T W f;have bp:=X W f;obtain⟨-,bm,-,-,-,-,-,-,-,be,-⟩:=A W f;obtain⟨-,p1,-,-,-,-,-,-,-,bd,-⟩:=B W f;have m:=qZ (aA ah ad);have bc:(w1:Nat)+1+1<(W:Nat):=by have:=ad.size;omega
 cases x
 .cases y
  .have i:r=eK t (cI j l):=by rw[n.out];simp
   have af:=qZ (ab W m);by_cases aa:t=0
   .have s:cI j l=r:=by rw[i,eK,aF oZ]
    have z:Hid (∀w,ey dC 57 #[j,l] w λe w'=>e=cX r/\w=w'):=qZ (λw=>by rw[<-s];exact tK j l w);have bf:(t !=0)=cG:=by simp[aa]
    clear i;go_wp2_with fail;refine af.out.mono ?_;rintro e bg⟨rfl,o⟩;have bk:=(o.cell (p:=⟨(w1:Nat)+1,9,eu⟩) (by show(w1:Nat)+1<(W:Nat);omega)).trans be;have bj:=(o.cell (p:=⟨(w1:Nat)+1+1,9,eu⟩) bc).trans bd;have F:=qZ (aA m o);go_wp2_with fail;refine(z _).mono ?_;rintro e bh⟨rfl,rfl⟩;go_wp2_with fail;go_ret;exact⟨rfl,F⟩
   .have s:r=t:=by rw[i,eK,aI aa]
    have bf:(t !=0)=ac:=by simp[aa]
    subst s;go_wp2_with fail;refine af.out.mono ?_;rintro e bg⟨rfl,o⟩;have F:=qZ (aA m o);clear i;go_wp2_with fail;go_ret;exact⟨rfl,F⟩
  .have i:r=1:=by rw[n.out];simp
   subst i;go_wp2_with fail;go_ret;exact⟨rfl,m⟩
 .cases y
  .have i:r= -1:=by rw[n.out];simp
   subst i;go_wp2_with fail;go_ret;exact⟨rfl,m⟩
  .have s:cI j l=r:=by rw[n.out];simp
   have z:Hid (∀w,ey dC 57 #[j,l] w λe w'=>e=cX r/\w=w'):=qZ (λw=>by rw[<-s];exact tK j l w);go_wp2_with fail;refine(z _).mono ?_;rintro e bh⟨rfl,rfl⟩;go_wp2_with fail;go_ret;exact⟨rfl,m⟩
end eO
namespace L
open Go.RowKit
inductive PT where
 |done
 |take (i:Nat) (r:PT)
 |one (i:Nat) (r:PT)
 |two (i j:Nat) (r s:PT)
section
variable {P:cW} {ops:Array cT} {md:cY} {Q:eL->Act->cA->Prop} {S:cA->Prop}
def ptB(md:cY)(ops:Array cT):PT->Array Bool->Bool
 |.done,listed=>(cF md ops listed).isEmpty
 |.take i r,listed=>(cF md ops listed).contains i&&(fx md ops listed i&&ptB md ops r (listed.setIfInBounds i ac))
 |.one i r,listed=>(cF md ops listed==[i])&&ptB md ops r (listed.setIfInBounds i ac)
 |.two i j r s,listed=>(cF md ops listed==[i,j])&&(ptB md ops r (listed.setIfInBounds i ac)&&ptB md ops s (listed.setIfInBounds j ac))
def ptF:PT->Nat->Bool
 |.done,_=>ac
 |.take _ r,n+1=>ptF r n
 |.one _ r,n+1=>ptF r n
 |.two _ _ r s,n+1=>ptF r n&&ptF s n
 |_,0=>cG
def JQ(P:cW)(ops:Array cT)(Q:eL->Act->cA->Prop)(S:cA->Prop):PT->Act->cA->Prop
 |.done,a,w=>Q .normal a w
 |.take i r,a,w=>∃o v,ops[i]? =cN o/\ft P ops S o v a/\JQ P ops Q S r (a.put o.dst v) w
 |.one i r,a,w=>ez P ops (er Q) i (λa' w'=>S w'/\JQ P ops Q S r a' w') a w
 |.two i j r s,a,w=>ez P ops (er Q) i (λa' w'=>S w'/\JQ P ops Q S r a' w') a w/\ez P ops (er Q) j (λa' w'=>S w'/\JQ P ops Q S s a' w') a w
structure rQ (P:Program) (ops:Array Oper) (Q:Exit->Act->World->Prop) (S:World->Prop) (pl:PT) (a:Act) (w:World):Prop where
 out:JQ P ops Q S pl a w
theorem fA{a:Act}{w:cA}(h:Q .normal a w):rQ P ops Q S .done a w:=⟨h⟩
theorem aee{i:Nat}{r:PT}{o:cT}{v:cR}{a a':Act}{w:cA}(hi:ops[i]? =cN o)(f:cJ o (et ops a.tmps)=ac)(h:∀W,S W->qP v W ((eC a.eval o).run P W))(c:a.put o.dst v=a')(d:rQ P ops Q S r a' w):rQ P ops Q S (.take i r) a w:=by
 subst c;refine⟨⟨o,v,hi,.inl ⟨f,λW b=>?_⟩,d.out⟩⟩;have:=h W b;unfold qP at this;split at this
 .rename_i e;obtain⟨rfl,rfl⟩:=this;exact e
 .exact this.elim
theorem mM{i:Nat}{r:PT}{o:cT}{v:cR}{a a':Act}{w:cA}(hi:ops[i]? =cN o)(e:cJ o (et ops a.tmps)=ac)(h:∀W,S W->(eC a.eval o).run P W=.ok (.value v) W)(c:a.put o.dst v=a')(d:rQ P ops Q S r a' w):rQ P ops Q S (.take i r) a w:=
 aee hi e (λW b=>by rw[h W b];exact⟨rfl,rfl⟩) c d
theorem anQ{i:Nat}{r:PT}{o:cT}{a a':Act}{w:cA}(hi:ops[i]? =cN o)(d:cJ o (et ops a.tmps)=cG)(b:a.put o.dst gy=a')(c:rQ P ops Q S r a' w):rQ P ops Q S (.take i r) a w:=by subst b;exact⟨⟨o,gy,hi,.inr ⟨d,rfl⟩,c.out⟩⟩
structure JC (P:Program) (ops:Array Oper) (Q:Exit->Act->World->Prop) (S:World->Prop) (i:Nat) (r:PT) (a:Act) (w:World):Prop where
 out:wpOp P ops (NoPanic Q) i (λa' w'=>S w'/\JQ P ops Q S r a' w') a w
theorem dQ{i:Nat}{r:PT}{a:Act}{w:cA}(h:JC P ops Q S i r a w):rQ P ops Q S (.one i r) a w:=⟨h.out⟩
theorem wH{i j:Nat}{r s:PT}{a:Act}{w:cA}(h:JC P ops Q S i r a w)(k:JC P ops Q S j s a w):rQ P ops Q S (.two i j r s) a w:=⟨⟨h.out,k.out⟩⟩
theorem kD{i:Nat}{r:PT}{o:cT}{a a':Act}{w w1:cA}{v:cR}(hi:ops[i]? =cN o)(e:cJ o (et ops a.tmps)=ac)(h:(eC a.eval o).run P w=.ok (.value v) w1)(b:S w1)(c:a.put o.dst v=a')(d:rQ P ops Q S r a' w1):JC P ops Q S i r a w:=by subst c;constructor;unfold ez;simp only[hi,e,if_true,fl,h,eN];exact .inl ⟨b,d.out⟩
theorem anR{i:Nat}{r:PT}{o:cT}{a:Act}{w w1:cA}{f:gl}{args:Array cR}(hi:ops[i]? =cN o)(j:cJ o (et ops a.tmps)=ac)(h:(eC a.eval o).run P w=.ok (.enter f args) w1)(c:ey P f args w1 λe w'=>∃v,e=cX v/\S w'/\rQ P ops Q S r (a.put o.dst v) w'):JC P ops Q S i r a w:=by constructor;unfold ez;simp only[hi,j,if_true,fl,h,eN];refine .inl (Calls.mono c λe w' d=>?_);obtain⟨v,rfl,b,g⟩:=d;exact⟨b,g.out⟩
theorem AV(hs:cS ops=ac):∀(f:PT) (n:Nat) (listed:Array Bool) (a:Act) (w:cA),ptB md ops f listed=ac->ptF f n=ac->S w->JQ P ops Q S f a w->wpAnyH P md ops (er Q) S n listed a w
 |.done,n,listed,a,w,b,hF,d,h=>wpAnyH_done (by simpa[ptB]using b) (eW h) n
 |.take i r,0,listed,a,w,b,hF,d,h=>by cases hF
 |.take i r,n+1,listed,a,w,b,hF,d,h=>by simp only[ptB,cD]at b;obtain⟨o,v,hi,l,g⟩:=h;exact wpAnyH_take hi hs b.2.1 b.1 (λ_ _ _ h=>h) l d (AV hs r n _ _ _ b.2.2 hF d g)
 |.one i r,0,listed,a,w,b,hF,d,h=>by cases hF
 |.one i r,n+1,listed,a,w,b,hF,d,h=>by simp only[ptB,cD,beq_iff_eq]at b;refine wpAnyH_all b.1 sZ (λj e=>?_);simp only[fu]at e;subst e;exact cV (λa' w' c=>⟨c.1,AV hs r n _ _ _ b.2 hF c.1 c.2⟩) h
 |.two i k r s,0,listed,a,w,b,hF,d,h=>by cases hF
 |.two i k r s,n+1,listed,a,w,b,hF,d,h=>by
  simp only[ptB,cD,beq_iff_eq]at b;simp only[ptF,cD]at hF;refine wpAnyH_all b.1 sZ (λj e=>?_);simp only[bH,dL,or_false]at e;rcases e with rfl|rfl
  .exact cV (λa' w' c=>⟨c.1,AV hs r n _ _ _ b.2.1 hF.1 c.1 c.2⟩) h.1
  .exact cV (λa' w' c=>⟨c.1,AV hs s n _ _ _ b.2.2 hF.2 c.1 c.2⟩) h.2
end
theorem jB{P:cW}{id:Nat}{Q:eL->Act->cA->Prop}{a:Act}{w:cA}{l:List cT}(S:cA->Prop)(b:PT)(f:P.follows .mixedOrders=ac)(c:(cS l.toArray&&(ptB .any l.toArray b (cM l.length cG)&&ptF b l.length))=ac)(d:S w.drew)(h:rQ P l.toArray Q S b a w.drew):(e0 id l.toArray ac).wp P Q a w:=by simp only[cD]at c;obtain⟨hs,g,e⟩:=c;refine eE (wp_region_held (S:=S) f ?_);have:=AV (Q:=Q) (P:=P) (S:=S) hs b l.length (cM l.length cG) a w.drew g e d h.out;simpa using this
theorem XU{P:cW}{id:Nat}{Q:eL->Act->cA->Prop}{a:Act}{w:cA}{l:List cT}(b:PT)(e:P.follows .mixedOrders=ac)(c:(cS l.toArray&&(ptB .any l.toArray b (cM l.length cG)&&ptF b l.length))=ac)(h:rQ P l.toArray Q (aD w) b a w.drew):(e0 id l.toArray ac).wp P Q a w:=by simp only[cD]at c;obtain⟨hs,f,d⟩:=c;refine eE (wp_region_held (S:=aD w) e ?_);have:=AV (Q:=Q) (P:=P) (S:=aD w) hs b l.length (cM l.length cG) a w.drew f d (ew w) h.out;simpa using this
theorem tT{P:cW}{ops:Array cT}{Q:eL->Act->cA->Prop}{S:cA->Prop}{i:Nat}{r:PT}{o:cT}{v:cR}{a a':Act}{w:cA}(c:rQ P ops Q S r a' w)(hi:ops[i]? =cN o:=by rfl)(d:cJ o (et ops a.tmps)=ac:=by rfl)(h:∀W,S W->qP v W ((eC a.eval o).run P W):=by(intro W e;go_simp;first|done|exact⟨rfl,rfl⟩|rfl))(b:a.put o.dst v=a':=by(go_simp;first|done|rfl)):rQ P ops Q S (.take i r) a w:=aee hi d h b c
theorem tN{P:cW}{ops:Array cT}{Q:eL->Act->cA->Prop}{S:cA->Prop}{i:Nat}{r:PT}{o:cT}{a a':Act}{w:cA}(c:rQ P ops Q S r a' w)(hi:ops[i]? =cN o:=by rfl)(d:cJ o (et ops a.tmps)=cG:=by(first|rfl|(go_simp;first|done|rfl)))(b:a.put o.dst gy=a':=by(go_simp;first|done|rfl)):rQ P ops Q S (.take i r) a w:=anQ hi d b c
theorem tC{P:cW}{ops:Array cT}{Q:eL->Act->cA->Prop}{S:cA->Prop}{i:Nat}{r:PT}{o:cT}{a:Act}{w w1:cA}{f:gl}{args:Array cR}(b:ey P f args w1 λe w'=>∃v,e=cX v/\S w'/\rQ P ops Q S r (a.put o.dst v) w')(hi:ops[i]? =cN o:=by rfl)(c:cJ o (et ops a.tmps)=ac:=by rfl)(h:(eC a.eval o).run P w=.ok (.enter f args) w1:=by(go_simp;first|done|exact⟨⟨rfl,rfl⟩,rfl⟩|rfl)):JC P ops Q S i r a w:=anR hi c h b
end L
variable{g:Nat}
namespace bO
open Go.RowKit L
attribute [local go_sem] Oper.semAt_some
theorem LK{t:TypeId}:∀(vs:List cR) (o:Nat) (w:cA) (cur:Array cR),Blk w g t cur->o+vs.length<=cur.size->∃a,Blk (w.setCells g o vs) g t a/\a.size=cur.size/\a.toList=cur.toList.take o++vs++cur.toList.drop (o+vs.length)
 |[],o,w,cur,h,_=>⟨cur,h,rfl,sZ⟩
 |v::vs,o,w,cur,h,e=>by
  simp only[fc]at e;obtain⟨a,b,c,d⟩:=LK vs (o+1) (w.setCell (g,o) v) (cur.setIfInBounds o v) (Blk.bR h o v) (by simp;omega);refine⟨a,b,by simpa using c,?_⟩;rw[d,Array.toList_setIfInBounds];apply fP;intro i;simp only[List.getElem?_append,dU,jZ,List.getElem?_set,bN,aW,fc,List.length_set,Array.length_toList];have f:min (o+1) cur.size=o+1:=oZ;have k:min o cur.size=o:=oZ;rw[f,k];by_cases c1:i<o
  .have:¬o=i:=by omega
   simp[c1,this,show i<o+1+vs.length by omega,show i<o+1 by omega,show i<o+(vs.length+1) by omega]
  .by_cases c2:i=o
   .subst c2;simp[show i<i+1+vs.length by omega,show i<cur.size by omega,show i<i+(vs.length+1) by omega]
   .by_cases c3:i<o+1+vs.length
    .obtain⟨j,rfl⟩:∃j,i=o+1+j:=⟨i-(o+1),oZ⟩;have e1:o+1+j-o=j+1:=oZ;simp[c3,show¬o+1+j<o+1 by omega,show¬o+1+j<o by omega,show o+1+j<o+(vs.length+1) by omega,e1]
    .have e2:o+1+vs.length+(i-(o+1+vs.length))=i:=oZ;have e3:o+(vs.length+1)+(i-(o+(vs.length+1)))=i:=oZ;simp[c3,show¬i<o+(vs.length+1) by omega,e2,e3,show¬o=i by omega]
theorem wU(g:Nat):∀(vs:List cR) (o:Nat) (w:cA),aL (λk=>k=g) w (w.setCells g o vs)
 |[],o,w=>aL.refl _ w
 |v::vs,o,w=>((aL.refl (λk=>k=g) w).setCell (p:=⟨g,o,eu⟩) (.inl rfl) v).trans (wU g vs (o+1) _)
theorem abP{B:Nat}{l:List Nat}(h:mI w B v l)(F:l.length<=1000000):ey dC 199 #[v] w λe w'=>e=cX (.tuple #[])/\mI w' B v l.reverse/\aL (λk=>v.ownBlock=cN k) w w':=by
 have x:(ival l).length=l.length:=by simp[ival]
 rcases h.2 with⟨rfl,H⟩|⟨g,cap,cur,rfl,s,b,d,y,m,c⟩
 .have z:l=[]:=fK oZ;subst z;refine(Tryz.slices_Reverse_int_empty eu 0 w).mono ?_;rintro e w'⟨rfl,rfl⟩;exact⟨rfl,fE.nil _ _ _,aL.refl _ _⟩
 .rw[x]at d c⊢;rw[gI]at c m;have u:∀j (a:j<l.length),cur[j]? =cN (cL cU (l[j]:Int)):=λj a=>by
   have e:(cur.toList.take l.length)[j]? =(ival l)[j]? :=by rw[c]
   rw[dU,aI a,dF]at e;rw[e];simp[ival,a]
  refine(Tryz.slices_Reverse_int_cells g 0 l.length cap (l.map λk:Nat=>(k:Int)) w sZ oZ (λj a=>?_) λj a=>gv b _).mono ?_
  .simp only[bP]at a;rw[aO];refine(dE b j).trans ?_;rw[u j a,aV,gB,aH a];rfl
  .rintro e w'⟨rfl,q,rfl⟩;obtain⟨n,o,p,r⟩:=LK (g:=g) (t:=3) (((l.map λk:Nat=>(k:Int)).take l.length).reverse.map (gb cU)) 0 (w.drewN q) cur b (by simp;omega);have A:((l.map λk:Nat=>(k:Int)).take l.length).reverse.map (gb cU)=ival l.reverse:=by rw[aU sZ];simp[ival,List.map_reverse]
   have f:(ival l.reverse).length=l.length:=by simp[ival]
   refine⟨rfl,⟨by simp[ival],.inr ⟨g,cap,n,by rw[f],s,o,by rw[f];exact d,y,by rw[p,gI];exact m,?_⟩⟩,?_⟩
   .rw[gI,r,A,fL,List.nil_append,jJ lZ,List.take_length]
   .have:=((aL.refl (λk=>k=g) w).drewN q).trans (wU g (((l.map λk:Nat=>(k:Int)).take l.length).reverse.map (gb cU)) 0 (w.drewN q));exact this.mono λi _ e=>by rw[e];rfl
theorem alA(f:bW w v c)(an:c.aN.length<=1000000)(ah:c.aN≠[])(n:Int):∀w1,dT w w w1->ey dC 135 #[v,n] w1 λe w'=>qU (cP c n) w1 e w':=by
 intro w1 ab;replace f:=f.below ab;have af:(gO c n).length<=1000000:=by have:=uZ c n;omega
 have r:=qZ af;obtain⟨v1,v2,rfl,⟨A,ca,rfl,ai,ao⟩,-⟩:=id f;obtain⟨aG,J⟩:=nZ c.aG;obtain⟨aJ,H⟩:=nZ c.aJ;rw[J,H]at f⊢;have M:=qZ f;have u:=qZ ai;obtain⟨N,s⟩:=nQ c.aN.length;have ag:c.aN.length<=gj:=by unfold gj;omega
 have Q:=qZ ag;rw[s.out]at M⊢;clear J H;have Z:dT w1 w1 (w1.alloc (cC #[cH A N ca,v2,aG,aJ] 26)):=bZ;have ad:=(gM.new w1 (cH A N ca) v2 aG aJ);obtain⟨z0,z1,z2,av,z4⟩:=ad;have hs:(w1.alloc (cC #[cH A N ca,v2,aG,aJ] 26)).heap.size=(w1:Nat)+1:=sZ;go_enter func135,ntmps135;have p:=qZ Z;go_wp2_with fail;generalize w1.alloc (cC #[cH A N ca,v2,aG,aJ] 26)=a at*;refine(aaF (cH A N ca) v2 aG aJ n a).mono ?_;rintro e l⟨rfl,rfl⟩;have I:dT a a ((a.alloc (cC #[cH A N ca,v2,aG,aJ] 26)).alloc (cC #[n] 3)):=kp;have ak:gM ((a.alloc (cC #[cH A N ca,v2,aG,aJ] 26)).alloc (cC #[n] 3)) (a:Nat) (cH A N ca) v2 aG aJ:=(gM.new a (cH A N ca) v2 aG aJ).on (bZ);have m:Blk ((a.alloc (cC #[cH A N ca,v2,aG,aJ] 26)).alloc (cC #[n] 3)) ((a:Nat)+1) 3 #[n]:=by have h:=Blk.new (a.alloc (cC #[cH A N ca,v2,aG,aJ] 26)) 3 #[n];simp only[aT]at h;exact h
 have aq:((a.alloc (cC #[cH A N ca,v2,aG,aJ] 26)).alloc (cC #[n] 3)).heap.size=(a:Nat)+2:=sZ;generalize(a.alloc (cC #[cH A N ca,v2,aG,aJ] 26)).alloc (cC #[n] 3)=l at*;have L:=qZ I;have z:∀b o,A=cN ⟨b,o,eu⟩->b<(w1:Nat):=λb o e=>by obtain⟨am,ar,y,aa,_⟩:=u.out ah;rw[e]at y;cases y;exact aa
 have aj:gF l A 11 nN c.aN:=u.out.below (aA p.out I);have g:=qZ (OG (w:=l) (VA (bn:=(a:Nat)+1) (bc:=(a:Nat)) (A:=A) (ca:=ca) (v2:=v2) (aG:=aG) (aJ:=aJ) c Q.out n oZ λb o e=>by have:=z b o e;omega) (λ_ _=>kZ)
  (λW Y=>(⟨(dE m 0),(gv m 0),gm m,by rw[s.out];exact ak,aj⟩:vL l ((a:Nat)+1) (a:Nat) A c.aN.length ca v2 aG aJ c.aN n).bA (F:=λ_=>False) (aL.bQ Y) (λh=>h) (λh=>h) λ_ _ _ h=>h)
  (λk h=>by
   rcases h with h|h|⟨o,h⟩
   .omega
   .omega
   .have:=z _ _ h;omega) (λk h=>.inl h) r.out)
 go_wp2_with fail;rw[<-hs];refine g.out.mono ?_;rintro e au⟨v,rfl,d,j⟩;have X:=qZ (abP d r.out);have ap:=j.size;have x:=qZ (aC (fE.lt d) (j.mono (G:=λi=>(w1:Nat)<=i) λi _ h=>oZ));have ae:=fE.form d;obtain⟨K,c5,T,-⟩:=ae;subst T;go_wp2_with fail;refine X.out.mono ?_;rintro e al⟨rfl,d,j⟩;have O:=qY (qU (cP c n) w1 (cX (cH K (ival (gO c n)).length c5)) al) (⟨_,rfl,fE.low d oZ,(((aL.bQ (F:=λi=>(w1:Nat)<=i) (aA p.out L.out)).trans x.out.2).trans (j.mono λi _ e=>(show(w1:Nat)<=i by have:=(x.out.1 i e).1;omega))).below lZ λi h=>h⟩);go_wp2_with fail;go_ret;exact O.out
end bO
namespace eO
open Go.RowKit L bO
theorem adS{bm:cR}{aQ next:Int}(hs:zQ w v1 v2 bm c h)(dw:c.aN≠[])(ab:MP c aQ)(d:wC w n v1 v2 c.aG c.aJ aQ next vp vr bm)(a b:fX)(dp:InI a.since)(o:InI b.since):fV dC w 80 #[.pointer n,fz (eF a),fz (eF b)] (cL cU (fo c h aQ a b)):=by
 intro w1 b0;replace hs:=hs.below b0;replace d:=d.below b0;have ag:=qZ (λt W f=>alA hs.cfg hs.len dw t W f);have ch:=qZ (λx y=>aiG hs d x y);have ak:=qZ (aC (aei v1 v2 c.aG c.aJ aQ a ab.aJ ab.aQ dp) (aei v1 v2 c.aG c.aJ aQ b ab.aJ ab.aQ o));have N:=qY (fo c h aQ a b=if nS c aQ a=ac/\nS c aQ b=cG then-1 else if nS c aQ b=ac/\nS c aQ a=cG then 1 else if nS c aQ a=ac then cI a.seq b.seq else eK (eI c h a.dI b.dI) (cI a.seq b.seq)) rfl;have bs:=qZ (aC (show eI c h a.dI b.dI=Ord.lex (aN c h) (cP c a.dI) (cP c b.dI)from rfl) (ahn c h a.dI));have bp:=qY (∀t:Int,(cP c t).length<=1000000) (λt=>by have:=uZ c t;have:=hs.len;unfold cP;rw[fm];omega);have bt:=qZ (aC (show nS c aQ a=ga c.aJ aQ a.since from rfl) (show nS c aQ b=ga c.aJ aQ b.since from rfl));rw[<-bt.out.1,<-bt.out.2]at ak;obtain⟨r,j⟩:=nZ (fo c h aQ a b);rw[j]at N⊢;generalize nS c aQ a=x at*;generalize nS c aQ b=y at*;obtain⟨aG,b8⟩:=nZ c.aG;obtain⟨aJ,bz⟩:=nZ c.aJ;rw[b8,bz]at ag ak d;clear o b8 bz j;have K:dT w1 w1 ((w1.alloc (cC (eF a) 44)).alloc (cC (eF b) 44)):=by have I:(w1.alloc (cC (eF a) 44)).heap.size=(w1:Nat)+1:=sZ;exact kp
 have bi:QK ((w1.alloc (cC (eF a) 44)).alloc (cC (eF b) 44)) (w1:Nat) a:=gx (Blk.new w1 44 (eF a)) _;have ad:QK ((w1.alloc (cC (eF a) 44)).alloc (cC (eF b) 44)) ((w1:Nat)+1) b:=by have h:=Blk.new (w1.alloc (cC (eF a) 44)) 44 (eF b);simp only[aT]at h;exact h
 have dy:wC ((w1.alloc (cC (eF a) 44)).alloc (cC (eF b) 44)) n v1 v2 aG aJ aQ next vp vr bm:=d.below K
 have ct:=qZ (aC dy (aC K (aC bi ad)));clear d K;obtain⟨a0,a1,a2,⟨a3,a4,da⟩,a6,a7,db,s,c0⟩:=a;obtain⟨dc,b1,b2,⟨b3,de,df⟩,dg,dh,di,u,dd⟩:=b;simp only[eF]at*;go_enter func80,ntmps80;go_wp2_with fail;generalize(w1.alloc (cC #[a0,a1,a2,a3,a4,da,a6,a7,db,s,c0] 44)).alloc (cC #[dc,b1,b2,b3,de,df,dg,dh,di,u,dd] 44)=F at*;obtain⟨d,K,bi,ad⟩:=ct.out;have ci:=qZ K;have eh:(w1:Nat)+1<(F:Nat):=gm ad;have ap:=λW' (k:aD F W')=>k.cell d.lt d.c0;have aq:=λW' (k:aD F W')=>k.cell d.lt d.c1;have ar:=λW' (k:aD F W')=>k.cell d.lt d.c2;have au:=λW' (k:aD F W')=>k.cell d.lt d.c3;have eb:=λW' (k:aD F W')=>k.cell d.lt d.c4;have A:=λW' (k:aD F W')=>bi.cells W' k;have B:=λW' (k:aD F W')=>ad.cells W' k
 dsimp only at A B
 obtain⟨av,aw⟩:=ak.out;have br:=qZ (aC ap (aC aq (aC ar (aC au (aC A B)))));clear d K;refine kK ?_;(repeat refine kY ?_);refine kJ av ?_;(repeat refine kY ?_);refine kJ aw ?_;(repeat refine kY ?_);refine dP ?_;intro W f;have l:=qZ f;have v:=qZ (aA ci l);obtain⟨ap,aq,ar,au,A,B⟩:=br.out;obtain⟨-,ek,-,-,-,-,-,-,-,el,-⟩:=A W f;obtain⟨-,p1,-,-,-,-,-,-,-,ej,-⟩:=B W f;clear f;have ei:(w1:Nat)+1<(W:Nat):=by have:=l.size;omega
 cases x
 .cases y
  .have j:r=eK (eI c h a1 b1) (cI s u):=by rw[N.out];simp
   have O:Hid (∀w,ey dC 134 #[s,u] w λe w'=>e=cX (cL cU (cI s u))/\w=w'):=qZ (λw=>uP s u w);generalize cI s u=q at*;by_cases be:a1=b1
   .have M:r=eK 0 q:=by rw[j,<-be,bs.out.2]
    have bl:(a1 !=b1)=cG:=by simp[be]
    have al:=qZ M;clear j M;go_wp2_with fail;refine(O _).mono ?_;rintro e cg⟨rfl,rfl⟩;have a5:(W.alloc (cC #[(),q] 3)).cell? (W,0)=cN (cL cU 0):=by simp[go_sem]
    have a8:(W.alloc (cC #[(),q] 3)).cell? (W,1)=cN (cL cU q):=by simp[go_sem]
    have af:=qZ (SA (w:=W.alloc (cC #[(),q] 3)) (b:=(W:Nat)) sZ 0 q a5 a8);have ah:=qZ ((aK (W:Nat) W).alloc lZ (cC #[(),q] 3));go_wp2_with fail;refine af.mono ?_;rintro e d0⟨rfl,bf⟩;have ai:=qZ (aA (aA v ah) bf);go_wp2_with fail;go_ret;exact⟨by rw[al.out];rfl,ai⟩
   .have bl:(a1 !=b1)=ac:=by simp[be]
    obtain⟨t,M⟩:=nZ (eI c h a1 b1);have cr:=qY (t=Ord.lex (aN c h) (cP c a1) (cP c b1)) (by rw[<-M];exact bs.1);have al:=qY (r=eK t q) (by rw[j,M]);have ax:∀W',aD W W'->ey dC 135 #[fz #[v1,v2,aG,aJ],a1] W' λe w'=>qU (cP c a1) W' e w':=λW' bd=>ag a1 W' (aA v bd);have ay:∀W',aD W W'->ey dC 135 #[fz #[v1,v2,aG,aJ],b1] W' λe w'=>qU (cP c b1) W' e w':=λW' bd=>ag b1 W' (aA v bd);have b9:=bp.out a1;have ca:=bp.out b1;generalize cP c a1=PA at*;generalize cP c b1=PB at*;have cm:=qZ (aC ax ay);clear j M;go_wp2_with fail;obtain⟨ax,ay⟩:=cm.out;obtain⟨cw,cx,cy,cz,bn,B'⟩:=br.out;have ap:=λW' (k:aD W W')=>cw W' (aA l k);have aq:=λW' (k:aD W W')=>cx W' (aA l k);have ar:=λW' (k:aD W W')=>cy W' (aA l k);have au:=λW' (k:aD W W')=>cz W' (aA l k);have d7:=λW' (k:aD W W')=>(bn W' (aA l k)).2.1;have B1:=λW' (k:aD W W')=>(B' W' (aA l k)).2.1;have bo:=qZ (aC (λW' (k:aD W W')=>(bn W' (aA l k)).2.2.2.2.2.2.2.2.2.1) λW' (k:aD W W')=>(B' W' (aA l k)).2.2.2.2.2.2.2.2.2.1);refine NM [(0,ac),(1,ac),(2,ac),(3,ac),(4,ac),(5,ac),(6,ac),(7,ac),(9,ac),(10,ac),(11,ac),(12,ac),(13,ac),(14,ac),(15,ac),(16,ac),(8,cG),(17,cG),(18,ac),(19,ac)] kZ kZ ?_;(repeat apply CW;rfl;rfl;(focus(intro W f;go_simp;first|done|exact⟨rfl,rfl⟩|rfl));(focus(go_simp;first|done|rfl)));apply CX;rfl;rfl;(focus(go_simp;first|done|exact⟨⟨rfl,rfl⟩,rfl⟩|rfl));refine(ax _ (ew _)).mono ?_;rintro e eo⟨ce,rfl,dk,Y⟩;refine⟨ce,rfl,aA (ew W) Y,?_⟩;apply CX;rfl;rfl;(focus(go_simp;first|done|exact⟨⟨rfl,rfl⟩,rfl⟩|rfl));refine(ay _ (aA (ew W) Y)).mono ?_;rintro e ae⟨dz,rfl,dm,bg⟩;refine⟨dz,rfl,aA (aA (ew W) Y) bg,?_⟩;(repeat apply CW;rfl;rfl;(focus(intro W f;go_simp;first|done|exact⟨rfl,rfl⟩|rfl));(focus(go_simp;first|done|rfl)));refine abv ?_;have cc:aD W ae:=aA (aA (ew W) Y) bg;have bq:=qZ cc;have dl:mI ae W.drew.heap.size ce PA:=fE.below dk bg;obtain⟨d8,c1,rfl,b4⟩:=mV dl;obtain⟨d9,c2,rfl,b5⟩:=mV dm;have cj:=qZ b4;have ck:=qZ b5;obtain⟨g,bb⟩:=nZ PA.length;obtain⟨m,bc⟩:=nZ PB.length;have aj:=qZ bb;have Q:=qZ bc;rw[bb]at b9⊢;rw[bc]at ca⊢;clear b4 b5 bb bc cc;go_wp2_with fail;refine(uP (g:Int) (m:Int) _).mono ?_;rintro e ep⟨rfl,rfl⟩;go_upto_block 1 with fail;obtain⟨z,I⟩:=nZ (cI (g:Int) (m:Int));have cu:=qZ I;rw[I];clear I;go_cut[9] (λx d6=>x=cL cU t/\aD ae d6);case first=>
     go_wp2_with fail;go_loopw [9,91] (λx i wr=>∃k:Nat,x=cL cU z/\i=cL cU (k:Int)/\k<=g/\k<=m/\Hid (t=Ord.lex (aN c h) (PA.drop k) (PB.drop k))/\aD ae wr) (λ_ i _=>g-(intOf i).toNat);exact⟨0,rfl,rfl,oZ,oZ,qZ (by simpa using cr.out),aK _ _⟩
     obtain⟨k,rfl,rfl,ef,eg,cb,o⟩:=hrel;have T:=qZ o;by_cases dj:k<g/\k<m
     .obtain⟨a9,ba⟩:=dj;have Z:k<PA.length:=by rw[aj.out];exact a9
      have aa:k<PB.length:=by rw[Q.out];exact ba
      obtain⟨x,d⟩:=nZ (PA[k]);obtain⟨y,bk⟩:=nZ (PB[k]);have dt:PA.drop k=x::PA.drop (k+1):=by rw[<-d];exact cZ Z
      have du:PB.drop k=y::PB.drop (k+1):=by rw[<-bk];exact cZ aa
      have H:=cb.out;rw[dt,du,Ord.lex]at H;obtain⟨av,rfl,-,b6,dr⟩:=cj.out k x (by rw[aH Z,d]);obtain⟨aw,rfl,-,b7,ds⟩:=ck.out k y (by rw[aH aa,bk]);have an:=λW (f:aD wr W)=>f.cell (aM b6 o.size) ((Below.cell (p:=⟨av,k,eu⟩) o b6).trans dr);have ao:=λW (f:aD wr W)=>f.cell (aM b7 o.size) ((Below.cell (p:=⟨aw,k,eu⟩) o b7).trans ds);have bh:(k:Int)<min (g:Int) (m:Int):=oZ;have dv:decide ((k:Int)<min (g:Int) (m:Int))=ac:=by simpa using bh
      have cp:=qZ (aC an ao);have ed:(k:Int)<(g:Int):=oZ;have ee:(k:Int)<(m:Int):=oZ;clear d bk o;go_wp2_with fail;obtain⟨an,ao⟩:=cp.out;refine kK ?_;(repeat refine kY ?_);refine dP ?_;intro bw X;have am:=qZ X;have bu:=λW' (az:aD bw W')=>an W' (aA X az);have bv:=λW' (az:aD bw W')=>ao W' (aA X az);have cq:=qZ (aC bu bv);clear X;by_cases cd:x=y
      .subst cd;rw[aI rfl]at H;have co:=qZ H;have bl:((x:Int) !=(x:Int))=cG:=sZ;clear H;go_wp2_with fail;go_roundw;exact⟨k+1,rfl,mZ,oZ,oZ,co,aA T am⟩;simp[intOf];omega
      .rw[aF cd]at H;have bl:((x:Int) !=(y:Int))=ac:=by simp;omega
       have J:=(ch x y).up (aA (aA (aA v bq) T) am);rw[<-H]at J;have cn:=qZ J;clear H J;go_wp2_with fail;obtain⟨bu,bv⟩:=cq.out;have J:=cn.out;refine kK ?_;(repeat refine kY ?_);refine kJ J ?_;(repeat refine kY ?_);refine dP ?_;intro ec dn;have cl:=qZ (aA (aA T am) dn);clear J;go_wp2_with fail;go_meet;exact⟨rfl,cl⟩
     .have I:z=t:=by
       rw[<-cu.out,cb.out];unfold cI;by_cases a9:k<g
       .have Z:k<PA.length:=by rw[aj.out];exact a9
        rw[cZ Z,show PB.drop k=[]from iH (by rw[Q.out];omega),aF oZ,aI oZ];rfl
       .rw[show PA.drop k=[]from iH (by rw[aj.out];omega)];by_cases ba:k<m
        .have aa:k<PB.length:=by rw[Q.out];exact ba
         rw[cZ aa,aI oZ];rfl
        .rw[show PB.drop k=[]from iH (by rw[Q.out];omega),aF oZ,aF oZ];rfl
      have bh:¬(k:Int)<min (g:Int) (m:Int):=oZ;have dv:decide ((k:Int)<min (g:Int) (m:Int))=cG:=by simpa using bh
      have cv:=qZ I;clear I o;go_wp2_with fail;go_meet;exact⟨by rw[cv.out],T⟩
    case rest=>
     obtain⟨rfl,dq⟩:=hcut;have bj:aD W wc:=aA bq dq;have cs:=qZ (aA v bj);have em:=bo.1 wc bj;have en:=bo.2 wc bj;go_wp2_with fail;refine(O _).mono ?_;rintro e cg⟨rfl,rfl⟩;have a5:(wc.alloc (cC #[t,q] 3)).cell? (wc,0)=cN (cL cU t):=by simp[go_sem]
     have a8:(wc.alloc (cC #[t,q] 3)).cell? (wc,1)=cN (cL cU q):=by simp[go_sem]
     have af:=qZ (SA (w:=wc.alloc (cC #[t,q] 3)) (b:=(wc:Nat)) sZ t q a5 a8);have ah:=qZ ((aK (wc:Nat) wc).alloc lZ (cC #[t,q] 3));go_wp2_with fail;refine af.mono ?_;rintro e d0⟨rfl,bf⟩;have ai:=qZ (aA (aA cs ah) bf);go_wp2_with fail;go_ret;exact⟨by rw[al.out];rfl,ai⟩
  .have j:r=1:=by rw[N.out];simp
   subst j;go_wp2_with fail;go_ret;exact⟨rfl,v⟩
 .cases y
  .have j:r= -1:=by rw[N.out];simp
   subst j;go_wp2_with fail;go_ret;exact⟨rfl,v⟩
  .have dx:cI s u=r:=by rw[N.out];simp
   have O:Hid (∀w,ey dC 134 #[s,u] w λe w'=>e=cX r/\w=w'):=qZ (λw=>by rw[<-dx];exact uP s u w);go_wp2_with fail;refine(O _).mono ?_;rintro e cg⟨rfl,rfl⟩;go_wp2_with fail;go_ret;exact⟨rfl,v⟩
end eO
namespace L
open Go.RowKit
section
variable {P:cW} {ops:Array cT} {md:cY} {Q Q':eL->Act->cA->Prop} {S:cA->Prop}
theorem ahd(j:∀c a w,Q (.panic c) a w->Q' (.panic c) a w)(g:LetsOut Q->LetsOut Q'){i:Nat}{K:Act->cA->Prop}{a:Act}{w:cA}(h:ez P ops Q i K a w):ez P ops Q' i K a w:=by
 unfold ez at*;split
 .simp only[*]at h;exact h
 .rename_i o hi;simp only[hi]at h;split
  .rename_i hw;rw[aI hw]at h;rcases h with h|h
   .left;unfold fl at*;generalize(eC a.eval o).run P w=r at*;cases r with
    |ok n w'=>
     cases n<;>simp only[eN]at h⊢
     case value u=>exact h
     case skip=>exact h
     case defer d=>exact h
     case enter f args=>
      refine Calls.mono h λe k b=>?_;cases e with
      |returned u=>exact b
      |panicked c=>exact j _ _ _ b
      |outgrown=>exact g b
     case row row args=>exact h
    |halt x w'=>
     cases x<;>simp only[eN]at h⊢
     case panic u=>exact j _ _ _ h
   .exact .inr ⟨h.1,g h.2⟩
  .rename_i hw;rw[aF hw]at h;exact h
def ES(P:cW)(md:cY)(ops:Array cT)(Q:eL->Act->cA->Prop)(S:cA->Prop)(n:Nat)(L:Array Bool->Act->cA->Prop):Nat->Array Bool->Act->cA->Prop
 |0,listed,a,w=>L listed a w
 |f+1,listed,a,w=>
  cF md ops listed≠[]/\∀i∈cF md ops listed,i<n/\ez P ops Q i (λa' w'=>S w'/\ES P md ops Q S n L f (listed.setIfInBounds i ac) a' w') a w
theorem EN{n g:Nat}{L:Array Bool->Act->cA->Prop}(b:∀listed a w,L listed a w->wpAny P md ops Q' g listed a w)(c:∀i K a w,ez P ops Q i K a w->ez P ops Q' i K a w):∀(f:Nat) (listed:Array Bool) (a:Act) (w:cA),ES P md ops Q S n L f listed a w->wpAny P md ops Q' (f+g) listed a w
 |0,listed,a,w,h=>by rw[aO];exact b _ _ _ h
 |f+1,listed,a,w,h=>by rw[show f+1+g=(f+g)+1 by omega];exact⟨λe=>absurd e h.1,λi hi=>c _ _ _ _ (cV (λa' w' d=>EN b c f _ a' w' d.2) (h.2 i hi).2)⟩
theorem ZX{n i:Nat}{p:cT}{v:cR}{L:Array Bool->Act->cA->Prop}(hi:ops[i]? =cN p)(T:∀(j:Nat) (o:cT) cs b,ops[j]? =cN o->o.op≠.select cs b)(hs:fv md ops n=ac)(I:fq md ops n=ac)(O:n<ops.size)(K:i<n)(aa:∀listed a w,L listed a w->∀j∈cF md ops listed,n<=j)(X:∀c a w,Q (.panic c) (a.put p.dst v) w->Q (.panic c) a w):∀(f:Nat) (listed:Array Bool) (a:Act) (w:cA),e8 md ops n listed->(∀j r,ops[j]? =cN r->j≠i->listed.getD j ac=cG->(∀e∈r.after,eA md e=ac->e.on≠i)->p.apart ops r=ac)->i∈cF md ops listed->ft P ops S p v a->S w->ES P md ops Q S n L f (listed.setIfInBounds i ac) (a.put p.dst v) w->ES P md ops Q S n L (f+1) listed a w:=by
 intro f;induction f with
 |zero=>
  intro listed a w A _ g z s H;have m:=(mem_ready.1 g).1;refine⟨λh=>(by rw[h]at g;cases g),λj l=>?_⟩;have y:j<n:=by
   rcases fI j n with h|h
   .exact h
   .exact absurd l (tail_waits hs I O A _ i rfl K m j h)
  refine⟨y,?_⟩;by_cases d:j=i
  .subst d;exact z.wpOp hi s ⟨s,H⟩
  .have:=aa _ _ _ H j (eS l d);omega
 |succ f aj=>
  intro listed a w A J g z s H;have m:=(mem_ready.1 g).1;refine⟨λh=>(by rw[h]at g;cases g),λj l=>?_⟩;have y:j<n:=by
   rcases fI j n with h|h
   .exact h
   .exact absurd l (tail_waits hs I O A _ i rfl K m j h)
  refine⟨y,?_⟩;by_cases d:j=i
  .subst d;exact z.wpOp hi s ⟨s,H⟩
  .have u:=(H.2 j (eS l d)).2;obtain⟨N,r,F,Y⟩:=mem_ready.1 l;have ai:∀e∈r.after,eA md e=ac->e.on≠i:=λe ab Z ad=>by have u:=Y e ab Z;rw[ad,fg m]at u;cases u
   have W:=wpOp_putIf F (J j r F d N ai) (λcs b=>T i p cs b hi) (λcs b=>T j r cs b F) X z u;have ae:∀k ok,ops[k]? =cN ok->k≠i->(listed.setIfInBounds j ac).getD k ac=cG->
     (∀e∈ok.after,eA md e=ac->e.on≠i)->p.apart ops ok=ac:=λk ok af ag m ah=>by
    refine J k ok af ag ?_ ah;by_cases M:j=k
    .subst M;exact N
    .rw[e5 ac M]at m;exact m
   refine cV (λa' w' x=>⟨x.2.1,aj (listed.setIfInBounds j ac) a' w' (A.set l y) ae (eS g (Ne.symm d)) x.1 x.2.1 ?_⟩) W;rw[jK _ _ d];exact x.2.2
def GY(md:cY)(ops:Array cT)(n g:Nat):PT->Array Bool->Bool
 |.done,listed=>gn md ops g n listed
 |.take i r,listed=>decide (i<n)&&((cF md ops listed).contains i&&(fx md ops listed i&&GY md ops n g r (listed.setIfInBounds i ac)))
 |.one i r,listed=>decide (i<n)&&((cF md ops listed==[i])&&GY md ops n g r (listed.setIfInBounds i ac))
 |.two i j r s,listed=>decide (i<n)&&(decide (j<n)&&((cF md ops listed==[i,j])&&(GY md ops n g r (listed.setIfInBounds i ac)&&GY md ops n g s (listed.setIfInBounds j ac))))
def ptN:PT->Nat->Bool
 |.done,0=>ac
 |.take _ r,n+1=>ptN r n
 |.one _ r,n+1=>ptN r n
 |.two _ _ r s,n+1=>ptN r n&&ptN s n
 |_,_=>cG
theorem BK{n g:Nat}(y:cS ops=ac)(hs:fv md ops n=ac)(u:fq md ops n=ac)(x:n<ops.size):∀(A:PT) (f:Nat) (listed:Array Bool) (a:Act) (w:cA),GY md ops n g A listed=ac->ptN A f=ac->e8 md ops n listed->S w->JQ P ops Q S A a w->ES P md ops (er Q) S n (λI a' w'=>gn md ops g n I=ac/\Q .normal a' w') f listed a w
 |.done,0,listed,a,w,b,hF,c,e,h=>⟨b,h⟩
 |.done,f+1,listed,a,w,b,hF,c,e,h=>by cases hF
 |.take i r,0,listed,a,w,b,hF,c,e,h=>by cases hF
 |.take i r,f+1,listed,a,w,b,hF,c,e,h=>by
  simp only[GY,cD,eT]at b;obtain⟨l,p,M,b⟩:=b;obtain⟨o,v,hi,O,N⟩:=h;have H:i∈cF md ops listed:=by simpa using p
  exact ZX hi (fi y) hs u x l (λI a' w' L=>seqB_ready L.1) (λ_ _ _ h=>h) f listed a w c (fy hi M) H O e
   (BK y hs u x r f _ _ _ b hF (c.set H l) e N)
 |.one i r,0,listed,a,w,b,hF,c,e,h=>by cases hF
 |.one i r,f+1,listed,a,w,b,hF,c,e,h=>by
  simp only[GY,cD,eT,beq_iff_eq]at b;obtain⟨l,p,b⟩:=b;refine⟨by rw[p];simp,λj m=>?_⟩;have z:j=i:=by rw[p]at m;simpa using m
  subst z;exact⟨l,cV (λa' w' d=>⟨d.1,BK y hs u x r f _ _ _ b hF (c.set m l) d.1 d.2⟩) h⟩
 |.two i k r s,0,listed,a,w,b,hF,c,e,h=>by cases hF
 |.two i k r s,f+1,listed,a,w,b,hF,c,e,h=>by
  simp only[GY,cD,eT,beq_iff_eq]at b;obtain⟨l,F,p,J,K⟩:=b;simp only[ptN,cD]at hF;refine⟨by rw[p];simp,λj m=>?_⟩;have z:j=i\/j=k:=by rw[p]at m;simpa using m
  rcases z with rfl|rfl
  .exact⟨l,cV (λa' w' d=>⟨d.1,BK y hs u x r f _ _ _ J hF.1 (c.set m l) d.1 d.2⟩) h.1⟩
  .exact⟨F,cV (λa' w' d=>⟨d.1,BK y hs u x s f _ _ _ K hF.2 (c.set m F) d.1 d.2⟩) h.2⟩
end
def anf(P:cW)(l:List cT)(n:Nat)(Q:eL->Act->cA->Prop):eL->Act->cA->Prop
 |.normal,a,w=>wpList P l.toArray Q (l.drop n) a w
 |e,a,w=>Q e a w
def apr(l:List cT)(n:Nat)(pl:PT):Bool:=cS l.toArray&&(decide (n<l.length)&&(fv .any l.toArray n&&(fq .any l.toArray n&&(GY .any l.toArray n (l.length-n) pl (cM l.length cG)&&ptN pl n))))
theorem iA{P:cW}{id:Nat}{Q:eL->Act->cA->Prop}{a:Act}{w:cA}{l:List cT}(S:cA->Prop)(n:Nat)(c:PT)(o:P.follows .mixedOrders=ac)(d:apr l n c=ac)(k:S w.drew)(h:rQ P l.toArray (anf P l n Q) S c a w.drew):(e0 id l.toArray ac).wp P Q a w:=by
 simp only[apr,cD,eT]at d;obtain⟨u,p,hs,m,s,b⟩:=d;have r:n<l.toArray.size:=by simpa using p
 have f:(l.drop n).length=l.length-n:=sZ;have x:e8 .any l.toArray n (cM l.length cG):=
  ⟨sZ,λj y _ b=>(by rw[eM]at b;cases b),λt _ v=>getD_in (by simpa using v) (eM _ _)⟩
 have H:=BK (P:=P) (Q:=anf P l n Q) (S:=S) (md:=.any) (g:=l.length-n) u hs m r c n _ a w.drew s b x k h.out;refine gd o ?_;have:=EN (Q':=Q) (g:=l.length-n) (λlisted a' W e=>by have:=wpAny_of_seq (md:=.any) (Q':=Q) (l.drop n) n listed a' W (λj=>by simp[jZ]) (by rw[f];exact e.1) e.2;rwa [f]at this) (λi K a w h=>ahd (λ_ _ _ h=>h.elim) (λ⟨a,w,h⟩=>⟨a,w,h⟩) h) _ _ _ _ H;rw[show n+(l.length-n)=l.toArray.size by simp;omega]at this;simpa using this
open Go.RowKit
section
variable {P:cW} {ops:Array cT} {md:cY} {Q:eL->Act->cA->Prop} {S:cA->Prop}
def MC(md:cY)(ops:Array cT)(n:Nat):Nat->Nat->Bool
 |0,i=>i==n
 |f+1,i=>i==n||(gu ops.size).any λj=>Region.waitsFor md ops j i&&MC md ops n f j
theorem KO{n m:Nat}{listed:Array Bool}(c:e8 md ops m listed):∀(f i:Nat),MC md ops n f i=ac->listed.getD i ac=cG->listed.getD n cG=cG
 |0,i,h,a=>by
  have e:i=n:=by simpa[MC]using h
  subst e;exact fg a
 |f+1,i,h,a=>by
  simp only[MC,Bool.or_eq_true,beq_iff_eq]at h;rcases h with rfl|h
  .exact fg a
  .obtain⟨j,l,b⟩:=kS.1 h;simp only[cD]at b;obtain⟨u,p,e,k,g,r⟩:=Region.waitsFor_spec b.1;have o:j<listed.size:=by rw[c.size];exact kQ.1 l
   refine KO c f j b.2 (getD_in o ?_);cases s:listed.getD j cG with
   |false=>rfl
   |true=>
    have d:=c.closed j u p s e k g;rw[r,fg a]at d;cases d
def uG(n:Nat)(S:cA->Prop)(l:Array Bool)(W:cA):Prop:=l.getD n cG=ac\/S W
def JW(P:cW)(md:cY)(ops:Array cT)(Q:eL->Act->cA->Prop)(S:cA->Prop)(n:Nat):Nat->Array Bool->Act->cA->Prop
 |0,listed,a,w=>cF md ops listed=[]/\Q .normal a w
 |fuel+1,listed,a,w=>
  (cF md ops listed=[]->Q .normal a w)/\
  ∀i∈cF md ops listed,ez P ops Q i (λa' w'=>uG n S (listed.setIfInBounds i ac) w'/\JW P md ops Q S n fuel (listed.setIfInBounds i ac) a' w') a w
theorem QV{n:Nat}:∀(fuel:Nat) (listed:Array Bool) (a:Act) (w:cA),JW P md ops Q S n fuel listed a w->wpAny P md ops Q fuel listed a w
 |0,_,_,_,h=>h
 |fuel+1,_,_,_,h=>⟨h.1,λi hi=>cV (λa' w' b=>QV fuel _ a' w' b.2) (h.2 i hi)⟩
theorem aax{n i:Nat}{g:cT}{v:cR}(hi:ops[i]? =cN g)(L:i≠n)(O:∀(j:Nat) (o:cT) cs b,ops[j]? =cN o->o.op≠.select cs b)(aa:∀c a w,Q (.panic c) (a.put g.dst v) w->Q (.panic c) a w){F:cA->Prop}(J:∀l W,e8 md ops ops.size l->l.getD i ac=cG->uG n S l W->F W):∀(fuel:Nat) (listed:Array Bool) (a:Act) (w:cA),e8 md ops ops.size listed->(∀j m,ops[j]? =cN m->j≠i->listed.getD j ac=cG->(∀e∈m.after,eA md e=ac->e.on≠i)->g.apart ops m=ac)->i∈cF md ops listed->ft P ops F g v a->uG n S listed w->JW P md ops Q S n fuel (listed.setIfInBounds i ac) (a.put g.dst v) w->JW P md ops Q S n (fuel+1) listed a w:=by
 intro fuel;have Y:∀(l:Array Bool) (W:cA),uG n S l W->uG n S (l.setIfInBounds i ac) W:=λl W h=>by unfold uG at*;rwa [e5 cG L]
 have X:∀(l:Array Bool) (W:cA),uG n S (l.setIfInBounds i ac) W->uG n S l W:=λl W h=>by unfold uG at*;rwa [e5 cG L]at h
 induction fuel with
 |zero=>
  intro listed a w y _ d x p H;refine⟨λh=>(by rw[h]at d;cases d),λj r=>?_⟩;by_cases f:j=i
  .subst f;exact x.wpOp hi (J _ _ y (mem_ready.1 d).1 p) ⟨Y _ _ p,H⟩
  .have:=eS r f;rw[H.1]at this;cases this
 |succ fuel am=>
  intro listed a w y K d x p H;refine⟨λh=>(by rw[h]at d;cases d),λj r=>?_⟩;by_cases f:j=i
  .subst f;exact x.wpOp hi (J _ _ y (mem_ready.1 d).1 p) ⟨Y _ _ p,H⟩
  .have s:=H.2 j (eS r f);obtain⟨N,m,u,ab⟩:=mem_ready.1 r;have al:∀e∈m.after,eA md e=ac->e.on≠i:=λe ae ad af=>by have s:=ab e ae ad;rw[af,fg (mem_ready.1 d).1]at s;cases s
   have Z:=wpOp_putIf u (K j m u f N al) (λcs b=>O i g cs b hi) (λcs b=>O j m cs b u) aa x s;have ag:∀k ok,ops[k]? =cN ok->k≠i->(listed.setIfInBounds j ac).getD k ac=cG->
     (∀e∈ok.after,eA md e=ac->e.on≠i)->g.apart ops ok=ac:=λk ok ai aj T ak=>by
    refine K k ok ai aj ?_ ak;by_cases M:j=k
    .subst M;exact N
    .rw[e5 ac M]at T;exact T
   have ah:j<ops.size:=(bS.1 u).1;refine cV (λa' w' z=>?_) Z;have A:=z.2.1;have I:=z.2.2;rw[jK _ _ (Ne.symm f)]at A I;exact⟨X _ _ A,am (listed.setIfInBounds j ac) a' w' (y.set r ah) ag (eS d (Ne.symm f)) z.1 (X _ _ A) I⟩
def UR(P:cW)(ops:Array cT)(Q:eL->Act->cA->Prop)(S:cA->Prop)(n:Nat):PT->Act->cA->Prop
 |.done,a,w=>Q .normal a w
 |.take i r,a,w=>∃o v,ops[i]? =cN o/\ft P ops (λW=>MC .any ops n ops.size i=ac->S W) o v a/\UR P ops Q S n r (a.put o.dst v) w
 |.one i r,a,w=>ez P ops (er Q) i (λa' w'=>(i≠n->S w')/\UR P ops Q S n r a' w') a w
 |.two i j r s,a,w=>ez P ops (er Q) i (λa' w'=>(i≠n->S w')/\UR P ops Q S n r a' w') a w/\ez P ops (er Q) j (λa' w'=>(j≠n->S w')/\UR P ops Q S n s a' w') a w
structure EI (P:Program) (ops:Array Oper) (Q:Exit->Act->World->Prop) (S:World->Prop) (n:Nat) (pl:PT) (a:Act) (w:World):Prop where
 out:UR P ops Q S n pl a w
theorem anX{n:Nat}{a:Act}{w:cA}(h:Q .normal a w):EI P ops Q S n .done a w:=⟨h⟩
theorem aeg{n i:Nat}{r:PT}{o:cT}{v:cR}{a a':Act}{w:cA}(hi:ops[i]? =cN o)(g:cJ o (et ops a.tmps)=ac)(f:MC .any ops n ops.size i=ac)(h:∀W,S W->qP v W ((eC a.eval o).run P W))(c:a.put o.dst v=a')(d:EI P ops Q S n r a' w):EI P ops Q S n (.take i r) a w:=by
 subst c;refine⟨⟨o,v,hi,.inl ⟨g,λW b=>?_⟩,d.out⟩⟩;have:=h W (b f);unfold qP at this;split at this
 .rename_i e;obtain⟨rfl,rfl⟩:=this;exact e
 .exact this.elim
theorem VL{n i:Nat}{r:PT}{o:cT}{v:cR}{a a':Act}{w:cA}(hi:ops[i]? =cN o)(d:cJ o (et ops a.tmps)=ac)(h:∀W,qP v W ((eC a.eval o).run P W))(b:a.put o.dst v=a')(c:EI P ops Q S n r a' w):EI P ops Q S n (.take i r) a w:=by
 subst b;refine⟨⟨o,v,hi,.inl ⟨d,λW f=>?_⟩,c.out⟩⟩;have:=h W;unfold qP at this;split at this
 .rename_i e;obtain⟨rfl,rfl⟩:=this;exact e
 .exact this.elim
theorem aly{n i:Nat}{r:PT}{o:cT}{a a':Act}{w w1:cA}(hi:ops[i]? =cN o)(e:cJ o (et ops a.tmps)=ac)(h:(eC a.eval o).run P w=.ok .skip w1)(b:i≠n->S w1)(c:a.put o.dst gy=a')(d:EI P ops Q S n r a' w1):EI P ops Q S n (.one i r) a w:=by subst c;constructor;show ez P ops (er Q) i _ a w;unfold ez;simp only[hi,e,if_true,fl,h,eN];exact .inl ⟨b,d.out⟩
theorem anY{n i:Nat}{r:PT}{o:cT}{a:Act}{w w1:cA}{f:gl}{args:Array cR}(hi:ops[i]? =cN o)(j:cJ o (et ops a.tmps)=ac)(h:(eC a.eval o).run P w=.ok (.enter f args) w1)(c:ey P f args w1 λe w'=>∃v,e=cX v/\(i≠n->S w')/\EI P ops Q S n r (a.put o.dst v) w'):EI P ops Q S n (.one i r) a w:=by constructor;show ez P ops (er Q) i _ a w;unfold ez;simp only[hi,j,if_true,fl,h,eN];refine .inl (Calls.mono c λe w' d=>?_);obtain⟨v,rfl,b,g⟩:=d;exact⟨b,g.out⟩
def KN(n:Nat):PT->Bool
 |.done=>ac
 |.take i r=> !(i==n)&&KN n r
 |.one _ r=>KN n r
 |.two _ _ r s=>KN n r&&KN n s
theorem FC{n:Nat}(hs:cS ops=ac):∀(y:PT) (f:Nat) (listed:Array Bool) (a:Act) (w:cA),ptB .any ops y listed=ac->ptF y f=ac->KN n y=ac->e8 .any ops ops.size listed->uG n S listed w->UR P ops Q S n y a w->JW P .any ops (er Q) S n f listed a w
 |.done,f,listed,a,w,b,hF,c,g,u,h=>by
  have F:cF .any ops listed=[]:=by simpa[ptB]using b
  cases f with
  |zero=>exact⟨F,eW h⟩
  |succ f=>exact⟨λ_=>eW h,by rw[F];simp⟩
 |.take i r,0,listed,a,w,b,hF,c,g,u,h=>by cases hF
 |.take i r,f+1,listed,a,w,b,hF,c,g,u,h=>by
  simp only[ptB,cD]at b;simp only[KN,cD,Bool.not_eq_true',beq_eq_false_iff_ne]at c;obtain⟨o,v,hi,O,K⟩:=h;have H:i∈cF .any ops listed:=by simpa using b.1
  have J:i<ops.size:=(bS.1 hi).1;refine aax hi c.1 (fi hs) (λ_ _ _ h=>h) (λl W L M d N=>?_) f listed a w g (fy hi b.2.1) H O u
   (FC hs r f _ _ _ b.2.2 hF c.2 (g.set H J) ?_ K)
  .rcases d with d|d
   .rw[KO L _ _ N M]at d;cases d
   .exact d
  .unfold uG at*;rwa [e5 cG c.1]
 |.one i r,0,listed,a,w,b,hF,c,g,u,h=>by cases hF
 |.one i r,f+1,listed,a,w,b,hF,c,g,u,h=>by
  simp only[ptB,cD,beq_iff_eq]at b;refine⟨by rw[b.1];simp,λj p=>?_⟩;have z:j=i:=by rw[b.1]at p;simpa using p
  subst z;obtain⟨_,T,A,_⟩:=mem_ready.1 p;have x:j<ops.size:=(bS.1 A).1;refine cV (λa' w' m=>?_) h;have d:uG n S (listed.setIfInBounds j ac) w':=by
   unfold uG;by_cases e:j=n
   .subst e;left;have:j<listed.size:=by rw[g.size];exact x
    simp[this]
   .exact .inr (m.1 e)
  exact⟨d,FC hs r f _ _ _ b.2 hF c (g.set p x) d m.2⟩
 |.two i k r s,0,listed,a,w,b,hF,c,g,u,h=>by cases hF
 |.two i k r s,f+1,listed,a,w,b,hF,c,g,u,h=>by
  simp only[ptB,cD,beq_iff_eq]at b;simp only[ptF,cD]at hF;simp only[KN,cD]at c;refine⟨by rw[b.1];simp,λj p=>?_⟩;have z:j=i\/j=k:=by rw[b.1]at p;simpa using p
  obtain⟨_,T,A,_⟩:=mem_ready.1 p;have x:j<ops.size:=(bS.1 A).1;have d:∀W,(j≠n->S W)->uG n S (listed.setIfInBounds j ac) W:=λW I=>by
   unfold uG;by_cases e:j=n
   .subst e;left;have:j<listed.size:=by rw[g.size];exact x
    simp[this]
   .exact .inr (I e)
  rcases z with rfl|rfl
  .exact cV (λa' w' m=>⟨d _ m.1,FC hs r f _ _ _ b.2.1 hF.1 c.1 (g.set p x) (d _ m.1) m.2⟩) h.1
  .exact cV (λa' w' m=>⟨d _ m.1,FC hs s f _ _ _ b.2.2 hF.2 c.2 (g.set p x) (d _ m.1) m.2⟩) h.2
end
theorem afr{P:cW}{id:Nat}{Q:eL->Act->cA->Prop}{a:Act}{w:cA}{l:List cT}(S:cA->Prop)(n:Nat)(b:PT)(g:P.follows .mixedOrders=ac)(e:(cS l.toArray&&(ptB .any l.toArray b (cM l.length cG)&&(ptF b l.length&&KN n b)))=ac)(f:S w.drew)(h:EI P l.toArray Q S n b a w.drew):(e0 id l.toArray ac).wp P Q a w:=by
 simp only[cD]at e;obtain⟨hs,k,c,i⟩:=e;have m:e8 .any l.toArray l.toArray.size (cM l.length cG):=
  ⟨sZ,λj p _ c=>(by rw[eM]at c;cases c),λt o d=>oZ⟩
 have:=FC (Q:=Q) (P:=P) (S:=S) hs b l.length (cM l.length cG) a w.drew k c i m (.inr f) h.out;refine eE (gd g ?_);have d:=QV _ _ _ _ this;simpa using d
end L
namespace gT
open Go.RowKit L
def In64(v:gp):Prop:=((-9223372036854775808<=v.x/\v.x<=9223372036854775807)/\(-9223372036854775808<=v.y/\v.y<=9223372036854775807))/\(-9223372036854775808<=v.z/\v.z<=9223372036854775807)
theorem rat(a b:Int)(c: -9223372036854775808<=a)(d:a<=9223372036854775807)(f: -9223372036854775808<=b)(g:b<=9223372036854775807):∃r:Nat,uU a b=r/\∀w:cA,ey dC 213 #[a,b] w λe w'=>e=cX (cL fe r)/\∃n,w'=w.drewN n:=
 ⟨_,rfl,λw=>rM.XV a b c d f g w⟩
theorem apW(u a:gp)(b r1 r2:Nat)(c:uU u.x a.x=b)(e1:uU u.y a.y=r1)(e2:uU u.z a.z=r2):((gw u a:Nat):Int)=max (max (max 0 (if 0<u.x then(b:Int)else 0)) (if 0<u.y then(r1:Int)else 0)) (if 0<u.z then(r2:Int)else 0):=by unfold gw WJ;rw[c,e1,e2];split<;>split<;>split<;>omega
theorem arf(u a:gp)(o:In64 u)(g:In64 a):eP dC 173 #[u.val,a.val] (cL fe (gw u a)):=by
 obtain⟨u0,u1,u2⟩:=u;obtain⟨a0,a1,a2⟩:=a;obtain⟨⟨⟨p,r⟩,⟨s,v⟩⟩,⟨x,y⟩⟩:=o;obtain⟨⟨⟨i,j⟩,⟨k,l⟩⟩,⟨m,n⟩⟩:=g;obtain⟨z,f,b⟩:=rat u0 a0 p r i j;obtain⟨r1,e1,c⟩:=rat u1 a1 s v k l;obtain⟨r2,e2,d⟩:=rat u2 a2 x y m n;have hv:=qZ (apW ⟨u0,u1,u2⟩ ⟨a0,a1,a2⟩ z r1 r2 f e1 e2);intro w;unfold Vec.V.val;obtain⟨i0,I,J⟩:=idx u0 u1 u2;by_cases A:0<u0<;>by_cases F:0<u1<;>by_cases H:0<u2
 .go_enter e9,eQ;go_wp2;refine cQ 4 ?_;rw[cE];go_wp2_with fail;refine(b _).mono ?_;rintro e w'⟨rfl,n0,rfl⟩;go_wp2;rw[cE];go_wp2_with fail;refine(c _).mono ?_;rintro e w'⟨rfl,n1,rfl⟩;go_wp2;rw[cE];go_wp2_with fail;refine(d _).mono ?_;rintro e w'⟨rfl,n2,rfl⟩;go_wp2;rw[cE];go_wp2;go_returns;exact⟨fT (by rw[hv.out];repeat' split<;>omega),kp⟩
 .go_enter e9,eQ;go_wp2;refine cQ 4 ?_;rw[cE];go_wp2_with fail;refine(b _).mono ?_;rintro e w'⟨rfl,n0,rfl⟩;go_wp2;rw[cE];go_wp2_with fail;refine(c _).mono ?_;rintro e w'⟨rfl,n1,rfl⟩;(iterate 2 go_wp2;rw[cE]);go_wp2;go_returns;exact⟨fT (by rw[hv.out];repeat' split<;>omega),kp⟩
 .go_enter e9,eQ;go_wp2;refine cQ 4 ?_;rw[cE];go_wp2_with fail;refine(b _).mono ?_;rintro e w'⟨rfl,n0,rfl⟩;(iterate 2 go_wp2;rw[cE]);go_wp2_with fail;refine(d _).mono ?_;rintro e w'⟨rfl,n2,rfl⟩;go_wp2;rw[cE];go_wp2;go_returns;exact⟨fT (by rw[hv.out];repeat' split<;>omega),kp⟩
 .go_enter e9,eQ;go_wp2;refine cQ 4 ?_;rw[cE];go_wp2_with fail;refine(b _).mono ?_;rintro e w'⟨rfl,n0,rfl⟩;(iterate 3 go_wp2;rw[cE]);go_wp2;go_returns;exact⟨fT (by rw[hv.out];repeat' split<;>omega),kp⟩
 .go_enter e9,eQ;go_wp2;refine cQ 4 ?_;rw[cE];go_wp2;rw[cE];go_wp2_with fail;refine(c _).mono ?_;rintro e w'⟨rfl,n1,rfl⟩;go_wp2;rw[cE];go_wp2_with fail;refine(d _).mono ?_;rintro e w'⟨rfl,n2,rfl⟩;go_wp2;rw[cE];go_wp2;go_returns;exact⟨fT (by rw[hv.out];repeat' split<;>omega),kp⟩
 .go_enter e9,eQ;go_wp2;refine cQ 4 ?_;rw[cE];go_wp2;rw[cE];go_wp2_with fail;refine(c _).mono ?_;rintro e w'⟨rfl,n1,rfl⟩;(iterate 2 go_wp2;rw[cE]);go_wp2;go_returns;exact⟨fT (by rw[hv.out];repeat' split<;>omega),kp⟩
 .go_enter e9,eQ;go_wp2;refine cQ 4 ?_;(iterate 2 rw[cE];go_wp2);rw[cE];go_wp2_with fail;refine(d _).mono ?_;rintro e w'⟨rfl,n2,rfl⟩;go_wp2;rw[cE];go_wp2;go_returns;exact⟨fT (by rw[hv.out];repeat' split<;>omega),kp⟩
 .go_enter e9,eQ;go_wp2;refine cQ 4 ?_;(iterate 4 rw[cE];go_wp2);go_returns;exact⟨fT (by rw[hv.out];repeat' split<;>omega),kp⟩
end gT
namespace bT
open Go.Proofs.YtedmeglbjmdlhaaGreatDoor
theorem wL(n:Int): -1099511627776<=eV n 1099511627776/\eV n 1099511627776<=1099511627776:=by unfold eV;omega
theorem acP(a b:gp):gT.In64 (gf a b):=by
 have c:=wL (eV a.x 1099511627776+eV b.x 1099511627776);have d:=wL (eV a.y 1099511627776+eV b.y 1099511627776);have e:=wL (eV a.z 1099511627776+eV b.z 1099511627776);refine⟨⟨?_,?_⟩,?_⟩
 .show _<=eJ a.x b.x/\eJ a.x b.x<=_;unfold eJ;omega
 .show _<=eJ a.y b.y/\eJ a.y b.y<=_;unfold eJ;omega
 .show _<=eJ a.z b.z/\eJ a.z b.z<=_;unfold eJ;omega
theorem WY:gT.In64 gz:=by unfold gT.In64 gz;decide
theorem aeT(c:fj):gT.In64 (Cfg.xR c):=by
 unfold Cfg.xR;have:∀(l:List iI) (v:gp),gT.In64 v->gT.In64 (l.foldl (λv h=>gf v h.cap) v):=by
  intro l;induction l with
  |nil=>exactλv h=>h
  |cons x t a=>exactλv _=>a _ (acP _ _)
 exact this _ _ WY
theorem ahj(c:fj)(rs:List Top.R):∀x∈gA c rs,gT.In64 x:=by
 have f:∀(l:List Top.R) (u:Led.U),(∀i,gT.In64 (u i))->∀i,gT.In64 (l.foldl (λu r=>Led.change c u r.p.dI λa=>gf a (kM r.p)) u i):=by
  intro l;induction l with
  |nil=>exactλu h=>h
  |cons r t e=>
   intro u h;refine e _ (λi=>?_);show gT.In64 (Led.change c u r.p.dI (λa=>gf a (kM r.p)) i);unfold Led.change;by_cases b:iP c r.p.dI=ac
   .rw[aI b];unfold Led.bump;split
    .exact acP _ _
    .exact h i
   .rw[aF b];exact h i
 intro x d;unfold gA Led.all at d;obtain⟨i,_,rfl⟩:=bU.1 d;exact f rs _ (λi=>WY) i
open Go.RowKit L
theorem amK:(prog.info? 5).map (λi=>(i.zero,i.size,i.bytes))=cN (cN (cL .u8 0),1,1):=by kernel_rfl
theorem ahR(w:cA){n:Int}(g:0<=n/\n<=127):∃v' a,(Builtin.append_ #[239,239] 239 #[ac,cH w 1 1]).run dC (w.alloc (cC #[cL .u8 n] 5))=.ok v' a/\(convert 239 9 v').run dC a=.ok (gg (str [eR n])) a/\dT w w a:=by
 obtain⟨i0,hi,i,m,o⟩:=info_parts amK;have d:=acC g;have c:dT w w (w.alloc (cC #[cL .u8 n] 5)):=bZ;have hs:Src dC 1 239 (cH w 1 1) 1 (cellsOf [eR n]) (w.alloc (cC #[cL .u8 n] 5)):=by
  refine Src.ofSlice _ fr ⟨w,0,eu⟩ 1 1 (cellsOf [eR n]) rfl (λj u b=>?_) (OH _);cases j with
  |zero=>
   have e:u=cL .u8 n:=by simpa[cellsOf,d]using b.symm
   rw[e,addr_add,World.cell?_alloc_mark];rfl
  |succ j=>simp[cellsOf]at b
 obtain⟨v',a,e1,e2,e3,e4⟩:=tY (l:=[]) (new:=[eR n]) 239 239 239 5 i0 fr hi i m o (lM.nil (w.alloc (cC #[cL .u8 n] 5)) (w:Nat)) sZ hs sZ;exact⟨v',a,e1,EW 239 9 5 fr underlying5 gr e2,c.grown e3 sZ (λk f=>by cases f)⟩
theorem alk{n:Int}(a:0<=n/\n<=127):eP dC 266 #[n] (gg (str [eR n])):=by
 intro w;obtain⟨v',d,e1,e2,e3⟩:=ahR w a;have c:=qZ e3;have b:=qZ e1;have i:max n 0=n:=oZ;have j:IntKind.u8.wrap n=n:=by simp only[gh,gi,fN];simp;omega
 have g:decide (n>127)=cG:=by simp;omega
 obtain⟨e,f⟩:=a;go_enter func266,ntmps266;go_wp2_with fail;refine cQ 1 ?_;rw[cE];go_wp2_with(at_builtin;refine cK rfl (.tmp 16) (.tmp 19) _ _ rfl (cH eu 0 0) (cH w 1 1) rfl rfl b ?_);go_ret;exact⟨rfl,c⟩
theorem amN{n:Int}(a:0<=n/\n<=127):bits .and .u8 n 127=n:=by
 obtain⟨m,rfl⟩:∃m:Nat,n=m:=⟨n.toNat,oZ⟩;have h:=rH .u8 rfl m 127 (by show m<256;omega) dZ;have e:m&&& 127=m:=by have:m&&& 127=m%128:=Nat.and_two_pow_sub_one_eq_mod m 7;omega
 rw[e]at h;exact h
theorem amM{n:Int}(a:0<=n/\n<=127):bits .or cU 0 n=n:=by obtain⟨m,rfl⟩:∃m:Nat,n=m:=⟨n.toNat,oZ⟩;show IntKind.i64.wrap (((BitVec.ofInt 64 0|||BitVec.ofInt 64 (m:Int)).toNat:Nat):Int)=m;rw[show BitVec.ofInt 64 0=0#64 from rfl,BitVec.zero_or,toNat_ofInt 64 m oZ];simp only[gh,gi,fN];simp;omega
theorem amm{n:Int}(a:0<=n/\n<=127)(t:List UInt8)(p:t.length<=1000000):eP dC 311 #[gg (str (eR n::t))] (.tuple #[n,(1:Int),()]):=by
 intro w;have d:(str (eR n::t)).size=t.length+1:=by rw[nR,fc]
 obtain⟨s,hs⟩:=nZ (str (eR n::t));rw[hs]at d⊢;have f:∀w,(Instr.index 9 (gg s) (cL cU 0)).run dC w=.ok (cL .u8 n) w:=λw=>by
  have h:=tH 9 gr s cU 0 oZ w;have e:((s[0]'oZ).toNat:Int)=n:=by subst hs;exact acC a
  rw[e]at h;exact h
 have l:¬min (s.size:Int) 9<=0:=oZ;have m:0<min (s.size:Int) 9:=oZ;have j:=amN a;have c:=amM a;have k:decide (n<128)=ac:=by simp;omega
 obtain⟨g,i⟩:=a;clear hs;by_cases b:n=0
 .subst b;go_enter func311,ntmps311;go_wp2_with fail;refine cQ 1 ?_;rw[cE];go_wp2_with fail;all_goals first
   |(exfalso;omega)
   |(go_ret3;exact⟨rfl,aK _ _⟩)
   |(rw[c];go_ret3;exact⟨rfl,aK _ _⟩)
 .have o:(n==0)=cG:=by simpa using b
  go_enter func311,ntmps311;go_wp2_with fail;refine cQ 1 ?_;rw[cE];go_wp2_with fail;all_goals first
   |(exfalso;omega)
   |(go_ret3;exact⟨rfl,aK _ _⟩)
end bT
end Go.Proofs.YtedmeglbjmdlhaaGreatDoor
