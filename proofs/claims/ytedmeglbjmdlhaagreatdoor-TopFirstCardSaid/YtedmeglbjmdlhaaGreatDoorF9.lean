/-
Parts of TopFirst.
-/
import Derived.Test.YtedmeglbjmdlhaaGreatDoorF8
set_option maxRecDepth 100000
set_option maxHeartbeats 16000000
set_option linter.all false
open Go.Proofs.Tryz
namespace Go.Proofs.YtedmeglbjmdlhaaGreatDoor
open L.Blk renaming below->ac,new->dT,far->eA,bR->eL
open Go.Value renaming slice->cA,agg->cQ,bool->eC,slice->eN
open Go renaming loadCellsFrom->cC,World->cE,Value->cH,Program->cR,storeCells->cW,TypeId->cX,Calls->dC,bodyPost_ret->eJ
open Go.Sem renaming run->cD,run_bind->eE,run_pure->eI
open Option renaming none->cF,some->cI
open Go.Proofs renaming run_loadCellsFrom_list->cG,stores_of_holds->dE
open L renaming kD->cJ
open L.aD renaming drew->cL
open Go.Ending renaming returned->cM
open Go.Addr renaming add_lit->cN
open Nat renaming div_lt_of_lt_mul->cP
open Go.Sort renaming flatK->cS,get_flatK->cV,setMany->cY,size_swp->eK,get_setMany->eM
open Top renaming upH->cT
open Ne renaming symm->cU
open L Srt Top bT
namespace bT
open Go Go.RowKit Go.Sort L bO Srt
structure PH (P:Program) (k:Nat):Prop where
 mixed:P.follows .mixedOrders=true
 t3:P.underlying 3=some (TypeDesc.int IntKind.i64)
 a3:∀w,(isAgg 3).run P w=.ok false w
 z3:∀w,(Go.sizeOf 3).run P w=.ok 1 w
 v3:∀w,(zeroValue 3).run P w=.ok (Value.int IntKind.i64 0) w
 t4:P.underlying 4=some TypeDesc.bool
 a4:∀w,(isAgg 4).run P w=.ok false w
 z4:∀w,(Go.sizeOf 4).run P w=.ok 1 w
 v4:∀w,(zeroValue 4).run P w=.ok (Value.bool false) w
 ts:P.underlying 28=some (TypeDesc.slice 86)
 aS:∀w,(isAgg 28).run P w=.ok false w
 zs:∀w,(Go.sizeOf 28).run P w=.ok 1 w
 vs:∀w,(zeroValue 28).run P w=.ok (Value.slice none 0 0) w
 tf:∃a b c,P.underlying 263=some (TypeDesc.func a b c)
 af:∀w,(isAgg 263).run P w=.ok false w
 zf:∀w,(Go.sizeOf 263).run P w=.ok 1 w
 th:P.underlying 265=some (TypeDesc.struct #[{name:= "l",type:=28,offset:=0,embedded:=false,tag:= "",pkgPath:= "tithebarn/victims",byteOffset:=0},{name:= "less",type:=263,offset:=1,embedded:=false,tag:= "",pkgPath:= "tithebarn/victims",byteOffset:=24}])
 aE:∀w,(isAgg 86).run P w=.ok true w
 zE:∀w,(Go.sizeOf 86).run P w=.ok k w
 bs:∀(cs:Array cH) (w:cE),cs.size=k->(Instr.buildSlice 28 1 #[(0,cQ cs)]).run P w=.ok (cA w 1 1) (w.alloc (.cells cs 86))
 pos:0<k
 info:∃i z,P.info? 86=cI i/\i.zero=cI z/\i.size=k/\i.bytes=128/\z.cells.size=k
section
variable {P:cR} {α:Type} [Inhabited α] {enc:α->List cH} {k:Nat} {E:cX}
theorem ach(b:∀x,(enc x).length=k)(d:Array α):(cS enc k d).toList=d.toList.flatMap enc:=by
 apply fP;intro j;by_cases a:j<d.size*k
 .have f:0<k:=by
   rcases jF k with h|h
   .subst h;simp at a
   .exact h
  have e:j/k<d.size:=cP (by rwa [dW]at a);have e1:=cV enc k d j a;have e2:=flat_get b d.toList (j/k) (d[j/k]!) (j%k) (by rw[bX d _ e];simp[e]) (jO _ f);rw[show j/k*k+j%k=j by rw[dW,jI]]at e2;rw[e2,dF,bY (by simpa using a)];rw[bX (cS enc k d) j (by simpa using a)]at e1;have c:j%k<(enc d[j/k]!).length:=by rw[b];exact jO _ f
  rw[e1,bX (enc (d[j/k]!)) (j%k) c,aH c]
 .rw[eH (by simp;omega),eH (by rw[iN b];simp;omega)]
def Shape(W:cE)(g:Nat)(E:cX)(n:Nat):Prop:=∃cs:Array cH,Blk W g E cs/\cs.size=n
theorem Shape.on{W W':cE}{g n:Nat}(h:Shape W g E n)(c:aD W W'):Shape W' g E n:=by obtain⟨cs,a,b⟩:=h;exact⟨cs,ac a c a.lt,b⟩
theorem Shape.cells{W:cE}{g n:Nat}:∀(vs:List cH) (o:Nat) (W:cE),Shape W g E n->Shape (W.setCells g o vs) g E n
 |[],_,_,h=>h
 |v::vs,o,W,h=>by obtain⟨cs,a,b⟩:=h;exact Shape.cells (W:=W) vs (o+1) _ ⟨_,eL a o v,by simpa using b⟩
structure qN (enc:α->List Value) (k:Nat) (E:TypeId) (w:World) (g cap:Nat) (d:Array α) (W:World):Prop where
 sit:Sit enc k w g 0 d W
 shape:Shape W g E (cap*k)
 room:d.size<=cap/\cap<=maxLen
theorem qN.on{w W W':cE}{g cap:Nat}{d:Array α}(h:qN enc k E w g cap d W)(a:aD W W'):qN enc k E w g cap d W':=⟨h.sit.on a,h.shape.on a,h.room⟩
theorem aja(c:∀x,(enc x).length=k){w:cE}{g:Nat}{cur:Array cH}{d:Array α}(h:Blk w g E cur)(e:cur.toList.take (d.size*k)=d.toList.flatMap enc):HoldsK enc k w g 0 d:=λj a=>by
 have b:j<d.size*k:=by simpa using a
 have e1:cur[j]? =cI (cS enc k d)[j]! :=by
  rw[bX _ j a];have:(cS enc k d).toList[j]? =cI (cS enc k d)[j]:=by rw[dF,bY a]
  rw[ach c,<-e,dU,aI b,dF]at this;exact this
 exact⟨by rw[aO,h.cell,e1];rfl,by rw[aO];exact h.frozen j⟩
theorem aeu(i:∀x,(enc x).length=k){w:cE}{B:Nat}{v:cH}{xs:List α}(h:bL w B E k enc v xs)(m:xs≠[]):∃g cap,v=cA (cI ⟨g,0,cF⟩) xs.length cap/\B<=g/\qN enc k E w g cap xs.toArray w:=by
 obtain⟨n,⟨rfl,b⟩|⟨g,cap,cur,rfl,f,c,j,e,hs,l⟩⟩:=h
 .exact absurd (lC.1 b) m
 .have a:Blk w g E cur:=c;exact⟨g,cap,rfl,f,Sit.start (aja i (d:=xs.toArray) a (by simpa using l)) a.lt,⟨cur,a,hs⟩,by simpa using j,e⟩
theorem qN.row(b:∀x,(enc x).length=k){w W:cE}{g cap B:Nat}{d:Array α}(h:qN enc k E w g cap d W)(e:B<=g):bL W B E k enc (cA g d.size cap) d.toList:=by
 obtain⟨cs,c,hs⟩:=h.shape;refine⟨by rw[iN b],.inr ⟨g,cap,cs,sZ,e,c,by simpa using h.room.1,h.room.2,hs,?_⟩⟩;apply fP;intro j;by_cases a:j<d.size*k
 .have:=(h.sit.holds j (by simpa using a)).1;rw[aO,c.cell]at this;rw[dU,aI (by simpa using a),dF,this,<-ach b,dF,bY (by simpa using a),bX _ j (by simpa using a)];rfl
 .rw[dU,aF (by simpa using a),eH (by rw[iN b];simp;omega)]
theorem qN.swap(l:∀x,(enc x).length=k)(e:∀x,∀v∈enc x,v.oneCell'=true){w W:cE}{g cap:Nat}{d:Array α}(h:qN enc k E w g cap d W){i j:Nat}(hi:i<d.size)(f:j<d.size):cD P (cW ⟨g,0+i*k,cF⟩ (enc d[j]!) 0) W=.ok () (W.setCells g (0+i*k) (enc d[j]!))/\cD P (cW ⟨g,0+j*k,cF⟩ (enc d[i]!) 0) (W.setCells g (0+i*k) (enc d[j]!))=.ok () ((W.setCells g (0+i*k) (enc d[j]!)).setCells g (0+j*k) (enc d[i]!))/\qN enc k E w g cap (swp d i j) ((W.setCells g (0+i*k) (enc d[j]!)).setCells g (0+j*k) (enc d[i]!)):=by obtain⟨a,b,c⟩:=h.sit.swap (P:=P) l e hi f;exact⟨a,b,c,Shape.cells (W:=W) _ _ _ (Shape.cells (W:=W) _ _ _ h.shape),by rw[eK];exact h.room⟩
theorem mO(g:Nat):∀(vs:List cH) (o:Nat) (W:cE),aL (λi=>i=g) W (W.setCells g o vs)
 |[],_,W=>aL.refl _ _
 |v::vs,o,W=>((aL.refl (λi=>i=g) W).setCell (p:=⟨g,o,cF⟩) (.inl rfl) v).trans (mO g vs (o+1) _)
end
theorem abf{P:cR}{o:Oper}{a:Act}{w w':cE}{t:cX}{n:Nat}{x:Operand}(b:o.op=.buildSlice t n #[(0,x)]){vx v':cH}(d:a.eval x=vx)(c:(Instr.buildSlice t n #[(0,vx)]).run P w=.ok v' w'):(execOp a.eval o).run P w=.ok (.value v') w':=by unfold execOp;simp only[b,eE,eI,Result.andThen_ok,jD,dG,fQ,d,c]
structure UK (hb xb:Nat) (v fn:Value) (cs:Array Value) (W:World):Prop where
 heap:Blk W hb 265 #[v,fn]
 box:Blk W xb 86 cs
def UJ{α:Type}[Inhabited α](enc:α->List cH)(k B hb:Nat)(fn v:cH)(xs:List α)(w:cE)(e:Ending)(w':cE):Prop:=∃v',e=cM (.tuple #[])/\Blk w' hb 265 #[v',fn]/\bL w' B 86 k enc v' xs/\aL (λi=>i=hb\/v.ownBlock=cI i) w w'/\(∀g,v'.ownBlock=cI g->v.ownBlock=cI g\/(w:Nat)<=g)
theorem ape{α:Type}[Inhabited α](less:α->α->Bool)(f i j:Nat)(l:Array α)(a:0<i)(b:(i-1)/2=j)(h:less l[i]! l[j]! =true):cT less (f+1) i l=cT less f j ((l.setIfInBounds i l[j]!).setIfInBounds j l[i]!):=by
 subst b
 conv=>lhs;unfold cT
 rw[aI a,aI h]
theorem aaH{α:Type}[Inhabited α](less:α->α->Bool)(f i j:Nat)(l:Array α)(h:i=0\/((i-1)/2=j/\less l[i]! l[j]! =false)):cT less f i l=l:=by
 cases f with
 |zero=>rfl
 |succ f=>
  unfold cT;rcases h with h|⟨rfl,h⟩
  .rw[aF oZ]
  .split
   .rw[aF (by rw[h];decide)]
   .rfl
theorem alm{P:cR}{α:Type}[Inhabited α]{enc:α->List cH}{k:Nat}(L:PH P k)(hF:P.funcs[205]? =cI Tryz.f205)(a8:∀x,(enc x).length=k)(bl:∀x,∀v∈enc x,v.oneCell'=true)(less:α->α->Bool)(l:Nat)(dq:∀args w,(callFunc l args).run P w=.ok (.enter l args) w)(bu:∀(W:cE) (x y:α),dC P l #[cQ (enc x).toArray,cQ (enc y).toArray] W λe w'=>e=cM (eC (less x y))/\aD W w'){B a:Nat}{v:cH}{xs:List α}(x:α){w:cE}(ak:Blk w a 265 #[v,.func (.func l) #[] #[]])(ba:bL w B 86 k enc v xs)(bv:v.ownBlock≠cI a)(dt:B<=(w:Nat))(cu:xs.length<=100000):dC P 205 #[.pointer a,cQ (enc x).toArray] w λe w'=>UJ enc k B a (.func (.func l) #[] #[]) v (nY less xs.toArray x).toList w e w':=by
 have mixed:=L.mixed;have d8:=L.t3;have a3:=L.a3;have ec:=L.z3;have eb:=L.v3;have t4:=L.t4;have a4:=L.a4;have z4:=L.z4;have v4:=L.v4;have ts:=L.ts;have dj:=L.aS;have ef:=L.zs;have vs:=L.vs;have dk:=L.af;have ee:=L.zf;have d9:=L.th;have di:=L.aE;have ed:=L.zE;have ea:=run_underlying L.ts;have uh:=run_underlying L.th;obtain⟨i0,z0,bs,b5,b6,b7,b8⟩:=L.info;have p:=qZ a8;have bd:=qZ bl;have ch:=qZ bu;obtain⟨z,Q⟩:=nZ (w.alloc (.cells (enc x).toArray 86));have af:aD w z:=by rw[<-Q];exact bZ
 have b4:=ac ak af ak.lt;have b0:=ba.below af;have cx:(z:Nat)=(w:Nat)+1:=by rw[<-Q];simp
 have cb:Blk z w 86 (enc x).toArray:=by rw[<-Q];exact dT _ _ _
 have dz:a<(w:Nat):=ak.lt;have dv:a≠(w:Nat):=oZ;have K:=qZ (aC b4 cb);have ck:=qZ b0;have cm:=qZ Q;have be:=qZ af;have bg:=qZ bv;have ci:=qZ ba.lt;have bp:(enc x).toArray.size=k:=by simpa using a8 x
 have bi:=L.bs;have cd:=qZ bp;clear ak ba a8 bl bu Q af b4 b0 cb bv bp;go_enter hF,ntmps205;go_wp2_with fail;rw[cm.out];have aa:∀W,UK a (w:Nat) v (.func (.func l) #[] #[]) (enc x).toArray W->CV W a 0 v:=λW h=>h.heap.cell 0;have dg:∀W,UK a (w:Nat) v (.func (.func l) #[] #[]) (enc x).toArray W->cD P (cC ⟨w,0,cF⟩ 0 k #[]) W=.ok (enc x).toArray W:=λW h=>
  cG P W _ (enc x) k (p x) (λj u bc=>by rw[cN,aO,h.box.cell j];simpa using bc)
 refine iA (UK a (w:Nat) v (.func (.func l) #[] #[]) (enc x).toArray) 8 (.take 0 (.take 1 (.take 2 (.take 3 (.take 4 (.take 5 (.one 6 (.one 7 .done)))))))) L.mixed kZ ⟨K.1,K.2⟩ ?_;(iterate 6 refine tT ?_);clear aa dg;refine dQ ?_;obtain⟨wc,aj⟩:=nZ (z.drew.alloc (.cells (enc x).toArray 86));have a0:=bi (enc x).toArray z.drew cd;have M:aD z wc:=by rw[<-aj];exact(cL z).alloc lZ _
 have xc:Blk wc z 86 (enc x).toArray:=by rw[<-aj];exact dT _ _ _
 have s1:UK a (w:Nat) v (.func (.func l) #[] #[]) (enc x).toArray wc:=⟨ac K.1 M K.1.lt,ac K.2 M K.2.lt⟩;have bk:z.drew.heap.size=(z:Nat):=rfl;rw[aj,bk]at a0;obtain⟨v',r,az,b1,ag,_,bw⟩:=lF 28 28 i0 z0 128 ts bs b5 b6 b7 b8 L.pos p (ys:=[x]) (m:=1) (c:=1) (λu bc=>bd x u (by simpa using bc)) (ck.below M) rfl (qA xc rfl) (by have:=Below.size M;omega) (by unfold maxLen;omega) oZ;have s2:UK a (w:Nat) v (.func (.func l) #[] #[]) (enc x).toArray r:=⟨Blk.grown s1.heap ag (cU bg),Blk.grown s1.box ag λe=>by have:=(ci _ e.symm).2;omega⟩;rw[cx]at az;have N:=qZ (aC az (aC b1 (aC ag bw)));have cc:=qZ a0;have cl:=qZ s1;have Y:=qZ s2;have an:=qZ M;clear az b1 ag bw a0 s1 s2 M xc aj bi bs b5 b6 b7 b8 bk;apply cJ;rfl;rfl;exact abf (x:=.tmp 11) rfl rfl cc;exact cl;(focus(go_simp;first|done|rfl));refine dQ ?_;apply cJ;rfl;rfl;exact mW (s:=.tmp 10) (x:=.tmp 12) (vs:=v) (vx:=cA (cI ⟨(w:Nat)+1,0,cF⟩) 1 1) rfl rfl rfl N.1;exact Y;(focus(go_simp;first|done|rfl));obtain⟨g,cap,rfl,cp,b3⟩:=aeu p N.2.1 sZ;have a5:g≠a:=λe=>by
  rcases N.out.2.2.2 g rfl with h|h
  .exact bg (e▸h)
  .have:=Below.size an;omega
 have ar:=qZ b3;clear b3;refine fA ?_;show wpList P _ _ (List.drop 8 _) _ _;simp only[aZ,bB];have dl:CV r a 0 v:=Y.heap.cell 0;have dr:r.frozen? (a,0)=false:=Y.heap.frozen 0;have bt:(xs++[x]).length=xs.length+1:=sZ;rw[bt];obtain⟨n,a9⟩:=nZ xs.length;have bf:=qZ a9;rw[a9]at cu⊢;have ca:Blk (r.setCell (a,0) (cA g (n+1) cap)) a 265 #[cA g (n+1) cap,.func (.func l) #[] #[]]:=eL Y.heap 0 _;have r3:qN enc k 86 (r.setCell (a,0) (cA g (n+1) cap)) g cap (xs++[x]).toArray (r.setCell (a,0) (cA g (n+1) cap)):=by obtain⟨cs,bm,cw⟩:=ar.shape;have far:Blk (r.setCell (a,0) (cA g (n+1) cap)) g 86 cs:=eA bm a5 _;refine⟨Sit.start (λj ah=>?_) far.lt,⟨cs,far,cw⟩,ar.room⟩;have:=ar.sit.holds j ah;exact⟨by rw[far.cell];rw[bm.cell]at this;exact this.1,by rw[far.frozen]⟩
 have b9:aL (λi=>i=a\/v.ownBlock=cI i) w (r.setCell (a,0) (cA g (n+1) cap)):=by have da:aL (λi=>i=a\/v.ownBlock=cI i) w _:=aL.bQ (be.out.trans (Below.mono an (Below.size be)));have db:=da.trans' (aL.jX (F:=λi=>v.ownBlock=cI i) N.2.2.1 λi hi=>hi) (λi _ hi=>.inr hi);exact db.setCell (.inl (.inl rfl)) _
 have cn:=qZ ca;have cj:=qZ r3;have cg:=qZ b9;clear ca r3 b9 a9 bt;have ce:=qY (cT less n n (xs++[x]).toArray=nY less xs.toArray x) (by
  unfold nY;have e:xs.toArray.size=n:=by rw[<-bf.out];simp
  rw[e];simp)
 go_wp2_with fail;go_loopg[4] n (λco v4 wr=>∃(i f:Nat) (d:Array α),v4=.int .i64 i/\f<=co/\i<=f/\d.size=n+1/\i<n+1/\Hid (Blk wr a 265 #[cA g (n+1) cap,.func (.func l) #[] #[]])/\Hid (qN enc k 86 (r.setCell (a,0) (cA g (n+1) cap)) g cap d wr)/\Hid (cT less f i d=nY less xs.toArray x));exact⟨n,n,(xs++[x]).toArray,by first|rfl|go_num,bG _,bG _,by simp[bf.out],oZ,cn,cj,ce⟩
 obtain⟨i,ax,d,rfl,du,dw,bb,dx,A,O,av⟩:=hrel;have bh:=qY (∀ab al,ab=nY less xs.toArray x->Blk al a 265 #[cA g (n+1) cap,.func (.func l) #[] #[]]->ab.size=n+1->qN enc k 86 (r.setCell (a,0) (cA g (n+1) cap)) g cap ab al->UJ enc k B a (.func (.func l) #[] #[]) v (nY less xs.toArray x).toList w (cM (.tuple #[])) al) (λab al e cq cv bz=>by
  subst e;have b2:=bz.row p cp;rw[cv]at b2;have br:v.ownBlock=cI g\/(w:Nat)<=g:=by
   rcases N.out.2.2.2 g rfl with h|h
   .exact .inl h
   .have:=Below.size an;exact .inr oZ
  refine⟨_,rfl,cq,b2,cg.out.trans' bz.sit.bA λq ai e=>?_,λq ai=>?_⟩
  .rcases br with h|h
   .exact .inr (by rw[h,e])
   .omega
  .injection ai with ai;exact ai▸br)
 by_cases ds:0<i
 .obtain⟨b,rfl⟩:∃b,i=b+1:=⟨i-1,oZ⟩;obtain⟨f,rfl⟩:∃f,ax=f+1:=⟨ax-1,oZ⟩;obtain⟨j,ah⟩:=nZ (b/2);have dy:j<=b:=oZ;obtain⟨I,T⟩:=nZ (d[b+1]!);obtain⟨J,X⟩:=nZ (d[j]!);obtain⟨s,hs⟩:=nZ (less I J);have au:=qZ (λe:s=false=>aaH less (f+1) (b+1) j d (.inr ⟨oZ,by rw[T,X,hs,e]⟩));have ap:=qZ (λe:s=true=>ape less f (b+1) j d oZ oZ (by rw[T,X,hs,e]));have c0:(0:Int)<(b:Int)+1:=oZ;have bq:(b:Int)/2=(j:Int):=oZ;have cr:Int.tdiv (b:Int) 2=(j:Int):=by rw[Int.tdiv_eq_ediv_of_nonneg oZ];exact bq
  have aa:∀W,aD wr W->CV W a 0 (cA g (n+1) cap):=λW o=>(ac A o A.out.lt).cell 0;have c1:∀W,aD wr W->CV W a 1 (.func (.func l) #[] #[]):=λW o=>(ac A o A.out.lt).cell 1;have dc:∀W,aD wr W->cD P (cC ⟨g,(b+1)*k,cF⟩ 0 k #[]) W=.ok (enc I).toArray W:=λW o=>by have:=(O.on o).sit.load (P:=P) p (j:=b+1) oZ;rwa [aO,T]at this
  have de:∀W,aD wr W->cD P (cC ⟨g,j*k,cF⟩ 0 k #[]) W=.ok (enc J).toArray W:=λW o=>by have:=(O.on o).sit.load (P:=P) p (j:=j) oZ;rwa [aO,X]at this
  have bj:∀W,aD wr W->dC P l #[cQ (enc I).toArray,cQ (enc J).toArray] W λe w'=>e=cM (eC s)/\aD wr w':=λW o=>
   (ch W I J).mono λe w' ⟨ct,a⟩=>⟨by rw[ct,hs],aA o a⟩
  have d6:(j:Int)<(n:Int)+1:=oZ;have d0:(b:Int)+1<(n:Int)+1:=oZ;have dp:((b:Int)+1).toNat=b+1:=oZ;have d7:(0:Int)<=(b:Int)+1:=oZ;have H:=qZ (aC T X);clear ah T X hs;go_wp2_with fail;clear bq cr;refine oJ L.mixed kZ ?_;(repeat refine kY ?_);refine kJ bj ?_;(repeat refine kY ?_);refine dP ?_;intro W o;have Z:=qZ o;clear aa c1 dc de bj o;cases s
  .have ao:=qZ (bh d W (by rw[<-av.out];exact(au rfl).symm) (ac A Z A.out.lt) bb (O.on Z));clear au ap;go_wp2_with fail
   go_end0
   exact ao
  .have aq:=qZ (ap rfl);clear au ap;go_wp2_with fail;have ae:=(O.on Z).on (cL W);have ay:=ac A (aA Z (cL W)) A.out.lt;have aa:W.drew.cell? (a,0)=cI (cA g (n+1) cap):=ay.cell 0;have dd:cD P (cC ⟨g,(b+1)*k,cF⟩ 0 k #[]) W.drew=.ok (enc I).toArray W.drew:=by have:=ae.sit.load (P:=P) p (j:=b+1) oZ;rwa [aO,H.1]at this
   have df:cD P (cC ⟨g,j*k,cF⟩ 0 k #[]) W.drew=.ok (enc J).toArray W.drew:=by have:=ae.sit.load (P:=P) p (j:=j) oZ;rwa [aO,H.2]at this
   obtain⟨s1,s2,s3⟩:=ae.swap (P:=P) p bd (i:=b+1) (j:=j) oZ oZ;have ad:=(ay.bA (mO g (enc d[j]!) (0+(b+1)*k) W.drew) (cU a5)).bA (mO g (enc d[b+1]!) (0+j*k) _) (cU a5);rw[H.out.1,H.out.2]at s2 s3 ad;rw[H.out.2]at s1;rw[aO]at s1;rw[aO,aO]at s2 s3 ad;rw[H.out.1,H.out.2,av.out]at aq;rw[show(d.setIfInBounds (b+1) J).setIfInBounds j I=swp d (b+1) j by rw[<-H.out.1,<-H.out.2];rfl]at aq;have aw:=qZ s3;have am:=qZ ad;have cy:(enc I).length=k:=p _;have cz:(enc J).length=k:=p _;clear s3 ad ae ay;obtain⟨dm,bn⟩:∃c,c=enc I:=⟨_,rfl⟩;obtain⟨dn,bo⟩:∃c,c=enc J:=⟨_,rfl⟩;rw[<-bn]at dd s2 cy aw am⊢;rw[<-bo]at df s1 s2 cz aw am⊢;clear bn bo
   go_big_region_o
   all_goals go_wp2
   go_roundg f;exact⟨j,f,swp d (b+1) j,rfl,bG _,oZ,by rw[eK];exact bb,oZ,am,aw,qZ aq.out.symm⟩;omega
 .have c0:¬(0:Int)<(i:Int):=oZ;have ao:=qZ (bh d wr (by rw[<-av.out];exact(aaH less ax i 0 d (.inl oZ)).symm) A bb O);go_wp2_with fail
  go_end0
  exact ao
open Go Go.RowKit Go.Sort L bO Srt
section
variable {P:cR} {α:Type} [Inhabited α] {enc:α->List cH} {k:Nat} {E:cX}
theorem adn(enc:α->List cH)(k:Nat)(g:∀x,(enc x).length=k)(d:Array α)(i:Nat)(hi:i<d.size)(y:α):cY (cS enc k d) (i*k) (enc y)=cS enc k (d.setIfInBounds i y):=by
 refine ext_get! sZ λt j=>?_;have b:t<d.size*k:=by simpa using j
 have f:0<k:=by
  rcases jF k with h|h
  .subst h;simp at b
  .exact h
 rw[eM _ _ _ t (by simpa using b),cV _ _ _ t b,cV _ _ _ t (by simpa using b),g];have c:t/k<d.size:=cP (by rwa [dW]at b);by_cases a:t/k=i
 .rw[aI ((blk_iff k i t f).2 a)];have e:t-i*k=t%k:=by rw[<-a,Nat.mod_eq_sub_div_mul]
  rw[e,a];rw[bX (d.setIfInBounds i y) i (by simpa using hi)];simp
 .rw[aF λh=>a ((blk_iff k i t f).1 h)];rw[bX (d.setIfInBounds i y) (t/k) (by simpa using c),bX d (t/k) c];rw[Array.getElem_setIfInBounds (by simpa using c),aF (cU a)]
theorem qN.put(c:∀x,(enc x).length=k)(j:∀x,∀v∈enc x,v.oneCell'=true){w W:cE}{g cap:Nat}{d:Array α}(h:qN enc k E w g cap d W){i:Nat}(hi:i<d.size)(y:α):cD P (cW ⟨g,0+i*k,cF⟩ (enc y) 0) W=.ok () (W.setCells g (0+i*k) (enc y))/\qN enc k E w g cap (d.setIfInBounds i y) (W.setCells g (0+i*k) (enc y)):=by
 have f:i*k+k<=d.size*k:=by have:=dD k (show i+1<=d.size from hi);rwa [fZ,Nat.one_mul]at this
 have a:(i*k)+(enc y).length<=(cS enc k d).size:=by rw[c,size_flatK];exact f
 have b:Holds id (W.setCells g (0+i*k) (enc y)) g 0 (cY (cS enc k d) (i*k) (enc y)):=by
  have e:W.setCells g (0+i*k) (enc y)=putRow id W g 0 (cY (cS enc k d) (i*k) (enc y)):=by
   conv=>lhs;rw[<-putRow_self id W g 0 (cS enc k d) h.sit.holds]
   exact setCells_putRow _ _ _ _ _ _ a
  rw[e];exact holds_putRow id W g 0 (cS enc k d) _ h.sit.holds (by rw[size_setMany])
 rw[adn enc k c d i hi y]at b;refine⟨dE P h.sit.holds _ _ a (j _),⟨h.sit.bA.trans (mO g _ _ _),b,by rw[uT];exact h.sit.lt⟩,Shape.cells (W:=W) _ _ _ h.shape,by simpa using h.room⟩
theorem qN.pop{w W:cE}{g cap:Nat}{d:Array α}(h:qN enc k E w g cap d W):qN enc k E w g cap d.pop W:=by
 refine⟨⟨h.sit.bA,λj c=>?_,h.sit.lt⟩,h.shape,by have:=h.room;simp;omega⟩;have a:j<(d.size-1)*k:=by simpa using c
 have b:j<d.size*k:=aM a (dD k (Nat.sub_le _ _));have f:j/k<d.size-1:=cP (by rwa [dW]at a);have:=h.sit.holds j (by simpa using b);rw[cV _ _ _ _ b]at this;rw[cV _ _ _ _ (by simpa using a)];have e:d.pop[j/k]! =d[j/k]! :=by rw[bX d.pop (j/k) (by simpa using f),bX d (j/k) oZ,Array.getElem_pop]
 rw[e];exact this
end
theorem QA{P:cR}{α:Type}{enc:α->List cH}{E:cX}(c:∀x,∀v∈enc x,v.oneCell'=true){W:cE}{b:Nat}{cs:Array cH}(h:Blk W b E cs)(y:α)(i:(enc y).length=cs.size):cD P (cW ⟨b,0,cF⟩ (enc y) 0) W=.ok () (W.setCells b 0 (enc y))/\Blk (W.setCells b 0 (enc y)) b E (enc y).toArray:=by
 have d:Holds id W b 0 cs:=λj a=>⟨by rw[aO,h.cell,bX cs j a,bY a];rfl,by rw[aO];exact h.frozen j⟩;have s:=dE P d 0 (enc y) oZ (c y);rw[aO]at s;refine⟨s,?_⟩;have l:∀(vs:List cH) (o:Nat) (W:cE) (cs:Array cH),Blk W b E cs->Blk (W.setCells b o vs) b E (cY cs o vs):=by
  intro vs;induction vs with
  |nil=>exactλo W cs h=>h
  |cons v vs k=>exactλo W cs h=>k (o+1) _ _ (eL h o v)
 have e:cY cs 0 (enc y)=(enc y).toArray:=by
  refine ext_get! (by simp[i]) λt f=>?_;have g:t<cs.size:=by simpa using f
  rw[eM _ _ _ t g,aI ⟨bI _,oZ⟩,Nat.sub_zero];rw[bX (enc y) t oZ,bX (enc y).toArray t (by simpa using(show t<(enc y).length by omega))];simp
 have:=l (enc y) 0 W cs h;rwa [e]at this
theorem amA{α:Type}[Inhabited α](less:α->α->Bool)(n f i a:Nat)(l:Array α)(h:2*i+1<n)(b:(if 2*i+2<n&&less l[2*i+2]! l[2*i+1]! then 2*i+2 else 2*i+1)=a)(c:less l[a]! l[i]! =true):sO less n (f+1) i l=sO less n f a ((l.setIfInBounds i l[a]!).setIfInBounds a l[i]!):=by
 conv=>lhs;unfold sO
 rw[aI h,b];simp only;rw[aI c]
theorem agr{α:Type}[Inhabited α](less:α->α->Bool)(n f i:Nat)(l:Array α)(h:¬2*i+1<n):sO less n f i l=l:=by
 cases f with
 |zero=>rfl
 |succ f=>unfold sO;rw[aF h]
theorem adI{α:Type}[Inhabited α](less:α->α->Bool)(n f i a:Nat)(l:Array α)(b:(if 2*i+2<n&&less l[2*i+2]! l[2*i+1]! then 2*i+2 else 2*i+1)=a)(c:less l[a]! l[i]! =false):sO less n f i l=l:=by
 cases f with
 |zero=>rfl
 |succ f=>
  unfold sO;split
  .rw[b];simp only;rw[aF (by rw[c];decide)]
  .rfl
theorem anF{P:cR}{t E:cX}{i:TypeInfo}(d:P.underlying t=cI (.slice E))(hi:P.info? E=cI i){g n m cap:Nat}(b:m<=n)(c:n<=cap)(W:cE):(Instr.slice t (cA g n cap) cF (cI (.int .i64 m)) cF).run P W=.ok (cA g m cap) W:=by
 have a:Addr.add ⟨g,0,cF⟩ 0=⟨g,0,cF⟩:=by rw[cN]
 simp[Instr.slice,run_underlying d,Instr.sliceBounds,Instr.sliceBound,asIntOf,sizeOf,typeInfo,hi,bC b c,a]
theorem ZU{P:cR}{c:Array Oper}{rest:List Oper}{o:Oper}{a:Act}{w:cE}{Q:Exit->Act->cE->Prop}(f:o.guard=cF)(s y:Operand)(t e:cX)(k:P.underlying t=cI (.slice e))(g:o.op=.slice t s cF (cI y) cF)(vs b:cH){v':cH}(hs:a.eval s=vs)(l:a.eval y=b)(j:(Instr.slice t vs cF (cI b) cF).run P w=.ok v' w)(h:wpList P c Q rest (a.put o.dst v') w):wpList P c Q (o::rest) a w:=
 wpList_plain f λ_ d=>by
  have i:(Instr.sliceAt t vs cF (cI b) cF).run P w=.ok v' w:=by simp[Instr.sliceAt,run_underlying k,j]
  unfold Oper.wp execOp;simp only[g,eE,eI,Result.andThen_ok,Option.map_none,Option.map_some,hs,l,i];exact d _ _ h
def UL{α:Type}[Inhabited α](enc:α->List cH)(k B hb:Nat)(fn v:cH)(x:α)(xs:List α)(w:cE)(e:Ending)(w':cE):Prop:=∃v',e=cM (cQ (enc x).toArray)/\Blk w' hb 265 #[v',fn]/\bL w' B 86 k enc v' xs/\aL (λi=>i=hb\/v.ownBlock=cI i) w w'/\v'.ownBlock=v.ownBlock
theorem anV{P:cR}{α:Type}[Inhabited α]{enc:α->List cH}{k:Nat}(L:PH P k)(hF:P.funcs[206]? =cI Tryz.f206)(au:∀x,(enc x).length=k)(cn:∀x,∀v∈enc x,v.oneCell'=true)(less:α->α->Bool)(H:Nat)(fy:∀args w,(callFunc H args).run P w=.ok (.enter H args) w)(d6:∀(W:cE) (x y:α),dC P H #[cQ (enc x).toArray,cQ (enc y).toArray] W λe w'=>e=cM (eC (less x y))/\aD W w')(O:Array cH)(dc:O.size=k)(di:∀w,(zeroValue 86).run P w=.ok (cQ O) w){B a:Nat}{v:cH}{xs:List α}{w:cE}(bg:Blk w a 265 #[v,.func (.func H) #[] #[]])(d8:bL w B 86 k enc v xs)(d7:v.ownBlock≠cI a)(fb:xs.length<=100000)(db:xs≠[]):dC P 206 #[.pointer a] w λe w'=>UL enc k B a (.func (.func H) #[] #[]) v (xs.toArray[0]!) (qK less xs.toArray).toList w e w':=by
 have mixed:=L.mixed;have dg:=L.t3;have a3:=L.a3;have dl:=L.z3;have dh:=L.v3;have t4:=L.t4;have a4:=L.a4;have z4:=L.z4;have v4:=L.v4;have ts:=L.ts;have ft:=L.aS;have gb:=L.zs;have vs:=L.vs;have cl:=L.af;have dm:=L.zf;have f9:=L.th;have dq:=L.aE;have es:=L.zE;have ga:=run_underlying L.ts;have uh:=run_underlying L.th;obtain⟨i0,z0,dy,fj,fl,fn,fo⟩:=L.info;have z:=qZ au;have af:=qZ cn;have a0:=qZ d6;obtain⟨g,cap,rfl,ex,be⟩:=aeu au d8 db;have b3:g≠a:=λe=>d7 (by rw[e];rfl);obtain⟨n,b4⟩:∃n,xs.length=n+1:=⟨xs.length-1,by have:=oF.2 db;omega⟩;have dn:=qZ b4;rw[b4]at fb bg⊢;obtain⟨d,b2⟩:=nZ xs.toArray;rw[b2]at be⊢;have dx:d.size=n+1:=by rw[<-b2];simpa using b4
 obtain⟨x0,b6⟩:=nZ (d[0]!);obtain⟨xn,eg⟩:=nZ (d[n]!);rw[b6];obtain⟨w1,cy⟩:=nZ (w.alloc (.cells O 86));have aj:aD w w1:=by rw[<-cy];exact bZ
 have fm:(w1:Nat)=(w:Nat)+1:=by rw[<-cy];simp
 have dj:Blk w1 w 86 O:=by rw[<-cy];exact dT _ _ _
 obtain⟨bk,ec⟩:=nZ (w1.alloc (.cells O 86));have cq:aD w1 bk:=by rw[<-ec];exact bZ
 have em:Blk bk ((w:Nat)+1) 86 O:=by rw[<-ec,<-fm];exact dT _ _ _
 have ep:Blk bk w 86 O:=ac dj cq dj.lt;obtain⟨st,dk⟩:=QA (P:=P) cn em x0 (by rw[au,dc]);obtain⟨A,cz⟩:=nZ (bk.setCells ((w:Nat)+1) 0 (enc x0));rw[cz]at st dk;have bd:a<(w:Nat):=bg.lt;have e0:g<(w:Nat):=be.sit.lt;have cu:aL (λi=>i=(w:Nat)+1) bk A:=by rw[<-cz];exact mO _ _ _ _
 have eq:Blk A w 86 O:=ep.bA cu oZ;have dz:aL (λ_=>False) w A:=((aL.bQ aj).trans (aL.bQ (F:=λ_=>False) (Below.mono cq lZ))).trans' cu (λi hi e=>oZ);have b1:aD w A:=dz.below lZ (λi h=>h.elim);have da:Blk A a 265 #[cA g (n+1) cap,.func (.func H) #[] #[]]:=ac bg b1 bd;have d9:=be.on b1;have ej:cD P (cC ⟨g,0,cF⟩ 0 k #[]) w1=.ok (enc x0).toArray w1:=by have:=(be.on aj).sit.load (P:=P) au (j:=0) oZ;rwa [b6,kP]at this
 have c1:CV w1 a 0 (cA g (n+1) cap):=(ac bg aj bd).cell 0;have c3:CV A a 0 (cA g (n+1) cap):=da.cell 0;have bf:(enc x0).length=k:=au _;have X:=qZ (aC da (aC dk eq));have a8:=qZ d9;have bl:=qZ b1;have az:=qZ (aC b2 (aC b6 eg));obtain⟨bu,N⟩:∃c,c=enc x0:=⟨_,rfl⟩;rw[<-N]at st ej bf;have ay:=qZ N;clear bg d8 au cn d6 d7 b4 b2 b6 eg be aj dj cq em ep dk cz cu eq dz b1 da d9 db N;go_enter hF,ntmps206;go_wp2_with fail;clear ej st c1 c3;have c3:A.drew.cell? (a,0)=cI (cA g (n+1) cap):=X.1.cell 0;have cw:=a8.on (cL A);have ek:cD P (cC ⟨g,n*k,cF⟩ 0 k #[]) A.drew=.ok (enc xn).toArray A.drew:=by have:=cw.sit.load (P:=P) z (j:=n) oZ;rwa [az.2.2,aO]at this
 obtain⟨st,b5⟩:=cw.put (P:=P) z af (i:=0) oZ xn;rw[kP,aO]at st b5;have aw:=mO g (enc xn) 0 A.drew;obtain⟨K,ed⟩:=nZ (A.drew.setCells g 0 (enc xn));rw[ed]at st b5 aw;have b7:=(ac X.1 (cL A) X.1.lt).bA aw (cU b3);have en:=(ac X.2.1 (cL A) X.2.1.lt).bA aw oZ;have er:=(ac X.2.2 (cL A) X.2.2.lt).bA aw oZ;have fi:(enc xn).length=k:=z _;have bs:=qY (aL (λi=>i=g) w K) ((aL.bQ (aA bl (cL A))).trans' aw λi _ h=>h);have c4:CV K a 0 (cA g (n+1) cap):=b7.cell 0;have et:K.frozen? (a,0)=false:=b7.frozen 0;have ar:=qZ (aC b7 (aC en er));have ao:=qZ b5.pop;obtain⟨fu,du⟩:∃c,c=enc xn:=⟨_,rfl⟩;rw[<-du]at st ek fi;clear cw b5 aw ed b7 en er du;have hcut:=anF (P:=P) (W:=K) ts dy (g:=g) (n:=n+1) (m:=n) (cap:=cap) (eX n) (by have:=a8.room.1;omega);have cc:=qZ hcut;clear hcut dy fj fl fn fo
 go_big_region_o
 clear ek st c3;go_wp2_with(with_reducible refine ZU rfl (.tmp 35) (.tmp 36) _ _ ts rfl (cA g (n+1) cap) n rfl rfl cc.out ?_);have eo:Blk (K.setCell (a,0) (cA g n cap)) a 265 #[cA g n cap,.func (.func H) #[] #[]]:=eL ar.1 0 _;have dr:Blk (K.setCell (a,0) (cA g n cap)) (w:Nat) 86 O/\Blk (K.setCell (a,0) (cA g n cap)) ((w:Nat)+1) 86 (enc x0).toArray:=
  ⟨eA ar.2.2 (by show(w:Nat)≠a;omega) _,eA ar.2.1 (by show(w:Nat)+1≠a;omega) _⟩
 have el:qN enc k 86 (K.setCell (a,0) (cA g n cap)) g cap (d.setIfInBounds 0 xn).pop (K.setCell (a,0) (cA g n cap)):=by obtain⟨cs,aj,fe⟩:=ao.shape;have far:Blk (K.setCell (a,0) (cA g n cap)) g 86 cs:=eA aj b3 _;refine⟨Sit.start (λj e5=>?_) far.lt,⟨cs,far,fe⟩,ao.room⟩;have:=ao.sit.holds j e5;exact⟨by rw[far.cell];rw[aj.cell]at this;exact this.1,by rw[far.frozen]⟩
 have ei:aL (λi=>i=a\/(eN g (n+1) cap).ownBlock=cI i) w (K.setCell (a,0) (cA g n cap)):=by refine(bs.mono (G:=λi=>i=a\/(eN g (n+1) cap).ownBlock=cI i) λi _ h=>.inr (by rw[h];rfl)).setCell (.inl (.inl rfl)) _
 have bt:=qZ (show∀(o:Array α) (wr I:cE),o=qK less d->Blk wr a 265 #[cA g n cap,.func (.func H) #[] #[]]->o.size=n->qN enc k 86 (K.setCell (a,0) (cA g n cap)) g cap o wr->aL (λi=>i=(w:Nat)) wr I->UL enc k B a (.func (.func H) #[] #[]) (cA g (n+1) cap) x0 (qK less d).toList w (cM (cQ (enc x0).toArray)) I fromλo wr I e ey fd cv ct=>by subst e;have f2:g<(wr:Nat):=cv.sit.lt;have ea:=cv.row z ex;rw[fd]at ea;refine⟨_,rfl,ey.bA ct oZ,ea.bA λq av=>?_,(ei.trans' cv.sit.bA λq av e=>.inr (by rw[e];rfl)).trans' ct λq av e=>oZ,rfl⟩;injection av with av;have av:g=q:=av;exact ct.block q oZ oZ);have bn:=qY (sO less n n 0 (d.setIfInBounds 0 xn).pop=qK less d) (by unfold qK;rw[dx,gN,az.out.2.2]);have br:=qZ eo;have bm:=qZ dr;have bq:=qZ el;clear eo dr el ei c4 et;go_loopg[5] n (λeu fr wr=>∃(i f:Nat) (o:Array α),fr=.int .i64 i/\f<=eu/\n<=f+i/\i<=n/\o.size=n/\Hid (Blk wr a 265 #[cA g n cap,.func (.func H) #[] #[]])/\Hid (Blk wr w 86 O/\Blk wr ((w:Nat)+1) 86 (enc x0).toArray)/\Hid (qN enc k 86 (K.setCell (a,0) (cA g n cap)) g cap o wr)/\Hid (sO less n f i o=qK less d));exact⟨0,n,(d.setIfInBounds 0 xn).pop,by first|rfl|go_num,bG _,oZ,oZ,by simp[dx],br,bm,bq,bn⟩
 obtain⟨i,cm,o,rfl,f0,f1,f4,cx,Q,Z,ah,ai⟩:=hrel;obtain⟨p,d0⟩:=nZ (2*i+1);have e9:2*(i:Int)+1=(p:Int):=oZ;have ag:=qZ d0;by_cases bd:p<n
 .have fc:(p:Int)<(n:Int):=oZ;obtain⟨f,rfl⟩:∃f,cm=f+1:=⟨cm-1,oZ⟩;obtain⟨ad,ee⟩:=nZ (o[i]!);obtain⟨b9,ef⟩:=nZ (o[p]!);obtain⟨ca,eh⟩:=nZ (o[p+1]!);obtain⟨bj,eb⟩:=nZ ((decide (p+1<n)&&less ca b9));have J:=qZ (aC ee (aC ef eh));have ap:=qZ eb;clear ee ef eh eb d0;go_upto_region 8 with fail;clear e9;go_cut[73] (λb ax=>b=eC bj/\Hid (aD wr ax));case first=>
   have ba:∀W,aD wr W->CV W a 0 (cA g n cap):=λW l=>(ac Q l Q.out.lt).cell 0;have c1:∀W,aD wr W->CV W a 1 (.func (.func H) #[] #[]):=λW l=>(ac Q l Q.out.lt).cell 1;have e8:p<=100000:=oZ;have dp:=qY (IntKind.i64.wrap ((p:Int)+1)=(p:Int)+1) (by rw[IntKind.wrap_i64];omega);by_cases bv:p+1<n
   .have ew:decide ((p:Int)+1<(n:Int))=true:=decide_eq_true oZ;have ev:decide (p+1<n)=true:=decide_eq_true bv;have fz:(p:Int)+1<(n:Int):=oZ;have dd:∀W,aD wr W->cD P (cC ⟨g,(p+1)*k,cF⟩ 0 k #[]) W=.ok (enc ca).toArray W:=λW l=>by have:=(ah.on l).sit.load (P:=P) z (j:=p+1) oZ;rwa [aO,J.2.2]at this
    have de:∀W,aD wr W->cD P (cC ⟨g,p*k,cF⟩ 0 k #[]) W=.ok (enc b9).toArray W:=λW l=>by have:=(ah.on l).sit.load (P:=P) z (j:=p) oZ;rwa [aO,J.2.1]at this
    have bb:∀W,aD wr W->dC P H #[cQ (enc ca).toArray,cQ (enc b9).toArray] W λe w'=>e=cM (eC bj)/\aD wr w':=λW l=>
     (a0 W ca b9).mono λe w' ⟨cr,a⟩=>⟨by rw[cr,<-ap.out];simp[bv],aA l a⟩
    have fx:((p:Int)+1).toNat=p+1:=oZ;have f8:(0:Int)<=(p:Int)+1:=oZ;have c0:=dp.out;refine oJ L.mixed kZ ?_;(repeat refine kY ?_);refine kJ bb ?_;(repeat refine kY ?_);refine dP ?_;intro W l;have aq:=qZ l;clear ba c1 dd de bb l c0;go_wp2_with fail;go_meet;exact⟨rfl,aq⟩
   .have ew:decide ((p:Int)+1<(n:Int))=false:=dS oZ;have ev:decide (p+1<n)=false:=dS bv;have ff:bj=false:=by rw[<-ap.out];simp[bv]
    subst ff;have c0:=dp.out;refine oJ L.mixed kZ ?_;(repeat first|(refine kY ?_)|(refine kN ?_));refine dP ?_;intro W l;have aq:=qZ l;clear ba c1 l c0;go_wp2_with fail;go_meet;exact⟨rfl,aq⟩
  case rest=>
   obtain⟨rfl,a5⟩:=hcut;have M:=qZ (ac Q a5 Q.out.lt);have T:=qZ (aC (ac Z.1 a5 Z.1.lt) (ac Z.2 a5 Z.2.lt));have ab:=qZ (ah.on a5);obtain⟨r,bc⟩:=nZ ((if bj=true then p+1 else p));have f5:r<n:=by
    rw[<-bc];split
    .rename_i h;rw[<-ap.out]at h;simp at h;exact h.1
    .exact bd
   have f3:i<r:=by have:=ag.out;rw[<-bc];split<;>omega
   have bo:=qY ((if 2*i+2<n&&less o[2*i+2]! o[2*i+1]! then 2*i+2 else 2*i+1)=r) (by have e1:2*i+1=p:=ag;have e2:2*i+2=p+1:=oZ;rw[e1,e2,J.out.2.1,J.out.2.2,ap.out];exact bc);have bp:=qZ bc;clear bc
   go_upto_if 73 with fail
   go_cut[6] (λv ax=>v=.int .i64 r/\Hid (Blk ax a 265 #[cA g n cap,.func (.func H) #[] #[]])/\Hid (Blk ax w 86 O/\Blk ax ((w:Nat)+1) 86 (enc x0).toArray)/\Hid (qN enc k 86 (K.setCell (a,0) (cA g n cap)) g cap o ax));case first=>
    have e8:p<=100000:=oZ;cases bj
    .have ch:=qY (p=r) (by have:=bp.out;simpa using this);go_wp2_with fail;go_meet;exact⟨by rw[ch.out],M,T,ab⟩
    .have ch:=qY (p+1=r) (by have:=bp.out;simpa using this);go_wp2_with fail;go_meet;exact⟨by rw[<-ch.out];go_num,M,T,ab⟩
   case rest=>
    clear M T ab;obtain⟨rfl,M,T,ab⟩:=hcut;obtain⟨ae,b8⟩:=nZ (o[r]!);obtain⟨s,hs⟩:=nZ (less ae ad);have Y:=qZ (aC b8 hs);have ci:=qZ (λe:s=false=>adI less n (f+1) i r o bo (by rw[b8,J.out.1,hs,e]));have ce:=qZ (λe:s=true=>amA less n f i r o (by have:=ag.out;omega) bo (by rw[b8,J.out.1,hs,e]));clear b8 hs;have ba:∀W,aD wc W->CV W a 0 (cA g n cap):=λW l=>(ac M l M.out.lt).cell 0;have c1:∀W,aD wc W->CV W a 1 (.func (.func H) #[] #[]):=λW l=>(ac M l M.out.lt).cell 1;have dd:∀W,aD wc W->cD P (cC ⟨g,r*k,cF⟩ 0 k #[]) W=.ok (enc ae).toArray W:=λW l=>by have:=(ab.on l).sit.load (P:=P) z (j:=r) oZ;rwa [aO,Y.1]at this
    have de:∀W,aD wc W->cD P (cC ⟨g,i*k,cF⟩ 0 k #[]) W=.ok (enc ad).toArray W:=λW l=>by have:=(ab.on l).sit.load (P:=P) z (j:=i) oZ;rwa [aO,J.1]at this
    have bb:∀W,aD wc W->dC P H #[cQ (enc ae).toArray,cQ (enc ad).toArray] W λe w'=>e=cM (eC s)/\aD wc w':=λW l=>
     (a0 W ae ad).mono λe w' ⟨cr,a⟩=>⟨by rw[cr,Y.out.2],aA l a⟩
    have f7:(r:Int)<(n:Int):=oZ;have f6:(i:Int)<(n:Int):=oZ;go_wp2_with fail;refine oJ L.mixed kZ ?_;(repeat refine kY ?_);refine kJ bb ?_;(repeat refine kY ?_);refine dP ?_;intro W l;have aq:=qZ l;have an:=qZ (ac M l M.out.lt);have aa:=qZ (aC (ac T.1 l T.1.lt) (ac T.2 l T.2.lt));have a9:=qZ (ab.on l);clear ba c1 dd de bb l;cases s
    .clear ce;have df:cD P (cC ⟨(w:Nat)+1,0,cF⟩ 0 k #[]) W=.ok (enc x0).toArray W:=
      cG P W _ (enc x0) k (z x0) (λj u ak=>by rw[cN,aO,aa.out.2.cell j];simpa using ak)
     obtain⟨st,am⟩:=QA (P:=P) af aa.1 x0 (by rw[z.out,dc]);obtain⟨I,al⟩:=nZ (W.setCells (w:Nat) 0 (enc x0));rw[al]at st am;have bh:aL (λi=>i=(w:Nat)) W I:=by rw[<-al];exact mO _ _ _ _
     have bi:cD P (cC ⟨w,0,cF⟩ 0 k #[]) I=.ok (enc x0).toArray I:=
      cG P I _ (enc x0) k (z x0) (λj u ak=>by rw[cN,aO,am.cell j];simpa using ak)
     have cd:=qZ (bt o W I (by rw[<-ai.out];exact(ci rfl).symm) an cx a9 bh);have bf:(enc x0).length=k:=z _;clear am al bh;obtain⟨bu,N⟩:∃c,c=enc x0:=⟨_,rfl⟩;rw[<-N]at df st bi bf;have ay:=qZ N;clear N;clear ci bt Q Z ah M T ab an aa a9 ai J Y ag bo bp ap aq a0 af az X a8 bl ar ao bs br bm bq bn z dn a5 cc dg a3 dl dh t4 a4 z4 v4 vs cl dm di;go_wp2_with fail;refine eJ (v:=cQ bu.toArray) (by simp[results,Tryz.results206,go_sem,dq,es,bi]) rfl ?_;rw[ay.out];exact cd
    .have cg:=qZ (ce rfl);clear ci ce;go_wp2_with fail;have bz:=a9.on (cL W);have co:=ac an (cL W) an.out.lt;have cp:=aC (ac aa.1 (cL W) aa.1.lt) (ac aa.2 (cL W) aa.2.lt);have ba:W.drew.cell? (a,0)=cI (cA g n cap):=co.cell 0;have fq:cD P (cC ⟨g,r*k,cF⟩ 0 k #[]) W.drew=.ok (enc ae).toArray W.drew:=by have:=bz.sit.load (P:=P) z (j:=r) oZ;rwa [aO,Y.1]at this
     have fp:cD P (cC ⟨g,i*k,cF⟩ 0 k #[]) W.drew=.ok (enc ad).toArray W.drew:=by have:=bz.sit.load (P:=P) z (j:=i) oZ;rwa [aO,J.1]at this
     obtain⟨s1,s2,s3⟩:=bz.swap (P:=P) z af (i:=i) (j:=r) oZ oZ;have ez:g<(w:Nat):=e0;have bw:=(co.bA (mO g (enc o[r]!) (0+i*k) W.drew) (cU b3)).bA (mO g (enc o[i]!) (0+r*k) _) (cU b3);have ds:=(cp.1.bA (mO g (enc o[r]!) (0+i*k) W.drew) oZ).bA (mO g (enc o[i]!) (0+r*k) _) oZ;have dt:=(cp.2.bA (mO g (enc o[r]!) (0+i*k) W.drew) oZ).bA (mO g (enc o[i]!) (0+r*k) _) oZ;have b0:=aC ds dt;rw[J.out.1,Y.out.1]at s2 s3 bw b0;rw[Y.out.1]at s1;rw[aO]at s1;rw[aO,aO]at s2 s3 bw b0;rw[J.out.1,Y.out.1,ai.out]at cg;rw[show(o.setIfInBounds i ae).setIfInBounds r ad=swp o i r by rw[<-J.out.1,<-Y.out.1];rfl]at cg;have cj:=qZ s3;have cb:=qZ bw;have ck:=qZ b0;have fg:(enc ad).length=k:=z _;have fh:(enc ae).length=k:=z _;clear s3 bw b0 ds dt bz co cp ez;obtain⟨fv,dv⟩:∃c,c=enc ad:=⟨_,rfl⟩;obtain⟨fw,dw⟩:∃c,c=enc ae:=⟨_,rfl⟩;rw[<-dv]at fp s2 fg cj cb ck⊢;rw[<-dw]at fq s1 s2 fh cj cb ck⊢;clear dv dw;clear an aa a9 Q Z ah M T ab ai J Y ag bo bp ap aq a0 af az X a8 bl ar ao bs br bm bq ay bn dg a3 dl dh t4 a4 z4 v4 vs cl dm di
     go_big_region_o
     all_goals go_wp2
     go_roundg f;exact⟨r,f,swp o i r,rfl,bG _,oZ,oZ,by rw[eK];exact cx,cb,ck,cj,qZ cg.out.symm⟩;omega
 .have fc:¬(p:Int)<(n:Int):=oZ;have df:cD P (cC ⟨(w:Nat)+1,0,cF⟩ 0 k #[]) wr=.ok (enc x0).toArray wr:=
   cG P wr _ (enc x0) k (z x0) (λj u ak=>by rw[cN,aO,Z.out.2.cell j];simpa using ak)
  obtain⟨st,am⟩:=QA (P:=P) af Z.1 x0 (by rw[z.out,dc]);obtain⟨I,al⟩:=nZ (wr.setCells (w:Nat) 0 (enc x0));rw[al]at st am;have bh:aL (λi=>i=(w:Nat)) wr I:=by rw[<-al];exact mO _ _ _ _
  have bi:cD P (cC ⟨w,0,cF⟩ 0 k #[]) I=.ok (enc x0).toArray I:=
   cG P I _ (enc x0) k (z x0) (λj u ak=>by rw[cN,aO,am.cell j];simpa using ak)
  have cd:=qZ (bt o wr I (by rw[<-ai.out];exact(agr less n cm i o (by rw[ag.out];exact bd)).symm) Q cx ah bh);have bf:(enc x0).length=k:=z _;clear am al bh;obtain⟨bu,N⟩:∃c,c=enc x0:=⟨_,rfl⟩;rw[<-N]at df st bi bf;have ay:=qZ N;clear N;clear bt Q Z ah ai ag a0 af az X a8 bl ar ao bs br bm bq bn z dn cc dg a3 dl dh t4 a4 z4 v4 vs cl dm di;go_wp2_with fail;refine eJ (v:=cQ bu.toArray) (by simp[results,Tryz.results206,go_sem,dq,es,bi]) rfl ?_;rw[ay.out];exact cd
end bT
end Go.Proofs.YtedmeglbjmdlhaaGreatDoor
