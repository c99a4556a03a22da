/-
Parts of TopFirst.
-/
import Derived.Test.YtedmeglbjmdlhaaGreatDoorF7
import Derived.Shelf.SlicesQ.Reverse
import Derived.Shelf.GgSortFunc.InsertionK
import Derived.Lib.Overlaps
import Derived.Lib.AppendZerosOnto
set_option maxRecDepth 100000
set_option maxHeartbeats 16000000
set_option linter.all false
open Go.Proofs.Tryz
namespace Go.Proofs.YtedmeglbjmdlhaaGreatDoor
open Go renaming Value->ac,loadCellsFrom->cA,World->cD,callFunc->cT,Program->cU,Calls->cW,typeInfo->dt,TypeId->dz,asIntOf->dC,sizeOf->dE,bodyPost_ret->ej,results_none->ek,wpList_plain->el,wpList->er,Oper->et,Operand->eu
open Option renaming some->cC,none->cE
open Go.Value renaming slice->cF,int->cN,tuple->du,int->eb,agg->ec
open Go.Instr renaming slice->cG,sliceBounds->cM,sliceBound->cP,sliceAt->eh
open Go.Ending renaming returned->cH
open Go.IntKind renaming i64->cI,wrap_i64->cR
open Go.Sort renaming insertionSort->cJ,setMany->cS,insOuter->ed,insInner->ee,size_swp->ef,size_setMany->ei,HoldsK->ep,Holds->ew
open Go.Sem renaming run->cL,run_bind->en,run_pure->eo
open Go.Builtin renaming zeroCells->cQ,copy_->dT,clear_->eg
open Go.Addr renaming add_lit->cV
open Bool renaming true->cX,false->ea
open Go.Proofs renaming stores_of_holds->cY,ltOf->dx
open List renaming take_take->dv,take_left->dw
open Int renaming ofNat_sub->dy
open L Ord Srt bO bT
namespace Srt
open Go Go.RowKit Go.Sort L bO
structure PK (P:Program) (k:Nat):Prop where
 mixed:P.follows .mixedOrders=true
 t3:P.underlying 3=some (TypeDesc.int IntKind.i64)
 a3:∀w,(isAgg 3).run P w=.ok false w
 z3:∀w,(Go.sizeOf 3).run P w=.ok 1 w
 v3:∀w,(zeroValue 3).run P w=.ok (Value.int IntKind.i64 0) w
 t4:P.underlying 4=some TypeDesc.bool
 a4:∀w,(isAgg 4).run P w=.ok false w
 z4:∀w,(Go.sizeOf 4).run P w=.ok 1 w
 v4:∀w,(zeroValue 4).run P w=.ok (Value.bool false) w
 t49:P.underlying 27=some (TypeDesc.slice 44)
 a49:∀w,(isAgg 27).run P w=.ok false w
 z49:∀w,(Go.sizeOf 27).run P w=.ok 1 w
 v49:∀w,(zeroValue 27).run P w=.ok (Value.slice none 0 0) w
 tu:P.underlying 123=some (TypeDesc.int IntKind.u64)
 au:∀w,(isAgg 123).run P w=.ok false w
 zu:∀w,(Go.sizeOf 123).run P w=.ok 1 w
 aE:∀w,(isAgg 44).run P w=.ok true w
 zE:∀w,(Go.sizeOf 44).run P w=.ok k w
section
variable {P:cU} {α:Type} [Inhabited α]
theorem KW{enc:α->List ac}{k:Nat}{w w':cD}{bV off:Nat}{d:Array α}(h:ep enc k w bV off d)(a:bV<(w:Nat))(c:Below w w w'):ep enc k w' bV off d:=λj b=>
 ⟨(c.cell (p:=⟨bV,off+j,cE⟩) a).trans (h j b).1,(c.frozen (p:=⟨bV,off+j,cE⟩) a).trans (h j b).2⟩
def wW(P:cU)(g:Nat)(cb:Array ac)(enc:α->List ac)(cf:α->α->Int)(bV:Nat)(w:cD):Prop:=∀W,aL (λi=>i=bV) w W->∀x y:α,cW P g (#[ec (enc x).toArray,ec (enc y).toArray]++cb) W λe w'=>e=cH (cN cI (cf x y))/\aD W w'
structure Sit (enc:α->List Value) (k:Nat) (w:World) (bV off:Nat) (d:Array α) (W:World):Prop where
 bA:aL (λi=>i=bV) w W
 holds:HoldsK enc k W bV off d
 lt:bV<(W:Nat)
theorem Sit.start{enc:α->List ac}{k:Nat}{w:cD}{bV off:Nat}{d:Array α}(h:ep enc k w bV off d)(a:bV<(w:Nat)):Sit enc k w bV off d w:=⟨aL.refl _ _,h,a⟩
theorem Sit.on{enc:α->List ac}{k:Nat}{w W W':cD}{bV off:Nat}{d:Array α}(h:Sit enc k w bV off d W)(a:aD W W'):Sit enc k w bV off d W':=
 ⟨h.bA.trans (aL.bQ a),KW h.holds h.lt a,aM h.lt (Below.size a)⟩
theorem Sit.load{enc:α->List ac}{k:Nat}{w W:cD}{bV off:Nat}{d:Array α}(h:Sit enc k w bV off d W)(a:∀x,(enc x).length=k){j:Nat}(b:j<d.size):cL P (cA ⟨bV,off+j*k,cE⟩ 0 k #[]) W=.ok (enc d[j]!).toArray W:=run_loadCellsFrom_list P _ _ _ k (a _) (HoldsK.cells h.holds a b)
theorem uT(g:Nat):∀(vs:List ac) (o:Nat) (w:cD),(w.setCells g o vs).heap.size=(w:Nat)
 |[],o,w=>rfl
 |v::vs,o,w=>by rw[World.setCells,uT g vs];simp[World.setCell]
theorem Sit.swap{enc:α->List ac}{k:Nat}{w W:cD}{bV off:Nat}{d:Array α}(h:Sit enc k w bV off d W)(a:∀x,(enc x).length=k)(g:∀x,∀v∈enc x,v.oneCell'=cX){i j:Nat}(hi:i<d.size)(n:j<d.size):cL P (storeCells ⟨bV,off+i*k,cE⟩ (enc d[j]!) 0) W=.ok () (W.setCells bV (off+i*k) (enc d[j]!))/\cL P (storeCells ⟨bV,off+j*k,cE⟩ (enc d[i]!) 0) (W.setCells bV (off+i*k) (enc d[j]!))=.ok () ((W.setCells bV (off+i*k) (enc d[j]!)).setCells bV (off+j*k) (enc d[i]!))/\Sit enc k w bV off (swp d i j) ((W.setCells bV (off+i*k) (enc d[j]!)).setCells bV (off+j*k) (enc d[i]!)):=by
 have b:∀x,x<d.size->x*k+k<=d.size*k:=λx p=>by have:=dD k (show x+1<=d.size from p);rwa [fZ,Nat.one_mul]at this
 have c:(i*k)+(enc d[j]!).length<=(flatK enc k d).size:=by rw[a,size_flatK];exact b i hi
 have hs:∀(F:Array ac) (s:Nat) (vs:List ac) (W:cD),ew id W bV off F->s+vs.length<=F.size->ew id (W.setCells bV (off+s) vs) bV off (cS F s vs):=λF s vs W h o=>by
  have e:W.setCells bV (off+s) vs=putRow id W bV off (cS F s vs):=by
   conv=>lhs;rw[<-putRow_self id W bV off F h]
   exact setCells_putRow _ _ _ _ _ _ o
  rw[e];exact holds_putRow id W bV off F _ h (by rw[ei])
 have l:=hs _ _ _ _ h.holds c;have f:(j*k)+(enc d[i]!).length<=(cS (flatK enc k d) (i*k) (enc d[j]!)).size:=by rw[a,ei,size_flatK];exact b j n
 refine⟨cY P h.holds _ _ c (g _),cY P l _ _ f (g _),(h.bA.trans (wU bV _ _ _)).trans (wU bV _ _ _),?_,by rw[uT,uT];exact h.lt⟩;have m:=hs _ _ _ _ l f;rw[setMany_swp enc k a d i j hi n]at m;exact m
end
open Go Go.RowKit Go.Sort L bO
variable {P:cU} {α:Type} [Inhabited α]
theorem aos{k:Nat}(L:PK P k)(hF:P.funcs[202]? =cC Tryz.f202)(enc:α->List ac)(ab:∀x,(enc x).length=k)(X:∀x,∀v∈enc x,v.oneCell'=cX)(cf:α->α->Int)(g:Nat)(H:Array ac)(bV off cap a b:Nat)(d:Array α)(w:cD)(bd:∀args w,(cT g args).run P w=.ok (.enter g args) w)(aa:wW P g H enc cf bV w)(Y:ep enc k w bV off d)(ak:bV<(w:Nat))(be:a<=b)(Z:b<=d.size)(bm:d.size<4611686018427387904):cW P 202 #[cF (cC ⟨bV,off,cE⟩) d.size cap,a,b,.func (.func g) #[] H] w λe w'=>e=cH (du #[])/\Sit enc k w bV off (cJ (dx cf) d a b) w':=by
 have mixed:=L.mixed;have br:=L.t3;have a3:=L.a3;have bv:=L.z3;have bt:=L.v3;have t4:=L.t4;have a4:=L.a4;have z4:=L.z4;have v4:=L.v4;have bs:=L.t49;have a8:=L.a49;have bw:=L.z49;have bu:=L.v49;have a9:=L.aE;have bz:=L.zE;have u49:=run_underlying L.t49;have af:=qZ aa;have ah:=qZ (Sit.start Y ak);have p:=qZ ab;have ae:=qZ X;clear aa Y ab X;go_enter hF,ntmps202;go_wp2;go_loopg[8] (b-a) (λai az wr=>∃(i:Nat) (r:Array α),az=cN cI i/\a<i/\i<=b+1/\b+1-i<=ai+1/\r.size=d.size/\Hid (Sit enc k w bV off r wr)/\Hid (ed (dx cf) a b i r=ed (dx cf) a b (a+1) d));exact⟨a+1,d,mZ,oZ,oZ,oZ,rfl,ah,qZ rfl⟩
 obtain⟨i,r,rfl,bf,bj,bh,au,O,N⟩:=hrel;by_cases ad:i<b
 .have ao:(i:Int)<(b:Int):=oZ;go_wp2;go_loopg[9] i (λaj a0 a5=>∃(j:Nat) (l:Array α),a0=cN cI j/\a<=j/\j<=i/\j<=aj/\l.size=d.size/\Hid (Sit enc k w bV off l a5)/\Hid (ee (dx cf) a j l=ee (dx cf) a i r));exact⟨i,r,rfl,oZ,bG _,bG _,au,O,qZ rfl⟩
  obtain⟨j,l,rfl,bg,bl,bi,K,z,M⟩:=hrel;have Q:=qY ((j<=a\/dx cf l[j]! l[j-1]! =ea)->Hid (ed (dx cf) a b (i+1) l=ed (dx cf) a b (a+1) d)) (λhs=>qZ (by rw[<-N.out,insOuter_go _ _ _ _ _ ad,<-M.out,insInner_stop _ _ _ _ hs]));by_cases am:a<j
  .obtain⟨f,rfl⟩:∃f,j=f+1:=⟨j-1,oZ⟩;obtain⟨n,u⟩:=nZ (l[f+1]!);obtain⟨o,s⟩:=nZ (l[f]!);have bn:IntKind.i64.wrap (f:Int)=(f:Int):=by rw[cR];omega
   have bo:(f:Int)+1<(d.size:Int):=oZ;have bp:(f:Int)<(d.size:Int):=oZ;have an:(a:Int)<(f:Int)+1:=oZ;have bq:(0:Int)<=(f:Int)+1:=oZ;have bc:((f:Int)+1).toNat=f+1:=oZ;have av:∀W,aD wr W->cL P (cA ⟨bV,off+(f+1)*k,cE⟩ 0 k #[]) W=.ok (enc n).toArray W:=λW m=>by rw[<-u];exact(z.on m).load p oZ
   have ax:∀W,aD wr W->cL P (cA ⟨bV,off+f*k,cE⟩ 0 k #[]) W=.ok (enc o).toArray W:=λW m=>by rw[<-s];exact(z.on m).load p oZ
   have T:∀W,aD wr W->cW P g (#[ec (enc n).toArray,ec (enc o).toArray]++H) W λe w'=>e=cH (cN cI (cf n o))/\aD wr w':=λW m=>
    (af W (z.on m).bA n o).mono λe w' ⟨al,Z⟩=>⟨al,aA m Z⟩
   go_wp2_with fail;refine oJ L.mixed kZ ?_;(repeat refine kY ?_);refine kJ T ?_;(repeat refine kY ?_);refine dP ?_;intro W m;clear av ax T;have y:=qZ (z.on m);clear m;by_cases ap:cf n o<0
   .have A:=y.on (aD.drew W);have aw:cL P (cA ⟨bV,off+(f+1)*k,cE⟩ 0 k #[]) W.drew=.ok (enc n).toArray W.drew:=by rw[<-u];exact A.load p oZ
    have ay:cL P (cA ⟨bV,off+f*k,cE⟩ 0 k #[]) W.drew=.ok (enc o).toArray W.drew:=by rw[<-s];exact A.load p oZ
    obtain⟨s1,s2,s3⟩:=A.swap (P:=P) p ae (i:=f+1) (j:=f) oZ oZ;rw[u,s]at s2;rw[s]at s1;have F:=qZ s3;rw[u,s]at F;have aq:(enc n).length=k:=p _;have ar:(enc o).length=k:=p _;clear s3 A y;obtain⟨ba,I⟩:∃c,c=enc n:=⟨_,rfl⟩;obtain⟨bb,J⟩:∃c,c=enc o:=⟨_,rfl⟩;rw[<-J]at s1 ay ar;rw[<-I]at aw aq;rw[<-I,<-J]at s2 F⊢;have ag:=qY (ee (dx cf) a f (swp l (f+1) f)=ee (dx cf) a i r) (by have:=insInner_go (dx cf) a (f+1) l am (by simp only[gN];rw[u,s];exact decide_eq_true ap);simp only[gN]at this;rw[<-M.out,this]);clear I J;go_wp2_with fail
    go_big_region_o
    all_goals go_wp2
    go_roundg f;exact⟨f,swp l (f+1) f,by first|rfl|go_num,oZ,oZ,bG _,by rw[ef];exact K,F,ag⟩;omega
   .go_wp2_with fail;go_wp2;go_roundg(b-(i+1));exact⟨i+1,l,mZ,oZ,oZ,oZ,K,y,Q (Or.inr (by simp only[gN];rw[u,s];exact dS oZ))⟩;omega
  .have bk:decide ((j:Int)>(a:Int))=ea:=dS oZ;have an:¬(a:Int)<(j:Int):=oZ;go_wp2_with fail;refine oJ L.mixed kZ ?_;(repeat first|(refine kY ?_)|(refine kN ?_));refine dP ?_;intro W m;have y:=qZ (z.on m);clear m;go_wp2_with fail;go_wp2;go_roundg(b-(i+1));exact⟨i+1,l,mZ,oZ,oZ,oZ,K,y,Q (Or.inl oZ)⟩;omega
 .have ao:¬(i:Int)<(b:Int):=oZ;go_wp2
  go_end0
  exact⟨rfl,by unfold cJ;rw[<-N.out,insOuter_stop _ _ _ _ _ ad];exact O⟩
variable {P:cU} {α:Type} [Inhabited α]
omit [Inhabited α]in
theorem wW.on{g:Nat}{a:Array ac}{enc:α->List ac}{cf:α->α->Int}{bV:Nat}{w w1:cD}(h:wW P g a enc cf bV w)(c:aL (λi=>i=bV) w w1):wW P g a enc cf bV w1:=λW b=>h W (c.trans b)
theorem Sit.trans{enc:α->List ac}{k:Nat}{w w1 W:cD}{bV off:Nat}{d d':Array α}(h:Sit enc k w bV off d w1)(a:Sit enc k w1 bV off d' W):Sit enc k w bV off d' W:=⟨h.bA.trans a.bA,a.holds,a.lt⟩
theorem akM{k:Nat}(L:PK P k)(hF:P.funcs[268]? =cC Tryz.f268)(enc:α->List ac)(M:∀x,(enc x).length=k)(H:∀x,∀v∈enc x,v.oneCell'=cX)(g:Nat)(W:Array ac)(bV off cap a b n:Nat)(d:Array α)(w0 w:cD)(I:Sit enc k w0 bV off d w)(ak:a+n<=b)(al:b+n<=d.size)(ap:d.size<4611686018427387904):cW P 268 #[cF (cC ⟨bV,off,cE⟩) d.size cap,a,b,n,.func (.func g) #[] W] w λe w'=>e=cH (du #[])/\∃d',Xch d d' a b n/\Sit enc k w0 bV off d' w':=by
 have mixed:=L.mixed;have aw:=L.t3;have a3:=L.a3;have a0:=L.z3;have ay:=L.v3;have t4:=L.t4;have a4:=L.a4;have z4:=L.z4;have v4:=L.v4;have ax:=L.t49;have ag:=L.a49;have a5:=L.z49;have az:=L.v49;have ah:=L.aE;have a8:=L.zE;have u49:=run_underlying L.t49;have T:=qZ I;have l:=qZ M;have Q:=qZ H;clear I M H;go_enter hF,ntmps268;go_wp2;go_loopg[10] n (λX af wr=>∃(i:Nat) (f:Array α),af=cN cI i/\i<=n/\n<=X+i/\f.size=d.size/\Hid (Sit enc k w0 bV off f wr)/\Hid (Xch d f a b i));exact⟨0,d,mZ,oZ,oZ,rfl,T,qZ (Xch.none d a b)⟩
 obtain⟨i,f,rfl,an,am,ab,y,o⟩:=hrel;by_cases ao:i<n
 .have Y:(i:Int)<(n:Int):=oZ;obtain⟨p,N⟩:∃p,p=a+i:=⟨_,rfl⟩;obtain⟨q,O⟩:∃q,q=b+i:=⟨_,rfl⟩;have aq:IntKind.i64.wrap ((a:Int)+(i:Int))=(p:Int):=by rw[cR];omega
  have ar:IntKind.i64.wrap ((b:Int)+(i:Int))=(q:Int):=by rw[cR];omega
  have au:(p:Int)<(d.size:Int):=oZ;have av:(q:Int)<(d.size:Int):=oZ;obtain⟨A,u⟩:=nZ (f[p]!);obtain⟨F,m⟩:=nZ (f[q]!);have s:=y.on (aD.drew wr);have ad:cL P (cA ⟨bV,off+p*k,cE⟩ 0 k #[]) wr.drew=.ok (enc A).toArray wr.drew:=by rw[<-u];exact s.load l oZ
  have ae:cL P (cA ⟨bV,off+q*k,cE⟩ 0 k #[]) wr.drew=.ok (enc F).toArray wr.drew:=by rw[<-m];exact s.load l oZ
  obtain⟨s1,s2,s3⟩:=s.swap (P:=P) l Q (i:=p) (j:=q) oZ oZ;rw[u,m]at s2;rw[m]at s1;have r:=qZ s3;rw[u,m]at r;have Z:(enc A).length=k:=l _;have aa:(enc F).length=k:=l _;clear s3 s;obtain⟨ai,J⟩:∃c,c=enc A:=⟨_,rfl⟩;obtain⟨aj,K⟩:∃c,c=enc F:=⟨_,rfl⟩;rw[<-J]at s2 ad Z r;rw[<-K]at s1 s2 ae aa r;have z:=qY (Xch d (swp f p q) a b (i+1)) (by subst N O;exact o.step oZ oZ);clear J K N O u m y o;go_wp2_with fail
  go_big_region_o
  all_goals go_wp2
  go_roundg(n-(i+1));exact⟨i+1,swp f p q,mZ,oZ,oZ,by rw[ef];exact ab,r,z⟩;omega
 .have Y:¬(i:Int)<(n:Int):=oZ;have e:i=n:=oZ;have z:=qY (Xch d f a b n) (e▸o.out);clear e o;go_wp2
  go_end0
  exact⟨rfl,f,z,y⟩
theorem afn{k:Nat}(L:PK P k)(hF:P.funcs[241]? =cC Tryz.f241)(N:P.funcs[268]? =cC Tryz.f268)(enc:α->List ac)(Y:∀x,(enc x).length=k)(M:∀x,∀v∈enc x,v.oneCell'=cX)(g:Nat)(F:Array ac)(bV off cap a m b:Nat)(d:Array α)(w0 w:cD)(am:∀args w,(cT 268 args).run P w=.ok (.enter 268 args) w)(A:Sit enc k w0 bV off d w)(an:a<m)(ap:m<b)(H:b<=d.size)(ad:d.size<4611686018427387904):cW P 241 #[cF (cC ⟨bV,off,cE⟩) d.size cap,a,m,b,.func (.func g) #[] F] w λe w'=>e=cH (du #[])/\∃d',Rot d d' a m b/\Sit enc k w0 bV off d' w':=by
 have mixed:=L.mixed;have aq:=L.t3;have a3:=L.a3;have aw:=L.z3;have au:=L.v3;have t4:=L.t4;have a4:=L.a4;have z4:=L.z4;have v4:=L.v4;have ar:=L.t49;have ak:=L.a49;have ax:=L.z49;have av:=L.v49;have al:=L.aE;have ay:=L.zE;have u49:=run_underlying L.t49;have J:=qZ A;have s:=qZ (λ(a b n:Nat) (c:Array α) (w:cD) (hs:c.size=d.size) (A:Sit enc k w0 bV off c w) (O:a+n<=b) (H:b+n<=d.size)=>
  hs▸akM L N enc Y M g F bV off cap a b n c w0 w A O (by rw[hs];exact H) (by rw[hs];exact ad))
 go_enter hF,ntmps241;go_wp2_with fail;go_loopg[10,11] (b-a) (λK ah ai wr=>∃(i j:Nat) (c:Array α),ah=cN cI i/\ai=cN cI j/\0<i/\0<j/\a+i<=m/\m+j<=b/\i+j<=K/\c.size=d.size/\Hid (Sit enc k w0 bV off c wr)/\Hid (Left d c a m b i j));exact⟨m-a,b-m,d,by rw[dy oZ],by rw[dy oZ],oZ,oZ,oZ,oZ,oZ,rfl,J,qZ (Left.start d oZ oZ)⟩
 obtain⟨i,j,c,rfl,rfl,W,X,Q,aa,ao,ab,y,u⟩:=hrel;have r:=qZ ab;rcases Nat.lt_trichotomy i j with Z|e|T
 .have ae:((i:Int) !=(j:Int))=cX:=by rw[bne_iff_ne];omega
  have af:decide ((i:Int)>(j:Int))=ea:=dS oZ;have ag:¬(j:Int)<(i:Int):=oZ;go_wp2_with fail;rw[show(m:Int)-(i:Int)=((m-i:Nat):Int) by omega,show(m:Int)+(j:Int)-(i:Int)=((m+j-i:Nat):Int) by omega];refine(s (m-i) (m+j-i) i c _ r y oZ oZ).mono ?_;rintro e w1⟨rfl,l,f,hs⟩;have o:=qZ (u.snd oZ Z f);have p:=qZ hs;have z:=qZ (f.size.trans r);go_wp2_with fail;go_roundg j;exact⟨i,j-i,l,rfl,by rw[dy oZ],W,oZ,Q,oZ,oZ,z,p,o⟩;omega
 .subst e;have o:=λl (f:Xch c l (m-i) m i)=>u.done oZ f;have o:=qZ o;go_wp2_with fail;rw[show(m:Int)-(i:Int)=((m-i:Nat):Int) by omega];refine(s (m-i) m i c _ r y oZ oZ).mono ?_;rintro e w1⟨rfl,l,f,hs⟩;have I:=qZ (o l f);have p:=qZ hs;go_wp2_with fail
  go_end0
  exact⟨rfl,l,I,p⟩
 .have ae:((i:Int) !=(j:Int))=cX:=by rw[bne_iff_ne];omega
  have af:decide ((i:Int)>(j:Int))=cX:=decide_eq_true oZ;have ag:(j:Int)<(i:Int):=oZ;go_wp2_with fail;rw[show(m:Int)-(i:Int)=((m-i:Nat):Int) by omega];refine(s (m-i) m j c _ r y oZ oZ).mono ?_;rintro e w1⟨rfl,l,f,hs⟩;have o:=qZ (u.fst oZ T f);have p:=qZ hs;have z:=qZ (f.size.trans r);go_wp2_with fail;go_roundg i;exact⟨i-j,j,l,by rw[dy oZ],rfl,oZ,X,oZ,aa,oZ,z,p,o⟩;omega
variable {P:cU} {α:Type} [Inhabited α]
theorem ahx{k:Nat}(L:PK P k)(hF:P.funcs[203]? =cC Tryz.f203)(enc:α->List ac)(an:∀x,(enc x).length=k)(ag:∀x,∀v∈enc x,v.oneCell'=cX)(cf:α->α->Int)(a8:iQ cf)(g:Nat)(O:Array ac)(bV off cap a m b:Nat)(d:Array α)(w0 w:cD)(bv:∀args w,(cT g args).run P w=.ok (.enter g args) w)(al:wW P g O enc cf bV w0)(ah:Sit enc k w0 bV off d w)(Q:a+1=m)(b2:m<b)(ai:b<=d.size)(b8:d.size<2305843009213693952)(ae:Sd cf d m b):cW P 203 #[cF (cC ⟨bV,off,cE⟩) d.size cap,a,m,b,.func (.func g) #[] O] w λe w'=>e=cH (du #[])/\∃d',Mrg cf d d' a b/\Sit enc k w0 bV off d' w':=by
 have mixed:=L.mixed;have ce:=L.t3;have a3:=L.a3;have ck:=L.z3;have ci:=L.v3;have t4:=L.t4;have a4:=L.a4;have z4:=L.z4;have v4:=L.v4;have cg:=L.t49;have bn:=L.a49;have cl:=L.z49;have cj:=L.v49;have ch:=L.tu;have bp:=L.au;have cn:=L.zu;have bo:=L.aE;have cm:=L.zE;have u49:=run_underlying L.t49;have av:=qZ ah;have ar:=qZ al;have o:=qZ an;have aq:=qZ ag;have Z:=qZ (λ(i:Nat) (f:Array α) (ay:m<=i) (az:i<=b) (c1:i<b->0<=cf d[i]! d[a]!) (c2:m<i->cf d[i-1]! d[a]! <0) (R:Rot d f a m i)=>adB a8 Q ay az ae c1 c2 R);have bt:a+1<=m:=oZ;have bu:m<=a+1:=oZ;have cd:((m:Int)-(a:Int)==1)=cX:=beq_iff_eq.2 oZ;have au:=qZ Q;clear ah al an ag ae Q;go_enter hF,ntmps203;go_wp2_with fail;go_loopg[10,11] (b-m) (λaw bk bl wr=>∃(i j:Nat),bk=cN cI i/\bl=cN cI j/\m<=i/\i<=j/\j<=b/\j<=aw+i/\Hid (Sit enc k w0 bV off d wr)/\Hid ((m<i->cf d[i-1]! d[a]! <0)/\(j<b->0<=cf d[j]! d[a]!)));exact⟨m,b,rfl,rfl,bG _,oZ,bG _,oZ,av,qZ ⟨λh=>oZ,λh=>oZ⟩⟩
 obtain⟨i,j,rfl,rfl,ap,b1,am,bz,r,n⟩:=hrel;by_cases ao:i<j
 .have ba:(i:Int)<(j:Int):=oZ;obtain⟨h,a9⟩:∃h,h=(i+j)/2:=⟨_,rfl⟩;have bw:((i:Int)+(j:Int))/2=(h:Int):=oZ;have b6:i<=h:=oZ;have b7:h<j:=oZ;clear a9;have cc:(h:Int)<(d.size:Int):=oZ;have bq:(a:Int)<(d.size:Int):=oZ;obtain⟨A,u⟩:=nZ (d[h]!);obtain⟨z,s⟩:=nZ (d[a]!);have bg:∀W,aD wr W->cL P (cA ⟨bV,off+h*k,cE⟩ 0 k #[]) W=.ok (enc A).toArray W:=λW l=>by rw[<-u];exact(r.on l).load o oZ
  have bh:∀W,aD wr W->cL P (cA ⟨bV,off+a*k,cE⟩ 0 k #[]) W=.ok (enc z).toArray W:=λW l=>by rw[<-s];exact(r.on l).load o oZ
  have af:∀W,aD wr W->cW P g (#[ec (enc A).toArray,ec (enc z).toArray]++O) W λe w'=>e=cH (cN cI (cf A z))/\aD wr w':=λW l=>
   (ar W (r.on l).bA A z).mono λe w' ⟨a5,ai⟩=>⟨a5,aA l ai⟩
  go_wp2_with fail;refine oJ L.mixed kZ ?_;(repeat refine kY ?_);refine kJ af ?_;(repeat refine kY ?_);refine dP ?_;intro W l;clear bg bh af;have ad:=qZ (r.on l);clear l;by_cases bc:cf A z<0
  .have K:=qY ((m<h+1->cf d[h+1-1]! d[a]! <0)/\(j<b->0<=cf d[j]! d[a]!)) (⟨λ_=>by rw[gN,u,s];exact bc,n.2⟩);clear n u s;go_wp2_with fail;go_roundg(j-(h+1));exact⟨h+1,j,mZ,rfl,oZ,oZ,am,oZ,ad,K⟩;omega
  .have K:=qY ((m<i->cf d[i-1]! d[a]! <0)/\(h<b->0<=cf d[h]! d[a]!)) (⟨n.1,λ_=>by rw[u,s];omega⟩);clear n u s;go_wp2_with fail;go_roundg(h-i);exact⟨i,h,rfl,rfl,ap,oZ,oZ,oZ,ad,K⟩;omega
 .obtain rfl:i=j:=by omega
  have ba:¬(i:Int)<(i:Int):=oZ;have aa:=qZ (λ(f:Array α) (R:Rot d f a m i)=>Z i f ap am n.2 n.1 R);clear Z n ao;go_wp2_with fail;go_loopg[13] (i-a) (λax bm wr=>∃(q:Nat) (f:Array α),bm=cN cI q/\a<=q/\q+1<=i/\i<=ax+q/\f.size=d.size/\Hid (Sit enc k w0 bV off f wr)/\Hid (Rot d f a (a+1) (q+1)));exact⟨a,d,rfl,bG _,oZ,oZ,rfl,r,qZ (Rot.self d (.inr lZ) oZ oZ)⟩
  obtain⟨q,f,rfl,a0,b5,b0,bf,M,F⟩:=hrel;by_cases ao:q+1<i
  .have bb:(q:Int)<(i:Int)-1:=oZ;obtain⟨p,T⟩:∃p,p=q+1:=⟨_,rfl⟩;have b9:IntKind.i64.wrap ((q:Int)+1)=(p:Int):=by rw[cR];omega
   have ca:(p:Int)<(d.size:Int):=oZ;have cb:(q:Int)<(d.size:Int):=oZ;obtain⟨X,y⟩:=nZ (f[p]!);obtain⟨Y,J⟩:=nZ (f[q]!);have I:=M.on (aD.drew wr);have bi:cL P (cA ⟨bV,off+p*k,cE⟩ 0 k #[]) wr.drew=.ok (enc X).toArray wr.drew:=by rw[<-y];exact I.load o oZ
   have bj:cL P (cA ⟨bV,off+q*k,cE⟩ 0 k #[]) wr.drew=.ok (enc Y).toArray wr.drew:=by rw[<-J];exact I.load o oZ
   obtain⟨s1,s2,s3⟩:=I.swap (P:=P) o aq (i:=q) (j:=p) oZ oZ;rw[y,J]at s2;rw[y]at s1;have H:=qZ s3;rw[y,J]at H;have bd:(enc X).length=k:=o _;have be:(enc Y).length=k:=o _;clear s3 I;obtain⟨br,aj⟩:∃c,c=enc X:=⟨_,rfl⟩;obtain⟨bs,ak⟩:∃c,c=enc Y:=⟨_,rfl⟩;rw[<-aj]at s1 s2 bi bd H;rw[<-ak]at s2 bj be H;have N:=qY (Rot d (swp f q p) a (a+1) (p+1)) (by subst T;exact F.up oZ a0);have ab:=qZ T;have b3:p<=q+1:=oZ;have b4:q+1<=p:=oZ;clear aj ak T y J M F;go_wp2_with fail
   go_big_region_o
   all_goals go_wp2
   go_roundg(i-p);exact⟨p,swp f q p,by first|rfl|(rw[ab.out];done)|(rw[ab.out];go_num),oZ,oZ,oZ,by rw[ef];exact bf,H,N⟩;omega
  .have bb:¬(q:Int)<(i:Int)-1:=oZ;have N:=qZ (aa f (by have h:=F.out;rw[au.out,show q+1=i by omega]at h;exact h));clear F aa;go_wp2_with fail
   (try simp only[Exit.inBlock,Exit.then])
   refine ej (ek rfl _ _ _) rfl ?_;exact⟨rfl,f,N,M⟩
theorem akL{k:Nat}(L:PK P k)(hF:P.funcs[203]? =cC Tryz.f203)(enc:α->List ac)(an:∀x,(enc x).length=k)(ah:∀x,∀v∈enc x,v.oneCell'=cX)(cf:α->α->Int)(a5:iQ cf)(g:Nat)(Q:Array ac)(bV off cap a m b:Nat)(d:Array α)(w0 w:cD)(bu:∀args w,(cT g args).run P w=.ok (.enter g args) w)(am:wW P g Q enc cf bV w0)(ai:Sit enc k w0 bV off d w)(bv:a+1<m)(Y:m+1=b)(aj:b<=d.size)(b8:d.size<2305843009213693952)(af:Sd cf d a m):cW P 203 #[cF (cC ⟨bV,off,cE⟩) d.size cap,a,m,b,.func (.func g) #[] Q] w λe w'=>e=cH (du #[])/\∃d',Mrg cf d d' a b/\Sit enc k w0 bV off d' w':=by
 have mixed:=L.mixed;have cg:=L.t3;have a3:=L.a3;have cl:=L.z3;have cj:=L.v3;have t4:=L.t4;have a4:=L.a4;have z4:=L.z4;have v4:=L.v4;have ch:=L.t49;have bm:=L.a49;have cm:=L.z49;have ck:=L.v49;have ci:=L.tu;have bo:=L.au;have co:=L.zu;have bn:=L.aE;have cn:=L.zE;have u49:=run_underlying L.t49;have av:=qZ ai;have ar:=qZ am;have o:=qZ an;have aq:=qZ ah;have ab:=qZ (λ(i:Nat) (f:Array α) (ay:a<=i) (az:i<=m) (c1:a<i->0<=cf d[m]! d[i-1]!) (c2:i<m->cf d[m]! d[i]! <0) (R:Rot d f i m b)=>afN a5 Y ay az af c1 c2 R);have bs:m+1<=b:=oZ;have bt:b<=m+1:=oZ;have cd:((m:Int)-(a:Int)==1)=ea:=beq_eq_false_iff_ne.2 oZ;have ce:((b:Int)-(m:Int)==1)=cX:=beq_iff_eq.2 oZ;have au:=qZ Y;clear ai am an ah af Y;go_enter hF,ntmps203;go_wp2_with fail;go_loopg[14,15] (m-a) (λaw bj bk wr=>∃(i j:Nat),bj=cN cI i/\bk=cN cI j/\a<=i/\i<=j/\j<=m/\j<=aw+i/\Hid (Sit enc k w0 bV off d wr)/\Hid ((a<i->0<=cf d[m]! d[i-1]!)/\(j<m->cf d[m]! d[j]! <0)));exact⟨a,m,rfl,rfl,bG _,oZ,bG _,oZ,av,qZ ⟨λh=>oZ,λh=>oZ⟩⟩
 obtain⟨i,j,rfl,rfl,ap,b2,T,b0,u,n⟩:=hrel;by_cases ao:i<j
 .have a9:(i:Int)<(j:Int):=oZ;obtain⟨h,a8⟩:∃h,h=(i+j)/2:=⟨_,rfl⟩;have bz:((i:Int)+(j:Int))/2=(h:Int):=oZ;have b6:i<=h:=oZ;have b7:h<j:=oZ;clear a8;have cc:(h:Int)<(d.size:Int):=oZ;have bp:(m:Int)<(d.size:Int):=oZ;obtain⟨s,z⟩:=nZ (d[h]!);obtain⟨r,y⟩:=nZ (d[m]!);have bf:∀W,aD wr W->cL P (cA ⟨bV,off+h*k,cE⟩ 0 k #[]) W=.ok (enc s).toArray W:=λW l=>by rw[<-z];exact(u.on l).load o oZ
  have bg:∀W,aD wr W->cL P (cA ⟨bV,off+m*k,cE⟩ 0 k #[]) W=.ok (enc r).toArray W:=λW l=>by rw[<-y];exact(u.on l).load o oZ
  have ag:∀W,aD wr W->cW P g (#[ec (enc r).toArray,ec (enc s).toArray]++Q) W λe w'=>e=cH (cN cI (cf r s))/\aD wr w':=λW l=>
   (ar W (u.on l).bA r s).mono λe w' ⟨a0,aj⟩=>⟨a0,aA l aj⟩
  go_wp2_with fail;refine oJ L.mixed kZ ?_;(repeat refine kY ?_);refine kJ ag ?_;(repeat refine kY ?_);refine dP ?_;intro W l;clear bf bg ag;have ae:=qZ (u.on l);clear l;by_cases X:cf r s<0
  .rw[show(!decide (cf r s<0))=ea by rw[decide_eq_true X];rfl];have K:=qY ((a<i->0<=cf d[m]! d[i-1]!)/\(h<m->cf d[m]! d[h]! <0)) (⟨n.1,λ_=>by rw[z,y];exact X⟩);clear n z y;go_wp2_with fail;go_roundg(h-i);exact⟨i,h,rfl,rfl,ap,oZ,oZ,oZ,ae,K⟩;omega
  .rw[show(!decide (cf r s<0))=cX by rw[dS X];rfl];have K:=qY ((a<h+1->0<=cf d[m]! d[h+1-1]!)/\(j<m->cf d[m]! d[j]! <0)) (⟨λ_=>by rw[gN,z,y];omega,n.2⟩);clear n z y;go_wp2_with fail;go_roundg(j-(h+1));exact⟨h+1,j,mZ,rfl,oZ,oZ,T,oZ,ae,K⟩;omega
 .obtain rfl:i=j:=by omega
  have a9:¬(i:Int)<(i:Int):=oZ;have ad:=qZ (λ(f:Array α) (R:Rot d f i m b)=>ab i f ap T n.1 n.2 R);clear ab n ao;go_wp2_with fail;go_loopg[17] (m-i) (λax bl wr=>∃(q:Nat) (f:Array α),bl=cN cI q/\i<=q/\q<=m/\q<=ax+i/\f.size=d.size/\Hid (Sit enc k w0 bV off f wr)/\Hid (Rot d f q m (m+1)));exact⟨m,d,rfl,T,bG _,oZ,rfl,u,qZ (Rot.self d (.inl lZ) oZ oZ)⟩
  obtain⟨q,f,rfl,bw,b5,b1,be,N,F⟩:=hrel;by_cases ao:i<q
  .have ba:(i:Int)<(q:Int):=oZ;obtain⟨p,bb⟩:∃p,p=q-1:=⟨_,rfl⟩;have b9:IntKind.i64.wrap ((q:Int)-1)=(p:Int):=by rw[cR];omega
   have ca:(p:Int)<(d.size:Int):=oZ;have cb:(q:Int)<(d.size:Int):=oZ;obtain⟨Z,A⟩:=nZ (f[p]!);obtain⟨aa,J⟩:=nZ (f[q]!);have I:=N.on (aD.drew wr);have bh:cL P (cA ⟨bV,off+p*k,cE⟩ 0 k #[]) wr.drew=.ok (enc Z).toArray wr.drew:=by rw[<-A];exact I.load o oZ
   have bi:cL P (cA ⟨bV,off+q*k,cE⟩ 0 k #[]) wr.drew=.ok (enc aa).toArray wr.drew:=by rw[<-J];exact I.load o oZ
   obtain⟨s1,s2,s3⟩:=I.swap (P:=P) o aq (i:=q) (j:=p) oZ oZ;rw[A,J]at s2;rw[A]at s1;have H:=qZ s3;rw[A,J]at H;have bc:(enc Z).length=k:=o _;have bd:(enc aa).length=k:=o _;clear s3 I;obtain⟨bq,ak⟩:∃c,c=enc Z:=⟨_,rfl⟩;obtain⟨br,al⟩:∃c,c=enc aa:=⟨_,rfl⟩;rw[<-ak]at s1 s2 bh bc H;rw[<-al]at s2 bi bd H;have M:=qY (q=p+1) (by omega);have O:=qY (Rot d (swp f q p) p m (m+1)) (by have h:=F.out;rw[M.out]at h⊢;exact h.down oZ oZ);have b3:p+1<=q:=oZ;have b4:q<=p+1:=oZ;clear ak al bb A J N F;go_wp2_with fail
   go_big_region_o
   all_goals go_wp2
   go_roundg(p-i);exact⟨p,swp f q p,by first|rfl|(rw[M.out];done)|(rw[M.out];go_num),oZ,oZ,oZ,by rw[ef];exact be,H,O⟩;omega
  .have ba:¬(i:Int)<(q:Int):=oZ;have O:=qZ (ad f (by have h:=F.out;rw[au.out,show q=i by omega]at h;exact h));clear F ad;go_wp2_with fail
   (try simp only[Exit.inBlock,Exit.then])
   refine ej (ek rfl _ _ _) rfl ?_;exact⟨rfl,f,O,N⟩
variable {P:cU} {α:Type} [Inhabited α]
def aeH(P:cU)(enc:α->List ac)(k:Nat)(cf:α->α->Int)(g:Nat)(cb:Array ac)(bV off cap n:Nat)(w0:cD)(N:Nat):Prop:=∀(a m b:Nat) (d:Array α) (w:cD),d.size=n->b<=a+N->Sit enc k w0 bV off d w->a<m->m<b->b<=n->Sd cf d a m->Sd cf d m b->cW P 203 #[cF (cC ⟨bV,off,cE⟩) n cap,a,m,b,.func (.func g) #[] cb] w λe w'=>e=cH (du #[])/\∃d',Mrg cf d d' a b/\Sit enc k w0 bV off d' w'
def aoV(P:cU)(α:Type)[Inhabited α](enc:α->List ac)(k:Nat)(g:Nat)(cb:Array ac)(bV off cap n:Nat)(w0:cD):Prop:=∀(a m b:Nat) (d:Array α) (w:cD),d.size=n->Sit enc k w0 bV off d w->a<m->m<b->b<=n->cW P 241 #[cF (cC ⟨bV,off,cE⟩) n cap,a,m,b,.func (.func g) #[] cb] w λe w'=>e=cH (du #[])/\∃d',Rot d d' a m b/\Sit enc k w0 bV off d' w'
theorem anv{k:Nat}(L:PK P k)(hF:P.funcs[203]? =cC Tryz.f203)(enc:α->List ac)(bm:∀x,(enc x).length=k)(cf:α->α->Int)(aq:iQ cf)(g:Nat)(Z:Array ac)(bV off cap n N a m b:Nat)(d:Array α)(w0 w:cD)(ch:∀args w,(cT g args).run P w=.ok (.enter g args) w)(ce:∀args w,(cT 203 args).run P w=.ok (.enter 203 args) w)(cg:∀args w,(cT 241 args).run P w=.ok (.enter 241 args) w)(bl:wW P g Z enc cf bV w0)(bp:aeH P enc k cf g Z bV off cap n w0 N)(bn:aoV P α enc k g Z bV off cap n w0)(bo:d.size=n)(ci:b<=a+N+1)(bk:Sit enc k w0 bV off d w)(cj:a+1<m)(cu:m+1<b)(ao:b<=n)(db:n<2305843009213693952)(bc:Sd cf d a m)(bd:Sd cf d m b):cW P 203 #[cF (cC ⟨bV,off,cE⟩) n cap,a,m,b,.func (.func g) #[] Z] w λe w'=>e=cH (du #[])/\∃d',Mrg cf d d' a b/\Sit enc k w0 bV off d' w':=by
 have mixed:=L.mixed;have dj:=L.t3;have a3:=L.a3;have dp:=L.z3;have dm:=L.v3;have t4:=L.t4;have a4:=L.a4;have z4:=L.z4;have v4:=L.v4;have dk:=L.t49;have cb:=L.a49;have dq:=L.z49;have dn:=L.v49;have dl:=L.tu;have cd:=L.au;have ds:=L.zu;have cc:=L.aE;have dr:=L.zE;have dg:=run_underlying L.t49;have bt:=qZ bk;have br:=qZ bl;have a8:=qZ bm;have bb:=qZ bp;have bv:=qZ bn;have H:=qZ (aC bc bd);have ai:=qZ bo;have dh:((m:Int)-(a:Int)==1)=ea:=beq_eq_false_iff_ne.2 oZ;have di:((b:Int)-(m:Int)==1)=ea:=beq_eq_false_iff_ne.2 oZ;obtain⟨mid,b4⟩:∃mid,mid=(a+b)/2:=⟨_,rfl⟩;have cm:((a:Int)+(b:Int))/2=(mid:Int):=oZ;have cq:a<mid:=oZ;have cr:mid<b:=oZ;have cs:mid+mid<=a+b:=oZ;have ct:a+b<=mid+mid+1:=oZ;clear bk bl bm bc bd b4 bp bn bo;obtain⟨i,l,au,cy,b5,cz,c0,da⟩:∃i l,(mid<m/\i+b=mid+m/\l=mid\/m<=mid/\i=a/\l=m)/\a<=i/\i<=l/\l<=m/\l<=mid/\mid+m<=i+b:=by
  by_cases h:mid<m
  .exact⟨mid+m-b,mid,.inl ⟨h,oZ,rfl⟩,oZ,oZ,oZ,oZ,oZ⟩
  .exact⟨a,m,.inr ⟨oZ,rfl,rfl⟩,oZ,oZ,oZ,oZ,oZ⟩
 have a5:=qZ au;go_enter hF,ntmps203
 go_upto_if 140 with fail
 go_cut[20,21] (λv u A=>A=w/\v=cN cI i/\u=cN cI l);case first=>
  as_aux_lemma=>
   rcases au with⟨c1,c2,c3⟩|⟨c1,c2,c3⟩
   .have cx:(mid:Int)+(m:Int)-(b:Int)=(i:Int):=oZ;have b8:(mid:Int)<(m:Int):=oZ;have ae:=qZ c3;clear c2 c3;go_wp2_with fail;go_meet;exact⟨rfl,rfl,by rw[ae.out]⟩
   .have b8:¬(mid:Int)<(m:Int):=oZ;have ae:=qZ (aC c2 c3);clear c2 c3;go_wp2_with fail;go_meet;exact⟨rfl,by rw[ae.out.1],by rw[ae.out.2]⟩
 case rest=>
  as_aux_lemma=>
   obtain⟨rfl,rfl,rfl⟩:=hcut;clear au;go_wp2_with fail;go_loopg[20,21] n (λbw b9 ca wr=>∃(s r:Nat),b9=cN cI s/\ca=cN cI r/\i<=s/\s<=r/\r<=l/\r<=bw+s/\Hid (Sit enc k w0 bV off d wr)/\Hid ((i<s->0<=cf d[mid+m-s]! d[s-1]!)/\(r<l->cf d[mid+m-1-r]! d[r]! <0)));exact⟨i,l,rfl,rfl,bG _,b5,bG _,oZ,bt,qZ ⟨λh=>oZ,λh=>oZ⟩⟩
   obtain⟨s,r,rfl,rfl,b3,cp,b0,co,o,I⟩:=hrel;by_cases b1:s<r
   .have b2:(s:Int)<(r:Int):=oZ;obtain⟨h,bz⟩:∃h,h=(s+r)/2:=⟨_,rfl⟩;have cl:((s:Int)+(r:Int))/2=(h:Int):=oZ;have cv:s<=h:=oZ;have cw:h<r:=oZ;clear bz;obtain⟨q,j⟩:∃q,q+h+1=mid+m:=⟨mid+m-1-h,oZ⟩;have dc:IntKind.i64.wrap ((mid:Int)+(m:Int)-1-(h:Int))=(q:Int):=by rw[cR];omega
    have an:=ai.out;have dd:(h:Int)<(n:Int):=oZ;have df:(q:Int)<(n:Int):=oZ;obtain⟨K,av⟩:=nZ (d[h]!);obtain⟨M,aw⟩:=nZ (d[q]!);have b6:∀W,aD wr W->cL P (cA ⟨bV,off+h*k,cE⟩ 0 k #[]) W=.ok (enc K).toArray W:=λW z=>by rw[<-av];exact(o.on z).load a8 oZ
    have b7:∀W,aD wr W->cL P (cA ⟨bV,off+q*k,cE⟩ 0 k #[]) W=.ok (enc M).toArray W:=λW z=>by rw[<-aw];exact(o.on z).load a8 oZ
    have be:∀W,aD wr W->cW P g (#[ec (enc M).toArray,ec (enc K).toArray]++Z) W λe w'=>e=cH (cN cI (cf M K))/\aD wr w':=λW z=>
     (br W (o.on z).bA M K).mono λe w' ⟨ap,ao⟩=>⟨ap,aA z ao⟩
    have F:=qZ (aC j (aC av aw));clear an av aw j;go_wp2_with fail;refine oJ L.mixed kZ ?_;(repeat refine kY ?_);refine kJ be ?_;(repeat refine kY ?_);refine dP ?_;intro W z;clear b6 b7 be;have J:=qZ (o.on z);clear z;by_cases ar:cf M K<0
    .have al:=qY ((i<s->0<=cf d[mid+m-s]! d[s-1]!)/\(h<l->cf d[mid+m-1-h]! d[h]! <0)) (⟨I.1,λ_=>by rw[show mid+m-1-h=q by have:=F.out.1;omega,F.out.2.1,F.out.2.2];exact ar⟩);rw[show(!decide (cf M K<0))=ea by rw[decide_eq_true ar];rfl];clear I F;go_wp2_with fail;go_roundg(h-s);exact⟨s,h,rfl,rfl,b3,oZ,oZ,oZ,J,al⟩;omega
    .have al:=qY ((i<h+1->0<=cf d[mid+m-(h+1)]! d[h+1-1]!)/\(r<l->cf d[mid+m-1-r]! d[r]! <0)) (⟨λ_=>by rw[show mid+m-(h+1)=q by have:=F.out.1;omega,gN,F.out.2.1,F.out.2.2];omega,I.2⟩);rw[show(!decide (cf M K<0))=cX by rw[dS ar];rfl];clear I F;go_wp2_with fail;go_roundg(r-(h+1));exact⟨h+1,r,mZ,rfl,oZ,oZ,b0,oZ,J,al⟩;omega
   .obtain rfl:s=r:=by omega
    have b2:¬(s:Int)<(s:Int):=oZ;obtain⟨e,ap⟩:∃e,e+s=mid+m:=⟨mid+m-s,oZ⟩;have cn:(mid:Int)+(m:Int)-(s:Int)=(e:Int):=oZ;have an:=ai.out;have aa:a<=s:=oZ;have ab:s<=m:=oZ;have de:s<=mid:=oZ;have ad:m<=e:=oZ;have bq:mid<=e:=oZ;have ak:e<=b:=oZ;have af:=qY (mid=s+(e-m)) (by omega);have T:=qY ((a<s->e<b->0<=cf d[e]! d[s-1]!)/\(s<m->m<e->cf d[e-1]! d[s]! <0)) (by have ck:=a5.out;have e1:mid+m-s=e:=oZ;have e2:mid+m-1-s=e-1:=oZ;have bg:=I.1;have bh:=I.2;rw[e1]at bg;rw[e2]at bh;exact⟨λx y=>bg oZ,λx y=>bh oZ⟩);clear an I a5 b1 ap;have p:=o;clear o;obtain⟨az,bi⟩:∃b,b=decide (s<m/\m<e):=⟨_,rfl⟩;have O:=qZ bi;clear bi;go_upto_region 39 with fail;go_cut[20,185] (λv b A=>v=cN cI s/\b=.bool az/\Sit enc k w0 bV off d A);case first=>
     as_aux_lemma=>
      by_cases ax:(s:Int)<(m:Int)
      .by_cases ay:(m:Int)<(e:Int)
       .go_wp2_with fail;go_meet;exact⟨rfl,by rw[O.out,decide_eq_true (show s<m/\m<e by omega)],p⟩
       .go_wp2_with fail;go_meet;exact⟨rfl,by rw[O.out,dS (show¬(s<m/\m<e) by omega)],p⟩
      .go_wp2_with fail;go_meet;exact⟨rfl,by rw[O.out,dS (show¬(s<m/\m<e) by omega)],p⟩
    case rest=>
     as_aux_lemma=>
      obtain⟨rfl,rfl,hs⟩:=hcut;have o:=qZ hs;clear hs p
      go_upto_if 185 with fail
      go_cut[20] (λv A=>v=cN cI s/\∃d1,Rot d d1 s m e/\Sit enc k w0 bV off d1 A);case first=>
       as_aux_lemma=>
        cases j:az
        .have f:=of_decide_eq_false (O.out.symm.trans j);clear j;go_wp2_with fail;go_meet;exact⟨rfl,d,Rot.self d oZ ab ad,o⟩
        .have f:=of_decide_eq_true (O.out.symm.trans j);clear j;go_wp2_with fail;refine(bv s m e d _ ai o f.1 f.2 oZ).mono ?_;rintro bf w1⟨rfl,d1,c,hs⟩;have Y:=qZ (aC c hs);clear c hs o f;go_wp2_with fail;go_meet;exact⟨rfl,d1,Y⟩
      case rest=>
       as_aux_lemma=>
        obtain⟨rfl,d1,c,hs⟩:=hcut;have X:=qZ (apn aa ab ad ak af H.1 H.2 c);have ba:=qZ (c.size.trans ai);have Y:=qZ c;have p:=qZ hs;clear c hs o O;obtain⟨a0,bj⟩:∃b,b=decide (a<s/\s<mid):=⟨_,rfl⟩;have Q:=qZ bj;clear bj;go_upto_region 41 with fail;go_cut[20,199] (λv b A=>v=cN cI s/\b=.bool a0/\Sit enc k w0 bV off d1 A);case first=>
         as_aux_lemma=>
          by_cases ax:(a:Int)<(s:Int)
          .by_cases ay:(s:Int)<(mid:Int)
           .go_wp2_with fail;go_meet;exact⟨rfl,by rw[Q.out,decide_eq_true (show a<s/\s<mid by omega)],p⟩
           .go_wp2_with fail;go_meet;exact⟨rfl,by rw[Q.out,dS (show¬(a<s/\s<mid) by omega)],p⟩
          .go_wp2_with fail;go_meet;exact⟨rfl,by rw[Q.out,dS (show¬(a<s/\s<mid) by omega)],p⟩
        case rest=>
         as_aux_lemma=>
          obtain⟨rfl,rfl,hs⟩:=hcut;have ag:=qZ hs;clear hs p
          go_upto_if 199 with fail
          go_cut[20] (λv A=>v=cN cI s/\∃d2,Mrg cf d1 d2 a mid/\Sit enc k w0 bV off d2 A);case first=>
           as_aux_lemma=>
            cases j:a0
            .have f:=of_decide_eq_false (Q.out.symm.trans j);clear j;have ah:=qY (Sd cf d1 a mid) (by
              rcases Nat.eq_or_lt_of_le aa with x|x
              .rw[x];exact X.2.1
              .rw[show mid=s by omega];exact X.1)
             clear f;go_wp2_with fail;go_meet;exact⟨rfl,d1,Mrg.same ah,ag⟩
            .have f:=of_decide_eq_true (Q.out.symm.trans j);clear j;go_wp2_with fail;refine(bb a s mid d1 _ ba oZ ag f.1 f.2 oZ X.1 X.2.1).mono ?_;rintro bf w1⟨rfl,d2,c,hs⟩;have bs:=qZ (aC c hs);clear c hs ag f;go_wp2_with fail;go_meet;exact⟨rfl,d2,bs⟩
          case rest=>
           as_aux_lemma=>
            obtain⟨rfl,d2,c,hs⟩:=hcut;have aj:=qZ (aC (c.sd (.inr lZ) X.2.2.1) (c.sd (.inr bq) X.2.2.2));have bu:=qZ (c.size.trans ba);have am:=qZ c;have J:=qZ hs;clear c hs ag Q;by_cases f:mid<e/\e<b
            .have ax:(mid:Int)<(e:Int):=oZ;have ay:(e:Int)<(b:Int):=oZ;go_wp2_with fail;refine(bb mid e b d2 _ bu oZ J f.1 f.2 ao aj.1 aj.2).mono ?_;rintro bf w1⟨rfl,d3,c,hs⟩;have a9:=qZ (aC c hs);clear c hs J;go_wp2_with fail
             go_end0
             exact⟨rfl,d3,xX aq aa ab ad ak af H.1 H.2 T.1 T.2 Y am a9.1,a9.2⟩
            .have ah:=qY (Sd cf d2 mid b) (by
              rcases Nat.eq_or_lt_of_le bq with x|x
              .rw[x];exact aj.2
              .rw[show b=e by omega];exact aj.1)
             by_cases ax:(mid:Int)<(e:Int)
             .have ay:¬(e:Int)<(b:Int):=oZ;go_wp2_with fail
              go_end0
              exact⟨rfl,d2,xX aq aa ab ad ak af H.1 H.2 T.1 T.2 Y am (Mrg.same ah),J⟩
             .go_wp2_with fail
              go_end0
              exact⟨rfl,d2,xX aq aa ab ad ak af H.1 H.2 T.1 T.2 Y am (Mrg.same ah),J⟩
variable {P:cU} {α:Type} [Inhabited α]
structure FK (P:Program):Prop where
 f98:P.funcs[268]? =some Tryz.f268
 f95:P.funcs[241]? =some Tryz.f241
 f85:P.funcs[203]? =some Tryz.f203
 f84:P.funcs[202]? =some Tryz.f202
 f72:P.funcs[138]? =some Tryz.f138
 e98:∀args w,(callFunc 268 args).run P w=.ok (.enter 268 args) w
 e95:∀args w,(callFunc 241 args).run P w=.ok (.enter 241 args) w
 e85:∀args w,(callFunc 203 args).run P w=.ok (.enter 203 args) w
 e84:∀args w,(callFunc 202 args).run P w=.ok (.enter 202 args) w
theorem aea{k:Nat}(L:PK P k)(F:FK P)(enc:α->List ac)(i:∀x,(enc x).length=k)(l:∀x,∀v∈enc x,v.oneCell'=cX)(cf:α->α->Int)(p:iQ cf)(g:Nat)(c:Array ac)(bV off cap n:Nat)(w0:cD)(j:∀args w,(cT g args).run P w=.ok (.enter g args) w)(o:wW P g c enc cf bV w0)(s:n<2305843009213693952):∀N,aeH P enc k cf g c bV off cap n w0 N
 |0=>λa m b d w _ H _ u r _ _ _=>oZ
 |N+1=>λa m b d w y H e u r f z A=>by
  by_cases c1:a+1=m
  .subst y;exact ahx L F.f85 enc i l cf p g c bV off cap a m b d w0 w j o e c1 r f s A
  .by_cases c2:m+1=b
   .subst y;exact akL L F.f85 enc i l cf p g c bV off cap a m b d w0 w j o e oZ c2 f s z
   .exact anv L F.f85 enc i cf p g c bV off cap n N a m b d w0 w j F.e85 F.e95 o (aea L F enc i l cf p g c bV off cap n w0 j o s N)
     (λa m b d w hs e u r f=>by subst hs;exact afn L F.f95 F.f98 enc i l g c bV off cap a m b d w0 w F.e98 e u r f oZ) y oZ e oZ oZ f s z A
theorem amg{k:Nat}(L:PK P k)(F:FK P)(enc:α->List ac)(r:∀x,(enc x).length=k)(m:∀x,∀v∈enc x,v.oneCell'=cX)(cf:α->α->Int)(p:iQ cf)(g:Nat)(f:Array ac)(bV off cap n:Nat)(w0:cD)(l:∀args w,(cT g args).run P w=.ok (.enter g args) w)(o:wW P g f enc cf bV w0)(s:n<2305843009213693952)(a b:Nat)(c:Array α)(w:cD)(hs:c.size=n)(d:Sit enc k w0 bV off c w)(i:a<=b)(j:b<=n):cW P 202 #[cF (cC ⟨bV,off,cE⟩) n cap,a,b,.func (.func g) #[] f] w λe w'=>e=cH (du #[])/\Mrg cf c (cJ (dx cf) c a b) a b/\Sit enc k w0 bV off (cJ (dx cf) c a b) w':=by subst hs;exact(aos L F.f84 enc r m cf g f bV off cap a b c w l (o.on d.bA) d.holds d.lt i j oZ).mono (λe w' h=>⟨h.1,MF p c i j,d.trans h.2⟩)
theorem aac{k:Nat}(L:PK P k)(F:FK P)(enc:α->List ac)(W:∀x,(enc x).length=k)(Q:∀x,∀v∈enc x,v.oneCell'=cX)(cf:α->α->Int)(A:iQ cf)(g:Nat)(y:Array ac)(bV off cap n:Nat)(d:Array α)(w0:cD)(O:∀args w,(cT g args).run P w=.ok (.enter g args) w)(T:wW P g y enc cf bV w0)(z:Sit enc k w0 bV off d w0)(Y:d.size=n)(az:n<1152921504606846976):cW P 138 #[cF (cC ⟨bV,off,cE⟩) n cap,n,.func (.func g) #[] y] w0 λe w'=>e=cH (du #[])/\Sit enc k w0 bV off (cJ (dx cf) d 0 d.size) w':=by
 have mixed:=L.mixed;have a5:=L.t3;have a3:=L.a3;have bc:=L.z3;have ba:=L.v3;have t4:=L.t4;have a4:=L.a4;have z4:=L.z4;have v4:=L.v4;have a8:=L.t49;have an:=L.a49;have bd:=L.z49;have bb:=L.v49;have a9:=L.tu;have ap:=L.au;have bf:=L.zu;have ao:=L.aE;have be:=L.zE;have ar:=F.e85;have aq:=F.e84;have a0:=run_underlying L.t49;have M:=qZ (λN=>aea L F enc W Q cf A g y bV off cap n w0 O T oZ N);have K:=qZ (λ(a b:Nat) (f:Array α) (w:cD) (hs:f.size=n) (z:Sit enc k w0 bV off f w) (af:a<=b) (ag:b<=n)=>amg L F enc W Q cf A g y bV off cap n w0 O T oZ a b f w hs z af ag);have aa:=qZ z;have r:=qZ Y;clear z Y;go_enter F.f72,ntmps138;go_wp2_with fail;go_loopg[7,8] n (λab I J wr=>∃(a:Nat) (f:Array α),I=cN cI a/\J=cN cI ((a+20:Nat):Int)/\a<=n/\n<=ab+a/\Hid (Lot0 cf d f 20 n a)/\Hid (Sit enc k w0 bV off f wr));exact⟨0,d,mZ,mZ,oZ,oZ,qZ (Lot0.start d 20 n),aa⟩
 obtain⟨a,f,rfl,rfl,s,av,i,l⟩:=hrel;by_cases H:a+20<=n
 .have ah:(a:Int)+20<=(n:Int):=oZ;go_wp2_with fail;rw[show(a:Int)+20=((a+20:Nat):Int) by omega];refine(K a (a+20) f _ (i.size.trans r) l oZ H).mono ?_;rintro e w1⟨rfl,m,hs⟩;have j:=qZ (i.step m H);have o:=qZ hs;clear hs;go_wp2_with fail;go_roundg(n-(a+20));exact⟨a+20,_,mZ,mZ,H,oZ,j,o⟩;omega
 .have ah:¬(a:Int)+20<=(n:Int):=oZ;go_wp2_with fail;refine(K a n f _ (i.size.trans r) l s lZ).mono ?_;rintro e w1⟨rfl,m,hs⟩;have j:=qZ (i.done m s oZ);have o:=qZ hs;generalize cJ (dx cf) f a n=d1 at*;clear hs;go_wp2_with fail;go_loopg[6] n (λad am wr=>∃(c q:Nat) (f:Array α),am=cN cI c/\0<c/\c<n+n+21/\n<=ad+c/\Hid (Lot cf d f c n 0 q)/\Hid (Sit enc k w0 bV off f wr));exact⟨20,a,d1,mZ,oZ,oZ,oZ,j,o⟩
  obtain⟨c,q,f,rfl,p,au,aw,i,l⟩:=hrel;by_cases ay:c<n
  .have ai:(c:Int)<(n:Int):=oZ;go_wp2_with fail;go_loopg[7,8] n (λae I J wr=>∃(a:Nat) (f:Array α),I=cN cI a/\J=cN cI ((a+(c+c):Nat):Int)/\a<=n/\n<=ae+a/\Hid (Lot cf d f c n a q)/\Hid (Sit enc k w0 bV off f wr));exact⟨0,f,mZ,dB (eb cI) oZ,oZ,oZ,i,l⟩
   obtain⟨a,f,rfl,rfl,s,ax,i,l⟩:=hrel;by_cases u:a+(c+c)<=n
   .have aj:(a:Int)+((c:Int)+(c:Int))<=(n:Int):=oZ;go_wp2_with fail;rw[show(a:Int)+((c:Int)+(c:Int))=((a+(c+c):Nat):Int) by omega,show(a:Int)+(c:Int)=((a+c:Nat):Int) by omega];refine(M (c+c) a (a+c) (a+(c+c)) f _ (i.size.trans r) oZ l oZ oZ u (i.two p u).1 (i.two p u).2).mono ?_;rintro e w1⟨rfl,d2,m,hs⟩;have j:=qZ (i.step p u m);have o:=qZ hs;clear hs;go_wp2_with fail;go_roundg(n-(a+(c+c)));exact⟨a+(c+c),d2,mZ,dB (eb cI) oZ,u,oZ,j,o⟩;omega
   .have aj:¬(a:Int)+((c:Int)+(c:Int))<=(n:Int):=oZ;by_cases m:a+c<n
    .have al:(a:Int)+(c:Int)<(n:Int):=oZ;go_wp2_with fail;rw[show(a:Int)+(c:Int)=((a+c:Nat):Int) by omega];refine(M n a (a+c) n f _ (i.size.trans r) oZ l oZ m lZ (i.last p oZ m).1 (i.last p oZ m).2).mono ?_;rintro e w1⟨rfl,d2,ak,hs⟩;have j:=qZ (i.next s oZ ak);have o:=qZ hs;clear hs;go_wp2_with fail;go_roundg(n-(c+c));exact⟨c+c,a,d2,dB (eb cI) oZ,oZ,oZ,oZ,j,o⟩;omega
    .have al:¬(a:Int)+(c:Int)<(n:Int):=oZ;have j:=qZ (i.next s oZ (Mrg.same (i.one p oZ)));go_wp2_with fail;go_roundg(n-(c+c));exact⟨c+c,a,f,dB (eb cI) oZ,oZ,oZ,oZ,j,l⟩;omega
  .have ai:¬(c:Int)<(n:Int):=oZ;have Z:=qY (f=cJ (dx cf) d 0 d.size) (by have X:=i.out;rw[<-r.out]at X;exact X.whole A p (by have:=r.out;omega));go_wp2_with fail
   go_end0
   exact⟨rfl,by rw[<-Z.out];exact l⟩
end Srt
namespace bT
open Go Go.RowKit Go.Sort L bO Srt
theorem sW(cs:Array ac)(o:Nat)(vs:List ac)(h:o+vs.length<=cs.size):(cS cs o vs).toList=cs.toList.take o++(vs++cs.toList.drop (o+vs.length)):=by
 apply fP;intro j;by_cases a:j<cs.size
 .have g:=get_setMany vs o cs j a;have e1:(cS cs o vs).toList[j]? =cC (cS cs o vs)[j]! :=by rw[dF,bY (by simpa using a),bX _ j (by simpa using a)]
  rw[e1,g];have c:(cs.toList.take o).length=o:=by simp;omega
  by_cases b:j<o
  .rw[aF oZ,cO oZ,dU,aI b,dF,bY a,bX cs j a]
  .rw[dK oZ,c];by_cases d:j<o+vs.length
   .rw[aI oZ,cO oZ,aH oZ,bX vs (j-o) oZ]
   .rw[aF oZ,dK oZ,jZ,show o+vs.length+(j-o-vs.length)=j by omega,dF,bY a,bX cs j a]
 .rw[eH (by simp;omega),eH (by simp;omega)]
theorem uE{E:dz}{g:Nat}:∀(vs:List ac) (o:Nat) (W:cD) (cs:Array ac),Blk W g E cs->Blk (W.setCells g o vs) g E (cS cs o vs)
 |[],_,_,_,h=>h
 |v::vs,o,W,cs,h=>uE vs (o+1) _ _ (Blk.bR h o v)
theorem sF(g:Nat):∀(vs:List ac) (o:Nat) (W:cD),aL (λi=>i=g) W (W.setCells g o vs)
 |[],_,W=>aL.refl _ _
 |v::vs,o,W=>((aL.refl (λi=>i=g) W).setCell (p:=⟨g,o,cE⟩) (.inl rfl) v).trans (sF g vs (o+1) _)
section
variable {P:cU} {α:Type} {dec:α->List ac} {k:Nat} {E t:dz} {i0:TypeInfo}
theorem TW(F:P.underlying t=cC (.slice E))(hi:P.info? E=cC i0)(n:i0.size=k)(J:0<k)(m:∀x,(dec x).length=k)(ty:dz){w:cD}{g cap i:Nat}{cs:Array ac}{xs:List α}(s:∀x∈xs,∀u∈dec x,u.oneCell'=cX)(l:Blk w g E cs)(hs:cs.size=cap*k)(r:cs.toList.take (xs.length*k)=xs.flatMap dec)(L:xs.length<=cap)(I:i<xs.length)(a:Addr)(c:Nat)(y:i+1<xs.length->a=⟨g,(i+1)*k,cE⟩):(Builtin.append_ #[t,t] ty #[cF g i cap,cF (cC a) (xs.length-(i+1)) c]).run P w=.ok (cF g (xs.length-1) cap) (w.setCells g (i*k) ((xs.drop (i+1)).flatMap dec))/\(cS cs (i*k) ((xs.drop (i+1)).flatMap dec)).toList.take ((xs.length-1)*k)=(xs.eraseIdx i).flatMap dec:=by
 have b:((xs.drop (i+1)).flatMap dec).length=(xs.length-(i+1))*k:=by rw[iN m,fJ]
 have M:i*k+(xs.length-(i+1))*k=(xs.length-1)*k:=by rw[<-fZ];congr 1;omega
 have K:(xs.length-1)*k<=cs.size:=by rw[hs];exact dD k oZ
 refine⟨?_,?_⟩
 .have p:=run_append_room_cells (P:=P) (w:=w) t ty E i0 F hi g 0 i cap a (xs.length-(i+1)) c ((xs.drop (i+1)).flatMap dec) (by rw[n];exact b) (λj u f=>by
   have d:j<(xs.length-(i+1))*k:=by rw[<-b];exact(bF.1 f).1
   have z:i+1<xs.length:=by
    rcases fI (i+1) xs.length with h|h
    .exact h
    .rw[show xs.length-(i+1)=0 by omega,kP]at d;omega
   rw[y z,cV,l.cell,<-dF];have e:(xs.flatMap dec)[(i+1)*k+j]? =cC u:=by
    have e2:xs.flatMap dec=(xs.take (i+1)).flatMap dec++(xs.drop (i+1)).flatMap dec:=by rw[<-jQ,gX]
    have e3:((xs.take (i+1)).flatMap dec).length=(i+1)*k:=by rw[iN m,bN,gV oZ]
    rw[e2,dK (by rw[e3];omega),e3,Nat.add_sub_cancel_left];exact f
   rw[<-r,dU]at e;split at e
   .exact e
   .cases e) (λu f=>by
   obtain⟨x,A,H⟩:=jC.1 f;exact s x (List.mem_of_mem_drop A) u H) oZ (λj d=>by
   rw[n,aO,l.cell,bY (by rw[b]at d;omega)];rfl) (λj d=>l.frozen _)
  rw[n,aO,show i+(xs.length-(i+1))=xs.length-1 by omega]at p;exact p
 .have e3:cs.toList.take (i*k)=(xs.take i).flatMap dec:=by
   have v:i*k<=xs.length*k:=dD k oZ;have e4:xs.flatMap dec=(xs.take i).flatMap dec++(xs.drop i).flatMap dec:=by rw[<-jQ,gX]
   have o:((xs.take i).flatMap dec).length=i*k:=by rw[iN m,bN,gV oZ]
   have:(cs.toList.take (xs.length*k)).take (i*k)=(xs.flatMap dec).take (i*k):=by rw[r]
   rw[dv,gV v,e4,<-o,dw]at this;rw[<-o];exact this
  rw[sW _ _ _ (by rw[b];omega),<-bM,jJ (by simp[b];omega),aU (by simp[b];omega),e3,List.eraseIdx_eq_take_drop_succ,jQ]
theorem XM(f:P.underlying t=cC (.slice E))(hi:P.info? E=cC i0)(i:i0.size=k){g n m cap:Nat}(b:m<=n)(e:n<=cap):∃a c,(∀W,(cG t (cF g n cap) (cC (cN cI m)) cE cE).run P W=.ok (cF (cC a) (n-m) c) W)/\(m<n->a=⟨g,m*k,cE⟩):=by
 by_cases d:m=cap
 .obtain rfl:m=cap:=d;obtain rfl:n=m:=by omega
  refine⟨⟨g,0,cE⟩,n-n,λW=>?_,λh=>oZ⟩;simp[cG,run_underlying f,cM,cP,dC,dE,dt,hi]
 .refine⟨⟨g,m*k,cE⟩,cap-m,λW=>?_,λh=>rfl⟩;simp[cG,run_underlying f,cM,cP,dC,dE,dt,hi,b,e,bC b e,i,cV,Ne.symm d]
theorem EX(e:P.underlying t=cC (.slice E))(hi:P.info? E=cC i0)(d:i0.size=k){g n m h cap:Nat}(b:m<=h)(a:h<=cap)(c:m<cap)(W:cD):(cG t (cF g n cap) (cC (cN cI m)) (cC (cN cI h)) cE).run P W=.ok (cF (cC ⟨g,m*k,cE⟩) (h-m) (cap-m)) W:=by simp[cG,run_underlying e,cM,cP,dC,dE,dt,hi,b,a,bC b a,d,cV,Nat.ne_of_gt c]
theorem XL(c:P.underlying t=cC (.slice E))(hi:P.info? E=cC i0)(f:i0.size=k){g n m h cap:Nat}(e:m<=h)(d:h<=n)(b:n<=cap):∃v,∀W,(cG t (cF g n cap) (cC (cN cI m)) (cC (cN cI h)) (cC (cN cI n))).run P W=.ok v W:=by
 by_cases a:m=n
 .obtain rfl:m=n:=a;obtain rfl:h=m:=by omega
  refine⟨cF g (h-h) (h-h),λW=>?_⟩;simp[cG,run_underlying c,cM,cP,dC,dE,dt,hi,b]
 .refine⟨cF (cC ⟨g,m*k,cE⟩) (h-m) (n-m),λW=>?_⟩;simp[cG,run_underlying c,cM,cP,dC,dE,dt,hi,e,d,b,f,cV,Ne.symm a]
theorem nM{g:Array et}{rest:List et}{o:et}{a:Act}{w:cD}{Q:Exit->Act->cD->Prop}(j:o.guard=cE)(s:eu)(lo hi f:Option eu)(t e:dz)(r:P.underlying t=cC (.slice e))(m:o.op=.slice t s lo hi f)(vs:ac)(c b d:Option ac){v':ac}(hs:a.eval s=vs)(l:lo.map a.eval=c)(k:hi.map a.eval=b)(u:f.map a.eval=d)(p:(cG t vs c b d).run P w=.ok v' w)(h:er P g Q rest (a.put o.dst v') w):er P g Q (o::rest) a w:=
 el j λ_ i=>by
  have n:(eh t vs c b d).run P w=.ok v' w:=by simp[eh,run_underlying r,p]
  unfold Oper.wp execOp;simp only[m,en,eo,Result.andThen_ok,hs,l,k,u,n];exact i _ _ h
theorem ZI(l:P.underlying t=cC (.slice E)){z:ac}(m:∀w,(zeroValue E).run P w=.ok z w)(p:(cQ z.cells 1).toList.length=k)(f:∀u∈(cQ z.cells 1).toList,u.oneCell'=cX){w:cD}{g o c:Nat}{cs:Array ac}(d:Blk w g E cs)(r:o+k<=cs.size):(∀ty,(eg #[t] ty #[cF (cC ⟨g,o,cE⟩) 1 c]).run P w=.ok (du #[]) (w.setCells g o (cQ z.cells 1).toList))/\(cS cs o (cQ z.cells 1).toList).toList.take o=cs.toList.take o:=by
 have i:ew id w g 0 cs:=λj e=>⟨by rw[aO,d.cell,bX cs j e,bY e];rfl,by rw[aO];exact d.frozen j⟩;have a:=cY P i o (cQ z.cells 1).toList oZ f;rw[aO]at a;refine⟨λty=>?_,?_⟩
 .obtain⟨n,b⟩:=nZ (cQ z.cells 1);rw[b]at a⊢;simp[eg,run_underlying l,m,b,a]
 .rw[sW _ _ _ oZ,jJ (by simp;omega),dv,Nat.min_self]
end
open Go Go.RowKit Go.Sort L bO Srt
section
variable {P:cU} {α:Type} {dec:α->List ac} {k:Nat} {E t:dz} {i0:TypeInfo}
theorem DL(F:P.underlying t=cC (.slice E))(hi:P.info? E=cC i0)(A:i0.size=k){w:cD}{g o n p m i:Nat}{a:Addr}{l:dz}{cs:Array ac}(c:Blk w g l cs)(vs:List ac)(v:vs.length=Nat.min m n*k)(z:∀j u,vs[j]? =cC u->w.cell? (a.add j)=cC u)(y:o+vs.length<=cs.size)(r:∀u∈vs,u.oneCell'=cX)(ty:dz):(dT #[t,t] ty #[cF (cC ⟨g,o,cE⟩) n p,cF (cC a) m i]).run P w=.ok (goInt (Nat.min m n)) (w.setCells g o vs):=by have s:ew id w g 0 cs:=λj e=>⟨by rw[aO,c.cell,bX cs j e,bY e];rfl,by rw[aO];exact c.frozen j⟩;have f:=cY P s o vs y r;rw[aO]at f;have d:=run_firstCells_some (P:=P) (w:=w) k (Nat.min m n) a m i vs v z;obtain⟨q,b⟩:=nZ (Nat.min m n);have x:min m n=q:=b;rw[b]at d⊢;simp[dT,run_underlying F,Builtin.lenOf,dE,dt,hi,A,b,x,d,f]
theorem YZ(c:∀x,(dec x).length=k)(xs:List α){cs:List ac}{i:Nat}(hi:i<=xs.length)(h:cs.take (xs.length*k)=xs.flatMap dec):cs.take (i*k)=(xs.take i).flatMap dec/\(∀j u,((xs.drop i).flatMap dec)[j]? =cC u->cs[i*k+j]? =cC u):=by
 have b:i*k<=xs.length*k:=dD k hi;have e4:xs.flatMap dec=(xs.take i).flatMap dec++(xs.drop i).flatMap dec:=by rw[<-jQ,gX]
 have a:((xs.take i).flatMap dec).length=i*k:=by rw[iN c,bN,gV hi]
 refine⟨?_,λj u d=>?_⟩
 .have:(cs.take (xs.length*k)).take (i*k)=(xs.flatMap dec).take (i*k):=by rw[h]
  rw[dv,gV b,e4,<-a,dw]at this;rw[<-a];exact this
 .have e:(xs.flatMap dec)[i*k+j]? =cC u:=by rw[e4,dK (by rw[a];omega),a,Nat.add_sub_cancel_left];exact d
  rw[<-h,dU]at e;split at e
  .exact e
  .cases e
theorem abR(c:∀x,(dec x).length=k)(xs:List α)(p:α){cs:Array ac}{i:Nat}(hi:i<=xs.length)(hs:(xs.length+1)*k<=cs.size)(h:cs.toList.take (i*k)=(xs.take i).flatMap dec):(cS (cS cs ((i+1)*k) ((xs.drop i).flatMap dec)) (i*k) (dec p)).toList.take ((xs.length+1)*k)=(xs.take i++p::xs.drop i).flatMap dec/\(cS (cS cs (i*k) (dec p)) ((i+1)*k) ((xs.drop i).flatMap dec)).toList.take ((xs.length+1)*k)=(xs.take i++p::xs.drop i).flatMap dec:=by
 have e:((xs.drop i).flatMap dec).length=(xs.length-i)*k:=by rw[iN c,fJ]
 have g:(dec p).length=k:=c p;have e1:(i+1)*k=i*k+k:=Nat.succ_mul i k;have e2:(i+1)*k+(xs.length-i)*k=(xs.length+1)*k:=by rw[<-fZ];congr 1;omega
 have e3:i*k<=cs.size:=oZ;obtain⟨D,f⟩:=nZ ((xs.drop i).flatMap dec);obtain⟨T,b⟩:=nZ ((xs.take i).flatMap dec);have l:T.length=i*k:=by rw[<-b,iN c,bN,gV hi]
 have j:(xs.take i++p::xs.drop i).flatMap dec=T++(dec p++D):=by rw[jQ,dA,f,b]
 rw[f]at e⊢;rw[b]at h;rw[j];obtain⟨q,u⟩:=nZ ((xs.length+1)*k);obtain⟨o,r⟩:=nZ (i*k);obtain⟨a,s⟩:=nZ ((i+1)*k);obtain⟨v,m⟩:=nZ ((xs.length-i)*k);rw[u]at hs e2⊢;rw[r]at h e1 e3 l⊢;rw[s]at e1 e2⊢;rw[m]at e e2;have n:(T++(dec p++D)).length=q:=by simp;omega
 have d:∀R:List ac,(T++(dec p++D)++R).take q=T++(dec p++D):=λR=>by rw[<-n,dw]
 refine⟨?_,?_⟩
 .rw[sW _ _ _ (by simp;omega),sW _ _ _ oZ,g];have a1:(cs.toList.take a++(D++cs.toList.drop (a+D.length))).take o=T:=by rw[jJ (by simp;omega),dv,gV oZ,h]
  have a2:(cs.toList.take a++(D++cs.toList.drop (a+D.length))).drop (o+k)=D++cs.toList.drop (a+D.length):=by
   have:(cs.toList.take a).length=o+k:=by simp;omega
   rw[<-this,List.drop_left]
  rw[a1,a2,<-bM (dec p),<-bM T];exact d _
 .rw[sW _ _ _ (by simp;omega),sW _ _ _ oZ,g];have a1:(cs.toList.take o++(dec p++cs.toList.drop (o+k))).take a=T++dec p:=by
   have:(cs.toList.take o++dec p).length=a:=by simp;omega
   rw[<-bM,<-this,dw,h]
  rw[a1,<-bM,bM T];exact d _
theorem xG(e:P.underlying t=cC (.slice E))(hi:P.info? E=cC i0)(d:i0.size=k){g n m cap:Nat}(a:m<=n)(b:n<=cap)(c:m<cap)(W:cD):(cG t (cF g n cap) (cC (cN cI m)) cE cE).run P W=.ok (cF (cC ⟨g,m*k,cE⟩) (n-m) (cap-m)) W:=by simp[cG,run_underlying e,cM,cP,dC,dE,dt,hi,a,b,bC a b,d,cV,Nat.ne_of_gt c]
theorem anE(c:P.underlying t=cC (.slice E))(hi:P.info? E=cC i0){g n m cap:Nat}(b:m<=cap)(W:cD):(cG t (cF g n cap) cE (cC (cN cI m)) cE).run P W=.ok (cF g m cap) W:=by
 have a:Addr.add ⟨g,0,cE⟩ 0=⟨g,0,cE⟩:=by rw[cV]
 simp[cG,run_underlying c,cM,cP,dC,dE,dt,hi,b,a]
theorem ZL{w:cD}{g:Nat}{cs:Array ac}(h:Blk w g E cs):w.shape? g=cC (E,cs.size):=by unfold World.shape?;rw[h]
theorem vP{b:Array et}{rest:List et}{o:et}{a:Act}{w w':cD}{Q:Exit->Act->cD->Prop}(e:o.guard=cE)(s x:eu)(t c:dz)(f:o.op=.call {callee:=.builtin .copy,args:=#[s,x],argTypes:=#[t,c]})(vs vx:ac){v':ac}(hs:a.eval s=vs)(i:a.eval x=vx)(g:(dT #[t,c] o.type #[vs,vx]).run P w=.ok v' w')(h:er P b Q rest (a.put o.dst v') w'):er P b Q (o::rest) a w:=
 el e λ_ d=>by unfold Oper.wp execOp;simp only[f,resolve,invoke,builtin,en,eo,Result.andThen_ok,jD,dG,fQ,hs,i,g];exact d _ _ h
def vN{α:Type}(E:dz)(k:Nat)(dec:α->List ac)(v:ac)(xs:List α)(B:Nat)(w:cD)(e:Ending)(w':cD):Prop:=∃v',e=cH v'/\bL w' B E k dec v' xs/\aL (λi=>v.ownBlock=cC i) w w'/\∀b,v'.ownBlock=cC b->v.ownBlock=cC b\/(w:Nat)<=b
end
end bT
end Go.Proofs.YtedmeglbjmdlhaaGreatDoor
