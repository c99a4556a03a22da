/-
Parts that the laws of the whole program share: contracts of its functions, and plain laws.
-/
import Derived.Test.YtedmeglbjmdlhaaGreatDoorG15
import Derived.Shelf.SlicesQ.Reverse
import Derived.Shelf.RegionOpenPlain
import Derived.Shelf.GgSortFunc.InsertionK
import Derived.Test.YtedmeglbjmdlhaaGreatDoorG7
import Derived.ArgAppend
import Derived.Lib.Overlaps
import Derived.Lib.AppendZerosOnto
set_option maxRecDepth 100000
set_option maxHeartbeats 16000000
set_option linter.all false
open Go.Proofs.Tryz
namespace Go.Proofs.YtedmeglbjmdlhaaGreatDoor
open L Ord Srt bM bU
namespace Srt
open Go Go.RowKit Go.Sort L bM
structure PK (P:Program) (k:Nat):Prop where
 mixed:P.follows .mixedOrders=true
 t3:P.underlying 3=some (TypeDesc.int IntKind.i64)
 a3:∀w,(isAgg 3).run P w=.ok false w
 z3:∀w,(Go.sizeOf 3).run P w=.ok 1 w
 v3:∀w,(zeroValue 3).run P w=.ok (Value.int IntKind.i64 0) w
 t4:P.underlying 4=some TypeDesc.bool
 a4:∀w,(isAgg 4).run P w=.ok false w
 z4:∀w,(Go.sizeOf 4).run P w=.ok 1 w
 v4:∀w,(zeroValue 4).run P w=.ok (Value.bool false) w
 t49:P.underlying 27=some (TypeDesc.slice 44)
 a49:∀w,(isAgg 27).run P w=.ok false w
 z49:∀w,(Go.sizeOf 27).run P w=.ok 1 w
 v49:∀w,(zeroValue 27).run P w=.ok (Value.slice none 0 0) w
 tu:P.underlying 123=some (TypeDesc.int IntKind.u64)
 au:∀w,(isAgg 123).run P w=.ok false w
 zu:∀w,(Go.sizeOf 123).run P w=.ok 1 w
 aE:∀w,(isAgg 44).run P w=.ok true w
 zE:∀w,(Go.sizeOf 44).run P w=.ok k w
section
variable {P:Program} {α:Type} [Inhabited α]
theorem QO{enc:α->List Value}{k:Nat}{w w':World}{cK off:Nat}{d:Array α}(h:HoldsK enc k w cK off d)(a:cK<(w:Nat))(c:Below w w w'):HoldsK enc k w' cK off d:=λj b=>
 ⟨(c.cell (p:=⟨cK,off+j,none⟩) a).trans (h j b).1,(c.frozen (p:=⟨cK,off+j,none⟩) a).trans (h j b).2⟩
def zC(P:Program)(g:Nat)(cb:Array Value)(enc:α->List Value)(cf:α->α->Int)(cK:Nat)(w:World):Prop:=∀W,aO (λi=>i=cK) w W->∀x y:α,Calls P g (#[.agg (enc x).toArray,.agg (enc y).toArray]++cb) W λe w'=>e=.returned (.int .i64 (cf x y))/\aF W w'
structure Sit (enc:α->List Value) (k:Nat) (w:World) (cK off:Nat) (d:Array α) (W:World):Prop where
 bD:aO (λi=>i=cK) w W
 holds:HoldsK enc k W cK off d
 lt:cK<(W:Nat)
theorem Sit.start{enc:α->List Value}{k:Nat}{w:World}{cK off:Nat}{d:Array α}(h:HoldsK enc k w cK off d)(a:cK<(w:Nat)):Sit enc k w cK off d w:=⟨aO.refl _ _,h,a⟩
theorem Sit.on{enc:α->List Value}{k:Nat}{w W W':World}{cK off:Nat}{d:Array α}(h:Sit enc k w cK off d W)(a:aF W W'):Sit enc k w cK off d W':=
 ⟨h.bD.trans (aO.bS a),QO h.holds h.lt a,aM h.lt (Below.size a)⟩
theorem Sit.load{enc:α->List Value}{k:Nat}{w W:World}{cK off:Nat}{d:Array α}(h:Sit enc k w cK off d W)(a:∀x,(enc x).length=k){j:Nat}(b:j<d.size):Sem.run P (loadCellsFrom ⟨cK,off+j*k,none⟩ 0 k #[]) W=.ok (enc d[j]!).toArray W:=run_loadCellsFrom_list P _ _ _ k (a _) (HoldsK.cells h.holds a b)
theorem wZ(g:Nat):∀(vs:List Value) (o:Nat) (w:World),(w.setCells g o vs).heap.size=(w:Nat)
 |[],o,w=>rfl
 |v::vs,o,w=>by rw[World.setCells,wZ g vs];simp[World.setCell]
theorem Sit.swap{enc:α->List Value}{k:Nat}{w W:World}{cK off:Nat}{d:Array α}(h:Sit enc k w cK off d W)(a:∀x,(enc x).length=k)(g:∀x,∀v∈enc x,v.oneCell'=true){i j:Nat}(hi:i<d.size)(n:j<d.size):Sem.run P (storeCells ⟨cK,off+i*k,none⟩ (enc d[j]!) 0) W=.ok () (W.setCells cK (off+i*k) (enc d[j]!))/\Sem.run P (storeCells ⟨cK,off+j*k,none⟩ (enc d[i]!) 0) (W.setCells cK (off+i*k) (enc d[j]!))=.ok () ((W.setCells cK (off+i*k) (enc d[j]!)).setCells cK (off+j*k) (enc d[i]!))/\Sit enc k w cK off (swp d i j) ((W.setCells cK (off+i*k) (enc d[j]!)).setCells cK (off+j*k) (enc d[i]!)):=by
 have b:∀x,x<d.size->x*k+k<=d.size*k:=λx r=>by have:=bR k (show x+1<=d.size from r);rwa [gJ,Nat.one_mul]at this
 have c:(i*k)+(enc d[j]!).length<=(flatK enc k d).size:=by rw[a,size_flatK];exact b i hi
 have o:∀(F:Array Value) (s:Nat) (vs:List Value) (W:World),Holds id W cK off F->s+vs.length<=F.size->Holds id (W.setCells cK (off+s) vs) cK off (setMany F s vs):=λF s vs W h p=>by
  have e:W.setCells cK (off+s) vs=putRow id W cK off (setMany F s vs):=by
   conv=>lhs;rw[<-putRow_self id W cK off F h]
   exact setCells_putRow _ _ _ _ _ _ p
  rw[e];exact holds_putRow id W cK off F _ h (by rw[size_setMany])
 have l:=o _ _ _ _ h.holds c;have f:(j*k)+(enc d[i]!).length<=(setMany (flatK enc k d) (i*k) (enc d[j]!)).size:=by rw[a,size_setMany,size_flatK];exact b j n
 refine⟨stores_of_holds P h.holds _ _ c (g _),stores_of_holds P l _ _ f (g _),(h.bD.trans (zA cK _ _ _)).trans (zA cK _ _ _),?_,by rw[wZ,wZ];exact h.lt⟩;have m:=o _ _ _ _ l f;rw[setMany_swp enc k a d i j hi n]at m;exact m
end
open Go Go.RowKit Go.Sort L bM
variable {P:Program} {α:Type} [Inhabited α]
theorem asz{k:Nat}(L:PK P k)(hF:P.funcs[202]? =some Tryz.f202)(enc:α->List Value)(ab:∀x,(enc x).length=k)(X:∀x,∀v∈enc x,v.oneCell'=true)(cf:α->α->Int)(g:Nat)(H:Array Value)(cK off cap a b:Nat)(d:Array α)(w:World)(be:∀args w,(callFunc g args).run P w=.ok (.enter g args) w)(aa:zC P g H enc cf cK w)(Y:HoldsK enc k w cK off d)(ak:cK<(w:Nat))(bf:a<=b)(Z:b<=d.size)(bn:d.size<4611686018427387904):Calls P 202 #[.slice (some ⟨cK,off,none⟩) d.size cap,a,b,.func (.func g) #[] H] w λe w'=>e=.returned (.tuple #[])/\Sit enc k w cK off (Sort.insertionSort (ltOf cf) d a b) w':=by
 have mixed:=L.mixed;have bs:=L.t3;have a3:=L.a3;have bw:=L.z3;have bu:=L.v3;have t4:=L.t4;have a4:=L.a4;have z4:=L.z4;have v4:=L.v4;have bt:=L.t49;have a9:=L.a49;have bz:=L.z49;have bv:=L.v49;have ba:=L.aE;have b0:=L.zE;have u49:=run_underlying L.t49;have af:=qZ aa;have ah:=qZ (Sit.start Y ak);have p:=qZ ab;have ae:=qZ X;clear aa Y ab X;go_enter hF,ntmps202;go_wp2;go_loopg[8] (b-a) (λai a0 wr=>∃(i:Nat) (r:Array α),a0=.int .i64 i/\a<i/\i<=b+1/\b+1-i<=ai+1/\r.size=d.size/\Hid (Sit enc k w cK off r wr)/\Hid (insOuter (ltOf cf) a b i r=insOuter (ltOf cf) a b (a+1) d));case atStart=>exact⟨a+1,d,mZ,oZ,oZ,oZ,rfl,ah,qZ rfl⟩
 case round=>
  obtain⟨i,r,rfl,bg,bk,bi,av,Q,O⟩:=hrel;by_cases ad:i<b
  .have ao:(i:Int)<(b:Int):=oZ;go_wp2;go_loopg[9] i (λaj a5 a8=>∃(j:Nat) (m:Array α),a5=.int .i64 j/\a<=j/\j<=i/\j<=aj/\m.size=d.size/\Hid (Sit enc k w cK off m a8)/\Hid (insInner (ltOf cf) a j m=insInner (ltOf cf) a i r));case atStart=>exact⟨i,r,rfl,oZ,bI _,bI _,av,Q,qZ rfl⟩
   case round=>
    obtain⟨j,m,rfl,bh,bm,bj,M,z,N⟩:=hrel;have T:=qY ((j<=a\/ltOf cf m[j]! m[j-1]! =false)->Hid (insOuter (ltOf cf) a b (i+1) m=insOuter (ltOf cf) a b (a+1) d)) (λaq=>qZ (by rw[<-O.out,insOuter_go _ _ _ _ _ ad,<-N.out,insInner_stop _ _ _ _ aq]));by_cases am:a<j
    .obtain⟨f,rfl⟩:∃f,j=f+1:=⟨j-1,oZ⟩;obtain⟨n,u⟩:=nZ (m[f+1]!);obtain⟨o,s⟩:=nZ (m[f]!);have bo:IntKind.i64.wrap (f:Int)=(f:Int):=by rw[IntKind.wrap_i64];omega
     have bp:(f:Int)+1<(d.size:Int):=oZ;have bq:(f:Int)<(d.size:Int):=oZ;have an:(a:Int)<(f:Int)+1:=oZ;have br:(0:Int)<=(f:Int)+1:=oZ;have bd:((f:Int)+1).toNat=f+1:=oZ;have aw:∀W,aF wr W->Sem.run P (loadCellsFrom ⟨cK,off+(f+1)*k,none⟩ 0 k #[]) W=.ok (enc n).toArray W:=λW l=>by rw[<-u];exact(z.on l).load p oZ
     have ay:∀W,aF wr W->Sem.run P (loadCellsFrom ⟨cK,off+f*k,none⟩ 0 k #[]) W=.ok (enc o).toArray W:=λW l=>by rw[<-s];exact(z.on l).load p oZ
     have I:∀W,aF wr W->Calls P g (#[.agg (enc n).toArray,.agg (enc o).toArray]++H) W λe w'=>e=.returned (.int .i64 (cf n o))/\aF wr w':=λW l=>
      (af W (z.on l).bD n o).mono λe w' ⟨al,Z⟩=>⟨al,aA l Z⟩
     go_wp2_with fail;refine qB L.mixed kZ ?_;(repeat refine kY ?_);refine kM ?_ (h:=by intro W l;go_simp;first|exact I W l|exact⟨l,I W l⟩);(repeat refine kY ?_);refine eH ?_;intro W l;clear aw ay I;have y:=qZ (z.on l);clear l;by_cases ap:cf n o<0
     .have A:=y.on (aF.drew W);have ax:Sem.run P (loadCellsFrom ⟨cK,off+(f+1)*k,none⟩ 0 k #[]) W.drew=.ok (enc n).toArray W.drew:=by rw[<-u];exact A.load p oZ
      have az:Sem.run P (loadCellsFrom ⟨cK,off+f*k,none⟩ 0 k #[]) W.drew=.ok (enc o).toArray W.drew:=by rw[<-s];exact A.load p oZ
      obtain⟨s1,s2,s3⟩:=A.swap (P:=P) p ae (i:=f+1) (j:=f) oZ oZ;rw[u,s]at s2;rw[s]at s1;have F:=qZ s3;rw[u,s]at F;have ar:(enc n).length=k:=p _;have au:(enc o).length=k:=p _;clear s3 A y;obtain⟨bb,J⟩:∃c,c=enc n:=⟨_,rfl⟩;obtain⟨bc,K⟩:∃c,c=enc o:=⟨_,rfl⟩;rw[<-K]at s1 az au;rw[<-J]at ax ar;rw[<-J,<-K]at s2 F⊢;have ag:=qY (insInner (ltOf cf) a f (swp m (f+1) f)=insInner (ltOf cf) a i r) (by have:=insInner_go (ltOf cf) a (f+1) m am (by simp only[iE];rw[u,s];exact decide_eq_true ap);simp only[iE]at this;rw[<-N.out,this]);clear J K;go_wp2_with fail
      go_big_region_o
      all_goals go_wp2
      go_roundg f;case measure=>omega
      case rel=>exact⟨f,swp m (f+1) f,by first|rfl|go_num,oZ,oZ,bI _,by rw[size_swp];exact M,F,ag⟩
     .go_wp2_with fail;go_wp2;go_roundg(b-(i+1));case measure=>omega
      case rel=>exact⟨i+1,m,mZ,oZ,oZ,oZ,M,y,T (Or.inr (by simp only[iE];rw[u,s];exact eG oZ))⟩
    .have bl:decide ((j:Int)>(a:Int))=false:=eG oZ;have an:¬(a:Int)<(j:Int):=oZ;go_wp2_with fail;refine qB L.mixed kZ ?_;(repeat first|(refine kY ?_)|(refine kN ?_));refine eH ?_;intro W l;have y:=qZ (z.on l);clear l;go_wp2_with fail;go_wp2;go_roundg(b-(i+1));case measure=>omega
     case rel=>exact⟨i+1,m,mZ,oZ,oZ,oZ,M,y,T (Or.inl oZ)⟩
  .have ao:¬(i:Int)<(b:Int):=oZ;go_wp2
   go_end0
   exact⟨rfl,by unfold Sort.insertionSort;rw[<-O.out,insOuter_stop _ _ _ _ _ ad];exact Q⟩
variable {P:Program} {α:Type} [Inhabited α]
omit [Inhabited α]in
theorem zC.on{g:Nat}{a:Array Value}{enc:α->List Value}{cf:α->α->Int}{cK:Nat}{w w1:World}(h:zC P g a enc cf cK w)(c:aO (λi=>i=cK) w w1):zC P g a enc cf cK w1:=λW b=>h W (c.trans b)
theorem Sit.trans{enc:α->List Value}{k:Nat}{w w1 W:World}{cK off:Nat}{d d':Array α}(h:Sit enc k w cK off d w1)(a:Sit enc k w1 cK off d' W):Sit enc k w cK off d' W:=⟨h.bD.trans a.bD,a.holds,a.lt⟩
theorem aoG{k:Nat}(L:PK P k)(hF:P.funcs[268]? =some Tryz.f268)(enc:α->List Value)(M:∀x,(enc x).length=k)(H:∀x,∀v∈enc x,v.oneCell'=true)(g:Nat)(W:Array Value)(cK off cap a b n:Nat)(d:Array α)(w0 w:World)(I:Sit enc k w0 cK off d w)(ak:a+n<=b)(al:b+n<=d.size)(ap:d.size<4611686018427387904):Calls P 268 #[.slice (some ⟨cK,off,none⟩) d.size cap,a,b,n,.func (.func g) #[] W] w λe w'=>e=.returned (.tuple #[])/\∃d',Xch d d' a b n/\Sit enc k w0 cK off d' w':=by
 have mixed:=L.mixed;have aw:=L.t3;have a3:=L.a3;have a0:=L.z3;have ay:=L.v3;have t4:=L.t4;have a4:=L.a4;have z4:=L.z4;have v4:=L.v4;have ax:=L.t49;have ag:=L.a49;have a5:=L.z49;have az:=L.v49;have ah:=L.aE;have a8:=L.zE;have u49:=run_underlying L.t49;have T:=qZ I;have l:=qZ M;have Q:=qZ H;clear I M H;go_enter hF,ntmps268;go_wp2;go_loopg[10] n (λX af wr=>∃(i:Nat) (f:Array α),af=.int .i64 i/\i<=n/\n<=X+i/\f.size=d.size/\Hid (Sit enc k w0 cK off f wr)/\Hid (Xch d f a b i));case atStart=>exact⟨0,d,mZ,oZ,oZ,rfl,T,qZ (Xch.none d a b)⟩
 case round=>
  obtain⟨i,f,rfl,an,am,ab,y,o⟩:=hrel;by_cases ao:i<n
  .have Y:(i:Int)<(n:Int):=oZ;obtain⟨p,N⟩:∃p,p=a+i:=⟨_,rfl⟩;obtain⟨q,O⟩:∃q,q=b+i:=⟨_,rfl⟩;have aq:IntKind.i64.wrap ((a:Int)+(i:Int))=(p:Int):=by rw[IntKind.wrap_i64];omega
   have ar:IntKind.i64.wrap ((b:Int)+(i:Int))=(q:Int):=by rw[IntKind.wrap_i64];omega
   have au:(p:Int)<(d.size:Int):=oZ;have av:(q:Int)<(d.size:Int):=oZ;obtain⟨A,u⟩:=nZ (f[p]!);obtain⟨F,m⟩:=nZ (f[q]!);have s:=y.on (aF.drew wr);have ad:Sem.run P (loadCellsFrom ⟨cK,off+p*k,none⟩ 0 k #[]) wr.drew=.ok (enc A).toArray wr.drew:=by rw[<-u];exact s.load l oZ
   have ae:Sem.run P (loadCellsFrom ⟨cK,off+q*k,none⟩ 0 k #[]) wr.drew=.ok (enc F).toArray wr.drew:=by rw[<-m];exact s.load l oZ
   obtain⟨s1,s2,s3⟩:=s.swap (P:=P) l Q (i:=p) (j:=q) oZ oZ;rw[u,m]at s2;rw[m]at s1;have r:=qZ s3;rw[u,m]at r;have Z:(enc A).length=k:=l _;have aa:(enc F).length=k:=l _;clear s3 s;obtain⟨ai,J⟩:∃c,c=enc A:=⟨_,rfl⟩;obtain⟨aj,K⟩:∃c,c=enc F:=⟨_,rfl⟩;rw[<-J]at s2 ad Z r;rw[<-K]at s1 s2 ae aa r;have z:=qY (Xch d (swp f p q) a b (i+1)) (by subst N O;exact o.step oZ oZ);clear J K N O u m y o;go_wp2_with fail
   go_big_region_o
   all_goals go_wp2
   go_roundg(n-(i+1));case measure=>omega
   case rel=>exact⟨i+1,swp f p q,mZ,oZ,oZ,by rw[size_swp];exact ab,r,z⟩
  .have Y:¬(i:Int)<(n:Int):=oZ;have e:i=n:=oZ;have z:=qY (Xch d f a b n) (e▸o.out);clear e o;go_wp2
   go_end0
   exact⟨rfl,f,z,y⟩
theorem aiN{k:Nat}(L:PK P k)(hF:P.funcs[241]? =some Tryz.f241)(J:P.funcs[268]? =some Tryz.f268)(enc:α->List Value)(M:∀x,(enc x).length=k)(I:∀x,∀v∈enc x,v.oneCell'=true)(g:Nat)(H:Array Value)(cK off cap a m b:Nat)(d:Array α)(w0 w:World)(an:∀args w,(callFunc 268 args).run P w=.ok (.enter 268 args) w)(z:Sit enc k w0 cK off d w)(ao:a<m)(aq:m<b)(K:b<=d.size)(ae:d.size<4611686018427387904):Calls P 241 #[.slice (some ⟨cK,off,none⟩) d.size cap,a,m,b,.func (.func g) #[] H] w λe w'=>e=.returned (.tuple #[])/\∃d',Rot d d' a m b/\Sit enc k w0 cK off d' w':=by
 have mixed:=L.mixed;have ar:=L.t3;have a3:=L.a3;have ax:=L.z3;have av:=L.v3;have t4:=L.t4;have a4:=L.a4;have z4:=L.z4;have v4:=L.v4;have au:=L.t49;have al:=L.a49;have ay:=L.z49;have aw:=L.v49;have am:=L.aE;have az:=L.zE;have u49:=run_underlying L.t49;have Q:=qZ z;have ak:=qZ L;have A:=qZ (λ(a b n:Nat) (c:Array α) (w:World) (f:c.size=d.size) (z:Sit enc k w0 cK off c w) (W:a+n<=b) (K:b+n<=d.size)=>
  f▸aoG L J enc M I g H cK off cap a b n c w0 w z W (by rw[f];exact K) (by rw[f];exact ae))
 clear z M I L J;go_enter hF,ntmps241;go_wp2_with fail;go_loopg[10,11] (b-a) (λT ai aj wr=>∃(i j:Nat) (c:Array α),ai=.int .i64 i/\aj=.int .i64 j/\0<i/\0<j/\a+i<=m/\m+j<=b/\i+j<=T/\c.size=d.size/\Hid (Sit enc k w0 cK off c wr)/\Hid (Left d c a m b i j));case atStart=>exact⟨m-a,b-m,d,by rw[Int.ofNat_sub oZ],by rw[Int.ofNat_sub oZ],oZ,oZ,oZ,oZ,oZ,rfl,Q,qZ (Left.start d oZ oZ)⟩
 case round=>
  obtain⟨i,j,c,rfl,rfl,Z,aa,X,ad,ap,N,u,s⟩:=hrel;have o:=qZ N;clear N;rcases Nat.lt_trichotomy i j with ab|e|Y
  .have af:((i:Int) !=(j:Int))=true:=by rw[bne_iff_ne];omega
   have ag:decide ((i:Int)>(j:Int))=false:=eG oZ;have ah:¬(j:Int)<(i:Int):=oZ;go_wp2_with fail;rw[show(m:Int)-(i:Int)=((m-i:Nat):Int) by omega,show(m:Int)+(j:Int)-(i:Int)=((m+j-i:Nat):Int) by omega];refine(A (m-i) (m+j-i) i c _ o u oZ oZ).mono ?_;rintro e w1⟨rfl,r,l,f⟩;have p:=qZ (s.snd oZ ab l);have y:=qZ f;have F:=qZ (l.size.trans o);clear l f u s o;go_wp2_with fail;go_roundg j;case measure=>omega
   case rel=>exact⟨i,j-i,r,rfl,by rw[Int.ofNat_sub oZ],Z,oZ,X,oZ,oZ,F,y,p⟩
  .subst e;have p:=λr (l:Xch c r (m-i) m i)=>s.done oZ l;have p:=qZ p;clear s;go_wp2_with fail;rw[show(m:Int)-(i:Int)=((m-i:Nat):Int) by omega];refine(A (m-i) m i c _ o u oZ oZ).mono ?_;rintro e w1⟨rfl,r,l,f⟩;have O:=qZ (p r l);have y:=qZ f;clear l f u p o;go_wp2_with fail
   go_end0
   exact⟨rfl,r,O,y⟩
  .have af:((i:Int) !=(j:Int))=true:=by rw[bne_iff_ne];omega
   have ag:decide ((i:Int)>(j:Int))=true:=decide_eq_true oZ;have ah:(j:Int)<(i:Int):=oZ;go_wp2_with fail;rw[show(m:Int)-(i:Int)=((m-i:Nat):Int) by omega];refine(A (m-i) m j c _ o u oZ oZ).mono ?_;rintro e w1⟨rfl,r,l,f⟩;have p:=qZ (s.fst oZ Y l);have y:=qZ f;have F:=qZ (l.size.trans o);clear l f u s o;go_wp2_with fail;go_roundg i;case measure=>omega
   case rel=>exact⟨i-j,j,r,by rw[Int.ofNat_sub oZ],rfl,oZ,aa,oZ,ad,oZ,F,y,p⟩
variable {P:Program} {α:Type} [Inhabited α]
theorem alm{k:Nat}(L:PK P k)(hF:P.funcs[203]? =some Tryz.f203)(enc:α->List Value)(an:∀x,(enc x).length=k)(ag:∀x,∀v∈enc x,v.oneCell'=true)(cf:α->α->Int)(a8:jE cf)(g:Nat)(O:Array Value)(cK off cap a m b:Nat)(d:Array α)(w0 w:World)(bv:∀args w,(callFunc g args).run P w=.ok (.enter g args) w)(al:zC P g O enc cf cK w0)(ah:Sit enc k w0 cK off d w)(T:a+1=m)(b2:m<b)(ai:b<=d.size)(b8:d.size<2305843009213693952)(af:Sd cf d m b):Calls P 203 #[.slice (some ⟨cK,off,none⟩) d.size cap,a,m,b,.func (.func g) #[] O] w λe w'=>e=.returned (.tuple #[])/\∃d',Mrg cf d d' a b/\Sit enc k w0 cK off d' w':=by
 have mixed:=L.mixed;have ce:=L.t3;have a3:=L.a3;have ck:=L.z3;have ci:=L.v3;have t4:=L.t4;have a4:=L.a4;have z4:=L.z4;have v4:=L.v4;have cg:=L.t49;have bn:=L.a49;have cl:=L.z49;have cj:=L.v49;have ch:=L.tu;have bp:=L.au;have cn:=L.zu;have bo:=L.aE;have cm:=L.zE;have u49:=run_underlying L.t49;have av:=qZ ah;have ar:=qZ al;have o:=qZ an;have aq:=qZ ag;have aa:=qZ (λ(i:Nat) (f:Array α) (ay:m<=i) (az:i<=b) (c1:i<b->0<=cf d[i]! d[a]!) (c2:m<i->cf d[i-1]! d[a]! <0) (R:Rot d f a m i)=>agO a8 T ay az af c1 c2 R);have bt:a+1<=m:=oZ;have bu:m<=a+1:=oZ;have cd:((m:Int)-(a:Int)==1)=true:=beq_iff_eq.2 oZ;have au:=qZ T;clear ah al an ag af T;go_enter hF,ntmps203;go_wp2_with fail;go_loopg[10,11] (b-m) (λaw bk bl wr=>∃(i j:Nat),bk=.int .i64 i/\bl=.int .i64 j/\m<=i/\i<=j/\j<=b/\j<=aw+i/\Hid (Sit enc k w0 cK off d wr)/\Hid ((m<i->cf d[i-1]! d[a]! <0)/\(j<b->0<=cf d[j]! d[a]!)));case atStart=>exact⟨m,b,rfl,rfl,bI _,oZ,bI _,oZ,av,qZ ⟨λh=>oZ,λh=>oZ⟩⟩
 case round=>
  obtain⟨i,j,rfl,rfl,ap,b1,am,bz,r,n⟩:=hrel;by_cases ao:i<j
  .have ba:(i:Int)<(j:Int):=oZ;obtain⟨h,a9⟩:∃h,h=(i+j)/2:=⟨_,rfl⟩;have bw:((i:Int)+(j:Int))/2=(h:Int):=oZ;have b6:i<=h:=oZ;have b7:h<j:=oZ;clear a9;have cc:(h:Int)<(d.size:Int):=oZ;have bq:(a:Int)<(d.size:Int):=oZ;obtain⟨A,u⟩:=nZ (d[h]!);obtain⟨z,s⟩:=nZ (d[a]!);have bg:∀W,aF wr W->Sem.run P (loadCellsFrom ⟨cK,off+h*k,none⟩ 0 k #[]) W=.ok (enc A).toArray W:=λW l=>by rw[<-u];exact(r.on l).load o oZ
   have bh:∀W,aF wr W->Sem.run P (loadCellsFrom ⟨cK,off+a*k,none⟩ 0 k #[]) W=.ok (enc z).toArray W:=λW l=>by rw[<-s];exact(r.on l).load o oZ
   have Q:∀W,aF wr W->Calls P g (#[.agg (enc A).toArray,.agg (enc z).toArray]++O) W λe w'=>e=.returned (.int .i64 (cf A z))/\aF wr w':=λW l=>
    (ar W (r.on l).bD A z).mono λe w' ⟨a5,ai⟩=>⟨a5,aA l ai⟩
   go_wp2_with fail;refine qB L.mixed kZ ?_;(repeat refine kY ?_);refine kM ?_ (h:=by intro W l;go_simp;first|exact Q W l|exact⟨l,Q W l⟩);(repeat refine kY ?_);refine eH ?_;intro W l;clear bg bh Q;have ae:=qZ (r.on l);clear l;by_cases bc:cf A z<0
   .have K:=qY ((m<h+1->cf d[h+1-1]! d[a]! <0)/\(j<b->0<=cf d[j]! d[a]!)) (⟨λ_=>by rw[iE,u,s];exact bc,n.2⟩);clear n u s;go_wp2_with fail;go_roundg(j-(h+1));case measure=>omega
    case rel=>exact⟨h+1,j,mZ,rfl,oZ,oZ,am,oZ,ae,K⟩
   .have K:=qY ((m<i->cf d[i-1]! d[a]! <0)/\(h<b->0<=cf d[h]! d[a]!)) (⟨n.1,λ_=>by rw[u,s];omega⟩);clear n u s;go_wp2_with fail;go_roundg(h-i);case measure=>omega
    case rel=>exact⟨i,h,rfl,rfl,ap,oZ,oZ,oZ,ae,K⟩
  .obtain rfl:i=j:=by omega
   have ba:¬(i:Int)<(i:Int):=oZ;have ab:=qZ (λ(f:Array α) (R:Rot d f a m i)=>aa i f ap am n.2 n.1 R);clear aa n ao;go_wp2_with fail;go_loopg[13] (i-a) (λax bm wr=>∃(q:Nat) (f:Array α),bm=.int .i64 q/\a<=q/\q+1<=i/\i<=ax+q/\f.size=d.size/\Hid (Sit enc k w0 cK off f wr)/\Hid (Rot d f a (a+1) (q+1)));case atStart=>exact⟨a,d,rfl,bI _,oZ,oZ,rfl,r,qZ (Rot.self d (.inr lZ) oZ oZ)⟩
   case round=>
    obtain⟨q,f,rfl,a0,b5,b0,bf,M,F⟩:=hrel;by_cases ao:q+1<i
    .have bb:(q:Int)<(i:Int)-1:=oZ;obtain⟨p,X⟩:∃p,p=q+1:=⟨_,rfl⟩;have b9:IntKind.i64.wrap ((q:Int)+1)=(p:Int):=by rw[IntKind.wrap_i64];omega
     have ca:(p:Int)<(d.size:Int):=oZ;have cb:(q:Int)<(d.size:Int):=oZ;obtain⟨Y,y⟩:=nZ (f[p]!);obtain⟨Z,J⟩:=nZ (f[q]!);have I:=M.on (aF.drew wr);have bi:Sem.run P (loadCellsFrom ⟨cK,off+p*k,none⟩ 0 k #[]) wr.drew=.ok (enc Y).toArray wr.drew:=by rw[<-y];exact I.load o oZ
     have bj:Sem.run P (loadCellsFrom ⟨cK,off+q*k,none⟩ 0 k #[]) wr.drew=.ok (enc Z).toArray wr.drew:=by rw[<-J];exact I.load o oZ
     obtain⟨s1,s2,s3⟩:=I.swap (P:=P) o aq (i:=q) (j:=p) oZ oZ;rw[y,J]at s2;rw[y]at s1;have H:=qZ s3;rw[y,J]at H;have bd:(enc Y).length=k:=o _;have be:(enc Z).length=k:=o _;clear s3 I;obtain⟨br,aj⟩:∃c,c=enc Y:=⟨_,rfl⟩;obtain⟨bs,ak⟩:∃c,c=enc Z:=⟨_,rfl⟩;rw[<-aj]at s1 s2 bi bd H;rw[<-ak]at s2 bj be H;have N:=qY (Rot d (swp f q p) a (a+1) (p+1)) (by subst X;exact F.up oZ a0);have ad:=qZ X;have b3:p<=q+1:=oZ;have b4:q+1<=p:=oZ;clear aj ak X y J M F;go_wp2_with fail
     go_big_region_o
     all_goals go_wp2
     go_roundg(i-p);case measure=>omega
     case rel=>exact⟨p,swp f q p,by first|rfl|(rw[ad.out];done)|(rw[ad.out];go_num),oZ,oZ,oZ,by rw[size_swp];exact bf,H,N⟩
    .have bb:¬(q:Int)<(i:Int)-1:=oZ;have N:=qZ (ab f (by have h:=F.out;rw[au.out,show q+1=i by omega]at h;exact h));clear F ab;go_wp2_with fail
     (try simp only[Exit.inBlock,Exit.then])
     refine bodyPost_ret (results_none rfl _ _ _) rfl ?_;exact⟨rfl,f,N,M⟩
theorem aoF{k:Nat}(L:PK P k)(hF:P.funcs[203]? =some Tryz.f203)(enc:α->List Value)(an:∀x,(enc x).length=k)(ah:∀x,∀v∈enc x,v.oneCell'=true)(cf:α->α->Int)(a5:jE cf)(g:Nat)(Q:Array Value)(cK off cap a m b:Nat)(d:Array α)(w0 w:World)(bu:∀args w,(callFunc g args).run P w=.ok (.enter g args) w)(am:zC P g Q enc cf cK w0)(ai:Sit enc k w0 cK off d w)(bv:a+1<m)(Z:m+1=b)(aj:b<=d.size)(b8:d.size<2305843009213693952)(ag:Sd cf d a m):Calls P 203 #[.slice (some ⟨cK,off,none⟩) d.size cap,a,m,b,.func (.func g) #[] Q] w λe w'=>e=.returned (.tuple #[])/\∃d',Mrg cf d d' a b/\Sit enc k w0 cK off d' w':=by
 have mixed:=L.mixed;have cg:=L.t3;have a3:=L.a3;have cl:=L.z3;have cj:=L.v3;have t4:=L.t4;have a4:=L.a4;have z4:=L.z4;have v4:=L.v4;have ch:=L.t49;have bm:=L.a49;have cm:=L.z49;have ck:=L.v49;have ci:=L.tu;have bo:=L.au;have co:=L.zu;have bn:=L.aE;have cn:=L.zE;have u49:=run_underlying L.t49;have av:=qZ ai;have ar:=qZ am;have o:=qZ an;have aq:=qZ ah;have ad:=qZ (λ(i:Nat) (f:Array α) (ay:a<=i) (az:i<=m) (c1:a<i->0<=cf d[m]! d[i-1]!) (c2:i<m->cf d[m]! d[i]! <0) (R:Rot d f i m b)=>ajt a5 Z ay az ag c1 c2 R);have bs:m+1<=b:=oZ;have bt:b<=m+1:=oZ;have cd:((m:Int)-(a:Int)==1)=false:=beq_eq_false_iff_ne.2 oZ;have ce:((b:Int)-(m:Int)==1)=true:=beq_iff_eq.2 oZ;have au:=qZ Z;clear ai am an ah ag Z;go_enter hF,ntmps203;go_wp2_with fail;go_loopg[14,15] (m-a) (λaw bj bk wr=>∃(i j:Nat),bj=.int .i64 i/\bk=.int .i64 j/\a<=i/\i<=j/\j<=m/\j<=aw+i/\Hid (Sit enc k w0 cK off d wr)/\Hid ((a<i->0<=cf d[m]! d[i-1]!)/\(j<m->cf d[m]! d[j]! <0)));case atStart=>exact⟨a,m,rfl,rfl,bI _,oZ,bI _,oZ,av,qZ ⟨λh=>oZ,λh=>oZ⟩⟩
 case round=>
  obtain⟨i,j,rfl,rfl,ap,b2,X,b0,u,n⟩:=hrel;by_cases ao:i<j
  .have a9:(i:Int)<(j:Int):=oZ;obtain⟨h,a8⟩:∃h,h=(i+j)/2:=⟨_,rfl⟩;have bz:((i:Int)+(j:Int))/2=(h:Int):=oZ;have b6:i<=h:=oZ;have b7:h<j:=oZ;clear a8;have cc:(h:Int)<(d.size:Int):=oZ;have bp:(m:Int)<(d.size:Int):=oZ;obtain⟨s,z⟩:=nZ (d[h]!);obtain⟨r,y⟩:=nZ (d[m]!);have bf:∀W,aF wr W->Sem.run P (loadCellsFrom ⟨cK,off+h*k,none⟩ 0 k #[]) W=.ok (enc s).toArray W:=λW l=>by rw[<-z];exact(u.on l).load o oZ
   have bg:∀W,aF wr W->Sem.run P (loadCellsFrom ⟨cK,off+m*k,none⟩ 0 k #[]) W=.ok (enc r).toArray W:=λW l=>by rw[<-y];exact(u.on l).load o oZ
   have T:∀W,aF wr W->Calls P g (#[.agg (enc r).toArray,.agg (enc s).toArray]++Q) W λe w'=>e=.returned (.int .i64 (cf r s))/\aF wr w':=λW l=>
    (ar W (u.on l).bD r s).mono λe w' ⟨a0,aj⟩=>⟨a0,aA l aj⟩
   go_wp2_with fail;refine qB L.mixed kZ ?_;(repeat refine kY ?_);refine kM ?_ (h:=by intro W l;go_simp;first|exact T W l|exact⟨l,T W l⟩);(repeat refine kY ?_);refine eH ?_;intro W l;clear bf bg T;have af:=qZ (u.on l);clear l;by_cases Y:cf r s<0
   .rw[show(!decide (cf r s<0))=false by rw[decide_eq_true Y];rfl];have K:=qY ((a<i->0<=cf d[m]! d[i-1]!)/\(h<m->cf d[m]! d[h]! <0)) (⟨n.1,λ_=>by rw[z,y];exact Y⟩);clear n z y;go_wp2_with fail;go_roundg(h-i);case measure=>omega
    case rel=>exact⟨i,h,rfl,rfl,ap,oZ,oZ,oZ,af,K⟩
   .rw[show(!decide (cf r s<0))=true by rw[eG Y];rfl];have K:=qY ((a<h+1->0<=cf d[m]! d[h+1-1]!)/\(j<m->cf d[m]! d[j]! <0)) (⟨λ_=>by rw[iE,z,y];omega,n.2⟩);clear n z y;go_wp2_with fail;go_roundg(j-(h+1));case measure=>omega
    case rel=>exact⟨h+1,j,mZ,rfl,oZ,oZ,X,oZ,af,K⟩
  .obtain rfl:i=j:=by omega
   have a9:¬(i:Int)<(i:Int):=oZ;have ae:=qZ (λ(f:Array α) (R:Rot d f i m b)=>ad i f ap X n.1 n.2 R);clear ad n ao;go_wp2_with fail;go_loopg[17] (m-i) (λax bl wr=>∃(q:Nat) (f:Array α),bl=.int .i64 q/\i<=q/\q<=m/\q<=ax+i/\f.size=d.size/\Hid (Sit enc k w0 cK off f wr)/\Hid (Rot d f q m (m+1)));case atStart=>exact⟨m,d,rfl,X,bI _,oZ,rfl,u,qZ (Rot.self d (.inl lZ) oZ oZ)⟩
   case round=>
    obtain⟨q,f,rfl,bw,b5,b1,be,N,F⟩:=hrel;by_cases ao:i<q
    .have ba:(i:Int)<(q:Int):=oZ;obtain⟨p,bb⟩:∃p,p=q-1:=⟨_,rfl⟩;have b9:IntKind.i64.wrap ((q:Int)-1)=(p:Int):=by rw[IntKind.wrap_i64];omega
     have ca:(p:Int)<(d.size:Int):=oZ;have cb:(q:Int)<(d.size:Int):=oZ;obtain⟨aa,A⟩:=nZ (f[p]!);obtain⟨ab,J⟩:=nZ (f[q]!);have I:=N.on (aF.drew wr);have bh:Sem.run P (loadCellsFrom ⟨cK,off+p*k,none⟩ 0 k #[]) wr.drew=.ok (enc aa).toArray wr.drew:=by rw[<-A];exact I.load o oZ
     have bi:Sem.run P (loadCellsFrom ⟨cK,off+q*k,none⟩ 0 k #[]) wr.drew=.ok (enc ab).toArray wr.drew:=by rw[<-J];exact I.load o oZ
     obtain⟨s1,s2,s3⟩:=I.swap (P:=P) o aq (i:=q) (j:=p) oZ oZ;rw[A,J]at s2;rw[A]at s1;have H:=qZ s3;rw[A,J]at H;have bc:(enc aa).length=k:=o _;have bd:(enc ab).length=k:=o _;clear s3 I;obtain⟨bq,ak⟩:∃c,c=enc aa:=⟨_,rfl⟩;obtain⟨br,al⟩:∃c,c=enc ab:=⟨_,rfl⟩;rw[<-ak]at s1 s2 bh bc H;rw[<-al]at s2 bi bd H;have M:=qY (q=p+1) (by omega);have O:=qY (Rot d (swp f q p) p m (m+1)) (by have h:=F.out;rw[M.out]at h⊢;exact h.down oZ oZ);have b3:p+1<=q:=oZ;have b4:q<=p+1:=oZ;clear ak al bb A J N F;go_wp2_with fail
     go_big_region_o
     all_goals go_wp2
     go_roundg(p-i);case measure=>omega
     case rel=>exact⟨p,swp f q p,by first|rfl|(rw[M.out];done)|(rw[M.out];go_num),oZ,oZ,oZ,by rw[size_swp];exact be,H,O⟩
    .have ba:¬(i:Int)<(q:Int):=oZ;have O:=qZ (ae f (by have h:=F.out;rw[au.out,show q=i by omega]at h;exact h));clear F ae;go_wp2_with fail
     (try simp only[Exit.inBlock,Exit.then])
     refine bodyPost_ret (results_none rfl _ _ _) rfl ?_;exact⟨rfl,f,O,N⟩
end Srt
namespace bU
open Go Go.RowKit Go.Sort L bM Srt
theorem vH(cs:Array Value)(o:Nat)(vs:List Value)(h:o+vs.length<=cs.size):(setMany cs o vs).toList=cs.toList.take o++(vs++cs.toList.drop (o+vs.length)):=by
 apply gL;intro j;by_cases a:j<cs.size
 .have g:=get_setMany vs o cs j a;have e1:(setMany cs o vs).toList[j]? =some (setMany cs o vs)[j]! :=by rw[dP,dH (by simpa using a),dF _ j (by simpa using a)]
  rw[e1,g];have c:(cs.toList.take o).length=o:=by simp;omega
  by_cases b:j<o
  .rw[aD oZ,dG oZ,eB,aG b,dP,dH a,dF cs j a]
  .rw[dI oZ,c];by_cases d:j<o+vs.length
   .rw[aG oZ,dG oZ,aH oZ,dF vs (j-o) oZ]
   .rw[aD oZ,dI oZ,lH,show o+vs.length+(j-o-vs.length)=j by omega,dP,dH a,dF cs j a]
 .rw[dY (by simp;omega),dY (by simp;omega)]
theorem wF{E:TypeId}{g:Nat}:∀(vs:List Value) (o:Nat) (W:World) (cs:Array Value),Blk W g E cs->Blk (W.setCells g o vs) g E (setMany cs o vs)
 |[],_,_,_,h=>h
 |v::vs,o,W,cs,h=>wF vs (o+1) _ _ (Blk.bV h o v)
theorem uO(g:Nat):∀(vs:List Value) (o:Nat) (W:World),aO (λi=>i=g) W (W.setCells g o vs)
 |[],_,W=>aO.refl _ _
 |v::vs,o,W=>((aO.refl (λi=>i=g) W).setCell (p:=⟨g,o,none⟩) (.inl rfl) v).trans (uO g vs (o+1) _)
section
variable {P:Program} {α:Type} {dec:α->List Value} {k:Nat} {E t:TypeId} {i0:TypeInfo}
theorem aag(H:P.underlying t=some (.slice E))(hi:P.info? E=some i0)(n:i0.size=k)(K:0<k)(m:∀x,(dec x).length=k)(ty:TypeId){w:World}{g cap i:Nat}{cs:Array Value}{xs:List α}(s:∀x∈xs,∀u∈dec x,u.oneCell'=true)(l:Blk w g E cs)(F:cs.size=cap*k)(r:cs.toList.take (xs.length*k)=xs.flatMap dec)(M:xs.length<=cap)(J:i<xs.length)(a:Addr)(c:Nat)(y:i+1<xs.length->a=⟨g,(i+1)*k,none⟩):(Builtin.append_ #[t,t] ty #[.slice g i cap,.slice (some a) (xs.length-(i+1)) c]).run P w=.ok (.slice g (xs.length-1) cap) (w.setCells g (i*k) ((xs.drop (i+1)).flatMap dec))/\(setMany cs (i*k) ((xs.drop (i+1)).flatMap dec)).toList.take ((xs.length-1)*k)=(xs.eraseIdx i).flatMap dec:=by
 have b:((xs.drop (i+1)).flatMap dec).length=(xs.length-(i+1))*k:=by rw[jG m,fV]
 have N:i*k+(xs.length-(i+1))*k=(xs.length-1)*k:=by rw[<-gJ];congr 1;omega
 have L:(xs.length-1)*k<=cs.size:=by rw[F];exact bR k oZ
 refine⟨?_,?_⟩
 .have p:=run_append_room_cells (P:=P) (w:=w) t ty E i0 H hi g 0 i cap a (xs.length-(i+1)) c ((xs.drop (i+1)).flatMap dec) (by rw[n];exact b) (λj u f=>by
   have d:j<(xs.length-(i+1))*k:=by rw[<-b];exact(bE.1 f).1
   have z:i+1<xs.length:=by
    rcases fP (i+1) xs.length with h|h
    .exact h
    .rw[show xs.length-(i+1)=0 by omega,lX]at d;omega
   rw[y z,Addr.add_lit,l.cell,<-dP];have e:(xs.flatMap dec)[(i+1)*k+j]? =some u:=by
    have e2:xs.flatMap dec=(xs.take (i+1)).flatMap dec++(xs.drop (i+1)).flatMap dec:=by rw[<-kS,gU]
    have e3:((xs.take (i+1)).flatMap dec).length=(i+1)*k:=by rw[jG m,bO,iM oZ]
    rw[e2,dI (by rw[e3];omega),e3,Nat.add_sub_cancel_left];exact f
   rw[<-r,eB]at e;split at e
   .exact e
   .cases e) (λu f=>by
   obtain⟨x,A,I⟩:=jV.1 f;exact s x (List.mem_of_mem_drop A) u I) oZ (λj d=>by
   rw[n,aU,l.cell,dH (by rw[b]at d;omega)];rfl) (λj d=>l.frozen _)
  rw[n,aU,show i+(xs.length-(i+1))=xs.length-1 by omega]at p;exact p
 .have e3:cs.toList.take (i*k)=(xs.take i).flatMap dec:=by
   have v:i*k<=xs.length*k:=bR k oZ;have e4:xs.flatMap dec=(xs.take i).flatMap dec++(xs.drop i).flatMap dec:=by rw[<-kS,gU]
   have o:((xs.take i).flatMap dec).length=i*k:=by rw[jG m,bO,iM oZ]
   have:(cs.toList.take (xs.length*k)).take (i*k)=(xs.flatMap dec).take (i*k):=by rw[r]
   rw[List.take_take,iM v,e4,<-o,List.take_left]at this;rw[<-o];exact this
  rw[vH _ _ _ (by rw[b];omega),<-bP,jD (by simp[b];omega),aT (by simp[b];omega),e3,List.eraseIdx_eq_take_drop_succ,kS]
theorem abN(f:P.underlying t=some (.slice E))(hi:P.info? E=some i0)(i:i0.size=k){g n m cap:Nat}(b:m<=n)(e:n<=cap):∃a c,(∀W,(Instr.slice t (.slice g n cap) (some (.int .i64 m)) none none).run P W=.ok (.slice (some a) (n-m) c) W)/\(m<n->a=⟨g,m*k,none⟩):=by
 by_cases d:m=cap
 .obtain rfl:m=cap:=d;obtain rfl:n=m:=by omega
  refine⟨⟨g,0,none⟩,n-n,λW=>?_,λh=>oZ⟩;simp[Instr.slice,run_underlying f,Instr.sliceBounds,Instr.sliceBound,asIntOf,sizeOf,typeInfo,hi]
 .refine⟨⟨g,m*k,none⟩,cap-m,λW=>?_,λh=>rfl⟩;simp[Instr.slice,run_underlying f,Instr.sliceBounds,Instr.sliceBound,asIntOf,sizeOf,typeInfo,hi,b,e,aV b e,i,Addr.add_lit,Ne.symm d]
theorem wP(e:P.underlying t=some (.slice E))(hi:P.info? E=some i0)(d:i0.size=k){g n m h cap:Nat}(b:m<=h)(a:h<=cap)(c:m<cap)(W:World):(Instr.slice t (.slice g n cap) (some (.int .i64 m)) (some (.int .i64 h)) none).run P W=.ok (.slice (some ⟨g,m*k,none⟩) (h-m) (cap-m)) W:=by simp[Instr.slice,run_underlying e,Instr.sliceBounds,Instr.sliceBound,asIntOf,sizeOf,typeInfo,hi,b,a,aV b a,d,Addr.add_lit,Nat.ne_of_gt c]
theorem abM(c:P.underlying t=some (.slice E))(hi:P.info? E=some i0)(f:i0.size=k){g n m h cap:Nat}(e:m<=h)(d:h<=n)(b:n<=cap):∃v,∀W,(Instr.slice t (.slice g n cap) (some (.int .i64 m)) (some (.int .i64 h)) (some (.int .i64 n))).run P W=.ok v W:=by
 by_cases a:m=n
 .obtain rfl:m=n:=a;obtain rfl:h=m:=by omega
  refine⟨.slice g (h-h) (h-h),λW=>?_⟩;simp[Instr.slice,run_underlying c,Instr.sliceBounds,Instr.sliceBound,asIntOf,sizeOf,typeInfo,hi,b]
 .refine⟨.slice (some ⟨g,m*k,none⟩) (h-m) (n-m),λW=>?_⟩;simp[Instr.slice,run_underlying c,Instr.sliceBounds,Instr.sliceBound,asIntOf,sizeOf,typeInfo,hi,e,d,b,f,Addr.add_lit,Ne.symm a]
theorem oO{g:Array Oper}{rest:List Oper}{o:Oper}{a:Act}{w:World}{Q:Exit->Act->World->Prop}(j:o.guard=none)(s:Operand)(lo hi f:Option Operand)(t e:TypeId)(u:P.underlying t=some (.slice e))(m:o.op=.slice t s lo hi f)(vs:Value)(c b d:Option Value){v':Value}(r:a.eval s=vs)(l:lo.map a.eval=c)(k:hi.map a.eval=b)(v:f.map a.eval=d)(p:(Instr.slice t vs c b d).run P w=.ok v' w)(h:wpList P g Q rest (a.put o.dst v') w):wpList P g Q (o::rest) a w:=
 wpList_plain j λ_ i=>by
  have n:(Instr.sliceAt t vs c b d).run P w=.ok v' w:=by simp[Instr.sliceAt,run_underlying u,p]
  unfold Oper.wp execOp;simp only[m,Sem.run_bind,Sem.run_pure,Result.andThen_ok,r,l,k,v,n];exact i _ _ h
theorem acK(l:P.underlying t=some (.slice E)){z:Value}(m:∀w,(zeroValue E).run P w=.ok z w)(p:(Builtin.zeroCells z.cells 1).toList.length=k)(f:∀u∈(Builtin.zeroCells z.cells 1).toList,u.oneCell'=true){w:World}{g o c:Nat}{cs:Array Value}(d:Blk w g E cs)(r:o+k<=cs.size):(∀ty,(Builtin.clear_ #[t] ty #[.slice (some ⟨g,o,none⟩) 1 c]).run P w=.ok (.tuple #[]) (w.setCells g o (Builtin.zeroCells z.cells 1).toList))/\(setMany cs o (Builtin.zeroCells z.cells 1).toList).toList.take o=cs.toList.take o:=by
 have i:Holds id w g 0 cs:=λj e=>⟨by rw[aU,d.cell,dF cs j e,dH e];rfl,by rw[aU];exact d.frozen j⟩;have a:=stores_of_holds P i o (Builtin.zeroCells z.cells 1).toList oZ f;rw[aU]at a;refine⟨λty=>?_,?_⟩
 .obtain⟨n,b⟩:=nZ (Builtin.zeroCells z.cells 1);rw[b]at a⊢;simp[Builtin.clear_,run_underlying l,m,b,a]
 .rw[vH _ _ _ oZ,jD (by simp;omega),List.take_take,Nat.min_self]
end
open Go Go.RowKit Go.Sort L bM Srt
section
variable {P:Program} {α:Type} {dec:α->List Value} {k:Nat} {E t:TypeId} {i0:TypeInfo}
theorem JI(F:P.underlying t=some (.slice E))(hi:P.info? E=some i0)(A:i0.size=k){w:World}{g o n p m i:Nat}{a:Addr}{l:TypeId}{cs:Array Value}(c:Blk w g l cs)(vs:List Value)(v:vs.length=Nat.min m n*k)(z:∀j u,vs[j]? =some u->w.cell? (a.add j)=some u)(y:o+vs.length<=cs.size)(r:∀u∈vs,u.oneCell'=true)(ty:TypeId):(Builtin.copy_ #[t,t] ty #[.slice (some ⟨g,o,none⟩) n p,.slice (some a) m i]).run P w=.ok (goInt (Nat.min m n)) (w.setCells g o vs):=by have s:Holds id w g 0 cs:=λj e=>⟨by rw[aU,c.cell,dF cs j e,dH e];rfl,by rw[aU];exact c.frozen j⟩;have f:=stores_of_holds P s o vs y r;rw[aU]at f;have d:=run_firstCells_some (P:=P) (w:=w) k (Nat.min m n) a m i vs v z;obtain⟨q,b⟩:=nZ (Nat.min m n);have x:min m n=q:=b;rw[b]at d⊢;simp[Builtin.copy_,run_underlying F,Builtin.lenOf,sizeOf,typeInfo,hi,A,b,x,d,f]
theorem acC(c:∀x,(dec x).length=k)(xs:List α){cs:List Value}{i:Nat}(hi:i<=xs.length)(h:cs.take (xs.length*k)=xs.flatMap dec):cs.take (i*k)=(xs.take i).flatMap dec/\(∀j u,((xs.drop i).flatMap dec)[j]? =some u->cs[i*k+j]? =some u):=by
 have b:i*k<=xs.length*k:=bR k hi;have e4:xs.flatMap dec=(xs.take i).flatMap dec++(xs.drop i).flatMap dec:=by rw[<-kS,gU]
 have a:((xs.take i).flatMap dec).length=i*k:=by rw[jG c,bO,iM hi]
 refine⟨?_,λj u d=>?_⟩
 .have:(cs.take (xs.length*k)).take (i*k)=(xs.flatMap dec).take (i*k):=by rw[h]
  rw[List.take_take,iM b,e4,<-a,List.take_left]at this;rw[<-a];exact this
 .have e:(xs.flatMap dec)[i*k+j]? =some u:=by rw[e4,dI (by rw[a];omega),a,Nat.add_sub_cancel_left];exact d
  rw[<-h,eB]at e;split at e
  .exact e
  .cases e
theorem afd(c:∀x,(dec x).length=k)(xs:List α)(p:α){cs:Array Value}{i:Nat}(hi:i<=xs.length)(v:(xs.length+1)*k<=cs.size)(h:cs.toList.take (i*k)=(xs.take i).flatMap dec):(setMany (setMany cs ((i+1)*k) ((xs.drop i).flatMap dec)) (i*k) (dec p)).toList.take ((xs.length+1)*k)=(xs.take i++p::xs.drop i).flatMap dec/\(setMany (setMany cs (i*k) (dec p)) ((i+1)*k) ((xs.drop i).flatMap dec)).toList.take ((xs.length+1)*k)=(xs.take i++p::xs.drop i).flatMap dec:=by
 have e:((xs.drop i).flatMap dec).length=(xs.length-i)*k:=by rw[jG c,fV]
 have g:(dec p).length=k:=c p;have e1:(i+1)*k=i*k+k:=Nat.succ_mul i k;have e2:(i+1)*k+(xs.length-i)*k=(xs.length+1)*k:=by rw[<-gJ];congr 1;omega
 have e3:i*k<=cs.size:=oZ;obtain⟨D,f⟩:=nZ ((xs.drop i).flatMap dec);obtain⟨T,b⟩:=nZ ((xs.take i).flatMap dec);have l:T.length=i*k:=by rw[<-b,jG c,bO,iM hi]
 have j:(xs.take i++p::xs.drop i).flatMap dec=T++(dec p++D):=by rw[kS,dL,f,b]
 rw[f]at e⊢;rw[b]at h;rw[j];obtain⟨q,u⟩:=nZ ((xs.length+1)*k);obtain⟨o,r⟩:=nZ (i*k);obtain⟨a,s⟩:=nZ ((i+1)*k);obtain⟨w,m⟩:=nZ ((xs.length-i)*k);rw[u]at v e2⊢;rw[r]at h e1 e3 l⊢;rw[s]at e1 e2⊢;rw[m]at e e2;have n:(T++(dec p++D)).length=q:=by simp;omega
 have d:∀R:List Value,(T++(dec p++D)++R).take q=T++(dec p++D):=λR=>by rw[<-n,List.take_left]
 refine⟨?_,?_⟩
 .rw[vH _ _ _ (by simp;omega),vH _ _ _ oZ,g];have a1:(cs.toList.take a++(D++cs.toList.drop (a+D.length))).take o=T:=by rw[jD (by simp;omega),List.take_take,iM oZ,h]
  have a2:(cs.toList.take a++(D++cs.toList.drop (a+D.length))).drop (o+k)=D++cs.toList.drop (a+D.length):=by
   have:(cs.toList.take a).length=o+k:=by simp;omega
   rw[<-this,List.drop_left]
  rw[a1,a2,<-bP (dec p),<-bP T];exact d _
 .rw[vH _ _ _ (by simp;omega),vH _ _ _ oZ,g];have a1:(cs.toList.take o++(dec p++cs.toList.drop (o+k))).take a=T++dec p:=by
   have:(cs.toList.take o++dec p).length=a:=by simp;omega
   rw[<-bP,<-this,List.take_left,h]
  rw[a1,<-bP,bP T];exact d _
theorem zO(e:P.underlying t=some (.slice E))(hi:P.info? E=some i0)(d:i0.size=k){g n m cap:Nat}(a:m<=n)(b:n<=cap)(c:m<cap)(W:World):(Instr.slice t (.slice g n cap) (some (.int .i64 m)) none none).run P W=.ok (.slice (some ⟨g,m*k,none⟩) (n-m) (cap-m)) W:=by simp[Instr.slice,run_underlying e,Instr.sliceBounds,Instr.sliceBound,asIntOf,sizeOf,typeInfo,hi,a,b,aV a b,d,Addr.add_lit,Nat.ne_of_gt c]
theorem arI(c:P.underlying t=some (.slice E))(hi:P.info? E=some i0){g n m cap:Nat}(b:m<=cap)(W:World):(Instr.slice t (.slice g n cap) none (some (.int .i64 m)) none).run P W=.ok (.slice g m cap) W:=by
 have a:Addr.add ⟨g,0,none⟩ 0=⟨g,0,none⟩:=by rw[Addr.add_lit]
 simp[Instr.slice,run_underlying c,Instr.sliceBounds,Instr.sliceBound,asIntOf,sizeOf,typeInfo,hi,b,a]
theorem acN{w:World}{g:Nat}{cs:Array Value}(h:Blk w g E cs):w.shape? g=some (E,cs.size):=by unfold World.shape?;rw[h]
theorem xS{b:Array Oper}{rest:List Oper}{o:Oper}{a:Act}{w w':World}{Q:Exit->Act->World->Prop}(e:o.guard=none)(s x:Operand)(t c:TypeId)(f:o.op=.call {callee:=.builtin .copy,args:=#[s,x],argTypes:=#[t,c]})(vs vx:Value){v':Value}(i:a.eval s=vs)(j:a.eval x=vx)(g:(Builtin.copy_ #[t,c] o.type #[vs,vx]).run P w=.ok v' w')(h:wpList P b Q rest (a.put o.dst v') w'):wpList P b Q (o::rest) a w:=
 wpList_plain e λ_ d=>by unfold Oper.wp execOp;simp only[f,resolve,invoke,builtin,Sem.run_bind,Sem.run_pure,Result.andThen_ok,jW,cZ,gM,i,j,g];exact d _ _ h
def xR{α:Type}(E:TypeId)(k:Nat)(dec:α->List Value)(v:Value)(xs:List α)(B:Nat)(w:World)(e:Ending)(w':World):Prop:=∃v',e=.returned v'/\bQ w' B E k dec v' xs/\aO (λi=>v.ownBlock=some i) w w'/\∀b,v'.ownBlock=some b->v.ownBlock=some b\/(w:Nat)<=b
end
end bU
end Go.Proofs.YtedmeglbjmdlhaaGreatDoor
