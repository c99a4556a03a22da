/-
Parts that the laws of the whole program share: contracts of its functions, and plain laws.
-/
import Derived.Test.YtedmeglbjmdlhaaGreatDoorG26
import Derived.Test.YtedmeglbjmdlhaaGreatDoorG24
set_option maxRecDepth 100000
set_option maxHeartbeats 16000000
set_option linter.all false
open Go.Proofs.Tryz
namespace Go.Proofs.YtedmeglbjmdlhaaGreatDoor
open Go
open L Top bM bU sK
variable{v:Value}{w:World}
namespace bU
open Go Go.RowKit L bM eZ Srt
theorem anR(cs:Array Value)(w:World)(h:cs.size=14):(Instr.buildSlice 28 1 #[(0,.agg cs)]).run prog w=.ok (.slice w 1 1) (w.alloc (.cells cs 86)):=by
 obtain⟨l⟩:=cs;obtain⟨a0,a1,a2,a3,a4,e,a6,a7,f,g,a,b,c,d,rfl⟩:∃a0 a1 a2 a3 a4 e a6 a7 f g a b c d,l=[a0,a1,a2,a3,a4,e,a6,a7,f,g,a,b,c,d]:=by
  simp only[gB]at h
  match l,h with
  |[a0,a1,a2,a3,a4,e,a6,a7,f,g,a,b,c,d],_=>exact⟨_,_,_,_,_,_,_,_,_,_,_,_,_,_,rfl⟩
 simp[Instr.buildSlice,go_sem]
theorem ph:PH prog 14 where
 mixed:=by kernel_rfl
 t3:=underlying3
 a3:=Tryz.isAgg3
 z3:=Tryz.sizeOf3
 v3:=Tryz.zeroValue3
 t4:=underlying4
 a4:=Tryz.isAgg4
 z4:=Tryz.sizeOf4
 v4:=Tryz.zeroValue4
 ts:=underlying28
 aS:=Tryz.isAgg28
 zs:=Tryz.sizeOf28
 vs:=Tryz.zeroValue28
 tf:=⟨_,_,_,underlying263⟩
 af:=Tryz.isAgg263
 zf:=Tryz.sizeOf263
 th:=underlying265
 aE:=Tryz.isAgg86
 zE:=Tryz.sizeOf86
 bs:=anR
 pos:=by decide
 info:=by obtain⟨i0,hi,a,b,c⟩:=info_parts YQ;exact⟨i0,_,hi,a,b,c,rfl⟩
abbrev xQ:Type:={x:Run//x.hv.oneCell'=true}
instance:Inhabited xQ:=⟨⟨⟨0,0,0,⟨0,0,0⟩,0,0,0,0,0,0,0,[],.slice none 0 0⟩,rfl⟩⟩
def encR(x:xQ):List Value:=mR x.1
theorem WJ(x:xQ):(encR x).length=14:=rfl
theorem afx(x:xQ):∀v∈encR x,v.oneCell'=true:=by intro v hv;simp only[encR,mR,bA,dS,or_false]at hv;rcases hv with rfl|rfl|rfl|rfl|rfl|rfl|rfl|rfl|rfl|rfl|rfl|rfl|rfl|rfl<;>first|rfl|exact x.2
def fR(x:xQ):Top.R:=eY x.1
theorem MW:fR default=default:=rfl
def nW(a b:xQ):Bool:=nO (fR a) (fR b)
theorem alO{B a:Nat}{xs:List xQ}(x:xQ)(g:Blk w a 265 #[v,.func (.func 204) #[] #[]])(f:bQ w B 86 14 encR v xs)(d:v.ownBlock≠some a)(b:B<=(w:Nat))(c:xs.length<=100000):Calls prog 205 #[.pointer a,.agg (encR x).toArray] w λe w'=>aat encR 14 B a (.func (.func 204) #[] #[]) v (oD nW xs.toArray x).toList w e w':=
 apf ph func205 WJ afx nW 204 (λ_ _=>kZ) (λW x y=>aco x.1 y.1 x.2 y.2 W) x g f d b c
theorem aoT{B a:Nat}{xs:List xQ}(f:Blk w a 265 #[v,.func (.func 204) #[] #[]])(d:bQ w B 86 14 encR v xs)(c:v.ownBlock≠some a)(b:xs.length<=100000)(g:xs≠[]):Calls prog 206 #[.pointer a] w λe w'=>aav encR 14 B a (.func (.func 204) #[] #[]) v (xs.toArray[0]!) (sH nW xs.toArray).toList w e w':=
 arX ph func206 WJ afx nW 204 (λ_ _=>kZ) (λW x y=>aco x.1 y.1 x.2 y.2 W) _ rfl Tryz.zeroValue86 f d c b g
end bU
variable{rl:List bM.Run}{F:Nat->Prop}{W w':World}
namespace bU
open Go Go.RowKit L bM eZ Srt
structure oG (w:World) (B hb:Nat) (v:Value) (qs:List xQ):Prop where
 box:Blk w hb 265 #[v,(.func (.func 204) #[] #[])]
 row:bQ w B 86 14 encR v qs
 ne:v.ownBlock≠some hb
 aQ:∀q∈qs,ISl w q.1.hv q.1.aQ/\Far v q.1/\(q.1.aQ≠[]->q.1.hv.ownBlock≠some hb)
theorem oG.on{B b:Nat}{qs:List xQ}(h:oG w B b v qs)(a:Below w w w'):oG w' B b v qs:=
 ⟨Blk.below h.box a h.box.lt,h.row.below a,h.ne,λq c=>⟨(h.aQ q c).1.below a,(h.aQ q c).2⟩⟩
theorem oG.low{B d:Nat}{qs:List xQ}(h:oG w B d v qs):∀q∈qs,q.1.aQ≠[]->∀b,q.1.hv.ownBlock=some b->b<(w:Nat):=λq g f b a=>by obtain⟨c,e,i⟩:=DK (h.aQ q g).1 f;rw[e]at a;injection a with a;omega
theorem oG.pushed{B j:Nat}{qs:List xQ}{x:xQ}(h:oG w B j v qs)(o:ISl w x.1.hv x.1.aQ)(u:x.1.aQ≠[]->∀b,x.1.hv.ownBlock=some b->b≠j/\v.ownBlock≠some b){e:Ending}(A:aat encR 14 B j (.func (.func 204) #[] #[]) v (oD nW qs.toArray x).toList w e w'):e=.returned (.tuple #[])/\∃v',oG w' B j v' (oD nW qs.toArray x).toList/\aO (λi=>i=j\/v.ownBlock=some i) w w':=by
 obtain⟨v',rfl,p,r,m,n⟩:=A;have all:∀q∈x::qs,ISl w q.1.hv q.1.aQ/\(q.1.aQ≠[]->∀b,q.1.hv.ownBlock=some b->b<(w:Nat)/\b≠j/\v.ownBlock≠some b):=λq k=>by
  rcases bA.1 k with rfl|k
  .refine⟨o,λf b d=>⟨?_,u f b d⟩⟩;obtain⟨c,s,I⟩:=DK o f;rw[s]at d;injection d with d;omega
  .obtain⟨a,b,c⟩:=h.aQ q k;exact⟨a,λf l d=>⟨h.low q k f l d,λe=>c f (by rw[d,e]),λe=>b f l e d⟩⟩
 refine⟨rfl,v',⟨p,r,λe=>?_,λq k=>?_⟩,m⟩
 .rcases n j e with g|g
  .exact h.ne g
  .have:=h.box.lt;omega
 .have z:q∈x::qs:=by have:=(ME nW qs.toArray x).mem_iff.1 k;simpa using this
  obtain⟨a1,a2⟩:=all q z;refine⟨vO a1 m λf b d y=>?_,λf b F d=>?_,λf e=>(a2 f j e).2.1 rfl⟩
  .obtain⟨_,c1,c2⟩:=a2 f b d;rcases y with g|g
   .exact c1 g
   .exact c2 g
  .obtain⟨H,c1,c2⟩:=a2 f b d;rcases n b F with g|g
   .exact c2 g
   .omega
theorem oG.popped{B d:Nat}{qs:List xQ}(h:oG w B d v qs)(c:qs≠[]){e:Ending}(x:aav encR 14 B d (.func (.func 204) #[] #[]) v (qs.toArray[0]!) (Top.sH nW qs.toArray).toList w e w'):e=.returned (.agg (encR (qs.toArray[0]!)).toArray)/\∃v',oG w' B d v' (Top.sH nW qs.toArray).toList/\v'.ownBlock=v.ownBlock/\aO (λi=>i=d\/v.ownBlock=some i) w w'/\ISl w' (qs.toArray[0]!).1.hv (qs.toArray[0]!).1.aQ/\((qs.toArray[0]!).1.aQ≠[]->∀b,(qs.toArray[0]!).1.hv.ownBlock=some b->b<(w:Nat)):=by
 obtain⟨v',rfl,r,s,l,g⟩:=x;have m:0<qs.length:=mG.2 c;have n:qs.toArray[0]! ∈qs:=by rw[dF qs.toArray 0 (by simpa using m)];simp
 have k:∀q∈(Top.sH nW qs.toArray).toList,q∈qs:=λq a=>by have:=(IW nW qs.toArray (by simpa using m)).mem_iff.1 (bG _ a);simpa using this
 have p:∀q∈qs,ISl w' q.1.hv q.1.aQ:=λq a=>vO (h.aQ q a).1 l (λc b f u=>by
  obtain⟨_,b1,c1⟩:=h.aQ q a;rcases u with j|j
  .exact c1 c (by rw[f,j])
  .exact b1 c b j f)
 refine⟨rfl,v',⟨r,s,by rw[g];exact h.ne,λq a=>⟨p q (k q a),λc b o f=>?_,(h.aQ q (k q a)).2.2⟩⟩,g,l,p _ n,h.low _ n⟩;rw[g]at o;exact(h.aQ q (k q a)).2.1 c b o f
theorem alK{B:Nat}(h:kU W B v rl)(s:B<=(W:Nat)){x:Run}(p:ISl W x.hv x.aQ)(F:x.aQ≠[]->∀b,x.hv.ownBlock=some b->v.ownBlock≠some b)(O:rl.length<=1000000):∃v' d,(Builtin.append_ #[28,28] 28 #[v,.slice W 1 1]).run prog (W.alloc (.cells (mR x).toArray 86))=.ok v' d/\kU d B v' (rl++[x])/\Below B W d/\(W.alloc (.cells (mR x).toArray 86)).grownBy d v.ownBlock:=by
 obtain⟨i0,hi,L,M,N⟩:=info_parts YQ;have l:Below W W (W.alloc (.cells (mR x).toArray 86)):=bZ;have f:=h.below l;have K:=rU (k:=14) (dec:=mR) (x:=x) (Blk.new W 86 (mR x).toArray) rfl;obtain⟨v',d,e1,e2,e3,e4,r⟩:=mP 28 28 i0 _ 128 underlying28 hi L M N rfl oZ (λ_=>rfl) (ys:=[x]) (m:=1) (c:=1)
  (λu o=>by simp only[dL,kV,fC,mR,bA,dS,or_false]at o;rcases o with rfl|rfl|rfl|rfl|rfl|rfl|rfl|rfl|rfl|rfl|rfl|rfl|rfl|rfl<;>first|rfl|exact KW p) f.1 rfl K (by simp;omega) (by unfold maxLen;omega) oZ
 have n:=h.1.lt;have all:∀y∈rl++[x],ISl W y.hv y.aQ/\(y.aQ≠[]->∀b,y.hv.ownBlock=some b->v.ownBlock≠some b):=λy a=>by
  rcases bY.1 a with a|a
  .exact⟨(h.2 y a).1,λJ b w e=>(h.2 y a).2 J b e w⟩
  .have:y=x:=by simpa using a
   subst this;exact⟨p,F⟩
 refine⟨v',d,e1,⟨e2,λy a=>?_⟩,?_,e3⟩
 .obtain⟨a1,a2⟩:=all y a;refine⟨MQ (a1.below l) e3 λi g H e=>a2 i g e H,λi b z j=>?_⟩;rcases r b z with f|f
  .exact a2 i b j f
  .obtain⟨c,A,n⟩:=DK a1 i;rw[A]at j;injection j with j;simp at f;omega
 .exact Below.grown (Below.mono l s) e3 (by simp;omega) λk I=>(n k I).1
theorem kU.bD{B:Nat}(h:kU w B v rl)(d:aO F w w')(e:∀b,v.ownBlock=some b->¬F b)(f:∀x∈rl,x.aQ≠[]->∀b,x.hv.ownBlock=some b->¬F b):kU w' B v rl:=
 ⟨h.1.bD λb c=>d.block b (h.1.lt b c).2 (e b c),λx a=>⟨vO (h.2 x a).1 d (f x a),(h.2 x a).2⟩⟩
theorem oG.bD{B a:Nat}{qs:List xQ}(h:oG w B a v qs)(c:aO F w w')(f:¬F a)(g:∀b,v.ownBlock=some b->¬F b)(i:∀q∈qs,q.1.aQ≠[]->∀b,q.1.hv.ownBlock=some b->¬F b):oG w' B a v qs:=
 ⟨h.box.bD c f,h.row.bD λb e=>c.block b (h.row.lt b e).2 (g b e),h.ne,λq d=>⟨vO (h.aQ q d).1 c (i q d),(h.aQ q d).2⟩⟩
theorem abY(h:Runs w v rl)(bg:Many rl):∀w1,Below w w w1->Calls prog 142 #[v] w1 λe w'=>akE (Top.order (rl.map eY)) w1 e w':=by
 intro w1 ce;obtain⟨R,fl,rfl,cp,ed,cl⟩:=h.below ce;have ds:=qZ cp;have dj:=qZ cl;have b4:=qZ bg;obtain⟨K,bb⟩:=nZ rl.length;have ax:=qZ bb;have cc:=bg.len;rw[bb]at cc⊢;have cv:=qY (oG (w1.alloc (.cells #[true,(.func (.func 204) #[] #[])] 265)) (w1:Nat) (w1:Nat) (.slice none 0 0) []) (⟨Blk.new _ _ _,bQ.nil _ _ _ _ _,λe=>(by cases e),λq n=>(by cases n)⟩);have cy:=qY (Below w1 w1 (w1.alloc (.cells #[true,(.func (.func 204) #[] #[])] 265))) bZ;clear h bg ce cp ed cl bb;go_enter func142,ntmps142;go_wp2_with fail;go_loopg[11] K (λd6 v11 wr=>∃(k:Nat) (qs:List xQ) (O:Value),v11=.int .i64 k/\k<=K/\K<=d6+k/\qs.length=k/\Hid (oG wr (w1:Nat) (w1:Nat) O qs)/\Hid (qs.toArray.map fR=((rl.take k).map eY).foldl (oD nO) #[])/\Hid (Below w1 w1 wr));case atStart=>exact⟨0,[],_,mZ,oZ,oZ,rfl,cv,qZ sZ,cy⟩
 case round=>
  obtain⟨k,qs,O,rfl,ec,ea,aa,u,b2,ad⟩:=hrel;by_cases ee:k<K
  .have cn:(k:Int)<(K:Int):=oZ;have N:k<rl.length:=by rw[ax.out];exact ee
   obtain⟨fj,fs,rfl,eg,ci⟩:=sQ ds.out N;obtain⟨bo,p1,p2,p3,p4,bs,p6,bt,bu,bv,bp,bq,br,ao⟩:=ci wr ad.out;have af:=qZ (aC ((dj.out _ (bB N)).below ad.out) (aC (b4.out.num _ (bB N)) (b4.out.aQ _ (bB N))));have ag:=qZ (adG _ af.out.1 af.out.2.2);have a5:=qY (((rl.take (k+1)).map eY).foldl (oD nO) #[]=oD nO (((rl.take k).map eY).foldl (oD nO) #[]) (eY rl[k])) (by rw[bF N,dO,fB];rfl);obtain⟨x,r⟩:=nZ (rl[k]);rw[r]at bo p1 p2 p3 p4 bs p6 bt bu bv bp bq br ao a5 af ag;clear r ci N eg;obtain⟨cu,dy,ca,_,_⟩:=id af.out.1;obtain⟨a,b,c,⟨d,e,f⟩,g,h,i,j,s,st,l,aQ,hv⟩:=x;simp only at ca bo p1 p2 p3 p4 bs p6 bt bu bv bp bq br ao a5;subst ca;obtain⟨eq,bi⟩:=nZ aQ.length;have fh:=qZ bi;simp only[rM,sW,bi]at ag ao;clear bi;obtain⟨ff,aj⟩:=nZ (wr.alloc (.cells #[a,b,c,d,e,f,g,h,i,j,s,st,l,.slice cu eq dy] 86));have ch:=aB aj;have bz:=aX aj;have au:=qZ (aC ch bz);have dq:=qZ aj;obtain⟨er,es,ex,ey,ez,e0,e5,e8,e9,fb,et,eu,ev,ew⟩:=bz.c14;clear ch bz aj;go_wp2_with fail;refine Eq.mp (dA (λz=>Calls prog _ _ z _) dq.out.symm) ?_;clear bo p1 p2 p3 p4 bs p6 bt bu bv bp bq br ao er es ex ey ez e0 e5 e8 e9 fb et eu ev ew;refine(ag.out ff au.out.1).mono ?_;rintro b8 ft⟨v',rfl,bf,cj,cg⟩;obtain⟨aq,a8,rfl,d8,eh⟩:=id bf;have bd:=aA au.out.1 cg;have T:=qZ (u.out.on bd);have di:=qZ bf;have dc:=qZ cj;have av:=qZ (aA ad.out bd);have dw:=qZ (Below.size au.out.1);have Q:=qZ (alO (x:=⟨⟨a,b,c,⟨d,e,f⟩,g,h,i,j,s,st,l,aQ,.slice aq aQ.length a8⟩,rfl⟩) T.out.box T.out.row T.out.ne (Below.size av.out) oZ);clear bf cj cg d8 eh bd ag;go_wp2_with fail;refine Q.out.mono ?_;rintro b8 fe Z;obtain⟨rfl,fc,cb,cq⟩:=oG.pushed T.out di.out (λA b p=>by have:=dc.out A b p;have fr:=dw.out;have fp:=u.out.box.lt;refine⟨oZ,λe=>?_⟩;have:=(u.out.row.lt b e).2;omega) Z
   .have du:=qZ cb;have c0:=qY (Below w1 w1 fe) (av.out.trans (cq.below (Below.size av.out) (λi hi=>by
     rcases hi with rfl|hi
     .exact bI _
     .exact(T.out.row.lt _ hi).1)))
    have db:=qY ((oD nW qs.toArray ⟨⟨a,b,c,⟨d,e,f⟩,g,h,i,j,s,st,l,aQ,.slice aq aQ.length a8⟩,rfl⟩).toList.toArray.map fR=((rl.take (k+1)).map eY).foldl (oD nO) #[]) (by rw[a5.out,<-b2.out,Array.toArray_toList];exact abU fR nO MW _ _);have co:(oD nW qs.toArray ⟨⟨a,b,c,⟨d,e,f⟩,g,h,i,j,s,st,l,aQ,.slice aq aQ.length a8⟩,rfl⟩).toList.length=k+1:=by rw[Array.length_toList,ajb];simpa using aa
    have dr:=qZ co;clear cb cq Z co Q;go_wp2_with fail;go_roundg(K-(k+1));case measure=>omega
    case rel=>exact⟨k+1,_,fc,mZ,oZ,oZ,dr.out,du,db,c0⟩
  .have cn:¬(k:Int)<(K:Int):=oZ;obtain rfl:k=K:=by omega
   have dd:=qY (qs.toArray.map fR=(rl.map eY).foldl (oD nO) #[]) (by have:=b2.out;rwa [aT (by rw[ax.out];exact bI _)]at this);have dn:=qY (wG nO k (qs.toArray.map fR)=Top.order (rl.map eY)) (by rw[dd.out];unfold Top.order;rw[bN,ax.out]);obtain⟨W0,M⟩:=nZ (wr:Nat);have fi:=qZ M;have b3:=qY (∀q∈qs,q.1.aQ≠[]->∀b,q.1.hv.ownBlock=some b->b<W0) (by rw[<-M];exact u.out.low);have dp:=qY (∀j,j<=k->(Top.pops nW j qs.toArray).toList.length=k-j) (λj X=>by rw[Array.length_toList,QG _ _ _ (by simpa[aa]using X)];simp[aa]);have b5:=qY (∀j,j<=k->∀q∈(Top.pops nW j qs.toArray).toList,q∈qs) (by
    intro j;induction j with
    |zero=>exactλ_ q n=>by simpa[Top.pops]using n
    |succ j ep=>
     intro X q n;refine ep oZ q ?_;have bl:=QG nW j qs.toArray (by simp[aa];omega);exact(IW nW _ (by simp[aa]at bl;omega)).mem_iff.1 (bG _ n))
   have cw:=qY (oG wr (w1:Nat) (w1:Nat) O (Top.pops nW 0 qs.toArray).toList) (by simpa[Top.pops]using u.out);have az:=qY (∀b,O.ownBlock=some b->b<W0/\(w1:Nat)<=b) (λb p=>by have:=u.out.row.lt b p;rw[M]at this;omega);have ae:=qY ((w1:Nat)<W0) (by rw[<-M];exact u.out.box.lt);have em:W0<=(wr:Nat):=by rw[M];exact bI _
   have cz:=qZ ad.out;have fo:k<=1000:=cc;obtain⟨bj,ah⟩:=nZ O.ownBlock;rw[ah]at az;have cx:=qZ (aC cw.out ah);have dg:=qZ ah;clear M cn ea ah ec;go_wp2_with fail;go_loopg[6] k (λd7 fd ap=>∃(j:Nat) (o:List Run) (bw:Value),j<=k/\k<=d7+j/\o.length=j/\W0<=(ap:Nat)/\Hid (oG ap (w1:Nat) (w1:Nat) bw (Top.pops nW j qs.toArray).toList/\bw.ownBlock=bj)/\Hid (kU ap W0 fd o/\o.map eY=wG nO j (qs.toArray.map fR)/\∀x∈o,∃q∈qs,q.1=x)/\Hid (Below w1 w1 ap));case atStart=>exact⟨0,[],O,oZ,oZ,rfl,em,cx,qZ ⟨kU.nil _ _,by simp[wG],λx r=>(by cases r)⟩,cz⟩
   case round=>
    obtain⟨j,o,bw,X,fn,ek,el,H,I,aw⟩:=hrel;have ai:(Top.pops nW j qs.toArray).toList.length=k-j:=dp.out j X;obtain⟨ct,dx,a9,ej⟩:=H.out.1.row.sl WJ;rw[ai]at a9;have b7:wr.cell? (w1,0)=some (.slice ct (k-j) dx):=by rw[<-a9];exact H.out.1.box.cell 0
    obtain⟨m,ei⟩:=nZ (k-j);rw[ei]at b7 ai;have ay:=qZ ai;clear a9 ej ai;by_cases ef:0<m
    .have en:(0:Int)<(m:Int):=oZ;have bh:(Top.pops nW j qs.toArray).toList≠[]:=mG.1 (by rw[ay.out];exact ef);have Q:=qZ (aoT H.out.1.box H.out.1.row H.out.1.ne (by rw[ay.out];omega) bh);have dl:=qZ bh;clear bh;go_wp2_with fail;refine Q.out.mono ?_;rintro b8 F Z;obtain⟨rfl,ab,ba,cs,am,al,bn⟩:=oG.popped H.out.1 dl.out Z;have eb:j+1<=k:=oZ;have b9:(Top.pops nW j qs.toArray).toList.toArray=Top.pops nW j qs.toArray:=Array.toArray_toList;rw[b9]at ba al bn⊢;obtain⟨y,ak⟩:=nZ ((Top.pops nW j qs.toArray)[0]!);have bm:y∈qs:=by have bl:=ay.out;rw[Array.length_toList]at bl;refine b5.out j X y ?_;rw[<-ak,dF _ 0 oZ];simp
     have dm:=qY (wG nO (j+1) (qs.toArray.map fR)=wG nO j (qs.toArray.map fR)++[fR y]) (by rw[<-WU fR nO MW,<-WU fR nO MW];show List.map fR (wG nW (j+1) qs.toArray)=List.map fR (wG nW j qs.toArray)++_;rw[acR,dO,ak];rfl);rw[ak]at al bn⊢;have bc:=az.out;have Y:=H.out.2;have b0:=qY (Below w1 w1 F) (aw.out.trans (am.below (Below.size aw.out) (λq n=>by
      rcases n with rfl|n
      .exact bI _
      .exact(bc q (Y▸n)).2)))
     have a0:=qY (kU F W0 _ o) (kU.bD I.out.1 am (λb p be=>by
      have fm:=(I.out.1.1.lt b p).1;rcases be with L|L
      .have:=ae.out;omega
      .have:=(bc b (Y▸L)).1;omega) (λx r A b p be=>by
      obtain⟨q,n,rfl⟩:=I.out.2.2 x r;obtain⟨_,dz,d0⟩:=u.out.aQ q n;rcases be with L|L
      .exact d0 A (by rw[p,L])
      .exact dz A b (dg.out.trans (Y.symm.trans L)) p))
     have de:=qY (y.1.aQ≠[]->∀b,y.1.hv.ownBlock=some b->b<W0) (b3.out y bm);have b6:=qY (W0<=(F:Nat)) (aV el am.size);have ar:=qY (oG F (w1:Nat) (w1:Nat) ab (Top.pops nW (j+1) qs.toArray).toList/\ab.ownBlock=bj) (⟨ba,cs.trans Y⟩);have dh:=qZ al;have dv:=qZ bm;clear ba cs am al bn Z Q bc Y b9 bm b7 ak;obtain⟨⟨a,b,c,⟨d,e,f⟩,g,h,i,J,s,st,l,aQ,hv⟩,fq⟩:=y;simp only[encR,mR];obtain⟨fg,W,bk,cd,d9,ck⟩:=alK (x:=⟨a,b,c,⟨d,e,f⟩,g,h,i,J,s,st,l,aQ,hv⟩) a0.out b6.out dh.out (λA q n e=>by have:=de.out A q n;have:=(a0.out.1.lt q e).1;omega) oZ;rw[aaH]at bk;simp only[sW]at bk;have dt:=qY (kU W W0 fg (o++[⟨a,b,c,⟨d,e,f⟩,g,h,i,J,s,st,l,aQ,hv⟩])/\(o++[(⟨a,b,c,⟨d,e,f⟩,g,h,i,J,s,st,l,aQ,hv⟩:Run)]).map eY=wG nO (j+1) (qs.toArray.map fR)/\∀x∈o++[(⟨a,b,c,⟨d,e,f⟩,g,h,i,J,s,st,l,aQ,hv⟩:Run)],∃q∈qs,q.1=x) (⟨cd,by rw[dm.out,dO,I.out.2.1];rfl,λx r=>by
       rcases bY.1 r with r|r
       .exact I.out.2.2 x r
       .have:x=⟨a,b,c,⟨d,e,f⟩,g,h,i,J,s,st,l,aQ,hv⟩:=by simpa using r
        exact⟨_,dv.out,this.symm⟩⟩)
     have cr:aO (λi=>W0<=i) F (F.alloc (.cells (mR ⟨a,b,c,⟨d,e,f⟩,g,h,i,J,s,st,l,aQ,hv⟩).toArray 86)):=(aO.refl _ _).alloc _;have an:aO (λi=>W0<=i) F W:=cr.trans (aO.lG ck λi hi=>(a0.out.1.lt i hi).1);have df:=qY (oG W (w1:Nat) (w1:Nat) ab (Top.pops nW (j+1) qs.toArray).toList/\ab.ownBlock=bj) (⟨ar.out.1.bD an (by have:=ae.out;omega) (λb p=>by have:=(az.out b (ar.out.2▸p)).1;omega) λq n A b p=>by have:=b3.out q (b5.out (j+1) eb q n) A b p;omega,ar.out.2⟩);have da:=qY (Below w1 w1 W) (b0.out.trans (an.below (Below.size b0.out) λi hi=>by have:=ae.out;omega));have eo:W0<=(W:Nat):=aV b6.out an.size;have cm:(o++[(⟨a,b,c,⟨d,e,f⟩,g,h,i,J,s,st,l,aQ,hv⟩:Run)]).length=j+1:=by simp[ek]
     have dk:=qZ cm;clear cd d9 ck cr an cm;go_wp2_with(at_builtin;refine dJ rfl (.tmp 26) (.tmp 29) _ _ rfl u6 (.slice F 1 1) rfl rfl bk ?_);go_roundg(k-(j+1));case measure=>omega
     case rel=>exact⟨j+1,_,ab,oZ,oZ,dk.out,eo,df,dt,da⟩
    .have en:¬(0:Int)<(m:Int):=oZ;obtain rfl:j=k:=by omega
     have b1:=qY (kU wr (w1:Nat) _ o/\o.map eY=Top.order (rl.map eY)) (⟨I.out.1.low (Nat.le_of_lt ae.out),by rw[I.out.2.1];exact dn.out⟩);go_wp2_with fail;go_ret;exact⟨_,o,rfl,b1.out.1,b1.out.2,aw.out⟩
end bU
variable{v1 v2:Value}
namespace bU
open Go Go.RowKit L bM eZ Srt
theorem jI.low{b:Nat}{l:List UInt8}(h:jI w b v l W){B:Nat}(f:∀i,qK b v i->B<=i)(g:B<=(w:Nat)):∃v',yJ W b v' l/\aO (qK b v) w W/\∀i,qK b v' i->B<=i:=by
 obtain⟨v',a,c,d⟩:=h;refine⟨v',a,c,λi hi=>?_⟩;rcases d i hi with e|e
 .exact f i e
 .omega
def agi(x:Top.Cmd)(w:World)(e:Ending)(w':World):Prop:=e=.returned (.tuple #[.string (str (Top.bytes (rX x))),()])/\Below w w w'
theorem akb{x:Top.Cmd}(y:bX w (.agg #[v1,v2,x.c.aI,x.c.aK]) x.c)(H:Top.Plain x):Calls prog 229 #[rY x.kind v1 v2 x.c.aI x.c.aK x.g x.n] w λe w'=>agi x w e w':=by
 have ap:=H.err;have bi:=H.kind;have ae:=qZ (sizes H.err);have a9:=qZ (λk=>H.config k);have bb:=qZ (λk=>H.dW k);have bc:=qY (Top.Low [x.kind]) (λn bw=>by
  have e:n=x.kind:=by simpa using bw
  omega)
 have be:=qZ (λk=>Top.enc1 (x:=x) k);have bf:=qZ (λk=>Top.enc2 (x:=x) k);have bg:=qZ (λk=>aqs (x:=x) k);have ab:=qZ y;unfold agi;obtain⟨E,aq⟩:=nZ (Top.bytes (rX x));have L:=qZ aq;rw[aq];obtain⟨kind,c,g,n⟩:=x;obtain⟨aI,T⟩:=nZ c.aI;obtain⟨aK,O⟩:=nZ c.aK;simp only at y ap bi ae a9 bb bc be bf bg ab L⊢;rw[T,O]at y ab⊢;obtain⟨bn,F⟩:=nZ (w.alloc (.cells (#[.int .i64 kind,v1,v2,.int .i64 aI,.int .i64 aK]++iD g++#[.int .i64 n]) 61));have ar:=aB F;have Y:Blk bn w 61 (#[.int .i64 kind,v1,v2,.int .i64 aI,.int .i64 aK]++iD g++#[.int .i64 n]):=by rw[<-F];exact Blk.new _ _ _
 have u:=qZ (ayS (w:=bn) (x:=⟨kind,c,g,n⟩) (v1:=v1) (v2:=v2) (by simp only;rw[T,O];exact y.below ar));simp only[T,O]at u;rw[ap]at u;obtain⟨af,ag,ah,ai,aj,ak,al,am,an,bj⟩:∃af ag ah ai aj ak al am an:Int,iD g=#[.int .i64 af,.int .i64 ag,.int .i64 ah,.int .i64 ai,.int .i64 aj,.int .i64 ak,.int .i64 al,.int .i64 am,.int .i64 an]:=⟨_,_,_,_,_,_,_,_,_,rfl⟩;have N:=λ(w W:World) (b:Nat) (v:Value) (b1:List UInt8) (h:jI w b v b1 W)=>akS h g;simp only[dW]at N;simp only[rY]at u⊢;rw[bj]at F Y u N⊢;obtain⟨bp,n1,bz,rfl⟩:=bX.s1 y;obtain⟨bq,n2,b0,rfl⟩:∃A n c,v2=.slice A n c:=by obtain⟨_,_,e,_,⟨A,c,rfl,_⟩⟩:=y;simp only[Value.agg.injEq,eO,cB,and_true]at e;exact⟨_,_,_,e.2.1⟩
 simp only[fH,List.cons_append,List.nil_append]at F Y u⊢;have M:=qZ Y;have bt:=qZ F;have aa:=qZ ar;have br:=qZ N;clear y ap aq T O ar Y F bj N H;go_enter func229,ntmps229;go_upto_region 1 with fail;rw[bt.out];obtain⟨ca,cb,ci,cj,ck,cl,cm,cn,co,cp,cc,cd,ce,cg,ch⟩:=M.c15;go_wp2_with fail;clear ca cb ci cj ck cl cm cn co cp cc cd ce cg ch;refine u.out.mono ?_;rintro e w1⟨rfl,Q⟩;have a5:=M.below Q M.out.lt;obtain⟨az,X⟩:=nZ (w1.alloc (.cells #[.pointer none,true] 331));have au:=aB X;have cr:=Q.size;have cq:=M.out.lt;have bh:=qZ (a5.below au a5.lt);have bu:=qZ X;have bd:=qY (jI az (w1:Nat) (.slice none 0 0) [] az) (by rw[<-X];exact jI.refl (atp w1));have l:=qZ (aa.out.trans (((aA Q au)).mono aa.size));obtain⟨bo,ax⟩:=nZ (w1:Nat);have bs:=qY (¬qK bo (.slice none 0 0) (w:Nat)) (λav=>by
  rcases av with e|e
  .omega
  .cases e)
 have z:=qY (∀i,qK bo (.slice none 0 0) i->(w:Nat)<=i) (λi av=>by
  rcases av with e|e
  .have:=aa.size;omega
  .cases e)
 rw[ax]at bd;have bv:=qZ ax;clear u Q au X a5 ax;go_upto_region 5 with fail;rw[bu.out,bv.out];have ay:CI az w 0 kind:=bh.cell 0;go_wp2_with fail;refine(xG bd [kind] bc sZ).mono ?_;rintro e a⟨rfl,m⟩;have a8:=m.cK bh bs;have ad:=qZ m;have d:=qZ a8;have ay:CI a w 0 kind:=a8.cell 0;clear m a8;rcases bi with rfl|rfl|rfl
 .obtain⟨p1,p2,p3,p4⟩:CV a w 1 (.slice bp n1 bz)/\CV a w 2 (.slice bq n2 b0)/\CI a w 3 aI/\CI a w 4 aK:=⟨d.cell 1,d.cell 2,d.cell 3,d.cell 4⟩;obtain⟨cs,bl,bk,aw⟩:=ad.low z (by have:=l.size;omega);have ao:Below w w a:=l.out.trans (bk.below l.size z);have K:=qZ (agr bl ao aw ab (a9 (by first|rfl|trivial)) (by simp[Top.bytes]) ae.1 ae.2);have ba:=qZ aw;have Z:=qZ ao;clear bl bk aw ao;go_wp2_with fail;refine K.out.mono ?_;rintro e a0⟨rfl,m⟩;obtain⟨v4,j,s,r⟩:=m.low ba Z.size;have o:Below w w a0:=Z.out.trans (s.below Z.size ba);have f:([]++Top.bytes [(1:Int)])++Top.bytes (sJ c)=E:=by rw[<-L.out,be.out (by first|rfl|trivial)];rfl
  rw[f]at j;have gs:=qZ (JL j (by rw[<-f];simp[Top.bytes]) r);have I:=qZ o;clear ay p1 p2 p3 p4 K m j s r o f;go_wp2_with fail;refine gs.out.mono ?_;rintro e bm⟨rfl,p⟩;have J:=qZ (I.out.trans p);clear p;go_wp2_with fail;go_ret2;exact⟨rfl,J⟩
 .obtain⟨b6,p6,b7,b8,b9,b2,b3,b4,b5⟩:CI a w 5 af/\CI a w 6 ag/\CI a w 7 ah/\CI a w 8 ai/\CI a w 9 aj/\CI a w 10 ak/\CI a w 11 al/\CI a w 12 am/\CI a w 13 an:=⟨d.cell 5,d.cell 6,d.cell 7,d.cell 8,d.cell 9,d.cell 10,d.cell 11,d.cell 12,d.cell 13⟩;have K:=qZ (br _ _ _ _ _ ad (bb (by first|rfl|trivial)) (by simp[Top.bytes]));go_wp2_with fail;refine K.out.mono ?_;rintro e a0⟨rfl,m⟩;obtain⟨v4,j,s,r⟩:=m.low z l.size;have o:Below w w a0:=l.out.trans (s.below l.size z);have f:([]++Top.bytes [(2:Int)])++Top.bytes (rH g)=E:=by rw[<-L.out,bf.out (by first|rfl|trivial)];rfl
  rw[f]at j;have gs:=qZ (JL j (by rw[<-f];simp[Top.bytes]) r);have I:=qZ o;clear ay b6 p6 b7 b8 b9 b2 b3 b4 b5 K m j s r o f;go_wp2_with fail;refine gs.out.mono ?_;rintro e bm⟨rfl,p⟩;have J:=qZ (I.out.trans p);clear p;go_wp2_with fail;go_ret2;exact⟨rfl,J⟩
 .obtain⟨v4,j,s,r⟩:=ad.low z l.size;have o:Below w w a:=l.out.trans (s.below l.size z);have f:[]++Top.bytes [(6:Int)]=E:=by rw[<-L.out,bg.out (by first|rfl|trivial)];rfl
  rw[f]at j;have gs:=qZ (JL j (by rw[<-f];simp[Top.bytes]) r);have I:=qZ o;clear j s r o f;go_wp2_with fail;refine gs.out.mono ?_;rintro e bm⟨rfl,p⟩;have J:=qZ (I.out.trans p);clear p;go_wp2_with fail;go_ret2;exact⟨rfl,J⟩
theorem aoJ(a:UInt8)(l:List UInt8):(⟨#[a]⟩:ByteArray)++str l=str (a::l):=EH [a] l
theorem aiU{x:Top.Cmd}(b:bX w (.agg #[v1,v2,x.c.aI,x.c.aK]) x.c)(i:Top.Plain x):Calls prog 189 #[rY x.kind v1 v2 x.c.aI x.c.aK x.g x.n] w λe w'=>e=.returned (.string (str (mQ x)))/\Below w w w':=by
 obtain⟨X,a⟩:=nZ (w.alloc (.cells (#[.int .i64 x.kind,v1,v2,.int .i64 x.c.aI,.int .i64 x.c.aK]++iD x.g++#[.int .i64 x.n]) 61));have g:=aB a;have d:Blk X w 61 (#[.int .i64 x.kind,v1,v2,.int .i64 x.c.aI,.int .i64 x.c.aK]++iD x.g++#[.int .i64 x.n]):=by rw[<-a];exact Blk.new _ _ _
 have gE:=qZ (akb (b.below g) i);unfold agi at gE;have f:=qZ (aoJ 67 (Top.bytes (rX x)));unfold mQ;have c:=uE i;unfold mQ at c;rw[List.length_cons]at c;obtain⟨E,k⟩:=nZ (Top.bytes (rX x));rw[k]at gE f c⊢;have o:(str E).size<=1000:=by rw[pF];omega
 clear k i c;obtain⟨Y,n1,al,rfl⟩:=bX.s1 b;obtain⟨Z,n2,am,rfl⟩:=bX.s2 b;obtain⟨kind,⟨an,ak,aI,aK⟩,⟨aa,ab,ad,⟨ae,af,ag⟩,ah,ai,aj,ap,ao⟩,n⟩:=x;simp only[rY,iD]at gE a d⊢;simp only[fH,List.cons_append,List.nil_append]at a d gE⊢;have u:=qZ d;have r:=qZ a;have j:=qZ g;clear d a g b;go_enter func189,ntmps189;go_upto_region 1 with fail;rw[r.out];obtain⟨y,z,K,L,M,N,O,Q,T,W,A,F,H,I,J⟩:=u.c15;go_wp2_with fail;refine gE.out.mono ?_;rintro e w1⟨rfl,l⟩;clear y z K L M N O Q T W A F H I J;have p:=qZ (j.out.trans (l.mono j.size));clear l gE;obtain⟨s,m⟩:=nZ (str E);rw[m]at f o⊢;have v:=qZ o;clear m;go_wp2_with fail;all_goals first
  |(exfalso;have:=v.out;omega)
  |(go_ret;exact⟨MB f,p⟩)
end bU
end Go.Proofs.YtedmeglbjmdlhaaGreatDoor
