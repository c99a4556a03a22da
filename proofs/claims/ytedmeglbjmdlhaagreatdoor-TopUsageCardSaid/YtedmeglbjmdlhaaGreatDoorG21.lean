/-
Parts that the laws of the whole program share: contracts of its functions, and plain laws.
-/
import Derived.Test.YtedmeglbjmdlhaaGreatDoorG19
import Derived.Test.YtedmeglbjmdlhaaGreatDoorG20
import Derived.Laws.CopyRow
import Derived.Sort.OwnSortedInts
import Derived.Defers
import Derived.Recover
import Derived.Laws.Pointers
set_option maxRecDepth 100000
set_option maxHeartbeats 16000000
set_option linter.all false
open Go.Proofs.Tryz
namespace Go.Proofs.YtedmeglbjmdlhaaGreatDoor
open Go
open Cfg L Led Ord Quo Srt Top Vec bM bU eZ jN sK
variable{c:Cfg.C}{h:List Nat}{g:Nat}{v1 v2 vp vr:Value}{w w0:World}
namespace Srt
open Go Go.RowKit Go.Sort L bM eZ
abbrev PO:Type:={p:Ord.P//POk p}
instance:Inhabited PO:=⟨⟨⟨0,0,0,⟨0,0,0⟩,0,0,0,0,0⟩,by unfold POk InI;decide⟩⟩
def qP(x:PO):List Value:=(eP x.1).toList
theorem MX(x:PO):(qP x).length=11:=rfl
theorem afy(x:PO):∀v∈qP x,v.oneCell'=true:=by intro v hv;simp only[qP,eP,bA,dS,or_false]at hv;rcases hv with rfl|rfl|rfl|rfl|rfl|rfl|rfl|rfl|rfl|rfl|rfl<;>rfl
theorem pk:PK prog 11 where
 mixed:=by kernel_rfl
 t3:=underlying3
 a3:=Tryz.isAgg3
 z3:=Tryz.sizeOf3
 v3:=Tryz.zeroValue3
 t4:=underlying4
 a4:=Tryz.isAgg4
 z4:=Tryz.sizeOf4
 v4:=Tryz.zeroValue4
 t49:=underlying27
 a49:=Tryz.isAgg27
 z49:=Tryz.sizeOf27
 v49:=Tryz.zeroValue27
 tu:=underlying123
 au:=Tryz.isAgg123
 zu:=Tryz.sizeOf123
 aE:=Tryz.isAgg44
 zE:=Tryz.sizeOf44
theorem aeU:∀ps:List Ord.P,(∀p∈ps,POk p)->∃qs:List PO,qs.map (·.1)=ps
 |[],_=>⟨[],rfl⟩
 |p::ps,h=>by obtain⟨qs,a⟩:=aeU ps (λx b=>h x (bG _ b));exact⟨⟨p,h p (aZ ..)⟩::qs,by simp[a]⟩
theorem ajP{b o:Nat}{qs:List PO}(h:gQ w (some ⟨b,o,none⟩) 11 (λp=>(eP p).toList) (qs.map (·.1))):∀j u,(flatK qP 11 qs.toArray).toList[j]? =some u->w.cell? ⟨b,o+j,none⟩=some u:=by
 intro j u a;have c:j<qs.length*11:=by have:=(bE.1 a).1;simpa using this
 have i:qs.map (·.1)≠[]:=λe=>by rw[pW.1 e]at c;exact absurd c sZ
 obtain⟨m,r,e,n,f⟩:=h i;cases e;have d:j/11<qs.length:=oZ;have l:(qs.map (·.1))[j/11]? =some (qs[j/11]).1:=by simp[d]
 have k:u=(qP qs[j/11])[j%11]! :=by have:=get_flatK qP 11 qs.toArray j (by simpa using c);rw[dP]at a;rw[dF _ j (by simpa using c)]at this;rw[dH (by simpa using c)]at a;injection a with a;rw[<-a,this];simp[d]
 have g:(qP qs[j/11])[j%11]? =some u:=by rw[k,aH (by rw[MX];omega),dF _ _ (by rw[MX];omega)]
 have:=f (j/11) _ l (j%11) u g;rw[show o+j/11*11+j%11=o+j by omega]at this;exact this
theorem amL{n cap:Nat}{e:TypeId}{cur:Array Value}{d:Array PO}(h:w.heap[g]? =some (.cells cur e (0,0)))(f:cur.toList.take (d.size*11)=(flatK qP 11 d).toList)(i:d.size*11<=cur.size):HoldsK qP 11 w g 0 d:=λj a=>by
 have c:j<d.size*11:=by simpa using a
 have b:Blk w g e cur:=h;have e1:cur[j]? =some (flatK qP 11 d)[j]! :=by
  rw[dF _ j a];have:(flatK qP 11 d).toList[j]? =some (flatK qP 11 d)[j]:=by rw[dP,dH a]
  rw[<-f,eB,aG c,dP]at this;exact this
 exact⟨by rw[aU,b.cell,e1];rfl,by rw[aU];exact b.frozen j⟩
theorem pinfo:(prog.info? 44).map (λi=>(i.zero,i.size,i.bytes))=some (some (.agg #[(),(),(),(),(),(),(),(),(),(),()]),11,88):=by kernel_rfl
theorem anI(a:Addr)(n c:Nat)(b:List Value)(p:b.length=n*11)(z:n<=1048576)(g:∀j u,b[j]? =some u->w.cell? (a.add j)=some u)(i:∀u∈b,u.oneCell'=true):Calls prog 77 #[.slice (some a) n c] w λe w'=>∃v',e=.returned v'/\w'.ownsRow (w:Nat) 44 11 v' n b/\v'≠.slice none 0 0/\Below w w w':=by
 obtain⟨i0,hi,v,x,y⟩:=info_parts pinfo;have F:∀(w:World) (a:Option Addr) (n c f d:Nat),(binOp .eql 27 (.slice a n c) (.slice none f d)).run prog w=.ok (.bool a.isNone) w:=λw a n c f d=>Lib.run_eql_slice_nil w _ _ a n c f d underlying27;have A:=qZ g;clear g;go_enter func77,ntmps77;go_wp2_with(at_builtin;refine wpList_append_own _ rfl _ _ 27 rfl (w:Nat) 44 i0 _ 11 88 underlying27 hi v x y rfl oZ _ _ _ rfl (World.ownsRow_made w #[] 0 lZ (bK _) sZ) a n c b rfl ?qc1 ?qc2 ?qc3 ?qc4 ?qc5 ?qc6 ?_);case qc1=>exact p
 case qc2=>intro j u m;exact Lib.cell?_alloc_some _ (A j u m)
 case qc3=>exact i
 case qc4=>rw[aU];unfold maxLen;omega
 case qc5=>omega
 case qc6=>simp
 intro v' w1 s l r;go_wp2;go_ret;refine⟨v',rfl,by simpa using s,?_,?_⟩
 .exact r
 .exact((aJ _ w).alloc lZ _).grown l sZ (by intro k o;simp[Value.ownBlock]at o;omega)
theorem anH(n c:Nat)(w:World):Calls prog 77 #[.slice none n c] w λe w'=>e=.returned (.slice none 0 0)/\w'=w:=by have f:∀(w:World) (a:Option Addr) (n c d b:Nat),(binOp .eql 27 (.slice a n c) (.slice none d b)).run prog w=.ok (.bool a.isNone) w:=λw a n c d b=>Lib.run_eql_slice_nil w _ _ a n c d b underlying27;go_enter func77,ntmps77;go_wp2;go_ret;exact⟨rfl,rfl⟩
theorem apP{k:Value}{aN next:Int}(N:EA w0 v1 v2 k c h)(ab:c.aP≠[])(L:NV c aN){d j cK:Nat}(o:Below w0 w0 w)(f:yK w d v1 v2 c.aI c.aK aN next vp vr k)(J:w.cell? (j,0)=some (.func (.func 80) #[] #[]))(u:j<(w:Nat))(v:(w0:Nat)<=cK)(Z:cK≠j)(aa:cK≠d):zC prog 82 #[.pointer j,.pointer d] qP (λx y=>Ord.cmp c h aN x.1 y.1) cK w:=by
 intro W g x y;have O:EA W v1 v2 k c h:=N.below (o.trans (g.below o.size λi hi=>by subst hi;exact v));have Q:yK W d v1 v2 c.aI c.aK aN next vp vr k:=⟨aM f.lt g.size,(g.cell (p:=⟨d,0,none⟩) f.lt (by show¬d=cK;omega)).trans f.c0,(g.cell (p:=⟨d,1,none⟩) f.lt (by show¬d=cK;omega)).trans f.c1,(g.cell (p:=⟨d,2,none⟩) f.lt (by show¬d=cK;omega)).trans f.c2,(g.cell (p:=⟨d,3,none⟩) f.lt (by show¬d=cK;omega)).trans f.c3,(g.cell (p:=⟨d,4,none⟩) f.lt (by show¬d=cK;omega)).trans f.c4,(g.cell (p:=⟨d,5,none⟩) f.lt (by show¬d=cK;omega)).trans f.c5,(g.cell (p:=⟨d,6,none⟩) f.lt (by show¬d=cK;omega)).trans f.c6,(g.cell (p:=⟨d,7,none⟩) f.lt (by show¬d=cK;omega)).trans f.c7,(g.cell (p:=⟨d,8,none⟩) f.lt (by show¬d=cK;omega)).trans f.c8⟩
 have ap:CV W j 0 (.func (.func 80) #[] #[]):=(g.cell (p:=⟨j,0,none⟩) u (by show¬j=cK;omega)).trans J;have aq:j<(W:Nat):=aM u g.size;clear g N f J u o v Z aa;obtain⟨a,z⟩:=x;obtain⟨b,F⟩:=y;obtain⟨l,n⟩:=nZ ((W.alloc (.cells (eP a) 44)).alloc (.cells (eP b) 44));have X:(l:Nat)=(W:Nat)+1+1:=by rw[<-n];simp
 have I:Below W W l:=by rw[<-n];have ar:(W.alloc (.cells (eP a) 44)).heap.size=(W:Nat)+1:=sZ;exact kp
 have s:Below W W (l.alloc (.cells #[v1,v2,c.aI,c.aK,aN,next,vp,vr,k] 150)):=I.alloc oZ _;have T:=yK.new l 150 v1 v2 c.aI c.aK aN next vp vr k
 have G:=qZ (ahk (O.below s) ab L T a b z.1 F.1 _ (ES _));have m:=qZ s;rw[X]at G;show Calls _ _ #[.agg (eP a),.agg (eP b),.pointer j,.pointer d] _ λe w'=>e=.returned (.int .i64 (Ord.cmp c h aN a b))/\aF W w';obtain⟨r,M⟩:=nZ (Ord.cmp c h aN a b);rw[M]at G⊢;obtain⟨aI,K⟩:=nZ c.aI;obtain⟨aK,A⟩:=nZ c.aK;rw[K,A]at G m Q;obtain⟨av,aw,ax,ay,az,a5,a8,a9,ba,bb⟩:=Q;subst n;clear O L z F K A M T s I X;obtain⟨a0,a1,a2,⟨a3,a4,ae⟩,a6,a7,af,ag,ad⟩:=a;obtain⟨ah,b1,b2,⟨b3,aj,ak⟩,al,am,an,ao,ai⟩:=b;simp only[qP,eP]at*;go_enter func82,ntmps82;go_wp2_with fail;refine G.mono ?_;rintro e au⟨rfl,H⟩;have Y:=qZ (aA m H);clear H G m;go_wp2_with fail;go_ret;exact⟨rfl,Y⟩
def gK(p:Ord.P):List Value:=(eP p).toList
theorem pel:Elem gK 11:=⟨λ_=>rfl,λx u a=>by simp only[gK,eP,bA,dS,or_false]at a;rcases a with rfl|rfl|rfl|rfl|rfl|rfl|rfl|rfl|rfl|rfl|rfl<;>rfl⟩
end Srt
variable{F:Nat->Prop}{v:Value}{w':World}
namespace bU
open Go Go.RowKit L bM eZ Srt
def toP(r:Run):Ord.P:=⟨r.id,r.dN,r.eU,r.need,r.run,r.aR,r.prefer,r.seq,r.dD⟩
def eY(r:Run):Top.R:=⟨toP r,r.start,r.flavor,r.aQ⟩
theorem abZ(c:Cfg.C)(l:List (Int×Vec.V)):∀k,k<=l.length->sI c l k=(l.take k).foldl (λu x=>Led.change c u x.1 λa=>Vec.add a x.2) Led.none_
 |0,_=>by simp[sI]
 |k+1,h=>by have b:=abZ c l k oZ;rw[bF oZ,fB,<-b];simp[sI,show k<l.length by omega]
theorem KM(c:Cfg.C)(rl:List Run):Led.all c (sI c (needs rl) rl.length)=Top.used c (rl.map eY):=by unfold Top.used;rw[abZ c (needs rl) rl.length (by simp[needs]),aT (by simp[needs]),needs,List.foldl_map,List.foldl_map];rfl
theorem free_eq(c:Cfg.C)(rl:List Run):Hst.free c.aQ (asks rl)=Top.free c (rl.map eY):=by unfold Top.free asks;rw[List.map_map];rfl
structure avb (x:Run):Prop where
 start:0<=x.start/\x.start<=2199023255552
 run:0<=x.run/\x.run<=1048576
def sW(x:Run):Array Value:=#[.int .i64 x.id,.int .i64 x.dN,.int .i64 x.eU,.int .i64 x.need.x,.int .i64 x.need.y,.int .i64 x.need.z,.int .i64 x.run,.int .i64 x.aR,.int .i64 x.prefer,.int .i64 x.seq,.int .i64 x.dD,.int .i64 x.start,.int .i64 x.flavor,x.hv]
theorem aaH(x:Run):(mR x).toArray=sW x:=rfl
def rM(x:Run):Value:=.agg (sW x)
theorem SI(x:Run)(o:avb x):bW prog 114 #[rM x] (.int .i64 (x.start+x.run)):=λw=>by
 obtain⟨⟨s,s1⟩,⟨r,r1⟩⟩:=o;have u:¬x.start+x.run<x.start:=oZ;have y:¬x.start<x.start+0:=oZ;have z:¬x.run<0:=oZ;obtain⟨a,b,c,⟨d,e,f⟩,g,h,i,j,k,st,l,m,v⟩:=x;simp only[rM,sW]at*;have n:Below w w (w.alloc (.cells #[a,b,c,d,e,f,g,h,i,j,k,st,l,v] 86)):=bZ;by_cases p:0<g
 .go_enter func114,ntmps114;go_wp2;go_ret;exact⟨rfl,n⟩
 .go_enter func114,ntmps114;go_wp2;go_ret;exact⟨rfl,n⟩
theorem SF{B:Nat}{l:List Int}(h:w.ownsRow B 3 1 v l.length (l.map (Value.int .i64)))(b:l.length<=maxLen):ISl w v l:=by
 have e:∀l:List Int,l.map (Value.int .i64)=l.flatMap jL:=by
  intro l;induction l with
  |nil=>rfl
  |cons a t c=>rw[cZ,dL,c];rfl
 rw[e]at h;obtain⟨A,cap,e1,e2⟩:=bQ.sl (dec:=jL) (k:=1) h (λ_=>rfl);exact⟨A,cap,e1,e2,b⟩
theorem vO{l:List Int}(h:ISl w v l)(a:aO F w w')(f:l≠[]->∀b,v.ownBlock=some b->¬F b):ISl w' v l:=by obtain⟨A,cap,rfl,m,k⟩:=h;refine⟨A,cap,rfl,λd=>?_,k⟩;obtain⟨g,o,rfl,c,e⟩:=m d;exact⟨g,o,rfl,aM c a.size,λi x r j u n=>(a.cell (p:=⟨g,o+i*1+j,none⟩) c (f d g rfl)).trans (e i x r j u n)⟩
theorem aak{l:List Int}(h:ISl w v l)(p:l.length<=1000000):∀w1,Below w w w1->Calls prog 144 #[v] w1 λe w'=>∃v',e=.returned v'/\ISl w' v' l/\(l≠[]->∀b,v'.ownBlock=some b->w1.heap.size<=b)/\Below w1 w1 w':=λw1 d=>by
 obtain⟨A,cap,rfl,m,g⟩:=h.below d;cases A with
 |none=>
  have:l=[]:=by
   rcases l with _|⟨x,l⟩
   .rfl
   .obtain⟨b,o,e,_⟩:=m sZ;cases e
  subst this;refine(Tryz.slices_Clone_int_nil _ _ _).mono ?_;rintro e w'⟨rfl,rfl⟩;exact⟨_,rfl,⟨none,0,rfl,λh=>absurd rfl h,g⟩,λh=>absurd rfl h,aJ _ _⟩
 |some a=>
  by_cases k:l=[]
  .subst k;refine(Tryz.slices_Clone_int_zero _ _ _).mono ?_;rintro e w'⟨v',rfl,c,_,f⟩;exact⟨v',rfl,SF (l:=[]) c g,λh=>absurd rfl h,f⟩
  .obtain⟨b,o,e,r,n⟩:=m k;cases e;refine(Tryz.slices_Clone_int b o l.length cap l w1 lZ oZ λj i=>?_).mono ?_
   .have:=n j _ (aH i) 0 _ rfl;rw[gY,Nat.add_zero]at this;simpa[i]using this
   .rintro e w'⟨v',rfl,c,_,f⟩;rw[aT lZ]at c;exact⟨v',rfl,SF c g,λ_ b d=>(World.ownsRow.lt c b d).1,f⟩
end bU
variable{rl:List bM.Run}{B':Nat}{W:World}
namespace bU
open Go Go.RowKit L bM eZ Srt
theorem YQ:(prog.info? 86).map (λi=>(i.zero,i.size,i.bytes))=some (some (.agg #[(),(),(),(),(),(),(),(),(),(),(),(),(),true]),14,128):=by kernel_rfl
def Far(v:Value)(x:Run):Prop:=x.aQ≠[]->∀b,v.ownBlock=some b->x.hv.ownBlock≠some b
def kU(w:World)(B:Nat)(v:Value)(rl:List Run):Prop:=bQ w B 86 14 mR v rl/\∀x∈rl,ISl w x.hv x.aQ/\Far v x
theorem kU.nil(w:World)(B:Nat):kU w B (.slice none 0 0) []:=⟨bQ.nil _ _ _ _ _,λx h=>by cases h⟩
theorem kU.below{B:Nat}(h:kU w B v rl)(a:Below w w w'):kU w' B v rl:=⟨h.1.below a,λx b=>⟨(h.2 x b).1.below a,(h.2 x b).2⟩⟩
theorem kU.low{B:Nat}(h:kU w B v rl)(a:B'<=B):kU w B' v rl:=⟨h.1.low a,h.2⟩
theorem kU.runs{B:Nat}(h:kU w B v rl)(c:rl.length<=1000000):Runs w v rl:=by obtain⟨A,cap,e,a⟩:=h.1.sl (λ_=>rfl);exact⟨A,cap,e,a,by unfold maxLen;omega,λx b=>(h.2 x b).1⟩
theorem KW{l:List Int}(h:ISl w v l):v.oneCell'=true:=by obtain⟨A,cap,rfl,_⟩:=h;rfl
theorem DK{l:List Int}(h:ISl w v l)(c:l≠[]):∃b,v.ownBlock=some b/\b<(w:Nat):=by obtain⟨A,cap,rfl,d,f⟩:=h;obtain⟨g,o,rfl,a,e⟩:=d c;exact⟨g,rfl,a⟩
theorem MQ{l:List Int}{b:Option Nat}(h:ISl w v l)(c:w.grownBy w' b)(k:l≠[]->∀g,b=some g->v.ownBlock≠some g):ISl w' v l:=by obtain⟨A,cap,rfl,r,p⟩:=h;refine⟨A,cap,rfl,λf=>?_,p⟩;obtain⟨g,o,rfl,d,n⟩:=r f;have m:w'.heap[g]? =w.heap[g]? :=c.block g d (λe=>k f g e.symm rfl);refine⟨g,o,rfl,aM d c.size,λi x y j u s=>?_⟩;rw[World.cell?_of_block (w:=w) (w':=w') (a:=⟨g,o+i*1+j,none⟩) m];exact n i x y j u s
theorem aei{B:Nat}(h:kU w B v rl)(l:Below w w W)(X:B<=(w:Nat)){x:Run}(A:ISl W x.hv x.aQ)(J:x.aQ≠[]->∀b,x.hv.ownBlock=some b->(w:Nat)<=b)(Y:rl.length<=1000000):∃v' e,(Builtin.append_ #[28,28] 28 #[v,.slice W 1 1]).run prog (W.alloc (.cells (mR x).toArray 86))=.ok v' e/\kU e B v' (rl++[x])/\Below B W e/\(W:Nat)<=(e:Nat):=by
 obtain⟨i0,hi,N,O,Q⟩:=info_parts YQ;have p:Below W W (W.alloc (.cells (mR x).toArray 86)):=bZ;have i:=(h.below l).below p;have M:=rU (k:=14) (dec:=mR) (x:=x) (Blk.new W 86 (mR x).toArray) rfl;obtain⟨v',e,e1,e2,e3,e4,H⟩:=mP 28 28 i0 _ 128 underlying28 hi N O Q rfl oZ (λ_=>rfl) (ys:=[x]) (m:=1) (c:=1)
  (λu z=>by simp only[dL,kV,fC,mR,bA,dS,or_false]at z;rcases z with rfl|rfl|rfl|rfl|rfl|rfl|rfl|rfl|rfl|rfl|rfl|rfl|rfl|rfl<;>first|rfl|exact KW A) i.1 rfl M (by have:=l.size;simp;omega) (by unfold maxLen;omega) oZ
 have o:=h.1.lt;refine⟨v',e,e1,⟨e2,λy d=>?_⟩,?_,?_⟩
 .have T:∀b,v'.ownBlock=some b->v.ownBlock=some b\/(W:Nat)+1<=b:=λb j=>by have:=H b j;simpa using this
  have old:∀y,ISl (W.alloc (.cells (mR x).toArray 86)) y.hv y.aQ->Far v y->Far v' y:=λy d K a b j f=>by
   rcases T b j with i|i
   .exact K a b i f
   .obtain⟨c,I,o⟩:=DK d a;rw[I]at f;injection f with f;simp at o;omega
  rcases bY.1 d with d|d
  .have n:=i.2 y d;exact⟨MQ n.1 e3 λa g r=>n.2 a g r,old y n.1 n.2⟩
  .have:y=x:=by simpa using d
   subst this;have F:=A.below p;have s:Far v y:=λa b j f=>by have:=J a b f;have:=(o b j).2;omega
   exact⟨MQ F e3 λa g r=>s a g r,old y F s⟩
 .exact Below.grown (Below.mono p (by have:=l.size;omega)) e3 (by simp;have:=l.size;omega) λk L=>(o k L).1
 .have:=e3.size;simp at this;omega
def akE(rs:List Top.R)(w1:World)(e:Ending)(w':World):Prop:=∃v' rl',e=.returned v'/\kU w' (w1:Nat) v' rl'/\rl'.map eY=rs/\Below w1 w1 w'
def wI(f:Vec.V):Prop:=f.x<=4398046511104/\f.y<=4398046511104/\f.z<=4398046511104
theorem aoY(f k:Vec.V)(W:wI f):bW prog 184 #[f.val,k.val] (.int .i64 (Top.room f k)):=by
 have g:=jN.aqY k f;obtain⟨ah,ai,aj⟩:=W;have L:Vec.dR k f=true->k.x<=f.x/\k.y<=f.y/\k.z<=f.z:=by simp[Vec.dR]
 unfold Top.room;generalize Vec.dR k f=s at*;obtain⟨b,d,l⟩:=f;obtain⟨a,c,i⟩:=k;simp only[Vec.V.val]at*;intro w;have M:Blk (w.alloc (.cells #[b,d,l] 40)) (w:Nat) 40 #[b,d,l]:=Blk.new _ _ _;have N:=qZ (M.alloc (.cells #[a,c,i] 40));have O:=qZ (Blk.new (w.alloc (.cells #[b,d,l] 40)) 40 #[a,c,i]);have K:Below w w ((w.alloc (.cells #[b,d,l] 40)).alloc (.cells #[a,c,i] 40)):=kp;have I:=qZ K;have Q:=qZ L;clear M K L;go_enter func184,ntmps184;go_wp2_with fail;refine(g _).mono ?_;rintro e v⟨rfl,F⟩;have J:=qZ (aA I F);have H:=Blk.below N.out F (by simp;omega);have A:=Blk.below O.out F sZ;simp only[bC]at A;have a0:CI v w 0 b:=H.cell 0;have a1:CI v w 1 d:=H.cell 1;have a2:CI v w 2 l:=H.cell 2;have Z:CI v ((w:Nat)+1) 0 a:=A.cell 0;have b1:CI v ((w:Nat)+1) 1 c:=A.cell 1;have b2:CI v ((w:Nat)+1) 2 i:=A.cell 2;clear H A F g N O I;cases s
 .go_wp2_with fail;go_ret;exact⟨rfl,J⟩
 .obtain⟨af,ag,l2⟩:=Q.out rfl;go_wp2_with fail;obtain⟨i0,ad,ae⟩:=jN.idx a c i;go_loopg[5,12] 3 (λT Y X wr=>∃j:Nat,X=.int .i64 j/\j<=3/\3<=T+j/\Y=.int .i64 (if j=0 then 16 else if j=1 then lI 16 b a else if j=2 then lI (lI 16 b a) d c else lI (lI (lI 16 b a) d c) l i)/\wr=v);case atStart=>exact⟨0,mZ,oZ,oZ,rfl,rfl⟩
  case round=>
   obtain⟨j,rfl,ab,aa,rfl,rfl⟩:=hrel;rcases(by omega:j=0\/j=1\/j=2\/j=3)with rfl|rfl|rfl|rfl
   .by_cases n:0<a
    .have z:IntKind.i64.wrap (b.tdiv a)=b/a:=Go.IntWalk.i64_quo b a ⟨oZ,oZ,oZ⟩;obtain⟨q,o⟩:=nZ (b/a);rw[o]at z;have p:=qY (min (16:Int) q=lI 16 b a) (by unfold lI;rw[aG n,o]);generalize lI 16 b a=r at*;go_wp2_with fail;go_roundg 2;case measure=>omega
     case rel=>exact⟨1,mZ,oZ,oZ,dA _ p.out,rfl⟩
    .have x:=qY (lI 16 b a=16) (by unfold lI;rw[aD n]);go_wp2_with fail;go_roundg 2;case measure=>omega
     case rel=>exact⟨1,mZ,oZ,oZ,dA _ x.out.symm,rfl⟩
   .simp only[Nat.one_ne_zero,if_false,if_true];obtain⟨n1,u⟩:=nZ (lI 16 b a);rw[u];by_cases n:0<c
    .have z:IntKind.i64.wrap (d.tdiv c)=d/c:=Go.IntWalk.i64_quo d c ⟨oZ,oZ,oZ⟩;obtain⟨q,o⟩:=nZ (d/c);rw[o]at z;have p:=qY (min n1 q=lI n1 d c) (by unfold lI;rw[aG n,o]);obtain⟨r,m⟩:=nZ (lI n1 d c);rw[m]at p;have y:=qZ m;clear m;go_wp2_with fail;go_roundg 1;case measure=>omega
     case rel=>exact⟨2,mZ,oZ,oZ,by rw[u,y.out];exact dA _ p.out,rfl⟩
    .have x:=qY (lI n1 d c=n1) (by unfold lI;rw[aD n]);go_wp2_with fail;go_roundg 1;case measure=>omega
     case rel=>exact⟨2,mZ,oZ,oZ,by rw[u,x.out];rfl,rfl⟩
   .simp only[show¬(2:Nat)=0 by omega,show¬(2:Nat)=1 by omega,if_false,if_true];obtain⟨n1,u⟩:=nZ (lI (lI 16 b a) d c);rw[u];by_cases n:0<i
    .have z:IntKind.i64.wrap (l.tdiv i)=l/i:=Go.IntWalk.i64_quo l i ⟨oZ,oZ,oZ⟩;obtain⟨q,o⟩:=nZ (l/i);rw[o]at z;have p:=qY (min n1 q=lI n1 l i) (by unfold lI;rw[aG n,o]);obtain⟨r,m⟩:=nZ (lI n1 l i);rw[m]at p;have y:=qZ m;clear m;go_wp2_with fail;go_roundg 0;case measure=>omega
     case rel=>exact⟨3,mZ,oZ,oZ,by rw[u,y.out];exact dA _ p.out,rfl⟩
    .have x:=qY (lI n1 l i=n1) (by unfold lI;rw[aD n]);go_wp2_with fail;go_roundg 0;case measure=>omega
     case rel=>exact⟨3,mZ,oZ,oZ,by rw[u,x.out];rfl,rfl⟩
   .simp only[show¬(3:Nat)=0 by omega,show¬(3:Nat)=1 by omega,show¬(3:Nat)=2 by omega,if_false,if_true];obtain⟨r,m⟩:=nZ (lI (lI (lI 16 b a) d c) l i);have y:=qZ m;rw[m];clear m;go_wp2_with fail;go_ret;exact⟨by rw[<-y.out];rfl,J⟩
theorem aaF(x y:Int):nA x y<=1099511627776:=by unfold nA Vec.cut;omega
theorem aoH(a b:Vec.V):wI (Vec.sub a b):=by have c:=aaF a.x b.x;have d:=aaF a.y b.y;have e:=aaF a.z b.z;unfold wI Vec.sub;simp only;omega
theorem apC(need:Vec.V)(out:List Vec.V)(h:Int)(b:∀f∈out,wI f):∀f∈Hst.one Vec.sub need out h,wI f:=by
 intro f a;unfold Hst.one at a;split at a
 .rcases List.mem_or_eq_of_mem_set a with h|rfl
  .exact b f h
  .exact aoH _ _
 .exact b f a
theorem acA(need:Vec.V):∀(l:List Int) (out:List Vec.V),(∀f∈out,wI f)->∀f∈Hst.dW Vec.sub need l out,wI f
 |[],out,a=>a
 |h::l,out,a=>acA need l _ (apC need out h a)
theorem anb(a:List gW)(b:∀h∈a,wI h.cap):∀rs:List (Vec.V×List Int),∀f∈Hst.free a rs,wI f:=by
 have g:∀(rs:List (Vec.V×List Int)) (o:List Vec.V),(∀f∈o,wI f)->∀f∈rs.foldl (λo r=>Hst.dW Vec.sub r.1 r.2 o) o,wI f:=by
  intro rs;induction rs with
  |nil=>intro o h;exact h
  |cons r rs e=>intro o h;exact e _ (acA r.1 r.2 o h)
 intro rs;refine g rs _ (λf c=>?_);obtain⟨h,d,rfl⟩:=bL.1 c;exact b h d
def tX(h:Int)(m n:Nat):Array Value:=(List.replicate m (Value.int .i64 h)++List.replicate (n-m) (Value.int .i64 0)).toArray
theorem amk(h:Int){m n k:Nat}(a:m+k<=n):((tX h m n).toList.take m++List.replicate k (Value.int .i64 h)++(tX h m n).toList.drop (m+k)).toArray=tX h (m+k) n:=by unfold tX;congr 1;simp only;rw[jD sZ,List.take_replicate,Nat.min_self,List.drop_append];simp only[jZ,List.drop_replicate];rw[show m-(m+k)=0 by omega,show m+k-m=k by omega,<-List.replicate_append_replicate,show n-m-k=n-(m+k) by omega];simp
section
variable {P:Program}
theorem pR{t E:TypeId}{i:TypeInfo}(c:P.underlying t=some (.slice E))(hi:P.info? E=some i)(d:i.size=1)(g m n:Nat)(b:m<=n)(W:World):(Instr.slice t (.slice g n n) none (some (.int .i64 m)) none).run P W=.ok (.slice g m n) W:=by
 have a:Addr.add ⟨g,0,none⟩ 0=⟨g,0,none⟩:=by rw[Addr.add_lit]
 simp[Instr.slice,run_underlying c,Instr.sliceBounds,Instr.sliceBound,asIntOf,sizeOf,typeInfo,hi,b,a]
theorem pU{t E:TypeId}{i:TypeInfo}(c:P.underlying t=some (.slice E))(hi:P.info? E=some i)(b:i.size=1)(g m n:Nat)(a:m<n)(W:World):(Instr.slice t (.slice g n n) (some (.int .i64 m)) none none).run P W=.ok (.slice (some ⟨g,m,none⟩) (n-m) (n-m)) W:=by simp[Instr.slice,run_underlying c,Instr.sliceBounds,Instr.sliceBound,asIntOf,sizeOf,typeInfo,hi,Nat.le_of_lt a,Nat.ne_of_gt a,Nat.ne_of_lt a,b,Addr.add_lit]
end
theorem agC{P:Program}{o:Oper}{a:Act}{w w':World}{s x:Operand}{t b:TypeId}(c:o.op=.call {callee:=.builtin .copy,args:=#[s,x],argTypes:=#[t,b]}){vs vx v':Value}(e:a.eval s=vs)(f:a.eval x=vx)(d:(Builtin.copy_ #[t,b] o.type #[vs,vx]).run P w=.ok v' w'):(execOp a.eval o).run P w=.ok (.value v') w':=by unfold execOp;simp only[c,resolve,invoke,builtin,Sem.run_bind,Sem.run_pure,Result.andThen_ok,jW,cZ,gM,e,f,d]
def axO(l:List Int)(w1:World)(e:Ending)(w':World):Prop:=∃v',e=.returned v'/\bQ w' w1 3 1 jL v' l/\Below w1 w1 w'
theorem below_setRow{w W:World}{B g:Nat}{c a:Array Value}{E:TypeId}(h:Below B w W)(d:B<=g):Below B w (W.setRow g a):=by
 refine⟨h.os,h.tape,h.output,by simpa[World.setRow]using h.size,λk b=>?_⟩;rw[<-h.block k b];have:g≠k:=by omega
 simp[World.setRow,Array.getElem?_modify,this]
theorem aku{W:World}{g:Nat}{c a:Array Value}{E:TypeId}(h:Blk W g E c):Blk (W.setRow g a) g E a:=by unfold Blk at*;exact setRow_heap W g c a E _ h
theorem copy_part{W:World}{g m n k b o:Nat}{h:Int}{c cd:Nat}(d:Blk W g 3 (tX h m n))(r:m+k<=n)(sl:Nat)(p:k=Nat.min sl (n-m))(s:∀j,j<k->W.cell? ⟨b,o+j,none⟩=some (.int .i64 h))(ty:TypeId):∃w',(Builtin.copy_ #[36,36] ty #[.slice (some ⟨g,m,none⟩) (n-m) cd,.slice (some ⟨b,o,none⟩) sl c]).run prog W=.ok (.int .i64 (k:Int)) w'/\Blk w' g 3 (tX h (m+k) n)/\∀B w,Below B w W->B<=g->Below B w w':=by obtain⟨i0,hi,x,u,y⟩:=info_parts zU;have a:=run_copy_row prog W 36 36 ty 3 g m (n-m) cd ⟨b,o,none⟩ sl c (tX h m n) 3 (List.replicate k (Value.int .i64 h)) underlying36 (by rw[hi];simp[u]) d (by simp[p]) (λj v hv=>by obtain⟨f,e⟩:=bE.1 hv;simp at f e;rw[Addr.add_lit,s j f,e]) (by simp[tX];omega) (by simp;intro _;rfl);simp only[jZ]at a;rw[amk h r]at a;exact⟨_,a,aku d,λB w i l=>below_setRow (c:=tX h m n) (E:=0) i l⟩
theorem aeG{w:World}{g B n:Nat}{h:Int}(c:Blk w g 3 (tX h n n))(b:B<=g)(f:n<=1000000):bQ w B 3 1 jL (.slice g n n) (List.replicate n h):=by
 have e:(List.replicate n h).flatMap jL=List.replicate n (Value.int .i64 h):=by
  have:∀l:List Int,l.flatMap jL=l.map (Value.int .i64):=by
   intro l;induction l with
   |nil=>rfl
   |cons a t d=>rw[dL,cZ,d];rfl
  rw[this,List.map_replicate]
 unfold bQ;rw[e];refine⟨sZ,.inr ⟨g,n,_,sZ,b,c,sZ,by unfold maxLen;omega,by simp[tX],by simp[tX]⟩⟩
theorem aiR(h:Int)(n b:Nat)(bc:n<=1000)(w:World)(aj:b<(w:Nat))(ak:w.cell? (b,0)=some (.int .i64 h)):Calls prog 185 #[.slice b 1 1,n] w λe w'=>axO (List.replicate n h) w e w':=by
 obtain⟨i0,hi,bl,z,bm⟩:=info_parts zU;obtain⟨l,bb,T,I,a9⟩:=amx w n oZ;have M:Blk l w 3 (tX h 0 n):=by
  rcases T.2 with⟨e,_⟩|⟨g,cap,cur,e,az,am,bg,ay,bi,X⟩
  .cases e
  .simp[yI]at e;obtain⟨rfl,rfl⟩:=e;unfold Blk;rw[am];congr 2;have al:cur.size=n:=oZ;apply Array.toList_inj.1;rw[<-aT (show cur.toList.length<=n by simp[al])];simp[yI]at X;rw[X];simp[tX]
 have r:=qZ M;have f:=qZ I;have O:Hid (∀x y:Nat,x=1->y=n->(x*y/18446744073709551616:Nat)=0/\(x*y%18446744073709551616:Nat)=n):=qZ (by rintro x y rfl rfl;omega);have af:=qZ (λW=>(Tryz.bits_Mul 1 n oZ oZ W).mono (R':=λe w'=>e=.returned (.tuple #[.int .u64 0,.int .u64 n])/\w'=W) λe w' N=>by obtain⟨ag,ah⟩:=O.out 1 n rfl rfl;rw[ag,ah]at N;exact N);have bh:¬((n:Int)<0):=oZ;have bd:((n:Int)%18446744073709551616)=n:=oZ;have be:IntKind.u64.wrap (n:Int)=n:=by rw[IntKind.wrap_u64];omega
 have bf:IntKind.i64.wrap (n:Int)=n:=by rw[IntKind.wrap_i64];omega
 have ax:¬((9223372036854775807:Int)<(n:Int)):=oZ;clear O M I T;go_enter func185,ntmps185;go_wp2_with fail;refine(af.out _).mono ?_;rintro e a⟨rfl,rfl⟩;by_cases i:n=0
 .have d:∀ty,(Builtin.copy_ #[36,36] ty #[.slice a n n,.slice b 1 1]).run prog l=.ok (.int .i64 0) l:=λty=>by subst i;exact run_copy_none l _ _ ty 3 _ _ 0 0 1 1 underlying36 (by rw[hi];simp[z]) rfl
  have bk:¬((0:Int)<(n:Int)):=oZ;have Y:=qZ i;clear i;go_wp2_with fail;refine wp_loop_rounds 1 ?_;rw[rounds_succ];go_wp2_with fail;go_ret;refine⟨_,rfl,?_,f⟩;have L:=r.out;rw[show tX h 0 n=tX h n n by rw[Y.out]]at L;exact aeG L lZ oZ
 .obtain⟨bn,d,J,F⟩:=copy_part (b:=b) (o:=0) (c:=1) (cd:=n) (k:=1) r oZ 1 (by show(1:Nat)=min 1 (n-0);omega) (λj an=>by
   obtain rfl:j=0:=by omega
   exact(f.cell (p:=⟨b,0,none⟩) aj).trans ak) 3
  rw[Nat.sub_zero]at d;have Z:=qZ (F _ _ f lZ);have ab:=qZ J;have a8:n≠0:=i;clear F J r f;go_wp2_with fail;clear d;go_loopg[8] n (λae aw wr=>∃m:Nat,aw=.int .i64 m/\1<=m/\m<=n/\n<=ae+m/\Hid (Blk wr a 3 (tX h m n))/\Hid (Below a a wr));case atStart=>exact⟨1,mZ,oZ,oZ,oZ,ab,Z⟩
  case round=>
   obtain⟨m,rfl,ba,ar,a0,u,A⟩:=hrel;by_cases ap:m<n
   .obtain⟨k,Q⟩:=nZ (min m (n-m));have a5:1<=k:=oZ;have ao:m+k<=n:=oZ;have au:=pR (P:=prog) underlying36 hi z (a:Nat) m n ar;have av:=pU (P:=prog) underlying36 hi z (a:Nat) m n ap;obtain⟨bo,d,K,H⟩:=copy_part (W:=wr.drew) (b:=(a:Nat)) (o:=0) (c:=n) (cd:=n-m) (k:=k) u.drew ao m Q.symm (λj an=>by rw[aU,u.out.drew.cell j];simp[tX,List.getElem?_append,show j<m by omega]) 3;have aa:=qZ (H _ _ A.drew lZ);have ad:=qZ K;have aq:(m:Int)<(n:Int):=oZ;have bj:IntKind.i64.wrap ((m:Int)+(k:Int))=((m+k:Nat):Int):=by rw[IntKind.wrap_i64];omega
    clear H K Q;go_wp2_with fail;refine lU (λ_=>True) (.take 0 (.take 1 (.take 2 (.take 3 (.take 4 (.take 5 (.take 6 (.one 7 (.take 8 (.take 9 .done)))))))))) kZ kZ trivial ?_;(iterate 3 refine tT ?_);apply nN (v:=.slice (some ⟨(a:Nat),m,none⟩) (n-m) (n-m));(focus rfl);(focus rfl);(focus(intro W ai;exact nD (E:=3) (s:=.tmp 39) (lo:=some (.tmp 40)) (hi:=none) underlying36 rfl rfl (av W)));(focus(go_simp;first|done|rfl));(iterate 2 refine tT ?_);apply nN (v:=.slice a m n);(focus rfl);(focus rfl);(focus(intro W ai;exact nD (E:=3) (s:=.tmp 42) (lo:=none) (hi:=some (.tmp 43)) underlying36 rfl rfl (au W)));(focus(go_simp;first|done|rfl));refine eT ?_;apply lK;(focus rfl);(focus rfl);(focus exact agC (s:=.tmp 41) (x:=.tmp 44) rfl rfl rfl d);(focus trivial);(focus(go_simp;first|done|rfl));(iterate 2 refine tT ?_);refine fZ ?_;go_wp2_with fail;go_roundg(n-(m+k));case measure=>omega
    case rel=>exact⟨m+k,dA _ oZ,oZ,oZ,oZ,ad,aa⟩
   .have aq:¬(m:Int)<(n:Int):=oZ;obtain rfl:m=n:=by omega
    go_wp2_with fail;go_ret;exact⟨_,rfl,aeG u lZ oZ,A⟩
open Go Go.RowKit L bM eZ Srt
theorem aph(x:Run)(hi:ISl w x.hv x.aQ)(N:x.aQ.length<=1000000):∀w1,Below w w w1->Calls prog 174 #[rM x] w1 λe w'=>∃v',e=.returned (rM {x with hv:=v'})/\ISl w' v' x.aQ/\(x.aQ≠[]->∀b,v'.ownBlock=some b->w1.heap.size<=b)/\Below w1 w1 w':=by
 intro w1 J;obtain⟨a,b,c,⟨d,e,f⟩,g,h,i,j,k,st,l,aQ,v⟩:=x;simp only[rM,sW]at*;obtain⟨s,p⟩:=nZ ((w1.alloc (.cells #[a,b,c,d,e,f,g,h,i,j,k,st,l,v] 86)).alloc (.cells #[(),(),(),(),(),(),(),(),(),(),(),(),(),true] 86));have ag:(s:Nat)=(w1:Nat)+1+1:=by rw[<-p];simp
 have H:Below w1 w1 s:=by rw[<-p];have af:(w1.alloc (.cells #[a,b,c,d,e,f,g,h,i,j,k,st,l,v] 86)).heap.size=(w1:Nat)+1:=sZ;exact kp
 have x0:Blk s w1 86 #[a,b,c,d,e,f,g,h,i,j,k,st,l,v]:=by rw[<-p];exact Blk.alloc (Blk.new _ _ _) _
 have O:Blk s ((w1:Nat)+1) 86 #[(),(),(),(),(),(),(),(),(),(),(),(),(),true]:=by rw[<-p];have h:=Blk.new (w1.alloc (.cells #[a,b,c,d,e,f,g,h,i,j,k,st,l,v] 86)) 86 #[(),(),(),(),(),(),(),(),(),(),(),(),(),true];simp only[bC]at h;exact h
 have G:=qZ (aak hi N s (aA J H));have T:=qZ H;have Z:=qZ p;have u:=qZ (aC x0 O);have aa:=qZ ag;have ah:=x0.cell 13;simp at ah;clear hi N J H p x0 O;go_enter func174,ntmps174;go_wp2_with fail;refine Eq.mp (dA (λz=>Calls prog _ _ z _) Z.out.symm) ?_;refine G.mono ?_;rintro e o⟨v',rfl,M,L,r⟩;have X:=qZ L;clear L;have y:=Blk.below u.1 r (Blk.lt u.1);have m:=Blk.below u.2 r (Blk.lt u.2);have W:=qZ (aA T r);have Y:=qZ M;have ab:=qZ (Below.size r);obtain⟨aj,c1,c2,c3,c4,c5,c6,c7,c8,c9,c10,c11,c12,c13⟩:=y.c14;have an:=y.frozen 13;have ai:=qZ (aC y m);obtain⟨Q,ad,rfl,_,_⟩:=M;have ak:=m.lt;have ae:CI o ((w1:Nat)+1) 0 0/\CI o ((w1:Nat)+1) 1 0/\CI o ((w1:Nat)+1) 2 0/\CI o ((w1:Nat)+1) 3 0/\CI o ((w1:Nat)+1) 4 0/\CI o ((w1:Nat)+1) 5 0/\CI o ((w1:Nat)+1) 6 0/\CI o ((w1:Nat)+1) 7 0/\CI o ((w1:Nat)+1) 8 0/\CI o ((w1:Nat)+1) 9 0/\CI o ((w1:Nat)+1) 10 0/\CI o ((w1:Nat)+1) 11 0/\CI o ((w1:Nat)+1) 12 0/\CV o ((w1:Nat)+1) 13 (.slice none 0 0):=
  ⟨m.cell 0,m.cell 1,m.cell 2,m.cell 3,m.cell 4,m.cell 5,m.cell 6,m.cell 7,m.cell 8,m.cell 9,m.cell 10,m.cell 11,m.cell 12,m.cell 13⟩
 have al:∀n,o.frozen? ⟨(w1:Nat)+1,n,none⟩=false:=λn=>m.frozen n;clear y m r G;go_wp2_with fail;have K:=X.out;have af:=aa.out;have am:=ab.out;refine bodyPost_ret (v:=.agg #[a,b,c,d,e,f,g,h,i,j,k,st,l,.slice Q aQ.length ad]) (by simp[results,Tryz.results174,go_sem,ae]) rfl ?_;refine⟨_,rfl,vO (F:=λi=>i=(w1:Nat)\/i=(w1:Nat)+1) Y ?_ (λI b A=>?_),λI b A=>?_,?_⟩
 ·(repeat refine aO.setCell ?_ sZ _);exact aO.refl _ _
 .have:=K I b A;omega
 .have:=K I b A;omega
 .have:=W.out;(repeat refine Below.setCell ?_ sZ _);exact this
theorem adG(x:Run)(hi:ISl w x.hv x.aQ)(N:x.aQ.length<=1000000):∀w1,Below w w w1->Calls prog 132 #[rM x] w1 λe w'=>∃v',e=.returned (rM {x with hv:=v'})/\ISl w' v' x.aQ/\(x.aQ≠[]->∀b,v'.ownBlock=some b->w1.heap.size<=b)/\Below w1 w1 w':=by
 intro w1 J;obtain⟨a,b,c,⟨d,e,f⟩,g,h,i,j,k,st,l,aQ,v⟩:=x;simp only[rM,sW]at*;obtain⟨s,p⟩:=nZ ((w1.alloc (.cells #[a,b,c,d,e,f,g,h,i,j,k,st,l,v] 86)).alloc (.cells #[(),(),(),(),(),(),(),(),(),(),(),(),(),true] 86));have ag:(s:Nat)=(w1:Nat)+1+1:=by rw[<-p];simp
 have H:Below w1 w1 s:=by rw[<-p];have af:(w1.alloc (.cells #[a,b,c,d,e,f,g,h,i,j,k,st,l,v] 86)).heap.size=(w1:Nat)+1:=sZ;exact kp
 have x0:Blk s w1 86 #[a,b,c,d,e,f,g,h,i,j,k,st,l,v]:=by rw[<-p];exact Blk.alloc (Blk.new _ _ _) _
 have O:Blk s ((w1:Nat)+1) 86 #[(),(),(),(),(),(),(),(),(),(),(),(),(),true]:=by rw[<-p];have h:=Blk.new (w1.alloc (.cells #[a,b,c,d,e,f,g,h,i,j,k,st,l,v] 86)) 86 #[(),(),(),(),(),(),(),(),(),(),(),(),(),true];simp only[bC]at h;exact h
 have G:=qZ (aak hi N s (aA J H));have T:=qZ H;have Z:=qZ p;have u:=qZ (aC x0 O);have aa:=qZ ag;have ah:=x0.cell 13;simp at ah;clear hi N J H p x0 O;go_enter func132,ntmps132;go_wp2_with fail;refine Eq.mp (dA (λz=>Calls prog _ _ z _) Z.out.symm) ?_;refine G.mono ?_;rintro e o⟨v',rfl,M,L,r⟩;have X:=qZ L;clear L;have y:=Blk.below u.1 r (Blk.lt u.1);have m:=Blk.below u.2 r (Blk.lt u.2);have W:=qZ (aA T r);have Y:=qZ M;have ab:=qZ (Below.size r);obtain⟨aj,c1,c2,c3,c4,c5,c6,c7,c8,c9,c10,c11,c12,c13⟩:=y.c14;have an:=y.frozen 13;have ai:=qZ (aC y m);obtain⟨Q,ad,rfl,_,_⟩:=M;have ak:=m.lt;have ae:CI o ((w1:Nat)+1) 0 0/\CI o ((w1:Nat)+1) 1 0/\CI o ((w1:Nat)+1) 2 0/\CI o ((w1:Nat)+1) 3 0/\CI o ((w1:Nat)+1) 4 0/\CI o ((w1:Nat)+1) 5 0/\CI o ((w1:Nat)+1) 6 0/\CI o ((w1:Nat)+1) 7 0/\CI o ((w1:Nat)+1) 8 0/\CI o ((w1:Nat)+1) 9 0/\CI o ((w1:Nat)+1) 10 0/\CI o ((w1:Nat)+1) 11 0/\CI o ((w1:Nat)+1) 12 0/\CV o ((w1:Nat)+1) 13 (.slice none 0 0):=
  ⟨m.cell 0,m.cell 1,m.cell 2,m.cell 3,m.cell 4,m.cell 5,m.cell 6,m.cell 7,m.cell 8,m.cell 9,m.cell 10,m.cell 11,m.cell 12,m.cell 13⟩
 have al:∀n,o.frozen? ⟨(w1:Nat)+1,n,none⟩=false:=λn=>m.frozen n;clear y m r G;go_wp2_with fail;have K:=X.out;have af:=aa.out;have am:=ab.out;refine bodyPost_ret (v:=.agg #[a,b,c,d,e,f,g,h,i,j,k,st,l,.slice Q aQ.length ad]) (by simp[results,Tryz.results132,go_sem,ae]) rfl ?_;refine⟨_,rfl,vO (F:=λi=>i=(w1:Nat)\/i=(w1:Nat)+1) Y ?_ (λI b A=>?_),λI b A=>?_,?_⟩
 ·(repeat refine aO.setCell ?_ sZ _);exact aO.refl _ _
 .have:=K I b A;omega
 .have:=K I b A;omega
 .have:=W.out;(repeat refine Below.setCell ?_ sZ _);exact this
end bU
variable{k:Nat}
namespace bU
open Go Go.RowKit L bM eZ Srt
structure Many (rl:List Run):Prop where
 len:rl.length<=1000
 num:∀x∈rl,avb x
 aQ:∀x∈rl,x.aQ.length<=1000000
theorem asZ(rl:List Run)(t:Int)(h:k<rl.length):Top.dD ((rl.take (k+1)).map eY) t=if t<rl[k].start+rl[k].run then Top.dD ((rl.take k).map eY) t++[eY rl[k]]else Top.dD ((rl.take k).map eY) t:=by
 unfold Top.dD;rw[bF h,dO,fO];have e:jC (eY rl[k])=rl[k].start+rl[k].run:=rfl;by_cases a:t<rl[k].start+rl[k].run
 .rw[aG a];simp[e,a]
 .rw[aD a];simp[e,a]
def NZ(B:Nat)(rl:List Run):Prop:=∀y∈rl,y.aQ≠[]->∀b,y.hv.ownBlock=some b->B<=b
def SQ(rs:List Top.R)(w1:World)(e:Ending)(w':World):Prop:=∃v' rl',e=.returned v'/\kU w' (w1:Nat) v' rl'/\rl'.map eY=rs/\Below w1 w1 w'/\NZ (w1:Nat) rl'
theorem afS(h:Runs w v rl)(au:Many rl)(t:Int):∀w1,Below w w w1->Calls prog 115 #[v,t] w1 λe w'=>SQ (Top.dD (rl.map eY) t) w1 e w':=by
 intro w1 bk;obtain⟨R,cl,rfl,bs,b8,bq⟩:=h.below bk;have b0:=qZ bs;have bw:=qZ bq;have bf:=qZ au;obtain⟨K,am⟩:=nZ rl.length;have be:=qZ am;have b6:=au.len;rw[am]at b6⊢;clear h au bk bs b8 bq am;go_enter func115,ntmps115;go_wp2_with fail;go_loopg[5,10] K (λb4 ch v10 wr=>∃(k:Nat) (m:List Run),v10=.int .i64 k/\k<=K/\K<=b4+k/\Hid (kU wr (w1:Nat) ch m/\m.map eY=Top.dD ((rl.take k).map eY) t/\m.length<=k)/\Hid (Below w1 w1 wr)/\Hid (NZ (w1:Nat) m));case atStart=>exact⟨0,[],mZ,oZ,oZ,qZ ⟨kU.nil _ _,by simp[Top.dD],sZ⟩,qZ (aJ _ _),qZ (λy p=>by cases p)⟩
 case round=>
  obtain⟨k,m,rfl,cr,cp,n,o,ak⟩:=hrel;by_cases b9:k<K
  .have cb:(k:Int)<(K:Int):=oZ;have F:k<rl.length:=by rw[be.out];exact b9
   obtain⟨ck,cs,rfl,ca,bp⟩:=sQ b0 F;obtain⟨ax,p1,p2,p3,p4,a5,p6,a8,a9,ba,ay,az,a0,M⟩:=bp wr o;have I:=qZ (asZ rl t F);have H:=qZ (aC ((bw _ (bB F)).below o) (aC (bf.num _ (bB F)) (bf.aQ _ (bB F))));have J:=SI _ (H.2.1);have al:=qZ (aph _ H.1 H.2.2);obtain⟨x,bt⟩:=nZ (rl[k]);rw[bt]at ax p1 p2 p3 p4 a5 p6 a8 a9 ba ay az a0 M I H J al;clear bt bp F ca;obtain⟨bv,b2,bi,_,_⟩:=id H.1;obtain⟨a,b,c,⟨d,e,f⟩,g,h,i,j,r,st,l,aQ,hv⟩:=x;simp only at bi ax p1 p2 p3 p4 a5 p6 a8 a9 ba ay az a0 M I;subst bi;obtain⟨cg,av⟩:=nZ aQ.length;have cj:=qZ av;simp only[rM,sW,av]at J al M;clear av;obtain⟨ct,L⟩:=nZ (wr.alloc (.cells #[a,b,c,d,e,f,g,h,i,j,r,st,l,.slice bv cg b2] 86));have bn:=aB L;have bc:=aX L;have ah:=qZ (aC bn bc);have bz:=qZ L;obtain⟨N,O,Y,Z,aa,ab,ad,ae,af,ag,Q,T,W,X⟩:=bc.c14;clear bn bc L;go_wp2_with fail;refine Eq.mp (dA (λz=>Calls prog _ _ z _) bz.out.symm) ?_;clear ax p1 p2 p3 p4 a5 p6 a8 a9 ba ay az a0 M N O Y Z aa ab ad ae af ag Q T W X;refine(J _).mono ?_;rintro b3 bb⟨rfl,an⟩;have bu:=Blk.below ah.2 an (Blk.lt ah.2);have u:=qZ (aA ah.1 an);obtain⟨N,O,Y,Z,aa,ab,ad,ae,af,ag,Q,T,W,X⟩:=bu.c14;clear bu an J;by_cases aq:t<st+g
   .have cq:st+g>t:=aq;go_wp2_with fail;refine(al.out bb u).mono ?_;rintro b3 ci⟨v',rfl,ar,ap,bl⟩;obtain⟨s,A,rfl,b5,cc⟩:=id ar;have ao:=aA u bl;obtain⟨u6,bg,aw,bj,bm,ce⟩:=aei (x:=⟨a,b,c,⟨d,e,f⟩,g,h,i,j,r,st,l,aQ,.slice s aQ.length A⟩) n.1 ao o.size ar
     (λcd b b7=>by have:=ap cd b b7;have:=Below.size u;omega) (by have:=n.2.2;omega)
    rw[aaH]at aw;simp only[sW]at aw;have aj:=qY (kU bg (w1:Nat) u6 (m++[⟨a,b,c,⟨d,e,f⟩,g,h,i,j,r,st,l,aQ,.slice s aQ.length A⟩])/\(m++[(⟨a,b,c,⟨d,e,f⟩,g,h,i,j,r,st,l,aQ,.slice s aQ.length A⟩:Run)]).map eY=Top.dD ((rl.take (k+1)).map eY) t/\(m++[(⟨a,b,c,⟨d,e,f⟩,g,h,i,j,r,st,l,aQ,.slice s aQ.length A⟩:Run)]).length<=k+1) (⟨bj,by rw[I.out,aG aq,dO,n.out.2.1];rfl,by have:=n.2.2;simp;omega⟩);have ai:=qY (Below w1 w1 bg) ((o.out.trans (Below.mono ao o.size)).trans bm);have b1:=qY (NZ (w1:Nat) (m++[(⟨a,b,c,⟨d,e,f⟩,g,h,i,j,r,st,l,aQ,.slice s aQ.length A⟩:Run)])) (λy p br bh bo=>by
     rcases bY.1 p with p|p
     .exact ak y p br bh bo
     .have e:y=⟨a,b,c,⟨d,e,f⟩,g,h,i,j,r,st,l,aQ,.slice s aQ.length A⟩:=by simpa using p
      subst e;have cm:=ap br bh bo;have cn:=Below.size u;have co:=o.size;omega)
    clear bj bm ce ao ar ap bl b5 cc N O Y Z aa ab ad ae af ag Q T W X;go_wp2_with(at_builtin;refine dJ rfl (.tmp 18) (.tmp 21) _ _ rfl u5 (.slice ci 1 1) rfl rfl aw ?_);go_roundg(K-(k+1));case measure=>omega
    case rel=>exact⟨k+1,_,mZ,oZ,oZ,aj,ai,b1⟩
   .have aj:=qY (kU bb (w1:Nat) u5 m/\m.map eY=Top.dD ((rl.take (k+1)).map eY) t/\m.length<=k+1) (⟨n.1.below u,by rw[I.out,aD aq];exact n.2.1,by have:=n.2.2;omega⟩);have ai:=qY (Below w1 w1 bb) (aA o u);clear N O Y Z aa ab ad ae af ag Q T W X;go_wp2_with fail;go_roundg(K-(k+1));case measure=>omega
    case rel=>exact⟨k+1,_,mZ,oZ,oZ,aj,ai,ak⟩
  .have cb:¬(k:Int)<(K:Int):=oZ;have bd:=qY (kU wr (w1:Nat) _ m/\m.map eY=Top.dD (rl.map eY) t) (⟨n.1,by have:=n.2.1;rwa [aT (by have:=be.out;omega)]at this⟩);go_wp2_with fail;go_ret;exact⟨_,m,rfl,bd.1,bd.2,o,ak⟩
theorem GX(h:Runs w v rl)(g:Many rl)(t:Int):∀w1,Below w w w1->Calls prog 115 #[v,t] w1 λe w'=>akE (Top.dD (rl.map eY) t) w1 e w':=λw1 f=>
 (afS h g t w1 f).mono λe w' ⟨v',rl',a,b,c,d,_⟩=>⟨v',rl',a,b,c,d⟩
end bU
variable{ty:TypeId}
namespace bU
open Go Go.RowKit L bM eZ Srt
theorem aqT{P:Program}{E t:TypeId}{z:Value}(l:P.underlying t=some (.slice E))(hi:(P.info? E).map (λi=>(i.zero,i.size,i.bytes))=some (some z,1,8))(n:z.cells.size=1){B:Nat}{xs:List Int}(x:Int)(h:bQ w B E 1 jL v xs)(b:Below w w W)(y:B<=(w:Nat))(A:xs.length<=1000000):∃v' a,(Builtin.append_ #[t,t] ty #[v,.slice W 1 1]).run P (W.alloc (.cells #[x] E))=.ok v' a/\bQ a B E 1 jL v' (xs++[x])/\Below B W a/\(W:Nat)<=(a:Nat):=by
 obtain⟨i0,hi,o,p,r⟩:=info_parts hi;have d:Below W W (W.alloc (.cells #[x] E)):=bZ;have f:=(h.below b).below d;have j:=rU (k:=1) (dec:=jL) (x:=x) (Blk.new W E #[x]) rfl;obtain⟨v',a,e1,e2,e3,e4,s⟩:=mP t ty i0 _ 8 l hi o p r n oZ (λ_=>rfl) (ys:=[x]) (m:=1) (c:=1)
  (λu e=>by simp only[dL,kV,fC,jL,bA,dS,or_false]at e;subst e;rfl) f rfl j (by have:=b.size;simp;omega) (by unfold maxLen;omega) oZ
 refine⟨v',a,e1,e2,?_,?_⟩
 .exact Below.grown (Below.mono d (by have:=b.size;omega)) e3 (by simp;have:=b.size;omega) λk g=>(h.lt k g).1
 .have:=e3.size;simp at this;omega
theorem QV:∀l:List Int,l.flatMap jL=l.map (Value.int .i64)
 |[]=>rfl
 |a::t=>by rw[dL,cZ,QV t];rfl
theorem abF:∀l:List Int,(CO l).Perm l
 |[]=>gV _
 |a::t=>by
  have c:∀(n:Int) (l:List Int),(wB n l).Perm (n::l):=by
   intro n l;induction l with
   |nil=>exact gV _
   |cons x t b=>
    unfold wB;split
    .exact gV _
    .exact(b.cons x).trans (List.Perm.swap n x t)
  exact(c a _).trans ((abF t).cons a)
theorem TP:∀l:List Int,(CO l).Pairwise (· <= ·)
 |[]=>List.Pairwise.nil
 |a::t=>by
  have mem:∀(n y:Int) (l:List Int),y∈wB n l->y=n\/y∈l:=by
   intro n y l;induction l with
   |nil=>intro h;exact .inl (by simpa[wB]using h)
   |cons x t d=>
    unfold wB;split
    .intro h;simpa using h
    .intro h;rcases bA.1 h with rfl|h
     .exact .inr aZ
     .rcases d h with h|h
      .exact .inl h
      .exact .inr (bG _ h)
  have e:∀(n:Int) (l:List Int),l.Pairwise (· <= ·)->(wB n l).Pairwise (· <= ·):=by
   intro n l;induction l with
   |nil=>intro _;exact List.pairwise_singleton _ _
   |cons x t d=>
    intro h;have c:=eX.1 h;unfold wB;split
    .refine eX.2 ⟨λy b=>?_,h⟩;rcases bA.1 b with rfl|b
     .omega
     .have:=c.1 y b;omega
    .refine eX.2 ⟨λy b=>?_,d c.2⟩;rcases mem _ _ _ b with rfl|b
     .omega
     .exact c.1 y b
  exact e a _ (TP t)
theorem arE(l:List Int):(l.mergeSort λx y=>decide (x<=y))=CO l:=by refine List.Perm.eq_of_pairwise (le:=(· <= ·)) (λa b _ _ d e=>oZ) ?_ (TP l) ((List.mergeSort_perm _ _).trans (abF l).symm);have:=List.pairwise_mergeSort (le:=λx y:Int=>decide (x<=y)) (by intro a b c d e;simp at*;omega) (by intro a b;simp;omega) l;simpa using this
def axP(l:List Int)(w1:World)(e:Ending)(w':World):Prop:=∃v',e=.returned v'/\ISl w' v' l/\Below w1 w1 w'
theorem avO(x:Int)(w:World):(part 3 #[Value.int .i64 x] 0).run prog w=.ok x w:=by kernel_rfl
theorem auz(d:Nat)(x y:Int)(w:World)(e:∀(a b:Int) (w:World),(Op.equalIn d 3 a b).run prog w=.ok (a==b) w):(Op.equalIn (d+1) 271 (.agg #[x]) (.agg #[y])).run prog w=.ok (x==y) w:=by have f:prog.underlying 271=some (.array 1 3):=kZ;by_cases c:x=y<;>simp[Op.equalIn,Sem.run_bind,run_underlying f,Result.andThen_ok,List.range',List.forIn_cons,avO,e,c,Sem.run_pure,Sem.run_ite]
theorem auA(d:Nat)(x y:Int)(w:World):(Op.equalIn (d+1+1) 271 (.agg #[x]) (.agg #[y])).run prog w=.ok (x==y) w:=auz (d+1) x y w (λa b w=>SH d a b w)
@[go_sem high] theorem ayL (x y:Int) (w:World):(Op.equalIn 10000 271 (.agg #[x]) (.agg #[y])).run prog w=.ok (x==y) w:=auA 9998 x y w
theorem apV(x n:Int)(b:Nat)(w:World)(a:b<(w:Nat))(c:w.cell? (b,0)=some (.int .i64 n)):Calls prog 209 #[.agg #[x],.pointer b] w λe w'=>e=.returned (.bool (x==n))/\Below w w w':=by have d:¬b=(w:Nat):=oZ;go_enter func209,ntmps209;go_wp2;go_ret;exact⟨rfl,bZ⟩
theorem adj(xs:List Int)(n:Int)(k:Nat)(h:k<xs.length):(xs.take (k+1)).contains n=((xs.take k).contains n||(xs[k]==n)):=by rw[iA,aH h,List.contains_append];simp only[Option.toList_some,List.contains_cons,List.contains_nil,Bool.or_false];rw[Bool.beq_comm (a:=n)]
theorem ahh{xs:List Int}{n:Int}(h:k<xs.length)(e:xs[k]=n):xs.contains n=true:=by subst e;simp
theorem ajw{xs:List Int}(n:Int)(b:Nat)(w:World)(hv:ISl w v xs)(y:b<(w:Nat))(F:w.cell? (b,0)=some (.int .i64 n)):Calls prog 242 #[v,.func (.func 209) #[] #[.pointer b]] w λe w'=>aol (xs.contains n) w e w':=by
 obtain⟨A,cap,rfl,K,J⟩:=hv;unfold maxLen at J;have M:=qZ K;have L:=qZ F;obtain⟨N,l⟩:=nZ xs.length;have s:=qZ l;rw[l]at J⊢;clear K F l;go_enter func242,ntmps242;go_wp2_with fail;go_loopw [8] (λi wr=>∃k:Nat,i=.int .i64 (k:Int)/\k<=N/\Hid ((xs.take k).contains n=false)/\Below w w wr) (λi _=>N-(intOf i).toNat);case atStart=>exact⟨0,rfl,oZ,qZ sZ,aJ _ _⟩
 case round=>
  obtain⟨k,rfl,ab,r,a⟩:=hrel;by_cases Q:k<N
  .have j:k<xs.length:=by have:=s.out;omega
   obtain⟨aa,o,rfl,ae,H⟩:=vK M j;have u:=H wr a;have W:=qZ (adj xs n k j);have Y:=qZ (λe=>ahh (n:=n) j e);generalize xs[k]=x at*;have z:b<(wr:Nat):=aM y a.size;have I:CI wr b 0 n:=(a.cell (p:=⟨b,0,none⟩) y).trans L;have d:=qZ (apV x n b wr z I);clear H j I z;by_cases g:x=n
   .have c:(x==n)=true:=by simpa using g
    rw[c]at d;have X:=qZ (Y.out g);clear g c;go_wp2_with fail;refine d.out.mono ?_;rintro e Z⟨rfl,f⟩;have m:=a.trans (f.mono a.size);clear f a d u;go_wp2_with fail;go_ret;exact⟨k,rfl,by rw[X.out];simp,m⟩
   .have c:(x==n)=false:=by simpa using g
    rw[c]at d;have T:=qY ((xs.take (k+1)).contains n=false) (by rw[W.out,r.out,c];rfl);clear g c;go_wp2_with fail;refine d.out.mono ?_;rintro e Z⟨rfl,f⟩;have m:=a.trans (f.mono a.size);clear f a d u;go_wp2_with fail;go_roundw;case rel=>exact⟨k+1,mZ,oZ,T,m⟩
    case measure=>simp[intOf];omega
  .have O:=qY (xs.contains n=false) (by have:=r.out;rwa [aT (by have:=s.out;omega)]at this);have ad:N<=k:=oZ;clear Q;go_wp2_with fail;go_ret;exact⟨-1,rfl,by rw[O.out];decide,a⟩
theorem adg{xs:List Int}(n:Int)(b:Nat)(w:World)(hv:ISl w v xs)(f:b<(w:Nat))(a:w.cell? (b,0)=some (.int .i64 n)):Calls prog 208 #[v,.func (.func 209) #[] #[.pointer b]] w λe w'=>e=.returned (.bool (xs.contains n))/\Below w w w':=by have hi:=qZ (ajw n b w hv f a);generalize(xs.contains n)=r at*;clear hv a;go_enter func208,ntmps208;go_wp2_with fail;refine hi.out.mono ?_;rintro e w1⟨q,rfl,c,g⟩;have d:=qZ c;clear hi c;go_wp2_with fail;go_ret;exact⟨fJ d,g⟩
theorem anr(rl:List Run)(aN:Int)(h:k<rl.length):tL ((rl.take (k+1)).map eY) aN=if aN<rl[k].start+rl[k].run then(if(tL ((rl.take k).map eY) aN).contains (rl[k].start+rl[k].run)then tL ((rl.take k).map eY) aN else tL ((rl.take k).map eY) aN++[rl[k].start+rl[k].run])else tL ((rl.take k).map eY) aN:=by
 have e:jC (eY rl[k])=rl[k].start+rl[k].run:=rfl;unfold tL;rw[bF h,dO,fB];simp only[cZ,gM,List.foldl_cons,List.foldl_nil,e];by_cases a:aN<rl[k].start+rl[k].run
 .rw[aG a];cases b:(List.foldl (λl r=>if(decide (aN<jC r)&& !(l.contains (jC r)))=true then l++[jC r]else l) [] ((rl.take k).map eY)).contains (rl[k].start+rl[k].run)<;>simp[a,b]
 .rw[aD a];simp[a]
theorem aqr(h:Runs w v rl)(N:Many rl)(aN:Int):∀w1,Below w w w1->Calls prog 148 #[v,aN] w1 λe w'=>axP (Top.ends (rl.map eY) aN) w1 e w':=by
 intro w1 b2;obtain⟨R,dx,rfl,ch,cz,b7⟩:=h.below b2;have cr:=qZ ch;have co:=qZ b7;have cp:=qZ N;obtain⟨K,a0⟩:=nZ rl.length;have bt:=qZ a0;have cv:=N.len;rw[a0]at cv⊢;clear h N b2 ch cz b7 a0;go_enter func148,ntmps148;go_wp2_with fail;go_loopg[5,14] K (λay du ds wr=>∃(k:Nat) (p:List Int),ds=.int .i64 k/\k<=K/\K<=ay+k/\Hid (bQ wr w1 271 1 jL du p/\p=tL ((rl.take k).map eY) aN/\p.length<=k)/\Hid (Below w1 w1 wr));case atStart=>exact⟨0,[],mZ,oZ,oZ,qZ ⟨bQ.nil _ _ _ _ _,by simp[tL],sZ⟩,qZ (aJ _ _)⟩
 case round=>
  obtain⟨k,p,rfl,al,cw,r,s⟩:=hrel;by_cases ba:k<K
  .have cb:(k:Int)<(K:Int):=oZ;have ae:k<rl.length:=by rw[bt.out];exact ba
   obtain⟨dw,d0,rfl,c0,b6⟩:=sQ cr ae;obtain⟨bg,p1,p2,p3,p4,bk,p6,bl,bm,bn,bh,bi,bj,aq⟩:=b6 wr s;have J:=qZ (anr rl aN ae);have av:=qZ (aC ((co _ (bB ae)).below s) (cp.num _ (bB ae)));have X:=SI _ av.2;obtain⟨x,O⟩:=nZ (rl[k]);rw[O]at bg p1 p2 p3 p4 bk p6 bl bm bn bh bi bj aq J av X;clear O b6 ae c0;obtain⟨ck,cu,b0,_,_⟩:=id av.1;obtain⟨a,b,c,⟨d,e,f⟩,g,h,i,j,db,st,l,aQ,hv⟩:=x;simp only at b0 bg p1 p2 p3 p4 bk p6 bl bm bn bh bi bj aq J;subst b0;obtain⟨dc,cc⟩:=nZ aQ.length;simp only[rM,sW,cc]at X aq;obtain⟨m,N⟩:=nZ (st+g);rw[N]at X J;obtain⟨d7,ap⟩:=nZ (wr.alloc (.cells #[a,b,c,d,e,f,g,h,i,j,db,st,l,.slice ck dc cu] 86));have aa:=aB ap;have cj:=aX ap;have au:=qZ aa;have cq:=qZ ap;obtain⟨dd,de,dj,dk,dl,dm,dn,dp,dq,dr,df,dg,dh,di⟩:=cj.c14;clear aa cj ap cc N;go_wp2_with fail;refine Eq.mp (dA (λz=>Calls prog _ _ z _) cq.out.symm) ?_;clear bg p1 p2 p3 p4 bk p6 bl bm bn bh bi bj aq dd de dj dk dl dm dn dp dq dr df dg dh di;refine(X _).mono ?_;rintro ax ar⟨rfl,b3⟩;have F:=qZ (aA au b3);clear b3 X;obtain⟨ai,ao⟩:=nZ (ar.alloc (.cells #[m] 271));have bo:=aX ao;have b4:=aB ao;have I:=qZ (aA F b4);have aw:=qZ bo;have bv:=qZ ao;have c4:CI ai ar 0 m:=bo.cell 0;clear ao bo b4;by_cases ad:aN<m
   .have cy:m>aN:=ad;have ca:ISl ai u5 p:=by obtain⟨A,cap,e1,e2⟩:=(r.1.below I).sl (λ_=>rfl);exact⟨A,cap,e1,e2,by have:=r.2.2;unfold maxLen;omega⟩
    obtain⟨bc,a9⟩:=nZ (p.contains m);have az:=qZ (adg m (ar:Nat) ai ca (Blk.lt aw) c4);rw[a9]at az;have bp:=qZ a9;clear ca a9;go_wp2_with fail;refine Eq.mp (dA (λz=>Calls prog _ _ z _) bv.out.symm) ?_;refine az.out.mono ?_;rintro ax Q⟨rfl,a8⟩;have c5:CI Q ar 0 m:=(Blk.below aw a8 (Blk.lt aw)).cell 0;have aj:=qZ (aA I a8);clear a8 c4 az;cases bc
    .obtain⟨u6,W,am,Y,Z,bd⟩:=aqT (P:=prog) (z:=.agg #[()]) (t:=269) (ty:=269) underlying269 kZ rfl m r.1 aj s.size (by have:=r.out.2.2;omega);have L:=qY (bQ W w1 271 1 jL u6 (p++[m])/\p++[m]=tL ((rl.take (k+1)).map eY) aN/\(p++[m]).length<=k+1) (⟨Y,by rw[J.out,aG ad,<-r.out.2.1,bp.out,aD dZ],by have:=r.2.2;simp;omega⟩);have H:=qY (Below w1 w1 W) ((s.out.trans (Below.mono aj s.size)).trans Z);clear Y Z bd;go_wp2_with(at_builtin;refine dJ rfl (.tmp 31) (.tmp 33) _ _ rfl u5 (.slice Q 1 1) rfl rfl am ?_);go_roundg(K-(k+1));case measure=>omega
     case rel=>exact⟨k+1,_,mZ,oZ,oZ,L,H⟩
    .have L:=qY (bQ Q w1 271 1 jL u5 p/\p=tL ((rl.take (k+1)).map eY) aN/\p.length<=k+1) (⟨r.1.below aj,by rw[J.out,aG ad,<-r.out.2.1,bp.out,aG rfl],by have:=r.2.2;omega⟩);have H:=qY (Below w1 w1 Q) (aA s aj);go_wp2_with fail;go_roundg(K-(k+1));case measure=>omega
     case rel=>exact⟨k+1,_,mZ,oZ,oZ,L,H⟩
   .have cy:¬m>aN:=ad;have L:=qY (bQ ai w1 271 1 jL u5 p/\p=tL ((rl.take (k+1)).map eY) aN/\p.length<=k+1) (⟨r.1.below I,by rw[J.out,aD ad];exact r.2.1,by have:=r.2.2;omega⟩);have H:=qY (Below w1 w1 ai) (aA s I);rw[<-bv.out]at L H;clear c4;go_wp2_with fail;go_roundg(K-(k+1));case measure=>omega
    case rel=>exact⟨k+1,_,mZ,oZ,oZ,L,H⟩
  .have cb:¬(k:Int)<(K:Int):=oZ;have cm:=qY (p=tL (rl.map eY) aN) (by have:=r.2.1;rwa [aT (by have:=bt.out;omega)]at this);obtain⟨A,cap,rfl,b1⟩:=r.out.1.sl (λ_=>rfl);have au:=qZ b1;obtain⟨M,a5⟩:=nZ p.length;have ak:=qZ a5;have dy:M<=1000:=by have:=r.2.2;omega
   rw[a5];clear a5 b1;obtain⟨T,rfl⟩:∃z,z=wr:=⟨_,rfl⟩;go_wp2_with fail;go_loopg[9,38] M (λay dv dt wr=>∃(k:Nat),dt=.int .i64 k/\k<=M/\M<=ay+k/\Hid (bQ wr T 3 1 jL dv (p.take k))/\Hid (Below T T wr));case atStart=>exact⟨0,mZ,oZ,oZ,qZ (by rw[List.take_zero];exact bQ.nil _ _ _ _ _),qZ (aJ _ _)⟩
   case round=>
    obtain⟨q,rfl,dz,cx,bw,F⟩:=hrel;by_cases cg:q<M
    .have da:(q:Int)<(M:Int):=oZ;have ce:q<p.length:=by rw[ak.out];exact cg
     obtain⟨b,o,rfl,ba,u⟩:=vK au ce;have ct:=u wr F;obtain⟨x,O⟩:=nZ (p[q]);rw[O]at ct;have aa:Below wr wr (wr.alloc (.cells #[x] 271)):=bZ;obtain⟨u6,W,am,Y,Z,bd⟩:=aqT (P:=prog) (z:=.int .i64 0) (t:=36) (ty:=36) underlying36 kZ rfl x bw aa F.size (by simp;omega);have cs:=qY (bQ W T 3 1 jL u6 (p.take (q+1))) (by rw[bF ce,O];exact Y);have I:=qY (Below T T W) ((F.alloc F.size _).trans Z);simp only[bC]at am;clear Y Z bd u O aa;go_wp2_with(at_builtin;refine dJ rfl (.tmp 42) (.tmp 45) _ _ rfl u9 (.slice (some ⟨(wr:Nat)+1,0,none⟩) 1 1) rfl rfl am ?_);go_roundg(M-(q+1));case measure=>omega
     case rel=>exact⟨q+1,mZ,oZ,oZ,cs,I⟩
    .have da:¬(q:Int)<(M:Int):=oZ;have an:=bw.out;rw[aT (by have:=ak.out;omega)]at an;have bq:=qY (Top.ends (rl.map eY) aN=p.mergeSort λx y=>decide (x<=y)) (by rw[arE,cm.out];rfl);have bu:=qY (p.length<4611686018427387904) (by have:=ak.out;omega);clear cg cb ba cw cx al;rcases an.2 with⟨rfl,b8⟩|⟨g,bz,cur,rfl,ab,u,ag,af,ah,bb⟩
     .have b9:p=[]:=fM b8;have cn:=qZ b9;clear b8 b9 an;go_wp2_with fail;refine(Tryz.slices_Sort_int_none none 0 wr).mono ?_;rintro ax Q⟨rfl,rfl⟩;go_wp2_with fail;go_ret;refine⟨_,rfl,⟨none,0,?_,?_,?_⟩,s.out.trans (Below.mono F s.size)⟩<;>rw[bq.out,cn.out]<;>simp[gQ,maxLen]
     .rw[gY,QV]at bb;have b5:=qZ (Tryz.slices_Sort_int g 0 bz p wr (holds_of_blockI u bb) (bT.1 u).1 bu);have cl:=qZ (aC u (aC ab (aC ag (aC af ah))));clear u ab ag af ah bb an;go_wp2_with fail;refine b5.out.mono ?_;rintro ax Q⟨rfl,be,bf,rfl⟩;obtain⟨u,ab,ag,af,ah⟩:=cl.out;have cd:=ownsRow_sortedI (n:=be) (os:=bf) (ts:=p.mergeSort λx y=>decide (x<=y)) sZ ab u ag af ah;have bs:=qZ (SF (l:=p.mergeSort λx y=>decide (x<=y)) (v:=.slice g p.length bz) (by simpa using cd) (by have:=bu.out;have:=ak.out;simp;unfold maxLen;omega));have br:=qY (Below w1 w1 _) ((s.out.trans (Below.mono F s.size)).grown (grownBy_sortedI (w:=wr) (g:=g) (n:=be) (os:=bf) (p.mergeSort λx y=>decide (x<=y)).toArray) (aV s.size F.size) λk al=>by injection al with al;have:=s.size;omega);obtain⟨d6,ci⟩:=nZ (Go.Sort.grow (Go.Sort.putRow (Value.int .i64) (Go.Sort.ahead wr be) g 0 (p.mergeSort λx y=>decide (x<=y)).toArray) bf);rw[ci]at bs br⊢;clear ci cd u ab ag af ah b5;go_wp2_with fail;go_ret;exact⟨_,rfl,by rw[bq.out];exact bs,br⟩
end bU
variable{X:Value}
namespace bU
open Go Go.RowKit L bM eZ Srt
def iD(p:Ord.P):Array Value:=#[.int .i64 p.id,.int .i64 p.dN,.int .i64 p.eU,.int .i64 p.need.x,.int .i64 p.need.y,.int .i64 p.need.z,.int .i64 p.run,.int .i64 p.aR,.int .i64 p.prefer]
def dW(p:Ord.P):Value:=.agg (iD p)
structure NY (p:Ord.P):Prop where
 eU:0<=p.eU/\p.eU<=16
theorem avN{B:Nat}{xs ys:List Int}(h:bQ w B 3 1 jL v xs)(b:Below w w W)(o:B<=(w:Nat))(e:bQ W B' 3 1 jL v2 ys)(p:xs.length+ys.length<=1000000)(ty:TypeId):∃v' a,(Builtin.append_ #[36,36] ty #[v,v2]).run prog W=.ok v' a/\bQ a B 3 1 jL v' (xs++ys)/\Below B W a:=by
 obtain⟨i0,hi,i,j,l⟩:=info_parts zU;obtain⟨A,cap,rfl,g⟩:=e.sl (λ_=>rfl);obtain⟨v',a,e1,e2,e3,e4,n⟩:=mP 36 ty i0 _ 8 underlying36 hi i j l rfl oZ (λ_=>rfl) (ys:=ys) (m:=ys.length) (c:=cap)
  (λu d=>by rw[QV]at d;obtain⟨x,_,rfl⟩:=bL.1 d;rfl) (h.below b) rfl g (by have:=b.size;omega) (by unfold maxLen;omega) oZ
 exact⟨v',a,e1,e2,(aJ B W).grown e3 (by have:=b.size;omega) λk f=>(h.lt k f).1⟩
def awu(o:Option (List Int))(w1:World)(e:Ending)(w':World):Prop:=∃v',e=.returned (.tuple #[v',.bool o.isSome])/\bQ w' w1 3 1 jL v' (o.getD [])/\Below w1 w1 w'
theorem ajB(free:List Vec.V)(p:Ord.P)(group:List Nat){l:List Int}(h:Top.kE free p.need p.eU group []=l):nJ free p group=if(l.length:Int)<p.eU then none else some l:=by unfold nJ;rw[h]
theorem aud{bv bw:Value}{free:List Vec.V}{group:List Nat}(bc:bX w bv c)(be:VSl w X free)(bg:ISl w bw (group.map λn:Nat=>(n:Int)))(bj:∀f∈free,wI f)(cg:group.length<=1000000)(p:Ord.P)(bk:NY p):∀w1,Below w w w1->Calls prog 119 #[bv,X,bw,dW p] w1 λe w'=>awu (nJ free p group) w1 e w':=by
 intro w1 al;obtain⟨v1,v2,rfl,⟨A,ca,rfl,cs,cj⟩,⟨B,a5,rfl,ct,ck⟩⟩:=id bc;obtain⟨F,cf,rfl,bo,bh⟩:=be.below al;obtain⟨G,da,rfl,bp,cl⟩:=bg.below al;obtain⟨L,aj⟩:=nZ (Top.kE free p.need p.eU group []);have b4:=qZ aj;have az:=qZ (ajB free p group aj);have cr:=bk.eU;rw[bN];obtain⟨K,ai⟩:=nZ group.length;obtain⟨M,ak⟩:=nZ free.length;have a0:=qZ ai;have ad:=qZ ak;rw[ai]at cg⊢;rw[ak]at bh⊢;unfold maxLen at bh;have b2:=qZ bo;have b3:=qZ bp;have cb:=qZ bj;generalize c.aP.length=NN;generalize c.aQ.length=NH;generalize c.aI=aI;generalize c.aK=aK;obtain⟨s,p1,a,⟨n0,n1,n2⟩,p6,u,y,bu,bt⟩:=p;simp only[dW,iD]at*;obtain⟨j,T⟩:=nZ ((w1.alloc (.cells #[.slice A NN ca,.slice B NH a5,aI,aK] 26)).alloc (.cells #[s,p1,a,n0,n1,n2,p6,u,y] 42));have b0:Blk j ((w1:Nat)+1) 42 #[s,p1,a,n0,n1,n2,p6,u,y]:=by rw[<-T];have h:=Blk.new (w1.alloc (.cells #[.slice A NN ca,.slice B NH a5,aI,aK] 26)) 42 #[s,p1,a,n0,n1,n2,p6,u,y];simp only[bC]at h;exact h
 have bb:Below w1 w1 j:=by rw[<-T];exact kp
 have N:=qZ b0;have J:=qZ bb;have b9:=qZ T;clear T b0 bb bc be bg cs ct cj ck bo bp cl aj ai ak bj bk al;go_enter func119,ntmps119;go_wp2_with fail;go_loopg[10,16] K (λcd v10 cv wr=>∃(k:Nat) (out:List Int),cv=.int .i64 k/\k<=K/\K<=cd+k/\Hid (bQ wr j 3 1 jL v10 out/\Top.kE free ⟨n0,n1,n2⟩ a (group.drop k) out=L)/\(out.length:Int)<=a/\Hid (Below j j wr));case atStart=>exact⟨0,[],mZ,oZ,oZ,qZ ⟨bQ.nil _ _ _ _ _,by rw[bJ];exact b4⟩,by simpa using cr.1,qZ (by rw[<-b9.out];exact aJ _ _)⟩
 case round=>
  obtain⟨k,out,rfl,dd,db,l,au,d⟩:=hrel;by_cases cm:k<K
  .have cp:(k:Int)<(K:Int):=oZ;have ap:k<group.length:=by rw[a0.out];exact cm
   obtain⟨c0,df,rfl,co,bd⟩:=vK b3 (k:=k) (by simpa using ap);have ag:=bd wr (aA J d);rw[List.getElem_map]at ag;have aa:Hid (group.drop k=group[k]::group.drop (k+1)):=qZ (dM ap);obtain⟨i,hi⟩:=nZ (group[k]);rw[hi]at aa ag;clear hi bd co ap;by_cases ao:i<M
   .have Q:i<free.length:=by rw[ad.out];exact ao
    obtain⟨O,Y,rfl,cn,an⟩:=SA b2 Q;have aq:=cb.out _ (bB Q);have bf:Hid (free.getD i Vec.zero=free[i]):=qZ (by rw[aL,aH Q,Option.getD_some]);obtain⟨z,bs⟩:=nZ (free[i]);rw[bs]at aq an bf;clear bs Q;obtain⟨z0,z1,z2⟩:=z;have H:=aoY ⟨z0,z1,z2⟩ ⟨n0,n1,n2⟩ aq;obtain⟨r,av⟩:=nZ (Top.room ⟨z0,z1,z2⟩ ⟨n0,n1,n2⟩);rw[av]at H;have b7:=qZ av;simp only[Vec.V.val]at H;obtain⟨Z,c10,rfl,ah⟩:=l.out.1.sl (λ_=>rfl);obtain⟨g,o⟩:=nZ out.length;have m:=qZ o;rw[o]at au⊢;have I:Hid (∀W,aF wr W->VAt W O (Y+i*3) ⟨z0,z1,z2⟩):=qZ (λW b=>an W (aA J (aA d b)));have ax:Hid (∀W,aF wr W->Blk W ((w1:Nat)+1) 42 #[s,p1,a,n0,n1,n2,p6,u,y]):=qZ (λW b=>by have ce:=aA d b;exact N.below ce N.out.lt);have ch:¬(i:Int)<0:=oZ;have ci:¬(M:Int)<=(i:Int):=oZ;have dc:(i:Int)<(M:Int):=oZ;clear an cn aq av o ah;go_wp2_with fail;refine kK ?_;have cc:∀W,aF wr W->CI W O (Y+i*3) z0:=λW b=>(I W b).1;have c1:∀W,aF wr W->CI W O (Y+i*3+1) z1:=λW b=>(I W b).2.1;have c2:∀W,aF wr W->CI W O (Y+i*3+2) z2:=λW b=>(I W b).2.2;have c3:∀W,aF wr W->CI W ((w1:Nat)+1) 3 n0/\CI W ((w1:Nat)+1) 4 n1/\CI W ((w1:Nat)+1) 5 n2/\CI W ((w1:Nat)+1) 2 a:=λW b=>have x:=(ax W b);⟨x.cell 3,x.cell 4,x.cell 5,x.cell 2⟩;(repeat refine kY ?_);refine kM ?_ (h:=by intro W b;go_simp;first|exact Go.Proofs.YtedmeglbjmdlhaaGreatDoor.L.bW.up H b|exact⟨b,Go.Proofs.YtedmeglbjmdlhaaGreatDoor.L.bW.up H b⟩);(repeat refine kY ?_);refine eH ?_;intro W b;obtain⟨n,ar⟩:=nZ (min r (a-(g:Int)));obtain⟨q,bl⟩:∃q:Nat,max n 0=(q:Int):=⟨n.toNat,oZ⟩;have de:(g:Int)+q<=a:=oZ;have bm:(min r (a-(g:Int))).toNat=q:=oZ;have cy:=qZ ar;have b5:=qZ bl;have b6:=qZ bm;have b8:=qZ b;have br:IntKind.i64.wrap (a-(g:Int))=a-(g:Int):=by rw[IntKind.wrap_i64];omega
    rw[br,ar];clear br cc c1 c2 c3 ar bl bm b I ax H ag;go_wp2_with fail;rw[b5.out];refine(aiR (i:Int) q (W:Nat) oZ _ sZ (by simp[go_sem])).mono ?_;rintro e cx⟨v',rfl,bq,a9⟩;have am:Below wr wr cx:=aA b8 (aA (bZ) a9);obtain⟨cw,bz,bn,a8,ba⟩:=avN l.1 am d.size bq (by simp;have:=m.out;omega) 36;rw[m.out]at bn;have af:=qY (bQ bz j 3 1 jL cw (out++List.replicate q (i:Int))/\Top.kE free ⟨n0,n1,n2⟩ a (group.drop (k+1)) (out++List.replicate q (i:Int))=L) (⟨a8,by have h:=l.2;rw[aa.out]at h;unfold Top.kE at h;rw[aG (by rw[ad.out];exact ao),bf.out,b7.out,m.out,b6.out]at h;exact h⟩);have cq:((out++List.replicate q (i:Int)).length:Int)<=a:=by rw[aW,jZ,m.out];omega
    have b1:=qY (Below j j bz) ((d.out.trans (Below.mono am d.size)).trans ba);clear a8 ba bq a9 am;go_wp2_with(at_builtin;refine dJ rfl (.tmp 41) (.tmp 46) _ _ rfl (.slice Z g c10) v' rfl rfl bn ?_);go_roundg(K-(k+1));case measure=>omega
    case rel=>exact⟨k+1,_,mZ,oZ,oZ,af,cq,b1⟩
   .have ch:¬(i:Int)<0:=oZ;have ci:(M:Int)<=(i:Int):=oZ;have af:=qY (bQ wr j 3 1 jL u10 out/\Top.kE free ⟨n0,n1,n2⟩ a (group.drop (k+1)) out=L) (⟨l.1,by have h:=l.2;rw[aa.out]at h;unfold Top.kE at h;rwa [aD (by rw[ad.out];exact ao)]at h⟩);go_wp2_with fail;go_roundg(K-(k+1));case measure=>omega
    case rel=>exact⟨k+1,out,mZ,oZ,oZ,af,au,d⟩
  .have cp:¬(k:Int)<(K:Int):=oZ;have ab:=qY (out=L) (by have h:=l.2;rwa [lC (by have:=a0.out;omega)]at h);have c2:CI wr ((w1:Nat)+1) 2 a:=(Blk.below N d N.out.lt).cell 2;obtain⟨Z,c10,aw,ah⟩:=l.out.1.sl (λ_=>rfl);obtain⟨g,o⟩:=nZ out.length;have m:=qZ o;rw[o]at aw au;have cz:=qZ aw;subst aw;have ay:=qY (Below w1 w1 wr) (aA J d);clear o ah;by_cases bi:(g:Int)<a
   .have ae:=qY (nJ free ⟨s,p1,a,⟨n0,n1,n2⟩,p6,u,y,bu,bt⟩ group=none) (by rw[az.out,aG (by rw[<-ab.out,m.out];exact bi)]);go_wp2_with fail;refine bodyPost_ret (v:=.tuple #[true,.bool false]) (by simp[results,Tryz.results119,go_sem]) rfl ?_;rw[ae.out];exact⟨_,rfl,bQ.nil _ _ _ _ _,ay⟩
   .have ae:=qY (nJ free ⟨s,p1,a,⟨n0,n1,n2⟩,p6,u,y,bu,bt⟩ group=some out) (by rw[az.out,aD (by rw[<-ab.out,m.out];exact bi),ab.out]);go_wp2_with fail;refine bodyPost_ret (v:=.tuple #[.slice Z g c10,.bool true]) (by simp[results,Tryz.results119,go_sem]) rfl ?_;have cu:=l.1.low J.size;rw[ae.out];exact⟨_,rfl,cu,ay⟩
end bU
variable{x:Value}
namespace bU
open Go Go.RowKit L bM eZ Srt
theorem apY{B:Nat}{l:List Nat}(h:nC w B x l)(a:l.length<=1000000):ISl w x (l.map λn:Nat=>(n:Int)):=by
 have e:ival l=(l.map λn:Nat=>(n:Int)).map (Value.int .i64):=by unfold ival;rw[List.map_map];rfl
 refine SF (B:=B) (l:=l.map λn:Nat=>(n:Int)) ?_ (by unfold maxLen;rw[bN];omega);rw[<-e];unfold nC fI at h;have e2:(ival l).length=(l.map λn:Nat=>(n:Int)).length:=by simp[ival]
 rw[<-e2];exact h
structure RU (p:Ord.P):Prop where
 aR:0<=p.aR/\p.aR<=3
 prefer:0<=p.prefer/\p.prefer<=3
def SV(o:Option (Int×List Int))(w1:World)(e:Ending)(w':World):Prop:=∃v',e=.returned (.tuple #[((o.map (·.1)).getD 0:Int),v',.bool o.isSome])/\bQ w' w1 3 1 jL v' ((o.map (·.2)).getD [])/\Below w1 w1 w'
theorem agX(b:List gW)(aR:Int):∀l∈Hst.mU b aR,∃h t,l=h::t/\h<b.length:=by
 intro l a;unfold Hst.mU at a;split at a
 .obtain⟨q,d,rfl⟩:=bL.1 a;obtain⟨h,t,e,_,c⟩:=Hst.WA b aR b.length lZ q d;exact⟨h,t,e,c⟩
 .cases a
theorem ajJ(a:List gW)(aR:Int):(Hst.mU a aR).length<=a.length:=by
 unfold Hst.mU;split
 .rw[bN];exact Hst.ZK a aR _
 .simp
theorem agY(b:List gW)(aR:Int):∀l∈Hst.mU b aR,l.length<=b.length:=by
 intro l a;unfold Hst.mU at a;split at a
 .obtain⟨q,c,rfl⟩:=bL.1 a;exact Hst.WB b aR _ q c
 .cases a
theorem adi(c:Cfg.C)(free:List Vec.V)(p:Ord.P)(n:Nat)(aR:Int):qH c free p (n+1) aR=match oN free p (Hst.mU c.aQ aR)with
  |some (l,g)=>some (WG c g,l)
  |none=>qH c free p n (aR+1):=rfl
theorem aqk{cg:Value}{free:List Vec.V}(T:bX w cg c)(ar:VSl w X free)(b5:∀f∈free,wI f)(bu:c.aQ.length<=1000000)(p:Ord.P)(b7:NY p)(dn:RU p):∀w1,Below w w w1->Calls prog 59 #[cg,X,dW p] w1 λe w'=>SV (Top.find c free p) w1 e w':=by
 intro w1 u;have bb:=qZ (λaR W (h:Below w1 w1 W)=>ajK (T.below u) aR bu W h);have y:=qZ (λW dw (group:List Nat) (h:Below w1 w1 W) (dd:ISl W dw (group.map λn:Nat=>(n:Int))) hgl=>aud ((T.below u).below h) ((ar.below u).below h) dd b5 hgl p b7 W (aJ _ _));obtain⟨v1,v2,rfl,⟨A,ca,rfl,dr,de⟩,⟨B,Q,rfl,b8,df⟩⟩:=T.below u;obtain⟨F,cf,rfl,ds,dg⟩:=ar.below u;obtain⟨R,ap⟩:=nZ (Top.find c free p);have aq:=ap;unfold Top.find at aq;have bi:=qZ aq;rw[ap];have cn:=qZ b8;have cm:=qZ (λg=>show WG c g=(c.aQ.getD (g.headD 0) default).flavor from rfl);obtain⟨s,am⟩:=nZ c.aQ.length;have bg:=qZ am;rw[am]at bu bb y⊢;generalize c.aP.length=NN at*;generalize c.aI=aI at*;generalize c.aK=aK at*;obtain⟨M,bp⟩:=nZ free.length;rw[bp]at y⊢;obtain⟨⟨eo,ep⟩,⟨es,r1⟩⟩:=dn;obtain⟨P,ao⟩:=nZ p;have cp:=qZ ao;obtain⟨az,p1,a0,⟨n0,n1,n2⟩,p6,m,aa,er,eq⟩:=p;simp only[dW,iD]at*;obtain⟨lo,ax⟩:=nZ (max aa 0);obtain⟨hi,av⟩:=nZ (min m 3);obtain⟨n,dl⟩:=nZ ((hi-lo+1).toNat);rw[av,ax,dl,ao]at bi;have dh:=qZ ax;have b0:=qZ av;replace y:Hid _:=qZ (by have h:=y.out;simp only[cp.out]at h;exact h);have em:0<=lo/\lo<=3:=oZ;have eh:hi<=3:=oZ;obtain⟨r,L⟩:=nZ ((w1.alloc (.cells #[.slice A NN ca,.slice B s Q,aI,aK] 26)).alloc (.cells #[az,p1,a0,n0,n1,n2,p6,m,aa] 42));have ci:Blk r ((w1:Nat)+1) 42 #[az,p1,a0,n0,n1,n2,p6,m,aa]:=by rw[<-L];have h:=Blk.new (w1.alloc (.cells #[.slice A NN ca,.slice B s Q,aI,aK] 26)) 42 #[az,p1,a0,n0,n1,n2,p6,m,aa];simp only[bC]at h;exact h
 have cj:Blk r w1 26 #[.slice A NN ca,.slice B s Q,aI,aK]:=by rw[<-L];exact Blk.alloc (Blk.new _ _ _) _
 have bs:Below w1 w1 r:=by rw[<-L];exact kp
 have a:=qZ (aC ci cj);have ae:=qZ bs;have cu:=qZ L;clear L ci cj bs T ar dr b8 de df ds dg ap aq am bp b5 b7 u ax av ao;go_enter func59,ntmps59;go_wp2_with fail;rw[dh.out];go_loopg[9] n (λcy dv wr=>∃k:Nat,dv=.int .i64 (lo+k)/\k<=n/\n<=cy+k/\Hid (qH c free P (n-k) (lo+k)=R)/\Hid (Below r r wr));case atStart=>exact⟨0,sZ,oZ,oZ,qZ (by simpa using bi.out),qZ (by rw[<-cu.out];exact aJ _ _)⟩
 case round=>
  obtain⟨k,rfl,ek,ef,bj,H⟩:=hrel;have dx:wr.cell? ((w1:Nat)+1,7)=some (.int .i64 m):=(Blk.below a.out.1 H.out a.out.1.lt).cell 7;by_cases b4:lo+(k:Int)<=hi
  .have di:lo+(k:Int)<=min m 3:=by rw[b0.out];exact b4
   have el:k<n:=oZ;obtain⟨a5,a8,a9,ba⟩:=(Blk.below a.out.2 H.out a.out.2.lt).c4;have J:=qZ (adi c free P (n-(k+1)) (lo+k));rw[show n-(k+1)+1=n-k by omega,bj.out]at J;go_wp2_with fail;refine(bb.out (lo+k) wr (aA ae.out H.out)).mono ?_;rintro e ch⟨ec,rfl,Z,bq⟩;obtain⟨d8,ea,rfl,aj⟩:=Z.form;have bf:=qZ (agX c.aQ (lo+k));have N:=qZ (ajJ c.aQ (lo+k));have ah:=qZ (agY c.aQ (lo+k));rw[bg.out]at N ah;obtain⟨gs,bz⟩:=nZ (Hst.mU c.aQ (lo+k));rw[bz]at Z J aj bf N ah⊢;have be:=qZ Z;obtain⟨j,an⟩:=nZ gs.length;have bh:=qZ an;have bc:=qZ aj;rw[an]at be bc N⊢;have I:=qZ (aA H.out bq);have ee:=N.out;clear bz Z an bq dx a5 a8 a9 ba aj;obtain⟨et,rfl⟩:∃z,z=wr:=⟨_,rfl⟩;obtain⟨ad,ak⟩:=nZ (oN free P gs);have cl:=qZ ak;rw[ak]at J;clear ak;go_wp2_with fail;go_loopg[28] j (λcz du wr=>∃q:Nat,du=.int .i64 q/\q<=j/\j<=cz+q/\Hid (oN free P (gs.drop q)=ad)/\Hid (Below ch ch wr));case atStart=>exact⟨0,mZ,oZ,oZ,qZ (by rw[bJ];exact cl.out),qZ (aJ _ _)⟩
   case round=>
    obtain⟨q,rfl,en,eg,bk,d⟩:=hrel;by_cases dp:q<j
    .have dq:(q:Int)<(j:Int):=oZ;have K:q<gs.length:=by rw[bh.out];exact dp
     obtain⟨G,rfl⟩:=bc.out oZ;obtain⟨db,bn,dc,x,cd,bo,dm⟩:=be.out.dD K;obtain⟨h,t,b2,b1⟩:=bf.out _ (bB K);have b3:=ah.out _ (bB K);have aw:=(apY bo oZ).below d.out;have bd:Hid (gs.drop q=gs[q]::gs.drop (q+1)):=qZ (dM K);obtain⟨c0,bw⟩:=nZ (gs[q]);rw[bw]at bd aw b2 b3;have af:=qZ (aA ae.out (aA I.out d.out));have Y:=qZ (y.out wr x c0 af.out aw oZ);have bm:wr.cell? (G,q)=some x:=(d.out.cell (p:=⟨G,q,none⟩) bn).trans cd;obtain⟨d9,eb,rfl,cb,_⟩:=aw;subst b2;obtain⟨bx,dt,rfl,dk,bv⟩:=vK cb (k:=0) sZ;have ck:=qZ bv;obtain⟨a5,a8,a9,ba⟩:=(Blk.below a.out.2 (aA I.out d.out) a.out.2.lt).c4;obtain⟨z0,z1,z2,dy,z4,dz,d0,d6,d7⟩:=(Blk.below a.out.1 (aA I.out d.out) a.out.1.lt).c9;have O:=qZ b1;obtain⟨cw,al⟩:=nZ ((List.map (λn:Nat=>(n:Int)) (h::t)).length);have ed:0<cw:=by rw[<-al];simp
     rw[al]at Y bm;have ag:=qY (ad=match nJ free P (h::t)with|some l=>some (l,h::t)|none=>oN free P (gs.drop (q+1))) (by rw[<-bk.out,bd.out];rfl);obtain⟨o,b6⟩:=nZ (nJ free P (h::t));rw[b6]at ag Y;clear K cd bo dm b3 bw dk cb bv b1 al db bn dc b6;go_wp2_with fail;refine Y.out.mono ?_;rintro e ab⟨v',rfl,b9,br⟩;have cq:=qZ b9;have i:=qZ br;clear b9 br a5 a8 a9 ba z0 z1 z2 dy z4 dz d0 d6 d7 bm Y;cases o with
     |none=>
      simp only[Option.isSome_none];go_wp2_with fail;go_roundg(j-(q+1));case measure=>omega
      case rel=>exact⟨q+1,mZ,oZ,oZ,qZ ag.out.symm,qZ (aA d.out i.out)⟩
     |some l=>
      simp only[Option.isSome_some];obtain⟨bl,ce,rfl,dj,bt⟩:=rW cn.out O.out;have ay:Below w1 w1 ab:=aA af.out i.out;have cx:∀W,aF ab W->W.cell? (w1,1)=some (.slice (some ⟨bl,ce,none⟩) s Q):=λW b=>by have da:=aA (aA I.out d.out) (aA i.out b);exact(Blk.below a.out.2 da a.out.2.lt).cell 1
      have c1:∀W,aF ab W->W.cell? (bx,dt)=some (.int .i64 (h:Int)):=λW b=>ck.out W (aA i.out b);obtain⟨fl,au⟩:=nZ ((c.aQ[h]'O.out).flavor);have c2:∀W,aF ab W->W.cell? (bl,ce+h*6)=some (.int .i64 fl):=λW b=>by have:=(bt W (aA ay b)).1;rwa [au]at this
      have ei:h<s:=by have:=O.out;rw[bg.out]at this;exact this
      have ej:(h:Int)<(s:Int):=oZ;have co:=qY (R=some (fl,l)) (by have cc:=J.out;rw[ag.out]at cc;rw[cc];simp only;rw[cm.out];simp only[List.headD_cons];rw[aL,aH O.out,Option.getD_some,au]);have ct:=qZ ay;clear dj bt ay au;go_wp2_with fail;refine kK ?_;(repeat refine kY ?_);refine eH ?_;intro W b;have cr:=qZ ((cq.out.below b).low (B':=(w1:Nat)) af.out.size);have cv:=qZ (aA ct.out b);clear cx c1 c2 b;go_wp2_with fail;refine bodyPost_ret (v:=.tuple #[fl,v',.bool true]) (by simp[results,Tryz.results59,go_sem]) rfl ?_;rw[co.out];exact⟨_,rfl,cr.out,cv.out⟩
    .have dq:¬(q:Int)<(j:Int):=oZ;have ai:Hid (ad=none):=qZ (by have h:=bk.out;rw[lC (by have:=bh.out;omega)]at h;exact h.symm);have cs:=qY (qH c free P (n-(k+1)) (lo+((k+1:Nat):Int))=R) (by have h:=J.out;rw[ai.out]at h;rw[h];congr 1;omega);have i:=qY (Below r r wr) (aA I.out d.out);go_wp2_with fail;go_roundg(n-(k+1));case measure=>omega
     case rel=>exact⟨k+1,dA _ oZ,oZ,oZ,cs,i⟩
  .have di:¬lo+(k:Int)<=min m 3:=by rw[b0.out];exact b4
   have ai:Hid (R=none):=qZ (by have h:=bj.out;rw[show n-k=0 by omega]at h;exact h.symm);have i:=qY (Below w1 w1 wr) (aA ae.out H.out);go_wp2_with fail;refine bodyPost_ret (v:=.tuple #[(),true,.bool false]) (by simp[results,Tryz.results59,go_sem]) rfl ?_;rw[ai.out];exact⟨_,rfl,bQ.nil _ _ _ _ _,i.out⟩
open Go.Lib Go.Shelf Go.Proofs
def arM:Go.Shelf.Ren:=⟨λ |41=>77|n=>n,λ |22=>27|23=>44|4=>4|n=>n,λ |n=>n⟩
theorem aeW:Go.Proofs.SlLaysE0.n41 prog arM:={
 mixed:=by kernel_rfl
 f41:=⟨Tryz.f77.name,dZ,func77.trans (dA some kZ)⟩
 t4:=underlying4
 a4:=Tryz.isAgg4
 z4:=Tryz.sizeOf4
 v4:=Tryz.zeroValue4
 t22:=underlying27
 a22:=Tryz.isAgg27
 z22:=Tryz.sizeOf27
 v22:=Tryz.zeroValue27}
def arN:Go.Shelf.Ren:=⟨λ |41=>75|n=>n,λ |22=>23|23=>66|4=>4|n=>n,λ |n=>n⟩
theorem VW:Go.Proofs.SlLaysE0.n41 prog arN:={
 mixed:=by kernel_rfl
 f41:=⟨Tryz.f75.name,dZ,func75.trans (dA some kZ)⟩
 t4:=underlying4
 a4:=Tryz.isAgg4
 z4:=Tryz.sizeOf4
 v4:=Tryz.zeroValue4
 t22:=underlying23
 a22:=Tryz.isAgg23
 z22:=Tryz.sizeOf23
 v22:=Tryz.zeroValue23}
def arO:Go.Shelf.Ren:=⟨λ |41=>76|n=>n,λ |22=>24|23=>131|4=>4|n=>n,λ |n=>n⟩
theorem VX:Go.Proofs.SlLaysE0.n41 prog arO:={
 mixed:=by kernel_rfl
 f41:=⟨Tryz.f76.name,dZ,func76.trans (dA some kZ)⟩
 t4:=underlying4
 a4:=Tryz.isAgg4
 z4:=Tryz.sizeOf4
 v4:=Tryz.zeroValue4
 t22:=underlying24
 a22:=Tryz.isAgg24
 z22:=Tryz.sizeOf24
 v22:=Tryz.zeroValue24}
def atI:Go.Shelf.Ren:=⟨λ |41=>78|n=>n,λ |22=>29|23=>63|4=>4|n=>n,λ |n=>n⟩
theorem ahK:Go.Proofs.SlLaysE0.n41 prog atI:={
 mixed:=by kernel_rfl
 f41:=⟨Tryz.f78.name,dZ,func78.trans (dA some kZ)⟩
 t4:=underlying4
 a4:=Tryz.isAgg4
 z4:=Tryz.sizeOf4
 v4:=Tryz.zeroValue4
 t22:=underlying29
 a22:=Tryz.isAgg29
 z22:=Tryz.sizeOf29
 v22:=Tryz.zeroValue29}
open L in
theorem akm{ρ:Go.Shelf.Ren}(L:Go.Proofs.SlLaysE0.n41 prog ρ)(i0:TypeInfo)(z:Value)(size bytes:Nat)(hi:prog.info? (ρ.t 23)=some i0)(r:i0.zero=some z)(s:i0.size=size)(v:i0.bytes=bytes)(x:z.cells.size=size)(o:0<size)(F:∀w,(Go.sizeOf (ρ.t 23)).run prog w=.ok size w)(a:Addr)(c:Nat)(w:World):Calls prog (ρ.f 41) #[.slice (some a) 0 c] w λe w'=>∃v',e=.returned v'/\w'.ownsRow (w:Nat) (ρ.t 23) size v' 0 []/\Below w w w':=by have mixed:=L.mixed;have t4:=L.t4;have a4:=L.a4;have z4:=L.z4;have v4:=L.v4;have t22:=L.t22;have a22:=L.a22;have z22:=L.z22;have v22:=L.v22;have A:∀(w:World) (a:Option Addr) (n c d b:Nat),(binOp .eql (ρ.t 22) (.slice a n c) (.slice none d b)).run prog w=.ok (.bool a.isNone) w:=λw a n c d b=>Lib.run_eql_slice_nil w _ _ a n c d b L.t22;have u22:∀w,Sem.run prog (underlying (ρ.t 22)) w=.ok (TypeDesc.slice (ρ.t 23)) w:=run_underlying t22;obtain⟨_,_,f⟩:=L.f41;go_enter f,SlBodyN.n41_ntmps ρ;go_wp2_with(at_builtin;refine wpList_append_own _ rfl _ _ (ρ.t 22) rfl (w:Nat) (ρ.t 23) i0 z size bytes t22 hi r s v x o _ _ _ rfl (World.ownsRow_made w #[] 0 lZ (bK _) sZ) a 0 c [] rfl sZ (by intro j u i;simp at i) (by intro u p;cases p) (by unfold maxLen;omega) oZ sZ ?_);intro v' w1 m g y;go_wp2;go_ret;refine⟨v',rfl,by simpa using m,?_⟩;exact((aJ _ w).alloc lZ _).grown g sZ (by intro k l;simp[Value.ownBlock]at l;omega)
open L in
theorem wU{α:Type}{ρ:Go.Shelf.Ren}(L:Go.Proofs.SlLaysE0.n41 prog ρ){bytes:Nat}{z:Value}{dec:α->List Value}(hi:(prog.info? (ρ.t 23)).map (λi=>(i.zero,i.size,i.bytes))=some (some z,k,bytes))(r:z.cells.size=k)(g:0<k)(H:∀w,(Go.sizeOf (ρ.t 23)).run prog w=.ok k w)(f:Elem dec k){xs:List α}(h:SlK w k dec v xs)(M:xs.length<=maxLen)(J:xs.length*bytes<=140737488355328):Calls prog (ρ.f 41) #[v] w λe w'=>∃v',e=.returned v'/\bQ w' w (ρ.t 23) k dec v' xs/\Below w w w':=by
 obtain⟨i0,n,s,y,F⟩:=info_parts hi;obtain⟨A,cap,rfl,p⟩:=h;cases A with
 |none=>
  have c:xs=[]:=by
   rcases xs with _|⟨x,xs⟩
   .rfl
   .obtain⟨b,o,e,_⟩:=p sZ;cases e
  subst c;refine(AnyE.slices_Clone_nil L _ _ _).mono ?_;rintro e w'⟨rfl,rfl⟩;exact⟨_,rfl,bQ.nil _ _ _ _ _,aJ _ _⟩
 |some a=>
  by_cases c:xs=[]
  .subst c;refine(akm L i0 z k bytes n s y F r g H a cap w).mono ?_;rintro e w'⟨v',rfl,l,d⟩;exact⟨v',rfl,l,d⟩
  .obtain⟨I,m,e,T,K⟩:=p c;cases e;refine(AnyE.slices_Clone L i0 z k bytes n s y F r g H I m xs.length cap (xs.flatMap dec) w (jG f.len xs) M J (λj u N=>?_) (afp f)).mono ?_
   .obtain⟨x,Q,O⟩:=ZM g f.len xs N;have:=K _ x Q _ u O;rwa [show m+j/k*k+j%k=m+j by rw[iQ,eD,iY]]at this
   .rintro e w'⟨v',rfl,l,_,d⟩;exact⟨v',rfl,l,d⟩
def YF(n:Int):Value:=.iface 216 (.agg #[n])
def yQ(n:Int):Ending:=.panicked [{v:=YF n,recovered:=false}]
def fD(ok:Bool)(n:Int)(e:Ending):Prop:=e=if ok then .returned (.tuple #[])else yQ n
theorem iV(ok:Bool)(n:Int)(w:World):Calls prog 98 #[.bool ok,n] w λe w'=>fD ok n e/\w'=w:=by
 cases ok
 .go_enter func98,ntmps98;go_wp2;exact⟨rfl,rfl,rfl⟩
 .go_enter func98,ntmps98;go_wp2
  go_end0
  exact⟨rfl,rfl⟩
theorem ahn(W:World)(v:Value):(Instr.typeAssert (.iface 216 v) 20 216 true).run prog W=.ok (.tuple #[v,.bool true]) W:=by kernel_rfl
theorem akp(p:Addr)(x n:Int)(g:List PanicEntry)(w:World)(f:p.block<(w:Nat))(l:w.cell? p=some (.int .i64 x))(k:w.frozen? p=false):CallsD prog 97 #[.pointer (some p)] (.panicking ({v:=YF n,recovered:=false}::g)) w λe u' w'=>e=.returned (.tuple #[])/\u'=.panicking ({v:=YF n,recovered:=true}::g)/\∃w1,Below w w w1/\w'=w1.setCell p n:=by have d:Below w w (w.alloc (.cells #[n] 216)):=bZ;have j:¬p.block=(w:Nat):=oZ;obtain⟨b,c,ps⟩:=p;simp only at f j;refine callsD_of_wpS func97 rfl λi cs a=>?_;unfold YF at a⊢;apply wpS_seq;apply wpS_region;simp[wpOpsS,go_sem,recoverD,a,ntmps97,Exit.thenS];refine wpS_of_wp ?_;have e1:(#[Value.pointer (some ⟨b,c,ps⟩)]++(Array.replicate 14 undef).setIfInBounds 4 (.iface 216 (.agg #[n])))=#[Value.pointer (some ⟨b,c,ps⟩),undef,undef,undef,undef,.iface 216 (.agg #[n]),undef,undef,undef,undef,undef,undef,undef,undef,undef]:=rfl;rw[e1];have m:=λW=>ahn W (.agg #[n]);have o:(w.alloc (.cells #[n] 216)).frozen? ⟨b,c,ps⟩=false:=(d.frozen f).trans k;go_wp2;cases i;simp only at a;exact⟨rfl,_,rfl,_,results_none rfl _ _ _,rfl,rfl,_,d,rfl⟩
theorem aan(p:Addr)(w:World):CallsD prog 97 #[.pointer (some p)] .returning w λe u' w'=>e=.returned (.tuple #[])/\u'=.returning/\w'=w:=by refine callsD_of_wpS func97 rfl λb cs a=>?_;apply wpS_seq;apply wpS_region;simp[wpOpsS,go_sem,recoverD,a,ntmps97,Exit.thenS];refine wpS_of_wp ?_;have e1:(#[Value.pointer (some p)]++(Array.replicate 14 undef).setIfInBounds 4 .nilIface)=#[Value.pointer (some p),undef,undef,undef,undef,.nilIface,undef,undef,undef,undef,undef,undef,undef,undef,undef]:=rfl;rw[e1];go_wp2;cases b;simp only at a;subst a;exact⟨rfl,_,rfl,_,results_none rfl _ _ _,rfl,rfl,rfl⟩
theorem alc(l:List Int)(a:k<l.length)(h:(l.take k).all iU=true)(b:iU l[k]=true):(l.take (k+1)).all iU=true:=by rw[bF a,List.all_append,h];simp[b]
theorem aou(l:List Int)(a:k<l.length)(b:iU l[k]=false):l.all iU=false:=by rw[List.all_eq_false];exact⟨l[k],bB a,by simp[b]⟩
theorem arx(x:Int):iU x=(decide (x≥0)&&decide (x<=1099511627776)):=by unfold iU fF;rfl
theorem VF{l:List Int}(h:ISl w v l)(aa:l.length<=1000000):Calls prog 101 #[v] w λe w'=>fD (l.all iU) 1 e/\w'=w:=by
 obtain⟨A,cap,rfl,M,ad⟩:=h;have O:=qZ M;obtain⟨N,y⟩:=nZ l.length;have H:=qZ y;rw[y]at aa⊢;obtain⟨r,z⟩:=nZ (l.all iU);have I:=qZ z;rw[z];clear M ad y z;obtain⟨R,a⟩:=nZ (fD r 1);have n:=qZ a;rw[a];clear a;go_enter func101,ntmps101;go_wp2_with fail;go_loopg[6] N (λT ae wr=>∃k:Nat,ae=.int .i64 k/\k<=N/\N<=T+k/\Hid ((l.take k).all iU=true)/\Hid (wr=w));case atStart=>exact⟨0,mZ,oZ,oZ,qZ sZ,qZ rfl⟩
 case round=>
  obtain⟨k,rfl,ah,af,K,i⟩:=hrel;by_cases ab:k<N
  .have ai:(k:Int)<(N:Int):=oZ;have s:k<l.length:=by rw[H.out];exact ab
   obtain⟨b,o,rfl,Z,L⟩:=vK O s;have u:=L wr (by rw[i.out];exact aJ _ _);have J:=qZ (arx l[k]);have m:=qZ (λe:iU l[k]=true=>alc l s K e);have g:=qZ (λe:iU l[k]=false=>I.out.symm.trans (aou l s e));generalize l[k]=x at*;obtain⟨b1,W⟩:=nZ (decide (x≥0));obtain⟨b2,X⟩:=nZ (decide (x<=1099511627776));have d:Hid (iU x=(b1&&b2)):=qZ (by rw[J.out,W,X]);clear J L s Z;have p:=qZ (λw=>iV (b1&&b2) 1 w);cases b1<;>cases b2
   .go_wp2_with fail;clear m;refine(iV false 1 wr).mono ?_;rintro j F⟨c,rfl⟩;have a:=n.out;rw[g.out (by rw[d.out];rfl)]at a;have f:R j:=by rw[<-a];exact c
    rw[c]at f⊢;clear g d p u;exact⟨rfl,f,i⟩
   .go_wp2_with fail;clear m;refine(iV false 1 wr).mono ?_;rintro j F⟨c,rfl⟩;have a:=n.out;rw[g.out (by rw[d.out];rfl)]at a;have f:R j:=by rw[<-a];exact c
    rw[c]at f⊢;clear g d p u;exact⟨rfl,f,i⟩
   .go_wp2_with fail;clear m;refine(iV false 1 wr).mono ?_;rintro j F⟨c,rfl⟩;have a:=n.out;rw[g.out (by rw[d.out];rfl)]at a;have f:R j:=by rw[<-a];exact c
    rw[c]at f⊢;clear g d p u;exact⟨rfl,f,i⟩
   .have Q:=qZ (m (by rw[d.out];rfl));clear m g d;go_wp2_with fail;refine(iV true 1 wr).mono ?_;rintro j F⟨c,rfl⟩;rw[fD,aG rfl]at c;subst c;clear p u;go_wp2_with fail;go_roundg(N-(k+1));case measure=>omega
    case rel=>exact⟨k+1,mZ,oZ,oZ,Q,i⟩
  .have ag:¬(k:Int)<(N:Int):=oZ;have Y:r=true:=by have:=K.out;rw[aT (by rw[H.out];omega)]at this;exact I.out.symm.trans this
   subst Y;go_wp2_with fail
   go_end0
   exact⟨by rw[<-n.out];rfl,i⟩
end bU
variable{cap:Nat}
namespace bU
open Go Go.RowKit L bM eZ Srt
theorem JD{b o:Nat}{l:List Int}(d:b<(W:Nat))(h:∀k (g:k<l.length),W.cell? (b,o+k)=some (.int .i64 l[k]))(c:l.length<=maxLen):ISl W (.slice (some ⟨b,o,none⟩) l.length cap) l:=by
 refine⟨_,_,rfl,λ_=>⟨b,o,rfl,d,?_⟩,c⟩;intro j x f i v hv;obtain⟨a,rfl⟩:=bE.1 f;cases i with
 |zero=>
  have e:v=.int .i64 l[j]:=by simpa[jL]using hv.symm
  rw[e,gY,Nat.add_zero];exact h j a
 |succ n=>simp[jL]at hv
theorem xI{b o:Nat}{x y z:Int}(f:b<(W:Nat))(a:W.cell? (b,o)=some (.int .i64 x))(c:W.cell? (b,o+1)=some (.int .i64 y))(d:W.cell? (b,o+2)=some (.int .i64 z)):ISl W (.slice (some ⟨b,o,none⟩) 3 cap) [x,y,z]:=
 JD (l:=[x,y,z]) f (λk e=>by
  match k,e with
  |0,_=>exact a
  |1,_=>exact c
  |2,_=>exact d) (by simp[maxLen])
theorem FP(x y z:Int):[x,y,z].all iU=uJ ⟨x,y,z⟩:=by simp[uJ,Bool.and_assoc]
theorem aox(g:Ord.P):LM g=([g.id,g.dN,g.eU,g.run,g.aR,g.prefer].all iU&&uJ g.need):=by simp[LM,Bool.and_assoc]
theorem alf(g:Ord.P)(w:World):Calls prog 100 #[dW g] w λe w'=>fD (LM g) 1 e/\Below w w w':=by
 have i:=qZ (aox g);obtain⟨r,v⟩:=nZ (LM g);rw[v]at i⊢;obtain⟨id,d,b,⟨x,y,z⟩,run,aR,c⟩:=g;obtain⟨R,n⟩:=nZ (fD r 1);have o:=qZ n;rw[n];clear n v;simp only[dW,iD]at i⊢;go_enter func100,ntmps100;go_wp2_with fail;have s:ISl ((w.alloc (.cells #[id,d,b,x,y,z,run,aR,c] 42)).alloc (.cells #[id,d,b,run,aR,c] 3)) (.slice (some ⟨(w:Nat)+1,0,none⟩) 6 6) [id,d,b,run,aR,c]:=
  JD (l:=[id,d,b,run,aR,c]) (by simp[bC]) (λk F=>by
   match k,F with
   |0,_=>simp[go_sem]
   |1,_=>simp[go_sem]
   |2,_=>simp[go_sem]
   |3,_=>simp[go_sem]
   |4,_=>simp[go_sem]
   |5,_=>simp[go_sem]) (by simp[maxLen])
 obtain⟨b1,p⟩:=nZ ([id,d,b,run,aR,c].all iU);refine(VF s sZ).mono ?_;rw[p]at i⊢;clear p s;rintro m H⟨a,rfl⟩;cases b1
 .have j:r=false:=i;subst j;have f:R m:=by rw[<-o.out];exact a
  rw[a]at f⊢;exact⟨rfl,f,kp⟩
 .rw[fD,aG rfl]at a;subst a;go_wp2_with fail;have u:ISl ((w.alloc (.cells #[id,d,b,x,y,z,run,aR,c] 42)).alloc (.cells #[id,d,b,run,aR,c] 3)) (.slice (some ⟨w,3,none⟩) 3 3) [x,y,z]:=
   xI (by simp only[bC];omega) (by simp[go_sem]) (by simp[go_sem]) (by simp[go_sem])
  have A:=qZ (FP x y z);refine(VF u sZ).mono ?_;rintro m H⟨a,rfl⟩;rw[A.out]at a;have j:r=uJ ⟨x,y,z⟩:=i;rw[<-j]at a;have f:R m:=by rw[<-o.out];exact a
  cases r
  .rw[fD,aD sZ]at a;rw[a]at f⊢;exact⟨rfl,f,kp⟩
  .rw[fD,aG rfl]at a;subst a;clear u j;go_wp2_with fail
   go_end0
   exact⟨f,kp⟩
theorem jF{B:Nat}(h:Below B w w')(a:B<=(w:Nat))(o:Obj):Below B w (w'.alloc o):=h.alloc (aV a h.size) o
theorem afX{α:Type}(p:α->Bool)(l:List α)(a:k<l.length)(h:(l.take k).all p=true)(b:p l[k]=true):(l.take (k+1)).all p=true:=by rw[bF a,List.all_append,h];simp[b]
theorem aii{α:Type}(p:α->Bool)(l:List α)(a:k<l.length)(b:p l[k]=false):l.all p=false:=by rw[List.all_eq_false];exact⟨l[k],bB a,by simp[b]⟩
theorem uI{l:List Int}{b:Bool}(h:ISl w v l)(c:l.length<=1000000)(a:l.all iU=b):Calls prog 101 #[v] w λe w'=>fD b 1 e/\w'=w:=by rw[<-a];exact VF h c
theorem aov(p d:Int)(a b c:Vec.V):AL ⟨p,d,a,b,c⟩=((decide (p≥ -1)&&decide (p<=1099511627776))&&[d].all iU&&uJ a&&uJ b&&uJ c):=by simp[AL,fF]
theorem aow(a b c:Int)(v:Vec.V):yX ⟨a,b,c,v⟩=([a,b,c].all iU&&uJ v):=by simp[yX,Bool.and_assoc]
theorem aoy(c:Cfg.C):LP c=(c.aP.all AL&&c.aQ.all yX&&[c.aI,c.aK].all iU):=by simp[LP,Bool.and_assoc]
theorem afb{b o:Nat}{x:Int}(d:b<(W:Nat))(a:W.cell? (b,o)=some (.int .i64 x)):ISl W (.slice (some ⟨b,o,none⟩) 1 cap) [x]:=
 JD (l:=[x]) d (λk c=>by
  match k,c with
  |0,_=>exact a) (by simp[maxLen])
theorem apW{b o:Nat}{x y:Int}(e:b<(W:Nat))(a:W.cell? (b,o)=some (.int .i64 x))(c:W.cell? (b,o+1)=some (.int .i64 y)):ISl W (.slice (some ⟨b,o,none⟩) 2 cap) [x,y]:=
 JD (l:=[x,y]) e (λk d=>by
  match k,d with
  |0,_=>exact a
  |1,_=>exact c) (by simp[maxLen])
theorem alg(bd:bX w v c):Calls prog 99 #[v] w λe w'=>fD (LP c) 1 e/\Below w w w':=by
 obtain⟨v1,v2,rfl,⟨A,ca,rfl,bf,av⟩,⟨B,bb,rfl,bg,aw⟩⟩:=id bd;have K:=qZ (aoy c);obtain⟨r,be⟩:=nZ (LP c);rw[be]at K⊢;obtain⟨R,au⟩:=nZ (fD r 1);have l:=qZ au;rw[au];clear au be;have a5:=qZ bf;have a8:=qZ bg;obtain⟨n,i,aI,aK⟩:=c;simp only at av aw a5 a8 K⊢;obtain⟨N,ar⟩:=nZ n.length;obtain⟨M,aq⟩:=nZ i.length;have ba:=qZ ar;have a9:=qZ aq;rw[ar]at av⊢;rw[aq]at aw⊢;unfold maxLen at av aw;clear bf bg bd ar aq;obtain⟨Z,ad⟩:=nZ (w.alloc (.cells #[.slice A N ca,.slice B M bb,aI,aK] 26));have bc:Below w w Z:=by rw[<-ad];exact kp
 have aa:=aX ad;have J:=qZ aa;have ab:=qZ bc;have bq:=qZ ad;clear ad aa bc;go_enter func99,ntmps99;go_wp2_with fail;rw[bq.out];go_loopg[9] N (λan az wr=>∃k:Nat,az=.int .i64 k/\k<=N/\N<=an+k/\Hid ((n.take k).all AL=true)/\Hid (Below Z Z wr));case atStart=>exact⟨0,mZ,oZ,oZ,qZ sZ,qZ (aJ _ _)⟩
 case round=>
  obtain⟨k,rfl,cc,b7,F,m⟩:=hrel;have z:Hid (Below w w wr):=qZ (ab.out.trans (m.mono ab.size));by_cases bz:k<N
  .have b3:(k:Int)<(N:Int):=oZ;have u:k<n.length:=by rw[ba.out];exact bz
   obtain⟨bu,b4,rfl,ax,W⟩:=oH a5 u;have b5:=W wr z;have Q:=qZ (λe:AL n[k]=true=>afX AL n u F e);have O:Hid (AL n[k]=false->r=false):=qZ (λe=>by rw[K.out,aii AL n u e];rfl);generalize n[k]=x at*;obtain⟨p,bl,⟨a0,a1,a2⟩,⟨al,b1,b2⟩,⟨am,c1,c2⟩⟩:=x;obtain⟨X,p1,p2,p3,p4,Y,p6,bi,bj,bk,bh⟩:=b5;simp only at X p1 p2 p3 p4 Y p6 bi bj bk bh;clear W u ax;have s:=qZ (aov p bl ⟨a0,a1,a2⟩ ⟨al,b1,b2⟩ ⟨am,c1,c2⟩);obtain⟨ay,bv⟩:=nZ (decide (p≥ -1));obtain⟨ae,bw⟩:=nZ (decide (p<=1099511627776));obtain⟨y,H⟩:=nZ ([bl].all iU);obtain⟨t4,I⟩:=nZ (uJ ⟨a0,a1,a2⟩);obtain⟨af,ao⟩:=nZ (uJ ⟨al,b1,b2⟩);obtain⟨ag,ap⟩:=nZ (uJ ⟨am,c1,c2⟩);rw[bv,bw,H,I,ao,ap]at s;have ah:=qZ H;have ai:=qZ ((FP a0 a1 a2).trans I);have bn:=qZ ((FP al b1 b2).trans ao);have bo:=qZ ((FP am c1 c2).trans ap);clear H I ao ap;have j:Hid ((ay&&ae&&y&&t4&&af&&ag)=false->r=false):=qZ (λe=>O (s.out.trans e));have ak:Hid ((ay&&ae&&y&&t4&&af&&ag)=true->(n.take (k+1)).all AL=true):=qZ (λe=>Q (s.out.trans e));clear O Q s;cases ay
   .cases ae
    .go_wp2_with fail;refine(iV false 1 _).mono ?_;rintro g o⟨a,rfl⟩;have f:r=false:=j rfl;have d:R (yQ 1):=by rw[<-l.out,f];exact rfl
     rw[fD,aD sZ]at a;subst a;exact⟨rfl,d,jF z lZ _⟩
    .go_wp2_with fail;refine(iV false 1 _).mono ?_;rintro g o⟨a,rfl⟩;have f:r=false:=j rfl;have d:R (yQ 1):=by rw[<-l.out,f];exact rfl
     rw[fD,aD sZ]at a;subst a;exact⟨rfl,d,jF z lZ _⟩
   cases ae
   .go_wp2_with fail;refine(iV false 1 _).mono ?_;rintro g o⟨a,rfl⟩;have f:r=false:=j rfl;have d:R (yQ 1):=by rw[<-l.out,f];exact rfl
    rw[fD,aD sZ]at a;subst a;exact⟨rfl,d,jF z lZ _⟩
   .go_wp2_with fail;refine(iV true 1 _).mono ?_;rintro g o⟨a,rfl⟩;rw[fD,aG rfl]at a;subst a;clear X p1 p2 p3 p4 Y p6 bi bj bk bh;go_wp2_with fail;refine(uI (b:=y) (afb (by simp only[bC];omega) (by simp[go_sem])) sZ ah).mono ?_;rintro g o⟨a,rfl⟩;cases y
    .have f:r=false:=j rfl;have d:R (yQ 1):=by rw[<-l.out,f];exact rfl
     rw[fD,aD sZ]at a;subst a;exact⟨rfl,d,jF (jF z lZ _) lZ _⟩
    rw[fD,aG rfl]at a;subst a;go_wp2_with fail;refine(uI (b:=t4) (xI (by simp only[bC];omega) (by simp[go_sem]) (by simp[go_sem]) (by simp[go_sem])) sZ ai).mono ?_;rintro g o⟨a,rfl⟩;cases t4
    .have f:r=false:=j rfl;have d:R (yQ 1):=by rw[<-l.out,f];exact rfl
     rw[fD,aD sZ]at a;subst a;exact⟨rfl,d,jF (jF z lZ _) lZ _⟩
    rw[fD,aG rfl]at a;subst a;go_wp2_with fail;refine(uI (b:=af) (xI (by simp only[bC];omega) (by simp[go_sem]) (by simp[go_sem]) (by simp[go_sem])) sZ bn).mono ?_;rintro g o⟨a,rfl⟩;cases af
    .have f:r=false:=j rfl;have d:R (yQ 1):=by rw[<-l.out,f];exact rfl
     rw[fD,aD sZ]at a;subst a;exact⟨rfl,d,jF (jF z lZ _) lZ _⟩
    rw[fD,aG rfl]at a;subst a;go_wp2_with fail;refine(uI (b:=ag) (xI (by simp only[bC];omega) (by simp[go_sem]) (by simp[go_sem]) (by simp[go_sem])) sZ bo).mono ?_;rintro g o⟨a,rfl⟩;cases ag
    .have f:r=false:=j rfl;have d:R (yQ 1):=by rw[<-l.out,f];exact rfl
     rw[fD,aD sZ]at a;subst a;exact⟨rfl,d,jF (jF z lZ _) lZ _⟩
    rw[fD,aG rfl]at a;subst a;go_wp2_with fail;go_roundg(N-(k+1));case measure=>omega
    case rel=>exact⟨k+1,mZ,oZ,oZ,qZ (ak rfl),qZ (jF (jF m lZ _) lZ _)⟩
  .have b9:¬(k:Int)<(N:Int):=oZ;have T:n.all AL=true:=by have:=F.out;rwa [aT (by rw[ba.out];omega)]at this
   have aj:Hid (r=(i.all yX&&[aI,aK].all iU)):=qZ (by rw[K.out];simp only[T,Bool.true_and]);have br:CV wr w 1 (.slice B M bb):=(J.below m J.out.lt).cell 1;clear T F K;go_wp2_with fail;clear br;have b6:=m;go_loopg[39] M (λan az wr=>∃k:Nat,az=.int .i64 k/\k<=M/\M<=an+k/\Hid ((i.take k).all yX=true)/\Hid (Below Z Z wr));case atStart=>exact⟨0,mZ,oZ,oZ,qZ sZ,m⟩
   case round=>
    obtain⟨q,rfl,cd,b8,F,m⟩:=hrel;have L:Hid (Below w w wr):=qZ (ab.out.trans (m.mono ab.size));by_cases b0:q<M
    .have b3:(q:Int)<(M:Int):=oZ;have u:q<i.length:=by rw[a9.out];exact b0
     obtain⟨bu,b4,rfl,ax,W⟩:=rW a8 u;obtain⟨X,p1,p2,p3,p4,Y⟩:=W wr L;have Q:=qZ (λe:yX i[q]=true=>afX yX i u F e);have O:Hid (yX i[q]=false->r=false):=qZ (λe=>by rw[aj.out,aii yX i u e];rfl);generalize i[q]=x at*;obtain⟨x0,aa,bm,⟨a0,a1,a2⟩⟩:=x;simp only at X p1 p2 p3 p4 Y;clear W u ax;have s:=qZ (aow x0 aa bm ⟨a0,a1,a2⟩);obtain⟨y,H⟩:=nZ ([x0,aa,bm].all iU);obtain⟨t4,I⟩:=nZ (uJ ⟨a0,a1,a2⟩);rw[H,I]at s;have ah:=qZ H;have ai:=qZ ((FP a0 a1 a2).trans I);clear H I;have j:Hid ((y&&t4)=false->r=false):=qZ (λe=>O (s.out.trans e));have ak:Hid ((y&&t4)=true->(i.take (q+1)).all yX=true):=qZ (λe=>Q (s.out.trans e));clear O Q s;go_wp2_with fail;clear X p1 p2 p3 p4 Y;refine(uI (b:=y) (xI (by simp only[bC];omega) (by simp[go_sem]) (by simp[go_sem]) (by simp[go_sem])) sZ ah).mono ?_;rintro g o⟨a,rfl⟩;cases y
     .have f:r=false:=j rfl;have d:R (yQ 1):=by rw[<-l.out,f];exact rfl
      rw[fD,aD sZ]at a;subst a;exact⟨rfl,d,jF (jF L lZ _) lZ _⟩
     rw[fD,aG rfl]at a;subst a;go_wp2_with fail;refine(uI (b:=t4) (xI (by simp only[bC];omega) (by simp[go_sem]) (by simp[go_sem]) (by simp[go_sem])) sZ ai).mono ?_;rintro g o⟨a,rfl⟩;cases t4
     .have f:r=false:=j rfl;have d:R (yQ 1):=by rw[<-l.out,f];exact rfl
      rw[fD,aD sZ]at a;subst a;exact⟨rfl,d,jF (jF L lZ _) lZ _⟩
     rw[fD,aG rfl]at a;subst a;go_wp2_with fail;go_roundg(M-(q+1));case measure=>omega
     case rel=>exact⟨q+1,mZ,oZ,oZ,qZ (ak rfl),qZ (jF (jF m lZ _) lZ _)⟩
    .have cb:¬(q:Int)<(M:Int):=oZ;have T:i.all yX=true:=by have:=F.out;rwa [aT (by rw[a9.out];omega)]at this
     have bp:Hid (r=[aI,aK].all iU):=qZ (by rw[aj.out];simp only[T,Bool.true_and]);have bs:CI wr w 2 aI:=(J.below m J.out.lt).cell 2;have bt:CI wr w 3 aK:=(J.below m J.out.lt).cell 3;clear T F aj;go_wp2_with fail;clear bs bt;refine(uI (b:=r) (apW (by simp only[bC];omega) (by simp[go_sem]) (by simp[go_sem])) sZ bp.out.symm).mono ?_;rintro g o⟨a,rfl⟩;have d:R g:=by rw[<-l.out];exact a
     cases r
     .rw[fD,aD sZ]at a;subst a;exact⟨rfl,d,jF L lZ _⟩
     .rw[fD,aG rfl]at a;subst a;go_wp2_with fail
      go_end0
      exact⟨d,jF L lZ _⟩
theorem vI(n lo hi:Int):bW prog 111 #[n,lo,hi] (.bool (fF n lo hi)):=λw=>by
 unfold fF;by_cases h:lo<=n
 .by_cases a:n<=hi
  .go_enter func111,ntmps111;go_wp2;go_ret;exact⟨by simp[h,a],kp⟩
  .go_enter func111,ntmps111;go_wp2;go_ret;exact⟨by simp[h,a],kp⟩
 .go_enter func111,ntmps111;go_wp2;go_ret;exact⟨by simp;omega,kp⟩
theorem afA(x n:Int)(b:Nat)(w:World)(a:b<(w:Nat))(c:w.cell? (b,0)=some (.int .i64 n)):Calls prog 146 #[x,.pointer b] w λe w'=>e=.returned (.bool (x==n))/\w'=w:=by go_enter func146,ntmps146;go_wp2_with fail;go_ret;exact⟨rfl,rfl⟩
end bU
end Go.Proofs.YtedmeglbjmdlhaaGreatDoor
