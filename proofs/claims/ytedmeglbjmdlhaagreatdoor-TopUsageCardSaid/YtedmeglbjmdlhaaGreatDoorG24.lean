/-
Parts that the laws of the whole program share: contracts of its functions, and plain laws.
-/
import Derived.Test.YtedmeglbjmdlhaaGreatDoorG17
import Derived.Test.YtedmeglbjmdlhaaGreatDoorG13
import Derived.Test.YtedmeglbjmdlhaaGreatDoorG21
set_option maxRecDepth 100000
set_option maxHeartbeats 16000000
set_option linter.all false
open Go.Proofs.Tryz
namespace Go.Proofs.YtedmeglbjmdlhaaGreatDoor
open Go
open Cfg L Ord Top bM bU sK
variable{cs:Array Value}{l':List UInt8}{g k:Nat}{F:Nat->Prop}{A:Option Addr}{v va:Value}{W w w':World}
namespace bU
open Go Go.RowKit L bM eZ Srt
theorem QA{α:Type}{dec:α->List Value}{xs:List α}(h:gQ w A k dec xs)(a:aO F w w')(e:∀b o,A=some ⟨b,o,none⟩->¬F b):gQ w' A k dec xs:=λf=>by obtain⟨g,o,rfl,c,d⟩:=h f;exact⟨g,o,rfl,aM c a.size,λi x m j u l=>(a.cell (p:=⟨g,o+i*k+j,none⟩) c (e g o rfl)).trans (d i x m j u l)⟩
theorem jI.refl{w:World}{b:Nat}{v:Value}{l:List UInt8}(h:yJ w b v l):jI w b v l w:=⟨v,h,aO.refl _ _,λi hi=>.inl hi⟩
theorem aks(l:List Int)(b:k<l.length)(a:List UInt8):a++Top.bytes (l.take (k+1))=(a++Top.bytes (l.take k))++[Top.byte l[k]]:=by rw[bF b,Top.bytes_append,bP];rfl
theorem abu{b:Nat}{a:List UInt8}(h:yJ w b v a){l:List Int}(hv:ISl w va l)(H:∀i,va.ownBlock=some i->¬qK b v i)(z:Top.Low l)(am:a.length+l.length<=1000000):Calls prog 259 #[.pointer b,va] w λe w'=>e=.returned (.tuple #[])/\jI w b v (a++Top.bytes l) w':=by
 obtain⟨A,cap,rfl,I,ao⟩:=hv;have af:=qZ I;have ae:=qZ (λp o (e:A=some ⟨p,o,none⟩)=>H p (by rw[e];rfl));have ab:=qZ z;have ai:=qY (jI w b v (a++Top.bytes (l.take 0)) w) (by have:=jI.refl h;simpa[Top.bytes]using this);have Y:=qZ (λk=>show(a++Top.bytes (l.take k)).length+[Top.byte 0].length<=1000001 from by simp only[aW,jQ,bO,List.length_cons,List.length_nil];omega);have Z:=qZ (λk (g:k<l.length)=>show(a++Top.bytes (l.take k)).length+1<=1000000 from by simp only[aW,jQ,bO];omega);have Q:=qZ (λk (g:l.length<=k)=>dA (λt=>a++Top.bytes t) (aT g));obtain⟨N,f⟩:=nZ l.length;have m:=qZ f;rw[f]at am⊢;clear I ao f H z h Y;go_enter func259,ntmps259;go_wp2_with fail;go_loopg[8] N (λaj aq wr=>∃k:Nat,aq=.int .i64 k/\k<=N/\N<=aj+k/\Hid (jI w b v (a++Top.bytes (l.take k)) wr));case atStart=>exact⟨0,mZ,oZ,oZ,ai⟩
 case round=>
  obtain⟨k,rfl,g,av,n⟩:=hrel;by_cases an:k<N
  .have ax:(k:Int)<(N:Int):=oZ;have d:k<l.length:=by rw[m.out];exact an
   obtain⟨v1,K,j,y⟩:=n.out;have J:=QA af j ae;obtain⟨au,o,rfl,ak,u⟩:=vK J d;have ap:=u wr (aJ _ _);have M:=ab.out _ (bB d);have ag:=qZ (aks l d a);have aa:=qZ (Z k d);have r:=ape M;generalize l[k]=x at*;have ah:=qZ K;have T:=qZ j;have O:=qZ y;clear u d J ak K j y M;go_wp2_with fail;refine lF 5 kZ kZ ?_;simp only[List.take_succ_cons,List.take_zero,bH,bJ];(repeat refine kY ?_);refine kM ?_ (h:=by intro W c;go_simp;first|exact bW.up r c|exact⟨c,bW.up r c⟩);(repeat refine kY ?_);refine eH ?_;intro W c;have s:=qZ (aio (ah.below c) [Top.byte x] aa);have X:=qZ (T.out.trans (aO.bS c));go_wp2_with fail;refine s.out.mono ?_;rintro e ar⟨rfl,F⟩;have ad:=qY (jI w b v (a++Top.bytes (l.take (k+1))) ar) (by rw[ag.out];exact jI.after X O F);clear F s c ap;go_wp2_with fail;go_roundg(N-(k+1));case measure=>omega
   case rel=>exact⟨k+1,mZ,oZ,oZ,ad⟩
  .have aw:¬(k:Int)<(N:Int):=oZ;go_wp2_with fail
   go_end0
   refine⟨rfl,?_⟩;have:=n.out;have al:=Q.out k (by rw[m.out];omega);rw[al]at this;exact this
theorem aoW(w:World)(xs:List Int):gQ (w.alloc (.cells (xs.map λn=>Value.int .i64 n).toArray 3)) (some ⟨w,0,none⟩) 1 jL xs:=λ_=>
 ⟨(w:Nat),0,rfl,sZ,λi x b j u a=>by
  cases j with
  |zero=>
   have e:u=.int .i64 x:=by simpa[jL]using a.symm
   rw[World.cell?_alloc_mark,e];simp[b]
  |succ n=>simp[jL]at a⟩
theorem xG{b:Nat}{a:List UInt8}(h:jI w b v a W)(xs:List Int)(m:Top.Low xs)(k:a.length+xs.length<=1000000):Calls prog 259 #[.pointer b,.slice W xs.length xs.length] (W.alloc (.cells (xs.map λn=>Value.int .i64 n).toArray 3)) λe w'=>e=.returned (.tuple #[])/\jI w b v (a++Top.bytes xs) w':=by
 obtain⟨v1,c,f,g⟩:=h;have d:Below W W (W.alloc (.cells (xs.map λn=>Value.int .i64 n).toArray 3)):=bZ;refine(abu (c.below d) (va:=.slice W xs.length xs.length) (l:=xs) ⟨_,_,rfl,aoW W xs,by unfold maxLen;omega⟩ (λi hi j=>?_) m k).mono ?_
 .have e:(W:Nat)=i:=by simpa[Value.ownBlock]using hi
  have:=c.foot j;omega
 .rintro e w'⟨rfl,o⟩;exact⟨rfl,jI.after (f.trans (aO.bS d)) g o⟩
theorem FM{b:Nat}{d:List UInt8}(h:jI w b v d W)(x y z:Int)(j:Top.Low [x,y,z])(r:d.length+3<=1000000):Calls prog 285 #[.pointer b,.agg #[x,y,z]] W λe w'=>e=.returned (.tuple #[])/\jI w b v (d++Top.bytes [x,y,z]) w':=by
 obtain⟨v1,a,f,g⟩:=h;have c:Below W W (W.alloc (.cells #[x,y,z] 40)):=bZ;have hi:ISl (W.alloc (.cells #[x,y,z] 40)) (.slice W 3 3) [x,y,z]:=xI sZ (by simp[go_sem]) (by simp[go_sem]) (by simp[go_sem]);have o:=qZ (abu (a.below c) hi (λi hi p=>by
  have e:(W:Nat)=i:=by simpa[Value.ownBlock]using hi
  have:=a.foot p;omega) j (by simpa using r))
 have m:=qZ (f.trans (aO.bS c));have l:=qZ g;clear a f g c hi j;go_enter func285,ntmps285;go_wp2_with fail;refine o.out.mono ?_;rintro e s⟨rfl,k⟩;have n:=qZ (jI.after m l k);clear k;go_wp2_with fail
 go_end0
 exact⟨rfl,n⟩
theorem jI.cK{b:Nat}{l:List UInt8}(h:jI w b v l W){t:TypeId}(c:Blk w g t cs)(a:¬qK b v g):Blk W g t cs:=by obtain⟨_,_,k,_⟩:=h;exact c.bD k a
theorem jI.len{b:Nat}{l:List UInt8}(h:jI w b v l W)(e:l=l'):jI w b v l' W:=e▸h
theorem akS{b:Nat}{k:List UInt8}(h:jI w b v k W)(g:Ord.P)(l:Top.Low (rH g))(an:k.length+20<=1000000):Calls prog 261 #[.pointer b,dW g] W λe w'=>e=.returned (.tuple #[])/\jI w b v (k++Top.bytes (rH g)) w':=by
 obtain⟨v1,r,L,M⟩:=h;obtain⟨id,f,c,⟨x,y,z⟩,run,aR,d,am,al⟩:=g;have I:Top.Low [id,f,c]:=λn j=>l n (by simp[rH]at j⊢;omega);have J:Top.Low [x,y,z]:=λn j=>l n (by simp[rH,nL]at j⊢;omega);have K:Top.Low [run,aR,d]:=λn j=>l n (by simp[rH]at j⊢;omega);have Q:=qY (((k++Top.bytes [id,f,c])++Top.bytes [x,y,z])++Top.bytes [run,aR,d]=k++Top.bytes (rH ⟨id,f,c,⟨x,y,z⟩,run,aR,d,am,al⟩)) (by rw[bP,bP];rfl);simp only[dW,iD];obtain⟨F,m⟩:=nZ (W.alloc (.cells #[id,f,c,x,y,z,run,aR,d] 42));have s:=aB m;have N:=aX m;have H:=qY (¬qK b v1 (W:Nat)) (λag=>by have:=r.foot ag;omega);have i:=qZ N;have af:=qZ m;have aa:=qZ (jI.refl (r.below s));have O:=qZ (L.trans (aO.bS s));have T:=qZ M;have X:=qZ I;have Y:=qZ J;have Z:=qZ K;clear r L M s N m l I J K;go_enter func261,ntmps261;go_upto_region 1 with fail;rw[af.out];obtain⟨ah,p1,p2⟩:CI F W 0 id/\CI F W 1 f/\CI F W 2 c:=⟨i.cell 0,i.cell 1,i.cell 2⟩;go_wp2_with fail;refine(xG aa [id,f,c] X (by simp;omega)).mono ?_;rintro e u⟨rfl,a⟩;have ab:=qZ a;have o:=a.cK i H;clear ah p1 p2 a;obtain⟨p3,p4,ai⟩:CI u W 3 x/\CI u W 4 y/\CI u W 5 z:=⟨o.cell 3,o.cell 4,o.cell 5⟩;clear o;go_wp2_with fail;refine(FM ab x y z Y (by simp[jQ];omega)).mono ?_;rintro e A⟨rfl,a⟩;have ad:=qZ a;have p:=a.cK i H;clear p3 p4 ai a;obtain⟨p6,aj,ak⟩:CI A W 6 run/\CI A W 7 aR/\CI A W 8 d:=⟨p.cell 6,p.cell 7,p.cell 8⟩;clear p;go_wp2_with fail;refine(xG ad [run,aR,d] Z (by simp[jQ];omega)).mono ?_;rintro e ao⟨rfl,a⟩;have ae:=qZ (jI.after O T (a.len Q));clear p6 aj ak a;go_wp2_with fail
 go_end0
 exact⟨rfl,ae⟩
end bU
variable{c:Cfg.C}{w0:World}
namespace bU
open Go Go.RowKit L bM eZ Srt
theorem jI.under{b:Nat}{l:List UInt8}(h:jI w b v l W)(a:Below w0 w0 w)(c:∀i,qK b v i->(w0:Nat)<=i):Below w0 w0 W:=by obtain⟨_,_,k,_⟩:=h;exact a.trans (k.below a.size c)
theorem xH{a b:List Int}(h:Top.Low b)(d:∀x∈a,x∈b):Top.Low a:=λn c=>h n (d n c)
theorem JZ(n:kL):(mV n).length=11:=rfl
theorem KA(n:gW):(qA n).length=6:=rfl
theorem tK{α:Type}(f:α->List Int)(m:Nat)(a:∀x,(f x).length=m):∀l:List α,(l.flatMap f).length=m*l.length
 |[]=>sZ
 |x::t=>by rw[dL,aW,a,tK f m a t,List.length_cons,Nat.mul_succ,jJ]
theorem ZN{α:Type}(f:α->List Int)(l:List α)(a:k<l.length):(l.take (k+1)).flatMap f=(l.take k).flatMap f++f l[k]:=by rw[bF a,kS];simp
theorem aci(h:Top.Low (sJ c)):Top.Low [(c.aP.length:Int)]/\(∀x∈c.aP,Top.Low (mV x))/\Top.Low [(c.aQ.length:Int)]/\(∀x∈c.aQ,Top.Low (qA x))/\Top.Low [c.aI,c.aK]:=by
 refine⟨xH h (by simp[sJ]),λx b=>xH h λn a=>?_,xH h (by simp[sJ]),λx b=>xH h λn a=>?_,xH h (by simp[sJ])⟩
 .unfold sJ;exact bG _ (cO _ (jV.2 ⟨x,b,a⟩))
 .unfold sJ;exact bG _ (fG _ (bG _ (cO _ (jV.2 ⟨x,b,a⟩))))
theorem agr{b:Nat}{o:List UInt8}(h:yJ W b v o)(bh:Below w0 w0 W)(b6:∀i,qK b v i->(w0:Nat)<=i){cb:Value}(cv:bX w0 cb c)(b8:Top.Low (sJ c))(de:o.length<=1000)(b9:c.aP.length<=12)(b7:c.aQ.length<=24):Calls prog 260 #[.pointer b,cb] W λe w'=>e=.returned (.tuple #[])/\jI W b v (o++Top.bytes (sJ c)) w':=by
 obtain⟨a9,ba,bb,bc,bd⟩:=aci b8;obtain⟨v1,v2,rfl,⟨A,ca,rfl,bm,_⟩,⟨B,bg,rfl,bn,_⟩⟩:=cv;obtain⟨f,j,aI,aK⟩:=c;simp only at bm bn a9 ba bb bc bd b9 b7⊢;have cd:=qZ bm;have ce:=qZ bn;have bt:=qZ a9;have cj:=qZ ba;have bu:=qZ bb;have ck:=qZ bc;have cl:=qZ bd;have bw:=qZ (λk=>show((f.take k).flatMap mV).length<=132 from by rw[tK _ 11 JZ,bO];omega);have bv:=qZ (λk=>show((j.take k).flatMap qA).length<=144 from by rw[tK _ 6 KA,bO];omega);have ch:=qZ (λk (ah:f.length<=k)=>dA (List.flatMap mV) (aT ah));have cg:=qZ (λk (ah:j.length<=k)=>dA (List.flatMap qA) (aT ah));have ak:=qY (((((o++Top.bytes [(f.length:Int)])++Top.bytes (f.flatMap mV))++Top.bytes [(j.length:Int)])++Top.bytes (j.flatMap qA))++Top.bytes [aI,aK]=o++Top.bytes (sJ ⟨f,j,aI,aK⟩)) (by simp only[sJ,Top.bytes_append,NG,bP];rfl);obtain⟨N,bj⟩:=nZ f.length;obtain⟨M,bi⟩:=nZ j.length;have b0:=qZ bj;have bz:=qZ bi;rw[bj]at b9 bt ak⊢;rw[bi]at b7 bu ak⊢;obtain⟨br,ao⟩:=nZ (W.alloc (.cells #[.slice A N ca,.slice B M bg,aI,aK] 26));have am:=aB ao;have cc:=aX ao;have al:=qY (¬qK b v (W:Nat)) (λg=>by have:=h.foot g;omega);have af:=qZ cc;have cp:=qZ ao;have b3:=qZ (jI.refl (h.below am));have ci:=qZ (aO.bS (F:=qK b v) am);have b5:=qZ (bh.trans (am.mono bh.size));have bs:=qZ b6;clear bm bn bj bi h bh b6 am cc ao b8 a9 ba bb bc bd;go_enter func260,ntmps260;go_upto_region 1 with fail;rw[cp.out];have l:CV br W 0 (.slice A N ca):=af.cell 0;go_wp2_with fail;refine(xG b3 [(N:Int)] bt (by simp;omega)).mono ?_;rintro e w1⟨rfl,d⟩;have cn:=qZ d;have c0:CV w1 W 0 (.slice A N ca):=(d.cK af al).cell 0;clear l d b3;go_wp2_with fail;go_loopg[17] N (λct bp wr=>∃k:Nat,bp=.int .i64 k/\k<=N/\N<=ct+k/\Hid (jI br b v ((o++Top.bytes [(N:Int)])++Top.bytes ((f.take k).flatMap mV)) wr));case atStart=>exact⟨0,mZ,oZ,oZ,qZ (by have:=cn.out;simpa[Top.bytes]using this)⟩
 case round=>
  obtain⟨k,rfl,ah,dc,m⟩:=hrel;by_cases bk:k<N
  .have cy:(k:Int)<(N:Int):=oZ;have r:k<f.length:=by rw[b0.out];exact bk
   obtain⟨cs,cz,rfl,bl,ag⟩:=oH cd r;have bo:=ag wr (m.under b5 bs);have n:=cj.out _ (bB r);have ae:=qZ (ZN mV f r);have y:=qZ (bw k);generalize f[k]=x at*;obtain⟨p,Z,⟨a0,a1,a2⟩,⟨Q,b1,b2⟩,⟨X,c1,c2⟩⟩:=x;obtain⟨l,p1,p2,p3,p4,w,p6,aq,ar,au,ap⟩:=bo;simp only at l p1 p2 p3 p4 w p6 aq ar au ap;have be:=qZ (xH (a:=[p+1,Z]) n (by simp[mV]));have bf:=qZ (xH (a:=[a0,a1,a2]) n (by simp[mV,nL]));have cq:=qZ (xH (a:=[Q,b1,b2]) n (by simp[mV,nL]));have cr:=qZ (xH (a:=[X,c1,c2]) n (by simp[mV,nL]));have dg:=n (p+1) (by simp[mV]);have dh:IntKind.i64.wrap (p+1)=p+1:=by simp only[IntKind.wrap,IntKind.bits,IntKind.signed];simp;omega
   obtain⟨O,K⟩:=nZ ((o++Top.bytes [(N:Int)])++Top.bytes ((f.take k).flatMap mV));have cx:O.length<=2000:=by rw[<-K];have:=y.out;simp only[aW,jQ,List.length_cons,List.length_nil];omega
   have ay:=qY ((((O++Top.bytes [p+1,Z])++Top.bytes [a0,a1,a2])++Top.bytes [Q,b1,b2])++Top.bytes [X,c1,c2]=(o++Top.bytes [(N:Int)])++Top.bytes ((f.take (k+1)).flatMap mV)) (by rw[ae.out,Top.bytes_append,<-bP,K];simp only[bP];rfl);rw[K]at m;obtain⟨vr,L,ai,aj⟩:=m.out;obtain⟨H,s⟩:=nZ (wr.alloc (.cells #[p,Z,a0,a1,a2,Q,b1,b2,X,c1,c2] 66));have J:=aB s;have I:=qY (Blk H wr 66 #[p,Z,a0,a1,a2,Q,b1,b2,X,c1,c2]) (by rw[<-s];exact Blk.new _ _ _);have aa:=qY (¬qK b vr (wr:Nat)) (λg=>by have:=L.foot g;omega);have a5:=qZ (jI.refl (L.below J));have ax:=qZ (ai.trans (aO.bS J));have aw:=qZ aj;have a8:=qZ s;clear ag r bl K L ai aj J s n ae y;go_upto_region 5 with fail;rw[a8.out];clear l p1 p2 p3 p4 w p6 aq ar au ap;have x:=I.out;have l:CI H wr 0 p:=x.cell 0;have p1:CI H wr 1 Z:=x.cell 1;clear x;go_wp2_with fail;refine(xG a5 [p+1,Z] be (by simp;omega)).mono ?_;rintro e z⟨rfl,d⟩;have x:=d.cK I aa;have az:=qZ d;clear l p1 d;obtain⟨p2,p3,p4⟩:CI z wr 2 a0/\CI z wr 3 a1/\CI z wr 4 a2:=⟨x.cell 2,x.cell 3,x.cell 4⟩;clear x;go_wp2_with fail;refine(FM az a0 a1 a2 bf (by simp[jQ];omega)).mono ?_;rintro e av⟨rfl,d⟩;have x:=d.cK I aa;have ab:=qZ d;clear p2 p3 p4 d;obtain⟨w,p6,aq⟩:CI av wr 5 Q/\CI av wr 6 b1/\CI av wr 7 b2:=⟨x.cell 5,x.cell 6,x.cell 7⟩;clear x;go_wp2_with fail;refine(FM ab Q b1 b2 cq (by simp[jQ];omega)).mono ?_;rintro e bq⟨rfl,d⟩;have x:=d.cK I aa;have co:=qZ d;clear w p6 aq d;obtain⟨ar,au,ap⟩:CI bq wr 8 X/\CI bq wr 9 c1/\CI bq wr 10 c2:=⟨x.cell 8,x.cell 9,x.cell 10⟩;clear x;go_wp2_with fail;refine(FM co X c1 c2 cr (by simp[jQ];omega)).mono ?_;rintro e di⟨rfl,d⟩;have ad:=qZ (jI.after ax aw (d.len ay));clear ar au ap d;go_wp2_with fail;go_roundg(N-(k+1));case measure=>omega
   case rel=>exact⟨k+1,mZ,oZ,oZ,ad⟩
  .have cw:¬(k:Int)<(N:Int):=oZ;have u:=m.out;have g:=ch.out k (by rw[b0.out];omega);rw[g]at u;have b4:=qZ u;have x:=u.cK af al;have y:=qY (((o++Top.bytes [(N:Int)])++Top.bytes (f.flatMap mV)).length<=2000) (by have:=bw.out k;rw[g]at this;simp only[aW,jQ,List.length_cons,List.length_nil];omega);clear u g c0;have p1:CV wr W 1 (.slice B M bg):=x.cell 1;clear x;obtain⟨O,K⟩:=nZ ((o++Top.bytes [(N:Int)])++Top.bytes (f.flatMap mV));rw[K]at b4 ak y;have df:=y.out;clear K;go_wp2_with fail;refine(xG b4 [(M:Int)] bu (by simp;omega)).mono ?_;rintro e db⟨rfl,d⟩;have az:=qZ d;have da:CV db W 1 (.slice B M bg):=(d.cK af al).cell 1;clear p1 d m;go_wp2_with fail;go_loopg[51] M (λcu bp wr=>∃k:Nat,bp=.int .i64 k/\k<=M/\M<=cu+k/\Hid (jI br b v ((O++Top.bytes [(M:Int)])++Top.bytes ((j.take k).flatMap qA)) wr));case atStart=>exact⟨0,mZ,oZ,oZ,qZ (by have:=az.out;simpa[Top.bytes]using this)⟩
   case round=>
    obtain⟨k,rfl,ah,dd,m⟩:=hrel;by_cases bk:k<M
    .have cy:(k:Int)<(M:Int):=oZ;have r:k<j.length:=by rw[bz.out];exact bk
     obtain⟨cs,cz,rfl,bl,ag⟩:=rW ce r;have bo:=ag wr (m.under b5 bs);have n:=ck.out _ (bB r);have ae:=qZ (ZN qA j r);have y:=qZ (bv k);generalize j[k]=x at*;obtain⟨fl,T,Y,⟨a0,a1,a2⟩⟩:=x;obtain⟨l,p1,p2,p3,p4,w⟩:=bo;simp only at l p1 p2 p3 p4 w;have be:=qZ (xH (a:=[fl,T,Y]) n (by simp[qA]));have bf:=qZ (xH (a:=[a0,a1,a2]) n (by simp[qA,nL]));obtain⟨l2,an⟩:=nZ ((O++Top.bytes [(M:Int)])++Top.bytes ((j.take k).flatMap qA));have cx:l2.length<=4000:=by rw[<-an];have:=y.out;simp only[aW,jQ,List.length_cons,List.length_nil];omega
     have ay:=qY ((l2++Top.bytes [fl,T,Y])++Top.bytes [a0,a1,a2]=(O++Top.bytes [(M:Int)])++Top.bytes ((j.take (k+1)).flatMap qA)) (by rw[ae.out,Top.bytes_append,<-bP,an];simp only[bP];rfl);rw[an]at m;obtain⟨vr,L,ai,aj⟩:=m.out;obtain⟨H,s⟩:=nZ (wr.alloc (.cells #[fl,T,Y,a0,a1,a2] 131));have J:=aB s;have I:=qY (Blk H wr 131 #[fl,T,Y,a0,a1,a2]) (by rw[<-s];exact Blk.new _ _ _);have aa:=qY (¬qK b vr (wr:Nat)) (λg=>by have:=L.foot g;omega);have a5:=qZ (jI.refl (L.below J));have ax:=qZ (ai.trans (aO.bS J));have aw:=qZ aj;have a8:=qZ s;clear ag r bl an L ai aj J s n ae y;go_upto_region 14 with fail;rw[a8.out];clear l p1 p2 p3 p4 w;have x:=I.out;obtain⟨l,p1,p2⟩:CI H wr 0 fl/\CI H wr 1 T/\CI H wr 2 Y:=⟨x.cell 0,x.cell 1,x.cell 2⟩;clear x;go_wp2_with fail;refine(xG a5 [fl,T,Y] be (by simp;omega)).mono ?_;rintro e z⟨rfl,d⟩;have x:=d.cK I aa;have ab:=qZ d;clear l p1 p2 d;obtain⟨p3,p4,w⟩:CI z wr 3 a0/\CI z wr 4 a1/\CI z wr 5 a2:=⟨x.cell 3,x.cell 4,x.cell 5⟩;clear x;go_wp2_with fail;refine(FM ab a0 a1 a2 bf (by simp[jQ];omega)).mono ?_;rintro e av⟨rfl,d⟩;have ad:=qZ (jI.after ax aw (d.len ay));clear p3 p4 w d;go_wp2_with fail;go_roundg(M-(k+1));case measure=>omega
     case rel=>exact⟨k+1,mZ,oZ,oZ,ad⟩
    .have cw:¬(k:Int)<(M:Int):=oZ;have u:=m.out;have g:=cg.out k (by rw[bz.out];omega);rw[g]at u;have ab:=qZ u;have x:=u.cK af al;have cm:=qY (((O++Top.bytes [(M:Int)])++Top.bytes (j.flatMap qA)).length<=4000) (by have:=bv.out k;rw[g]at this;simp only[aW,jQ,List.length_cons,List.length_nil];omega);clear u g da;obtain⟨p2,p3⟩:CI wr W 2 aI/\CI wr W 3 aK:=⟨x.cell 2,x.cell 3⟩;clear x;go_wp2_with fail;refine(xG ab [aI,aK] cl (by have:=cm.out;simp only[List.length_cons,List.length_nil];omega)).mono ?_;rintro e z⟨rfl,d⟩;have ad:=qZ (jI.after ci (λi hi=>.inl hi) (d.len ak));clear p2 p3 d;go_wp2_with fail
     go_end0
     exact⟨rfl,ad⟩
end bU
end Go.Proofs.YtedmeglbjmdlhaaGreatDoor
