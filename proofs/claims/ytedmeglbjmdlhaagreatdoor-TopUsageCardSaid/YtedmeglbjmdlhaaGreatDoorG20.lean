/-
Parts that the laws of the whole program share: contracts of its functions, and plain laws.
-/
import Derived.Test.YtedmeglbjmdlhaaGreatDoorG15
import Derived.Test.YtedmeglbjmdlhaaGreatDoorG6
set_option maxRecDepth 100000
set_option maxHeartbeats 16000000
set_option linter.all false
open Go.Proofs.Tryz
namespace Go.Proofs.YtedmeglbjmdlhaaGreatDoor
open Go
open L Ord Quo Tree bM eZ sK
variable{p:Ord.P}{W:World}
namespace eZ
open Go Go.RowKit L bM
def WX(W:World)(b:Nat)(p:Ord.P):Prop:=Blk W b 44 (eP p)
theorem WX.cells{b:Nat}(h:WX W b p):∀W',aF W W'->W'.cell? (b,0)=some (.int .i64 p.id)/\W'.cell? (b,1)=some (.int .i64 p.dN)/\W'.cell? (b,2)=some (.int .i64 p.eU)/\W'.cell? (b,3)=some (.int .i64 p.need.x)/\W'.cell? (b,4)=some (.int .i64 p.need.y)/\W'.cell? (b,5)=some (.int .i64 p.need.z)/\W'.cell? (b,6)=some (.int .i64 p.run)/\W'.cell? (b,7)=some (.int .i64 p.aR)/\W'.cell? (b,8)=some (.int .i64 p.prefer)/\W'.cell? (b,9)=some (.int .i64 p.seq)/\W'.cell? (b,10)=some (.int .i64 p.since):=λW' k=>by have a:WX W' b p:=Blk.below h k (Blk.lt h);exact⟨Blk.cell a 0,Blk.cell a 1,Blk.cell a 2,Blk.cell a 3,Blk.cell a 4,Blk.cell a 5,Blk.cell a 6,Blk.cell a 7,Blk.cell a 8,Blk.cell a 9,Blk.cell a 10⟩
structure NV (c:Cfg.C) (aN:Int):Prop where
 aK:InI c.aK
 aN:InI aN
end eZ
variable{c:Cfg.C}{h:List Nat}{n:Nat}{v1 v2 vp vr:Value}{w:World}
namespace eZ
open Go Go.RowKit L bM
theorem ahk{b4:Value}{aN next:Int}(N:EA w v1 v2 b4 c h)(cz:c.aP≠[])(ar:NV c aN)(f:yK w n v1 v2 c.aI c.aK aN next vp vr b4)(a b:Ord.P)(cn:InI a.since)(s:InI b.since):gX prog w 80 #[.pointer n,.agg (eP a),.agg (eP b)] (.int .i64 (Ord.cmp c h aN a b)):=by
 intro w1 bu;replace N:=N.below bu;replace f:=f.below bu;clear bu;have F:=qZ (λt W d=>apu N.cfg N.len cz t W d);have ad:=qZ (λx y=>ams N f x y);have ay:=qZ (aC (ahE v1 v2 c.aI c.aK aN a ar.aK ar.aN cn) (ahE v1 v2 c.aI c.aK aN b ar.aK ar.aN s));have l:=qY (Ord.cmp c h aN a b=if nS c aN a=true/\nS c aN b=false then-1 else if nS c aN b=true/\nS c aN a=false then 1 else if nS c aN a=true then Ord.num a.seq b.seq else Ord.or2 (Ord.tree c h a.dN b.dN) (Ord.num a.seq b.seq)) rfl;have az:=qZ (aC (show Ord.tree c h a.dN b.dN=Ord.lex (aP c h) (Tree.path c a.dN) (Tree.path c b.dN)from rfl) (abx c h a.dN));have bj:=qY (∀t:Int,(Tree.path c t).length<=1000000) (λt=>by have:=zK c t;have:=N.len;unfold Tree.path;rw[List.length_reverse];omega);have bm:=qZ (aC (show nS c aN a=Ord.old c.aK aN a.since from rfl) (show nS c aN b=Ord.old c.aK aN b.since from rfl));rw[<-bm.out.1,<-bm.out.2]at ay;obtain⟨r,j⟩:=nZ (Ord.cmp c h aN a b);rw[j]at l⊢;generalize nS c aN a=x at*;generalize nS c aN b=y at*;obtain⟨aI,cw⟩:=nZ c.aI;obtain⟨aK,co⟩:=nZ c.aK;rw[cw,co]at F ay f;clear N ar cn s cw co j bm cz;have Z:Below w1 w1 ((w1.alloc (.cells (eP a) 44)).alloc (.cells (eP b) 44)):=by have O:(w1.alloc (.cells (eP a) 44)).heap.size=(w1:Nat)+1:=sZ;exact kp
 have au:WX ((w1.alloc (.cells (eP a) 44)).alloc (.cells (eP b) 44)) (w1:Nat) a:=Blk.alloc (Blk.new w1 44 (eP a)) _;have aa:WX ((w1.alloc (.cells (eP a) 44)).alloc (.cells (eP b) 44)) ((w1:Nat)+1) b:=by have h:=Blk.new (w1.alloc (.cells (eP a) 44)) 44 (eP b);simp only[bC]at h;exact h
 have db:yK ((w1.alloc (.cells (eP a) 44)).alloc (.cells (eP b) 44)) n v1 v2 aI aK aN next vp vr b4:=f.below Z
 have cb:=qZ (aC db (aC Z (aC au aa)));clear f Z db au aa;obtain⟨a0,a1,a2,⟨a3,a4,ds⟩,a6,a7,dt,u,dr⟩:=a;obtain⟨du,b1,b2,⟨b3,dw,dx⟩,dy,dz,d0,v,dv⟩:=b;simp only[eP]at*;go_enter func80,ntmps80;go_wp2_with fail;generalize(w1.alloc (.cells #[a0,a1,a2,a3,a4,ds,a6,a7,dt,u,dr] 44)).alloc (.cells #[du,b1,b2,b3,dw,dx,dy,dz,d0,v,dv] 44)=I at*;obtain⟨f,Z,au,aa⟩:=cb.out;have dg:=qZ Z;have el:(w1:Nat)+1<(I:Nat):=Blk.lt aa;have Q:=λW' (k:aF I W')=>k.cell f.lt f.c0;have T:=λW' (k:aF I W')=>k.cell f.lt f.c1;have X:=λW' (k:aF I W')=>k.cell f.lt f.c2;have Y:=λW' (k:aF I W')=>k.cell f.lt f.c3;have dq:=λW' (k:aF I W')=>k.cell f.lt f.c4;have A:=λW' (k:aF I W')=>au.cells W' k;have B:=λW' (k:aF I W')=>aa.cells W' k
 dsimp only at A B
 obtain⟨ag,ah⟩:=ay.out;have J:=qZ (aC Q (aC T (aC X (aC Y (aC A B)))));clear f Z au aa cb ay;refine kK ?_;(repeat refine kY ?_);refine kM ?_ (h:=by intro W d;go_simp;first|exact bW.up ag d|exact⟨d,bW.up ag d⟩);(repeat refine kY ?_);refine kM ?_ (h:=by intro W d;go_simp;first|exact bW.up ah d|exact⟨d,bW.up ah d⟩);(repeat refine kY ?_);refine eH ?_;intro W d;have m:=qZ d;clear ag ah Q T X Y dq A B;have H:=qZ (aA dg m);obtain⟨Q,T,X,Y,A,B⟩:=J.out;obtain⟨-,d8,-,-,-,-,-,-,-,d9,-⟩:=A W d;obtain⟨-,p1,-,-,-,-,-,-,-,d7,-⟩:=B W d;clear Q T X Y A B d;have em:(w1:Nat)+1<(W:Nat):=by have:=m.size;omega
 cases x
 .cases y
  .have j:r=Ord.or2 (Ord.tree c h a1 b1) (Ord.num u v):=by rw[l.out];simp
   have aw:Hid (∀w,Calls prog 134 #[u,v] w λe w'=>e=.returned (.int .i64 (Ord.num u v))/\w=w'):=qZ (λw=>wT u v w);generalize Ord.num u v=q at*;by_cases bt:a1=b1
   .have ab:r=Ord.or2 0 q:=by rw[j,<-bt,az.out.2]
    have b0:(a1 !=b1)=false:=by simp[bt]
    have bk:=qZ ab;clear j ab l F ad J az;go_wp2_with fail;refine(aw _).mono ?_;rintro e de⟨rfl,rfl⟩;have ak:(W.alloc (.cells #[(),q] 3)).cell? (W,0)=some (.int .i64 0):=by simp[go_sem]
    have al:(W.alloc (.cells #[(),q] 3)).cell? (W,1)=some (.int .i64 q):=by simp[go_sem]
    have bf:=qZ (YW (w:=W.alloc (.cells #[(),q] 3)) (b:=(W:Nat)) sZ 0 q ak al);have bg:=qZ ((aJ (W:Nat) W).alloc lZ (.cells #[(),q] 3));clear ak al;go_wp2_with fail;refine bf.mono ?_;rintro e eb⟨rfl,am⟩;have bh:=qZ (aA (aA H bg) am);clear am;go_wp2_with fail;go_ret;exact⟨by rw[bk.out];rfl,bh⟩
   .have b0:(a1 !=b1)=true:=by simp[bt]
    obtain⟨t,ab⟩:=nZ (Ord.tree c h a1 b1);have dl:=qY (t=Ord.lex (aP c h) (Tree.path c a1) (Tree.path c b1)) (by rw[<-ab];exact az.1);have bk:=qY (r=Ord.or2 t q) (by rw[j,ab]);have ai:∀W',aF W W'->Calls prog 135 #[.agg #[v1,v2,aI,aK],a1] W' λe w'=>sU (Tree.path c a1) W' e w':=λW' bs=>F a1 W' (aA H bs);have aj:∀W',aF W W'->Calls prog 135 #[.agg #[v1,v2,aI,aK],b1] W' λe w'=>sU (Tree.path c b1) W' e w':=λW' bs=>F b1 W' (aA H bs);have cx:=bj.out a1;have cy:=bj.out b1;generalize Tree.path c a1=PA at*;generalize Tree.path c b1=PB at*;have b6:=qZ (aC ai aj);clear j ab l az F ai aj bj;go_wp2_with fail;obtain⟨ai,aj⟩:=b6.out;obtain⟨cc,cd,ce,cg,be,B'⟩:=J.out;have Q:=λW' (k:aF W W')=>cc W' (aA m k);have T:=λW' (k:aF W W')=>cd W' (aA m k);have X:=λW' (k:aF W W')=>ce W' (aA m k);have Y:=λW' (k:aF W W')=>cg W' (aA m k);have df:=λW' (k:aF W W')=>(be W' (aA m k)).2.1;have B1:=λW' (k:aF W W')=>(B' W' (aA m k)).2.1;have b5:=qZ (aC (λW' (k:aF W W')=>(be W' (aA m k)).2.2.2.2.2.2.2.2.2.1) λW' (k:aF W W')=>(B' W' (aA m k)).2.2.2.2.2.2.2.2.2.1);clear cc cd ce cg be B' d8 d9 p1 d7 b6 J;refine UA [(0,true),(1,true),(2,true),(3,true),(4,true),(5,true),(6,true),(7,true),(9,true),(10,true),(11,true),(12,true),(13,true),(14,true),(15,true),(16,true),(8,false),(17,false),(18,true),(19,true)] kZ kZ ?_;(repeat apply IY;(focus rfl);(focus rfl);(focus(intro W d;go_simp;first|done|exact⟨rfl,rfl⟩|rfl));(focus(go_simp;first|done|rfl)));apply IZ;(focus rfl);(focus rfl);(focus(go_simp;first|done|exact⟨⟨rfl,rfl⟩,rfl⟩|rfl));refine(ai _ (aF.drew _)).mono ?_;rintro e ep⟨dd,rfl,cj,an⟩;refine⟨dd,rfl,aA (aF.drew W) an,?_⟩;apply IZ;(focus rfl);(focus rfl);(focus(go_simp;first|done|exact⟨⟨rfl,rfl⟩,rfl⟩|rfl));refine(aj _ (aA (aF.drew W) an)).mono ?_;rintro e bd⟨ea,rfl,cl,bb⟩;refine⟨ea,rfl,aA (aA (aF.drew W) an) bb,?_⟩;(repeat apply IY;(focus rfl);(focus rfl);(focus(intro W d;go_simp;first|done|exact⟨rfl,rfl⟩|rfl));(focus(go_simp;first|done|rfl)));refine aeC ?_;have c0:aF W bd:=aA (aA (aF.drew W) an) bb;have b9:=qZ c0;have ck:nC bd W.drew.heap.size dd PA:=fI.below cj bb;obtain⟨ed,c1,rfl,cs⟩:=pQ ck;obtain⟨ee,c2,rfl,ct⟩:=pQ cl;have dh:=qZ cs;have di:=qZ ct;obtain⟨g,bq⟩:=nZ PA.length;obtain⟨o,br⟩:=nZ PB.length;have bi:=qZ bq;have ax:=qZ br;rw[bq]at cx⊢;rw[br]at cy⊢;clear cj ck cl an bb cs ct bq br Q T X Y df B1 c0 ai aj;go_wp2_with fail;refine(wT (g:Int) (o:Int) _).mono ?_;rintro e eq⟨rfl,rfl⟩;go_upto_block 1 with fail;have ef:=qZ (aC cx cy);obtain⟨z,O⟩:=nZ (Ord.num (g:Int) (o:Int));have dn:=qZ O;rw[O];clear O;go_cut[9] (λx ec=>x=.int .i64 t/\aF bd ec);case first=>
     go_wp2_with fail;go_loopw [9,91] (λx i wr=>∃k:Nat,x=.int .i64 z/\i=.int .i64 (k:Int)/\k<=g/\k<=o/\Hid (t=Ord.lex (aP c h) (PA.drop k) (PB.drop k))/\aF bd wr) (λ_ i _=>g-(intOf i).toNat);case atStart=>exact⟨0,rfl,rfl,oZ,oZ,qZ (by simpa using dl.out),aJ _ _⟩
     case round=>
      obtain⟨k,rfl,rfl,ej,ek,av,s⟩:=hrel;have a5:=qZ s;by_cases ci:k<g/\k<o
      .obtain⟨bo,bp⟩:=ci;have ao:k<PA.length:=by rw[bi.out];exact bo
       have ap:k<PB.length:=by rw[ax.out];exact bp
       obtain⟨x,f⟩:=nZ (PA[k]);obtain⟨y,bz⟩:=nZ (PB[k]);have cu:PA.drop k=x::PA.drop (k+1):=by rw[<-f];exact dM ao
       have cv:PB.drop k=y::PB.drop (k+1):=by rw[<-bz];exact dM ap
       have M:=av.out;rw[cu,cv,Ord.lex]at M;obtain⟨ag,rfl,-,bv,cq⟩:=dh.out k x (by rw[aH ao,f]);obtain⟨ah,rfl,-,bw,cr⟩:=di.out k y (by rw[aH ap,bz]);have ae:=λW (d:aF wr W)=>d.cell (aM bv s.size) ((Below.cell (p:=⟨ag,k,none⟩) s bv).trans cq);have af:=λW (d:aF wr W)=>d.cell (aM bw s.size) ((Below.cell (p:=⟨ah,k,none⟩) s bw).trans cr);have aq:(k:Int)<min (g:Int) (o:Int):=oZ;have d6:decide ((k:Int)<min (g:Int) (o:Int))=true:=by simpa using aq
       have b8:=qZ (aC ae af);have eh:(k:Int)<(g:Int):=oZ;have ei:(k:Int)<(o:Int):=oZ;clear cq cr bv bw f bz cu cv ao ap s ae af aq;go_wp2_with fail;obtain⟨ae,af⟩:=b8.out;refine kK ?_;(repeat refine kY ?_);refine eH ?_;intro ch ba;have bl:=qZ ba;have a8:=λW' (bn:aF ch W')=>ae W' (aA ba bn);have a9:=λW' (bn:aF ch W')=>af W' (aA ba bn);have ca:=qZ (aC a8 a9);clear ae af ba b8 a8 a9;by_cases dc:x=y
       .subst dc;rw[aG rfl]at M;have dk:=qZ M;have b0:((x:Int) !=(x:Int))=false:=sZ;clear M av;go_wp2_with fail;go_roundw;case rel=>exact⟨k+1,rfl,mZ,oZ,oZ,dk,aA a5 bl⟩
        case measure=>simp[intOf];omega
       .rw[aD dc]at M;have b0:((x:Int) !=(y:Int))=true:=by simp;omega
        have K:=(ad x y).up (aA (aA (aA H b9) a5) bl);rw[<-M]at K;have b7:=qZ K;clear M av K;go_wp2_with fail;obtain⟨a8,a9⟩:=ca.out;have K:=b7.out;refine kK ?_;(repeat refine kY ?_);refine kM ?_ (h:=by intro W d;go_simp;first|exact K W d|exact⟨d,K W d⟩);(repeat refine kY ?_);refine eH ?_;intro eg cm;have dj:=qZ (aA (aA a5 bl) cm);clear a8 a9 ca K b7 cm;go_wp2_with fail;go_meet;exact⟨rfl,dj⟩
      .have O:z=t:=by
        rw[<-dn.out,av.out];unfold Ord.num;by_cases bo:k<g
        .have ao:k<PA.length:=by rw[bi.out];exact bo
         rw[dM ao,show PB.drop k=[]from jA (by rw[ax.out];omega),aD oZ,aG oZ];rfl
        .rw[show PA.drop k=[]from jA (by rw[bi.out];omega)];by_cases bp:k<o
         .have ap:k<PB.length:=by rw[ax.out];exact bp
          rw[dM ap,aG oZ];rfl
         .rw[show PB.drop k=[]from jA (by rw[ax.out];omega),aD oZ,aD oZ];rfl
       have aq:¬(k:Int)<min (g:Int) (o:Int):=oZ;have d6:decide ((k:Int)<min (g:Int) (o:Int))=false:=by simpa using aq
       have dp:=qZ O;clear O av s ci aq;go_wp2_with fail;go_meet;exact⟨by rw[dp.out],a5⟩
    case rest=>
     obtain⟨rfl,cp⟩:=hcut;have bc:aF W wc:=aA b9 cp;have dm:=qZ (aA H bc);have en:=b5.1 wc bc;have eo:=b5.2 wc bc;clear bc cp;go_wp2_with fail;refine(aw _).mono ?_;rintro e de⟨rfl,rfl⟩;have ak:(wc.alloc (.cells #[t,q] 3)).cell? (wc,0)=some (.int .i64 t):=by simp[go_sem]
     have al:(wc.alloc (.cells #[t,q] 3)).cell? (wc,1)=some (.int .i64 q):=by simp[go_sem]
     have bf:=qZ (YW (w:=wc.alloc (.cells #[t,q] 3)) (b:=(wc:Nat)) sZ t q ak al);have bg:=qZ ((aJ (wc:Nat) wc).alloc lZ (.cells #[t,q] 3));clear ak al;go_wp2_with fail;refine bf.mono ?_;rintro e eb⟨rfl,am⟩;have bh:=qZ (aA (aA dm bg) am);clear am;go_wp2_with fail;go_ret;exact⟨by rw[bk.out];rfl,bh⟩
  .have j:r=1:=by rw[l.out];simp
   subst j;clear l F ad J;go_wp2_with fail;go_ret;exact⟨rfl,H⟩
 .cases y
  .have j:r= -1:=by rw[l.out];simp
   subst j;clear l F ad J;go_wp2_with fail;go_ret;exact⟨rfl,H⟩
  .have da:Ord.num u v=r:=by rw[l.out];simp
   have aw:Hid (∀w,Calls prog 134 #[u,v] w λe w'=>e=.returned r/\w=w'):=qZ (λw=>by rw[<-da];exact wT u v w);clear l F ad J da;go_wp2_with fail;refine(aw _).mono ?_;rintro e de⟨rfl,rfl⟩;go_wp2_with fail;go_ret;exact⟨rfl,H⟩
end eZ
end Go.Proofs.YtedmeglbjmdlhaaGreatDoor
