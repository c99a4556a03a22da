/-
TopHead: whatever commands came ahead, the start that was reserved holds: when time has gone on to it and nothing but rounds came between, the head fits. Conditions: none beyond the card.
-/
import Derived.Test.YtedmeglbjmdlhaaGreatDoorGXHead61
import Derived.Test.YtedmeglbjmdlhaaGreatDoorG32
import Derived.Test.YtedmeglbjmdlhaaGreatDoorGXHead50
set_option maxRecDepth 100000
set_option maxHeartbeats 16000000
set_option linter.all false
open Go.Proofs.Tryz
namespace Go.Proofs.YtedmeglbjmdlhaaGreatDoor
open Go
open L Top bM bU
variable{n z:Nat}{s:Top.S}{W:World}
namespace bU
open Go Go.RowKit L bM eZ Srt
theorem VR(W:World):bX W (.agg #[true,true,(),()]) Top.noC:=⟨_,_,rfl,⟨none,0,rfl,λe=>absurd rfl e,dZ⟩,⟨none,0,rfl,λe=>absurd rfl e,dZ⟩⟩
theorem aai{d:Array Value}(h:StV W z d s)(m:Top.Good n s)(o:n<=1000):∀w1,Below W W w1->Calls prog 13 #[.agg d] w1 λe w'=>∃f c,e=.returned (.tuple #[.agg f,c])/\StV w' (w1:Nat) f (Top.run s).1/\bQ w' w1 49 3 oQ c (Top.run s).2/\Below w1 w1 w':=by intro w1 l;obtain⟨_,_,_,_,_,_,e,a,b⟩:=h.out;rw[<-e];refine(afC a m o w1 l).mono ?_;rintro e w'⟨v1,v2,vp,vr,p,c,rl,rfl,g,i,j,k⟩;exact⟨_,c,rfl,⟨⟨_,_,_,_,_,rl,rfl,g,k _ lZ⟩⟩,i,j⟩
end bU
variable{ev:List Top.E}{k:Nat}
namespace bU
open Go Go.RowKit L bM eZ Srt
def uQ(ev:List Top.E):Int×Int×Bool:=((lV ev).map λe=>(e.id,e.n,true)).getD (0,0,false)
theorem agW(h:lV ev=none):uQ ev=(0,0,false):=by unfold uQ;rw[h];rfl
theorem amS(b:k<ev.length)(h:lV (ev.take k)=none)(e:ev[k].kind=4):uQ ev=(ev[k].id,ev[k].n,true):=by
 have a:lV (ev.take k++ev.drop k)=some ev[k]:=by unfold lV at h⊢;rw[List.find?_append,h,dM b,List.find?_cons];simp[e]
 rw[gU]at a;unfold uQ;rw[a];rfl
theorem ajF(a:k<ev.length)(h:lV (ev.take k)=none)(e:¬ev[k].kind=4):lV (ev.take (k+1))=none:=by unfold lV at h⊢;rw[bF a,List.find?_append,h];simp[e]
theorem ajG{W0:World}{b:Array Value}(h:StV W0 z b s)(a9:Top.Good n s)(bc:n<=1000):∀w1,Below W0 W0 w1->Calls prog 22 #[.agg b] w1 λe w'=>e=.returned (.tuple #[.int .i64 (uQ (Top.run s).2).1,.int .i64 (uQ (Top.run s).2).2.1,.bool (uQ (Top.run s).2).2.2])/\Below w1 w1 w':=by
 intro w1 ad;replace h:=h.below ad;obtain⟨am,o⟩:=nZ (w1.alloc (.cells b 31));have I:=aB o;have L:=aai (h.below I) a9 bc am (aJ _ _);obtain⟨ev,ag⟩:=nZ ((Top.run s).2);rw[ag]at L⊢;have Q:=qZ L;have ax:=qY (Blk am w1 31 b) (by rw[<-o];exact Blk.new _ _ _);have ap:=qZ h.info;have X:=qZ I;have av:=qZ o;clear I o h ad L ag;go_enter func22,ntmps22;go_upto_region 1 with fail;rw[av.out];go_wp2_with(refine wpList_load_row rfl 31 (.tmp 1) rfl (w1:Nat) rfl 31 b (0,0) _ ax underlying31 rfl ap ?_);refine Q.mono ?_;rintro e wc⟨f,bl,rfl,al,K,J⟩;have ab:ev.length<=maxLen:=by
  rcases K.form with⟨_,e⟩|⟨g,c,_,_,_,a0,a5⟩
  .rw[e];decide
  .exact aV a0 a5
 obtain⟨A,cap,rfl,ak⟩:=K.sl GK;obtain⟨N,H⟩:=nZ ev.length;rw[H]at ab⊢;unfold maxLen at ab;have ar:=qZ al;obtain⟨O,p⟩:=nZ (bx wc f);have aw:=qZ p;have i:=qY (Below w1 w1 O) (by rw[<-p];exact X.out.trans ((J.trans ((xB wc f).mono J.size)).mono X.size));have aq:=qY (gQ O A 3 oQ ev) (by rw[<-p];exact ak.below (xB wc f));have Y:=qZ H;clear al K J p ak H Q;go_upto_region 2 with(refine rZ rfl (.tmp 5) (.tmp 12) rfl rfl f rfl ar ?_);rw[aw.out];go_wp2_with fail;go_loopg[16] N (λaz be wr=>∃k:Nat,be=.int .i64 k/\k<=N/\N<=az+k/\Hid (lV (ev.take k)=none)/\Hid (aF O wr));case atStart=>exact⟨0,mZ,oZ,oZ,qZ (by simp[lV]),qZ (aJ _ _)⟩
 case round=>
  obtain⟨k,rfl,bi,bg,w,d⟩:=hrel;by_cases ba:k<N
  .have bj:(k:Int)<(N:Int):=oZ;have m:k<ev.length:=by rw[Y.out];exact ba
   obtain⟨y,M,rfl,bb,l⟩:=aq.dD m;have bd:CI wr y (M+k*3) (ev[k].kind):=l wr d 0 _ rfl;have p1:CI wr y (M+k*3+1) (ev[k].id):=l wr d 1 _ rfl;have p2:CI wr y (M+k*3+2) (ev[k].n):=l wr d 2 _ rfl;have a:Hid (ev[k].kind=4->uQ ev=(ev[k].id,ev[k].n,true)):=qZ (λe=>amS m w e);have j:=qZ (λe:¬ev[k].kind=4=>ajF m w e);obtain⟨u,aj⟩:=nZ (ev[k].kind);obtain⟨id,ah⟩:=nZ (ev[k].id);obtain⟨aa,af⟩:=nZ (ev[k].n);rw[aj]at bd j a;rw[ah]at p1 a;rw[af]at p2 a;clear l m bb aj ah af;obtain⟨an,r⟩:=nZ (wr.alloc (.cells #[u,id,aa] 49));have ae:=aB r;have v:=aX r;have T:=qZ (aA d ae);have Z:=qZ r;have bm:CI an wr 0 u:=v.cell 0;have bk:∀W,aF an W->CI W wr 1 id/\CI W wr 2 aa:=λW a8=>have x:=(v.below a8 v.lt);⟨x.cell 1,x.cell 2⟩;clear r ae v;by_cases F:u=4
   .subst F;have ay:=qZ (a rfl);clear j a;go_upto_region 5 with fail;rw[Z.out];go_upto_region 6 with fail;refine QD (.take 0 (.take 1 (.take 2 (.take 3 (.take 4 (.take 5 (.take 6 .done))))))) kZ kZ ?_;(iterate 7 refine tT ?_);refine fZ ?_;go_wp2_with fail;go_ret3;rw[ay.out];exact⟨rfl,i.out.trans (Below.mono (Below.drew T) i.size)⟩
   .have bf:(u==4)=false:=by simpa using F
    have au:=qZ (j F);clear j a;go_upto_region 5 with fail;rw[Z.out];go_wp2_with fail;go_roundg(N-(k+1));case measure=>omega
    case rel=>exact⟨k+1,mZ,oZ,oZ,au,T⟩
  .have bh:¬(k:Int)<(N:Int):=oZ;have ai:k=ev.length:=by have:=Y.out;omega
   have ao:=qZ (agW (show lV ev=none from by have:=w.out;rw[ai,List.take_length]at this;exact this));clear ai;go_wp2_with fail;go_ret3;rw[ao.out];exact⟨rfl,i.out.trans (d.mono i.size)⟩
end bU
end Go.Proofs.YtedmeglbjmdlhaaGreatDoor
