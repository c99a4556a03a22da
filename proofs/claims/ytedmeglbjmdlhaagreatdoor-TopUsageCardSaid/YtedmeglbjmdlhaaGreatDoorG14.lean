/-
Parts that the laws of the whole program share: contracts of its functions, and plain laws.
-/
import Derived.Test.YtedmeglbjmdlhaaGreatDoorG9
set_option maxRecDepth 100000
set_option maxHeartbeats 16000000
set_option linter.all false
open Go.Proofs.Tryz
namespace Go.Proofs.YtedmeglbjmdlhaaGreatDoor
open Go
open Cfg L Ord Quo bM jN sK
variable{c:Cfg.C}{v:Value}{w:World}
namespace bM
open Go Go.RowKit L
def yB(l:List Vec.V)(k:Nat):List Vec.V:=l.take k++List.replicate (l.length-k) Vec.zero
theorem ajS(l:List Vec.V):yB l 0=List.replicate l.length Vec.zero:=by simp[yB]
theorem afv(l:List Vec.V)(k:Nat)(h:k<=l.length):(yB l k).length=l.length:=by simp[yB];omega
theorem anl(l:List Vec.V):yB l l.length=l:=by simp[yB]
theorem ank(l:List Vec.V)(k:Nat)(h:k<l.length):(yB l k).set k l[k]=yB l (k+1):=by
 unfold yB;apply gL;intro j;rw[List.getElem?_set,aW,bO,jZ];by_cases a:k=j
 .subst a;rw[aG rfl,aG oZ,dG (by rw[bO];omega),eB,aG oZ,aH h]
 .rw[aD a];by_cases b:j<k
  .rw[dG (by rw[bO];omega),dG (by rw[bO];omega),eB,eB,aG b,aG oZ]
  .rw[dI (by rw[bO];omega),dI (by rw[bO];omega),bO,bO,mJ,mJ];by_cases c:j<l.length
   .rw[aG oZ,aG oZ]
   .rw[aD oZ,aD oZ]
theorem agM(m:bX w v c)(aj:c.aP.length<=1000000)(n:Int):gX prog w 182 #[v,n] (dQ c n).val:=by
 intro w1 al;replace m:=m.below al;clear al;obtain⟨v1,v2,rfl,⟨A,ca,rfl,ar,bj⟩,⟨B,b,rfl,bn,bk⟩⟩:=id m;have ag:=qZ m;obtain⟨N,u⟩:=nZ c.aP.length;generalize c.aQ.length=M at*;generalize c.aI=aI at*;generalize c.aK=aK at*;have a8:=qZ u;have ba:=qZ ar;have a9:=qZ aj;rw[u]at ag aj⊢;have an:(iR c).length=N:=by unfold iR;rw[bN,u]
 have j:=qZ an;have ax:Below w1 w1 ((w1.alloc (.cells #[.slice A N ca,.slice B M b,aI,aK] 26)).alloc (.cells #[(),(),()] 40)):=kp;have Q:iB ((w1.alloc (.cells #[.slice A N ca,.slice B M b,aI,aK] 26)).alloc (.cells #[(),(),()] 40)) (w1:Nat) (.slice A N ca) (.slice B M b) aI aK:=(iB.new w1 _ _ aI aK).on (bZ);have Z:kH ((w1.alloc (.cells #[.slice A N ca,.slice B M b,aI,aK] 26)).alloc (.cells #[(),(),()] 40)) ((w1:Nat)+1) Vec.zero:=by have h:=kH.new (w1.alloc (.cells #[.slice A N ca,.slice B M b,aI,aK] 26)) Vec.zero;simp only[bC]at h;exact h
 have au:((w1.alloc (.cells #[.slice A N ca,.slice B M b,aI,aK] 26)).alloc (.cells #[(),(),()] 40)).heap.size=(w1:Nat)+1+1:=sZ;clear m ar bj bn bk u an;go_enter func182,ntmps182;obtain⟨cs,ao,W,p,bl⟩:=JA ((w1.alloc (.cells #[.slice A N ca,.slice B M b,aI,aK] 26)).alloc (.cells #[(),(),()] 40)) N oZ;rw[au]at W bl ao;have bq:=Q.on p;have aw:=Blk.below Z p (Blk.lt Z);obtain⟨ct,cc,cd,ce,cg⟩:=bq;have bc:=qZ aw;have bd:=qZ (aA ax p);have a5:=qZ W;have be:=qZ (Q.on p);clear ax Q Z p aw W au;go_wp2_with fail;clear ao cc cd ce cg;go_loopw [15] (λi wr=>∃k:Nat,i=.int .i64 (k:Int)/\k<=N/\iN wr ((w1:Nat)+1+1) (.slice (some ⟨(w1:Nat)+1+1,0,none⟩) N N) (yB (iR c) k)/\Below w1 w1 wr/\kH wr ((w1:Nat)+1) Vec.zero/\iB wr (w1:Nat) (.slice A N ca) (.slice B M b) aI aK) (λi _=>N-(intOf i).toNat);case atStart=>exact⟨0,rfl,oZ,by rw[ajS,j.out];exact a5,bd,bc,be⟩
 case round=>
  obtain⟨k,rfl,bh,a,d,hv,ab⟩:=hrel
  rename World=>wr
  by_cases o:k<N
  .have bi:k<c.aP.length:=by rw[a8.out];exact o
   obtain⟨J,cr,rfl,bg,am⟩:=oH ba bi;have bm:=am wr d;have ap:(iR c)[k]'(by rw[j.out];exact o)=c.aP[k].dQ:=by unfold iR;rw[List.getElem_map]
   generalize c.aP[k]=x at*;obtain⟨bt,bu,bw,bz,b0,b3,b4,b5,b6,b7,bv⟩:=bm;have cl:J<(wr:Nat):=aM bg d.size;have ck:(w1:Nat)+1+1<(wr:Nat):=(a.lt _ rfl).2;have cp:∀i,¬J=(wr:Nat)+i:=λi e=>oZ;have cq:¬J=(wr:Nat):=λe=>oZ;have cm:¬(w1:Nat)+1+1=(wr:Nat):=λe=>oZ;have Y:=ank (iR c) k (by rw[j.out];exact o);rw[ap]at Y;obtain⟨par,b8,⟨n0,n1,n2⟩,⟨bf,b1,b2⟩,⟨br,bs,l2⟩⟩:=x;simp only at bt bu bw bz b0 b3 b4 b5 b6 b7 bv;have T:k<(yB (iR c) k).length:=by rw[afv _ _ (by rw[j.out];exact bh),j.out];exact o
   obtain⟨-,-,cn,av⟩:=a.dD (i:=k) T;obtain⟨z,ay⟩:=nZ ((yB (iR c) k)[k]'T);rw[ay]at av;obtain⟨z0,z1,z2⟩:=z;obtain⟨az,p1,p2⟩:=av;simp only at az p1 p2;clear ay;have ch:=a.ok (k*3);have ci:=a.ok (k*3+1);have cj:=a.ok (k*3+2);have K:=a.set k ⟨n0,n1,n2⟩;rw[Y]at K;have y:=DF wr ((w1:Nat)+1+1) (k*3) ⟨n0,n1,n2⟩;have L:=EN (w0:=w1) d (g:=(w1:Nat)+1+1) oZ (k*3) ⟨n0,n1,n2⟩;have F:=Blk.bD hv y oZ;have ad:=ab.bD y oZ;unfold wW at y L F ad;have l:=(aJ _ (((wr.setCell ((w1:Nat)+1+1,k*3) n0).setCell ((w1:Nat)+1+1,k*3+1) n1).setCell ((w1:Nat)+1+1,k*3+2) n2)).alloc lZ (.cells #[par,b8,n0,n1,n2,bf,b1,b2,br,bs,l2] 66);have f:=qZ (aC (iN.below K l) (aC (aA L l) (aC (Blk.below F l (Blk.lt F)) (ad.on l))));clear T am ap Y a K y L l hv ab d F ad;go_wp2_with fail;go_roundw;case rel=>exact⟨k+1,mZ,oZ,f.1,f.2.1,f.2.2.1,f.2.2.2⟩
   case measure=>simp[intOf];omega
  .have e:k=N:=oZ;have ak:yB (iR c) k=iR c:=by rw[e,<-j.out];exact anl _
   rw[ak]at a;have g:=qZ (aey (ag.below d) a9 a.sl n);have co:decide (k<N)=false:=by simp;omega
   have aq:Tree.sum c n (iR c)=dQ c n:=rfl;rw[aq]at g;obtain⟨r,X⟩:=nZ (dQ c n);rw[X]at g;have bb:=qZ X;obtain⟨s,r1,r2⟩:=r;clear X aq;have ah:=qZ hv;have a0:=qZ d;obtain⟨x0,H,I,b9,cb⟩:=ab;clear a ak o e hv d;go_wp2_with fail;have ai:gX prog wr 180 #[.agg #[.slice A N ca,.slice B M b,aI,aK],n,.slice (some ⟨(w1:Nat)+1+1,0,none⟩) N N] (.agg #[s,r1,r2]):=g.out;refine(ai _ (aJ _ _)).mono ?_;clear ai;rintro e ae⟨rfl,O⟩;have aa:kH ae ((w1:Nat)+1) Vec.zero:=Blk.below ah O (Blk.lt ah);have af:=qZ (aA a0 O);obtain⟨⟨az,p1,p2⟩,p3,p4⟩:=aa.cells;have f:=qZ (aC (kH.store aa ⟨s,r1,r2⟩) (sO ae ((w1:Nat)+1) s r1 r2));clear O aa x0 H I b9 cb;go_wp2_with fail;rw[bb.out];generalize((ae.setCell ((w1:Nat)+1,0) s).setCell ((w1:Nat)+1,1) r1).setCell ((w1:Nat)+1,2) r2=Ws at*;obtain⟨bp,bo⟩:=f.out;obtain⟨⟨x0,H,I⟩,-,-⟩:=bp.cells;simp only[aU]at H I;refine bodyPost_ret (v:=.agg #[s,r1,r2]) (by simp[results,Tryz.results182,go_sem,x0,H,I]) rfl ⟨rfl,?_⟩;exact af.out.trans (bo.below af.size λi (e:i=(w1:Nat)+1)=>oZ)
end bM
variable{xs:List Vec.V}{va:Value}
namespace bM
open Go Go.RowKit L
def wO(c:Cfg.C)(used:List Vec.V)(n t:Int)(k:Nat):Vec.V:=(((Tree.below c n).take k).filter λ(s:Nat)=>(s:Int) !=t).foldl (λv s=>Vec.add v (Quo.own c used s)) Vec.zero
theorem agS(c:Cfg.C)(used:List Vec.V)(n t:Int):wO c used n t 0=Vec.zero:=rfl
theorem ajx(c:Cfg.C)(used:List Vec.V)(n t:Int)(k:Nat)(h:(Tree.below c n).length<=k):wO c used n t k=Quo.bD c used n t:=by unfold wO Quo.bD;rw[aT h]
theorem agT(c:Cfg.C)(used:List Vec.V)(n t:Int)(k s:Nat)(h:(Tree.below c n)[k]? =some s)(a:(s:Int)=t):wO c used n t (k+1)=wO c used n t k:=by
 unfold wO;obtain⟨b,e⟩:=bE.1 h;rw[bF b,e,fO];have:((s:Int) !=t)=false:=by simpa using a
 simp[this]
theorem agU(c:Cfg.C)(used:List Vec.V)(n t:Int)(k s:Nat)(h:(Tree.below c n)[k]? =some s)(a:(s:Int)≠t):wO c used n t (k+1)=Vec.add (wO c used n t k) (Quo.own c used s):=by
 unfold wO;obtain⟨b,e⟩:=bE.1 h;rw[bF b,e,fO];have:((s:Int) !=t)=true:=by simpa using a
 simp[this]
theorem apU(X:bX w v c)(b4:c.aP.length<=1000000)(ad:VSl w va xs)(n t:Int):gX prog w 181 #[v,va,n,t] (Quo.bD c xs n t).val:=by
 intro w1 ay;replace X:=X.below ay;replace ad:=ad.below ay;clear ay;have aq:=qZ (acP X b4 n);have bq:=qZ ad;obtain⟨v1,v2,rfl,⟨A,ca,rfl,Q,ea⟩,⟨B,u,rfl,ee,eb⟩⟩:=id X;obtain⟨da,c5,rfl,-,-⟩:=ad;obtain⟨U,b5⟩:=nZ xs.length;obtain⟨N,av⟩:=nZ c.aP.length;generalize c.aQ.length=M at*;generalize c.aI=aI at*;generalize c.aK=aK at*;have bu:=qZ av;have dj:=qZ Q;rw[b5]at bq⊢;rw[av]at aq b4⊢;clear X Q ea ee eb b5 av;have cl:Below w1 w1 (((w1.alloc (.cells #[.slice A N ca,.slice B M u,aI,aK] 26)).alloc (.cells #[(),(),()] 40)).alloc (.cells #[(),(),()] 40)):=kp;have a8:iB (((w1.alloc (.cells #[.slice A N ca,.slice B M u,aI,aK] 26)).alloc (.cells #[(),(),()] 40)).alloc (.cells #[(),(),()] 40)) (w1:Nat) (.slice A N ca) (.slice B M u) aI aK:=(iB.new w1 _ _ aI aK).on ((bZ).alloc sZ _);have j:kH (((w1.alloc (.cells #[.slice A N ca,.slice B M u,aI,aK] 26)).alloc (.cells #[(),(),()] 40)).alloc (.cells #[(),(),()] 40)) ((w1:Nat)+1) Vec.zero:=by have h:=kH.new (w1.alloc (.cells #[.slice A N ca,.slice B M u,aI,aK] 26)) Vec.zero;simp only[bC]at h;exact Blk.alloc h _
 have b:kH (((w1.alloc (.cells #[.slice A N ca,.slice B M u,aI,aK] 26)).alloc (.cells #[(),(),()] 40)).alloc (.cells #[(),(),()] 40)) ((w1:Nat)+1+1) Vec.zero:=by have h:=kH.new ((w1.alloc (.cells #[.slice A N ca,.slice B M u,aI,aK] 26)).alloc (.cells #[(),(),()] 40)) Vec.zero;simp only[bC]at h;exact h
 obtain⟨bn,bo,bp,ep,eq⟩:=id a8;have bw:=qZ cl;have bv:=qZ a8;have ak:=qZ j;have aa:=qZ b;clear cl a8 j b;go_enter func181,ntmps181;go_wp2_with fail;generalize((w1.alloc (.cells #[.slice A N ca,.slice B M u,aI,aK] 26)).alloc (.cells #[(),(),()] 40)).alloc (.cells #[(),(),()] 40)=cz at*;refine(aq.out cz bw).mono ?_;rintro e c0⟨fg,rfl,b3,K⟩;obtain⟨er,c2,rfl,ce⟩:=pQ b3;have dh:=qZ ce;have dq:=qZ (aA bw K);have dr:=qZ (bv.on K);have dl:=qZ (Blk.below ak K (Blk.lt ak));have dm:=qZ (Blk.below aa K (Blk.lt aa));have e9:(cz:Nat)<=(c0:Nat):=K.size;have e8:=Blk.lt aa;obtain⟨L,ab⟩:=nZ ((Tree.below c n).length);have bt:=qZ ab;have ew:L<=1000000:=by have ar:=eF (λt=>Tree.on c n t) (iG c);have au:=yP c c.aP.length;have W:(iG c).length<=c.aP.length:=au;have b0:(Tree.below c n).length<=(iG c).length:=ar;rw[ab,bu.out]at*;omega
 rw[ab];clear b3 ce K aq ak aa bv bn bo bp ep eq ab;go_wp2_with fail;go_loopw [20] (λi wr=>∃k:Nat,i=.int .i64 (k:Int)/\k<=L/\Below w1 w1 wr/\iB wr (w1:Nat) (.slice A N ca) (.slice B M u) aI aK/\kH wr ((w1:Nat)+1) Vec.zero/\kH wr ((w1:Nat)+1+1) (wO c xs n t k)/\aO (λi=>i=(w1:Nat)+1+1) c0 wr) (λi _=>L-(intOf i).toNat);case atStart=>exact⟨0,rfl,oZ,dq,dr,dl,by rw[agS];exact dm,aO.refl _ _⟩
 case round=>
  obtain⟨k,rfl,e0,f,m,j,b,l⟩:=hrel
  rename World=>wr
  by_cases ba:k<L
  .have bb:k<(Tree.below c n).length:=by rw[bt.out];exact ba
   obtain⟨s,af⟩:=nZ ((Tree.below c n)[k]);have Z:(Tree.below c n)[k]? =some s:=by rw[aH bb,af]
   obtain⟨g,d0,ez,d7,a9⟩:=dh.out k s Z;have d8:CI wr g k (s:Int):=(l.cell (p:=⟨g,k,none⟩) d7 (λh=>by have eu:g=(w1:Nat)+1+1:=h;omega)).trans a9;have ag:=(GV (c:=c) (n:=n) (s:=s) (by rw[<-af];exact bB _)).2;obtain⟨x0,ah,ai,en,eo⟩:=id m;subst d0;by_cases I:(s:Int)=t
   .have bc:=agT c xs n t k s Z I;have el:((s:Int)==t)=true:=by simpa using I
    have o:=qZ (aC f (aC m (aC j (aC b l))));clear f m j b l a9 af Z I bb;go_wp2_with fail;go_roundw;case rel=>exact⟨k+1,mZ,oZ,o.1,o.2.1,o.2.2.1,by rw[bc];exact o.2.2.2.1,o.2.2.2.2⟩
    case measure=>simp[intOf];omega
   .have bc:=qZ (agU c xs n t k s Z I);have el:((s:Int)==t)=false:=by simpa using I
    obtain⟨al,ff,rfl,d6,cd⟩:=oH dj ag;have ed:=cd wr f;have ci:Quo.node c s=c.aP[s]:=by unfold Quo.node;rw[aL,aH ag,Option.getD_some]
    have ae:Quo.own c xs s=Quo.pos (Vec.sub (Vec.sub c.aP[s].dQ c.aP[s].lend) (Tree.dD xs (s:Int))):=by unfold Quo.own;rw[ci]
    generalize c.aP[s]=x at*;obtain⟨cn,co,cq,cr,cs,ct,cu,cv,cw,cx,cp⟩:=ed;have ex:al<(wr:Nat):=aM d6 f.size;have fc:∀i,¬al=(wr:Nat)+i:=λi e=>oZ;have fd:¬al=(wr:Nat):=λe=>oZ;have eg:s<N:=by rw[<-bu.out];exact ag
    obtain⟨par,fi,⟨n0,n1,n2⟩,⟨et,b1,b2⟩,⟨bk,bl,l2⟩⟩:=x;simp only at cn co cq cr cs ct cu cv cw cx cp ae;obtain⟨p,bd⟩:=nZ (Vec.sub ⟨n0,n1,n2⟩ ⟨bk,bl,l2⟩);obtain⟨a,aw⟩:=nZ (Tree.dD xs (s:Int));obtain⟨r,Q⟩:=nZ (Vec.sub p a);rw[bd,aw,Q]at ae;have di:=qZ ae;have am:=jN.ajH ⟨n0,n1,n2⟩ ⟨bk,bl,l2⟩;have an:=GX (bq.below f) (s:Int);have ao:=jN.ajH p a;rw[bd]at am;rw[aw]at an;rw[Q]at ao;obtain⟨bm,p1,p2⟩:=p;obtain⟨a0,a1,a2⟩:=a;obtain⟨d,r1,r2⟩:=r;have db:Hid (bW prog 120 #[.agg #[n0,n1,n2],.agg #[bk,bl,l2]] (.agg #[bm,p1,p2])):=qZ am;have dc:Hid (gX prog wr 44 #[.slice da U c5,(s:Int)] (.agg #[a0,a1,a2])):=qZ an;have dd:Hid (bW prog 120 #[.agg #[bm,p1,p2],.agg #[a0,a1,a2]] (.agg #[d,r1,r2])):=qZ ao;have fe:decide (s<N)=true:=by simpa using eg
    have o:=qZ (aC f (aC m (aC j (aC b l))));clear f m j b l a9 af Z I bb cd ci ae bd aw Q am an ao ag;go_wp2_with fail;refine(db _).mono ?_;rintro e em⟨rfl,b9⟩;have cb:Below wr wr em:=aA (bZ) b9;have br:=qZ cb;clear b9 cb d8 x0 ah ai en eo cn co cq cr cs ct cu cv cw cx cp;go_wp2_with fail;refine(dc _ br).mono ?_;rintro e fh⟨rfl,cc⟩;have bs:=qZ (aA br cc);clear cc;go_wp2_with fail;refine(dd _).mono ?_;rintro e J⟨rfl,az⟩;have df:=qZ (aA bs az);have eh:=(aA bs az).size;clear az;have ck:=kH.new J ⟨d,r1,r2⟩;have ch:Below J J (J.alloc (.cells #[d,r1,r2] 40)):=bZ;obtain⟨H,a5⟩:=nZ (J:Nat);have bh:kH (J.alloc (.cells #[d,r1,r2] 40)) H ⟨d,r1,r2⟩:=a5▸ck;have aj:=qZ (aA df ch);have ey:(wr:Nat)<=H:=oZ;have dg:=qZ a5;clear ck ch eh a5;go_wp2_with fail;rw[dg.out];generalize J.alloc (.cells #[d,r1,r2] 40)=w8 at*;obtain⟨⟨dt,e1,e2⟩,e3,e4⟩:=bh.cells;have dn:=qZ bh;clear bh;have d9:=jN.idx d r1 r2;obtain⟨i0,ej,ek⟩:=d9;have dp:=qZ (aC (kH.store dn ⟨max d 0,max r1 0,max r2 0⟩) (sO w8 H (.int .i64 (max d 0)) (.int .i64 (max r1 0)) (.int .i64 (max r2 0))));simp only[aU]at e1 e2;have du:=e3 0;have dv:=e3 1;have dw:=e3 2;clear e3;obtain⟨f,m,j,b,l⟩:=o.out;obtain⟨y,bi⟩:=nZ (wO c xs n t k);obtain⟨z,bj⟩:=nZ (wO c xs n t (k+1));have cm:Vec.add y ⟨max d 0,max r1 0,max r2 0⟩=z:=by rw[<-bj,bc.out,bi,di.out];rfl
    have ap:=jN.BR y ⟨max d 0,max r1 0,max r2 0⟩;rw[cm]at ap;rw[bi]at b;have ds:=qZ bj;obtain⟨bn,bo,bp⟩:=y;obtain⟨z0,z1,z2⟩:=z;have de:Hid (bW prog 40 #[.agg #[bn,bo,bp],.agg #[(max d 0:Int),(max r1 0:Int),(max r2 0:Int)]] (.agg #[z0,z1,z2])):=qZ ap;have bg:=Blk.below b aj (Blk.lt b);have fb:(w1:Nat)+1+1<(wr:Nat):=Blk.lt b;have es:=qZ bg;obtain⟨⟨bz,d1,d2⟩,-,-⟩:=kH.cells bg;simp only[aU]at d1 d2;have ec:¬(w1:Nat)+1+1=H:=λe=>oZ;clear f m j b l bi bj cm ap bg;refine wp_loop_rounds 4 ?_;rw[rounds_succ];go_wp2_with fail;rw[rounds_succ];go_wp2_with fail;rw[rounds_succ];go_wp2_with fail;rw[rounds_succ];go_wp2_with fail;refine(de _).mono ?_;rintro e cy⟨rfl,b8⟩;generalize((w8.setCell (H,0) (.int .i64 (max d 0))).setCell (H,1) (.int .i64 (max r1 0))).setCell (H,2) (.int .i64 (max r2 0))=w10 at*;obtain⟨ei,cg⟩:=dp.out;have b7:Below wr wr w10:=aj.out.trans (cg.below aj.size λi (e:i=H)=>oZ);have O:=aA b7 b8;obtain⟨f,m,j,b,l⟩:=o.out;have ax:Below w1 w1 cy:=aA f O;have bf:=Blk.below b O (Blk.lt b);have cj:=Blk.below j O (Blk.lt j);obtain⟨⟨ev,ar,au⟩,W,b0⟩:=kH.cells bf;have dx:=W 0;have dy:=W 1;have dz:=W 2;simp only[aU]at ar au;have Y:=sO cy ((w1:Nat)+1+1) z0 z1 z2;have T:=qZ (aC (ax.trans (Y.below ax.size λi (e:i=(w1:Nat)+1+1)=>oZ)) (aC ((m.on O).bD Y oZ) (aC (Blk.bD cj Y oZ) (aC (kH.store bf ⟨z0,z1,z2⟩) (l.trans' ((aO.bS (F:=λi=>i=(w1:Nat)+1+1) O).trans Y) λi hi e=>e)))));clear b8 ei cg b7 O f m j b l ax bf cj W b0 Y dt e1 e2 e4 du dv dw i0 ej ek bz d1 d2 ec;go_wp2_with fail;go_roundw;case rel=>exact⟨k+1,mZ,oZ,T.1,T.2.1,T.2.2.1,by rw[ds.out];exact T.2.2.2.1,T.2.2.2.2⟩
    case measure=>simp[intOf];omega
  .have b6:=ajx c xs n t k (by rw[bt.out];omega);rw[b6]at b;obtain⟨r,be⟩:=nZ (Quo.bD c xs n t);rw[be]at b;have dk:=qZ be;obtain⟨d,r1,r2⟩:=r;obtain⟨⟨bz,d1,d2⟩,-,-⟩:=kH.cells b;obtain⟨⟨bm,p1,p2⟩,p3,p4⟩:=kH.cells j;simp only[aU]at d1 d2 p1 p2;have dx:=p3 0;have dy:=p3 1;have dz:=p3 2;have e5:decide (k<L)=false:=by simpa using ba
   have o:=qZ (aC (kH.store j ⟨d,r1,r2⟩) (aC (sO wr ((w1:Nat)+1) d r1 r2) f));clear b6 b j f m l ba be p3;go_wp2_with fail;rw[dk.out];generalize((wr.setCell ((w1:Nat)+1,0) d).setCell ((w1:Nat)+1,1) r1).setCell ((w1:Nat)+1,2) r2=Ws at*;obtain⟨I,ef,f⟩:=o.out;obtain⟨⟨x0,ah,ai⟩,-,-⟩:=kH.cells I;simp only[aU]at ah ai;refine bodyPost_ret (v:=.agg #[d,r1,r2]) (by simp[results,Tryz.results181,go_sem,x0,ah,ai]) rfl ⟨rfl,?_⟩;exact f.trans (ef.below f.size λi (e:i=(w1:Nat)+1)=>oZ)
end bM
end Go.Proofs.YtedmeglbjmdlhaaGreatDoor
