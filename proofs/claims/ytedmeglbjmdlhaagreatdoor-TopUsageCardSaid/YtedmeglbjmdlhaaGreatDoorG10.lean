/-
Parts that the laws of the whole program share: contracts of its functions, and plain laws.
-/
import Derived.Test.YtedmeglbjmdlhaaGreatDoorG3
set_option maxRecDepth 100000
set_option maxHeartbeats 16000000
set_option linter.all false
open Go.Proofs.Tryz
namespace Go.Proofs.YtedmeglbjmdlhaaGreatDoor
open Go
open Cfg L Ord Quo bM bU eZ jN sK
namespace bM
open Go.RowKit L
def akD(l:List Vec.V)(w:World)(e:Ending)(w':World):Prop:=∃v,e=.returned v/\iN w' (w:Nat) v l/\Below w w w'
theorem BS{w:World}{v vr:Value}{c:Cfg.C}{rs:List Run}(ab:bX w v c)(a8:Runs w vr rs)(dd:c.aQ.length<=1000000):∀w1,Below w w w1->Calls prog 60 #[v,vr] w1 λe w'=>akD (Hst.free c.aQ (asks rs)) w1 e w':=by
 intro w1 av;replace ab:=ab.below av;replace a8:=a8.below av;clear av;obtain⟨v1,v2,rfl,⟨A,ca,rfl,dg,db⟩,⟨B,Y,rfl,b3,dc⟩⟩:=id ab;obtain⟨R,dx,rfl,b5,b0,m⟩:=a8;unfold maxLen at b0;generalize c.aP.length=N at*;obtain⟨aI,bv⟩:=nZ c.aI;obtain⟨aK,bm⟩:=nZ c.aK;rw[bv,bm];clear dg db dc ab bv bm;generalize c.aQ=f at*;obtain⟨M,ap⟩:=nZ f.length;obtain⟨K,an⟩:=nZ rs.length;have Q:=qZ ap;have bf:=qZ an;rw[ap]at dd⊢;rw[an]at b0⊢;have ci:=qZ b3;have cn:=qZ b5;have cm:=qZ m;clear b3 b5 ap an m;have ax:=iB.new w1 (.slice A N ca) (.slice B M Y) aI aK;have br:Below w1 w1 (w1.alloc (.cells #[.slice A N ca,.slice B M Y,aI,aK] 26)):=bZ;obtain⟨eh,ae,b,aw,ea⟩:=JA (w1.alloc (.cells #[.slice A N ca,.slice B M Y,aI,aK] 26)) M oZ;have bo:=aA br aw;have b8:=ax.on aw;generalize bj:(w1.alloc (.cells #[.slice A N ca,.slice B M Y,aI,aK] 26)).heap.size=G at*;have bk:(w1:Nat)<=G:=by rw[<-bj];simp
 have qQ:=qZ (b.low bk);obtain⟨dj,x0,ds,dt,du⟩:=id b8;have bi:=qZ ae;clear ax aw b ae;go_enter func60,ntmps60;have ae:=bi.out;have bp:=bo;clear b8;go_wp2_with fail;have bb:=qZ bp;have cx:(w1:Nat)<=G:=bk;clear ae bi bj dj x0 ds dt du br bp;have bd:=qZ (Hst.akq f);go_loopw [19] (λi wr=>∃k:Nat,i=.int .i64 (k:Int)/\k<=M/\iN wr (w1:Nat) (.slice G M M) (Hst.yD f k)/\Below w1 w1 wr) (λi _=>M-(intOf i).toNat);case atStart=>exact⟨0,rfl,oZ,by rw[bd.out,Q.out];exact qQ,bb⟩
 case round=>
  obtain⟨k,rfl,d9,b,d⟩:=hrel;by_cases da:k<M
  .have ad:k<f.length:=by rw[Q.out];exact da
   obtain⟨dv,eg,rfl,ec,bt⟩:=rW ci ad;obtain⟨ag,p1,p2,p3,p4,ah⟩:=bt wr d;have dh:=qZ (Hst.akr f k ad);generalize f[k]=h at*;obtain⟨H,dz,d0,⟨ct,cu,cv⟩⟩:=h;simp only at ag p1 p2 p3 p4 ah;have bz:k<(Hst.yD f k).length:=by rw[Hst.afJ f k oZ];exact ad
   obtain⟨-,-,b7,dl,dm,dn⟩:=b.dD bz;generalize(Hst.yD f k)[k]=z at*;have cs:=b.ok;have T:=qZ b;have X:=qZ d;clear bt b d bz ad;go_wp2_with fail;refine⟨⟨k+1,mZ,oZ,?_,?_⟩,by simp[intOf];omega⟩
   .rw[<-dh.out];exact(T.set k ⟨ct,cu,cv⟩).below (bZ)
   .have:=X.out;exact kp
  .have c0:M<=k:=oZ;have T:=qZ b;have X:=qZ d;have be:=qY (Hst.yD f k=Hst.tJ f (asks rs) 0) (by rw[Hst.anN f k (by rw[Q.out];exact c0)];rfl);clear b d qQ bb bo bd;go_wp2_with fail;go_loopw [32] (λi wr=>∃k:Nat,i=.int .i64 (k:Int)/\k<=K/\iN wr (w1:Nat) (.slice G M M) (Hst.tJ f (asks rs) k)/\Below w1 w1 wr) (λi _=>K-(intOf i).toNat);case atStart=>exact⟨0,rfl,oZ,by rw[<-be.out];exact T,X⟩
   case round=>
    clear T X be;obtain⟨n,rfl,ee,b,d⟩:=hrel;by_cases df:n<K
    .have J:n<rs.length:=by rw[bf.out];exact df
     obtain⟨dw,or,rfl,ed,bu⟩:=sQ cn J;obtain⟨ag,p1,p2,p3,p4,ah,p6,cd,ce,cg,b9,cb,cc,ba⟩:=bu _ d;obtain⟨_,bn⟩:=aic J;have a0:=qZ (Hst.UL f (asks rs) n (by rw[yT];exact J));have b2:rs[n]∈rs:=bB J;have bw:=cm.out _ b2;rw[bn]at a0;generalize rs[n]=r at*;obtain⟨id,al,ai,⟨n0,n1,n2⟩,run,aR,aj,seq,dD,start,aa,aQ,hv⟩:=r;simp only at ag p1 p2 p3 p4 ah p6 cd ce cg b9 cb cc ba a0 bw;obtain⟨C,Z,rfl,b4,b1⟩:=bw;obtain⟨L,ao⟩:=nZ aQ.length;unfold maxLen at b1;have bg:=qZ ao;rw[ao]at ba b1;have ck:=qZ b4;have am:=qZ b;have l:=qZ d;clear bu bn b2 J b4 b d ao;go_wp2_with fail;have b6:Below w1 w1 (wr.alloc (.cells #[id,al,ai,n0,n1,n2,run,aR,aj,seq,dD,start,aa,.slice C L Z] 86)):=l.alloc l.size _;have ar:oW (wr.alloc (.cells #[id,al,ai,n0,n1,n2,run,aR,aj,seq,dD,start,aa,.slice C L Z] 86)) (wr:Nat) 3 ⟨n0,n1,n2⟩:=⟨sZ,by simp[go_sem],by simp[go_sem],by simp[go_sem]⟩;have d7:G<(wr:Nat):=(am.out.lt G rfl).2;have bl:=am.below ((aJ _ _).alloc lZ (.cells #[id,al,ai,n0,n1,n2,run,aR,aj,seq,dD,start,aa,.slice C L Z] 86));generalize di:wr.alloc (.cells #[id,al,ai,n0,n1,n2,run,aR,aj,seq,dD,start,aa,.slice C L Z] 86)=dr at*;have ax:(wr:Nat)<(dr:Nat):=ar.1;generalize(wr:Nat)=bx at*;have O:=qZ (aC b6 (aC ar bl));clear b6 ar bl ag p1 p2 p3 p4 ah p6 cd ce cg b9 cb cc ba am l di;have cw:=qZ (Hst.DX f (asks rs) n);generalize Hst.tJ f (asks rs) n=F0 at*;go_loopw [39] (λi g=>∃j:Nat,i=.int .i64 (j:Int)/\j<=L/\iN g (w1:Nat) (.slice G M M) (Hst.dW Vec.sub ⟨n0,n1,n2⟩ (aQ.take j) F0)/\Below w1 w1 g/\oW g bx 3 ⟨n0,n1,n2⟩) (λi _=>L-(intOf i).toNat);case atStart=>exact⟨0,rfl,oZ,O.2.2,O.1,O.2.1⟩
     case round=>
      clear O;obtain⟨j,rfl,d8,b,d,I⟩:=hrel
      rename World=>g
      by_cases cz:j<L
      .have az:j<aQ.length:=by rw[bg.out];exact cz
       obtain⟨bc,ef,rfl,eb,bs⟩:=vK ck az;have p:=bs _ d;have a5:=qZ (Hst.acy Vec.sub ⟨n0,n1,n2⟩ aQ F0 j az);generalize aQ[j]=h at*;have de:=qZ (Hst.wS Vec.sub ⟨n0,n1,n2⟩ (aQ.take j) F0);generalize Hst.dW Vec.sub ⟨n0,n1,n2⟩ (aQ.take j) F0=o at*;have aq:o.length=M:=by rw[de.out,cw.out,Q.out]
       clear bs az;by_cases m:0<=h/\h<(M:Int)
       .obtain⟨i,rfl⟩:=dX m.1;have cy:i<M:=by have:=m.2;omega
        have ay:i<o.length:=oZ;obtain⟨-,d6,b7,q⟩:=b.dD ay;have af:Hid (Hst.one Vec.sub ⟨n0,n1,n2⟩ o (i:Int)=o.set i (Vec.sub o[i] ⟨n0,n1,n2⟩)):=qZ (by unfold Hst.one;rw[aG ⟨oZ,oZ⟩,Int.toNat_natCast,aL,aH ay,Option.getD_some]);generalize o[i]=z at*;obtain⟨z0,z1,z2⟩:=z;have dk:=q;obtain⟨dl,dm,dn⟩:=dk;have u:Hid (∀W,aF g W->VAt W G (i*3) ⟨z0,z1,z2⟩):=qZ (λW a=>(oW.on ⟨b7,q⟩ a).2);have F:Hid (∀W,aF g W->oW W bx 3 ⟨n0,n1,n2⟩):=qZ (λW a=>I.on a);have s:=qZ b;have l:=qZ d;have ch:decide ((0:Int)<=(i:Int))=true:=sZ;have dp:decide ((i:Int)<(M:Int))=true:=by simpa using cy
        clear b d I q m ay aq;go_wp2_with fail;refine lF 10 kZ kZ ?_;simp only[List.take_succ_cons,List.take_zero,bH,bJ];have cr:∀W,aF g W->CI W G (i*3) z0:=λW a=>(u W a).1;have c1:∀W,aF g W->CI W G (i*3+1) z1:=λW a=>(u W a).2.1;have c2:∀W,aF g W->CI W G (i*3+2) z2:=λW a=>(u W a).2.2;have c3:∀W,aF g W->CI W bx 3 n0/\CI W bx 4 n1/\CI W bx 5 n2:=λW a=>⟨(F W a).2.1,(F W a).2.2.1,(F W a).2.2.2⟩;(repeat refine kY ?_);refine kM ?_ (h:=by intro W a;go_simp;first|exact Go.Proofs.YtedmeglbjmdlhaaGreatDoor.L.bW.up (jN.ajH ⟨z0,z1,z2⟩ ⟨n0,n1,n2⟩) a|exact⟨a,Go.Proofs.YtedmeglbjmdlhaaGreatDoor.L.bW.up (jN.ajH ⟨z0,z1,z2⟩ ⟨n0,n1,n2⟩) a⟩);(repeat refine kY ?_);refine eH ?_;intro W a;have au:=s.below a;have cs:=au.ok;obtain⟨dy,d1,d2⟩:=u.out W a;have bq:=F.out W a;have co:=qZ au;have cj:=qZ (aA l a);have cp:=qZ bq;obtain⟨dq,a9⟩:=nZ (Vec.sub ⟨z0,z1,z2⟩ ⟨n0,n1,n2⟩);have cq:=qZ a9;obtain⟨ak,s1,s2⟩:=dq;rw[show(Vec.sub {x:=z0,y:=z1,z:=z2} {x:=n0,y:=n1,z:=n2}).val=.agg #[ak,s1,s2] by rw[a9];rfl];clear cr c1 c2 c3 u F au bq a9 a;go_wp2_with fail;go_roundw;case rel=>
         refine⟨j+1,mZ,oZ,?_,EN cj cx _ ⟨ak,s1,s2⟩,cp.bD (DF W G (i*3) ⟨ak,s1,s2⟩) oZ⟩;rw[a5.out,af.out,cq.out];exact co.set i ⟨ak,s1,s2⟩
        case measure=>simp[intOf];omega
       .have af:Hid (Hst.one Vec.sub ⟨n0,n1,n2⟩ o h=o):=qZ (by unfold Hst.one;rw[aD (by rw[aq];exact m)]);have s:=qZ b;have l:=qZ d;have bh:=qZ I;clear b d I aq;by_cases H:0<=h
        .have ch:decide ((0:Int)<=h)=true:=by simpa using H
         have dp:decide (h<(M:Int))=false:=by simp;omega
         clear m H;go_wp2_with fail;go_roundw;case rel=>exact⟨j+1,mZ,oZ,by rw[a5.out,af.out];exact s,l,bh⟩
         case measure=>simp[intOf];omega
        .have ch:decide ((0:Int)<=h)=false:=by simpa using H
         clear m H;go_wp2_with fail;go_roundw;case rel=>exact⟨j+1,mZ,oZ,by rw[a5.out,af.out];exact s,l,bh⟩
         case measure=>simp[intOf];omega
      .have s:=qY (iN g (w1:Nat) (.slice G M M) (Hst.tJ f (asks rs) (n+1))) (by rw[a0.out];rwa [aT (by rw[bg.out];omega)]at b);have l:=qZ d;clear b d I;go_wp2_with fail;go_roundw;case rel=>exact⟨n+1,mZ,oZ,s,l⟩
       case measure=>simp[intOf];omega
    .have cl:=qY (akD (Hst.free f (asks rs)) w1 (.returned (.slice G M M)) wr) (⟨_,rfl,by rw[<-Hst.ZL f (asks rs) n (by rw[yT,bf.out];omega)];exact b,d⟩);clear b d;go_wp2_with fail;go_ret;exact cl
end bM
namespace L
open Go Go.RowKit Go.MapKept
theorem ahW{α:Type}[DecidableEq α]{P:Program}{kt:TypeId}{enc:α->Value}(d:∀(a b:α) (w:World),(Op.equal kt (enc a) (enc b)).run P w=.ok (decide (a=b)) w)(a:α):∀(c:List MapEntry) (l:List (α×Value)) (i:Nat) (w:World),c.map (λe=>(e.key,e.val))=l.map (λp=>(enc p.1,p.2))->(Instr.findAsking kt (enc a) c i).run P w=.ok (qX a l i) w
 |[],[],i,w,_=>by simp[Instr.findAsking,qX]
 |[],p::l,i,w,h=>by simp at h
 |e::c,[],i,w,h=>by simp at h
 |e::c,p::l,i,w,h=>by
  simp only[cZ,cB,Prod.mk.injEq]at h;obtain⟨⟨g,hv⟩,j⟩:=h;have k:=ahW d a c l (i+1) w j;unfold Instr.findAsking qX;rw[g,hv];by_cases f:a=p.1
  .simp[d,f]
  .simp[d,f,k]
end L
namespace bM
open Go.RowKit L
def wX(p:Hst.nH):Value:=.agg #[p.flavor,p.block,p.AQ,p.host]
section
variable (a0 a1 a2 a3 b0 b1 b2 b3:Int) (w:World)
theorem amd:(part 3 #[Value.int .i64 a0,a1,a2,a3] 0).run prog w=.ok a0 w:=by kernel_rfl
theorem amc:(part 3 #[Value.int .i64 a0,a1,a2,a3] 1).run prog w=.ok a1 w:=by kernel_rfl
theorem amb:(part 3 #[Value.int .i64 a0,a1,a2,a3] 2).run prog w=.ok a2 w:=by kernel_rfl
theorem ama:(part 3 #[Value.int .i64 a0,a1,a2,a3] 3).run prog w=.ok a3 w:=by kernel_rfl
theorem asL:(Op.equalIn 10000 236 (.agg #[a0,a1,a2,a3]) (.agg #[b0,b1,b2,b3])).run prog w=.ok ((a0==b0)&&((a1==b1)&&((a2==b2)&&(a3==b3)))) w:=by have c:prog.underlying 236=some (.struct (prog.fieldsOf 236)):=kZ;have d:prog.stoodInHeld 236=false:=kZ;rw[show(10000:Nat)=9999+1 from rfl,run_equalIn_agg w 9999 236 _ _ c d];simp only[Program.fieldsOf,underlying236];have e:=λa b w=>SH 9998 a b w;simp only[Op.eqFields,amd,amc,amb,ama,e,Sem.run_bind,Result.andThen_ok,Sem.run_pure,Sem.run_ite];have n1:("flavor" :String)≠ "_" :=dZ;have n2:("block" :String)≠ "_" :=dZ;have f:("rack" :String)≠ "_" :=dZ;have g:("host" :String)≠ "_" :=dZ;simp only[n1,n2,f,g,ne_eq,not_false_eq_true,if_true];generalize(a0==b0)=i;generalize(a1==b1)=j;generalize(a2==b2)=k;generalize(a3==b3)=l;cases i<;>cases j<;>cases k<;>cases l<;>rfl
end
theorem abW:NW prog 236 wX where
 chk em a w:=by
  have g:=underlying236;have f:prog.underlying 3=some (.int .i64):=kZ;have i:∀n (x:Int) (w:World),(Instr.checkKey em (n+1) 3 x).run prog w=.ok () w:=λn x w=>by simp[Instr.checkKey,run_underlying f]
  unfold wX;rw[show(10000:Nat)=9998+1+1 from rfl];unfold Instr.checkKey;simp[run_underlying g,amd,amc,amb,ama,i]
 find a es l w h:=by rw[run_findKey_eq w (by rw[underlying236]) (wX a) es];refine ahW (λx y w=>?_) a es l 0 w h;unfold wX Op.equal Op.maxDepth;rw[asL];congr 1;obtain⟨x0,j,k,m⟩:=x;obtain⟨o,p,r,s⟩:=y;by_cases b:x0=o<;>by_cases c:j=p<;>by_cases d:k=r<;>by_cases e:m=s<;>simp[b,c,d,e]
 same a:=by simp[Instr.sameBits,wX]
open Go.RowKit L
def hagg(h:gW):Value:=.agg #[h.flavor,h.block,h.AQ,h.cap.x,h.cap.y,h.cap.z]
theorem gof(h:gW)(i aR:Int):bW prog 183 #[hagg h,i,aR] (wX (Hst.rD h i aR)):=by
 intro w;obtain⟨a,b,e,⟨f,g,j⟩⟩:=h;unfold hagg;go_enter func183,ntmps183;by_cases c:0<aR
 .have m:decide ((0:Int)<aR)=true:=by simpa using c
  by_cases d:1<aR
  .have l:decide ((1:Int)<aR)=true:=by simpa using d
   by_cases l2:2<aR
   .have k:decide ((2:Int)<aR)=true:=by simpa using l2
    have hv:wX (Hst.rD ⟨a,b,e,⟨f,g,j⟩⟩ i aR)=.agg #[a,(),(),()]:=by simp[wX,Hst.rD,c,d,l2]
    rw[hv];clear c d l2 hv;go_wp2_with fail;exact bodyPost_ret (v:=.agg #[a,(),(),()]) (by simp[results,Tryz.results183,go_sem]) rfl ⟨rfl,kp⟩
   .have k:decide ((2:Int)<aR)=false:=by simpa using l2
    have hv:wX (Hst.rD ⟨a,b,e,⟨f,g,j⟩⟩ i aR)=.agg #[a,b,(),()]:=by simp[wX,Hst.rD,c,d,l2]
    rw[hv];clear c d l2 hv;go_wp2_with fail;exact bodyPost_ret (v:=.agg #[a,b,(),()]) (by simp[results,Tryz.results183,go_sem]) rfl ⟨rfl,kp⟩
  .have l:decide ((1:Int)<aR)=false:=by simpa using d
   have k:decide ((2:Int)<aR)=false:=by simp;omega
   have hv:wX (Hst.rD ⟨a,b,e,⟨f,g,j⟩⟩ i aR)=.agg #[a,b,e,()]:=by simp[wX,Hst.rD,c,d];omega
   rw[hv];clear c d hv;go_wp2_with fail;exact bodyPost_ret (v:=.agg #[a,b,e,()]) (by simp[results,Tryz.results183,go_sem]) rfl ⟨rfl,kp⟩
 .have m:decide ((0:Int)<aR)=false:=by simpa using c
  have l:decide ((1:Int)<aR)=false:=by simp;omega
  have k:decide ((2:Int)<aR)=false:=by simp;omega
  have hv:wX (Hst.rD ⟨a,b,e,⟨f,g,j⟩⟩ i aR)=.agg #[a,b,e,i]:=by have d:¬1<aR:=oZ;have l2:¬2<aR:=oZ;simp[wX,Hst.rD,c,d,l2]
  rw[hv];clear c hv;go_wp2_with fail;exact bodyPost_ret (v:=.agg #[a,b,e,i]) (by simp[results,Tryz.results183,go_sem]) rfl ⟨rfl,kp⟩
end bM
variable{g i j n:Nat}{F:Nat->Prop}{v x:Value}{w w' w0:World}
namespace bM
open Go.RowKit L
theorem uV{B:Nat}{E:TypeId}{xs:List Value}(h:fI w B E v xs)(a:v.ownBlock=some g):∃cur,w.heap[g]? =some (.cells cur E (0,0)):=by
 rcases h.2 with⟨rfl,_⟩|⟨c,cap,cur,rfl,d,b,_⟩
 .cases a
 .cases a;exact⟨cur,b⟩
def mE(w:World)(B:Nat)(v:Value)(gs:List (List Nat)):Prop:=∃vs:List Value,vs.length=gs.length/\fI w B 36 v vs/\(∀(i:Nat) (x:Value) (l:List Nat),vs[i]? =some x->gs[i]? =some l->nC w B x l)/\(∀(i j:Nat) (x y:Value) (g:Nat),vs[i]? =some x->vs[j]? =some y->x.ownBlock=some g->y.ownBlock=some g->i=j)
theorem mE.nil(w:World)(B:Nat):mE w B (.slice none 0 0) []:=⟨[],rfl,fI.nil _ _ _,λi x l h=>by simp at h,λi j x y g h=>by simp at h⟩
theorem mE.bD{B:Nat}{gs:List (List Nat)}(h:mE w B v gs)(k:aO F w w')(e:∀g cur E,B<=g->w.heap[g]? =some (.cells cur E (0,0))->¬F g):mE w' B v gs:=by
 obtain⟨vs,f,j,hi,d⟩:=h;have b:∀{E:TypeId} {u:Value} {xs:List Value},fI w B E u xs->fI w' B E u xs:=λ{E u xs} r=>r.bD λg a=>by obtain⟨cur,c⟩:=uV r a;exact k.block g (r.lt g a).2 (e g cur E (r.lt g a).1 c)
 exact⟨vs,f,b j,λi x l m a=>b (hi i x l m a),d⟩
theorem mE.below{B:Nat}{gs:List (List Nat)}(h:mE w B v gs)(k:Below w w w'):mE w' B v gs:=
 h.bD (F:=λ_=>False) (aO.bS k) (λ_ _ _ _ _ f=>f)
theorem mE.form{B:Nat}{gs:List (List Nat)}(h:mE w B v gs):∃A c,v=.slice A gs.length c/\(0<gs.length->∃g,A=some ⟨g,0,none⟩):=by
 obtain⟨vs,a,b,_⟩:=h;rcases b.2 with⟨rfl,d⟩|⟨g,cap,cur,rfl,e,i,f⟩
 .exact⟨none,0,by rw[<-a,d],λh=>oZ⟩
 .exact⟨_,_,by rw[<-a],λ_=>⟨g,rfl⟩⟩
theorem mE.dD{B c:Nat}{gs:List (List Nat)}(h:mE w B (.slice g n c) gs)(hi:i<gs.length):B<=g/\g<(w:Nat)/\w.frozen? (g,i)=false/\∃x,w.cell? (g,i)=some x/\nC w B x gs[i]/\x.ownBlock≠some g:=by
 obtain⟨vs,s,a,m,r⟩:=h;have f:i<vs.length:=oZ;have j:=a.lt g rfl;have o:n=vs.length:=by
  rcases a.2 with⟨e,u⟩|⟨p,cap,cur,e,_⟩
  .cases e
  .cases e;rfl
 have d:=m i vs[i] gs[i] (aH f) (aH hi);refine⟨j.1,j.2,?_,vs[i],?_,d,λe=>?_⟩
 .subst o;exact World.ownsRow.frozenAt a i
 .have:=World.ownsRow.cells a (g:=g) rfl i vs[i] (aH f);rwa [addr_add]at this
 .obtain⟨c1,k⟩:=uV a (g:=g) rfl;obtain⟨c2,b⟩:=uV d e;rw[k]at b;injection b with b;injection b with _ l _;exact absurd l dZ
theorem mE.set{B c:Nat}{gs:List (List Nat)}(h:mE w B (.slice g n c) gs)(hi:i<gs.length){l':List Nat}(O:w.cell? (g,i)=some x)(Y:aO (λk=>x.ownBlock=some k) w w')(W:nC w' B v l')(ab:∀k,v.ownBlock=some k->x.ownBlock=some k\/(w:Nat)<=k):mE (w'.setCell (g,i) v) B (.slice g n c) (gs.set i l'):=by
 obtain⟨_,_,_,x0,L,an,ai⟩:=h.dD hi;rw[O]at L;injection L with L;subst L;obtain⟨vs,Z,F,X,K⟩:=h;have m:i<vs.length:=oZ;have ao:=F.lt g rfl;have aj:n=vs.length:=by
  rcases F.2 with⟨e,O⟩|⟨am,cap,cur,e,_⟩
  .cases e
  .cases e;rfl
 subst aj;have Q:vs[i]=x:=by have:=World.ownsRow.cells F (g:=g) rfl i vs[i] (aH m);rw[addr_add,O]at this;injection this with this;exact this.symm
 have ad:fI w' B 36 (.slice g vs.length c) vs:=F.bD λk p=>Y.block k (F.lt k p).2 (λe=>by cases p;exact ai e);have ak:=World.ownsRow.stored ad i v;have al:v.ownBlock≠some g:=λe=>by obtain⟨c1,M⟩:=uV ad (g:=g) rfl;obtain⟨c2,d⟩:=uV W e;rw[M]at d;injection d with d;injection d with _ N _;exact absurd N dZ
 have ae:∀{E:TypeId} {u:Value} {xs:List Value},fI w' B E u xs->u.ownBlock≠some g->fI (w'.setCell (g,i) v) B E u xs:=λ{E u xs} r ah=>r.bD λk p=>
  Below.heap_setCell w' ⟨g,i,none⟩ v k (λe=>ah (by rw[p,e]))
 refine⟨vs.set i v,by simp[Z],by unfold fI;rw[List.length_set];exact ak.1,λj y l a A=>?_,λj H y T b a f s J=>?_⟩
 .by_cases o:j=i
  .subst o;rw[iZ m]at a;rw[iZ hi]at A;injection a with a;injection A with A;subst a A;exact ae W al
  .rw[jK (Ne.symm o)]at a A;have r:=X j y l a A;refine ae (r.bD λk p=>Y.block k (r.lt k p).2 λe=>o ?_) (λe=>?_)
   .exact K j i y x k a (by rw[aH m,Q]) p e
   .obtain⟨c1,M⟩:=uV F (g:=g) rfl;obtain⟨c2,d⟩:=uV r e;rw[M]at d;injection d with d;injection d with _ N _;exact absurd N dZ
 .have aa:∀(k:Nat) (z:Value),vs[k]? =some z->z.ownBlock=some b->b<(w:Nat):=λk z af s=>by
   have ag:k<gs.length:=by rw[<-Z];exact(bE.1 af).1
   exact(fI.lt (X k z gs[k] af (aH ag)) b s).2
  by_cases o:j=i
  .by_cases I:H=i
   .rw[o,I]
   .subst o;rw[iZ m]at a;rw[jK (Ne.symm I)]at f;injection a with a;subst a;rcases ab b s with e|e
    .exact K j H x T b (by rw[aH m,Q]) f e J
    .exact absurd (aa H T f J) oZ
  .rw[jK (Ne.symm o)]at a;by_cases I:H=i
   .subst I;rw[iZ m]at f;injection f with f;subst f;rcases ab b J with e|e
    .exact K j H y x b a (by rw[aH m,Q]) s e
    .exact absurd (aa j y a s) oZ
   .rw[jK (Ne.symm I)]at f;exact K j H y T b a f s J
theorem aoU:(prog.info? 36).map (λi=>(i.zero,i.size,i.bytes))=some (some (.slice none 0 0),1,24):=by kernel_rfl
theorem acw{B:Nat}{gs:List (List Nat)}(h:mE w0 B v gs)(J:Below w0 w0 w)(Z:B<=(w:Nat)){l:List Nat}(X:nC w B x l)(ab:∀g,x.ownBlock=some g->(w0:Nat)<=g)(an:gs.length<=1048576):∃v' w',(Builtin.append_ #[136,136] 136 #[v,.slice w 1 1]).run prog (w.alloc (.cells #[x] 36))=.ok v' w'/\mE w' B v' (gs++[l])/\aO (λk=>v.ownBlock=some k) w w':=by
 obtain⟨i0,hi,ak,al,am⟩:=info_parts aoU;obtain⟨vs,H,ah,N,aa⟩:=h;have W:=ah.below J;have ae:∀(i:Nat) (x:Value) (l:List Nat),vs[i]? =some x->gs[i]? =some l->nC w B x l:=λi x l n f=>fI.below (N i x l n f) J;have L:∀g,x.ownBlock=some g->∀(i:Nat) (y:Value),vs[i]? =some y->y.ownBlock≠some g:=λg s i y a e=>by
  have af:i<gs.length:=by rw[<-H];exact(bE.1 a).1
  have:=(fI.lt (N i y gs[i] a (aH af)) g e).2;have:=ab g s;omega
 obtain⟨A,c,rfl,_⟩:=fI.form X;obtain⟨v',w',ai,ag,s,ao⟩:=NM (P:=prog) 136 136 36 i0 _ 24 underlying136 hi ak al am rfl W Z (.slice A (ival l).length c) rfl oZ oZ;have O:aO (λk=>v.ownBlock=some k) w w':=((aO.refl _ w).alloc _).trans (aO.lG s λi e=>e);have T:∀{u:Value} {xs:List Value},fI w B 3 u xs->fI w' B 3 u xs:=λ{u xs} r=>r.bD λg M=>O.block g (r.lt g M).2 (λe=>by obtain⟨c1,n⟩:=uV W e;obtain⟨c2,f⟩:=uV r M;rw[n]at f;injection f with f;injection f with _ Y _;exact absurd Y dZ);refine⟨v',w',ai,⟨vs++[.slice A (ival l).length c],by simp[H],ag,λi y l' a m=>?_,λi j y I b a aj o p=>?_⟩,O⟩
 .by_cases ad:i<vs.length
  .rw[dG ad]at a;rw[dG oZ]at m;exact T (ae i y l' a m)
  .have F:i=vs.length:=by have:=(bE.1 a).1;simp at this;omega
   subst F;rw[List.getElem?_concat_length]at a;rw[H,List.getElem?_concat_length]at m;injection a with a;injection m with m;subst a m;exact T X
 .have K:∀(k:Nat) (z:Value),(vs++[Value.slice A (ival l).length c])[k]? =some z->vs[k]? =some z/\k<vs.length\/k=vs.length/\z=.slice A (ival l).length c:=λk z d=>by
   by_cases Q:k<vs.length
   .rw[dG Q]at d;exact .inl ⟨d,Q⟩
   .have F:k=vs.length:=by have:=(bE.1 d).1;simp at this;omega
    subst F;rw[List.getElem?_concat_length]at d;injection d with d;exact .inr ⟨rfl,d.symm⟩
  rcases K i y a with⟨a1,a2⟩|⟨a1,a2⟩<;>rcases K j I aj with⟨b1,b2⟩|⟨b1,b2⟩
  .exact aa i j y I b a1 b1 o p
  .subst b2;exact absurd o (L b p i y a1)
  .subst a2;exact absurd p (L b o j I b1)
  .rw[a1,b1]
def CF(w:World)(B b:Nat):Prop:=B<=b/\∃cur E,w.heap[b]? =some (.cells cur E (0,0))
theorem CF.aeJ{B:Nat}{E:TypeId}{xs:List Value}(h:fI w B E v xs)(a:v.ownBlock=some g):CF w B g:=by obtain⟨cur,b⟩:=uV h a;exact⟨(h.lt g a).1,cur,E,b⟩
theorem CF.map{α:Type}[DecidableEq α]{B b:Nat}{enc:α->Value}{l:List (α×Value)}(h:pY w b enc l):¬CF w B b:=by rintro⟨_,cur,E,a⟩;obtain⟨e,c,d,_⟩:=h;rw[d]at a;cases a
theorem mE.cf{B:Nat}{gs:List (List Nat)}(h:mE w B v gs){b:Nat}(a:v.ownBlock=some b):CF w B b:=by obtain⟨vs,_,r,_⟩:=h;exact CF.aeJ r a
theorem acv{B c:Nat}{gs:List (List Nat)}(h:mE w B (.slice g n c) gs)(z:B<=(w:Nat))(v:j<gs.length)(k:Nat)(I:gs[j].length<=1048576):∃x d w',w.cell? (g,j)=some x/\(Builtin.append_ #[36,36] 36 #[x,.slice w 1 1]).run prog (w.alloc (.cells #[(k:Int)] 3))=.ok d w'/\w'.cell? (g,j)=some x/\w'.frozen? (g,j)=false/\mE (w'.setCell (g,j) d) B (.slice g n c) (gs.set j (gs[j]++[k]))/\aO (CF w B) w (w'.setCell (g,j) d)/\(∃a m q,x=.slice a m q)/\(∃a m q,d=.slice a m q)/\g<(w:Nat)/\n=gs.length:=by
 obtain⟨T,y,A,x,r,f,L⟩:=h.dD v;obtain⟨d,w',N,s,F,K⟩:=EZ f z k I;have l:aO (λb=>x.ownBlock=some b) w w':=((aO.refl _ w).alloc _).trans (aO.lG F λi e=>e);have u:w'.heap[g]? =w.heap[g]? :=l.block g y L;have O:=h.set v r l s K;have H:CF w B g:=by obtain⟨vs,_,o,_⟩:=h;exact CF.aeJ o (g:=g) rfl
 have M:n=gs.length:=by
  obtain⟨vs,J,o,_⟩:=h;rcases o.2 with⟨e,_⟩|⟨Q,cap,cur,e,_⟩
  .cases e
  .cases e;exact J
 obtain⟨a1,c1,e1,_⟩:=fI.form f;obtain⟨a2,c2,e2,_⟩:=fI.form s;exact⟨x,d,w',r,N,(World.cell?_of_block (a:=⟨g,j,none⟩) u).trans r,(World.frozen?_of_block (a:=⟨g,j,none⟩) u).trans A,O,(l.mono λi _ e=>CF.aeJ f e).setCell (p:=⟨g,j,none⟩) (.inl H) d,⟨_,_,_,e1⟩,⟨_,_,_,e2⟩,y,M⟩
end bM
variable{c:Cfg.C}{k:Nat}
namespace bM
open Go.RowKit L
def akG(gs:List (List Nat))(w:World)(e:Ending)(w':World):Prop:=∃v,e=.returned v/\mE w' (w:Nat) v gs/\Below w w w'
def apj(o:Option Nat):Option Value:=o.map λ(j:Nat)=>Value.int .i64 (j:Int)
def Index(g:Hst.G)(l:List (Hst.nH×Value)):Prop:=∀p,nM p l=apj (Hst.idx p g)
theorem amH:Index [] []:=λp=>rfl
theorem index_none{g:Hst.G}{l:List (Hst.nH×Value)}(h:Index g l){p:Hst.nH}(a:Hst.idx p g=none):Index (Hst.qO p i g) (mX p (.int .i64 (g.length:Int)) l):=λq=>by rw[IG,Hst.GH a,h q];split<;>rfl
theorem ajA{g:Hst.G}{l:List (Hst.nH×Value)}(h:Index g l){p:Hst.nH}(a:Hst.idx p g=some k):Index (Hst.qO p i g) l:=λq=>by rw[Hst.GD a,h q]
theorem apZ:∀w:World,(zeroValue 3).run prog w=.ok (.int .i64 0) w:=λw=>by obtain⟨i0,hi,a,_,_⟩:=info_parts zU;simp[zeroValue,typeInfo,hi,a]
theorem ajK(u:bX w v c)(aR:Int)(db:c.aQ.length<=1000000):∀w1,Below w w w1->Calls prog 118 #[v,aR] w1 λe w'=>akG (Hst.mU c.aQ aR) w1 e w':=by
 intro w1 bv;replace u:=u.below bv;clear bv;obtain⟨v1,v2,rfl,⟨A,ca,rfl,de,c0⟩,⟨B,a5,rfl,b8,da⟩⟩:=id u;generalize c.aP.length=N at*;obtain⟨aI,b2⟩:=nZ c.aI;obtain⟨aK,bu⟩:=nZ c.aK;rw[b2,bu];clear de c0 da u b2 bu;generalize c.aQ=a at*;obtain⟨M,be⟩:=nZ a.length;have br:=qZ be;rw[be]at db⊢;have cj:=qZ b8;obtain⟨ah,ba⟩:=nZ (Hst.mU a aR);have ai:=qZ ba;rw[ba];clear b8 be ba;have bh:=iB.new w1 (.slice A N ca) (.slice B M a5) aI aK;have aa:Below w1 w1 (w1.alloc (.cells #[.slice A N ca,.slice B M a5,aI,aK] 26)):=bZ;have dd:= @run_makeMap prog;go_enter func118,ntmps118;by_cases ae:aR<0
 .have dl:decide (aR<(0:Int))=true:=by simpa using ae
  have ab:=qY (ah=[]) (by rw[<-ai.out];unfold Hst.mU Hst.wR;rw[aD (by simp;omega)]);clear ae bh;go_wp2_with fail;go_ret;exact⟨_,rfl,by rw[ab.out];exact mE.nil _ _,aa⟩
 .have dl:decide (aR<(0:Int))=false:=by simpa using ae
  by_cases ap:3<aR
  .have dm:decide ((3:Int)<aR)=true:=by simpa using ap
   have ab:=qY (ah=[]) (by rw[<-ai.out];unfold Hst.mU Hst.wR;rw[aD (by simp;omega)]);clear ae ap bh;go_wp2_with fail;go_ret;exact⟨_,rfl,by rw[ab.out];exact mE.nil _ _,aa⟩
  .have dm:decide ((3:Int)<aR)=false:=by simpa using ap
   have ab:=qY (ah=Hst.rows (Hst.gTo a aR M)) (by rw[<-ai.out];unfold Hst.mU Hst.wR;rw[aG (by simp;omega),br.out];rfl);generalize di:w1.alloc (.cells #[.slice A N ca,.slice B M a5,aI,aK] 26)=ag at*;have bt:=qZ (pY.new ag wX);have bz:Below w1 w1 (ag.alloc (.map #[] 0)):=aa.alloc aa.size _;have bq:=qZ bz;obtain⟨cb,x0,dp,dq,dr⟩:=bh;clear ae ap aa bz ai;go_wp2_with fail;clear x0 dp dq dr dd di;have d0:(w1:Nat)<=(ag:Nat):=Nat.le_of_lt cb;clear cb;generalize dh:ag.alloc (.map #[] 0)=wm at*;generalize(ag:Nat)=mb at*;clear dh;go_loopw [5,22] (λo i wr=>∃k:Nat,i=.int .i64 (k:Int)/\k<=M/\mE wr (w1:Nat) o (Hst.rows (Hst.gTo a aR k))/\(∃L,pY wr mb wX L/\Index (Hst.gTo a aR k) L)/\Below w1 w1 wr) (λ_ i _=>M-(intOf i).toNat);case atStart=>exact⟨0,rfl,oZ,mE.nil _ _,⟨[],bt.out,amH⟩,bq⟩
   case round=>
    clear bt bq;obtain⟨k,rfl,dy,au,⟨L,bb,bi⟩,K⟩:=hrel;by_cases cz:k<M
    .have bl:k<a.length:=by rw[br.out];exact cz
     obtain⟨du,d7,rfl,dz,b0⟩:=rW cj bl;obtain⟨cc,p1,p2,p3,p4,cd⟩:=b0 wr K;have b4:Hst.iL a aR k=Hst.rD a[k] (k:Int) aR:=by unfold Hst.iL Hst.dD;rw[aL,aH bl,Option.getD_some]
     have z:=qY (Hst.gTo a aR (k+1)=Hst.qO (Hst.rD a[k] (k:Int) aR) k (Hst.gTo a aR k)) (by rw[<-b4];rfl);have ao:=gof a[k] (k:Int) aR;have df:=qZ (λ(j:Nat) (h:j<(Hst.rows (Hst.gTo a aR k)).length)=>Hst.abO a aR k h);have cx:=qZ (Hst.ZK a aR k);generalize Hst.rD a[k] (k:Int) aR=P at*;generalize a[k]=h at*;generalize Hst.gTo a aR k=g at*;obtain⟨cm,cn,co,⟨cp,cq,cr⟩⟩:=h;obtain⟨F,H,I,J⟩:=P;simp only at cc p1 p2 p3 p4 cd;replace ao:bW prog 183 #[.agg #[cm,cn,co,cp,cq,cr],(k:Int),aR] (.agg #[F,H,I,J]):=ao;have ck:=qZ ao;have ay:=qZ bb;have W:=qZ bi;have aj:=qZ au;have az:=qZ K;have d6:(w1:Nat)<=(wr:Nat):=K.size;clear b0 b4 ao bl bb bi au K;go_wp2_with fail;refine(ck _).mono ?_;rintro e m⟨rfl,bw⟩;have bg:Below wr wr m:=aA kp bw;have bs:Below w1 w1 m:=aA az bg;have p:=qZ (aC bg bs);clear cc p1 p2 p3 p4 cd bw bg bs;have O:Below m m (m.alloc (.cells #[F,H,I,J] 236)):=bZ;have dg:(m.alloc (.cells #[F,H,I,J] 236)).heap.size=(m:Nat)+1:=sZ;have ax:=aA p.1 O;have r:=ay.on ax;obtain⟨ad,_⟩:=r.look abW underlying234 apZ ⟨F,H,I,J⟩;rw[W.out]at ad;obtain⟨ci,c5,rfl,aw⟩:=aj.form;have Y:=aj.below ax;rw[Hst.rC]at Y aw⊢;obtain⟨n,f⟩:=nZ g.length;have cs:(w1:Nat)<=(m:Nat)+1:=by have:=p.2.size;omega
     cases T:Hst.idx ⟨F,H,I,J⟩ g with
     |none=>
      rw[T]at ad;obtain⟨ce,b7,bc,bj⟩:=r.put abW underlying234 ⟨F,H,I,J⟩ (.int .i64 (g.length:Int));have ak:=Y.bD bj (λb cur E _ u e=>by subst e;obtain⟨dw,dv,cy,_⟩:=r;rw[cy]at u;cases u);have am:Below w1 w1 ce:=(aA p.2 O).trans (bj.below (aA p.2 O).size λi e=>oZ);have Q:=qZ (index_none (i:=k) W T);have af:=qZ (Hst.alP (i:=k) T);have ar:(Hst.rows g).length=n:=by rw[Hst.rC,f]
      obtain⟨d8,dn,bn,bf,bk⟩:=acw (x:=.slice none 0 0) (l:=[]) ak (aJ _ _) am.size (fI.nil _ _ _) (λg e=>by cases e) (by rw[ar,<-f];have:=cx.out;omega);have an:=am.trans (bk.below am.size λi e=>(ak.cf e).1);have bd:=bc.bD bk (λe=>CF.map bc (ak.cf e));obtain⟨ds,c6,rfl,b9⟩:=bf.form;obtain⟨G,rfl⟩:=b9 sZ;have b3:n<(Hst.rows g++[[]]).length:=by simp;omega
      obtain⟨x,ch,cg,cu,av,cv,cw,s,y,⟨a0,bo,bp,a8⟩,⟨cl,dj,dk,a9⟩,ct,bm⟩:=acv bf an.size b3 k (by rw[List.getElem_append_right oZ];simp);have b6:(Hst.rows g++[[]])[n]=[]:=by rw[List.getElem_append_right oZ];simp
      rw[b6]at s;have X:=bd.bD y (λe=>CF.map bd e);have Z:=an.trans (y.below an.size λi e=>e.1);have b1:mE (cg.setCell (G,n) ch) (w1:Nat) (.slice G (Hst.rows g++[[]]).length c6) (Hst.rows (Hst.gTo a aR (k+1))):=by rw[z.out,af.out];rw[show(Hst.rows g).length=n from ar];exact s
      have d:=qZ (aC b1 (aC Z (aC X Q.out)));rw[aW,List.length_singleton,Hst.rC]at bn d;have dc:(Hst.rows g++[[]]).length=n+1:=by simp[ar]
      subst a8 a9;rw[f]at b7 bn d⊢;simp only[wX,apj,Option.map_none,Option.getD_none,Option.isSome_none]at ad b7;clear r Y bc ak bj am af ar bf bk an bd b3 s y X Z b1 aw b9 Q b6 ax O p ay aj az W dc bm;have b5:(Hst.rows g).length=n:=by rw[Hst.rC,f]
      have dt:=qZ b5;clear b5 f;go_wp2_with(at_builtin;refine dJ rfl (.tmp 44) (.tmp 45) _ _ rfl (.slice ci n c5) (.slice ce 1 1) rfl rfl bn ?_;go_wp2_with(at_builtin;refine dJ rfl (.tmp 52) (.tmp 54) _ _ rfl (.slice a0 bo bp) (.slice dn 1 1) rfl rfl av ?_));go_roundw;case rel=>exact⟨k+1,mZ,oZ,d.1,⟨_,d.2.2.1,by rw[z.out];exact d.2.2.2⟩,d.2.1⟩
      case measure=>simp[intOf];omega
     |some j=>
      rw[T]at ad;have al:=aA p.2 O;obtain⟨aq,af⟩:=Hst.PZ (i:=k) T;have Q:=qZ (ajA (i:=k) W T);have dx:j<n:=by rw[<-f,<-Hst.rC];exact aq
      obtain⟨G,rfl⟩:=aw (by rw[f];omega);obtain⟨x,ch,cg,cu,av,cv,cw,s,y,⟨a0,bo,bp,a8⟩,⟨cl,dj,dk,a9⟩,ct,bm⟩:=acv Y al.size aq k (by have:=df.out j aq;omega);have X:=r.bD y (λe=>CF.map r e);have Z:=al.trans (y.below al.size λi e=>e.1);rw[<-af,<-z.out]at s;rw[<-z.out]at Q;have d:=qZ (aC s (aC Z (aC X Q.out)));subst a8 a9;rw[f]at d⊢;simp only[wX,apj,Option.map_some,Option.getD_some,Option.isSome_some]at ad;simp only[bC]at av;clear r Y al af Q s y X Z aw ax O p ay aj az W bm aq f dg cs;go_wp2_with(at_builtin;refine dJ rfl (.tmp 52) (.tmp 54) _ _ rfl (.slice a0 bo bp) (.slice (some ⟨(m:Nat)+1,0,none⟩) 1 1) rfl rfl av ?_);go_roundw;case rel=>exact⟨k+1,mZ,oZ,d.1,⟨_,d.2.2.1,d.2.2.2⟩,d.2.1⟩
      case measure=>simp[intOf];omega
    .have z:=qY (akG ah w1 (.returned u5) wr) (⟨u5,rfl,by rw[ab.out,show M=k by omega];exact au,K⟩);clear au bb bi K;go_wp2_with fail;go_ret;exact z
end bM
namespace eZ
open Go Go.RowKit L bM
def eP(p:Ord.P):Array Value:=#[.int .i64 p.id,.int .i64 p.dN,.int .i64 p.eU,.int .i64 p.need.x,.int .i64 p.need.y,.int .i64 p.need.z,.int .i64 p.run,.int .i64 p.aR,.int .i64 p.prefer,.int .i64 p.seq,.int .i64 p.since]
def InI(n:Int):Prop:= -9223372036854775808<=n/\n<=9223372036854775807
theorem wT(a b:Int)(w:World):Calls prog 134 #[a,b] w λe w'=>e=.returned (.int .i64 (Ord.num a b))/\w=w':=by
 have e1:(a !=a)=false:=sZ;have e2:(b !=b)=false:=sZ;unfold Ord.num;by_cases h:a<b
 .rw[aG h];go_enter func134,ntmps134;go_wp2;go_ret;exact⟨rfl,rfl⟩
 by_cases c:b<a
 .rw[aD h,aG c];go_enter func134,ntmps134;go_wp2;go_ret;exact⟨rfl,rfl⟩
 .rw[aD h,aD c];go_enter func134,ntmps134;go_wp2;go_ret;exact⟨rfl,rfl⟩
theorem ahj(a b:Nat)(w:World):Calls prog 200 #[.int .u64 a,.int .u64 b] w λe w'=>e=.returned (.int .i64 (Ord.num a b))/\w=w':=by
 have e1:((a:Int) !=(a:Int))=false:=sZ;have e2:((b:Int) !=(b:Int))=false:=sZ;unfold Ord.num;by_cases h:(a:Int)<(b:Int)
 .rw[aG h];go_enter func200,ntmps200;go_wp2;go_ret;exact⟨rfl,rfl⟩
 by_cases c:(b:Int)<(a:Int)
 .rw[aD h,aG c];go_enter func200,ntmps200;go_wp2;go_ret;exact⟨rfl,rfl⟩
 .rw[aD h,aD c];go_enter func200,ntmps200;go_wp2;go_ret;exact⟨rfl,rfl⟩
theorem YW{b:Nat}(k:b<(w:Nat))(x y:Int)(a:w.cell? (b,0)=some (.int .i64 x))(c:w.cell? (b,1)=some (.int .i64 y)):Calls prog 137 #[.slice b 2 2] w λe w'=>e=.returned (.int .i64 (Ord.or2 x y))/\Below w w w':=by
 have l:=qZ a;have m:=qZ c;have g:=qZ k;clear a c k;go_enter func137,ntmps137;go_wp2_with fail;go_loopw [8] (λi wr=>Below w w wr/\((i=.int .i64 0)\/(i=.int .i64 1/\x=0)\/(i=.int .i64 2/\x=0/\y=0))) (λi _=>2-(intOf i).toNat);case atStart=>exact⟨aJ _ _,.inl rfl⟩
 case round=>
  obtain⟨f,hi⟩:=hrel;have o:=(f.cell (p:=⟨b,0,none⟩) g).trans l;have p1:=(f.cell (p:=⟨b,1,none⟩) g).trans m;have d:=qZ f;clear f;rcases hi with rfl|⟨rfl,j⟩|⟨rfl,j,n⟩
  .by_cases a:x=0
   .have e1:(x !=0)=false:=by simp[a]
    go_wp2_with fail;go_roundw;case rel=>exact⟨by have:=d.out;exact kp,.inr (.inl ⟨mZ,a⟩)⟩
    case measure=>simp[intOf]
   .have e1:(x !=0)=true:=by simp[a]
    go_wp2_with fail;go_ret;exact⟨by rw[Ord.or2,aG a];rfl,by have:=d.out;exact kp⟩
  .by_cases c:y=0
   .have e1:(y !=0)=false:=by simp[c]
    go_wp2_with fail;go_roundw;case rel=>exact⟨by have:=d.out;exact kp,.inr (.inr ⟨mZ,j,c⟩)⟩
    case measure=>simp[intOf]
   .have e1:(y !=0)=true:=by simp[c]
    go_wp2_with fail;go_ret;exact⟨by rw[Ord.or2,aD oZ];rfl,by have:=d.out;exact kp⟩
  .go_wp2_with fail;go_ret;exact⟨by rw[Ord.or2,aD oZ,n];rfl,by have:=d.out;exact kp⟩
theorem TF(x:Int)(a:0<=x)(b:x<=9223372036854775807):IntKind.u64.wrap x=x:=by rw[IntKind.wrap_u64];omega
theorem adz(x y:Int)(c:y<=x)(a:InI x)(b:InI y):IntKind.u64.wrap (IntKind.u64.wrap x-IntKind.u64.wrap y)=x-y:=by unfold InI at a b;rw[IntKind.wrap_u64,IntKind.wrap_u64,IntKind.wrap_u64];omega
theorem ahE(v1 v2:Value)(aI aK aN:Int)(p:Ord.P)(f:InI aK)(g:InI aN)(i:InI p.since):bW prog 133 #[.agg #[v1,v2,aI,aK],aN,.agg (eP p)] (.bool (Ord.old aK aN p.since)):=by
 intro w;obtain⟨a0,a1,a2,⟨a3,a4,j⟩,a6,a7,k,l,s⟩:=p;have a:=λh:s<=aN=>adz aN s h g i;have c:0<aK->IntKind.u64.wrap aK=aK:=λh=>TF aK oZ f.2;unfold eP Ord.old
 dsimp only at a⊢
 clear f g i;go_enter func133,ntmps133;by_cases b:0<aK
 .by_cases d:s<=aN
  .have e1:=a d;have e2:=c b;clear a c;rw[decide_eq_true b,decide_eq_true d];by_cases e:aK<=aN-s
   .rw[decide_eq_true e];go_wp2_with fail;go_ret;exact⟨rfl,kp⟩
   .rw[eG e];go_wp2_with fail;go_ret;exact⟨rfl,kp⟩
  .clear a c;rw[decide_eq_true b,eG d];go_wp2_with fail;go_ret;exact⟨rfl,kp⟩
 .clear a c;rw[eG b];go_wp2_with fail;go_ret;exact⟨rfl,kp⟩
end eZ
namespace bM
open Go.RowKit L
def yI(l:List Int):List Value:=l.map λn=>Value.int .i64 n
def wY(w:World)(B:Nat)(v:Value)(l:List Int):Prop:=fI w B 3 v (yI l)
theorem JU(l:List Int):(yI l).length=l.length:=by simp[yI]
theorem amx(w:World)(n:Nat)(m:n<=1048576):∃w',(Instr.makeSlice 36 (.int .i64 (n:Int)) (.int .i64 (n:Int))).run prog w=.ok (.slice w n n) w'/\wY w' (w:Nat) (.slice w n n) (List.replicate n 0)/\Below w w w'/\(w:Nat)<(w':Nat):=by
 obtain⟨i0,hi,g,k,l⟩:=info_parts zU;obtain⟨w',f,d,c⟩:=run_makeSlice_full (P:=prog) w (w:Nat) 36 3 i0 _ 1 underlying36 hi g k .i64 .i64 n oZ (by rw[l];omega) (by unfold maxLen;omega) lZ;have a:wY w' (w:Nat) (.slice w n n) (List.replicate n 0):=by
  unfold wY fI;rw[JU,jZ];have e:yI (List.replicate n 0)=(madeCells #[Value.int .i64 0] (n*1)).toList:=by
   apply gL;intro j;by_cases b:j<n
   .simp[yI,madeCells,b,Nat.mod_one]
   .simp[yI,madeCells,b]
  rw[e];exact d
 exact⟨w',f,a,(aO.lG (F:=λ_=>False) c (λi e=>by cases e)).below lZ λi h=>h.elim,(fI.lt a _ rfl).2⟩
end bM
end Go.Proofs.YtedmeglbjmdlhaaGreatDoor
