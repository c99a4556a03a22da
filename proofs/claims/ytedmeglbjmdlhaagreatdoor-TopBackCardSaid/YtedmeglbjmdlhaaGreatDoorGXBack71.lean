/-
TopBack: whatever commands came ahead, who had to give way first in a round borrowed, and somebody who was admitted behind those that gave way stays within its nominal. Conditions: none beyond the card.
-/
import Derived.Test.YtedmeglbjmdlhaaGreatDoorGXBack55
import Derived.Test.YtedmeglbjmdlhaaGreatDoorGXBack52
import Derived.Test.YtedmeglbjmdlhaaGreatDoorGXBack66
import Derived.Test.YtedmeglbjmdlhaaGreatDoorG33
import Derived.Test.YtedmeglbjmdlhaaGreatDoorGXBack38
import Derived.Test.YtedmeglbjmdlhaaGreatDoorTie
import Derived.ShutString
import Derived.ChangeOld
import Derived.ChangeSame
import Derived.ChangeVars
import Derived.RowKitTokens
import Derived.LaidLaws
import Derived.LaidMore
import Derived.LaidHandle
import Derived.MakeChecks
import Derived.Handed
import Derived.Stop.Joined
import Derived.Stop.LaidErr
set_option maxRecDepth 100000
set_option maxHeartbeats 16000000
set_option linter.all false
open Go.Proofs.Tryz
namespace Go.Proofs.YtedmeglbjmdlhaaGreatDoor
open Go
open L Ord Quo Top bM bU sK
variable{ev:List Top.E}{k:Nat}{ty:TypeId}{X v:Value}{w:World}
namespace bU
open Go Go.RowKit L bM eZ Srt
def Lst(ev:List Top.E)(k:Nat)(z:Int):Prop:=(z= -1/\∀j e,j<k->ev[j]? =some e->¬e.kind=2)\/∃i:Nat,z=(i:Int)/\i<k/\(∃e,ev[i]? =some e/\e.kind=2)/\∀j e,i<j->j<k->ev[j]? =some e->¬e.kind=2
theorem apL(ev:List Top.E):Lst ev 0 (-1):=.inl ⟨rfl,λj e h=>oZ⟩
theorem asq(a:k<ev.length)(e:ev[k].kind=2):Lst ev (k+1) k:=.inr ⟨k,rfl,oZ,⟨_,aH a,e⟩,λj e h b=>oZ⟩
theorem atZ{z:Int}(n:k<ev.length)(h:Lst ev k z)(e:¬ev[k].kind=2):Lst ev (k+1) z:=by
 have l:∀j c,j<k+1->¬j<k->ev[j]? =some c->¬c.kind=2:=λj c d g f=>by
  have:j=k:=by omega
  subst this;rw[aH n]at f;cases f;exact e
 rcases h with⟨d,g⟩|⟨i,d,g,f,m⟩
 .refine .inl ⟨d,λj c a b=>?_⟩;by_cases h:j<k
  .exact g j c h b
  .exact l j c a h b
 .refine .inr ⟨i,d,oZ,f,λj c a a2 b=>?_⟩;by_cases h:j<k
  .exact m j c a h b
  .exact l j c a2 h b
theorem axq(w:World):VSl w (.slice none 0 0) []:=⟨none,0,rfl,λe=>absurd rfl e,dZ⟩
theorem NK{ys:List vB}(h:RV w v ys)(bk:w.cell? (0,0)=some (.iface ty X))(b6:0<(w:Nat)):Calls prog 4 #[v] w λe w'=>e=.returned (.bool true)/\Below w w w':=by
 have bu:=qZ (OX h);have a5:Hid (∀W,Below w w W->Calls prog 11 #[] W λe w'=>e=.returned (.bool true)/\Below W W w'):=qZ (λW d=>DR ((d.cell (p:=⟨0,0,none⟩) b6).trans bk) (aM b6 d.size));obtain⟨A,ca,rfl,_,_,_⟩:=h;obtain⟨gg,b9⟩:=nZ ys.length;have ez:=qZ b9;rw[b9]at bu⊢;clear bk b6 b9;go_enter func4,ntmps4;go_upto_region 1 with fail;go_wp2_with fail;refine bu.mono ?_;rintro e wc⟨df,s,ok,rfl,cm,cr,d6⟩;obtain⟨n,ct⟩:=nZ (wc:Nat);obtain⟨F,cx⟩:=nZ (bx wc df);have cd:=uD.new cr d6;rw[cx,ct]at cd;have M:=qZ cd;have dq:=qZ cr;have b1:=qZ (aC cx ct);rw[<-ez.out]at cm;have dm:=qZ cm;clear cr d6 cm cd cx ct bu;go_upto_region 2 with(refine rZ rfl (.tmp 3) (.tmp 16) rfl rfl df rfl dq ?_);rw[b1.out.1,b1.out.2];cases ok
 .have bv:=qZ (a5 F M.old);have dn:=qZ M.old;go_wp2_with fail;refine bv.mono ?_;rintro e f2⟨rfl,cc⟩;have Y:=dn.out.trans (cc.mono dn.size);go_wp2_with fail;go_ret;exact⟨rfl,Y⟩
 .obtain⟨bh,fm,_⟩:=KQ dm rfl;have ok:=BP bh (show ys.length<=1000 by omega);have ah:=qZ (aC bh (show ys.length<=1000 by omega));obtain⟨af,c1,ag,c2,dg,c3,eq,c4,gb,c5,rl,b8,T⟩:=M.st.parts;obtain⟨du,cb⟩:=nZ (Top.used s.c s.rs);have gof:=bM.AR T.cfg T.rs ok.mild.aP F (aJ _ _);rw[KM,T.map,cb]at gof;have cg:=T.cfg;have eg:s.ps.length<=1000000:=by have:=bh.len;omega
  have hF:=λid W (d:Below F F W)=>MS T.ps eg id W d;have cq:=T.ps;obtain⟨ak,bm⟩:=nZ s.c.aI;obtain⟨ai,bl⟩:=nZ s.c.aK;obtain⟨am,bn⟩:=nZ s.c.aP.length;obtain⟨l2,bo⟩:=nZ s.c.aQ.length;obtain⟨aa,av⟩:=nZ s.ps.length;obtain⟨fw,cl⟩:=nZ s.rs.length;have fs:=T.map;rw[bm,bl,bn,bo,av,cl]at b8;rw[bm,bl,bn,bo]at cg;rw[bm,bl,bn,bo,cl]at gof;rw[av]at cq;have dh:=qZ gof;have es:=qY (∀id W,Below F F W->Calls prog 15 #[.slice dg aa c3,.int .i64 id] W λe w'=>e=.returned (.int .i64 (vG s.ps id))/\Below W W w') (λid W d=>by have:=hF id W d;rw[av]at this;exact this);have dk:=qZ cg;have e5:=qZ cq;have dl:=qZ (aC av cb);have ex:=qZ M.old;have bc:=qY (∀W,Below F F W->W.cell? (n,0)=some (.slice af am c1)/\W.cell? (n,1)=some (.slice ag l2 c2)/\W.cell? (n,2)=some (.int .i64 ak)/\W.cell? (n,3)=some (.int .i64 ai)/\W.cell? (n,6)=some (.slice dg aa c3)/\W.cell? (n,7)=some (.slice eq fw c4)) (λW d=>by have x:=M.box.below d M.box.lt;rw[b8]at x;exact⟨x.cell 0,x.cell 1,x.cell 2,x.cell 3,x.cell 6,x.cell 7⟩);obtain⟨db,r1,r2,r3,-,fy⟩:=bc.out F (aJ _ _);clear bh fm dm dq b1 ok T b8 gof cg eg hF cq bm bl bn bo av cl fs cb;go_upto_region 4 with fail;go_wp2_with fail;refine dh.mono ?_;rintro e dd⟨va,rfl,cp,Y⟩;obtain⟨ep,fv,rfl,-⟩:=cp.form;have ds:=qZ cp.sl;obtain⟨fx,ej⟩:=nZ du.length;rw[ej]at ds⊢;have dj:=qZ Y;have ce:=M.below Y;have a8:=qZ ce;have di:=qZ (aai ce.st ah.1 ah.2 dd (aJ _ _));clear cp Y ce ej db r1 r2 r3 fy dh M;go_upto_region 5 with fail;go_wp2_with(refine AB rfl (.tmp 3) rfl a8 rfl ?_);refine di.mono ?_;rintro e de⟨bs,gw,rfl,bp,bj,bi⟩;obtain⟨ae,bq⟩:=nZ ((Top.run s).1);obtain⟨ev,ch⟩:=nZ ((Top.run s).2);rw[bq]at bp;rw[ch]at bj;have ef:ev.length<=maxLen:=by
   rcases bj.form with⟨_,e⟩|⟨g,c,_,_,_,O,bg⟩
   .rw[e];decide
   .exact aV O bg
  obtain⟨ga,gr,rfl,el⟩:=bj.sl GK;obtain⟨n1,ck⟩:=nZ ev.length;rw[ck]at ef⊢;unfold maxLen at ef;obtain⟨eo,cs⟩:=nZ (de:Nat);obtain⟨w1,cv⟩:=nZ (bx de bs);have al:=uD.new bp (a8.old.trans (bi.mono a8.old.size));have ax:=xB de bs;rw[cv]at al ax;rw[cs]at al;have dw:Below F F w1:=aA (aA dj bi) ax;have dx:Below dd dd w1:=aA bi ax;obtain⟨gc,d1,gd,d2,bt,d3,ge,d4,gf,d5,gt,dy,cy⟩:=al.st.parts;have ea:Top.Good ys.length ae:=by rw[<-bq];exact ah.1.run
  have eh:ae.ps.length<=1000000:=by have:=ea.len;have:=ah.2;omega
  obtain⟨ab,aw⟩:=nZ ae.ps.length;have et:=qY (∀id W,Below w1 w1 W->Calls prog 15 #[.slice bt ab d3,.int .i64 id] W λe w'=>e=.returned (.int .i64 (vG ae.ps id))/\Below W W w') (λid W d=>by have:=MS cy.ps eh id W d;rw[aw]at this;exact this);have fc:=qY (PSl w1 (.slice bt ab d3) ae.ps) (by have:=cy.ps;rw[aw]at this;exact this);have fb:=qY (∀W,Below w1 w1 W->W.cell? (eo,6)=some (.slice bt ab d3)) (λW d=>by have x:=al.box.below d al.box.lt;rw[dy,aw]at x;exact x.cell 6);have dr:=qZ bp;have b0:=qZ (aC cv cs);have dp:=qZ (el.below ax);have K:=qZ (aC bq ch);have a9:=qZ (aC ck aw);have bw:=qZ dw;have eu:=qZ dx;clear bq ch bp bj bi el ck cs cv al ax dw dx dy cy ea eh aw di a8 dj;go_upto_region 6 with(refine rZ rfl (.tmp 6) (.tmp 29) rfl rfl bs rfl dr ?_);rw[b0.out.1,b0.out.2];clear dr b0;go_wp2_with fail;go_loopg[8,9] n1 (λfj f0 f1 wr=>∃(k:Nat) (z:Int),f0=.int .i64 z/\f1=.int .i64 k/\k<=n1/\n1<=fj+k/\Hid (Lst ev k z)/\Hid (Below w1 w1 wr));case atStart=>exact⟨0,-1,rfl,mZ,oZ,oZ,qZ (apL ev),qZ (aJ _ _)⟩
  case round=>
   obtain⟨k,z,rfl,rfl,fp,fo,bz,H⟩:=hrel;by_cases fq:k<n1
   .have gl:(k:Int)<(n1:Int):=oZ;have au:k<ev.length:=by rw[a9.out.1];exact fq
    obtain⟨aq,ay,rfl,fr,Q⟩:=dp.dD au;have az:CI wr aq (ay+k*3) (ev[k].kind):=Q wr H 0 _ rfl;have N:=qY (∀W,aF wr W->W.cell? (aq,ay+k*3+1)=some (.int .i64 ev[k].id)) (λW d=>Q W (aA H d) 1 _ rfl);have ba:=qZ (λe:¬ev[k].kind=2=>atZ au bz e);have bd:=qZ (λe:ev[k].kind=2=>asq au e);have an:=qZ (λe:ev[k].kind=2=>alE ah.1 (i:=k) (e:=ev[k]) (by rw[K.out.2];exact aH au) e);obtain⟨en,ed⟩:=nZ (ev[k].kind);obtain⟨id,ar⟩:=nZ (ev[k].id);rw[ed]at az ba bd an;rw[ar]at N an;clear Q au fr ed ar;by_cases b7:en=2
    .subst b7;obtain⟨q,Z,aj,d7⟩:=an.out rfl;have bb:=qZ (bd rfl);obtain⟨f,l,e3,-,r⟩:=zD (by obtain⟨Ap,cap,e2,-,-,co,-⟩:=fc.out;cases e2;exact co) (show q<ae.ps.length by rw[<-K.out.1];exact Z);subst e3;have cn:q<ab:=by rw[<-a9.out.2,<-K.out.1];exact Z
     have fu:(q:Int)<(ab:Int):=oZ;have ft:¬(q:Int)<0:=oZ;have br:∃u,(∀W,aF wr W->W.cell? (f,l+q*11+1)=some (.int .i64 u))/\(k=0->kP s.c du u=true):=by refine⟨_,λW d=>r W (aA H d) 1 _ rfl,λe=>?_⟩;have:=d7 e;rw[dl.out.2]at this;rw[<-this];congr 2;simp[K.out.1]
     obtain⟨u,br,d8⟩:=br;have e8:=qZ br;have ey:=qZ d8;have b4:∀W,aF wr W->Calls prog 15 #[.slice (some ⟨f,l,none⟩) ab d3,id] W λe w'=>e=.returned (.int .i64 (q:Int))/\aF wr w':=λW d=>by
      have cu:vG ae.ps id=(q:Int):=by unfold vG;rw[<-K.out.1,aj];rfl
      rw[<-cu];exact(et id W (aA H d)).mono λe w' ⟨a,b⟩=>⟨a,aA d b⟩
     have ap:∀W,aF wr W->CV W eo 6 (.slice (some ⟨f,l,none⟩) ab d3):=λW d=>fb W (aA H d);have fd:=N.out;clear ba bd an Z aj d7 r cn br d8 N;go_upto_region 12 with fail;clear az;refine kK ?_;(repeat refine kY ?_);refine kM ?_ (h:=by intro W d;go_simp;first|exact b4 W d|exact⟨d,b4 W d⟩);(repeat refine kY ?_);refine eH ?_;intro W d;have I:=qZ (aA H d);have f6:=ap W d;have fz:=e8.out W d;clear ap fd b4 d H;go_upto_region 16 with fail;clear f6 fz;rcases gI k with rfl|gj
     .have er:=qY (Calls prog 16 #[.agg #[.slice af am c1,.slice ag l2 c2,ak,ai],.slice ep fx fv,u] W λe w'=>e=.returned (.bool true)/\Below W W w') (by have:=UY (dk.below bw) (ds.below eu) u W I;rw[ey.out rfl]at this;exact this);obtain⟨db,r1,r2,r3,-,-⟩:=bc.out W (aA bw I);go_wp2_with fail;refine er.mono ?_;rintro e gx⟨rfl,d0⟩;have ew:=qZ (aA I d0);clear d0 db r1 r2 r3;go_wp2_with fail;go_roundg(n1-(0+1));case measure=>omega
      case rel=>exact⟨0+1,_,rfl,mZ,oZ,oZ,bb,ew⟩
     .have cj:((k:Int)==0)=false:=by simp;omega
      go_wp2_with fail;go_roundg(n1-(k+1));case measure=>omega
      case rel=>exact⟨k+1,_,rfl,mZ,oZ,oZ,bb,I⟩
    .have gi:(en !=2)=true:=by simpa using b7
     have bb:=qZ (ba b7);clear ba bd an N;go_wp2_with fail;go_roundg(n1-(k+1));case measure=>omega
     case rel=>exact⟨k+1,_,rfl,mZ,oZ,oZ,bb,H⟩
   .have bk:¬(k:Int)<(n1:Int):=oZ;have ee:k=n1:=oZ;have e9:=qY (Lst ev n1 z) (by rw[<-ee];exact bz);have o:=qZ (aA bw H);have ao:=qZ (aA (a:=w) ex o);have bv:=qZ (a5 wr ao);clear fo fp ee bz;by_cases gp:z<0
    .go_wp2_with fail;refine bv.mono ?_;rintro e f2⟨rfl,cc⟩;have Y:=aA ao cc;go_wp2_with fail;go_ret;exact⟨rfl,Y⟩
    .obtain⟨i,rfl,hi,⟨fi,d9,cj⟩,ec⟩:∃i:Nat,z=(i:Int)/\i<n1/\(∃e,ev[i]? =some e/\e.kind=2)/\∀j e,i<j->j<n1->ev[j]? =some e->¬e.kind=2:=by
      rcases e9.out with⟨O,_⟩|O
      .omega
      .exact O
     obtain⟨e1,O,bg,q,Z,aj,cw⟩:=alD ah.1 (i:=i) (e:=fi) (by rw[K.out.2];exact d9) cj (λj fh a b=>ec j fh a (by rw[<-a9.out.1];rw[K.out.2]at b;exact(bE.1 b).1) (by rw[K.out.2]at b;exact b));rw[K.out.2]at O;obtain⟨ci,em⟩:=bE.1 O;have eb:i+1<n1:=by rw[<-a9.out.1];exact ci
     obtain⟨aq,ay,rfl,-,Q⟩:=dp.dD ci;rw[em]at Q;have az:CI wr aq (ay+(i+1)*3) 1:=by have:=Q wr H 0 _ rfl;rw[bg]at this;exact this
     have N:∀W,aF wr W->CI W aq (ay+(i+1)*3+1) e1.id:=λW d=>Q W (aA H d) 1 _ rfl;obtain⟨id,ar⟩:=nZ e1.id;rw[ar]at N aj;obtain⟨m,ei⟩:=nZ (i+1);have go:IntKind.i64.wrap ((i:Int)+1)=(m:Int):=by rw[IntKind.wrap_i64];omega
     rw[ei]at az N eb;have gm:¬(m:Int)≥(n1:Int):=oZ;have gn:(m:Int)<(n1:Int):=oZ;obtain⟨f,l,e3,-,r⟩:=zD (by obtain⟨Ap,cap,e2,-,-,co,-⟩:=e5.out;cases e2;exact co) (show q<s.ps.length from Z);subst e3;have cn:q<aa:=by rw[<-dl.out.1];exact Z
     have fu:(q:Int)<(aa:Int):=oZ;have ft:(q:Int)≥0:=oZ;have b3:∀W,aF wr W->Calls prog 15 #[.slice (some ⟨f,l,none⟩) aa c3,id] W λe w'=>e=.returned (.int .i64 (q:Int))/\aF wr w':=λW d=>by
      have cu:vG s.ps id=(q:Int):=by unfold vG;rw[aj];rfl
      rw[<-cu];exact(es id W (aA o d)).mono λe w' ⟨a,b⟩=>⟨a,aA d b⟩
     obtain⟨p,ek⟩:=nZ (s.ps[q]);rw[ek]at r cw;obtain⟨da,u,ad,⟨a0,a1,a2⟩,dc,cz,c0,gv,gu⟩:=p;have dt:∀W,aF wr W->CI W f (l+q*11) da/\CI W f (l+q*11+1) u/\CI W f (l+q*11+2) ad/\CI W f (l+q*11+3) a0/\CI W f (l+q*11+4) a1/\CI W f (l+q*11+5) a2/\CI W f (l+q*11+6) dc/\CI W f (l+q*11+7) cz/\CI W f (l+q*11+8) c0:=λW d=>⟨r W (aA o d) 0 _ rfl,r W (aA o d) 1 _ rfl,r W (aA o d) 2 _ rfl,r W (aA o d) 3 _ rfl,r W (aA o d) 4 _ rfl,r W (aA o d) 5 _ rfl,r W (aA o d) 6 _ rfl,r W (aA o d) 7 _ rfl,r W (aA o d) 8 _ rfl⟩;have ap:∀W,aF wr W->CV W n 6 (.slice (some ⟨f,l,none⟩) aa c3):=λW d=>(bc W (aA o d)).2.2.2.2.1;have dv:∀W,aF wr W->CV W n 0 (.slice af am c1)/\CV W n 1 (.slice ag l2 c2)/\CI W n 2 ak/\CI W n 3 ai:=λW d=>by obtain⟨x0,f3,f4,f5,-,-⟩:=bc.out W (aA o d);exact⟨x0,f3,f4,f5⟩
     have be:=afl da u ad ⟨a0,a1,a2⟩ dc cz c0;have bf:∀W,aF wr W->Calls prog 17 #[.agg #[.slice af am c1,.slice ag l2 c2,ak,ai],true,u,(Vec.mM ⟨a0,a1,a2⟩ ad).val] W λe w'=>e=.returned (.bool true)/\Below W W w':=λW d=>by have:=XI dk (axq F) u (Vec.mM ⟨a0,a1,a2⟩ ad) W (aA o d);rw[show pK s.c [] u (Vec.mM ⟨a0,a1,a2⟩ ad)=true from cw]at this;exact this
     have fl:∀W,aF wr W->Calls prog 11 #[] W λe w'=>e=.returned (.bool true)/\aF wr w':=λW d=>(a5 W (aA ao d)).mono λe w' ⟨a,b⟩=>⟨a,aA d b⟩;generalize Vec.mM ⟨a0,a1,a2⟩ ad=y at be bf;obtain⟨f7,f8,f9⟩:=y;simp only[Vec.V.val]at be bf;clear hi d9 cj ec O bg Z aj cw ci em eb Q ar ei r cn ek bk;go_upto_region 22 with fail;clear az;refine kK ?_;(repeat refine kY ?_);refine kM ?_ (h:=by intro W d;go_simp;first|exact b3 W d|exact⟨d,b3 W d⟩);(repeat refine kY ?_);refine eH ?_;intro W d;have I:=qZ d;have fe:∀W',aF W W'->CI W' f (l+q*11) da/\CI W' f (l+q*11+1) u/\CI W' f (l+q*11+2) ad/\CI W' f (l+q*11+3) a0/\CI W' f (l+q*11+4) a1/\CI W' f (l+q*11+5) a2/\CI W' f (l+q*11+6) dc/\CI W' f (l+q*11+7) cz/\CI W' f (l+q*11+8) c0:=λW' J=>dt W' (aA I J);have ff:∀W',aF W W'->CV W' n 6 (.slice (some ⟨f,l,none⟩) aa c3):=λW' J=>ap W' (aA I J);have fg:∀W',aF W W'->CV W' n 0 (.slice af am c1)/\CV W' n 1 (.slice ag l2 c2)/\CI W' n 2 ak/\CI W' n 3 ai:=λW' J=>dv W' (aA I J);have b5:∀W',aF W W'->Calls prog 17 #[.agg #[.slice af am c1,.slice ag l2 c2,ak,ai],true,u,.agg #[f7,f8,f9]] W' λe w'=>e=.returned (.bool true)/\aF W w':=λW' J=>(bf W' (aA I J)).mono λe w' ⟨a,b⟩=>⟨a,aA J b⟩;have b2:∀W',aF W W'->Calls prog 11 #[] W' λe w'=>e=.returned (.bool true)/\aF W w':=λW' J=>(a5 W' (aA (aA ao I) J)).mono λe w' ⟨a,b⟩=>⟨a,aA J b⟩;have e0:=qZ (aA ao I);clear dt ap dv N bf fl b3 d;go_upto_region 23 with fail;refine kK ?_;(repeat refine kY ?_);refine kM ?_ (h:=by intro W d;go_simp;first|exact bW.up be d|exact⟨d,bW.up be d⟩);(repeat refine kY ?_);refine kM ?_ (h:=by intro W d;go_simp;first|exact b5 W d|exact⟨d,b5 W d⟩);(repeat refine kY ?_);refine kM ?_ (h:=by intro W d;go_simp;first|exact b2 W d|exact⟨d,b2 W d⟩);(repeat refine kY ?_);refine eH ?_;intro gh dz;have fn:=aA e0 dz;clear fe ff fg b5 b2 dz;go_wp2_with fail;go_ret;exact⟨rfl,fn⟩
end bU
variable{W:World}
namespace topBack
open Go Go.ChangeShapes Go.WideShapes Go.ChangeAt Go.RowKit
theorem own:ownKnob prog.godebug=none:=by kernel_rfl
theorem laidOut:laidOutB prog=true:=by kernel_rfl
theorem gE:prog.globalNamed "tithebarn/store.errBad" =some 0:=by kernel_rfl
theorem tE:(prog.globals[0]?).map (·.type)=some 291:=by kernel_rfl
theorem LY(u:TypeId)(h:prog.typeName? 3 u=some "*errors.errorString"):u=405:=
 typeName_ptr_named (nm:= "errors.errorString") (by rw[show "*" ++ "errors.errorString" = "*errors.errorString" from by decide];kernel_rfl) kZ dZ u (by rw[show "*" ++ "errors.errorString" = "*errors.errorString" from by decide];exact h)
theorem wE(os:Os)(args:Array Value):laidMetH prog Rows.topBackRow.laid ((World.doorLaid prog 400 os).forCall (λ_ _=>0) ⟨#[],args,[]⟩).memory:=
 laidMetH_of_parts3 (fuel:=8) (laidMet_of_run' 8 kZ kZ) kZ kZ
theorem xZ(h:laidMetH prog Rows.topBackRow.laid W):∃b,W.cell? (0,0)=some (.iface 405 b):=by rw[MakeChecks.laidMetH_plain _ _ _ kZ]at h;obtain⟨a,s,hv,_⟩:=laid_sentinel h gE tE underlying291 LY underlying405 underlying427 rfl rfl underlying9 kZ kZ;exact⟨_,by simpa using World.var?_cell gE hv 0⟩
theorem ER(h:W.cell? (0,0)=some v):0<(W:Nat):=by
 rcases gI (W:Nat)with e|e
 .have:W.heap[0]? =none:=gH oZ;simp[World.cell?,this]at h
 .exact e
theorem lifted(os:Os)(A:os.Started)(H:Type)(enc:TypeId×Value->H):ReturnsInHanded {} Tryz.checked os 4 .any (λw args=>(Rows.topBackSpec.pre enc prog Tryz.f4 [] false w args/\laidMetH prog Rows.topBackRow.laid w)/\sizedMet enc prog Tryz.f4 (OpenSpec.ofChange Rows.topBackSpec) false w args) (Rows.topBackSpec.post enc prog Tryz.f4 false true false false):=by
 refine returnsInHanded_of_change_and (C:=Tryz.checked) (X:=λw _=>laidMetH prog Rows.topBackRow.laid w) (λ_ _ _ s h=>h.of_heap s) own A kZ func4
  (ChangeSpec.witness_shaped (enc:=enc) (C:=Tryz.checked) (os:=os) (X:=λw _=>laidMetH prog Rows.topBackRow.laid w) false (World.doorLaid prog 400 os) #[true] 8 rfl (World.shaped_of_RefB kZ kZ) kZ kZ kZ (wE os _)) ?_
 intro W base args ds gs I g d _ _ k _;have hval:∀(j:Nat) t v,Tryz.f4.params[j]? =some t->args[j]? =some v->Value.okWide prog W .any base t v:=g;have n:=d;obtain⟨p,q,c,l,rfl,M,N⟩:=d;have b:DataW.TrodAll enc prog W 0 (λ_=>true) true Tryz.f4.params.toList args.toList ds p:=c;rw[Tryz.params4]at b hval;obtain⟨F,K,rfl,rfl,a⟩:=trodAll_one b;obtain⟨rfl,rfl⟩:=trodVars_none l;have i:=a;have z:∀x∈p,x.block<(W:Nat):=by obtain⟨m,u⟩:=i;exact DataW.trod_lt m _ _ _ u
 obtain⟨a0,n0,J,rfl⟩:=okWide_slice underlying22 (hval 0 22 F rfl rfl);obtain⟨L,r⟩:=a;obtain⟨ys,y⟩:=bU.DI r;obtain⟨O,f⟩:=xZ k;clear c g;refine(bU.NK y f (ER f)).mono λe W' ⟨o,bel⟩=>?_;subst o;exact⟨_,rfl,_,_,_,[],_,[],n,trodAll_mk1 (shut_bool underlying4 _),(trodAll_cons_mk (Below.trod laidOut kZ (of_decide_eq_true kZ) i bel z) trodAll_mk0),rfl,bel.frame _,λh=>by cases h⟩
theorem over:Rows.topBackRow.holds Tryz.pinned (OpenSpec.ofChange Rows.topBackSpec):=
 OpenClaim.holds_of_wide 4 Tryz.f4 rfl rfl rfl rfl rfl rfl rfl ⟨rfl,rfl,rfl,rfl,rfl⟩ rfl rfl rfl rfl rfl uS func4 joined ET EF
  (λos a H enc _=>lifted os a H enc)
theorem proved:Rows.TopBackCardSaid:=
 Claim7.holds_tied_plain_at .later [] [.sentinel] true (true,"c97910147129ad8b29a81bf79b7d3dfe1754e7ca21dcd0dadd0273f90efd963e") true
  over (λ_ h=>by cases h) d1 (λ_ h=>by cases h) topBack_row_tie rfl ⟨rfl,rfl⟩ d2 rfl
  (λf fn c d=>by
   obtain rfl:f=4:=Option.some.inj (uS.symm.trans c) |>.symm;obtain rfl:fn=Tryz.f4:=(Option.some.inj (func4.symm.trans d)).symm;exact⟨d3,λj t a=>by
    rw[Tryz.params4]at a;have b:t=22:=by
     rcases j with _|j
     .simpa using a.symm
     .simp at a
    subst b;exact d4⟩)
  d5
#print axioms proved
end topBack
end Go.Proofs.YtedmeglbjmdlhaaGreatDoor
