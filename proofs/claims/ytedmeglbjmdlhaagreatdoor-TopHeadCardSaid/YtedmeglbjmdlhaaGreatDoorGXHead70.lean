/-
TopHead: whatever commands came ahead, the start that was reserved holds: when time has gone on to it and nothing but rounds came between, the head fits. Conditions: none beyond the card.
-/
import Derived.Test.YtedmeglbjmdlhaaGreatDoorGXHead65
import Derived.Test.YtedmeglbjmdlhaaGreatDoorG33
import Derived.Test.YtedmeglbjmdlhaaGreatDoorGXHead37
import Derived.Test.YtedmeglbjmdlhaaGreatDoorTie
import Derived.ShutString
import Derived.ChangeOld
import Derived.ChangeSame
import Derived.ChangeVars
import Derived.RowKitTokens
import Derived.LaidLaws
import Derived.LaidMore
import Derived.LaidHandle
import Derived.MakeChecks
import Derived.Handed
import Derived.Stop.Joined
import Derived.Stop.LaidErr
set_option maxRecDepth 100000
set_option maxHeartbeats 16000000
set_option linter.all false
open Go.Proofs.Tryz
namespace Go.Proofs.YtedmeglbjmdlhaaGreatDoor
open Go
open Ord Quo Top bM bU sK
variable{ev:List Top.E}{n:Nat}{p:Ord.P}{s:Top.S}{ty:TypeId}{X v:Value}{w:World}
namespace Top
theorem aoA(h:Good n s){rs:List R}{t:Int}(c:∀r∈rs,0<=jC r/\jC r<=1099512676352)(e:start s.c s.aN rs p=some t):0<=t/\t<=1099512676352:=by
 have:=(AP e).1;rcases bA.1 this with a|a
 .have:=h.aN;omega
 .obtain⟨r,b,d,f⟩:=zG.1 a;have:=c r b;omega
theorem amQ(h:Good n s){e:E}(c:lV (run s).2=some e):0<=e.n/\e.n<=1099512676352:=by
 have d:=aej h.sane;cases b:(lT s).head with
 |false=>
  have:=d.no b;have a:lV (lT s).ev=some e:=c;rw[this]at a;cases a
 |true=>
  obtain⟨H,rs,m,a1,a2,a3,a4,l,a6,a7⟩:=d.yes b;have a:lV (lT s).ev=some e:=c;rw[a7]at a;cases a;refine aoA h (λr j=>?_) a2;have f:r∈(run s).1.rs:=by show r∈(lT s).rs;rw[a1];exact cO _ j
  have g:=h.run;have k:=g.time r f;have i:(run s).1.aN=s.aN:=rfl;have p:=h.aN;have o:=(g.kR r.p (fG _ (bL.2 ⟨r,f,rfl⟩))).nums.run;unfold jC;rw[i]at k;omega
end Top
namespace bU
open Go Go.RowKit L bM eZ Srt
theorem UJ{a b:Int}(h:uQ ev=(a,b,true)):∃e,lV ev=some e/\e.id=a/\e.n=b:=by
 unfold uQ at h;cases c:lV ev with
 |none=>rw[c]at h;cases h
 |some e=>rw[c]at h;cases h;exact⟨e,rfl,rfl,rfl⟩
def XD(n:Int):Top.Cmd:=⟨5,Top.noC,Top.noG,n⟩
theorem aoB{n:Int}(h:gZ s (XD n)=0):Top.apply s (XD n)=Top.tick s n:=by unfold Top.apply;rw[aG h];rfl
theorem amP{ys:List vB}(h:RV w v ys)(dp:w.cell? (0,0)=some (.iface ty X))(O:0<(w:Nat)):Calls prog 8 #[v] w λe w'=>e=.returned (.bool true)/\Below w w w':=by
 have bd:=qZ (OX h);have ah:Hid (∀W,Below w w W->Calls prog 11 #[] W λe w'=>e=.returned (.bool true)/\Below w w w'):=qZ (λW an=>(DR ((an.cell (p:=⟨0,0,none⟩) O).trans dp) (aM O an.size)).mono λe w' ⟨a,b⟩=>⟨a,an.trans (b.mono an.size)⟩);obtain⟨A,ca,rfl,_,_,_⟩:=h;obtain⟨f5,bp⟩:=nZ ys.length;have ek:=qZ bp;rw[bp]at bd⊢;clear dp O bp;go_enter func8,ntmps8;go_upto_region 1 with fail;go_wp2_with fail;refine bd.mono ?_;rintro e wc⟨cq,s,ok,rfl,b6,b9,dk⟩;obtain⟨cm,cg⟩:=nZ (wc:Nat);obtain⟨ea,cj⟩:=nZ (bx wc cq);have bs:=uD.new b9 dk;rw[cj,cg]at bs;have K:=qZ bs;have cy:=qZ b9;have bj:=qZ (aC cj cg);rw[<-ek.out]at b6;have cw:=qZ b6;clear b9 dk b6 bs cj cg bd;go_upto_region 2 with(refine rZ rfl (.tmp 3) (.tmp 21) rfl rfl cq rfl cy ?_);rw[bj.out.1,bj.out.2];cases ok
 .have J:=qZ (ah ea K.old);go_wp2_with fail;refine J.mono ?_;rintro e I⟨rfl,g⟩;go_wp2_with fail;go_ret;exact⟨rfl,g⟩
 .obtain⟨bn,fc,_⟩:=KQ cw rfl;have ct:=qZ (aai K.st bn (show ys.length<=1000 by omega) ea (aJ _ _));have j:=qZ (aC bn (show ys.length<=1000 by omega));clear bn fc cw cy bj;go_upto_region 4 with fail;go_wp2_with(refine AB rfl (.tmp 3) rfl K rfl ?_);refine ct.mono ?_;rintro e cn⟨bb,fu,rfl,av,bw,bq⟩;obtain⟨i,cc⟩:=nZ ((Top.run s).1);obtain⟨ev,bv⟩:=nZ ((Top.run s).2);rw[cc]at av;rw[bv]at bw;obtain⟨fw,gg,rfl,fh⟩:=bw.sl GK;obtain⟨n1,ar⟩:=nZ ev.length;rw[ar];obtain⟨d9,cd⟩:=nZ (cn:Nat);obtain⟨w1,ch⟩:=nZ (bx cn bb);have m:=uD.new av (K.old.trans (bq.mono K.old.size));have b7:=xB cn bb;rw[ch]at m b7;have bm:=(K.below bq).below b7;rw[cd]at m;have cz:=qZ av;have bi:=qZ (aC ch cd);have be:=qZ bm;have cu:=qZ m;have L:=qZ (aC cc bv);have cs:=qZ (ajG bm.st j.1 j.2 w1 (aJ _ _));clear cc bv av bw bq fh ar cd ch m b7 bm K ct;go_upto_region 5 with(refine rZ rfl (.tmp 5) (.tmp 29) rfl rfl bb rfl cz ?_);rw[bi.out.1,bi.out.2];go_wp2_with(refine AB rfl (.tmp 3) rfl be rfl ?_);refine cs.mono ?_;rintro e ba⟨rfl,br⟩;rw[L.out.2];obtain⟨ff,ad⟩:=nZ (uQ ev);rw[ad];obtain⟨dh,d,Q⟩:=ff;simp only;have al:=be.below br;have aa:=cu.below br;obtain⟨aN,au⟩:=nZ s.aN;have fr:ba.cell? (cm,4)=some (.int .i64 aN):=by rw[<-au];exact(al.box.cell 4).trans al.st.aN
  obtain⟨fx,c1,fy,c2,ed,c3,f0,c4,f1,c5,rl,M,r⟩:=aa.st.parts;have cl:CV ba d9 6 (.slice ed i.ps.length c3):=by have x:=aa.box;rw[M]at x;exact x.cell 6
  have b2:Top.Good ys.length i:=by rw[<-L.out.1];exact j.1.run
  have fg:=b2.len;have du:=j.1.aN;rw[au]at du;have ag:=qZ (MS r.ps oZ dh ba (aJ _ _));obtain⟨d0,b4⟩:=nZ i.ps.length;rw[b4]at cl ag;have ap:Q=true->0<=d/\d<=1099512676352:=λe=>by rw[e]at ad;obtain⟨ak,Z,dc,fb⟩:=UJ ad;rw[<-fb];exact amQ j.1 (by rw[L.out.2];exact Z)
  have en:=qZ r.ps;have eg:=qZ al;have ai:=qZ aa;have eh:=qZ ad;have bh:=qZ b2;have aj:=qZ (aC au b4);have el:=qZ aa.old;clear al aa M r b2 fg au b4 ad br cs be cu cz bi;by_cases b1:Q=true/\aN<d/\d-aN<=1048576
  .obtain⟨rfl,Z,dc⟩:=b1;obtain⟨n,aq⟩:=nZ (d-aN);have fi:IntKind.i64.wrap (d-aN)=n:=by rw[IntKind.wrap_i64];omega
   have b3:¬d<=aN:=oZ;have gd:¬n>1048576:=oZ;have ep:=qZ aq;have ar: -9223372036854775808<=n/\n<=9223372036854775807:=oZ;obtain⟨ak,dl,dq,dm⟩:=UJ eh;obtain⟨H,am,df,bo⟩:=amR j.1 (e:=ak) (by rw[L.out.2];exact dl);rw[L.out.1]at am bo;obtain⟨k,dr,bz,dg⟩:=RA bh.aeA am;rw[df,dq]at bz;have dy:vG i.ps dh=(k:Int):=by unfold vG;rw[bz];rfl
   rw[dy]at ag;have gc:(k:Int)<(d0:Int):=by have:=aj.2;omega
   have gb:¬(k:Int)<0:=oZ;obtain⟨Ap,cap,e2,-,-,dx,-⟩:=en.out;cases e2;obtain⟨l,u,rfl,-,bt⟩:=zD dx dr;rw[dg]at bt;have ok:=BP j.1 j.2;have d6:=BP bh j.2;have de:=d6.kR H (cO _ am);have Y:=qZ (aC bo (aC dm (aC de ok.mild)));have y:=qZ bt;clear ap du dl dq dm am df bo dg bz dy dx de ok d6 bt aq dr dc;go_upto_region 8 with fail;go_wp2_with fail;refine ag.mono ?_;rintro e c⟨rfl,f⟩;have ab:=eg.below f;have dd:=ai.below f;have fs:c.cell? (cm,4)=some (.int .i64 aN):=by rw[<-aj.out.1];exact(ab.box.cell 4).trans ab.st.aN
   have ft:CV c d9 6 (.slice (some ⟨l,u,none⟩) d0 c3):=(ai.box.below f ai.box.lt |>.cell 6).trans ((ai.box.cell 6).symm.trans cl);obtain⟨id,a9,a5,⟨n0,az,n2⟩,a8,ay,a0,d8,d7⟩:=H;have gj:CI c l (u+k*11) id:=y.out c f 0 _ rfl;have p1:CI c l (u+k*11+1) a9:=y.out c f 1 _ rfl;have p2:CI c l (u+k*11+2) a5:=y.out c f 2 _ rfl;have p3:CI c l (u+k*11+3) n0:=y.out c f 3 _ rfl;have p4:CI c l (u+k*11+4) az:=y.out c f 4 _ rfl;have gl:CI c l (u+k*11+5) n2:=y.out c f 5 _ rfl;have p6:CI c l (u+k*11+6) a8:=y.out c f 6 _ rfl;have gm:CI c l (u+k*11+7) ay:=y.out c f 7 _ rfl;have gn:CI c l (u+k*11+8) a0:=y.out c f 8 _ rfl;obtain⟨I,ax⟩:=nZ (c.alloc (.cells #[id,a9,a5,n0,az,n2,a8,ay,a0] 42));have g:=aB ax;have cp:=aX ax;have bl:=dd.below g;have go:I.cell? (cm,4)=some (.int .i64 aN):=by rw[<-aj.out.1];exact((ab.below g).box.cell 4).trans ab.st.aN
   obtain⟨f9,b0⟩:=nZ (c:Nat);rw[b0]at cp;have cr:=LD (x:=XD n) bl.st bh j.2 (VR I) ar I (aJ _ _);have cv:=qZ cr;have bk:=qZ cp;have c0:=qZ (aC ax b0);have bf:=qZ bl;clear f ab dd ax g cp bl b0 cr fr cl ag;go_upto_region 12 with fail;rw[c0.out.1,c0.out.2];go_wp2_with(refine AB rfl (.tmp 5) rfl bf rfl ?_);refine cv.mono ?_;rintro e co⟨bc,fu,rfl,cb,dn,ao⟩;obtain⟨f3,gh,f8,rfl⟩:=dn.sA;obtain⟨ae,ce⟩:=nZ (co:Nat);obtain⟨N,ci⟩:=nZ (bx co bc);have m:=uD.new cb (bf.old.trans (ao.mono bf.old.size));have b8:=xB co bc;rw[ci]at m b8;rw[ce]at m;have af:=(bk.below ao bk.out.lt).below b8 (aM bk.out.lt ao.size);have eo:=qZ cb;have da:=qZ (aC ci ce);have bg:=qZ m;have eq:=qZ af;have J:=qZ (ah N m.old);obtain⟨db,bu⟩:=nZ (gZ i (XD n));rw[bu];have ei:=qZ bu;clear cb dn ce ci m b8 af ao cv bu ft fs;go_upto_region 13 with(refine rZ rfl (.tmp 12) (.tmp 73) rfl rfl bc rfl eo ?_);rw[da.out.1,da.out.2];by_cases O:db=0
   .subst O;have di:=aoB ei;obtain⟨eb,er,ec,es,fz,f6,ee,et,f2,f7,gp,M,r⟩:=bg.st.parts;rw[di]at M r;have z:=bg.box;rw[M]at z;obtain⟨F,aw⟩:=nZ ((Top.tick i n).1);have ck:F.c=s.c:=by rw[<-aw,<-L.out.1];rfl
    have dz:F.rs=Top.dD i.rs ak.n:=by
     rw[<-aw];show Top.dD i.rs (i.aN+n)=_;have e1:i.aN=s.aN:=by rw[<-L.out.1];rfl
     have e2:=Y.2.1;rw[e1,aj.out.1];congr 1;have gf:=ep.out;omega
    rw[aw]at M r z;have T:=GI r.cfg r.rs (by rw[ck];exact Y.2.2.2) ⟨id,a9,a5,⟨n0,az,n2⟩,a8,ay,a0,d8,d7⟩ Y.2.2.1.num Y.2.2.1.lev N (aJ _ _);obtain⟨fj,b3⟩:=nZ F.c.aP.length;obtain⟨l2,ds⟩:=nZ F.c.aQ.length;obtain⟨fl,dt⟩:=nZ F.rs.length;rw[b3,ds,dt]at T z;rw[r.map,dz,show Top.dR F.c=Top.dR s.c from by rw[ck]]at T;obtain⟨o,b5⟩:=nZ (Top.dR s.c (Top.dD i.rs ak.n) ⟨id,a9,a5,⟨n0,az,n2⟩,a8,ay,a0,d8,d7⟩);have dv:o.isSome=true:=by rw[<-b5];exact Y.1
    rw[b5]at T;simp only[dW,iD]at T;have ej:=qZ T;have em:=qZ dv;have fm:CV N ae 0 (.slice eb fj er):=z.cell 0;have fn:CV N ae 1 (.slice ec l2 es):=z.cell 1;have fo:CI N ae 2 F.c.aI:=z.cell 2;have fp:CI N ae 3 F.c.aK:=z.cell 3;have fq:CV N ae 7 (.slice ee fl et):=z.cell 7;have af:=eq.out;obtain⟨eu,ew,ex,ey,ez,e0,e5,e8,e9⟩:=af.c9;have cx:=qZ bg.old;clear di M r z ck dz T dv b5 b3 ds dt af aw;go_upto_region 15 with fail;go_wp2_with fail;refine ej.mono ?_;rintro e fv⟨v',rfl,dw,dj⟩;rw[em.out];obtain⟨f4,gi,cf,rfl⟩:=dw.sA;have ef:=qZ (ah fv (cx.out.trans (dj.mono cx.size)));clear dw dj fm fn fo fp fq eu ew ex ey ez e0 e5 e8 e9;go_wp2_with fail;refine ef.mono ?_;rintro e gr⟨rfl,fd⟩;go_wp2_with fail;go_ret;exact⟨rfl,fd⟩
   .have ga:(db !=0)=true:=by simpa using O
    go_wp2_with fail;refine J.mono ?_;rintro e I⟨rfl,g⟩;go_wp2_with fail;go_ret;exact⟨rfl,g⟩
  .have J:=qZ (ah ba el);have fe:Q=false\/(Q=true/\d<=aN)\/(Q=true/\¬d<=aN/\d-aN>1048576):=by
    cases Q
    .exact .inl rfl
    .by_cases Z:d<=aN
     .exact .inr (.inl ⟨rfl,Z⟩)
     .exact .inr (.inr ⟨rfl,Z,by have:¬d-aN<=1048576:=λe=>b1 ⟨rfl,oZ,e⟩;omega⟩)
   clear b1;rcases fe with rfl|⟨rfl,aq⟩|⟨rfl,aq,ge⟩
   .go_wp2_with fail;refine J.mono ?_;rintro e I⟨rfl,g⟩;go_wp2_with fail;go_ret;exact⟨rfl,g⟩
   .clear ap;go_wp2_with fail;refine J.mono ?_;rintro e I⟨rfl,g⟩;go_wp2_with fail;go_ret;exact⟨rfl,g⟩
   .have:=ap rfl;have fi:IntKind.i64.wrap (d-aN)=d-aN:=by rw[IntKind.wrap_i64];omega
    clear ap this;go_wp2_with fail;refine J.mono ?_;rintro e I⟨rfl,g⟩;go_wp2_with fail;go_ret;exact⟨rfl,g⟩
end bU
variable{W:World}
namespace topHead
open Go Go.ChangeShapes Go.WideShapes Go.ChangeAt Go.RowKit
theorem own:ownKnob prog.godebug=none:=by kernel_rfl
theorem laidOut:laidOutB prog=true:=by kernel_rfl
theorem gE:prog.globalNamed "tithebarn/store.errBad" =some 0:=by kernel_rfl
theorem tE:(prog.globals[0]?).map (·.type)=some 291:=by kernel_rfl
theorem LY(u:TypeId)(h:prog.typeName? 3 u=some "*errors.errorString"):u=405:=
 typeName_ptr_named (nm:= "errors.errorString") (by rw[show "*" ++ "errors.errorString" = "*errors.errorString" from by decide];kernel_rfl) kZ dZ u (by rw[show "*" ++ "errors.errorString" = "*errors.errorString" from by decide];exact h)
theorem wE(os:Os)(args:Array Value):laidMetH prog Rows.topHeadRow.laid ((World.doorLaid prog 400 os).forCall (λ_ _=>0) ⟨#[],args,[]⟩).memory:=
 laidMetH_of_parts3 (fuel:=8) (laidMet_of_run' 8 kZ kZ) kZ kZ
theorem xZ(h:laidMetH prog Rows.topHeadRow.laid W):∃b,W.cell? (0,0)=some (.iface 405 b):=by rw[MakeChecks.laidMetH_plain _ _ _ kZ]at h;obtain⟨a,s,hv,_⟩:=laid_sentinel h gE tE underlying291 LY underlying405 underlying427 rfl rfl underlying9 kZ kZ;exact⟨_,by simpa using World.var?_cell gE hv 0⟩
theorem ER(h:W.cell? (0,0)=some v):0<(W:Nat):=by
 rcases gI (W:Nat)with e|e
 .have:W.heap[0]? =none:=gH oZ;simp[World.cell?,this]at h
 .exact e
theorem lifted(os:Os)(A:os.Started)(H:Type)(enc:TypeId×Value->H):ReturnsInHanded {} Tryz.checked os 8 .any (λw args=>(Rows.topHeadSpec.pre enc prog Tryz.f8 [] false w args/\laidMetH prog Rows.topHeadRow.laid w)/\sizedMet enc prog Tryz.f8 (OpenSpec.ofChange Rows.topHeadSpec) false w args) (Rows.topHeadSpec.post enc prog Tryz.f8 false true false false):=by
 refine returnsInHanded_of_change_and (C:=Tryz.checked) (X:=λw _=>laidMetH prog Rows.topHeadRow.laid w) (λ_ _ _ s h=>h.of_heap s) own A kZ func8
  (ChangeSpec.witness_shaped (enc:=enc) (C:=Tryz.checked) (os:=os) (X:=λw _=>laidMetH prog Rows.topHeadRow.laid w) false (World.doorLaid prog 400 os) #[true] 8 rfl (World.shaped_of_RefB kZ kZ) kZ kZ kZ (wE os _)) ?_
 intro W base args ds gs I g d _ _ k _;have hval:∀(j:Nat) t v,Tryz.f8.params[j]? =some t->args[j]? =some v->Value.okWide prog W .any base t v:=g;have n:=d;obtain⟨p,q,c,l,rfl,M,N⟩:=d;have b:DataW.TrodAll enc prog W 0 (λ_=>true) true Tryz.f8.params.toList args.toList ds p:=c;rw[Tryz.params8]at b hval;obtain⟨F,K,rfl,rfl,a⟩:=trodAll_one b;obtain⟨rfl,rfl⟩:=trodVars_none l;have i:=a;have z:∀x∈p,x.block<(W:Nat):=by obtain⟨m,u⟩:=i;exact DataW.trod_lt m _ _ _ u
 obtain⟨a0,n0,J,rfl⟩:=okWide_slice underlying22 (hval 0 22 F rfl rfl);obtain⟨L,r⟩:=a;obtain⟨ys,y⟩:=bU.DI r;obtain⟨O,f⟩:=xZ k;clear c g;refine(bU.amP y f (ER f)).mono λe W' ⟨o,bel⟩=>?_;subst o;exact⟨_,rfl,_,_,_,[],_,[],n,trodAll_mk1 (shut_bool underlying4 _),(trodAll_cons_mk (Below.trod laidOut kZ (of_decide_eq_true kZ) i bel z) trodAll_mk0),rfl,bel.frame _,λh=>by cases h⟩
theorem over:Rows.topHeadRow.holds Tryz.pinned (OpenSpec.ofChange Rows.topHeadSpec):=
 OpenClaim.holds_of_wide 8 Tryz.f8 rfl rfl rfl rfl rfl rfl rfl ⟨rfl,rfl,rfl,rfl,rfl⟩ rfl rfl rfl rfl rfl uS func8 joined ET EF
  (λos a H enc _=>lifted os a H enc)
theorem proved:Rows.TopHeadCardSaid:=
 Claim7.holds_tied_plain_at .later [] [.sentinel] true (true,"c97910147129ad8b29a81bf79b7d3dfe1754e7ca21dcd0dadd0273f90efd963e") true
  over (λ_ h=>by cases h) d1 (λ_ h=>by cases h) topHead_row_tie rfl ⟨rfl,rfl⟩ d2 rfl
  (λf fn c d=>by
   obtain rfl:f=8:=Option.some.inj (uS.symm.trans c) |>.symm;obtain rfl:fn=Tryz.f8:=(Option.some.inj (func8.symm.trans d)).symm;exact⟨d3,λj t a=>by
    rw[Tryz.params8]at a;have b:t=22:=by
     rcases j with _|j
     .simpa using a.symm
     .simp at a
    subst b;exact d4⟩)
  d5
#print axioms proved
end topHead
end Go.Proofs.YtedmeglbjmdlhaaGreatDoor
