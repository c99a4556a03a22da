/-
TopQuiet: whatever commands came ahead, a second round right behind one admits nobody if nobody had to give way in either, and the head and its start are the same. Conditions: none beyond the card.
-/
import Derived.Test.YtedmeglbjmdlhaaGreatDoorGXQuiet64
import Derived.Test.YtedmeglbjmdlhaaGreatDoorG33
import Derived.Test.YtedmeglbjmdlhaaGreatDoorGXQuiet35
import Derived.Test.YtedmeglbjmdlhaaGreatDoorTie
import Derived.ShutString
import Derived.ChangeOld
import Derived.ChangeSame
import Derived.ChangeVars
import Derived.RowKitTokens
import Derived.LaidLaws
import Derived.LaidMore
import Derived.LaidHandle
import Derived.MakeChecks
import Derived.Handed
import Derived.Stop.Joined
import Derived.Stop.LaidErr
set_option maxRecDepth 100000
set_option maxHeartbeats 16000000
set_option linter.all false
open Go.Proofs.Tryz
namespace Go.Proofs.YtedmeglbjmdlhaaGreatDoor
open Go
open Top bM bU
variable{ev:List Top.E}{k:Nat}{ty:TypeId}{v x:Value}{w:World}
namespace bU
open Go Go.RowKit L bM eZ Srt
theorem afW(b:k<ev.length){c:Int}(h:∀e∈ev.take k,¬e.kind=c)(e:¬ev[k].kind=c):∀e∈ev.take (k+1),¬e.kind=c:=λx a=>by
 rw[bF b]at a;rcases bY.1 a with a|a
 .exact h x a
 .rw[List.mem_singleton.1 a];exact e
theorem alW{ys:List vB}(h:RV w v ys)(T:w.cell? (0,0)=some (.iface ty x))(a0:0<(w:Nat)):Calls prog 7 #[v] w λe w'=>e=.returned (.bool true)/\Below w w w':=by
 have ar:=qZ (OX h);have au:Hid (∀W,Below w w W->Calls prog 11 #[] W λe w'=>e=.returned (.bool true)/\Below w w w'):=qZ (λW ae=>(DR ((ae.cell (p:=⟨0,0,none⟩) a0).trans T) (aM a0 ae.size)).mono λe w' ⟨a,b⟩=>⟨a,ae.trans (b.mono ae.size)⟩);obtain⟨A,ca,rfl,_,_,_⟩:=h;obtain⟨dl,ba⟩:=nZ ys.length;have cu:=qZ ba;rw[ba]at ar⊢;clear T a0 ba;go_enter func7,ntmps7;go_upto_region 1 with fail;go_wp2_with fail;refine ar.mono ?_;rintro e wc⟨br,s,ok,rfl,bj,bk,ce⟩;obtain⟨ds,bm⟩:=nZ (wc:Nat);obtain⟨cp,bp⟩:=nZ (bx wc br);have bc:=uD.new bk ce;rw[bp,bm]at bc;have u:=qZ bc;have b9:=qZ bk;have az:=qZ (aC bp bm);rw[<-cu.out]at bj;have b2:=qZ bj;clear bk ce bj bc bp bm ar;go_upto_region 2 with(refine rZ rfl (.tmp 3) (.tmp 21) rfl rfl br rfl b9 ?_);rw[az.out.1,az.out.2];cases ok
 .have L:=qZ (au cp u.old);go_wp2_with fail;refine L.mono ?_;rintro e d⟨rfl,i⟩;go_wp2_with fail;go_ret;exact⟨rfl,i⟩
 .obtain⟨a9,da,_⟩:=KQ b2 rfl;have bu:=qZ (aai u.st a9 (show ys.length<=1000 by omega) cp (aJ _ _));have I:=qZ (aC a9 (show ys.length<=1000 by omega));clear a9 da b2 b9 az;go_upto_region 4 with fail;go_wp2_with(refine AB rfl (.tmp 3) rfl u rfl ?_);refine bu.mono ?_;rintro e bq⟨ap,dg,rfl,an,ah,bb⟩;obtain⟨cn,ao⟩:=nZ ((Top.run s).1);obtain⟨ev,F⟩:=nZ ((Top.run s).2);rw[ao]at an;rw[F]at ah;have ch:ev.length<=maxLen:=by
   rcases ah.form with⟨_,e⟩|⟨g,c,_,_,_,y,a5⟩
   .rw[e];decide
   .exact aV y a5
  obtain⟨dj,dq,rfl,ck⟩:=ah.sl GK;obtain⟨n1,bh⟩:=nZ ev.length;rw[bh]at ch⊢;unfold maxLen at ch;obtain⟨dr,bl⟩:=nZ (bq:Nat);obtain⟨w1,bn⟩:=nZ (bx bq ap);have Z:=uD.new an (u.old.trans (bb.mono u.old.size));have al:=xB bq ap;rw[bn]at Z al;have cd:=(u.below bb).below al;rw[bl]at Z;have be:Top.Good ys.length cn:=by rw[<-ao];exact I.1.run
  have cy:=qZ an;have cb:=qZ (aC bn bl);have b4:=qZ (ck.below al);have bw:=qZ cd;have av:=qZ Z;have M:=qZ (aC ao F);have b1:=qZ bh;have cr:=qZ be;have bv:=qZ (aai Z.st be I.2 w1 (aJ _ _));clear ao F an ah bb ck bh bl bn Z al cd be u bu;go_upto_region 5 with(refine rZ rfl (.tmp 5) (.tmp 29) rfl rfl ap rfl cy ?_);rw[cb.out.1,cb.out.2];go_wp2_with(refine AB rfl (.tmp 5) rfl av rfl ?_);refine bv.mono ?_;rintro e co⟨aq,dg,rfl,cm,ai,af⟩;obtain⟨f,F⟩:=nZ ((Top.run cn).2);rw[F]at ai;have ci:f.length<=maxLen:=by
   rcases ai.form with⟨_,e⟩|⟨g,c,_,_,_,y,a5⟩
   .rw[e];decide
   .exact aV y a5
  obtain⟨dk,j,rfl,cl⟩:=ai.sl GK;obtain⟨n2,bi⟩:=nZ f.length;rw[bi]at ci⊢;unfold maxLen at ci;obtain⟨dh,bo⟩:=nZ (bx co aq);have K:=xB co aq;rw[bo]at K;have a8:=(bw.below af).below K;have J:=(av.below af).below K;have cz:=qZ cm;have c0:=qZ bo;have b6:=qZ (cl.below K);have b5:=qZ ((b4.below af).below K);have ax:=qZ F;have aw:=qZ bi;have bz:=qZ a8;have b0:=qZ J;have bs:=qZ (ajG a8.st I.1 I.2 dh (aJ _ _));clear F cm ai af cl bi bo K a8 J bw av bv b4;go_upto_region 6 with(refine rZ rfl (.tmp 7) (.tmp 34) rfl rfl aq rfl cz ?_);rw[c0.out];go_wp2_with(refine AB rfl (.tmp 3) rfl bz rfl ?_);refine bs.mono ?_;rintro e di⟨rfl,ag⟩;have J:=b0.below ag;have ad:=qZ J;have b7:=qZ (b5.below ag);have b8:=qZ (b6.below ag);have bt:=qZ (ajG J.st cr I.2 di (aJ _ _));rw[M.out.2];obtain⟨cg,bf⟩:=nZ (uQ ev);rw[bf];have cs:=qZ bf;clear ag J bz b0 bs bf b5 b6;go_upto_region 7 with fail;go_wp2_with(refine AB rfl (.tmp 5) rfl ad rfl ?_);refine bt.mono ?_;rintro e d⟨rfl,i⟩;rw[ax.out];obtain⟨db,bg⟩:=nZ (uQ f);rw[bg];have ct:=qZ bg;have cv:=qY (Below w w d) (ad.old.trans (i.mono ad.old.size));have cx:=qZ (b7.below i);have b3:=qZ (b8.below i);have L:=qZ (au d cv);clear i ad bt bg b7 b8 au;go_upto_region 8 with fail;go_wp2_with fail;go_loopg[15] n1 (λQ dd wr=>∃k:Nat,dd=.int .i64 k/\k<=n1/\n1<=Q+k/\Hid (∀e∈ev.take k,¬e.kind=2)/\d=wr);case atStart=>exact⟨0,mZ,oZ,oZ,qZ λe bd=>by simp at bd,rfl⟩
  case round=>
   obtain⟨k,rfl,ak,aj,N,rfl⟩:=hrel;by_cases X:k<n1
   .have cj:(k:Int)<(n1:Int):=oZ;have l:k<ev.length:=by rw[b1.out];exact X
    obtain⟨O,aa,rfl,Y,o⟩:=cx.dD l;have ab:CI d O (aa+k*3) (ev[k].kind):=o d (aJ _ _) 0 _ rfl;have n:=qZ (λe:¬ev[k].kind=2=>afW l N e);obtain⟨H,r⟩:=nZ (ev[k].kind);rw[r]at ab n;clear o l Y r;by_cases z:H=2
    .subst z;clear n;go_wp2_with fail;refine L.mono ?_;rintro e d⟨rfl,i⟩;go_wp2_with fail;go_ret;exact⟨rfl,i⟩
    .have cc:(H==2)=false:=by simpa using z
     have ay:=qZ (n z);clear n;go_wp2_with fail;go_roundg(n1-(k+1));case measure=>omega
     case rel=>exact⟨k+1,mZ,oZ,oZ,ay,rfl⟩
   .have T:¬(k:Int)<(n1:Int):=oZ;have cq:=qY (∀e∈ev,¬e.kind=2) (by have h:=N.out;rw[show k=ev.length by have:=b1.out;omega,List.take_length]at h;exact h);clear aj ak;go_upto_region 13 with fail;go_wp2_with fail;go_loopg[16] n2 (λQ de wr=>∃k:Nat,de=.int .i64 k/\k<=n2/\n2<=Q+k/\Hid (∀e∈f.take k,¬e.kind=2)/\d=wr);case atStart=>exact⟨0,mZ,oZ,oZ,qZ λe bd=>by simp at bd,rfl⟩
    case round=>
     obtain⟨j,rfl,ak,aj,N,rfl⟩:=hrel;by_cases X:j<n2
     .have cj:(j:Int)<(n2:Int):=oZ;have l:j<f.length:=by rw[aw.out];exact X
      obtain⟨O,aa,rfl,Y,o⟩:=b3.dD l;have ab:CI d O (aa+j*3) (f[j].kind):=o d (aJ _ _) 0 _ rfl;have n:=qZ (λe:¬f[j].kind=2=>afW l N e);obtain⟨H,r⟩:=nZ (f[j].kind);rw[r]at ab n;clear o l Y r;by_cases z:H=2
      .subst z;clear n;go_wp2_with fail;refine L.mono ?_;rintro e d⟨rfl,i⟩;go_wp2_with fail;go_ret;exact⟨rfl,i⟩
      .have cc:(H==2)=false:=by simpa using z
       have ay:=qZ (n z);clear n;go_wp2_with fail;go_roundg(n2-(j+1));case measure=>omega
       case rel=>exact⟨j+1,mZ,oZ,oZ,ay,rfl⟩
     .have T:¬(j:Int)<(n2:Int):=oZ;have am:=Top.quiet I.1 (by rw[M.out.2];exact cq) (by rw[M.out.1,ax.out];have h:=N.out;rw[show j=f.length by have:=aw.out;omega,List.take_length]at h;exact h);rw[M.out.1,M.out.2,ax.out]at am;have dc:cg=db:=by rw[<-cs.out,<-ct.out];unfold uQ;rw[am.2]
      subst dc;have cw:=qZ am.1;clear aj ak am;go_upto_region 18 with fail;go_wp2_with fail;go_loopg[17] n2 (λQ df wr=>∃k:Nat,df=.int .i64 k/\k<=n2/\n2<=Q+k/\d=wr);case atStart=>exact⟨0,mZ,oZ,oZ,rfl⟩
      case round=>
       obtain⟨m,rfl,ak,aj,rfl⟩:=hrel;by_cases X:m<n2
       .have cj:(m:Int)<(n2:Int):=oZ;have l:m<f.length:=by rw[aw.out];exact X
        obtain⟨O,aa,rfl,Y,o⟩:=b3.dD l;have ab:CI d O (aa+m*3) (f[m].kind):=o d (aJ _ _) 0 _ rfl;have y:¬f[m].kind=1:=cw _ (bB l);obtain⟨H,r⟩:=nZ (f[m].kind);rw[r]at ab y;have cc:(H==1)=false:=by simpa using y
        clear o l Y r y;go_wp2_with fail;go_roundg(n2-(m+1));case measure=>omega
        case rel=>exact⟨m+1,mZ,oZ,oZ,rfl⟩
       .have T:¬(m:Int)<(n2:Int):=oZ;obtain⟨dm,dn,dp⟩:=cg;go_wp2_with fail;refine L.mono ?_;rintro e d⟨rfl,i⟩;go_wp2_with fail;go_ret;exact⟨rfl,i⟩
end bU
variable{W:World}
namespace topQuiet
open Go Go.ChangeShapes Go.WideShapes Go.ChangeAt Go.RowKit
theorem own:ownKnob prog.godebug=none:=by kernel_rfl
theorem laidOut:laidOutB prog=true:=by kernel_rfl
theorem gE:prog.globalNamed "tithebarn/store.errBad" =some 0:=by kernel_rfl
theorem tE:(prog.globals[0]?).map (·.type)=some 291:=by kernel_rfl
theorem LY(u:TypeId)(h:prog.typeName? 3 u=some "*errors.errorString"):u=405:=
 typeName_ptr_named (nm:= "errors.errorString") (by rw[show "*" ++ "errors.errorString" = "*errors.errorString" from by decide];kernel_rfl) kZ dZ u (by rw[show "*" ++ "errors.errorString" = "*errors.errorString" from by decide];exact h)
theorem wE(os:Os)(args:Array Value):laidMetH prog Rows.topQuietRow.laid ((World.doorLaid prog 400 os).forCall (λ_ _=>0) ⟨#[],args,[]⟩).memory:=
 laidMetH_of_parts3 (fuel:=8) (laidMet_of_run' 8 kZ kZ) kZ kZ
theorem xZ(h:laidMetH prog Rows.topQuietRow.laid W):∃b,W.cell? (0,0)=some (.iface 405 b):=by rw[MakeChecks.laidMetH_plain _ _ _ kZ]at h;obtain⟨a,s,hv,_⟩:=laid_sentinel h gE tE underlying291 LY underlying405 underlying427 rfl rfl underlying9 kZ kZ;exact⟨_,by simpa using World.var?_cell gE hv 0⟩
theorem ER(h:W.cell? (0,0)=some v):0<(W:Nat):=by
 rcases gI (W:Nat)with e|e
 .have:W.heap[0]? =none:=gH oZ;simp[World.cell?,this]at h
 .exact e
theorem lifted(os:Os)(A:os.Started)(H:Type)(enc:TypeId×Value->H):ReturnsInHanded {} Tryz.checked os 7 .any (λw args=>(Rows.topQuietSpec.pre enc prog Tryz.f7 [] false w args/\laidMetH prog Rows.topQuietRow.laid w)/\sizedMet enc prog Tryz.f7 (OpenSpec.ofChange Rows.topQuietSpec) false w args) (Rows.topQuietSpec.post enc prog Tryz.f7 false true false false):=by
 refine returnsInHanded_of_change_and (C:=Tryz.checked) (X:=λw _=>laidMetH prog Rows.topQuietRow.laid w) (λ_ _ _ s h=>h.of_heap s) own A kZ func7
  (ChangeSpec.witness_shaped (enc:=enc) (C:=Tryz.checked) (os:=os) (X:=λw _=>laidMetH prog Rows.topQuietRow.laid w) false (World.doorLaid prog 400 os) #[true] 8 rfl (World.shaped_of_RefB kZ kZ) kZ kZ kZ (wE os _)) ?_
 intro W base args ds gs I g d _ _ k _;have hval:∀(j:Nat) t v,Tryz.f7.params[j]? =some t->args[j]? =some v->Value.okWide prog W .any base t v:=g;have n:=d;obtain⟨p,q,c,l,rfl,M,N⟩:=d;have b:DataW.TrodAll enc prog W 0 (λ_=>true) true Tryz.f7.params.toList args.toList ds p:=c;rw[Tryz.params7]at b hval;obtain⟨F,K,rfl,rfl,a⟩:=trodAll_one b;obtain⟨rfl,rfl⟩:=trodVars_none l;have i:=a;have z:∀x∈p,x.block<(W:Nat):=by obtain⟨m,u⟩:=i;exact DataW.trod_lt m _ _ _ u
 obtain⟨a0,n0,J,rfl⟩:=okWide_slice underlying22 (hval 0 22 F rfl rfl);obtain⟨L,r⟩:=a;obtain⟨ys,y⟩:=bU.DI r;obtain⟨O,f⟩:=xZ k;clear c g;refine(bU.alW y f (ER f)).mono λe W' ⟨o,bel⟩=>?_;subst o;exact⟨_,rfl,_,_,_,[],_,[],n,trodAll_mk1 (shut_bool underlying4 _),(trodAll_cons_mk (Below.trod laidOut kZ (of_decide_eq_true kZ) i bel z) trodAll_mk0),rfl,bel.frame _,λh=>by cases h⟩
theorem over:Rows.topQuietRow.holds Tryz.pinned (OpenSpec.ofChange Rows.topQuietSpec):=
 OpenClaim.holds_of_wide 7 Tryz.f7 rfl rfl rfl rfl rfl rfl rfl ⟨rfl,rfl,rfl,rfl,rfl⟩ rfl rfl rfl rfl rfl uS func7 joined ET EF
  (λos a H enc _=>lifted os a H enc)
theorem proved:Rows.TopQuietCardSaid:=
 Claim7.holds_tied_plain_at .later [] [.sentinel] true (true,"c97910147129ad8b29a81bf79b7d3dfe1754e7ca21dcd0dadd0273f90efd963e") true
  over (λ_ h=>by cases h) d1 (λ_ h=>by cases h) topQuiet_row_tie rfl ⟨rfl,rfl⟩ d2 rfl
  (λf fn c d=>by
   obtain rfl:f=7:=Option.some.inj (uS.symm.trans c) |>.symm;obtain rfl:fn=Tryz.f7:=(Option.some.inj (func7.symm.trans d)).symm;exact⟨d3,λj t a=>by
    rw[Tryz.params7]at a;have b:t=22:=by
     rcases j with _|j
     .simpa using a.symm
     .simp at a
    subst b;exact d4⟩)
  d5
#print axioms proved
end topQuiet
end Go.Proofs.YtedmeglbjmdlhaaGreatDoor
