/-
TopDrains: whatever commands came ahead, as time goes on each gang that waits is admitted: behind as many rounds as there are gangs, with the greatest tick between, nobody waits. Conditions: none beyond the card.
-/
import Derived.Test.YtedmeglbjmdlhaaGreatDoorGXDrains45
import Derived.Test.YtedmeglbjmdlhaaGreatDoorGXDrains63
import Derived.Test.YtedmeglbjmdlhaaGreatDoorG33
import Derived.Test.YtedmeglbjmdlhaaGreatDoorGXDrains34
import Derived.Test.YtedmeglbjmdlhaaGreatDoorTie
import Derived.ShutString
import Derived.ChangeOld
import Derived.ChangeSame
import Derived.ChangeVars
import Derived.RowKitTokens
import Derived.LaidLaws
import Derived.LaidMore
import Derived.LaidHandle
import Derived.MakeChecks
import Derived.Handed
import Derived.Stop.Joined
import Derived.Stop.LaidErr
set_option maxRecDepth 100000
set_option maxHeartbeats 16000000
set_option linter.all false
open Go.Proofs.Tryz
namespace Go.Proofs.YtedmeglbjmdlhaaGreatDoor
open Go
open Quo Top bM bU
variable{n z:Nat}{s:Top.S}{ty:TypeId}{v x:Value}{W w:World}
namespace bU
open Go Go.RowKit L bM eZ Srt
def adl:Top.Cmd:=⟨5,Top.noC,Top.noG,1048576⟩
def vQ(s:Top.S):Nat->Top.S
 |0=>s
 |k+1=>(Top.run (Top.tick (vQ s k) 1048576).1).1
theorem XW(h:sP s 1048576=0):gZ s adl=0/\Top.apply s adl=Top.tick s 1048576:=by
 have e:gZ s adl=0:=by unfold gZ;rw[aD dZ];exact h
 refine⟨e,?_⟩;unfold Top.apply;rw[aG e];rfl
theorem TY(s:Top.S):gZ s kD=0/\Top.apply s kD=Top.run s:=by
 have e:gZ s kD=0:=by unfold gZ;rw[aD dZ];rfl
 refine⟨e,?_⟩;unfold Top.apply;rw[aG e];rfl
theorem afz(h:Top.Good n s)(b:s.aN<=1099444518912):∀k,k<=40->Top.Good n (vQ s k)/\(vQ s k).aN=s.aN+k*1048576/\(vQ s k).ps.length<=s.ps.length-k
 |0,_=>⟨h,by show s.aN=_;omega,bI _⟩
 |k+1,f=>by
  obtain⟨g,e,l⟩:=afz h b k oZ;obtain⟨_,_,_,_,_,a,e2,l2,d⟩:=YM g oZ;refine⟨a,by show(Top.run _).1.aN=_;rw[e2];omega,?_⟩;show(Top.run _).1.ps.length<=_;by_cases c:0<(vQ s k).ps.length
  .have:=l2 c;omega
  .have:=d oZ;omega
theorem avE{f:Array Value}(h:StV W z f s)(k:Top.Good n s)(l:n<=1000)(i:sP s 1048576=0):Calls prog 19 #[.agg f,.agg #[(5:Int),true,true,(),(),(),(),(),(),(),(),(),(),(),(1048576:Int)]] W λe w'=>∃d E n c,e=.returned (.tuple #[.agg d,.slice E n c,()])/\StV w' (W:Nat) d (Top.tick s 1048576).1/\Below W W w':=by have g:=LD (x:=adl) h k l (VR W) dZ W (aJ _ _);rw[(XW i).1,(XW i).2]at g;refine g.mono ?_;rintro e w'⟨d,m,rfl,a,b,c⟩;obtain⟨E,n,j,rfl⟩:=b.sA;exact⟨d,E,n,j,rfl,a,c⟩
theorem atF{f:Array Value}(h:StV W z f s)(j:Top.Good n s)(k:n<=1000):Calls prog 19 #[.agg f,.agg #[(6:Int),true,true,(),(),(),(),(),(),(),(),(),(),(),()]] W λe w'=>∃d E n c,e=.returned (.tuple #[.agg d,.slice E n c,()])/\StV w' (W:Nat) d (Top.run s).1/\Below W W w':=by have g:=LD (x:=kD) h j k (VR W) dZ W (aJ _ _);rw[(TY s).1,(TY s).2]at g;refine g.mono ?_;rintro e w'⟨d,l,rfl,a,b,c⟩;obtain⟨E,n,i,rfl⟩:=b.sA;exact⟨d,E,n,i,rfl,a,c⟩
theorem akd{ys:List vB}(h:RV w v ys)(ai:w.cell? (0,0)=some (.iface ty x))(aa:0<(w:Nat)):Calls prog 5 #[v] w λe w'=>e=.returned (.bool true)/\Below w w w':=by
 have X:=qZ (OX h);have a5:Hid (∀W,Below w w W->Calls prog 11 #[] W λe w'=>e=.returned (.bool true)/\Below W W w'):=qZ (λW bl=>DR ((bl.cell (p:=⟨0,0,none⟩) aa).trans ai) (aM aa bl.size));obtain⟨A,ca,rfl,_,_,_⟩:=h;obtain⟨ct,af⟩:=nZ ys.length;have b3:=qZ af;rw[af]at X⊢;clear ai aa af;go_enter func5,ntmps5;go_upto_region 1 with fail;go_wp2_with fail;refine X.mono ?_;rintro e wc⟨N,s,ok,rfl,an,r,bm⟩;have b6:=qZ r;have n:=uD.new r bm;have o:=r.aN;obtain⟨bz,c3,ao⟩:=r.ps;obtain⟨b,aq⟩:=nZ (wc:Nat);obtain⟨ay,av⟩:=nZ (bx wc N);rw[av,aq]at n;have de:CI ay b 4 s.aN:=(n.box.cell 4).trans o;obtain⟨m,ak⟩:=nZ s.ps.length;rw[ak]at ao;have bt:CV ay b 6 (.slice bz m c3):=(n.box.cell 6).trans ao;have d:=qZ n;have bj:=qZ (aC av aq);rw[<-b3.out]at an;have be:=qZ an;have bc:=qZ ak;clear r bm an o ao n av aq ak X;go_upto_region 2 with(refine rZ rfl (.tmp 3) (.tmp 12) rfl rfl N rfl b6 ?_);rw[bj.out.1,bj.out.2];by_cases aj:ok=true/\s.aN<=1099444518912
 .obtain⟨rfl,o⟩:=aj;have bd:=qZ o;have cg:decide (s.aN>1099444518912)=false:=by rw[decide_eq_false_iff_not];omega
  obtain⟨ae,cd,_⟩:=KQ be rfl;have Z:=qZ (aC ae (show ys.length<=1000 by omega));have ch:=ae.len;have db:m<=32:=by have:=bc.out;omega
  clear o ae ch cd be;go_upto_region 5 with fail;go_wp2_with fail;go_loopg[6] (m+1) (λcc co wr=>∃(k:Nat) (az:Array Value),co=.int .i64 k/\k<=m+1/\m+1<=cc+k/\Hid (uD w wr b az (vQ s k)));case atStart=>exact⟨0,N,mZ,oZ,oZ,d⟩
  case round=>
   obtain⟨k,az,rfl,cy,cx,a⟩:=hrel;obtain⟨gk,bk,br⟩:=afz Z.1 bd k oZ;by_cases cz:k<=m
   .have c0:(k:Int)<=(m:Int):=oZ;obtain⟨ax,M,K,L,cn,aw,cl,g,i⟩:=YM gk (by have:=bd.out;omega);have y:vQ s (k+1)=(Top.run (Top.tick (vQ s k) 1048576).1).1:=rfl;obtain⟨cm,bq⟩:=nZ (vQ s k);rw[bq]at gk ax M K L aw g i y a;obtain⟨s1,bp⟩:=nZ ((Top.tick cm 1048576).1);have Q:=avE a.st gk Z.2 ax;rw[bp]at M K L aw g i y Q;obtain⟨s2,ap⟩:=nZ ((Top.run s1).1);rw[ap]at g i y;rw[<-L]at g i;have a9:=qZ Q;have bi:=qZ M;have bh:=qZ K;have bb:=qZ (aC g i);have bg:=qZ y;have bf:=qZ ap;clear ax M K L cn aw cl g i y bq bp ap Q gk bk br cg;go_upto_region 9 with fail;go_wp2_with(refine AB rfl (.tmp 3) rfl a rfl ?_);refine a9.mono ?_;rintro e cp⟨a0,cr,dc,cu,rfl,u,ag⟩;obtain⟨O,c6,c⟩:=u.ps;obtain⟨b0,c7,ab⟩:=u.rs;rw[bi.out]at ab;obtain⟨z,al⟩:=nZ s1.ps.length;rw[al]at c;have f:=a.put ag u lZ;have b9:=qZ (a.below ag);obtain⟨bu,ar⟩:=nZ (cp.setRow b a0);rw[ar]at f;have bt:CV bu b 6 (.slice O z c6):=(f.box.cell 6).trans c;have ck:CV bu b 7 (.slice b0 0 c7):=(f.box.cell 7).trans ab;have b4:=qZ u;have b7:=qZ ar;have Y:=qZ f;have T:=atF f.st bh Z.2;rw[bf.out]at T;have ba:=qZ T;have b2:=qZ al;clear u ag c ab f ar T al a9 bi bh bf;go_upto_region 10 with(refine aqR rfl (.tmp 3) (.tmp 34) rfl b9 rfl a0 rfl b4 ?_);rw[b7.out];go_upto_region 13 with fail;go_wp2_with(refine AB rfl (.tmp 3) rfl Y rfl ?_);refine ba.mono ?_;rintro e cq⟨j,cs,dd,cv,rfl,J,ah⟩;obtain⟨b1,c8,ad⟩:=J.ps;obtain⟨bs,am⟩:=nZ s2.ps.length;rw[am]at ad;have I:=bb.out;rw[b2.out,am]at I;have H:=Y.put ah J lZ;have cb:=qZ (Y.below ah);obtain⟨bv,au⟩:=nZ (cq.setRow b j);rw[au]at H;have dg:CV bv b 6 (.slice b1 bs c8):=(H.box.cell 6).trans ad;have b5:=qZ J;have b8:=qZ au;have a8:=qY (uD w bv b j (vQ s (k+1))) (by rw[bg.out];exact H);clear J ah ad H au am ba bb bg bt ck;go_upto_region 14 with(refine aqR rfl (.tmp 3) (.tmp 52) rfl cb rfl j rfl b5 ?_);rw[b8.out];by_cases ci:0<z
    .have cj:(z:Int)>0:=oZ;have da:¬(bs:Int)≥(z:Int):=by have:=I.1 ci;omega
     clear I;go_wp2_with fail;go_roundg(m+1-(k+1));case measure=>omega
     case rel=>exact⟨k+1,j,mZ,oZ,oZ,a8⟩
    .have cj:¬(z:Int)>0:=oZ;clear I;go_wp2_with fail;go_roundg(m+1-(k+1));case measure=>omega
     case rel=>exact⟨k+1,j,mZ,oZ,oZ,a8⟩
   .have ai:¬(k:Int)<=(m:Int):=oZ;obtain⟨O,c6,c⟩:=a.st.ps;have bn:(vQ s k).ps.length=0:=by have:=bc.out;omega
    rw[bn]at c;have df:CV wr b 6 (.slice O 0 c6):=(a.box.cell 6).trans c;have F:=qZ (a5 wr a.old);clear c bn gk bk br;go_wp2_with fail;refine F.mono ?_;rintro e bw⟨rfl,l⟩;go_wp2_with fail;go_ret;exact⟨rfl,a.old.trans (l.mono a.old.size)⟩
 .have F:=qZ (a5 ay d.old);have ce:ok=false\/(ok=true/\s.aN>1099444518912):=by
   cases ok
   .exact .inl rfl
   .exact .inr ⟨rfl,by have:¬s.aN<=1099444518912:=λe=>aj ⟨rfl,e⟩;omega⟩
  clear aj;rcases ce with rfl|⟨rfl,bo⟩
  .go_wp2_with fail;refine F.mono ?_;rintro e bw⟨rfl,l⟩;go_wp2_with fail;go_ret;exact⟨rfl,d.old.trans (l.mono d.old.size)⟩
  .have cw:decide (s.aN>1099444518912)=true:=decide_eq_true bo;clear bo;go_wp2_with fail;refine F.mono ?_;rintro e bw⟨rfl,l⟩;go_wp2_with fail;go_ret;exact⟨rfl,d.old.trans (l.mono d.old.size)⟩
end bU
namespace topDrains
open Go Go.ChangeShapes Go.WideShapes Go.ChangeAt Go.RowKit
theorem own:ownKnob prog.godebug=none:=by kernel_rfl
theorem laidOut:laidOutB prog=true:=by kernel_rfl
theorem gE:prog.globalNamed "tithebarn/store.errBad" =some 0:=by kernel_rfl
theorem tE:(prog.globals[0]?).map (·.type)=some 291:=by kernel_rfl
theorem LY(u:TypeId)(h:prog.typeName? 3 u=some "*errors.errorString"):u=405:=
 typeName_ptr_named (nm:= "errors.errorString") (by rw[show "*" ++ "errors.errorString" = "*errors.errorString" from by decide];kernel_rfl) kZ dZ u (by rw[show "*" ++ "errors.errorString" = "*errors.errorString" from by decide];exact h)
theorem wE(os:Os)(args:Array Value):laidMetH prog Rows.topDrainsRow.laid ((World.doorLaid prog 400 os).forCall (λ_ _=>0) ⟨#[],args,[]⟩).memory:=
 laidMetH_of_parts3 (fuel:=8) (laidMet_of_run' 8 kZ kZ) kZ kZ
theorem xZ(h:laidMetH prog Rows.topDrainsRow.laid W):∃b,W.cell? (0,0)=some (.iface 405 b):=by rw[MakeChecks.laidMetH_plain _ _ _ kZ]at h;obtain⟨a,s,hv,_⟩:=laid_sentinel h gE tE underlying291 LY underlying405 underlying427 rfl rfl underlying9 kZ kZ;exact⟨_,by simpa using World.var?_cell gE hv 0⟩
theorem ER(h:W.cell? (0,0)=some v):0<(W:Nat):=by
 rcases gI (W:Nat)with e|e
 .have:W.heap[0]? =none:=gH oZ;simp[World.cell?,this]at h
 .exact e
theorem lifted(os:Os)(A:os.Started)(H:Type)(enc:TypeId×Value->H):ReturnsInHanded {} Tryz.checked os 5 .any (λw args=>(Rows.topDrainsSpec.pre enc prog Tryz.f5 [] false w args/\laidMetH prog Rows.topDrainsRow.laid w)/\sizedMet enc prog Tryz.f5 (OpenSpec.ofChange Rows.topDrainsSpec) false w args) (Rows.topDrainsSpec.post enc prog Tryz.f5 false true false false):=by
 refine returnsInHanded_of_change_and (C:=Tryz.checked) (X:=λw _=>laidMetH prog Rows.topDrainsRow.laid w) (λ_ _ _ s h=>h.of_heap s) own A kZ func5
  (ChangeSpec.witness_shaped (enc:=enc) (C:=Tryz.checked) (os:=os) (X:=λw _=>laidMetH prog Rows.topDrainsRow.laid w) false (World.doorLaid prog 400 os) #[true] 8 rfl (World.shaped_of_RefB kZ kZ) kZ kZ kZ (wE os _)) ?_
 intro W base args ds gs I g d _ _ k _;have hval:∀(j:Nat) t v,Tryz.f5.params[j]? =some t->args[j]? =some v->Value.okWide prog W .any base t v:=g;have n:=d;obtain⟨p,q,c,l,rfl,M,N⟩:=d;have b:DataW.TrodAll enc prog W 0 (λ_=>true) true Tryz.f5.params.toList args.toList ds p:=c;rw[Tryz.params5]at b hval;obtain⟨F,K,rfl,rfl,a⟩:=trodAll_one b;obtain⟨rfl,rfl⟩:=trodVars_none l;have i:=a;have z:∀x∈p,x.block<(W:Nat):=by obtain⟨m,u⟩:=i;exact DataW.trod_lt m _ _ _ u
 obtain⟨a0,n0,J,rfl⟩:=okWide_slice underlying22 (hval 0 22 F rfl rfl);obtain⟨L,r⟩:=a;obtain⟨ys,y⟩:=bU.DI r;obtain⟨O,f⟩:=xZ k;clear c g;refine(bU.akd y f (ER f)).mono λe W' ⟨o,bel⟩=>?_;subst o;exact⟨_,rfl,_,_,_,[],_,[],n,trodAll_mk1 (shut_bool underlying4 _),(trodAll_cons_mk (Below.trod laidOut kZ (of_decide_eq_true kZ) i bel z) trodAll_mk0),rfl,bel.frame _,λh=>by cases h⟩
theorem over:Rows.topDrainsRow.holds Tryz.pinned (OpenSpec.ofChange Rows.topDrainsSpec):=
 OpenClaim.holds_of_wide 5 Tryz.f5 rfl rfl rfl rfl rfl rfl rfl ⟨rfl,rfl,rfl,rfl,rfl⟩ rfl rfl rfl rfl rfl uS func5 joined ET EF
  (λos a H enc _=>lifted os a H enc)
theorem proved:Rows.TopDrainsCardSaid:=
 Claim7.holds_tied_plain_at .later [] [.sentinel] true (true,"c97910147129ad8b29a81bf79b7d3dfe1754e7ca21dcd0dadd0273f90efd963e") true
  over (λ_ h=>by cases h) d1 (λ_ h=>by cases h) topDrains_row_tie rfl ⟨rfl,rfl⟩ d2 rfl
  (λf fn c d=>by
   obtain rfl:f=5:=Option.some.inj (uS.symm.trans c) |>.symm;obtain rfl:fn=Tryz.f5:=(Option.some.inj (func5.symm.trans d)).symm;exact⟨d3,λj t a=>by
    rw[Tryz.params5]at a;have b:t=22:=by
     rcases j with _|j
     .simpa using a.symm
     .simp at a
    subst b;exact d4⟩)
  d5
#print axioms proved
end topDrains
end Go.Proofs.YtedmeglbjmdlhaaGreatDoor
