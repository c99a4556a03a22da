/-
TopUsage: whatever commands came ahead, no usage is above the time that went by, no cohort has any of its own, and the order of any who wait is total. Conditions: none beyond the card.
-/
import Derived.Test.YtedmeglbjmdlhaaGreatDoorGXUsage58
import Derived.Test.YtedmeglbjmdlhaaGreatDoorG33
import Derived.Test.YtedmeglbjmdlhaaGreatDoorGXUsage36
import Derived.Test.YtedmeglbjmdlhaaGreatDoorTie
import Derived.ShutString
import Derived.LaidMore
import Derived.Stop.LaidErr
set_option maxRecDepth 100000
set_option maxHeartbeats 16000000
set_option linter.all false
open Go.Proofs.Tryz
namespace Go.Proofs.YtedmeglbjmdlhaaGreatDoor
open Go.Value renaming slice→ac,int→cC
open Option renaming some→cA
open Go
open L Ord Quo Top bM bU eZ sK
variable{ty:TypeId}{X v:Value}{w:World}
namespace bU
open Go Go.RowKit L bM eZ Srt
theorem CP{W:World}{f o:Nat}{x:Ord.P}(a:∀j u,(eP x)[j]? =cA u->CV W f (o+j) u):CI W f o x.id/\CI W f (o+1) x.dN/\CI W f (o+2) x.eU/\CI W f (o+3) x.need.x/\CI W f (o+4) x.need.y/\CI W f (o+5) x.need.z/\CI W f (o+6) x.run/\CI W f (o+7) x.aR/\CI W f (o+8) x.prefer/\CI W f (o+9) x.seq/\CI W f (o+10) x.since:=⟨a 0 _ rfl,a 1 _ rfl,a 2 _ rfl,a 3 _ rfl,a 4 _ rfl,a 5 _ rfl,a 6 _ rfl,a 7 _ rfl,a 8 _ rfl,a 9 _ rfl,a 10 _ rfl⟩
theorem akX{ys:List vB}(h:RV w v ys)(ba:w.cell? (0,0)=cA (.iface ty X))(ax:0<(w:Nat)):Calls prog 6 #[v] w λe w'=>e=.returned (.bool true)/\Below w w w':=by
 have ap:=qZ (OX h);have br:Hid (∀W,Below w w W->Calls prog 11 #[] W λe w'=>e=.returned (.bool true)/\Below w w w'):=qZ (λW c=>(DR ((c.cell (p:=⟨0,0,none⟩) ax).trans ba) (aM ax c.size)).mono λe w' ⟨a,b⟩=>⟨a,c.trans (b.mono c.size)⟩);obtain⟨A,ca,rfl,_,_,_⟩:=h;obtain⟨dp,az⟩:=nZ ys.length;have cq:=qZ az;rw[az]at ap⊢;clear ba ax az;go_enter func6,ntmps6;go_upto_region 1 with fail;go_wp2_with fail;refine ap.mono ?_;rintro e wc⟨bo,s,ok,rfl,bf,bi,b2⟩;obtain⟨z,bk⟩:=nZ (wc:Nat);obtain⟨F,bl⟩:=nZ (bx wc bo);have a5:=uD.new bi b2;rw[bl,bk]at a5;have I:=qZ a5;have bw:=qZ bi;have au:=qZ (aC bl bk);rw[<-cq.out]at bf;have bu:=qZ bf;clear bi b2 bf a5 bl bk ap;go_upto_region 2 with(refine rZ rfl (.tmp 3) (.tmp 12) rfl rfl bo rfl bw ?_);rw[au.out.1,au.out.2];cases ok
 .have aq:=qZ (br F I.old);go_wp2_with fail;refine aq.mono ?_;rintro e dm⟨rfl,a0⟩;go_wp2_with fail;go_ret;exact⟨rfl,a0⟩
 .obtain⟨K,cz,l,b6⟩:=KQ bu rfl;have b1:Top.Used s:=by rw[b6];exact ame l
  obtain⟨am,c1,an,c2,co,c3,bp,c4,ao,c5,rl,ay,bj⟩:=I.st.parts;have de:=K.len;have dh:=K.aN;have af:=qZ (aC K b1);have ok:=BP K (show ys.length<=1000 by omega);have ah:=qY (EA F (ac am s.c.aP.length c1) (ac an s.c.aQ.length c2) (ac ao s.h.length c5) s.c s.h/\NV s.c s.aN) (⟨⟨bj.cfg,by have:=ok.hlen;rw[K.hist]at this;exact this,ok.wok,bj.h⟩,ok.num⟩);obtain⟨⟨_,_,e1,⟨_,_,e2,cc,df⟩,_⟩,⟨_,_,e3,_,_,cd,b5⟩,_,_,⟨_,_,cy,cb,b7,_⟩⟩:=bj;simp only[Value.agg.injEq,eO,cB,and_true]at e1;obtain⟨rfl,rfl⟩:=e1;cases e2;cases e3;cases cy;have ct:=qZ cc;have bv:=qZ cd;have cs:=qZ cb;have bs:=qZ b5;obtain⟨j,N⟩:=nZ s.h.length;have ak:s.c.aP.length=j:=by rw[<-K.hist,N]
  obtain⟨ci,bc⟩:=nZ s.c.aQ.length;obtain⟨u,bd⟩:=nZ s.ps.length;obtain⟨cj,b8⟩:=nZ s.rs.length;rw[ak,bc,bd,b8,N]at ay;rw[ak,bc,N]at ah;unfold maxLen at b7;rw[N]at b7;have du:u<=32:=oZ;have M:=qY (∀W,aF F W->W.cell? (z,0)=cA (ac am j c1)/\W.cell? (z,1)=cA (ac an ci c2)/\W.cell? (z,2)=cA (cC .i64 s.c.aI)/\W.cell? (z,3)=cA (cC .i64 s.c.aK)/\W.cell? (z,4)=cA (cC .i64 s.aN)/\W.cell? (z,5)=cA (cC .i64 s.next)/\W.cell? (z,6)=cA (ac co u c3)/\W.cell? (z,7)=cA (ac bp cj c4)/\W.cell? (z,8)=cA (ac ao j c5)) (λW c=>by have x:=I.box.below c I.box.lt;rw[ay]at x;exact⟨x.cell 0,x.cell 1,x.cell 2,x.cell 3,x.cell 4,x.cell 5,x.cell 6,x.cell 7,x.cell 8⟩);have cr:=qY (∀W,aF F W->Below w w W) (λW c=>I.old.trans (c.mono I.old.size));have H:=qZ (aC N (aC ak bd));clear K b1 b6 cz de ay ok cc df cd b5 cb N ak bc bd b8 bu bw au I;have bq:=sK.gof s.aN oZ oZ;obtain⟨aN,be⟩:=nZ s.aN;rw[be]at M ah bq dh;have bt:=qZ be;clear be;obtain⟨T,-,-,-,-,-,-,-,Z⟩:=M.out F (aF.refl _);go_upto_region 4 with fail;go_wp2_with fail;clear T Z;go_loopg[5] j (λav di wr=>∃k:Nat,di=cC .i64 k/\k<=j/\j<=av+k/\Hid (aF F wr));exact⟨0,mZ,oZ,oZ,qZ (aF.refl _)⟩
  obtain⟨i,rfl,hi,a8,o⟩:=hrel;have aa:=λW (c:aF wr W)=>M W (aA o c);obtain⟨T,-,-,-,-,-,Y,-,Z⟩:=aa wr (aF.refl _);by_cases ai:i<j
  .have dt:(i:Int)<(j:Int):=oZ;obtain⟨b0,ck,rfl,-,b4⟩:=cs.dD (i:=i) (by rw[H.out.1];exact ai);obtain⟨x,Q⟩:=nZ (s.h[i]'(by rw[H.out.1];exact ai));have bm:s.h.getD i 0=x:=by rw[<-Q,aL,aH (by rw[H.out.1];exact ai)];rfl
   have cm:∀W,aF wr W->CV W b0 (ck+i) (cC .u64 (x:Int)):=λW c=>by have:=b4 W (aA o c) 0 (cC .u64 (x:Int)) (by rw[Q];rfl);simpa using this
   obtain⟨on,bg⟩:=nZ (Fix.ofInt aN);have ds:¬(x:Int)>(on:Int):=by have:=af.2.time i;rw[bm,bt.out,bg]at this;omega
   have ae:=bq;rw[bg]at ae;have cu:=qZ bm;clear b4 Q bm bg;go_upto_region 7 with fail;refine kK ?_;(repeat refine kY ?_);refine kM ?_ (h:=by intro W c;go_simp;first|exact bW.up ae c|exact⟨c,bW.up ae c⟩);(repeat refine kY ?_);refine eH ?_;intro W c;have cp:=qZ (aA o c);have cn:∀W',aF W W'->CV W' b0 (ck+i) (cC .u64 (x:Int)):=λW' c0=>cm W' (aA c c0);have cx:=qZ cn;clear aa cm cn c T Y Z o ae;go_upto_region 9 with fail;go_wp2_with fail;go_loopg[6] j (λaw dj al=>∃k:Nat,dj=cC .i64 k/\k<=j/\j<=aw+k/\Hid (aF F al/\aF W al));exact⟨0,mZ,oZ,oZ,qZ ⟨cp,aF.refl _⟩⟩
   obtain⟨k,rfl,db,a9,d⟩:=hrel;obtain⟨T,-,-,-,-,-,-,-,Z⟩:=M.out wr d.1;have dn:=cx.out wr d.2;by_cases ab:k<j
   .have dd:(k:Int)<(j:Int):=oZ;obtain⟨bn,dz,rfl,-,b3⟩:=EL ct (k:=k) (by rw[H.out.2.1];exact ab);have n0:=b3 wr d.1;have ag:=qZ (λe:(s.c.aP[k]'(by rw[H.out.2.1];exact ab)).parent=(i:Int)=>agK af.1 af.2 (by rw[H.out.1];exact ai) (bB _) e);obtain⟨cl,O⟩:=nZ ((s.c.aP[k]'(by rw[H.out.2.1];exact ab)).parent);rw[O]at n0 ag;clear b3 O;by_cases bh:cl=(i:Int)
    .have cg:(x:Int)=0:=by have:=ag.out bh;rw[cu.out]at this;omega
     rw[cg]at dn;clear cg ag;go_wp2_with fail;go_roundg(j-(k+1));exact⟨k+1,mZ,oZ,oZ,d⟩;omega
    .have dv:(cl==(i:Int))=false:=by simpa using bh
     clear ag;go_wp2_with fail;go_roundg(j-(k+1));exact⟨k+1,mZ,oZ,oZ,d⟩;omega
   .have dc:¬(k:Int)<(j:Int):=oZ;have ar:=qZ d.1;clear a9;go_wp2_with fail;go_roundg(j-(i+1));exact⟨i+1,mZ,oZ,oZ,ar⟩;omega
  .have ba:¬(i:Int)<(j:Int):=oZ;have ad:=o.out;have bz:=qZ ad;clear ad aa a8;obtain⟨d7,ad⟩:=nZ wr;rw[ad]at bz T Y Z⊢;clear ad o;go_upto_region 14 with fail;go_wp2_with fail;clear T Y Z;go_loopg[7] u (λav dk wr=>∃k:Nat,dk=cC .i64 k/\k<=u/\u<=av+k/\Hid (aF F wr));exact⟨0,mZ,oZ,oZ,bz⟩
   obtain⟨p,rfl,bh,a8,o⟩:=hrel;obtain⟨-,-,-,-,-,-,Y,-,-⟩:=M.out wr o;by_cases dg:p<u
   .have dx:(p:Int)<(u:Int):=oZ;have O:p<s.ps.length:=by rw[H.out.2.2];exact dg
    obtain⟨d6,ce⟩:=nZ wr;rw[ce]at o Y⊢;clear ce;go_upto_region 17 with fail;go_wp2_with fail;go_loopg[8] p (λaw dl al=>∃k:Nat,dl=cC .i64 k/\k<=p/\p<=aw+k/\Hid (aF F al));exact⟨0,mZ,oZ,oZ,o⟩
    obtain⟨k,rfl,db,a9,d⟩:=hrel;by_cases ab:k<p
    .have dd:(k:Int)<(p:Int):=oZ;have dr:(k:Int)<(u:Int):=oZ;have bb:k<s.ps.length:=oZ;obtain⟨f,g,rfl,-,m⟩:=zD bv O;obtain⟨dq,d0,e,-,n⟩:=zD bv bb;cases e;have aj:=asR af.1 O ab;have J:∀W,aF wr W->Calls prog 21 #[.agg #[ac am j c1,ac an ci c2,s.c.aI,s.c.aK,aN,s.next,ac (cA ⟨f,g,none⟩) u c3,ac bp cj c4,ac ao j c5],.agg (eP s.ps[p]),.agg (eP s.ps[k])] W λe W'=>e=.returned (cC .i64 (Ord.cmp s.c s.h aN s.ps[p] s.ps[k]))/\aF wr W':=λW c=>
      (aew ah.1 ah.2 s.ps[p] s.ps[k] (bs _ (bB O)).1 (bs _ (bB bb)).1 W (aA d c)).mono λe W' ⟨da,hb⟩=>⟨da,aA c hb⟩
     rw[bt.out]at aj;obtain⟨r,b9⟩:=nZ (Ord.cmp s.c s.h aN s.ps[p] s.ps[k]);rw[b9]at aj J;obtain⟨x,Q⟩:=nZ (s.ps[p]);obtain⟨y,ch⟩:=nZ (s.ps[k]);rw[Q]at m J;rw[ch]at n J;have aa:=λW (c:aF wr W)=>M W (aA d c);have cv:=λW (c:aF wr W)=>CP (m W (aA d c));have cw:=λW (c:aF wr W)=>CP (n W (aA d c));have dy:(r==0)=false:=by simpa using aj
     simp only[eP]at J;clear m n Q ch b9 aj bb Y;go_upto_region 20 with fail;refine kK ?_;(repeat refine kY ?_);refine kM ?_ (h:=by intro W c;go_simp;first|exact J W c|exact⟨c,J W c⟩);(repeat refine kY ?_);refine eH ?_;intro W c;have ar:=qZ (aA d c);clear aa cv cw J c d;go_wp2_with fail;go_roundg(p-(k+1));exact⟨k+1,mZ,oZ,oZ,ar⟩;omega
    .have dc:¬(k:Int)<(p:Int):=oZ;clear a9;go_wp2_with fail;go_roundg(u-(p+1));exact⟨p+1,mZ,oZ,oZ,d⟩;omega
   .have dw:¬(p:Int)<(u:Int):=oZ;have aq:=qZ (br wr (cr wr o));clear a8;go_wp2_with fail;refine aq.mono ?_;rintro e dm⟨rfl,a0⟩;go_wp2_with fail;go_ret;exact⟨rfl,a0⟩
end bU
variable{W:World}
namespace topUsage
open Go Go.ChangeShapes Go.WideShapes Go.ChangeAt Go.RowKit
theorem own:ownKnob prog.godebug=none:=by kernel_rfl
theorem laidOut:laidOutB prog=true:=by kernel_rfl
theorem gE:prog.globalNamed "tithebarn/store.errBad" =cA 0:=by kernel_rfl
theorem tE:(prog.globals[0]?).map (·.type)=cA 291:=by kernel_rfl
theorem LY(u:TypeId)(h:prog.typeName? 3 u=cA "*errors.errorString"):u=405:=
 typeName_ptr_named (nm:= "errors.errorString") (by rw[show "*" ++ "errors.errorString" = "*errors.errorString" from by decide];kernel_rfl) kZ dZ u (by rw[show "*" ++ "errors.errorString" = "*errors.errorString" from by decide];exact h)
theorem wE(os:Os)(args:Array Value):laidMetH prog Rows.topUsageRow.laid ((World.doorLaid prog 400 os).forCall (λ_ _=>0) ⟨#[],args,[]⟩).memory:=
 laidMetH_of_parts3 (fuel:=8) (laidMet_of_run' 8 kZ kZ) kZ kZ
theorem xZ(h:laidMetH prog Rows.topUsageRow.laid W):∃b,W.cell? (0,0)=cA (.iface 405 b):=by rw[MakeChecks.laidMetH_plain _ _ _ kZ]at h;obtain⟨a,s,hv,_⟩:=laid_sentinel h gE tE underlying291 LY underlying405 underlying427 rfl rfl underlying9 kZ kZ;exact⟨_,by simpa using World.var?_cell gE hv 0⟩
theorem ER(h:W.cell? (0,0)=cA v):0<(W:Nat):=by
 rcases gI (W:Nat)with e|e
 .have:W.heap[0]? =none:=gH oZ;simp[World.cell?,this]at h
 .exact e
theorem lifted(os:Os)(A:os.Started)(H:Type)(enc:TypeId×Value->H):ReturnsInHanded {} Tryz.checked os 6 .any (λw args=>(Rows.topUsageSpec.pre enc prog Tryz.f6 [] false w args/\laidMetH prog Rows.topUsageRow.laid w)/\sizedMet enc prog Tryz.f6 (OpenSpec.ofChange Rows.topUsageSpec) false w args) (Rows.topUsageSpec.post enc prog Tryz.f6 false true false false):=by
 refine returnsInHanded_of_change_and (C:=Tryz.checked) (X:=λw _=>laidMetH prog Rows.topUsageRow.laid w) (λ_ _ _ s h=>h.of_heap s) own A kZ func6
  (ChangeSpec.witness_shaped (enc:=enc) (C:=Tryz.checked) (os:=os) (X:=λw _=>laidMetH prog Rows.topUsageRow.laid w) false (World.doorLaid prog 400 os) #[true] 8 rfl (World.shaped_of_RefB kZ kZ) kZ kZ kZ (wE os _)) ?_
 intro W base args ds gs I g d _ _ k _;have hval:∀(j:Nat) t v,Tryz.f6.params[j]? =cA t->args[j]? =cA v->Value.okWide prog W .any base t v:=g;have n:=d;obtain⟨p,q,c,l,rfl,M,N⟩:=d;have b:DataW.TrodAll enc prog W 0 (λ_=>true) true Tryz.f6.params.toList args.toList ds p:=c;rw[Tryz.params6]at b hval;obtain⟨F,K,rfl,rfl,a⟩:=trodAll_one b;obtain⟨rfl,rfl⟩:=trodVars_none l;have i:=a;have z:∀x∈p,x.block<(W:Nat):=by obtain⟨m,u⟩:=i;exact DataW.trod_lt m _ _ _ u
 obtain⟨a0,n0,J,rfl⟩:=okWide_slice underlying22 (hval 0 22 F rfl rfl);obtain⟨L,r⟩:=a;obtain⟨ys,y⟩:=bU.DI r;obtain⟨O,f⟩:=xZ k;clear c g;refine(bU.akX y f (ER f)).mono λe W' ⟨o,bel⟩=>?_;subst o;exact⟨_,rfl,_,_,_,[],_,[],n,trodAll_mk1 (shut_bool underlying4 _),(trodAll_cons_mk (Below.trod laidOut kZ (of_decide_eq_true kZ) i bel z) trodAll_mk0),rfl,bel.frame _,λh=>by cases h⟩
theorem over:Rows.topUsageRow.holds Tryz.pinned (OpenSpec.ofChange Rows.topUsageSpec):=
 OpenClaim.holds_of_wide 6 Tryz.f6 rfl rfl rfl rfl rfl rfl rfl ⟨rfl,rfl,rfl,rfl,rfl⟩ rfl rfl rfl rfl rfl uS func6 joined ET EF
  (λos a H enc _=>lifted os a H enc)
theorem proved:Rows.TopUsageCardSaid:=
 Claim7.holds_tied_plain_at .later [] [.sentinel] true (true,"c97910147129ad8b29a81bf79b7d3dfe1754e7ca21dcd0dadd0273f90efd963e") true
  over (λ_ h=>by cases h) d1 (λ_ h=>by cases h) topUsage_row_tie rfl ⟨rfl,rfl⟩ d2 rfl
  (λf fn c d=>by
   obtain rfl:f=6:=Option.some.inj (uS.symm.trans c) |>.symm;obtain rfl:fn=Tryz.f6:=(Option.some.inj (func6.symm.trans d)).symm;exact⟨d3,λj t a=>by
    rw[Tryz.params6]at a;have b:t=22:=by
     rcases j with _|j
     .simpa using a.symm
     .simp at a
    subst b;exact d4⟩)
  d5
#print axioms proved
end topUsage
end Go.Proofs.YtedmeglbjmdlhaaGreatDoor
