/-
Parts that the laws of the whole program share: contracts of its functions, and plain laws.
-/
import Derived.Test.YtedmeglbjmdlhaaGreatDoorG25
import Derived.Laws.Externs
import Derived.Laws.NewBlocks
set_option maxRecDepth 100000
set_option maxHeartbeats 16000000
set_option linter.all false
open Go.Proofs.Tryz
namespace Go.Proofs.YtedmeglbjmdlhaaGreatDoor
open Go
open Cfg L Ord Quo Srt Top bM bU eZ sK
variable{cs:Array Value}{cap g i k l n:Nat}{v:Value}{w:World}
namespace bU
open Go Go.RowKit Go.Sort L bM eZ Srt
theorem ZG(x:Ord.P):∀u∈gK x,u.oneCell'=true:=λu a=>by simp only[gK,eP,bA,dS,or_false]at a;rcases a with rfl|rfl|rfl|rfl|rfl|rfl|rfl|rfl|rfl|rfl|rfl<;>rfl
theorem aaV(xs:List Ord.P):∀u∈xs.flatMap gK,u.oneCell'=true:=λu a=>by obtain⟨x,_,b⟩:=jV.1 a;exact ZG x u b
theorem apm{B:Nat}{xs:List Ord.P}(h:bQ w B 44 11 gK v xs)(f:B<=(w:Nat))(H:xs.length<=1000000)(p:Ord.P){T:TypeId}(hv:Blk w k T cs)(F:cs=(gK p).toArray):Calls prog 164 #[v,(xs.length:Int),.slice k 1 1] w λe w'=>xR 44 11 gK v (xs++[p]) B w e w':=by
 obtain⟨i0,b,s,d,u⟩:=info_parts pinfo;obtain⟨A,c,r,_⟩:=TQ (P:=prog) 27 i0 underlying27 b d (λ_=>rfl) h (m:=xs.length) lZ;obtain⟨v',w',g,o,j,_,l⟩:=mP (P:=prog) 27 27 i0 _ 88 underlying27 b s d u rfl oZ (λ_=>rfl) (aaV [p]) h (m:=1) (c:=1) rfl (rU hv F) f (by unfold maxLen;omega) oZ;have y:=qY (xR 44 11 gK v (xs++[p]) B w (.returned v') w') (⟨v',rfl,o,aO.lG j λi hi=>hi,l⟩);have z:=qZ r;have x:=qZ g;obtain⟨a,cap,ev⟩:∃a cap,v=.slice a xs.length cap:=by obtain⟨a,cap,e,_⟩:=h.sl (λ_=>rfl);exact⟨a,cap,e⟩
 subst ev;generalize xs.length=n at*;clear r g o j l b s d u h f hv;go_enter func164,ntmps164;go_wp2_with(first|(with_reducible refine oO rfl (.tmp 10) (some (.tmp 11)) none none _ _ underlying27 rfl (.slice a n cap) (some (.int .i64 n)) none none rfl rfl rfl rfl (z.out _) ?_)|(at_builtin;refine dJ rfl (.tmp 23) (.tmp 24) _ _ rfl (.slice a n cap) (.slice k 1 1) rfl rfl x.out ?_));go_ret;exact y
theorem aje{B:Nat}{xs:List Ord.P}(ai:B<=g)(c:Blk w g 44 cs)(r:xs.length=n)(bb:cap<=maxLen)(X:cs.size=cap*11)(aw:cs.toList.take (n*11)=xs.flatMap gK)(bi:n<=1000000)(hi:i<n)(av:n+1<=cap)(p:Ord.P){T:TypeId}{ps:Array Value}(hv:Blk w l T ps)(au:ps=(gK p).toArray)(N:l≠g):Calls prog 164 #[.slice g n cap,(i:Int),.slice l 1 1] w λe w'=>xR 44 11 gK (.slice g n cap) (xs.take i++p::xs.drop i) B w e w':=by
 obtain⟨i0,a,bf,b,bg⟩:=info_parts pinfo;have ak:=zO (P:=prog) (t:=27) underlying27 a b (g:=g) (n:=n) (m:=i) (cap:=cap) oZ oZ oZ;have al:=zO (P:=prog) (t:=27) underlying27 a b (g:=g) (n:=n+1) (m:=i) (cap:=cap) oZ oZ oZ;have am:=zO (P:=prog) (t:=27) underlying27 a b (g:=g) (n:=n+1) (m:=i+1) (cap:=cap) oZ oZ oZ;have an:=arI (P:=prog) (t:=27) underlying27 a (g:=g) (n:=n) (m:=n+1) (cap:=cap) av;obtain⟨ag,ah⟩:=acC (dec:=gK) (k:=11) (λ_=>rfl) xs (i:=i) (cs:=cs.toList) oZ (by rw[r];exact aw);have aj:((xs.drop i).flatMap gK).length=(n-i)*11:=by rw[jG (dec:=gK) (k:=11) λ_=>rfl,fV,r]
 have bd:(i+1)*11+(n-i)*11=(n+1)*11:=oZ;have ap:(n+1)*11<=cs.size:=by rw[X];exact bR 11 av
 have H:∀ty,(Builtin.copy_ #[27,27] ty #[.slice (some ⟨g,(i+1)*11,none⟩) (n+1-(i+1)) (cap-(i+1)),.slice (some ⟨g,i*11,none⟩) (n+1-i) (cap-i)]).run prog w.drew=.ok (goInt (Nat.min (n+1-i) (n+1-(i+1)))) (w.drew.setCells g ((i+1)*11) ((xs.drop i).flatMap gK)):=λty=>
  JI (P:=prog) underlying27 a b (w:=w.drew) c.drew _ (by rw[aj,show Nat.min (n+1-i) (n+1-(i+1))=n-i by simp only[Nat.min_def];split<;>omega]) (λj u Y=>by rw[Addr.add_lit,c.drew.cell,<-dP];exact ah j u Y) oZ (aaV _) ty
 have b1:=wF ((xs.drop i).flatMap gK) ((i+1)*11) w.drew cs c.drew;have x:=uO g ((xs.drop i).flatMap gK) ((i+1)*11) w.drew;obtain⟨w1,ay⟩:=nZ (w.drew.setCells g ((i+1)*11) ((xs.drop i).flatMap gK));rw[ay]at H b1 x;have ax:Blk w1 l T ps:=hv.drew.bD x N;have I:∀ty,(Builtin.copy_ #[27,27] ty #[.slice (some ⟨g,i*11,none⟩) (n+1-i) (cap-i),.slice l 1 1]).run prog w1=.ok (goInt (Nat.min 1 (n+1-i))) (w1.setCells g (i*11) (gK p)):=λty=>
  JI (P:=prog) underlying27 a b b1 _ (by rw[show Nat.min 1 (n+1-i)=1 by simp only[Nat.min_def];split<;>omega];rfl) (λj u Y=>by rw[Addr.add_lit,aU,ax.cell,au];simpa using Y) (by rw[size_setMany];show i*11+11<=_;omega) (ZG p) ty
 have b2:=wF (gK p) (i*11) w1 _ b1;have Z:=uO g (gK p) (i*11) w1;obtain⟨bh,az⟩:=nZ (w1.setCells g (i*11) (gK p));rw[az]at I b2 Z;have M:=(afd (dec:=gK) (k:=11) (λ_=>rfl) xs p (cs:=cs) (i:=i) oZ (by rw[r];exact ap) ag).1;rw[r]at M;have a5:=qY (xR 44 11 gK (.slice g n cap) (xs.take i++p::xs.drop i) B w (.returned (.slice g (n+1) cap)) bh) (by
  have aq:(xs.take i++p::xs.drop i).length=n+1:=by simp;omega
  refine⟨_,rfl,⟨by rw[jG (dec:=gK) (k:=11) λ_=>rfl],.inr ⟨g,cap,_,by rw[aq],ai,b2,oZ,bb,by simpa using X,by rw[aq];exact M⟩⟩,(((aO.refl (λq=>q=g) w).drew.trans x).trans Z).mono λq _ Q=>by rw[Q];rfl,λq Q=>.inl Q⟩)
 have ar:∀aa A W,Blk W l T ps->Blk W g 44 cs->(callFunc 211 #[.slice l 1 1,.slice (some ⟨g,(i+1)*11,none⟩) aa A]).run prog W=.ok (.value (.bool false)) W:=λaa A W F a9=>by have bc:cs.size≠0:=oZ;rw[run_callFunc_extern func211 kZ kZ kZ (e:=Extern.SlicesOverlaps.overlaps #[27,27] #[4]) kZ,Lib.run_overlaps_apart W 27 4 44 underlying27 11 Tryz.sizeOf44 ⟨l,0,none⟩ ⟨g,(i+1)*11,none⟩ 1 1 aa A N _ _ _ _ (acN F) (acN a9) bc (F.frozen _) (F.frozen _)];rfl
 have be:=ar (n+1-(i+1)) (cap-(i+1)) w hv c;have af:=qZ ak;have y:=qZ al;have z:=qY (∀W,(Instr.slice 27 (.slice g (n+1) cap) (some (.int .i64 ((i:Int)+1))) none none).run prog W=.ok (.slice (some ⟨g,(i+1)*11,none⟩) (n+1-(i+1)) (cap-(i+1))) W) (λW=>by have:=am W;rwa [Int.natCast_succ]at this);have a8:=qY (∀W,(Instr.slice 27 (.slice g n cap) none (some (.int .i64 ((n:Int)+1))) none).run prog W=.ok (.slice g (n+1) cap) W) (λW=>by have:=an W;rwa [Int.natCast_succ]at this);have ad:=qZ H;have ae:=qZ I;have bk:((i:Int)==(n:Int))=false:=by rw[beq_eq_false_iff_ne];omega
 have bl:¬((cap:Int)<(n:Int)+1):=oZ;have bj:IntKind.i64.wrap ((i:Int)+1)=(i:Int)+1:=by rw[IntKind.wrap_i64];omega
 obtain⟨d1,J⟩:=nZ (n+1-(i+1));obtain⟨d2,K⟩:=nZ (cap-(i+1));obtain⟨d3,o⟩:=nZ (n+1-i);obtain⟨d4,d⟩:=nZ (cap-i);obtain⟨d5,ao⟩:=nZ (n-i);obtain⟨a0,O⟩:=nZ ((i+1)*11);obtain⟨ab,f⟩:=nZ (i*11);rw[J,K,O]at be z;rw[o,d,f]at y;rw[ao,d,f]at af;rw[J,K,o,d,O,f]at ad;rw[o,d,f]at ae;clear ak al am an H I ar ag ah aj bd ap b1 x ay ax b2 Z az M c hv X aw a bf b bg J K o d ao O f ai au N;go_enter func164,ntmps164;go_wp2_with(first|(with_reducible refine oO rfl (.tmp 10) (some (.tmp 11)) none none _ _ underlying27 rfl (.slice g n cap) (some (.int .i64 i)) none none rfl rfl rfl rfl (af.out _) ?_)|(with_reducible refine oO rfl (.tmp 56) none (some (.tmp 59)) none _ _ underlying27 rfl (.slice g n cap) none (some (.int .i64 ((n:Int)+1))) none rfl rfl rfl rfl (a8.out _) ?_)|(with_reducible refine oO rfl (.tmp 62) (some (.tmp 65)) none none _ _ underlying27 rfl (.slice g (n+1) cap) (some (.int .i64 ((i:Int)+1))) none none rfl rfl rfl rfl (z.out _) ?_));refine iT AnyW 8 (.take 0 (.take 1 (.take 2 (.take 3 (.take 4 (.take 5 (.take 6 (.take 7 .done)))))))) kZ kZ ⟨trivial⟩ ?_;(iterate 4 refine tT ?_);apply nN (v:=.slice (some ⟨g,a0,none⟩) d1 d2);(focus rfl);(focus rfl);(focus(intro W ba;exact nD (E:=44) (s:=.tmp 69) (lo:=some (.tmp 72)) (hi:=none) underlying27 rfl rfl (z W)));(focus(go_simp;first|done|rfl));(iterate 2 refine tT ?_);apply nN (v:=.slice (some ⟨g,ab,none⟩) d3 d4);(focus rfl);(focus rfl);(focus(intro W ba;exact nD (E:=44) (s:=.tmp 74) (lo:=some (.tmp 75)) (hi:=none) underlying27 rfl rfl (y W)));(focus(go_simp;first|done|rfl));refine fZ ?_;show wpList prog _ _ (List.drop 8 _) _ _;simp only[bH,bJ];go_wp2_with(first|(with_reducible refine xS rfl (.tmp 73) (.tmp 76) _ _ rfl (.slice (some ⟨g,a0,none⟩) d1 d2) (.slice (some ⟨g,ab,none⟩) d3 d4) rfl rfl (ad.out _) ?_)|(with_reducible refine xS rfl (.tmp 80) (.tmp 81) _ _ rfl (.slice (some ⟨g,ab,none⟩) d3 d4) (.slice l 1 1) rfl rfl (ae.out _) ?_)|(with_reducible refine oO rfl (.tmp 78) (some (.tmp 79)) none none _ _ underlying27 rfl (.slice g (n+1) cap) (some (.int .i64 i)) none none rfl rfl rfl rfl (y.out _) ?_));go_ret;exact a5
theorem amg{B:Nat}{xs:List Ord.P}(bv:B<=g)(J:Blk w g 44 cs)(M:xs.length=n)(bg:n<=cap)(b6:cap<=maxLen)(b4:cs.size=cap*11)(bk:cs.toList.take (n*11)=xs.flatMap gK)(ay:B<=(w:Nat))(b7:n<=1000000)(hi:i<n)(b3:cap<n+1)(p:Ord.P){T:TypeId}{ps:Array Value}(hv:Blk w l T ps)(bi:ps=(gK p).toArray)(b0:l≠g):Calls prog 164 #[.slice g n cap,(i:Int),.slice l 1 1] w λe w'=>xR 44 11 gK (.slice g n cap) (xs.take i++p::xs.drop i) B w e w':=by
 obtain⟨i0,b,bo,d,al⟩:=info_parts pinfo;obtain⟨aw,ax⟩:=acC (dec:=gK) (k:=11) (λ_=>rfl) xs (i:=i) (cs:=cs.toList) oZ (by rw[M];exact bk);have I:((xs.take i).flatMap gK).length=i*11:=by rw[jG (dec:=gK) (k:=11) λ_=>rfl,bO,iM oZ]
 have X:((xs.drop i).flatMap gK).length=(n-i)*11:=by rw[jG (dec:=gK) (k:=11) λ_=>rfl,fV,M]
 have bj:(i+1)*11+(n-i)*11=(n+1)*11:=oZ;have bh:(Builtin.firstCells i0.size i (.slice g i cap)).run prog w.drew=.ok ((xs.take i).flatMap gK).toArray w.drew:=by
  rw[d];refine run_firstCells_some (P:=prog) (w:=w.drew) 11 i ⟨g,0,none⟩ i cap _ I (λj u c=>?_);rw[Addr.add_lit,aU,J.drew.cell,<-dP];rw[<-aw,eB]at c;split at c
  .exact c
  .cases c
 obtain⟨G,A⟩:=nZ (grownCap w (n+1) cap 44);have F:n+1<=G:=by rw[<-A];exact grownCap_ge w _ _ _
 have bw:G<=maxLen:=by rw[<-A];exact grownCap_le_maxLen w (n+1) cap 44 (by unfold maxLen;omega)
 have ai:i+(n+1-i)=n+1:=oZ;obtain⟨a,H⟩:∃a:Array Value,((xs.take i).flatMap gK).toArray++Builtin.zeroCells (Value.cells (.agg #[(),(),(),(),(),(),(),(),(),(),()])) (n+1-i)++Builtin.zeroCells (Value.cells (.agg #[(),(),(),(),(),(),(),(),(),(),()])) (G-(n+1))=a:=⟨_,rfl⟩;have bc:(Value.cells (.agg #[(),(),(),(),(),(),(),(),(),(),()])).size=11:=kZ;have bq:∀m,(Builtin.zeroCells (Value.cells (.agg #[(),(),(),(),(),(),(),(),(),(),()])) m).size=m*11:=λm=>by simp[Builtin.zeroCells,bc]
 have x:a.size=G*11:=by rw[<-H];simp only[Array.size_append,gB,I,bq];omega
 have az:a.toList.take (i*11)=(xs.take i).flatMap gK:=by rw[<-H,<-I,Array.toList_append,Array.toList_append,bP,List.toList_toArray,List.take_left]
 have ak:∀ty,(Builtin.append_ #[27,3] ty #[.slice g i cap,((n:Int)+1-(i:Int):Int)]).run prog w=
   .ok (.slice w (n+1) G) (w.drew.alloc (.cells a 44)):=λty=>by
  have h:=Lib.run_append_grow_zeros (P:=prog) w 27 3 ty 44 i0 _ .i64 .i64 underlying27 underlying3 b bo (some ⟨g,0,none⟩) i cap ((xs.take i).flatMap gK) bh (n+1-i) oZ oZ oZ oZ (by rw[al];omega) (by rw[al,ai];exact growslice_fits b3 oZ);rw[ai,A,H]at h;rw[show(n:Int)+1-(i:Int)=((n+1-i:Nat):Int) by omega];exact h
 have K:Blk (w.drew.alloc (.cells a 44)) (w:Nat) 44 a:=Blk.new w.drew _ _;have y:aO (λ_=>False) w (w.drew.alloc (.cells a 44)):=(aO.refl _ w).drew.alloc _;have bp:(w.drew.alloc (.cells a 44)).heap.size=(w:Nat)+1:=sZ;obtain⟨f,a9⟩:=nZ (w.drew.alloc (.cells a 44));rw[a9]at ak K y bp;have bl:=hv.bD y sZ;have ba:=J.bD y sZ;have b5:l≠(w:Nat):=Nat.ne_of_lt hv.lt;have be:g≠(w:Nat):=Nat.ne_of_lt J.lt;have Y:∀ty,(Builtin.copy_ #[27,27] ty #[.slice (some ⟨(w:Nat),i*11,none⟩) (n+1-i) (G-i),.slice l 1 1]).run prog f=.ok (goInt (Nat.min 1 (n+1-i))) (f.setCells (w:Nat) (i*11) (gK p)):=λty=>
  JI (P:=prog) underlying27 b d K _ (by rw[show Nat.min 1 (n+1-i)=1 by simp only[Nat.min_def];split<;>omega];rfl) (λj u c=>by rw[Addr.add_lit,aU,bl.cell,bi];simpa using c) (by rw[x];show i*11+11<=_;omega) (ZG p) ty
 have b1:=wF (gK p) (i*11) f _ K;have O:=uO (w:Nat) (gK p) (i*11) f;obtain⟨w1,bm⟩:=nZ (f.setCells (w:Nat) (i*11) (gK p));rw[bm]at Y b1 O;have bd:=(ba.bD O be).drew;have Z:∀ty,(Builtin.copy_ #[27,27] ty #[.slice (some ⟨(w:Nat),(i+1)*11,none⟩) (n+1-(i+1)) (G-(i+1)),.slice (some ⟨g,i*11,none⟩) (n-i) (cap-i)]).run prog w1.drew=.ok (goInt (Nat.min (n-i) (n+1-(i+1)))) (w1.drew.setCells (w:Nat) ((i+1)*11) ((xs.drop i).flatMap gK)):=λty=>
  JI (P:=prog) underlying27 b d (w:=w1.drew) b1.drew _ (by rw[X,show Nat.min (n-i) (n+1-(i+1))=n-i by simp only[Nat.min_def];split<;>omega]) (λj u c=>by rw[Addr.add_lit,bd.cell,<-dP];exact ax j u c) (by rw[X,size_setMany,x,bj];exact bR 11 F) (aaV _) ty
 have b2:=wF ((xs.drop i).flatMap gK) ((i+1)*11) w1.drew _ b1.drew;have am:=uO (w:Nat) ((xs.drop i).flatMap gK) ((i+1)*11) w1.drew;obtain⟨bs,bn⟩:=nZ (w1.drew.setCells (w:Nat) ((i+1)*11) ((xs.drop i).flatMap gK));rw[bn]at Z b2 am;have ah:=(afd (dec:=gK) (k:=11) (λ_=>rfl) xs p (cs:=a) (i:=i) oZ (by rw[M,x];exact bR 11 F) az).2;rw[M]at ah;have aq:=qY (xR 44 11 gK (.slice g n cap) (xs.take i++p::xs.drop i) B w (.returned (.slice w (n+1) G)) bs) (by
  have bf:(xs.take i++p::xs.drop i).length=n+1:=by simp;omega
  refine⟨_,rfl,⟨by rw[jG (dec:=gK) (k:=11) λ_=>rfl],.inr ⟨(w:Nat),G,_,by rw[bf],ay,b2,oZ,bw,by simpa using x,by rw[bf];exact ah⟩⟩,?_,λq r=>?_⟩
  .have e1:aO (λq=>q=(w:Nat)) f bs:=(O.trans (aO.refl _ w1).drew).trans am;exact(y.mono λq _ r=>r.elim).trans' e1 λq r e=>oZ
  .injection r with r;exact .inr (Nat.le_of_eq r))
 have a0:=zO (P:=prog) (t:=27) underlying27 b d (g:=g) (n:=n) (m:=i) (cap:=cap) oZ bg oZ;have a5:=zO (P:=prog) (t:=27) underlying27 b d (g:=(w:Nat)) (n:=n+1) (m:=i) (cap:=G) oZ F oZ;have a8:=zO (P:=prog) (t:=27) underlying27 b d (g:=(w:Nat)) (n:=n+1) (m:=i+1) (cap:=G) oZ F oZ;have bb:=LX (P:=prog) underlying27 b (g:=g) (n:=n) (m:=i) (cap:=cap) oZ bg;have Q:=qZ a0;have au:=qZ a5;have av:=qY (∀W,(Instr.slice 27 (.slice w (n+1) G) (some (.int .i64 ((i:Int)+1))) none none).run prog W=.ok (.slice (some ⟨(w:Nat),(i+1)*11,none⟩) (n+1-(i+1)) (G-(i+1))) W) (λW=>by have:=a8 W;rwa [Int.natCast_succ]at this);have bt:=qZ bb;have ar:=qZ ak;have ao:=qZ Y;have ap:=qZ Z;have b9:((i:Int)==(n:Int))=false:=by rw[beq_eq_false_iff_ne];omega
 have ca:(cap:Int)<(n:Int)+1:=oZ;have b8:IntKind.i64.wrap ((i:Int)+1)=(i:Int)+1:=by rw[IntKind.wrap_i64];omega
 obtain⟨d1,aa⟩:=nZ (n+1-(i+1));obtain⟨d2,ab⟩:=nZ (G-(i+1));obtain⟨d3,ad⟩:=nZ (n+1-i);obtain⟨d4,ae⟩:=nZ (cap-i);obtain⟨d5,af⟩:=nZ (n-i);obtain⟨bu,ag⟩:=nZ (G-i);obtain⟨br,aj⟩:=nZ ((i+1)*11);obtain⟨an,z⟩:=nZ (i*11);obtain⟨N,o⟩:=nZ (w:Nat);rw[af,ae,z]at Q;rw[ad,ag,z,o]at au;rw[aa,ab,aj,o]at av;rw[ad,ag,z,o]at ao;rw[aa,ab,ae,af,aj,z,o]at ap;rw[o]at ar aq;clear a0 a5 a8 bb ak Y Z aw ax I X bj bh A ai H bc bq x az K y bp a9 bl ba b5 be b1 O bm bd b2 am bn ah J hv b4 bk b bo d al aa ab ad ae af ag aj z bv ay bi b0 o;go_enter func164,ntmps164;go_wp2_with(first|(with_reducible refine oO rfl (.tmp 10) (some (.tmp 11)) none none _ _ underlying27 rfl (.slice g n cap) (some (.int .i64 i)) none none rfl rfl rfl rfl (Q.out _) ?_)|(with_reducible refine oO rfl (.tmp 32) none (some (.tmp 33)) none _ _ underlying27 rfl (.slice g n cap) none (some (.int .i64 i)) none rfl rfl rfl rfl (bt.out _) ?_)|(at_builtin;refine dJ rfl (.tmp 34) (.tmp 39) _ _ rfl (.slice g i cap) (.int .i64 ((n:Int)+1-(i:Int))) rfl rfl (ar.out _) ?_)|(with_reducible refine oO rfl (.tmp 41) (some (.tmp 42)) none none _ _ underlying27 rfl (.slice N (n+1) G) (some (.int .i64 i)) none none rfl rfl rfl rfl (au.out _) ?_)|(with_reducible refine xS rfl (.tmp 43) (.tmp 44) _ _ rfl (.slice (some ⟨N,an,none⟩) d3 bu) (.slice l 1 1) rfl rfl (ao.out _) ?_));refine iT AnyW 8 (.take 0 (.take 1 (.take 2 (.take 3 (.take 4 (.take 5 (.take 6 (.take 7 .done)))))))) kZ kZ ⟨trivial⟩ ?_;(iterate 4 refine tT ?_);apply nN (v:=.slice (some ⟨N,br,none⟩) d1 d2);(focus rfl);(focus rfl);(focus(intro W bz;exact nD (E:=44) (s:=.tmp 46) (lo:=some (.tmp 49)) (hi:=none) underlying27 rfl rfl (av W)));(focus(go_simp;first|done|rfl));(iterate 2 refine tT ?_);apply nN (v:=.slice (some ⟨g,an,none⟩) d5 d4);(focus rfl);(focus rfl);(focus(intro W bz;exact nD (E:=44) (s:=.tmp 51) (lo:=some (.tmp 52)) (hi:=none) underlying27 rfl rfl (Q W)));(focus(go_simp;first|done|rfl));refine fZ ?_;show wpList prog _ _ (List.drop 8 _) _ _;simp only[bH,bJ];go_wp2_with(with_reducible refine xS rfl (.tmp 50) (.tmp 53) _ _ rfl (.slice (some ⟨N,br,none⟩) d1 d2) (.slice (some ⟨g,an,none⟩) d5 d4) rfl rfl (ap.out _) ?_);go_ret;exact aq
end bU
variable{vr:Value}
namespace bU
open Go Go.RowKit L bM eZ Srt
theorem BJ{B:Nat}{ps:List Ord.P}(h:bQ w B 44 11 gK v ps)(a:∀p∈ps,POk p):PSl w v ps:=by
 obtain⟨A,cap,e,b⟩:=h.sl (λ_=>rfl);rcases h.form with⟨e2,rfl⟩|⟨g,c2,e2,_,_,c,d⟩
 .rw[e2]at e;cases e;exact⟨none,0,e2,bI _,by unfold maxLen;omega,b,a⟩
 .rw[e2]at e;cases e;exact⟨_,_,e2,c,d,b,a⟩
theorem EO{ps:List Ord.P}(h:PSl w v ps)(c:ps.length<=1000000):∀w1,Below w w w1->Calls prog 77 #[v] w1 λe w'=>∃v',e=.returned v'/\bQ w' w1 44 11 gK v' ps/\Below w1 w1 w':=λw1 a=>by obtain⟨A,cap,e,_,_,b,_⟩:=h;exact wU aeW pinfo rfl oZ Tryz.sizeOf44 pel (w:=w1) (show SlK w1 11 gK v ps from⟨A,cap,e,b.below a⟩) (by unfold maxLen;omega) oZ
theorem LU(id:Int):∀ps:List Ord.P,lD ps id=none->nG ps id=ps
 |[],_=>rfl
 |p::t,h=>by
  unfold lD at h;unfold nG;by_cases e:p.id=id
  .rw[aG e]at h;cases h
  .rw[aD e]at h⊢;rw[LU id t (by simpa using h)]
theorem YA(id:Int):∀(ps:List Ord.P) (k:Nat),lD ps id=some k->k<ps.length/\nG ps id=ps.eraseIdx k
 |[],k,h=>by cases h
 |p::t,k,h=>by
  unfold lD at h;unfold nG;by_cases e:p.id=id
  .rw[aG e]at h⊢;cases h;simp
  .rw[aD e]at h⊢;cases a:lD t id with
   |none=>rw[a]at h;cases h
   |some j=>
    rw[a]at h;cases h;obtain⟨b,c⟩:=YA id t j a;exact⟨by simpa using b,by rw[c];rfl⟩
def agf(qs:List Ord.P)(w1:World)(e:Ending)(w':World):Prop:=∃v',e=.returned v'/\bQ w' w1 44 11 gK v' qs/\Below w1 w1 w'
def SL(ps:List Ord.P)(id:Int)(w1:World)(e:Ending)(w':World):Prop:=∃v',e=.returned (.tuple #[v',.bool (lD ps id).isSome])/\bQ w' w1 44 11 gK v' (nG ps id)/\Below w1 w1 w'
theorem abR{ps:List Ord.P}(v:PSl w vr ps)(u:ps.length<=1000000)(id:Int):∀w1,Below w w w1->Calls prog 53 #[vr,id] w1 λe w'=>SL ps id w1 e w':=by
 intro w1 r;have g:=qZ (EO v u w1 r);have j:=qZ (λW (h:Below w1 w1 W)=>abX v u id W (aA r h));have n:=qZ (YA id ps);have m:=qZ (LU id ps);obtain⟨A,cap,rfl,_⟩:=v;obtain⟨N,p⟩:=nZ ps.length;have F:=qZ p;rw[p]at u g j⊢;clear p r;go_enter func53,ntmps53;go_wp2_with fail;refine g.mono ?_;rintro e aa⟨v',rfl,L,I⟩;have H:=qZ L;have f:=qZ I;clear L I g;go_wp2_with fail;refine(j _ f).mono ?_;rintro e T⟨b,s⟩;have d:=qZ (H.below s);have c:=qZ (aA f s);clear s H j;cases a:lD ps id with
 |none=>
  rw[a]at b;have l:=qY (SL ps id w1 (.returned (.tuple #[v',.bool false])) T) (⟨v',by rw[a];rfl,by rw[m.out a];exact d,c⟩);clear n m d c f;simp only at b;subst b;go_wp2_with fail;go_ret2;exact l
 |some k=>
  rw[a]at b;obtain⟨J,O⟩:=n.out k a;have y:=qZ (apr d (λx _=>ZG x) (by rw[F.out];omega) J);have o:=qZ (aC O a);have z:=qZ (d.out.lt);have Y:IntKind.i64.wrap ((k:Int)+1)=(k:Int)+1:=by rw[IntKind.wrap_i64];have:=F.out;omega
  clear n m f O a J;simp only at b;subst b;have Z:¬((k:Int)<0):=oZ;go_wp2_with fail;refine y.mono ?_;rintro e X⟨v4,rfl,M,K,Q⟩;have l:=qY (SL ps id w1 (.returned (.tuple #[v4,.bool true])) X) (⟨v4,by rw[o.out.2];rfl,by rw[o.out.1];exact M,c.out.trans (K.below (Below.size c) λi hi=>(z i hi).1)⟩);clear M K Q y z o c d;go_wp2_with fail;go_ret2;exact l
theorem abT(p:Ord.P):∀ps:List Ord.P,ps.find? (λx=>decide (p.seq<x.seq))=none->oI p ps=ps++[p]
 |[],_=>rfl
 |x::t,h=>by
  rw[List.find?_cons]at h;unfold oI;by_cases e:p.seq<x.seq
  .simp[e]at h
  .rw[aD e];have e2:decide (p.seq<x.seq)=false:=eG e;rw[e2]at h;rw[abT p t h];rfl
theorem abS(p:Ord.P):∀(ps:List Ord.P) (k:Nat) (a:k<ps.length),(ps.take k).find? (λx=>decide (p.seq<x.seq))=none->decide (p.seq<ps[k].seq)=true->oI p ps=ps.take k++p::ps.drop k
 |[],k,a,_,_=>by simp at a
 |x::t,0,a,_,h=>by unfold oI;rw[aG (by simpa using h)];rfl
 |x::t,k+1,a,b,h=>by
  rw[List.take_succ_cons,List.find?_cons]at b;unfold oI;by_cases e:p.seq<x.seq
  .simp[e]at b
  .have e2:decide (p.seq<x.seq)=false:=eG e;rw[e2]at b;rw[aD e,abS p t k (by simpa using a) b (by simpa using h)];rfl
def NT(p:Ord.P)(ps:List Ord.P)(k:Nat):Prop:=k<=ps.length/\oI p ps=ps.take k++p::ps.drop k
theorem apn{B:Nat}{xs:List Ord.P}(h:bQ w B 44 11 gK v xs)(c:B<=(w:Nat))(b:xs.length<=1000000)(p:Ord.P){T:TypeId}(hv:Blk w n T cs)(a:cs=(gK p).toArray)(y:v.ownBlock≠some n)(s:NT p xs k):Calls prog 164 #[v,(k:Int),.slice n 1 1] w λe w'=>xR 44 11 gK v (oI p xs) B w e w':=by
 obtain⟨F,r⟩:=s;rw[r];by_cases u:k=xs.length
 .subst u;rw[List.take_length,List.drop_length];exact apm h c b p hv a
 .have l:k<xs.length:=oZ;obtain⟨_,⟨rfl,A⟩|⟨g,cap,cur,rfl,d,f,x,i,m,o⟩⟩:=h
  .omega
  .have j:n≠g:=λe=>y (by rw[e];rfl);by_cases z:xs.length+1<=cap
   .exact aje d f rfl i m o b l z p hv a j
   .exact amg d f rfl x i m o c b l oZ p hv a j
theorem SC{ps:List Ord.P}(ar:PSl w vr ps)(ab:ps.length<=1000000)(p:Ord.P):∀w1,Below w w w1->Calls prog 108 #[vr,.agg (eP p)] w1 λe w'=>agf (oI p ps) w1 e w':=by
 intro w1 an;obtain⟨a,ad⟩:=nZ (w1.alloc (.cells (eP p) 44));have ao:=aB ad;have af:Blk a w1 44 (eP p):=by rw[<-ad];exact Blk.new _ _ _
 have ag:=qZ (YV (rO ar (aA an ao)) ab 162 (w1:Nat) (λx=>decide (p.seq<x.seq)) (λ_ _=>kZ) (λx W am=>apt x p (w1:Nat) W (af.below am af.lt)) a (aJ _ _));have L:=qZ (λW (h:Below w1 w1 W)=>EO ar ab W (aA an h));have I:=qY (∀W v ae (k:Nat),bQ W w1 44 11 gK v ps->(w1:Nat)<=(W:Nat)->Blk W ae 44 (eP p)->v.ownBlock≠some ae->NT p ps k->Calls prog 164 #[v,(k:Int),.slice ae 1 1] W λe w'=>xR 44 11 gK v (oI p ps) (w1:Nat) W e w') (λW v ae k h bh hv bj ap=>apn h bh ab p hv rfl bj ap);have Y:=qY (∀e w',aoj (λx=>decide (p.seq<x.seq)) ps a e w'->(e=.returned (.int .i64 (-1))/\NT p ps ps.length\/∃k:Nat,e=.returned k/\NT p ps k)/\Below a a w') (λe w' ⟨h,O⟩=>by
  refine⟨?_,O⟩;rcases h with⟨rfl,bi⟩|⟨k,ap,rfl,bl,bg⟩
  .exact .inl ⟨rfl,bI _,by rw[List.take_length,List.drop_length];exact abT p ps bi⟩
  .exact .inr ⟨k,rfl,oZ,abS p ps k ap bg (List.find?_some (p:=λx:Ord.P=>decide (p.seq<x.seq)) bl)⟩)
 have az:=qZ af;have M:=qZ ao;have be:=qZ ad;obtain⟨A,cap,rfl,_⟩:=ar;obtain⟨N,a5⟩:=nZ ps.length;rw[a5]at ab L ag Y⊢;obtain⟨Q,a9⟩:=nZ (oI p ps);rw[a9]at I⊢;have bd:=qY (∀k:Nat,NT p ps k->NT p ps k) (λ_ h=>h);clear a5 a9 an ad ao af;obtain⟨al,a8⟩:=nZ (NT p ps);rw[a8]at I Y bd;clear a8;obtain⟨o,p1,F,⟨n0,n1,n2⟩,p6,s,y,z,r⟩:=p;simp only[eP]at*;go_enter func108,ntmps108;go_wp2_with fail;rw[be.out];refine ag.mono ?_;intro e bm aa;obtain⟨aa,ba⟩:=Y.out e bm aa;have ai:=qZ ba;have aw:=qZ aa;clear ba aa ag Y;have bk:∃u:Int,e=.returned u/\((u= -1/\al N)\/∃k:Nat,u=k/\al k):=by
  rcases aw.out with⟨h,c⟩|⟨k,h,c⟩
  .exact⟨-1,h,.inl ⟨rfl,c⟩⟩
  .exact⟨k,h,.inr ⟨k,rfl,c⟩⟩
 obtain⟨u,rfl,bb⟩:=bk;have Z:=qZ bb;clear bb aw
 go_upto_if 10 with fail
 go_cut[5] (λv bn=>∃k:Nat,v=.int .i64 k/\Hid (al k)/\Hid (Below a a bn));case first=>
  rcases Z.out with⟨rfl,c⟩|⟨k,rfl,c⟩
  .have ah:=qZ c;clear c Z;go_wp2_with fail;go_meet;exact⟨N,rfl,ah,ai⟩
  .have ah:=qZ c;clear c Z;have bo:¬((k:Int)<0):=oZ;go_wp2_with fail;go_meet;exact⟨k,rfl,ah,ai⟩
 case rest=>
  clear ai Z;obtain⟨k,rfl,ax,bc⟩:=hcut;go_wp2_with fail;have bf:∀W,aF a W->CI W w1 0 o/\CI W w1 1 p1/\CI W w1 2 F/\CI W w1 3 n0/\CI W w1 4 n1/\CI W w1 5 n2/\CI W w1 6 p6/\CI W w1 7 s/\CI W w1 8 y/\CI W w1 9 z/\CI W w1 10 r:=λW am=>have x:=(az.below am az.out.lt);⟨x.cell 0,x.cell 1,x.cell 2,x.cell 3,x.cell 4,x.cell 5,x.cell 6,x.cell 7,x.cell 8,x.cell 9,x.cell 10⟩;have l:aF a wc.drew:=aA bc (aF.drew wc);refine iT (aF a) 5 (.take 0 (.take 2 (.take 3 (.two 1 4 (.one 4 .done) (.one 1 .done))))) kZ kZ l ?_;(iterate 3 refine tT ?_);clear bf;refine yO ?_ ?_
  .refine tC ?_;refine(L _ (aA M l)).mono ?_;rintro e f⟨H,rfl,m,i⟩;have aq:aF a f:=aA l i;refine⟨H,rfl,aq,?_⟩;have K:Blk (f.alloc (.cells #[o,p1,F,n0,n1,n2,p6,s,y,z,r] 44)) (f:Nat) 44 #[o,p1,F,n0,n1,n2,p6,s,y,z,r]:=Blk.new _ _ _;have J:=(aJ (f:Nat) f).alloc lZ (.cells #[o,p1,F,n0,n1,n2,p6,s,y,z,r] 44);have d:aF a _:=aA aq J;refine eT ?_;apply lK;(focus rfl);(focus rfl);(focus(go_simp;first|done|exact⟨rfl,rfl⟩));(focus exact d);(focus(go_simp;first|done|rfl));have n:=aA M l;have j:=m.lt;have G:=qZ (I _ H (f:Nat) k ((m.below J).low n.size) (aA M d).size K (λe=>by have:=(j _ e).2;omega) ax);have g:=qZ (aA M d);have ak:=qY (∀b,H.ownBlock=some b->(w1:Nat)<=b) (λb O=>aV n.size (j b O).1);clear m i aq K J d n j I L l;refine fZ ?_;show wpList prog _ _ (List.drop 5 _) _ _;simp only[bH,bJ];go_wp2_with fail;refine G.mono ?_;rintro e au⟨v4,rfl,X,T,_⟩;have aj:=qY (agf Q w1 (.returned v4) au) (⟨v4,rfl,X,g.out.trans (T.below g.size ak)⟩);clear X T G;go_wp2_with fail;go_ret;exact aj
  .have K:Blk (wc.drew.alloc (.cells #[o,p1,F,n0,n1,n2,p6,s,y,z,r] 44)) (wc:Nat) 44 #[o,p1,F,n0,n1,n2,p6,s,y,z,r]:=Blk.new _ _ _;have J:=(aJ wc.drew.heap.size wc.drew).alloc lZ (.cells #[o,p1,F,n0,n1,n2,p6,s,y,z,r] 44);have d:aF a _:=aA l J;apply lK;(focus rfl);(focus rfl);(focus(go_simp;first|done|exact⟨rfl,rfl⟩));(focus exact d);(focus(go_simp;first|done|rfl));refine eT ?_;refine tC ?_;have av:=qZ K;have g:=qZ (aA M d);refine(L _ g).mono ?_;rintro e f⟨H,rfl,m,i⟩;refine⟨H,rfl,aA d i,?_⟩;have j:=m.lt;have n:=aA g i;have a0:=av.out.lt;have G:=qZ (I f H (wc:Nat) k (m.low g.size) n.size (av.below i a0) (λe=>by have:=(j _ e).1;omega) ax);have ak:=qY (∀b,H.ownBlock=some b->(w1:Nat)<=b) (λb O=>aV g.size (j b O).1);have ay:=qZ n;clear m i K J d n j I L l a0;refine fZ ?_;show wpList prog _ _ (List.drop 5 _) _ _;simp only[bH,bJ];go_wp2_with fail;refine G.mono ?_;rintro e au⟨v4,rfl,X,T,_⟩;have aj:=qY (agf Q w1 (.returned v4) au) (⟨v4,rfl,X,ay.out.trans (T.below ay.size ak)⟩);clear X T G;go_wp2_with fail;go_ret;exact aj
end bU
variable{rl:List bM.Run}{s:Top.S}{v1 v2 vp:Value}{W w':World}
namespace bU
open Go Go.RowKit L bM eZ Srt
theorem alJ{B:Nat}(h:kU W B v rl)(O:B<=(W:Nat)){x:Run}(s:ISl W x.hv x.aQ)(A:x.aQ≠[]->∀b,x.hv.ownBlock=some b->v.ownBlock≠some b)(Q:rl.length<=1000000):∃v' f,(Builtin.append_ #[28,28] 28 #[v,.slice W 1 1]).run prog (W.alloc (.cells (mR x).toArray 86))=.ok v' f/\kU f B v' (rl++[x])/\aO (λi=>v.ownBlock=some i) W f/\∀b,v'.ownBlock=some b->v.ownBlock=some b\/(W:Nat)<=b:=by
 obtain⟨i0,hi,L,M,N⟩:=info_parts YQ;have n:Below W W (W.alloc (.cells (mR x).toArray 86)):=bZ;have a:=h.below n;have K:=rU (k:=14) (dec:=mR) (x:=x) (Blk.new W 86 (mR x).toArray) rfl;obtain⟨v',f,e1,e2,e3,e4,p⟩:=mP 28 28 i0 _ 128 underlying28 hi L M N rfl oZ (λ_=>rfl) (ys:=[x]) (m:=1) (c:=1)
  (λu r=>by simp only[dL,kV,fC,mR,bA,dS,or_false]at r;rcases r with rfl|rfl|rfl|rfl|rfl|rfl|rfl|rfl|rfl|rfl|rfl|rfl|rfl|rfl<;>first|rfl|exact KW s) a.1 rfl K (by simp;omega) (by unfold maxLen;omega) oZ
 have I:=h.1.lt;have all:∀y∈rl++[x],ISl W y.hv y.aQ/\(y.aQ≠[]->∀b,y.hv.ownBlock=some b->v.ownBlock≠some b):=λy d=>by
  rcases bY.1 d with d|d
  .exact⟨(h.2 y d).1,λJ b o e=>(h.2 y d).2 J b e o⟩
  .have:y=x:=by simpa using d
   subst this;exact⟨s,A⟩
 refine⟨v',f,e1,⟨e2,λy d=>?_⟩,(aO.bS n).trans' (aO.lG (F:=λi=>v.ownBlock=some i) e3 λi hi=>hi) λi _ hi=>hi,λb o=>?_⟩
 .obtain⟨a1,a2⟩:=all y d;refine⟨MQ (a1.below n) e3 λj g H e=>a2 j g e H,λj b w l=>?_⟩;rcases p b w with a|a
  .exact a2 j b l a
  .obtain⟨c,z,I⟩:=DK a1 j;rw[z]at l;injection l with l;simp at a;omega
 .rcases p b o with a|a
  .exact .inl a
  .simp at a;exact .inr oZ
theorem aem{B:Nat}{l:List Int}(h:bQ w B 3 1 jL v l):ISl w v l:=by
 obtain⟨A,cap,e,a⟩:=h.sl (λ_=>rfl);refine⟨A,cap,e,a,?_⟩;rcases h.form with⟨_,rfl⟩|⟨_,_,_,_,_,b,c⟩
 .exact bK _
 .omega
structure vU (rb pb:Nat) (cs ps:Array Value) (W:World):Prop where
 box:Blk W rb 91 cs
 dW:Blk W pb 44 ps
theorem vU.on{c b:Nat}{ps:Array Value}(h:vU c b cs ps w)(a:Below w w w'):vU c b cs ps w':=⟨h.box.below a h.box.lt,h.dW.below a h.dW.lt⟩
def aqQ(L:Nat)(wm w:World)(rb:Nat)(v1 v2 vh vr ve:Value)(s:Top.S)(o:Option Top.Rd)(e:Ending)(w':World):Prop:=
 match o with
 |none=>e=.returned (.bool false)/\Below w w w'
 |some y=>e=.returned (.bool true)/\pX L wm w rb v1 v2 vh vr ve s y w'
theorem aqK(c:Cfg.C)(aN:Int)(x:Top.Rd)(p:Ord.P)(a:Option (Int×List Int))(h:Top.dR c x.rs p=a):Top.aDm c aN x p=if(!a.isSome||(x.head&& !sS aN p x.start))=true then none else some {x with ps:=nG x.ps p.id,rs:=x.rs++[⟨p,aN,(a.map (·.1)).getD 0,(a.map (·.2)).getD []⟩],ev:=x.ev++[⟨1,p.id,(a.map (·.1)).getD 0⟩]}:=by
 unfold Top.aDm;rw[h];cases a with
 |none=>rfl
 |some q=>
  obtain⟨fl,b⟩:=q;simp only[Option.isSome_some,Bool.not_true,Bool.false_or,Option.map_some,Option.getD_some]
theorem acT{dz:World}{L d:Nat}{ay Q:Value}{x:Top.Rd}(h:nE L dz w d v1 v2 ay vp vr Q s rl x)(bg:HV x)(db:x.ev.length<=100000)(dg:FC s.c)(dj:0<=s.aN/\s.aN<=1099511627776)(p:Ord.P)(bd:GOk p):Calls prog 83 #[.pointer (some ⟨d,0,none⟩),.agg (eP p)] w λe w'=>aqQ L dz w d v1 v2 ay vr Q s (Top.aDm s.c s.aN x p) e w':=by
 have dr:=h.on.size;have dc:=h.flt;obtain⟨g,bf⟩:=nZ (w.alloc (.cells (eP p) 44));have b3:=aB bf;have d0:Blk g w 44 (eP p):=by rw[<-bf];exact Blk.new _ _ _
 have k:=h.dU b3;have df:rl.length<=100:=by have:=bg.len.2;rw[<-h.map]at this;simpa using this
 have cr:vU d (w:Nat) #[v1,v2,s.c.aI,s.c.aK,s.aN,s.next,vp,vr,ay,Q,.bool x.head,x.start] (eP p) g:=⟨k.box,d0⟩;have bj:=qY (∀W,Below w w W->Calls prog 23 #[.agg #[v1,v2,s.c.aI,s.c.aK],vr,dW p] W λe w'=>SV (Top.dR s.c x.rs p) W e w') (λW a=>by have bb:=h.dU a;have:=GI (bb.cfg.below bb.on) (bb.rs.runs oZ) dg p bd.num bd.lev W (aJ _ _);rw[bb.map]at this;exact this);have ao:=qZ (aeQ p s.aN x.start ⟨dj.1,oZ⟩ bd.run);have bm:=qY (∀W,Below w w W->Calls prog 53 #[vp,p.id] W λe w'=>SL x.ps p.id W e w') (λW a=>abR h.ps (by have:=bg.len.1;omega) p.id W a);obtain⟨az,b2⟩:=nZ (Top.dR s.c x.rs p);rw[aqK s.c s.aN x p az b2];rw[b2]at bj;obtain⟨du,dh⟩:=nZ (sS s.aN p x.start);rw[dh]at ao⊢;obtain⟨ch,ca⟩:=nZ az.isSome;obtain⟨fl,b4⟩:=nZ ((az.map (·.1)).getD 0);obtain⟨aQ,ai⟩:=nZ ((az.map (·.2)).getD []);obtain⟨q,b8⟩:=nZ ((!ch||(x.head&& !du)));rw[ca,b4,ai,b8];have bk:=qY (∀W,Below w w W->Calls prog 23 #[.agg #[v1,v2,s.c.aI,s.c.aK],vr,dW p] W λe w'=>∃v',e=.returned (.tuple #[fl,v',.bool ch])/\bQ w' W 3 1 jL v' aQ/\Below W W w') (λW a=>by have:=bj.out W a;unfold SV at this;rw[ca,b4,ai]at this;exact this);have ap:=qZ h;have a9:=qZ (aC bg (aC db df));have f:=qZ cr;have bn:=qZ b3;have T:=qZ dc;have eo:=qZ dr;have bv:=qZ bf;have bt:=qZ b8;clear bj b2 dh ca b4 ai b8 k cr d0 b3 bf h dr dc df bg db dg bd dj;obtain⟨es,eg⟩:=nZ x.rs;obtain⟨da,bc⟩:=nZ x.head;obtain⟨st,cb⟩:=nZ x.start;have en:=qZ bc;rw[bc,cb]at f;rw[bc]at bt;rw[cb]at ao;clear eg bc cb;obtain⟨u,p1,J,⟨n0,n1,n2⟩,p6,H,I,O,N⟩:=p;simp only[eP,dW,iD]at bk ao bm f bv;simp only[eP];go_enter func83,ntmps83;go_wp2_with fail;rw[bv.out];have d8:∀W,aF g W->W.cell? ⟨d,0,none⟩=some v1:=λW a=>(f.out.on a).box.cell 0;have c1:∀W,aF g W->W.cell? ⟨d,1,none⟩=some v2:=λW a=>(f.out.on a).box.cell 1;have c2:∀W,aF g W->W.cell? ⟨d,2,none⟩=some (.int .i64 s.c.aI):=λW a=>(f.out.on a).box.cell 2;have c3:∀W,aF g W->W.cell? ⟨d,3,none⟩=some (.int .i64 s.c.aK):=λW a=>(f.out.on a).box.cell 3;have c7:∀W,aF g W->W.cell? ⟨d,7,none⟩=some vr:=λW a=>(f.out.on a).box.cell 7;have F:∀W,aF g W->W.cell? ⟨w,0,none⟩=some (.int .i64 u):=λW a=>(f.out.on a).dW.cell 0;have Y:∀W,aF g W->W.cell? ⟨w,1,none⟩=some (.int .i64 p1):=λW a=>(f.out.on a).dW.cell 1;have Z:∀W,aF g W->W.cell? ⟨w,2,none⟩=some (.int .i64 J):=λW a=>(f.out.on a).dW.cell 2;have aa:∀W,aF g W->W.cell? ⟨w,3,none⟩=some (.int .i64 n0):=λW a=>(f.out.on a).dW.cell 3;have ab:∀W,aF g W->W.cell? ⟨w,4,none⟩=some (.int .i64 n1):=λW a=>(f.out.on a).dW.cell 4;have ad:∀W,aF g W->W.cell? ⟨w,5,none⟩=some (.int .i64 n2):=λW a=>(f.out.on a).dW.cell 5;have ae:∀W,aF g W->W.cell? ⟨w,6,none⟩=some (.int .i64 p6):=λW a=>(f.out.on a).dW.cell 6;have af:∀W,aF g W->W.cell? ⟨w,7,none⟩=some (.int .i64 H):=λW a=>(f.out.on a).dW.cell 7;have ag:∀W,aF g W->W.cell? ⟨w,8,none⟩=some (.int .i64 I):=λW a=>(f.out.on a).dW.cell 8;refine lU (aF g) (.take 0 (.take 1 (.take 2 (.take 3 (.take 4 (.take 5 (.take 6 (.take 7 (.take 8 (.take 9 (.take 10 (.take 11 (.one 12 (.take 13 (.take 14 (.take 15 (.take 16 (.take 17 (.take 18 (.take 19 .done)))))))))))))))))))) kZ kZ (aF.drew g) ?_;(iterate 12 refine tT ?_);clear d8 c1 c2 c3 c7 F Y Z aa ab ad ae af ag;refine eT ?_;refine tC ?_;refine(bk.out _ (aA bn.out (aF.drew g))).mono ?_;rintro e l⟨dy,rfl,dp,cy⟩;have b9:aF g l:=aA (aF.drew g) cy;refine⟨_,rfl,b9,?_⟩;have bu:=qZ (dp.low (show(w:Nat)<=_ from bn.out.size));have r:=qZ b9;clear dp cy b9 bk;(iterate 7 refine tT ?_);refine fZ ?_;go_upto_region 2 with fail;go_cut[47] (λb em=>b=.bool q/\Hid (aF l em));case first=>
  have b0:∀W,aF l W->W.cell? ⟨d,4,none⟩=some (.int .i64 s.aN):=λW a=>(f.out.on (aA r.out a)).box.cell 4;have bw:∀W,aF l W->W.cell? ⟨d,10,none⟩=some (.bool da):=λW a=>(f.out.on (aA r.out a)).box.cell 10;have bz:∀W,aF l W->W.cell? ⟨d,11,none⟩=some (.int .i64 st):=λW a=>(f.out.on (aA r.out a)).box.cell 11;have F:∀W,aF l W->W.cell? ⟨w,0,none⟩=some (.int .i64 u):=λW a=>(f.out.on (aA r.out a)).dW.cell 0;have Y:∀W,aF l W->W.cell? ⟨w,1,none⟩=some (.int .i64 p1):=λW a=>(f.out.on (aA r.out a)).dW.cell 1;have Z:∀W,aF l W->W.cell? ⟨w,2,none⟩=some (.int .i64 J):=λW a=>(f.out.on (aA r.out a)).dW.cell 2;have aa:∀W,aF l W->W.cell? ⟨w,3,none⟩=some (.int .i64 n0):=λW a=>(f.out.on (aA r.out a)).dW.cell 3;have ab:∀W,aF l W->W.cell? ⟨w,4,none⟩=some (.int .i64 n1):=λW a=>(f.out.on (aA r.out a)).dW.cell 4;have ad:∀W,aF l W->W.cell? ⟨w,5,none⟩=some (.int .i64 n2):=λW a=>(f.out.on (aA r.out a)).dW.cell 5;have ae:∀W,aF l W->W.cell? ⟨w,6,none⟩=some (.int .i64 p6):=λW a=>(f.out.on (aA r.out a)).dW.cell 6;have af:∀W,aF l W->W.cell? ⟨w,7,none⟩=some (.int .i64 H):=λW a=>(f.out.on (aA r.out a)).dW.cell 7;have ag:∀W,aF l W->W.cell? ⟨w,8,none⟩=some (.int .i64 I):=λW a=>(f.out.on (aA r.out a)).dW.cell 8;refine iT (aF l) 19 (.take 0 (.take 1 (.take 2 (.take 3 (.take 4 (.take 5 (.take 6 (.take 7 (.take 8 (.take 9 (.take 10 (.take 11 (.take 12 (.take 13 (.take 14 (.take 15 (.take 16 (.take 17 (.take 18 .done))))))))))))))))))) kZ kZ (aF.drew l) ?_;have bo:=qZ (aF.drew l);have am:=bt.out;cases ch
  .obtain rfl:q=true:=by rw[<-am];rfl
   clear am;(iterate 3 refine tT ?_);(iterate 16 refine tN ?_);clear b0 bw bz F Y Z aa ab ad ae af ag;refine fZ ?_;show wpList prog _ _ (List.drop 19 _) _ _;simp only[bH,bJ];go_wp2_with fail;go_meet;exact⟨rfl,bo⟩
  .cases da
   .obtain rfl:q=false:=by rw[<-am];rfl
    clear am;(iterate 8 refine tT ?_);(iterate 11 refine tN ?_);clear b0 bw bz F Y Z aa ab ad ae af ag;refine fZ ?_;show wpList prog _ _ (List.drop 19 _) _ _;simp only[bH,bJ];go_wp2_with fail;go_meet;exact⟨rfl,bo⟩
   .obtain rfl:q= !du:=by rw[<-am];rfl
    clear am;(iterate 19 refine tT ?_);clear b0 bw bz F Y Z aa ab ad ae af ag;refine fZ ?_;show wpList prog _ _ (List.drop 19 _) _ _;simp only[bH,bJ];go_wp2_with fail;refine(ao.out _).mono ?_;rintro e eu⟨rfl,cz⟩;have d6:=qZ (aA bo.out cz);clear cz;go_wp2_with fail;go_meet;exact⟨rfl,d6⟩
 case rest=>
  obtain⟨rfl,a8⟩:=hcut;have ar:=qZ (aA bn.out (aA r.out a8.out));have a5:=qZ (f.out.on (aA r.out a8.out));have cm:=qZ ((aem bu.out).below a8.out);have aq:=qY (aQ≠[]->∀b,dy.ownBlock=some b->(w:Nat)<=b) (λ_ b k=>(bu.out.lt b k).1);clear r a8 f bu ao bt bv;cases q
  .go_wp2_with fail;have c6:∀W,aF wc W->W.cell? ⟨d,6,none⟩=some vp:=λW a=>(a5.out.on a).box.cell 6;have F:∀W,aF wc W->W.cell? ⟨w,0,none⟩=some (.int .i64 u):=λW a=>(a5.out.on a).dW.cell 0;refine aiS (aF wc) 16 (.take 0 (.take 1 (.take 2 (.take 3 (.take 4 (.take 5 (.take 6 (.take 7 (.take 8 (.one 9 (.take 10 (.take 11 (.take 12 (.take 13 (.take 14 (.take 15 (.one 16 .done))))))))))))))))) kZ kZ (aF.drew wc) ?_;(iterate 5 apply Go.Proofs.YtedmeglbjmdlhaaGreatDoor.L.aaM;(focus rfl);(focus rfl);(focus(intro W;go_simp;first|done|exact⟨rfl,rfl⟩|rfl));(focus(go_simp;first|done|rfl)));apply Go.Proofs.YtedmeglbjmdlhaaGreatDoor.L.ahB;(focus rfl);(focus rfl);(focus kernel_rfl);(focus(intro W a;go_simp;first|done|exact⟨rfl,rfl⟩|rfl));(focus(go_simp;first|done|rfl));(iterate 2 apply Go.Proofs.YtedmeglbjmdlhaaGreatDoor.L.aaM;(focus rfl);(focus rfl);(focus(intro W;go_simp;first|done|exact⟨rfl,rfl⟩|rfl));(focus(go_simp;first|done|rfl)));apply Go.Proofs.YtedmeglbjmdlhaaGreatDoor.L.ahB;(focus rfl);(focus rfl);(focus kernel_rfl);(focus(intro W a;go_simp;first|done|exact⟨rfl,rfl⟩|rfl));(focus(go_simp;first|done|rfl));clear c6 F;apply Go.Proofs.YtedmeglbjmdlhaaGreatDoor.L.arZ;(focus rfl);(focus rfl);(focus(go_simp;first|done|exact⟨⟨rfl,rfl⟩,rfl⟩|rfl));refine(bm.out _ (aA ar.out (aF.drew wc))).mono ?_;rintro e bh⟨v4,rfl,be,c0⟩;have av:aF wc bh:=aA (aF.drew wc) c0;refine⟨_,rfl,λ_=>av,?_⟩;have cc:=aA ar.out av;have ba:=ap.out.dU cc;have dm:∀y∈Top.nG x.ps u,POk y:=λy z=>(a9.out.1.kR y (cO _ ((PG _ _).subset z))).ok;have b7:=be.lt;have eh:(w:Nat)<=(wc:Nat):=ar.out.size;obtain⟨b1,aw⟩:=ba.atC (BJ be dm) (λ_ b k ah=>by
    have e1:=(b7 b k).1;have e2:=T.out b ah;have e3:wc.drew.heap.size=(wc:Nat):=rfl;omega) (λ_ b k=>by
    have e1:=(b7 b k).1;have e2:=ap.out.lw;have e3:=ap.out.on.size;have e4:wc.drew.heap.size=(wc:Nat):=rfl;omega)
   obtain⟨bi,cg,c4,rfl⟩:=be.sA;have ei:bh.cell? ⟨d,6,none⟩=some vp:=ba.box.cell 6;have eb:bh.frozen? ⟨d,6,none⟩=false:=ba.box.frozen 6;obtain⟨j,cd⟩:=nZ (bh.setCell ⟨d,6,none⟩ (.slice bi cg c4));have dd:=(a5.out.on av).dW;have di:¬mF d vr Q (w:Nat):=λah=>by have:=T.out _ ah;omega
   have b5:=dd.bD aw di;have ai:=vO (cm.out.below av) aw (λM b k ah=>by have:=aq.out M b k;have:=T.out b ah;omega);rw[cd]at b1 aw ai b5;have bq:=qY (aO (mF d vr Q) w j) ((aO.bS cc).trans aw);have K:=qZ b1;have bp:=qZ b5;have bs:=qZ ai;have cq:=qY ((w:Nat)<=(j:Nat)) bq.out.size;have co:=qZ cd;clear b1 aw b5 ai cd dd di ba dm b7 eh be c0 cc av ar a5 cm bm;(iterate 6 apply Go.Proofs.YtedmeglbjmdlhaaGreatDoor.L.aaM;(focus rfl);(focus rfl);(focus(intro W;go_simp;first|done|exact⟨rfl,rfl⟩|rfl));(focus(go_simp;first|done|rfl)));apply Go.Proofs.YtedmeglbjmdlhaaGreatDoor.L.aps;(focus rfl);(focus rfl);(focus(go_simp;first|done|rfl));(focus(intro ef;exact absurd rfl ef));(focus(go_simp;first|done|rfl));refine arY ?_;rw[co.out];clear ei eb co;go_upto_region 5 with fail;obtain⟨an,ax,cf,ea⟩:∃A n c,dy=.slice A n c:=by obtain⟨A,cap,e,_⟩:=bs.out;exact⟨_,_,_,e⟩
   subst ea;have cs:vU d (w:Nat) #[v1,v2,s.c.aI,s.c.aK,s.aN,s.next,.slice bi cg c4,vr,ay,Q,.bool x.head,x.start] #[u,p1,J,n0,n1,n2,p6,H,I,O,N] j:=⟨K.out.box,bp.out⟩;have ak:=qZ cs;obtain⟨m,au⟩:=nZ (#[v1,v2,.int .i64 s.c.aI,.int .i64 s.c.aK,.int .i64 s.aN,.int .i64 s.next,.slice bi cg c4,vr,ay,Q,.bool x.head,.int .i64 x.start]);obtain⟨o,v⟩:=nZ (#[Value.int .i64 u,.int .i64 p1,.int .i64 J,.int .i64 n0,.int .i64 n1,.int .i64 n2,.int .i64 p6,.int .i64 H,.int .i64 I,.int .i64 O,.int .i64 N]);rw[au,v]at ak;have d9:∀W,vU d (w:Nat) m o W->W.cell? ⟨d,4,none⟩=some (.int .i64 s.aN):=λW a=>by rw[a.box.cell 4,<-au];rfl
   have c7:∀W,vU d (w:Nat) m o W->W.cell? ⟨d,7,none⟩=some vr:=λW a=>by rw[a.box.cell 7,<-au];rfl
   have F:∀W,vU d (w:Nat) m o W->W.cell? ⟨w,0,none⟩=some (.int .i64 u):=λW a=>by rw[a.dW.cell 0,<-v];rfl
   have Y:∀W,vU d (w:Nat) m o W->W.cell? ⟨w,1,none⟩=some (.int .i64 p1):=λW a=>by rw[a.dW.cell 1,<-v];rfl
   have Z:∀W,vU d (w:Nat) m o W->W.cell? ⟨w,2,none⟩=some (.int .i64 J):=λW a=>by rw[a.dW.cell 2,<-v];rfl
   have aa:∀W,vU d (w:Nat) m o W->W.cell? ⟨w,3,none⟩=some (.int .i64 n0):=λW a=>by rw[a.dW.cell 3,<-v];rfl
   have ab:∀W,vU d (w:Nat) m o W->W.cell? ⟨w,4,none⟩=some (.int .i64 n1):=λW a=>by rw[a.dW.cell 4,<-v];rfl
   have ad:∀W,vU d (w:Nat) m o W->W.cell? ⟨w,5,none⟩=some (.int .i64 n2):=λW a=>by rw[a.dW.cell 5,<-v];rfl
   have ae:∀W,vU d (w:Nat) m o W->W.cell? ⟨w,6,none⟩=some (.int .i64 p6):=λW a=>by rw[a.dW.cell 6,<-v];rfl
   have af:∀W,vU d (w:Nat) m o W->W.cell? ⟨w,7,none⟩=some (.int .i64 H):=λW a=>by rw[a.dW.cell 7,<-v];rfl
   have ag:∀W,vU d (w:Nat) m o W->W.cell? ⟨w,8,none⟩=some (.int .i64 I):=λW a=>by rw[a.dW.cell 8,<-v];rfl
   have ee:∀W,vU d (w:Nat) m o W->W.cell? ⟨w,9,none⟩=some (.int .i64 O):=λW a=>by rw[a.dW.cell 9,<-v];rfl
   have ed:∀W,vU d (w:Nat) m o W->W.cell? ⟨w,10,none⟩=some (.int .i64 N):=λW a=>by rw[a.dW.cell 10,<-v];rfl
   clear cs;refine iT (vU d (w:Nat) m o) 22 (.take 0 (.take 1 (.take 2 (.take 3 (.take 4 (.take 5 (.take 6 (.take 7 (.take 8 (.take 9 (.take 10 (.take 11 (.take 12 (.take 13 (.take 14 (.take 15 (.take 16 (.take 17 (.take 18 (.take 19 (.one 20 (.one 21 .done)))))))))))))))))))))) kZ kZ (ak.out.on (aF.drew j)) ?_;(iterate 20 refine tT ?_);clear d9 c7 F Y Z aa ab ad ae af ag ee ed;refine eT ?_;have dn:=K.out.rs.below (aF.drew j);obtain⟨ek,al,cx,dq,X,dw⟩:=alJ (W:=j.drew) (x:=⟨u,p1,J,⟨n0,n1,n2⟩,p6,H,I,O,N,s.aN,fl,aQ,.slice an ax cf⟩) dn K.out.on.size (bs.out.below (aF.drew j)) (λM b k e=>by have:=aq.out M b k;have:=T.out b (.inr (.inl e));omega) (by have:=a9.out.2.2;omega);have ds:Below j j (j.drew.alloc (.cells #[u,p1,J,n0,n1,n2,p6,H,I,O,N,s.aN,fl,.slice an ax cf] 86)):=(aF.drew j).alloc lZ _;have ct:=ak.out.on ds;have dl:vr.ownBlock≠some d:=K.out.nr;have dk:vr.ownBlock≠some (w:Nat):=λe=>by have:=T.out _ (.inr (.inl e));omega
   have cu:vU d (w:Nat) m o al:=⟨(ak.out.on (aF.drew j)).box.bD X dl,(ak.out.on (aF.drew j)).dW.bD X dk⟩;have cj:=qY ((Builtin.append_ #[28,28] 28 #[vr,.slice (some ⟨j,0,none⟩) 1 1]).run prog (j.drew.alloc (.cells #[u,p1,J,n0,n1,n2,p6,H,I,O,N,s.aN,fl,.slice an ax cf] 86))=.ok ek al) cx;have aj:=qZ (aC dq (aC X dw));have cn:=qZ ct;have a0:=qZ cu;clear dn cx dq X dw ds ct cu dl dk;apply Go.Proofs.YtedmeglbjmdlhaaGreatDoor.L.lK;(focus rfl);(focus rfl);(focus(go_simp;first|done|exact⟨rfl,rfl⟩));(focus exact cn.out);(focus(go_simp;first|done|rfl));refine eT ?_;apply Go.Proofs.YtedmeglbjmdlhaaGreatDoor.L.lK;(focus rfl);(focus rfl);(focus exact nY (s:=.tmp 69) (x:=.tmp 84) (vs:=vr) (vx:=.slice (some ⟨j,0,none⟩) 1 1) rfl rfl rfl cj.out);(focus exact a0.out);(focus(go_simp;first|done|rfl));refine fZ ?_;show wpList prog _ _ (List.drop 22 _) _ _;simp only[bH,bJ];have ej:al.cell? ⟨d,7,none⟩=some vr:=by rw[a0.out.box.cell 7,<-au];rfl
   have ec:al.frozen? ⟨d,7,none⟩=false:=a0.out.box.frozen 7;obtain⟨ci,dv,c6,rfl⟩:=aj.out.1.1.sA;have de:aO (λi=>vr.ownBlock=some i) j al:=(aO.refl _ j).drew.trans aj.out.2.1;obtain⟨cv,X⟩:=K.out.avM (rs':=x.rs++[⟨⟨u,p1,J,⟨n0,n1,n2⟩,p6,H,I,O,N⟩,s.aN,fl,aQ⟩]) de aj.out.1 (by rw[dO,K.out.map];rfl) aj.out.2.2 (λy z M b k=>by
    rcases bY.1 z with z|z
    .have:=K.out.fh y z M b k;exact⟨λe=>this (.inl e),λe=>this (.inr (.inr e))⟩
    .have e:y=⟨u,p1,J,⟨n0,n1,n2⟩,p6,H,I,O,N,s.aN,fl,aQ,.slice an ax cf⟩:=by simpa using z
     subst e;have:=aq.out M b k;exact⟨λe=>by have:=T.out b (.inl e);omega,λe=>by have:=T.out b (.inr (.inr e));omega⟩) (λy z M b k=>by
    rcases bY.1 z with z|z
    .exact K.out.lh y z M b k
    .have e:y=⟨u,p1,J,⟨n0,n1,n2⟩,p6,H,I,O,N,s.aN,fl,aQ,.slice an ax cf⟩:=by simpa using z
     subst e;have ep:=aq.out M b k;have eq:=ap.out.lw;have er:=ap.out.on.size;omega)
   have bl:=qZ (MJ cv (aV a9.out.2.1 dZ) 1 u fl);have b6:=bp.out.bD X (λah=>by have:=T.out _ ah;omega);have cl:=qY (∀i,mF d (.slice ci dv c6) Q i->mF d vr Q i\/(w:Nat)<=i) (λi hi=>by
    rcases hi with hi|hi|hi
    .exact .inl (.inl hi)
    .rcases aj.out.2.2 i hi with h|h
     .exact .inl (.inr (.inl h))
     .have h:(j:Nat)<=i:=h;exact .inr (by have:=cq.out;omega)
    .exact .inl (.inr (.inr hi)))
   obtain⟨el,ce⟩:=nZ (al.setCell ⟨d,7,none⟩ (.slice ci dv c6));have br:=qZ (bq.out.trans X);rw[ce]at bl b6 br;have cp:=qZ ce;have ck:=qZ b6;clear cv X b6 de ce aj cn a0 cj ak bp bs aq au v bq K cq a9;go_upto_region 6 with fail;rw[cp.out];clear ej ec cp;have F:el.cell? ⟨w,0,none⟩=some (.int .i64 u):=ck.out.cell 0;go_wp2_with fail;refine bl.out.mono ?_;rintro e ev⟨rfl,et,cw,dt,dx⟩;have d7:=qZ (pX.after br.out cl.out ⟨_,_,_,_,cw,dt,λi hi=>by
    rcases hi with hi|hi|hi
    .exact .inl (.inl hi)
    .exact .inl (.inr (.inl hi))
    .rcases dx i hi with h|h
     .exact .inl (.inr (.inr h))
     .exact .inr h⟩)
   clear cw dt dx bl br cl ck F;go_wp2_with fail;go_ret;exact⟨rfl,d7.out⟩
  .go_wp2_with fail;go_ret;exact⟨rfl,ar.out⟩
end bU
variable{id:Int}{ev:List Top.E}{X:Value}{wr:World}
namespace bU
open Go Go.RowKit L bM eZ Srt
theorem anp{rs:List Top.R}(a:rl.map eY=rs){r:Run}(h:rl.find? (λx=>x.id==id)=some r)(y:List Ord.P×List Top.E):qI rs y id=(oI (toP r) y.1,y.2++[⟨2,id,0⟩]):=by
 have e:rs.find? (λq=>q.p.id==id)=some (eY r):=by rw[<-a,List.find?_map];have e2:((λq:Top.R=>q.p.id==id)∘eY)=λx:Run=>x.id==id:=rfl;rw[e2,h];rfl
 unfold qI;rw[e];rfl
theorem ajR{rs:List Top.R}(b:rl.map eY=rs)(h:∃r∈rs,r.p.id=id):rl.find? (λx=>x.id==id)≠none:=by obtain⟨r,a,e⟩:=h;rw[<-b]at a;obtain⟨y,d,rfl⟩:=bL.1 a;intro c;have:=List.find?_eq_none.1 c y d;have e2:y.id=id:=e;simp[e2]at this
structure abp (L:Nat) (wm w wr:World) (rb:Nat) (v1 v2 vh vr ve:Value) (s:Top.S) (rl:List Run) (x:Top.Rd) (dB:List Int) (vpk vek:Value) (ps:List Ord.P) (ev:List Top.E) (k:Nat):Prop where
 rd:nE L wm wr rb v1 v2 vh vpk vr vek s rl {x with ps:=ps,ev:=ev}
 eq:(dB.take k).foldl (qI x.rs) (x.ps,x.ev)=(ps,ev)
 bD:aO (mF rb vr ve) w wr
 grown:∀i,mF rb vr vek i->mF rb vr ve i\/(w:Nat)<=i
 lens:ps.length<=x.ps.length+k/\ev.length<=x.ev.length+k
 ok:∀p∈ps,POk p
theorem MC(p q:Ord.P):∀ps:List Ord.P,q∈oI p ps->q=p\/q∈ps
 |[],h=>by simpa[oI]using h
 |x::t,h=>by
  unfold oI at h;split at h
  .simpa using h
  .rcases bA.1 h with rfl|h
   .exact .inr (aZ ..)
   .rcases MC p q t h with h|h
    .exact .inl h
    .exact .inr (bG _ h)
theorem VN(p:Ord.P):∀ps:List Ord.P,(oI p ps).length=ps.length+1
 |[]=>rfl
 |x::t=>by
  unfold oI;split
  .rfl
  .simp[VN p t]
theorem abp.next{g:World}{L a:Nat}{f l:Value}{x:Top.Rd}{dB:List Int}{m e:Value}{ps:List Ord.P}(h:abp L g w wr a v1 v2 f vr l s rl x dB v X ps ev k)(j:dB[k]? =some id){r:Run}(H:rl.find? (λy=>y.id==id)=some r)(n:nE L g W a v1 v2 f m vr e s rl {x with ps:=oI (toP r) ps,ev:=ev++[⟨2,id,0⟩]})(I:aO (mF a vr X) wr W)(J:∀b,e.ownBlock=some b->X.ownBlock=some b\/(wr:Nat)<=b)(F:POk (toP r)):abp L g w W a v1 v2 f vr l s rl x dB m e (oI (toP r) ps) (ev++[⟨2,id,0⟩]) (k+1):=by
 have A:rl.map eY=x.rs:=h.rd.map;refine⟨n,?_,h.bD.trans' I λi hi u=>?_,λi hi=>?_,?_,λp d=>?_⟩
 .have z:=(bE.1 j).1;have o:=(bE.1 j).2;rw[bF z,fB,h.eq,o];exact anp A H _
 .rcases h.grown i u with h|h
  .exact h
  .omega
 .rcases hi with hi|hi|hi
  .exact .inl (.inl hi)
  .exact .inl (.inr (.inl hi))
  .rcases J i hi with c|c
   .exact h.grown i (.inr (.inr c))
   .exact .inr (aV h.bD.size c)
 .have:=h.lens;rw[VN];simp;omega
 .rcases MC _ _ _ d with rfl|d
  .exact F
  .exact h.ok p d
theorem aqe{x:Top.Rd}(h:HV x)(a:rl.map eY=x.rs):Many rl:=h.many a
theorem ano{ai:World}{L H:Nat}{ah ad:Value}{x:Top.Rd}{dB:List Int}(h:nE L ai w H v1 v2 ah vp vr ad s rl x)(bh:HV x)(db:x.ev.length<=100000)(hi:ISl w v dB)(eh:dB.length<=1000)(dc:dB≠[]->∀b,v.ownBlock=some b->¬mF H vr ad b)(df:∀id∈dB,∃r∈x.rs,r.p.id=id):Calls prog 85 #[.pointer H,v] w λe w'=>e=.returned (.tuple #[])/\pX L ai w H v1 v2 ah vr ad s (lM x dB) w':=by
 have dg:rl.length<=100:=by have:=bh.len.2;rw[<-h.map]at this;simpa using this
 have dd:=h.flt;have cj:=qY (abp L ai w w H v1 v2 ah vr ad s rl x dB vp ad x.ps x.ev 0) (⟨h,rfl,aO.refl _ _,λi hi=>.inl hi,⟨bI _,bI _⟩,λp av=>(bh.kR p (cO _ av)).ok⟩);have T:=qZ (aC bh (aC db dg));have aj:=qZ (aC hi dc);have dy:=qZ dd;have dz:=qZ df;have a8:=qZ h.map;obtain⟨ci,ea,rfl,dm,_⟩:=id hi;have ez:=qZ dm;obtain⟨F,cf,ec⟩:∃F cf,vr=.slice F rl.length cf:=by obtain⟨F,cf,e,_⟩:=h.rs.runs oZ;exact⟨F,cf,e⟩
 subst ec;obtain⟨K,bs⟩:=nZ rl.length;have cq:=qZ bs;obtain⟨N,br⟩:=nZ dB.length;have bn:=qZ br;rw[bs]at dg cj aj dy⊢;rw[br]at eh aj⊢;obtain⟨cw,bu⟩:=nZ (lM x dB);have d6:=qZ bu;rw[bu];clear h bh db hi dc df dd dm bs br bu;go_enter func85,ntmps85;go_wp2_with fail;go_loopg[10] N (λee v10 wr=>∃(k:Nat) (ay ag:Value) (ps:List Ord.P) (ev:List Top.E),v10=.int .i64 k/\k<=N/\N<=ee+k/\Hid (abp L ai w wr H v1 v2 ah (.slice F K cf) ad s rl x dB ay ag ps ev k));case atStart=>exact⟨0,_,_,_,_,mZ,oZ,oZ,cj⟩
 case round=>
  obtain⟨k,ay,ag,ps,ev,rfl,fd,fb,m⟩:=hrel;by_cases ej:k<N
  .have el:(k:Int)<(N:Int):=oZ;have bb:k<dB.length:=by rw[bn.out];exact ej
   have di:dB≠[]:=λe=>by rw[e]at bb;simp at bb
   have ar:=vO aj.1 m.bD aj.2;obtain⟨id,ba⟩:∃id,dB[k]? =some id:=⟨_,aH bb⟩;obtain⟨a9,b5,rfl,e9,ef⟩:∃a9 b5,ci=some ⟨a9,b5,none⟩/\a9<(wr:Nat)/\wr.cell? ⟨a9,b5+k,none⟩=some (.int .i64 id):=by obtain⟨du,d8,e,em,_⟩:=ar;cases e;obtain⟨g,o,e,ek,aq⟩:=em di;have:=aq k id ba 0 _ rfl;rw[gY,Nat.add_zero]at this;exact⟨g,o,e,ek,this⟩
   have co:=qZ ba;have cs:=qZ (ajR a8 (dz id (gG ba)));have fg:H<(wr:Nat):=m.rd.box.lt;have c7:CV wr H 7 (.slice F K cf):=m.rd.box.cell 7;obtain⟨ex,bg⟩:=nZ (wr.alloc (.cells #[id] 3));have bw:=aB bg;have az:=aX bg;have dn:=(m.rd.dU bw).rs.runs (by have:=T.2.2;omega);have ck:=qZ (YR dn (by have:=T.2.2;omega) 147 (wr:Nat) (λy=>y.id==id) (λ_ _=>kZ) (λy W X J=>afw y id (wr:Nat) W X (aM az.lt J.size) ((az.below J az.lt).cell 0)) ex (aJ _ _));have am:=qZ (aC bw az);have d7:=qZ bg;clear bb di ar ba bg bw az dn;go_wp2_with fail;refine Eq.mp (dA (λz=>Calls prog _ _ z _) d7.out.symm) ?_;clear c7 ef;refine ck.mono ?_;rintro e I⟨eg,aa⟩;rcases eg with⟨rfl,af⟩|⟨j,au,rfl,b3,_⟩
   .exact absurd af cs
   have cm:=qZ (aA am.1 aa);have an:=qZ m.rd.flt;have Y:=m.rd.dU cm;have fh:H<(I:Nat):=Y.box.lt;have c7:CV I H 7 (.slice F K cf):=Y.box.cell 7;obtain⟨R',e5,cx,dl,ei,b0⟩:=Y.rs.runs (by have:=T.out.2.2;omega);rw[cq.out]at cx;cases cx;obtain⟨ao,ax,rfl,ff,da⟩:=sQ dl au;obtain⟨b6,p1,p2,p3,p4,cb,p6,cc,cd,ce,b7,b8,b9,ca⟩:=da I (aJ _ _);have fc:(j:Int)<(K:Int):=by have:=cq.out;omega
   have dk:POk (toP rl[j]):=(T.1.kR (toP rl[j]) (fG _ (by rw[<-a8.out];exact bL.2 ⟨eY rl[j],bL.2 ⟨_,bB au,rfl⟩,rfl⟩))).ok;have b2:rl[j].hv.oneCell'=true:=KW (b0 _ (bB au));have a5:=qZ (aC b3 dk);obtain⟨y,ab⟩:=nZ (rl[j]);rw[ab]at b6 p1 p2 p3 p4 cb p6 cc cd ce b7 b8 b9 ca a5 b2;obtain⟨ey,fj,e0,cy⟩:∃A n c,y.hv=.slice A n c:=by obtain⟨A,c,e,_⟩:=b0 _ (bB au);rw[ab]at e;exact⟨_,_,_,e⟩
   obtain⟨O,bf⟩:=nZ (I.alloc (.cells (sW y) 86));have bv:=aB bf;have ds:Blk O I 86 (sW y):=by rw[<-bf];exact Blk.new _ _ _
   have bl:=qZ (aA cm bv);have Z:=qZ (m.rd.dU bl);have bm:=qZ ((am.2.below aa am.2.lt).below bv (aM am.2.lt (Below.size aa)));have a0:=qY (∀W,aF O W->Calls prog 108 #[ay,.agg (eP (toP y))] W λe w'=>agf (oI (toP y) ps) W e w') (λW J=>SC Z.ps (by have:=m.lens.1;have:=T.1.len.1;show ps.length<=_;omega) (toP y) W J);have u:=qZ ds;have ct:=qZ bf;have cp:=qY (∀bj cg al,nE L ai bj H v1 v2 ah cg (.slice (some ⟨ao,ax,none⟩) K cf) al s rl {x with ps:=oI (toP y) ps,ev:=ev++[⟨2,id,0⟩]}->aO (mF H (.slice (some ⟨ao,ax,none⟩) K cf) ag) wr bj->(∀b,al.ownBlock=some b->ag.ownBlock=some b\/(wr:Nat)<=b)->abp L ai w bj H v1 v2 ah (.slice (some ⟨ao,ax,none⟩) K cf) ad s rl x dB cg al (oI (toP y) ps) (ev++[⟨2,id,0⟩]) (k+1)) (λbj cg al X bp bq=>m.next co (r:=y) (by rw[<-ab];exact b3) X bp bq a5.2);obtain⟨Q,bt⟩:=nZ (oI (toP y) ps);rw[bt]at a0 cp;have cr:=qY (Q.length<=100000/\∀p∈Q,POk p) (by
    rw[<-bt];refine⟨by rw[VN];have:=m.lens.1;have:=T.1.len.1;omega,λp av=>?_⟩;rcases MC _ _ _ av with rfl|av
    .exact a5.2
    .exact m.ok p av)
   have dx:=qY (ev.length<=1000000) (by have:=m.lens.2;have:=T.2.1;omega);clear b3 dk da dl ei b0 Y aa ck am cs ab bf bv ds co bt au a5 m;obtain⟨a,b,c,⟨d,e,f⟩,g,h,i,ep,eq,st,l,aQ,hv⟩:=y;simp only at cy;subst cy;simp only[sW,toP,eP]at b6 p1 p2 p3 p4 cb p6 cc cd ce b7 b8 b9 ca b2 a0 u ct;go_wp2_with fail;rw[ct.out];clear b6 p1 p2 p3 p4 cb p6 cc cd ce b7 b8 b9 ca c7 b2;have c6:∀W,aF O W->CV W H 6 ay/\CI W I 0 a/\CI W I 1 b/\CI W I 2 c/\CI W I 3 d/\CI W I 4 e/\CI W I 5 f/\CI W I 6 g/\CI W I 7 h/\CI W I 8 i/\CI W I 9 ep/\CI W I 10 eq:=λW J=>⟨(Z.box.below J Z.box.lt).cell 6,(u.below J u.out.lt).cell 0,(u.below J u.out.lt).cell 1,(u.below J u.out.lt).cell 2,(u.below J u.out.lt).cell 3,(u.below J u.out.lt).cell 4,(u.below J u.out.lt).cell 5,(u.below J u.out.lt).cell 6,(u.below J u.out.lt).cell 7,(u.below J u.out.lt).cell 8,(u.below J u.out.lt).cell 9,(u.below J u.out.lt).cell 10⟩;refine iT (aF O) 14 (.take 0 (.take 1 (.take 2 (.take 3 (.take 4 (.take 5 (.take 6 (.take 7 (.take 8 (.take 9 (.take 10 (.take 11 (.take 12 (.one 13 .done)))))))))))))) kZ kZ (aF.drew O) ?_;(iterate 13 refine tT ?_);clear c6;refine eT ?_;refine tC ?_;refine(a0 _ (aF.drew O)).mono ?_;rintro eb bi⟨et,rfl,bd,c0⟩;have aw:aF O bi:=aA (aF.drew O) c0;refine⟨et,rfl,aw,?_⟩;have bc:=Z.dU aw;have b1:=bd.lt;have eo:O.drew.heap.size=(O:Nat):=rfl;have de:=Z.flt;obtain⟨ap,ak⟩:=bc.atC (BJ bd cr.2) (λ_ b M ae=>by
    have:=(b1 b M).1;have:=de b ae;omega) (λ_ b M=>by
    have X:=(b1 b M).1;have bp:=Z.lw;have bq:=Z.on.size;omega)
   obtain⟨dv,er,c5,rfl⟩:=bd.sA;have es:CV bi H 6 ay:=bc.box.cell 6;have ed:bi.frozen? (H,6)=false:=bc.box.frozen 6;have dt:=bm.below aw bm.out.lt;have dj:¬mF H (.slice (some ⟨ao,ax,none⟩) K cf) ag (wr:Nat):=λae=>by have:=an.out _ ae;omega
   have ch:=dt.bD ak dj;have bk:=qZ (MJ ap dx 2 id 0);have en:=bl.size;have bo:=qZ ((aO.bS (F:=mF H (.slice (some ⟨ao,ax,none⟩) K cf) ag) (aA bl aw)).trans ak);obtain⟨eu,b4⟩:=nZ (bi.setCell (H,6) (.slice dv er c5));rw[b4]at bk ch bo;have cu:=qZ b4;have cv:=qZ ch;clear dj ch ap ak b4 dt bd b1 eo de bc c0 aw en a0 u bm Z cr;refine fZ ?_;show wpList prog _ _ (List.drop 14 _) _ _;simp only[bH,bJ];go_upto_region 6 with fail;rw[cu.out];clear es ed cu;have d9:CI eu wr 0 id:=cv.cell 0;go_wp2_with fail;refine bk.mono ?_;rintro eb ew⟨rfl,al,cz,dq,dr⟩;have d0:=qZ (cp ew _ al cz (bo.out.trans dq) (λb M=>by
    rcases dr b M with X|X
    .exact .inl X
    .exact .inr (aV bo.size X)))
   clear cz dq dr bk d9 cv;go_wp2_with fail;go_roundg(N-(k+1));case measure=>omega
   case rel=>exact⟨k+1,_,_,_,_,mZ,oZ,oZ,d0⟩
  .have el:¬(k:Int)<(N:Int):=oZ;obtain rfl:k=N:=by omega
   have ar:=vO aj.1 m.bD aj.2;have c7:CV wr H 7 (.slice F K cf):=m.rd.box.cell 7;have dp:=m.rd.rs.runs (by have:=T.2.2;omega);have cl:=qY (Calls prog 79 #[.slice F K cf,.slice ci k ea] wr λe w'=>SQ (dK x.rs dB) wr e w') (by have:=yV dp (aqe T.1 a8) ar (by rw[bn.out];omega) wr (aJ _ _);rw[a8.out]at this;exact this);have an:=qZ m.rd.flt;have cn:=qY (cw={x with ps:=ps,ev:=ev,rs:=dK x.rs dB}) (by rw[<-d6.out];have:=m.eq;rw[aT (by rw[bn.out];omega)]at this;unfold lM;rw[this]);clear ar dp;go_wp2_with fail;refine cl.mono ?_;rintro e I⟨v',fm,rfl,be,dh,aa,bz⟩;have Y:=m.rd.dU aa;obtain⟨du,fi,d8,rfl⟩:=be.1.sA;obtain⟨ap,ak⟩:=Y.axg be dh m.rd.on.size an (λb af M=>by
    obtain⟨c,aq,fe⟩:=YU m.rd.ps af;rw[M]at aq;injection aq with aq;omega) (λy ab af b M ae=>by
    have:=bz y ab af b M;have:=an.out b ae;omega) (λy ab af b M=>by
    have X:=bz y ab af b M;have bp:=m.rd.lw;have bq:=m.rd.on.size;omega)
   have fl:CV I H 7 (.slice F K cf):=Y.box.cell 7;have e8:I.frozen? (H,7)=false:=Y.box.frozen 7;have dw:=qY (pX L ai w H v1 v2 ah (.slice F K cf) ad s cw _) (by
    rw[cn.out];refine⟨_,_,_,_,ap,m.bD.trans' ((aO.bS (F:=mF H (.slice F K cf) ag) aa).trans ak) λi hi ae=>?_,λi hi=>?_⟩
    .rcases m.out.grown i ae with h|h
     .exact h
     .omega
    .rcases hi with hi|hi|hi
     .exact .inl (.inl hi)
     .exact .inr (aV m.bD.size (be.1.lt i hi).1)
     .exact m.grown i (.inr (.inr hi)))
   clear c7 ap ak Y be dh aa bz cl m cn an;go_wp2_with fail
   go_end0
   exact⟨rfl,dw⟩
end bU
variable{b1 b2 j m:Nat}{u1 u2 uh:Value}{u w1:World}
namespace bU
open Go Go.RowKit L bM eZ Srt
theorem nel:Elem oP 11:=⟨λ_=>rfl,λx u a=>by simp only[oP,bA,dS,or_false]at a;rcases a with rfl|rfl|rfl|rfl|rfl|rfl|rfl|rfl|rfl|rfl|rfl<;>rfl⟩
theorem hel:Elem hdec 6:=⟨λ_=>rfl,λx u a=>by simp only[hdec,bA,dS,or_false]at a;rcases a with rfl|rfl|rfl|rfl|rfl|rfl<;>rfl⟩
theorem fel:Elem oL 1:=⟨λ_=>rfl,λx u a=>by simp only[oL,bA,dS,or_false]at a;rcases a with rfl;rfl⟩
theorem ado:(prog.info? 66).map (λi=>(i.zero,i.size,i.bytes))=some (some (.agg #[(),(),(),(),(),(),(),(),(),(),()]),11,88):=by kernel_rfl
theorem hinfo:(prog.info? 131).map (λi=>(i.zero,i.size,i.bytes))=some (some (.agg #[(),(),(),(),(),()]),6,48):=by kernel_rfl
theorem ahU:(prog.info? 63).map (λi=>(i.zero,i.size,i.bytes))=some (some (.int .u64 0),1,8):=by kernel_rfl
def cut(w:World)(m:Nat):World:={w with heap:=w.heap.extract 0 m}
theorem WL(h:m<=(w:Nat)):(cut w m).heap.size=m:=by show(w.heap.extract 0 m).size=m;rw[Array.size_extract];omega
theorem anD(hi:i<m):(cut w m).heap[i]? =w.heap[i]? :=by
 show(w.heap.extract 0 m)[i]? =w.heap[i]?;rw[Array.getElem?_extract];rw[aU];split
 .rfl
 .rename_i h;rw[gH oZ]
theorem anC(h:m<=(w:Nat)):Below (cut w m).heap.size (cut w m) w:=
 ⟨rfl,rfl,rfl,by rw[WL h];exact h,λi hi=>by rw[WL h]at hi;exact(anD hi).symm⟩
theorem YN{B:Nat}{xs:List kL}(h:bQ w B 66 11 oP v xs):Nodes w v xs:=by
 obtain⟨A,cap,e,a⟩:=h.sl (λ_=>rfl);refine⟨A,cap,e,a,?_⟩;rcases h.form with⟨_,rfl⟩|⟨_,_,_,_,_,b,c⟩
 .exact bK _
 .omega
theorem YO{B:Nat}{xs:List gW}(h:bQ w B 131 6 hdec v xs):JK w v xs:=by
 obtain⟨A,cap,e,a⟩:=h.sl (λ_=>rfl);refine⟨A,cap,e,a,?_⟩;rcases h.form with⟨_,rfl⟩|⟨_,_,_,_,_,b,c⟩
 .exact bK _
 .omega
theorem VH{B:Nat}{xs:List Nat}(h:bQ w B 63 1 oL v xs)(b:∀k∈xs,k<=Fix.top):FSl w v xs:=by
 obtain⟨A,cap,e,a⟩:=h.sl (λ_=>rfl);refine⟨A,cap,e,a,?_,b⟩;rcases h.form with⟨_,rfl⟩|⟨_,_,_,_,_,c,d⟩
 .exact bK _
 .omega
theorem iO{α:Type}{B:Nat}{E:TypeId}{dec:α->List Value}{xs:List α}(h:bQ w B E k dec v xs):∃A n c,v=.slice A n c:=by rcases h.form with⟨e,_⟩|⟨g,cap,e,_⟩<;>exact⟨_,_,_,e⟩
theorem ahN(w:World):ISl w (.slice none 0 0) []:=⟨none,0,rfl,λh=>absurd rfl h,bK _⟩
structure OwnAt (w1 wm w':World) (v1 v2 vp vr vh:Value) (s:Top.S) (rl:List Run):Prop where
 low:(w1:Nat)<=(wm:Nat)
 cfg:bX wm (.agg #[v1,v2,s.c.aI,s.c.aK]) s.c
 ps:PSl wm vp s.ps
 h:FSl wm vh s.h
 rs:kU w' (wm:Nat) vr rl
 map:rl.map eY=s.rs
 fresh:NZ (wm:Nat) rl
 on:Below wm wm w'
 old:Below w1 w1 w'
 f1:∀b,v1.ownBlock=some b->(w1:Nat)<=b
 f2:∀b,v2.ownBlock=some b->(w1:Nat)<=b
 fp:∀b,vp.ownBlock=some b->(w1:Nat)<=b
 fh:∀b,vh.ownBlock=some b->(w1:Nat)<=b
def aok(s:Top.S)(w1:World)(e:Ending)(w':World):Prop:=∃v1 v2 vp vr vh rl wm,e=.returned (stv v1 v2 vp vr vh s)/\OwnAt w1 wm w' v1 v2 vp vr vh s rl
theorem amn{v wc:World}{Q:Value}(c:bQ w n 66 11 oP v1 s.c.aP)(f:bQ v m 131 6 hdec v2 s.c.aQ)(r:bQ wc j 44 11 gK vp s.ps)(a:bQ W l 63 1 oL Q s.h)(K:kU u (W:Nat) vr rl)(ab:rl.map eY=s.rs)(I:NZ (W:Nat) rl)(aj:(w1:Nat)<=b1)(ak:b1<b2)(T:b2<n)(X:b2<m)(Y:b2<j)(Z:b2<l)(an:b2<(W:Nat))(ag:aO (λi=>i=b1\/i=b2) w v)(N:aO (λi=>i=b1\/i=b2) v wc)(F:aO (λi=>i=b1\/i=b2) wc W)(ai:aO (λi=>i=b1\/i=b2) W u)(O:aO (λi=>i=b1\/i=b2) u w')(M:aO (λi=>i=b1\/i=b2) w1 w)(ad:∀p∈s.ps,POk p)(ae:∀k∈s.h,k<=Fix.top):OwnAt w1 (cut w' (W:Nat)) w' v1 v2 vp vr Q s rl:=by
 have H:=ai.trans O;have L:(W:Nat)<=(w':Nat):=H.size;have z:=WL L;have d:∀(y:World) (B g:Nat),b2<B->B<=g->g<(y:Nat)->aO (λi=>i=b1\/i=b2) y W->(cut w' (W:Nat)).heap[g]? =y.heap[g]? :=λy B g al am o J=>by have aa:g<(W:Nat):=aM o J.size;rw[anD aa];exact((J.trans H).block g o oZ)
 have A:=(ag.trans N).trans F;have ah:=N.trans F;have low:(w1:Nat)<=(W:Nat):=(M.trans A).size;have o:∀b,vr.ownBlock=some b->(W:Nat)<=b/\b<(u:Nat):=K.1.lt;refine⟨by rw[z];exact low,⟨v1,v2,rfl,?_,?_⟩,?_,?_,?_,ab,?_,anC L,?_,λb e=>by have:=(c.lt b e).1;omega,λb e=>by have:=(f.lt b e).1;omega,λb e=>by have:=(r.lt b e).1;omega,λb e=>by have:=(a.lt b e).1;omega⟩
 .exact YN (c.bD λb e=>d w n b T (c.lt b e).1 (c.lt b e).2 A)
 .exact YO (f.bD λb e=>d v m b X (f.lt b e).1 (f.lt b e).2 ah)
 .exact BJ (r.bD λb e=>d wc j b Y (r.lt b e).1 (r.lt b e).2 F) ad
 .exact VH (a.bD λb e=>d W l b Z (a.lt b e).1 (a.lt b e).2 (aO.refl _ _)) ae
 .rw[z];exact oM K O (λb e a=>by have:=(o b e).1;omega) (λx af c b e a=>by have:=I x af c b e;omega)
 .rw[z];exact I
 .exact((M.trans A).trans H).below lZ λi hi=>oZ
theorem aef{up:Value}(h:StR w u1 u2 up X uh s rl)(ok:WW s):∀w1,Below w w w1->Calls prog 47 #[stv u1 u2 up X uh s] w1 λe w'=>aok s w1 e w':=by
 intro w1 bv;replace h:=h.below bv;have b5:=MO h.map (by have:=ok.len;omega) ok.rs (λp k=>ok.kR p (fG _ k));obtain⟨a,u⟩:=nZ ((w1.alloc (.cells #[u1,u2,s.c.aI,s.c.aK,s.aN,s.next,up,X,uh] 31)).alloc (.cells #[true,true,(),(),(),(),true,true,true] 31));have bw:Below w1 w1 a:=by rw[<-u];have cz:(w1.alloc (.cells #[u1,u2,s.c.aI,s.c.aK,s.aN,s.next,up,X,uh] 31)).heap.size=(w1:Nat)+1:=sZ;exact kp
 have ca:(a:Nat)=(w1:Nat)+1+1:=by rw[<-u];simp
 have cc:Blk a w1 31 #[u1,u2,s.c.aI,s.c.aK,s.aN,s.next,up,X,uh]:=by rw[<-u];exact Blk.alloc (Blk.new _ _ _) _
 have cd:Blk a ((w1:Nat)+1) 31 #[true,true,(),(),(),(),true,true,true]:=by rw[<-u];have h:=Blk.new (w1.alloc (.cells #[u1,u2,s.c.aI,s.c.aK,s.aN,s.next,up,X,uh] 31)) 31 #[true,true,(),(),(),(),true,true,true];simp only[bC]at h;exact h
 obtain⟨_,_,ev,⟨J,M,bu,b8,co⟩,⟨I,L,bt,b7,cn⟩⟩:=id h.cfg;obtain⟨rfl,rfl⟩:u1=.slice J s.c.aP.length M/\u2=.slice I s.c.aQ.length L:=by simp only[Value.agg.injEq,eO,cB]at ev;exact⟨ev.1.trans bu,ev.2.1.trans bt⟩
 obtain⟨Z,cf,rfl,b6,cm,b9⟩:=id h.h;obtain⟨Ap,br,rfl,_⟩:=id h.ps;obtain⟨a9,bs,rfl,_⟩:=id h.rs;have bc:=qY (∀W,Below w1 w1 W->Calls prog 75 #[.slice J s.c.aP.length M] W λe w'=>∃v',e=.returned v'/\bQ w' W 66 11 oP v' s.c.aP/\Below W W w') (λW b=>
  wU VW ado rfl oZ Tryz.sizeOf66 nel (w:=W) (show SlK W 11 oP _ s.c.aP from⟨J,M,rfl,b8.below b⟩) (by have:=ok.mild.aP;unfold maxLen;omega) (by have:=ok.mild.aP;omega))
 have bb:=qY (∀W,Below w1 w1 W->Calls prog 76 #[.slice I s.c.aQ.length L] W λe w'=>∃v',e=.returned v'/\bQ w' W 131 6 hdec v' s.c.aQ/\Below W W w') (λW b=>
  wU VX hinfo rfl oZ Tryz.sizeOf131 hel (w:=W) (show SlK W 6 hdec _ s.c.aQ from⟨I,L,rfl,b7.below b⟩) (by have:=ok.mild.aQ;unfold maxLen;omega) (by have:=ok.mild.aQ;omega))
 have bd:=qZ (λW (b:Below w1 w1 W)=>EO h.ps (by have:=ok.len;omega) W b);have ba:=qY (∀W,Below w1 w1 W->Calls prog 78 #[.slice Z s.h.length cf] W λe w'=>∃v',e=.returned v'/\bQ w' W 63 1 oL v' s.h/\Below W W w') (λW b=>
  wU ahK ahU rfl oZ Tryz.sizeOf63 fel (w:=W) (show SlK W 1 oL _ s.h from⟨Z,cf,rfl,b6.below b⟩) (by have:=ok.hlen;unfold maxLen;omega) (by have:=ok.hlen;omega))
 have be:=qY (∀W,Below w1 w1 W->Calls prog 79 #[.slice a9 rl.length bs,true] W λe w'=>SQ s.rs W e w') (λW b=>by have:=yV (h.rs.below b) b5 (ahN W) (bK _) W (aJ _ _);rw[h.map,CG]at this;exact this);have bi:=qZ (aC (λp k=>(ok.kR p (cO _ k)).ok:∀p∈s.ps,POk p) b9);have K:=qZ bw;have ab:=qZ cc;have bn:=qZ cd;have ap:=qZ ca;have cj:=qZ u;generalize s.c.aP.length=nn at*;generalize s.c.aQ.length=nh at*;generalize s.h.length=nf at*;generalize s.ps.length=np at*;generalize rl.length=nr at*;clear h bv b5 u bw ca cc cd ev bu bt b8 co b7 cn b6 cm b9 ok;simp only[stv];go_enter func47,ntmps47;go_wp2_with fail;rw[cj.out];have ck:∀W,aF a W->CV W w1 0 (.slice J nn M):=ab.fa 0;have c1:∀W,aF a W->CV W w1 1 (.slice I nh L):=ab.fa 1;refine iT (aF a) 10 (.take 0 (.take 1 (.take 2 (.take 4 (.take 5 (.take 6 (.one 3 (.take 8 (.take 9 (.one 7 .done)))))))))) kZ kZ (aF.drew a) ?_;(iterate 6 refine tT ?_);clear ck c1;refine eT ?_;refine tC ?_;refine(bc _ (aA K (aF.drew a))).mono ?_;rintro e cb⟨v1,rfl,ax,bz⟩;have o:aF a cb:=aA (aF.drew a) bz;refine⟨v1,rfl,o,?_⟩;(iterate 2 refine tT ?_);refine eT ?_;refine tC ?_;refine(bb _ (aA K o)).mono ?_;rintro e j⟨v2,rfl,aw,ar⟩;have l:aF a j:=aA o ar;refine⟨v2,rfl,l,?_⟩;obtain⟨y,n1,c1,rfl⟩:=iO ax;obtain⟨z,n2,c2,rfl⟩:=iO aw;have T:=ab.below l ab.out.lt;have cq:CV j w1 0 (.slice J nn M):=T.cell 0;have cr:CV j w1 1 (.slice I nh L):=T.cell 1;have ae:∀n,j.frozen? ⟨(w1:Nat),n,none⟩=false:=λn=>T.frozen n;have aj:=Blk.bV (Blk.bV T 0 (.slice y n1 c1)) 1 (.slice z n2 c2);have N:aO (λi=>i=(w1:Nat)\/i=(w1:Nat)+1) j ((j.setCell (w1,0) (.slice y n1 c1)).setCell (w1,1) (.slice z n2 c2)):=((aO.refl _ _).setCell (.inl (.inl rfl)) _).setCell (.inl (.inl rfl)) _;have a5:Blk ((j.setCell (w1,0) (.slice y n1 c1)).setCell (w1,1) (.slice z n2 c2)) ((w1:Nat)+1) 31 #[true,true,(),(),(),(),true,true,true]:=Blk.far (Blk.far (bn.below l bn.out.lt) (by show(w1:Nat)+1≠(w1:Nat);omega) _) (by show(w1:Nat)+1≠(w1:Nat);omega) _;obtain⟨f,az⟩:=nZ ((j.setCell (w1,0) (.slice y n1 c1)).setCell (w1,1) (.slice z n2 c2));rw[az]at aj N a5;simp at aj;have bh:=qZ (aC ax (aO.bS (F:=λi=>i=(w1:Nat)\/i=(w1:Nat)+1) ar));have bg:=qZ (aC aw N);have bj:=qZ (aC (show(w1:Nat)+1<a.drew.heap.size from by show _<(a:Nat);have:=ap.out;omega) (show(w1:Nat)+1<(cb:Nat)from by have:=o.size;have:=ap.out;omega));have ci:=qZ (aO.bS (F:=λi=>i=(w1:Nat)\/i=(w1:Nat)+1) (aA K o));have ad:=qZ aj;have bo:=qZ a5;have aa:=qY (Below w1 w1 f) (((aA K l).trans (N.below (aA K l).size λi hi=>oZ)));have bl:=qZ az;have aq:=qY ((w1:Nat)+1<(f:Nat)) (by have:=N.size;have:=l.size;have:=ap.out;omega);clear ax aw bz ar o l T aj a5 N az bc bb;refine fZ ?_;show wpList prog _ _ (List.drop 10 _) _ _;simp only[bH,bJ];go_upto_region 2 with fail;rw[bl.out];clear cq cr ae bl;have c6:∀W,aF f W->CV W w1 6 (.slice Ap np br)/\CV W w1 8 (.slice Z nf cf):=λW b=>have x:=(ad.below b ad.out.lt);⟨x.cell 6,x.cell 8⟩;refine iT (aF f) 7 (.take 0 (.take 1 (.take 3 (.take 4 (.one 2 (.take 6 (.one 5 .done))))))) kZ kZ (aF.drew f) ?_;(iterate 4 refine tT ?_);clear c6;refine eT ?_;refine tC ?_;refine(bd _ (aA aa (aF.drew f))).mono ?_;rintro e wc⟨vp,rfl,k,b0⟩;have r:aF f wc:=aA (aF.drew f) b0;refine⟨vp,rfl,r,?_⟩;(iterate 1 refine tT ?_);refine eT ?_;refine tC ?_;refine(ba _ (aA aa r)).mono ?_;rintro e g⟨cu,rfl,av,au⟩;have m:aF f g:=aA r au;refine⟨cu,rfl,m,?_⟩;obtain⟨A,O,c3,rfl⟩:=iO k;obtain⟨H,Q,c4,rfl⟩:=iO av;have Y:=ad.below m ad.out.lt;have cs:CV g w1 6 (.slice Ap np br):=Y.cell 6;have ct:CV g w1 8 (.slice Z nf cf):=Y.cell 8;have ae:∀n,g.frozen? ⟨(w1:Nat),n,none⟩=false:=λn=>Y.frozen n;have ak:=Blk.bV (Blk.bV Y 6 (.slice A O c3)) 8 (.slice H Q c4);have ah:aO (λi=>i=(w1:Nat)\/i=(w1:Nat)+1) g ((g.setCell (w1,6) (.slice A O c3)).setCell (w1,8) (.slice H Q c4)):=((aO.refl _ _).setCell (.inl (.inl rfl)) _).setCell (.inl (.inl rfl)) _;have a8:Blk ((g.setCell (w1,6) (.slice A O c3)).setCell (w1,8) (.slice H Q c4)) ((w1:Nat)+1) 31 #[true,true,(),(),(),(),true,true,true]:=Blk.far (Blk.far (bo.below m bo.out.lt) (by show(w1:Nat)+1≠(w1:Nat);omega) _) (by show(w1:Nat)+1≠(w1:Nat);omega) _;obtain⟨ai,ag⟩:=nZ ((g.setCell (w1,6) (.slice A O c3)).setCell (w1,8) (.slice H Q c4));rw[ag]at ak ah a8;simp at ak;have am:=qZ (aC k (aC (aO.bS (F:=λi=>i=(w1:Nat)\/i=(w1:Nat)+1) r) (aO.bS (F:=λi=>i=(w1:Nat)\/i=(w1:Nat)+1) au)));have al:=qZ (aC av (aC ah (show(w1:Nat)+1<(g:Nat)from by have:=m.size;have:=aq.out;omega)));have bk:=qZ (aC (show(w1:Nat)+1<f.drew.heap.size from aq) (show(w1:Nat)+1<(wc:Nat)from by have:=r.size;have:=aq.out;omega));have ao:=qZ ak;have bp:=qZ a8;have cg:=qY (Below w1 w1 ai) (((aA aa m).trans (ah.below (aA aa m).size λi hi=>oZ)));have bm:=qZ ag;have bq:=qY ((g:Nat)=(ai:Nat)) (by rw[<-ag];simp);clear k av b0 au r m Y ak a8 ah ag bd ba;refine fZ ?_;show wpList prog _ _ (List.drop 7 _) _ _;simp only[bH,bJ];go_upto_region 3 with fail;rw[bm.out];clear cs ct ae bm;have c7:CV ai w1 7 (.slice a9 nr bs):=ao.cell 7;have bf:=qZ (be ai cg);clear be;go_wp2_with fail;refine bf.mono ?_;rintro e c⟨vr,c0,rfl,ay,b4,af,b3⟩;obtain⟨ce,cp,c5,rfl⟩:=iO ay.1;have a0:=ao.below af ao.out.lt;have d:=bp.below af bp.out.lt;obtain⟨cv,e1,e2,e3,e4,cw,e6,e7,cx⟩:=a0.c9;have ae:∀n,c.frozen? ⟨(w1:Nat),n,none⟩=false:=λn=>a0.frozen n;have cy:∀n,c.frozen? ⟨(w1:Nat)+1,n,none⟩=false:=λn=>d.frozen n;have cl:CV c ((w1:Nat)+1) 0 (.slice none 0 0)/\CV c ((w1:Nat)+1) 1 (.slice none 0 0)/\CI c ((w1:Nat)+1) 2 0/\CI c ((w1:Nat)+1) 3 0/\CI c ((w1:Nat)+1) 4 0/\CI c ((w1:Nat)+1) 5 0/\CV c ((w1:Nat)+1) 6 (.slice none 0 0)/\CV c ((w1:Nat)+1) 7 (.slice none 0 0)/\CV c ((w1:Nat)+1) 8 (.slice none 0 0):=
  ⟨d.cell 0,d.cell 1,d.cell 2,d.cell 3,d.cell 4,d.cell 5,d.cell 6,d.cell 7,d.cell 8⟩
 have an:=qZ (aC ay (aC b4 b3));have ch:=qZ af;clear a0 d ay b4 b3 af bf c7;go_wp2_with fail;refine bodyPost_ret (v:=.agg #[.slice y n1 c1,.slice z n2 c2,s.c.aI,s.c.aK,s.aN,s.next,.slice A O c3,.slice ce cp c5,.slice H Q c4]) (by simp[results,Tryz.results47,go_sem,cl]) rfl ?_;refine⟨_,_,_,_,_,_,_,rfl,amn (b1:=(w1:Nat)) (b2:=(w1:Nat)+1) bh.1 bg.1 am.1 al.1 (by rw[bq.out];exact an.1) an.2.1 (by rw[bq.out];exact an.2.2) lZ (Nat.lt_succ_self _) bj.1 bj.2 bk.1 bk.2 al.2.2 bh.2 (bg.2.trans am.2.1) am.2.2 (al.2.1.trans (aO.bS ch)) ?_ ci bi.1 bi.2⟩;(repeat refine aO.setCell ?_ sZ _);exact aO.refl _ _
theorem aqx{up:Value}(h:StR w u1 u2 up X uh s rl)(ok:WW s):∀w1,Below w w w1->Calls prog 34 #[stv u1 u2 up X uh s] w1 λe w'=>aok s w1 e w':=by
 intro w1 bv;replace h:=h.below bv;have b5:=MO h.map (by have:=ok.len;omega) ok.rs (λp k=>ok.kR p (fG _ k));obtain⟨a,u⟩:=nZ ((w1.alloc (.cells #[u1,u2,s.c.aI,s.c.aK,s.aN,s.next,up,X,uh] 31)).alloc (.cells #[true,true,(),(),(),(),true,true,true] 31));have bw:Below w1 w1 a:=by rw[<-u];have cz:(w1.alloc (.cells #[u1,u2,s.c.aI,s.c.aK,s.aN,s.next,up,X,uh] 31)).heap.size=(w1:Nat)+1:=sZ;exact kp
 have ca:(a:Nat)=(w1:Nat)+1+1:=by rw[<-u];simp
 have cc:Blk a w1 31 #[u1,u2,s.c.aI,s.c.aK,s.aN,s.next,up,X,uh]:=by rw[<-u];exact Blk.alloc (Blk.new _ _ _) _
 have cd:Blk a ((w1:Nat)+1) 31 #[true,true,(),(),(),(),true,true,true]:=by rw[<-u];have h:=Blk.new (w1.alloc (.cells #[u1,u2,s.c.aI,s.c.aK,s.aN,s.next,up,X,uh] 31)) 31 #[true,true,(),(),(),(),true,true,true];simp only[bC]at h;exact h
 obtain⟨_,_,ev,⟨J,M,bu,b8,co⟩,⟨I,L,bt,b7,cn⟩⟩:=id h.cfg;obtain⟨rfl,rfl⟩:u1=.slice J s.c.aP.length M/\u2=.slice I s.c.aQ.length L:=by simp only[Value.agg.injEq,eO,cB]at ev;exact⟨ev.1.trans bu,ev.2.1.trans bt⟩
 obtain⟨Z,cf,rfl,b6,cm,b9⟩:=id h.h;obtain⟨Ap,br,rfl,_⟩:=id h.ps;obtain⟨a9,bs,rfl,_⟩:=id h.rs;have bc:=qY (∀W,Below w1 w1 W->Calls prog 75 #[.slice J s.c.aP.length M] W λe w'=>∃v',e=.returned v'/\bQ w' W 66 11 oP v' s.c.aP/\Below W W w') (λW b=>
  wU VW ado rfl oZ Tryz.sizeOf66 nel (w:=W) (show SlK W 11 oP _ s.c.aP from⟨J,M,rfl,b8.below b⟩) (by have:=ok.mild.aP;unfold maxLen;omega) (by have:=ok.mild.aP;omega))
 have bb:=qY (∀W,Below w1 w1 W->Calls prog 76 #[.slice I s.c.aQ.length L] W λe w'=>∃v',e=.returned v'/\bQ w' W 131 6 hdec v' s.c.aQ/\Below W W w') (λW b=>
  wU VX hinfo rfl oZ Tryz.sizeOf131 hel (w:=W) (show SlK W 6 hdec _ s.c.aQ from⟨I,L,rfl,b7.below b⟩) (by have:=ok.mild.aQ;unfold maxLen;omega) (by have:=ok.mild.aQ;omega))
 have bd:=qZ (λW (b:Below w1 w1 W)=>EO h.ps (by have:=ok.len;omega) W b);have ba:=qY (∀W,Below w1 w1 W->Calls prog 78 #[.slice Z s.h.length cf] W λe w'=>∃v',e=.returned v'/\bQ w' W 63 1 oL v' s.h/\Below W W w') (λW b=>
  wU ahK ahU rfl oZ Tryz.sizeOf63 fel (w:=W) (show SlK W 1 oL _ s.h from⟨Z,cf,rfl,b6.below b⟩) (by have:=ok.hlen;unfold maxLen;omega) (by have:=ok.hlen;omega))
 have be:=qY (∀W,Below w1 w1 W->Calls prog 79 #[.slice a9 rl.length bs,true] W λe w'=>SQ s.rs W e w') (λW b=>by have:=yV (h.rs.below b) b5 (ahN W) (bK _) W (aJ _ _);rw[h.map,CG]at this;exact this);have bi:=qZ (aC (λp k=>(ok.kR p (cO _ k)).ok:∀p∈s.ps,POk p) b9);have K:=qZ bw;have ab:=qZ cc;have bn:=qZ cd;have ap:=qZ ca;have cj:=qZ u;generalize s.c.aP.length=nn at*;generalize s.c.aQ.length=nh at*;generalize s.h.length=nf at*;generalize s.ps.length=np at*;generalize rl.length=nr at*;clear h bv b5 u bw ca cc cd ev bu bt b8 co b7 cn b6 cm b9 ok;simp only[stv];go_enter func34,ntmps34;go_wp2_with fail;rw[cj.out];have ck:∀W,aF a W->CV W w1 0 (.slice J nn M):=ab.fa 0;have c1:∀W,aF a W->CV W w1 1 (.slice I nh L):=ab.fa 1;refine iT (aF a) 10 (.take 0 (.take 1 (.take 2 (.take 4 (.take 5 (.take 6 (.one 3 (.take 8 (.take 9 (.one 7 .done)))))))))) kZ kZ (aF.drew a) ?_;(iterate 6 refine tT ?_);clear ck c1;refine eT ?_;refine tC ?_;refine(bc _ (aA K (aF.drew a))).mono ?_;rintro e cb⟨v1,rfl,ax,bz⟩;have o:aF a cb:=aA (aF.drew a) bz;refine⟨v1,rfl,o,?_⟩;(iterate 2 refine tT ?_);refine eT ?_;refine tC ?_;refine(bb _ (aA K o)).mono ?_;rintro e j⟨v2,rfl,aw,ar⟩;have l:aF a j:=aA o ar;refine⟨v2,rfl,l,?_⟩;obtain⟨y,n1,c1,rfl⟩:=iO ax;obtain⟨z,n2,c2,rfl⟩:=iO aw;have T:=ab.below l ab.out.lt;have cq:CV j w1 0 (.slice J nn M):=T.cell 0;have cr:CV j w1 1 (.slice I nh L):=T.cell 1;have ae:∀n,j.frozen? ⟨(w1:Nat),n,none⟩=false:=λn=>T.frozen n;have aj:=Blk.bV (Blk.bV T 0 (.slice y n1 c1)) 1 (.slice z n2 c2);have N:aO (λi=>i=(w1:Nat)\/i=(w1:Nat)+1) j ((j.setCell (w1,0) (.slice y n1 c1)).setCell (w1,1) (.slice z n2 c2)):=((aO.refl _ _).setCell (.inl (.inl rfl)) _).setCell (.inl (.inl rfl)) _;have a5:Blk ((j.setCell (w1,0) (.slice y n1 c1)).setCell (w1,1) (.slice z n2 c2)) ((w1:Nat)+1) 31 #[true,true,(),(),(),(),true,true,true]:=Blk.far (Blk.far (bn.below l bn.out.lt) (by show(w1:Nat)+1≠(w1:Nat);omega) _) (by show(w1:Nat)+1≠(w1:Nat);omega) _;obtain⟨f,az⟩:=nZ ((j.setCell (w1,0) (.slice y n1 c1)).setCell (w1,1) (.slice z n2 c2));rw[az]at aj N a5;simp at aj;have bh:=qZ (aC ax (aO.bS (F:=λi=>i=(w1:Nat)\/i=(w1:Nat)+1) ar));have bg:=qZ (aC aw N);have bj:=qZ (aC (show(w1:Nat)+1<a.drew.heap.size from by show _<(a:Nat);have:=ap.out;omega) (show(w1:Nat)+1<(cb:Nat)from by have:=o.size;have:=ap.out;omega));have ci:=qZ (aO.bS (F:=λi=>i=(w1:Nat)\/i=(w1:Nat)+1) (aA K o));have ad:=qZ aj;have bo:=qZ a5;have aa:=qY (Below w1 w1 f) (((aA K l).trans (N.below (aA K l).size λi hi=>oZ)));have bl:=qZ az;have aq:=qY ((w1:Nat)+1<(f:Nat)) (by have:=N.size;have:=l.size;have:=ap.out;omega);clear ax aw bz ar o l T aj a5 N az bc bb;refine fZ ?_;show wpList prog _ _ (List.drop 10 _) _ _;simp only[bH,bJ];go_upto_region 2 with fail;rw[bl.out];clear cq cr ae bl;have c6:∀W,aF f W->CV W w1 6 (.slice Ap np br)/\CV W w1 8 (.slice Z nf cf):=λW b=>have x:=(ad.below b ad.out.lt);⟨x.cell 6,x.cell 8⟩;refine iT (aF f) 7 (.take 0 (.take 1 (.take 3 (.take 4 (.one 2 (.take 6 (.one 5 .done))))))) kZ kZ (aF.drew f) ?_;(iterate 4 refine tT ?_);clear c6;refine eT ?_;refine tC ?_;refine(bd _ (aA aa (aF.drew f))).mono ?_;rintro e wc⟨vp,rfl,k,b0⟩;have r:aF f wc:=aA (aF.drew f) b0;refine⟨vp,rfl,r,?_⟩;(iterate 1 refine tT ?_);refine eT ?_;refine tC ?_;refine(ba _ (aA aa r)).mono ?_;rintro e g⟨cu,rfl,av,au⟩;have m:aF f g:=aA r au;refine⟨cu,rfl,m,?_⟩;obtain⟨A,O,c3,rfl⟩:=iO k;obtain⟨H,Q,c4,rfl⟩:=iO av;have Y:=ad.below m ad.out.lt;have cs:CV g w1 6 (.slice Ap np br):=Y.cell 6;have ct:CV g w1 8 (.slice Z nf cf):=Y.cell 8;have ae:∀n,g.frozen? ⟨(w1:Nat),n,none⟩=false:=λn=>Y.frozen n;have ak:=Blk.bV (Blk.bV Y 6 (.slice A O c3)) 8 (.slice H Q c4);have ah:aO (λi=>i=(w1:Nat)\/i=(w1:Nat)+1) g ((g.setCell (w1,6) (.slice A O c3)).setCell (w1,8) (.slice H Q c4)):=((aO.refl _ _).setCell (.inl (.inl rfl)) _).setCell (.inl (.inl rfl)) _;have a8:Blk ((g.setCell (w1,6) (.slice A O c3)).setCell (w1,8) (.slice H Q c4)) ((w1:Nat)+1) 31 #[true,true,(),(),(),(),true,true,true]:=Blk.far (Blk.far (bo.below m bo.out.lt) (by show(w1:Nat)+1≠(w1:Nat);omega) _) (by show(w1:Nat)+1≠(w1:Nat);omega) _;obtain⟨ai,ag⟩:=nZ ((g.setCell (w1,6) (.slice A O c3)).setCell (w1,8) (.slice H Q c4));rw[ag]at ak ah a8;simp at ak;have am:=qZ (aC k (aC (aO.bS (F:=λi=>i=(w1:Nat)\/i=(w1:Nat)+1) r) (aO.bS (F:=λi=>i=(w1:Nat)\/i=(w1:Nat)+1) au)));have al:=qZ (aC av (aC ah (show(w1:Nat)+1<(g:Nat)from by have:=m.size;have:=aq.out;omega)));have bk:=qZ (aC (show(w1:Nat)+1<f.drew.heap.size from aq) (show(w1:Nat)+1<(wc:Nat)from by have:=r.size;have:=aq.out;omega));have ao:=qZ ak;have bp:=qZ a8;have cg:=qY (Below w1 w1 ai) (((aA aa m).trans (ah.below (aA aa m).size λi hi=>oZ)));have bm:=qZ ag;have bq:=qY ((g:Nat)=(ai:Nat)) (by rw[<-ag];simp);clear k av b0 au r m Y ak a8 ah ag bd ba;refine fZ ?_;show wpList prog _ _ (List.drop 7 _) _ _;simp only[bH,bJ];go_upto_region 3 with fail;rw[bm.out];clear cs ct ae bm;have c7:CV ai w1 7 (.slice a9 nr bs):=ao.cell 7;have bf:=qZ (be ai cg);clear be;go_wp2_with fail;refine bf.mono ?_;rintro e c⟨vr,c0,rfl,ay,b4,af,b3⟩;obtain⟨ce,cp,c5,rfl⟩:=iO ay.1;have a0:=ao.below af ao.out.lt;have d:=bp.below af bp.out.lt;obtain⟨cv,e1,e2,e3,e4,cw,e6,e7,cx⟩:=a0.c9;have ae:∀n,c.frozen? ⟨(w1:Nat),n,none⟩=false:=λn=>a0.frozen n;have cy:∀n,c.frozen? ⟨(w1:Nat)+1,n,none⟩=false:=λn=>d.frozen n;have cl:CV c ((w1:Nat)+1) 0 (.slice none 0 0)/\CV c ((w1:Nat)+1) 1 (.slice none 0 0)/\CI c ((w1:Nat)+1) 2 0/\CI c ((w1:Nat)+1) 3 0/\CI c ((w1:Nat)+1) 4 0/\CI c ((w1:Nat)+1) 5 0/\CV c ((w1:Nat)+1) 6 (.slice none 0 0)/\CV c ((w1:Nat)+1) 7 (.slice none 0 0)/\CV c ((w1:Nat)+1) 8 (.slice none 0 0):=
  ⟨d.cell 0,d.cell 1,d.cell 2,d.cell 3,d.cell 4,d.cell 5,d.cell 6,d.cell 7,d.cell 8⟩
 have an:=qZ (aC ay (aC b4 b3));have ch:=qZ af;clear a0 d ay b4 b3 af bf c7;go_wp2_with fail;refine bodyPost_ret (v:=.agg #[.slice y n1 c1,.slice z n2 c2,s.c.aI,s.c.aK,s.aN,s.next,.slice A O c3,.slice ce cp c5,.slice H Q c4]) (by simp[results,Tryz.results34,go_sem,cl]) rfl ?_;refine⟨_,_,_,_,_,_,_,rfl,amn (b1:=(w1:Nat)) (b2:=(w1:Nat)+1) bh.1 bg.1 am.1 al.1 (by rw[bq.out];exact an.1) an.2.1 (by rw[bq.out];exact an.2.2) lZ (Nat.lt_succ_self _) bj.1 bj.2 bk.1 bk.2 al.2.2 bh.2 (bg.2.trans am.2.1) am.2.2 (al.2.1.trans (aO.bS ch)) ?_ ci bi.1 bi.2⟩;(repeat refine aO.setCell ?_ sZ _);exact aO.refl _ _
end bU
variable{aK:Int}
namespace Srt
open Go Go.RowKit Go.Sort L bM eZ
theorem kT.axt{α β:Type}{f:α->α->Int}(d:jE f){g:β->α}{l l':List β}(h:kT (λa b=>f (g a) (g b)) l l'):kT f (l.map g) (l'.map g):=λx=>by
 rw[List.filter_map,List.filter_map];congr 1;by_cases c:∃y,f x (g y)=0
 .obtain⟨y,i⟩:=c;have e:((λz=>f x z==0)∘g)=λz=>f (g y) (g z)==0:=by funext z;show(f x (g z)==0)=_;rw[d.eq_left (g z) i]
  rw[e];exact h y
 .have e:((λz=>f x z==0)∘g)=λ_=>false:=by funext z;show(f x (g z)==0)=false;rw[beq_eq_false_iff_ne];exactλe=>c ⟨z,e⟩
  rw[e,kX.2 (λ_ _ h=>by cases h),kX.2 (λ_ _ h=>by cases h)]
theorem sorted_put(c:Cfg.C)(h:List Nat)(aN:Int)(qs:List PO):(sorted c h aN qs).toList.map (·.1)=vL (Ord.cmp c h aN) (qs.map (·.1)):=by
 have f:jE (abj c h aN):=(yC c h aN).pull (λx:PO=>x.1);have F:=yR (yC c h aN) (qs.map (·.1)) [] List.Pairwise.nil;have a:=yR f qs [] List.Pairwise.nil;have e:=agI f qs;have e2:sorted c h aN qs=Sort.insertionSort (ltOf (abj c h aN)) qs.toArray 0 qs.length:=rfl;rw[e2,<-e];refine IJ (yC c h aN) ?_ F.1 ?_
 .exact List.Pairwise.map (λx:PO=>x.1) (λx y h=>h) a.1
 .have b:=F.2;have d:=a.2;rw[List.nil_append]at b d;exact(kT.axt (yC c h aN) d).symm.trans b
theorem aiG{qs:List PO}{d:Array PO}(h:aik w w' qs d v)(b:d.size=qs.length):SlK w' 11 gK v (d.toList.map (·.1)):=by
 rcases h with⟨rfl,rfl⟩|⟨g,cap,rfl,n,_,p⟩
 .have:d=#[]:=Array.eq_empty_of_size_eq_zero b;subst this;exact⟨none,0,rfl,λe=>absurd rfl e⟩
 .refine⟨some ⟨g,0,none⟩,cap,by simp[b],λ_=>⟨g,0,rfl,p,λi x k j u f=>?_⟩⟩;have hi:i<d.size:=by have:=(bE.1 k).1;simpa using this
  have o:j<11:=(bE.1 f).1;have a:=(n.cell (i:=i) (c:=j) hi o).1;have r:x=(d[i]!).1:=by rw[dF d i hi];simpa[hi]using k.symm
  subst r;have l:(qP d[i]!)[j]! =u:=by have m:(qP d[i]!)[j]? =some u:=f;rw[getElem!_def,m]
  rw[l]at a;rw[aU];rw[aU]at a;exact a
end Srt
namespace eZ
open Go Go.RowKit Go.Sort L bM Srt
theorem agz(c:Cfg.C)(h:List Nat)(aN:Int)(qs:List PO):(sorted c h aN qs).size=qs.length:=by have:=(SG (f:=abj c h aN) ((yC c h aN).pull λx:PO=>x.1) qs.toArray (bK qs.length) sZ).size;simpa[sorted]using this
end eZ
namespace bU
open Go Go.RowKit L bM eZ Srt
theorem aqa(A:Option Addr)(c:Nat)(g:Nat)(a:Array Value)(w:World):Calls prog 202 #[.slice A 0 c,(),(),.func (.func g) #[] a] w λe w'=>e=.returned (.tuple #[])/\w'=w:=by
 go_enter func202,ntmps202;go_wp2_with fail;refine wp_loop_rounds 1 ?_;rw[rounds_succ];go_wp2_with fail
 go_end0
 exact⟨rfl,rfl⟩
theorem agx(A:Option Addr)(c:Nat)(g:Nat)(a:Array Value)(w:World):Calls prog 81 #[.slice A 0 c,.func (.func g) #[] a] w λe w'=>e=.returned (.tuple #[])/\w'=w:=by
 have G:=qZ (aqa A c g a w);go_enter func81,ntmps81;go_wp2_with fail;go_enter func138,ntmps138;go_wp2_with fail;refine wp_loop_rounds 1 ?_;rw[rounds_succ];go_wp2_with fail;refine G.mono ?_;rintro e b⟨rfl,rfl⟩;clear G;go_wp2_with fail;refine wp_loop_rounds 1 ?_;rw[rounds_succ];go_wp2_with fail
 go_end0
 exact⟨rfl,rfl⟩
def agb(qs:List Ord.P)(w:World)(e:Ending)(w':World):Prop:=∃v,e=.returned v/\SlK w' 11 gK v qs/\(qs≠[]->∀b,v.ownBlock=some b->(w:Nat)<=b)/\Below w w w'
theorem als{l:Value}{aI aN next:Int}(w:World)(A:Option Addr)(cap:Nat):Calls prog 35 #[.agg #[v1,v2,aI,aK,aN,next,.slice A 0 cap,vr,l]] w λe w'=>agb [] w e w':=by
 obtain⟨a,d⟩:=nZ (w.alloc (.cells #[v1,v2,aI,aK,aN,next,.slice A 0 cap,vr,l] 31));have j:=aB d;have m:=qZ j;have n:=qZ d;have G:=qY (Calls prog 77 #[.slice A 0 cap] a λe w'=>∃v',e=.returned v'/\bQ w' a 44 11 gK v' []/\Below a a w') (wU aeW pinfo rfl oZ Tryz.sizeOf44 pel (w:=a) (show SlK a 11 gK (.slice A 0 cap) []from⟨A,cap,rfl,λh=>absurd rfl h⟩) (bK _) (bK _));clear j d;go_enter func35,ntmps35;go_wp2_with fail;rw[n.out];refine G.mono ?_;rintro e o⟨v',rfl,k,i⟩;obtain⟨b,c,rfl⟩:∃b c,v'=.slice b 0 c:=by
  rcases k.form with⟨e,_⟩|⟨g,cap,e,_⟩
  .exact⟨_,_,e⟩
  .exact⟨_,_,e⟩
 have f:=qZ (aA m i);clear G k i;go_wp2_with fail;refine(agx b c _ _ _).mono ?_;rintro e p⟨rfl,rfl⟩;go_wp2_with fail;go_ret;exact⟨_,rfl,⟨b,c,rfl,λh=>absurd rfl h⟩,λh=>absurd rfl h,f.alloc f.size _⟩
theorem alZ{j:Value}(h:StR w v1 v2 vp vr j s rl)(ok:WW s):Calls prog 35 #[stv v1 v2 vp vr j s] w λe w'=>agb (Top.row s) w e w':=by
 by_cases a:s.ps=[]
 .obtain⟨A,cap,e,_⟩:=h.ps;rw[a]at e;subst e;have m:Top.row s=[]:=aen a;rw[m];exact als w A cap
 .obtain⟨qs,d⟩:=aeU s.ps (λp a=>(ok.kR p (cO _ a)).ok);have n:qs.length=s.ps.length:=by rw[<-d,bN]
  refine(aoK (vr:=vr) (next:=s.next) ⟨h.cfg,ok.mild.aP,ok.wok,h.h⟩ (ok.ne a) ok.num (by rw[d];exact h.ps) (by have:=ok.len;omega)).mono ?_;rintro e w'⟨v,rfl,i,k⟩;have f:=aiG i (agz s.c s.h s.aN qs);rw[sorted_put,d]at f;refine⟨v,rfl,f,λ_ b c=>?_,k⟩;rcases i with⟨_,rfl⟩|⟨g,cap,rfl,_,l,_⟩
  .cases c
  .injection c with c;exact c▸l
end bU
end Go.Proofs.YtedmeglbjmdlhaaGreatDoor
