/-
Parts that the laws of the whole program share: contracts of its functions, and plain laws.
-/
import Derived.Test.YtedmeglbjmdlhaaGreatDoorG23
set_option maxRecDepth 100000
set_option maxHeartbeats 16000000
set_option linter.all false
open Go.Proofs.Tryz
namespace Go.Proofs.YtedmeglbjmdlhaaGreatDoor
open L Srt Top bU
namespace bU
open Go Go.RowKit Go.Sort L bM Srt
section
variable {P:Program} {α:Type} [Inhabited α] {enc:α->List Value} {k:Nat} {E:TypeId}
theorem agA(enc:α->List Value)(k:Nat)(g:∀x,(enc x).length=k)(d:Array α)(i:Nat)(hi:i<d.size)(y:α):setMany (flatK enc k d) (i*k) (enc y)=flatK enc k (d.setIfInBounds i y):=by
 refine ext_get! sZ λt j=>?_;have b:t<d.size*k:=by simpa using j
 have f:0<k:=by
  rcases gI k with h|h
  .subst h;simp at b
  .exact h
 rw[get_setMany _ _ _ t (by simpa using b),get_flatK _ _ _ t b,get_flatK _ _ _ t (by simpa using b),g];have c:t/k<d.size:=Nat.div_lt_of_lt_mul (by rwa [eD]at b);by_cases a:t/k=i
 .rw[aG ((blk_iff k i t f).2 a)];have e:t-i*k=t%k:=by rw[<-a,Nat.mod_eq_sub_div_mul]
  rw[e,a];rw[dF (d.setIfInBounds i y) i (by simpa using hi)];simp
 .rw[aD λh=>a ((blk_iff k i t f).1 h)];rw[dF (d.setIfInBounds i y) (t/k) (by simpa using c),dF d (t/k) c];rw[Array.getElem_setIfInBounds (by simpa using c),aD (Ne.symm a)]
theorem qQ.put(c:∀x,(enc x).length=k)(j:∀x,∀v∈enc x,v.oneCell'=true){w W:World}{g cap:Nat}{d:Array α}(h:qQ enc k E w g cap d W){i:Nat}(hi:i<d.size)(y:α):Sem.run P (storeCells ⟨g,0+i*k,none⟩ (enc y) 0) W=.ok () (W.setCells g (0+i*k) (enc y))/\qQ enc k E w g cap (d.setIfInBounds i y) (W.setCells g (0+i*k) (enc y)):=by
 have f:i*k+k<=d.size*k:=by have:=bR k (show i+1<=d.size from hi);rwa [gJ,Nat.one_mul]at this
 have a:(i*k)+(enc y).length<=(flatK enc k d).size:=by rw[c,size_flatK];exact f
 have b:Holds id (W.setCells g (0+i*k) (enc y)) g 0 (setMany (flatK enc k d) (i*k) (enc y)):=by
  have e:W.setCells g (0+i*k) (enc y)=putRow id W g 0 (setMany (flatK enc k d) (i*k) (enc y)):=by
   conv=>lhs;rw[<-putRow_self id W g 0 (flatK enc k d) h.sit.holds]
   exact setCells_putRow _ _ _ _ _ _ a
  rw[e];exact holds_putRow id W g 0 (flatK enc k d) _ h.sit.holds (by rw[size_setMany])
 rw[agA enc k c d i hi y]at b;refine⟨stores_of_holds P h.sit.holds _ _ a (j _),⟨h.sit.bD.trans (nP g _ _ _),b,by rw[wZ];exact h.sit.lt⟩,Shape.cells (W:=W) _ _ _ h.shape,by simpa using h.room⟩
theorem qQ.pop{w W:World}{g cap:Nat}{d:Array α}(h:qQ enc k E w g cap d W):qQ enc k E w g cap d.pop W:=by
 refine⟨⟨h.sit.bD,λj c=>?_,h.sit.lt⟩,h.shape,by have:=h.room;simp;omega⟩;have a:j<(d.size-1)*k:=by simpa using c
 have b:j<d.size*k:=aM a (bR k (Nat.sub_le _ _));have f:j/k<d.size-1:=Nat.div_lt_of_lt_mul (by rwa [eD]at a);have:=h.sit.holds j (by simpa using b);rw[get_flatK _ _ _ _ b]at this;rw[get_flatK _ _ _ _ (by simpa using a)];have e:d.pop[j/k]! =d[j/k]! :=by rw[dF d.pop (j/k) (by simpa using f),dF d (j/k) oZ,Array.getElem_pop]
 rw[e];exact this
end
theorem WI{P:Program}{α:Type}{enc:α->List Value}{E:TypeId}(c:∀x,∀v∈enc x,v.oneCell'=true){W:World}{b:Nat}{cs:Array Value}(h:Blk W b E cs)(y:α)(i:(enc y).length=cs.size):Sem.run P (storeCells ⟨b,0,none⟩ (enc y) 0) W=.ok () (W.setCells b 0 (enc y))/\Blk (W.setCells b 0 (enc y)) b E (enc y).toArray:=by
 have d:Holds id W b 0 cs:=λj a=>⟨by rw[aU,h.cell,dF cs j a,dH a];rfl,by rw[aU];exact h.frozen j⟩;have s:=stores_of_holds P d 0 (enc y) oZ (c y);rw[aU]at s;refine⟨s,?_⟩;have l:∀(vs:List Value) (o:Nat) (W:World) (cs:Array Value),Blk W b E cs->Blk (W.setCells b o vs) b E (setMany cs o vs):=by
  intro vs;induction vs with
  |nil=>exactλo W cs h=>h
  |cons v vs k=>exactλo W cs h=>k (o+1) _ _ (Blk.bV h o v)
 have e:setMany cs 0 (enc y)=(enc y).toArray:=by
  refine ext_get! (by simp[i]) λt f=>?_;have g:t<cs.size:=by simpa using f
  rw[get_setMany _ _ _ t g,aG ⟨bK _,oZ⟩,Nat.sub_zero];rw[dF (enc y) t oZ,dF (enc y).toArray t (by simpa using(show t<(enc y).length by omega))];simp
 have:=l (enc y) 0 W cs h;rwa [e]at this
theorem aqu{α:Type}[Inhabited α](less:α->α->Bool)(n f i a:Nat)(l:Array α)(h:2*i+1<n)(b:(if 2*i+2<n&&less l[2*i+2]! l[2*i+1]! then 2*i+2 else 2*i+1)=a)(c:less l[a]! l[i]! =true):vC less n (f+1) i l=vC less n f a ((l.setIfInBounds i l[a]!).setIfInBounds a l[i]!):=by
 conv=>lhs;unfold vC
 rw[aG h,b];simp only;rw[aG c]
theorem ake{α:Type}[Inhabited α](less:α->α->Bool)(n f i:Nat)(l:Array α)(h:¬2*i+1<n):vC less n f i l=l:=by
 cases f with
 |zero=>rfl
 |succ f=>unfold vC;rw[aD h]
theorem aha{α:Type}[Inhabited α](less:α->α->Bool)(n f i a:Nat)(l:Array α)(b:(if 2*i+2<n&&less l[2*i+2]! l[2*i+1]! then 2*i+2 else 2*i+1)=a)(c:less l[a]! l[i]! =false):vC less n f i l=l:=by
 cases f with
 |zero=>rfl
 |succ f=>
  unfold vC;split
  .rw[b];simp only;rw[aD (by rw[c];decide)]
  .rfl
theorem arJ{P:Program}{t E:TypeId}{i:TypeInfo}(d:P.underlying t=some (.slice E))(hi:P.info? E=some i){g n m cap:Nat}(b:m<=n)(c:n<=cap)(W:World):(Instr.slice t (.slice g n cap) none (some (.int .i64 m)) none).run P W=.ok (.slice g m cap) W:=by
 have a:Addr.add ⟨g,0,none⟩ 0=⟨g,0,none⟩:=by rw[Addr.add_lit]
 simp[Instr.slice,run_underlying d,Instr.sliceBounds,Instr.sliceBound,asIntOf,sizeOf,typeInfo,hi,aV b c,a]
theorem acV{P:Program}{c:Array Oper}{rest:List Oper}{o:Oper}{a:Act}{w:World}{Q:Exit->Act->World->Prop}(f:o.guard=none)(s y:Operand)(t e:TypeId)(l:P.underlying t=some (.slice e))(g:o.op=.slice t s none (some y) none)(vs b:Value){v':Value}(k:a.eval s=vs)(m:a.eval y=b)(j:(Instr.slice t vs none (some b) none).run P w=.ok v' w)(h:wpList P c Q rest (a.put o.dst v') w):wpList P c Q (o::rest) a w:=
 wpList_plain f λ_ d=>by
  have i:(Instr.sliceAt t vs none (some b) none).run P w=.ok v' w:=by simp[Instr.sliceAt,run_underlying l,j]
  unfold Oper.wp execOp;simp only[g,Sem.run_bind,Sem.run_pure,Result.andThen_ok,Option.map_none,Option.map_some,k,m,i];exact d _ _ h
def aav{α:Type}[Inhabited α](enc:α->List Value)(k B hb:Nat)(fn v:Value)(x:α)(xs:List α)(w:World)(e:Ending)(w':World):Prop:=∃v',e=.returned (.agg (enc x).toArray)/\Blk w' hb 265 #[v',fn]/\bQ w' B 86 k enc v' xs/\aO (λi=>i=hb\/v.ownBlock=some i) w w'/\v'.ownBlock=v.ownBlock
theorem arX{P:Program}{α:Type}[Inhabited α]{enc:α->List Value}{k:Nat}(L:PH P k)(hF:P.funcs[206]? =some Tryz.f206)(av:∀x,(enc x).length=k)(co:∀x,∀v∈enc x,v.oneCell'=true)(less:α->α->Bool)(H:Nat)(fz:∀args w,(callFunc H args).run P w=.ok (.enter H args) w)(d7:∀(W:World) (x y:α),Calls P H #[.agg (enc x).toArray,.agg (enc y).toArray] W λe w'=>e=.returned (.bool (less x y))/\aF W w')(O:Array Value)(dd:O.size=k)(dj:∀w,(zeroValue 86).run P w=.ok (.agg O) w){B l:Nat}{v:Value}{xs:List α}{w:World}(bg:Blk w l 265 #[v,.func (.func H) #[] #[]])(d9:bQ w B 86 k enc v xs)(d8:v.ownBlock≠some l)(fc:xs.length<=100000)(dc:xs≠[]):Calls P 206 #[.pointer l] w λe w'=>aav enc k B l (.func (.func H) #[] #[]) v (xs.toArray[0]!) (sH less xs.toArray).toList w e w':=by
 have mixed:=L.mixed;have dh:=L.t3;have a3:=L.a3;have dm:=L.z3;have di:=L.v3;have t4:=L.t4;have a4:=L.a4;have z4:=L.z4;have v4:=L.v4;have ts:=L.ts;have fu:=L.aS;have gc:=L.zs;have vs:=L.vs;have cm:=L.af;have dn:=L.zf;have ga:=L.th;have dr:=L.aE;have et:=L.zE;have gb:=run_underlying L.ts;have uh:=run_underlying L.th;obtain⟨i0,z0,dz,fl,fm,fo,fp⟩:=L.info;have z:=qZ av;have af:=qZ co;have a5:=qZ d7;obtain⟨g,cap,rfl,ey,be⟩:=ahQ av d9 dc;have b3:g≠l:=λe=>d8 (by rw[e];rfl);obtain⟨n,b4⟩:∃n,xs.length=n+1:=⟨xs.length-1,by have:=mG.2 dc;omega⟩;have dp:=qZ b4;rw[b4]at fc bg⊢;obtain⟨d,b2⟩:=nZ xs.toArray;rw[b2]at be⊢;have dy:d.size=n+1:=by rw[<-b2];simpa using b4
 obtain⟨x0,b7⟩:=nZ (d[0]!);obtain⟨xn,eh⟩:=nZ (d[n]!);rw[b7];obtain⟨w1,cz⟩:=nZ (w.alloc (.cells O 86));have ak:aF w w1:=by rw[<-cz];exact bZ
 have fn:(w1:Nat)=(w:Nat)+1:=by rw[<-cz];simp
 have dk:Blk w1 w 86 O:=by rw[<-cz];exact Blk.new _ _ _
 obtain⟨bk,ed⟩:=nZ (w1.alloc (.cells O 86));have cr:aF w1 bk:=by rw[<-ed];exact bZ
 have en:Blk bk ((w:Nat)+1) 86 O:=by rw[<-ed,<-fn];exact Blk.new _ _ _
 have eq:Blk bk w 86 O:=Blk.below dk cr dk.lt;obtain⟨st,dl⟩:=WI (P:=P) co en x0 (by rw[av,dd]);obtain⟨A,c0⟩:=nZ (bk.setCells ((w:Nat)+1) 0 (enc x0));rw[c0]at st dl;have bd:l<(w:Nat):=bg.lt;have e5:g<(w:Nat):=be.sit.lt;have cv:aO (λi=>i=(w:Nat)+1) bk A:=by rw[<-c0];exact nP _ _ _ _
 have er:Blk A w 86 O:=eq.bD cv oZ;have d0:aO (λ_=>False) w A:=((aO.bS ak).trans (aO.bS (F:=λ_=>False) (Below.mono cr lZ))).trans' cv (λi hi e=>oZ);have b1:aF w A:=d0.below lZ (λi h=>h.elim);have db:Blk A l 265 #[.slice g (n+1) cap,.func (.func H) #[] #[]]:=Blk.below bg b1 bd;have ea:=be.on b1;have ek:Sem.run P (loadCellsFrom ⟨g,0,none⟩ 0 k #[]) w1=.ok (enc x0).toArray w1:=by have:=(be.on ak).sit.load (P:=P) av (j:=0) oZ;rwa [b7,lX]at this
 have c1:CV w1 l 0 (.slice g (n+1) cap):=(Blk.below bg ak bd).cell 0;have c3:CV A l 0 (.slice g (n+1) cap):=db.cell 0;have bf:(enc x0).length=k:=av _;have X:=qZ (aC db (aC dl er));have a9:=qZ ea;have bl:=qZ b1;have a0:=qZ (aC b2 (aC b7 eh));obtain⟨bu,N⟩:∃c,c=enc x0:=⟨_,rfl⟩;rw[<-N]at st ek bf;have az:=qZ N;clear bg d9 av co d7 d8 b4 b2 b7 eh be ak dk cr en eq dl c0 cv er d0 b1 db ea dc N;go_enter hF,ntmps206;go_wp2_with fail;clear ek st c1 c3;have c3:A.drew.cell? (l,0)=some (.slice g (n+1) cap):=X.1.cell 0;have cx:=a9.on (aF.drew A);have el:Sem.run P (loadCellsFrom ⟨g,n*k,none⟩ 0 k #[]) A.drew=.ok (enc xn).toArray A.drew:=by have:=cx.sit.load (P:=P) z (j:=n) oZ;rwa [a0.2.2,aU]at this
 obtain⟨st,b5⟩:=cx.put (P:=P) z af (i:=0) oZ xn;rw[lX,aU]at st b5;have ax:=nP g (enc xn) 0 A.drew;obtain⟨K,ee⟩:=nZ (A.drew.setCells g 0 (enc xn));rw[ee]at st b5 ax;have b8:=(Blk.below X.1 (aF.drew A) X.1.lt).bD ax (Ne.symm b3);have eo:=(Blk.below X.2.1 (aF.drew A) X.2.1.lt).bD ax oZ;have es:=(Blk.below X.2.2 (aF.drew A) X.2.2.lt).bD ax oZ;have fj:(enc xn).length=k:=z _;have bs:=qY (aO (λi=>i=g) w K) ((aO.bS (aA bl (aF.drew A))).trans' ax λi _ h=>h);have c4:CV K l 0 (.slice g (n+1) cap):=b8.cell 0;have eu:K.frozen? (l,0)=false:=b8.frozen 0;have au:=qZ (aC b8 (aC eo es));have ap:=qZ b5.pop;obtain⟨fv,dv⟩:∃c,c=enc xn:=⟨_,rfl⟩;rw[<-dv]at st el fj;clear cx b5 ax ee b8 eo es dv;have hcut:=arJ (P:=P) (W:=K) ts dz (g:=g) (n:=n+1) (m:=n) (cap:=cap) (fE n) (by have:=a9.room.1;omega);have cd:=qZ hcut;clear hcut dz fl fm fo fp
 go_big_region_o
 clear el st c3;go_wp2_with(with_reducible refine acV rfl (.tmp 35) (.tmp 36) _ _ ts rfl (.slice g (n+1) cap) n rfl rfl cd.out ?_);have ep:Blk (K.setCell (l,0) (.slice g n cap)) l 265 #[.slice g n cap,.func (.func H) #[] #[]]:=Blk.bV au.1 0 _;have ds:Blk (K.setCell (l,0) (.slice g n cap)) (w:Nat) 86 O/\Blk (K.setCell (l,0) (.slice g n cap)) ((w:Nat)+1) 86 (enc x0).toArray:=
  ⟨Blk.far au.2.2 (by show(w:Nat)≠l;omega) _,Blk.far au.2.1 (by show(w:Nat)+1≠l;omega) _⟩
 have em:qQ enc k 86 (K.setCell (l,0) (.slice g n cap)) g cap (d.setIfInBounds 0 xn).pop (K.setCell (l,0) (.slice g n cap)):=by obtain⟨cs,ak,ff⟩:=ap.shape;have far:Blk (K.setCell (l,0) (.slice g n cap)) g 86 cs:=Blk.far ak b3 _;refine⟨Sit.start (λj e8=>?_) far.lt,⟨cs,far,ff⟩,ap.room⟩;have:=ap.sit.holds j e8;exact⟨by rw[far.cell];rw[ak.cell]at this;exact this.1,by rw[far.frozen]⟩
 have ej:aO (λi=>i=l\/(Value.slice g (n+1) cap).ownBlock=some i) w (K.setCell (l,0) (.slice g n cap)):=by refine(bs.mono (G:=λi=>i=l\/(Value.slice g (n+1) cap).ownBlock=some i) λi _ h=>.inr (by rw[h];rfl)).setCell (.inl (.inl rfl)) _
 have bt:=qZ (show∀(o:Array α) (wr I:World),o=sH less d->Blk wr l 265 #[.slice g n cap,.func (.func H) #[] #[]]->o.size=n->qQ enc k 86 (K.setCell (l,0) (.slice g n cap)) g cap o wr->aO (λi=>i=(w:Nat)) wr I->aav enc k B l (.func (.func H) #[] #[]) (.slice g (n+1) cap) x0 (sH less d).toList w (.returned (.agg (enc x0).toArray)) I fromλo wr I e ez fe cw cu=>by subst e;have f3:g<(wr:Nat):=cw.sit.lt;have eb:=cw.row z ey;rw[fe]at eb;refine⟨_,rfl,ez.bD cu oZ,eb.bD λq aw=>?_,(ej.trans' cw.sit.bD λq aw e=>.inr (by rw[e];rfl)).trans' cu λq aw e=>oZ,rfl⟩;injection aw with aw;have aw:g=q:=aw;exact cu.block q oZ oZ);have bn:=qY (vC less n n 0 (d.setIfInBounds 0 xn).pop=sH less d) (by unfold sH;rw[dy,iE,a0.out.2.2]);have br:=qZ ep;have bm:=qZ ds;have bq:=qZ em;clear ep ds em ej c4 eu;go_loopg[5] n (λev fs wr=>∃(i f:Nat) (o:Array α),fs=.int .i64 i/\f<=ev/\n<=f+i/\i<=n/\o.size=n/\Hid (Blk wr l 265 #[.slice g n cap,.func (.func H) #[] #[]])/\Hid (Blk wr w 86 O/\Blk wr ((w:Nat)+1) 86 (enc x0).toArray)/\Hid (qQ enc k 86 (K.setCell (l,0) (.slice g n cap)) g cap o wr)/\Hid (vC less n f i o=sH less d));case atStart=>exact⟨0,n,(d.setIfInBounds 0 xn).pop,by first|rfl|go_num,bI _,oZ,oZ,by simp[dy],br,bm,bq,bn⟩
 case round=>
  obtain⟨i,cn,o,rfl,f1,f2,f5,cy,Q,Z,ah,ai⟩:=hrel;obtain⟨p,d6⟩:=nZ (2*i+1);have fb:2*(i:Int)+1=(p:Int):=oZ;have ag:=qZ d6;by_cases bd:p<n
  .have fd:(p:Int)<(n:Int):=oZ;obtain⟨f,rfl⟩:∃f,cn=f+1:=⟨cn-1,oZ⟩;obtain⟨ad,ef⟩:=nZ (o[i]!);obtain⟨ca,eg⟩:=nZ (o[p]!);obtain⟨cb,ei⟩:=nZ (o[p+1]!);obtain⟨bj,ec⟩:=nZ ((decide (p+1<n)&&less cb ca));have J:=qZ (aC ef (aC eg ei));have aq:=qZ ec;clear ef eg ei ec d6;go_upto_region 8 with fail;clear fb;go_cut[73] (λb ay=>b=.bool bj/\Hid (aF wr ay));case first=>
    have bb:∀W,aF wr W->CV W l 0 (.slice g n cap):=λW a=>(Blk.below Q a Q.out.lt).cell 0;have c1:∀W,aF wr W->CV W l 1 (.func (.func H) #[] #[]):=λW a=>(Blk.below Q a Q.out.lt).cell 1;have e9:p<=100000:=oZ;have dq:=qY (IntKind.i64.wrap ((p:Int)+1)=(p:Int)+1) (by rw[IntKind.wrap_i64];omega);by_cases bv:p+1<n
    .have ex:decide ((p:Int)+1<(n:Int))=true:=decide_eq_true oZ;have ew:decide (p+1<n)=true:=decide_eq_true bv;have f0:(p:Int)+1<(n:Int):=oZ;have de:∀W,aF wr W->Sem.run P (loadCellsFrom ⟨g,(p+1)*k,none⟩ 0 k #[]) W=.ok (enc cb).toArray W:=λW a=>by have:=(ah.on a).sit.load (P:=P) z (j:=p+1) oZ;rwa [aU,J.2.2]at this
     have df:∀W,aF wr W->Sem.run P (loadCellsFrom ⟨g,p*k,none⟩ 0 k #[]) W=.ok (enc ca).toArray W:=λW a=>by have:=(ah.on a).sit.load (P:=P) z (j:=p) oZ;rwa [aU,J.2.1]at this
     have aj:∀W,aF wr W->Calls P H #[.agg (enc cb).toArray,.agg (enc ca).toArray] W λe w'=>e=.returned (.bool bj)/\aF wr w':=λW a=>
      (a5 W cb ca).mono λe w' ⟨ct,l⟩=>⟨by rw[ct,<-aq.out];simp[bv],aA a l⟩
     have fy:((p:Int)+1).toNat=p+1:=oZ;have f9:(0:Int)<=(p:Int)+1:=oZ;have da:=dq.out;refine qB L.mixed kZ ?_;(repeat refine kY ?_);refine kM ?_ (h:=by intro W a;go_simp;first|exact aj W a|exact⟨a,aj W a⟩);(repeat refine kY ?_);refine eH ?_;intro W a;have ar:=qZ a;clear bb c1 de df aj a da;go_wp2_with fail;go_meet;exact⟨rfl,ar⟩
    .have ex:decide ((p:Int)+1<(n:Int))=false:=eG oZ;have ew:decide (p+1<n)=false:=eG bv;have fg:bj=false:=by rw[<-aq.out];simp[bv]
     subst fg;have da:=dq.out;refine qB L.mixed kZ ?_;(repeat first|(refine kY ?_)|(refine kN ?_));refine eH ?_;intro W a;have ar:=qZ a;clear bb c1 a da;go_wp2_with fail;go_meet;exact⟨rfl,ar⟩
   case rest=>
    obtain⟨rfl,a8⟩:=hcut;have M:=qZ (Blk.below Q a8 Q.out.lt);have T:=qZ (aC (Blk.below Z.1 a8 Z.1.lt) (Blk.below Z.2 a8 Z.2.lt));have ab:=qZ (ah.on a8);obtain⟨r,bc⟩:=nZ ((if bj=true then p+1 else p));have f6:r<n:=by
     rw[<-bc];split
     .rename_i h;rw[<-aq.out]at h;simp at h;exact h.1
     .exact bd
    have f4:i<r:=by have:=ag.out;rw[<-bc];split<;>omega
    have bo:=qY ((if 2*i+2<n&&less o[2*i+2]! o[2*i+1]! then 2*i+2 else 2*i+1)=r) (by have e1:2*i+1=p:=ag;have e2:2*i+2=p+1:=oZ;rw[e1,e2,J.out.2.1,J.out.2.2,aq.out];exact bc);have bp:=qZ bc;clear bc
    go_upto_if 73 with fail
    go_cut[6] (λv ay=>v=.int .i64 r/\Hid (Blk ay l 265 #[.slice g n cap,.func (.func H) #[] #[]])/\Hid (Blk ay w 86 O/\Blk ay ((w:Nat)+1) 86 (enc x0).toArray)/\Hid (qQ enc k 86 (K.setCell (l,0) (.slice g n cap)) g cap o ay));case first=>
     have e9:p<=100000:=oZ;cases bj
     .have ci:=qY (p=r) (by have:=bp.out;simpa using this);go_wp2_with fail;go_meet;exact⟨by rw[ci.out],M,T,ab⟩
     .have ci:=qY (p+1=r) (by have:=bp.out;simpa using this);go_wp2_with fail;go_meet;exact⟨by rw[<-ci.out];go_num,M,T,ab⟩
    case rest=>
     clear M T ab;obtain⟨rfl,M,T,ab⟩:=hcut;obtain⟨ae,b9⟩:=nZ (o[r]!);obtain⟨s,b6⟩:=nZ (less ae ad);have Y:=qZ (aC b9 b6);have cj:=qZ (λe:s=false=>aha less n (f+1) i r o bo (by rw[b9,J.out.1,b6,e]));have cg:=qZ (λe:s=true=>aqu less n f i r o (by have:=ag.out;omega) bo (by rw[b9,J.out.1,b6,e]));clear b9 b6;have bb:∀W,aF wc W->CV W l 0 (.slice g n cap):=λW a=>(Blk.below M a M.out.lt).cell 0;have c1:∀W,aF wc W->CV W l 1 (.func (.func H) #[] #[]):=λW a=>(Blk.below M a M.out.lt).cell 1;have de:∀W,aF wc W->Sem.run P (loadCellsFrom ⟨g,r*k,none⟩ 0 k #[]) W=.ok (enc ae).toArray W:=λW a=>by have:=(ab.on a).sit.load (P:=P) z (j:=r) oZ;rwa [aU,Y.1]at this
     have df:∀W,aF wc W->Sem.run P (loadCellsFrom ⟨g,i*k,none⟩ 0 k #[]) W=.ok (enc ad).toArray W:=λW a=>by have:=(ab.on a).sit.load (P:=P) z (j:=i) oZ;rwa [aU,J.1]at this
     have aj:∀W,aF wc W->Calls P H #[.agg (enc ae).toArray,.agg (enc ad).toArray] W λe w'=>e=.returned (.bool s)/\aF wc w':=λW a=>
      (a5 W ae ad).mono λe w' ⟨ct,l⟩=>⟨by rw[ct,Y.out.2],aA a l⟩
     have f8:(r:Int)<(n:Int):=oZ;have f7:(i:Int)<(n:Int):=oZ;go_wp2_with fail;refine qB L.mixed kZ ?_;(repeat refine kY ?_);refine kM ?_ (h:=by intro W a;go_simp;first|exact aj W a|exact⟨a,aj W a⟩);(repeat refine kY ?_);refine eH ?_;intro W a;have ar:=qZ a;have ao:=qZ (Blk.below M a M.out.lt);have aa:=qZ (aC (Blk.below T.1 a T.1.lt) (Blk.below T.2 a T.2.lt));have ba:=qZ (ab.on a);clear bb c1 de df aj a;cases s
     .clear cg;have dg:Sem.run P (loadCellsFrom ⟨(w:Nat)+1,0,none⟩ 0 k #[]) W=.ok (enc x0).toArray W:=
       run_loadCellsFrom_list P W _ (enc x0) k (z x0) (λj u al=>by rw[Addr.add_lit,aU,aa.out.2.cell j];simpa using al)
      obtain⟨st,an⟩:=WI (P:=P) af aa.1 x0 (by rw[z.out,dd]);obtain⟨I,am⟩:=nZ (W.setCells (w:Nat) 0 (enc x0));rw[am]at st an;have bh:aO (λi=>i=(w:Nat)) W I:=by rw[<-am];exact nP _ _ _ _
      have bi:Sem.run P (loadCellsFrom ⟨w,0,none⟩ 0 k #[]) I=.ok (enc x0).toArray I:=
       run_loadCellsFrom_list P I _ (enc x0) k (z x0) (λj u al=>by rw[Addr.add_lit,aU,an.cell j];simpa using al)
      have ce:=qZ (bt o W I (by rw[<-ai.out];exact(cj rfl).symm) ao cy ba bh);have bf:(enc x0).length=k:=z _;clear an am bh;obtain⟨bu,N⟩:∃c,c=enc x0:=⟨_,rfl⟩;rw[<-N]at dg st bi bf;have az:=qZ N;clear N;clear cj bt Q Z ah M T ab ao aa ba ai J Y ag bo bp aq ar a5 af a0 X a9 bl au ap bs br bm bq bn z dp a8 cd dh a3 dm di t4 a4 z4 v4 vs cm dn dj;go_wp2_with fail;refine bodyPost_ret (v:=.agg bu.toArray) (by simp[results,Tryz.results206,go_sem,dr,et,bi]) rfl ?_;rw[az.out];exact ce
     .have ch:=qZ (cg rfl);clear cj cg;go_wp2_with fail;have bz:=ba.on (aF.drew W);have cp:=Blk.below ao (aF.drew W) ao.out.lt;have cq:=aC (Blk.below aa.1 (aF.drew W) aa.1.lt) (Blk.below aa.2 (aF.drew W) aa.2.lt);have bb:W.drew.cell? (l,0)=some (.slice g n cap):=cp.cell 0;have fr:Sem.run P (loadCellsFrom ⟨g,r*k,none⟩ 0 k #[]) W.drew=.ok (enc ae).toArray W.drew:=by have:=bz.sit.load (P:=P) z (j:=r) oZ;rwa [aU,Y.1]at this
      have fq:Sem.run P (loadCellsFrom ⟨g,i*k,none⟩ 0 k #[]) W.drew=.ok (enc ad).toArray W.drew:=by have:=bz.sit.load (P:=P) z (j:=i) oZ;rwa [aU,J.1]at this
      obtain⟨s1,s2,s3⟩:=bz.swap (P:=P) z af (i:=i) (j:=r) oZ oZ;have e0:g<(w:Nat):=e5;have bw:=(cp.bD (nP g (enc o[r]!) (0+i*k) W.drew) (Ne.symm b3)).bD (nP g (enc o[i]!) (0+r*k) _) (Ne.symm b3);have dt:=(cq.1.bD (nP g (enc o[r]!) (0+i*k) W.drew) oZ).bD (nP g (enc o[i]!) (0+r*k) _) oZ;have du:=(cq.2.bD (nP g (enc o[r]!) (0+i*k) W.drew) oZ).bD (nP g (enc o[i]!) (0+r*k) _) oZ;have b0:=aC dt du;rw[J.out.1,Y.out.1]at s2 s3 bw b0;rw[Y.out.1]at s1;rw[aU]at s1;rw[aU,aU]at s2 s3 bw b0;rw[J.out.1,Y.out.1,ai.out]at ch;rw[show(o.setIfInBounds i ae).setIfInBounds r ad=swp o i r by rw[<-J.out.1,<-Y.out.1];rfl]at ch;have ck:=qZ s3;have cc:=qZ bw;have cl:=qZ b0;have fh:(enc ad).length=k:=z _;have fi:(enc ae).length=k:=z _;clear s3 bw b0 dt du bz cp cq e0;obtain⟨fw,dw⟩:∃c,c=enc ad:=⟨_,rfl⟩;obtain⟨fx,dx⟩:∃c,c=enc ae:=⟨_,rfl⟩;rw[<-dw]at fq s2 fh ck cc cl⊢;rw[<-dx]at fr s1 s2 fi ck cc cl⊢;clear dw dx;have ft:=qZ (aC ao (aC aa (aC ba (aC ai (aC J Y)))));clear ao aa ba Q Z ah M T ab ai J Y ag bo bp aq ar a5 af a0 X a9 bl au ap bs br bm bq az bn dh a3 dm di t4 a4 z4 v4 vs cm dn dj
      go_big_region_o
      all_goals go_wp2
      go_roundg f;case measure=>omega
      case rel=>exact⟨r,f,swp o i r,rfl,bI _,oZ,oZ,by rw[size_swp];exact cy,cc,cl,ck,qZ ch.out.symm⟩
  .have fd:¬(p:Int)<(n:Int):=oZ;have dg:Sem.run P (loadCellsFrom ⟨(w:Nat)+1,0,none⟩ 0 k #[]) wr=.ok (enc x0).toArray wr:=
    run_loadCellsFrom_list P wr _ (enc x0) k (z x0) (λj u al=>by rw[Addr.add_lit,aU,Z.out.2.cell j];simpa using al)
   obtain⟨st,an⟩:=WI (P:=P) af Z.1 x0 (by rw[z.out,dd]);obtain⟨I,am⟩:=nZ (wr.setCells (w:Nat) 0 (enc x0));rw[am]at st an;have bh:aO (λi=>i=(w:Nat)) wr I:=by rw[<-am];exact nP _ _ _ _
   have bi:Sem.run P (loadCellsFrom ⟨w,0,none⟩ 0 k #[]) I=.ok (enc x0).toArray I:=
    run_loadCellsFrom_list P I _ (enc x0) k (z x0) (λj u al=>by rw[Addr.add_lit,aU,an.cell j];simpa using al)
   have ce:=qZ (bt o wr I (by rw[<-ai.out];exact(ake less n cn i o (by rw[ag.out];exact bd)).symm) Q cy ah bh);have bf:(enc x0).length=k:=z _;clear an am bh;obtain⟨bu,N⟩:∃c,c=enc x0:=⟨_,rfl⟩;rw[<-N]at dg st bi bf;have az:=qZ N;clear N;clear bt Q Z ah ai ag a5 af a0 X a9 bl au ap bs br bm bq bn z dp cd dh a3 dm di t4 a4 z4 v4 vs cm dn dj;go_wp2_with fail;refine bodyPost_ret (v:=.agg bu.toArray) (by simp[results,Tryz.results206,go_sem,dr,et,bi]) rfl ?_;rw[az.out];exact ce
end bU
end Go.Proofs.YtedmeglbjmdlhaaGreatDoor
