/-
Parts that the laws of the whole program share: contracts of its functions, and plain laws.
-/
import Derived.Test.YtedmeglbjmdlhaaGreatDoorG19
set_option maxRecDepth 100000
set_option maxHeartbeats 16000000
set_option linter.all false
open Go.Proofs.Tryz
namespace Go.Proofs.YtedmeglbjmdlhaaGreatDoor
open L Ord Srt
namespace Srt
open Go Go.RowKit Go.Sort L bM
variable {P:Program} {α:Type} [Inhabited α]
def aij(P:Program)(enc:α->List Value)(k:Nat)(cf:α->α->Int)(g:Nat)(cb:Array Value)(cK off cap n:Nat)(w0:World)(N:Nat):Prop:=∀(a m b:Nat) (d:Array α) (w:World),d.size=n->b<=a+N->Sit enc k w0 cK off d w->a<m->m<b->b<=n->Sd cf d a m->Sd cf d m b->Calls P 203 #[.slice (some ⟨cK,off,none⟩) n cap,a,m,b,.func (.func g) #[] cb] w λe w'=>e=.returned (.tuple #[])/\∃d',Mrg cf d d' a b/\Sit enc k w0 cK off d' w'
def ati(P:Program)(α:Type)[Inhabited α](enc:α->List Value)(k:Nat)(g:Nat)(cb:Array Value)(cK off cap n:Nat)(w0:World):Prop:=∀(a m b:Nat) (d:Array α) (w:World),d.size=n->Sit enc k w0 cK off d w->a<m->m<b->b<=n->Calls P 241 #[.slice (some ⟨cK,off,none⟩) n cap,a,m,b,.func (.func g) #[] cb] w λe w'=>e=.returned (.tuple #[])/\∃d',Rot d d' a m b/\Sit enc k w0 cK off d' w'
theorem arA{k:Nat}(L:PK P k)(hF:P.funcs[203]? =some Tryz.f203)(enc:α->List Value)(bm:∀x,(enc x).length=k)(cf:α->α->Int)(au:jE cf)(g:Nat)(aa:Array Value)(cK off cap n N a m b:Nat)(d:Array α)(w0 w:World)(ch:∀args w,(callFunc g args).run P w=.ok (.enter g args) w)(ce:∀args w,(callFunc 203 args).run P w=.ok (.enter 203 args) w)(cg:∀args w,(callFunc 241 args).run P w=.ok (.enter 241 args) w)(bl:zC P g aa enc cf cK w0)(bp:aij P enc k cf g aa cK off cap n w0 N)(bn:ati P α enc k g aa cK off cap n w0)(bo:d.size=n)(ci:b<=a+N+1)(bk:Sit enc k w0 cK off d w)(cj:a+1<m)(cu:m+1<b)(aq:b<=n)(db:n<2305843009213693952)(bd:Sd cf d a m)(be:Sd cf d m b):Calls P 203 #[.slice (some ⟨cK,off,none⟩) n cap,a,m,b,.func (.func g) #[] aa] w λe w'=>e=.returned (.tuple #[])/\∃d',Mrg cf d d' a b/\Sit enc k w0 cK off d' w':=by
 have mixed:=L.mixed;have dj:=L.t3;have a3:=L.a3;have dp:=L.z3;have dm:=L.v3;have t4:=L.t4;have a4:=L.a4;have z4:=L.z4;have v4:=L.v4;have dk:=L.t49;have cb:=L.a49;have dq:=L.z49;have dn:=L.v49;have dl:=L.tu;have cd:=L.au;have ds:=L.zu;have cc:=L.aE;have dr:=L.zE;have dg:=run_underlying L.t49;have bt:=qZ bk;have br:=qZ bl;have a9:=qZ bm;have bc:=qZ bp;have bv:=qZ bn;have I:=qZ (aC bd be);have aj:=qZ bo;have dh:((m:Int)-(a:Int)==1)=false:=beq_eq_false_iff_ne.2 oZ;have di:((b:Int)-(m:Int)==1)=false:=beq_eq_false_iff_ne.2 oZ;obtain⟨mid,b4⟩:∃mid,mid=(a+b)/2:=⟨_,rfl⟩;have cm:((a:Int)+(b:Int))/2=(mid:Int):=oZ;have cq:a<mid:=oZ;have cr:mid<b:=oZ;have cs:mid+mid<=a+b:=oZ;have ct:a+b<=mid+mid+1:=oZ;clear bk bl bm bd be b4 bp bn bo;obtain⟨l,p,aw,cy,b5,cz,c0,da⟩:∃l p,(mid<m/\l+b=mid+m/\p=mid\/m<=mid/\l=a/\p=m)/\a<=l/\l<=p/\p<=m/\p<=mid/\mid+m<=l+b:=by
  by_cases h:mid<m
  .exact⟨mid+m-b,mid,.inl ⟨h,oZ,rfl⟩,oZ,oZ,oZ,oZ,oZ⟩
  .exact⟨a,m,.inr ⟨oZ,rfl,rfl⟩,oZ,oZ,oZ,oZ,oZ⟩
 have a8:=qZ aw;go_enter hF,ntmps203
 go_upto_if 140 with fail
 go_cut[20,21] (λv u F=>F=w/\v=.int .i64 l/\u=.int .i64 p);case first=>
  as_aux_lemma=>
   rcases aw with⟨c1,c2,c3⟩|⟨c1,c2,c3⟩
   .have cx:(mid:Int)+(m:Int)-(b:Int)=(l:Int):=oZ;have b8:(mid:Int)<(m:Int):=oZ;have af:=qZ c3;clear c2 c3;go_wp2_with fail;go_meet;exact⟨rfl,rfl,by rw[af.out]⟩
   .have b8:¬(mid:Int)<(m:Int):=oZ;have af:=qZ (aC c2 c3);clear c2 c3;go_wp2_with fail;go_meet;exact⟨rfl,by rw[af.out.1],by rw[af.out.2]⟩
 case rest=>
  as_aux_lemma=>
   obtain⟨rfl,rfl,rfl⟩:=hcut;clear aw;go_wp2_with fail;go_loopg[20,21] n (λbw b9 ca wr=>∃(s r:Nat),b9=.int .i64 s/\ca=.int .i64 r/\l<=s/\s<=r/\r<=p/\r<=bw+s/\Hid (Sit enc k w0 cK off d wr)/\Hid ((l<s->0<=cf d[mid+m-s]! d[s-1]!)/\(r<p->cf d[mid+m-1-r]! d[r]! <0)));case atStart=>exact⟨l,p,rfl,rfl,bI _,b5,bI _,oZ,bt,qZ ⟨λh=>oZ,λh=>oZ⟩⟩
   case round=>
    obtain⟨s,r,rfl,rfl,b3,cp,b0,co,z,J⟩:=hrel;by_cases b1:s<r
    .have b2:(s:Int)<(r:Int):=oZ;obtain⟨h,bz⟩:∃h,h=(s+r)/2:=⟨_,rfl⟩;have cl:((s:Int)+(r:Int))/2=(h:Int):=oZ;have cv:s<=h:=oZ;have cw:h<r:=oZ;clear bz;obtain⟨q,o⟩:∃q,q+h+1=mid+m:=⟨mid+m-1-h,oZ⟩;have dc:IntKind.i64.wrap ((mid:Int)+(m:Int)-1-(h:Int))=(q:Int):=by rw[IntKind.wrap_i64];omega
     have ao:=aj.out;have dd:(h:Int)<(n:Int):=oZ;have df:(q:Int)<(n:Int):=oZ;obtain⟨M,ax⟩:=nZ (d[h]!);obtain⟨O,ay⟩:=nZ (d[q]!);have b6:∀W,aF wr W->Sem.run P (loadCellsFrom ⟨cK,off+h*k,none⟩ 0 k #[]) W=.ok (enc M).toArray W:=λW j=>by rw[<-ax];exact(z.on j).load a9 oZ
     have b7:∀W,aF wr W->Sem.run P (loadCellsFrom ⟨cK,off+q*k,none⟩ 0 k #[]) W=.ok (enc O).toArray W:=λW j=>by rw[<-ay];exact(z.on j).load a9 oZ
     have ap:∀W,aF wr W->Calls P g (#[.agg (enc O).toArray,.agg (enc M).toArray]++aa) W λe w'=>e=.returned (.int .i64 (cf O M))/\aF wr w':=λW j=>
      (br W (z.on j).bD O M).mono λe w' ⟨ar,aq⟩=>⟨ar,aA j aq⟩
     have H:=qZ (aC o (aC ax ay));clear ao ax ay o;go_wp2_with fail;refine qB L.mixed kZ ?_;(repeat refine kY ?_);refine kM ?_ (h:=by intro W j;go_simp;first|exact ap W j|exact⟨j,ap W j⟩);(repeat refine kY ?_);refine eH ?_;intro W j;clear b6 b7 ap;have K:=qZ (z.on j);clear j;by_cases av:cf O M<0
     .have am:=qY ((l<s->0<=cf d[mid+m-s]! d[s-1]!)/\(h<p->cf d[mid+m-1-h]! d[h]! <0)) (⟨J.1,λ_=>by rw[show mid+m-1-h=q by have:=H.out.1;omega,H.out.2.1,H.out.2.2];exact av⟩);rw[show(!decide (cf O M<0))=false by rw[decide_eq_true av];rfl];clear J H;go_wp2_with fail;go_roundg(h-s);case measure=>omega
      case rel=>exact⟨s,h,rfl,rfl,b3,oZ,oZ,oZ,K,am⟩
     .have am:=qY ((l<h+1->0<=cf d[mid+m-(h+1)]! d[h+1-1]!)/\(r<p->cf d[mid+m-1-r]! d[r]! <0)) (⟨λ_=>by rw[show mid+m-(h+1)=q by have:=H.out.1;omega,iE,H.out.2.1,H.out.2.2];omega,J.2⟩);rw[show(!decide (cf O M<0))=true by rw[eG av];rfl];clear J H;go_wp2_with fail;go_roundg(r-(h+1));case measure=>omega
      case rel=>exact⟨h+1,r,mZ,rfl,oZ,oZ,b0,oZ,K,am⟩
    .obtain rfl:s=r:=by omega
     have b2:¬(s:Int)<(s:Int):=oZ;obtain⟨e,ar⟩:∃e,e+s=mid+m:=⟨mid+m-s,oZ⟩;have cn:(mid:Int)+(m:Int)-(s:Int)=(e:Int):=oZ;have ao:=aj.out;have ab:a<=s:=oZ;have ad:s<=m:=oZ;have de:s<=mid:=oZ;have ae:m<=e:=oZ;have bq:mid<=e:=oZ;have al:e<=b:=oZ;have ag:=qY (mid=s+(e-m)) (by omega);have X:=qY ((a<s->e<b->0<=cf d[e]! d[s-1]!)/\(s<m->m<e->cf d[e-1]! d[s]! <0)) (by have ck:=a8.out;have e1:mid+m-s=e:=oZ;have e2:mid+m-1-s=e-1:=oZ;have bg:=J.1;have bh:=J.2;rw[e1]at bg;rw[e2]at bh;exact⟨λx y=>bg oZ,λx y=>bh oZ⟩);clear ao J a8 b1 ar;have A:=z;clear z;obtain⟨a0,bi⟩:∃b,b=decide (s<m/\m<e):=⟨_,rfl⟩;have Q:=qZ bi;clear bi;go_upto_region 39 with fail;go_cut[20,185] (λv b F=>v=.int .i64 s/\b=.bool a0/\Sit enc k w0 cK off d F);case first=>
      as_aux_lemma=>
       by_cases az:(s:Int)<(m:Int)
       .by_cases l2:(m:Int)<(e:Int)
        .go_wp2_with fail;go_meet;exact⟨rfl,by rw[Q.out,decide_eq_true (show s<m/\m<e by omega)],A⟩
        .go_wp2_with fail;go_meet;exact⟨rfl,by rw[Q.out,eG (show¬(s<m/\m<e) by omega)],A⟩
       .go_wp2_with fail;go_meet;exact⟨rfl,by rw[Q.out,eG (show¬(s<m/\m<e) by omega)],A⟩
     case rest=>
      as_aux_lemma=>
       obtain⟨rfl,rfl,c⟩:=hcut;have z:=qZ c;clear c A
       go_upto_if 185 with fail
       go_cut[20] (λv F=>v=.int .i64 s/\∃d1,Rot d d1 s m e/\Sit enc k w0 cK off d1 F);case first=>
        as_aux_lemma=>
         cases o:a0
         .have i:=of_decide_eq_false (Q.out.symm.trans o);clear o;go_wp2_with fail;go_meet;exact⟨rfl,d,Rot.self d oZ ad ae,z⟩
         .have i:=of_decide_eq_true (Q.out.symm.trans o);clear o;go_wp2_with fail;refine(bv s m e d _ aj z i.1 i.2 oZ).mono ?_;rintro bf w1⟨rfl,d1,f,c⟩;have Z:=qZ (aC f c);clear f c z i;go_wp2_with fail;go_meet;exact⟨rfl,d1,Z⟩
       case rest=>
        as_aux_lemma=>
         obtain⟨rfl,d1,f,c⟩:=hcut;have Y:=qZ (atG ab ad ae al ag I.1 I.2 f);have bb:=qZ (f.size.trans aj);have Z:=qZ f;have A:=qZ c;clear f c z Q;obtain⟨a5,bj⟩:∃b,b=decide (a<s/\s<mid):=⟨_,rfl⟩;have T:=qZ bj;clear bj;go_upto_region 41 with fail;go_cut[20,199] (λv b F=>v=.int .i64 s/\b=.bool a5/\Sit enc k w0 cK off d1 F);case first=>
          as_aux_lemma=>
           by_cases az:(a:Int)<(s:Int)
           .by_cases l2:(s:Int)<(mid:Int)
            .go_wp2_with fail;go_meet;exact⟨rfl,by rw[T.out,decide_eq_true (show a<s/\s<mid by omega)],A⟩
            .go_wp2_with fail;go_meet;exact⟨rfl,by rw[T.out,eG (show¬(a<s/\s<mid) by omega)],A⟩
           .go_wp2_with fail;go_meet;exact⟨rfl,by rw[T.out,eG (show¬(a<s/\s<mid) by omega)],A⟩
         case rest=>
          as_aux_lemma=>
           obtain⟨rfl,rfl,c⟩:=hcut;have ah:=qZ c;clear c A
           go_upto_if 199 with fail
           go_cut[20] (λv F=>v=.int .i64 s/\∃d2,Mrg cf d1 d2 a mid/\Sit enc k w0 cK off d2 F);case first=>
            as_aux_lemma=>
             cases o:a5
             .have i:=of_decide_eq_false (T.out.symm.trans o);clear o;have ai:=qY (Sd cf d1 a mid) (by
               rcases Nat.eq_or_lt_of_le ab with x|x
               .rw[x];exact Y.2.1
               .rw[show mid=s by omega];exact Y.1)
              clear i;go_wp2_with fail;go_meet;exact⟨rfl,d1,Mrg.same ai,ah⟩
             .have i:=of_decide_eq_true (T.out.symm.trans o);clear o;go_wp2_with fail;refine(bc a s mid d1 _ bb oZ ah i.1 i.2 oZ Y.1 Y.2.1).mono ?_;rintro bf w1⟨rfl,d2,f,c⟩;have bs:=qZ (aC f c);clear f c ah i;go_wp2_with fail;go_meet;exact⟨rfl,d2,bs⟩
           case rest=>
            as_aux_lemma=>
             obtain⟨rfl,d2,f,c⟩:=hcut;have ak:=qZ (aC (f.sd (.inr lZ) Y.2.2.1) (f.sd (.inr bq) Y.2.2.2));have bu:=qZ (f.size.trans bb);have an:=qZ f;have K:=qZ c;clear f c ah T;by_cases i:mid<e/\e<b
             .have az:(mid:Int)<(e:Int):=oZ;have l2:(e:Int)<(b:Int):=oZ;go_wp2_with fail;refine(bc mid e b d2 _ bu oZ K i.1 i.2 aq ak.1 ak.2).mono ?_;rintro bf w1⟨rfl,d3,f,c⟩;have ba:=qZ (aC f c);clear f c K;go_wp2_with fail
              go_end0
              exact⟨rfl,d3,AV au ab ad ae al ag I.1 I.2 X.1 X.2 Z an ba.1,ba.2⟩
             .have ai:=qY (Sd cf d2 mid b) (by
               rcases Nat.eq_or_lt_of_le bq with x|x
               .rw[x];exact ak.2
               .rw[show b=e by omega];exact ak.1)
              by_cases az:(mid:Int)<(e:Int)
              .have l2:¬(e:Int)<(b:Int):=oZ;go_wp2_with fail
               go_end0
               exact⟨rfl,d2,AV au ab ad ae al ag I.1 I.2 X.1 X.2 Z an (Mrg.same ai),K⟩
              .go_wp2_with fail
               go_end0
               exact⟨rfl,d2,AV au ab ad ae al ag I.1 I.2 X.1 X.2 Z an (Mrg.same ai),K⟩
variable {P:Program} {α:Type} [Inhabited α]
structure FK (P:Program):Prop where
 f98:P.funcs[268]? =some Tryz.f268
 f95:P.funcs[241]? =some Tryz.f241
 f85:P.funcs[203]? =some Tryz.f203
 f84:P.funcs[202]? =some Tryz.f202
 f72:P.funcs[138]? =some Tryz.f138
 e98:∀args w,(callFunc 268 args).run P w=.ok (.enter 268 args) w
 e95:∀args w,(callFunc 241 args).run P w=.ok (.enter 241 args) w
 e85:∀args w,(callFunc 203 args).run P w=.ok (.enter 203 args) w
 e84:∀args w,(callFunc 202 args).run P w=.ok (.enter 202 args) w
theorem ahs{k:Nat}(L:PK P k)(F:FK P)(enc:α->List Value)(i:∀x,(enc x).length=k)(l:∀x,∀v∈enc x,v.oneCell'=true)(cf:α->α->Int)(p:jE cf)(g:Nat)(c:Array Value)(cK off cap n:Nat)(w0:World)(j:∀args w,(callFunc g args).run P w=.ok (.enter g args) w)(o:zC P g c enc cf cK w0)(s:n<2305843009213693952):∀N,aij P enc k cf g c cK off cap n w0 N
 |0=>λa m b d w _ H _ u r _ _ _=>oZ
 |N+1=>λa m b d w y H e u r f z A=>by
  by_cases c1:a+1=m
  .subst y;exact alm L F.f85 enc i l cf p g c cK off cap a m b d w0 w j o e c1 r f s A
  .by_cases c2:m+1=b
   .subst y;exact aoF L F.f85 enc i l cf p g c cK off cap a m b d w0 w j o e oZ c2 f s z
   .exact arA L F.f85 enc i cf p g c cK off cap n N a m b d w0 w j F.e85 F.e95 o (ahs L F enc i l cf p g c cK off cap n w0 j o s N)
     (λa m b d w I e u r f=>by subst I;exact aiN L F.f95 F.f98 enc i l g c cK off cap a m b d w0 w F.e98 e u r f oZ) y oZ e oZ oZ f s z A
theorem aqc{k:Nat}(L:PK P k)(F:FK P)(enc:α->List Value)(r:∀x,(enc x).length=k)(m:∀x,∀v∈enc x,v.oneCell'=true)(cf:α->α->Int)(p:jE cf)(g:Nat)(f:Array Value)(cK off cap n:Nat)(w0:World)(l:∀args w,(callFunc g args).run P w=.ok (.enter g args) w)(o:zC P g f enc cf cK w0)(u:n<2305843009213693952)(a b:Nat)(c:Array α)(w:World)(s:c.size=n)(d:Sit enc k w0 cK off c w)(i:a<=b)(j:b<=n):Calls P 202 #[.slice (some ⟨cK,off,none⟩) n cap,a,b,.func (.func g) #[] f] w λe w'=>e=.returned (.tuple #[])/\Mrg cf c (Sort.insertionSort (ltOf cf) c a b) a b/\Sit enc k w0 cK off (Sort.insertionSort (ltOf cf) c a b) w':=by subst s;exact(asz L F.f84 enc r m cf g f cK off cap a b c w l (o.on d.bD) d.holds d.lt i j oZ).mono (λe w' h=>⟨h.1,SG p c i j,d.trans h.2⟩)
theorem ada{k:Nat}(L:PK P k)(F:FK P)(enc:α->List Value)(K:∀x,(enc x).length=k)(H:∀x,∀v∈enc x,v.oneCell'=true)(cf:α->α->Int)(J:jE cf)(g:Nat)(z:Array Value)(cK off cap n:Nat)(d:Array α)(w0:World)(X:∀args w,(callFunc g args).run P w=.ok (.enter g args) w)(I:zC P g z enc cf cK w0)(A:Sit enc k w0 cK off d w0)(aa:d.size=n)(a0:n<1152921504606846976):Calls P 138 #[.slice (some ⟨cK,off,none⟩) n cap,n,.func (.func g) #[] z] w0 λe w'=>e=.returned (.tuple #[])/\Sit enc k w0 cK off (Sort.insertionSort (ltOf cf) d 0 d.size) w':=by
 have mixed:=L.mixed;have a8:=L.t3;have a3:=L.a3;have bd:=L.z3;have bb:=L.v3;have t4:=L.t4;have a4:=L.a4;have z4:=L.z4;have v4:=L.v4;have a9:=L.t49;have ao:=L.a49;have be:=L.z49;have bc:=L.v49;have ba:=L.tu;have aq:=L.au;have bg:=L.zu;have ap:=L.aE;have bf:=L.zE;have au:=F.e85;have ar:=F.e84;have a5:=run_underlying L.t49;have W:=qZ (λN=>ahs L F enc K H cf J g z cK off cap n w0 X I oZ N);have T:=qZ (λ(a b:Nat) (i:Array α) (w:World) (l:i.size=n) (A:Sit enc k w0 cK off i w) (ah:a<=b) (ai:b<=n)=>aqc L F enc K H cf J g z cK off cap n w0 X I oZ a b i w l A ah ai);have ad:=qZ A;have s:=qZ aa;clear I A aa K H;go_enter F.f72,ntmps138;go_wp2_with fail;go_loopg[7,8] n (λae O Q wr=>∃(a:Nat) (i:Array α),O=.int .i64 a/\Q=.int .i64 ((a+20:Nat):Int)/\a<=n/\n<=ae+a/\Hid (Lot0 cf d i 20 n a)/\Hid (Sit enc k w0 cK off i wr));case atStart=>exact⟨0,d,mZ,mZ,oZ,oZ,qZ (Lot0.start d 20 n),ad⟩
 case round=>
  obtain⟨a,i,rfl,rfl,u,aw,f,j⟩:=hrel;by_cases M:a+20<=n
  .have aj:(a:Int)+20<=(n:Int):=oZ;go_wp2_with fail;rw[show(a:Int)+20=((a+20:Nat):Int) by omega];refine(T a (a+20) i _ (f.size.trans s) j oZ M).mono ?_;rintro e w1⟨rfl,m,l⟩;have o:=qZ (f.step m M);have p:=qZ l;clear m l f j;go_wp2_with fail;go_roundg(n-(a+20));case measure=>omega
   case rel=>exact⟨a+20,_,mZ,mZ,M,oZ,o,p⟩
  .have aj:¬(a:Int)+20<=(n:Int):=oZ;go_wp2_with fail;refine(T a n i _ (f.size.trans s) j u lZ).mono ?_;rintro e w1⟨rfl,m,l⟩;have o:=qZ (f.done m u oZ);have p:=qZ l;generalize Sort.insertionSort (ltOf cf) i a n=d1 at*;clear m l f j;go_wp2_with fail;go_loopg[6] n (λaf an wr=>∃(c q:Nat) (i:Array α),an=.int .i64 c/\0<c/\c<n+n+21/\n<=af+c/\Hid (Lot cf d i c n 0 q)/\Hid (Sit enc k w0 cK off i wr));case atStart=>exact⟨20,a,d1,mZ,oZ,oZ,oZ,o,p⟩
   case round=>
    clear o p;obtain⟨c,q,i,rfl,r,av,ax,f,j⟩:=hrel;by_cases az:c<n
    .have ak:(c:Int)<(n:Int):=oZ;go_wp2_with fail;go_loopg[7,8] n (λag O Q wr=>∃(a:Nat) (i:Array α),O=.int .i64 a/\Q=.int .i64 ((a+(c+c):Nat):Int)/\a<=n/\n<=ag+a/\Hid (Lot cf d i c n a q)/\Hid (Sit enc k w0 cK off i wr));case atStart=>exact⟨0,i,mZ,dA (Value.int .i64) oZ,oZ,oZ,f,j⟩
     case round=>
      clear f j;obtain⟨a,i,rfl,rfl,u,ay,f,j⟩:=hrel;by_cases y:a+(c+c)<=n
      .have al:(a:Int)+((c:Int)+(c:Int))<=(n:Int):=oZ;go_wp2_with fail;rw[show(a:Int)+((c:Int)+(c:Int))=((a+(c+c):Nat):Int) by omega,show(a:Int)+(c:Int)=((a+c:Nat):Int) by omega];refine(W (c+c) a (a+c) (a+(c+c)) i _ (f.size.trans s) oZ j oZ oZ y (f.two r y).1 (f.two r y).2).mono ?_;rintro e w1⟨rfl,d2,m,l⟩;have o:=qZ (f.step r y m);have p:=qZ l;clear m l f j;go_wp2_with fail;go_roundg(n-(a+(c+c)));case measure=>omega
       case rel=>exact⟨a+(c+c),d2,mZ,dA (Value.int .i64) oZ,y,oZ,o,p⟩
      .have al:¬(a:Int)+((c:Int)+(c:Int))<=(n:Int):=oZ;by_cases m:a+c<n
       .have am:(a:Int)+(c:Int)<(n:Int):=oZ;go_wp2_with fail;rw[show(a:Int)+(c:Int)=((a+c:Nat):Int) by omega];refine(W n a (a+c) n i _ (f.size.trans s) oZ j oZ m lZ (f.last r oZ m).1 (f.last r oZ m).2).mono ?_;rintro e w1⟨rfl,d2,Z,l⟩;have o:=qZ (f.next u oZ Z);have p:=qZ l;clear Z l f j;go_wp2_with fail;go_roundg(n-(c+c));case measure=>omega
        case rel=>exact⟨c+c,a,d2,dA (Value.int .i64) oZ,oZ,oZ,oZ,o,p⟩
       .have am:¬(a:Int)+(c:Int)<(n:Int):=oZ;have o:=qZ (f.next u oZ (Mrg.same (f.one r oZ)));clear f;go_wp2_with fail;go_roundg(n-(c+c));case measure=>omega
        case rel=>exact⟨c+c,a,i,dA (Value.int .i64) oZ,oZ,oZ,oZ,o,j⟩
    .have ak:¬(c:Int)<(n:Int):=oZ;have ab:=qY (i=Sort.insertionSort (ltOf cf) d 0 d.size) (by have Y:=f.out;rw[<-s.out]at Y;exact Y.whole J r (by have:=s.out;omega));clear f;go_wp2_with fail
     go_end0
     exact⟨rfl,by rw[<-ab.out];exact j⟩
end Srt
end Go.Proofs.YtedmeglbjmdlhaaGreatDoor
