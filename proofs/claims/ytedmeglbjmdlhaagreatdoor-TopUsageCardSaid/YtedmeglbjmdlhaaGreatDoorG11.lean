/-
Parts that the laws of the whole program share: contracts of its functions, and plain laws.
-/
import Derived.Test.YtedmeglbjmdlhaaGreatDoorG5
import Derived.Deep.DeepCutAuto
import Derived.Deep.CutBlock
set_option maxRecDepth 100000
set_option maxHeartbeats 16000000
set_option linter.all false
open Go.Proofs.Tryz
namespace Go.Proofs.YtedmeglbjmdlhaaGreatDoor
open Dec Dv Fix L akI sK
namespace sK
open Go.RowKit L
def LJ(q:Nat)(w:World)(e:Ending)(w':World):Prop:=(∃r:Int,e=.returned (.tuple #[.int .u64 q,.int .u64 r]))/\∃n,w'=w.drewN n
theorem zN{q r a U:Nat}(h:q*a+r=U)(b:1<=q):(q-1)*a+(r+a)=U:=by obtain⟨p,rfl⟩:∃p,q=p+1:=⟨q-1,oZ⟩;rw[gJ,Nat.one_mul]at h;rw[iE];omega
theorem wrap_mul(q a:Nat)(h:q<4294967296)(b:a<4294967296):IntKind.u64.wrap ((q:Int)*(a:Int))=((q*a:Nat):Int):=by have:q*a<4294967296*4294967296:=Nat.mul_lt_mul'' h b;rw[<-Int.natCast_mul];exact L.wrap_small .u64 rfl _ (by show _<18446744073709551616;omega)
theorem akf(hi lo y s Y a j U L u1 u0 J am r1 Q A C R K an r2 l:Nat)(bi:0<hi)(bu:hi<y)(bm:lo<=18446744073709551615)(bz:y<=18446744073709551615)(w:World)(br:s<64)(ao:∀w:World,Calls prog 296 #[.int .u64 y] w λe w'=>e=.returned s/\w'=w)(e1:IntKind.u64.wrap ((y:Int)*2 ^ s)=(Y:Int))(az:(Y:Int)/4294967296=(a:Int))(bv:0<a)(bw:a<4294967296)(ay:bits .and .u64 (Y:Int) 4294967295=(j:Int))(e2:bits .or .u64 (IntKind.u64.wrap ((hi:Int)*2 ^ s)) ((lo:Int)/2 ^ (64-s))=(U:Int))(e3:IntKind.u64.wrap ((lo:Int)*2 ^ s)=(L:Int))(ar:(L:Int)/4294967296=(u1:Int))(aq:bits .and .u64 (L:Int) 4294967295=(u0:Int))(bt:u1<4294967296)(bs:u0<4294967296)(T:(U:Int)/(a:Int)=(J:Int))(bq:J<=18446744073709551615)(a5:IntKind.u64.wrap ((J:Int)*(a:Int))=(am:Int))(bo:am<=U)(bl:U<=18446744073709551615)(bd:(U:Int)-(am:Int)=(r1:Int))(aj:Hid (J*a+r1=U/\Q<=J/\r1<4294967296))(F:Hid (Q=(U*Dv.B+u1)/Y))(av:Q<4294967296)(o:Hid (Y=a*Dv.B+j))(ax:U<Y)(X:j<4294967296)(a1:IntKind.u64.wrap ((U:Int)*4294967296)=(A:Int))(bj:A+u1<=18446744073709551615)(a3:IntKind.u64.wrap ((Q:Int)*(Y:Int))=(C:Int))(a4:IntKind.u64.wrap ((A:Int)+(u1:Int)-(C:Int))=(R:Int))(ba:(R:Int)/(a:Int)=(K:Int))(bp:K<=18446744073709551615)(a8:IntKind.u64.wrap ((K:Int)*(a:Int))=(an:Int))(bn:an<=R)(bk:R<=18446744073709551615)(be:(R:Int)-(an:Int)=(r2:Int))(ak:Hid (K*a+r2=R/\l<=K/\r2<4294967296))(H:Hid (l=(R*Dv.B+u0)/Y))(au:l<4294967296)(aw:R<Y):Calls prog 281 #[.int .u64 hi,.int .u64 lo,.int .u64 y] w (LJ (Q*4294967296+l) w):=by
 have bf:((y:Int)==0)=false:=by simp;omega
 have a0:((hi:Int)==0)=false:=by simp;omega
 have ap:=qZ ao;clear ao;go_enter func281,ntmps281;go_wp2_with fail;refine(ap _).mono ?_;rintro e w1⟨rfl,rfl⟩;go_upto_block 0 with fail;clear bf a0 e1 az ay e2 e3 ar aq T a5 bd;go_cut[15,16] (λx z bg=>bg=w1/\x=.int .u64 Q);case first=>
  go_wp2_with fail
  go_loop [15,16] (λx z=>∃q r:Nat,x=.int .u64 q/\z=.int .u64 r/\r<4294967296/\q<=18446744073709551615/\q*a+r=U/\Q<=q) (λx z=>(intOf x).toNat)
  case atStart=>exact⟨J,r1,rfl,rfl,aj.out.2.2,oZ,aj.out.1,aj.out.2.1⟩
  case round=>
   obtain⟨q,r,rfl,rfl,bc,bb,W,O⟩:=hrel;have k:=qZ W;clear W;have more:∀p:Nat,q*j=p->(4294967296<=q\/4294967296*r+u1<p)->Q<=q-1/\1<=q:=λp d ag=>by subst d;have:=Dv.more (u:=u1) o.out k (by rw[<-F.out];exact av) oZ ag (by rw[<-F.out];exact O);rw[<-F.out]at this;exact this
   have done:q*j<=4294967296*r+u1->q=Q:=λh=>by have:=Dv.done o.out k oZ h (by rw[<-F.out];exact O);rw[<-F.out]at this;exact this
   have brk:1<=q->Q<=q-1->4294967296<=r+a->q-1=Q:=λaa ab h=>by have n:=zN k aa;have ad:=Dv.brk (u:=u1) o.out X n ax h;have:=Dv.done o.out n oZ ad (by rw[<-F.out];exact ab);rw[<-F.out]at this;exact this
   have N:=qZ more;have Z:=qZ done;have M:=qZ brk;clear more done brk;have f:∀(h:4294967296<=r+a),decide ((4294967296:Int)<=(r:Int)+(a:Int))=true:=λh=>by simp;omega
   have g:∀(h:¬4294967296<=r+a),decide ((4294967296:Int)<=(r:Int)+(a:Int))=false:=λh=>by simp;omega
   by_cases i:4294967296<=q
   .have ae:decide ((4294967296:Int)<=(q:Int))=true:=by simp;omega
    have c:=qZ (N _ rfl (.inl i));have T:1<=q:=oZ;by_cases b:4294967296<=r+a
    .have I:=f b;have v:=qZ b;clear b f g i;go_wp2;go_meet;exact⟨rfl,ret_val (by have:=M.out c.out.2 c.out.1 v;omega)⟩
    .have I:=g b;have ai:r+a<=4294967295:=oZ;clear b f g i;go_wp2
     go_round
     case rel=>exact⟨q-1,r+a,ret_val oZ,ret_val oZ,oZ,oZ,zN k c.out.2,c.out.1⟩
     case measure=>simp[intOf];omega
   .have ah:q<4294967296:=oZ;have ae:decide ((4294967296:Int)<=(q:Int))=false:=by simp;omega
    have al:=wrap_mul q j ah X;obtain⟨p,d⟩:=nZ (q*j);have a9:p<=18446744065119617025:=by rw[<-d];exact Nat.mul_le_mul (show q<=4294967295 by omega) (show j<=4294967295 by omega)
    rw[d]at al;by_cases m:4294967296*r+u1<p
    .have af:decide ((4294967296:Int)*(r:Int)+(u1:Int)<(p:Int))=true:=by simp;omega
     have c:=qZ (N _ d (.inr m));have T:1<=q:=c.out.2;by_cases b:4294967296<=r+a
     .have I:=f b;have v:=qZ b;clear b f g i m d;go_wp2;go_meet;exact⟨rfl,ret_val (by have:=M.out c.out.2 c.out.1 v;omega)⟩
     .have I:=g b;have ai:r+a<=4294967295:=oZ;clear b f g i m d;go_wp2
      go_round
      case rel=>exact⟨q-1,r+a,ret_val oZ,ret_val oZ,oZ,oZ,zN k c.out.2,c.out.1⟩
      case measure=>simp[intOf];omega
    .have af:decide ((4294967296:Int)*(r:Int)+(u1:Int)<(p:Int))=false:=by simp;omega
     have n:=qZ (Z (by rw[d];omega));clear f g i m d;go_wp2;go_meet;exact⟨rfl,ret_val (by rw[n.out])⟩
 case rest=>
  obtain⟨rfl,rfl⟩:=hcut;go_upto_block 2 with fail;clear a1 a3 a4 ba a8 be;go_cut[16,18] (λz x bh=>bh=wc/\x=.int .u64 l);case first=>
   go_wp2_with fail
   go_loop [16,18] (λx z=>∃q r:Nat,z=.int .u64 q/\x=.int .u64 r/\r<4294967296/\q<=18446744073709551615/\q*a+r=R/\l<=q) (λx z=>(intOf z).toNat)
   case atStart=>exact⟨K,r2,rfl,rfl,ak.out.2.2,oZ,ak.out.1,ak.out.2.1⟩
   case round=>
    obtain⟨q,r,rfl,rfl,bc,bb,W,O⟩:=hrel;have k:=qZ W;clear W;have more:∀p:Nat,q*j=p->(4294967296<=q\/4294967296*r+u0<p)->l<=q-1/\1<=q:=λp d ag=>by subst d;have:=Dv.more (u:=u0) o.out k (by rw[<-H.out];exact au) oZ ag (by rw[<-H.out];exact O);rw[<-H.out]at this;exact this
    have done:q*j<=4294967296*r+u0->q=l:=λh=>by have:=Dv.done o.out k oZ h (by rw[<-H.out];exact O);rw[<-H.out]at this;exact this
    have brk:1<=q->l<=q-1->4294967296<=r+a->q-1=l:=λaa ab h=>by have n:=zN k aa;have ad:=Dv.brk (u:=u0) o.out X n aw h;have:=Dv.done o.out n oZ ad (by rw[<-H.out];exact ab);rw[<-H.out]at this;exact this
    have N:=qZ more;have Z:=qZ done;have M:=qZ brk;clear more done brk;have f:∀(h:4294967296<=r+a),decide ((4294967296:Int)<=(r:Int)+(a:Int))=true:=λh=>by simp;omega
    have g:∀(h:¬4294967296<=r+a),decide ((4294967296:Int)<=(r:Int)+(a:Int))=false:=λh=>by simp;omega
    by_cases i:4294967296<=q
    .have ae:decide ((4294967296:Int)<=(q:Int))=true:=by simp;omega
     have c:=qZ (N _ rfl (.inl i));have T:1<=q:=oZ;by_cases b:4294967296<=r+a
     .have I:=f b;have v:=qZ b;clear b f g i;go_wp2;go_meet;exact⟨rfl,ret_val (by have:=M.out c.out.2 c.out.1 v;omega)⟩
     .have I:=g b;have ai:r+a<=4294967295:=oZ;clear b f g i;go_wp2
      go_round
      case rel=>exact⟨q-1,r+a,ret_val oZ,ret_val oZ,oZ,oZ,zN k c.out.2,c.out.1⟩
      case measure=>simp[intOf];omega
    .have ah:q<4294967296:=oZ;have ae:decide ((4294967296:Int)<=(q:Int))=false:=by simp;omega
     have al:=wrap_mul q j ah X;obtain⟨p,d⟩:=nZ (q*j);have a9:p<=18446744065119617025:=by rw[<-d];exact Nat.mul_le_mul (show q<=4294967295 by omega) (show j<=4294967295 by omega)
     rw[d]at al;by_cases m:4294967296*r+u0<p
     .have af:decide ((4294967296:Int)*(r:Int)+(u0:Int)<(p:Int))=true:=by simp;omega
      have c:=qZ (N _ d (.inr m));have T:1<=q:=c.out.2;by_cases b:4294967296<=r+a
      .have I:=f b;have v:=qZ b;clear b f g i m d;go_wp2;go_meet;exact⟨rfl,ret_val (by have:=M.out c.out.2 c.out.1 v;omega)⟩
      .have I:=g b;have ai:r+a<=4294967295:=oZ;clear b f g i m d;go_wp2
       go_round
       case rel=>exact⟨q-1,r+a,ret_val oZ,ret_val oZ,oZ,oZ,zN k c.out.2,c.out.1⟩
       case measure=>simp[intOf];omega
     .have af:decide ((4294967296:Int)*(r:Int)+(u0:Int)<(p:Int))=false:=by simp;omega
      have n:=qZ (Z (by rw[d];omega));clear f g i m d;go_wp2;go_meet;exact⟨rfl,ret_val (by rw[n.out])⟩
  case rest=>obtain⟨rfl,rfl⟩:=hcut;go_wp2;go_ret2;exact⟨⟨_,rfl⟩,⟨0,rfl⟩⟩
theorem lz(y:Nat)(g:y<=18446744073709551615)(s:Nat)(f:s<64)(b:2 ^ (63-s)<=y)(c:y/2 ^ (63-s)=1)(w:World):Calls prog 296 #[.int .u64 y] w λe w'=>e=.returned s/\w'=w:=by refine(Tryz.bits_LeadingZeros64 (y:Int) w oZ oZ).mono λe w' ⟨d,hw⟩=>⟨d.trans (gP ?_),hw⟩;have a:=Lib.bitLen_shift (63-s) y b (by show _<18446744073709551616;omega);rw[c,show Lib.bitLen 1=1 from by decide+kernel]at a;rw[Int.toNat_natCast,a];omega
theorem KF(n m:Nat)(h:n=m)(b:m<=18446744073709551615)(x:Int)(a:x=(n:Int)):IntKind.u64.wrap x=(m:Int):=by subst h a;exact L.wrap_small .u64 rfl _ (by show _<18446744073709551616;omega)
theorem xC(x:Int)(m:Nat)(h:x%18446744073709551616=(m:Int)):IntKind.u64.wrap x=(m:Int):=by rw[IntKind.wrap_u64,h]
theorem aie(Y:Nat)(h:Y<=18446744073709551615):bits .and .u64 (Y:Int) 4294967295=((Y%4294967296:Nat):Int):=by rw[show(4294967295:Int)=((4294967295:Nat):Int)from rfl,rQ .u64 rfl Y 4294967295 (by show _<18446744073709551616;omega) dZ];rw[show(4294967295:Nat)=2 ^ 32-1 from rfl,Nat.and_two_pow_sub_one_eq_mod]
theorem aI(U u Y a d:Nat)(f:Y=a*Dv.B+d)(k:d<Dv.B)(l:2147483648<=a)(n:a<4294967296)(c:u<4294967296)(e:U<Y)(i:Y<=18446744073709551615):∃q m r Q:Nat,(U:Int)/(a:Int)=(q:Int)/\q<=18446744073709551615/\IntKind.u64.wrap ((q:Int)*(a:Int))=(m:Int)/\m<=U/\(U:Int)-(m:Int)=(r:Int)/\Hid (q*a+r=U/\Q<=q/\r<4294967296)/\Hid (Q=(U*Dv.B+u)/Y)/\Q<4294967296:=by
 have g:U/a*a<=U:=Nat.div_mul_le_self _ _;have b:=iY U a;have j:=jS U (show 0<a by omega);refine⟨U/a,U/a*a,U%a,(U*Dv.B+u)/Y,oZ,?_,?_,g,?_,⟨?_,Dv.start f c oZ,oZ⟩,rfl,Dv.small e c⟩
 .have:=Nat.div_le_self U a;omega
 .exact KF (U/a*a) _ rfl oZ _ (by rw[Int.natCast_mul])
 .rw[eD]at b;omega
 .rw[eD]at b;exact b
theorem anv(hi lo y:Nat)(X:0<hi)(p:hi<y)(aa:lo<=18446744073709551615)(r:y<=18446744073709551615)(w:World):Calls prog 281 #[.int .u64 hi,.int .u64 lo,.int .u64 y] w (LJ ((hi*18446744073709551616+lo)/y) w):=by
 obtain⟨s,o,n1,n2,af,u,am,ag,b,ah⟩:=Dv.norm hi lo y p oZ oZ;obtain⟨Y,g⟩:=nZ (y*2 ^ s);obtain⟨U,f⟩:=nZ (hi*2 ^ s+lo/2 ^ (64-s));obtain⟨L,d⟩:=nZ (lo*2 ^ s%18446744073709551616);rw[g]at af u b;rw[f]at b;have ak:L<18446744073709551616:=by rw[<-d];exact jS _ oZ
 have i:Y=Y/4294967296*Dv.B+Y%4294967296:=by unfold Dv.B;omega
 have k:Y%4294967296<Dv.B:=jS _ dZ;obtain⟨ai,ad,r1,Q,v,x,z,A,F,H,c,I⟩:=aI U (L/4294967296) Y (Y/4294967296) (Y%4294967296) i k oZ oZ oZ b oZ;have a:=Dv.left U (L/4294967296) Y Q u oZ c.out.symm;obtain⟨R,n⟩:=nZ ((U*Dv.B+L/4294967296)%Y);rw[n]at a;obtain⟨aj,ae,r2,l,J,K,M,N,O,T,m,W⟩:=aI R (L%4294967296) Y (Y/4294967296) (Y%4294967296) i k oZ oZ oZ a.2 oZ;have ab:Q*4294967296+l=(hi*18446744073709551616+lo)/y:=by
  have j:=Dv.both U (L/4294967296) (L%4294967296) Y oZ;rw[<-c.out,n,<-m.out]at j;rw[<-shifted _ y s,ah,f,d,g];have e:U*(Dv.B*Dv.B)+(L/4294967296*Dv.B+L%4294967296)=U*18446744073709551616+L:=by unfold Dv.B;omega
  rw[e]at j;exact j
 rw[<-ab];have an:(2:Nat) ^ s=(2:Nat) ^ s:=rfl;refine akf hi lo y s Y (Y/4294967296) (Y%4294967296) U L (L/4294967296) (L%4294967296) ai ad r1 Q (U*4294967296%18446744073709551616) (Q*Y%18446744073709551616) R aj ae r2 l X p aa r w o
  (λw=>lz y r s o n1 n2 w) ?_ oZ oZ oZ (aie Y oZ) ?_ ?_ oZ (aie L oZ) oZ oZ v x z A oZ F H c I i b k
  ?_ ?_ ?_ ?_ J K M N oZ O T m W a.2
 .exact KF _ _ g oZ _ (by rw[Int.natCast_mul,Int.natCast_pow];rfl)
 .have e1:IntKind.u64.wrap ((hi:Int)*2 ^ s)=((hi*2 ^ s:Nat):Int):=KF _ _ rfl oZ _ (by rw[Int.natCast_mul,Int.natCast_pow];rfl);have e2:((lo:Int)/2 ^ (64-s))=((lo/2 ^ (64-s):Nat):Int):=by rw[Int.natCast_ediv,Int.natCast_pow];rfl
  have al:lo/2 ^ (64-s)<=lo:=Nat.div_le_self _ _;rw[e1,e2,uX .u64 rfl _ _ (by show _<18446744073709551616;omega) (by show _<18446744073709551616;omega),<-f];congr 1;rw[eD];exact(jP ag _).symm
 .refine xC _ _ ?_;rw[<-d,Int.natCast_emod,Int.natCast_mul,Int.natCast_pow];rfl
 .refine xC _ _ ?_;omega
 .omega
 .refine xC _ _ ?_;rw[Int.natCast_emod,Int.natCast_mul];rfl
 .refine xC _ _ ?_;have Z:=a.1;unfold Dv.B at Z;generalize Q*Y=QY at*;omega
theorem ahc(lo y:Nat)(e:0<y)(b:lo<=18446744073709551615)(g:y<=18446744073709551615)(w:World):Calls prog 281 #[.int .u64 0,.int .u64 lo,.int .u64 y] w (LJ (lo/y) w):=by
 have f:((y:Int)==0)=false:=by simp;omega
 obtain⟨q,a⟩:=nZ (lo/y);have c:q<=lo:=by rw[<-a];exact Nat.div_le_self _ _
 have d:IntKind.u64.wrap ((lo:Int)/(y:Int))=(q:Int):=KF _ _ a oZ _ (by rw[Int.natCast_ediv]);rw[a];clear a;go_enter func281,ntmps281;go_wp2;go_quiet (fail);go_wp2;go_ret2;exact⟨⟨_,rfl⟩,⟨_,rfl⟩⟩
theorem anw(hi lo y:Nat)(b:hi<y)(a:lo<=18446744073709551615)(c:y<=18446744073709551615)(w:World):Calls prog 281 #[.int .u64 hi,.int .u64 lo,.int .u64 y] w (LJ ((hi*18446744073709551616+lo)/y) w):=by
 rcases gI hi with h|h
 .subst h;rw[lX,aU];exact ahc lo y b a c w
 .exact anv hi lo y h b a c w
theorem asW(b:Nat)(w:World):Calls prog 246 #[.int .u64 0,.int .u64 b] w λe w'=>e=.returned (.int .u64 (Fix.quo 0 b))/\∃n,w'=w.drewN n:=by go_enter func246,ntmps246;go_wp2;go_ret;exact⟨rfl,⟨0,rfl⟩⟩
theorem arQ(a b:Nat)(f:0<a)(h:b<=a/4294967296):Fix.quo a b=Fix.top:=by
 unfold Fix.quo;rw[aD (Nat.pos_iff_ne_zero.1 f)];rcases gI b with g|c
 .rw[aG g]
 .rw[aD (Nat.pos_iff_ne_zero.1 c)];have e:b*4294967296<=a:=aV (bR _ h) (Nat.div_mul_le_self a 4294967296);have d:18446744073709551616<=a*Fix.one/b:=(Nat.le_div_iff_mul_le c).2 (by have:=bR Fix.one e;unfold Fix.one at*;omega);exact LB (aM dZ d)
theorem apd(a b:Nat)(c:0<a)(d:a<=18446744073709551615)(h:a/4294967296<b):(a/4294967296*18446744073709551616+a*4294967296%18446744073709551616)/b=Fix.quo a b/\Fix.quo a b<=18446744073709551615:=by
 have e:a/4294967296*18446744073709551616+a*4294967296%18446744073709551616=a*4294967296:=oZ;have f:a*4294967296/b<18446744073709551616:=by rw[jY oZ];have:(a/4294967296+1)*18446744073709551616<=b*18446744073709551616:=bR _ h;rw[eD 18446744073709551616 b];omega
 unfold Fix.quo;rw[aD oZ,aD oZ,e,zX (by unfold Fix.top Fix.one;omega)];exact⟨rfl,by unfold Fix.one;omega⟩
theorem anP(a b:Nat)(f:a<=Fix.top)(g:b<=Fix.top)(w:World):Calls prog 246 #[.int .u64 a,.int .u64 b] w λe w'=>e=.returned (.int .u64 (Fix.quo a b))/\∃n,w'=w.drewN n:=by
 unfold Fix.top at f g;rcases gI a with c|c
 .subst c;exact asW b w
 have s:((a:Int)==0)=false:=by simp;omega
 by_cases h:b<=a/4294967296
 .have hv:=qZ (arQ a b c h);have i:decide ((b:Int)<=(a:Int)/4294967296)=true:=by simp;omega
  clear h;go_enter func246,ntmps246;go_wp2;go_ret;exact⟨gP (by rw[hv.out];rfl),⟨0,rfl⟩⟩
 .have j:=apd a b c f oZ;have i:decide ((b:Int)<=(a:Int)/4294967296)=false:=by simp;omega
  have d:∀w:World,Calls prog 281 #[.int .u64 (a/4294967296:Nat),.int .u64 (a*4294967296%18446744073709551616:Nat),.int .u64 b] w (LJ (Fix.quo a b) w):=λw=>by rw[<-j.1];exact anw _ _ b oZ oZ g w
  obtain⟨hi,k⟩:=nZ (a/4294967296);obtain⟨lo,l⟩:=nZ (a*4294967296%18446744073709551616);rw[k,l]at d;have e1:(a:Int)/4294967296=(hi:Int):=oZ;have e2:IntKind.u64.wrap ((a:Int)*4294967296)=(lo:Int):=xC _ _ oZ;have u:decide (b<=hi)=false:=by simp;omega
  clear i;have o:=qZ d;clear d j k l h;go_enter func246,ntmps246;go_wp2_with fail;refine(o _).mono ?_;rintro e w1⟨⟨r,rfl⟩,n,m⟩;have p:=qZ m;clear m;go_wp2;go_ret;exact⟨rfl,⟨n,p⟩⟩
theorem asP(a b:Nat)(c:a<=Fix.top)(d:b<=Fix.top)(w:World):Calls prog 239 #[.int .u64 a,.int .u64 b] w λe w'=>e=.returned (.int .u64 (Fix.quo a b))/\∃n,w'=w.drewN n:=by have i:=qZ (λw=>anP a b c d w);unfold Fix.top at c d;go_enter func239,ntmps239;go_wp2_with fail;refine(i.out _).mono ?_;rintro e w1⟨rfl,n,f⟩;have g:=qZ f;clear f;go_wp2;go_ret;exact⟨rfl,⟨n,g⟩⟩
theorem ahH(a:Int):∃m:Nat,max a 0=(m:Int)/\a.toNat=m:=⟨a.toNat,oZ,rfl⟩
theorem abQ(a b:Int)(l: -9223372036854775808<=a)(o:a<=9223372036854775807)(p: -9223372036854775808<=b)(r:b<=9223372036854775807)(w:World):Calls prog 213 #[a,b] w λe w'=>e=.returned (.int .u64 (qR a b))/\∃n,w'=w.drewN n:=by
 obtain⟨m,v,d⟩:=ahH a;obtain⟨k,s,c⟩:=ahH b;have x:m<=9223372036854775807:=oZ;have u:k<=9223372036854775807:=oZ;have j:=qZ (λw=>anP m k (by unfold Fix.top;omega) (by unfold Fix.top;omega) w);have hv:qR a b=Fix.quo m k:=by unfold qR;rw[d,c]
 have i:=qZ hv;clear hv d c;go_enter func213,ntmps213;go_wp2_with fail;refine(j.out _).mono ?_;rintro e w1⟨rfl,n,f⟩;have g:=qZ f;clear f;go_wp2;go_ret;exact⟨gP (by rw[i.out]),⟨n,g⟩⟩
theorem ajL(a b:Nat)(c:a<=Fix.top)(d:b<=Fix.top):bW prog 168 #[.int .u64 a,.int .u64 b] (.int .u64 (Fix.mul a b)):=.of_eq λw=>ahG a b c d w
theorem BR(a b:Nat)(c:a<=Fix.top)(d:b<=Fix.top):bW prog 169 #[.int .u64 a,.int .u64 b] (.int .u64 (Fix.add a b)):=.of_eq λw=>ath a b c d w
theorem aut(a b:Nat)(c:a<=Fix.top)(d:b<=Fix.top):bW prog 239 #[.int .u64 a,.int .u64 b] (.int .u64 (Fix.quo a b)):=.KS λw=>asP a b c d w
theorem gof(n:Int)(a: -9223372036854775808<=n)(b:n<=9223372036854775807):bW prog 20 #[n] (.int .u64 (Fix.ofInt n)):=.of_eq λw=>AR n a b w
theorem amV(a b:Int)(c: -9223372036854775808<=a)(d:a<=9223372036854775807)(e: -9223372036854775808<=b)(f:b<=9223372036854775807):bW prog 213 #[a,b] (.int .u64 (qR a b)):=.KS λw=>abQ a b c d e f w
end sK
namespace akI
open Go.RowKit L
def atx:Array Value:=#[.int .u64 3037000499,.int .u64 3611622602,.int .u64 3938502375,.int .u64 4112874772,.int .u64 4202935002,.int .u64 4248701964,.int .u64 4271771996,.int .u64 4283353945,.int .u64 4289156689,.int .u64 4292061009,.int .u64 4293513906,.int .u64 4294240539,.int .u64 4294603902,.int .u64 4294785595,.int .u64 4294876444,.int .u64 4294921869]
def atw:Value:=.agg atx
theorem alk(k:Nat)(h:k<16):∀w:World,(Instr.index 279 atw (.int .i64 (k:Int))).run prog w=.ok (.int .u64 (Dec.t k:Int)) w:=by
 have:k=0\/k=1\/k=2\/k=3\/k=4\/k=5\/k=6\/k=7\/k=8\/k=9\/k=10\/k=11\/k=12\/k=13\/k=14\/k=15:=by omega
 rcases this with rfl|rfl|rfl|rfl|rfl|rfl|rfl|rfl|rfl|rfl|rfl|rfl|rfl|rfl|rfl|rfl<;>(intro w;kernel_rfl)
theorem alj(w:World):Calls prog 214 #[] w λe w'=>e=.returned atw/\Below w w w':=by go_enter func214,ntmps214;go_wp2;go_returns;exact⟨rfl,kp⟩
theorem atd(f i:Nat)(d:f<65536)(hi:i<=15):(bits BinOp.and IntKind.u64 (f:Int) (IntKind.u64.wrap (2 ^ i)) !=0)=decide (f/2 ^ i%2=1):=by
 have b:(2:Nat) ^ i<=2 ^ 15:=Nat.pow_le_pow_right oZ hi;have c:(2:Nat) ^ 15=32768:=dZ;have e1:IntKind.u64.wrap (2 ^ i)=((2 ^ i:Nat):Int):=by have e:((2:Int) ^ i)=((2 ^ i:Nat):Int):=sZ;rw[e];exact L.wrap_small IntKind.u64 rfl (2 ^ i) (by show _<18446744073709551616;omega)
 rw[e1,rQ IntKind.u64 rfl _ _ (by show _<18446744073709551616;omega) (by show _<18446744073709551616;omega),<-Nat.testBit_eq_decide_div_mod_eq];by_cases h:f.testBit i=true
 .have:f&&& 2 ^ i≠0:=λe=>by have:=dA (λn:Nat=>n.testBit i) e;simp only[Nat.testBit_and,h,Nat.testBit_two_pow_self,Bool.and_self,Nat.zero_testBit]at this;cases this
  rw[h,bne_iff_ne];omega
 .have:f&&& 2 ^ i=0:=by
   apply Nat.eq_of_testBit_eq;intro j;rw[Nat.testBit_and,Nat.testBit_two_pow,Nat.zero_testBit];by_cases a:i=j
   .subst a;simp[h]
   .simp[a]
  rw[this];simp at h;rw[h];rfl
theorem ajW(aK aI:Int)(N: -9223372036854775808<=aK)(O:aK<=9223372036854775807)(T: -9223372036854775808<=aI)(W:aI<=9223372036854775807)(w:World):Calls prog 165 #[aK,aI] w λe w'=>e=.returned (.int .u64 (nX aK aI:Int))/\Below w w w':=by
 obtain⟨a,Y,g⟩:∃a:Nat,max aK 0=(a:Int)/\max aK 0=(a:Int):=⟨(max aK 0).toNat,oZ,oZ⟩;obtain⟨h,aa,l⟩:∃h:Nat,max aI 1=(h:Int)/\max aI 1=(h:Int):=⟨(max aI 1).toNat,oZ,oZ⟩;have ae:0<h:=oZ;have Z:a<=9223372036854775807:=oZ;have ab:h<=9223372036854775807:=oZ;obtain⟨q,J⟩:∃q:Nat,(a:Int)/(h:Int)=(q:Int):=⟨a/h,sZ⟩;have ag:q<=9223372036854775807:=by have:(a:Int)/(h:Int)<=(a:Int):=Int.ediv_le_self _ oZ;omega
 obtain⟨r,L⟩:∃r:Nat,(a:Int)%(h:Int)=(r:Int):=⟨a%h,sZ⟩;have ah:r<h:=by have:=Int.emod_lt_of_pos (a:Int) (show(0:Int)<h by omega);omega
 have hv:nX aK aI=Dec.rounds (QU r h) 16/2 ^ q:=by unfold nX Dec.fac;rw[g,l,L,J];simp
 have o:63<q->nX aK aI=0:=λaf=>by unfold nX;rw[g,l];exact asJ _ _ oZ
 clear g l;have d:=qZ hv;have y:=qZ o;clear hv o;by_cases K:63<q
 .go_enter func165,ntmps165;go_wp2_with fail;go_ret;exact⟨gP (by rw[y.out K];rfl),aJ _ _⟩
 have v:=sK.amV (r:Int) (h:Int) oZ oZ oZ oZ;have p:=asG (r:Int) (h:Int) oZ oZ;have M:=aex (r:Int) (h:Int) oZ oZ;obtain⟨F,hF⟩:=nZ (qR (r:Int) (h:Int));obtain⟨f,j⟩:=nZ (QU (r:Int) (h:Int));have Q:(F:Int)/65536=(f:Int):=by rw[<-j,<-hF];unfold QU;omega
 rw[hF]at v M;rw[j]at p d;clear hF j;go_enter func165,ntmps165;go_wp2_with fail;refine(v _).mono ?_;rintro e w1⟨rfl,A⟩;go_wp2_with fail;refine(alj _).mono ?_;rintro e ai⟨rfl,H⟩;go_wp2_with fail
 go_loop [6,24] (λx i=>∃k:Nat,k<=16/\i=.int .i64 (k:Int)/\x=.int .u64 (Dec.rounds f k:Int)) (λ_ i=>16-(intOf i).toNat)
 case atStart=>exact⟨0,oZ,rfl,rfl⟩
 case round=>
  obtain⟨k,ad,rfl,rfl⟩:=hrel;by_cases I:k<16
  .have hi:=alk k I;have c:=CZ f k;unfold Fix.one at c;have n:=atd f (15-k) p oZ;have s:=sK.ajL (Dec.rounds f k) (Dec.t k) (by unfold Fix.top;omega) (aqS k);have u:∀w:World,Calls prog 168 #[.int .u64 (Dec.rounds f k:Int),.int .u64 (Dec.t k:Int)] w λe w'=>e=.returned (.int .u64 (Fix.mul (Dec.rounds f k) (Dec.t k):Nat))/\w=w':=λw=>sK.ahG _ _ (by unfold Fix.top;omega) (aqS k) w;by_cases b:f/2 ^ (15-k)%2=1
   .have m:=qY (Dec.rounds f (k+1)=Fix.mul (Dec.rounds f k) (Dec.t k)) (by show Dec.stp _ _ _=_;unfold Dec.stp;rw[aG b]);rw[decide_eq_true b]at n;clear b s;go_wp2_with fail;refine(u _).mono ?_;rintro e aj⟨rfl,rfl⟩;go_wp2_with fail
    go_round
    case rel=>exact⟨k+1,oZ,mZ,by rw[m.out]⟩
    case measure=>simp[intOf];omega
   .have m:=qY (Dec.rounds f (k+1)=Dec.rounds f k) (by show Dec.stp _ _ _=_;unfold Dec.stp;rw[aD b]);rw[eG b]at n;clear b s u;go_wp2_with fail
    go_round
    case rel=>exact⟨k+1,oZ,mZ,by rw[m.out]⟩
    case measure=>simp[intOf];omega
  .obtain rfl:k=16:=by omega
   have c:=CZ f 16;unfold Fix.one at c;obtain⟨X,z⟩:=nZ (Dec.rounds f 16);rw[z]at c d⊢;go_wp2_with fail;go_ret;exact⟨gP (by rw[d.out];simp),aA A H⟩
end akI
end Go.Proofs.YtedmeglbjmdlhaaGreatDoor
