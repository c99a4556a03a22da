/-
Parts that the laws of the whole program share: contracts of its functions, and plain laws.
-/
import Derived.Test.YtedmeglbjmdlhaaGreatDoorG3
import Derived.Test.YtedmeglbjmdlhaaGreatDoorG11
import Derived.Test.YtedmeglbjmdlhaaGreatDoorG7
set_option maxRecDepth 100000
set_option maxHeartbeats 16000000
set_option linter.all false
open Go.Proofs.Tryz
namespace Go.Proofs.YtedmeglbjmdlhaaGreatDoor
open Cfg Fix L Top Vec bU jN sK
namespace jN
open Go.RowKit L
def In64(v:Vec.V):Prop:=((-9223372036854775808<=v.x/\v.x<=9223372036854775807)/\(-9223372036854775808<=v.y/\v.y<=9223372036854775807))/\(-9223372036854775808<=v.z/\v.z<=9223372036854775807)
theorem rat(a b:Int)(c: -9223372036854775808<=a)(d:a<=9223372036854775807)(f: -9223372036854775808<=b)(g:b<=9223372036854775807):∃r:Nat,qR a b=r/\∀w:World,Calls prog 213 #[a,b] w λe w'=>e=.returned (.int .u64 r)/\∃n,w'=w.drewN n:=
 ⟨_,rfl,λw=>sK.abQ a b c d f g w⟩
theorem auC(u a:Vec.V)(b r1 r2:Nat)(c:qR u.x a.x=b)(e1:qR u.y a.y=r1)(e2:qR u.z a.z=r2):((Vec.dom u a:Nat):Int)=max (max (max 0 (if 0<u.x then(b:Int)else 0)) (if 0<u.y then(r1:Int)else 0)) (if 0<u.z then(r2:Int)else 0):=by unfold Vec.dom GL;rw[c,e1,e2];split<;>split<;>split<;>omega
theorem axx(u a:Vec.V)(y:In64 u)(x:In64 a):bW prog 173 #[u.val,a.val] (.int .u64 (Vec.dom u a)):=by
 obtain⟨u0,u1,u2⟩:=u;obtain⟨a0,a1,a2⟩:=a;obtain⟨⟨⟨n,o⟩,⟨p,r⟩⟩,⟨s,v⟩⟩:=y;obtain⟨⟨⟨g,i⟩,⟨j,k⟩⟩,⟨l,m⟩⟩:=x;obtain⟨z,f,b⟩:=rat u0 a0 n o g i;obtain⟨r1,e1,c⟩:=rat u1 a1 p r j k;obtain⟨r2,e2,d⟩:=rat u2 a2 s v l m;have hv:=qZ (auC ⟨u0,u1,u2⟩ ⟨a0,a1,a2⟩ z r1 r2 f e1 e2);clear f e1 e2 n o p r s v g i j k l m;intro w;unfold Vec.V.val;obtain⟨i0,I,J⟩:=idx u0 u1 u2;by_cases A:0<u0<;>by_cases F:0<u1<;>by_cases H:0<u2
 .go_enter func173,ntmps173;go_wp2;refine wp_loop_rounds 4 ?_;rw[rounds_succ];go_wp2_with fail;refine(b _).mono ?_;rintro e w'⟨rfl,n0,rfl⟩;go_wp2;rw[rounds_succ];go_wp2_with fail;refine(c _).mono ?_;rintro e w'⟨rfl,n1,rfl⟩;go_wp2;rw[rounds_succ];go_wp2_with fail;refine(d _).mono ?_;rintro e w'⟨rfl,n2,rfl⟩;go_wp2;rw[rounds_succ];go_wp2;go_returns;exact⟨gP (by rw[hv.out];repeat' split<;>omega),kp⟩
 .go_enter func173,ntmps173;go_wp2;refine wp_loop_rounds 4 ?_;rw[rounds_succ];go_wp2_with fail;refine(b _).mono ?_;rintro e w'⟨rfl,n0,rfl⟩;go_wp2;rw[rounds_succ];go_wp2_with fail;refine(c _).mono ?_;rintro e w'⟨rfl,n1,rfl⟩;go_wp2;rw[rounds_succ];go_wp2;rw[rounds_succ];go_wp2;go_returns;exact⟨gP (by rw[hv.out];repeat' split<;>omega),kp⟩
 .go_enter func173,ntmps173;go_wp2;refine wp_loop_rounds 4 ?_;rw[rounds_succ];go_wp2_with fail;refine(b _).mono ?_;rintro e w'⟨rfl,n0,rfl⟩;go_wp2;rw[rounds_succ];go_wp2;rw[rounds_succ];go_wp2_with fail;refine(d _).mono ?_;rintro e w'⟨rfl,n2,rfl⟩;go_wp2;rw[rounds_succ];go_wp2;go_returns;exact⟨gP (by rw[hv.out];repeat' split<;>omega),kp⟩
 .go_enter func173,ntmps173;go_wp2;refine wp_loop_rounds 4 ?_;rw[rounds_succ];go_wp2_with fail;refine(b _).mono ?_;rintro e w'⟨rfl,n0,rfl⟩;go_wp2;rw[rounds_succ];go_wp2;rw[rounds_succ];go_wp2;rw[rounds_succ];go_wp2;go_returns;exact⟨gP (by rw[hv.out];repeat' split<;>omega),kp⟩
 .go_enter func173,ntmps173;go_wp2;refine wp_loop_rounds 4 ?_;rw[rounds_succ];go_wp2;rw[rounds_succ];go_wp2_with fail;refine(c _).mono ?_;rintro e w'⟨rfl,n1,rfl⟩;go_wp2;rw[rounds_succ];go_wp2_with fail;refine(d _).mono ?_;rintro e w'⟨rfl,n2,rfl⟩;go_wp2;rw[rounds_succ];go_wp2;go_returns;exact⟨gP (by rw[hv.out];repeat' split<;>omega),kp⟩
 .go_enter func173,ntmps173;go_wp2;refine wp_loop_rounds 4 ?_;rw[rounds_succ];go_wp2;rw[rounds_succ];go_wp2_with fail;refine(c _).mono ?_;rintro e w'⟨rfl,n1,rfl⟩;go_wp2;rw[rounds_succ];go_wp2;rw[rounds_succ];go_wp2;go_returns;exact⟨gP (by rw[hv.out];repeat' split<;>omega),kp⟩
 .go_enter func173,ntmps173;go_wp2;refine wp_loop_rounds 4 ?_;rw[rounds_succ];go_wp2;rw[rounds_succ];go_wp2;rw[rounds_succ];go_wp2_with fail;refine(d _).mono ?_;rintro e w'⟨rfl,n2,rfl⟩;go_wp2;rw[rounds_succ];go_wp2;go_returns;exact⟨gP (by rw[hv.out];repeat' split<;>omega),kp⟩
 .go_enter func173,ntmps173;go_wp2;refine wp_loop_rounds 4 ?_;rw[rounds_succ];go_wp2;rw[rounds_succ];go_wp2;rw[rounds_succ];go_wp2;rw[rounds_succ];go_wp2;go_returns;exact⟨gP (by rw[hv.out];repeat' split<;>omega),kp⟩
end jN
namespace bU
open Go Go.Proofs.YtedmeglbjmdlhaaGreatDoor
theorem tO(n:Int): -1099511627776<=Vec.cut n 1099511627776/\Vec.cut n 1099511627776<=1099511627776:=by unfold Vec.cut;omega
theorem afZ(a b:Vec.V):jN.In64 (Vec.add a b):=by
 have c:=tO (Vec.cut a.x 1099511627776+Vec.cut b.x 1099511627776);have d:=tO (Vec.cut a.y 1099511627776+Vec.cut b.y 1099511627776);have e:=tO (Vec.cut a.z 1099511627776+Vec.cut b.z 1099511627776);refine⟨⟨?_,?_⟩,?_⟩
 .show _<=Vec.add1 a.x b.x/\Vec.add1 a.x b.x<=_;unfold Vec.add1;omega
 .show _<=Vec.add1 a.y b.y/\Vec.add1 a.y b.y<=_;unfold Vec.add1;omega
 .show _<=Vec.add1 a.z b.z/\Vec.add1 a.z b.z<=_;unfold Vec.add1;omega
theorem abr:jN.In64 Vec.zero:=by unfold jN.In64 Vec.zero;decide
theorem aiu(c:Cfg.C):jN.In64 (Cfg.oV c):=by
 unfold Cfg.oV;have:∀(l:List gW) (v:Vec.V),jN.In64 v->jN.In64 (l.foldl (λv h=>Vec.add v h.cap) v):=by
  intro l;induction l with
  |nil=>exactλv h=>h
  |cons x t a=>exactλv _=>a _ (afZ _ _)
 exact this _ _ abr
theorem akV(c:Cfg.C)(rs:List Top.R):∀x∈Top.used c rs,jN.In64 x:=by
 have f:∀(l:List Top.R) (u:Led.U),(∀i,jN.In64 (u i))->∀i,jN.In64 (l.foldl (λu r=>Led.change c u r.p.dN λa=>Vec.add a (jT r.p)) u i):=by
  intro l;induction l with
  |nil=>exactλu h=>h
  |cons r t e=>
   intro u h;refine e _ (λi=>?_);show jN.In64 (Led.change c u r.p.dN (λa=>Vec.add a (jT r.p)) i);unfold Led.change;by_cases b:iC c r.p.dN=true
   .rw[aG b];unfold Led.bump;split
    .exact afZ _ _
    .exact h i
   .rw[aD b];exact h i
 intro x d;unfold Top.used Led.all at d;obtain⟨i,_,rfl⟩:=bL.1 d;exact f rs _ (λi=>abr) i
end bU
end Go.Proofs.YtedmeglbjmdlhaaGreatDoor
