/-
Parts that the laws of the whole program share: contracts of its functions, and plain laws.
-/
import Derived.Test.YtedmeglbjmdlhaaGreatDoorRows
import Derived.Test.YtedmeglbjmdlhaaGreatDoorG2
import Derived.Test.YtedmeglbjmdlhaaGreatDoorG1
import Derived.Test.YtedmeglbjmdlhaaGreatDoorShelf
import Derived.Shelf.Spec.BitsCarry
set_option maxRecDepth 100000
set_option maxHeartbeats 16000000
set_option linter.all false
open Go.Proofs.Tryz
namespace Go.Proofs.YtedmeglbjmdlhaaGreatDoor
open Fix L sK
namespace sK
open Go.RowKit L
theorem ase(hi lo:Nat)(h:hi<4294967296)(a:lo<18446744073709551616):bits .or .u64 ((hi:Int)*4294967296) ((lo:Int)/4294967296)=((hi*4294967296+lo/4294967296:Nat):Int):=by have e1:((hi:Int)*4294967296)=((hi*4294967296:Nat):Int):=oZ;have e2:((lo:Int)/4294967296)=((lo/4294967296:Nat):Int):=oZ;rw[e1,e2,uX .u64 rfl _ _ (by show _<18446744073709551616;omega) (by show _<18446744073709551616;omega)];congr 1;rw[eD];exact(jP (i:=32) oZ _).symm
theorem ahG(a b:Nat)(d:a<=Fix.top)(f:b<=Fix.top)(w:World):Calls prog 168 #[.int .u64 a,.int .u64 b] w λe w'=>e=.returned (.int .u64 (Fix.mul a b))/\w=w':=by
 unfold Fix.top at d f;have k:∀w:World,Calls prog 215 #[.int .u64 a,.int .u64 b] w λe w'=>e=.returned (.tuple #[.int .u64 ((a*b/18446744073709551616:Nat):Int),.int .u64 ((a*b%18446744073709551616:Nat):Int)])/\w'=w:=λw=>Tryz.bits_Mul64 a b oZ oZ w;have c:a*b%18446744073709551616<18446744073709551616:=jS _ oZ;have i:a*b/18446744073709551616<18446744073709551616:=by apply Nat.div_lt_of_lt_mul;have:a*b<=18446744073709551615*18446744073709551615:=Nat.mul_le_mul d f;omega
 have l:a*b/4294967296=a*b/18446744073709551616*4294967296+a*b%18446744073709551616/4294967296:=oZ;obtain⟨hi,g⟩:=nZ (a*b/18446744073709551616);obtain⟨lo,j⟩:=nZ (a*b%18446744073709551616);rw[g,j]at k l;rw[j]at c;rw[g]at i;have hv:Fix.mul a b=Fix.cut (hi*4294967296+lo/4294967296):=by unfold Fix.mul Fix.one;rw[l]
 have m:=qZ k;have n:=qZ hv;have o:=qZ c;have p:=qZ i;clear k l g j hv c i d f;by_cases h:hi<4294967296
 .go_enter func168,ntmps168;go_wp2_with fail;refine(m _).mono ?_;rintro e w1⟨rfl,rfl⟩;go_wp2;go_ret;have c:=o.out;refine⟨gP ?_,rfl⟩;rw[n.out,ase hi lo h c,zX (by unfold Fix.top;omega)]
 .go_enter func168,ntmps168;go_wp2_with fail;refine(m _).mono ?_;rintro e w1⟨rfl,rfl⟩;go_wp2;go_ret;refine⟨gP ?_,rfl⟩;rw[n.out,LB (by unfold Fix.top;omega)];rfl
theorem aao(a b:Nat)(w:World):(callFunc 216 #[.int .u64 a,.int .u64 b,.int .u64 0]).run prog w=.ok (.value (.tuple #[.int .u64 (((a+b)%18446744073709551616:Nat):Int),.int .u64 (((a+b)/18446744073709551616:Nat):Int)])) w:=by rw[run_callFunc_extern func216 kZ kZ kZ (e:=add64Entry) kZ,run_add64 a b 0 oZ oZ oZ oZ];simp only[Result.andThen];congr 5<;>omega
theorem EY(c:Bool)(a b:Int)(w:World):Calls prog 217 #[.bool c,.int .u64 a,.int .u64 b] w λe w'=>e=.returned (.int .u64 (if c then a else b))/\w=w':=by
 cases c
 .go_enter func217,ntmps217;go_wp2;go_ret;exact⟨rfl,rfl⟩
 .go_enter func217,ntmps217;go_wp2;go_ret;exact⟨rfl,rfl⟩
theorem adV(a b:Nat)(h:a+b<=18446744073709551615):(a+b)%18446744073709551616=a+b/\(a+b)/18446744073709551616=0:=by omega
theorem aln(a b:Nat)(c:a<=18446744073709551615)(d:b<=18446744073709551615)(h:¬a+b<=18446744073709551615):(a+b)/18446744073709551616=1:=by omega
theorem ath(a b:Nat)(d:a<=Fix.top)(f:b<=Fix.top)(w:World):Calls prog 169 #[.int .u64 a,.int .u64 b] w λe w'=>e=.returned (.int .u64 (Fix.add a b))/\w=w':=by
 have hv:Fix.add a b=if a+b<=18446744073709551615 then a+b else 18446744073709551615:=rfl;have i:=qZ hv;have j:∃s c:Nat,(∀w:World,(callFunc 216 #[.int .u64 a,.int .u64 b,.int .u64 0]).run prog w=.ok (.value (.tuple #[.int .u64 (s:Int),.int .u64 (c:Int)])) w)/\c<=1/\Hid (Fix.add a b=if 0<c then 18446744073709551615 else s):=by
  unfold Fix.top at d f;by_cases h:a+b<=18446744073709551615
  .refine⟨a+b,0,λw=>by rw[aao,(adV a b h).1,(adV a b h).2],oZ,?_⟩;exact qZ (by rw[hv,aG h,aD oZ])
  .refine⟨(a+b)%18446744073709551616,1,λw=>by rw[aao,aln a b d f h],oZ,?_⟩;exact qZ (by rw[hv,aD h,aG oZ])
 obtain⟨s,c,l,k,g⟩:=j;clear hv i d f;by_cases h:0<c
 .go_enter func169,ntmps169;go_wp2_with fail;refine(EY _ _ _ _).mono ?_;rintro e w1⟨rfl,rfl⟩;go_wp2_with fail;go_ret;exact⟨gP (by rw[g.out,aG h];rfl),rfl⟩
 .go_enter func169,ntmps169;go_wp2_with fail;refine(EY _ _ _ _).mono ?_;rintro e w1⟨rfl,rfl⟩;go_wp2_with fail;go_ret;exact⟨gP (by rw[g.out,aD h]),rfl⟩
theorem AR(n:Int)(b: -9223372036854775808<=n)(c:n<=9223372036854775807)(w:World):Calls prog 20 #[n] w λe w'=>e=.returned (.int .u64 (Fix.ofInt n))/\w=w':=by
 by_cases h:n<=0
 .go_enter func20,ntmps20;go_wp2;go_ret;exact⟨gP (by rw[Fix.ofInt,aG h];rfl),rfl⟩
 by_cases a:4294967296<=n
 .go_enter func20,ntmps20;go_wp2;go_ret;exact⟨gP (by rw[Fix.ofInt,aD oZ,aG (by simp only[Fix.one];omega)];rfl),rfl⟩
 .go_enter func20,ntmps20;go_wp2;go_ret;exact⟨gP (by rw[Fix.ofInt,aD oZ,aD (by simp only[Fix.one];omega)];simp only[Fix.one];omega),rfl⟩
end sK
end Go.Proofs.YtedmeglbjmdlhaaGreatDoor
