/-
Parts that the laws of the whole program share: contracts of its functions, and plain laws.
-/
import Derived.Test.YtedmeglbjmdlhaaGreatDoorProg
import Derived.Test.YtedmeglbjmdlhaaGreatDoorG7
import Derived.Test.YtedmeglbjmdlhaaGreatDoorG2
set_option maxRecDepth 100000
set_option maxHeartbeats 16000000
set_option linter.all false
open Go.Proofs.Tryz
namespace Go.Proofs.YtedmeglbjmdlhaaGreatDoor
open L Top bU
namespace bU
open Go Go.RowKit L
theorem aqC:(prog.info? 5).map (λi=>(i.zero,i.size,i.bytes))=some (some (.int .u8 0),1,1):=by kernel_rfl
theorem alL(w:World){n:Int}(g:0<=n/\n<=127):∃v' a,(Builtin.append_ #[239,239] 239 #[true,.slice w 1 1]).run prog (w.alloc (.cells #[.int .u8 n] 5))=.ok v' a/\(convert 239 9 v').run prog a=.ok (.string (str [Top.byte n])) a/\Below w w a:=by
 obtain⟨i0,hi,m,o,p⟩:=info_parts aqC;have d:=afL g;have c:Below w w (w.alloc (.cells #[.int .u8 n] 5)):=bZ;have i:Src prog 1 239 (.slice w 1 1) 1 (cellsOf [Top.byte n]) (w.alloc (.cells #[.int .u8 n] 5)):=by
  refine Src.ofSlice _ underlying239 ⟨w,0,none⟩ 1 1 (cellsOf [Top.byte n]) rfl (λj u b=>?_) (UU _);cases j with
  |zero=>
   have e:u=.int .u8 n:=by simpa[cellsOf,d]using b.symm
   rw[e,addr_add,World.cell?_alloc_mark];rfl
  |succ j=>simp[cellsOf]at b
 obtain⟨v',a,e1,e2,e3,e4⟩:=vX (l:=[]) (new:=[Top.byte n]) 239 239 239 5 i0 underlying239 hi m o p (mD.nil (w.alloc (.cells #[.int .u8 n] 5)) (w:Nat)) sZ i sZ;exact⟨v',a,e1,KN 239 9 5 underlying239 underlying5 underlying9 e2,c.grown e3 sZ (λk f=>by cases f)⟩
theorem ape{n:Int}(a:0<=n/\n<=127):bW prog 266 #[n] (.string (str [Top.byte n])):=by
 intro w;obtain⟨v',d,e1,e2,e3⟩:=alL w a;have c:=qZ e3;have b:=qZ e1;have i:max n 0=n:=oZ;have j:IntKind.u8.wrap n=n:=by simp only[IntKind.wrap,IntKind.bits,IntKind.signed];simp;omega
 have g:decide (n>127)=false:=by simp;omega
 obtain⟨e,f⟩:=a;clear e3 e1;go_enter func266,ntmps266;go_wp2_with fail;refine wp_loop_rounds 1 ?_;rw[rounds_succ];go_wp2_with(at_builtin;refine dJ rfl (.tmp 16) (.tmp 19) _ _ rfl (.slice none 0 0) (.slice w 1 1) rfl rfl b ?_);go_ret;exact⟨rfl,c⟩
theorem aqF{n:Int}(a:0<=n/\n<=127):bits .and .u8 n 127=n:=by
 obtain⟨m,rfl⟩:∃m:Nat,n=m:=⟨n.toNat,oZ⟩;have h:=rQ .u8 rfl m 127 (by show m<256;omega) dZ;have e:m&&& 127=m:=by have:m&&& 127=m%128:=Nat.and_two_pow_sub_one_eq_mod m 7;omega
 rw[e]at h;exact h
theorem aqE{n:Int}(a:0<=n/\n<=127):bits .or .i64 0 n=n:=by obtain⟨m,rfl⟩:∃m:Nat,n=m:=⟨n.toNat,oZ⟩;show IntKind.i64.wrap (((BitVec.ofInt 64 0|||BitVec.ofInt 64 (m:Int)).toNat:Nat):Int)=m;rw[show BitVec.ofInt 64 0=0#64 from rfl,BitVec.zero_or,toNat_ofInt 64 m oZ];simp only[IntKind.wrap,IntKind.bits,IntKind.signed];simp;omega
theorem aqg{n:Int}(a:0<=n/\n<=127)(t:List UInt8)(r:t.length<=1000000):bW prog 311 #[.string (str (Top.byte n::t))] (.tuple #[n,(1:Int),()]):=by
 intro w;have c:(str (Top.byte n::t)).size=t.length+1:=by rw[pF,List.length_cons]
 obtain⟨s,b⟩:=nZ (str (Top.byte n::t));rw[b]at c⊢;have k:∀w,(Instr.index 9 (.string s) (.int .i64 0)).run prog w=.ok (.int .u8 n) w:=λw=>by
  have h:=vJ 9 underlying9 s .i64 0 oZ w;have e:((s[0]'oZ).toNat:Int)=n:=by subst b;exact afL a
  rw[e]at h;exact h
 have m:¬min (s.size:Int) 9<=0:=oZ;have o:0<min (s.size:Int) 9:=oZ;have l:=aqF a;have j:=aqE a;have i:decide (n<128)=true:=by simp;omega
 obtain⟨f,g⟩:=a;clear b c;by_cases d:n=0
 .subst d;clear i f g;go_enter func311,ntmps311;go_wp2_with fail;refine wp_loop_rounds 1 ?_;rw[rounds_succ];go_wp2_with fail;all_goals first
   |(exfalso;omega)
   |(go_ret3;exact⟨rfl,aJ _ _⟩)
   |(rw[j];go_ret3;exact⟨rfl,aJ _ _⟩)
 .have p:(n==0)=false:=by simpa using d
  go_enter func311,ntmps311;go_wp2_with fail;refine wp_loop_rounds 1 ?_;rw[rounds_succ];go_wp2_with fail;all_goals first
   |(exfalso;omega)
   |(go_ret3;exact⟨rfl,aJ _ _⟩)
end bU
end Go.Proofs.YtedmeglbjmdlhaaGreatDoor
