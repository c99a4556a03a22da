/-
Parts that the laws of the whole program share: contracts of its functions, and plain laws.
-/
import Derived.Test.YtedmeglbjmdlhaaGreatDoorProg
import Derived.Test.YtedmeglbjmdlhaaGreatDoorG1
import Derived.Test.YtedmeglbjmdlhaaGreatDoorG2
import Derived.IntWalk
import Derived.Lib.Walk
import Derived.Deep.CutBlock
import Derived.Deep.DeepCutAuto
import Derived.Deep.MidRow
import Derived.Laws.StructEq
import Derived.Outline
set_option maxRecDepth 100000
set_option maxHeartbeats 16000000
set_option linter.all false
open Go.Proofs.Tryz
namespace Go.Proofs.YtedmeglbjmdlhaaGreatDoor
open Go
open Cfg L Ord Quo Top Vec bM jN sK
namespace jN
open Go.RowKit L
def _root_.Go.Proofs.YtedmeglbjmdlhaaGreatDoor.Vec.V.val(v:Vec.V):Value:=.agg #[v.x,v.y,v.z]
theorem idx(x y z:Int):(∀w:World,(Instr.index 40 (.agg #[x,y,z]) (.int .i64 0)).run prog w=.ok x w)/\(∀w:World,(Instr.index 40 (.agg #[x,y,z]) (.int .i64 1)).run prog w=.ok y w)/\(∀w:World,(Instr.index 40 (.agg #[x,y,z]) (.int .i64 2)).run prog w=.ok z w):=
 ⟨λ_=>kZ,λ_=>kZ,λ_=>kZ⟩
theorem VA(n m:Int)(w:World)(h:0<=m)(a:m<=1099511627776):Calls prog 93 #[n,m] w λe w'=>e=.returned (.int .i64 (Vec.cut n m))/\w=w':=by go_enter func93,ntmps93;go_wp2;go_ret;exact⟨rfl,rfl⟩
theorem auG(x y:Int)(w:World):Calls prog 92 #[x,y] w λe w'=>e=.returned (.int .i64 (Vec.add1 x y))/\w=w':=by have a1:=Vec.pR x 1099511627776 oZ;have a2:=Vec.pU x 1099511627776 oZ;have b1:=Vec.pR y 1099511627776 oZ;have b2:=Vec.pU y 1099511627776 oZ;go_enter func92,ntmps92;go_wp2_with(go_at_call 93;(with_reducible refine(VA _ _ _ oZ oZ).mono ?_);rintro e w'⟨rfl,rfl⟩);go_ret;exact⟨rfl,rfl⟩
theorem auF(x y:Int)(w:World):Calls prog 186 #[x,y] w λe w'=>e=.returned (.int .i64 (nA x y))/\w=w':=by have a1:=Vec.pR x 1099511627776 oZ;have a2:=Vec.pU x 1099511627776 oZ;have b1:=Vec.pR y 1099511627776 oZ;have b2:=Vec.pU y 1099511627776 oZ;go_enter func186,ntmps186;go_wp2_with(go_at_call 93;(with_reducible refine(VA _ _ _ oZ oZ).mono ?_);rintro e w'⟨rfl,rfl⟩);go_ret;exact⟨rfl,rfl⟩
theorem MN(x n:Int):∃p:Int,IntKind.i64.wrap (Vec.cut x 1099511627776*Vec.cut n 1048576)=p/\vN x n=Vec.cut p 1099511627776:=by
 refine⟨_,rfl,?_⟩;have a1:=Vec.pR x 1099511627776 oZ;have a2:=Vec.pU x 1099511627776 oZ;have b1:=Vec.pR n 1048576 oZ;have b2:=Vec.pU n 1048576 oZ;unfold vN;generalize Vec.cut x 1099511627776=u at*;generalize Vec.cut n 1048576=v at*;have h:(u*v).natAbs<=1099511627776*1048576:=by rw[Int.natAbs_mul];exact Nat.mul_le_mul oZ oZ
 rw[IntKind.wrap_i64];congr 1;omega
theorem air(n m:Int)(w:World)(h:0<=m)(a:m<=1099511627776):Calls prog 93 #[n,m] w λe w'=>e=.returned (.int .i64 (Vec.cut n m))/\w'=w:=
 (VA n m w h a).mono λ_ _ ⟨b,hw⟩=>⟨b,hw.symm⟩
theorem WO(x y n:Int)(b:Nat)(w:World)(a:w.cell? (b,0)=some (.int .i64 n)):Calls prog 150 #[x,y,.pointer b] w λe w'=>e=.returned (.int .i64 (vN x n))/\w.drew=w':=by obtain⟨p,c,hv⟩:=MN x n;rw[hv];clear hv;go_enter func150,ntmps150;go_wp2;refine aes kZ kZ ?_;(repeat first|still_step|still_call (air _ _ _ oZ oZ));refine wpStill_nil ?_;go_wp2;go_ret;exact⟨rfl,rfl⟩
theorem asO(a0 a1 a2 a b1 b2:Int)(w:World):Calls prog 91 #[.agg #[a0,a1,a2],.agg #[a,b1,b2],.func (.func 92) #[] #[]] w λe w'=>e=.returned (.agg #[(Vec.add1 a0 a:Int),(Vec.add1 a1 b1:Int),(Vec.add1 a2 b2:Int)])/\Below w w w':=by
 obtain⟨i0,b,c⟩:=idx a b1 b2;go_enter func91,ntmps91;go_wp2;refine wp_loop_rounds 4 ?_;repeat any_goals(rw[rounds_succ];go_wp2_with(go_at_call 92;(with_reducible refine(auG _ _ _).mono ?_);rintro e w'⟨rfl,rfl⟩))
 go_returns;exact⟨rfl,by go_grown⟩
theorem asN(a0 a1 a2 a b1 b2:Int)(w:World):Calls prog 91 #[.agg #[a0,a1,a2],.agg #[a,b1,b2],.func (.func 186) #[] #[]] w λe w'=>e=.returned (.agg #[(nA a0 a:Int),(nA a1 b1:Int),(nA a2 b2:Int)])/\Below w w w':=by
 obtain⟨i0,b,c⟩:=idx a b1 b2;go_enter func91,ntmps91;go_wp2;refine wp_loop_rounds 4 ?_;repeat any_goals(rw[rounds_succ];go_wp2_with(go_at_call 186;(with_reducible refine(auF _ _ _).mono ?_);rintro e w'⟨rfl,rfl⟩))
 go_returns;exact⟨rfl,by go_grown⟩
theorem BR(a b:Vec.V):bW prog 40 #[a.val,b.val] (Vec.add a b).val:=by
 obtain⟨a0,a1,a2⟩:=a;obtain⟨d,b1,b2⟩:=b;intro w;unfold Vec.V.val;go_enter func40,ntmps40;go_wp2_with fail;refine(asO _ _ _ _ _ _ _).mono ?_;rintro e w1⟨rfl,c⟩;have m:=aA (a:=w) kp c;have f:w1.cell? ((w:Nat)+1+1,0)=some (.int .i64 0):=(c.cell (p:=⟨(w:Nat)+1+1,0,none⟩) sZ).trans (by simp[go_sem]);have g:w1.cell? ((w:Nat)+1+1,1)=some (.int .i64 0):=(c.cell (p:=⟨(w:Nat)+1+1,1,none⟩) sZ).trans (by simp[go_sem]);have i:w1.cell? ((w:Nat)+1+1,2)=some (.int .i64 0):=(c.cell (p:=⟨(w:Nat)+1+1,2,none⟩) sZ).trans (by simp[go_sem]);have j:w1.frozen? ((w:Nat)+1+1,0)=false:=(c.frozen (p:=⟨(w:Nat)+1+1,0,none⟩) sZ).trans (by simp[go_sem]);have k:w1.frozen? ((w:Nat)+1+1,1)=false:=(c.frozen (p:=⟨(w:Nat)+1+1,1,none⟩) sZ).trans (by simp[go_sem]);have l:w1.frozen? ((w:Nat)+1+1,2)=false:=(c.frozen (p:=⟨(w:Nat)+1+1,2,none⟩) sZ).trans (by simp[go_sem]);have n:(w:Nat)+1+1<(w1:Nat):=by have:=c.size;simp at this;omega
 clear c;go_wp2;exact bodyPost_ret (v:=.agg #[(Vec.add1 a0 d:Int),(Vec.add1 a1 b1:Int),(Vec.add1 a2 b2:Int)]) (by simp[results,Tryz.results40,go_sem,f,g,i]) rfl ⟨rfl,kp⟩
theorem ajH(a b:Vec.V):bW prog 120 #[a.val,b.val] (Vec.sub a b).val:=by
 obtain⟨a0,a1,a2⟩:=a;obtain⟨d,b1,b2⟩:=b;intro w;unfold Vec.V.val;go_enter func120,ntmps120;go_wp2_with fail;refine(asN _ _ _ _ _ _ _).mono ?_;rintro e w1⟨rfl,c⟩;have m:=aA (a:=w) kp c;have f:w1.cell? ((w:Nat)+1+1,0)=some (.int .i64 0):=(c.cell (p:=⟨(w:Nat)+1+1,0,none⟩) sZ).trans (by simp[go_sem]);have g:w1.cell? ((w:Nat)+1+1,1)=some (.int .i64 0):=(c.cell (p:=⟨(w:Nat)+1+1,1,none⟩) sZ).trans (by simp[go_sem]);have i:w1.cell? ((w:Nat)+1+1,2)=some (.int .i64 0):=(c.cell (p:=⟨(w:Nat)+1+1,2,none⟩) sZ).trans (by simp[go_sem]);have j:w1.frozen? ((w:Nat)+1+1,0)=false:=(c.frozen (p:=⟨(w:Nat)+1+1,0,none⟩) sZ).trans (by simp[go_sem]);have k:w1.frozen? ((w:Nat)+1+1,1)=false:=(c.frozen (p:=⟨(w:Nat)+1+1,1,none⟩) sZ).trans (by simp[go_sem]);have l:w1.frozen? ((w:Nat)+1+1,2)=false:=(c.frozen (p:=⟨(w:Nat)+1+1,2,none⟩) sZ).trans (by simp[go_sem]);have n:(w:Nat)+1+1<(w1:Nat):=by have:=c.size;simp at this;omega
 clear c;go_wp2;exact bodyPost_ret (v:=.agg #[(nA a0 d:Int),(nA a1 b1:Int),(nA a2 b2:Int)]) (by simp[results,Tryz.results120,go_sem,f,g,i]) rfl ⟨rfl,kp⟩
theorem ant(a0 a1 a2 d b1 b2:Int)(w:World)(n:Int)(a:Nat)(c:a<(w:Nat))(b:w.cell? (a,0)=some (.int .i64 n)):Calls prog 91 #[.agg #[a0,a1,a2],.agg #[d,b1,b2],.func (.func 150) #[] #[.pointer a]] w λe w'=>e=.returned (.agg #[(vN a0 n:Int),(vN a1 n:Int),(vN a2 n:Int)])/\Below w w w':=by
 obtain⟨i0,j,k⟩:=idx d b1 b2;have f:¬a=(w:Nat):=oZ;have g:¬a=(w:Nat)+1:=oZ;have i:¬a=(w:Nat)+1+1:=oZ;go_enter func91,ntmps91;go_wp2;refine wp_loop_rounds 4 ?_;rw[rounds_succ];go_wp2_with fail;refine(WO _ _ n a _ ?_).mono ?_
 .exact(Below.cell (p:=⟨a,0,none⟩) kp c).trans b
 rintro e w'⟨rfl,rfl⟩;go_wp2_with fail;rw[rounds_succ];go_wp2_with fail;refine(WO _ _ n a _ ?_).mono ?_
 .exact(Below.cell (p:=⟨a,0,none⟩) kp c).trans b
 rintro e w'⟨rfl,rfl⟩;go_wp2_with fail;rw[rounds_succ];go_wp2_with fail;refine(WO _ _ n a _ ?_).mono ?_
 .exact(Below.cell (p:=⟨a,0,none⟩) kp c).trans b
 rintro e w'⟨rfl,rfl⟩;go_wp2_with fail;rw[rounds_succ];go_wp2;go_returns;exact⟨rfl,kp⟩
theorem auj(a:Vec.V)(n:Int):bW prog 90 #[a.val,n] (Vec.mM a n).val:=by
 obtain⟨a0,a1,a2⟩:=a;intro w;unfold Vec.V.val;go_enter func90,ntmps90;go_wp2_with fail;refine(ant _ _ _ _ _ _ _ n ((w:Nat)+1) sZ (by simp[go_sem])).mono ?_;rintro e w1⟨rfl,b⟩;have k:=aA (a:=w) kp b;have c:w1.cell? ((w:Nat)+1+1,0)=some (.int .i64 0):=(b.cell (p:=⟨(w:Nat)+1+1,0,none⟩) sZ).trans (by simp[go_sem]);have d:w1.cell? ((w:Nat)+1+1,1)=some (.int .i64 0):=(b.cell (p:=⟨(w:Nat)+1+1,1,none⟩) sZ).trans (by simp[go_sem]);have f:w1.cell? ((w:Nat)+1+1,2)=some (.int .i64 0):=(b.cell (p:=⟨(w:Nat)+1+1,2,none⟩) sZ).trans (by simp[go_sem]);have g:w1.frozen? ((w:Nat)+1+1,0)=false:=(b.frozen (p:=⟨(w:Nat)+1+1,0,none⟩) sZ).trans (by simp[go_sem]);have i:w1.frozen? ((w:Nat)+1+1,1)=false:=(b.frozen (p:=⟨(w:Nat)+1+1,1,none⟩) sZ).trans (by simp[go_sem]);have j:w1.frozen? ((w:Nat)+1+1,2)=false:=(b.frozen (p:=⟨(w:Nat)+1+1,2,none⟩) sZ).trans (by simp[go_sem]);have l:(w:Nat)+1+1<(w1:Nat):=by have:=b.size;simp at this;omega
 clear b;go_wp2;exact bodyPost_ret (v:=.agg #[(vN a0 n:Int),(vN a1 n:Int),(vN a2 n:Int)]) (by simp[results,Tryz.results90,go_sem,c,d,f]) rfl ⟨rfl,kp⟩
theorem ZI(a b:Vec.V):bW prog 45 #[a.val,b.val] (.bool (Vec.dR a b)):=by
 obtain⟨a0,a1,a2⟩:=a;obtain⟨d,b1,b2⟩:=b;intro w;have hv:Vec.dR ⟨a0,a1,a2⟩ ⟨d,b1,b2⟩=(decide (a0<=d)&&(decide (a1<=b1)&&decide (a2<=b2))):=rfl;have c:=qZ hv;clear hv;unfold Vec.V.val;obtain⟨i0,i,j⟩:=idx a0 a1 a2;by_cases e:d<a0
 .go_enter func45,ntmps45;go_wp2;refine wp_loop_rounds 1 ?_;rw[rounds_succ];go_wp2;go_returns;exact⟨fJ (by rw[c.out];simp;omega),kp⟩
 by_cases f:b1<a1
 .go_enter func45,ntmps45;go_wp2;refine wp_loop_rounds 2 ?_;rw[rounds_succ];go_wp2;rw[rounds_succ];go_wp2;go_returns;exact⟨fJ (by rw[c.out];simp;omega),kp⟩
 by_cases g:b2<a2
 .go_enter func45,ntmps45;go_wp2;refine wp_loop_rounds 3 ?_;rw[rounds_succ];go_wp2;rw[rounds_succ];go_wp2;rw[rounds_succ];go_wp2;go_returns;exact⟨fJ (by rw[c.out];simp;omega),kp⟩
 .go_enter func45,ntmps45;go_wp2;refine wp_loop_rounds 4 ?_;rw[rounds_succ];go_wp2;rw[rounds_succ];go_wp2;rw[rounds_succ];go_wp2;rw[rounds_succ];go_wp2;go_returns;exact⟨fJ (by rw[c.out];simp;omega),kp⟩
theorem aqY(a b:Vec.V):bW prog 43 #[a.val,b.val] (.bool (!Vec.dR a b)):=by have g:=ZI a b;obtain⟨a0,a1,a2⟩:=a;obtain⟨f,b1,b2⟩:=b;intro w;unfold Vec.V.val at g⊢;go_enter func43,ntmps43;go_wp2_with fail;refine(g _).mono ?_;rintro e w1⟨rfl,c⟩;have d:=aA (a:=w) kp c;clear c;go_wp2;go_returns;exact⟨rfl,d⟩
theorem QS(a:Vec.V):bW prog 157 #[a.val] (.bool (iJ a)):=by
 obtain⟨a0,a1,a2⟩:=a;intro w;have hv:=qZ (jX ⟨a0,a1,a2⟩);unfold Vec.V.val;obtain⟨i0,f,g⟩:=idx a0 a1 a2;rcases(by omega:a0<0\/1048576<a0\/(0<=a0/\a0<=1048576))with c|c|⟨c,i⟩
 .go_enter func157,ntmps157;go_wp2;refine wp_loop_rounds 1 ?_;rw[rounds_succ];go_wp2;go_returns;exact⟨fJ (by have:=hv.out;exact(gD.2 λb=>by have:=this.1 b;omega).symm),kp⟩
 .go_enter func157,ntmps157;go_wp2;refine wp_loop_rounds 1 ?_;rw[rounds_succ];go_wp2;go_returns;exact⟨fJ (by have:=hv.out;exact(gD.2 λb=>by have:=this.1 b;omega).symm),kp⟩
 rcases(by omega:a1<0\/1048576<a1\/(0<=a1/\a1<=1048576))with d|d|⟨d,j⟩
 .go_enter func157,ntmps157;go_wp2;refine wp_loop_rounds 2 ?_;rw[rounds_succ];go_wp2;rw[rounds_succ];go_wp2;go_returns;exact⟨fJ (by have:=hv.out;exact(gD.2 λb=>by have:=this.1 b;omega).symm),kp⟩
 .go_enter func157,ntmps157;go_wp2;refine wp_loop_rounds 2 ?_;rw[rounds_succ];go_wp2;rw[rounds_succ];go_wp2;go_returns;exact⟨fJ (by have:=hv.out;exact(gD.2 λb=>by have:=this.1 b;omega).symm),kp⟩
 rcases(by omega:a2<0\/1048576<a2\/(0<=a2/\a2<=1048576))with e|e|⟨e,k⟩
 .go_enter func157,ntmps157;go_wp2;refine wp_loop_rounds 3 ?_;rw[rounds_succ];go_wp2;rw[rounds_succ];go_wp2;rw[rounds_succ];go_wp2;go_returns;exact⟨fJ (by have:=hv.out;exact(gD.2 λb=>by have:=this.1 b;omega).symm),kp⟩
 .go_enter func157,ntmps157;go_wp2;refine wp_loop_rounds 3 ?_;rw[rounds_succ];go_wp2;rw[rounds_succ];go_wp2;rw[rounds_succ];go_wp2;go_returns;exact⟨fJ (by have:=hv.out;exact(gD.2 λb=>by have:=this.1 b;omega).symm),kp⟩
 .go_enter func157,ntmps157;go_wp2;refine wp_loop_rounds 4 ?_;rw[rounds_succ];go_wp2;rw[rounds_succ];go_wp2;rw[rounds_succ];go_wp2;rw[rounds_succ];go_wp2;go_returns;exact⟨fJ (by have:=hv.out;exact(this.2 ⟨⟨oZ,oZ⟩,⟨oZ,oZ⟩,⟨oZ,oZ⟩⟩).symm),kp⟩
end jN
variable{args:Array Value}{c:Cfg.C}{k:Nat}{A:Option Addr}{v v' v1 v2:Value}{w w' w0 w1:World}
namespace L
open Go Go.RowKit
def gX(P:Program)(w0:World)(f:FuncId)(args:Array Value)(v:Value):Prop:=∀w:World,Below w0 w0 w->Calls P f args w λe w'=>e=.returned v/\Below w w w'
theorem gX.on{P:Program}{f:FuncId}(g:gX P w0 f args v)(h:Below w0 w0 w1):gX P w1 f args v:=λw a=>g w (aA h a)
theorem gX.up{P:Program}{a:World}{f:FuncId}(g:gX P w0 f args v)(h:Below w0 w0 a):∀W,aF a W->Calls P f args W λe W'=>e=.returned v/\aF a W':=
 λW b=>(g W (aA h b)).mono λ_ _ ⟨c,hb⟩=>⟨c,b.after hb⟩
theorem gX.val{P:Program}{f:FuncId}(h:gX P w0 f args v)(e:v=v'):gX P w0 f args v':=e▸h
end L
namespace bM
open Go.RowKit L
def oP(x:kL):List Value:=[.int .i64 x.parent,.int .i64 x.jH,.int .i64 x.dQ.x,.int .i64 x.dQ.y,.int .i64 x.dQ.z,.int .i64 x.borrow.x,.int .i64 x.borrow.y,.int .i64 x.borrow.z,.int .i64 x.lend.x,.int .i64 x.lend.y,.int .i64 x.lend.z]
def hdec(x:gW):List Value:=[.int .i64 x.flavor,.int .i64 x.block,.int .i64 x.AQ,.int .i64 x.cap.x,.int .i64 x.cap.y,.int .i64 x.cap.z]
def nval(x:kL):Value:=.agg #[x.parent,x.jH,x.dQ.x,x.dQ.y,x.dQ.z,x.borrow.x,x.borrow.y,x.borrow.z,x.lend.x,x.lend.y,x.lend.z]
def Nodes(w:World)(v:Value)(xs:List kL):Prop:=∃A cap,v=.slice A xs.length cap/\gQ w A 11 oP xs/\xs.length<=maxLen
def JK(w:World)(v:Value)(xs:List gW):Prop:=∃A cap,v=.slice A xs.length cap/\gQ w A 6 hdec xs/\xs.length<=maxLen
def bX(w:World)(v:Value)(c:Cfg.C):Prop:=∃v1 v2,v=.agg #[v1,v2,c.aI,c.aK]/\Nodes w v1 c.aP/\JK w v2 c.aQ
theorem Nodes.below{xs:List kL}(h:Nodes w v xs)(a:Below w w w'):Nodes w' v xs:=by obtain⟨A,cap,e,c,b⟩:=h;exact⟨A,cap,e,c.below a,b⟩
theorem JK.below{xs:List gW}(h:JK w v xs)(a:Below w w w'):JK w' v xs:=by obtain⟨A,cap,e,c,b⟩:=h;exact⟨A,cap,e,c.below a,b⟩
theorem bX.below(h:bX w v c)(a:Below w w w'):bX w' v c:=by obtain⟨v1,v2,e,b,d⟩:=h;exact⟨v1,v2,e,b.below a,d.below a⟩
def RQ(w:World)(b o:Nat)(x:kL):Prop:=w.cell? (b,o)=some (.int .i64 x.parent)/\w.cell? (b,o+1)=some (.int .i64 x.jH)/\w.cell? (b,o+2)=some (.int .i64 x.dQ.x)/\w.cell? (b,o+3)=some (.int .i64 x.dQ.y)/\w.cell? (b,o+4)=some (.int .i64 x.dQ.z)/\w.cell? (b,o+5)=some (.int .i64 x.borrow.x)/\w.cell? (b,o+6)=some (.int .i64 x.borrow.y)/\w.cell? (b,o+7)=some (.int .i64 x.borrow.z)/\w.cell? (b,o+8)=some (.int .i64 x.lend.x)/\w.cell? (b,o+9)=some (.int .i64 x.lend.y)/\w.cell? (b,o+10)=some (.int .i64 x.lend.z)
theorem oH{xs:List kL}(h:gQ w A 11 oP xs)(c:k<xs.length):∃b o,A=some ⟨b,o,none⟩/\b<(w:Nat)/\∀w',Below w w w'->RQ w' b (o+k*11) xs[k]:=by obtain⟨b,o,rfl,d,g⟩:=h (by intro e;subst e;simp at c);have i:=aH c;refine⟨b,o,rfl,d,λw' f=>?_⟩;have a:∀j v,(oP xs[k])[j]? =some v->CV w' b (o+k*11+j) v:=λj v hv=>(f.cell (p:=⟨b,o+k*11+j,none⟩) d).trans (g k xs[k] i j v hv);exact⟨a 0 _ rfl,a 1 _ rfl,a 2 _ rfl,a 3 _ rfl,a 4 _ rfl,a 5 _ rfl,a 6 _ rfl,a 7 _ rfl,a 8 _ rfl,a 9 _ rfl,a 10 _ rfl⟩
theorem EL{xs:List kL}(h:gQ w A 11 oP xs)(d:k<xs.length):∃b o,A=some ⟨b,o,none⟩/\b<(w:Nat)/\∀w',Below w w w'->w'.cell? ⟨b,o+k*11,none⟩=some (.int .i64 xs[k].parent):=by obtain⟨b,o,e,f,c⟩:=oH h d;exact⟨b,o,e,f,λw' a=>(c w' a).1⟩
theorem qC(n lo hi:Int)(w:World):Calls prog 152 #[n,lo,hi] w λe w'=>e=.returned (.bool (fF n lo hi))/\w=w':=by
 unfold fF;by_cases a:lo<=n
 .go_enter func152,ntmps152;go_wp2;go_ret;exact⟨by simp[a],rfl⟩
 .have b:decide (lo<=n)=false:=by simpa using a
  go_enter func152,ntmps152;go_wp2;go_ret;exact⟨by simp[a],rfl⟩
theorem asU(x:kL)(n:Int)(b:Nat)(w:World)(a:b<(w:Nat))(c:w.cell? (b,0)=some (.int .i64 n)):Calls prog 95 #[nval x,.pointer b] w λe w'=>e=.returned (.bool (x.parent==n))/\Below w w w':=by unfold nval;have d:¬b=(w:Nat):=oZ;go_enter func95,ntmps95;go_wp2;go_ret;exact⟨rfl,bZ⟩
theorem bX.s1{a b:Value}(h:bX w (.agg #[v1,v2,a,b]) c):∃A n k,v1=.slice A n k:=by obtain⟨_,_,e,⟨A,k,rfl,_⟩,_⟩:=h;simp only[Value.agg.injEq,eO,cB,and_true]at e;exact⟨_,_,_,e.1⟩
theorem bX.s2{a b:Value}(h:bX w (.agg #[v1,v2,a,b]) c):∃A n k,v2=.slice A n k:=by obtain⟨_,_,e,_,⟨A,k,rfl,_⟩⟩:=h;simp only[Value.agg.injEq,eO,cB,and_true]at e;exact⟨_,_,_,e.2.1⟩
def aol(P:Bool)(w:World)(e:Ending)(w':World):Prop:=∃r:Int,e=.returned r/\decide (0<=r)=P/\Below w w w'
theorem afV(xs:List kL)(n:Int)(k:Nat)(h:k<xs.length):(xs.take (k+1)).any (λx=>x.parent==n)=((xs.take k).any (λx=>x.parent==n)||(xs[k].parent==n)):=by rw[iA,aH h,List.any_append];simp only[Option.toList_some,List.any_cons,List.any_nil,Bool.or_false]
theorem anY{xs:List kL}{n:Int}(h:k<xs.length)(e:xs[k].parent=n):xs.any (λx=>x.parent==n)=true:=by rw[lY];exact⟨xs[k],bB h,by simpa using e⟩
theorem amI{xs:List kL}(n:Int)(b:Nat)(w:World)(hv:Nodes w v xs)(y:b<(w:Nat))(F:w.cell? (b,0)=some (.int .i64 n)):Calls prog 151 #[v,.func (.func 95) #[] #[.pointer b]] w λe w'=>aol (xs.any λx=>x.parent==n) w e w':=by
 obtain⟨A,cap,rfl,K,J⟩:=hv;unfold maxLen at J;have M:=qZ K;have L:=qZ F;obtain⟨N,l⟩:=nZ xs.length;have s:=qZ l;rw[l]at J⊢;clear K F l;go_enter func151,ntmps151;go_wp2_with fail;go_loopw [8] (λi wr=>∃k:Nat,i=.int .i64 (k:Int)/\k<=N/\Hid ((xs.take k).any (λx=>x.parent==n)=false)/\Below w w wr) (λi _=>N-(intOf i).toNat);case atStart=>exact⟨0,rfl,oZ,qZ sZ,aJ _ _⟩
 case round=>
  obtain⟨k,rfl,ad,r,a⟩:=hrel;by_cases T:k<N
  .have j:k<xs.length:=by have:=s.out;omega
   obtain⟨ab,o,rfl,af,H⟩:=oH M j;have O:=H wr a;have X:=qZ (afV xs n k j);have Z:=qZ (λe=>anY (n:=n) j e);generalize xs[k]=x at*;have z:b<(wr:Nat):=aM y a.size;have I:CI wr b 0 n:=(a.cell (p:=⟨b,0,none⟩) y).trans L;have c:=qZ (asU x n b wr z I);obtain⟨u,c1,c2,c3,c4,c5,c6,c7,c8,c9,c10⟩:=O;unfold nval at c;clear H j I z;by_cases g:x.parent=n
   .have d:(x.parent==n)=true:=by simpa using g
    rw[d]at c;have Y:=qZ (Z.out g);clear g d;go_wp2_with fail;refine c.out.mono ?_;rintro e aa⟨rfl,f⟩;have m:=a.trans (f.mono a.size);clear f a c u c1 c2 c3 c4 c5 c6 c7 c8 c9 c10;go_wp2_with fail;go_ret;exact⟨k,rfl,by rw[Y.out];simp,m⟩
   .have d:(x.parent==n)=false:=by simpa using g
    rw[d]at c;have W:=qY ((xs.take (k+1)).any (λx=>x.parent==n)=false) (by rw[X.out,r.out,d];rfl);clear g d;go_wp2_with fail;refine c.out.mono ?_;rintro e aa⟨rfl,f⟩;have m:=a.trans (f.mono a.size);clear f a c u c1 c2 c3 c4 c5 c6 c7 c8 c9 c10;go_wp2_with fail;go_roundw;case rel=>exact⟨k+1,mZ,oZ,W,m⟩
    case measure=>simp[intOf];omega
  .have Q:=qY (xs.any (λx=>x.parent==n)=false) (by have:=r.out;rwa [aT (by have:=s.out;omega)]at this);have ae:N<=k:=oZ;clear T;go_wp2_with fail;go_ret;exact⟨-1,rfl,by rw[Q.out];decide,a⟩
theorem GN{xs:List kL}(n:Int)(b:Nat)(w:World)(hv:Nodes w v xs)(f:b<(w:Nat))(a:w.cell? (b,0)=some (.int .i64 n)):Calls prog 94 #[v,.func (.func 95) #[] #[.pointer b]] w λe w'=>e=.returned (.bool (xs.any λx=>x.parent==n))/\Below w w w':=by have hi:=qZ (amI n b w hv f a);generalize(xs.any λx=>x.parent==n)=r at*;clear hv a;go_enter func94,ntmps94;go_wp2_with fail;refine hi.out.mono ?_;rintro e w1⟨q,rfl,c,g⟩;have d:=qZ c;clear hi c;go_wp2_with fail;go_ret;exact⟨fJ d,g⟩
theorem ahJ(c:Cfg.C)(n:Int):iC c n=(decide (0<=n)&&(decide (n<(c.aP.length:Int))&& !(c.aP.any λx=>x.parent==n))):=by unfold iC;rw[Bool.and_assoc];congr 2;rw[List.not_any_eq_all_not];rfl
theorem vZ(f:bX w v c)(n:Int):gX prog w 42 #[v,n] (.bool (iC c n)):=by
 intro w1 o;replace f:=f.below o;clear o;obtain⟨v1,v2,rfl,g,z⟩:=f;obtain⟨A,cap,rfl,F,u⟩:=id g;have b:=qZ (ahJ c n);have j:=qZ g;obtain⟨N,m⟩:=nZ c.aP.length;rw[m]at b j u⊢;unfold maxLen at u;clear g z F m;by_cases k:0<=n
 .by_cases l:n<(N:Int)
  .have s:=qZ (λi (h:Nodes i (.slice A N cap) c.aP) d h3=>GN n ((w1:Nat)+1) i h d h3);generalize(c.aP.any λx=>x.parent==n)=r at*;go_enter func42,ntmps42;go_wp2_with fail;refine(s.out _ (j.below kp) sZ (by simp[go_sem])).mono ?_;rintro e i⟨rfl,p⟩;have y:=aA (a:=w1) kp p;clear p s;go_wp2_with fail;go_ret;exact⟨fJ (by rw[b.out];simp[k,l]),y⟩
  .go_enter func42,ntmps42;go_wp2_with fail;go_ret;exact⟨fJ (by rw[b.out,show decide (n<(N:Int))=false by simpa using l];simp),kp⟩
 .have d:decide (0<=n)=false:=by simpa using k
  go_enter func42,ntmps42;go_wp2_with fail;go_ret;exact⟨fJ (by rw[b.out,d];simp),kp⟩
theorem avU(x y z:Int)(w:World):(part 3 #[Value.int .i64 x,y,z] 0).run prog w=.ok x w:=by kernel_rfl
theorem avT(x y z:Int)(w:World):(part 3 #[Value.int .i64 x,y,z] 1).run prog w=.ok y w:=by kernel_rfl
theorem avS(x y z:Int)(w:World):(part 3 #[Value.int .i64 x,y,z] 2).run prog w=.ok z w:=by kernel_rfl
theorem eqd(d:Nat)(x0 c e f g i:Int)(w:World)(m:∀(a b:Int) (w:World),(Op.equalIn d 3 a b).run prog w=.ok (a==b) w):(Op.equalIn (d+1) 40 (.agg #[x0,c,e]) (.agg #[f,g,i])).run prog w=.ok (qE ⟨x0,c,e⟩ ⟨f,g,i⟩) w:=by
 have n:prog.underlying 40=some (.array 3 3):=kZ;by_cases j:x0=f<;>by_cases k:c=g<;>by_cases l:e=i<;>
  simp[qE,Op.equalIn,Sem.run_bind,run_underlying n,Result.andThen_ok,List.range',List.forIn_cons,avU,avT,avS,m,j,k,l,Sem.run_pure,Sem.run_ite]
theorem SH(d:Nat)(a b:Int)(w:World):(Op.equalIn (d+1) 3 a b).run prog w=.ok (a==b) w:=run_equalIn_int w d 3 .i64 .i64 a b kZ
theorem ads(d:Nat)(x0 c e f g i:Int)(w:World):(Op.equalIn (d+1+1) 40 (.agg #[x0,c,e]) (.agg #[f,g,i])).run prog w=.ok (qE ⟨x0,c,e⟩ ⟨f,g,i⟩) w:=
 eqd (d+1) x0 c e f g i w (λa b w=>SH d a b w)
@[go_sem high] theorem eqv (x0 x1 x2 y0 y1 y2:Int) (w:World):(Op.equalIn 10000 40 (.agg #[x0,x1,x2]) (.agg #[y0,y1,y2])).run prog w=.ok (qE ⟨x0,x1,x2⟩ ⟨y0,y1,y2⟩) w:=ads 9998 x0 x1 x2 y0 y1 y2 w
section
variable (a0 a1 a2 a3 a4 a5 a6 a7 a8 a9 a10 b0 b1 b2 b3 b4 b5 b6 b7 b8 b9 b10:Int) (w:World)
theorem atV:(part 3 #[Value.int .i64 a0,a1,a2,a3,a4,a5,a6,a7,a8,a9,a10] 0).run prog w=.ok a0 w:=by kernel_rfl
theorem atU:(part 3 #[Value.int .i64 a0,a1,a2,a3,a4,a5,a6,a7,a8,a9,a10] 1).run prog w=.ok a1 w:=by kernel_rfl
theorem atT:(part 40 #[Value.int .i64 a0,a1,a2,a3,a4,a5,a6,a7,a8,a9,a10] 2).run prog w=.ok (.agg #[a2,a3,a4]) w:=by kernel_rfl
theorem atS:(part 40 #[Value.int .i64 a0,a1,a2,a3,a4,a5,a6,a7,a8,a9,a10] 5).run prog w=.ok (.agg #[a5,a6,a7]) w:=by kernel_rfl
theorem atQ:(part 40 #[Value.int .i64 a0,a1,a2,a3,a4,a5,a6,a7,a8,a9,a10] 8).run prog w=.ok (.agg #[a8,a9,a10]) w:=by kernel_rfl
@[go_sem high] theorem ayC:(Op.equalIn 10000 66 (.agg #[a0,a1,a2,a3,a4,a5,a6,a7,a8,a9,a10]) (.agg #[b0,b1,b2,b3,b4,b5,b6,b7,b8,b9,b10])).run prog w=
  .ok (CP ⟨a0,a1,⟨a2,a3,a4⟩,⟨a5,a6,a7⟩,⟨a8,a9,a10⟩⟩ ⟨b0,b1,⟨b2,b3,b4⟩,⟨b5,b6,b7⟩,⟨b8,b9,b10⟩⟩) w:=by
 have hS:prog.underlying 66=some (.struct (prog.fieldsOf 66)):=kZ;have hp:prog.stoodInHeld 66=false:=kZ;rw[show(10000:Nat)=9999+1 from rfl,run_equalIn_agg w 9999 66 _ _ hS hp];simp only[Program.fieldsOf,underlying66];have v1:=λx0 x1 x2 y0 y1 y2 w=>ads 9997 x0 x1 x2 y0 y1 y2 w;have i1:=λa b w=>SH 9998 a b w;simp only[Op.eqFields,atV,atU,atT,atS,atQ,v1,i1,Sem.run_bind,Result.andThen_ok,Sem.run_pure,Sem.run_ite,CP];have n1:("Parent" :String)≠ "_" :=dZ;have n2:("Weight" :String)≠ "_" :=dZ;have n3:("Nominal" :String)≠ "_" :=dZ;have n4:("Borrow" :String)≠ "_" :=dZ;have n5:("Lend" :String)≠ "_" :=dZ;simp only[n1,n2,n3,n4,n5,ne_eq,not_false_eq_true,if_true];generalize(a0==b0)=t0;generalize(a1==b1)=t1;generalize qE ⟨a2,a3,a4⟩ ⟨b2,b3,b4⟩=t2;generalize qE ⟨a5,a6,a7⟩ ⟨b5,b6,b7⟩=t3;generalize qE ⟨a8,a9,a10⟩ ⟨b8,b9,b10⟩=t4;cases t0<;>cases t1<;>cases t2<;>cases t3<;>cases t4<;>rfl
end
open Go.RowKit L
theorem zS{b:Nat}{x:kL}(h:RQ w b 0 x)(r:Below w w w')(s:b<(w:Nat)):w'.cell? (b,0)=some (.int .i64 x.parent)/\w'.cell? (b,1)=some (.int .i64 x.jH)/\w'.cell? (b,2)=some (.int .i64 x.dQ.x)/\w'.cell? (b,3)=some (.int .i64 x.dQ.y)/\w'.cell? (b,4)=some (.int .i64 x.dQ.z)/\w'.cell? (b,5)=some (.int .i64 x.borrow.x)/\w'.cell? (b,6)=some (.int .i64 x.borrow.y)/\w'.cell? (b,7)=some (.int .i64 x.borrow.z)/\w'.cell? (b,8)=some (.int .i64 x.lend.x)/\w'.cell? (b,9)=some (.int .i64 x.lend.y)/\w'.cell? (b,10)=some (.int .i64 x.lend.z):=by obtain⟨a,c,e,f,g,i,j,l,m,n,d⟩:=h;simp only[aU]at*;have k:∀o v,CV w b o v->CV w' b o v:=λo v hv=>(r.cell (p:=⟨b,o,none⟩) s).trans hv;exact⟨k _ _ a,k _ _ c,k _ _ e,k _ _ f,k _ _ g,k _ _ i,k _ _ j,k _ _ l,k _ _ m,k _ _ n,k _ _ d⟩
theorem aeO(c:Cfg.C)(k:Nat)(x:kL):wN c k x=(!((decide (k=0)&&(x.parent != -1))||((decide (0<k)&& !fF x.parent 0 ((k:Int)-1))|| !fF x.jH 1 1000))&&(if iC c (k:Int)then iJ x.dQ&&(iJ x.borrow&&(iJ x.lend&&Vec.dR x.lend x.dQ))else qW x.dQ&&(qW x.borrow&&qW x.lend))):=by
 unfold wN VO;congr 1;by_cases h:k=0
 .subst h;simp;cases h:(x.parent== -1)<;>cases fF x.jH 1 1000<;>simp_all
 .have a:0<k:=oZ;simp[h,a]
theorem aiL(x:kL):CP x ⟨x.parent,x.jH,⟨0,0,0⟩,⟨0,0,0⟩,⟨0,0,0⟩⟩=(qW x.dQ&&(qW x.borrow&&qW x.lend)):=by unfold CP qE qW;simp
theorem apF(ab:bX w v c)(k:Nat)(aj:k<c.aP.length):gX prog w 153 #[v,(k:Int)] (.bool (wN c k (c.aP.getD k default))):=by
 intro w1 ax;replace ab:=ab.below ax;clear ax;have ak:=vZ ab (k:Int);obtain⟨v1,v2,rfl,⟨A,cap,rfl,a8,a5⟩,be⟩:=ab;obtain⟨an,o,rfl,bm,az⟩:=oH a8 aj;have a0:c.aP.getD k default=c.aP[k]:=by rw[aL,aH aj];rfl
 rw[a0,aeO];have a9:=qZ (aiL c.aP[k]);have bd:=az w1 (aJ _ _);have bn:¬an=(w1:Nat):=oZ;generalize c.aP[k]=x at*;obtain⟨p,ad,⟨n0,n1,n2⟩,⟨L,b1,b2⟩,⟨I,J,l2⟩⟩:=x;obtain⟨bl,c1,c2,c3,c4,c5,c6,c7,c8,c9,c10⟩:=bd;unfold maxLen at a5;obtain⟨N,aw⟩:=nZ c.aP.length;rw[aw]at a5 aj ak⊢;simp only at*;have bc:=qZ (qC p 0 ((k:Int)-1));have ao:=qZ (qC ad 1 1000);have ar:=qZ (jN.QS ⟨n0,n1,n2⟩);have au:=qZ (jN.QS ⟨L,b1,b2⟩);have av:=qZ (jN.QS ⟨I,J,l2⟩);have ap:=qZ (jN.ZI ⟨I,J,l2⟩ ⟨n0,n1,n2⟩);have aq:=qZ ak;generalize fF p 0 ((k:Int)-1)=B1 at*;generalize fF ad 1 1000=B2 at*;generalize iC c (k:Int)=ae at*;generalize iJ ⟨n0,n1,n2⟩=af at*;generalize iJ ⟨L,b1,b2⟩=ag at*;generalize iJ ⟨I,J,l2⟩=ah at*;generalize Vec.dR ⟨I,J,l2⟩ ⟨n0,n1,n2⟩=FT at*;unfold Vec.V.val at*;clear a8 be az a0 ak aw;obtain⟨R,ai⟩:∃R,(!((decide (k=0)&&(p != -1))||((decide (0<k)&& !B1)|| !B2))&&
   (if ae then af&&(ag&&(ah&&FT))else qW ⟨n0,n1,n2⟩&&(qW ⟨L,b1,b2⟩&&qW ⟨I,J,l2⟩)))=R:=⟨_,rfl⟩
 rw[ai];have y:=qZ ai;clear ai;have ay:RQ ((w1.alloc (.cells #[.slice (some ⟨an,o,none⟩) N cap,v2,c.aI,c.aK] 26)).alloc (.cells #[p,ad,n0,n1,n2,L,b1,b2,I,J,l2] 66)) ((w1:Nat)+1) 0 ⟨p,ad,⟨n0,n1,n2⟩,⟨L,b1,b2⟩,⟨I,J,l2⟩⟩:=by refine⟨?_,?_,?_,?_,?_,?_,?_,?_,?_,?_,?_⟩<;>simp[go_sem]
 have F:=qZ ay;clear ay;by_cases O:k=0
 .have bi:((k:Int)==0)=true:=by simp[O]
  have ba:¬0<(k:Int):=oZ;have bo:decide (0<(k:Int))=false:=by simpa using ba
  have H:=qZ O;clear O;by_cases K:p= -1
  .have bf:(p != -1)=false:=by simpa using K
   have aa:=qZ K;clear K;go_enter func153,ntmps153;go_wp2_with fail;refine(ao.out _).mono ?_;rintro e bb⟨rfl,rfl⟩;cases B2
   .go_wp2_with fail;go_ret;exact⟨fJ (by rw[<-y.out];simp),kp⟩
   go_wp2_with fail;refine(aq.out _ kp).mono ?_;rintro e am⟨rfl,z⟩;have M:=aA (a:=w1) kp z;obtain⟨d,f,i,j,l,m,n,r,s,u,g⟩:=zS F z sZ;have bh:(w1:Nat)+1<(am:Nat):=by have:=z.size;simp at this;omega
   cases ae
   .go_wp2_with fail;go_ret;exact⟨fJ (by rw[a9.out,<-y.out];simp[H.out,aa.out]),M⟩
   go_wp2_with fail;refine(ar.out _).mono ?_;rintro e bj⟨rfl,b⟩;have Q:=aA z b;have X:=aA M b;clear b d f i j l m n r s u g;obtain⟨d,f,i,j,l,m,n,r,s,u,g⟩:=zS F Q sZ;cases af
   .go_wp2_with fail;go_ret;exact⟨fJ (by rw[<-y.out];simp),X⟩
   go_wp2_with fail;refine(au.out _).mono ?_;rintro e v1⟨rfl,b⟩;have T:=aA Q b;have Y:=aA X b;clear b d f i j l m n r s u g;obtain⟨d,f,i,j,l,m,n,r,s,u,g⟩:=zS F T sZ;cases ag
   .go_wp2_with fail;go_ret;exact⟨fJ (by rw[<-y.out];simp),Y⟩
   go_wp2_with fail;refine(av.out _).mono ?_;rintro e v2⟨rfl,b⟩;have W:=aA T b;have Z:=aA Y b;clear b d f i j l m n r s u g;obtain⟨d,f,i,j,l,m,n,r,s,u,g⟩:=zS F W sZ;cases ah
   .go_wp2_with fail;go_ret;exact⟨fJ (by rw[<-y.out];simp),Z⟩
   go_wp2_with fail;refine(ap.out _).mono ?_;rintro e bk⟨rfl,b⟩;have bg:=aA W b;have al:=aA Z b;clear b d f i j l m n r s u g;go_wp2_with fail;go_ret;exact⟨fJ (by rw[<-y.out];simp[H.out,aa.out]),al⟩
  .have bf:(p != -1)=true:=by simpa using K
   have aa:=qZ K;clear K;go_enter func153,ntmps153;go_wp2_with fail;go_ret;exact⟨fJ (by rw[<-y.out];simp[H.out,aa.out]),kp⟩
 .have bi:((k:Int)==0)=false:=by simp[O]
  have ba:0<(k:Int):=oZ;have H:=qY (0<k) (by omega);clear O;go_enter func153,ntmps153;go_wp2_with fail;refine(bc.out _).mono ?_;rintro e bb⟨rfl,rfl⟩;cases B1
  .go_wp2_with fail;go_ret;exact⟨fJ (by rw[<-y.out];simp[show¬k=0 by have:=H.out;omega,H.out]),kp⟩
  go_wp2_with fail;refine(ao.out _).mono ?_;rintro e bb⟨rfl,rfl⟩;cases B2
  .go_wp2_with fail;go_ret;exact⟨fJ (by rw[<-y.out];simp),kp⟩
  go_wp2_with fail;refine(aq.out _ kp).mono ?_;rintro e am⟨rfl,z⟩;have M:=aA (a:=w1) kp z;obtain⟨d,f,i,j,l,m,n,r,s,u,g⟩:=zS F z sZ;have bh:(w1:Nat)+1<(am:Nat):=by have:=z.size;simp at this;omega
  cases ae
  .go_wp2_with fail;go_ret;exact⟨fJ (by rw[a9.out,<-y.out];simp[show¬k=0 by have:=H.out;omega]),M⟩
  go_wp2_with fail;refine(ar.out _).mono ?_;rintro e bj⟨rfl,b⟩;have Q:=aA z b;have X:=aA M b;clear b d f i j l m n r s u g;obtain⟨d,f,i,j,l,m,n,r,s,u,g⟩:=zS F Q sZ;cases af
  .go_wp2_with fail;go_ret;exact⟨fJ (by rw[<-y.out];simp),X⟩
  go_wp2_with fail;refine(au.out _).mono ?_;rintro e v1⟨rfl,b⟩;have T:=aA Q b;have Y:=aA X b;clear b d f i j l m n r s u g;obtain⟨d,f,i,j,l,m,n,r,s,u,g⟩:=zS F T sZ;cases ag
  .go_wp2_with fail;go_ret;exact⟨fJ (by rw[<-y.out];simp),Y⟩
  go_wp2_with fail;refine(av.out _).mono ?_;rintro e v2⟨rfl,b⟩;have W:=aA T b;have Z:=aA Y b;clear b d f i j l m n r s u g;obtain⟨d,f,i,j,l,m,n,r,s,u,g⟩:=zS F W sZ;cases ah
  .go_wp2_with fail;go_ret;exact⟨fJ (by rw[<-y.out];simp),Z⟩
  go_wp2_with fail;refine(ap.out _).mono ?_;rintro e bk⟨rfl,b⟩;have bg:=aA W b;have al:=aA Z b;clear b d f i j l m n r s u g;go_wp2_with fail;go_ret;exact⟨fJ (by rw[<-y.out];simp[show¬k=0 by have:=H.out;omega]),al⟩
def hval(x:gW):Value:=.agg #[x.flavor,x.block,x.AQ,x.cap.x,x.cap.y,x.cap.z]
theorem amY(x:gW):bW prog 154 #[hval x] (.bool (vP x)):=by
 intro w;obtain⟨f,b,r,⟨x0,d,g⟩⟩:=x;unfold hval vP;simp only;have j:=qZ (qC f 0 100);have k:=qZ (qC b 0 100);have l:=qZ (qC r 0 100);have m:=qZ (jN.QS ⟨x0,d,g⟩);generalize fF f 0 100=B1 at*;generalize fF b 0 100=B2 at*;generalize fF r 0 100=i at*;generalize iJ ⟨x0,d,g⟩=B4 at*;unfold Vec.V.val at*;go_enter func154,ntmps154;go_wp2_with fail;refine(j.out _).mono ?_;rintro e c⟨rfl,rfl⟩;cases B1
 .go_wp2_with fail;go_ret;exact⟨rfl,kp⟩
 go_wp2_with fail;refine(k.out _).mono ?_;rintro e c⟨rfl,rfl⟩;cases B2
 .go_wp2_with fail;go_ret;exact⟨rfl,kp⟩
 go_wp2_with fail;refine(l.out _).mono ?_;rintro e c⟨rfl,rfl⟩;cases i
 .go_wp2_with fail;go_ret;exact⟨rfl,kp⟩
 go_wp2_with fail;refine(m.out _).mono ?_;rintro e w1⟨rfl,n⟩;have o:=aA (a:=w) kp n;go_wp2_with fail;go_ret;exact⟨rfl,o⟩
end bM
variable{n:Nat}
namespace bM
open Go.RowKit L
theorem rW{xs:List gW}(h:gQ w A 6 hdec xs)(c:k<xs.length):∃b o,A=some ⟨b,o,none⟩/\b<(w:Nat)/\∀w',Below w w w'->(w'.cell? (b,o+k*6)=some (.int .i64 xs[k].flavor)/\w'.cell? (b,o+k*6+1)=some (.int .i64 xs[k].block)/\w'.cell? (b,o+k*6+2)=some (.int .i64 xs[k].AQ)/\w'.cell? (b,o+k*6+3)=some (.int .i64 xs[k].cap.x)/\w'.cell? (b,o+k*6+4)=some (.int .i64 xs[k].cap.y)/\w'.cell? (b,o+k*6+5)=some (.int .i64 xs[k].cap.z)):=by obtain⟨b,o,rfl,d,g⟩:=h (by intro e;subst e;simp at c);have i:=aH c;refine⟨b,o,rfl,d,λw' f=>?_⟩;have a:∀j v,(hdec xs[k])[j]? =some v->CV w' b (o+k*6+j) v:=λj v hv=>(f.cell (p:=⟨b,o+k*6+j,none⟩) d).trans (g k xs[k] i j v hv);exact⟨a 0 _ rfl,a 1 _ rfl,a 2 _ rfl,a 3 _ rfl,a 4 _ rfl,a 5 _ rfl⟩
def iB(w:World)(b:Nat)(v1 v2:Value)(h a:Int):Prop:=b<(w:Nat)/\w.cell? (b,0)=some v1/\w.cell? (b,1)=some v2/\w.cell? (b,2)=some (.int .i64 h)/\w.cell? (b,3)=some (.int .i64 a)
theorem iB.on{b:Nat}{h a:Int}(x:iB w b v1 v2 h a)(c:Below w w w'):iB w' b v1 v2 h a:=
 ⟨aM x.1 c.size,(c.cell (p:=⟨b,0,none⟩) x.1).trans x.2.1,(c.cell (p:=⟨b,1,none⟩) x.1).trans x.2.2.1,(c.cell (p:=⟨b,2,none⟩) x.1).trans x.2.2.2.1,(c.cell (p:=⟨b,3,none⟩) x.1).trans x.2.2.2.2⟩
theorem iB.new(w:World)(v1 v2:Value)(h a:Int):iB (w.alloc (.cells #[v1,v2,h,a] 26)) (w:Nat) v1 v2 h a:=⟨sZ,by simp[go_sem],by simp[go_sem],by simp[go_sem],by simp[go_sem]⟩
theorem agN(a:k<=c.aP.length)(h:nU c k=false):nU c c.aP.length=false:=by rw[gD]at h⊢;exactλe=>h (ajp e a)
theorem ajE(h:nV c n=true)(a:k<=n):nV c k=true:=by unfold nV at*;rw[gT]at*;intro i hi;exact h i (by simp at hi⊢;omega)
theorem agV(a:k<=c.aQ.length)(h:nV c k=false):nV c c.aQ.length=false:=by rw[gD]at h⊢;exactλe=>h (ajE e a)
theorem aqA(c:Cfg.C)(S n h:Bool)(a:xX c=S)(b:nU c c.aP.length=n)(d:nV c c.aQ.length=h):Cfg.check c=if S&&(n&&h)then 0 else 2:=by unfold Cfg.check Cfg.ok;rw[a,b,d]
theorem xK(F:bX w v c):gX prog w 102 #[v] (.int .i64 (Cfg.check c)):=by
 intro w1 y;replace F:=F.below y;clear y;have X:=qZ F;obtain⟨v1,v2,rfl,⟨A,ca,rfl,bi,a5⟩,⟨B,H,rfl,a9,a8⟩⟩:=id F;have bc:=qZ a9;have f:=qZ (aqA c);have g:Hid (xX c=(fF (c.aP.length:Int) 1 12&&(fF (c.aQ.length:Int) 1 24&&(fF c.aI 1 1048576&&fF c.aK 0 1048576)))):=qZ rfl;have p:=qZ (λk J=>apF F k J);obtain⟨N,u⟩:=nZ c.aP.length;obtain⟨M,r⟩:=nZ c.aQ.length;have au:=qZ u;have Y:=qZ r;rw[u,r]at g;rw[u]at p a5;rw[r]at p a8;rw[u,r];rw[u,r]at X f;have ad:=qZ (qC (N:Int) 1 12);have ae:=qZ (qC (M:Int) 1 24);have K:=qZ (qC c.aI 1 1048576);have L:=qZ (qC c.aK 0 1048576);obtain⟨b1,y⟩:=nZ (fF (N:Int) 1 12);obtain⟨b2,z⟩:=nZ (fF (M:Int) 1 24);obtain⟨b3,b⟩:=nZ (fF c.aI 1 1048576);obtain⟨bd,m⟩:=nZ (fF c.aK 0 1048576);rw[y,z,b,m]at g;rw[y]at ad;rw[z]at ae;rw[b]at K;rw[m]at L;obtain⟨aI,az⟩:=nZ c.aI;obtain⟨aK,aw⟩:=nZ c.aK;rw[az]at K p X⊢;rw[aw]at L p X⊢;unfold maxLen at a5 a8;obtain⟨R,ag⟩:=nZ (Cfg.check c);rw[ag];have l:=qZ ag;clear ag bi a9 u r y z b m az aw F;go_enter func102,ntmps102;go_wp2_with fail;refine(ad.out _).mono ?_;rintro e aq⟨rfl,rfl⟩;cases b1
 .go_wp2_with fail;refine wp_loop_rounds 1 ?_;rw[rounds_succ];go_wp2_with fail;refine wp_loop_rounds 1 ?_;rw[rounds_succ];go_wp2_with fail;go_ret;exact⟨gP (by rw[<-l.out,f.out _ _ _ g.out rfl rfl];simp),kp⟩
 go_wp2_with fail;refine(ae.out _).mono ?_;rintro e aq⟨rfl,rfl⟩;cases b2
 .go_wp2_with fail;refine wp_loop_rounds 1 ?_;rw[rounds_succ];go_wp2_with fail;refine wp_loop_rounds 1 ?_;rw[rounds_succ];go_wp2_with fail;go_ret;exact⟨gP (by rw[<-l.out,f.out _ _ _ g.out rfl rfl];simp),kp⟩
 go_wp2_with fail;refine(K.out _).mono ?_;rintro e aq⟨rfl,rfl⟩;cases b3
 .go_wp2_with fail;refine wp_loop_rounds 1 ?_;rw[rounds_succ];go_wp2_with fail;refine wp_loop_rounds 1 ?_;rw[rounds_succ];go_wp2_with fail;go_ret;exact⟨gP (by rw[<-l.out,f.out _ _ _ g.out rfl rfl];simp),kp⟩
 go_wp2_with fail;refine(L.out _).mono ?_;rintro e aq⟨rfl,rfl⟩;cases bd
 .go_wp2_with fail;refine wp_loop_rounds 1 ?_;rw[rounds_succ];go_wp2_with fail;refine wp_loop_rounds 1 ?_;rw[rounds_succ];go_wp2_with fail;go_ret;exact⟨gP (by rw[<-l.out,f.out _ _ _ g.out rfl rfl];simp),kp⟩
 have ai:=iB.new w1 (.slice A N ca) (.slice B M H) aI aK;have ah:Below w1 w1 (w1.alloc (.cells #[.slice A N ca,.slice B M H,aI,aK] 26)):=bZ;have ab:Hid (xX c=true):=qZ (by rw[g.out];rfl);clear ad ae K L g;go_upto_block 0 with fail;go_cut[3] (λs O=>s=.bool (nU c N)/\Below w1 w1 O/\iB O (w1:Nat) (.slice A N ca) (.slice B M H) aI aK);case first=>
  go_wp2_with fail;go_loopw [3,4] (λs i wr=>∃k:Nat,i=.int .i64 (k:Int)/\k<=N/\s=.bool (nU c k)/\Below w1 w1 wr/\iB wr (w1:Nat) (.slice A N ca) (.slice B M H) aI aK) (λ_ i _=>N-(intOf i).toNat);case atStart=>exact⟨0,rfl,oZ,rfl,ah,ai⟩
  case round=>
   obtain⟨k,rfl,J,rfl,d,j⟩:=hrel;clear ah ai;have n:=qZ j;obtain⟨ba,x0,Q,T,W⟩:=j;cases a:nU c k
   .have aj:=qZ (agN (c:=c) (by rw[au.out];exact J) a);clear a;go_wp2_with fail;go_meet;exact⟨by rw[<-au.out,aj.out],d,n⟩
   .by_cases a0:k<N
    .have ao:=qY (nU c (k+1)=wN c k (c.aP.getD k default)) (by rw[aeN,a];rfl);have av:=qZ (p.out k a0);generalize wN c k (c.aP.getD k default)=q at*;clear a;go_wp2_with fail;refine(av.out _ d).mono ?_;rintro e bk⟨rfl,b⟩;have m:=aA d b;have ap:=n.on b;clear d b x0 Q T W av;go_wp2_with fail;go_roundw;case rel=>exact⟨k+1,mZ,oZ,by rw[ao.out],m,ap⟩
     case measure=>simp[intOf];omega
    .have bh:N<=k:=oZ;have aa:=qZ a;have al:Hid (k=N):=qZ oZ;clear a;go_wp2_with fail;go_meet;exact⟨by rw[<-al.out,aa.out],d,n⟩
 case rest=>
  obtain⟨rfl,d,j⟩:=hcut;clear ah ai p;obtain⟨bj,an⟩:=nZ (nU c N);have Z:=qZ an;rw[an];clear an;cases bj
  .have n:=qZ j;obtain⟨ba,x0,Q,T,W⟩:=j;go_wp2_with fail;refine wp_loop_rounds 1 ?_;rw[rounds_succ];go_wp2_with fail;go_ret;exact⟨gP (by rw[<-l.out,f.out _ _ _ ab.out Z.out rfl];simp),d⟩
  go_upto_block 2 with fail;go_cut[3] (λs O=>s=.bool (nV c M)/\Below w1 w1 O);case first=>
   go_wp2_with fail;go_loopw [3,5] (λs i wr=>∃k:Nat,i=.int .i64 (k:Int)/\k<=M/\s=.bool (nV c k)/\Below w1 w1 wr/\iB wr (w1:Nat) (.slice A N ca) (.slice B M H) aI aK) (λ_ i _=>M-(intOf i).toNat);case atStart=>exact⟨0,rfl,oZ,rfl,d,j⟩
   case round=>
    obtain⟨k,rfl,J,rfl,I,bb⟩:=hrel;clear d j;have n:=qZ bb;obtain⟨ba,x0,Q,T,W⟩:=bb;cases a:nV c k
    .have aj:=qZ (agV (c:=c) (by rw[Y.out];exact J) a);clear a;go_wp2_with fail;go_meet;exact⟨by rw[<-Y.out,aj.out],I⟩
    .by_cases a0:k<M
     .have am:k<c.aQ.length:=by have:=Y.out;omega
      obtain⟨bl,o,bf,bm,ax⟩:=rW bc am;have ay:c.aQ.getD k default=c.aQ[k]:=by rw[aL,aH am];rfl
      have ao:=qY (nV c (k+1)=vP c.aQ[k]) (by rw[afj,a,ay];rfl);have af:=qZ (amY c.aQ[k]);obtain⟨be,d1,d2,d3,d4,d5⟩:=ax wr I;subst bf;generalize c.aQ[k]=x at*;generalize vP x=q at*;unfold hval at af;clear a ay am ax;go_wp2_with fail;refine(af.out _).mono ?_;rintro e bk⟨rfl,b⟩;have m:=aA I b;have ap:=n.on b;clear I b x0 Q T W af be d1 d2 d3 d4 d5;go_wp2_with fail;go_roundw;case rel=>exact⟨k+1,mZ,oZ,by rw[ao.out],m,ap⟩
      case measure=>simp[intOf];omega
     .have bh:M<=k:=oZ;have aa:=qZ a;have al:Hid (k=M):=qZ oZ;clear a;go_wp2_with fail;go_meet;exact⟨by rw[<-al.out,aa.out],I⟩
  case rest=>
   obtain⟨rfl,z⟩:=hcut;clear j d;obtain⟨bg,ak⟩:=nZ (nV c M);have ar:=qZ ak;rw[ak];clear ak;cases bg
   .go_wp2_with fail;go_ret;exact⟨gP (by rw[<-l.out,f.out _ _ _ ab.out Z.out ar.out];simp),z⟩
   .go_wp2_with fail;go_ret;exact⟨gP (by rw[<-l.out,f.out _ _ _ ab.out Z.out ar.out];simp),z⟩
end bM
variable{F:Nat->Prop}
namespace bM
open Go.RowKit L
theorem zU:(prog.info? 3).map (λi=>(i.zero,i.size,i.bytes))=some (some (.int .i64 0),1,8):=by kernel_rfl
def ival(l:List Nat):List Value:=l.map λ(n:Nat)=>Value.int .i64 (n:Int)
def nC(w:World)(B:Nat)(v:Value)(l:List Nat):Prop:=fI w B 3 v (ival l)
theorem EZ{B:Nat}{l:List Nat}(h:nC w B v l)(a:B<=(w:Nat))(x:Nat)(j:l.length<=1048576):∃v' w',(Builtin.append_ #[36,36] 36 #[v,.slice w 1 1]).run prog (w.alloc (.cells #[(x:Int)] 3))=.ok v' w'/\nC w' B v' (l++[x])/\(w.alloc (.cells #[(x:Int)] 3)).grownBy w' v.ownBlock/\(∀k,v'.ownBlock=some k->v.ownBlock=some k\/(w:Nat)<=k):=by
 obtain⟨i0,hi,f,g,i⟩:=info_parts zU;have m:(ival l).length=l.length:=by simp[ival]
 obtain⟨v',w',e,d,b,c⟩:=NM (P:=prog) 36 36 3 i0 _ 8 underlying36 hi f g i rfl h a (.int .i64 (x:Int)) rfl oZ oZ;exact⟨v',w',e,by unfold nC ival;rw[dO];exact d,b,c⟩
theorem QN{l:List Nat}(h:nC w (w1:Nat) v l)(a:Below w1 w1 w)(x:Nat)(d:l.length<=1048576):∃v' w',(Builtin.append_ #[36,36] 36 #[v,.slice w 1 1]).run prog (w.alloc (.cells #[(x:Int)] 3))=.ok v' w'/\nC w' (w1:Nat) v' (l++[x])/\Below w1 w1 w'/\aO (λk=>v.ownBlock=some k) w w'/\(∀k,v'.ownBlock=some k->v.ownBlock=some k\/(w:Nat)<=k):=by obtain⟨v',w',j,g,c,f⟩:=EZ h a.size x d;have b:aO (λk=>v.ownBlock=some k) w w':=((aO.refl _ w).alloc _).trans (aO.lG c λi e=>e);exact⟨v',w',j,g,a.trans (b.below a.size λi hi=>(h.lt i hi).1),b,f⟩
def qG(c:Cfg.C)(k:Nat):List Nat:=(List.range k).filter λ(i:Nat)=>iC c (i:Int)
theorem OC(c:Cfg.C)(k:Nat):qG c (k+1)=if iC c (k:Int)then qG c k++[k]else qG c k:=by unfold qG;rw[List.range_succ,fO];cases h:iC c (k:Int)<;>simp[h]
theorem yP(c:Cfg.C)(k:Nat):(qG c k).length<=k:=by have:=eF (λ(i:Nat)=>iC c (i:Int)) (List.range k);simpa[qG]using this
theorem iB.bD{b:Nat}{h a:Int}(x:iB w b v1 v2 h a)(k:aO F w w')(c:¬F b):iB w' b v1 v2 h a:=
 ⟨aM x.1 k.size,(k.cell (p:=⟨b,0,none⟩) x.1 c).trans x.2.1,(k.cell (p:=⟨b,1,none⟩) x.1 c).trans x.2.2.1,(k.cell (p:=⟨b,2,none⟩) x.1 c).trans x.2.2.2.1,(k.cell (p:=⟨b,3,none⟩) x.1 c).trans x.2.2.2.2⟩
def JJ(c:Cfg.C)(w:World)(e:Ending)(w':World):Prop:=∃v,e=.returned v/\nC w' (w:Nat) v (iG c)/\Below w w w'
theorem aju(a:bX w v c)(aj:c.aP.length<=1000000):∀w1,Below w w w1->Calls prog 248 #[v] w1 λe w'=>JJ c w1 e w':=by
 intro w1 I;replace a:=a.below I;clear I;have o:=qZ (λn=>vZ a n);obtain⟨v1,v2,rfl,⟨A,ca,rfl,ak,ah⟩,⟨B,b,rfl,al,ai⟩⟩:=id a;have L:Hid (iG c=qG c c.aP.length):=qZ rfl;generalize ae:c.aQ.length=M at*;obtain⟨N,F⟩:=nZ c.aP.length;rw[F]at o aj L⊢;obtain⟨aI,O⟩:=nZ c.aI;obtain⟨aK,H⟩:=nZ c.aK;rw[O,H]at o⊢;clear F ae ak al ah ai a O H;have K:=iB.new w1 (.slice A N ca) (.slice B M b) aI aK;have J:Below w1 w1 (w1.alloc (.cells #[.slice A N ca,.slice B M b,aI,aK] 26)):=bZ;have z:nC (w1.alloc (.cells #[.slice A N ca,.slice B M b,aI,aK] 26)) (w1:Nat) (.slice none 0 0) (qG c 0):=fI.nil _ _ _;go_enter func248,ntmps248;go_wp2_with fail;go_loopw [3,8] (λl i wr=>∃k:Nat,i=.int .i64 (k:Int)/\k<=N/\nC wr (w1:Nat) l (qG c k)/\l.ownBlock≠some (w1:Nat)/\Below w1 w1 wr/\iB wr (w1:Nat) (.slice A N ca) (.slice B M b) aI aK) (λ_ i _=>N-(intOf i).toNat);case atStart=>exact⟨0,rfl,oZ,z,by simp[Value.ownBlock],J,K⟩
 case round=>
  obtain⟨k,rfl,ar,g,r,d,Z⟩:=hrel;clear J K z;have x:=qZ Z;obtain⟨ax,x0,ao,ap,aq⟩:=Z;by_cases ag:k<N
  .have Y:=qZ (OC c k);have y:=qZ (o.out (k:Int));have av:=yP c k;generalize iC c (k:Int)=q at*;have ad:=qZ g;have m:=qZ r;clear g r;go_wp2_with fail;refine(y.out _ d).mono ?_;rintro e aa⟨rfl,f⟩;have p:=aA d f;have j:=x.on f;have s:nC aa (w1:Nat) u3 (qG c k):=ad.below f;clear d f x0 ao ap aq y x;cases q
   .go_wp2_with fail;go_roundw;case rel=>exact⟨k+1,mZ,oZ,by rw[Y.out];exact s,m,p,j⟩
    case measure=>simp[intOf];omega
   .obtain⟨v',ay,am,X,af,Q,T⟩:=QN s p k oZ;have an:=j.bD Q m;have aw:=j.1;have W:v'.ownBlock≠some (w1:Nat):=λe=>by
     rcases T _ e with h|h
     .exact m h
     .omega
    have u:=qZ (aC X W);clear s p j X Q T W;go_wp2_with(at_builtin;refine dJ rfl (.tmp 14) (.tmp 16) _ _ rfl u3 (.slice aa 1 1) rfl rfl am ?_);go_roundw;case rel=>exact⟨k+1,mZ,oZ,by rw[Y.out];exact u.1,u.2,af,an⟩
    case measure=>simp[intOf];omega
  .have au:N<=k:=oZ;have ab:=qY (JJ c w1 (.returned u3) wr) (⟨u3,rfl,by rw[L.out,show N=k by omega];exact g,d⟩);clear ag g r;go_wp2_with fail;go_ret;exact ab
theorem pQ{B:Nat}{l:List Nat}(h:nC w B v l):∃A c,v=.slice A l.length c/\∀(i x:Nat),l[i]? =some x->∃g,A=some ⟨g,0,none⟩/\B<=g/\g<(w:Nat)/\w.cell? ⟨g,i,none⟩=some (.int .i64 (x:Int)):=by obtain⟨A,c,rfl,b⟩:=fI.form h;refine⟨A,c,by simp[ival],λi x a=>?_⟩;obtain⟨g,rfl,f,d⟩:=b (by intro e;unfold ival at e;rw[pW]at e;subst e;simp at a);exact⟨g,rfl,(fI.lt h g rfl).1,f,d i _ (by unfold ival;rw[fK,a];rfl)⟩
end bM
variable{xs:List Vec.V}{B' g i:Nat}
namespace bM
open Go.RowKit L
def DV(v:Vec.V):List Value:=[.int .i64 v.x,.int .i64 v.y,.int .i64 v.z]
def lJ:List Vec.V->List Value
 |[]=>[]
 |v::l=>.int .i64 v.x:: .int .i64 v.y:: .int .i64 v.z::lJ l
theorem IE:∀(l:List Vec.V) (i:Nat) (v:Vec.V),l[i]? =some v->(lJ l)[i*3]? =some (.int .i64 v.x)/\(lJ l)[i*3+1]? =some (.int .i64 v.y)/\(lJ l)[i*3+2]? =some (.int .i64 v.z)
 |[],i,v,h=>by simp at h
 |u::l,0,v,h=>by simp at h;subst h;exact⟨rfl,rfl,rfl⟩
 |u::l,i+1,v,h=>by have:=IE l i v (by simpa using h);rw[show(i+1)*3=i*3+1+1+1 by omega];simpa[lJ]using this
theorem XJ:∀(l:List Vec.V) (i:Nat) (v:Vec.V),lJ (l.set i v)=(((lJ l).set (i*3) v.x).set (i*3+1) v.y).set (i*3+2) v.z
 |[],i,v=>by simp[lJ]
 |u::l,0,v=>by simp[lJ]
 |u::l,i+1,v=>by have:=XJ l i v;rw[show(i+1)*3=i*3+1+1+1 by omega];simp only[List.set_cons_succ,lJ,this]
theorem XK:∀n:Nat,lJ (List.replicate n Vec.zero)=List.replicate (n*3) (.int .i64 0)
 |0=>rfl
 |n+1=>by rw[List.replicate_succ,lJ,XK n,show(n+1)*3=n*3+1+1+1 by omega];rfl
def iN(w:World)(B:Nat)(v:Value)(xs:List Vec.V):Prop:=w.ownsRow B 40 3 v xs.length (lJ xs)
def VSl(w:World)(v:Value)(xs:List Vec.V):Prop:=∃A cap,v=.slice A xs.length cap/\gQ w A 3 DV xs/\xs.length<=maxLen
theorem VSl.below(h:VSl w v xs)(a:Below w w w'):VSl w' v xs:=by obtain⟨A,cap,e,c,b⟩:=h;exact⟨A,cap,e,c.below a,b⟩
def VAt(w:World)(b o:Nat)(v:Vec.V):Prop:=w.cell? (b,o)=some (.int .i64 v.x)/\w.cell? (b,o+1)=some (.int .i64 v.y)/\w.cell? (b,o+2)=some (.int .i64 v.z)
theorem SA(h:gQ w A 3 DV xs)(c:k<xs.length):∃b o,A=some ⟨b,o,none⟩/\b<(w:Nat)/\∀w',Below w w w'->VAt w' b (o+k*3) xs[k]:=by obtain⟨b,o,rfl,d,g⟩:=h (by intro e;subst e;simp at c);have i:=aH c;refine⟨b,o,rfl,d,λw' f=>?_⟩;have a:∀j v,(DV xs[k])[j]? =some v->w'.cell? ⟨b,o+k*3+j,none⟩=some v:=λj v hv=>(f.cell (p:=⟨b,o+k*3+j,none⟩) d).trans (g k xs[k] i j v hv);exact⟨a 0 _ rfl,a 1 _ rfl,a 2 _ rfl⟩
theorem iN.lt{B:Nat}(h:iN w B v xs):∀k,v.ownBlock=some k->B<=k/\k<(w:Nat):=World.ownsRow.lt h
theorem iN.bD{B:Nat}(h:iN w B v xs)(d:∀k,v.ownBlock=some k->w'.heap[k]? =w.heap[k]?):iN w' B v xs:=by
 refine⟨h.1,?_⟩;rcases h.2 with a|⟨g,cap,cur,rfl,b,c,r⟩
 .exact .inl a
 .exact .inr ⟨g,cap,cur,rfl,b,(d g rfl).trans c,r⟩
theorem iN.below{B:Nat}(h:iN w B v xs)(a:Below w w w'):iN w' B v xs:=h.bD λk b=>a.block k (h.lt k b).2
theorem iN.low{B:Nat}(h:iN w B v xs)(b:B'<=B):iN w B' v xs:=by
 refine⟨h.1,?_⟩;rcases h.2 with a|⟨g,cap,cur,e,c,r⟩
 .exact .inl a
 .exact .inr ⟨g,cap,cur,e,oZ,r⟩
theorem iN.sl{B:Nat}(h:iN w B v xs):VSl w v xs:=by
 rcases h.2 with⟨rfl,b⟩|⟨g,cap,cur,rfl,m,o,n,p,_⟩
 .refine⟨none,0,by rw[b],λe=>absurd (fM b) e,by unfold maxLen;omega⟩
 .refine⟨_,_,rfl,λe=>⟨g,0,rfl,(h.lt g rfl).2,λi x b j u a=>?_⟩,oZ⟩;obtain⟨f,k,l⟩:=IE xs i x b;have c:=λj u a=>World.ownsRow.cells h (g:=g) rfl j u a;have d:=c _ _ f;have e1:=c _ _ k;have e2:=c _ _ l;rw[addr_add]at d e1 e2;rw[show(0:Nat)+i*3+j=i*3+j by omega]
  match j,a with
  |0,a=>simp[DV]at a;subst a;exact d
  |1,a=>simp[DV]at a;subst a;exact e1
  |2,a=>simp[DV]at a;subst a;exact e2
  |j+3,a=>simp[DV]at a
theorem iN.set{B c:Nat}(h:iN w B (.slice g n c) xs)(i:Nat)(v:Vec.V):iN (((w.setCell (g,i*3) v.x).setCell (g,i*3+1) v.y).setCell (g,i*3+2) v.z) B (.slice g n c) (xs.set i v):=by
 have a:n=xs.length:=by
  rcases h.2 with⟨e,d⟩|⟨b,cap,cur,e,_⟩
  .cases e
  .cases e;rfl
 subst a;unfold iN;rw[XJ,List.length_set];exact(World.ownsRow.stored (World.ownsRow.stored (World.ownsRow.stored h (i*3) _).1 (i*3+1) _).1 (i*3+2) _).1
theorem iN.ok{B c:Nat}(h:iN w B (.slice g n c) xs)(j:Nat):w.frozen? (g,j)=false:=by
 have a:n=xs.length:=by
  rcases h.2 with⟨e,d⟩|⟨b,cap,cur,e,_⟩
  .cases e
  .cases e;rfl
 subst a;exact World.ownsRow.frozenAt h j
theorem iN.dD{B c:Nat}(h:iN w B (.slice g n c) xs)(hi:i<xs.length):n=xs.length/\B<=g/\g<(w:Nat)/\VAt w g (i*3) xs[i]:=by
 have m:n=xs.length:=by
  rcases h.2 with⟨e,r⟩|⟨p,cap,cur,e,_⟩
  .cases e
  .cases e;rfl
 subst m;have d:=h.lt g rfl;obtain⟨f,k,l⟩:=IE xs i xs[i] (aH hi);have a:=λj u o=>World.ownsRow.cells h (g:=g) rfl j u o;have b:=a _ _ f;have e1:=a _ _ k;have e2:=a _ _ l;rw[addr_add]at b e1 e2;exact⟨rfl,d.1,d.2,b,e1,e2⟩
def wW(w:World)(g o:Nat)(v:Vec.V):World:=((w.setCell (g,o) v.x).setCell (g,o+1) v.y).setCell (g,o+2) v.z
theorem DF(w:World)(g o:Nat)(v:Vec.V):aO (λk=>k=g) w (wW w g o v):=(((aO.refl (λk=>k=g) w).setCell (p:=⟨g,o,none⟩) (.inl rfl) v.x).setCell (p:=⟨g,o+1,none⟩) (.inl rfl) v.y).setCell (p:=⟨g,o+2,none⟩) (.inl rfl) v.z
theorem EN(h:Below w0 w0 w)(a:(w0:Nat)<=g)(o:Nat)(v:Vec.V):Below w0 w0 (wW w g o v):=
 h.trans ((DF w g o v).below h.size λi e=>e▸a)
def oW(w:World)(b o:Nat)(v:Vec.V):Prop:=b<(w:Nat)/\VAt w b o v
theorem oW.on{b o:Nat}{v:Vec.V}(x:oW w b o v)(a:Below w w w'):oW w' b o v:=
 ⟨aM x.1 a.size,(a.cell (p:=⟨b,o,none⟩) x.1).trans x.2.1,(a.cell (p:=⟨b,o+1,none⟩) x.1).trans x.2.2.1,(a.cell (p:=⟨b,o+2,none⟩) x.1).trans x.2.2.2⟩
theorem oW.bD{b o:Nat}{v:Vec.V}(x:oW w b o v)(k:aO F w w')(a:¬F b):oW w' b o v:=
 ⟨aM x.1 k.size,(k.cell (p:=⟨b,o,none⟩) x.1 a).trans x.2.1,(k.cell (p:=⟨b,o+1,none⟩) x.1 a).trans x.2.2.1,(k.cell (p:=⟨b,o+2,none⟩) x.1 a).trans x.2.2.2⟩
theorem KL:(prog.info? 40).map (λi=>(i.zero,i.size,i.bytes))=some (some (.agg #[(),(),()]),3,24):=by kernel_rfl
theorem amA(n:Nat):(madeCells #[Value.int .i64 0,(),()] (n*3)).toList=lJ (List.replicate n Vec.zero):=by
 rw[XK];apply gL;intro j;by_cases a:j<n*3
 .have b:j%3=0\/j%3=1\/j%3=2:=oZ;rcases b with h|h|h<;>simp[madeCells,a,h]
 .simp[madeCells,a]
theorem JA(w:World)(n:Nat)(k:n<=1048576):∃w',(Instr.makeSlice 51 (.int .i64 (n:Int)) (.int .i64 (n:Int))).run prog w=.ok (.slice w n n) w'/\iN w' (w:Nat) (.slice w n n) (List.replicate n Vec.zero)/\Below w w w'/\(w:Nat)<(w':Nat):=by
 obtain⟨i0,hi,f,g,j⟩:=info_parts KL;obtain⟨w',d,c,b⟩:=run_makeSlice_full (P:=prog) w (w:Nat) 51 40 i0 _ 3 underlying51 hi f g .i64 .i64 n oZ (by rw[j];omega) (by unfold maxLen;omega) lZ;have a:iN w' (w:Nat) (.slice w n n) (List.replicate n Vec.zero):=by unfold iN;rw[jZ,<-amA];exact c
 exact⟨w',d,a,(aO.lG (F:=λ_=>False) b (λi e=>by cases e)).below lZ λi h=>h.elim,(a.lt _ rfl).2⟩
def jL(n:Int):List Value:=[.int .i64 n]
def ISl(w:World)(v:Value)(l:List Int):Prop:=∃A cap,v=.slice A l.length cap/\gQ w A 1 jL l/\l.length<=maxLen
theorem ISl.below{l:List Int}(h:ISl w v l)(a:Below w w w'):ISl w' v l:=by obtain⟨A,cap,e,c,b⟩:=h;exact⟨A,cap,e,c.below a,b⟩
theorem vK{xs:List Int}(h:gQ w A 1 jL xs)(a:k<xs.length):∃b o,A=some ⟨b,o,none⟩/\b<(w:Nat)/\∀w',Below w w w'->w'.cell? ⟨b,o+k,none⟩=some (.int .i64 xs[k]):=by obtain⟨b,o,rfl,c,f⟩:=h (by intro e;subst e;simp at a);have g:=aH a;refine⟨b,o,rfl,c,λw' d=>?_⟩;have:=f k xs[k] g 0 (.int .i64 xs[k]) rfl;rw[Nat.add_zero,gY]at this;exact(d.cell (p:=⟨b,o+k,none⟩) c).trans this
structure Run where
 id:Int
 dN:Int
 eU:Int
 need:Vec.V
 run:Int
 aR:Int
 prefer:Int
 seq:Int
 dD:Int
 start:Int
 flavor:Int
 aQ:List Int
 hv:Value
def mR(x:Run):List Value:=[.int .i64 x.id,.int .i64 x.dN,.int .i64 x.eU,.int .i64 x.need.x,.int .i64 x.need.y,.int .i64 x.need.z,.int .i64 x.run,.int .i64 x.aR,.int .i64 x.prefer,.int .i64 x.seq,.int .i64 x.dD,.int .i64 x.start,.int .i64 x.flavor,x.hv]
def Runs(w:World)(v:Value)(rs:List Run):Prop:=∃A cap,v=.slice A rs.length cap/\gQ w A 14 mR rs/\rs.length<=maxLen/\∀r∈rs,ISl w r.hv r.aQ
theorem Runs.below{rs:List Run}(h:Runs w v rs)(a:Below w w w'):Runs w' v rs:=by obtain⟨A,cap,e,d,b,hi⟩:=h;exact⟨A,cap,e,d.below a,b,λr c=>(hi r c).below a⟩
def ari(w:World)(b o:Nat)(x:Run):Prop:=w.cell? (b,o)=some (.int .i64 x.id)/\w.cell? (b,o+1)=some (.int .i64 x.dN)/\w.cell? (b,o+2)=some (.int .i64 x.eU)/\w.cell? (b,o+3)=some (.int .i64 x.need.x)/\w.cell? (b,o+4)=some (.int .i64 x.need.y)/\w.cell? (b,o+5)=some (.int .i64 x.need.z)/\w.cell? (b,o+6)=some (.int .i64 x.run)/\w.cell? (b,o+7)=some (.int .i64 x.aR)/\w.cell? (b,o+8)=some (.int .i64 x.prefer)/\w.cell? (b,o+9)=some (.int .i64 x.seq)/\w.cell? (b,o+10)=some (.int .i64 x.dD)/\w.cell? (b,o+11)=some (.int .i64 x.start)/\w.cell? (b,o+12)=some (.int .i64 x.flavor)/\w.cell? (b,o+13)=some x.hv
theorem sQ{xs:List Run}(h:gQ w A 14 mR xs)(c:k<xs.length):∃b o,A=some ⟨b,o,none⟩/\b<(w:Nat)/\∀w',Below w w w'->ari w' b (o+k*14) xs[k]:=by obtain⟨b,o,rfl,d,g⟩:=h (by intro e;subst e;simp at c);have i:=aH c;refine⟨b,o,rfl,d,λw' f=>?_⟩;have a:∀j v,(mR xs[k])[j]? =some v->CV w' b (o+k*14+j) v:=λj v hv=>(f.cell (p:=⟨b,o+k*14+j,none⟩) d).trans (g k xs[k] i j v hv);exact⟨a 0 _ rfl,a 1 _ rfl,a 2 _ rfl,a 3 _ rfl,a 4 _ rfl,a 5 _ rfl,a 6 _ rfl,a 7 _ rfl,a 8 _ rfl,a 9 _ rfl,a 10 _ rfl,a 11 _ rfl,a 12 _ rfl,a 13 _ rfl⟩
def asks(rs:List Run):List (Vec.V×List Int):=rs.map λr=>(r.need,r.aQ)
theorem yT(rs:List Run):(asks rs).length=rs.length:=by simp[asks]
theorem aic{rs:List Run}(h:k<rs.length):∃a,(asks rs)[k]'a=(rs[k].need,rs[k].aQ):=⟨by rw[yT];exact h,by simp[asks]⟩
open Go
def sU(l:List Nat)(w:World)(e:Ending)(w':World):Prop:=∃v,e=.returned v/\nC w' (w:Nat) v l/\Below w w w'
end bM
variable{va:Value}
namespace bM
open Go Go.RowKit L
theorem GX(h:VSl w va xs)(n:Int):gX prog w 44 #[va,n] (Tree.dD xs n).val:=by
 intro w1 j;replace h:=h.below j;clear j;obtain⟨A,ca,rfl,p,m⟩:=h;unfold maxLen at m;have z:=qZ p;unfold Tree.dD;obtain⟨N,g⟩:=nZ xs.length;have x:=qZ g;rw[g]at m⊢;clear p g;have c:Below w1 w1 (w1.alloc (.cells #[(),(),()] 40)):=bZ;by_cases f:0<=n/\n<(N:Int)
 .obtain⟨a,F⟩:=f;rw[aG ⟨a,F⟩];obtain⟨k,rfl⟩:=dX a;have i:k<xs.length:=by rw[x.out];omega
  have e:xs.getD (k:Int).toNat Vec.zero=xs[k]:=by rw[Int.toNat_natCast,aL,aH i,Option.getD_some]
  rw[e];obtain⟨b,o,rfl,J,l⟩:=SA z.out i;obtain⟨H,p1,p2⟩:=l _ c;generalize xs[k]=y at*;obtain⟨r,s,u⟩:=y;simp only at H p1 p2;have K:¬b=(w1:Nat):=oZ;show Calls prog 44 #[.slice (some ⟨b,o,none⟩) N ca,(k:Int)] w1 λe w'=>e=.returned (.agg #[r,s,u])/\Below w1 w1 w';clear l e i;have d:=qZ c;clear c;go_enter func44,ntmps44;go_wp2_with fail;exact bodyPost_ret (v:=.agg #[r,s,u]) (by simp[results,Tryz.results44,go_sem]) rfl ⟨rfl,by have:=d.out;exact kp⟩
 .rw[aD f];show Calls prog 44 #[.slice A N ca,n] w1 λe w'=>e=.returned (.agg #[(),(),()])/\Below w1 w1 w';have d:=qZ c;clear c;by_cases a:n<0
  .have I:decide (n<0)=true:=by simpa using a
   clear f a;go_enter func44,ntmps44;go_wp2_with fail;exact bodyPost_ret (v:=.agg #[(),(),()]) (by simp[results,Tryz.results44,go_sem]) rfl ⟨rfl,by have:=d.out;exact kp⟩
  .have I:decide (n<0)=false:=by simpa using a
   have L:decide ((N:Int)<=n)=true:=by simp;omega
   clear f a;go_enter func44,ntmps44;go_wp2_with fail;exact bodyPost_ret (v:=.agg #[(),(),()]) (by simp[results,Tryz.results44,go_sem]) rfl ⟨rfl,by have:=d.out;exact kp⟩
def kW(c:Cfg.C)(n:Int)(k:Nat):List Nat:=((iG c).take k).filter λt=>Tree.on c n t
theorem RL(c:Cfg.C)(n:Int)(k:Nat)(h:k<(iG c).length):kW c n (k+1)=if Tree.on c n (iG c)[k]then kW c n k++[(iG c)[k]]else kW c n k:=by unfold kW;rw[bF h,fO];cases e:Tree.on c n (iG c)[k]<;>simp[e]
theorem UZ(c:Cfg.C)(n:Int)(k:Nat)(h:(iG c).length<=k):kW c n k=Tree.below c n:=by unfold kW Tree.below;rw[aT h]
open Go.WideShapes
section
variable {H:Type} {enc:TypeId×Value->H} {w:World} {base:Nat} {iK:Nat->Bool} {held:Bool}
theorem CU:prog.cellsOf 3=1:=by kernel_rfl
theorem aap:prog.cellsOf 40=3:=by kernel_rfl
theorem kJ{n:Nat}{cs:List Value}{y:DataW H×List MemPlace}(h:DataW.trod enc prog w base iK held n 3 cs=some y):∃x:Int,cs=[.int .i64 x]/\(Lit.int .i64 x).wf=true:=by obtain⟨z,e,_,a⟩:=DataW.trod_int underlying3 h;exact⟨z,e,a⟩
theorem FN{n:Nat}{cs:List Value}{y:DataW H×List MemPlace}(h:DataW.trod enc prog w base iK held n 40 cs=some y):∃v:Vec.V,cs=[.int .i64 v.x,.int .i64 v.y,.int .i64 v.z]/\(Lit.int .i64 v.x).wf=true/\(Lit.int .i64 v.y).wf=true/\(Lit.int .i64 v.z).wf=true:=by
 have j:prog.underlying 40=some (.array 3 3):=kZ;obtain⟨xs,m,_,_,g,k,hel⟩:=DataW.trod_array j h;rw[aap]at g
 match cs,g with
 |[a,b,c],_=>
  match xs,k with
  |[x0,o,p],_=>
   have d:=hel 0 oZ;have e:=hel 1 oZ;have f:=hel 2 oZ;simp[CU]at d e f;obtain⟨z0,i,w0⟩:=kJ d;obtain⟨z1,e1,w1⟩:=kJ e;obtain⟨z2,e2,l⟩:=kJ f;cases i;cases e1;cases e2;exact⟨⟨z0,z1,z2⟩,rfl,w0,w1,l⟩
theorem asi:∀n cs y,DataW.trod enc prog w base iK held n 66 cs=some y->∃x:kL,cs=oP x/\True:=by
 intro n cs y h;obtain⟨xs,m,_,rfl,g,k,a⟩:=DataW.trod_struct underlying66 h;have j:prog.cellsOf 66=11:=kZ;rw[j]at g
 match cs,g with
 |[a0,a1,a2,a3,a4,p,a6,a7,r,s,o],_=>
  match xs,k with
  |[x0,u,v,z,A],_=>
   have b:=a 0 _ rfl;have c:=a 1 _ rfl;have d:=a 2 _ rfl;have e:=a 3 _ rfl;have f:=a 4 _ rfl;simp[CU,aap]at b c d e f;obtain⟨z0,i,_⟩:=kJ b;obtain⟨z1,e1,_⟩:=kJ c;obtain⟨v2,e2,_⟩:=FN d;obtain⟨l,e3,_⟩:=FN e;obtain⟨v4,e4,_⟩:=FN f;cases i;cases e1;cases e2;cases e3;cases e4;exact⟨⟨z0,z1,v2,l,v4⟩,rfl,trivial⟩
theorem asC:∀n cs y,DataW.trod enc prog w base iK held n 131 cs=some y->∃x:gW,cs=hdec x/\True:=by
 intro n cs y h;obtain⟨xs,m,_,rfl,f,j,a⟩:=DataW.trod_struct underlying131 h;have i:prog.cellsOf 131=6:=kZ;rw[i]at f
 match cs,f with
 |[a0,a1,a2,a3,a4,l],_=>
  match xs,j with
  |[x0,o,p,r],_=>
   have b:=a 0 _ rfl;have c:=a 1 _ rfl;have d:=a 2 _ rfl;have e:=a 3 _ rfl;simp[CU,aap]at b c d e;obtain⟨z0,g,_⟩:=kJ b;obtain⟨z1,e1,_⟩:=kJ c;obtain⟨z2,e2,_⟩:=kJ d;obtain⟨k,e3,_⟩:=FN e;cases g;cases e1;cases e2;cases e3;exact⟨⟨z0,z1,z2,k⟩,rfl,trivial⟩
theorem afH{n:Nat}{cs:List Value}{y:DataW H×List MemPlace}(h:DataW.trod enc prog w base iK held n 26 cs=some y):∃c:Cfg.C,∃v1 v2,cs=[v1,v2,.int .i64 c.aI,.int .i64 c.aK]/\Nodes w v1 c.aP/\JK w v2 c.aQ/\(Lit.int .i64 c.aI).wf=true/\(Lit.int .i64 c.aK).wf=true:=by
 obtain⟨xs,m,_,rfl,g,r,a⟩:=DataW.trod_struct underlying26 h;have k:prog.cellsOf 26=4:=kZ;have c1:prog.cellsOf 23=1:=kZ;have c2:prog.cellsOf 24=1:=kZ;rw[k]at g
 match cs,g with
 |[a0,a1,a2,a3],_=>
  match xs,r with
  |[x0,J,K,L],_=>
   have b:=a 0 _ rfl;have d:=a 1 _ rfl;have e:=a 2 _ rfl;have f:=a 3 _ rfl;simp[CU,c1,c2]at b d e f;obtain⟨A,ca,x,j,s,l2,l,_⟩:=open_row (sz:=11) oP (λ_ _=>True) underlying23 kZ dZ asi b;obtain⟨B,i,p,e1,u,v,o,_⟩:=open_row (sz:=6) hdec (λ_ _=>True) underlying24 kZ dZ asC d;obtain⟨z2,e2,z⟩:=kJ e;obtain⟨I,e3,F⟩:=kJ f;cases j;cases e1;cases e2;cases e3;exact⟨⟨x,p,z2,I⟩,_,_,rfl,⟨A,ca,rfl,l,aV s l2⟩,⟨B,i,rfl,o,aV u v⟩,z,F⟩
end
open Go.RowKit Go.WideShapes L
section
variable {H:Type} {enc:TypeId×Value->H} {w:World} {base:Nat} {iK:Nat->Bool} {held:Bool}
theorem ahS{n:Nat}{cs:List Value}{y:DataW H×List MemPlace}(h:DataW.trod enc prog w base iK held n 42 cs=some y):∃(a b c:Int) (v:Vec.V) (d e f:Int),cs=[.int .i64 a,.int .i64 b,.int .i64 c,.int .i64 v.x,.int .i64 v.y,.int .i64 v.z,.int .i64 d,.int .i64 e,.int .i64 f]:=by
 obtain⟨xs,m,_,rfl,s,A,g⟩:=DataW.trod_struct underlying42 h;have z:prog.cellsOf 42=9:=kZ;rw[z]at s
 match cs,s with
 |[a0,a1,a2,a3,a4,I,a6,a7,J],_=>
  match xs,A with
  |[x0,K,L,M,N,O,Q],_=>
   have i:=g 0 _ rfl;have j:=g 1 _ rfl;have k:=g 2 _ rfl;have l:=g 3 _ rfl;have o:=g 4 _ rfl;have p:=g 5 _ rfl;have r:=g 6 _ rfl;simp[CU,aap]at i j k l o p r;obtain⟨z0,u,_⟩:=kJ i;obtain⟨z1,e1,_⟩:=kJ j;obtain⟨z2,e2,_⟩:=kJ k;obtain⟨F,e3,_⟩:=FN l;obtain⟨z4,e4,_⟩:=kJ o;obtain⟨T,x,_⟩:=kJ p;obtain⟨W,e6,_⟩:=kJ r;cases u;cases e1;cases e2;cases e3;cases e4;cases x;cases e6;exact⟨_,_,_,F,_,_,_,rfl⟩
end
end bM
end Go.Proofs.YtedmeglbjmdlhaaGreatDoor
