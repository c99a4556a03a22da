/-
Parts that the laws of the whole program share: contracts of its functions, and plain laws.
-/
import Derived.WalkSpells
import Derived.WalkLawsBesides
import Derived.Deep.QuietTactic
import Derived.BigQuiet
import Derived.Handy
import Derived.StillTailTactics
import Derived.Test.YtedmeglbjmdlhaaGreatDoorG0
import Derived.OpenShut
import Derived.ChangeShapes
import Derived.WideShapes
import Derived.Deep.Slices
import Derived.Still
import Derived.StillTail
import Derived.Deep.AppendSrc
import Derived.Laws.Rows
import Derived.OwnWalk
import Derived.Maps.AppendAt
import Derived.MapKept
import Derived.WideKeyRuns
import Derived.Laws.OwnMore
import Derived.Laws.Tables
set_option maxRecDepth 100000
set_option maxHeartbeats 16000000
set_option linter.all false
namespace Go.Proofs.YtedmeglbjmdlhaaGreatDoor
open Go
open L Top bM
namespace L
open Go Go.RowKit
theorem gP{k:IntKind}{a b:Int}(h:a=b):Ending.returned (.int k a)=.returned (.int k b):=by rw[h]
theorem ret_val{k:IntKind}{a b:Int}(h:a=b):Value.int k a=.int k b:=by rw[h]
theorem fJ{a b:Bool}(h:a=b):Ending.returned (.bool a)=.returned (.bool b):=by rw[h]
theorem MB{a b:ByteArray}(h:a=b):Ending.returned (.string a)=.returned (.string b):=by rw[h]
theorem toNat_ofInt(n a:Nat)(b:a<2 ^ n):(BitVec.ofInt n (a:Int)).toNat=a:=by rw[BitVec.ofInt_natCast,BitVec.toNat_ofNat];exact Nat.mod_eq_of_lt b
theorem wrap_small(k:IntKind)(a:k.signed=false)(n:Nat)(h:n<2 ^ k.bits):k.wrap (n:Int)=n:=by cases k<;>simp[IntKind.signed]at a<;>simp[IntKind.wrap,IntKind.bits,IntKind.signed]at* <;>omega
theorem vR(k:IntKind)(e:k.signed=false)(a b:Nat)(c:a<2 ^ k.bits)(d:b<2 ^ k.bits):bits .xor k (a:Int) (b:Int)=((a ^^^ b:Nat):Int):=by show k.wrap ((BitVec.ofInt k.bits (a:Int) ^^^ BitVec.ofInt k.bits (b:Int)).toNat:Int)=_;rw[BitVec.toNat_xor,toNat_ofInt _ _ c,toNat_ofInt _ _ d];exact wrap_small k e _ (Nat.xor_lt_two_pow c d)
theorem rQ(k:IntKind)(e:k.signed=false)(a b:Nat)(d:a<2 ^ k.bits)(c:b<2 ^ k.bits):bits .and k (a:Int) (b:Int)=((a&&& b:Nat):Int):=by show k.wrap ((BitVec.ofInt k.bits (a:Int)&&& BitVec.ofInt k.bits (b:Int)).toNat:Int)=_;rw[BitVec.toNat_and,toNat_ofInt _ _ d,toNat_ofInt _ _ c];exact wrap_small k e _ (Nat.and_lt_two_pow _ c)
theorem uX(k:IntKind)(e:k.signed=false)(a b:Nat)(c:a<2 ^ k.bits)(d:b<2 ^ k.bits):bits .or k (a:Int) (b:Int)=((a|||b:Nat):Int):=by show k.wrap ((BitVec.ofInt k.bits (a:Int)|||BitVec.ofInt k.bits (b:Int)).toNat:Int)=_;rw[BitVec.toNat_or,toNat_ofInt _ _ c,toNat_ofInt _ _ d];exact wrap_small k e _ (Nat.or_lt_two_pow c d)
theorem vJ{P:Program}(t:TypeId)(h:P.underlying t=some .string)(s:ByteArray)(k:IntKind)(i:Nat)(hi:i<s.size)(w:World):(Instr.index t (.string s) (.int k (i:Int))).run P w=.ok (.int .u8 ((s[i]'hi).toNat:Int)) w:=by rw[run_index_string w t s k _ h,dif_pos ⟨oZ,oZ⟩];rfl
theorem TD{P:Program}(src a e:TypeId)(k:P.underlying src=some (.slice e))(f:P.underlying e=some (.int .u8))(d:P.underlying a=some .string)(w:World)(vs:Array Value)(t:TypeId)(l:List UInt8)(n cap:Nat)(hv:vs.toList=l.map λb=>Value.int .u8 (b.toNat:Int))(i:l.length=n):(convert src a (.slice w n cap)).run P (w.alloc (.cells vs t))=.ok (.string ⟨l.toArray⟩) (w.alloc (.cells vs t)):=by
 subst i;refine run_convert_bytes_back (w.alloc (.cells vs t)) src a e ⟨w,0,none⟩ cap l k f d λj g=>?_;have c:(⟨w,0,none⟩:Addr).add j=⟨(w:Nat),j,none⟩:=by unfold Addr.add;split<;>simp_all
 rw[c,World.cell?_alloc_mark,<-dP,hv];simp[aH g]
theorem UC{P:Program}{f:FuncId}{args:Array Value}{w:World}{n:Nat}{v:Value}(h:Calls P f args (w.drewN n) λe w'=>e=.returned v/\w.drewN n=w'):Calls P f args (w.drewN n) λe b=>e=.returned v/\∃m,b=w.drewN m:=
 h.mono λ_ _ ⟨a,hm⟩=>⟨a,n,hm.symm⟩
theorem uZ{B:Nat}{a w:World}(h:Below B a w)(n:Nat):Below B a (w.drewN n):=⟨h.os,h.tape,h.output,h.size,h.block⟩
theorem aA{a b c:World}(h:Below a a b)(k:Below b b c):Below a a c:=h.trans (k.mono h.size)
theorem ajy{a b c:World}{n:Nat}(h:Below a a b)(k:c=b.drewN n):Below a a c:=k▸uZ h n
theorem ES(a:World):Below a a a:=aJ _ _
def bW(P:Program)(f:FuncId)(args:Array Value)(v:Value):Prop:=∀w:World,Calls P f args w λe w'=>e=.returned v/\Below w w w'
theorem bW.of_eq{P:Program}{f:FuncId}{args:Array Value}{v:Value}(h:∀w:World,Calls P f args w λe w'=>e=.returned v/\w=w'):bW P f args v:=
 λw=>(h w).mono λ_ _ ⟨a,hw⟩=>⟨a,hw▸aJ _ _⟩
theorem bW.KS{P:Program}{f:FuncId}{args:Array Value}{v:Value}(h:∀w:World,Calls P f args w λe w'=>e=.returned v/\∃n,w'=w.drewN n):bW P f args v:=
 λw=>(h w).mono λ_ _ ⟨a,n,hw⟩=>⟨a,ajy (aJ _ _) hw⟩
theorem bW.val{P:Program}{f:FuncId}{args:Array Value}{v v':Value}(h:bW P f args v)(e:v=v'):bW P f args v':=e▸h
def str(l:List UInt8):ByteArray:=⟨l.toArray⟩
theorem mO(l:List UInt8):(str l).data.toList=l:=rfl
theorem pF(l:List UInt8):(str l).size=l.length:=rfl
theorem EH(a b:List UInt8):str a++str b=str (a++b):=by apply ByteArray.ext;simp[str]
theorem extract_eq(s:ByteArray)(a b:Nat):s.extract a b=str ((s.data.toList.drop a).take (b-a)):=by apply ByteArray.ext;apply Array.toList_inj.1;simp[str,List.extract_eq_take_drop]
def jumps(J:Nat->Act->World->Prop)(Q:Exit->Act->World->Prop):Exit->Act->World->Prop
 |.goto l,a,w=>J l a w
 |e,a,w=>Q e a w
section
variable {P:Program} {a:Act} {w:World} {Q:Exit->Act->World->Prop} {J:Nat->Act->World->Prop}
theorem acs:jumps J Q .ret a w=Q .ret a w:=rfl
theorem XE{c:Code}(J:Nat->Act->World->Prop)(μ:Nat->Act->World->Nat)(first:c.wp P (jumps J Q) a w)(K:∀l a w,J l a w->∃rest,findLabel c l=some rest/\rest.wp P (jumps (λl' a' w'=>J l' a' w'/\μ l' a' w'<μ l a w) Q) a w):(Code.scope c).wp P Q a w:=by
 intro b k cs;have I:∀n l a w,μ l a w=n->J l a w->∃j,gotoIn l (.inScope c::k)=some j/\∃e a' w',Q e a' w'/\Arrives P (lone (b.at a j) cs w) b k cs e a' w':=by
  intro n;induction n using Nat.strongRecOn with
  |_ n H=>
   intro l a w M y;obtain⟨rest,A,F⟩:=K l a w y;refine⟨.code rest:: .inScope c::k,by simp[gotoIn,A],?_⟩;obtain⟨e,d,i,g,f⟩:=F b (.inScope c::k) cs;cases e with
   |normal=>exact⟨.normal,d,i,g,Steps.trans f (.one step_inScope)⟩
   |exit id=>exact⟨.exit id,d,i,g,λj s=>f j (by simp[exitTo,s])⟩
   |goto l'=>
    obtain⟨z,L⟩:=g;obtain⟨j,r,o,m,v,u,p⟩:=H _ oZ l' d i rfl z;exact⟨o,m,v,u,.of_steps (f _ r) p⟩
   |ret=>exact⟨_,d,i,g,f⟩
   |panic x=>exact⟨_,d,i,g,f⟩
   |outgrown=>exact⟨_,d,i,g,f⟩
 obtain⟨e,d,i,g,f⟩:=first b (.inScope c::k) cs
 cases e with
 |normal=>exact⟨.normal,d,i,g,.head step_scope (Steps.trans f (.one step_inScope))⟩
 |exit id=>exact⟨.exit id,d,i,g,λj s=>.head step_scope (f j (by simp[exitTo,s]))⟩
 |goto l'=>
  obtain⟨j,r,o,m,v,u,p⟩:=I _ l' d i rfl g;exact⟨o,m,v,u,.of_steps (.head step_scope (f _ r)) p⟩
 |ret=>exact⟨_,d,i,g,.of_steps (.one step_scope) f⟩
 |panic x=>exact⟨_,d,i,g,.of_steps (.one step_scope) f⟩
 |outgrown=>exact⟨_,d,i,g,.of_steps (.one step_scope) f⟩
end
end L
variable{a:Act}{Q:Exit->Act->World->Prop}{n:Nat}{w:World}
namespace L
open Go Go.RowKit
theorem aes{P:Program}{id:Nat}{l:List Oper}(c:P.follows .mixedOrders=true)(b:Region.lexB .any l.toArray=true)(h:wpStill P l.toArray w.drew (λa'=>Q .normal a' w.drew) l a):(Code.region id l.toArray true).wp P Q a w:=
 wp_region_still_lit c b h
theorem kp{a b:World}(h:Below n a b:=by(repeat' (first|(with_reducible exact aJ _ _)|(with_reducible assumption)|(with_reducible refine Below.alloc ?_ ?_ _)|(with_reducible refine uZ ?_ _)|(with_reducible refine Below.drew ?_)|(with_reducible refine Below.setCell ?_ ?_ _)|(with_reducible refine Below.frame ?_ _)|go_size))):Below n a b:=h
open Go.WideShapes
def gQ{α:Type}(w:World)(A:Option Addr)(sz:Nat)(dec:α->List Value)(xs:List α):Prop:=xs≠[]->∃b o,A=some ⟨b,o,none⟩/\b<(w:Nat)/\∀i x,xs[i]? =some x->∀j v,(dec x)[j]? =some v->w.cell? ⟨b,o+i*sz+j,none⟩=some v
theorem gQ.below{α:Type}{w w':World}{A:Option Addr}{sz:Nat}{dec:α->List Value}{xs:List α}(h:gQ w A sz dec xs)(a:Below w w w'):gQ w' A sz dec xs:=λf=>by obtain⟨b,o,e,c,d⟩:=h f;exact⟨b,o,e,aM c a.size,λi x g j v hv=>(a.cell (p:=⟨b,o+i*sz+j,none⟩) c).trans (d i x g j v hv)⟩
section
variable {H:Type} {enc:TypeId×Value->H} {P:Program} {w:World} {base:Nat} {iK:Nat->Bool} {held:Bool}
theorem open_row{α:Type}{t e:TypeId}{fuel:Nat}{cs:List Value}{x:DataW H×List MemPlace}{sz:Nat}(dec:α->List Value)(Q:α->DataW H->Prop)(ag:P.underlying t=some (.slice e))(af:P.cellsOf e=sz)(ab:0<sz)(hel:∀n cs y,DataW.trod enc P w base iK held n e cs=some y->∃x,cs=dec x/\Q x y.1)(h:DataW.trod enc P w base iK held fuel t cs=some x):∃A cap,∃xs:List α,cs=[.slice A xs.length cap]/\xs.length<=cap/\cap<=maxLen/\gQ w A sz dec xs/\(xs=[]\/∃s iK,x.1=.slice s iK/\s.length=xs.length/\∀y∈xs,∃d∈s,Q y d):=by
 rcases Go.Deep.open_slice ag h with⟨rfl,_⟩|⟨a,len,cap,m,n,D,al,rfl,an,T,Y,Z,rfl,p⟩
 .exact⟨none,0,[],rfl,bI _,bK _,λh=>absurd rfl h,.inl rfl⟩
 .have ar:len<=m:=by rw[Z];split<;>omega
  have I:∀i,i<len->∃x:α,w.cells? base (a.add (i*sz)) sz=some (dec x)/\Q x (D i):=λi hi=>by obtain⟨am,c,J⟩:=p i oZ;rw[af]at c;obtain⟨x,rfl,ad⟩:=hel _ _ _ J;exact⟨x,c,ad⟩
  have F:∀k,k<=len->∃xs:List α,xs.length=k/\(∀i x,xs[i]? =some x->w.cells? base (a.add (i*sz)) sz=some (dec x)/\Q x (D i)):=by
   intro k;induction k with
   |zero=>exactλ_=>⟨[],rfl,λi x h=>by simp at h⟩
   |succ k ak=>
    intro ap;obtain⟨xs,g,r⟩:=ak oZ;obtain⟨x,ai,aj⟩:=I k oZ;refine⟨xs++[x],by simp[g],λi y l=>?_⟩;rcases fP i k with hi|hi
    .rw[dG oZ]at l;exact r i y l
    .have:i=k:=by
      rcases fP i (k+1)with c|c
      .omega
      .rw[dY (by simp[g];omega)]at l;cases l
     subst this;rw[dI oZ,g,Nat.sub_self]at l;cases l;exact⟨ai,aj⟩
  obtain⟨xs,g,r⟩:=F len lZ;subst g;refine⟨some a,cap,xs,rfl,T,Y,λaa=>?_,.inr ⟨_,_,rfl,sZ,λx p=>?_⟩⟩
  .have W:0<xs.length:=mG.2 aa;obtain⟨ao,aq,u⟩:=World.cells?_some (r 0 xs[0] (aH W)).1;rw[lX]at u;obtain⟨b,o,spot⟩:=a;have f:=u 0 ab;have K:(({block:=b,off:=o,spot:=spot}:Addr).add 0).add 0=⟨b,o,spot⟩:=rfl;rw[K]at f;have z:0<(dec xs[0]).length:=oZ;obtain⟨au,ah⟩:∃v,(dec xs[0])[0]? =some v:=⟨(dec xs[0])[0]'z,aH z⟩;rw[ah]at f;have ae:spot=none:=by
    unfold World.cell? at f;split at f
    .split at f
     .cases f
     .rename_i hs;simpa using hs
    .cases f
   subst ae;refine⟨b,o,rfl,?_,λi x p j v hv=>?_⟩
   .have:=f;rcases fP b (w:Nat)with X|M
    .exact X
    .unfold World.cell? at this;rw[gH M]at this;simp at this
   .obtain⟨_,g,L⟩:=World.cells?_some (r i x p).1;have O:j<sz:=by
     rcases fP j (dec x).length with c|c
     .omega
     .rw[dY c]at hv;cases hv
    have:=L j O;have e:((⟨b,o,none⟩:Addr).add (i*sz)).add j=⟨b,o+i*sz+j,none⟩:=by unfold Addr.add;split<;>split<;>simp_all
    rw[e]at this;rw[this,hv]
  .obtain⟨i,hi⟩:=List.getElem?_of_mem p;have N:i<xs.length:=by
    rcases fP i xs.length with c|c
    .exact c
    .rw[dY c]at hi;cases hi
   exact⟨D i,bL.2 ⟨i,by simpa using N,rfl⟩,(r i x hi).2⟩
end
open Go Go.RowKit
section
variable {P:Program} {ops:Array Oper} {md:Region.Mode} {I:World->Prop}
def zT(P:Program)(I:World->Prop)(v:Value):Result Next->Prop
 |.ok (.value u) W=>u=v/\I W
 |.ok .skip W=>v=undef/\I W
 |.ok (.enter f args) W=>I W/\Calls P f args W (λe W'=>e=.returned v/\I W')
 |_=>False
theorem ZE(v u:Value)(W:World):zT P I v (.ok (.value u) W)=(u=v/\I W):=rfl
theorem aaU(v:Value)(W:World):zT P I v (.ok .skip W)=(v=undef/\I W):=rfl
theorem ZF(v:Value)(f:FuncId)(args:Array Value)(W:World):zT P I v (.ok (.enter f args) W)=(I W/\Calls P f args W λe W'=>e=.returned v/\I W'):=rfl
def AA(P:Program)(I:World->Prop)(o:Oper)(a:Act)(v:Value):Prop:=∀W,I W->zT P I v ((execOp a.eval o).run P W)
def yL(P:Program)(ops:Array Oper)(I:World->Prop)(Q:Act->Prop):List Oper->Act->Prop
 |[],a=>Q a
 |o::rest,a=>if Region.wanted o (yielded ops a.tmps)then∃v,AA P I o a v/\yL P ops I Q rest (a.put o.dst v)else yL P ops I Q rest (a.put o.dst undef)
structure sD (P:Program) (ops:Array Oper) (I:World->Prop) (Q:Act->Prop) (l:List Oper) (a:Act):Prop where
 out:yL P ops I Q l a
theorem eH{Q:Act->Prop}{a:Act}(h:Q a):sD P ops I Q [] a:=⟨h⟩
theorem XG{Q:Act->Prop}{a a':Act}{o:Oper}{rest:List Oper}(v:Value)(c:Region.wanted o (yielded ops a.tmps)=true)(h:AA P I o a v)(b:a.put o.dst v=a')(k:sD P ops I Q rest a'):sD P ops I Q (o::rest) a:=by subst b;refine⟨?_⟩;unfold yL;rw[aG c];exact⟨v,h,k.out⟩
theorem akR{Q:Act->Prop}{a a':Act}{o:Oper}{rest:List Oper}(c:Region.wanted o (yielded ops a.tmps)=false)(b:a.put o.dst undef=a')(k:sD P ops I Q rest a'):sD P ops I Q (o::rest) a:=by subst b;refine⟨?_⟩;unfold yL;rw[aD (by rw[c];decide)];exact k.out
def tH(P:Program)(ops:Array Oper)(I:World->Prop)(i:Nat)(K:Act->Prop)(a:Act):Prop:=
 match ops[i]? with
 |none=>K a
 |some o=>if Region.wanted o (yielded ops a.tmps)then∃v,AA P I o a v/\K (a.put o.dst v)else K (a.put o.dst undef)
theorem acp{i:Nat}{a:Act}{K c:Act->Prop}(h:∀a,K a->c a)(b:tH P ops I i K a):tH P ops I i c a:=by
 unfold tH at*;split
 .exact h _ (by simpa[*]using b)
 .rename_i o ho;simp only[ho]at b;split
  .rename_i hw;simp only[hw,if_true]at b;obtain⟨v,d,e⟩:=b;exact⟨v,d,h _ e⟩
  .rename_i hw;simp only[hw]at b;exact h _ b
def OM(P:Program)(md:Region.Mode)(ops:Array Oper)(I:World->Prop)(Q:Act->Prop):Nat->Array Bool->Act->Prop
 |0,listed,a=>Region.ready md ops listed=[]/\Q a
 |fuel+1,listed,a=>
  (Region.ready md ops listed=[]->Q a)/\
  ∀i∈Region.ready md ops listed,tH P ops I i (OM P md ops I Q fuel (listed.setIfInBounds i true)) a
theorem OL{i:Nat}{a:Act}{W:World}{K:Act->Prop}{k:Act->World->Prop}{Q':Exit->Act->World->Prop}(j:I W)(h:∀a W,K a->I W->k a W)(b:tH P ops I i K a):wpOp P ops Q' i k a W:=by
 unfold tH at b;unfold wpOp;split
 .rename_i ho;simp only[ho]at b;exact h _ _ b j
 .rename_i o ho;simp only[ho]at b;split
  .rename_i hw;simp only[hw,if_true]at b;obtain⟨v,l,d⟩:=b;refine .inl ?_;have c:=l W j;unfold Oper.wp;generalize(execOp a.eval o).run P W=r at*;cases r with
   |ok n w'=>
    cases n<;>simp only[zT]at c<;>simp only[Oper.upon]
    case value u=>obtain⟨rfl,g⟩:=c;exact h _ _ d g
    case skip=>obtain⟨rfl,g⟩:=c;exact h _ _ d g
    case enter f args=>exact c.2.mono λe p ⟨m,hw⟩=>by subst m;exact h _ _ d hw
   |halt x w'=>simp only[zT]at c
  .rename_i hw;simp only[hw]at b;exact h _ _ b j
theorem DU{Q:Act->Prop}{Q':Exit->Act->World->Prop}(c:∀a W,Q a->I W->Q' .normal a W):∀(fuel:Nat) (listed:Array Bool) (a:Act) (W:World),I W->OM P md ops I Q fuel listed a->wpAny P md ops Q' fuel listed a W
 |0,_,_,_,b,h=>⟨h.1,c _ _ h.2 b⟩
 |fuel+1,_,_,_,b,h=>⟨λd=>c _ _ (h.1 d) b,λi hi=>OL b (λa' W' k e=>DU c fuel _ a' W' e k) (h.2 i hi)⟩
def sV(P:Program)(ops:Array Oper)(I:World->Prop)(o:Oper)(v:Value)(a:Act):Prop:=(Region.wanted o (yielded ops a.tmps)=true/\AA P I o a v)\/(Region.wanted o (yielded ops a.tmps)=false/\v=undef)
theorem sV.tH{i:Nat}{o:Oper}{v:Value}{a:Act}(hi:ops[i]? =some o)(c:sV P ops I o v a){K:Act->Prop}(h:K (a.put o.dst v)):tH P ops I i K a:=by
 unfold L.tH;simp only[hi];rcases c with⟨b,hv⟩|⟨b,rfl⟩
 .simp only[b,if_true];exact⟨v,hv,h⟩
 .simp only[b,kC,if_false];exact h
theorem JC{i:Nat}{o:Oper}{a:Act}{K:Act->Prop}(hi:ops[i]? =some o)(h:tH P ops I i K a):∃v,sV P ops I o v a/\K (a.put o.dst v):=by
 unfold tH at h;simp only[hi]at h;by_cases b:Region.wanted o (yielded ops a.tmps)=true
 .simp only[b,if_true]at h;obtain⟨v,c,d⟩:=h;exact⟨v,.inl ⟨b,c⟩,d⟩
 .simp only[b]at h;exact⟨undef,.inr ⟨by simpa using b,rfl⟩,h⟩
theorem sV.of_same{o:Oper}{v:Value}{a a':Act}(d:sV P ops I o v a)(b:execOp a'.eval o=execOp a.eval o)(c:Region.wanted o (yielded ops a'.tmps)=Region.wanted o (yielded ops a.tmps)):sV P ops I o v a':=by unfold sV AA at*;rw[b,c];exact d
theorem aeX{j:Nat}{c d:Oper}{v:Value}(n:ops[j]? =some d)(m:c.apart ops d=true)(p:∀cs b,c.op≠.select cs b)(r:∀cs b,d.op≠.select cs b){K:Act->Prop}{a:Act}(e:sV P ops I c v a)(h:tH P ops I j K (a.put c.dst v)):tH P ops I j (λa'=>sV P ops I c v a'/\K (a'.put c.dst v)) a:=by
 obtain⟨f,g,i⟩:=Oper.apart_spec m;have l:∀(a:Act),sV P ops I c v a->∀u,sV P ops I c v (a.put d.dst u):=λa e u=>
  e.of_same (execOp_put c p a d.dst u i) (wanted_put c a d.dst u i)
 unfold tH at*;simp only[n]at*;rw[wanted_put d a c.dst v f]at h;split
 .rename_i hw;simp only[hw,if_true]at h;obtain⟨u,k,o⟩:=h;refine⟨u,?_,l a e u,by rw[<-Act.put_comm a v u g];exact o⟩;unfold AA at*;rw[execOp_put d r a c.dst v f]at k;exact k
 .rename_i hw;simp only[hw]at h;exact⟨l a e _,by rw[<-Act.put_comm a v undef g];exact h⟩
theorem adB{Q:Act->Prop}{i:Nat}{l:Oper}{v:Value}(hi:ops[i]? =some l)(z:∀(j:Nat) (o:Oper) cs b,ops[j]? =some o->o.op≠.select cs b):∀(fuel:Nat) (listed:Array Bool) (a:Act),(∀j g,ops[j]? =some g->j≠i->listed.getD j true=false->(∀e∈g.after,Region.binds md e=true->e.on≠i)->l.apart ops g=true)->i∈Region.ready md ops listed->sV P ops I l v a->OM P md ops I Q fuel (listed.setIfInBounds i true) (a.put l.dst v)->OM P md ops I Q (fuel+1) listed a:=by
 intro fuel;induction fuel with
 |zero=>
  intro listed a _ f n H;refine⟨λh=>(by rw[h]at f;cases f),λj m=>?_⟩;by_cases c:j=i
  .subst c;exact n.tH hi H
  .have:=ready_mono m c;rw[H.1]at this;cases this
 |succ fuel Y=>
  intro listed a w f n H;refine⟨λh=>(by rw[h]at f;cases f),λj m=>?_⟩;by_cases c:j=i
  .subst c;exact n.tH hi H
  .have d:=H.2 j (ready_mono m c);obtain⟨y,g,r,J⟩:=mem_ready.1 m;have X:∀e∈g.after,Region.binds md e=true->e.on≠i:=λe L K M=>by
    have d:=J e L K;have s:=(mem_ready.1 f).1;rw[M]at d;rcases fP i listed.size with p|p
    .simp[p]at s d;rw[s]at d;cases d
    .simp[gH p]at d
   have F:=aeX r (w j g r c y X) (λcs b=>z i l cs b hi) (λcs b=>z j g cs b r) n d;have N:∀k ok,ops[k]? =some ok->k≠i->(listed.setIfInBounds j true).getD k true=false->
     (∀e∈ok.after,Region.binds md e=true->e.on≠i)->l.apart ops ok=true:=λk ok O T A W=>by
    refine w k ok O T ?_ W;by_cases x:j=k
    .subst x;exact y
    .rw[getD_set_ne true x]at A;exact A
   refine acp (λa' u=>Y (listed.setIfInBounds j true) a' N (ready_mono f (Ne.symm c)) u.1 ?_) F;rw[kF _ _ c];exact u.2
theorem LK{Q:Act->Prop}(e:Region.noSelect ops=true):∀(l:List Oper) (k:Nat) (listed:Array Bool) (a:Act),(∀j,l[j]? =ops[k+j]?)->Region.lexFrom md ops l.length k listed=true->yL P ops I Q l a->OM P md ops I Q l.length listed a
 |[],_,_,_,_,c,h=>⟨by simpa[Region.lexFrom]using c,h⟩
 |o::l,k,listed,a,d,c,h=>by
  have b:ops[k]? =some o:=by simpa using(d 0).symm
  simp only[List.length_cons,Region.lexFrom,Bool.and_eq_true]at c;obtain⟨⟨m,i⟩,f⟩:=c;have n:tH P ops I k (yL P ops I Q l) a:=by unfold tH;simp only[b];exact h
  obtain⟨v,p,g⟩:=JC b n;exact adB b (Region.noSelect_spec e) l.length listed a (Region.free_spec b i) (by simpa using m) p
   (LK e l (k+1) _ _ (λj=>by have:=d (j+1);simpa[iQ,jJ 1 j]using this) f g)
theorem aay{id:Nat}{Q:Exit->Act->World->Prop}{a:Act}{w:World}(e:P.follows .mixedOrders=true)(b:Region.lexB .any ops=true)(c:I w.drew)(h:yL P ops I (λa'=>∀W,I W->Q .normal a' W) ops.toList a):(Code.region id ops true).wp P Q a w:=by simp only[Region.lexB,Bool.and_eq_true]at b;refine wp_region_any e (DU (I:=I) (Q:=λa'=>∀W,I W->Q .normal a' W) (λ_ W h d=>h W d) _ _ _ _ c ?_);have:=LK (md:=.any) b.1 ops.toList 0 (Array.replicate ops.size false) a sZ (by simpa using b.2) h;simpa using this
end
def aF(wb W:World):Prop:=Below wb wb W
theorem aF.refl(w:World):aF w w:=aJ _ _
theorem aF.drew(w:World):aF w w.drew:=(aJ _ _:Below w w w).drew
theorem aF.cell{a W:World}(h:aF a W){b o:Nat}{x:Option Value}(c:b<(a:Nat))(d:a.cell? (b,o)=x):W.cell? (b,o)=x:=(Below.cell (p:=⟨b,o,none⟩) h c).trans d
theorem aF.size{a W:World}(h:aF a W):(a:Nat)<=(W:Nat):=Below.size h
theorem aF.after{a W:World}(h:aF a W){W':World}(k:Below W W W'):aF a W':=aA h k
theorem bW.up{P:Program}{f:FuncId}{args:Array Value}{v:Value}(g:bW P f args v){a W:World}(h:aF a W):Calls P f args W λe W'=>e=.returned v/\aF a W':=
 (g W).mono λ_ _ ⟨b,hb⟩=>⟨b,h.after hb⟩
theorem qB{P:Program}{id:Nat}{Q:Exit->Act->World->Prop}{a:Act}{w:World}{l:List Oper}(c:P.follows .mixedOrders=true)(b:Region.lexB .any l.toArray=true)(h:sD P l.toArray (aF w) (λa'=>∀W,aF w W->Q .normal a' W) l a):(Code.region id l.toArray true).wp P Q a w:=
 aay (I:=aF w) c b (aF.drew w) (by simpa using h.out)
attribute [go_sem] ZE aaU ZF
theorem kK{P:Program}{id:Nat}{Q:Exit->Act->World->Prop}{a:Act}{w:World}{l:List Oper}(h:sD P l.toArray (aF w) (λa'=>∀W,aF w W->Q .normal a' W) l a)(c:P.follows .mixedOrders=true:=by kernel_rfl)(b:Region.lexB .any l.toArray=true:=by kernel_rfl):(Code.region id l.toArray true).wp P Q a w:=qB c b h
theorem kM{P:Program}{ops:Array Oper}{I:World->Prop}{Q:Act->Prop}{a a':Act}{o:Oper}{rest:List Oper}{v:Value}(k:sD P ops I Q rest a')(c:Region.wanted o (yielded ops a.tmps)=true:=by rfl)(h:AA P I o a v)(b:a.put o.dst v=a':=by(go_simp;first|done|rfl)):sD P ops I Q (o::rest) a:=XG v c h b k
theorem kY{P:Program}{ops:Array Oper}{I:World->Prop}{Q:Act->Prop}{a a':Act}{o:Oper}{rest:List Oper}{v:Value}(k:sD P ops I Q rest a')(d:Region.wanted o (yielded ops a.tmps)=true:=by rfl)(h:AA P I o a v:=by(intro W b;go_simp;first|done|exact⟨rfl,b⟩|rfl))(c:a.put o.dst v=a':=by(go_simp;first|done|rfl)):sD P ops I Q (o::rest) a:=XG v d h c k
theorem kN{P:Program}{ops:Array Oper}{I:World->Prop}{Q:Act->Prop}{a a':Act}{o:Oper}{rest:List Oper}(k:sD P ops I Q rest a')(c:Region.wanted o (yielded ops a.tmps)=false:=by rfl)(b:a.put o.dst undef=a':=by(go_simp;first|done|rfl)):sD P ops I Q (o::rest) a:=akR c b k
open Go Go.RowKit
section
variable {P:Program} {ops:Array Oper} {md:Region.Mode} {I:World->Prop}
def KI(P:Program)(md:Region.Mode)(ops:Array Oper)(I:World->Prop)(n:Nat)(L:Array Bool->Act->Prop):Nat->Array Bool->Act->Prop
 |0,listed,a=>L listed a
 |f+1,listed,a=>
  Region.ready md ops listed≠[]/\∀i∈Region.ready md ops listed,i<n/\tH P ops I i (KI P md ops I n L f (listed.setIfInBounds i true)) a
theorem yH{n g:Nat}{L:Array Bool->Act->Prop}{Q':Exit->Act->World->Prop}(c:∀listed a W,L listed a->I W->wpAny P md ops Q' g listed a W):∀(f:Nat) (listed:Array Bool) (a:Act) (W:World),I W->KI P md ops I n L f listed a->wpAny P md ops Q' (f+g) listed a W
 |0,listed,a,W,b,h=>by rw[aU];exact c _ _ _ h b
 |f+1,listed,a,W,b,h=>by rw[show f+1+g=(f+g)+1 by omega];exact⟨λe=>absurd e h.1,λi hi=>OL b (λa' W' d j=>yH c f _ a' W' j d) (h.2 i hi).2⟩
theorem acX{n i:Nat}{p:Oper}{v:Value}{L:Array Bool->Act->Prop}(hi:ops[i]? =some p)(O:∀(j:Nat) (o:Oper) cs b,ops[j]? =some o->o.op≠.select cs b)(N:Region.sinkB md ops n=true)(z:Region.chainB md ops n=true)(M:n<ops.size)(F:i<n)(X:∀listed a,L listed a->∀j∈Region.ready md ops listed,n<=j):∀(f:Nat) (listed:Array Bool) (a:Act),HeadInv md ops n listed->(∀j m,ops[j]? =some m->j≠i->listed.getD j true=false->(∀e∈m.after,Region.binds md e=true->e.on≠i)->p.apart ops m=true)->i∈Region.ready md ops listed->sV P ops I p v a->KI P md ops I n L f (listed.setIfInBounds i true) (a.put p.dst v)->KI P md ops I n L (f+1) listed a:=by
 intro f;induction f with
 |zero=>
  intro listed a w _ d u H;have l:=(mem_ready.1 d).1;refine⟨λh=>(by rw[h]at d;cases d),λj g=>?_⟩;have s:j<n:=by
   rcases fP j n with h|h
   .exact h
   .exact absurd g (tail_waits N z M w _ i rfl F l j h)
  refine⟨s,?_⟩;by_cases c:j=i
  .subst c;exact u.tH hi H
  .have:=X _ _ H j (ready_mono g c);omega
 |succ f ag=>
  intro listed a w A d u H;have l:=(mem_ready.1 d).1;refine⟨λh=>(by rw[h]at d;cases d),λj g=>?_⟩;have s:j<n:=by
   rcases fP j n with h|h
   .exact h
   .exact absurd g (tail_waits N z M w _ i rfl F l j h)
  refine⟨s,?_⟩;by_cases c:j=i
  .subst c;exact u.tH hi H
  .have r:=(H.2 j (ready_mono g c)).2;obtain⟨K,m,x,T⟩:=mem_ready.1 g;have af:∀e∈m.after,Region.binds md e=true->e.on≠i:=λe Y W Z=>by have r:=T e Y W;rw[Z,getD_both l]at r;cases r
   have Q:=aeX x (A j m x c K af) (λcs b=>O i p cs b hi) (λcs b=>O j m cs b x) u r;have aa:∀k ok,ops[k]? =some ok->k≠i->(listed.setIfInBounds j true).getD k true=false->
     (∀e∈ok.after,Region.binds md e=true->e.on≠i)->p.apart ops ok=true:=λk ok ab ad l ae=>by
    refine A k ok ab ad ?_ ae;by_cases J:j=k
    .subst J;exact K
    .rw[getD_set_ne true J]at l;exact l
   refine acp (λa' y=>ag (listed.setIfInBounds j true) a' (w.set g s) aa (ready_mono d (Ne.symm c)) y.1 ?_) Q;rw[kF _ _ c];exact y.2
theorem JO{n g:Nat}{e:Act->Prop}(u:Region.noSelect ops=true)(s:Region.sinkB md ops n=true)(f:Region.chainB md ops n=true)(p:n<ops.size):∀(l:List Oper) (k:Nat) (listed:Array Bool) (a:Act),(∀j,j<l.length->l[j]? =ops[k+j]?)->k+l.length=n->HeadInv md ops n listed->Region.lexHead md ops g l.length k listed=true->yL P ops I e l a->KI P md ops I n (λx a'=>Region.seqB md ops g n x=true/\e a') l.length listed a
 |[],k,listed,a,_,d,_,c,h=>by
  have:k=n:=by simpa using d
  subst this;exact⟨by simpa[Region.lexHead]using c,h⟩
 |o::l,k,listed,a,m,d,w,c,h=>by
  have b:ops[k]? =some o:=by simpa using(m 0 sZ).symm
  simp only[List.length_cons,Region.lexHead,Bool.and_eq_true]at c;obtain⟨⟨H,F⟩,y⟩:=c;have i:k<n:=by simp only[List.length_cons]at d;omega
  have r:k∈Region.ready md ops listed:=by simpa using H
  have J:tH P ops I k (yL P ops I e l) a:=by unfold tH;simp only[b];exact h
  obtain⟨v,K,z⟩:=JC b J;exact acX b (Region.noSelect_spec u) s f p i (λx a' A=>seqB_ready A.1) l.length listed a w (Region.free_spec b F) r K
   (JO u s f p l (k+1) _ _ (λj L=>by have:=m (j+1) (by simp;omega);simpa[iQ,jJ 1 j]using this) (by simp only[List.length_cons]at d;omega) (w.set r i) y z)
end
theorem lF{P:Program}{id:Nat}{Q:Exit->Act->World->Prop}{a:Act}{w:World}{l:List Oper}(n:Nat)(s:P.follows .mixedOrders=true)(c:Region.lexTailB .any l.toArray n=true)(h:sD P l.toArray (aF w) (λa'=>∀W,aF w W->wpList P l.toArray Q (l.drop n) a' W) (l.take n) a):(Code.region id l.toArray true).wp P Q a w:=by
 simp only[Region.lexTailB,Bool.and_eq_true,fA]at c;obtain⟨⟨⟨⟨v,k⟩,u⟩,o⟩,r⟩:=c;have z:n<l.length:=by simpa using k
 have b:(l.take n).length=n:=by simp;omega
 have e:(l.drop n).length=l.toArray.size-n:=sZ;have y:HeadInv .any l.toArray n (Array.replicate l.toArray.size false):=
  ⟨sZ,λj A _ i=>(by rw[getD_replicate_false]at i;cases i),λt _ x=>getD_in (by simpa using x) (getD_replicate_false _ _)⟩
 have H:=JO (md:=.any) (g:=l.toArray.size-n) v u o k (l.take n) 0 _ a (λj f=>by
  have p:j<n:=by rw[b]at f;exact f
  simp[p]) (by simpa using b) y (by rw[b];exact r) h.out
 refine wp_region_any s ?_;have:=yH (Q':=Q) (I:=aF w) (g:=l.toArray.size-n) (λlisted a' W d m=>by have:=wpAny_of_seq (md:=.any) (Q':=Q) (l.drop n) n listed a' W (λj=>by simp[lH]) (by rw[e];exact d.1) (d.2 W m);rwa [e]at this) _ _ _ _ (aF.drew w) H;rw[b,show n+(l.toArray.size-n)=l.toArray.size by omega]at this;exact this
open Go Go.RowKit
def mD(w:World)(base:Nat)(v:Value)(l:List UInt8):Prop:=(v=.slice none 0 0/\l=[])\/∃g cap,v=.slice (some ⟨g,0,none⟩) l.length cap/\base<=g/\g<(w:Nat)/\l.length<=cap/\cap<=maxLen/\(∀j (hj:j<l.length),w.cell? (g,j)=some (.int .u8 (l[j].toNat:Int)))/\(∀j,j<cap->(w.cell? ⟨g,j,none⟩).isSome=true/\w.frozen? ⟨g,j,none⟩=false)
theorem mD.nil(w:World)(base:Nat):mD w base (.slice none 0 0) []:=.inl ⟨rfl,rfl⟩
theorem mD.lt{w:World}{base:Nat}{v:Value}{l:List UInt8}(h:mD w base v l):∀k,v.ownBlock=some k->base<=k/\k<(w:Nat):=by
 rcases h with⟨rfl,_⟩|⟨g,cap,rfl,b,c,_⟩
 .intro k a;cases a
 .intro k a;cases a;exact⟨b,c⟩
theorem mD.bD{w w':World}{base:Nat}{v:Value}{l:List UInt8}(h:mD w base v l)(p:(w:Nat)<=(w':Nat))(i:∀k,v.ownBlock=some k->w'.heap[k]? =w.heap[k]?):mD w' base v l:=by
 rcases h with⟨rfl,rfl⟩|⟨g,cap,rfl,c,o,m,n,d,f⟩
 .exact .inl ⟨rfl,rfl⟩
 .have e:=i g rfl;refine .inr ⟨g,cap,rfl,c,oZ,m,n,λj b=>?_,λj b=>?_⟩
  .rw[World.cell?_of_block (w:=w) (a:=⟨g,j,none⟩) e];exact d j b
  .rw[World.cell?_of_block (w:=w) (a:=⟨g,j,none⟩) e,World.frozen?_of_block (w:=w) (a:=⟨g,j,none⟩) e];exact f j b
def cellsOf(l:List UInt8):List Value:=l.map λb=>Value.int .u8 (b.toNat:Int)
theorem lQ(l:List UInt8):(cellsOf l).length=l.length:=by simp[cellsOf]
theorem aam{l:List UInt8}{j:Nat}{u:Value}(h:(cellsOf l)[j]? =some u):∃a:j<l.length,u=.int .u8 (l[j].toNat:Int):=by
 unfold cellsOf at h;rw[fK]at h;rcases fP j l.length with a|a
 .rw[aH a]at h;exact⟨a,(Option.some.inj h).symm⟩
 .rw[dY a]at h;cases h
theorem abk(a b:List UInt8):cellsOf (a++b)=cellsOf a++cellsOf b:=by simp[cellsOf]
theorem UU(l:List UInt8):∀u∈cellsOf l,u.oneCell'=true:=λu a=>by obtain⟨_,_,rfl⟩:=bL.1 a;rfl
theorem addr_add(g j:Nat):(⟨g,0,none⟩:Addr).add j=⟨g,j,none⟩:=by unfold Addr.add;split<;>simp_all
section
variable {P:Program}
theorem mD.src{w:World}{base:Nat}{v:Value}{l:List UInt8}{t e:TypeId}(a:P.underlying t=some (.slice e))(h:mD w base v l):Src P 1 t v l.length (cellsOf l) w:=by
 rcases h with⟨rfl,rfl⟩|⟨g,cap,rfl,_,_,_,_,b,_⟩
 .exact Src.ofNil w a 0
 .refine Src.ofSlice w a ⟨g,0,none⟩ l.length cap (cellsOf l) (by rw[lQ,gY]) (λj u d=>?_) (UU l);obtain⟨c,rfl⟩:=aam d;rw[addr_add];exact b j c
theorem YI{w:World}{t:TypeId}(a:P.underlying t=some .string)(s:ByteArray):Src P 1 t (.string s) s.size (cellsOf s.data.toList) w:=Src.ofString w a s
theorem vX{w:World}{base:Nat}{v:Value}{l new:List UInt8}{x:Value}(t c ty e:TypeId)(i:TypeInfo)(A:P.underlying t=some (.slice e))(hi:P.info? e=some i)(ah:i.zero=some (.int .u8 0))(m:i.size=1)(O:i.bytes=1)(h:mD w base v l)(M:base<=(w:Nat))(ae:Src P 1 c x new.length (cellsOf new) w)(ak:l.length+new.length<=140737488355328):∃v' w',(Builtin.append_ #[t,c] ty #[v,x]).run P w=.ok v' w'/\mD w' base v' (l++new)/\w.grownBy w' v.ownBlock/\(∀k,v'.ownBlock=some k->v.ownBlock=some k\/(w:Nat)<=k):=by
 have f:Src P i.size c x new.length (cellsOf new) w:=by rw[m];exact ae
 have F:∀(p:Option Addr) (cap:Nat),v=.slice p l.length cap->(Builtin.firstCells 1 l.length (.slice p l.length cap)).run P w.drew=.ok (cellsOf l).toArray w.drew->cap<l.length+new.length->
   ∃v' w',(Builtin.append_ #[t,c] ty #[v,x]).run P w=.ok v' w'/\mD w' base v' (l++new)/\w.grownBy w' v.ownBlock/\(∀k,v'.ownBlock=some k->v.ownBlock=some k\/(w:Nat)<=k):=by
  intro p cap hv ab s;subst hv;have y:=run_append_grow_src (P:=P) w t c ty e i (.int .u8 0) A hi ah p l.length cap (cellsOf l) (by rw[m];exact ab) x new.length (cellsOf new) f s oZ (growslice_fits s (by rw[O];omega));have T:=grownCap_ge w (l.length+new.length) cap e;have Q:=grownCap_le_maxLen w (l.length+new.length) cap e (by unfold maxLen;omega);refine⟨_,_,y,.inr ⟨(w:Nat),_,by rw[aW],M,sZ,by rw[aW];exact T,Q,λj a=>?_,λj a=>?_⟩,⟨rfl,rfl,rfl,sZ,λk b _=>heap_alloc_old w.drew _ b⟩,λk b=>?_⟩
  .have e1:(w.drew.alloc (.cells ((cellsOf l++cellsOf new).toArray++Builtin.zeroCells (Value.int .u8 0).cells (grownCap w (l.length+new.length) cap e-(l.length+new.length))) e)).cell? ((w:Nat),j)=((cellsOf l++cellsOf new).toArray++Builtin.zeroCells (Value.int .u8 0).cells (grownCap w (l.length+new.length) cap e-(l.length+new.length)))[j]? :=
    World.cell?_alloc_mark w.drew _ e (0,0) j
   rw[e1,Array.getElem?_append_left (by rw[gB,aW,lQ,lQ];rw[aW]at a;exact a),<-abk];simp only[fU,cellsOf,fK,aH a,Option.map_some]
  .have e1:(w.drew.alloc (.cells ((cellsOf l++cellsOf new).toArray++Builtin.zeroCells (Value.int .u8 0).cells (grownCap w (l.length+new.length) cap e-(l.length+new.length))) e)).cell? ((w:Nat),j)=((cellsOf l++cellsOf new).toArray++Builtin.zeroCells (Value.int .u8 0).cells (grownCap w (l.length+new.length) cap e-(l.length+new.length)))[j]? :=
    World.cell?_alloc_mark w.drew _ e (0,0) j
   have e2:=World.frozen?_alloc_mark w.drew ((cellsOf l++cellsOf new).toArray++Builtin.zeroCells (Value.int .u8 0).cells (grownCap w (l.length+new.length) cap e-(l.length+new.length))) e 0 0 j;refine⟨?_,by rw[show(w.drew.heap.size)=(w:Nat)from rfl]at e2;rw[e2];simp⟩;rw[e1];have:j<((cellsOf l++cellsOf new).toArray++Builtin.zeroCells (Value.int .u8 0).cells (grownCap w (l.length+new.length) cap e-(l.length+new.length))).size:=by rw[Array.size_append,gB,aW,lQ,lQ,size_zeroCells];show j<_+_*1;omega
   rw[dH this];rfl
  .cases b;exact .inr lZ
 rcases h with⟨rfl,rfl⟩|⟨g,cap,rfl,N,s,aj,X,H,d⟩
 .by_cases Y:new.length=0
  .have aa:new=[]:=fM Y;subst aa;refine⟨.slice none 0 0,w,?_,.inl ⟨rfl,rfl⟩,⟨rfl,rfl,rfl,bI _,λ_ _ _=>rfl⟩,λk b=>by cases b⟩;have I:=f.cells;simp only[List.length_nil]at I;rcases f.kind with⟨ai,b⟩|b<;>
    simp[Builtin.append_,run_underlying A,run_underlying b,sizeOf,typeInfo,hi,f.len,I]
  .exact F none 0 rfl (run_firstCells_none w.drew 1 0 0 0) (by simp;omega)
 .by_cases K:l.length+new.length<=cap
  .have y:=run_append_room_src (P:=P) w t c ty e i A hi g 0 l.length cap x new.length (cellsOf new) f K
    (λj a=>by rw[lQ]at a;rw[m,aU,gY];exact(d _ oZ).1) (λj a=>by rw[lQ]at a;rw[m,aU,gY];exact(d _ oZ).2)
   rw[m,aU,gY]at y;have J:=World.cell?_setCells_in g (cellsOf new) l.length w (λj a=>by rw[lQ]at a;exact(d _ oZ).1);have L:∀(vs:List Value) (o:Nat) (w:World),(w.setCells g o vs).heap.size=(w:Nat):=by
    intro vs;induction vs with
    |nil=>intro o w;rfl
    |cons u vs n=>intro o w;show(World.setCells _ g _ vs).heap.size=_;rw[n];simp[World.setCell]
   have ad:∀(vs:List Value) (o:Nat) (w:World) (k:Nat),k≠g->(w.setCells g o vs).heap[k]? =w.heap[k]? :=by
    intro vs;induction vs with
    |nil=>intro o w k b;rfl
    |cons u vs n=>intro o w k b;show(World.setCells _ g _ vs).heap[k]? =_;rw[n _ _ k b];exact Below.heap_setCell _ _ _ _ b
   have z:∀(vs:List Value) (o:Nat) (w:World),(w.setCells g o vs).os=w.os/\(w.setCells g o vs).tape=w.tape/\(w.setCells g o vs).output=w.output:=by
    intro vs;induction vs with
    |nil=>intro o w;exact⟨rfl,rfl,rfl⟩
    |cons u vs n=>intro o w;exact n _ _
   have af:∀j,j<cap->((w.setCells g l.length (cellsOf new)).cell? ⟨g,j,none⟩).isSome=true:=λj a=>by
    by_cases r:l.length<=j/\j<l.length+new.length
    .have:=J (j-l.length) (by rw[lQ];omega);rw[show l.length+(j-l.length)=j by omega]at this;rw[this];rfl
    .rw[World.cell?_setCells_out g (cellsOf new) l.length w ⟨g,j,none⟩ λ_ _=>by rw[lQ];simp only;omega];exact(d j a).1
   refine⟨_,_,y,.inr ⟨g,cap,by rw[aW],N,by rw[L];exact s,by rw[aW];exact K,X,λj a=>?_,λj a=>⟨af j a,by rw[World.frozen?_setCells];exact(d j a).2⟩⟩,⟨(z _ _ _).1,(z _ _ _).2.1,(z _ _ _).2.2,by rw[L];exact bI _,λk b Z=>ad _ _ _ k λe=>Z (by rw[e];rfl)⟩,λk b=>.inl b⟩;by_cases r:j<l.length
   .rw[World.cell?_setCells_out g (cellsOf new) l.length w ⟨g,j,none⟩ λ_ _=>.inl r,H j r,List.getElem_append_left r]
   .have W:j-l.length<new.length:=by rw[aW]at a;omega
    have:=J (j-l.length) (by rw[lQ];exact W);rw[show l.length+(j-l.length)=j by omega]at this;rw[this,List.getElem_append_right oZ];simp[cellsOf]
  .refine F (some ⟨g,0,none⟩) cap rfl ?_ oZ;exact run_firstCells_some w.drew 1 l.length ⟨g,0,none⟩ l.length cap (cellsOf l) (by rw[lQ,gY]) (λj u ag=>by obtain⟨a,rfl⟩:=aam ag;rw[addr_add];exact H j a)
theorem KN{w:World}{base:Nat}{v:Value}{l:List UInt8}(src a e:TypeId)(d:P.underlying src=some (.slice e))(c:P.underlying e=some (.int .u8))(b:P.underlying a=some .string)(h:mD w base v l):(convert src a v).run P w=.ok (.string (str l)) w:=by
 rcases h with⟨rfl,rfl⟩|⟨g,cap,rfl,_,_,_,_,f,_⟩
 .exact run_convert_bytes_nil w src e d c 0 0 a b
 .exact run_convert_bytes_back w src a e ⟨g,0,none⟩ cap l d c b (λj i=>by rw[addr_add];exact f j i)
theorem mD.cutAt{w:World}{base:Nat}{v:Value}{l:List UInt8}(h:mD w base v l)(k:Nat)(r:k<=l.length)(t e:TypeId)(d:P.underlying t=some (.slice e))(i:TypeInfo)(hi:P.info? e=some i)(y:i.size=1):∃v',(∀w',(Instr.slice t v none (some (.int .i64 k)) (some (.int .i64 k))).run P w'=.ok v' w')/\mD w base v' (l.take k)/\(∀b,v'.ownBlock=some b->v.ownBlock=some b):=by
 rcases h with⟨rfl,rfl⟩|⟨g,cap,rfl,a,o,u,x,m,n⟩
 .have c:k=0:=by simpa using r
  subst c;refine⟨.slice none 0 0,λw'=>?_,.inl ⟨rfl,rfl⟩,λb a=>by cases a⟩;simp[Instr.slice,run_underlying d,Instr.sliceBounds,Instr.sliceBound,asIntOf,sizeOf,typeInfo,hi]
 .have s:(l.take k).length=k:=by rw[bO];omega
  refine⟨.slice g k k,λw'=>?_,.inr ⟨g,k,by rw[s],a,o,oZ,oZ,λj p=>?_,λj p=>n j oZ⟩,λb a=>a⟩
  .have f:k<=cap:=oZ;by_cases c:k=0
   .subst c;simp[Instr.slice,run_underlying d,Instr.sliceBounds,Instr.sliceBound,asIntOf,sizeOf,typeInfo,hi]
   .simp[Instr.slice,run_underlying d,Instr.sliceBounds,Instr.sliceBound,asIntOf,sizeOf,typeInfo,hi,f,c,addr_add]
  .rw[m j oZ,List.getElem_take]
theorem adA{o:Oper}{a:Act}{w w':World}{K:Act->World->Prop}{Q:Exit->Act->World->Prop}(s x:Operand)(t b:TypeId)(c:o.op=.call {callee:=.builtin .append,args:=#[s,x],argTypes:=#[t,b]})(vs vx:Value){v':Value}(e:a.eval s=vs)(f:a.eval x=vx)(d:(Builtin.append_ #[t,b] o.type #[vs,vx]).run P w=.ok v' w')(h:K (a.put o.dst v') w'):o.wp P a w K Q:=by unfold Oper.wp execOp;simp only[c,resolve,invoke,builtin,Sem.run_bind,Sem.run_pure,Result.andThen_ok,jW,cZ,gM,e,f,d];exact h
theorem dJ{c:Array Oper}{rest:List Oper}{o:Oper}{a:Act}{w w':World}{Q:Exit->Act->World->Prop}(e:o.guard=none)(s x:Operand)(t b:TypeId)(f:o.op=.call {callee:=.builtin .append,args:=#[s,x],argTypes:=#[t,b]})(vs vx:Value){v':Value}(i:a.eval s=vs)(j:a.eval x=vx)(g:(Builtin.append_ #[t,b] o.type #[vs,vx]).run P w=.ok v' w')(h:wpList P c Q rest (a.put o.dst v') w'):wpList P c Q (o::rest) a w:=
 wpList_plain e λ_ d=>adA s x t b f vs vx i j g (d _ _ h)
theorem adb(w:World)(src a e:TypeId)(s:ByteArray)(k:P.underlying src=some .string)(d:P.underlying a=some (.slice e))(f:P.underlying e=some (.int .u8))(m:s.size<=140737488355328):∃(cap:Nat) (o:Obj),(convert src a (.string s)).run P w=.ok (.slice w s.size cap) (w.drew.alloc o)/\mD (w.drew.alloc o) 0 (.slice w s.size cap) s.data.toList:=by
 have g:=grownCap_ge w s.size 0 e;have c:=grownCap_le_maxLen w s.size 0 e (by unfold maxLen;omega);have i:=run_bytes_of_string (P:=P) w src a e s k d f;generalize grownCap w s.size 0 e=cap at*;have l:(bytesRow s cap).size=cap:=by simp[bytesRow];omega
 refine⟨cap,_,i,.inr ⟨(w:Nat),cap,rfl,bK _,sZ,g,c,λj b=>?_,λj b=>⟨?_,?_⟩⟩⟩
 .have e1:(w.drew.alloc (.cells (bytesRow s cap) e ((bytesRow s cap).size,(bytesRow s cap).size+1))).cell? ((w:Nat),j)=(bytesRow s cap)[j]? :=World.cell?_alloc_mark w.drew _ e _ j;rw[e1,bytesRow_at s cap j (by simpa using b)];simp
 .have e1:(w.drew.alloc (.cells (bytesRow s cap) e ((bytesRow s cap).size,(bytesRow s cap).size+1))).cell? ((w:Nat),j)=(bytesRow s cap)[j]? :=World.cell?_alloc_mark w.drew _ e _ j;rw[e1,dH oZ];rfl
 .have e1:(w.drew.alloc (.cells (bytesRow s cap) e ((bytesRow s cap).size,(bytesRow s cap).size+1))).frozen? ((w:Nat),j)=_:=World.frozen?_alloc_mark w.drew _ e _ _ j;rw[e1,l];simp;omega
theorem uH{d:Array Oper}{rest:List Oper}{o:Oper}{a:Act}{w:World}{Q:Exit->Act->World->Prop}(g:o.guard=none)(s y z:Operand)(t e:TypeId)(m:P.underlying t=some (.slice e))(i:o.op=.slice t s none (some y) (some z))(vs b c:Value){v':Value}(l:a.eval s=vs)(n:a.eval y=b)(p:a.eval z=c)(k:(Instr.slice t vs none (some b) (some c)).run P w=.ok v' w)(h:wpList P d Q rest (a.put o.dst v') w):wpList P d Q (o::rest) a w:=
 wpList_plain g λ_ f=>by
  have j:(Instr.sliceAt t vs none (some b) (some c)).run P w=.ok v' w:=by simp[Instr.sliceAt,run_underlying m,k]
  unfold Oper.wp execOp;simp only[i,Sem.run_bind,Sem.run_pure,Result.andThen_ok,Option.map_none,Option.map_some,l,n,p,j];exact f _ _ h
theorem wJ{b:Array Oper}{rest:List Oper}{o:Oper}{a:Act}{w:World}{Q:Exit->Act->World->Prop}(e:o.guard=none)(s x:Operand)(t c:TypeId)(g:o.op=.call {callee:=.builtin .min,args:=#[s,x],argTypes:=#[t,c]})(n m k:Int)(j:a.eval s=.int .i64 n)(l:a.eval x=.int .i64 m)(f:min n m=k)(h:wpList P b Q rest (a.put o.dst k) w):wpList P b Q (o::rest) a w:=
 wpList_plain e λ_ d=>by
  have i:(Builtin.min_ #[t,c] o.type #[n,m]).run P w=.ok k w:=by rw[run_min_int2];congr 2;rw[<-f];split<;>omega
  unfold Oper.wp execOp;simp only[g,resolve,invoke,builtin,Sem.run_bind,Sem.run_pure,Result.andThen_ok,jW,cZ,gM,j,l,i];exact d _ _ h
theorem wK{b:Array Oper}{rest:List Oper}{o:Oper}{a:Act}{w:World}{Q:Exit->Act->World->Prop}(e:o.guard=none)(s x:Operand)(t c:TypeId)(g:o.op=.call {callee:=.builtin .max,args:=#[s,x],argTypes:=#[t,c]})(n m k:Int)(j:a.eval s=.int .i64 n)(l:a.eval x=.int .i64 m)(f:max n m=k)(h:wpList P b Q rest (a.put o.dst k) w):wpList P b Q (o::rest) a w:=
 wpList_plain e λ_ d=>by
  have i:(Builtin.max_ #[t,c] o.type #[n,m]).run P w=.ok k w:=by rw[run_max_int2];congr 2;rw[<-f];split<;>omega
  unfold Oper.wp execOp;simp only[g,resolve,invoke,builtin,Sem.run_bind,Sem.run_pure,Result.andThen_ok,jW,cZ,gM,j,l,i];exact d _ _ h
end
open Go Go.RowKit
structure aO (F:Nat->Prop) (w w':World):Prop where
 os:w'.os=w.os
 tape:w'.tape=w.tape
 output:w'.output=w.output
 size:(w:Nat)<=(w':Nat)
 block:∀k,k<(w:Nat)->¬F k->w'.heap[k]? =w.heap[k]?
theorem aO.refl(F:Nat->Prop)(w:World):aO F w w:=⟨rfl,rfl,rfl,bI _,λ_ _ _=>rfl⟩
theorem aO.trans{F:Nat->Prop}{a b c:World}(h:aO F a b)(k:aO F b c):aO F a c:=
 ⟨k.os.trans h.os,k.tape.trans h.tape,k.output.trans h.output,aV h.size k.size,λi hi d=>(k.block i (aM hi h.size) d).trans (h.block i hi d)⟩
theorem aO.trans'{F G:Nat->Prop}{a b c:World}(h:aO F a b)(k:aO G b c)(e:∀i,i<(a:Nat)->G i->F i):aO F a c:=
 ⟨k.os.trans h.os,k.tape.trans h.tape,k.output.trans h.output,aV h.size k.size,λi hi d=>(k.block i (aM hi h.size) λf=>d (e i hi f)).trans (h.block i hi d)⟩
theorem aO.mono{F G:Nat->Prop}{a b:World}(h:aO F a b)(hF:∀i,i<(a:Nat)->F i->G i):aO G a b:=⟨h.os,h.tape,h.output,h.size,λi hi d=>h.block i hi λc=>d (hF i hi c)⟩
theorem aO.alloc{F:Nat->Prop}{a w:World}(h:aO F a w)(o:Obj):aO F a (w.alloc o):=
 ⟨h.os,h.tape,h.output,aV h.size sZ,λi hi b=>(Below.heap_alloc w o i (aM hi h.size)).trans (h.block i hi b)⟩
theorem aO.drew{F:Nat->Prop}{a w:World}(h:aO F a w):aO F a w.drew:=⟨h.os,h.tape,h.output,h.size,h.block⟩
theorem aO.drewN{F:Nat->Prop}{a w:World}(h:aO F a w)(n:Nat):aO F a (w.drewN n):=⟨h.os,h.tape,h.output,h.size,h.block⟩
theorem aO.setCell{F:Nat->Prop}{a w:World}(h:aO F a w){p:Addr}(b:F p.block\/(a:Nat)<=p.block)(u:Value):aO F a (w.setCell p u):=
 ⟨h.os,h.tape,h.output,by simpa[World.setCell]using h.size,λi hi c=>(Below.heap_setCell w p u i (by
  rintro rfl;rcases b with b|b
  .exact c b
  .omega)).trans (h.block i hi c)⟩
theorem aO.bS{F:Nat->Prop}{a b:World}(h:Below a a b):aO F a b:=⟨h.os,h.tape,h.output,h.size,λi hi _=>h.block i hi⟩
theorem aO.lG{F:Nat->Prop}{a b:World}{row:Option Nat}(h:a.grownBy b row)(hF:∀i,row=some i->F i):aO F a b:=
 ⟨h.os,h.tape,h.output,h.size,λi hi c=>h.block i hi λe=>c (hF i e.symm)⟩
theorem aO.below{F:Nat->Prop}{a w:World}(h:aO F a w){B:Nat}(b:B<=(a:Nat))(hF:∀i,F i->B<=i):Below B a w:=
 ⟨h.os,h.tape,h.output,h.size,λi hi=>h.block i (aM hi b) λc=>by have:=hF i c;omega⟩
theorem aO.cell{F:Nat->Prop}{a w:World}(h:aO F a w){p:Addr}(c:p.block<(a:Nat))(b:¬F p.block):w.cell? p=a.cell? p:=World.cell?_of_block (w:=a) (h.block p.block c b)
theorem aO.frozen{F:Nat->Prop}{a w:World}(h:aO F a w){p:Addr}(c:p.block<(a:Nat))(b:¬F p.block):w.frozen? p=a.frozen? p:=World.frozen?_of_block (w:=a) (h.block p.block c b)
def Blk(w:World)(g:Nat)(t:TypeId)(cs:Array Value):Prop:=w.heap[g]? =some (.cells cs t (0,0))
section
variable {w w':World} {g:Nat} {t:TypeId} {cs:Array Value}
theorem Blk.lt(h:Blk w g t cs):g<(w:Nat):=by
 rcases fP g (w:Nat)with b|a
 .exact b
 .unfold Blk at h;rw[gH a]at h;cases h
theorem Blk.cell(h:Blk w g t cs)(i:Nat):w.cell? (g,i)=cs[i]? :=cell_of_row w g i cs t (0,0) h
theorem Blk.frozen(h:Blk w g t cs)(i:Nat):w.frozen? (g,i)=false:=by unfold Blk at h;simp[World.frozen?,h]
theorem Blk.new(w:World)(t:TypeId)(cs:Array Value):Blk (w.alloc (.cells cs t)) (w:Nat) t cs:=heap_alloc_new w _
theorem Blk.drew(h:Blk w g t cs):Blk w.drew g t cs:=h
theorem Blk.alloc(h:Blk w g t cs)(o:Obj):Blk (w.alloc o) g t cs:=(Below.heap_alloc w o g h.lt).trans h
theorem Blk.bV(h:Blk w g t cs)(i:Nat)(u:Value):Blk (w.setCell (g,i) u) g t (cs.setIfInBounds i u):=by unfold Blk at h⊢;simp[World.setCell,Array.getElem?_modify,h]
theorem Blk.far(h:Blk w g t cs){p:Addr}(a:g≠p.block)(u:Value):Blk (w.setCell p u) g t cs:=(Below.heap_setCell w p u g a).trans h
theorem Blk.below{B:Nat}(h:Blk w g t cs)(a:Below B w w')(b:g<B):Blk w' g t cs:=(a.block g b).trans h
theorem Blk.grown{row:Option Nat}(h:Blk w g t cs)(a:w.grownBy w' row)(b:some g≠row):Blk w' g t cs:=(a.block g h.lt b).trans h
theorem Blk.bD{F:Nat->Prop}(h:Blk w g t cs)(a:aO F w w')(b:¬F g):Blk w' g t cs:=(a.block g h.lt b).trans h
end
theorem aB{w a:World}{o:Obj}(h:w.alloc o=a):Below w w a:=by rw[<-h];exact bZ
theorem aX{w a:World}{t:TypeId}{cs:Array Value}(h:w.alloc (.cells cs t)=a):Blk a w t cs:=by rw[<-h];exact Blk.new _ _ _
theorem aY{w a:World}{b:Nat}{t:TypeId}{cs:Array Value}(h:w.alloc (.cells cs t)=a)(e:(w:Nat)=b):Blk a b t cs:=by rw[<-h,<-e];exact Blk.new _ _ _
theorem Blk.fa{w:World}{g:Nat}{t:TypeId}{cs:Array Value}(h:Blk w g t cs)(i:Nat)(W:World)(a:Below w w W):W.cell? (g,i)=cs[i]? :=(h.below a h.lt).cell i
theorem Blk.c2{w:World}{g:Nat}{t:TypeId}{a0 a1:Value}(h:Blk w g t #[a0,a1]):w.cell? (g,0)=some a0/\w.cell? (g,1)=some a1:=⟨h.cell 0,h.cell 1⟩
theorem Blk.c3{w:World}{g:Nat}{t:TypeId}{a0 a1 a2:Value}(h:Blk w g t #[a0,a1,a2]):w.cell? (g,0)=some a0/\w.cell? (g,1)=some a1/\w.cell? (g,2)=some a2:=⟨h.cell 0,h.cell 1,h.cell 2⟩
theorem Blk.c4{w:World}{g:Nat}{t:TypeId}{a0 a1 a2 a3:Value}(h:Blk w g t #[a0,a1,a2,a3]):w.cell? (g,0)=some a0/\w.cell? (g,1)=some a1/\w.cell? (g,2)=some a2/\w.cell? (g,3)=some a3:=⟨h.cell 0,h.cell 1,h.cell 2,h.cell 3⟩
theorem Blk.c5{w:World}{g:Nat}{t:TypeId}{a0 a1 a2 a3 a4:Value}(h:Blk w g t #[a0,a1,a2,a3,a4]):w.cell? (g,0)=some a0/\w.cell? (g,1)=some a1/\w.cell? (g,2)=some a2/\w.cell? (g,3)=some a3/\w.cell? (g,4)=some a4:=⟨h.cell 0,h.cell 1,h.cell 2,h.cell 3,h.cell 4⟩
theorem Blk.c6{w:World}{g:Nat}{t:TypeId}{a0 a1 a2 a3 a4 a:Value}(h:Blk w g t #[a0,a1,a2,a3,a4,a]):w.cell? (g,0)=some a0/\w.cell? (g,1)=some a1/\w.cell? (g,2)=some a2/\w.cell? (g,3)=some a3/\w.cell? (g,4)=some a4/\w.cell? (g,5)=some a:=⟨h.cell 0,h.cell 1,h.cell 2,h.cell 3,h.cell 4,h.cell 5⟩
theorem Blk.c7{w:World}{g:Nat}{t:TypeId}{a0 a1 a2 a3 a4 a a6:Value}(h:Blk w g t #[a0,a1,a2,a3,a4,a,a6]):w.cell? (g,0)=some a0/\w.cell? (g,1)=some a1/\w.cell? (g,2)=some a2/\w.cell? (g,3)=some a3/\w.cell? (g,4)=some a4/\w.cell? (g,5)=some a/\w.cell? (g,6)=some a6:=⟨h.cell 0,h.cell 1,h.cell 2,h.cell 3,h.cell 4,h.cell 5,h.cell 6⟩
theorem Blk.c8{w:World}{g:Nat}{t:TypeId}{a0 a1 a2 a3 a4 a a6 a7:Value}(h:Blk w g t #[a0,a1,a2,a3,a4,a,a6,a7]):w.cell? (g,0)=some a0/\w.cell? (g,1)=some a1/\w.cell? (g,2)=some a2/\w.cell? (g,3)=some a3/\w.cell? (g,4)=some a4/\w.cell? (g,5)=some a/\w.cell? (g,6)=some a6/\w.cell? (g,7)=some a7:=⟨h.cell 0,h.cell 1,h.cell 2,h.cell 3,h.cell 4,h.cell 5,h.cell 6,h.cell 7⟩
theorem Blk.c9{w:World}{g:Nat}{t:TypeId}{a0 a1 a2 a3 a4 a a6 a7 b:Value}(h:Blk w g t #[a0,a1,a2,a3,a4,a,a6,a7,b]):w.cell? (g,0)=some a0/\w.cell? (g,1)=some a1/\w.cell? (g,2)=some a2/\w.cell? (g,3)=some a3/\w.cell? (g,4)=some a4/\w.cell? (g,5)=some a/\w.cell? (g,6)=some a6/\w.cell? (g,7)=some a7/\w.cell? (g,8)=some b:=⟨h.cell 0,h.cell 1,h.cell 2,h.cell 3,h.cell 4,h.cell 5,h.cell 6,h.cell 7,h.cell 8⟩
theorem Blk.c10{w:World}{g:Nat}{t:TypeId}{a0 a1 a2 a3 a4 a a6 a7 b c:Value}(h:Blk w g t #[a0,a1,a2,a3,a4,a,a6,a7,b,c]):w.cell? (g,0)=some a0/\w.cell? (g,1)=some a1/\w.cell? (g,2)=some a2/\w.cell? (g,3)=some a3/\w.cell? (g,4)=some a4/\w.cell? (g,5)=some a/\w.cell? (g,6)=some a6/\w.cell? (g,7)=some a7/\w.cell? (g,8)=some b/\w.cell? (g,9)=some c:=⟨h.cell 0,h.cell 1,h.cell 2,h.cell 3,h.cell 4,h.cell 5,h.cell 6,h.cell 7,h.cell 8,h.cell 9⟩
theorem Blk.c11{w:World}{g:Nat}{t:TypeId}{a0 a1 a2 a3 a4 b a6 a7 c d a:Value}(h:Blk w g t #[a0,a1,a2,a3,a4,b,a6,a7,c,d,a]):w.cell? (g,0)=some a0/\w.cell? (g,1)=some a1/\w.cell? (g,2)=some a2/\w.cell? (g,3)=some a3/\w.cell? (g,4)=some a4/\w.cell? (g,5)=some b/\w.cell? (g,6)=some a6/\w.cell? (g,7)=some a7/\w.cell? (g,8)=some c/\w.cell? (g,9)=some d/\w.cell? (g,10)=some a:=⟨h.cell 0,h.cell 1,h.cell 2,h.cell 3,h.cell 4,h.cell 5,h.cell 6,h.cell 7,h.cell 8,h.cell 9,h.cell 10⟩
theorem Blk.c12{w:World}{g:Nat}{t:TypeId}{a0 a1 a2 a3 a4 c a6 a7 d e a b:Value}(h:Blk w g t #[a0,a1,a2,a3,a4,c,a6,a7,d,e,a,b]):w.cell? (g,0)=some a0/\w.cell? (g,1)=some a1/\w.cell? (g,2)=some a2/\w.cell? (g,3)=some a3/\w.cell? (g,4)=some a4/\w.cell? (g,5)=some c/\w.cell? (g,6)=some a6/\w.cell? (g,7)=some a7/\w.cell? (g,8)=some d/\w.cell? (g,9)=some e/\w.cell? (g,10)=some a/\w.cell? (g,11)=some b:=⟨h.cell 0,h.cell 1,h.cell 2,h.cell 3,h.cell 4,h.cell 5,h.cell 6,h.cell 7,h.cell 8,h.cell 9,h.cell 10,h.cell 11⟩
theorem Blk.c13{w:World}{g:Nat}{t:TypeId}{a0 a1 a2 a3 a4 d a6 a7 e f a b c:Value}(h:Blk w g t #[a0,a1,a2,a3,a4,d,a6,a7,e,f,a,b,c]):w.cell? (g,0)=some a0/\w.cell? (g,1)=some a1/\w.cell? (g,2)=some a2/\w.cell? (g,3)=some a3/\w.cell? (g,4)=some a4/\w.cell? (g,5)=some d/\w.cell? (g,6)=some a6/\w.cell? (g,7)=some a7/\w.cell? (g,8)=some e/\w.cell? (g,9)=some f/\w.cell? (g,10)=some a/\w.cell? (g,11)=some b/\w.cell? (g,12)=some c:=⟨h.cell 0,h.cell 1,h.cell 2,h.cell 3,h.cell 4,h.cell 5,h.cell 6,h.cell 7,h.cell 8,h.cell 9,h.cell 10,h.cell 11,h.cell 12⟩
theorem Blk.c14{w:World}{g:Nat}{t:TypeId}{a0 a1 a2 a3 a4 e a6 a7 f i a b c d:Value}(h:Blk w g t #[a0,a1,a2,a3,a4,e,a6,a7,f,i,a,b,c,d]):w.cell? (g,0)=some a0/\w.cell? (g,1)=some a1/\w.cell? (g,2)=some a2/\w.cell? (g,3)=some a3/\w.cell? (g,4)=some a4/\w.cell? (g,5)=some e/\w.cell? (g,6)=some a6/\w.cell? (g,7)=some a7/\w.cell? (g,8)=some f/\w.cell? (g,9)=some i/\w.cell? (g,10)=some a/\w.cell? (g,11)=some b/\w.cell? (g,12)=some c/\w.cell? (g,13)=some d:=⟨h.cell 0,h.cell 1,h.cell 2,h.cell 3,h.cell 4,h.cell 5,h.cell 6,h.cell 7,h.cell 8,h.cell 9,h.cell 10,h.cell 11,h.cell 12,h.cell 13⟩
theorem Blk.c15{w:World}{g:Nat}{t:TypeId}{a0 a1 a2 a3 a4 f a6 a7 i j a b c d e:Value}(h:Blk w g t #[a0,a1,a2,a3,a4,f,a6,a7,i,j,a,b,c,d,e]):w.cell? (g,0)=some a0/\w.cell? (g,1)=some a1/\w.cell? (g,2)=some a2/\w.cell? (g,3)=some a3/\w.cell? (g,4)=some a4/\w.cell? (g,5)=some f/\w.cell? (g,6)=some a6/\w.cell? (g,7)=some a7/\w.cell? (g,8)=some i/\w.cell? (g,9)=some j/\w.cell? (g,10)=some a/\w.cell? (g,11)=some b/\w.cell? (g,12)=some c/\w.cell? (g,13)=some d/\w.cell? (g,14)=some e:=⟨h.cell 0,h.cell 1,h.cell 2,h.cell 3,h.cell 4,h.cell 5,h.cell 6,h.cell 7,h.cell 8,h.cell 9,h.cell 10,h.cell 11,h.cell 12,h.cell 13,h.cell 14⟩
open Go Go.RowKit
def fI(w:World)(B:Nat)(E:TypeId)(v:Value)(xs:List Value):Prop:=w.ownsRow B E 1 v xs.length xs
theorem fI.nil(w:World)(B:Nat)(E:TypeId):fI w B E (.slice none 0 0) []:=World.ownsRow_nil w B E 1
theorem fI.lt{w:World}{B:Nat}{E:TypeId}{v:Value}{xs:List Value}(h:fI w B E v xs):∀k,v.ownBlock=some k->B<=k/\k<(w:Nat):=by
 intro k c;rcases h.2 with⟨rfl,_⟩|⟨g,cap,cur,rfl,d,b,_⟩
 .cases c
 .cases c;refine⟨d,?_⟩;rcases fP g (w:Nat)with a|a
  .exact a
  .rw[gH a]at b;cases b
theorem fI.low{w:World}{B B':Nat}{E:TypeId}{v:Value}{xs:List Value}(h:fI w B E v xs)(b:B'<=B):fI w B' E v xs:=by
 refine⟨h.1,?_⟩;rcases h.2 with a|⟨g,cap,cur,e,c,r⟩
 .exact .inl a
 .exact .inr ⟨g,cap,cur,e,oZ,r⟩
theorem fI.bD{w w':World}{B:Nat}{E:TypeId}{v:Value}{xs:List Value}(h:fI w B E v xs)(d:∀k,v.ownBlock=some k->w'.heap[k]? =w.heap[k]?):fI w' B E v xs:=by
 refine⟨h.1,?_⟩;rcases h.2 with a|⟨g,cap,cur,rfl,b,c,r⟩
 .exact .inl a
 .exact .inr ⟨g,cap,cur,rfl,b,(d g rfl).trans c,r⟩
theorem fI.below{w w':World}{B:Nat}{E:TypeId}{v:Value}{xs:List Value}(h:fI w B E v xs)(a:Below w w w'):fI w' B E v xs:=h.bD λk b=>a.block k (h.lt k b).2
theorem fI.form{w:World}{B:Nat}{E:TypeId}{v:Value}{xs:List Value}(h:fI w B E v xs):∃a c,v=.slice a xs.length c/\(xs≠[]->∃g,a=some ⟨g,0,none⟩/\g<(w:Nat)/\∀i x,xs[i]? =some x->w.cell? ⟨g,i,none⟩=some x):=by
 rcases h.2 with⟨rfl,b⟩|⟨g,cap,cur,rfl,e,j,f⟩
 .exact⟨none,0,by rw[b],λd=>absurd (fM b) d⟩
 .refine⟨_,_,rfl,λ_=>⟨g,rfl,(h.lt g rfl).2,λi x b=>?_⟩⟩;have:=h.cells (g:=g) rfl i x b;rwa [addr_add]at this
section
variable {P:Program}
theorem NM{w:World}{B:Nat}{v:Value}{xs:List Value}(t ty E:TypeId)(i:TypeInfo)(z:Value)(bytes:Nat)(r:P.underlying t=some (.slice E))(hi:P.info? E=some i)(s:i.zero=some z)(p:i.size=1)(g:i.bytes=bytes)(y:z.cells.size=1)(h:fI w B E v xs)(A:B<=(w:Nat))(x:Value)(c:x.oneCell'=true)(m:(xs.length+1)*bytes<=140737488355328)(F:xs.length+1<=140737488355328):∃v' w',(Builtin.append_ #[t,t] ty #[v,.slice w 1 1]).run P (w.alloc (.cells #[x] E))=.ok v' w'/\fI w' B E v' (xs++[x])/\(w.alloc (.cells #[x] E)).grownBy w' v.ownBlock/\(∀k,v'.ownBlock=some k->v.ownBlock=some k\/(w:Nat)<=k):=by
 have d:fI (w.alloc (.cells #[x] E)) B E v xs:=h.below (bZ);obtain⟨v',w',o,n,l,_,f⟩:=run_append_own_at (P:=P) (w.alloc (.cells #[x] E)) B t ty E i z 1 bytes r hi s p g y oZ v xs.length xs d ⟨w,0,none⟩ 1 1 [x] rfl
  (λj u a=>by
   cases j with
   |zero=>
    simp at a;subst a;show(w.alloc (.cells #[x] E)).cell? (w,0)=_;rw[World.cell?_alloc_mark];rfl
   |succ j=>simp at a)
  (λu a=>by simp at a;subst a;exact c) (by unfold maxLen;omega) m (by simp;omega)
 refine⟨v',w',o,?_,l,λk b=>?_⟩
 .unfold fI;rw[aW];exact n
 .rcases f with e|e
  .exact .inl (e▸b)
  .rw[e]at b;right;have:(w.alloc (.cells #[x] E)).heap.size=k:=by injection b
   simp at this;omega
end
open Go Go.RowKit Go.MapKept
section
variable {α:Type} [DecidableEq α]
def qX(a:α):List (α×Value)->Nat->Option (Nat×Value)
 |[],_=>none
 |p::l,i=>if a=p.1 then some (i,p.2)else qX a l (i+1)
def nM(a:α):List (α×Value)->Option Value
 |[]=>none
 |p::l=>if a=p.1 then some p.2 else nM a l
def mX(a:α)(v:Value):List (α×Value)->List (α×Value)
 |[]=>[(a,v)]
 |p::l=>if a=p.1 then(a,v)::l else p::mX a v l
def zB(a:α):List (α×Value)->List (α×Value)
 |[]=>[]
 |p::l=>if a=p.1 then l else p::zB a l
theorem ZW(a:α):∀(l:List (α×Value)) (i:Nat),(qX a l i).map (·.2)=nM a l
 |[],i=>rfl
 |p::l,i=>by
  unfold qX nM;split
  .rfl
  .exact ZW a l (i+1)
theorem JY(a:α)(v:Value):∀(l:List (α×Value)) (i:Nat),qX a l i=none->mX a v l=l++[(a,v)]/\zB a l=l/\nM a l=none
 |[],i,_=>⟨rfl,rfl,rfl⟩
 |p::l,i,h=>by
  unfold qX at h;split at h
  .cases h
  .rename_i hne;obtain⟨b,c,d⟩:=JY a v l (i+1) h;unfold mX zB nM;rw[aD hne,aD hne,aD hne,b,c,d];exact⟨rfl,rfl,rfl⟩
theorem JX(a:α)(v:Value):∀(l:List (α×Value)) (i k:Nat) (u:Value),qX a l i=some (k,u)->i<=k/\l[k-i]? =some (a,u)/\mX a v l=l.set (k-i) (a,v)/\zB a l=l.eraseIdx (k-i)/\nM a l=some u
 |[],i,k,u,h=>by cases h
 |p::l,i,k,u,h=>by
  unfold qX at h;split at h
  .rename_i he;simp only[Option.some.injEq,Prod.mk.injEq]at h;obtain⟨rfl,rfl⟩:=h;unfold mX zB nM;rw[aG he,aG he,aG he];subst he;simp
  .rename_i hne;obtain⟨f,b,c,d,e⟩:=JX a v l (i+1) k u h;unfold mX zB nM;rw[aD hne,aD hne,aD hne];rw[show k-i=(k-(i+1))+1 by omega];refine⟨oZ,by simpa using b,by rw[c];rfl,by rw[d];rfl,e⟩
theorem IG(a b:α)(v:Value):∀l:List (α×Value),nM b (mX a v l)=if b=a then some v else nM b l
 |[]=>by unfold mX nM nM;split<;>rfl
 |p::l=>by
  unfold mX;by_cases h:a=p.1
  .rw[aG h];unfold nM;subst h;split<;>rfl
  .rw[aD h];unfold nM;rw[IG a b v l];by_cases c:b=p.1
   .rw[aG c,aG c];by_cases d:b=a
    .exact absurd (d▸c) h
    .rw[aD d]
   .rw[aD c,aD c]
def WY:List (α×Value)->Prop
 |[]=>True
 |p::l=>nM p.1 l=none/\WY l
theorem VP(a:α)(v:Value):∀l:List (α×Value),WY l->WY (mX a v l)
 |[],_=>⟨rfl,trivial⟩
 |p::l,h=>by
  unfold mX;by_cases b:a=p.1
  .rw[aG b];subst b;exact h
  .rw[aD b];refine⟨?_,VP a v l h.2⟩;rw[IG,aD λe=>b e.symm];exact h.1
theorem OQ(a b:α):∀l:List (α×Value),WY l->nM b (zB a l)=if b=a then none else nM b l
 |[],_=>by unfold zB nM;split<;>rfl
 |p::l,h=>by
  unfold zB;by_cases d:a=p.1
  .rw[aG d];by_cases c:b=p.1
   .rw[aG (c.trans d.symm),c];exact h.1
   .rw[aD λe=>c (e.trans d)]
    conv=>rhs;unfold nM
    rw[aD c]
  .rw[aD d];unfold nM;rw[OQ a b l h.2];by_cases c:b=p.1
   .rw[aG c,aG c,aD λe=>d (e.symm.trans c)]
   .rw[aD c,aD c]
theorem VQ(a:α):∀l:List (α×Value),WY l->WY (zB a l)
 |[],_=>trivial
 |p::l,h=>by
  unfold zB;by_cases b:a=p.1
  .rw[aG b];exact h.2
  .rw[aD b];refine⟨?_,VQ a l h.2⟩;rw[OQ a p.1 l h.2];split
   .rfl
   .exact h.1
theorem aaQ{β γ:Type}(f:β->γ):∀(l:List β) (k:Nat),(l.eraseIdx k).map f=(l.map f).eraseIdx k
 |[],k=>rfl
 |x::l,0=>rfl
 |x::l,k+1=>by simp[aaQ f l k]
theorem aiv{β:Type}(a:Array β)(k:Nat):(a.eraseIdxIfInBounds k).toList=a.toList.eraseIdx k:=by
 unfold Array.eraseIdxIfInBounds;split
 .rw[Array.toList_eraseIdx]
 .rename_i h;rw[List.eraseIdx_of_length_le (by simpa using h)]
structure NW (P:Program) (kt:TypeId) (enc:α->Value):Prop where
 chk:∀(em:Bool) (a:α) (w:World),(Instr.checkKey em 10000 kt (enc a)).run P w=.ok () w
 find:∀(a:α) (es:List MapEntry) (l:List (α×Value)) (w:World),es.map (λe=>(e.key,e.val))=l.map (λp=>(enc p.1,p.2))->(Instr.findKey kt (enc a) es).run P w=.ok (qX a l 0) w
 same:∀(a:α),Instr.sameBits 10000 (enc a) (enc a)=true
def pY(w:World)(b:Nat)(enc:α->Value)(l:List (α×Value)):Prop:=∃es clock,w.heap[b]? =some (.map es clock)/\es.toList.map (λe=>(e.key,e.val))=l.map (λp=>(enc p.1,p.2))/\WY l
theorem pY.lt{w:World}{b:Nat}{enc:α->Value}{l:List (α×Value)}(h:pY w b enc l):b<(w:Nat):=by obtain⟨d,c,a,_⟩:=h;exact(bT.1 a).1
theorem pY.bD{w w':World}{b:Nat}{enc:α->Value}{l:List (α×Value)}{F:Nat->Prop}(h:pY w b enc l)(k:aO F w w')(e:¬F b):pY w' b enc l:=by have f:=h.lt;obtain⟨a,c,d,g⟩:=h;exact⟨a,c,(k.block b f e).trans d,g⟩
theorem pY.on{w w':World}{b:Nat}{enc:α->Value}{l:List (α×Value)}(h:pY w b enc l)(k:Below w w w'):pY w' b enc l:=
 h.bD (F:=λ_=>False) (aO.bS k) (λf=>f)
theorem pY.new(w:World)(enc:α->Value):pY (w.alloc (.map #[] 0)) (w:Nat) enc ([]:List (α×Value)):=⟨#[],0,(heap_alloc w _).1,rfl,trivial⟩
variable {P:Program} {kt et t:TypeId} {enc:α->Value} {w:World} {b:Nat} {l:List (α×Value)}
theorem pY.look(h:pY w b enc l)(K:NW P kt enc)(j:P.underlying t=some (.map kt et)){z:Value}(n:∀w:World,(zeroValue et).run P w=.ok z w)(a:α):(Instr.lookup t (.map (some b)) (enc a) true).run P w=.ok (.tuple #[(nM a l).getD z,.bool (nM a l).isSome]) w/\(Instr.lookup t (.map (some b)) (enc a) false).run P w=.ok ((nM a l).getD z) w:=by
 obtain⟨k,c,g,m,_⟩:=h;have d:=K.find a k.toList l w m;have e:=ZW a l 0;cases i:qX a l 0 with
 |none=>
  rw[i]at d e;have f:nM a l=none:=e.symm;rw[f];constructor<;>simp[Instr.lookup,run_underlying j,Go.MapKept.run_getObj_map g,K.chk,d,n]
 |some p=>
  rw[i]at d e;have f:nM a l=some p.2:=e.symm;rw[f];constructor<;>simp[Instr.lookup,run_underlying j,Go.MapKept.run_getObj_map g,K.chk,d]
theorem pY.put(h:pY w b enc l)(K:NW P kt enc)(F:P.underlying t=some (.map kt et))(a:α)(v:Value):∃w',(Instr.mapUpdate t (.map (some b)) (enc a) v).run P w=.ok () w'/\pY w' b enc (mX a v l)/\aO (λk=>k=b) w w':=by
 have M:=h.lt;obtain⟨d,c,f,m,A⟩:=h;have n:=K.find a d.toList l w m;have z:∀o,aO (λk=>k=b) w {w with heap:=w.heap.setIfInBounds b o}:=λo=>
  ⟨rfl,rfl,rfl,sZ,λk L g=>by simp[Ne.symm g]⟩
 cases g:qX a l 0 with
 |none=>
  rw[g]at n;obtain⟨i,_,_⟩:=JY a v l 0 g;refine⟨_,by simp[Instr.mapUpdate,run_underlying F,Go.MapKept.run_getObj_map f,K.chk,n,Go.MapKept.run_setObj_map _ f];rfl,⟨_,_,(heap_set f).1,?_,VP a v l A⟩,z _⟩;rw[i];simp[m]
 |some p=>
  obtain⟨k,u⟩:=p;rw[g]at n;obtain⟨_,i,y,_,_⟩:=JX a v l 0 k u g;rw[Nat.sub_zero]at i y;have I:k<l.length:=(bE.1 i).1;have hel:d.toList.length=l.length:=by simpa using dA List.length m
  have x:k<d.size:=by simpa using(hel▸I:k<d.toList.length)
  have r:(d.toList.map λe=>(e.key,e.val))[k]? =some (enc a,u):=by rw[m,fK,i];rfl
  have H:d[k].key=enc a:=by rw[fK,dP,dH x]at r;simp at r;exact r.1
  have J:(Instr.keyThatStays (((d[k]?).map (·.key)).getD (enc a)) (enc a)).run P w=.ok (enc a) w:=by rw[dH x];simp[Instr.keyThatStays,H,K.same]
  refine⟨_,by simp only[Instr.mapUpdate,Sem.run_bind,run_underlying F,Result.andThen_ok,Go.MapKept.run_getObj_map f,K.chk,n,J,Go.MapKept.run_setObj_map _ f];rfl,⟨_,_,(heap_set f).1,?_,VP a v l A⟩,z _⟩;rw[y,List.map_set,<-m];apply gL;intro j;by_cases s:j=k
  .subst s;simp[x]
  .simp[Array.getElem?_modify,Ne.symm s,List.getElem?_set,s]
theorem pY.cut(h:pY w b enc l)(K:NW P kt enc)(s:P.underlying t=some (.map kt et))(a:α):∃w',(∀ty j,(Builtin.delete_ #[t,j] ty #[.map (some b),enc a]).run P w=.ok (.tuple #[]) w')/\pY w' b enc (zB a l)/\aO (λk=>k=b) w w':=by
 have y:=h.lt;obtain⟨v,c,d,i,r⟩:=h;have f:=K.find a v.toList l w i;have n:∀o,aO (λk=>k=b) w {w with heap:=w.heap.setIfInBounds b o}:=λo=>
  ⟨rfl,rfl,rfl,sZ,λk x e=>by simp[Ne.symm e]⟩
 cases e:qX a l 0 with
 |none=>
  rw[e]at f;obtain⟨_,g,_⟩:=JY a .nilIface l 0 e;refine⟨_,λty j=>by simp[Builtin.delete_,run_underlying s,Go.MapKept.run_getObj_map d,K.chk,f,Go.MapKept.run_setObj_map _ d];rfl,⟨_,_,(heap_set d).1,?_,VQ a l r⟩,n _⟩;rw[g];exact i
 |some p=>
  obtain⟨k,u⟩:=p;rw[e]at f;obtain⟨_,g,_,m,_⟩:=JX a .nilIface l 0 k u e;rw[Nat.sub_zero]at g m;refine⟨_,λty j=>by simp[Builtin.delete_,run_underlying s,Go.MapKept.run_getObj_map d,K.chk,f,Go.MapKept.run_setObj_map _ d];rfl,⟨_,_,(heap_set d).1,?_,VQ a l r⟩,n _⟩;rw[m];rw[aiv,aaQ,i,aaQ]
end
open Go Go.RowKit Go.MapKept
theorem aeY{P:Program}{kt:TypeId}{q:IntKind}(a:Int):∀(b:List MapEntry) (l:List (Int×Value)) (i:Nat),b.map (λe=>(e.key,e.val))=l.map (λp=>(Value.int q p.1,p.2))->Instr.findNow (.int q) (.int q a) b i=some (qX a l i)
 |[],[],i,_=>rfl
 |[],p::l,i,h=>by simp at h
 |e::b,[],i,h=>by simp at h
 |e::b,p::l,i,h=>by
  simp only[cZ,cB,Prod.mk.injEq]at h;obtain⟨⟨d,hv⟩,f⟩:=h;have g:=aeY (P:=P) (kt:=kt) a b l (i+1) f;unfold Instr.findNow qX;rw[d,hv];by_cases c:a=p.1
  .simp[Instr.sameNow,c]
  .have:(a==p.1)=false:=by simpa using c
   simp[Instr.sameNow,c,this,g]
theorem asx{P:Program}{kt:TypeId}{q:IntKind}(b:P.underlying kt=some (.int q)):NW P kt (Value.int q) where
 chk em a w:=by
  have h:∀n,(Instr.checkKey em (n+1) kt (.int q a)).run P w=.ok () w:=λn=>by simp[Instr.checkKey,run_underlying b]
  exact h 9999
 find a es l w h:=Go.MapKept.run_findKey b (aeY (P:=P) (kt:=kt) a es l 0 h)
 same a:=by
  have h:∀n,Instr.sameBits n (.int q a) (.int q a)=true:=λn=>by cases n<;>simp[Instr.sameBits]
  exact h _
section
variable {P:Program} {ops:Array Oper} {md:Region.Mode} {Y:Sem Next->Value->Prop}
def kpY(ops:Array Oper)(Y:Sem Next->Value->Prop)(i:Nat)(K:Act->Prop)(a:Act):Prop:=
 match ops[i]? with
 |none=>K a
 |some o=>if Region.wanted o (yielded ops a.tmps)then∃v,Y (execOp a.eval o) v/\K (a.put o.dst v)else K (a.put o.dst undef)
theorem apT{i:Nat}{a:Act}{K c:Act->Prop}(h:∀a,K a->c a)(b:kpY ops Y i K a):kpY ops Y i c a:=by
 unfold kpY at*;split
 .exact h _ (by simpa[*]using b)
 .rename_i o ho;simp only[ho]at b;split
  .rename_i hw;simp only[hw,if_true]at b;obtain⟨v,d,e⟩:=b;exact⟨v,d,h _ e⟩
  .rename_i hw;simp only[hw]at b;exact h _ b
def YAt(ops:Array Oper)(Y:Sem Next->Value->Prop)(o:Oper)(v:Value)(a:Act):Prop:=(Region.wanted o (yielded ops a.tmps)=true/\Y (execOp a.eval o) v)\/(Region.wanted o (yielded ops a.tmps)=false/\v=undef)
theorem YAt.kpY{i:Nat}{o:Oper}{v:Value}{a:Act}(hi:ops[i]? =some o)(c:YAt ops Y o v a){K:Act->Prop}(h:K (a.put o.dst v)):kpY ops Y i K a:=by
 unfold L.kpY;simp only[hi];rcases c with⟨b,hv⟩|⟨b,rfl⟩
 .simp only[b,if_true];exact⟨v,hv,h⟩
 .simp only[b,kC,if_false];exact h
theorem ain{i:Nat}{o:Oper}{a:Act}{K:Act->Prop}(hi:ops[i]? =some o)(h:kpY ops Y i K a):∃v,YAt ops Y o v a/\K (a.put o.dst v):=by
 unfold kpY at h;simp only[hi]at h;by_cases b:Region.wanted o (yielded ops a.tmps)=true
 .simp only[b,if_true]at h;obtain⟨v,c,d⟩:=h;exact⟨v,.inl ⟨b,c⟩,d⟩
 .simp only[b]at h;exact⟨undef,.inr ⟨by simpa using b,rfl⟩,h⟩
theorem YAt.of_same{o:Oper}{v:Value}{a a':Act}(d:YAt ops Y o v a)(b:execOp a'.eval o=execOp a.eval o)(c:Region.wanted o (yielded ops a'.tmps)=Region.wanted o (yielded ops a.tmps)):YAt ops Y o v a':=by unfold YAt at*;rw[b,c];exact d
theorem asw{j:Nat}{c d:Oper}{v:Value}(n:ops[j]? =some d)(m:c.apart ops d=true)(p:∀cs b,c.op≠.select cs b)(r:∀cs b,d.op≠.select cs b){K:Act->Prop}{a:Act}(e:YAt ops Y c v a)(h:kpY ops Y j K (a.put c.dst v)):kpY ops Y j (λa'=>YAt ops Y c v a'/\K (a'.put c.dst v)) a:=by
 obtain⟨f,g,i⟩:=Oper.apart_spec m;have l:∀(a:Act),YAt ops Y c v a->∀u,YAt ops Y c v (a.put d.dst u):=λa e u=>
  e.of_same (execOp_put c p a d.dst u i) (wanted_put c a d.dst u i)
 unfold kpY at*;simp only[n]at*;rw[wanted_put d a c.dst v f]at h;split
 .rename_i hw;simp only[hw,if_true]at h;obtain⟨u,k,o⟩:=h;refine⟨u,?_,l a e u,by rw[<-Act.put_comm a v u g];exact o⟩;rw[execOp_put d r a c.dst v f]at k;exact k
 .rename_i hw;simp only[hw]at h;exact⟨l a e _,by rw[<-Act.put_comm a v undef g];exact h⟩
theorem amD{j:Nat}{c d:Oper}{x:Value}(l:ops[j]? =some d)(k:c.apart ops d=true)(n:∀cs b,d.op≠.select cs b){K e:Act->Prop}{a:Act}(i:∀a,K a->e (a.put c.dst x))(h:kpY ops Y j K a):kpY ops Y j e (a.put c.dst x):=by
 obtain⟨f,g,p⟩:=Oper.apart_spec k;unfold kpY at*;simp only[l]at*;rw[wanted_put d a c.dst x f];split
 .rename_i hw;simp only[hw,if_true]at h;obtain⟨u,o,m⟩:=h;refine⟨u,?_,by rw[Act.put_comm a x u g];exact i _ m⟩;rw[execOp_put d n a c.dst x f];exact o
 .rename_i hw;simp only[hw]at h;rw[Act.put_comm a x undef g];exact i _ h
def zJ(md:Region.Mode)(ops:Array Oper)(Y:Sem Next->Value->Prop)(n:Nat)(L:Array Bool->Act->Prop):Nat->Array Bool->Act->Prop
 |0,listed,a=>L listed a
 |f+1,listed,a=>
  Region.ready md ops listed≠[]/\∀i∈Region.ready md ops listed,i<n/\kpY ops Y i (zJ md ops Y n L f (listed.setIfInBounds i true)) a
theorem acW{n i:Nat}{s:Oper}{v:Value}{L:Array Bool->Act->Prop}(hi:ops[i]? =some s)(I:∀(j:Nat) (o:Oper) cs b,ops[j]? =some o->o.op≠.select cs b)(ag:Region.sinkB md ops (n+1)=true)(O:Region.chainB md ops (n+1)=true)(ad:n+1<ops.size)(ai:i<n)(Q:∀listed a,L listed a->∀j∈Region.ready md ops listed,n+1<=j):∀(f:Nat) (listed:Array Bool) (a:Act),HeadInv md ops (n+1) listed->listed.getD n false=true->(∀j r,ops[j]? =some r->j≠i->listed.getD j true=false->(∀e∈r.after,Region.binds md e=true->e.on≠i)->s.apart ops r=true)->i∈Region.ready md ops listed->YAt ops Y s v a->zJ md ops Y n L f (listed.setIfInBounds i true) (a.put s.dst v)->zJ md ops Y n L (f+1) listed a:=by
 have small:∀(listed:Array Bool) (j:Nat),HeadInv md ops (n+1) listed->listed.getD n false=true->listed.getD i true=false->j∈Region.ready md ops listed->j<n:=by
  intro listed j p l d c;rcases Nat.lt_trichotomy j n with h|h|h
  .exact h
  .subst h;have J:=(mem_ready.1 c).1;rw[getD_both J]at l;cases l
  .exact absurd c (tail_waits ag O ad p _ i rfl oZ d j oZ)
 intro f;induction f with
 |zero=>
  intro listed a p l _ m w H;have d:=(mem_ready.1 m).1;refine⟨λh=>(by rw[h]at m;cases m),λj c=>?_⟩;refine⟨small listed j p l d c,?_⟩;by_cases g:j=i
  .subst g;exact w.kpY hi H
  .have:=Q _ _ H j (ready_mono c g);have:=small listed j p l d c;omega
 |succ f ah=>
  intro listed a p l z m w H;have d:=(mem_ready.1 m).1;refine⟨λh=>(by rw[h]at m;cases m),λj c=>?_⟩;have Z:=small listed j p l d c;refine⟨Z,?_⟩;by_cases g:j=i
  .subst g;exact w.kpY hi H
  .have u:=(H.2 j (ready_mono c g)).2;obtain⟨F,r,x,M⟩:=mem_ready.1 c;have af:∀e∈r.after,Region.binds md e=true->e.on≠i:=λe T N W=>by have u:=M e T N;rw[W,getD_both d]at u;cases u
   have K:=asw x (z j r x g F af) (λcs b=>I i s cs b hi) (λcs b=>I j r cs b x) w u;have X:∀k ok,ops[k]? =some ok->k≠i->(listed.setIfInBounds j true).getD k true=false->
     (∀e∈ok.after,Region.binds md e=true->e.on≠i)->s.apart ops ok=true:=λk ok aa ab d ae=>by
    refine z k ok aa ab ?_ ae;by_cases A:j=k
    .subst A;exact F
    .rw[getD_set_ne true A]at d;exact d
   refine apT (λa' y=>ah (listed.setIfInBounds j true) a' (p.set c oZ) (getD_set_true l) X (ready_mono m (Ne.symm g)) y.1 ?_) K;rw[kF _ _ g];exact y.2
def BD(ops:Array Oper)(Y:Sem Next->Value->Prop)(Q:Act->Prop):List Oper->Act->Prop
 |[],a=>Q a
 |o::rest,a=>if Region.wanted o (yielded ops a.tmps)then∃v,Y (execOp a.eval o) v/\BD ops Y Q rest (a.put o.dst v)else BD ops Y Q rest (a.put o.dst undef)
structure zZ (ops:Array Oper) (Y:Sem Next->Value->Prop) (Q:Act->Prop) (l:List Oper) (a:Act):Prop where
 out:BD ops Y Q l a
def FZ(md:Region.Mode)(ops:Array Oper)(n g:Nat):Nat->Nat->Array Bool->Bool
 |0,k,listed=>k==n&&Region.seqB md ops g (n+1) listed
 |f+1,k,listed=>(Region.ready md ops listed).contains k&&Region.free md ops listed k&&FZ md ops n g f (k+1) (listed.setIfInBounds k true)
theorem TG{n g:Nat}{d:Act->Prop}(w:Region.noSelect ops=true)(u:Region.sinkB md ops (n+1)=true)(i:Region.chainB md ops (n+1)=true)(r:n+1<ops.size)(I:0<g):∀(l:List Oper) (k:Nat) (listed:Array Bool) (a:Act),(∀j,j<l.length->l[j]? =ops[k+j]?)->k+l.length=n->HeadInv md ops (n+1) listed->listed.getD n false=true->FZ md ops n g l.length k listed=true->BD ops Y d l a->zJ md ops Y n (λy a'=>Region.seqB md ops g (n+1) y=true/\d a') l.length listed a
 |[],k,listed,a,_,f,_,_,b,h=>by simp only[FZ,List.length_nil,Bool.and_eq_true]at b;exact⟨b.2,h⟩
 |o::l,k,listed,a,m,f,x,p,b,h=>by
  have c:ops[k]? =some o:=by simpa using(m 0 sZ).symm
  simp only[List.length_cons,FZ,Bool.and_eq_true]at b;obtain⟨⟨K,H⟩,z⟩:=b;have J:k<n:=by simp only[List.length_cons]at f;omega
  have s:k∈Region.ready md ops listed:=by simpa using K
  have L:kpY ops Y k (BD ops Y d l) a:=by unfold kpY;simp only[c];exact h
  obtain⟨v,M,A⟩:=ain c L;refine acW c (Region.noSelect_spec w) u i r J (λy a' F=>?_) l.length listed a x p (Region.free_spec c H) s M
   (TG w u i r I l (k+1) _ _ (λj e=>by have:=m (j+1) (by simp;omega);simpa[iQ,jJ 1 j]using this) (by simp only[List.length_cons]at f;omega) (x.set s oZ) (getD_set_true p) z A)
  have:=F.1;cases g with
  |zero=>omega
  |succ g=>
   simp only[Region.seqB,Bool.and_eq_true,fA]at this;intro j e;rw[this.1]at e;simp at e;omega
def BO(P:Program)(v:Value)(W:World):Result Next->Prop
 |.ok (.value u) W'=>u=v/\Below W W W'
 |.ok .skip W'=>v=undef/\Below W W W'
 |.ok (.enter f args) W'=>Below W W W'/\Calls P f args W' (λe W''=>e=.returned v/\Below W W W'')
 |_=>False
theorem aaS(P:Program)(v u:Value)(W W':World):BO P v W (.ok (.value u) W')=(u=v/\Below W W W'):=rfl
theorem adf(P:Program)(v:Value)(W W':World):BO P v W (.ok .skip W')=(v=undef/\Below W W W'):=rfl
theorem aaT(P:Program)(v:Value)(f:FuncId)(args:Array Value)(W W':World):BO P v W (.ok (.enter f args) W')=(Below W W W'/\Calls P f args W' λe W''=>e=.returned v/\Below W W W''):=rfl
def YB(P:Program)(w:World):Sem Next->Value->Prop:=λs v=>∀W,aF w W->BO P v W (s.run P W)
theorem OJ{w:World}{i:Nat}{a:Act}{W:World}{S:World->Prop}(l:∀W W',S W->Below W W W'->S W'){K:Act->Prop}{m:Act->World->Prop}{Q':Exit->Act->World->Prop}(c:Below w w W)(j:S W)(h:∀a W,K a->Below w w W->S W->m a W)(b:kpY ops (YB P w) i K a):wpOp P ops Q' i m a W:=by
 unfold kpY at b;unfold wpOp;split
 .rename_i ho;simp only[ho]at b;exact h _ _ b c j
 .rename_i o ho;simp only[ho]at b;split
  .rename_i hw;simp only[hw,if_true]at b;obtain⟨v,p,k⟩:=b;refine .inl ?_;have d:=p W c;unfold Oper.wp;generalize(execOp a.eval o).run P W=r at*;cases r with
   |ok n w'=>
    cases n<;>simp only[BO]at d<;>simp only[Oper.upon]
    case value u=>obtain⟨rfl,g⟩:=d;exact h _ _ k (aA c g) (l _ _ j g)
    case skip=>obtain⟨rfl,g⟩:=d;exact h _ _ k (aA c g) (l _ _ j g)
    case enter f args=>exact d.2.mono λe y ⟨s,hw⟩=>by subst s;exact h _ _ k (aA c hw) (l _ _ j hw)
   |halt x w'=>simp only[BO]at d
  .rename_i hw;simp only[hw]at b;exact h _ _ b c j
theorem KH{w:World}{n g:Nat}{L:Array Bool->Act->Prop}{S:World->Prop}(e:∀W W',S W->Below W W W'->S W'){Q':Exit->Act->World->Prop}(d:∀listed a W,L listed a->Below w w W->S W->wpAny P md ops Q' g listed a W):∀(f:Nat) (listed:Array Bool) (a:Act) (W:World),Below w w W->S W->zJ md ops (YB P w) n L f listed a->wpAny P md ops Q' (f+g) listed a W
 |0,listed,a,W,b,c,h=>by rw[aU];exact d _ _ _ h b c
 |f+1,listed,a,W,b,c,h=>by rw[show f+1+g=(f+g)+1 by omega];exact⟨λk=>absurd k h.1,λi hi=>OJ e b c (λa' W' j l m=>KH e d f _ a' W' l m j) (h.2 i hi).2⟩
theorem OB{n:Nat}{on:Oper}{x:Value}{L L':Array Bool->Act->Prop}(g:∀listed a,L listed a->L' listed (a.put on.dst x))(l:∀(j:Nat) (o:Oper) cs b,ops[j]? =some o->o.op≠.select cs b)(k:∀i c,i<n->ops[i]? =some c->on.apart ops c=true):∀(f:Nat) (listed:Array Bool) (a:Act),zJ md ops Y n L f listed a->zJ md ops Y n L' f listed (a.put on.dst x)
 |0,_,_,h=>g _ _ h
 |f+1,listed,a,h=>⟨h.1,λi hi=>by obtain⟨e,m⟩:=h.2 i hi;obtain⟨_,c,d,_⟩:=mem_ready.1 hi;exact⟨e,amD d (k i c e d) (λcs b=>l i c cs b d) (λa h=>OB g l k f _ a h) m⟩⟩
def anh(md:Region.Mode)(ops:Array Oper)(n:Nat):Bool:=
 Region.noSelect ops&&Region.sinkB md ops (n+1)&&Region.chainB md ops (n+1)&&decide (n+1<ops.size)&&
 (match ops[n]? with
  |none=>false
  |some on=>on.after.all (λe=> !Region.binds md e)&&on.guard.isNone&&(List.range n).all (λi=>match ops[i]? with
   |none=>false
   |some oi=>on.apart ops oi&&oi.after.all λe=> !(Region.binds md e&&e.on==n)))&&
 (List.range ops.size).all (λt=>decide (t<=n)||Region.waitsFor md ops t n||decide (n+1<t))&&
 FZ md ops n (ops.size-(n+1)) n 0 ((Array.replicate ops.size false).setIfInBounds n true)
theorem agp{w:World}{n g:Nat}{on:Oper}{s:Tmp}{T:TypeId}{z:Array Value}{F:Act->Prop}{Q':Exit->Act->World->Prop}(ak:Region.noSelect ops=true)(au:Region.sinkB md ops (n+1)=true)(ai:Region.chainB md ops (n+1)=true)(ar:n+1<ops.size)(aq:0<g)(A:ops[n]? =some on)(aa:∀e∈on.after,Region.binds md e=false)(ab:on.guard=none)(Z:on.dst=some s)(ah:∀i u,i<n->ops[i]? =some u->on.apart ops u=true)(am:Region.waitsFor md ops (n+1) n=true)(ae:∀(a:Act) (W:World),(execOp a.eval on).run P W=.ok (.value (.pointer W)) (W.alloc (.cells z T)))(X:∀listed a b W,Region.seqB md ops g (n+1) listed=true->F a->Below w w W->(w:Nat)<=b->Blk W b T z->wpAny P md ops Q' g listed (a.put (some s) (.pointer (some ⟨b,0,none⟩))) W):∀(f:Nat) (listed:Array Bool) (a:Act) (W:World),Below w w W->HeadInv md ops (n+1) listed->listed.getD n true=false->zJ md ops (YB P w) n (λr a'=>Region.seqB md ops g (n+1) r=true/\F a') f (listed.setIfInBounds n true) a->wpAny P md ops Q' (f+1+g) listed a W:=by
 intro f;induction f with
 |zero=>
  intro listed a W m O o h;have p:n∈Region.ready md ops listed:=mem_ready.2 ⟨o,on,A,λe l d=>by rw[aa e l]at d;cases d⟩;rw[show 0+1+g=g+1 by omega];refine⟨λI=>(by rw[I]at p;cases p),λi hi=>?_⟩;have v:i=n:=by
   rcases Nat.lt_trichotomy i n with J|J|J
   .have j:=ready_mono (i:=n) hi oZ;cases g with
    |zero=>omega
    |succ g=>
     have c:=h.1;simp only[Region.seqB,Bool.and_eq_true,fA]at c;rw[c.1]at j;simp at j;omega
   .exact J
   .exfalso;obtain⟨_,u,N,Y⟩:=mem_ready.1 hi;have ad:i<ops.size:=(bT.1 N).1;rcases fP (n+1) i with j|j
    .have c:=gT.1 ai i (jU.2 ad);simp only[Bool.or_eq_true,fA]at c;rcases c with c|c
     .omega
     .obtain⟨Q,M,e,l,d,L⟩:=Region.waitsFor_spec c;have:Q=u:=Option.some.inj (M.symm.trans N);subst this;have k:=Y e l d;rw[L,getD_both (O.tail (i-1) oZ oZ)]at k;cases k
    .have:i=n+1:=by omega
     subst this;obtain⟨Q,M,e,l,d,L⟩:=Region.waitsFor_spec am;have:Q=u:=Option.some.inj (M.symm.trans N);subst this;have k:=Y e l d;rw[L,getD_both o]at k;cases k
  subst v;unfold wpOp;simp only[A,Region.wanted,ab,if_true];refine .inl ?_;unfold Oper.wp;rw[ae];simp only[Oper.upon];rw[Z];exact X _ _ _ _ h.1 h.2 (aA m (bZ)) m.size (Blk.new _ _ _)
 |succ f an=>
  intro listed a W m O o h;have p:n∈Region.ready md ops listed:=mem_ready.2 ⟨o,on,A,λe l d=>by rw[aa e l]at d;cases d⟩;rw[show f+1+1+g=(f+1+g)+1 by omega];refine⟨λI=>(by rw[I]at p;cases p),λi hi=>?_⟩;by_cases v:i=n
  .subst v;unfold wpOp;simp only[A,Region.wanted,ab,if_true];refine .inl ?_;unfold Oper.wp;rw[ae];simp only[Oper.upon];have j:=OB (on:=on) (x:=.pointer W) (L':=λr a'=>Region.seqB md ops g (i+1) r=true/\∃H,a'=H.put on.dst (.pointer W)/\F H) (λr a' y=>⟨y.1,a',rfl,y.2⟩) (Region.noSelect_spec ak) ah _ _ _ h;refine KH (S:=λW'=>Blk W' W T z) (λao ap d aj=>Blk.below d aj (Blk.lt d)) (λr a' W' y K ag=>?_) (f+1) _ _ _ (aA m (bZ)) (Blk.new _ _ _) j;obtain⟨c,H,rfl,k⟩:=y;rw[Z];exact X _ _ _ _ c k K m.size ag
  .have j:=ready_mono (i:=n) hi v;obtain⟨ad,c⟩:=h.2 i j;have al:(listed.setIfInBounds n true).setIfInBounds i true=(listed.setIfInBounds i true).setIfInBounds n true:=kF _ _ oZ;rw[al]at c;refine OJ (S:=λ_=>True) (λ_ _ _ _=>trivial) m trivial (λa' W' af K _=>?_) c;exact an _ a' W' K (O.set hi oZ) (by rw[getD_set_ne true oZ];exact o) af
end
theorem aeu{P:Program}{id:Nat}{Q:Exit->Act->World->Prop}{a:Act}{w:World}{l:List Oper}(n:Nat)(T:TypeId)(z:Array Value)(s:Tmp)(af:P.follows .mixedOrders=true)(r:anh .any l.toArray n=true)(ah:∃on,l[n]? =some on/\on.dst=some s/\∀(a:Act) (W:World),(execOp a.eval on).run P W=.ok (.value (.pointer W)) (W.alloc (.cells z T)))(h:zZ l.toArray (YB P w) (λa'=>∀b W,aF w W->(w:Nat)<=b->Blk W b T z->wpList P l.toArray Q (l.drop (n+1)) (a'.put (some s) (.pointer (some ⟨b,0,none⟩))) W) (l.take n) a):(Code.region id l.toArray true).wp P Q a w:=by
 obtain⟨on,aj,X,al⟩:=ah;simp only[anh,Bool.and_eq_true,fA]at r;obtain⟨⟨⟨⟨⟨⟨I,F⟩,u⟩,f⟩,o⟩,N⟩,ad⟩:=r;have p:l.toArray[n]? =some on:=by simpa using aj
 rw[p]at o;simp only[Bool.and_eq_true]at o;obtain⟨⟨Z,aa⟩,O⟩:=o;have ag:n+1<l.length:=by simpa using f
 have k:(l.take n).length=n:=by simp;omega
 have v:(l.drop (n+1)).length=l.toArray.size-(n+1):=sZ;have ap:l.toArray.size=l.length:=sZ;have an:Region.waitsFor .any l.toArray (n+1) n=true:=by
  have c:=gT.1 N (n+1) (jU.2 f);simp only[Bool.or_eq_true,fA]at c;rcases c with(c|c)|c
  .omega
  .exact c
  .omega
 have J:HeadInv .any l.toArray (n+1) (Array.replicate l.toArray.size false):=
  ⟨sZ,λj ar _ A=>(by rw[getD_replicate_false]at A;cases A),λt _ am=>getD_in (by simpa using am) (getD_replicate_false _ _)⟩
 have x:∀e∈on.after,Region.binds .any e=false:=λe m=>by have:=Array.all_eq_true'.1 Z e m;simpa using this
 have ao:HeadInv .any l.toArray (n+1) ((Array.replicate l.toArray.size false).setIfInBounds n true):=by refine J.set (mem_ready.2 ⟨getD_in (by simp;omega) (getD_replicate_false _ _),on,p,λe m d=>by rw[x e m]at d;cases d⟩) oZ
 have ae:((Array.replicate l.toArray.size false).setIfInBounds n true).getD n false=true:=by simp[ag];omega
 have H:=TG (md:=.any) (Y:=YB P w) (n:=n) (g:=l.toArray.size-(n+1)) I F u f oZ (l.take n) 0 _ a (λj y=>by
  have ab:j<n:=by rw[k]at y;exact y
  simp[ab]) (by simpa using k) ao ae (by rw[k];exact ad) h.out
 refine wp_region_any af ?_;have:=agp (Q':=Q) (w:=w) (s:=s) (T:=T) (z:=z) I F u f (by omega:0<l.toArray.size-(n+1)) p x (by simpa using aa) X (λi aq hi ai=>by
   have c:=gT.1 O i (jU.2 hi);rw[ai]at c;simp only[Bool.and_eq_true]at c;exact c.1) an al (λlisted a b W ak M L d K=>by
   have:=wpAny_of_seq (md:=.any) (Q':=Q) (l.drop (n+1)) (n+1) listed (a.put (some s) (.pointer b)) W (λj=>by simp[lH]) (by rw[v];exact ak) (M b W L d K);rwa [v]at this) (l.take n).length _ a w.drew ((aJ _ _:Below w w w).drew) J (getD_in (by simp;omega) (getD_replicate_false _ _)) H
 rw[k,show n+1+(l.toArray.size-(n+1))=l.toArray.size by omega]at this;exact this
theorem agn{ops:Array Oper}{Y:Sem Next->Value->Prop}{Q:Act->Prop}{a:Act}(h:Q a):zZ ops Y Q [] a:=⟨h⟩
theorem JN{ops:Array Oper}{Y:Sem Next->Value->Prop}{Q:Act->Prop}{a a':Act}{o:Oper}{rest:List Oper}(v:Value)(c:Region.wanted o (yielded ops a.tmps)=true)(h:Y (execOp a.eval o) v)(b:a.put o.dst v=a')(k:zZ ops Y Q rest a'):zZ ops Y Q (o::rest) a:=by subst b;refine⟨?_⟩;unfold BD;rw[aG c];exact⟨v,h,k.out⟩
attribute [go_sem] aaS adf aaT
theorem fY{ops:Array Oper}{Y:Sem Next->Value->Prop}{Q:Act->Prop}{a a':Act}{o:Oper}{rest:List Oper}{v:Value}(k:zZ ops Y Q rest a')(c:Region.wanted o (yielded ops a.tmps)=true:=by rfl)(h:Y (execOp a.eval o) v:=by(intro W d;go_simp;first|done|exact⟨rfl,aJ _ _⟩|exact aJ _ _|rfl))(b:a.put o.dst v=a':=by(go_simp;first|done|rfl)):zZ ops Y Q (o::rest) a:=JN v c h b k
open Go Go.RowKit
variable {α:Type} {w w':World} {B k:Nat} {E:TypeId} {v:Value} {dec:α->List Value} {xs ys:List α}
structure Elem (dec:α->List Value) (k:Nat):Prop where
 len:∀x,(dec x).length=k
 one:∀x,∀u∈dec x,u.oneCell'=true
theorem jG(a:∀x,(dec x).length=k):∀xs:List α,(xs.flatMap dec).length=xs.length*k
 |[]=>sZ
 |x::xs=>by rw[dL,aW,a,jG a xs,List.length_cons,gJ,Nat.one_mul,jJ]
theorem flat_get(a:∀x,(dec x).length=k):∀(xs:List α) (i:Nat) (x:α) (j:Nat),xs[i]? =some x->j<k->(xs.flatMap dec)[i*k+j]? =(dec x)[j]?
 |[],_,_,_,h,_=>by simp at h
 |y::ys,0,x,j,h,b=>by simp at h;subst h;rw[dL,lX,aU,dG (by rw[a];exact b)]
 |y::ys,i+1,x,j,h,b=>by rw[dL,dI (by rw[a,gJ];omega),a,show(i+1)*k+j-k=i*k+j by rw[gJ];omega];exact flat_get a ys i x j (by simpa using h) b
theorem ZM(b:0<k)(a:∀x,(dec x).length=k)(xs:List α){n:Nat}{u:Value}(h:(xs.flatMap dec)[n]? =some u):∃x,xs[n/k]? =some x/\(dec x)[n%k]? =some u:=by
 have d:n<xs.length*k:=by rw[<-jG a];exact(bE.1 h).1
 have c:n/k<xs.length:=(jY b).2 d;have e:=flat_get a xs (n/k) _ (n%k) (aH c) (jS _ b);rw[show n/k*k+n%k=n by rw[eD];exact iY n k]at e;exact⟨_,aH c,by rw[<-e];exact h⟩
theorem afp(a:Elem dec k):∀u∈xs.flatMap dec,u.oneCell'=true:=λu b=>by obtain⟨x,_,c⟩:=jV.1 b;exact a.one x u c
def bQ(w:World)(B:Nat)(E:TypeId)(k:Nat)(dec:α->List Value)(v:Value)(xs:List α):Prop:=w.ownsRow B E k v xs.length (xs.flatMap dec)
def SlK(w:World)(k:Nat)(dec:α->List Value)(v:Value)(xs:List α):Prop:=∃A cap,v=.slice A xs.length cap/\gQ w A k dec xs
theorem bQ.nil(w:World)(B:Nat)(E:TypeId)(k:Nat)(dec:α->List Value):bQ w B E k dec (.slice none 0 0) []:=World.ownsRow_nil w B E k
theorem bQ.lt(h:bQ w B E k dec v xs):∀b,v.ownBlock=some b->B<=b/\b<(w:Nat):=World.ownsRow.lt h
theorem bQ.bD(h:bQ w B E k dec v xs)(f:∀b,v.ownBlock=some b->w'.heap[b]? =w.heap[b]?):bQ w' B E k dec v xs:=by
 obtain⟨c,a⟩:=h;refine⟨c,?_⟩;rcases a with a|⟨g,cap,cur,rfl,e,d,i⟩
 .exact .inl a
 .exact .inr ⟨g,cap,cur,rfl,e,by rw[f g rfl];exact d,i⟩
theorem bQ.below(h:bQ w B E k dec v xs)(a:Below w w w'):bQ w' B E k dec v xs:=h.bD λb c=>a.block b (h.lt b c).2
theorem bQ.low{B':Nat}(h:bQ w B E k dec v xs)(c:B'<=B):bQ w B' E k dec v xs:=by
 obtain⟨b,a⟩:=h;refine⟨b,?_⟩;rcases a with a|⟨g,cap,cur,rfl,d,e⟩
 .exact .inl a
 .exact .inr ⟨g,cap,cur,rfl,aV c d,e⟩
theorem bQ.form(h:bQ w B E k dec v xs):(v=.slice none 0 0/\xs=[])\/∃g cap,v=.slice (some ⟨g,0,none⟩) xs.length cap/\B<=g/\g<(w:Nat)/\xs.length<=cap/\cap<=maxLen:=by
 have b:=h.lt;rcases h.2 with⟨rfl,e⟩|⟨g,cap,cur,rfl,a,f,d,c,_⟩
 .exact .inl ⟨rfl,fM e⟩
 .exact .inr ⟨g,cap,rfl,a,(b g rfl).2,d,c⟩
theorem bQ.sl(h:bQ w B E k dec v xs)(a:∀x,(dec x).length=k):SlK w k dec v xs:=by
 rcases h.form with⟨rfl,rfl⟩|⟨g,cap,rfl,m,l,o,n⟩
 .exact⟨none,0,rfl,λe=>absurd rfl e⟩
 .refine⟨_,cap,rfl,λ_=>⟨g,0,rfl,l,λi x c j u b=>?_⟩⟩;have f:j<k:=by rw[<-a x];exact(bE.1 b).1
  have hi:i<xs.length:=(bE.1 c).1;have d:i*k+j<xs.length*k:=by have:=bR k (show i+1<=xs.length from hi);rw[gJ,Nat.one_mul]at this;omega
  rw[aU];exact(World.ownsRow.cellAt h _ d).trans ((flat_get a xs i x j c f).trans b)
theorem SlK.below(h:SlK w k dec v xs)(a:Below w w w'):SlK w' k dec v xs:=by obtain⟨A,cap,rfl,b⟩:=h;exact⟨A,cap,rfl,b.below a⟩
theorem gQ.drop{b o:Nat}(h:gQ w (some ⟨b,o,none⟩) k dec xs)(n:Nat):gQ w (some ⟨b,o+n*k,none⟩) k dec (xs.drop n):=λf=>by obtain⟨l,m,e,d,c⟩:=h (by intro e;subst e;simp at f);cases e;refine⟨b,_,rfl,d,λi x a j u g=>?_⟩;have:=c (n+i) x (by rw[lH]at a;exact a) j u g;rwa [show o+(n+i)*k+j=o+n*k+i*k+j by rw[gJ];omega]at this
section
variable {P:Program}
theorem afU(t ty:TypeId)(i:TypeInfo)(a:P.underlying t=some (.slice E))(hi:P.info? E=some i)(h:bQ w B E k dec v xs)(d:i.size=k)(c:Nat):(Builtin.append_ #[t,t] ty #[v,.slice none 0 c]).run P w=.ok v w:=by
 rcases h.form with⟨rfl,rfl⟩|⟨g,cap,rfl,_,_,b,_⟩
 .simp[Builtin.append_,run_underlying a,sizeOf,typeInfo,hi,Builtin.lenOf,Builtin.firstCells]
 .simp[Builtin.append_,run_underlying a,sizeOf,typeInfo,hi,Builtin.lenOf,Builtin.firstCells,b,storeCells]
theorem mP(t ty:TypeId)(i:TypeInfo)(z:Value)(bytes:Nat)(r:P.underlying t=some (.slice E))(hi:P.info? E=some i)(Z:i.zero=some z)(p:i.size=k)(L:i.bytes=bytes)(aa:z.cells.size=k)(f:0<k)(l:∀x,(dec x).length=k)(g:∀u∈ys.flatMap dec,u.oneCell'=true)(h:bQ w B E k dec v xs){A:Option Addr}{m c:Nat}(Q:ys.length=m)(n:gQ w A k dec ys)(K:B<=(w:Nat))(N:xs.length+m<=maxLen)(O:(xs.length+m)*bytes<=140737488355328):∃v' w',(Builtin.append_ #[t,t] ty #[v,.slice A m c]).run P w=.ok v' w'/\bQ w' B E k dec v' (xs++ys)/\w.grownBy w' v.ownBlock/\(v'=.slice none 0 0↔v=.slice none 0 0/\m=0)/\(∀b,v'.ownBlock=some b->v.ownBlock=some b\/(w:Nat)<=b):=by
 subst Q;cases A with
 |none=>
  have T:ys=[]:=by
   rcases ys with _|⟨y,ys⟩
   .rfl
   .obtain⟨b,o,e,_⟩:=n sZ;cases e
  subst T;exact⟨v,w,afU t ty i r hi h p c,by simpa using h,World.grownBy.refl w _,sZ,λk f=>.inl f⟩
 |some a=>
  obtain⟨v',w',g,F,H,I,J⟩:=run_append_own_at (P:=P) w B t ty E i z k bytes r hi Z p L aa f v xs.length (xs.flatMap dec) h a ys.length c (ys.flatMap dec) (jG l ys)
   (λj u s=>by
    have W:ys≠[]:=λe=>by subst e;simp at s
    obtain⟨b,o,e,ab,M⟩:=n W;injection e with e;subst e;obtain⟨x,X,Y⟩:=ZM f l ys s;have:=M _ x X _ u Y;rw[Addr.add_lit];rwa [show o+j/k*k+j%k=o+j by rw[iQ,eD,iY]]at this)
   g N O K
  refine⟨v',w',g,?_,H,I,λb d=>?_⟩
  .unfold bQ;rw[aW,kS];exact F
  .rcases J with e|e
   .exact .inl (e▸d)
   .rw[e]at d;injection d with d;exact .inr oZ
theorem rU{x:α}{b:Nat}{T:TypeId}{cs:Array Value}(h:Blk w b T cs)(c:cs=(dec x).toArray):gQ w (some ⟨b,0,none⟩) k dec [x]:=λ_=>⟨b,0,rfl,h.lt,λi z a j u d=>by
 have hi:i=0:=by
  rcases i with _|i
  .rfl
  .simp at a
 subst hi;have e:x=z:=by simpa using a
 subst e;rw[show 0+0*k+j=j by omega];refine(h.cell j).trans ?_;rw[c];simpa using d⟩
theorem TQ(t:TypeId)(i:TypeInfo)(d:P.underlying t=some (.slice E))(hi:P.info? E=some i)(n:i.size=k)(j:∀x,(dec x).length=k)(h:bQ w B E k dec v xs){m:Nat}(a:m<=xs.length):∃A c,(∀W,(Instr.slice t v (some (.int .i64 m)) none none).run P W=.ok (.slice A (xs.length-m) c) W)/\gQ w A k dec (xs.drop m):=by
 obtain⟨A,cap,e,l⟩:=h.sl j;rcases h.form with⟨e2,rfl⟩|⟨g,o,e2,_,_,r,p⟩
 .rw[e]at e2;cases e2;obtain rfl:m=0:=by simpa using a
  refine⟨none,0,λW=>?_,λb=>absurd rfl b⟩;rw[e];simp[Instr.slice,run_underlying d,Instr.sliceBounds,Instr.sliceBound,asIntOf,sizeOf,typeInfo,hi]
 .rw[e]at e2;cases e2;by_cases f:m=cap
  .refine⟨some ⟨g,0,none⟩,cap-m,λW=>?_,λb=>absurd (jA oZ) b⟩;rw[e];simp[Instr.slice,run_underlying d,Instr.sliceBounds,Instr.sliceBound,asIntOf,sizeOf,typeInfo,hi,a,f.symm]
  .refine⟨some ⟨g,0+m*k,none⟩,cap-m,λW=>?_,l.drop m⟩;rw[e];simp[Instr.slice,run_underlying d,Instr.sliceBounds,Instr.sliceBound,asIntOf,sizeOf,typeInfo,hi,a,Ne.symm f,n,Addr.add_lit]
theorem nY{o:Oper}{a:Act}{w w':World}{s x:Operand}{t b:TypeId}(c:o.op=.call {callee:=.builtin .append,args:=#[s,x],argTypes:=#[t,b]}){vs vx v':Value}(e:a.eval s=vs)(f:a.eval x=vx)(d:(Builtin.append_ #[t,b] o.type #[vs,vx]).run P w=.ok v' w'):(execOp a.eval o).run P w=.ok (.value v') w':=by unfold execOp;simp only[c,resolve,invoke,builtin,Sem.run_bind,Sem.run_pure,Result.andThen_ok,jW,cZ,gM,e,f,d]
theorem nD{o:Oper}{a:Act}{w:World}{s:Operand}{t:TypeId}{lo hi:Option Operand}(f:P.underlying t=some (.slice E))(b:o.op=.slice t s lo hi none){vs v':Value}(e:a.eval s=vs)(d:(Instr.slice t vs (lo.map a.eval) (hi.map a.eval) none).run P w=.ok v' w):(execOp a.eval o).run P w=.ok (.value v') w:=by
 have c:(Instr.sliceAt t vs (lo.map a.eval) (hi.map a.eval) none).run P w=.ok v' w:=by simp[Instr.sliceAt,run_underlying f,d]
 unfold execOp;simp only[b,Sem.run_bind,Sem.run_pure,Result.andThen_ok,e,Option.map_none,c]
end
theorem bQ.sA{α:Type}{w:World}{B k:Nat}{E:TypeId}{v:Value}{dec:α->List Value}{xs:List α}(h:bQ w B E k dec v xs):∃A n c,v=.slice A n c:=by rcases h.form with⟨e,_⟩|⟨g,cap,e,_⟩<;>exact⟨_,_,_,e⟩
open Go Go.RowKit
section
variable {P:Program}
theorem aaG(w:World)(p:Addr)(ty:TypeId)(cs:Array Value)(d:TypeDesc)(c:∀j v,cs[j]? =some v->w.cell? (p.add j)=some v)(f:P.underlying ty=some d)(g:(match d with|.struct _|.array _ _=>true|_=>false)=true)(hi:(P.info? ty).map (·.size)=some cs.size):(loadVar ty p).run P w=.ok (.agg cs) w:=by
 have b:(loadCells p cs.toList.length).run P w=.ok cs.toList.toArray w:=
  run_loadCells_list (P:=P) w p cs.toList (λj v hv=>c j v (by simpa using hv))
 cases a:P.info? ty with
 |none=>simp[a]at hi
 |some i=>
  have e:i.size=cs.size:=by simpa[a]using hi
  have hagg:(isAgg ty).run P w=.ok true w:=by unfold isAgg;rw[Sem.run_bind,run_underlying f w];cases d<;>simp_all
  simp only[Array.length_toList,Array.toArray_toList]at b;simp[loadVar,Sem.run_bind,hagg,sizeOf,typeInfo,a,e,b]
theorem BA{b:Array Oper}{rest:List Oper}{o:Oper}{a:Act}{w:World}{Q:Exit->Act->World->Prop}(g:o.guard=none)(ty:TypeId)(x:Operand)(i:o.op=.load ty x)(p:Addr)(l:a.eval x=.pointer (some p))(cs:Array Value)(d:TypeDesc)(e:∀j v,cs[j]? =some v->w.cell? (p.add j)=some v)(k:P.underlying ty=some d)(f:(match d with|.struct _|.array _ _=>true|_=>false)=true)(hi:(P.info? ty).map (·.size)=some cs.size)(h:wpList P b Q rest (a.put o.dst (.agg cs)) w):wpList P b Q (o::rest) a w:=
 wpList_plain g λ_ c=>by unfold Oper.wp execOp;simp only[i,l,Instr.loadAt,Instr.sureAddr,Sem.run_bind,Sem.run_pure,Result.andThen_ok,aaG w p ty cs d e k f hi];exact c _ _ h
end
theorem jO(w:World)(g:Nat)(cs:Array Value):aO (λi=>i=g) w (w.setRow g cs):=
 ⟨rfl,rfl,rfl,sZ,λk _ a=>setRow_other w g k cs a⟩
theorem Blk.row{w:World}{g:Nat}{t:TypeId}{old:Array Value}(h:Blk w g t old)(cs:Array Value):Blk (w.setRow g cs) g t cs:=setRow_heap w g old cs t (0,0) h
end L
end Go.Proofs.YtedmeglbjmdlhaaGreatDoor
