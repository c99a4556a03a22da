/-
Parts that the laws of the whole program share: contracts of its functions, and plain laws.
-/
import Derived.Test.YtedmeglbjmdlhaaGreatDoorG2
import Derived.OrdersHeld
import Derived.Deep.RegionHeld3
set_option maxRecDepth 100000
set_option maxHeartbeats 16000000
set_option linter.all false
namespace Go.Proofs.YtedmeglbjmdlhaaGreatDoor
open L
namespace L
open Go Go.RowKit
section
variable {P:Program} {ops:Array Oper} {md:Region.Mode} {Q:Exit->Act->World->Prop} {S:World->Prop}
def sM(v:Value)(W:World):Result Next->Prop
 |.ok (.value u) W'=>u=v/\W'=W
 |_=>False
theorem XO(v u:Value)(W W':World):sM v W (.ok (.value u) W')=(u=v/\W'=W):=rfl
def MG(md:Region.Mode)(ops:Array Oper):List (Nat×Bool)->Array Bool->Bool
 |[],listed=>(Region.ready md ops listed).isEmpty
 |(i,true)::r,listed=>(Region.ready md ops listed).contains i&&(Region.free md ops listed i&&MG md ops r (listed.setIfInBounds i true))
 |(i,false)::r,listed=>(Region.ready md ops listed==[i])&&MG md ops r (listed.setIfInBounds i true)
def XF(P:Program)(ops:Array Oper)(Q:Exit->Act->World->Prop)(S:World->Prop):List (Nat×Bool)->Act->World->Prop
 |[],a,w=>Q .normal a w
 |(i,true)::r,a,w=>∃o v,ops[i]? =some o/\YieldsIf P ops S o v a/\XF P ops Q S r (a.put o.dst v) w
 |(i,false)::r,a,w=>wpOp P ops (NoPanic Q) i (λa' w'=>S w'/\XF P ops Q S r a' w') a w
structure DT (P:Program) (ops:Array Oper) (Q:Exit->Act->World->Prop) (S:World->Prop) (pl:List (Nat×Bool)) (a:Act) (w:World):Prop where
 out:XF P ops Q S pl a w
theorem aeC{a:Act}{w:World}(h:Q .normal a w):DT P ops Q S [] a w:=⟨h⟩
theorem IY{i:Nat}{r:List (Nat×Bool)}{o:Oper}{v:Value}{a a':Act}{w:World}(hi:ops[i]? =some o)(f:Region.wanted o (yielded ops a.tmps)=true)(h:∀W,S W->sM v W ((execOp a.eval o).run P W))(c:a.put o.dst v=a')(d:DT P ops Q S r a' w):DT P ops Q S ((i,true)::r) a w:=by
 subst c;refine⟨⟨o,v,hi,.inl ⟨f,λW b=>?_⟩,d.out⟩⟩;have:=h W b;unfold sM at this;split at this
 .rename_i e;obtain⟨rfl,rfl⟩:=this;exact e
 .exact this.elim
theorem IZ{i:Nat}{r:List (Nat×Bool)}{o:Oper}{a:Act}{w w1:World}{f:FuncId}{args:Array Value}(hi:ops[i]? =some o)(j:Region.wanted o (yielded ops a.tmps)=true)(h:(execOp a.eval o).run P w=.ok (.enter f args) w1)(c:Calls P f args w1 λe w'=>∃v,e=.returned v/\S w'/\DT P ops Q S r (a.put o.dst v) w'):DT P ops Q S ((i,false)::r) a w:=by constructor;show wpOp P ops (NoPanic Q) i _ a w;unfold wpOp;simp only[hi,j,if_true,Oper.wp,h,Oper.upon];refine .inl (Calls.mono c λe w' d=>?_);obtain⟨v,rfl,b,g⟩:=d;exact⟨b,g.out⟩
theorem QH(e:Region.noSelect ops=true):∀(f:List (Nat×Bool)) (listed:Array Bool) (a:Act) (w:World),MG md ops f listed=true->S w->XF P ops Q S f a w->wpAnyH P md ops (NoPanic Q) S f.length listed a w
 |[],listed,a,w,b,c,h=>wpAnyH_done (by simpa[MG]using b) (NoPanic.normal h) 0
 |(i,true)::r,listed,a,w,b,c,h=>by simp only[MG,Bool.and_eq_true]at b;obtain⟨o,v,hi,l,k⟩:=h;exact wpAnyH_take hi e b.2.1 b.1 (λ_ _ _ h=>h) l c (QH e r _ _ _ b.2.2 c k)
 |(i,false)::r,listed,a,w,b,c,h=>by simp only[MG,Bool.and_eq_true,beq_iff_eq]at b;refine wpAnyH_all b.1 sZ (λj g=>?_);simp only[List.mem_singleton]at g;subst g;exact wpOp_mono (λa' w' d=>⟨d.1,QH e r _ _ _ b.2 d.1 d.2⟩) h
end
theorem UA{P:Program}{id:Nat}{Q:Exit->Act->World->Prop}{a:Act}{w:World}{l:List Oper}(b:List (Nat×Bool))(e:P.follows .mixedOrders=true)(c:(Region.noSelect l.toArray&&(MG .any l.toArray b (Array.replicate l.length false)&&b.length==l.length))=true)(h:DT P l.toArray Q (aF w) b a w.drew):(Code.region id l.toArray true).wp P Q a w:=by simp only[Bool.and_eq_true,beq_iff_eq]at c;obtain⟨g,f,d⟩:=c;refine wp_region_noPanic (wp_region_held (S:=aF w) e ?_);have:=QH (Q:=Q) (P:=P) (S:=aF w) g b (Array.replicate l.length false) a w.drew f (aF.drew w) h.out;rw[d]at this;simpa using this
attribute [go_sem] XO
open Go Go.RowKit
inductive PT where
 |done
 |take (i:Nat) (r:PT)
 |one (i:Nat) (r:PT)
 |two (i j:Nat) (r s:PT)
section
variable {P:Program} {ops:Array Oper} {md:Region.Mode} {Q:Exit->Act->World->Prop} {S:World->Prop}
def ptB(md:Region.Mode)(ops:Array Oper):PT->Array Bool->Bool
 |.done,listed=>(Region.ready md ops listed).isEmpty
 |.take i r,listed=>(Region.ready md ops listed).contains i&&(Region.free md ops listed i&&ptB md ops r (listed.setIfInBounds i true))
 |.one i r,listed=>(Region.ready md ops listed==[i])&&ptB md ops r (listed.setIfInBounds i true)
 |.two i j r s,listed=>(Region.ready md ops listed==[i,j])&&(ptB md ops r (listed.setIfInBounds i true)&&ptB md ops s (listed.setIfInBounds j true))
def ptF:PT->Nat->Bool
 |.done,_=>true
 |.take _ r,n+1=>ptF r n
 |.one _ r,n+1=>ptF r n
 |.two _ _ r s,n+1=>ptF r n&&ptF s n
 |_,0=>false
def OI(P:Program)(ops:Array Oper)(Q:Exit->Act->World->Prop)(S:World->Prop):PT->Act->World->Prop
 |.done,a,w=>Q .normal a w
 |.take i r,a,w=>∃o v,ops[i]? =some o/\YieldsIf P ops S o v a/\OI P ops Q S r (a.put o.dst v) w
 |.one i r,a,w=>wpOp P ops (NoPanic Q) i (λa' w'=>S w'/\OI P ops Q S r a' w') a w
 |.two i j r s,a,w=>wpOp P ops (NoPanic Q) i (λa' w'=>S w'/\OI P ops Q S r a' w') a w/\wpOp P ops (NoPanic Q) j (λa' w'=>S w'/\OI P ops Q S s a' w') a w
structure tZ (P:Program) (ops:Array Oper) (Q:Exit->Act->World->Prop) (S:World->Prop) (pl:PT) (a:Act) (w:World):Prop where
 out:OI P ops Q S pl a w
theorem fZ{a:Act}{w:World}(h:Q .normal a w):tZ P ops Q S .done a w:=⟨h⟩
theorem ahy{i:Nat}{r:PT}{o:Oper}{v:Value}{a a':Act}{w:World}(hi:ops[i]? =some o)(f:Region.wanted o (yielded ops a.tmps)=true)(h:∀W,S W->sM v W ((execOp a.eval o).run P W))(c:a.put o.dst v=a')(d:tZ P ops Q S r a' w):tZ P ops Q S (.take i r) a w:=by
 subst c;refine⟨⟨o,v,hi,.inl ⟨f,λW b=>?_⟩,d.out⟩⟩;have:=h W b;unfold sM at this;split at this
 .rename_i e;obtain⟨rfl,rfl⟩:=this;exact e
 .exact this.elim
theorem nN{i:Nat}{r:PT}{o:Oper}{v:Value}{a a':Act}{w:World}(hi:ops[i]? =some o)(e:Region.wanted o (yielded ops a.tmps)=true)(h:∀W,S W->(execOp a.eval o).run P W=.ok (.value v) W)(c:a.put o.dst v=a')(d:tZ P ops Q S r a' w):tZ P ops Q S (.take i r) a w:=
 ahy hi e (λW b=>by rw[h W b];exact⟨rfl,rfl⟩) c d
theorem arS{i:Nat}{r:PT}{o:Oper}{a a':Act}{w:World}(hi:ops[i]? =some o)(d:Region.wanted o (yielded ops a.tmps)=false)(b:a.put o.dst undef=a')(c:tZ P ops Q S r a' w):tZ P ops Q S (.take i r) a w:=by subst b;exact⟨⟨o,undef,hi,.inr ⟨d,rfl⟩,c.out⟩⟩
structure NS (P:Program) (ops:Array Oper) (Q:Exit->Act->World->Prop) (S:World->Prop) (i:Nat) (r:PT) (a:Act) (w:World):Prop where
 out:wpOp P ops (NoPanic Q) i (λa' w'=>S w'/\OI P ops Q S r a' w') a w
theorem eT{i:Nat}{r:PT}{a:Act}{w:World}(h:NS P ops Q S i r a w):tZ P ops Q S (.one i r) a w:=⟨h.out⟩
theorem yO{i j:Nat}{r s:PT}{a:Act}{w:World}(h:NS P ops Q S i r a w)(k:NS P ops Q S j s a w):tZ P ops Q S (.two i j r s) a w:=⟨⟨h.out,k.out⟩⟩
theorem lK{i:Nat}{r:PT}{o:Oper}{a a':Act}{w w1:World}{v:Value}(hi:ops[i]? =some o)(e:Region.wanted o (yielded ops a.tmps)=true)(h:(execOp a.eval o).run P w=.ok (.value v) w1)(b:S w1)(c:a.put o.dst v=a')(d:tZ P ops Q S r a' w1):NS P ops Q S i r a w:=by subst c;constructor;unfold wpOp;simp only[hi,e,if_true,Oper.wp,h,Oper.upon];exact .inl ⟨b,d.out⟩
theorem arT{i:Nat}{r:PT}{o:Oper}{a:Act}{w w1:World}{f:FuncId}{args:Array Value}(hi:ops[i]? =some o)(j:Region.wanted o (yielded ops a.tmps)=true)(h:(execOp a.eval o).run P w=.ok (.enter f args) w1)(c:Calls P f args w1 λe w'=>∃v,e=.returned v/\S w'/\tZ P ops Q S r (a.put o.dst v) w'):NS P ops Q S i r a w:=by constructor;unfold wpOp;simp only[hi,j,if_true,Oper.wp,h,Oper.upon];refine .inl (Calls.mono c λe w' d=>?_);obtain⟨v,rfl,b,g⟩:=d;exact⟨b,g.out⟩
theorem FI(f:Region.noSelect ops=true):∀(g:PT) (n:Nat) (listed:Array Bool) (a:Act) (w:World),ptB md ops g listed=true->ptF g n=true->S w->OI P ops Q S g a w->wpAnyH P md ops (NoPanic Q) S n listed a w
 |.done,n,listed,a,w,b,hF,d,h=>wpAnyH_done (by simpa[ptB]using b) (NoPanic.normal h) n
 |.take i r,0,listed,a,w,b,hF,d,h=>by cases hF
 |.take i r,n+1,listed,a,w,b,hF,d,h=>by simp only[ptB,Bool.and_eq_true]at b;obtain⟨o,v,hi,m,l⟩:=h;exact wpAnyH_take hi f b.2.1 b.1 (λ_ _ _ h=>h) m d (FI f r n _ _ _ b.2.2 hF d l)
 |.one i r,0,listed,a,w,b,hF,d,h=>by cases hF
 |.one i r,n+1,listed,a,w,b,hF,d,h=>by simp only[ptB,Bool.and_eq_true,beq_iff_eq]at b;refine wpAnyH_all b.1 sZ (λj e=>?_);simp only[List.mem_singleton]at e;subst e;exact wpOp_mono (λa' w' c=>⟨c.1,FI f r n _ _ _ b.2 hF c.1 c.2⟩) h
 |.two i k r s,0,listed,a,w,b,hF,d,h=>by cases hF
 |.two i k r s,n+1,listed,a,w,b,hF,d,h=>by
  simp only[ptB,Bool.and_eq_true,beq_iff_eq]at b;simp only[ptF,Bool.and_eq_true]at hF;refine wpAnyH_all b.1 sZ (λj e=>?_);simp only[bA,dS,or_false]at e;rcases e with rfl|rfl
  .exact wpOp_mono (λa' w' c=>⟨c.1,FI f r n _ _ _ b.2.1 hF.1 c.1 c.2⟩) h.1
  .exact wpOp_mono (λa' w' c=>⟨c.1,FI f s n _ _ _ b.2.2 hF.2 c.1 c.2⟩) h.2
end
theorem lU{P:Program}{id:Nat}{Q:Exit->Act->World->Prop}{a:Act}{w:World}{l:List Oper}(S:World->Prop)(b:PT)(f:P.follows .mixedOrders=true)(c:(Region.noSelect l.toArray&&(ptB .any l.toArray b (Array.replicate l.length false)&&ptF b l.length))=true)(d:S w.drew)(h:tZ P l.toArray Q S b a w.drew):(Code.region id l.toArray true).wp P Q a w:=by simp only[Bool.and_eq_true]at c;obtain⟨i,g,e⟩:=c;refine wp_region_noPanic (wp_region_held (S:=S) f ?_);have:=FI (Q:=Q) (P:=P) (S:=S) i b l.length (Array.replicate l.length false) a w.drew g e d h.out;simpa using this
theorem QD{P:Program}{id:Nat}{Q:Exit->Act->World->Prop}{a:Act}{w:World}{l:List Oper}(b:PT)(e:P.follows .mixedOrders=true)(c:(Region.noSelect l.toArray&&(ptB .any l.toArray b (Array.replicate l.length false)&&ptF b l.length))=true)(h:tZ P l.toArray Q (aF w) b a w.drew):(Code.region id l.toArray true).wp P Q a w:=by simp only[Bool.and_eq_true]at c;obtain⟨g,f,d⟩:=c;refine wp_region_noPanic (wp_region_held (S:=aF w) e ?_);have:=FI (Q:=Q) (P:=P) (S:=aF w) g b l.length (Array.replicate l.length false) a w.drew f d (aF.drew w) h.out;simpa using this
theorem tT{P:Program}{ops:Array Oper}{Q:Exit->Act->World->Prop}{S:World->Prop}{i:Nat}{r:PT}{o:Oper}{v:Value}{a a':Act}{w:World}(c:tZ P ops Q S r a' w)(hi:ops[i]? =some o:=by rfl)(d:Region.wanted o (yielded ops a.tmps)=true:=by rfl)(h:∀W,S W->sM v W ((execOp a.eval o).run P W):=by(intro W e;go_simp;first|done|exact⟨rfl,rfl⟩|rfl))(b:a.put o.dst v=a':=by(go_simp;first|done|rfl)):tZ P ops Q S (.take i r) a w:=ahy hi d h b c
theorem tN{P:Program}{ops:Array Oper}{Q:Exit->Act->World->Prop}{S:World->Prop}{i:Nat}{r:PT}{o:Oper}{a a':Act}{w:World}(c:tZ P ops Q S r a' w)(hi:ops[i]? =some o:=by rfl)(d:Region.wanted o (yielded ops a.tmps)=false:=by(first|rfl|(go_simp;first|done|rfl)))(b:a.put o.dst undef=a':=by(go_simp;first|done|rfl)):tZ P ops Q S (.take i r) a w:=arS hi d b c
theorem tC{P:Program}{ops:Array Oper}{Q:Exit->Act->World->Prop}{S:World->Prop}{i:Nat}{r:PT}{o:Oper}{a:Act}{w w1:World}{f:FuncId}{args:Array Value}(b:Calls P f args w1 λe w'=>∃v,e=.returned v/\S w'/\tZ P ops Q S r (a.put o.dst v) w')(hi:ops[i]? =some o:=by rfl)(c:Region.wanted o (yielded ops a.tmps)=true:=by rfl)(h:(execOp a.eval o).run P w=.ok (.enter f args) w1:=by(go_simp;first|done|exact⟨⟨rfl,rfl⟩,rfl⟩|rfl)):NS P ops Q S i r a w:=arT hi c h b
open Go Go.RowKit
section
variable {P:Program} {ops:Array Oper} {md:Region.Mode} {Q Q':Exit->Act->World->Prop} {S:World->Prop}
theorem akP(j:∀c a w,Q (.panic c) a w->Q' (.panic c) a w)(g:LetsOut Q->LetsOut Q'){i:Nat}{K:Act->World->Prop}{a:Act}{w:World}(h:wpOp P ops Q i K a w):wpOp P ops Q' i K a w:=by
 unfold wpOp at*;split
 .simp only[*]at h;exact h
 .rename_i o hi;simp only[hi]at h;split
  .rename_i hw;rw[aG hw]at h;rcases h with h|h
   .left;unfold Oper.wp at*;generalize(execOp a.eval o).run P w=r at*;cases r with
    |ok n w'=>
     cases n<;>simp only[Oper.upon]at h⊢
     case value u=>exact h
     case skip=>exact h
     case defer d=>exact h
     case enter f args=>
      refine Calls.mono h λe k b=>?_;cases e with
      |returned u=>exact b
      |panicked c=>exact j _ _ _ b
      |outgrown=>exact g b
     case row row args=>exact h
    |halt x w'=>
     cases x<;>simp only[Oper.upon]at h⊢
     case panic u=>exact j _ _ _ h
   .exact .inr ⟨h.1,g h.2⟩
  .rename_i hw;rw[aD hw]at h;exact h
def KJ(P:Program)(md:Region.Mode)(ops:Array Oper)(Q:Exit->Act->World->Prop)(S:World->Prop)(n:Nat)(L:Array Bool->Act->World->Prop):Nat->Array Bool->Act->World->Prop
 |0,listed,a,w=>L listed a w
 |f+1,listed,a,w=>
  Region.ready md ops listed≠[]/\∀i∈Region.ready md ops listed,i<n/\wpOp P ops Q i (λa' w'=>S w'/\KJ P md ops Q S n L f (listed.setIfInBounds i true) a' w') a w
theorem KG{n g:Nat}{L:Array Bool->Act->World->Prop}(b:∀listed a w,L listed a w->wpAny P md ops Q' g listed a w)(c:∀i K a w,wpOp P ops Q i K a w->wpOp P ops Q' i K a w):∀(f:Nat) (listed:Array Bool) (a:Act) (w:World),KJ P md ops Q S n L f listed a w->wpAny P md ops Q' (f+g) listed a w
 |0,listed,a,w,h=>by rw[aU];exact b _ _ _ h
 |f+1,listed,a,w,h=>by rw[show f+1+g=(f+g)+1 by omega];exact⟨λe=>absurd e h.1,λi hi=>c _ _ _ _ (wpOp_mono (λa' w' d=>KG b c f _ a' w' d.2) (h.2 i hi).2)⟩
theorem acY{n i:Nat}{p:Oper}{v:Value}{L:Array Bool->Act->World->Prop}(hi:ops[i]? =some p)(W:∀(j:Nat) (o:Oper) cs b,ops[j]? =some o->o.op≠.select cs b)(T:Region.sinkB md ops n=true)(I:Region.chainB md ops n=true)(O:n<ops.size)(K:i<n)(ab:∀listed a w,L listed a w->∀j∈Region.ready md ops listed,n<=j)(Y:∀c a w,Q (.panic c) (a.put p.dst v) w->Q (.panic c) a w):∀(f:Nat) (listed:Array Bool) (a:Act) (w:World),HeadInv md ops n listed->(∀j r,ops[j]? =some r->j≠i->listed.getD j true=false->(∀e∈r.after,Region.binds md e=true->e.on≠i)->p.apart ops r=true)->i∈Region.ready md ops listed->YieldsIf P ops S p v a->S w->KJ P md ops Q S n L f (listed.setIfInBounds i true) (a.put p.dst v) w->KJ P md ops Q S n L (f+1) listed a w:=by
 intro f;induction f with
 |zero=>
  intro listed a w A _ g z s H;have m:=(mem_ready.1 g).1;refine⟨λh=>(by rw[h]at g;cases g),λj l=>?_⟩;have y:j<n:=by
   rcases fP j n with h|h
   .exact h
   .exact absurd l (tail_waits T I O A _ i rfl K m j h)
  refine⟨y,?_⟩;by_cases d:j=i
  .subst d;exact z.wpOp hi s ⟨s,H⟩
  .have:=ab _ _ _ H j (ready_mono l d);omega
 |succ f ak=>
  intro listed a w A J g z s H;have m:=(mem_ready.1 g).1;refine⟨λh=>(by rw[h]at g;cases g),λj l=>?_⟩;have y:j<n:=by
   rcases fP j n with h|h
   .exact h
   .exact absurd l (tail_waits T I O A _ i rfl K m j h)
  refine⟨y,?_⟩;by_cases d:j=i
  .subst d;exact z.wpOp hi s ⟨s,H⟩
  .have u:=(H.2 j (ready_mono l d)).2;obtain⟨N,r,F,Z⟩:=mem_ready.1 l;have aj:∀e∈r.after,Region.binds md e=true->e.on≠i:=λe ad aa ae=>by have u:=Z e ad aa;rw[ae,getD_both m]at u;cases u
   have X:=wpOp_putIf F (J j r F d N aj) (λcs b=>W i p cs b hi) (λcs b=>W j r cs b F) Y z u;have af:∀k ok,ops[k]? =some ok->k≠i->(listed.setIfInBounds j true).getD k true=false->
     (∀e∈ok.after,Region.binds md e=true->e.on≠i)->p.apart ops ok=true:=λk ok ag ah m ai=>by
    refine J k ok ag ah ?_ ai;by_cases M:j=k
    .subst M;exact N
    .rw[getD_set_ne true M]at m;exact m
   refine wpOp_mono (λa' w' x=>⟨x.2.1,ak (listed.setIfInBounds j true) a' w' (A.set l y) af (ready_mono g (Ne.symm d)) x.1 x.2.1 ?_⟩) X;rw[kF _ _ d];exact x.2.2
def MF(md:Region.Mode)(ops:Array Oper)(n g:Nat):PT->Array Bool->Bool
 |.done,listed=>Region.seqB md ops g n listed
 |.take i r,listed=>decide (i<n)&&((Region.ready md ops listed).contains i&&(Region.free md ops listed i&&MF md ops n g r (listed.setIfInBounds i true)))
 |.one i r,listed=>decide (i<n)&&((Region.ready md ops listed==[i])&&MF md ops n g r (listed.setIfInBounds i true))
 |.two i j r s,listed=>decide (i<n)&&(decide (j<n)&&((Region.ready md ops listed==[i,j])&&(MF md ops n g r (listed.setIfInBounds i true)&&MF md ops n g s (listed.setIfInBounds j true))))
def ptN:PT->Nat->Bool
 |.done,0=>true
 |.take _ r,n+1=>ptN r n
 |.one _ r,n+1=>ptN r n
 |.two _ _ r s,n+1=>ptN r n&&ptN s n
 |_,_=>false
theorem FW{n g:Nat}(z:Region.noSelect ops=true)(y:Region.sinkB md ops n=true)(u:Region.chainB md ops n=true)(x:n<ops.size):∀(F:PT) (f:Nat) (listed:Array Bool) (a:Act) (w:World),MF md ops n g F listed=true->ptN F f=true->HeadInv md ops n listed->S w->OI P ops Q S F a w->KJ P md ops (NoPanic Q) S n (λJ a' w'=>Region.seqB md ops g n J=true/\Q .normal a' w') f listed a w
 |.done,0,listed,a,w,b,hF,c,e,h=>⟨b,h⟩
 |.done,f+1,listed,a,w,b,hF,c,e,h=>by cases hF
 |.take i r,0,listed,a,w,b,hF,c,e,h=>by cases hF
 |.take i r,f+1,listed,a,w,b,hF,c,e,h=>by
  simp only[MF,Bool.and_eq_true,fA]at b;obtain⟨l,p,N,b⟩:=b;obtain⟨o,v,hi,T,O⟩:=h;have I:i∈Region.ready md ops listed:=by simpa using p
  exact acY hi (Region.noSelect_spec z) y u x l (λJ a' w' M=>seqB_ready M.1) (λ_ _ _ h=>h) f listed a w c (Region.free_spec hi N) I T e
   (FW z y u x r f _ _ _ b hF (c.set I l) e O)
 |.one i r,0,listed,a,w,b,hF,c,e,h=>by cases hF
 |.one i r,f+1,listed,a,w,b,hF,c,e,h=>by
  simp only[MF,Bool.and_eq_true,fA,beq_iff_eq]at b;obtain⟨l,p,b⟩:=b;refine⟨by rw[p];simp,λj m=>?_⟩;have A:j=i:=by rw[p]at m;simpa using m
  subst A;exact⟨l,wpOp_mono (λa' w' d=>⟨d.1,FW z y u x r f _ _ _ b hF (c.set m l) d.1 d.2⟩) h⟩
 |.two i k r s,0,listed,a,w,b,hF,c,e,h=>by cases hF
 |.two i k r s,f+1,listed,a,w,b,hF,c,e,h=>by
  simp only[MF,Bool.and_eq_true,fA,beq_iff_eq]at b;obtain⟨l,H,p,K,L⟩:=b;simp only[ptN,Bool.and_eq_true]at hF;refine⟨by rw[p];simp,λj m=>?_⟩;have A:j=i\/j=k:=by rw[p]at m;simpa using m
  rcases A with rfl|rfl
  .exact⟨l,wpOp_mono (λa' w' d=>⟨d.1,FW z y u x r f _ _ _ K hF.1 (c.set m l) d.1 d.2⟩) h.1⟩
  .exact⟨H,wpOp_mono (λa' w' d=>⟨d.1,FW z y u x s f _ _ _ L hF.2 (c.set m H) d.1 d.2⟩) h.2⟩
end
def arf(P:Program)(l:List Oper)(n:Nat)(Q:Exit->Act->World->Prop):Exit->Act->World->Prop
 |.normal,a,w=>wpList P l.toArray Q (l.drop n) a w
 |e,a,w=>Q e a w
def atK(l:List Oper)(n:Nat)(pl:PT):Bool:=Region.noSelect l.toArray&&(decide (n<l.length)&&(Region.sinkB .any l.toArray n&&(Region.chainB .any l.toArray n&&(MF .any l.toArray n (l.length-n) pl (Array.replicate l.length false)&&ptN pl n))))
theorem iT{P:Program}{id:Nat}{Q:Exit->Act->World->Prop}{a:Act}{w:World}{l:List Oper}(S:World->Prop)(n:Nat)(c:PT)(o:P.follows .mixedOrders=true)(d:atK l n c=true)(k:S w.drew)(h:tZ P l.toArray (arf P l n Q) S c a w.drew):(Code.region id l.toArray true).wp P Q a w:=by
 simp only[atK,Bool.and_eq_true,fA]at d;obtain⟨v,p,u,m,s,b⟩:=d;have r:n<l.toArray.size:=by simpa using p
 have f:(l.drop n).length=l.length-n:=sZ;have y:HeadInv .any l.toArray n (Array.replicate l.length false):=
  ⟨sZ,λj z _ b=>(by rw[getD_replicate_false]at b;cases b),λt _ x=>getD_in (by simpa using x) (getD_replicate_false _ _)⟩
 have H:=FW (P:=P) (Q:=arf P l n Q) (S:=S) (md:=.any) (g:=l.length-n) v u m r c n _ a w.drew s b y k h.out;refine wp_region_any o ?_;have:=KG (Q':=Q) (g:=l.length-n) (λlisted a' W e=>by have:=wpAny_of_seq (md:=.any) (Q':=Q) (l.drop n) n listed a' W (λj=>by simp[lH]) (by rw[f];exact e.1) e.2;rwa [f]at this) (λi K a w h=>akP (λ_ _ _ h=>h.elim) (λ⟨a,w,h⟩=>⟨a,w,h⟩) h) _ _ _ _ H;rw[show n+(l.length-n)=l.toArray.size by simp;omega]at this;simpa using this
open Go Go.RowKit
section
variable {P:Program} {ops:Array Oper} {md:Region.Mode} {Q:Exit->Act->World->Prop} {S:World->Prop}
def SE(md:Region.Mode)(ops:Array Oper)(n:Nat):Nat->Nat->Bool
 |0,i=>i==n
 |f+1,i=>i==n||(List.range ops.size).any λj=>Region.waitsFor md ops j i&&SE md ops n f j
theorem QF{n m:Nat}{listed:Array Bool}(c:HeadInv md ops m listed):∀(f i:Nat),SE md ops n f i=true->listed.getD i true=false->listed.getD n false=false
 |0,i,h,a=>by
  have e:i=n:=by simpa[SE]using h
  subst e;exact getD_both a
 |f+1,i,h,a=>by
  simp only[SE,Bool.or_eq_true,beq_iff_eq]at h;rcases h with rfl|h
  .exact getD_both a
  .obtain⟨j,l,b⟩:=lY.1 h;simp only[Bool.and_eq_true]at b;obtain⟨u,p,e,k,g,r⟩:=Region.waitsFor_spec b.1;have o:j<listed.size:=by rw[c.size];exact jU.1 l
   refine QF c f j b.2 (getD_in o ?_);cases s:listed.getD j false with
   |false=>rfl
   |true=>
    have d:=c.closed j u p s e k g;rw[r,getD_both a]at d;cases d
def wH(n:Nat)(S:World->Prop)(l:Array Bool)(W:World):Prop:=l.getD n false=true\/S W
def OO(P:Program)(md:Region.Mode)(ops:Array Oper)(Q:Exit->Act->World->Prop)(S:World->Prop)(n:Nat):Nat->Array Bool->Act->World->Prop
 |0,listed,a,w=>Region.ready md ops listed=[]/\Q .normal a w
 |fuel+1,listed,a,w=>
  (Region.ready md ops listed=[]->Q .normal a w)/\
  ∀i∈Region.ready md ops listed,wpOp P ops Q i (λa' w'=>wH n S (listed.setIfInBounds i true) w'/\OO P md ops Q S n fuel (listed.setIfInBounds i true) a' w') a w
theorem XH{n:Nat}:∀(fuel:Nat) (listed:Array Bool) (a:Act) (w:World),OO P md ops Q S n fuel listed a w->wpAny P md ops Q fuel listed a w
 |0,_,_,_,h=>h
 |fuel+1,_,_,_,h=>⟨h.1,λi hi=>wpOp_mono (λa' w' b=>XH fuel _ a' w' b.2) (h.2 i hi)⟩
theorem adC{n i:Nat}{g:Oper}{v:Value}(hi:ops[i]? =some g)(L:i≠n)(O:∀(j:Nat) (o:Oper) cs b,ops[j]? =some o->o.op≠.select cs b)(aa:∀c a w,Q (.panic c) (a.put g.dst v) w->Q (.panic c) a w){F:World->Prop}(J:∀l W,HeadInv md ops ops.size l->l.getD i true=false->wH n S l W->F W):∀(fuel:Nat) (listed:Array Bool) (a:Act) (w:World),HeadInv md ops ops.size listed->(∀j m,ops[j]? =some m->j≠i->listed.getD j true=false->(∀e∈m.after,Region.binds md e=true->e.on≠i)->g.apart ops m=true)->i∈Region.ready md ops listed->YieldsIf P ops F g v a->wH n S listed w->OO P md ops Q S n fuel (listed.setIfInBounds i true) (a.put g.dst v) w->OO P md ops Q S n (fuel+1) listed a w:=by
 intro fuel;have Y:∀(l:Array Bool) (W:World),wH n S l W->wH n S (l.setIfInBounds i true) W:=λl W h=>by unfold wH at*;rwa [getD_set_ne false L]
 have X:∀(l:Array Bool) (W:World),wH n S (l.setIfInBounds i true) W->wH n S l W:=λl W h=>by unfold wH at*;rwa [getD_set_ne false L]at h
 induction fuel with
 |zero=>
  intro listed a w y _ d x p H;refine⟨λh=>(by rw[h]at d;cases d),λj r=>?_⟩;by_cases f:j=i
  .subst f;exact x.wpOp hi (J _ _ y (mem_ready.1 d).1 p) ⟨Y _ _ p,H⟩
  .have:=ready_mono r f;rw[H.1]at this;cases this
 |succ fuel am=>
  intro listed a w y K d x p H;refine⟨λh=>(by rw[h]at d;cases d),λj r=>?_⟩;by_cases f:j=i
  .subst f;exact x.wpOp hi (J _ _ y (mem_ready.1 d).1 p) ⟨Y _ _ p,H⟩
  .have s:=H.2 j (ready_mono r f);obtain⟨N,m,u,ab⟩:=mem_ready.1 r;have al:∀e∈m.after,Region.binds md e=true->e.on≠i:=λe ae ad af=>by have s:=ab e ae ad;rw[af,getD_both (mem_ready.1 d).1]at s;cases s
   have Z:=wpOp_putIf u (K j m u f N al) (λcs b=>O i g cs b hi) (λcs b=>O j m cs b u) aa x s;have ag:∀k ok,ops[k]? =some ok->k≠i->(listed.setIfInBounds j true).getD k true=false->
     (∀e∈ok.after,Region.binds md e=true->e.on≠i)->g.apart ops ok=true:=λk ok ai aj T ak=>by
    refine K k ok ai aj ?_ ak;by_cases M:j=k
    .subst M;exact N
    .rw[getD_set_ne true M]at T;exact T
   have ah:j<ops.size:=(bT.1 u).1;refine wpOp_mono (λa' w' z=>?_) Z;have A:=z.2.1;have I:=z.2.2;rw[kF _ _ (Ne.symm f)]at A I;exact⟨X _ _ A,am (listed.setIfInBounds j true) a' w' (y.set r ah) ag (ready_mono d (Ne.symm f)) z.1 (X _ _ A) I⟩
def aaz(P:Program)(ops:Array Oper)(Q:Exit->Act->World->Prop)(S:World->Prop)(n:Nat):PT->Act->World->Prop
 |.done,a,w=>Q .normal a w
 |.take i r,a,w=>∃o v,ops[i]? =some o/\YieldsIf P ops (λW=>SE .any ops n ops.size i=true->S W) o v a/\aaz P ops Q S n r (a.put o.dst v) w
 |.one i r,a,w=>wpOp P ops (NoPanic Q) i (λa' w'=>(i≠n->S w')/\aaz P ops Q S n r a' w') a w
 |.two i j r s,a,w=>wpOp P ops (NoPanic Q) i (λa' w'=>(i≠n->S w')/\aaz P ops Q S n r a' w') a w/\wpOp P ops (NoPanic Q) j (λa' w'=>(j≠n->S w')/\aaz P ops Q S n s a' w') a w
structure DZ (P:Program) (ops:Array Oper) (Q:Exit->Act->World->Prop) (S:World->Prop) (n:Nat) (pl:PT) (a:Act) (w:World):Prop where
 out:aaz P ops Q S n pl a w
theorem arY{n:Nat}{a:Act}{w:World}(h:Q .normal a w):DZ P ops Q S n .done a w:=⟨h⟩
theorem ahB{n i:Nat}{r:PT}{o:Oper}{v:Value}{a a':Act}{w:World}(hi:ops[i]? =some o)(g:Region.wanted o (yielded ops a.tmps)=true)(f:SE .any ops n ops.size i=true)(h:∀W,S W->sM v W ((execOp a.eval o).run P W))(c:a.put o.dst v=a')(d:DZ P ops Q S n r a' w):DZ P ops Q S n (.take i r) a w:=by
 subst c;refine⟨⟨o,v,hi,.inl ⟨g,λW b=>?_⟩,d.out⟩⟩;have:=h W (b f);unfold sM at this;split at this
 .rename_i e;obtain⟨rfl,rfl⟩:=this;exact e
 .exact this.elim
theorem aaM{n i:Nat}{r:PT}{o:Oper}{v:Value}{a a':Act}{w:World}(hi:ops[i]? =some o)(d:Region.wanted o (yielded ops a.tmps)=true)(h:∀W,sM v W ((execOp a.eval o).run P W))(b:a.put o.dst v=a')(c:DZ P ops Q S n r a' w):DZ P ops Q S n (.take i r) a w:=by
 subst b;refine⟨⟨o,v,hi,.inl ⟨d,λW f=>?_⟩,c.out⟩⟩;have:=h W;unfold sM at this;split at this
 .rename_i e;obtain⟨rfl,rfl⟩:=this;exact e
 .exact this.elim
theorem aps{n i:Nat}{r:PT}{o:Oper}{a a':Act}{w w1:World}(hi:ops[i]? =some o)(e:Region.wanted o (yielded ops a.tmps)=true)(h:(execOp a.eval o).run P w=.ok .skip w1)(b:i≠n->S w1)(c:a.put o.dst undef=a')(d:DZ P ops Q S n r a' w1):DZ P ops Q S n (.one i r) a w:=by subst c;constructor;show wpOp P ops (NoPanic Q) i _ a w;unfold wpOp;simp only[hi,e,if_true,Oper.wp,h,Oper.upon];exact .inl ⟨b,d.out⟩
theorem arZ{n i:Nat}{r:PT}{o:Oper}{a:Act}{w w1:World}{f:FuncId}{args:Array Value}(hi:ops[i]? =some o)(j:Region.wanted o (yielded ops a.tmps)=true)(h:(execOp a.eval o).run P w=.ok (.enter f args) w1)(c:Calls P f args w1 λe w'=>∃v,e=.returned v/\(i≠n->S w')/\DZ P ops Q S n r (a.put o.dst v) w'):DZ P ops Q S n (.one i r) a w:=by constructor;show wpOp P ops (NoPanic Q) i _ a w;unfold wpOp;simp only[hi,j,if_true,Oper.wp,h,Oper.upon];refine .inl (Calls.mono c λe w' d=>?_);obtain⟨v,rfl,b,g⟩:=d;exact⟨b,g.out⟩
def QE(n:Nat):PT->Bool
 |.done=>true
 |.take i r=> !(i==n)&&QE n r
 |.one _ r=>QE n r
 |.two _ _ r s=>QE n r&&QE n s
theorem KR{n:Nat}(y:Region.noSelect ops=true):∀(z:PT) (f:Nat) (listed:Array Bool) (a:Act) (w:World),ptB .any ops z listed=true->ptF z f=true->QE n z=true->HeadInv .any ops ops.size listed->wH n S listed w->aaz P ops Q S n z a w->OO P .any ops (NoPanic Q) S n f listed a w
 |.done,f,listed,a,w,b,hF,c,g,u,h=>by
  have H:Region.ready .any ops listed=[]:=by simpa[ptB]using b
  cases f with
  |zero=>exact⟨H,NoPanic.normal h⟩
  |succ f=>exact⟨λ_=>NoPanic.normal h,by rw[H];simp⟩
 |.take i r,0,listed,a,w,b,hF,c,g,u,h=>by cases hF
 |.take i r,f+1,listed,a,w,b,hF,c,g,u,h=>by
  simp only[ptB,Bool.and_eq_true]at b;simp only[QE,Bool.and_eq_true,Bool.not_eq_true',beq_eq_false_iff_ne]at c;obtain⟨o,v,hi,T,L⟩:=h;have I:i∈Region.ready .any ops listed:=by simpa using b.1
  have K:i<ops.size:=(bT.1 hi).1;refine adC hi c.1 (Region.noSelect_spec y) (λ_ _ _ h=>h) (λl W M N d O=>?_) f listed a w g (Region.free_spec hi b.2.1) I T u
   (KR y r f _ _ _ b.2.2 hF c.2 (g.set I K) ?_ L)
  .rcases d with d|d
   .rw[QF M _ _ O N]at d;cases d
   .exact d
  .unfold wH at*;rwa [getD_set_ne false c.1]
 |.one i r,0,listed,a,w,b,hF,c,g,u,h=>by cases hF
 |.one i r,f+1,listed,a,w,b,hF,c,g,u,h=>by
  simp only[ptB,Bool.and_eq_true,beq_iff_eq]at b;refine⟨by rw[b.1];simp,λj p=>?_⟩;have A:j=i:=by rw[b.1]at p;simpa using p
  subst A;obtain⟨_,X,F,_⟩:=mem_ready.1 p;have x:j<ops.size:=(bT.1 F).1;refine wpOp_mono (λa' w' m=>?_) h;have d:wH n S (listed.setIfInBounds j true) w':=by
   unfold wH;by_cases e:j=n
   .subst e;left;have:j<listed.size:=by rw[g.size];exact x
    simp[this]
   .exact .inr (m.1 e)
  exact⟨d,KR y r f _ _ _ b.2 hF c (g.set p x) d m.2⟩
 |.two i k r s,0,listed,a,w,b,hF,c,g,u,h=>by cases hF
 |.two i k r s,f+1,listed,a,w,b,hF,c,g,u,h=>by
  simp only[ptB,Bool.and_eq_true,beq_iff_eq]at b;simp only[ptF,Bool.and_eq_true]at hF;simp only[QE,Bool.and_eq_true]at c;refine⟨by rw[b.1];simp,λj p=>?_⟩;have A:j=i\/j=k:=by rw[b.1]at p;simpa using p
  obtain⟨_,X,F,_⟩:=mem_ready.1 p;have x:j<ops.size:=(bT.1 F).1;have d:∀W,(j≠n->S W)->wH n S (listed.setIfInBounds j true) W:=λW J=>by
   unfold wH;by_cases e:j=n
   .subst e;left;have:j<listed.size:=by rw[g.size];exact x
    simp[this]
   .exact .inr (J e)
  rcases A with rfl|rfl
  .exact wpOp_mono (λa' w' m=>⟨d _ m.1,KR y r f _ _ _ b.2.1 hF.1 c.1 (g.set p x) (d _ m.1) m.2⟩) h.1
  .exact wpOp_mono (λa' w' m=>⟨d _ m.1,KR y s f _ _ _ b.2.2 hF.2 c.2 (g.set p x) (d _ m.1) m.2⟩) h.2
end
theorem aiS{P:Program}{id:Nat}{Q:Exit->Act->World->Prop}{a:Act}{w:World}{l:List Oper}(S:World->Prop)(n:Nat)(b:PT)(g:P.follows .mixedOrders=true)(e:(Region.noSelect l.toArray&&(ptB .any l.toArray b (Array.replicate l.length false)&&(ptF b l.length&&QE n b)))=true)(f:S w.drew)(h:DZ P l.toArray Q S n b a w.drew):(Code.region id l.toArray true).wp P Q a w:=by
 simp only[Bool.and_eq_true]at e;obtain⟨m,k,c,i⟩:=e;have o:HeadInv .any l.toArray l.toArray.size (Array.replicate l.length false):=
  ⟨sZ,λj r _ c=>(by rw[getD_replicate_false]at c;cases c),λt p d=>oZ⟩
 have:=KR (Q:=Q) (P:=P) (S:=S) m b l.length (Array.replicate l.length false) a w.drew k c i o (.inr f) h.out;refine wp_region_noPanic (wp_region_any g ?_);have d:=XH _ _ _ _ this;simpa using d
end L
end Go.Proofs.YtedmeglbjmdlhaaGreatDoor
