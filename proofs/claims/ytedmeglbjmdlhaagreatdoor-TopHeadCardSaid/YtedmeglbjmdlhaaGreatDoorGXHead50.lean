/-
TopHead: whatever commands came ahead, the start that was reserved holds: when time has gone on to it and nothing but rounds came between, the head fits. Conditions: none beyond the card.
-/
import Derived.Test.YtedmeglbjmdlhaaGreatDoorG7
set_option maxRecDepth 100000
set_option maxHeartbeats 16000000
set_option linter.all false
namespace Go.Proofs.YtedmeglbjmdlhaaGreatDoor
open Go
open Quo Top
variable{c:Cfg.C}{p:Ord.P}
namespace Top
open Go.Proofs.YtedmeglbjmdlhaaGreatDoor Quo
theorem VZ{n x:Int}:∀{l:List Int},x∈wB n l↔x=n\/x∈l
 |[]=>by simp[wB]
 |y::t=>by
  unfold wB;split
  .simp
  .rw[bA,VZ,bA];constructor
   .rintro(h|h|h)
    .exact .inr (.inl h)
    .exact .inl h
    .exact .inr (.inr h)
   .rintro(h|h|h)
    .exact .inr (.inl h)
    .exact .inl h
    .exact .inr (.inr h)
theorem abG{x:Int}:∀{l:List Int},x∈CO l↔x∈l
 |[]=>by simp[CO]
 |y::t=>by show x∈wB y (CO t)↔_;rw[VZ,abG,bA]
theorem aac{aN x:Int}:∀{rs:List R} {l:List Int},x∈rs.foldl (λl r=>if decide (aN<jC r)&& !(l.contains (jC r))then l++[jC r]else l) l↔x∈l\/∃r∈rs,aN<jC r/\jC r=x
 |[],l=>sZ
 |r::t,l=>by
  rw[List.foldl_cons,aac];by_cases h:aN<jC r
  .by_cases d:jC r∈l
   .have e:(decide (aN<jC r)&& !(l.contains (jC r)))=false:=by simp[d]
    rw[e];simp only[kC,if_false];constructor
    .rintro(a|⟨r',a,b⟩)
     .exact .inl a
     .exact .inr ⟨r',bG _ a,b⟩
    .rintro(a|⟨r',a,b,c⟩)
     .exact .inl a
     .rcases bA.1 a with rfl|a
      .exact .inl (c▸d)
      .exact .inr ⟨r',a,b,c⟩
   .have e:(decide (aN<jC r)&& !(l.contains (jC r)))=true:=by simp[d,h]
    rw[e];simp only[if_true,bY,List.mem_singleton];constructor
    .rintro((a|a)|⟨r',a,b⟩)
     .exact .inl a
     .exact .inr ⟨r,aZ ..,h,a.symm⟩
     .exact .inr ⟨r',bG _ a,b⟩
    .rintro(a|⟨r',a,b,c⟩)
     .exact .inl (.inl a)
     .rcases bA.1 a with rfl|a
      .exact .inl (.inr c.symm)
      .exact .inr ⟨r',a,b,c⟩
  .have e:(decide (aN<jC r)&& !(l.contains (jC r)))=false:=by simp[h]
   rw[e];simp only[kC,if_false];constructor
   .rintro(a|⟨r',a,b⟩)
    .exact .inl a
    .exact .inr ⟨r',bG _ a,b⟩
   .rintro(a|⟨r',a,b,c⟩)
    .exact .inl a
    .rcases bA.1 a with rfl|a
     .exact absurd b h
     .exact .inr ⟨r',a,b,c⟩
theorem zG{rs:List R}{aN x:Int}:x∈ends rs aN↔∃r∈rs,aN<jC r/\jC r=x:=by unfold ends tL;rw[abG,aac];simp
theorem AP{rs:List R}{t:Int}:∀{l:List Int},qL c rs p l=some t->t∈l/\(dR c (dD rs t) p).isSome=true/\(l.Pairwise (λa b=>a<=b)->∀u∈l,u<t->dR c (dD rs u) p=none)
 |[],h=>by cases h
 |x::l,h=>by
  unfold qL at h;cases f:dR c (dD rs x) p with
  |some v=>
   rw[f]at h;cases h;refine⟨aZ ..,by rw[f];rfl,λg u e i=>?_⟩;rcases bA.1 e with rfl|e
   .omega
   .have:=(eX.1 g).1 u e;omega
  |none=>
   rw[f]at h;obtain⟨a,b,d⟩:=AP h;refine⟨bG _ a,b,λg u e i=>?_⟩;rcases bA.1 e with rfl|e
   .exact f
   .exact d (eX.1 g).2 u e i
end Top
variable{ev:List Top.E}{n:Nat}{s:Top.S}
namespace Top
open Go.Proofs.YtedmeglbjmdlhaaGreatDoor Quo
theorem afT(a b:List R)(t:Int):dD (a++b) t=dD a t++dD b t:=by unfold dD;rw[fO]
theorem aib{b:List R}{t:Int}(h:∀r∈b,jC r<=t):dD b t=[]:=by unfold dD;rw[kX];intro r a;have:=h r a;simp;omega
def lV(ev:List E):Option E:=ev.find? λe=>e.kind==4
theorem DL{e:E}(a:e.kind≠4):lV (ev++[e])=lV ev:=by
 unfold lV;rw[List.find?_append];have:([e].find? λe=>e.kind==4)=none:=by simp[a]
 rw[this];simp
theorem ZH{e:E}(h:lV ev=none)(a:e.kind=4):lV (ev++[e])=some e:=by unfold lV at*;rw[List.find?_append,h];simp[a]
theorem amO(l:List Int):lV (ev++l.map λid=>(⟨2,id,0⟩:E))=lV ev:=by
 unfold lV;rw[List.find?_append];have:(l.map λid=>(⟨2,id,0⟩:E)).find? (λe=>e.kind==4)=none:=by rw[List.find?_eq_none];intro e a;obtain⟨id,_,rfl⟩:=bL.1 a;show¬((2:Int)==4)=true;decide
 rw[this];simp
structure Head (s:S) (x:Rd) (l:List Ord.P):Prop where
 no:x.head=false->lV x.ev=none
 yes:x.head=true->∃(H:Ord.P) (rs bs:List R),x.rs=rs++bs/\start s.c s.aN rs H=some x.start/\dR s.c rs H=none/\(∀b∈bs,jC b<=x.start)/\H∈x.ps/\(∀p∈l,p.id≠H.id)/\lV x.ev=some ⟨4,H.id,x.start⟩
theorem Head.step(F:xP s){x:Rd}{l:List Ord.P}(m:Mid s x (p::l))(h:Head s x (p::l)):Head s (look s.c s.aN x p) l:=by
 have A:=m.nodup;rw[cZ,fQ]at A;have N:∀q∈l,q.id≠p.id:=λq j e=>A.1 (bL.2 ⟨q,j,e⟩);obtain⟨W,Q,X⟩:=m.dB F;obtain⟨O,T⟩:=m.left p (aZ ..);have z:=m.rG F;have I:=qF (c:=s.c) (aN:=s.aN) (p:=p) z;generalize look s.c s.aN x p=y at I;cases I with
 |run fl w a d=>
  refine⟨λe=>(DL (by show(1:Int)≠4;decide)).trans (h.no e),λe=>?_⟩;obtain⟨H,rs,o,a1,a2,a3,a4,n,a6,a7⟩:=h.yes e;have k:=d e;unfold sS at k;refine⟨H,rs,o++[⟨p,s.aN,fl,w⟩],by simp[a1],a2,a3,λb i=>?_,sN n (Ne.symm (a6 p (aZ ..))),λq j=>a6 q (bG _ j),(DL (by show(1:Int)≠4;decide)).trans a7⟩;rcases bY.1 i with i|i
  .exact a4 b i
  .have:b=⟨p,s.aN,fl,w⟩:=by simpa using i
   subst this;exact of_decide_eq_true k
 |wait a d=>
  refine⟨h.no,λe=>?_⟩;obtain⟨H,rs,o,a1,a2,a3,a4,n,a6,a7⟩:=h.yes e;exact⟨H,rs,o,a1,a2,a3,a4,n,λq j=>a6 q (bG _ j),a7⟩
 |give g fl w a d u v=>
  have cs:=choose_spec z u d;have M:∀id∈g,id∈Top.dB x.rs:=λid L=>by obtain⟨r,r1,r2,_⟩:=cs.1.of id L;exact bL.2 ⟨r,r1,r2⟩
  have J:=wC Q g x.ps x.ev cs.1.nodup M;have K:(lM x g).ev=x.ev++g.map (λid=>⟨2,id,0⟩):=J.2.2.2;refine⟨λ_=>?_,λe=>?_⟩
  .show lV ((lM x g).ev++[⟨1,p.id,fl⟩])=none;rw[DL (by show(1:Int)≠4;decide),K,amO];exact h.no a
  .have f:x.head=true:=e;rw[a]at f;cases f
 |first t a d u v=>
  refine⟨λe=>(by cases e),λ_=>?_⟩;exact⟨p,x.rs,[],sZ,v,d,λb k=>(by cases k),O,N,ZH (h.no a) rfl⟩
 |none a d u v=>exact⟨h.no,λe=>by have f:x.head=true:=e;rw[a]at f;cases f⟩
theorem Head.all(a:xP s):∀(l:List Ord.P) (x:Rd),Mid s x l->Head s x l->Head s (rounds s.c s.aN x l) []
 |[],x,_,h=>h
 |p::l,x,m,h=>Head.all a l _ (m.step a) (h.step a m)
theorem aej(a:xP s):Head s (lT s) []:=Head.all a _ _ (Mid.start a) ⟨λ_=>rfl,λe=>(by cases e)⟩
theorem ahv{ps:List Ord.P}(h:(ps.map (·.id)).Nodup){q:Ord.P}(a:p∈ps)(d:q∈ps)(e:p.id=q.id):p=q:=by
 induction ps with
 |nil=>cases a
 |cons x t f=>
  rw[cZ,fQ]at h;rcases bA.1 a with rfl|b<;>rcases bA.1 d with rfl|c
  .rfl
  .exact absurd (bL.2 ⟨q,c,e.symm⟩) h.1
  .exact absurd (bL.2 ⟨p,b,e⟩) h.1
  .exact f h.2 b c
theorem amR(h:Good n s){e:E}(c:lV (run s).2=some e):∃H∈(run s).1.ps,H.id=e.id/\(dR s.c (dD (run s).1.rs e.n) H).isSome=true:=by
 have d:=aej h.sane;cases b:(lT s).head with
 |false=>
  have:=d.no b;have a:lV (lT s).ev=some e:=c;rw[this]at a;cases a
 |true=>
  obtain⟨H,rs,g,a1,a2,a3,a4,f,a6,a7⟩:=d.yes b;have a:lV (lT s).ev=some e:=c;rw[a7]at a;cases a;refine⟨H,f,rfl,?_⟩;show(dR s.c (dD (lT s).rs (lT s).start) H).isSome=true;rw[a1,afT,aib a4,fC];exact(AP a2).2.1
end Top
variable{id:Int}
namespace Top
open Go.Proofs.YtedmeglbjmdlhaaGreatDoor Quo
theorem afu:∀{ps:List Ord.P} {k:Nat},lD ps id=some k->∃h:k<ps.length,ps[k].id=id
 |[],k,h=>by cases h
 |p::t,k,h=>by
  unfold lD at h;by_cases e:p.id=id
  .rw[aG e]at h;cases h;exact⟨sZ,by simpa using e⟩
  .rw[aD e]at h;cases c:lD t id with
   |none=>rw[c]at h;cases h
   |some j=>
    rw[c]at h;simp only[Option.map_some,Option.some.injEq]at h;subst h;obtain⟨a,b⟩:=afu c;exact⟨by simpa using a,by simpa using b⟩
theorem aql{ps:List Ord.P}(h:p∈ps):∃k,lD ps p.id=some k:=by
 cases e:lD ps p.id with
 |some k=>exact⟨k,rfl⟩
 |none=>exact absurd rfl (RB (by rw[e];rfl) p h)
theorem RA{ps:List Ord.P}(d:(ps.map (·.id)).Nodup)(h:p∈ps):∃k,∃c:k<ps.length,lD ps p.id=some k/\ps[k]=p:=by obtain⟨k,c⟩:=aql h;obtain⟨a,b⟩:=afu c;exact⟨k,a,c,ahv d (bB a) h b⟩
theorem Good.aeA(h:Good n s):(s.ps.map (·.id)).Nodup:=by have:=h.dB;rw[dO,iW]at this;exact this.1
end Top
end Go.Proofs.YtedmeglbjmdlhaaGreatDoor
