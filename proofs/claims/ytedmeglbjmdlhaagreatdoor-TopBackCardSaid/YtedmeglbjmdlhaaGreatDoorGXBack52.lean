/-
TopBack: whatever commands came ahead, who had to give way first in a round borrowed, and somebody who was admitted behind those that gave way stays within its nominal. Conditions: none beyond the card.
-/
import Derived.Test.YtedmeglbjmdlhaaGreatDoorGXBack43
import Derived.Test.YtedmeglbjmdlhaaGreatDoorG7
set_option maxRecDepth 100000
set_option maxHeartbeats 16000000
set_option linter.all false
namespace Go.Proofs.YtedmeglbjmdlhaaGreatDoor
open Go
open Quo Top
variable{p:Ord.P}
namespace Top
open Go.Proofs.YtedmeglbjmdlhaaGreatDoor Quo
theorem ahv{ps:List Ord.P}(h:(ps.map (·.id)).Nodup){q:Ord.P}(a:p∈ps)(d:q∈ps)(e:p.id=q.id):p=q:=by
 induction ps with
 |nil=>cases a
 |cons x t f=>
  rw[cZ,fQ]at h;rcases bA.1 a with rfl|b<;>rcases bA.1 d with rfl|c
  .rfl
  .exact absurd (bL.2 ⟨q,c,e.symm⟩) h.1
  .exact absurd (bL.2 ⟨p,b,e⟩) h.1
  .exact f h.2 b c
end Top
variable{id:Int}{i n:Nat}{s:Top.S}
namespace Top
open Go.Proofs.YtedmeglbjmdlhaaGreatDoor Quo
theorem afu:∀{ps:List Ord.P} {k:Nat},lD ps id=some k->∃h:k<ps.length,ps[k].id=id
 |[],k,h=>by cases h
 |p::t,k,h=>by
  unfold lD at h;by_cases e:p.id=id
  .rw[aG e]at h;cases h;exact⟨sZ,by simpa using e⟩
  .rw[aD e]at h;cases c:lD t id with
   |none=>rw[c]at h;cases h
   |some j=>
    rw[c]at h;simp only[Option.map_some,Option.some.injEq]at h;subst h;obtain⟨a,b⟩:=afu c;exact⟨by simpa using a,by simpa using b⟩
theorem aql{ps:List Ord.P}(h:p∈ps):∃k,lD ps p.id=some k:=by
 cases e:lD ps p.id with
 |some k=>exact⟨k,rfl⟩
 |none=>exact absurd rfl (RB (by rw[e];rfl) p h)
theorem RA{ps:List Ord.P}(d:(ps.map (·.id)).Nodup)(h:p∈ps):∃k,∃c:k<ps.length,lD ps p.id=some k/\ps[k]=p:=by obtain⟨k,c⟩:=aql h;obtain⟨a,b⟩:=afu c;exact⟨k,a,c,ahv d (bB a) h b⟩
theorem Good.aeA(h:Good n s):(s.ps.map (·.id)).Nodup:=by have:=h.dB;rw[dO,iW]at this;exact this.1
theorem Good.asj(h:Good n s)(a:p∈(Top.run s).1.ps):p∈s.ps++gs s.rs:=(wP h.sane).perm.mem_iff.1 (cO _ a)
theorem alE(h:Good n s){e:E}(j:(run s).2[i]? =some e)(c:e.kind=2):∃k,∃c:k<(run s).1.ps.length,lD (run s).1.ps e.id=some k/\(i=0->kP s.c (used s.c s.rs) ((run s).1.ps[k]).dN=true):=by have m:=wP h.sane;obtain⟨q,f,g,_⟩:=m.waits e (gG j) c;obtain⟨k,a,b,d⟩:=RA h.run.aeA (show q∈(run s).1.ps from f);rw[g]at b;refine⟨k,a,b,λhi=>?_⟩;subst hi;obtain⟨r,r1,r2,r3⟩:=m.begun e (by rw[List.head?_eq_getElem?];exact j) c;have:q=r.p:=ahv h.dB (h.asj f) (fG _ (bL.2 ⟨r,r1,rfl⟩)) (by rw[g,r2]);rw[d,this];exact r3
theorem alD(h:Good n s){e:E}(u:(run s).2[i]? =some e)(l:e.kind=2)(v:∀j c,i<j->(run s).2[j]? =some c->c.kind≠2):∃c,(run s).2[i+1]? =some c/\c.kind=1/\∃k,∃l:k<s.ps.length,lD s.ps c.id=some k/\pK s.c [] (s.ps[k]).dN (jT (s.ps[k]))=true:=by
 obtain⟨c,g,f⟩:=(wP h.sane).told i e u l;rcases f with f|⟨f,p,m,o,r⟩
 .exact absurd f (v (i+1) c oZ g)
 .obtain⟨k,a,b,d⟩:=RA h.aeA m;rw[o]at b;exact⟨c,g,f,k,a,b,by rw[d];exact r⟩
end Top
end Go.Proofs.YtedmeglbjmdlhaaGreatDoor
