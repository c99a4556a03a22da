/-
TopDrains: whatever commands came ahead, as time goes on each gang that waits is admitted: behind as many rounds as there are gangs, with the greatest tick between, nobody waits. Conditions: none beyond the card.
-/
import Derived.Test.YtedmeglbjmdlhaaGreatDoorG25
set_option maxRecDepth 100000
set_option maxHeartbeats 16000000
set_option linter.all false
open Go.Proofs.Tryz
namespace Go.Proofs.YtedmeglbjmdlhaaGreatDoor
open L Quo bU
namespace bU
open Go Go.RowKit L bM eZ Srt
section
variable {W W':World} {z y:Nat} {CS:Array Value} {s:Top.S}
theorem StV.aN(h:StV W z CS s):CS[4]? =some (.int .i64 s.aN):=by obtain⟨_,_,_,_,_,_,_,_,_,_,_,rfl,_⟩:=h.parts;rfl
theorem StV.ps(h:StV W z CS s):∃E c,CS[6]? =some (.slice E s.ps.length c):=by obtain⟨_,_,_,_,_,_,_,_,_,_,_,rfl,_⟩:=h.parts;exact⟨_,_,rfl⟩
theorem StV.rs(h:StV W z CS s):∃E c,CS[7]? =some (.slice E s.rs.length c):=by obtain⟨_,_,_,_,_,_,_,_,_,_,_,rfl,_⟩:=h.parts;exact⟨_,_,rfl⟩
end
theorem uD.below{w W W':World}{tb:Nat}{CS:Array Value}{s:Top.S}(h:uD w W tb CS s)(a:Below W W W'):uD w W' tb CS s:=
 ⟨h.old.trans (a.mono h.old.size),h.lo,h.box.below a h.box.lt,h.st.below a⟩
theorem uD.put{w W W':World}{tb z:Nat}{CS CS':Array Value}{s s':Top.S}(h:uD w W tb CS s)(a:Below W W W')(c:StV W' z CS' s')(d:(W:Nat)<=z):uD w (W'.setRow tb CS') tb CS' s':=by have b:=h.box.lt;have k:=jO W' tb CS';exact⟨(h.old.trans (a.mono h.old.size)).trans (k.below (aV h.old.size a.size) λi e=>by rw[e];exact h.lo),h.lo,(h.box.below a b).row CS',(c.off (aM b d) k).low (bK _)⟩
section
variable {ops:Array Oper} {rest:List Oper} {o:Oper} {a:Act} {w W wc:World} {Q:Exit->Act->World->Prop} {tb z:Nat} {CS CS':Array Value} {s s':Top.S}
theorem aqR(c:o.guard=none)(x y:Operand)(e:o.op=.store 31 x y)(b:uD w W tb CS s)(f:a.eval x=.pointer tb)(CS':Array Value)(g:a.eval y=.agg CS')(h:StV wc z CS' s')(d:wpList prog ops Q rest (a.put o.dst undef) (W.setRow tb CS')):wpList prog ops Q (o::rest) a W:=
 wpList_store_row c 31 x y e tb CS' f g 31 CS b.box h.info (by rw[h.size,b.st.size]) h.one d
end
section
variable {P:Program} {fn:Func} {tmps:Array Value} {w:World} {cs:Array Value} {g p q:Nat} {t ty:TypeId} {d:TypeDesc}
end
end bU
end Go.Proofs.YtedmeglbjmdlhaaGreatDoor
