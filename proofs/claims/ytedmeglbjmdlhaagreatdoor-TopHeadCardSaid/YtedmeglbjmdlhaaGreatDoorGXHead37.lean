/-
TopHead: whatever commands came ahead, the start that was reserved holds: when time has gone on to it and nothing but rounds came between, the head fits. Conditions: none beyond the card.
-/
import Derived.Test.YtedmeglbjmdlhaaGreatDoorRows
import Derived.JoinedOf
import Derived.SevenTiedAt
import Derived.Test.YtedmeglbjmdlhaaGreatDoorCards
import Derived.Test.YtedmeglbjmdlhaaGreatDoorG0
set_option maxRecDepth 100000
set_option maxHeartbeats 16000000
set_option linter.all false
open Go.Proofs.Tryz
namespace Go.Proofs.YtedmeglbjmdlhaaGreatDoor
namespace topHead
open Go
theorem c1:(Rows.topHeadRow.inPlace==Tryz.pinned.checked.prog.inPlace 8)=true:=by kernel_rfl
theorem c2:(Rows.topHeadRow.unfollowed==Tryz.pinned.checked.prog.unfollowed 8)=true:=by kernel_rfl
theorem c3:(Rows.topHeadRow.recurses==Tryz.pinned.checked.prog.recurses 8)=true:=by kernel_rfl
theorem c4:(Rows.topHeadRow.named==Tryz.pinned.checked.prog.varsNamed 8)=true:=by kernel_rfl
theorem c5:laidOutB Tryz.pinned.checked.prog=true:=by kernel_rfl
theorem c6:mapsRowed Tryz.pinned.checked.prog=true:=by kernel_rfl
theorem c7:Rows.topHeadRow.wf (OpenSpec.ofChange Rows.topHeadSpec)=true:=by kernel_rfl
theorem c8:Tryz.pinned.checked.prog.stopsHeard=true:=by kernel_rfl
theorem c9:Tryz.pinned.checked.prog.mayEnter=true:=by kernel_rfl
theorem c10:(Rows.topHeadRow.lifted==Tryz.pinned.checked.prog.liftsFinal)=true:=by kernel_rfl
theorem c11:(Tryz.pinned.checked.prog.make==some Rows.topHeadRow.make)=true:=by kernel_rfl
theorem c12:(Rows.topHeadRow.plainKeys==Tryz.pinned.checked.prog.plainKeys)=true:=by kernel_rfl
theorem joined:joinedFacts Tryz.pinned.checked.prog 8 Tryz.f8 Rows.topHeadSpec Rows.topHeadRow=true:=by
 unfold joinedFacts;rw[c1,c2,c3,c4,c5,c6,c7,c8,c9,c10,c11,c12]
 kernel_rfl
theorem uS:Tryz.pinned.checked.prog.funcNamed Rows.topHeadRow.func=some 8:=by kernel_rfl
theorem ET:Tryz.f8.isInstance Tryz.pinned.checked.prog Rows.topHeadRow.origin Rows.topHeadRow.targs:=of_decide_eq_true kZ
theorem EF:Tryz.f8.isWrapper Tryz.pinned.checked.prog Rows.topHeadRow.wrapper Rows.topHeadRow.mainSum:=by unfold Func.isWrapper;first|(rw[aG (by decide+kernel)];kernel_rfl)|(rw[aD (by decide+kernel)];exact⟨rfl,rfl⟩)
theorem d1:Rows.topHeadRow.wfByText (OpenSpec.ofChange Rows.topHeadSpec)=true:=by kernel_rfl
theorem d2:Tryz.pinned.checked.prog.mainIs=some (true,"c97910147129ad8b29a81bf79b7d3dfe1754e7ca21dcd0dadd0273f90efd963e".toList):=by kernel_rfl
theorem d3:true=Tryz.pinned.checked.prog.looks []:=by kernel_rfl
theorem d4:Tryz.pinned.checked.prog.wantsStandIn 22=false:=by kernel_rfl
theorem d5:false=Rows.topHeadRow.goesBy Tryz.pinned.checked.prog:=by kernel_rfl
end topHead
end Go.Proofs.YtedmeglbjmdlhaaGreatDoor
