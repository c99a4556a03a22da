/-
Parts of the law TopUsage.
-/
import Derived.Test.YtedmeglbjmdlhaaGreatDoorRows
import Derived.JoinedOf
import Derived.SevenTiedAt
import Derived.Test.YtedmeglbjmdlhaaGreatDoorCards
import Derived.Test.YtedmeglbjmdlhaaGreatDoorG0
set_option maxRecDepth 100000
set_option maxHeartbeats 16000000
set_option linter.all false
open Go.Proofs.Tryz
namespace Go.Proofs.YtedmeglbjmdlhaaGreatDoor
namespace topUsage
open Go
theorem c1:(Rows.topUsageRow.inPlace==Tryz.pinned.checked.prog.inPlace 6)=true:=by kernel_rfl
theorem c2:(Rows.topUsageRow.unfollowed==Tryz.pinned.checked.prog.unfollowed 6)=true:=by kernel_rfl
theorem c3:(Rows.topUsageRow.recurses==Tryz.pinned.checked.prog.recurses 6)=true:=by kernel_rfl
theorem c4:(Rows.topUsageRow.named==Tryz.pinned.checked.prog.varsNamed 6)=true:=by kernel_rfl
theorem c5:laidOutB Tryz.pinned.checked.prog=true:=by kernel_rfl
theorem c6:mapsRowed Tryz.pinned.checked.prog=true:=by kernel_rfl
theorem c7:Rows.topUsageRow.wf (OpenSpec.ofChange Rows.topUsageSpec)=true:=by kernel_rfl
theorem c8:Tryz.pinned.checked.prog.stopsHeard=true:=by kernel_rfl
theorem c9:Tryz.pinned.checked.prog.mayEnter=true:=by kernel_rfl
theorem c10:(Rows.topUsageRow.lifted==Tryz.pinned.checked.prog.liftsFinal)=true:=by kernel_rfl
theorem c11:(Tryz.pinned.checked.prog.make==some Rows.topUsageRow.make)=true:=by kernel_rfl
theorem c12:(Rows.topUsageRow.plainKeys==Tryz.pinned.checked.prog.plainKeys)=true:=by kernel_rfl
theorem joined:joinedFacts Tryz.pinned.checked.prog 6 Tryz.f6 Rows.topUsageSpec Rows.topUsageRow=true:=by
 unfold joinedFacts;rw[c1,c2,c3,c4,c5,c6,c7,c8,c9,c10,c11,c12]
 kernel_rfl
theorem uS:Tryz.pinned.checked.prog.funcNamed Rows.topUsageRow.func=some 6:=by kernel_rfl
theorem ET:Tryz.f6.isInstance Tryz.pinned.checked.prog Rows.topUsageRow.origin Rows.topUsageRow.targs:=of_decide_eq_true kZ
theorem EF:Tryz.f6.isWrapper Tryz.pinned.checked.prog Rows.topUsageRow.wrapper Rows.topUsageRow.mainSum:=by unfold Func.isWrapper;first|(rw[aG (by decide+kernel)];kernel_rfl)|(rw[aD (by decide+kernel)];exact⟨rfl,rfl⟩)
theorem d1:Rows.topUsageRow.wfByText (OpenSpec.ofChange Rows.topUsageSpec)=true:=by kernel_rfl
theorem d2:Tryz.pinned.checked.prog.mainIs=some (true,"c97910147129ad8b29a81bf79b7d3dfe1754e7ca21dcd0dadd0273f90efd963e".toList):=by kernel_rfl
theorem d3:true=Tryz.pinned.checked.prog.looks []:=by kernel_rfl
theorem d4:Tryz.pinned.checked.prog.wantsStandIn 22=false:=by kernel_rfl
theorem d5:false=Rows.topUsageRow.goesBy Tryz.pinned.checked.prog:=by kernel_rfl
end topUsage
end Go.Proofs.YtedmeglbjmdlhaaGreatDoor
