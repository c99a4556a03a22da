/-
TopQuiet: whatever commands came ahead, a second round right behind one admits nobody if nobody had to give way in either, and the head and its start are the same. Conditions: none beyond the card.
-/
import Derived.Test.YtedmeglbjmdlhaaGreatDoorRows
import Derived.JoinedOf
import Derived.SevenTiedAt
import Derived.Test.YtedmeglbjmdlhaaGreatDoorCards
import Derived.Test.YtedmeglbjmdlhaaGreatDoorG0
set_option maxRecDepth 100000
set_option maxHeartbeats 16000000
set_option linter.all false
open Go.Proofs.Tryz
namespace Go.Proofs.YtedmeglbjmdlhaaGreatDoor
namespace topQuiet
open Go
theorem c1:(Rows.topQuietRow.inPlace==Tryz.pinned.checked.prog.inPlace 7)=true:=by kernel_rfl
theorem c2:(Rows.topQuietRow.unfollowed==Tryz.pinned.checked.prog.unfollowed 7)=true:=by kernel_rfl
theorem c3:(Rows.topQuietRow.recurses==Tryz.pinned.checked.prog.recurses 7)=true:=by kernel_rfl
theorem c4:(Rows.topQuietRow.named==Tryz.pinned.checked.prog.varsNamed 7)=true:=by kernel_rfl
theorem c5:laidOutB Tryz.pinned.checked.prog=true:=by kernel_rfl
theorem c6:mapsRowed Tryz.pinned.checked.prog=true:=by kernel_rfl
theorem c7:Rows.topQuietRow.wf (OpenSpec.ofChange Rows.topQuietSpec)=true:=by kernel_rfl
theorem c8:Tryz.pinned.checked.prog.stopsHeard=true:=by kernel_rfl
theorem c9:Tryz.pinned.checked.prog.mayEnter=true:=by kernel_rfl
theorem c10:(Rows.topQuietRow.lifted==Tryz.pinned.checked.prog.liftsFinal)=true:=by kernel_rfl
theorem c11:(Tryz.pinned.checked.prog.make==some Rows.topQuietRow.make)=true:=by kernel_rfl
theorem c12:(Rows.topQuietRow.plainKeys==Tryz.pinned.checked.prog.plainKeys)=true:=by kernel_rfl
theorem joined:joinedFacts Tryz.pinned.checked.prog 7 Tryz.f7 Rows.topQuietSpec Rows.topQuietRow=true:=by
 unfold joinedFacts;rw[c1,c2,c3,c4,c5,c6,c7,c8,c9,c10,c11,c12]
 kernel_rfl
theorem uS:Tryz.pinned.checked.prog.funcNamed Rows.topQuietRow.func=some 7:=by kernel_rfl
theorem ET:Tryz.f7.isInstance Tryz.pinned.checked.prog Rows.topQuietRow.origin Rows.topQuietRow.targs:=of_decide_eq_true kZ
theorem EF:Tryz.f7.isWrapper Tryz.pinned.checked.prog Rows.topQuietRow.wrapper Rows.topQuietRow.mainSum:=by unfold Func.isWrapper;first|(rw[aG (by decide+kernel)];kernel_rfl)|(rw[aD (by decide+kernel)];exact⟨rfl,rfl⟩)
theorem d1:Rows.topQuietRow.wfByText (OpenSpec.ofChange Rows.topQuietSpec)=true:=by kernel_rfl
theorem d2:Tryz.pinned.checked.prog.mainIs=some (true,"c97910147129ad8b29a81bf79b7d3dfe1754e7ca21dcd0dadd0273f90efd963e".toList):=by kernel_rfl
theorem d3:true=Tryz.pinned.checked.prog.looks []:=by kernel_rfl
theorem d4:Tryz.pinned.checked.prog.wantsStandIn 22=false:=by kernel_rfl
theorem d5:false=Rows.topQuietRow.goesBy Tryz.pinned.checked.prog:=by kernel_rfl
end topQuiet
end Go.Proofs.YtedmeglbjmdlhaaGreatDoor
