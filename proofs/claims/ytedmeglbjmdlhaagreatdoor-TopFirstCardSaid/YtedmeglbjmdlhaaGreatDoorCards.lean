/-
  DERIVED. GIVEN WITH THE SEED: THE CARDS: each row of YtedmeglbjmdlhaaGreatDoorRows.lean that lists a variable, with what it lists TIED to the program's text (the seventh form; the later family's looks); each row that meets fmt, with fmt's text TOLD by the authors' own Lean function (tested against real Go, not proved from fmt's source: count such statements apart). THE CARD IS WHAT COUNTS. Prove the row's statement (the work); the ties are given (YtedmeglbjmdlhaaGreatDoorTie.lean); close each card by the builder's one call (the guide's Derived/Test/ToyasCard.lean, 'card_holds'). Laid BY PROGRAM, IN A SANDBOX (cutbox-door.mjs). By AI agents, Wed Nov 11 2026. No macro, syntax, notation, axiom, sorry.
-/
import Derived.Test.YtedmeglbjmdlhaaGreatDoorRows
import GoSem.ClaimSeven
namespace Go.Proofs.YtedmeglbjmdlhaaGreatDoor
namespace Rows

/-- THE TIED CARD OF 'tithebarntop.TopFirst'. -/
def topFirstCard : Claim7 := { stood := { row := topFirstRow, standIns := [], harness := (true, "c97910147129ad8b29a81bf79b7d3dfe1754e7ca21dcd0dadd0273f90efd963e"), looks := true }, kinds := [], alts := [], laidByText := true, laidKinds := [.sentinel], laidTests := true, laidLooks := .later }
def TopFirstCardSaid : Prop := Claim7.holds Tryz.pinned (.plain (OpenSpec.ofChange topFirstSpec)) topFirstCard

/-- THE TIED CARD OF 'tithebarntop.TopBack'. -/
def topBackCard : Claim7 := { stood := { row := topBackRow, standIns := [], harness := (true, "c97910147129ad8b29a81bf79b7d3dfe1754e7ca21dcd0dadd0273f90efd963e"), looks := true }, kinds := [], alts := [], laidByText := true, laidKinds := [.sentinel], laidTests := true, laidLooks := .later }
def TopBackCardSaid : Prop := Claim7.holds Tryz.pinned (.plain (OpenSpec.ofChange topBackSpec)) topBackCard

/-- THE TIED CARD OF 'tithebarntop.TopDrains'. -/
def topDrainsCard : Claim7 := { stood := { row := topDrainsRow, standIns := [], harness := (true, "c97910147129ad8b29a81bf79b7d3dfe1754e7ca21dcd0dadd0273f90efd963e"), looks := true }, kinds := [], alts := [], laidByText := true, laidKinds := [.sentinel], laidTests := true, laidLooks := .later }
def TopDrainsCardSaid : Prop := Claim7.holds Tryz.pinned (.plain (OpenSpec.ofChange topDrainsSpec)) topDrainsCard

/-- THE TIED CARD OF 'tithebarntop.TopUsage'. -/
def topUsageCard : Claim7 := { stood := { row := topUsageRow, standIns := [], harness := (true, "c97910147129ad8b29a81bf79b7d3dfe1754e7ca21dcd0dadd0273f90efd963e"), looks := true }, kinds := [], alts := [], laidByText := true, laidKinds := [.sentinel], laidTests := true, laidLooks := .later }
def TopUsageCardSaid : Prop := Claim7.holds Tryz.pinned (.plain (OpenSpec.ofChange topUsageSpec)) topUsageCard

/-- THE TIED CARD OF 'tithebarntop.TopQuiet'. -/
def topQuietCard : Claim7 := { stood := { row := topQuietRow, standIns := [], harness := (true, "c97910147129ad8b29a81bf79b7d3dfe1754e7ca21dcd0dadd0273f90efd963e"), looks := true }, kinds := [], alts := [], laidByText := true, laidKinds := [.sentinel], laidTests := true, laidLooks := .later }
def TopQuietCardSaid : Prop := Claim7.holds Tryz.pinned (.plain (OpenSpec.ofChange topQuietSpec)) topQuietCard

/-- THE TIED CARD OF 'tithebarntop.TopHead'. -/
def topHeadCard : Claim7 := { stood := { row := topHeadRow, standIns := [], harness := (true, "c97910147129ad8b29a81bf79b7d3dfe1754e7ca21dcd0dadd0273f90efd963e"), looks := true }, kinds := [], alts := [], laidByText := true, laidKinds := [.sentinel], laidTests := true, laidLooks := .later }
def TopHeadCardSaid : Prop := Claim7.holds Tryz.pinned (.plain (OpenSpec.ofChange topHeadSpec)) topHeadCard

/-- THE SECOND FORM's CARD OF 'tithebarntop.TopFirst'. -/
def topFirstUptoCard : Claim7 := { stood := { row := topFirstUptoRow, standIns := [], harness := (true, "c97910147129ad8b29a81bf79b7d3dfe1754e7ca21dcd0dadd0273f90efd963e"), looks := true }, kinds := [], alts := [], laidByText := true, laidKinds := [.sentinel], laidTests := true, laidLooks := .later }
def TopFirstUptoCardSaid : Prop := Claim7.holds Tryz.pinned (.plain (OpenSpec.upto topFirstSpec)) topFirstUptoCard

/-- THE SECOND FORM's CARD OF 'tithebarntop.TopBack'. -/
def topBackUptoCard : Claim7 := { stood := { row := topBackUptoRow, standIns := [], harness := (true, "c97910147129ad8b29a81bf79b7d3dfe1754e7ca21dcd0dadd0273f90efd963e"), looks := true }, kinds := [], alts := [], laidByText := true, laidKinds := [.sentinel], laidTests := true, laidLooks := .later }
def TopBackUptoCardSaid : Prop := Claim7.holds Tryz.pinned (.plain (OpenSpec.upto topBackSpec)) topBackUptoCard

/-- THE SECOND FORM's CARD OF 'tithebarntop.TopDrains'. -/
def topDrainsUptoCard : Claim7 := { stood := { row := topDrainsUptoRow, standIns := [], harness := (true, "c97910147129ad8b29a81bf79b7d3dfe1754e7ca21dcd0dadd0273f90efd963e"), looks := true }, kinds := [], alts := [], laidByText := true, laidKinds := [.sentinel], laidTests := true, laidLooks := .later }
def TopDrainsUptoCardSaid : Prop := Claim7.holds Tryz.pinned (.plain (OpenSpec.upto topDrainsSpec)) topDrainsUptoCard

/-- THE SECOND FORM's CARD OF 'tithebarntop.TopUsage'. -/
def topUsageUptoCard : Claim7 := { stood := { row := topUsageUptoRow, standIns := [], harness := (true, "c97910147129ad8b29a81bf79b7d3dfe1754e7ca21dcd0dadd0273f90efd963e"), looks := true }, kinds := [], alts := [], laidByText := true, laidKinds := [.sentinel], laidTests := true, laidLooks := .later }
def TopUsageUptoCardSaid : Prop := Claim7.holds Tryz.pinned (.plain (OpenSpec.upto topUsageSpec)) topUsageUptoCard

/-- THE SECOND FORM's CARD OF 'tithebarntop.TopQuiet'. -/
def topQuietUptoCard : Claim7 := { stood := { row := topQuietUptoRow, standIns := [], harness := (true, "c97910147129ad8b29a81bf79b7d3dfe1754e7ca21dcd0dadd0273f90efd963e"), looks := true }, kinds := [], alts := [], laidByText := true, laidKinds := [.sentinel], laidTests := true, laidLooks := .later }
def TopQuietUptoCardSaid : Prop := Claim7.holds Tryz.pinned (.plain (OpenSpec.upto topQuietSpec)) topQuietUptoCard

/-- THE SECOND FORM's CARD OF 'tithebarntop.TopHead'. -/
def topHeadUptoCard : Claim7 := { stood := { row := topHeadUptoRow, standIns := [], harness := (true, "c97910147129ad8b29a81bf79b7d3dfe1754e7ca21dcd0dadd0273f90efd963e"), looks := true }, kinds := [], alts := [], laidByText := true, laidKinds := [.sentinel], laidTests := true, laidLooks := .later }
def TopHeadUptoCardSaid : Prop := Claim7.holds Tryz.pinned (.plain (OpenSpec.upto topHeadSpec)) topHeadUptoCard
end Rows
end Go.Proofs.YtedmeglbjmdlhaaGreatDoor
