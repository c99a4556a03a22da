/-
  NARROWER THAN 'FOR EVERY INPUT', by the rows' own cells (each row's printed sentence says how): TopFirst: laid · TopBack: laid · TopDrains: laid · TopUsage: laid · TopQuiet: laid · TopHead: laid.
  DERIVED. THE GIVEN ROWS OF THIS SEAT. 6 by the template 'for every input the law returns true; each argument reads behind the call as it read before'; 0 by the template 'total and deterministic' (their statements: YtedmeglbjmdlhaaGreatDoorTotals.lean).
  GIVEN WITH THE SEED: the statements are not yours to turn. If you find one false, say at which input.
  Laid BY PROGRAM, IN A SANDBOX (cutbox-rows.mjs): the forced cells as the released guide's own fill.sh prints them over the translation b7f52fbea1303e43… (all of the seat's roots in one cut). By AI agents, Wed Nov 11 2026. No macro, syntax, notation, axiom, sorry.
-/
import Derived.Test.YtedmeglbjmdlhaaGreatDoorChecked
import GoSem.Claim
import GoSem.ClaimJoined
import GoSem.ClaimMapViews
import Derived.JoinedTies
import Derived.KernelRfl
namespace Go.Proofs.YtedmeglbjmdlhaaGreatDoor
/- THE CELL 'sum', in the pinned program and in every row, IS THE sha256 OF THE DUMP (.gsa) THAT YtedmeglbjmdlhaaGreatDoorProg.lean LOADS. Nothing in Lean hashes anything: it is a label: what it is worth is what the hold of that sum in a sandbox is worth. -/
noncomputable def Tryz.pinned : Pinned := { name := "ytedmeglbjmdlhaagreatdoor", sum := "b7f52fbea1303e4342119a68279192d5e3852f2ff0390b7b168994c8a9dcda4e", checked := Tryz.checked }
namespace Rows
def none {H : Type} : Left H := { results := [], args := [] }

/- WHAT THE LISTED PACKAGE-LEVEL VARIABLES READ AS WHEN THE CALL BEGINS. Each datum BY PROGRAM (the guide's laid-datum.mjs) off the statement by which the dump's own 'gosem.cut.vars' lays the variable. In a bare row this is a premise. The card (YtedmeglbjmdlhaaGreatDoorCards.lean) ties it to the program's text. -/
def laid_tithebarn_store_errBad {H : Type} : DataW H := .iface "*errors.errorString" (.ptr (.agg [.lit (.string [115, 116, 111, 114, 101, 58, 32, 110, 111, 32, 114, 101, 99, 111, 114, 100])]))

/-- 'tithebarntop.TopFirst': WHATEVER THE INPUT: true; the input reads as it did. -/
def topFirstSpec : ChangeSpec := { name := "topFirst", fn := fun _ => fun
  | [d] => { results := [.lit (.bool true)], args := [d] }
  | _ => none }
def topFirstRow : OpenClaim := { program := "ytedmeglbjmdlhaagreatdoor", sum := "b7f52fbea1303e4342119a68279192d5e3852f2ff0390b7b168994c8a9dcda4e", func := "tithebarn/tithebarntop.TopFirst", spec := "topFirst", inPlace := ["slices.overlaps[tithebarn/api.Pending]", "math/bits.Add64", "internal/reflectlite.TypeOf", "internal/abi.NoEscape"], unfollowed := true, recurses := true, named := ["math/bits.divideError", "math/bits.overflowError", "tithebarn/store.errBad"], plainKeys := false, apart := false, laid := [("tithebarn/store.errBad", laid_tithebarn_store_errBad)] }
def TopFirstSaid : Prop := topFirstRow.holds Tryz.pinned (OpenSpec.ofChange topFirstSpec)

/-- ITS FALSE NEIGHBOUR: 'it returns false'. Refute it at one input. -/
def topFirstWrong : ChangeSpec := { name := "topFirst", fn := fun _ => fun
  | [d] => { results := [.lit (.bool false)], args := [d] }
  | _ => none }
def TopFirstWrongFalsely : Prop := topFirstRow.holds Tryz.pinned (OpenSpec.ofChange topFirstWrong)

/-- 'tithebarntop.TopBack': WHATEVER THE INPUT: true; the input reads as it did. -/
def topBackSpec : ChangeSpec := { name := "topBack", fn := fun _ => fun
  | [d] => { results := [.lit (.bool true)], args := [d] }
  | _ => none }
def topBackRow : OpenClaim := { program := "ytedmeglbjmdlhaagreatdoor", sum := "b7f52fbea1303e4342119a68279192d5e3852f2ff0390b7b168994c8a9dcda4e", func := "tithebarn/tithebarntop.TopBack", spec := "topBack", inPlace := ["slices.overlaps[tithebarn/api.Pending]", "math/bits.Add64", "internal/reflectlite.TypeOf", "internal/abi.NoEscape"], unfollowed := true, recurses := true, named := ["math/bits.divideError", "math/bits.overflowError", "tithebarn/store.errBad"], plainKeys := false, apart := false, laid := [("tithebarn/store.errBad", laid_tithebarn_store_errBad)] }
def TopBackSaid : Prop := topBackRow.holds Tryz.pinned (OpenSpec.ofChange topBackSpec)

/-- ITS FALSE NEIGHBOUR: 'it returns false'. Refute it at one input. -/
def topBackWrong : ChangeSpec := { name := "topBack", fn := fun _ => fun
  | [d] => { results := [.lit (.bool false)], args := [d] }
  | _ => none }
def TopBackWrongFalsely : Prop := topBackRow.holds Tryz.pinned (OpenSpec.ofChange topBackWrong)

/-- 'tithebarntop.TopDrains': WHATEVER THE INPUT: true; the input reads as it did. -/
def topDrainsSpec : ChangeSpec := { name := "topDrains", fn := fun _ => fun
  | [d] => { results := [.lit (.bool true)], args := [d] }
  | _ => none }
def topDrainsRow : OpenClaim := { program := "ytedmeglbjmdlhaagreatdoor", sum := "b7f52fbea1303e4342119a68279192d5e3852f2ff0390b7b168994c8a9dcda4e", func := "tithebarn/tithebarntop.TopDrains", spec := "topDrains", inPlace := ["slices.overlaps[tithebarn/api.Pending]", "math/bits.Add64", "internal/reflectlite.TypeOf", "internal/abi.NoEscape"], unfollowed := true, recurses := true, named := ["math/bits.divideError", "math/bits.overflowError", "tithebarn/store.errBad"], plainKeys := false, apart := false, laid := [("tithebarn/store.errBad", laid_tithebarn_store_errBad)] }
def TopDrainsSaid : Prop := topDrainsRow.holds Tryz.pinned (OpenSpec.ofChange topDrainsSpec)

/-- ITS FALSE NEIGHBOUR: 'it returns false'. Refute it at one input. -/
def topDrainsWrong : ChangeSpec := { name := "topDrains", fn := fun _ => fun
  | [d] => { results := [.lit (.bool false)], args := [d] }
  | _ => none }
def TopDrainsWrongFalsely : Prop := topDrainsRow.holds Tryz.pinned (OpenSpec.ofChange topDrainsWrong)

/-- 'tithebarntop.TopUsage': WHATEVER THE INPUT: true; the input reads as it did. -/
def topUsageSpec : ChangeSpec := { name := "topUsage", fn := fun _ => fun
  | [d] => { results := [.lit (.bool true)], args := [d] }
  | _ => none }
def topUsageRow : OpenClaim := { program := "ytedmeglbjmdlhaagreatdoor", sum := "b7f52fbea1303e4342119a68279192d5e3852f2ff0390b7b168994c8a9dcda4e", func := "tithebarn/tithebarntop.TopUsage", spec := "topUsage", inPlace := ["slices.overlaps[tithebarn/api.Pending]", "math/bits.Add64", "internal/reflectlite.TypeOf", "internal/abi.NoEscape"], unfollowed := true, recurses := true, named := ["math/bits.divideError", "math/bits.overflowError", "tithebarn/store.errBad"], plainKeys := false, apart := false, laid := [("tithebarn/store.errBad", laid_tithebarn_store_errBad)] }
def TopUsageSaid : Prop := topUsageRow.holds Tryz.pinned (OpenSpec.ofChange topUsageSpec)

/-- ITS FALSE NEIGHBOUR: 'it returns false'. Refute it at one input. -/
def topUsageWrong : ChangeSpec := { name := "topUsage", fn := fun _ => fun
  | [d] => { results := [.lit (.bool false)], args := [d] }
  | _ => none }
def TopUsageWrongFalsely : Prop := topUsageRow.holds Tryz.pinned (OpenSpec.ofChange topUsageWrong)

/-- 'tithebarntop.TopQuiet': WHATEVER THE INPUT: true; the input reads as it did. -/
def topQuietSpec : ChangeSpec := { name := "topQuiet", fn := fun _ => fun
  | [d] => { results := [.lit (.bool true)], args := [d] }
  | _ => none }
def topQuietRow : OpenClaim := { program := "ytedmeglbjmdlhaagreatdoor", sum := "b7f52fbea1303e4342119a68279192d5e3852f2ff0390b7b168994c8a9dcda4e", func := "tithebarn/tithebarntop.TopQuiet", spec := "topQuiet", inPlace := ["slices.overlaps[tithebarn/api.Pending]", "math/bits.Add64", "internal/reflectlite.TypeOf", "internal/abi.NoEscape"], unfollowed := true, recurses := true, named := ["math/bits.divideError", "math/bits.overflowError", "tithebarn/store.errBad"], plainKeys := false, apart := false, laid := [("tithebarn/store.errBad", laid_tithebarn_store_errBad)] }
def TopQuietSaid : Prop := topQuietRow.holds Tryz.pinned (OpenSpec.ofChange topQuietSpec)

/-- ITS FALSE NEIGHBOUR: 'it returns false'. Refute it at one input. -/
def topQuietWrong : ChangeSpec := { name := "topQuiet", fn := fun _ => fun
  | [d] => { results := [.lit (.bool false)], args := [d] }
  | _ => none }
def TopQuietWrongFalsely : Prop := topQuietRow.holds Tryz.pinned (OpenSpec.ofChange topQuietWrong)

/-- 'tithebarntop.TopHead': WHATEVER THE INPUT: true; the input reads as it did. -/
def topHeadSpec : ChangeSpec := { name := "topHead", fn := fun _ => fun
  | [d] => { results := [.lit (.bool true)], args := [d] }
  | _ => none }
def topHeadRow : OpenClaim := { program := "ytedmeglbjmdlhaagreatdoor", sum := "b7f52fbea1303e4342119a68279192d5e3852f2ff0390b7b168994c8a9dcda4e", func := "tithebarn/tithebarntop.TopHead", spec := "topHead", inPlace := ["slices.overlaps[tithebarn/api.Pending]", "math/bits.Add64", "internal/reflectlite.TypeOf", "internal/abi.NoEscape"], unfollowed := true, recurses := true, named := ["math/bits.divideError", "math/bits.overflowError", "tithebarn/store.errBad"], plainKeys := false, apart := false, laid := [("tithebarn/store.errBad", laid_tithebarn_store_errBad)] }
def TopHeadSaid : Prop := topHeadRow.holds Tryz.pinned (OpenSpec.ofChange topHeadSpec)

/-- ITS FALSE NEIGHBOUR: 'it returns false'. Refute it at one input. -/
def topHeadWrong : ChangeSpec := { name := "topHead", fn := fun _ => fun
  | [d] => { results := [.lit (.bool false)], args := [d] }
  | _ => none }
def TopHeadWrongFalsely : Prop := topHeadRow.holds Tryz.pinned (OpenSpec.ofChange topHeadWrong)

/- THE SECOND FORM. 'bulk': how many values and letters a reading holds, each counted each time it is reached (what is shared counts as often as it is met; a slice's spare places count too). A statement '..UptoSaid' is the law's where the arguments, and the package variables that the reading takes, are together of bulk at most 1048576: NARROWER than '..Said'. Prove '..Said' where nothing that the law and all that it calls make is longer than what came in: it says more and counts as full. Else prove '..UptoSaid'. A law counts once. -/
mutual
def uptoBulk {H : Type} : DataW H → Nat
  | .lit (.string bytes) => bytes.length + 1
  | .lit _ => 1
  | .nil => 1
  | .ptr d => uptoBulk d + 1
  | .slice elems spare => uptoBulkAll elems + uptoBulkAll spare + 1
  | .agg parts => uptoBulkAll parts + 1
  | .iface _ d => uptoBulk d + 1
  | .map entries => uptoBulkEntries entries + 1
  | .held _ => 1
def uptoBulkAll {H : Type} : List (DataW H) → Nat
  | [] => 0
  | d :: r => uptoBulk d + uptoBulkAll r
def uptoBulkEntries {H : Type} : List (Lit × DataW H) → Nat
  | [] => 0
  | x :: r => uptoBulkEntry x + uptoBulkEntries r
def uptoBulkEntry {H : Type} : Lit × DataW H → Nat
  | (.string bytes, d) => bytes.length + uptoBulk d + 1
  | (_, d) => uptoBulk d + 1
 end
def uptoSmall : (H : Type) → List (DataW H) → Bool := fun _ ds => decide (uptoBulkAll ds ≤ 1048576)
def OpenSpec.upto (s : _root_.Go.ChangeSpec) : _root_.Go.OpenSpec := { _root_.Go.OpenSpec.ofChange s with cond := some uptoSmall }

/-- 'tithebarntop.TopFirst', WHERE WHAT IT READS IS OF BULK AT MOST 1048576: true; the input reads as it did. -/
def topFirstUptoRow : OpenClaim := { program := "ytedmeglbjmdlhaagreatdoor", sum := "b7f52fbea1303e4342119a68279192d5e3852f2ff0390b7b168994c8a9dcda4e", func := "tithebarn/tithebarntop.TopFirst", spec := "topFirst", inPlace := ["slices.overlaps[tithebarn/api.Pending]", "math/bits.Add64", "internal/reflectlite.TypeOf", "internal/abi.NoEscape"], unfollowed := true, recurses := true, named := ["math/bits.divideError", "math/bits.overflowError", "tithebarn/store.errBad"], plainKeys := false, apart := false, laid := [("tithebarn/store.errBad", laid_tithebarn_store_errBad)], narrowed := true }
def TopFirstUptoSaid : Prop := topFirstUptoRow.holds Tryz.pinned (OpenSpec.upto topFirstSpec)

/-- 'tithebarntop.TopBack', WHERE WHAT IT READS IS OF BULK AT MOST 1048576: true; the input reads as it did. -/
def topBackUptoRow : OpenClaim := { program := "ytedmeglbjmdlhaagreatdoor", sum := "b7f52fbea1303e4342119a68279192d5e3852f2ff0390b7b168994c8a9dcda4e", func := "tithebarn/tithebarntop.TopBack", spec := "topBack", inPlace := ["slices.overlaps[tithebarn/api.Pending]", "math/bits.Add64", "internal/reflectlite.TypeOf", "internal/abi.NoEscape"], unfollowed := true, recurses := true, named := ["math/bits.divideError", "math/bits.overflowError", "tithebarn/store.errBad"], plainKeys := false, apart := false, laid := [("tithebarn/store.errBad", laid_tithebarn_store_errBad)], narrowed := true }
def TopBackUptoSaid : Prop := topBackUptoRow.holds Tryz.pinned (OpenSpec.upto topBackSpec)

/-- 'tithebarntop.TopDrains', WHERE WHAT IT READS IS OF BULK AT MOST 1048576: true; the input reads as it did. -/
def topDrainsUptoRow : OpenClaim := { program := "ytedmeglbjmdlhaagreatdoor", sum := "b7f52fbea1303e4342119a68279192d5e3852f2ff0390b7b168994c8a9dcda4e", func := "tithebarn/tithebarntop.TopDrains", spec := "topDrains", inPlace := ["slices.overlaps[tithebarn/api.Pending]", "math/bits.Add64", "internal/reflectlite.TypeOf", "internal/abi.NoEscape"], unfollowed := true, recurses := true, named := ["math/bits.divideError", "math/bits.overflowError", "tithebarn/store.errBad"], plainKeys := false, apart := false, laid := [("tithebarn/store.errBad", laid_tithebarn_store_errBad)], narrowed := true }
def TopDrainsUptoSaid : Prop := topDrainsUptoRow.holds Tryz.pinned (OpenSpec.upto topDrainsSpec)

/-- 'tithebarntop.TopUsage', WHERE WHAT IT READS IS OF BULK AT MOST 1048576: true; the input reads as it did. -/
def topUsageUptoRow : OpenClaim := { program := "ytedmeglbjmdlhaagreatdoor", sum := "b7f52fbea1303e4342119a68279192d5e3852f2ff0390b7b168994c8a9dcda4e", func := "tithebarn/tithebarntop.TopUsage", spec := "topUsage", inPlace := ["slices.overlaps[tithebarn/api.Pending]", "math/bits.Add64", "internal/reflectlite.TypeOf", "internal/abi.NoEscape"], unfollowed := true, recurses := true, named := ["math/bits.divideError", "math/bits.overflowError", "tithebarn/store.errBad"], plainKeys := false, apart := false, laid := [("tithebarn/store.errBad", laid_tithebarn_store_errBad)], narrowed := true }
def TopUsageUptoSaid : Prop := topUsageUptoRow.holds Tryz.pinned (OpenSpec.upto topUsageSpec)

/-- 'tithebarntop.TopQuiet', WHERE WHAT IT READS IS OF BULK AT MOST 1048576: true; the input reads as it did. -/
def topQuietUptoRow : OpenClaim := { program := "ytedmeglbjmdlhaagreatdoor", sum := "b7f52fbea1303e4342119a68279192d5e3852f2ff0390b7b168994c8a9dcda4e", func := "tithebarn/tithebarntop.TopQuiet", spec := "topQuiet", inPlace := ["slices.overlaps[tithebarn/api.Pending]", "math/bits.Add64", "internal/reflectlite.TypeOf", "internal/abi.NoEscape"], unfollowed := true, recurses := true, named := ["math/bits.divideError", "math/bits.overflowError", "tithebarn/store.errBad"], plainKeys := false, apart := false, laid := [("tithebarn/store.errBad", laid_tithebarn_store_errBad)], narrowed := true }
def TopQuietUptoSaid : Prop := topQuietUptoRow.holds Tryz.pinned (OpenSpec.upto topQuietSpec)

/-- 'tithebarntop.TopHead', WHERE WHAT IT READS IS OF BULK AT MOST 1048576: true; the input reads as it did. -/
def topHeadUptoRow : OpenClaim := { program := "ytedmeglbjmdlhaagreatdoor", sum := "b7f52fbea1303e4342119a68279192d5e3852f2ff0390b7b168994c8a9dcda4e", func := "tithebarn/tithebarntop.TopHead", spec := "topHead", inPlace := ["slices.overlaps[tithebarn/api.Pending]", "math/bits.Add64", "internal/reflectlite.TypeOf", "internal/abi.NoEscape"], unfollowed := true, recurses := true, named := ["math/bits.divideError", "math/bits.overflowError", "tithebarn/store.errBad"], plainKeys := false, apart := false, laid := [("tithebarn/store.errBad", laid_tithebarn_store_errBad)], narrowed := true }
def TopHeadUptoSaid : Prop := topHeadUptoRow.holds Tryz.pinned (OpenSpec.upto topHeadSpec)

end Rows
end Go.Proofs.YtedmeglbjmdlhaaGreatDoor
