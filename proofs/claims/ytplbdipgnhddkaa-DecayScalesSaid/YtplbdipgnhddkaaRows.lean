/-
  No cell of these rows narrows 'for every input' (looked for: loops, veiled, ifaces, maps, wideKeys, modest, calm, conditions, laid).
  DERIVED. THE GIVEN ROWS OF THIS SEAT. 15 by the template 'for every input the law returns true; each argument reads behind the call as it read before'; 0 by the template 'total and deterministic' (their statements: YtplbdipgnhddkaaTotals.lean).
  GIVEN WITH THE SEED: the statements are not yours to turn. If you find one false, say at which input.
  Laid BY PROGRAM, IN A SANDBOX (cutbox-rows.mjs): the forced cells as the released guide's own fill.sh prints them over the translation 57d3b4f70ffd6e77… (all of the seat's roots in one cut). By AI agents, Wed Nov 11 2026. No macro, syntax, notation, axiom, sorry.
-/
import Derived.Test.YtplbdipgnhddkaaChecked
import GoSem.Claim
import GoSem.ClaimJoined
import GoSem.ClaimMapViews
import Derived.JoinedTies
import Derived.KernelRfl
namespace Go.Proofs.Ytplbdipgnhddkaa
/- THE CELL 'sum', in the pinned program and in every row, IS THE sha256 OF THE DUMP (.gsa) THAT YtplbdipgnhddkaaProg.lean LOADS. Nothing in Lean hashes anything: it is a label: what it is worth is what the hold of that sum in a sandbox is worth. -/
noncomputable def Try.pinned : Pinned := { name := "ytplbdipgnhddkaa", sum := "57d3b4f70ffd6e77e8e28f9289baa05855716e3d4ba22436c61674f64dad1de5", checked := Try.checked }
namespace Rows
def none {H : Type} : Left H := { results := [], args := [] }

/-- 'tithebarnlaw03.VecDominant': WHATEVER THE INPUT: true; the input reads as it did. -/
def vecDominantSpec : ChangeSpec := { name := "vecDominant", fn := fun _ => fun
  | [d1, d2] => { results := [.lit (.bool true)], args := [d1, d2] }
  | _ => none }
def vecDominantRow : OpenClaim := { program := "ytplbdipgnhddkaa", sum := "57d3b4f70ffd6e77e8e28f9289baa05855716e3d4ba22436c61674f64dad1de5", func := "tithebarn/tithebarnlaw03.VecDominant", spec := "vecDominant", unfollowed := true, recurses := true, named := ["math/bits.divideError", "math/bits.overflowError"], apart := false }
def VecDominantSaid : Prop := vecDominantRow.holds Try.pinned (OpenSpec.ofChange vecDominantSpec)

/-- ITS FALSE NEIGHBOUR: 'it returns false'. Refute it at one input. -/
def vecDominantWrong : ChangeSpec := { name := "vecDominant", fn := fun _ => fun
  | [d1, d2] => { results := [.lit (.bool false)], args := [d1, d2] }
  | _ => none }
def VecDominantWrongFalsely : Prop := vecDominantRow.holds Try.pinned (OpenSpec.ofChange vecDominantWrong)

/-- 'tithebarnlaw03.VecOrder': WHATEVER THE INPUT: true; the input reads as it did. -/
def vecOrderSpec : ChangeSpec := { name := "vecOrder", fn := fun _ => fun
  | [d1, d2, d3] => { results := [.lit (.bool true)], args := [d1, d2, d3] }
  | _ => none }
def vecOrderRow : OpenClaim := { program := "ytplbdipgnhddkaa", sum := "57d3b4f70ffd6e77e8e28f9289baa05855716e3d4ba22436c61674f64dad1de5", func := "tithebarn/tithebarnlaw03.VecOrder", spec := "vecOrder", unfollowed := true, recurses := true, named := ["math/bits.divideError", "math/bits.overflowError"], apart := false }
def VecOrderSaid : Prop := vecOrderRow.holds Try.pinned (OpenSpec.ofChange vecOrderSpec)

/-- ITS FALSE NEIGHBOUR: 'it returns false'. Refute it at one input. -/
def vecOrderWrong : ChangeSpec := { name := "vecOrder", fn := fun _ => fun
  | [d1, d2, d3] => { results := [.lit (.bool false)], args := [d1, d2, d3] }
  | _ => none }
def VecOrderWrongFalsely : Prop := vecOrderRow.holds Try.pinned (OpenSpec.ofChange vecOrderWrong)

/-- 'tithebarnlaw03.VecSums': WHATEVER THE INPUT: true; the input reads as it did. -/
def vecSumsSpec : ChangeSpec := { name := "vecSums", fn := fun _ => fun
  | [d1, d2] => { results := [.lit (.bool true)], args := [d1, d2] }
  | _ => none }
def vecSumsRow : OpenClaim := { program := "ytplbdipgnhddkaa", sum := "57d3b4f70ffd6e77e8e28f9289baa05855716e3d4ba22436c61674f64dad1de5", func := "tithebarn/tithebarnlaw03.VecSums", spec := "vecSums", unfollowed := true, recurses := true, named := ["math/bits.divideError", "math/bits.overflowError"], apart := false }
def VecSumsSaid : Prop := vecSumsRow.holds Try.pinned (OpenSpec.ofChange vecSumsSpec)

/-- ITS FALSE NEIGHBOUR: 'it returns false'. Refute it at one input. -/
def vecSumsWrong : ChangeSpec := { name := "vecSums", fn := fun _ => fun
  | [d1, d2] => { results := [.lit (.bool false)], args := [d1, d2] }
  | _ => none }
def VecSumsWrongFalsely : Prop := vecSumsRow.holds Try.pinned (OpenSpec.ofChange vecSumsWrong)

/-- 'tithebarnlaw03.VecBack': WHATEVER THE INPUT: true; the input reads as it did. -/
def vecBackSpec : ChangeSpec := { name := "vecBack", fn := fun _ => fun
  | [d1, d2] => { results := [.lit (.bool true)], args := [d1, d2] }
  | _ => none }
def vecBackRow : OpenClaim := { program := "ytplbdipgnhddkaa", sum := "57d3b4f70ffd6e77e8e28f9289baa05855716e3d4ba22436c61674f64dad1de5", func := "tithebarn/tithebarnlaw03.VecBack", spec := "vecBack", unfollowed := true, recurses := true, named := ["math/bits.divideError", "math/bits.overflowError"], apart := false }
def VecBackSaid : Prop := vecBackRow.holds Try.pinned (OpenSpec.ofChange vecBackSpec)

/-- ITS FALSE NEIGHBOUR: 'it returns false'. Refute it at one input. -/
def vecBackWrong : ChangeSpec := { name := "vecBack", fn := fun _ => fun
  | [d1, d2] => { results := [.lit (.bool false)], args := [d1, d2] }
  | _ => none }
def VecBackWrongFalsely : Prop := vecBackRow.holds Try.pinned (OpenSpec.ofChange vecBackWrong)

/-- 'tithebarnlaw02.DecayFactors': WHATEVER THE INPUT: true; the input reads as it did. -/
def decayFactorsSpec : ChangeSpec := { name := "decayFactors", fn := fun _ => fun
  | [d1, d2] => { results := [.lit (.bool true)], args := [d1, d2] }
  | _ => none }
def decayFactorsRow : OpenClaim := { program := "ytplbdipgnhddkaa", sum := "57d3b4f70ffd6e77e8e28f9289baa05855716e3d4ba22436c61674f64dad1de5", func := "tithebarn/tithebarnlaw02.DecayFactors", spec := "decayFactors", named := ["math/bits.divideError", "math/bits.overflowError"], apart := false }
def DecayFactorsSaid : Prop := decayFactorsRow.holds Try.pinned (OpenSpec.ofChange decayFactorsSpec)

/-- ITS FALSE NEIGHBOUR: 'it returns false'. Refute it at one input. -/
def decayFactorsWrong : ChangeSpec := { name := "decayFactors", fn := fun _ => fun
  | [d1, d2] => { results := [.lit (.bool false)], args := [d1, d2] }
  | _ => none }
def DecayFactorsWrongFalsely : Prop := decayFactorsRow.holds Try.pinned (OpenSpec.ofChange decayFactorsWrong)

/-- 'tithebarnlaw02.DecayTable': WHATEVER THE INPUT: true; the input reads as it did. -/
def decayTableSpec : ChangeSpec := { name := "decayTable", fn := fun _ => fun
  | [d] => { results := [.lit (.bool true)], args := [d] }
  | _ => none }
def decayTableRow : OpenClaim := { program := "ytplbdipgnhddkaa", sum := "57d3b4f70ffd6e77e8e28f9289baa05855716e3d4ba22436c61674f64dad1de5", func := "tithebarn/tithebarnlaw02.DecayTable", spec := "decayTable", named := ["math/bits.divideError", "math/bits.overflowError"], apart := false }
def DecayTableSaid : Prop := decayTableRow.holds Try.pinned (OpenSpec.ofChange decayTableSpec)

/-- ITS FALSE NEIGHBOUR: 'it returns false'. Refute it at one input. -/
def decayTableWrong : ChangeSpec := { name := "decayTable", fn := fun _ => fun
  | [d] => { results := [.lit (.bool false)], args := [d] }
  | _ => none }
def DecayTableWrongFalsely : Prop := decayTableRow.holds Try.pinned (OpenSpec.ofChange decayTableWrong)

/-- 'tithebarnlaw02.DecayScales': WHATEVER THE INPUT: true; the input reads as it did. -/
def decayScalesSpec : ChangeSpec := { name := "decayScales", fn := fun _ => fun
  | [d1, d2, d3] => { results := [.lit (.bool true)], args := [d1, d2, d3] }
  | _ => none }
def decayScalesRow : OpenClaim := { program := "ytplbdipgnhddkaa", sum := "57d3b4f70ffd6e77e8e28f9289baa05855716e3d4ba22436c61674f64dad1de5", func := "tithebarn/tithebarnlaw02.DecayScales", spec := "decayScales", named := ["math/bits.divideError", "math/bits.overflowError"], apart := false }
def DecayScalesSaid : Prop := decayScalesRow.holds Try.pinned (OpenSpec.ofChange decayScalesSpec)

/-- ITS FALSE NEIGHBOUR: 'it returns false'. Refute it at one input. -/
def decayScalesWrong : ChangeSpec := { name := "decayScales", fn := fun _ => fun
  | [d1, d2, d3] => { results := [.lit (.bool false)], args := [d1, d2, d3] }
  | _ => none }
def DecayScalesWrongFalsely : Prop := decayScalesRow.holds Try.pinned (OpenSpec.ofChange decayScalesWrong)

/-- 'tithebarnlaw03.VecTimes': WHATEVER THE INPUT: true; the input reads as it did. -/
def vecTimesSpec : ChangeSpec := { name := "vecTimes", fn := fun _ => fun
  | [d1, d2] => { results := [.lit (.bool true)], args := [d1, d2] }
  | _ => none }
def vecTimesRow : OpenClaim := { program := "ytplbdipgnhddkaa", sum := "57d3b4f70ffd6e77e8e28f9289baa05855716e3d4ba22436c61674f64dad1de5", func := "tithebarn/tithebarnlaw03.VecTimes", spec := "vecTimes", unfollowed := true, recurses := true, named := ["math/bits.divideError", "math/bits.overflowError"], apart := false }
def VecTimesSaid : Prop := vecTimesRow.holds Try.pinned (OpenSpec.ofChange vecTimesSpec)

/-- ITS FALSE NEIGHBOUR: 'it returns false'. Refute it at one input. -/
def vecTimesWrong : ChangeSpec := { name := "vecTimes", fn := fun _ => fun
  | [d1, d2] => { results := [.lit (.bool false)], args := [d1, d2] }
  | _ => none }
def VecTimesWrongFalsely : Prop := vecTimesRow.holds Try.pinned (OpenSpec.ofChange vecTimesWrong)

/-- 'tithebarnlaw02.DecayApplies': WHATEVER THE INPUT: true; the input reads as it did. -/
def decayAppliesSpec : ChangeSpec := { name := "decayApplies", fn := fun _ => fun
  | [d1, d2, d3] => { results := [.lit (.bool true)], args := [d1, d2, d3] }
  | _ => none }
def decayAppliesRow : OpenClaim := { program := "ytplbdipgnhddkaa", sum := "57d3b4f70ffd6e77e8e28f9289baa05855716e3d4ba22436c61674f64dad1de5", func := "tithebarn/tithebarnlaw02.DecayApplies", spec := "decayApplies", named := ["math/bits.divideError", "math/bits.overflowError"], apart := false }
def DecayAppliesSaid : Prop := decayAppliesRow.holds Try.pinned (OpenSpec.ofChange decayAppliesSpec)

/-- ITS FALSE NEIGHBOUR: 'it returns false'. Refute it at one input. -/
def decayAppliesWrong : ChangeSpec := { name := "decayApplies", fn := fun _ => fun
  | [d1, d2, d3] => { results := [.lit (.bool false)], args := [d1, d2, d3] }
  | _ => none }
def DecayAppliesWrongFalsely : Prop := decayAppliesRow.holds Try.pinned (OpenSpec.ofChange decayAppliesWrong)

/-- 'tithebarnlaw02.DecayHalves': WHATEVER THE INPUT: true; the input reads as it did. -/
def decayHalvesSpec : ChangeSpec := { name := "decayHalves", fn := fun _ => fun
  | [d1, d2, d3] => { results := [.lit (.bool true)], args := [d1, d2, d3] }
  | _ => none }
def decayHalvesRow : OpenClaim := { program := "ytplbdipgnhddkaa", sum := "57d3b4f70ffd6e77e8e28f9289baa05855716e3d4ba22436c61674f64dad1de5", func := "tithebarn/tithebarnlaw02.DecayHalves", spec := "decayHalves", named := ["math/bits.divideError", "math/bits.overflowError"], apart := false }
def DecayHalvesSaid : Prop := decayHalvesRow.holds Try.pinned (OpenSpec.ofChange decayHalvesSpec)

/-- ITS FALSE NEIGHBOUR: 'it returns false'. Refute it at one input. -/
def decayHalvesWrong : ChangeSpec := { name := "decayHalves", fn := fun _ => fun
  | [d1, d2, d3] => { results := [.lit (.bool false)], args := [d1, d2, d3] }
  | _ => none }
def DecayHalvesWrongFalsely : Prop := decayHalvesRow.holds Try.pinned (OpenSpec.ofChange decayHalvesWrong)

/-- 'tithebarnlaw01.FixptProducts': WHATEVER THE INPUT: true; the input reads as it did. -/
def fixptProductsSpec : ChangeSpec := { name := "fixptProducts", fn := fun _ => fun
  | [d1, d2] => { results := [.lit (.bool true)], args := [d1, d2] }
  | _ => none }
def fixptProductsRow : OpenClaim := { program := "ytplbdipgnhddkaa", sum := "57d3b4f70ffd6e77e8e28f9289baa05855716e3d4ba22436c61674f64dad1de5", func := "tithebarn/tithebarnlaw01.FixptProducts", spec := "fixptProducts", inPlace := ["math/bits.Sub64", "math/bits.Add64"], named := ["math/bits.divideError", "math/bits.overflowError"], apart := false }
def FixptProductsSaid : Prop := fixptProductsRow.holds Try.pinned (OpenSpec.ofChange fixptProductsSpec)

/-- ITS FALSE NEIGHBOUR: 'it returns false'. Refute it at one input. -/
def fixptProductsWrong : ChangeSpec := { name := "fixptProducts", fn := fun _ => fun
  | [d1, d2] => { results := [.lit (.bool false)], args := [d1, d2] }
  | _ => none }
def FixptProductsWrongFalsely : Prop := fixptProductsRow.holds Try.pinned (OpenSpec.ofChange fixptProductsWrong)

/-- 'tithebarnlaw01.FixptWholes': WHATEVER THE INPUT: true; the input reads as it did. -/
def fixptWholesSpec : ChangeSpec := { name := "fixptWholes", fn := fun _ => fun
  | [d1, d2, d3] => { results := [.lit (.bool true)], args := [d1, d2, d3] }
  | _ => none }
def fixptWholesRow : OpenClaim := { program := "ytplbdipgnhddkaa", sum := "57d3b4f70ffd6e77e8e28f9289baa05855716e3d4ba22436c61674f64dad1de5", func := "tithebarn/tithebarnlaw01.FixptWholes", spec := "fixptWholes", inPlace := ["math/bits.Sub64", "math/bits.Add64"], named := ["math/bits.divideError", "math/bits.overflowError"], apart := false }
def FixptWholesSaid : Prop := fixptWholesRow.holds Try.pinned (OpenSpec.ofChange fixptWholesSpec)

/-- ITS FALSE NEIGHBOUR: 'it returns false'. Refute it at one input. -/
def fixptWholesWrong : ChangeSpec := { name := "fixptWholes", fn := fun _ => fun
  | [d1, d2, d3] => { results := [.lit (.bool false)], args := [d1, d2, d3] }
  | _ => none }
def FixptWholesWrongFalsely : Prop := fixptWholesRow.holds Try.pinned (OpenSpec.ofChange fixptWholesWrong)

/-- 'tithebarnlaw01.FixptOne': WHATEVER THE INPUT: true; the input reads as it did. -/
def fixptOneSpec : ChangeSpec := { name := "fixptOne", fn := fun _ => fun
  | [d1, d2] => { results := [.lit (.bool true)], args := [d1, d2] }
  | _ => none }
def fixptOneRow : OpenClaim := { program := "ytplbdipgnhddkaa", sum := "57d3b4f70ffd6e77e8e28f9289baa05855716e3d4ba22436c61674f64dad1de5", func := "tithebarn/tithebarnlaw01.FixptOne", spec := "fixptOne", inPlace := ["math/bits.Add64", "math/bits.Sub64"], named := ["math/bits.divideError", "math/bits.overflowError"], apart := false }
def FixptOneSaid : Prop := fixptOneRow.holds Try.pinned (OpenSpec.ofChange fixptOneSpec)

/-- ITS FALSE NEIGHBOUR: 'it returns false'. Refute it at one input. -/
def fixptOneWrong : ChangeSpec := { name := "fixptOne", fn := fun _ => fun
  | [d1, d2] => { results := [.lit (.bool false)], args := [d1, d2] }
  | _ => none }
def FixptOneWrongFalsely : Prop := fixptOneRow.holds Try.pinned (OpenSpec.ofChange fixptOneWrong)

/-- 'tithebarnlaw01.FixptOrder': WHATEVER THE INPUT: true; the input reads as it did. -/
def fixptOrderSpec : ChangeSpec := { name := "fixptOrder", fn := fun _ => fun
  | [d1, d2, d3] => { results := [.lit (.bool true)], args := [d1, d2, d3] }
  | _ => none }
def fixptOrderRow : OpenClaim := { program := "ytplbdipgnhddkaa", sum := "57d3b4f70ffd6e77e8e28f9289baa05855716e3d4ba22436c61674f64dad1de5", func := "tithebarn/tithebarnlaw01.FixptOrder", spec := "fixptOrder", inPlace := ["math/bits.Add64", "math/bits.Sub64"], named := ["math/bits.divideError", "math/bits.overflowError"], apart := false }
def FixptOrderSaid : Prop := fixptOrderRow.holds Try.pinned (OpenSpec.ofChange fixptOrderSpec)

/-- ITS FALSE NEIGHBOUR: 'it returns false'. Refute it at one input. -/
def fixptOrderWrong : ChangeSpec := { name := "fixptOrder", fn := fun _ => fun
  | [d1, d2, d3] => { results := [.lit (.bool false)], args := [d1, d2, d3] }
  | _ => none }
def FixptOrderWrongFalsely : Prop := fixptOrderRow.holds Try.pinned (OpenSpec.ofChange fixptOrderWrong)

/-- 'tithebarnlaw01.FixptSums': WHATEVER THE INPUT: true; the input reads as it did. -/
def fixptSumsSpec : ChangeSpec := { name := "fixptSums", fn := fun _ => fun
  | [d1, d2] => { results := [.lit (.bool true)], args := [d1, d2] }
  | _ => none }
def fixptSumsRow : OpenClaim := { program := "ytplbdipgnhddkaa", sum := "57d3b4f70ffd6e77e8e28f9289baa05855716e3d4ba22436c61674f64dad1de5", func := "tithebarn/tithebarnlaw01.FixptSums", spec := "fixptSums", inPlace := ["math/bits.Add64", "math/bits.Sub64"], named := ["math/bits.divideError", "math/bits.overflowError"], apart := false }
def FixptSumsSaid : Prop := fixptSumsRow.holds Try.pinned (OpenSpec.ofChange fixptSumsSpec)

/-- ITS FALSE NEIGHBOUR: 'it returns false'. Refute it at one input. -/
def fixptSumsWrong : ChangeSpec := { name := "fixptSums", fn := fun _ => fun
  | [d1, d2] => { results := [.lit (.bool false)], args := [d1, d2] }
  | _ => none }
def FixptSumsWrongFalsely : Prop := fixptSumsRow.holds Try.pinned (OpenSpec.ofChange fixptSumsWrong)

/- THE SECOND FORM. 'bulk': how many values and letters a reading holds, each counted each time it is reached (what is shared counts as often as it is met; a slice's spare places count too). A statement '..UptoSaid' is the law's where the arguments, and the package variables that the reading takes, are together of bulk at most 1048576: NARROWER than '..Said'. Prove '..Said' where nothing that the law and all that it calls make is longer than what came in: it says more and counts as full. Else prove '..UptoSaid'. A law counts once. -/
mutual
def uptoBulk {H : Type} : DataW H → Nat
  | .lit (.string bytes) => bytes.length + 1
  | .lit _ => 1
  | .nil => 1
  | .ptr d => uptoBulk d + 1
  | .slice elems spare => uptoBulkAll elems + uptoBulkAll spare + 1
  | .agg parts => uptoBulkAll parts + 1
  | .iface _ d => uptoBulk d + 1
  | .map entries => uptoBulkEntries entries + 1
  | .held _ => 1
def uptoBulkAll {H : Type} : List (DataW H) → Nat
  | [] => 0
  | d :: r => uptoBulk d + uptoBulkAll r
def uptoBulkEntries {H : Type} : List (Lit × DataW H) → Nat
  | [] => 0
  | x :: r => uptoBulkEntry x + uptoBulkEntries r
def uptoBulkEntry {H : Type} : Lit × DataW H → Nat
  | (.string bytes, d) => bytes.length + uptoBulk d + 1
  | (_, d) => uptoBulk d + 1
 end
def uptoSmall : (H : Type) → List (DataW H) → Bool := fun _ ds => decide (uptoBulkAll ds ≤ 1048576)
def OpenSpec.upto (s : _root_.Go.ChangeSpec) : _root_.Go.OpenSpec := { _root_.Go.OpenSpec.ofChange s with cond := some uptoSmall }

/-- 'tithebarnlaw03.VecDominant', WHERE WHAT IT READS IS OF BULK AT MOST 1048576: true; the input reads as it did. -/
def vecDominantUptoRow : OpenClaim := { program := "ytplbdipgnhddkaa", sum := "57d3b4f70ffd6e77e8e28f9289baa05855716e3d4ba22436c61674f64dad1de5", func := "tithebarn/tithebarnlaw03.VecDominant", spec := "vecDominant", unfollowed := true, recurses := true, named := ["math/bits.divideError", "math/bits.overflowError"], apart := false, narrowed := true }
def VecDominantUptoSaid : Prop := vecDominantUptoRow.holds Try.pinned (OpenSpec.upto vecDominantSpec)

/-- 'tithebarnlaw03.VecOrder', WHERE WHAT IT READS IS OF BULK AT MOST 1048576: true; the input reads as it did. -/
def vecOrderUptoRow : OpenClaim := { program := "ytplbdipgnhddkaa", sum := "57d3b4f70ffd6e77e8e28f9289baa05855716e3d4ba22436c61674f64dad1de5", func := "tithebarn/tithebarnlaw03.VecOrder", spec := "vecOrder", unfollowed := true, recurses := true, named := ["math/bits.divideError", "math/bits.overflowError"], apart := false, narrowed := true }
def VecOrderUptoSaid : Prop := vecOrderUptoRow.holds Try.pinned (OpenSpec.upto vecOrderSpec)

/-- 'tithebarnlaw03.VecSums', WHERE WHAT IT READS IS OF BULK AT MOST 1048576: true; the input reads as it did. -/
def vecSumsUptoRow : OpenClaim := { program := "ytplbdipgnhddkaa", sum := "57d3b4f70ffd6e77e8e28f9289baa05855716e3d4ba22436c61674f64dad1de5", func := "tithebarn/tithebarnlaw03.VecSums", spec := "vecSums", unfollowed := true, recurses := true, named := ["math/bits.divideError", "math/bits.overflowError"], apart := false, narrowed := true }
def VecSumsUptoSaid : Prop := vecSumsUptoRow.holds Try.pinned (OpenSpec.upto vecSumsSpec)

/-- 'tithebarnlaw03.VecBack', WHERE WHAT IT READS IS OF BULK AT MOST 1048576: true; the input reads as it did. -/
def vecBackUptoRow : OpenClaim := { program := "ytplbdipgnhddkaa", sum := "57d3b4f70ffd6e77e8e28f9289baa05855716e3d4ba22436c61674f64dad1de5", func := "tithebarn/tithebarnlaw03.VecBack", spec := "vecBack", unfollowed := true, recurses := true, named := ["math/bits.divideError", "math/bits.overflowError"], apart := false, narrowed := true }
def VecBackUptoSaid : Prop := vecBackUptoRow.holds Try.pinned (OpenSpec.upto vecBackSpec)

/-- 'tithebarnlaw02.DecayFactors', WHERE WHAT IT READS IS OF BULK AT MOST 1048576: true; the input reads as it did. -/
def decayFactorsUptoRow : OpenClaim := { program := "ytplbdipgnhddkaa", sum := "57d3b4f70ffd6e77e8e28f9289baa05855716e3d4ba22436c61674f64dad1de5", func := "tithebarn/tithebarnlaw02.DecayFactors", spec := "decayFactors", named := ["math/bits.divideError", "math/bits.overflowError"], apart := false, narrowed := true }
def DecayFactorsUptoSaid : Prop := decayFactorsUptoRow.holds Try.pinned (OpenSpec.upto decayFactorsSpec)

/-- 'tithebarnlaw02.DecayTable', WHERE WHAT IT READS IS OF BULK AT MOST 1048576: true; the input reads as it did. -/
def decayTableUptoRow : OpenClaim := { program := "ytplbdipgnhddkaa", sum := "57d3b4f70ffd6e77e8e28f9289baa05855716e3d4ba22436c61674f64dad1de5", func := "tithebarn/tithebarnlaw02.DecayTable", spec := "decayTable", named := ["math/bits.divideError", "math/bits.overflowError"], apart := false, narrowed := true }
def DecayTableUptoSaid : Prop := decayTableUptoRow.holds Try.pinned (OpenSpec.upto decayTableSpec)

/-- 'tithebarnlaw02.DecayScales', WHERE WHAT IT READS IS OF BULK AT MOST 1048576: true; the input reads as it did. -/
def decayScalesUptoRow : OpenClaim := { program := "ytplbdipgnhddkaa", sum := "57d3b4f70ffd6e77e8e28f9289baa05855716e3d4ba22436c61674f64dad1de5", func := "tithebarn/tithebarnlaw02.DecayScales", spec := "decayScales", named := ["math/bits.divideError", "math/bits.overflowError"], apart := false, narrowed := true }
def DecayScalesUptoSaid : Prop := decayScalesUptoRow.holds Try.pinned (OpenSpec.upto decayScalesSpec)

/-- 'tithebarnlaw03.VecTimes', WHERE WHAT IT READS IS OF BULK AT MOST 1048576: true; the input reads as it did. -/
def vecTimesUptoRow : OpenClaim := { program := "ytplbdipgnhddkaa", sum := "57d3b4f70ffd6e77e8e28f9289baa05855716e3d4ba22436c61674f64dad1de5", func := "tithebarn/tithebarnlaw03.VecTimes", spec := "vecTimes", unfollowed := true, recurses := true, named := ["math/bits.divideError", "math/bits.overflowError"], apart := false, narrowed := true }
def VecTimesUptoSaid : Prop := vecTimesUptoRow.holds Try.pinned (OpenSpec.upto vecTimesSpec)

/-- 'tithebarnlaw02.DecayApplies', WHERE WHAT IT READS IS OF BULK AT MOST 1048576: true; the input reads as it did. -/
def decayAppliesUptoRow : OpenClaim := { program := "ytplbdipgnhddkaa", sum := "57d3b4f70ffd6e77e8e28f9289baa05855716e3d4ba22436c61674f64dad1de5", func := "tithebarn/tithebarnlaw02.DecayApplies", spec := "decayApplies", named := ["math/bits.divideError", "math/bits.overflowError"], apart := false, narrowed := true }
def DecayAppliesUptoSaid : Prop := decayAppliesUptoRow.holds Try.pinned (OpenSpec.upto decayAppliesSpec)

/-- 'tithebarnlaw02.DecayHalves', WHERE WHAT IT READS IS OF BULK AT MOST 1048576: true; the input reads as it did. -/
def decayHalvesUptoRow : OpenClaim := { program := "ytplbdipgnhddkaa", sum := "57d3b4f70ffd6e77e8e28f9289baa05855716e3d4ba22436c61674f64dad1de5", func := "tithebarn/tithebarnlaw02.DecayHalves", spec := "decayHalves", named := ["math/bits.divideError", "math/bits.overflowError"], apart := false, narrowed := true }
def DecayHalvesUptoSaid : Prop := decayHalvesUptoRow.holds Try.pinned (OpenSpec.upto decayHalvesSpec)

/-- 'tithebarnlaw01.FixptProducts', WHERE WHAT IT READS IS OF BULK AT MOST 1048576: true; the input reads as it did. -/
def fixptProductsUptoRow : OpenClaim := { program := "ytplbdipgnhddkaa", sum := "57d3b4f70ffd6e77e8e28f9289baa05855716e3d4ba22436c61674f64dad1de5", func := "tithebarn/tithebarnlaw01.FixptProducts", spec := "fixptProducts", inPlace := ["math/bits.Sub64", "math/bits.Add64"], named := ["math/bits.divideError", "math/bits.overflowError"], apart := false, narrowed := true }
def FixptProductsUptoSaid : Prop := fixptProductsUptoRow.holds Try.pinned (OpenSpec.upto fixptProductsSpec)

/-- 'tithebarnlaw01.FixptWholes', WHERE WHAT IT READS IS OF BULK AT MOST 1048576: true; the input reads as it did. -/
def fixptWholesUptoRow : OpenClaim := { program := "ytplbdipgnhddkaa", sum := "57d3b4f70ffd6e77e8e28f9289baa05855716e3d4ba22436c61674f64dad1de5", func := "tithebarn/tithebarnlaw01.FixptWholes", spec := "fixptWholes", inPlace := ["math/bits.Sub64", "math/bits.Add64"], named := ["math/bits.divideError", "math/bits.overflowError"], apart := false, narrowed := true }
def FixptWholesUptoSaid : Prop := fixptWholesUptoRow.holds Try.pinned (OpenSpec.upto fixptWholesSpec)

/-- 'tithebarnlaw01.FixptOne', WHERE WHAT IT READS IS OF BULK AT MOST 1048576: true; the input reads as it did. -/
def fixptOneUptoRow : OpenClaim := { program := "ytplbdipgnhddkaa", sum := "57d3b4f70ffd6e77e8e28f9289baa05855716e3d4ba22436c61674f64dad1de5", func := "tithebarn/tithebarnlaw01.FixptOne", spec := "fixptOne", inPlace := ["math/bits.Add64", "math/bits.Sub64"], named := ["math/bits.divideError", "math/bits.overflowError"], apart := false, narrowed := true }
def FixptOneUptoSaid : Prop := fixptOneUptoRow.holds Try.pinned (OpenSpec.upto fixptOneSpec)

/-- 'tithebarnlaw01.FixptOrder', WHERE WHAT IT READS IS OF BULK AT MOST 1048576: true; the input reads as it did. -/
def fixptOrderUptoRow : OpenClaim := { program := "ytplbdipgnhddkaa", sum := "57d3b4f70ffd6e77e8e28f9289baa05855716e3d4ba22436c61674f64dad1de5", func := "tithebarn/tithebarnlaw01.FixptOrder", spec := "fixptOrder", inPlace := ["math/bits.Add64", "math/bits.Sub64"], named := ["math/bits.divideError", "math/bits.overflowError"], apart := false, narrowed := true }
def FixptOrderUptoSaid : Prop := fixptOrderUptoRow.holds Try.pinned (OpenSpec.upto fixptOrderSpec)

/-- 'tithebarnlaw01.FixptSums', WHERE WHAT IT READS IS OF BULK AT MOST 1048576: true; the input reads as it did. -/
def fixptSumsUptoRow : OpenClaim := { program := "ytplbdipgnhddkaa", sum := "57d3b4f70ffd6e77e8e28f9289baa05855716e3d4ba22436c61674f64dad1de5", func := "tithebarn/tithebarnlaw01.FixptSums", spec := "fixptSums", inPlace := ["math/bits.Add64", "math/bits.Sub64"], named := ["math/bits.divideError", "math/bits.overflowError"], apart := false, narrowed := true }
def FixptSumsUptoSaid : Prop := fixptSumsUptoRow.holds Try.pinned (OpenSpec.upto fixptSumsSpec)

end Rows
end Go.Proofs.Ytplbdipgnhddkaa
