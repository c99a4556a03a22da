/-
  No cell of these rows narrows 'for every input' (looked for: loops, veiled, ifaces, maps, wideKeys, modest, calm, conditions, laid).
  DERIVED. THE GIVEN ROWS OF THIS SEAT. 8 by the template 'for every input the law returns true; each argument reads behind the call as it read before'; 0 by the template 'total and deterministic' (their statements: YtbfpljnfalopdaaTotals.lean).
  GIVEN WITH THE SEED: the statements are not yours to turn. If you find one false, say at which input.
  Laid BY PROGRAM, IN A SANDBOX (cutbox-rows.mjs): the forced cells as the released guide's own fill.sh prints them over the translation 784bb6039ba75f60… (all of the seat's roots in one cut). By AI agents, Wed Nov 11 2026. No macro, syntax, notation, axiom, sorry.
-/
import Derived.Test.YtbfpljnfalopdaaChecked
import GoSem.Claim
import GoSem.ClaimJoined
import GoSem.ClaimMapViews
import Derived.JoinedTies
import Derived.KernelRfl
namespace Go.Proofs.Ytbfpljnfalopdaa
/- THE CELL 'sum', in the pinned program and in every row, IS THE sha256 OF THE DUMP (.gsa) THAT YtbfpljnfalopdaaProg.lean LOADS. Nothing in Lean hashes anything: it is a label: what it is worth is what the hold of that sum in a sandbox is worth. -/
noncomputable def Try.pinned : Pinned := { name := "ytbfpljnfalopdaa", sum := "784bb6039ba75f60d5cba8f2f79dae0bf1617fe3920202d7aafc2e9194fc7a1d", checked := Try.checked }
namespace Rows
def none {H : Type} : Left H := { results := [], args := [] }

/-- 'tithebarnlaw11.QuotaSafe': WHATEVER THE INPUT: true; the input reads as it did. -/
def quotaSafeSpec : ChangeSpec := { name := "quotaSafe", fn := fun _ => fun
  | [d1, d2, d3] => { results := [.lit (.bool true)], args := [d1, d2, d3] }
  | _ => none }
def quotaSafeRow : OpenClaim := { program := "ytbfpljnfalopdaa", sum := "784bb6039ba75f60d5cba8f2f79dae0bf1617fe3920202d7aafc2e9194fc7a1d", func := "tithebarn/tithebarnlaw11.QuotaSafe", spec := "quotaSafe", unfollowed := true, recurses := true, apart := false }
def QuotaSafeSaid : Prop := quotaSafeRow.holds Try.pinned (OpenSpec.ofChange quotaSafeSpec)

/-- ITS FALSE NEIGHBOUR: 'it returns false'. Refute it at one input. -/
def quotaSafeWrong : ChangeSpec := { name := "quotaSafe", fn := fun _ => fun
  | [d1, d2, d3] => { results := [.lit (.bool false)], args := [d1, d2, d3] }
  | _ => none }
def QuotaSafeWrongFalsely : Prop := quotaSafeRow.holds Try.pinned (OpenSpec.ofChange quotaSafeWrong)

/-- 'tithebarnlaw11.QuotaLess': WHATEVER THE INPUT: true; the input reads as it did. -/
def quotaLessSpec : ChangeSpec := { name := "quotaLess", fn := fun _ => fun
  | [d1, d2, d3] => { results := [.lit (.bool true)], args := [d1, d2, d3] }
  | _ => none }
def quotaLessRow : OpenClaim := { program := "ytbfpljnfalopdaa", sum := "784bb6039ba75f60d5cba8f2f79dae0bf1617fe3920202d7aafc2e9194fc7a1d", func := "tithebarn/tithebarnlaw11.QuotaLess", spec := "quotaLess", unfollowed := true, recurses := true, apart := false }
def QuotaLessSaid : Prop := quotaLessRow.holds Try.pinned (OpenSpec.ofChange quotaLessSpec)

/-- ITS FALSE NEIGHBOUR: 'it returns false'. Refute it at one input. -/
def quotaLessWrong : ChangeSpec := { name := "quotaLess", fn := fun _ => fun
  | [d1, d2, d3] => { results := [.lit (.bool false)], args := [d1, d2, d3] }
  | _ => none }
def QuotaLessWrongFalsely : Prop := quotaLessRow.holds Try.pinned (OpenSpec.ofChange quotaLessWrong)

/-- 'tithebarnlaw11.QuotaOwn': WHATEVER THE INPUT: true; the input reads as it did. -/
def quotaOwnSpec : ChangeSpec := { name := "quotaOwn", fn := fun _ => fun
  | [d1, d2] => { results := [.lit (.bool true)], args := [d1, d2] }
  | _ => none }
def quotaOwnRow : OpenClaim := { program := "ytbfpljnfalopdaa", sum := "784bb6039ba75f60d5cba8f2f79dae0bf1617fe3920202d7aafc2e9194fc7a1d", func := "tithebarn/tithebarnlaw11.QuotaOwn", spec := "quotaOwn", unfollowed := true, recurses := true, apart := false }
def QuotaOwnSaid : Prop := quotaOwnRow.holds Try.pinned (OpenSpec.ofChange quotaOwnSpec)

/-- ITS FALSE NEIGHBOUR: 'it returns false'. Refute it at one input. -/
def quotaOwnWrong : ChangeSpec := { name := "quotaOwn", fn := fun _ => fun
  | [d1, d2] => { results := [.lit (.bool false)], args := [d1, d2] }
  | _ => none }
def QuotaOwnWrongFalsely : Prop := quotaOwnRow.holds Try.pinned (OpenSpec.ofChange quotaOwnWrong)

/-- 'tithebarnlaw15.OrderCmps': WHATEVER THE INPUT: true; the input reads as it did. -/
def orderCmpsSpec : ChangeSpec := { name := "orderCmps", fn := fun _ => fun
  | [d1, d2, d3] => { results := [.lit (.bool true)], args := [d1, d2, d3] }
  | _ => none }
def orderCmpsRow : OpenClaim := { program := "ytbfpljnfalopdaa", sum := "784bb6039ba75f60d5cba8f2f79dae0bf1617fe3920202d7aafc2e9194fc7a1d", func := "tithebarn/tithebarnlaw15.OrderCmps", spec := "orderCmps", inPlace := ["math/bits.Add64"], unfollowed := true, recurses := true, named := ["math/bits.divideError", "math/bits.overflowError"], apart := false }
def OrderCmpsSaid : Prop := orderCmpsRow.holds Try.pinned (OpenSpec.ofChange orderCmpsSpec)

/-- ITS FALSE NEIGHBOUR: 'it returns false'. Refute it at one input. -/
def orderCmpsWrong : ChangeSpec := { name := "orderCmps", fn := fun _ => fun
  | [d1, d2, d3] => { results := [.lit (.bool false)], args := [d1, d2, d3] }
  | _ => none }
def OrderCmpsWrongFalsely : Prop := orderCmpsRow.holds Try.pinned (OpenSpec.ofChange orderCmpsWrong)

/-- 'tithebarnlaw15.OrderSorts': WHATEVER THE INPUT: true; the input reads as it did. -/
def orderSortsSpec : ChangeSpec := { name := "orderSorts", fn := fun _ => fun
  | [d] => { results := [.lit (.bool true)], args := [d] }
  | _ => none }
def orderSortsRow : OpenClaim := { program := "ytbfpljnfalopdaa", sum := "784bb6039ba75f60d5cba8f2f79dae0bf1617fe3920202d7aafc2e9194fc7a1d", func := "tithebarn/tithebarnlaw15.OrderSorts", spec := "orderSorts", inPlace := ["math/bits.Add64"], unfollowed := true, recurses := true, named := ["math/bits.divideError", "math/bits.overflowError"], apart := false }
def OrderSortsSaid : Prop := orderSortsRow.holds Try.pinned (OpenSpec.ofChange orderSortsSpec)

/-- ITS FALSE NEIGHBOUR: 'it returns false'. Refute it at one input. -/
def orderSortsWrong : ChangeSpec := { name := "orderSorts", fn := fun _ => fun
  | [d] => { results := [.lit (.bool false)], args := [d] }
  | _ => none }
def OrderSortsWrongFalsely : Prop := orderSortsRow.holds Try.pinned (OpenSpec.ofChange orderSortsWrong)

/-- 'tithebarnlaw15.OrderTotal': WHATEVER THE INPUT: true; the input reads as it did. -/
def orderTotalSpec : ChangeSpec := { name := "orderTotal", fn := fun _ => fun
  | [d1, d2] => { results := [.lit (.bool true)], args := [d1, d2] }
  | _ => none }
def orderTotalRow : OpenClaim := { program := "ytbfpljnfalopdaa", sum := "784bb6039ba75f60d5cba8f2f79dae0bf1617fe3920202d7aafc2e9194fc7a1d", func := "tithebarn/tithebarnlaw15.OrderTotal", spec := "orderTotal", inPlace := ["math/bits.Add64"], unfollowed := true, recurses := true, named := ["math/bits.divideError", "math/bits.overflowError"], apart := false }
def OrderTotalSaid : Prop := orderTotalRow.holds Try.pinned (OpenSpec.ofChange orderTotalSpec)

/-- ITS FALSE NEIGHBOUR: 'it returns false'. Refute it at one input. -/
def orderTotalWrong : ChangeSpec := { name := "orderTotal", fn := fun _ => fun
  | [d1, d2] => { results := [.lit (.bool false)], args := [d1, d2] }
  | _ => none }
def OrderTotalWrongFalsely : Prop := orderTotalRow.holds Try.pinned (OpenSpec.ofChange orderTotalWrong)

/-- 'tithebarnlaw15.OrderOld': WHATEVER THE INPUT: true; the input reads as it did. -/
def orderOldSpec : ChangeSpec := { name := "orderOld", fn := fun _ => fun
  | [d1, d2, d3] => { results := [.lit (.bool true)], args := [d1, d2, d3] }
  | _ => none }
def orderOldRow : OpenClaim := { program := "ytbfpljnfalopdaa", sum := "784bb6039ba75f60d5cba8f2f79dae0bf1617fe3920202d7aafc2e9194fc7a1d", func := "tithebarn/tithebarnlaw15.OrderOld", spec := "orderOld", inPlace := ["math/bits.Add64"], unfollowed := true, recurses := true, named := ["math/bits.divideError", "math/bits.overflowError"], apart := false }
def OrderOldSaid : Prop := orderOldRow.holds Try.pinned (OpenSpec.ofChange orderOldSpec)

/-- ITS FALSE NEIGHBOUR: 'it returns false'. Refute it at one input. -/
def orderOldWrong : ChangeSpec := { name := "orderOld", fn := fun _ => fun
  | [d1, d2, d3] => { results := [.lit (.bool false)], args := [d1, d2, d3] }
  | _ => none }
def OrderOldWrongFalsely : Prop := orderOldRow.holds Try.pinned (OpenSpec.ofChange orderOldWrong)

/-- 'tithebarnlaw15.OrderOwn': WHATEVER THE INPUT: true; the input reads as it did. -/
def orderOwnSpec : ChangeSpec := { name := "orderOwn", fn := fun _ => fun
  | [d1, d2, d3] => { results := [.lit (.bool true)], args := [d1, d2, d3] }
  | _ => none }
def orderOwnRow : OpenClaim := { program := "ytbfpljnfalopdaa", sum := "784bb6039ba75f60d5cba8f2f79dae0bf1617fe3920202d7aafc2e9194fc7a1d", func := "tithebarn/tithebarnlaw15.OrderOwn", spec := "orderOwn", inPlace := ["math/bits.Add64"], unfollowed := true, recurses := true, named := ["math/bits.divideError", "math/bits.overflowError"], apart := false }
def OrderOwnSaid : Prop := orderOwnRow.holds Try.pinned (OpenSpec.ofChange orderOwnSpec)

/-- ITS FALSE NEIGHBOUR: 'it returns false'. Refute it at one input. -/
def orderOwnWrong : ChangeSpec := { name := "orderOwn", fn := fun _ => fun
  | [d1, d2, d3] => { results := [.lit (.bool false)], args := [d1, d2, d3] }
  | _ => none }
def OrderOwnWrongFalsely : Prop := orderOwnRow.holds Try.pinned (OpenSpec.ofChange orderOwnWrong)

/- THE SECOND FORM. 'bulk': how many values and letters a reading holds, each counted each time it is reached (what is shared counts as often as it is met; a slice's spare places count too). A statement '..UptoSaid' is the law's where the arguments, and the package variables that the reading takes, are together of bulk at most 1048576: NARROWER than '..Said'. Prove '..Said' where nothing that the law and all that it calls make is longer than what came in: it says more and counts as full. Else prove '..UptoSaid'. A law counts once. -/
mutual
def uptoBulk {H : Type} : DataW H → Nat
  | .lit (.string bytes) => bytes.length + 1
  | .lit _ => 1
  | .nil => 1
  | .ptr d => uptoBulk d + 1
  | .slice elems spare => uptoBulkAll elems + uptoBulkAll spare + 1
  | .agg parts => uptoBulkAll parts + 1
  | .iface _ d => uptoBulk d + 1
  | .map entries => uptoBulkEntries entries + 1
  | .held _ => 1
def uptoBulkAll {H : Type} : List (DataW H) → Nat
  | [] => 0
  | d :: r => uptoBulk d + uptoBulkAll r
def uptoBulkEntries {H : Type} : List (Lit × DataW H) → Nat
  | [] => 0
  | x :: r => uptoBulkEntry x + uptoBulkEntries r
def uptoBulkEntry {H : Type} : Lit × DataW H → Nat
  | (.string bytes, d) => bytes.length + uptoBulk d + 1
  | (_, d) => uptoBulk d + 1
 end
def uptoSmall : (H : Type) → List (DataW H) → Bool := fun _ ds => decide (uptoBulkAll ds ≤ 1048576)
def OpenSpec.upto (s : _root_.Go.ChangeSpec) : _root_.Go.OpenSpec := { _root_.Go.OpenSpec.ofChange s with cond := some uptoSmall }

/-- 'tithebarnlaw11.QuotaSafe', WHERE WHAT IT READS IS OF BULK AT MOST 1048576: true; the input reads as it did. -/
def quotaSafeUptoRow : OpenClaim := { program := "ytbfpljnfalopdaa", sum := "784bb6039ba75f60d5cba8f2f79dae0bf1617fe3920202d7aafc2e9194fc7a1d", func := "tithebarn/tithebarnlaw11.QuotaSafe", spec := "quotaSafe", unfollowed := true, recurses := true, apart := false, narrowed := true }
def QuotaSafeUptoSaid : Prop := quotaSafeUptoRow.holds Try.pinned (OpenSpec.upto quotaSafeSpec)

/-- 'tithebarnlaw11.QuotaLess', WHERE WHAT IT READS IS OF BULK AT MOST 1048576: true; the input reads as it did. -/
def quotaLessUptoRow : OpenClaim := { program := "ytbfpljnfalopdaa", sum := "784bb6039ba75f60d5cba8f2f79dae0bf1617fe3920202d7aafc2e9194fc7a1d", func := "tithebarn/tithebarnlaw11.QuotaLess", spec := "quotaLess", unfollowed := true, recurses := true, apart := false, narrowed := true }
def QuotaLessUptoSaid : Prop := quotaLessUptoRow.holds Try.pinned (OpenSpec.upto quotaLessSpec)

/-- 'tithebarnlaw11.QuotaOwn', WHERE WHAT IT READS IS OF BULK AT MOST 1048576: true; the input reads as it did. -/
def quotaOwnUptoRow : OpenClaim := { program := "ytbfpljnfalopdaa", sum := "784bb6039ba75f60d5cba8f2f79dae0bf1617fe3920202d7aafc2e9194fc7a1d", func := "tithebarn/tithebarnlaw11.QuotaOwn", spec := "quotaOwn", unfollowed := true, recurses := true, apart := false, narrowed := true }
def QuotaOwnUptoSaid : Prop := quotaOwnUptoRow.holds Try.pinned (OpenSpec.upto quotaOwnSpec)

/-- 'tithebarnlaw15.OrderCmps', WHERE WHAT IT READS IS OF BULK AT MOST 1048576: true; the input reads as it did. -/
def orderCmpsUptoRow : OpenClaim := { program := "ytbfpljnfalopdaa", sum := "784bb6039ba75f60d5cba8f2f79dae0bf1617fe3920202d7aafc2e9194fc7a1d", func := "tithebarn/tithebarnlaw15.OrderCmps", spec := "orderCmps", inPlace := ["math/bits.Add64"], unfollowed := true, recurses := true, named := ["math/bits.divideError", "math/bits.overflowError"], apart := false, narrowed := true }
def OrderCmpsUptoSaid : Prop := orderCmpsUptoRow.holds Try.pinned (OpenSpec.upto orderCmpsSpec)

/-- 'tithebarnlaw15.OrderSorts', WHERE WHAT IT READS IS OF BULK AT MOST 1048576: true; the input reads as it did. -/
def orderSortsUptoRow : OpenClaim := { program := "ytbfpljnfalopdaa", sum := "784bb6039ba75f60d5cba8f2f79dae0bf1617fe3920202d7aafc2e9194fc7a1d", func := "tithebarn/tithebarnlaw15.OrderSorts", spec := "orderSorts", inPlace := ["math/bits.Add64"], unfollowed := true, recurses := true, named := ["math/bits.divideError", "math/bits.overflowError"], apart := false, narrowed := true }
def OrderSortsUptoSaid : Prop := orderSortsUptoRow.holds Try.pinned (OpenSpec.upto orderSortsSpec)

/-- 'tithebarnlaw15.OrderTotal', WHERE WHAT IT READS IS OF BULK AT MOST 1048576: true; the input reads as it did. -/
def orderTotalUptoRow : OpenClaim := { program := "ytbfpljnfalopdaa", sum := "784bb6039ba75f60d5cba8f2f79dae0bf1617fe3920202d7aafc2e9194fc7a1d", func := "tithebarn/tithebarnlaw15.OrderTotal", spec := "orderTotal", inPlace := ["math/bits.Add64"], unfollowed := true, recurses := true, named := ["math/bits.divideError", "math/bits.overflowError"], apart := false, narrowed := true }
def OrderTotalUptoSaid : Prop := orderTotalUptoRow.holds Try.pinned (OpenSpec.upto orderTotalSpec)

/-- 'tithebarnlaw15.OrderOld', WHERE WHAT IT READS IS OF BULK AT MOST 1048576: true; the input reads as it did. -/
def orderOldUptoRow : OpenClaim := { program := "ytbfpljnfalopdaa", sum := "784bb6039ba75f60d5cba8f2f79dae0bf1617fe3920202d7aafc2e9194fc7a1d", func := "tithebarn/tithebarnlaw15.OrderOld", spec := "orderOld", inPlace := ["math/bits.Add64"], unfollowed := true, recurses := true, named := ["math/bits.divideError", "math/bits.overflowError"], apart := false, narrowed := true }
def OrderOldUptoSaid : Prop := orderOldUptoRow.holds Try.pinned (OpenSpec.upto orderOldSpec)

/-- 'tithebarnlaw15.OrderOwn', WHERE WHAT IT READS IS OF BULK AT MOST 1048576: true; the input reads as it did. -/
def orderOwnUptoRow : OpenClaim := { program := "ytbfpljnfalopdaa", sum := "784bb6039ba75f60d5cba8f2f79dae0bf1617fe3920202d7aafc2e9194fc7a1d", func := "tithebarn/tithebarnlaw15.OrderOwn", spec := "orderOwn", inPlace := ["math/bits.Add64"], unfollowed := true, recurses := true, named := ["math/bits.divideError", "math/bits.overflowError"], apart := false, narrowed := true }
def OrderOwnUptoSaid : Prop := orderOwnUptoRow.holds Try.pinned (OpenSpec.upto orderOwnSpec)

end Rows
end Go.Proofs.Ytbfpljnfalopdaa
