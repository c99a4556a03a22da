/-
  No cell of these rows narrows 'for every input' (looked for: loops, veiled, ifaces, maps, wideKeys, modest, calm, conditions, laid).
  DERIVED. THE GIVEN ROWS OF THIS SEAT. 12 by the template 'for every input the law returns true; each argument reads behind the call as it read before'; 0 by the template 'total and deterministic' (their statements: YtjkmcncgndkdoaaTotals.lean).
  GIVEN WITH THE SEED: the statements are not yours to turn. If you find one false, say at which input.
  Laid BY PROGRAM, IN A SANDBOX (cutbox-rows.mjs): the forced cells as the released guide's own fill.sh prints them over the translation 942b23f6f3829d31… (all of the seat's roots in one cut). By AI agents, Wed Nov 11 2026. No macro, syntax, notation, axiom, sorry.
-/
import Derived.Test.YtjkmcncgndkdoaaChecked
import GoSem.Claim
import GoSem.ClaimJoined
import GoSem.ClaimMapViews
import Derived.JoinedTies
import Derived.KernelRfl
namespace Go.Proofs.Ytjkmcncgndkdoaa
/- THE CELL 'sum', in the pinned program and in every row, IS THE sha256 OF THE DUMP (.gsa) THAT YtjkmcncgndkdoaaProg.lean LOADS. Nothing in Lean hashes anything: it is a label: what it is worth is what the hold of that sum in a sandbox is worth. -/
noncomputable def Try.pinned : Pinned := { name := "ytjkmcncgndkdoaa", sum := "942b23f6f3829d31dffd3cf01c334f5cd5ae37304b19eaee047f6010616c8503", checked := Try.checked }
namespace Rows
def none {H : Type} : Left H := { results := [], args := [] }

/-- 'tithebarnlaw09.ConfigChecks': WHATEVER THE INPUT: true; the input reads as it did. -/
def configChecksSpec : ChangeSpec := { name := "configChecks", fn := fun _ => fun
  | [d] => { results := [.lit (.bool true)], args := [d] }
  | _ => none }
def configChecksRow : OpenClaim := { program := "ytjkmcncgndkdoaa", sum := "942b23f6f3829d31dffd3cf01c334f5cd5ae37304b19eaee047f6010616c8503", func := "tithebarn/tithebarnlaw09.ConfigChecks", spec := "configChecks", unfollowed := true, recurses := true, plainKeys := false, apart := false }
def ConfigChecksSaid : Prop := configChecksRow.holds Try.pinned (OpenSpec.ofChange configChecksSpec)

/-- ITS FALSE NEIGHBOUR: 'it returns false'. Refute it at one input. -/
def configChecksWrong : ChangeSpec := { name := "configChecks", fn := fun _ => fun
  | [d] => { results := [.lit (.bool false)], args := [d] }
  | _ => none }
def ConfigChecksWrongFalsely : Prop := configChecksRow.holds Try.pinned (OpenSpec.ofChange configChecksWrong)

/-- 'tithebarnlaw09.ConfigSame': WHATEVER THE INPUT: true; the input reads as it did. -/
def configSameSpec : ChangeSpec := { name := "configSame", fn := fun _ => fun
  | [d1, d2] => { results := [.lit (.bool true)], args := [d1, d2] }
  | _ => none }
def configSameRow : OpenClaim := { program := "ytjkmcncgndkdoaa", sum := "942b23f6f3829d31dffd3cf01c334f5cd5ae37304b19eaee047f6010616c8503", func := "tithebarn/tithebarnlaw09.ConfigSame", spec := "configSame", unfollowed := true, recurses := true, plainKeys := false, apart := false }
def ConfigSameSaid : Prop := configSameRow.holds Try.pinned (OpenSpec.ofChange configSameSpec)

/-- ITS FALSE NEIGHBOUR: 'it returns false'. Refute it at one input. -/
def configSameWrong : ChangeSpec := { name := "configSame", fn := fun _ => fun
  | [d1, d2] => { results := [.lit (.bool false)], args := [d1, d2] }
  | _ => none }
def ConfigSameWrongFalsely : Prop := configSameRow.holds Try.pinned (OpenSpec.ofChange configSameWrong)

/-- 'tithebarnlaw09.ConfigTenants': WHATEVER THE INPUT: true; the input reads as it did. -/
def configTenantsSpec : ChangeSpec := { name := "configTenants", fn := fun _ => fun
  | [d] => { results := [.lit (.bool true)], args := [d] }
  | _ => none }
def configTenantsRow : OpenClaim := { program := "ytjkmcncgndkdoaa", sum := "942b23f6f3829d31dffd3cf01c334f5cd5ae37304b19eaee047f6010616c8503", func := "tithebarn/tithebarnlaw09.ConfigTenants", spec := "configTenants", unfollowed := true, recurses := true, plainKeys := false, apart := false }
def ConfigTenantsSaid : Prop := configTenantsRow.holds Try.pinned (OpenSpec.ofChange configTenantsSpec)

/-- ITS FALSE NEIGHBOUR: 'it returns false'. Refute it at one input. -/
def configTenantsWrong : ChangeSpec := { name := "configTenants", fn := fun _ => fun
  | [d] => { results := [.lit (.bool false)], args := [d] }
  | _ => none }
def ConfigTenantsWrongFalsely : Prop := configTenantsRow.holds Try.pinned (OpenSpec.ofChange configTenantsWrong)

/-- 'tithebarnlaw12.LedgerPlays': WHATEVER THE INPUT: true; the input reads as it did. -/
def ledgerPlaysSpec : ChangeSpec := { name := "ledgerPlays", fn := fun _ => fun
  | [d1, d2] => { results := [.lit (.bool true)], args := [d1, d2] }
  | _ => none }
def ledgerPlaysRow : OpenClaim := { program := "ytjkmcncgndkdoaa", sum := "942b23f6f3829d31dffd3cf01c334f5cd5ae37304b19eaee047f6010616c8503", func := "tithebarn/tithebarnlaw12.LedgerPlays", spec := "ledgerPlays", unfollowed := true, recurses := true, plainKeys := false, apart := false }
def LedgerPlaysSaid : Prop := ledgerPlaysRow.holds Try.pinned (OpenSpec.ofChange ledgerPlaysSpec)

/-- ITS FALSE NEIGHBOUR: 'it returns false'. Refute it at one input. -/
def ledgerPlaysWrong : ChangeSpec := { name := "ledgerPlays", fn := fun _ => fun
  | [d1, d2] => { results := [.lit (.bool false)], args := [d1, d2] }
  | _ => none }
def LedgerPlaysWrongFalsely : Prop := ledgerPlaysRow.holds Try.pinned (OpenSpec.ofChange ledgerPlaysWrong)

/-- 'tithebarnlaw12.LedgerSums': WHATEVER THE INPUT: true; the input reads as it did. -/
def ledgerSumsSpec : ChangeSpec := { name := "ledgerSums", fn := fun _ => fun
  | [d1, d2] => { results := [.lit (.bool true)], args := [d1, d2] }
  | _ => none }
def ledgerSumsRow : OpenClaim := { program := "ytjkmcncgndkdoaa", sum := "942b23f6f3829d31dffd3cf01c334f5cd5ae37304b19eaee047f6010616c8503", func := "tithebarn/tithebarnlaw12.LedgerSums", spec := "ledgerSums", unfollowed := true, recurses := true, plainKeys := false, apart := false }
def LedgerSumsSaid : Prop := ledgerSumsRow.holds Try.pinned (OpenSpec.ofChange ledgerSumsSpec)

/-- ITS FALSE NEIGHBOUR: 'it returns false'. Refute it at one input. -/
def ledgerSumsWrong : ChangeSpec := { name := "ledgerSums", fn := fun _ => fun
  | [d1, d2] => { results := [.lit (.bool false)], args := [d1, d2] }
  | _ => none }
def LedgerSumsWrongFalsely : Prop := ledgerSumsRow.holds Try.pinned (OpenSpec.ofChange ledgerSumsWrong)

/-- 'tithebarnlaw12.LedgerBack': WHATEVER THE INPUT: true; the input reads as it did. -/
def ledgerBackSpec : ChangeSpec := { name := "ledgerBack", fn := fun _ => fun
  | [d1, d2, d3] => { results := [.lit (.bool true)], args := [d1, d2, d3] }
  | _ => none }
def ledgerBackRow : OpenClaim := { program := "ytjkmcncgndkdoaa", sum := "942b23f6f3829d31dffd3cf01c334f5cd5ae37304b19eaee047f6010616c8503", func := "tithebarn/tithebarnlaw12.LedgerBack", spec := "ledgerBack", unfollowed := true, recurses := true, plainKeys := false, apart := false }
def LedgerBackSaid : Prop := ledgerBackRow.holds Try.pinned (OpenSpec.ofChange ledgerBackSpec)

/-- ITS FALSE NEIGHBOUR: 'it returns false'. Refute it at one input. -/
def ledgerBackWrong : ChangeSpec := { name := "ledgerBack", fn := fun _ => fun
  | [d1, d2, d3] => { results := [.lit (.bool false)], args := [d1, d2, d3] }
  | _ => none }
def LedgerBackWrongFalsely : Prop := ledgerBackRow.holds Try.pinned (OpenSpec.ofChange ledgerBackWrong)

/-- 'tithebarnlaw12.LedgerNone': WHATEVER THE INPUT: true; the input reads as it did. -/
def ledgerNoneSpec : ChangeSpec := { name := "ledgerNone", fn := fun _ => fun
  | [d] => { results := [.lit (.bool true)], args := [d] }
  | _ => none }
def ledgerNoneRow : OpenClaim := { program := "ytjkmcncgndkdoaa", sum := "942b23f6f3829d31dffd3cf01c334f5cd5ae37304b19eaee047f6010616c8503", func := "tithebarn/tithebarnlaw12.LedgerNone", spec := "ledgerNone", unfollowed := true, recurses := true, plainKeys := false, apart := false }
def LedgerNoneSaid : Prop := ledgerNoneRow.holds Try.pinned (OpenSpec.ofChange ledgerNoneSpec)

/-- ITS FALSE NEIGHBOUR: 'it returns false'. Refute it at one input. -/
def ledgerNoneWrong : ChangeSpec := { name := "ledgerNone", fn := fun _ => fun
  | [d] => { results := [.lit (.bool false)], args := [d] }
  | _ => none }
def LedgerNoneWrongFalsely : Prop := ledgerNoneRow.holds Try.pinned (OpenSpec.ofChange ledgerNoneWrong)

/-- 'tithebarnlaw16.HostsFree': WHATEVER THE INPUT: true; the input reads as it did. -/
def hostsFreeSpec : ChangeSpec := { name := "hostsFree", fn := fun _ => fun
  | [d1, d2] => { results := [.lit (.bool true)], args := [d1, d2] }
  | _ => none }
def hostsFreeRow : OpenClaim := { program := "ytjkmcncgndkdoaa", sum := "942b23f6f3829d31dffd3cf01c334f5cd5ae37304b19eaee047f6010616c8503", func := "tithebarn/tithebarnlaw16.HostsFree", spec := "hostsFree", unfollowed := true, recurses := true, plainKeys := false, apart := false }
def HostsFreeSaid : Prop := hostsFreeRow.holds Try.pinned (OpenSpec.ofChange hostsFreeSpec)

/-- ITS FALSE NEIGHBOUR: 'it returns false'. Refute it at one input. -/
def hostsFreeWrong : ChangeSpec := { name := "hostsFree", fn := fun _ => fun
  | [d1, d2] => { results := [.lit (.bool false)], args := [d1, d2] }
  | _ => none }
def HostsFreeWrongFalsely : Prop := hostsFreeRow.holds Try.pinned (OpenSpec.ofChange hostsFreeWrong)

/-- 'tithebarnlaw16.HostsGroups': WHATEVER THE INPUT: true; the input reads as it did. -/
def hostsGroupsSpec : ChangeSpec := { name := "hostsGroups", fn := fun _ => fun
  | [d1, d2] => { results := [.lit (.bool true)], args := [d1, d2] }
  | _ => none }
def hostsGroupsRow : OpenClaim := { program := "ytjkmcncgndkdoaa", sum := "942b23f6f3829d31dffd3cf01c334f5cd5ae37304b19eaee047f6010616c8503", func := "tithebarn/tithebarnlaw16.HostsGroups", spec := "hostsGroups", unfollowed := true, recurses := true, plainKeys := false, apart := false }
def HostsGroupsSaid : Prop := hostsGroupsRow.holds Try.pinned (OpenSpec.ofChange hostsGroupsSpec)

/-- ITS FALSE NEIGHBOUR: 'it returns false'. Refute it at one input. -/
def hostsGroupsWrong : ChangeSpec := { name := "hostsGroups", fn := fun _ => fun
  | [d1, d2] => { results := [.lit (.bool false)], args := [d1, d2] }
  | _ => none }
def HostsGroupsWrongFalsely : Prop := hostsGroupsRow.holds Try.pinned (OpenSpec.ofChange hostsGroupsWrong)

/-- 'tithebarnlaw16.HostsBack': WHATEVER THE INPUT: true; the input reads as it did. -/
def hostsBackSpec : ChangeSpec := { name := "hostsBack", fn := fun _ => fun
  | [d1, d2, d3] => { results := [.lit (.bool true)], args := [d1, d2, d3] }
  | _ => none }
def hostsBackRow : OpenClaim := { program := "ytjkmcncgndkdoaa", sum := "942b23f6f3829d31dffd3cf01c334f5cd5ae37304b19eaee047f6010616c8503", func := "tithebarn/tithebarnlaw16.HostsBack", spec := "hostsBack", unfollowed := true, recurses := true, plainKeys := false, apart := false }
def HostsBackSaid : Prop := hostsBackRow.holds Try.pinned (OpenSpec.ofChange hostsBackSpec)

/-- ITS FALSE NEIGHBOUR: 'it returns false'. Refute it at one input. -/
def hostsBackWrong : ChangeSpec := { name := "hostsBack", fn := fun _ => fun
  | [d1, d2, d3] => { results := [.lit (.bool false)], args := [d1, d2, d3] }
  | _ => none }
def HostsBackWrongFalsely : Prop := hostsBackRow.holds Try.pinned (OpenSpec.ofChange hostsBackWrong)

/-- 'tithebarnlaw16.HostsEach': WHATEVER THE INPUT: true; the input reads as it did. -/
def hostsEachSpec : ChangeSpec := { name := "hostsEach", fn := fun _ => fun
  | [d1, d2] => { results := [.lit (.bool true)], args := [d1, d2] }
  | _ => none }
def hostsEachRow : OpenClaim := { program := "ytjkmcncgndkdoaa", sum := "942b23f6f3829d31dffd3cf01c334f5cd5ae37304b19eaee047f6010616c8503", func := "tithebarn/tithebarnlaw16.HostsEach", spec := "hostsEach", unfollowed := true, recurses := true, plainKeys := false, apart := false }
def HostsEachSaid : Prop := hostsEachRow.holds Try.pinned (OpenSpec.ofChange hostsEachSpec)

/-- ITS FALSE NEIGHBOUR: 'it returns false'. Refute it at one input. -/
def hostsEachWrong : ChangeSpec := { name := "hostsEach", fn := fun _ => fun
  | [d1, d2] => { results := [.lit (.bool false)], args := [d1, d2] }
  | _ => none }
def HostsEachWrongFalsely : Prop := hostsEachRow.holds Try.pinned (OpenSpec.ofChange hostsEachWrong)

/-- 'tithebarnlaw12.LedgerOf': WHATEVER THE INPUT: true; the input reads as it did. -/
def ledgerOfSpec : ChangeSpec := { name := "ledgerOf", fn := fun _ => fun
  | [d1, d2] => { results := [.lit (.bool true)], args := [d1, d2] }
  | _ => none }
def ledgerOfRow : OpenClaim := { program := "ytjkmcncgndkdoaa", sum := "942b23f6f3829d31dffd3cf01c334f5cd5ae37304b19eaee047f6010616c8503", func := "tithebarn/tithebarnlaw12.LedgerOf", spec := "ledgerOf", unfollowed := true, recurses := true, plainKeys := false, apart := false }
def LedgerOfSaid : Prop := ledgerOfRow.holds Try.pinned (OpenSpec.ofChange ledgerOfSpec)

/-- ITS FALSE NEIGHBOUR: 'it returns false'. Refute it at one input. -/
def ledgerOfWrong : ChangeSpec := { name := "ledgerOf", fn := fun _ => fun
  | [d1, d2] => { results := [.lit (.bool false)], args := [d1, d2] }
  | _ => none }
def LedgerOfWrongFalsely : Prop := ledgerOfRow.holds Try.pinned (OpenSpec.ofChange ledgerOfWrong)

/- THE SECOND FORM. 'bulk': how many values and letters a reading holds, each counted each time it is reached (what is shared counts as often as it is met; a slice's spare places count too). A statement '..UptoSaid' is the law's where the arguments, and the package variables that the reading takes, are together of bulk at most 1048576: NARROWER than '..Said'. Prove '..Said' where nothing that the law and all that it calls make is longer than what came in: it says more and counts as full. Else prove '..UptoSaid'. A law counts once. -/
mutual
def uptoBulk {H : Type} : DataW H → Nat
  | .lit (.string bytes) => bytes.length + 1
  | .lit _ => 1
  | .nil => 1
  | .ptr d => uptoBulk d + 1
  | .slice elems spare => uptoBulkAll elems + uptoBulkAll spare + 1
  | .agg parts => uptoBulkAll parts + 1
  | .iface _ d => uptoBulk d + 1
  | .map entries => uptoBulkEntries entries + 1
  | .held _ => 1
def uptoBulkAll {H : Type} : List (DataW H) → Nat
  | [] => 0
  | d :: r => uptoBulk d + uptoBulkAll r
def uptoBulkEntries {H : Type} : List (Lit × DataW H) → Nat
  | [] => 0
  | x :: r => uptoBulkEntry x + uptoBulkEntries r
def uptoBulkEntry {H : Type} : Lit × DataW H → Nat
  | (.string bytes, d) => bytes.length + uptoBulk d + 1
  | (_, d) => uptoBulk d + 1
 end
def uptoSmall : (H : Type) → List (DataW H) → Bool := fun _ ds => decide (uptoBulkAll ds ≤ 1048576)
def OpenSpec.upto (s : _root_.Go.ChangeSpec) : _root_.Go.OpenSpec := { _root_.Go.OpenSpec.ofChange s with cond := some uptoSmall }

/-- 'tithebarnlaw09.ConfigChecks', WHERE WHAT IT READS IS OF BULK AT MOST 1048576: true; the input reads as it did. -/
def configChecksUptoRow : OpenClaim := { program := "ytjkmcncgndkdoaa", sum := "942b23f6f3829d31dffd3cf01c334f5cd5ae37304b19eaee047f6010616c8503", func := "tithebarn/tithebarnlaw09.ConfigChecks", spec := "configChecks", unfollowed := true, recurses := true, plainKeys := false, apart := false, narrowed := true }
def ConfigChecksUptoSaid : Prop := configChecksUptoRow.holds Try.pinned (OpenSpec.upto configChecksSpec)

/-- 'tithebarnlaw09.ConfigSame', WHERE WHAT IT READS IS OF BULK AT MOST 1048576: true; the input reads as it did. -/
def configSameUptoRow : OpenClaim := { program := "ytjkmcncgndkdoaa", sum := "942b23f6f3829d31dffd3cf01c334f5cd5ae37304b19eaee047f6010616c8503", func := "tithebarn/tithebarnlaw09.ConfigSame", spec := "configSame", unfollowed := true, recurses := true, plainKeys := false, apart := false, narrowed := true }
def ConfigSameUptoSaid : Prop := configSameUptoRow.holds Try.pinned (OpenSpec.upto configSameSpec)

/-- 'tithebarnlaw09.ConfigTenants', WHERE WHAT IT READS IS OF BULK AT MOST 1048576: true; the input reads as it did. -/
def configTenantsUptoRow : OpenClaim := { program := "ytjkmcncgndkdoaa", sum := "942b23f6f3829d31dffd3cf01c334f5cd5ae37304b19eaee047f6010616c8503", func := "tithebarn/tithebarnlaw09.ConfigTenants", spec := "configTenants", unfollowed := true, recurses := true, plainKeys := false, apart := false, narrowed := true }
def ConfigTenantsUptoSaid : Prop := configTenantsUptoRow.holds Try.pinned (OpenSpec.upto configTenantsSpec)

/-- 'tithebarnlaw12.LedgerPlays', WHERE WHAT IT READS IS OF BULK AT MOST 1048576: true; the input reads as it did. -/
def ledgerPlaysUptoRow : OpenClaim := { program := "ytjkmcncgndkdoaa", sum := "942b23f6f3829d31dffd3cf01c334f5cd5ae37304b19eaee047f6010616c8503", func := "tithebarn/tithebarnlaw12.LedgerPlays", spec := "ledgerPlays", unfollowed := true, recurses := true, plainKeys := false, apart := false, narrowed := true }
def LedgerPlaysUptoSaid : Prop := ledgerPlaysUptoRow.holds Try.pinned (OpenSpec.upto ledgerPlaysSpec)

/-- 'tithebarnlaw12.LedgerSums', WHERE WHAT IT READS IS OF BULK AT MOST 1048576: true; the input reads as it did. -/
def ledgerSumsUptoRow : OpenClaim := { program := "ytjkmcncgndkdoaa", sum := "942b23f6f3829d31dffd3cf01c334f5cd5ae37304b19eaee047f6010616c8503", func := "tithebarn/tithebarnlaw12.LedgerSums", spec := "ledgerSums", unfollowed := true, recurses := true, plainKeys := false, apart := false, narrowed := true }
def LedgerSumsUptoSaid : Prop := ledgerSumsUptoRow.holds Try.pinned (OpenSpec.upto ledgerSumsSpec)

/-- 'tithebarnlaw12.LedgerBack', WHERE WHAT IT READS IS OF BULK AT MOST 1048576: true; the input reads as it did. -/
def ledgerBackUptoRow : OpenClaim := { program := "ytjkmcncgndkdoaa", sum := "942b23f6f3829d31dffd3cf01c334f5cd5ae37304b19eaee047f6010616c8503", func := "tithebarn/tithebarnlaw12.LedgerBack", spec := "ledgerBack", unfollowed := true, recurses := true, plainKeys := false, apart := false, narrowed := true }
def LedgerBackUptoSaid : Prop := ledgerBackUptoRow.holds Try.pinned (OpenSpec.upto ledgerBackSpec)

/-- 'tithebarnlaw12.LedgerNone', WHERE WHAT IT READS IS OF BULK AT MOST 1048576: true; the input reads as it did. -/
def ledgerNoneUptoRow : OpenClaim := { program := "ytjkmcncgndkdoaa", sum := "942b23f6f3829d31dffd3cf01c334f5cd5ae37304b19eaee047f6010616c8503", func := "tithebarn/tithebarnlaw12.LedgerNone", spec := "ledgerNone", unfollowed := true, recurses := true, plainKeys := false, apart := false, narrowed := true }
def LedgerNoneUptoSaid : Prop := ledgerNoneUptoRow.holds Try.pinned (OpenSpec.upto ledgerNoneSpec)

/-- 'tithebarnlaw16.HostsFree', WHERE WHAT IT READS IS OF BULK AT MOST 1048576: true; the input reads as it did. -/
def hostsFreeUptoRow : OpenClaim := { program := "ytjkmcncgndkdoaa", sum := "942b23f6f3829d31dffd3cf01c334f5cd5ae37304b19eaee047f6010616c8503", func := "tithebarn/tithebarnlaw16.HostsFree", spec := "hostsFree", unfollowed := true, recurses := true, plainKeys := false, apart := false, narrowed := true }
def HostsFreeUptoSaid : Prop := hostsFreeUptoRow.holds Try.pinned (OpenSpec.upto hostsFreeSpec)

/-- 'tithebarnlaw16.HostsGroups', WHERE WHAT IT READS IS OF BULK AT MOST 1048576: true; the input reads as it did. -/
def hostsGroupsUptoRow : OpenClaim := { program := "ytjkmcncgndkdoaa", sum := "942b23f6f3829d31dffd3cf01c334f5cd5ae37304b19eaee047f6010616c8503", func := "tithebarn/tithebarnlaw16.HostsGroups", spec := "hostsGroups", unfollowed := true, recurses := true, plainKeys := false, apart := false, narrowed := true }
def HostsGroupsUptoSaid : Prop := hostsGroupsUptoRow.holds Try.pinned (OpenSpec.upto hostsGroupsSpec)

/-- 'tithebarnlaw16.HostsBack', WHERE WHAT IT READS IS OF BULK AT MOST 1048576: true; the input reads as it did. -/
def hostsBackUptoRow : OpenClaim := { program := "ytjkmcncgndkdoaa", sum := "942b23f6f3829d31dffd3cf01c334f5cd5ae37304b19eaee047f6010616c8503", func := "tithebarn/tithebarnlaw16.HostsBack", spec := "hostsBack", unfollowed := true, recurses := true, plainKeys := false, apart := false, narrowed := true }
def HostsBackUptoSaid : Prop := hostsBackUptoRow.holds Try.pinned (OpenSpec.upto hostsBackSpec)

/-- 'tithebarnlaw16.HostsEach', WHERE WHAT IT READS IS OF BULK AT MOST 1048576: true; the input reads as it did. -/
def hostsEachUptoRow : OpenClaim := { program := "ytjkmcncgndkdoaa", sum := "942b23f6f3829d31dffd3cf01c334f5cd5ae37304b19eaee047f6010616c8503", func := "tithebarn/tithebarnlaw16.HostsEach", spec := "hostsEach", unfollowed := true, recurses := true, plainKeys := false, apart := false, narrowed := true }
def HostsEachUptoSaid : Prop := hostsEachUptoRow.holds Try.pinned (OpenSpec.upto hostsEachSpec)

/-- 'tithebarnlaw12.LedgerOf', WHERE WHAT IT READS IS OF BULK AT MOST 1048576: true; the input reads as it did. -/
def ledgerOfUptoRow : OpenClaim := { program := "ytjkmcncgndkdoaa", sum := "942b23f6f3829d31dffd3cf01c334f5cd5ae37304b19eaee047f6010616c8503", func := "tithebarn/tithebarnlaw12.LedgerOf", spec := "ledgerOf", unfollowed := true, recurses := true, plainKeys := false, apart := false, narrowed := true }
def LedgerOfUptoSaid : Prop := ledgerOfUptoRow.holds Try.pinned (OpenSpec.upto ledgerOfSpec)

end Rows
end Go.Proofs.Ytjkmcncgndkdoaa
