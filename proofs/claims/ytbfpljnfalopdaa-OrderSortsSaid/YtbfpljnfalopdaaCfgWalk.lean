/-
  Trimmed for this seat: CfgWalk.
-/
import Derived.Test.YtbfpljnfalopdaaVecS
import Derived.Test.YtbfpljnfalopdaaCfgPlain
import Derived.Test.YtbfpljnfalopdaaOpen
import Derived.Test.YtbfpljnfalopdaaKeepTail
set_option linter.unusedVariables false
set_option linter.unusedSimpArgs false
namespace Go.Proofs.Ytbfpljnfalopdaa.L
open Go Go.RowKit
/-- Whatever the world that came of w0, all of it kept: called with these arguments the function gives v, and what was there stays. -/
def GivesAt (P : Program) (w0 : World) (f : FuncId) (args : Array Value) (v : Value) : Prop := ∀ w : World, Below w0.heap.size w0 w → Calls P f args w fun e w' => e = .returned v ∧ Below w.heap.size w w'
theorem Gives.at_ {P : Program} {f : FuncId} {args : Array Value} {v : Value} (g : Gives P f args v) (w0 : World) : GivesAt P w0 f args v := fun w _ => g w
theorem GivesAt.on {P : Program} {w0 w1 : World} {f : FuncId} {args : Array Value} {v : Value} (g : GivesAt P w0 f args v) (h : Below w0.heap.size w0 w1) : GivesAt P w1 f args v := fun w hw => g w (keeps_trans h hw)
theorem GivesAt.up {P : Program} {w0 wb : World} {f : FuncId} {args : Array Value} {v : Value} (g : GivesAt P w0 f args v) (h : Below w0.heap.size w0 wb) : ∀ W, Onward wb W → Calls P f args W fun e W' => e = .returned v ∧ Onward wb W' :=
  fun W hW => (g W (keeps_trans h hW)).mono fun _ _ ⟨he, hb⟩ => ⟨he, hW.after hb⟩
theorem GivesAt.val {P : Program} {w0 : World} {f : FuncId} {args : Array Value} {v v' : Value} (h : GivesAt P w0 f args v) (e : v = v') : GivesAt P w0 f args v' := e ▸ h
end Go.Proofs.Ytbfpljnfalopdaa.L
namespace Go.Proofs.Ytbfpljnfalopdaa.CfgW
open Go.RowKit Go.Proofs.Ytbfpljnfalopdaa.L

def ndec (x : Cfg.Node) : List Value := [.int .i64 x.parent, .int .i64 x.weight, .int .i64 x.nominal.x, .int .i64 x.nominal.y, .int .i64 x.nominal.z, .int .i64 x.borrow.x, .int .i64 x.borrow.y, .int .i64 x.borrow.z, .int .i64 x.lend.x, .int .i64 x.lend.y, .int .i64 x.lend.z]
def hdec (x : Cfg.Host) : List Value := [.int .i64 x.flavor, .int .i64 x.block, .int .i64 x.rack, .int .i64 x.cap.x, .int .i64 x.cap.y, .int .i64 x.cap.z]
def nval (x : Cfg.Node) : Value := .agg #[.int .i64 x.parent, .int .i64 x.weight, .int .i64 x.nominal.x, .int .i64 x.nominal.y, .int .i64 x.nominal.z, .int .i64 x.borrow.x, .int .i64 x.borrow.y, .int .i64 x.borrow.z, .int .i64 x.lend.x, .int .i64 x.lend.y, .int .i64 x.lend.z]
/-- A slice of nodes that is read. -/
def Nodes (w : World) (v : Value) (xs : List Cfg.Node) : Prop := ∃ A cap, v = .slice A xs.length cap ∧ RowOf w A 11 ndec xs ∧ xs.length ≤ maxLen
def Hosts (w : World) (v : Value) (xs : List Cfg.Host) : Prop := ∃ A cap, v = .slice A xs.length cap ∧ RowOf w A 6 hdec xs ∧ xs.length ≤ maxLen
def CfgAt (w : World) (v : Value) (c : Cfg.C) : Prop := ∃ v1 v2, v = .agg #[v1, v2, .int .i64 c.half, .int .i64 c.age] ∧ Nodes w v1 c.nodes ∧ Hosts w v2 c.hosts
theorem Nodes.below {w w' : World} {v : Value} {xs : List Cfg.Node} (h : Nodes w v xs) (hb : Below w.heap.size w w') : Nodes w' v xs := by
  obtain ⟨A, cap, e, hr, hl⟩ := h
  exact ⟨A, cap, e, hr.below hb, hl⟩
theorem Hosts.below {w w' : World} {v : Value} {xs : List Cfg.Host} (h : Hosts w v xs) (hb : Below w.heap.size w w') : Hosts w' v xs := by
  obtain ⟨A, cap, e, hr, hl⟩ := h
  exact ⟨A, cap, e, hr.below hb, hl⟩
theorem CfgAt.below {w w' : World} {v : Value} {c : Cfg.C} (h : CfgAt w v c) (hb : Below w.heap.size w w') : CfgAt w' v c := by
  obtain ⟨v1, v2, e, h1, h2⟩ := h
  exact ⟨v1, v2, e, h1.below hb, h2.below hb⟩

/-- A node's cells. -/
def NodeAt (w : World) (b o : Nat) (x : Cfg.Node) : Prop :=
  w.cell? ⟨b, o, none⟩ = some (.int .i64 x.parent) ∧ w.cell? ⟨b, o + 1, none⟩ = some (.int .i64 x.weight) ∧
  w.cell? ⟨b, o + 2, none⟩ = some (.int .i64 x.nominal.x) ∧ w.cell? ⟨b, o + 3, none⟩ = some (.int .i64 x.nominal.y) ∧ w.cell? ⟨b, o + 4, none⟩ = some (.int .i64 x.nominal.z) ∧
  w.cell? ⟨b, o + 5, none⟩ = some (.int .i64 x.borrow.x) ∧ w.cell? ⟨b, o + 6, none⟩ = some (.int .i64 x.borrow.y) ∧ w.cell? ⟨b, o + 7, none⟩ = some (.int .i64 x.borrow.z) ∧
  w.cell? ⟨b, o + 8, none⟩ = some (.int .i64 x.lend.x) ∧ w.cell? ⟨b, o + 9, none⟩ = some (.int .i64 x.lend.y) ∧ w.cell? ⟨b, o + 10, none⟩ = some (.int .i64 x.lend.z)
theorem row_node {w : World} {A : Option Addr} {xs : List Cfg.Node} (h : RowOf w A 11 ndec xs) {k : Nat} (hk : k < xs.length) : ∃ b o, A = some ⟨b, o, none⟩ ∧ b < w.heap.size ∧ ∀ w', Below w.heap.size w w' → NodeAt w' b (o + k * 11) xs[k] := by
  obtain ⟨b, o, rfl, hlt, hc⟩ := h (by intro e; subst e; simp at hk)
  have hx := List.getElem?_eq_getElem hk
  refine ⟨b, o, rfl, hlt, fun w' hb => ?_⟩
  have key : ∀ j v, (ndec xs[k])[j]? = some v → w'.cell? ⟨b, o + k * 11 + j, none⟩ = some v := fun j v hv => (hb.cell (p := ⟨b, o + k * 11 + j, none⟩) hlt).trans (hc k xs[k] hx j v hv)
  exact ⟨key 0 _ rfl, key 1 _ rfl, key 2 _ rfl, key 3 _ rfl, key 4 _ rfl, key 5 _ rfl, key 6 _ rfl, key 7 _ rfl, key 8 _ rfl, key 9 _ rfl, key 10 _ rfl⟩
theorem row_parent {w : World} {A : Option Addr} {xs : List Cfg.Node} (h : RowOf w A 11 ndec xs) {k : Nat} (hk : k < xs.length) : ∃ b o, A = some ⟨b, o, none⟩ ∧ b < w.heap.size ∧ ∀ w', Below w.heap.size w w' → w'.cell? ⟨b, o + k * 11, none⟩ = some (.int .i64 xs[k].parent) := by
  obtain ⟨b, o, e, hlt, hc⟩ := row_node h hk
  exact ⟨b, o, e, hlt, fun w' hb => (hc w' hb).1⟩

set_option maxRecDepth 100000 in
set_option maxHeartbeats 400000 in
theorem clo_any (x : Cfg.Node) (n : Int) (b : Nat) (w : World) (hb : b < w.heap.size) (hc : w.cell? ⟨b, 0, none⟩ = some (.int .i64 n)) :
    Calls Try.prog 55 #[nval x, .pointer (some ⟨b, 0, none⟩)] w fun e w' => e = .returned (.bool (x.parent == n)) ∧ Below w.heap.size w w' := by
  unfold nval
  have hne : ¬ b = w.heap.size := by omega
  go_enter Try.func55, Try.ntmps55
  go_wp2
  go_ret
  exact ⟨rfl, (Below.refl _ _).alloc (Nat.le_refl _) _⟩
end Go.Proofs.Ytbfpljnfalopdaa.CfgW
