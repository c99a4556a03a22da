/-
  Rows of elements of k cells that are put in order in place: the words; the insertion sort's walk, over any program that bears the function.
-/
import Derived.Test.YtbfpljnfalopdaaPath
import Derived.Test.YtbfpljnfalopdaaOrdWalk
import Derived.Shelf.SlSortCmp.Insertion
import Derived.Shelf.SlicesQ.Reverse
import Derived.Shelf.RegionOpenPlain
import Derived.Shelf.GgSortFunc.InsertionK
set_option linter.unusedVariables false
set_option linter.unusedSimpArgs false
namespace Go.Proofs.Ytbfpljnfalopdaa.Srt
open Go Go.RowKit Go.Sort Go.Proofs.Ytbfpljnfalopdaa.L Go.Proofs.Ytbfpljnfalopdaa.CfgW

/-- What is asked of the program's types, elements having k cells. -/
structure PK (P : Program) (k : Nat) : Prop where
  mixed : P.follows .mixedOrders = true
  t3 : P.underlying 3 = some (TypeDesc.int IntKind.i64)
  a3 : ∀ w, (isAgg 3).run P w = .ok false w
  z3 : ∀ w, (Go.sizeOf 3).run P w = .ok 1 w
  v3 : ∀ w, (zeroValue 3).run P w = .ok (Value.int IntKind.i64 0) w
  t4 : P.underlying 4 = some TypeDesc.bool
  a4 : ∀ w, (isAgg 4).run P w = .ok false w
  z4 : ∀ w, (Go.sizeOf 4).run P w = .ok 1 w
  v4 : ∀ w, (zeroValue 4).run P w = .ok (Value.bool false) w
  t49 : P.underlying 49 = some (TypeDesc.slice 57)
  a49 : ∀ w, (isAgg 49).run P w = .ok false w
  z49 : ∀ w, (Go.sizeOf 49).run P w = .ok 1 w
  v49 : ∀ w, (zeroValue 49).run P w = .ok (Value.slice none 0 0) w
  tu : P.underlying 110 = some (TypeDesc.int IntKind.u64)
  au : ∀ w, (isAgg 110).run P w = .ok false w
  zu : ∀ w, (Go.sizeOf 110).run P w = .ok 1 w
  aE : ∀ w, (isAgg 57).run P w = .ok true w
  zE : ∀ w, (Go.sizeOf 57).run P w = .ok k w

section
variable {P : Program} {α : Type} [Inhabited α]
theorem holdsK_below {enc : α → List Value} {k : Nat} {w w' : World} {blk off : Nat} {d : Array α} (h : HoldsK enc k w blk off d) (hb : blk < w.heap.size) (hw : Below w.heap.size w w') : HoldsK enc k w' blk off d := fun j hj =>
  ⟨(hw.cell (p := ⟨blk, off + j, none⟩) hb).trans (h j hj).1, (hw.frozen (p := ⟨blk, off + j, none⟩) hb).trans (h j hj).2⟩

/-- What is asked of the function that compares: wherever only block blk has turned it answers, and turns nothing. -/
def CmpIn (P : Program) (g : Nat) (cb : Array Value) (enc : α → List Value) (cf : α → α → Int) (blk : Nat) (w : World) : Prop :=
  ∀ W, Kept (fun i => i = blk) w W → ∀ x y : α, Calls P g (#[.agg (enc x).toArray, .agg (enc y).toArray] ++ cb) W fun e w' => e = .returned (.int .i64 (cf x y)) ∧ Onward W w'

/-- The row holds d; nothing else has turned. -/
structure Sit (enc : α → List Value) (k : Nat) (w : World) (blk off : Nat) (d : Array α) (W : World) : Prop where
  kept : Kept (fun i => i = blk) w W
  holds : HoldsK enc k W blk off d
  lt : blk < W.heap.size
theorem Sit.start {enc : α → List Value} {k : Nat} {w : World} {blk off : Nat} {d : Array α} (h : HoldsK enc k w blk off d) (hb : blk < w.heap.size) : Sit enc k w blk off d w := ⟨Kept.refl _ _, h, hb⟩
theorem Sit.on {enc : α → List Value} {k : Nat} {w W W' : World} {blk off : Nat} {d : Array α} (h : Sit enc k w blk off d W) (hb : Onward W W') : Sit enc k w blk off d W' :=
  ⟨h.kept.trans (Kept.of_below hb), holdsK_below h.holds h.lt hb, Nat.lt_of_lt_of_le h.lt (Below.size hb)⟩
theorem Sit.load {enc : α → List Value} {k : Nat} {w W : World} {blk off : Nat} {d : Array α} (h : Sit enc k w blk off d W) (hk : ∀ x, (enc x).length = k) {j : Nat} (hj : j < d.size) :
    Sem.run P (loadCellsFrom ⟨blk, off + j * k, none⟩ 0 k #[]) W = .ok (enc d[j]!).toArray W := run_loadCellsFrom_list P _ _ _ k (hk _) (HoldsK.cells h.holds hk hj)
theorem size_setCells_c (g : Nat) : ∀ (vs : List Value) (o : Nat) (w : World), (w.setCells g o vs).heap.size = w.heap.size
  | [], o, w => rfl
  | v :: vs, o, w => by rw [World.setCells, size_setCells_c g vs]; simp [World.setCell]
/-- Two elements change places: both runs of stores. -/
theorem Sit.swap {enc : α → List Value} {k : Nat} {w W : World} {blk off : Nat} {d : Array α} (h : Sit enc k w blk off d W) (hk : ∀ x, (enc x).length = k) (h1 : ∀ x, ∀ v ∈ enc x, v.oneCell' = true) {i j : Nat} (hi : i < d.size) (hj : j < d.size) :
    Sem.run P (storeCells ⟨blk, off + i * k, none⟩ (enc d[j]!) 0) W = .ok () (W.setCells blk (off + i * k) (enc d[j]!)) ∧
    Sem.run P (storeCells ⟨blk, off + j * k, none⟩ (enc d[i]!) 0) (W.setCells blk (off + i * k) (enc d[j]!)) = .ok () ((W.setCells blk (off + i * k) (enc d[j]!)).setCells blk (off + j * k) (enc d[i]!)) ∧
    Sit enc k w blk off (swp d i j) ((W.setCells blk (off + i * k) (enc d[j]!)).setCells blk (off + j * k) (enc d[i]!)) := by
  have bnd : ∀ x, x < d.size → x * k + k ≤ d.size * k := fun x hx => by
    have := Nat.mul_le_mul_right k (show x + 1 ≤ d.size from hx); rwa [Nat.add_mul, Nat.one_mul] at this
  have f1 : (i * k) + (enc d[j]!).length ≤ (flatK enc k d).size := by rw [hk, size_flatK]; exact bnd i hi
  have hs : ∀ (F : Array Value) (s : Nat) (vs : List Value) (W : World), Holds id W blk off F → s + vs.length ≤ F.size → Holds id (W.setCells blk (off + s) vs) blk off (setMany F s vs) := fun F s vs W h hl => by
    have e : W.setCells blk (off + s) vs = putRow id W blk off (setMany F s vs) := by
      conv => lhs; rw [← putRow_self id W blk off F h]
      exact setCells_putRow _ _ _ _ _ _ hl
    rw [e]
    exact holds_putRow id W blk off F _ h (by rw [size_setMany])
  have h2 := hs _ _ _ _ h.holds f1
  have f2 : (j * k) + (enc d[i]!).length ≤ (setMany (flatK enc k d) (i * k) (enc d[j]!)).size := by rw [hk, size_setMany, size_flatK]; exact bnd j hj
  refine ⟨stores_of_holds P h.holds _ _ f1 (h1 _), stores_of_holds P h2 _ _ f2 (h1 _), (h.kept.trans (kept_setCells blk _ _ _)).trans (kept_setCells blk _ _ _), ?_, by rw [size_setCells_c, size_setCells_c]; exact h.lt⟩
  have h3 := hs _ _ _ _ h2 f2
  rw [setMany_swp enc k hk d i j hi hj] at h3
  exact h3
end
end Go.Proofs.Ytbfpljnfalopdaa.Srt
