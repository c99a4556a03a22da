/-
  append(append(nil, row..), x) and rows laid by a literal: rows of whole numbers, rows of such rows.
-/
import Derived.Test.YtjkmcncgndkdoaaGRow
set_option linter.unusedVariables false
set_option linter.unusedSimpArgs false
namespace Go.Proofs.Ytjkmcncgndkdoaa.L
open Go Go.RowKit
section
variable {P : Program}
theorem append_none {w : World} {B : Nat} {v : Value} {xs : List Value} (t ty E : TypeId) (i : TypeInfo) (ht : P.underlying t = some (.slice E)) (hi : P.info? E = some i) (hsz : i.size = 1) (h : RowV w B E v xs) (c : Nat) :
    (Builtin.append_ #[t, t] ty #[v, .slice none 0 c]).run P w = .ok v w := by
  rcases h.2 with ⟨rfl, hx⟩ | ⟨g, cap, cur, rfl, _, _, hnc, _⟩
  · simp [Builtin.append_, run_underlying ht, sizeOf, typeInfo, hi, Builtin.lenOf, Builtin.firstCells, hx]
  · simp [Builtin.append_, run_underlying ht, sizeOf, typeInfo, hi, Builtin.lenOf, Builtin.firstCells, hnc, storeCells]
/-- All elements of one row behind those of another. -/
theorem append_all {w : World} {B C : Nat} {v u : Value} {xs ys : List Value} (t ty E : TypeId) (i : TypeInfo) (z : Value) (bytes : Nat) (ht : P.underlying t = some (.slice E)) (hi : P.info? E = some i) (hz : i.zero = some z) (hsz : i.size = 1) (hby : i.bytes = bytes) (hzs : z.cells.size = 1)
    (h : RowV w B E v xs) (k : RowV w C E u ys) (hB : B ≤ w.heap.size) (h1 : ∀ x ∈ ys, x.oneCell' = true) (hlen : (xs.length + ys.length) * bytes ≤ 140737488355328) (hlen2 : xs.length + ys.length ≤ 140737488355328) :
    ∃ v' w', (Builtin.append_ #[t, t] ty #[v, u]).run P w = .ok v' w' ∧ RowV w' B E v' (xs ++ ys) ∧ w.grownBy w' v.ownBlock ∧ (∀ k, v'.ownBlock = some k → v.ownBlock = some k ∨ w.heap.size ≤ k) := by
  obtain ⟨a, c, rfl, hc⟩ := k.form
  cases a with
  | none =>
    have hn : ys = [] := by
      rcases ys with _ | ⟨y, ys⟩
      · rfl
      · obtain ⟨g, e, _⟩ := hc (by simp); cases e
    subst hn
    exact ⟨v, w, append_none t ty E i ht hi hsz h c, by simpa using h, World.grownBy.refl w _, fun k hk => .inl hk⟩
  | some ad =>
    obtain ⟨v', w', hr, ho, hg, _, hat⟩ := run_append_own_at (P := P) w B t ty E i z 1 bytes ht hi hz hsz hby hzs (by omega) v xs.length xs h ad ys.length c ys (by simp)
      (fun j u hu => by
        obtain ⟨g, e, _, hcell⟩ := hc (by intro e; subst e; simp at hu)
        injection e with e
        subst e
        rw [addr_add]
        exact hcell j u hu) h1 (by unfold maxLen; omega) hlen hB
    refine ⟨v', w', hr, ?_, hg, fun k hk => ?_⟩
    · unfold RowV; rw [List.length_append]; exact ho
    · rcases hat with e | e
      · exact .inl (e ▸ hk)
      · rw [e] at hk
        right
        have : w.heap.size = k := by injection hk
        omega
end
end Go.Proofs.Ytjkmcncgndkdoaa.L
namespace Go.Proofs.Ytjkmcncgndkdoaa.CfgW
open Go.RowKit Go.Proofs.Ytjkmcncgndkdoaa.L

theorem ints_lit (w : World) (k : Nat) : Ints (w.alloc (.cells #[.int .i64 (k : Int)] 3)) w.heap.size (.slice (some ⟨w.heap.size, 0, none⟩) 1 1) [k] := by
  refine ⟨rfl, .inr ⟨w.heap.size, 1, #[.int .i64 (k : Int)], rfl, Nat.le_refl _, heap_alloc_new w _, Nat.le_refl _, by unfold maxLen; omega, rfl, rfl⟩⟩
theorem ints_both {w : World} {B : Nat} {x : Value} {l : List Nat} (h : Ints w B x l) (hl : l.length ≤ 1000000) (k : Nat) :
    ∃ v1 w1 v2 w2, (Builtin.append_ #[37, 37] 37 #[.slice none 0 0, x]).run Try.prog w = .ok v1 w1 ∧
      (Builtin.append_ #[37, 37] 37 #[v1, .slice (some ⟨w1.heap.size, 0, none⟩) 1 1]).run Try.prog (w1.alloc (.cells #[.int .i64 (k : Int)] 3)) = .ok v2 w2 ∧ Ints w2 w.heap.size v2 (l ++ [k]) ∧ Below w.heap.size w w2 ∧ Kept (fun _ => False) w w2 ∧ Ints w1 w.heap.size v1 l := by
  obtain ⟨i0, hi, hz0, hz1, hz2⟩ := info_parts intinfo
  have hlm : (ival l).length = l.length := by simp [ival]
  obtain ⟨v1, w1, hr1, ho1, hg1, hn1⟩ := append_all (P := Try.prog) 37 37 3 i0 _ 8 Try.underlying37 hi hz0 hz1 hz2 rfl (RowV.nil w w.heap.size _) h (Nat.le_refl _) (fun y hy => by obtain ⟨_, _, rfl⟩ := List.mem_map.1 hy; rfl) (by simp; omega) (by simp; omega)
  rw [List.nil_append] at ho1
  have hb1 : Below w.heap.size w w1 := (Below.refl _ _).grown hg1 (Nat.le_refl _) (fun k hk => by cases hk)
  obtain ⟨v2, w2, hr2, ho2, hg2, hn2⟩ := append_int (l := l) ho1 hb1.size k (by omega)
  have hb2 : Below w.heap.size w w2 := (hb1.alloc hb1.size _).grown hg2 (by have := hb1.size; simp; omega) (fun k hk => (ho1.lt k hk).1)
  exact ⟨v1, w1, v2, w2, hr1, hr2, ho2, hb2, Kept.of_below hb2, ho1⟩
/-- A row of rows: one of them is laid anew with one more behind. -/
theorem grow_again {w : World} {B g n c : Nat} {gs : List (List Nat)} (h : GRow w B (.slice (some ⟨g, 0, none⟩) n c) gs) (hB : B ≤ w.heap.size) {j : Nat} (hj : j < gs.length) (k : Nat) (hl : gs[j].length ≤ 1000000) :
    ∃ x v1 w1 v2 w2, w.cell? ⟨g, j, none⟩ = some x ∧ (Builtin.append_ #[37, 37] 37 #[.slice none 0 0, x]).run Try.prog w = .ok v1 w1 ∧
      (Builtin.append_ #[37, 37] 37 #[v1, .slice (some ⟨w1.heap.size, 0, none⟩) 1 1]).run Try.prog (w1.alloc (.cells #[.int .i64 (k : Int)] 3)) = .ok v2 w2 ∧
      w2.cell? ⟨g, j, none⟩ = some x ∧ w2.frozen? ⟨g, j, none⟩ = false ∧ GRow (w2.setCell ⟨g, j, none⟩ v2) B (.slice (some ⟨g, 0, none⟩) n c) (gs.set j (gs[j] ++ [k])) ∧ Below B w (w2.setCell ⟨g, j, none⟩ v2) ∧
      (∃ a m q, x = .slice a m q) ∧ (∃ a m q, v1 = .slice a m q) ∧ (∃ a m q, v2 = .slice a m q) ∧ g < w.heap.size ∧ n = gs.length := by
  obtain ⟨hBg, hlg, hfz, x, hx, hI, hne⟩ := h.at_ hj
  obtain ⟨v1, w1, v2, w2, hr1, hr2, ho2, hb2, hk2, ho1⟩ := ints_both hI hl k
  have hset := h.set hj hx (hk2.mono fun i _ e => e.elim) (RowV.low ho2 hB) (fun k hk => .inr (ho2.lt k hk).1)
  have hblk : w2.heap[g]? = w.heap[g]? := hb2.block g hlg
  have hnn : n = gs.length := by
    obtain ⟨vs, hlv, hr, _⟩ := h
    rcases hr.2 with ⟨e, _⟩ | ⟨g', cap, cur, e, _⟩
    · cases e
    · cases e; exact hlv
  obtain ⟨a1, c1, e1, _⟩ := RowV.form hI
  obtain ⟨a2, c2, e2, _⟩ := RowV.form ho2
  obtain ⟨a3, c3, e3, _⟩ := RowV.form ho1
  exact ⟨x, v1, w1, v2, w2, hx, hr1, hr2, (World.cell?_of_block (a := ⟨g, j, none⟩) hblk).trans hx, (World.frozen?_of_block (a := ⟨g, j, none⟩) hblk).trans hfz, hset,
    (hb2.mono hB).setCell (p := ⟨g, j, none⟩) hBg _, ⟨_, _, _, e1⟩, ⟨_, _, _, e3⟩, ⟨_, _, _, e2⟩, hlg, hnn⟩
/-- The first of a row that is not empty. -/
theorem grow_head {w : World} {B g n c : Nat} {gs : List (List Nat)} (h : GRow w B (.slice (some ⟨g, 0, none⟩) n c) gs) {j : Nat} (hj : j < gs.length) {a : Nat} {t : List Nat} (hl : gs[j] = a :: t) :
    B ≤ g ∧ g < w.heap.size ∧ ∃ G m q, w.cell? ⟨g, j, none⟩ = some (.slice (some ⟨G, 0, none⟩) (m + 1) q) ∧ m = t.length ∧ G < w.heap.size ∧ w.cell? ⟨G, 0, none⟩ = some (.int .i64 (a : Int)) := by
  obtain ⟨hBg, hlg, hfz, x, hx, hI, hne⟩ := h.at_ hj
  rw [hl] at hI
  obtain ⟨A, c1, e1, hc⟩ := ints_cell hI
  obtain ⟨G, eG, hBG, hGl, hG⟩ := hc 0 a rfl
  subst e1 eG
  exact ⟨hBg, hlg, G, t.length, c1, hx, rfl, hGl, hG⟩
end Go.Proofs.Ytjkmcncgndkdoaa.CfgW
