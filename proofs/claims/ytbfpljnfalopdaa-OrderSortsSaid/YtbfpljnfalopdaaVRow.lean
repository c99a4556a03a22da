/-
  Rows of amounts that the program owns: made, read, stored into, one more behind.
-/
import Derived.Test.YtbfpljnfalopdaaCfgLeaves
import Derived.Laws.OwnMore
set_option linter.unusedVariables false
set_option linter.unusedSimpArgs false
namespace Go.Proofs.Ytbfpljnfalopdaa.CfgW
open Go.RowKit Go.Proofs.Ytbfpljnfalopdaa.L

def vdec (v : Vec.V) : List Value := [.int .i64 v.x, .int .i64 v.y, .int .i64 v.z]
def vcells : List Vec.V → List Value
  | [] => []
  | v :: l => .int .i64 v.x :: .int .i64 v.y :: .int .i64 v.z :: vcells l
theorem vcells_length : ∀ l : List Vec.V, (vcells l).length = l.length * 3
  | [] => rfl
  | v :: l => by simp only [vcells, List.length_cons, vcells_length l]; omega
theorem vcells_app : ∀ a b : List Vec.V, vcells (a ++ b) = vcells a ++ vcells b
  | [], b => rfl
  | v :: l, b => by simp only [vcells, List.cons_append, vcells_app l b]
theorem vcells_at : ∀ (l : List Vec.V) (i : Nat) (v : Vec.V), l[i]? = some v → (vcells l)[i * 3]? = some (.int .i64 v.x) ∧ (vcells l)[i * 3 + 1]? = some (.int .i64 v.y) ∧ (vcells l)[i * 3 + 2]? = some (.int .i64 v.z)
  | [], i, v, h => by simp at h
  | u :: l, 0, v, h => by simp at h; subst h; exact ⟨rfl, rfl, rfl⟩
  | u :: l, i + 1, v, h => by
    have := vcells_at l i v (by simpa using h)
    rw [show (i + 1) * 3 = i * 3 + 1 + 1 + 1 by omega]
    simpa [vcells] using this
theorem vcells_set : ∀ (l : List Vec.V) (i : Nat) (v : Vec.V), vcells (l.set i v) = (((vcells l).set (i * 3) (.int .i64 v.x)).set (i * 3 + 1) (.int .i64 v.y)).set (i * 3 + 2) (.int .i64 v.z)
  | [], i, v => by simp [vcells]
  | u :: l, 0, v => by simp [vcells]
  | u :: l, i + 1, v => by
    have := vcells_set l i v
    rw [show (i + 1) * 3 = i * 3 + 1 + 1 + 1 by omega]
    simp only [List.set_cons_succ, vcells, this]
theorem vcells_cut : ∀ (l : List Vec.V), ∀ u ∈ vcells l, u.oneCell' = true
  | [], u, h => by simp [vcells] at h
  | v :: l, u, h => by
    simp only [vcells, List.mem_cons] at h
    rcases h with rfl | rfl | rfl | h
    · rfl
    · rfl
    · rfl
    · exact vcells_cut l u h
theorem vcells_rep : ∀ n : Nat, vcells (List.replicate n Vec.zero) = List.replicate (n * 3) (.int .i64 0)
  | 0 => rfl
  | n + 1 => by rw [List.replicate_succ, vcells, vcells_rep n, show (n + 1) * 3 = n * 3 + 1 + 1 + 1 by omega]; rfl

/-- The slice v holds the amounts xs, in a row of its own from block B on. -/
def VRow (w : World) (B : Nat) (v : Value) (xs : List Vec.V) : Prop := w.ownsRow B 29 3 v xs.length (vcells xs)
/-- A slice of amounts that is read. -/
def VSl (w : World) (v : Value) (xs : List Vec.V) : Prop := ∃ A cap, v = .slice A xs.length cap ∧ RowOf w A 3 vdec xs ∧ xs.length ≤ maxLen
theorem VSl.below {w w' : World} {v : Value} {xs : List Vec.V} (h : VSl w v xs) (hb : Below w.heap.size w w') : VSl w' v xs := by
  obtain ⟨A, cap, e, hr, hl⟩ := h
  exact ⟨A, cap, e, hr.below hb, hl⟩
/-- An amount's cells. -/
def VAt (w : World) (b o : Nat) (v : Vec.V) : Prop := w.cell? ⟨b, o, none⟩ = some (.int .i64 v.x) ∧ w.cell? ⟨b, o + 1, none⟩ = some (.int .i64 v.y) ∧ w.cell? ⟨b, o + 2, none⟩ = some (.int .i64 v.z)
theorem row_vec {w : World} {A : Option Addr} {xs : List Vec.V} (h : RowOf w A 3 vdec xs) {k : Nat} (hk : k < xs.length) : ∃ b o, A = some ⟨b, o, none⟩ ∧ b < w.heap.size ∧ ∀ w', Below w.heap.size w w' → VAt w' b (o + k * 3) xs[k] := by
  obtain ⟨b, o, rfl, hlt, hc⟩ := h (by intro e; subst e; simp at hk)
  have hx := List.getElem?_eq_getElem hk
  refine ⟨b, o, rfl, hlt, fun w' hb => ?_⟩
  have key : ∀ j v, (vdec xs[k])[j]? = some v → w'.cell? ⟨b, o + k * 3 + j, none⟩ = some v := fun j v hv => (hb.cell (p := ⟨b, o + k * 3 + j, none⟩) hlt).trans (hc k xs[k] hx j v hv)
  exact ⟨key 0 _ rfl, key 1 _ rfl, key 2 _ rfl⟩

theorem VRow.nil (w : World) (B : Nat) : VRow w B (.slice none 0 0) [] := World.ownsRow_nil w B _ 3
theorem VRow.lt {w : World} {B : Nat} {v : Value} {xs : List Vec.V} (h : VRow w B v xs) : ∀ k, v.ownBlock = some k → B ≤ k ∧ k < w.heap.size := World.ownsRow.lt h
theorem VRow.kept {w w' : World} {B : Nat} {v : Value} {xs : List Vec.V} (h : VRow w B v xs) (hk : ∀ k, v.ownBlock = some k → w'.heap[k]? = w.heap[k]?) : VRow w' B v xs := by
  refine ⟨h.1, ?_⟩
  rcases h.2 with h1 | ⟨g, cap, cur, rfl, hb, hh, r⟩
  · exact .inl h1
  · exact .inr ⟨g, cap, cur, rfl, hb, (hk g rfl).trans hh, r⟩
theorem VRow.below {w w' : World} {B : Nat} {v : Value} {xs : List Vec.V} (h : VRow w B v xs) (hb : Below w.heap.size w w') : VRow w' B v xs := h.kept fun k hk => hb.block k (h.lt k hk).2
theorem VRow.low {w : World} {B B' : Nat} {v : Value} {xs : List Vec.V} (h : VRow w B v xs) (hB : B' ≤ B) : VRow w B' v xs := by
  refine ⟨h.1, ?_⟩
  rcases h.2 with h1 | ⟨g, cap, cur, e, hb, r⟩
  · exact .inl h1
  · exact .inr ⟨g, cap, cur, e, by omega, r⟩
theorem VRow.sl {w : World} {B : Nat} {v : Value} {xs : List Vec.V} (h : VRow w B v xs) : VSl w v xs := by
  rcases h.2 with ⟨rfl, hx⟩ | ⟨g, cap, cur, rfl, hb, hh, hc, hm, _⟩
  · refine ⟨none, 0, by rw [hx], fun hne => absurd (List.eq_nil_of_length_eq_zero hx) hne, by unfold maxLen; omega⟩
  · refine ⟨_, _, rfl, fun hne => ⟨g, 0, rfl, (h.lt g rfl).2, fun i x hx j u hu => ?_⟩, by omega⟩
    obtain ⟨h0, h1, h2⟩ := vcells_at xs i x hx
    have key := fun j u hu => World.ownsRow.cells h (g := g) rfl j u hu
    have e0 := key _ _ h0
    have e1 := key _ _ h1
    have e2 := key _ _ h2
    rw [addr_add] at e0 e1 e2
    rw [show (0 : Nat) + i * 3 + j = i * 3 + j by omega]
    match j, hu with
    | 0, hu => simp [vdec] at hu; subst hu; exact e0
    | 1, hu => simp [vdec] at hu; subst hu; exact e1
    | 2, hu => simp [vdec] at hu; subst hu; exact e2
    | j + 3, hu => simp [vdec] at hu
theorem VRow.set {w : World} {B g n c : Nat} {xs : List Vec.V} (h : VRow w B (.slice (some ⟨g, 0, none⟩) n c) xs) (i : Nat) (v : Vec.V) :
    VRow (((w.setCell ⟨g, i * 3, none⟩ (.int .i64 v.x)).setCell ⟨g, i * 3 + 1, none⟩ (.int .i64 v.y)).setCell ⟨g, i * 3 + 2, none⟩ (.int .i64 v.z)) B (.slice (some ⟨g, 0, none⟩) n c) (xs.set i v) := by
  have hn : n = xs.length := by
    rcases h.2 with ⟨e, hx⟩ | ⟨g', cap, cur, e, _⟩
    · cases e
    · cases e; rfl
  subst hn
  unfold VRow
  rw [vcells_set, List.length_set]
  exact (World.ownsRow.stored (World.ownsRow.stored (World.ownsRow.stored h (i * 3) _).1 (i * 3 + 1) _).1 (i * 3 + 2) _).1
theorem VRow.ok {w : World} {B g n c : Nat} {xs : List Vec.V} (h : VRow w B (.slice (some ⟨g, 0, none⟩) n c) xs) (j : Nat) : w.frozen? ⟨g, j, none⟩ = false := by
  have hn : n = xs.length := by
    rcases h.2 with ⟨e, hx⟩ | ⟨g', cap, cur, e, _⟩
    · cases e
    · cases e; rfl
  subst hn
  exact World.ownsRow.frozenAt h j
theorem VRow.at_ {w : World} {B g n c : Nat} {xs : List Vec.V} (h : VRow w B (.slice (some ⟨g, 0, none⟩) n c) xs) {i : Nat} (hi : i < xs.length) : n = xs.length ∧ B ≤ g ∧ g < w.heap.size ∧ VAt w g (i * 3) xs[i] := by
  have hn : n = xs.length := by
    rcases h.2 with ⟨e, hx⟩ | ⟨g', cap, cur, e, _⟩
    · cases e
    · cases e; rfl
  subst hn
  have hl := h.lt g rfl
  obtain ⟨h0, h1, h2⟩ := vcells_at xs i xs[i] (List.getElem?_eq_getElem hi)
  have key := fun j u hu => World.ownsRow.cells h (g := g) rfl j u hu
  have e0 := key _ _ h0
  have e1 := key _ _ h1
  have e2 := key _ _ h2
  rw [addr_add] at e0 e1 e2
  exact ⟨rfl, hl.1, hl.2, e0, e1, e2⟩
theorem VRow.len {w : World} {B g n c : Nat} {xs : List Vec.V} (h : VRow w B (.slice (some ⟨g, 0, none⟩) n c) xs) : n = xs.length := by
  rcases h.2 with ⟨e, hx⟩ | ⟨g', cap, cur, e, _⟩
  · cases e
  · cases e; rfl
/-- An amount stored. -/
def put3 (w : World) (g o : Nat) (v : Vec.V) : World := ((w.setCell ⟨g, o, none⟩ (.int .i64 v.x)).setCell ⟨g, o + 1, none⟩ (.int .i64 v.y)).setCell ⟨g, o + 2, none⟩ (.int .i64 v.z)
theorem put3_kept (w : World) (g o : Nat) (v : Vec.V) : Kept (fun k => k = g) w (put3 w g o v) := (((Kept.refl (fun k => k = g) w).setCell (p := ⟨g, o, none⟩) (.inl rfl) (.int .i64 v.x)).setCell (p := ⟨g, o + 1, none⟩) (.inl rfl) (.int .i64 v.y)).setCell (p := ⟨g, o + 2, none⟩) (.inl rfl) (.int .i64 v.z)
theorem put3_below {w0 w : World} (h : Below w0.heap.size w0 w) {g : Nat} (hg : w0.heap.size ≤ g) (o : Nat) (v : Vec.V) : Below w0.heap.size w0 (put3 w g o v) :=
  h.trans ((put3_kept w g o v).below h.size (fun i e => e ▸ hg))
/-- An amount in a block that only this call knows. -/
def VBox3 (w : World) (b o : Nat) (v : Vec.V) : Prop := b < w.heap.size ∧ VAt w b o v
theorem VBox3.on {w w' : World} {b o : Nat} {v : Vec.V} (x : VBox3 w b o v) (hb : Below w.heap.size w w') : VBox3 w' b o v :=
  ⟨Nat.lt_of_lt_of_le x.1 hb.size, (hb.cell (p := ⟨b, o, none⟩) x.1).trans x.2.1, (hb.cell (p := ⟨b, o + 1, none⟩) x.1).trans x.2.2.1, (hb.cell (p := ⟨b, o + 2, none⟩) x.1).trans x.2.2.2⟩
theorem VBox3.kept {w w' : World} {b o : Nat} {v : Vec.V} {F : Nat → Prop} (x : VBox3 w b o v) (k : Kept F w w') (hf : ¬ F b) : VBox3 w' b o v :=
  ⟨Nat.lt_of_lt_of_le x.1 k.size, (k.cell (p := ⟨b, o, none⟩) x.1 hf).trans x.2.1, (k.cell (p := ⟨b, o + 1, none⟩) x.1 hf).trans x.2.2.1, (k.cell (p := ⟨b, o + 2, none⟩) x.1 hf).trans x.2.2.2⟩

theorem vecinfo : (Try.prog.info? 29).map (fun i => (i.zero, i.size, i.bytes)) = some (some (.agg #[.int .i64 0, .int .i64 0, .int .i64 0]), 3, 24) := by kernel_rfl
theorem list_made (n : Nat) : (madeCells #[Value.int .i64 0, .int .i64 0, .int .i64 0] (n * 3)).toList = vcells (List.replicate n Vec.zero) := by
  rw [vcells_rep]
  apply List.ext_getElem?
  intro j
  by_cases hj : j < n * 3
  · have h3 : j % 3 = 0 ∨ j % 3 = 1 ∨ j % 3 = 2 := by omega
    rcases h3 with h | h | h <;> simp [madeCells, hj, h]
  · simp [madeCells, hj]
theorem make_vecs (w : World) (n : Nat) (hn : n ≤ 1048576) : ∃ w', (Instr.makeSlice 26 (.int .i64 (n : Int)) (.int .i64 (n : Int))).run Try.prog w = .ok (.slice (some ⟨w.heap.size, 0, none⟩) n n) w' ∧
    VRow w' w.heap.size (.slice (some ⟨w.heap.size, 0, none⟩) n n) (List.replicate n Vec.zero) ∧ Below w.heap.size w w' ∧ w.heap.size < w'.heap.size := by
  obtain ⟨i0, hi, hz0, hz1, hz2⟩ := info_parts vecinfo
  obtain ⟨w', hr, ho, hg⟩ := run_makeSlice_full (P := Try.prog) w w.heap.size 26 29 i0 _ 3 Try.underlying26 hi hz0 hz1 .i64 .i64 n (by omega) (by rw [hz2]; omega) (by unfold maxLen; omega) (Nat.le_refl _)
  have hV : VRow w' w.heap.size (.slice (some ⟨w.heap.size, 0, none⟩) n n) (List.replicate n Vec.zero) := by
    unfold VRow
    rw [List.length_replicate, ← list_made]
    exact ho
  exact ⟨w', hr, hV, (Kept.of_grown (F := fun _ => False) hg (fun i e => by cases e)).below (Nat.le_refl _) (fun i h => h.elim), (hV.lt _ rfl).2⟩
theorem append_vec {w : World} {B : Nat} {v : Value} {xs : List Vec.V} (h : VRow w B v xs) (hB : B ≤ w.heap.size) (x : Vec.V) (hl : xs.length ≤ 1048576) :
    ∃ v' w', (Builtin.append_ #[26, 26] 26 #[v, .slice (some ⟨w.heap.size, 0, none⟩) 1 1]).run Try.prog (w.alloc (.cells #[.int .i64 x.x, .int .i64 x.y, .int .i64 x.z] 29)) = .ok v' w' ∧ VRow w' B v' (xs ++ [x]) ∧
      (w.alloc (.cells #[.int .i64 x.x, .int .i64 x.y, .int .i64 x.z] 29)).grownBy w' v.ownBlock ∧ (∀ k, v'.ownBlock = some k → v.ownBlock = some k ∨ w.heap.size ≤ k) := by
  obtain ⟨i0, hi, hz0, hz1, hz2⟩ := info_parts vecinfo
  have hW : VRow (w.alloc (.cells #[.int .i64 x.x, .int .i64 x.y, .int .i64 x.z] 29)) B v xs := h.below ((Below.refl _ _).alloc (Nat.le_refl _) _)
  obtain ⟨v', w', hr, ho, hg, _, hat⟩ := run_append_own_at (P := Try.prog) (w.alloc (.cells #[.int .i64 x.x, .int .i64 x.y, .int .i64 x.z] 29)) B 26 26 29 i0 _ 3 24 Try.underlying26 hi hz0 hz1 hz2 rfl (by omega) v xs.length (vcells xs) hW ⟨w.heap.size, 0, none⟩ 1 1 (vdec x) rfl
    (fun j u hu => by
      show (w.alloc (.cells #[.int .i64 x.x, .int .i64 x.y, .int .i64 x.z] 29)).cell? (Addr.add ⟨w.heap.size, 0, none⟩ j) = _
      rw [addr_add, World.cell?_alloc_mark]
      simpa [vdec] using hu)
    (fun u hu => by
      simp only [vdec, List.mem_cons, List.not_mem_nil, or_false] at hu
      rcases hu with rfl | rfl | rfl <;> rfl) (by unfold maxLen; omega) (by omega) (by rw [World.size_alloc]; omega)
  refine ⟨v', w', hr, ?_, hg, fun k hk => ?_⟩
  · unfold VRow
    rw [vcells_app, List.length_append]
    exact ho
  · rcases hat with e | e
    · exact .inl (e ▸ hk)
    · rw [e] at hk
      right
      have : (w.alloc (.cells #[Value.int .i64 x.x, .int .i64 x.y, .int .i64 x.z] 29)).heap.size = k := by injection hk
      simp at this; omega
end Go.Proofs.Ytbfpljnfalopdaa.CfgW
