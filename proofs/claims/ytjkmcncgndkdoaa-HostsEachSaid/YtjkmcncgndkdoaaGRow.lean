/-
  Rows of rows of whole numbers that the program owns.
-/
import Derived.Test.YtjkmcncgndkdoaaHostOf
set_option linter.unusedVariables false
set_option linter.unusedSimpArgs false
namespace Go.Proofs.Ytjkmcncgndkdoaa.CfgW
open Go.RowKit Go.Proofs.Ytjkmcncgndkdoaa.L

theorem row_kind {w : World} {B : Nat} {E : TypeId} {v : Value} {xs : List Value} (h : RowV w B E v xs) {g : Nat} (hg : v.ownBlock = some g) : ∃ cur, w.heap[g]? = some (.cells cur E (0, 0)) := by
  rcases h.2 with ⟨rfl, _⟩ | ⟨g', cap, cur, rfl, hb, hh, _⟩
  · cases hg
  · cases hg; exact ⟨cur, hh⟩
/-- The slice v holds the rows gs, each in a block of its own from B on. -/
def GRow (w : World) (B : Nat) (v : Value) (gs : List (List Nat)) : Prop := ∃ vs : List Value, vs.length = gs.length ∧ RowV w B 37 v vs ∧
  (∀ (i : Nat) (x : Value) (l : List Nat), vs[i]? = some x → gs[i]? = some l → Ints w B x l) ∧ (∀ (i j : Nat) (x y : Value) (g : Nat), vs[i]? = some x → vs[j]? = some y → x.ownBlock = some g → y.ownBlock = some g → i = j)
theorem GRow.nil (w : World) (B : Nat) : GRow w B (.slice none 0 0) [] := ⟨[], rfl, RowV.nil _ _ _, fun i x l h => by simp at h, fun i j x y g h => by simp at h⟩
theorem GRow.kept {w w' : World} {B : Nat} {v : Value} {gs : List (List Nat)} {F : Nat → Prop} (h : GRow w B v gs) (k : Kept F w w') (hf : ∀ g cur E, B ≤ g → w.heap[g]? = some (.cells cur E (0, 0)) → ¬ F g) : GRow w' B v gs := by
  obtain ⟨vs, hl, hr, hi, hd⟩ := h
  have key : ∀ {E : TypeId} {u : Value} {xs : List Value}, RowV w B E u xs → RowV w' B E u xs := fun {E u xs} r => r.kept fun g hg => by
    obtain ⟨cur, hc⟩ := row_kind r hg
    exact k.block g (r.lt g hg).2 (hf g cur E (r.lt g hg).1 hc)
  exact ⟨vs, hl, key hr, fun i x l hx hg => key (hi i x l hx hg), hd⟩
theorem GRow.below {w w' : World} {B : Nat} {v : Value} {gs : List (List Nat)} (h : GRow w B v gs) (k : Below w.heap.size w w') : GRow w' B v gs :=
  h.kept (F := fun _ => False) (Kept.of_below k) (fun _ _ _ _ _ f => f)
theorem GRow.low {w : World} {B B' : Nat} {v : Value} {gs : List (List Nat)} (h : GRow w B v gs) (hB : B' ≤ B) : GRow w B' v gs := by
  obtain ⟨vs, hl, hr, hi, hd⟩ := h
  exact ⟨vs, hl, hr.low hB, fun i x l hx hg => RowV.low (hi i x l hx hg) hB, hd⟩
theorem GRow.form {w : World} {B : Nat} {v : Value} {gs : List (List Nat)} (h : GRow w B v gs) : ∃ A c, v = .slice A gs.length c ∧ (0 < gs.length → ∃ g, A = some ⟨g, 0, none⟩) := by
  obtain ⟨vs, hl, hr, _⟩ := h
  rcases hr.2 with ⟨rfl, hx⟩ | ⟨g, cap, cur, rfl, hb, hh, hc⟩
  · exact ⟨none, 0, by rw [← hl, hx], fun h => by omega⟩
  · exact ⟨_, _, by rw [← hl], fun _ => ⟨g, rfl⟩⟩
/-- One of the rows. -/
theorem GRow.at_ {w : World} {B g n c : Nat} {gs : List (List Nat)} (h : GRow w B (.slice (some ⟨g, 0, none⟩) n c) gs) {i : Nat} (hi : i < gs.length) :
    B ≤ g ∧ g < w.heap.size ∧ w.frozen? ⟨g, i, none⟩ = false ∧ ∃ x, w.cell? ⟨g, i, none⟩ = some x ∧ Ints w B x gs[i] ∧ x.ownBlock ≠ some g := by
  obtain ⟨vs, hl, hr, hin, hd⟩ := h
  have hiv : i < vs.length := by omega
  have hlt := hr.lt g rfl
  have hn : n = vs.length := by
    rcases hr.2 with ⟨e, hx⟩ | ⟨g', cap, cur, e, _⟩
    · cases e
    · cases e; rfl
  have hI := hin i vs[i] gs[i] (List.getElem?_eq_getElem hiv) (List.getElem?_eq_getElem hi)
  refine ⟨hlt.1, hlt.2, ?_, vs[i], ?_, hI, fun e => ?_⟩
  · subst hn
    exact World.ownsRow.frozenAt hr i
  · have := World.ownsRow.cells hr (g := g) rfl i vs[i] (List.getElem?_eq_getElem hiv)
    rwa [addr_add] at this
  · obtain ⟨c1, h1⟩ := row_kind hr (g := g) rfl
    obtain ⟨c2, h2⟩ := row_kind hI e
    rw [h1] at h2
    injection h2 with h2
    injection h2 with _ h3 _
    exact absurd h3 (by decide)
/-- One row turned: it has moved to x', the others stand. -/
theorem GRow.set {w w' : World} {B g n c : Nat} {gs : List (List Nat)} (h : GRow w B (.slice (some ⟨g, 0, none⟩) n c) gs) {i : Nat} (hi : i < gs.length) {x x' : Value} {l' : List Nat} (hx : w.cell? ⟨g, i, none⟩ = some x)
    (hk : Kept (fun k => x.ownBlock = some k) w w') (hI : Ints w' B x' l') (hn : ∀ k, x'.ownBlock = some k → x.ownBlock = some k ∨ w.heap.size ≤ k) : GRow (w'.setCell ⟨g, i, none⟩ x') B (.slice (some ⟨g, 0, none⟩) n c) (gs.set i l') := by
  obtain ⟨_, _, _, x0, hx0, hI0, hne0⟩ := h.at_ hi
  rw [hx] at hx0
  injection hx0 with hx0
  subst hx0
  obtain ⟨vs, hl, hr, hin, hd⟩ := h
  have hiv : i < vs.length := by omega
  have hlt := hr.lt g rfl
  have hnn : n = vs.length := by
    rcases hr.2 with ⟨e, hx⟩ | ⟨g', cap, cur, e, _⟩
    · cases e
    · cases e; rfl
  subst hnn
  have hxv : vs[i] = x := by
    have := World.ownsRow.cells hr (g := g) rfl i vs[i] (List.getElem?_eq_getElem hiv)
    rw [addr_add, hx] at this
    injection this with this
    exact this.symm
  have hr' : RowV w' B 37 (.slice (some ⟨g, 0, none⟩) vs.length c) vs := hr.kept fun k hk' => hk.block k (hr.lt k hk').2 (fun e => by
    cases hk'
    exact hne0 e)
  have hst := World.ownsRow.stored hr' i x'
  have hxg : x'.ownBlock ≠ some g := fun e => by
    obtain ⟨c1, h1⟩ := row_kind hr' (g := g) rfl
    obtain ⟨c2, h2⟩ := row_kind hI e
    rw [h1] at h2
    injection h2 with h2
    injection h2 with _ h3 _
    exact absurd h3 (by decide)
  have hsc : ∀ {E : TypeId} {u : Value} {xs : List Value}, RowV w' B E u xs → u.ownBlock ≠ some g → RowV (w'.setCell ⟨g, i, none⟩ x') B E u xs := fun {E u xs} r hne => r.kept fun k hk' =>
    Below.heap_setCell w' ⟨g, i, none⟩ x' k (fun e => hne (by rw [hk', e]))
  refine ⟨vs.set i x', by simp [hl], by unfold RowV; rw [List.length_set]; exact hst.1, fun j y l hy hg => ?_, fun j j' y y' b hy hy' hb hb' => ?_⟩
  · by_cases hj : j = i
    · subst hj
      rw [List.getElem?_set_self hiv] at hy
      rw [List.getElem?_set_self hi] at hg
      injection hy with hy
      injection hg with hg
      subst hy hg
      exact hsc hI hxg
    · rw [List.getElem?_set_ne (Ne.symm hj)] at hy hg
      have r := hin j y l hy hg
      refine hsc (r.kept fun k hk' => hk.block k (r.lt k hk').2 (fun e => hj ?_)) (fun e => ?_)
      · exact hd j i y x k hy (by rw [List.getElem?_eq_getElem hiv, hxv]) hk' e
      · obtain ⟨c1, h1⟩ := row_kind hr (g := g) rfl
        obtain ⟨c2, h2⟩ := row_kind r e
        rw [h1] at h2
        injection h2 with h2
        injection h2 with _ h3 _
        exact absurd h3 (by decide)
  · have hlow : ∀ (k : Nat) (z : Value), vs[k]? = some z → z.ownBlock = some b → b < w.heap.size := fun k z hz hb => by
      have hkl : k < gs.length := by rw [← hl]; exact (List.getElem?_eq_some_iff.1 hz).1
      exact (RowV.lt (hin k z gs[k] hz (List.getElem?_eq_getElem hkl)) b hb).2
    by_cases hj : j = i
    · by_cases hj' : j' = i
      · rw [hj, hj']
      · subst hj
        rw [List.getElem?_set_self hiv] at hy
        rw [List.getElem?_set_ne (Ne.symm hj')] at hy'
        injection hy with hy
        subst hy
        rcases hn b hb with e | e
        · exact hd j j' x y' b (by rw [List.getElem?_eq_getElem hiv, hxv]) hy' e hb'
        · exact absurd (hlow j' y' hy' hb') (by omega)
    · rw [List.getElem?_set_ne (Ne.symm hj)] at hy
      by_cases hj' : j' = i
      · subst hj'
        rw [List.getElem?_set_self hiv] at hy'
        injection hy' with hy'
        subst hy'
        rcases hn b hb' with e | e
        · exact hd j j' y x b hy (by rw [List.getElem?_eq_getElem hiv, hxv]) hb e
        · exact absurd (hlow j y hy hb) (by omega)
      · rw [List.getElem?_set_ne (Ne.symm hj')] at hy'
        exact hd j j' y y' b hy hy' hb hb'

theorem rowsinfo : (Try.prog.info? 37).map (fun i => (i.zero, i.size, i.bytes)) = some (some (.slice none 0 0), 1, 24) := by kernel_rfl
/-- One more row behind, which x holds. -/
theorem grow_push {w0 w : World} {B : Nat} {v : Value} {gs : List (List Nat)} (h : GRow w0 B v gs) (hb0 : Below w0.heap.size w0 w) (hB : B ≤ w.heap.size) {x : Value} {l : List Nat} (hx : Ints w B x l) (hfr : ∀ g, x.ownBlock = some g → w0.heap.size ≤ g) (hl : gs.length ≤ 1048576) :
    ∃ v' w', (Builtin.append_ #[65, 65] 65 #[v, .slice (some ⟨w.heap.size, 0, none⟩) 1 1]).run Try.prog (w.alloc (.cells #[x] 37)) = .ok v' w' ∧ GRow w' B v' (gs ++ [l]) ∧
      Kept (fun k => v.ownBlock = some k) w w' := by
  obtain ⟨i0, hi, hz0, hz1, hz2⟩ := info_parts rowsinfo
  obtain ⟨vs, hlen, hr0, hin0, hd⟩ := h
  have hr := hr0.below hb0
  have hin : ∀ (i : Nat) (x : Value) (l : List Nat), vs[i]? = some x → gs[i]? = some l → Ints w B x l := fun i x l h1 h2 => RowV.below (hin0 i x l h1 h2) hb0
  have hfresh : ∀ g, x.ownBlock = some g → ∀ (i : Nat) (y : Value), vs[i]? = some y → y.ownBlock ≠ some g := fun g hg i y hy e => by
    have hkl : i < gs.length := by rw [← hlen]; exact (List.getElem?_eq_some_iff.1 hy).1
    have := (RowV.lt (hin0 i y gs[i] hy (List.getElem?_eq_getElem hkl)) g e).2
    have := hfr g hg
    omega
  obtain ⟨A, c, rfl, _⟩ := RowV.form hx
  obtain ⟨v', w', hrun, ho, hg, hn⟩ := append_one (P := Try.prog) 65 65 37 i0 _ 24 Try.underlying65 hi hz0 hz1 hz2 rfl hr hB (.slice A (ival l).length c) rfl (by omega) (by omega)
  have hk : Kept (fun k => v.ownBlock = some k) w w' := ((Kept.refl _ w).alloc _).trans (Kept.of_grown hg (fun i e => e))
  have hne : ∀ {u : Value} {xs : List Value}, RowV w B 3 u xs → RowV w' B 3 u xs := fun {u xs} r => r.kept fun g hgu => hk.block g (r.lt g hgu).2 (fun e => by
    obtain ⟨c1, h1⟩ := row_kind hr e
    obtain ⟨c2, h2⟩ := row_kind r hgu
    rw [h1] at h2
    injection h2 with h2
    injection h2 with _ h3 _
    exact absurd h3 (by decide))
  refine ⟨v', w', hrun, ⟨vs ++ [.slice A (ival l).length c], by simp [hlen], ho, fun i y l' hy hg' => ?_, fun i j y y' b hy hy' hb hb' => ?_⟩, hk⟩
  · by_cases hi' : i < vs.length
    · rw [List.getElem?_append_left hi'] at hy
      rw [List.getElem?_append_left (by omega)] at hg'
      exact hne (hin i y l' hy hg')
    · have hi2 : i = vs.length := by
        have := (List.getElem?_eq_some_iff.1 hy).1
        simp at this; omega
      subst hi2
      rw [List.getElem?_concat_length] at hy
      rw [hlen, List.getElem?_concat_length] at hg'
      injection hy with hy
      injection hg' with hg'
      subst hy hg'
      exact hne hx
  · have hcase : ∀ (k : Nat) (z : Value), (vs ++ [Value.slice A (ival l).length c])[k]? = some z → vs[k]? = some z ∧ k < vs.length ∨ k = vs.length ∧ z = .slice A (ival l).length c := fun k z hz => by
      by_cases hk' : k < vs.length
      · rw [List.getElem?_append_left hk'] at hz; exact .inl ⟨hz, hk'⟩
      · have hi2 : k = vs.length := by
          have := (List.getElem?_eq_some_iff.1 hz).1
          simp at this; omega
        subst hi2
        rw [List.getElem?_concat_length] at hz
        injection hz with hz
        exact .inr ⟨rfl, hz.symm⟩
    rcases hcase i y hy with ⟨a1, a2⟩ | ⟨a1, a2⟩ <;> rcases hcase j y' hy' with ⟨b1, b2⟩ | ⟨b1, b2⟩
    · exact hd i j y y' b a1 b1 hb hb'
    · subst b2; exact absurd hb (hfresh b hb' i y a1)
    · subst a2; exact absurd hb' (hfresh b hb j y' b1)
    · rw [a1, b1]
/-- Blocks of cells from B on. -/
def CF (w : World) (B b : Nat) : Prop := B ≤ b ∧ ∃ cur E, w.heap[b]? = some (.cells cur E (0, 0))
theorem CF.of_row {w : World} {B : Nat} {E : TypeId} {v : Value} {xs : List Value} (h : RowV w B E v xs) {g : Nat} (hg : v.ownBlock = some g) : CF w B g := by
  obtain ⟨cur, hc⟩ := row_kind h hg
  exact ⟨(h.lt g hg).1, cur, E, hc⟩
theorem CF.map {α : Type} [DecidableEq α] {w : World} {B b : Nat} {enc : α → Value} {l : List (α × Value)} (h : MapAt w b enc l) : ¬ CF w B b := by
  rintro ⟨_, cur, E, hc⟩
  obtain ⟨es, c, hb, _⟩ := h
  rw [hb] at hc
  cases hc
theorem GRow.cf {w : World} {B : Nat} {v : Value} {gs : List (List Nat)} (h : GRow w B v gs) {b : Nat} (hb : v.ownBlock = some b) : CF w B b := by
  obtain ⟨vs, _, r, _⟩ := h
  exact CF.of_row r hb
/-- A row is taken out, gets one more behind, and is laid back. -/
theorem grow_turn {w : World} {B g n c : Nat} {gs : List (List Nat)} (h : GRow w B (.slice (some ⟨g, 0, none⟩) n c) gs) (hB : B ≤ w.heap.size) {j : Nat} (hj : j < gs.length) (k : Nat) (hl : gs[j].length ≤ 1048576) :
    ∃ x x' w', w.cell? ⟨g, j, none⟩ = some x ∧ (Builtin.append_ #[37, 37] 37 #[x, .slice (some ⟨w.heap.size, 0, none⟩) 1 1]).run Try.prog (w.alloc (.cells #[.int .i64 (k : Int)] 3)) = .ok x' w' ∧
      w'.cell? ⟨g, j, none⟩ = some x ∧ w'.frozen? ⟨g, j, none⟩ = false ∧ GRow (w'.setCell ⟨g, j, none⟩ x') B (.slice (some ⟨g, 0, none⟩) n c) (gs.set j (gs[j] ++ [k])) ∧ Kept (CF w B) w (w'.setCell ⟨g, j, none⟩ x') ∧ (∃ a m q, x = .slice a m q) ∧ (∃ a m q, x' = .slice a m q) ∧ g < w.heap.size ∧ n = gs.length := by
  obtain ⟨hBg, hlg, hfz, x, hx, hI, hne⟩ := h.at_ hj
  obtain ⟨x', w', hrun, hI', hg, hn⟩ := append_int hI hB k hl
  have hk : Kept (fun b => x.ownBlock = some b) w w' := ((Kept.refl _ w).alloc _).trans (Kept.of_grown hg (fun i e => e))
  have hblk : w'.heap[g]? = w.heap[g]? := hk.block g hlg hne
  have hset := h.set hj hx hk hI' hn
  have hgC : CF w B g := by
    obtain ⟨vs, _, hr, _⟩ := h
    exact CF.of_row hr (g := g) rfl
  have hnn : n = gs.length := by
    obtain ⟨vs, hlv, hr, _⟩ := h
    rcases hr.2 with ⟨e, _⟩ | ⟨g', cap, cur, e, _⟩
    · cases e
    · cases e; exact hlv
  obtain ⟨a1, c1, e1, _⟩ := RowV.form hI
  obtain ⟨a2, c2, e2, _⟩ := RowV.form hI'
  exact ⟨x, x', w', hx, hrun, (World.cell?_of_block (a := ⟨g, j, none⟩) hblk).trans hx, (World.frozen?_of_block (a := ⟨g, j, none⟩) hblk).trans hfz, hset,
    (hk.mono fun i _ e => CF.of_row hI e).setCell (p := ⟨g, j, none⟩) (.inl hgC) x', ⟨_, _, _, e1⟩, ⟨_, _, _, e2⟩, hlg, hnn⟩
end Go.Proofs.Ytjkmcncgndkdoaa.CfgW
