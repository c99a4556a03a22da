/-
  A new ledger: the contract of ledger.New.
-/
import Derived.Test.YtjkmcncgndkdoaaLedAll
set_option linter.unusedVariables false
set_option linter.unusedSimpArgs false
namespace Go.Proofs.Ytjkmcncgndkdoaa.CfgW
open Go Go.RowKit Go.Proofs.Ytjkmcncgndkdoaa.L

theorem flat_get {α : Type} {sz : Nat} {dec : α → List Value} (hs : ∀ x, (dec x).length = sz) : ∀ (xs : List α) (i : Nat) (x : α), xs[i]? = some x → ∀ j v, (dec x)[j]? = some v → (xs.flatMap dec)[i * sz + j]? = some v
  | [], i, x, h => by simp at h
  | y :: l, 0, x, h => fun j v hv => by
    simp at h; subst h
    rw [List.flatMap_cons, Nat.zero_mul, Nat.zero_add, List.getElem?_append_left (List.getElem?_eq_some_iff.1 hv).1]
    exact hv
  | y :: l, i + 1, x, h => fun j v hv => by
    rw [List.flatMap_cons, List.getElem?_append_right (by rw [hs, Nat.succ_mul]; omega), hs, show (i + 1) * sz + j - sz = i * sz + j by rw [Nat.succ_mul]; omega]
    exact flat_get hs l i x (by simpa using h) j v hv
theorem flat_of {α : Type} {sz : Nat} {dec : α → List Value} (hs : ∀ x, (dec x).length = sz) : ∀ (xs : List α) (j : Nat) (u : Value), (xs.flatMap dec)[j]? = some u → ∃ i x k, j = i * sz + k ∧ xs[i]? = some x ∧ (dec x)[k]? = some u
  | [], j, u, h => by simp at h
  | y :: l, j, u, h => by
    rw [List.flatMap_cons] at h
    by_cases hj : j < sz
    · rw [List.getElem?_append_left (by rw [hs]; exact hj)] at h
      exact ⟨0, y, j, by omega, rfl, h⟩
    · rw [List.getElem?_append_right (by rw [hs]; omega), hs] at h
      obtain ⟨i, x, k, e, hx, hk⟩ := flat_of hs l (j - sz) u h
      exact ⟨i + 1, x, k, by rw [Nat.succ_mul]; omega, by simpa using hx, hk⟩
theorem flat_len {α : Type} {sz : Nat} {dec : α → List Value} (hs : ∀ x, (dec x).length = sz) : ∀ (xs : List α), (xs.flatMap dec).length = xs.length * sz
  | [] => by simp
  | y :: l => by rw [List.flatMap_cons, List.length_append, hs, flat_len hs l, List.length_cons, Nat.succ_mul]; omega
theorem ndec_len (x : Cfg.Node) : (ndec x).length = 11 := rfl
theorem nodeinfo : (Try.prog.info? 35).map (fun i => (i.zero, i.size, i.bytes)) = some (some (.agg #[.int .i64 0, .int .i64 0, .int .i64 0, .int .i64 0, .int .i64 0, .int .i64 0, .int .i64 0, .int .i64 0, .int .i64 0, .int .i64 0, .int .i64 0]), 11, 88) := by kernel_rfl
/-- append([]api.Node(nil), nodes...) -/
theorem copy_nodes {w : World} {v : Value} {xs : List Cfg.Node} (h : Nodes w v xs) (hn : xs.length ≤ 1000000) :
    ∃ A c w', (Builtin.append_ #[22, 22] 22 #[.slice none 0 0, v]).run Try.prog w = .ok (.slice A xs.length c) w' ∧ Nodes w' (.slice A xs.length c) xs ∧ Below w.heap.size w w' ∧ (∀ b o, A = some ⟨b, o, none⟩ → w.heap.size ≤ b ∧ b < w'.heap.size) := by
  obtain ⟨i0, hi, hz0, hz1, hz2⟩ := info_parts nodeinfo
  obtain ⟨A, ca, rfl, hr, hl⟩ := h
  cases A with
  | none =>
    have hx : xs = [] := by
      by_cases e : xs = []
      · exact e
      · obtain ⟨b, o, e', _⟩ := hr e; cases e'
    subst hx
    refine ⟨none, 0, w, ?_, ⟨none, 0, rfl, fun e => absurd rfl e, hl⟩, Below.refl _ _, fun b o e => by cases e⟩
    simp [Builtin.append_, run_underlying Try.underlying22, sizeOf, typeInfo, hi, Builtin.lenOf, Builtin.firstCells]
  | some ad =>
    obtain ⟨v', w', hrun, ho, hg, _, hat⟩ := run_append_own_at (P := Try.prog) w w.heap.size 22 22 35 i0 _ 11 88 Try.underlying22 hi hz0 hz1 hz2 rfl (by omega) (.slice none 0 0) 0 [] (World.ownsRow_nil w w.heap.size _ 11) ad xs.length ca (xs.flatMap ndec) (flat_len ndec_len xs)
      (fun j u hu => by
        obtain ⟨i, x, k, e, hx, hk⟩ := flat_of ndec_len xs j u hu
        obtain ⟨b, o, e', _, hc⟩ := hr (by intro e; subst e; simp at hx)
        cases e'
        have := hc i x hx k u hk
        have e2 : (⟨b, o, none⟩ : Addr).add j = ⟨b, o + j, none⟩ := by cases j <;> simp [Addr.add]
        rw [e2, e, ← Nat.add_assoc]
        exact this)
      (fun u hu => by
        obtain ⟨j, hj, rfl⟩ := List.getElem_of_mem hu
        obtain ⟨i, x, k, e, hx, hk⟩ := flat_of ndec_len xs j _ (List.getElem?_eq_getElem hj)
        have hm := List.mem_of_getElem? hk
        generalize (xs.flatMap ndec)[j] = y at *
        simp only [ndec, List.mem_cons, List.not_mem_nil, or_false] at hm
        rcases hm with rfl | rfl | rfl | rfl | rfl | rfl | rfl | rfl | rfl | rfl | rfl <;> rfl) (by unfold maxLen; omega) (by omega) (Nat.le_refl _)
    rw [List.nil_append, Nat.zero_add] at ho
    have hb : Below w.heap.size w w' := (Below.refl _ _).grown hg (Nat.le_refl _) (fun k hk => by cases hk)
    rcases ho.2 with ⟨rfl, hx⟩ | ⟨g, cap, cur, rfl, hB, hh, hc, hm, _⟩
    · have hx' : xs = [] := List.eq_nil_of_length_eq_zero hx
      subst hx'
      exact ⟨none, 0, w', hrun, ⟨none, 0, rfl, fun e => absurd rfl e, hl⟩, hb, fun b o e => by cases e⟩
    · refine ⟨some ⟨g, 0, none⟩, cap, w', hrun, ⟨_, _, rfl, fun hne => ⟨g, 0, rfl, (Array.getElem?_eq_some_iff.1 hh).1, fun i x hx j v hv => ?_⟩, hl⟩, hb, fun b o e => by cases e; exact ⟨hB, (Array.getElem?_eq_some_iff.1 hh).1⟩⟩
      have := World.ownsRow.cells ho (g := g) rfl (i * 11 + j) v (flat_get ndec_len xs i x hx j v hv)
      rw [addr_add] at this
      rw [Nat.zero_add]
      exact this

def NewEnd2 (v2 : Value) (half age : Int) (c : Cfg.C) (w : World) (e : Ending) (w' : World) : Prop := ∃ g mb A ca, e = .returned (.pointer (some ⟨g, 0, none⟩)) ∧ LedAt w' g mb (.slice A c.nodes.length ca) v2 half age c Led.none_ ∧ w.heap.size ≤ g ∧ w.heap.size ≤ mb ∧ Below w.heap.size w w' ∧ (∀ b o, A = some ⟨b, o, none⟩ → w.heap.size ≤ b ∧ b < w'.heap.size)
def NewEnd (v2 : Value) (half age : Int) (c : Cfg.C) (w : World) (e : Ending) (w' : World) : Prop := ∃ g mb v1, e = .returned (.pointer (some ⟨g, 0, none⟩)) ∧ LedAt w' g mb v1 v2 half age c Led.none_ ∧ w.heap.size ≤ g ∧ w.heap.size ≤ mb ∧ Below w.heap.size w w'

set_option maxRecDepth 100000 in
set_option maxHeartbeats 4000000 in
theorem new_any2 {w : World} {v1 v2 : Value} {half age : Int} {c : Cfg.C} (hc : CfgAt w (.agg #[v1, v2, .int .i64 half, .int .i64 age]) c) (hn : c.nodes.length ≤ 1000000) :
    ∀ w1, Below w.heap.size w w1 → Calls Try.prog 24 #[.agg #[v1, v2, .int .i64 half, .int .i64 age]] w1 fun e w' => NewEnd2 v2 half age c w1 e w' := by
  intro w1 hb1
  replace hc := hc.below hb1
  clear hb1
  obtain ⟨v1', v2', ee, hN, hH⟩ := hc
  simp only [Value.agg.injEq, Array.mk.injEq, List.cons.injEq, Value.int.injEq, true_and, and_true] at ee
  obtain ⟨rfl, rfl, rfl, rfl⟩ := ee
  have hb0 : Below w1.heap.size w1 (w1.alloc (.cells #[v1, v2, .int .i64 c.half, .int .i64 c.age] 25)) := (Below.refl _ _).alloc (Nat.le_refl _) _
  have hbx := CBox.new w1 v1 v2 c.half c.age
  have hfz : ∀ j, (w1.alloc (.cells #[v1, v2, .int .i64 c.half, .int .i64 c.age] 25)).frozen? ⟨w1.heap.size, j, none⟩ = false := fun j => by simp [go_sem]
  obtain ⟨A, ca, w2, hr2, hN2, hb2, hA2⟩ := copy_nodes (hN.below hb0) hn
  have hHo := Lib.hid hH
  have HA2 := Lib.hid hA2
  clear hA2
  obtain ⟨A0, ca0, e0, _, _⟩ := hN
  subst e0
  have hH2 := hH.below (keeps_trans hb0 hb2)
  obtain ⟨half, hhalf⟩ : ∃ z, c.half = z := ⟨_, rfl⟩
  obtain ⟨age, hage⟩ : ∃ z, c.age = z := ⟨_, rfl⟩
  have HC := Lib.hid (And.intro hhalf hage)
  rw [hhalf, hage] at hr2 hb0 hb2 hbx hfz ⊢
  obtain ⟨N, hNe⟩ : ∃ N, c.nodes.length = N := ⟨_, rfl⟩
  have HN := Lib.hid hNe
  have HN2 := Lib.hid hN2
  have HH2 := Lib.hid hH2
  rw [hNe] at hr2 HN2 hbx hb0 hb2 hfz ⊢
  clear hhalf hage hNe hN2 hH2 hH
  go_enter Try.func24, Try.ntmps24
  generalize hwq : w1.alloc (.cells #[.slice A0 N ca0, v2, .int .i64 half, .int .i64 age] 25) = wq at *
  obtain ⟨hx0, x0, x1, x2, x3⟩ := hbx
  have c0 : w2.cell? ⟨w1.heap.size, 0, none⟩ = some (.slice A0 N ca0) := (hb2.cell (p := ⟨w1.heap.size, 0, none⟩) hx0).trans x0
  have c1 : w2.cell? ⟨w1.heap.size, 1, none⟩ = some v2 := (hb2.cell (p := ⟨w1.heap.size, 1, none⟩) hx0).trans x1
  have c2 : w2.cell? ⟨w1.heap.size, 2, none⟩ = some (.int .i64 half) := (hb2.cell (p := ⟨w1.heap.size, 2, none⟩) hx0).trans x2
  have c3 : w2.cell? ⟨w1.heap.size, 3, none⟩ = some (.int .i64 age) := (hb2.cell (p := ⟨w1.heap.size, 3, none⟩) hx0).trans x3
  have f0 : w2.frozen? ⟨w1.heap.size, 0, none⟩ = false := (hb2.frozen (p := ⟨w1.heap.size, 0, none⟩) hx0).trans (hfz 0)
  have hs2 : w1.heap.size < w2.heap.size := Nat.lt_of_lt_of_le hx0 hb2.size
  have Hb2 := Lib.hid hb2
  have Hb0 := Lib.hid hb0
  have hmm := @run_makeMap Try.prog
  clear hb2 hb0 hfz
  go_wp2_with (at_builtin; refine wpList_append_eq rfl (.const (.slice none 0 0)) (.tmp 4) _ _ rfl (.slice none 0 0) (.slice A0 N ca0) rfl rfl hr2 ?_)
  refine bodyPost_ret (results_tmp rfl _ _ _) rfl ?_
  have hk1 : Kept (fun k => k = w1.heap.size) w2 (w2.setCell ⟨w1.heap.size, 0, none⟩ (.slice A N ca)) := (Kept.refl (fun k => k = w1.heap.size) w2).setCell (p := ⟨w1.heap.size, 0, none⟩) (.inl rfl) _
  have hbA : Below w1.heap.size w1 (w2.setCell ⟨w1.heap.size, 0, none⟩ (.slice A N ca)) := (keeps_trans Hb0.out Hb2.out).setCell (p := ⟨w1.heap.size, 0, none⟩) (Nat.le_refl _) _
  have hsA : (w2.setCell ⟨w1.heap.size, 0, none⟩ (.slice A N ca)).heap.size = w2.heap.size := by simp
  obtain ⟨A', ca', eA, hrA, hlA⟩ := HN2.out
  simp only [Value.slice.injEq] at eA
  obtain ⟨eA1, -, -⟩ := eA
  subst eA1
  have hrA2 : RowOf (w2.setCell ⟨w1.heap.size, 0, none⟩ (.slice A N ca)) A 11 ndec c.nodes := row_kept hrA hk1 (fun b o e => by have := (HA2.out b o e).1; simp at this; omega)
  obtain ⟨B, cb, eB, hrB, hlB⟩ := HH2.out
  obtain ⟨B', cb', eB', hrB', _⟩ := hHo.out
  rw [eB] at eB'
  cases eB'
  have hrB2 : RowOf (w2.setCell ⟨w1.heap.size, 0, none⟩ (.slice A N ca)) B 6 hdec c.hosts := row_kept2 (fun x => ⟨_, rfl⟩) hrB' hrB hk1 (fun b e => .inl (by omega))
  generalize w2.setCell ⟨w1.heap.size, 0, none⟩ (.slice A N ca) = wA at *
  have hM := MapAt.new wA (Value.int .i64)
  have hbM : Below wA.heap.size wA ((wA.alloc (.map #[] 0)).alloc (.cells #[.slice A N ca, v2, .int .i64 half, .int .i64 age, .map (some w2.heap.size)] 82)) := by (repeat' (first | (with_reducible exact Below.refl _ _) | (with_reducible assumption) | (with_reducible refine Below.alloc ?_ ?_ _) | (with_reducible refine Go.Proofs.Ytjkmcncgndkdoaa.L.below_drewN ?_ _) | (with_reducible refine Below.drew ?_) | (with_reducible refine Below.setCell ?_ ?_ _) | (with_reducible refine Below.frame ?_ _) | go_size))
  refine ⟨w2.heap.size + 1, w2.heap.size, A, ca, rfl, ?_, by omega, by omega, keeps_trans hbA hbM, fun b o e => by have := HA2.out b o e; have h3 := hbM.size; simp at this; omega⟩
  rw [HN.out]
  refine ⟨⟨by simp; omega, ?_, ?_, ?_, ?_⟩, ?_, ?_, [], ?_, fun n => ?_⟩
  · rw [← hsA]; simp [go_sem]
  · rw [← hsA]; simp [go_sem]
  · rw [← hsA]; simp [go_sem]
  · rw [← hsA]; simp [go_sem]
  · rw [← hsA]; simp [go_sem]
  · refine ⟨_, v2, by rw [HC.out.1, HC.out.2], ⟨A, ca, by rw [HN.out], hrA2.below hbM, hlA⟩, ⟨B, cb, eB, hrB2.below hbM, hlB⟩⟩
  · rw [← hsA]
    exact hM.on ((Below.refl _ _).alloc (Nat.le_refl _) _)
  · simp [Go.Proofs.Ytjkmcncgndkdoaa.L.valOf, Led.at_, Led.none_, Vec.V.val, Vec.zero]
theorem new_any {w : World} {v1 v2 : Value} {half age : Int} {c : Cfg.C} (hc : CfgAt w (.agg #[v1, v2, .int .i64 half, .int .i64 age]) c) (hn : c.nodes.length ≤ 1000000) :
    ∀ w1, Below w.heap.size w w1 → Calls Try.prog 24 #[.agg #[v1, v2, .int .i64 half, .int .i64 age]] w1 fun e w' => NewEnd v2 half age c w1 e w' := fun w1 hb1 =>
  (new_any2 hc hn w1 hb1).mono fun e w' ⟨g, mb, A, ca, h1, h2, h3, h4, h5, _⟩ => ⟨g, mb, _, h1, h2, h3, h4, h5⟩
end Go.Proofs.Ytjkmcncgndkdoaa.CfgW
