/-
  A row of amounts copied into one that the program owns; such a one cleared.
-/
import Derived.Test.YtjkmcncgndkdoaaHostRefFree
set_option linter.unusedVariables false
set_option linter.unusedSimpArgs false
namespace Go.Proofs.Ytjkmcncgndkdoaa.CfgW
open Go.RowKit Go.Proofs.Ytjkmcncgndkdoaa.L

theorem row_flat {w : World} {b o : Nat} {xs : List Vec.V} (h : RowOf w (some ⟨b, o, none⟩) 3 vdec xs) (hne : xs ≠ []) : ∀ j v, (vcells xs)[j]? = some v → w.cell? ((⟨b, o, none⟩ : Addr).add j) = some v := by
  intro j v hv
  have hj : j < xs.length * 3 := by
    have := (List.getElem?_eq_some_iff.1 hv).1
    rwa [vcells_length] at this
  obtain ⟨b', o', e, hlt, hc⟩ := h hne
  injection e with e
  injection e with e1 e2 _
  subst e1 e2
  have hi : j / 3 < xs.length := by omega
  obtain ⟨h0, h1, h2⟩ := vcells_at xs (j / 3) xs[j / 3] (List.getElem?_eq_getElem hi)
  have key := hc (j / 3) xs[j / 3] (List.getElem?_eq_getElem hi)
  rw [show (⟨b, o, none⟩ : Addr).add j = ⟨b, o + j, none⟩ from by unfold Addr.add; split <;> simp_all]
  have h3 : j % 3 = 0 ∨ j % 3 = 1 ∨ j % 3 = 2 := by omega
  rcases h3 with r | r | r
  · have e : j = j / 3 * 3 := by omega
    rw [e, h0] at hv
    cases hv
    have := key 0 _ rfl
    rwa [show o + j / 3 * 3 + 0 = o + j by omega] at this
  · have e : j = j / 3 * 3 + 1 := by omega
    rw [e, h1] at hv
    cases hv
    have := key 1 _ rfl
    rwa [show o + j / 3 * 3 + 1 = o + j by omega] at this
  · have e : j = j / 3 * 3 + 2 := by omega
    rw [e, h2] at hv
    cases hv
    have := key 2 _ rfl
    rwa [show o + j / 3 * 3 + 2 = o + j by omega] at this

theorem setRow_kept (w : World) (g : Nat) (cs : Array Value) : Kept (fun k => k = g) w (w.setRow g cs) :=
  ⟨rfl, rfl, rfl, by simp [World.setRow], fun k hk hf => by simp [World.setRow, Array.getElem?_modify, Ne.symm hf]⟩

theorem copy_vecs {w : World} {B g n c : Nat} {src : Value} {ys xs : List Vec.V} (h : VRow w B (.slice (some ⟨g, 0, none⟩) n c) ys) (hs : VSl w src xs) (hl : xs.length = n) :
    ∃ w', (∀ ty, (Builtin.copy_ #[49, 49] ty #[.slice (some ⟨g, 0, none⟩) n c, src]).run Try.prog w = .ok (.int .i64 (n : Int)) w') ∧ VRow w' B (.slice (some ⟨g, 0, none⟩) n c) xs ∧ Kept (fun k => k = g) w w' := by
  obtain ⟨i0, hi, hz0, hz1, hz2⟩ := info_parts vecinfo
  have hny := h.len
  obtain ⟨A, cap, rfl, hr, hlm⟩ := hs
  rcases h.2 with ⟨e, _⟩ | ⟨g', cap', cur, e, hb, hh, hnc, hcm, hcs, htk⟩
  · cases e
  injection e with e1 e2 e3
  injection e1 with e1
  injection e1 with e1
  subst e1 e3
  have hst := run_storeCells_at Try.prog g 0 33 (vcells xs) 0 cur w hh (by rw [vcells_length, hcs]; have := Nat.mul_le_mul_right 3 hnc; omega) (vcells_cut xs)
  refine ⟨w.setRow g ((vcells xs) ++ cur.toList.drop (vcells xs).length).toArray, ?_, ?_, setRow_kept _ _ _⟩
  · intro ty
    by_cases hx : xs = []
    · subst hx
      have hn0 : n = 0 := by simpa using hl.symm
      subst hn0
      have hl0 : ∀ (x : Addr), (loadCells x 0).run Try.prog w = .ok #[] w := fun x => by simpa using run_loadCells_list (P := Try.prog) w x [] (by simp)
      simp only [vcells, List.length_nil, List.drop_zero, List.nil_append] at hst ⊢
      cases A <;> simp [Builtin.copy_, run_underlying Try.underlying49, Builtin.lenOf, Builtin.firstCells, sizeOf, typeInfo, hi, hl0, storeCells, setRow_self w g cur _ _ hh, goInt]
    · obtain ⟨b, o, rfl, hlt, _⟩ := id hr hx
      have hf := run_firstCells_some (P := Try.prog) (w := w) 3 n ⟨b, o, none⟩ xs.length cap (vcells xs) (by rw [vcells_length, hl]) (row_flat hr hx)
      simp only [Nat.add_zero, Nat.zero_add, List.take_zero, List.nil_append] at hst
      simp [Builtin.copy_, run_underlying Try.underlying49, Builtin.lenOf, sizeOf, typeInfo, hi, hz1, hl] at hf ⊢
      simp [hf, hst, goInt]
  · unfold VRow
    rw [hl]
    refine ⟨by rw [vcells_length, hl], .inr ⟨g, c, _, rfl, hb, setRow_heap w g cur _ _ _ hh, by omega, hcm, ?_, ?_⟩⟩
    · simp only [List.size_toArray, List.length_append, List.length_drop, vcells_length]
      have e9 : cur.toList.length = c * 3 := by rw [Array.length_toList]; exact hcs
      rw [e9]
      have := Nat.mul_le_mul_right 3 hnc
      omega
    · rw [List.toList_toArray, List.take_append_of_le_length (by rw [vcells_length]; omega), List.take_of_length_le (by rw [vcells_length]; omega)]

theorem clear_vecs {w : World} {B g n c : Nat} {ys : List Vec.V} (h : VRow w B (.slice (some ⟨g, 0, none⟩) n c) ys) :
    ∃ w', (∀ ty, (Builtin.clear_ #[49] ty #[.slice (some ⟨g, 0, none⟩) n c]).run Try.prog w = .ok (.tuple #[]) w') ∧ Kept (fun k => k = g) w w' := by
  obtain ⟨i0, hi, hz0, hz1, hz2⟩ := info_parts vecinfo
  have hny := h.len
  rcases h.2 with ⟨e, _⟩ | ⟨g', cap', cur, e, hb, hh, hnc, hcm, hcs, htk⟩
  · cases e
  injection e with e1 e2 e3
  injection e1 with e1
  injection e1 with e1
  subst e1 e3
  by_cases hn : n = 0
  · subst hn
    exact ⟨w, fun ty => by simp [Builtin.clear_, run_underlying Try.underlying49], Kept.refl _ _⟩
  · obtain ⟨m, rfl⟩ : ∃ m, n = m + 1 := ⟨n - 1, by omega⟩
    have hcz : (Value.agg #[.int .i64 0, .int .i64 0, .int .i64 0]).cells = #[.int .i64 0, .int .i64 0, .int .i64 0] := by kernel_rfl
    have hzl : ∀ v ∈ (Builtin.zeroCells (Value.agg #[.int .i64 0, .int .i64 0, .int .i64 0]).cells (m + 1)).toList, v.oneCell' = true := by
      intro v hv
      obtain ⟨j, hj⟩ := List.getElem?_of_mem hv
      have hk : j < (m + 1) * 3 := by
        have := (List.getElem?_eq_some_iff.1 hj).1
        simpa [Builtin.zeroCells, hcz] using this
      have h3 : j % 3 = 0 ∨ j % 3 = 1 ∨ j % 3 = 2 := by omega
      rcases h3 with r | r | r <;> simp [Builtin.zeroCells, hcz, hk, r] at hj <;> subst hj <;> rfl
    have hzs : (Builtin.zeroCells (Value.agg #[.int .i64 0, .int .i64 0, .int .i64 0]).cells (m + 1)).toList.length = (m + 1) * 3 := by simp [Builtin.zeroCells, hcz]
    have hst := run_storeCells_at Try.prog g 0 33 _ 0 cur w hh (by rw [hzs, hcs]; have := Nat.mul_le_mul_right 3 hnc; omega) hzl
    obtain ⟨w', hw', hk⟩ : ∃ w', (storeCells ⟨g, 0, none⟩ (Builtin.zeroCells (Value.agg #[.int .i64 0, .int .i64 0, .int .i64 0]).cells (m + 1)).toList 0).run Try.prog w = .ok () w' ∧ Kept (fun k => k = g) w w' := ⟨_, hst, setRow_kept w g _⟩
    refine ⟨w', fun ty => ?_, hk⟩
    have hv : ∀ w, (zeroValue 33).run Try.prog w = .ok (Value.agg #[.int .i64 0, .int .i64 0, .int .i64 0]) w := fun w => by simp [zeroValue, typeInfo, hi, hz0]
    generalize hzz : Builtin.zeroCells (Value.agg #[.int .i64 0, .int .i64 0, .int .i64 0]).cells (m + 1) = Z at *
    simp [Builtin.clear_, run_underlying Try.underlying49, hv, hzz, hw']
end Go.Proofs.Ytjkmcncgndkdoaa.CfgW
