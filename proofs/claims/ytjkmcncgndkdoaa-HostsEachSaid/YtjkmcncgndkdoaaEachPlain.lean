/-
  At each level each host is in just one place, and a place of one level is within one of the next: chapter 16's plain law.
-/
import Derived.Test.YtjkmcncgndkdoaaGroupPlain
set_option linter.unusedVariables false
set_option linter.unusedSimpArgs false
namespace Go.Proofs.Ytjkmcncgndkdoaa.Hst
open Go.Proofs.Ytjkmcncgndkdoaa

theorem idx_at (p : Place) (g : G) (k : Nat) (h : idx p g = some k) : ∃ hk : k < g.length, g[k].1 = p := by
  obtain ⟨l, h1, _⟩ := gput_some p 0 g k h
  obtain ⟨hk, h2⟩ := List.getElem?_eq_some_iff.1 h1
  exact ⟨hk, by rw [h2]⟩
/-- Each of the first k hosts is in just one place, once. -/
def Fair (hs : List Cfg.Host) (level : Int) (k : Nat) (g : G) : Prop :=
  (∀ h, h < k → ∃ j, idx (keyOf hs level h) g = some j) ∧ ∀ (h i : Nat) (hi : i < g.length), List.count h g[i].2 = if h < k ∧ idx (keyOf hs level h) g = some i then 1 else 0
theorem fair_put (hs : List Cfg.Host) (level : Int) (k : Nat) (g : G) (hf : Fair hs level k g) : Fair hs level (k + 1) (gput (keyOf hs level k) k g) := by
  obtain ⟨f1, f2⟩ := hf
  cases hp : idx (keyOf hs level k) g with
  | none =>
    refine ⟨fun h hh => ?_, fun h i hi => ?_⟩
    · rw [idx_put_none hp]
      by_cases e : keyOf hs level h = keyOf hs level k
      · rw [if_pos e]; exact ⟨_, rfl⟩
      · rw [if_neg e]
        exact f1 h (by
          by_cases hk : h = k
          · subst hk; exact absurd rfl e
          · omega)
    · rw [idx_put_none hp]
      have hlen : (gput (keyOf hs level k) k g) = g ++ [(keyOf hs level k, [k])] := gput_none _ _ _ hp
      have hkey : ∀ h, h < k → keyOf hs level h ≠ keyOf hs level k := fun h hh e => by
        obtain ⟨j, hj⟩ := f1 h hh
        rw [e, hp] at hj; cases hj
      by_cases hil : i < g.length
      · have : (gput (keyOf hs level k) k g)[i] = g[i] := by
          simp only [hlen]
          rw [List.getElem_append_left hil]
        rw [this, f2 h i hil]
        by_cases hk : h < k
        · rw [if_neg (hkey h hk)]
          simp [hk, Nat.lt_succ_of_lt hk]
        · rw [if_neg (by omega : ¬ (h < k ∧ _))]
          by_cases e : h = k
          · subst e
            rw [if_pos rfl, if_neg]
            rintro ⟨_, e⟩
            injection e with e
            omega
          · rw [if_neg (by omega : ¬ (h < k + 1 ∧ _))]
      · have hie : i = g.length := by rw [hlen] at hi; simp at hi; omega
        subst hie
        have : (gput (keyOf hs level k) k g)[g.length] = (keyOf hs level k, [k]) := by
          simp [hlen]
        rw [this]
        by_cases hk : h < k
        · rw [if_neg (hkey h hk), if_neg]
          · simp [List.count_cons]; omega
          · rintro ⟨_, e⟩
            have := idx_lt _ _ _ e
            omega
        · by_cases e : h = k
          · subst e
            rw [if_pos rfl, if_pos ⟨by omega, rfl⟩]
            simp
          · rw [if_neg (by omega : ¬ (h < k + 1 ∧ _))]
            simp [List.count_cons]; omega
  | some j =>
    obtain ⟨l, h1, h2⟩ := gput_some (keyOf hs level k) k g j hp
    refine ⟨fun h hh => ?_, fun h i hi => ?_⟩
    · rw [idx_put_some hp]
      by_cases hk : h = k
      · subst hk; exact ⟨j, hp⟩
      · exact f1 h (by omega)
    · rw [idx_put_some hp]
      have hil : i < g.length := by rw [h2] at hi; simpa using hi
      have hget : (gput (keyOf hs level k) k g)[i] = if j = i then (keyOf hs level k, l ++ [k]) else g[i] := by
        simp only [h2]
        rw [List.getElem_set]
      rw [hget]
      by_cases hji : j = i
      · subst hji
        rw [if_pos rfl]
        have hl : g[j].2 = l := by rw [(List.getElem?_eq_some_iff.1 h1).2]
        have hc := f2 h j hil
        rw [hl] at hc
        rw [List.count_append, hc]
        by_cases hk : h < k
        · simp [hk, Nat.lt_succ_of_lt hk, List.count_cons]; omega
        · rw [if_neg (by omega : ¬ (h < k ∧ _))]
          by_cases e : h = k
          · subst e
            rw [if_pos ⟨by omega, hp⟩]; simp
          · rw [if_neg (by omega : ¬ (h < k + 1 ∧ _))]
            simp [List.count_cons]; omega
      · rw [if_neg hji, f2 h i hil]
        by_cases hk : h < k
        · simp [hk, Nat.lt_succ_of_lt hk]
        · rw [if_neg (by omega : ¬ (h < k ∧ _)), if_neg]
          rintro ⟨h3, h4⟩
          have : h = k := by omega
          subst this
          rw [hp] at h4
          injection h4 with h4
          exact hji h4
theorem fair_to (hs : List Cfg.Host) (level : Int) : ∀ k, Fair hs level k (gTo hs level k)
  | 0 => ⟨fun h hh => by omega, fun h i hi => by simp [gTo] at hi⟩
  | k + 1 => fair_put hs level k _ (fair_to hs level k)

/-- The numbers of the places, laid row by row. -/
def bump (pl : List Int) (h : Nat) (d : Int) : List Int := pl.set h (pl.getD h 0 + d)
def bumps (d : Int) (row : List Nat) (pl : List Int) : List Int := row.foldl (fun p h => bump p h d) pl
theorem bump_length (pl : List Int) (h : Nat) (d : Int) : (bump pl h d).length = pl.length := by simp [bump]
theorem bumps_length (d : Int) : ∀ (row : List Nat) (pl : List Int), (bumps d row pl).length = pl.length
  | [], _ => rfl
  | h :: t, pl => by
    show (bumps d t (bump pl h d)).length = _
    rw [bumps_length d t, bump_length]
theorem bumps_succ (d : Int) (row : List Nat) (pl : List Int) (k : Nat) (hk : k < row.length) : bumps d (row.take (k + 1)) pl = bump (bumps d (row.take k) pl) row[k] d := by
  unfold bumps
  rw [List.take_succ_eq_append_getElem hk, List.foldl_append]
  rfl
theorem bump_at (pl : List Int) (h : Nat) (d : Int) (i : Nat) (hi : i < pl.length) : (bump pl h d).getD i 0 = pl.getD i 0 + (if h = i then d else 0) := by
  unfold bump
  by_cases e : h = i
  · subst e
    rw [if_pos rfl, List.getD_eq_getElem?_getD, List.getElem?_set_self hi, Option.getD_some]
  · rw [if_neg e, List.getD_eq_getElem?_getD, List.getElem?_set_ne e, ← List.getD_eq_getElem?_getD]; omega
theorem bumps_at (d : Int) : ∀ (row : List Nat) (pl : List Int) (i : Nat) (hi : i < pl.length), (bumps d row pl).getD i 0 = pl.getD i 0 + (List.count i row : Int) * d
  | [], pl, i, hi => by simp [bumps]
  | h :: t, pl, i, hi => by
    show (bumps d t (bump pl h d)).getD i 0 = _
    rw [bumps_at d t _ i (by rw [bump_length]; exact hi), bump_at pl h d i hi, List.count_cons]
    by_cases e : h = i
    · subst e
      simp
      rw [Int.add_mul]; omega
    · rw [if_neg e]
      simp [e]
def laid (rows : List (List Nat)) (m : Nat) : Nat → List Int
  | 0 => List.replicate m 0
  | i + 1 => bumps ((i : Int) + 1) (rows.getD i []) (laid rows m i)
theorem laid_length (rows : List (List Nat)) (m : Nat) : ∀ i, (laid rows m i).length = m
  | 0 => by simp [laid]
  | i + 1 => by unfold laid; rw [bumps_length, laid_length rows m i]
theorem laid_at (rows : List (List Nat)) (m h j : Nat) (hh : h < m) (hj : ∀ (i : Nat), i < rows.length → List.count h (rows.getD i []) = if j = i then 1 else 0) : ∀ i, i ≤ rows.length → (laid rows m i).getD h 0 = if j < i then (j : Int) + 1 else 0
  | 0, _ => by
    unfold laid
    rw [List.getD_eq_getElem?_getD, List.getElem?_replicate, if_pos hh]; simp
  | i + 1, hi => by
    unfold laid
    rw [bumps_at _ _ _ _ (by rw [laid_length]; exact hh), laid_at rows m h j hh hj i (by omega), hj i (by omega)]
    by_cases e : j = i
    · subst e; simp
    · rw [if_neg e]
      by_cases h2 : j < i
      · rw [if_pos h2, if_pos (by omega)]; omega
      · rw [if_neg h2, if_neg (by omega)]; omega
/-- How many hosts the first i rows have. -/
def many (rows : List (List Nat)) : Nat → Nat
  | 0 => 0
  | i + 1 => many rows i + (rows.getD i []).length
theorem many_set (rows : List (List Nat)) (j : Nat) (r : List Nat) (hj : j < rows.length) (hr : r.length = rows[j].length + 1) : ∀ i, many (rows.set j r) i = many rows i + (if j < i then 1 else 0)
  | 0 => by simp [many]
  | i + 1 => by
    unfold many
    rw [many_set rows j r hj hr i]
    by_cases e : j = i
    · subst e
      rw [List.getD_eq_getElem?_getD, List.getElem?_set_self hj, Option.getD_some, List.getD_eq_getElem?_getD, List.getElem?_eq_getElem hj, Option.getD_some, hr]
      simp; omega
    · rw [List.getD_eq_getElem?_getD, List.getElem?_set_ne e, ← List.getD_eq_getElem?_getD]
      by_cases h2 : j < i
      · rw [if_pos h2, if_pos (by omega)]; omega
      · rw [if_neg h2, if_neg (by omega)]; omega
theorem many_app (rows : List (List Nat)) (r : List Nat) : ∀ i, i ≤ rows.length → many (rows ++ [r]) i = many rows i
  | 0, _ => rfl
  | i + 1, hi => by
    unfold many
    rw [many_app rows r i (by omega), List.getD_eq_getElem?_getD, List.getElem?_append_left (by omega), ← List.getD_eq_getElem?_getD]
theorem many_to (hs : List Cfg.Host) (level : Int) : ∀ k, many (rows (gTo hs level k)) (rows (gTo hs level k)).length = k
  | 0 => rfl
  | k + 1 => by
    show many (rows (gput (keyOf hs level k) k (gTo hs level k))) (rows (gput (keyOf hs level k) k (gTo hs level k))).length = k + 1
    have ih := many_to hs level k
    cases hp : idx (keyOf hs level k) (gTo hs level k) with
    | none =>
      have e : rows (gput (keyOf hs level k) k (gTo hs level k)) = rows (gTo hs level k) ++ [[k]] := by rw [gput_none _ _ _ hp]; simp [rows]
      rw [e, List.length_append, List.length_singleton]
      unfold many
      rw [many_app _ _ _ (Nat.le_refl _), ih, List.getD_eq_getElem?_getD, List.getElem?_concat_length]
      simp
    | some j =>
      obtain ⟨hj, e⟩ := rows_some (i := k) hp
      rw [e, List.length_set, many_set _ _ _ hj (by simp), ih, if_pos hj]

/-- The law, for one host of a row: its number in the wider places is that of the row's first, from 1 on. -/
theorem each_host (hs : List Cfg.Host) (l : Int) (h0 : 0 ≤ l) (h2 : l ≤ 2) (i : Nat) (hi : i < (rows (gTo hs l hs.length)).length) (h a : Nat) (t : List Nat) (hr : (rows (gTo hs l hs.length))[i] = a :: t) (hm : h ∈ (rows (gTo hs l hs.length))[i]) :
    h < hs.length ∧ a < hs.length ∧ ∃ j, j < (rows (gTo hs (l + 1) hs.length)).length ∧
      (laid (rows (gTo hs (l + 1) hs.length)) hs.length (rows (gTo hs (l + 1) hs.length)).length).getD h 0 = (j : Int) + 1 ∧ (laid (rows (gTo hs (l + 1) hs.length)) hs.length (rows (gTo hs (l + 1) hs.length)).length).getD a 0 = (j : Int) + 1 := by
  obtain ⟨f1, f2⟩ := fair_to hs l hs.length
  obtain ⟨w1, w2⟩ := fair_to hs (l + 1) hs.length
  have hig : i < (gTo hs l hs.length).length := by rw [← rows_len]; exact hi
  have hrow : (rows (gTo hs l hs.length))[i] = (gTo hs l hs.length)[i].2 := by simp [rows]
  have key : ∀ x, x ∈ (rows (gTo hs l hs.length))[i] → x < hs.length ∧ idx (keyOf hs l x) (gTo hs l hs.length) = some i := fun x hx => by
    have hc := f2 x i hig
    rw [← hrow] at hc
    have hp := List.count_pos_iff.2 hx
    rw [hc] at hp
    by_cases hh : x < hs.length ∧ idx (keyOf hs l x) (gTo hs l hs.length) = some i
    · exact hh
    · rw [if_neg hh] at hp; omega
  obtain ⟨k1, k2⟩ := key h hm
  obtain ⟨k3, k4⟩ := key a (by rw [hr]; exact List.mem_cons_self)
  obtain ⟨_, e1⟩ := idx_at _ _ _ k2
  obtain ⟨_, e2⟩ := idx_at _ _ _ k4
  have hke : keyOf hs l h = keyOf hs l a := e1.symm.trans e2
  have hkw : keyOf hs (l + 1) h = keyOf hs (l + 1) a := by
    unfold keyOf placeOf at hke ⊢
    simp only [Place.mk.injEq] at hke ⊢
    obtain ⟨q1, q2, q3, q4⟩ := hke
    rw [if_neg (by omega), if_neg (by omega)] at q2
    refine ⟨q1, by rw [q2], ?_, by rw [if_pos (by omega), if_pos (by omega)]⟩
    by_cases hl : l = 0
    · subst hl
      simp at q3 ⊢
      exact q3
    · rw [if_pos (by omega), if_pos (by omega)]
  obtain ⟨j, hj⟩ := w1 h k1
  have hjl := idx_lt _ _ _ hj
  have hcount : ∀ x, x < hs.length → idx (keyOf hs (l + 1) x) (gTo hs (l + 1) hs.length) = some j → (laid (rows (gTo hs (l + 1) hs.length)) hs.length (rows (gTo hs (l + 1) hs.length)).length).getD x 0 = (j : Int) + 1 := fun x hx hxj => by
    rw [laid_at _ _ x j hx (fun i' hi' => ?_) _ (Nat.le_refl _), if_pos (by rw [rows_len]; exact hjl)]
    have hg : i' < (gTo hs (l + 1) hs.length).length := by rw [← rows_len]; exact hi'
    have hrow' : (rows (gTo hs (l + 1) hs.length)).getD i' [] = (gTo hs (l + 1) hs.length)[i'].2 := by
      rw [List.getD_eq_getElem?_getD, List.getElem?_eq_getElem hi', Option.getD_some]; simp [rows]
    rw [hrow', w2 x i' hg, hxj]
    by_cases e : j = i'
    · subst e; simp [hx]
    · rw [if_neg e, if_neg (by rintro ⟨_, h⟩; injection h with h; exact e h)]
  exact ⟨k1, k3, j, by rw [rows_len]; exact hjl, hcount h k1 hj, hcount a k3 (hkw ▸ hj)⟩
/-- The wider places' hosts are hosts. -/
theorem row_in (hs : List Cfg.Host) (l : Int) (i : Nat) (hi : i < (rows (gTo hs l hs.length)).length) (h : Nat) (hm : h ∈ (rows (gTo hs l hs.length))[i]) : h < hs.length := by
  obtain ⟨f1, f2⟩ := fair_to hs l hs.length
  have hig : i < (gTo hs l hs.length).length := by rw [← rows_len]; exact hi
  have hrow : (rows (gTo hs l hs.length))[i] = (gTo hs l hs.length)[i].2 := by simp [rows]
  have hc := f2 h i hig
  rw [← hrow] at hc
  have hp := List.count_pos_iff.2 hm
  rw [hc] at hp
  by_cases hh : h < hs.length ∧ idx (keyOf hs l h) (gTo hs l hs.length) = some i
  · exact hh.1
  · rw [if_neg hh] at hp; omega
theorem bumps_bd {d b : Int} {row : List Nat} {pl : List Int} (hd : 0 ≤ d) (hd2 : d ≤ 25) (hr : row.length ≤ 24) (hb : ∀ h, 0 ≤ pl.getD h 0 ∧ pl.getD h 0 ≤ b) : ∀ h, 0 ≤ (bumps d row pl).getD h 0 ∧ (bumps d row pl).getD h 0 ≤ b + 600 := fun h => by
  have := hb h
  by_cases hl : h < pl.length
  · rw [bumps_at d row pl h hl]
    have hc : (List.count h row : Int) ≤ 24 := by have := List.count_le_length (a := h) (l := row); omega
    have h1 : 0 ≤ (List.count h row : Int) * d := Int.mul_nonneg (by omega) hd
    have h2 : (List.count h row : Int) * d ≤ 24 * 25 := Int.mul_le_mul hc hd2 hd (by omega)
    omega
  · rw [List.getD_eq_getElem?_getD, List.getElem?_eq_none (by rw [bumps_length]; omega)]
    simp; omega
theorem getD_len {rows : List (List Nat)} {n : Nat} (h : ∀ r ∈ rows, r.length ≤ n) (i : Nat) : (rows.getD i []).length ≤ n := by
  rw [List.getD_eq_getElem?_getD]
  cases e : rows[i]? with
  | none => simp
  | some r => exact h r (List.mem_of_getElem? e)
theorem laid_bd (rows : List (List Nat)) (m : Nat) (hl : ∀ r ∈ rows, r.length ≤ 24) : ∀ i, i ≤ 24 → ∀ h, 0 ≤ (laid rows m i).getD h 0 ∧ (laid rows m i).getD h 0 ≤ 600 * (i : Int)
  | 0, _, h => by
    unfold laid
    rw [List.getD_eq_getElem?_getD, List.getElem?_replicate]
    split <;> simp
  | i + 1, hi, h => by
    unfold laid
    have := bumps_bd (d := (i : Int) + 1) (row := rows.getD i []) (by omega) (by omega) (getD_len hl i) (laid_bd rows m hl i (by omega)) h
    omega
theorem part_bd (rows : List (List Nat)) (m : Nat) (hl : ∀ r ∈ rows, r.length ≤ 24) (i k : Nat) (hi : i < 24) (h : Nat) : 0 ≤ (bumps ((i : Int) + 1) ((rows.getD i []).take k) (laid rows m i)).getD h 0 ∧ (bumps ((i : Int) + 1) ((rows.getD i []).take k) (laid rows m i)).getD h 0 ≤ 20000 := by
  have := bumps_bd (d := (i : Int) + 1) (row := (rows.getD i []).take k) (by omega) (by omega) (by have := getD_len hl i; rw [List.length_take]; omega) (laid_bd rows m hl i (by omega)) h
  omega
end Go.Proofs.Ytjkmcncgndkdoaa.Hst
