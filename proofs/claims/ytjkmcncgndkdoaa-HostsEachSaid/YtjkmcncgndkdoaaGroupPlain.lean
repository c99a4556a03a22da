/-
  Places and their hosts, as plain functions: chapter 16. No program in sight.
-/
import Derived.Test.YtjkmcncgndkdoaaHostPlain
set_option linter.unusedVariables false
set_option linter.unusedSimpArgs false
namespace Go.Proofs.Ytjkmcncgndkdoaa.Hst
open Go.Proofs.Ytjkmcncgndkdoaa

structure Place where
  flavor : Int
  block : Int
  rack : Int
  host : Int
  deriving DecidableEq
def placeOf (h : Cfg.Host) (i level : Int) : Place := ⟨h.flavor, if 2 < level then 0 else h.block, if 1 < level then 0 else h.rack, if 0 < level then 0 else i⟩
abbrev G := List (Place × List Nat)
def gput (p : Place) (i : Nat) : G → G
  | [] => [(p, [i])]
  | q :: r => if p = q.1 then (q.1, q.2 ++ [i]) :: r else q :: gput p i r
def idx (p : Place) : G → Option Nat
  | [] => none
  | q :: r => if p = q.1 then some 0 else (idx p r).map (· + 1)
def at_ (hs : List Cfg.Host) (i : Nat) : Cfg.Host := hs.getD i default
def keyOf (hs : List Cfg.Host) (level : Int) (i : Nat) : Place := placeOf (at_ hs i) (i : Int) level
def gTo (hs : List Cfg.Host) (level : Int) : Nat → G
  | 0 => []
  | k + 1 => gput (keyOf hs level k) k (gTo hs level k)
def okLevel (level : Int) : Bool := decide (0 ≤ level) && decide (level ≤ 3)
def groups (hs : List Cfg.Host) (level : Int) : List (List Nat) := if okLevel level then (gTo hs level hs.length).map (·.2) else []

theorem gput_none (p : Place) (i : Nat) : ∀ g : G, idx p g = none → gput p i g = g ++ [(p, [i])]
  | [], _ => rfl
  | q :: r, h => by
    unfold idx at h
    unfold gput
    by_cases hp : p = q.1
    · rw [if_pos hp] at h; cases h
    · rw [if_neg hp] at h
      rw [if_neg hp, gput_none p i r (by simpa using h)]
      rfl
theorem gput_some (p : Place) (i : Nat) : ∀ (g : G) (k : Nat), idx p g = some k → ∃ l, g[k]? = some (p, l) ∧ gput p i g = g.set k (p, l ++ [i])
  | [], k, h => by cases h
  | q :: r, k, h => by
    unfold idx at h
    unfold gput
    by_cases hp : p = q.1
    · rw [if_pos hp] at h
      injection h with h
      subst h
      rw [if_pos hp]
      exact ⟨q.2, by rw [hp]; rfl, by rw [hp]; rfl⟩
    · rw [if_neg hp] at h
      rw [if_neg hp]
      cases hr : idx p r with
      | none => rw [hr] at h; cases h
      | some j =>
        rw [hr] at h
        simp only [Option.map_some, Option.some.injEq] at h
        subst h
        obtain ⟨l, h1, h2⟩ := gput_some p i r j hr
        exact ⟨l, by simpa using h1, by rw [h2]; rfl⟩
theorem idx_app (q p : Place) (l : List Nat) : ∀ g : G, idx p g = none → idx q (g ++ [(p, l)]) = if q = p then some g.length else idx q g
  | [], _ => by
    show idx q [(p, l)] = _
    unfold idx idx
    simp
  | x :: r, h => by
    unfold idx at h
    by_cases hp : p = x.1
    · rw [if_pos hp] at h; cases h
    · rw [if_neg hp] at h
      have ih := idx_app q p l r (by simpa using h)
      show idx q (x :: (r ++ [(p, l)])) = _
      unfold idx
      rw [ih]
      by_cases hq : q = x.1
      · rw [if_pos hq, if_pos hq]
        have hn : ¬ q = p := fun e => hp (e ▸ hq)
        rw [if_neg hn]
      · rw [if_neg hq, if_neg hq]
        by_cases hqp : q = p
        · rw [if_pos hqp, if_pos hqp]; simp
        · rw [if_neg hqp, if_neg hqp]
theorem idx_set (q : Place) : ∀ (g : G) (k : Nat) (p : Place) (l l' : List Nat), g[k]? = some (p, l) → idx q (g.set k (p, l')) = idx q g
  | [], k, p, l, l', h => by simp at h
  | x :: r, 0, p, l, l', h => by
    simp at h
    subst h
    rfl
  | x :: r, k + 1, p, l, l', h => by
    have := idx_set q r k p l l' (by simpa using h)
    rw [List.set_cons_succ]
    unfold idx
    rw [this]
theorem idx_lt (p : Place) : ∀ (g : G) (k : Nat), idx p g = some k → k < g.length
  | [], k, h => by cases h
  | x :: r, k, h => by
    unfold idx at h
    split at h
    · injection h with h; subst h; simp
    · cases hr : idx p r with
      | none => rw [hr] at h; cases h
      | some j =>
        rw [hr] at h
        simp only [Option.map_some, Option.some.injEq] at h
        subst h
        have := idx_lt p r j hr
        simp; omega
theorem gTo_le (hs : List Cfg.Host) (level : Int) : ∀ k, (gTo hs level k).length ≤ k
  | 0 => Nat.le_refl _
  | k + 1 => by
    have ih := gTo_le hs level k
    show (gput _ _ _).length ≤ _
    cases h : idx (keyOf hs level k) (gTo hs level k) with
    | none => rw [gput_none _ _ _ h]; simp; omega
    | some j =>
      obtain ⟨l, _, h2⟩ := gput_some _ k _ _ h
      rw [h2]; simp; omega

theorem gput_each (p : Place) (i n : Nat) (g : G) (h : ∀ q ∈ g, q.2.length ≤ n) : ∀ q ∈ gput p i g, q.2.length ≤ n + 1 := by
  cases hx : idx p g with
  | none =>
    rw [gput_none _ _ _ hx]
    intro q hq
    simp only [List.mem_append, List.mem_singleton] at hq
    rcases hq with hq | rfl
    · have := h q hq; omega
    · simp
  | some k =>
    obtain ⟨l, h1, h2⟩ := gput_some p i g k hx
    rw [h2]
    intro q hq
    rcases List.mem_or_eq_of_mem_set hq with hq | rfl
    · have := h q hq; omega
    · have := h _ (List.mem_of_getElem? h1)
      simp only [List.length_append, List.length_singleton] at this ⊢
      omega
theorem gTo_each (hs : List Cfg.Host) (level : Int) : ∀ k, ∀ q ∈ gTo hs level k, q.2.length ≤ k
  | 0 => fun q hq => by cases hq
  | k + 1 => gput_each _ k k _ (gTo_each hs level k)
def rows (g : G) : List (List Nat) := g.map (·.2)
theorem rows_none {p : Place} {i : Nat} {g : G} (h : idx p g = none) : rows (gput p i g) = (rows g ++ [[]]).set (rows g).length ([] ++ [i]) := by
  rw [gput_none _ _ _ h, List.set_append_right _ _ (Nat.le_refl _), Nat.sub_self]
  simp [rows]
theorem rows_some {p : Place} {i k : Nat} {g : G} (h : idx p g = some k) : ∃ hk : k < (rows g).length, rows (gput p i g) = (rows g).set k ((rows g)[k] ++ [i]) := by
  obtain ⟨l, h1, h2⟩ := gput_some p i g k h
  have hk : k < g.length := (List.getElem?_eq_some_iff.1 h1).1
  refine ⟨by simpa [rows] using hk, ?_⟩
  have hl : (rows g)[k]'(by simpa [rows] using hk) = l := by
    have := (List.getElem?_eq_some_iff.1 h1).2
    simp [rows, this]
  rw [h2, hl]
  simp [rows, List.map_set]
theorem rows_len (g : G) : (rows g).length = g.length := by simp [rows]
theorem idx_put_none {p : Place} {i : Nat} {g : G} (h : idx p g = none) (q : Place) : idx q (gput p i g) = if q = p then some g.length else idx q g := by
  rw [gput_none _ _ _ h, idx_app _ _ _ _ h]
theorem idx_put_some {p : Place} {i k : Nat} {g : G} (h : idx p g = some k) (q : Place) : idx q (gput p i g) = idx q g := by
  obtain ⟨l, h1, h2⟩ := gput_some p i g k h
  rw [h2]
  exact idx_set q g k p l (l ++ [i]) h1
theorem rows_each (hs : List Cfg.Host) (level : Int) (k : Nat) {j : Nat} (h : j < (rows (gTo hs level k)).length) : (rows (gTo hs level k))[j].length ≤ k := by
  have hj : j < (gTo hs level k).length := by simpa [rows] using h
  have := gTo_each hs level k _ (List.getElem_mem hj)
  simpa [rows] using this

/-- Are two hosts of one group? -/
def alike (hs : List Cfg.Host) (level : Int) (a b : Nat) : Bool :=
  if level = 0 then decide (a = b)
  else if level = 1 then (at_ hs a).flavor == (at_ hs b).flavor && ((at_ hs a).block == (at_ hs b).block && (at_ hs a).rack == (at_ hs b).rack)
  else if level = 2 then (at_ hs a).flavor == (at_ hs b).flavor && (at_ hs a).block == (at_ hs b).block
  else (at_ hs a).flavor == (at_ hs b).flavor
theorem alike_iff (hs : List Cfg.Host) (level : Int) (a b : Nat) (h : okLevel level = true) : alike hs level a b = decide (keyOf hs level a = keyOf hs level b) := by
  unfold okLevel at h
  simp only [Bool.and_eq_true, decide_eq_true_eq] at h
  have h4 : level = 0 ∨ level = 1 ∨ level = 2 ∨ level = 3 := by omega
  unfold alike keyOf placeOf
  rw [Bool.eq_iff_iff]
  rcases h4 with rfl | rfl | rfl | rfl
  · simp only [decide_eq_true_eq, Place.mk.injEq, if_true, if_false]
    constructor
    · intro e; subst e; simp
    · intro e; have := e.2.2.2; simp at this; omega
  · simp
  · simp
  · simp
/-- Each place's hosts are of it, and there is one. -/
def Heads (hs : List Cfg.Host) (level : Int) (g : G) : Prop := ∀ q ∈ g, ∃ h t, q.2 = h :: t ∧ keyOf hs level h = q.1 ∧ h < hs.length
theorem heads_put (hs : List Cfg.Host) (level : Int) (g : G) (i : Nat) (hi : i < hs.length) (h : Heads hs level g) : Heads hs level (gput (keyOf hs level i) i g) := by
  cases hx : idx (keyOf hs level i) g with
  | none =>
    rw [gput_none _ _ _ hx]
    intro q hq
    simp only [List.mem_append, List.mem_singleton] at hq
    rcases hq with hq | rfl
    · exact h q hq
    · exact ⟨i, [], rfl, rfl, hi⟩
  | some k =>
    obtain ⟨l, h1, h2⟩ := gput_some (keyOf hs level i) i g k hx
    rw [h2]
    intro q hq
    rcases List.mem_or_eq_of_mem_set hq with hq | rfl
    · exact h q hq
    · obtain ⟨a, t, e1, e2, e3⟩ := h _ (List.mem_of_getElem? h1)
      simp only at e1 e2
      exact ⟨a, t ++ [i], by simp [e1], e2, e3⟩
theorem heads_to (hs : List Cfg.Host) (level : Int) : ∀ k, k ≤ hs.length → Heads hs level (gTo hs level k)
  | 0, _ => fun q hq => by cases hq
  | k + 1, hk => heads_put hs level _ k (by omega) (heads_to hs level k (by omega))
end Go.Proofs.Ytjkmcncgndkdoaa.Hst
