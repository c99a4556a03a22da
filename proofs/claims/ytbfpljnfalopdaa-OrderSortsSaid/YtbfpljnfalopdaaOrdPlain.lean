/-
  Who comes first, as plain functions: chapter 15's laws. No program in sight.
-/
import Derived.Test.YtbfpljnfalopdaaTreePlain
import Derived.Test.YtbfpljnfalopdaaFixPlain
set_option linter.unusedVariables false
set_option linter.unusedSimpArgs false
namespace Go.Proofs.Ytbfpljnfalopdaa.Ord
open Go.Proofs.Ytbfpljnfalopdaa

/-- A gang that waits. -/
structure P where
  id : Int
  tenant : Int
  pods : Int
  need : Vec.V
  run : Int
  level : Int
  prefer : Int
  seq : Int
  since : Int

def num (a b : Int) : Int := if a < b then -1 else if b < a then 1 else 0
def or2 (a b : Int) : Int := if a ≠ 0 then a else b
def old (age now since : Int) : Bool := decide (0 < age) && decide (since ≤ now) && decide (age ≤ now - since)
def subtree (c : Cfg.C) (h : List Nat) (n : Int) : Nat := (Tree.below c n).foldl (fun s (t : Nat) => if t < h.length then Fix.add s (h.getD t 0) else s) 0
def weight (c : Cfg.C) (n : Int) : Int := if 0 ≤ n ∧ n < (c.nodes.length : Int) then max 1 ((c.nodes.getD n.toNat default).weight) else 1
def level (c : Cfg.C) (h : List Nat) (n : Int) : Nat := Fix.quo (subtree c h n) (Fix.ofInt (weight c n))
def nodes (c : Cfg.C) (h : List Nat) (a b : Nat) : Int := or2 (num (level c h (a : Int)) (level c h (b : Int))) (num a b)
def lex (f : Nat → Nat → Int) : List Nat → List Nat → Int
  | [], [] => 0
  | [], _ :: _ => -1
  | _ :: _, [] => 1
  | x :: xs, y :: ys => if x = y then lex f xs ys else f x y
def tree (c : Cfg.C) (h : List Nat) (a b : Int) : Int := lex (nodes c h) (Tree.path c a) (Tree.path c b)
def oldP (c : Cfg.C) (now : Int) (p : P) : Bool := old c.age now p.since
def cmp (c : Cfg.C) (h : List Nat) (now : Int) (a b : P) : Int :=
  if oldP c now a = true ∧ oldP c now b = false then -1 else if oldP c now b = true ∧ oldP c now a = false then 1 else if oldP c now a = true then num a.seq b.seq else or2 (tree c h a.tenant b.tenant) (num a.seq b.seq)

/-- An order, as a function that compares. -/
structure IsCmp {α : Type} (f : α → α → Int) : Prop where
  neg : ∀ a b, f a b = - f b a
  sgn : ∀ a b, f a b = -1 ∨ f a b = 0 ∨ f a b = 1
  trans : ∀ a b c, f a b ≤ 0 → f b c ≤ 0 → f a c ≤ 0
theorem IsCmp.self {α : Type} {f : α → α → Int} (h : IsCmp f) (a : α) : f a a = 0 := by have := h.neg a a; omega
theorem IsCmp.strict {α : Type} {f : α → α → Int} (h : IsCmp f) {a b c : α} (h1 : f a b ≤ 0) (h2 : f b c ≤ 0) (h3 : f a c = 0) : f a b = 0 ∧ f b c = 0 := by
  have n1 := h.neg a c
  have n2 := h.neg a b
  have n3 := h.neg b c
  have t1 := h.trans b c a h2 (by omega)
  have t2 := h.trans c a b (by omega) h1
  omega
theorem IsCmp.eq_left {α : Type} {f : α → α → Int} (h : IsCmp f) {a b : α} (c : α) (h1 : f a b = 0) : f a c = f b c := by
  have n1 := h.neg a b
  have n2 := h.neg a c
  have n3 := h.neg b c
  have s1 := h.sgn a c
  have s2 := h.sgn b c
  have t1 := h.trans a b c (by omega)
  have t2 := h.trans b a c (by omega)
  have t3 := h.trans c a b
  have t4 := h.trans c b a
  omega
theorem num_cmp : IsCmp num := by
  refine ⟨fun a b => ?_, fun a b => ?_, fun a b c => ?_⟩
  · unfold num; split <;> split <;> omega
  · unfold num; split
    · omega
    · split <;> omega
  · unfold num; split <;> split <;> (try split) <;> (try split) <;> (try split) <;> (try split) <;> omega
theorem num_zero {a b : Int} (h : num a b = 0) : a = b := by unfold num at h; split at h; omega; split at h <;> omega
theorem IsCmp.pull {α β : Type} {f : α → α → Int} (h : IsCmp f) (g : β → α) : IsCmp (fun a b => f (g a) (g b)) := ⟨fun _ _ => h.neg _ _, fun _ _ => h.sgn _ _, fun _ _ _ => h.trans _ _ _⟩
theorem IsCmp.or {α : Type} {f g : α → α → Int} (hf : IsCmp f) (hg : IsCmp g) : IsCmp (fun a b => or2 (f a b) (g a b)) := by
  refine ⟨fun a b => ?_, fun a b => ?_, fun a b c h1 h2 => ?_⟩
  · have := hf.neg a b
    have := hg.neg a b
    simp only [or2]; split <;> split <;> omega
  · have := hf.sgn a b
    have := hg.sgn a b
    simp only [or2]; split <;> omega
  · have t := hf.trans a b c
    have s := @IsCmp.strict α f hf a b c
    have k := hg.trans a b c
    simp only [or2] at h1 h2 ⊢
    split at h1 <;> split at h2 <;> split <;> omega
theorem lex_cmp {f : Nat → Nat → Int} (hf : IsCmp f) (hz : ∀ a b, f a b = 0 → a = b) : IsCmp (lex f) := by
  refine ⟨?_, ?_, ?_⟩
  · intro a
    induction a with
    | nil => intro b; cases b <;> simp [lex]
    | cons x xs ih =>
      intro b
      cases b with
      | nil => simp [lex]
      | cons y ys =>
        simp only [lex]
        by_cases h : x = y
        · rw [if_pos h, if_pos h.symm]; exact ih ys
        · rw [if_neg h, if_neg (fun e => h e.symm)]; exact hf.neg x y
  · intro a
    induction a with
    | nil => intro b; cases b <;> simp [lex]
    | cons x xs ih =>
      intro b
      cases b with
      | nil => simp [lex]
      | cons y ys =>
        simp only [lex]
        split
        · exact ih ys
        · exact hf.sgn x y
  · intro a
    induction a with
    | nil => intro b c _ _; cases c <;> simp [lex]
    | cons x xs ih =>
      intro b c h1 h2
      cases b with
      | nil => simp [lex] at h1
      | cons y ys =>
        cases c with
        | nil => simp [lex] at h2
        | cons z zs =>
          simp only [lex] at h1 h2 ⊢
          have t := hf.trans x y z
          by_cases e1 : x = y
          · subst e1
            rw [if_pos rfl] at h1
            by_cases e2 : x = z
            · subst e2
              rw [if_pos rfl] at h2 ⊢
              exact ih ys zs h1 h2
            · rw [if_neg e2] at h2 ⊢
              exact h2
          · rw [if_neg e1] at h1
            by_cases e2 : y = z
            · subst e2
              rw [if_neg e1]
              exact h1
            · rw [if_neg e2] at h2
              have t' := t h1 h2
              by_cases e3 : x = z
              · subst e3
                have n := hf.neg x y
                have := hz x y (by omega)
                exact absurd this e1
              · rw [if_neg e3]; exact t'
theorem nodes_cmp (c : Cfg.C) (h : List Nat) : IsCmp (nodes c h) :=
  (num_cmp.pull (fun a : Nat => ((level c h (a : Int) : Nat) : Int))).or (num_cmp.pull (fun a : Nat => (a : Int)))
theorem nodes_zero (c : Cfg.C) (h : List Nat) (a b : Nat) (e : nodes c h a b = 0) : a = b := by
  unfold nodes or2 at e
  split at e
  · omega
  · have := num_zero e
    omega
theorem tree_self (c : Cfg.C) (h : List Nat) (a : Int) : tree c h a a = 0 := (lex_cmp (nodes_cmp c h) (nodes_zero c h)).self _

def oldNum (a b : Bool) : Int := if a = true ∧ b = false then -1 else if b = true ∧ a = false then 1 else 0
theorem oldNum_cmp : IsCmp oldNum := ⟨by decide, by decide, by decide⟩
/-- Where an old one lies in the tree plays no part. -/
def way (c : Cfg.C) (now : Int) (p : P) : List Nat := if oldP c now p = true then [] else Tree.path c p.tenant
theorem cmp_eq (c : Cfg.C) (h : List Nat) (now : Int) (a b : P) : cmp c h now a b = or2 (oldNum (oldP c now a) (oldP c now b)) (or2 (lex (nodes c h) (way c now a) (way c now b)) (num a.seq b.seq)) := by
  unfold cmp way tree oldNum
  cases oldP c now a <;> cases oldP c now b <;> simp [or2, lex]
theorem cmp_cmp (c : Cfg.C) (h : List Nat) (now : Int) : IsCmp (cmp c h now) := by
  have e : cmp c h now = fun a b => or2 (oldNum (oldP c now a) (oldP c now b)) (or2 (lex (nodes c h) (way c now a) (way c now b)) (num a.seq b.seq)) := by
    funext a b; exact cmp_eq c h now a b
  rw [e]
  exact (oldNum_cmp.pull (oldP c now)).or (((lex_cmp (nodes_cmp c h) (nodes_zero c h)).pull (way c now)).or (num_cmp.pull (fun p : P => p.seq)))
theorem cmp_seq {c : Cfg.C} {h : List Nat} {now : Int} {a b : P} (e : cmp c h now a b = 0) : a.seq = b.seq := by
  rw [cmp_eq] at e
  unfold or2 at e
  split at e
  · omega
  · split at e
    · omega
    · exact num_zero e
theorem cmp_old {c : Cfg.C} {h : List Nat} {now : Int} {a b : P} (ha : oldP c now a = true) (hb : oldP c now b = false) : cmp c h now a b = -1 ∧ cmp c h now b a = 1 := by
  have e : cmp c h now a b = -1 := by unfold cmp; rw [if_pos ⟨ha, hb⟩]
  have n := (cmp_cmp c h now).neg a b
  omega
theorem cmp_own {c : Cfg.C} {h : List Nat} {now : Int} {a b : P} (ht : a.tenant = b.tenant) (ho : oldP c now a = oldP c now b) (hs : a.seq < b.seq) : cmp c h now a b = -1 := by
  unfold cmp
  rw [ht, tree_self, ho]
  cases oldP c now b <;> simp [or2, num, hs]
end Go.Proofs.Ytbfpljnfalopdaa.Ord
