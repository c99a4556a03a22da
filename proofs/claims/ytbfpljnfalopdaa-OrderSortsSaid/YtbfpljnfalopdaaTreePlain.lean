/-
  The tree of tenants, and usage that is counted, as plain functions: chapters 10 and 12. No program in sight.
-/
import Derived.Test.YtbfpljnfalopdaaCfgPlain
set_option linter.unusedVariables false
set_option linter.unusedSimpArgs false
namespace Go.Proofs.Ytbfpljnfalopdaa.Tree
open Go.Proofs.Ytbfpljnfalopdaa

def par (c : Cfg.C) (n : Nat) : Int := (c.nodes.getD n default).parent
/-- From a node to the root, in f steps at most. -/
def upF (c : Cfg.C) : Nat → Int → List Nat
  | 0, _ => []
  | f + 1, n => if 0 ≤ n ∧ n < (c.nodes.length : Int) then n.toNat :: (if n ≤ par c n.toNat then [] else upF c f (par c n.toNat)) else []
def up (c : Cfg.C) (n : Int) : List Nat := upF c (n.toNat + 1) n
def path (c : Cfg.C) (n : Int) : List Nat := (up c n).reverse
def on (c : Cfg.C) (n : Int) (t : Nat) : Bool := (up c (t : Int)).any fun x => (x : Int) == n
def below (c : Cfg.C) (n : Int) : List Nat := (Cfg.leaves c).filter fun t => on c n t
def at_ (l : List Vec.V) (n : Int) : Vec.V := if 0 ≤ n ∧ n < (l.length : Int) then l.getD n.toNat Vec.zero else Vec.zero
def sum (c : Cfg.C) (n : Int) (l : List Vec.V) : Vec.V := (below c n).foldl (fun v (t : Nat) => Vec.add v (at_ l (t : Int))) Vec.zero

theorem upF_more (c : Cfg.C) : ∀ (f g : Nat) (n : Int), n.toNat < f → n.toNat < g → upF c f n = upF c g n
  | 0, _, _, h, _ => by omega
  | _, 0, _, _, h => by omega
  | f + 1, g + 1, n, hf, hg => by
    unfold upF
    by_cases h : 0 ≤ n ∧ n < (c.nodes.length : Int)
    · rw [if_pos h, if_pos h]
      by_cases hp : n ≤ par c n.toNat
      · rw [if_pos hp, if_pos hp]
      · rw [if_neg hp, if_neg hp]
        by_cases h0 : par c n.toNat < 0
        · have hz : ∀ k, upF c k (par c n.toNat) = [] := by
            intro k
            cases k with
            | zero => rfl
            | succ k => unfold upF; rw [if_neg (by omega)]
          rw [hz, hz]
        · rw [upF_more c f g _ (by omega) (by omega)]
    · rw [if_neg h, if_neg h]
theorem up_out (c : Cfg.C) (n : Int) (h : ¬ (0 ≤ n ∧ n < (c.nodes.length : Int))) : up c n = [] := by unfold up upF; rw [if_neg h]
theorem up_in (c : Cfg.C) (n : Nat) (h : n < c.nodes.length) : up c (n : Int) = n :: (if (n : Int) ≤ par c n then [] else up c (par c n)) := by
  show upF c (n + 1) (n : Int) = _
  rw [upF, if_pos (by omega), Int.toNat_natCast]
  by_cases hp : (n : Int) ≤ par c n
  · rw [if_pos hp, if_pos hp]
  · rw [if_neg hp, if_neg hp]
    by_cases h0 : par c n < 0
    · rw [up_out c _ (by omega)]
      cases n with
      | zero => rfl
      | succ k => unfold upF; rw [if_neg (by omega)]
    · unfold up
      rw [upF_more c n ((par c n).toNat + 1) (par c n) (by omega) (by omega)]

/-- All on the way up are nodes, each less than the one ahead. -/
theorem upF_lt (c : Cfg.C) : ∀ (f : Nat) (n : Int), ∀ x ∈ upF c f n, x < c.nodes.length ∧ (x : Int) ≤ n
  | 0, _, x, h => by simp [upF] at h
  | f + 1, n, x, h => by
    unfold upF at h
    split at h
    · rename_i hn
      rcases List.mem_cons.1 h with rfl | h
      · omega
      · split at h
        · simp at h
        · rename_i hp
          have := upF_lt c f _ x h
          omega
    · simp at h
theorem up_lt (c : Cfg.C) (n : Int) : ∀ x ∈ up c n, x < c.nodes.length ∧ (x : Int) ≤ n := upF_lt c _ n
theorem upF_pairwise (c : Cfg.C) : ∀ (f : Nat) (n : Int), (upF c f n).Pairwise (fun a b => b < a)
  | 0, _ => List.Pairwise.nil
  | f + 1, n => by
    unfold upF
    split
    · rename_i hn
      refine List.Pairwise.cons ?_ ?_
      · intro b hb
        split at hb
        · simp at hb
        · rename_i hp
          have := upF_lt c f _ b hb
          omega
      · split
        · exact List.Pairwise.nil
        · exact upF_pairwise c f _
    · exact List.Pairwise.nil
theorem up_pairwise (c : Cfg.C) (n : Int) : (up c n).Pairwise (fun a b => b < a) := upF_pairwise c _ n
theorem up_nodup (c : Cfg.C) (n : Int) : (up c n).Nodup := (up_pairwise c n).imp (fun h => by omega)
theorem upF_length (c : Cfg.C) : ∀ (f : Nat) (n : Int), (upF c f n).length ≤ f
  | 0, _ => Nat.le_refl _
  | f + 1, n => by
    unfold upF
    split
    · rw [List.length_cons]
      split
      · simp
      · have := upF_length c f (par c n.toNat); omega
    · simp
theorem up_length (c : Cfg.C) (n : Int) : (up c n).length ≤ c.nodes.length := by
  by_cases h : 0 ≤ n ∧ n < (c.nodes.length : Int)
  · have := upF_length c (n.toNat + 1) n
    unfold up
    omega
  · rw [up_out c n h]; simp

theorem leaves_mem (c : Cfg.C) (t : Nat) : t ∈ Cfg.leaves c ↔ Cfg.leaf c (t : Int) = true := by
  unfold Cfg.leaves
  rw [List.mem_filter, List.mem_range]
  constructor
  · exact fun h => h.2
  · intro h
    refine ⟨?_, h⟩
    rw [Cfg.leaf_iff] at h
    omega
theorem leaf_lt {c : Cfg.C} {t : Int} (h : Cfg.leaf c t = true) : 0 ≤ t ∧ t < (c.nodes.length : Int) := by rw [Cfg.leaf_iff] at h; omega
end Go.Proofs.Ytbfpljnfalopdaa.Tree
