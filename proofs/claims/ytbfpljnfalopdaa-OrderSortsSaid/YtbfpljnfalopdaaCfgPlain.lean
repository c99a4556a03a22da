/-
  Configurations, as plain functions: chapter 9. No program in sight.
-/
import Derived.Test.YtbfpljnfalopdaaVecPlain
set_option linter.unusedVariables false
set_option linter.unusedSimpArgs false
namespace Go.Proofs.Ytbfpljnfalopdaa.Cfg
open Go.Proofs.Ytbfpljnfalopdaa

structure Node where
  parent : Int
  weight : Int
  nominal : Vec.V
  borrow : Vec.V
  lend : Vec.V
structure Host where
  flavor : Int
  block : Int
  rack : Int
  cap : Vec.V
structure C where
  nodes : List Node
  hosts : List Host
  half : Int
  age : Int

instance : Inhabited Node := ⟨⟨0, 0, Vec.zero, Vec.zero, Vec.zero⟩⟩
instance : Inhabited Host := ⟨⟨0, 0, 0, Vec.zero⟩⟩

/-- Is it a tenant? -/
def leaf (c : C) (n : Int) : Bool := decide (0 ≤ n) && decide (n < (c.nodes.length : Int)) && c.nodes.all (fun x => x.parent != n)
def leaves (c : C) : List Nat := (List.range c.nodes.length).filter fun i => leaf c (i : Int)
def total (c : C) : Vec.V := c.hosts.foldl (fun v h => Vec.add v h.cap) Vec.zero

def between (n lo hi : Int) : Bool := decide (lo ≤ n) && decide (n ≤ hi)
def isZero (v : Vec.V) : Bool := v.x == 0 && (v.y == 0 && v.z == 0)
def parentOk (i : Nat) (p : Int) : Bool := if i = 0 then p == -1 else between p 0 ((i : Int) - 1)
def nodeOk (c : C) (i : Nat) (n : Node) : Bool :=
  parentOk i n.parent && between n.weight 1 1000 &&
  (if leaf c (i : Int) then Vec.valid n.nominal && (Vec.valid n.borrow && (Vec.valid n.lend && Vec.fits n.lend n.nominal)) else isZero n.nominal && (isZero n.borrow && isZero n.lend))
def hostOk (h : Host) : Bool := between h.flavor 0 100 && (between h.block 0 100 && (between h.rack 0 100 && Vec.valid h.cap))
/-- All nodes ahead of k are as they may be. -/
def nodesOk (c : C) (k : Nat) : Bool := (List.range k).all fun i => nodeOk c i (c.nodes.getD i default)
def hostsOk (c : C) (k : Nat) : Bool := (List.range k).all fun i => hostOk (c.hosts.getD i default)
def sizesOk (c : C) : Bool := between (c.nodes.length : Int) 1 12 && (between (c.hosts.length : Int) 1 24 && (between c.half 1 1048576 && between c.age 0 1048576))
def ok (c : C) : Bool := sizesOk c && (nodesOk c c.nodes.length && hostsOk c c.hosts.length)
def check (c : C) : Int := if ok c then 0 else 2

theorem between_iff (n lo hi : Int) : between n lo hi = true ↔ lo ≤ n ∧ n ≤ hi := by unfold between; simp
theorem nodesOk_succ (c : C) (k : Nat) : nodesOk c (k + 1) = (nodesOk c k && nodeOk c k (c.nodes.getD k default)) := by unfold nodesOk; rw [List.range_succ]; simp
theorem hostsOk_succ (c : C) (k : Nat) : hostsOk c (k + 1) = (hostsOk c k && hostOk (c.hosts.getD k default)) := by unfold hostsOk; rw [List.range_succ]; simp
theorem nodesOk_at {c : C} {n : Nat} (h : nodesOk c n = true) {i : Nat} (hi : i < n) : nodeOk c i (c.nodes.getD i default) = true := by
  unfold nodesOk at h
  rw [List.all_eq_true] at h
  exact h i (by simpa using hi)
theorem hostsOk_at {c : C} {n : Nat} (h : hostsOk c n = true) {i : Nat} (hi : i < n) : hostOk (c.hosts.getD i default) = true := by
  unfold hostsOk at h
  rw [List.all_eq_true] at h
  exact h i (by simpa using hi)
theorem nodesOk_le {c : C} {n k : Nat} (h : nodesOk c n = true) (hk : k ≤ n) : nodesOk c k = true := by
  unfold nodesOk at *
  rw [List.all_eq_true] at *
  intro i hi
  exact h i (by simp at hi ⊢; omega)

theorem leaf_iff (c : C) (n : Int) : leaf c n = true ↔ 0 ≤ n ∧ n < (c.nodes.length : Int) ∧ ∀ x ∈ c.nodes, x.parent ≠ n := by
  unfold leaf
  simp [and_assoc]
theorem parent_lt {c : C} {i : Nat} {x : Node} (h : nodeOk c i x = true) : (i = 0 → x.parent = -1) ∧ (0 < i → 0 ≤ x.parent ∧ x.parent < (i : Int)) := by
  unfold nodeOk parentOk at h
  simp only [Bool.and_eq_true] at h
  have h1 := h.1.1
  constructor
  · intro h0
    rw [if_pos h0] at h1
    simpa using h1
  · intro h0
    rw [if_neg (by omega), between_iff] at h1
    omega

theorem ok_nodes {c : C} (h : ok c = true) : nodesOk c c.nodes.length = true := by unfold ok at h; simp only [Bool.and_eq_true] at h; exact h.2.1
theorem ok_hosts {c : C} (h : ok c = true) : hostsOk c c.hosts.length = true := by unfold ok at h; simp only [Bool.and_eq_true] at h; exact h.2.2
theorem ok_sizes {c : C} (h : ok c = true) : (1 ≤ c.nodes.length ∧ c.nodes.length ≤ 12) ∧ (1 ≤ c.hosts.length ∧ c.hosts.length ≤ 24) ∧ (1 ≤ c.half ∧ c.half ≤ 1048576) ∧ (0 ≤ c.age ∧ c.age ≤ 1048576) := by
  unfold ok sizesOk at h
  simp only [Bool.and_eq_true, between_iff] at h
  omega

/-- A node's Parent stands ahead of it, and is no tenant. -/
theorem parent_of {c : C} (h : ok c = true) {i : Nat} (hi : i < c.nodes.length) (h0 : 0 < i) : 0 ≤ (c.nodes.getD i default).parent ∧ (c.nodes.getD i default).parent < (i : Int) ∧ leaf c (c.nodes.getD i default).parent = false := by
  have h1 := (parent_lt (nodesOk_at (ok_nodes h) hi)).2 h0
  refine ⟨h1.1, h1.2, ?_⟩
  rw [Bool.eq_false_iff]
  intro hl
  rw [leaf_iff] at hl
  refine hl.2.2 (c.nodes.getD i default) ?_ rfl
  rw [List.getD_eq_getElem?_getD, List.getElem?_eq_getElem hi]
  exact List.getElem_mem hi
theorem root_of {c : C} (h : ok c = true) : (c.nodes.getD 0 default).parent = -1 :=
  (parent_lt (nodesOk_at (ok_nodes h) (ok_sizes h).1.1)).1 rfl
/-- The last node is a tenant. -/
theorem last_leaf {c : C} (h : ok c = true) : leaf c ((c.nodes.length - 1 : Nat) : Int) = true := by
  have hs := (ok_sizes h).1
  rw [leaf_iff]
  refine ⟨by omega, by omega, fun x hx => ?_⟩
  obtain ⟨i, hi, rfl⟩ := List.getElem_of_mem hx
  have h1 := parent_lt (nodesOk_at (ok_nodes h) hi)
  rw [List.getD_eq_getElem?_getD, List.getElem?_eq_getElem hi] at h1
  simp only [Option.getD_some] at h1
  rcases Nat.eq_zero_or_pos i with h0 | h0
  · have := h1.1 h0; omega
  · have := h1.2 h0; omega
theorem leaves_pos {c : C} (h : ok c = true) : 0 < (leaves c).length := by
  have hs := (ok_sizes h).1
  apply List.length_pos_of_mem (a := c.nodes.length - 1)
  unfold leaves
  rw [List.mem_filter]
  exact ⟨by simp; omega, last_leaf h⟩

/-! ### two configurations are the same -/
def sameV (a b : Vec.V) : Bool := a.x == b.x && (a.y == b.y && a.z == b.z)
theorem sameV_iff (a b : Vec.V) : sameV a b = true ↔ a = b := by
  unfold sameV
  simp only [Bool.and_eq_true, beq_iff_eq]
  exact ⟨fun h => Vec.V.ext' h.1 h.2.1 h.2.2, fun h => by subst h; exact ⟨rfl, rfl, rfl⟩⟩
def sameN (a b : Node) : Bool := a.parent == b.parent && (a.weight == b.weight && (sameV a.nominal b.nominal && (sameV a.borrow b.borrow && sameV a.lend b.lend)))
theorem sameN_iff (a b : Node) : sameN a b = true ↔ a = b := by
  cases a; cases b
  simp [sameN, sameV_iff]
def sameH (a b : Host) : Bool := a.flavor == b.flavor && (a.block == b.block && (a.rack == b.rack && sameV a.cap b.cap))
theorem sameH_iff (a b : Host) : sameH a b = true ↔ a = b := by
  cases a; cases b
  simp [sameH, sameV_iff]
end Go.Proofs.Ytbfpljnfalopdaa.Cfg
