/-
  Usage that is counted, as plain functions: chapter 12. No program in sight.
-/
import Derived.Test.YtbfpljnfalopdaaTreePlain
set_option linter.unusedVariables false
set_option linter.unusedSimpArgs false
namespace Go.Proofs.Ytbfpljnfalopdaa.Led
open Go.Proofs.Ytbfpljnfalopdaa

/-- What each node uses. -/
abbrev U := Nat → Vec.V
def none_ : U := fun _ => Vec.zero
def bump (f : Vec.V → Vec.V) (u : U) (xs : List Nat) : U := fun i => if i ∈ xs then f (u i) else u i
def leafUsed (c : Cfg.C) (u : U) (t : Int) : Vec.V := if Cfg.leaf c t then u t.toNat else Vec.zero
def change (c : Cfg.C) (u : U) (t : Int) (f : Vec.V → Vec.V) : U := if Cfg.leaf c t then bump f u (Tree.up c t) else u
def changeErr (c : Cfg.C) (t : Int) : Int := if Cfg.leaf c t then 0 else 3
def takeErr (c : Cfg.C) (t : Int) (v : Vec.V) : Int := if Vec.valid v then changeErr c t else 1
def take (c : Cfg.C) (u : U) (t : Int) (v : Vec.V) : U := if Vec.valid v then change c u t (fun a => Vec.add a v) else u
def mayGive (c : Cfg.C) (u : U) (t : Int) (v : Vec.V) : Bool := Vec.valid v && Vec.fits v (leafUsed c u t)
def giveErr (c : Cfg.C) (u : U) (t : Int) (v : Vec.V) : Int := if mayGive c u t v then changeErr c t else 1
def give (c : Cfg.C) (u : U) (t : Int) (v : Vec.V) : U := if mayGive c u t v then change c u t (fun a => Vec.sub a v) else u
def all (c : Cfg.C) (u : U) : List Vec.V := (List.range c.nodes.length).map u
def at_ (c : Cfg.C) (u : U) (n : Int) : Vec.V := if 0 ≤ n ∧ n < (c.nodes.length : Int) then u n.toNat else Vec.zero

structure Deed where
  give : Bool
  t : Int
  v : Vec.V
def deed (c : Cfg.C) (u : U) (d : Deed) : U := if d.give then give c u d.t d.v else take c u d.t d.v
def deedErr (c : Cfg.C) (u : U) (d : Deed) : Int := if d.give then giveErr c u d.t d.v else takeErr c d.t d.v
def deeds (c : Cfg.C) : U → List Deed → U := List.foldl (deed c)

theorem bump_cons (f : Vec.V → Vec.V) (u : U) (x : Nat) (xs : List Nat) (h : x ∉ xs) : bump f u (x :: xs) = bump f (fun i => if i = x then f (u x) else u i) xs := by
  funext i
  unfold bump
  by_cases hi : i = x
  · subst hi
    simp [h]
  · simp [hi]
theorem bump_nil (f : Vec.V → Vec.V) (u : U) : bump f u [] = u := by funext i; simp [bump]
theorem bump_perm (f : Vec.V → Vec.V) (u : U) {xs ys : List Nat} (h : ∀ i, i ∈ xs ↔ i ∈ ys) : bump f u xs = bump f u ys := by
  funext i
  unfold bump
  simp [h i]

/-! ### what is taken and given back -/
def Small (u : U) (k : Int) : Prop := ∀ i, (0 ≤ (u i).x ∧ (u i).x ≤ k) ∧ (0 ≤ (u i).y ∧ (u i).y ≤ k) ∧ (0 ≤ (u i).z ∧ (u i).z ≤ k)

theorem add_in {a v : Vec.V} {k : Int} (hk : k ≤ 274877906944) (ha : (0 ≤ a.x ∧ a.x ≤ k) ∧ (0 ≤ a.y ∧ a.y ≤ k) ∧ (0 ≤ a.z ∧ a.z ≤ k)) (hv : Vec.valid v = true) :
    Vec.add a v = ⟨a.x + v.x, a.y + v.y, a.z + v.z⟩ := by
  rw [Vec.valid_iff] at hv
  unfold Vec.add
  rw [Vec.add1_in _ _ (by omega) (by omega) (by omega) (by omega), Vec.add1_in _ _ (by omega) (by omega) (by omega) (by omega), Vec.add1_in _ _ (by omega) (by omega) (by omega) (by omega)]
theorem sub_in {a v : Vec.V} {k : Int} (hk : k ≤ 274877906944) (ha : (0 ≤ a.x ∧ a.x ≤ k) ∧ (0 ≤ a.y ∧ a.y ≤ k) ∧ (0 ≤ a.z ∧ a.z ≤ k)) (hv : Vec.valid v = true) :
    Vec.sub a v = ⟨a.x - v.x, a.y - v.y, a.z - v.z⟩ := by
  rw [Vec.valid_iff] at hv
  unfold Vec.sub
  rw [Vec.sub1_in _ _ (by omega) (by omega) (by omega) (by omega), Vec.sub1_in _ _ (by omega) (by omega) (by omega) (by omega), Vec.sub1_in _ _ (by omega) (by omega) (by omega) (by omega)]

theorem none_small : Small none_ 0 := fun i => by simp [none_, Vec.zero]
theorem take_small {c : Cfg.C} {u : U} {k : Int} (t : Int) (v : Vec.V) (hk : k ≤ 274877906944) (h : Small u k) : Small (take c u t v) (k + 1048576) := by
  have hmono : Small u (k + 1048576) := fun i => by have := h i; omega
  unfold take
  split
  · rename_i hv
    have hv' := hv
    rw [Vec.valid_iff] at hv'
    unfold change
    split
    · intro i
      unfold bump
      split
      · have := h i
        simp only [add_in hk (h i) hv]
        omega
      · exact hmono i
    · exact hmono
  · exact hmono

/-- What was taken can be given back; then all is as it was. -/
theorem take_give {c : Cfg.C} {u : U} {k : Int} (t : Int) (v : Vec.V) (hk : k ≤ 274876858368) (h0 : 0 ≤ k) (h : Small u k) (he : takeErr c t v = 0) :
    giveErr c (take c u t v) t v = 0 ∧ give c (take c u t v) t v = u := by
  have hv : Vec.valid v = true := by
    unfold takeErr at he
    split at he
    · assumption
    · omega
  have hl : Cfg.leaf c t = true := by
    unfold takeErr changeErr at he
    rw [if_pos hv] at he
    split at he
    · assumption
    · omega
  have e : take c u t v = bump (fun a => Vec.add a v) u (Tree.up c t) := by unfold take change; rw [if_pos hv, if_pos hl]
  have hs := take_small (c := c) t v (by omega) h
  have hlt := Tree.leaf_lt hl
  have hmem : t.toNat ∈ Tree.up c t := by
    have := Tree.up_in c t.toNat (by omega)
    rw [show ((t.toNat : Nat) : Int) = t by omega] at this
    rw [this]; simp
  have hm : mayGive c (take c u t v) t v = true := by
    unfold mayGive leafUsed
    rw [if_pos hl, hv, e]
    simp only [Bool.true_and]
    unfold bump
    rw [if_pos hmem]
    show Vec.fits v (Vec.add (u t.toNat) v) = true
    rw [add_in (by omega) (h _) hv, Vec.fits_iff]
    have := h t.toNat
    simp only
    omega
  refine ⟨by unfold giveErr changeErr; rw [if_pos hm, if_pos hl], ?_⟩
  unfold give change
  rw [if_pos hm, if_pos hl]
  funext i
  have hsi := hs i
  rw [e] at hsi ⊢
  unfold bump at hsi ⊢
  by_cases hi : i ∈ Tree.up c t
  · rw [if_pos hi] at hsi ⊢
    rw [if_pos hi]
    show Vec.sub (Vec.add (u i) v) v = u i
    have hsi' : (0 ≤ (Vec.add (u i) v).x ∧ (Vec.add (u i) v).x ≤ k + 1048576) ∧ (0 ≤ (Vec.add (u i) v).y ∧ (Vec.add (u i) v).y ≤ k + 1048576) ∧ (0 ≤ (Vec.add (u i) v).z ∧ (Vec.add (u i) v).z ≤ k + 1048576) := hsi
    rw [sub_in (by omega) hsi' hv, add_in (by omega) (h i) hv]
    exact Vec.V.ext' (by simp only; omega) (by simp only; omega) (by simp only; omega)
  · rw [if_neg hi, if_neg hi]
end Go.Proofs.Ytbfpljnfalopdaa.Led
