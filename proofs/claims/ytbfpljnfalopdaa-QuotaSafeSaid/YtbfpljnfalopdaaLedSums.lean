/-
  What a cohort uses is what all below it use, together: the plain law of chapter 12.
-/
import Derived.Test.YtbfpljnfalopdaaLedPlain
set_option linter.unusedVariables false
set_option linter.unusedSimpArgs false
namespace Go.Proofs.Ytbfpljnfalopdaa.Led
open Go.Proofs.Ytbfpljnfalopdaa

theorem upF_step (c : Cfg.C) : ∀ (f : Nat) (n : Int), ∀ x ∈ Tree.upF c f n, x = n.toNat ∨ ∃ y, y < c.nodes.length ∧ Tree.par c y = (x : Int)
  | 0, _, x, h => by simp [Tree.upF] at h
  | f + 1, n, x, h => by
    unfold Tree.upF at h
    split at h
    · rename_i hn
      rcases List.mem_cons.1 h with rfl | h
      · exact .inl rfl
      · split at h
        · simp at h
        · rename_i hp
          rcases upF_step c f _ x h with rfl | h'
          · refine .inr ⟨n.toNat, by omega, ?_⟩
            have : 0 ≤ Tree.par c n.toNat := by
              rcases Int.lt_or_le (Tree.par c n.toNat) 0 with h0 | h0
              · exfalso
                cases f with
                | zero => simp [Tree.upF] at h
                | succ f => unfold Tree.upF at h; rw [if_neg (by omega)] at h; simp at h
              · exact h0
            omega
          · exact .inr h'
    · simp at h
/-- A tenant on a tenant's way up is that tenant. -/
theorem leaf_on {c : Cfg.C} {t : Int} {x : Nat} (hx : x ∈ Tree.up c t) (hl : Cfg.leaf c (x : Int) = true) : x = t.toNat := by
  rcases upF_step c _ t x hx with h | ⟨y, hy, hp⟩
  · exact h
  · exfalso
    rw [Cfg.leaf_iff] at hl
    refine hl.2.2 (c.nodes.getD y default) ?_ hp
    rw [List.getD_eq_getElem?_getD, List.getElem?_eq_getElem hy]
    exact List.getElem_mem hy

def sumI (f : Nat → Int) : List Nat → Int
  | [] => 0
  | x :: xs => f x + sumI f xs
theorem sumI_cons (f : Nat → Int) (x : Nat) (xs : List Nat) : sumI f (x :: xs) = f x + sumI f xs := rfl
theorem sumI_same {f g : Nat → Int} : ∀ (l : List Nat), (∀ x ∈ l, f x = g x) → sumI f l = sumI g l
  | [], _ => rfl
  | x :: xs, h => by unfold sumI; rw [h x (by simp), sumI_same xs (fun y hy => h y (by simp [hy]))]
/-- One summand of a row without doubles turned. -/
theorem sumI_one {f g : Nat → Int} {t : Nat} {d : Int} : ∀ (l : List Nat), l.Nodup → (∀ x ∈ l, x ≠ t → g x = f x) → g t = f t + d → sumI g l = sumI f l + (if t ∈ l then d else 0)
  | [], _, _, _ => by simp [sumI]
  | x :: xs, hn, h, ht => by
    unfold sumI
    rw [List.nodup_cons] at hn
    have ih := sumI_one xs hn.2 (fun y hy => h y (by simp [hy])) ht
    rw [ih]
    by_cases hx : x = t
    · subst hx
      rw [ht]
      simp [hn.1]
      omega
    · rw [h x (by simp) hx]
      have : ¬ t = x := fun e => hx e.symm
      by_cases hm : t ∈ xs <;> simp [hm, this] <;> omega
theorem sumI_bounds {f : Nat → Int} {k : Int} : ∀ (l : List Nat), (∀ x, 0 ≤ f x ∧ f x ≤ k) → 0 ≤ sumI f l ∧ sumI f l ≤ l.length * k
  | [], _ => by simp [sumI]
  | x :: xs, h => by
    have ih := sumI_bounds xs h
    have := h x
    unfold sumI
    rw [List.length_cons]
    have e : ((xs.length + 1 : Nat) : Int) * k = (xs.length : Int) * k + k := by rw [Int.natCast_add, Int.add_mul]; simp
    rw [e]
    omega

theorem leaves_nodup (c : Cfg.C) : (Cfg.leaves c).Nodup := List.Nodup.sublist List.filter_sublist List.nodup_range
theorem leaves_length (c : Cfg.C) : (Cfg.leaves c).length ≤ c.nodes.length := by
  have := List.length_filter_le (fun i : Nat => Cfg.leaf c (i : Int)) (List.range c.nodes.length)
  simpa [Cfg.leaves] using this
theorem below_nodup (c : Cfg.C) (n : Int) : (Tree.below c n).Nodup := List.Nodup.sublist List.filter_sublist (leaves_nodup c)
theorem below_length (c : Cfg.C) (n : Int) : (Tree.below c n).length ≤ c.nodes.length := Nat.le_trans (List.length_filter_le _ _) (leaves_length c)
theorem below_mem (c : Cfg.C) (n t : Nat) : t ∈ Tree.below c (n : Int) ↔ Cfg.leaf c (t : Int) = true ∧ n ∈ Tree.up c (t : Int) := by
  unfold Tree.below Tree.on
  rw [List.mem_filter, Tree.leaves_mem, List.any_eq_true]
  constructor
  · rintro ⟨h1, x, hx, he⟩
    have : x = n := by simp at he; omega
    exact ⟨h1, this ▸ hx⟩
  · rintro ⟨h1, h2⟩
    exact ⟨h1, n, h2, by simp⟩

/-- What each node uses is what all tenants below it use. -/
def Sums (c : Cfg.C) (u : U) : Prop := ∀ n, n < c.nodes.length →
  (u n).x = sumI (fun t => (u t).x) (Tree.below c (n : Int)) ∧ (u n).y = sumI (fun t => (u t).y) (Tree.below c (n : Int)) ∧ (u n).z = sumI (fun t => (u t).z) (Tree.below c (n : Int))

theorem none_sums (c : Cfg.C) : Sums c none_ := by
  have h : ∀ l : List Nat, sumI (fun _ => 0) l = 0 := fun l => by
    have := sumI_bounds (f := fun _ => 0) (k := 0) l (fun _ => by omega)
    omega
  intro n _
  exact ⟨(h _).symm, (h _).symm, (h _).symm⟩

theorem change_sums {c : Cfg.C} {u : U} {t : Int} {f : Vec.V → Vec.V} {dx dy dz : Int} (hl : Cfg.leaf c t = true) (h : Sums c u)
    (hx : ∀ i ∈ Tree.up c t, (f (u i)).x = (u i).x + dx) (hy : ∀ i ∈ Tree.up c t, (f (u i)).y = (u i).y + dy) (hz : ∀ i ∈ Tree.up c t, (f (u i)).z = (u i).z + dz) :
    Sums c (bump f u (Tree.up c t)) := by
  have hlt := Tree.leaf_lt hl
  have ht : ((t.toNat : Nat) : Int) = t := by omega
  have hmem : t.toNat ∈ Tree.up c t := by
    have := Tree.up_in c t.toNat (by omega)
    rw [ht] at this
    rw [this]; simp
  intro n hn
  have hb := below_mem c n t.toNat
  rw [ht] at hb
  have hb' : t.toNat ∈ Tree.below c (n : Int) ↔ n ∈ Tree.up c t := hb.trans ⟨fun h => h.2, fun h => ⟨hl, h⟩⟩
  have other : ∀ x ∈ Tree.below c (n : Int), x ≠ t.toNat → bump f u (Tree.up c t) x = u x := by
    intro x hx hne
    unfold bump
    rw [if_neg]
    intro hm
    exact hne (leaf_on hm ((below_mem c n x).1 hx).1)
  have self : bump f u (Tree.up c t) t.toNat = f (u t.toNat) := by unfold bump; rw [if_pos hmem]
  obtain ⟨e1, e2, e3⟩ := h n hn
  have s1 := sumI_one (f := fun t => (u t).x) (g := fun i => (bump f u (Tree.up c t) i).x) (t := t.toNat) (d := dx) _ (below_nodup c n) (fun x hx hne => by simp only [other x hx hne]) (by simp only [self]; exact hx _ hmem)
  have s2 := sumI_one (f := fun t => (u t).y) (g := fun i => (bump f u (Tree.up c t) i).y) (t := t.toNat) (d := dy) _ (below_nodup c n) (fun x hx hne => by simp only [other x hx hne]) (by simp only [self]; exact hy _ hmem)
  have s3 := sumI_one (f := fun t => (u t).z) (g := fun i => (bump f u (Tree.up c t) i).z) (t := t.toNat) (d := dz) _ (below_nodup c n) (fun x hx hne => by simp only [other x hx hne]) (by simp only [self]; exact hz _ hmem)
  rw [s1, s2, s3, ← e1, ← e2, ← e3]
  by_cases hm : n ∈ Tree.up c t
  · have : bump f u (Tree.up c t) n = f (u n) := by unfold bump; rw [if_pos hm]
    rw [this, if_pos (hb'.2 hm), if_pos (hb'.2 hm), if_pos (hb'.2 hm)]
    exact ⟨hx n hm, hy n hm, hz n hm⟩
  · have : bump f u (Tree.up c t) n = u n := by unfold bump; rw [if_neg hm]
    have hnb : ¬ t.toNat ∈ Tree.below c (n : Int) := fun h => hm (hb'.1 h)
    rw [this, if_neg hnb, if_neg hnb, if_neg hnb]
    simp

theorem take_sums {c : Cfg.C} {u : U} {k : Int} (t : Int) (v : Vec.V) (hk : k ≤ 274877906944) (hs : Small u k) (h : Sums c u) : Sums c (take c u t v) := by
  unfold take
  split
  · rename_i hv
    unfold change
    split
    · rename_i hl
      exact change_sums (f := fun a => Vec.add a v) (dx := v.x) (dy := v.y) (dz := v.z) hl h (fun i _ => congrArg Vec.V.x (add_in hk (hs i) hv)) (fun i _ => congrArg Vec.V.y (add_in hk (hs i) hv)) (fun i _ => congrArg Vec.V.z (add_in hk (hs i) hv))
    · exact h
  · exact h

/-- On a tenant's way up each node uses at least what the tenant uses. -/
theorem up_ge {c : Cfg.C} {u : U} {k : Int} {t : Int} (hs : Small u k) (h : Sums c u) (hl : Cfg.leaf c t = true) {i : Nat} (hi : i ∈ Tree.up c t) :
    (u t.toNat).x ≤ (u i).x ∧ (u t.toNat).y ≤ (u i).y ∧ (u t.toNat).z ≤ (u i).z := by
  have hlt := Tree.leaf_lt hl
  have ht : ((t.toNat : Nat) : Int) = t := by omega
  have hb := below_mem c i t.toNat
  rw [ht] at hb
  have hmem := hb.2 ⟨hl, hi⟩
  obtain ⟨e1, e2, e3⟩ := h i ((Tree.up_lt c t i hi).1)
  have ge : ∀ (f : Nat → Int) (l : List Nat), (∀ x, 0 ≤ f x) → t.toNat ∈ l → f t.toNat ≤ sumI f l := by
    intro f l hf
    induction l with
    | nil => intro h; cases h
    | cons x xs ih =>
      intro hm
      have hnn : 0 ≤ sumI f xs := by
        clear ih hm
        induction xs with
        | nil => exact Int.le_refl _
        | cons y ys ih => unfold sumI; have := hf y; omega
      unfold sumI
      rcases List.mem_cons.1 hm with rfl | hm
      · omega
      · have := ih hm
        have := hf x
        omega
  rw [e1, e2, e3]
  exact ⟨ge (fun t => (u t).x) _ (fun x => by have := hs x; omega) hmem, ge (fun t => (u t).y) _ (fun x => by have := hs x; omega) hmem, ge (fun t => (u t).z) _ (fun x => by have := hs x; omega) hmem⟩

theorem give_both {c : Cfg.C} {u : U} {k : Int} (t : Int) (v : Vec.V) (hk : k ≤ 274877906944) (hs : Small u k) (h : Sums c u) : Sums c (give c u t v) ∧ Small (give c u t v) k := by
  unfold give
  split
  · rename_i hm
    unfold change
    split
    · rename_i hl
      unfold mayGive leafUsed at hm
      rw [if_pos hl] at hm
      simp only [Bool.and_eq_true] at hm
      obtain ⟨hv, hf⟩ := hm
      rw [Vec.fits_iff] at hf
      refine ⟨change_sums (dx := -v.x) (dy := -v.y) (dz := -v.z) hl h (fun i _ => by simp only [sub_in hk (hs i) hv]; omega) (fun i _ => by simp only [sub_in hk (hs i) hv]; omega) (fun i _ => by simp only [sub_in hk (hs i) hv]; omega), fun i => ?_⟩
      unfold bump
      split
      · rename_i hi
        have h1 := up_ge hs h hl hi
        simp only [sub_in hk (hs i) hv]
        have h2 := hs i
        have hv' := hv
        rw [Vec.valid_iff] at hv'
        omega
      · exact hs i
    · exact ⟨h, hs⟩
  · exact ⟨h, hs⟩

theorem deed_both {c : Cfg.C} {u : U} {k : Int} (d : Deed) (hk : k ≤ 274877906944) (hs : Small u k) (h : Sums c u) : Sums c (deed c u d) ∧ Small (deed c u d) (k + 1048576) := by
  unfold deed
  split
  · have := give_both (c := c) d.t d.v hk hs h
    exact ⟨this.1, fun i => by have := this.2 i; omega⟩
  · exact ⟨take_sums d.t d.v hk hs h, take_small d.t d.v hk hs⟩

theorem addSum (u : U) (c : Cfg.C) {k : Int} (hk0 : 0 ≤ k) (hs : Small u k) : ∀ (l : List Nat) (v : Vec.V), (∀ t ∈ l, t < c.nodes.length) →
    (0 ≤ v.x ∧ v.x + (l.length : Int) * k ≤ 100000000000) → (0 ≤ v.y ∧ v.y + (l.length : Int) * k ≤ 100000000000) → (0 ≤ v.z ∧ v.z + (l.length : Int) * k ≤ 100000000000) →
    l.foldl (fun v (t : Nat) => Vec.add v (Tree.at_ (all c u) (t : Int))) v = ⟨v.x + sumI (fun t => (u t).x) l, v.y + sumI (fun t => (u t).y) l, v.z + sumI (fun t => (u t).z) l⟩
  | [], v, _, _, _, _ => by simp [sumI]
  | t :: l, v, hl, hx, hy, hz => by
    have ht := hl t (by simp)
    have ea : Tree.at_ (all c u) (t : Int) = u t := by
      unfold Tree.at_ all
      rw [List.length_map, List.length_range, if_pos (by omega)]
      simp [List.getD_eq_getElem?_getD, ht]
    have hst := hs t
    rw [List.length_cons] at hx hy hz
    have em : ((l.length + 1 : Nat) : Int) * k = (l.length : Int) * k + k := by rw [Int.natCast_add, Int.add_mul]; simp
    rw [em] at hx hy hz
    have hM : 0 ≤ (l.length : Int) * k := Int.mul_nonneg (by omega) hk0
    rw [List.foldl_cons, ea]
    have eadd : Vec.add v (u t) = ⟨v.x + (u t).x, v.y + (u t).y, v.z + (u t).z⟩ := by
      unfold Vec.add
      rw [Vec.add1_in _ _ (by omega) (by omega) (by omega) (by omega), Vec.add1_in _ _ (by omega) (by omega) (by omega) (by omega), Vec.add1_in _ _ (by omega) (by omega) (by omega) (by omega)]
    rw [eadd, addSum u c hk0 hs l _ (fun y hy => hl y (by simp [hy])) (by simp only; omega) (by simp only; omega) (by simp only; omega)]
    simp only [sumI_cons, Int.add_assoc]

/-- The plain law: behind some hundred deeds. -/
theorem used_sum {c : Cfg.C} {u : U} {k : Int} (hn : c.nodes.length ≤ 12) (hk0 : 0 ≤ k) (hk : k ≤ 1000000000) (hs : Small u k) (h : Sums c u) (n : Nat) (hlt : n < c.nodes.length) :
    Tree.sum c (n : Int) (all c u) = u n := by
  have hb := below_length c (n : Int)
  have hm : (((Tree.below c (n : Int)).length : Nat) : Int) * k ≤ 12 * 1000000000 := Int.mul_le_mul (by omega) hk hk0 (by omega)
  have e := addSum u c hk0 hs (Tree.below c (n : Int)) Vec.zero (fun t ht => by
    have := ((below_mem c n t).1 ht).1
    have := Tree.leaf_lt this
    omega) (by simp [Vec.zero]; omega) (by simp [Vec.zero]; omega) (by simp [Vec.zero]; omega)
  unfold Tree.sum
  rw [e]
  obtain ⟨e1, e2, e3⟩ := h n hlt
  apply Vec.V.ext'
  · simp [Vec.zero, e1]
  · simp [Vec.zero, e2]
  · simp [Vec.zero, e3]

theorem deeds_both {c : Cfg.C} : ∀ (l : List Deed) (u : U) (k : Int), 0 ≤ k → k + (l.length : Int) * 1048576 ≤ 274877906944 → Small u k → Sums c u → Sums c (deeds c u l) ∧ Small (deeds c u l) (k + (l.length : Int) * 1048576)
  | [], u, k, _, _, hs, h => ⟨h, fun i => by have := hs i; simp only [deeds, List.foldl_nil, List.length_nil]; omega⟩
  | d :: l, u, k, hk0, hk, hs, h => by
    rw [List.length_cons] at hk ⊢
    have h1 := deed_both d (by omega) hs h
    have h2 := deeds_both l (deed c u d) (k + 1048576) (by omega) (by omega) h1.2 h1.1
    refine ⟨h2.1, fun i => ?_⟩
    have := h2.2 i
    have e : deeds c u (d :: l) = deeds c (deed c u d) l := rfl
    rw [e]
    omega
end Go.Proofs.Ytbfpljnfalopdaa.Led
