/-
  Quotas, borrowing, lending, as plain functions, and the laws of chapter 11. No program in sight.
-/
import Derived.Test.YtbfpljnfalopdaaLedSums
set_option linter.unusedVariables false
set_option linter.unusedSimpArgs false
namespace Go.Proofs.Ytbfpljnfalopdaa.Quo
open Go.Proofs.Ytbfpljnfalopdaa Go.Proofs.Ytbfpljnfalopdaa.Led

def node (c : Cfg.C) (n : Nat) : Cfg.Node := c.nodes.getD n default
def nominals (c : Cfg.C) : List Vec.V := c.nodes.map (·.nominal)
def nominal (c : Cfg.C) (n : Int) : Vec.V := Tree.sum c n (nominals c)
def pos (v : Vec.V) : Vec.V := ⟨max v.x 0, max v.y 0, max v.z 0⟩
/-- What a tenant does not lend of what it does not use. -/
def own (c : Cfg.C) (used : List Vec.V) (s : Nat) : Vec.V := pos (Vec.sub (Vec.sub (node c s).nominal (node c s).lend) (Tree.at_ used (s : Int)))
def kept (c : Cfg.C) (used : List Vec.V) (n t : Int) : Vec.V := ((Tree.below c n).filter fun (s : Nat) => (s : Int) != t).foldl (fun v s => Vec.add v (own c used s)) Vec.zero
def mayOwn (c : Cfg.C) (used : List Vec.V) (need : Vec.V) (n : Nat) : Bool := Vec.fits (Vec.add (Tree.at_ used (n : Int)) need) (Vec.add (node c n).nominal (node c n).borrow)
def mayAll (c : Cfg.C) (used : List Vec.V) (t : Int) (need : Vec.V) (n : Nat) : Bool := Vec.fits (Vec.add (Vec.add (Tree.sum c (n : Int) used) need) (kept c used (n : Int) t)) (nominal c (n : Int))
def mayAt (c : Cfg.C) (used : List Vec.V) (t : Int) (need : Vec.V) (n : Nat) : Bool := if (n : Int) = t then mayOwn c used need n else mayAll c used t need n
def may (c : Cfg.C) (used : List Vec.V) (t : Int) (need : Vec.V) : Bool := Cfg.leaf c t && (Tree.up c t).all (mayAt c used t need)
def within (c : Cfg.C) (used : List Vec.V) (t : Int) (need : Vec.V) : Bool := Cfg.leaf c t && Vec.fits (Vec.add (Tree.at_ used t) need) (node c t.toNat).nominal
def borrows (c : Cfg.C) (used : List Vec.V) (t : Int) : Bool := Cfg.leaf c t && !Vec.fits (Tree.at_ used t) (node c t.toNat).nominal

/-! ### one resource -/
def sum1 (f : Nat → Int) (l : List Nat) (a : Int) : Int := l.foldl (fun a t => Vec.add1 a (f t)) a
theorem sum1_cons (f : Nat → Int) (t : Nat) (l : List Nat) (a : Int) : sum1 f (t :: l) a = sum1 f l (Vec.add1 a (f t)) := rfl
theorem fold_parts (f : Nat → Vec.V) : ∀ (l : List Nat) (v : Vec.V), l.foldl (fun v t => Vec.add v (f t)) v = ⟨sum1 (fun t => (f t).x) l v.x, sum1 (fun t => (f t).y) l v.y, sum1 (fun t => (f t).z) l v.z⟩
  | [], v => rfl
  | t :: l, v => by rw [List.foldl_cons, fold_parts f l]; rfl
theorem add1_mono {a b x y : Int} (h : a ≤ b) (k : x ≤ y) : Vec.add1 a x ≤ Vec.add1 b y := by unfold Vec.add1 Vec.cut; omega
theorem add1_ge {a x : Int} (h0 : 0 ≤ a) (h1 : a ≤ 1099511627776) (hx : 0 ≤ x) : a ≤ Vec.add1 a x := by unfold Vec.add1 Vec.cut; omega
theorem add1_nonneg {a x : Int} (h0 : 0 ≤ a) (hx : 0 ≤ x) : 0 ≤ Vec.add1 a x := by unfold Vec.add1 Vec.cut; omega
theorem add1_le (a x : Int) : Vec.add1 a x ≤ 1099511627776 := by unfold Vec.add1 Vec.cut; omega
theorem sum1_nonneg {f : Nat → Int} : ∀ (l : List Nat) (a : Int), (∀ t ∈ l, 0 ≤ f t) → 0 ≤ a → 0 ≤ sum1 f l a
  | [], a, _, h => h
  | t :: l, a, hf, h => sum1_nonneg l _ (fun y hy => hf y (by simp [hy])) (add1_nonneg h (hf t (by simp)))
theorem sum1_exact {f : Nat → Int} {k : Int} (hk : 0 ≤ k) : ∀ (l : List Nat) (a : Int), (∀ t ∈ l, 0 ≤ f t ∧ f t ≤ k) → 0 ≤ a → a + (l.length : Int) * k ≤ 100000000000 → sum1 f l a = a + sumI f l
  | [], a, _, _, _ => by simp [sum1, sumI]
  | t :: l, a, hf, h0, h1 => by
    rw [List.length_cons] at h1
    have em : ((l.length + 1 : Nat) : Int) * k = (l.length : Int) * k + k := by rw [Int.natCast_add, Int.add_mul]; simp
    rw [em] at h1
    have hM : 0 ≤ (l.length : Int) * k := Int.mul_nonneg (by omega) hk
    have ht := hf t (by simp)
    rw [sum1_cons, Vec.add1_in _ _ (by omega) (by omega) (by omega) (by omega), sum1_exact hk l _ (fun y hy => hf y (by simp [hy])) (by omega) (by omega), sumI_cons]
    omega
theorem sumI_mono {f g : Nat → Int} : ∀ (l : List Nat), (∀ t ∈ l, f t ≤ g t) → sumI f l ≤ sumI g l
  | [], _ => Int.le_refl _
  | t :: l, h => by
    have := h t (by simp)
    have := sumI_mono l (fun y hy => h y (by simp [hy]))
    rw [sumI_cons, sumI_cons]
    omega
theorem sumI_bound {f : Nat → Int} {k : Int} : ∀ (l : List Nat), (∀ t ∈ l, 0 ≤ f t ∧ f t ≤ k) → 0 ≤ sumI f l ∧ sumI f l ≤ (l.length : Int) * k
  | [], _ => by simp [sumI]
  | t :: l, h => by
    have := h t (by simp)
    have := sumI_bound l (fun y hy => h y (by simp [hy]))
    rw [sumI_cons, List.length_cons]
    have em : ((l.length + 1 : Nat) : Int) * k = (l.length : Int) * k + k := by rw [Int.natCast_add, Int.add_mul]; simp
    rw [em]
    omega
/-- A row less one of its members. -/
theorem sumI_filter (f : Nat → Int) (t : Nat) : ∀ (l : List Nat), l.Nodup → sumI f l = sumI f (l.filter fun (s : Nat) => (s : Int) != (t : Int)) + (if t ∈ l then f t else 0)
  | [], _ => by simp [sumI]
  | x :: xs, hn => by
    rw [List.nodup_cons] at hn
    have ih := sumI_filter f t xs hn.2
    by_cases hx : x = t
    · subst hx
      rw [List.filter_cons, if_neg (by simp), sumI_cons]
      rw [if_neg hn.1] at ih
      simp
      omega
    · have h1 : ((x : Int) != (t : Int)) = true := by rw [bne_iff_ne]; omega
      rw [List.filter_cons, if_pos h1, sumI_cons, sumI_cons, ih]
      have : ¬ t = x := fun e => hx e.symm
      by_cases hm : t ∈ xs <;> simp [hm, this] <;> omega

/-! ### less need -/
def Le (a b : Vec.V) : Prop := a.x ≤ b.x ∧ a.y ≤ b.y ∧ a.z ≤ b.z
theorem add_mono {a b x y : Vec.V} (h : Le a b) (k : Le x y) : Le (Vec.add a x) (Vec.add b y) := ⟨add1_mono h.1 k.1, add1_mono h.2.1 k.2.1, add1_mono h.2.2 k.2.2⟩
theorem Le.refl (a : Vec.V) : Le a a := ⟨Int.le_refl _, Int.le_refl _, Int.le_refl _⟩
theorem fits_le {a b c : Vec.V} (h : Le a b) (k : Vec.fits b c = true) : Vec.fits a c = true := by
  rw [Vec.fits_iff] at *
  unfold Le at h
  omega
theorem may_less {c : Cfg.C} {used : List Vec.V} {t : Int} {need less : Vec.V} (h : Le less need) (k : may c used t need = true) : may c used t less = true := by
  unfold may at *
  simp only [Bool.and_eq_true, List.all_eq_true] at *
  refine ⟨k.1, fun n hn => ?_⟩
  have := k.2 n hn
  unfold mayAt at *
  split
  · rename_i he
    rw [if_pos he] at this
    exact fits_le (add_mono (Le.refl _) h) this
  · rename_i he
    rw [if_neg he] at this
    exact fits_le (add_mono (add_mono (Le.refl _) h) (Le.refl _)) this
theorem within_less {c : Cfg.C} {used : List Vec.V} {t : Int} {need less : Vec.V} (h : Le less need) (k : within c used t need = true) : within c used t less = true := by
  unfold within at *
  simp only [Bool.and_eq_true] at *
  exact ⟨k.1, fits_le (add_mono (Le.refl _) h) k.2⟩
/-- One of a need's amounts halved. -/
def less (need : Vec.V) (k : Nat) : Vec.V := if k = 0 then { need with x := need.x / 2 } else if k = 1 then { need with y := need.y / 2 } else { need with z := need.z / 2 }
theorem less_le {need : Vec.V} (k : Nat) (h : Vec.valid need = true) : Le (less need k) need := by
  rw [Vec.valid_iff] at h
  unfold less Le
  split
  · simp only; omega
  · split <;> (simp only; omega)

/-! ### what may be used more leaves all cohorts within their own -/
def AllValid (l : List Vec.V) : Prop := ∀ v ∈ l, Vec.valid v = true
theorem at_valid {l : List Vec.V} (h : AllValid l) (n : Int) : Vec.valid (Tree.at_ l n) = true := by
  unfold Tree.at_
  split
  · rename_i hn
    rw [List.getD_eq_getElem?_getD, List.getElem?_eq_getElem (by omega)]
    exact h _ (List.getElem_mem _)
  · decide
/-- What all use then. -/
def now (c : Cfg.C) (used : List Vec.V) (t : Int) (need : Vec.V) : List Vec.V := (List.range c.nodes.length).map fun (i : Nat) => if (i : Int) = t then Vec.add (Tree.at_ used (i : Int)) need else Tree.at_ used (i : Int)
theorem now_at (c : Cfg.C) (used : List Vec.V) (t : Int) (need : Vec.V) (i : Nat) (h : i < c.nodes.length) : Tree.at_ (now c used t need) (i : Int) = if (i : Int) = t then Vec.add (Tree.at_ used (i : Int)) need else Tree.at_ used (i : Int) := by
  obtain ⟨g, hg⟩ : ∃ g : Nat → Vec.V, g = fun i : Nat => if (i : Int) = t then Vec.add (Tree.at_ used (i : Int)) need else Tree.at_ used (i : Int) := ⟨_, rfl⟩
  have e : now c used t need = (List.range c.nodes.length).map g := by rw [hg]; rfl
  have e2 : g i = if (i : Int) = t then Vec.add (Tree.at_ used (i : Int)) need else Tree.at_ used (i : Int) := by rw [hg]
  rw [e, ← e2]
  unfold Tree.at_
  rw [List.length_map, List.length_range, if_pos (by omega)]
  simp [List.getD_eq_getElem?_getD, h]

theorem kept_nonneg (c : Cfg.C) (used : List Vec.V) (n t : Int) : 0 ≤ (kept c used n t).x ∧ 0 ≤ (kept c used n t).y ∧ 0 ≤ (kept c used n t).z := by
  unfold kept
  rw [fold_parts]
  refine ⟨sum1_nonneg _ _ (fun s _ => ?_) (Int.le_refl _), sum1_nonneg _ _ (fun s _ => ?_) (Int.le_refl _), sum1_nonneg _ _ (fun s _ => ?_) (Int.le_refl _)⟩ <;> (unfold own pos; simp only; omega)

theorem sum_parts (c : Cfg.C) (n : Int) (l : List Vec.V) : Tree.sum c n l = ⟨sum1 (fun t => (Tree.at_ l (t : Int)).x) (Tree.below c n) 0, sum1 (fun t => (Tree.at_ l (t : Int)).y) (Tree.below c n) 0, sum1 (fun t => (Tree.at_ l (t : Int)).z) (Tree.below c n) 0⟩ := by
  unfold Tree.sum
  rw [fold_parts]; rfl
theorem below_lt {c : Cfg.C} {n : Int} {s : Nat} (h : s ∈ Tree.below c n) : Cfg.leaf c (s : Int) = true ∧ s < c.nodes.length := by
  unfold Tree.below at h
  rw [List.mem_filter, Tree.leaves_mem] at h
  have := Tree.leaf_lt h.1
  exact ⟨h.1, by omega⟩

/-- The sum of one resource over all below a node, one of whom uses more. -/
theorem sum1_more {f g : Nat → Int} {l : List Nat} {t : Nat} {d : Int} (hl : l.length ≤ 12) (hn : l.Nodup) (hm : t ∈ l) (hf : ∀ s ∈ l, 0 ≤ f s ∧ f s ≤ 1048576) (hd : 0 ≤ d ∧ d ≤ 1048576)
    (hg : ∀ s ∈ l, s ≠ t → g s = f s) (ht : g t = f t + d) : sum1 g l 0 = Vec.add1 (sum1 f l 0) d ∧ 0 ≤ sum1 g l 0 ∧ sum1 g l 0 ≤ 1099511627776 := by
  have hbm : (l.length : Int) * 1048576 ≤ 12582912 := by omega
  have hb := sumI_bound l hf
  have e1 : sum1 f l 0 = sumI f l := by rw [sum1_exact (k := 1048576) (by omega) l 0 hf (by omega) (by omega)]; omega
  have hg' : ∀ s ∈ l, 0 ≤ g s ∧ g s ≤ 2097152 := by
    intro s hs
    by_cases h : s = t
    · subst h; have := hf s hs; omega
    · have := hf s hs; rw [hg s hs h]; omega
  have hgb := sumI_bound l hg'
  have e2 : sum1 g l 0 = sumI g l := by rw [sum1_exact (k := 2097152) (by omega) l 0 hg' (by omega) (by omega)]; omega
  have e3 := sumI_one (f := f) (g := fun s => if s = t then g t else f s) (t := t) (d := d) l hn (fun s _ h => by simp [h]) (by simp [ht])
  have e4 : sumI g l = sumI (fun s => if s = t then g t else f s) l := sumI_same l (fun s hs => by
    by_cases h : s = t
    · simp [h]
    · simp [h, hg s hs h])
  rw [if_pos hm] at e3
  rw [e2, e1, e4, e3, Vec.add1_in _ _ (by omega) (by omega) (by omega) (by omega)]
  omega

theorem safe {c : Cfg.C} {used : List Vec.V} {t : Int} {need : Vec.V} (hc : c.nodes.length ≤ 12) (hu : AllValid used) (hv : Vec.valid need = true) (h : may c used t need = true) :
    (∀ n ∈ Tree.up c t, (n : Int) ≠ t → Vec.fits (Tree.sum c (n : Int) (now c used t need)) (nominal c (n : Int)) = true) ∧ Vec.fits (Vec.add (Tree.at_ used t) need) (Vec.add (node c t.toNat).nominal (node c t.toNat).borrow) = true := by
  unfold may at h
  simp only [Bool.and_eq_true, List.all_eq_true] at h
  obtain ⟨hl, h⟩ := h
  have hlt := Tree.leaf_lt hl
  have ht : ((t.toNat : Nat) : Int) = t := by omega
  have hmem : t.toNat ∈ Tree.up c t := by
    have := Tree.up_in c t.toNat (by omega)
    rw [ht] at this
    rw [this]; simp
  constructor
  · intro n hn hne
    have h1 := h n hn
    unfold mayAt at h1
    rw [if_neg hne] at h1
    refine fits_le ?_ h1
    have hb : t.toNat ∈ Tree.below c (n : Int) := by
      rw [below_mem, ht]
      exact ⟨hl, hn⟩
    have hlen := Nat.le_trans (below_length c (n : Int)) hc
    have hnd := below_nodup c (n : Int)
    have hk := kept_nonneg c used (n : Int) t
    have hva : ∀ s : Nat, (0 ≤ (Tree.at_ used (s : Int)).x ∧ (Tree.at_ used (s : Int)).x ≤ 1048576) ∧ (0 ≤ (Tree.at_ used (s : Int)).y ∧ (Tree.at_ used (s : Int)).y ≤ 1048576) ∧ (0 ≤ (Tree.at_ used (s : Int)).z ∧ (Tree.at_ used (s : Int)).z ≤ 1048576) := fun s => by
      have := at_valid hu (s : Int)
      rwa [Vec.valid_iff] at this
    have hnv := hv
    rw [Vec.valid_iff] at hnv
    have hnow : ∀ s ∈ Tree.below c (n : Int), s ≠ t.toNat → Tree.at_ (now c used t need) (s : Int) = Tree.at_ used (s : Int) := fun s hs hst => by
      rw [now_at c used t need s (below_lt hs).2, if_neg (by omega)]
    have hnt : Tree.at_ (now c used t need) ((t.toNat : Nat) : Int) = Vec.add (Tree.at_ used ((t.toNat : Nat) : Int)) need := by
      rw [now_at c used t need t.toNat (by omega), if_pos ht]
    have hx := hva t.toNat
    have ex : (Vec.add (Tree.at_ used ((t.toNat : Nat) : Int)) need) = ⟨(Tree.at_ used ((t.toNat : Nat) : Int)).x + need.x, (Tree.at_ used ((t.toNat : Nat) : Int)).y + need.y, (Tree.at_ used ((t.toNat : Nat) : Int)).z + need.z⟩ := by
      unfold Vec.add
      rw [Vec.add1_in _ _ (by omega) (by omega) (by omega) (by omega), Vec.add1_in _ _ (by omega) (by omega) (by omega) (by omega), Vec.add1_in _ _ (by omega) (by omega) (by omega) (by omega)]
    rw [ex] at hnt
    have s1 := sum1_more (f := fun s => (Tree.at_ used (s : Int)).x) (g := fun s => (Tree.at_ (now c used t need) (s : Int)).x) (t := t.toNat) (d := need.x) hlen hnd hb (fun s _ => (hva s).1) hnv.1 (fun s hs hst => by simp only [hnow s hs hst]) (by simp only [hnt])
    have s2 := sum1_more (f := fun s => (Tree.at_ used (s : Int)).y) (g := fun s => (Tree.at_ (now c used t need) (s : Int)).y) (t := t.toNat) (d := need.y) hlen hnd hb (fun s _ => (hva s).2.1) hnv.2.1 (fun s hs hst => by simp only [hnow s hs hst]) (by simp only [hnt])
    have s3 := sum1_more (f := fun s => (Tree.at_ used (s : Int)).z) (g := fun s => (Tree.at_ (now c used t need) (s : Int)).z) (t := t.toNat) (d := need.z) hlen hnd hb (fun s _ => (hva s).2.2) hnv.2.2 (fun s hs hst => by simp only [hnow s hs hst]) (by simp only [hnt])
    rw [sum_parts c (n : Int) (now c used t need), sum_parts c (n : Int) used]
    refine ⟨?_, ?_, ?_⟩
    · show sum1 _ _ _ ≤ Vec.add1 (Vec.add1 _ need.x) _
      rw [← s1.1]; exact add1_ge s1.2.1 s1.2.2 hk.1
    · show sum1 _ _ _ ≤ Vec.add1 (Vec.add1 _ need.y) _
      rw [← s2.1]; exact add1_ge s2.2.1 s2.2.2 hk.2.1
    · show sum1 _ _ _ ≤ Vec.add1 (Vec.add1 _ need.z) _
      rw [← s3.1]; exact add1_ge s3.2.1 s3.2.2 hk.2.2
  · have h1 := h _ hmem
    unfold mayAt mayOwn at h1
    rw [if_pos ht, ht] at h1
    exact h1

/-! ### each tenant may use its own while nobody uses anything -/
theorem leaf_node {c : Cfg.C} (h : Cfg.ok c = true) {s : Nat} (hl : Cfg.leaf c (s : Int) = true) : Vec.valid (node c s).nominal = true ∧ Vec.valid (node c s).borrow = true ∧ Vec.valid (node c s).lend = true ∧ Vec.fits (node c s).lend (node c s).nominal = true := by
  have hlt := Tree.leaf_lt hl
  have h1 := Cfg.nodesOk_at (Cfg.ok_nodes h) (i := s) (by omega)
  unfold Cfg.nodeOk at h1
  rw [if_pos hl] at h1
  simp only [Bool.and_eq_true] at h1
  exact ⟨h1.2.1, h1.2.2.1, h1.2.2.2.1, h1.2.2.2.2⟩
theorem nominals_at {c : Cfg.C} {s : Nat} (h : s < c.nodes.length) : Tree.at_ (nominals c) (s : Int) = (node c s).nominal := by
  unfold Tree.at_ nominals node
  rw [List.length_map, if_pos (by omega)]
  simp [List.getD_eq_getElem?_getD, h]

theorem own1 {l : List Nat} {t : Nat} {f g : Nat → Int} (hl : l.length ≤ 12) (hn : l.Nodup) (hm : t ∈ l) (hf : ∀ s ∈ l, 0 ≤ f s ∧ f s ≤ 1048576) (hg : ∀ s ∈ l, 0 ≤ g s ∧ g s ≤ f s) :
    Vec.add1 (Vec.add1 0 (f t)) (sum1 g (l.filter fun (s : Nat) => (s : Int) != (t : Int)) 0) ≤ sum1 f l 0 := by
  have hbm : (l.length : Int) * 1048576 ≤ 12582912 := by omega
  have hfl : (l.filter fun (s : Nat) => (s : Int) != (t : Int)).length ≤ l.length := List.length_filter_le _ _
  have hfm : ((l.filter fun (s : Nat) => (s : Int) != (t : Int)).length : Int) * 1048576 ≤ 12582912 := by omega
  have hsub : ∀ s ∈ (l.filter fun (s : Nat) => (s : Int) != (t : Int)), s ∈ l := fun s hs => (List.mem_filter.1 hs).1
  have hg' : ∀ s ∈ (l.filter fun (s : Nat) => (s : Int) != (t : Int)), 0 ≤ g s ∧ g s ≤ 1048576 := fun s hs => by have := hg s (hsub s hs); have := hf s (hsub s hs); omega
  have e1 : sum1 f l 0 = sumI f l := by rw [sum1_exact (k := 1048576) (by omega) l 0 hf (by omega) (by omega)]; omega
  have e2 : sum1 g (l.filter fun (s : Nat) => (s : Int) != (t : Int)) 0 = sumI g (l.filter fun (s : Nat) => (s : Int) != (t : Int)) := by rw [sum1_exact (k := 1048576) (by omega) _ 0 hg' (by omega) (by omega)]; omega
  have e3 := sumI_filter f t l hn
  rw [if_pos hm] at e3
  have b1 := sumI_bound _ hg'
  have b2 := sumI_mono (f := g) (g := f) (l.filter fun (s : Nat) => (s : Int) != (t : Int)) (fun s hs => (hg s (hsub s hs)).2)
  have b3 := hf t hm
  rw [e1, e2, e3, Vec.add1_in 0 _ (by omega) (by omega) (by omega) (by omega), Vec.add1_in _ _ (by omega) (by omega) (by omega) (by omega)]
  omega

theorem sub2 (x y : Int) (h0 : 0 ≤ y) (h1 : y ≤ x) (h2 : x ≤ 1048576) : max (Vec.sub1 (Vec.sub1 x y) 0) 0 = x - y := by unfold Vec.sub1 Vec.cut; omega
theorem at_nil (n : Int) : Tree.at_ [] n = Vec.zero := by
  unfold Tree.at_
  split
  · simp
  · rfl
theorem own_all {c : Cfg.C} {t : Int} (h : Cfg.ok c = true) (hl : Cfg.leaf c t = true) :
    may c [] t (node c t.toNat).nominal = true ∧ within c [] t (node c t.toNat).nominal = true ∧ borrows c [] t = false := by
  have hlt := Tree.leaf_lt hl
  have ht : ((t.toNat : Nat) : Int) = t := by omega
  have hn := leaf_node h (s := t.toNat) (by rw [ht]; exact hl)
  obtain ⟨v1, v2, v3, v4⟩ := hn
  have w1 := v1
  have w2 := v2
  rw [Vec.valid_iff] at w1 w2
  have z1 : ∀ x : Int, 0 ≤ x → x ≤ 1048576 → Vec.add1 0 x = x := fun x h0 h1 => by rw [Vec.add1_in _ _ (by omega) (by omega) (by omega) (by omega)]; omega
  have hadd : Vec.add Vec.zero (node c t.toNat).nominal = (node c t.toNat).nominal := by
    unfold Vec.add Vec.zero
    rw [z1 _ w1.1.1 w1.1.2, z1 _ w1.2.1.1 w1.2.1.2, z1 _ w1.2.2.1 w1.2.2.2]
  refine ⟨?_, ?_, ?_⟩
  · unfold may
    simp only [Bool.and_eq_true, List.all_eq_true]
    refine ⟨hl, fun n hn => ?_⟩
    unfold mayAt
    split
    · rename_i he
      have : n = t.toNat := by omega
      subst this
      unfold mayOwn
      rw [at_nil, hadd, Vec.fits_iff]
      exact ⟨add1_ge w1.1.1 (by omega) w2.1.1, add1_ge w1.2.1.1 (by omega) w2.2.1.1, add1_ge w1.2.2.1 (by omega) w2.2.2.1⟩
    · rename_i he
      unfold mayAll
      have hb : t.toNat ∈ Tree.below c (n : Int) := by
        rw [below_mem, ht]
        exact ⟨hl, hn⟩
      have hlen := Nat.le_trans (below_length c (n : Int)) ((Cfg.ok_sizes h).1.2)
      have hnd := below_nodup c (n : Int)
      have hz : ∀ (l : List Nat), sum1 (fun _ => 0) l 0 = 0 := by
        intro l
        induction l with
        | nil => rfl
        | cons t l ih => rw [sum1_cons]; have : Vec.add1 0 0 = 0 := by decide
                         rw [this]; exact ih
      have hsum : Tree.sum c (n : Int) [] = Vec.zero := by
        rw [sum_parts]
        simp only [at_nil]
        show Vec.V.mk (sum1 (fun _ => 0) _ 0) (sum1 (fun _ => 0) _ 0) (sum1 (fun _ => 0) _ 0) = _
        rw [hz]; rfl
      have hnode : ∀ s ∈ Tree.below c (n : Int), Vec.valid (node c s).nominal = true ∧ Vec.valid (node c s).borrow = true ∧ Vec.valid (node c s).lend = true ∧ Vec.fits (node c s).lend (node c s).nominal = true := fun s hs => leaf_node h (below_lt hs).1
      have hnom : ∀ s ∈ Tree.below c (n : Int), Tree.at_ (nominals c) (s : Int) = (node c s).nominal := fun s hs => nominals_at (below_lt hs).2
      have hown : ∀ s ∈ Tree.below c (n : Int), own c [] s = ⟨(node c s).nominal.x - (node c s).lend.x, (node c s).nominal.y - (node c s).lend.y, (node c s).nominal.z - (node c s).lend.z⟩ := fun s hs => by
        obtain ⟨a1, a2, a3, a4⟩ := hnode s hs
        rw [Vec.valid_iff] at a1 a3
        rw [Vec.fits_iff] at a4
        unfold own pos
        rw [at_nil]
        unfold Vec.sub Vec.zero
        simp only
        rw [sub2 _ _ (by omega) (by omega) (by omega), sub2 _ _ (by omega) (by omega) (by omega), sub2 _ _ (by omega) (by omega) (by omega)]
      have bd : ∀ s ∈ Tree.below c (n : Int), ((0 ≤ (node c s).nominal.x ∧ (node c s).nominal.x ≤ 1048576) ∧ (0 ≤ (node c s).nominal.y ∧ (node c s).nominal.y ≤ 1048576) ∧ (0 ≤ (node c s).nominal.z ∧ (node c s).nominal.z ≤ 1048576)) ∧
          ((0 ≤ (own c [] s).x ∧ (own c [] s).x ≤ (node c s).nominal.x) ∧ (0 ≤ (own c [] s).y ∧ (own c [] s).y ≤ (node c s).nominal.y) ∧ (0 ≤ (own c [] s).z ∧ (own c [] s).z ≤ (node c s).nominal.z)) := fun s hs => by
        obtain ⟨a1, a2, a3, a4⟩ := hnode s hs
        rw [Vec.valid_iff] at a1 a3
        rw [Vec.fits_iff] at a4
        rw [hown s hs]
        simp only
        omega
      have o1 := own1 (f := fun s => (Tree.at_ (nominals c) (s : Int)).x) (g := fun s => (own c [] s).x) hlen hnd hb (fun s hs => by rw [hnom s hs]; exact (bd s hs).1.1) (fun s hs => by rw [hnom s hs]; exact (bd s hs).2.1)
      have o2 := own1 (f := fun s => (Tree.at_ (nominals c) (s : Int)).y) (g := fun s => (own c [] s).y) hlen hnd hb (fun s hs => by rw [hnom s hs]; exact (bd s hs).1.2.1) (fun s hs => by rw [hnom s hs]; exact (bd s hs).2.2.1)
      have o3 := own1 (f := fun s => (Tree.at_ (nominals c) (s : Int)).z) (g := fun s => (own c [] s).z) hlen hnd hb (fun s hs => by rw [hnom s hs]; exact (bd s hs).1.2.2) (fun s hs => by rw [hnom s hs]; exact (bd s hs).2.2.2)
      have hnt := hnom _ hb
      rw [ht] at hnt
      simp only [ht, hnt] at o1 o2 o3
      rw [hsum, Vec.fits_iff]
      unfold nominal kept
      rw [sum_parts, fold_parts]
      exact ⟨o1, o2, o3⟩
  · unfold within
    rw [hl, at_nil, hadd]
    simp [Vec.fits]
  · unfold borrows
    rw [at_nil]
    have : Vec.fits Vec.zero (node c t.toNat).nominal = true := by rw [Vec.fits_iff]; unfold Vec.zero; simp only; omega
    rw [this]
    simp
end Go.Proofs.Ytbfpljnfalopdaa.Quo
