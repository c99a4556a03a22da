/-
  Merged texts: StPlain, StRot, SrtRot, SrtMerge, SrtSym, SrtStable.
-/
import Derived.Test.YtbfpljnfalopdaaOrdPlain
import Derived.Shelf.SlSortCmp.Insertion
import Derived.Sort.LotA
import Derived.Sort.WalkA
import Derived.Test.YtbfpljnfalopdaaSrtIns
import Derived.Deep.DeepCutAuto
import Derived.Deep.CutBlock
/-
  Stable sorting, in plain words: rows of like classes, sorted stretches, a rotation, a merge, the insertion sort; a sorted row of given classes is one.
-/
set_option linter.unusedVariables false
set_option linter.unusedSimpArgs false
namespace Go.Proofs.Ytbfpljnfalopdaa.Srt
open Go Go.Sort
variable {α : Type} [Inhabited α] {f : α → α → Int}

/-- In each class of equals the same row. -/
def StEq (f : α → α → Int) (l l' : List α) : Prop := ∀ x, l.filter (fun y => f x y == 0) = l'.filter (fun y => f x y == 0)
omit [Inhabited α] in
theorem StEq.refl (l : List α) : StEq f l l := fun _ => rfl
omit [Inhabited α] in
theorem StEq.symm {l l' : List α} (h : StEq f l l') : StEq f l' l := fun x => (h x).symm
omit [Inhabited α] in
theorem StEq.trans {l l' l'' : List α} (h : StEq f l l') (h' : StEq f l' l'') : StEq f l l'' := fun x => (h x).trans (h' x)
omit [Inhabited α] in
theorem StEq.append {l1 l1' l2 l2' : List α} (h : StEq f l1 l1') (h' : StEq f l2 l2') : StEq f (l1 ++ l2) (l1' ++ l2') := fun x => by
  rw [List.filter_append, List.filter_append, h x, h' x]
omit [Inhabited α] in
theorem StEq.swap (hf : Ord.IsCmp f) {u v : List α} (h : ∀ x ∈ u, ∀ y ∈ v, f y x < 0) : StEq f (u ++ v) (v ++ u) := fun z => by
  rw [List.filter_append, List.filter_append]
  by_cases hu : u.filter (fun y => f z y == 0) = []
  · rw [hu]; simp
  · obtain ⟨x, hx⟩ := List.exists_mem_of_ne_nil _ hu
    obtain ⟨hx, hz⟩ := List.mem_filter.1 hx
    have hv : v.filter (fun y => f z y == 0) = [] := by
      rw [List.filter_eq_nil_iff]
      intro y hy e
      have h1 : f z y = 0 := by simpa using e
      have h2 : f z x = 0 := by simpa using hz
      have h3 := hf.eq_left y h2
      have h4 := hf.neg x y
      have h5 := h x hx y hy
      omega
    rw [hv]; simp
omit [Inhabited α] in
theorem StEq.mem (hf : Ord.IsCmp f) {l l' : List α} (h : StEq f l l') {x : α} (hx : x ∈ l) : x ∈ l' := by
  have h1 : x ∈ l.filter (fun y => f x y == 0) := List.mem_filter.2 ⟨hx, by simp [hf.self]⟩
  rw [h x] at h1
  exact (List.mem_filter.1 h1).1
omit [Inhabited α] in
theorem st_unique (hf : Ord.IsCmp f) : ∀ {l l' : List α}, l.Pairwise (fun x y => f x y ≤ 0) → l'.Pairwise (fun x y => f x y ≤ 0) → StEq f l l' → l = l'
  | [], [], _, _, _ => rfl
  | [], y :: t', _, _, h => by have := h.symm.mem hf (List.mem_cons_self ..); cases this
  | x :: t, [], _, _, h => by have := h.mem hf (List.mem_cons_self ..); cases this
  | x :: t, y :: t', h1, h2, h => by
    have p1 := List.pairwise_cons.1 h1
    have p2 := List.pairwise_cons.1 h2
    have hx : f y x ≤ 0 := by
      rcases List.mem_cons.1 (h.mem hf (List.mem_cons_self ..)) with e | e
      · rw [e, hf.self]; exact Int.le_refl _
      · exact p2.1 _ e
    have hy : f x y ≤ 0 := by
      rcases List.mem_cons.1 (h.symm.mem hf (List.mem_cons_self ..)) with e | e
      · rw [e, hf.self]; exact Int.le_refl _
      · exact p1.1 _ e
    have h0 : f x y = 0 := by have := hf.neg x y; omega
    have hxy : x = y := by
      have := h x
      rw [List.filter_cons_of_pos (by simp [hf.self]), List.filter_cons_of_pos (by simp [h0])] at this
      exact (List.cons.inj this).1
    subst hxy
    have ht : StEq f t t' := fun z => by
      have := h z
      by_cases hz : f z x = 0
      · rw [List.filter_cons_of_pos (by simp [hz]), List.filter_cons_of_pos (by simp [hz])] at this
        exact (List.cons.inj this).2
      · rwa [List.filter_cons_of_neg (by simp [hz]), List.filter_cons_of_neg (by simp [hz])] at this
    rw [st_unique hf p1.2 p2.2 ht]

/-- The stretch of n elements from place a. -/
def sg (d : Array α) (a n : Nat) : List α := (List.range n).map (fun i => d[a + i]!)
theorem sg_length (d : Array α) (a n : Nat) : (sg d a n).length = n := by simp [sg]
theorem sg_add (d : Array α) (a n m : Nat) : sg d a (n + m) = sg d a n ++ sg d (a + n) m := by
  unfold sg
  rw [List.range_add, List.map_append, List.map_map]
  congr 1
  apply List.map_congr_left
  intro i _
  show d[a + (n + i)]! = d[a + n + i]!
  rw [Nat.add_assoc]
theorem sg_congr {d d' : Array α} {a a' n : Nat} (h : ∀ i, i < n → d'[a' + i]! = d[a + i]!) : sg d' a' n = sg d a n := by
  unfold sg
  apply List.map_congr_left
  intro i hi
  exact h i (List.mem_range.1 hi)
theorem mem_sg {d : Array α} {a n : Nat} {x : α} : x ∈ sg d a n ↔ ∃ i, a ≤ i ∧ i < a + n ∧ d[i]! = x := by
  unfold sg
  rw [List.mem_map]
  constructor
  · rintro ⟨i, hi, rfl⟩
    exact ⟨a + i, by omega, by have := List.mem_range.1 hi; omega, rfl⟩
  · rintro ⟨i, h1, h2, rfl⟩
    exact ⟨i - a, List.mem_range.2 (by omega), by rw [show a + (i - a) = i by omega]⟩
theorem sg_all (d : Array α) : sg d 0 d.size = d.toList := by
  apply List.ext_getElem
  · simp [sg]
  · intro i h1 h2
    simp only [sg, List.getElem_map, List.getElem_range, Nat.zero_add, Array.getElem_toList]
    exact getElem!_pos d i (by simpa using h2)

/-- Ascending on a ≤ i < b. -/
def Sd (f : α → α → Int) (d : Array α) (a b : Nat) : Prop := ∀ i j, a ≤ i → i < j → j < b → f d[i]! d[j]! ≤ 0
theorem Sd.le (hf : Ord.IsCmp f) {d : Array α} {a b : Nat} (h : Sd f d a b) {i j : Nat} (h1 : a ≤ i) (h2 : i ≤ j) (h3 : j < b) : f d[i]! d[j]! ≤ 0 := by
  rcases Nat.eq_or_lt_of_le h2 with rfl | h2
  · rw [hf.self]; exact Int.le_refl _
  · exact h i j h1 h2 h3
theorem Sd.sub {d : Array α} {a b a' b' : Nat} (h : Sd f d a b) (h1 : a ≤ a') (h2 : b' ≤ b) : Sd f d a' b' := fun i j hi hij hj => h i j (by omega) hij (by omega)
theorem Sd.shift {d d' : Array α} {a b a' : Nat} (h : Sd f d a b) (hn : ∀ i, i < b - a → d'[a' + i]! = d[a + i]!) {b' : Nat} (hb : b' = a' + (b - a)) : Sd f d' a' b' := by
  intro i j hi hij hj
  have e1 := hn (i - a') (by omega)
  have e2 := hn (j - a') (by omega)
  rw [show a' + (i - a') = i by omega] at e1
  rw [show a' + (j - a') = j by omega] at e2
  rw [e1, e2]
  exact h _ _ (by omega) (by omega) (by omega)
theorem Sd.pairwise (d : Array α) (h : Sd f d 0 d.size) : d.toList.Pairwise (fun x y => f x y ≤ 0) := by
  rw [List.pairwise_iff_getElem]
  intro i j hi hj hij
  have := h i j (Nat.zero_le _) hij (by simpa using hj)
  rw [getElem!_pos d i (by simpa using hi), getElem!_pos d j (by simpa using hj)] at this
  simpa using this
theorem Sd.one (d : Array α) {a b : Nat} (h : b ≤ a + 1) : Sd f d a b := fun i j _ _ _ => by omega

/-- The place from which a rotation takes. -/
def rot (a m b k : Nat) : Nat := if a ≤ k ∧ k < a + (b - m) then k + (m - a) else if a + (b - m) ≤ k ∧ k < b then k - (b - m) else k
/-- The stretches [a, m) and [m, b) have changed places. -/
structure Rot (d d' : Array α) (a m b : Nat) : Prop where
  size : d'.size = d.size
  get : ∀ k, d'[k]! = d[rot a m b k]!
theorem Rot.self (d : Array α) {a m b : Nat} (h : m ≤ a ∨ b ≤ m) (h2 : a ≤ m) (h3 : m ≤ b) : Rot d d a m b := ⟨rfl, fun k => by
  unfold rot
  split
  · congr 1; omega
  · split
    · congr 1; omega
    · rfl⟩
section
variable {d d' : Array α} {a m b : Nat} (h : Rot d d' a m b) (h1 : a ≤ m) (h2 : m ≤ b)
include h h1 h2
theorem Rot.fst {i : Nat} (hi : i < b - m) : d'[a + i]! = d[m + i]! := by
  have _ := h1
  have _ := h2
  rw [h.get, rot, if_pos (by omega)]; congr 1; omega
theorem Rot.snd {i : Nat} (hi : i < m - a) : d'[a + (b - m) + i]! = d[a + i]! := by
  rw [h.get, rot, if_neg (by omega), if_pos (by omega)]; congr 1; omega
theorem Rot.out {i : Nat} (hi : i < a ∨ b ≤ i) : d'[i]! = d[i]! := by
  rw [h.get, rot, if_neg (by omega), if_neg (by omega)]
theorem Rot.st (hf : Ord.IsCmp f) {p q : Nat} (hp : p ≤ a) (hq : b ≤ q) (hs : ∀ i j, a ≤ i → i < m → m ≤ j → j < b → f d[j]! d[i]! < 0) : StEq f (sg d p (q - p)) (sg d' p (q - p)) := by
  have e : q - p = (a - p) + ((m - a) + ((b - m) + (q - b))) := by omega
  have e' : q - p = (a - p) + ((b - m) + ((m - a) + (q - b))) := by omega
  have s1 : sg d p (q - p) = sg d p (a - p) ++ ((sg d a (m - a) ++ sg d m (b - m)) ++ sg d b (q - b)) := by
    rw [e, sg_add, sg_add, sg_add, show p + (a - p) = a by omega, show a + (m - a) = m by omega, show m + (b - m) = b by omega, List.append_assoc]
  have s2 : sg d' p (q - p) = sg d p (a - p) ++ ((sg d m (b - m) ++ sg d a (m - a)) ++ sg d b (q - b)) := by
    rw [e', sg_add, sg_add, sg_add, show p + (a - p) = a by omega, show a + (b - m) + (m - a) = b by omega, List.append_assoc]
    rw [sg_congr (d := d) (d' := d') (a := p) (a' := p) (fun i hi => h.out h1 h2 (by omega)), sg_congr (d := d) (d' := d') (a := m) (a' := a) (fun i hi => h.fst h1 h2 hi),
      sg_congr (d := d) (d' := d') (a := a) (a' := a + (b - m)) (fun i hi => h.snd h1 h2 hi), sg_congr (d := d) (d' := d') (a := b) (a' := b) (fun i hi => h.out h1 h2 (by omega))]
  rw [s1, s2]
  refine (StEq.refl _).append (StEq.append (StEq.swap hf ?_) (StEq.refl _))
  intro x hx y hy
  obtain ⟨i, hi1, hi2, rfl⟩ := mem_sg.1 hx
  obtain ⟨j, hj1, hj2, rfl⟩ := mem_sg.1 hy
  exact hs i j hi1 (by omega) hj1 (by omega)
end

/-- [a, b) has been put in order, equals as they stood. -/
structure Mrg (f : α → α → Int) (d d' : Array α) (a b : Nat) : Prop where
  size : d'.size = d.size
  out : ∀ k, k < a ∨ b ≤ k → d'[k]! = d[k]!
  st : StEq f (sg d a (b - a)) (sg d' a (b - a))
  sorted : Sd f d' a b
theorem Mrg.same {d : Array α} {a b : Nat} (h : Sd f d a b) : Mrg f d d a b := ⟨rfl, fun _ _ => rfl, StEq.refl _, h⟩
theorem Mrg.from_ (hf : Ord.IsCmp f) {d d' : Array α} {a b : Nat} (h : Mrg f d d' a b) {i : Nat} (h1 : a ≤ i) (h2 : i < b) : ∃ j, a ≤ j ∧ j < b ∧ d'[i]! = d[j]! := by
  have hm : d'[i]! ∈ sg d' a (b - a) := mem_sg.2 ⟨i, h1, by omega, rfl⟩
  obtain ⟨j, hj1, hj2, e⟩ := mem_sg.1 (h.st.symm.mem hf hm)
  exact ⟨j, hj1, by omega, e.symm⟩
/-- Two stretches put in order, all of the first being no more than all of the second. -/
theorem Mrg.join (hf : Ord.IsCmp f) {d1 d2 d3 : Array α} {a m b : Nat} (h1 : a ≤ m) (h2 : m ≤ b) (M1 : Mrg f d1 d2 a m) (M2 : Mrg f d2 d3 m b)
    (hle : ∀ i j, a ≤ i → i < m → m ≤ j → j < b → f d1[i]! d1[j]! ≤ 0) : Mrg f d1 d3 a b where
  size := M2.size.trans M1.size
  out := fun k hk => (M2.out k (by omega)).trans (M1.out k (by omega))
  st := by
    have e : b - a = (m - a) + (b - m) := by omega
    rw [e, sg_add, sg_add, show a + (m - a) = m by omega]
    have e1 : sg d3 a (m - a) = sg d2 a (m - a) := sg_congr (fun i hi => M2.out _ (by omega))
    have e2 : sg d2 m (b - m) = sg d1 m (b - m) := sg_congr (fun i hi => M1.out _ (by omega))
    have := M2.st
    rw [e2] at this
    rw [e1]
    exact M1.st.append this
  sorted := by
    intro i j hi hij hj
    by_cases hjm : j < m
    · rw [M2.out i (by omega), M2.out j (by omega)]
      exact M1.sorted i j hi hij hjm
    · by_cases him : i < m
      · rw [M2.out i (by omega)]
        obtain ⟨i', a1, a2, ei⟩ := M1.from_ hf hi him
        obtain ⟨j', b1, b2, ej⟩ := M2.from_ hf (show m ≤ j by omega) hj
        rw [ei, ej, M1.out j' (by omega)]
        exact hle i' j' a1 a2 b1 b2
      · exact M2.sorted i j (by omega) hij hj

/-- What the search for the place to cut gives, and what the rotation leaves. -/
theorem merge_step (hf : Ord.IsCmp f) {d d1 d2 d3 : Array α} {a m b s e mid : Nat} (ha : a ≤ s) (hs : s ≤ m) (hm : m ≤ e) (he : e ≤ b) (hmid : mid = s + (e - m))
    (S1 : Sd f d a m) (S2 : Sd f d m b) (c1 : a < s → e < b → 0 ≤ f d[e]! d[s - 1]!) (c2 : s < m → m < e → f d[e - 1]! d[s]! < 0)
    (R : Rot d d1 s m e) (M1 : Mrg f d1 d2 a mid) (M2 : Mrg f d2 d3 mid b) : Mrg f d d3 a b := by
  have strict : ∀ i j, s ≤ i → i < m → m ≤ j → j < e → f d[j]! d[i]! < 0 := by
    intro i j hi him hj hje
    have t1 := S1.le hf (show a ≤ s by omega) hi him
    have t2 := S2.le hf hj (show j ≤ e - 1 by omega) (by omega)
    have t3 := c2 (by omega) (by omega)
    have t4 := hf.trans _ _ _ t2 (show f d[e - 1]! d[s]! ≤ 0 by omega)
    have t5 := hf.trans _ _ _ t4 t1
    have n := hf.strict (a := d[j]!) (b := d[e - 1]!) (c := d[s]!) t2 (by omega)
    have n2 := hf.strict (a := d[j]!) (b := d[s]!) (c := d[i]!) t4 t1
    rcases Int.lt_or_eq_of_le t5 with h | h
    · exact h
    · have := n2 h
      have := n this.1
      omega
  have J := M1.join hf (by omega) (by omega) M2 (by
    intro i j hi him hj hjb
    -- the first half: [a, s) as it was, [s, mid) = [m, e)
    have hfi : ∃ i', d1[i]! = d[i']! ∧ ((a ≤ i' ∧ i' < s) ∨ (m ≤ i' ∧ i' < e)) := by
      by_cases h : i < s
      · exact ⟨i, R.out hs hm (Or.inl h), Or.inl ⟨hi, h⟩⟩
      · refine ⟨m + (i - s), ?_, Or.inr ⟨by omega, by omega⟩⟩
        have := R.fst hs hm (i := i - s) (by omega)
        rwa [show s + (i - s) = i by omega] at this
    have hfj : ∃ j', d1[j]! = d[j']! ∧ ((s ≤ j' ∧ j' < m) ∨ (e ≤ j' ∧ j' < b)) := by
      by_cases h : j < e
      · refine ⟨s + (j - mid), ?_, Or.inl ⟨by omega, by omega⟩⟩
        have := R.snd hs hm (i := j - mid) (by omega)
        rwa [show s + (e - m) + (j - mid) = j by omega] at this
      · exact ⟨j, R.out hs hm (Or.inr (by omega)), Or.inr ⟨by omega, hjb⟩⟩
    obtain ⟨i', ei, hi'⟩ := hfi
    obtain ⟨j', ej, hj'⟩ := hfj
    rw [ei, ej]
    rcases hi' with ⟨i1, i2⟩ | ⟨i1, i2⟩ <;> rcases hj' with ⟨j1, j2⟩ | ⟨j1, j2⟩
    · exact S1.le hf i1 (by omega) j2
    · have q := c1 (by omega) (by omega)
      have n := hf.neg d[e]! d[s - 1]!
      exact hf.trans _ _ _ (hf.trans _ _ _ (S1.le hf i1 (show i' ≤ s - 1 by omega) (by omega)) (show f d[s - 1]! d[e]! ≤ 0 by omega)) (S2.le hf hm j1 j2)
    · have := strict j' i' j1 j2 i1 i2; omega
    · exact S2.le hf i1 (by omega) j2)
  exact ⟨J.size.trans R.size, fun k hk => (J.out k hk).trans (R.out hs hm (by omega)), (R.st hs hm hf ha he strict).trans J.st, J.sorted⟩

/-- Two neighbours change places. -/
theorem rot_swp (d : Array α) {j : Nat} (hj : j + 1 < d.size) : Rot d (swp d (j + 1) j) j (j + 1) (j + 2) := ⟨size_swp _ _ _, fun k => by
  rw [swp_get d hj (by omega)]
  unfold rot
  split
  · subst k; rw [if_pos (by omega)]; congr 1; omega
  · split
    · subst k; rw [if_neg (by omega), if_pos (by omega)]; congr 1; omega
    · rw [if_neg (by omega), if_neg (by omega)]⟩
theorem insInner_keeps (hf : Ord.IsCmp f) (a b : Nat) : ∀ (j : Nat) (d : Array α), a ≤ j → j < b → b ≤ d.size →
    (insInner (ltOf f) a j d).size = d.size ∧ (∀ k, k < a ∨ b ≤ k → (insInner (ltOf f) a j d)[k]! = d[k]!) ∧ StEq f (sg d a (b - a)) (sg (insInner (ltOf f) a j d) a (b - a))
  | 0, d, _, _, _ => ⟨rfl, fun _ _ => rfl, StEq.refl _⟩
  | j + 1, d, h1, h2, h3 => by
    by_cases hc : a < j + 1 ∧ ltOf f d[j + 1]! d[j]! = true
    · have R := rot_swp d (j := j) (by omega)
      have ih := insInner_keeps hf a b j (swp d (j + 1) j) (by omega) (by omega) (by rw [size_swp]; exact h3)
      rw [insInner_go _ _ _ _ hc.1 (by simpa using hc.2)]
      refine ⟨ih.1.trans (size_swp _ _ _), fun k hk => (ih.2.1 k hk).trans (R.out (by omega) (by omega) (by omega)), ?_⟩
      refine (R.st (by omega) (by omega) hf (by omega) (by omega) ?_).trans ih.2.2
      intro i k q1 q2 q3 q4
      have : i = j := by omega
      have : k = j + 1 := by omega
      subst i k
      exact of_decide_eq_true hc.2
    · rw [insInner_stop]
      · exact ⟨rfl, fun _ _ => rfl, StEq.refl _⟩
      · by_cases h : a < j + 1
        · right
          have : ¬ ltOf f d[j + 1]! d[j]! = true := fun e => hc ⟨h, e⟩
          simpa using this
        · left; omega
theorem insOuter_keeps (hf : Ord.IsCmp f) (a b : Nat) : ∀ (n i : Nat) (d : Array α), b - i ≤ n → a ≤ i → b ≤ d.size →
    (insOuter (ltOf f) a b i d).size = d.size ∧ (∀ k, k < a ∨ b ≤ k → (insOuter (ltOf f) a b i d)[k]! = d[k]!) ∧ StEq f (sg d a (b - a)) (sg (insOuter (ltOf f) a b i d) a (b - a))
  | 0, i, d, hn, h1, h2 => by
    rw [insOuter_stop _ _ _ _ _ (by omega)]
    exact ⟨rfl, fun _ _ => rfl, StEq.refl _⟩
  | n + 1, i, d, hn, h1, h2 => by
    by_cases hi : i < b
    · have k := insInner_keeps hf a b i d h1 hi h2
      have ih := insOuter_keeps hf a b n (i + 1) (insInner (ltOf f) a i d) (by omega) (by omega) (by rw [k.1]; exact h2)
      rw [insOuter_go _ _ _ _ _ hi]
      exact ⟨ih.1.trans k.1, fun q hq => (ih.2.1 q hq).trans (k.2.1 q hq), k.2.2.trans ih.2.2⟩
    · rw [insOuter_stop _ _ _ _ _ hi]
      exact ⟨rfl, fun _ _ => rfl, StEq.refl _⟩
omit [Inhabited α] in
theorem swo_of (hf : Ord.IsCmp f) : SWO (ltOf f) where
  irrefl := fun x => by simp [ltOf, hf.self]
  trans := fun x y z h1 h2 => by
    have h1 := of_decide_eq_true h1
    have h2 := of_decide_eq_true h2
    refine decide_eq_true ?_
    have t := hf.trans x y z (by omega) (by omega)
    rcases Int.lt_or_eq_of_le t with h | h
    · exact h
    · have := hf.strict (show f x y ≤ 0 by omega) (show f y z ≤ 0 by omega) h; omega
  ntrans := fun x y z h1 h2 => by
    have h1 := of_decide_eq_false h1
    have h2 := of_decide_eq_false h2
    refine decide_eq_false ?_
    have n1 := hf.neg x y
    have n2 := hf.neg y z
    have n3 := hf.neg x z
    have t := hf.trans z y x (by omega) (by omega)
    omega
theorem ins_mrg (hf : Ord.IsCmp f) (d : Array α) {a b : Nat} (hab : a ≤ b) (hb : b ≤ d.size) : Mrg f d (Sort.insertionSort (ltOf f) d a b) a b := by
  have k := insOuter_keeps hf a b (b - (a + 1)) (a + 1) d (Nat.le_refl _) (by omega) hb
  have hs := (insertionSort_holds (swo_of hf) d a b hab hb).2
  refine ⟨k.1, k.2.1, k.2.2, fun i j hi hij hj => ?_⟩
  have := of_decide_eq_false (hs i j hi hij hj)
  have n := hf.neg (Sort.insertionSort (ltOf f) d a b)[i]! (Sort.insertionSort (ltOf f) d a b)[j]!
  omega
omit [Inhabited α] in
/-- One more element put behind all that are no more than it. -/
theorem put_sorted (hf : Ord.IsCmp f) {l l1 l2 : List α} {x : α} (hl : l = l1 ++ l2) (h : l.Pairwise (fun x y => f x y ≤ 0)) (h1 : ∀ y ∈ l1.getLast?, 0 ≤ f x y) (h2 : ∀ y ∈ l2, f x y < 0) :
    (l1 ++ ([x] ++ l2)).Pairwise (fun x y => f x y ≤ 0) ∧ StEq f (l ++ [x]) (l1 ++ ([x] ++ l2)) := by
  subst hl
  have hp := List.pairwise_append.1 h
  have hx1 : ∀ y ∈ l1, f y x ≤ 0 := by
    intro y hy
    rcases l1.eq_nil_or_concat with rfl | ⟨l0, z, rfl⟩
    · cases hy
    · have hz := h1 z (by simp)
      have n := hf.neg z x
      have hy' : y ∈ l0 ∨ y = z := by simpa using hy
      rcases hy' with h0 | h0
      · have := (List.pairwise_append.1 (by simpa using hp.1)).2.2 y h0 z (by simp)
        exact hf.trans _ _ _ this (by have := hf.neg z x; omega)
      · subst h0
        omega
  refine ⟨?_, ?_⟩
  · rw [List.pairwise_append]
    refine ⟨hp.1, ?_, ?_⟩
    · rw [List.singleton_append, List.pairwise_cons]
      exact ⟨fun y hy => by have := h2 y hy; omega, hp.2.1⟩
    · intro y hy z hz
      rcases List.mem_append.1 hz with hz | hz
      · have : z = x := by simpa using hz
        subst this
        exact hx1 y hy
      · exact hp.2.2 y hy z hz
  · rw [List.append_assoc]
    refine (StEq.refl _).append (StEq.swap hf ?_)
    intro y hy z hz
    have : z = x := by simpa using hz
    subst this
    exact h2 y hy
end Go.Proofs.Ytbfpljnfalopdaa.Srt
/-
  Stretches that change places, a rotation out of such changes, the symmetric merge, rows sorted in blocks: in plain words.
-/
set_option linter.unusedVariables false
set_option linter.unusedSimpArgs false
namespace Go.Proofs.Ytbfpljnfalopdaa.Srt
open Go Go.Sort
variable {α : Type} [Inhabited α] {f : α → α → Int}

/-- The place from which an exchange of two stretches of n takes. -/
def xch (a b n k : Nat) : Nat := if a ≤ k ∧ k < a + n then k + (b - a) else if b ≤ k ∧ k < b + n then k - (b - a) else k
theorem xch_cases (a b n k : Nat) : (a ≤ k ∧ k < a + n ∧ xch a b n k = k + (b - a)) ∨ (¬ (a ≤ k ∧ k < a + n) ∧ b ≤ k ∧ k < b + n ∧ xch a b n k = k - (b - a)) ∨ (¬ (a ≤ k ∧ k < a + n) ∧ ¬ (b ≤ k ∧ k < b + n) ∧ xch a b n k = k) := by
  unfold xch
  by_cases h1 : a ≤ k ∧ k < a + n
  · rw [if_pos h1]; exact .inl ⟨h1.1, h1.2, rfl⟩
  · rw [if_neg h1]
    by_cases h2 : b ≤ k ∧ k < b + n
    · rw [if_pos h2]; exact .inr (.inl ⟨h1, h2.1, h2.2, rfl⟩)
    · rw [if_neg h2]; exact .inr (.inr ⟨h1, h2, rfl⟩)
theorem rot_cases (a m b k : Nat) : (a ≤ k ∧ k < a + (b - m) ∧ rot a m b k = k + (m - a)) ∨ (¬ (a ≤ k ∧ k < a + (b - m)) ∧ a + (b - m) ≤ k ∧ k < b ∧ rot a m b k = k - (b - m)) ∨ (¬ (a ≤ k ∧ k < a + (b - m)) ∧ ¬ (a + (b - m) ≤ k ∧ k < b) ∧ rot a m b k = k) := by
  unfold rot
  by_cases h1 : a ≤ k ∧ k < a + (b - m)
  · rw [if_pos h1]; exact .inl ⟨h1.1, h1.2, rfl⟩
  · rw [if_neg h1]
    by_cases h2 : a + (b - m) ≤ k ∧ k < b
    · rw [if_pos h2]; exact .inr (.inl ⟨h1, h2.1, h2.2, rfl⟩)
    · rw [if_neg h2]; exact .inr (.inr ⟨h1, h2, rfl⟩)
/-- The stretches of n from a and from b have changed places. -/
structure Xch (d d' : Array α) (a b n : Nat) : Prop where
  size : d'.size = d.size
  get : ∀ k, d'[k]! = d[xch a b n k]!
theorem Xch.none (d : Array α) (a b : Nat) : Xch d d a b 0 := ⟨rfl, fun k => by
  congr 1
  rcases xch_cases a b 0 k with h | h | h <;> omega⟩
/-- Where an exchange of two elements takes from. -/
theorem swp_at (d : Array α) {i j : Nat} (hi : i < d.size) (hj : j < d.size) (k : Nat) : ∃ q, (swp d i j)[k]! = d[q]! ∧ ((k = j ∧ q = i) ∨ (k ≠ j ∧ k = i ∧ q = j) ∨ (k ≠ j ∧ k ≠ i ∧ q = k)) := by
  rw [swp_get d hi hj]
  by_cases h1 : k = j
  · rw [if_pos h1]; exact ⟨i, rfl, .inl ⟨h1, rfl⟩⟩
  · rw [if_neg h1]
    by_cases h2 : k = i
    · rw [if_pos h2]; exact ⟨j, rfl, .inr (.inl ⟨h1, h2, rfl⟩)⟩
    · rw [if_neg h2]; exact ⟨k, rfl, .inr (.inr ⟨h1, h2, rfl⟩)⟩
theorem Xch.step {d d' : Array α} {a b i : Nat} (h : Xch d d' a b i) (hab : a + i < b) (hb : b + i < d.size) : Xch d (swp d' (a + i) (b + i)) a b (i + 1) := ⟨by rw [size_swp, h.size], fun k => by
  obtain ⟨q, e, hq⟩ := swp_at d' (i := a + i) (j := b + i) (by rw [h.size]; omega) (by rw [h.size]; omega) k
  rw [e, h.get]
  congr 1
  have h1 := xch_cases a b i q
  have h2 := xch_cases a b (i + 1) k
  rcases hq with hq | hq | hq <;> rcases h1 with h1 | h1 | h1 <;> rcases h2 with h2 | h2 | h2 <;> omega⟩

/-- What is left to be rotated. -/
def Left (d dk : Array α) (a m b i j : Nat) : Prop := dk.size = d.size ∧ ∀ d', Rot dk d' (m - i) m (m + j) → Rot d d' a m b
theorem Left.start (d : Array α) {a m b : Nat} (h1 : a ≤ m) (h2 : m ≤ b) : Left d d a m b (m - a) (b - m) := ⟨rfl, fun d' h => by
  rwa [show m - (m - a) = a by omega, show m + (b - m) = b by omega] at h⟩
theorem Left.fst {d dk dx : Array α} {a m b i j : Nat} (h : Left d dk a m b i j) (hi : i ≤ m) (hij : j < i) (hx : Xch dk dx (m - i) m j) : Left d dx a m b (i - j) j := ⟨hx.size.trans h.1, fun d' hr => h.2 d' ⟨hr.size.trans hx.size, fun k => by
  rw [hr.get, hx.get]
  congr 1
  have h1 := rot_cases (m - (i - j)) m (m + j) k
  have h2 := xch_cases (m - i) m j (rot (m - (i - j)) m (m + j) k)
  have h3 := rot_cases (m - i) m (m + j) k
  rcases h1 with h1 | h1 | h1 <;> rcases h2 with h2 | h2 | h2 <;> rcases h3 with h3 | h3 | h3 <;> omega⟩⟩
theorem Left.snd {d dk dx : Array α} {a m b i j : Nat} (h : Left d dk a m b i j) (hi : i ≤ m) (hij : i < j) (hx : Xch dk dx (m - i) (m + j - i) i) : Left d dx a m b i (j - i) := ⟨hx.size.trans h.1, fun d' hr => h.2 d' ⟨hr.size.trans hx.size, fun k => by
  rw [hr.get, hx.get]
  congr 1
  have h1 := rot_cases (m - i) m (m + (j - i)) k
  have h2 := xch_cases (m - i) (m + j - i) i (rot (m - i) m (m + (j - i)) k)
  have h3 := rot_cases (m - i) m (m + j) k
  rcases h1 with h1 | h1 | h1 <;> rcases h2 with h2 | h2 | h2 <;> rcases h3 with h3 | h3 | h3 <;> omega⟩⟩
theorem Left.done {d dk dx : Array α} {a m b i : Nat} (h : Left d dk a m b i i) (hi : i ≤ m) (hx : Xch dk dx (m - i) m i) : Rot d dx a m b := h.2 dx ⟨hx.size, fun k => by
  rw [hx.get]
  congr 1
  have h2 := xch_cases (m - i) m i k
  have h3 := rot_cases (m - i) m (m + i) k
  rcases h2 with h2 | h2 | h2 <;> rcases h3 with h3 | h3 | h3 <;> omega⟩

/-- One element moved up over its right neighbours, one by one. -/
theorem Rot.up {d dk : Array α} {a k : Nat} (h : Rot d dk a (a + 1) (k + 1)) (hk : k + 1 < d.size) (ha : a ≤ k) : Rot d (swp dk k (k + 1)) a (a + 1) (k + 2) := ⟨(size_swp _ _ _).trans h.size, fun x => by
  obtain ⟨q, e, hq⟩ := swp_at dk (i := k) (j := k + 1) (by rw [h.size]; omega) (by rw [h.size]; omega) x
  rw [e, h.get]
  congr 1
  have h1 := rot_cases a (a + 1) (k + 1) q
  have h2 := rot_cases a (a + 1) (k + 2) x
  rcases hq with hq | hq | hq <;> rcases h1 with h1 | h1 | h1 <;> rcases h2 with h2 | h2 | h2 <;> omega⟩
/-- One element moved down over its left neighbours, one by one. -/
theorem Rot.down {d dk : Array α} {m k : Nat} (h : Rot d dk (k + 1) m (m + 1)) (hm : m < d.size) (hk : k + 1 ≤ m) : Rot d (swp dk (k + 1) k) k m (m + 1) := ⟨(size_swp _ _ _).trans h.size, fun x => by
  obtain ⟨q, e, hq⟩ := swp_at dk (i := k + 1) (j := k) (by rw [h.size]; omega) (by rw [h.size]; omega) x
  rw [e, h.get]
  congr 1
  have h1 := rot_cases (k + 1) m (m + 1) q
  have h2 := rot_cases k m (m + 1) x
  rcases hq with hq | hq | hq <;> rcases h1 with h1 | h1 | h1 <;> rcases h2 with h2 | h2 | h2 <;> omega⟩

/-- Halfway. -/
theorem half_lt {i j : Nat} (h : i < j) : i ≤ (i + j) / 2 ∧ (i + j) / 2 < j := by omega

section
variable (hf : Ord.IsCmp f) {d d1 : Array α} {a m b : Nat}
include hf
/-- The first stretch is one element. -/
theorem merge_first {i : Nat} (h1 : a + 1 = m) (h2 : m ≤ i) (h3 : i ≤ b) (S2 : Sd f d m b) (c1 : i < b → 0 ≤ f d[i]! d[a]!) (c2 : m < i → f d[i - 1]! d[a]! < 0) (R : Rot d d1 a m i) : Mrg f d d1 a b := by
  subst h1
  have t1 : Sd f d1 a (a + (i - (a + 1))) := (S2.sub (Nat.le_refl _) h3).shift (fun k hk => R.fst (by omega) h2 hk) rfl
  have t2 : Sd f d1 (a + (i - (a + 1))) b := by
    have e0 : d1[a + (i - (a + 1))]! = d[a]! := by
      have := R.snd (by omega) h2 (i := 0) (by omega)
      simpa using this
    intro x y hx hxy hy
    have ey : d1[y]! = d[y]! := R.out (by omega) h2 (by omega)
    rw [ey]
    by_cases hx0 : x = a + (i - (a + 1))
    · subst hx0
      rw [e0]
      have n := hf.neg d[i]! d[a]!
      have c := c1 (by omega)
      exact hf.trans _ _ _ (show f d[a]! d[i]! ≤ 0 by omega) (S2.le hf h2 (by omega) hy)
    · rw [R.out (by omega) h2 (by omega)]
      exact S2 x y (by omega) hxy hy
  exact merge_step hf (Nat.le_refl a) (by omega) h2 h3 rfl (Sd.one d (Nat.le_refl _)) S2 (fun h => by omega) (fun _ h => c2 h) R (Mrg.same t1) (Mrg.same t2)
/-- The second stretch is one element. -/
theorem merge_last {i : Nat} (h1 : m + 1 = b) (h2 : a ≤ i) (h3 : i ≤ m) (S1 : Sd f d a m) (c1 : a < i → 0 ≤ f d[m]! d[i - 1]!) (c2 : i < m → f d[m]! d[i]! < 0) (R : Rot d d1 i m b) : Mrg f d d1 a b := by
  subst h1
  have t2 : Sd f d1 (i + (m + 1 - m)) (m + 1) := (S1.sub h2 (Nat.le_refl _)).shift (fun k hk => R.snd h3 (by omega) hk) (by omega)
  have t1 : Sd f d1 a (i + (m + 1 - m)) := by
    have e0 : d1[i]! = d[m]! := by
      have := R.fst h3 (by omega) (i := 0) (by omega)
      simpa using this
    intro x y hx hxy hy
    have ex : d1[x]! = d[x]! := R.out h3 (by omega) (by omega)
    rw [ex]
    by_cases hy0 : y = i
    · subst hy0
      rw [e0]
      have n := hf.neg d[m]! d[y - 1]!
      have c := c1 (by omega)
      exact hf.trans _ _ _ (S1.le hf hx (show x ≤ y - 1 by omega) (by omega)) (show f d[y - 1]! d[m]! ≤ 0 by omega)
    · rw [R.out h3 (by omega) (by omega)]
      exact S1 x y hx hxy (by omega)
  exact merge_step hf h2 h3 (by omega) (Nat.le_refl _) rfl S1 (Sd.one d (by omega)) (fun _ h => by omega) (fun h _ => by simpa using c2 h) R (Mrg.same t1) (Mrg.same t2)
end

/-- The four stretches behind the rotation are in order. -/
theorem rot_sd {d d1 : Array α} {a m b s e mid : Nat} (ha : a ≤ s) (hs : s ≤ m) (hm : m ≤ e) (he : e ≤ b) (hmid : mid = s + (e - m)) (S1 : Sd f d a m) (S2 : Sd f d m b) (R : Rot d d1 s m e) : Sd f d1 a s ∧ Sd f d1 s mid ∧ Sd f d1 mid e ∧ Sd f d1 e b := by
  subst hmid
  refine ⟨?_, (S2.sub (Nat.le_refl _) he).shift (fun k hk => R.fst hs hm hk) rfl, (S1.sub ha (Nat.le_refl _)).shift (fun k hk => R.snd hs hm hk) (by omega), ?_⟩
  · intro i j hi hij hj
    rw [R.out hs hm (by omega), R.out hs hm (by omega)]
    exact S1 i j hi hij (by omega)
  · intro i j hi hij hj
    rw [R.out hs hm (by omega), R.out hs hm (by omega)]
    exact S2 i j (by omega) hij hj
theorem Mrg.sd {d d' : Array α} {a b p q : Nat} (h : Mrg f d d' a b) (hpq : q ≤ a ∨ b ≤ p) (S : Sd f d p q) : Sd f d' p q := by
  intro i j hi hij hj
  rw [h.out i (by omega), h.out j (by omega)]
  exact S i j hi hij hj

/-- From p to q blocks of k, each in order. -/
inductive Bks (f : α → α → Int) (d : Array α) (k : Nat) : Nat → Nat → Prop
  | nil (p : Nat) : Bks f d k p p
  | cons {p q : Nat} : Sd f d p (p + k) → Bks f d k (p + k) q → Bks f d k p q
theorem Bks.le {d : Array α} {k p q : Nat} (h : Bks f d k p q) : p ≤ q := by
  induction h with
  | nil => omega
  | cons _ _ ih => omega
theorem Bks.snoc {d : Array α} {k p q : Nat} (h : Bks f d k p q) (hs : Sd f d q (q + k)) : Bks f d k p (q + k) := by
  induction h with
  | nil p => exact .cons hs (.nil _)
  | cons h1 _ ih => exact .cons h1 (ih hs)
theorem Bks.first {d : Array α} {k p q : Nat} (h : Bks f d k p q) (hk : 0 < k) (hlt : p < q) : Sd f d p (p + k) ∧ Bks f d k (p + k) q ∧ p + k ≤ q := by
  cases h with
  | nil => omega
  | cons h1 h2 => exact ⟨h1, h2, h2.le⟩
theorem Bks.mrg {d d' : Array α} {k p q a b : Nat} (M : Mrg f d d' a b) (h : Bks f d k p q) (hpq : q ≤ a ∨ b ≤ p) : Bks f d' k p q := by
  induction h with
  | nil => exact .nil _
  | cons h1 h2 ih =>
    have := h2.le
    exact .cons (M.sd (by omega) h1) (ih (by omega))
theorem Mrg.all {d d' : Array α} {a b n : Nat} (M : Mrg f d d' a b) (hab : a ≤ b) (hb : b ≤ n) : StEq f (sg d 0 n) (sg d' 0 n) := by
  have e : n = a + ((b - a) + (n - b)) := by omega
  have s1 : ∀ x : Array α, sg x 0 n = sg x 0 a ++ (sg x a (b - a) ++ sg x b (n - b)) := fun x => by
    conv => lhs; rw [e]
    rw [sg_add, sg_add, Nat.zero_add, show a + (b - a) = b by omega]
  rw [s1, s1, sg_congr (d := d) (d' := d') (a := 0) (a' := 0) (n := a) (fun i hi => M.out _ (by omega)), sg_congr (d := d) (d' := d') (a := b) (a' := b) (n := n - b) (fun i hi => M.out _ (by omega))]
  exact (StEq.refl _).append (M.st.append (StEq.refl _))

/-- The blocks of k of a row, the last one shorter; equals as they stood in d0. -/
structure Lot (f : α → α → Int) (d0 d : Array α) (k n a q : Nat) : Prop where
  size : d.size = d0.size
  st : StEq f (sg d0 0 n) (sg d 0 n)
  low : Bks f d (k + k) 0 a
  high : Bks f d k a q
  rest : Sd f d q n
  qn : q ≤ n
  nq : n < q + k
/-- The first blocks. -/
structure Lot0 (f : α → α → Int) (d0 d : Array α) (k n a : Nat) : Prop where
  size : d.size = d0.size
  st : StEq f (sg d0 0 n) (sg d 0 n)
  low : Bks f d k 0 a
theorem Lot0.start (d : Array α) (k n : Nat) : Lot0 f d d k n 0 := ⟨rfl, StEq.refl _, .nil _⟩
theorem Lot0.step {d0 d d' : Array α} {k n a : Nat} (h : Lot0 f d0 d k n a) (M : Mrg f d d' a (a + k)) (hn : a + k ≤ n) : Lot0 f d0 d' k n (a + k) :=
  ⟨M.size.trans h.size, h.st.trans (M.all (by omega) hn), (h.low.mrg M (.inl (Nat.le_refl _))).snoc M.sorted⟩
theorem Lot0.done {d0 d d' : Array α} {k n a : Nat} (h : Lot0 f d0 d k n a) (M : Mrg f d d' a n) (hn : a ≤ n) (hk : n < a + k) : Lot f d0 d' k n 0 a :=
  ⟨M.size.trans h.size, h.st.trans (M.all hn (Nat.le_refl _)), .nil _, h.low.mrg M (.inl (Nat.le_refl _)), M.sorted, hn, hk⟩
theorem Lot.two {d0 d : Array α} {k n a q : Nat} (h : Lot f d0 d k n a q) (hk : 0 < k) (hn : a + (k + k) ≤ n) : Sd f d a (a + k) ∧ Sd f d (a + k) (a + (k + k)) := by
  have := h.nq
  have h1 := h.high.first hk (by omega)
  have h2 := h1.2.1.first hk (by omega)
  exact ⟨h1.1, by simpa [Nat.add_assoc] using h2.1⟩
theorem Lot.step {d0 d d' : Array α} {k n a q : Nat} (h : Lot f d0 d k n a q) (hk : 0 < k) (hn : a + (k + k) ≤ n) (M : Mrg f d d' a (a + (k + k))) : Lot f d0 d' k n (a + (k + k)) q := by
  have := h.nq
  have h1 := h.high.first hk (by omega)
  have h2 := h1.2.1.first hk (by omega)
  have h3 : Bks f d k (a + (k + k)) q := by simpa [Nat.add_assoc] using h2.2.1
  have := h3.le
  exact ⟨M.size.trans h.size, h.st.trans (M.all (by omega) hn), (h.low.mrg M (.inl (Nat.le_refl _))).snoc M.sorted, h3.mrg M (.inr (Nat.le_refl _)), M.sd (.inr (by omega)) h.rest, h.qn, h.nq⟩
theorem Lot.last {d0 d : Array α} {k n a q : Nat} (h : Lot f d0 d k n a q) (hk : 0 < k) (hn : n < a + (k + k)) (hm : a + k < n) : Sd f d a (a + k) ∧ Sd f d (a + k) n := by
  have := h.nq
  have := h.qn
  have h1 := h.high.first hk (by omega)
  rcases Nat.eq_or_lt_of_le h1.2.2 with e | hlt
  · exact ⟨h1.1, e ▸ h.rest⟩
  · have h2 := h1.2.1.first hk hlt
    have := h2.2.2
    omega
theorem Lot.next {d0 d d' : Array α} {k n a q : Nat} (h : Lot f d0 d k n a q) (ha : a ≤ n) (hn : n < a + (k + k)) (M : Mrg f d d' a n) : Lot f d0 d' (k + k) n 0 a :=
  ⟨M.size.trans h.size, h.st.trans (M.all ha (Nat.le_refl _)), .nil _, h.low.mrg M (.inl (Nat.le_refl _)), M.sorted, ha, hn⟩
theorem Lot.one {d0 d : Array α} {k n a q : Nat} (h : Lot f d0 d k n a q) (hk : 0 < k) (hm : n ≤ a + k) : Sd f d a n := by
  have := h.nq
  have := h.qn
  have := h.high.le
  rcases Nat.eq_or_lt_of_le h.high.le with e | hlt
  · exact e ▸ h.rest
  · have h1 := h.high.first hk hlt
    have : a + k = n := by omega
    exact this ▸ h1.1
theorem Lot.whole (hf : Ord.IsCmp f) {d0 d : Array α} {k q : Nat} (h : Lot f d0 d k d0.size 0 q) (hk : 0 < k) (hn : d0.size ≤ k) : d = Sort.insertionSort (ltOf f) d0 0 d0.size := by
  have s := h.one hk (by omega)
  have M := ins_mrg hf d0 (Nat.zero_le d0.size) (Nat.le_refl _)
  have e1 : d.size = d0.size := h.size
  have e2 := M.size
  refine Array.toList_inj.1 (st_unique hf (Sd.pairwise d (by rw [e1]; exact s)) (Sd.pairwise _ (by rw [e2]; exact M.sorted)) ?_)
  have st2 := M.st
  have st1 := h.st
  rw [Nat.sub_zero] at st2
  rw [← sg_all, ← sg_all, e1, e2]
  exact st1.symm.trans st2
end Go.Proofs.Ytbfpljnfalopdaa.Srt
/-
  Two stretches of a row of elements of k cells change places; a rotation: the walks, over any program that bears the functions.
-/
set_option linter.unusedVariables false
set_option linter.unusedSimpArgs false
namespace Go.Proofs.Ytbfpljnfalopdaa.Srt
open Go Go.RowKit Go.Sort Go.Proofs.Ytbfpljnfalopdaa.L Go.Proofs.Ytbfpljnfalopdaa.CfgW
variable {P : Program} {α : Type} [Inhabited α]

omit [Inhabited α] in
theorem CmpIn.on {g : Nat} {cb : Array Value} {enc : α → List Value} {cf : α → α → Int} {blk : Nat} {w w1 : World} (h : CmpIn P g cb enc cf blk w) (hk : Kept (fun i => i = blk) w w1) : CmpIn P g cb enc cf blk w1 := fun W hW => h W (hk.trans hW)
theorem Sit.trans {enc : α → List Value} {k : Nat} {w w1 W : World} {blk off : Nat} {d d' : Array α} (h : Sit enc k w blk off d w1) (h' : Sit enc k w1 blk off d' W) : Sit enc k w blk off d' W := ⟨h.kept.trans h'.kept, h'.holds, h'.lt⟩

set_option maxHeartbeats 4000000 in
set_option maxRecDepth 1000000 in
theorem swpr_any {k : Nat} (L : PK P k) (hF : P.funcs[98]? = some Try.f98) (enc : α → List Value) (hk : ∀ x, (enc x).length = k) (h1 : ∀ x, ∀ v ∈ enc x, v.oneCell' = true)
    (g : Nat) (cb : Array Value) (blk off cap a b n : Nat) (d : Array α) (w0 w : World)
    (hS : Sit enc k w0 blk off d w) (hab : a + n ≤ b) (hb : b + n ≤ d.size) (hsz : d.size < 4611686018427387904) :
    Calls P 98 #[.slice (some ⟨blk, off, none⟩) d.size cap, .int .i64 a, .int .i64 b, .int .i64 n, .func (.func g) #[] cb] w fun e w' =>
      e = .returned (.tuple #[]) ∧ ∃ d', Xch d d' a b n ∧ Sit enc k w0 blk off d' w' := by
  have mixed := L.mixed; have t3 := L.t3; have a3 := L.a3; have z3 := L.z3; have v3 := L.v3; have t4 := L.t4; have a4 := L.a4; have z4 := L.z4; have v4 := L.v4; have t49 := L.t49; have a49 := L.a49; have z49 := L.z49; have v49 := L.v49; have aE := L.aE; have zE := L.zE
  have u49 := run_underlying L.t49
  have HST := Lib.hid hS
  have HK := Lib.hid hk
  have H1 := Lib.hid h1
  clear hS hk h1
  go_enter hF, Try.ntmps98
  go_wp2
  go_loopg [10] n (fun g1 vi wr => ∃ (i : Nat) (dk : Array α), vi = .int .i64 i ∧ i ≤ n ∧ n ≤ g1 + i ∧ dk.size = d.size ∧ Hid (Sit enc k w0 blk off dk wr) ∧ Hid (Xch d dk a b i))
  case atStart => exact ⟨0, d, by go_num, by omega, by omega, rfl, HST, Lib.hid (Xch.none d a b)⟩
  case round =>
    obtain ⟨i, dk, rfl, hin, hg1, hsk, HS, HO⟩ := hrel
    by_cases hlt : i < n
    · have hltz : (i : Int) < (n : Int) := by omega
      obtain ⟨p, hp⟩ : ∃ p, p = a + i := ⟨_, rfl⟩
      obtain ⟨q, hq⟩ : ∃ q, q = b + i := ⟨_, rfl⟩
      have hwp : IntKind.i64.wrap ((a : Int) + (i : Int)) = (p : Int) := by rw [IntKind.wrap_i64]; omega
      have hwq : IntKind.i64.wrap ((b : Int) + (i : Int)) = (q : Int) := by rw [IntKind.wrap_i64]; omega
      have jp : (p : Int) < (d.size : Int) := by omega
      have jq : (q : Int) < (d.size : Int) := by omega
      obtain ⟨xp, hxp⟩ : ∃ x, dk[p]! = x := ⟨_, rfl⟩
      obtain ⟨xq, hxq⟩ : ∃ x, dk[q]! = x := ⟨_, rfl⟩
      have hSd := HS.out.on (Onward.drew wr)
      have lp2 : Sem.run P (loadCellsFrom ⟨blk, off + p * k, none⟩ 0 k #[]) wr.drew = .ok (enc xp).toArray wr.drew := by
        rw [← hxp]; exact hSd.load HK.out (by omega)
      have lq2 : Sem.run P (loadCellsFrom ⟨blk, off + q * k, none⟩ 0 k #[]) wr.drew = .ok (enc xq).toArray wr.drew := by
        rw [← hxq]; exact hSd.load HK.out (by omega)
      obtain ⟨s1, s2, s3⟩ := hSd.swap (P := P) HK.out H1.out (i := p) (j := q) (by omega) (by omega)
      rw [hxp, hxq] at s2
      rw [hxq] at s1
      have S3 := Lib.hid s3
      rw [hxp, hxq] at S3
      have hsP : (enc xp).length = k := HK.out _
      have hsQ : (enc xq).length = k := HK.out _
      clear s3 hSd
      obtain ⟨cP, hcP⟩ : ∃ c, c = enc xp := ⟨_, rfl⟩
      obtain ⟨cQ, hcQ⟩ : ∃ c, c = enc xq := ⟨_, rfl⟩
      rw [← hcP] at s2 lp2 hsP S3
      rw [← hcQ] at s1 s2 lq2 hsQ S3
      have HX := Lib.hid (show Xch d (swp dk p q) a b (i + 1) by subst hp hq; exact HO.out.step (by omega) (by omega))
      clear hcP hcQ hp hq hxp hxq HS HO
      go_wp2_with fail
      go_big_region_o
      all_goals go_wp2
      go_roundg (n - (i + 1))
      case measure => omega
      case rel => exact ⟨i + 1, swp dk p q, by go_num, by omega, by omega, by rw [size_swp]; exact hsk, S3, HX⟩
    · have hltz : ¬ (i : Int) < (n : Int) := by omega
      have e : i = n := by omega
      have HX := Lib.hid (show Xch d dk a b n from e ▸ HO.out)
      clear e HO
      go_wp2
      go_end0
      exact ⟨rfl, dk, HX.out, HS.out⟩

set_option maxHeartbeats 4000000 in
set_option maxRecDepth 1000000 in
theorem rotate_any {k : Nat} (L : PK P k) (hF : P.funcs[95]? = some Try.f95) (hF2 : P.funcs[98]? = some Try.f98) (enc : α → List Value) (hk : ∀ x, (enc x).length = k) (h1 : ∀ x, ∀ v ∈ enc x, v.oneCell' = true)
    (g : Nat) (cb : Array Value) (blk off cap a m b : Nat) (d : Array α) (w0 w : World)
    (e98 : ∀ args w, (callFunc 98 args).run P w = .ok (.enter 98 args) w)
    (hS : Sit enc k w0 blk off d w) (ham : a < m) (hmb : m < b) (hb : b ≤ d.size) (hsz : d.size < 4611686018427387904) :
    Calls P 95 #[.slice (some ⟨blk, off, none⟩) d.size cap, .int .i64 a, .int .i64 m, .int .i64 b, .func (.func g) #[] cb] w fun e w' =>
      e = .returned (.tuple #[]) ∧ ∃ d', Rot d d' a m b ∧ Sit enc k w0 blk off d' w' := by
  have mixed := L.mixed; have t3 := L.t3; have a3 := L.a3; have z3 := L.z3; have v3 := L.v3; have t4 := L.t4; have a4 := L.a4; have z4 := L.z4; have v4 := L.v4; have t49 := L.t49; have a49 := L.a49; have z49 := L.z49; have v49 := L.v49; have aE := L.aE; have zE := L.zE
  have u49 := run_underlying L.t49
  have HST := Lib.hid hS
  have HL := Lib.hid L
  have HG := Lib.hid (fun (a b n : Nat) (dk : Array α) (w : World) (hs : dk.size = d.size) (hS : Sit enc k w0 blk off dk w) (hab : a + n ≤ b) (hb : b + n ≤ d.size) =>
    hs ▸ swpr_any L hF2 enc hk h1 g cb blk off cap a b n dk w0 w hS hab (by rw [hs]; exact hb) (by rw [hs]; exact hsz))
  clear hS hk h1 L hF2
  go_enter hF, Try.ntmps95
  go_wp2_with fail
  go_loopg [10, 11] (b - a) (fun g1 vi vj wr => ∃ (i j : Nat) (dk : Array α), vi = .int .i64 i ∧ vj = .int .i64 j ∧ 0 < i ∧ 0 < j ∧ a + i ≤ m ∧ m + j ≤ b ∧ i + j ≤ g1 ∧ dk.size = d.size ∧ Hid (Sit enc k w0 blk off dk wr) ∧ Hid (Left d dk a m b i j))
  case atStart => exact ⟨m - a, b - m, d, by rw [Int.ofNat_sub (by omega)], by rw [Int.ofNat_sub (by omega)], by omega, by omega, by omega, by omega, by omega, rfl, HST, Lib.hid (Left.start d (by omega) (by omega))⟩
  case round =>
    obtain ⟨i, j, dk, rfl, rfl, hi0, hj0, hai, hmj, hg1, hsk, HS, HO⟩ := hrel
    have HSK := Lib.hid hsk
    clear hsk
    rcases Nat.lt_trichotomy i j with hlt | e | hgt
    · have t1 : ((i : Int) != (j : Int)) = true := by rw [bne_iff_ne]; omega
      have t2 : decide ((i : Int) > (j : Int)) = false := decide_eq_false (by omega)
      have t3' : ¬ (j : Int) < (i : Int) := by omega
      go_wp2_with fail
      rw [show (m : Int) - (i : Int) = ((m - i : Nat) : Int) by omega, show (m : Int) + (j : Int) - (i : Int) = ((m + j - i : Nat) : Int) by omega]
      refine (HG.out (m - i) (m + j - i) i dk _ HSK.out HS.out (by omega) (by omega)).mono ?_
      rintro e w1 ⟨rfl, dx, hx, hs⟩
      have HX := Lib.hid (HO.out.snd (by omega) hlt hx)
      have HS1 := Lib.hid hs
      have HSZ := Lib.hid (hx.size.trans HSK.out)
      clear hx hs HS HO HSK
      go_wp2_with fail
      go_roundg j
      case measure => omega
      case rel => exact ⟨i, j - i, dx, rfl, by rw [Int.ofNat_sub (by omega)], hi0, by omega, hai, by omega, by omega, HSZ.out, HS1, HX⟩
    · subst e
      have HX := fun dx (hx : Xch dk dx (m - i) m i) => HO.out.done (by omega) hx
      have HX := Lib.hid HX
      clear HO
      go_wp2_with fail
      rw [show (m : Int) - (i : Int) = ((m - i : Nat) : Int) by omega]
      refine (HG.out (m - i) m i dk _ HSK.out HS.out (by omega) (by omega)).mono ?_
      rintro e w1 ⟨rfl, dx, hx, hs⟩
      have HR := Lib.hid (HX.out dx hx)
      have HS1 := Lib.hid hs
      clear hx hs HS HX HSK
      go_wp2_with fail
      go_end0
      exact ⟨rfl, dx, HR.out, HS1.out⟩
    · have t1 : ((i : Int) != (j : Int)) = true := by rw [bne_iff_ne]; omega
      have t2 : decide ((i : Int) > (j : Int)) = true := decide_eq_true (by omega)
      have t3' : (j : Int) < (i : Int) := by omega
      go_wp2_with fail
      rw [show (m : Int) - (i : Int) = ((m - i : Nat) : Int) by omega]
      refine (HG.out (m - i) m j dk _ HSK.out HS.out (by omega) (by omega)).mono ?_
      rintro e w1 ⟨rfl, dx, hx, hs⟩
      have HX := Lib.hid (HO.out.fst (by omega) hgt hx)
      have HS1 := Lib.hid hs
      have HSZ := Lib.hid (hx.size.trans HSK.out)
      clear hx hs HS HO HSK
      go_wp2_with fail
      go_roundg i
      case measure => omega
      case rel => exact ⟨i - j, j, dx, by rw [Int.ofNat_sub (by omega)], rfl, by omega, hj0, by omega, hmj, by omega, HSZ.out, HS1, HX⟩
end Go.Proofs.Ytbfpljnfalopdaa.Srt
/-
  The symmetric merge of two stretches of a row of elements of k cells: its walk, over any program that bears the functions.
-/
set_option linter.unusedVariables false
set_option linter.unusedSimpArgs false
namespace Go.Proofs.Ytbfpljnfalopdaa.Srt
open Go Go.RowKit Go.Sort Go.Proofs.Ytbfpljnfalopdaa.L Go.Proofs.Ytbfpljnfalopdaa.CfgW
variable {P : Program} {α : Type} [Inhabited α]

set_option maxHeartbeats 4000000 in
set_option maxRecDepth 1000000 in
theorem sym_first {k : Nat} (L : PK P k) (hF : P.funcs[85]? = some Try.f85) (enc : α → List Value) (hk : ∀ x, (enc x).length = k) (h1 : ∀ x, ∀ v ∈ enc x, v.oneCell' = true)
    (cf : α → α → Int) (hf : Ord.IsCmp cf) (g : Nat) (cb : Array Value) (blk off cap a m b : Nat) (d : Array α) (w0 w : World)
    (eg : ∀ args w, (callFunc g args).run P w = .ok (.enter g args) w) (hcmp : CmpIn P g cb enc cf blk w0) (hS : Sit enc k w0 blk off d w) (ham : a + 1 = m) (hmb : m < b) (hb : b ≤ d.size) (hsz : d.size < 2305843009213693952) (S2 : Sd cf d m b) :
    Calls P 85 #[.slice (some ⟨blk, off, none⟩) d.size cap, .int .i64 a, .int .i64 m, .int .i64 b, .func (.func g) #[] cb] w fun e w' =>
      e = .returned (.tuple #[]) ∧ ∃ d', Mrg cf d d' a b ∧ Sit enc k w0 blk off d' w' := by
  have mixed := L.mixed; have t3 := L.t3; have a3 := L.a3; have z3 := L.z3; have v3 := L.v3; have t4 := L.t4; have a4 := L.a4; have z4 := L.z4; have v4 := L.v4; have t49 := L.t49; have a49 := L.a49; have z49 := L.z49; have v49 := L.v49; have tu := L.tu; have au := L.au; have zu := L.zu; have aE := L.aE; have zE := L.zE
  have u49 := run_underlying L.t49
  have HST := Lib.hid hS
  have HC := Lib.hid hcmp
  have HK := Lib.hid hk
  have H1 := Lib.hid h1
  have FIN := Lib.hid (fun (i : Nat) (dq : Array α) (h2 : m ≤ i) (h3 : i ≤ b) (c1 : i < b → 0 ≤ cf d[i]! d[a]!) (c2 : m < i → cf d[i - 1]! d[a]! < 0) (R : Rot d dq a m i) => merge_first hf ham h2 h3 S2 c1 c2 R)
  have ea : a + 1 ≤ m := by omega
  have eb : m ≤ a + 1 := by omega
  have t1 : ((m : Int) - (a : Int) == 1) = true := beq_iff_eq.2 (by omega)
  have HM := Lib.hid ham
  clear hS hcmp hk h1 S2 ham
  go_enter hF, Try.ntmps85
  go_wp2_with fail
  go_loopg [10, 11] (b - m) (fun g1 vi vj wr => ∃ (i j : Nat), vi = .int .i64 i ∧ vj = .int .i64 j ∧ m ≤ i ∧ i ≤ j ∧ j ≤ b ∧ j ≤ g1 + i ∧ Hid (Sit enc k w0 blk off d wr) ∧ Hid ((m < i → cf d[i - 1]! d[a]! < 0) ∧ (j < b → 0 ≤ cf d[j]! d[a]!)))
  case atStart => exact ⟨m, b, rfl, rfl, Nat.le_refl _, by omega, Nat.le_refl _, by omega, HST, Lib.hid ⟨fun h => by omega, fun h => by omega⟩⟩
  case round =>
    obtain ⟨i, j, rfl, rfl, hmi, hij, hjb, hg1, HS, HB⟩ := hrel
    by_cases hlt : i < j
    · have hltz : (i : Int) < (j : Int) := by omega
      obtain ⟨h, hh⟩ : ∃ h, h = (i + j) / 2 := ⟨_, rfl⟩
      have hd : ((i : Int) + (j : Int)) / 2 = (h : Int) := by omega
      have hr1 : i ≤ h := by omega
      have hr2 : h < j := by omega
      clear hh
      have jz : (h : Int) < (d.size : Int) := by omega
      have az : (a : Int) < (d.size : Int) := by omega
      obtain ⟨xh, hxh⟩ : ∃ x, d[h]! = x := ⟨_, rfl⟩
      obtain ⟨xa, hxa⟩ : ∃ x, d[a]! = x := ⟨_, rfl⟩
      have lj : ∀ W, Onward wr W → Sem.run P (loadCellsFrom ⟨blk, off + h * k, none⟩ 0 k #[]) W = .ok (enc xh).toArray W := fun W hW => by
        rw [← hxh]; exact (HS.out.on hW).load HK.out (by omega)
      have lp : ∀ W, Onward wr W → Sem.run P (loadCellsFrom ⟨blk, off + a * k, none⟩ 0 k #[]) W = .ok (enc xa).toArray W := fun W hW => by
        rw [← hxa]; exact (HS.out.on hW).load HK.out (by omega)
      have cg : ∀ W, Onward wr W → Calls P g (#[.agg (enc xh).toArray, .agg (enc xa).toArray] ++ cb) W fun e w' => e = .returned (.int .i64 (cf xh xa)) ∧ Onward wr w' := fun W hW =>
        (HC.out W (HS.out.on hW).kept xh xa).mono fun e w' ⟨he, hb⟩ => ⟨he, keeps_trans hW hb⟩
      go_wp2_with fail
      refine region_keep L.mixed (by kernel_rfl) ?_
      repeat (apply Go.Proofs.Ytbfpljnfalopdaa.L.wpKeep_yes; (focus rfl); (focus (intro W hW; go_simp; first | done | exact ⟨rfl, hW⟩ | rfl)); (focus (go_simp; first | done | rfl)))
      (apply Go.Proofs.Ytbfpljnfalopdaa.L.wpKeep_yes; (focus rfl); (focus (intro W hW; go_simp; first | exact cg W hW | exact ⟨hW, cg W hW⟩)); (focus (go_simp; first | done | rfl)))
      repeat (apply Go.Proofs.Ytbfpljnfalopdaa.L.wpKeep_yes; (focus rfl); (focus (intro W hW; go_simp; first | done | exact ⟨rfl, hW⟩ | rfl)); (focus (go_simp; first | done | rfl)))
      refine wpKeep_nil ?_
      intro W hW
      clear lj lp cg
      have HS2 := Lib.hid (HS.out.on hW)
      clear hW
      by_cases hlv : cf xh xa < 0
      · have HB2 := Lib.hid (show (m < h + 1 → cf d[h + 1 - 1]! d[a]! < 0) ∧ (j < b → 0 ≤ cf d[j]! d[a]!) from ⟨fun _ => by rw [Nat.add_sub_cancel, hxh, hxa]; exact hlv, HB.out.2⟩)
        clear HB hxh hxa
        go_wp2_with fail
        go_roundg (j - (h + 1))
        case measure => omega
        case rel => exact ⟨h + 1, j, by go_num, rfl, by omega, by omega, hjb, by omega, HS2, HB2⟩
      · have HB2 := Lib.hid (show (m < i → cf d[i - 1]! d[a]! < 0) ∧ (h < b → 0 ≤ cf d[h]! d[a]!) from ⟨HB.out.1, fun _ => by rw [hxh, hxa]; omega⟩)
        clear HB hxh hxa
        go_wp2_with fail
        go_roundg (h - i)
        case measure => omega
        case rel => exact ⟨i, h, rfl, rfl, hmi, by omega, by omega, by omega, HS2, HB2⟩
    · obtain rfl : i = j := by omega
      have hltz : ¬ (i : Int) < (i : Int) := by omega
      have FIN2 := Lib.hid (fun (dq : Array α) (R : Rot d dq a m i) => FIN.out i dq hmi hjb HB.out.2 HB.out.1 R)
      clear FIN HB hlt
      go_wp2_with fail
      go_loopg [13] (i - a) (fun g2 vk wr => ∃ (q : Nat) (dq : Array α), vk = .int .i64 q ∧ a ≤ q ∧ q + 1 ≤ i ∧ i ≤ g2 + q ∧ dq.size = d.size ∧ Hid (Sit enc k w0 blk off dq wr) ∧ Hid (Rot d dq a (a + 1) (q + 1)))
      case atStart => exact ⟨a, d, rfl, Nat.le_refl _, by omega, by omega, rfl, HS, Lib.hid (Rot.self d (.inr (Nat.le_refl _)) (by omega) (by omega))⟩
      case round =>
        obtain ⟨q, dq, rfl, haq, hqi, hg2, hsq, HSq, HR⟩ := hrel
        by_cases hlt : q + 1 < i
        · have hltz' : (q : Int) < (i : Int) - 1 := by omega
          obtain ⟨p, hp⟩ : ∃ p, p = q + 1 := ⟨_, rfl⟩
          have hwp : IntKind.i64.wrap ((q : Int) + 1) = (p : Int) := by rw [IntKind.wrap_i64]; omega
          have jp : (p : Int) < (d.size : Int) := by omega
          have jq : (q : Int) < (d.size : Int) := by omega
          obtain ⟨xp, hxp⟩ : ∃ x, dq[p]! = x := ⟨_, rfl⟩
          obtain ⟨xq, hxq⟩ : ∃ x, dq[q]! = x := ⟨_, rfl⟩
          have hSd := HSq.out.on (Onward.drew wr)
          have lp2 : Sem.run P (loadCellsFrom ⟨blk, off + p * k, none⟩ 0 k #[]) wr.drew = .ok (enc xp).toArray wr.drew := by
            rw [← hxp]; exact hSd.load HK.out (by omega)
          have lq2 : Sem.run P (loadCellsFrom ⟨blk, off + q * k, none⟩ 0 k #[]) wr.drew = .ok (enc xq).toArray wr.drew := by
            rw [← hxq]; exact hSd.load HK.out (by omega)
          obtain ⟨s1, s2, s3⟩ := hSd.swap (P := P) HK.out H1.out (i := q) (j := p) (by omega) (by omega)
          rw [hxp, hxq] at s2
          rw [hxp] at s1
          have S3 := Lib.hid s3
          rw [hxp, hxq] at S3
          have hsP : (enc xp).length = k := HK.out _
          have hsQ : (enc xq).length = k := HK.out _
          clear s3 hSd
          obtain ⟨cP, hcP⟩ : ∃ c, c = enc xp := ⟨_, rfl⟩
          obtain ⟨cQ, hcQ⟩ : ∃ c, c = enc xq := ⟨_, rfl⟩
          rw [← hcP] at s1 s2 lp2 hsP S3
          rw [← hcQ] at s2 lq2 hsQ S3
          have HX := Lib.hid (show Rot d (swp dq q p) a (a + 1) (p + 1) by subst hp; exact HR.out.up (by omega) haq)
          have HP := Lib.hid hp
          have hp1 : p ≤ q + 1 := by omega
          have hp2 : q + 1 ≤ p := by omega
          clear hcP hcQ hp hxp hxq HSq HR
          go_wp2_with fail
          go_big_region_o
          all_goals go_wp2
          go_roundg (i - p)
          case measure => omega
          case rel => exact ⟨p, swp dq q p, by first | rfl | (rw [HP.out]; done) | (rw [HP.out]; go_num), by omega, by omega, by omega, by rw [size_swp]; exact hsq, S3, HX⟩
        · have hltz' : ¬ (q : Int) < (i : Int) - 1 := by omega
          have HX := Lib.hid (FIN2.out dq (by have h := HR.out; rw [HM.out, show q + 1 = i by omega] at h; exact h))
          clear HR FIN2
          go_wp2_with fail
          (try simp only [Exit.inBlock, Exit.then])
          refine bodyPost_ret (results_none rfl _ _ _) rfl ?_
          exact ⟨rfl, dq, HX.out, HSq.out⟩

set_option maxHeartbeats 4000000 in
set_option maxRecDepth 1000000 in
theorem sym_last {k : Nat} (L : PK P k) (hF : P.funcs[85]? = some Try.f85) (enc : α → List Value) (hk : ∀ x, (enc x).length = k) (h1 : ∀ x, ∀ v ∈ enc x, v.oneCell' = true)
    (cf : α → α → Int) (hf : Ord.IsCmp cf) (g : Nat) (cb : Array Value) (blk off cap a m b : Nat) (d : Array α) (w0 w : World)
    (eg : ∀ args w, (callFunc g args).run P w = .ok (.enter g args) w) (hcmp : CmpIn P g cb enc cf blk w0) (hS : Sit enc k w0 blk off d w) (ham : a + 1 < m) (hmb : m + 1 = b) (hb : b ≤ d.size) (hsz : d.size < 2305843009213693952) (S1 : Sd cf d a m) :
    Calls P 85 #[.slice (some ⟨blk, off, none⟩) d.size cap, .int .i64 a, .int .i64 m, .int .i64 b, .func (.func g) #[] cb] w fun e w' =>
      e = .returned (.tuple #[]) ∧ ∃ d', Mrg cf d d' a b ∧ Sit enc k w0 blk off d' w' := by
  have mixed := L.mixed; have t3 := L.t3; have a3 := L.a3; have z3 := L.z3; have v3 := L.v3; have t4 := L.t4; have a4 := L.a4; have z4 := L.z4; have v4 := L.v4; have t49 := L.t49; have a49 := L.a49; have z49 := L.z49; have v49 := L.v49; have tu := L.tu; have au := L.au; have zu := L.zu; have aE := L.aE; have zE := L.zE
  have u49 := run_underlying L.t49
  have HST := Lib.hid hS
  have HC := Lib.hid hcmp
  have HK := Lib.hid hk
  have H1 := Lib.hid h1
  have FIN := Lib.hid (fun (i : Nat) (dq : Array α) (h2 : a ≤ i) (h3 : i ≤ m) (c1 : a < i → 0 ≤ cf d[m]! d[i - 1]!) (c2 : i < m → cf d[m]! d[i]! < 0) (R : Rot d dq i m b) => merge_last hf hmb h2 h3 S1 c1 c2 R)
  have ea : m + 1 ≤ b := by omega
  have eb : b ≤ m + 1 := by omega
  have t1 : ((m : Int) - (a : Int) == 1) = false := beq_eq_false_iff_ne.2 (by omega)
  have t2 : ((b : Int) - (m : Int) == 1) = true := beq_iff_eq.2 (by omega)
  have HM := Lib.hid hmb
  clear hS hcmp hk h1 S1 hmb
  go_enter hF, Try.ntmps85
  go_wp2_with fail
  go_loopg [14, 15] (m - a) (fun g1 vi vj wr => ∃ (i j : Nat), vi = .int .i64 i ∧ vj = .int .i64 j ∧ a ≤ i ∧ i ≤ j ∧ j ≤ m ∧ j ≤ g1 + i ∧ Hid (Sit enc k w0 blk off d wr) ∧ Hid ((a < i → 0 ≤ cf d[m]! d[i - 1]!) ∧ (j < m → cf d[m]! d[j]! < 0)))
  case atStart => exact ⟨a, m, rfl, rfl, Nat.le_refl _, by omega, Nat.le_refl _, by omega, HST, Lib.hid ⟨fun h => by omega, fun h => by omega⟩⟩
  case round =>
    obtain ⟨i, j, rfl, rfl, hmi, hij, hjb, hg1, HS, HB⟩ := hrel
    by_cases hlt : i < j
    · have hltz : (i : Int) < (j : Int) := by omega
      obtain ⟨h, hh⟩ : ∃ h, h = (i + j) / 2 := ⟨_, rfl⟩
      have hd : ((i : Int) + (j : Int)) / 2 = (h : Int) := by omega
      have hr1 : i ≤ h := by omega
      have hr2 : h < j := by omega
      clear hh
      have jz : (h : Int) < (d.size : Int) := by omega
      have az : (m : Int) < (d.size : Int) := by omega
      obtain ⟨xh, hxh⟩ : ∃ x, d[h]! = x := ⟨_, rfl⟩
      obtain ⟨xa, hxa⟩ : ∃ x, d[m]! = x := ⟨_, rfl⟩
      have lj : ∀ W, Onward wr W → Sem.run P (loadCellsFrom ⟨blk, off + h * k, none⟩ 0 k #[]) W = .ok (enc xh).toArray W := fun W hW => by
        rw [← hxh]; exact (HS.out.on hW).load HK.out (by omega)
      have lp : ∀ W, Onward wr W → Sem.run P (loadCellsFrom ⟨blk, off + m * k, none⟩ 0 k #[]) W = .ok (enc xa).toArray W := fun W hW => by
        rw [← hxa]; exact (HS.out.on hW).load HK.out (by omega)
      have cg : ∀ W, Onward wr W → Calls P g (#[.agg (enc xa).toArray, .agg (enc xh).toArray] ++ cb) W fun e w' => e = .returned (.int .i64 (cf xa xh)) ∧ Onward wr w' := fun W hW =>
        (HC.out W (HS.out.on hW).kept xa xh).mono fun e w' ⟨he, hb⟩ => ⟨he, keeps_trans hW hb⟩
      go_wp2_with fail
      refine region_keep L.mixed (by kernel_rfl) ?_
      repeat (apply Go.Proofs.Ytbfpljnfalopdaa.L.wpKeep_yes; (focus rfl); (focus (intro W hW; go_simp; first | done | exact ⟨rfl, hW⟩ | rfl)); (focus (go_simp; first | done | rfl)))
      (apply Go.Proofs.Ytbfpljnfalopdaa.L.wpKeep_yes; (focus rfl); (focus (intro W hW; go_simp; first | exact cg W hW | exact ⟨hW, cg W hW⟩)); (focus (go_simp; first | done | rfl)))
      repeat (apply Go.Proofs.Ytbfpljnfalopdaa.L.wpKeep_yes; (focus rfl); (focus (intro W hW; go_simp; first | done | exact ⟨rfl, hW⟩ | rfl)); (focus (go_simp; first | done | rfl)))
      refine wpKeep_nil ?_
      intro W hW
      clear lj lp cg
      have HS2 := Lib.hid (HS.out.on hW)
      clear hW
      by_cases hlv : cf xa xh < 0
      · rw [show (!decide (cf xa xh < 0)) = false by rw [decide_eq_true hlv]; rfl]
        have HB2 := Lib.hid (show (a < i → 0 ≤ cf d[m]! d[i - 1]!) ∧ (h < m → cf d[m]! d[h]! < 0) from ⟨HB.out.1, fun _ => by rw [hxh, hxa]; exact hlv⟩)
        clear HB hxh hxa
        go_wp2_with fail
        go_roundg (h - i)
        case measure => omega
        case rel => exact ⟨i, h, rfl, rfl, hmi, by omega, by omega, by omega, HS2, HB2⟩
      · rw [show (!decide (cf xa xh < 0)) = true by rw [decide_eq_false hlv]; rfl]
        have HB2 := Lib.hid (show (a < h + 1 → 0 ≤ cf d[m]! d[h + 1 - 1]!) ∧ (j < m → cf d[m]! d[j]! < 0) from ⟨fun _ => by rw [Nat.add_sub_cancel, hxh, hxa]; omega, HB.out.2⟩)
        clear HB hxh hxa
        go_wp2_with fail
        go_roundg (j - (h + 1))
        case measure => omega
        case rel => exact ⟨h + 1, j, by go_num, rfl, by omega, by omega, hjb, by omega, HS2, HB2⟩
    · obtain rfl : i = j := by omega
      have hltz : ¬ (i : Int) < (i : Int) := by omega
      have FIN2 := Lib.hid (fun (dq : Array α) (R : Rot d dq i m b) => FIN.out i dq hmi hjb HB.out.1 HB.out.2 R)
      clear FIN HB hlt
      go_wp2_with fail
      go_loopg [17] (m - i) (fun g2 vk wr => ∃ (q : Nat) (dq : Array α), vk = .int .i64 q ∧ i ≤ q ∧ q ≤ m ∧ q ≤ g2 + i ∧ dq.size = d.size ∧ Hid (Sit enc k w0 blk off dq wr) ∧ Hid (Rot d dq q m (m + 1)))
      case atStart => exact ⟨m, d, rfl, hjb, Nat.le_refl _, by omega, rfl, HS, Lib.hid (Rot.self d (.inl (Nat.le_refl _)) (by omega) (by omega))⟩
      case round =>
        obtain ⟨q, dq, rfl, haq, hqi, hg2, hsq, HSq, HR⟩ := hrel
        by_cases hlt : i < q
        · have hltz' : (i : Int) < (q : Int) := by omega
          obtain ⟨p, hp⟩ : ∃ p, p = q - 1 := ⟨_, rfl⟩
          have hwp : IntKind.i64.wrap ((q : Int) - 1) = (p : Int) := by rw [IntKind.wrap_i64]; omega
          have jp : (p : Int) < (d.size : Int) := by omega
          have jq : (q : Int) < (d.size : Int) := by omega
          obtain ⟨xp, hxp⟩ : ∃ x, dq[p]! = x := ⟨_, rfl⟩
          obtain ⟨xq, hxq⟩ : ∃ x, dq[q]! = x := ⟨_, rfl⟩
          have hSd := HSq.out.on (Onward.drew wr)
          have lp2 : Sem.run P (loadCellsFrom ⟨blk, off + p * k, none⟩ 0 k #[]) wr.drew = .ok (enc xp).toArray wr.drew := by
            rw [← hxp]; exact hSd.load HK.out (by omega)
          have lq2 : Sem.run P (loadCellsFrom ⟨blk, off + q * k, none⟩ 0 k #[]) wr.drew = .ok (enc xq).toArray wr.drew := by
            rw [← hxq]; exact hSd.load HK.out (by omega)
          obtain ⟨s1, s2, s3⟩ := hSd.swap (P := P) HK.out H1.out (i := q) (j := p) (by omega) (by omega)
          rw [hxp, hxq] at s2
          rw [hxp] at s1
          have S3 := Lib.hid s3
          rw [hxp, hxq] at S3
          have hsP : (enc xp).length = k := HK.out _
          have hsQ : (enc xq).length = k := HK.out _
          clear s3 hSd
          obtain ⟨cP, hcP⟩ : ∃ c, c = enc xp := ⟨_, rfl⟩
          obtain ⟨cQ, hcQ⟩ : ∃ c, c = enc xq := ⟨_, rfl⟩
          rw [← hcP] at s1 s2 lp2 hsP S3
          rw [← hcQ] at s2 lq2 hsQ S3
          have HP := Lib.hid (show q = p + 1 by omega)
          have HX := Lib.hid (show Rot d (swp dq q p) p m (m + 1) by have h := HR.out; rw [HP.out] at h ⊢; exact h.down (by omega) (by omega))
          have hp1 : p + 1 ≤ q := by omega
          have hp2 : q ≤ p + 1 := by omega
          clear hcP hcQ hp hxp hxq HSq HR
          go_wp2_with fail
          go_big_region_o
          all_goals go_wp2
          go_roundg (p - i)
          case measure => omega
          case rel => exact ⟨p, swp dq q p, by first | rfl | (rw [HP.out]; done) | (rw [HP.out]; go_num), by omega, by omega, by omega, by rw [size_swp]; exact hsq, S3, HX⟩
        · have hltz' : ¬ (i : Int) < (q : Int) := by omega
          have HX := Lib.hid (FIN2.out dq (by have h := HR.out; rw [HM.out, show q = i by omega] at h; exact h))
          clear HR FIN2
          go_wp2_with fail
          (try simp only [Exit.inBlock, Exit.then])
          refine bodyPost_ret (results_none rfl _ _ _) rfl ?_
          exact ⟨rfl, dq, HX.out, HSq.out⟩
end Go.Proofs.Ytbfpljnfalopdaa.Srt
/-
  The symmetric merge, whole: by induction on the length.
-/
set_option linter.unusedVariables false
set_option linter.unusedSimpArgs false
namespace Go.Proofs.Ytbfpljnfalopdaa.Srt
open Go Go.RowKit Go.Sort Go.Proofs.Ytbfpljnfalopdaa.L Go.Proofs.Ytbfpljnfalopdaa.CfgW
variable {P : Program} {α : Type} [Inhabited α]

/-- The call of the merge does what it should. -/
def SymDoes (P : Program) (enc : α → List Value) (k : Nat) (cf : α → α → Int) (g : Nat) (cb : Array Value) (blk off cap n : Nat) (w0 : World) (N : Nat) : Prop :=
  ∀ (a m b : Nat) (d : Array α) (w : World), d.size = n → b ≤ a + N → Sit enc k w0 blk off d w → a < m → m < b → b ≤ n → Sd cf d a m → Sd cf d m b →
    Calls P 85 #[.slice (some ⟨blk, off, none⟩) n cap, .int .i64 a, .int .i64 m, .int .i64 b, .func (.func g) #[] cb] w fun e w' =>
      e = .returned (.tuple #[]) ∧ ∃ d', Mrg cf d d' a b ∧ Sit enc k w0 blk off d' w'
/-- So does that of the rotation. -/
def RotDoes (P : Program) (α : Type) [Inhabited α] (enc : α → List Value) (k : Nat) (g : Nat) (cb : Array Value) (blk off cap n : Nat) (w0 : World) : Prop :=
  ∀ (a m b : Nat) (d : Array α) (w : World), d.size = n → Sit enc k w0 blk off d w → a < m → m < b → b ≤ n →
    Calls P 95 #[.slice (some ⟨blk, off, none⟩) n cap, .int .i64 a, .int .i64 m, .int .i64 b, .func (.func g) #[] cb] w fun e w' =>
      e = .returned (.tuple #[]) ∧ ∃ d', Rot d d' a m b ∧ Sit enc k w0 blk off d' w'

set_option maxHeartbeats 8000000 in
set_option maxRecDepth 1000000 in
theorem sym_mid {k : Nat} (L : PK P k) (hF : P.funcs[85]? = some Try.f85) (enc : α → List Value) (hk : ∀ x, (enc x).length = k)
    (cf : α → α → Int) (hf : Ord.IsCmp cf) (g : Nat) (cb : Array Value) (blk off cap n N a m b : Nat) (d : Array α) (w0 w : World)
    (eg : ∀ args w, (callFunc g args).run P w = .ok (.enter g args) w) (e85 : ∀ args w, (callFunc 85 args).run P w = .ok (.enter 85 args) w) (e95 : ∀ args w, (callFunc 95 args).run P w = .ok (.enter 95 args) w)
    (hcmp : CmpIn P g cb enc cf blk w0) (ih : SymDoes P enc k cf g cb blk off cap n w0 N) (hrot : RotDoes P α enc k g cb blk off cap n w0) (hsn : d.size = n) (hN : b ≤ a + N + 1) (hS : Sit enc k w0 blk off d w) (ham : a + 1 < m) (hmb : m + 1 < b) (hb : b ≤ n) (hsz : n < 2305843009213693952) (S1 : Sd cf d a m) (S2 : Sd cf d m b) :
    Calls P 85 #[.slice (some ⟨blk, off, none⟩) n cap, .int .i64 a, .int .i64 m, .int .i64 b, .func (.func g) #[] cb] w fun e w' =>
      e = .returned (.tuple #[]) ∧ ∃ d', Mrg cf d d' a b ∧ Sit enc k w0 blk off d' w' := by
  have mixed := L.mixed; have t3 := L.t3; have a3 := L.a3; have z3 := L.z3; have v3 := L.v3; have t4 := L.t4; have a4 := L.a4; have z4 := L.z4; have v4 := L.v4; have t49 := L.t49; have a49 := L.a49; have z49 := L.z49; have v49 := L.v49; have tu := L.tu; have au := L.au; have zu := L.zu; have aE := L.aE; have zE := L.zE
  have run49 := run_underlying L.t49
  have HST := Lib.hid hS
  have HC := Lib.hid hcmp
  have HK := Lib.hid hk
  have IH := Lib.hid ih
  have RO := Lib.hid hrot
  have SS := Lib.hid (And.intro S1 S2)
  have HSN := Lib.hid hsn
  have t1 : ((m : Int) - (a : Int) == 1) = false := beq_eq_false_iff_ne.2 (by omega)
  have t2 : ((b : Int) - (m : Int) == 1) = false := beq_eq_false_iff_ne.2 (by omega)
  obtain ⟨mid, hmid⟩ : ∃ mid, mid = (a + b) / 2 := ⟨_, rfl⟩
  have hd0 : ((a : Int) + (b : Int)) / 2 = (mid : Int) := by omega
  have hm1 : a < mid := by omega
  have hm2 : mid < b := by omega
  have hm3 : mid + mid ≤ a + b := by omega
  have hm4 : a + b ≤ mid + mid + 1 := by omega
  clear hS hcmp hk S1 S2 hmid ih hrot hsn
  obtain ⟨s0, r0, hs0, hs1, hs2, hs3, hs4, hs5⟩ : ∃ s0 r0, (mid < m ∧ s0 + b = mid + m ∧ r0 = mid ∨ m ≤ mid ∧ s0 = a ∧ r0 = m) ∧ a ≤ s0 ∧ s0 ≤ r0 ∧ r0 ≤ m ∧ r0 ≤ mid ∧ mid + m ≤ s0 + b := by
    by_cases h : mid < m
    · exact ⟨mid + m - b, mid, .inl ⟨h, by omega, rfl⟩, by omega, by omega, by omega, by omega, by omega⟩
    · exact ⟨a, m, .inr ⟨by omega, rfl, rfl⟩, by omega, by omega, by omega, by omega, by omega⟩
  have HB0 := Lib.hid hs0
  go_enter hF, Try.ntmps85
  go_upto_if 140 with fail
  go_cut [20, 21] (fun v u wx => wx = w ∧ v = .int .i64 s0 ∧ u = .int .i64 r0)
  case first =>
    as_aux_lemma =>
      rcases hs0 with ⟨c1, c2, c3⟩ | ⟨c1, c2, c3⟩
      · have hs0i : (mid : Int) + (m : Int) - (b : Int) = (s0 : Int) := by omega
        have tc : (mid : Int) < (m : Int) := by omega
        have C3 := Lib.hid c3
        clear c2 c3
        go_wp2_with fail
        go_meet
        exact ⟨rfl, rfl, by rw [C3.out]⟩
      · have tc : ¬ (mid : Int) < (m : Int) := by omega
        have C3 := Lib.hid (And.intro c2 c3)
        clear c2 c3
        go_wp2_with fail
        go_meet
        exact ⟨rfl, by rw [C3.out.1], by rw [C3.out.2]⟩
  case rest =>
    as_aux_lemma =>
      obtain ⟨rfl, rfl, rfl⟩ := hcut
      clear hs0
      go_wp2_with fail
      go_loopg [20, 21] n (fun g1 vi vj wr => ∃ (s r : Nat), vi = .int .i64 s ∧ vj = .int .i64 r ∧ s0 ≤ s ∧ s ≤ r ∧ r ≤ r0 ∧ r ≤ g1 + s ∧ Hid (Sit enc k w0 blk off d wr) ∧ Hid ((s0 < s → 0 ≤ cf d[mid + m - s]! d[s - 1]!) ∧ (r < r0 → cf d[mid + m - 1 - r]! d[r]! < 0)))
      case atStart => exact ⟨s0, r0, rfl, rfl, Nat.le_refl _, hs2, Nat.le_refl _, by omega, HST, Lib.hid ⟨fun h => by omega, fun h => by omega⟩⟩
      case round =>
        obtain ⟨s, r, rfl, rfl, hmi, hij, hjb, hg1, HS, HB⟩ := hrel
        by_cases hlt : s < r
        · have hltz : (s : Int) < (r : Int) := by omega
          obtain ⟨h, hh⟩ : ∃ h, h = (s + r) / 2 := ⟨_, rfl⟩
          have hd : ((s : Int) + (r : Int)) / 2 = (h : Int) := by omega
          have hr1 : s ≤ h := by omega
          have hr2 : h < r := by omega
          clear hh
          obtain ⟨q, hq⟩ : ∃ q, q + h + 1 = mid + m := ⟨mid + m - 1 - h, by omega⟩
          have hwq : IntKind.i64.wrap ((mid : Int) + (m : Int) - 1 - (h : Int)) = (q : Int) := by rw [IntKind.wrap_i64]; omega
          have HSN' := HSN.out
          have jz : (h : Int) < (n : Int) := by omega
          have qz : (q : Int) < (n : Int) := by omega
          obtain ⟨xh, hxh⟩ : ∃ x, d[h]! = x := ⟨_, rfl⟩
          obtain ⟨xq, hxq⟩ : ∃ x, d[q]! = x := ⟨_, rfl⟩
          have lj : ∀ W, Onward wr W → Sem.run P (loadCellsFrom ⟨blk, off + h * k, none⟩ 0 k #[]) W = .ok (enc xh).toArray W := fun W hW => by
            rw [← hxh]; exact (HS.out.on hW).load HK.out (by omega)
          have lp : ∀ W, Onward wr W → Sem.run P (loadCellsFrom ⟨blk, off + q * k, none⟩ 0 k #[]) W = .ok (enc xq).toArray W := fun W hW => by
            rw [← hxq]; exact (HS.out.on hW).load HK.out (by omega)
          have cg : ∀ W, Onward wr W → Calls P g (#[.agg (enc xq).toArray, .agg (enc xh).toArray] ++ cb) W fun e w' => e = .returned (.int .i64 (cf xq xh)) ∧ Onward wr w' := fun W hW =>
            (HC.out W (HS.out.on hW).kept xq xh).mono fun e w' ⟨he, hb⟩ => ⟨he, keeps_trans hW hb⟩
          have HQ := Lib.hid (And.intro hq (And.intro hxh hxq))
          clear HSN' hxh hxq hq
          go_wp2_with fail
          refine region_keep L.mixed (by kernel_rfl) ?_
          repeat (apply Go.Proofs.Ytbfpljnfalopdaa.L.wpKeep_yes; (focus rfl); (focus (intro W hW; go_simp; first | done | exact ⟨rfl, hW⟩ | rfl)); (focus (go_simp; first | done | rfl)))
          (apply Go.Proofs.Ytbfpljnfalopdaa.L.wpKeep_yes; (focus rfl); (focus (intro W hW; go_simp; first | exact cg W hW | exact ⟨hW, cg W hW⟩)); (focus (go_simp; first | done | rfl)))
          repeat (apply Go.Proofs.Ytbfpljnfalopdaa.L.wpKeep_yes; (focus rfl); (focus (intro W hW; go_simp; first | done | exact ⟨rfl, hW⟩ | rfl)); (focus (go_simp; first | done | rfl)))
          refine wpKeep_nil ?_
          intro W hW
          clear lj lp cg
          have HS2 := Lib.hid (HS.out.on hW)
          clear hW
          by_cases hlv : cf xq xh < 0
          · have HB2 := Lib.hid (show (s0 < s → 0 ≤ cf d[mid + m - s]! d[s - 1]!) ∧ (h < r0 → cf d[mid + m - 1 - h]! d[h]! < 0) from ⟨HB.out.1, fun _ => by rw [show mid + m - 1 - h = q by have := HQ.out.1; omega, HQ.out.2.1, HQ.out.2.2]; exact hlv⟩)
            rw [show (!decide (cf xq xh < 0)) = false by rw [decide_eq_true hlv]; rfl]
            clear HB HQ
            go_wp2_with fail
            go_roundg (h - s)
            case measure => omega
            case rel => exact ⟨s, h, rfl, rfl, hmi, by omega, by omega, by omega, HS2, HB2⟩
          · have HB2 := Lib.hid (show (s0 < h + 1 → 0 ≤ cf d[mid + m - (h + 1)]! d[h + 1 - 1]!) ∧ (r < r0 → cf d[mid + m - 1 - r]! d[r]! < 0) from ⟨fun _ => by rw [show mid + m - (h + 1) = q by have := HQ.out.1; omega, Nat.add_sub_cancel, HQ.out.2.1, HQ.out.2.2]; omega, HB.out.2⟩)
            rw [show (!decide (cf xq xh < 0)) = true by rw [decide_eq_false hlv]; rfl]
            clear HB HQ
            go_wp2_with fail
            go_roundg (r - (h + 1))
            case measure => omega
            case rel => exact ⟨h + 1, r, by go_num, rfl, by omega, by omega, hjb, by omega, HS2, HB2⟩
        · obtain rfl : s = r := by omega
          have hltz : ¬ (s : Int) < (s : Int) := by omega
          obtain ⟨e, he⟩ : ∃ e, e + s = mid + m := ⟨mid + m - s, by omega⟩
          have hei : (mid : Int) + (m : Int) - (s : Int) = (e : Int) := by omega
          have HSN' := HSN.out
          have q1 : a ≤ s := by omega
          have q2 : s ≤ m := by omega
          have q3 : s ≤ mid := by omega
          have q4 : m ≤ e := by omega
          have q5 : mid ≤ e := by omega
          have q6 : e ≤ b := by omega
          have HE := Lib.hid (show mid = s + (e - m) by omega)
          have HCC := Lib.hid (show (a < s → e < b → 0 ≤ cf d[e]! d[s - 1]!) ∧ (s < m → m < e → cf d[e - 1]! d[s]! < 0) from by
            have hb0 := HB0.out
            have e1 : mid + m - s = e := by omega
            have e2 : mid + m - 1 - s = e - 1 := by omega
            have h1 := HB.out.1
            have h2 := HB.out.2
            rw [e1] at h1
            rw [e2] at h2
            exact ⟨fun x y => h1 (by omega), fun x y => h2 (by omega)⟩)
          clear HSN' HB HB0 hlt he
          have HSQ := HS
          clear HS
          obtain ⟨B185, hB185⟩ : ∃ b, b = decide (s < m ∧ m < e) := ⟨_, rfl⟩
          have HB185 := Lib.hid hB185
          clear hB185
          go_upto_region 39 with fail
          go_cut [20, 185] (fun v b wx => v = .int .i64 s ∧ b = .bool B185 ∧ Sit enc k w0 blk off d wx)
          case first =>
            as_aux_lemma =>
              by_cases l1 : (s : Int) < (m : Int)
              · by_cases l2 : (m : Int) < (e : Int)
                · go_wp2_with fail
                  go_meet
                  exact ⟨rfl, by rw [HB185.out, decide_eq_true (show s < m ∧ m < e by omega)], HSQ.out⟩
                · go_wp2_with fail
                  go_meet
                  exact ⟨rfl, by rw [HB185.out, decide_eq_false (show ¬ (s < m ∧ m < e) by omega)], HSQ.out⟩
              · go_wp2_with fail
                go_meet
                exact ⟨rfl, by rw [HB185.out, decide_eq_false (show ¬ (s < m ∧ m < e) by omega)], HSQ.out⟩
          case rest =>
            as_aux_lemma =>
              obtain ⟨rfl, rfl, hs⟩ := hcut
              have HS := Lib.hid hs
              clear hs HSQ
              go_upto_if 185 with fail
              go_cut [20] (fun v wx => v = .int .i64 s ∧ ∃ d1, Rot d d1 s m e ∧ Sit enc k w0 blk off d1 wx)
              case first =>
                as_aux_lemma =>
                  cases hq : B185
                  · have hA := of_decide_eq_false (HB185.out.symm.trans hq)
                    clear hq
                    go_wp2_with fail
                    go_meet
                    exact ⟨rfl, d, Rot.self d (by omega) q2 q4, HS.out⟩
                  · have hA := of_decide_eq_true (HB185.out.symm.trans hq)
                    clear hq
                    go_wp2_with fail
                    refine (RO.out s m e d _ HSN.out HS.out hA.1 hA.2 (by omega)).mono ?_
                    rintro e' w1 ⟨rfl, d1, hr, hs⟩
                    have HR := Lib.hid (And.intro hr hs)
                    clear hr hs HS hA
                    go_wp2_with fail
                    go_meet
                    exact ⟨rfl, d1, HR.out⟩
              case rest =>
                as_aux_lemma =>
                  obtain ⟨rfl, d1, hr, hs⟩ := hcut
                  have SR := Lib.hid (rot_sd q1 q2 q4 q6 HE.out SS.out.1 SS.out.2 hr)
                  have HSZ := Lib.hid (hr.size.trans HSN.out)
                  have HR := Lib.hid hr
                  have HSQ := Lib.hid hs
                  clear hr hs HS HB185
                  obtain ⟨B199, hB199⟩ : ∃ b, b = decide (a < s ∧ s < mid) := ⟨_, rfl⟩
                  have HB199 := Lib.hid hB199
                  clear hB199
                  go_upto_region 41 with fail
                  go_cut [20, 199] (fun v b wx => v = .int .i64 s ∧ b = .bool B199 ∧ Sit enc k w0 blk off d1 wx)
                  case first =>
                    as_aux_lemma =>
                      by_cases l1 : (a : Int) < (s : Int)
                      · by_cases l2 : (s : Int) < (mid : Int)
                        · go_wp2_with fail
                          go_meet
                          exact ⟨rfl, by rw [HB199.out, decide_eq_true (show a < s ∧ s < mid by omega)], HSQ.out⟩
                        · go_wp2_with fail
                          go_meet
                          exact ⟨rfl, by rw [HB199.out, decide_eq_false (show ¬ (a < s ∧ s < mid) by omega)], HSQ.out⟩
                      · go_wp2_with fail
                        go_meet
                        exact ⟨rfl, by rw [HB199.out, decide_eq_false (show ¬ (a < s ∧ s < mid) by omega)], HSQ.out⟩
                  case rest =>
                    as_aux_lemma =>
                      obtain ⟨rfl, rfl, hs⟩ := hcut
                      have HS1 := Lib.hid hs
                      clear hs HSQ
                      go_upto_if 199 with fail
                      go_cut [20] (fun v wx => v = .int .i64 s ∧ ∃ d2, Mrg cf d1 d2 a mid ∧ Sit enc k w0 blk off d2 wx)
                      case first =>
                        as_aux_lemma =>
                          cases hq : B199
                          · have hA := of_decide_eq_false (HB199.out.symm.trans hq)
                            clear hq
                            have HSD := Lib.hid (show Sd cf d1 a mid by
                              rcases Nat.eq_or_lt_of_le q1 with x | x
                              · rw [x]; exact SR.out.2.1
                              · rw [show mid = s by omega]; exact SR.out.1)
                            clear hA
                            go_wp2_with fail
                            go_meet
                            exact ⟨rfl, d1, Mrg.same HSD.out, HS1.out⟩
                          · have hA := of_decide_eq_true (HB199.out.symm.trans hq)
                            clear hq
                            go_wp2_with fail
                            refine (IH.out a s mid d1 _ HSZ.out (by omega) HS1.out hA.1 hA.2 (by omega) SR.out.1 SR.out.2.1).mono ?_
                            rintro e' w1 ⟨rfl, d2, hr, hs⟩
                            have HR2 := Lib.hid (And.intro hr hs)
                            clear hr hs HS1 hA
                            go_wp2_with fail
                            go_meet
                            exact ⟨rfl, d2, HR2.out⟩
                      case rest =>
                        as_aux_lemma =>
                          obtain ⟨rfl, d2, hr, hs⟩ := hcut
                          have SM := Lib.hid (And.intro (hr.sd (.inr (Nat.le_refl _)) SR.out.2.2.1) (hr.sd (.inr q5) SR.out.2.2.2))
                          have HSZ2 := Lib.hid (hr.size.trans HSZ.out)
                          have HM1 := Lib.hid hr
                          have HS2 := Lib.hid hs
                          clear hr hs HS1 HB199
                          by_cases hA : mid < e ∧ e < b
                          · have l1 : (mid : Int) < (e : Int) := by omega
                            have l2 : (e : Int) < (b : Int) := by omega
                            go_wp2_with fail
                            refine (IH.out mid e b d2 _ HSZ2.out (by omega) HS2.out hA.1 hA.2 hb SM.out.1 SM.out.2).mono ?_
                            rintro e' w1 ⟨rfl, d3, hr, hs⟩
                            have HR3 := Lib.hid (And.intro hr hs)
                            clear hr hs HS2
                            go_wp2_with fail
                            go_end0
                            exact ⟨rfl, d3, merge_step hf q1 q2 q4 q6 HE.out SS.out.1 SS.out.2 HCC.out.1 HCC.out.2 HR.out HM1.out HR3.out.1, HR3.out.2⟩
                          · have HSD := Lib.hid (show Sd cf d2 mid b by
                              rcases Nat.eq_or_lt_of_le q5 with x | x
                              · rw [x]; exact SM.out.2
                              · rw [show b = e by omega]; exact SM.out.1)
                            by_cases l1 : (mid : Int) < (e : Int)
                            · have l2 : ¬ (e : Int) < (b : Int) := by omega
                              go_wp2_with fail
                              go_end0
                              exact ⟨rfl, d2, merge_step hf q1 q2 q4 q6 HE.out SS.out.1 SS.out.2 HCC.out.1 HCC.out.2 HR.out HM1.out (Mrg.same HSD.out), HS2.out⟩
                            · go_wp2_with fail
                              go_end0
                              exact ⟨rfl, d2, merge_step hf q1 q2 q4 q6 HE.out SS.out.1 SS.out.2 HCC.out.1 HCC.out.2 HR.out HM1.out (Mrg.same HSD.out), HS2.out⟩
end Go.Proofs.Ytbfpljnfalopdaa.Srt
/-
  The stable sort of a row of elements of k cells, over any program that bears the functions: whatever its length, the insertion sort's row.
-/
set_option linter.unusedVariables false
set_option linter.unusedSimpArgs false
namespace Go.Proofs.Ytbfpljnfalopdaa.Srt
open Go Go.RowKit Go.Sort Go.Proofs.Ytbfpljnfalopdaa.L Go.Proofs.Ytbfpljnfalopdaa.CfgW
variable {P : Program} {α : Type} [Inhabited α]

/-- What is asked of the program's functions. -/
structure FK (P : Program) : Prop where
  f98 : P.funcs[98]? = some Try.f98
  f95 : P.funcs[95]? = some Try.f95
  f85 : P.funcs[85]? = some Try.f85
  f84 : P.funcs[84]? = some Try.f84
  f72 : P.funcs[72]? = some Try.f72
  e98 : ∀ args w, (callFunc 98 args).run P w = .ok (.enter 98 args) w
  e95 : ∀ args w, (callFunc 95 args).run P w = .ok (.enter 95 args) w
  e85 : ∀ args w, (callFunc 85 args).run P w = .ok (.enter 85 args) w
  e84 : ∀ args w, (callFunc 84 args).run P w = .ok (.enter 84 args) w

theorem sym_any {k : Nat} (L : PK P k) (F : FK P) (enc : α → List Value) (hk : ∀ x, (enc x).length = k) (h1 : ∀ x, ∀ v ∈ enc x, v.oneCell' = true)
    (cf : α → α → Int) (hf : Ord.IsCmp cf) (g : Nat) (cb : Array Value) (blk off cap n : Nat) (w0 : World)
    (eg : ∀ args w, (callFunc g args).run P w = .ok (.enter g args) w) (hcmp : CmpIn P g cb enc cf blk w0) (hsz : n < 2305843009213693952) :
    ∀ N, SymDoes P enc k cf g cb blk off cap n w0 N
  | 0 => fun a m b d w _ hN _ ham hmb _ _ _ => by omega
  | N + 1 => fun a m b d w hsn hN hS ham hmb hb S1 S2 => by
    by_cases c1 : a + 1 = m
    · subst hsn
      exact sym_first L F.f85 enc hk h1 cf hf g cb blk off cap a m b d w0 w eg hcmp hS c1 hmb hb hsz S2
    · by_cases c2 : m + 1 = b
      · subst hsn
        exact sym_last L F.f85 enc hk h1 cf hf g cb blk off cap a m b d w0 w eg hcmp hS (by omega) c2 hb hsz S1
      · exact sym_mid L F.f85 enc hk cf hf g cb blk off cap n N a m b d w0 w eg F.e85 F.e95 hcmp (sym_any L F enc hk h1 cf hf g cb blk off cap n w0 eg hcmp hsz N)
          (fun a m b d w hs hS ham hmb hb => by subst hs; exact rotate_any L F.f95 F.f98 enc hk h1 g cb blk off cap a m b d w0 w F.e98 hS ham hmb hb (by omega)) hsn (by omega) hS (by omega) (by omega) hb hsz S1 S2

theorem ins_from {k : Nat} (L : PK P k) (F : FK P) (enc : α → List Value) (hk : ∀ x, (enc x).length = k) (h1 : ∀ x, ∀ v ∈ enc x, v.oneCell' = true)
    (cf : α → α → Int) (hf : Ord.IsCmp cf) (g : Nat) (cb : Array Value) (blk off cap n : Nat) (w0 : World)
    (eg : ∀ args w, (callFunc g args).run P w = .ok (.enter g args) w) (hcmp : CmpIn P g cb enc cf blk w0) (hsz : n < 2305843009213693952)
    (a b : Nat) (dk : Array α) (w : World) (hs : dk.size = n) (hS : Sit enc k w0 blk off dk w) (hab : a ≤ b) (hb : b ≤ n) :
    Calls P 84 #[.slice (some ⟨blk, off, none⟩) n cap, .int .i64 a, .int .i64 b, .func (.func g) #[] cb] w fun e w' =>
      e = .returned (.tuple #[]) ∧ Mrg cf dk (Sort.insertionSort (ltOf cf) dk a b) a b ∧ Sit enc k w0 blk off (Sort.insertionSort (ltOf cf) dk a b) w' := by
  subst hs
  exact (ins_any L F.f84 enc hk h1 cf g cb blk off cap a b dk w eg (hcmp.on hS.kept) hS.holds hS.lt hab hb (by omega)).mono (fun e w' h => ⟨h.1, ins_mrg hf dk hab hb, hS.trans h.2⟩)

set_option maxHeartbeats 8000000 in
set_option maxRecDepth 1000000 in
theorem stablecmp_any {k : Nat} (L : PK P k) (F : FK P) (enc : α → List Value) (hk : ∀ x, (enc x).length = k) (h1 : ∀ x, ∀ v ∈ enc x, v.oneCell' = true)
    (cf : α → α → Int) (hf : Ord.IsCmp cf) (g : Nat) (cb : Array Value) (blk off cap n : Nat) (d : Array α) (w0 : World)
    (eg : ∀ args w, (callFunc g args).run P w = .ok (.enter g args) w) (hcmp : CmpIn P g cb enc cf blk w0) (hS : Sit enc k w0 blk off d w0) (hsn : d.size = n) (hsz : n < 1152921504606846976) :
    Calls P 72 #[.slice (some ⟨blk, off, none⟩) n cap, .int .i64 n, .func (.func g) #[] cb] w0 fun e w' =>
      e = .returned (.tuple #[]) ∧ Sit enc k w0 blk off (Sort.insertionSort (ltOf cf) d 0 d.size) w' := by
  have mixed := L.mixed; have t3 := L.t3; have a3 := L.a3; have z3 := L.z3; have v3 := L.v3; have t4 := L.t4; have a4 := L.a4; have z4 := L.z4; have v4 := L.v4; have t49 := L.t49; have a49 := L.a49; have z49 := L.z49; have v49 := L.v49; have tu := L.tu; have au := L.au; have zu := L.zu; have aE := L.aE; have zE := L.zE
  have e85 := F.e85; have e84 := F.e84
  have run49 := run_underlying L.t49
  have SY := Lib.hid (fun N => sym_any L F enc hk h1 cf hf g cb blk off cap n w0 eg hcmp (by omega) N)
  have INS := Lib.hid (fun (a b : Nat) (dk : Array α) (w : World) (hs : dk.size = n) (hS : Sit enc k w0 blk off dk w) (hab : a ≤ b) (hb : b ≤ n) => ins_from L F enc hk h1 cf hf g cb blk off cap n w0 eg hcmp (by omega) a b dk w hs hS hab hb)
  have HST := Lib.hid hS
  have HSN := Lib.hid hsn
  clear hcmp hS hsn hk h1
  go_enter F.f72, Try.ntmps72
  go_wp2_with fail
  go_loopg [7, 8] n (fun g1 vi vj wr => ∃ (a : Nat) (dk : Array α), vi = .int .i64 a ∧ vj = .int .i64 ((a + 20 : Nat) : Int) ∧ a ≤ n ∧ n ≤ g1 + a ∧ Hid (Lot0 cf d dk 20 n a) ∧ Hid (Sit enc k w0 blk off dk wr))
  case atStart => exact ⟨0, d, by go_num, by go_num, by omega, by omega, Lib.hid (Lot0.start d 20 n), HST⟩
  case round =>
    obtain ⟨a, dk, rfl, rfl, han, hg1, HL, HS⟩ := hrel
    by_cases hlt : a + 20 ≤ n
    · have hltz : (a : Int) + 20 ≤ (n : Int) := by omega
      go_wp2_with fail
      rw [show (a : Int) + 20 = ((a + 20 : Nat) : Int) by omega]
      refine (INS.out a (a + 20) dk _ (HL.out.size.trans HSN.out) HS.out (by omega) hlt).mono ?_
      rintro e w1 ⟨rfl, hm, hs⟩
      have HL2 := Lib.hid (HL.out.step hm hlt)
      have HS2 := Lib.hid hs
      clear hm hs HL HS
      go_wp2_with fail
      go_roundg (n - (a + 20))
      case measure => omega
      case rel => exact ⟨a + 20, _, by go_num, by go_num, hlt, by omega, HL2, HS2⟩
    · have hltz : ¬ (a : Int) + 20 ≤ (n : Int) := by omega
      go_wp2_with fail
      refine (INS.out a n dk _ (HL.out.size.trans HSN.out) HS.out han (Nat.le_refl _)).mono ?_
      rintro e w1 ⟨rfl, hm, hs⟩
      have HL2 := Lib.hid (HL.out.done hm han (by omega))
      have HS2 := Lib.hid hs
      generalize Sort.insertionSort (ltOf cf) dk a n = d1 at *
      clear hm hs HL HS
      go_wp2_with fail
      go_loopg [6] n (fun g2 vb wr => ∃ (bs q : Nat) (dk : Array α), vb = .int .i64 bs ∧ 0 < bs ∧ bs < n + n + 21 ∧ n ≤ g2 + bs ∧ Hid (Lot cf d dk bs n 0 q) ∧ Hid (Sit enc k w0 blk off dk wr))
      case atStart => exact ⟨20, a, d1, by go_num, by omega, by omega, by omega, HL2, HS2⟩
      case round =>
        clear HL2 HS2
        obtain ⟨bs, q, dk, rfl, hb0, hbn, hg2, HL, HS⟩ := hrel
        by_cases hlt2 : bs < n
        · have hltz2 : (bs : Int) < (n : Int) := by omega
          go_wp2_with fail
          go_loopg [7, 8] n (fun g3 vi vj wr => ∃ (a : Nat) (dk : Array α), vi = .int .i64 a ∧ vj = .int .i64 ((a + (bs + bs) : Nat) : Int) ∧ a ≤ n ∧ n ≤ g3 + a ∧ Hid (Lot cf d dk bs n a q) ∧ Hid (Sit enc k w0 blk off dk wr))
          case atStart => exact ⟨0, dk, by go_num, congrArg (Value.int .i64) (by omega), by omega, by omega, HL, HS⟩
          case round =>
            clear HL HS
            obtain ⟨a, dk, rfl, rfl, han, hg3, HL, HS⟩ := hrel
            by_cases hlt3 : a + (bs + bs) ≤ n
            · have hltz3 : (a : Int) + ((bs : Int) + (bs : Int)) ≤ (n : Int) := by omega
              go_wp2_with fail
              rw [show (a : Int) + ((bs : Int) + (bs : Int)) = ((a + (bs + bs) : Nat) : Int) by omega, show (a : Int) + (bs : Int) = ((a + bs : Nat) : Int) by omega]
              refine (SY.out (bs + bs) a (a + bs) (a + (bs + bs)) dk _ (HL.out.size.trans HSN.out) (by omega) HS.out (by omega) (by omega) hlt3 (HL.out.two hb0 hlt3).1 (HL.out.two hb0 hlt3).2).mono ?_
              rintro e w1 ⟨rfl, d2, hm, hs⟩
              have HL2 := Lib.hid (HL.out.step hb0 hlt3 hm)
              have HS2 := Lib.hid hs
              clear hm hs HL HS
              go_wp2_with fail
              go_roundg (n - (a + (bs + bs)))
              case measure => omega
              case rel => exact ⟨a + (bs + bs), d2, by go_num, congrArg (Value.int .i64) (by omega), hlt3, by omega, HL2, HS2⟩
            · have hltz3 : ¬ (a : Int) + ((bs : Int) + (bs : Int)) ≤ (n : Int) := by omega
              by_cases hm : a + bs < n
              · have hmz : (a : Int) + (bs : Int) < (n : Int) := by omega
                go_wp2_with fail
                rw [show (a : Int) + (bs : Int) = ((a + bs : Nat) : Int) by omega]
                refine (SY.out n a (a + bs) n dk _ (HL.out.size.trans HSN.out) (by omega) HS.out (by omega) hm (Nat.le_refl _) (HL.out.last hb0 (by omega) hm).1 (HL.out.last hb0 (by omega) hm).2).mono ?_
                rintro e w1 ⟨rfl, d2, hm', hs⟩
                have HL2 := Lib.hid (HL.out.next han (by omega) hm')
                have HS2 := Lib.hid hs
                clear hm' hs HL HS
                go_wp2_with fail
                go_roundg (n - (bs + bs))
                case measure => omega
                case rel => exact ⟨bs + bs, a, d2, congrArg (Value.int .i64) (by omega), by omega, by omega, by omega, HL2, HS2⟩
              · have hmz : ¬ (a : Int) + (bs : Int) < (n : Int) := by omega
                have HL2 := Lib.hid (HL.out.next han (by omega) (Mrg.same (HL.out.one hb0 (by omega))))
                clear HL
                go_wp2_with fail
                go_roundg (n - (bs + bs))
                case measure => omega
                case rel => exact ⟨bs + bs, a, dk, congrArg (Value.int .i64) (by omega), by omega, by omega, by omega, HL2, HS⟩
        · have hltz2 : ¬ (bs : Int) < (n : Int) := by omega
          have HR := Lib.hid (show dk = Sort.insertionSort (ltOf cf) d 0 d.size by
            have hl := HL.out
            rw [← HSN.out] at hl
            exact hl.whole hf hb0 (by have := HSN.out; omega))
          clear HL
          go_wp2_with fail
          go_end0
          exact ⟨rfl, by rw [← HR.out]; exact HS.out⟩
end Go.Proofs.Ytbfpljnfalopdaa.Srt
