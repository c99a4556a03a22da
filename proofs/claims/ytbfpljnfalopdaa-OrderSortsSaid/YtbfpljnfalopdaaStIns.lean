/-
  The document's sort: each element put behind all that are no more than it. It is the insertion sort.
-/
import Derived.Test.YtbfpljnfalopdaaSrtN
set_option linter.unusedVariables false
set_option linter.unusedSimpArgs false
namespace Go.Proofs.Ytbfpljnfalopdaa.Srt
open Go Go.Sort
variable {α : Type} [Inhabited α] {f : α → α → Int}

/-- Down from k while x comes ahead of the one below. -/
def downTo (f : α → α → Int) (x : α) (l : List α) : Nat → Nat
  | 0 => 0
  | k + 1 => if f x (l.getD k default) < 0 then downTo f x l k else k + 1
def putIn (f : α → α → Int) (l : List α) (x : α) : List α := l.take (downTo f x l l.length) ++ ([x] ++ l.drop (downTo f x l l.length))
def putAll (f : α → α → Int) (xs : List α) : List α := xs.foldl (putIn f) []
theorem downTo_le (x : α) (l : List α) : ∀ k, downTo f x l k ≤ k
  | 0 => Nat.le_refl _
  | k + 1 => by
    unfold downTo
    split
    · exact Nat.le_succ_of_le (downTo_le x l k)
    · exact Nat.le_refl _
theorem downTo_spec (x : α) (l : List α) : ∀ k, (∀ i, downTo f x l k ≤ i → i < k → f x (l.getD i default) < 0) ∧ (0 < downTo f x l k → 0 ≤ f x (l.getD (downTo f x l k - 1) default))
  | 0 => ⟨fun i _ h => by omega, fun h => by simp [downTo] at h⟩
  | k + 1 => by
    have ih := downTo_spec x l k
    unfold downTo
    split
    · rename_i h
      refine ⟨fun i h1 h2 => ?_, ih.2⟩
      by_cases e : i = k
      · rw [e]; exact h
      · exact ih.1 i h1 (by omega)
    · rename_i h
      refine ⟨fun i h1 h2 => by omega, fun _ => by rw [Nat.add_sub_cancel]; omega⟩
theorem putIn_len (l : List α) (x : α) : (putIn f l x).length = l.length + 1 := by
  have := downTo_le (f := f) x l l.length
  simp [putIn]
  omega
theorem getD_at (l : List α) {i : Nat} (h : i < l.length) : l.getD i default = l[i] := by simp [h]
theorem putIn_sorted (hf : Ord.IsCmp f) (l : List α) (x : α) (h : l.Pairwise (fun x y => f x y ≤ 0)) : (putIn f l x).Pairwise (fun x y => f x y ≤ 0) ∧ StEq f (l ++ [x]) (putIn f l x) := by
  have hs := downTo_spec (f := f) x l l.length
  have hl := downTo_le (f := f) x l l.length
  refine put_sorted hf (List.take_append_drop _ l).symm h (fun y hy => ?_) (fun y hy => ?_)
  · have hpos : 0 < downTo f x l l.length := by
      rcases Nat.eq_zero_or_pos (downTo f x l l.length) with e | e
      · rw [e] at hy; simp at hy
      · exact e
    have h2 := hs.2 hpos
    rw [getD_at l (by omega)] at h2
    rw [List.getLast?_eq_getElem?, List.length_take, Nat.min_eq_left hl] at hy
    rw [List.getElem?_take, if_pos (by omega), List.getElem?_eq_getElem (by omega)] at hy
    have : l[downTo f x l l.length - 1] = y := by simpa using hy
    rw [← this]; exact h2
  · obtain ⟨i, hi, e⟩ := List.getElem_of_mem hy
    rw [List.getElem_drop] at e
    have h1 := hs.1 (downTo f x l l.length + i) (by omega) (by simp at hi; omega)
    rw [getD_at l (by simp at hi; omega), e] at h1
    exact h1
theorem fold_sorted (hf : Ord.IsCmp f) : ∀ (xs l : List α), l.Pairwise (fun x y => f x y ≤ 0) → (xs.foldl (putIn f) l).Pairwise (fun x y => f x y ≤ 0) ∧ StEq f (l ++ xs) (xs.foldl (putIn f) l)
  | [], l, h => ⟨h, by rw [List.append_nil]; exact StEq.refl _⟩
  | x :: xs, l, h => by
    have p := putIn_sorted hf l x h
    have ih := fold_sorted hf xs (putIn f l x) p.1
    refine ⟨ih.1, ?_⟩
    have : l ++ x :: xs = (l ++ [x]) ++ xs := by simp
    rw [this]
    exact (p.2.append (StEq.refl xs)).trans ih.2
/-- One sort is the other. -/
theorem putAll_sort (hf : Ord.IsCmp f) (xs : List α) : putAll f xs = (Sort.insertionSort (ltOf f) xs.toArray 0 xs.length).toList := by
  have M := ins_mrg hf xs.toArray (Nat.zero_le xs.length) (by simp)
  have F := fold_sorted hf xs [] List.Pairwise.nil
  have hs := M.size
  have e2 : (Sort.insertionSort (ltOf f) xs.toArray 0 xs.length).size = xs.length := by rw [hs]; simp
  refine st_unique hf F.1 (Sd.pairwise _ (by rw [e2]; exact M.sorted)) ?_
  have st := M.st
  rw [Nat.sub_zero] at st
  have a1 : sg xs.toArray 0 xs.length = xs := by have := sg_all xs.toArray; simpa using this
  have a2 : sg (Sort.insertionSort (ltOf f) xs.toArray 0 xs.length) 0 xs.length = (Sort.insertionSort (ltOf f) xs.toArray 0 xs.length).toList := by
    have := sg_all (Sort.insertionSort (ltOf f) xs.toArray 0 xs.length)
    rwa [e2] at this
  rw [a1, a2] at st
  have f2 := F.2
  rw [List.nil_append] at f2
  exact f2.symm.trans st
theorem putAll_len (xs : List α) : (putAll f xs).length = xs.length := by
  have : ∀ (xs l : List α), (xs.foldl (putIn f) l).length = l.length + xs.length := by
    intro xs
    induction xs with
    | nil => intro l; simp
    | cons x xs ih => intro l; rw [List.foldl_cons, ih, putIn_len, List.length_cons]; omega
  simpa [putAll] using this xs []
theorem putAll_succ (xs : List α) {k : Nat} (hk : k < xs.length) : putAll f (xs.take (k + 1)) = putIn f (putAll f (xs.take k)) xs[k] := by
  unfold putAll
  rw [List.take_succ_eq_append_getElem hk, List.foldl_append]
  rfl
end Go.Proofs.Ytbfpljnfalopdaa.Srt
