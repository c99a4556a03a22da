/-
  Slices and structs that are handed in, opened: rows of elements of several cells. Over any program.
-/
import Derived.Test.YtbfpljnfalopdaaLib
import Derived.OpenShut
import Derived.ChangeShapes
import Derived.WideShapes
import Derived.Deep.Slices
import Derived.Below
set_option linter.unusedVariables false
set_option linter.unusedSimpArgs false
namespace Go.Proofs.Ytbfpljnfalopdaa.L
open Go Go.RowKit Go.WideShapes

/-- From address A on lie the elements xs, each of sz cells. -/
def RowOf {α : Type} (w : World) (A : Option Addr) (sz : Nat) (dec : α → List Value) (xs : List α) : Prop :=
  xs ≠ [] → ∃ b o, A = some ⟨b, o, none⟩ ∧ b < w.heap.size ∧ ∀ i x, xs[i]? = some x → ∀ j v, (dec x)[j]? = some v → w.cell? ⟨b, o + i * sz + j, none⟩ = some v

theorem RowOf.below {α : Type} {w w' : World} {A : Option Addr} {sz : Nat} {dec : α → List Value} {xs : List α} (h : RowOf w A sz dec xs) (hb : Below w.heap.size w w') : RowOf w' A sz dec xs := fun hn => by
  obtain ⟨b, o, e, hlt, hc⟩ := h hn
  exact ⟨b, o, e, Nat.lt_of_lt_of_le hlt hb.size, fun i x hx j v hv => (hb.cell (p := ⟨b, o + i * sz + j, none⟩) hlt).trans (hc i x hx j v hv)⟩

section
variable {H : Type} {enc : TypeId × Value → H} {P : Program} {w : World} {base : Nat} {spare : Nat → Bool} {held : Bool}

theorem mem_of_get {α : Type} {l : List α} {i : Nat} {x : α} (h : l[i]? = some x) : x ∈ l := List.mem_of_getElem? h

/-- A slice, opened: each element by its own law. -/
theorem open_row {α : Type} {t e : TypeId} {fuel : Nat} {cs : List Value} {x : DataW H × List MemPlace} {sz : Nat} (dec : α → List Value) (Q : α → DataW H → Prop) (ht : P.underlying t = some (.slice e)) (hsz : P.cellsOf e = sz) (hpos : 0 < sz)
    (hel : ∀ n cs y, DataW.trod enc P w base spare held n e cs = some y → ∃ x, cs = dec x ∧ Q x y.1) (h : DataW.trod enc P w base spare held fuel t cs = some x) :
    ∃ A cap, ∃ xs : List α, cs = [.slice A xs.length cap] ∧ xs.length ≤ cap ∧ cap ≤ maxLen ∧ RowOf w A sz dec xs ∧ (xs = [] ∨ ∃ elems spare, x.1 = .slice elems spare ∧ elems.length = xs.length ∧ ∀ y ∈ xs, ∃ d ∈ elems, Q y d) := by
  rcases Go.Deep.open_slice ht h with ⟨rfl, _⟩ | ⟨a, len, cap, m, n, D, Pl, rfl, hb, hl, hm, hmm, rfl, hx⟩
  · exact ⟨none, 0, [], rfl, Nat.le_refl _, Nat.zero_le _, fun h => absurd rfl h, .inl rfl⟩
  · have hlm : len ≤ m := by rw [hmm]; split <;> omega
    have each : ∀ i, i < len → ∃ x : α, w.cells? base (a.add (i * sz)) sz = some (dec x) ∧ Q x (D i) := fun i hi => by
      obtain ⟨cs', h1, h2⟩ := hx i (by omega)
      rw [hsz] at h1
      obtain ⟨x, rfl, hq⟩ := hel _ _ _ h2
      exact ⟨x, h1, hq⟩
    have build : ∀ k, k ≤ len → ∃ xs : List α, xs.length = k ∧ (∀ i x, xs[i]? = some x → w.cells? base (a.add (i * sz)) sz = some (dec x) ∧ Q x (D i)) := by
      intro k
      induction k with
      | zero => exact fun _ => ⟨[], rfl, fun i x h => by simp at h⟩
      | succ k ih =>
        intro hk
        obtain ⟨xs, hlen, hxs⟩ := ih (by omega)
        obtain ⟨x, hx1, hx2⟩ := each k (by omega)
        refine ⟨xs ++ [x], by simp [hlen], fun i y hy => ?_⟩
        rcases Nat.lt_or_ge i k with hi | hi
        · rw [List.getElem?_append_left (by omega)] at hy; exact hxs i y hy
        · have : i = k := by
            rcases Nat.lt_or_ge i (k + 1) with h1 | h1
            · omega
            · rw [List.getElem?_eq_none (by simp [hlen]; omega)] at hy; cases hy
          subst this
          rw [List.getElem?_append_right (by omega), hlen, Nat.sub_self] at hy
          cases hy
          exact ⟨hx1, hx2⟩
    obtain ⟨xs, hlen, hxs⟩ := build len (Nat.le_refl _)
    subst hlen
    refine ⟨some a, cap, xs, rfl, hl, hm, fun hne => ?_, .inr ⟨_, _, rfl, by simp, fun x hx => ?_⟩⟩
    · have hl0 : 0 < xs.length := List.length_pos_iff.2 hne
      obtain ⟨hb0, hlen0, hcell0⟩ := World.cells?_some (hxs 0 xs[0] (List.getElem?_eq_getElem hl0)).1
      rw [Nat.zero_mul] at hcell0
      obtain ⟨b, o, spot⟩ := a
      have h0 := hcell0 0 hpos
      have hadd0 : (({ block := b, off := o, spot := spot } : Addr).add 0).add 0 = ⟨b, o, spot⟩ := rfl
      rw [hadd0] at h0
      have hpos' : 0 < (dec xs[0]).length := by omega
      obtain ⟨v0, hv0⟩ : ∃ v, (dec xs[0])[0]? = some v := ⟨(dec xs[0])[0]'hpos', List.getElem?_eq_getElem hpos'⟩
      rw [hv0] at h0
      have hspot : spot = none := by
        unfold World.cell? at h0
        split at h0
        · split at h0
          · cases h0
          · rename_i hs; simpa using hs
        · cases h0
      subst hspot
      refine ⟨b, o, rfl, ?_, fun i x hx j v hv => ?_⟩
      · have := h0
        rcases Nat.lt_or_ge b w.heap.size with hlt | hge
        · exact hlt
        · unfold World.cell? at this
          rw [Array.getElem?_eq_none hge] at this
          simp at this
      · obtain ⟨_, hlen, hcell⟩ := World.cells?_some (hxs i x hx).1
        have hj : j < sz := by
          rcases Nat.lt_or_ge j (dec x).length with h1 | h1
          · omega
          · rw [List.getElem?_eq_none h1] at hv; cases hv
        have := hcell j hj
        have e : ((⟨b, o, none⟩ : Addr).add (i * sz)).add j = ⟨b, o + i * sz + j, none⟩ := by
          unfold Addr.add
          split <;> split <;> simp_all
        rw [e] at this
        rw [this, hv]
    · obtain ⟨i, hi⟩ := List.getElem?_of_mem hx
      have hil : i < xs.length := by
        rcases Nat.lt_or_ge i xs.length with h1 | h1
        · exact h1
        · rw [List.getElem?_eq_none h1] at hi; cases hi
      exact ⟨D i, List.mem_map.2 ⟨i, by simpa using hil, rfl⟩, (hxs i x hi).2⟩

/-! ### the reach -/
theorem sized_at {ts : List TypeId} {ds : List (DataW H)} (h : (DataW.weightsEach P ts ds).all (· ≤ reachBytes) = true) : ∀ {j : Nat} {t : TypeId} {d : DataW H}, ts[j]? = some t → ds[j]? = some d → ∀ n ∈ d.weights P t, n ≤ reachBytes := by
  induction ts generalizing ds with
  | nil => intro j t d h1; simp at h1
  | cons t0 ts ih =>
    intro j t d h1 h2 n hn
    cases ds with
    | nil => simp at h2
    | cons d0 ds =>
      rw [DataW.weightsEach, List.all_append, Bool.and_eq_true] at h
      cases j with
      | zero =>
        simp at h1 h2
        subst h1 h2
        have := List.all_eq_true.1 h.1 n hn
        simpa using this
      | succ j => exact ih h.2 (j := j) (by simpa using h1) (by simpa using h2) n hn
theorem weights_all {e : TypeId} : ∀ (l : List (DataW H)) (d : DataW H), d ∈ l → ∀ n ∈ d.weights P e, n ∈ DataW.weightsAll P e l
  | [], _, h, _, _ => by cases h
  | x :: l, d, h, n, hn => by
    rw [DataW.weightsAll, List.mem_append]
    rcases List.mem_cons.1 h with rfl | h
    · exact .inl hn
    · exact .inr (weights_all l d h n hn)
theorem weights_elem {t e : TypeId} {elems spare : List (DataW H)} (hu : P.underlying t = some (.slice e)) {d : DataW H} (hd : d ∈ elems) {n : Nat} (hn : n ∈ d.weights P e) : n ∈ (DataW.slice elems spare).weights P t := by
  unfold DataW.weights
  rw [hu]
  simp only [List.mem_cons, List.mem_append]
  exact .inr (.inl (weights_all elems d hd n hn))
theorem weights_len {t e : TypeId} {elems spare : List (DataW H)} (hu : P.underlying t = some (.slice e)) : (elems.length + spare.length) * P.bytesOf e ∈ (DataW.slice elems spare).weights P t := by
  unfold DataW.weights
  rw [hu]
  simp
end

end Go.Proofs.Ytbfpljnfalopdaa.L
