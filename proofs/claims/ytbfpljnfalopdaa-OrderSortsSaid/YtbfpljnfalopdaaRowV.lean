/-
  Rows of values of one cell that the program owns: append of one element. Over any program.
-/
import Derived.Test.YtbfpljnfalopdaaBytes
import Derived.Test.YtbfpljnfalopdaaHeap
import Derived.Maps.AppendAt
set_option linter.unusedVariables false
set_option linter.unusedSimpArgs false
namespace Go.Proofs.Ytbfpljnfalopdaa.L
open Go Go.RowKit

/-- The slice v holds the values xs, in a row of its own from block B on. -/
def RowV (w : World) (B : Nat) (E : TypeId) (v : Value) (xs : List Value) : Prop := w.ownsRow B E 1 v xs.length xs

theorem RowV.nil (w : World) (B : Nat) (E : TypeId) : RowV w B E (.slice none 0 0) [] := World.ownsRow_nil w B E 1
theorem RowV.lt {w : World} {B : Nat} {E : TypeId} {v : Value} {xs : List Value} (h : RowV w B E v xs) : ∀ k, v.ownBlock = some k → B ≤ k ∧ k < w.heap.size := by
  intro k hk
  rcases h.2 with ⟨rfl, _⟩ | ⟨g, cap, cur, rfl, hb, hh, _⟩
  · cases hk
  · cases hk
    refine ⟨hb, ?_⟩
    rcases Nat.lt_or_ge g w.heap.size with h1 | h1
    · exact h1
    · rw [Array.getElem?_eq_none h1] at hh; cases hh
theorem RowV.low {w : World} {B B' : Nat} {E : TypeId} {v : Value} {xs : List Value} (h : RowV w B E v xs) (hB : B' ≤ B) : RowV w B' E v xs := by
  refine ⟨h.1, ?_⟩
  rcases h.2 with h1 | ⟨g, cap, cur, e, hb, r⟩
  · exact .inl h1
  · exact .inr ⟨g, cap, cur, e, by omega, r⟩
theorem RowV.kept {w w' : World} {B : Nat} {E : TypeId} {v : Value} {xs : List Value} (h : RowV w B E v xs) (hk : ∀ k, v.ownBlock = some k → w'.heap[k]? = w.heap[k]?) : RowV w' B E v xs := by
  refine ⟨h.1, ?_⟩
  rcases h.2 with h1 | ⟨g, cap, cur, rfl, hb, hh, r⟩
  · exact .inl h1
  · exact .inr ⟨g, cap, cur, rfl, hb, (hk g rfl).trans hh, r⟩
theorem RowV.below {w w' : World} {B : Nat} {E : TypeId} {v : Value} {xs : List Value} (h : RowV w B E v xs) (hb : Below w.heap.size w w') : RowV w' B E v xs := h.kept fun k hk => hb.block k (h.lt k hk).2
theorem RowV.form {w : World} {B : Nat} {E : TypeId} {v : Value} {xs : List Value} (h : RowV w B E v xs) : ∃ a c, v = .slice a xs.length c ∧ (xs ≠ [] → ∃ g, a = some ⟨g, 0, none⟩ ∧ g < w.heap.size ∧ ∀ i x, xs[i]? = some x → w.cell? ⟨g, i, none⟩ = some x) := by
  rcases h.2 with ⟨rfl, hx⟩ | ⟨g, cap, cur, rfl, hb, hh, hc⟩
  · exact ⟨none, 0, by rw [hx], fun hne => absurd (List.eq_nil_of_length_eq_zero hx) hne⟩
  · refine ⟨_, _, rfl, fun _ => ⟨g, rfl, (h.lt g rfl).2, fun i x hx => ?_⟩⟩
    have := h.cells (g := g) rfl i x hx
    rwa [addr_add] at this

section
variable {P : Program}
theorem append_one {w : World} {B : Nat} {v : Value} {xs : List Value} (t ty E : TypeId) (i : TypeInfo) (z : Value) (bytes : Nat) (ht : P.underlying t = some (.slice E)) (hi : P.info? E = some i) (hz : i.zero = some z) (hsz : i.size = 1) (hby : i.bytes = bytes) (hzs : z.cells.size = 1)
    (h : RowV w B E v xs) (hB : B ≤ w.heap.size) (x : Value) (h1 : x.oneCell' = true) (hlen : (xs.length + 1) * bytes ≤ 140737488355328) (hlen2 : xs.length + 1 ≤ 140737488355328) :
    ∃ v' w', (Builtin.append_ #[t, t] ty #[v, .slice (some ⟨w.heap.size, 0, none⟩) 1 1]).run P (w.alloc (.cells #[x] E)) = .ok v' w' ∧ RowV w' B E v' (xs ++ [x]) ∧ (w.alloc (.cells #[x] E)).grownBy w' v.ownBlock ∧ (∀ k, v'.ownBlock = some k → v.ownBlock = some k ∨ w.heap.size ≤ k) := by
  have hW : RowV (w.alloc (.cells #[x] E)) B E v xs := h.below ((Below.refl _ _).alloc (Nat.le_refl _) _)
  obtain ⟨v', w', hr, ho, hg, _, hat⟩ := run_append_own_at (P := P) (w.alloc (.cells #[x] E)) B t ty E i z 1 bytes ht hi hz hsz hby hzs (by omega) v xs.length xs hW ⟨w.heap.size, 0, none⟩ 1 1 [x] rfl
    (fun j u hu => by
      cases j with
      | zero =>
        simp at hu; subst hu
        show (w.alloc (.cells #[x] E)).cell? ⟨w.heap.size, 0, none⟩ = _
        rw [World.cell?_alloc_mark]; rfl
      | succ j => simp at hu)
    (fun u hu => by simp at hu; subst hu; exact h1) (by unfold maxLen; omega) hlen (by simp; omega)
  refine ⟨v', w', hr, ?_, hg, fun k hk => ?_⟩
  · unfold RowV; rw [List.length_append]; exact ho
  · rcases hat with e | e
    · exact .inl (e ▸ hk)
    · rw [e] at hk
      right
      have : (w.alloc (.cells #[x] E)).heap.size = k := by injection hk
      simp at this; omega
end
end Go.Proofs.Ytbfpljnfalopdaa.L
