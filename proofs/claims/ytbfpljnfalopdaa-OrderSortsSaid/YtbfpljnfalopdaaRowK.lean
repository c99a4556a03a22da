/-
  Rows of elements of k cells: those of the call's own, those that are read, appended to, cut. Over any program.
-/
import Derived.Test.YtbfpljnfalopdaaOpen
import Derived.Test.YtbfpljnfalopdaaHeap
import Derived.Test.YtbfpljnfalopdaaBytes
import Derived.Maps.AppendAt
import Derived.Laws.OwnMore
set_option linter.unusedVariables false
set_option linter.unusedSimpArgs false
namespace Go.Proofs.Ytbfpljnfalopdaa.L
open Go Go.RowKit
variable {α : Type} {w w' : World} {B k : Nat} {E : TypeId} {v : Value} {dec : α → List Value} {xs ys : List α}

/-- A type's elements: k cells each. -/
structure Elem (dec : α → List Value) (k : Nat) : Prop where
  len : ∀ x, (dec x).length = k
  one : ∀ x, ∀ u ∈ dec x, u.oneCell' = true

theorem flat_length (hd : ∀ x, (dec x).length = k) : ∀ xs : List α, (xs.flatMap dec).length = xs.length * k
  | [] => by simp
  | x :: xs => by rw [List.flatMap_cons, List.length_append, hd, flat_length hd xs, List.length_cons, Nat.add_mul, Nat.one_mul, Nat.add_comm]
theorem flat_get (hd : ∀ x, (dec x).length = k) : ∀ (xs : List α) (i : Nat) (x : α) (j : Nat), xs[i]? = some x → j < k → (xs.flatMap dec)[i * k + j]? = (dec x)[j]?
  | [], _, _, _, h, _ => by simp at h
  | y :: ys, 0, x, j, h, hj => by
    simp at h
    subst h
    rw [List.flatMap_cons, Nat.zero_mul, Nat.zero_add, List.getElem?_append_left (by rw [hd]; exact hj)]
  | y :: ys, i + 1, x, j, h, hj => by
    rw [List.flatMap_cons, List.getElem?_append_right (by rw [hd, Nat.add_mul]; omega), hd, show (i + 1) * k + j - k = i * k + j by rw [Nat.add_mul]; omega]
    exact flat_get hd ys i x j (by simpa using h) hj
theorem flat_split (hk : 0 < k) (hd : ∀ x, (dec x).length = k) (xs : List α) {n : Nat} {u : Value} (h : (xs.flatMap dec)[n]? = some u) : ∃ x, xs[n / k]? = some x ∧ (dec x)[n % k]? = some u := by
  have hn : n < xs.length * k := by rw [← flat_length hd]; exact (List.getElem?_eq_some_iff.1 h).1
  have hq : n / k < xs.length := (Nat.div_lt_iff_lt_mul hk).2 hn
  have e := flat_get hd xs (n / k) _ (n % k) (List.getElem?_eq_getElem hq) (Nat.mod_lt _ hk)
  rw [show n / k * k + n % k = n by rw [Nat.mul_comm]; exact Nat.div_add_mod n k] at e
  exact ⟨_, List.getElem?_eq_getElem hq, by rw [← e]; exact h⟩
theorem flat_one (he : Elem dec k) : ∀ u ∈ xs.flatMap dec, u.oneCell' = true := fun u hu => by
  obtain ⟨x, _, hx⟩ := List.mem_flatMap.1 hu
  exact he.one x u hx

/-- A row of the call's own: nil, or from the head of a block from B on. -/
def RowK (w : World) (B : Nat) (E : TypeId) (k : Nat) (dec : α → List Value) (v : Value) (xs : List α) : Prop := w.ownsRow B E k v xs.length (xs.flatMap dec)
/-- A row that is read: its cells are known. -/
def SlK (w : World) (k : Nat) (dec : α → List Value) (v : Value) (xs : List α) : Prop := ∃ A cap, v = .slice A xs.length cap ∧ RowOf w A k dec xs

theorem RowK.nil (w : World) (B : Nat) (E : TypeId) (k : Nat) (dec : α → List Value) : RowK w B E k dec (.slice none 0 0) [] := World.ownsRow_nil w B E k
theorem RowK.lt (h : RowK w B E k dec v xs) : ∀ b, v.ownBlock = some b → B ≤ b ∧ b < w.heap.size := World.ownsRow.lt h
theorem RowK.kept (h : RowK w B E k dec v xs) (hk : ∀ b, v.ownBlock = some b → w'.heap[b]? = w.heap[b]?) : RowK w' B E k dec v xs := by
  obtain ⟨h1, h2⟩ := h
  refine ⟨h1, ?_⟩
  rcases h2 with h2 | ⟨g, cap, cur, rfl, hg, hc, hr⟩
  · exact .inl h2
  · exact .inr ⟨g, cap, cur, rfl, hg, by rw [hk g rfl]; exact hc, hr⟩
theorem RowK.below (h : RowK w B E k dec v xs) (hb : Below w.heap.size w w') : RowK w' B E k dec v xs := h.kept fun b hk => hb.block b (h.lt b hk).2
theorem RowK.low {B' : Nat} (h : RowK w B E k dec v xs) (hB : B' ≤ B) : RowK w B' E k dec v xs := by
  obtain ⟨h1, h2⟩ := h
  refine ⟨h1, ?_⟩
  rcases h2 with h2 | ⟨g, cap, cur, rfl, hg, hr⟩
  · exact .inl h2
  · exact .inr ⟨g, cap, cur, rfl, Nat.le_trans hB hg, hr⟩
theorem RowK.form (h : RowK w B E k dec v xs) : (v = .slice none 0 0 ∧ xs = []) ∨ ∃ g cap, v = .slice (some ⟨g, 0, none⟩) xs.length cap ∧ B ≤ g ∧ g < w.heap.size ∧ xs.length ≤ cap ∧ cap ≤ maxLen := by
  have hl := h.lt
  rcases h.2 with ⟨rfl, hx⟩ | ⟨g, cap, cur, rfl, hg, hc, hn, hm, _⟩
  · exact .inl ⟨rfl, List.eq_nil_of_length_eq_zero hx⟩
  · exact .inr ⟨g, cap, rfl, hg, (hl g rfl).2, hn, hm⟩
theorem RowK.sl (h : RowK w B E k dec v xs) (hd : ∀ x, (dec x).length = k) : SlK w k dec v xs := by
  rcases h.form with ⟨rfl, rfl⟩ | ⟨g, cap, rfl, hg, hl, hn, hm⟩
  · exact ⟨none, 0, rfl, fun e => absurd rfl e⟩
  · refine ⟨_, cap, rfl, fun _ => ⟨g, 0, rfl, hl, fun i x hx j u hu => ?_⟩⟩
    have hj : j < k := by rw [← hd x]; exact (List.getElem?_eq_some_iff.1 hu).1
    have hi : i < xs.length := (List.getElem?_eq_some_iff.1 hx).1
    have hij : i * k + j < xs.length * k := by
      have := Nat.mul_le_mul_right k (show i + 1 ≤ xs.length from hi)
      rw [Nat.add_mul, Nat.one_mul] at this
      omega
    rw [Nat.zero_add]
    exact (World.ownsRow.cellAt h _ hij).trans ((flat_get hd xs i x j hx hj).trans hu)
theorem SlK.below (h : SlK w k dec v xs) (hb : Below w.heap.size w w') : SlK w' k dec v xs := by
  obtain ⟨A, cap, rfl, hr⟩ := h
  exact ⟨A, cap, rfl, hr.below hb⟩
theorem SlK.nil (w : World) (k : Nat) (dec : α → List Value) (c : Nat) : SlK w k dec (.slice none 0 c) [] := ⟨none, c, rfl, fun e => absurd rfl e⟩
/-- The cells of an element. -/
theorem RowOf.at_ {A : Option Addr} (h : RowOf w A k dec xs) {i : Nat} (hi : i < xs.length) : ∃ b o, A = some ⟨b, o, none⟩ ∧ b < w.heap.size ∧ ∀ w', Below w.heap.size w w' → ∀ j u, (dec xs[i])[j]? = some u → w'.cell? ⟨b, o + i * k + j, none⟩ = some u := by
  obtain ⟨b, o, e, hl, hc⟩ := h (by intro e; subst e; simp at hi)
  exact ⟨b, o, e, hl, fun w' hb j u hu => (hb.cell (p := ⟨b, _, none⟩) hl).trans (hc i _ (List.getElem?_eq_getElem hi) j u hu)⟩
/-- A stretch of a row. -/
theorem RowOf.drop {b o : Nat} (h : RowOf w (some ⟨b, o, none⟩) k dec xs) (n : Nat) : RowOf w (some ⟨b, o + n * k, none⟩) k dec (xs.drop n) := fun hne => by
  obtain ⟨b', o', e, hl, hc⟩ := h (by intro e; subst e; simp at hne)
  cases e
  refine ⟨b, _, rfl, hl, fun i x hx j u hu => ?_⟩
  have := hc (n + i) x (by rw [List.getElem?_drop] at hx; exact hx) j u hu
  rwa [show o + (n + i) * k + j = o + n * k + i * k + j by rw [Nat.add_mul]; omega] at this
theorem RowOf.take {A : Option Addr} (h : RowOf w A k dec xs) (n : Nat) : RowOf w A k dec (xs.take n) := fun hne => by
  obtain ⟨b', o', e, hl, hc⟩ := h (by intro e; subst e; simp at hne)
  subst e
  refine ⟨b', o', rfl, hl, fun i x hx j u hu => ?_⟩
  have hi : i < n := by
    have h1 := (List.getElem?_eq_some_iff.1 hx).1
    simp at h1
    omega
  exact hc i x (by rw [List.getElem?_take, if_pos hi] at hx; exact hx) j u hu

section
variable {P : Program}
theorem appendk_none (t ty : TypeId) (i : TypeInfo) (ht : P.underlying t = some (.slice E)) (hi : P.info? E = some i) (h : RowK w B E k dec v xs) (hsz : i.size = k) (c : Nat) :
    (Builtin.append_ #[t, t] ty #[v, .slice none 0 c]).run P w = .ok v w := by
  rcases h.form with ⟨rfl, rfl⟩ | ⟨g, cap, rfl, _, _, hnc, _⟩
  · simp [Builtin.append_, run_underlying ht, sizeOf, typeInfo, hi, Builtin.lenOf, Builtin.firstCells]
  · simp [Builtin.append_, run_underlying ht, sizeOf, typeInfo, hi, Builtin.lenOf, Builtin.firstCells, hnc, storeCells]
/-- All elements of a row behind those of one of the call's own. -/
theorem appendk (t ty : TypeId) (i : TypeInfo) (z : Value) (bytes : Nat) (ht : P.underlying t = some (.slice E)) (hi : P.info? E = some i) (hz : i.zero = some z) (hsz : i.size = k) (hby : i.bytes = bytes) (hzs : z.cells.size = k) (hk : 0 < k)
    (he : Elem dec k) (h : RowK w B E k dec v xs) {A : Option Addr} {m c : Nat} (hm : ys.length = m) (hr : RowOf w A k dec ys) (hB : B ≤ w.heap.size) (hl : xs.length + m ≤ maxLen) (hlen : (xs.length + m) * bytes ≤ 140737488355328) :
    ∃ v' w', (Builtin.append_ #[t, t] ty #[v, .slice A m c]).run P w = .ok v' w' ∧ RowK w' B E k dec v' (xs ++ ys) ∧ w.grownBy w' v.ownBlock ∧ (v' = .slice none 0 0 ↔ v = .slice none 0 0 ∧ m = 0) ∧ (∀ b, v'.ownBlock = some b → v.ownBlock = some b ∨ w.heap.size ≤ b) := by
  subst hm
  cases A with
  | none =>
    have hn : ys = [] := by
      rcases ys with _ | ⟨y, ys⟩
      · rfl
      · obtain ⟨b, o, e, _⟩ := hr (by simp); cases e
    subst hn
    exact ⟨v, w, appendk_none t ty i ht hi h hsz c, by simpa using h, World.grownBy.refl w _, by simp, fun k hk => .inl hk⟩
  | some a =>
    obtain ⟨v', w', h1, h2, h3, h4, h5⟩ := run_append_own_at (P := P) w B t ty E i z k bytes ht hi hz hsz hby hzs hk v xs.length (xs.flatMap dec) h a ys.length c (ys.flatMap dec) (flat_length he.len ys)
      (fun j u hu => by
        have hne : ys ≠ [] := fun e => by subst e; simp at hu
        obtain ⟨b, o, e, hlt, hc⟩ := hr hne
        injection e with e
        subst e
        obtain ⟨x, hx, hxu⟩ := flat_split hk he.len ys hu
        have := hc _ x hx _ u hxu
        rw [Addr.add_lit]
        rwa [show o + j / k * k + j % k = o + j by rw [Nat.add_assoc, Nat.mul_comm, Nat.div_add_mod]] at this)
      (flat_one he) hl hlen hB
    refine ⟨v', w', h1, ?_, h3, h4, fun b hb => ?_⟩
    · unfold RowK; rw [List.length_append, List.flatMap_append]; exact h2
    · rcases h5 with e | e
      · exact .inl (e ▸ hb)
      · rw [e] at hb
        injection hb with hb
        exact .inr (by omega)
theorem slicek_to (t : TypeId) (i : TypeInfo) (ht : P.underlying t = some (.slice E)) (hi : P.info? E = some i) (hsz : i.size = k) (hd : ∀ x, (dec x).length = k) (h : RowK w B E k dec v xs) {m : Nat} (hm : m ≤ xs.length) :
    ∃ A c, (∀ W, (Instr.slice t v none (some (.int .i64 m)) none).run P W = .ok (.slice A m c) W) ∧ RowOf w A k dec (xs.take m) := by
  obtain ⟨A, cap, e, hr⟩ := h.sl hd
  refine ⟨A, cap, fun W => ?_, hr.take m⟩
  rcases h.form with ⟨e2, rfl⟩ | ⟨g, cap2, e2, _, _, hn, hc⟩
  · rw [e] at e2
    cases e2
    obtain rfl : m = 0 := by simpa using hm
    rw [e]
    simp [Instr.slice, run_underlying ht, Instr.sliceBounds, Instr.sliceBound, asIntOf, sizeOf, typeInfo, hi]
  · rw [e] at e2
    cases e2
    rw [e]
    have e0 : Addr.add ⟨g, 0, none⟩ 0 = ⟨g, 0, none⟩ := by rw [Addr.add_lit]
    simp [Instr.slice, run_underlying ht, Instr.sliceBounds, Instr.sliceBound, asIntOf, sizeOf, typeInfo, hi, Nat.le_trans hm hn, e0]
theorem slicek_from (t : TypeId) (i : TypeInfo) (ht : P.underlying t = some (.slice E)) (hi : P.info? E = some i) (hsz : i.size = k) (hd : ∀ x, (dec x).length = k) (h : RowK w B E k dec v xs) {m : Nat} (hm : m ≤ xs.length) :
    ∃ A c, (∀ W, (Instr.slice t v (some (.int .i64 m)) none none).run P W = .ok (.slice A (xs.length - m) c) W) ∧ RowOf w A k dec (xs.drop m) := by
  obtain ⟨A, cap, e, hr⟩ := h.sl hd
  rcases h.form with ⟨e2, rfl⟩ | ⟨g, cap3, e2, _, _, hn, hc⟩
  · rw [e] at e2
    cases e2
    obtain rfl : m = 0 := by simpa using hm
    refine ⟨none, 0, fun W => ?_, fun hne => absurd rfl hne⟩
    rw [e]
    simp [Instr.slice, run_underlying ht, Instr.sliceBounds, Instr.sliceBound, asIntOf, sizeOf, typeInfo, hi]
  · rw [e] at e2
    cases e2
    by_cases hmc : m = cap
    · refine ⟨some ⟨g, 0, none⟩, cap - m, fun W => ?_, fun hne => absurd (List.drop_eq_nil_of_le (by omega)) hne⟩
      rw [e]
      simp [Instr.slice, run_underlying ht, Instr.sliceBounds, Instr.sliceBound, asIntOf, sizeOf, typeInfo, hi, hm, hmc.symm]
    · refine ⟨some ⟨g, 0 + m * k, none⟩, cap - m, fun W => ?_, hr.drop m⟩
      rw [e]
      simp [Instr.slice, run_underlying ht, Instr.sliceBounds, Instr.sliceBound, asIntOf, sizeOf, typeInfo, hi, hm, Ne.symm hmc, hsz, Addr.add_lit]
/-- The runs of operations that append and that cut. -/
theorem run_append_op {o : Oper} {a : Act} {w w' : World} {s x : Operand} {t tx : TypeId} (ho : o.op = .call { callee := .builtin .append, args := #[s, x], argTypes := #[t, tx] }) {vs vx v' : Value} (hs : a.eval s = vs) (hx : a.eval x = vx)
    (hrun : (Builtin.append_ #[t, tx] o.type #[vs, vx]).run P w = .ok v' w') : (execOp a.eval o).run P w = .ok (.value v') w' := by
  unfold execOp
  simp only [ho, resolve, invoke, builtin, Sem.run_bind, Sem.run_pure, Result.andThen_ok, List.map_toArray, List.map_cons, List.map_nil, hs, hx, hrun]
theorem run_slice_op {o : Oper} {a : Act} {w : World} {s : Operand} {t : TypeId} {lo hi : Option Operand} (ht : P.underlying t = some (.slice E)) (ho : o.op = .slice t s lo hi none) {vs v' : Value} (hs : a.eval s = vs)
    (hrun : (Instr.slice t vs (lo.map a.eval) (hi.map a.eval) none).run P w = .ok v' w) : (execOp a.eval o).run P w = .ok (.value v') w := by
  have hr2 : (Instr.sliceAt t vs (lo.map a.eval) (hi.map a.eval) none).run P w = .ok v' w := by simp [Instr.sliceAt, run_underlying ht, hrun]
  unfold execOp
  simp only [ho, Sem.run_bind, Sem.run_pure, Result.andThen_ok, hs, Option.map_none, hr2]
end
end Go.Proofs.Ytbfpljnfalopdaa.L
