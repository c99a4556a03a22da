/-
  Slices of bytes that a value of the program owns: what they read as, what append, a cut and string(..) make of them. Over any program.
-/
import Derived.Test.YtbfpljnfalopdaaLib
import Derived.Deep.AppendSrc
set_option linter.unusedVariables false
set_option linter.unusedSimpArgs false
namespace Go.Proofs.Ytbfpljnfalopdaa.L
open Go Go.RowKit

/-- The slice value v holds the bytes l: it is nil, or it stands at the head of a block from base on, all of whose places up to the capacity are there and may be written. -/
def OwnB (w : World) (base : Nat) (v : Value) (l : List UInt8) : Prop :=
  (v = .slice none 0 0 ∧ l = []) ∨
  ∃ g cap, v = .slice (some ⟨g, 0, none⟩) l.length cap ∧ base ≤ g ∧ g < w.heap.size ∧ l.length ≤ cap ∧ cap ≤ maxLen ∧
    (∀ j (hj : j < l.length), w.cell? ⟨g, j, none⟩ = some (.int .u8 (l[j].toNat : Int))) ∧
    (∀ j, j < cap → (w.cell? ⟨g, j, none⟩).isSome = true ∧ w.frozen? ⟨g, j, none⟩ = false)

theorem OwnB.nil (w : World) (base : Nat) : OwnB w base (.slice none 0 0) [] := .inl ⟨rfl, rfl⟩

theorem OwnB.lt {w : World} {base : Nat} {v : Value} {l : List UInt8} (h : OwnB w base v l) : ∀ k, v.ownBlock = some k → base ≤ k ∧ k < w.heap.size := by
  rcases h with ⟨rfl, _⟩ | ⟨g, cap, rfl, hb, hg, _⟩
  · intro k hk; cases hk
  · intro k hk
    cases hk
    exact ⟨hb, hg⟩

/-- What it holds stays while its own block is as it was. -/
theorem OwnB.kept {w w' : World} {base : Nat} {v : Value} {l : List UInt8} (h : OwnB w base v l) (hs : w.heap.size ≤ w'.heap.size) (hk : ∀ k, v.ownBlock = some k → w'.heap[k]? = w.heap[k]?) : OwnB w' base v l := by
  rcases h with ⟨rfl, rfl⟩ | ⟨g, cap, rfl, hb, hg, hl, hm, hc, hf⟩
  · exact .inl ⟨rfl, rfl⟩
  · have e := hk g rfl
    refine .inr ⟨g, cap, rfl, hb, by omega, hl, hm, fun j hj => ?_, fun j hj => ?_⟩
    · rw [World.cell?_of_block (w := w) (a := ⟨g, j, none⟩) e]; exact hc j hj
    · rw [World.cell?_of_block (w := w) (a := ⟨g, j, none⟩) e, World.frozen?_of_block (w := w) (a := ⟨g, j, none⟩) e]; exact hf j hj

theorem OwnB.mono {w : World} {base base' : Nat} {v : Value} {l : List UInt8} (h : OwnB w base v l) (hb : base' ≤ base) : OwnB w base' v l := by
  rcases h with h | ⟨g, cap, e, hg, r⟩
  · exact .inl h
  · exact .inr ⟨g, cap, e, by omega, r⟩

/-- The cells as the source of an append. -/
def cellsOf (l : List UInt8) : List Value := l.map fun b => Value.int .u8 (b.toNat : Int)
theorem cellsOf_length (l : List UInt8) : (cellsOf l).length = l.length := by simp [cellsOf]
theorem cellsOf_at {l : List UInt8} {j : Nat} {u : Value} (h : (cellsOf l)[j]? = some u) : ∃ hj : j < l.length, u = .int .u8 (l[j].toNat : Int) := by
  unfold cellsOf at h
  rw [List.getElem?_map] at h
  rcases Nat.lt_or_ge j l.length with hj | hj
  · rw [List.getElem?_eq_getElem hj] at h
    exact ⟨hj, (Option.some.inj h).symm⟩
  · rw [List.getElem?_eq_none hj] at h; cases h
theorem cellsOf_append (a b : List UInt8) : cellsOf (a ++ b) = cellsOf a ++ cellsOf b := by simp [cellsOf]
theorem cellsOf_one (l : List UInt8) : ∀ u ∈ cellsOf l, u.oneCell' = true := fun u hu => by
  obtain ⟨_, _, rfl⟩ := List.mem_map.1 hu
  rfl
theorem addr_add (g j : Nat) : (⟨g, 0, none⟩ : Addr).add j = ⟨g, j, none⟩ := by unfold Addr.add; split <;> simp_all

section
variable {P : Program}

theorem OwnB.src {w : World} {base : Nat} {v : Value} {l : List UInt8} {t e : TypeId} (ht : P.underlying t = some (.slice e)) (h : OwnB w base v l) : Src P 1 t v l.length (cellsOf l) w := by
  rcases h with ⟨rfl, rfl⟩ | ⟨g, cap, rfl, _, _, _, _, hc, _⟩
  · exact Src.ofNil w ht 0
  · refine Src.ofSlice w ht ⟨g, 0, none⟩ l.length cap (cellsOf l) (by rw [cellsOf_length, Nat.mul_one]) (fun j u hu => ?_) (cellsOf_one l)
    obtain ⟨hj, rfl⟩ := cellsOf_at hu
    rw [addr_add]; exact hc j hj

theorem src_string {w : World} {t : TypeId} (ht : P.underlying t = some .string) (s : ByteArray) : Src P 1 t (.string s) s.size (cellsOf s.data.toList) w := Src.ofString w ht s

/-- 'append' onto it: whether there is room or not it then holds both, and no block is written but its own. -/
theorem run_append_bytes {w : World} {base : Nat} {v : Value} {l new : List UInt8} {x : Value} (t tx ty e : TypeId) (i : TypeInfo) (ht : P.underlying t = some (.slice e)) (hi : P.info? e = some i) (hz : i.zero = some (.int .u8 0)) (hsz : i.size = 1) (hby : i.bytes = 1)
    (h : OwnB w base v l) (hb : base ≤ w.heap.size) (hs : Src P 1 tx x new.length (cellsOf new) w) (hlen : l.length + new.length ≤ 140737488355328) :
    ∃ v' w', (Builtin.append_ #[t, tx] ty #[v, x]).run P w = .ok v' w' ∧ OwnB w' base v' (l ++ new) ∧ w.grownBy w' v.ownBlock ∧ (∀ k, v'.ownBlock = some k → v.ownBlock = some k ∨ w.heap.size ≤ k) := by
  have hs' : Src P i.size tx x new.length (cellsOf new) w := by rw [hsz]; exact hs
  have grow : ∀ (ba : Option Addr) (cap : Nat), v = .slice ba l.length cap → (Builtin.firstCells 1 l.length (.slice ba l.length cap)).run P w.drew = .ok (cellsOf l).toArray w.drew → cap < l.length + new.length →
      ∃ v' w', (Builtin.append_ #[t, tx] ty #[v, x]).run P w = .ok v' w' ∧ OwnB w' base v' (l ++ new) ∧ w.grownBy w' v.ownBlock ∧ (∀ k, v'.ownBlock = some k → v.ownBlock = some k ∨ w.heap.size ≤ k) := by
    intro ba cap hv hold hg
    subst hv
    have hr := run_append_grow_src (P := P) w t tx ty e i (.int .u8 0) ht hi hz ba l.length cap (cellsOf l) (by rw [hsz]; exact hold) x new.length (cellsOf new) hs' hg (by omega) (growslice_fits hg (by rw [hby]; omega))
    have hge := grownCap_ge w (l.length + new.length) cap e
    have hcm := grownCap_le_maxLen w (l.length + new.length) cap e (by unfold maxLen; omega)
    refine ⟨_, _, hr, .inr ⟨w.heap.size, _, by rw [List.length_append], hb, by simp, by rw [List.length_append]; exact hge, hcm, fun j hj => ?_, fun j hj => ?_⟩, ⟨rfl, rfl, rfl, by simp, fun k hk _ => heap_alloc_old w.drew _ hk⟩, fun k hk => ?_⟩
    · have e1 : (w.drew.alloc (.cells ((cellsOf l ++ cellsOf new).toArray ++ Builtin.zeroCells (Value.int .u8 0).cells (grownCap w (l.length + new.length) cap e - (l.length + new.length))) e)).cell? ⟨w.heap.size, j, none⟩ = ((cellsOf l ++ cellsOf new).toArray ++ Builtin.zeroCells (Value.int .u8 0).cells (grownCap w (l.length + new.length) cap e - (l.length + new.length)))[j]? :=
        World.cell?_alloc_mark w.drew _ e (0, 0) j
      rw [e1, Array.getElem?_append_left (by rw [List.size_toArray, List.length_append, cellsOf_length, cellsOf_length]; rw [List.length_append] at hj; exact hj), ← cellsOf_append]
      simp only [List.getElem?_toArray, cellsOf, List.getElem?_map, List.getElem?_eq_getElem hj, Option.map_some]
    · have e1 : (w.drew.alloc (.cells ((cellsOf l ++ cellsOf new).toArray ++ Builtin.zeroCells (Value.int .u8 0).cells (grownCap w (l.length + new.length) cap e - (l.length + new.length))) e)).cell? ⟨w.heap.size, j, none⟩ = ((cellsOf l ++ cellsOf new).toArray ++ Builtin.zeroCells (Value.int .u8 0).cells (grownCap w (l.length + new.length) cap e - (l.length + new.length)))[j]? :=
        World.cell?_alloc_mark w.drew _ e (0, 0) j
      have e2 := World.frozen?_alloc_mark w.drew ((cellsOf l ++ cellsOf new).toArray ++ Builtin.zeroCells (Value.int .u8 0).cells (grownCap w (l.length + new.length) cap e - (l.length + new.length))) e 0 0 j
      refine ⟨?_, by rw [show (w.drew.heap.size) = w.heap.size from rfl] at e2; rw [e2]; simp⟩
      rw [e1]
      have : j < ((cellsOf l ++ cellsOf new).toArray ++ Builtin.zeroCells (Value.int .u8 0).cells (grownCap w (l.length + new.length) cap e - (l.length + new.length))).size := by
        rw [Array.size_append, List.size_toArray, List.length_append, cellsOf_length, cellsOf_length, size_zeroCells]
        show j < _ + _ * 1
        omega
      rw [Array.getElem?_eq_getElem this]; rfl
    · cases hk
      exact .inr (Nat.le_refl _)
  rcases h with ⟨rfl, rfl⟩ | ⟨g, cap, rfl, hbg, hg, hl, hm, hc, hf⟩
  · by_cases hn : new.length = 0
    · have hnew : new = [] := List.eq_nil_of_length_eq_zero hn
      subst hnew
      refine ⟨.slice none 0 0, w, ?_, .inl ⟨rfl, rfl⟩, ⟨rfl, rfl, rfl, Nat.le_refl _, fun _ _ _ => rfl⟩, fun k hk => by cases hk⟩
      have hcells := hs'.cells
      simp only [List.length_nil] at hcells
      rcases hs'.kind with ⟨e', hk⟩ | hk <;>
        simp [Builtin.append_, run_underlying ht, run_underlying hk, sizeOf, typeInfo, hi, hs'.len, hcells]
    · exact grow none 0 rfl (run_firstCells_none w.drew 1 0 0 0) (by simp; omega)
  · by_cases hroom : l.length + new.length ≤ cap
    · have hr := run_append_room_src (P := P) w t tx ty e i ht hi g 0 l.length cap x new.length (cellsOf new) hs' hroom
        (fun j hj => by rw [cellsOf_length] at hj; rw [hsz, Nat.zero_add, Nat.mul_one]; exact (hf _ (by omega)).1) (fun j hj => by rw [cellsOf_length] at hj; rw [hsz, Nat.zero_add, Nat.mul_one]; exact (hf _ (by omega)).2)
      rw [hsz, Nat.zero_add, Nat.mul_one] at hr
      have hin := World.cell?_setCells_in g (cellsOf new) l.length w (fun j hj => by rw [cellsOf_length] at hj; exact (hf _ (by omega)).1)
      have hsize : ∀ (vs : List Value) (o : Nat) (w : World), (w.setCells g o vs).heap.size = w.heap.size := by
        intro vs
        induction vs with
        | nil => intro o w; rfl
        | cons u vs ih => intro o w; show (World.setCells _ g _ vs).heap.size = _; rw [ih]; simp [World.setCell]
      have hother : ∀ (vs : List Value) (o : Nat) (w : World) (k : Nat), k ≠ g → (w.setCells g o vs).heap[k]? = w.heap[k]? := by
        intro vs
        induction vs with
        | nil => intro o w k hk; rfl
        | cons u vs ih => intro o w k hk; show (World.setCells _ g _ vs).heap[k]? = _; rw [ih _ _ k hk]; exact Below.heap_setCell _ _ _ _ hk
      have hrest : ∀ (vs : List Value) (o : Nat) (w : World), (w.setCells g o vs).os = w.os ∧ (w.setCells g o vs).tape = w.tape ∧ (w.setCells g o vs).output = w.output := by
        intro vs
        induction vs with
        | nil => intro o w; exact ⟨rfl, rfl, rfl⟩
        | cons u vs ih => intro o w; exact ih _ _
      have hsome : ∀ j, j < cap → ((w.setCells g l.length (cellsOf new)).cell? ⟨g, j, none⟩).isSome = true := fun j hj => by
        by_cases h1 : l.length ≤ j ∧ j < l.length + new.length
        · have := hin (j - l.length) (by rw [cellsOf_length]; omega)
          rw [show l.length + (j - l.length) = j by omega] at this
          rw [this]; rfl
        · rw [World.cell?_setCells_out g (cellsOf new) l.length w ⟨g, j, none⟩ (fun _ _ => by rw [cellsOf_length]; simp only; omega)]
          exact (hf j hj).1
      refine ⟨_, _, hr, .inr ⟨g, cap, by rw [List.length_append], hbg, by rw [hsize]; exact hg, by rw [List.length_append]; exact hroom, hm, fun j hj => ?_, fun j hj => ⟨hsome j hj, by rw [World.frozen?_setCells]; exact (hf j hj).2⟩⟩,
        ⟨(hrest _ _ _).1, (hrest _ _ _).2.1, (hrest _ _ _).2.2, by rw [hsize]; exact Nat.le_refl _, fun k hk hne => hother _ _ _ k (fun e => hne (by rw [e]; rfl))⟩, fun k hk => .inl hk⟩
      by_cases h1 : j < l.length
      · rw [World.cell?_setCells_out g (cellsOf new) l.length w ⟨g, j, none⟩ (fun _ _ => .inl h1), hc j h1, List.getElem_append_left h1]
      · have hj' : j - l.length < new.length := by rw [List.length_append] at hj; omega
        have := hin (j - l.length) (by rw [cellsOf_length]; exact hj')
        rw [show l.length + (j - l.length) = j by omega] at this
        rw [this, List.getElem_append_right (by omega)]
        simp [cellsOf]
    · refine grow (some ⟨g, 0, none⟩) cap rfl ?_ (by omega)
      exact run_firstCells_some w.drew 1 l.length ⟨g, 0, none⟩ l.length cap (cellsOf l) (by rw [cellsOf_length, Nat.mul_one]) (fun j u hu => by
        obtain ⟨hj, rfl⟩ := cellsOf_at hu
        rw [addr_add]
        exact hc j hj)

/-- 'string(b)' of it. -/
theorem run_string_own {w : World} {base : Nat} {v : Value} {l : List UInt8} (src dst e : TypeId) (hs : P.underlying src = some (.slice e)) (he : P.underlying e = some (.int .u8)) (hd : P.underlying dst = some .string) (h : OwnB w base v l) :
    (convert src dst v).run P w = .ok (.string (str l)) w := by
  rcases h with ⟨rfl, rfl⟩ | ⟨g, cap, rfl, _, _, _, _, hc, _⟩
  · exact run_convert_bytes_nil w src e hs he 0 0 dst hd
  · exact run_convert_bytes_back w src dst e ⟨g, 0, none⟩ cap l hs he hd (fun j hj => by rw [addr_add]; exact hc j hj)

/-- A part of it, cut from its head at k, with no more room than that. -/
theorem OwnB.cutAt {w : World} {base : Nat} {v : Value} {l : List UInt8} (h : OwnB w base v l) (k : Nat) (hk : k ≤ l.length) (t e : TypeId) (ht : P.underlying t = some (.slice e)) (i : TypeInfo) (hi : P.info? e = some i) (hsz : i.size = 1) :
    ∃ v', (∀ w', (Instr.slice t v none (some (.int .i64 k)) (some (.int .i64 k))).run P w' = .ok v' w') ∧ OwnB w base v' (l.take k) ∧ (∀ b, v'.ownBlock = some b → v.ownBlock = some b) := by
  rcases h with ⟨rfl, rfl⟩ | ⟨g, cap, rfl, hb, hg, hl, hm, hc, hf⟩
  · have hk0 : k = 0 := by simpa using hk
    subst hk0
    refine ⟨.slice none 0 0, fun w' => ?_, .inl ⟨rfl, rfl⟩, fun b hb => by cases hb⟩
    simp [Instr.slice, run_underlying ht, Instr.sliceBounds, Instr.sliceBound, asIntOf, sizeOf, typeInfo, hi]
  · have hlen : (l.take k).length = k := by rw [List.length_take]; omega
    refine ⟨.slice (some ⟨g, 0, none⟩) k k, fun w' => ?_, .inr ⟨g, k, by rw [hlen], hb, hg, by omega, by omega, fun j hj => ?_, fun j hj => hf j (by omega)⟩, fun b hb => hb⟩
    · have h0 : k ≤ cap := by omega
      by_cases hk0 : k = 0
      · subst hk0
        simp [Instr.slice, run_underlying ht, Instr.sliceBounds, Instr.sliceBound, asIntOf, sizeOf, typeInfo, hi]
      · simp [Instr.slice, run_underlying ht, Instr.sliceBounds, Instr.sliceBound, asIntOf, sizeOf, typeInfo, hi, h0, hk0, addr_add]
    · rw [hc j (by omega), List.getElem_take]
/-- An append whose run is known. -/
theorem wp_append_eq {o : Oper} {a : Act} {w w' : World} {K : Act → World → Prop} {Q : Exit → Act → World → Prop} (s x : Operand) (t tx : TypeId)
    (ho : o.op = .call { callee := .builtin .append, args := #[s, x], argTypes := #[t, tx] }) (vs vx : Value) {v' : Value} (hs : a.eval s = vs) (hx : a.eval x = vx)
    (hrun : (Builtin.append_ #[t, tx] o.type #[vs, vx]).run P w = .ok v' w') (h : K (a.put o.dst v') w') : o.wp P a w K Q := by
  unfold Oper.wp execOp
  simp only [ho, resolve, invoke, builtin, Sem.run_bind, Sem.run_pure, Result.andThen_ok, List.map_toArray, List.map_cons, List.map_nil, hs, hx, hrun]
  exact h
theorem wpList_append_eq {ops : Array Oper} {rest : List Oper} {o : Oper} {a : Act} {w w' : World} {Q : Exit → Act → World → Prop} (hgd : o.guard = none) (s x : Operand) (t tx : TypeId)
    (ho : o.op = .call { callee := .builtin .append, args := #[s, x], argTypes := #[t, tx] }) (vs vx : Value) {v' : Value} (hs : a.eval s = vs) (hx : a.eval x = vx)
    (hrun : (Builtin.append_ #[t, tx] o.type #[vs, vx]).run P w = .ok v' w') (h : wpList P ops Q rest (a.put o.dst v') w') : wpList P ops Q (o :: rest) a w :=
  wpList_plain hgd fun _ hK => wp_append_eq s x t tx ho vs vx hs hx hrun (hK _ _ h)
/-- '[]byte(s)': a new block, which the slice owns. -/
theorem own_of_string (w : World) (src dst e : TypeId) (s : ByteArray) (hs : P.underlying src = some .string) (hd : P.underlying dst = some (.slice e)) (he : P.underlying e = some (.int .u8)) (hlen : s.size ≤ 140737488355328) :
    ∃ (cap : Nat) (o : Obj), (convert src dst (.string s)).run P w = .ok (.slice (some ⟨w.heap.size, 0, none⟩) s.size cap) (w.drew.alloc o) ∧ OwnB (w.drew.alloc o) 0 (.slice (some ⟨w.heap.size, 0, none⟩) s.size cap) s.data.toList := by
  have hge := grownCap_ge w s.size 0 e
  have hcm := grownCap_le_maxLen w s.size 0 e (by unfold maxLen; omega)
  have hr := run_bytes_of_string (P := P) w src dst e s hs hd he
  generalize grownCap w s.size 0 e = cap at *
  have hsz : (bytesRow s cap).size = cap := by simp [bytesRow]; omega
  refine ⟨cap, _, hr, .inr ⟨w.heap.size, cap, rfl, Nat.zero_le _, by simp, hge, hcm, fun j hj => ?_, fun j hj => ⟨?_, ?_⟩⟩⟩
  · have e1 : (w.drew.alloc (.cells (bytesRow s cap) e ((bytesRow s cap).size, (bytesRow s cap).size + 1))).cell? ⟨w.heap.size, j, none⟩ = (bytesRow s cap)[j]? := World.cell?_alloc_mark w.drew _ e _ j
    rw [e1, bytesRow_at s cap j (by simpa using hj)]
    simp
  · have e1 : (w.drew.alloc (.cells (bytesRow s cap) e ((bytesRow s cap).size, (bytesRow s cap).size + 1))).cell? ⟨w.heap.size, j, none⟩ = (bytesRow s cap)[j]? := World.cell?_alloc_mark w.drew _ e _ j
    rw [e1, Array.getElem?_eq_getElem (by omega)]; rfl
  · have e1 : (w.drew.alloc (.cells (bytesRow s cap) e ((bytesRow s cap).size, (bytesRow s cap).size + 1))).frozen? ⟨w.heap.size, j, none⟩ = _ := World.frozen?_alloc_mark w.drew _ e _ _ j
    rw [e1, hsz]; simp; omega

/-- A cut whose run is known. -/
theorem wpList_slice_eq {ops : Array Oper} {rest : List Oper} {o : Oper} {a : Act} {w : World} {Q : Exit → Act → World → Prop} (hgd : o.guard = none) (s y z : Operand) (t e : TypeId) (ht : P.underlying t = some (.slice e))
    (ho : o.op = .slice t s none (some y) (some z)) (vs vy vz : Value) {v' : Value} (hs : a.eval s = vs) (hy : a.eval y = vy) (hz : a.eval z = vz)
    (hrun : (Instr.slice t vs none (some vy) (some vz)).run P w = .ok v' w) (h : wpList P ops Q rest (a.put o.dst v') w) : wpList P ops Q (o :: rest) a w :=
  wpList_plain hgd fun _ hK => by
    have hr2 : (Instr.sliceAt t vs none (some vy) (some vz)).run P w = .ok v' w := by simp [Instr.sliceAt, run_underlying ht, hrun]
    unfold Oper.wp execOp
    simp only [ho, Sem.run_bind, Sem.run_pure, Result.andThen_ok, Option.map_none, Option.map_some, hs, hy, hz, hr2]
    exact hK _ _ h
theorem wpList_min_eq {ops : Array Oper} {rest : List Oper} {o : Oper} {a : Act} {w : World} {Q : Exit → Act → World → Prop} (hgd : o.guard = none) (s x : Operand) (t tx : TypeId)
    (ho : o.op = .call { callee := .builtin .min, args := #[s, x], argTypes := #[t, tx] }) (n m k : Int) (hs : a.eval s = .int .i64 n) (hx : a.eval x = .int .i64 m)
    (hk : min n m = k) (h : wpList P ops Q rest (a.put o.dst (.int .i64 k)) w) : wpList P ops Q (o :: rest) a w :=
  wpList_plain hgd fun _ hK => by
    have hrun : (Builtin.min_ #[t, tx] o.type #[.int .i64 n, .int .i64 m]).run P w = .ok (.int .i64 k) w := by
      rw [run_min_int2]
      congr 2
      rw [← hk]
      split <;> omega
    unfold Oper.wp execOp
    simp only [ho, resolve, invoke, builtin, Sem.run_bind, Sem.run_pure, Result.andThen_ok, List.map_toArray, List.map_cons, List.map_nil, hs, hx, hrun]
    exact hK _ _ h
theorem wpList_max_eq {ops : Array Oper} {rest : List Oper} {o : Oper} {a : Act} {w : World} {Q : Exit → Act → World → Prop} (hgd : o.guard = none) (s x : Operand) (t tx : TypeId)
    (ho : o.op = .call { callee := .builtin .max, args := #[s, x], argTypes := #[t, tx] }) (n m k : Int) (hs : a.eval s = .int .i64 n) (hx : a.eval x = .int .i64 m)
    (hk : max n m = k) (h : wpList P ops Q rest (a.put o.dst (.int .i64 k)) w) : wpList P ops Q (o :: rest) a w :=
  wpList_plain hgd fun _ hK => by
    have hrun : (Builtin.max_ #[t, tx] o.type #[.int .i64 n, .int .i64 m]).run P w = .ok (.int .i64 k) w := by
      rw [run_max_int2]
      congr 2
      rw [← hk]
      split <;> omega
    unfold Oper.wp execOp
    simp only [ho, resolve, invoke, builtin, Sem.run_bind, Sem.run_pure, Result.andThen_ok, List.map_toArray, List.map_cons, List.map_nil, hs, hx, hrun]
    exact hK _ _ h
end

end Go.Proofs.Ytbfpljnfalopdaa.L
