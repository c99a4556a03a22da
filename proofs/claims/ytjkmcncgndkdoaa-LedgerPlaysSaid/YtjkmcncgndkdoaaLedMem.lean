/-
  A ledger as it lies in memory.
-/
import Derived.Test.YtjkmcncgndkdoaaUpRange
import Derived.Test.YtjkmcncgndkdoaaIntKey
import Derived.Test.YtjkmcncgndkdoaaLedPlain
import Derived.Test.YtjkmcncgndkdoaaVRow
set_option linter.unusedVariables false
set_option linter.unusedSimpArgs false
namespace Go.Proofs.Ytjkmcncgndkdoaa.CfgW
open Go Go.RowKit Go.Proofs.Ytjkmcncgndkdoaa.L

theorem ikey : KeyOf Try.prog 3 (Value.int .i64) := key_int (by kernel_rfl)
theorem vec_zero : ∀ w : World, (zeroValue 33).run Try.prog w = .ok (.agg #[.int .i64 0, .int .i64 0, .int .i64 0]) w := fun w => by
  obtain ⟨i0, hi, hz0, _, _⟩ := info_parts vecinfo
  simp [zeroValue, typeInfo, hi, hz0]
abbrev zeroV : Value := .agg #[.int .i64 0, .int .i64 0, .int .i64 0]
theorem not_map {w : World} {b o : Nat} {x : Value} (h : w.cell? ⟨b, o, none⟩ = some x) {es : Array MapEntry} {cl : Nat} (hm : w.heap[b]? = some (.map es cl)) : False := by
  unfold World.cell? at h
  simp [hm] at h
theorem row_kept2 {α : Type} {w0 W W' : World} {A : Option Addr} {sz : Nat} {dec : α → List Value} {xs : List α} {F : Nat → Prop} (hd : ∀ x, ∃ v, (dec x)[0]? = some v) (h0 : RowOf w0 A sz dec xs) (h : RowOf W A sz dec xs) (k : Kept F W W')
    (hF : ∀ b, F b → w0.heap.size ≤ b ∨ ∃ es cl, W.heap[b]? = some (.map es cl)) : RowOf W' A sz dec xs := fun hn => by
  obtain ⟨b, o, e, hlt, hc⟩ := h hn
  obtain ⟨b', o', e', hlt', _⟩ := h0 hn
  rw [e] at e'
  cases e'
  have hnf : ¬ F b := fun hf => by
    rcases hF b hf with h1 | ⟨es, cl, h1⟩
    · omega
    · obtain ⟨x, t, rfl⟩ := List.exists_cons_of_ne_nil hn
      obtain ⟨v, hv⟩ := hd x
      exact not_map (hc 0 x rfl 0 v hv) h1
  exact ⟨b, o, e, Nat.lt_of_lt_of_le hlt k.size, fun i x hx j v hv => (k.cell (p := ⟨b, o + i * sz + j, none⟩) hlt hnf).trans (hc i x hx j v hv)⟩
theorem cfg_kept {w0 W W' : World} {v : Value} {c : Cfg.C} {F : Nat → Prop} (h0 : CfgAt w0 v c) (h : CfgAt W v c) (k : Kept F W W') (hF : ∀ b, F b → w0.heap.size ≤ b ∨ ∃ es cl, W.heap[b]? = some (.map es cl)) : CfgAt W' v c := by
  obtain ⟨v1, v2, e, ⟨A, ca, e1, r1, l1⟩, ⟨B, cb, e2, r2, l2⟩⟩ := h
  obtain ⟨v1', v2', e', ⟨A', ca', e1', r1', _⟩, ⟨B', cb', e2', r2', _⟩⟩ := h0
  subst e1 e2 e1' e2'
  rw [e] at e'
  simp only [Value.agg.injEq, Array.mk.injEq, List.cons.injEq, Value.slice.injEq, true_and, and_true] at e'
  obtain ⟨⟨ea, _⟩, ⟨eb, _⟩⟩ := e'
  subst ea eb
  exact ⟨_, _, e, ⟨A, ca, rfl, row_kept2 (fun x => ⟨_, rfl⟩) r1' r1 k hF, l1⟩, ⟨B, cb, rfl, row_kept2 (fun x => ⟨_, rfl⟩) r2' r2 k hF, l2⟩⟩

/-- The ledger in block g, its map in block mb, of the configuration c; u is used. -/
structure LedAt (w : World) (g mb : Nat) (v1 v2 : Value) (half age : Int) (c : Cfg.C) (u : Led.U) : Prop where
  box : CBox w g v1 v2 half age
  ptr : w.cell? ⟨g, 4, none⟩ = some (.map (some mb))
  cfg : CfgAt w (.agg #[v1, v2, .int .i64 half, .int .i64 age]) c
  map : ∃ L, MapAt w mb (Value.int .i64) L ∧ ∀ n, (Go.Proofs.Ytjkmcncgndkdoaa.L.valOf n L).getD zeroV = (Led.at_ c u n).val
theorem LedAt.isMap {w : World} {g mb : Nat} {v1 v2 : Value} {half age : Int} {c : Cfg.C} {u : Led.U} (h : LedAt w g mb v1 v2 half age c u) : ∃ es cl, w.heap[mb]? = some (.map es cl) := by
  obtain ⟨L, ⟨es, cl, hm, _⟩, _⟩ := h.map
  exact ⟨es, cl, hm⟩
theorem LedAt.mlt {w : World} {g mb : Nat} {v1 v2 : Value} {half age : Int} {c : Cfg.C} {u : Led.U} (h : LedAt w g mb v1 v2 half age c u) : mb < w.heap.size := by
  obtain ⟨L, hm, _⟩ := h.map
  exact hm.lt
theorem LedAt.ne {w : World} {g mb : Nat} {v1 v2 : Value} {half age : Int} {c : Cfg.C} {u : Led.U} (h : LedAt w g mb v1 v2 half age c u) : g ≠ mb := fun e => by
  subst e
  obtain ⟨es, cl, hm⟩ := h.isMap
  exact not_map h.ptr hm
theorem LedAt.kept {w0 W W' : World} {g mb : Nat} {v1 v2 : Value} {half age : Int} {c : Cfg.C} {u : Led.U} {F : Nat → Prop} (h0 : CfgAt w0 (.agg #[v1, v2, .int .i64 half, .int .i64 age]) c) (h : LedAt W g mb v1 v2 half age c u) (k : Kept F W W')
    (hg : ¬ F g) (hm : ¬ F mb) (hF : ∀ b, F b → w0.heap.size ≤ b) : LedAt W' g mb v1 v2 half age c u := by
  obtain ⟨L, hL, hu⟩ := h.map
  exact ⟨h.box.kept k hg, (k.cell (p := ⟨g, 4, none⟩) h.box.1 hg).trans h.ptr, cfg_kept h0 h.cfg k (fun b hb => .inl (hF b hb)), L, hL.kept k hm, hu⟩
theorem LedAt.on {w w' : World} {g mb : Nat} {v1 v2 : Value} {half age : Int} {c : Cfg.C} {u : Led.U} (h : LedAt w g mb v1 v2 half age c u) (hb : Below w.heap.size w w') : LedAt w' g mb v1 v2 half age c u :=
  h.kept (F := fun _ => False) h.cfg (Kept.of_below hb) (fun h => h) (fun h => h) (fun _ h => h.elim)
/-- The map has turned. -/
theorem LedAt.turn {w w' : World} {g mb : Nat} {v1 v2 : Value} {half age : Int} {c : Cfg.C} {u u' : Led.U} (h : LedAt w g mb v1 v2 half age c u) (k : Kept (fun b => b = mb) w w') {L : List (Int × Value)} (hL : MapAt w' mb (Value.int .i64) L)
    (hu : ∀ n, (Go.Proofs.Ytjkmcncgndkdoaa.L.valOf n L).getD zeroV = (Led.at_ c u' n).val) : LedAt w' g mb v1 v2 half age c u' :=
  ⟨h.box.kept k h.ne, (k.cell (p := ⟨g, 4, none⟩) h.box.1 h.ne).trans h.ptr, cfg_kept h.cfg h.cfg k (fun b e => by subst e; exact .inr h.isMap), L, hL, hu⟩
def upd (u : Led.U) (x : Nat) (v : Vec.V) : Led.U := fun i => if i = x then v else u i
theorem at_upd (c : Cfg.C) (u : Led.U) (x : Nat) (v : Vec.V) (hx : x < c.nodes.length) (n : Int) : Led.at_ c (upd u x v) n = if n = (x : Int) then v else Led.at_ c u n := by
  unfold Led.at_ upd
  by_cases h : n = (x : Int)
  · subst h
    rw [if_pos ⟨by omega, by omega⟩, if_pos rfl, Int.toNat_natCast, if_pos rfl]
  · rw [if_neg h]
    by_cases h2 : 0 ≤ n ∧ n < (c.nodes.length : Int)
    · rw [if_pos h2, if_pos h2, if_neg (by omega)]
    · rw [if_neg h2, if_neg h2]
theorem bump_snoc (f : Vec.V → Vec.V) (u : Led.U) (xs : List Nat) (x : Nat) (h : x ∉ xs) : Led.bump f u (xs ++ [x]) = upd (Led.bump f u xs) x (f (u x)) := by
  funext i
  unfold Led.bump upd
  by_cases hi : i = x
  · subst hi; simp
  · simp [hi]
theorem bump_not (f : Vec.V → Vec.V) (u : Led.U) (xs : List Nat) (x : Nat) (h : x ∉ xs) : Led.bump f u xs x = u x := by unfold Led.bump; rw [if_neg h]
end Go.Proofs.Ytjkmcncgndkdoaa.CfgW
