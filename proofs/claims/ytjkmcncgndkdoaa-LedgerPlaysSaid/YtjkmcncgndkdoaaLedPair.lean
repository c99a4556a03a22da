/-
  A ledger and the reference's, side by side.
-/
import Derived.Test.YtjkmcncgndkdoaaLedOpen
import Derived.Test.YtjkmcncgndkdoaaRGive
import Derived.Test.YtjkmcncgndkdoaaVList
set_option linter.unusedVariables false
set_option linter.unusedSimpArgs false
namespace Go.Proofs.Ytjkmcncgndkdoaa.CfgW
open Go Go.RowKit Go.Proofs.Ytjkmcncgndkdoaa.L

/-- What the reference turns leaves the ledger. -/
theorem LedAt.off {w0 W W' : World} {g mb rb ca : Nat} {A : Option Addr} {v2 : Value} {half age : Int} {c : Cfg.C} {u : Led.U} (h0 : Hosts w0 v2 c.hosts) (hlt : w0.heap.size ≤ rb) (hA : ∀ b o, A = some ⟨b, o, none⟩ → b ≠ rb) (h : LedAt W g mb (.slice A c.nodes.length ca) v2 half age c u) (k : Kept (fun b => b = rb) W W') (hg : g ≠ rb) (hm : mb ≠ rb) :
    LedAt W' g mb (.slice A c.nodes.length ca) v2 half age c u := by
  obtain ⟨L, hL, hu⟩ := h.map
  refine ⟨h.box.kept k hg, (k.cell (p := ⟨g, 4, none⟩) h.box.1 hg).trans h.ptr, ?_, L, hL.kept k hm, hu⟩
  obtain ⟨v1, v2', e, ⟨A', ca', e1, r1, l1⟩, ⟨B, cb, e2, r2, l2⟩⟩ := h.cfg
  obtain ⟨B0, cb0, e3, r3, _⟩ := h0
  subst e1 e2 e3
  have e' := e
  simp only [Value.agg.injEq, Array.mk.injEq, List.cons.injEq, Value.slice.injEq, Value.int.injEq, true_and, and_true] at e'
  obtain ⟨⟨rfl, rfl⟩, ⟨rfl, rfl⟩, _⟩ := e'
  exact ⟨_, _, e, ⟨A, ca, rfl, row_kept r1 k (fun b o e => hA b o e), l1⟩, ⟨B0, cb0, rfl, row_kept2 (fun x => ⟨_, rfl⟩) r3 r2 k (fun b e => .inl (by omega)), l2⟩⟩

structure Apart (wq : World) (g mb : Nat) (A : Option Addr) (g2 rb : Nat) : Prop where
  gr : g ≠ rb
  ar : ∀ b o, A = some ⟨b, o, none⟩ → b ≠ rb
  m0 : wq.heap.size ≤ mb
  r0 : wq.heap.size ≤ rb
structure PairAt (wq W : World) (g mb : Nat) (A : Option Addr) (ca g2 rb cp : Nat) (v1 v2 : Value) (half age : Int) (c : Cfg.C) (u u2 : Led.U) : Prop where
  led : LedAt W g mb (.slice A c.nodes.length ca) v2 half age c u
  ref : RLedAt W g2 rb cp v1 v2 half age c u2
  below : Below wq.heap.size wq W
section
variable {w0 wq W w' : World} {g mb ca g2 rb cp : Nat} {A : Option Addr} {v1 v2 : Value} {half age : Int} {c : Cfg.C} {u u2 u' : Led.U} {n : Int} {e : Ending}
theorem PairAt.on (h : PairAt wq W g mb A ca g2 rb cp v1 v2 half age c u u2) (hb : Below W.heap.size W w') : PairAt wq w' g mb A ca g2 rb cp v1 v2 half age c u u2 :=
  ⟨h.led.on hb, h.ref.on hb, keeps_trans h.below hb⟩
theorem PairAt.mr (h : PairAt wq W g mb A ca g2 rb cp v1 v2 half age c u u2) : mb ≠ rb := fun e => by
  obtain ⟨es, cl, hm⟩ := h.led.isMap
  rcases h.ref.row.2 with ⟨e', _⟩ | ⟨g', cap, cur, e', _, hh, _⟩
  · cases e'
  · have eg : rb = g' := by
      simp only [Value.slice.injEq, Option.some.injEq, Addr.mk.injEq] at e'
      exact e'.1.1
    rw [e, eg, hh] at hm
    cases hm
theorem PairAt.one (a : Apart wq g mb A g2 rb) (h : PairAt wq W g mb A ca g2 rb cp v1 v2 half age c u u2) (he : LedEnd n g mb (.slice A c.nodes.length ca) v2 half age c u' W e w') : e = .returned (.int .i64 n) ∧ PairAt wq w' g mb A ca g2 rb cp v1 v2 half age c u' u2 := by
  obtain ⟨rfl, hl, hk⟩ := he
  obtain ⟨es, cl, hm⟩ := h.led.isMap
  exact ⟨rfl, hl, h.ref.kept h.ref.cfg hk (fun e => not_map h.ref.ptr (e ▸ hm)) (fun e => h.mr e.symm) (fun b e => by subst e; exact .inr ⟨es, cl, hm⟩),
    h.below.trans (hk.below h.below.size (fun i e => by rw [e]; exact a.m0))⟩
theorem PairAt.two (hH : Hosts w0 v2 c.hosts) (hw : w0.heap.size ≤ wq.heap.size) (a : Apart wq g mb A g2 rb) (h : PairAt wq W g mb A ca g2 rb cp v1 v2 half age c u u2) (he : RLedEnd n g2 rb cp v1 v2 half age c u' W e w') : e = .returned (.int .i64 n) ∧ PairAt wq w' g mb A ca g2 rb cp v1 v2 half age c u u' := by
  obtain ⟨rfl, hl, hk⟩ := he
  exact ⟨rfl, h.led.off hH (Nat.le_trans hw a.r0) a.ar hk a.gr h.mr, hl, h.below.trans (hk.below h.below.size (fun i e => by rw [e]; exact a.r0))⟩
end

/-- The two new ledgers, whichever was first. -/
def PairNew (wq : World) (v1 v2 : Value) (half age : Int) (c : Cfg.C) (a x : Value) (W : World) : Prop := ∃ g mb A ca g2 rb cp, a = .pointer (some ⟨g, 0, none⟩) ∧ x = .pointer (some ⟨g2, 0, none⟩) ∧ Apart wq g mb A g2 rb ∧ PairAt wq W g mb A ca g2 rb cp v1 v2 half age c Led.none_ Led.none_

set_option maxRecDepth 100000 in
set_option maxHeartbeats 4000000 in
theorem rat_any {w : World} {va : Value} {xs : List Vec.V} (h : VSl w va xs) (n : Int) : GivesAt Try.prog w 33 #[va, .int .i64 n] (Tree.at_ xs n).val := by
  intro w1 hb1
  replace h := h.below hb1
  clear hb1
  obtain ⟨A, ca, rfl, hr, hl⟩ := h
  unfold maxLen at hl
  have HR := Lib.hid hr
  unfold Tree.at_
  obtain ⟨N, hN⟩ : ∃ N, xs.length = N := ⟨_, rfl⟩
  have HN := Lib.hid hN
  rw [hN] at hl ⊢
  clear hr hN
  have hb : Below w1.heap.size w1 (w1.alloc (.cells #[.int .i64 0, .int .i64 0, .int .i64 0] 33)) := (Below.refl _ _).alloc (Nat.le_refl _) _
  by_cases hn : 0 ≤ n ∧ n < (N : Int)
  · obtain ⟨h0, h1⟩ := hn
    rw [if_pos ⟨h0, h1⟩]
    obtain ⟨k, rfl⟩ := Int.eq_ofNat_of_zero_le h0
    have hk : k < xs.length := by rw [HN.out]; omega
    have e : xs.getD (k : Int).toNat Vec.zero = xs[k] := by rw [Int.toNat_natCast, List.getD_eq_getElem?_getD, List.getElem?_eq_getElem hk, Option.getD_some]
    rw [e]
    obtain ⟨b, o, rfl, hlt, hc⟩ := row_vec HR.out hk
    obtain ⟨p0, p1, p2⟩ := hc _ hb
    generalize xs[k] = y at *
    obtain ⟨y0, y1, y2⟩ := y
    simp only at p0 p1 p2
    have hne : ¬ b = w1.heap.size := by omega
    show Calls Try.prog 33 #[.slice (some ⟨b, o, none⟩) N ca, .int .i64 (k : Int)] w1 fun e w' => e = .returned (.agg #[.int .i64 y0, .int .i64 y1, .int .i64 y2]) ∧ Below w1.heap.size w1 w'
    clear hc e hk
    have Hb := Lib.hid hb
    clear hb
    go_enter Try.func33, Try.ntmps33
    go_wp2_with fail
    exact bodyPost_ret (v := .agg #[.int .i64 y0, .int .i64 y1, .int .i64 y2]) (by simp [results, Try.results33, go_sem]) rfl ⟨rfl, by have := Hb.out; (repeat' (first | (with_reducible exact Below.refl _ _) | (with_reducible assumption) | (with_reducible refine Below.alloc ?_ ?_ _) | (with_reducible refine Go.Proofs.Ytjkmcncgndkdoaa.L.below_drewN ?_ _) | (with_reducible refine Below.drew ?_) | (with_reducible refine Below.setCell ?_ ?_ _) | (with_reducible refine Below.frame ?_ _) | go_size))⟩
  · rw [if_neg hn]
    show Calls Try.prog 33 #[.slice A N ca, .int .i64 n] w1 fun e w' => e = .returned (.agg #[.int .i64 0, .int .i64 0, .int .i64 0]) ∧ Below w1.heap.size w1 w'
    have Hb := Lib.hid hb
    clear hb
    by_cases h0 : n < 0
    · have t0 : decide (n < 0) = true := by simpa using h0
      clear hn h0
      go_enter Try.func33, Try.ntmps33
      go_wp2_with fail
      exact bodyPost_ret (v := .agg #[.int .i64 0, .int .i64 0, .int .i64 0]) (by simp [results, Try.results33, go_sem]) rfl ⟨rfl, by have := Hb.out; (repeat' (first | (with_reducible exact Below.refl _ _) | (with_reducible assumption) | (with_reducible refine Below.alloc ?_ ?_ _) | (with_reducible refine Go.Proofs.Ytjkmcncgndkdoaa.L.below_drewN ?_ _) | (with_reducible refine Below.drew ?_) | (with_reducible refine Below.setCell ?_ ?_ _) | (with_reducible refine Below.frame ?_ _) | go_size))⟩
    · have t0 : decide (n < 0) = false := by simpa using h0
      have t1 : decide ((N : Int) ≤ n) = true := by simp; omega
      clear hn h0
      go_enter Try.func33, Try.ntmps33
      go_wp2_with fail
      exact bodyPost_ret (v := .agg #[.int .i64 0, .int .i64 0, .int .i64 0]) (by simp [results, Try.results33, go_sem]) rfl ⟨rfl, by have := Hb.out; (repeat' (first | (with_reducible exact Below.refl _ _) | (with_reducible assumption) | (with_reducible refine Below.alloc ?_ ?_ _) | (with_reducible refine Go.Proofs.Ytjkmcncgndkdoaa.L.below_drewN ?_ _) | (with_reducible refine Below.drew ?_) | (with_reducible refine Below.setCell ?_ ?_ _) | (with_reducible refine Below.frame ?_ _) | go_size))⟩
end Go.Proofs.Ytjkmcncgndkdoaa.CfgW
