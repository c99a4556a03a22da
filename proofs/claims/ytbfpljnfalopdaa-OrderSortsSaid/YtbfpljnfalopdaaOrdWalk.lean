/-
  Chapter 15's small functions: whether a gang is old; cmp.Compare and cmp.Or; which number is less.
-/
import Derived.Test.YtbfpljnfalopdaaOrdPlain
import Derived.Test.YtbfpljnfalopdaaCfgWalk
set_option linter.unusedVariables false
set_option linter.unusedSimpArgs false
namespace Go.Proofs.Ytbfpljnfalopdaa.OrdW
open Go Go.RowKit Go.Proofs.Ytbfpljnfalopdaa.L Go.Proofs.Ytbfpljnfalopdaa.CfgW

def prow (p : Ord.P) : Array Value := #[.int .i64 p.id, .int .i64 p.tenant, .int .i64 p.pods, .int .i64 p.need.x, .int .i64 p.need.y, .int .i64 p.need.z, .int .i64 p.run, .int .i64 p.level, .int .i64 p.prefer, .int .i64 p.seq, .int .i64 p.since]
def InI (n : Int) : Prop := -9223372036854775808 ≤ n ∧ n ≤ 9223372036854775807

set_option maxHeartbeats 1000000 in
theorem num_any (a b : Int) (w : World) : Calls Try.prog 49 #[.int .i64 a, .int .i64 b] w fun e w' => e = .returned (.int .i64 (Ord.num a b)) ∧ w = w' := by
  unfold Ord.num
  by_cases h : a < b
  · rw [if_pos h]
    go_enter Try.func49, Try.ntmps49
    go_wp2
    go_ret
    exact ⟨rfl, rfl⟩
  by_cases h' : b < a
  · rw [if_neg h, if_pos h']
    go_enter Try.func49, Try.ntmps49
    go_wp2
    go_ret
    exact ⟨rfl, rfl⟩
  · rw [if_neg h, if_neg h']
    go_enter Try.func49, Try.ntmps49
    go_wp2
    go_ret
    exact ⟨rfl, rfl⟩

set_option maxHeartbeats 1000000 in
theorem compare_int (a b : Int) (w : World) : Calls Try.prog 67 #[.int .i64 a, .int .i64 b] w fun e w' => e = .returned (.int .i64 (Ord.num a b)) ∧ w = w' := by
  have e1 : (a != a) = false := by simp
  have e2 : (b != b) = false := by simp
  unfold Ord.num
  by_cases h : a < b
  · rw [if_pos h]
    go_enter Try.func67, Try.ntmps67
    go_wp2
    go_ret
    exact ⟨rfl, rfl⟩
  by_cases h' : b < a
  · rw [if_neg h, if_pos h']
    go_enter Try.func67, Try.ntmps67
    go_wp2
    go_ret
    exact ⟨rfl, rfl⟩
  · rw [if_neg h, if_neg h']
    go_enter Try.func67, Try.ntmps67
    go_wp2
    go_ret
    exact ⟨rfl, rfl⟩

set_option maxHeartbeats 1000000 in
theorem compare_fix (a b : Nat) (w : World) : Calls Try.prog 79 #[.int .u64 a, .int .u64 b] w fun e w' => e = .returned (.int .i64 (Ord.num a b)) ∧ w = w' := by
  have e1 : ((a : Int) != (a : Int)) = false := by simp
  have e2 : ((b : Int) != (b : Int)) = false := by simp
  unfold Ord.num
  by_cases h : (a : Int) < (b : Int)
  · rw [if_pos h]
    go_enter Try.func79, Try.ntmps79
    go_wp2
    go_ret
    exact ⟨rfl, rfl⟩
  by_cases h' : (b : Int) < (a : Int)
  · rw [if_neg h, if_pos h']
    go_enter Try.func79, Try.ntmps79
    go_wp2
    go_ret
    exact ⟨rfl, rfl⟩
  · rw [if_neg h, if_neg h']
    go_enter Try.func79, Try.ntmps79
    go_wp2
    go_ret
    exact ⟨rfl, rfl⟩

set_option maxRecDepth 100000 in
set_option maxHeartbeats 1000000 in
theorem or_two {w : World} {b : Nat} (hb : b < w.heap.size) (x y : Int) (hx : w.cell? ⟨b, 0, none⟩ = some (.int .i64 x)) (hy : w.cell? ⟨b, 1, none⟩ = some (.int .i64 y)) :
    Calls Try.prog 70 #[.slice (some ⟨b, 0, none⟩) 2 2] w fun e w' => e = .returned (.int .i64 (Ord.or2 x y)) ∧ Below w.heap.size w w' := by
  have HX := Lib.hid hx
  have HY := Lib.hid hy
  have HBb := Lib.hid hb
  clear hx hy hb
  go_enter Try.func70, Try.ntmps70
  go_wp2_with fail
  go_loopw [8] (fun i wr => Below w.heap.size w wr ∧ ((i = .int .i64 0) ∨ (i = .int .i64 1 ∧ x = 0) ∨ (i = .int .i64 2 ∧ x = 0 ∧ y = 0))) (fun i _ => 2 - (intOf i).toNat)
  case atStart => exact ⟨Below.refl _ _, .inl rfl⟩
  case round =>
    obtain ⟨hbw, hi⟩ := hrel
    have p0 := (hbw.cell (p := ⟨b, 0, none⟩) HBb.out).trans HX.out
    have p1 := (hbw.cell (p := ⟨b, 1, none⟩) HBb.out).trans HY.out
    have Hbw := Lib.hid hbw
    clear hbw
    rcases hi with rfl | ⟨rfl, h0⟩ | ⟨rfl, h0, h1⟩
    · by_cases hx : x = 0
      · have e1 : (x != 0) = false := by simp [hx]
        go_wp2_with fail
        go_roundw
        case rel => exact ⟨by have := Hbw.out; (repeat' (first | (with_reducible exact Below.refl _ _) | (with_reducible assumption) | (with_reducible refine Below.alloc ?_ ?_ _) | (with_reducible refine Go.Proofs.Ytbfpljnfalopdaa.L.below_drewN ?_ _) | (with_reducible refine Below.drew ?_) | (with_reducible refine Below.setCell ?_ ?_ _) | (with_reducible refine Below.frame ?_ _) | go_size)), .inr (.inl ⟨by go_num, hx⟩)⟩
        case measure => simp [intOf]
      · have e1 : (x != 0) = true := by simp [hx]
        go_wp2_with fail
        go_ret
        exact ⟨by rw [Ord.or2, if_pos hx]; rfl, by have := Hbw.out; (repeat' (first | (with_reducible exact Below.refl _ _) | (with_reducible assumption) | (with_reducible refine Below.alloc ?_ ?_ _) | (with_reducible refine Go.Proofs.Ytbfpljnfalopdaa.L.below_drewN ?_ _) | (with_reducible refine Below.drew ?_) | (with_reducible refine Below.setCell ?_ ?_ _) | (with_reducible refine Below.frame ?_ _) | go_size))⟩
    · by_cases hy : y = 0
      · have e1 : (y != 0) = false := by simp [hy]
        go_wp2_with fail
        go_roundw
        case rel => exact ⟨by have := Hbw.out; (repeat' (first | (with_reducible exact Below.refl _ _) | (with_reducible assumption) | (with_reducible refine Below.alloc ?_ ?_ _) | (with_reducible refine Go.Proofs.Ytbfpljnfalopdaa.L.below_drewN ?_ _) | (with_reducible refine Below.drew ?_) | (with_reducible refine Below.setCell ?_ ?_ _) | (with_reducible refine Below.frame ?_ _) | go_size)), .inr (.inr ⟨by go_num, h0, hy⟩)⟩
        case measure => simp [intOf]
      · have e1 : (y != 0) = true := by simp [hy]
        go_wp2_with fail
        go_ret
        exact ⟨by rw [Ord.or2, if_neg (by omega)]; rfl, by have := Hbw.out; (repeat' (first | (with_reducible exact Below.refl _ _) | (with_reducible assumption) | (with_reducible refine Below.alloc ?_ ?_ _) | (with_reducible refine Go.Proofs.Ytbfpljnfalopdaa.L.below_drewN ?_ _) | (with_reducible refine Below.drew ?_) | (with_reducible refine Below.setCell ?_ ?_ _) | (with_reducible refine Below.frame ?_ _) | go_size))⟩
    · go_wp2_with fail
      go_ret
      exact ⟨by rw [Ord.or2, if_neg (by omega), h1]; rfl, by have := Hbw.out; (repeat' (first | (with_reducible exact Below.refl _ _) | (with_reducible assumption) | (with_reducible refine Below.alloc ?_ ?_ _) | (with_reducible refine Go.Proofs.Ytbfpljnfalopdaa.L.below_drewN ?_ _) | (with_reducible refine Below.drew ?_) | (with_reducible refine Below.setCell ?_ ?_ _) | (with_reducible refine Below.frame ?_ _) | go_size))⟩

theorem wrap_nonneg (x : Int) (h0 : 0 ≤ x) (h1 : x ≤ 9223372036854775807) : IntKind.u64.wrap x = x := by rw [IntKind.wrap_u64]; omega
theorem wrap_dif (x y : Int) (h0 : y ≤ x) (hx : InI x) (hy : InI y) : IntKind.u64.wrap (IntKind.u64.wrap x - IntKind.u64.wrap y) = x - y := by
  unfold InI at hx hy
  rw [IntKind.wrap_u64, IntKind.wrap_u64, IntKind.wrap_u64]; omega

set_option maxRecDepth 100000 in
set_option maxHeartbeats 2000000 in
theorem old_any (v1 v2 : Value) (half age now : Int) (p : Ord.P) (ha : InI age) (hn : InI now) (hp : InI p.since) : Gives Try.prog 28 #[.agg #[v1, v2, .int .i64 half, .int .i64 age], .int .i64 now, .agg (prow p)] (.bool (Ord.old age now p.since)) := by
  intro w
  obtain ⟨a0, a1, a2, ⟨a3, a4, a5⟩, a6, a7, a8, a9, s⟩ := p
  have hd := fun h : s ≤ now => wrap_dif now s h hn hp
  have hw : 0 < age → IntKind.u64.wrap age = age := fun h => wrap_nonneg age (by omega) ha.2
  unfold prow Ord.old
  dsimp only at hd ⊢
  clear ha hn hp
  go_enter Try.func28, Try.ntmps28
  by_cases h1 : 0 < age
  · by_cases h2 : s ≤ now
    · have e1 := hd h2
      have e2 := hw h1
      clear hd hw
      rw [decide_eq_true h1, decide_eq_true h2]
      by_cases h3 : age ≤ now - s
      · rw [decide_eq_true h3]
        go_wp2_with fail
        go_ret
        exact ⟨rfl, by (repeat' (first | (with_reducible exact Below.refl _ _) | (with_reducible assumption) | (with_reducible refine Below.alloc ?_ ?_ _) | (with_reducible refine Go.Proofs.Ytbfpljnfalopdaa.L.below_drewN ?_ _) | (with_reducible refine Below.drew ?_) | (with_reducible refine Below.setCell ?_ ?_ _) | (with_reducible refine Below.frame ?_ _) | go_size))⟩
      · rw [decide_eq_false h3]
        go_wp2_with fail
        go_ret
        exact ⟨rfl, by (repeat' (first | (with_reducible exact Below.refl _ _) | (with_reducible assumption) | (with_reducible refine Below.alloc ?_ ?_ _) | (with_reducible refine Go.Proofs.Ytbfpljnfalopdaa.L.below_drewN ?_ _) | (with_reducible refine Below.drew ?_) | (with_reducible refine Below.setCell ?_ ?_ _) | (with_reducible refine Below.frame ?_ _) | go_size))⟩
    · clear hd hw
      rw [decide_eq_true h1, decide_eq_false h2]
      go_wp2_with fail
      go_ret
      exact ⟨rfl, by (repeat' (first | (with_reducible exact Below.refl _ _) | (with_reducible assumption) | (with_reducible refine Below.alloc ?_ ?_ _) | (with_reducible refine Go.Proofs.Ytbfpljnfalopdaa.L.below_drewN ?_ _) | (with_reducible refine Below.drew ?_) | (with_reducible refine Below.setCell ?_ ?_ _) | (with_reducible refine Below.frame ?_ _) | go_size))⟩
  · clear hd hw
    rw [decide_eq_false h1]
    go_wp2_with fail
    go_ret
    exact ⟨rfl, by (repeat' (first | (with_reducible exact Below.refl _ _) | (with_reducible assumption) | (with_reducible refine Below.alloc ?_ ?_ _) | (with_reducible refine Go.Proofs.Ytbfpljnfalopdaa.L.below_drewN ?_ _) | (with_reducible refine Below.drew ?_) | (with_reducible refine Below.setCell ?_ ?_ _) | (with_reducible refine Below.frame ?_ _) | go_size))⟩

set_option maxRecDepth 100000 in
set_option maxHeartbeats 2000000 in
theorem rold_any (v1 v2 : Value) (half age now : Int) (p : Ord.P) (ha : InI age) (hn : InI now) (hp : InI p.since) : Gives Try.prog 29 #[.agg #[v1, v2, .int .i64 half, .int .i64 age], .int .i64 now, .agg (prow p)] (.bool (Ord.old age now p.since)) := by
  intro w
  obtain ⟨a0, a1, a2, ⟨a3, a4, a5⟩, a6, a7, a8, a9, s⟩ := p
  have hd := fun h : s ≤ now => wrap_dif now s h hn hp
  have hw : 0 < age → IntKind.u64.wrap age = age := fun h => wrap_nonneg age (by omega) ha.2
  unfold prow Ord.old
  dsimp only at hd ⊢
  clear ha hn hp
  go_enter Try.func29, Try.ntmps29
  by_cases h1 : 0 < age
  · by_cases h2 : s ≤ now
    · have e1 := hd h2
      have e2 := hw h1
      clear hd hw
      rw [decide_eq_true h1, decide_eq_true h2]
      by_cases h3 : age ≤ now - s
      · rw [decide_eq_true h3]
        go_wp2_with fail
        go_ret
        exact ⟨rfl, by (repeat' (first | (with_reducible exact Below.refl _ _) | (with_reducible assumption) | (with_reducible refine Below.alloc ?_ ?_ _) | (with_reducible refine Go.Proofs.Ytbfpljnfalopdaa.L.below_drewN ?_ _) | (with_reducible refine Below.drew ?_) | (with_reducible refine Below.setCell ?_ ?_ _) | (with_reducible refine Below.frame ?_ _) | go_size))⟩
      · rw [decide_eq_false h3]
        go_wp2_with fail
        go_ret
        exact ⟨rfl, by (repeat' (first | (with_reducible exact Below.refl _ _) | (with_reducible assumption) | (with_reducible refine Below.alloc ?_ ?_ _) | (with_reducible refine Go.Proofs.Ytbfpljnfalopdaa.L.below_drewN ?_ _) | (with_reducible refine Below.drew ?_) | (with_reducible refine Below.setCell ?_ ?_ _) | (with_reducible refine Below.frame ?_ _) | go_size))⟩
    · clear hd hw
      rw [decide_eq_true h1, decide_eq_false h2]
      go_wp2_with fail
      go_ret
      exact ⟨rfl, by (repeat' (first | (with_reducible exact Below.refl _ _) | (with_reducible assumption) | (with_reducible refine Below.alloc ?_ ?_ _) | (with_reducible refine Go.Proofs.Ytbfpljnfalopdaa.L.below_drewN ?_ _) | (with_reducible refine Below.drew ?_) | (with_reducible refine Below.setCell ?_ ?_ _) | (with_reducible refine Below.frame ?_ _) | go_size))⟩
  · clear hd hw
    rw [decide_eq_false h1]
    go_wp2_with fail
    go_ret
    exact ⟨rfl, by (repeat' (first | (with_reducible exact Below.refl _ _) | (with_reducible assumption) | (with_reducible refine Below.alloc ?_ ?_ _) | (with_reducible refine Go.Proofs.Ytbfpljnfalopdaa.L.below_drewN ?_ _) | (with_reducible refine Below.drew ?_) | (with_reducible refine Below.setCell ?_ ?_ _) | (with_reducible refine Below.frame ?_ _) | go_size))⟩
end Go.Proofs.Ytbfpljnfalopdaa.OrdW
