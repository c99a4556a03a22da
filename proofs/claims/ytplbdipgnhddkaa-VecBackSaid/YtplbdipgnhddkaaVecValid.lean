/-
  The contracts of vec.Over, Valid, Dominant and of the reference's.
-/
import Derived.Test.YtplbdipgnhddkaaVecGives
set_option linter.unusedVariables false
set_option linter.unusedSimpArgs false
namespace Go.Proofs.Ytplbdipgnhddkaa.VecW
open Go.RowKit Go.Proofs.Ytplbdipgnhddkaa.L

theorem gover (a b : Vec.V) : Gives Try.prog 27 #[a.val, b.val] (.bool (!Vec.fits a b)) := by
  have g := gfits a b
  obtain ⟨a0, a1, a2⟩ := a
  obtain ⟨b0, b1, b2⟩ := b
  intro w
  unfold Vec.V.val at g ⊢
  go_enter Try.func27, Try.ntmps27
  go_wp2_with fail
  refine (g _).mono ?_
  rintro e w1 ⟨rfl, hb1⟩
  have hbw := keeps_trans (a := w) (by (repeat' (first | (with_reducible exact Below.refl _ _) | (with_reducible assumption) | (with_reducible refine Below.alloc ?_ ?_ _) | (with_reducible refine L.below_drewN ?_ _) | (with_reducible refine Below.drew ?_) | (with_reducible refine Below.setCell ?_ ?_ _) | (with_reducible refine Below.frame ?_ _) | go_size))) hb1
  clear hb1
  go_wp2
  go_returns
  exact ⟨rfl, hbw⟩

set_option maxHeartbeats 1000000 in
theorem gvalid (a : Vec.V) : Gives Try.prog 39 #[a.val] (.bool (Vec.valid a)) := by
  obtain ⟨a0, a1, a2⟩ := a
  intro w
  have hv := Lib.hid (Vec.valid_iff ⟨a0, a1, a2⟩)
  unfold Vec.V.val
  obtain ⟨i0, i1, i2⟩ := idx a0 a1 a2
  rcases (by omega : a0 < 0 ∨ 1048576 < a0 ∨ (0 ≤ a0 ∧ a0 ≤ 1048576)) with h0 | h0 | ⟨h0, k0⟩
  · go_enter Try.func39, Try.ntmps39
    go_wp2
    refine wp_loop_rounds 1 ?_
    rw [rounds_succ]
    go_wp2
    go_returns
    exact ⟨ret_bool (by have := hv.out; exact (Bool.eq_false_iff.2 fun hh => by have := this.1 hh; omega).symm), by (repeat' (first | (with_reducible exact Below.refl _ _) | (with_reducible assumption) | (with_reducible refine Below.alloc ?_ ?_ _) | (with_reducible refine L.below_drewN ?_ _) | (with_reducible refine Below.drew ?_) | (with_reducible refine Below.setCell ?_ ?_ _) | (with_reducible refine Below.frame ?_ _) | go_size))⟩
  · go_enter Try.func39, Try.ntmps39
    go_wp2
    refine wp_loop_rounds 1 ?_
    rw [rounds_succ]
    go_wp2
    go_returns
    exact ⟨ret_bool (by have := hv.out; exact (Bool.eq_false_iff.2 fun hh => by have := this.1 hh; omega).symm), by (repeat' (first | (with_reducible exact Below.refl _ _) | (with_reducible assumption) | (with_reducible refine Below.alloc ?_ ?_ _) | (with_reducible refine L.below_drewN ?_ _) | (with_reducible refine Below.drew ?_) | (with_reducible refine Below.setCell ?_ ?_ _) | (with_reducible refine Below.frame ?_ _) | go_size))⟩
  rcases (by omega : a1 < 0 ∨ 1048576 < a1 ∨ (0 ≤ a1 ∧ a1 ≤ 1048576)) with h1 | h1 | ⟨h1, k1⟩
  · go_enter Try.func39, Try.ntmps39
    go_wp2
    refine wp_loop_rounds 2 ?_
    rw [rounds_succ]
    go_wp2
    rw [rounds_succ]
    go_wp2
    go_returns
    exact ⟨ret_bool (by have := hv.out; exact (Bool.eq_false_iff.2 fun hh => by have := this.1 hh; omega).symm), by (repeat' (first | (with_reducible exact Below.refl _ _) | (with_reducible assumption) | (with_reducible refine Below.alloc ?_ ?_ _) | (with_reducible refine L.below_drewN ?_ _) | (with_reducible refine Below.drew ?_) | (with_reducible refine Below.setCell ?_ ?_ _) | (with_reducible refine Below.frame ?_ _) | go_size))⟩
  · go_enter Try.func39, Try.ntmps39
    go_wp2
    refine wp_loop_rounds 2 ?_
    rw [rounds_succ]
    go_wp2
    rw [rounds_succ]
    go_wp2
    go_returns
    exact ⟨ret_bool (by have := hv.out; exact (Bool.eq_false_iff.2 fun hh => by have := this.1 hh; omega).symm), by (repeat' (first | (with_reducible exact Below.refl _ _) | (with_reducible assumption) | (with_reducible refine Below.alloc ?_ ?_ _) | (with_reducible refine L.below_drewN ?_ _) | (with_reducible refine Below.drew ?_) | (with_reducible refine Below.setCell ?_ ?_ _) | (with_reducible refine Below.frame ?_ _) | go_size))⟩
  rcases (by omega : a2 < 0 ∨ 1048576 < a2 ∨ (0 ≤ a2 ∧ a2 ≤ 1048576)) with h2 | h2 | ⟨h2, k2⟩
  · go_enter Try.func39, Try.ntmps39
    go_wp2
    refine wp_loop_rounds 3 ?_
    rw [rounds_succ]
    go_wp2
    rw [rounds_succ]
    go_wp2
    rw [rounds_succ]
    go_wp2
    go_returns
    exact ⟨ret_bool (by have := hv.out; exact (Bool.eq_false_iff.2 fun hh => by have := this.1 hh; omega).symm), by (repeat' (first | (with_reducible exact Below.refl _ _) | (with_reducible assumption) | (with_reducible refine Below.alloc ?_ ?_ _) | (with_reducible refine L.below_drewN ?_ _) | (with_reducible refine Below.drew ?_) | (with_reducible refine Below.setCell ?_ ?_ _) | (with_reducible refine Below.frame ?_ _) | go_size))⟩
  · go_enter Try.func39, Try.ntmps39
    go_wp2
    refine wp_loop_rounds 3 ?_
    rw [rounds_succ]
    go_wp2
    rw [rounds_succ]
    go_wp2
    rw [rounds_succ]
    go_wp2
    go_returns
    exact ⟨ret_bool (by have := hv.out; exact (Bool.eq_false_iff.2 fun hh => by have := this.1 hh; omega).symm), by (repeat' (first | (with_reducible exact Below.refl _ _) | (with_reducible assumption) | (with_reducible refine Below.alloc ?_ ?_ _) | (with_reducible refine L.below_drewN ?_ _) | (with_reducible refine Below.drew ?_) | (with_reducible refine Below.setCell ?_ ?_ _) | (with_reducible refine Below.frame ?_ _) | go_size))⟩
  · go_enter Try.func39, Try.ntmps39
    go_wp2
    refine wp_loop_rounds 4 ?_
    rw [rounds_succ]
    go_wp2
    rw [rounds_succ]
    go_wp2
    rw [rounds_succ]
    go_wp2
    rw [rounds_succ]
    go_wp2
    go_returns
    exact ⟨ret_bool (by have := hv.out; exact (this.2 ⟨⟨by omega, by omega⟩, ⟨by omega, by omega⟩, ⟨by omega, by omega⟩⟩).symm), by (repeat' (first | (with_reducible exact Below.refl _ _) | (with_reducible assumption) | (with_reducible refine Below.alloc ?_ ?_ _) | (with_reducible refine L.below_drewN ?_ _) | (with_reducible refine Below.drew ?_) | (with_reducible refine Below.setCell ?_ ?_ _) | (with_reducible refine Below.frame ?_ _) | go_size))⟩

set_option maxHeartbeats 1000000 in
theorem grvalid (a : Vec.V) : Gives Try.prog 30 #[a.val] (.bool (Vec.valid a)) := by
  obtain ⟨a0, a1, a2⟩ := a
  intro w
  have hv := Lib.hid (Vec.valid_iff ⟨a0, a1, a2⟩)
  unfold Vec.V.val
  obtain ⟨i0, i1, i2⟩ := idx a0 a1 a2
  rcases (by omega : a0 < 0 ∨ 1048576 < a0 ∨ (0 ≤ a0 ∧ a0 ≤ 1048576)) with h0 | h0 | ⟨h0, k0⟩
  · go_enter Try.func30, Try.ntmps30
    go_wp2
    refine wp_loop_rounds 1 ?_
    rw [rounds_succ]
    go_wp2
    go_returns
    exact ⟨ret_bool (by have := hv.out; exact (Bool.eq_false_iff.2 fun hh => by have := this.1 hh; omega).symm), by (repeat' (first | (with_reducible exact Below.refl _ _) | (with_reducible assumption) | (with_reducible refine Below.alloc ?_ ?_ _) | (with_reducible refine L.below_drewN ?_ _) | (with_reducible refine Below.drew ?_) | (with_reducible refine Below.setCell ?_ ?_ _) | (with_reducible refine Below.frame ?_ _) | go_size))⟩
  · go_enter Try.func30, Try.ntmps30
    go_wp2
    refine wp_loop_rounds 1 ?_
    rw [rounds_succ]
    go_wp2
    go_returns
    exact ⟨ret_bool (by have := hv.out; exact (Bool.eq_false_iff.2 fun hh => by have := this.1 hh; omega).symm), by (repeat' (first | (with_reducible exact Below.refl _ _) | (with_reducible assumption) | (with_reducible refine Below.alloc ?_ ?_ _) | (with_reducible refine L.below_drewN ?_ _) | (with_reducible refine Below.drew ?_) | (with_reducible refine Below.setCell ?_ ?_ _) | (with_reducible refine Below.frame ?_ _) | go_size))⟩
  rcases (by omega : a1 < 0 ∨ 1048576 < a1 ∨ (0 ≤ a1 ∧ a1 ≤ 1048576)) with h1 | h1 | ⟨h1, k1⟩
  · go_enter Try.func30, Try.ntmps30
    go_wp2
    refine wp_loop_rounds 2 ?_
    rw [rounds_succ]
    go_wp2
    rw [rounds_succ]
    go_wp2
    go_returns
    exact ⟨ret_bool (by have := hv.out; exact (Bool.eq_false_iff.2 fun hh => by have := this.1 hh; omega).symm), by (repeat' (first | (with_reducible exact Below.refl _ _) | (with_reducible assumption) | (with_reducible refine Below.alloc ?_ ?_ _) | (with_reducible refine L.below_drewN ?_ _) | (with_reducible refine Below.drew ?_) | (with_reducible refine Below.setCell ?_ ?_ _) | (with_reducible refine Below.frame ?_ _) | go_size))⟩
  · go_enter Try.func30, Try.ntmps30
    go_wp2
    refine wp_loop_rounds 2 ?_
    rw [rounds_succ]
    go_wp2
    rw [rounds_succ]
    go_wp2
    go_returns
    exact ⟨ret_bool (by have := hv.out; exact (Bool.eq_false_iff.2 fun hh => by have := this.1 hh; omega).symm), by (repeat' (first | (with_reducible exact Below.refl _ _) | (with_reducible assumption) | (with_reducible refine Below.alloc ?_ ?_ _) | (with_reducible refine L.below_drewN ?_ _) | (with_reducible refine Below.drew ?_) | (with_reducible refine Below.setCell ?_ ?_ _) | (with_reducible refine Below.frame ?_ _) | go_size))⟩
  rcases (by omega : a2 < 0 ∨ 1048576 < a2 ∨ (0 ≤ a2 ∧ a2 ≤ 1048576)) with h2 | h2 | ⟨h2, k2⟩
  · go_enter Try.func30, Try.ntmps30
    go_wp2
    refine wp_loop_rounds 3 ?_
    rw [rounds_succ]
    go_wp2
    rw [rounds_succ]
    go_wp2
    rw [rounds_succ]
    go_wp2
    go_returns
    exact ⟨ret_bool (by have := hv.out; exact (Bool.eq_false_iff.2 fun hh => by have := this.1 hh; omega).symm), by (repeat' (first | (with_reducible exact Below.refl _ _) | (with_reducible assumption) | (with_reducible refine Below.alloc ?_ ?_ _) | (with_reducible refine L.below_drewN ?_ _) | (with_reducible refine Below.drew ?_) | (with_reducible refine Below.setCell ?_ ?_ _) | (with_reducible refine Below.frame ?_ _) | go_size))⟩
  · go_enter Try.func30, Try.ntmps30
    go_wp2
    refine wp_loop_rounds 3 ?_
    rw [rounds_succ]
    go_wp2
    rw [rounds_succ]
    go_wp2
    rw [rounds_succ]
    go_wp2
    go_returns
    exact ⟨ret_bool (by have := hv.out; exact (Bool.eq_false_iff.2 fun hh => by have := this.1 hh; omega).symm), by (repeat' (first | (with_reducible exact Below.refl _ _) | (with_reducible assumption) | (with_reducible refine Below.alloc ?_ ?_ _) | (with_reducible refine L.below_drewN ?_ _) | (with_reducible refine Below.drew ?_) | (with_reducible refine Below.setCell ?_ ?_ _) | (with_reducible refine Below.frame ?_ _) | go_size))⟩
  · go_enter Try.func30, Try.ntmps30
    go_wp2
    refine wp_loop_rounds 4 ?_
    rw [rounds_succ]
    go_wp2
    rw [rounds_succ]
    go_wp2
    rw [rounds_succ]
    go_wp2
    rw [rounds_succ]
    go_wp2
    go_returns
    exact ⟨ret_bool (by have := hv.out; exact (this.2 ⟨⟨by omega, by omega⟩, ⟨by omega, by omega⟩, ⟨by omega, by omega⟩⟩).symm), by (repeat' (first | (with_reducible exact Below.refl _ _) | (with_reducible assumption) | (with_reducible refine Below.alloc ?_ ?_ _) | (with_reducible refine L.below_drewN ?_ _) | (with_reducible refine Below.drew ?_) | (with_reducible refine Below.setCell ?_ ?_ _) | (with_reducible refine Below.frame ?_ _) | go_size))⟩

end Go.Proofs.Ytplbdipgnhddkaa.VecW
