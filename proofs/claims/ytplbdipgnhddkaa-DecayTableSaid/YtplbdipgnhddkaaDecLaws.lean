/-
  Chapter 2's statements on factors and on what is left, over any world.
-/
import Derived.Test.YtplbdipgnhddkaaDecRef
set_option linter.unusedVariables false
set_option linter.unusedSimpArgs false
namespace Go.Proofs.Ytplbdipgnhddkaa.DecW
open Go.RowKit Go.Proofs.Ytplbdipgnhddkaa.L

theorem gfac (age half : Int) (h : (-9223372036854775808 ≤ age ∧ age ≤ 9223372036854775807) ∧ (-9223372036854775808 ≤ half ∧ half ≤ 9223372036854775807)) : Gives Try.prog 32 #[.int .i64 age, .int .i64 half] (.int .u64 (Dec.factor age half : Int)) :=
  fun w => factor_any age half h.1.1 h.1.2 h.2.1 h.2.2 w
theorem grfac (age half : Int) (h : (-9223372036854775808 ≤ age ∧ age ≤ 9223372036854775807) ∧ (-9223372036854775808 ≤ half ∧ half ≤ 9223372036854775807)) : Gives Try.prog 33 #[.int .i64 age, .int .i64 half] (.int .u64 (Dec.factor age half : Int)) :=
  fun w => rfactor_any age half h.1.1 h.1.2 h.2.1 h.2.2 w
theorem gtable : Gives Try.prog 35 #[] tabV := fun w => table_any w
theorem grtable : Gives Try.prog 37 #[] tabV := fun w => rtable_any w

set_option maxHeartbeats 400000 in
theorem gapply (x : Nat) (hx : x ≤ Fix.top) (age half : Int) (h : (-9223372036854775808 ≤ age ∧ age ≤ 9223372036854775807) ∧ (-9223372036854775808 ≤ half ∧ half ≤ 9223372036854775807)) : Gives Try.prog 40 #[.int .u64 x, .int .i64 age, .int .i64 half] (.int .u64 (Dec.apply x age half : Int)) := by
  have g1 := gfac age half h
  have g2 := FixW.gmul x (Dec.factor age half) hx (Dec.factor_top age half)
  intro w
  unfold Dec.apply
  generalize Dec.factor age half = F at *
  generalize Fix.mul x F = M at *
  clear h hx
  go_enter Try.func40, Try.ntmps40
  go_wp2_with fail
  refine (g1 _).mono ?_
  rintro e w101 ⟨rfl, hbq⟩
  replace hbw := keeps_trans (a := w) (by (repeat' (first | (with_reducible exact Below.refl _ _) | (with_reducible assumption) | (with_reducible refine Below.alloc ?_ ?_ _) | (with_reducible refine L.below_drewN ?_ _) | (with_reducible refine Below.drew ?_) | (with_reducible refine Below.setCell ?_ ?_ _) | (with_reducible refine Below.frame ?_ _) | go_size))) hbq
  clear hbq
  go_wp2_with fail
  refine (g2 _).mono ?_
  rintro e w102 ⟨rfl, hbq⟩
  replace hbw := keeps_trans (a := w) (by (repeat' (first | (with_reducible exact Below.refl _ _) | (with_reducible assumption) | (with_reducible refine Below.alloc ?_ ?_ _) | (with_reducible refine L.below_drewN ?_ _) | (with_reducible refine Below.drew ?_) | (with_reducible refine Below.setCell ?_ ?_ _) | (with_reducible refine Below.frame ?_ _) | go_size))) hbq
  clear hbq
  go_wp2
  go_ret
  exact ⟨rfl, by (repeat' (first | (with_reducible exact Below.refl _ _) | (with_reducible assumption) | (with_reducible refine Below.alloc ?_ ?_ _) | (with_reducible refine L.below_drewN ?_ _) | (with_reducible refine Below.drew ?_) | (with_reducible refine Below.setCell ?_ ?_ _) | (with_reducible refine Below.frame ?_ _) | go_size))⟩
set_option maxHeartbeats 400000 in
theorem grapply (x : Nat) (hx : x ≤ Fix.top) (age half : Int) (h : (-9223372036854775808 ≤ age ∧ age ≤ 9223372036854775807) ∧ (-9223372036854775808 ≤ half ∧ half ≤ 9223372036854775807)) : Gives Try.prog 41 #[.int .u64 x, .int .i64 age, .int .i64 half] (.int .u64 (Dec.apply x age half : Int)) := by
  have g1 := grfac age half h
  have g2 := FixW.grmul x (Dec.factor age half) hx (Dec.factor_top age half)
  intro w
  unfold Dec.apply
  generalize Dec.factor age half = F at *
  generalize Fix.mul x F = M at *
  clear h hx
  go_enter Try.func41, Try.ntmps41
  go_wp2_with fail
  refine (g1 _).mono ?_
  rintro e w103 ⟨rfl, hbq⟩
  replace hbw := keeps_trans (a := w) (by (repeat' (first | (with_reducible exact Below.refl _ _) | (with_reducible assumption) | (with_reducible refine Below.alloc ?_ ?_ _) | (with_reducible refine L.below_drewN ?_ _) | (with_reducible refine Below.drew ?_) | (with_reducible refine Below.setCell ?_ ?_ _) | (with_reducible refine Below.frame ?_ _) | go_size))) hbq
  clear hbq
  go_wp2_with fail
  refine (g2 _).mono ?_
  rintro e w104 ⟨rfl, hbq⟩
  replace hbw := keeps_trans (a := w) (by (repeat' (first | (with_reducible exact Below.refl _ _) | (with_reducible assumption) | (with_reducible refine Below.alloc ?_ ?_ _) | (with_reducible refine L.below_drewN ?_ _) | (with_reducible refine Below.drew ?_) | (with_reducible refine Below.setCell ?_ ?_ _) | (with_reducible refine Below.frame ?_ _) | go_size))) hbq
  clear hbq
  go_wp2
  go_ret
  exact ⟨rfl, by (repeat' (first | (with_reducible exact Below.refl _ _) | (with_reducible assumption) | (with_reducible refine Below.alloc ?_ ?_ _) | (with_reducible refine L.below_drewN ?_ _) | (with_reducible refine Below.drew ?_) | (with_reducible refine Below.setCell ?_ ?_ _) | (with_reducible refine Below.frame ?_ _) | go_size))⟩

theorem a1 : Gives Try.prog 32 #[.int .i64 0, .int .i64 10] (.int .u64 4294967296) := (gfac 0 10 (by omega)).val (ret_val (by rw [Dec.ex1.1]; rfl))
theorem a2 : Gives Try.prog 32 #[.int .i64 10, .int .i64 10] (.int .u64 2147483648) := (gfac 10 10 (by omega)).val (ret_val (by rw [Dec.ex1.2.1]; rfl))
theorem a3 : Gives Try.prog 32 #[.int .i64 5, .int .i64 10] (.int .u64 3037000499) := (gfac 5 10 (by omega)).val (ret_val (by rw [Dec.ex1.2.2.1]; rfl))
theorem a4 : Gives Try.prog 32 #[.int .i64 640, .int .i64 10] (.int .u64 0) := (gfac 640 10 (by omega)).val (ret_val (by rw [Dec.ex1.2.2.2]; rfl))

set_option maxHeartbeats 400000 in
theorem awake02 : Gives Try.prog 34 #[] (.bool true) := by
  have hi := tab_index 15 (by omega)
  rw [show ((Dec.t 15 : Nat) : Int) = 4294921869 by rfl, show (((15 : Nat)) : Int) = 15 by rfl] at hi
  intro w
  go_enter Try.func34, Try.ntmps34
  go_wp2_with fail
  refine (a1 _).mono ?_
  rintro e w105 ⟨rfl, hbq⟩
  replace hbw := keeps_trans (a := w) (by (repeat' (first | (with_reducible exact Below.refl _ _) | (with_reducible assumption) | (with_reducible refine Below.alloc ?_ ?_ _) | (with_reducible refine L.below_drewN ?_ _) | (with_reducible refine Below.drew ?_) | (with_reducible refine Below.setCell ?_ ?_ _) | (with_reducible refine Below.frame ?_ _) | go_size))) hbq
  clear hbq
  go_wp2_with fail
  refine (a2 _).mono ?_
  rintro e w106 ⟨rfl, hbq⟩
  replace hbw := keeps_trans (a := w) (by (repeat' (first | (with_reducible exact Below.refl _ _) | (with_reducible assumption) | (with_reducible refine Below.alloc ?_ ?_ _) | (with_reducible refine L.below_drewN ?_ _) | (with_reducible refine Below.drew ?_) | (with_reducible refine Below.setCell ?_ ?_ _) | (with_reducible refine Below.frame ?_ _) | go_size))) hbq
  clear hbq
  go_wp2_with fail
  refine (a3 _).mono ?_
  rintro e w107 ⟨rfl, hbq⟩
  replace hbw := keeps_trans (a := w) (by (repeat' (first | (with_reducible exact Below.refl _ _) | (with_reducible assumption) | (with_reducible refine Below.alloc ?_ ?_ _) | (with_reducible refine L.below_drewN ?_ _) | (with_reducible refine Below.drew ?_) | (with_reducible refine Below.setCell ?_ ?_ _) | (with_reducible refine Below.frame ?_ _) | go_size))) hbq
  clear hbq
  go_wp2_with fail
  refine (a4 _).mono ?_
  rintro e w108 ⟨rfl, hbq⟩
  replace hbw := keeps_trans (a := w) (by (repeat' (first | (with_reducible exact Below.refl _ _) | (with_reducible assumption) | (with_reducible refine Below.alloc ?_ ?_ _) | (with_reducible refine L.below_drewN ?_ _) | (with_reducible refine Below.drew ?_) | (with_reducible refine Below.setCell ?_ ?_ _) | (with_reducible refine Below.frame ?_ _) | go_size))) hbq
  clear hbq
  go_wp2_with fail
  refine (gtable _).mono ?_
  rintro e w109 ⟨rfl, hbq⟩
  replace hbw := keeps_trans (a := w) (by (repeat' (first | (with_reducible exact Below.refl _ _) | (with_reducible assumption) | (with_reducible refine Below.alloc ?_ ?_ _) | (with_reducible refine L.below_drewN ?_ _) | (with_reducible refine Below.drew ?_) | (with_reducible refine Below.setCell ?_ ?_ _) | (with_reducible refine Below.frame ?_ _) | go_size))) hbq
  clear hbq
  go_wp2
  go_ret
  exact ⟨rfl, by (repeat' (first | (with_reducible exact Below.refl _ _) | (with_reducible assumption) | (with_reducible refine Below.alloc ?_ ?_ _) | (with_reducible refine L.below_drewN ?_ _) | (with_reducible refine Below.drew ?_) | (with_reducible refine Below.setCell ?_ ?_ _) | (with_reducible refine Below.frame ?_ _) | go_size))⟩

set_option maxHeartbeats 400000 in
theorem factors_law (age half : Int) (h : (-9223372036854775808 ≤ age ∧ age ≤ 9223372036854775807) ∧ (-9223372036854775808 ≤ half ∧ half ≤ 9223372036854775807)) : Gives Try.prog 7 #[.int .i64 age, .int .i64 half] (.bool true) := by
  have g1 := gfac age half h
  have g2 := grfac age half h
  generalize Dec.factor age half = F at *
  clear h
  intro w
  go_enter Try.func7, Try.ntmps7
  go_wp2_with fail
  refine (g1 _).mono ?_
  rintro e w110 ⟨rfl, hbq⟩
  replace hbw := keeps_trans (a := w) (by (repeat' (first | (with_reducible exact Below.refl _ _) | (with_reducible assumption) | (with_reducible refine Below.alloc ?_ ?_ _) | (with_reducible refine L.below_drewN ?_ _) | (with_reducible refine Below.drew ?_) | (with_reducible refine Below.setCell ?_ ?_ _) | (with_reducible refine Below.frame ?_ _) | go_size))) hbq
  clear hbq
  go_wp2_with fail
  refine (g2 _).mono ?_
  rintro e w111 ⟨rfl, hbq⟩
  replace hbw := keeps_trans (a := w) (by (repeat' (first | (with_reducible exact Below.refl _ _) | (with_reducible assumption) | (with_reducible refine Below.alloc ?_ ?_ _) | (with_reducible refine L.below_drewN ?_ _) | (with_reducible refine Below.drew ?_) | (with_reducible refine Below.setCell ?_ ?_ _) | (with_reducible refine Below.frame ?_ _) | go_size))) hbq
  clear hbq
  go_wp2_with fail
  refine (awake02 _).mono ?_
  rintro e w112 ⟨rfl, hbq⟩
  replace hbw := keeps_trans (a := w) (by (repeat' (first | (with_reducible exact Below.refl _ _) | (with_reducible assumption) | (with_reducible refine Below.alloc ?_ ?_ _) | (with_reducible refine L.below_drewN ?_ _) | (with_reducible refine Below.drew ?_) | (with_reducible refine Below.setCell ?_ ?_ _) | (with_reducible refine Below.frame ?_ _) | go_size))) hbq
  clear hbq
  go_wp2
  go_ret
  exact ⟨rfl, by (repeat' (first | (with_reducible exact Below.refl _ _) | (with_reducible assumption) | (with_reducible refine Below.alloc ?_ ?_ _) | (with_reducible refine L.below_drewN ?_ _) | (with_reducible refine Below.drew ?_) | (with_reducible refine Below.setCell ?_ ?_ _) | (with_reducible refine Below.frame ?_ _) | go_size))⟩

set_option maxHeartbeats 400000 in
theorem applies_law (x : Nat) (hx : x ≤ Fix.top) (age half : Int) (h : (-9223372036854775808 ≤ age ∧ age ≤ 9223372036854775807) ∧ (-9223372036854775808 ≤ half ∧ half ≤ 9223372036854775807)) : Gives Try.prog 11 #[.int .u64 x, .int .i64 age, .int .i64 half] (.bool true) := by
  have g1 := gapply x hx age half h
  have g2 := grapply x hx age half h
  generalize Dec.apply x age half = F at *
  clear h hx
  intro w
  go_enter Try.func11, Try.ntmps11
  go_wp2_with fail
  refine (g1 _).mono ?_
  rintro e w113 ⟨rfl, hbq⟩
  replace hbw := keeps_trans (a := w) (by (repeat' (first | (with_reducible exact Below.refl _ _) | (with_reducible assumption) | (with_reducible refine Below.alloc ?_ ?_ _) | (with_reducible refine L.below_drewN ?_ _) | (with_reducible refine Below.drew ?_) | (with_reducible refine Below.setCell ?_ ?_ _) | (with_reducible refine Below.frame ?_ _) | go_size))) hbq
  clear hbq
  go_wp2_with fail
  refine (g2 _).mono ?_
  rintro e w114 ⟨rfl, hbq⟩
  replace hbw := keeps_trans (a := w) (by (repeat' (first | (with_reducible exact Below.refl _ _) | (with_reducible assumption) | (with_reducible refine Below.alloc ?_ ?_ _) | (with_reducible refine L.below_drewN ?_ _) | (with_reducible refine Below.drew ?_) | (with_reducible refine Below.setCell ?_ ?_ _) | (with_reducible refine Below.frame ?_ _) | go_size))) hbq
  clear hbq
  go_wp2_with fail
  refine (awake02 _).mono ?_
  rintro e w115 ⟨rfl, hbq⟩
  replace hbw := keeps_trans (a := w) (by (repeat' (first | (with_reducible exact Below.refl _ _) | (with_reducible assumption) | (with_reducible refine Below.alloc ?_ ?_ _) | (with_reducible refine L.below_drewN ?_ _) | (with_reducible refine Below.drew ?_) | (with_reducible refine Below.setCell ?_ ?_ _) | (with_reducible refine Below.frame ?_ _) | go_size))) hbq
  clear hbq
  go_wp2
  go_ret
  exact ⟨rfl, by (repeat' (first | (with_reducible exact Below.refl _ _) | (with_reducible assumption) | (with_reducible refine Below.alloc ?_ ?_ _) | (with_reducible refine L.below_drewN ?_ _) | (with_reducible refine Below.drew ?_) | (with_reducible refine Below.setCell ?_ ?_ _) | (with_reducible refine Below.frame ?_ _) | go_size))⟩
end Go.Proofs.Ytplbdipgnhddkaa.DecW
