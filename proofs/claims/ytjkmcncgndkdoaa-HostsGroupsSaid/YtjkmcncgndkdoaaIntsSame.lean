/-
  Two rows of whole numbers compared: the reference's Ints says yes of like ones.
-/
import Derived.Test.YtjkmcncgndkdoaaRuns
set_option linter.unusedVariables false
set_option linter.unusedSimpArgs false
namespace Go.Proofs.Ytjkmcncgndkdoaa.CfgW
open Go.RowKit Go.Proofs.Ytjkmcncgndkdoaa.L

set_option maxRecDepth 100000 in
set_option maxHeartbeats 4000000 in
theorem ints_same {w : World} {va vb : Value} {xs : List Int} (ha : ISl w va xs) (hb : ISl w vb xs) : GivesAt Try.prog w 67 #[va, vb] (.bool true) := by
  intro w1 hb1
  replace ha := ha.below hb1
  replace hb := hb.below hb1
  clear hb1
  obtain ⟨A, ca, rfl, ha, hla⟩ := ha
  obtain ⟨B, cb, rfl, hb, hlb⟩ := hb
  unfold maxLen at hla
  have HA := Lib.hid ha
  have HB := Lib.hid hb
  obtain ⟨N, hN⟩ : ∃ N, xs.length = N := ⟨_, rfl⟩
  have HN := Lib.hid hN
  rw [hN] at hla ⊢
  clear ha hb hN hlb
  go_enter Try.func67, Try.ntmps67
  have ht : ((N : Int) != (N : Int)) = false := by simp
  go_wp2_with fail
  go_loopw [5] (fun i wr => ∃ j : Nat, i = .int .i64 (j : Int) ∧ j ≤ N ∧ Below w1.heap.size w1 wr) (fun i _ => N - (intOf i).toNat)
  case atStart => exact ⟨0, rfl, by omega, Below.refl _ _⟩
  case round =>
    obtain ⟨j, rfl, hj, hbw⟩ := hrel
    by_cases hjn : j < N
    · have hja : j < xs.length := by rw [HN.out]; exact hjn
      obtain ⟨ba, oa, rfl, hlt1, hc1⟩ := row_int HA.out hja
      obtain ⟨bb, ob, rfl, hlt2, hc2⟩ := row_int HB.out hja
      have p0 := hc1 wr hbw
      have q0 := hc2 wr hbw
      generalize xs[j] = v at *
      have hs : (v != v) = false := by simp
      have Hbw := Lib.hid hbw
      clear hc1 hc2 hbw
      go_wp2_with fail
      go_quiet (fail)
      go_wp2_with fail
      go_roundw
      case rel => exact ⟨j + 1, by go_num, by omega, by have := Hbw.out; (repeat' (first | (with_reducible exact Below.refl _ _) | (with_reducible assumption) | (with_reducible refine Below.alloc ?_ ?_ _) | (with_reducible refine Go.Proofs.Ytjkmcncgndkdoaa.L.below_drewN ?_ _) | (with_reducible refine Below.drew ?_) | (with_reducible refine Below.setCell ?_ ?_ _) | (with_reducible refine Below.frame ?_ _) | go_size))⟩
      case measure => simp [intOf]; omega
    · have Hbw := Lib.hid hbw
      clear hbw
      go_wp2_with fail
      go_ret
      exact ⟨rfl, Hbw.out⟩
end Go.Proofs.Ytjkmcncgndkdoaa.CfgW
