/-
  Two lists of amounts compared: the reference's List says yes of like ones.
-/
import Derived.Test.YtjkmcncgndkdoaaVRow
set_option linter.unusedVariables false
set_option linter.unusedSimpArgs false
namespace Go.Proofs.Ytjkmcncgndkdoaa.CfgW
open Go.RowKit Go.Proofs.Ytjkmcncgndkdoaa.L

theorem sameV_self (v : Vec.V) : Cfg.sameV ⟨v.x, v.y, v.z⟩ ⟨v.x, v.y, v.z⟩ = true := by simp [Cfg.sameV]
set_option maxRecDepth 100000 in
set_option maxHeartbeats 4000000 in
theorem list_same {w : World} {va vb : Value} {xs : List Vec.V} (ha : VSl w va xs) (hb : VSl w vb xs) : GivesAt Try.prog w 30 #[va, vb] (.bool true) := by
  intro w1 hb1
  replace ha := ha.below hb1
  replace hb := hb.below hb1
  clear hb1
  obtain ⟨A, ca, rfl, ha, hla⟩ := ha
  obtain ⟨B, cb, rfl, hb, hlb⟩ := hb
  unfold maxLen at hla
  have HA := Lib.hid ha
  have HB := Lib.hid hb
  obtain ⟨N, hN⟩ : ∃ N, xs.length = N := ⟨_, rfl⟩
  have HN := Lib.hid hN
  rw [hN] at hla ⊢
  clear ha hb hN hlb
  go_enter Try.func30, Try.ntmps30
  have ht : ((N : Int) != (N : Int)) = false := by simp
  go_wp2_with fail
  go_loopw [5] (fun i wr => ∃ j : Nat, i = .int .i64 (j : Int) ∧ j ≤ N ∧ Below w1.heap.size w1 wr) (fun i _ => N - (intOf i).toNat)
  case atStart => exact ⟨0, rfl, by omega, Below.refl _ _⟩
  case round =>
    obtain ⟨j, rfl, hj, hbw⟩ := hrel
    by_cases hjn : j < N
    · have hja : j < xs.length := by rw [HN.out]; exact hjn
      obtain ⟨ba, oa, rfl, hlt1, hc1⟩ := row_vec HA.out hja
      obtain ⟨bb, ob, rfl, hlt2, hc2⟩ := row_vec HB.out hja
      obtain ⟨p0, p1, p2⟩ := hc1 wr hbw
      obtain ⟨q0, q1, q2⟩ := hc2 wr hbw
      have hs := sameV_self xs[j]
      generalize xs[j] = v at *
      obtain ⟨x, y, z⟩ := v
      simp only at p0 p1 p2 q0 q1 q2 hs
      have Hbw := Lib.hid hbw
      clear hc1 hc2 hbw
      go_wp2_with fail
      go_quiet (fail)
      go_wp2_with fail
      go_roundw
      case rel => exact ⟨j + 1, by go_num, by omega, by have := Hbw.out; (repeat' (first | (with_reducible exact Below.refl _ _) | (with_reducible assumption) | (with_reducible refine Below.alloc ?_ ?_ _) | (with_reducible refine Go.Proofs.Ytjkmcncgndkdoaa.L.below_drewN ?_ _) | (with_reducible refine Below.drew ?_) | (with_reducible refine Below.setCell ?_ ?_ _) | (with_reducible refine Below.frame ?_ _) | go_size))⟩
      case measure => simp [intOf]; omega
    · have Hbw := Lib.hid hbw
      clear hbw
      go_wp2_with fail
      go_ret
      exact ⟨rfl, Hbw.out⟩
end Go.Proofs.Ytjkmcncgndkdoaa.CfgW
