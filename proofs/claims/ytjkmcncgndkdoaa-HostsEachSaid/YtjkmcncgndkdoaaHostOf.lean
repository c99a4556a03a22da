/-
  A host's place; are two hosts of one group? The contracts of hosts.of and of the reference's alike.
-/
import Derived.Test.YtjkmcncgndkdoaaPlaceKey
set_option linter.unusedVariables false
set_option linter.unusedSimpArgs false
namespace Go.Proofs.Ytjkmcncgndkdoaa.CfgW
open Go.RowKit Go.Proofs.Ytjkmcncgndkdoaa.L

def hagg (h : Cfg.Host) : Value := .agg #[.int .i64 h.flavor, .int .i64 h.block, .int .i64 h.rack, .int .i64 h.cap.x, .int .i64 h.cap.y, .int .i64 h.cap.z]
set_option maxRecDepth 100000 in
set_option maxHeartbeats 2000000 in
theorem gof (h : Cfg.Host) (i level : Int) : Gives Try.prog 68 #[hagg h, .int .i64 i, .int .i64 level] (penc (Hst.placeOf h i level)) := by
  intro w
  obtain ⟨h0, h1, h2, ⟨h3, h4, h5⟩⟩ := h
  unfold hagg
  go_enter Try.func68, Try.ntmps68
  by_cases l0 : 0 < level
  · have t0 : decide ((0 : Int) < level) = true := by simpa using l0
    by_cases l1 : 1 < level
    · have t1 : decide ((1 : Int) < level) = true := by simpa using l1
      by_cases l2 : 2 < level
      · have t2 : decide ((2 : Int) < level) = true := by simpa using l2
        have hv : penc (Hst.placeOf ⟨h0, h1, h2, ⟨h3, h4, h5⟩⟩ i level) = .agg #[.int .i64 h0, .int .i64 0, .int .i64 0, .int .i64 0] := by simp [penc, Hst.placeOf, l0, l1, l2]
        rw [hv]
        clear l0 l1 l2 hv
        go_wp2_with fail
        exact bodyPost_ret (v := .agg #[.int .i64 h0, .int .i64 0, .int .i64 0, .int .i64 0]) (by simp [results, Try.results68, go_sem]) rfl ⟨rfl, by (repeat' (first | (with_reducible exact Below.refl _ _) | (with_reducible assumption) | (with_reducible refine Below.alloc ?_ ?_ _) | (with_reducible refine Go.Proofs.Ytjkmcncgndkdoaa.L.below_drewN ?_ _) | (with_reducible refine Below.drew ?_) | (with_reducible refine Below.setCell ?_ ?_ _) | (with_reducible refine Below.frame ?_ _) | go_size))⟩
      · have t2 : decide ((2 : Int) < level) = false := by simpa using l2
        have hv : penc (Hst.placeOf ⟨h0, h1, h2, ⟨h3, h4, h5⟩⟩ i level) = .agg #[.int .i64 h0, .int .i64 h1, .int .i64 0, .int .i64 0] := by simp [penc, Hst.placeOf, l0, l1, l2]
        rw [hv]
        clear l0 l1 l2 hv
        go_wp2_with fail
        exact bodyPost_ret (v := .agg #[.int .i64 h0, .int .i64 h1, .int .i64 0, .int .i64 0]) (by simp [results, Try.results68, go_sem]) rfl ⟨rfl, by (repeat' (first | (with_reducible exact Below.refl _ _) | (with_reducible assumption) | (with_reducible refine Below.alloc ?_ ?_ _) | (with_reducible refine Go.Proofs.Ytjkmcncgndkdoaa.L.below_drewN ?_ _) | (with_reducible refine Below.drew ?_) | (with_reducible refine Below.setCell ?_ ?_ _) | (with_reducible refine Below.frame ?_ _) | go_size))⟩
    · have t1 : decide ((1 : Int) < level) = false := by simpa using l1
      have t2 : decide ((2 : Int) < level) = false := by simp; omega
      have hv : penc (Hst.placeOf ⟨h0, h1, h2, ⟨h3, h4, h5⟩⟩ i level) = .agg #[.int .i64 h0, .int .i64 h1, .int .i64 h2, .int .i64 0] := by simp [penc, Hst.placeOf, l0, l1]; omega
      rw [hv]
      clear l0 l1 hv
      go_wp2_with fail
      exact bodyPost_ret (v := .agg #[.int .i64 h0, .int .i64 h1, .int .i64 h2, .int .i64 0]) (by simp [results, Try.results68, go_sem]) rfl ⟨rfl, by (repeat' (first | (with_reducible exact Below.refl _ _) | (with_reducible assumption) | (with_reducible refine Below.alloc ?_ ?_ _) | (with_reducible refine Go.Proofs.Ytjkmcncgndkdoaa.L.below_drewN ?_ _) | (with_reducible refine Below.drew ?_) | (with_reducible refine Below.setCell ?_ ?_ _) | (with_reducible refine Below.frame ?_ _) | go_size))⟩
  · have t0 : decide ((0 : Int) < level) = false := by simpa using l0
    have t1 : decide ((1 : Int) < level) = false := by simp; omega
    have t2 : decide ((2 : Int) < level) = false := by simp; omega
    have hv : penc (Hst.placeOf ⟨h0, h1, h2, ⟨h3, h4, h5⟩⟩ i level) = .agg #[.int .i64 h0, .int .i64 h1, .int .i64 h2, .int .i64 i] := by
      have l1 : ¬ 1 < level := by omega
      have l2 : ¬ 2 < level := by omega
      simp [penc, Hst.placeOf, l0, l1, l2]
    rw [hv]
    clear l0 hv
    go_wp2_with fail
    exact bodyPost_ret (v := .agg #[.int .i64 h0, .int .i64 h1, .int .i64 h2, .int .i64 i]) (by simp [results, Try.results68, go_sem]) rfl ⟨rfl, by (repeat' (first | (with_reducible exact Below.refl _ _) | (with_reducible assumption) | (with_reducible refine Below.alloc ?_ ?_ _) | (with_reducible refine Go.Proofs.Ytjkmcncgndkdoaa.L.below_drewN ?_ _) | (with_reducible refine Below.drew ?_) | (with_reducible refine Below.setCell ?_ ?_ _) | (with_reducible refine Below.frame ?_ _) | go_size))⟩
end Go.Proofs.Ytjkmcncgndkdoaa.CfgW
