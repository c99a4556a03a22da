/-
  What all nodes use: the contract of a ledger's All; a ledger that is none.
-/
import Derived.Test.YtjkmcncgndkdoaaLedGive
set_option linter.unusedVariables false
set_option linter.unusedSimpArgs false
namespace Go.Proofs.Ytjkmcncgndkdoaa.CfgW
open Go Go.RowKit Go.Proofs.Ytjkmcncgndkdoaa.L

def fillTo (f : Nat → Vec.V) (n k : Nat) : List Vec.V := (List.range n).map fun i => if i < k then f i else Vec.zero
theorem fillTo_length (f : Nat → Vec.V) (n k : Nat) : (fillTo f n k).length = n := by simp [fillTo]
theorem fillTo_zero (f : Nat → Vec.V) (n : Nat) : fillTo f n 0 = List.replicate n Vec.zero := by
  apply List.ext_getElem?
  intro i
  by_cases h : i < n <;> simp [fillTo, h]
theorem fillTo_all (f : Nat → Vec.V) (n : Nat) : fillTo f n n = (List.range n).map f := by
  apply List.ext_getElem?
  intro i
  by_cases h : i < n <;> simp [fillTo, h]
theorem fillTo_set (f : Nat → Vec.V) (n k : Nat) (h : k < n) : (fillTo f n k).set k (f k) = fillTo f n (k + 1) := by
  apply List.ext_getElem?
  intro i
  by_cases hi : i = k
  · subst hi
    rw [List.getElem?_set_self (by rw [fillTo_length]; exact h)]
    simp [fillTo, h]
  · rw [List.getElem?_set_ne (Ne.symm hi)]
    by_cases h2 : i < n
    · have : (i < k + 1) = (i < k) := by simp; omega
      simp [fillTo, h2, this]
    · simp [fillTo, h2]

def AllEnd (l : List Vec.V) (w : World) (e : Ending) (w' : World) : Prop := ∃ v, e = .returned v ∧ VRow w' w.heap.size v l ∧ Below w.heap.size w w'

set_option maxRecDepth 100000 in
set_option maxHeartbeats 4000000 in
theorem lall_any {w : World} {g mb : Nat} {v1 v2 : Value} {half age : Int} {c : Cfg.C} {u : Led.U} (h : LedAt w g mb v1 v2 half age c u) (hN : c.nodes.length ≤ 1000000) :
    Calls Try.prog 31 #[.pointer (some ⟨g, 0, none⟩)] w fun e w' => AllEnd (Led.all c u) w e w' := by
  have H := Lib.hid h
  have hg := h.box.1
  have b0 := h.box.2.1
  obtain ⟨v1', v2', ee, ⟨A, ca, e1, hrA, hlA⟩, _⟩ := h.cfg
  have ev1 : v1 = .slice A c.nodes.length ca := by
    simp only [Value.agg.injEq, Array.mk.injEq, List.cons.injEq, and_true] at ee
    rw [ee.1, e1]
  obtain ⟨N, hNe⟩ : ∃ N, c.nodes.length = N := ⟨_, rfl⟩
  have HN := Lib.hid hNe
  rw [hNe] at ev1 hN
  rw [ev1] at b0
  obtain ⟨w2, hr2, hv2, hb2, hs2⟩ := make_vecs w N (by omega)
  have Hv2 := Lib.hid hv2
  have Hb2 := Lib.hid hb2
  clear h hlA hrA e1 ee hv2 hb2 hNe ev1
  go_enter Try.func31, Try.ntmps31
  go_wp2_with fail
  clear hr2 b0
  go_loopw [16] (fun i wr => ∃ k : Nat, i = .int .i64 (k : Int) ∧ k ≤ N ∧ VRow wr w.heap.size (.slice (some ⟨w.heap.size, 0, none⟩) N N) (fillTo u N k) ∧ Below w.heap.size w wr) (fun i _ => N - (intOf i).toNat)
  case atStart => exact ⟨0, rfl, by omega, by rw [fillTo_zero]; exact Hv2.out, Hb2.out⟩
  case round =>
    obtain ⟨k, rfl, hk, hrow, hb⟩ := hrel
    rename World => wr
    by_cases hkn : k < N
    · have h3 := H.out.on hb
      obtain ⟨L, hL, hu⟩ := h3.map
      have hlk := (hL.look ikey (t := 80) (et := 33) Try.underlying80 vec_zero (k : Int)).2
      have hat : Led.at_ c u (k : Int) = u k := by unfold Led.at_; rw [if_pos ⟨by omega, by rw [HN.out]; omega⟩, Int.toNat_natCast]
      rw [hu, hat] at hlk
      have hp := h3.ptr
      have hg3 := h3.box.1
      obtain ⟨-, -, hgl, q0, q1, q2⟩ := hrow.at_ (i := k) (by rw [fillTo_length]; exact hkn)
      have fz := hrow.ok
      have HS := Lib.hid (hrow.set k (u k))
      rw [fillTo_set u N k hkn] at HS
      have Hb := Lib.hid (put3_below (w0 := w) hb (Nat.le_refl _) (k * 3) (u k))
      unfold put3 at Hb
      have f0 := fz (k * 3)
      have f1 := fz (k * 3 + 1)
      have f2 := fz (k * 3 + 2)
      generalize u k = y at *
      obtain ⟨y0, y1, y2⟩ := y
      simp only [Vec.V.val] at hlk
      have hkl : k < (fillTo u N k).length := by rw [fillTo_length]; exact hkn
      generalize (fillTo u N k)[k]'hkl = z at *
      clear hL hu hat h3 hrow fz hb hkl
      go_wp2_with fail
      go_roundw
      case rel => exact ⟨k + 1, by go_num, by omega, HS.out, Hb.out⟩
      case measure => simp [intOf]; omega
    · have HE := Lib.hid (show AllEnd (Led.all c u) w (.returned (.slice (some ⟨w.heap.size, 0, none⟩) N N)) wr from ⟨_, rfl, by
        have e : k = N := by omega
        subst e
        rw [fillTo_all] at hrow
        unfold Led.all
        rw [HN.out]; exact hrow, hb⟩)
      clear hrow hb
      go_wp2_with fail
      go_ret
      exact HE.out

/-! ### a ledger that is none -/
set_option maxHeartbeats 400000 in
theorem all_none (w : World) : Calls Try.prog 31 #[.pointer none] w fun e w' => e = .returned (.slice none 0 0) ∧ Below w.heap.size w w' := by
  go_enter Try.func31, Try.ntmps31
  go_wp2_with fail
  go_ret
  exact ⟨rfl, Below.refl _ _⟩
set_option maxHeartbeats 400000 in
theorem used_none (n : Int) (w : World) : Calls Try.prog 32 #[.pointer none, .int .i64 n] w fun e w' => e = .returned zeroV ∧ Below w.heap.size w w' := by
  go_enter Try.func32, Try.ntmps32
  go_wp2_with fail
  exact bodyPost_ret (v := .agg #[.int .i64 0, .int .i64 0, .int .i64 0]) (by simp [results, Try.results32, go_sem]) rfl ⟨rfl, by (repeat' (first | (with_reducible exact Below.refl _ _) | (with_reducible assumption) | (with_reducible refine Below.alloc ?_ ?_ _) | (with_reducible refine Go.Proofs.Ytjkmcncgndkdoaa.L.below_drewN ?_ _) | (with_reducible refine Below.drew ?_) | (with_reducible refine Below.setCell ?_ ?_ _) | (with_reducible refine Below.frame ?_ _) | go_size))⟩
set_option maxHeartbeats 400000 in
theorem take_none (n x0 x1 x2 : Int) (w : World) : Calls Try.prog 28 #[.pointer none, .int .i64 n, .agg #[.int .i64 x0, .int .i64 x1, .int .i64 x2]] w fun e w' => e = .returned (.int .i64 1) ∧ Below w.heap.size w w' := by
  go_enter Try.func28, Try.ntmps28
  go_wp2_with fail
  go_ret
  exact ⟨rfl, by (repeat' (first | (with_reducible exact Below.refl _ _) | (with_reducible assumption) | (with_reducible refine Below.alloc ?_ ?_ _) | (with_reducible refine Go.Proofs.Ytjkmcncgndkdoaa.L.below_drewN ?_ _) | (with_reducible refine Below.drew ?_) | (with_reducible refine Below.setCell ?_ ?_ _) | (with_reducible refine Below.frame ?_ _) | go_size))⟩
set_option maxHeartbeats 400000 in
theorem give_none (n x0 x1 x2 : Int) (w : World) : Calls Try.prog 26 #[.pointer none, .int .i64 n, .agg #[.int .i64 x0, .int .i64 x1, .int .i64 x2]] w fun e w' => e = .returned (.int .i64 1) ∧ Below w.heap.size w w' := by
  go_enter Try.func26, Try.ntmps26
  go_wp2_with fail
  refine region_keep (by kernel_rfl) (by kernel_rfl) ?_
  repeat (first | (apply Go.Proofs.Ytjkmcncgndkdoaa.L.wpKeep_yes; (focus rfl); (focus (intro W hW; go_simp; first | done | exact ⟨rfl, hW⟩ | rfl)); (focus (go_simp; first | done | rfl))) | (apply Go.Proofs.Ytjkmcncgndkdoaa.L.wpKeep_no; (focus rfl); (focus (go_simp; first | done | rfl))))
  refine wpKeep_nil ?_
  intro W hW
  go_wp2_with fail
  go_ret
  exact ⟨rfl, keeps_trans (by (repeat' (first | (with_reducible exact Below.refl _ _) | (with_reducible assumption) | (with_reducible refine Below.alloc ?_ ?_ _) | (with_reducible refine Go.Proofs.Ytjkmcncgndkdoaa.L.below_drewN ?_ _) | (with_reducible refine Below.drew ?_) | (with_reducible refine Below.setCell ?_ ?_ _) | (with_reducible refine Below.frame ?_ _) | go_size))) hW⟩
end Go.Proofs.Ytjkmcncgndkdoaa.CfgW
