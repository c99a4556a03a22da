/-
  A ledger's methods: give, what is used.
-/
import Derived.Test.YtjkmcncgndkdoaaLedTake
set_option linter.unusedVariables false
set_option linter.unusedSimpArgs false
namespace Go.Proofs.Ytjkmcncgndkdoaa.CfgW
open Go Go.RowKit Go.Proofs.Ytjkmcncgndkdoaa.L

theorem vec_at (c : Cfg.C) (u : Led.U) {t : Int} (h : Cfg.leaf c t = true) : Led.at_ c u t = u t.toNat := by
  have := Tree.leaf_lt h
  unfold Led.at_
  rw [if_pos this]

set_option maxRecDepth 100000 in
set_option maxHeartbeats 4000000 in
theorem lleaf_any {w : World} {g mb : Nat} {v1 v2 : Value} {half age : Int} {c : Cfg.C} {u : Led.U} (h : LedAt w g mb v1 v2 half age c u) (t : Int) :
    GivesAt Try.prog w 58 #[.pointer (some ⟨g, 0, none⟩), .int .i64 t] (Led.leafUsed c u t).val := by
  intro w1 hb1
  replace h := h.on hb1
  clear hb1
  have H := Lib.hid h
  have gl := leaf_any h.cfg t
  obtain ⟨q, hq⟩ : ∃ q, Cfg.leaf c t = q := ⟨_, rfl⟩
  have Hq := Lib.hid hq
  rw [hq] at gl
  have Gl := Lib.hid gl
  unfold Led.leafUsed
  rw [hq]
  obtain ⟨y, hy⟩ : ∃ y, (if q = true then u t.toNat else Vec.zero) = y := ⟨_, rfl⟩
  have Hy := Lib.hid hy
  rw [hy]
  obtain ⟨y0, y1, y2⟩ := y
  show Calls Try.prog 58 #[.pointer (some ⟨g, 0, none⟩), .int .i64 t] w1 fun e w' => e = .returned (.agg #[.int .i64 y0, .int .i64 y1, .int .i64 y2]) ∧ Below w1.heap.size w1 w'
  clear hy
  have hb : Below w1.heap.size w1 (w1.alloc (.cells #[.int .i64 0, .int .i64 0, .int .i64 0] 33)) := (Below.refl _ _).alloc (Nat.le_refl _) _
  have hx3 : VBox3 (w1.alloc (.cells #[.int .i64 0, .int .i64 0, .int .i64 0] 33)) w1.heap.size 0 Vec.zero := by refine ⟨by simp, ?_, ?_, ?_⟩ <;> simp [go_sem, Vec.zero]
  have hf : ∀ j, (w1.alloc (.cells #[.int .i64 0, .int .i64 0, .int .i64 0] 33)).frozen? ⟨w1.heap.size, j, none⟩ = false := fun j => by simp [go_sem]
  obtain ⟨hg, b0, b1, b2, b3⟩ := (h.on hb).box
  have Hb := Lib.hid hb
  have HX := Lib.hid hx3
  have HF := Lib.hid hf
  clear h gl hq hb hx3 hf
  go_enter Try.func58, Try.ntmps58
  go_wp2_with fail
  refine (Gl.out _ Hb.out).mono ?_
  rintro e w2 ⟨rfl, hb2⟩
  have HB2 := Lib.hid (keeps_trans Hb.out hb2)
  have H2 := Lib.hid (H.out.on HB2.out)
  obtain ⟨hz2, c0, c1, c2⟩ := HX.out.on hb2
  simp only [Vec.zero, Nat.zero_add] at c0 c1 c2
  have f0 : ∀ j, w2.frozen? ⟨w1.heap.size, j, none⟩ = false := fun j => (hb2.frozen (p := ⟨w1.heap.size, j, none⟩) (by show w1.heap.size < _; simp)).trans (HF.out j)
  have g0 := f0 0
  have g1 := f0 1
  have g2 := f0 2
  clear hb2 f0 b0 b1 b2 b3
  cases q
  · have e := Hy.out
    cases e
    go_wp2_with fail
    exact bodyPost_ret (v := .agg #[.int .i64 0, .int .i64 0, .int .i64 0]) (by simp [results, Try.results58, go_sem, c0, c1, c2]) rfl ⟨rfl, by have := HB2.out; (repeat' (first | (with_reducible exact Below.refl _ _) | (with_reducible assumption) | (with_reducible refine Below.alloc ?_ ?_ _) | (with_reducible refine Go.Proofs.Ytjkmcncgndkdoaa.L.below_drewN ?_ _) | (with_reducible refine Below.drew ?_) | (with_reducible refine Below.setCell ?_ ?_ _) | (with_reducible refine Below.frame ?_ _) | go_size))⟩
  · obtain ⟨L, hL, hu⟩ := H2.out.map
    have hlk := (hL.look ikey (t := 80) (et := 33) Try.underlying80 vec_zero t).2
    rw [hu, vec_at c u Hq.out, show u t.toNat = ⟨y0, y1, y2⟩ from Hy.out] at hlk
    obtain ⟨hg2, -, -, -, -⟩ := H2.out.box
    have hp := H2.out.ptr
    simp only [Vec.V.val] at hlk
    clear hL hu
    go_wp2_with fail
    exact bodyPost_ret (v := .agg #[.int .i64 y0, .int .i64 y1, .int .i64 y2]) (by simp [results, Try.results58, go_sem, c0, c1, c2]) rfl ⟨rfl, by have := HB2.out; (repeat' (first | (with_reducible exact Below.refl _ _) | (with_reducible assumption) | (with_reducible refine Below.alloc ?_ ?_ _) | (with_reducible refine Go.Proofs.Ytjkmcncgndkdoaa.L.below_drewN ?_ _) | (with_reducible refine Below.drew ?_) | (with_reducible refine Below.setCell ?_ ?_ _) | (with_reducible refine Below.frame ?_ _) | go_size))⟩

set_option maxRecDepth 100000 in
set_option maxHeartbeats 4000000 in
theorem lused_any {w : World} {g mb : Nat} {v1 v2 : Value} {half age : Int} {c : Cfg.C} {u : Led.U} (h : LedAt w g mb v1 v2 half age c u) (t : Int) :
    GivesAt Try.prog w 32 #[.pointer (some ⟨g, 0, none⟩), .int .i64 t] (Led.at_ c u t).val := by
  intro w1 hb1
  replace h := h.on hb1
  clear hb1
  have hb : Below w1.heap.size w1 (w1.alloc (.cells #[.int .i64 0, .int .i64 0, .int .i64 0] 33)) := (Below.refl _ _).alloc (Nat.le_refl _) _
  have h2 := h.on hb
  obtain ⟨L, hL, hu⟩ := h2.map
  have hlk := (hL.look ikey (t := 80) (et := 33) Try.underlying80 vec_zero t).2
  rw [hu] at hlk
  obtain ⟨hg2, -, -, -, -⟩ := h2.box
  have hp := h2.ptr
  generalize Led.at_ c u t = y at *
  obtain ⟨y0, y1, y2⟩ := y
  simp only [Vec.V.val] at hlk
  have Hb := Lib.hid hb
  clear hL hu hb h h2
  go_enter Try.func32, Try.ntmps32
  go_wp2_with fail
  exact bodyPost_ret (v := .agg #[.int .i64 y0, .int .i64 y1, .int .i64 y2]) (by simp [results, Try.results32, go_sem]) rfl ⟨rfl, by have := Hb.out; (repeat' (first | (with_reducible exact Below.refl _ _) | (with_reducible assumption) | (with_reducible refine Below.alloc ?_ ?_ _) | (with_reducible refine Go.Proofs.Ytjkmcncgndkdoaa.L.below_drewN ?_ _) | (with_reducible refine Below.drew ?_) | (with_reducible refine Below.setCell ?_ ?_ _) | (with_reducible refine Below.frame ?_ _) | go_size))⟩

set_option maxRecDepth 100000 in
set_option maxHeartbeats 4000000 in
theorem lgive_any {w : World} {g mb : Nat} {v1 v2 : Value} {half age : Int} {c : Cfg.C} {u : Led.U} (h : LedAt w g mb v1 v2 half age c u) (t : Int) (v : Vec.V) :
    Calls Try.prog 26 #[.pointer (some ⟨g, 0, none⟩), .int .i64 t, v.val] w fun e w' => LedEnd (Led.giveErr c u t v) g mb v1 v2 half age c (Led.give c u t v) w e w' := by
  have gv := VecW.gvalid v
  have gl := lleaf_any h t
  have go := VecW.gover v (Led.leafUsed c u t)
  have gc : Hid (∀ W, Below w.heap.size w W → Calls Try.prog 59 #[.pointer (some ⟨g, 0, none⟩), .int .i64 t, v.val, .func (.func 60) #[] #[]] W fun e w' => LedEnd (Led.changeErr c t) g mb v1 v2 half age c (Led.change c u t (fun a => Vec.sub a v)) w e w') :=
    Lib.hid (fun W hW => (lchange_any (h.on hW) t v 60 Vec.sub (fun a b => VecW.gsub a b) (fun _ _ => by kernel_rfl)).mono (fun e w' he => he.from hW))
  have hno := Lib.hid (fun W (hW : Below w.heap.size w W) => (show LedAt W g mb v1 v2 half age c u from h.on hW))
  unfold Led.giveErr Led.give Led.mayGive
  generalize Led.changeErr c t = n at *
  generalize Led.change c u t (fun a => Vec.sub a v) = u' at *
  obtain ⟨q, hq⟩ : ∃ q, Vec.valid v = q := ⟨_, rfl⟩
  obtain ⟨s, hs⟩ : ∃ s, Vec.fits v (Led.leafUsed c u t) = s := ⟨_, rfl⟩
  rw [hq] at gv ⊢
  rw [hs] at go ⊢
  generalize Led.leafUsed c u t = y at *
  clear hq hs h
  have hx3 : VBox3 (w.alloc (.cells #[.int .i64 v.x, .int .i64 v.y, .int .i64 v.z] 33)) w.heap.size 0 v := by refine ⟨by simp, ?_, ?_, ?_⟩ <;> simp [go_sem]
  obtain ⟨x0, x1, x2⟩ := v
  obtain ⟨y0, y1, y2⟩ := y
  have gv' : Gives Try.prog 56 #[.agg #[.int .i64 x0, .int .i64 x1, .int .i64 x2]] (.bool q) := gv
  have go' : Gives Try.prog 57 #[.agg #[.int .i64 x0, .int .i64 x1, .int .i64 x2], .agg #[.int .i64 y0, .int .i64 y1, .int .i64 y2]] (.bool (!s)) := go
  have hb : Below w.heap.size w (w.alloc (.cells #[.int .i64 x0, .int .i64 x1, .int .i64 x2] 33)) := (Below.refl _ _).alloc (Nat.le_refl _) _
  have gl' : GivesAt Try.prog (w.alloc (.cells #[.int .i64 x0, .int .i64 x1, .int .i64 x2] 33)) 58 #[.pointer (some ⟨g, 0, none⟩), .int .i64 t] (.agg #[.int .i64 y0, .int .i64 y1, .int .i64 y2]) := gl.on hb
  have Gc : Hid (∀ W, Below w.heap.size w W → Calls Try.prog 59 #[.pointer (some ⟨g, 0, none⟩), .int .i64 t, .agg #[.int .i64 x0, .int .i64 x1, .int .i64 x2], .func (.func 60) #[] #[]] W fun e w' => LedEnd n g mb v1 v2 half age c u' w e w') := Lib.hid gc.out
  have HX := Lib.hid hx3
  have Hb := Lib.hid hb
  have GL := Lib.hid gl'
  clear gv gc hx3 go gl hb gl'
  show Calls Try.prog 26 #[.pointer (some ⟨g, 0, none⟩), .int .i64 t, .agg #[.int .i64 x0, .int .i64 x1, .int .i64 x2]] w _
  go_enter Try.func26, Try.ntmps26
  go_wp2_with fail
  have hbx := HX.out
  have HXX := HX
  generalize w.alloc (.cells #[.int .i64 x0, .int .i64 x1, .int .i64 x2] 33) = wq at *
  have P0 := fun W (k : Onward wq W) => k.cell hbx.1 hbx.2.1
  have P1 := fun W (k : Onward wq W) => k.cell hbx.1 hbx.2.2.1
  have P2 := fun W (k : Onward wq W) => k.cell hbx.1 hbx.2.2.2
  clear hbx
  have hGL := GL.out
  cases q
  · refine region_keep (by kernel_rfl) (by kernel_rfl) ?_
    repeat (apply Go.Proofs.Ytjkmcncgndkdoaa.L.wpKeep_yes; (focus rfl); (focus (intro W hW; go_simp; first | done | exact ⟨rfl, hW⟩ | rfl)); (focus (go_simp; first | done | rfl)))
    (apply Go.Proofs.Ytjkmcncgndkdoaa.L.wpKeep_yes; (focus rfl); (focus (intro W hW; go_simp; first | exact Go.Proofs.Ytjkmcncgndkdoaa.L.Gives.up gv' hW | exact ⟨hW, Go.Proofs.Ytjkmcncgndkdoaa.L.Gives.up gv' hW⟩)); (focus (go_simp; first | done | rfl)))
    repeat (apply Go.Proofs.Ytjkmcncgndkdoaa.L.wpKeep_yes; (focus rfl); (focus (intro W hW; go_simp; first | done | exact ⟨rfl, hW⟩ | rfl)); (focus (go_simp; first | done | rfl)))
    repeat (first | (apply Go.Proofs.Ytjkmcncgndkdoaa.L.wpKeep_yes; (focus rfl); (focus (intro W hW; go_simp; first | done | exact ⟨rfl, hW⟩ | rfl)); (focus (go_simp; first | done | rfl))) | (apply Go.Proofs.Ytjkmcncgndkdoaa.L.wpKeep_no; (focus rfl); (focus (go_simp; first | done | rfl))))
    refine wpKeep_nil ?_
    intro W hW
    have HW := Lib.hid (keeps_trans Hb.out hW)
    clear P0 P1 P2 hW hGL gv' go'
    have hE := Lib.hid (show LedEnd 1 g mb v1 v2 half age c u w (.returned (.int .i64 1)) W from ⟨rfl, hno.out _ HW.out, Kept.of_below HW.out⟩)
    go_wp2_with fail
    go_ret
    exact hE.out
  · refine region_keep (by kernel_rfl) (by kernel_rfl) ?_
    repeat (apply Go.Proofs.Ytjkmcncgndkdoaa.L.wpKeep_yes; (focus rfl); (focus (intro W hW; go_simp; first | done | exact ⟨rfl, hW⟩ | rfl)); (focus (go_simp; first | done | rfl)))
    (apply Go.Proofs.Ytjkmcncgndkdoaa.L.wpKeep_yes; (focus rfl); (focus (intro W hW; go_simp; first | exact Go.Proofs.Ytjkmcncgndkdoaa.L.Gives.up gv' hW | exact ⟨hW, Go.Proofs.Ytjkmcncgndkdoaa.L.Gives.up gv' hW⟩)); (focus (go_simp; first | done | rfl)))
    repeat (apply Go.Proofs.Ytjkmcncgndkdoaa.L.wpKeep_yes; (focus rfl); (focus (intro W hW; go_simp; first | done | exact ⟨rfl, hW⟩ | rfl)); (focus (go_simp; first | done | rfl)))
    (apply Go.Proofs.Ytjkmcncgndkdoaa.L.wpKeep_yes; (focus rfl); (focus (intro W hW; go_simp; first | exact (hGL.up (Below.refl _ _)) W hW | exact ⟨hW, (hGL.up (Below.refl _ _)) W hW⟩)); (focus (go_simp; first | done | rfl)))
    repeat (apply Go.Proofs.Ytjkmcncgndkdoaa.L.wpKeep_yes; (focus rfl); (focus (intro W hW; go_simp; first | done | exact ⟨rfl, hW⟩ | rfl)); (focus (go_simp; first | done | rfl)))
    (apply Go.Proofs.Ytjkmcncgndkdoaa.L.wpKeep_yes; (focus rfl); (focus (intro W hW; go_simp; first | exact Go.Proofs.Ytjkmcncgndkdoaa.L.Gives.up go' hW | exact ⟨hW, Go.Proofs.Ytjkmcncgndkdoaa.L.Gives.up go' hW⟩)); (focus (go_simp; first | done | rfl)))
    repeat (apply Go.Proofs.Ytjkmcncgndkdoaa.L.wpKeep_yes; (focus rfl); (focus (intro W hW; go_simp; first | done | exact ⟨rfl, hW⟩ | rfl)); (focus (go_simp; first | done | rfl)))
    refine wpKeep_nil ?_
    intro W hW
    have HW := Lib.hid (keeps_trans Hb.out hW)
    obtain ⟨-, c0, c1, c2⟩ := HXX.out.on hW
    simp only at c0 c1 c2
    clear P0 P1 P2 hW hGL gv' go'
    cases s
    · have hE := Lib.hid (show LedEnd 1 g mb v1 v2 half age c u w (.returned (.int .i64 1)) W from ⟨rfl, hno.out _ HW.out, Kept.of_below HW.out⟩)
      clear c0 c1 c2
      go_wp2_with fail
      go_ret
      exact hE.out
    · go_wp2_with fail
      refine (Gc.out _ HW.out).mono ?_
      rintro e w3 he
      obtain ⟨rfl, he2⟩ := he
      have HE := Lib.hid (show LedEnd n g mb v1 v2 half age c u' w (.returned (.int .i64 n)) w3 from ⟨rfl, he2⟩)
      clear he2 c0 c1 c2
      go_wp2_with fail
      go_ret
      exact HE.out
end Go.Proofs.Ytjkmcncgndkdoaa.CfgW
