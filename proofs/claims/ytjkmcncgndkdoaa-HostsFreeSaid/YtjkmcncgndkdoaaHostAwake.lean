/-
  Chapter 16's example.
-/
import Derived.Test.YtjkmcncgndkdoaaHostGroups
set_option linter.unusedVariables false
set_option linter.unusedSimpArgs false
namespace Go.Proofs.Ytjkmcncgndkdoaa.CfgW
open Go.RowKit Go.Proofs.Ytjkmcncgndkdoaa.L

theorem flat_at {α : Type} {sz : Nat} {dec : α → List Value} (hs : ∀ x, (dec x).length = sz) : ∀ (xs : List α) (i : Nat) (x : α), xs[i]? = some x → ∀ j v, (dec x)[j]? = some v → (xs.flatMap dec)[i * sz + j]? = some v
  | [], i, x, h => by simp at h
  | y :: l, 0, x, h => fun j v hv => by
    simp at h; subst h
    rw [List.flatMap_cons, Nat.zero_mul, Nat.zero_add, List.getElem?_append_left (List.getElem?_eq_some_iff.1 hv).1]
    exact hv
  | y :: l, i + 1, x, h => fun j v hv => by
    rw [List.flatMap_cons, List.getElem?_append_right (by rw [hs, Nat.succ_mul]; omega), hs, show (i + 1) * sz + j - sz = i * sz + j by rw [Nat.succ_mul]; omega]
    exact flat_at hs l i x (by simpa using h) j v hv
theorem row_lit {α : Type} {w : World} {b sz : Nat} {dec : α → List Value} (hs : ∀ x, (dec x).length = sz) {t : TypeId} {xs : List α} (h : Blk w b t (xs.flatMap dec).toArray) : RowOf w (some ⟨b, 0, none⟩) sz dec xs := fun _ =>
  ⟨b, 0, rfl, h.lt, fun i x hx j v hv => by
    have := flat_at hs xs i x hx j v hv
    rw [Nat.zero_add]
    exact (Blk.cell h (i * sz + j)).trans (by simpa using this)⟩
def hs16 : List Cfg.Host := [⟨0, 0, 0, ⟨4, 4, 4⟩⟩, ⟨1, 0, 0, ⟨0, 0, 0⟩⟩, ⟨0, 0, 0, ⟨0, 0, 0⟩⟩]
theorem facts16 : Hst.groups hs16 3 = [[0, 2], [1]] ∧ Hst.may [⟨4, 4, 4⟩, ⟨0, 0, 0⟩, ⟨0, 0, 0⟩] [0, 0] ⟨2, 1, 0⟩ = true ∧ Hst.fine (Hst.gang Vec.sub ⟨2, 1, 0⟩ [0, 0] [⟨4, 4, 4⟩, ⟨0, 0, 0⟩, ⟨0, 0, 0⟩]) [0, 0] = true ∧
    Hst.gang Vec.sub ⟨2, 1, 0⟩ [0, 0] [⟨4, 4, 4⟩, ⟨0, 0, 0⟩, ⟨0, 0, 0⟩] = [⟨0, 2, 4⟩, ⟨0, 0, 0⟩, ⟨0, 0, 0⟩] ∧ Hst.may [⟨4, 4, 4⟩, ⟨0, 0, 0⟩, ⟨0, 0, 0⟩] [0, 0, 0] ⟨2, 1, 0⟩ = true ∧
    Hst.fine (Hst.gang Vec.sub ⟨2, 1, 0⟩ [0, 0, 0] [⟨4, 4, 4⟩, ⟨0, 0, 0⟩, ⟨0, 0, 0⟩]) [0, 0, 0] = false ∧ Hst.may [⟨4, 4, 4⟩, ⟨0, 0, 0⟩, ⟨0, 0, 0⟩] [3] ⟨0, 0, 0⟩ = false := by
  refine ⟨by decide, by decide, by decide, ?_, by decide, by decide, by decide⟩
  rfl
theorem hdec_len (x : Cfg.Host) : (hdec x).length = 6 := rfl
theorem idec_len (x : Int) : (idec x).length = 1 := rfl
theorem free16 : Hst.free hs16 (asks []) = [⟨4, 4, 4⟩, ⟨0, 0, 0⟩, ⟨0, 0, 0⟩] := rfl
set_option maxRecDepth 100000 in
set_option maxHeartbeats 4000000 in
theorem awake16 : Gives Try.prog 37 #[] (.bool true) := by
  intro w
  obtain ⟨f1, f2, f3, f4, f5, f6, f7⟩ := facts16
  have F1 := Lib.hid f1
  have F2 := Lib.hid f2
  have F3 := Lib.hid f3
  have F4 := Lib.hid f4
  have F5 := Lib.hid f5
  have F6 := Lib.hid f6
  have F7 := Lib.hid f7
  clear f1 f2 f3 f4 f5 f6 f7
  go_enter Try.func37, Try.ntmps37
  go_wp2_with fail
  have hcfg : CfgAt ((w.alloc (.cells #[.int .i64 0, .int .i64 0, .int .i64 0, .int .i64 4, .int .i64 4, .int .i64 4, .int .i64 1, .int .i64 0, .int .i64 0, .int .i64 0, .int .i64 0, .int .i64 0, .int .i64 0, .int .i64 0, .int .i64 0, .int .i64 0, .int .i64 0, .int .i64 0] 75)).alloc (.cells #[.slice none 0 0, .slice (some ⟨w.heap.size, 0, none⟩) 3 3, .int .i64 0, .int .i64 0] 25))
      (.agg #[.slice none 0 0, .slice (some ⟨w.heap.size, 0, none⟩) 3 3, .int .i64 0, .int .i64 0]) ⟨[], hs16, 0, 0⟩ :=
    ⟨_, _, rfl, ⟨none, 0, rfl, fun h => absurd rfl h, by decide⟩, ⟨_, 3, rfl, row_lit (dec := hdec) (xs := hs16) (sz := 6) (t := 75) hdec_len (Blk.alloc (Blk.new w 75 (hs16.flatMap hdec).toArray) _), by decide⟩⟩
  have hbox : CBox ((w.alloc (.cells #[.int .i64 0, .int .i64 0, .int .i64 0, .int .i64 4, .int .i64 4, .int .i64 4, .int .i64 1, .int .i64 0, .int .i64 0, .int .i64 0, .int .i64 0, .int .i64 0, .int .i64 0, .int .i64 0, .int .i64 0, .int .i64 0, .int .i64 0, .int .i64 0] 75)).alloc (.cells #[.slice none 0 0, .slice (some ⟨w.heap.size, 0, none⟩) 3 3, .int .i64 0, .int .i64 0] 25)) (w.heap.size + 1) (.slice none 0 0) (.slice (some ⟨w.heap.size, 0, none⟩) 3 3) 0 0 := by
    have := CBox.new (w.alloc (.cells #[.int .i64 0, .int .i64 0, .int .i64 0, .int .i64 4, .int .i64 4, .int .i64 4, .int .i64 1, .int .i64 0, .int .i64 0, .int .i64 0, .int .i64 0, .int .i64 0, .int .i64 0, .int .i64 0, .int .i64 0, .int .i64 0, .int .i64 0, .int .i64 0] 75)) (.slice none 0 0) (.slice (some ⟨w.heap.size, 0, none⟩) 3 3) 0 0
    rwa [World.size_alloc] at this
  have hb0 : Below w.heap.size w ((w.alloc (.cells #[.int .i64 0, .int .i64 0, .int .i64 0, .int .i64 4, .int .i64 4, .int .i64 4, .int .i64 1, .int .i64 0, .int .i64 0, .int .i64 0, .int .i64 0, .int .i64 0, .int .i64 0, .int .i64 0, .int .i64 0, .int .i64 0, .int .i64 0, .int .i64 0] 75)).alloc (.cells #[.slice none 0 0, .slice (some ⟨w.heap.size, 0, none⟩) 3 3, .int .i64 0, .int .i64 0] 25)) := by (repeat' (first | (with_reducible exact Below.refl _ _) | (with_reducible assumption) | (with_reducible refine Below.alloc ?_ ?_ _) | (with_reducible refine Go.Proofs.Ytjkmcncgndkdoaa.L.below_drewN ?_ _) | (with_reducible refine Below.drew ?_) | (with_reducible refine Below.setCell ?_ ?_ _) | (with_reducible refine Below.frame ?_ _) | go_size))
  generalize (w.alloc (.cells #[.int .i64 0, .int .i64 0, .int .i64 0, .int .i64 4, .int .i64 4, .int .i64 4, .int .i64 1, .int .i64 0, .int .i64 0, .int .i64 0, .int .i64 0, .int .i64 0, .int .i64 0, .int .i64 0, .int .i64 0, .int .i64 0, .int .i64 0, .int .i64 0] 75)).alloc (.cells #[.slice none 0 0, .slice (some ⟨w.heap.size, 0, none⟩) 3 3, .int .i64 0, .int .i64 0] 25) = W0 at *
  refine (groups_any hcfg 3 (by decide) _ (Below.refl _ _)).mono ?_
  rintro e w1 ⟨gv, rfl, hg, k1⟩
  rw [show Hst.groups (Cfg.C.hosts ⟨[], hs16, 0, 0⟩) 3 = [[0, 2], [1]] from F1.out] at hg
  have hbx1 := hbox.on k1
  have hcf1 := hcfg.below k1
  obtain ⟨y0, y1, y2, y3, y4⟩ := hbx1
  have HG := Lib.hid hg
  have K1 := Lib.hid (keeps_trans hb0 k1)
  clear hcfg hbox hg k1 hb0
  go_wp2_with fail
  refine (free_any (rs := []) (vr := .slice none 0 0) hcf1 ⟨none, 0, rfl, fun h => absurd rfl h, by decide, fun r h => by cases h⟩ (by decide) _ (Below.refl _ _)).mono ?_
  rintro e w2 ⟨fv, rfl, hf, k2⟩
  have hf2 : VRow w2 w1.heap.size fv [⟨4, 4, 4⟩, ⟨0, 0, 0⟩, ⟨0, 0, 0⟩] := hf
  have K2 := Lib.hid (keeps_trans K1.out k2)
  have HG2 := Lib.hid (HG.out.below k2)
  have HF := Lib.hid hf2
  clear hf hcf1 y0 y1 y2 y3 y4 k2 HG hf2
  go_wp2_with fail
  have hi3 : ISl (w2.alloc (.cells #[.int .i64 0, .int .i64 0] 3)) (.slice (some ⟨w2.heap.size, 0, none⟩) 2 2) [0, 0] := ⟨_, 2, rfl, row_lit (dec := idec) (xs := [0, 0]) (sz := 1) (t := 3) idec_len (Blk.new w2 3 (List.flatMap idec [0, 0]).toArray), by decide⟩
  have ha3 : Below w2.heap.size w2 (w2.alloc (.cells #[.int .i64 0, .int .i64 0] 3)) := (Below.refl _ _).alloc (Nat.le_refl _) _
  refine (take_any (HF.out.sl.below ha3) hi3 ⟨2, 1, 0⟩ (by decide) _ (Below.refl _ _)).mono ?_
  intro e w3 ht3
  have hy3 : DoYes [⟨0, 2, 4⟩, ⟨0, 0, 0⟩, ⟨0, 0, 0⟩] (w2.alloc (.cells #[.int .i64 0, .int .i64 0] 3)) e w3 := by
    unfold TakeEnd at ht3
    rw [if_pos F2.out, if_pos F3.out, F4.out] at ht3
    exact ht3
  obtain ⟨av, rfl, hA3, k3⟩ := hy3
  have k23 := keeps_trans ha3 k3
  have K3 := Lib.hid (keeps_trans K2.out k23)
  have HG3 := Lib.hid (HG2.out.below k23)
  have HF3 := Lib.hid (HF.out.below k23)
  have HA3 := Lib.hid hA3
  clear hi3 ha3 ht3 hA3 k3 k23 HG2 HF K2 K1
  go_wp2_with fail
  have hi4 : ISl (w3.alloc (.cells #[.int .i64 0, .int .i64 0, .int .i64 0] 3)) (.slice (some ⟨w3.heap.size, 0, none⟩) 3 3) [0, 0, 0] := ⟨_, 3, rfl, row_lit (dec := idec) (xs := [0, 0, 0]) (sz := 1) (t := 3) idec_len (Blk.new w3 3 (List.flatMap idec [0, 0, 0]).toArray), by decide⟩
  have ha4 : Below w3.heap.size w3 (w3.alloc (.cells #[.int .i64 0, .int .i64 0, .int .i64 0] 3)) := (Below.refl _ _).alloc (Nat.le_refl _) _
  refine (take_any (HF3.out.sl.below ha4) hi4 ⟨2, 1, 0⟩ (by decide) _ (Below.refl _ _)).mono ?_
  intro e w4 ht4
  have hy4 : DoNo 12 (w3.alloc (.cells #[.int .i64 0, .int .i64 0, .int .i64 0] 3)) e w4 := by
    unfold TakeEnd at ht4
    rw [if_pos F5.out, if_neg (by rw [F6.out]; decide)] at ht4
    exact ht4
  obtain ⟨rfl, k4⟩ := hy4
  have k34 := keeps_trans ha4 k4
  have K4 := Lib.hid (keeps_trans K3.out k34)
  have HG4 := Lib.hid (HG3.out.below k34)
  have HF4 := Lib.hid (HF3.out.below k34)
  have HA4 := Lib.hid (HA3.out.below k34)
  clear hi4 ha4 ht4 k4 k34 HG3 HF3 HA3 K3
  go_wp2_with fail
  have hi5 : ISl (w4.alloc (.cells #[.int .i64 3] 3)) (.slice (some ⟨w4.heap.size, 0, none⟩) 1 1) [3] := ⟨_, 1, rfl, row_lit (dec := idec) (xs := [3]) (sz := 1) (t := 3) idec_len (Blk.new w4 3 (List.flatMap idec [3]).toArray), by decide⟩
  have ha5 : Below w4.heap.size w4 (w4.alloc (.cells #[.int .i64 3] 3)) := (Below.refl _ _).alloc (Nat.le_refl _) _
  refine (give_any (HF4.out.sl.below ha5) hi5 ⟨0, 0, 0⟩ (by decide) _ (Below.refl _ _)).mono ?_
  intro e w5 ht5
  have hy5 : DoNo 1 (w4.alloc (.cells #[.int .i64 3] 3)) e w5 := by
    unfold GiveEnd at ht5
    rw [if_neg (by rw [F7.out]; decide)] at ht5
    exact ht5
  obtain ⟨rfl, k5⟩ := hy5
  have k45 := keeps_trans ha5 k5
  have K5 := Lib.hid (keeps_trans K4.out k45)
  have hG := HG4.out.below k45
  have hF := HF4.out.below k45
  have hA := HA4.out.below k45
  obtain ⟨Ag, cg, rfl, hsg⟩ := hG.form
  obtain ⟨gb, rfl⟩ := hsg (by decide)
  obtain ⟨-, -, -, x, hx, hI, -⟩ := hG.at_ (i := 0) (by decide)
  obtain ⟨Ai, ci, rfl, hci⟩ := ints_cell hI
  obtain ⟨gi, rfl, -, -, hi1⟩ := hci 1 2 rfl
  obtain ⟨Af, cf, rfl, -⟩ := hF.form
  obtain ⟨Aa, ca, rfl, hsa⟩ := hA.form
  obtain ⟨ga, rfl⟩ := hsa (by decide)
  obtain ⟨-, -, -, q0, q1, q2⟩ := hA.at_ (i := 0) (by decide)
  simp only [List.length_cons, List.length_nil, List.getElem_cons_zero, Nat.zero_mul, Nat.zero_add] at hx hi1 q0 q1 q2 ⊢
  clear hi5 ha5 ht5 k5 k45 HG4 HF4 HA4 K4 hG hF hA hI hci hsg hsa F1 F2 F3 F4 F5 F6 F7
  go_wp2_with fail
  go_ret
  exact ⟨rfl, K5.out⟩
end Go.Proofs.Ytjkmcncgndkdoaa.CfgW
