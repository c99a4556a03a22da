/-
  A ledger's All beside other calls in one statement: where its row lies.
-/
import Derived.Test.YtjkmcncgndkdoaaLedPair
import Derived.Test.YtjkmcncgndkdoaaCommB
set_option linter.unusedVariables false
set_option linter.unusedSimpArgs false
namespace Go.Proofs.Ytjkmcncgndkdoaa.CfgW
open Go Go.RowKit Go.Proofs.Ytjkmcncgndkdoaa.L

def AllAt (N : Nat) (l : List Vec.V) (w : World) (e : Ending) (w' : World) : Prop := e = .returned (.slice (some ⟨w.heap.size, 0, none⟩) N N) ∧ VRow w' w.heap.size (.slice (some ⟨w.heap.size, 0, none⟩) N N) l ∧ Below w.heap.size w w'
set_option maxRecDepth 100000 in
set_option maxHeartbeats 4000000 in
theorem lall_at {w : World} {g mb : Nat} {v1 v2 : Value} {half age : Int} {c : Cfg.C} {u : Led.U} (h : LedAt w g mb v1 v2 half age c u) (hN : c.nodes.length ≤ 1000000) :
    Calls Try.prog 31 #[.pointer (some ⟨g, 0, none⟩)] w fun e w' => AllAt c.nodes.length (Led.all c u) w e w' := by
  have H := Lib.hid h
  have hg := h.box.1
  have b0 := h.box.2.1
  obtain ⟨v1', v2', ee, ⟨A, ca, e1, hrA, hlA⟩, _⟩ := h.cfg
  have ev1 : v1 = .slice A c.nodes.length ca := by
    simp only [Value.agg.injEq, Array.mk.injEq, List.cons.injEq, and_true] at ee
    rw [ee.1, e1]
  obtain ⟨N, hNe⟩ : ∃ N, c.nodes.length = N := ⟨_, rfl⟩
  have HN := Lib.hid hNe
  rw [hNe] at ev1 hN ⊢
  rw [ev1] at b0
  obtain ⟨w2, hr2, hv2, hb2, hs2⟩ := make_vecs w N (by omega)
  have Hv2 := Lib.hid hv2
  have Hb2 := Lib.hid hb2
  clear h hlA hrA e1 ee hv2 hb2 hNe ev1
  go_enter Try.func31, Try.ntmps31
  go_wp2_with fail
  clear hr2 b0
  go_loopw [16] (fun i wr => ∃ k : Nat, i = .int .i64 (k : Int) ∧ k ≤ N ∧ VRow wr w.heap.size (.slice (some ⟨w.heap.size, 0, none⟩) N N) (fillTo u N k) ∧ Below w.heap.size w wr) (fun i _ => N - (intOf i).toNat)
  case atStart => exact ⟨0, rfl, by omega, by rw [fillTo_zero]; exact Hv2.out, Hb2.out⟩
  case round =>
    obtain ⟨k, rfl, hk, hrow, hb⟩ := hrel
    rename World => wr
    by_cases hkn : k < N
    · have h3 := H.out.on hb
      obtain ⟨L, hL, hu⟩ := h3.map
      have hlk := (hL.look ikey (t := 80) (et := 33) Try.underlying80 vec_zero (k : Int)).2
      have hat : Led.at_ c u (k : Int) = u k := by unfold Led.at_; rw [if_pos ⟨by omega, by rw [HN.out]; omega⟩, Int.toNat_natCast]
      rw [hu, hat] at hlk
      have hp := h3.ptr
      have hg3 := h3.box.1
      obtain ⟨-, -, hgl, q0, q1, q2⟩ := hrow.at_ (i := k) (by rw [fillTo_length]; exact hkn)
      have fz := hrow.ok
      have HS := Lib.hid (hrow.set k (u k))
      rw [fillTo_set u N k hkn] at HS
      have Hb := Lib.hid (put3_below (w0 := w) hb (Nat.le_refl _) (k * 3) (u k))
      unfold put3 at Hb
      have f0 := fz (k * 3)
      have f1 := fz (k * 3 + 1)
      have f2 := fz (k * 3 + 2)
      generalize u k = y at *
      obtain ⟨y0, y1, y2⟩ := y
      simp only [Vec.V.val] at hlk
      have hkl : k < (fillTo u N k).length := by rw [fillTo_length]; exact hkn
      generalize (fillTo u N k)[k]'hkl = z at *
      clear hL hu hat h3 hrow fz hb hkl
      go_wp2_with fail
      go_roundw
      case rel => exact ⟨k + 1, by go_num, by omega, HS.out, Hb.out⟩
      case measure => simp [intOf]; omega
    · have HE := Lib.hid (show AllAt N (Led.all c u) w (.returned (.slice (some ⟨w.heap.size, 0, none⟩) N N)) wr from ⟨rfl, by
        have e : k = N := by omega
        subst e
        rw [fillTo_all] at hrow
        unfold Led.all
        rw [HN.out]; exact hrow, hb⟩)
      clear hrow hb
      go_wp2_with fail
      go_ret
      exact HE.out


theorem tree_at (c : Cfg.C) (u : Led.U) (t : Int) : Tree.at_ (Led.all c u) t = Led.at_ c u t := by
  unfold Tree.at_ Led.at_
  rw [all_length]
  by_cases h : 0 ≤ t ∧ t < (c.nodes.length : Int)
  · rw [if_pos h, if_pos h, List.getD_eq_getElem?_getD, List.getElem?_eq_getElem (by rw [all_length]; omega), Option.getD_some, all_get]
  · rw [if_neg h, if_neg h]

/-- The statement's state: All has not been (nothing has been made), or has been. -/
def JAll (wq : World) (S : Nat) (g mb : Nat) (A : Option Addr) (ca g2 rb cp : Nat) (v1 v2 : Value) (half age : Int) (c : Cfg.C) (u : Led.U) (x y : Bool) (W : World) : Prop :=
  PairAt wq W g mb A ca g2 rb cp v1 v2 half age c u u ∧ (if x then VRow W S (.slice (some ⟨S, 0, none⟩) c.nodes.length c.nodes.length) (Led.all c u) else W.heap.size = S)
section
variable {wq W W' : World} {S : Nat} {g mb : Nat} {A : Option Addr} {ca g2 rb cp : Nat} {v1 v2 : Value} {half age : Int} {c : Cfg.C} {u : Led.U}
theorem JAll.on (h : JAll wq S g mb A ca g2 rb cp v1 v2 half age c u true true W) (hb : Below W.heap.size W W') : JAll wq S g mb A ca g2 rb cp v1 v2 half age c u true true W' :=
  ⟨h.1.on hb, VRow.below (show VRow W S (.slice (some ⟨S, 0, none⟩) c.nodes.length c.nodes.length) (Led.all c u) from h.2) hb⟩
theorem JAll.start (h : PairAt wq W g mb A ca g2 rb cp v1 v2 half age c u u) : JAll wq W.heap.size g mb A ca g2 rb cp v1 v2 half age c u false false W.drew :=
  ⟨h.on ((Below.refl _ _ : Below W.heap.size W W).drew), by show W.drew.heap.size = W.heap.size; simp⟩
theorem JAll.all (hN : c.nodes.length ≤ 1000000) : ∀ y W, JAll wq S g mb A ca g2 rb cp v1 v2 half age c u false y W → Calls Try.prog 31 #[.pointer (some ⟨g, 0, none⟩)] W fun e w' => e = .returned (.slice (some ⟨S, 0, none⟩) c.nodes.length c.nodes.length) ∧ JAll wq S g mb A ca g2 rb cp v1 v2 half age c u true y w' := fun y W h => by
  have hs : W.heap.size = S := h.2
  refine (lall_at h.1.led hN).mono ?_
  rintro e w' ⟨rfl, hv, hb⟩
  rw [hs] at hv
  exact ⟨by rw [hs], h.1.on hb, hv⟩
theorem JAll.list : ∀ W, JAll wq S g mb A ca g2 rb cp v1 v2 half age c u true true W → Calls Try.prog 30 #[.slice (some ⟨S, 0, none⟩) c.nodes.length c.nodes.length, .slice (some ⟨rb, 0, none⟩) c.nodes.length cp] W fun e w' => e = .returned (.bool true) ∧ JAll wq S g mb A ca g2 rb cp v1 v2 half age c u true true w' := fun W h => by
  have hv : VRow W S (.slice (some ⟨S, 0, none⟩) c.nodes.length c.nodes.length) (Led.all c u) := h.2
  refine (list_same hv.sl h.1.ref.row.sl _ (Below.refl _ _)).mono ?_
  rintro e w' ⟨rfl, hb⟩
  exact ⟨rfl, h.on hb⟩
theorem JAll.used (t : Int) : ∀ W, JAll wq S g mb A ca g2 rb cp v1 v2 half age c u true true W → Calls Try.prog 32 #[.pointer (some ⟨g, 0, none⟩), .int .i64 t] W fun e w' => e = .returned (Led.at_ c u t).val ∧ JAll wq S g mb A ca g2 rb cp v1 v2 half age c u true true w' := fun W h => by
  refine (lused_any h.1.led t _ (Below.refl _ _)).mono ?_
  rintro e w' ⟨rfl, hb⟩
  exact ⟨rfl, h.on hb⟩
theorem JAll.get (t : Int) : ∀ W, JAll wq S g mb A ca g2 rb cp v1 v2 half age c u true true W → Calls Try.prog 33 #[.slice (some ⟨rb, 0, none⟩) c.nodes.length cp, .int .i64 t] W fun e w' => e = .returned (Led.at_ c u t).val ∧ JAll wq S g mb A ca g2 rb cp v1 v2 half age c u true true w' := fun W h => by
  refine (rat_any h.1.ref.row.sl t _ (Below.refl _ _)).mono ?_
  rintro e w' ⟨rfl, hb⟩
  exact ⟨by rw [tree_at], h.on hb⟩
end
end Go.Proofs.Ytjkmcncgndkdoaa.CfgW
