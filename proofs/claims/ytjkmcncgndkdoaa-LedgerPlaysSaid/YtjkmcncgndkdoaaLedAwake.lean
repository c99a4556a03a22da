/-
  Chapter 12's example; a ledger that is none.
-/
import Derived.Test.YtjkmcncgndkdoaaLedNew
set_option linter.unusedVariables false
set_option linter.unusedSimpArgs false
namespace Go.Proofs.Ytjkmcncgndkdoaa.CfgW
open Go Go.RowKit Go.Proofs.Ytjkmcncgndkdoaa.L

def ns12 : List Cfg.Node := [⟨-1, 1, ⟨0, 0, 0⟩, ⟨0, 0, 0⟩, ⟨0, 0, 0⟩⟩, ⟨0, 1, ⟨0, 0, 0⟩, ⟨0, 0, 0⟩, ⟨0, 0, 0⟩⟩, ⟨0, 1, ⟨0, 0, 0⟩, ⟨0, 0, 0⟩, ⟨0, 0, 0⟩⟩]
def c12 : Cfg.C := ⟨ns12, [⟨0, 0, 0, ⟨0, 0, 0⟩⟩], 1, 0⟩
def u12 : Led.U := Led.take c12 (Led.take c12 (Led.take c12 Led.none_ 1 ⟨1, 0, 0⟩) 2 ⟨2, 0, 0⟩) 0 ⟨0, 0, 0⟩
theorem facts12 : Led.takeErr c12 1 ⟨1, 0, 0⟩ = 0 ∧ Led.takeErr c12 2 ⟨2, 0, 0⟩ = 0 ∧ Led.takeErr c12 0 ⟨0, 0, 0⟩ = 3 ∧ Led.at_ c12 u12 0 = ⟨3, 0, 0⟩ ∧ Led.giveErr c12 u12 1 ⟨2, 0, 0⟩ = 1 ∧ Led.give c12 u12 1 ⟨2, 0, 0⟩ = u12 := by
  refine ⟨by decide, by decide, by decide, by rfl, by decide +kernel, ?_⟩
  unfold Led.give
  rw [if_neg (by decide +kernel)]
theorem row_blk {α : Type} {w : World} {b sz : Nat} {dec : α → List Value} (hs : ∀ x, (dec x).length = sz) {t : TypeId} {xs : List α} (h : Blk w b t (xs.flatMap dec).toArray) : RowOf w (some ⟨b, 0, none⟩) sz dec xs := fun _ =>
  ⟨b, 0, rfl, h.lt, fun i x hx j v hv => by
    have := flat_get hs xs i x hx j v hv
    rw [Nat.zero_add]
    exact (Blk.cell h (i * sz + j)).trans (by simpa using this)⟩
set_option maxRecDepth 100000 in
set_option maxHeartbeats 4000000 in
theorem awake12 : Gives Try.prog 23 #[] (.bool true) := by
  intro w
  obtain ⟨f1, f2, f3, f4, f5, f6⟩ := facts12
  have F := Lib.hid (And.intro f1 (And.intro f2 (And.intro f3 (And.intro f4 (And.intro f5 f6)))))
  clear f1 f2 f3 f4 f5 f6
  go_enter Try.func23, Try.ntmps23
  go_wp2_with fail
  have hcfg : CfgAt (((w.alloc (.cells #[.int .i64 (-1), .int .i64 1, .int .i64 0, .int .i64 0, .int .i64 0, .int .i64 0, .int .i64 0, .int .i64 0, .int .i64 0, .int .i64 0, .int .i64 0, .int .i64 0, .int .i64 1, .int .i64 0, .int .i64 0, .int .i64 0, .int .i64 0, .int .i64 0, .int .i64 0, .int .i64 0, .int .i64 0, .int .i64 0, .int .i64 0, .int .i64 1, .int .i64 0, .int .i64 0, .int .i64 0, .int .i64 0, .int .i64 0, .int .i64 0, .int .i64 0, .int .i64 0, .int .i64 0] 35)).alloc (.cells #[.int .i64 0, .int .i64 0, .int .i64 0, .int .i64 0, .int .i64 0, .int .i64 0] 75)).alloc (.cells #[.slice (some ⟨w.heap.size, 0, none⟩) 3 3, .slice (some ⟨w.heap.size + 1, 0, none⟩) 1 1, .int .i64 1, .int .i64 0] 25)) (.agg #[.slice (some ⟨w.heap.size, 0, none⟩) 3 3, .slice (some ⟨w.heap.size + 1, 0, none⟩) 1 1, .int .i64 1, .int .i64 0]) c12 :=
    ⟨_, _, rfl, ⟨_, 3, rfl, row_blk (dec := ndec) (xs := ns12) (sz := 11) (t := 35) (fun _ => rfl) (Blk.alloc (Blk.alloc (Blk.new w 35 (ns12.flatMap ndec).toArray) _) _), by decide⟩,
      ⟨_, 1, rfl, row_blk (dec := hdec) (xs := [⟨0, 0, 0, ⟨0, 0, 0⟩⟩]) (sz := 6) (t := 75) (fun _ => rfl) (Blk.alloc (by
        have := Blk.new (w.alloc (.cells (ns12.flatMap ndec).toArray 35)) 75 (([⟨0, 0, 0, ⟨0, 0, 0⟩⟩] : List Cfg.Host).flatMap hdec).toArray
        rw [World.size_alloc] at this
        exact this) _), by decide⟩⟩
  have hb0 : Below w.heap.size w (((w.alloc (.cells #[.int .i64 (-1), .int .i64 1, .int .i64 0, .int .i64 0, .int .i64 0, .int .i64 0, .int .i64 0, .int .i64 0, .int .i64 0, .int .i64 0, .int .i64 0, .int .i64 0, .int .i64 1, .int .i64 0, .int .i64 0, .int .i64 0, .int .i64 0, .int .i64 0, .int .i64 0, .int .i64 0, .int .i64 0, .int .i64 0, .int .i64 0, .int .i64 1, .int .i64 0, .int .i64 0, .int .i64 0, .int .i64 0, .int .i64 0, .int .i64 0, .int .i64 0, .int .i64 0, .int .i64 0] 35)).alloc (.cells #[.int .i64 0, .int .i64 0, .int .i64 0, .int .i64 0, .int .i64 0, .int .i64 0] 75)).alloc (.cells #[.slice (some ⟨w.heap.size, 0, none⟩) 3 3, .slice (some ⟨w.heap.size + 1, 0, none⟩) 1 1, .int .i64 1, .int .i64 0] 25)) := by (repeat' (first | (with_reducible exact Below.refl _ _) | (with_reducible assumption) | (with_reducible refine Below.alloc ?_ ?_ _) | (with_reducible refine Go.Proofs.Ytjkmcncgndkdoaa.L.below_drewN ?_ _) | (with_reducible refine Below.drew ?_) | (with_reducible refine Below.setCell ?_ ?_ _) | (with_reducible refine Below.frame ?_ _) | go_size))
  generalize (((w.alloc (.cells #[.int .i64 (-1), .int .i64 1, .int .i64 0, .int .i64 0, .int .i64 0, .int .i64 0, .int .i64 0, .int .i64 0, .int .i64 0, .int .i64 0, .int .i64 0, .int .i64 0, .int .i64 1, .int .i64 0, .int .i64 0, .int .i64 0, .int .i64 0, .int .i64 0, .int .i64 0, .int .i64 0, .int .i64 0, .int .i64 0, .int .i64 0, .int .i64 1, .int .i64 0, .int .i64 0, .int .i64 0, .int .i64 0, .int .i64 0, .int .i64 0, .int .i64 0, .int .i64 0, .int .i64 0] 35)).alloc (.cells #[.int .i64 0, .int .i64 0, .int .i64 0, .int .i64 0, .int .i64 0, .int .i64 0] 75)).alloc (.cells #[.slice (some ⟨w.heap.size, 0, none⟩) 3 3, .slice (some ⟨w.heap.size + 1, 0, none⟩) 1 1, .int .i64 1, .int .i64 0] 25)) = W0 at *
  have Hb0 := Lib.hid hb0
  refine (new_any hcfg (by decide) _ (Below.refl _ _)).mono ?_
  rintro e w1 ⟨g, mb, v1, rfl, hL, -, hmb, hb1⟩
  have HL := Lib.hid hL
  have HB := Lib.hid (keeps_trans hb0 hb1)
  have Hm := Lib.hid (Nat.le_trans hb0.size hmb)
  have gt1 := Lib.hid (fun W (h : LedAt W g mb v1 (.slice (some ⟨w.heap.size + 1, 0, none⟩) 1 1) 1 0 c12 Led.none_) => ltake_any h 1 ⟨1, 0, 0⟩)
  have gt2 := Lib.hid (fun W (h : LedAt W g mb v1 (.slice (some ⟨w.heap.size + 1, 0, none⟩) 1 1) 1 0 c12 (Led.take c12 Led.none_ 1 ⟨1, 0, 0⟩)) => ltake_any h 2 ⟨2, 0, 0⟩)
  have gt3 := Lib.hid (fun W (h : LedAt W g mb v1 (.slice (some ⟨w.heap.size + 1, 0, none⟩) 1 1) 1 0 c12 (Led.take c12 (Led.take c12 Led.none_ 1 ⟨1, 0, 0⟩) 2 ⟨2, 0, 0⟩)) => ltake_any h 0 ⟨0, 0, 0⟩)
  have gu := Lib.hid (fun W (h : LedAt W g mb v1 (.slice (some ⟨w.heap.size + 1, 0, none⟩) 1 1) 1 0 c12 u12) => lused_any h 0)
  have gg := Lib.hid (fun W (h : LedAt W g mb v1 (.slice (some ⟨w.heap.size + 1, 0, none⟩) 1 1) 1 0 c12 u12) => lgive_any h 1 ⟨2, 0, 0⟩)
  have ga := Lib.hid (fun W (h : LedAt W g mb v1 (.slice (some ⟨w.heap.size + 1, 0, none⟩) 1 1) 1 0 c12 u12) => lall_any h (by decide))
  rw [F.out.1] at gt1
  rw [F.out.2.1] at gt2
  rw [F.out.2.2.1] at gt3
  rw [F.out.2.2.2.1] at gu
  rw [F.out.2.2.2.2.1, F.out.2.2.2.2.2] at gg
  clear hcfg hb0 hL hb1 hmb Hb0 F
  go_wp2_with fail
  refine (gt1.out _ HL.out).mono ?_
  rintro e w2 ⟨rfl, hL2, hk2⟩
  have HB2 := Lib.hid (HB.out.trans (hk2.below HB.out.size (fun i e => by rw [e]; exact Hm.out)))
  have HL2 := Lib.hid hL2
  clear hL2 hk2
  go_wp2_with fail
  refine (gt2.out _ HL2.out).mono ?_
  rintro e w3 ⟨rfl, hL3, hk3⟩
  have HB3 := Lib.hid (HB2.out.trans (hk3.below HB2.out.size (fun i e => by rw [e]; exact Hm.out)))
  have HL3 := Lib.hid hL3
  clear hL3 hk3
  go_wp2_with fail
  refine (gt3.out _ HL3.out).mono ?_
  rintro e w4 ⟨rfl, hL4, hk4⟩
  have HB4 := Lib.hid (HB3.out.trans (hk4.below HB3.out.size (fun i e => by rw [e]; exact Hm.out)))
  have HL4 := Lib.hid (show LedAt w4 g mb v1 (.slice (some ⟨w.heap.size + 1, 0, none⟩) 1 1) 1 0 c12 u12 from hL4)
  clear hL4 hk4
  go_wp2_with fail
  refine (gu.out _ HL4.out _ (Below.refl _ _)).mono ?_
  rintro e w5 ⟨rfl, hb5⟩
  have HB5 := Lib.hid (keeps_trans HB4.out hb5)
  have HL5 := Lib.hid (HL4.out.on hb5)
  clear hb5
  simp only [Vec.V.val]
  go_wp2_with fail
  have hb6 : Below w5.heap.size w5 (w5.alloc (.cells #[.int .i64 3, .int .i64 0, .int .i64 0] 33)) := (Below.refl _ _).alloc (Nat.le_refl _) _
  have hx6 : VBox3 (w5.alloc (.cells #[.int .i64 3, .int .i64 0, .int .i64 0] 33)) w5.heap.size 0 ⟨3, 0, 0⟩ := by refine ⟨by simp, ?_, ?_, ?_⟩ <;> simp [go_sem]
  have HX6 := Lib.hid hx6
  have hm5 := HL5.out.mlt
  refine (gg.out _ (HL5.out.on hb6)).mono ?_
  rintro e w7 ⟨rfl, hL7, hk7⟩
  have HB6 := keeps_trans HB5.out hb6
  have HB7 := Lib.hid (HB6.trans (hk7.below HB6.size (fun i e => by rw [e]; exact Hm.out)))
  have HL7 := Lib.hid hL7
  obtain ⟨hz7, d0, d1, d2⟩ := HX6.out.kept hk7 (by omega)
  simp only [Nat.zero_add] at d0 d1 d2
  have hs : Cfg.sameV ⟨3, 0, 0⟩ ⟨3, 0, 0⟩ = true := by decide
  clear hb6 hx6 hL7 hk7 HB6
  go_wp2_with fail
  refine (ga.out _ HL7.out).mono ?_
  rintro e w8 ⟨v8, rfl, hv8, hb8⟩
  obtain ⟨A8, c8, rfl, -⟩ := hv8.sl
  have HB8 := Lib.hid (keeps_trans HB7.out hb8)
  rw [show (Led.all c12 u12).length = 3 from rfl]
  clear hb8 hv8 d0 d1 d2
  go_wp2_with fail
  go_ret
  exact ⟨rfl, HB8.out⟩

set_option maxHeartbeats 4000000 in
theorem lawnone_any (b : Bool) (t : Int) (v : Vec.V) : Gives Try.prog 9 #[.agg #[.bool b, .int .i64 t, .int .i64 v.x, .int .i64 v.y, .int .i64 v.z]] (.bool true) := by
  intro w
  obtain ⟨x0, x1, x2⟩ := v
  have aw := Lib.hid awake12
  have hx3 : (w.alloc (.cells #[.bool b, .int .i64 t, .int .i64 x0, .int .i64 x1, .int .i64 x2] 45)).cell? ⟨w.heap.size, 1, none⟩ = some (.int .i64 t) ∧ VBox3 (w.alloc (.cells #[.bool b, .int .i64 t, .int .i64 x0, .int .i64 x1, .int .i64 x2] 45)) w.heap.size 2 ⟨x0, x1, x2⟩ := by refine ⟨?_, by simp, ?_, ?_, ?_⟩ <;> simp [go_sem]
  have hb : Below w.heap.size w (w.alloc (.cells #[.bool b, .int .i64 t, .int .i64 x0, .int .i64 x1, .int .i64 x2] 45)) := (Below.refl _ _).alloc (Nat.le_refl _) _
  go_enter Try.func9, Try.ntmps9
  go_wp2_with fail
  generalize w.alloc (.cells #[.bool b, .int .i64 t, .int .i64 x0, .int .i64 x1, .int .i64 x2] 45) = wq at *
  have HX : Hid (∀ W, Below wq.heap.size wq W → W.cell? ⟨w.heap.size, 1, none⟩ = some (.int .i64 t) ∧ VBox3 W w.heap.size 2 ⟨x0, x1, x2⟩) := Lib.hid (fun W hW => ⟨(hW.cell (p := ⟨w.heap.size, 1, none⟩) hx3.2.1).trans hx3.1, hx3.2.on hW⟩)
  clear hx3
  refine (take_none _ _ _ _ _).mono ?_
  rintro e w2 ⟨rfl, hb2⟩
  obtain ⟨c1, -, d0, d1, d2⟩ := HX.out _ hb2
  have HB2 := Lib.hid hb2
  clear hb2
  go_wp2_with fail
  refine (give_none _ _ _ _ _).mono ?_
  rintro e w3 ⟨rfl, hb3⟩
  have HB3 := Lib.hid (keeps_trans HB2.out hb3)
  clear c1 d0 d1 d2 hb3
  obtain ⟨c1, -, d0, d1, d2⟩ := HX.out _ HB3.out
  go_wp2_with fail
  refine (used_none _ _).mono ?_
  rintro e w4 ⟨rfl, hb4⟩
  have HB4 := Lib.hid (keeps_trans HB3.out hb4)
  have hs : Cfg.sameV ⟨0, 0, 0⟩ ⟨0, 0, 0⟩ = true := by decide
  clear c1 d0 d1 d2 hb4
  go_wp2_with fail
  refine (all_none _).mono ?_
  rintro e w5 ⟨rfl, hb5⟩
  have HB5 := Lib.hid (keeps_trans HB4.out hb5)
  clear hb5
  go_wp2_with fail
  refine (aw.out _).mono ?_
  rintro e w6 ⟨rfl, hb6⟩
  have HB6 := Lib.hid (keeps_trans HB5.out hb6)
  clear hb6
  go_wp2_with fail
  go_ret
  exact ⟨rfl, keeps_trans hb HB6.out⟩
end Go.Proofs.Ytjkmcncgndkdoaa.CfgW
