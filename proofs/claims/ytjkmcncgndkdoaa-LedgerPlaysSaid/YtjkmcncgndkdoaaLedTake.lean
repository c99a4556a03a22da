/-
  A ledger's methods: take, give, what is used.
-/
import Derived.Test.YtjkmcncgndkdoaaLedChange
set_option linter.unusedVariables false
set_option linter.unusedSimpArgs false
namespace Go.Proofs.Ytjkmcncgndkdoaa.CfgW
open Go Go.RowKit Go.Proofs.Ytjkmcncgndkdoaa.L

theorem lchange_any {w : World} {g mb : Nat} {v1 v2 : Value} {half age : Int} {c : Cfg.C} {u : Led.U} (h : LedAt w g mb v1 v2 half age c u) (t : Int) (v : Vec.V) (d : FuncId) (f : Vec.V → Vec.V → Vec.V)
    (hd : ∀ a b, Gives Try.prog d #[a.val, b.val] (f a b).val) (hcf : ∀ (a : Array Value) (W : World), (callFunc d a).run Try.prog W = .ok (.enter d a) W) :
    Calls Try.prog 59 #[.pointer (some ⟨g, 0, none⟩), .int .i64 t, v.val, .func (.func d) #[] #[]] w fun e w' => LedEnd (Led.changeErr c t) g mb v1 v2 half age c (Led.change c u t (fun a => f a v)) w e w' := by
  unfold Led.changeErr Led.change
  by_cases hl : Cfg.leaf c t = true
  · rw [if_pos hl, if_pos hl]; exact change_yes h t hl v d f hd hcf
  · rw [if_neg hl, if_neg hl]; exact change_no h t (by simpa using hl) v d

theorem LedEnd.from {n : Int} {g mb : Nat} {v1 v2 : Value} {half age : Int} {c : Cfg.C} {u' : Led.U} {w w1 : World} {e : Ending} {w' : World} (hb : Below w.heap.size w w1) (h : LedEnd n g mb v1 v2 half age c u' w1 e w') : LedEnd n g mb v1 v2 half age c u' w e w' :=
  ⟨h.1, h.2.1, (Kept.of_below hb).trans h.2.2⟩

set_option maxRecDepth 100000 in
set_option maxHeartbeats 4000000 in
theorem ltake_any {w : World} {g mb : Nat} {v1 v2 : Value} {half age : Int} {c : Cfg.C} {u : Led.U} (h : LedAt w g mb v1 v2 half age c u) (t : Int) (v : Vec.V) :
    Calls Try.prog 28 #[.pointer (some ⟨g, 0, none⟩), .int .i64 t, v.val] w fun e w' => LedEnd (Led.takeErr c t v) g mb v1 v2 half age c (Led.take c u t v) w e w' := by
  have gv := VecW.gvalid v
  have gc : Hid (∀ W, Below w.heap.size w W → Calls Try.prog 59 #[.pointer (some ⟨g, 0, none⟩), .int .i64 t, v.val, .func (.func 64) #[] #[]] W fun e w' => LedEnd (Led.changeErr c t) g mb v1 v2 half age c (Led.change c u t (fun a => Vec.add a v)) w e w') :=
    Lib.hid (fun W hW => (lchange_any (h.on hW) t v 64 Vec.add (fun a b => VecW.gadd a b) (fun _ _ => by kernel_rfl)).mono (fun e w' he => he.from hW))
  have hno := Lib.hid (fun W (hW : Below w.heap.size w W) => (show LedAt W g mb v1 v2 half age c u from h.on hW))
  unfold Led.takeErr Led.take
  generalize Led.changeErr c t = n at *
  generalize Led.change c u t (fun a => Vec.add a v) = u' at *
  obtain ⟨q, hq⟩ : ∃ q, Vec.valid v = q := ⟨_, rfl⟩
  rw [hq] at gv ⊢
  clear hq h
  have hx3 : VBox3 (w.alloc (.cells #[.int .i64 v.x, .int .i64 v.y, .int .i64 v.z] 33)) w.heap.size 0 v := by refine ⟨by simp, ?_, ?_, ?_⟩ <;> simp [go_sem]
  obtain ⟨x0, x1, x2⟩ := v
  have Gv := Lib.hid (show Gives Try.prog 56 #[.agg #[.int .i64 x0, .int .i64 x1, .int .i64 x2]] (.bool q) from gv)
  have Gc : Hid (∀ W, Below w.heap.size w W → Calls Try.prog 59 #[.pointer (some ⟨g, 0, none⟩), .int .i64 t, .agg #[.int .i64 x0, .int .i64 x1, .int .i64 x2], .func (.func 64) #[] #[]] W fun e w' => LedEnd n g mb v1 v2 half age c u' w e w') := Lib.hid gc.out
  have HX := Lib.hid hx3
  have Hb := Lib.hid (show Below w.heap.size w (w.alloc (.cells #[.int .i64 x0, .int .i64 x1, .int .i64 x2] 33)) from (Below.refl _ _).alloc (Nat.le_refl _) _)
  clear gv gc hx3
  show Calls Try.prog 28 #[.pointer (some ⟨g, 0, none⟩), .int .i64 t, .agg #[.int .i64 x0, .int .i64 x1, .int .i64 x2]] w _
  go_enter Try.func28, Try.ntmps28
  go_wp2_with fail
  refine (Gv.out _).mono ?_
  rintro e w2 ⟨rfl, hb2⟩
  have HB2 := Lib.hid (keeps_trans Hb.out hb2)
  obtain ⟨-, c0, c1, c2⟩ := HX.out.on hb2
  simp only at c0 c1 c2
  clear hb2
  cases q
  · have hE := Lib.hid (show LedEnd 1 g mb v1 v2 half age c u w (.returned (.int .i64 1)) w2 from ⟨rfl, hno.out _ HB2.out, Kept.of_below HB2.out⟩)
    clear c0 c1 c2
    go_wp2_with fail
    go_ret
    exact hE.out
  · go_wp2_with fail
    refine (Gc.out _ HB2.out).mono ?_
    rintro e w3 he
    obtain ⟨rfl, he2⟩ := he
    have HE := Lib.hid (show LedEnd n g mb v1 v2 half age c u' w (.returned (.int .i64 n)) w3 from ⟨rfl, he2⟩)
    clear he2 c0 c1 c2
    go_wp2_with fail
    go_ret
    exact HE.out
end Go.Proofs.Ytjkmcncgndkdoaa.CfgW
