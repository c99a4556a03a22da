/-
  Chapter 2's statements on halves, scales and the table, over any world.
-/
import Derived.Test.YtplbdipgnhddkaaDecLaws
import Derived.Test.YtplbdipgnhddkaaKeep
import Derived.Deep.MidRow
set_option linter.unusedVariables false
set_option linter.unusedSimpArgs false
namespace Go.Proofs.Ytplbdipgnhddkaa.DecW
open Go.RowKit Go.Proofs.Ytplbdipgnhddkaa.L

theorem u64_rem (n : Int) (m : Int) (hm : 0 < m) : ∃ k : Nat, (IntKind.u64.wrap n).tmod m = (k : Int) ∧ (k : Int) < m := by
  have h0 : 0 ≤ IntKind.u64.wrap n := by rw [IntKind.wrap_u64]; omega
  rw [Int.tmod_eq_emod_of_nonneg h0]
  have h1 := Int.emod_nonneg (IntKind.u64.wrap n) (show m ≠ 0 by omega)
  have h2 := Int.emod_lt_of_pos (IntKind.u64.wrap n) hm
  exact ⟨(IntKind.u64.wrap n % m).toNat, by omega, by omega⟩

set_option maxRecDepth 100000 in
set_option maxHeartbeats 1000000 in
theorem halves_law (x : Nat) (hx : x ≤ Fix.top) (age half : Int) : Gives Try.prog 12 #[.int .u64 x, .int .i64 age, .int .i64 half] (.bool true) := by
  obtain ⟨h, hh, hh1⟩ := u64_rem half 1099511627776 (by omega)
  obtain ⟨a, ha, ha1⟩ := u64_rem age 1125899906842624 (by omega)
  have g1 := gfac (a : Int) (1 + (h : Int)) (by omega)
  have g2 := gfac ((a : Int) + (1 + (h : Int))) (1 + (h : Int)) (by omega)
  have g3 := gapply x hx (a : Int) (1 + (h : Int)) (by omega)
  have l1 := Dec.factor_le (a : Int) (1 + (h : Int))
  have l2 := Dec.factor_halves (a : Int) (1 + (h : Int)) (by omega) (by omega)
  have l3 := Dec.apply_le x (a : Int) (1 + (h : Int))
  rw [l2] at g2
  clear l2 hx
  unfold Fix.one at l1
  generalize Dec.factor (a : Int) (1 + (h : Int)) = F at *
  generalize Dec.apply x (a : Int) (1 + (h : Int)) = M at *
  have hF2 : ((F / 2 : Nat) : Int) = (F : Int) / 2 := by omega
  rw [hF2] at g2
  clear hF2
  have t2 : decide (M ≤ x) = true := by simp; omega
  have l0 : (0 : Int) ≤ (F : Int) := by omega
  have l1' : (F : Int) ≤ 4294967296 := by omega
  clear l1
  generalize (F : Int) = G at *
  intro w
  go_enter Try.func12, Try.ntmps12
  go_wp2_with fail
  refine (g1 _).mono ?_
  rintro e w101 ⟨rfl, hbq⟩
  replace hbw := keeps_trans (a := w) (by (repeat' (first | (with_reducible exact Below.refl _ _) | (with_reducible assumption) | (with_reducible refine Below.alloc ?_ ?_ _) | (with_reducible refine L.below_drewN ?_ _) | (with_reducible refine Below.drew ?_) | (with_reducible refine Below.setCell ?_ ?_ _) | (with_reducible refine Below.frame ?_ _) | go_size))) hbq
  clear hbq
  go_wp2_with fail
  refine (g2 _).mono ?_
  rintro e w102 ⟨rfl, hbq⟩
  replace hbw := keeps_trans (a := w) (by (repeat' (first | (with_reducible exact Below.refl _ _) | (with_reducible assumption) | (with_reducible refine Below.alloc ?_ ?_ _) | (with_reducible refine L.below_drewN ?_ _) | (with_reducible refine Below.drew ?_) | (with_reducible refine Below.setCell ?_ ?_ _) | (with_reducible refine Below.frame ?_ _) | go_size))) hbq
  clear hbq
  go_wp2_with fail
  refine (g3 _).mono ?_
  rintro e w103 ⟨rfl, hbq⟩
  replace hbw := keeps_trans (a := w) (by (repeat' (first | (with_reducible exact Below.refl _ _) | (with_reducible assumption) | (with_reducible refine Below.alloc ?_ ?_ _) | (with_reducible refine L.below_drewN ?_ _) | (with_reducible refine Below.drew ?_) | (with_reducible refine Below.setCell ?_ ?_ _) | (with_reducible refine Below.frame ?_ _) | go_size))) hbq
  clear hbq
  go_wp2_with fail
  refine (awake02 _).mono ?_
  rintro e w104 ⟨rfl, hbq⟩
  replace hbw := keeps_trans (a := w) (by (repeat' (first | (with_reducible exact Below.refl _ _) | (with_reducible assumption) | (with_reducible refine Below.alloc ?_ ?_ _) | (with_reducible refine L.below_drewN ?_ _) | (with_reducible refine Below.drew ?_) | (with_reducible refine Below.setCell ?_ ?_ _) | (with_reducible refine Below.frame ?_ _) | go_size))) hbq
  clear hbq
  go_wp2
  go_ret
  exact ⟨rfl, by (repeat' (first | (with_reducible exact Below.refl _ _) | (with_reducible assumption) | (with_reducible refine Below.alloc ?_ ?_ _) | (with_reducible refine L.below_drewN ?_ _) | (with_reducible refine Below.drew ?_) | (with_reducible refine Below.setCell ?_ ?_ _) | (with_reducible refine Below.frame ?_ _) | go_size))⟩

theorem mul_small (a b : Nat) (ha : a < 100000) (hb : b < 1000) : IntKind.i64.wrap ((a : Int) * (1 + (b : Int))) = ((a * (1 + b) : Nat) : Int) ∧ a * (1 + b) ≤ 100000000 := by
  have h : a * (1 + b) ≤ 100000 * 1000 := Nat.mul_le_mul (by omega) (by omega)
  refine ⟨?_, by omega⟩
  have e : (a : Int) * (1 + (b : Int)) = ((a * (1 + b) : Nat) : Int) := by simp
  rw [e]
  exact IntWalk.i64_in _ (by omega)

set_option maxHeartbeats 400000 in
theorem scales_law (age half by_ : Int) : Gives Try.prog 9 #[.int .i64 age, .int .i64 half, .int .i64 by_] (.bool true) := by
  obtain ⟨h, hh, hh1⟩ := u64_rem half 1000 (by omega)
  obtain ⟨a, ha, ha1⟩ := u64_rem age 100000 (by omega)
  obtain ⟨b, hb, hb1⟩ := u64_rem by_ 1000 (by omega)
  have e1 := mul_small a b (by omega) (by omega)
  have e2 := mul_small (1 + h) b (by omega) (by omega)
  have l1 := Dec.factor_scale (a : Int) (1 + (h : Int)) (1 + (b : Int)) (by omega) (by omega) (by omega)
  have c1 : (a : Int) * (1 + (b : Int)) = ((a * (1 + b) : Nat) : Int) := by simp
  have c2 : (1 + (h : Int)) * (1 + (b : Int)) = (((1 + h) * (1 + b) : Nat) : Int) := by simp
  have c3 : (((1 + h : Nat)) : Int) = 1 + (h : Int) := by simp
  rw [c1, c2] at l1
  rw [c3] at e2
  clear c1 c2 c3
  obtain ⟨e1, b1⟩ := e1
  obtain ⟨e2, b2⟩ := e2
  generalize a * (1 + b) = A at *
  generalize (1 + h) * (1 + b) = H at *
  have g1 := gfac (A : Int) (H : Int) (by omega)
  have g2 := gfac (a : Int) (1 + (h : Int)) (by omega)
  rw [l1] at g1
  clear l1
  generalize Dec.factor (a : Int) (1 + (h : Int)) = F at *
  intro w
  go_enter Try.func9, Try.ntmps9
  go_wp2_with fail
  refine (g1 _).mono ?_
  rintro e w105 ⟨rfl, hbq⟩
  replace hbw := keeps_trans (a := w) (by (repeat' (first | (with_reducible exact Below.refl _ _) | (with_reducible assumption) | (with_reducible refine Below.alloc ?_ ?_ _) | (with_reducible refine L.below_drewN ?_ _) | (with_reducible refine Below.drew ?_) | (with_reducible refine Below.setCell ?_ ?_ _) | (with_reducible refine Below.frame ?_ _) | go_size))) hbq
  clear hbq
  go_wp2_with fail
  refine (g2 _).mono ?_
  rintro e w106 ⟨rfl, hbq⟩
  replace hbw := keeps_trans (a := w) (by (repeat' (first | (with_reducible exact Below.refl _ _) | (with_reducible assumption) | (with_reducible refine Below.alloc ?_ ?_ _) | (with_reducible refine L.below_drewN ?_ _) | (with_reducible refine Below.drew ?_) | (with_reducible refine Below.setCell ?_ ?_ _) | (with_reducible refine Below.frame ?_ _) | go_size))) hbq
  clear hbq
  go_wp2_with fail
  refine (awake02 _).mono ?_
  rintro e w107 ⟨rfl, hbq⟩
  replace hbw := keeps_trans (a := w) (by (repeat' (first | (with_reducible exact Below.refl _ _) | (with_reducible assumption) | (with_reducible refine Below.alloc ?_ ?_ _) | (with_reducible refine L.below_drewN ?_ _) | (with_reducible refine Below.drew ?_) | (with_reducible refine Below.setCell ?_ ?_ _) | (with_reducible refine Below.frame ?_ _) | go_size))) hbq
  clear hbq
  go_wp2
  go_ret
  exact ⟨rfl, by (repeat' (first | (with_reducible exact Below.refl _ _) | (with_reducible assumption) | (with_reducible refine Below.alloc ?_ ?_ _) | (with_reducible refine L.below_drewN ?_ _) | (with_reducible refine Below.drew ?_) | (with_reducible refine Below.setCell ?_ ?_ _) | (with_reducible refine Below.frame ?_ _) | go_size))⟩

theorem tab_load (w : World) (B : Nat) (h : TabAt w B) : (Instr.loadAt 35 (.pointer (some ⟨B, 0, none⟩))).run Try.prog w = .ok tabV w := by
  refine run_loadAt_mid w B 0 35 tabC.toList _ ?_ Try.underlying35 rfl (by kernel_rfl)
  intro j v hj
  have hj' : j < 16 := by
    rcases Nat.lt_or_ge j 16 with h | h
    · exact h
    · rw [List.getElem?_eq_none (by exact h)] at hj; cases hj
  have := tabC_at j hj'
  rw [← Array.getElem?_toList, hj] at this
  rw [Nat.zero_add, h.2 j hj', this]
theorem tab_eql (w : World) : (binOp .eql 35 tabV tabV).run Try.prog w = .ok (.bool true) w := by kernel_rfl

theorem mul_up (k : Nat) (h : k < 15) : IntKind.u64.wrap ((Dec.t (k + 1) : Int) + 1) = ((Dec.t (k + 1) + 1 : Nat) : Int) := by
  have := Dec.t_lt (k + 1)
  rw [IntKind.wrap_u64]
  omega

set_option maxRecDepth 100000 in
set_option maxHeartbeats 1000000 in
theorem table_law (i : Int) : Gives Try.prog 8 #[.int .i64 i] (.bool true) := by
  obtain ⟨k, hk, hk1⟩ := u64_rem i 15 (by omega)
  have hk15 : k < 15 := by omega
  have ht := Dec.table k hk15
  have g1 := FixW.grmul (Dec.t (k + 1)) (Dec.t (k + 1)) (Dec.t_top _) (Dec.t_top _)
  have g2 := FixW.grmul (Dec.t (k + 1) + 1) (Dec.t (k + 1) + 1) (by have := Dec.t_lt (k + 1); unfold Fix.top; omega) (by have := Dec.t_lt (k + 1); unfold Fix.top; omega)
  have hup := mul_up k hk15
  have hml := Fix.mul_lt (Dec.t (k + 1)) (Dec.t (k + 1))
  have hmh : Fix.mul (Dec.t (k + 1) + 1) (Dec.t (k + 1) + 1) + 1 ≤ 18446744073709551615 := by
    have := Dec.t_lt (k + 1)
    have := Dec.mul_le (Dec.t (k + 1) + 1) (Dec.t (k + 1) + 1) (by unfold Fix.one; omega)
    omega
  obtain ⟨T1, hT1⟩ : ∃ T1, Dec.t (k + 1) = T1 := ⟨_, rfl⟩
  obtain ⟨T0, hT0⟩ : ∃ T0, Dec.t k = T0 := ⟨_, rfl⟩
  have hcell : ∀ W B, TabAt W B → W.cell? ⟨B, k, none⟩ = some (.int .u64 (T0 : Int)) ∧ W.cell? ⟨B, k + 1, none⟩ = some (.int .u64 (T1 : Int)) := fun W B h => by rw [← hT0, ← hT1]; exact ⟨h.2 k (by omega), h.2 (k + 1) (by omega)⟩
  rw [hT1] at ht g1 g2 hup hml hmh
  rw [hT0] at ht
  obtain ⟨M1, hM1⟩ : ∃ M1, Fix.mul T1 T1 = M1 := ⟨_, rfl⟩
  obtain ⟨M2, hM2⟩ : ∃ M2, Fix.mul (T1 + 1) (T1 + 1) = M2 := ⟨_, rfl⟩
  rw [hM1] at ht g1 hml
  rw [hM2] at ht g2 hmh
  obtain ⟨c1, c2, c3, c4⟩ := ht
  have t1 : decide (M1 ≤ T0) = true := by simpa using c1
  have t2 : decide ((T0 : Int) ≤ (M2 : Int) + 1) = true := by simp; omega
  have t3 : decide (T0 < T1) = true := by simpa using c3
  have t4 : decide ((T1 : Int) < 4294967296) = true := by simp; omega
  have hup2 : IntKind.u64.wrap ((M2 : Int) + 1) = (M2 : Int) + 1 := by rw [IntKind.wrap_u64]; omega
  have hup' : IntKind.u64.wrap ((T1 : Int) + 1) = ((T1 : Int) + 1) := by rw [hup]; simp
  have hg2 : Gives Try.prog 36 #[.int .u64 ((T1 : Int) + 1), .int .u64 ((T1 : Int) + 1)] (.int .u64 (M2 : Int)) := by rw [show (T1 : Int) + 1 = ((T1 + 1 : Nat) : Int) by simp]; exact g2
  clear hM1 hM2 hT1 hT0 hup hml hmh c1 c2 c3 c4 g2
  intro w
  go_enter Try.func8, Try.ntmps8
  go_wp2_with fail
  refine (gtable _).mono ?_
  rintro e w1 ⟨rfl, hb1⟩
  have hT := TabAt.new w1
  have hbw : Below w.heap.size w (w1.alloc (.cells tabC 35)) := hb1.alloc hb1.size _
  unfold tabV
  unfold tabC at *
  go_wp2_with fail
  obtain ⟨B, hBe⟩ : ∃ B, w1.heap.size = B := ⟨_, rfl⟩
  have hwB : w.heap.size ≤ B := by have := hb1.size; rw [← hBe]; exact this
  rw [hBe] at hT ⊢
  clear hBe hb1
  obtain ⟨w3, hw3⟩ : ∃ w3, w1.alloc (.cells #[.int .u64 3037000499, .int .u64 3611622602, .int .u64 3938502375, .int .u64 4112874772, .int .u64 4202935002, .int .u64 4248701964, .int .u64 4271771996, .int .u64 4283353945, .int .u64 4289156689, .int .u64 4292061009, .int .u64 4293513906, .int .u64 4294240539, .int .u64 4294603902, .int .u64 4294785595, .int .u64 4294876444, .int .u64 4294921869] 35) = w3 := ⟨_, rfl⟩
  rw [hw3] at hT hbw ⊢
  clear hw3
  obtain ⟨d0, d1⟩ : (∀ W, Onward w3 W → W.cell? ⟨B, k, none⟩ = some (.int .u64 (T0 : Int))) ∧ (∀ W, Onward w3 W → W.cell? ⟨B, k + 1, none⟩ = some (.int .u64 (T1 : Int))) :=
    ⟨fun W hW => (hcell W B (hT.below hW)).1, fun W hW => (hcell W B (hT.below hW)).2⟩
  have i1 : IntKind.i64.wrap ((k : Int) + 1) = (k : Int) + 1 := IntWalk.i64_in _ (by omega)
  have i2 : (0 : Int) ≤ (k : Int) + 1 := by omega
  have i3 : (k : Int) + 1 < 16 := by omega
  have i4 : ((k : Int) + 1).toNat = k + 1 := by omega
  have i5 : (0 : Int) ≤ (k : Int) := by omega
  have i6 : (k : Int) < 16 := by omega
  refine region_keep (by kernel_rfl) (by kernel_rfl) ?_
  repeat (apply L.wpKeep_yes; (focus rfl); (focus (intro W hW; go_simp; first | done | exact ⟨rfl, hW⟩ | rfl)); (focus (go_simp; first | done | rfl)))
  (apply L.wpKeep_yes; (focus rfl); (focus (intro W hW; go_simp; first | exact L.Gives.up g1 hW | exact ⟨hW, L.Gives.up g1 hW⟩)); (focus (go_simp; first | done | rfl)))
  repeat (apply L.wpKeep_yes; (focus rfl); (focus (intro W hW; go_simp; first | done | exact ⟨rfl, hW⟩ | rfl)); (focus (go_simp; first | done | rfl)))
  (apply L.wpKeep_yes; (focus rfl); (focus (intro W hW; go_simp; first | exact L.Gives.up hg2 hW | exact ⟨hW, L.Gives.up hg2 hW⟩)); (focus (go_simp; first | done | rfl)))
  repeat (apply L.wpKeep_yes; (focus rfl); (focus (intro W hW; go_simp; first | done | exact ⟨rfl, hW⟩ | rfl)); (focus (go_simp; first | done | rfl)))
  refine wpKeep_nil ?_
  intro W hW
  go_wp2_with fail
  clear d0 d1
  have e0 : ∀ W', Onward W W' → W'.cell? ⟨B, 0, none⟩ = some (.int .u64 3037000499) := fun W' hW' => ((hT.below hW).below hW').2 0 (by omega)
  have e1 : ∀ W', Onward W W' → W'.cell? ⟨B, 1, none⟩ = some (.int .u64 3611622602) := fun W' hW' => ((hT.below hW).below hW').2 1 (by omega)
  have e2 : ∀ W', Onward W W' → W'.cell? ⟨B, 2, none⟩ = some (.int .u64 3938502375) := fun W' hW' => ((hT.below hW).below hW').2 2 (by omega)
  have e3 : ∀ W', Onward W W' → W'.cell? ⟨B, 3, none⟩ = some (.int .u64 4112874772) := fun W' hW' => ((hT.below hW).below hW').2 3 (by omega)
  have e4 : ∀ W', Onward W W' → W'.cell? ⟨B, 4, none⟩ = some (.int .u64 4202935002) := fun W' hW' => ((hT.below hW).below hW').2 4 (by omega)
  have e5 : ∀ W', Onward W W' → W'.cell? ⟨B, 5, none⟩ = some (.int .u64 4248701964) := fun W' hW' => ((hT.below hW).below hW').2 5 (by omega)
  have e6 : ∀ W', Onward W W' → W'.cell? ⟨B, 6, none⟩ = some (.int .u64 4271771996) := fun W' hW' => ((hT.below hW).below hW').2 6 (by omega)
  have e7 : ∀ W', Onward W W' → W'.cell? ⟨B, 7, none⟩ = some (.int .u64 4283353945) := fun W' hW' => ((hT.below hW).below hW').2 7 (by omega)
  have e8 : ∀ W', Onward W W' → W'.cell? ⟨B, 8, none⟩ = some (.int .u64 4289156689) := fun W' hW' => ((hT.below hW).below hW').2 8 (by omega)
  have e9 : ∀ W', Onward W W' → W'.cell? ⟨B, 9, none⟩ = some (.int .u64 4292061009) := fun W' hW' => ((hT.below hW).below hW').2 9 (by omega)
  have e10 : ∀ W', Onward W W' → W'.cell? ⟨B, 10, none⟩ = some (.int .u64 4293513906) := fun W' hW' => ((hT.below hW).below hW').2 10 (by omega)
  have e11 : ∀ W', Onward W W' → W'.cell? ⟨B, 11, none⟩ = some (.int .u64 4294240539) := fun W' hW' => ((hT.below hW).below hW').2 11 (by omega)
  have e12 : ∀ W', Onward W W' → W'.cell? ⟨B, 12, none⟩ = some (.int .u64 4294603902) := fun W' hW' => ((hT.below hW).below hW').2 12 (by omega)
  have e13 : ∀ W', Onward W W' → W'.cell? ⟨B, 13, none⟩ = some (.int .u64 4294785595) := fun W' hW' => ((hT.below hW).below hW').2 13 (by omega)
  have e14 : ∀ W', Onward W W' → W'.cell? ⟨B, 14, none⟩ = some (.int .u64 4294876444) := fun W' hW' => ((hT.below hW).below hW').2 14 (by omega)
  have e15 : ∀ W', Onward W W' → W'.cell? ⟨B, 15, none⟩ = some (.int .u64 4294921869) := fun W' hW' => ((hT.below hW).below hW').2 15 (by omega)
  have grt := grtable
  unfold tabV tabC at grt
  have he : ∀ W' : World, (binOp .eql 35 (.agg #[.int .u64 3037000499, .int .u64 3611622602, .int .u64 3938502375, .int .u64 4112874772, .int .u64 4202935002, .int .u64 4248701964, .int .u64 4271771996, .int .u64 4283353945, .int .u64 4289156689, .int .u64 4292061009, .int .u64 4293513906, .int .u64 4294240539, .int .u64 4294603902, .int .u64 4294785595, .int .u64 4294876444, .int .u64 4294921869]) (.agg #[.int .u64 3037000499, .int .u64 3611622602, .int .u64 3938502375, .int .u64 4112874772, .int .u64 4202935002, .int .u64 4248701964, .int .u64 4271771996, .int .u64 4283353945, .int .u64 4289156689, .int .u64 4292061009, .int .u64 4293513906, .int .u64 4294240539, .int .u64 4294603902, .int .u64 4294785595, .int .u64 4294876444, .int .u64 4294921869])).run Try.prog W' = .ok (.bool true) W' := tab_eql
  obtain ⟨d0, d1⟩ : (∀ W', Onward W W' → W'.cell? ⟨B, k, none⟩ = some (.int .u64 (T0 : Int))) ∧ (∀ W', Onward W W' → W'.cell? ⟨B, k + 1, none⟩ = some (.int .u64 (T1 : Int))) :=
    ⟨fun W' hW' => (hcell W' B ((hT.below hW).below hW')).1, fun W' hW' => (hcell W' B ((hT.below hW).below hW')).2⟩
  have hbw2 := keeps_trans hbw hW
  clear hcell hT hW hbw
  refine region_keep (by kernel_rfl) (by kernel_rfl) ?_
  repeat (apply L.wpKeep_yes; (focus rfl); (focus (intro W hW; go_simp; first | done | exact ⟨rfl, hW⟩ | rfl)); (focus (go_simp; first | done | rfl)))
  (apply L.wpKeep_yes; (focus rfl); (focus (intro W hW; go_simp; first | exact L.Gives.up grt hW | exact ⟨hW, L.Gives.up grt hW⟩)); (focus (go_simp; first | done | rfl)))
  repeat (apply L.wpKeep_yes; (focus rfl); (focus (intro W hW; go_simp; first | done | exact ⟨rfl, hW⟩ | rfl)); (focus (go_simp; first | done | rfl)))
  (apply L.wpKeep_yes; (focus rfl); (focus (intro W hW; go_simp; first | exact L.Gives.up awake02 hW | exact ⟨hW, L.Gives.up awake02 hW⟩)); (focus (go_simp; first | done | rfl)))
  repeat (apply L.wpKeep_yes; (focus rfl); (focus (intro W hW; go_simp; first | done | exact ⟨rfl, hW⟩ | rfl)); (focus (go_simp; first | done | rfl)))
  refine wpKeep_nil ?_
  intro W' hW'
  go_wp2
  go_ret
  exact ⟨rfl, keeps_trans hbw2 hW'⟩
/-! ### from the arguments as they come -/
theorem two64 {a b : Int} (ha : (Lit.int .i64 a).wf = true) (hb : (Lit.int .i64 b).wf = true) : (-9223372036854775808 ≤ a ∧ a ≤ 9223372036854775807) ∧ (-9223372036854775808 ≤ b ∧ b ≤ 9223372036854775807) := ⟨bounds_i64 ha, bounds_i64 hb⟩
theorem applies_int (x age half : Int) (hx : (Lit.int .u64 x).wf = true) (ha : (Lit.int .i64 age).wf = true) (hh : (Lit.int .i64 half).wf = true) : Gives Try.prog 11 #[.int .u64 x, .int .i64 age, .int .i64 half] (.bool true) := by
  obtain ⟨m, rfl, hm⟩ := FixW.u64_nat hx
  exact applies_law m hm age half (two64 ha hh)
theorem halves_int (x age half : Int) (hx : (Lit.int .u64 x).wf = true) : Gives Try.prog 12 #[.int .u64 x, .int .i64 age, .int .i64 half] (.bool true) := by
  obtain ⟨m, rfl, hm⟩ := FixW.u64_nat hx
  exact halves_law m hm age half
end Go.Proofs.Ytplbdipgnhddkaa.DecW
