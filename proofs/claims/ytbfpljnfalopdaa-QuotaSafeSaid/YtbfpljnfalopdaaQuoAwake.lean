/-
  Chapter 11's example, and its guard.
-/
import Derived.Test.YtbfpljnfalopdaaQuoWith
import Derived.Test.YtbfpljnfalopdaaCfgLaws
set_option linter.unusedVariables false
set_option linter.unusedSimpArgs false
namespace Go.Proofs.Ytbfpljnfalopdaa.CfgW
open Go Go.RowKit Go.Proofs.Ytbfpljnfalopdaa.L

theorem flat_at {α : Type} {dec : α → List Value} {sz : Nat} (hsz : ∀ x, (dec x).length = sz) : ∀ (xs : List α) (i : Nat) (x : α) (j : Nat) (v : Value), xs[i]? = some x → (dec x)[j]? = some v → (xs.flatMap dec)[i * sz + j]? = some v
  | [], i, x, j, v, h, _ => by simp at h
  | y :: xs, 0, x, j, v, h, hv => by
    simp at h
    subst h
    have hj : j < (dec y).length := by
      rcases Nat.lt_or_ge j (dec y).length with h | h
      · exact h
      · rw [List.getElem?_eq_none h] at hv; cases hv
    rw [List.flatMap_cons, Nat.zero_mul, Nat.zero_add, List.getElem?_append_left hj]
    exact hv
  | y :: xs, i + 1, x, j, v, h, hv => by
    rw [List.flatMap_cons, List.getElem?_append_right (by rw [hsz, Nat.add_mul]; omega), hsz]
    have e : (i + 1) * sz + j - sz = i * sz + j := by rw [Nat.add_mul]; omega
    rw [e]
    exact flat_at hsz xs i x j v (by simpa using h) hv
theorem row_litc {α : Type} {w : World} {b : Nat} {t : TypeId} {dec : α → List Value} {sz : Nat} (hsz : ∀ x, (dec x).length = sz) {xs : List α} {cs : Array Value} (h : Blk w b t cs) (hc : cs = (xs.flatMap dec).toArray) : RowOf w (some ⟨b, 0, none⟩) sz dec xs := fun _ =>
  ⟨b, 0, rfl, Blk.lt h, fun i x hx j v hv => by
    rw [Nat.zero_add]
    refine (Blk.cell h _).trans ?_
    rw [hc, List.getElem?_toArray]
    exact flat_at hsz xs i x j v hx hv⟩
def cTwo : Cfg.C := ⟨[⟨-1, 1, ⟨0, 0, 0⟩, ⟨0, 0, 0⟩, ⟨0, 0, 0⟩⟩, ⟨0, 1, ⟨4, 4, 4⟩, ⟨4, 4, 4⟩, ⟨4, 4, 4⟩⟩, ⟨0, 1, ⟨4, 4, 4⟩, ⟨4, 4, 4⟩, ⟨1, 1, 1⟩⟩], [⟨0, 0, 0, ⟨8, 8, 8⟩⟩], 1, 0⟩
def TwoEnd (w : World) (e : Ending) (w' : World) : Prop := ∃ A B, e = .returned (.agg #[.slice A 3 3, .slice B 1 1, .int .i64 1, .int .i64 0]) ∧ CfgAt w' (.agg #[.slice A 3 3, .slice B 1 1, .int .i64 1, .int .i64 0]) cTwo ∧ Below w.heap.size w w'
set_option maxRecDepth 100000 in
set_option maxHeartbeats 1000000 in
theorem two_any (w : World) : Calls Try.prog 37 #[] w fun e w' => TwoEnd w e w' := by
  go_enter Try.func37, Try.ntmps37
  go_wp2_with fail
  refine bodyPost_ret (v := .agg #[.slice (some ⟨w.heap.size + 1 + 1, 0, none⟩) 3 3, .slice (some ⟨w.heap.size + 1 + 1 + 1, 0, none⟩) 1 1, .int .i64 1, .int .i64 0]) (by simp [results, Try.results37, go_sem]) rfl ?_
  refine ⟨_, _, rfl, ⟨_, _, rfl, ⟨_, 3, rfl, row_litc (dec := ndec) (sz := 11) (t := 42) (fun _ => rfl) ?_ rfl, by decide⟩, ⟨_, 1, rfl, row_litc (dec := hdec) (sz := 6) (t := 80) (fun _ => rfl) ?_ rfl, by decide⟩⟩, by (repeat' (first | (with_reducible exact Below.refl _ _) | (with_reducible assumption) | (with_reducible refine Below.alloc ?_ ?_ _) | (with_reducible refine Go.Proofs.Ytbfpljnfalopdaa.L.below_drewN ?_ _) | (with_reducible refine Below.drew ?_) | (with_reducible refine Below.setCell ?_ ?_ _) | (with_reducible refine Below.frame ?_ _) | go_size))⟩
  · have h := fun o1 o2 o3 => Blk.alloc (Blk.new ((w.alloc o1).alloc o2) 42 (cTwo.nodes.flatMap ndec).toArray) o3
    simp only [World.size_alloc] at h
    exact h _ _ _
  · have h := fun o1 o2 o3 => Blk.new (((w.alloc o1).alloc o2).alloc o3) 80 (cTwo.hosts.flatMap hdec).toArray
    simp only [World.size_alloc] at h
    exact h _ _ _

theorem two_facts : Quo.may cTwo [] 2 ⟨8, 8, 8⟩ = true ∧ Quo.may cTwo [] 1 ⟨5, 5, 5⟩ = true ∧ Quo.may cTwo [] 1 ⟨6, 0, 0⟩ = false ∧ Quo.may cTwo [] 0 ⟨0, 0, 0⟩ = false ∧ Quo.nominal cTwo 0 = ⟨8, 8, 8⟩ ∧ Quo.kept cTwo [] 0 1 = ⟨3, 3, 3⟩ ∧ Quo.within cTwo [] 1 ⟨4, 4, 4⟩ = true ∧ Quo.borrows cTwo [⟨0, 0, 0⟩, ⟨5, 0, 0⟩] 1 = true := ⟨by kernel_rfl, by kernel_rfl, by kernel_rfl, by kernel_rfl, by kernel_rfl, by kernel_rfl, by kernel_rfl, by kernel_rfl⟩
theorem vsl_nil (w : World) : VSl w (.slice none 0 0) [] := ⟨none, 0, rfl, fun h => absurd rfl h, by decide⟩
theorem cTwo_len : cTwo.nodes.length ≤ 1000000 := by decide

set_option maxRecDepth 100000 in
set_option maxHeartbeats 4000000 in
theorem awake11 : Gives Try.prog 14 #[] (.bool true) := by
  intro w
  obtain ⟨f1, f2, f3, f4, f5, f6, f7, f8⟩ := two_facts
  have F1 := Lib.hid f1
  have F2 := Lib.hid f2
  have F3 := Lib.hid f3
  have F4 := Lib.hid f4
  have F5 := Lib.hid f5
  have F6 := Lib.hid f6
  have F7 := Lib.hid f7
  have F8 := Lib.hid f8
  clear f1 f2 f3 f4 f5 f6 f7 f8
  go_enter Try.func14, Try.ntmps14
  go_wp2_with fail
  refine (two_any _).mono ?_
  rintro e w1 ⟨A, B, rfl, hc, hb1⟩
  have hbx := CBox.new w1 (.slice A 3 3) (.slice B 1 1) 1 0
  have hb2 : Below w.heap.size w (w1.alloc (.cells #[.slice A 3 3, .slice B 1 1, .int .i64 1, .int .i64 0] 25)) := keeps_trans hb1 ((Below.refl _ _).alloc (Nat.le_refl _) _)
  have HC := Lib.hid (hc.below ((Below.refl w1.heap.size w1).alloc (Nat.le_refl _) (.cells #[.slice A 3 3, .slice B 1 1, .int .i64 1, .int .i64 0] 25)))
  have HX := Lib.hid hbx
  have HB := Lib.hid hb2
  clear hc hbx hb1 hb2
  go_wp2_with fail
  generalize w1.alloc (.cells #[.slice A 3 3, .slice B 1 1, .int .i64 1, .int .i64 0] 25) = w2 at *
  have hbw : Below w2.heap.size w2 w2 := Below.refl _ _
  obtain ⟨y0, y1, y2, y3, y4⟩ := HX.out
  refine (may_any HC.out cTwo_len (vsl_nil _) 2 ⟨8, 8, 8⟩ _ hbw).mono ?_
  rintro e w3 ⟨rfl, hbq⟩
  rw [F1.out]
  replace hbw := keeps_trans hbw hbq
  clear hbq y0 y1 y2 y3 y4
  obtain ⟨y0, y1, y2, y3, y4⟩ := HX.out.on hbw
  go_wp2_with fail
  refine (may_any HC.out cTwo_len (vsl_nil _) 1 ⟨5, 5, 5⟩ _ hbw).mono ?_
  rintro e w4 ⟨rfl, hbq⟩
  rw [F2.out]
  replace hbw := keeps_trans hbw hbq
  clear hbq y0 y1 y2 y3 y4
  obtain ⟨y0, y1, y2, y3, y4⟩ := HX.out.on hbw
  go_wp2_with fail
  refine (may_any HC.out cTwo_len (vsl_nil _) 1 ⟨6, 0, 0⟩ _ hbw).mono ?_
  rintro e w5 ⟨rfl, hbq⟩
  rw [F3.out]
  replace hbw := keeps_trans hbw hbq
  clear hbq y0 y1 y2 y3 y4
  obtain ⟨y0, y1, y2, y3, y4⟩ := HX.out.on hbw
  go_wp2_with fail
  refine (may_any HC.out cTwo_len (vsl_nil _) 0 ⟨0, 0, 0⟩ _ hbw).mono ?_
  rintro e w6 ⟨rfl, hbq⟩
  rw [F4.out]
  replace hbw := keeps_trans hbw hbq
  clear hbq y0 y1 y2 y3 y4
  obtain ⟨y0, y1, y2, y3, y4⟩ := HX.out.on hbw
  go_wp2_with fail
  refine (((nominal_any HC.out cTwo_len 0).val (v' := .agg #[.int .i64 8, .int .i64 8, .int .i64 8]) (by rw [F5.out]; rfl)) _ hbw).mono ?_
  rintro e w7 ⟨rfl, hbq⟩
  replace hbw := keeps_trans hbw hbq
  clear hbq y0 y1 y2 y3 y4
  obtain ⟨y0, y1, y2, y3, y4⟩ := HX.out.on hbw
  go_wp2_with fail
  refine (((kept_any HC.out cTwo_len (vsl_nil _) 0 1).val (v' := .agg #[.int .i64 3, .int .i64 3, .int .i64 3]) (by rw [F6.out]; rfl)) _ hbw).mono ?_
  rintro e w8 ⟨rfl, hbq⟩
  replace hbw := keeps_trans hbw hbq
  clear hbq y0 y1 y2 y3 y4
  obtain ⟨y0, y1, y2, y3, y4⟩ := HX.out.on hbw
  go_wp2_with fail
  refine (within_any HC.out (vsl_nil _) 1 ⟨4, 4, 4⟩ _ hbw).mono ?_
  rintro e w9 ⟨rfl, hbq⟩
  rw [F7.out]
  replace hbw := keeps_trans hbw hbq
  clear hbq y0 y1 y2 y3 y4
  obtain ⟨y0, y1, y2, y3, y4⟩ := HX.out.on hbw
  go_wp2_with fail
  have hb9 : Below w9.heap.size w9 (w9.alloc (.cells #[.int .i64 0, .int .i64 0, .int .i64 0, .int .i64 5, .int .i64 0, .int .i64 0] 29)) := (Below.refl _ _).alloc (Nat.le_refl _) _
  have hv9 : VSl (w9.alloc (.cells #[.int .i64 0, .int .i64 0, .int .i64 0, .int .i64 5, .int .i64 0, .int .i64 0] 29)) (.slice (some ⟨w9.heap.size, 0, none⟩) 2 2) [⟨0, 0, 0⟩, ⟨5, 0, 0⟩] :=
    ⟨_, 2, rfl, row_litc (dec := vdec) (sz := 3) (t := 29) (fun _ => rfl) (Blk.new w9 _ _) rfl, by decide⟩
  refine (borrows_any (HC.out.below (keeps_trans hbw hb9)) hv9 1 _ (Below.refl _ _)).mono ?_
  rintro e w10 ⟨rfl, hb10⟩
  rw [F8.out]
  have HE := Lib.hid (keeps_trans HB.out (keeps_trans hbw (keeps_trans hb9 hb10)))
  clear hb10 hv9 hb9 hbw y0 y1 y2 y3 y4
  go_wp2_with fail
  go_ret
  exact ⟨rfl, HE.out⟩

theorem len_ok {c : Cfg.C} (h : Cfg.check c = 0) : c.nodes.length ≤ 1000000 := by
  unfold Cfg.check at h
  split at h
  · rename_i hk
    unfold Cfg.ok Cfg.sizesOk Cfg.between at hk
    simp at hk
    omega
  · cases h

/-- A configuration that may be, and few amounts. -/
def mayB (c : Cfg.C) (n : Nat) : Bool := decide (Cfg.check c = 0) && decide (n ≤ 100)
set_option maxRecDepth 100000 in
set_option maxHeartbeats 1000000 in
theorem may11 {w : World} {v : Value} {c : Cfg.C} (hc : CfgAt w v c) (A5 : Option Addr) (U c5 : Nat) : GivesAt Try.prog w 11 #[v, .slice A5 U c5] (.bool (mayB c U)) := by
  intro w1 hb1
  replace hc := hc.below hb1
  clear hb1
  have gC := Lib.hid (rcheck_any hc)
  obtain ⟨v1, v2, rfl, ⟨A, ca, rfl, -, -⟩, ⟨B, cb, rfl, -, -⟩⟩ := id hc
  generalize c.nodes.length = N at *
  generalize c.hosts.length = M at *
  generalize hhalf : c.half = half at *
  generalize hage : c.age = age at *
  clear hc hhalf hage
  obtain ⟨y0, y1, y2, y3, y4⟩ := CBox.new w1 (.slice A N ca) (.slice B M cb) half age
  have HB := Lib.hid (show Below w1.heap.size w1 (w1.alloc (.cells #[.slice A N ca, .slice B M cb, .int .i64 half, .int .i64 age] 25)) from (Below.refl _ _).alloc (Nat.le_refl _) _)
  unfold mayB
  obtain ⟨ck, hck⟩ : ∃ ck, Cfg.check c = ck := ⟨_, rfl⟩
  rw [hck] at gC ⊢
  clear hck
  go_enter Try.func11, Try.ntmps11
  go_wp2_with fail
  refine (gC.out _ HB.out).mono ?_
  rintro e w2 ⟨rfl, hb2⟩
  have HB2 := Lib.hid (keeps_trans HB.out hb2)
  clear hb2 y0 y1 y2 y3 y4 gC
  by_cases h0 : ck = 0
  · have t0 : (ck == 0) = true := by simp [h0]
    by_cases h1 : U ≤ 100
    · have t1 : decide ((U : Int) ≤ 100) = true := by simp; omega
      have e1 : (decide (ck = 0) && decide (U ≤ 100)) = true := by simp [h0, h1]
      have HE := Lib.hid e1
      clear h0 h1 e1
      go_wp2_with fail
      go_ret
      exact ⟨by rw [HE.out]; rfl, HB2.out⟩
    · have t1 : decide ((U : Int) ≤ 100) = false := by simp; omega
      have e1 : (decide (ck = 0) && decide (U ≤ 100)) = false := by simp [h1]
      have HE := Lib.hid e1
      clear h0 h1 e1
      go_wp2_with fail
      go_ret
      exact ⟨by rw [HE.out]; rfl, HB2.out⟩
  · have t0 : (ck == 0) = false := by simp [h0]
    have e1 : (decide (ck = 0) && decide (U ≤ 100)) = false := by simp [h0]
    have HE := Lib.hid e1
    clear h0 e1
    go_wp2_with fail
    go_ret
    exact ⟨by rw [HE.out]; rfl, HB2.out⟩
end Go.Proofs.Ytbfpljnfalopdaa.CfgW
