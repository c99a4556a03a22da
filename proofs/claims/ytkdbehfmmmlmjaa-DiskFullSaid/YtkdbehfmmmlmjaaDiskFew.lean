/-
  Are deeds few?
-/
import Derived.Test.YtkdbehfmmmlmjaaDiskDeed
set_option linter.unusedVariables false
set_option linter.unusedSimpArgs false
namespace Go.Proofs.Ytkdbehfmmmlmjaa.DiskW
open Go.RowKit Go.Proofs.Ytkdbehfmmmlmjaa.L

def total : List Deed → Nat
  | [] => 0
  | x :: xs => 1 + x.s.size + total xs
theorem total_append (a b : List Deed) : total (a ++ b) = total a + total b := by
  induction a with
  | nil => simp [total]
  | cons x xs ih => simp only [List.cons_append, total, ih]; omega
theorem total_take (xs : List Deed) (k : Nat) (x : Deed) (h : xs[k]? = some x) : total (xs.take (k + 1)) = total (xs.take k) + (1 + x.s.size) := by
  rw [List.take_add_one, h, total_append]
  simp [total]
theorem total_le (xs : List Deed) (k : Nat) : total (xs.take k) ≤ total xs := by
  conv => rhs; rw [← List.take_append_drop k xs, total_append]
  omega
def few (xs : List Deed) : Bool := decide (total xs < 20000)
theorem few_len {xs : List Deed} (h : few xs = true) : xs.length < 20000 ∧ ∀ x ∈ xs, x.s.size < 20000 := by
  unfold few at h
  simp only [decide_eq_true_eq] at h
  have key : ∀ l : List Deed, l.length ≤ total l ∧ ∀ x ∈ l, x.s.size ≤ total l := by
    intro l
    induction l with
    | nil => simp [total]
    | cons y ys ih =>
      refine ⟨by simp only [List.length_cons, total]; omega, fun x hx => ?_⟩
      simp only [total]
      rcases List.mem_cons.1 hx with rfl | hx
      · omega
      · have := ih.2 x hx; omega
  have := key xs
  exact ⟨by omega, fun x hx => by have := this.2 x hx; omega⟩

set_option maxHeartbeats 1000000 in
theorem few_any {w : World} {A : Option Addr} {cap : Nat} {xs : List Deed} (hl : xs.length ≤ maxLen) (hr : RowOf w A 3 Deed.dec xs) (hs : ∀ x ∈ xs, x.s.size ≤ 140737488351232) :
    Calls Try.prog 13 #[.slice A xs.length cap] w fun e w' => e = .returned (.bool (few xs)) ∧ w = w' := by
  unfold maxLen at hl
  obtain ⟨T, hT⟩ : ∃ T : Nat → Nat, T = fun k => total (xs.take k) := ⟨_, rfl⟩
  have hT0 : T 0 = 0 := by rw [hT]; rfl
  have hTn : T xs.length = total xs := by rw [hT]; simp
  have hTle : ∀ k, T k ≤ total xs := fun k => by rw [hT]; exact total_le xs k
  have hTs : ∀ k (h : k < xs.length), T (k + 1) = T k + (1 + xs[k].s.size) := fun k h => by rw [hT]; exact total_take xs k xs[k] (List.getElem?_eq_getElem h)
  clear hT
  have H0 := Lib.hid hT0
  have Hn := Lib.hid hTn
  have Hle := Lib.hid hTle
  have Hs := Lib.hid hTs
  have Hr := Lib.hid hr
  have HS := Lib.hid hs
  clear hT0 hTn hTle hTs hr hs
  obtain ⟨n, hn⟩ : ∃ n, xs.length = n := ⟨_, rfl⟩
  have HN := Lib.hid hn
  rw [hn] at hl ⊢
  clear hn
  go_enter Try.func13, Try.ntmps13
  go_wp2
  go_loop [3, 4] (fun c i => ∃ k : Nat, k ≤ n ∧ i = .int .i64 (k : Int) ∧ c = .int .i64 (T k : Int) ∧ T k ≤ 140737488400000) (fun _ i => n - (intOf i).toNat)
  case atStart => exact ⟨0, by omega, rfl, by rw [H0.out]; rfl, by rw [H0.out]; omega⟩
  case round =>
    obtain ⟨k, hk, rfl, rfl, hb⟩ := hrel
    by_cases hkn : k < n
    · by_cases ht : T k < 20000
      · have hn := HN.out
        have hkx : k < xs.length := by omega
        obtain ⟨b, o, rfl, hlt, hc⟩ := Hr.out (by intro e; subst e; simp at hkx)
        have c2 := hc k xs[k] (List.getElem?_eq_getElem hkx) 2 (.string xs[k].s) rfl
        have hz := HS.out xs[k] (List.getElem_mem hkx)
        have hst := Lib.hid (Hs.out k hkx)
        obtain ⟨s, hse⟩ : ∃ s, xs[k].s = s := ⟨_, rfl⟩
        rw [hse] at c2 hz hst
        clear hse hn hc hkx
        have ht' : decide ((T k : Int) < 20000) = true := by simp; omega
        go_wp2_with fail
        go_round
        case rel => exact ⟨k + 1, by omega, by go_num, by rw [hst.out]; go_num, by rw [hst.out]; omega⟩
        case measure => simp [intOf]; omega
      · have ht' : decide ((T k : Int) < 20000) = false := by simp; omega
        have hfin := Lib.hid (show few xs = false by unfold few; have := Hle.out k; simp; omega)
        clear ht
        go_wp2_with fail
        go_ret
        exact ⟨ret_bool hfin.out.symm, rfl⟩
    · obtain rfl : k = n := by omega
      have hfin := Lib.hid (show few xs = decide ((T k : Int) < 20000) by unfold few; rw [← Hn.out, HN.out]; exact decide_eq_decide.2 (by omega))
      go_wp2_with fail
      go_ret
      exact ⟨ret_bool hfin.out.symm, rfl⟩
end Go.Proofs.Ytkdbehfmmmlmjaa.DiskW
