/-
  Are records few?
-/
import Derived.Test.YtkdbehfmmmlmjaaJouSame
import Derived.Test.YtkdbehfmmmlmjaaOpen
set_option linter.unusedVariables false
set_option linter.unusedSimpArgs false
namespace Go.Proofs.Ytkdbehfmmmlmjaa.JouW
open Go.RowKit Go.Proofs.Ytkdbehfmmmlmjaa.L Go.Proofs.Ytkdbehfmmmlmjaa.CrcW

def sdec (x : List UInt8) : List Value := [vs x]
def total : List (List UInt8) → Nat
  | [] => 0
  | x :: xs => 1 + x.length + total xs
theorem total_append (a b : List (List UInt8)) : total (a ++ b) = total a + total b := by
  induction a with
  | nil => simp [total]
  | cons x xs ih => simp only [List.cons_append, total, ih]; omega
theorem total_take (xs : List (List UInt8)) (k : Nat) (x : List UInt8) (h : xs[k]? = some x) : total (xs.take (k + 1)) = total (xs.take k) + (1 + x.length) := by
  rw [List.take_add_one, h, total_append]
  simp [total]
theorem total_le (xs : List (List UInt8)) (k : Nat) : total (xs.take k) ≤ total xs := by
  conv => rhs; rw [← List.take_append_drop k xs, total_append]
  omega
def few (xs : List (List UInt8)) : Bool := decide (total xs < 60000) && decide (xs.length ≤ 60)
theorem few_len {xs : List (List UInt8)} (h : few xs = true) : xs.length ≤ 60 ∧ total xs < 60000 := by
  unfold few at h
  simp at h
  omega

set_option maxHeartbeats 1000000 in
theorem few_any {w : World} {A : Option Addr} {cap : Nat} {xs : List (List UInt8)} (hl : xs.length ≤ maxLen) (hr : RowOf w A 1 sdec xs) (hs : ∀ x ∈ xs, x.length ≤ 140737488351232) :
    Calls Try.prog 27 #[.slice A xs.length cap] w fun e w' => e = .returned (.bool (few xs)) ∧ w = w' := by
  unfold maxLen at hl
  obtain ⟨T, hT⟩ : ∃ T : Nat → Nat, T = fun k => total (xs.take k) := ⟨_, rfl⟩
  have hT0 : T 0 = 0 := by rw [hT]; rfl
  have hTn : T xs.length = total xs := by rw [hT]; simp
  have hTle : ∀ k, T k ≤ total xs := fun k => by rw [hT]; exact total_le xs k
  have hTs : ∀ k (h : k < xs.length), T (k + 1) = T k + (1 + xs[k].length) := fun k h => by rw [hT]; exact total_take xs k xs[k] (List.getElem?_eq_getElem h)
  clear hT
  have H0 := Lib.hid hT0
  have Hn := Lib.hid hTn
  have Hle := Lib.hid hTle
  have Hs := Lib.hid hTs
  have Hr := Lib.hid hr
  have HS := Lib.hid hs
  clear hT0 hTn hTle hTs hr hs
  obtain ⟨n, hn⟩ : ∃ n, xs.length = n := ⟨_, rfl⟩
  have HN := Lib.hid hn
  rw [hn] at hl ⊢
  clear hn
  go_enter Try.func27, Try.ntmps27
  go_wp2
  go_loop [3, 4] (fun c i => ∃ k : Nat, k ≤ n ∧ i = .int .i64 (k : Int) ∧ c = .int .i64 (T k : Int) ∧ T k ≤ 140737488500000) (fun _ i => n - (intOf i).toNat)
  case atStart => exact ⟨0, by omega, rfl, by rw [H0.out]; rfl, by rw [H0.out]; omega⟩
  case round =>
    obtain ⟨k, hk, rfl, rfl, hb⟩ := hrel
    by_cases hkn : k < n
    · by_cases ht : T k < 60000
      · have hn := HN.out
        have hkx : k < xs.length := by omega
        obtain ⟨b, o, rfl, hlt, hc⟩ := Hr.out (by intro e; subst e; simp at hkx)
        have c2 := hc k xs[k] (List.getElem?_eq_getElem hkx) 0 (vs xs[k]) rfl
        have hz := HS.out xs[k] (List.getElem_mem hkx)
        have hst := Lib.hid (Hs.out k hkx)
        obtain ⟨s, hse⟩ : ∃ s, str xs[k] = s := ⟨_, rfl⟩
        rw [← str_size xs[k]] at hz hst
        unfold vs at c2
        rw [Nat.mul_one, Nat.add_zero] at c2
        rw [hse] at c2 hz hst
        clear hse hn hc hkx
        obtain ⟨G, hG⟩ : ∃ G : Int, (T k : Int) = G := ⟨_, rfl⟩
        have ht' : decide (G < 60000) = true := by simp; omega
        have hG1 : 0 ≤ G ∧ G ≤ 140737488500000 := by omega
        obtain ⟨hG2, hG3⟩ := hG1
        have hst2 : T (k + 1) ≤ 140737488500000 := by rw [hst.out]; omega
        rw [hG]
        have HG := Lib.hid hG
        clear ht hb hG
        go_wp2_with fail
        go_round
        case rel => exact ⟨k + 1, by omega, by go_num, by rw [hst.out]; have hh := HG.out; subst hh; go_num, hst2⟩
        case measure => simp [intOf]; omega
      · obtain ⟨G, hG⟩ : ∃ G : Int, (T k : Int) = G := ⟨_, rfl⟩
        have ht' : decide (G < 60000) = false := by simp; omega
        have hfin := Lib.hid (show few xs = false by unfold few; have := Hle.out k; rw [Bool.and_eq_false_iff]; left; simp; omega)
        rw [hG]
        clear ht hb hG
        go_wp2_with fail
        go_ret
        exact ⟨ret_bool hfin.out.symm, rfl⟩
    · obtain rfl : k = n := by omega
      have hfin := Lib.hid (show few xs = (decide ((T k : Int) < 60000) && decide ((k : Int) ≤ 60)) by unfold few; rw [← Hn.out, HN.out, show decide (T k < 60000) = decide ((T k : Int) < 60000) from decide_eq_decide.2 (by omega), show decide (k ≤ 60) = decide ((k : Int) ≤ 60) from decide_eq_decide.2 (by omega)])
      obtain ⟨G, hG⟩ : ∃ G : Int, (T k : Int) = G := ⟨_, rfl⟩
      rw [hG] at hfin ⊢
      clear hb hG
      cases hd : decide (G < 60000)
      · rw [hd] at hfin
        go_wp2_with fail
        go_ret
        exact ⟨ret_bool hfin.out.symm, rfl⟩
      · rw [hd] at hfin
        go_wp2_with fail
        go_ret
        exact ⟨ret_bool (by rw [hfin.out]; simp), rfl⟩
end Go.Proofs.Ytkdbehfmmmlmjaa.JouW
