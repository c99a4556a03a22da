/-
  Are two rows of texts the same? The contract of the reference's Same.
-/
import Derived.Test.YtkdbehfmmmlmjaaJouRef
set_option linter.unusedVariables false
set_option linter.unusedSimpArgs false
namespace Go.Proofs.Ytkdbehfmmmlmjaa.JouW
open Go.RowKit Go.Proofs.Ytkdbehfmmmlmjaa.L Go.Proofs.Ytkdbehfmmmlmjaa.CrcW

theorem str_inj {a b : List UInt8} (h : str a = str b) : a = b := by have := congrArg (fun s : ByteArray => s.data.toList) h; simpa only [str_toList] using this
theorem str_dec (a b : List UInt8) : decide (str a = str b) = decide (a = b) := decide_eq_decide.2 ⟨str_inj, fun e => by rw [e]⟩

theorem bytes_ne {a b : ByteArray} (h : a ≠ b) : (a.toList == b.toList) = false := by
  rw [beq_eq_false_iff_ne]
  intro e
  rw [ByteArray.toList_eq, ByteArray.toList_eq] at e
  exact h (ByteArray.ext (Array.toList_inj.1 e))

set_option maxHeartbeats 2000000 in
theorem same_any {B C : Nat} {va vb : Value} {la lb : List (List UInt8)} {w : World} (ha : Recs w B va la) (hb : Recs w C vb lb) (h1 : la.length ≤ 1048576) (h2 : lb.length ≤ 1048576) :
    Calls Try.prog 26 #[va, vb] w fun e w' => e = .returned (.bool (decide (la = lb))) ∧ ∃ m, w' = w.drewN m := by
  obtain ⟨pa, ca, rfl, hca⟩ := ha.form
  obtain ⟨pb, cb, rfl, hcb⟩ := hb.form
  rw [List.length_map] at ha hb ⊢
  rw [List.length_map]
  obtain ⟨n, hn⟩ : ∃ n, la.length = n := ⟨_, rfl⟩
  obtain ⟨k, hk⟩ : ∃ k, lb.length = k := ⟨_, rfl⟩
  have Ha := Lib.hid hca
  have Hb := Lib.hid hcb
  have HN := Lib.hid hn
  have HK := Lib.hid hk
  rw [hn] at h1 ⊢
  rw [hk] at h2 ⊢
  clear ha hb hca hcb hn hk
  go_enter Try.func26, Try.ntmps26
  by_cases hnk : n = k
  · subst hnk
    have ht : ((n : Int) != (n : Int)) = false := by simp
    go_wp2_with fail
    go_loopw [5] (fun i wr => ∃ j : Nat, i = .int .i64 (j : Int) ∧ j ≤ n ∧ Hid (la.take j = lb.take j) ∧ ∃ m, wr = w.drewN m) (fun i _ => n - (intOf i).toNat)
    case atStart => exact ⟨0, rfl, by omega, Lib.hid (by simp), 0, rfl⟩
    case round =>
      obtain ⟨j, rfl, hj, HT, m, hm⟩ := hrel
      have Hm := Lib.hid hm
      by_cases hjn : j < n
      · have hja : j < la.length := by rw [HN.out]; exact hjn
        have hjb : j < lb.length := by rw [HK.out]; exact hjn
        obtain ⟨ga, rfl, hla, hxa⟩ := Ha.out (by intro e; rw [List.map_eq_nil_iff] at e; subst e; simp at hja)
        obtain ⟨gb, rfl, hlb, hxb⟩ := Hb.out (by intro e; rw [List.map_eq_nil_iff] at e; subst e; simp at hjb)
        have c1 : wr.cell? ⟨ga, j, none⟩ = some (vs la[j]) := by
          rw [hm, World.cell?_drewN]; exact hxa j _ (by rw [List.getElem?_map, List.getElem?_eq_getElem hja]; rfl)
        have c2 : wr.cell? ⟨gb, j, none⟩ = some (vs lb[j]) := by
          rw [hm, World.cell?_drewN]; exact hxb j _ (by rw [List.getElem?_map, List.getElem?_eq_getElem hjb]; rfl)
        have hst := Lib.hid (show la.take (j + 1) = la.take j ++ [la[j]] ∧ lb.take (j + 1) = lb.take j ++ [lb[j]] from ⟨by simp, by simp⟩)
        have hne : la[j] ≠ lb[j] → la ≠ lb := fun h e => h (by subst e; rfl)
        generalize la[j] = x at *
        generalize lb[j] = y at *
        unfold vs at c1 c2
        by_cases hxy : x = y
        · subst hxy
          clear hm hne hja hjb hxa hxb
          go_wp2_with fail
          go_quiet (fail)
          go_wp2_with fail
          go_roundw
          case rel => exact ⟨j + 1, by go_num, by omega, Lib.hid (by rw [hst.out.1, hst.out.2, HT.out]), _, by rw [Hm.out]; exact World.drewN_drewN _ _ _⟩
          case measure => simp [intOf]; omega
        · have hbn := bytes_ne (fun e => hxy (str_inj e))
          have hfin := Lib.hid (hne hxy)
          clear hm hne hxy hja hjb hxa hxb
          go_wp2_with fail
          go_quiet (fail)
          go_wp2_with fail
          go_ret
          exact ⟨ret_bool (by simp [hfin.out]), _, by rw [Hm.out]; exact World.drewN_drewN _ _ _⟩
      · have hfin := Lib.hid (show la = lb by have := HT.out; rwa [List.take_of_length_le (by have := HN.out; omega), List.take_of_length_le (by have := HK.out; omega)] at this)
        have hjn2 : n ≤ j := by omega
        clear hjn hm
        go_wp2_with fail
        go_ret
        exact ⟨ret_bool (by simp [hfin.out]), m, Hm.out⟩
  · have ht : ((n : Int) != (k : Int)) = true := by rw [bne_iff_ne]; omega
    have hfin := Lib.hid (show la ≠ lb by intro e; apply hnk; rw [← HN.out, ← HK.out, e])
    clear hnk
    go_wp2_with fail
    go_ret
    exact ⟨ret_bool (by simp [hfin.out]), 0, rfl⟩
end Go.Proofs.Ytkdbehfmmmlmjaa.JouW
