/-
  Two rows of the same waiting gangs are the same: the document's Same.
-/
import Derived.Test.YtbfpljnfalopdaaSrtRef
import Derived.Test.YtbfpljnfalopdaaVecEqIn
set_option linter.unusedVariables false
set_option linter.unusedSimpArgs false
namespace Go.Proofs.Ytbfpljnfalopdaa.Srt
open Go Go.RowKit Go.Sort Go.Proofs.Ytbfpljnfalopdaa.L Go.Proofs.Ytbfpljnfalopdaa.CfgW Go.Proofs.Ytbfpljnfalopdaa.OrdW

set_option maxRecDepth 100000 in
theorem neq_self (x : Ord.P) (w : World) : (binOp .neq 57 (.agg #[.int .i64 x.id, .int .i64 x.tenant, .int .i64 x.pods, .int .i64 x.need.x, .int .i64 x.need.y, .int .i64 x.need.z, .int .i64 x.run, .int .i64 x.level, .int .i64 x.prefer, .int .i64 x.seq, .int .i64 x.since]) (.agg #[.int .i64 x.id, .int .i64 x.tenant, .int .i64 x.pods, .int .i64 x.need.x, .int .i64 x.need.y, .int .i64 x.need.z, .int .i64 x.run, .int .i64 x.level, .int .i64 x.prefer, .int .i64 x.seq, .int .i64 x.since])).run Try.prog w = .ok (.bool false) w := by
  have e := eqIn_vec 9996 x.need.x x.need.y x.need.z x.need.x x.need.y x.need.z w
  simp only [beq_self_eq_true, Bool.and_self] at e
  go_simp
set_option maxRecDepth 100000 in
set_option maxHeartbeats 4000000 in
theorem rsame15_any {w : World} {va vb : Value} {ps : List Ord.P} (ha : SlK w 11 pdec va ps) (hb : SlK w 11 pdec vb ps) (hl : ps.length ≤ 1000000) :
    GivesAt Try.prog w 30 #[va, vb] (.bool true) := by
  intro w1 hb1
  obtain ⟨A, ca, rfl, hra⟩ := ha
  obtain ⟨B, cb, rfl, hrb⟩ := hb
  have HRA := Lib.hid (hra.below hb1)
  have HRB := Lib.hid (hrb.below hb1)
  obtain ⟨n, hn⟩ : ∃ n, ps.length = n := ⟨_, rfl⟩
  rw [hn] at hl ⊢
  have HN := Lib.hid hn
  have HB1 := Lib.hid hb1
  clear hra hrb hn hb1
  have tn : ((n : Int) != (n : Int)) = false := bne_self_eq_false _
  have hq := neq_self
  go_enter Try.func30, Try.ntmps30
  go_wp2_with fail
  go_loopg [5] n (fun g1 vi wr => ∃ i : Nat, vi = .int .i64 i ∧ i ≤ n ∧ n ≤ g1 + i ∧ Hid (Onward w1 wr))
  case atStart => exact ⟨0, by go_num, by omega, by omega, Lib.hid (Onward.refl w1)⟩
  case round =>
    obtain ⟨i, rfl, hin, hg1, HW⟩ := hrel
    by_cases hlt : i < n
    · have hltz : (i : Int) < (n : Int) := by omega
      obtain ⟨b, o, rfl, hbl, hcx⟩ := HRA.out.at_ (i := i) (by have := HN.out; omega)
      obtain ⟨b2, o2, rfl, hbl2, hcy⟩ := HRB.out.at_ (i := i) (by have := HN.out; omega)
      obtain ⟨x, hx⟩ : ∃ x, ps[i]'(by have := HN.out; omega) = x := ⟨_, rfl⟩
      rw [hx] at hcx hcy
      have X1 : ∀ W, Onward wr W → W.cell? ⟨b, o + i * 11, none⟩ = some (.int .i64 x.id) ∧ W.cell? ⟨b, o + i * 11 + 1, none⟩ = some (.int .i64 x.tenant) ∧ W.cell? ⟨b, o + i * 11 + 2, none⟩ = some (.int .i64 x.pods) ∧ W.cell? ⟨b, o + i * 11 + 3, none⟩ = some (.int .i64 x.need.x) ∧ W.cell? ⟨b, o + i * 11 + 4, none⟩ = some (.int .i64 x.need.y) ∧ W.cell? ⟨b, o + i * 11 + 5, none⟩ = some (.int .i64 x.need.z) ∧ W.cell? ⟨b, o + i * 11 + 6, none⟩ = some (.int .i64 x.run) ∧ W.cell? ⟨b, o + i * 11 + 7, none⟩ = some (.int .i64 x.level) ∧ W.cell? ⟨b, o + i * 11 + 8, none⟩ = some (.int .i64 x.prefer) ∧ W.cell? ⟨b, o + i * 11 + 9, none⟩ = some (.int .i64 x.seq) ∧ W.cell? ⟨b, o + i * 11 + 10, none⟩ = some (.int .i64 x.since) := fun W hW => pat_of (hcx W (keeps_trans HW.out hW))
      have Y1 : ∀ W, Onward wr W → W.cell? ⟨b2, o2 + i * 11, none⟩ = some (.int .i64 x.id) ∧ W.cell? ⟨b2, o2 + i * 11 + 1, none⟩ = some (.int .i64 x.tenant) ∧ W.cell? ⟨b2, o2 + i * 11 + 2, none⟩ = some (.int .i64 x.pods) ∧ W.cell? ⟨b2, o2 + i * 11 + 3, none⟩ = some (.int .i64 x.need.x) ∧ W.cell? ⟨b2, o2 + i * 11 + 4, none⟩ = some (.int .i64 x.need.y) ∧ W.cell? ⟨b2, o2 + i * 11 + 5, none⟩ = some (.int .i64 x.need.z) ∧ W.cell? ⟨b2, o2 + i * 11 + 6, none⟩ = some (.int .i64 x.run) ∧ W.cell? ⟨b2, o2 + i * 11 + 7, none⟩ = some (.int .i64 x.level) ∧ W.cell? ⟨b2, o2 + i * 11 + 8, none⟩ = some (.int .i64 x.prefer) ∧ W.cell? ⟨b2, o2 + i * 11 + 9, none⟩ = some (.int .i64 x.seq) ∧ W.cell? ⟨b2, o2 + i * 11 + 10, none⟩ = some (.int .i64 x.since) := fun W hW => pat_of (hcy W (keeps_trans HW.out hW))
      clear hcx hcy hx
      go_wp2_with fail
      refine region_keep (by kernel_rfl) (by kernel_rfl) ?_
      repeat (apply Go.Proofs.Ytbfpljnfalopdaa.L.wpKeep_yes; (focus rfl); (focus (intro W hW; go_simp; first | done | exact ⟨rfl, hW⟩ | rfl)); (focus (go_simp; first | done | rfl)))
      refine wpKeep_nil ?_
      intro W hW
      have HW2 := Lib.hid (keeps_trans HW.out hW)
      clear hW X1 Y1
      go_wp2_with fail
      go_roundg (n - (i + 1))
      case measure => omega
      case rel => exact ⟨i + 1, by go_num, by omega, by omega, HW2⟩
    · have hltz : ¬ (i : Int) < (n : Int) := by omega
      go_wp2_with fail
      go_ret
      exact ⟨rfl, HW.out⟩
end Go.Proofs.Ytbfpljnfalopdaa.Srt
