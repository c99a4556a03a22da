/-
  The path from the root to a node: the contract of the reference's Path.
-/
import Derived.Test.YtbfpljnfalopdaaAppAll
import Derived.Test.YtbfpljnfalopdaaCfgLeaves
import Derived.Test.YtbfpljnfalopdaaTreePlain
set_option linter.unusedVariables false
set_option linter.unusedSimpArgs false
namespace Go.Proofs.Ytbfpljnfalopdaa.CfgW
open Go Go.RowKit Go.Proofs.Ytbfpljnfalopdaa.L

theorem lit_ints (w : World) (k : Nat) : Ints (w.alloc (.cells #[.int .i64 (k : Int)] 3)) w.heap.size (.slice (some ⟨w.heap.size, 0, none⟩) 1 1) [k] := by
  refine ⟨rfl, .inr ⟨w.heap.size, 1, #[.int .i64 (k : Int)], rfl, Nat.le_refl _, heap_alloc_new w _, Nat.le_refl _, by unfold maxLen; omega, rfl, rfl⟩⟩
/-- append([]int{k}, l...) -/
theorem ints_front {w : World} {B : Nat} {v : Value} {l : List Nat} (h : Ints w B v l) (k : Nat) (hl : l.length ≤ 1000000) :
    ∃ v' w', (Builtin.append_ #[36, 36] 36 #[.slice (some ⟨w.heap.size, 0, none⟩) 1 1, v]).run Try.prog (w.alloc (.cells #[.int .i64 (k : Int)] 3)) = .ok v' w' ∧ Ints w' w.heap.size v' (k :: l) ∧ Below w.heap.size w w' := by
  obtain ⟨i0, hi, hz0, hz1, hz2⟩ := info_parts intinfo
  have ha : Below w.heap.size w (w.alloc (.cells #[.int .i64 (k : Int)] 3)) := (Below.refl _ _).alloc (Nat.le_refl _) _
  have h2 : Ints (w.alloc (.cells #[.int .i64 (k : Int)] 3)) B v l := RowV.below h ha
  have hlm : (ival l).length = l.length := by simp [ival]
  have hk1 : (ival [k]).length = 1 := rfl
  obtain ⟨v', w', hr, ho, hg, hn⟩ := append_all (P := Try.prog) 36 36 3 i0 _ 8 Try.underlying36 hi hz0 hz1 hz2 rfl (lit_ints w k) h2 (by simp) (fun y hy => by obtain ⟨_, _, rfl⟩ := List.mem_map.1 hy; rfl) (by rw [hk1, hlm]; omega) (by rw [hk1, hlm]; omega)
  have hb : Below w.heap.size w w' := ha.trans ((Kept.of_grown (F := fun b => b = w.heap.size) hg (fun i e => by cases e; rfl)).below (by simp) (fun i e => by rw [e]; exact Nat.le_refl _))
  exact ⟨v', w', hr, ho, hb⟩

def PathEnd (l : List Nat) (w : World) (e : Ending) (w' : World) : Prop := ∃ v, e = .returned v ∧ Ints w' w.heap.size v l ∧ Below w.heap.size w w'

set_option maxRecDepth 100000 in
set_option maxHeartbeats 4000000 in
theorem rpath_any {w : World} {v : Value} {c : Cfg.C} (hc : CfgAt w v c) (hN : c.nodes.length ≤ 1000000) (t : Int) :
    ∀ w1, Below w.heap.size w w1 → Calls Try.prog 17 #[v, .int .i64 t] w1 fun e w' => PathEnd (Tree.path c t) w1 e w' := by
  intro w1 hb1
  replace hc := hc.below hb1
  clear hb1
  obtain ⟨v1, v2, rfl, ⟨A, ca, rfl, hrA, hl⟩, ⟨B, cb, rfl, hrB, hl2⟩⟩ := hc
  obtain ⟨M, hM⟩ : ∃ M, c.hosts.length = M := ⟨_, rfl⟩
  obtain ⟨half, hhalf⟩ : ∃ z, c.half = z := ⟨_, rfl⟩
  obtain ⟨age, hage⟩ : ∃ z, c.age = z := ⟨_, rfl⟩
  obtain ⟨N, hNe⟩ : ∃ N, c.nodes.length = N := ⟨_, rfl⟩
  have HN := Lib.hid hNe
  have HA := Lib.hid hrA
  rw [hM, hhalf, hage]
  rw [hNe] at hN ⊢
  have Hpl := Lib.hid (show (Tree.path c t).length ≤ N by unfold Tree.path; rw [List.length_reverse, ← hNe]; exact Tree.up_length c t)
  have Hp0 := Lib.hid (show Tree.path c t = (Tree.up c t).reverse ++ [] by unfold Tree.path; simp)
  generalize Tree.path c t = PT at *
  clear hrA hl hrB hl2 hM hhalf hage hNe
  have hbx := CBox.new w1 (.slice A N ca) (.slice B M cb) half age
  have hbw : Below w1.heap.size w1 (w1.alloc (.cells #[.slice A N ca, .slice B M cb, .int .i64 half, .int .i64 age] 25)) := (Below.refl _ _).alloc (Nat.le_refl _) _
  go_enter Try.func17, Try.ntmps17
  generalize hwq : w1.alloc (.cells #[.slice A N ca, .slice B M cb, .int .i64 half, .int .i64 age] 25) = wq at *
  have HBX := Lib.hid hbx
  have Hbw := Lib.hid hbw
  clear hbx hbw
  go_wp2_with fail
  clear hwq
  go_loopw [1, 5] (fun n l wr => ∃ (m : Int) (acc : List Nat), n = .int .i64 m ∧ Hid (PT = (Tree.up c m).reverse ++ acc) ∧ Ints wr w1.heap.size l acc ∧ Below wq.heap.size wq wr) (fun n _ _ => (intOf n + 1).toNat)
  case atStart => exact ⟨t, [], rfl, Hp0, RowV.nil _ _ _, Below.refl _ _⟩
  case round =>
    obtain ⟨m, acc, rfl, hpt, hacc, hb⟩ := hrel
    rename World => wr
    obtain ⟨-, x0, x1, x2, x3⟩ := HBX.out.on hb
    have Hb := Lib.hid hb
    by_cases hm : 0 ≤ m ∧ m < (N : Int)
    · obtain ⟨hm0, hm1⟩ := hm
      obtain ⟨x, rfl⟩ := Int.eq_ofNat_of_zero_le hm0
      have hxn : x < c.nodes.length := by rw [HN.out]; omega
      have hup := Tree.up_in c x hxn
      obtain ⟨bA, oA, rfl, hltA, hcA⟩ := row_parent HA.out hxn
      have hal : acc.length ≤ 1000000 := by
        have := Hpl.out
        rw [hpt.out, List.length_append] at this
        omega
      obtain ⟨v5, w5, hr5, hI5, hb5⟩ := ints_front hacc x hal
      have hq5 : Below wq.heap.size wq w5 := keeps_trans hb hb5
      obtain ⟨-, y0, -, -, -⟩ := HBX.out.on hq5
      have hp := hcA w5 (keeps_trans Hbw.out hq5)
      rw [← show Tree.par c x = c.nodes[x].parent by unfold Tree.par; rw [List.getD_eq_getElem?_getD, List.getElem?_eq_getElem hxn, Option.getD_some]] at hp
      obtain ⟨p, hpe⟩ : ∃ p, Tree.par c x = p := ⟨_, rfl⟩
      rw [hpe] at hp hup
      have HUp := Lib.hid hup
      have hI6 := Lib.hid (RowV.low hI5 (by have := (keeps_trans Hbw.out hb).size; omega : w1.heap.size ≤ wr.heap.size))
      have Hq5 := Lib.hid hq5
      obtain ⟨A5, c5, e5, -⟩ := RowV.form hI5
      obtain ⟨A4, c4, e4, -⟩ := RowV.form hacc
      subst e5 e4
      clear hacc hb hcA hup hI5 hb5 hq5 hpe hxn hal
      by_cases hpx : (x : Int) ≤ p
      · have HE := Lib.hid (show PathEnd PT w1 (.returned (.slice A5 (ival (x :: acc)).length c5)) w5 from ⟨_, rfl, by
          rw [hpt.out, HUp.out, if_pos hpx]
          exact hI6.out, keeps_trans Hbw.out Hq5.out⟩)
        have hpd : decide ((x : Int) ≤ p) = true := by simpa using hpx
        clear hpx
        go_wp2_with (at_builtin; refine wpList_append_eq rfl (.tmp 17) (.tmp 18) _ _ rfl (.slice (some ⟨wr.heap.size, 0, none⟩) 1 1) (.slice A4 (ival acc).length c4) rfl rfl hr5 ?_)
        go_ret
        exact HE.out
      · have HE := Lib.hid (show PT = (Tree.up c p).reverse ++ (x :: acc) by
          rw [hpt.out, HUp.out, if_neg hpx]; simp)
        have hpd : decide ((x : Int) ≤ p) = false := by simpa using hpx
        have hms := Lib.hid (show (p + 1).toNat < ((x : Int) + 1).toNat by omega)
        clear hpx
        go_wp2_with (at_builtin; refine wpList_append_eq rfl (.tmp 17) (.tmp 18) _ _ rfl (.slice (some ⟨wr.heap.size, 0, none⟩) 1 1) (.slice A4 (ival acc).length c4) rfl rfl hr5 ?_)
        go_roundw
        case rel => exact ⟨p, x :: acc, rfl, HE, hI6.out, Hq5.out⟩
        case measure => exact hms.out
    · have HE := Lib.hid (show PathEnd PT w1 (.returned u5) wr from ⟨_, rfl, by
        rw [hpt.out, Tree.up_out c m (by rw [HN.out]; exact hm)]
        simpa using hacc, keeps_trans Hbw.out hb⟩)
      clear hacc hb
      by_cases hm0 : 0 ≤ m
      · have t0 : decide (m < (N : Int)) = false := by simp; omega
        clear hm
        go_wp2_with fail
        go_ret
        exact HE.out
      · have t0 : decide (0 ≤ m) = false := by simpa using hm0
        clear hm hm0
        go_wp2_with fail
        go_ret
        exact HE.out
end Go.Proofs.Ytbfpljnfalopdaa.CfgW
