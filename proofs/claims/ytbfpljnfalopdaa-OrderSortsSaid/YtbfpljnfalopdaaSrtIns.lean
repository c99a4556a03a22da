/-
  The insertion sort of a row of elements of k cells: its walk, over any program that bears the function.
-/
import Derived.Test.YtbfpljnfalopdaaSrt
set_option linter.unusedVariables false
set_option linter.unusedSimpArgs false
namespace Go.Proofs.Ytbfpljnfalopdaa.Srt
open Go Go.RowKit Go.Sort Go.Proofs.Ytbfpljnfalopdaa.L Go.Proofs.Ytbfpljnfalopdaa.CfgW
variable {P : Program} {α : Type} [Inhabited α]

set_option maxHeartbeats 4000000 in
set_option maxRecDepth 1000000 in
theorem ins_any {k : Nat} (L : PK P k) (hF : P.funcs[84]? = some Try.f84) (enc : α → List Value) (hk : ∀ x, (enc x).length = k) (h1 : ∀ x, ∀ v ∈ enc x, v.oneCell' = true)
    (cf : α → α → Int) (g : Nat) (cb : Array Value) (blk off cap a b : Nat) (d : Array α) (w : World)
    (eg : ∀ args w, (callFunc g args).run P w = .ok (.enter g args) w) (hcmp : CmpIn P g cb enc cf blk w) (hH : HoldsK enc k w blk off d) (hblk : blk < w.heap.size) (hab : a ≤ b) (hb : b ≤ d.size) (hsz : d.size < 4611686018427387904) :
    Calls P 84 #[.slice (some ⟨blk, off, none⟩) d.size cap, .int .i64 a, .int .i64 b, .func (.func g) #[] cb] w fun e w' =>
      e = .returned (.tuple #[]) ∧ Sit enc k w blk off (Sort.insertionSort (ltOf cf) d a b) w' := by
  have mixed := L.mixed; have t3 := L.t3; have a3 := L.a3; have z3 := L.z3; have v3 := L.v3; have t4 := L.t4; have a4 := L.a4; have z4 := L.z4; have v4 := L.v4; have t49 := L.t49; have a49 := L.a49; have z49 := L.z49; have v49 := L.v49; have aE := L.aE; have zE := L.zE
  have u49 := run_underlying L.t49
  have HC := Lib.hid hcmp
  have HST := Lib.hid (Sit.start hH hblk)
  have HK := Lib.hid hk
  have H1 := Lib.hid h1
  clear hcmp hH hk h1
  go_enter hF, Try.ntmps84
  go_wp2
  go_loopg [8] (b - a) (fun g1 vi wr => ∃ (i : Nat) (dk : Array α), vi = .int .i64 i ∧ a < i ∧ i ≤ b + 1 ∧ b + 1 - i ≤ g1 + 1 ∧ dk.size = d.size ∧ Hid (Sit enc k w blk off dk wr) ∧ Hid (insOuter (ltOf cf) a b i dk = insOuter (ltOf cf) a b (a + 1) d))
  case atStart => exact ⟨a + 1, d, by go_num, by omega, by omega, by omega, rfl, HST, Lib.hid rfl⟩
  case round =>
    obtain ⟨i, dk, rfl, hai, hib, hg1, hsk, HS, HO⟩ := hrel
    by_cases hlt : i < b
    · have hltz : (i : Int) < (b : Int) := by omega
      go_wp2
      go_loopg [9] i (fun g2 vj wr2 => ∃ (j : Nat) (dj : Array α), vj = .int .i64 j ∧ a ≤ j ∧ j ≤ i ∧ j ≤ g2 ∧ dj.size = d.size ∧ Hid (Sit enc k w blk off dj wr2) ∧ Hid (insInner (ltOf cf) a j dj = insInner (ltOf cf) a i dk))
      case atStart => exact ⟨i, dk, rfl, by omega, Nat.le_refl _, Nat.le_refl _, hsk, HS, Lib.hid rfl⟩
      case round =>
        obtain ⟨j, dj, rfl, haj, hji, hg2, hsj, HSj, HI⟩ := hrel
        have OUT := Lib.hid (show (j ≤ a ∨ ltOf cf dj[j]! dj[j - 1]! = false) → Hid (insOuter (ltOf cf) a b (i + 1) dj = insOuter (ltOf cf) a b (a + 1) d) from fun hs => Lib.hid (by
          rw [← HO.out, insOuter_go _ _ _ _ _ hlt, ← HI.out, insInner_stop _ _ _ _ hs]))
        by_cases hja : a < j
        · obtain ⟨jp, rfl⟩ : ∃ jp, j = jp + 1 := ⟨j - 1, by omega⟩
          obtain ⟨xj, hxj⟩ : ∃ x, dj[jp + 1]! = x := ⟨_, rfl⟩
          obtain ⟨xp, hxp⟩ : ∃ x, dj[jp]! = x := ⟨_, rfl⟩
          have hwp : IntKind.i64.wrap (jp : Int) = (jp : Int) := by rw [IntKind.wrap_i64]; omega
          have jz : (jp : Int) + 1 < (d.size : Int) := by omega
          have jz1 : (jp : Int) < (d.size : Int) := by omega
          have hjaz' : (a : Int) < (jp : Int) + 1 := by omega
          have p0 : (0 : Int) ≤ (jp : Int) + 1 := by omega
          have e0 : ((jp : Int) + 1).toNat = jp + 1 := by omega
          have lj : ∀ W, Onward wr W → Sem.run P (loadCellsFrom ⟨blk, off + (jp + 1) * k, none⟩ 0 k #[]) W = .ok (enc xj).toArray W := fun W hW => by
            rw [← hxj]; exact (HSj.out.on hW).load HK.out (by omega)
          have lp : ∀ W, Onward wr W → Sem.run P (loadCellsFrom ⟨blk, off + jp * k, none⟩ 0 k #[]) W = .ok (enc xp).toArray W := fun W hW => by
            rw [← hxp]; exact (HSj.out.on hW).load HK.out (by omega)
          have cg : ∀ W, Onward wr W → Calls P g (#[.agg (enc xj).toArray, .agg (enc xp).toArray] ++ cb) W fun e w' => e = .returned (.int .i64 (cf xj xp)) ∧ Onward wr w' := fun W hW =>
            (HC.out W (HSj.out.on hW).kept xj xp).mono fun e w' ⟨he, hb⟩ => ⟨he, keeps_trans hW hb⟩
          go_wp2_with fail
          refine region_keep L.mixed (by kernel_rfl) ?_
          repeat (apply Go.Proofs.Ytbfpljnfalopdaa.L.wpKeep_yes; (focus rfl); (focus (intro W hW; go_simp; first | done | exact ⟨rfl, hW⟩ | rfl)); (focus (go_simp; first | done | rfl)))
          (apply Go.Proofs.Ytbfpljnfalopdaa.L.wpKeep_yes; (focus rfl); (focus (intro W hW; go_simp; first | exact cg W hW | exact ⟨hW, cg W hW⟩)); (focus (go_simp; first | done | rfl)))
          repeat (apply Go.Proofs.Ytbfpljnfalopdaa.L.wpKeep_yes; (focus rfl); (focus (intro W hW; go_simp; first | done | exact ⟨rfl, hW⟩ | rfl)); (focus (go_simp; first | done | rfl)))
          refine wpKeep_nil ?_
          intro W hW
          clear lj lp cg
          have HS2 := Lib.hid (HSj.out.on hW)
          clear hW
          by_cases hlv : cf xj xp < 0
          · have hSd := HS2.out.on (Onward.drew W)
            have lj2 : Sem.run P (loadCellsFrom ⟨blk, off + (jp + 1) * k, none⟩ 0 k #[]) W.drew = .ok (enc xj).toArray W.drew := by
              rw [← hxj]; exact hSd.load HK.out (by omega)
            have lp2 : Sem.run P (loadCellsFrom ⟨blk, off + jp * k, none⟩ 0 k #[]) W.drew = .ok (enc xp).toArray W.drew := by
              rw [← hxp]; exact hSd.load HK.out (by omega)
            obtain ⟨s1, s2, s3⟩ := hSd.swap (P := P) HK.out H1.out (i := jp + 1) (j := jp) (by omega) (by omega)
            rw [hxj, hxp] at s2
            rw [hxp] at s1
            have S3 := Lib.hid s3
            rw [hxj, hxp] at S3
            have hsJ : (enc xj).length = k := HK.out _
            have hsP : (enc xp).length = k := HK.out _
            clear s3 hSd HS2
            obtain ⟨cJ, hcJ⟩ : ∃ c, c = enc xj := ⟨_, rfl⟩
            obtain ⟨cP, hcP⟩ : ∃ c, c = enc xp := ⟨_, rfl⟩
            rw [← hcP] at s1 lp2 hsP
            rw [← hcJ] at lj2 hsJ
            rw [← hcJ, ← hcP] at s2 S3 ⊢
            have HI2 := Lib.hid (show insInner (ltOf cf) a jp (swp dj (jp + 1) jp) = insInner (ltOf cf) a i dk by
              have := insInner_go (ltOf cf) a (jp + 1) dj hja (by simp only [Nat.add_sub_cancel]; rw [hxj, hxp]; exact decide_eq_true hlv)
              simp only [Nat.add_sub_cancel] at this
              rw [← HI.out, this])
            clear hcJ hcP
            go_wp2_with fail
            go_big_region_o
            all_goals go_wp2
            go_roundg jp
            case measure => omega
            case rel => exact ⟨jp, swp dj (jp + 1) jp, by first | rfl | go_num, by omega, by omega, Nat.le_refl _, by rw [size_swp]; exact hsj, S3, HI2⟩
          · go_wp2_with fail
            go_wp2
            go_roundg (b - (i + 1))
            case measure => omega
            case rel => exact ⟨i + 1, dj, by go_num, by omega, by omega, by omega, hsj, HS2, OUT.out (Or.inr (by simp only [Nat.add_sub_cancel]; rw [hxj, hxp]; exact decide_eq_false (by omega)))⟩
        · have hjaz : decide ((j : Int) > (a : Int)) = false := decide_eq_false (by omega)
          have hjaz' : ¬ (a : Int) < (j : Int) := by omega
          go_wp2_with fail
          refine region_keep L.mixed (by kernel_rfl) ?_
          repeat (first | (apply Go.Proofs.Ytbfpljnfalopdaa.L.wpKeep_yes; (focus rfl); (focus (intro W hW; go_simp; first | done | exact ⟨rfl, hW⟩ | rfl)); (focus (go_simp; first | done | rfl))) | (apply Go.Proofs.Ytbfpljnfalopdaa.L.wpKeep_no; (focus rfl); (focus (go_simp; first | done | rfl))))
          refine wpKeep_nil ?_
          intro W hW
          have HS2 := Lib.hid (HSj.out.on hW)
          clear hW
          go_wp2_with fail
          go_wp2
          go_roundg (b - (i + 1))
          case measure => omega
          case rel => exact ⟨i + 1, dj, by go_num, by omega, by omega, by omega, hsj, HS2, OUT.out (Or.inl (by omega))⟩
    · have hltz : ¬ (i : Int) < (b : Int) := by omega
      go_wp2
      go_end0
      exact ⟨rfl, by unfold Sort.insertionSort; rw [← HO.out, insOuter_stop _ _ _ _ _ hlt]; exact HS.out⟩
end Go.Proofs.Ytbfpljnfalopdaa.Srt
