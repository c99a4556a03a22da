/-
  Two tenants by the tree: the reference's tree.
-/
import Derived.Test.YtbfpljnfalopdaaOrdM
import Derived.Test.YtbfpljnfalopdaaPlan
import Derived.Deep.DeepCutAuto
import Derived.Deep.CutBlock
set_option linter.unusedVariables false
set_option linter.unusedSimpArgs false
namespace Go.Proofs.Ytbfpljnfalopdaa.OrdW
open Go Go.RowKit Go.Proofs.Ytbfpljnfalopdaa.L Go.Proofs.Ytbfpljnfalopdaa.CfgW

/-- The rows of the two ways stand, from the world w on. -/
def TwoWays (w : World) (p q : List Nat) (vp vq : Value) (W : World) : Prop := Ints W w.heap.size vp p ∧ Ints W w.heap.size vq q ∧ Below w.heap.size w W

set_option maxRecDepth 100000 in
set_option maxHeartbeats 4000000 in
theorem rtree_any {w : World} {v1 v2 vp vr vh : Value} {now next : Int} {c : Cfg.C} {h : List Nat} (hs : StAt w v1 v2 vh c h) (a b : Int) :
    GivesAt Try.prog w 48 #[.agg #[v1, v2, .int .i64 c.half, .int .i64 c.age, .int .i64 now, .int .i64 next, vp, vr, vh], .int .i64 a, .int .i64 b] (.int .i64 (Ord.tree c h a b)) := by
  intro w1 hb1
  replace hs := hs.below hb1
  clear hb1
  have GP := Lib.hid (fun t W hW => rpath_any hs.cfg hs.len t W hW)
  have GL := Lib.hid (fun n => rlevel_any hs.cfg hs.len hs.wok hs.hist n)
  have hpl : ∀ t : Int, (Tree.path c t).length ≤ 1000000 := fun t => by
    have := Tree.up_length c t
    have := hs.len
    unfold Tree.path; rw [List.length_reverse]; omega
  have HPl := Lib.hid (And.intro (hpl a) (hpl b))
  have HE := Lib.hid (show Ord.tree c h a b = Ord.lex (Ord.nodes c h) (Tree.path c a) (Tree.path c b) from rfl)
  have HN := Lib.hid (fun x y : Nat => show Ord.nodes c h x y = Ord.or2 (Ord.num (Ord.level c h (x : Int)) (Ord.level c h (y : Int))) (Ord.num x y) from rfl)
  obtain ⟨half, hhalf⟩ : ∃ z, c.half = z := ⟨_, rfl⟩
  obtain ⟨age, hage⟩ : ∃ z, c.age = z := ⟨_, rfl⟩
  obtain ⟨D, cd, rfl, -⟩ := id hs.hist
  generalize h.length = H at *
  rw [hhalf, hage] at GP GL ⊢
  obtain ⟨r, hr⟩ : ∃ r, Ord.tree c h a b = r := ⟨_, rfl⟩
  rw [hr] at HE ⊢
  have HGA := Lib.hid (fun W hW => GP.out a W hW)
  have HGB := Lib.hid (fun W hW => GP.out b W hW)
  clear GP
  generalize Tree.path c a = PA at *
  generalize Tree.path c b = PB at *
  clear hs hpl hhalf hage hr
  have hbx := SBox.new w1 53 v1 v2 half age now next vp vr (.slice D H cd)
  have hbw : Below w1.heap.size w1 (w1.alloc (.cells #[v1, v2, .int .i64 half, .int .i64 age, .int .i64 now, .int .i64 next, vp, vr, .slice D H cd] 53)) := (Below.refl _ _).alloc (Nat.le_refl _) _
  go_enter Try.func48, Try.ntmps48
  have HX := Lib.hid (And.intro hbx hbw)
  clear hbx hbw
  go_wp2_with fail
  generalize w1.alloc (.cells #[v1, v2, .int .i64 half, .int .i64 age, .int .i64 now, .int .i64 next, vp, vr, .slice D H cd] 53) = wq at *
  obtain ⟨hbx, hbw⟩ := HX.out
  obtain ⟨x0, x1, x2, x3, x4, x5, x6, x7, x8, x9⟩ := hbx
  clear x6 x7 x8
  have HBW := Lib.hid hbw
  clear hbw
  have gA : ∀ W, Onward wq W → Calls Try.prog 17 #[.agg #[v1, v2, .int .i64 half, .int .i64 age], .int .i64 a] W fun e w' => PathEnd PA W e w' := fun W hW => HGA.out W (keeps_trans HBW.out hW)
  have gB : ∀ W, Onward wq W → Calls Try.prog 17 #[.agg #[v1, v2, .int .i64 half, .int .i64 age], .int .i64 b] W fun e w' => PathEnd PB W e w' := fun W hW => HGB.out W (keeps_trans HBW.out hW)
  have P0 := fun W' (k : Onward wq W') => k.cell x0 x1
  have P1 := fun W' (k : Onward wq W') => k.cell x0 x2
  have P2 := fun W' (k : Onward wq W') => k.cell x0 x3
  have P3 := fun W' (k : Onward wq W') => k.cell x0 x4
  have P8 := fun W' (k : Onward wq W') => k.cell x0 x9
  clear x1 x2 x3 x4 x5 x9
  refine region_plan [(0, true), (1, true), (2, true), (4, true), (5, true), (6, true), (3, false), (7, false), (8, true), (9, true)] (by kernel_rfl) (by kernel_rfl) ?_
  repeat (apply Go.Proofs.Ytbfpljnfalopdaa.L.plan_take; (focus rfl); (focus rfl); (focus (intro W hW; go_simp; first | done | exact ⟨rfl, rfl⟩ | rfl)); (focus (go_simp; first | done | rfl)))
  (apply Go.Proofs.Ytbfpljnfalopdaa.L.plan_call; (focus rfl); (focus rfl); (focus (go_simp; first | done | exact ⟨⟨rfl, rfl⟩, rfl⟩ | rfl)))
  refine (gA _ (Onward.drew _)).mono ?_
  rintro e w3 ⟨vA, rfl, hI3, hk3⟩
  refine ⟨vA, rfl, keeps_trans (Onward.drew wq) hk3, ?_⟩
  (apply Go.Proofs.Ytbfpljnfalopdaa.L.plan_call; (focus rfl); (focus rfl); (focus (go_simp; first | done | exact ⟨⟨rfl, rfl⟩, rfl⟩ | rfl)))
  refine (gB _ (keeps_trans (Onward.drew wq) hk3)).mono ?_
  rintro e w4 ⟨vB, rfl, hI4, hk4⟩
  refine ⟨vB, rfl, keeps_trans (keeps_trans (Onward.drew wq) hk3) hk4, ?_⟩
  repeat (apply Go.Proofs.Ytbfpljnfalopdaa.L.plan_take; (focus rfl); (focus rfl); (focus (intro W hW; go_simp; first | done | exact ⟨rfl, rfl⟩ | rfl)); (focus (go_simp; first | done | rfl)))
  refine plan_nil ?_
  have hq4 : Onward wq w4 := keeps_trans (keeps_trans (Onward.drew wq) hk3) hk4
  have HQ4 := Lib.hid hq4
  have hI3' : Ints w4 wq.drew.heap.size vA PA := RowV.below hI3 hk4
  obtain ⟨A1, c1, rfl, hcA⟩ := ints_cell hI3'
  obtain ⟨A2, c2, rfl, hcB⟩ := ints_cell hI4
  have HCA := Lib.hid hcA
  have HCB := Lib.hid hcB
  obtain ⟨LA, hLA⟩ : ∃ L, PA.length = L := ⟨_, rfl⟩
  obtain ⟨LB, hLB⟩ : ∃ L, PB.length = L := ⟨_, rfl⟩
  have HLA := Lib.hid hLA
  have HLB := Lib.hid hLB
  obtain ⟨hl1, hl2⟩ := HPl.out
  have HP := Lib.hid (And.intro P0 (And.intro P1 (And.intro P2 (And.intro P3 P8))))
  rw [hLA] at hl1 ⊢
  rw [hLB] at hl2 ⊢
  clear hI3 hI3' hI4 hk3 hk4 hcA hcB hLA hLB P0 P1 P2 P3 P8 hq4 gA gB HGA HGB
  go_wp2_with fail
  go_loopw [9] (fun i wr => ∃ k : Nat, i = .int .i64 (k : Int) ∧ k ≤ LA ∧ k ≤ LB ∧ Hid (r = Ord.lex (Ord.nodes c h) (PA.drop k) (PB.drop k)) ∧ Below w4.heap.size w4 wr) (fun i _ => LA - (intOf i).toNat)
  case atStart => exact ⟨0, rfl, by omega, by omega, Lib.hid (by simpa using HE.out), Below.refl _ _⟩
  case round =>
    obtain ⟨k, rfl, hkA, hkB, hq, hb⟩ := hrel
    have Hb := Lib.hid hb
    by_cases hA : k < LA
    · by_cases hB : k < LB
      · have hka : k < PA.length := by rw [HLA.out]; exact hA
        have hkb : k < PB.length := by rw [HLB.out]; exact hB
        obtain ⟨x, hx⟩ : ∃ x, PA[k] = x := ⟨_, rfl⟩
        obtain ⟨y, hy⟩ : ∃ y, PB[k] = y := ⟨_, rfl⟩
        have hda : PA.drop k = x :: PA.drop (k + 1) := by rw [← hx]; exact List.drop_eq_getElem_cons hka
        have hdb : PB.drop k = y :: PB.drop (k + 1) := by rw [← hy]; exact List.drop_eq_getElem_cons hkb
        have hlx := hq.out
        rw [hda, hdb, Ord.lex] at hlx
        obtain ⟨g1, rfl, -, hg1, hc1⟩ := HCA.out k x (by rw [List.getElem?_eq_getElem hka, hx])
        obtain ⟨g2, rfl, -, hg2, hc2⟩ := HCB.out k y (by rw [List.getElem?_eq_getElem hkb, hy])
        have Q1 := fun W (hW : Onward wr W) => hW.cell (Nat.lt_of_lt_of_le hg1 hb.size) ((hb.cell (p := ⟨g1, k, none⟩) hg1).trans hc1)
        have Q2 := fun W (hW : Onward wr W) => hW.cell (Nat.lt_of_lt_of_le hg2 hb.size) ((hb.cell (p := ⟨g2, k, none⟩) hg2).trans hc2)
        have hdA : decide ((k : Int) < (LA : Int)) = true := by simpa using hA
        have hdB : decide ((k : Int) < (LB : Int)) = true := by simpa using hB
        have HQ := Lib.hid (And.intro Q1 Q2)
        clear hc1 hc2 hg1 hg2 hx hy hda hdb hka hkb hb Q1 Q2
        go_wp2_with fail
        obtain ⟨Q1, Q2⟩ := HQ.out
        refine region_keep (by kernel_rfl) (by kernel_rfl) ?_
        repeat (apply Go.Proofs.Ytbfpljnfalopdaa.L.wpKeep_yes; (focus rfl); (focus (intro W hW; go_simp; first | done | exact ⟨rfl, hW⟩ | rfl)); (focus (go_simp; first | done | rfl)))
        refine wpKeep_nil ?_
        intro W hW
        have HW := Lib.hid hW
        have R1 := fun W' (h' : Onward W W') => Q1 W' (keeps_trans hW h')
        have R2 := fun W' (h' : Onward W W') => Q2 W' (keeps_trans hW h')
        clear Q1 Q2 hW HQ
        by_cases hxy : x = y
        · subst hxy
          rw [if_pos rfl] at hlx
          have HLx := Lib.hid hlx
          have te : ((x : Int) == (x : Int)) = true := by simp
          clear hlx R1 R2 hq
          go_wp2_with fail
          go_roundw
          case rel => exact ⟨k + 1, by go_num, by omega, by omega, HLx, keeps_trans Hb.out HW.out⟩
          case measure => simp [intOf]; omega
        · rw [if_neg hxy, HN.out] at hlx
          have te : ((x : Int) == (y : Int)) = false := by simp; omega
          have h1W : Below w1.heap.size w1 W := keeps_trans (keeps_trans (keeps_trans HBW.out HQ4.out) Hb.out) HW.out
          have gx := (GL.out (x : Int)).up h1W
          have gy := (GL.out (y : Int)).up h1W
          have gn : Gives Try.prog 49 #[.int .i64 (x : Int), .int .i64 (y : Int)] (.int .i64 (Ord.num x y)) := .of_eq fun w => num_any x y w
          generalize Ord.level c h (x : Int) = lx at *
          generalize Ord.level c h (y : Int) = ly at *
          have HLx := Lib.hid hlx
          have hqW := keeps_trans (keeps_trans HQ4.out Hb.out) HW.out
          obtain ⟨P0, P1, P2, P3, P8⟩ := HP.out
          have S0 := fun W' (h' : Onward W W') => P0 W' (keeps_trans hqW h')
          have S1 := fun W' (h' : Onward W W') => P1 W' (keeps_trans hqW h')
          have S2 := fun W' (h' : Onward W W') => P2 W' (keeps_trans hqW h')
          have S3 := fun W' (h' : Onward W W') => P3 W' (keeps_trans hqW h')
          have S8 := fun W' (h' : Onward W W') => P8 W' (keeps_trans hqW h')
          have GN := Lib.hid gn
          have HQ := Lib.hid (And.intro gx (And.intro gy (And.intro S0 (And.intro S1 (And.intro S2 (And.intro S3 (And.intro S8 (And.intro R1 R2))))))))
          clear hlx hq gn gx gy P0 P1 P2 P3 P8 S0 S1 S2 S3 S8 hqW h1W R1 R2
          go_wp2_with fail
          obtain ⟨gx, gy, S0, S1, S2, S3, S8, R1, R2⟩ := HQ.out
          refine region_keep (by kernel_rfl) (by kernel_rfl) ?_
          repeat (apply Go.Proofs.Ytbfpljnfalopdaa.L.wpKeep_yes; (focus rfl); (focus (intro W hW; go_simp; first | done | exact ⟨rfl, hW⟩ | rfl)); (focus (go_simp; first | done | rfl)))
          (apply Go.Proofs.Ytbfpljnfalopdaa.L.wpKeep_yes; (focus rfl); (focus (intro W hW; go_simp; first | exact gx W hW | exact ⟨hW, gx W hW⟩)); (focus (go_simp; first | done | rfl)))
          repeat (apply Go.Proofs.Ytbfpljnfalopdaa.L.wpKeep_yes; (focus rfl); (focus (intro W hW; go_simp; first | done | exact ⟨rfl, hW⟩ | rfl)); (focus (go_simp; first | done | rfl)))
          (apply Go.Proofs.Ytbfpljnfalopdaa.L.wpKeep_yes; (focus rfl); (focus (intro W hW; go_simp; first | exact gy W hW | exact ⟨hW, gy W hW⟩)); (focus (go_simp; first | done | rfl)))
          repeat (apply Go.Proofs.Ytbfpljnfalopdaa.L.wpKeep_yes; (focus rfl); (focus (intro W hW; go_simp; first | done | exact ⟨rfl, hW⟩ | rfl)); (focus (go_simp; first | done | rfl)))
          refine wpKeep_nil ?_
          intro W5 hW5
          have T1 := fun W' (h' : Onward W5 W') => R1 W' (keeps_trans hW5 h')
          have T2 := fun W' (h' : Onward W5 W') => R2 W' (keeps_trans hW5 h')
          have HW5 := Lib.hid (keeps_trans (keeps_trans (keeps_trans (keeps_trans HBW.out HQ4.out) Hb.out) HW.out) hW5)
          have HT := Lib.hid (And.intro T1 T2)
          clear gx gy S0 S1 S2 S3 S8 R1 R2 T1 T2 HQ hW5
          by_cases hp : lx < ly
          · have e1 : Ord.num (lx : Int) (ly : Int) = -1 := by unfold Ord.num; rw [if_pos (by omega)]
            have hr : r = -1 := by rw [HLx.out, e1]; rfl
            subst hr
            go_wp2_with fail
            go_ret
            exact ⟨rfl, HW5.out⟩
          · by_cases hp2 : ly < lx
            · have e1 : Ord.num (lx : Int) (ly : Int) = 1 := by unfold Ord.num; rw [if_neg (by omega), if_pos (by omega)]
              have hr : r = 1 := by rw [HLx.out, e1]; rfl
              subst hr
              go_wp2_with fail
              go_ret
              exact ⟨rfl, HW5.out⟩
            · have e1 : Ord.num (lx : Int) (ly : Int) = 0 := by unfold Ord.num; rw [if_neg (by omega), if_neg (by omega)]
              have hr : Ord.num x y = r := by rw [HLx.out, e1]; rfl
              have gn := GN.out
              rw [hr] at gn
              go_wp2_with fail
              obtain ⟨T1, T2⟩ := HT.out
              refine region_keep (by kernel_rfl) (by kernel_rfl) ?_
              repeat (apply Go.Proofs.Ytbfpljnfalopdaa.L.wpKeep_yes; (focus rfl); (focus (intro W hW; go_simp; first | done | exact ⟨rfl, hW⟩ | rfl)); (focus (go_simp; first | done | rfl)))
              (apply Go.Proofs.Ytbfpljnfalopdaa.L.wpKeep_yes; (focus rfl); (focus (intro W hW; go_simp; first | exact Go.Proofs.Ytbfpljnfalopdaa.L.Gives.up gn hW | exact ⟨hW, Go.Proofs.Ytbfpljnfalopdaa.L.Gives.up gn hW⟩)); (focus (go_simp; first | done | rfl)))
              repeat (apply Go.Proofs.Ytbfpljnfalopdaa.L.wpKeep_yes; (focus rfl); (focus (intro W hW; go_simp; first | done | exact ⟨rfl, hW⟩ | rfl)); (focus (go_simp; first | done | rfl)))
              refine wpKeep_nil ?_
              intro W6 hW6
              have HE6 := Lib.hid (keeps_trans HW5.out hW6)
              clear T1 T2 HT gn hW6
              go_wp2_with fail
              go_ret
              exact ⟨rfl, HE6.out⟩
      · have hr : Ord.num (LA : Int) (LB : Int) = r := by
          rw [hq.out, show PB.drop k = [] from List.drop_eq_nil_of_le (by rw [HLB.out]; omega)]
          have hka : k < PA.length := by rw [HLA.out]; exact hA
          rw [List.drop_eq_getElem_cons hka]
          unfold Ord.num
          rw [if_neg (by omega), if_pos (by omega)]
          rfl
        have GN : Hid (∀ w, Calls Try.prog 49 #[.int .i64 (LA : Int), .int .i64 (LB : Int)] w fun e w' => e = .returned (.int .i64 r) ∧ w = w') := Lib.hid (fun w => by rw [← hr]; exact num_any LA LB w)
        have hdA : decide ((k : Int) < (LA : Int)) = true := by simpa using hA
        have hdB : decide ((k : Int) < (LB : Int)) = false := by simpa using hB
        clear hr hb hq
        go_wp2_with fail
        refine (GN.out _).mono ?_
        rintro e w6 ⟨rfl, rfl⟩
        go_wp2_with fail
        go_ret
        exact ⟨rfl, keeps_trans (keeps_trans HBW.out HQ4.out) Hb.out⟩
    · have hr : Ord.num (LA : Int) (LB : Int) = r := by
        rw [hq.out, show PA.drop k = [] from List.drop_eq_nil_of_le (by rw [HLA.out]; omega)]
        unfold Ord.num
        by_cases hB : k < LB
        · have hkb : k < PB.length := by rw [HLB.out]; exact hB
          rw [List.drop_eq_getElem_cons hkb, if_pos (by omega)]
          rfl
        · rw [show PB.drop k = [] from List.drop_eq_nil_of_le (by rw [HLB.out]; omega), if_neg (by omega), if_neg (by omega)]
          rfl
      have GN : Hid (∀ w, Calls Try.prog 49 #[.int .i64 (LA : Int), .int .i64 (LB : Int)] w fun e w' => e = .returned (.int .i64 r) ∧ w = w') := Lib.hid (fun w => by rw [← hr]; exact num_any LA LB w)
      have hdA : decide ((k : Int) < (LA : Int)) = false := by simpa using hA
      clear hr hb hq
      go_wp2_with fail
      refine (GN.out _).mono ?_
      rintro e w6 ⟨rfl, rfl⟩
      go_wp2_with fail
      go_ret
      exact ⟨rfl, keeps_trans (keeps_trans HBW.out HQ4.out) Hb.out⟩
end Go.Proofs.Ytbfpljnfalopdaa.OrdW
