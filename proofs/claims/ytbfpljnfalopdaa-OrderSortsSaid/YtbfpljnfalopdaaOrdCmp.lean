/-
  Which of two gangs comes first: the row's compare, and Cmp.
-/
import Derived.Test.YtbfpljnfalopdaaOrdRCmp
import Derived.Test.YtbfpljnfalopdaaPath
set_option linter.unusedVariables false
set_option linter.unusedSimpArgs false
namespace Go.Proofs.Ytbfpljnfalopdaa.OrdW
open Go Go.RowKit Go.Proofs.Ytbfpljnfalopdaa.L Go.Proofs.Ytbfpljnfalopdaa.CfgW

set_option maxRecDepth 100000 in
set_option maxHeartbeats 4000000 in
theorem compare_any {w : World} {v1 v2 vp vr vh : Value} {now next : Int} {c : Cfg.C} {h : List Nat} {br : Nat} (hs : StAt w v1 v2 vh c h) (hne : c.nodes ≠ []) (hn : NumOk c now) (hx : SBox w br v1 v2 c.half c.age now next vp vr vh) (a b : Ord.P) (ha : InI a.since) (hb : InI b.since) :
    GivesAt Try.prog w 47 #[.pointer (some ⟨br, 0, none⟩), .agg (prow a), .agg (prow b)] (.int .i64 (Ord.cmp c h now a b)) := by
  intro w1 hb1
  replace hs := hs.below hb1
  replace hx := hx.below hb1
  clear hb1
  have GP := Lib.hid (fun t W hW => path_any hs.cfg hs.len hne t W hW)
  have GN := Lib.hid (fun x y => nodes_any hs hx x y)
  have HO := Lib.hid (And.intro (old_any v1 v2 c.half c.age now a hn.age hn.now ha) (old_any v1 v2 c.half c.age now b hn.age hn.now hb))
  have HE := Lib.hid (show Ord.cmp c h now a b = if Ord.oldP c now a = true ∧ Ord.oldP c now b = false then -1 else if Ord.oldP c now b = true ∧ Ord.oldP c now a = false then 1 else if Ord.oldP c now a = true then Ord.num a.seq b.seq else Ord.or2 (Ord.tree c h a.tenant b.tenant) (Ord.num a.seq b.seq) from rfl)
  have HTr := Lib.hid (And.intro (show Ord.tree c h a.tenant b.tenant = Ord.lex (Ord.nodes c h) (Tree.path c a.tenant) (Tree.path c b.tenant) from rfl) (Ord.tree_self c h a.tenant))
  have HPl := Lib.hid (show ∀ t : Int, (Tree.path c t).length ≤ 1000000 from fun t => by
    have := Tree.up_length c t
    have := hs.len
    unfold Tree.path; rw [List.length_reverse]; omega)
  have HXY := Lib.hid (And.intro (show Ord.oldP c now a = Ord.old c.age now a.since from rfl) (show Ord.oldP c now b = Ord.old c.age now b.since from rfl))
  rw [← HXY.out.1, ← HXY.out.2] at HO
  obtain ⟨r, hr⟩ : ∃ r, Ord.cmp c h now a b = r := ⟨_, rfl⟩
  rw [hr] at HE ⊢
  generalize Ord.oldP c now a = x at *
  generalize Ord.oldP c now b = y at *
  obtain ⟨half, hhalf⟩ : ∃ z, c.half = z := ⟨_, rfl⟩
  obtain ⟨age, hage⟩ : ∃ z, c.age = z := ⟨_, rfl⟩
  rw [hhalf, hage] at GP HO hx
  clear hs hn ha hb hhalf hage hr HXY hne
  have hbw : Below w1.heap.size w1 ((w1.alloc (.cells (prow a) 57)).alloc (.cells (prow b) 57)) := by
    have hz : (w1.alloc (.cells (prow a) 57)).heap.size = w1.heap.size + 1 := by simp
    (repeat' (first | (with_reducible exact Below.refl _ _) | (with_reducible assumption) | (with_reducible refine Below.alloc ?_ ?_ _) | (with_reducible refine Go.Proofs.Ytbfpljnfalopdaa.L.below_drewN ?_ _) | (with_reducible refine Below.drew ?_) | (with_reducible refine Below.setCell ?_ ?_ _) | (with_reducible refine Below.frame ?_ _) | go_size))
  have hpa : PBox ((w1.alloc (.cells (prow a) 57)).alloc (.cells (prow b) 57)) w1.heap.size a := Blk.alloc (Blk.new w1 57 (prow a)) _
  have hpb : PBox ((w1.alloc (.cells (prow a) 57)).alloc (.cells (prow b) 57)) (w1.heap.size + 1) b := by
    have h := Blk.new (w1.alloc (.cells (prow a) 57)) 57 (prow b)
    simp only [World.size_alloc] at h
    exact h
  have hx2 : SBox ((w1.alloc (.cells (prow a) 57)).alloc (.cells (prow b) 57)) br v1 v2 half age now next vp vr vh := hx.below hbw
  have HX := Lib.hid (And.intro hx2 (And.intro hbw (And.intro hpa hpb)))
  clear hx hbw hx2 hpa hpb
  obtain ⟨a0, a1, a2, ⟨a3, a4, a5⟩, a6, a7, a8, a9, a10⟩ := a
  obtain ⟨b0, b1, b2, ⟨b3, b4, b5⟩, b6, b7, b8, b9, b10⟩ := b
  simp only [prow] at *
  go_enter Try.func47, Try.ntmps47
  go_wp2_with fail
  generalize (w1.alloc (.cells #[.int .i64 a0, .int .i64 a1, .int .i64 a2, .int .i64 a3, .int .i64 a4, .int .i64 a5, .int .i64 a6, .int .i64 a7, .int .i64 a8, .int .i64 a9, .int .i64 a10] 57)).alloc (.cells #[.int .i64 b0, .int .i64 b1, .int .i64 b2, .int .i64 b3, .int .i64 b4, .int .i64 b5, .int .i64 b6, .int .i64 b7, .int .i64 b8, .int .i64 b9, .int .i64 b10] 57) = wq at *
  obtain ⟨hx, hbw, hpa, hpb⟩ := HX.out
  have HBW := Lib.hid hbw
  have hlt : w1.heap.size + 1 < wq.heap.size := Blk.lt hpb
  have S0 := fun W' (k : Onward wq W') => k.cell hx.lt hx.c0
  have S1 := fun W' (k : Onward wq W') => k.cell hx.lt hx.c1
  have S2 := fun W' (k : Onward wq W') => k.cell hx.lt hx.c2
  have S3 := fun W' (k : Onward wq W') => k.cell hx.lt hx.c3
  have S4 := fun W' (k : Onward wq W') => k.cell hx.lt hx.c4
  have A := fun W' (k : Onward wq W') => hpa.cells W' k
  have B := fun W' (k : Onward wq W') => hpb.cells W' k
  dsimp only at A B
  obtain ⟨g1, g2⟩ := HO.out
  have HS := Lib.hid (And.intro S0 (And.intro S1 (And.intro S2 (And.intro S3 (And.intro A B)))))
  clear hx hbw hpa hpb HX HO
  refine region_keep (by kernel_rfl) (by kernel_rfl) ?_
  repeat (apply Go.Proofs.Ytbfpljnfalopdaa.L.wpKeep_yes; (focus rfl); (focus (intro W hW; go_simp; first | done | exact ⟨rfl, hW⟩ | rfl)); (focus (go_simp; first | done | rfl)))
  (apply Go.Proofs.Ytbfpljnfalopdaa.L.wpKeep_yes; (focus rfl); (focus (intro W hW; go_simp; first | exact Go.Proofs.Ytbfpljnfalopdaa.L.Gives.up g1 hW | exact ⟨hW, Go.Proofs.Ytbfpljnfalopdaa.L.Gives.up g1 hW⟩)); (focus (go_simp; first | done | rfl)))
  repeat (apply Go.Proofs.Ytbfpljnfalopdaa.L.wpKeep_yes; (focus rfl); (focus (intro W hW; go_simp; first | done | exact ⟨rfl, hW⟩ | rfl)); (focus (go_simp; first | done | rfl)))
  (apply Go.Proofs.Ytbfpljnfalopdaa.L.wpKeep_yes; (focus rfl); (focus (intro W hW; go_simp; first | exact Go.Proofs.Ytbfpljnfalopdaa.L.Gives.up g2 hW | exact ⟨hW, Go.Proofs.Ytbfpljnfalopdaa.L.Gives.up g2 hW⟩)); (focus (go_simp; first | done | rfl)))
  repeat (apply Go.Proofs.Ytbfpljnfalopdaa.L.wpKeep_yes; (focus rfl); (focus (intro W hW; go_simp; first | done | exact ⟨rfl, hW⟩ | rfl)); (focus (go_simp; first | done | rfl)))
  refine wpKeep_nil ?_
  intro W hW
  have HW := Lib.hid hW
  clear g1 g2 S0 S1 S2 S3 S4 A B
  have HWB := Lib.hid (keeps_trans HBW.out HW.out)
  obtain ⟨S0, S1, S2, S3, A, B⟩ := HS.out
  obtain ⟨-, q1, -, -, -, -, -, -, -, q9, -⟩ := A W hW
  obtain ⟨-, p1, -, -, -, -, -, -, -, p9, -⟩ := B W hW
  clear S0 S1 S2 S3 A B hW
  have hltW : w1.heap.size + 1 < W.heap.size := by have := HW.out.size; omega
  cases x
  · cases y
    · have hr : r = Ord.or2 (Ord.tree c h a1 b1) (Ord.num a9 b9) := by rw [HE.out]; simp
      have GC : Hid (∀ w, Calls Try.prog 67 #[.int .i64 a9, .int .i64 b9] w fun e w' => e = .returned (.int .i64 (Ord.num a9 b9)) ∧ w = w') := Lib.hid (fun w => compare_int a9 b9 w)
      generalize Ord.num a9 b9 = q at *
      by_cases hab : a1 = b1
      · have ht : r = Ord.or2 0 q := by rw [hr, ← hab, HTr.out.2]
        have te : (a1 != b1) = false := by simp [hab]
        have HRt := Lib.hid ht
        clear hr ht HE GP GN HS HTr
        go_wp2_with fail
        refine (GC.out _).mono ?_
        rintro e w6 ⟨rfl, rfl⟩
        have h0 : (W.alloc (.cells #[.int .i64 0, .int .i64 q] 3)).cell? ⟨W.heap.size, 0, none⟩ = some (.int .i64 0) := by simp [go_sem]
        have h1 : (W.alloc (.cells #[.int .i64 0, .int .i64 q] 3)).cell? ⟨W.heap.size, 1, none⟩ = some (.int .i64 q) := by simp [go_sem]
        have GO := Lib.hid (or_two (w := W.alloc (.cells #[.int .i64 0, .int .i64 q] 3)) (b := W.heap.size) (by simp) 0 q h0 h1)
        have HB := Lib.hid ((Below.refl W.heap.size W).alloc (Nat.le_refl _) (.cells #[.int .i64 0, .int .i64 q] 3))
        clear h0 h1
        go_wp2_with fail
        refine (GO.out).mono ?_
        rintro e w7 ⟨rfl, hb7⟩
        have HF := Lib.hid (keeps_trans (keeps_trans HWB.out HB.out) hb7)
        clear hb7
        go_wp2_with fail
        go_ret
        exact ⟨by rw [HRt.out]; rfl, HF.out⟩
      · have te : (a1 != b1) = true := by simp [hab]
        obtain ⟨t, ht⟩ : ∃ t, Ord.tree c h a1 b1 = t := ⟨_, rfl⟩
        have HT := Lib.hid (show t = Ord.lex (Ord.nodes c h) (Tree.path c a1) (Tree.path c b1) by rw [← ht]; exact HTr.out.1)
        have HRt := Lib.hid (show r = Ord.or2 t q by rw [hr, ht])
        have gA : ∀ W', Onward W W' → Calls Try.prog 68 #[.agg #[v1, v2, .int .i64 half, .int .i64 age], .int .i64 a1] W' fun e w' => PathEnd (Tree.path c a1) W' e w' := fun W' hW' => GP.out a1 W' (keeps_trans HWB.out hW')
        have gB : ∀ W', Onward W W' → Calls Try.prog 68 #[.agg #[v1, v2, .int .i64 half, .int .i64 age], .int .i64 b1] W' fun e w' => PathEnd (Tree.path c b1) W' e w' := fun W' hW' => GP.out b1 W' (keeps_trans HWB.out hW')
        have hl1 := HPl.out a1
        have hl2 := HPl.out b1
        generalize Tree.path c a1 = PA at *
        generalize Tree.path c b1 = PB at *
        have HG := Lib.hid (And.intro gA gB)
        clear hr ht HE HTr GP gA gB HPl
        go_wp2_with fail
        obtain ⟨gA, gB⟩ := HG.out
        obtain ⟨S0', S1', S2', S3', A', B'⟩ := HS.out
        have S0 := fun W' (k : Onward W W') => S0' W' (keeps_trans HW.out k)
        have S1 := fun W' (k : Onward W W') => S1' W' (keeps_trans HW.out k)
        have S2 := fun W' (k : Onward W W') => S2' W' (keeps_trans HW.out k)
        have S3 := fun W' (k : Onward W W') => S3' W' (keeps_trans HW.out k)
        have A1 := fun W' (k : Onward W W') => (A' W' (keeps_trans HW.out k)).2.1
        have B1 := fun W' (k : Onward W W') => (B' W' (keeps_trans HW.out k)).2.1
        have HAB := Lib.hid (And.intro (fun W' (k : Onward W W') => (A' W' (keeps_trans HW.out k)).2.2.2.2.2.2.2.2.2.1) (fun W' (k : Onward W W') => (B' W' (keeps_trans HW.out k)).2.2.2.2.2.2.2.2.2.1))
        clear S0' S1' S2' S3' A' B' q1 q9 p1 p9 HG HS
        refine region_plan [(0, true), (1, true), (2, true), (3, true), (4, true), (5, true), (6, true), (7, true), (9, true), (10, true), (11, true), (12, true), (13, true), (14, true), (15, true), (16, true), (8, false), (17, false), (18, true), (19, true)] (by kernel_rfl) (by kernel_rfl) ?_
        repeat (apply Go.Proofs.Ytbfpljnfalopdaa.L.plan_take; (focus rfl); (focus rfl); (focus (intro W hW; go_simp; first | done | exact ⟨rfl, rfl⟩ | rfl)); (focus (go_simp; first | done | rfl)))
        (apply Go.Proofs.Ytbfpljnfalopdaa.L.plan_call; (focus rfl); (focus rfl); (focus (go_simp; first | done | exact ⟨⟨rfl, rfl⟩, rfl⟩ | rfl)))
        refine (gA _ (Onward.drew _)).mono ?_
        rintro e w3 ⟨vA, rfl, hI3, hk3⟩
        refine ⟨vA, rfl, keeps_trans (Onward.drew W) hk3, ?_⟩
        (apply Go.Proofs.Ytbfpljnfalopdaa.L.plan_call; (focus rfl); (focus rfl); (focus (go_simp; first | done | exact ⟨⟨rfl, rfl⟩, rfl⟩ | rfl)))
        refine (gB _ (keeps_trans (Onward.drew W) hk3)).mono ?_
        rintro e w4 ⟨vB, rfl, hI4, hk4⟩
        refine ⟨vB, rfl, keeps_trans (keeps_trans (Onward.drew W) hk3) hk4, ?_⟩
        repeat (apply Go.Proofs.Ytbfpljnfalopdaa.L.plan_take; (focus rfl); (focus rfl); (focus (intro W hW; go_simp; first | done | exact ⟨rfl, rfl⟩ | rfl)); (focus (go_simp; first | done | rfl)))
        refine plan_nil ?_
        have hq4 : Onward W w4 := keeps_trans (keeps_trans (Onward.drew W) hk3) hk4
        have HQ4 := Lib.hid hq4
        have hI3' : Ints w4 W.drew.heap.size vA PA := RowV.below hI3 hk4
        obtain ⟨A1', c1, rfl, hcA⟩ := ints_cell hI3'
        obtain ⟨A2', c2, rfl, hcB⟩ := ints_cell hI4
        have HCA := Lib.hid hcA
        have HCB := Lib.hid hcB
        obtain ⟨LA, hLA⟩ : ∃ L, PA.length = L := ⟨_, rfl⟩
        obtain ⟨LB, hLB⟩ : ∃ L, PB.length = L := ⟨_, rfl⟩
        have HLA := Lib.hid hLA
        have HLB := Lib.hid hLB
        rw [hLA] at hl1 ⊢
        rw [hLB] at hl2 ⊢
        clear hI3 hI3' hI4 hk3 hk4 hcA hcB hLA hLB S0 S1 S2 S3 A1 B1 hq4 gA gB
        go_wp2_with fail
        refine (compare_int (LA : Int) (LB : Int) _).mono ?_
        rintro e w5 ⟨rfl, rfl⟩
        go_upto_block 1 with fail
        have HL := Lib.hid (And.intro hl1 hl2)
        obtain ⟨z, hz⟩ : ∃ z, Ord.num (LA : Int) (LB : Int) = z := ⟨_, rfl⟩
        have HZ := Lib.hid hz
        rw [hz]
        clear hz
        go_cut [9] (fun x wx => x = .int .i64 t ∧ Onward w4 wx)
        case first =>
          go_wp2_with fail
          go_loopw [9, 91] (fun x i wr => ∃ k : Nat, x = .int .i64 z ∧ i = .int .i64 (k : Int) ∧ k ≤ LA ∧ k ≤ LB ∧ Hid (t = Ord.lex (Ord.nodes c h) (PA.drop k) (PB.drop k)) ∧ Onward w4 wr) (fun _ i _ => LA - (intOf i).toNat)
          case atStart => exact ⟨0, rfl, rfl, by omega, by omega, Lib.hid (by simpa using HT.out), Below.refl _ _⟩
          case round =>
            obtain ⟨k, rfl, rfl, hkA, hkB, hq, hb⟩ := hrel
            have Hb := Lib.hid hb
            by_cases hAB : k < LA ∧ k < LB
            · obtain ⟨hA, hB⟩ := hAB
              have hka : k < PA.length := by rw [HLA.out]; exact hA
              have hkb : k < PB.length := by rw [HLB.out]; exact hB
              obtain ⟨x, hx⟩ : ∃ x, PA[k] = x := ⟨_, rfl⟩
              obtain ⟨y, hy⟩ : ∃ y, PB[k] = y := ⟨_, rfl⟩
              have hda : PA.drop k = x :: PA.drop (k + 1) := by rw [← hx]; exact List.drop_eq_getElem_cons hka
              have hdb : PB.drop k = y :: PB.drop (k + 1) := by rw [← hy]; exact List.drop_eq_getElem_cons hkb
              have hlx := hq.out
              rw [hda, hdb, Ord.lex] at hlx
              obtain ⟨g1, rfl, -, hg1, hc1⟩ := HCA.out k x (by rw [List.getElem?_eq_getElem hka, hx])
              obtain ⟨g2, rfl, -, hg2, hc2⟩ := HCB.out k y (by rw [List.getElem?_eq_getElem hkb, hy])
              have Q1 := fun W (hW : Onward wr W) => hW.cell (Nat.lt_of_lt_of_le hg1 hb.size) ((Below.cell (p := ⟨g1, k, none⟩) hb hg1).trans hc1)
              have Q2 := fun W (hW : Onward wr W) => hW.cell (Nat.lt_of_lt_of_le hg2 hb.size) ((Below.cell (p := ⟨g2, k, none⟩) hb hg2).trans hc2)
              have hmn : (k : Int) < min (LA : Int) (LB : Int) := by omega
              have hdm : decide ((k : Int) < min (LA : Int) (LB : Int)) = true := by simpa using hmn
              have HQ := Lib.hid (And.intro Q1 Q2)
              have hdA : (k : Int) < (LA : Int) := by omega
              have hdB : (k : Int) < (LB : Int) := by omega
              clear hc1 hc2 hg1 hg2 hx hy hda hdb hka hkb hb Q1 Q2 hmn
              go_wp2_with fail
              obtain ⟨Q1, Q2⟩ := HQ.out
              refine region_keep (by kernel_rfl) (by kernel_rfl) ?_
              repeat (apply Go.Proofs.Ytbfpljnfalopdaa.L.wpKeep_yes; (focus rfl); (focus (intro W hW; go_simp; first | done | exact ⟨rfl, hW⟩ | rfl)); (focus (go_simp; first | done | rfl)))
              refine wpKeep_nil ?_
              intro W5 hW5
              have HW5 := Lib.hid hW5
              have R1 := fun W' (h' : Onward W5 W') => Q1 W' (keeps_trans hW5 h')
              have R2 := fun W' (h' : Onward W5 W') => Q2 W' (keeps_trans hW5 h')
              have HR := Lib.hid (And.intro R1 R2)
              clear Q1 Q2 hW5 HQ R1 R2
              by_cases hxy : x = y
              · subst hxy
                rw [if_pos rfl] at hlx
                have HLx := Lib.hid hlx
                have te : ((x : Int) != (x : Int)) = false := by simp
                clear hlx hq
                go_wp2_with fail
                go_roundw
                case rel => exact ⟨k + 1, rfl, by go_num, by omega, by omega, HLx, keeps_trans Hb.out HW5.out⟩
                case measure => simp [intOf]; omega
              · rw [if_neg hxy] at hlx
                have te : ((x : Int) != (y : Int)) = true := by simp; omega
                have gn := (GN.out x y).up (keeps_trans (keeps_trans (keeps_trans HWB.out HQ4.out) Hb.out) HW5.out)
                rw [← hlx] at gn
                have HGn := Lib.hid gn
                clear hlx hq gn
                go_wp2_with fail
                obtain ⟨R1, R2⟩ := HR.out
                have gn := HGn.out
                refine region_keep (by kernel_rfl) (by kernel_rfl) ?_
                repeat (apply Go.Proofs.Ytbfpljnfalopdaa.L.wpKeep_yes; (focus rfl); (focus (intro W hW; go_simp; first | done | exact ⟨rfl, hW⟩ | rfl)); (focus (go_simp; first | done | rfl)))
                (apply Go.Proofs.Ytbfpljnfalopdaa.L.wpKeep_yes; (focus rfl); (focus (intro W hW; go_simp; first | exact gn W hW | exact ⟨hW, gn W hW⟩)); (focus (go_simp; first | done | rfl)))
                repeat (apply Go.Proofs.Ytbfpljnfalopdaa.L.wpKeep_yes; (focus rfl); (focus (intro W hW; go_simp; first | done | exact ⟨rfl, hW⟩ | rfl)); (focus (go_simp; first | done | rfl)))
                refine wpKeep_nil ?_
                intro W6 hW6
                have HE6 := Lib.hid (keeps_trans (keeps_trans Hb.out HW5.out) hW6)
                clear R1 R2 HR gn HGn hW6
                go_wp2_with fail
                go_meet
                exact ⟨rfl, HE6.out⟩
            · have hz : z = t := by
                rw [← HZ.out, hq.out]
                unfold Ord.num
                by_cases hA : k < LA
                · have hka : k < PA.length := by rw [HLA.out]; exact hA
                  rw [List.drop_eq_getElem_cons hka, show PB.drop k = [] from List.drop_eq_nil_of_le (by rw [HLB.out]; omega), if_neg (by omega), if_pos (by omega)]
                  rfl
                · rw [show PA.drop k = [] from List.drop_eq_nil_of_le (by rw [HLA.out]; omega)]
                  by_cases hB : k < LB
                  · have hkb : k < PB.length := by rw [HLB.out]; exact hB
                    rw [List.drop_eq_getElem_cons hkb, if_pos (by omega)]
                    rfl
                  · rw [show PB.drop k = [] from List.drop_eq_nil_of_le (by rw [HLB.out]; omega), if_neg (by omega), if_neg (by omega)]
                    rfl
              have hmn : ¬ (k : Int) < min (LA : Int) (LB : Int) := by omega
              have hdm : decide ((k : Int) < min (LA : Int) (LB : Int)) = false := by simpa using hmn
              have HZt := Lib.hid hz
              clear hz hq hb hAB hmn
              go_wp2_with fail
              go_meet
              exact ⟨by rw [HZt.out], Hb.out⟩
        case rest =>
          obtain ⟨rfl, hbc⟩ := hcut
          have hqc : Onward W wc := keeps_trans HQ4.out hbc
          have HWC := Lib.hid (keeps_trans HWB.out hqc)
          have sa := HAB.out.1 wc hqc
          have sb := HAB.out.2 wc hqc
          clear hqc hbc
          go_wp2_with fail
          refine (GC.out _).mono ?_
          rintro e w6 ⟨rfl, rfl⟩
          have h0 : (wc.alloc (.cells #[.int .i64 t, .int .i64 q] 3)).cell? ⟨wc.heap.size, 0, none⟩ = some (.int .i64 t) := by simp [go_sem]
          have h1 : (wc.alloc (.cells #[.int .i64 t, .int .i64 q] 3)).cell? ⟨wc.heap.size, 1, none⟩ = some (.int .i64 q) := by simp [go_sem]
          have GO := Lib.hid (or_two (w := wc.alloc (.cells #[.int .i64 t, .int .i64 q] 3)) (b := wc.heap.size) (by simp) t q h0 h1)
          have HB := Lib.hid ((Below.refl wc.heap.size wc).alloc (Nat.le_refl _) (.cells #[.int .i64 t, .int .i64 q] 3))
          clear h0 h1
          go_wp2_with fail
          refine (GO.out).mono ?_
          rintro e w7 ⟨rfl, hb7⟩
          have HF := Lib.hid (keeps_trans (keeps_trans HWC.out HB.out) hb7)
          clear hb7
          go_wp2_with fail
          go_ret
          exact ⟨by rw [HRt.out]; rfl, HF.out⟩
    · have hr : r = 1 := by rw [HE.out]; simp
      subst hr
      clear HE GP GN HS
      go_wp2_with fail
      go_ret
      exact ⟨rfl, HWB.out⟩
  · cases y
    · have hr : r = -1 := by rw [HE.out]; simp
      subst hr
      clear HE GP GN HS
      go_wp2_with fail
      go_ret
      exact ⟨rfl, HWB.out⟩
    · have hr' : Ord.num a9 b9 = r := by rw [HE.out]; simp
      have GC : Hid (∀ w, Calls Try.prog 67 #[.int .i64 a9, .int .i64 b9] w fun e w' => e = .returned (.int .i64 r) ∧ w = w') := Lib.hid (fun w => by rw [← hr']; exact compare_int a9 b9 w)
      clear HE GP GN HS hr'
      go_wp2_with fail
      refine (GC.out _).mono ?_
      rintro e w6 ⟨rfl, rfl⟩
      go_wp2_with fail
      go_ret
      exact ⟨rfl, HWB.out⟩
end Go.Proofs.Ytbfpljnfalopdaa.OrdW
