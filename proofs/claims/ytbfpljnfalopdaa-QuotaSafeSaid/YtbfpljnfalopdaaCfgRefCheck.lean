/-
  May a configuration be? The contract of the reference's Check.
-/
import Derived.Test.YtbfpljnfalopdaaCfgCheck
set_option linter.unusedVariables false
set_option linter.unusedSimpArgs false
namespace Go.Proofs.Ytbfpljnfalopdaa.CfgW
open Go.RowKit Go.Proofs.Ytbfpljnfalopdaa.L

theorem check_no {c : Cfg.C} (h : Cfg.sizesOk c = false ∨ Cfg.nodesOk c c.nodes.length = false ∨ Cfg.hostsOk c c.hosts.length = false) : Cfg.check c = 2 := by
  unfold Cfg.check Cfg.ok
  rcases h with h | h | h <;> rw [h] <;> simp
theorem check_yes {c : Cfg.C} (h1 : Cfg.sizesOk c = true) (h2 : Cfg.nodesOk c c.nodes.length = true) (h3 : Cfg.hostsOk c c.hosts.length = true) : Cfg.check c = 0 := by
  unfold Cfg.check Cfg.ok
  rw [h1, h2, h3]
  rfl
theorem sizes_iff (c : Cfg.C) (N M : Nat) (h a : Int) (h1 : c.nodes.length = N) (h2 : c.hosts.length = M) (h3 : c.half = h) (h4 : c.age = a) : Cfg.sizesOk c = decide ((1 ≤ N ∧ N ≤ 12) ∧ (1 ≤ M ∧ M ≤ 24) ∧ (1 ≤ h ∧ h ≤ 1048576) ∧ (0 ≤ a ∧ a ≤ 1048576)) := by
  subst h1 h2 h3 h4
  unfold Cfg.sizesOk Cfg.between
  rw [Bool.eq_iff_iff]
  simp
  omega
theorem hostOk_iff (f b r x y z : Int) : Cfg.hostOk ⟨f, b, r, ⟨x, y, z⟩⟩ = (decide (0 ≤ f ∧ f ≤ 100 ∧ 0 ≤ b ∧ b ≤ 100 ∧ 0 ≤ r ∧ r ≤ 100) && Vec.valid ⟨x, y, z⟩) := by
  unfold Cfg.hostOk Cfg.between
  generalize Vec.valid ⟨x, y, z⟩ = V
  rw [Bool.eq_iff_iff]
  cases V
  · simp
  · simp
    omega

set_option maxRecDepth 100000 in
set_option maxHeartbeats 8000000 in
theorem rcheck_any {w : World} {v : Value} {c : Cfg.C} (hc : CfgAt w v c) : GivesAt Try.prog w 33 #[v] (.int .i64 (Cfg.check c)) := by
  intro w1 hb1
  replace hc := hc.below hb1
  clear hb1
  have HCF := Lib.hid hc
  obtain ⟨v1, v2, rfl, ⟨A, ca, rfl, hr, hl⟩, ⟨B, cb, rfl, hr2, hl2⟩⟩ := id hc
  have HRH := Lib.hid hr2
  have gN := Lib.hid (fun k hk => rnode_any hc k hk)
  obtain ⟨N, hN⟩ : ∃ N, c.nodes.length = N := ⟨_, rfl⟩
  obtain ⟨M, hM⟩ : ∃ M, c.hosts.length = M := ⟨_, rfl⟩
  have HN := Lib.hid hN
  have HM := Lib.hid hM
  rw [hN] at gN hl
  rw [hM] at gN hl2
  rw [hN, hM]
  rw [hN, hM] at HCF
  obtain ⟨half, hhalf⟩ : ∃ z, c.half = z := ⟨_, rfl⟩
  obtain ⟨age, hage⟩ : ∃ z, c.age = z := ⟨_, rfl⟩
  have hsz := Lib.hid (sizes_iff c N M half age hN hM hhalf hage)
  rw [hhalf] at gN HCF ⊢
  rw [hage] at gN HCF ⊢
  unfold maxLen at hl hl2
  have HNO := Lib.hid (fun h => check_no (c := c) h)
  have HYES := Lib.hid (fun h1 h2 h3 => check_yes (c := c) h1 h2 h3)
  rw [hN, hM] at HNO HYES
  obtain ⟨R, hR⟩ : ∃ R, Cfg.check c = R := ⟨_, rfl⟩
  rw [hR] at HNO HYES ⊢
  clear hR hr hr2 hN hM hhalf hage hc
  by_cases s0 : N < 1
  · have d0 : decide ((N : Int) < 1) = true := by simp; omega
    have hno := Lib.hid (HNO.out (.inl (by rw [hsz.out]; simp; omega)))
    go_enter Try.func33, Try.ntmps33
    go_wp2_with fail
    go_ret
    exact ⟨ret_int hno.out.symm, by (repeat' (first | (with_reducible exact Below.refl _ _) | (with_reducible assumption) | (with_reducible refine Below.alloc ?_ ?_ _) | (with_reducible refine Go.Proofs.Ytbfpljnfalopdaa.L.below_drewN ?_ _) | (with_reducible refine Below.drew ?_) | (with_reducible refine Below.setCell ?_ ?_ _) | (with_reducible refine Below.frame ?_ _) | go_size))⟩
  have d0 : decide ((N : Int) < 1) = false := by simp; omega
  by_cases s1 : 12 < N
  · have d1 : decide ((12 : Int) < N) = true := by simp; omega
    have hno := Lib.hid (HNO.out (.inl (by rw [hsz.out]; simp; omega)))
    go_enter Try.func33, Try.ntmps33
    go_wp2_with fail
    go_ret
    exact ⟨ret_int hno.out.symm, by (repeat' (first | (with_reducible exact Below.refl _ _) | (with_reducible assumption) | (with_reducible refine Below.alloc ?_ ?_ _) | (with_reducible refine Go.Proofs.Ytbfpljnfalopdaa.L.below_drewN ?_ _) | (with_reducible refine Below.drew ?_) | (with_reducible refine Below.setCell ?_ ?_ _) | (with_reducible refine Below.frame ?_ _) | go_size))⟩
  have d1 : decide ((12 : Int) < N) = false := by simp; omega
  by_cases s2 : M < 1
  · have d2 : decide ((M : Int) < 1) = true := by simp; omega
    have hno := Lib.hid (HNO.out (.inl (by rw [hsz.out]; simp; omega)))
    go_enter Try.func33, Try.ntmps33
    go_wp2_with fail
    go_ret
    exact ⟨ret_int hno.out.symm, by (repeat' (first | (with_reducible exact Below.refl _ _) | (with_reducible assumption) | (with_reducible refine Below.alloc ?_ ?_ _) | (with_reducible refine Go.Proofs.Ytbfpljnfalopdaa.L.below_drewN ?_ _) | (with_reducible refine Below.drew ?_) | (with_reducible refine Below.setCell ?_ ?_ _) | (with_reducible refine Below.frame ?_ _) | go_size))⟩
  have d2 : decide ((M : Int) < 1) = false := by simp; omega
  by_cases s3 : 24 < M
  · have d3 : decide ((24 : Int) < M) = true := by simp; omega
    have hno := Lib.hid (HNO.out (.inl (by rw [hsz.out]; simp; omega)))
    go_enter Try.func33, Try.ntmps33
    go_wp2_with fail
    go_ret
    exact ⟨ret_int hno.out.symm, by (repeat' (first | (with_reducible exact Below.refl _ _) | (with_reducible assumption) | (with_reducible refine Below.alloc ?_ ?_ _) | (with_reducible refine Go.Proofs.Ytbfpljnfalopdaa.L.below_drewN ?_ _) | (with_reducible refine Below.drew ?_) | (with_reducible refine Below.setCell ?_ ?_ _) | (with_reducible refine Below.frame ?_ _) | go_size))⟩
  have d3 : decide ((24 : Int) < M) = false := by simp; omega
  by_cases s4 : half < 1
  · have d4 : decide (half < 1) = true := by simpa using s4
    have hno := Lib.hid (HNO.out (.inl (by rw [hsz.out]; simp; omega)))
    go_enter Try.func33, Try.ntmps33
    go_wp2_with fail
    go_ret
    exact ⟨ret_int hno.out.symm, by (repeat' (first | (with_reducible exact Below.refl _ _) | (with_reducible assumption) | (with_reducible refine Below.alloc ?_ ?_ _) | (with_reducible refine Go.Proofs.Ytbfpljnfalopdaa.L.below_drewN ?_ _) | (with_reducible refine Below.drew ?_) | (with_reducible refine Below.setCell ?_ ?_ _) | (with_reducible refine Below.frame ?_ _) | go_size))⟩
  have d4 : decide (half < 1) = false := by simpa using s4
  by_cases s5 : 1048576 < half
  · have d5 : decide (1048576 < half) = true := by simpa using s5
    have hno := Lib.hid (HNO.out (.inl (by rw [hsz.out]; simp; omega)))
    go_enter Try.func33, Try.ntmps33
    go_wp2_with fail
    go_ret
    exact ⟨ret_int hno.out.symm, by (repeat' (first | (with_reducible exact Below.refl _ _) | (with_reducible assumption) | (with_reducible refine Below.alloc ?_ ?_ _) | (with_reducible refine Go.Proofs.Ytbfpljnfalopdaa.L.below_drewN ?_ _) | (with_reducible refine Below.drew ?_) | (with_reducible refine Below.setCell ?_ ?_ _) | (with_reducible refine Below.frame ?_ _) | go_size))⟩
  have d5 : decide (1048576 < half) = false := by simpa using s5
  by_cases s6 : age < 0
  · have d6 : decide (age < 0) = true := by simpa using s6
    have hno := Lib.hid (HNO.out (.inl (by rw [hsz.out]; simp; omega)))
    go_enter Try.func33, Try.ntmps33
    go_wp2_with fail
    go_ret
    exact ⟨ret_int hno.out.symm, by (repeat' (first | (with_reducible exact Below.refl _ _) | (with_reducible assumption) | (with_reducible refine Below.alloc ?_ ?_ _) | (with_reducible refine Go.Proofs.Ytbfpljnfalopdaa.L.below_drewN ?_ _) | (with_reducible refine Below.drew ?_) | (with_reducible refine Below.setCell ?_ ?_ _) | (with_reducible refine Below.frame ?_ _) | go_size))⟩
  have d6 : decide (age < 0) = false := by simpa using s6
  by_cases s7 : 1048576 < age
  · have d7 : decide (1048576 < age) = true := by simpa using s7
    have hno := Lib.hid (HNO.out (.inl (by rw [hsz.out]; simp; omega)))
    go_enter Try.func33, Try.ntmps33
    go_wp2_with fail
    go_ret
    exact ⟨ret_int hno.out.symm, by (repeat' (first | (with_reducible exact Below.refl _ _) | (with_reducible assumption) | (with_reducible refine Below.alloc ?_ ?_ _) | (with_reducible refine Go.Proofs.Ytbfpljnfalopdaa.L.below_drewN ?_ _) | (with_reducible refine Below.drew ?_) | (with_reducible refine Below.setCell ?_ ?_ _) | (with_reducible refine Below.frame ?_ _) | go_size))⟩
  have d7 : decide (1048576 < age) = false := by simpa using s7
  have HS : Hid (Cfg.sizesOk c = true) := Lib.hid (by rw [hsz.out]; simp; omega)
  have hbx := CBox.new w1 (.slice A N ca) (.slice B M cb) half age
  have hbw : Below w1.heap.size w1 (w1.alloc (.cells #[.slice A N ca, .slice B M cb, .int .i64 half, .int .i64 age] 25)) := (Below.refl _ _).alloc (Nat.le_refl _) _
  go_enter Try.func33, Try.ntmps33
  go_wp2_with fail
  go_loopw [3] (fun i wr => ∃ k : Nat, i = .int .i64 (k : Int) ∧ k ≤ N ∧ Hid (Cfg.nodesOk c k = true) ∧ Below w1.heap.size w1 wr ∧ CBox wr w1.heap.size (.slice A N ca) (.slice B M cb) half age) (fun i _ => N - (intOf i).toNat)
  case atStart => exact ⟨0, rfl, by omega, Lib.hid rfl, hbw, hbx⟩
  case round =>
    obtain ⟨k, rfl, hk, hq, hb, hx⟩ := hrel
    clear hbw hbx
    have HX := Lib.hid hx
    obtain ⟨hx0, x0, x1, x2, x3⟩ := hx
    by_cases hkn : k < N
    · have hs := Lib.hid (show Cfg.nodesOk c (k + 1) = Cfg.nodeOk c k (c.nodes.getD k default) by rw [Cfg.nodesOk_succ, hq.out]; rfl)
      have gn := Lib.hid (gN.out k hkn)
      generalize Cfg.nodeOk c k (c.nodes.getD k default) = q at *
      go_wp2_with fail
      refine (gn.out _ hb).mono ?_
      rintro e w3 ⟨rfl, hb3⟩
      have hb4 := keeps_trans hb hb3
      have hx4 := HX.out.on hb3
      clear hb hb3 x0 x1 x2 x3 gn
      cases q
      · have hno := Lib.hid (HNO.out (.inr (.inl (by rw [← HN.out]; exact nodes_false (k := k + 1) (by have := HN.out; omega) hs.out))))
        go_wp2_with fail
        go_ret
        exact ⟨ret_int hno.out.symm, hb4⟩
      · go_wp2_with fail
        go_roundw
        case rel => exact ⟨k + 1, by go_num, by omega, hs, hb4, hx4⟩
        case measure => simp [intOf]; omega
    · have hkN : N ≤ k := by omega
      have HNB : Hid (Cfg.nodesOk c N = true) := Lib.hid (by have := hq.out; rwa [show k = N by omega] at this)
      have hkd : decide (k < N) = false := by simp; omega
      clear hq hkn
      go_wp2_with fail
      go_loopw [4] (fun i wr => ∃ k : Nat, i = .int .i64 (k : Int) ∧ k ≤ M ∧ Hid (Cfg.hostsOk c k = true) ∧ Below w1.heap.size w1 wr ∧ CBox wr w1.heap.size (.slice A N ca) (.slice B M cb) half age) (fun i _ => M - (intOf i).toNat)
      case atStart => exact ⟨0, rfl, by omega, Lib.hid rfl, hb, HX.out⟩
      case round =>
        obtain ⟨k2, rfl, hk2, hq, hbr, hxr⟩ := hrel
        clear hb x0 x1 x2 x3 hx0
        have HX := Lib.hid hxr
        obtain ⟨hx0, x0, x1, x2, x3⟩ := hxr
        by_cases hkn : k2 < M
        · have hkx : k2 < c.hosts.length := by have := HM.out; omega
          obtain ⟨bb, o, hA, hlt, hcell⟩ := row_host HRH.out hkx
          have hgd : c.hosts.getD k2 default = c.hosts[k2] := by rw [List.getD_eq_getElem?_getD, List.getElem?_eq_getElem hkx]; rfl
          have hs := Lib.hid (show Cfg.hostsOk c (k2 + 1) = Cfg.hostOk c.hosts[k2] by rw [Cfg.hostsOk_succ, hq.out, hgd]; rfl)
          have hf := Lib.hid (fun e => hosts_false (c := c) (k := k2 + 1) (by omega) e)
          obtain ⟨d0, d1, d2, d3, d4, d5⟩ := hcell wr hbr
          subst hA
          have hne : ¬ bb = wr.heap.size := by have := hbr.size; omega
          have hne2 : ¬ w1.heap.size = wr.heap.size := by omega
          generalize c.hosts[k2] = x at *
          obtain ⟨f, b, r, ⟨y0, y1, y2⟩⟩ := x
          have hio := Lib.hid (hostOk_iff f b r y0 y1 y2)
          have gv := Lib.hid (VecW.grvalid ⟨y0, y1, y2⟩)
          generalize Vec.valid ⟨y0, y1, y2⟩ = V at *
          unfold Vec.V.val at gv
          simp only at d0 d1 d2 d3 d4 d5
          rw [HM.out] at hf
          clear hgd hkx hcell
          by_cases e0 : f < 0
          · have g0 : decide (f < 0) = true := by simpa using e0
            have hno := Lib.hid (HNO.out (.inr (.inr (hf.out (by rw [hs.out, hio.out]; simp; intros; omega)))))
            go_wp2_with fail
            go_ret
            exact ⟨ret_int hno.out.symm, hbr.alloc hbr.size _⟩
          have g0 : decide (f < 0) = false := by simpa using e0
          by_cases e1 : 100 < f
          · have g1 : decide (100 < f) = true := by simpa using e1
            have hno := Lib.hid (HNO.out (.inr (.inr (hf.out (by rw [hs.out, hio.out]; simp; intros; omega)))))
            go_wp2_with fail
            go_ret
            exact ⟨ret_int hno.out.symm, hbr.alloc hbr.size _⟩
          have g1 : decide (100 < f) = false := by simpa using e1
          by_cases e2 : b < 0
          · have g2 : decide (b < 0) = true := by simpa using e2
            have hno := Lib.hid (HNO.out (.inr (.inr (hf.out (by rw [hs.out, hio.out]; simp; intros; omega)))))
            go_wp2_with fail
            go_ret
            exact ⟨ret_int hno.out.symm, hbr.alloc hbr.size _⟩
          have g2 : decide (b < 0) = false := by simpa using e2
          by_cases e3 : 100 < b
          · have g3 : decide (100 < b) = true := by simpa using e3
            have hno := Lib.hid (HNO.out (.inr (.inr (hf.out (by rw [hs.out, hio.out]; simp; intros; omega)))))
            go_wp2_with fail
            go_ret
            exact ⟨ret_int hno.out.symm, hbr.alloc hbr.size _⟩
          have g3 : decide (100 < b) = false := by simpa using e3
          by_cases e4 : r < 0
          · have g4 : decide (r < 0) = true := by simpa using e4
            have hno := Lib.hid (HNO.out (.inr (.inr (hf.out (by rw [hs.out, hio.out]; simp; intros; omega)))))
            go_wp2_with fail
            go_ret
            exact ⟨ret_int hno.out.symm, hbr.alloc hbr.size _⟩
          have g4 : decide (r < 0) = false := by simpa using e4
          by_cases e5 : 100 < r
          · have g5 : decide (100 < r) = true := by simpa using e5
            have hno := Lib.hid (HNO.out (.inr (.inr (hf.out (by rw [hs.out, hio.out]; simp; intros; omega)))))
            go_wp2_with fail
            go_ret
            exact ⟨ret_int hno.out.symm, hbr.alloc hbr.size _⟩
          have g5 : decide (100 < r) = false := by simpa using e5
          have hok := Lib.hid (show Cfg.hostOk ⟨f, b, r, ⟨y0, y1, y2⟩⟩ = V by rw [hio.out]; simp; intros; omega)
          have hba : Below w1.heap.size w1 (wr.alloc (.cells #[.int .i64 f, .int .i64 b, .int .i64 r, .int .i64 y0, .int .i64 y1, .int .i64 y2] 80)) := hbr.alloc hbr.size _
          have hxa := HX.out.on (w' := wr.alloc (.cells #[.int .i64 f, .int .i64 b, .int .i64 r, .int .i64 y0, .int .i64 y1, .int .i64 y2] 80)) ((Below.refl _ _).alloc (Nat.le_refl _) _)
          have HXA := Lib.hid hxa
          clear hxa
          go_wp2_with fail
          refine (gv.out _).mono ?_
          rintro e w3 ⟨rfl, hb3⟩
          have hb4 := keeps_trans hba hb3
          have hx4 := HXA.out.on hb3
          clear hbr hb3 x0 x1 x2 x3 d0 d1 d2 d3 d4 d5 hba
          cases V
          · have hno := Lib.hid (HNO.out (.inr (.inr (hf.out (by rw [hs.out, hok.out])))))
            go_wp2_with fail
            go_ret
            exact ⟨ret_int hno.out.symm, hb4⟩
          · go_wp2_with fail
            go_roundw
            case rel => exact ⟨k2 + 1, by go_num, by omega, Lib.hid (by rw [hs.out, hok.out]), hb4, hx4⟩
            case measure => simp [intOf]; omega
        · have hyes := Lib.hid (HYES.out HS.out HNB.out (by have := hq.out; rwa [show k2 = M by omega] at this))
          have hkM : M ≤ k2 := by omega
          clear hkn hq
          go_wp2_with fail
          go_ret
          exact ⟨ret_int hyes.out.symm, hbr⟩
end Go.Proofs.Ytbfpljnfalopdaa.CfgW
