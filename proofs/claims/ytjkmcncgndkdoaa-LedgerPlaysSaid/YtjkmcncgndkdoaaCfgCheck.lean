/-
  May a configuration be? The contracts of config.Check and of its reference.
-/
import Derived.Test.YtjkmcncgndkdoaaCfgRefNode
import Derived.Outline
set_option linter.unusedVariables false
set_option linter.unusedSimpArgs false
namespace Go.Proofs.Ytjkmcncgndkdoaa.CfgW
open Go.RowKit Go.Proofs.Ytjkmcncgndkdoaa.L

theorem row_host {w : World} {A : Option Addr} {xs : List Cfg.Host} (h : RowOf w A 6 hdec xs) {k : Nat} (hk : k < xs.length) : ∃ b o, A = some ⟨b, o, none⟩ ∧ b < w.heap.size ∧ ∀ w', Below w.heap.size w w' →
    (w'.cell? ⟨b, o + k * 6, none⟩ = some (.int .i64 xs[k].flavor) ∧ w'.cell? ⟨b, o + k * 6 + 1, none⟩ = some (.int .i64 xs[k].block) ∧ w'.cell? ⟨b, o + k * 6 + 2, none⟩ = some (.int .i64 xs[k].rack) ∧
      w'.cell? ⟨b, o + k * 6 + 3, none⟩ = some (.int .i64 xs[k].cap.x) ∧ w'.cell? ⟨b, o + k * 6 + 4, none⟩ = some (.int .i64 xs[k].cap.y) ∧ w'.cell? ⟨b, o + k * 6 + 5, none⟩ = some (.int .i64 xs[k].cap.z)) := by
  obtain ⟨b, o, rfl, hlt, hc⟩ := h (by intro e; subst e; simp at hk)
  have hx := List.getElem?_eq_getElem hk
  refine ⟨b, o, rfl, hlt, fun w' hb => ?_⟩
  have key : ∀ j v, (hdec xs[k])[j]? = some v → w'.cell? ⟨b, o + k * 6 + j, none⟩ = some v := fun j v hv => (hb.cell (p := ⟨b, o + k * 6 + j, none⟩) hlt).trans (hc k xs[k] hx j v hv)
  exact ⟨key 0 _ rfl, key 1 _ rfl, key 2 _ rfl, key 3 _ rfl, key 4 _ rfl, key 5 _ rfl⟩

/-- The configuration in a box of its own. -/
def CBox (w : World) (b : Nat) (v1 v2 : Value) (h a : Int) : Prop := b < w.heap.size ∧ w.cell? ⟨b, 0, none⟩ = some v1 ∧ w.cell? ⟨b, 1, none⟩ = some v2 ∧ w.cell? ⟨b, 2, none⟩ = some (.int .i64 h) ∧ w.cell? ⟨b, 3, none⟩ = some (.int .i64 a)
theorem CBox.on {w w' : World} {b : Nat} {v1 v2 : Value} {h a : Int} (x : CBox w b v1 v2 h a) (hb : Below w.heap.size w w') : CBox w' b v1 v2 h a :=
  ⟨Nat.lt_of_lt_of_le x.1 hb.size, (hb.cell (p := ⟨b, 0, none⟩) x.1).trans x.2.1, (hb.cell (p := ⟨b, 1, none⟩) x.1).trans x.2.2.1, (hb.cell (p := ⟨b, 2, none⟩) x.1).trans x.2.2.2.1, (hb.cell (p := ⟨b, 3, none⟩) x.1).trans x.2.2.2.2⟩
theorem CBox.new (w : World) (v1 v2 : Value) (h a : Int) : CBox (w.alloc (.cells #[v1, v2, .int .i64 h, .int .i64 a] 25)) w.heap.size v1 v2 h a := ⟨by simp, by simp [go_sem], by simp [go_sem], by simp [go_sem], by simp [go_sem]⟩

theorem nodes_false {c : Cfg.C} {k : Nat} (hk : k ≤ c.nodes.length) (h : Cfg.nodesOk c k = false) : Cfg.nodesOk c c.nodes.length = false := by
  rw [Bool.eq_false_iff] at h ⊢
  exact fun e => h (Cfg.nodesOk_le e hk)
theorem hostsOk_le {c : Cfg.C} {n k : Nat} (h : Cfg.hostsOk c n = true) (hk : k ≤ n) : Cfg.hostsOk c k = true := by
  unfold Cfg.hostsOk at *
  rw [List.all_eq_true] at *
  intro i hi
  exact h i (by simp at hi ⊢; omega)
theorem hosts_false {c : Cfg.C} {k : Nat} (hk : k ≤ c.hosts.length) (h : Cfg.hostsOk c k = false) : Cfg.hostsOk c c.hosts.length = false := by
  rw [Bool.eq_false_iff] at h ⊢
  exact fun e => h (hostsOk_le e hk)
theorem check_of (c : Cfg.C) (S n h : Bool) (h1 : Cfg.sizesOk c = S) (h2 : Cfg.nodesOk c c.nodes.length = n) (h3 : Cfg.hostsOk c c.hosts.length = h) : Cfg.check c = if S && (n && h) then 0 else 2 := by
  unfold Cfg.check Cfg.ok
  rw [h1, h2, h3]

set_option maxRecDepth 100000 in
set_option maxHeartbeats 4000000 in
theorem check_any {w : World} {v : Value} {c : Cfg.C} (hc : CfgAt w v c) : GivesAt Try.prog w 17 #[v] (.int .i64 (Cfg.check c)) := by
  intro w1 hb1
  replace hc := hc.below hb1
  clear hb1
  have HCF := Lib.hid hc
  obtain ⟨v1, v2, rfl, ⟨A, ca, rfl, hr, hl⟩, ⟨B, cb, rfl, hr2, hl2⟩⟩ := id hc
  have HRH := Lib.hid hr2
  have HCK := Lib.hid (check_of c)
  have hsz : Hid (Cfg.sizesOk c = (Cfg.between (c.nodes.length : Int) 1 12 && (Cfg.between (c.hosts.length : Int) 1 24 && (Cfg.between c.half 1 1048576 && Cfg.between c.age 0 1048576)))) := Lib.hid rfl
  have gN := Lib.hid (fun k hk => node_any hc k hk)
  obtain ⟨N, hN⟩ : ∃ N, c.nodes.length = N := ⟨_, rfl⟩
  obtain ⟨M, hM⟩ : ∃ M, c.hosts.length = M := ⟨_, rfl⟩
  have HN := Lib.hid hN
  have HM := Lib.hid hM
  rw [hN, hM] at hsz
  rw [hN] at gN hl
  rw [hM] at gN hl2
  rw [hN, hM]
  rw [hN, hM] at HCF HCK
  have g1 := Lib.hid (between_any (N : Int) 1 12)
  have g2 := Lib.hid (between_any (M : Int) 1 24)
  have g3 := Lib.hid (between_any c.half 1 1048576)
  have g4 := Lib.hid (between_any c.age 0 1048576)
  obtain ⟨b1, hb1⟩ : ∃ b, Cfg.between (N : Int) 1 12 = b := ⟨_, rfl⟩
  obtain ⟨b2, hb2⟩ : ∃ b, Cfg.between (M : Int) 1 24 = b := ⟨_, rfl⟩
  obtain ⟨b3, hb3⟩ : ∃ b, Cfg.between c.half 1 1048576 = b := ⟨_, rfl⟩
  obtain ⟨b4, hb4⟩ : ∃ b, Cfg.between c.age 0 1048576 = b := ⟨_, rfl⟩
  rw [hb1, hb2, hb3, hb4] at hsz
  rw [hb1] at g1
  rw [hb2] at g2
  rw [hb3] at g3
  rw [hb4] at g4
  obtain ⟨half, hhalf⟩ : ∃ z, c.half = z := ⟨_, rfl⟩
  obtain ⟨age, hage⟩ : ∃ z, c.age = z := ⟨_, rfl⟩
  rw [hhalf] at g3 gN HCF ⊢
  rw [hage] at g4 gN HCF ⊢
  unfold maxLen at hl hl2
  obtain ⟨R, hR⟩ : ∃ R, Cfg.check c = R := ⟨_, rfl⟩
  rw [hR]
  have HR := Lib.hid hR
  clear hR hr hr2 hN hM hb1 hb2 hb3 hb4 hhalf hage hc
  go_enter Try.func17, Try.ntmps17
  go_wp2_with fail
  refine (g1.out _).mono ?_
  rintro e wq ⟨rfl, rfl⟩
  cases b1
  · go_wp2_with fail
    refine wp_loop_rounds 1 ?_
    rw [rounds_succ]
    go_wp2_with fail
    refine wp_loop_rounds 1 ?_
    rw [rounds_succ]
    go_wp2_with fail
    go_ret
    exact ⟨ret_int (by rw [← HR.out, HCK.out _ _ _ hsz.out rfl rfl]; simp), by (repeat' (first | (with_reducible exact Below.refl _ _) | (with_reducible assumption) | (with_reducible refine Below.alloc ?_ ?_ _) | (with_reducible refine Go.Proofs.Ytjkmcncgndkdoaa.L.below_drewN ?_ _) | (with_reducible refine Below.drew ?_) | (with_reducible refine Below.setCell ?_ ?_ _) | (with_reducible refine Below.frame ?_ _) | go_size))⟩
  go_wp2_with fail
  refine (g2.out _).mono ?_
  rintro e wq ⟨rfl, rfl⟩
  cases b2
  · go_wp2_with fail
    refine wp_loop_rounds 1 ?_
    rw [rounds_succ]
    go_wp2_with fail
    refine wp_loop_rounds 1 ?_
    rw [rounds_succ]
    go_wp2_with fail
    go_ret
    exact ⟨ret_int (by rw [← HR.out, HCK.out _ _ _ hsz.out rfl rfl]; simp), by (repeat' (first | (with_reducible exact Below.refl _ _) | (with_reducible assumption) | (with_reducible refine Below.alloc ?_ ?_ _) | (with_reducible refine Go.Proofs.Ytjkmcncgndkdoaa.L.below_drewN ?_ _) | (with_reducible refine Below.drew ?_) | (with_reducible refine Below.setCell ?_ ?_ _) | (with_reducible refine Below.frame ?_ _) | go_size))⟩
  go_wp2_with fail
  refine (g3.out _).mono ?_
  rintro e wq ⟨rfl, rfl⟩
  cases b3
  · go_wp2_with fail
    refine wp_loop_rounds 1 ?_
    rw [rounds_succ]
    go_wp2_with fail
    refine wp_loop_rounds 1 ?_
    rw [rounds_succ]
    go_wp2_with fail
    go_ret
    exact ⟨ret_int (by rw [← HR.out, HCK.out _ _ _ hsz.out rfl rfl]; simp), by (repeat' (first | (with_reducible exact Below.refl _ _) | (with_reducible assumption) | (with_reducible refine Below.alloc ?_ ?_ _) | (with_reducible refine Go.Proofs.Ytjkmcncgndkdoaa.L.below_drewN ?_ _) | (with_reducible refine Below.drew ?_) | (with_reducible refine Below.setCell ?_ ?_ _) | (with_reducible refine Below.frame ?_ _) | go_size))⟩
  go_wp2_with fail
  refine (g4.out _).mono ?_
  rintro e wq ⟨rfl, rfl⟩
  cases b4
  · go_wp2_with fail
    refine wp_loop_rounds 1 ?_
    rw [rounds_succ]
    go_wp2_with fail
    refine wp_loop_rounds 1 ?_
    rw [rounds_succ]
    go_wp2_with fail
    go_ret
    exact ⟨ret_int (by rw [← HR.out, HCK.out _ _ _ hsz.out rfl rfl]; simp), by (repeat' (first | (with_reducible exact Below.refl _ _) | (with_reducible assumption) | (with_reducible refine Below.alloc ?_ ?_ _) | (with_reducible refine Go.Proofs.Ytjkmcncgndkdoaa.L.below_drewN ?_ _) | (with_reducible refine Below.drew ?_) | (with_reducible refine Below.setCell ?_ ?_ _) | (with_reducible refine Below.frame ?_ _) | go_size))⟩
  have hbx := CBox.new w1 (.slice A N ca) (.slice B M cb) half age
  have hbw : Below w1.heap.size w1 (w1.alloc (.cells #[.slice A N ca, .slice B M cb, .int .i64 half, .int .i64 age] 25)) := (Below.refl _ _).alloc (Nat.le_refl _) _
  have HS : Hid (Cfg.sizesOk c = true) := Lib.hid (by rw [hsz.out]; rfl)
  clear g1 g2 g3 g4 hsz
  go_upto_block 0 with fail
  go_cut [3] (fun s wx => s = .bool (Cfg.nodesOk c N) ∧ Below w1.heap.size w1 wx ∧ CBox wx w1.heap.size (.slice A N ca) (.slice B M cb) half age)
  case first =>
    go_wp2_with fail
    go_loopw [3, 4] (fun s i wr => ∃ k : Nat, i = .int .i64 (k : Int) ∧ k ≤ N ∧ s = .bool (Cfg.nodesOk c k) ∧ Below w1.heap.size w1 wr ∧ CBox wr w1.heap.size (.slice A N ca) (.slice B M cb) half age) (fun _ i _ => N - (intOf i).toNat)
    case atStart => exact ⟨0, rfl, by omega, rfl, hbw, hbx⟩
    case round =>
      obtain ⟨k, rfl, hk, rfl, hb, hx⟩ := hrel
      clear hbw hbx
      have HX := Lib.hid hx
      obtain ⟨hx0, x0, x1, x2, x3⟩ := hx
      cases hq : Cfg.nodesOk c k
      · have hf := Lib.hid (nodes_false (c := c) (by rw [HN.out]; exact hk) hq)
        clear hq
        go_wp2_with fail
        go_meet
        exact ⟨by rw [← HN.out, hf.out], hb, HX.out⟩
      · by_cases hkn : k < N
        · have hs := Lib.hid (show Cfg.nodesOk c (k + 1) = Cfg.nodeOk c k (c.nodes.getD k default) by rw [Cfg.nodesOk_succ, hq]; rfl)
          have gn := Lib.hid (gN.out k hkn)
          generalize Cfg.nodeOk c k (c.nodes.getD k default) = q at *
          clear hq
          go_wp2_with fail
          refine (gn.out _ hb).mono ?_
          rintro e w3 ⟨rfl, hb3⟩
          have hb4 := keeps_trans hb hb3
          have hx4 := HX.out.on hb3
          clear hb hb3 x0 x1 x2 x3 gn
          go_wp2_with fail
          go_roundw
          case rel => exact ⟨k + 1, by go_num, by omega, by rw [hs.out], hb4, hx4⟩
          case measure => simp [intOf]; omega
        · have hkN : N ≤ k := by omega
          have HQ := Lib.hid hq
          have hkk : Hid (k = N) := Lib.hid (by omega)
          clear hq
          go_wp2_with fail
          go_meet
          exact ⟨by rw [← hkk.out, HQ.out], hb, HX.out⟩
  case rest =>
    obtain ⟨rfl, hb, hx⟩ := hcut
    clear hbw hbx gN
    obtain ⟨nb, hnb⟩ : ∃ b, Cfg.nodesOk c N = b := ⟨_, rfl⟩
    have HNB := Lib.hid hnb
    rw [hnb]
    clear hnb
    cases nb
    · have HX := Lib.hid hx
      obtain ⟨hx0, x0, x1, x2, x3⟩ := hx
      go_wp2_with fail
      refine wp_loop_rounds 1 ?_
      rw [rounds_succ]
      go_wp2_with fail
      go_ret
      exact ⟨ret_int (by rw [← HR.out, HCK.out _ _ _ HS.out HNB.out rfl]; simp), hb⟩
    go_upto_block 2 with fail
    go_cut [3] (fun s wx => s = .bool (Cfg.hostsOk c M) ∧ Below w1.heap.size w1 wx)
    case first =>
      go_wp2_with fail
      go_loopw [3, 5] (fun s i wr => ∃ k : Nat, i = .int .i64 (k : Int) ∧ k ≤ M ∧ s = .bool (Cfg.hostsOk c k) ∧ Below w1.heap.size w1 wr ∧ CBox wr w1.heap.size (.slice A N ca) (.slice B M cb) half age) (fun _ i _ => M - (intOf i).toNat)
      case atStart => exact ⟨0, rfl, by omega, rfl, hb, hx⟩
      case round =>
        obtain ⟨k, rfl, hk, rfl, hbr, hxr⟩ := hrel
        clear hb hx
        have HX := Lib.hid hxr
        obtain ⟨hx0, x0, x1, x2, x3⟩ := hxr
        cases hq : Cfg.hostsOk c k
        · have hf := Lib.hid (hosts_false (c := c) (by rw [HM.out]; exact hk) hq)
          clear hq
          go_wp2_with fail
          go_meet
          exact ⟨by rw [← HM.out, hf.out], hbr⟩
        · by_cases hkn : k < M
          · have hkx : k < c.hosts.length := by have := HM.out; omega
            obtain ⟨bb, o, hA, hlt, hcell⟩ := row_host HRH.out hkx
            have hgd : c.hosts.getD k default = c.hosts[k] := by rw [List.getD_eq_getElem?_getD, List.getElem?_eq_getElem hkx]; rfl
            have hs := Lib.hid (show Cfg.hostsOk c (k + 1) = Cfg.hostOk c.hosts[k] by rw [Cfg.hostsOk_succ, hq, hgd]; rfl)
            have gh := Lib.hid (ghost_any c.hosts[k])
            obtain ⟨d0, d1, d2, d3, d4, d5⟩ := hcell wr hbr
            subst hA
            generalize c.hosts[k] = x at *
            generalize Cfg.hostOk x = q at *
            unfold hval at gh
            clear hq hgd hkx hcell
            go_wp2_with fail
            refine (gh.out _).mono ?_
            rintro e w3 ⟨rfl, hb3⟩
            have hb4 := keeps_trans hbr hb3
            have hx4 := HX.out.on hb3
            clear hbr hb3 x0 x1 x2 x3 gh d0 d1 d2 d3 d4 d5
            go_wp2_with fail
            go_roundw
            case rel => exact ⟨k + 1, by go_num, by omega, by rw [hs.out], hb4, hx4⟩
            case measure => simp [intOf]; omega
          · have hkN : M ≤ k := by omega
            have HQ := Lib.hid hq
            have hkk : Hid (k = M) := Lib.hid (by omega)
            clear hq
            go_wp2_with fail
            go_meet
            exact ⟨by rw [← hkk.out, HQ.out], hbr⟩
    case rest =>
      obtain ⟨rfl, hb2⟩ := hcut
      clear hx hb
      obtain ⟨hb', hhb⟩ : ∃ b, Cfg.hostsOk c M = b := ⟨_, rfl⟩
      have HHB := Lib.hid hhb
      rw [hhb]
      clear hhb
      cases hb'
      · go_wp2_with fail
        go_ret
        exact ⟨ret_int (by rw [← HR.out, HCK.out _ _ _ HS.out HNB.out HHB.out]; simp), hb2⟩
      · go_wp2_with fail
        go_ret
        exact ⟨ret_int (by rw [← HR.out, HCK.out _ _ _ HS.out HNB.out HHB.out]; simp), hb2⟩
end Go.Proofs.Ytjkmcncgndkdoaa.CfgW
