/-
  Are two configurations the same? The contract of the reference's Config. Are a configuration's nodes and hosts few?
-/
import Derived.Test.YtjkmcncgndkdoaaCfgSame
set_option linter.unusedVariables false
set_option linter.unusedSimpArgs false
namespace Go.Proofs.Ytjkmcncgndkdoaa.CfgW
open Go.RowKit Go.Proofs.Ytjkmcncgndkdoaa.L

theorem sameC_false {a b : Cfg.C} (h : a.nodes ≠ b.nodes ∨ a.hosts ≠ b.hosts ∨ a.half ≠ b.half ∨ a.age ≠ b.age) : sameC a b = false := by
  unfold sameC
  rcases h with h | h | h | h
  · rw [sameNs_no h]; rfl
  · rw [sameHs_no h]; simp
  · rw [show (a.half == b.half) = false by simpa using h]; simp
  · rw [show (a.age == b.age) = false by simpa using h]; simp
theorem sameC_true {a b : Cfg.C} (h1 : a.nodes = b.nodes) (h2 : a.hosts = b.hosts) (h3 : a.half = b.half) (h4 : a.age = b.age) : sameC a b = true := by
  unfold sameC
  rw [h1, h2, h3, h4]
  simp [sameNs_self, sameHs_self]

set_option maxRecDepth 100000 in
set_option maxHeartbeats 8000000 in
theorem rsame_any {w : World} {va vb : Value} {a b : Cfg.C} (ha : CfgAt w va a) (hb : CfgAt w vb b) : GivesAt Try.prog w 20 #[va, vb] (.bool (sameC a b)) := by
  intro w1 hb1
  replace ha := ha.below hb1
  replace hb := hb.below hb1
  clear hb1
  obtain ⟨v1, v2, rfl, ⟨A1, c1, rfl, ra1, la1⟩, ⟨A3, c3, rfl, ra3, la3⟩⟩ := ha
  obtain ⟨u1, u2, rfl, ⟨A2, c2, rfl, ra2, la2⟩, ⟨A4, c4, rfl, ra4, la4⟩⟩ := hb
  have R1 := Lib.hid ra1
  have R2 := Lib.hid ra2
  have R3 := Lib.hid ra3
  have R4 := Lib.hid ra4
  have HNO := Lib.hid (fun h => sameC_false (a := a) (b := b) h)
  have HYES := Lib.hid (fun h1 h2 h3 h4 => sameC_true (a := a) (b := b) h1 h2 h3 h4)
  generalize sameC a b = R at *
  obtain ⟨n1, hn1⟩ : ∃ n, a.nodes.length = n := ⟨_, rfl⟩
  obtain ⟨n2, hn2⟩ : ∃ n, b.nodes.length = n := ⟨_, rfl⟩
  obtain ⟨n3, hn3⟩ : ∃ n, a.hosts.length = n := ⟨_, rfl⟩
  obtain ⟨n4, hn4⟩ : ∃ n, b.hosts.length = n := ⟨_, rfl⟩
  rw [hn1] at la1 ⊢
  rw [hn2] at la2 ⊢
  rw [hn3] at la3 ⊢
  rw [hn4] at la4 ⊢
  have N1 := Lib.hid hn1
  have N2 := Lib.hid hn2
  have N3 := Lib.hid hn3
  have N4 := Lib.hid hn4
  clear ra1 ra2 ra3 ra4 hn1 hn2 hn3 hn4
  unfold maxLen at la1 la2 la3 la4
  obtain ⟨x1, hx1⟩ : ∃ x, a.half = x := ⟨_, rfl⟩
  obtain ⟨y1, hy1⟩ : ∃ x, b.half = x := ⟨_, rfl⟩
  obtain ⟨x2, hx2⟩ : ∃ x, a.age = x := ⟨_, rfl⟩
  obtain ⟨y2, hy2⟩ : ∃ x, b.age = x := ⟨_, rfl⟩
  rw [hx1, hy1, hx2, hy2] at HNO HYES
  rw [hx1, hy1, hx2, hy2]
  clear hx1 hy1 hx2 hy2
  have b0 := CBox.new w1 (.slice A1 n1 c1) (.slice A3 n3 c3) x1 x2
  have b1 := CBox.new (w1.alloc (.cells #[.slice A1 n1 c1, .slice A3 n3 c3, .int .i64 x1, .int .i64 x2] 25)) (.slice A2 n2 c2) (.slice A4 n4 c4) y1 y2
  replace b0 := b0.on (w' := (w1.alloc (.cells #[.slice A1 n1 c1, .slice A3 n3 c3, .int .i64 x1, .int .i64 x2] 25)).alloc (.cells #[.slice A2 n2 c2, .slice A4 n4 c4, .int .i64 y1, .int .i64 y2] 25)) ((Below.refl _ _).alloc (Nat.le_refl _) _)
  rw [World.size_alloc] at b1
  have hbw : Below w1.heap.size w1 ((w1.alloc (.cells #[.slice A1 n1 c1, .slice A3 n3 c3, .int .i64 x1, .int .i64 x2] 25)).alloc (.cells #[.slice A2 n2 c2, .slice A4 n4 c4, .int .i64 y1, .int .i64 y2] 25)) := by (repeat' (first | (with_reducible exact Below.refl _ _) | (with_reducible assumption) | (with_reducible refine Below.alloc ?_ ?_ _) | (with_reducible refine Go.Proofs.Ytjkmcncgndkdoaa.L.below_drewN ?_ _) | (with_reducible refine Below.drew ?_) | (with_reducible refine Below.setCell ?_ ?_ _) | (with_reducible refine Below.frame ?_ _) | go_size))
  by_cases t0 : n1 = n2
  rotate_left
  · have d0 : ((n1 : Int) != (n2 : Int)) = true := by rw [bne_iff_ne]; omega
    have hfin := Lib.hid (HNO.out (.inl (fun e => t0 (by rw [← N1.out, ← N2.out, e]))))
    clear t0 b0 b1
    go_enter Try.func20, Try.ntmps20
    go_wp2_with fail
    go_ret
    exact ⟨ret_bool hfin.out.symm, hbw⟩
  have d0 : ((n1 : Int) != (n2 : Int)) = false := by simp [t0]
  have T0 := Lib.hid t0
  clear t0
  by_cases t1 : n3 = n4
  rotate_left
  · have d1 : ((n3 : Int) != (n4 : Int)) = true := by rw [bne_iff_ne]; omega
    have hfin := Lib.hid (HNO.out (.inr (.inl (fun e => t1 (by rw [← N3.out, ← N4.out, e])))))
    clear t1 b0 b1
    go_enter Try.func20, Try.ntmps20
    go_wp2_with fail
    go_ret
    exact ⟨ret_bool hfin.out.symm, hbw⟩
  have d1 : ((n3 : Int) != (n4 : Int)) = false := by simp [t1]
  have T1 := Lib.hid t1
  clear t1
  by_cases t2 : x1 = y1
  rotate_left
  · have d2 : ((x1 : Int) != (y1 : Int)) = true := by rw [bne_iff_ne]; exact t2
    have hfin := Lib.hid (HNO.out (.inr (.inr (.inl t2))))
    clear t2 b0 b1
    go_enter Try.func20, Try.ntmps20
    go_wp2_with fail
    go_ret
    exact ⟨ret_bool hfin.out.symm, hbw⟩
  have d2 : ((x1 : Int) != (y1 : Int)) = false := by simp [t2]
  have T2 := Lib.hid t2
  clear t2
  by_cases t3 : x2 = y2
  rotate_left
  · have d3 : ((x2 : Int) != (y2 : Int)) = true := by rw [bne_iff_ne]; exact t3
    have hfin := Lib.hid (HNO.out (.inr (.inr (.inr t3))))
    clear t3 b0 b1
    go_enter Try.func20, Try.ntmps20
    go_wp2_with fail
    go_ret
    exact ⟨ret_bool hfin.out.symm, hbw⟩
  have d3 : ((x2 : Int) != (y2 : Int)) = false := by simp [t3]
  have T3 := Lib.hid t3
  clear t3
  go_enter Try.func20, Try.ntmps20
  go_wp2_with fail
  go_loopw [5] (fun i wr => ∃ j : Nat, i = .int .i64 (j : Int) ∧ j ≤ n1 ∧ Hid (a.nodes.take j = b.nodes.take j) ∧ Below w1.heap.size w1 wr ∧ CBox wr w1.heap.size (.slice A1 n1 c1) (.slice A3 n3 c3) x1 x2 ∧ CBox wr (w1.heap.size + 1) (.slice A2 n2 c2) (.slice A4 n4 c4) y1 y2) (fun i _ => n1 - (intOf i).toNat)
  case atStart => exact ⟨0, rfl, by omega, Lib.hid (by simp), hbw, b0, b1⟩
  case round =>
    obtain ⟨j, rfl, hj, HT, hwr, k0, k1⟩ := hrel
    clear hbw b0 b1
    have K0 := Lib.hid k0
    have K1 := Lib.hid k1
    obtain ⟨l0, z0, z1, z2, z3⟩ := k0
    obtain ⟨l1, q0, q1, q2, q3⟩ := k1
    by_cases hjn : j < n1
    · have hja : j < a.nodes.length := by rw [N1.out]; exact hjn
      have hjb : j < b.nodes.length := by rw [N2.out, ← T0.out]; exact hjn
      obtain ⟨ba, oa, hA, hlt1, hc1⟩ := row_node R1.out hja
      obtain ⟨bb, ob, hB, hlt2, hc2⟩ := row_node R2.out hjb
      obtain ⟨p0, p1, p2, p3, p4, p5, p6, p7, p8, p9, p10⟩ := hc1 wr hwr
      obtain ⟨r0, r1, r2, r3, r4, r5, r6, r7, r8, r9, r10⟩ := hc2 wr hwr
      have hne := Lib.hid (fun h => ne_at hja hjb h)
      have hnx := Lib.hid (fun e => take_next hja hjb HT.out e)
      subst hA
      subst hB
      generalize a.nodes[j] = x at *
      generalize b.nodes[j] = y at *
      clear hc1 hc2 hja hjb
      have HXY := Lib.hid (Cfg.sameN_iff x y)
      obtain ⟨e0, e1, ⟨e2, e3, e4⟩, ⟨e5, e6, e7⟩, ⟨e8, e9, e10⟩⟩ := x
      obtain ⟨f0, f1, ⟨f2, f3, f4⟩, ⟨f5, f6, f7⟩, ⟨f8, f9, f10⟩⟩ := y
      simp only at p0 p1 p2 p3 p4 p5 p6 p7 p8 p9 p10 r0 r1 r2 r3 r4 r5 r6 r7 r8 r9 r10
      obtain ⟨s, hs⟩ : ∃ s, Cfg.sameN ⟨e0, e1, ⟨e2, e3, e4⟩, ⟨e5, e6, e7⟩, ⟨e8, e9, e10⟩⟩ ⟨f0, f1, ⟨f2, f3, f4⟩, ⟨f5, f6, f7⟩, ⟨f8, f9, f10⟩⟩ = s := ⟨_, rfl⟩
      have hjd : decide (j < n1) = true := by simpa using hjn
      have hjm : j < n2 := by have := T0.out; omega
      cases s
      · have hfin := Lib.hid (HNO.out (.inl (hne.out (fun e => by have := HXY.out.2 e; rw [hs] at this; cases this))))
        go_wp2_with fail
        go_quiet (fail)
        go_wp2_with fail
        go_ret
        exact ⟨ret_bool hfin.out.symm, below_drewN hwr _⟩
      · have hnx2 := Lib.hid (hnx.out (HXY.out.1 hs))
        go_wp2_with fail
        go_quiet (fail)
        go_wp2_with fail
        go_roundw
        case rel => exact ⟨j + 1, by go_num, by omega, hnx2, below_drewN hwr _, K0.out.on (drewN_of rfl), K1.out.on (drewN_of rfl)⟩
        case measure => simp [intOf]; omega
    · have hjd : decide (j < n1) = false := by simpa using hjn
      have HE1 := Lib.hid (take_eq HT.out (by have := N1.out; omega) (by have := N2.out; have := T0.out; omega))
      have hjn2 : n1 ≤ j := by omega
      clear hjn
      have hwr0 := hwr
      go_wp2_with fail
      go_loopw [6] (fun i wr => ∃ j : Nat, i = .int .i64 (j : Int) ∧ j ≤ n3 ∧ Hid (a.hosts.take j = b.hosts.take j) ∧ Below w1.heap.size w1 wr ∧ CBox wr w1.heap.size (.slice A1 n1 c1) (.slice A3 n3 c3) x1 x2 ∧ CBox wr (w1.heap.size + 1) (.slice A2 n2 c2) (.slice A4 n4 c4) y1 y2) (fun i _ => n3 - (intOf i).toNat)
      case atStart => exact ⟨0, rfl, by omega, Lib.hid (by simp), hwr, K0.out, K1.out⟩
      case round =>
        obtain ⟨j, rfl, hj, HT, hwr, k0, k1⟩ := hrel
        clear hwr0 l0 z0 z1 z2 z3 l1 q0 q1 q2 q3 K0 K1
        have K0 := Lib.hid k0
        have K1 := Lib.hid k1
        obtain ⟨l0, z0, z1, z2, z3⟩ := k0
        obtain ⟨l1, q0, q1, q2, q3⟩ := k1
        by_cases hjn : j < n3
        · have hja : j < a.hosts.length := by rw [N3.out]; exact hjn
          have hjb : j < b.hosts.length := by rw [N4.out, ← T1.out]; exact hjn
          obtain ⟨ba, oa, hA, hlt1, hc1⟩ := row_host R3.out hja
          obtain ⟨bb, ob, hB, hlt2, hc2⟩ := row_host R4.out hjb
          obtain ⟨p0, p1, p2, p3, p4, p5⟩ := hc1 wr hwr
          obtain ⟨r0, r1, r2, r3, r4, r5⟩ := hc2 wr hwr
          have hne := Lib.hid (fun h => ne_at hja hjb h)
          have hnx := Lib.hid (fun e => take_next hja hjb HT.out e)
          subst hA
          subst hB
          generalize a.hosts[j] = x at *
          generalize b.hosts[j] = y at *
          clear hc1 hc2 hja hjb
          have HXY := Lib.hid (Cfg.sameH_iff x y)
          obtain ⟨e0, e1, e2, ⟨e3, e4, e5⟩⟩ := x
          obtain ⟨f0, f1, f2, ⟨f3, f4, f5⟩⟩ := y
          simp only at p0 p1 p2 p3 p4 p5 r0 r1 r2 r3 r4 r5
          obtain ⟨s, hs⟩ : ∃ s, Cfg.sameH ⟨e0, e1, e2, ⟨e3, e4, e5⟩⟩ ⟨f0, f1, f2, ⟨f3, f4, f5⟩⟩ = s := ⟨_, rfl⟩
          have hjd : decide (j < n3) = true := by simpa using hjn
          have hjm : j < n4 := by have := T1.out; omega
          cases s
          · have hfin := Lib.hid (HNO.out (.inr <| .inl (hne.out (fun e => by have := HXY.out.2 e; rw [hs] at this; cases this))))
            go_wp2_with fail
            go_quiet (fail)
            go_wp2_with fail
            go_ret
            exact ⟨ret_bool hfin.out.symm, below_drewN hwr _⟩
          · have hnx2 := Lib.hid (hnx.out (HXY.out.1 hs))
            go_wp2_with fail
            go_quiet (fail)
            go_wp2_with fail
            go_roundw
            case rel => exact ⟨j + 1, by go_num, by omega, hnx2, below_drewN hwr _, K0.out.on (drewN_of rfl), K1.out.on (drewN_of rfl)⟩
            case measure => simp [intOf]; omega
        · have hjd : decide (j < n3) = false := by simpa using hjn
          have HE2 := Lib.hid (take_eq HT.out (by have := N3.out; omega) (by have := N4.out; have := T1.out; omega))
          have hjn2 : n3 ≤ j := by omega
          clear hjn
          have hfin := Lib.hid (HYES.out HE1.out HE2.out T2.out T3.out)
          go_wp2_with fail
          go_ret
          exact ⟨ret_bool hfin.out.symm, hwr⟩

theorem few_any {w : World} {v : Value} {c : Cfg.C} (hc : CfgAt w v c) : GivesAt Try.prog w 15 #[v] (.bool (decide (c.nodes.length ≤ 300) && decide (c.hosts.length ≤ 2000))) := by
  intro w1 hb1
  obtain ⟨v1, v2, rfl, ⟨A1, c1, rfl, -, la1⟩, ⟨A3, c3, rfl, -, la3⟩⟩ := hc.below hb1
  generalize c.nodes.length = n at *
  generalize c.hosts.length = m at *
  unfold maxLen at la1 la3
  by_cases h1 : n ≤ 300
  · have d1 : decide ((n : Int) ≤ 300) = true := by simp; omega
    go_enter Try.func15, Try.ntmps15
    go_wp2_with fail
    go_ret
    exact ⟨ret_bool (by rw [decide_eq_true h1, Bool.true_and]; exact decide_eq_decide.2 (by omega)), by (repeat' (first | (with_reducible exact Below.refl _ _) | (with_reducible assumption) | (with_reducible refine Below.alloc ?_ ?_ _) | (with_reducible refine Go.Proofs.Ytjkmcncgndkdoaa.L.below_drewN ?_ _) | (with_reducible refine Below.drew ?_) | (with_reducible refine Below.setCell ?_ ?_ _) | (with_reducible refine Below.frame ?_ _) | go_size))⟩
  · have d1 : decide ((n : Int) ≤ 300) = false := by simp; omega
    go_enter Try.func15, Try.ntmps15
    go_wp2_with fail
    go_ret
    exact ⟨ret_bool (by simp [h1]), by (repeat' (first | (with_reducible exact Below.refl _ _) | (with_reducible assumption) | (with_reducible refine Below.alloc ?_ ?_ _) | (with_reducible refine Go.Proofs.Ytjkmcncgndkdoaa.L.below_drewN ?_ _) | (with_reducible refine Below.drew ?_) | (with_reducible refine Below.setCell ?_ ?_ _) | (with_reducible refine Below.frame ?_ _) | go_size))⟩
end Go.Proofs.Ytjkmcncgndkdoaa.CfgW
