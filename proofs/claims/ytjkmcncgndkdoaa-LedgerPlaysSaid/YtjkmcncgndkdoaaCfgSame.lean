/-
  Are two configurations the same? The contracts of config.Same, of what it calls, and of its reference.
-/
import Derived.Test.YtjkmcncgndkdoaaCfgRefCheck
set_option linter.unusedVariables false
set_option linter.unusedSimpArgs false
namespace Go.Proofs.Ytjkmcncgndkdoaa.CfgW
open Go.RowKit Go.Proofs.Ytjkmcncgndkdoaa.L

def sameNs : List Cfg.Node → List Cfg.Node → Bool
  | [], [] => true
  | x :: xs, y :: ys => Cfg.sameN x y && sameNs xs ys
  | _, _ => false
theorem sameNs_iff : ∀ xs ys, sameNs xs ys = true ↔ xs = ys
  | [], [] => by simp [sameNs]
  | [], y :: ys => by simp [sameNs]
  | x :: xs, [] => by simp [sameNs]
  | x :: xs, y :: ys => by simp [sameNs, Cfg.sameN_iff, sameNs_iff xs ys]
def sameHs : List Cfg.Host → List Cfg.Host → Bool
  | [], [] => true
  | x :: xs, y :: ys => Cfg.sameH x y && sameHs xs ys
  | _, _ => false
theorem sameHs_iff : ∀ xs ys, sameHs xs ys = true ↔ xs = ys
  | [], [] => by simp [sameHs]
  | [], y :: ys => by simp [sameHs]
  | x :: xs, [] => by simp [sameHs]
  | x :: xs, y :: ys => by simp [sameHs, Cfg.sameH_iff, sameHs_iff xs ys]
theorem sameNs_no {xs ys : List Cfg.Node} (h : xs ≠ ys) : sameNs xs ys = false := by rw [Bool.eq_false_iff]; exact fun e => h ((sameNs_iff xs ys).1 e)
theorem sameHs_no {xs ys : List Cfg.Host} (h : xs ≠ ys) : sameHs xs ys = false := by rw [Bool.eq_false_iff]; exact fun e => h ((sameHs_iff xs ys).1 e)
theorem sameNs_self (xs : List Cfg.Node) : sameNs xs xs = true := (sameNs_iff xs xs).2 rfl
theorem sameHs_self (xs : List Cfg.Host) : sameHs xs xs = true := (sameHs_iff xs xs).2 rfl
theorem ne_at {α : Type} {xs ys : List α} {k : Nat} (h1 : k < xs.length) (h2 : k < ys.length) (h : xs[k] ≠ ys[k]) : xs ≠ ys := fun e => h (by subst e; rfl)
theorem take_eq {α : Type} {xs ys : List α} {k : Nat} (h : xs.take k = ys.take k) (h1 : xs.length ≤ k) (h2 : ys.length ≤ k) : xs = ys := by rwa [List.take_of_length_le h1, List.take_of_length_le h2] at h
theorem take_next {α : Type} {xs ys : List α} {k : Nat} (h1 : k < xs.length) (h2 : k < ys.length) (h : xs.take k = ys.take k) (e : xs[k] = ys[k]) : xs.take (k + 1) = ys.take (k + 1) := by
  rw [List.take_add_one, List.take_add_one, h, List.getElem?_eq_getElem h1, List.getElem?_eq_getElem h2, e]

set_option maxRecDepth 100000 in
set_option maxHeartbeats 4000000 in
theorem equaln_any {w : World} {va vb : Value} {xs ys : List Cfg.Node} (ha : Nodes w va xs) (hb : Nodes w vb ys) :
    Calls Try.prog 52 #[va, vb] w fun e w' => e = .returned (.bool (sameNs xs ys)) ∧ ∃ m, w' = w.drewN m := by
  obtain ⟨A, ca, rfl, ha, hla⟩ := ha
  obtain ⟨B, cb, rfl, hb, hlb⟩ := hb
  unfold maxLen at hla hlb
  have HA := Lib.hid ha
  have HB := Lib.hid hb
  obtain ⟨N, hN⟩ : ∃ N, xs.length = N := ⟨_, rfl⟩
  obtain ⟨M, hM⟩ : ∃ N, ys.length = N := ⟨_, rfl⟩
  have HN := Lib.hid hN
  have HM := Lib.hid hM
  rw [hN] at hla ⊢
  rw [hM] at hlb ⊢
  obtain ⟨R, hR⟩ : ∃ R, sameNs xs ys = R := ⟨_, rfl⟩
  rw [hR]
  have HR := Lib.hid hR
  clear ha hb hN hM hR
  go_enter Try.func52, Try.ntmps52
  by_cases hnm : N = M
  · subst hnm
    have ht : ((N : Int) != (N : Int)) = false := by simp
    go_wp2_with fail
    go_loopw [13] (fun i wr => ∃ j : Nat, i = .int .i64 (j : Int) ∧ j ≤ N ∧ Hid (xs.take j = ys.take j) ∧ ∃ m, wr = w.drewN m) (fun i _ => N - (intOf i).toNat)
    case atStart => exact ⟨0, rfl, by omega, Lib.hid (by simp), 0, rfl⟩
    case round =>
      obtain ⟨j, rfl, hj, HT, m, hm⟩ := hrel
      have Hm := Lib.hid hm
      have hwb : Below w.heap.size w wr := drewN_of hm
      clear hm
      by_cases hjn : j < N
      · have hja : j < xs.length := by rw [HN.out]; exact hjn
        have hjb : j < ys.length := by rw [HM.out]; exact hjn
        obtain ⟨ba, oa, rfl, hlt1, hc1⟩ := row_node HA.out hja
        obtain ⟨bb, ob, rfl, hlt2, hc2⟩ := row_node HB.out hjb
        obtain ⟨p0, p1, p2, p3, p4, p5, p6, p7, p8, p9, p10⟩ := hc1 wr hwb
        obtain ⟨q0, q1, q2, q3, q4, q5, q6, q7, q8, q9, q10⟩ := hc2 wr hwb
        have hne := Lib.hid (fun h => ne_at hja hjb h)
        have hnx := Lib.hid (fun e => take_next hja hjb HT.out e)
        generalize xs[j] = x at *
        generalize ys[j] = y at *
        clear hc1 hc2 hja hjb
        have hxy := Cfg.sameN_iff x y
        obtain ⟨x0, x1, ⟨x2, x3, x4⟩, ⟨x5, x6, x7⟩, ⟨x8, x9, x10⟩⟩ := x
        obtain ⟨y0, y1, ⟨y2, y3, y4⟩, ⟨y5, y6, y7⟩, ⟨y8, y9, y10⟩⟩ := y
        simp only at p0 p1 p2 p3 p4 p5 p6 p7 p8 p9 p10 q0 q1 q2 q3 q4 q5 q6 q7 q8 q9 q10
        have HXY := Lib.hid hxy
        obtain ⟨s, hs⟩ : ∃ s, Cfg.sameN ⟨x0, x1, ⟨x2, x3, x4⟩, ⟨x5, x6, x7⟩, ⟨x8, x9, x10⟩⟩ ⟨y0, y1, ⟨y2, y3, y4⟩, ⟨y5, y6, y7⟩, ⟨y8, y9, y10⟩⟩ = s := ⟨_, rfl⟩
        clear hxy
        cases s
        · have hfin := Lib.hid (show R = false by rw [← HR.out]; exact sameNs_no (hne.out (fun e => by have := HXY.out.2 e; rw [hs] at this; cases this)))
          go_wp2_with fail
          go_quiet (fail)
          go_wp2_with fail
          go_ret
          exact ⟨ret_bool hfin.out.symm, _, by rw [Hm.out]; exact World.drewN_drewN _ _ _⟩
        · have hnx2 := Lib.hid (hnx.out (HXY.out.1 hs))
          go_wp2_with fail
          go_quiet (fail)
          go_wp2_with fail
          go_roundw
          case rel => exact ⟨j + 1, by go_num, by omega, hnx2, _, by rw [Hm.out]; exact World.drewN_drewN _ _ _⟩
          case measure => simp [intOf]; omega
      · have hfin := Lib.hid (show R = true by rw [← HR.out]; exact (sameNs_iff _ _).2 (take_eq HT.out (by have := HN.out; omega) (by have := HM.out; omega)))
        have hjn2 : N ≤ j := by omega
        clear hjn
        go_wp2_with fail
        go_ret
        exact ⟨ret_bool hfin.out.symm, m, Hm.out⟩
  · have ht : ((N : Int) != (M : Int)) = true := by rw [bne_iff_ne]; omega
    have hfin := Lib.hid (show R = false by rw [← HR.out]; exact sameNs_no (fun e => hnm (by rw [← HN.out, ← HM.out, e])))
    clear hnm
    go_wp2_with fail
    go_ret
    exact ⟨ret_bool hfin.out.symm, 0, rfl⟩
set_option maxRecDepth 100000 in
set_option maxHeartbeats 4000000 in
theorem equalh_any {w : World} {va vb : Value} {xs ys : List Cfg.Host} (ha : Hosts w va xs) (hb : Hosts w vb ys) :
    Calls Try.prog 53 #[va, vb] w fun e w' => e = .returned (.bool (sameHs xs ys)) ∧ ∃ m, w' = w.drewN m := by
  obtain ⟨A, ca, rfl, ha, hla⟩ := ha
  obtain ⟨B, cb, rfl, hb, hlb⟩ := hb
  unfold maxLen at hla hlb
  have HA := Lib.hid ha
  have HB := Lib.hid hb
  obtain ⟨N, hN⟩ : ∃ N, xs.length = N := ⟨_, rfl⟩
  obtain ⟨M, hM⟩ : ∃ N, ys.length = N := ⟨_, rfl⟩
  have HN := Lib.hid hN
  have HM := Lib.hid hM
  rw [hN] at hla ⊢
  rw [hM] at hlb ⊢
  obtain ⟨R, hR⟩ : ∃ R, sameHs xs ys = R := ⟨_, rfl⟩
  rw [hR]
  have HR := Lib.hid hR
  clear ha hb hN hM hR
  go_enter Try.func53, Try.ntmps53
  by_cases hnm : N = M
  · subst hnm
    have ht : ((N : Int) != (N : Int)) = false := by simp
    go_wp2_with fail
    go_loopw [13] (fun i wr => ∃ j : Nat, i = .int .i64 (j : Int) ∧ j ≤ N ∧ Hid (xs.take j = ys.take j) ∧ ∃ m, wr = w.drewN m) (fun i _ => N - (intOf i).toNat)
    case atStart => exact ⟨0, rfl, by omega, Lib.hid (by simp), 0, rfl⟩
    case round =>
      obtain ⟨j, rfl, hj, HT, m, hm⟩ := hrel
      have Hm := Lib.hid hm
      have hwb : Below w.heap.size w wr := drewN_of hm
      clear hm
      by_cases hjn : j < N
      · have hja : j < xs.length := by rw [HN.out]; exact hjn
        have hjb : j < ys.length := by rw [HM.out]; exact hjn
        obtain ⟨ba, oa, rfl, hlt1, hc1⟩ := row_host HA.out hja
        obtain ⟨bb, ob, rfl, hlt2, hc2⟩ := row_host HB.out hjb
        obtain ⟨p0, p1, p2, p3, p4, p5⟩ := hc1 wr hwb
        obtain ⟨q0, q1, q2, q3, q4, q5⟩ := hc2 wr hwb
        have hne := Lib.hid (fun h => ne_at hja hjb h)
        have hnx := Lib.hid (fun e => take_next hja hjb HT.out e)
        generalize xs[j] = x at *
        generalize ys[j] = y at *
        clear hc1 hc2 hja hjb
        have hxy := Cfg.sameH_iff x y
        obtain ⟨x0, x1, x2, ⟨x3, x4, x5⟩⟩ := x
        obtain ⟨y0, y1, y2, ⟨y3, y4, y5⟩⟩ := y
        simp only at p0 p1 p2 p3 p4 p5 q0 q1 q2 q3 q4 q5
        have HXY := Lib.hid hxy
        obtain ⟨s, hs⟩ : ∃ s, Cfg.sameH ⟨x0, x1, x2, ⟨x3, x4, x5⟩⟩ ⟨y0, y1, y2, ⟨y3, y4, y5⟩⟩ = s := ⟨_, rfl⟩
        clear hxy
        cases s
        · have hfin := Lib.hid (show R = false by rw [← HR.out]; exact sameHs_no (hne.out (fun e => by have := HXY.out.2 e; rw [hs] at this; cases this)))
          go_wp2_with fail
          go_quiet (fail)
          go_wp2_with fail
          go_ret
          exact ⟨ret_bool hfin.out.symm, _, by rw [Hm.out]; exact World.drewN_drewN _ _ _⟩
        · have hnx2 := Lib.hid (hnx.out (HXY.out.1 hs))
          go_wp2_with fail
          go_quiet (fail)
          go_wp2_with fail
          go_roundw
          case rel => exact ⟨j + 1, by go_num, by omega, hnx2, _, by rw [Hm.out]; exact World.drewN_drewN _ _ _⟩
          case measure => simp [intOf]; omega
      · have hfin := Lib.hid (show R = true by rw [← HR.out]; exact (sameHs_iff _ _).2 (take_eq HT.out (by have := HN.out; omega) (by have := HM.out; omega)))
        have hjn2 : N ≤ j := by omega
        clear hjn
        go_wp2_with fail
        go_ret
        exact ⟨ret_bool hfin.out.symm, m, Hm.out⟩
  · have ht : ((N : Int) != (M : Int)) = true := by rw [bne_iff_ne]; omega
    have hfin := Lib.hid (show R = false by rw [← HR.out]; exact sameHs_no (fun e => hnm (by rw [← HN.out, ← HM.out, e])))
    clear hnm
    go_wp2_with fail
    go_ret
    exact ⟨ret_bool hfin.out.symm, 0, rfl⟩

def sameC (a b : Cfg.C) : Bool := sameNs a.nodes b.nodes && (sameHs a.hosts b.hosts && (a.half == b.half && a.age == b.age))
theorem sameC_self (a : Cfg.C) : sameC a a = true := by unfold sameC; simp [sameNs_self, sameHs_self]

set_option maxRecDepth 100000 in
set_option maxHeartbeats 4000000 in
theorem same_any {w : World} {va vb : Value} {a b : Cfg.C} (ha : CfgAt w va a) (hb : CfgAt w vb b) : GivesAt Try.prog w 19 #[va, vb] (.bool (sameC a b)) := by
  intro w1 hb1
  replace ha := ha.below hb1
  replace hb := hb.below hb1
  clear hb1
  obtain ⟨v1, v2, rfl, hn1, hh1⟩ := ha
  obtain ⟨u1, u2, rfl, hn2, hh2⟩ := hb
  have e1 := Lib.hid (fun w' (h : Below w1.heap.size w1 w') => equaln_any (hn1.below h) (hn2.below h))
  have e2 := Lib.hid (fun w' (h : Below w1.heap.size w1 w') => equalh_any (hh1.below h) (hh2.below h))
  obtain ⟨R, hR⟩ : ∃ R, sameC a b = R := ⟨_, rfl⟩
  rw [hR]
  have HR := Lib.hid hR
  unfold sameC at hR
  obtain ⟨s1, hs1⟩ : ∃ s, sameNs a.nodes b.nodes = s := ⟨_, rfl⟩
  obtain ⟨s2, hs2⟩ : ∃ s, sameHs a.hosts b.hosts = s := ⟨_, rfl⟩
  rw [hs1, hs2] at hR
  rw [hs1] at e1
  rw [hs2] at e2
  obtain ⟨A1, c1, rfl, -, -⟩ := hn1
  obtain ⟨A2, c2, rfl, -, -⟩ := hn2
  obtain ⟨A3, c3, rfl, -, -⟩ := hh1
  obtain ⟨A4, c4, rfl, -, -⟩ := hh2
  have HRR := Lib.hid hR
  clear hs1 hs2 hR HR
  generalize a.half = x1 at *
  generalize b.half = y1 at *
  generalize a.age = x2 at *
  generalize b.age = y2 at *
  generalize a.nodes.length = n1 at *
  generalize b.nodes.length = n2 at *
  generalize a.hosts.length = n3 at *
  generalize b.hosts.length = n4 at *
  go_enter Try.func19, Try.ntmps19
  have b0 := CBox.new w1 (.slice A1 n1 c1) (.slice A3 n3 c3) x1 x2
  have b1 := CBox.new (w1.alloc (.cells #[.slice A1 n1 c1, .slice A3 n3 c3, .int .i64 x1, .int .i64 x2] 25)) (.slice A2 n2 c2) (.slice A4 n4 c4) y1 y2
  replace b0 := b0.on (w' := (w1.alloc (.cells #[.slice A1 n1 c1, .slice A3 n3 c3, .int .i64 x1, .int .i64 x2] 25)).alloc (.cells #[.slice A2 n2 c2, .slice A4 n4 c4, .int .i64 y1, .int .i64 y2] 25)) ((Below.refl _ _).alloc (Nat.le_refl _) _)
  have HB0 := Lib.hid b0
  have HB1 := Lib.hid b1
  clear b0 b1
  go_wp2_with fail
  refine (e1.out _ (by (repeat' (first | (with_reducible exact Below.refl _ _) | (with_reducible assumption) | (with_reducible refine Below.alloc ?_ ?_ _) | (with_reducible refine Go.Proofs.Ytjkmcncgndkdoaa.L.below_drewN ?_ _) | (with_reducible refine Below.drew ?_) | (with_reducible refine Below.setCell ?_ ?_ _) | (with_reducible refine Below.frame ?_ _) | go_size)))).mono ?_
  rintro e w2 ⟨rfl, m, hw2⟩
  have hbx := drewN_of hw2
  have hbw := keeps_trans (a := w1) (by (repeat' (first | (with_reducible exact Below.refl _ _) | (with_reducible assumption) | (with_reducible refine Below.alloc ?_ ?_ _) | (with_reducible refine Go.Proofs.Ytjkmcncgndkdoaa.L.below_drewN ?_ _) | (with_reducible refine Below.drew ?_) | (with_reducible refine Below.setCell ?_ ?_ _) | (with_reducible refine Below.frame ?_ _) | go_size))) hbx
  have k0 := HB0.out.on hbx
  have k1 := HB1.out.on hbx
  simp only [World.size_alloc] at k1
  clear hw2 hbx
  cases s1
  · go_wp2_with fail
    go_ret
    exact ⟨ret_bool (by rw [← HRR.out]; rfl), hbw⟩
  have K0 := Lib.hid k0
  have K1 := Lib.hid k1
  obtain ⟨l0, z0, z1, z2, z3⟩ := k0
  obtain ⟨l1, q0, q1, q2, q3⟩ := k1
  go_wp2_with fail
  refine (e2.out _ hbw).mono ?_
  rintro e w3 ⟨rfl, m3, hw3⟩
  have hbx := drewN_of hw3
  replace hbw := keeps_trans hbw hbx
  clear l0 z0 z1 z2 z3 l1 q0 q1 q2 q3 hw3
  obtain ⟨l0, z0, z1, z2, z3⟩ := K0.out.on hbx
  obtain ⟨l1, q0, q1, q2, q3⟩ := K1.out.on hbx
  clear hbx
  cases s2
  · go_wp2_with fail
    go_ret
    exact ⟨ret_bool (by rw [← HRR.out]; rfl), hbw⟩
  cases t1 : x1 == y1
  · have HT1 := Lib.hid t1
    go_wp2_with fail
    go_ret
    exact ⟨ret_bool (by rw [← HRR.out, HT1.out]; rfl), hbw⟩
  have HT1 := Lib.hid t1
  go_wp2_with fail
  go_ret
  exact ⟨ret_bool (by rw [← HRR.out, HT1.out]; rfl), hbw⟩
end Go.Proofs.Ytjkmcncgndkdoaa.CfgW
