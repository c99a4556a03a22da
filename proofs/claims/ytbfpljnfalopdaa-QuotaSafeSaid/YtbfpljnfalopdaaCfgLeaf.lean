/-
  Is a node a tenant? The contracts of config.Leaf and of its reference.
-/
import Derived.Test.YtbfpljnfalopdaaCfgWalk
set_option linter.unusedVariables false
set_option linter.unusedSimpArgs false
namespace Go.Proofs.Ytbfpljnfalopdaa.CfgW
open Go.RowKit Go.Proofs.Ytbfpljnfalopdaa.L

def IdxEnd (P : Bool) (w : World) (e : Ending) (w' : World) : Prop := ∃ r : Int, e = .returned (.int .i64 r) ∧ decide (0 ≤ r) = P ∧ Below w.heap.size w w'
theorem any_take (xs : List Cfg.Node) (n : Int) (k : Nat) (h : k < xs.length) : (xs.take (k + 1)).any (fun x => x.parent == n) = ((xs.take k).any (fun x => x.parent == n) || (xs[k].parent == n)) := by
  rw [List.take_add_one, List.getElem?_eq_getElem h, List.any_append]
  simp only [Option.toList_some, List.any_cons, List.any_nil, Bool.or_false]
theorem any_at {xs : List Cfg.Node} {n : Int} {k : Nat} (h : k < xs.length) (e : xs[k].parent = n) : xs.any (fun x => x.parent == n) = true := by
  rw [List.any_eq_true]
  exact ⟨xs[k], List.getElem_mem h, by simpa using e⟩

set_option maxRecDepth 100000 in
set_option maxHeartbeats 1000000 in
theorem index_any {v : Value} {xs : List Cfg.Node} (n : Int) (b : Nat) (w : World) (hv : Nodes w v xs) (hb : b < w.heap.size) (hc : w.cell? ⟨b, 0, none⟩ = some (.int .i64 n)) :
    Calls Try.prog 73 #[v, .func (.func 55) #[] #[.pointer (some ⟨b, 0, none⟩)]] w fun e w' => IdxEnd (xs.any fun x => x.parent == n) w e w' := by
  obtain ⟨A, cap, rfl, hr, hl⟩ := hv
  unfold maxLen at hl
  have HR := Lib.hid hr
  have HC := Lib.hid hc
  obtain ⟨N, hN⟩ : ∃ N, xs.length = N := ⟨_, rfl⟩
  have HN := Lib.hid hN
  rw [hN] at hl ⊢
  clear hr hc hN
  go_enter Try.func73, Try.ntmps73
  go_wp2_with fail
  go_loopw [8] (fun i wr => ∃ k : Nat, i = .int .i64 (k : Int) ∧ k ≤ N ∧ Hid ((xs.take k).any (fun x => x.parent == n) = false) ∧ Below w.heap.size w wr) (fun i _ => N - (intOf i).toNat)
  case atStart => exact ⟨0, rfl, by omega, Lib.hid (by simp), Below.refl _ _⟩
  case round =>
    obtain ⟨k, rfl, hk, HF, hbw⟩ := hrel
    by_cases hkn : k < N
    · have hkx : k < xs.length := by have := HN.out; omega
      obtain ⟨bb, o, rfl, hlt, hcell⟩ := row_node HR.out hkx
      have hat := hcell wr hbw
      have hst := Lib.hid (any_take xs n k hkx)
      have hyes := Lib.hid (fun e => any_at (n := n) hkx e)
      generalize xs[k] = x at *
      have hbr : b < wr.heap.size := Nat.lt_of_lt_of_le hb hbw.size
      have hcr : wr.cell? ⟨b, 0, none⟩ = some (.int .i64 n) := (hbw.cell (p := ⟨b, 0, none⟩) hb).trans HC.out
      have hclo := Lib.hid (clo_any x n b wr hbr hcr)
      obtain ⟨c0, c1, c2, c3, c4, c5, c6, c7, c8, c9, c10⟩ := hat
      unfold nval at hclo
      clear hcell hkx hcr hbr
      by_cases hx : x.parent = n
      · have hb1 : (x.parent == n) = true := by simpa using hx
        rw [hb1] at hclo
        have hy := Lib.hid (hyes.out hx)
        clear hx hb1
        go_wp2_with fail
        refine (hclo.out).mono ?_
        rintro e w2 ⟨rfl, hb2⟩
        have hbw2 := hbw.trans (hb2.mono hbw.size)
        clear hb2 hbw hclo c0 c1 c2 c3 c4 c5 c6 c7 c8 c9 c10
        go_wp2_with fail
        go_ret
        exact ⟨k, rfl, by rw [hy.out]; simp, hbw2⟩
      · have hb1 : (x.parent == n) = false := by simpa using hx
        rw [hb1] at hclo
        have hno := Lib.hid (show (xs.take (k + 1)).any (fun x => x.parent == n) = false by rw [hst.out, HF.out, hb1]; rfl)
        clear hx hb1
        go_wp2_with fail
        refine (hclo.out).mono ?_
        rintro e w2 ⟨rfl, hb2⟩
        have hbw2 := hbw.trans (hb2.mono hbw.size)
        clear hb2 hbw hclo c0 c1 c2 c3 c4 c5 c6 c7 c8 c9 c10
        go_wp2_with fail
        go_roundw
        case rel => exact ⟨k + 1, by go_num, by omega, hno, hbw2⟩
        case measure => simp [intOf]; omega
    · have hfin := Lib.hid (show xs.any (fun x => x.parent == n) = false by have := HF.out; rwa [List.take_of_length_le (by have := HN.out; omega)] at this)
      have hkn2 : N ≤ k := by omega
      clear hkn
      go_wp2_with fail
      go_ret
      exact ⟨-1, rfl, by rw [hfin.out]; decide, hbw⟩

set_option maxHeartbeats 400000 in
theorem contains_any {v : Value} {xs : List Cfg.Node} (n : Int) (b : Nat) (w : World) (hv : Nodes w v xs) (hb : b < w.heap.size) (hc : w.cell? ⟨b, 0, none⟩ = some (.int .i64 n)) :
    Calls Try.prog 54 #[v, .func (.func 55) #[] #[.pointer (some ⟨b, 0, none⟩)]] w fun e w' => e = .returned (.bool (xs.any fun x => x.parent == n)) ∧ Below w.heap.size w w' := by
  have hi := Lib.hid (index_any n b w hv hb hc)
  generalize (xs.any fun x => x.parent == n) = r at *
  clear hv hc
  go_enter Try.func54, Try.ntmps54
  go_wp2_with fail
  refine (hi.out).mono ?_
  rintro e w1 ⟨q, rfl, hq, hb1⟩
  have HQ := Lib.hid hq
  clear hi hq
  go_wp2_with fail
  go_ret
  exact ⟨ret_bool HQ.out, hb1⟩

theorem leaf_eq (c : Cfg.C) (n : Int) : Cfg.leaf c n = (decide (0 ≤ n) && (decide (n < (c.nodes.length : Int)) && !(c.nodes.any fun x => x.parent == n))) := by
  unfold Cfg.leaf
  rw [Bool.and_assoc]
  congr 2
  rw [List.not_any_eq_all_not]
  rfl

set_option maxRecDepth 100000 in
set_option maxHeartbeats 1000000 in
theorem leaf_any {w : World} {v : Value} {c : Cfg.C} (hc : CfgAt w v c) (n : Int) : GivesAt Try.prog w 34 #[v, .int .i64 n] (.bool (Cfg.leaf c n)) := by
  intro w1 hb1
  replace hc := hc.below hb1
  clear hb1
  obtain ⟨v1, v2, rfl, hn, hh⟩ := hc
  obtain ⟨A, cap, rfl, hr, hl⟩ := id hn
  have HE := Lib.hid (leaf_eq c n)
  have HN := Lib.hid hn
  obtain ⟨N, hN⟩ : ∃ N, c.nodes.length = N := ⟨_, rfl⟩
  rw [hN] at HE HN hl ⊢
  unfold maxLen at hl
  clear hn hh hr hN
  by_cases h0 : 0 ≤ n
  · by_cases h1 : n < (N : Int)
    · have hct := Lib.hid (fun w2 (h : Nodes w2 (.slice A N cap) c.nodes) h2 h3 => contains_any n (w1.heap.size + 1) w2 h h2 h3)
      generalize (c.nodes.any fun x => x.parent == n) = r at *
      go_enter Try.func34, Try.ntmps34
      go_wp2_with fail
      refine (hct.out _ (HN.out.below (by (repeat' (first | (with_reducible exact Below.refl _ _) | (with_reducible assumption) | (with_reducible refine Below.alloc ?_ ?_ _) | (with_reducible refine Go.Proofs.Ytbfpljnfalopdaa.L.below_drewN ?_ _) | (with_reducible refine Below.drew ?_) | (with_reducible refine Below.setCell ?_ ?_ _) | (with_reducible refine Below.frame ?_ _) | go_size)))) (by simp) (by simp [go_sem])).mono ?_
      rintro e w2 ⟨rfl, hb2⟩
      have hbw := keeps_trans (a := w1) (by (repeat' (first | (with_reducible exact Below.refl _ _) | (with_reducible assumption) | (with_reducible refine Below.alloc ?_ ?_ _) | (with_reducible refine Go.Proofs.Ytbfpljnfalopdaa.L.below_drewN ?_ _) | (with_reducible refine Below.drew ?_) | (with_reducible refine Below.setCell ?_ ?_ _) | (with_reducible refine Below.frame ?_ _) | go_size))) hb2
      clear hb2 hct
      go_wp2_with fail
      go_ret
      exact ⟨ret_bool (by rw [HE.out]; simp [h0, h1]), hbw⟩
    · go_enter Try.func34, Try.ntmps34
      go_wp2_with fail
      go_ret
      exact ⟨ret_bool (by rw [HE.out, show decide (n < (N : Int)) = false by simpa using h1]; simp), by (repeat' (first | (with_reducible exact Below.refl _ _) | (with_reducible assumption) | (with_reducible refine Below.alloc ?_ ?_ _) | (with_reducible refine Go.Proofs.Ytbfpljnfalopdaa.L.below_drewN ?_ _) | (with_reducible refine Below.drew ?_) | (with_reducible refine Below.setCell ?_ ?_ _) | (with_reducible refine Below.frame ?_ _) | go_size))⟩
  · have h2 : decide (0 ≤ n) = false := by simpa using h0
    go_enter Try.func34, Try.ntmps34
    go_wp2_with fail
    go_ret
    exact ⟨ret_bool (by rw [HE.out, h2]; simp), by (repeat' (first | (with_reducible exact Below.refl _ _) | (with_reducible assumption) | (with_reducible refine Below.alloc ?_ ?_ _) | (with_reducible refine Go.Proofs.Ytbfpljnfalopdaa.L.below_drewN ?_ _) | (with_reducible refine Below.drew ?_) | (with_reducible refine Below.setCell ?_ ?_ _) | (with_reducible refine Below.frame ?_ _) | go_size))⟩

set_option maxRecDepth 100000 in
set_option maxHeartbeats 1000000 in
theorem rleaf_any {w : World} {v : Value} {c : Cfg.C} (hc : CfgAt w v c) (n : Int) : GivesAt Try.prog w 22 #[v, .int .i64 n] (.bool (Cfg.leaf c n)) := by
  intro w1 hb1
  replace hc := hc.below hb1
  clear hb1
  obtain ⟨v1, v2, rfl, ⟨A, cap, rfl, hr, hl⟩, hh⟩ := hc
  have HE := Lib.hid (leaf_eq c n)
  have HR := Lib.hid hr
  obtain ⟨N, hN⟩ : ∃ N, c.nodes.length = N := ⟨_, rfl⟩
  have HN := Lib.hid hN
  rw [hN] at HE hl ⊢
  unfold maxLen at hl
  clear hh hr hN
  by_cases h0 : n < 0
  · have h2 : decide (n < 0) = true := by simpa using h0
    go_enter Try.func22, Try.ntmps22
    go_wp2_with fail
    go_ret
    exact ⟨ret_bool (by rw [HE.out, show decide (0 ≤ n) = false by simpa using h0]; simp), by (repeat' (first | (with_reducible exact Below.refl _ _) | (with_reducible assumption) | (with_reducible refine Below.alloc ?_ ?_ _) | (with_reducible refine Go.Proofs.Ytbfpljnfalopdaa.L.below_drewN ?_ _) | (with_reducible refine Below.drew ?_) | (with_reducible refine Below.setCell ?_ ?_ _) | (with_reducible refine Below.frame ?_ _) | go_size))⟩
  · by_cases h1 : n < (N : Int)
    · have h3 : ¬ (N : Int) ≤ n := by omega
      go_enter Try.func22, Try.ntmps22
      go_wp2_with fail
      go_loop [5] (fun i => ∃ k : Nat, i = .int .i64 (k : Int) ∧ k ≤ N ∧ Hid ((c.nodes.take k).any (fun x => x.parent == n) = false)) (fun i => N - (intOf i).toNat)
      case atStart => exact ⟨0, rfl, by omega, Lib.hid (by simp)⟩
      case round =>
        obtain ⟨k, rfl, hk, HF⟩ := hrel
        by_cases hkn : k < N
        · have hkx : k < c.nodes.length := by have := HN.out; omega
          obtain ⟨bb, o, rfl, hlt, hcell⟩ := row_parent HR.out hkx
          have hat := hcell w1 (Below.refl _ _)
          have hne : ¬ bb = w1.heap.size := by omega
          have hst := Lib.hid (any_take c.nodes n k hkx)
          have hyes := Lib.hid (fun e => any_at (n := n) hkx e)
          generalize c.nodes[k].parent = y at *
          clear hcell hkx
          by_cases hx : y = n
          · have hy := Lib.hid (hyes.out hx)
            have hb1 : (y == n) = true := by simpa using hx
            clear hx
            go_wp2_with fail
            go_ret
            exact ⟨ret_bool (by rw [HE.out, hy.out]; simp), by (repeat' (first | (with_reducible exact Below.refl _ _) | (with_reducible assumption) | (with_reducible refine Below.alloc ?_ ?_ _) | (with_reducible refine Go.Proofs.Ytbfpljnfalopdaa.L.below_drewN ?_ _) | (with_reducible refine Below.drew ?_) | (with_reducible refine Below.setCell ?_ ?_ _) | (with_reducible refine Below.frame ?_ _) | go_size))⟩
          · have hb1 : (y == n) = false := by simpa using hx
            have hno := Lib.hid (show (c.nodes.take (k + 1)).any (fun x => x.parent == n) = false by rw [hst.out, HF.out, hb1]; rfl)
            clear hx
            go_wp2_with fail
            go_round
            case rel => exact ⟨k + 1, by go_num, by omega, hno⟩
            case measure => simp [intOf]; omega
        · have hfin := Lib.hid (show c.nodes.any (fun x => x.parent == n) = false by have := HF.out; rwa [List.take_of_length_le (by have := HN.out; omega)] at this)
          have hkn2 : N ≤ k := by omega
          clear hkn
          go_wp2_with fail
          go_ret
          exact ⟨ret_bool (by rw [HE.out, hfin.out, show decide (n < (N : Int)) = true by simpa using h1, show decide (0 ≤ n) = true by simpa using h0]; rfl), by (repeat' (first | (with_reducible exact Below.refl _ _) | (with_reducible assumption) | (with_reducible refine Below.alloc ?_ ?_ _) | (with_reducible refine Go.Proofs.Ytbfpljnfalopdaa.L.below_drewN ?_ _) | (with_reducible refine Below.drew ?_) | (with_reducible refine Below.setCell ?_ ?_ _) | (with_reducible refine Below.frame ?_ _) | go_size))⟩
    · go_enter Try.func22, Try.ntmps22
      go_wp2_with fail
      go_ret
      exact ⟨ret_bool (by rw [HE.out, show decide (n < (N : Int)) = false by simpa using h1]; simp), by (repeat' (first | (with_reducible exact Below.refl _ _) | (with_reducible assumption) | (with_reducible refine Below.alloc ?_ ?_ _) | (with_reducible refine Go.Proofs.Ytbfpljnfalopdaa.L.below_drewN ?_ _) | (with_reducible refine Below.drew ?_) | (with_reducible refine Below.setCell ?_ ?_ _) | (with_reducible refine Below.frame ?_ _) | go_size))⟩
end Go.Proofs.Ytbfpljnfalopdaa.CfgW
