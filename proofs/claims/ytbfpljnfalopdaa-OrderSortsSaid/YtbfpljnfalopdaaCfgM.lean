/-
  Merged texts: CfgLeaf, CfgEq, CfgNode, CfgRefNode, CfgCheck, CfgRefCheck, CfgSame, CfgRefSame.
-/
import Derived.Test.YtbfpljnfalopdaaCfgWalk
import Derived.Laws.StructEq
import Derived.Outline
/-
  Is a node a tenant? The contracts of config.Leaf and of its reference.
-/
set_option linter.unusedVariables false
set_option linter.unusedSimpArgs false
namespace Go.Proofs.Ytbfpljnfalopdaa.CfgW
open Go.RowKit Go.Proofs.Ytbfpljnfalopdaa.L

def IdxEnd (P : Bool) (w : World) (e : Ending) (w' : World) : Prop := ∃ r : Int, e = .returned (.int .i64 r) ∧ decide (0 ≤ r) = P ∧ Below w.heap.size w w'
theorem any_take (xs : List Cfg.Node) (n : Int) (k : Nat) (h : k < xs.length) : (xs.take (k + 1)).any (fun x => x.parent == n) = ((xs.take k).any (fun x => x.parent == n) || (xs[k].parent == n)) := by
  rw [List.take_add_one, List.getElem?_eq_getElem h, List.any_append]
  simp only [Option.toList_some, List.any_cons, List.any_nil, Bool.or_false]
theorem any_at {xs : List Cfg.Node} {n : Int} {k : Nat} (h : k < xs.length) (e : xs[k].parent = n) : xs.any (fun x => x.parent == n) = true := by
  rw [List.any_eq_true]
  exact ⟨xs[k], List.getElem_mem h, by simpa using e⟩

set_option maxRecDepth 100000 in
set_option maxHeartbeats 1000000 in
theorem index_any {v : Value} {xs : List Cfg.Node} (n : Int) (b : Nat) (w : World) (hv : Nodes w v xs) (hb : b < w.heap.size) (hc : w.cell? ⟨b, 0, none⟩ = some (.int .i64 n)) :
    Calls Try.prog 73 #[v, .func (.func 55) #[] #[.pointer (some ⟨b, 0, none⟩)]] w fun e w' => IdxEnd (xs.any fun x => x.parent == n) w e w' := by
  obtain ⟨A, cap, rfl, hr, hl⟩ := hv
  unfold maxLen at hl
  have HR := Lib.hid hr
  have HC := Lib.hid hc
  obtain ⟨N, hN⟩ : ∃ N, xs.length = N := ⟨_, rfl⟩
  have HN := Lib.hid hN
  rw [hN] at hl ⊢
  clear hr hc hN
  go_enter Try.func73, Try.ntmps73
  go_wp2_with fail
  go_loopw [8] (fun i wr => ∃ k : Nat, i = .int .i64 (k : Int) ∧ k ≤ N ∧ Hid ((xs.take k).any (fun x => x.parent == n) = false) ∧ Below w.heap.size w wr) (fun i _ => N - (intOf i).toNat)
  case atStart => exact ⟨0, rfl, by omega, Lib.hid (by simp), Below.refl _ _⟩
  case round =>
    obtain ⟨k, rfl, hk, HF, hbw⟩ := hrel
    by_cases hkn : k < N
    · have hkx : k < xs.length := by have := HN.out; omega
      obtain ⟨bb, o, rfl, hlt, hcell⟩ := row_node HR.out hkx
      have hat := hcell wr hbw
      have hst := Lib.hid (any_take xs n k hkx)
      have hyes := Lib.hid (fun e => any_at (n := n) hkx e)
      generalize xs[k] = x at *
      have hbr : b < wr.heap.size := Nat.lt_of_lt_of_le hb hbw.size
      have hcr : wr.cell? ⟨b, 0, none⟩ = some (.int .i64 n) := (hbw.cell (p := ⟨b, 0, none⟩) hb).trans HC.out
      have hclo := Lib.hid (clo_any x n b wr hbr hcr)
      obtain ⟨c0, c1, c2, c3, c4, c5, c6, c7, c8, c9, c10⟩ := hat
      unfold nval at hclo
      clear hcell hkx hcr hbr
      by_cases hx : x.parent = n
      · have hb1 : (x.parent == n) = true := by simpa using hx
        rw [hb1] at hclo
        have hy := Lib.hid (hyes.out hx)
        clear hx hb1
        go_wp2_with fail
        refine (hclo.out).mono ?_
        rintro e w2 ⟨rfl, hb2⟩
        have hbw2 := hbw.trans (hb2.mono hbw.size)
        clear hb2 hbw hclo c0 c1 c2 c3 c4 c5 c6 c7 c8 c9 c10
        go_wp2_with fail
        go_ret
        exact ⟨k, rfl, by rw [hy.out]; simp, hbw2⟩
      · have hb1 : (x.parent == n) = false := by simpa using hx
        rw [hb1] at hclo
        have hno := Lib.hid (show (xs.take (k + 1)).any (fun x => x.parent == n) = false by rw [hst.out, HF.out, hb1]; rfl)
        clear hx hb1
        go_wp2_with fail
        refine (hclo.out).mono ?_
        rintro e w2 ⟨rfl, hb2⟩
        have hbw2 := hbw.trans (hb2.mono hbw.size)
        clear hb2 hbw hclo c0 c1 c2 c3 c4 c5 c6 c7 c8 c9 c10
        go_wp2_with fail
        go_roundw
        case rel => exact ⟨k + 1, by go_num, by omega, hno, hbw2⟩
        case measure => simp [intOf]; omega
    · have hfin := Lib.hid (show xs.any (fun x => x.parent == n) = false by have := HF.out; rwa [List.take_of_length_le (by have := HN.out; omega)] at this)
      have hkn2 : N ≤ k := by omega
      clear hkn
      go_wp2_with fail
      go_ret
      exact ⟨-1, rfl, by rw [hfin.out]; decide, hbw⟩

set_option maxHeartbeats 400000 in
theorem contains_any {v : Value} {xs : List Cfg.Node} (n : Int) (b : Nat) (w : World) (hv : Nodes w v xs) (hb : b < w.heap.size) (hc : w.cell? ⟨b, 0, none⟩ = some (.int .i64 n)) :
    Calls Try.prog 54 #[v, .func (.func 55) #[] #[.pointer (some ⟨b, 0, none⟩)]] w fun e w' => e = .returned (.bool (xs.any fun x => x.parent == n)) ∧ Below w.heap.size w w' := by
  have hi := Lib.hid (index_any n b w hv hb hc)
  generalize (xs.any fun x => x.parent == n) = r at *
  clear hv hc
  go_enter Try.func54, Try.ntmps54
  go_wp2_with fail
  refine (hi.out).mono ?_
  rintro e w1 ⟨q, rfl, hq, hb1⟩
  have HQ := Lib.hid hq
  clear hi hq
  go_wp2_with fail
  go_ret
  exact ⟨ret_bool HQ.out, hb1⟩

theorem leaf_eq (c : Cfg.C) (n : Int) : Cfg.leaf c n = (decide (0 ≤ n) && (decide (n < (c.nodes.length : Int)) && !(c.nodes.any fun x => x.parent == n))) := by
  unfold Cfg.leaf
  rw [Bool.and_assoc]
  congr 2
  rw [List.not_any_eq_all_not]
  rfl

set_option maxRecDepth 100000 in
set_option maxHeartbeats 1000000 in
theorem leaf_any {w : World} {v : Value} {c : Cfg.C} (hc : CfgAt w v c) (n : Int) : GivesAt Try.prog w 34 #[v, .int .i64 n] (.bool (Cfg.leaf c n)) := by
  intro w1 hb1
  replace hc := hc.below hb1
  clear hb1
  obtain ⟨v1, v2, rfl, hn, hh⟩ := hc
  obtain ⟨A, cap, rfl, hr, hl⟩ := id hn
  have HE := Lib.hid (leaf_eq c n)
  have HN := Lib.hid hn
  obtain ⟨N, hN⟩ : ∃ N, c.nodes.length = N := ⟨_, rfl⟩
  rw [hN] at HE HN hl ⊢
  unfold maxLen at hl
  clear hn hh hr hN
  by_cases h0 : 0 ≤ n
  · by_cases h1 : n < (N : Int)
    · have hct := Lib.hid (fun w2 (h : Nodes w2 (.slice A N cap) c.nodes) h2 h3 => contains_any n (w1.heap.size + 1) w2 h h2 h3)
      generalize (c.nodes.any fun x => x.parent == n) = r at *
      go_enter Try.func34, Try.ntmps34
      go_wp2_with fail
      refine (hct.out _ (HN.out.below (by (repeat' (first | (with_reducible exact Below.refl _ _) | (with_reducible assumption) | (with_reducible refine Below.alloc ?_ ?_ _) | (with_reducible refine Go.Proofs.Ytbfpljnfalopdaa.L.below_drewN ?_ _) | (with_reducible refine Below.drew ?_) | (with_reducible refine Below.setCell ?_ ?_ _) | (with_reducible refine Below.frame ?_ _) | go_size)))) (by simp) (by simp [go_sem])).mono ?_
      rintro e w2 ⟨rfl, hb2⟩
      have hbw := keeps_trans (a := w1) (by (repeat' (first | (with_reducible exact Below.refl _ _) | (with_reducible assumption) | (with_reducible refine Below.alloc ?_ ?_ _) | (with_reducible refine Go.Proofs.Ytbfpljnfalopdaa.L.below_drewN ?_ _) | (with_reducible refine Below.drew ?_) | (with_reducible refine Below.setCell ?_ ?_ _) | (with_reducible refine Below.frame ?_ _) | go_size))) hb2
      clear hb2 hct
      go_wp2_with fail
      go_ret
      exact ⟨ret_bool (by rw [HE.out]; simp [h0, h1]), hbw⟩
    · go_enter Try.func34, Try.ntmps34
      go_wp2_with fail
      go_ret
      exact ⟨ret_bool (by rw [HE.out, show decide (n < (N : Int)) = false by simpa using h1]; simp), by (repeat' (first | (with_reducible exact Below.refl _ _) | (with_reducible assumption) | (with_reducible refine Below.alloc ?_ ?_ _) | (with_reducible refine Go.Proofs.Ytbfpljnfalopdaa.L.below_drewN ?_ _) | (with_reducible refine Below.drew ?_) | (with_reducible refine Below.setCell ?_ ?_ _) | (with_reducible refine Below.frame ?_ _) | go_size))⟩
  · have h2 : decide (0 ≤ n) = false := by simpa using h0
    go_enter Try.func34, Try.ntmps34
    go_wp2_with fail
    go_ret
    exact ⟨ret_bool (by rw [HE.out, h2]; simp), by (repeat' (first | (with_reducible exact Below.refl _ _) | (with_reducible assumption) | (with_reducible refine Below.alloc ?_ ?_ _) | (with_reducible refine Go.Proofs.Ytbfpljnfalopdaa.L.below_drewN ?_ _) | (with_reducible refine Below.drew ?_) | (with_reducible refine Below.setCell ?_ ?_ _) | (with_reducible refine Below.frame ?_ _) | go_size))⟩

set_option maxRecDepth 100000 in
set_option maxHeartbeats 1000000 in
theorem rleaf_any {w : World} {v : Value} {c : Cfg.C} (hc : CfgAt w v c) (n : Int) : GivesAt Try.prog w 22 #[v, .int .i64 n] (.bool (Cfg.leaf c n)) := by
  intro w1 hb1
  replace hc := hc.below hb1
  clear hb1
  obtain ⟨v1, v2, rfl, ⟨A, cap, rfl, hr, hl⟩, hh⟩ := hc
  have HE := Lib.hid (leaf_eq c n)
  have HR := Lib.hid hr
  obtain ⟨N, hN⟩ : ∃ N, c.nodes.length = N := ⟨_, rfl⟩
  have HN := Lib.hid hN
  rw [hN] at HE hl ⊢
  unfold maxLen at hl
  clear hh hr hN
  by_cases h0 : n < 0
  · have h2 : decide (n < 0) = true := by simpa using h0
    go_enter Try.func22, Try.ntmps22
    go_wp2_with fail
    go_ret
    exact ⟨ret_bool (by rw [HE.out, show decide (0 ≤ n) = false by simpa using h0]; simp), by (repeat' (first | (with_reducible exact Below.refl _ _) | (with_reducible assumption) | (with_reducible refine Below.alloc ?_ ?_ _) | (with_reducible refine Go.Proofs.Ytbfpljnfalopdaa.L.below_drewN ?_ _) | (with_reducible refine Below.drew ?_) | (with_reducible refine Below.setCell ?_ ?_ _) | (with_reducible refine Below.frame ?_ _) | go_size))⟩
  · by_cases h1 : n < (N : Int)
    · have h3 : ¬ (N : Int) ≤ n := by omega
      go_enter Try.func22, Try.ntmps22
      go_wp2_with fail
      go_loop [5] (fun i => ∃ k : Nat, i = .int .i64 (k : Int) ∧ k ≤ N ∧ Hid ((c.nodes.take k).any (fun x => x.parent == n) = false)) (fun i => N - (intOf i).toNat)
      case atStart => exact ⟨0, rfl, by omega, Lib.hid (by simp)⟩
      case round =>
        obtain ⟨k, rfl, hk, HF⟩ := hrel
        by_cases hkn : k < N
        · have hkx : k < c.nodes.length := by have := HN.out; omega
          obtain ⟨bb, o, rfl, hlt, hcell⟩ := row_parent HR.out hkx
          have hat := hcell w1 (Below.refl _ _)
          have hne : ¬ bb = w1.heap.size := by omega
          have hst := Lib.hid (any_take c.nodes n k hkx)
          have hyes := Lib.hid (fun e => any_at (n := n) hkx e)
          generalize c.nodes[k].parent = y at *
          clear hcell hkx
          by_cases hx : y = n
          · have hy := Lib.hid (hyes.out hx)
            have hb1 : (y == n) = true := by simpa using hx
            clear hx
            go_wp2_with fail
            go_ret
            exact ⟨ret_bool (by rw [HE.out, hy.out]; simp), by (repeat' (first | (with_reducible exact Below.refl _ _) | (with_reducible assumption) | (with_reducible refine Below.alloc ?_ ?_ _) | (with_reducible refine Go.Proofs.Ytbfpljnfalopdaa.L.below_drewN ?_ _) | (with_reducible refine Below.drew ?_) | (with_reducible refine Below.setCell ?_ ?_ _) | (with_reducible refine Below.frame ?_ _) | go_size))⟩
          · have hb1 : (y == n) = false := by simpa using hx
            have hno := Lib.hid (show (c.nodes.take (k + 1)).any (fun x => x.parent == n) = false by rw [hst.out, HF.out, hb1]; rfl)
            clear hx
            go_wp2_with fail
            go_round
            case rel => exact ⟨k + 1, by go_num, by omega, hno⟩
            case measure => simp [intOf]; omega
        · have hfin := Lib.hid (show c.nodes.any (fun x => x.parent == n) = false by have := HF.out; rwa [List.take_of_length_le (by have := HN.out; omega)] at this)
          have hkn2 : N ≤ k := by omega
          clear hkn
          go_wp2_with fail
          go_ret
          exact ⟨ret_bool (by rw [HE.out, hfin.out, show decide (n < (N : Int)) = true by simpa using h1, show decide (0 ≤ n) = true by simpa using h0]; rfl), by (repeat' (first | (with_reducible exact Below.refl _ _) | (with_reducible assumption) | (with_reducible refine Below.alloc ?_ ?_ _) | (with_reducible refine Go.Proofs.Ytbfpljnfalopdaa.L.below_drewN ?_ _) | (with_reducible refine Below.drew ?_) | (with_reducible refine Below.setCell ?_ ?_ _) | (with_reducible refine Below.frame ?_ _) | go_size))⟩
    · go_enter Try.func22, Try.ntmps22
      go_wp2_with fail
      go_ret
      exact ⟨ret_bool (by rw [HE.out, show decide (n < (N : Int)) = false by simpa using h1]; simp), by (repeat' (first | (with_reducible exact Below.refl _ _) | (with_reducible assumption) | (with_reducible refine Below.alloc ?_ ?_ _) | (with_reducible refine Go.Proofs.Ytbfpljnfalopdaa.L.below_drewN ?_ _) | (with_reducible refine Below.drew ?_) | (with_reducible refine Below.setCell ?_ ?_ _) | (with_reducible refine Below.frame ?_ _) | go_size))⟩
end Go.Proofs.Ytbfpljnfalopdaa.CfgW
/-
  Amounts, nodes and hosts compared.
-/
set_option linter.unusedVariables false
set_option linter.unusedSimpArgs false
namespace Go.Proofs.Ytbfpljnfalopdaa.CfgW
open Go.RowKit Go.Proofs.Ytbfpljnfalopdaa.L

theorem part0 (x y z : Int) (w : World) : (part 3 #[Value.int .i64 x, .int .i64 y, .int .i64 z] 0).run Try.prog w = .ok (.int .i64 x) w := by kernel_rfl
theorem part1 (x y z : Int) (w : World) : (part 3 #[Value.int .i64 x, .int .i64 y, .int .i64 z] 1).run Try.prog w = .ok (.int .i64 y) w := by kernel_rfl
theorem part2 (x y z : Int) (w : World) : (part 3 #[Value.int .i64 x, .int .i64 y, .int .i64 z] 2).run Try.prog w = .ok (.int .i64 z) w := by kernel_rfl
theorem eqd (d : Nat) (x0 x1 x2 y0 y1 y2 : Int) (w : World) (hd : ∀ (a b : Int) (w : World), (Op.equalIn d 3 (.int .i64 a) (.int .i64 b)).run Try.prog w = .ok (a == b) w) :
    (Op.equalIn (d + 1) 29 (.agg #[.int .i64 x0, .int .i64 x1, .int .i64 x2]) (.agg #[.int .i64 y0, .int .i64 y1, .int .i64 y2])).run Try.prog w = .ok (Cfg.sameV ⟨x0, x1, x2⟩ ⟨y0, y1, y2⟩) w := by
  have hu : Try.prog.underlying 29 = some (.array 3 3) := by kernel_rfl
  by_cases h0 : x0 = y0 <;> by_cases h1 : x1 = y1 <;> by_cases h2 : x2 = y2 <;>
    simp [Cfg.sameV, Op.equalIn, Sem.run_bind, run_underlying hu, Result.andThen_ok, List.range', List.forIn_cons, part0, part1, part2, hd, h0, h1, h2, Sem.run_pure, Sem.run_ite]
theorem eqint (d : Nat) (a b : Int) (w : World) : (Op.equalIn (d + 1) 3 (.int .i64 a) (.int .i64 b)).run Try.prog w = .ok (a == b) w := run_equalIn_int w d 3 .i64 .i64 a b (by kernel_rfl)
theorem eqvec (d : Nat) (x0 x1 x2 y0 y1 y2 : Int) (w : World) : (Op.equalIn (d + 1 + 1) 29 (.agg #[.int .i64 x0, .int .i64 x1, .int .i64 x2]) (.agg #[.int .i64 y0, .int .i64 y1, .int .i64 y2])).run Try.prog w = .ok (Cfg.sameV ⟨x0, x1, x2⟩ ⟨y0, y1, y2⟩) w :=
  eqd (d + 1) x0 x1 x2 y0 y1 y2 w (fun a b w => eqint d a b w)
@[go_sem high] theorem eqv (x0 x1 x2 y0 y1 y2 : Int) (w : World) : (Op.equalIn 10000 29 (.agg #[.int .i64 x0, .int .i64 x1, .int .i64 x2]) (.agg #[.int .i64 y0, .int .i64 y1, .int .i64 y2])).run Try.prog w = .ok (Cfg.sameV ⟨x0, x1, x2⟩ ⟨y0, y1, y2⟩) w := eqvec 9998 x0 x1 x2 y0 y1 y2 w

section
variable (a0 a1 a2 a3 a4 a5 a6 a7 a8 a9 a10 b0 b1 b2 b3 b4 b5 b6 b7 b8 b9 b10 : Int) (w : World)
theorem npart0 : (part 3 #[Value.int .i64 a0, .int .i64 a1, .int .i64 a2, .int .i64 a3, .int .i64 a4, .int .i64 a5, .int .i64 a6, .int .i64 a7, .int .i64 a8, .int .i64 a9, .int .i64 a10] 0).run Try.prog w = .ok (.int .i64 a0) w := by kernel_rfl
theorem npart1 : (part 3 #[Value.int .i64 a0, .int .i64 a1, .int .i64 a2, .int .i64 a3, .int .i64 a4, .int .i64 a5, .int .i64 a6, .int .i64 a7, .int .i64 a8, .int .i64 a9, .int .i64 a10] 1).run Try.prog w = .ok (.int .i64 a1) w := by kernel_rfl
theorem npart2 : (part 29 #[Value.int .i64 a0, .int .i64 a1, .int .i64 a2, .int .i64 a3, .int .i64 a4, .int .i64 a5, .int .i64 a6, .int .i64 a7, .int .i64 a8, .int .i64 a9, .int .i64 a10] 2).run Try.prog w = .ok (.agg #[.int .i64 a2, .int .i64 a3, .int .i64 a4]) w := by kernel_rfl
theorem npart5 : (part 29 #[Value.int .i64 a0, .int .i64 a1, .int .i64 a2, .int .i64 a3, .int .i64 a4, .int .i64 a5, .int .i64 a6, .int .i64 a7, .int .i64 a8, .int .i64 a9, .int .i64 a10] 5).run Try.prog w = .ok (.agg #[.int .i64 a5, .int .i64 a6, .int .i64 a7]) w := by kernel_rfl
theorem npart8 : (part 29 #[Value.int .i64 a0, .int .i64 a1, .int .i64 a2, .int .i64 a3, .int .i64 a4, .int .i64 a5, .int .i64 a6, .int .i64 a7, .int .i64 a8, .int .i64 a9, .int .i64 a10] 8).run Try.prog w = .ok (.agg #[.int .i64 a8, .int .i64 a9, .int .i64 a10]) w := by kernel_rfl
theorem hpart2 : (part 3 #[Value.int .i64 a0, .int .i64 a1, .int .i64 a2, .int .i64 a3, .int .i64 a4, .int .i64 a5] 2).run Try.prog w = .ok (.int .i64 a2) w := by kernel_rfl
theorem hpart1 : (part 3 #[Value.int .i64 a0, .int .i64 a1, .int .i64 a2, .int .i64 a3, .int .i64 a4, .int .i64 a5] 1).run Try.prog w = .ok (.int .i64 a1) w := by kernel_rfl
theorem hpart0 : (part 3 #[Value.int .i64 a0, .int .i64 a1, .int .i64 a2, .int .i64 a3, .int .i64 a4, .int .i64 a5] 0).run Try.prog w = .ok (.int .i64 a0) w := by kernel_rfl
theorem hpart3 : (part 29 #[Value.int .i64 a0, .int .i64 a1, .int .i64 a2, .int .i64 a3, .int .i64 a4, .int .i64 a5] 3).run Try.prog w = .ok (.agg #[.int .i64 a3, .int .i64 a4, .int .i64 a5]) w := by kernel_rfl

@[go_sem high] theorem eqnode : (Op.equalIn 10000 42 (.agg #[.int .i64 a0, .int .i64 a1, .int .i64 a2, .int .i64 a3, .int .i64 a4, .int .i64 a5, .int .i64 a6, .int .i64 a7, .int .i64 a8, .int .i64 a9, .int .i64 a10]) (.agg #[.int .i64 b0, .int .i64 b1, .int .i64 b2, .int .i64 b3, .int .i64 b4, .int .i64 b5, .int .i64 b6, .int .i64 b7, .int .i64 b8, .int .i64 b9, .int .i64 b10])).run Try.prog w =
    .ok (Cfg.sameN ⟨a0, a1, ⟨a2, a3, a4⟩, ⟨a5, a6, a7⟩, ⟨a8, a9, a10⟩⟩ ⟨b0, b1, ⟨b2, b3, b4⟩, ⟨b5, b6, b7⟩, ⟨b8, b9, b10⟩⟩) w := by
  have hS : Try.prog.underlying 42 = some (.struct (Try.prog.fieldsOf 42)) := by kernel_rfl
  have hp : Try.prog.stoodInHeld 42 = false := by kernel_rfl
  rw [show (10000 : Nat) = 9999 + 1 from rfl, run_equalIn_agg w 9999 42 _ _ hS hp]
  simp only [Program.fieldsOf, Try.underlying42]
  have v1 := fun x0 x1 x2 y0 y1 y2 w => eqvec 9997 x0 x1 x2 y0 y1 y2 w
  have i1 := fun a b w => eqint 9998 a b w
  simp only [Op.eqFields, npart0, npart1, npart2, npart5, npart8, v1, i1, Sem.run_bind, Result.andThen_ok, Sem.run_pure, Sem.run_ite, Cfg.sameN]
  have n1 : ("Parent" : String) ≠ "_" := by decide
  have n2 : ("Weight" : String) ≠ "_" := by decide
  have n3 : ("Nominal" : String) ≠ "_" := by decide
  have n4 : ("Borrow" : String) ≠ "_" := by decide
  have n5 : ("Lend" : String) ≠ "_" := by decide
  simp only [n1, n2, n3, n4, n5, ne_eq, not_false_eq_true, if_true]
  generalize (a0 == b0) = t0
  generalize (a1 == b1) = t1
  generalize Cfg.sameV ⟨a2, a3, a4⟩ ⟨b2, b3, b4⟩ = t2
  generalize Cfg.sameV ⟨a5, a6, a7⟩ ⟨b5, b6, b7⟩ = t3
  generalize Cfg.sameV ⟨a8, a9, a10⟩ ⟨b8, b9, b10⟩ = t4
  cases t0 <;> cases t1 <;> cases t2 <;> cases t3 <;> cases t4 <;> rfl
@[go_sem high] theorem eqhost : (Op.equalIn 10000 80 (.agg #[.int .i64 a0, .int .i64 a1, .int .i64 a2, .int .i64 a3, .int .i64 a4, .int .i64 a5]) (.agg #[.int .i64 b0, .int .i64 b1, .int .i64 b2, .int .i64 b3, .int .i64 b4, .int .i64 b5])).run Try.prog w =
    .ok (Cfg.sameH ⟨a0, a1, a2, ⟨a3, a4, a5⟩⟩ ⟨b0, b1, b2, ⟨b3, b4, b5⟩⟩) w := by
  have hS : Try.prog.underlying 80 = some (.struct (Try.prog.fieldsOf 80)) := by kernel_rfl
  have hp : Try.prog.stoodInHeld 80 = false := by kernel_rfl
  rw [show (10000 : Nat) = 9999 + 1 from rfl, run_equalIn_agg w 9999 80 _ _ hS hp]
  simp only [Program.fieldsOf, Try.underlying80]
  have v1 := fun x0 x1 x2 y0 y1 y2 w => eqvec 9997 x0 x1 x2 y0 y1 y2 w
  have i1 := fun a b w => eqint 9998 a b w
  simp only [Op.eqFields, hpart0, hpart1, hpart2, hpart3, v1, i1, Sem.run_bind, Result.andThen_ok, Sem.run_pure, Sem.run_ite, Cfg.sameH]
  have n1 : ("Flavor" : String) ≠ "_" := by decide
  have n2 : ("Block" : String) ≠ "_" := by decide
  have n3 : ("Rack" : String) ≠ "_" := by decide
  have n4 : ("Cap" : String) ≠ "_" := by decide
  simp only [n1, n2, n3, n4, ne_eq, not_false_eq_true, if_true]
  generalize (a0 == b0) = t0
  generalize (a1 == b1) = t1
  generalize (a2 == b2) = t2
  generalize Cfg.sameV ⟨a3, a4, a5⟩ ⟨b3, b4, b5⟩ = t3
  cases t0 <;> cases t1 <;> cases t2 <;> cases t3 <;> rfl
end

@[go_sem] theorem gnode : Try.prog.eqGuardType Try.prog.depth 42 = false := by kernel_rfl
@[go_sem] theorem ghost : Try.prog.eqGuardType Try.prog.depth 80 = false := by kernel_rfl
@[go_sem] theorem gvec : Try.prog.eqGuardType Try.prog.depth 29 = false := by kernel_rfl
theorem sameN_self (x : Cfg.Node) : Cfg.sameN x x = true := (Cfg.sameN_iff x x).2 rfl
theorem sameN_ne {x y : Cfg.Node} (h : x ≠ y) : Cfg.sameN x y = false := by rw [Bool.eq_false_iff]; exact fun e => h ((Cfg.sameN_iff x y).1 e)
theorem sameH_self (x : Cfg.Host) : Cfg.sameH x x = true := (Cfg.sameH_iff x x).2 rfl
theorem sameH_ne {x y : Cfg.Host} (h : x ≠ y) : Cfg.sameH x y = false := by rw [Bool.eq_false_iff]; exact fun e => h ((Cfg.sameH_iff x y).1 e)
end Go.Proofs.Ytbfpljnfalopdaa.CfgW
/-
  Trimmed for this seat: CfgNode.
-/
set_option linter.unusedVariables false
set_option linter.unusedSimpArgs false
namespace Go.Proofs.Ytbfpljnfalopdaa.CfgW
open Go.RowKit Go.Proofs.Ytbfpljnfalopdaa.L

theorem nbox_on {w w' : World} {b : Nat} {x : Cfg.Node} (h : NodeAt w b 0 x) (hb : Below w.heap.size w w') (hlt : b < w.heap.size) :
    w'.cell? ⟨b, 0, none⟩ = some (.int .i64 x.parent) ∧ w'.cell? ⟨b, 1, none⟩ = some (.int .i64 x.weight) ∧
    w'.cell? ⟨b, 2, none⟩ = some (.int .i64 x.nominal.x) ∧ w'.cell? ⟨b, 3, none⟩ = some (.int .i64 x.nominal.y) ∧ w'.cell? ⟨b, 4, none⟩ = some (.int .i64 x.nominal.z) ∧
    w'.cell? ⟨b, 5, none⟩ = some (.int .i64 x.borrow.x) ∧ w'.cell? ⟨b, 6, none⟩ = some (.int .i64 x.borrow.y) ∧ w'.cell? ⟨b, 7, none⟩ = some (.int .i64 x.borrow.z) ∧
    w'.cell? ⟨b, 8, none⟩ = some (.int .i64 x.lend.x) ∧ w'.cell? ⟨b, 9, none⟩ = some (.int .i64 x.lend.y) ∧ w'.cell? ⟨b, 10, none⟩ = some (.int .i64 x.lend.z) := by
  obtain ⟨h0, h1, h2, h3, h4, h5, h6, h7, h8, h9, h10⟩ := h
  simp only [Nat.zero_add] at *
  have k : ∀ o v, w.cell? ⟨b, o, none⟩ = some v → w'.cell? ⟨b, o, none⟩ = some v := fun o v hv => (hb.cell (p := ⟨b, o, none⟩) hlt).trans hv
  exact ⟨k _ _ h0, k _ _ h1, k _ _ h2, k _ _ h3, k _ _ h4, k _ _ h5, k _ _ h6, k _ _ h7, k _ _ h8, k _ _ h9, k _ _ h10⟩

/-- What a node's test is made of. -/
theorem nodeOk_parts (c : Cfg.C) (k : Nat) (x : Cfg.Node) : Cfg.nodeOk c k x =
    (!((decide (k = 0) && (x.parent != -1)) || ((decide (0 < k) && !Cfg.between x.parent 0 ((k : Int) - 1)) || !Cfg.between x.weight 1 1000)) &&
      (if Cfg.leaf c (k : Int) then Vec.valid x.nominal && (Vec.valid x.borrow && (Vec.valid x.lend && Vec.fits x.lend x.nominal)) else Cfg.isZero x.nominal && (Cfg.isZero x.borrow && Cfg.isZero x.lend))) := by
  unfold Cfg.nodeOk Cfg.parentOk
  congr 1
  by_cases h : k = 0
  · subst h
    simp
    cases h : (x.parent == -1) <;> cases Cfg.between x.weight 1 1000 <;> simp_all
  · have h0 : 0 < k := by omega
    simp [h, h0]

theorem sameN_zero (x : Cfg.Node) : Cfg.sameN x ⟨x.parent, x.weight, ⟨0, 0, 0⟩, ⟨0, 0, 0⟩, ⟨0, 0, 0⟩⟩ = (Cfg.isZero x.nominal && (Cfg.isZero x.borrow && Cfg.isZero x.lend)) := by
  unfold Cfg.sameN Cfg.sameV Cfg.isZero
  simp

end Go.Proofs.Ytbfpljnfalopdaa.CfgW
/-
  Trimmed for this seat: CfgRefNode.
-/
set_option linter.unusedVariables false
set_option linter.unusedSimpArgs false
namespace Go.Proofs.Ytbfpljnfalopdaa.CfgW
open Go.RowKit Go.Proofs.Ytbfpljnfalopdaa.L

def hval (x : Cfg.Host) : Value := .agg #[.int .i64 x.flavor, .int .i64 x.block, .int .i64 x.rack, .int .i64 x.cap.x, .int .i64 x.cap.y, .int .i64 x.cap.z]
/-- An amount's cells in a block of its own. -/
theorem vbox_on {w w' : World} {b o : Nat} {x y z : Int} (h : w.cell? ⟨b, o, none⟩ = some (.int .i64 x) ∧ w.cell? ⟨b, o + 1, none⟩ = some (.int .i64 y) ∧ w.cell? ⟨b, o + 2, none⟩ = some (.int .i64 z)) (hb : Below w.heap.size w w') (hlt : b < w.heap.size) :
    w'.cell? ⟨b, o, none⟩ = some (.int .i64 x) ∧ w'.cell? ⟨b, o + 1, none⟩ = some (.int .i64 y) ∧ w'.cell? ⟨b, o + 2, none⟩ = some (.int .i64 z) :=
  ⟨(hb.cell (p := ⟨b, o, none⟩) hlt).trans h.1, (hb.cell (p := ⟨b, o + 1, none⟩) hlt).trans h.2.1, (hb.cell (p := ⟨b, o + 2, none⟩) hlt).trans h.2.2⟩
theorem isZero_eq (x y z : Int) : Cfg.sameV ⟨x, y, z⟩ ⟨0, 0, 0⟩ = Cfg.isZero ⟨x, y, z⟩ := rfl

set_option maxRecDepth 100000 in
set_option maxRecDepth 100000 in
set_option maxHeartbeats 4000000 in
theorem rnode_any {w : World} {v : Value} {c : Cfg.C} (hc : CfgAt w v c) (k : Nat) (hk : k < c.nodes.length) : GivesAt Try.prog w 53 #[v, .int .i64 (k : Int)] (.bool (Cfg.nodeOk c k (c.nodes.getD k default))) := by
  intro w1 hb1
  replace hc := hc.below hb1
  clear hb1
  have hleaf := rleaf_any hc (k : Int)
  obtain ⟨v1, v2, rfl, ⟨A, cap, rfl, hr, hl⟩, hh⟩ := hc
  obtain ⟨bb, o, rfl, hlt, hcell⟩ := row_node hr hk
  have hgd : c.nodes.getD k default = c.nodes[k] := by rw [List.getD_eq_getElem?_getD, List.getElem?_eq_getElem hk]; rfl
  rw [hgd, nodeOk_parts]
  have hat := hcell w1 (Below.refl _ _)
  have hne : ¬ bb = w1.heap.size := by omega
  generalize c.nodes[k] = x at *
  obtain ⟨p, wt, ⟨n0, n1, n2⟩, ⟨b0, b1, b2⟩, ⟨l0, l1, l2⟩⟩ := x
  obtain ⟨c0, c1, c2, c3, c4, c5, c6, c7, c8, c9, c10⟩ := hat
  unfold maxLen at hl
  obtain ⟨N, hN⟩ : ∃ N, c.nodes.length = N := ⟨_, rfl⟩
  rw [hN] at hl hk hleaf ⊢
  simp only at *
  have gV1 := Lib.hid (VecW.grvalid ⟨n0, n1, n2⟩)
  have gV2 := Lib.hid (VecW.grvalid ⟨b0, b1, b2⟩)
  have gV3 := Lib.hid (VecW.grvalid ⟨l0, l1, l2⟩)
  have gF := Lib.hid (VecW.grfits ⟨l0, l1, l2⟩ ⟨n0, n1, n2⟩)
  have gL := Lib.hid hleaf
  have hZ1 := Lib.hid (isZero_eq n0 n1 n2)
  have hZ2 := Lib.hid (isZero_eq b0 b1 b2)
  have hZ3 := Lib.hid (isZero_eq l0 l1 l2)
  generalize Cfg.leaf c (k : Int) = LF at *
  generalize Vec.valid ⟨n0, n1, n2⟩ = V1 at *
  generalize Vec.valid ⟨b0, b1, b2⟩ = V2 at *
  generalize Vec.valid ⟨l0, l1, l2⟩ = V3 at *
  generalize Vec.fits ⟨l0, l1, l2⟩ ⟨n0, n1, n2⟩ = FT at *
  generalize Cfg.isZero ⟨n0, n1, n2⟩ = Z1 at *
  generalize Cfg.isZero ⟨b0, b1, b2⟩ = Z2 at *
  generalize Cfg.isZero ⟨l0, l1, l2⟩ = Z3 at *
  unfold Vec.V.val at *
  clear hr hh hcell hgd hleaf hN
  obtain ⟨R, hR⟩ : ∃ R, (!((decide (k = 0) && (p != -1)) || ((decide (0 < k) && !Cfg.between p 0 ((k : Int) - 1)) || !Cfg.between wt 1 1000)) &&
      (if LF then V1 && (V2 && (V3 && FT)) else Z1 && (Z2 && Z3))) = R := ⟨_, rfl⟩
  rw [hR]
  have HR := Lib.hid hR
  clear hR
  have hbox : NodeAt (((w1.alloc (.cells #[.slice (some ⟨bb, o, none⟩) N cap, v2, .int .i64 c.half, .int .i64 c.age] 25)).alloc (.cells #[.int .i64 p, .int .i64 wt, .int .i64 n0, .int .i64 n1, .int .i64 n2, .int .i64 b0, .int .i64 b1, .int .i64 b2, .int .i64 l0, .int .i64 l1, .int .i64 l2] 42)).alloc (.cells #[.int .i64 0, .int .i64 0, .int .i64 0] 29)) (w1.heap.size + 1) 0 ⟨p, wt, ⟨n0, n1, n2⟩, ⟨b0, b1, b2⟩, ⟨l0, l1, l2⟩⟩ := by
    refine ⟨?_, ?_, ?_, ?_, ?_, ?_, ?_, ?_, ?_, ?_, ?_⟩ <;> simp [go_sem]
  have hzero : (((w1.alloc (.cells #[.slice (some ⟨bb, o, none⟩) N cap, v2, .int .i64 c.half, .int .i64 c.age] 25)).alloc (.cells #[.int .i64 p, .int .i64 wt, .int .i64 n0, .int .i64 n1, .int .i64 n2, .int .i64 b0, .int .i64 b1, .int .i64 b2, .int .i64 l0, .int .i64 l1, .int .i64 l2] 42)).alloc (.cells #[.int .i64 0, .int .i64 0, .int .i64 0] 29)).cell? ⟨w1.heap.size + 1 + 1, 0, none⟩ = some (.int .i64 0) ∧
    (((w1.alloc (.cells #[.slice (some ⟨bb, o, none⟩) N cap, v2, .int .i64 c.half, .int .i64 c.age] 25)).alloc (.cells #[.int .i64 p, .int .i64 wt, .int .i64 n0, .int .i64 n1, .int .i64 n2, .int .i64 b0, .int .i64 b1, .int .i64 b2, .int .i64 l0, .int .i64 l1, .int .i64 l2] 42)).alloc (.cells #[.int .i64 0, .int .i64 0, .int .i64 0] 29)).cell? ⟨w1.heap.size + 1 + 1, 0 + 1, none⟩ = some (.int .i64 0) ∧
    (((w1.alloc (.cells #[.slice (some ⟨bb, o, none⟩) N cap, v2, .int .i64 c.half, .int .i64 c.age] 25)).alloc (.cells #[.int .i64 p, .int .i64 wt, .int .i64 n0, .int .i64 n1, .int .i64 n2, .int .i64 b0, .int .i64 b1, .int .i64 b2, .int .i64 l0, .int .i64 l1, .int .i64 l2] 42)).alloc (.cells #[.int .i64 0, .int .i64 0, .int .i64 0] 29)).cell? ⟨w1.heap.size + 1 + 1, 0 + 2, none⟩ = some (.int .i64 0) := by
    refine ⟨?_, ?_, ?_⟩ <;> simp [go_sem]
  have HBX := Lib.hid hbox
  have HZ := Lib.hid hzero
  clear hbox hzero
  by_cases hk0 : k = 0
  · have t0 : ((k : Int) == 0) = true := by simp [hk0]
    have t1 : ¬ 0 < (k : Int) := by omega
    have t2 : decide (0 < (k : Int)) = false := by simpa using t1
    have HK0 := Lib.hid hk0
    clear hk0
    by_cases hp : p = -1
    · have hp1 : (p != -1) = false := by simpa using hp
      have HP := Lib.hid hp
      clear hp
      by_cases hw1 : wt < 1
      · have hw1d : decide (wt < 1) = true := by simpa using hw1
        go_enter Try.func53, Try.ntmps53
        go_wp2_with fail
        go_ret
        exact ⟨ret_bool (by rw [← HR.out, show Cfg.between wt 1 1000 = false by unfold Cfg.between; simp; omega]; simp), by (repeat' (first | (with_reducible exact Below.refl _ _) | (with_reducible assumption) | (with_reducible refine Below.alloc ?_ ?_ _) | (with_reducible refine Go.Proofs.Ytbfpljnfalopdaa.L.below_drewN ?_ _) | (with_reducible refine Below.drew ?_) | (with_reducible refine Below.setCell ?_ ?_ _) | (with_reducible refine Below.frame ?_ _) | go_size))⟩
      by_cases hw2 : 1000 < wt
      · have hw1d : decide (wt < 1) = false := by simpa using hw1
        have hw2d : decide (1000 < wt) = true := by simpa using hw2
        go_enter Try.func53, Try.ntmps53
        go_wp2_with fail
        go_ret
        exact ⟨ret_bool (by rw [← HR.out, show Cfg.between wt 1 1000 = false by unfold Cfg.between; simp; omega]; simp), by (repeat' (first | (with_reducible exact Below.refl _ _) | (with_reducible assumption) | (with_reducible refine Below.alloc ?_ ?_ _) | (with_reducible refine Go.Proofs.Ytbfpljnfalopdaa.L.below_drewN ?_ _) | (with_reducible refine Below.drew ?_) | (with_reducible refine Below.setCell ?_ ?_ _) | (with_reducible refine Below.frame ?_ _) | go_size))⟩
      have hw1d : decide (wt < 1) = false := by simpa using hw1
      have hw2d : decide (1000 < wt) = false := by simpa using hw2
      have HB2 := Lib.hid (show Cfg.between wt 1 1000 = true by unfold Cfg.between; simp; omega)
      go_enter Try.func53, Try.ntmps53
      go_wp2_with fail
      refine (gL.out _ (by (repeat' (first | (with_reducible exact Below.refl _ _) | (with_reducible assumption) | (with_reducible refine Below.alloc ?_ ?_ _) | (with_reducible refine Go.Proofs.Ytbfpljnfalopdaa.L.below_drewN ?_ _) | (with_reducible refine Below.drew ?_) | (with_reducible refine Below.setCell ?_ ?_ _) | (with_reducible refine Below.frame ?_ _) | go_size)))).mono ?_
      rintro e w5 ⟨rfl, hb6⟩
      have hbw5 := keeps_trans (a := w1) (by (repeat' (first | (with_reducible exact Below.refl _ _) | (with_reducible assumption) | (with_reducible refine Below.alloc ?_ ?_ _) | (with_reducible refine Go.Proofs.Ytbfpljnfalopdaa.L.below_drewN ?_ _) | (with_reducible refine Below.drew ?_) | (with_reducible refine Below.setCell ?_ ?_ _) | (with_reducible refine Below.frame ?_ _) | go_size))) hb6
      obtain ⟨m0, m1, m2, m3, m4, m5, m6, m7, m8, m9, m10⟩ := nbox_on HBX.out hb6 (by simp)
      obtain ⟨y0, y1, y2⟩ := vbox_on HZ.out hb6 (by simp)
      have hz6 : w1.heap.size + 1 + 1 < w5.heap.size := by have := hb6.size; simp at this; omega
      cases LF
      · have z1 := hZ1.out
        have z2 := hZ2.out
        have z3 := hZ3.out
        cases Z1
        · go_wp2_with fail
          go_ret
          exact ⟨ret_bool (by rw [← HR.out]; simp), hbw5⟩
        cases Z2
        · go_wp2_with fail
          go_ret
          exact ⟨ret_bool (by rw [← HR.out]; simp), hbw5⟩
        cases Z3
        · go_wp2_with fail
          go_ret
          exact ⟨ret_bool (by rw [← HR.out]; simp), hbw5⟩
        go_wp2_with fail
        go_ret
        exact ⟨ret_bool (by rw [← HR.out]; simp [HK0.out, HP.out, HB2.out]), hbw5⟩
      go_wp2_with fail
      refine (gV1.out _).mono ?_
      rintro e v0 ⟨rfl, hq⟩
      have hs0 := keeps_trans hb6 hq
      have ht0 := keeps_trans hbw5 hq
      clear hq m0 m1 m2 m3 m4 m5 m6 m7 m8 m9 m10
      obtain ⟨m0, m1, m2, m3, m4, m5, m6, m7, m8, m9, m10⟩ := nbox_on HBX.out hs0 (by simp)
      cases V1
      · go_wp2_with fail
        go_ret
        exact ⟨ret_bool (by rw [← HR.out]; simp), ht0⟩
      go_wp2_with fail
      refine (gV2.out _).mono ?_
      rintro e v1 ⟨rfl, hq⟩
      have hs1 := keeps_trans hs0 hq
      have ht1 := keeps_trans ht0 hq
      clear hq m0 m1 m2 m3 m4 m5 m6 m7 m8 m9 m10
      obtain ⟨m0, m1, m2, m3, m4, m5, m6, m7, m8, m9, m10⟩ := nbox_on HBX.out hs1 (by simp)
      cases V2
      · go_wp2_with fail
        go_ret
        exact ⟨ret_bool (by rw [← HR.out]; simp), ht1⟩
      go_wp2_with fail
      refine (gV3.out _).mono ?_
      rintro e v2 ⟨rfl, hq⟩
      have hs2 := keeps_trans hs1 hq
      have ht2 := keeps_trans ht1 hq
      clear hq m0 m1 m2 m3 m4 m5 m6 m7 m8 m9 m10
      obtain ⟨m0, m1, m2, m3, m4, m5, m6, m7, m8, m9, m10⟩ := nbox_on HBX.out hs2 (by simp)
      cases V3
      · go_wp2_with fail
        go_ret
        exact ⟨ret_bool (by rw [← HR.out]; simp), ht2⟩
      go_wp2_with fail
      refine (gF.out _).mono ?_
      rintro e v3 ⟨rfl, hq⟩
      have hs3 := keeps_trans hs2 hq
      have ht3 := keeps_trans ht2 hq
      clear hq m0 m1 m2 m3 m4 m5 m6 m7 m8 m9 m10
      go_wp2_with fail
      go_ret
      exact ⟨ret_bool (by rw [← HR.out]; simp [HK0.out, HP.out, HB2.out]), ht3⟩
    · have hp1 : (p != -1) = true := by simpa using hp
      have HP := Lib.hid hp
      clear hp
      go_enter Try.func53, Try.ntmps53
      go_wp2_with fail
      go_ret
      exact ⟨ret_bool (by rw [← HR.out]; simp [HK0.out, HP.out]), by (repeat' (first | (with_reducible exact Below.refl _ _) | (with_reducible assumption) | (with_reducible refine Below.alloc ?_ ?_ _) | (with_reducible refine Go.Proofs.Ytbfpljnfalopdaa.L.below_drewN ?_ _) | (with_reducible refine Below.drew ?_) | (with_reducible refine Below.setCell ?_ ?_ _) | (with_reducible refine Below.frame ?_ _) | go_size))⟩
  · have t0 : ((k : Int) == 0) = false := by simp [hk0]
    have t1 : 0 < (k : Int) := by omega
    have HK0 := Lib.hid (show 0 < k by omega)
    clear hk0
    by_cases hp1 : p < 0
    · have hp1d : decide (p < 0) = true := by simpa using hp1
      go_enter Try.func53, Try.ntmps53
      go_wp2_with fail
      go_ret
      exact ⟨ret_bool (by rw [← HR.out, show Cfg.between p 0 ((k : Int) - 1) = false by unfold Cfg.between; simp; omega]; simp [HK0.out, show ¬ k = 0 by have := HK0.out; omega]), by (repeat' (first | (with_reducible exact Below.refl _ _) | (with_reducible assumption) | (with_reducible refine Below.alloc ?_ ?_ _) | (with_reducible refine Go.Proofs.Ytbfpljnfalopdaa.L.below_drewN ?_ _) | (with_reducible refine Below.drew ?_) | (with_reducible refine Below.setCell ?_ ?_ _) | (with_reducible refine Below.frame ?_ _) | go_size))⟩
    have hp1d : decide (p < 0) = false := by simpa using hp1
    by_cases hp2 : (k : Int) ≤ p
    · have hp2d : decide ((k : Int) ≤ p) = true := by simpa using hp2
      go_enter Try.func53, Try.ntmps53
      go_wp2_with fail
      go_ret
      exact ⟨ret_bool (by rw [← HR.out, show Cfg.between p 0 ((k : Int) - 1) = false by unfold Cfg.between; simp; omega]; simp [HK0.out, show ¬ k = 0 by have := HK0.out; omega]), by (repeat' (first | (with_reducible exact Below.refl _ _) | (with_reducible assumption) | (with_reducible refine Below.alloc ?_ ?_ _) | (with_reducible refine Go.Proofs.Ytbfpljnfalopdaa.L.below_drewN ?_ _) | (with_reducible refine Below.drew ?_) | (with_reducible refine Below.setCell ?_ ?_ _) | (with_reducible refine Below.frame ?_ _) | go_size))⟩
    have hp2d : decide ((k : Int) ≤ p) = false := by simpa using hp2
    have HB1 := Lib.hid (show Cfg.between p 0 ((k : Int) - 1) = true by unfold Cfg.between; simp; omega)
    by_cases hw1 : wt < 1
    · have hw1d : decide (wt < 1) = true := by simpa using hw1
      go_enter Try.func53, Try.ntmps53
      go_wp2_with fail
      go_ret
      exact ⟨ret_bool (by rw [← HR.out, show Cfg.between wt 1 1000 = false by unfold Cfg.between; simp; omega]; simp), by (repeat' (first | (with_reducible exact Below.refl _ _) | (with_reducible assumption) | (with_reducible refine Below.alloc ?_ ?_ _) | (with_reducible refine Go.Proofs.Ytbfpljnfalopdaa.L.below_drewN ?_ _) | (with_reducible refine Below.drew ?_) | (with_reducible refine Below.setCell ?_ ?_ _) | (with_reducible refine Below.frame ?_ _) | go_size))⟩
    by_cases hw2 : 1000 < wt
    · have hw1d : decide (wt < 1) = false := by simpa using hw1
      have hw2d : decide (1000 < wt) = true := by simpa using hw2
      go_enter Try.func53, Try.ntmps53
      go_wp2_with fail
      go_ret
      exact ⟨ret_bool (by rw [← HR.out, show Cfg.between wt 1 1000 = false by unfold Cfg.between; simp; omega]; simp), by (repeat' (first | (with_reducible exact Below.refl _ _) | (with_reducible assumption) | (with_reducible refine Below.alloc ?_ ?_ _) | (with_reducible refine Go.Proofs.Ytbfpljnfalopdaa.L.below_drewN ?_ _) | (with_reducible refine Below.drew ?_) | (with_reducible refine Below.setCell ?_ ?_ _) | (with_reducible refine Below.frame ?_ _) | go_size))⟩
    have hw1d : decide (wt < 1) = false := by simpa using hw1
    have hw2d : decide (1000 < wt) = false := by simpa using hw2
    have HB2 := Lib.hid (show Cfg.between wt 1 1000 = true by unfold Cfg.between; simp; omega)
    go_enter Try.func53, Try.ntmps53
    go_wp2_with fail
    refine (gL.out _ (by (repeat' (first | (with_reducible exact Below.refl _ _) | (with_reducible assumption) | (with_reducible refine Below.alloc ?_ ?_ _) | (with_reducible refine Go.Proofs.Ytbfpljnfalopdaa.L.below_drewN ?_ _) | (with_reducible refine Below.drew ?_) | (with_reducible refine Below.setCell ?_ ?_ _) | (with_reducible refine Below.frame ?_ _) | go_size)))).mono ?_
    rintro e w5 ⟨rfl, hb6⟩
    have hbw5 := keeps_trans (a := w1) (by (repeat' (first | (with_reducible exact Below.refl _ _) | (with_reducible assumption) | (with_reducible refine Below.alloc ?_ ?_ _) | (with_reducible refine Go.Proofs.Ytbfpljnfalopdaa.L.below_drewN ?_ _) | (with_reducible refine Below.drew ?_) | (with_reducible refine Below.setCell ?_ ?_ _) | (with_reducible refine Below.frame ?_ _) | go_size))) hb6
    obtain ⟨m0, m1, m2, m3, m4, m5, m6, m7, m8, m9, m10⟩ := nbox_on HBX.out hb6 (by simp)
    obtain ⟨y0, y1, y2⟩ := vbox_on HZ.out hb6 (by simp)
    have hz6 : w1.heap.size + 1 + 1 < w5.heap.size := by have := hb6.size; simp at this; omega
    cases LF
    · have z1 := hZ1.out
      have z2 := hZ2.out
      have z3 := hZ3.out
      cases Z1
      · go_wp2_with fail
        go_ret
        exact ⟨ret_bool (by rw [← HR.out]; simp), hbw5⟩
      cases Z2
      · go_wp2_with fail
        go_ret
        exact ⟨ret_bool (by rw [← HR.out]; simp), hbw5⟩
      cases Z3
      · go_wp2_with fail
        go_ret
        exact ⟨ret_bool (by rw [← HR.out]; simp), hbw5⟩
      go_wp2_with fail
      go_ret
      exact ⟨ret_bool (by rw [← HR.out]; simp [show ¬ k = 0 by have := HK0.out; omega, HB1.out, HB2.out]), hbw5⟩
    go_wp2_with fail
    refine (gV1.out _).mono ?_
    rintro e v0 ⟨rfl, hq⟩
    have hs0 := keeps_trans hb6 hq
    have ht0 := keeps_trans hbw5 hq
    clear hq m0 m1 m2 m3 m4 m5 m6 m7 m8 m9 m10
    obtain ⟨m0, m1, m2, m3, m4, m5, m6, m7, m8, m9, m10⟩ := nbox_on HBX.out hs0 (by simp)
    cases V1
    · go_wp2_with fail
      go_ret
      exact ⟨ret_bool (by rw [← HR.out]; simp), ht0⟩
    go_wp2_with fail
    refine (gV2.out _).mono ?_
    rintro e v1 ⟨rfl, hq⟩
    have hs1 := keeps_trans hs0 hq
    have ht1 := keeps_trans ht0 hq
    clear hq m0 m1 m2 m3 m4 m5 m6 m7 m8 m9 m10
    obtain ⟨m0, m1, m2, m3, m4, m5, m6, m7, m8, m9, m10⟩ := nbox_on HBX.out hs1 (by simp)
    cases V2
    · go_wp2_with fail
      go_ret
      exact ⟨ret_bool (by rw [← HR.out]; simp), ht1⟩
    go_wp2_with fail
    refine (gV3.out _).mono ?_
    rintro e v2 ⟨rfl, hq⟩
    have hs2 := keeps_trans hs1 hq
    have ht2 := keeps_trans ht1 hq
    clear hq m0 m1 m2 m3 m4 m5 m6 m7 m8 m9 m10
    obtain ⟨m0, m1, m2, m3, m4, m5, m6, m7, m8, m9, m10⟩ := nbox_on HBX.out hs2 (by simp)
    cases V3
    · go_wp2_with fail
      go_ret
      exact ⟨ret_bool (by rw [← HR.out]; simp), ht2⟩
    go_wp2_with fail
    refine (gF.out _).mono ?_
    rintro e v3 ⟨rfl, hq⟩
    have hs3 := keeps_trans hs2 hq
    have ht3 := keeps_trans ht2 hq
    clear hq m0 m1 m2 m3 m4 m5 m6 m7 m8 m9 m10
    go_wp2_with fail
    go_ret
    exact ⟨ret_bool (by rw [← HR.out]; simp [show ¬ k = 0 by have := HK0.out; omega, HB1.out, HB2.out]), ht3⟩
end Go.Proofs.Ytbfpljnfalopdaa.CfgW
/-
  Trimmed for this seat: CfgCheck.
-/
set_option linter.unusedVariables false
set_option linter.unusedSimpArgs false
namespace Go.Proofs.Ytbfpljnfalopdaa.CfgW
open Go.RowKit Go.Proofs.Ytbfpljnfalopdaa.L

theorem row_host {w : World} {A : Option Addr} {xs : List Cfg.Host} (h : RowOf w A 6 hdec xs) {k : Nat} (hk : k < xs.length) : ∃ b o, A = some ⟨b, o, none⟩ ∧ b < w.heap.size ∧ ∀ w', Below w.heap.size w w' →
    (w'.cell? ⟨b, o + k * 6, none⟩ = some (.int .i64 xs[k].flavor) ∧ w'.cell? ⟨b, o + k * 6 + 1, none⟩ = some (.int .i64 xs[k].block) ∧ w'.cell? ⟨b, o + k * 6 + 2, none⟩ = some (.int .i64 xs[k].rack) ∧
      w'.cell? ⟨b, o + k * 6 + 3, none⟩ = some (.int .i64 xs[k].cap.x) ∧ w'.cell? ⟨b, o + k * 6 + 4, none⟩ = some (.int .i64 xs[k].cap.y) ∧ w'.cell? ⟨b, o + k * 6 + 5, none⟩ = some (.int .i64 xs[k].cap.z)) := by
  obtain ⟨b, o, rfl, hlt, hc⟩ := h (by intro e; subst e; simp at hk)
  have hx := List.getElem?_eq_getElem hk
  refine ⟨b, o, rfl, hlt, fun w' hb => ?_⟩
  have key : ∀ j v, (hdec xs[k])[j]? = some v → w'.cell? ⟨b, o + k * 6 + j, none⟩ = some v := fun j v hv => (hb.cell (p := ⟨b, o + k * 6 + j, none⟩) hlt).trans (hc k xs[k] hx j v hv)
  exact ⟨key 0 _ rfl, key 1 _ rfl, key 2 _ rfl, key 3 _ rfl, key 4 _ rfl, key 5 _ rfl⟩

/-- The configuration in a box of its own. -/
def CBox (w : World) (b : Nat) (v1 v2 : Value) (h a : Int) : Prop := b < w.heap.size ∧ w.cell? ⟨b, 0, none⟩ = some v1 ∧ w.cell? ⟨b, 1, none⟩ = some v2 ∧ w.cell? ⟨b, 2, none⟩ = some (.int .i64 h) ∧ w.cell? ⟨b, 3, none⟩ = some (.int .i64 a)
theorem CBox.on {w w' : World} {b : Nat} {v1 v2 : Value} {h a : Int} (x : CBox w b v1 v2 h a) (hb : Below w.heap.size w w') : CBox w' b v1 v2 h a :=
  ⟨Nat.lt_of_lt_of_le x.1 hb.size, (hb.cell (p := ⟨b, 0, none⟩) x.1).trans x.2.1, (hb.cell (p := ⟨b, 1, none⟩) x.1).trans x.2.2.1, (hb.cell (p := ⟨b, 2, none⟩) x.1).trans x.2.2.2.1, (hb.cell (p := ⟨b, 3, none⟩) x.1).trans x.2.2.2.2⟩
theorem CBox.new (w : World) (v1 v2 : Value) (h a : Int) : CBox (w.alloc (.cells #[v1, v2, .int .i64 h, .int .i64 a] 25)) w.heap.size v1 v2 h a := ⟨by simp, by simp [go_sem], by simp [go_sem], by simp [go_sem], by simp [go_sem]⟩

theorem nodes_false {c : Cfg.C} {k : Nat} (hk : k ≤ c.nodes.length) (h : Cfg.nodesOk c k = false) : Cfg.nodesOk c c.nodes.length = false := by
  rw [Bool.eq_false_iff] at h ⊢
  exact fun e => h (Cfg.nodesOk_le e hk)
theorem hostsOk_le {c : Cfg.C} {n k : Nat} (h : Cfg.hostsOk c n = true) (hk : k ≤ n) : Cfg.hostsOk c k = true := by
  unfold Cfg.hostsOk at *
  rw [List.all_eq_true] at *
  intro i hi
  exact h i (by simp at hi ⊢; omega)
theorem hosts_false {c : Cfg.C} {k : Nat} (hk : k ≤ c.hosts.length) (h : Cfg.hostsOk c k = false) : Cfg.hostsOk c c.hosts.length = false := by
  rw [Bool.eq_false_iff] at h ⊢
  exact fun e => h (hostsOk_le e hk)
theorem check_of (c : Cfg.C) (S n h : Bool) (h1 : Cfg.sizesOk c = S) (h2 : Cfg.nodesOk c c.nodes.length = n) (h3 : Cfg.hostsOk c c.hosts.length = h) : Cfg.check c = if S && (n && h) then 0 else 2 := by
  unfold Cfg.check Cfg.ok
  rw [h1, h2, h3]

end Go.Proofs.Ytbfpljnfalopdaa.CfgW
/-
  May a configuration be? The contract of the reference's Check.
-/
set_option linter.unusedVariables false
set_option linter.unusedSimpArgs false
namespace Go.Proofs.Ytbfpljnfalopdaa.CfgW
open Go.RowKit Go.Proofs.Ytbfpljnfalopdaa.L

theorem check_no {c : Cfg.C} (h : Cfg.sizesOk c = false ∨ Cfg.nodesOk c c.nodes.length = false ∨ Cfg.hostsOk c c.hosts.length = false) : Cfg.check c = 2 := by
  unfold Cfg.check Cfg.ok
  rcases h with h | h | h <;> rw [h] <;> simp
theorem check_yes {c : Cfg.C} (h1 : Cfg.sizesOk c = true) (h2 : Cfg.nodesOk c c.nodes.length = true) (h3 : Cfg.hostsOk c c.hosts.length = true) : Cfg.check c = 0 := by
  unfold Cfg.check Cfg.ok
  rw [h1, h2, h3]
  rfl
theorem sizes_iff (c : Cfg.C) (N M : Nat) (h a : Int) (h1 : c.nodes.length = N) (h2 : c.hosts.length = M) (h3 : c.half = h) (h4 : c.age = a) : Cfg.sizesOk c = decide ((1 ≤ N ∧ N ≤ 12) ∧ (1 ≤ M ∧ M ≤ 24) ∧ (1 ≤ h ∧ h ≤ 1048576) ∧ (0 ≤ a ∧ a ≤ 1048576)) := by
  subst h1 h2 h3 h4
  unfold Cfg.sizesOk Cfg.between
  rw [Bool.eq_iff_iff]
  simp
  omega
theorem hostOk_iff (f b r x y z : Int) : Cfg.hostOk ⟨f, b, r, ⟨x, y, z⟩⟩ = (decide (0 ≤ f ∧ f ≤ 100 ∧ 0 ≤ b ∧ b ≤ 100 ∧ 0 ≤ r ∧ r ≤ 100) && Vec.valid ⟨x, y, z⟩) := by
  unfold Cfg.hostOk Cfg.between
  generalize Vec.valid ⟨x, y, z⟩ = V
  rw [Bool.eq_iff_iff]
  cases V
  · simp
  · simp
    omega

set_option maxRecDepth 100000 in
set_option maxHeartbeats 8000000 in
theorem rcheck_any {w : World} {v : Value} {c : Cfg.C} (hc : CfgAt w v c) : GivesAt Try.prog w 33 #[v] (.int .i64 (Cfg.check c)) := by
  intro w1 hb1
  replace hc := hc.below hb1
  clear hb1
  have HCF := Lib.hid hc
  obtain ⟨v1, v2, rfl, ⟨A, ca, rfl, hr, hl⟩, ⟨B, cb, rfl, hr2, hl2⟩⟩ := id hc
  have HRH := Lib.hid hr2
  have gN := Lib.hid (fun k hk => rnode_any hc k hk)
  obtain ⟨N, hN⟩ : ∃ N, c.nodes.length = N := ⟨_, rfl⟩
  obtain ⟨M, hM⟩ : ∃ M, c.hosts.length = M := ⟨_, rfl⟩
  have HN := Lib.hid hN
  have HM := Lib.hid hM
  rw [hN] at gN hl
  rw [hM] at gN hl2
  rw [hN, hM]
  rw [hN, hM] at HCF
  obtain ⟨half, hhalf⟩ : ∃ z, c.half = z := ⟨_, rfl⟩
  obtain ⟨age, hage⟩ : ∃ z, c.age = z := ⟨_, rfl⟩
  have hsz := Lib.hid (sizes_iff c N M half age hN hM hhalf hage)
  rw [hhalf] at gN HCF ⊢
  rw [hage] at gN HCF ⊢
  unfold maxLen at hl hl2
  have HNO := Lib.hid (fun h => check_no (c := c) h)
  have HYES := Lib.hid (fun h1 h2 h3 => check_yes (c := c) h1 h2 h3)
  rw [hN, hM] at HNO HYES
  obtain ⟨R, hR⟩ : ∃ R, Cfg.check c = R := ⟨_, rfl⟩
  rw [hR] at HNO HYES ⊢
  clear hR hr hr2 hN hM hhalf hage hc
  by_cases s0 : N < 1
  · have d0 : decide ((N : Int) < 1) = true := by simp; omega
    have hno := Lib.hid (HNO.out (.inl (by rw [hsz.out]; simp; omega)))
    go_enter Try.func33, Try.ntmps33
    go_wp2_with fail
    go_ret
    exact ⟨ret_int hno.out.symm, by (repeat' (first | (with_reducible exact Below.refl _ _) | (with_reducible assumption) | (with_reducible refine Below.alloc ?_ ?_ _) | (with_reducible refine Go.Proofs.Ytbfpljnfalopdaa.L.below_drewN ?_ _) | (with_reducible refine Below.drew ?_) | (with_reducible refine Below.setCell ?_ ?_ _) | (with_reducible refine Below.frame ?_ _) | go_size))⟩
  have d0 : decide ((N : Int) < 1) = false := by simp; omega
  by_cases s1 : 12 < N
  · have d1 : decide ((12 : Int) < N) = true := by simp; omega
    have hno := Lib.hid (HNO.out (.inl (by rw [hsz.out]; simp; omega)))
    go_enter Try.func33, Try.ntmps33
    go_wp2_with fail
    go_ret
    exact ⟨ret_int hno.out.symm, by (repeat' (first | (with_reducible exact Below.refl _ _) | (with_reducible assumption) | (with_reducible refine Below.alloc ?_ ?_ _) | (with_reducible refine Go.Proofs.Ytbfpljnfalopdaa.L.below_drewN ?_ _) | (with_reducible refine Below.drew ?_) | (with_reducible refine Below.setCell ?_ ?_ _) | (with_reducible refine Below.frame ?_ _) | go_size))⟩
  have d1 : decide ((12 : Int) < N) = false := by simp; omega
  by_cases s2 : M < 1
  · have d2 : decide ((M : Int) < 1) = true := by simp; omega
    have hno := Lib.hid (HNO.out (.inl (by rw [hsz.out]; simp; omega)))
    go_enter Try.func33, Try.ntmps33
    go_wp2_with fail
    go_ret
    exact ⟨ret_int hno.out.symm, by (repeat' (first | (with_reducible exact Below.refl _ _) | (with_reducible assumption) | (with_reducible refine Below.alloc ?_ ?_ _) | (with_reducible refine Go.Proofs.Ytbfpljnfalopdaa.L.below_drewN ?_ _) | (with_reducible refine Below.drew ?_) | (with_reducible refine Below.setCell ?_ ?_ _) | (with_reducible refine Below.frame ?_ _) | go_size))⟩
  have d2 : decide ((M : Int) < 1) = false := by simp; omega
  by_cases s3 : 24 < M
  · have d3 : decide ((24 : Int) < M) = true := by simp; omega
    have hno := Lib.hid (HNO.out (.inl (by rw [hsz.out]; simp; omega)))
    go_enter Try.func33, Try.ntmps33
    go_wp2_with fail
    go_ret
    exact ⟨ret_int hno.out.symm, by (repeat' (first | (with_reducible exact Below.refl _ _) | (with_reducible assumption) | (with_reducible refine Below.alloc ?_ ?_ _) | (with_reducible refine Go.Proofs.Ytbfpljnfalopdaa.L.below_drewN ?_ _) | (with_reducible refine Below.drew ?_) | (with_reducible refine Below.setCell ?_ ?_ _) | (with_reducible refine Below.frame ?_ _) | go_size))⟩
  have d3 : decide ((24 : Int) < M) = false := by simp; omega
  by_cases s4 : half < 1
  · have d4 : decide (half < 1) = true := by simpa using s4
    have hno := Lib.hid (HNO.out (.inl (by rw [hsz.out]; simp; omega)))
    go_enter Try.func33, Try.ntmps33
    go_wp2_with fail
    go_ret
    exact ⟨ret_int hno.out.symm, by (repeat' (first | (with_reducible exact Below.refl _ _) | (with_reducible assumption) | (with_reducible refine Below.alloc ?_ ?_ _) | (with_reducible refine Go.Proofs.Ytbfpljnfalopdaa.L.below_drewN ?_ _) | (with_reducible refine Below.drew ?_) | (with_reducible refine Below.setCell ?_ ?_ _) | (with_reducible refine Below.frame ?_ _) | go_size))⟩
  have d4 : decide (half < 1) = false := by simpa using s4
  by_cases s5 : 1048576 < half
  · have d5 : decide (1048576 < half) = true := by simpa using s5
    have hno := Lib.hid (HNO.out (.inl (by rw [hsz.out]; simp; omega)))
    go_enter Try.func33, Try.ntmps33
    go_wp2_with fail
    go_ret
    exact ⟨ret_int hno.out.symm, by (repeat' (first | (with_reducible exact Below.refl _ _) | (with_reducible assumption) | (with_reducible refine Below.alloc ?_ ?_ _) | (with_reducible refine Go.Proofs.Ytbfpljnfalopdaa.L.below_drewN ?_ _) | (with_reducible refine Below.drew ?_) | (with_reducible refine Below.setCell ?_ ?_ _) | (with_reducible refine Below.frame ?_ _) | go_size))⟩
  have d5 : decide (1048576 < half) = false := by simpa using s5
  by_cases s6 : age < 0
  · have d6 : decide (age < 0) = true := by simpa using s6
    have hno := Lib.hid (HNO.out (.inl (by rw [hsz.out]; simp; omega)))
    go_enter Try.func33, Try.ntmps33
    go_wp2_with fail
    go_ret
    exact ⟨ret_int hno.out.symm, by (repeat' (first | (with_reducible exact Below.refl _ _) | (with_reducible assumption) | (with_reducible refine Below.alloc ?_ ?_ _) | (with_reducible refine Go.Proofs.Ytbfpljnfalopdaa.L.below_drewN ?_ _) | (with_reducible refine Below.drew ?_) | (with_reducible refine Below.setCell ?_ ?_ _) | (with_reducible refine Below.frame ?_ _) | go_size))⟩
  have d6 : decide (age < 0) = false := by simpa using s6
  by_cases s7 : 1048576 < age
  · have d7 : decide (1048576 < age) = true := by simpa using s7
    have hno := Lib.hid (HNO.out (.inl (by rw [hsz.out]; simp; omega)))
    go_enter Try.func33, Try.ntmps33
    go_wp2_with fail
    go_ret
    exact ⟨ret_int hno.out.symm, by (repeat' (first | (with_reducible exact Below.refl _ _) | (with_reducible assumption) | (with_reducible refine Below.alloc ?_ ?_ _) | (with_reducible refine Go.Proofs.Ytbfpljnfalopdaa.L.below_drewN ?_ _) | (with_reducible refine Below.drew ?_) | (with_reducible refine Below.setCell ?_ ?_ _) | (with_reducible refine Below.frame ?_ _) | go_size))⟩
  have d7 : decide (1048576 < age) = false := by simpa using s7
  have HS : Hid (Cfg.sizesOk c = true) := Lib.hid (by rw [hsz.out]; simp; omega)
  have hbx := CBox.new w1 (.slice A N ca) (.slice B M cb) half age
  have hbw : Below w1.heap.size w1 (w1.alloc (.cells #[.slice A N ca, .slice B M cb, .int .i64 half, .int .i64 age] 25)) := (Below.refl _ _).alloc (Nat.le_refl _) _
  go_enter Try.func33, Try.ntmps33
  go_wp2_with fail
  go_loopw [3] (fun i wr => ∃ k : Nat, i = .int .i64 (k : Int) ∧ k ≤ N ∧ Hid (Cfg.nodesOk c k = true) ∧ Below w1.heap.size w1 wr ∧ CBox wr w1.heap.size (.slice A N ca) (.slice B M cb) half age) (fun i _ => N - (intOf i).toNat)
  case atStart => exact ⟨0, rfl, by omega, Lib.hid rfl, hbw, hbx⟩
  case round =>
    obtain ⟨k, rfl, hk, hq, hb, hx⟩ := hrel
    clear hbw hbx
    have HX := Lib.hid hx
    obtain ⟨hx0, x0, x1, x2, x3⟩ := hx
    by_cases hkn : k < N
    · have hs := Lib.hid (show Cfg.nodesOk c (k + 1) = Cfg.nodeOk c k (c.nodes.getD k default) by rw [Cfg.nodesOk_succ, hq.out]; rfl)
      have gn := Lib.hid (gN.out k hkn)
      generalize Cfg.nodeOk c k (c.nodes.getD k default) = q at *
      go_wp2_with fail
      refine (gn.out _ hb).mono ?_
      rintro e w3 ⟨rfl, hb3⟩
      have hb4 := keeps_trans hb hb3
      have hx4 := HX.out.on hb3
      clear hb hb3 x0 x1 x2 x3 gn
      cases q
      · have hno := Lib.hid (HNO.out (.inr (.inl (by rw [← HN.out]; exact nodes_false (k := k + 1) (by have := HN.out; omega) hs.out))))
        go_wp2_with fail
        go_ret
        exact ⟨ret_int hno.out.symm, hb4⟩
      · go_wp2_with fail
        go_roundw
        case rel => exact ⟨k + 1, by go_num, by omega, hs, hb4, hx4⟩
        case measure => simp [intOf]; omega
    · have hkN : N ≤ k := by omega
      have HNB : Hid (Cfg.nodesOk c N = true) := Lib.hid (by have := hq.out; rwa [show k = N by omega] at this)
      have hkd : decide (k < N) = false := by simp; omega
      clear hq hkn
      go_wp2_with fail
      go_loopw [4] (fun i wr => ∃ k : Nat, i = .int .i64 (k : Int) ∧ k ≤ M ∧ Hid (Cfg.hostsOk c k = true) ∧ Below w1.heap.size w1 wr ∧ CBox wr w1.heap.size (.slice A N ca) (.slice B M cb) half age) (fun i _ => M - (intOf i).toNat)
      case atStart => exact ⟨0, rfl, by omega, Lib.hid rfl, hb, HX.out⟩
      case round =>
        obtain ⟨k2, rfl, hk2, hq, hbr, hxr⟩ := hrel
        clear hb x0 x1 x2 x3 hx0
        have HX := Lib.hid hxr
        obtain ⟨hx0, x0, x1, x2, x3⟩ := hxr
        by_cases hkn : k2 < M
        · have hkx : k2 < c.hosts.length := by have := HM.out; omega
          obtain ⟨bb, o, hA, hlt, hcell⟩ := row_host HRH.out hkx
          have hgd : c.hosts.getD k2 default = c.hosts[k2] := by rw [List.getD_eq_getElem?_getD, List.getElem?_eq_getElem hkx]; rfl
          have hs := Lib.hid (show Cfg.hostsOk c (k2 + 1) = Cfg.hostOk c.hosts[k2] by rw [Cfg.hostsOk_succ, hq.out, hgd]; rfl)
          have hf := Lib.hid (fun e => hosts_false (c := c) (k := k2 + 1) (by omega) e)
          obtain ⟨d0, d1, d2, d3, d4, d5⟩ := hcell wr hbr
          subst hA
          have hne : ¬ bb = wr.heap.size := by have := hbr.size; omega
          have hne2 : ¬ w1.heap.size = wr.heap.size := by omega
          generalize c.hosts[k2] = x at *
          obtain ⟨f, b, r, ⟨y0, y1, y2⟩⟩ := x
          have hio := Lib.hid (hostOk_iff f b r y0 y1 y2)
          have gv := Lib.hid (VecW.grvalid ⟨y0, y1, y2⟩)
          generalize Vec.valid ⟨y0, y1, y2⟩ = V at *
          unfold Vec.V.val at gv
          simp only at d0 d1 d2 d3 d4 d5
          rw [HM.out] at hf
          clear hgd hkx hcell
          by_cases e0 : f < 0
          · have g0 : decide (f < 0) = true := by simpa using e0
            have hno := Lib.hid (HNO.out (.inr (.inr (hf.out (by rw [hs.out, hio.out]; simp; intros; omega)))))
            go_wp2_with fail
            go_ret
            exact ⟨ret_int hno.out.symm, hbr.alloc hbr.size _⟩
          have g0 : decide (f < 0) = false := by simpa using e0
          by_cases e1 : 100 < f
          · have g1 : decide (100 < f) = true := by simpa using e1
            have hno := Lib.hid (HNO.out (.inr (.inr (hf.out (by rw [hs.out, hio.out]; simp; intros; omega)))))
            go_wp2_with fail
            go_ret
            exact ⟨ret_int hno.out.symm, hbr.alloc hbr.size _⟩
          have g1 : decide (100 < f) = false := by simpa using e1
          by_cases e2 : b < 0
          · have g2 : decide (b < 0) = true := by simpa using e2
            have hno := Lib.hid (HNO.out (.inr (.inr (hf.out (by rw [hs.out, hio.out]; simp; intros; omega)))))
            go_wp2_with fail
            go_ret
            exact ⟨ret_int hno.out.symm, hbr.alloc hbr.size _⟩
          have g2 : decide (b < 0) = false := by simpa using e2
          by_cases e3 : 100 < b
          · have g3 : decide (100 < b) = true := by simpa using e3
            have hno := Lib.hid (HNO.out (.inr (.inr (hf.out (by rw [hs.out, hio.out]; simp; intros; omega)))))
            go_wp2_with fail
            go_ret
            exact ⟨ret_int hno.out.symm, hbr.alloc hbr.size _⟩
          have g3 : decide (100 < b) = false := by simpa using e3
          by_cases e4 : r < 0
          · have g4 : decide (r < 0) = true := by simpa using e4
            have hno := Lib.hid (HNO.out (.inr (.inr (hf.out (by rw [hs.out, hio.out]; simp; intros; omega)))))
            go_wp2_with fail
            go_ret
            exact ⟨ret_int hno.out.symm, hbr.alloc hbr.size _⟩
          have g4 : decide (r < 0) = false := by simpa using e4
          by_cases e5 : 100 < r
          · have g5 : decide (100 < r) = true := by simpa using e5
            have hno := Lib.hid (HNO.out (.inr (.inr (hf.out (by rw [hs.out, hio.out]; simp; intros; omega)))))
            go_wp2_with fail
            go_ret
            exact ⟨ret_int hno.out.symm, hbr.alloc hbr.size _⟩
          have g5 : decide (100 < r) = false := by simpa using e5
          have hok := Lib.hid (show Cfg.hostOk ⟨f, b, r, ⟨y0, y1, y2⟩⟩ = V by rw [hio.out]; simp; intros; omega)
          have hba : Below w1.heap.size w1 (wr.alloc (.cells #[.int .i64 f, .int .i64 b, .int .i64 r, .int .i64 y0, .int .i64 y1, .int .i64 y2] 80)) := hbr.alloc hbr.size _
          have hxa := HX.out.on (w' := wr.alloc (.cells #[.int .i64 f, .int .i64 b, .int .i64 r, .int .i64 y0, .int .i64 y1, .int .i64 y2] 80)) ((Below.refl _ _).alloc (Nat.le_refl _) _)
          have HXA := Lib.hid hxa
          clear hxa
          go_wp2_with fail
          refine (gv.out _).mono ?_
          rintro e w3 ⟨rfl, hb3⟩
          have hb4 := keeps_trans hba hb3
          have hx4 := HXA.out.on hb3
          clear hbr hb3 x0 x1 x2 x3 d0 d1 d2 d3 d4 d5 hba
          cases V
          · have hno := Lib.hid (HNO.out (.inr (.inr (hf.out (by rw [hs.out, hok.out])))))
            go_wp2_with fail
            go_ret
            exact ⟨ret_int hno.out.symm, hb4⟩
          · go_wp2_with fail
            go_roundw
            case rel => exact ⟨k2 + 1, by go_num, by omega, Lib.hid (by rw [hs.out, hok.out]), hb4, hx4⟩
            case measure => simp [intOf]; omega
        · have hyes := Lib.hid (HYES.out HS.out HNB.out (by have := hq.out; rwa [show k2 = M by omega] at this))
          have hkM : M ≤ k2 := by omega
          clear hkn hq
          go_wp2_with fail
          go_ret
          exact ⟨ret_int hyes.out.symm, hbr⟩
end Go.Proofs.Ytbfpljnfalopdaa.CfgW
/-
  Trimmed for this seat: CfgSame.
-/
set_option linter.unusedVariables false
set_option linter.unusedSimpArgs false
namespace Go.Proofs.Ytbfpljnfalopdaa.CfgW
open Go.RowKit Go.Proofs.Ytbfpljnfalopdaa.L

def sameNs : List Cfg.Node → List Cfg.Node → Bool
  | [], [] => true
  | x :: xs, y :: ys => Cfg.sameN x y && sameNs xs ys
  | _, _ => false
theorem sameNs_iff : ∀ xs ys, sameNs xs ys = true ↔ xs = ys
  | [], [] => by simp [sameNs]
  | [], y :: ys => by simp [sameNs]
  | x :: xs, [] => by simp [sameNs]
  | x :: xs, y :: ys => by simp [sameNs, Cfg.sameN_iff, sameNs_iff xs ys]
def sameHs : List Cfg.Host → List Cfg.Host → Bool
  | [], [] => true
  | x :: xs, y :: ys => Cfg.sameH x y && sameHs xs ys
  | _, _ => false
theorem sameHs_iff : ∀ xs ys, sameHs xs ys = true ↔ xs = ys
  | [], [] => by simp [sameHs]
  | [], y :: ys => by simp [sameHs]
  | x :: xs, [] => by simp [sameHs]
  | x :: xs, y :: ys => by simp [sameHs, Cfg.sameH_iff, sameHs_iff xs ys]
theorem sameNs_no {xs ys : List Cfg.Node} (h : xs ≠ ys) : sameNs xs ys = false := by rw [Bool.eq_false_iff]; exact fun e => h ((sameNs_iff xs ys).1 e)
theorem sameHs_no {xs ys : List Cfg.Host} (h : xs ≠ ys) : sameHs xs ys = false := by rw [Bool.eq_false_iff]; exact fun e => h ((sameHs_iff xs ys).1 e)
theorem sameNs_self (xs : List Cfg.Node) : sameNs xs xs = true := (sameNs_iff xs xs).2 rfl
theorem sameHs_self (xs : List Cfg.Host) : sameHs xs xs = true := (sameHs_iff xs xs).2 rfl
theorem ne_at {α : Type} {xs ys : List α} {k : Nat} (h1 : k < xs.length) (h2 : k < ys.length) (h : xs[k] ≠ ys[k]) : xs ≠ ys := fun e => h (by subst e; rfl)
theorem take_eq {α : Type} {xs ys : List α} {k : Nat} (h : xs.take k = ys.take k) (h1 : xs.length ≤ k) (h2 : ys.length ≤ k) : xs = ys := by rwa [List.take_of_length_le h1, List.take_of_length_le h2] at h
theorem take_next {α : Type} {xs ys : List α} {k : Nat} (h1 : k < xs.length) (h2 : k < ys.length) (h : xs.take k = ys.take k) (e : xs[k] = ys[k]) : xs.take (k + 1) = ys.take (k + 1) := by
  rw [List.take_add_one, List.take_add_one, h, List.getElem?_eq_getElem h1, List.getElem?_eq_getElem h2, e]

def sameC (a b : Cfg.C) : Bool := sameNs a.nodes b.nodes && (sameHs a.hosts b.hosts && (a.half == b.half && a.age == b.age))
theorem sameC_self (a : Cfg.C) : sameC a a = true := by unfold sameC; simp [sameNs_self, sameHs_self]

end Go.Proofs.Ytbfpljnfalopdaa.CfgW
/-
  Trimmed for this seat: CfgRefSame.
-/
set_option linter.unusedVariables false
set_option linter.unusedSimpArgs false
namespace Go.Proofs.Ytbfpljnfalopdaa.CfgW
open Go.RowKit Go.Proofs.Ytbfpljnfalopdaa.L

theorem sameC_false {a b : Cfg.C} (h : a.nodes ≠ b.nodes ∨ a.hosts ≠ b.hosts ∨ a.half ≠ b.half ∨ a.age ≠ b.age) : sameC a b = false := by
  unfold sameC
  rcases h with h | h | h | h
  · rw [sameNs_no h]; rfl
  · rw [sameHs_no h]; simp
  · rw [show (a.half == b.half) = false by simpa using h]; simp
  · rw [show (a.age == b.age) = false by simpa using h]; simp
theorem sameC_true {a b : Cfg.C} (h1 : a.nodes = b.nodes) (h2 : a.hosts = b.hosts) (h3 : a.half = b.half) (h4 : a.age = b.age) : sameC a b = true := by
  unfold sameC
  rw [h1, h2, h3, h4]
  simp [sameNs_self, sameHs_self]

end Go.Proofs.Ytbfpljnfalopdaa.CfgW
