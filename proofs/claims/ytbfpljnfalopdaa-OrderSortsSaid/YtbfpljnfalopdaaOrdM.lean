/-
  Merged texts: OrdSub, OrdLevel, OrdNodes.
-/
import Derived.Test.YtbfpljnfalopdaaCollect
import Derived.Test.YtbfpljnfalopdaaOrdWalk
import Derived.Test.YtbfpljnfalopdaaFixM
/-
  What all tenants below a node have used, as a number; a node's level: both sides.
-/
set_option linter.unusedVariables false
set_option linter.unusedSimpArgs false
namespace Go.Proofs.Ytbfpljnfalopdaa.OrdW
open Go Go.RowKit Go.Proofs.Ytbfpljnfalopdaa.L Go.Proofs.Ytbfpljnfalopdaa.CfgW

def fdec (k : Nat) : List Value := [.int .u64 (k : Int)]
/-- A row of numbers. -/
def FSl (w : World) (v : Value) (h : List Nat) : Prop := ∃ A cap, v = .slice A h.length cap ∧ RowOf w A 1 fdec h ∧ h.length ≤ maxLen ∧ ∀ k ∈ h, k ≤ Fix.top
theorem FSl.below {w w' : World} {v : Value} {h : List Nat} (hh : FSl w v h) (hb : Below w.heap.size w w') : FSl w' v h := by
  obtain ⟨A, cap, e, hr, hl, ht⟩ := hh
  exact ⟨A, cap, e, hr.below hb, hl, ht⟩
theorem row_fix {w : World} {A : Option Addr} {xs : List Nat} (h : RowOf w A 1 fdec xs) {k : Nat} (hk : k < xs.length) : ∃ b o, A = some ⟨b, o, none⟩ ∧ b < w.heap.size ∧ ∀ w', Below w.heap.size w w' → w'.cell? ⟨b, o + k, none⟩ = some (.int .u64 (xs[k] : Int)) := by
  obtain ⟨b, o, rfl, hlt, hc⟩ := h (by intro e; subst e; simp at hk)
  have hx := List.getElem?_eq_getElem hk
  refine ⟨b, o, rfl, hlt, fun w' hb => ?_⟩
  have := hc k xs[k] hx 0 (.int .u64 (xs[k] : Int)) rfl
  rw [Nat.add_zero, Nat.mul_one] at this
  exact (hb.cell (p := ⟨b, o + k, none⟩) hlt).trans this
theorem below_len {c : Cfg.C} (hN : c.nodes.length ≤ 1000000) (n : Int) : (Tree.below c n).length ≤ 1000000 := by
  have h1 := List.length_filter_le (fun t => Tree.on c n t) (Cfg.leaves c)
  have h2 := List.length_filter_le (fun (i : Nat) => Cfg.leaf c (i : Int)) (List.range c.nodes.length)
  rw [List.length_range] at h2
  unfold Tree.below
  unfold Cfg.leaves at h1 ⊢
  omega
def subStep (h : List Nat) (s t : Nat) : Nat := if t < h.length then Fix.add s (h.getD t 0) else s
def subTo (c : Cfg.C) (h : List Nat) (n : Int) (k : Nat) : Nat := ((Tree.below c n).take k).foldl (subStep h) 0
theorem subTo_succ (c : Cfg.C) (h : List Nat) (n : Int) (k : Nat) (hk : k < (Tree.below c n).length) : subTo c h n (k + 1) = if (Tree.below c n)[k] < h.length then Fix.add (subTo c h n k) (h.getD (Tree.below c n)[k] 0) else subTo c h n k := by
  unfold subTo
  rw [List.take_succ_eq_append_getElem hk, List.foldl_append]
  rfl
theorem subTo_all (c : Cfg.C) (h : List Nat) (n : Int) (k : Nat) (hk : (Tree.below c n).length ≤ k) : subTo c h n k = Ord.subtree c h n := by
  unfold subTo Ord.subtree
  rw [List.take_of_length_le hk]
  rfl
theorem foldStep_le (h : List Nat) : ∀ (l : List Nat) (s : Nat), s ≤ Fix.top → l.foldl (subStep h) s ≤ Fix.top
  | [], s, hs => hs
  | t :: l, s, hs => by
    refine foldStep_le h l _ ?_
    unfold subStep
    split
    · exact Fix.add_lt _ _
    · exact hs
theorem subTo_le (c : Cfg.C) (h : List Nat) (n : Int) (k : Nat) : subTo c h n k ≤ Fix.top := foldStep_le h _ 0 (Nat.zero_le _)
theorem subtree_le (c : Cfg.C) (h : List Nat) (n : Int) : Ord.subtree c h n ≤ Fix.top := foldStep_le h _ 0 (Nat.zero_le _)

set_option maxRecDepth 100000 in
set_option maxHeartbeats 4000000 in
theorem subtree_any {w : World} {v va : Value} {c : Cfg.C} {h : List Nat} (hc : CfgAt w v c) (hN : c.nodes.length ≤ 1000000) (ha : FSl w va h) (n : Int) : GivesAt Try.prog w 91 #[v, va, .int .i64 n] (.int .u64 (Ord.subtree c h n : Nat)) := by
  intro w1 hb1
  replace hc := hc.below hb1
  replace ha := ha.below hb1
  clear hb1
  have gB := Lib.hid (fun W hW => below_any hc hN n W hW)
  obtain ⟨v1, v2, rfl, -⟩ := id hc
  obtain ⟨D, cd, rfl, hrD, hlD, htop⟩ := id ha
  have hll := below_len hN n
  obtain ⟨half, hhalf⟩ : ∃ z, c.half = z := ⟨_, rfl⟩
  obtain ⟨age, hage⟩ : ∃ z, c.age = z := ⟨_, rfl⟩
  rw [hhalf, hage] at gB ⊢
  have HT := Lib.hid (subTo_all c h n)
  have HS0 := Lib.hid (subTo_succ c h n)
  have HLt := Lib.hid (subTo_le c h n)
  have HRD := Lib.hid hrD
  have HTop := Lib.hid htop
  obtain ⟨H, hH⟩ : ∃ H, h.length = H := ⟨_, rfl⟩
  have HH := Lib.hid hH
  rw [hH] at hlD ⊢
  have HZ := Lib.hid (show ((0 : Nat) : Int) = ((subTo c h n 0 : Nat) : Int) from rfl)
  obtain ⟨S, hS⟩ : ∃ S, Ord.subtree c h n = S := ⟨_, rfl⟩
  have HS := Lib.hid hS
  rw [hS]
  clear hhalf hage hrD htop ha hS hH hc
  have hbx := CBox.new w1 v1 v2 half age
  have hbw : Below w1.heap.size w1 (w1.alloc (.cells #[v1, v2, .int .i64 half, .int .i64 age] 25)) := (Below.refl _ _).alloc (Nat.le_refl _) _
  go_enter Try.func91, Try.ntmps91
  have Hbw := Lib.hid hbw
  obtain ⟨hx0, x0, x1, x2, x3⟩ := hbx
  clear hbw
  go_wp2_with fail
  refine (gB.out _ Hbw.out).mono ?_
  rintro e w2 ⟨v2, rfl, hI, hb2⟩
  have HB2 := Lib.hid (keeps_trans Hbw.out hb2)
  obtain ⟨A2, c2, rfl, hc2⟩ := ints_cell hI
  have HC2 := Lib.hid hc2
  obtain ⟨L, hL⟩ : ∃ L, (Tree.below c n).length = L := ⟨_, rfl⟩
  have HL := Lib.hid hL
  rw [hL] at hll ⊢
  clear hb2 hI hc2 x0 x1 x2 x3 hL gB
  go_wp2_with fail
  go_loopw [7, 14] (fun s i wr => ∃ k : Nat, i = .int .i64 (k : Int) ∧ k ≤ L ∧ s = .int .u64 (subTo c h n k : Nat) ∧ Below w2.heap.size w2 wr) (fun _ i _ => L - (intOf i).toNat)
  case atStart => exact ⟨0, rfl, by omega, rfl, Below.refl _ _⟩
  case round =>
    obtain ⟨k, rfl, hk, rfl, hb⟩ := hrel
    rename World => wr
    by_cases hkL : k < L
    · have hkp : k < (Tree.below c n).length := by rw [HL.out]; exact hkL
      have hsu := HS0.out k hkp
      obtain ⟨x, hx⟩ : ∃ x, (Tree.below c n)[k] = x := ⟨_, rfl⟩
      rw [hx] at hsu
      have hxe : (Tree.below c n)[k]? = some x := by rw [List.getElem?_eq_getElem hkp, hx]
      obtain ⟨gp, rfl, hgp1, hgp2, hcx⟩ := HC2.out k x hxe
      have hcx2 := (hb.cell (p := ⟨gp, k, none⟩) hgp2).trans hcx
      have hle := HLt.out k
      have Hb := Lib.hid hb
      clear hxe hx hcx hkp
      obtain ⟨s, hs⟩ : ∃ s, subTo c h n k = s := ⟨_, rfl⟩
      rw [hs] at hle hsu ⊢
      by_cases hxh : x < H
      · have hxl : x < h.length := by rw [HH.out]; exact hxh
        obtain ⟨bd, od, rfl, hlt1, hc1⟩ := row_fix HRD.out hxl
        have hc1' := hc1 wr (keeps_trans HB2.out hb)
        have htop : h[x] ≤ Fix.top := HTop.out _ (List.getElem_mem hxl)
        have hE := Lib.hid (show subTo c h n (k + 1) = Fix.add s h[x] by rw [hsu, if_pos hxl, List.getD_eq_getElem?_getD, List.getElem?_eq_getElem hxl]; rfl)
        have GA := Lib.hid (FixW.gadd s h[x] hle htop)
        generalize h[x] = y at *
        clear hsu hc1 hb hs htop hle hxl
        go_wp2_with fail
        refine (GA.out _).mono ?_
        rintro e w3 ⟨rfl, hb3⟩
        have HB3 := Lib.hid hb3
        clear hb3
        go_wp2_with fail
        go_roundw
        case rel => exact ⟨k + 1, by go_num, by omega, by rw [hE.out], keeps_trans Hb.out HB3.out⟩
        case measure => simp [intOf]; omega
      · have hE := Lib.hid (show subTo c h n (k + 1) = s by rw [hsu, if_neg (by rw [HH.out]; exact hxh)])
        clear hsu hb hs hle
        go_wp2_with fail
        go_roundw
        case rel => exact ⟨k + 1, by go_num, by omega, by rw [hE.out], Hb.out⟩
        case measure => simp [intOf]; omega
    · have hE := Lib.hid (show subTo c h n k = S by rw [← HS.out]; exact HT.out k (by rw [HL.out]; omega))
      have hkd : decide (k < L) = false := by simpa using hkL
      have HF := Lib.hid (keeps_trans HB2.out hb)
      clear hkL hb
      rw [hE.out]
      go_wp2_with fail
      go_ret
      exact ⟨rfl, HF.out⟩

set_option maxRecDepth 100000 in
set_option maxHeartbeats 4000000 in
theorem rsubtree_any {w : World} {v va : Value} {c : Cfg.C} {h : List Nat} (hc : CfgAt w v c) (hN : c.nodes.length ≤ 1000000) (ha : FSl w va h) (n : Int) : GivesAt Try.prog w 82 #[v, va, .int .i64 n] (.int .u64 (Ord.subtree c h n : Nat)) := by
  intro w1 hb1
  replace hc := hc.below hb1
  replace ha := ha.below hb1
  clear hb1
  have gB := Lib.hid (fun W hW => rbelow_any hc hN n W hW)
  obtain ⟨v1, v2, rfl, -⟩ := id hc
  obtain ⟨D, cd, rfl, hrD, hlD, htop⟩ := id ha
  have hll := below_len hN n
  obtain ⟨half, hhalf⟩ : ∃ z, c.half = z := ⟨_, rfl⟩
  obtain ⟨age, hage⟩ : ∃ z, c.age = z := ⟨_, rfl⟩
  rw [hhalf, hage] at gB ⊢
  have HT := Lib.hid (subTo_all c h n)
  have HS0 := Lib.hid (subTo_succ c h n)
  have HLt := Lib.hid (subTo_le c h n)
  have HRD := Lib.hid hrD
  have HTop := Lib.hid htop
  obtain ⟨H, hH⟩ : ∃ H, h.length = H := ⟨_, rfl⟩
  have HH := Lib.hid hH
  rw [hH] at hlD ⊢
  have HZ := Lib.hid (show ((0 : Nat) : Int) = ((subTo c h n 0 : Nat) : Int) from rfl)
  obtain ⟨S, hS⟩ : ∃ S, Ord.subtree c h n = S := ⟨_, rfl⟩
  have HS := Lib.hid hS
  rw [hS]
  clear hhalf hage hrD htop ha hS hH hc
  have hbx := CBox.new w1 v1 v2 half age
  have hbw : Below w1.heap.size w1 (w1.alloc (.cells #[v1, v2, .int .i64 half, .int .i64 age] 25)) := (Below.refl _ _).alloc (Nat.le_refl _) _
  go_enter Try.func82, Try.ntmps82
  have Hbw := Lib.hid hbw
  obtain ⟨hx0, x0, x1, x2, x3⟩ := hbx
  clear hbw
  go_wp2_with fail
  refine (gB.out _ Hbw.out).mono ?_
  rintro e w2 ⟨v2, rfl, hI, hb2⟩
  have HB2 := Lib.hid (keeps_trans Hbw.out hb2)
  obtain ⟨A2, c2, rfl, hc2⟩ := ints_cell hI
  have HC2 := Lib.hid hc2
  obtain ⟨L, hL⟩ : ∃ L, (Tree.below c n).length = L := ⟨_, rfl⟩
  have HL := Lib.hid hL
  rw [hL] at hll ⊢
  clear hb2 hI hc2 x0 x1 x2 x3 hL gB
  go_wp2_with fail
  go_loopw [7, 9] (fun s i wr => ∃ k : Nat, i = .int .i64 (k : Int) ∧ k ≤ L ∧ s = .int .u64 (subTo c h n k : Nat) ∧ Below w2.heap.size w2 wr) (fun _ i _ => L - (intOf i).toNat)
  case atStart => exact ⟨0, rfl, by omega, rfl, Below.refl _ _⟩
  case round =>
    obtain ⟨k, rfl, hk, rfl, hb⟩ := hrel
    rename World => wr
    by_cases hkL : k < L
    · have hkp : k < (Tree.below c n).length := by rw [HL.out]; exact hkL
      have hsu := HS0.out k hkp
      obtain ⟨x, hx⟩ : ∃ x, (Tree.below c n)[k] = x := ⟨_, rfl⟩
      rw [hx] at hsu
      have hxe : (Tree.below c n)[k]? = some x := by rw [List.getElem?_eq_getElem hkp, hx]
      obtain ⟨gp, rfl, hgp1, hgp2, hcx⟩ := HC2.out k x hxe
      have hcx2 := (hb.cell (p := ⟨gp, k, none⟩) hgp2).trans hcx
      have hle := HLt.out k
      have Hb := Lib.hid hb
      clear hxe hx hcx hkp
      obtain ⟨s, hs⟩ : ∃ s, subTo c h n k = s := ⟨_, rfl⟩
      rw [hs] at hle hsu ⊢
      by_cases hxh : x < H
      · have hxl : x < h.length := by rw [HH.out]; exact hxh
        obtain ⟨bd, od, rfl, hlt1, hc1⟩ := row_fix HRD.out hxl
        have hc1' := hc1 wr (keeps_trans HB2.out hb)
        have htop : h[x] ≤ Fix.top := HTop.out _ (List.getElem_mem hxl)
        have hE := Lib.hid (show subTo c h n (k + 1) = Fix.add s h[x] by rw [hsu, if_pos hxl, List.getD_eq_getElem?_getD, List.getElem?_eq_getElem hxl]; rfl)
        have GA := Lib.hid (FixW.gradd s h[x] hle htop)
        generalize h[x] = y at *
        clear hsu hc1 hb hs htop hle hxl
        go_wp2_with fail
        refine (GA.out _).mono ?_
        rintro e w3 ⟨rfl, hb3⟩
        have HB3 := Lib.hid hb3
        clear hb3
        go_wp2_with fail
        go_roundw
        case rel => exact ⟨k + 1, by go_num, by omega, by rw [hE.out], keeps_trans Hb.out HB3.out⟩
        case measure => simp [intOf]; omega
      · have hE := Lib.hid (show subTo c h n (k + 1) = s by rw [hsu, if_neg (by rw [HH.out]; exact hxh)])
        clear hsu hb hs hle
        go_wp2_with fail
        go_roundw
        case rel => exact ⟨k + 1, by go_num, by omega, by rw [hE.out], Hb.out⟩
        case measure => simp [intOf]; omega
    · have hE := Lib.hid (show subTo c h n k = S by rw [← HS.out]; exact HT.out k (by rw [HL.out]; omega))
      have hkd : decide (k < L) = false := by simpa using hkL
      have HF := Lib.hid (keeps_trans HB2.out hb)
      clear hkL hb
      rw [hE.out]
      go_wp2_with fail
      go_ret
      exact ⟨rfl, HF.out⟩
end Go.Proofs.Ytbfpljnfalopdaa.OrdW
/-
  A node's level: both sides.
-/
set_option linter.unusedVariables false
set_option linter.unusedSimpArgs false
namespace Go.Proofs.Ytbfpljnfalopdaa.OrdW
open Go Go.RowKit Go.Proofs.Ytbfpljnfalopdaa.L Go.Proofs.Ytbfpljnfalopdaa.CfgW

/-- All weights are whole numbers of 64 bits. -/
def WOk (c : Cfg.C) : Prop := ∀ x ∈ c.nodes, InI x.weight
theorem weight_in {c : Cfg.C} (h : WOk c) (n : Int) : -9223372036854775808 ≤ Ord.weight c n ∧ Ord.weight c n ≤ 9223372036854775807 := by
  unfold Ord.weight
  split
  · rename_i hn
    have hk : n.toNat < c.nodes.length := by omega
    rw [List.getD_eq_getElem?_getD, List.getElem?_eq_getElem hk, Option.getD_some]
    have := h _ (List.getElem_mem hk)
    unfold InI at this
    omega
  · omega

set_option maxRecDepth 100000 in
set_option maxHeartbeats 4000000 in
theorem level_any {w : World} {v va : Value} {c : Cfg.C} {h : List Nat} (hc : CfgAt w v c) (hN : c.nodes.length ≤ 1000000) (hW : WOk c) (ha : FSl w va h) (n : Int) : GivesAt Try.prog w 80 #[v, va, .int .i64 n] (.int .u64 (Ord.level c h n : Nat)) := by
  intro w1 hb1
  replace hc := hc.below hb1
  replace ha := ha.below hb1
  clear hb1
  have GS := Lib.hid (subtree_any hc hN ha n)
  have GO := Lib.hid (FixW.gof (Ord.weight c n) (weight_in hW n).1 (weight_in hW n).2)
  have GD := Lib.hid (FixW.gdiv (Ord.subtree c h n) (Fix.ofInt (Ord.weight c n)) (subtree_le c h n) (Fix.ofInt_lt _))
  obtain ⟨D, cd, rfl, -⟩ := id ha
  obtain ⟨v1, v2, rfl, ⟨A, ca, rfl, hrA, hlA⟩, -⟩ := id hc
  obtain ⟨half, hhalf⟩ : ∃ z, c.half = z := ⟨_, rfl⟩
  obtain ⟨age, hage⟩ : ∃ z, c.age = z := ⟨_, rfl⟩
  obtain ⟨H, hH⟩ : ∃ H, h.length = H := ⟨_, rfl⟩
  obtain ⟨N, hNe⟩ : ∃ N, c.nodes.length = N := ⟨_, rfl⟩
  have HN := Lib.hid hNe
  have HR := Lib.hid hrA
  have HL := Lib.hid (show Ord.level c h n = Fix.quo (Ord.subtree c h n) (Fix.ofInt (Ord.weight c n)) from rfl)
  obtain ⟨lv, hlv⟩ : ∃ x, Ord.level c h n = x := ⟨_, rfl⟩
  obtain ⟨s, hs⟩ : ∃ x, Ord.subtree c h n = x := ⟨_, rfl⟩
  rw [hhalf, hage, hH, hNe, hs] at GS
  rw [hlv, hs] at HL
  rw [hs] at GD
  rw [hhalf, hage, hH, hNe, hlv]
  have hwt : (0 ≤ n ∧ n < (N : Int) → ∃ k : Nat, n = (k : Int) ∧ k < c.nodes.length ∧ ∃ hk : k < c.nodes.length, Ord.weight c n = max 1 (c.nodes[k]).weight) := fun hn => by
    have hk : n.toNat < c.nodes.length := by omega
    refine ⟨n.toNat, by omega, hk, hk, ?_⟩
    unfold Ord.weight
    rw [if_pos (by omega), List.getD_eq_getElem?_getD, List.getElem?_eq_getElem hk, Option.getD_some]
  have hwn : ¬ (0 ≤ n ∧ n < (N : Int)) → Ord.weight c n = 1 := fun hn => by unfold Ord.weight; rw [if_neg (by rw [hNe]; exact hn)]
  generalize Ord.weight c n = wt at *
  have HWt := Lib.hid hwt
  have HWn := Lib.hid hwn
  clear hhalf hage ha hH hc hrA hlA hNe hlv hs hwt hwn
  have hbx := CBox.new w1 (.slice A N ca) v2 half age
  have hbw : Below w1.heap.size w1 (w1.alloc (.cells #[.slice A N ca, v2, .int .i64 half, .int .i64 age] 25)) := (Below.refl _ _).alloc (Nat.le_refl _) _
  have HBW := Lib.hid hbw
  obtain ⟨y0, y1, y2, y3, y4⟩ := hbx
  have gs := GS
  have gd := Lib.hid (GD.out.val (show _ = .int .u64 (lv : Int) by rw [HL.out]))
  clear hbw GD GS
  by_cases hn : 0 ≤ n ∧ n < (N : Int)
  · obtain ⟨k, rfl, hkt, hk', hwe⟩ := HWt.out hn
    obtain ⟨bA, oA, rfl, hbA, hcA⟩ := row_node HR.out hkt
    have Q1 := (hcA _ HBW.out).2.1
    have HWE := Lib.hid hwe
    clear hwe
    generalize (c.nodes[k]).weight = x at *
    have hkN : k < N := by omega
    have h0 : (0 : Int) ≤ (k : Int) := by omega
    clear hcA hkt hk' hn
    go_enter Try.func80, Try.ntmps80
    go_wp2_with fail
    refine (gs.out _ HBW.out).mono ?_
    rintro e w2 ⟨rfl, hb2⟩
    have HB2 := Lib.hid (keeps_trans HBW.out hb2)
    clear hb2 Q1 y0 y1 y2 y3 y4
    go_wp2_with fail
    rw [← HWE.out]
    refine (GO.out _).mono ?_
    rintro e w3 ⟨rfl, hb3⟩
    have HB3 := Lib.hid (keeps_trans HB2.out hb3)
    clear hb3
    go_wp2_with fail
    refine (gd.out _).mono ?_
    rintro e w4 ⟨rfl, hb4⟩
    have HB4 := Lib.hid (keeps_trans HB3.out hb4)
    clear hb4
    go_wp2_with fail
    go_ret
    exact ⟨rfl, HB4.out⟩
  · have hwe := HWn.out hn
    subst hwe
    have hcond : (0 ≤ n ∧ ¬ n < (N : Int)) ∨ ¬ 0 ≤ n := by omega
    clear hn
    rcases hcond with ⟨h0, h1⟩ | h0
    · go_enter Try.func80, Try.ntmps80
      go_wp2_with fail
      refine (gs.out _ HBW.out).mono ?_
      rintro e w2 ⟨rfl, hb2⟩
      have HB2 := Lib.hid (keeps_trans HBW.out hb2)
      clear hb2 y0 y1 y2 y3 y4
      go_wp2_with fail
      refine (GO.out _).mono ?_
      rintro e w3 ⟨rfl, hb3⟩
      have HB3 := Lib.hid (keeps_trans HB2.out hb3)
      clear hb3
      go_wp2_with fail
      refine (gd.out _).mono ?_
      rintro e w4 ⟨rfl, hb4⟩
      have HB4 := Lib.hid (keeps_trans HB3.out hb4)
      clear hb4
      go_wp2_with fail
      go_ret
      exact ⟨rfl, HB4.out⟩
    · go_enter Try.func80, Try.ntmps80
      go_wp2_with fail
      refine (gs.out _ HBW.out).mono ?_
      rintro e w2 ⟨rfl, hb2⟩
      have HB2 := Lib.hid (keeps_trans HBW.out hb2)
      clear hb2 y0 y1 y2 y3 y4
      go_wp2_with fail
      refine (GO.out _).mono ?_
      rintro e w3 ⟨rfl, hb3⟩
      have HB3 := Lib.hid (keeps_trans HB2.out hb3)
      clear hb3
      go_wp2_with fail
      refine (gd.out _).mono ?_
      rintro e w4 ⟨rfl, hb4⟩
      have HB4 := Lib.hid (keeps_trans HB3.out hb4)
      clear hb4
      go_wp2_with fail
      go_ret
      exact ⟨rfl, HB4.out⟩

set_option maxRecDepth 100000 in
set_option maxHeartbeats 4000000 in
theorem rlevel_any {w : World} {v va : Value} {c : Cfg.C} {h : List Nat} (hc : CfgAt w v c) (hN : c.nodes.length ≤ 1000000) (hW : WOk c) (ha : FSl w va h) (n : Int) : GivesAt Try.prog w 71 #[v, va, .int .i64 n] (.int .u64 (Ord.level c h n : Nat)) := by
  intro w1 hb1
  replace hc := hc.below hb1
  replace ha := ha.below hb1
  clear hb1
  have GS := Lib.hid (rsubtree_any hc hN ha n)
  have GO := Lib.hid (FixW.grof (Ord.weight c n) (weight_in hW n).1 (weight_in hW n).2)
  have GD := Lib.hid (FixW.grdiv (Ord.subtree c h n) (Fix.ofInt (Ord.weight c n)) (subtree_le c h n) (Fix.ofInt_lt _))
  obtain ⟨D, cd, rfl, -⟩ := id ha
  obtain ⟨v1, v2, rfl, ⟨A, ca, rfl, hrA, hlA⟩, -⟩ := id hc
  obtain ⟨half, hhalf⟩ : ∃ z, c.half = z := ⟨_, rfl⟩
  obtain ⟨age, hage⟩ : ∃ z, c.age = z := ⟨_, rfl⟩
  obtain ⟨H, hH⟩ : ∃ H, h.length = H := ⟨_, rfl⟩
  obtain ⟨N, hNe⟩ : ∃ N, c.nodes.length = N := ⟨_, rfl⟩
  have HN := Lib.hid hNe
  have HR := Lib.hid hrA
  have HL := Lib.hid (show Ord.level c h n = Fix.quo (Ord.subtree c h n) (Fix.ofInt (Ord.weight c n)) from rfl)
  obtain ⟨lv, hlv⟩ : ∃ x, Ord.level c h n = x := ⟨_, rfl⟩
  obtain ⟨s, hs⟩ : ∃ x, Ord.subtree c h n = x := ⟨_, rfl⟩
  rw [hhalf, hage, hH, hNe, hs] at GS
  rw [hlv, hs] at HL
  rw [hs] at GD
  rw [hhalf, hage, hH, hNe, hlv]
  have hwt : (0 ≤ n ∧ n < (N : Int) → ∃ k : Nat, n = (k : Int) ∧ k < c.nodes.length ∧ ∃ hk : k < c.nodes.length, Ord.weight c n = max 1 (c.nodes[k]).weight) := fun hn => by
    have hk : n.toNat < c.nodes.length := by omega
    refine ⟨n.toNat, by omega, hk, hk, ?_⟩
    unfold Ord.weight
    rw [if_pos (by omega), List.getD_eq_getElem?_getD, List.getElem?_eq_getElem hk, Option.getD_some]
  have hwn : ¬ (0 ≤ n ∧ n < (N : Int)) → Ord.weight c n = 1 := fun hn => by unfold Ord.weight; rw [if_neg (by rw [hNe]; exact hn)]
  generalize Ord.weight c n = wt at *
  have HWt := Lib.hid hwt
  have HWn := Lib.hid hwn
  clear hhalf hage ha hH hc hrA hlA hNe hlv hs hwt hwn
  have hbx := CBox.new w1 (.slice A N ca) v2 half age
  have hbw : Below w1.heap.size w1 (w1.alloc (.cells #[.slice A N ca, v2, .int .i64 half, .int .i64 age] 25)) := (Below.refl _ _).alloc (Nat.le_refl _) _
  have HBW := Lib.hid hbw
  obtain ⟨y0, y1, y2, y3, y4⟩ := hbx
  have gs := GS
  have gd := Lib.hid (GD.out.val (show _ = .int .u64 (lv : Int) by rw [HL.out]))
  clear hbw GD GS
  by_cases hn : 0 ≤ n ∧ n < (N : Int)
  · obtain ⟨k, rfl, hkt, hk', hwe⟩ := HWt.out hn
    obtain ⟨bA, oA, rfl, hbA, hcA⟩ := row_node HR.out hkt
    have Q1 := (hcA _ HBW.out).2.1
    have HWE := Lib.hid hwe
    clear hwe
    generalize (c.nodes[k]).weight = x at *
    have hkN : k < N := by omega
    have h0 : (0 : Int) ≤ (k : Int) := by omega
    clear hcA hkt hk' hn
    go_enter Try.func71, Try.ntmps71
    go_wp2_with fail
    refine (gs.out _ HBW.out).mono ?_
    rintro e w2 ⟨rfl, hb2⟩
    have HB2 := Lib.hid (keeps_trans HBW.out hb2)
    clear hb2 Q1 y0 y1 y2 y3 y4
    go_wp2_with fail
    rw [← HWE.out]
    refine (GO.out _).mono ?_
    rintro e w3 ⟨rfl, hb3⟩
    have HB3 := Lib.hid (keeps_trans HB2.out hb3)
    clear hb3
    go_wp2_with fail
    refine (gd.out _).mono ?_
    rintro e w4 ⟨rfl, hb4⟩
    have HB4 := Lib.hid (keeps_trans HB3.out hb4)
    clear hb4
    go_wp2_with fail
    go_ret
    exact ⟨rfl, HB4.out⟩
  · have hwe := HWn.out hn
    subst hwe
    have hcond : (0 ≤ n ∧ ¬ n < (N : Int)) ∨ ¬ 0 ≤ n := by omega
    clear hn
    rcases hcond with ⟨h0, h1⟩ | h0
    · go_enter Try.func71, Try.ntmps71
      go_wp2_with fail
      refine (gs.out _ HBW.out).mono ?_
      rintro e w2 ⟨rfl, hb2⟩
      have HB2 := Lib.hid (keeps_trans HBW.out hb2)
      clear hb2 y0 y1 y2 y3 y4
      go_wp2_with fail
      refine (GO.out _).mono ?_
      rintro e w3 ⟨rfl, hb3⟩
      have HB3 := Lib.hid (keeps_trans HB2.out hb3)
      clear hb3
      go_wp2_with fail
      refine (gd.out _).mono ?_
      rintro e w4 ⟨rfl, hb4⟩
      have HB4 := Lib.hid (keeps_trans HB3.out hb4)
      clear hb4
      go_wp2_with fail
      go_ret
      exact ⟨rfl, HB4.out⟩
    · go_enter Try.func71, Try.ntmps71
      go_wp2_with fail
      refine (gs.out _ HBW.out).mono ?_
      rintro e w2 ⟨rfl, hb2⟩
      have HB2 := Lib.hid (keeps_trans HBW.out hb2)
      clear hb2 y0 y1 y2 y3 y4
      go_wp2_with fail
      refine (GO.out _).mono ?_
      rintro e w3 ⟨rfl, hb3⟩
      have HB3 := Lib.hid (keeps_trans HB2.out hb3)
      clear hb3
      go_wp2_with fail
      refine (gd.out _).mono ?_
      rintro e w4 ⟨rfl, hb4⟩
      have HB4 := Lib.hid (keeps_trans HB3.out hb4)
      clear hb4
      go_wp2_with fail
      go_ret
      exact ⟨rfl, HB4.out⟩

end Go.Proofs.Ytbfpljnfalopdaa.OrdW
/-
  Which of two nodes comes first: the row's own nodes.
-/
set_option linter.unusedVariables false
set_option linter.unusedSimpArgs false
namespace Go.Proofs.Ytbfpljnfalopdaa.OrdW
open Go Go.RowKit Go.Proofs.Ytbfpljnfalopdaa.L Go.Proofs.Ytbfpljnfalopdaa.CfgW

/-- A state's nine cells in a block. -/
structure SBox (W : World) (b : Nat) (v1 v2 : Value) (half age now next : Int) (vp vr vh : Value) : Prop where
  lt : b < W.heap.size
  c0 : W.cell? ⟨b, 0, none⟩ = some v1
  c1 : W.cell? ⟨b, 1, none⟩ = some v2
  c2 : W.cell? ⟨b, 2, none⟩ = some (.int .i64 half)
  c3 : W.cell? ⟨b, 3, none⟩ = some (.int .i64 age)
  c4 : W.cell? ⟨b, 4, none⟩ = some (.int .i64 now)
  c5 : W.cell? ⟨b, 5, none⟩ = some (.int .i64 next)
  c6 : W.cell? ⟨b, 6, none⟩ = some vp
  c7 : W.cell? ⟨b, 7, none⟩ = some vr
  c8 : W.cell? ⟨b, 8, none⟩ = some vh
theorem SBox.below {W W' : World} {b : Nat} {v1 v2 : Value} {half age now next : Int} {vp vr vh : Value} (h : SBox W b v1 v2 half age now next vp vr vh) (hb : Below W.heap.size W W') : SBox W' b v1 v2 half age now next vp vr vh :=
  ⟨Nat.lt_of_lt_of_le h.lt hb.size, (hb.cell (p := ⟨b, 0, none⟩) h.lt).trans h.c0, (hb.cell (p := ⟨b, 1, none⟩) h.lt).trans h.c1, (hb.cell (p := ⟨b, 2, none⟩) h.lt).trans h.c2, (hb.cell (p := ⟨b, 3, none⟩) h.lt).trans h.c3, (hb.cell (p := ⟨b, 4, none⟩) h.lt).trans h.c4,
    (hb.cell (p := ⟨b, 5, none⟩) h.lt).trans h.c5, (hb.cell (p := ⟨b, 6, none⟩) h.lt).trans h.c6, (hb.cell (p := ⟨b, 7, none⟩) h.lt).trans h.c7, (hb.cell (p := ⟨b, 8, none⟩) h.lt).trans h.c8⟩
theorem SBox.new (w : World) (t : TypeId) (v1 v2 : Value) (half age now next : Int) (vp vr vh : Value) : SBox (w.alloc (.cells #[v1, v2, .int .i64 half, .int .i64 age, .int .i64 now, .int .i64 next, vp, vr, vh] t)) w.heap.size v1 v2 half age now next vp vr vh := by
  refine ⟨by simp, ?_, ?_, ?_, ?_, ?_, ?_, ?_, ?_, ?_⟩ <;> simp [go_sem]

/-- What a state's parts say of the world. -/
structure StAt (w : World) (v1 v2 : Value) (vh : Value) (c : Cfg.C) (h : List Nat) : Prop where
  cfg : CfgAt w (.agg #[v1, v2, .int .i64 c.half, .int .i64 c.age]) c
  len : c.nodes.length ≤ 1000000
  wok : WOk c
  hist : FSl w vh h
theorem StAt.below {w w' : World} {v1 v2 vh : Value} {c : Cfg.C} {h : List Nat} (s : StAt w v1 v2 vh c h) (hb : Below w.heap.size w w') : StAt w' v1 v2 vh c h := ⟨s.cfg.below hb, s.len, s.wok, s.hist.below hb⟩

set_option maxRecDepth 100000 in
set_option maxHeartbeats 4000000 in
theorem nodes_any {w : World} {v1 v2 vp vr vh : Value} {now next : Int} {c : Cfg.C} {h : List Nat} {br : Nat} (hs : StAt w v1 v2 vh c h) (hx : SBox w br v1 v2 c.half c.age now next vp vr vh) (a b : Nat) :
    GivesAt Try.prog w 69 #[.pointer (some ⟨br, 0, none⟩), .int .i64 (a : Int), .int .i64 (b : Int)] (.int .i64 (Ord.nodes c h a b)) := by
  intro w1 hb1
  replace hs := hs.below hb1
  replace hx := hx.below hb1
  clear hb1
  have ga := (level_any hs.cfg hs.len hs.wok hs.hist (a : Int)).up (keeps_refl _)
  have gb := (level_any hs.cfg hs.len hs.wok hs.hist (b : Int)).up (keeps_refl _)
  have hE : Ord.nodes c h a b = Ord.or2 (Ord.num (Ord.level c h (a : Int)) (Ord.level c h (b : Int))) (Ord.num a b) := rfl
  obtain ⟨x, hxe⟩ : ∃ x, Ord.level c h (a : Int) = x := ⟨_, rfl⟩
  obtain ⟨y, hye⟩ : ∃ x, Ord.level c h (b : Int) = x := ⟨_, rfl⟩
  obtain ⟨r, hr⟩ : ∃ r, Ord.nodes c h a b = r := ⟨_, rfl⟩
  rw [hxe, hye, hr] at hE
  rw [hxe] at ga
  rw [hye] at gb
  rw [hr]
  have gc : Gives Try.prog 79 #[.int .u64 x, .int .u64 y] (.int .i64 (Ord.num x y)) := .of_eq fun w => compare_fix x y w
  have gn : Gives Try.prog 67 #[.int .i64 a, .int .i64 b] (.int .i64 (Ord.num a b)) := .of_eq fun w => compare_int a b w
  generalize Ord.num x y = p at *
  generalize Ord.num a b = q at *
  obtain ⟨half, hhalf⟩ : ∃ z, c.half = z := ⟨_, rfl⟩
  obtain ⟨age, hage⟩ : ∃ z, c.age = z := ⟨_, rfl⟩
  obtain ⟨D, cd, rfl, -⟩ := id hs.hist
  generalize h.length = H at *
  rw [hhalf, hage] at ga gb hx
  have P0 := fun W' (k : Onward w1 W') => k.cell hx.lt hx.c0
  have P1 := fun W' (k : Onward w1 W') => k.cell hx.lt hx.c1
  have P2 := fun W' (k : Onward w1 W') => k.cell hx.lt hx.c2
  have P3 := fun W' (k : Onward w1 W') => k.cell hx.lt hx.c3
  have P8 := fun W' (k : Onward w1 W') => k.cell hx.lt hx.c8
  have HE := Lib.hid hE
  clear hE hxe hye hr hhalf hage hx hs
  go_enter Try.func69, Try.ntmps69
  go_wp2_with fail
  refine region_keep_tail 28 (by kernel_rfl) (by kernel_rfl) ?_
  simp only [List.take_succ_cons, List.take_zero, List.drop_succ_cons, List.drop_zero]
  repeat (apply Go.Proofs.Ytbfpljnfalopdaa.L.wpKeep_yes; (focus rfl); (focus (intro W hW; go_simp; first | done | exact ⟨rfl, hW⟩ | rfl)); (focus (go_simp; first | done | rfl)))
  (apply Go.Proofs.Ytbfpljnfalopdaa.L.wpKeep_yes; (focus rfl); (focus (intro W hW; go_simp; first | exact ga W hW | exact ⟨hW, ga W hW⟩)); (focus (go_simp; first | done | rfl)))
  repeat (apply Go.Proofs.Ytbfpljnfalopdaa.L.wpKeep_yes; (focus rfl); (focus (intro W hW; go_simp; first | done | exact ⟨rfl, hW⟩ | rfl)); (focus (go_simp; first | done | rfl)))
  (apply Go.Proofs.Ytbfpljnfalopdaa.L.wpKeep_yes; (focus rfl); (focus (intro W hW; go_simp; first | exact gb W hW | exact ⟨hW, gb W hW⟩)); (focus (go_simp; first | done | rfl)))
  (apply Go.Proofs.Ytbfpljnfalopdaa.L.wpKeep_yes; (focus rfl); (focus (intro W hW; go_simp; first | exact Go.Proofs.Ytbfpljnfalopdaa.L.Gives.up gc hW | exact ⟨hW, Go.Proofs.Ytbfpljnfalopdaa.L.Gives.up gc hW⟩)); (focus (go_simp; first | done | rfl)))
  repeat (apply Go.Proofs.Ytbfpljnfalopdaa.L.wpKeep_yes; (focus rfl); (focus (intro W hW; go_simp; first | done | exact ⟨rfl, hW⟩ | rfl)); (focus (go_simp; first | done | rfl)))
  (apply Go.Proofs.Ytbfpljnfalopdaa.L.wpKeep_yes; (focus rfl); (focus (intro W hW; go_simp; first | exact Go.Proofs.Ytbfpljnfalopdaa.L.Gives.up gn hW | exact ⟨hW, Go.Proofs.Ytbfpljnfalopdaa.L.Gives.up gn hW⟩)); (focus (go_simp; first | done | rfl)))
  refine wpKeep_nil ?_
  intro W hW
  clear ga gb gc gn P0 P1 P2 P3 P8
  have HW := Lib.hid hW
  have h0 : (W.alloc (.cells #[.int .i64 p, .int .i64 q] 3)).cell? ⟨W.heap.size, 0, none⟩ = some (.int .i64 p) := by simp [go_sem]
  have h1 : (W.alloc (.cells #[.int .i64 p, .int .i64 q] 3)).cell? ⟨W.heap.size, 1, none⟩ = some (.int .i64 q) := by simp [go_sem]
  have GO := Lib.hid (or_two (w := W.alloc (.cells #[.int .i64 p, .int .i64 q] 3)) (b := W.heap.size) (by simp) p q h0 h1)
  have HB := Lib.hid ((Below.refl W.heap.size W).alloc (Nat.le_refl _) (.cells #[.int .i64 p, .int .i64 q] 3))
  clear h0 h1 hW
  go_wp2_with fail
  refine (GO.out).mono ?_
  rintro e w3 ⟨rfl, hb3⟩
  have HF := Lib.hid (keeps_trans HW.out (keeps_trans HB.out hb3))
  clear hb3
  go_wp2_with fail
  go_ret
  exact ⟨by rw [HE.out]; rfl, HF.out⟩
end Go.Proofs.Ytbfpljnfalopdaa.OrdW
