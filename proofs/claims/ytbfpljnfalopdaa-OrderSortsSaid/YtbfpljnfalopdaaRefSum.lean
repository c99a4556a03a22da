/-
  All tenants below a node, and what they have together: the reference's Leaves, On, Below and Sum.
-/
import Derived.Test.YtbfpljnfalopdaaAts
import Derived.Test.YtbfpljnfalopdaaRefPath
import Derived.Test.YtbfpljnfalopdaaCfgLaws
set_option linter.unusedVariables false
set_option linter.unusedSimpArgs false
namespace Go.Proofs.Ytbfpljnfalopdaa.CfgW
open Go Go.RowKit Go.Proofs.Ytbfpljnfalopdaa.L

set_option maxRecDepth 100000 in
set_option maxHeartbeats 4000000 in
theorem rleaves_any {w : World} {v : Value} {c : Cfg.C} (hc : CfgAt w v c) (hlen : c.nodes.length ≤ 1000000) : ∀ w1, Below w.heap.size w w1 → Calls Try.prog 62 #[v] w1 fun e w' => LeavesEnd c w1 e w' := by
  intro w1 hb1
  replace hc := hc.below hb1
  clear hb1
  have gL := Lib.hid (fun n => rleaf_any hc n)
  obtain ⟨v1, v2, rfl, ⟨A, ca, rfl, hr, hl⟩, ⟨B, cb, rfl, hr2, hl2⟩⟩ := id hc
  have hfin : Hid (Cfg.leaves c = leavesTo c c.nodes.length) := Lib.hid rfl
  generalize hM : c.hosts.length = M at *
  obtain ⟨N, hN⟩ : ∃ N, c.nodes.length = N := ⟨_, rfl⟩
  rw [hN] at gL hlen hfin ⊢
  obtain ⟨half, hhalf⟩ : ∃ z, c.half = z := ⟨_, rfl⟩
  obtain ⟨age, hage⟩ : ∃ z, c.age = z := ⟨_, rfl⟩
  rw [hhalf, hage] at gL ⊢
  clear hN hM hr hr2 hl hl2 hc hhalf hage
  have hbx := CBox.new w1 (.slice A N ca) (.slice B M cb) half age
  have hbw : Below w1.heap.size w1 (w1.alloc (.cells #[.slice A N ca, .slice B M cb, .int .i64 half, .int .i64 age] 25)) := (Below.refl _ _).alloc (Nat.le_refl _) _
  have h0 : Ints (w1.alloc (.cells #[.slice A N ca, .slice B M cb, .int .i64 half, .int .i64 age] 25)) w1.heap.size (.slice none 0 0) (leavesTo c 0) := RowV.nil _ _ _
  go_enter Try.func62, Try.ntmps62
  go_wp2_with fail
  go_loopw [3, 4] (fun l i wr => ∃ k : Nat, i = .int .i64 (k : Int) ∧ k ≤ N ∧ Ints wr w1.heap.size l (leavesTo c k) ∧ l.ownBlock ≠ some w1.heap.size ∧ Below w1.heap.size w1 wr ∧ CBox wr w1.heap.size (.slice A N ca) (.slice B M cb) half age) (fun _ i _ => N - (intOf i).toNat)
  case atStart => exact ⟨0, rfl, by omega, h0, by simp [Value.ownBlock], hbw, hbx⟩
  case round =>
    obtain ⟨k, rfl, hk, hrow, hne, hb, hx⟩ := hrel
    clear hbw hbx h0
    have HX := Lib.hid hx
    obtain ⟨hx0, x0, x1, x2, x3⟩ := hx
    by_cases hkn : k < N
    · have hs := Lib.hid (leavesTo_succ c k)
      have gl := Lib.hid (gL.out (k : Int))
      have hle := leavesTo_le c k
      generalize Cfg.leaf c (k : Int) = q at *
      have HR := Lib.hid hrow
      have HE := Lib.hid hne
      clear hrow hne
      go_wp2_with fail
      refine (gl.out _ hb).mono ?_
      rintro e w3 ⟨rfl, hb3⟩
      have hb4 := keeps_trans hb hb3
      have hx4 := HX.out.on hb3
      have hr4 : Ints w3 w1.heap.size u3 (leavesTo c k) := HR.out.below hb3
      clear hb hb3 x0 x1 x2 x3 gl HX
      cases q
      · go_wp2_with fail
        go_roundw
        case rel => exact ⟨k + 1, by go_num, by omega, by rw [hs.out]; exact hr4, HE.out, hb4, hx4⟩
        case measure => simp [intOf]; omega
      · obtain ⟨v', w5, hrun, ho, hb5, hk5, hn5⟩ := ints_push hr4 hb4 k (by omega)
        have hx5 := hx4.kept hk5 HE.out
        have hlt := hx4.1
        have hne5 : v'.ownBlock ≠ some w1.heap.size := fun e => by
          rcases hn5 _ e with h | h
          · exact HE.out h
          · omega
        have HO := Lib.hid (And.intro ho hne5)
        clear hr4 hb4 hx4 ho hk5 hn5 hne5
        go_wp2_with (at_builtin; refine wpList_append_eq rfl (.tmp 15) (.tmp 17) _ _ rfl u3 (.slice (some ⟨w3.heap.size, 0, none⟩) 1 1) rfl rfl hrun ?_)
        go_roundw
        case rel => exact ⟨k + 1, by go_num, by omega, by rw [hs.out]; exact HO.out.1, HO.out.2, hb5, hx5⟩
        case measure => simp [intOf]; omega
    · have hkN : N ≤ k := by omega
      have HF := Lib.hid (show LeavesEnd c w1 (.returned u3) wr from ⟨u3, rfl, by rw [hfin.out, show N = k by omega]; exact hrow, hb⟩)
      clear hkn hrow hne
      go_wp2_with fail
      go_ret
      exact HF.out


set_option maxRecDepth 100000 in
set_option maxHeartbeats 4000000 in
theorem ron_any {w : World} {v : Value} {c : Cfg.C} (hc : CfgAt w v c) (hlen : c.nodes.length ≤ 1000000) (n : Int) (t : Nat) : GivesAt Try.prog w 63 #[v, .int .i64 n, .int .i64 (t : Int)] (.bool (Tree.on c n t)) := by
  intro w1 hb1
  replace hc := hc.below hb1
  clear hb1
  have gP := Lib.hid (fun W hW => rpath_any hc hlen (t : Int) W hW)
  obtain ⟨v1, v2, rfl, ⟨A, ca, rfl, hr, hl⟩, ⟨B, cb, rfl, hr2, hl2⟩⟩ := id hc
  generalize hM : c.hosts.length = M at *
  obtain ⟨N, hN⟩ : ∃ N, c.nodes.length = N := ⟨_, rfl⟩
  obtain ⟨half, hhalf⟩ : ∃ z, c.half = z := ⟨_, rfl⟩
  obtain ⟨age, hage⟩ : ∃ z, c.age = z := ⟨_, rfl⟩
  rw [hN, hhalf, hage] at gP ⊢
  have hon : Tree.on c n t = (Tree.path c (t : Int)).any (fun x => (x : Int) == n) := by unfold Tree.on Tree.path; rw [List.any_reverse]
  have hpl := Tree.up_length c (t : Int)
  have hpl2 : (Tree.path c (t : Int)).length ≤ N := by unfold Tree.path; rw [List.length_reverse, ← hN]; exact hpl
  rw [hon]
  rw [hN] at hlen
  clear hN hM hr hr2 hl hl2 hc hhalf hage hon hpl
  generalize Tree.path c (t : Int) = PT at *
  obtain ⟨Q, hQ⟩ : ∃ Q, PT.any (fun x => (x : Int) == n) = Q := ⟨_, rfl⟩
  have HQ := Lib.hid hQ
  rw [hQ]
  clear hQ
  have hbx := CBox.new w1 (.slice A N ca) (.slice B M cb) half age
  have hbw : Below w1.heap.size w1 (w1.alloc (.cells #[.slice A N ca, .slice B M cb, .int .i64 half, .int .i64 age] 25)) := (Below.refl _ _).alloc (Nat.le_refl _) _
  have Hbw := Lib.hid hbw
  obtain ⟨hx0, x0, x1, x2, x3⟩ := hbx
  clear hbw
  go_enter Try.func63, Try.ntmps63
  go_wp2_with fail
  refine (gP.out _ Hbw.out).mono ?_
  rintro e w2 ⟨v2, rfl, hI, hb2⟩
  have HB2 := Lib.hid (keeps_trans Hbw.out hb2)
  obtain ⟨A2, c2, rfl, hc2⟩ := ints_cell hI
  have HC2 := Lib.hid hc2
  obtain ⟨L, hL⟩ : ∃ L, PT.length = L := ⟨_, rfl⟩
  have HL := Lib.hid hL
  have hL1 : L ≤ 1000000 := by omega
  rw [hL]
  clear hb2 hI hc2 x0 x1 x2 x3 hL hpl2
  go_wp2_with fail
  go_loopw [8] (fun i wr => ∃ k : Nat, i = .int .i64 (k : Int) ∧ k ≤ L ∧ Hid ((PT.take k).any (fun x => (x : Int) == n) = false) ∧ wr = w2) (fun i _ => L - (intOf i).toNat)
  case atStart => exact ⟨0, rfl, by omega, Lib.hid rfl, rfl⟩
  case round =>
    obtain ⟨k, rfl, hk, hq, rfl⟩ := hrel
    by_cases hkL : k < L
    · have hkp : k < PT.length := by rw [HL.out]; exact hkL
      obtain ⟨x, hx⟩ : ∃ x, PT[k] = x := ⟨_, rfl⟩
      have hxe : PT[k]? = some x := by rw [List.getElem?_eq_getElem hkp, hx]
      obtain ⟨gp, rfl, hgp1, hgp2, hcx⟩ := HC2.out k x hxe
      have htk : PT.take (k + 1) = PT.take k ++ [x] := by rw [List.take_succ_eq_append_getElem hkp, hx]
      by_cases hxn : (x : Int) = n
      · have hE := Lib.hid (show Q = true by
          rw [← HQ.out, List.any_eq_true]
          exact ⟨x, List.mem_of_getElem? hxe, by simpa using hxn⟩)
        have te : ((x : Int) == n) = true := by simpa using hxn
        have eQ := hE.out
        subst eQ
        clear hxe hx htk hkp hxn
        go_wp2_with fail
        go_ret
        exact ⟨rfl, HB2.out⟩
      · have hE := Lib.hid (show (PT.take (k + 1)).any (fun x => (x : Int) == n) = false by
          rw [htk, List.any_append, hq.out]; simpa using hxn)
        have te : ((x : Int) == n) = false := by simpa using hxn
        clear hxe hx htk hkp hxn
        go_wp2_with fail
        go_roundw
        case rel => exact ⟨k + 1, by go_num, by omega, hE, trivial⟩
        case measure => simp [intOf]; omega
    · have hE := Lib.hid (show Q = false by
        have := hq.out
        rw [List.take_of_length_le (by rw [HL.out]; omega)] at this
        rw [← HQ.out, this])
      have hkd : decide (k < L) = false := by simpa using hkL
      have eQ := hE.out
      subst eQ
      clear hkL
      go_wp2_with fail
      go_ret
      exact ⟨rfl, HB2.out⟩

def belowTo (c : Cfg.C) (n : Int) (k : Nat) : List Nat := ((Cfg.leaves c).take k).filter fun t => Tree.on c n t
theorem belowTo_succ (c : Cfg.C) (n : Int) (k : Nat) (h : k < (Cfg.leaves c).length) : belowTo c n (k + 1) = if Tree.on c n (Cfg.leaves c)[k] then belowTo c n k ++ [(Cfg.leaves c)[k]] else belowTo c n k := by
  unfold belowTo
  rw [List.take_succ_eq_append_getElem h, List.filter_append]
  cases e : Tree.on c n (Cfg.leaves c)[k] <;> simp [e]
theorem belowTo_le (c : Cfg.C) (n : Int) (k : Nat) : (belowTo c n k).length ≤ k := by
  have := List.length_filter_le (fun t => Tree.on c n t) ((Cfg.leaves c).take k)
  unfold belowTo
  rw [List.length_take] at this
  omega
theorem belowTo_all (c : Cfg.C) (n : Int) (k : Nat) (h : (Cfg.leaves c).length ≤ k) : belowTo c n k = Tree.below c n := by
  unfold belowTo Tree.below
  rw [List.take_of_length_le h]

set_option maxRecDepth 100000 in
set_option maxHeartbeats 4000000 in
theorem rbelow_any {w : World} {v : Value} {c : Cfg.C} (hc : CfgAt w v c) (hlen : c.nodes.length ≤ 1000000) (n : Int) : ∀ w1, Below w.heap.size w w1 → Calls Try.prog 41 #[v, .int .i64 n] w1 fun e w' => PathEnd (Tree.below c n) w1 e w' := by
  intro w1 hb1
  replace hc := hc.below hb1
  clear hb1
  have gL := Lib.hid (fun W hW => rleaves_any hc hlen W hW)
  have gO := Lib.hid (fun t => ron_any hc hlen n t)
  obtain ⟨v1, v2, rfl, ⟨A, ca, rfl, hr, hl⟩, ⟨B, cb, rfl, hr2, hl2⟩⟩ := id hc
  have hll : (Cfg.leaves c).length ≤ 1000000 := by
    have := List.length_filter_le (fun (i : Nat) => Cfg.leaf c (i : Int)) (List.range c.nodes.length)
    unfold Cfg.leaves
    rw [List.length_range] at this
    omega
  generalize hM : c.hosts.length = M at *
  obtain ⟨N, hN⟩ : ∃ N, c.nodes.length = N := ⟨_, rfl⟩
  obtain ⟨half, hhalf⟩ : ∃ z, c.half = z := ⟨_, rfl⟩
  obtain ⟨age, hage⟩ : ∃ z, c.age = z := ⟨_, rfl⟩
  rw [hN, hhalf, hage] at gL gO ⊢
  have HT := Lib.hid (belowTo_all c n)
  generalize Tree.below c n = TB at *
  clear hN hM hr hr2 hl hl2 hc hhalf hage
  have hbx := CBox.new w1 (.slice A N ca) (.slice B M cb) half age
  have hbw : Below w1.heap.size w1 (w1.alloc (.cells #[.slice A N ca, .slice B M cb, .int .i64 half, .int .i64 age] 25)) := (Below.refl _ _).alloc (Nat.le_refl _) _
  go_enter Try.func41, Try.ntmps41
  generalize hwq : w1.alloc (.cells #[.slice A N ca, .slice B M cb, .int .i64 half, .int .i64 age] 25) = wq at *
  have HBX := Lib.hid hbx
  have Hbw := Lib.hid hbw
  obtain ⟨hx0, x0, x1, x2, x3⟩ := hbx
  clear hbw
  go_wp2_with fail
  refine (gL.out _ Hbw.out).mono ?_
  rintro e w2 ⟨v2, rfl, hI, hb2⟩
  have HB2 := Lib.hid hb2
  obtain ⟨A2, c2, rfl, hc2⟩ := ints_cell hI
  have HC2 := Lib.hid hc2
  obtain ⟨L, hL⟩ : ∃ L, (Cfg.leaves c).length = L := ⟨_, rfl⟩
  have HL := Lib.hid hL
  rw [hL] at hll ⊢
  clear hb2 hI hc2 x0 x1 x2 x3 hL hwq
  go_wp2_with fail
  go_loopw [5, 7] (fun l i wr => ∃ k : Nat, i = .int .i64 (k : Int) ∧ k ≤ L ∧ Ints wr w2.heap.size l (belowTo c n k) ∧ Below w2.heap.size w2 wr) (fun _ i _ => L - (intOf i).toNat)
  case atStart => exact ⟨0, rfl, by omega, RowV.nil _ _ _, Below.refl _ _⟩
  case round =>
    obtain ⟨k, rfl, hk, hrow, hb⟩ := hrel
    rename World => wr
    by_cases hkL : k < L
    · have hkp : k < (Cfg.leaves c).length := by rw [HL.out]; exact hkL
      have hsu := belowTo_succ c n k hkp
      obtain ⟨x, hx⟩ : ∃ x, (Cfg.leaves c)[k] = x := ⟨_, rfl⟩
      rw [hx] at hsu
      have hxe : (Cfg.leaves c)[k]? = some x := by rw [List.getElem?_eq_getElem hkp, hx]
      obtain ⟨gp, rfl, hgp1, hgp2, hcx⟩ := HC2.out k x hxe
      have hcx2 := (hb.cell (p := ⟨gp, k, none⟩) hgp2).trans hcx
      have hgw : gp < wr.heap.size := Nat.lt_of_lt_of_le hgp2 hb.size
      have hqr := keeps_trans HB2.out hb
      have hbx := HBX.out.on hqr
      obtain ⟨X0, X1, X2, X3⟩ := hbx.all
      have P0 := fun W (h : Onward wr W) => h.cell hgw hcx2
      have go := (gO.out x).on (keeps_trans Hbw.out hqr)
      have hle := belowTo_le c n k
      obtain ⟨q, hq⟩ : ∃ q, Tree.on c n x = q := ⟨_, rfl⟩
      rw [hq] at hsu go
      have HS := Lib.hid hsu
      have HR := Lib.hid hrow
      have HB := Lib.hid hb
      have GO := Lib.hid go
      clear hsu hx hxe hcx hcx2 hq hkp hrow hb hqr hbx go
      go_wp2_with fail
      refine region_keep (by kernel_rfl) (by kernel_rfl) ?_
      repeat (apply Go.Proofs.Ytbfpljnfalopdaa.L.wpKeep_yes; (focus rfl); (focus (intro W hW; go_simp; first | done | exact ⟨rfl, hW⟩ | rfl)); (focus (go_simp; first | done | rfl)))
      (apply Go.Proofs.Ytbfpljnfalopdaa.L.wpKeep_yes; (focus rfl); (focus (intro W hW; go_simp; first | exact (GO.out.up (Below.refl _ _)) W hW | exact ⟨hW, (GO.out.up (Below.refl _ _)) W hW⟩)); (focus (go_simp; first | done | rfl)))
      repeat (apply Go.Proofs.Ytbfpljnfalopdaa.L.wpKeep_yes; (focus rfl); (focus (intro W hW; go_simp; first | done | exact ⟨rfl, hW⟩ | rfl)); (focus (go_simp; first | done | rfl)))
      refine wpKeep_nil ?_
      intro W hW
      have hcW := P0 W hW
      have HBW := Lib.hid (keeps_trans HB.out hW)
      have HRW := Lib.hid (RowV.below HR.out hW)
      clear X0 X1 X2 X3 P0 hW
      cases q
      · go_wp2_with fail
        go_roundw
        case rel => exact ⟨k + 1, by go_num, by omega, by rw [HS.out]; exact HRW.out, HBW.out⟩
        case measure => simp [intOf]; omega
      · obtain ⟨v', w5, hrun, ho, hb5, hk5, hn5⟩ := ints_push (w1 := w2) HRW.out HBW.out x (by omega)
        have HO := Lib.hid (And.intro ho hb5)
        clear ho hb5 hk5 hn5
        go_wp2_with (at_builtin; refine wpList_append_eq rfl (.tmp 23) (.tmp 28) _ _ rfl u5 (.slice (some ⟨W.heap.size, 0, none⟩) 1 1) rfl rfl hrun ?_)
        go_roundw
        case rel => exact ⟨k + 1, by go_num, by omega, by rw [HS.out]; exact HO.out.1, HO.out.2⟩
        case measure => simp [intOf]; omega
    · have HE := Lib.hid (show PathEnd TB w1 (.returned u5) wr from ⟨_, rfl, by rw [← HT.out k (by rw [HL.out]; omega)]; exact RowV.low hrow (by have := (keeps_trans Hbw.out HB2.out).size; omega), keeps_trans Hbw.out (keeps_trans HB2.out hb)⟩)
      have hkd : decide (k < L) = false := by simpa using hkL
      clear hkL hrow hb
      go_wp2_with fail
      go_ret
      exact HE.out

def sumTo (c : Cfg.C) (n : Int) (xs : List Vec.V) (k : Nat) : Vec.V := ((Tree.below c n).take k).foldl (fun v (t : Nat) => Vec.add v (Tree.at_ xs (t : Int))) Vec.zero
theorem sumTo_succ (c : Cfg.C) (n : Int) (xs : List Vec.V) (k : Nat) (h : k < (Tree.below c n).length) : sumTo c n xs (k + 1) = Vec.add (sumTo c n xs k) (Tree.at_ xs ((Tree.below c n)[k] : Int)) := by
  unfold sumTo
  rw [List.take_succ_eq_append_getElem h, List.foldl_append]
  rfl
theorem sumTo_all (c : Cfg.C) (n : Int) (xs : List Vec.V) (k : Nat) (h : (Tree.below c n).length ≤ k) : sumTo c n xs k = Tree.sum c n xs := by
  unfold sumTo Tree.sum
  rw [List.take_of_length_le h]

set_option maxRecDepth 100000 in
set_option maxHeartbeats 4000000 in
theorem rsum_any {w : World} {v va : Value} {c : Cfg.C} {xs : List Vec.V} (hc : CfgAt w v c) (hlen : c.nodes.length ≤ 1000000) (ha : VSl w va xs) (n : Int) : GivesAt Try.prog w 19 #[v, .int .i64 n, va] (Tree.sum c n xs).val := by
  intro w1 hb1
  replace hc := hc.below hb1
  replace ha := ha.below hb1
  clear hb1
  have gB := Lib.hid (fun W hW => rbelow_any hc hlen n W hW)
  have gA := Lib.hid (fun t => rat_any ha t)
  have gD := Lib.hid (fun a b => VecW.gradd a b)
  obtain ⟨v1, v2, rfl, ⟨A, ca, rfl, hr, hl⟩, ⟨B, cb, rfl, hr2, hl2⟩⟩ := id hc
  obtain ⟨D, cd, rfl, hrD, hlD⟩ := id ha
  have hll : (Tree.below c n).length ≤ 1000000 := by
    have h1 := List.length_filter_le (fun t => Tree.on c n t) (Cfg.leaves c)
    have h2 := List.length_filter_le (fun (i : Nat) => Cfg.leaf c (i : Int)) (List.range c.nodes.length)
    rw [List.length_range] at h2
    unfold Tree.below
    unfold Cfg.leaves at h1 ⊢
    omega
  generalize hM : c.hosts.length = M at *
  obtain ⟨N, hN⟩ : ∃ N, c.nodes.length = N := ⟨_, rfl⟩
  obtain ⟨half, hhalf⟩ : ∃ z, c.half = z := ⟨_, rfl⟩
  obtain ⟨age, hage⟩ : ∃ z, c.age = z := ⟨_, rfl⟩
  generalize hX : xs.length = X at *
  rw [hN, hhalf, hage] at gB ⊢
  have HT := Lib.hid (sumTo_all c n xs)
  have HS0 := Lib.hid (sumTo_succ c n xs)
  have HZ := Lib.hid (show sumTo c n xs 0 = ⟨0, 0, 0⟩ from rfl)
  obtain ⟨S, hS⟩ : ∃ S, Tree.sum c n xs = S := ⟨_, rfl⟩
  have HS := Lib.hid hS
  rw [hS]
  obtain ⟨s0, s1, s2⟩ := S
  clear hN hM hr hr2 hl hl2 hc hhalf hage hX hrD hlD ha hS
  show Calls Try.prog 19 #[.agg #[.slice A N ca, .slice B M cb, .int .i64 half, .int .i64 age], .int .i64 n, .slice D X cd] w1 fun e w' => e = .returned (.agg #[.int .i64 s0, .int .i64 s1, .int .i64 s2]) ∧ Below w1.heap.size w1 w'
  have hb0 : Below w1.heap.size w1 (((w1.alloc (.cells #[.slice A N ca, .slice B M cb, .int .i64 half, .int .i64 age] 25)).alloc (.cells #[.int .i64 0, .int .i64 0, .int .i64 0] 29)).alloc (.cells #[.int .i64 0, .int .i64 0, .int .i64 0] 29)) := by (repeat' (first | (with_reducible exact Below.refl _ _) | (with_reducible assumption) | (with_reducible refine Below.alloc ?_ ?_ _) | (with_reducible refine Go.Proofs.Ytbfpljnfalopdaa.L.below_drewN ?_ _) | (with_reducible refine Below.drew ?_) | (with_reducible refine Below.setCell ?_ ?_ _) | (with_reducible refine Below.frame ?_ _) | go_size))
  have hx0 : CBox (((w1.alloc (.cells #[.slice A N ca, .slice B M cb, .int .i64 half, .int .i64 age] 25)).alloc (.cells #[.int .i64 0, .int .i64 0, .int .i64 0] 29)).alloc (.cells #[.int .i64 0, .int .i64 0, .int .i64 0] 29)) w1.heap.size (.slice A N ca) (.slice B M cb) half age := (CBox.new w1 (.slice A N ca) (.slice B M cb) half age).on (by (repeat' (first | (with_reducible exact Below.refl _ _) | (with_reducible assumption) | (with_reducible refine Below.alloc ?_ ?_ _) | (with_reducible refine Go.Proofs.Ytbfpljnfalopdaa.L.below_drewN ?_ _) | (with_reducible refine Below.drew ?_) | (with_reducible refine Below.setCell ?_ ?_ _) | (with_reducible refine Below.frame ?_ _) | go_size)))
  have hx1 : VBox3 (((w1.alloc (.cells #[.slice A N ca, .slice B M cb, .int .i64 half, .int .i64 age] 25)).alloc (.cells #[.int .i64 0, .int .i64 0, .int .i64 0] 29)).alloc (.cells #[.int .i64 0, .int .i64 0, .int .i64 0] 29)) (w1.heap.size + 1) 0 ⟨0, 0, 0⟩ := by refine ⟨by simp, ?_, ?_, ?_⟩ <;> simp [go_sem]
  have hx2 : VBox3 (((w1.alloc (.cells #[.slice A N ca, .slice B M cb, .int .i64 half, .int .i64 age] 25)).alloc (.cells #[.int .i64 0, .int .i64 0, .int .i64 0] 29)).alloc (.cells #[.int .i64 0, .int .i64 0, .int .i64 0] 29)) (w1.heap.size + 1 + 1) 0 ⟨0, 0, 0⟩ := by refine ⟨by simp, ?_, ?_, ?_⟩ <;> simp [go_sem]
  have hf1 : ∀ j, (((w1.alloc (.cells #[.slice A N ca, .slice B M cb, .int .i64 half, .int .i64 age] 25)).alloc (.cells #[.int .i64 0, .int .i64 0, .int .i64 0] 29)).alloc (.cells #[.int .i64 0, .int .i64 0, .int .i64 0] 29)).frozen? ⟨w1.heap.size + 1, j, none⟩ = false := fun j => by simp [go_sem]
  have hf2 : ∀ j, (((w1.alloc (.cells #[.slice A N ca, .slice B M cb, .int .i64 half, .int .i64 age] 25)).alloc (.cells #[.int .i64 0, .int .i64 0, .int .i64 0] 29)).alloc (.cells #[.int .i64 0, .int .i64 0, .int .i64 0] 29)).frozen? ⟨w1.heap.size + 1 + 1, j, none⟩ = false := fun j => by simp [go_sem]
  have hsz : (((w1.alloc (.cells #[.slice A N ca, .slice B M cb, .int .i64 half, .int .i64 age] 25)).alloc (.cells #[.int .i64 0, .int .i64 0, .int .i64 0] 29)).alloc (.cells #[.int .i64 0, .int .i64 0, .int .i64 0] 29)).heap.size = w1.heap.size + 3 := by simp
  have Hf1 := Lib.hid hf1
  have Hf2 := Lib.hid hf2
  clear hf1 hf2
  go_enter Try.func19, Try.ntmps19
  have HX0 := Lib.hid hx0
  have HX1 := Lib.hid hx1
  have HX2 := Lib.hid hx2
  clear hx0 hx1 hx2
  go_wp2_with fail
  generalize ((w1.alloc (.cells #[.slice A N ca, .slice B M cb, .int .i64 half, .int .i64 age] 25)).alloc (.cells #[.int .i64 0, .int .i64 0, .int .i64 0] 29)).alloc (.cells #[.int .i64 0, .int .i64 0, .int .i64 0] 29) = wq at *
  have Hb0 := Lib.hid hb0
  clear hb0
  refine (gB.out _ Hb0.out).mono ?_
  rintro e w2 ⟨v2, rfl, hI, hb2⟩
  have HB2 := Lib.hid hb2
  obtain ⟨A2, c2, rfl, hc2⟩ := ints_cell hI
  have HC2 := Lib.hid hc2
  have H1 := Lib.hid (HX1.out.on hb2)
  have H2 := Lib.hid (HX2.out.on hb2)
  have F1 : Hid (∀ j, w2.frozen? ⟨w1.heap.size + 1, j, none⟩ = false) := Lib.hid (fun j => (hb2.frozen (p := ⟨w1.heap.size + 1, j, none⟩) (by show w1.heap.size + 1 < wq.heap.size; omega)).trans (Hf1.out j))
  have F2 : Hid (∀ j, w2.frozen? ⟨w1.heap.size + 1 + 1, j, none⟩ = false) := Lib.hid (fun j => (hb2.frozen (p := ⟨w1.heap.size + 1 + 1, j, none⟩) (by show w1.heap.size + 1 + 1 < wq.heap.size; omega)).trans (Hf2.out j))
  have hs2 : w1.heap.size + 3 ≤ w2.heap.size := by have := hb2.size; omega
  obtain ⟨L, hL⟩ : ∃ L, (Tree.below c n).length = L := ⟨_, rfl⟩
  have HL := Lib.hid hL
  rw [hL] at hll ⊢
  clear hb2 hI hc2 hL gB
  go_wp2_with fail
  go_loopw [9] (fun i wr => ∃ k : Nat, i = .int .i64 (k : Int) ∧ k ≤ L ∧ VBox3 wr (w1.heap.size + 1 + 1) 0 (sumTo c n xs k) ∧ (∀ j, wr.frozen? ⟨w1.heap.size + 1 + 1, j, none⟩ = false) ∧ Kept (fun b => b = w1.heap.size + 1 + 1) w2 wr) (fun i _ => L - (intOf i).toNat)
  case atStart => exact ⟨0, rfl, by omega, by rw [HZ.out]; exact H2.out, F2.out, Kept.refl _ _⟩
  case round =>
    obtain ⟨k, rfl, hk, hv, hfz, hkk⟩ := hrel
    rename World => wr
    have HV := Lib.hid hv
    have HF := Lib.hid hfz
    have HK := Lib.hid hkk
    by_cases hkL : k < L
    · have hkp : k < (Tree.below c n).length := by rw [HL.out]; exact hkL
      have hsu := HS0.out k hkp
      obtain ⟨x, hx⟩ : ∃ x, (Tree.below c n)[k] = x := ⟨_, rfl⟩
      rw [hx] at hsu
      have hxe : (Tree.below c n)[k]? = some x := by rw [List.getElem?_eq_getElem hkp, hx]
      obtain ⟨gp, rfl, hgp1, hgp2, hcx⟩ := HC2.out k x hxe
      have hcx2 := (hkk.cell (p := ⟨gp, k, none⟩) hgp2 (by show ¬ gp = w1.heap.size + 1 + 1; omega)).trans hcx
      have hgw : gp < wr.heap.size := Nat.lt_of_lt_of_le hgp2 hkk.size
      have hq : Below w1.heap.size w1 wr := (keeps_trans Hb0.out HB2.out).trans (hkk.below (keeps_trans Hb0.out HB2.out).size (fun i e => by rw [e]; omega))
      have ga := (gA.out (x : Int)).on hq
      obtain ⟨y, hy⟩ : ∃ y, Tree.at_ xs (x : Int) = y := ⟨_, rfl⟩
      rw [hy] at ga hsu
      have gd := gD.out (sumTo c n xs k) y
      generalize sumTo c n xs k = z at *
      obtain ⟨y0, y1, y2⟩ := y
      obtain ⟨z0, z1, z2⟩ := z
      obtain ⟨s, hs⟩ : ∃ s, Vec.add ⟨z0, z1, z2⟩ ⟨y0, y1, y2⟩ = s := ⟨_, rfl⟩
      rw [hs] at gd hsu
      obtain ⟨q0, q1, q2⟩ := s
      have ga' : GivesAt Try.prog wr 15 #[.slice D X cd, .int .i64 (x : Int)] (.agg #[.int .i64 y0, .int .i64 y1, .int .i64 y2]) := ga
      have gd' : Gives Try.prog 16 #[.agg #[.int .i64 z0, .int .i64 z1, .int .i64 z2], .agg #[.int .i64 y0, .int .i64 y1, .int .i64 y2]] (.agg #[.int .i64 q0, .int .i64 q1, .int .i64 q2]) := gd
      have HS1 := Lib.hid hsu
      have GA := Lib.hid ga'
      have P0 := fun W (h : Onward wr W) => h.cell hgw hcx2
      have P1 := fun W (h : Onward wr W) => h.cell hv.1 hv.2.1
      have P2 := fun W (h : Onward wr W) => h.cell hv.1 hv.2.2.1
      have P3 := fun W (h : Onward wr W) => h.cell hv.1 hv.2.2.2
      simp only [Nat.zero_add] at P1 P2 P3
      clear hv hkp hsu hx hxe hcx hcx2 hq ga hy gd hs ga' hkk
      go_wp2_with fail
      refine region_keep_tail 8 (by kernel_rfl) (by kernel_rfl) ?_
      simp only [List.take_succ_cons, List.take_zero, List.drop_succ_cons, List.drop_zero]
      repeat (apply Go.Proofs.Ytbfpljnfalopdaa.L.wpKeep_yes; (focus rfl); (focus (intro W hW; go_simp; first | done | exact ⟨rfl, hW⟩ | rfl)); (focus (go_simp; first | done | rfl)))
      (apply Go.Proofs.Ytbfpljnfalopdaa.L.wpKeep_yes; (focus rfl); (focus (intro W hW; go_simp; first | exact (GA.out.up (Below.refl _ _)) W hW | exact ⟨hW, (GA.out.up (Below.refl _ _)) W hW⟩)); (focus (go_simp; first | done | rfl)))
      repeat (apply Go.Proofs.Ytbfpljnfalopdaa.L.wpKeep_yes; (focus rfl); (focus (intro W hW; go_simp; first | done | exact ⟨rfl, hW⟩ | rfl)); (focus (go_simp; first | done | rfl)))
      (apply Go.Proofs.Ytbfpljnfalopdaa.L.wpKeep_yes; (focus rfl); (focus (intro W hW; go_simp; first | exact Go.Proofs.Ytbfpljnfalopdaa.L.Gives.up gd' hW | exact ⟨hW, Go.Proofs.Ytbfpljnfalopdaa.L.Gives.up gd' hW⟩)); (focus (go_simp; first | done | rfl)))
      repeat (apply Go.Proofs.Ytbfpljnfalopdaa.L.wpKeep_yes; (focus rfl); (focus (intro W hW; go_simp; first | done | exact ⟨rfl, hW⟩ | rfl)); (focus (go_simp; first | done | rfl)))
      refine wpKeep_nil ?_
      intro W hW
      have fz : ∀ j, W.frozen? ⟨w1.heap.size + 1 + 1, j, none⟩ = false := fun j => (Below.frozen (p := ⟨w1.heap.size + 1 + 1, j, none⟩) hW HV.out.1).trans (HF.out j)
      have f0 := fz 0
      have f1 := fz 1
      have f2 := fz 2
      have d0 := P1 W hW
      have d1 := P2 W hW
      have d2 := P3 W hW
      have hwl : w1.heap.size + 1 + 1 < W.heap.size := Nat.lt_of_lt_of_le HV.out.1 hW.size
      have HE := Lib.hid (show VBox3 (put3 W (w1.heap.size + 1 + 1) 0 ⟨q0, q1, q2⟩) (w1.heap.size + 1 + 1) 0 ⟨q0, q1, q2⟩ ∧ (∀ j, (put3 W (w1.heap.size + 1 + 1) 0 ⟨q0, q1, q2⟩).frozen? ⟨w1.heap.size + 1 + 1, j, none⟩ = false) ∧ Kept (fun b => b = w1.heap.size + 1 + 1) w2 (put3 W (w1.heap.size + 1 + 1) 0 ⟨q0, q1, q2⟩) by
        refine ⟨⟨by simp [put3]; exact hwl, ?_, ?_, ?_⟩, fun j => ?_, (HK.out.trans (Kept.of_below hW)).trans (put3_kept W _ 0 _)⟩
        · simp [put3, go_sem, d0, d1, d2]
        · simp [put3, go_sem, d0, d1, d2]
        · simp [put3, go_sem, d0, d1, d2]
        · simp [put3, World.frozen?_setCell, fz j])
      unfold put3 at HE
      simp only [Nat.zero_add] at HE
      clear P0 P1 P2 P3 fz hW gd'
      go_wp2_with fail
      go_roundw
      case rel => exact ⟨k + 1, by go_num, by omega, by rw [HS1.out]; exact HE.out.1, HE.out.2.1, HE.out.2.2⟩
      case measure => simp [intOf]; omega
    · have hE : sumTo c n xs k = ⟨s0, s1, s2⟩ := by rw [HT.out k (by rw [HL.out]; omega), HS.out]
      rw [hE] at hv
      have h1 := H1.out.kept hkk (by show ¬ w1.heap.size + 1 = w1.heap.size + 1 + 1; omega)
      have g0 : wr.frozen? ⟨w1.heap.size + 1, 0, none⟩ = false := (hkk.frozen (p := ⟨w1.heap.size + 1, 0, none⟩) (by show w1.heap.size + 1 < w2.heap.size; omega) (by show ¬ w1.heap.size + 1 = w1.heap.size + 1 + 1; omega)).trans (F1.out 0)
      have g1 : wr.frozen? ⟨w1.heap.size + 1, 1, none⟩ = false := (hkk.frozen (p := ⟨w1.heap.size + 1, 1, none⟩) (by show w1.heap.size + 1 < w2.heap.size; omega) (by show ¬ w1.heap.size + 1 = w1.heap.size + 1 + 1; omega)).trans (F1.out 1)
      have g2 : wr.frozen? ⟨w1.heap.size + 1, 2, none⟩ = false := (hkk.frozen (p := ⟨w1.heap.size + 1, 2, none⟩) (by show w1.heap.size + 1 < w2.heap.size; omega) (by show ¬ w1.heap.size + 1 = w1.heap.size + 1 + 1; omega)).trans (F1.out 2)
      have hq := Lib.hid (show Below w1.heap.size w1 wr from (keeps_trans Hb0.out HB2.out).trans (hkk.below (keeps_trans Hb0.out HB2.out).size (fun i e => by rw [e]; omega)))
      obtain ⟨hb7, d0, d1, d2⟩ := hv
      obtain ⟨hb6, r0, r1, r2⟩ := h1
      simp only [Nat.zero_add] at d0 d1 d2 r0 r1 r2
      have hkd : decide (k < L) = false := by simpa using hkL
      clear hE hfz hkk hkL
      go_wp2_with fail
      exact bodyPost_ret (v := .agg #[.int .i64 s0, .int .i64 s1, .int .i64 s2]) (by simp [results, Try.results19, go_sem, r0, r1, r2]) rfl ⟨rfl, by have := hq.out; (repeat' (first | (with_reducible exact Below.refl _ _) | (with_reducible assumption) | (with_reducible refine Below.alloc ?_ ?_ _) | (with_reducible refine Go.Proofs.Ytbfpljnfalopdaa.L.below_drewN ?_ _) | (with_reducible refine Below.drew ?_) | (with_reducible refine Below.setCell ?_ ?_ _) | (with_reducible refine Below.frame ?_ _) | go_size))⟩
end Go.Proofs.Ytbfpljnfalopdaa.CfgW
