/-
  All tenants: the contract of config.Leaves. The least configuration; chapter 9's example.
-/
import Derived.Test.YtjkmcncgndkdoaaCfgRefSame
import Derived.Test.YtjkmcncgndkdoaaRowV
set_option linter.unusedVariables false
set_option linter.unusedSimpArgs false
namespace Go.Proofs.Ytjkmcncgndkdoaa.CfgW
open Go.RowKit Go.Proofs.Ytjkmcncgndkdoaa.L

theorem intinfo : (Try.prog.info? 3).map (fun i => (i.zero, i.size, i.bytes)) = some (some (.int .i64 0), 1, 8) := by kernel_rfl
/-- A row of whole numbers, made since. -/
def ival (l : List Nat) : List Value := l.map fun (n : Nat) => Value.int .i64 (n : Int)
def Ints (w : World) (B : Nat) (v : Value) (l : List Nat) : Prop := RowV w B 3 v (ival l)
theorem append_int {w : World} {B : Nat} {v : Value} {l : List Nat} (h : Ints w B v l) (hB : B ≤ w.heap.size) (x : Nat) (hl : l.length ≤ 1048576) :
    ∃ v' w', (Builtin.append_ #[37, 37] 37 #[v, .slice (some ⟨w.heap.size, 0, none⟩) 1 1]).run Try.prog (w.alloc (.cells #[.int .i64 (x : Int)] 3)) = .ok v' w' ∧ Ints w' B v' (l ++ [x]) ∧
      (w.alloc (.cells #[.int .i64 (x : Int)] 3)).grownBy w' v.ownBlock ∧ (∀ k, v'.ownBlock = some k → v.ownBlock = some k ∨ w.heap.size ≤ k) := by
  obtain ⟨i0, hi, hz0, hz1, hz2⟩ := info_parts intinfo
  have hlm : (ival l).length = l.length := by simp [ival]
  obtain ⟨v', w', hr, ho, hg, hn⟩ := append_one (P := Try.prog) 37 37 3 i0 _ 8 Try.underlying37 hi hz0 hz1 hz2 rfl h hB (.int .i64 (x : Int)) rfl (by omega) (by omega)
  exact ⟨v', w', hr, by unfold Ints ival; rw [List.map_append]; exact ho, hg, hn⟩
theorem ints_push {w1 w : World} {v : Value} {l : List Nat} (h : Ints w w1.heap.size v l) (hb : Below w1.heap.size w1 w) (x : Nat) (hl : l.length ≤ 1048576) :
    ∃ v' w', (Builtin.append_ #[37, 37] 37 #[v, .slice (some ⟨w.heap.size, 0, none⟩) 1 1]).run Try.prog (w.alloc (.cells #[.int .i64 (x : Int)] 3)) = .ok v' w' ∧ Ints w' w1.heap.size v' (l ++ [x]) ∧
      Below w1.heap.size w1 w' ∧ Kept (fun k => v.ownBlock = some k) w w' ∧ (∀ k, v'.ownBlock = some k → v.ownBlock = some k ∨ w.heap.size ≤ k) := by
  obtain ⟨v', w', hr, ho, hg, hn⟩ := append_int h hb.size x hl
  have hk : Kept (fun k => v.ownBlock = some k) w w' := ((Kept.refl _ w).alloc _).trans (Kept.of_grown hg (fun i e => e))
  exact ⟨v', w', hr, ho, hb.trans (hk.below hb.size (fun i hi => (h.lt i hi).1)), hk, hn⟩

/-- Those ahead of k that are tenants. -/
def leavesTo (c : Cfg.C) (k : Nat) : List Nat := (List.range k).filter fun (i : Nat) => Cfg.leaf c (i : Int)
theorem leavesTo_succ (c : Cfg.C) (k : Nat) : leavesTo c (k + 1) = if Cfg.leaf c (k : Int) then leavesTo c k ++ [k] else leavesTo c k := by
  unfold leavesTo
  rw [List.range_succ, List.filter_append]
  cases h : Cfg.leaf c (k : Int) <;> simp [h]
theorem leavesTo_le (c : Cfg.C) (k : Nat) : (leavesTo c k).length ≤ k := by
  have := List.length_filter_le (fun (i : Nat) => Cfg.leaf c (i : Int)) (List.range k)
  simpa [leavesTo] using this
theorem CBox.kept {w w' : World} {b : Nat} {v1 v2 : Value} {h a : Int} {F : Nat → Prop} (x : CBox w b v1 v2 h a) (k : Kept F w w') (hf : ¬ F b) : CBox w' b v1 v2 h a :=
  ⟨Nat.lt_of_lt_of_le x.1 k.size, (k.cell (p := ⟨b, 0, none⟩) x.1 hf).trans x.2.1, (k.cell (p := ⟨b, 1, none⟩) x.1 hf).trans x.2.2.1, (k.cell (p := ⟨b, 2, none⟩) x.1 hf).trans x.2.2.2.1, (k.cell (p := ⟨b, 3, none⟩) x.1 hf).trans x.2.2.2.2⟩

def LeavesEnd (c : Cfg.C) (w : World) (e : Ending) (w' : World) : Prop := ∃ v, e = .returned v ∧ Ints w' w.heap.size v (Cfg.leaves c) ∧ Below w.heap.size w w'

set_option maxRecDepth 100000 in
set_option maxHeartbeats 4000000 in
theorem leaves_any {w : World} {v : Value} {c : Cfg.C} (hc : CfgAt w v c) (hlen : c.nodes.length ≤ 1000000) : ∀ w1, Below w.heap.size w w1 → Calls Try.prog 22 #[v] w1 fun e w' => LeavesEnd c w1 e w' := by
  intro w1 hb1
  replace hc := hc.below hb1
  clear hb1
  have gL := Lib.hid (fun n => leaf_any hc n)
  obtain ⟨v1, v2, rfl, ⟨A, ca, rfl, hr, hl⟩, ⟨B, cb, rfl, hr2, hl2⟩⟩ := id hc
  have hfin : Hid (Cfg.leaves c = leavesTo c c.nodes.length) := Lib.hid rfl
  generalize hM : c.hosts.length = M at *
  obtain ⟨N, hN⟩ : ∃ N, c.nodes.length = N := ⟨_, rfl⟩
  rw [hN] at gL hlen hfin ⊢
  obtain ⟨half, hhalf⟩ : ∃ z, c.half = z := ⟨_, rfl⟩
  obtain ⟨age, hage⟩ : ∃ z, c.age = z := ⟨_, rfl⟩
  rw [hhalf, hage] at gL ⊢
  clear hN hM hr hr2 hl hl2 hc hhalf hage
  have hbx := CBox.new w1 (.slice A N ca) (.slice B M cb) half age
  have hbw : Below w1.heap.size w1 (w1.alloc (.cells #[.slice A N ca, .slice B M cb, .int .i64 half, .int .i64 age] 25)) := (Below.refl _ _).alloc (Nat.le_refl _) _
  have h0 : Ints (w1.alloc (.cells #[.slice A N ca, .slice B M cb, .int .i64 half, .int .i64 age] 25)) w1.heap.size (.slice none 0 0) (leavesTo c 0) := RowV.nil _ _ _
  go_enter Try.func22, Try.ntmps22
  go_wp2_with fail
  go_loopw [3, 8] (fun l i wr => ∃ k : Nat, i = .int .i64 (k : Int) ∧ k ≤ N ∧ Ints wr w1.heap.size l (leavesTo c k) ∧ l.ownBlock ≠ some w1.heap.size ∧ Below w1.heap.size w1 wr ∧ CBox wr w1.heap.size (.slice A N ca) (.slice B M cb) half age) (fun _ i _ => N - (intOf i).toNat)
  case atStart => exact ⟨0, rfl, by omega, h0, by simp [Value.ownBlock], hbw, hbx⟩
  case round =>
    obtain ⟨k, rfl, hk, hrow, hne, hb, hx⟩ := hrel
    clear hbw hbx h0
    have HX := Lib.hid hx
    obtain ⟨hx0, x0, x1, x2, x3⟩ := hx
    by_cases hkn : k < N
    · have hs := Lib.hid (leavesTo_succ c k)
      have gl := Lib.hid (gL.out (k : Int))
      have hle := leavesTo_le c k
      generalize Cfg.leaf c (k : Int) = q at *
      have HR := Lib.hid hrow
      have HE := Lib.hid hne
      clear hrow hne
      go_wp2_with fail
      refine (gl.out _ hb).mono ?_
      rintro e w3 ⟨rfl, hb3⟩
      have hb4 := keeps_trans hb hb3
      have hx4 := HX.out.on hb3
      have hr4 : Ints w3 w1.heap.size u3 (leavesTo c k) := HR.out.below hb3
      clear hb hb3 x0 x1 x2 x3 gl HX
      cases q
      · go_wp2_with fail
        go_roundw
        case rel => exact ⟨k + 1, by go_num, by omega, by rw [hs.out]; exact hr4, HE.out, hb4, hx4⟩
        case measure => simp [intOf]; omega
      · obtain ⟨v', w5, hrun, ho, hb5, hk5, hn5⟩ := ints_push hr4 hb4 k (by omega)
        have hx5 := hx4.kept hk5 HE.out
        have hlt := hx4.1
        have hne5 : v'.ownBlock ≠ some w1.heap.size := fun e => by
          rcases hn5 _ e with h | h
          · exact HE.out h
          · omega
        have HO := Lib.hid (And.intro ho hne5)
        clear hr4 hb4 hx4 ho hk5 hn5 hne5
        go_wp2_with (at_builtin; refine wpList_append_eq rfl (.tmp 14) (.tmp 16) _ _ rfl u3 (.slice (some ⟨w3.heap.size, 0, none⟩) 1 1) rfl rfl hrun ?_)
        go_roundw
        case rel => exact ⟨k + 1, by go_num, by omega, by rw [hs.out]; exact HO.out.1, HO.out.2, hb5, hx5⟩
        case measure => simp [intOf]; omega
    · have hkN : N ≤ k := by omega
      have HF := Lib.hid (show LeavesEnd c w1 (.returned u3) wr from ⟨u3, rfl, by rw [hfin.out, show N = k by omega]; exact hrow, hb⟩)
      clear hkn hrow hne
      go_wp2_with fail
      go_ret
      exact HF.out

/-! ### the least configuration -/
def cOne : Cfg.C := ⟨[⟨-1, 1, ⟨0, 0, 0⟩, ⟨0, 0, 0⟩, ⟨0, 0, 0⟩⟩], [⟨0, 0, 0, ⟨0, 0, 0⟩⟩], 1, 0⟩
def cNone : Cfg.C := ⟨[], [], 0, 0⟩
def OneEnd (w : World) (e : Ending) (w' : World) : Prop := ∃ v, e = .returned v ∧ CfgAt w' v cOne ∧ Below w.heap.size w w'
theorem row_one {α : Type} {w : World} {b sz : Nat} {dec : α → List Value} {x : α} (hb : b < w.heap.size) (h : ∀ j v, (dec x)[j]? = some v → w.cell? ⟨b, j, none⟩ = some v) : RowOf w (some ⟨b, 0, none⟩) sz dec [x] := fun _ =>
  ⟨b, 0, rfl, hb, fun i y hy j v hv => by
    cases i with
    | zero => simp at hy; subst hy; simpa using h j v hv
    | succ i => simp at hy⟩
set_option maxRecDepth 100000 in
set_option maxHeartbeats 1000000 in
theorem one_any (w : World) : Calls Try.prog 47 #[] w fun e w' => OneEnd w e w' := by
  go_enter Try.func47, Try.ntmps47
  go_wp2_with fail
  refine bodyPost_ret (v := .agg #[.slice (some ⟨w.heap.size + 1, 0, none⟩) 1 1, .slice (some ⟨w.heap.size + 1 + 1, 0, none⟩) 1 1, .int .i64 1, .int .i64 0]) (by simp [results, Try.results47, go_sem]) rfl ?_
  refine ⟨_, rfl, ⟨_, _, rfl, ⟨_, 1, rfl, row_one ?_ (fun j v hv => ?_), by decide⟩, ⟨_, 1, rfl, row_one ?_ (fun j v hv => ?_), by decide⟩⟩, by (repeat' (first | (with_reducible exact Below.refl _ _) | (with_reducible assumption) | (with_reducible refine Below.alloc ?_ ?_ _) | (with_reducible refine Go.Proofs.Ytjkmcncgndkdoaa.L.below_drewN ?_ _) | (with_reducible refine Below.drew ?_) | (with_reducible refine Below.setCell ?_ ?_ _) | (with_reducible refine Below.frame ?_ _) | go_size))⟩
  · go_size
  · refine (Blk.cell (t := 35) (cs := (ndec ⟨-1, 1, ⟨0, 0, 0⟩, ⟨0, 0, 0⟩, ⟨0, 0, 0⟩⟩).toArray) ?_ j).trans (by simpa using hv)
    have h := fun o1 o2 => Blk.alloc (Blk.new (w.alloc o1) 35 (ndec ⟨-1, 1, ⟨0, 0, 0⟩, ⟨0, 0, 0⟩, ⟨0, 0, 0⟩⟩).toArray) o2
    simp only [World.size_alloc] at h
    exact h _ _
  · go_size
  · refine (Blk.cell (t := 75) (cs := (hdec ⟨0, 0, 0, ⟨0, 0, 0⟩⟩).toArray) ?_ j).trans (by simpa using hv)
    have h := fun o1 o2 => Blk.new ((w.alloc o1).alloc o2) 75 (hdec ⟨0, 0, 0, ⟨0, 0, 0⟩⟩).toArray
    simp only [World.size_alloc] at h
    exact h _ _

/-! ### chapter 9's example -/
theorem one_facts : Cfg.check cOne = 0 ∧ Cfg.leaf cOne 0 = true ∧ Cfg.leaf cOne 1 = false ∧ Cfg.leaves cOne = [0] ∧ Cfg.check cNone = 2 := by decide
theorem none_at (w : World) : CfgAt w (.agg #[.slice none 0 0, .slice none 0 0, .int .i64 0, .int .i64 0]) cNone := ⟨_, _, rfl, ⟨none, 0, rfl, fun h => absurd rfl h, by decide⟩, ⟨none, 0, rfl, fun h => absurd rfl h, by decide⟩⟩
theorem ints_cell {w : World} {B : Nat} {v : Value} {l : List Nat} (h : Ints w B v l) : ∃ A c, v = .slice A l.length c ∧ ∀ (i x : Nat), l[i]? = some x → ∃ g, A = some ⟨g, 0, none⟩ ∧ B ≤ g ∧ g < w.heap.size ∧ w.cell? ⟨g, i, none⟩ = some (.int .i64 (x : Int)) := by
  obtain ⟨A, c, rfl, hc⟩ := RowV.form h
  refine ⟨A, c, by simp [ival], fun i x hx => ?_⟩
  obtain ⟨g, rfl, hlt, hcell⟩ := hc (by intro e; unfold ival at e; rw [List.map_eq_nil_iff] at e; subst e; simp at hx)
  exact ⟨g, rfl, (RowV.lt h g rfl).1, hlt, hcell i _ (by unfold ival; rw [List.getElem?_map, hx]; rfl)⟩

set_option maxRecDepth 100000 in
set_option maxHeartbeats 4000000 in
theorem awake09 : Gives Try.prog 16 #[] (.bool true) := by
  intro w
  obtain ⟨f1, f2, f3, f4, f5⟩ := one_facts
  have F1 := Lib.hid f1
  have F2 := Lib.hid f2
  have F3 := Lib.hid f3
  have F4 := Lib.hid f4
  have F5 := Lib.hid f5
  clear f1 f2 f3 f4 f5
  go_enter Try.func16, Try.ntmps16
  go_wp2_with fail
  refine (one_any _).mono ?_
  rintro e w1 ⟨v1, rfl, hc1, k1⟩
  go_wp2_with fail
  refine (leaves_any hc1 (by decide) _ (Below.refl _ _)).mono ?_
  rintro e w2 ⟨l, rfl, hl, b2⟩
  rw [F4.out] at hl
  obtain ⟨A, c, rfl, hcell⟩ := ints_cell hl
  obtain ⟨g, rfl, hg, hgl, hg0⟩ := hcell 0 0 rfl
  have k2 := keeps_trans k1 b2
  rw [show [0].length = 1 from rfl]
  clear hc1 k1 b2 hl hcell
  go_wp2_with fail
  refine (one_any _).mono ?_
  rintro e w3 ⟨v3, rfl, hc3, b3⟩
  have k3 := keeps_trans k2 b3
  go_wp2_with fail
  refine (check_any hc3 _ (Below.refl _ _)).mono ?_
  rintro e w4 ⟨rfl, b4⟩
  rw [F1.out]
  have k4 := keeps_trans k3 b4
  have d4 := keeps_trans b3 b4
  clear hc3 k3 b3 b4 k2
  go_wp2_with fail
  refine (check_any (none_at w4) _ (Below.refl _ _)).mono ?_
  rintro e w5 ⟨rfl, b5⟩
  rw [F5.out]
  have k5 := keeps_trans k4 b5
  have d5 := keeps_trans d4 b5
  clear k4 d4 b5
  go_wp2_with fail
  refine (one_any _).mono ?_
  rintro e w6 ⟨v6, rfl, hc6, b6⟩
  go_wp2_with fail
  refine (leaf_any hc6 0 _ (Below.refl _ _)).mono ?_
  rintro e w7 ⟨rfl, b7⟩
  rw [F2.out]
  have k7 := keeps_trans k5 (keeps_trans b6 b7)
  have d7 := keeps_trans d5 (keeps_trans b6 b7)
  clear k5 d5 b6 b7 hc6
  go_wp2_with fail
  refine (one_any _).mono ?_
  rintro e w8 ⟨v8, rfl, hc8, b8⟩
  go_wp2_with fail
  refine (leaf_any hc8 1 _ (Below.refl _ _)).mono ?_
  rintro e w9 ⟨rfl, b9⟩
  rw [F3.out]
  have k9 := keeps_trans k7 (keeps_trans b8 b9)
  have d9 := keeps_trans d7 (keeps_trans b8 b9)
  have hg9 : w9.cell? ⟨g, 0, none⟩ = some (.int .i64 0) := (d9.cell (p := ⟨g, 0, none⟩) hgl).trans hg0
  clear k7 d7 b8 b9 hc8 hg0 hg
  go_wp2_with fail
  refine (one_any _).mono ?_
  rintro e w10 ⟨v10, rfl, hc10, b10⟩
  go_wp2_with fail
  refine (one_any _).mono ?_
  rintro e w11 ⟨v11, rfl, hc11, b11⟩
  go_wp2_with fail
  refine (same_any (hc10.below b11) hc11 _ (Below.refl _ _)).mono ?_
  rintro e w12 ⟨rfl, b12⟩
  rw [sameC_self]
  have k12 := keeps_trans k9 (keeps_trans b10 (keeps_trans b11 b12))
  clear k9 d9 b10 b11 b12 hc10 hc11 hg9 hgl
  go_wp2_with fail
  go_ret
  exact ⟨rfl, k12⟩
end Go.Proofs.Ytjkmcncgndkdoaa.CfgW
