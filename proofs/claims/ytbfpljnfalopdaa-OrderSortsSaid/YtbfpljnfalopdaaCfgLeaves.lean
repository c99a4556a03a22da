/-
  Trimmed for this seat: CfgLeaves.
-/
import Derived.Test.YtbfpljnfalopdaaCfgM
import Derived.Test.YtbfpljnfalopdaaRowV
set_option linter.unusedVariables false
set_option linter.unusedSimpArgs false
namespace Go.Proofs.Ytbfpljnfalopdaa.CfgW
open Go.RowKit Go.Proofs.Ytbfpljnfalopdaa.L

theorem intinfo : (Try.prog.info? 3).map (fun i => (i.zero, i.size, i.bytes)) = some (some (.int .i64 0), 1, 8) := by kernel_rfl
/-- A row of whole numbers, made since. -/
def ival (l : List Nat) : List Value := l.map fun (n : Nat) => Value.int .i64 (n : Int)
def Ints (w : World) (B : Nat) (v : Value) (l : List Nat) : Prop := RowV w B 3 v (ival l)
theorem append_int {w : World} {B : Nat} {v : Value} {l : List Nat} (h : Ints w B v l) (hB : B ≤ w.heap.size) (x : Nat) (hl : l.length ≤ 1048576) :
    ∃ v' w', (Builtin.append_ #[36, 36] 36 #[v, .slice (some ⟨w.heap.size, 0, none⟩) 1 1]).run Try.prog (w.alloc (.cells #[.int .i64 (x : Int)] 3)) = .ok v' w' ∧ Ints w' B v' (l ++ [x]) ∧
      (w.alloc (.cells #[.int .i64 (x : Int)] 3)).grownBy w' v.ownBlock ∧ (∀ k, v'.ownBlock = some k → v.ownBlock = some k ∨ w.heap.size ≤ k) := by
  obtain ⟨i0, hi, hz0, hz1, hz2⟩ := info_parts intinfo
  have hlm : (ival l).length = l.length := by simp [ival]
  obtain ⟨v', w', hr, ho, hg, hn⟩ := append_one (P := Try.prog) 36 36 3 i0 _ 8 Try.underlying36 hi hz0 hz1 hz2 rfl h hB (.int .i64 (x : Int)) rfl (by omega) (by omega)
  exact ⟨v', w', hr, by unfold Ints ival; rw [List.map_append]; exact ho, hg, hn⟩
theorem ints_push {w1 w : World} {v : Value} {l : List Nat} (h : Ints w w1.heap.size v l) (hb : Below w1.heap.size w1 w) (x : Nat) (hl : l.length ≤ 1048576) :
    ∃ v' w', (Builtin.append_ #[36, 36] 36 #[v, .slice (some ⟨w.heap.size, 0, none⟩) 1 1]).run Try.prog (w.alloc (.cells #[.int .i64 (x : Int)] 3)) = .ok v' w' ∧ Ints w' w1.heap.size v' (l ++ [x]) ∧
      Below w1.heap.size w1 w' ∧ Kept (fun k => v.ownBlock = some k) w w' ∧ (∀ k, v'.ownBlock = some k → v.ownBlock = some k ∨ w.heap.size ≤ k) := by
  obtain ⟨v', w', hr, ho, hg, hn⟩ := append_int h hb.size x hl
  have hk : Kept (fun k => v.ownBlock = some k) w w' := ((Kept.refl _ w).alloc _).trans (Kept.of_grown hg (fun i e => e))
  exact ⟨v', w', hr, ho, hb.trans (hk.below hb.size (fun i hi => (h.lt i hi).1)), hk, hn⟩

/-- Those ahead of k that are tenants. -/
def leavesTo (c : Cfg.C) (k : Nat) : List Nat := (List.range k).filter fun (i : Nat) => Cfg.leaf c (i : Int)
theorem leavesTo_succ (c : Cfg.C) (k : Nat) : leavesTo c (k + 1) = if Cfg.leaf c (k : Int) then leavesTo c k ++ [k] else leavesTo c k := by
  unfold leavesTo
  rw [List.range_succ, List.filter_append]
  cases h : Cfg.leaf c (k : Int) <;> simp [h]
theorem leavesTo_le (c : Cfg.C) (k : Nat) : (leavesTo c k).length ≤ k := by
  have := List.length_filter_le (fun (i : Nat) => Cfg.leaf c (i : Int)) (List.range k)
  simpa [leavesTo] using this
theorem CBox.kept {w w' : World} {b : Nat} {v1 v2 : Value} {h a : Int} {F : Nat → Prop} (x : CBox w b v1 v2 h a) (k : Kept F w w') (hf : ¬ F b) : CBox w' b v1 v2 h a :=
  ⟨Nat.lt_of_lt_of_le x.1 k.size, (k.cell (p := ⟨b, 0, none⟩) x.1 hf).trans x.2.1, (k.cell (p := ⟨b, 1, none⟩) x.1 hf).trans x.2.2.1, (k.cell (p := ⟨b, 2, none⟩) x.1 hf).trans x.2.2.2.1, (k.cell (p := ⟨b, 3, none⟩) x.1 hf).trans x.2.2.2.2⟩

def LeavesEnd (c : Cfg.C) (w : World) (e : Ending) (w' : World) : Prop := ∃ v, e = .returned v ∧ Ints w' w.heap.size v (Cfg.leaves c) ∧ Below w.heap.size w w'

set_option maxRecDepth 100000 in
set_option maxRecDepth 100000 in
set_option maxHeartbeats 4000000 in
theorem leaves_any {w : World} {v : Value} {c : Cfg.C} (hc : CfgAt w v c) (hlen : c.nodes.length ≤ 1000000) : ∀ w1, Below w.heap.size w w1 → Calls Try.prog 87 #[v] w1 fun e w' => LeavesEnd c w1 e w' := by
  intro w1 hb1
  replace hc := hc.below hb1
  clear hb1
  have gL := Lib.hid (fun n => leaf_any hc n)
  obtain ⟨v1, v2, rfl, ⟨A, ca, rfl, hr, hl⟩, ⟨B, cb, rfl, hr2, hl2⟩⟩ := id hc
  have hfin : Hid (Cfg.leaves c = leavesTo c c.nodes.length) := Lib.hid rfl
  generalize hM : c.hosts.length = M at *
  obtain ⟨N, hN⟩ : ∃ N, c.nodes.length = N := ⟨_, rfl⟩
  rw [hN] at gL hlen hfin ⊢
  obtain ⟨half, hhalf⟩ : ∃ z, c.half = z := ⟨_, rfl⟩
  obtain ⟨age, hage⟩ : ∃ z, c.age = z := ⟨_, rfl⟩
  rw [hhalf, hage] at gL ⊢
  clear hN hM hr hr2 hl hl2 hc hhalf hage
  have hbx := CBox.new w1 (.slice A N ca) (.slice B M cb) half age
  have hbw : Below w1.heap.size w1 (w1.alloc (.cells #[.slice A N ca, .slice B M cb, .int .i64 half, .int .i64 age] 25)) := (Below.refl _ _).alloc (Nat.le_refl _) _
  have h0 : Ints (w1.alloc (.cells #[.slice A N ca, .slice B M cb, .int .i64 half, .int .i64 age] 25)) w1.heap.size (.slice none 0 0) (leavesTo c 0) := RowV.nil _ _ _
  go_enter Try.func87, Try.ntmps87
  go_wp2_with fail
  go_loopw [3, 8] (fun l i wr => ∃ k : Nat, i = .int .i64 (k : Int) ∧ k ≤ N ∧ Ints wr w1.heap.size l (leavesTo c k) ∧ l.ownBlock ≠ some w1.heap.size ∧ Below w1.heap.size w1 wr ∧ CBox wr w1.heap.size (.slice A N ca) (.slice B M cb) half age) (fun _ i _ => N - (intOf i).toNat)
  case atStart => exact ⟨0, rfl, by omega, h0, by simp [Value.ownBlock], hbw, hbx⟩
  case round =>
    obtain ⟨k, rfl, hk, hrow, hne, hb, hx⟩ := hrel
    clear hbw hbx h0
    have HX := Lib.hid hx
    obtain ⟨hx0, x0, x1, x2, x3⟩ := hx
    by_cases hkn : k < N
    · have hs := Lib.hid (leavesTo_succ c k)
      have gl := Lib.hid (gL.out (k : Int))
      have hle := leavesTo_le c k
      generalize Cfg.leaf c (k : Int) = q at *
      have HR := Lib.hid hrow
      have HE := Lib.hid hne
      clear hrow hne
      go_wp2_with fail
      refine (gl.out _ hb).mono ?_
      rintro e w3 ⟨rfl, hb3⟩
      have hb4 := keeps_trans hb hb3
      have hx4 := HX.out.on hb3
      have hr4 : Ints w3 w1.heap.size u3 (leavesTo c k) := HR.out.below hb3
      clear hb hb3 x0 x1 x2 x3 gl HX
      cases q
      · go_wp2_with fail
        go_roundw
        case rel => exact ⟨k + 1, by go_num, by omega, by rw [hs.out]; exact hr4, HE.out, hb4, hx4⟩
        case measure => simp [intOf]; omega
      · obtain ⟨v', w5, hrun, ho, hb5, hk5, hn5⟩ := ints_push hr4 hb4 k (by omega)
        have hx5 := hx4.kept hk5 HE.out
        have hlt := hx4.1
        have hne5 : v'.ownBlock ≠ some w1.heap.size := fun e => by
          rcases hn5 _ e with h | h
          · exact HE.out h
          · omega
        have HO := Lib.hid (And.intro ho hne5)
        clear hr4 hb4 hx4 ho hk5 hn5 hne5
        go_wp2_with (at_builtin; refine wpList_append_eq rfl (.tmp 14) (.tmp 16) _ _ rfl u3 (.slice (some ⟨w3.heap.size, 0, none⟩) 1 1) rfl rfl hrun ?_)
        go_roundw
        case rel => exact ⟨k + 1, by go_num, by omega, by rw [hs.out]; exact HO.out.1, HO.out.2, hb5, hx5⟩
        case measure => simp [intOf]; omega
    · have hkN : N ≤ k := by omega
      have HF := Lib.hid (show LeavesEnd c w1 (.returned u3) wr from ⟨u3, rfl, by rw [hfin.out, show N = k by omega]; exact hrow, hb⟩)
      clear hkn hrow hne
      go_wp2_with fail
      go_ret
      exact HF.out

/-! ### the least configuration -/
def cOne : Cfg.C := ⟨[⟨-1, 1, ⟨0, 0, 0⟩, ⟨0, 0, 0⟩, ⟨0, 0, 0⟩⟩], [⟨0, 0, 0, ⟨0, 0, 0⟩⟩], 1, 0⟩
def cNone : Cfg.C := ⟨[], [], 0, 0⟩
def OneEnd (w : World) (e : Ending) (w' : World) : Prop := ∃ v, e = .returned v ∧ CfgAt w' v cOne ∧ Below w.heap.size w w'
theorem row_one {α : Type} {w : World} {b sz : Nat} {dec : α → List Value} {x : α} (hb : b < w.heap.size) (h : ∀ j v, (dec x)[j]? = some v → w.cell? ⟨b, j, none⟩ = some v) : RowOf w (some ⟨b, 0, none⟩) sz dec [x] := fun _ =>
  ⟨b, 0, rfl, hb, fun i y hy j v hv => by
    cases i with
    | zero => simp at hy; subst hy; simpa using h j v hv
    | succ i => simp at hy⟩
/-! ### chapter 9's example -/
theorem one_facts : Cfg.check cOne = 0 ∧ Cfg.leaf cOne 0 = true ∧ Cfg.leaf cOne 1 = false ∧ Cfg.leaves cOne = [0] ∧ Cfg.check cNone = 2 := by decide
theorem none_at (w : World) : CfgAt w (.agg #[.slice none 0 0, .slice none 0 0, .int .i64 0, .int .i64 0]) cNone := ⟨_, _, rfl, ⟨none, 0, rfl, fun h => absurd rfl h, by decide⟩, ⟨none, 0, rfl, fun h => absurd rfl h, by decide⟩⟩
theorem ints_cell {w : World} {B : Nat} {v : Value} {l : List Nat} (h : Ints w B v l) : ∃ A c, v = .slice A l.length c ∧ ∀ (i x : Nat), l[i]? = some x → ∃ g, A = some ⟨g, 0, none⟩ ∧ B ≤ g ∧ g < w.heap.size ∧ w.cell? ⟨g, i, none⟩ = some (.int .i64 (x : Int)) := by
  obtain ⟨A, c, rfl, hc⟩ := RowV.form h
  refine ⟨A, c, by simp [ival], fun i x hx => ?_⟩
  obtain ⟨g, rfl, hlt, hcell⟩ := hc (by intro e; unfold ival at e; rw [List.map_eq_nil_iff] at e; subst e; simp at hx)
  exact ⟨g, rfl, (RowV.lt h g rfl).1, hlt, hcell i _ (by unfold ival; rw [List.getElem?_map, hx]; rfl)⟩

end Go.Proofs.Ytbfpljnfalopdaa.CfgW
