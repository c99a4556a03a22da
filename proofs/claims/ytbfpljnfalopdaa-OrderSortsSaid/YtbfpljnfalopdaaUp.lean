/-
  The way up the tree, as an iterator: qtree.Up's contract, and that of a range over it.
-/
import Derived.RangeFuncNested
import Derived.RangeFuncBound
import Derived.RangeFuncCalls
import Derived.RangeFuncLeaves
import Derived.OwnWalkIn
import Derived.TacticsInMore
import Derived.LoopNIn
import Derived.LoopIn
import Derived.Test.YtbfpljnfalopdaaCfgLeaves
import Derived.Test.YtbfpljnfalopdaaTreePlain
set_option linter.unusedVariables false
set_option linter.unusedSimpArgs false
namespace Go.Proofs.Ytbfpljnfalopdaa.CfgW
open Go Go.RowKit Go.Proofs.Ytbfpljnfalopdaa.L
attribute [local go_sem] Oper.semAt_some

theorem row_kept {α : Type} {w w' : World} {A : Option Addr} {sz : Nat} {dec : α → List Value} {xs : List α} {F : Nat → Prop} (h : RowOf w A sz dec xs) (k : Kept F w w') (hF : ∀ b o, A = some ⟨b, o, none⟩ → ¬ F b) : RowOf w' A sz dec xs := fun hn => by
  obtain ⟨b, o, e, hlt, hc⟩ := h hn
  exact ⟨b, o, e, Nat.lt_of_lt_of_le hlt k.size, fun i x hx j v hv => (k.cell (p := ⟨b, o + i * sz + j, none⟩) hlt (hF b o e)).trans (hc i x hx j v hv)⟩

/-- What the iterator leans on: its own box holds n, the configuration's box, the nodes. -/
structure UpAt (W : World) (bn bc : Nat) (A : Option Addr) (N ca : Nat) (v2 : Value) (half age : Int) (xs : List Cfg.Node) (n : Int) : Prop where
  cell : W.cell? ⟨bn, 0, none⟩ = some (.int .i64 n)
  free : W.frozen? ⟨bn, 0, none⟩ = false
  lt : bn < W.heap.size
  box : CBox W bc (.slice A N ca) v2 half age
  row : RowOf W A 11 ndec xs
theorem UpAt.kept {W W' : World} {bn bc : Nat} {A : Option Addr} {N ca : Nat} {v2 : Value} {half age : Int} {xs : List Cfg.Node} {n : Int} {F : Nat → Prop} (h : UpAt W bn bc A N ca v2 half age xs n) (k : Kept F W W')
    (h1 : ¬ F bn) (h2 : ¬ F bc) (h3 : ∀ b o, A = some ⟨b, o, none⟩ → ¬ F b) : UpAt W' bn bc A N ca v2 half age xs n :=
  ⟨(k.cell (p := ⟨bn, 0, none⟩) h.lt h1).trans h.cell, (k.frozen (p := ⟨bn, 0, none⟩) h.lt h1).trans h.free, Nat.lt_of_lt_of_le h.lt k.size, h.box.kept k h2, row_kept h.row k h3⟩
theorem UpAt.set {W : World} {bn bc : Nat} {A : Option Addr} {N ca : Nat} {v2 : Value} {half age : Int} {xs : List Cfg.Node} {n : Int} (h : UpAt W bn bc A N ca v2 half age xs n)
    (h2 : bn ≠ bc) (h3 : ∀ b o, A = some ⟨b, o, none⟩ → b ≠ bn) (m : Int) : UpAt (W.setCell ⟨bn, 0, none⟩ (.int .i64 m)) bn bc A N ca v2 half age xs m := by
  have k : Kept (fun i => i = bn) W (W.setCell ⟨bn, 0, none⟩ (.int .i64 m)) := (Kept.refl (fun i => i = bn) W).setCell (p := ⟨bn, 0, none⟩) (.inl rfl) _
  exact ⟨World.cell?_setCell_same' _ _ _ (by rw [h.cell]; rfl), by rw [World.frozen?_setCell]; exact h.free, Nat.lt_of_lt_of_le h.lt k.size, h.box.kept k (fun e => h2 e.symm), row_kept h.row k (fun b o e => h3 b o e)⟩
/-- How far it still is. -/
def upLeft (W : World) (bn : Nat) : Nat := match W.cell? ⟨bn, 0, none⟩ with
  | some (.int _ n) => (n + 1).toNat
  | _ => 0
theorem upLeft_eq {W : World} {bn : Nat} {n : Int} (h : W.cell? ⟨bn, 0, none⟩ = some (.int .i64 n)) : upLeft W bn = (n + 1).toNat := by unfold upLeft; rw [h]

set_option maxRecDepth 100000 in
set_option maxHeartbeats 4000000 in
theorem up1_in {n : Nat} (l bn bc : Nat) {A : Option Addr} {ca : Nat} {v2 : Value} {half age : Int} (c : Cfg.C) (hN : c.nodes.length ≤ maxLen) (t : Int) (J : List Nat → World → Prop) (Jx : List Nat → World → Prop) (F0 : Nat → Prop)
    (h1 : ¬ F0 bn) (h2 : ¬ F0 bc) (h3 : ∀ b o, A = some ⟨b, o, none⟩ → ¬ F0 b) (h4 : bn ≠ bc) (h5 : ∀ b o, A = some ⟨b, o, none⟩ → b ≠ bn)
    (hJ : ∀ pre W v, J pre W → J pre (W.setCell ⟨bn, 0, none⟩ v))
    (hY : ∀ pre (x : Nat) rest W, Tree.up c t = pre ++ x :: rest → J pre W → UpAt W bn bc A c.nodes.length ca v2 half age c.nodes (x : Int) → YieldAt Fence.wide (n - 1) Try.prog l #[.int .i64 (x : Int)] W fun e W' =>
      (e = .returned (.bool true) ∧ J (pre ++ [x]) W' ∧ Kept F0 W W') ∨ (e = .returned (.bool false) ∧ Jx (pre ++ [x]) W'))
    (W : World) (h0 : UpAt W bn bc A c.nodes.length ca v2 half age c.nodes t) (hJ0 : J [] W) :
    CallsIn Fence.wide n Try.prog 59 #[.func (.yield l) #[] #[], .pointer (some ⟨bn, 0, none⟩), .pointer (some ⟨bc, 0, none⟩)] W fun e W' => (∃ v, e = .returned v) ∧ (J (Tree.up c t) W' ∨ ∃ pre, pre <+: Tree.up c t ∧ Jx pre W') := by
  refine callsIn_of_wp Try.func59 rfl trivial ?_ rfl
  simp only [Try.ntmps59, List.size_toArray, List.length_cons, List.length_nil, Nat.reduceAdd, Nat.reduceSub, Array.replicate_succ, Array.replicate_zero, List.push_toArray, List.append_toArray, List.nil_append, List.cons_append]
  gi_wp2
  gi_loopw [4] (fun p wr => ∃ (pre : List Nat) (m : Int), Tree.up c t = pre ++ Tree.up c m ∧ UpAt wr bn bc A c.nodes.length ca v2 half age c.nodes m ∧ J pre wr)
    (fun p wr => upLeft wr bn)
  case atStart => exact ⟨[], t, rfl, h0, hJ0⟩
  case round =>
    obtain ⟨pre, m, hpre, hat, hj⟩ := hrel
    unfold maxLen at hN
    have HJ := Lib.hid hj
    have HP := Lib.hid hpre
    by_cases hm0 : 0 ≤ m
    · by_cases hm1 : m < (c.nodes.length : Int)
      · obtain ⟨x, rfl⟩ := Int.eq_ofNat_of_zero_le hm0
        have hxn : x < c.nodes.length := by omega
        have hup := Tree.up_in c x hxn
        obtain ⟨fn, tmps, assign, body, hy, hR⟩ := hY pre x (if (x : Int) ≤ Tree.par c x then [] else Tree.up c (Tree.par c x)) wr (by rw [hpre, hup]) hj hat
        have hpar : Tree.par c x = c.nodes[x].parent := by unfold Tree.par; rw [List.getD_eq_getElem?_getD, List.getElem?_eq_getElem hxn, Option.getD_some]
        have HUp := Lib.hid hup
        have HPar := Lib.hid hpar
        have HAt := Lib.hid hat
        obtain ⟨q1, q2, q3, ⟨q4, x0, x1, x2, x3⟩, q5⟩ := hat
        have HR := Lib.hid hR
        clear hR hup hpar q5 hj hpre hY hm0 x1 x2 x3
        gi_wp2
        refine ⟨fun h => by simp [Fence.wide] at h, HR.out.mono ?_⟩
        rintro e W3 (⟨rfl, hJ3, hk3⟩ | ⟨rfl, hJx3⟩)
        · have hat3 := HAt.out.kept hk3 h1 h2 h3
          obtain ⟨bb, o, hA, hltb, hcell⟩ := row_parent hat3.row hxn
          have hp := hcell W3 (Below.refl _ _)
          have HAt3 := Lib.hid hat3
          have HJ3 := Lib.hid hJ3
          subst hA
          rw [← HPar.out] at hp
          obtain ⟨p, hpe⟩ : ∃ p, Tree.par c x = p := ⟨_, rfl⟩
          have HPe := Lib.hid hpe
          rw [hpe] at hp
          obtain ⟨r1, r2, r3, ⟨r4, z0, z1, z2, z3⟩, r5⟩ := hat3
          clear hcell hk3 hJ3 r5 hpe z1 z2 z3 x0 q1 q2 hy
          by_cases hpx : (x : Int) ≤ p
          · have HE := Lib.hid (show J (Tree.up c t) W3 by rw [HP.out, HUp.out, HPe.out, if_pos hpx]; exact HJ3.out)
            gi_wp2
            refine bodyPost_ret (results_none rfl _ _ _) rfl ?_
            exact ⟨⟨_, rfl⟩, .inl HE.out⟩
          · have HE := Lib.hid (show Tree.up c t = (pre ++ [x]) ++ Tree.up c p by rw [HP.out, HUp.out, HPe.out, if_neg hpx]; simp)
            have HS := Lib.hid (HAt3.out.set h4 h5 p)
            have HJS := Lib.hid (hJ _ _ (.int .i64 p) HJ3.out)
            have hpd : decide ((x : Int) ≤ p) = false := by simpa using hpx
            have HM := Lib.hid (show upLeft (W3.setCell ⟨bn, 0, none⟩ (.int .i64 p)) bn < upLeft wr bn by
              rw [upLeft_eq HS.out.cell, upLeft_eq HAt.out.cell]; omega)
            gi_wp2
            go_roundw
            case rel => exact ⟨_, p, HE.out, HS.out, HJS.out⟩
            case measure => exact HM.out
        · have HE := Lib.hid hJx3
          have hpf := Lib.hid (show pre ++ [x] <+: Tree.up c t by
            obtain ⟨r, hr⟩ : ∃ r, Tree.up c (x : Int) = x :: r := ⟨_, HUp.out⟩
            rw [HP.out, hr]; exact ⟨r, by simp⟩)
          clear hJx3
          gi_wp2
          go_end0
          exact ⟨⟨_, rfl⟩, .inr ⟨_, hpf.out, HE.out⟩⟩
      · have hE := Lib.hid (show J (Tree.up c t) wr by rw [hpre, Tree.up_out c m (by omega), List.append_nil]; exact hj)
        obtain ⟨q1, q2, q3, ⟨q4, x0, x1, x2, x3⟩, q5⟩ := hat
        have hmd : decide (m < (c.nodes.length : Int)) = false := by simpa using hm1
        clear hpre hj hm1 q5 hY
        gi_wp2
        refine ⟨fun _ _ => trivial, ?_⟩
        gi_wp2
        go_end0
        exact ⟨⟨_, rfl⟩, .inl hE.out⟩
    · have hE := Lib.hid (show J (Tree.up c t) wr by rw [hpre, Tree.up_out c m (by omega), List.append_nil]; exact hj)
      obtain ⟨q1, q2, q3, ⟨q4, x0, x1, x2, x3⟩, q5⟩ := hat
      have hmd : decide (0 ≤ m) = false := by simpa using hm0
      clear hpre hj hm0 q5 hY
      gi_wp2
      refine ⟨fun _ _ => trivial, ?_⟩
      gi_wp2
      go_end0
      exact ⟨⟨_, rfl⟩, .inl hE.out⟩
end Go.Proofs.Ytbfpljnfalopdaa.CfgW
