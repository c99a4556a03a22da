/-
  Something done at some hosts: the contract of hosts.change, whatever is done.
-/
import Derived.Test.YtjkmcncgndkdoaaVCopy
set_option linter.unusedVariables false
set_option linter.unusedSimpArgs false
namespace Go.Proofs.Ytjkmcncgndkdoaa.CfgW
open Go.RowKit Go.Proofs.Ytjkmcncgndkdoaa.L

def ChYes (l : List Vec.V) (w : World) (e : Ending) (w' : World) : Prop := ∃ v, e = .returned (.tuple #[v, .bool true]) ∧ VRow w' w.heap.size v l ∧ Below w.heap.size w w'
def ChNo (w : World) (e : Ending) (w' : World) : Prop := e = .returned (.tuple #[.slice none 0 0, .bool false]) ∧ Below w.heap.size w w'
def ChEnd (f : Vec.V → Vec.V → Vec.V) (free : List Vec.V) (l : List Int) (need : Vec.V) (w : World) (e : Ending) (w' : World) : Prop :=
  if Vec.valid need && Hst.all free.length l then ChYes (Hst.gang f need l free) w e w' else ChNo w e w'
theorem ChEnd.no {f : Vec.V → Vec.V → Vec.V} {free : List Vec.V} {l : List Int} {need : Vec.V} {w : World} {e : Ending} {w' : World} (h : (Vec.valid need && Hst.all free.length l) = false) (c : ChNo w e w') : ChEnd f free l need w e w' := by
  unfold ChEnd; rw [h]; exact c
theorem ChEnd.yes {f : Vec.V → Vec.V → Vec.V} {free : List Vec.V} {l : List Int} {need : Vec.V} {w : World} {e : Ending} {w' : World} (h : (Vec.valid need && Hst.all free.length l) = true) (c : ChYes (Hst.gang f need l free) w e w') : ChEnd f free l need w e w' := by
  unfold ChEnd; rw [h]; exact c

set_option maxRecDepth 100000 in
set_option maxHeartbeats 4000000 in
theorem change_any (d : FuncId) (f : Vec.V → Vec.V → Vec.V) (hd : ∀ a b : Vec.V, Gives Try.prog d #[a.val, b.val] (f a b).val) (hcf : ∀ a W, (callFunc d a).run Try.prog W = .ok (.enter d a) W) {w : World} {vf vl : Value} {free : List Vec.V} {l : List Int} (hf : VSl w vf free) (hl : ISl w vl l) (need : Vec.V) (hlen : free.length ≤ 1000000) :
    ∀ w1, Below w.heap.size w w1 → Calls Try.prog 70 #[vf, vl, need.val, .func (.func d) #[] #[]] w1 fun e w' => ChEnd f free l need w1 e w' := by
  intro w1 hb1
  replace hf := hf.below hb1
  replace hl := hl.below hb1
  clear hb1
  obtain ⟨n0, n1, n2⟩ := need
  have hf' := hf
  obtain ⟨A, ca, rfl, hrA, hlA⟩ := hf'
  obtain ⟨C, cc, rfl, hrC, hlC⟩ := hl
  unfold maxLen at hlC
  obtain ⟨M, hM⟩ : ∃ M, free.length = M := ⟨_, rfl⟩
  obtain ⟨L, hL⟩ : ∃ L, l.length = L := ⟨_, rfl⟩
  have HM := Lib.hid hM
  have HL := Lib.hid hL
  have hf2 := hf
  rw [hM] at hlen hf2 ⊢
  rw [hL] at hlC ⊢
  have HF := Lib.hid hf2
  have HC := Lib.hid hrC
  have gV := Lib.hid (VecW.gvalid ⟨n0, n1, n2⟩)
  have GD := Lib.hid hd
  have hno := fun (h : (Vec.valid ⟨n0, n1, n2⟩ && Hst.all free.length l) = false) e w' => ChEnd.no (f := f) (free := free) (l := l) (need := ⟨n0, n1, n2⟩) (w := w1) (e := e) (w' := w') h
  have hyes := fun (h : (Vec.valid ⟨n0, n1, n2⟩ && Hst.all free.length l) = true) e w' => ChEnd.yes (f := f) (free := free) (l := l) (need := ⟨n0, n1, n2⟩) (w := w1) (e := e) (w' := w') h
  have HNo := Lib.hid hno
  have HYes := Lib.hid hyes
  generalize hQ : ChEnd f free l ⟨n0, n1, n2⟩ w1 = Q at *
  obtain ⟨q, hq⟩ : ∃ q, Vec.valid ⟨n0, n1, n2⟩ = q := ⟨_, rfl⟩
  have Hq := Lib.hid hq
  rw [hq] at gV
  show Calls Try.prog 70 #[.slice A M ca, .slice C L cc, .agg #[.int .i64 n0, .int .i64 n1, .int .i64 n2], .func (.func d) #[] #[]] w1 fun e w' => Q e w'
  clear hf hf2 hrA hlA hrC hM hL hd hno hyes hQ hq
  go_enter Try.func70, Try.ntmps70
  go_wp2_with fail
  refine (gV.out _).mono ?_
  rintro e w2 ⟨rfl, hb2⟩
  have hbA : Below w1.heap.size w1 (w1.alloc (.cells #[.int .i64 n0, .int .i64 n1, .int .i64 n2] 33)) := (Below.refl _ _).alloc (Nat.le_refl _) _
  have hB0 : VBox3 (w1.alloc (.cells #[.int .i64 n0, .int .i64 n1, .int .i64 n2] 33)) w1.heap.size 0 ⟨n0, n1, n2⟩ := ⟨by simp, by simp [go_sem], by simp [go_sem], by simp [go_sem]⟩
  have hbw2 := keeps_trans hbA hb2
  have hB2 := hB0.on hb2
  clear hbA hB0 hb2 gV
  cases q
  · have HB := Lib.hid hbw2
    clear hbw2 hB2
    go_wp2_with fail
    exact HNo.out (by rw [Hq.out]; rfl) _ _ ⟨rfl, HB.out⟩
  · obtain ⟨w3, hmk, hrow, hb3, hlt⟩ := make_vecs w2 M (by omega)
    obtain ⟨w4, hcp, hrow4, hk4⟩ := copy_vecs hrow (HF.out.below (keeps_trans hbw2 hb3)) HM.out
    have hb4 : Below w2.heap.size w2 w4 := hb3.trans (hk4.below hb3.size (fun i e => by omega))
    have hbw4 := keeps_trans hbw2 hb4
    have hB4 := hB2.on hb4
    have hg1 : w1.heap.size < w2.heap.size := hB2.1
    have HR4 := Lib.hid (hrow4.low (Nat.le_of_lt hg1))
    generalize hG : w2.heap.size = G at *
    have HB4 := Lib.hid (And.intro hbw4 hB4)
    have hsz4 : G < w4.heap.size := Nat.lt_of_lt_of_le hlt hk4.size
    clear hbw2 hB2 hrow hb3 hrow4 hk4 hb4 hbw4 hB4 hG hlt
    have hmk' := hmk
    have hcp' := hcp
    go_wp2_with fail
    clear hmk hcp hmk' hcp'
    go_loopw [24] (fun i wx => ∃ j : Nat, i = .int .i64 (j : Int) ∧ j ≤ L ∧ VRow wx w1.heap.size (.slice (some ⟨G, 0, none⟩) M M) (Hst.gang f ⟨n0, n1, n2⟩ (l.take j) free) ∧ Hst.all free.length (l.take j) = true ∧ Below w1.heap.size w1 wx ∧ VBox3 wx w1.heap.size 0 ⟨n0, n1, n2⟩) (fun i _ => L - (intOf i).toNat)
    case atStart => exact ⟨0, rfl, by omega, HR4.out, rfl, HB4.out.1, HB4.out.2⟩
    case round =>
      clear HR4 HB4
      obtain ⟨j, rfl, hj, hrow, hall, hb, hbox⟩ := hrel
      rename World => wx
      by_cases hjl : j < L
      · have hjh : j < l.length := by rw [HL.out]; exact hjl
        obtain ⟨bc, oc, rfl, hltc, hcc⟩ := row_int HC.out hjh
        have p := hcc _ hb
        have hnx2 := Lib.hid (Hst.gang_succ f ⟨n0, n1, n2⟩ l free j hjh)
        have HN := Lib.hid (fun hn => Hst.all_no (n := free.length) hjh hn)
        have HS := Lib.hid (fun hn => Hst.all_succ (n := free.length) hjh hall hn)
        generalize l[j] = h at *
        have hlen2 := Lib.hid (Hst.gang_length f ⟨n0, n1, n2⟩ (l.take j) free)
        generalize Hst.gang f ⟨n0, n1, n2⟩ (l.take j) free = O at *
        have hOM : O.length = M := by rw [hlen2.out, HM.out]
        clear hcc hjh hall
        by_cases hin : 0 ≤ h ∧ h < (M : Int)
        · obtain ⟨i, rfl⟩ := Int.eq_ofNat_of_zero_le hin.1
          have HS2 := Lib.hid (HS.out (by rw [HM.out]; exact hin))
          have hiM : i < M := by have := hin.2; omega
          have hiO : i < O.length := by omega
          obtain ⟨-, hBg, hwg, q⟩ := hrow.at_ hiO
          have hone : Hid (Hst.one f ⟨n0, n1, n2⟩ O (i : Int) = O.set i (f O[i] ⟨n0, n1, n2⟩)) := Lib.hid (by
            unfold Hst.one
            rw [if_pos ⟨by omega, by omega⟩, Int.toNat_natCast, List.getD_eq_getElem?_getD, List.getElem?_eq_getElem hiO, Option.getD_some])
          generalize O[i] = z at *
          obtain ⟨z0, z1, z2⟩ := z
          have q' := q
          obtain ⟨q0, q1, q2⟩ := q'
          have C0 : Hid (∀ W, Onward wx W → VAt W G (i * 3) ⟨z0, z1, z2⟩) := Lib.hid (fun W hW => (VBox3.on ⟨hwg, q⟩ hW).2)
          have C1 : Hid (∀ W, Onward wx W → VBox3 W w1.heap.size 0 ⟨n0, n1, n2⟩) := Lib.hid (fun W hW => hbox.on hW)
          have Hb3 := Lib.hid hb
          have HR3 := Lib.hid hrow
          have t1 : decide ((i : Int) < 0) = false := by simp
          have t2 : decide ((M : Int) ≤ (i : Int)) = false := by simp; omega
          have gD := GD.out ⟨z0, z1, z2⟩ ⟨n0, n1, n2⟩
          clear hrow hb hbox q hin hiO hOM HN HS
          go_wp2_with fail
          refine region_keep_tail 9 (by kernel_rfl) (by kernel_rfl) ?_
          simp only [List.take_succ_cons, List.take_zero, List.drop_succ_cons, List.drop_zero]
          have c0 : ∀ W, Onward wx W → W.cell? ⟨G, i * 3, none⟩ = some (.int .i64 z0) := fun W hW => (C0.out W hW).1
          have c1 : ∀ W, Onward wx W → W.cell? ⟨G, i * 3 + 1, none⟩ = some (.int .i64 z1) := fun W hW => (C0.out W hW).2.1
          have c2 : ∀ W, Onward wx W → W.cell? ⟨G, i * 3 + 2, none⟩ = some (.int .i64 z2) := fun W hW => (C0.out W hW).2.2
          have c3 : ∀ W, Onward wx W → W.cell? ⟨w1.heap.size, 0, none⟩ = some (.int .i64 n0) := fun W hW => (C1.out W hW).2.1
          have c4 : ∀ W, Onward wx W → W.cell? ⟨w1.heap.size, 1, none⟩ = some (.int .i64 n1) := fun W hW => (C1.out W hW).2.2.1
          have c5 : ∀ W, Onward wx W → W.cell? ⟨w1.heap.size, 2, none⟩ = some (.int .i64 n2) := fun W hW => (C1.out W hW).2.2.2
          repeat (apply Go.Proofs.Ytjkmcncgndkdoaa.L.wpKeep_yes; (focus rfl); (focus (intro W hW; go_simp; first | done | exact ⟨rfl, hW⟩ | rfl)); (focus (go_simp; first | done | rfl)))
          (apply Go.Proofs.Ytjkmcncgndkdoaa.L.wpKeep_yes; (focus rfl); (focus (intro W hW; go_simp; first | exact Go.Proofs.Ytjkmcncgndkdoaa.L.Gives.up gD hW | exact ⟨hW, Go.Proofs.Ytjkmcncgndkdoaa.L.Gives.up gD hW⟩)); (focus (go_simp; first | done | rfl)))
          repeat (apply Go.Proofs.Ytjkmcncgndkdoaa.L.wpKeep_yes; (focus rfl); (focus (intro W hW; go_simp; first | done | exact ⟨rfl, hW⟩ | rfl)); (focus (go_simp; first | done | rfl)))
          refine wpKeep_nil ?_
          intro W hW
          have hRW := HR3.out.below hW
          have fz := hRW.ok
          obtain ⟨d0, d1, d2⟩ := C0.out W hW
          have HRW := Lib.hid hRW
          have HBW := Lib.hid (keeps_trans Hb3.out hW)
          have HXW := Lib.hid (C1.out W hW)
          obtain ⟨v0, hv0⟩ : ∃ v, f ⟨z0, z1, z2⟩ ⟨n0, n1, n2⟩ = v := ⟨_, rfl⟩
          have Hv0 := Lib.hid hv0
          obtain ⟨s0, s1, s2⟩ := v0
          rw [show (f { x := z0, y := z1, z := z2 } { x := n0, y := n1, z := n2 }).val = .agg #[.int .i64 s0, .int .i64 s1, .int .i64 s2] by rw [hv0]; rfl]
          clear c0 c1 c2 c3 c4 c5 C0 C1 hRW hv0 hW gD
          go_wp2_with fail
          go_roundw
          case rel =>
            refine ⟨j + 1, by go_num, by omega, ?_, HS2.out, put3_below HBW.out (Nat.le_of_lt hg1) _ ⟨s0, s1, s2⟩, HXW.out.kept (put3_kept W G (i * 3) ⟨s0, s1, s2⟩) (by omega)⟩
            rw [hnx2.out, hone.out, Hv0.out]
            exact HRW.out.set i ⟨s0, s1, s2⟩
          case measure => simp [intOf]; omega
        · have HA := Lib.hid (HN.out (by rw [HM.out]; exact hin))
          have hk1 := clear_vecs hrow
          obtain ⟨w5, hcl, hk5⟩ := hk1
          have HB5 := Lib.hid (hb.trans (hk5.below hb.size (fun i e => by omega)))
          clear hrow hb hbox hOM HN HS hk5
          by_cases h0 : 0 ≤ h
          · have t1 : decide (h < (0 : Int)) = false := by simp; omega
            have t2 : decide ((M : Int) ≤ h) = true := by simp; omega
            clear hin h0
            go_wp2_with fail
            exact HNo.out (by rw [HA.out, Bool.and_false]) _ _ ⟨rfl, HB5.out⟩
          · have t1 : decide (h < (0 : Int)) = true := by simp; omega
            clear hin h0
            go_wp2_with fail
            exact HNo.out (by rw [HA.out, Bool.and_false]) _ _ ⟨rfl, HB5.out⟩
      · rw [List.take_of_length_le (by rw [HL.out]; omega)] at hrow hall
        have HA := Lib.hid (HYes.out (by rw [Hq.out, hall]; rfl) _ _ ⟨_, rfl, hrow, hb⟩)
        clear hrow hall hb hbox
        go_wp2_with fail
        exact HA.out
end Go.Proofs.Ytjkmcncgndkdoaa.CfgW
