/-
  A deed with both disks.
-/
import Derived.Test.YtkdbehfmmmlmjaaDiskFew
import Derived.Test.YtkdbehfmmmlmjaaComm
import Derived.Deep.RegionHeld3
import Derived.Deep.DeepCutAuto
import Derived.Deep.CutBlock
set_option linter.unusedVariables false
set_option linter.unusedSimpArgs false
namespace Go.Proofs.Ytkdbehfmmmlmjaa.DiskW
open Go.RowKit Go.Proofs.Ytkdbehfmmmlmjaa.L

/-- Both disks are so; whatever else lives is as it was. -/
def Mid (B : Nat) (L : Nat → Prop) (g h : Nat) (d r : Dsk.D) (w wx : World) : Prop := Own B L wx g d ∧ RefAt wx h r ∧ Kept (fun k => k = h ∨ Room B L k) w wx
def DoEnd (B : Nat) (L : Nat → Prop) (g h : Nat) (d r : Dsk.D) (w : World) (e : Ending) (w' : World) : Prop := (∃ v : Int, e = .returned (.int .i64 v)) ∧ Mid B L g h d r w w'
def MidB (B : Nat) (L : Nat → Prop) (g h : Nat) (d r : Dsk.D) (w wx : World) (v : Value) : Prop := ∃ b : Bool, v = .bool b ∧ Mid B L g h d r w wx

theorem quiet_of_drew {P : Program} {f : FuncId} {args : Array Value} {w : World} {n : Nat} {v : Value}
    (h : Calls P f args (w.drewN n) fun e w' => e = .returned v ∧ ∃ m, w' = (w.drewN n).drewN m) : Calls P f args (w.drewN n) fun e w'' => e = .returned v ∧ ∃ m, w'' = w.drewN m :=
  Calls.quiet_of h
theorem Mid.drewN {B : Nat} {L : Nat → Prop} {g h : Nat} {d r : Dsk.D} {w wx : World} (m : Mid B L g h d r w wx) (n : Nat) : Mid B L g h d r w (wx.drewN n) :=
  ⟨m.1.below (below_drewN (Below.refl _ _) n), ⟨m.2.1.blk, m.2.1.ok, m.2.1.most⟩, m.2.2.drewN n⟩
theorem bytes_ne {a b : ByteArray} (h : a ≠ b) : (a.toList == b.toList) = false := by
  rw [beq_eq_false_iff_ne]
  intro e
  rw [ByteArray.toList_eq, ByteArray.toList_eq] at e
  exact h (ByteArray.ext (Array.toList_inj.1 e))

/-- What else lives while a deed is done: its own block, too. -/
def And1 (L : Nat → Prop) (b : Nat) : Nat → Prop := fun k => L k ∨ k = b
/-- While both disks are turned: d0 to d1, r0 to r1. -/
def JD (B : Nat) (L : Nat → Prop) (g h : Nat) (d0 d1 r0 r1 : Dsk.D) (b : Nat) (n : Int) (s : ByteArray) (w : World) (x y : Bool) (W : World) : Prop :=
  Own B (And1 L b) W g (if x then d1 else d0) ∧ RefAt W h (if y then r1 else r0) ∧ Kept (fun k => k = h ∨ Room B L k) w W ∧ (B ≤ W.heap.size ∧ Live (And1 L b) W) ∧ W.cell? ⟨b, 1, none⟩ = some (.int .i64 n) ∧ W.cell? ⟨b, 2, none⟩ = some (.string s)

section
variable {B : Nat} {L : Nat → Prop} {g h : Nat} {d0 d1 r0 r1 : Dsk.D} {b : Nat} {n : Int} {s : ByteArray} {w : World}
theorem JD.cells {x y : Bool} {W : World} (j : JD B L g h d0 d1 r0 r1 b n s w x y W) : W.cell? ⟨b, 1, none⟩ = some (.int .i64 n) ∧ W.cell? ⟨b, 2, none⟩ = some (.string s) := j.2.2.2.2
theorem JD.mid {W : World} (j : JD B L g h d0 d1 r0 r1 b n s w true true W) : Mid B L g h d1 r1 w W := by
  obtain ⟨⟨F, v1, v2, hd, hF⟩, hr, hk, _⟩ := j
  exact ⟨⟨F, v1, v2, hd, fun k hk => ⟨(hF k hk).1, fun hl => (hF k hk).2 (.inl hl)⟩⟩, hr, hk⟩
theorem JD.one (hh : L h) {f : FuncId} {args : Array Value} {v : Value}
    (hc : ∀ W, Own B (And1 L b) W g d0 → B ≤ W.heap.size → Live (And1 L b) W → Calls Try.prog f args W fun e W' => e = .returned v ∧ OTurn B (And1 L b) W W' g d1) :
    ∀ y W, JD B L g h d0 d1 r0 r1 b n s w false y W → Calls Try.prog f args W fun e W' => e = .returned v ∧ JD B L g h d0 d1 r0 r1 b n s w true y W' := by
  rintro y W ⟨o, r, k, ⟨hB, hL⟩, c1, c2⟩
  refine (hc W o hB hL).mono fun e W' ⟨he, o', k'⟩ => ⟨he, o', r.kept k' (fun hr => hr.2 (.inl hh)), k.trans' k' (fun i _ hi => .inr ⟨hi.1, fun hl => hi.2 (.inl hl)⟩), ⟨Nat.le_trans hB k'.size, hL.kept k'.size⟩, ?_, ?_⟩
  · exact (k'.cell (p := ⟨b, 1, none⟩) (hL b (.inr rfl)) (fun hr => hr.2 (.inr rfl))).trans c1
  · exact (k'.cell (p := ⟨b, 2, none⟩) (hL b (.inr rfl)) (fun hr => hr.2 (.inr rfl))).trans c2
theorem JD.two (hh : L h) (hb : b ≠ h) {f : FuncId} {args : Array Value} {v : Value}
    (hc : ∀ W, RefAt W h r0 → Calls Try.prog f args W fun e W' => e = .returned v ∧ RTurn W W' h r1) :
    ∀ x W, JD B L g h d0 d1 r0 r1 b n s w x false W → Calls Try.prog f args W fun e W' => e = .returned v ∧ JD B L g h d0 d1 r0 r1 b n s w x true W' := by
  rintro x W ⟨o, r, k, ⟨hB, hL⟩, c1, c2⟩
  refine (hc W r).mono fun e W' ⟨he, r', k'⟩ => ⟨he, o.kept k' (fun i hi => .inl (.inl (hi ▸ hh))), r', k.trans' k' (fun i _ hi => .inl hi), ⟨Nat.le_trans hB k'.size, hL.kept k'.size⟩, ?_, ?_⟩
  · exact (k'.cell (p := ⟨b, 1, none⟩) (hL b (.inr rfl)) hb).trans c1
  · exact (k'.cell (p := ⟨b, 2, none⟩) (hL b (.inr rfl)) hb).trans c2
/-- At the beginning. -/
theorem JD.start (o : Own B L w g d0) (r : RefAt w h r0) (hL : Live L w) (hB : B ≤ w.heap.size) (k : Int) :
    JD B L g h d0 d1 r0 r1 w.heap.size n s w false false (w.alloc (.cells #[.int .i64 k, .int .i64 n, .string s] 29)) := by
  obtain ⟨F, v1, v2, hd, hF⟩ := o
  have hb := BoxD.new w k n s
  have hk : Kept (fun _ => False) w (w.alloc (.cells #[.int .i64 k, .int .i64 n, .string s] 29)) := (Kept.refl _ _).alloc _
  refine ⟨⟨F, v1, v2, hd.kept hk (fun _ _ h => h), fun i hi => ⟨(hF i hi).1, fun hl => ?_⟩⟩, r.kept hk (fun h => h), (Kept.refl _ _).alloc _, ⟨by simp; omega, fun i hi => ?_⟩, hb.2.2.1, hb.2.2.2⟩
  · rcases hl with hl | rfl
    · exact (hF i hi).2 hl
    · have := hd.ltF _ hi; omega
  · rcases hi with hi | rfl
    · have := hL i hi; simp; omega
    · simp
theorem JD.drew {x y : Bool} {W : World} (j : JD B L g h d0 d1 r0 r1 b n s w x y W) : JD B L g h d0 d1 r0 r1 b n s w x y W.drew := by
  obtain ⟨o, r, k, ⟨hB, hL⟩, c1, c2⟩ := j
  exact ⟨o.below ((Below.refl _ _).drew), ⟨r.blk, r.ok, r.most⟩, k.drew, ⟨hB, hL⟩, c1, c2⟩
end

set_option maxRecDepth 100000 in
set_option maxHeartbeats 4000000 in
theorem do_any {w : World} {B : Nat} {L : Nat → Prop} {g h : Nat} {d rd : Dsk.D} (o : Own B L w g d) (r : RefAt w h rd) (hh : L h) (hL : Live L w) (hB : B ≤ w.heap.size) (kind n : Int) (s : ByteArray) (hs : s.size ≤ maxLen) :
    Calls Try.prog 16 #[.pointer (some ⟨g, 0, none⟩), .pointer (some ⟨h, 0, none⟩), .agg #[.int .i64 kind, .int .i64 n, .string s]] w
      (DoEnd B L g h (Dsk.deed d kind n s.data.toList) (Dsk.deed rd kind n s.data.toList) w) := by
  go_enter Try.func16, Try.ntmps16
  go_upto_block 0 with fail
  go_cut [7] (fun s7 wx => MidB B L g h (Dsk.deed d kind n s.data.toList) (Dsk.deed rd kind n s.data.toList) w wx s7)
  case first =>
    have hbh : w.heap.size ≠ h := by have := hL h hh; omega
    by_cases k0 : kind = 0
    · subst k0
      have j0 := JD.start (n := n) (s := s) (d1 := Dsk.write d s.data.toList) (r1 := Dsk.write rd s.data.toList) o r hL hB 0
      have g1 := JD.one (B := B) (d0 := d) (d1 := Dsk.write d s.data.toList) (r0 := rd) (r1 := Dsk.write rd s.data.toList) (n := n) (s := s) (w := w) (b := w.heap.size) (g := g) hh (fun W o hB hL => write_own o hB hL s hs)
      have g2 := JD.two (B := B) (g := g) (d0 := d) (d1 := Dsk.write d s.data.toList) (r0 := rd) (r1 := Dsk.write rd s.data.toList) (n := n) (s := s) (w := w) (b := w.heap.size) hh hbh (fun W r => rwrite_any r s hs)
      have hcell : ∀ W, Some2 (JD B L g h d (Dsk.write d s.data.toList) rd (Dsk.write rd s.data.toList) w.heap.size n s w) W → W.cell? ⟨w.heap.size, 2, none⟩ = some (.string s) := fun W ⟨_, _, j⟩ => j.cells.2
      have e1 : Dsk.deed d 0 n s.data.toList = Dsk.write d s.data.toList := rfl
      have e2 : Dsk.deed rd 0 n s.data.toList = Dsk.write rd s.data.toList := rfl
      have He1 := Lib.hid e1
      have He2 := Lib.hid e2
      generalize Dsk.write d s.data.toList = d' at *
      generalize Dsk.write rd s.data.toList = r' at *
      generalize Dsk.writeErr d s.data.toList = E1 at *
      generalize Dsk.writeErr rd s.data.toList = E2 at *
      clear o r e1 e2 hs hL hB
      go_wp2_with fail
      refine region_two 3 7 (JD B L g h d d' rd r' w.heap.size n s w) (by kernel_rfl) (by kernel_rfl) (by decide) (by decide) j0.drew ?_
      clear j0
      repeat (apply Go.Proofs.Ytkdbehfmmmlmjaa.L.wpComm_yes; (focus rfl); (focus (apply Go.Proofs.Ytkdbehfmmmlmjaa.L.step_plain (by decide) (by decide); intro x y W hW; have hX := Go.Proofs.Ytkdbehfmmmlmjaa.L.some2 hW; go_simp; first | done | exact ⟨rfl, hW⟩ | rfl)); (focus (go_simp; first | done | rfl)))
      (apply Go.Proofs.Ytkdbehfmmmlmjaa.L.wpComm_yes; (focus rfl); (focus (apply Go.Proofs.Ytkdbehfmmmlmjaa.L.step_one (by decide); intro y W hW; go_simp; exact g1 y W hW)); (focus (go_simp; first | done | rfl)))
      repeat (apply Go.Proofs.Ytkdbehfmmmlmjaa.L.wpComm_yes; (focus rfl); (focus (apply Go.Proofs.Ytkdbehfmmmlmjaa.L.step_plain (by decide) (by decide); intro x y W hW; have hX := Go.Proofs.Ytkdbehfmmmlmjaa.L.some2 hW; go_simp; first | done | exact ⟨rfl, hW⟩ | rfl)); (focus (go_simp; first | done | rfl)))
      (apply Go.Proofs.Ytkdbehfmmmlmjaa.L.wpComm_yes; (focus rfl); (focus (apply Go.Proofs.Ytkdbehfmmmlmjaa.L.step_two (by decide); intro x W hW; go_simp; exact g2 x W hW)); (focus (go_simp; first | done | rfl)))
      repeat (apply Go.Proofs.Ytkdbehfmmmlmjaa.L.wpComm_yes; (focus rfl); (focus (apply Go.Proofs.Ytkdbehfmmmlmjaa.L.step_plain (by decide) (by decide); intro x y W hW; have hX := Go.Proofs.Ytkdbehfmmmlmjaa.L.some2 hW; go_simp; first | done | exact ⟨rfl, hW⟩ | rfl)); (focus (go_simp; first | done | rfl)))
      refine wpComm_nil ?_
      intro W hW
      have hm : JD B L g h d d' rd r' w.heap.size n s w true true W := hW
      clear hW g1 g2 hcell
      go_wp2_with fail
      go_meet
      exact ⟨_, rfl, by rw [He1.out, He2.out]; exact hm.mid⟩
    by_cases k1 : kind = 1
    · subst k1
      have j0 := JD.start (n := n) (s := s) (d1 := Dsk.sync d) (r1 := Dsk.sync rd) o r hL hB 1
      have g1 := JD.one (B := B) (d0 := d) (d1 := Dsk.sync d) (r0 := rd) (r1 := Dsk.sync rd) (n := n) (s := s) (w := w) (b := w.heap.size) (g := g) hh (fun W o hB hL => sync_own o hB hL)
      have g2 := JD.two (B := B) (g := g) (d0 := d) (d1 := Dsk.sync d) (r0 := rd) (r1 := Dsk.sync rd) (n := n) (s := s) (w := w) (b := w.heap.size) hh hbh (fun W r => rsync_any r)
      have e1 : Dsk.deed d 1 n s.data.toList = Dsk.sync d := rfl
      have e2 : Dsk.deed rd 1 n s.data.toList = Dsk.sync rd := rfl
      have He1 := Lib.hid e1
      have He2 := Lib.hid e2
      generalize Dsk.sync d = d' at *
      generalize Dsk.sync rd = r' at *
      clear o r e1 e2 hs hL hB
      go_wp2_with fail
      refine (g1 _ _ j0).mono ?_
      rintro e w1 ⟨rfl, j1⟩
      clear j0 g1
      have c1 := j1.cells.1
      go_wp2_with fail
      refine (g2 _ _ j1).mono ?_
      rintro e w2 ⟨rfl, j2⟩
      clear j1 g2 c1
      go_wp2_with fail
      go_meet
      exact ⟨_, rfl, by rw [He1.out, He2.out]; exact j2.mid⟩
    by_cases k2 : kind = 2
    · subst k2
      have j0 := JD.start (n := n) (s := s) (d1 := Dsk.replace d s.data.toList) (r1 := Dsk.replace rd s.data.toList) o r hL hB 2
      have g1 := JD.one (B := B) (d0 := d) (d1 := Dsk.replace d s.data.toList) (r0 := rd) (r1 := Dsk.replace rd s.data.toList) (n := n) (s := s) (w := w) (b := w.heap.size) (g := g) hh (fun W o hB hL => replace_own o hB hL s hs)
      have g2 := JD.two (B := B) (g := g) (d0 := d) (d1 := Dsk.replace d s.data.toList) (r0 := rd) (r1 := Dsk.replace rd s.data.toList) (n := n) (s := s) (w := w) (b := w.heap.size) hh hbh (fun W r => rreplace_any r s hs)
      have hcell : ∀ W, Some2 (JD B L g h d (Dsk.replace d s.data.toList) rd (Dsk.replace rd s.data.toList) w.heap.size n s w) W → W.cell? ⟨w.heap.size, 2, none⟩ = some (.string s) := fun W ⟨_, _, j⟩ => j.cells.2
      have e1 : Dsk.deed d 2 n s.data.toList = Dsk.replace d s.data.toList := rfl
      have e2 : Dsk.deed rd 2 n s.data.toList = Dsk.replace rd s.data.toList := rfl
      have He1 := Lib.hid e1
      have He2 := Lib.hid e2
      generalize Dsk.replace d s.data.toList = d' at *
      generalize Dsk.replace rd s.data.toList = r' at *
      generalize Dsk.replaceErr d s.data.toList = E1 at *
      generalize Dsk.replaceErr rd s.data.toList = E2 at *
      clear o r e1 e2 hs hL hB
      go_wp2_with fail
      refine region_two 3 7 (JD B L g h d d' rd r' w.heap.size n s w) (by kernel_rfl) (by kernel_rfl) (by decide) (by decide) j0.drew ?_
      clear j0
      repeat (apply Go.Proofs.Ytkdbehfmmmlmjaa.L.wpComm_yes; (focus rfl); (focus (apply Go.Proofs.Ytkdbehfmmmlmjaa.L.step_plain (by decide) (by decide); intro x y W hW; have hX := Go.Proofs.Ytkdbehfmmmlmjaa.L.some2 hW; go_simp; first | done | exact ⟨rfl, hW⟩ | rfl)); (focus (go_simp; first | done | rfl)))
      (apply Go.Proofs.Ytkdbehfmmmlmjaa.L.wpComm_yes; (focus rfl); (focus (apply Go.Proofs.Ytkdbehfmmmlmjaa.L.step_one (by decide); intro y W hW; go_simp; exact g1 y W hW)); (focus (go_simp; first | done | rfl)))
      repeat (apply Go.Proofs.Ytkdbehfmmmlmjaa.L.wpComm_yes; (focus rfl); (focus (apply Go.Proofs.Ytkdbehfmmmlmjaa.L.step_plain (by decide) (by decide); intro x y W hW; have hX := Go.Proofs.Ytkdbehfmmmlmjaa.L.some2 hW; go_simp; first | done | exact ⟨rfl, hW⟩ | rfl)); (focus (go_simp; first | done | rfl)))
      (apply Go.Proofs.Ytkdbehfmmmlmjaa.L.wpComm_yes; (focus rfl); (focus (apply Go.Proofs.Ytkdbehfmmmlmjaa.L.step_two (by decide); intro x W hW; go_simp; exact g2 x W hW)); (focus (go_simp; first | done | rfl)))
      repeat (apply Go.Proofs.Ytkdbehfmmmlmjaa.L.wpComm_yes; (focus rfl); (focus (apply Go.Proofs.Ytkdbehfmmmlmjaa.L.step_plain (by decide) (by decide); intro x y W hW; have hX := Go.Proofs.Ytkdbehfmmmlmjaa.L.some2 hW; go_simp; first | done | exact ⟨rfl, hW⟩ | rfl)); (focus (go_simp; first | done | rfl)))
      refine wpComm_nil ?_
      intro W hW
      have hm : JD B L g h d d' rd r' w.heap.size n s w true true W := hW
      clear hW g1 g2 hcell
      go_wp2_with fail
      go_meet
      exact ⟨_, rfl, by rw [He1.out, He2.out]; exact hm.mid⟩
    have t0 : (kind == 0) = false := by simpa using k0
    have t1 : (kind == 1) = false := by simpa using k1
    have t2 : (kind == 2) = false := by simpa using k2
    have j0 := JD.start (n := n) (s := s) (d1 := Dsk.crash d n) (r1 := Dsk.crash rd n) o r hL hB kind
    have g1 := JD.one (B := B) (d0 := d) (d1 := Dsk.crash d n) (r0 := rd) (r1 := Dsk.crash rd n) (n := n) (s := s) (w := w) (b := w.heap.size) (g := g) hh (fun W o hB hL => crash_own o hB hL n)
    have g2 := JD.two (B := B) (g := g) (d0 := d) (d1 := Dsk.crash d n) (r0 := rd) (r1 := Dsk.crash rd n) (n := n) (s := s) (w := w) (b := w.heap.size) hh hbh (fun W r => rcrash_any r n)
    have e1 : Dsk.deed d kind n s.data.toList = Dsk.crash d n := by unfold Dsk.deed; rw [if_neg k0, if_neg k1, if_neg k2]
    have e2 : Dsk.deed rd kind n s.data.toList = Dsk.crash rd n := by unfold Dsk.deed; rw [if_neg k0, if_neg k1, if_neg k2]
    have He1 := Lib.hid e1
    have He2 := Lib.hid e2
    generalize Dsk.crash d n = d' at *
    generalize Dsk.crash rd n = r' at *
    clear o r e1 e2 hs hL hB k0 k1 k2
    go_wp2_with fail
    refine (g1 _ _ j0).mono ?_
    rintro e w1 ⟨rfl, j1⟩
    clear j0 g1
    have c1 := j1.cells.1
    go_wp2_with fail
    refine (g2 _ _ j1).mono ?_
    rintro e w2 ⟨rfl, j2⟩
    clear j1 g2 c1
    go_wp2_with fail
    go_meet
    exact ⟨_, rfl, by rw [He1.out, He2.out]; exact j2.mid⟩
  case rest =>
    obtain ⟨b, rfl, hm⟩ := hcut
    generalize Dsk.deed d kind n s.data.toList = d' at *
    generalize Dsk.deed rd kind n s.data.toList = r' at *
    clear o r hL hB hs hh
    have HM := Lib.hid hm
    have hc := fun k => content_own (hm.drewN k).1
    have hw := fun k => waiting_own (hm.drewN k).1
    have hf := fun k => free_own (hm.drewN k).1
    have hrf := fun k => rfree_any (hm.drewN k).2.1
    have c1 := hm.2.1.blk.cell 1
    have c2 := hm.2.1.blk.cell 2
    simp only [List.getElem?_toArray] at c1 c2
    have hrok := hm.2.1.ok.2.1
    have hrm := hm.2.1.most
    have hsz : (str r'.waits).size ≤ 1048576 := by rw [str_size]; omega
    clear hm hrok hrm
    generalize str d'.safe = S1 at *
    generalize str r'.safe = S2 at *
    generalize Dsk.free d' = F1 at *
    generalize Dsk.free r' = F2 at *
    generalize ((d'.waits.length : Nat) : Int) = W1 at *
    have Hc := Lib.hid hc
    have Hw := Lib.hid hw
    have Hf := Lib.hid hf
    have Hrf := Lib.hid hrf
    clear hc hw hf hrf
    cases b
    · go_wp2_with fail
      go_quiet (fail)
      go_wp2
      go_ret
      exact ⟨⟨_, rfl⟩, HM.out.drewN _⟩
    by_cases hS : S1 = S2
    case neg =>
      have hS' := bytes_ne hS
      go_wp2_with fail
      go_quiet ((go_at_call 15; with_reducible exact quiet_of_eq (Hc.out _)))
      go_wp2
      go_ret
      exact ⟨⟨_, rfl⟩, HM.out.drewN _⟩
    subst hS
    by_cases hW : W1 = (((str r'.waits).size : Nat) : Int)
    case neg =>
      have hW' : (W1 == (((str r'.waits).size : Nat) : Int)) = false := by simpa using hW
      clear hW
      go_wp2_with fail
      go_quiet (first | (go_at_call 15; with_reducible exact quiet_of_eq (Hc.out _)) | (go_at_call 21; with_reducible exact quiet_of_eq (Hw.out _)))
      go_wp2
      go_ret
      exact ⟨⟨_, rfl⟩, HM.out.drewN _⟩
    subst hW
    by_cases hF : F1 = F2
    case neg =>
      have hF' : (F1 == F2) = false := by simpa using hF
      clear hF
      go_wp2_with fail
      go_quiet (first | (go_at_call 15; with_reducible exact quiet_of_eq (Hc.out _)) | (go_at_call 21; with_reducible exact quiet_of_eq (Hw.out _)) | (go_at_call 22; with_reducible exact quiet_of_drew (Hf.out _)) | (go_at_call 41; with_reducible exact quiet_of_drew (Hrf.out _)))
      go_wp2
      go_ret
      exact ⟨⟨_, rfl⟩, HM.out.drewN _⟩
    subst hF
    go_wp2_with fail
    go_quiet (first | (go_at_call 15; with_reducible exact quiet_of_eq (Hc.out _)) | (go_at_call 21; with_reducible exact quiet_of_eq (Hw.out _)) | (go_at_call 22; with_reducible exact quiet_of_drew (Hf.out _)) | (go_at_call 41; with_reducible exact quiet_of_drew (Hrf.out _)))
    go_wp2
    go_ret
    exact ⟨⟨_, rfl⟩, HM.out.drewN _⟩
end Go.Proofs.Ytkdbehfmmmlmjaa.DiskW
