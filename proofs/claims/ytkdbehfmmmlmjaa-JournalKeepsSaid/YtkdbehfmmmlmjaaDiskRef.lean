/-
  The reference's disk: its contracts.
-/
import Derived.Test.YtkdbehfmmmlmjaaDiskCrash
set_option linter.unusedVariables false
set_option linter.unusedSimpArgs false
namespace Go.Proofs.Ytkdbehfmmmlmjaa.DiskW
open Go.RowKit Go.Proofs.Ytkdbehfmmmlmjaa.L

structure RefAt (w : World) (h : Nat) (d : Dsk.D) : Prop where
  blk : Blk w h 33 #[.int .i64 (d.size : Int), .string (str d.safe), .string (str d.waits), .bool d.swaps]
  ok : Dsk.Ok d
  most : d.size ≤ 1048576
def RTurn (w w' : World) (h : Nat) (d' : Dsk.D) : Prop := RefAt w' h d' ∧ Kept (fun k => k = h) w w'
theorem RefAt.kept {w w' : World} {h : Nat} {d : Dsk.D} {G : Nat → Prop} (r : RefAt w h d) (k : Kept G w w') (hd : ¬ G h) : RefAt w' h d := ⟨r.blk.kept k hd, r.ok, r.most⟩
theorem RTurn.of_drew {w w' w1 : World} {h : Nat} {d' : Dsk.D} {n : Nat} (e : w1 = w.drewN n) (t : RTurn w1 w' h d') : RTurn w w' h d' := by
  subst e
  exact ⟨t.1, ((Kept.refl _ w).drewN n).trans t.2⟩

theorem one1 (w : World) (h i : Nat) (u : Value) : Kept (fun k => k = h) w (w.setCell ⟨h, i, none⟩ u) := Kept.setCell (F := fun k => k = h) (p := ⟨h, i, none⟩) (Kept.refl _ w) (.inl rfl) u
theorem one2 (w : World) (h i j : Nat) (u v : Value) : Kept (fun k => k = h) w ((w.setCell ⟨h, i, none⟩ u).setCell ⟨h, j, none⟩ v) := Kept.setCell (F := fun k => k = h) (p := ⟨h, j, none⟩) (one1 w h i u) (.inl rfl) v
theorem one3 (w : World) (h i j l : Nat) (u v x : Value) : Kept (fun k => k = h) w (((w.setCell ⟨h, i, none⟩ u).setCell ⟨h, j, none⟩ v).setCell ⟨h, l, none⟩ x) := Kept.setCell (F := fun k => k = h) (p := ⟨h, l, none⟩) (one2 w h i j u v) (.inl rfl) x

set_option maxHeartbeats 400000 in
theorem rfree_any {w : World} {h : Nat} {d : Dsk.D} (r : RefAt w h d) :
    Calls Try.prog 41 #[.pointer (some ⟨h, 0, none⟩)] w fun e w' => e = .returned (.int .i64 (Dsk.free d)) ∧ ∃ n, w' = w.drewN n := by
  have c0 := r.blk.cell 0
  have c1 := r.blk.cell 1
  have c2 := r.blk.cell 2
  have c3 := r.blk.cell 3
  have ok := r.ok
  have most := r.most
  unfold Dsk.Ok at ok
  obtain ⟨o1, o2, o3⟩ := ok
  clear r
  obtain ⟨size, safe, waits, swaps⟩ := d
  have s1 := str_size safe
  have s2 := str_size waits
  simp only [List.getElem?_toArray] at *
  have l1 : (str safe).size ≤ 1048576 := by omega
  have l2 : (str waits).size ≤ 1048576 := by omega
  have S1 := Lib.hid s1
  have S2 := Lib.hid s2
  cases swaps
  · have o4 := o3 rfl
    have o5 : (str safe).size + (str waits).size ≤ size := by omega
    clear o3 o1 o2 o4 s1 s2
    go_enter Try.func41, Try.ntmps41
    go_wp2
    have q1 : IntKind.i64.wrap ((size : Int) - ((str safe).size : Int)) = (size : Int) - ((str safe).size : Int) := IntWalk.i64_in _ (by omega)
    have q2 : IntKind.i64.wrap ((size : Int) - ((str safe).size : Int) - ((str waits).size : Int)) = (size : Int) - ((str safe).size : Int) - ((str waits).size : Int) := IntWalk.i64_in _ (by omega)
    go_quiet (fail)
    clear q1 q2
    go_wp2
    go_ret
    exact ⟨ret_int (by simp only [Dsk.free, Bool.false_eq_true, if_false]; rw [S1.out, S2.out]; omega), ⟨_, rfl⟩⟩
  · clear o3 s1 s2
    go_enter Try.func41, Try.ntmps41
    go_wp2
    have q1 : IntKind.i64.wrap ((size : Int) - ((str waits).size : Int)) = (size : Int) - ((str waits).size : Int) := IntWalk.i64_in _ (by omega)
    go_quiet (fail)
    clear q1
    go_wp2
    go_ret
    exact ⟨ret_int (by simp only [Dsk.free, if_true]; rw [S2.out]; omega), ⟨_, rfl⟩⟩

theorem str_add (l : List UInt8) (s : ByteArray) : str l ++ s = str (l ++ s.data.toList) := by
  conv => lhs; rw [str_of s]
  rw [str_append]

set_option maxHeartbeats 1000000 in
theorem rwrite_any {w : World} {h : Nat} {d : Dsk.D} (r : RefAt w h d) (s : ByteArray) (hs : s.size ≤ maxLen) :
    Calls Try.prog 33 #[.pointer (some ⟨h, 0, none⟩), .string s] w fun e w' => e = .returned (.int .i64 (Dsk.writeErr d s.data.toList)) ∧ RTurn w w' h (Dsk.write d s.data.toList) := by
  unfold maxLen at hs
  have hl : s.data.toList.length = s.size := by simp
  by_cases hc : Dsk.canWrite d s.data.toList = true
  · have hle : (s.size : Int) ≤ Dsk.free d := by unfold Dsk.canWrite at hc; rw [hl] at hc; simpa using hc
    have he := Lib.hid (show Dsk.writeErr d s.data.toList = 0 by unfold Dsk.writeErr; rw [if_pos hc])
    have hwr : Dsk.write d s.data.toList = { d with waits := d.waits ++ s.data.toList } := by unfold Dsk.write; rw [if_pos hc]
    have hok := Dsk.write_ok d s.data.toList r.ok
    rw [hwr] at hok ⊢
    have hlen : (str d.waits).size + s.size ≤ 1048576 := by
      have h1 : (d.waits ++ s.data.toList).length ≤ d.size := hok.2.1
      have h2 := r.most
      rw [List.length_append] at h1
      rw [str_size]
      omega
    clear hc hwr hl
    go_enter Try.func33, Try.ntmps33
    go_wp2_with fail
    refine (rfree_any r).mono ?_
    rintro e w1 ⟨rfl, n, hw1⟩
    have r1 : RefAt w1 h d := r.kept (Kept.drew_of (F := fun _ => False) hw1) (fun h => h)
    have c2 := r1.blk.cell 2
    have f2 := r1.blk.frozen 2
    simp only [List.getElem?_toArray] at c2
    have HT := Lib.hid (RTurn.of_drew hw1 (show RTurn w1 (w1.setCell ⟨h, 2, none⟩ (.string (str d.waits ++ s))) h { d with waits := d.waits ++ s.data.toList } from
      ⟨⟨by rw [str_add]; exact r1.blk.set_ 2 _, hok, r.most⟩, one1 _ _ _ _⟩))
    clear r r1 hw1 hok
    go_wp2
    go_ret
    exact ⟨ret_int he.out.symm, HT.out⟩
  · have hle : ¬ (s.size : Int) ≤ Dsk.free d := by
      unfold Dsk.canWrite at hc; rw [hl] at hc; simpa using hc
    have he := Lib.hid (show Dsk.writeErr d s.data.toList = 9 by unfold Dsk.writeErr; rw [if_neg hc])
    have hwr : Dsk.write d s.data.toList = d := by unfold Dsk.write; rw [if_neg hc]
    rw [hwr]
    clear hc hwr hl
    go_enter Try.func33, Try.ntmps33
    go_wp2_with fail
    refine (rfree_any r).mono ?_
    rintro e w1 ⟨rfl, n, hw1⟩
    have HT := Lib.hid (show RTurn w w1 h d from ⟨r.kept (Kept.drew_of (F := fun _ => False) hw1) (fun h => h), Kept.drew_of hw1⟩)
    clear r hw1
    go_wp2
    go_ret
    exact ⟨ret_int he.out.symm, HT.out⟩

set_option maxHeartbeats 1000000 in
theorem rreplace_any {w : World} {h : Nat} {d : Dsk.D} (r : RefAt w h d) (s : ByteArray) (hs : s.size ≤ maxLen) :
    Calls Try.prog 39 #[.pointer (some ⟨h, 0, none⟩), .string s] w fun e w' => e = .returned (.int .i64 (Dsk.replaceErr d s.data.toList)) ∧ RTurn w w' h (Dsk.replace d s.data.toList) := by
  unfold maxLen at hs
  have hl : s.data.toList.length = s.size := by simp
  have c0 := r.blk.cell 0
  have c2 := r.blk.cell 2
  have c3 := r.blk.cell 3
  have f2 := r.blk.frozen 2
  have f3 := r.blk.frozen 3
  simp only [List.getElem?_toArray] at c0 c2 c3
  by_cases hc : d.size < s.size
  · have he := Lib.hid (show Dsk.replaceErr d s.data.toList = 9 by unfold Dsk.replaceErr; rw [if_pos (by omega)])
    have hwr : Dsk.replace d s.data.toList = d := by unfold Dsk.replace; rw [if_pos (by omega)]
    rw [hwr]
    have HT := Lib.hid (show RTurn w w h d from ⟨r, Kept.refl _ _⟩)
    clear hwr hl r
    go_enter Try.func39, Try.ntmps39
    go_wp2
    go_ret
    exact ⟨ret_int he.out.symm, HT.out⟩
  · have he := Lib.hid (show Dsk.replaceErr d s.data.toList = 0 by unfold Dsk.replaceErr; rw [if_neg (by omega)])
    have hwr : Dsk.replace d s.data.toList = { d with waits := s.data.toList, swaps := true } := by unfold Dsk.replace; rw [if_neg (by omega)]
    have hok := Dsk.replace_ok d s.data.toList r.ok
    rw [hwr] at hok ⊢
    have HT := Lib.hid (show RTurn w ((w.setCell ⟨h, 2, none⟩ (.string s)).setCell ⟨h, 3, none⟩ (.bool true)) h { d with waits := s.data.toList, swaps := true } from
      ⟨⟨(r.blk.set_ 2 _).set_ 3 _, hok, r.most⟩, one2 _ _ _ _ _ _⟩)
    clear hwr hl r hok
    go_enter Try.func39, Try.ntmps39
    go_wp2
    go_ret
    exact ⟨ret_int he.out.symm, HT.out⟩

theorem str_extract (l : List UInt8) (k : Nat) : (str l).extract 0 k = str (l.take k) := by rw [extract_eq, str_toList]; simp

end Go.Proofs.Ytkdbehfmmmlmjaa.DiskW
