/-
  The reference's disk when the power is cut: its contract.
-/
import Derived.Test.YtkdbehfmmmlmjaaDiskRef
set_option linter.unusedVariables false
set_option linter.unusedSimpArgs false
namespace Go.Proofs.Ytkdbehfmmmlmjaa.DiskW
open Go.RowKit Go.Proofs.Ytkdbehfmmmlmjaa.L

theorem RTurn.drew {w w' : World} {h : Nat} {d : Dsk.D} (t : RTurn w w' h d) : RTurn w w'.drew h d := ⟨⟨t.1.blk, t.1.ok, t.1.most⟩, t.2.drew⟩

set_option maxHeartbeats 1000000 in
theorem rcrash_any {w : World} {h : Nat} {d : Dsk.D} (r : RefAt w h d) (n : Int) :
    Calls Try.prog 40 #[.pointer (some ⟨h, 0, none⟩), .int .i64 n] w fun e w' => e = .returned (.tuple #[]) ∧ RTurn w w' h (Dsk.crash d n) := by
  have c1 := r.blk.cell 1
  have c2 := r.blk.cell 2
  have c3 := r.blk.cell 3
  have f1 := r.blk.frozen 1
  have f2 := r.blk.frozen 2
  have f3 := r.blk.frozen 3
  simp only [List.getElem?_toArray] at c1 c2 c3
  have hk0 := Dsk.keepN_le d n
  have hm : ∃ m : Int, min n (d.waits.length : Int) = m ∧ max 0 m = (Dsk.keepN d n : Int) := ⟨_, rfl, by unfold Dsk.keepN; omega⟩
  obtain ⟨m, hm, hkd⟩ := hm
  have hcr : Dsk.crash d n = ⟨d.size, if d.swaps then (if Dsk.keepN d n = d.waits.length then d.waits else d.safe) else d.safe ++ d.waits.take (Dsk.keepN d n), [], false⟩ := rfl
  have hok := Dsk.crash_ok d n r.ok
  have hol := r.ok
  rw [hcr] at hok ⊢
  obtain ⟨k, hk⟩ : ∃ k, Dsk.keepN d n = k := ⟨_, rfl⟩
  rw [hk] at hk0 hkd hcr hok ⊢
  clear hcr hk
  have hsz : (str d.waits).size = d.waits.length := str_size _
  have Hm := Lib.hid hm
  have Hk := Lib.hid hkd
  clear hm hkd
  obtain ⟨size, safe, waits, swaps⟩ := d
  simp only at *
  have hms := r.most
  have hol1 := hol.1
  have hol2 := hol.2.1
  simp only at hms hol1 hol2
  rw [← hsz] at Hm
  have hk1 : k ≤ (str waits).size := by omega
  have hsl : (str safe).size + (str waits).size ≤ 2097152 := by rw [str_size, str_size]; omega
  have HS := Lib.hid hsz
  clear hsz
  cases swaps
  · simp only [Bool.false_eq_true, if_false] at *
    have HT := Lib.hid (show RTurn w (((w.setCell ⟨h, 1, none⟩ (.string (str safe ++ (str waits).extract 0 k))).setCell ⟨h, 2, none⟩ (.string (str []))).setCell ⟨h, 3, none⟩ (.bool false)) h ⟨size, safe ++ waits.take k, [], false⟩ from
      ⟨⟨by rw [str_extract, str_append]; exact ((r.blk.set_ 1 _).set_ 2 _).set_ 3 _, hok, hms⟩, one3 _ _ _ _ _ _ _ _⟩)
    clear r hok hol hol1 hol2 hk0
    go_enter Try.func40, Try.ntmps40
    go_wp2_with (first | (refine wpList_min_eq rfl (.tmp 4) (.tmp 9) _ _ rfl n (str waits).size m rfl rfl Hm.out ?_) | (refine wpList_max_eq rfl (.const (.int .i64 0)) (.tmp 10) _ _ rfl 0 m k rfl rfl Hk.out ?_))
    have hcat : ∀ w : World, (Op.stringOp .add (str safe) ((str waits).extract 0 k)).run Try.prog w = .ok (.string (str safe ++ (str waits).extract 0 k)) w := fun w => run_string_add_sum w _ _ (by
      have : ((str waits).extract 0 k).size ≤ (str waits).size := by simp [ByteArray.size_extract]; omega
      omega)
    (refine L.region_tail 13 (by kernel_rfl) (by kernel_rfl) ?_; simp only [List.take_succ_cons, List.take_zero, List.drop_succ_cons, List.drop_zero])
    repeat still_step
    refine wpStill_nil ?_
    go_wp2
    go_end0
    exact ⟨rfl, RTurn.drew HT.out⟩
  · simp only [if_true] at *
    by_cases he : k = waits.length
    · have HT := Lib.hid (show RTurn w (((w.setCell ⟨h, 1, none⟩ (.string (str waits))).setCell ⟨h, 2, none⟩ (.string (str []))).setCell ⟨h, 3, none⟩ (.bool false)) h ⟨size, waits, [], false⟩ from
        ⟨⟨((r.blk.set_ 1 _).set_ 2 _).set_ 3 _, ⟨hol2, Nat.zero_le _, fun _ => hol2⟩, hms⟩, one3 _ _ _ _ _ _ _ _⟩)
      rw [if_pos he]
      have tb : ((k : Int) == ((str waits).size : Int)) = true := by rw [HS.out]; simp; omega
      clear r hok hol hol1 hol2 hk0 he
      go_enter Try.func40, Try.ntmps40
      go_wp2_with (first | (refine wpList_min_eq rfl (.tmp 4) (.tmp 9) _ _ rfl n (str waits).size m rfl rfl Hm.out ?_) | (refine wpList_max_eq rfl (.const (.int .i64 0)) (.tmp 10) _ _ rfl 0 m k rfl rfl Hk.out ?_))
      go_end0
      exact ⟨rfl, HT.out⟩
    · have HT := Lib.hid (show RTurn w ((w.setCell ⟨h, 2, none⟩ (.string (str []))).setCell ⟨h, 3, none⟩ (.bool false)) h ⟨size, safe, [], false⟩ from
        ⟨⟨(r.blk.set_ 2 _).set_ 3 _, ⟨hol1, Nat.zero_le _, fun _ => hol1⟩, hms⟩, one2 _ _ _ _ _ _⟩)
      rw [if_neg he]
      have tb : ((k : Int) == ((str waits).size : Int)) = false := by rw [HS.out]; simp; omega
      clear r hok hol hol1 hol2 hk0 he
      go_enter Try.func40, Try.ntmps40
      go_wp2_with (first | (refine wpList_min_eq rfl (.tmp 4) (.tmp 9) _ _ rfl n (str waits).size m rfl rfl Hm.out ?_) | (refine wpList_max_eq rfl (.const (.int .i64 0)) (.tmp 10) _ _ rfl 0 m k rfl rfl Hk.out ?_))
      go_end0
      exact ⟨rfl, HT.out⟩

set_option maxHeartbeats 400000 in
theorem rsync_any {w : World} {h : Nat} {d : Dsk.D} (r : RefAt w h d) :
    Calls Try.prog 34 #[.pointer (some ⟨h, 0, none⟩)] w fun e w' => e = .returned (.tuple #[]) ∧ RTurn w w' h (Dsk.sync d) := by
  have hc := Lib.hid (rcrash_any r (d.waits.length : Int))
  have c2 := r.blk.cell 2
  simp only [List.getElem?_toArray] at c2
  have hz := str_size d.waits
  have HT := Lib.hid (show Dsk.sync d = Dsk.crash d (d.waits.length : Int) from rfl)
  have hl := r.ok.2.1
  have hm := r.most
  have hb : (str d.waits).size ≤ 1048576 := by omega
  rw [← hz] at hc HT
  clear r hz hl hm
  go_enter Try.func34, Try.ntmps34
  go_wp2_with fail
  refine (hc.out).mono ?_
  rintro e w1 ⟨rfl, ht⟩
  rw [← HT.out] at ht
  have Ht := Lib.hid ht
  clear ht
  go_wp2
  go_end0
  exact ⟨rfl, Ht.out⟩
end Go.Proofs.Ytkdbehfmmmlmjaa.DiskW
