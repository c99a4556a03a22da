/-
  The program's journal on its disk: the contract of Open.
-/
import Derived.Test.YtkdbehfmmmlmjaaJouOwn
set_option linter.unusedVariables false
set_option linter.unusedSimpArgs false
namespace Go.Proofs.Ytkdbehfmmmlmjaa.JouW
open Go.RowKit Go.Proofs.Ytkdbehfmmmlmjaa.L Go.Proofs.Ytkdbehfmmmlmjaa.CrcW Go.Proofs.Ytkdbehfmmmlmjaa.DiskW

/-- What Open leaves: a journal in a new block, the disk, the records in a row of their own. -/
def OpenEnd (B : Nat) (L : Nat → Prop) (g m : Nat) (l : List UInt8) (w : World) (e : Ending) (w' : World) : Prop :=
  ∃ v j, e = .returned (.tuple #[.pointer (some ⟨j, 0, none⟩), v]) ∧ Recs w' w.heap.size v (Jou.scan l).1 ∧ v.ownBlock ≠ some j ∧ w.heap.size ≤ j ∧
    JOwn B (fun k => L k ∨ v.ownBlock = some k) w' j g m (Jou.opened l) (Jou.scan l).1.length ∧ Kept (Room B L) w w'

/-- The end of Open, from the world w2 in which the disk is as it shall be. -/
theorem open_end {B : Nat} {L : Nat → Prop} {g m : Nat} {l : List UInt8} {w w2 : World} {v : Value} (hB : B ≤ w.heap.size) (hL : Live L w) (hr : Recs w2 w.heap.size v (Jou.scan l).1)
    (ho : Own B (fun k => L k ∨ v.ownBlock = some k) w2 g (Jou.clean m (Jou.opened l))) (hk : Kept (Room B L) w w2) :
    OpenEnd B L g m l w (.returned (.tuple #[.pointer (some ⟨w2.heap.size, 0, none⟩), v])) (w2.alloc (.cells #[.pointer (some ⟨g, 0, none⟩), .int .i64 ((Jou.scan l).1.length : Int)] 72)) := by
  have hb : Below w2.heap.size w2 (w2.alloc (.cells #[.pointer (some ⟨g, 0, none⟩), .int .i64 ((Jou.scan l).1.length : Int)] 72)) := (Below.refl _ _).alloc (Nat.le_refl _) _
  have hne : ¬ v.ownBlock = some w2.heap.size := fun e => by have := (hr.lt _ e).2; omega
  refine ⟨v, w2.heap.size, rfl, hr.below hb, hne, hk.size, ⟨own_more ho (G := fun _ => False) (Kept.of_below hb) (fun _ h => h.elim) (fun i hi => ?_), Blk.new _ _ _, Nat.le_trans hB hk.size, ?_⟩, hk.alloc _⟩
  · rcases hi with hi | hi
    · exact .inl hi
    · right; omega
  · rintro (h | h)
    · have := hL _ h; have := hk.size; omega
    · exact hne h

set_option maxHeartbeats 2000000 in
theorem open_own {B : Nat} {L : Nat → Prop} {w : World} {g m : Nat} {l : List UInt8} (o : Own B L w g (Jou.clean m l)) (hB : B ≤ w.heap.size) (hL : Live L w) :
    Calls Try.prog 28 #[.pointer (some ⟨g, 0, none⟩)] w fun e w' => OpenEnd B L g m l w e w' := by
  have hm : l.length ≤ 1048576 := Nat.le_trans o.ok.1.1 o.ok.2
  have hco := Lib.hid (content_own o)
  have hsc := fun w => scan_any l w (by omega)
  have Hsc := Lib.hid hsc
  have hcnt := Jou.scan_count l
  have hsle := Jou.scan_le l
  have hop := Lib.hid (Jou.opened_whole l)
  have HO := Lib.hid o
  have HL := Lib.hid hL
  have hsz := str_size l
  obtain ⟨rs, hrs⟩ : ∃ rs, (Jou.scan l).1 = rs := ⟨_, rfl⟩
  obtain ⟨n, hn⟩ : ∃ n, (Jou.scan l).2 = n := ⟨_, rfl⟩
  have hdef : Hid (Jou.opened l = l.take n) := Lib.hid (by rw [← hn]; rfl)
  have HRS := Lib.hid hrs
  have HSZ := Lib.hid hsz
  rw [hrs, hn] at hcnt
  rw [hn] at hsle hop
  have HN := Lib.hid hn
  clear hsc hL o hrs hn hsz
  go_enter Try.func28, Try.ntmps28
  go_wp2_with fail
  refine (hco.out).mono ?_
  rintro e wq ⟨rfl, rfl⟩
  go_wp2_with fail
  refine (Hsc.out _).mono ?_
  rintro e w1 ⟨v, rfl, hr, hb⟩
  rw [HRS.out] at hr
  rw [HN.out]
  obtain ⟨A, cv, rfl, _⟩ := hr.form
  have hl1 : (rs.map vs).length = rs.length := by simp
  have HLen := Lib.hid hl1
  rw [hl1] at hr ⊢
  have h1 : Own B (fun k => L k ∨ (Value.slice A rs.length cv).ownBlock = some k) w1 g (Jou.clean m l) := own_more HO.out (G := fun _ => False) (Kept.of_below hb) (fun _ h => h.elim) (fun i hi => hi.imp id (fun e => (hr.lt i e).1))
  have hB1 : B ≤ w1.heap.size := Nat.le_trans hB hb.size
  have hL1 : Live (fun k => L k ∨ (Value.slice A rs.length cv).ownBlock = some k) w1 := fun k hk => by
    rcases hk with h | h
    · exact Nat.lt_of_lt_of_le (HL.out k h) hb.size
    · exact (hr.lt k h).2
  have HK := Lib.hid (Kept.of_below (F := Room B L) hb)
  have HR := Lib.hid hr
  clear hb hl1 hr
  by_cases hlt : n < l.length
  · have hlt2 : n < (str l).size := by rw [HSZ.out]; exact hlt
    have hex : ((str l).extract 0 n).data.toList = l.take n := by rw [extract_eq, str_toList, str_toList]; simp
    have hrp := replace_own h1 hB1 hL1 ((str l).extract 0 n) (by have h := congrArg List.length hex; simp only [List.length_take] at h; have h2 : ((str l).extract 0 n).data.toList.length = ((str l).extract 0 n).size := by simp
                                                                 unfold maxLen; omega)
    rw [hex] at hrp
    have hml := h1.ok.1.1
    have hsr := Lib.hid (show Dsk.sync (Dsk.replace (Jou.clean m l) (l.take n)) = Jou.clean m (Jou.opened l) by rw [hdef.out]; exact Jou.sync_replace m l _ (by simp only [List.length_take]; have : l.length ≤ m := hml; omega))
    have Hrp := Lib.hid hrp
    clear hex hrp hml h1 hlt
    go_wp2_with fail
    refine (Hrp.out).mono ?_
    rintro e w2 ⟨rfl, o2, k2⟩
    have hB2 : B ≤ w2.heap.size := Nat.le_trans hB1 k2.size
    have hL2 := hL1.kept k2.size
    have hsy := Lib.hid (sync_own o2 hB2 hL2)
    have HK2 := Lib.hid (HK.out.trans (k2.mono (fun i _ hi => (⟨hi.1, fun hl => hi.2 (.inl hl)⟩ : Room B L i))))
    have HR2 := Lib.hid (show Recs w2 w.heap.size (.slice A rs.length cv) rs from HR.out.kept (fun k hk => k2.block k (HR.out.lt k hk).2 (fun h => h.2 (.inr hk))))
    clear o2 k2
    go_wp2_with fail
    refine (hsy.out).mono ?_
    rintro e w3 ⟨rfl, o3, k3⟩
    rw [hsr.out] at o3
    have hfin := open_end (l := l) hB HL.out (by rw [HRS.out]; exact HR2.out.kept (fun k hk => k3.block k (HR2.out.lt k hk).2 (fun h => h.2 (.inr hk)))) o3 (HK2.out.trans (k3.mono (fun i _ hi => (⟨hi.1, fun hl => hi.2 (.inl hl)⟩ : Room B L i))))
    rw [HRS.out] at hfin
    have HF := Lib.hid hfin
    clear hsy o3 k3 hfin
    go_wp2
    go_ret2
    exact HF.out
  · have hlt2 : ¬ n < (str l).size := by rw [HSZ.out]; exact hlt
    have hww := hop.out hlt
    rw [← hww] at h1
    have hfin := open_end (l := l) hB HL.out (by rw [HRS.out]; exact HR.out) (by rw [hww] at h1 ⊢; exact h1) HK.out
    rw [HRS.out] at hfin
    have HF := Lib.hid hfin
    clear hfin h1 hww hlt
    go_wp2
    go_ret2
    exact HF.out
end Go.Proofs.Ytkdbehfmmmlmjaa.JouW
