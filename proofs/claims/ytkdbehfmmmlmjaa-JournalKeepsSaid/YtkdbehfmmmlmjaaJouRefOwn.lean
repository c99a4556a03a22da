/-
  The reference's journal: the contracts of Open and Append.
-/
import Derived.Test.YtkdbehfmmmlmjaaJouOpen
set_option linter.unusedVariables false
set_option linter.unusedSimpArgs false
namespace Go.Proofs.Ytkdbehfmmmlmjaa.JouW
open Go.RowKit Go.Proofs.Ytkdbehfmmmlmjaa.L Go.Proofs.Ytkdbehfmmmlmjaa.CrcW Go.Proofs.Ytkdbehfmmmlmjaa.DiskW

structure RJ (w : World) (b h m : Nat) (l : List UInt8) (n : Nat) : Prop where
  ref : RefAt w h (Jou.clean m l)
  blk : Blk w b 59 #[.pointer (some ⟨h, 0, none⟩), .int .i64 (n : Int)]
  ne : b ≠ h
theorem RJ.kept {w w' : World} {b h m n : Nat} {l : List UInt8} {G : Nat → Prop} (r : RJ w b h m l n) (k : Kept G w w') (hb : ¬ G b) (hh : ¬ G h) : RJ w' b h m l n := ⟨r.ref.kept k hh, r.blk.kept k hb, r.ne⟩
theorem RJ.below {w w' : World} {b h m n : Nat} {l : List UInt8} (r : RJ w b h m l n) (k : Below w.heap.size w w') : RJ w' b h m l n := r.kept (G := fun _ => False) (Kept.of_below k) id id
def Two2 (b h : Nat) : Nat → Prop := fun k => k = b ∨ k = h
def RAppEnd (b h m : Nat) (l : List UInt8) (n : Nat) (s : List UInt8) (w : World) (e : Ending) (w' : World) : Prop :=
  e = .returned (.int .i64 (Jou.appErr m l s)) ∧ RJ w' b h m (Jou.appTo m l s) (Jou.appN m l s n) ∧ Kept (Two2 b h) w w'

set_option maxHeartbeats 2000000 in
theorem rappend_any {w : World} {b h m n : Nat} {l : List UInt8} (r : RJ w b h m l n) (hn : n ≤ 1048576) (s : ByteArray) (hs : s.size ≤ maxLen) :
    Calls Try.prog 36 #[.pointer (some ⟨b, 0, none⟩), .string s] w fun e w' => RAppEnd b h m l n s.data.toList w e w' := by
  have hsl : s.data.toList.length = s.size := by simp
  by_cases hbig : 16384 < s.size
  · obtain ⟨h1, h2, h3⟩ := Jou.app_big m l s.data.toList n (by omega)
    have hfin : RAppEnd b h m l n s.data.toList w (.returned (.int .i64 8)) w := ⟨by rw [h1], by rw [h2, h3]; exact r, Kept.refl _ _⟩
    have HF := Lib.hid hfin
    unfold maxLen at hs
    clear hfin r h1 h2 h3 hsl
    go_enter Try.func36, Try.ntmps36
    go_wp2
    go_ret
    exact HF.out
  · have hc0 : w.cell? ⟨b, 0, none⟩ = some (.pointer (some ⟨h, 0, none⟩)) := r.blk.cell 0
    have hjl := r.blk.lt
    have HC := Lib.hid hc0
    have HS := Lib.hid hsl
    have hs1 : s.size ≤ 16384 := by omega
    have HH := Lib.hid r
    have hne := Lib.hid r.ne
    clear hc0 hsl r
    have g1 := grframe s hs
    have hfs : (str (Crc.frame s.data.toList)).size ≤ maxLen := by rw [str_size, Crc.frame_length _ (by have := HS.out; omega)]; have := HS.out; unfold maxLen; omega
    have HFS := Lib.hid hfs
    clear hfs
    have Hcan : Hid (Dsk.canWrite (Jou.clean m l) (str (Crc.frame s.data.toList)).data.toList = decide (l.length + (Crc.frame s.data.toList).length ≤ m)) := Lib.hid (by rw [str_toList]; exact Jou.clean_can m l _)
    go_enter Try.func36, Try.ntmps36
    go_wp2_with fail
    refine region_keep_tail 6 (by kernel_rfl) (by kernel_rfl) ?_
    simp only [List.take_succ_cons, List.take_zero, List.drop_succ_cons, List.drop_zero]
    have c0 : ∀ W, Onward w W → W.cell? ⟨b, 0, none⟩ = some (.pointer (some ⟨h, 0, none⟩)) := fun W hW => hW.cell hjl HC.out
    repeat (apply Go.Proofs.Ytkdbehfmmmlmjaa.L.wpKeep_yes; (focus rfl); (focus (intro W hW; go_simp; first | done | exact ⟨rfl, hW⟩ | rfl)); (focus (go_simp; first | done | rfl)))
    (apply Go.Proofs.Ytkdbehfmmmlmjaa.L.wpKeep_yes; (focus rfl); (focus (intro W hW; go_simp; first | exact Go.Proofs.Ytkdbehfmmmlmjaa.L.Gives.up g1 hW | exact ⟨hW, Go.Proofs.Ytkdbehfmmmlmjaa.L.Gives.up g1 hW⟩)); (focus (go_simp; first | done | rfl)))
    repeat (apply Go.Proofs.Ytkdbehfmmmlmjaa.L.wpKeep_yes; (focus rfl); (focus (intro W hW; go_simp; first | done | exact ⟨rfl, hW⟩ | rfl)); (focus (go_simp; first | done | rfl)))
    refine wpKeep_nil ?_
    intro W hW
    have h1 := HH.out.below hW
    have HK := Lib.hid (Kept.of_below (F := Two2 b h) hW)
    have hwr := Lib.hid (rwrite_any h1.ref (str (Crc.frame s.data.toList)) HFS.out)
    have HB1 := Lib.hid h1
    clear c0 hW h1
    by_cases hcan : l.length + (Crc.frame s.data.toList).length ≤ m
    · obtain ⟨q1, q2, q3⟩ := Jou.app_ok m l s.data.toList n (by have := HS.out; omega) hcan
      have he : Dsk.writeErr (Jou.clean m l) (str (Crc.frame s.data.toList)).data.toList = 0 := by unfold Dsk.writeErr; rw [if_pos (by rw [Hcan.out]; simpa using hcan)]
      have hsw := Lib.hid (show Dsk.sync (Dsk.write (Jou.clean m l) (str (Crc.frame s.data.toList)).data.toList) = Jou.clean m (l ++ Crc.frame s.data.toList) by rw [str_toList]; exact Jou.sync_write m l _ hcan)
      have hwr1 := hwr.out
      rw [he] at hwr1
      have HW := Lib.hid hwr1
      have HQ := Lib.hid (And.intro q1 (And.intro q2 q3))
      clear hwr hwr1 he hcan q1 q2 q3
      go_wp2_with fail
      refine (HW.out).mono ?_
      rintro e w2 ⟨rfl, o2, k2⟩
      have hb2 := HB1.out.blk.kept k2 hne.out
      have hK2 := Lib.hid (HK.out.trans (k2.mono (fun i _ hi => (.inr hi : Two2 b h i))))
      have hsy := Lib.hid (rsync_any o2)
      have c0 : w2.cell? ⟨b, 0, none⟩ = some (.pointer (some ⟨h, 0, none⟩)) := hb2.cell 0
      clear o2 k2
      go_wp2_with fail
      refine (hsy.out).mono ?_
      rintro e w3 ⟨rfl, o3, k3⟩
      rw [hsw.out] at o3
      have hb3 := hb2.kept k3 hne.out
      have c1 : w3.cell? ⟨b, 1, none⟩ = some (.int .i64 (n : Int)) := hb3.cell 1
      have f1 : w3.frozen? ⟨b, 1, none⟩ = false := hb3.frozen 1
      have HF : Hid (RAppEnd b h m l n s.data.toList w (.returned (.int .i64 0)) (w3.setCell ⟨b, 1, none⟩ (.int .i64 ((n : Int) + 1)))) := Lib.hid (by
        obtain ⟨q1, q2, q3⟩ := HQ.out
        refine ⟨by rw [q1], ?_, ?_⟩
        · rw [q2, q3]
          refine ⟨o3.kept (one1 w3 b 1 _) (Ne.symm hne.out), ?_, hne.out⟩
          have := hb3.set_ 1 (.int .i64 ((n : Int) + 1))
          exact this
        · exact (hK2.out.trans (k3.mono (fun i _ hi => (.inr hi : Two2 b h i)))).setCell (.inl (.inl rfl)) _)
      clear hsy hb2 c0 o3 k3 hb3 HQ hsw
      go_wp2
      go_ret
      exact HF.out
    · obtain ⟨q1, q2, q3⟩ := Jou.app_full m l s.data.toList n (by have := HS.out; omega) hcan
      have hc : Dsk.canWrite (Jou.clean m l) (str (Crc.frame s.data.toList)).data.toList ≠ true := by rw [Hcan.out]; simpa using hcan
      have he : Dsk.writeErr (Jou.clean m l) (str (Crc.frame s.data.toList)).data.toList = 9 := by unfold Dsk.writeErr; rw [if_neg hc]
      have hd : Dsk.write (Jou.clean m l) (str (Crc.frame s.data.toList)).data.toList = Jou.clean m l := by unfold Dsk.write; rw [if_neg hc]
      have hwr1 := hwr.out
      rw [he, hd] at hwr1
      have HW := Lib.hid hwr1
      have HQ := Lib.hid (And.intro q1 (And.intro q2 q3))
      clear hwr hwr1 he hcan q1 q2 q3 hc hd
      go_wp2_with fail
      refine (HW.out).mono ?_
      rintro e w2 ⟨rfl, o2, k2⟩
      have HF : Hid (RAppEnd b h m l n s.data.toList w (.returned (.int .i64 9)) w2) := Lib.hid (by
        obtain ⟨q1, q2, q3⟩ := HQ.out
        refine ⟨by rw [q1], ?_, HK.out.trans (k2.mono (fun i _ hi => (.inr hi : Two2 b h i)))⟩
        rw [q2, q3]
        exact ⟨o2, HB1.out.blk.kept k2 hne.out, hne.out⟩)
      clear o2 k2 HQ
      go_wp2
      go_ret
      exact HF.out

/-- What the reference's Open leaves. -/
def ROpenEnd (h m : Nat) (l : List UInt8) (w : World) (e : Ending) (w' : World) : Prop :=
  ∃ v b, e = .returned (.tuple #[.pointer (some ⟨b, 0, none⟩), v]) ∧ Recs w' w.heap.size v (Jou.scan l).1 ∧ v.ownBlock ≠ some b ∧ w.heap.size ≤ b ∧
    RJ w' b h m (Jou.opened l) (Jou.scan l).1.length ∧ Kept (fun k => k = h) w w'

theorem ropen_end {h m : Nat} {l : List UInt8} {w w2 : World} {v : Value} (hr : Recs w2 w.heap.size v (Jou.scan l).1) (hh : h < w.heap.size)
    (ho : RefAt w2 h (Jou.clean m (Jou.opened l))) (hk : Kept (fun k => k = h) w w2) :
    ROpenEnd h m l w (.returned (.tuple #[.pointer (some ⟨w2.heap.size, 0, none⟩), v])) (w2.alloc (.cells #[.pointer (some ⟨h, 0, none⟩), .int .i64 ((Jou.scan l).1.length : Int)] 59)) := by
  have hb : Below w2.heap.size w2 (w2.alloc (.cells #[.pointer (some ⟨h, 0, none⟩), .int .i64 ((Jou.scan l).1.length : Int)] 59)) := (Below.refl _ _).alloc (Nat.le_refl _) _
  have hne : ¬ v.ownBlock = some w2.heap.size := fun e => by have := (hr.lt _ e).2; omega
  exact ⟨v, w2.heap.size, rfl, hr.below hb, hne, hk.size, ⟨ho.kept (Kept.of_below (F := fun _ => False) hb) id, Blk.new _ _ _, by have := hk.size; omega⟩, hk.alloc _⟩

set_option maxHeartbeats 2000000 in
theorem ropen_any {w : World} {h m : Nat} {l : List UInt8} (r : RefAt w h (Jou.clean m l)) :
    Calls Try.prog 35 #[.pointer (some ⟨h, 0, none⟩)] w fun e w' => ROpenEnd h m l w e w' := by
  have hm : l.length ≤ 1048576 := Nat.le_trans r.ok.1 r.most
  have c1 : w.cell? ⟨h, 1, none⟩ = some (.string (str l)) := r.blk.cell 1
  have hh := r.blk.lt
  have Hsc := Lib.hid (fun w => refscan_any l w (by omega))
  have hcnt := Jou.scan_count l
  have hsle := Jou.scan_le l
  have hop := Lib.hid (Jou.opened_whole l)
  have HO := Lib.hid r
  have hsz := str_size l
  obtain ⟨rs, hrs⟩ : ∃ rs, (Jou.scan l).1 = rs := ⟨_, rfl⟩
  obtain ⟨n, hn⟩ : ∃ n, (Jou.scan l).2 = n := ⟨_, rfl⟩
  have hdef : Hid (Jou.opened l = l.take n) := Lib.hid (by rw [← hn]; rfl)
  have HRS := Lib.hid hrs
  have HSZ := Lib.hid hsz
  rw [hrs, hn] at hcnt
  rw [hn] at hsle hop
  have HN := Lib.hid hn
  clear r hrs hn hsz
  go_enter Try.func35, Try.ntmps35
  go_wp2_with fail
  refine (Hsc.out _).mono ?_
  rintro e w1 ⟨v, rfl, hr, hb⟩
  rw [HRS.out] at hr
  rw [HN.out]
  obtain ⟨A, cv, rfl, _⟩ := hr.form
  have hl1 : (rs.map vs).length = rs.length := by simp
  have HLen := Lib.hid hl1
  rw [hl1] at hr ⊢
  have h1 : RefAt w1 h (Jou.clean m l) := HO.out.kept (Kept.of_below (F := fun _ => False) hb) id
  have HK := Lib.hid (Kept.of_below (F := fun k => k = h) hb)
  have HR := Lib.hid hr
  have hsz1 := hb.size
  clear hb hl1 hr c1
  have c1 : w1.cell? ⟨h, 1, none⟩ = some (.string (str l)) := h1.blk.cell 1
  by_cases hlt : n < l.length
  · have hlt2 : n < (str l).size := by rw [HSZ.out]; exact hlt
    have hex : ((str l).extract 0 n).data.toList = l.take n := by rw [extract_eq, str_toList, str_toList]; simp
    have hrp := rreplace_any h1 ((str l).extract 0 n) (by have h := congrArg List.length hex; simp only [List.length_take] at h; have h2 : ((str l).extract 0 n).data.toList.length = ((str l).extract 0 n).size := by simp
                                                          unfold maxLen; omega)
    rw [hex] at hrp
    have hml := h1.ok.1
    have hsr := Lib.hid (show Dsk.sync (Dsk.replace (Jou.clean m l) (l.take n)) = Jou.clean m (Jou.opened l) by rw [hdef.out]; exact Jou.sync_replace m l _ (by simp only [List.length_take]; have : l.length ≤ m := hml; omega))
    have Hrp := Lib.hid hrp
    clear hex hrp hml h1 hlt
    go_wp2_with fail
    refine (Hrp.out).mono ?_
    rintro e w2 ⟨rfl, o2, k2⟩
    have hsy := Lib.hid (rsync_any o2)
    have HK2 := Lib.hid (HK.out.trans k2)
    have HR2 := Lib.hid (show Recs w2 w.heap.size (.slice A rs.length cv) rs from HR.out.kept (fun k hk => k2.block k (HR.out.lt k hk).2 (fun e => by have := (HR.out.lt k hk).1; omega)))
    clear o2 k2 c1
    go_wp2_with fail
    refine (hsy.out).mono ?_
    rintro e w3 ⟨rfl, o3, k3⟩
    rw [hsr.out] at o3
    have hfin := ropen_end (l := l) (by rw [HRS.out]; exact HR2.out.kept (fun k hk => k3.block k (HR2.out.lt k hk).2 (fun e => by have := (HR2.out.lt k hk).1; omega))) hh o3 (HK2.out.trans k3)
    rw [HRS.out] at hfin
    have HF := Lib.hid hfin
    clear hsy o3 k3 hfin
    go_wp2
    go_ret2
    exact HF.out
  · have hlt2 : ¬ n < (str l).size := by rw [HSZ.out]; exact hlt
    have hww := hop.out hlt
    have hfin := ropen_end (l := l) (by rw [HRS.out]; exact HR.out) hh (by rw [hww]; exact h1) HK.out
    rw [HRS.out] at hfin
    have HF := Lib.hid hfin
    clear hfin h1 hww hlt
    go_wp2
    go_ret2
    exact HF.out
end Go.Proofs.Ytkdbehfmmmlmjaa.JouW
