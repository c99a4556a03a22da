/-
  The program's journal on its disk: the contracts of Open and Append.
-/
import Derived.Test.YtkdbehfmmmlmjaaJouRec
import Derived.Test.YtkdbehfmmmlmjaaJouPlainB
import Derived.Test.YtkdbehfmmmlmjaaDiskOwn
import Derived.Test.YtkdbehfmmmlmjaaKeepTail
set_option linter.unusedVariables false
set_option linter.unusedSimpArgs false
namespace Go.Proofs.Ytkdbehfmmmlmjaa.JouW
open Go.RowKit Go.Proofs.Ytkdbehfmmmlmjaa.L Go.Proofs.Ytkdbehfmmmlmjaa.CrcW Go.Proofs.Ytkdbehfmmmlmjaa.DiskW

theorem own_more {B : Nat} {L L' G : Nat → Prop} {w w' : World} {g : Nat} {d : Dsk.D} (o : Own B L w g d) (k : Kept G w w') (hG : ∀ i, G i → L i ∨ i < B) (hL : ∀ i, L' i → L i ∨ w.heap.size ≤ i) : Own B L' w' g d := by
  obtain ⟨F, v1, v2, h, hF⟩ := o
  refine ⟨F, v1, v2, h.kept k (fun i hi hg => ?_), fun i hi => ⟨(hF i hi).1, fun hl => ?_⟩⟩
  · have h1 := hF i hi
    rcases hG i hg with h2 | h2
    · exact h1.2 h2
    · omega
  · have h1 := hF i hi
    have h2 := h.ltF i hi
    rcases hL i hl with h3 | h3
    · exact h1.2 h3
    · omega
theorem own_less {B : Nat} {L L' : Nat → Prop} {w : World} {g : Nat} {d : Dsk.D} (o : Own B L w g d) (hL : ∀ i, L' i → L i) : Own B L' w g d := own_more o (Kept.refl (fun _ => False) w) (fun _ h => h.elim) (fun i h => .inl (hL i h))

/-- A journal at j on the disk of block g, which is of size m and holds l, n records; all its blocks from B on, none of L. -/
structure JOwn (B : Nat) (L : Nat → Prop) (w : World) (j g m : Nat) (l : List UInt8) (n : Nat) : Prop where
  own : Own B (fun k => L k ∨ k = j) w g (Jou.clean m l)
  blk : JBlk w j g n
  low : B ≤ j
  apart : ¬ L j

theorem JBlk.lt {w : World} {j g n : Nat} (h : JBlk w j g n) : j < w.heap.size := Blk.lt h
theorem live_or {L : Nat → Prop} {w : World} {j : Nat} (hL : Live L w) (hj : j < w.heap.size) : Live (fun k => L k ∨ k = j) w := fun k hk => by
  rcases hk with h | rfl
  · exact hL k h
  · exact hj
theorem room_or {B : Nat} {L : Nat → Prop} {j : Nat} {i : Nat} (h : Room B (fun k => L k ∨ k = j) i) : Room B L i := ⟨h.1, fun hl => h.2 (.inl hl)⟩
theorem room_not {B : Nat} {L : Nat → Prop} {j : Nat} : ¬ Room B (fun k => L k ∨ k = j) j := fun h => h.2 (.inr rfl)

theorem JOwn.kept {B : Nat} {L G : Nat → Prop} {w w' : World} {j g m : Nat} {l : List UInt8} {n : Nat} (h : JOwn B L w j g m l n) (k : Kept G w w') (hG : ∀ i, G i → L i ∨ i < B) : JOwn B L w' j g m l n :=
  ⟨h.own.kept k (fun i hi => (hG i hi).imp .inl id), Blk.kept h.blk k (fun hg => by
    rcases hG j hg with h1 | h1
    · exact h.apart h1
    · have := h.low; omega), h.low, h.apart⟩
theorem JOwn.below {B : Nat} {L : Nat → Prop} {w w' : World} {j g m : Nat} {l : List UInt8} {n : Nat} (h : JOwn B L w j g m l n) (k : Below w.heap.size w w') : JOwn B L w' j g m l n := h.kept (G := fun _ => False) (Kept.of_below k) (fun _ h => h.elim)
/-- What else lives may be other blocks, if they are new. -/
theorem JOwn.more {B : Nat} {L L' G : Nat → Prop} {w w' : World} {j g m : Nat} {l : List UInt8} {n : Nat} (h : JOwn B L w j g m l n) (k : Kept G w w') (hG : ∀ i, G i → L i ∨ i < B) (hL : ∀ i, L' i → L i ∨ w.heap.size ≤ i) : JOwn B L' w' j g m l n := by
  have h1 := h.kept k hG
  refine ⟨own_more h.own k (fun i hi => (hG i hi).imp .inl id) (fun i hi => ?_), h1.blk, h.low, fun hl => ?_⟩
  · rcases hi with hi | hi
    · exact (hL i hi).imp .inl id
    · exact .inl (.inr hi)
  · rcases hL j hl with h2 | h2
    · exact h.apart h2
    · have := JBlk.lt h.blk; omega

theorem gframe (s : ByteArray) (hs : s.size ≤ maxLen) : Gives Try.prog 44 #[.string s] (.string (str (Crc.frame s.data.toList))) := fun w => frame_any s w hs
theorem grframe (s : ByteArray) (hs : s.size ≤ maxLen) : Gives Try.prog 31 #[.string s] (.string (str (Crc.frame s.data.toList))) := fun w => refframe_any s w hs

/-- What Append leaves. -/
def AppEnd (B : Nat) (L : Nat → Prop) (j g m : Nat) (l : List UInt8) (n : Nat) (s : List UInt8) (w : World) (e : Ending) (w' : World) : Prop :=
  e = .returned (.int .i64 (Jou.appErr m l s)) ∧ JOwn B L w' j g m (Jou.appTo m l s) (Jou.appN m l s n) ∧ Kept (Room B L) w w'

set_option maxHeartbeats 2000000 in
theorem append_own {B : Nat} {L : Nat → Prop} {w : World} {j g m : Nat} {l : List UInt8} {n : Nat} (h : JOwn B L w j g m l n) (hB : B ≤ w.heap.size) (hL : Live L w) (hn : n ≤ 1048576) (s : ByteArray) (hs : s.size ≤ maxLen) :
    Calls Try.prog 29 #[.pointer (some ⟨j, 0, none⟩), .string s] w fun e w' => AppEnd B L j g m l n s.data.toList w e w' := by
  have hsl : s.data.toList.length = s.size := by simp
  by_cases hbig : 16384 < s.size
  · obtain ⟨h1, h2, h3⟩ := Jou.app_big m l s.data.toList n (by omega)
    have hfin : AppEnd B L j g m l n s.data.toList w (.returned (.int .i64 8)) w := ⟨by rw [h1], by rw [h2, h3]; exact h, Kept.refl _ _⟩
    have HF := Lib.hid hfin
    unfold maxLen at hs
    clear hfin h h1 h2 h3 hsl hL
    go_enter Try.func29, Try.ntmps29
    go_wp2
    go_ret
    exact HF.out
  · have hc0 : w.cell? ⟨j, 0, none⟩ = some (.pointer (some ⟨g, 0, none⟩)) := Blk.cell h.blk 0
    have hjl := JBlk.lt h.blk
    have HC := Lib.hid hc0
    have HS := Lib.hid hsl
    have hs1 : s.size ≤ 16384 := by omega
    have HL := Lib.hid hL
    have HH := Lib.hid h
    clear hc0 hsl hL h
    have g1 := gframe s hs
    have hfs : (str (Crc.frame s.data.toList)).size ≤ maxLen := by rw [str_size, Crc.frame_length _ (by have := HS.out; omega)]; have := HS.out; unfold maxLen; omega
    have HFS := Lib.hid hfs
    clear hfs
    have Hcan : Hid (Dsk.canWrite (Jou.clean m l) (str (Crc.frame s.data.toList)).data.toList = decide (l.length + (Crc.frame s.data.toList).length ≤ m)) := Lib.hid (by rw [str_toList]; exact Jou.clean_can m l _)
    go_enter Try.func29, Try.ntmps29
    go_wp2_with fail
    refine region_keep_tail 6 (by kernel_rfl) (by kernel_rfl) ?_
    simp only [List.take_succ_cons, List.take_zero, List.drop_succ_cons, List.drop_zero]
    have c0 : ∀ W, Onward w W → W.cell? ⟨j, 0, none⟩ = some (.pointer (some ⟨g, 0, none⟩)) := fun W hW => hW.cell hjl HC.out
    repeat (apply Go.Proofs.Ytkdbehfmmmlmjaa.L.wpKeep_yes; (focus rfl); (focus (intro W hW; go_simp; first | done | exact ⟨rfl, hW⟩ | rfl)); (focus (go_simp; first | done | rfl)))
    (apply Go.Proofs.Ytkdbehfmmmlmjaa.L.wpKeep_yes; (focus rfl); (focus (intro W hW; go_simp; first | exact Go.Proofs.Ytkdbehfmmmlmjaa.L.Gives.up g1 hW | exact ⟨hW, Go.Proofs.Ytkdbehfmmmlmjaa.L.Gives.up g1 hW⟩)); (focus (go_simp; first | done | rfl)))
    repeat (apply Go.Proofs.Ytkdbehfmmmlmjaa.L.wpKeep_yes; (focus rfl); (focus (intro W hW; go_simp; first | done | exact ⟨rfl, hW⟩ | rfl)); (focus (go_simp; first | done | rfl)))
    refine wpKeep_nil ?_
    intro W hW
    have h1 := HH.out.below hW
    have hB1 : B ≤ W.heap.size := Nat.le_trans hB hW.size
    have hL1 : Live (fun k => L k ∨ k = j) W := live_or (HL.out.kept hW.size) (Nat.lt_of_lt_of_le hjl hW.size)
    have HK := Lib.hid (Kept.of_below (F := Room B L) hW)
    have hwr := Lib.hid (write_own h1.own hB1 hL1 (str (Crc.frame s.data.toList)) HFS.out)
    have HB1 := Lib.hid h1
    clear c0 hW h1
    by_cases hcan : l.length + (Crc.frame s.data.toList).length ≤ m
    · obtain ⟨q1, q2, q3⟩ := Jou.app_ok m l s.data.toList n (by have := HS.out; omega) hcan
      have he : Dsk.writeErr (Jou.clean m l) (str (Crc.frame s.data.toList)).data.toList = 0 := by unfold Dsk.writeErr; rw [if_pos (by rw [Hcan.out]; simpa using hcan)]
      have hsw := Lib.hid (show Dsk.sync (Dsk.write (Jou.clean m l) (str (Crc.frame s.data.toList)).data.toList) = Jou.clean m (l ++ Crc.frame s.data.toList) by rw [str_toList]; exact Jou.sync_write m l _ hcan)
      have hwr1 := hwr.out
      rw [he] at hwr1
      have HW := Lib.hid hwr1
      have HQ := Lib.hid (And.intro q1 (And.intro q2 q3))
      clear hwr hwr1 he hcan q1 q2 q3
      go_wp2_with fail
      refine (HW.out).mono ?_
      rintro e w2 ⟨rfl, o2, k2⟩
      have hb2 : JBlk w2 j g n := Blk.kept HB1.out.blk k2 room_not
      have hB2 : B ≤ w2.heap.size := Nat.le_trans hB1 k2.size
      have hL2 := hL1.kept k2.size
      have hK2 := Lib.hid (HK.out.trans (k2.mono (fun i _ hi => room_or hi)))
      have hsy := Lib.hid (sync_own o2 hB2 hL2)
      have c0 : w2.cell? ⟨j, 0, none⟩ = some (.pointer (some ⟨g, 0, none⟩)) := Blk.cell hb2 0
      clear o2 k2
      go_wp2_with fail
      refine (hsy.out).mono ?_
      rintro e w3 ⟨rfl, o3, k3⟩
      rw [hsw.out] at o3
      have hb3 : JBlk w3 j g n := Blk.kept hb2 k3 room_not
      have c1 : w3.cell? ⟨j, 1, none⟩ = some (.int .i64 (n : Int)) := Blk.cell hb3 1
      have f1 : w3.frozen? ⟨j, 1, none⟩ = false := Blk.frozen hb3 1
      have HF : Hid (AppEnd B L j g m l n s.data.toList w (.returned (.int .i64 0)) (w3.setCell ⟨j, 1, none⟩ (.int .i64 ((n : Int) + 1)))) := Lib.hid (by
        obtain ⟨q1, q2, q3⟩ := HQ.out
        refine ⟨by rw [q1], ?_, ?_⟩
        · rw [q2, q3]
          refine ⟨Own.kept o3 (G := fun k => k = j) (one1 w3 j 1 _) (fun i hi => .inl (.inr hi)), ?_, HH.out.low, HH.out.apart⟩
          have := Blk.set_ hb3 1 (.int .i64 ((n : Int) + 1))
          exact this
        · exact (hK2.out.trans (k3.mono (fun i _ hi => room_or hi))).setCell (.inl ⟨HH.out.low, HH.out.apart⟩) _)
      clear hsy hb2 c0 o3 k3 hb3 HQ hsw
      go_wp2
      go_ret
      exact HF.out
    · obtain ⟨q1, q2, q3⟩ := Jou.app_full m l s.data.toList n (by have := HS.out; omega) hcan
      have hc : Dsk.canWrite (Jou.clean m l) (str (Crc.frame s.data.toList)).data.toList ≠ true := by rw [Hcan.out]; simpa using hcan
      have he : Dsk.writeErr (Jou.clean m l) (str (Crc.frame s.data.toList)).data.toList = 9 := by unfold Dsk.writeErr; rw [if_neg hc]
      have hd : Dsk.write (Jou.clean m l) (str (Crc.frame s.data.toList)).data.toList = Jou.clean m l := by unfold Dsk.write; rw [if_neg hc]
      have hwr1 := hwr.out
      rw [he, hd] at hwr1
      have HW := Lib.hid hwr1
      have HQ := Lib.hid (And.intro q1 (And.intro q2 q3))
      clear hwr hwr1 he hcan q1 q2 q3 hc hd
      go_wp2_with fail
      refine (HW.out).mono ?_
      rintro e w2 ⟨rfl, o2, k2⟩
      have HF : Hid (AppEnd B L j g m l n s.data.toList w (.returned (.int .i64 9)) w2) := Lib.hid (by
        obtain ⟨q1, q2, q3⟩ := HQ.out
        refine ⟨by rw [q1], ?_, HK.out.trans (k2.mono (fun i _ hi => room_or hi))⟩
        rw [q2, q3]
        exact ⟨o2, Blk.kept HB1.out.blk k2 room_not, HH.out.low, HH.out.apart⟩)
      clear o2 k2 HQ
      go_wp2
      go_ret
      exact HF.out
end Go.Proofs.Ytkdbehfmmmlmjaa.JouW
