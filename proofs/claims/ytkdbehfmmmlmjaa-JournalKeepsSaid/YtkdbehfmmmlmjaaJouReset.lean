/-
  The program's journal: the contract of Reset.
-/
import Derived.Test.YtkdbehfmmmlmjaaBuild
import Derived.Deep.RegionHeld3
set_option linter.unusedVariables false
set_option linter.unusedSimpArgs false
namespace Go.Proofs.Ytkdbehfmmmlmjaa.JouW
open Go.RowKit Go.Proofs.Ytkdbehfmmmlmjaa.L Go.Proofs.Ytkdbehfmmmlmjaa.CrcW Go.Proofs.Ytkdbehfmmmlmjaa.DiskW

theorem frames_total (xs : List (List UInt8)) : (Jou.frames xs).length ≤ total xs + 8 * xs.length := by
  induction xs with
  | nil => simp [Jou.frames, total]
  | cons x xs ih =>
    show (Crc.frame x ++ Jou.frames xs).length ≤ _
    rw [List.length_append]
    have h : (Crc.frame x).length ≤ x.length + 8 := by
      by_cases hx : x.length ≤ 16384
      · rw [Crc.frame_length x hx]; omega
      · unfold Crc.frame; rw [if_pos (by omega)]; simp
    simp only [total, List.length_cons]
    omega
theorem frames_take (xs : List (List UInt8)) (k : Nat) (x : List UInt8) (h : xs[k]? = some x) : Jou.frames (xs.take (k + 1)) = Jou.frames (xs.take k) ++ Crc.frame x := by
  rw [List.take_add_one, h]
  show Jou.frames (xs.take k ++ [x]) = _
  rw [Jou.frames_append, Jou.frames_one]
theorem frames_take_le (xs : List (List UInt8)) (k : Nat) : (Jou.frames (xs.take k)).length ≤ total xs + 8 * xs.length := by
  have h1 := frames_total (xs.take k)
  have h2 := total_le xs k
  have h3 : (xs.take k).length ≤ xs.length := by rw [List.length_take]; omega
  omega
theorem anyBig_take (xs : List (List UInt8)) (k : Nat) (x : List UInt8) (h : xs[k]? = some x) : Jou.anyBig (xs.take (k + 1)) = (Jou.anyBig (xs.take k) || decide (16384 < x.length)) := by
  rw [List.take_add_one, h]
  unfold Jou.anyBig
  simp
theorem anyBig_at {xs : List (List UInt8)} {k : Nat} {x : List UInt8} (h : xs[k]? = some x) (hx : 16384 < x.length) : Jou.anyBig xs = true := by
  unfold Jou.anyBig
  rw [List.any_eq_true]
  exact ⟨x, List.mem_of_getElem? h, by simpa using hx⟩

/-- What Reset leaves. -/
def ResEnd (B : Nat) (L : Nat → Prop) (j g m : Nat) (l : List UInt8) (n : Nat) (xs : List (List UInt8)) (w : World) (e : Ending) (w' : World) : Prop :=
  e = .returned (.int .i64 (Jou.resErr m xs)) ∧ JOwn B L w' j g m (Jou.resTo m l xs) (Jou.resN m n xs) ∧ Kept (Room B L) w w'

theorem builder_below {B b : Nat} {bs : List Value} {w w' : World} (h : Lib.IsBuilder 78 5 B b bs w) (hb : Below w.heap.size w w') : Lib.IsBuilder 78 5 B b bs w' := by
  have key : ∀ p, Lib.BuilderAt 78 5 B b p bs w → Lib.BuilderAt 78 5 B b p bs w' := fun p hp => by
    have hlt := hp.lt
    obtain ⟨hB, v, hv, ho, hne⟩ := hp
    exact ⟨hB, v, (hb.block b hlt).trans hv, RowV.below (w := w) ho hb, hne⟩
  exact h.imp (key _) (key _)

set_option maxHeartbeats 4000000 in
theorem reset_own {B : Nat} {L : Nat → Prop} {w : World} {j g m : Nat} {l : List UInt8} {n : Nat} (h : JOwn B L w j g m l n) (hB : B ≤ w.heap.size) (hL : Live L w) {A : Option Addr} {cap : Nat} {xs : List (List UInt8)}
    (hr : RowOf w A 1 sdec xs) (hf : few xs = true) :
    Calls Try.prog 37 #[.pointer (some ⟨j, 0, none⟩), .slice A xs.length cap] w fun e w' => ResEnd B L j g m l n xs w e w' := by
  obtain ⟨hf1, hf2⟩ := few_len hf
  have hc0 : w.cell? ⟨j, 0, none⟩ = some (.pointer (some ⟨g, 0, none⟩)) := Blk.cell h.blk 0
  have hjl := JBlk.lt h.blk
  have HC := Lib.hid hc0
  have HH := Lib.hid h
  have HL := Lib.hid hL
  have HR := Lib.hid hr
  have HT := Lib.hid (frames_take_le xs)
  obtain ⟨N, hN⟩ : ∃ N, xs.length = N := ⟨_, rfl⟩
  have HN := Lib.hid hN
  have HF2 := Lib.hid hf2
  rw [hN] at hf1 ⊢
  have hbn := bnew w
  clear hc0 h hL hr hf hN hf2
  go_enter Try.func37, Try.ntmps37
  go_wp2_with fail
  go_loopw [13] (fun i wr => ∃ k : Nat, i = .int .i64 (k : Int) ∧ k ≤ N ∧ Hid (Jou.anyBig (xs.take k) = false) ∧ Lib.IsBuilder 78 5 w.heap.size w.heap.size (Lib.byteCells (Jou.frames (xs.take k))) wr ∧ Below w.heap.size w wr) (fun i _ => N - (intOf i).toNat)
  case atStart => exact ⟨0, rfl, by omega, Lib.hid rfl, hbn, (Below.refl _ _).alloc (Nat.le_refl _) _⟩
  case round =>
    obtain ⟨k, rfl, hk, HBig, hbu, hbw⟩ := hrel
    clear hbn
    by_cases hkn : k < N
    · have hkx : k < xs.length := by have := HN.out; omega
      obtain ⟨b, o, rfl, hlt, hc⟩ := HR.out (by intro e; subst e; simp at hkx)
      have hx := List.getElem?_eq_getElem hkx
      have c2 : wr.cell? ⟨b, o + k, none⟩ = some (vs xs[k]) := by
        have := hc k xs[k] hx 0 (vs xs[k]) rfl
        rw [Nat.mul_one, Nat.add_zero] at this
        exact (hbw.cell (p := ⟨b, o + k, none⟩) hlt).trans this
      have hft := Lib.hid (frames_take xs k xs[k] hx)
      have hat := Lib.hid (anyBig_take xs k xs[k] hx)
      have hab := Lib.hid (fun h => anyBig_at (xs := xs) hx h)
      have hfl := HT.out (k + 1)
      rw [hft.out, List.length_append] at hfl
      have hfl2 : (Jou.frames (xs.take k)).length + (Crc.frame xs[k]).length ≤ 60000 + 8 * 60 := by have := HN.out; have := HF2.out; omega
      have hxl : xs[k].length ≤ 60000 := by
        have h1 := HF2.out
        have h2 := total_take xs k xs[k] hx
        have h3 := total_le xs (k + 1)
        omega
      obtain ⟨x, hxx⟩ : ∃ x, xs[k] = x := ⟨_, rfl⟩
      rw [hxx] at c2 hft hat hfl2 hab hxl
      have hsz : (str x).size = x.length := str_size x
      have HSZ := Lib.hid hsz
      unfold vs at c2
      have hlb : (Lib.byteCells (Jou.frames (xs.take k))).length + (str (Crc.frame x)).size ≤ 140737488355328 := by rw [str_size]; simp [Lib.byteCells]; omega
      have hsm : (str x).size ≤ maxLen := by rw [hsz]; unfold maxLen; omega
      have hsx : (str x).size ≤ 60000 := by omega
      have HLB := Lib.hid hlb
      have HSM := Lib.hid hsm
      clear hc hkx hx hxx hfl hfl2 hlb hsm hsz
      by_cases hbig : 16384 < (str x).size
      · have hfin : Hid (ResEnd B L j g m l n xs w (.returned (.int .i64 8)) wr) := Lib.hid (by
          obtain ⟨q1, q2, q3⟩ := Jou.res_big m l xs n (hab.out (by have := HSZ.out; omega))
          exact ⟨by rw [q1], by rw [q2, q3]; exact HH.out.below hbw, Kept.of_below hbw⟩)
        clear hbu hbw
        go_wp2_with fail
        go_ret
        exact hfin.out
      · have hbig2 : Hid (Jou.anyBig (xs.take (k + 1)) = false) := Lib.hid (by rw [hat.out, HBig.out]; simp; have := HSZ.out; omega)
        go_wp2_with fail
        refine (frame_any (str x) _ HSM.out).mono ?_
        rintro e w2 ⟨rfl, hb2⟩
        rw [str_toList]
        have hbu2 := builder_below hbu hb2
        have hbw2 : Below w.heap.size w w2 := hbw.trans (hb2.mono hbw.size)
        clear hbu hb2 hbw
        go_wp2_with fail
        refine (bwrite_any _ _ _ (str (Crc.frame x)) _ hbu2 HLB.out hbw2.size).mono ?_
        rintro e w3 ⟨rfl, hbu3, hb3⟩
        rw [bytes_add, str_toList, ← hft.out] at hbu3
        have hbw3 : Below w.heap.size w w3 := hbw2.trans hb3
        clear hbu2 hbw2 hb3
        go_wp2_with fail
        go_roundw
        case rel => exact ⟨k + 1, by go_num, by omega, hbig2, hbu3, hbw3⟩
        case measure => simp [intOf]; omega
    · have hkN : k = N := by omega
      have hall : xs.take k = xs := List.take_of_length_le (by have := HN.out; omega)
      rw [hall] at HBig hbu
      clear hall hkn
      have hkn2 : N ≤ k := by omega
      have hsm := Jou.small_of HBig.out
      have hfr : (Jou.frames xs).length ≤ 60480 := by have := HT.out N; rw [List.take_of_length_le (by have := HN.out; omega)] at this; have := HN.out; have := HF2.out; omega
      have hfs : (str (Jou.frames xs)).size ≤ maxLen := by rw [str_size]; unfold maxLen; omega
      have HFS := Lib.hid hfs
      have hjw : j < wr.heap.size := Nat.lt_of_lt_of_le hjl hbw.size
      have c0 : wr.cell? ⟨j, 0, none⟩ = some (.pointer (some ⟨g, 0, none⟩)) := (hbw.cell (p := ⟨j, 0, none⟩) hjl).trans HC.out
      have hbz := hbw.size
      have HB1 : Hid (∀ w2, Below w.heap.size w w2 → Own B (fun k => L k ∨ k = j) w2 g (Jou.clean m l)) := Lib.hid (fun w2 hb => (HH.out.below hb).own)
      have HL1 : Hid (∀ w2, Below w.heap.size w w2 → Live (fun k => L k ∨ k = j) w2) := Lib.hid (fun w2 hb => live_or (HL.out.kept hb.size) (Nat.lt_of_lt_of_le hjl hb.size))
      clear hfs hfr hsm
      by_cases hfit : (Jou.frames xs).length ≤ m
      · obtain ⟨q1, q2, q3⟩ := Jou.res_ok m l xs n HBig.out hfit
        have he : Dsk.replaceErr (Jou.clean m l) (str (Jou.frames xs)).data.toList = 0 := by rw [str_toList]; unfold Dsk.replaceErr Jou.clean; rw [if_neg (by simp; omega)]
        have hsr := Lib.hid (show Dsk.sync (Dsk.replace (Jou.clean m l) (str (Jou.frames xs)).data.toList) = Jou.clean m (Jou.frames xs) by rw [str_toList]; exact Jou.sync_replace m l _ hfit)
        have Hrep : Hid (∀ w2, Below w.heap.size w w2 → Calls Try.prog 19 #[.pointer (some ⟨g, 0, none⟩), .string (str (Jou.frames xs))] w2 fun e w' => e = .returned (.int .i64 0) ∧ w'.cell? ⟨j, 0, none⟩ = some (.pointer (some ⟨g, 0, none⟩)) ∧ OTurn B (fun k => L k ∨ k = j) w2 w' g (Dsk.replace (Jou.clean m l) (str (Jou.frames xs)).data.toList)) := Lib.hid (fun w2 hb => by
          have := replace_own (HB1.out w2 hb) (Nat.le_trans hB hb.size) (HL1.out w2 hb) (str (Jou.frames xs)) HFS.out
          rw [he] at this
          exact this.mono fun e w' ⟨h1, h2⟩ => ⟨h1, (h2.2.cell (p := ⟨j, 0, none⟩) (Nat.lt_of_lt_of_le hjl hb.size) room_not).trans ((hb.cell (p := ⟨j, 0, none⟩) hjl).trans HC.out), h2⟩)
        have HQ := Lib.hid (And.intro q1 (And.intro q2 q3))
        clear he hfit q1 q2 q3
        go_wp2_with fail
        go_region_held3 (fun W => W.cell? ⟨j, 0, none⟩ = some (.pointer (some ⟨g, 0, none⟩))) (first | go_keep | assumption | exact (Below.cell (p := ⟨j, 0, none⟩) hb2 hjl).trans (by simpa using c0)) (first | (go_at_call 48; refine (bstring_any w.heap.size _ (Jou.frames xs) _ (builder_below hbu (drewN_of rfl)) hbz).mono ?_; rintro e w2 ⟨rfl, hb2⟩) | (go_at_call 19; refine (Hrep.out _ (hbw.drew.trans hb2)).mono ?_; rintro e w3 ⟨rfl, c3, o3, k3⟩))
        have hbw2 : Below w.heap.size w w2 := hbw.drew.trans hb2
        have hb3 : JBlk w3 j g n := Blk.kept (HH.out.below hbw2).blk k3 room_not
        have hB3 : B ≤ w3.heap.size := Nat.le_trans (Nat.le_trans hB hbw2.size) k3.size
        have hL3 := (HL1.out w2 hbw2).kept k3.size
        have hsy := Lib.hid (sync_own o3 hB3 hL3)
        have hK3 := Lib.hid ((Kept.of_below (F := Room B L) hbw2).trans (k3.mono (fun i _ hi => room_or hi)))
        clear hb2 hbu hbw c0 o3 k3 hbz
        go_wp2_with fail
        refine (hsy.out).mono ?_
        rintro e w4 ⟨rfl, o4, k4⟩
        rw [hsr.out] at o4
        have hb4 : JBlk w4 j g n := Blk.kept hb3 k4 room_not
        have c1 : w4.cell? ⟨j, 1, none⟩ = some (.int .i64 (n : Int)) := Blk.cell hb4 1
        have f1 : w4.frozen? ⟨j, 1, none⟩ = false := Blk.frozen hb4 1
        have HF : Hid (ResEnd B L j g m l n xs w (.returned (.int .i64 0)) (w4.setCell ⟨j, 1, none⟩ (.int .i64 (N : Int)))) := Lib.hid (by
          obtain ⟨q1, q2, q3⟩ := HQ.out
          refine ⟨by rw [q1], ?_, ?_⟩
          · rw [q2, q3, HN.out]
            refine ⟨Own.kept o4 (G := fun k => k = j) (one1 w4 j 1 _) (fun i hi => .inl (.inr hi)), ?_, HH.out.low, HH.out.apart⟩
            have := Blk.set_ hb4 1 (.int .i64 (N : Int))
            exact this
          · exact (hK3.out.trans (k4.mono (fun i _ hi => room_or hi))).setCell (.inl ⟨HH.out.low, HH.out.apart⟩) _)
        clear hsy hb3 o4 k4 hb4 HQ hsr c3
        go_wp2
        go_ret
        exact HF.out
      · obtain ⟨q1, q2, q3⟩ := Jou.res_full m l xs n HBig.out hfit
        have he : Dsk.replaceErr (Jou.clean m l) (str (Jou.frames xs)).data.toList = 9 := by rw [str_toList]; unfold Dsk.replaceErr Jou.clean; rw [if_pos (by simp; omega)]
        have hd : Dsk.replace (Jou.clean m l) (str (Jou.frames xs)).data.toList = Jou.clean m l := by rw [str_toList]; unfold Dsk.replace; rw [if_pos (by unfold Jou.clean; simp; omega)]
        have Hrep : Hid (∀ w2, Below w.heap.size w w2 → Calls Try.prog 19 #[.pointer (some ⟨g, 0, none⟩), .string (str (Jou.frames xs))] w2 fun e w' => e = .returned (.int .i64 9) ∧ w'.cell? ⟨j, 0, none⟩ = some (.pointer (some ⟨g, 0, none⟩)) ∧ OTurn B (fun k => L k ∨ k = j) w2 w' g (Jou.clean m l)) := Lib.hid (fun w2 hb => by
          have := replace_own (HB1.out w2 hb) (Nat.le_trans hB hb.size) (HL1.out w2 hb) (str (Jou.frames xs)) HFS.out
          rw [he, hd] at this
          exact this.mono fun e w' ⟨h1, h2⟩ => ⟨h1, (h2.2.cell (p := ⟨j, 0, none⟩) (Nat.lt_of_lt_of_le hjl hb.size) room_not).trans ((hb.cell (p := ⟨j, 0, none⟩) hjl).trans HC.out), h2⟩)
        have HQ := Lib.hid (And.intro q1 (And.intro q2 q3))
        clear he hd hfit q1 q2 q3
        go_wp2_with fail
        go_region_held3 (fun W => W.cell? ⟨j, 0, none⟩ = some (.pointer (some ⟨g, 0, none⟩))) (first | go_keep | assumption | exact (Below.cell (p := ⟨j, 0, none⟩) hb2 hjl).trans (by simpa using c0)) (first | (go_at_call 48; refine (bstring_any w.heap.size _ (Jou.frames xs) _ (builder_below hbu (drewN_of rfl)) hbz).mono ?_; rintro e w2 ⟨rfl, hb2⟩) | (go_at_call 19; refine (Hrep.out _ (hbw.drew.trans hb2)).mono ?_; rintro e w3 ⟨rfl, c3, o3, k3⟩))
        have hbw2 : Below w.heap.size w w2 := hbw.drew.trans hb2
        have hb3 : JBlk w3 j g n := Blk.kept (HH.out.below hbw2).blk k3 room_not
        have HF : Hid (ResEnd B L j g m l n xs w (.returned (.int .i64 9)) w3) := Lib.hid (by
          obtain ⟨q1, q2, q3⟩ := HQ.out
          refine ⟨by rw [q1], ?_, (Kept.of_below (F := Room B L) hbw2).trans (k3.mono (fun i _ hi => room_or hi))⟩
          rw [q2, q3]
          exact ⟨o3, hb3, HH.out.low, HH.out.apart⟩)
        clear hb2 hbu hbw c0 o3 k3 hbz hb3 HQ c3
        go_wp2
        go_ret
        exact HF.out
end Go.Proofs.Ytkdbehfmmmlmjaa.JouW
