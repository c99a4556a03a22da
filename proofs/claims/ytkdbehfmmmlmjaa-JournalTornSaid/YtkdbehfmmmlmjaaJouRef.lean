/-
  The records of some bytes: the contract of the reference's Scan.
-/
import Derived.Test.YtkdbehfmmmlmjaaJouScanB
import Derived.Deep.DeepCutAuto
import Derived.Deep.CutBlock
set_option linter.unusedVariables false
set_option linter.unusedSimpArgs false
namespace Go.Proofs.Ytkdbehfmmmlmjaa.JouW
open Go.RowKit Go.Proofs.Ytkdbehfmmmlmjaa.L Go.Proofs.Ytkdbehfmmmlmjaa.CrcW

theorem readV_ok (t : List UInt8) (h : (Crc.read t).2.2 = 0) : readV t = .tuple #[vs (Crc.read t).1, .int .i64 ((Crc.read t).2.1 : Int), .int .i64 0] := by unfold readV; rw [h]; rfl
theorem below_drew {w w' : World} {B n : Nat} (h : Below B w w') : Below B w (w'.drewN n) := below_drewN h n

set_option maxHeartbeats 2000000 in
theorem refscan_any (l : List UInt8) (w : World) (hs : l.length ≤ 4194304) : Calls Try.prog 25 #[.string (str l)] w (ScanEnd l w) := by
  go_enter Try.func25, Try.ntmps25
  have hsz : (str l).size = l.length := str_size l
  have hn0 : RowV w w.heap.size 9 (.slice none 0 0) (List.map vs []) := RowV.nil _ _ _
  go_upto_block 0 with fail
  go_cut [4, 5] (fun v a wx => ∃ u : Value, v = u ∧ a = .int .i64 ((Jou.scan l).2 : Int) ∧ Recs wx w.heap.size u (Jou.scan l).1 ∧ Below w.heap.size w wx)
  case first =>
    go_wp2_with fail
    go_loopw [4, 5] (fun v a wr => ∃ (recs : List (List UInt8)) (k : Nat), a = .int .i64 (k : Int) ∧ k ≤ l.length ∧ 8 * recs.length ≤ k ∧ Recs wr w.heap.size v recs ∧
      Below w.heap.size w wr ∧ w.heap.size ≤ wr.heap.size ∧ Hid (Jou.scan l = (recs ++ (Jou.scan (l.drop k)).1, k + (Jou.scan (l.drop k)).2))) (fun _ a _ => l.length - (intOf a).toNat)
    case atStart => exact ⟨[], 0, rfl, by omega, by simp, hn0, Below.refl _ _, Nat.le_refl _, Lib.hid (by simp)⟩
    case round =>
      obtain ⟨recs, k, rfl, hk, hk8, hrow, hb, hlt, HS⟩ := hrel
      clear hn0
      by_cases hkl : k < l.length
      · have hx : (str l).extract k l.length = str (l.drop k) := by
          rw [extract_eq, str_toList]; congr 1; exact List.take_of_length_le (by simp)
        have hcr : ∀ w, Calls Try.prog 43 #[.string (str (l.drop k))] w fun e w' => e = .returned (readV (l.drop k)) ∧ ∃ n, w' = w.drewN n := fun w => by
          have := refread_any (str (l.drop k)) w (by rw [str_size]; unfold maxLen; simp; omega)
          rwa [str_toList] at this
        by_cases hr : (Crc.read (l.drop k)).2.2 = 0
        · rw [readV_ok _ hr] at hcr
          have hok := Jou.read_ok (l.drop k) hr
          have hS2 := Lib.hid (scan_more l (l.drop k) recs k HS.out hr)
          rw [List.drop_drop] at hS2
          rw [List.length_drop] at hok
          generalize (Crc.read (l.drop k)).1 = t at *
          generalize (Crc.read (l.drop k)).2.1 = n at *
          obtain ⟨hok1, hok2, _⟩ := hok
          have hkn : k + n ≤ 4194304 := by omega
          have hrl : 8 * (recs.length + 1) ≤ k + n := by omega
          have hrl2 : recs.length ≤ 1048576 := by omega
          have Hx := Lib.hid hx
          have Hcr := Lib.hid hcr
          clear hr HS hx hcr
          go_wp2_with fail
          rw [Hx.out]
          refine (Hcr.out _).mono ?_
          rintro e w2 ⟨rfl, m, hw2⟩
          have hz2 : w.heap.size ≤ w2.heap.size := by rw [hw2]; simpa using hlt
          have hb2 : Below w.heap.size w w2 := by rw [hw2]; exact below_drewN hb m
          have hrow2 : Recs w2 w.heap.size u4 recs := hrow.kept (fun k hk => by rw [hw2]; simp)
          clear hw2 hrow hb Hx Hcr
          obtain ⟨v', w3, hrun, ho, hg, hn⟩ := append_rec hrow2 hz2 t hrl2
          have hb3 : Below w.heap.size w w3 := (hb2.alloc hz2 _).grown hg (by simp; omega) (fun j hj => by have := hrow2.lt j hj; omega)
          have hz3 : w.heap.size ≤ w3.heap.size := by have := hg.size; simp at this; omega
          clear hrow2 hb2 hg hn
          unfold vs at hrun
          unfold vs
          have HO := Lib.hid ho
          have Hok := Lib.hid (And.intro hok1 hok2)
          clear ho hok1 hok2
          go_wp2_with (at_builtin; refine wpList_append_eq rfl (.tmp 23) (.tmp 25) _ _ rfl u4 (.slice (some ⟨w2.heap.size, 0, none⟩) 1 1) rfl rfl hrun ?_)
          go_roundw
          case rel => exact ⟨recs ++ [t], k + n, by go_num, by have := Hok.out; omega, by simp; omega, HO.out, hb3, hz3, hS2⟩
          case measure => have := Hok.out; simp [intOf]; omega
        · have hfin := Lib.hid (scan_done l (l.drop k) recs k HS.out hr)
          obtain ⟨c, hc, hv⟩ : ∃ c : Nat, c ≠ 0 ∧ readV (l.drop k) = .tuple #[vs (Crc.read (l.drop k)).1, .int .i64 ((Crc.read (l.drop k)).2.1 : Int), .int .i64 (c : Int)] := ⟨_, hr, rfl⟩
          rw [hv] at hcr
          generalize (Crc.read (l.drop k)).1 = t at *
          generalize (Crc.read (l.drop k)).2.1 = n at *
          have hc2 : ((c : Int) != 0) = true := by rw [bne_iff_ne]; omega
          have Hx := Lib.hid hx
          have Hcr := Lib.hid hcr
          clear hr HS hx hcr hv
          unfold vs at Hcr
          go_wp2_with fail
          rw [Hx.out]
          refine (Hcr.out _).mono ?_
          rintro e w2 ⟨rfl, m, hw2⟩
          have hb2 : Below w.heap.size w w2 := by rw [hw2]; exact below_drewN hb m
          have hrow2 : Recs w2 w.heap.size u4 recs := hrow.kept (fun k hk => by rw [hw2]; simp)
          clear hw2 hrow hb Hx Hcr
          go_wp2_with fail
          go_meet
          exact ⟨u4, rfl, by rw [hfin.out], by rw [hfin.out]; exact hrow2, hb2⟩
      · have hfin := Lib.hid (scan_done l (l.drop k) recs k HS.out (by rw [List.drop_of_length_le (by omega)]; decide))
        have hkl2 : l.length ≤ k := by omega
        clear hkl HS
        go_wp2_with fail
        go_meet
        exact ⟨u4, rfl, by rw [hfin.out], by rw [hfin.out]; exact hrow, hb⟩
  case rest =>
    obtain ⟨u, rfl, rfl, hr, hb⟩ := hcut
    go_wp2_with fail
    go_ret2
    exact ⟨_, rfl, hr, hb⟩
end Go.Proofs.Ytkdbehfmmmlmjaa.JouW
