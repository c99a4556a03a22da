/-
  The records of some bytes: the contracts of package journal's Scan and of what it calls.
-/
import Derived.Test.YtkdbehfmmmlmjaaCrcFrame
import Derived.Test.YtkdbehfmmmlmjaaJouPlain
import Derived.Test.YtkdbehfmmmlmjaaHeap
import Derived.Test.YtkdbehfmmmlmjaaBytes
import Derived.Maps.AppendAt
set_option linter.unusedVariables false
set_option linter.unusedSimpArgs false
namespace Go.Proofs.Ytkdbehfmmmlmjaa.JouW
open Go.RowKit Go.Proofs.Ytkdbehfmmmlmjaa.L Go.Proofs.Ytkdbehfmmmlmjaa.CrcW

/-- A record as a value. -/
def vs (l : List UInt8) : Value := .string (str l)
theorem strinfo : (Try.prog.info? 9).map (fun i => (i.zero, i.size, i.bytes)) = some (some (.string ByteArray.empty), 1, 16) := by kernel_rfl

set_option maxHeartbeats 1000000 in
theorem clo_yes (rest : List UInt8) (b : Nat) (w : World) (hs : rest.length ≤ 4194304) (hc : w.cell? ⟨b, 0, none⟩ = some (vs rest)) (hf : w.frozen? ⟨b, 0, none⟩ = false) (h : (Crc.read rest).2.2 = 0) :
    Calls Try.prog 49 #[.pointer (some ⟨b, 0, none⟩)] w fun e w' => e = .returned (.tuple #[vs (Crc.read rest).1, .int .i64 ((Crc.read rest).2.1 : Int), .bool true]) ∧ ∃ m, w' = (w.setCell ⟨b, 0, none⟩ (vs (rest.drop (Crc.read rest).2.1))).drewN m := by
  have hr := fun w => read_any (str rest) w (by rw [str_size]; unfold maxLen; omega)
  have hk := (Jou.read_ok rest h).2.1
  have hv : readV (str rest).data.toList = .tuple #[vs (Crc.read rest).1, .int .i64 ((Crc.read rest).2.1 : Int), .int .i64 0] := by
    rw [str_toList]; unfold readV; rw [h]; rfl
  rw [hv] at hr
  have hd : (str rest).extract (Crc.read rest).2.1 (str rest).size = str (rest.drop (Crc.read rest).2.1) := by
    rw [extract_eq, str_toList, str_size]; congr 1; exact List.take_of_length_le (by simp)
  obtain ⟨n, hn⟩ : ∃ n, (Crc.read rest).2.1 = n := ⟨_, rfl⟩
  obtain ⟨t, ht⟩ : ∃ t, (Crc.read rest).1 = t := ⟨_, rfl⟩
  rw [hn] at hr hk hd ⊢
  rw [ht] at hr ⊢
  unfold vs at *
  have hsz : (str rest).size ≤ 4194304 := by rw [str_size]; exact hs
  have hk2 : n ≤ (str rest).size := by rw [str_size]; exact hk
  have Hr := Lib.hid hr
  have Hd := Lib.hid hd
  clear hn ht hv h hr hd hk hs
  go_enter Try.func49, Try.ntmps49
  go_wp2_with fail
  refine (Hr.out _).mono ?_
  rintro e w1 ⟨rfl, m, rfl⟩
  go_wp2_with fail
  go_ret3
  refine ⟨rfl, m, ?_⟩
  rw [← Hd.out]
  rfl

set_option maxHeartbeats 1000000 in
theorem clo_no (rest : List UInt8) (b : Nat) (w : World) (hs : rest.length ≤ 4194304) (hc : w.cell? ⟨b, 0, none⟩ = some (vs rest)) (h : (Crc.read rest).2.2 ≠ 0) :
    Calls Try.prog 49 #[.pointer (some ⟨b, 0, none⟩)] w fun e w' => e = .returned (.tuple #[.string ByteArray.empty, .int .i64 0, .bool false]) ∧ ∃ m, w' = w.drewN m := by
  have hr := fun w => read_any (str rest) w (by rw [str_size]; unfold maxLen; omega)
  rw [str_toList] at hr
  unfold readV vs at *
  obtain ⟨x, hx⟩ : ∃ x, (Crc.read rest).2.2 = x := ⟨_, rfl⟩
  rw [hx] at hr h
  have hb : ((x : Int) != 0) = true := by rw [bne_iff_ne]; omega
  generalize (Crc.read rest).1 = t at *
  generalize (Crc.read rest).2.1 = n at *
  have Hr := Lib.hid hr
  clear hr hx h hs
  go_enter Try.func49, Try.ntmps49
  go_wp2_with fail
  refine (Hr.out _).mono ?_
  rintro e w1 ⟨rfl, m, rfl⟩
  go_wp2_with fail
  go_ret3
  exact ⟨rfl, m, rfl⟩

theorem frames_any (s : ByteArray) (w : World) : Calls Try.prog 42 #[.string s] w fun e w' => e = .returned (.func (.func 49) #[] #[.pointer (some ⟨w.heap.size, 0, none⟩)]) ∧ w' = w.alloc (.cells #[.string s] 9) := by
  go_enter Try.func42, Try.ntmps42
  go_wp2
  go_ret
  exact ⟨rfl, rfl⟩
end Go.Proofs.Ytkdbehfmmmlmjaa.JouW
