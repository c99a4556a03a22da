/-
  The contracts of package crc's functions and of its reference's: what each gives, whatever the world.
-/
import Derived.Test.YtkdbehfmmmlmjaaRows
import Derived.Test.YtkdbehfmmmlmjaaLib
import Derived.Test.YtkdbehfmmmlmjaaCrcPlain
import Derived.WalkKit
import Derived.ProofKit
import Derived.WalkSpells
import Derived.Lib.Hide
import Derived.Deep.QuietTactic
import Derived.BigQuiet
import Derived.Handy
set_option linter.unusedVariables false
set_option linter.unusedSimpArgs false
namespace Go.Proofs.Ytkdbehfmmmlmjaa.CrcW
open Go.RowKit Go.Proofs.Ytkdbehfmmmlmjaa.L

/-! ### words of the walk as plain numbers -/
theorem bit_branchless (c : Nat) (h : c < 4294967296) :
    bits .xor .u32 ((c : Int) / 2) (bits .and .u32 2197175160 (-bits .and .u32 (c : Int) 1 % 4294967296)) = (Crc.bit c : Int) := by
  have e1 : bits .and .u32 (c : Int) 1 = ((c % 2 : Nat) : Int) := by
    rw [show (1 : Int) = ((1 : Nat) : Int) from rfl, bits_and_nat .u32 rfl c 1 h (by decide), Nat.and_one_is_mod]
  rw [e1]
  have e2 : ((c : Int) / 2) = ((c / 2 : Nat) : Int) := by omega
  rw [e2]
  unfold Crc.bit
  by_cases hp : c % 2 = 1
  · rw [hp, if_pos rfl]
    have e3 : (-((1 : Nat) : Int) % 4294967296) = ((4294967295 : Nat) : Int) := by decide
    rw [e3, show (2197175160 : Int) = ((2197175160 : Nat) : Int) from rfl, bits_and_nat .u32 rfl _ _ (by decide) (by decide), bits_xor_nat .u32 rfl _ _ (by show _ < 4294967296; omega) (by decide)]
    rfl
  · have hz : c % 2 = 0 := by omega
    rw [hz, if_neg (by omega)]
    have e3 : (-((0 : Nat) : Int) % 4294967296) = ((0 : Nat) : Int) := by decide
    rw [e3, show (2197175160 : Int) = ((2197175160 : Nat) : Int) from rfl, bits_and_nat .u32 rfl _ _ (by decide) (by decide), bits_xor_nat .u32 rfl _ _ (by show _ < 4294967296; omega) (by decide)]
    simp

theorem xor_byte (c : Nat) (b : UInt8) (h : c < 4294967296) : bits .xor .u32 (c : Int) ((b.toNat : Int) % 4294967296) = ((c ^^^ b.toNat : Nat) : Int) := by
  have := b.toNat_lt
  rw [show ((b.toNat : Int) % 4294967296) = ((b.toNat : Nat) : Int) by omega]
  exact bits_xor_nat .u32 rfl _ _ h (by show _ < 4294967296; omega)

theorem xor_all (c : Nat) (h : c < 4294967296) : bits .xor .u32 4294967295 (c : Int) = ((c ^^^ 4294967295 : Nat) : Int) := by
  rw [show (4294967295 : Int) = ((4294967295 : Nat) : Int) from rfl, bits_xor_nat .u32 rfl _ _ (by decide) h, Nat.xor_comm]
theorem xor_max (c : Nat) (h : c < 4294967296) : bits .xor .u32 IntKind.u32.max (c : Int) = ((c ^^^ 4294967295 : Nat) : Int) := xor_all c h
theorem xor_all' (c : Nat) (h : c < 4294967296) : bits .xor .u32 (c : Int) 4294967295 = ((c ^^^ 4294967295 : Nat) : Int) := by
  rw [show (4294967295 : Int) = ((4294967295 : Nat) : Int) from rfl, bits_xor_nat .u32 rfl _ _ h (by decide)]

theorem drop_cons (s : ByteArray) (k : Nat) (h : k < s.size) : s.data.toList.drop k = s[k] :: s.data.toList.drop (k + 1) := by
  rw [List.drop_eq_getElem_cons (by simpa using h)]; rfl

theorem turns_step (j c : Nat) (h : j < 8) : Crc.turns (8 - j) c = Crc.turns (8 - (j + 1)) (Crc.bit c) := by
  rw [show 8 - j = (8 - (j + 1)) + 1 by omega]; rfl

/-! ### Sum -/
set_option maxRecDepth 100000 in
set_option maxHeartbeats 400000 in
theorem sum_any (s : ByteArray) (w : World) (hs : s.size ≤ maxLen) :
    Calls Try.prog 53 #[.string s] w fun e w' => e = .returned (.int .u32 (Crc.sum s.data.toList)) ∧ w = w' := by
  unfold maxLen at hs
  go_enter Try.func53, Try.ntmps53
  go_wp2
  refine wp_scope_labels (fun l a' w' => w = w' ∧ ∃ (x i t u1 u6 u7 u8 u9 u10 u11 u12 u13 u14 u15 u16 u17 u18 u19 u20 u21 u22 u23 u24 u25 u26 u27 u28 u29 u30 : Value),
      a' = { tmps := #[.string s, u1, .int .u32 0, x, i, t, u6, u7, u8, u9, u10, u11, u12, u13, u14, u15, u16, u17, u18, u19, u20, u21, u22, u23, u24, u25, u26, u27, u28, u29, u30], defers := [] } ∧
      ((l = 0 ∧ ∃ (k c : Nat), x = .int .u32 c ∧ i = .int .i64 k ∧ k ≤ s.size ∧ c < 4294967296 ∧ Crc.all (s.data.toList.drop k) c = Crc.all s.data.toList 4294967295)
    ∨ (l = 1 ∧ ∃ (k c j : Nat), x = .int .u32 c ∧ i = .int .i64 k ∧ t = .int .i64 j ∧ k ≤ s.size ∧ j < 8 ∧ c < 4294967296 ∧ Crc.all (s.data.toList.drop k) (Crc.turns (8 - j) c) = Crc.all s.data.toList 4294967295)))
    (fun l a' _ => if l = 0 then 10 * (s.size - (intOf (a'.tmps.getD 4 undef)).toNat) else 10 * (s.size - (intOf (a'.tmps.getD 4 undef)).toNat) + (9 - (intOf (a'.tmps.getD 5 undef)).toNat)) ?_ ?_
  · by_cases hz : s.size = 0
    · have hb : ((0 : Int) == (s.size : Int)) = true := by simp; omega
      go_wp2
      go_step3
      go_wp2
      simp only [jumps_ret]
      have hl : s.data.toList = [] := by apply List.eq_nil_of_length_eq_zero; simpa using hz
      go_ret
      exact ⟨ret_int (by rw [hl]; decide), rfl⟩
    · have hb : ((0 : Int) == (s.size : Int)) = false := by simp; omega
      have hp : 0 < s.size := by omega
      have Hd := Lib.hid (drop_cons s 0 hp)
      go_wp2
      go_step3
      go_wp2
      go_step3
      go_wp2
      go_step3
      refine ⟨rfl, _, _, _, _, _, _, _, _, _, _, _, _, _, _, _, _, _, _, _, _, _, _, _, _, _, _, _, _, _, rfl, .inr ⟨rfl, 1, Crc.bit (4294967295 ^^^ s[0].toNat), 1, ret_val ?_, rfl, rfl, hp, by omega, Crc.bit_lt _ (Crc.xor_byte_lt _ _ (by omega)), ?_⟩⟩
      · rw [show (4294967295 : Int) = ((4294967295 : Nat) : Int) from rfl, xor_byte _ _ (by omega), bit_branchless _ (Crc.xor_byte_lt _ _ (by omega))]
      · have := Hd.out
        rw [List.drop_zero] at this
        conv => rhs; rw [this]
        rfl
  · rintro l a' w' ⟨rfl, x, i, t, u1, u6, u7, u8, u9, u10, u11, u12, u13, u14, u15, u16, u17, u18, u19, u20, u21, u22, u23, u24, u25, u26, u27, u28, u29, u30, rfl, ⟨rfl, k, c, rfl, rfl, hk, hc, hall⟩ | ⟨rfl, k, c, j, rfl, rfl, rfl, hk, hj, hc, hall⟩⟩
    · refine ⟨_, rfl, ?_⟩
      have Hall := Lib.hid hall
      clear hall
      by_cases hlt : k < s.size
      · have hb : ((k : Int) == (s.size : Int)) = false := by simp; omega
        go_wp2
        go_step3
        go_wp2
        go_step3
        refine ⟨⟨rfl, _, _, _, _, _, _, _, _, _, _, _, _, _, _, _, _, _, _, _, _, _, _, _, _, _, _, _, _, _, rfl, .inr ⟨rfl, k + 1, Crc.bit (c ^^^ s[k].toNat), 1, ret_val ?_, rfl, rfl, hlt, by omega, Crc.bit_lt _ (Crc.xor_byte_lt _ _ hc), ?_⟩⟩, ?_⟩
        · rw [xor_byte _ _ hc, bit_branchless _ (Crc.xor_byte_lt _ _ hc)]
        · rw [← Hall.out, drop_cons s k hlt]
          rfl
        · simp [intOf]
          omega
      · obtain rfl : k = s.size := by omega
        have hb : ((s.size : Int) == (s.size : Int)) = true := by simp
        go_wp2
        simp only [jumps_ret]
        go_ret
        have h2 := Hall.out
        rw [List.drop_of_length_le (by simp)] at h2
        exact ⟨ret_int (by rw [xor_max c hc, Crc.sum, ← h2]; rfl), rfl⟩
    · refine ⟨_, rfl, ?_⟩
      have Hall := Lib.hid hall
      clear hall
      by_cases hlt : j < 7
      · go_wp2
        go_step3
        refine ⟨⟨rfl, _, _, _, _, _, _, _, _, _, _, _, _, _, _, _, _, _, _, _, _, _, _, _, _, _, _, _, _, _, rfl, .inr ⟨rfl, k, Crc.bit c, j + 1, ret_val ?_, rfl, rfl, hk, by omega, Crc.bit_lt _ hc, ?_⟩⟩, ?_⟩
        · rw [bit_branchless _ hc]
        · rw [← Hall.out, turns_step j c hj]
        · simp [intOf]
          omega
      · obtain rfl : j = 7 := by omega
        go_wp2
        go_step3
        refine ⟨⟨rfl, _, _, _, _, _, _, _, _, _, _, _, _, _, _, _, _, _, _, _, _, _, _, _, _, _, _, _, _, _, rfl, .inl ⟨rfl, k, Crc.bit c, ret_val ?_, rfl, hk, Crc.bit_lt _ hc, ?_⟩⟩, ?_⟩
        · rw [bit_branchless _ hc]
        · rw [← Hall.out]
          rfl
        · simp [intOf]

theorem turns_nine (j c : Nat) (h : j < 8) : Crc.turns (8 - (j + 1)) (Crc.bit c) = Crc.turns (8 - j) c := (turns_step j c h).symm

theorem and_one (c : Nat) (h : c < 4294967296) : bits .and .u32 (c : Int) 1 = ((c % 2 : Nat) : Int) := by
  rw [show (1 : Int) = ((1 : Nat) : Int) from rfl, bits_and_nat .u32 rfl c 1 h (by decide), Nat.and_one_is_mod]

theorem bit_yes (c : Nat) (h : c < 4294967296) (hp : c % 2 = 1) : bits .xor .u32 ((c : Int) / 2) 2197175160 = (Crc.bit c : Int) := by
  rw [show ((c : Int) / 2) = ((c / 2 : Nat) : Int) by omega, show (2197175160 : Int) = ((2197175160 : Nat) : Int) from rfl, bits_xor_nat .u32 rfl _ _ (by show _ < 4294967296; omega) (by decide), Crc.bit, if_pos hp]
  rfl

set_option maxRecDepth 100000 in
set_option maxHeartbeats 400000 in
theorem refsum_any (s : ByteArray) (w : World) (hs : s.size ≤ maxLen) :
    Calls Try.prog 46 #[.string s] w fun e w' => e = .returned (.int .u32 (Crc.sum s.data.toList)) ∧ w = w' := by
  unfold maxLen at hs
  go_enter Try.func46, Try.ntmps46
  go_wp2
  go_loop [3, 4] (fun x i => ∃ (k : Nat) (c : Nat), k ≤ s.size ∧ i = .int .i64 k ∧ x = .int .u32 c ∧ c < 4294967296 ∧ Crc.all (s.data.toList.drop k) c = Crc.all s.data.toList 4294967295) (fun _ i => s.size - (intOf i).toNat)
  case atStart => exact ⟨0, 4294967295, Nat.zero_le _, rfl, rfl, by omega, rfl⟩
  case round =>
    obtain ⟨k, c, hk, rfl, rfl, hc, hall⟩ := hrel
    have Hall := Lib.hid hall
    clear hall
    by_cases hlt : k < s.size
    · go_wp2
      go_loop [3, 5] (fun x i => ∃ (j : Nat) (d : Nat), j ≤ 8 ∧ i = .int .i64 j ∧ x = .int .u32 d ∧ d < 4294967296 ∧ Crc.turns (8 - j) d = Crc.turns 8 (c ^^^ s[k].toNat)) (fun _ i => 8 - (intOf i).toNat)
      case atStart => exact ⟨0, c ^^^ s[k].toNat, by omega, rfl, ret_val (xor_byte _ _ hc), Crc.xor_byte_lt _ _ hc, rfl⟩
      case round =>
        obtain ⟨j, d, hj, rfl, rfl, hd, hturn⟩ := hrel
        have Hturn := Lib.hid hturn
        clear hturn
        by_cases hj8 : j < 8
        · have ha := Lib.hid (and_one d hd)
          by_cases hp : d % 2 = 1
          · have hb : (bits BinOp.and IntKind.u32 (d : Int) 1 == 1) = true := by rw [ha.out, hp]; rfl
            go_wp2
            go_round
            case rel => exact ⟨j + 1, Crc.bit d, by omega, by go_num, ret_val (bit_yes d hd hp), Crc.bit_lt _ hd, by rw [← Hturn.out, turns_step j d hj8]⟩
            case measure => simp [intOf]; omega
          · have hb : (bits BinOp.and IntKind.u32 (d : Int) 1 == 1) = false := by rw [ha.out, show d % 2 = 0 by omega]; rfl
            go_wp2
            go_round
            case rel => exact ⟨j + 1, Crc.bit d, by omega, by go_num, ret_val (by rw [Crc.bit, if_neg hp]; omega), Crc.bit_lt _ hd, by rw [← Hturn.out, turns_step j d hj8]⟩
            case measure => simp [intOf]; omega
        · obtain rfl : j = 8 := by omega
          go_wp2
          go_round
          case rel => exact ⟨k + 1, d, hlt, by go_num, rfl, hd, by rw [← Hall.out, drop_cons s k hlt, Crc.all, ← Hturn.out]; rfl⟩
          case measure => simp [intOf]; omega
    · obtain rfl : k = s.size := by omega
      go_wp2
      go_ret
      have h2 := Hall.out
      rw [List.drop_of_length_le (by simp)] at h2
      exact ⟨ret_int (by rw [xor_all' c hc, Crc.sum, ← h2]; rfl), rfl⟩

/-! ### four bytes -/
theorem or_four (a b c d : UInt8) : bits .or .u32 (bits .or .u32 (bits .or .u32 ((a.toNat : Int) % 4294967296) ((b.toNat : Int) % 4294967296 * 256 % 4294967296)) ((c.toNat : Int) % 4294967296 * 65536 % 4294967296)) ((d.toNat : Int) % 4294967296 * 16777216 % 4294967296)
    = ((a.toNat + b.toNat * 256 + c.toNat * 65536 + d.toNat * 16777216 : Nat) : Int) := by
  have ha := a.toNat_lt
  have hb := b.toNat_lt
  have hc := c.toNat_lt
  have hd := d.toNat_lt
  have e0 : ((a.toNat : Int) % 4294967296) = ((a.toNat : Nat) : Int) := by omega
  have e1 : ((b.toNat : Int) % 4294967296 * 256 % 4294967296) = ((b.toNat * 256 : Nat) : Int) := by omega
  have e2 : ((c.toNat : Int) % 4294967296 * 65536 % 4294967296) = ((c.toNat * 65536 : Nat) : Int) := by omega
  have e3 : ((d.toNat : Int) % 4294967296 * 16777216 % 4294967296) = ((d.toNat * 16777216 : Nat) : Int) := by omega
  have f1 : a.toNat ||| b.toNat * 256 = a.toNat + b.toNat * 256 := by
    rw [Nat.or_comm, Nat.mul_comm, Nat.add_comm]; exact (Nat.two_pow_add_eq_or_of_lt (i := 8) (by omega) _).symm
  have f2 : (a.toNat + b.toNat * 256) ||| c.toNat * 65536 = a.toNat + b.toNat * 256 + c.toNat * 65536 := by
    rw [Nat.or_comm, Nat.mul_comm c.toNat, Nat.add_comm _ (65536 * c.toNat)]; exact (Nat.two_pow_add_eq_or_of_lt (i := 16) (by omega) _).symm
  have f3 : (a.toNat + b.toNat * 256 + c.toNat * 65536) ||| d.toNat * 16777216 = a.toNat + b.toNat * 256 + c.toNat * 65536 + d.toNat * 16777216 := by
    rw [Nat.or_comm, Nat.mul_comm d.toNat, Nat.add_comm _ (16777216 * d.toNat)]; exact (Nat.two_pow_add_eq_or_of_lt (i := 24) (by omega) _).symm
  rw [e0, e1, e2, e3, bits_or_nat .u32 rfl _ _ (by show _ < 4294967296; omega) (by show _ < 4294967296; omega), f1, bits_or_nat .u32 rfl _ _ (by show _ < 4294967296; omega) (by show _ < 4294967296; omega), f2, bits_or_nat .u32 rfl _ _ (by show _ < 4294967296; omega) (by show _ < 4294967296; omega), f3]

theorem or_none (x : Int) (h0 : 0 ≤ x) (h : x < 4294967296) : bits .or .u32 0 x = x := by
  obtain ⟨n, rfl⟩ := Int.eq_ofNat_of_zero_le h0
  rw [show (0 : Int) = ((0 : Nat) : Int) from rfl, bits_or_nat .u32 rfl _ _ (by decide) (by show _ < 4294967296; omega), Nat.zero_or]

theorem back_bytes (s : ByteArray) (h : 4 ≤ s.size) : Crc.back s.data.toList = (s[0]'(by omega)).toNat + (s[1]'(by omega)).toNat * 256 + (s[2]'(by omega)).toNat * 65536 + (s[3]'(by omega)).toNat * 16777216 := by
  have e := drop_cons s 0 (by omega)
  rw [List.drop_zero, drop_cons s 1 (by omega), drop_cons s 2 (by omega), drop_cons s 3 (by omega)] at e
  rw [e]
  rfl

set_option maxHeartbeats 400000 in
theorem refback_any (s : ByteArray) (w : World) (hs : 4 ≤ s.size) :
    Calls Try.prog 51 #[.string s] w fun e w' => e = .returned (.int .u32 (Crc.back s.data.toList)) ∧ ∃ n, w' = w.drewN n := by
  have h0 : ∀ w, (Instr.index 9 (.string s) (.int .i64 0)).run Try.prog w = .ok (.int .u8 ((s[0]'(by omega)).toNat : Int)) w := run_index_at 9 Try.underlying9 s .i64 0 (by omega)
  have h1 : ∀ w, (Instr.index 9 (.string s) (.int .i64 1)).run Try.prog w = .ok (.int .u8 ((s[1]'(by omega)).toNat : Int)) w := run_index_at 9 Try.underlying9 s .i64 1 (by omega)
  have h2 : ∀ w, (Instr.index 9 (.string s) (.int .i64 2)).run Try.prog w = .ok (.int .u8 ((s[2]'(by omega)).toNat : Int)) w := run_index_at 9 Try.underlying9 s .i64 2 (by omega)
  have h3 : ∀ w, (Instr.index 9 (.string s) (.int .i64 3)).run Try.prog w = .ok (.int .u8 ((s[3]'(by omega)).toNat : Int)) w := run_index_at 9 Try.underlying9 s .i64 3 (by omega)
  go_enter Try.func51, Try.ntmps51
  go_wp2
  go_quiet (fail)
  go_wp2
  go_ret
  exact ⟨ret_int (by rw [or_four, back_bytes s hs]), ⟨_, rfl⟩⟩

set_option maxHeartbeats 400000 in
theorem back_any (s : ByteArray) (w : World) (hs : 4 ≤ s.size) :
    Calls Try.prog 55 #[.string s] w fun e w' => e = .returned (.int .u32 (Crc.back s.data.toList)) ∧ w = w' := by
  have h0 : ∀ w, (Instr.index 9 (.string s) (.int .i64 0)).run Try.prog w = .ok (.int .u8 ((s[0]'(by omega)).toNat : Int)) w := run_index_at 9 Try.underlying9 s .i64 0 (by omega)
  have h1 : ∀ w, (Instr.index 9 (.string s) (.int .i64 1)).run Try.prog w = .ok (.int .u8 ((s[1]'(by omega)).toNat : Int)) w := run_index_at 9 Try.underlying9 s .i64 1 (by omega)
  have h2 : ∀ w, (Instr.index 9 (.string s) (.int .i64 2)).run Try.prog w = .ok (.int .u8 ((s[2]'(by omega)).toNat : Int)) w := run_index_at 9 Try.underlying9 s .i64 2 (by omega)
  have h3 : ∀ w, (Instr.index 9 (.string s) (.int .i64 3)).run Try.prog w = .ok (.int .u8 ((s[3]'(by omega)).toNat : Int)) w := run_index_at 9 Try.underlying9 s .i64 3 (by omega)
  go_enter Try.func55, Try.ntmps55
  go_wp2
  go_rounds 5
  go_ret
  have := (s[0]'(by omega)).toNat_lt
  exact ⟨ret_int (by rw [or_none _ (by omega) (by omega), or_four, back_bytes s hs]), rfl⟩

set_option maxHeartbeats 400000 in
theorem reffour_any (n : Nat) (h : n < 4294967296) (w : World) :
    Calls Try.prog 45 #[.int .u32 n] w fun e w' => e = .returned (.string ⟨(Crc.four n).toArray⟩) ∧ Below w.heap.size w w' := by
  have kc := fun (w : World) => run_string_of_new (P := Try.prog) 63 9 5 Try.underlying63 Try.underlying5 Try.underlying9 w
    #[.int .u8 ((n : Int) % 256), .int .u8 ((n : Int) / 256 % 256), .int .u8 ((n : Int) / 65536 % 256), .int .u8 ((n : Int) / 16777216)] 5 (Crc.four n) 4 4
    (by simp [Crc.four]; omega) rfl
  go_enter Try.func45, Try.ntmps45
  go_wp2
  go_ret
  exact ⟨rfl, by go_grown⟩

set_option maxHeartbeats 400000 in
theorem four_any (n : Nat) (h : n < 4294967296) (w : World) :
    Calls Try.prog 52 #[.int .u32 n] w fun e w' => e = .returned (.string ⟨(Crc.four n).toArray⟩) ∧ Below w.heap.size w w' := by
  have kc := fun (w : World) => run_string_of_new (P := Try.prog) 63 9 5 Try.underlying63 Try.underlying5 Try.underlying9 w
    #[.int .u8 ((n : Int) % 256), .int .u8 ((n : Int) / 256 % 256), .int .u8 ((n : Int) / 65536 % 256), .int .u8 ((n : Int) / 16777216)] 5 (Crc.four n) 4 4
    (by simp [Crc.four]; omega) rfl
  have hmk : ∀ w, (Instr.makeSlice 63 (.int .i64 4) (.int .i64 4)).run Try.prog w = .ok (.slice (some ⟨w.heap.size, 0, none⟩) 4 4) (w.alloc (.cells #[.int .u8 0, .int .u8 0, .int .u8 0, .int .u8 0] 5)) := fun _ => by kernel_rfl
  go_enter Try.func52, Try.ntmps52
  go_wp2
  go_rounds 5
  go_ret
  exact ⟨rfl, by go_grown⟩

end Go.Proofs.Ytkdbehfmmmlmjaa.CrcW
