/-
  CRC-32C and frames of bytes, as plain functions on lists of bytes: what a turned byte does to a sum; what reading a frame gives. No program in sight.
-/
set_option linter.unusedVariables false
set_option linter.unusedSimpArgs false
namespace Go.Proofs.Ytkdbehfmmmlmjaa.Crc

def poly : Nat := 2197175160

/-- One turn. -/
def bit (x : Nat) : Nat := if x % 2 = 1 then (x / 2) ^^^ poly else x / 2

/-- n turns. -/
def turns : Nat → Nat → Nat
  | 0, x => x
  | n + 1, x => turns n (bit x)

/-- All bytes, one behind the other. -/
def all : List UInt8 → Nat → Nat
  | [], x => x
  | b :: r, x => all r (turns 8 (x ^^^ b.toNat))

def sum (l : List UInt8) : Nat := (all l 4294967295) ^^^ 4294967295

theorem bit_lt (x : Nat) (h : x < 4294967296) : bit x < 4294967296 := by
  unfold bit
  split
  · exact Nat.xor_lt_two_pow (n := 32) (by omega) (by decide)
  · omega

theorem turns_lt : ∀ (n x : Nat), x < 4294967296 → turns n x < 4294967296
  | 0, _, h => h
  | n + 1, _, h => turns_lt n _ (bit_lt _ h)

theorem turns_succ : ∀ (n x : Nat), turns (n + 1) x = bit (turns n x)
  | 0, _ => rfl
  | n + 1, x => turns_succ n (bit x)

theorem xor_byte_lt (x : Nat) (b : UInt8) (h : x < 4294967296) : x ^^^ b.toNat < 4294967296 :=
  Nat.xor_lt_two_pow (n := 32) h (by have := b.toNat_lt; omega)

theorem all_lt : ∀ (l : List UInt8) (x : Nat), x < 4294967296 → all l x < 4294967296
  | [], _, h => h
  | b :: r, _, h => all_lt r _ (turns_lt 8 _ (xor_byte_lt _ b h))

theorem sum_lt (l : List UInt8) : sum l < 4294967296 :=
  Nat.xor_lt_two_pow (n := 32) (all_lt l _ (by decide)) (by decide)

theorem xor_cancel {a b c : Nat} (h : a ^^^ c = b ^^^ c) : a = b := by
  have := congrArg (· ^^^ c) h
  simpa [Nat.xor_assoc] using this

theorem xor_cancel_left {a b c : Nat} (h : c ^^^ a = c ^^^ b) : a = b := by
  rw [Nat.xor_comm c a, Nat.xor_comm c b] at h; exact xor_cancel h

/-- The highest bit of a turn tells whether the lowest bit was set: a turn loses nothing. -/
theorem bit_high (x : Nat) (h : x < 4294967296) : (bit x).testBit 31 = decide (x % 2 = 1) := by
  have hd : (x / 2).testBit 31 = false := Nat.testBit_lt_two_pow (by omega)
  unfold bit
  split
  · rename_i h1
    rw [Nat.testBit_xor, hd]
    simp only [h1, decide_true]
    decide
  · rename_i h1
    rw [hd]; simp [h1]

theorem bit_inj (x y : Nat) (hx : x < 4294967296) (hy : y < 4294967296) (h : bit x = bit y) : x = y := by
  have h1 := bit_high x hx
  rw [h, bit_high y hy] at h1
  have e : (y % 2 = 1) ↔ (x % 2 = 1) := by
    by_cases a : x % 2 = 1 <;> by_cases b : y % 2 = 1 <;> simp_all
  unfold bit at h
  by_cases a : x % 2 = 1
  · have b := e.2 a
    rw [if_pos a, if_pos b] at h
    have := xor_cancel h
    omega
  · have b : ¬ y % 2 = 1 := fun b => a (e.1 b)
    rw [if_neg a, if_neg b] at h
    omega

theorem turns_inj : ∀ (n x y : Nat), x < 4294967296 → y < 4294967296 → turns n x = turns n y → x = y
  | 0, _, _, _, _, h => h
  | n + 1, x, y, hx, hy, h => bit_inj x y hx hy (turns_inj n _ _ (bit_lt _ hx) (bit_lt _ hy) h)

theorem all_inj : ∀ (l : List UInt8) (x y : Nat), x < 4294967296 → y < 4294967296 → all l x = all l y → x = y
  | [], _, _, _, _, h => h
  | b :: r, x, y, hx, hy, h =>
    xor_cancel (turns_inj 8 _ _ (xor_byte_lt _ b hx) (xor_byte_lt _ b hy) (all_inj r _ _ (turns_lt 8 _ (xor_byte_lt _ b hx)) (turns_lt 8 _ (xor_byte_lt _ b hy)) h))

theorem all_append : ∀ (l r : List UInt8) (x : Nat), all (l ++ r) x = all r (all l x)
  | [], _, _ => rfl
  | _ :: l, r, _ => all_append l r _

/-- Of two texts that differ in one byte alone the sums differ. -/
theorem sum_turned (l r : List UInt8) (a b : UInt8) (h : a ≠ b) : sum (l ++ a :: r) ≠ sum (l ++ b :: r) := by
  intro e
  have e1 := xor_cancel e
  rw [all_append, all_append] at e1
  have hl : all l 4294967295 < 4294967296 := all_lt l _ (by decide)
  have e2 := all_inj r _ _ (turns_lt 8 _ (xor_byte_lt _ a hl)) (turns_lt 8 _ (xor_byte_lt _ b hl)) e1
  have e3 := turns_inj 8 _ _ (xor_byte_lt _ a hl) (xor_byte_lt _ b hl) e2
  exact h (UInt8.toNat_inj.1 (xor_cancel_left e3))

/-! ### four bytes -/
def four (n : Nat) : List UInt8 := [UInt8.ofNat n, UInt8.ofNat (n / 256), UInt8.ofNat (n / 65536), UInt8.ofNat (n / 16777216)]
def back : List UInt8 → Nat
  | a :: b :: c :: d :: _ => a.toNat + b.toNat * 256 + c.toNat * 65536 + d.toNat * 16777216
  | _ => 0

theorem four_length (n : Nat) : (four n).length = 4 := rfl
theorem back_lt (l : List UInt8) : back l < 4294967296 := by
  unfold back
  split
  · rename_i a b c d _
    have := a.toNat_lt; have := b.toNat_lt; have := c.toNat_lt; have := d.toNat_lt
    omega
  · omega

theorem back_four (n : Nat) (h : n < 4294967296) (r : List UInt8) : back (four n ++ r) = n := by
  simp only [four, back, List.cons_append, List.nil_append, UInt8.toNat_ofNat']
  omega

/-! ### frames -/
def frame (l : List UInt8) : List UInt8 := if l.length > 16384 then [] else four l.length ++ (four (sum l) ++ l)

/-- What stands at a text's beginning: the text, how many bytes its frame has, 0; or nothing, and the error's number. -/
def read (s : List UInt8) : List UInt8 × Nat × Nat :=
  if s.length < 8 then ([], 0, 10)
  else if back s > 16384 then ([], 0, 8)
  else if back s > s.length - 8 then ([], 0, 10)
  else if sum ((s.drop 8).take (back s)) ≠ back (s.drop 4) then ([], 0, 11)
  else ((s.drop 8).take (back s), back s + 8, 0)

theorem frame_length (l : List UInt8) (h : l.length ≤ 16384) : (frame l).length = l.length + 8 := by
  unfold frame
  rw [if_neg (by omega)]
  simp [four_length]; omega

theorem frame_eq (l : List UInt8) (h : l.length ≤ 16384) : frame l = four l.length ++ (four (sum l) ++ l) := if_neg (by omega)

theorem read_frame (l t : List UInt8) (h : l.length ≤ 16384) : read (frame l ++ t) = (l, l.length + 8, 0) := by
  have hb : back (frame l ++ t) = l.length := by rw [frame_eq l h, List.append_assoc]; exact back_four _ (by omega) _
  have h4 : (frame l ++ t).drop 4 = four (sum l) ++ (l ++ t) := by rw [frame_eq l h]; simp [four]
  have h8 : (frame l ++ t).drop 8 = l ++ t := by rw [frame_eq l h]; simp [four]
  have hs : back ((frame l ++ t).drop 4) = sum l := by rw [h4]; exact back_four _ (sum_lt l) _
  have hl : (frame l ++ t).length = l.length + 8 + t.length := by rw [List.length_append, frame_length l h]
  unfold read
  rw [if_neg (by omega), hb, if_neg (by omega), if_neg (by omega), h8, hs, List.take_left' rfl, if_neg (by simp)]

/-- A frame that is cut is not read. -/
theorem read_short (l : List UInt8) (k : Nat) (h : l.length ≤ 16384) (hk : k < l.length + 8) : read ((frame l).take k) = ([], 0, 10) := by
  have hlen : ((frame l).take k).length = k := by rw [List.length_take, frame_length l h]; omega
  unfold read
  by_cases h8 : k < 8
  · rw [if_pos (by omega)]
  · rw [if_neg (by omega)]
    have hb : back ((frame l).take k) = l.length := by
      rw [frame_eq l h]
      have : (four l.length ++ (four (sum l) ++ l)).take k = four l.length ++ (four (sum l) ++ l).take (k - 4) := by
        rw [List.take_append, four_length, List.take_of_length_le (by rw [four_length]; omega)]
      rw [this]; exact back_four _ (by omega) _
    rw [hb, if_neg (by omega), if_pos (by omega)]

theorem set_append_right' (l r : List UInt8) (i : Nat) (b : UInt8) (h : l.length ≤ i) : (l ++ r).set i b = l ++ r.set (i - l.length) b := by
  rw [List.set_append, if_neg (by omega)]

theorem back_set (n : Nat) (hn : n < 4294967296) (i : Nat) (hi : i < 4) (b : UInt8) (r : List UInt8) (hb : (four n)[i]? ≠ some b) : back ((four n).set i b ++ r) ≠ n := by
  intro e
  have h0 := b.toNat_lt
  obtain rfl | rfl | rfl | rfl : i = 0 ∨ i = 1 ∨ i = 2 ∨ i = 3 := by omega
  all_goals
    apply hb
    simp only [four, List.set, back, List.cons_append, List.nil_append, UInt8.toNat_ofNat'] at e ⊢
    simp only [List.getElem?_cons_zero, List.getElem?_cons_succ, Option.some.injEq]
    apply UInt8.toNat_inj.1
    simp only [UInt8.toNat_ofNat']
    omega

/-- A frame of which one byte behind the length is turned is not read. -/
theorem read_turned (l : List UInt8) (at_ : Nat) (b : UInt8) (h : l.length ≤ 16384) (h4 : 4 ≤ at_) (ha : at_ < l.length + 8) (hne : (frame l)[at_]? ≠ some b) :
    read ((frame l).set at_ b) = ([], 0, 11) := by
  have hf := frame_eq l h
  have hlen : ((frame l).set at_ b).length = l.length + 8 := by rw [List.length_set, frame_length l h]
  have e4 : (frame l).set at_ b = four l.length ++ (four (sum l) ++ l).set (at_ - 4) b := by
    rw [hf, set_append_right' _ _ _ _ (by rw [four_length]; omega), four_length]
  have hb : back ((frame l).set at_ b) = l.length := by rw [e4]; exact back_four _ (by omega) _
  have d4 : ((frame l).set at_ b).drop 4 = (four (sum l) ++ l).set (at_ - 4) b := by rw [e4, List.drop_left' (four_length _)]
  have key : sum ((((frame l).set at_ b).drop 8).take l.length) ≠ back (((frame l).set at_ b).drop 4) := by
    rw [show (8 : Nat) = 4 + 4 from rfl, ← List.drop_drop, d4]
    by_cases h8 : at_ < 8
    · rw [List.set_append, if_pos (by rw [four_length]; omega)]
      rw [List.drop_left' (by simp [four_length]), List.take_of_length_le (Nat.le_refl _)]
      intro e
      refine back_set (sum l) (sum_lt l) (at_ - 4) (by omega) b l ?_ e.symm
      rw [hf] at hne
      rw [List.getElem?_append_right (by rw [four_length]; omega), List.getElem?_append_left (by simp [four_length]; omega), four_length] at hne
      exact hne
    · rw [set_append_right' _ _ _ _ (by rw [four_length]; omega), List.drop_left' (four_length _), back_four _ (sum_lt l), four_length]
      rw [List.take_of_length_le (by simp)]
      have hi : at_ - 4 - 4 < l.length := by omega
      have hne' : l[at_ - 4 - 4]? ≠ some b := by
        rw [hf] at hne
        rw [List.getElem?_append_right (by rw [four_length]; omega), List.getElem?_append_right (by simp [four_length]; omega), four_length, four_length] at hne
        exact hne
      generalize at_ - 4 - 4 = i at hi hne'
      have hl : l = l.take i ++ l[i] :: l.drop (i + 1) := by rw [List.getElem_cons_drop, List.take_append_drop]
      have hl' : l.set i b = l.take i ++ b :: l.drop (i + 1) := List.set_eq_take_append_cons_drop.trans (if_pos hi)
      rw [hl']
      conv => rhs; rw [hl]
      apply sum_turned
      intro e
      apply hne'
      rw [List.getElem?_eq_getElem hi, e]
  unfold read
  rw [if_neg (by omega), hb, if_neg (by omega), if_neg (by omega), if_pos key]

end Go.Proofs.Ytkdbehfmmmlmjaa.Crc
