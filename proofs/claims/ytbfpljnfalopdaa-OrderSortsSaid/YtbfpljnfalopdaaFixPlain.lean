/-
  Numbers with 32 bits behind the point, as plain functions on natural numbers: sum, difference, product, quotient, all cut at the greatest; the laws of chapter 1. No program in sight.
-/
set_option linter.unusedVariables false
set_option linter.unusedSimpArgs false
namespace Go.Proofs.Ytbfpljnfalopdaa.Fix

/-- The greatest; one. -/
def top : Nat := 18446744073709551615
def one : Nat := 4294967296

def add (a b : Nat) : Nat := if a + b ≤ top then a + b else top
def sub (a b : Nat) : Nat := a - b
def cut (n : Nat) : Nat := if n ≤ top then n else top
def mul (a b : Nat) : Nat := cut (a * b / one)
def quo (a b : Nat) : Nat := if a = 0 then 0 else if b = 0 then top else cut (a * one / b)
/-- A whole number. -/
def ofInt (n : Int) : Nat := if n ≤ 0 then 0 else if (one : Int) ≤ n then top else n.toNat * one
/-- The ratio of two whole numbers. -/
def ratio (a b : Int) : Nat := quo a.toNat b.toNat
def cmp (a b : Nat) : Int := if a < b then -1 else if b < a then 1 else 0

theorem add_lt (a b : Nat) : add a b ≤ top := by unfold add; split <;> omega
theorem cut_lt (n : Nat) : cut n ≤ top := by unfold cut; split <;> omega
theorem mul_lt (a b : Nat) : mul a b ≤ top := cut_lt _
theorem quo_lt (a b : Nat) : quo a b ≤ top := by
  unfold quo
  split
  · omega
  · split
    · omega
    · exact cut_lt _
theorem ofInt_lt (n : Int) : ofInt n ≤ top := by
  unfold ofInt
  split
  · exact Nat.zero_le _
  · split
    · exact Nat.le_refl _
    · simp only [one, top] at *; omega

theorem cut_mono {a b : Nat} (h : a ≤ b) : cut a ≤ cut b := by unfold cut; split <;> split <;> omega
theorem cut_small {n : Nat} (h : n ≤ top) : cut n = n := if_pos h
theorem cut_big {n : Nat} (h : top < n) : cut n = top := if_neg (by omega)

/-! ### chapter 1's laws -/
theorem mul_one (a : Nat) (h : a ≤ top) : mul a one = a := by
  unfold mul
  rw [Nat.mul_div_cancel _ (by decide : 0 < one)]
  exact cut_small h
theorem mul_comm (a b : Nat) : mul a b = mul b a := by unfold mul; rw [Nat.mul_comm]
theorem one_mul (a : Nat) (h : a ≤ top) : mul one a = a := by rw [mul_comm]; exact mul_one a h
theorem add_comm (a b : Nat) : add a b = add b a := by unfold add; rw [Nat.add_comm]
theorem quo_one (a : Nat) (h : a ≤ top) : quo a one = a := by
  unfold quo
  split
  · omega
  · rw [if_neg (by decide), Nat.mul_div_cancel _ (by decide : 0 < one)]
    exact cut_small h

theorem add_mono {a b : Nat} (c : Nat) (h : a ≤ b) : add a c ≤ add b c := by unfold add; split <;> split <;> omega
theorem sub_mono {a b : Nat} (c : Nat) (h : a ≤ b) : sub a c ≤ sub b c := by unfold sub; omega
theorem mul_mono {a b : Nat} (c : Nat) (h : a ≤ b) : mul a c ≤ mul b c := cut_mono (Nat.div_le_div_right (Nat.mul_le_mul_right c h))
theorem quo_mono {a b : Nat} (c : Nat) (h : a ≤ b) : quo a c ≤ quo b c := by
  unfold quo
  by_cases ha : a = 0
  · rw [if_pos ha]; exact Nat.zero_le _
  · have hb : ¬ b = 0 := by omega
    rw [if_neg ha, if_neg hb]
    by_cases hc : c = 0
    · rw [if_pos hc, if_pos hc]; exact Nat.le_refl _
    · rw [if_neg hc, if_neg hc]
      exact cut_mono (Nat.div_le_div_right (Nat.mul_le_mul_right _ h))
theorem mul_mono' {a b : Nat} (c : Nat) (h : a ≤ b) : mul c a ≤ mul c b := by rw [mul_comm c a, mul_comm c b]; exact mul_mono c h

theorem floor_ofInt (n : Int) (h0 : 0 ≤ n) (h1 : n < 4294967296) : ((ofInt n / one : Nat) : Int) = n := by
  unfold ofInt
  split
  · simp; omega
  · rw [if_neg (by simp only [one]; omega), Nat.mul_div_cancel _ (by decide : 0 < one)]
    omega

/-! ### the product in parts, as the document has it -/
def partsMul (a b : Nat) : Nat :=
  let ah := a / one; let al := a % one; let bh := b / one; let bl := b % one
  if 0 < ah ∧ 0 < bh ∧ top / bh / one < ah then top
  else if one ≤ ah * bh then top
  else if add (add (ah * bh * one) (ah * bl)) (al * bh) = top then top
  else add (add (add (ah * bh * one) (ah * bl)) (al * bh)) (al * bl / one)

theorem mul_parts (a b : Nat) : a * b / one = a / one * (b / one) * one + a / one * (b % one) + a % one * (b / one) + a % one * (b % one) / one := by
  have ha := Nat.div_add_mod a one
  have hb := Nat.div_add_mod b one
  generalize a / one = ah at *
  generalize a % one = al at *
  generalize b / one = bh at *
  generalize b % one = bl at *
  subst ha hb
  have : (one * ah + al) * (one * bh + bl) = (ah * bh * one + ah * bl + al * bh) * one + al * bl := by
    simp only [Nat.add_mul, Nat.mul_add]
    ac_rfl
  rw [this, Nat.add_comm, Nat.add_mul_div_right _ _ (by decide : 0 < one), Nat.add_comm]

theorem partsMul_eq (a b : Nat) : partsMul a b = mul a b := by
  unfold partsMul mul
  rw [mul_parts]
  dsimp only
  generalize a / one = ah at *
  generalize a % one = al at *
  generalize b / one = bh at *
  generalize b % one = bl at *
  by_cases h1 : 0 < ah ∧ 0 < bh ∧ top / bh / one < ah
  · rw [if_pos h1]
    have : top < ah * bh * one := by
      obtain ⟨_, hb, h⟩ := h1
      rw [Nat.div_div_eq_div_mul] at h
      have := (Nat.div_lt_iff_lt_mul (Nat.mul_pos hb (by decide : 0 < one))).1 h
      rwa [← Nat.mul_assoc] at this
    rw [cut_big (Nat.lt_of_lt_of_le this (by simp only [Nat.add_assoc]; exact Nat.le_add_right _ _))]
  · rw [if_neg h1]
    by_cases h2 : one ≤ ah * bh
    · rw [if_pos h2]
      have : one * one ≤ ah * bh * one := Nat.mul_le_mul_right _ h2
      have h3 : top < one * one := by decide
      rw [cut_big (Nat.lt_of_lt_of_le (Nat.lt_of_lt_of_le h3 this) (by simp only [Nat.add_assoc]; exact Nat.le_add_right _ _))]
    · rw [if_neg h2]
      generalize ah * bh * one = x
      generalize ah * bl = y
      generalize al * bh = z
      generalize al * bl / one = u
      have key : ∀ p q : Nat, add (cut p) q = cut (p + q) := by
        intro p q
        unfold add cut
        repeat' split
        all_goals omega
      have hx : add x y = cut (x + y) := rfl
      rw [hx, key, key]
      split
      · rename_i h
        unfold cut at h ⊢
        split at h
        · split <;> omega
        · split <;> omega
      · rfl

/-! ### the quotient bit by bit, as the document has it -/
/-- What has been read of a number of 96 bits behind k rounds. -/
def pre (a k : Nat) : Nat := a * one / 2 ^ (96 - k)

theorem pre_zero (a : Nat) (h : a ≤ top) : pre a 0 = 0 := by
  unfold pre
  apply Nat.div_eq_of_lt
  have : a * one < 2 ^ 96 := by
    have : a * one ≤ top * one := Nat.mul_le_mul_right _ h
    have : top * one < 2 ^ 96 := by decide
    omega
  simpa using this
theorem pre_end (a : Nat) : pre a 96 = a * one := by simp [pre]
theorem pre_succ (a k : Nat) (h : k < 96) : pre a (k + 1) = 2 * pre a k + pre a (k + 1) % 2 := by
  have e : pre a k = pre a (k + 1) / 2 := by
    unfold pre
    rw [Nat.div_div_eq_div_mul, show (2 : Nat) ^ (96 - (k + 1)) * 2 = 2 ^ (96 - k) by rw [← Nat.pow_succ]; congr 1; omega]
  rw [e]; omega
/-- The bit that a round reads. -/
theorem pre_bit (a k : Nat) (h : k < 64) : pre a (k + 1) % 2 = a / 2 ^ (63 - k) % 2 := by
  unfold pre
  rw [show (2 : Nat) ^ (96 - (k + 1)) = 2 ^ (63 - k) * one by rw [show one = 2 ^ 32 from rfl, ← Nat.pow_add]; congr 1; omega, Nat.mul_div_mul_right _ _ (by decide : 0 < one)]
theorem pre_low (a k : Nat) (h : 64 ≤ k) (hk : k < 96) : pre a (k + 1) % 2 = 0 := by
  unfold pre
  have e : a * one = a * 2 ^ (k - 64 + 1) * 2 ^ (96 - (k + 1)) := by
    rw [Nat.mul_assoc, ← Nat.pow_add, show one = 2 ^ 32 from rfl]; congr 2; omega
  rw [e, Nat.mul_div_cancel _ (Nat.two_pow_pos _), Nat.pow_succ, ← Nat.mul_assoc]
  omega

theorem pre_le (a k : Nat) (h : k ≤ 96) : pre a k ≤ a * one := Nat.div_le_self _ _

/-- One round of the division: the next quotient and the next rest. -/
theorem div_step (x b t : Nat) (hb : 0 < b) (ht : t < 2) :
    (2 * x + t) / b = 2 * (x / b) + (if b ≤ 2 * (x % b) + t then 1 else 0) ∧ (2 * x + t) % b = (if b ≤ 2 * (x % b) + t then 2 * (x % b) + t - b else 2 * (x % b) + t) := by
  have hd := Nat.div_add_mod x b
  have hl := Nat.mod_lt x hb
  generalize x / b = q at *
  generalize x % b = r at *
  have e : 2 * x + t = b * (2 * q) + (2 * r + t) := by rw [← hd]; simp only [Nat.mul_add]; rw [Nat.mul_left_comm]; omega
  rw [e, Nat.mul_add_div hb, Nat.mul_add_mod]
  by_cases h : b ≤ 2 * r + t
  · rw [if_pos h, if_pos h]
    have e2 : 2 * r + t = b * 1 + (2 * r + t - b) := by omega
    constructor
    · rw [e2, Nat.mul_add_div hb, Nat.div_eq_of_lt (by omega)]
    · conv => lhs; rw [e2]
      rw [Nat.mul_add_mod, Nat.mod_eq_of_lt (by omega)]
  · rw [if_neg h, if_neg h]
    exact ⟨by rw [Nat.div_eq_of_lt (by omega)], Nat.mod_eq_of_lt (by omega)⟩

/-- Once the quotient so far has its highest bit, it is beyond the greatest. -/
theorem over_big (a b k : Nat) (hk : k < 96) (h : 9223372036854775808 ≤ pre a k / b) : cut (a * one / b) = top := by
  apply cut_big
  have hb : 0 < b := by
    rcases Nat.eq_zero_or_pos b with h0 | h0
    · rw [h0, Nat.div_zero] at h; omega
    · exact h0
  have h1 : 2 * pre a k ≤ pre a (k + 1) := by rw [pre_succ a k hk]; omega
  have h2 : pre a (k + 1) ≤ a * one := pre_le _ _ (by omega)
  have h3 : 2 * (pre a k / b) ≤ 2 * pre a k / b := by
    rw [Nat.le_div_iff_mul_le hb]
    have := Nat.div_mul_le_self (pre a k) b
    rw [Nat.mul_assoc]; omega
  have h4 : 2 * pre a k / b ≤ a * one / b := Nat.div_le_div_right (by omega)
  have : top < 2 * 9223372036854775808 := by decide
  omega

end Go.Proofs.Ytbfpljnfalopdaa.Fix
