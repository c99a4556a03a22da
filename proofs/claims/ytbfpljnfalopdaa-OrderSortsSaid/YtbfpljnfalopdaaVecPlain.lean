/-
  Amounts of three resources, as plain functions on triples of whole numbers: chapter 3's laws. No program in sight.
-/
import Derived.Test.YtbfpljnfalopdaaFixPlain
set_option linter.unusedVariables false
set_option linter.unusedSimpArgs false
namespace Go.Proofs.Ytbfpljnfalopdaa.Vec

/-- An amount. -/
structure V where
  x : Int
  y : Int
  z : Int

theorem V.ext' {a b : V} (h1 : a.x = b.x) (h2 : a.y = b.y) (h3 : a.z = b.z) : a = b := by
  cases a; cases b; simp_all

def cut (n m : Int) : Int := min (max n (-m)) m
def add1 (x y : Int) : Int := cut (cut x 1099511627776 + cut y 1099511627776) 1099511627776
def sub1 (x y : Int) : Int := cut (cut x 1099511627776 - cut y 1099511627776) 1099511627776
def mul1 (x n : Int) : Int := cut (cut x 1099511627776 * cut n 1048576) 1099511627776
def min1 (x y : Int) : Int := min x y
def ok1 (x : Int) : Bool := decide (0 ≤ x) && decide (x ≤ 1048576)

def zero : V := ⟨0, 0, 0⟩
def add (a b : V) : V := ⟨add1 a.x b.x, add1 a.y b.y, add1 a.z b.z⟩
def sub (a b : V) : V := ⟨sub1 a.x b.x, sub1 a.y b.y, sub1 a.z b.z⟩
def times (a : V) (n : Int) : V := ⟨mul1 a.x n, mul1 a.y n, mul1 a.z n⟩
def least (a b : V) : V := ⟨min1 a.x b.x, min1 a.y b.y, min1 a.z b.z⟩
def valid (a : V) : Bool := ok1 a.x && (ok1 a.y && ok1 a.z)
def fits (a b : V) : Bool := decide (a.x ≤ b.x) && (decide (a.y ≤ b.y) && decide (a.z ≤ b.z))

/-- The greatest share so far. -/
def dom1 (m : Nat) (u k : Int) : Nat := if 0 < u then max m (Fix.ratio u k) else m
def dom (u a : V) : Nat := dom1 (dom1 (dom1 0 u.x a.x) u.y a.y) u.z a.z

theorem cut_lo (n m : Int) (h : 0 ≤ m) : -m ≤ cut n m := by unfold cut; omega
theorem cut_hi (n m : Int) (h : 0 ≤ m) : cut n m ≤ m := by unfold cut; omega
theorem cut_in (n m : Int) (h0 : -m ≤ n) (h1 : n ≤ m) : cut n m = n := by unfold cut; omega
theorem cut_other (n m : Int) (h : 0 ≤ m) : max (-m) (min n m) = cut n m := by unfold cut; omega

theorem ok1_iff (x : Int) : ok1 x = true ↔ 0 ≤ x ∧ x ≤ 1048576 := by unfold ok1; simp
theorem valid_iff (a : V) : valid a = true ↔ (0 ≤ a.x ∧ a.x ≤ 1048576) ∧ (0 ≤ a.y ∧ a.y ≤ 1048576) ∧ (0 ≤ a.z ∧ a.z ≤ 1048576) := by
  unfold valid; simp only [Bool.and_eq_true, ok1_iff]
theorem fits_iff (a b : V) : fits a b = true ↔ a.x ≤ b.x ∧ a.y ≤ b.y ∧ a.z ≤ b.z := by
  unfold fits; simp only [Bool.and_eq_true, decide_eq_true_eq]

theorem add1_in (x y : Int) (hx : 0 ≤ x) (hx' : x ≤ 274877906944) (hy : 0 ≤ y) (hy' : y ≤ 274877906944) : add1 x y = x + y := by
  unfold add1
  rw [cut_in x _ (by omega) (by omega), cut_in y _ (by omega) (by omega), cut_in _ _ (by omega) (by omega)]
theorem sub1_in (x y : Int) (hx : 0 ≤ x) (hx' : x ≤ 549755813888) (hy : 0 ≤ y) (hy' : y ≤ 549755813888) : sub1 x y = x - y := by
  unfold sub1
  rw [cut_in x _ (by omega) (by omega), cut_in y _ (by omega) (by omega), cut_in _ _ (by omega) (by omega)]
theorem mul1_two (x : Int) (hx : 0 ≤ x) (hx' : x ≤ 1048576) : mul1 x 2 = x + x := by
  unfold mul1
  rw [cut_in x _ (by omega) (by omega), cut_in 2 _ (by omega) (by omega), cut_in _ _ (by omega) (by omega)]
  omega

/-! ### chapter 3's laws -/
theorem back (a b : V) (ha : valid a = true) (hb : valid b = true) :
    sub (add a b) b = a ∧ times a 2 = add a a ∧ fits a (add a b) = true ∧ fits (least a b) a = true ∧ fits (least a b) b = true := by
  rw [valid_iff] at ha hb
  have e1 := add1_in a.x b.x (by omega) (by omega) (by omega) (by omega)
  have e2 := add1_in a.y b.y (by omega) (by omega) (by omega) (by omega)
  have e3 := add1_in a.z b.z (by omega) (by omega) (by omega) (by omega)
  refine ⟨?_, ?_, ?_, ?_, ?_⟩
  · apply V.ext' <;> simp only [sub, add]
    · rw [e1, sub1_in _ _ (by omega) (by omega) (by omega) (by omega)]; omega
    · rw [e2, sub1_in _ _ (by omega) (by omega) (by omega) (by omega)]; omega
    · rw [e3, sub1_in _ _ (by omega) (by omega) (by omega) (by omega)]; omega
  · apply V.ext' <;> simp only [times, add]
    · rw [mul1_two _ (by omega) (by omega), add1_in _ _ (by omega) (by omega) (by omega) (by omega)]
    · rw [mul1_two _ (by omega) (by omega), add1_in _ _ (by omega) (by omega) (by omega) (by omega)]
    · rw [mul1_two _ (by omega) (by omega), add1_in _ _ (by omega) (by omega) (by omega) (by omega)]
  · rw [fits_iff]; simp only [add]; rw [e1, e2, e3]; omega
  · rw [fits_iff]; simp only [least, min1]; omega
  · rw [fits_iff]; simp only [least, min1]; omega

theorem fits_trans (a b c : V) (h1 : fits a b = true) (h2 : fits b c = true) : fits a c = true := by
  rw [fits_iff] at *; omega

theorem ratio_mono {a b : Int} (c : Int) (h : a ≤ b) : Fix.ratio a c ≤ Fix.ratio b c := by
  unfold Fix.ratio; exact Fix.quo_mono _ (by omega)

theorem dom1_mono {m n : Nat} {u v : Int} (k : Int) (h : m ≤ n) (hu : u ≤ v) : dom1 m u k ≤ dom1 n v k := by
  unfold dom1
  by_cases h1 : 0 < u
  · rw [if_pos h1, if_pos (by omega)]
    have := ratio_mono k hu
    omega
  · rw [if_neg h1]
    split <;> omega

theorem dom_mono (a b c : V) (h : fits a b = true) : dom a c ≤ dom b c := by
  rw [fits_iff] at h
  exact dom1_mono _ (dom1_mono _ (dom1_mono _ (Nat.le_refl _) h.1) h.2.1) h.2.2

theorem dom1_lt (m : Nat) (u k : Int) (h : m ≤ Fix.top) : dom1 m u k ≤ Fix.top := by
  unfold dom1
  split
  · have : Fix.ratio u k ≤ Fix.top := Fix.quo_lt _ _
    omega
  · exact h
theorem dom_lt (u a : V) : dom u a ≤ Fix.top := dom1_lt _ _ _ (dom1_lt _ _ _ (dom1_lt _ _ _ (Nat.zero_le _)))

end Go.Proofs.Ytbfpljnfalopdaa.Vec
