/-
  A disk that the power is cut of, as plain functions on lists of bytes: chapter 5. No program in sight.
-/
set_option linter.unusedVariables false
set_option linter.unusedSimpArgs false
namespace Go.Proofs.Ytkdbehfmmmlmjaa.Dsk

structure D where
  size : Nat
  safe : List UInt8
  waits : List UInt8
  swaps : Bool
deriving DecidableEq

def new (n : Int) : D := ⟨(min (max n 0) 1048576).toNat, [], [], false⟩
def free (d : D) : Int := (d.size : Int) - (d.waits.length : Int) - (if d.swaps then 0 else (d.safe.length : Int))
def canWrite (d : D) (s : List UInt8) : Bool := decide ((s.length : Int) ≤ free d)
def write (d : D) (s : List UInt8) : D := if canWrite d s then { d with waits := d.waits ++ s } else d
def writeErr (d : D) (s : List UInt8) : Int := if canWrite d s then 0 else 9
def replace (d : D) (s : List UInt8) : D := if d.size < s.length then d else { d with waits := s, swaps := true }
def replaceErr (d : D) (s : List UInt8) : Int := if d.size < s.length then 9 else 0
def keepN (d : D) (n : Int) : Nat := (min (max n 0) (d.waits.length : Int)).toNat
def crash (d : D) (n : Int) : D :=
  { d with safe := if d.swaps then (if keepN d n = d.waits.length then d.waits else d.safe) else d.safe ++ d.waits.take (keepN d n), waits := [], swaps := false }
def sync (d : D) : D := crash d d.waits.length

/-- As much as there is room for. -/
def Ok (d : D) : Prop := d.safe.length ≤ d.size ∧ d.waits.length ≤ d.size ∧ (d.swaps = false → d.safe.length + d.waits.length ≤ d.size)

theorem keepN_le (d : D) (n : Int) : keepN d n ≤ d.waits.length := by unfold keepN; omega
theorem new_ok (n : Int) : Ok (new n) := by unfold Ok new; simp
theorem write_ok (d : D) (s : List UInt8) (h : Ok d) : Ok (write d s) := by
  unfold write
  by_cases hc : canWrite d s = true
  · rw [if_pos hc]
    unfold canWrite free at hc
    unfold Ok at *
    simp only [decide_eq_true_eq] at hc
    simp only [List.length_append]
    cases hs : d.swaps <;> simp [hs] at h hc ⊢ <;> omega
  · rw [if_neg hc]; exact h
theorem replace_ok (d : D) (s : List UInt8) (h : Ok d) : Ok (replace d s) := by
  unfold replace
  split
  · exact h
  · unfold Ok at *; simp; omega
theorem crash_ok (d : D) (n : Int) (h : Ok d) : Ok (crash d n) := by
  have hk := keepN_le d n
  unfold Ok crash at *
  simp only [List.length_nil, Nat.add_zero, Nat.zero_le, true_and]
  have : (if d.swaps then (if keepN d n = d.waits.length then d.waits else d.safe) else d.safe ++ d.waits.take (keepN d n)).length ≤ d.size := by
    cases hs : d.swaps
    · have := h.2.2 hs
      simp only [Bool.false_eq_true, if_false, List.length_append, List.length_take]
      omega
    · simp only [if_true]
      split <;> omega
  exact ⟨this, fun _ => this⟩
theorem sync_ok (d : D) (h : Ok d) : Ok (sync d) := crash_ok d _ h
theorem free_nonneg (d : D) (h : Ok d) : 0 ≤ free d := by
  unfold free
  unfold Ok at h
  cases hs : d.swaps <;> simp [hs] at h ⊢ <;> omega

theorem write_size (d : D) (s : List UInt8) : (write d s).size = d.size := by unfold write; split <;> rfl
theorem replace_size (d : D) (s : List UInt8) : (replace d s).size = d.size := by unfold replace; split <;> rfl
theorem crash_size (d : D) (n : Int) : (crash d n).size = d.size := rfl
theorem sync_size (d : D) : (sync d).size = d.size := rfl

/-- A deed: 0 write, 1 sync, 2 replace, else crash. -/
def deed (d : D) (kind n : Int) (s : List UInt8) : D :=
  if kind = 0 then write d s else if kind = 1 then sync d else if kind = 2 then replace d s else crash d n
theorem deed_ok (d : D) (k n : Int) (s : List UInt8) (h : Ok d) : Ok (deed d k n s) := by
  unfold deed
  split
  · exact write_ok d s h
  · split
    · exact sync_ok d h
    · split
      · exact replace_ok d s h
      · exact crash_ok d n h
theorem deed_size (d : D) (k n : Int) (s : List UInt8) : (deed d k n s).size = d.size := by
  unfold deed
  split
  · exact write_size d s
  · split
    · rfl
    · split
      · exact replace_size d s
      · rfl
/-- Without a replacement what was safe stays, and none is begun. -/
theorem deed_safe (d : D) (k n : Int) (s : List UInt8) (h : d.swaps = false) (hk : k ≠ 2) : (deed d k n s).swaps = false ∧ d.safe <+: (deed d k n s).safe := by
  unfold deed
  split
  · unfold write; split
    · exact ⟨h, List.prefix_refl _⟩
    · exact ⟨h, List.prefix_refl _⟩
  · split
    · unfold sync crash; simp [h]
    · unfold crash; simp [h, hk]

/-- A replacement is there as a whole, or not at all. -/
theorem whole (s t : List UInt8) (n : Int) (hs : s.length ≤ 5000) (ht : t.length ≤ 5000) :
    let d1 := write (new 20000) s
    let d2 := sync d1
    let d3 := replace d2 t
    let d4 := crash d3 n
    writeErr (new 20000) s = 0 ∧ replaceErr d2 t = 0 ∧ d3.safe = s ∧ d4.waits = [] ∧
      ((t.length : Int) ≤ n ∧ d4.safe = t ∨ n < (t.length : Int) ∧ (d4.safe = s ∨ t = [] ∧ d4.safe = t)) := by
  have e0 : canWrite (new 20000) s = true := by unfold canWrite free new; simp; omega
  have e1 : write (new 20000) s = ⟨20000, [], s, false⟩ := by unfold write; rw [if_pos e0]; rfl
  have e2 : sync ⟨20000, [], s, false⟩ = ⟨20000, s, [], false⟩ := by
    have : keepN ⟨20000, [], s, false⟩ (s.length : Int) = s.length := by unfold keepN; simp
    unfold sync crash
    simp [this]
  have e3 : replace ⟨20000, s, [], false⟩ t = ⟨20000, s, t, true⟩ := by unfold replace; rw [if_neg (by simp; omega)]
  simp only [e1, e2, e3]
  refine ⟨by unfold writeErr; rw [if_pos e0], by unfold replaceErr; rw [if_neg (by simp; omega)], trivial, rfl, ?_⟩
  have hk : keepN ⟨20000, s, t, true⟩ n = (min (max n 0) (t.length : Int)).toNat := rfl
  unfold crash
  rw [hk]
  simp only [if_true]
  by_cases h : (t.length : Int) ≤ n
  · exact .inl ⟨h, by rw [if_pos (by omega)]⟩
  · refine .inr ⟨by omega, ?_⟩
    by_cases h0 : t.length = 0
    · right
      have : t = [] := List.eq_nil_of_length_eq_zero h0
      subst this
      refine ⟨rfl, ?_⟩
      rw [if_pos (by simp; omega)]
    · left
      rw [if_neg (by omega)]

end Go.Proofs.Ytkdbehfmmmlmjaa.Dsk
