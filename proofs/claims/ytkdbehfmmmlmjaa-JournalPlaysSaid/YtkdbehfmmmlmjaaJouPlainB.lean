/-
  A journal on a disk on which nothing waits, as plain functions: chapter 6. No program in sight.
-/
import Derived.Test.YtkdbehfmmmlmjaaJouPlain
set_option linter.unusedVariables false
set_option linter.unusedSimpArgs false
namespace Go.Proofs.Ytkdbehfmmmlmjaa.Jou
open Go.Proofs.Ytkdbehfmmmlmjaa

/-- A disk of size m that holds l, all of it safe. -/
def clean (m : Nat) (l : List UInt8) : Dsk.D := ⟨m, l, [], false⟩
theorem new_clean (n : Int) : Dsk.new n = clean (Dsk.new n).size [] := rfl
theorem clean_can (m : Nat) (l f : List UInt8) : Dsk.canWrite (clean m l) f = decide (l.length + f.length ≤ m) := by
  unfold Dsk.canWrite Dsk.free clean
  refine decide_eq_decide.2 ?_
  simp
  omega
theorem sync_write (m : Nat) (l f : List UInt8) (h : l.length + f.length ≤ m) : Dsk.sync (Dsk.write (clean m l) f) = clean m (l ++ f) := by
  have e : Dsk.canWrite (clean m l) f = true := by rw [clean_can]; simpa using h
  unfold Dsk.write
  rw [if_pos e]
  simp [Dsk.sync, Dsk.crash, Dsk.keepN, clean]
theorem sync_replace (m : Nat) (l f : List UInt8) (h : f.length ≤ m) : Dsk.sync (Dsk.replace (clean m l) f) = clean m f := by
  unfold Dsk.replace
  rw [if_neg (by unfold clean; simp; omega)]
  simp [Dsk.sync, Dsk.crash, Dsk.keepN, clean]
theorem clean_ok {m : Nat} {l : List UInt8} (h : Dsk.Ok (clean m l)) : l.length ≤ m := h.1

/-- What a journal that is opened makes of the bytes. -/
def opened (l : List UInt8) : List UInt8 := l.take (scan l).2
theorem opened_whole (l : List UInt8) (h : ¬ (scan l).2 < l.length) : opened l = l := List.take_of_length_le (by omega)

/-- One more record: the error; the bytes behind it. -/
def appErr (m : Nat) (l s : List UInt8) : Int := if 16384 < s.length then 8 else if l.length + (Crc.frame s).length ≤ m then 0 else 9
def appTo (m : Nat) (l s : List UInt8) : List UInt8 := if appErr m l s = 0 then l ++ Crc.frame s else l
def appN (m : Nat) (l s : List UInt8) (n : Nat) : Nat := if appErr m l s = 0 then n + 1 else n
theorem app_big (m : Nat) (l s : List UInt8) (n : Nat) (h : 16384 < s.length) : appErr m l s = 8 ∧ appTo m l s = l ∧ appN m l s n = n := by
  unfold appTo appN appErr; simp [h]
theorem app_full (m : Nat) (l s : List UInt8) (n : Nat) (h : ¬ 16384 < s.length) (hf : ¬ l.length + (Crc.frame s).length ≤ m) : appErr m l s = 9 ∧ appTo m l s = l ∧ appN m l s n = n := by
  unfold appTo appN appErr; simp [h, hf]
theorem app_ok (m : Nat) (l s : List UInt8) (n : Nat) (h : ¬ 16384 < s.length) (hf : l.length + (Crc.frame s).length ≤ m) : appErr m l s = 0 ∧ appTo m l s = l ++ Crc.frame s ∧ appN m l s n = n + 1 := by
  unfold appTo appN appErr; simp [h, hf]
theorem appErr_cases (m : Nat) (l s : List UInt8) : appErr m l s = 0 ∨ appErr m l s = 8 ∨ appErr m l s = 9 := by unfold appErr; split <;> (try split) <;> simp

/-- Others in the place of all. -/
def anyBig (xs : List (List UInt8)) : Bool := xs.any fun x => decide (16384 < x.length)
def resErr (m : Nat) (xs : List (List UInt8)) : Int := if anyBig xs then 8 else if (frames xs).length ≤ m then 0 else 9
def resTo (m : Nat) (l : List UInt8) (xs : List (List UInt8)) : List UInt8 := if resErr m xs = 0 then frames xs else l
def resN (m n : Nat) (xs : List (List UInt8)) : Nat := if resErr m xs = 0 then xs.length else n
theorem res_big (m : Nat) (l : List UInt8) (xs : List (List UInt8)) (n : Nat) (h : anyBig xs = true) : resErr m xs = 8 ∧ resTo m l xs = l ∧ resN m n xs = n := by
  unfold resTo resN resErr; simp [h]
theorem res_full (m : Nat) (l : List UInt8) (xs : List (List UInt8)) (n : Nat) (h : anyBig xs = false) (hf : ¬ (frames xs).length ≤ m) : resErr m xs = 9 ∧ resTo m l xs = l ∧ resN m n xs = n := by
  unfold resTo resN resErr; simp [h, hf]
theorem res_ok (m : Nat) (l : List UInt8) (xs : List (List UInt8)) (n : Nat) (h : anyBig xs = false) (hf : (frames xs).length ≤ m) : resErr m xs = 0 ∧ resTo m l xs = frames xs ∧ resN m n xs = xs.length := by
  unfold resTo resN resErr; simp [h, hf]
theorem small_of {xs : List (List UInt8)} (h : anyBig xs = false) : Small xs := by
  unfold anyBig at h
  rw [List.any_eq_false] at h
  intro x hx
  have := h x hx
  simp at this
  omega

theorem frames_le {xs : List (List UInt8)} (h : Small xs) : (frames xs).length = (xs.map fun x => x.length + 8).sum := by
  induction xs with
  | nil => rfl
  | cons x xs ih =>
    have hx := Crc.frame_length x (h x (by simp))
    show (Crc.frame x ++ frames xs).length = _
    rw [List.length_append, hx, ih (fun y hy => h y (by simp [hy]))]
    simp
/-- Those of some texts that may be records. -/
def fit (xs : List (List UInt8)) : List (List UInt8) := xs.filter fun x => decide (x.length ≤ 16384)
theorem fit_small (xs : List (List UInt8)) : Small (fit xs) := fun x hx => by
  unfold fit at hx
  rw [List.mem_filter] at hx
  simpa using hx.2
theorem fit_snoc (xs : List (List UInt8)) (x : List UInt8) : fit (xs ++ [x]) = if x.length ≤ 16384 then fit xs ++ [x] else fit xs := by
  unfold fit
  rw [List.filter_append]
  by_cases h : x.length ≤ 16384 <;> simp [h]
theorem fit_take (xs : List (List UInt8)) (k : Nat) (x : List UInt8) (h : xs[k]? = some x) : fit (xs.take (k + 1)) = if x.length ≤ 16384 then fit (xs.take k) ++ [x] else fit (xs.take k) := by
  rw [List.take_add_one, h]
  exact fit_snoc _ _
theorem fit_length (xs : List (List UInt8)) : (fit xs).length ≤ xs.length := List.length_filter_le _ _
theorem scan_opened (l : List (List UInt8)) (h : Small l) : opened (frames l) = frames l := by
  unfold opened
  rw [scan_whole l h]
  simp
theorem opened_torn (l : List (List UInt8)) (s : List UInt8) (k : Nat) (h : Small l) (hs : s.length ≤ 16384) (hk : k < s.length + 8) : opened (frames l ++ (Crc.frame s).take k) = frames l := by
  unfold opened
  rw [scan_torn l s k h hs hk]
  simp
end Go.Proofs.Ytkdbehfmmmlmjaa.Jou
