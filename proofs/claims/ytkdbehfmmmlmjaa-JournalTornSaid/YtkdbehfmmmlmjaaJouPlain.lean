/-
  Records that are kept, as plain functions on lists of bytes: chapter 6. No program in sight.
-/
import Derived.Test.YtkdbehfmmmlmjaaCrcPlain
import Derived.Test.YtkdbehfmmmlmjaaDiskPlain
set_option linter.unusedVariables false
set_option linter.unusedSimpArgs false
namespace Go.Proofs.Ytkdbehfmmmlmjaa.Jou
open Go.Proofs.Ytkdbehfmmmlmjaa

/-- The records of some bytes, in f steps at most; and how many bytes they have. -/
def scanF : Nat → List UInt8 → List (List UInt8) × Nat
  | 0, _ => ([], 0)
  | f + 1, l => if (Crc.read l).2.2 = 0 then ((Crc.read l).1 :: (scanF f (l.drop (Crc.read l).2.1)).1, (Crc.read l).2.1 + (scanF f (l.drop (Crc.read l).2.1)).2) else ([], 0)
def scan (l : List UInt8) : List (List UInt8) × Nat := scanF (l.length + 1) l

/-- A read that succeeds takes 8 bytes at least, and no more than there are; the text is no longer than what may be. -/
theorem read_ok (l : List UInt8) (h : (Crc.read l).2.2 = 0) : 8 ≤ (Crc.read l).2.1 ∧ (Crc.read l).2.1 ≤ l.length ∧ (Crc.read l).2.1 = (Crc.read l).1.length + 8 := by
  unfold Crc.read at h ⊢
  split
  · simp_all
  · split
    · simp_all
    · split
      · simp_all
      · split
        · simp_all
        · simp only [List.length_take, List.length_drop]; omega

theorem scanF_more : ∀ (f g : Nat) (l : List UInt8), l.length < f → l.length < g → scanF f l = scanF g l
  | 0, _, _, h, _ => by omega
  | _, 0, _, _, h => by omega
  | f + 1, g + 1, l, hf, hg => by
    unfold scanF
    by_cases h : (Crc.read l).2.2 = 0
    · have h1 := read_ok l h
      have hd : (l.drop (Crc.read l).2.1).length = l.length - (Crc.read l).2.1 := List.length_drop
      rw [if_pos h, if_pos h, scanF_more f g _ (by omega) (by omega)]
    · rw [if_neg h, if_neg h]

theorem scan_step (l : List UInt8) (h : (Crc.read l).2.2 = 0) : scan l = ((Crc.read l).1 :: (scan (l.drop (Crc.read l).2.1)).1, (Crc.read l).2.1 + (scan (l.drop (Crc.read l).2.1)).2) := by
  have h1 := read_ok l h
  have hd : (l.drop (Crc.read l).2.1).length = l.length - (Crc.read l).2.1 := List.length_drop
  show scanF (l.length + 1) l = _
  rw [scanF, if_pos h]
  rw [scanF_more l.length ((l.drop (Crc.read l).2.1).length + 1) _ (by omega) (by omega)]
  rfl
theorem scan_stop (l : List UInt8) (h : (Crc.read l).2.2 ≠ 0) : scan l = ([], 0) := by
  show scanF (l.length + 1) l = _
  rw [scanF, if_neg h]
theorem scan_nil : scan [] = ([], 0) := scan_stop [] (by decide)

/-- All frames, one behind the other. -/
def frames : List (List UInt8) → List UInt8
  | [] => []
  | x :: xs => Crc.frame x ++ frames xs
theorem frames_append (a b : List (List UInt8)) : frames (a ++ b) = frames a ++ frames b := by
  induction a with
  | nil => rfl
  | cons x xs ih => show Crc.frame x ++ frames (xs ++ b) = _; rw [ih, ← List.append_assoc]; rfl
theorem frames_one (x : List UInt8) : frames [x] = Crc.frame x := List.append_nil _

def Small (l : List (List UInt8)) : Prop := ∀ x ∈ l, x.length ≤ 16384

theorem scan_frames (l : List (List UInt8)) (t : List UInt8) (h : Small l) : scan (frames l ++ t) = (l ++ (scan t).1, (frames l).length + (scan t).2) := by
  induction l with
  | nil => simp [frames]
  | cons x xs ih =>
    have hx := h x (by simp)
    have e := Crc.read_frame x (frames xs ++ t) hx
    have e0 : frames (x :: xs) ++ t = Crc.frame x ++ (frames xs ++ t) := by show (Crc.frame x ++ frames xs) ++ t = _; rw [List.append_assoc]
    rw [e0, scan_step _ (by rw [e]), e]
    have hl := Crc.frame_length x hx
    have hd : (Crc.frame x ++ (frames xs ++ t)).drop (x.length + 8) = frames xs ++ t := by rw [← hl]; exact List.drop_left' rfl
    show (x :: (scan ((Crc.frame x ++ (frames xs ++ t)).drop (x.length + 8))).1, x.length + 8 + (scan ((Crc.frame x ++ (frames xs ++ t)).drop (x.length + 8))).2) = _
    rw [hd, ih (fun y hy => h y (by simp [hy]))]
    show _ = ((x :: xs) ++ (scan t).1, (Crc.frame x ++ frames xs).length + (scan t).2)
    rw [List.length_append, hl]
    simp only [List.cons_append, Nat.add_assoc]
theorem scan_whole (l : List (List UInt8)) (h : Small l) : scan (frames l) = (l, (frames l).length) := by
  have := scan_frames l [] h
  rw [List.append_nil, scan_nil] at this
  simpa using this
/-- Of a frame that is cut nothing is read. -/
theorem scan_torn (l : List (List UInt8)) (s : List UInt8) (k : Nat) (h : Small l) (hs : s.length ≤ 16384) (hk : k < s.length + 8) : scan (frames l ++ (Crc.frame s).take k) = (l, (frames l).length) := by
  rw [scan_frames l _ h, scan_stop _ (by rw [Crc.read_short s k hs hk]; decide)]
  simp

/-- What the records have is the bytes' beginning. -/
theorem scanF_le : ∀ (f : Nat) (l : List UInt8), (scanF f l).2 ≤ l.length
  | 0, _ => Nat.zero_le _
  | f + 1, l => by
    unfold scanF
    split
    · rename_i h
      have h1 := read_ok l h
      have := scanF_le f (l.drop (Crc.read l).2.1)
      have hd : (l.drop (Crc.read l).2.1).length = l.length - (Crc.read l).2.1 := List.length_drop
      show _ + _ ≤ _
      omega
    · exact Nat.zero_le _
theorem scan_le (l : List UInt8) : (scan l).2 ≤ l.length := scanF_le _ _
/-- There are an eighth as many records as bytes, at most. -/
theorem scanF_count : ∀ (f : Nat) (l : List UInt8), 8 * (scanF f l).1.length ≤ (scanF f l).2
  | 0, _ => Nat.le_refl _
  | f + 1, l => by
    unfold scanF
    split
    · rename_i h
      have h1 := read_ok l h
      have := scanF_count f (l.drop (Crc.read l).2.1)
      show 8 * (_ :: _).length ≤ _ + _
      rw [List.length_cons]
      omega
    · exact Nat.le_refl _
theorem scan_count (l : List UInt8) : 8 * (scan l).1.length ≤ (scan l).2 := scanF_count _ _
end Go.Proofs.Ytkdbehfmmmlmjaa.Jou
