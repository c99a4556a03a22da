/-
  What was taken and given back leaves all as it was: chapter 16's plain law.
-/
import Derived.Test.YtjkmcncgndkdoaaHostPlain
set_option linter.unusedVariables false
set_option linter.unusedSimpArgs false
namespace Go.Proofs.Ytjkmcncgndkdoaa.Hst
open Go.Proofs.Ytjkmcncgndkdoaa

def times (f : Vec.V → Vec.V) : Nat → Vec.V → Vec.V
  | 0, v => v
  | n + 1, v => times f n (f v)
theorem one_at (f : Vec.V → Vec.V → Vec.V) (need : Vec.V) (out : List Vec.V) (h : Int) (i : Nat) (hi : i < out.length) : (one f need out h)[i]? = some (if (i : Int) = h then f out[i] need else out[i]) := by
  unfold one
  by_cases hr : 0 ≤ h ∧ h < (out.length : Int)
  · rw [if_pos hr]
    by_cases he : (i : Int) = h
    · rw [if_pos he]
      have : h.toNat = i := by omega
      rw [this, List.getElem?_set_self hi, List.getD_eq_getElem?_getD, List.getElem?_eq_getElem hi, Option.getD_some]
    · rw [if_neg he, List.getElem?_set_ne (by omega), List.getElem?_eq_getElem hi]
  · rw [if_neg hr, if_neg (by omega), List.getElem?_eq_getElem hi]
def cnt (i : Int) : List Int → Nat
  | [] => 0
  | h :: l => (if i = h then 1 else 0) + cnt i l
theorem cnt_le (i : Int) : ∀ l, cnt i l ≤ l.length
  | [] => Nat.le_refl _
  | h :: l => by
    have := cnt_le i l
    unfold cnt
    simp only [List.length_cons]
    split <;> omega
theorem gang_at (f : Vec.V → Vec.V → Vec.V) (need : Vec.V) : ∀ (l : List Int) (out : List Vec.V) (i : Nat) (hi : i < out.length), (gang f need l out)[i]? = some (times (fun v => f v need) (cnt (i : Int) l) out[i])
  | [], out, i, hi => by rw [show gang f need [] out = out from rfl, List.getElem?_eq_getElem hi]; rfl
  | h :: l, out, i, hi => by
    have hi' : i < (one f need out h).length := by rw [one_length]; exact hi
    rw [show gang f need (h :: l) out = gang f need l (one f need out h) from rfl, gang_at f need l _ i hi']
    have h1 := one_at f need out h i hi
    rw [List.getElem?_eq_getElem hi'] at h1
    injection h1 with h1
    rw [h1, show cnt (i : Int) (h :: l) = (if (i : Int) = h then 1 else 0) + cnt (i : Int) l from rfl]
    by_cases he : (i : Int) = h
    · rw [if_pos he, if_pos he, Nat.add_comm]; rfl
    · rw [if_neg he, if_neg he, Nat.zero_add]
theorem sub_times (need : Vec.V) (hn : Vec.valid need = true) : ∀ (n : Nat) (v : Vec.V) (k : Nat), n + k ≤ 1000 → (∀ x : Int, x = v.x ∨ x = v.y ∨ x = v.z → -(k * 1048576 : Int) ≤ x ∧ x ≤ 1048576) →
    times (fun v => Vec.sub v need) n v = ⟨v.x - n * need.x, v.y - n * need.y, v.z - n * need.z⟩
  | 0, v, k, _, _ => Vec.V.ext' (by simp [times]) (by simp [times]) (by simp [times])
  | n + 1, v, k, hk, hv => by
    obtain ⟨⟨x0, x1⟩, ⟨y0, y1⟩, ⟨z0, z1⟩⟩ := (Vec.valid_iff need).1 hn
    obtain ⟨a0, a1⟩ := hv v.x (.inl rfl)
    obtain ⟨b0, b1⟩ := hv v.y (.inr (.inl rfl))
    obtain ⟨c0, c1⟩ := hv v.z (.inr (.inr rfl))
    have key : ∀ a b : Int, -(k * 1048576 : Int) ≤ a → a ≤ 1048576 → 0 ≤ b → b ≤ 1048576 → Vec.sub1 a b = a - b := fun a b h1 h2 h3 h4 => by
      unfold Vec.sub1
      have : (k : Int) ≤ 1000 := by omega
      rw [Vec.cut_in a _ (by omega) (by omega), Vec.cut_in b _ (by omega) (by omega), Vec.cut_in _ _ (by omega) (by omega)]
    have e : Vec.sub v need = ⟨v.x - need.x, v.y - need.y, v.z - need.z⟩ := Vec.V.ext' (key _ _ a0 a1 x0 x1) (key _ _ b0 b1 y0 y1) (key _ _ c0 c1 z0 z1)
    show times _ n (Vec.sub v need) = _
    rw [e, sub_times need hn n _ (k + 1) (by omega) (fun x hx => by
      simp only at hx
      rcases hx with rfl | rfl | rfl <;> omega)]
    refine Vec.V.ext' ?_ ?_ ?_ <;> (simp only; push_cast; rw [Int.add_mul]; omega)
theorem add_times (need : Vec.V) (hn : Vec.valid need = true) : ∀ (n : Nat) (v : Vec.V) (k : Nat), n + k ≤ 1000 → (∀ x : Int, x = v.x ∨ x = v.y ∨ x = v.z → -(1001 * 1048576 : Int) ≤ x ∧ x ≤ 1048576 + (k * 1048576 : Int)) →
    times (fun v => Vec.add v need) n v = ⟨v.x + n * need.x, v.y + n * need.y, v.z + n * need.z⟩
  | 0, v, k, _, _ => Vec.V.ext' (by simp [times]) (by simp [times]) (by simp [times])
  | n + 1, v, k, hk, hv => by
    obtain ⟨⟨x0, x1⟩, ⟨y0, y1⟩, ⟨z0, z1⟩⟩ := (Vec.valid_iff need).1 hn
    obtain ⟨a0, a1⟩ := hv v.x (.inl rfl)
    obtain ⟨b0, b1⟩ := hv v.y (.inr (.inl rfl))
    obtain ⟨c0, c1⟩ := hv v.z (.inr (.inr rfl))
    have key : ∀ a b : Int, -(1001 * 1048576 : Int) ≤ a → a ≤ 1048576 + (k * 1048576 : Int) → 0 ≤ b → b ≤ 1048576 → Vec.add1 a b = a + b := fun a b h1 h2 h3 h4 => by
      unfold Vec.add1
      have : (k : Int) ≤ 1000 := by omega
      rw [Vec.cut_in a _ (by omega) (by omega), Vec.cut_in b _ (by omega) (by omega), Vec.cut_in _ _ (by omega) (by omega)]
    have e : Vec.add v need = ⟨v.x + need.x, v.y + need.y, v.z + need.z⟩ := Vec.V.ext' (key _ _ a0 a1 x0 x1) (key _ _ b0 b1 y0 y1) (key _ _ c0 c1 z0 z1)
    show times _ n (Vec.add v need) = _
    rw [e, add_times need hn n _ (k + 1) (by omega) (fun x hx => by
      simp only at hx
      rcases hx with rfl | rfl | rfl <;> omega)]
    refine Vec.V.ext' ?_ ?_ ?_ <;> (simp only; push_cast; rw [Int.add_mul]; omega)
theorem part_in {n : Nat} {b : Int} (hn : n ≤ 200) (h0 : 0 ≤ b) (h1 : b ≤ 1048576) : 0 ≤ (n : Int) * b ∧ (n : Int) * b ≤ 200 * 1048576 :=
  ⟨Int.mul_nonneg (by omega) h0, Int.mul_le_mul (by omega) h1 h0 (by omega)⟩
theorem taken_at (need : Vec.V) (hn : Vec.valid need = true) (free : List Vec.V) (hv : ∀ v ∈ free, Vec.valid v = true) (l : List Int) (hl : l.length ≤ 200) (i : Nat) (hi : i < free.length) :
    (gang Vec.sub need l free)[i]? = some ⟨free[i].x - cnt (i : Int) l * need.x, free[i].y - cnt (i : Int) l * need.y, free[i].z - cnt (i : Int) l * need.z⟩ := by
  have hc := cnt_le (i : Int) l
  obtain ⟨⟨x0, x1⟩, ⟨y0, y1⟩, ⟨z0, z1⟩⟩ := (Vec.valid_iff free[i]).1 (hv _ (List.getElem_mem hi))
  rw [gang_at Vec.sub need l free i hi, sub_times need hn (cnt (i : Int) l) free[i] 0 (by omega) (fun x hx => by rcases hx with rfl | rfl | rfl <;> omega)]
theorem back (need : Vec.V) (hn : Vec.valid need = true) (free : List Vec.V) (hv : ∀ v ∈ free, Vec.valid v = true) (l : List Int) (hl : l.length ≤ 200) : gang Vec.add need l (gang Vec.sub need l free) = free := by
  apply List.ext_getElem?
  intro i
  by_cases hi : i < free.length
  · have hi' : i < (gang Vec.sub need l free).length := by rw [gang_length]; exact hi
    have hc := cnt_le (i : Int) l
    have ht := taken_at need hn free hv l hl i hi
    rw [List.getElem?_eq_getElem hi'] at ht
    injection ht with ht
    obtain ⟨⟨n0, n1⟩, ⟨m0, m1⟩, ⟨k0, k1⟩⟩ := (Vec.valid_iff need).1 hn
    obtain ⟨⟨x0, x1⟩, ⟨y0, y1⟩, ⟨z0, z1⟩⟩ := (Vec.valid_iff free[i]).1 (hv _ (List.getElem_mem hi))
    have p1 := part_in (n := cnt (i : Int) l) (by omega) n0 n1
    have p2 := part_in (n := cnt (i : Int) l) (by omega) m0 m1
    have p3 := part_in (n := cnt (i : Int) l) (by omega) k0 k1
    rw [gang_at Vec.add need l _ i hi', ht, add_times need hn (cnt (i : Int) l) _ 0 (by omega) (fun x hx => by
      simp only at hx
      rcases hx with rfl | rfl | rfl <;> omega), List.getElem?_eq_getElem hi]
    refine congrArg some (Vec.V.ext' ?_ ?_ ?_) <;> (simp only; omega)
  · rw [List.getElem?_eq_none (by rw [gang_length, gang_length]; omega), List.getElem?_eq_none (by omega)]
theorem cnt_pos {i : Int} : ∀ {l : List Int}, 0 < cnt i l → i ∈ l
  | [], h => by simp [cnt] at h
  | x :: l, h => by
    rw [show cnt i (x :: l) = (if i = x then 1 else 0) + cnt i l from rfl] at h
    by_cases he : i = x
    · rw [he]; exact List.mem_cons_self
    · rw [if_neg he] at h
      exact List.mem_cons_of_mem _ (cnt_pos (by omega))
/-- What was taken leaves each host something from 0 on, and no more than there was. -/
theorem taken_fits (need : Vec.V) (hn : Vec.valid need = true) (free : List Vec.V) (hv : ∀ v ∈ free, Vec.valid v = true) (l : List Int) (hl : l.length ≤ 200) (hf : fine (gang Vec.sub need l free) l = true) (i : Nat) (hi : i < free.length) (hi' : i < (gang Vec.sub need l free).length) :
    Vec.fits Vec.zero (gang Vec.sub need l free)[i] = true ∧ Vec.fits (gang Vec.sub need l free)[i] free[i] = true := by
  have hc := cnt_le (i : Int) l
  have ht := taken_at need hn free hv l hl i hi
  rw [List.getElem?_eq_getElem hi'] at ht
  injection ht with ht
  obtain ⟨⟨n0, n1⟩, ⟨m0, m1⟩, ⟨k0, k1⟩⟩ := (Vec.valid_iff need).1 hn
  obtain ⟨⟨x0, x1⟩, ⟨y0, y1⟩, ⟨z0, z1⟩⟩ := (Vec.valid_iff free[i]).1 (hv _ (List.getElem_mem hi))
  have p1 := part_in (n := cnt (i : Int) l) (by omega) n0 n1
  have p2 := part_in (n := cnt (i : Int) l) (by omega) m0 m1
  have p3 := part_in (n := cnt (i : Int) l) (by omega) k0 k1
  refine ⟨?_, by rw [ht, Vec.fits_iff]; simp only; omega⟩
  by_cases h0 : 0 < cnt (i : Int) l
  · have hm := cnt_pos h0
    unfold fine at hf
    rw [List.all_eq_true] at hf
    have := hf _ hm
    rwa [Int.toNat_natCast, List.getD_eq_getElem?_getD, List.getElem?_eq_getElem hi', Option.getD_some] at this
  · have hz : cnt (i : Int) l = 0 := by omega
    rw [ht, Vec.fits_iff, hz]
    show 0 ≤ _ ∧ 0 ≤ _ ∧ 0 ≤ _
    simp only [Int.natCast_zero, Int.zero_mul]
    omega
end Go.Proofs.Ytjkmcncgndkdoaa.Hst
