/-
  Chapter 6's example.
-/
import Derived.Test.YtkdbehfmmmlmjaaJouRefRes
set_option linter.unusedVariables false
set_option linter.unusedSimpArgs false
namespace Go.Proofs.Ytkdbehfmmmlmjaa.JouW
open Go.RowKit Go.Proofs.Ytkdbehfmmmlmjaa.L Go.Proofs.Ytkdbehfmmmlmjaa.CrcW Go.Proofs.Ytkdbehfmmmlmjaa.DiskW

def abc : List UInt8 := [97, 98, 99]
def xx : List UInt8 := [120]
theorem abc_len : (Crc.frame abc).length = 11 := Crc.frame_length abc (by decide)
theorem xx_len : (Crc.frame xx).length = 9 := Crc.frame_length xx (by decide)
theorem abc_scan : Jou.scan (Crc.frame abc ++ Crc.frame abc ++ (Crc.frame abc).take 5) = ([abc, abc], 22) := by
  have := Jou.scan_torn [abc, abc] abc 5 (by intro x hx; simp at hx; subst hx; decide) (by decide) (by decide)
  have e : Jou.frames [abc, abc] = Crc.frame abc ++ Crc.frame abc := by simp [Jou.frames]
  rw [e] at this
  rw [this, List.length_append, abc_len]
theorem xx_scan : Jou.scan (Crc.frame xx) = ([xx], 9) := by
  have := Jou.scan_whole [xx] (by intro x hx; simp at hx; subst hx; decide)
  rw [Jou.frames_one] at this
  rw [this, xx_len]
theorem xx_open : Jou.opened (Crc.frame xx) = Crc.frame xx := by unfold Jou.opened; rw [xx_scan]; exact List.take_of_length_le (by rw [xx_len]; omega)
theorem app_xx : Jou.appErr 1000 [] xx = 0 ∧ Jou.appTo 1000 [] xx = Crc.frame xx ∧ Jou.appN 1000 [] xx 0 = 1 := by
  have h := Jou.app_ok 1000 [] xx 0 (by decide) (by rw [xx_len]; decide)
  exact ⟨h.1, by rw [h.2.1]; rfl, h.2.2⟩
theorem nil_open : Jou.opened [] = [] := rfl

theorem OpenEnd.at {B : Nat} {L : Nat → Prop} {g m : Nat} {l : List UInt8} {w : World} {e : Ending} {w' : World} (h : OpenEnd B L g m l w e w') {rs : List (List UInt8)} {l' : List UInt8} (h1 : (Jou.scan l).1 = rs) (h2 : Jou.opened l = l') :
    ∃ A c j, e = .returned (.tuple #[.pointer (some ⟨j, 0, none⟩), .slice A rs.length c]) ∧ Recs w' w.heap.size (.slice A rs.length c) rs ∧ w.heap.size ≤ j ∧ JOwn B (fun k => L k ∨ (Value.slice A rs.length c).ownBlock = some k) w' j g m l' rs.length ∧ Kept (Room B L) w w' := by
  obtain ⟨v, j, rfl, hr, hne, hj, ho, hk⟩ := h
  rw [h1] at hr ho
  rw [h2] at ho
  obtain ⟨A, c, rfl, _⟩ := hr.form
  rw [List.length_map] at *
  exact ⟨A, c, j, rfl, hr, hj, ho, hk⟩
theorem recs_cell {w : World} {B : Nat} {A : Option Addr} {n c : Nat} {rs : List (List UInt8)} (h : Recs w B (.slice A n c) rs) (i : Nat) (x : List UInt8) (hx : rs[i]? = some x) : ∃ g, A = some ⟨g, 0, none⟩ ∧ B ≤ g ∧ g < w.heap.size ∧ w.cell? ⟨g, i, none⟩ = some (vs x) := by
  obtain ⟨a, c', e, hc⟩ := h.form
  obtain ⟨rfl, _, _⟩ : A = a ∧ n = _ ∧ c = c' := by injection e with e1 e2 e3; exact ⟨e1, e2, e3⟩
  obtain ⟨g, rfl, hlt, hcell⟩ := hc (by intro h; rw [List.map_eq_nil_iff] at h; subst h; simp at hx)
  exact ⟨g, rfl, (h.lt g rfl).1, hlt, hcell i _ (by rw [List.getElem?_map, hx]; rfl)⟩
theorem live_sl {L : Nat → Prop} {w : World} {B : Nat} {v : Value} {rs : List (List UInt8)} (hL : Live L w) (hr : Recs w B v rs) : Live (fun k => L k ∨ v.ownBlock = some k) w := fun k hk => by
  rcases hk with h | h
  · exact hL k h
  · exact (hr.lt k h).2

set_option maxRecDepth 100000 in
set_option maxHeartbeats 4000000 in
theorem awake06 : Gives Try.prog 23 #[] (.bool true) := by
  intro w
  have e0 := Lib.hid (show (⟨#[97, 98, 99]⟩ : ByteArray) = str abc from rfl)
  have e1 := Lib.hid (show (⟨#[120]⟩ : ByteArray) = str xx from rfl)
  obtain ⟨F, hF⟩ : ∃ F, str (Crc.frame abc) = F := ⟨_, rfl⟩
  have hz : F.size = 11 := by rw [← hF, str_size, abc_len]
  have hcat : Hid ((F ++ F) ++ F.extract 0 5 = str (Crc.frame abc ++ Crc.frame abc ++ (Crc.frame abc).take 5)) := Lib.hid (by rw [← hF, str_append, str_extract, str_append])
  have HF := Lib.hid hF
  have hz1 : F.size ≤ 11 := by omega
  have hz2 : 5 ≤ F.size := by omega
  clear hz hF
  go_enter Try.func23, Try.ntmps23
  go_wp2_with fail
  rw [e0.out]
  refine (refframe_any (str abc) _ (by decide)).mono ?_
  rintro e w1 ⟨rfl, hb1⟩
  rw [str_toList, HF.out]
  go_wp2_with fail
  rw [hcat.out]
  refine (scan_any _ _ (by simp only [List.length_append, List.length_take, abc_len]; decide)).mono ?_
  rintro e w2 ⟨v1, rfl, hr1, hb2⟩
  rw [abc_scan] at hr1
  rw [show ((Jou.scan (Crc.frame abc ++ Crc.frame abc ++ (Crc.frame abc).take 5)).2 : Int) = 22 by rw [abc_scan]; rfl]
  have hbw : Below w.heap.size w w2 := hb1.trans (hb2.mono hb1.size)
  obtain ⟨A1, c1, rfl, _⟩ := hr1.form
  obtain ⟨g1, rfl, hg1, hg1', hc1⟩ := recs_cell hr1 1 abc rfl
  have HR1 := Lib.hid hc1
  clear hb1 hb2 hr1 hc1 hcat HF
  rw [show ([abc, abc].map vs).length = 2 from rfl]
  go_wp2_with fail
  refine (new_any 1000 _).mono ?_
  rintro e w3 ⟨rfl, hw3⟩
  rw [show (((Dsk.new 1000).size : Nat) : Int) = ((1000 : Nat) : Int) by decide] at hw3
  have o3 : Own w2.heap.size Nothing w3 w2.heap.size (Jou.clean 1000 []) := by rw [hw3]; exact own_new 1000 (by omega) (Nat.le_refl _) (live_nothing _)
  have k3 : Below w2.heap.size w2 w3 := by rw [hw3]; exact (Below.refl _ _).alloc (Nat.le_refl _) _
  clear hw3
  go_wp2_with fail
  refine (open_own o3 k3.size (live_nothing _)).mono ?_
  rintro e w4 h4
  obtain ⟨A, c, j, rfl, hr4, hj, o4, k4⟩ := OpenEnd.at h4 (rs := []) (l' := []) (by rw [Jou.scan_nil]) rfl
  have b4 : Below w2.heap.size w2 w4 := k3.trans (k4.below k3.size (fun _ h => h.1))
  have hL4 := live_sl (live_nothing w4) hr4
  have happ := append_own o4 b4.size hL4 (by decide) (str xx) (by decide)
  rw [str_toList] at happ
  have Happ := Lib.hid happ
  clear h4 o3 k3 k4 o4 happ hr4
  rw [show ([] : List (List UInt8)).length = 0 from rfl]
  go_wp2_with fail
  rw [e1.out]
  refine (Happ.out).mono ?_
  rintro e w5 ⟨he, o5, k5⟩
  obtain ⟨q1, q2, q3⟩ := app_xx
  rw [q1] at he
  rw [show ([] : List (List UInt8)).length = 0 from rfl, q2, q3] at o5
  subst he
  have b5 : Below w2.heap.size w2 w5 := b4.trans (k5.below b4.size (fun _ h => h.1))
  have hL5 := live_or (hL4.kept k5.size) (JBlk.lt o5.blk)
  have Ho := Lib.hid (open_own o5.own b5.size hL5)
  clear b4 k5 o5 Happ hL4 q1 q2 q3
  go_wp2_with fail
  refine (Ho.out).mono ?_
  rintro e w6 h6
  obtain ⟨A6, c6, j6, rfl, hr6, hj6, o6, k6⟩ := OpenEnd.at h6 (rs := [xx]) (by rw [xx_scan]) xx_open
  have b6 : Below w2.heap.size w2 w6 := b5.trans (k6.below b5.size (fun _ h => h.1))
  obtain ⟨g6, rfl, hg6, hg6', hc6⟩ := recs_cell hr6 0 xx rfl
  have Hrec := Lib.hid (records_any o6.blk)
  have hfin : Below w.heap.size w w6 := hbw.trans (b6.mono hbw.size)
  have z1 : w6.cell? ⟨g1, 1, none⟩ = some (.string ⟨#[97, 98, 99]⟩) := (b6.cell (p := ⟨g1, 1, none⟩) hg1').trans HR1.out
  have z6 : w6.cell? ⟨g6, 0, none⟩ = some (.string ⟨#[120]⟩) := hc6
  have HFI := Lib.hid hfin
  clear h6 b5 k6 Ho o6 hr6 hc6 hfin b6 hL5 hbw HR1
  rw [show [xx].length = 1 from rfl] at *
  go_wp2_with fail
  refine (Hrec.out).mono ?_
  rintro e w7 ⟨rfl, rfl⟩
  go_wp2_with fail
  go_ret
  exact ⟨rfl, HFI.out⟩
end Go.Proofs.Ytkdbehfmmmlmjaa.JouW
