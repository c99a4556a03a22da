/-
  The records of some bytes: the contract of package journal's Scan.
-/
import Derived.Test.YtkdbehfmmmlmjaaJouScan
import Derived.Test.YtkdbehfmmmlmjaaRowV
set_option linter.unusedVariables false
set_option linter.unusedSimpArgs false
namespace Go.Proofs.Ytkdbehfmmmlmjaa.JouW
open Go.RowKit Go.Proofs.Ytkdbehfmmmlmjaa.L Go.Proofs.Ytkdbehfmmmlmjaa.CrcW

/-- A row of records, made since. -/
def Recs (w : World) (B : Nat) (v : Value) (l : List (List UInt8)) : Prop := RowV w B 9 v (l.map vs)
def ScanEnd (l : List UInt8) (w : World) (e : Ending) (w' : World) : Prop := ∃ v, e = .returned (.tuple #[v, .int .i64 ((Jou.scan l).2 : Int)]) ∧ Recs w' w.heap.size v (Jou.scan l).1 ∧ Below w.heap.size w w'

theorem append_rec {w : World} {B : Nat} {v : Value} {l : List (List UInt8)} (h : Recs w B v l) (hB : B ≤ w.heap.size) (x : List UInt8) (hl : l.length ≤ 1048576) :
    ∃ v' w', (Builtin.append_ #[42, 42] 42 #[v, .slice (some ⟨w.heap.size, 0, none⟩) 1 1]).run Try.prog (w.alloc (.cells #[vs x] 9)) = .ok v' w' ∧ Recs w' B v' (l ++ [x]) ∧
      (w.alloc (.cells #[vs x] 9)).grownBy w' v.ownBlock ∧ (∀ k, v'.ownBlock = some k → v.ownBlock = some k ∨ w.heap.size ≤ k) := by
  obtain ⟨i0, hi, hz0, hz1, hz2⟩ := info_parts strinfo
  have hlm : (l.map vs).length = l.length := by simp
  obtain ⟨v', w', hr, ho, hg, hn⟩ := append_one (P := Try.prog) 42 42 9 i0 _ 16 Try.underlying42 hi hz0 hz1 hz2 rfl h hB (vs x) rfl (by omega) (by omega)
  exact ⟨v', w', hr, by unfold Recs; rw [List.map_append]; exact ho, hg, hn⟩

theorem scan_more (l rest : List UInt8) (recs : List (List UInt8)) (at_ : Nat) (h : Jou.scan l = (recs ++ (Jou.scan rest).1, at_ + (Jou.scan rest).2)) (hr : (Crc.read rest).2.2 = 0) :
    Jou.scan l = ((recs ++ [(Crc.read rest).1]) ++ (Jou.scan (rest.drop (Crc.read rest).2.1)).1, (at_ + (Crc.read rest).2.1) + (Jou.scan (rest.drop (Crc.read rest).2.1)).2) := by
  rw [h, Jou.scan_step rest hr]
  simp only [List.append_assoc, List.singleton_append, Nat.add_assoc]
theorem scan_done (l rest : List UInt8) (recs : List (List UInt8)) (at_ : Nat) (h : Jou.scan l = (recs ++ (Jou.scan rest).1, at_ + (Jou.scan rest).2)) (hr : (Crc.read rest).2.2 ≠ 0) : Jou.scan l = (recs, at_) := by
  rw [h, Jou.scan_stop rest hr]
  simp

set_option maxHeartbeats 2000000 in
theorem scan_any (l : List UInt8) (w : World) (hs : l.length ≤ 4194304) : Calls Try.prog 24 #[.string (str l)] w (ScanEnd l w) := by
  go_enter Try.func24, Try.ntmps24
  go_wp2_with fail
  refine (frames_any _ _).mono ?_
  rintro e w1 ⟨rfl, rfl⟩
  have hn0 : RowV (w.alloc (.cells #[vs l] 9)) (w.heap.size + 1) 9 (.slice none 0 0) (List.map vs []) := RowV.nil _ _ _
  have hc0 : (w.alloc (.cells #[vs l] 9)).cell? ⟨w.heap.size, 0, none⟩ = some (vs l) := by rw [World.cell?_alloc_mark]; rfl
  have hf0 : (w.alloc (.cells #[vs l] 9)).frozen? ⟨w.heap.size, 0, none⟩ = false := by rw [World.frozen?_alloc_mark]; simp
  go_wp2_with fail
  go_loopw [4, 5] (fun v a wr => ∃ (recs : List (List UInt8)) (rest : List UInt8) (k : Nat), a = .int .i64 (k : Int) ∧ k + rest.length = l.length ∧ 8 * recs.length ≤ k ∧ Recs wr (w.heap.size + 1) v recs ∧ wr.cell? ⟨w.heap.size, 0, none⟩ = some (vs rest) ∧
      wr.frozen? ⟨w.heap.size, 0, none⟩ = false ∧ Below w.heap.size w wr ∧ w.heap.size < wr.heap.size ∧ Hid (Jou.scan l = (recs ++ (Jou.scan rest).1, k + (Jou.scan rest).2))) (fun _ a _ => l.length - (intOf a).toNat)
  case atStart => exact ⟨[], l, 0, rfl, by omega, by simp, hn0, hc0, hf0, (Below.refl _ _).alloc (Nat.le_refl _) _, by simp, Lib.hid (by simp)⟩
  case round =>
    obtain ⟨recs, rest, k, rfl, hk, hk8, hrow, hc, hf, hb, hlt, HS⟩ := hrel
    clear hn0 hc0 hf0
    by_cases hr : (Crc.read rest).2.2 = 0
    · have hcy := Lib.hid (clo_yes rest w.heap.size wr (by omega) hc hf hr)
      have hok := Jou.read_ok rest hr
      have hS2 := Lib.hid (scan_more l rest recs k HS.out hr)
      have hdl : (rest.drop (Crc.read rest).2.1).length = rest.length - (Crc.read rest).2.1 := List.length_drop
      generalize (Crc.read rest).1 = t at *
      generalize (Crc.read rest).2.1 = n at *
      generalize rest.drop n = rest' at *
      obtain ⟨hok1, hok2, _⟩ := hok
      have hkn : k + n ≤ 4194304 := by omega
      have hkl : k < l.length := by omega
      have HK := Lib.hid hk
      have HD := Lib.hid hdl
      have hrl : 8 * (recs.length + 1) ≤ k + n := by omega
      have hrl2 : recs.length ≤ 1048576 := by omega
      clear hr HS hk hdl
      go_wp2_with fail
      refine (hcy.out).mono ?_
      rintro e w2 ⟨rfl, m, hw2⟩
      have hgap : ∀ k, u4.ownBlock = some k → w.heap.size + 1 ≤ k ∧ k < wr.heap.size := hrow.lt
      have hz2 : wr.heap.size ≤ w2.heap.size := by rw [hw2]; simp [World.setCell]
      have hc2 : w2.cell? ⟨w.heap.size, 0, none⟩ = some (vs rest') := by
        rw [hw2]; exact World.cell?_setCell_same' _ _ _ (by rw [hc]; rfl)
      have hf2 : w2.frozen? ⟨w.heap.size, 0, none⟩ = false := by
        rw [hw2]; exact (World.frozen?_setCell _ _ _ _).trans hf
      have hb2 : Below w.heap.size w w2 := by rw [hw2]; exact below_drewN (hb.setCell (p := ⟨w.heap.size, 0, none⟩) (Nat.le_refl _) _) m
      have hrow2 : Recs w2 (w.heap.size + 1) u4 recs := hrow.kept (fun k hk => by
        rw [hw2]
        exact Below.heap_setCell wr ⟨w.heap.size, 0, none⟩ (vs rest') k (by have := hgap k hk; simp only; omega))
      clear hw2 hrow hb hc hf hcy
      obtain ⟨v', w3, hrun, ho, hg, hn⟩ := append_rec hrow2 (by omega) t hrl2
      have hlt3 : w.heap.size < w2.heap.size := by omega
      have hne : some w.heap.size ≠ u4.ownBlock := fun e => by have := hgap _ e.symm; omega
      have hblk : w3.heap[w.heap.size]? = w2.heap[w.heap.size]? := (hg.block w.heap.size (by simp; omega) hne).trans (Below.heap_alloc _ _ _ hlt3)
      have hc3 : w3.cell? ⟨w.heap.size, 0, none⟩ = some (vs rest') := (World.cell?_of_block (w := w2) (a := ⟨w.heap.size, 0, none⟩) hblk).trans hc2
      have hf3 : w3.frozen? ⟨w.heap.size, 0, none⟩ = false := (World.frozen?_of_block (w := w2) (a := ⟨w.heap.size, 0, none⟩) hblk).trans hf2
      have hb3 : Below w.heap.size w w3 := (hb2.alloc (by omega) _).grown hg (by simp; omega) (fun j hj => by have := hgap j hj; omega)
      have hz3 : w.heap.size < w3.heap.size := by have := hg.size; simp at this; omega
      clear hblk hne hrow2 hc2 hf2 hb2 hg hn
      unfold vs at hrun
      unfold vs
      have HO := Lib.hid ho
      have HC := Lib.hid hc3
      clear ho hc3
      go_wp2_with (at_builtin; refine wpList_append_eq rfl (.tmp 22) (.tmp 24) _ _ rfl u4 (.slice (some ⟨w2.heap.size, 0, none⟩) 1 1) rfl rfl hrun ?_)
      go_roundw
      case rel => exact ⟨recs ++ [t], rest', k + n, by go_num, by have := HK.out; have := HD.out; omega, by simp; omega, HO.out, HC.out, hf3, hb3, hz3, hS2⟩
      case measure => have := HK.out; simp [intOf]; omega
    · have hcn := Lib.hid (clo_no rest w.heap.size wr (by omega) hc hr)
      have hfin := Lib.hid (scan_done l rest recs k HS.out hr)
      clear hr HS
      go_wp2_with fail
      refine (hcn.out).mono ?_
      rintro e w2 ⟨rfl, m, hw2⟩
      have hb2 : Below w.heap.size w w2 := hw2 ▸ below_drewN hb m
      have hrow2 : Recs w2 (w.heap.size + 1) u4 recs := by rw [hw2]; exact hrow.below (below_drewN (Below.refl _ _) m)
      clear hw2 hrow hb hc hf hcn
      go_wp2_with fail
      go_ret2
      show ScanEnd l w _ _
      refine ⟨u4, ?_, ?_, hb2⟩
      · rw [hfin.out]; rfl
      · rw [hfin.out]; exact hrow2.low (by omega)
end Go.Proofs.Ytkdbehfmmmlmjaa.JouW
