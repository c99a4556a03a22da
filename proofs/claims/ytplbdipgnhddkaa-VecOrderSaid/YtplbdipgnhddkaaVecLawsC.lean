/-
  Chapter 3's statement on the order, over any world.
-/
import Derived.Test.YtplbdipgnhddkaaVecLawsB
set_option linter.unusedVariables false
set_option linter.unusedSimpArgs false
namespace Go.Proofs.Ytplbdipgnhddkaa.VecW
open Go.RowKit Go.Proofs.Ytplbdipgnhddkaa.L

set_option maxHeartbeats 2000000 in
theorem order_law (a b c : Vec.V) (ha : In64 a) (hb : In64 b) (hc : In64 c) : Gives Try.prog 4 #[a.val, b.val, c.val] (.bool true) := by
  have g0 := awake03
  have fab := gfits a b
  have fbc := gfits b c
  have fac := gfits a c
  have ht := Vec.fits_trans a b c
  have hm := Vec.dom_mono a b c
  have da := gdom a c ha hc
  have db := gdom b c hb hc
  clear ha hb hc
  generalize Vec.fits a b = p at *
  generalize Vec.fits b c = q at *
  generalize Vec.fits a c = r at *
  generalize Vec.dom a c = m at *
  generalize Vec.dom b c = n at *
  obtain ⟨a0, a1, a2⟩ := a
  obtain ⟨b0, b1, b2⟩ := b
  obtain ⟨c0, c1, c2⟩ := c
  intro w
  unfold Vec.V.val at *
  cases p
  case false =>
    clear hm ht
    go_enter Try.func4, Try.ntmps4
    go_wp2_with fail
    refine (fab _).mono ?_
    rintro e w1 ⟨rfl, hb1⟩
    have hbw := keeps_trans (a := w) (by (repeat' (first | (with_reducible exact Below.refl _ _) | (with_reducible assumption) | (with_reducible refine Below.alloc ?_ ?_ _) | (with_reducible refine L.below_drewN ?_ _) | (with_reducible refine Below.drew ?_) | (with_reducible refine Below.setCell ?_ ?_ _) | (with_reducible refine Below.frame ?_ _) | go_size))) hb1
    have ba : Box3 w1 w.heap.size a0 a1 a2 := Box3.keep (by refine ⟨by simp; omega, ?_, ?_, ?_⟩ <;> simp [go_sem]) hb1
    have bb : Box3 w1 (w.heap.size + 1) b0 b1 b2 := Box3.keep (by refine ⟨by (first | (simp; done) | (simp; omega)), ?_, ?_, ?_⟩ <;> simp [go_sem]) hb1
    have bc : Box3 w1 (w.heap.size + 1 + 1) c0 c1 c2 := Box3.keep (by refine ⟨by simp, ?_, ?_, ?_⟩ <;> simp [go_sem]) hb1
    clear hb1
    go_wp2_with fail
    refine region_keep (by kernel_rfl) (by kernel_rfl) ?_
    obtain ⟨x0, x1, x2⟩ := ba.all
    obtain ⟨y0, y1, y2⟩ := bb.all
    obtain ⟨z0, z1, z2⟩ := bc.all
    clear ba bb bc
    repeat (apply L.wpKeep_yes; (focus rfl); (focus (intro W hW; go_simp; first | done | exact ⟨rfl, hW⟩ | rfl)); (focus (go_simp; first | done | rfl)))
    (apply L.wpKeep_yes; (focus rfl); (focus (intro W hW; go_simp; first | exact L.Gives.up fab hW | exact ⟨hW, L.Gives.up fab hW⟩)); (focus (go_simp; first | done | rfl)))
    repeat (apply L.wpKeep_yes; (focus rfl); (focus (intro W hW; go_simp; first | done | exact ⟨rfl, hW⟩ | rfl)); (focus (go_simp; first | done | rfl)))
    repeat (apply L.wpKeep_no; (focus rfl); (focus (go_simp; first | done | rfl)))
    repeat (apply L.wpKeep_yes; (focus rfl); (focus (intro W hW; go_simp; first | done | exact ⟨rfl, hW⟩ | rfl)); (focus (go_simp; first | done | rfl)))
    (apply L.wpKeep_yes; (focus rfl); (focus (intro W hW; go_simp; first | exact L.Gives.up g0 hW | exact ⟨hW, L.Gives.up g0 hW⟩)); (focus (go_simp; first | done | rfl)))
    repeat (apply L.wpKeep_yes; (focus rfl); (focus (intro W hW; go_simp; first | done | exact ⟨rfl, hW⟩ | rfl)); (focus (go_simp; first | done | rfl)))
    refine wpKeep_nil ?_
    intro W hW
    go_wp2
    go_returns
    exact ⟨rfl, keeps_trans hbw hW⟩
  have hmn : m ≤ n := hm rfl
  cases q
  case false =>
    clear hm ht
    go_enter Try.func4, Try.ntmps4
    go_wp2_with fail
    refine (fab _).mono ?_
    rintro e w1 ⟨rfl, hb1⟩
    have hbw := keeps_trans (a := w) (by (repeat' (first | (with_reducible exact Below.refl _ _) | (with_reducible assumption) | (with_reducible refine Below.alloc ?_ ?_ _) | (with_reducible refine L.below_drewN ?_ _) | (with_reducible refine Below.drew ?_) | (with_reducible refine Below.setCell ?_ ?_ _) | (with_reducible refine Below.frame ?_ _) | go_size))) hb1
    have ba : Box3 w1 w.heap.size a0 a1 a2 := Box3.keep (by refine ⟨by simp; omega, ?_, ?_, ?_⟩ <;> simp [go_sem]) hb1
    have bb : Box3 w1 (w.heap.size + 1) b0 b1 b2 := Box3.keep (by refine ⟨by (first | (simp; done) | (simp; omega)), ?_, ?_, ?_⟩ <;> simp [go_sem]) hb1
    have bc : Box3 w1 (w.heap.size + 1 + 1) c0 c1 c2 := Box3.keep (by refine ⟨by simp, ?_, ?_, ?_⟩ <;> simp [go_sem]) hb1
    clear hb1
    obtain ⟨za, x0, x1, x2⟩ := id ba
    obtain ⟨zb, y0, y1, y2⟩ := id bb
    obtain ⟨zc, z0, z1, z2⟩ := id bc
    go_wp2_with fail
    refine (fbc _).mono ?_
    rintro e w2 ⟨rfl, hb2⟩
    replace hbw := keeps_trans hbw hb2
    replace ba := ba.keep hb2
    replace bb := bb.keep hb2
    replace bc := bc.keep hb2
    clear hb2 za x0 x1 x2 zb y0 y1 y2 zc z0 z1 z2
    go_wp2_with fail
    refine region_keep (by kernel_rfl) (by kernel_rfl) ?_
    obtain ⟨x0, x1, x2⟩ := ba.all
    obtain ⟨y0, y1, y2⟩ := bb.all
    obtain ⟨z0, z1, z2⟩ := bc.all
    clear ba bb bc
    repeat (apply L.wpKeep_yes; (focus rfl); (focus (intro W hW; go_simp; first | done | exact ⟨rfl, hW⟩ | rfl)); (focus (go_simp; first | done | rfl)))
    (apply L.wpKeep_yes; (focus rfl); (focus (intro W hW; go_simp; first | exact L.Gives.up fab hW | exact ⟨hW, L.Gives.up fab hW⟩)); (focus (go_simp; first | done | rfl)))
    repeat (apply L.wpKeep_yes; (focus rfl); (focus (intro W hW; go_simp; first | done | exact ⟨rfl, hW⟩ | rfl)); (focus (go_simp; first | done | rfl)))
    (apply L.wpKeep_yes; (focus rfl); (focus (intro W hW; go_simp; first | exact L.Gives.up da hW | exact ⟨hW, L.Gives.up da hW⟩)); (focus (go_simp; first | done | rfl)))
    repeat (apply L.wpKeep_yes; (focus rfl); (focus (intro W hW; go_simp; first | done | exact ⟨rfl, hW⟩ | rfl)); (focus (go_simp; first | done | rfl)))
    (apply L.wpKeep_yes; (focus rfl); (focus (intro W hW; go_simp; first | exact L.Gives.up db hW | exact ⟨hW, L.Gives.up db hW⟩)); (focus (go_simp; first | done | rfl)))
    repeat (apply L.wpKeep_yes; (focus rfl); (focus (intro W hW; go_simp; first | done | exact ⟨rfl, hW⟩ | rfl)); (focus (go_simp; first | done | rfl)))
    (apply L.wpKeep_yes; (focus rfl); (focus (intro W hW; go_simp; first | exact L.Gives.up g0 hW | exact ⟨hW, L.Gives.up g0 hW⟩)); (focus (go_simp; first | done | rfl)))
    repeat (apply L.wpKeep_yes; (focus rfl); (focus (intro W hW; go_simp; first | done | exact ⟨rfl, hW⟩ | rfl)); (focus (go_simp; first | done | rfl)))
    refine wpKeep_nil ?_
    intro W hW
    go_wp2
    go_returns
    exact ⟨rfl, keeps_trans hbw hW⟩
  obtain rfl : r = true := ht rfl rfl
  clear hm ht
  go_enter Try.func4, Try.ntmps4
  go_wp2_with fail
  refine (fab _).mono ?_
  rintro e w1 ⟨rfl, hb1⟩
  have hbw := keeps_trans (a := w) (by (repeat' (first | (with_reducible exact Below.refl _ _) | (with_reducible assumption) | (with_reducible refine Below.alloc ?_ ?_ _) | (with_reducible refine L.below_drewN ?_ _) | (with_reducible refine Below.drew ?_) | (with_reducible refine Below.setCell ?_ ?_ _) | (with_reducible refine Below.frame ?_ _) | go_size))) hb1
  have ba : Box3 w1 w.heap.size a0 a1 a2 := Box3.keep (by refine ⟨by simp; omega, ?_, ?_, ?_⟩ <;> simp [go_sem]) hb1
  have bb : Box3 w1 (w.heap.size + 1) b0 b1 b2 := Box3.keep (by refine ⟨by (first | (simp; done) | (simp; omega)), ?_, ?_, ?_⟩ <;> simp [go_sem]) hb1
  have bc : Box3 w1 (w.heap.size + 1 + 1) c0 c1 c2 := Box3.keep (by refine ⟨by simp, ?_, ?_, ?_⟩ <;> simp [go_sem]) hb1
  clear hb1
  obtain ⟨za, x0, x1, x2⟩ := id ba
  obtain ⟨zb, y0, y1, y2⟩ := id bb
  obtain ⟨zc, z0, z1, z2⟩ := id bc
  go_wp2_with fail
  refine (fbc _).mono ?_
  rintro e w2 ⟨rfl, hb2⟩
  replace hbw := keeps_trans hbw hb2
  replace ba := ba.keep hb2
  replace bb := bb.keep hb2
  replace bc := bc.keep hb2
  clear hb2 za x0 x1 x2 zb y0 y1 y2 zc z0 z1 z2
  obtain ⟨za, x0, x1, x2⟩ := id ba
  obtain ⟨zb, y0, y1, y2⟩ := id bb
  obtain ⟨zc, z0, z1, z2⟩ := id bc
  go_wp2_with fail
  refine (fac _).mono ?_
  rintro e w3 ⟨rfl, hb3⟩
  replace hbw := keeps_trans hbw hb3
  replace ba := ba.keep hb3
  replace bb := bb.keep hb3
  replace bc := bc.keep hb3
  clear hb3 za x0 x1 x2 zb y0 y1 y2 zc z0 z1 z2
  go_wp2_with fail
  refine region_keep (by kernel_rfl) (by kernel_rfl) ?_
  obtain ⟨x0, x1, x2⟩ := ba.all
  obtain ⟨y0, y1, y2⟩ := bb.all
  obtain ⟨z0, z1, z2⟩ := bc.all
  clear ba bb bc
  repeat (apply L.wpKeep_yes; (focus rfl); (focus (intro W hW; go_simp; first | done | exact ⟨rfl, hW⟩ | rfl)); (focus (go_simp; first | done | rfl)))
  (apply L.wpKeep_yes; (focus rfl); (focus (intro W hW; go_simp; first | exact L.Gives.up fab hW | exact ⟨hW, L.Gives.up fab hW⟩)); (focus (go_simp; first | done | rfl)))
  repeat (apply L.wpKeep_yes; (focus rfl); (focus (intro W hW; go_simp; first | done | exact ⟨rfl, hW⟩ | rfl)); (focus (go_simp; first | done | rfl)))
  (apply L.wpKeep_yes; (focus rfl); (focus (intro W hW; go_simp; first | exact L.Gives.up da hW | exact ⟨hW, L.Gives.up da hW⟩)); (focus (go_simp; first | done | rfl)))
  repeat (apply L.wpKeep_yes; (focus rfl); (focus (intro W hW; go_simp; first | done | exact ⟨rfl, hW⟩ | rfl)); (focus (go_simp; first | done | rfl)))
  (apply L.wpKeep_yes; (focus rfl); (focus (intro W hW; go_simp; first | exact L.Gives.up db hW | exact ⟨hW, L.Gives.up db hW⟩)); (focus (go_simp; first | done | rfl)))
  repeat (apply L.wpKeep_yes; (focus rfl); (focus (intro W hW; go_simp; first | done | exact ⟨rfl, hW⟩ | rfl)); (focus (go_simp; first | done | rfl)))
  (apply L.wpKeep_yes; (focus rfl); (focus (intro W hW; go_simp; first | exact L.Gives.up g0 hW | exact ⟨hW, L.Gives.up g0 hW⟩)); (focus (go_simp; first | done | rfl)))
  repeat (apply L.wpKeep_yes; (focus rfl); (focus (intro W hW; go_simp; first | done | exact ⟨rfl, hW⟩ | rfl)); (focus (go_simp; first | done | rfl)))
  refine wpKeep_nil ?_
  intro W hW
  go_wp2
  go_returns
  exact ⟨rfl, keeps_trans hbw hW⟩

end Go.Proofs.Ytplbdipgnhddkaa.VecW
