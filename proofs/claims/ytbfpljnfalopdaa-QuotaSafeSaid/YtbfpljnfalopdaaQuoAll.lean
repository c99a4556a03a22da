/-
  The rule of a cohort: the second closure of quota.rules.
-/
import Derived.Test.YtbfpljnfalopdaaQuoRules
import Derived.Test.YtbfpljnfalopdaaFloat
set_option linter.unusedVariables false
set_option linter.unusedSimpArgs false
namespace Go.Proofs.Ytbfpljnfalopdaa.CfgW
open Go Go.RowKit Go.Proofs.Ytbfpljnfalopdaa.L

set_option maxRecDepth 100000 in
set_option maxHeartbeats 1000000 in
theorem all57_any {w : World} {bc bu bt bn : Nat} {v1 v2 va : Value} {half age t : Int} {need : Vec.V} {c : Cfg.C} {xs : List Vec.V} (h : RuleAt w bc bu bt bn v1 v2 va half age t need c xs) (hN : c.nodes.length ≤ 1000000) (x : Nat) :
    Calls Try.prog 57 #[.int .i64 (x : Int), .pointer (some ⟨bc, 0, none⟩), .pointer (some ⟨bu, 0, none⟩), .pointer (some ⟨bn, 0, none⟩), .pointer (some ⟨bt, 0, none⟩)] w fun e w' => e = .returned (.bool (Quo.mayAll c xs t need x)) ∧ Below w.heap.size w w' := by
  have hmay : Quo.mayAll c xs t need x = Vec.fits (Vec.add (Vec.add (Tree.sum c (x : Int) xs) need) (Quo.kept c xs (x : Int) t)) (Quo.nominal c (x : Int)) := rfl
  have gS := qsum_any h.cfg hN h.sl (x : Int)
  have gK := kept_any h.cfg hN h.sl (x : Int) t
  have gN := nominal_any h.cfg hN (x : Int)
  have H := Lib.hid h
  obtain ⟨A5, c5, rfl, -, -⟩ := id h.sl
  generalize xs.length = U at *
  obtain ⟨s, hs⟩ : ∃ s, Tree.sum c (x : Int) xs = s := ⟨_, rfl⟩
  obtain ⟨k, hk⟩ : ∃ k, Quo.kept c xs (x : Int) t = k := ⟨_, rfl⟩
  obtain ⟨n, hn⟩ : ∃ n, Quo.nominal c (x : Int) = n := ⟨_, rfl⟩
  obtain ⟨a, ha⟩ : ∃ a, Vec.add s need = a := ⟨_, rfl⟩
  obtain ⟨d, hd⟩ : ∃ d, Vec.add a k = d := ⟨_, rfl⟩
  obtain ⟨r, hr⟩ : ∃ r, Vec.fits d n = r := ⟨_, rfl⟩
  have g1 := VecW.gadd s need
  have g2 := VecW.gadd a k
  have g3 := VecW.gfits d n
  rw [hs] at gS hmay
  rw [hk] at gK hmay
  rw [hn] at gN hmay
  rw [ha] at g1 hmay
  rw [hd] at g2 hmay
  rw [hr] at g3 hmay
  rw [hmay]
  obtain ⟨s0, s1, s2⟩ := s
  obtain ⟨k0, k1, k2⟩ := k
  obtain ⟨n0, n1, n2⟩ := n
  obtain ⟨a0, a1, a2⟩ := a
  obtain ⟨d0, d1, d2⟩ := d
  obtain ⟨m0, m1, m2⟩ := need
  have GS := Lib.hid gS
  have GK := Lib.hid gK
  have GN := Lib.hid gN
  have G1 := Lib.hid g1
  have G2 := Lib.hid g2
  have G3 := Lib.hid g3
  have gs : ∀ W, Onward w W → Calls Try.prog 58 #[.agg #[v1, v2, .int .i64 half, .int .i64 age], .int .i64 (x : Int), .slice A5 U c5] W fun e W' => e = .returned (.agg #[.int .i64 s0, .int .i64 s1, .int .i64 s2]) ∧ Onward w W' := GS.out.up (Onward.refl w)
  have g1' : Gives Try.prog 43 #[.agg #[.int .i64 s0, .int .i64 s1, .int .i64 s2], .agg #[.int .i64 m0, .int .i64 m1, .int .i64 m2]] (.agg #[.int .i64 a0, .int .i64 a1, .int .i64 a2]) := G1.out
  obtain ⟨-, ⟨b0, b1, b2, b3, b4⟩, -, ⟨u0, u1⟩, ⟨t0, t1⟩, ⟨e0, e1, e2, e3⟩⟩ := h
  simp only [Nat.zero_add] at e1 e2 e3
  have P0 := fun W' (k : Onward w W') => k.cell b0 b1
  have P1 := fun W' (k : Onward w W') => k.cell b0 b2
  have P2 := fun W' (k : Onward w W') => k.cell b0 b3
  have P3 := fun W' (k : Onward w W') => k.cell b0 b4
  have P4 := fun W' (k : Onward w W') => k.cell u0 u1
  have P5 := fun W' (k : Onward w W') => k.cell e0 e1
  have P6 := fun W' (k : Onward w W') => k.cell e0 e2
  have P7 := fun W' (k : Onward w W') => k.cell e0 e3
  have gs2 : GivesAt Try.prog w 58 #[.agg #[v1, v2, .int .i64 half, .int .i64 age], .int .i64 (x : Int), .slice A5 U c5] (.agg #[.int .i64 s0, .int .i64 s1, .int .i64 s2]) := GS.out
  clear b0 b1 b2 b3 b4 u0 u1 t0 t1 e0 e1 e2 e3 hs hk hn ha hd hr hmay gS gK gN g1 g2 g3 gs
  go_enter Try.func57, Try.ntmps57
  go_wp2_with fail
  refine region_float 6 29 #[.int .i64 0, .int .i64 0, .int .i64 0] 7 (by kernel_rfl) (by kernel_rfl) ⟨_, rfl, rfl, fun a W => by simp [go_sem]⟩ ?_
  simp only [List.take_succ_cons, List.take_zero, List.drop_succ_cons, List.drop_zero]
  repeat (apply Go.Proofs.Ytbfpljnfalopdaa.L.wpKeepY_yes; (focus rfl); (focus (intro W hW; go_simp; first | done | exact ⟨rfl, Below.refl _ _⟩ | exact Below.refl _ _ | rfl)); (focus (go_simp; first | done | rfl)))
  (apply Go.Proofs.Ytbfpljnfalopdaa.L.wpKeepY_yes; (focus rfl); (focus (intro W hW; go_simp; first | exact gs2 W hW | exact ⟨Below.refl _ _, gs2 W hW⟩)); (focus (go_simp; first | done | rfl)))
  repeat (apply Go.Proofs.Ytbfpljnfalopdaa.L.wpKeepY_yes; (focus rfl); (focus (intro W hW; go_simp; first | done | exact ⟨rfl, Below.refl _ _⟩ | exact Below.refl _ _ | rfl)); (focus (go_simp; first | done | rfl)))
  (apply Go.Proofs.Ytbfpljnfalopdaa.L.wpKeepY_yes; (focus rfl); (focus (intro W hW; go_simp; first | exact g1' W | exact ⟨Below.refl _ _, g1' W⟩)); (focus (go_simp; first | done | rfl)))
  refine wpKeepY_nil ?_
  intro b W hW hb hBk
  have hV : VOwn W b Vec.zero := hBk
  obtain ⟨-, q3, q4⟩ := VOwn.cells hV
  obtain ⟨⟨q0, q1, q2⟩, -, -⟩ := VOwn.cells hV
  have f0 := q3 0
  have f1 := q3 1
  have f2 := q3 2
  simp only [Nat.zero_add] at q1 q2
  have hks := store3_kept W b (.int .i64 a0) (.int .i64 a1) (.int .i64 a2)
  have hb2 : Below w.heap.size w (((W.setCell ⟨b, 0, none⟩ (.int .i64 a0)).setCell ⟨b, 1, none⟩ (.int .i64 a1)).setCell ⟨b, 2, none⟩ (.int .i64 a2)) := Below.trans hW (hks.below (Below.size hW) (fun i (e : i = b) => by omega))
  have HE := Lib.hid (And.intro hb2 (VOwn.store hV ⟨a0, a1, a2⟩))
  clear P0 P1 P2 P3 P4 P5 P6 P7 gs2 g1' hV hBk q3 hks hb2 hW
  go_wp2_with fail
  generalize ((W.setCell ⟨b, 0, none⟩ (.int .i64 a0)).setCell ⟨b, 1, none⟩ (.int .i64 a1)).setCell ⟨b, 2, none⟩ (.int .i64 a2) = w2 at *
  obtain ⟨hb2, hV2⟩ := HE.out
  obtain ⟨-, ⟨b0, b1, b2, b3, b4⟩, -, ⟨u0, u1⟩, ⟨t0, t1⟩, ⟨e0, e1, e2, e3⟩⟩ := H.out.on hb2
  simp only [Nat.zero_add] at e1 e2 e3
  obtain ⟨⟨r0, r1, r2⟩, -, r4⟩ := VOwn.cells hV2
  simp only [Nat.zero_add] at r1 r2
  have P0 := fun W' (k : Onward w2 W') => k.cell b0 b1
  have P1 := fun W' (k : Onward w2 W') => k.cell b0 b2
  have P2 := fun W' (k : Onward w2 W') => k.cell b0 b3
  have P3 := fun W' (k : Onward w2 W') => k.cell b0 b4
  have P4 := fun W' (k : Onward w2 W') => k.cell u0 u1
  have P5 := fun W' (k : Onward w2 W') => k.cell t0 t1
  have P6 := fun W' (k : Onward w2 W') => k.cell r4 r0
  have P7 := fun W' (k : Onward w2 W') => k.cell r4 r1
  have P8 := fun W' (k : Onward w2 W') => k.cell r4 r2
  have gk : ∀ W, Onward w2 W → Calls Try.prog 39 #[.agg #[v1, v2, .int .i64 half, .int .i64 age], .slice A5 U c5, .int .i64 (x : Int), .int .i64 t] W fun e W' => e = .returned (.agg #[.int .i64 k0, .int .i64 k1, .int .i64 k2]) ∧ Onward w2 W' := (GK.out.on hb2).up (Onward.refl w2)
  have gn : ∀ W, Onward w2 W → Calls Try.prog 38 #[.agg #[v1, v2, .int .i64 half, .int .i64 age], .int .i64 (x : Int)] W fun e W' => e = .returned (.agg #[.int .i64 n0, .int .i64 n1, .int .i64 n2]) ∧ Onward w2 W' := (GN.out.on hb2).up (Onward.refl w2)
  have g2' : Gives Try.prog 43 #[.agg #[.int .i64 a0, .int .i64 a1, .int .i64 a2], .agg #[.int .i64 k0, .int .i64 k1, .int .i64 k2]] (.agg #[.int .i64 d0, .int .i64 d1, .int .i64 d2]) := G2.out
  have g3' : Gives Try.prog 42 #[.agg #[.int .i64 d0, .int .i64 d1, .int .i64 d2], .agg #[.int .i64 n0, .int .i64 n1, .int .i64 n2]] (.bool r) := G3.out
  clear b0 b1 b2 b3 b4 u0 u1 t0 t1 e0 e1 e2 e3 r0 r1 r2 hb2 hV2 q0 q1 q2 q4
  refine region_keep (by kernel_rfl) (by kernel_rfl) ?_
  repeat (apply Go.Proofs.Ytbfpljnfalopdaa.L.wpKeep_yes; (focus rfl); (focus (intro W hW; go_simp; first | done | exact ⟨rfl, hW⟩ | rfl)); (focus (go_simp; first | done | rfl)))
  (apply Go.Proofs.Ytbfpljnfalopdaa.L.wpKeep_yes; (focus rfl); (focus (intro W hW; go_simp; first | exact gk W hW | exact ⟨hW, gk W hW⟩)); (focus (go_simp; first | done | rfl)))
  (apply Go.Proofs.Ytbfpljnfalopdaa.L.wpKeep_yes; (focus rfl); (focus (intro W hW; go_simp; first | exact Go.Proofs.Ytbfpljnfalopdaa.L.Gives.up g2' hW | exact ⟨hW, Go.Proofs.Ytbfpljnfalopdaa.L.Gives.up g2' hW⟩)); (focus (go_simp; first | done | rfl)))
  repeat (apply Go.Proofs.Ytbfpljnfalopdaa.L.wpKeep_yes; (focus rfl); (focus (intro W hW; go_simp; first | done | exact ⟨rfl, hW⟩ | rfl)); (focus (go_simp; first | done | rfl)))
  (apply Go.Proofs.Ytbfpljnfalopdaa.L.wpKeep_yes; (focus rfl); (focus (intro W hW; go_simp; first | exact gn W hW | exact ⟨hW, gn W hW⟩)); (focus (go_simp; first | done | rfl)))
  (apply Go.Proofs.Ytbfpljnfalopdaa.L.wpKeep_yes; (focus rfl); (focus (intro W hW; go_simp; first | exact Go.Proofs.Ytbfpljnfalopdaa.L.Gives.up g3' hW | exact ⟨hW, Go.Proofs.Ytbfpljnfalopdaa.L.Gives.up g3' hW⟩)); (focus (go_simp; first | done | rfl)))
  repeat (apply Go.Proofs.Ytbfpljnfalopdaa.L.wpKeep_yes; (focus rfl); (focus (intro W hW; go_simp; first | done | exact ⟨rfl, hW⟩ | rfl)); (focus (go_simp; first | done | rfl)))
  refine wpKeep_nil ?_
  intro W5 hW5
  have HF := Lib.hid (keeps_trans HE.out.1 hW5)
  clear gk gn g2' g3' P0 P1 P2 P3 P4 P5 P6 P7 P8 hW5
  go_wp2_with fail
  go_ret
  exact ⟨rfl, HF.out⟩
end Go.Proofs.Ytbfpljnfalopdaa.CfgW
