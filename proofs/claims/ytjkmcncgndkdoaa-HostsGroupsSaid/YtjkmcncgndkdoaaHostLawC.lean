/-
  Chapter 16: all places of any level, over any world.
-/
import Derived.Test.YtjkmcncgndkdoaaHostRefGroups
import Derived.Test.YtjkmcncgndkdoaaIntsSame
import Derived.Test.YtjkmcncgndkdoaaHostAwake
import Derived.Deep.RegionWith
import Derived.BigRegion
set_option linter.unusedVariables false
set_option linter.unusedSimpArgs false
namespace Go.Proofs.Ytjkmcncgndkdoaa.CfgW
open Go.RowKit Go.Proofs.Ytjkmcncgndkdoaa.L

theorem ints_isl {w : World} {B : Nat} {v : Value} {l : List Nat} (h : Ints w B v l) : ISl w v (l.map fun (n : Nat) => (n : Int)) := by
  obtain ⟨A, c, rfl, hc⟩ := ints_cell h
  refine ⟨A, c, by simp, fun hne => ?_, ?_⟩
  · have hl : l ≠ [] := fun e => hne (by simp [e])
    obtain ⟨x, t, rfl⟩ := List.exists_cons_of_ne_nil hl
    obtain ⟨g, rfl, hB, hg, _⟩ := hc 0 x rfl
    refine ⟨g, 0, rfl, hg, fun i x' hx j u hu => ?_⟩
    rw [List.getElem?_map] at hx
    cases e : (x :: t)[i]? with
    | none => rw [e] at hx; cases hx
    | some y =>
      rw [e] at hx
      cases hx
      cases j with
      | succ j => simp [idec] at hu
      | zero =>
        simp [idec] at hu
        subst hu
        obtain ⟨g', e', _, _, hcell⟩ := hc i y e
        cases e'
        simpa using hcell
  · rcases h.2 with ⟨_, hx⟩ | ⟨g, cap, cur, _, _, _, h1, h2, _⟩
    · have : l.length = 0 := by simpa [ival] using hx
      simp [this]
    · have : l.length ≤ cap := by simpa [ival] using h1
      simp; omega

set_option maxRecDepth 100000 in
set_option maxHeartbeats 4000000 in
theorem groups_same {w : World} {Ba Bb : Nat} {va vb : Value} {gs : List (List Nat)} (ha : GRow w Ba va gs) (hb : GRow w Bb vb gs) (hlen : gs.length ≤ 1000000) : GivesAt Try.prog w 40 #[va, vb] (.bool true) := by
  intro w1 hb1
  replace ha := ha.below hb1
  replace hb := hb.below hb1
  clear hb1
  obtain ⟨A, ca, rfl, hsa⟩ := ha.form
  obtain ⟨B, cb, rfl, hsb⟩ := hb.form
  obtain ⟨N, hN⟩ : ∃ N, gs.length = N := ⟨_, rfl⟩
  have HN := Lib.hid hN
  have HA := Lib.hid ha
  have HB := Lib.hid hb
  have HSA := Lib.hid hsa
  have HSB := Lib.hid hsb
  rw [hN] at hlen HA HB HSA HSB ⊢
  clear ha hb hsa hsb hN
  go_enter Try.func40, Try.ntmps40
  have ht : ((N : Int) != (N : Int)) = false := by simp
  go_wp2_with fail
  go_loopw [5] (fun i wr => ∃ j : Nat, i = .int .i64 (j : Int) ∧ j ≤ N ∧ Below w1.heap.size w1 wr) (fun i _ => N - (intOf i).toNat)
  case atStart => exact ⟨0, rfl, by omega, Below.refl _ _⟩
  case round =>
    obtain ⟨j, rfl, hj, hbw⟩ := hrel
    rename World => wr
    have Hb := Lib.hid hbw
    clear hbw
    by_cases hjn : j < N
    · have hja : j < gs.length := by rw [HN.out]; exact hjn
      obtain ⟨G, rfl⟩ := HSA.out (by omega)
      obtain ⟨G2, rfl⟩ := HSB.out (by omega)
      obtain ⟨-, g1, -, x, hx, hix, -⟩ := (HA.out.below Hb.out).at_ hja
      obtain ⟨-, g2, -, y, hy, hiy, -⟩ := (HB.out.below Hb.out).at_ hja
      have gi := Lib.hid (ints_same (ints_isl hix) (ints_isl hiy))
      obtain ⟨a1, c1, e1, -⟩ := RowV.form hix
      obtain ⟨a2, c2, e2, -⟩ := RowV.form hiy
      subst e1 e2
      generalize (ival gs[j]).length = m1 at *
      have P1 := fun W (k : Onward wr W) => k.cell g1 hx
      have P2 := fun W (k : Onward wr W) => k.cell g2 hy
      clear hx hy hix hiy hja
      go_wp2_with fail
      refine region_keep (by kernel_rfl) (by kernel_rfl) ?_
      repeat (apply Go.Proofs.Ytjkmcncgndkdoaa.L.wpKeep_yes; (focus rfl); (focus (intro W hW; go_simp; first | done | exact ⟨rfl, hW⟩ | rfl)); (focus (go_simp; first | done | rfl)))
      (apply Go.Proofs.Ytjkmcncgndkdoaa.L.wpKeep_yes; (focus rfl); (focus (intro W hW; go_simp; first | exact (gi.out.up (Below.refl _ _)) W hW | exact ⟨hW, (gi.out.up (Below.refl _ _)) W hW⟩)); (focus (go_simp; first | done | rfl)))
      repeat (apply Go.Proofs.Ytjkmcncgndkdoaa.L.wpKeep_yes; (focus rfl); (focus (intro W hW; go_simp; first | done | exact ⟨rfl, hW⟩ | rfl)); (focus (go_simp; first | done | rfl)))
      refine wpKeep_nil ?_
      intro W hW
      have HW := Lib.hid (keeps_trans Hb.out hW)
      clear hW P1 P2
      go_wp2_with fail
      go_roundw
      case rel => exact ⟨j + 1, by go_num, by omega, HW.out⟩
      case measure => simp [intOf]; omega
    · go_wp2_with fail
      go_ret
      exact ⟨rfl, Hb.out⟩

set_option maxRecDepth 100000 in
set_option maxHeartbeats 8000000 in
theorem lawgroups_any {w : World} {v : Value} {c : Cfg.C} (hc : CfgAt w v c) (level : Int) : Calls Try.prog 11 #[v, .int .i64 level] w fun e w' => e = .returned (.bool true) ∧ Below w.heap.size w w' := by
  have hc0 := hc
  obtain ⟨v1, v2, rfl, ⟨A, ca, rfl, hrA, hl⟩, ⟨B, cb, rfl, hrB, hl2⟩⟩ := hc
  unfold maxLen at hl2
  have hlen : c.hosts.length ≤ 100 → c.hosts.length ≤ 1000000 := fun h => by omega
  have gF := Lib.hid (fun h w1 hb => groups_any hc0 level (hlen h) w1 hb)
  have gR := Lib.hid (fun h w1 hb => rgroups_any hc0 level (hlen h) w1 hb)
  have gl : c.hosts.length ≤ 100 → (Hst.groups c.hosts level).length ≤ 1000000 := fun h => by
    unfold Hst.groups
    split
    · have := Hst.gTo_le c.hosts level c.hosts.length
      simp; omega
    · simp
  have gS := Lib.hid (fun h (w : World) (Ba Bb : Nat) (va vb : Value) (ha : GRow w Ba va (Hst.groups c.hosts level)) (hb : GRow w Bb vb (Hst.groups c.hosts level)) => groups_same ha hb (gl h))
  obtain ⟨N, hN⟩ : ∃ N, c.nodes.length = N := ⟨_, rfl⟩
  obtain ⟨M, hM⟩ : ∃ M, c.hosts.length = M := ⟨_, rfl⟩
  obtain ⟨half, hhalf⟩ : ∃ z, c.half = z := ⟨_, rfl⟩
  obtain ⟨age, hage⟩ : ∃ z, c.age = z := ⟨_, rfl⟩
  rw [hN, hM, hhalf, hage] at gF gR ⊢
  rw [hM] at hl2 gS
  generalize Hst.groups c.hosts level = GS at *
  have hbx := CBox.new w (.slice A N ca) (.slice B M cb) half age
  have hbw : Below w.heap.size w (w.alloc (.cells #[.slice A N ca, .slice B M cb, .int .i64 half, .int .i64 age] 25)) := (Below.refl _ _).alloc (Nat.le_refl _) _
  clear hc0 hrA hl hrB hlen hN hM hhalf hage gl
  go_enter Try.func11, Try.ntmps11
  generalize hwq : w.alloc (.cells #[.slice A N ca, .slice B M cb, .int .i64 half, .int .i64 age] 25) = wq at *
  have HBX : Hid (∀ W, Below wq.heap.size wq W → CBox W w.heap.size (.slice A N ca) (.slice B M cb) half age) := Lib.hid (fun W hW => hbx.on hW)
  obtain ⟨hx0, x0, x1, x2, x3⟩ := hbx
  have aw := Lib.hid awake16
  by_cases h1 : 100 < M
  · have t1 : decide ((100 : Int) < (M : Int)) = true := by simp; omega
    clear h1
    go_wp2_with fail
    refine (aw.out _).mono ?_
    rintro e w2 ⟨rfl, hb2⟩
    have hb3 := keeps_trans hbw hb2
    go_wp2_with fail
    go_ret
    exact ⟨rfl, hb3⟩
  · have t1 : decide ((100 : Int) < (M : Int)) = false := by simp; omega
    have HF := Lib.hid (gF.out (by omega))
    have HR := Lib.hid (gR.out (by omega))
    have HS := Lib.hid (fun (w : World) (Ba Bb : Nat) (va vb : Value) (ha : GRow w Ba va GS) (hb : GRow w Bb vb GS) => gS.out (by omega) w Ba Bb va vb ha hb)
    clear h1 gF gR gS
    go_wp2_with fail
    clear hwq
    go_region_with (first
      | (go_at_call 41; refine (HF.out _ (keeps_trans hbw (by (repeat' (first | (with_reducible exact Below.refl _ _) | (with_reducible assumption) | (with_reducible refine Below.alloc ?_ ?_ _) | (with_reducible refine Go.Proofs.Ytjkmcncgndkdoaa.L.below_drewN ?_ _) | (with_reducible refine Below.drew ?_) | (with_reducible refine Below.setCell ?_ ?_ _) | (with_reducible refine Below.frame ?_ _) | go_size))))).mono ?_; rintro e wA ⟨fv, rfl, hfv, hbA⟩; have hqA : Below wq.heap.size wq wA := keeps_trans (by (repeat' (first | (with_reducible exact Below.refl _ _) | (with_reducible assumption) | (with_reducible refine Below.alloc ?_ ?_ _) | (with_reducible refine Go.Proofs.Ytjkmcncgndkdoaa.L.below_drewN ?_ _) | (with_reducible refine Below.drew ?_) | (with_reducible refine Below.setCell ?_ ?_ _) | (with_reducible refine Below.frame ?_ _) | go_size))) hbA; obtain ⟨-, a0, a1, a2, a3⟩ := HBX.out wA hqA)
      | (go_at_call 42; refine (HR.out _ (keeps_trans hbw (by (repeat' (first | (with_reducible exact Below.refl _ _) | (with_reducible assumption) | (with_reducible refine Below.alloc ?_ ?_ _) | (with_reducible refine Go.Proofs.Ytjkmcncgndkdoaa.L.below_drewN ?_ _) | (with_reducible refine Below.drew ?_) | (with_reducible refine Below.setCell ?_ ?_ _) | (with_reducible refine Below.frame ?_ _) | go_size))))).mono ?_; rintro e wB ⟨rv, rfl, hrv, hbB⟩; have hqB : Below wq.heap.size wq wB := keeps_trans (by (repeat' (first | (with_reducible exact Below.refl _ _) | (with_reducible assumption) | (with_reducible refine Below.alloc ?_ ?_ _) | (with_reducible refine Go.Proofs.Ytjkmcncgndkdoaa.L.below_drewN ?_ _) | (with_reducible refine Below.drew ?_) | (with_reducible refine Below.setCell ?_ ?_ _) | (with_reducible refine Below.frame ?_ _) | go_size))) hbB; obtain ⟨-, b0, b1, b2, b3⟩ := HBX.out wB hqB)
      | (go_at_call 40; (first | refine (HS.out _ _ _ _ _ (hfv.below hbB) hrv _ (by (repeat' (first | (with_reducible exact Below.refl _ _) | (with_reducible assumption) | (with_reducible refine Below.alloc ?_ ?_ _) | (with_reducible refine Go.Proofs.Ytjkmcncgndkdoaa.L.below_drewN ?_ _) | (with_reducible refine Below.drew ?_) | (with_reducible refine Below.setCell ?_ ?_ _) | (with_reducible refine Below.frame ?_ _) | go_size)))).mono ?_ | refine (HS.out _ _ _ _ _ hfv (hrv.below hbA) _ (by (repeat' (first | (with_reducible exact Below.refl _ _) | (with_reducible assumption) | (with_reducible refine Below.alloc ?_ ?_ _) | (with_reducible refine Go.Proofs.Ytjkmcncgndkdoaa.L.below_drewN ?_ _) | (with_reducible refine Below.drew ?_) | (with_reducible refine Below.setCell ?_ ?_ _) | (with_reducible refine Below.frame ?_ _) | go_size)))).mono ?_); rintro e wL ⟨rfl, hbL⟩; have hqL : Below wq.heap.size wq wL := keeps_trans (by (repeat' (first | (with_reducible exact Below.refl _ _) | (with_reducible assumption) | (with_reducible refine Below.alloc ?_ ?_ _) | (with_reducible refine Go.Proofs.Ytjkmcncgndkdoaa.L.below_drewN ?_ _) | (with_reducible refine Below.drew ?_) | (with_reducible refine Below.setCell ?_ ?_ _) | (with_reducible refine Below.frame ?_ _) | go_size))) hbL)
      | (go_at_call 37; refine (aw.out _).mono ?_; rintro e wZ ⟨rfl, hbZ⟩; have hqZ : Below wq.heap.size wq wZ := keeps_trans (by (repeat' (first | (with_reducible exact Below.refl _ _) | (with_reducible assumption) | (with_reducible refine Below.alloc ?_ ?_ _) | (with_reducible refine Go.Proofs.Ytjkmcncgndkdoaa.L.below_drewN ?_ _) | (with_reducible refine Below.drew ?_) | (with_reducible refine Below.setCell ?_ ?_ _) | (with_reducible refine Below.frame ?_ _) | go_size))) hbZ))
    all_goals (go_wp2_with fail; go_ret; exact ⟨rfl, keeps_trans hbw hqZ⟩)
end Go.Proofs.Ytjkmcncgndkdoaa.CfgW
