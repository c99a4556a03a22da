/-
  The library's division of two words by one: its quotient, by a walk of its text; what is left is some number.
-/
import Derived.Test.YtplbdipgnhddkaaFixWalk
import Derived.Test.YtplbdipgnhddkaaDivPlain
import Derived.Deep.DeepCutAuto
import Derived.Deep.CutBlock
set_option linter.unusedVariables false
set_option linter.unusedSimpArgs false
namespace Go.Proofs.Ytplbdipgnhddkaa.FixW
open Go.RowKit Go.Proofs.Ytplbdipgnhddkaa.L

def DivPost (q : Nat) (w : World) (e : Ending) (w' : World) : Prop := (∃ r : Int, e = .returned (.tuple #[.int .u64 q, .int .u64 r])) ∧ ∃ n, w' = w.drewN n

theorem step_down {q r y1 U : Nat} (h : q * y1 + r = U) (h1 : 1 ≤ q) : (q - 1) * y1 + (r + y1) = U := by
  obtain ⟨p, rfl⟩ : ∃ p, q = p + 1 := ⟨q - 1, by omega⟩
  rw [Nat.add_mul, Nat.one_mul] at h
  rw [Nat.add_sub_cancel]; omega

theorem wrap_mul (q y0 : Nat) (h : q < 4294967296) (hy0 : y0 < 4294967296) : IntKind.u64.wrap ((q : Int) * (y0 : Int)) = ((q * y0 : Nat) : Int) := by
  have : q * y0 < 4294967296 * 4294967296 := Nat.mul_lt_mul'' h hy0
  rw [← Int.natCast_mul]
  exact Go.Proofs.Ytplbdipgnhddkaa.L.wrap_small .u64 rfl _ (by show _ < 18446744073709551616; omega)

set_option maxRecDepth 100000 in
set_option maxHeartbeats 2000000 in
theorem div64_core (hi lo y s Y y1 y0 U L u1 u0 q1 m1 r1 Q A C R q2 m2 r2 Q0 : Nat) (h0 : 0 < hi) (hy : hi < y) (hlo : lo ≤ 18446744073709551615) (hyt : y ≤ 18446744073709551615) (w : World) (hs : s < 64)
    (hl : ∀ w : World, Calls Try.prog 74 #[.int .u64 y] w fun e w' => e = .returned (.int .i64 s) ∧ w' = w)
    (e1 : IntKind.u64.wrap ((y : Int) * 2 ^ s) = (Y : Int)) (hY1 : (Y : Int) / 4294967296 = (y1 : Int)) (hy1 : 0 < y1) (hy1' : y1 < 4294967296)
    (hY0 : bits .and .u64 (Y : Int) 4294967295 = (y0 : Int))
    (e2 : bits .or .u64 (IntKind.u64.wrap ((hi : Int) * 2 ^ s)) ((lo : Int) / 2 ^ (64 - s)) = (U : Int)) (e3 : IntKind.u64.wrap ((lo : Int) * 2 ^ s) = (L : Int))
    (hL1 : (L : Int) / 4294967296 = (u1 : Int)) (hL0 : bits .and .u64 (L : Int) 4294967295 = (u0 : Int)) (hu1 : u1 < 4294967296) (hu0 : u0 < 4294967296)
    (hq1 : (U : Int) / (y1 : Int) = (q1 : Int)) (hqt : q1 ≤ 18446744073709551615) (hm1 : IntKind.u64.wrap ((q1 : Int) * (y1 : Int)) = (m1 : Int)) (hmU : m1 ≤ U) (hUt : U ≤ 18446744073709551615) (hr1 : (U : Int) - (m1 : Int) = (r1 : Int))
    (hrel1 : Hid (q1 * y1 + r1 = U ∧ Q ≤ q1 ∧ r1 < 4294967296)) (hQ : Hid (Q = (U * Dv.B + u1) / Y)) (hQB : Q < 4294967296) (hYd : Hid (Y = y1 * Dv.B + y0)) (hU : U < Y) (hy0 : y0 < 4294967296)
    (a1 : IntKind.u64.wrap ((U : Int) * 4294967296) = (A : Int)) (hA : A + u1 ≤ 18446744073709551615) (a3 : IntKind.u64.wrap ((Q : Int) * (Y : Int)) = (C : Int)) (a4 : IntKind.u64.wrap ((A : Int) + (u1 : Int) - (C : Int)) = (R : Int))
    (hq2 : (R : Int) / (y1 : Int) = (q2 : Int)) (hq2t : q2 ≤ 18446744073709551615) (hm2 : IntKind.u64.wrap ((q2 : Int) * (y1 : Int)) = (m2 : Int)) (hmR : m2 ≤ R) (hRt : R ≤ 18446744073709551615) (hr2 : (R : Int) - (m2 : Int) = (r2 : Int))
    (hrel2 : Hid (q2 * y1 + r2 = R ∧ Q0 ≤ q2 ∧ r2 < 4294967296)) (hQ0 : Hid (Q0 = (R * Dv.B + u0) / Y)) (hQ0B : Q0 < 4294967296) (hR : R < Y) :
    Calls Try.prog 72 #[.int .u64 hi, .int .u64 lo, .int .u64 y] w (DivPost (Q * 4294967296 + Q0) w) := by
  have hyb : ((y : Int) == 0) = false := by simp; omega
  have hhb : ((hi : Int) == 0) = false := by simp; omega
  have Hl := Lib.hid hl
  clear hl
  go_enter Try.func72, Try.ntmps72
  go_wp2_with fail
  refine (Hl.out _).mono ?_
  rintro e w1 ⟨rfl, rfl⟩
  go_upto_block 0 with fail
  clear hyb hhb e1 hY1 hY0 e2 e3 hL1 hL0 hq1 hm1 hr1
  go_cut [15, 16] (fun x z wx => wx = w1 ∧ x = .int .u64 Q)
  case first =>
    go_wp2_with fail
    go_loop [15, 16] (fun x z => ∃ q r : Nat, x = .int .u64 q ∧ z = .int .u64 r ∧ r < 4294967296 ∧ q ≤ 18446744073709551615 ∧ q * y1 + r = U ∧ Q ≤ q) (fun x z => (intOf x).toNat)
    case atStart => exact ⟨q1, r1, rfl, rfl, hrel1.out.2.2, by omega, hrel1.out.1, hrel1.out.2.1⟩
    case round =>
      obtain ⟨q, r, rfl, rfl, hr, hqt', hqr, hQq⟩ := hrel
      have Hqr := Lib.hid hqr
      clear hqr
      have more : ∀ p : Nat, q * y0 = p → (4294967296 ≤ q ∨ 4294967296 * r + u1 < p) → Q ≤ q - 1 ∧ 1 ≤ q := fun p hp hor => by
        subst hp
        have := Dv.more (u := u1) hYd.out Hqr.out (by rw [← hQ.out]; exact hQB) (by omega) hor (by rw [← hQ.out]; exact hQq)
        rw [← hQ.out] at this
        exact this
      have done : q * y0 ≤ 4294967296 * r + u1 → q = Q := fun h => by
        have := Dv.done hYd.out Hqr.out (by omega) h (by rw [← hQ.out]; exact hQq)
        rw [← hQ.out] at this
        exact this
      have brk : 1 ≤ q → Q ≤ q - 1 → 4294967296 ≤ r + y1 → q - 1 = Q := fun h1 h2 h => by
        have hd := step_down Hqr.out h1
        have hb := Dv.brk (u := u1) hYd.out hy0 hd hU h
        have := Dv.done hYd.out hd (by omega) hb (by rw [← hQ.out]; exact h2)
        rw [← hQ.out] at this
        exact this
      have More := Lib.hid more
      have Done := Lib.hid done
      have Brk := Lib.hid brk
      clear more done brk
      have hb2' : ∀ (h : 4294967296 ≤ r + y1), decide ((4294967296 : Int) ≤ (r : Int) + (y1 : Int)) = true := fun h => by simp; omega
      have hb2n : ∀ (h : ¬ 4294967296 ≤ r + y1), decide ((4294967296 : Int) ≤ (r : Int) + (y1 : Int)) = false := fun h => by simp; omega
      by_cases hA' : 4294967296 ≤ q
      · have hb1 : decide ((4294967296 : Int) ≤ (q : Int)) = true := by simp; omega
        have hm := Lib.hid (More.out _ rfl (.inl hA'))
        have hq1 : 1 ≤ q := by omega
        by_cases hbk : 4294967296 ≤ r + y1
        · have hb2 := hb2' hbk
          have Hbk := Lib.hid hbk
          clear hbk hb2' hb2n hA'
          go_wp2
          go_meet
          exact ⟨rfl, ret_val (by have := Brk.out hm.out.2 hm.out.1 Hbk.out; omega)⟩
        · have hb2 := hb2n hbk
          have hrb : r + y1 ≤ 4294967295 := by omega
          clear hbk hb2' hb2n hA'
          go_wp2
          go_round
          case rel => exact ⟨q - 1, r + y1, ret_val (by omega), ret_val (by omega), by omega, by omega, step_down Hqr.out hm.out.2, hm.out.1⟩
          case measure => simp [intOf]; omega
      · have hqB : q < 4294967296 := by omega
        have hb1 : decide ((4294967296 : Int) ≤ (q : Int)) = false := by simp; omega
        have hwm := wrap_mul q y0 hqB hy0
        obtain ⟨p, hp⟩ : ∃ p, q * y0 = p := ⟨_, rfl⟩
        have hpt : p ≤ 18446744065119617025 := by rw [← hp]; exact Nat.mul_le_mul (show q ≤ 4294967295 by omega) (show y0 ≤ 4294967295 by omega)
        rw [hp] at hwm
        by_cases hB' : 4294967296 * r + u1 < p
        · have hb3 : decide ((4294967296 : Int) * (r : Int) + (u1 : Int) < (p : Int)) = true := by simp; omega
          have hm := Lib.hid (More.out _ hp (.inr hB'))
          have hq1 : 1 ≤ q := hm.out.2
          by_cases hbk : 4294967296 ≤ r + y1
          · have hb2 := hb2' hbk
            have Hbk := Lib.hid hbk
            clear hbk hb2' hb2n hA' hB' hp
            go_wp2
            go_meet
            exact ⟨rfl, ret_val (by have := Brk.out hm.out.2 hm.out.1 Hbk.out; omega)⟩
          · have hb2 := hb2n hbk
            have hrb : r + y1 ≤ 4294967295 := by omega
            clear hbk hb2' hb2n hA' hB' hp
            go_wp2
            go_round
            case rel => exact ⟨q - 1, r + y1, ret_val (by omega), ret_val (by omega), by omega, by omega, step_down Hqr.out hm.out.2, hm.out.1⟩
            case measure => simp [intOf]; omega
        · have hb3 : decide ((4294967296 : Int) * (r : Int) + (u1 : Int) < (p : Int)) = false := by simp; omega
          have hd := Lib.hid (Done.out (by rw [hp]; omega))
          clear hb2' hb2n hA' hB' hp
          go_wp2
          go_meet
          exact ⟨rfl, ret_val (by rw [hd.out])⟩
  case rest =>
    obtain ⟨rfl, rfl⟩ := hcut
    go_upto_block 2 with fail
    clear a1 a3 a4 hq2 hm2 hr2
    go_cut [16, 18] (fun z x wx2 => wx2 = wc ∧ x = .int .u64 Q0)
    case first =>
      go_wp2_with fail
      go_loop [16, 18] (fun x z => ∃ q r : Nat, z = .int .u64 q ∧ x = .int .u64 r ∧ r < 4294967296 ∧ q ≤ 18446744073709551615 ∧ q * y1 + r = R ∧ Q0 ≤ q) (fun x z => (intOf z).toNat)
      case atStart => exact ⟨q2, r2, rfl, rfl, hrel2.out.2.2, by omega, hrel2.out.1, hrel2.out.2.1⟩
      case round =>
        obtain ⟨q, r, rfl, rfl, hr, hqt', hqr, hQq⟩ := hrel
        have Hqr := Lib.hid hqr
        clear hqr
        have more : ∀ p : Nat, q * y0 = p → (4294967296 ≤ q ∨ 4294967296 * r + u0 < p) → Q0 ≤ q - 1 ∧ 1 ≤ q := fun p hp hor => by
          subst hp
          have := Dv.more (u := u0) hYd.out Hqr.out (by rw [← hQ0.out]; exact hQ0B) (by omega) hor (by rw [← hQ0.out]; exact hQq)
          rw [← hQ0.out] at this
          exact this
        have done : q * y0 ≤ 4294967296 * r + u0 → q = Q0 := fun h => by
          have := Dv.done hYd.out Hqr.out (by omega) h (by rw [← hQ0.out]; exact hQq)
          rw [← hQ0.out] at this
          exact this
        have brk : 1 ≤ q → Q0 ≤ q - 1 → 4294967296 ≤ r + y1 → q - 1 = Q0 := fun h1 h2 h => by
          have hd := step_down Hqr.out h1
          have hb := Dv.brk (u := u0) hYd.out hy0 hd hR h
          have := Dv.done hYd.out hd (by omega) hb (by rw [← hQ0.out]; exact h2)
          rw [← hQ0.out] at this
          exact this
        have More := Lib.hid more
        have Done := Lib.hid done
        have Brk := Lib.hid brk
        clear more done brk
        have hb2' : ∀ (h : 4294967296 ≤ r + y1), decide ((4294967296 : Int) ≤ (r : Int) + (y1 : Int)) = true := fun h => by simp; omega
        have hb2n : ∀ (h : ¬ 4294967296 ≤ r + y1), decide ((4294967296 : Int) ≤ (r : Int) + (y1 : Int)) = false := fun h => by simp; omega
        by_cases hA' : 4294967296 ≤ q
        · have hb1 : decide ((4294967296 : Int) ≤ (q : Int)) = true := by simp; omega
          have hm := Lib.hid (More.out _ rfl (.inl hA'))
          have hq1 : 1 ≤ q := by omega
          by_cases hbk : 4294967296 ≤ r + y1
          · have hb2 := hb2' hbk
            have Hbk := Lib.hid hbk
            clear hbk hb2' hb2n hA'
            go_wp2
            go_meet
            exact ⟨rfl, ret_val (by have := Brk.out hm.out.2 hm.out.1 Hbk.out; omega)⟩
          · have hb2 := hb2n hbk
            have hrb : r + y1 ≤ 4294967295 := by omega
            clear hbk hb2' hb2n hA'
            go_wp2
            go_round
            case rel => exact ⟨q - 1, r + y1, ret_val (by omega), ret_val (by omega), by omega, by omega, step_down Hqr.out hm.out.2, hm.out.1⟩
            case measure => simp [intOf]; omega
        · have hqB : q < 4294967296 := by omega
          have hb1 : decide ((4294967296 : Int) ≤ (q : Int)) = false := by simp; omega
          have hwm := wrap_mul q y0 hqB hy0
          obtain ⟨p, hp⟩ : ∃ p, q * y0 = p := ⟨_, rfl⟩
          have hpt : p ≤ 18446744065119617025 := by rw [← hp]; exact Nat.mul_le_mul (show q ≤ 4294967295 by omega) (show y0 ≤ 4294967295 by omega)
          rw [hp] at hwm
          by_cases hB' : 4294967296 * r + u0 < p
          · have hb3 : decide ((4294967296 : Int) * (r : Int) + (u0 : Int) < (p : Int)) = true := by simp; omega
            have hm := Lib.hid (More.out _ hp (.inr hB'))
            have hq1 : 1 ≤ q := hm.out.2
            by_cases hbk : 4294967296 ≤ r + y1
            · have hb2 := hb2' hbk
              have Hbk := Lib.hid hbk
              clear hbk hb2' hb2n hA' hB' hp
              go_wp2
              go_meet
              exact ⟨rfl, ret_val (by have := Brk.out hm.out.2 hm.out.1 Hbk.out; omega)⟩
            · have hb2 := hb2n hbk
              have hrb : r + y1 ≤ 4294967295 := by omega
              clear hbk hb2' hb2n hA' hB' hp
              go_wp2
              go_round
              case rel => exact ⟨q - 1, r + y1, ret_val (by omega), ret_val (by omega), by omega, by omega, step_down Hqr.out hm.out.2, hm.out.1⟩
              case measure => simp [intOf]; omega
          · have hb3 : decide ((4294967296 : Int) * (r : Int) + (u0 : Int) < (p : Int)) = false := by simp; omega
            have hd := Lib.hid (Done.out (by rw [hp]; omega))
            clear hb2' hb2n hA' hB' hp
            go_wp2
            go_meet
            exact ⟨rfl, ret_val (by rw [hd.out])⟩
    case rest =>
      obtain ⟨rfl, rfl⟩ := hcut
      go_wp2
      go_ret2
      exact ⟨⟨_, rfl⟩, ⟨0, rfl⟩⟩

end Go.Proofs.Ytplbdipgnhddkaa.FixW
