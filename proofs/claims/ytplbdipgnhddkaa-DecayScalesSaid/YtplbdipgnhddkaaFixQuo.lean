/-
  The quotients of package fixpt and of its reference: their contracts.
-/
import Derived.Test.YtplbdipgnhddkaaDivWalk
set_option linter.unusedVariables false
set_option linter.unusedSimpArgs false
namespace Go.Proofs.Ytplbdipgnhddkaa.FixW
open Go.RowKit Go.Proofs.Ytplbdipgnhddkaa.L

theorem lz (y : Nat) (hyt : y ≤ 18446744073709551615) (s : Nat) (hs : s < 64) (h1 : 2 ^ (63 - s) ≤ y) (h2 : y / 2 ^ (63 - s) = 1) (w : World) :
    Calls Try.prog 74 #[.int .u64 y] w fun e w' => e = .returned (.int .i64 s) ∧ w' = w := by
  refine (Try.bits_LeadingZeros64 (y : Int) w (by omega) (by omega)).mono fun e w' ⟨he, hw⟩ => ⟨he.trans (ret_int ?_), hw⟩
  have hb := Lib.bitLen_shift (63 - s) y h1 (by show _ < 18446744073709551616; omega)
  rw [h2, show Lib.bitLen 1 = 1 from by decide +kernel] at hb
  rw [Int.toNat_natCast, hb]
  omega

theorem wrap_of (n m : Nat) (h : n = m) (hm : m ≤ 18446744073709551615) (x : Int) (hx : x = (n : Int)) : IntKind.u64.wrap x = (m : Int) := by
  subst h hx
  exact Go.Proofs.Ytplbdipgnhddkaa.L.wrap_small .u64 rfl _ (by show _ < 18446744073709551616; omega)

theorem wrap_mod (x : Int) (m : Nat) (h : x % 18446744073709551616 = (m : Int)) : IntKind.u64.wrap x = (m : Int) := by rw [IntKind.wrap_u64, h]

theorem and_low (Y : Nat) (h : Y ≤ 18446744073709551615) : bits .and .u64 (Y : Int) 4294967295 = ((Y % 4294967296 : Nat) : Int) := by
  rw [show (4294967295 : Int) = ((4294967295 : Nat) : Int) from rfl, bits_and_nat .u64 rfl Y 4294967295 (by show _ < 18446744073709551616; omega) (by decide)]
  rw [show (4294967295 : Nat) = 2 ^ 32 - 1 from rfl, Nat.and_two_pow_sub_one_eq_mod]

/-- One half: the guess and what is left. -/
theorem half (U u Y y1 y0 : Nat) (hYd : Y = y1 * Dv.B + y0) (hy0 : y0 < Dv.B) (hy1 : 2147483648 ≤ y1) (hy1' : y1 < 4294967296) (hu : u < 4294967296) (hU : U < Y) (hYt : Y ≤ 18446744073709551615) :
    ∃ q m r Q : Nat, (U : Int) / (y1 : Int) = (q : Int) ∧ q ≤ 18446744073709551615 ∧ IntKind.u64.wrap ((q : Int) * (y1 : Int)) = (m : Int) ∧ m ≤ U ∧ (U : Int) - (m : Int) = (r : Int) ∧ Hid (q * y1 + r = U ∧ Q ≤ q ∧ r < 4294967296) ∧
      Hid (Q = (U * Dv.B + u) / Y) ∧ Q < 4294967296 := by
  have hm : U / y1 * y1 ≤ U := Nat.div_mul_le_self _ _
  have hd := Nat.div_add_mod U y1
  have hr := Nat.mod_lt U (show 0 < y1 by omega)
  refine ⟨U / y1, U / y1 * y1, U % y1, (U * Dv.B + u) / Y, by omega, ?_, ?_, hm, ?_, ⟨?_, Dv.start hYd hu (by omega), by omega⟩, rfl, Dv.small hU hu⟩
  · have := Nat.div_le_self U y1; omega
  · exact wrap_of (U / y1 * y1) _ rfl (by omega) _ (by rw [Int.natCast_mul])
  · rw [Nat.mul_comm] at hd; omega
  · rw [Nat.mul_comm] at hd; exact hd

theorem div64_big (hi lo y : Nat) (h0 : 0 < hi) (hy : hi < y) (hlo : lo ≤ 18446744073709551615) (hyt : y ≤ 18446744073709551615) (w : World) :
    Calls Try.prog 72 #[.int .u64 hi, .int .u64 lo, .int .u64 y] w (DivPost ((hi * 18446744073709551616 + lo) / y) w) := by
  obtain ⟨s, hs, n1, n2, n3, n4, n5, n6, n7, n8⟩ := Dv.norm hi lo y hy (by omega) (by omega)
  obtain ⟨Y, hY⟩ : ∃ Y, y * 2 ^ s = Y := ⟨_, rfl⟩
  obtain ⟨U, hU⟩ : ∃ U, hi * 2 ^ s + lo / 2 ^ (64 - s) = U := ⟨_, rfl⟩
  obtain ⟨L, hL⟩ : ∃ L, lo * 2 ^ s % 18446744073709551616 = L := ⟨_, rfl⟩
  rw [hY] at n3 n4 n7
  rw [hU] at n7
  have hLt : L < 18446744073709551616 := by rw [← hL]; exact Nat.mod_lt _ (by omega)
  have hYd : Y = Y / 4294967296 * Dv.B + Y % 4294967296 := by unfold Dv.B; omega
  have hy0 : Y % 4294967296 < Dv.B := Nat.mod_lt _ (by decide)
  obtain ⟨q1, m1, r1, Q, f1, f2, f3, f4, f5, f6, f7, f8⟩ := half U (L / 4294967296) Y (Y / 4294967296) (Y % 4294967296) hYd hy0 (by omega) (by omega) (by omega) n7 (by omega)
  have hR := Dv.left U (L / 4294967296) Y Q n4 (by omega) f7.out.symm
  obtain ⟨R, hRe⟩ : ∃ R, (U * Dv.B + L / 4294967296) % Y = R := ⟨_, rfl⟩
  rw [hRe] at hR
  obtain ⟨q2, m2, r2, Q0, g1, g2, g3, g4, g5, g6, g7, g8⟩ := half R (L % 4294967296) Y (Y / 4294967296) (Y % 4294967296) hYd hy0 (by omega) (by omega) (by omega) hR.2 (by omega)
  have hres : Q * 4294967296 + Q0 = (hi * 18446744073709551616 + lo) / y := by
    have hb := Dv.both U (L / 4294967296) (L % 4294967296) Y (by omega)
    rw [← f7.out, hRe, ← g7.out] at hb
    rw [← Dv.shifted _ y s, n8, hU, hL, hY]
    have e : U * (Dv.B * Dv.B) + (L / 4294967296 * Dv.B + L % 4294967296) = U * 18446744073709551616 + L := by unfold Dv.B; omega
    rw [e] at hb
    exact hb
  rw [← hres]
  have p63 : (2 : Nat) ^ s = (2 : Nat) ^ s := rfl
  refine div64_core hi lo y s Y (Y / 4294967296) (Y % 4294967296) U L (L / 4294967296) (L % 4294967296) q1 m1 r1 Q (U * 4294967296 % 18446744073709551616) (Q * Y % 18446744073709551616) R q2 m2 r2 Q0 h0 hy hlo hyt w hs
    (fun w => lz y hyt s hs n1 n2 w) ?_ (by omega) (by omega) (by omega) (and_low Y (by omega)) ?_ ?_ (by omega) (and_low L (by omega)) (by omega) (by omega) f1 f2 f3 f4 (by omega) f5 f6 f7 f8 hYd n7 hy0
    ?_ ?_ ?_ ?_ g1 g2 g3 g4 (by omega) g5 g6 g7 g8 hR.2
  · exact wrap_of _ _ hY (by omega) _ (by rw [Int.natCast_mul, Int.natCast_pow]; rfl)
  · have e1 : IntKind.u64.wrap ((hi : Int) * 2 ^ s) = ((hi * 2 ^ s : Nat) : Int) := wrap_of _ _ rfl (by omega) _ (by rw [Int.natCast_mul, Int.natCast_pow]; rfl)
    have e2 : ((lo : Int) / 2 ^ (64 - s)) = ((lo / 2 ^ (64 - s) : Nat) : Int) := by rw [Int.natCast_ediv, Int.natCast_pow]; rfl
    have hlt : lo / 2 ^ (64 - s) ≤ lo := Nat.div_le_self _ _
    rw [e1, e2, bits_or_nat .u64 rfl _ _ (by show _ < 18446744073709551616; omega) (by show _ < 18446744073709551616; omega), ← hU]
    congr 1
    rw [Nat.mul_comm]
    exact (Nat.two_pow_add_eq_or_of_lt n6 _).symm
  · refine wrap_mod _ _ ?_
    rw [← hL, Int.natCast_emod, Int.natCast_mul, Int.natCast_pow]
    rfl
  · refine wrap_mod _ _ ?_
    omega
  · omega
  · refine wrap_mod _ _ ?_
    rw [Int.natCast_emod, Int.natCast_mul]
    rfl
  · refine wrap_mod _ _ ?_
    have h1 := hR.1
    unfold Dv.B at h1
    generalize Q * Y = QY at *
    omega

set_option maxRecDepth 100000 in
set_option maxHeartbeats 1000000 in
theorem div64_small (lo y : Nat) (hy : 0 < y) (hlo : lo ≤ 18446744073709551615) (hyt : y ≤ 18446744073709551615) (w : World) :
    Calls Try.prog 72 #[.int .u64 0, .int .u64 lo, .int .u64 y] w (DivPost (lo / y) w) := by
  have hyb : ((y : Int) == 0) = false := by simp; omega
  obtain ⟨q, hq⟩ : ∃ q, lo / y = q := ⟨_, rfl⟩
  have hql : q ≤ lo := by rw [← hq]; exact Nat.div_le_self _ _
  have hqq : IntKind.u64.wrap ((lo : Int) / (y : Int)) = (q : Int) := wrap_of _ _ hq (by omega) _ (by rw [Int.natCast_ediv])
  rw [hq]
  clear hq
  go_enter Try.func72, Try.ntmps72
  go_wp2
  go_quiet (fail)
  go_wp2
  go_ret2
  exact ⟨⟨_, rfl⟩, ⟨_, rfl⟩⟩

theorem div64_any (hi lo y : Nat) (hy : hi < y) (hlo : lo ≤ 18446744073709551615) (hyt : y ≤ 18446744073709551615) (w : World) :
    Calls Try.prog 72 #[.int .u64 hi, .int .u64 lo, .int .u64 y] w (DivPost ((hi * 18446744073709551616 + lo) / y) w) := by
  rcases Nat.eq_zero_or_pos hi with h | h
  · subst h
    rw [Nat.zero_mul, Nat.zero_add]
    exact div64_small lo y hy hlo hyt w
  · exact div64_big hi lo y h hy hlo hyt w

/-! ### a times 2^32 by b -/
theorem by_zero (b : Nat) (w : World) : Calls Try.prog 66 #[.int .u64 0, .int .u64 b] w fun e w' => e = .returned (.int .u64 (Fix.quo 0 b)) ∧ ∃ n, w' = w.drewN n := by
  go_enter Try.func66, Try.ntmps66
  go_wp2
  go_ret
  exact ⟨rfl, ⟨0, rfl⟩⟩

theorem quo_big (a b : Nat) (ha : 0 < a) (h : b ≤ a / 4294967296) : Fix.quo a b = Fix.top := by
  unfold Fix.quo
  rw [if_neg (Nat.pos_iff_ne_zero.1 ha)]
  rcases Nat.eq_zero_or_pos b with hb | hb0
  · rw [if_pos hb]
  · rw [if_neg (Nat.pos_iff_ne_zero.1 hb0)]
    have h3 : b * 4294967296 ≤ a := Nat.le_trans (Nat.mul_le_mul_right _ h) (Nat.div_mul_le_self a 4294967296)
    have h2 : 18446744073709551616 ≤ a * Fix.one / b := (Nat.le_div_iff_mul_le hb0).2 (by
      have := Nat.mul_le_mul_right Fix.one h3
      unfold Fix.one at *
      omega)
    exact Fix.cut_big (Nat.lt_of_lt_of_le (by decide) h2)

theorem quo_fits (a b : Nat) (ha : 0 < a) (ha' : a ≤ 18446744073709551615) (h : a / 4294967296 < b) : (a / 4294967296 * 18446744073709551616 + a * 4294967296 % 18446744073709551616) / b = Fix.quo a b ∧ Fix.quo a b ≤ 18446744073709551615 := by
  have e : a / 4294967296 * 18446744073709551616 + a * 4294967296 % 18446744073709551616 = a * 4294967296 := by omega
  have hlt : a * 4294967296 / b < 18446744073709551616 := by
    rw [Nat.div_lt_iff_lt_mul (by omega)]
    have : (a / 4294967296 + 1) * 18446744073709551616 ≤ b * 18446744073709551616 := Nat.mul_le_mul_right _ h
    rw [Nat.mul_comm 18446744073709551616 b]
    omega
  unfold Fix.quo
  rw [if_neg (by omega), if_neg (by omega), e, Fix.cut_small (by unfold Fix.top Fix.one; omega)]
  exact ⟨rfl, by unfold Fix.one; omega⟩

set_option maxHeartbeats 400000 in
theorem by_any (a b : Nat) (ha : a ≤ Fix.top) (hb : b ≤ Fix.top) (w : World) : Calls Try.prog 66 #[.int .u64 a, .int .u64 b] w fun e w' => e = .returned (.int .u64 (Fix.quo a b)) ∧ ∃ n, w' = w.drewN n := by
  unfold Fix.top at ha hb
  rcases Nat.eq_zero_or_pos a with h0 | h0
  · subst h0; exact by_zero b w
  have ha0 : ((a : Int) == 0) = false := by simp; omega
  by_cases h : b ≤ a / 4294967296
  · have hv := Lib.hid (quo_big a b h0 h)
    have hbd : decide ((b : Int) ≤ (a : Int) / 4294967296) = true := by simp; omega
    clear h
    go_enter Try.func66, Try.ntmps66
    go_wp2
    go_ret
    exact ⟨ret_int (by rw [hv.out]; rfl), ⟨0, rfl⟩⟩
  · have hf := quo_fits a b h0 ha (by omega)
    have hbd : decide ((b : Int) ≤ (a : Int) / 4294967296) = false := by simp; omega
    have hd : ∀ w : World, Calls Try.prog 72 #[.int .u64 (a / 4294967296 : Nat), .int .u64 (a * 4294967296 % 18446744073709551616 : Nat), .int .u64 b] w (DivPost (Fix.quo a b) w) := fun w => by
      rw [← hf.1]; exact div64_any _ _ b (by omega) (by omega) hb w
    obtain ⟨hi, hhi⟩ : ∃ hi, a / 4294967296 = hi := ⟨_, rfl⟩
    obtain ⟨lo, hlo⟩ : ∃ lo, a * 4294967296 % 18446744073709551616 = lo := ⟨_, rfl⟩
    rw [hhi, hlo] at hd
    have e1 : (a : Int) / 4294967296 = (hi : Int) := by omega
    have e2 : IntKind.u64.wrap ((a : Int) * 4294967296) = (lo : Int) := wrap_mod _ _ (by omega)
    have hbn : decide (b ≤ hi) = false := by simp; omega
    clear hbd
    have Hd := Lib.hid hd
    clear hd hf hhi hlo h
    go_enter Try.func66, Try.ntmps66
    go_wp2_with fail
    refine (Hd.out _).mono ?_
    rintro e w1 ⟨⟨r, rfl⟩, n, hn⟩
    have Hn := Lib.hid hn
    clear hn
    go_wp2
    go_ret
    exact ⟨rfl, ⟨n, Hn.out⟩⟩

set_option maxHeartbeats 400000 in
theorem div_any (a b : Nat) (ha : a ≤ Fix.top) (hb : b ≤ Fix.top) (w : World) : Calls Try.prog 43 #[.int .u64 a, .int .u64 b] w fun e w' => e = .returned (.int .u64 (Fix.quo a b)) ∧ ∃ n, w' = w.drewN n := by
  have hb1 := Lib.hid (fun w => by_any a b ha hb w)
  unfold Fix.top at ha hb
  go_enter Try.func43, Try.ntmps43
  go_wp2_with fail
  refine (hb1.out _).mono ?_
  rintro e w1 ⟨rfl, n, hn⟩
  have Hn := Lib.hid hn
  clear hn
  go_wp2
  go_ret
  exact ⟨rfl, ⟨n, Hn.out⟩⟩

theorem max_nat (a : Int) : ∃ m : Nat, max a 0 = (m : Int) ∧ a.toNat = m := ⟨a.toNat, by omega, rfl⟩

set_option maxHeartbeats 400000 in
theorem ratio_any (a b : Int) (ha : -9223372036854775808 ≤ a) (ha' : a ≤ 9223372036854775807) (hb : -9223372036854775808 ≤ b) (hb' : b ≤ 9223372036854775807) (w : World) :
    Calls Try.prog 49 #[.int .i64 a, .int .i64 b] w fun e w' => e = .returned (.int .u64 (Fix.ratio a b)) ∧ ∃ n, w' = w.drewN n := by
  obtain ⟨m, hm, hm'⟩ := max_nat a
  obtain ⟨k, hk, hk'⟩ := max_nat b
  have hmt : m ≤ 9223372036854775807 := by omega
  have hkt : k ≤ 9223372036854775807 := by omega
  have hb1 := Lib.hid (fun w => by_any m k (by unfold Fix.top; omega) (by unfold Fix.top; omega) w)
  have hv : Fix.ratio a b = Fix.quo m k := by unfold Fix.ratio; rw [hm', hk']
  have Hv := Lib.hid hv
  clear hv hm' hk'
  go_enter Try.func49, Try.ntmps49
  go_wp2_with fail
  refine (hb1.out _).mono ?_
  rintro e w1 ⟨rfl, n, hn⟩
  have Hn := Lib.hid hn
  clear hn
  go_wp2
  go_ret
  exact ⟨ret_int (by rw [Hv.out]), ⟨n, Hn.out⟩⟩

/-! ### the reference's product -/
theorem mul_in (x y : Nat) (hx : x ≤ 4294967296) (hy : y ≤ 4294967295) : IntKind.u64.wrap ((x : Int) * (y : Int)) = ((x * y : Nat) : Int) ∧ x * y ≤ 18446744069414584320 := by
  have : x * y ≤ 4294967296 * 4294967295 := Nat.mul_le_mul hx hy
  exact ⟨wrap_of _ _ rfl (by omega) _ (by rw [Int.natCast_mul]), this⟩

set_option maxRecDepth 100000 in
set_option maxHeartbeats 1000000 in
theorem refmul_any (a b : Nat) (ha : a ≤ Fix.top) (hb : b ≤ Fix.top) (w : World) : Calls Try.prog 36 #[.int .u64 a, .int .u64 b] w fun e w' => e = .returned (.int .u64 (Fix.mul a b)) ∧ ∃ n, w' = w.drewN n := by
  unfold Fix.top at ha hb
  rw [← Fix.partsMul_eq]
  obtain ⟨ah, hah⟩ : ∃ x, a / 4294967296 = x := ⟨_, rfl⟩
  obtain ⟨al, hal⟩ : ∃ x, a % 4294967296 = x := ⟨_, rfl⟩
  obtain ⟨bh, hbh⟩ : ∃ x, b / 4294967296 = x := ⟨_, rfl⟩
  obtain ⟨bl, hbl⟩ : ∃ x, b % 4294967296 = x := ⟨_, rfl⟩
  have e1 : (a : Int) / 4294967296 = (ah : Int) := by omega
  have e2 : (a : Int) % 4294967296 = (al : Int) := by omega
  have e3 : (b : Int) / 4294967296 = (bh : Int) := by omega
  have e4 : (b : Int) % 4294967296 = (bl : Int) := by omega
  have b1 : ah ≤ 4294967295 := by omega
  have b2 : al ≤ 4294967295 := by omega
  have b3 : bh ≤ 4294967295 := by omega
  have b4 : bl ≤ 4294967295 := by omega
  have hv : Fix.partsMul a b = (if 0 < ah ∧ 0 < bh ∧ 18446744073709551615 / bh / 4294967296 < ah then 18446744073709551615
      else if 4294967296 ≤ ah * bh then 18446744073709551615
      else if Fix.add (Fix.add (ah * bh * 4294967296) (ah * bl)) (al * bh) = 18446744073709551615 then 18446744073709551615
      else Fix.add (Fix.add (Fix.add (ah * bh * 4294967296) (ah * bl)) (al * bh)) (al * bl / 4294967296)) := by
    rw [← hah, ← hal, ← hbh, ← hbl]; rfl
  have Hv := Lib.hid hv
  clear hv hah hal hbh hbl
  have d1 : (18446744073709551615 : Int) / (bh : Int) = ((18446744073709551615 / bh : Nat) : Int) := by rw [Int.natCast_ediv]; rfl
  obtain ⟨d, hd⟩ : ∃ d, 18446744073709551615 / bh = d := ⟨_, rfl⟩
  rw [hd] at d1
  have hdt : d ≤ 18446744073709551615 := by rw [← hd]; exact Nat.div_le_self _ _
  have hvd := Hv.out
  rw [hd] at hvd
  have Hvd := Lib.hid hvd
  clear hvd Hv hd
  by_cases hz : 0 < ah ∧ 0 < bh ∧ d / 4294967296 < ah
  · have t1 : decide (0 < ah) = true := by simp; omega
    have t2 : decide (0 < bh) = true := by simp; omega
    have t3 : decide ((d : Int) / 4294967296 < (ah : Int)) = true := by simp; omega
    have p1 : 0 < ah := hz.1
    have p2 : 0 < bh := hz.2.1
    have hv := Lib.hid (Hvd.out.trans (if_pos hz))
    clear hz
    go_enter Try.func36, Try.ntmps36
    go_wp2
    go_ret
    exact ⟨ret_int (by rw [hv.out]; rfl), ⟨0, rfl⟩⟩
  · have hv1 := Lib.hid (Hvd.out.trans (if_neg hz))
    obtain ⟨h, hh⟩ : ∃ h, ah * bh = h := ⟨_, rfl⟩
    have m1 := mul_in ah bh (by omega) b3
    have m2 := mul_in ah bl (by omega) b4
    have m3 := mul_in al bh (by omega) b3
    have m4 := mul_in al bl (by omega) b4
    obtain ⟨p, hp⟩ : ∃ p, ah * bl = p := ⟨_, rfl⟩
    obtain ⟨q, hq⟩ : ∃ q, al * bh = q := ⟨_, rfl⟩
    obtain ⟨u, hu⟩ : ∃ u, al * bl = u := ⟨_, rfl⟩
    rw [hh] at m1
    rw [hp] at m2
    rw [hq] at m3
    rw [hu] at m4
    have hv2 := hv1.out
    rw [hh, hp, hq, hu] at hv2
    obtain ⟨w1, x1⟩ := m1
    obtain ⟨w2, x2⟩ := m2
    obtain ⟨w3, x3⟩ := m3
    obtain ⟨w4, x4⟩ := m4
    have key : ∀ (G : Calls Try.prog 36 #[.int .u64 a, .int .u64 b] w fun e w' => e = .returned (.int .u64 (Fix.partsMul a b)) ∧ ∃ n, w' = w.drewN n), Calls Try.prog 36 #[.int .u64 a, .int .u64 b] w fun e w' => e = .returned (.int .u64 (Fix.partsMul a b)) ∧ ∃ n, w' = w.drewN n := fun G => G
    have tests : (decide (0 < ah) = false) ∨ (0 < ah ∧ decide (0 < ah) = true ∧ decide (0 < bh) = false) ∨ (0 < ah ∧ 0 < bh ∧ decide (0 < ah) = true ∧ decide (0 < bh) = true ∧ decide ((d : Int) / 4294967296 < (ah : Int)) = false) := by
      simp only [decide_eq_true_eq, decide_eq_false_iff_not]; omega
    have Hv2 := Lib.hid hv2
    clear hv2 hv1 hh hp hq hu hz Hvd key
    by_cases hbig : 4294967296 ≤ h
    · have t4 : decide ((4294967296 : Int) ≤ (h : Int)) = true := by simp; omega
      have t4n : decide (4294967296 ≤ h) = true := by simp; omega
      have hv := Lib.hid (Hv2.out.trans (if_pos hbig))
      clear hbig
      rcases tests with t1 | ⟨p1, t1, t2⟩ | ⟨p1, p2, t1, t2, t3⟩
      all_goals
        go_enter Try.func36, Try.ntmps36
        go_wp2
        go_ret
        exact ⟨ret_int (by rw [hv.out]; rfl), ⟨0, rfl⟩⟩
    · have t4 : decide ((4294967296 : Int) ≤ (h : Int)) = false := by simp; omega
      have t4n : decide (4294967296 ≤ h) = false := by simp; omega
      have hv3 := Hv2.out.trans (if_neg hbig)
      obtain ⟨h2, hh2⟩ : ∃ h2, h * 4294967296 = h2 := ⟨_, rfl⟩
      have hh2i : (h : Int) * 4294967296 = (h2 : Int) := by omega
      have hh2t : h2 ≤ 18446744069414584320 := by omega
      obtain ⟨s1, hs1⟩ : ∃ s, Fix.add h2 p = s := ⟨_, rfl⟩
      obtain ⟨s2, hs2⟩ : ∃ s, Fix.add s1 q = s := ⟨_, rfl⟩
      obtain ⟨u2, hu2⟩ : ∃ u2, u / 4294967296 = u2 := ⟨_, rfl⟩
      obtain ⟨s3, hs3⟩ : ∃ s, Fix.add s2 u2 = s := ⟨_, rfl⟩
      have hu2i : (u : Int) / 4294967296 = (u2 : Int) := by omega
      rw [hh2, hs1, hs2, hu2, hs3] at hv3
      have s1t : s1 ≤ Fix.top := by rw [← hs1]; exact Fix.add_lt _ _
      have s2t : s2 ≤ Fix.top := by rw [← hs2]; exact Fix.add_lt _ _
      have c1 : ∀ w : World, Calls Try.prog 54 #[.int .u64 h2, .int .u64 p] w fun e w' => e = .returned (.int .u64 s1) ∧ w = w' := fun w => by rw [← hs1]; exact refadd_any _ _ (by unfold Fix.top; omega) (by unfold Fix.top; omega) w
      have c2 : ∀ w : World, Calls Try.prog 54 #[.int .u64 s1, .int .u64 q] w fun e w' => e = .returned (.int .u64 s2) ∧ w = w' := fun w => by rw [← hs2]; exact refadd_any _ _ s1t (by unfold Fix.top; omega) w
      have c3 : ∀ w : World, Calls Try.prog 54 #[.int .u64 s2, .int .u64 u2] w fun e w' => e = .returned (.int .u64 s3) ∧ w = w' := fun w => by rw [← hs3]; exact refadd_any _ _ s2t (by unfold Fix.top; omega) w
      have C1 := Lib.hid c1
      have C2 := Lib.hid c2
      have C3 := Lib.hid c3
      have Hv3 := Lib.hid hv3
      clear c1 c2 c3 hs1 hs2 hs3 hu2 hh2 hv3 Hv2 hbig
      unfold Fix.top at s1t s2t
      by_cases hend : s2 = 18446744073709551615
      · have t5 : ((s2 : Int) == 18446744073709551615) = true := by simp; omega
        have hv := Lib.hid (Hv3.out.trans (if_pos hend))
        clear hend
        rcases tests with t1 | ⟨p1, t1, t2⟩ | ⟨p1, p2, t1, t2, t3⟩
        all_goals
          go_enter Try.func36, Try.ntmps36
          go_wp2_with fail
          refine (C1.out _).mono ?_
          rintro e w1 ⟨rfl, rfl⟩
          go_wp2_with fail
          refine (C2.out _).mono ?_
          rintro e w1 ⟨rfl, rfl⟩
          go_wp2
          go_ret
          exact ⟨ret_int (by rw [hv.out]; rfl), ⟨0, rfl⟩⟩
      · have t5 : ((s2 : Int) == 18446744073709551615) = false := by simp; omega
        have hv := Lib.hid (Hv3.out.trans (if_neg hend))
        clear hend
        rcases tests with t1 | ⟨p1, t1, t2⟩ | ⟨p1, p2, t1, t2, t3⟩
        all_goals
          go_enter Try.func36, Try.ntmps36
          go_wp2_with fail
          refine (C1.out _).mono ?_
          rintro e w1 ⟨rfl, rfl⟩
          go_wp2_with fail
          refine (C2.out _).mono ?_
          rintro e w1 ⟨rfl, rfl⟩
          go_wp2_with fail
          refine (C3.out _).mono ?_
          rintro e w1 ⟨rfl, rfl⟩
          go_wp2
          go_ret
          exact ⟨ret_int (by rw [hv.out]), ⟨0, rfl⟩⟩

end Go.Proofs.Ytplbdipgnhddkaa.FixW
