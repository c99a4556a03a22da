/-
  Chapter 4's laws on frames: read back, turned, cut: their walks.
-/
import Derived.Test.YtmcglbfgfdlmlaaCrcAwake
set_option linter.unusedVariables false
set_option linter.unusedSimpArgs false
namespace Go.Proofs.Ytmcglbfgfdlmlaa.CrcW
open Go.RowKit Go.Proofs.Ytmcglbfgfdlmlaa.L

theorem readV_back (s t : ByteArray) (h : s.size ≤ 16384) : readV (str (Crc.frame s.data.toList) ++ t).data.toList = .tuple #[.string s, .int .i64 ((s.size : Int) + 8), .int .i64 0] := by
  have hl : s.data.toList.length = s.size := by simp
  have e : (str (Crc.frame s.data.toList) ++ t).data.toList = Crc.frame s.data.toList ++ t.data.toList := by
    conv => lhs; rw [str_of t]
    rw [str_append, str_toList]
  rw [e, readV_of (Crc.read_frame s.data.toList t.data.toList (by omega)), hl]
  rfl

theorem frame_size (s : ByteArray) (h : s.size ≤ 16384) : (str (Crc.frame s.data.toList)).size = s.size + 8 := by
  have hl : s.data.toList.length = s.size := by simp
  rw [str_size, Crc.frame_length _ (by omega), hl]

/-- '[]byte(f)': a new row whose first places hold the bytes. -/
theorem bytes_new (f : ByteArray) : ∃ (C : World → Array Value) (c m : World → Nat),
    (∀ w : World, (convert 9 33 (.string f)).run Try.prog w = .ok (.slice (some ⟨w.heap.size, 0, none⟩) f.size (c w)) (w.drew.alloc (.cells (C w) 5 (m w, m w + 1)))) ∧
    (∀ (w : World) (j : Nat) (hj : j < f.size), (C w)[j]? = some (.int .u8 ((f[j]'hj).toNat : Int))) ∧ ∀ w, f.size ≤ m w :=
  ⟨fun w => bytesRow f (grownCap w f.size 0 5), fun w => grownCap w f.size 0 5, fun w => (bytesRow f (grownCap w f.size 0 5)).size,
    fun w => run_bytes_of_string (P := Try.prog) w 9 33 5 f Try.underlying9 Try.underlying33 Try.underlying5,
    fun w j hj => bytesRow_at f _ j hj, fun w => by simp [bytesRow]⟩

set_option maxHeartbeats 400000 in
theorem back_law (s t : ByteArray) (hs : s.size ≤ maxLen) (ht : t.size ≤ maxLen) (w : World) : Calls Try.prog 5 #[.string s, .string t] w fun e w' => e = .returned (.bool true) ∧ Below w.heap.size w w' := by
  have hs0 := hs
  unfold maxLen at hs ht
  by_cases h : 16384 < s.size
  · go_enter Try.func5, Try.ntmps5
    go_wp2_with fail
    refine (awake_any _).mono ?_
    rintro e w1 ⟨rfl, hb1⟩
    go_wp2
    go_ret
    exact ⟨rfl, hb1⟩
  by_cases h' : 20000 < t.size
  · go_enter Try.func5, Try.ntmps5
    go_wp2_with fail
    refine (awake_any _).mono ?_
    rintro e w1 ⟨rfl, hb1⟩
    go_wp2
    go_ret
    exact ⟨rfl, hb1⟩
  have fs := frame_size s (by omega)
  have fl : (Crc.frame s.data.toList).length ≤ 16392 := by rw [str_size] at fs; omega
  have cr : ∀ w, Calls Try.prog 13 #[.string (str (Crc.frame s.data.toList) ++ t)] w fun e w' => e = .returned (.tuple #[.string s, .int .i64 ((s.size : Int) + 8), .int .i64 0]) ∧ ∃ n, w' = w.drewN n := fun w => by
    rw [← readV_back s t (by omega)]; exact read_any _ w (by unfold maxLen; simp; omega)
  have Cr := Lib.hid cr
  clear cr
  have fs' : (str (Crc.frame s.data.toList)).size ≤ 16392 := by omega
  clear fs
  go_enter Try.func5, Try.ntmps5
  go_wp2_with fail
  refine (frame_any s _ hs0).mono ?_
  rintro e w1 ⟨rfl, hb1⟩
  go_wp2_with fail
  refine (Cr.out _).mono ?_
  rintro e w2 ⟨rfl, n2, hn2⟩
  have Hn2 := Lib.hid hn2
  clear hn2
  go_wp2_with fail
  refine (awake_any _).mono ?_
  rintro e w3 ⟨rfl, hb3⟩
  go_wp2
  go_ret
  exact ⟨rfl, keeps_trans (keeps_drew hb1 Hn2.out) hb3⟩

set_option maxHeartbeats 400000 in
theorem short_law (s : ByteArray) (n : Int) (hs : s.size ≤ maxLen) (w : World) : Calls Try.prog 7 #[.string s, .int .i64 n] w fun e w' => e = .returned (.bool true) ∧ Below w.heap.size w w' := by
  have hs0 := hs
  unfold maxLen at hs
  by_cases h : 16384 < s.size
  · go_enter Try.func7, Try.ntmps7
    go_wp2_with fail
    refine (awake_any _).mono ?_
    rintro e w1 ⟨rfl, hb1⟩
    go_wp2
    go_ret
    exact ⟨rfl, hb1⟩
  obtain ⟨f, hf⟩ : ∃ f, str (Crc.frame s.data.toList) = f := ⟨_, rfl⟩
  have fs : f.size = s.size + 8 := by rw [← hf]; exact frame_size s (by omega)
  have cf : ∀ w, Calls Try.prog 11 #[.string s] w fun e w' => e = .returned (.string f) ∧ Below w.heap.size w w' := fun w => by rw [← hf]; exact frame_any s w hs0
  have Cf := Lib.hid cf
  have Hf := Lib.hid hf
  have Fs := Lib.hid fs
  have f0 : 0 < f.size := by omega
  have f1 : f.size ≤ 16392 := by omega
  have hb : ((f.size : Int) != (s.size : Int) + 8) = false := by rw [fs]; simp
  obtain ⟨k, hk, hkf⟩ := rem_nat (IntKind.u64.wrap n) (wrap_u64_nonneg n) f.size f0
  have cr : ∀ w, Calls Try.prog 13 #[.string (f.extract 0 k)] w fun e w' => e = .returned (.tuple #[.string ByteArray.empty, .int .i64 0, .int .i64 10]) ∧ ∃ n, w' = w.drewN n := fun w => by
    have hl : s.data.toList.length = s.size := by simp
    have e : (f.extract 0 k).data.toList = (Crc.frame s.data.toList).take k := by rw [extract_eq, str_toList, ← hf, str_toList]; rfl
    have r := read_any (f.extract 0 k) w (by unfold maxLen; simp; omega)
    rw [e, readV_of (Crc.read_short s.data.toList k (by omega) (by omega))] at r
    exact r
  have Cr := Lib.hid cr
  clear cf hf fs cr
  go_enter Try.func7, Try.ntmps7
  go_wp2_with fail
  refine (Cf.out _).mono ?_
  rintro e w1 ⟨rfl, hb1⟩
  go_wp2_with fail
  refine (Cr.out _).mono ?_
  rintro e w2 ⟨rfl, n2, hn2⟩
  have Hn2 := Lib.hid hn2
  clear hn2
  go_wp2_with fail
  refine (awake_any _).mono ?_
  rintro e w3 ⟨rfl, hb3⟩
  go_wp2
  go_ret
  exact ⟨rfl, keeps_trans (keeps_drew hb1 Hn2.out) hb3⟩

set_option maxRecDepth 100000 in
set_option maxHeartbeats 400000 in
theorem turned_law (s : ByteArray) (at_ by_ : Int) (hs : s.size ≤ maxLen) (w : World) (hby : 0 ≤ by_) (hby' : by_ < 256) : Calls Try.prog 6 #[.string s, .int .i64 at_, .int .u8 by_] w fun e w' => e = .returned (.bool true) ∧ Below w.heap.size w w' := by
  have hs0 := hs
  unfold maxLen at hs
  by_cases h : 16384 < s.size
  · go_enter Try.func6, Try.ntmps6
    go_wp2_with fail
    refine (awake_any _).mono ?_
    rintro e w1 ⟨rfl, hb1⟩
    go_wp2
    go_ret
    exact ⟨rfl, hb1⟩
  by_cases h' : by_ = 0
  · subst h'
    go_enter Try.func6, Try.ntmps6
    go_wp2_with fail
    refine (awake_any _).mono ?_
    rintro e w1 ⟨rfl, hb1⟩
    go_wp2
    go_ret
    exact ⟨rfl, hb1⟩
  obtain ⟨f, hf⟩ : ∃ f, str (Crc.frame s.data.toList) = f := ⟨_, rfl⟩
  have fs : f.size = s.size + 8 := by rw [← hf]; exact frame_size s (by omega)
  have cf : ∀ w, Calls Try.prog 11 #[.string s] w fun e w' => e = .returned (.string f) ∧ Below w.heap.size w w' := fun w => by rw [← hf]; exact frame_any s w hs0
  have Cf := Lib.hid cf
  have Hf := Lib.hid hf
  have Fs := Lib.hid fs
  have f0 : 0 < f.size := by omega
  have f1 : f.size ≤ 16392 := by omega
  have hb : ((f.size : Int) != (s.size : Int) + 8) = false := by rw [fs]; simp
  have hb0 : (by_ == 0) = false := by simpa using h'
  obtain ⟨k, hk0, hks⟩ := rem_nat (IntKind.u64.wrap at_) (wrap_u64_nonneg at_) (s.size + 4) (by omega)
  have hk : (IntKind.u64.wrap at_).tmod ((s.size : Int) + 4) = k := hk0
  have hkf : 4 + k < f.size := by omega
  obtain ⟨C, c, m, kc, hC, hm⟩ := bytes_new f
  obtain ⟨b, rfl⟩ : ∃ b : UInt8, by_ = (b.toNat : Int) := ⟨UInt8.ofNat by_.toNat, by rw [UInt8.toNat_ofNat']; omega⟩
  obtain ⟨x, hx⟩ : ∃ x : UInt8, f[4 + k] = x := ⟨_, rfl⟩
  have hcell : ∀ w : World, (w.alloc (.cells (C w) 5 (m w, m w + 1))).cell? ⟨w.heap.size, 4 + k, none⟩ = some (.int .u8 (x.toNat : Int)) := fun w => by
    rw [World.cell?_alloc_mark, hC w _ hkf, hx]
  have hfroz : ∀ w : World, (w.alloc (.cells (C w) 5 (m w, m w + 1))).frozen? ⟨w.heap.size, 4 + k, none⟩ = false := fun w => by
    have := hm w
    rw [World.frozen?_alloc_mark]; simp; omega
  have hxor : bits .xor .u8 (x.toNat : Int) (b.toNat : Int) = ((x ^^^ b).toNat : Int) := by
    have := x.toNat_lt
    have := b.toNat_lt
    rw [bits_xor_nat .u8 rfl _ _ (by show _ < 256; omega) (by show _ < 256; omega), UInt8.toNat_xor]
  obtain ⟨g, hg⟩ : ∃ g, str (f.data.toList.set (4 + k) (x ^^^ b)) = g := ⟨_, rfl⟩
  have gs : g.size = f.size := by rw [← hg, str_size]; simp
  have kb : ∀ w : World, (convert 33 9 (.slice (some ⟨w.heap.size, 0, none⟩) f.size (c w))).run Try.prog (((w.alloc (.cells (C w) 5 (m w, m w + 1))).setCell ⟨w.heap.size, 4 + k, none⟩ (.int .u8 ((x.toNat ^^^ b.toNat : Nat) : Int))).drew)
      = .ok (.string g) (((w.alloc (.cells (C w) 5 (m w, m w + 1))).setCell ⟨w.heap.size, 4 + k, none⟩ (.int .u8 ((x.toNat ^^^ b.toNat : Nat) : Int))).drew) := fun w => by
    rw [setCell_alloc_mark]
    have e := run_convert_bytes_back (P := Try.prog) ((w.alloc (.cells ((C w).setIfInBounds (4 + k) (.int .u8 ((x.toNat ^^^ b.toNat : Nat) : Int))) 5 (m w, m w + 1))).drew) 33 9 5 ⟨w.heap.size, 0, none⟩ (c w) (f.data.toList.set (4 + k) (x ^^^ b)) Try.underlying33 Try.underlying5 Try.underlying9 (fun j hj => by
      have ha : (⟨w.heap.size, 0, none⟩ : Addr).add j = ⟨w.heap.size, j, none⟩ := by unfold Addr.add; split <;> simp_all
      have hjf : j < f.size := by simpa using hj
      show (w.alloc _).cell? _ = _
      rw [ha, World.cell?_alloc_mark, Array.getElem?_setIfInBounds, List.getElem_set]
      by_cases hjk : 4 + k = j
      · subst hjk
        have : 4 + k < (C w).size := by
          have := hC w _ hkf
          rcases Nat.lt_or_ge (4 + k) (C w).size with h | h
          · exact h
          · rw [Array.getElem?_eq_none h] at this; cases this
        simp [this]
      · rw [if_neg hjk, if_neg hjk, hC w j hjf]
        simp [ByteArray.getElem_eq_getElem_data])
    rw [show (f.data.toList.set (4 + k) (x ^^^ b)).length = f.size by simp] at e
    rw [e, ← hg]
    rfl
  have cr : ∀ w, Calls Try.prog 13 #[.string g] w fun e w' => e = .returned (.tuple #[.string ByteArray.empty, .int .i64 0, .int .i64 11]) ∧ ∃ n, w' = w.drewN n := fun w => by
    have hl : s.data.toList.length = s.size := by simp
    have r := read_any g w (by unfold maxLen; omega)
    have hfl : f.data.toList = Crc.frame s.data.toList := by rw [← hf, str_toList]
    have e : g.data.toList = (Crc.frame s.data.toList).set (4 + k) (x ^^^ b) := by rw [← hg, str_toList, hfl]
    rw [e, readV_of (Crc.read_turned s.data.toList (4 + k) (x ^^^ b) (by omega) (by omega) (by omega) (by
      rw [← hfl, List.getElem?_eq_getElem (by simpa using hkf)]
      intro e2
      have e3 : x = x ^^^ b := by rw [← hx]; exact (Option.some.inj e2).trans (by rw [hx])
      have e4 : (0 : UInt8) = b := by
        have := congrArg (x ^^^ ·) e3
        simpa [← UInt8.xor_assoc] using this
      apply h'
      rw [← e4]
      rfl))] at r
    exact r
  have Cr := Lib.hid cr
  have Gs := Lib.hid gs
  clear cf hf fs cr hg hx gs hk0 hm hC
  go_enter Try.func6, Try.ntmps6
  go_wp2_with fail
  refine (Cf.out _).mono ?_
  rintro e w1 ⟨rfl, hb1⟩
  go_wp2_with fail
  refine (Cr.out _).mono ?_
  rintro e w2 ⟨rfl, n2, hn2⟩
  have Hn2 := Lib.hid hn2
  clear hn2
  go_wp2_with fail
  refine (awake_any _).mono ?_
  rintro e w3 ⟨rfl, hb3⟩
  go_wp2
  go_ret
  exact ⟨rfl, keeps_trans (keeps_drew (((hb1.alloc hb1.size _).setCell hb1.size _).drew) Hn2.out) hb3⟩

end Go.Proofs.Ytmcglbfgfdlmlaa.CrcW
