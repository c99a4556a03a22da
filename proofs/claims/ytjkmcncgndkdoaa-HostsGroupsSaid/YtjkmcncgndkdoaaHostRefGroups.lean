/-
  All places of a level: the contract of the reference's Groups.
-/
import Derived.Test.YtjkmcncgndkdoaaGAgain
import Derived.Test.YtjkmcncgndkdoaaCfgLaws
import Derived.Test.YtjkmcncgndkdoaaHostAlike
import Derived.Test.YtjkmcncgndkdoaaHostGroups
set_option linter.unusedVariables false
set_option linter.unusedSimpArgs false
namespace Go.Proofs.Ytjkmcncgndkdoaa.Hst
open Go.Proofs.Ytjkmcncgndkdoaa
theorem idx_first (p : Place) : ∀ (g : G) (k : Nat) (hk : k < g.length), (∀ (j : Nat) (hj : j < k), (g[j]'(Nat.lt_trans hj hk)).1 ≠ p) → g[k].1 = p → idx p g = some k
  | [], k, hk, _, _ => by simp at hk
  | q :: r, 0, hk, _, h => by
    unfold idx
    rw [if_pos (show p = q.1 from h.symm)]
  | q :: r, k + 1, hk, hn, h => by
    unfold idx
    rw [if_neg (fun e => hn 0 (by omega) e.symm), idx_first p r k (by simpa using hk) (fun j hj => hn (j + 1) (by omega)) h]
    rfl
theorem idx_no (p : Place) : ∀ (g : G), (∀ (j : Nat) (hj : j < g.length), g[j].1 ≠ p) → idx p g = none
  | [], _ => rfl
  | q :: r, hn => by
    unfold idx
    rw [if_neg (fun e => hn 0 (by simp) e.symm), idx_no p r (fun j hj => hn (j + 1) (by simpa using hj))]
    rfl
theorem rows_new {p : Place} {i : Nat} {g : G} (h : idx p g = none) : rows (gput p i g) = rows g ++ [[i]] := by
  rw [gput_none _ _ _ h]; simp [rows]
end Go.Proofs.Ytjkmcncgndkdoaa.Hst
namespace Go.Proofs.Ytjkmcncgndkdoaa.CfgW
open Go.RowKit Go.Proofs.Ytjkmcncgndkdoaa.L

/-- The inner loop's state: not yet found among the first k, or found and laid. -/
def Seek (hs : List Cfg.Host) (level : Int) (i : Nat) (g : Hst.G) (B : Nat) (v : Value) (k : Nat) (d : Bool) (w : World) : Prop :=
  if d then (∃ j, Hst.idx (Hst.keyOf hs level i) g = some j) ∧ GRow w B v (Hst.rows (Hst.gput (Hst.keyOf hs level i) i g))
  else (∀ (j : Nat) (hj : j < g.length), j < k → g[j].1 ≠ Hst.keyOf hs level i) ∧ GRow w B v (Hst.rows g)

set_option maxRecDepth 100000 in
set_option maxHeartbeats 4000000 in
theorem rgroups_any {w : World} {v : Value} {c : Cfg.C} (hc : CfgAt w v c) (level : Int) (hlen : c.hosts.length ≤ 1000000) :
    ∀ w1, Below w.heap.size w w1 → Calls Try.prog 42 #[v, .int .i64 level] w1 fun e w' => GEnd (Hst.groups c.hosts level) w1 e w' := by
  intro w1 hb1
  replace hc := hc.below hb1
  clear hb1
  have hc0 := hc
  obtain ⟨v1, v2, rfl, ⟨A, ca, rfl, hrA, hl⟩, ⟨B, cb, rfl, hrB, hl2⟩⟩ := hc
  have gAl := Lib.hid (fun (a b : Nat) (ha : a < c.hosts.length) (hb : b < c.hosts.length) => alike_any hc0 level a b ha hb)
  generalize c.nodes.length = N at *
  obtain ⟨half, hhalf⟩ : ∃ z, c.half = z := ⟨_, rfl⟩
  obtain ⟨age, hage⟩ : ∃ z, c.age = z := ⟨_, rfl⟩
  rw [hhalf, hage] at gAl ⊢
  clear hrA hl hl2 hrB hc0 hhalf hage
  generalize c.hosts = hs at *
  obtain ⟨M, hM⟩ : ∃ M, hs.length = M := ⟨_, rfl⟩
  have HM := Lib.hid hM
  rw [hM] at hlen gAl ⊢
  obtain ⟨Gs, hGs⟩ : ∃ Gs, Hst.groups hs level = Gs := ⟨_, rfl⟩
  have HGs := Lib.hid hGs
  rw [hGs]
  clear hM hGs
  have hbx := CBox.new w1 (.slice A N ca) (.slice B M cb) half age
  have hbw : Below w1.heap.size w1 (w1.alloc (.cells #[.slice A N ca, .slice B M cb, .int .i64 half, .int .i64 age] 25)) := (Below.refl _ _).alloc (Nat.le_refl _) _
  go_enter Try.func42, Try.ntmps42
  by_cases hlo : level < 0
  · have t0 : decide (level < (0 : Int)) = true := by simpa using hlo
    have hf := Lib.hid (show Gs = [] by rw [← HGs.out]; unfold Hst.groups Hst.okLevel; rw [if_neg (by simp; omega)])
    clear hlo hbx
    go_wp2_with fail
    go_ret
    exact ⟨_, rfl, by rw [hf.out]; exact GRow.nil _ _, hbw⟩
  have t0 : decide (level < (0 : Int)) = false := by simpa using hlo
  by_cases hhi : 3 < level
  · have t1 : decide ((3 : Int) < level) = true := by simpa using hhi
    have hf := Lib.hid (show Gs = [] by rw [← HGs.out]; unfold Hst.groups Hst.okLevel; rw [if_neg (by simp; omega)])
    clear hlo hhi hbx
    go_wp2_with fail
    go_ret
    exact ⟨_, rfl, by rw [hf.out]; exact GRow.nil _ _, hbw⟩
  have t1 : decide ((3 : Int) < level) = false := by simpa using hhi
  have hok := Lib.hid (show Hst.okLevel level = true by unfold Hst.okLevel; simp; omega)
  have hf := Lib.hid (show Gs = Hst.rows (Hst.gTo hs level M) by rw [← HGs.out]; unfold Hst.groups; rw [if_pos hok.out, HM.out]; rfl)
  have gA2 : Hid (∀ (h i : Nat), h < M → i < M → GivesAt Try.prog w1 69 #[.agg #[.slice A N ca, .slice B M cb, .int .i64 half, .int .i64 age], .int .i64 level, .int .i64 (h : Int), .int .i64 (i : Int)] (.bool (decide (Hst.keyOf hs level h = Hst.keyOf hs level i)))) :=
    Lib.hid (fun h i hh hi => by have := gAl.out h i hh hi; rwa [Hst.alike_iff _ _ _ _ hok.out] at this)
  generalize hwq : w1.alloc (.cells #[.slice A N ca, .slice B M cb, .int .i64 half, .int .i64 age] 25) = wq at *
  have HBX := Lib.hid hbx
  have Hbw := Lib.hid hbw
  obtain ⟨hx0, x0, x1, x2, x3⟩ := hbx
  clear hlo hhi hbw HGs gAl
  go_wp2_with fail
  clear x0 x1 x2 x3 hwq
  go_loopw [5, 6] (fun o i wr => ∃ k : Nat, i = .int .i64 (k : Int) ∧ k ≤ M ∧ GRow wr wq.heap.size o (Hst.rows (Hst.gTo hs level k)) ∧ Below wq.heap.size wq wr) (fun _ i _ => M - (intOf i).toNat)
  case atStart => exact ⟨0, rfl, by omega, GRow.nil _ _, Below.refl _ _⟩
  case round =>
    obtain ⟨i, rfl, hi, hrow, hb⟩ := hrel
    rename World => wr
    obtain ⟨-, x0, x1, x2, x3⟩ := HBX.out.on hb
    by_cases hin : i < M
    · have hih : i < hs.length := by rw [HM.out]; exact hin
      have HE := Lib.hid (show Hst.gTo hs level (i + 1) = Hst.gput (Hst.keyOf hs level i) i (Hst.gTo hs level i) from rfl)
      have Hrl := Lib.hid (fun (j : Nat) (h : j < (Hst.rows (Hst.gTo hs level i)).length) => Hst.rows_each hs level i h)
      have Hgl := Lib.hid (Hst.gTo_le hs level i)
      have Hhd := Lib.hid (Hst.heads_to hs level i (by omega))
      generalize Hst.gTo hs level i = g at *
      obtain ⟨A5, c5, rfl, hsm⟩ := hrow.form
      rw [Hst.rows_len] at hrow hsm ⊢
      obtain ⟨n, hn⟩ : ∃ n, g.length = n := ⟨_, rfl⟩
      rw [hn] at hrow hsm Hgl ⊢
      have Hn := Lib.hid hn
      have Hsm := Lib.hid hsm
      have Hrow := Lib.hid hrow
      have Hb := Lib.hid hb
      have hnM : n ≤ 1000000 := by have := Hgl.out; omega
      clear hih hn hsm hrow hb x0 x2 x3
      go_wp2_with fail
      clear x1
      go_loopw [7, 8] (fun d k wr2 => ∃ (k' : Nat) (d' : Bool), d = .bool d' ∧ k = .int .i64 (k' : Int) ∧ k' ≤ n ∧ Seek hs level i g wq.heap.size (.slice A5 n c5) k' d' wr2 ∧ Below wq.heap.size wq wr2) (fun _ k _ => n - (intOf k).toNat)
      case atStart => exact ⟨0, false, rfl, rfl, by omega, ⟨fun j _ h => by omega, Hrow.out⟩, Hb.out⟩
      case round =>
        obtain ⟨k, d, rfl, rfl, hk, hsk, hb2⟩ := hrel
        rename World => wx
        have Hbx := Lib.hid hb2
        clear hb2
        cases d with
        | true =>
          have HF := Lib.hid (show GRow wx wq.heap.size (.slice A5 n c5) (Hst.rows (Hst.gTo hs level (i + 1))) by
            have h2 : GRow wx wq.heap.size (.slice A5 n c5) (Hst.rows (Hst.gput (Hst.keyOf hs level i) i g)) := hsk.2
            rw [HE.out]; exact h2)
          clear hsk
          by_cases hkn : k < n
          all_goals
            go_wp2_with fail
            go_roundw
            case rel => exact ⟨i + 1, by go_num, by omega, HF.out, Hbx.out⟩
            case measure => simp [intOf]; omega
        | false =>
          obtain ⟨hno, hrow⟩ : (∀ (j : Nat) (hj : j < g.length), j < k → g[j].1 ≠ Hst.keyOf hs level i) ∧ GRow wx wq.heap.size (.slice A5 n c5) (Hst.rows g) := hsk
          have Hno := Lib.hid hno
          clear hno
          by_cases hkn : k < n
          · have hkg : k < g.length := by rw [Hn.out]; exact hkn
            have hkr : k < (Hst.rows g).length := by rw [Hst.rows_len]; exact hkg
            obtain ⟨h, tl, e1, e2, e3⟩ := Hhd.out g[k] (List.getElem_mem hkg)
            have hrk : (Hst.rows g)[k] = h :: tl := by simp [Hst.rows, e1]
            obtain ⟨G, rfl⟩ := Hsm.out (by omega)
            obtain ⟨hBG, hGl, G2, m, q2, hc1, hm, hGl2, hc2⟩ := grow_head hrow hkr hrk
            obtain ⟨m', hm'⟩ : ∃ m', m + 1 = m' := ⟨_, rfl⟩
            rw [hm'] at hc1
            have hm1 : 0 < m' := by omega
            have gal := gA2.out h i (by have := HM.out; omega) hin
            rw [e2] at gal
            have Hyes := Lib.hid (fun (e : g[k].1 = Hst.keyOf hs level i) => Hst.idx_first (Hst.keyOf hs level i) g k hkg (fun j hj => Hno.out j (by omega) hj) e)
            have Hnot := Lib.hid (show ¬ g[k].1 = Hst.keyOf hs level i → ∀ (j : Nat) (hj : j < g.length), j < k + 1 → g[j].1 ≠ Hst.keyOf hs level i from fun hne j hj hlt => by
              by_cases hjk : j = k
              · subst hjk; exact hne
              · exact Hno.out j hj (by omega))
            obtain ⟨q, hq⟩ : ∃ q, decide (g[k].1 = Hst.keyOf hs level i) = q := ⟨_, rfl⟩
            have Hq := Lib.hid hq
            rw [hq] at gal
            have Gal := Lib.hid (gal.on (keeps_trans Hbw.out Hbx.out))
            have HR := Lib.hid hrow
            have P1 := fun W (k : Onward wx W) => k.cell hGl hc1
            have P2 := fun W (k : Onward wx W) => k.cell hGl2 hc2
            obtain ⟨X0, X1, X2, X3⟩ := (HBX.out.on Hbx.out).all
            clear hrow hc1 hc2 hm hm' hkr e1 e2 e3 hrk gal hq tl
            go_wp2_with fail
            refine region_keep (by kernel_rfl) (by kernel_rfl) ?_
            repeat (apply Go.Proofs.Ytjkmcncgndkdoaa.L.wpKeep_yes; (focus rfl); (focus (intro W hW; go_simp; first | done | exact ⟨rfl, hW⟩ | rfl)); (focus (go_simp; first | done | rfl)))
            (apply Go.Proofs.Ytjkmcncgndkdoaa.L.wpKeep_yes; (focus rfl); (focus (intro W hW; go_simp; first | exact (Gal.out.up (Below.refl _ _)) W hW | exact ⟨hW, (Gal.out.up (Below.refl _ _)) W hW⟩)); (focus (go_simp; first | done | rfl)))
            repeat (apply Go.Proofs.Ytjkmcncgndkdoaa.L.wpKeep_yes; (focus rfl); (focus (intro W hW; go_simp; first | done | exact ⟨rfl, hW⟩ | rfl)); (focus (go_simp; first | done | rfl)))
            refine wpKeep_nil ?_
            intro W hW
            clear P1 P2 X0 X1 X2 X3
            have HW := Lib.hid (Hbx.out.trans (hW.mono Hbx.out.size))
            have HRW := Lib.hid (HR.out.below hW)
            clear hW
            cases q with
            | false =>
              have hn2 := Lib.hid (Hnot.out (by simpa using Hq.out))
              go_wp2_with fail
              go_roundw
              case rel => exact ⟨k + 1, false, rfl, by go_num, by omega, ⟨hn2.out, HRW.out⟩, HW.out⟩
              case measure => simp [intOf]; omega
            | true =>
              have hix := Hyes.out (by simpa using Hq.out)
              obtain ⟨hkr, hset⟩ := Hst.rows_some (i := i) hix
              obtain ⟨y, v5, w5, v6, w6, hy, hr5, hr6, hy6, hf6, hR6, hb6, ⟨ay, my, qy, ey⟩, ⟨a5, m5, q5, e5⟩, ⟨a6, m6, q6, e6⟩, hGx, hnn⟩ := grow_again HRW.out (HW.out.size) hkr i (by have := Hrl.out k hkr; omega)
              rw [← hset] at hR6
              have HF := Lib.hid (show Seek hs level i g wq.heap.size (.slice (some ⟨G, 0, none⟩) n c5) (k + 1) true _ from ⟨⟨k, hix⟩, hR6⟩)
              have Hb6 := Lib.hid (HW.out.trans hb6)
              subst ey e5 e6
              clear hix hset hR6 hb6 hnn hkr
              go_wp2_with (at_builtin; refine wpList_append_eq rfl (.const (.slice none 0 0)) (.tmp 47) _ _ rfl (.slice none 0 0) (.slice ay my qy) rfl rfl hr5 ?_; go_wp2_with (at_builtin; refine wpList_append_eq rfl (.tmp 48) (.tmp 50) _ _ rfl (.slice a5 m5 q5) (.slice (some ⟨w5.heap.size, 0, none⟩) 1 1) rfl rfl hr6 ?_))
              go_roundw
              case rel => exact ⟨k + 1, true, rfl, by go_num, by omega, HF.out, Hb6.out⟩
              case measure => simp [intOf]; omega
          · have Hrow2 := Lib.hid hrow
            have hix := Hst.idx_no (Hst.keyOf hs level i) g (fun j hj => Hno.out j hj (by rw [Hn.out] at hj; omega))
            have hnew := Lib.hid (Hst.rows_new (i := i) hix)
            have hbi := (Below.refl wx.heap.size wx).alloc (Nat.le_refl _) (.cells #[.int .i64 (i : Int)] 3)
            obtain ⟨v5, w5, hrun5, hR5, hk5⟩ := grow_push (x := .slice (some ⟨wx.heap.size, 0, none⟩) 1 1) (l := [i]) hrow hbi (by have := Hbx.out.size; simp; omega) (RowV.low (ints_lit wx i) Hbx.out.size) (fun g e => by cases e; exact Nat.le_refl _) (by rw [Hst.rows_len, Hn.out]; omega)
            have hb5 : Below wq.heap.size wq w5 := (Hbx.out.alloc Hbx.out.size _).trans (hk5.below (by have := Hbx.out.size; simp; omega) (fun b e => (hrow.cf e).1))
            have HF := Lib.hid (show GRow w5 wq.heap.size v5 (Hst.rows (Hst.gTo hs level (i + 1))) by rw [HE.out, hnew.out]; exact hR5)
            have Hb5 := Lib.hid hb5
            simp only [World.size_alloc] at hrun5
            clear hrow hix hbi hR5 hk5 hb5 
            go_wp2_with (at_builtin; refine wpList_append_eq rfl (.tmp 55) (.tmp 58) _ _ rfl (.slice A5 n c5) (.slice (some ⟨wx.heap.size + 1, 0, none⟩) 1 1) rfl rfl hrun5 ?_)
            go_roundw
            case rel => exact ⟨i + 1, by go_num, by omega, HF.out, Hb5.out⟩
            case measure => simp [intOf]; omega
    · have HE := Lib.hid (show GEnd Gs w1 (.returned u5) wr from ⟨u5, rfl, by rw [hf.out, show M = i by omega]; exact hrow.low (by omega), keeps_trans Hbw.out hb⟩)
      clear hrow hb
      go_wp2_with fail
      go_ret
      exact HE.out
end Go.Proofs.Ytjkmcncgndkdoaa.CfgW
