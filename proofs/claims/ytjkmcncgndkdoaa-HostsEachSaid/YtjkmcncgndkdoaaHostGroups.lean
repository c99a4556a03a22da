/-
  All places of a level: the contract of hosts.Groups.
-/
import Derived.Test.YtjkmcncgndkdoaaGRow
set_option linter.unusedVariables false
set_option linter.unusedSimpArgs false
namespace Go.Proofs.Ytjkmcncgndkdoaa.CfgW
open Go.RowKit Go.Proofs.Ytjkmcncgndkdoaa.L

def GEnd (gs : List (List Nat)) (w : World) (e : Ending) (w' : World) : Prop := ∃ v, e = .returned v ∧ GRow w' w.heap.size v gs ∧ Below w.heap.size w w'
def posV (o : Option Nat) : Option Value := o.map fun (j : Nat) => Value.int .i64 (j : Int)
/-- Each place has its group's number. -/
def Index (g : Hst.G) (l : List (Hst.Place × Value)) : Prop := ∀ p, Go.Proofs.Ytjkmcncgndkdoaa.L.valOf p l = posV (Hst.idx p g)
theorem index_nil : Index [] [] := fun p => rfl
theorem index_none {g : Hst.G} {l : List (Hst.Place × Value)} (h : Index g l) {p : Hst.Place} {i : Nat} (hp : Hst.idx p g = none) : Index (Hst.gput p i g) (putIn p (.int .i64 (g.length : Int)) l) := fun q => by
  rw [valOf_put, Hst.idx_put_none hp, h q]
  split <;> rfl
theorem index_some {g : Hst.G} {l : List (Hst.Place × Value)} (h : Index g l) {p : Hst.Place} {i k : Nat} (hp : Hst.idx p g = some k) : Index (Hst.gput p i g) l := fun q => by
  rw [Hst.idx_put_some hp, h q]
theorem int_zero : ∀ w : World, (zeroValue 3).run Try.prog w = .ok (.int .i64 0) w := fun w => by
  obtain ⟨i0, hi, hz0, _, _⟩ := info_parts intinfo
  simp [zeroValue, typeInfo, hi, hz0]

set_option maxRecDepth 100000 in
set_option maxHeartbeats 4000000 in
theorem groups_any {w : World} {v : Value} {c : Cfg.C} (hc : CfgAt w v c) (level : Int) (hlen : c.hosts.length ≤ 1000000) :
    ∀ w1, Below w.heap.size w w1 → Calls Try.prog 41 #[v, .int .i64 level] w1 fun e w' => GEnd (Hst.groups c.hosts level) w1 e w' := by
  intro w1 hb1
  replace hc := hc.below hb1
  clear hb1
  obtain ⟨v1, v2, rfl, ⟨A, ca, rfl, hrA, hl⟩, ⟨B, cb, rfl, hrB, hl2⟩⟩ := id hc
  generalize c.nodes.length = N at *
  obtain ⟨half, hhalf⟩ : ∃ z, c.half = z := ⟨_, rfl⟩
  obtain ⟨age, hage⟩ : ∃ z, c.age = z := ⟨_, rfl⟩
  rw [hhalf, hage]
  clear hrA hl hl2 hc hhalf hage
  generalize c.hosts = hs at *
  obtain ⟨M, hM⟩ : ∃ M, hs.length = M := ⟨_, rfl⟩
  have HM := Lib.hid hM
  rw [hM] at hlen ⊢
  have HB := Lib.hid hrB
  obtain ⟨Gs, hGs⟩ : ∃ Gs, Hst.groups hs level = Gs := ⟨_, rfl⟩
  have HGs := Lib.hid hGs
  rw [hGs]
  clear hrB hM hGs
  have hbx := CBox.new w1 (.slice A N ca) (.slice B M cb) half age
  have hbw : Below w1.heap.size w1 (w1.alloc (.cells #[.slice A N ca, .slice B M cb, .int .i64 half, .int .i64 age] 25)) := (Below.refl _ _).alloc (Nat.le_refl _) _
  have hmm := @run_makeMap Try.prog
  go_enter Try.func41, Try.ntmps41
  by_cases hlo : level < 0
  · have t0 : decide (level < (0 : Int)) = true := by simpa using hlo
    have hf := Lib.hid (show Gs = [] by rw [← HGs.out]; unfold Hst.groups Hst.okLevel; rw [if_neg (by simp; omega)])
    clear hlo hbx
    go_wp2_with fail
    go_ret
    exact ⟨_, rfl, by rw [hf.out]; exact GRow.nil _ _, hbw⟩
  · have t0 : decide (level < (0 : Int)) = false := by simpa using hlo
    by_cases hhi : 3 < level
    · have t1 : decide ((3 : Int) < level) = true := by simpa using hhi
      have hf := Lib.hid (show Gs = [] by rw [← HGs.out]; unfold Hst.groups Hst.okLevel; rw [if_neg (by simp; omega)])
      clear hlo hhi hbx
      go_wp2_with fail
      go_ret
      exact ⟨_, rfl, by rw [hf.out]; exact GRow.nil _ _, hbw⟩
    · have t1 : decide ((3 : Int) < level) = false := by simpa using hhi
      have hf := Lib.hid (show Gs = Hst.rows (Hst.gTo hs level M) by rw [← HGs.out]; unfold Hst.groups Hst.okLevel; rw [if_pos (by simp; omega), HM.out]; rfl)
      generalize hwq : w1.alloc (.cells #[.slice A N ca, .slice B M cb, .int .i64 half, .int .i64 age] 25) = wq at *
      have hMap := Lib.hid (MapAt.new wq penc)
      have hbm : Below w1.heap.size w1 (wq.alloc (.map #[] 0)) := hbw.alloc hbw.size _
      have HBM := Lib.hid hbm
      obtain ⟨hx0, x0, x1, x2, x3⟩ := hbx
      clear hlo hhi hbw hbm HGs
      go_wp2_with fail
      clear x0 x1 x2 x3 hmm hwq
      have hmb : w1.heap.size ≤ wq.heap.size := Nat.le_of_lt hx0
      clear hx0
      generalize hwm : wq.alloc (.map #[] 0) = wm at *
      generalize wq.heap.size = mb at *
      clear hwm
      go_loopw [5, 22] (fun o i wr => ∃ k : Nat, i = .int .i64 (k : Int) ∧ k ≤ M ∧ GRow wr w1.heap.size o (Hst.rows (Hst.gTo hs level k)) ∧ (∃ L, MapAt wr mb penc L ∧ Index (Hst.gTo hs level k) L) ∧ Below w1.heap.size w1 wr) (fun _ i _ => M - (intOf i).toNat)
      case atStart => exact ⟨0, rfl, by omega, GRow.nil _ _, ⟨[], hMap.out, index_nil⟩, HBM.out⟩
      case round =>
        clear hMap HBM
        obtain ⟨k, rfl, hk, hrow, ⟨L, hL, hix⟩, hb⟩ := hrel
        by_cases hkn : k < M
        · have hkh : k < hs.length := by rw [HM.out]; exact hkn
          obtain ⟨bh, oh, rfl, hlth, hch⟩ := row_host HB.out hkh
          obtain ⟨p0, p1, p2, p3, p4, p5⟩ := hch wr hb
          have hkey : Hst.keyOf hs level k = Hst.placeOf hs[k] (k : Int) level := by unfold Hst.keyOf Hst.at_; rw [List.getD_eq_getElem?_getD, List.getElem?_eq_getElem hkh, Option.getD_some]
          have HE := Lib.hid (show Hst.gTo hs level (k + 1) = Hst.gput (Hst.placeOf hs[k] (k : Int) level) k (Hst.gTo hs level k) by rw [← hkey]; rfl)
          have hgo := gof hs[k] (k : Int) level
          have hrl := Lib.hid (fun (j : Nat) (h : j < (Hst.rows (Hst.gTo hs level k)).length) => Hst.rows_each hs level k h)
          have hgl := Lib.hid (Hst.gTo_le hs level k)
          generalize Hst.placeOf hs[k] (k : Int) level = P at *
          generalize hs[k] = h at *
          generalize Hst.gTo hs level k = g at *
          obtain ⟨h0, h1, h2, ⟨h3, h4, h5⟩⟩ := h
          obtain ⟨P0, P1, P2, P3⟩ := P
          simp only at p0 p1 p2 p3 p4 p5
          replace hgo : Gives Try.prog 68 #[.agg #[.int .i64 h0, .int .i64 h1, .int .i64 h2, .int .i64 h3, .int .i64 h4, .int .i64 h5], .int .i64 (k : Int), .int .i64 level] (.agg #[.int .i64 P0, .int .i64 P1, .int .i64 P2, .int .i64 P3]) := hgo
          have HGo := Lib.hid hgo
          have HL := Lib.hid hL
          have HX := Lib.hid hix
          have HR := Lib.hid hrow
          have Hb := Lib.hid hb
          have hsz : w1.heap.size ≤ wr.heap.size := hb.size
          clear hch hkey hgo hkh hL hix hrow hb
          go_wp2_with fail
          refine (HGo.out _).mono ?_
          rintro e w2 ⟨rfl, hb2⟩
          have hb2' : Below wr.heap.size wr w2 := keeps_trans (by (repeat' (first | (with_reducible exact Below.refl _ _) | (with_reducible assumption) | (with_reducible refine Below.alloc ?_ ?_ _) | (with_reducible refine Go.Proofs.Ytjkmcncgndkdoaa.L.below_drewN ?_ _) | (with_reducible refine Below.drew ?_) | (with_reducible refine Below.setCell ?_ ?_ _) | (with_reducible refine Below.frame ?_ _) | go_size))) hb2
          have hHB : Below w1.heap.size w1 w2 := keeps_trans Hb.out hb2'
          have Hb2 := Lib.hid (And.intro hb2' hHB)
          clear p0 p1 p2 p3 p4 p5 hb2 hb2' hHB
          have hb3 : Below w2.heap.size w2 (w2.alloc (.cells #[.int .i64 P0, .int .i64 P1, .int .i64 P2, .int .i64 P3] 93)) := (Below.refl _ _).alloc (Nat.le_refl _) _
          have hw3c : (w2.alloc (.cells #[.int .i64 P0, .int .i64 P1, .int .i64 P2, .int .i64 P3] 93)).heap.size = w2.heap.size + 1 := by simp
          have hwr3 := keeps_trans Hb2.out.1 hb3
          have hL3 := HL.out.on hwr3
          obtain ⟨hlk, _⟩ := hL3.look place_key Try.underlying91 int_zero ⟨P0, P1, P2, P3⟩
          rw [HX.out] at hlk
          obtain ⟨A5, c5, rfl, hsm⟩ := HR.out.form
          have hR3 := HR.out.below hwr3
          rw [Hst.rows_len] at hR3 hsm ⊢
          obtain ⟨n, hn⟩ : ∃ n, g.length = n := ⟨_, rfl⟩
          have hB3 : w1.heap.size ≤ w2.heap.size + 1 := by have := Hb2.out.2.size; omega
          cases hx : Hst.idx ⟨P0, P1, P2, P3⟩ g with
          | none =>
            rw [hx] at hlk
            obtain ⟨w4, hput, hL4, hk4⟩ := hL3.put place_key Try.underlying91 ⟨P0, P1, P2, P3⟩ (.int .i64 (g.length : Int))
            have hR4 := hR3.kept hk4 (fun b cur E _ hc e => by subst e; obtain ⟨es, cl, hh, _⟩ := hL3; rw [hh] at hc; cases hc)
            have hb4 : Below w1.heap.size w1 w4 := (keeps_trans Hb2.out.2 hb3).trans (hk4.below (keeps_trans Hb2.out.2 hb3).size (fun i e => by omega))
            have hix4 := Lib.hid (index_none (i := k) HX.out hx)
            have hrw := Lib.hid (Hst.rows_none (i := k) hx)
            have hnl : (Hst.rows g).length = n := by rw [Hst.rows_len, hn]
            obtain ⟨v5, w5, hrun5, hR5, hk5⟩ := grow_push (x := .slice none 0 0) (l := []) hR4 (Below.refl _ _) hb4.size (RowV.nil _ _ _) (fun g e => by cases e) (by rw [hnl, ← hn]; have := hgl.out; omega)
            have hb5 := hb4.trans (hk5.below hb4.size (fun i e => (hR4.cf e).1))
            have hL5 := hL4.kept hk5 (fun e => CF.map hL4 (hR4.cf e))
            obtain ⟨A6, c6, rfl, hsm6⟩ := hR5.form
            obtain ⟨G, rfl⟩ := hsm6 (by simp)
            have hj6 : n < (Hst.rows g ++ [[]]).length := by simp; omega
            obtain ⟨x, x', w6, hc6, hrun6, hc6', hf6', hR6, hk6, ⟨ax, mx, qx, ex⟩, ⟨ay, my, qy, ey⟩, hG6, hnn6⟩ := grow_turn hR5 hb5.size hj6 k (by
              rw [List.getElem_append_right (by omega)]; simp)
            have hnil : (Hst.rows g ++ [[]])[n] = [] := by
              rw [List.getElem_append_right (by omega)]; simp
            rw [hnil] at hR6
            have hL6 := hL5.kept hk6 (fun e => CF.map hL5 e)
            have hb6 := hb5.trans (hk6.below hb5.size (fun i e => e.1))
            have hfin : GRow (w6.setCell ⟨G, n, none⟩ x') w1.heap.size (.slice (some ⟨G, 0, none⟩) (Hst.rows g ++ [[]]).length c6) (Hst.rows (Hst.gTo hs level (k + 1))) := by
              rw [HE.out, hrw.out]
              rw [show (Hst.rows g).length = n from hnl]
              exact hR6
            have HFin := Lib.hid (And.intro hfin (And.intro hb6 (And.intro hL6 hix4.out)))
            rw [List.length_append, List.length_singleton, Hst.rows_len] at hrun5 HFin
            have hlen6 : (Hst.rows g ++ [[]]).length = n + 1 := by simp [hnl]
            subst ex ey
            rw [hn] at hput hrun5 HFin ⊢
            simp only [penc, posV, Option.map_none, Option.getD_none, Option.isSome_none] at hlk hput
            clear hL3 hR3 hL4 hR4 hk4 hb4 hrw hnl hR5 hk5 hb5 hL5 hj6 hR6 hk6 hL6 hb6 hfin hsm hsm6 hix4 hnil hwr3 hb3 Hb2 HL HR Hb HX hlen6 hnn6
            have hln : (Hst.rows g).length = n := by rw [Hst.rows_len, hn]
            have Hln := Lib.hid hln
            clear hln hn
            go_wp2_with (at_builtin; refine wpList_append_eq rfl (.tmp 44) (.tmp 45) _ _ rfl (.slice A5 n c5) (.slice (some ⟨w4.heap.size, 0, none⟩) 1 1) rfl rfl hrun5 ?_; go_wp2_with (at_builtin; refine wpList_append_eq rfl (.tmp 52) (.tmp 54) _ _ rfl (.slice ax mx qx) (.slice (some ⟨w5.heap.size, 0, none⟩) 1 1) rfl rfl hrun6 ?_))
            go_roundw
            case rel => exact ⟨k + 1, by go_num, by omega, HFin.out.1, ⟨_, HFin.out.2.2.1, by rw [HE.out]; exact HFin.out.2.2.2⟩, HFin.out.2.1⟩
            case measure => simp [intOf]; omega
          | some j =>
            rw [hx] at hlk
            have hb3' := keeps_trans Hb2.out.2 hb3
            obtain ⟨hjr, hrw⟩ := Hst.rows_some (i := k) hx
            have hix4 := Lib.hid (index_some (i := k) HX.out hx)
            have hjn : j < n := by rw [← hn, ← Hst.rows_len]; exact hjr
            obtain ⟨G, rfl⟩ := hsm (by rw [hn]; omega)
            obtain ⟨x, x', w6, hc6, hrun6, hc6', hf6', hR6, hk6, ⟨ax, mx, qx, ex⟩, ⟨ay, my, qy, ey⟩, hG6, hnn6⟩ := grow_turn hR3 hb3'.size hjr k (by have := hrl.out j hjr; omega)
            have hL6 := hL3.kept hk6 (fun e => CF.map hL3 e)
            have hb6 := hb3'.trans (hk6.below hb3'.size (fun i e => e.1))
            rw [← hrw, ← HE.out] at hR6
            rw [← HE.out] at hix4
            have HFin := Lib.hid (And.intro hR6 (And.intro hb6 (And.intro hL6 hix4.out)))
            subst ex ey
            rw [hn] at HFin ⊢
            simp only [penc, posV, Option.map_some, Option.getD_some, Option.isSome_some] at hlk
            simp only [World.size_alloc] at hrun6
            clear hL3 hR3 hb3' hrw hix4 hR6 hk6 hL6 hb6 hsm hwr3 hb3 Hb2 HL HR Hb HX hnn6 hjr hn hw3c hB3
            go_wp2_with (at_builtin; refine wpList_append_eq rfl (.tmp 52) (.tmp 54) _ _ rfl (.slice ax mx qx) (.slice (some ⟨w2.heap.size + 1, 0, none⟩) 1 1) rfl rfl hrun6 ?_)
            go_roundw
            case rel => exact ⟨k + 1, by go_num, by omega, HFin.out.1, ⟨_, HFin.out.2.2.1, HFin.out.2.2.2⟩, HFin.out.2.1⟩
            case measure => simp [intOf]; omega
        · have HE := Lib.hid (show GEnd Gs w1 (.returned u5) wr from ⟨u5, rfl, by rw [hf.out, show M = k by omega]; exact hrow, hb⟩)
          clear hrow hL hix hb
          go_wp2_with fail
          go_ret
          exact HE.out
end Go.Proofs.Ytjkmcncgndkdoaa.CfgW
