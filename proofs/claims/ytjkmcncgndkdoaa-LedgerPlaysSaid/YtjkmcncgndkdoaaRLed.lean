/-
  The reference's ledger: new, taken from.
-/
import Derived.Test.YtjkmcncgndkdoaaLedNew
import Derived.Test.YtjkmcncgndkdoaaRefPath
import Derived.RegionTactic
import Derived.BigRegion
set_option linter.unusedVariables false
set_option linter.unusedSimpArgs false
namespace Go.Proofs.Ytjkmcncgndkdoaa.CfgW
open Go Go.RowKit Go.Proofs.Ytjkmcncgndkdoaa.L

/-- The reference's ledger in block g; its row in block rb. -/
structure RLedAt (w : World) (g rb cp : Nat) (v1 v2 : Value) (half age : Int) (c : Cfg.C) (u : Led.U) : Prop where
  box : CBox w g v1 v2 half age
  ptr : w.cell? ⟨g, 4, none⟩ = some (.slice (some ⟨rb, 0, none⟩) c.nodes.length cp)
  row : VRow w rb (.slice (some ⟨rb, 0, none⟩) c.nodes.length cp) (Led.all c u)
  cfg : CfgAt w (.agg #[v1, v2, .int .i64 half, .int .i64 age]) c
  ne : g ≠ rb
theorem RLedAt.rlt {w : World} {g rb cp : Nat} {v1 v2 : Value} {half age : Int} {c : Cfg.C} {u : Led.U} (h : RLedAt w g rb cp v1 v2 half age c u) : rb < w.heap.size := (h.row.lt rb rfl).2
theorem RLedAt.kept {w0 W W' : World} {g rb cp : Nat} {v1 v2 : Value} {half age : Int} {c : Cfg.C} {u : Led.U} {F : Nat → Prop} (h0 : CfgAt w0 (.agg #[v1, v2, .int .i64 half, .int .i64 age]) c) (h : RLedAt W g rb cp v1 v2 half age c u) (k : Kept F W W')
    (hg : ¬ F g) (hr : ¬ F rb) (hF : ∀ b, F b → w0.heap.size ≤ b ∨ ∃ es cl, W.heap[b]? = some (.map es cl)) : RLedAt W' g rb cp v1 v2 half age c u :=
  ⟨h.box.kept k hg, (k.cell (p := ⟨g, 4, none⟩) h.box.1 hg).trans h.ptr, h.row.kept (fun b hb => by cases hb; exact k.block rb h.rlt hr), cfg_kept h0 h.cfg k hF, h.ne⟩
theorem RLedAt.on {w w' : World} {g rb cp : Nat} {v1 v2 : Value} {half age : Int} {c : Cfg.C} {u : Led.U} (h : RLedAt w g rb cp v1 v2 half age c u) (hb : Below w.heap.size w w') : RLedAt w' g rb cp v1 v2 half age c u :=
  h.kept (F := fun _ => False) h.cfg (Kept.of_below hb) (fun h => h) (fun h => h) (fun _ h => h.elim)
theorem RLedAt.turn {w0 w w' : World} {g rb cp : Nat} {v1 v2 : Value} {half age : Int} {c : Cfg.C} {u u' : Led.U} (h0 : CfgAt w0 (.agg #[v1, v2, .int .i64 half, .int .i64 age]) c) (hlt : w0.heap.size ≤ rb) (h : RLedAt w g rb cp v1 v2 half age c u) (k : Kept (fun b => b = rb) w w')
    (hr : VRow w' rb (.slice (some ⟨rb, 0, none⟩) c.nodes.length cp) (Led.all c u')) : RLedAt w' g rb cp v1 v2 half age c u' :=
  ⟨h.box.kept k h.ne, (k.cell (p := ⟨g, 4, none⟩) h.box.1 h.ne).trans h.ptr, hr, cfg_kept h0 h.cfg k (fun b e => .inl (by omega)), h.ne⟩
theorem all_length (c : Cfg.C) (u : Led.U) : (Led.all c u).length = c.nodes.length := by simp [Led.all]
theorem all_get (c : Cfg.C) (u : Led.U) (x : Nat) (h : x < (Led.all c u).length) : (Led.all c u)[x] = u x := by simp [Led.all]
theorem all_upd (c : Cfg.C) (u : Led.U) (x : Nat) (v : Vec.V) : (Led.all c u).set x v = Led.all c (upd u x v) := by
  apply List.ext_getElem?
  intro i
  by_cases hi : i = x
  · subst hi
    by_cases h : i < c.nodes.length
    · rw [List.getElem?_set_self (by rw [all_length]; exact h)]
      simp [Led.all, upd, h]
    · rw [List.getElem?_eq_none (by rw [List.length_set, all_length]; omega), List.getElem?_eq_none (by rw [all_length]; omega)]
  · rw [List.getElem?_set_ne (Ne.symm hi)]
    by_cases h : i < c.nodes.length <;> simp [Led.all, upd, h, hi]
theorem all_none_ (c : Cfg.C) : Led.all c Led.none_ = List.replicate c.nodes.length Vec.zero := by
  apply List.ext_getElem?
  intro i
  by_cases h : i < c.nodes.length <;> simp [Led.all, Led.none_, h]

def RNewEnd (v1 v2 : Value) (half age : Int) (c : Cfg.C) (w : World) (e : Ending) (w' : World) : Prop := ∃ g rb cp, e = .returned (.pointer (some ⟨g, 0, none⟩)) ∧ RLedAt w' g rb cp v1 v2 half age c Led.none_ ∧ w.heap.size ≤ g ∧ w.heap.size ≤ rb ∧ Below w.heap.size w w'

set_option maxRecDepth 100000 in
set_option maxHeartbeats 4000000 in
theorem rnew_any {w : World} {v1 v2 : Value} {half age : Int} {c : Cfg.C} (hc : CfgAt w (.agg #[v1, v2, .int .i64 half, .int .i64 age]) c) (hn : c.nodes.length ≤ 1000000) :
    ∀ w1, Below w.heap.size w w1 → Calls Try.prog 25 #[.agg #[v1, v2, .int .i64 half, .int .i64 age]] w1 fun e w' => RNewEnd v1 v2 half age c w1 e w' := by
  intro w1 hb1
  replace hc := hc.below hb1
  clear hb1
  have HC := Lib.hid hc
  obtain ⟨v1', v2', ee, ⟨A, ca, e1, hrA, hlA⟩, ⟨B, cb, e2, hrB, hlB⟩⟩ := hc
  have ev1 : v1 = .slice A c.nodes.length ca := by
    simp only [Value.agg.injEq, Array.mk.injEq, List.cons.injEq, and_true] at ee
    rw [ee.1, e1]
  have ev2 : v2 = .slice B c.hosts.length cb := by
    simp only [Value.agg.injEq, Array.mk.injEq, List.cons.injEq, and_true] at ee
    rw [ee.2.1, e2]
  generalize c.hosts.length = M at *
  obtain ⟨N, hNe⟩ : ∃ N, c.nodes.length = N := ⟨_, rfl⟩
  have HN := Lib.hid hNe
  rw [hNe] at ev1 hn
  have hbx := CBox.new w1 v1 v2 half age
  have hbw : Below w1.heap.size w1 (w1.alloc (.cells #[v1, v2, .int .i64 half, .int .i64 age] 25)) := (Below.refl _ _).alloc (Nat.le_refl _) _
  subst ev1 ev2
  clear hrA hlA ee e1 hNe hrB hlB e2
  have mk := fun W => make_vecs W N (by omega)
  have Mk := Lib.hid mk
  clear mk
  go_enter Try.func25, Try.ntmps25
  generalize hwq : w1.alloc (.cells #[.slice A N ca, .slice B M cb, .int .i64 half, .int .i64 age] 25) = wq at *
  have HBX := Lib.hid hbx
  have Hbw := Lib.hid hbw
  obtain ⟨hx0, x0, x1, x2, x3⟩ := hbx
  obtain ⟨w3, hr3, hv3, hb3, hs3⟩ := Mk.out wq.drew
  have hq3 : Below wq.heap.size wq w3 := (Below.refl _ wq).drew.trans hb3
  obtain ⟨-, z0, z1, z2, z3⟩ := HBX.out.on hq3
  have Hv3 := Lib.hid hv3
  have Hq3 := Lib.hid hq3
  clear hv3 hb3 hq3
  clear hbw
  go_wp2_with fail
  clear hwq
  go_region
  clear x0 x1 x2 x3 z0 z1 z2 z3 hr3
  go_wp2_with fail
  refine bodyPost_ret (results_tmp rfl _ _ _) rfl ?_
  have hdz : wq.drew.heap.size = wq.heap.size := by simp
  have hv := Hv3.out
  rw [hdz] at hv hs3
  have hbl : Below w3.heap.size w3 (w3.alloc (.cells #[.slice A N ca, .slice B M cb, .int .i64 half, .int .i64 age, .slice (some ⟨wq.heap.size, 0, none⟩) N N] 52)) := by (repeat' (first | (with_reducible exact Below.refl _ _) | (with_reducible assumption) | (with_reducible refine Below.alloc ?_ ?_ _) | (with_reducible refine Go.Proofs.Ytjkmcncgndkdoaa.L.below_drewN ?_ _) | (with_reducible refine Below.drew ?_) | (with_reducible refine Below.setCell ?_ ?_ _) | (with_reducible refine Below.frame ?_ _) | go_size))
  refine ⟨w3.heap.size, wq.heap.size, N, rfl, ⟨⟨by simp, ?_, ?_, ?_, ?_⟩, ?_, ?_, ?_, by omega⟩, by omega, by omega, keeps_trans (keeps_trans Hbw.out Hq3.out) hbl⟩
  · simp [go_sem]
  · simp [go_sem]
  · simp [go_sem]
  · simp [go_sem]
  · rw [HN.out]; simp [go_sem]
  · rw [HN.out, all_none_, HN.out]; exact hv.below hbl
  · exact HC.out.below (keeps_trans (keeps_trans Hbw.out Hq3.out) hbl)

def RLedEnd (n : Int) (g rb cp : Nat) (v1 v2 : Value) (half age : Int) (c : Cfg.C) (u' : Led.U) (w : World) (e : Ending) (w' : World) : Prop := e = .returned (.int .i64 n) ∧ RLedAt w' g rb cp v1 v2 half age c u' ∧ Kept (fun k => k = rb) w w'

theorem path_nodup (c : Cfg.C) (t : Int) : (Tree.path c t).Nodup := (List.pairwise_reverse.2 (Tree.up_pairwise c t)).imp (fun h => by omega)
theorem path_lt (c : Cfg.C) (t : Int) : ∀ x ∈ Tree.path c t, x < c.nodes.length := fun x hx => (Tree.up_lt c t x (List.mem_reverse.1 hx)).1
theorem path_bump (c : Cfg.C) (t : Int) (f : Vec.V → Vec.V) (u : Led.U) : Led.bump f u (Tree.path c t) = Led.bump f u (Tree.up c t) := Led.bump_perm f u (fun i => List.mem_reverse)

set_option maxRecDepth 100000 in
set_option maxHeartbeats 4000000 in
theorem rtake_any {w0 w : World} {g rb cp : Nat} {v1 v2 : Value} {half age : Int} {c : Cfg.C} {u : Led.U} (h0 : CfgAt w0 (.agg #[v1, v2, .int .i64 half, .int .i64 age]) c) (hw0 : w0.heap.size ≤ rb) (h : RLedAt w g rb cp v1 v2 half age c u) (hN : c.nodes.length ≤ 1000000) (t : Int) (v : Vec.V) :
    Calls Try.prog 29 #[.pointer (some ⟨g, 0, none⟩), .int .i64 t, v.val] w fun e w' => RLedEnd (Led.takeErr c t v) g rb cp v1 v2 half age c (Led.take c u t v) w e w' := by
  have gv := VecW.grvalid v
  have gl := rleaf_any h.cfg t
  have gp := Lib.hid (fun W hW => rpath_any h.cfg hN t W hW)
  have ga := Lib.hid (fun a => VecW.gradd a v)
  have H := Lib.hid h
  have h4 := h.ptr
  have hg := h.box.1
  obtain ⟨hgb, c0, c1, c2, c3⟩ := h.box
  have hrb := h.rlt
  unfold Led.takeErr Led.take Led.changeErr Led.change
  have Hpn := Lib.hid (path_nodup c t)
  have Hpl := Lib.hid (path_lt c t)
  have Hpb := Lib.hid (path_bump c t (fun a => Vec.add a v) u)
  generalize Tree.path c t = PT at *
  obtain ⟨q, hq⟩ : ∃ q, Vec.valid v = q := ⟨_, rfl⟩
  obtain ⟨s, hs⟩ : ∃ s, Cfg.leaf c t = s := ⟨_, rfl⟩
  rw [hq] at gv ⊢
  rw [hs] at gl ⊢
  clear hq hs h
  have hx3 : VBox3 (w.alloc (.cells #[.int .i64 v.x, .int .i64 v.y, .int .i64 v.z] 33)) w.heap.size 0 v := by refine ⟨by simp, ?_, ?_, ?_⟩ <;> simp [go_sem]
  have hb0 : Below w.heap.size w (w.alloc (.cells #[.int .i64 v.x, .int .i64 v.y, .int .i64 v.z] 33)) := (Below.refl _ _).alloc (Nat.le_refl _) _
  obtain ⟨x0, x1, x2⟩ := v
  have Gv := Lib.hid (show Gives Try.prog 36 #[.agg #[.int .i64 x0, .int .i64 x1, .int .i64 x2]] (.bool q) from gv)
  have Gl := Lib.hid gl
  have HX := Lib.hid hx3
  have Hb0 := Lib.hid hb0
  have hsz : (w.alloc (.cells #[.int .i64 x0, .int .i64 x1, .int .i64 x2] 33)).heap.size = w.heap.size + 1 := by simp
  clear gv gl hx3 hb0 c0 c1 c2 c3
  show Calls Try.prog 29 #[.pointer (some ⟨g, 0, none⟩), .int .i64 t, .agg #[.int .i64 x0, .int .i64 x1, .int .i64 x2]] w _
  go_enter Try.func29, Try.ntmps29
  go_wp2_with fail
  refine (Gv.out _).mono ?_
  rintro e w2 ⟨rfl, hb2⟩
  have HX2 := Lib.hid (HX.out.on hb2)
  have HB2 := Lib.hid (keeps_trans Hb0.out hb2)
  have hs2 : w.heap.size < w2.heap.size := by have := hb2.size; omega
  clear hb2 HX hsz
  cases q
  · have hE := Lib.hid (show RLedEnd 1 g rb cp v1 v2 half age c u w (.returned (.int .i64 1)) w2 from ⟨rfl, H.out.on HB2.out, Kept.of_below HB2.out⟩)
    go_wp2_with fail
    go_ret
    exact hE.out
  obtain ⟨-, c0, c1, c2, c3⟩ := (H.out.on HB2.out).box
  go_wp2_with fail
  refine (Gl.out _ HB2.out).mono ?_
  rintro e w3 ⟨rfl, hb3⟩
  have HB3 := Lib.hid (keeps_trans HB2.out hb3)
  have HX3 := Lib.hid (HX2.out.on hb3)
  clear hb3 c0 c1 c2 c3 HX2
  cases s
  · have hE := Lib.hid (show RLedEnd 3 g rb cp v1 v2 half age c u w (.returned (.int .i64 3)) w3 from ⟨rfl, H.out.on HB3.out, Kept.of_below HB3.out⟩)
    go_wp2_with fail
    go_ret
    exact hE.out
  obtain ⟨-, c0, c1, c2, c3⟩ := (H.out.on HB3.out).box
  go_wp2_with fail
  refine (gp.out _ HB3.out).mono ?_
  rintro e w4 ⟨v4, rfl, hI4, hb4⟩
  have HB4 := Lib.hid (keeps_trans HB3.out hb4)
  have HX4 := Lib.hid (HX3.out.on hb4)
  obtain ⟨A4, c4, rfl, hc4⟩ := ints_cell hI4
  have HI4 := Lib.hid hI4
  have HC4 := Lib.hid hc4
  have Hs34 := Lib.hid (show w.heap.size ≤ w3.heap.size from HB3.out.size)
  obtain ⟨L, hL⟩ : ∃ L, PT.length = L := ⟨_, rfl⟩
  have HL := Lib.hid hL
  have hL1 : L ≤ maxLen := by
    have e : (ival PT).length = PT.length := by simp [ival]
    rcases hI4.2 with ⟨_, hx⟩ | ⟨_, cap, _, _, _, _, hx1, hx2, _⟩
    · omega
    · omega
  unfold maxLen at hL1
  rw [hL] at HI4 ⊢
  clear hb4 hI4 hc4 c0 c1 c2 c3 HX3 gp hL Gl Gv
  go_wp2_with fail
  go_loopw [8] (fun i wr => ∃ k : Nat, i = .int .i64 (k : Int) ∧ k ≤ L ∧ RLedAt wr g rb cp v1 v2 half age c (Led.bump (fun a => Vec.add a ⟨x0, x1, x2⟩) u (PT.take k)) ∧ Kept (fun b => b = rb) w4 wr) (fun i _ => L - (intOf i).toNat)
  case atStart => exact ⟨0, rfl, by omega, by rw [List.take_zero, Led.bump_nil]; exact H.out.on HB4.out, Kept.refl _ _⟩
  case round =>
    obtain ⟨k, rfl, hk, hl, hkk⟩ := hrel
    rename World => wr
    have HLr := Lib.hid hl
    have HKr := Lib.hid hkk
    have hwr : w4.heap.size ≤ wr.heap.size := hkk.size
    by_cases hkL : k < L
    · have hkp : k < PT.length := by rw [HL.out]; exact hkL
      obtain ⟨x, hx⟩ : ∃ x, PT[k] = x := ⟨_, rfl⟩
      have hxe : PT[k]? = some x := by rw [List.getElem?_eq_getElem hkp, hx]
      have hxn := Hpl.out x (List.mem_of_getElem? hxe)
      obtain ⟨gp, rfl, hgp1, hgp2, hcx⟩ := HC4.out k x hxe
      have hcx2 := (hkk.cell (p := ⟨gp, k, none⟩) hgp2 (by show ¬ gp = rb; have := Hs34.out; omega)).trans hcx
      have htk : PT.take (k + 1) = PT.take k ++ [x] := by rw [List.take_succ_eq_append_getElem hkp, hx]
      have hxt : x ∉ PT.take k := fun hm => by
        have hnd := Hpn.out
        rw [← List.take_append_drop (k + 1) PT, htk, List.append_assoc, List.nodup_append] at hnd
        exact hnd.2.2 x hm x (by simp) rfl
      have HS := Lib.hid (show Led.bump (fun a => Vec.add a ⟨x0, x1, x2⟩) u (PT.take (k + 1)) = upd (Led.bump (fun a => Vec.add a ⟨x0, x1, x2⟩) u (PT.take k)) x (Vec.add (u x) ⟨x0, x1, x2⟩) by rw [htk, bump_snoc _ _ _ _ hxt])
      have hat := hl.row.at_ (i := x) (by rw [all_length]; exact hxn)
      rw [all_get, bump_not _ _ _ _ hxt] at hat
      have h4r := hl.ptr
      have hgr := hl.box.1
      have hbx := HX4.out.kept hkk (by show ¬ w.heap.size = rb; omega)
      have gadd := ga.out (u x)
      generalize u x = y at *
      obtain ⟨y0, y1, y2⟩ := y
      obtain ⟨z, hz⟩ : ∃ z, Vec.add ⟨y0, y1, y2⟩ ⟨x0, x1, x2⟩ = z := ⟨_, rfl⟩
      rw [hz] at gadd HS
      obtain ⟨z0, z1, z2⟩ := z
      replace gadd : Gives Try.prog 65 #[.agg #[.int .i64 y0, .int .i64 y1, .int .i64 y2], .agg #[.int .i64 x0, .int .i64 x1, .int .i64 x2]] (.agg #[.int .i64 z0, .int .i64 z1, .int .i64 z2]) := gadd
      obtain ⟨-, -, hrw, q0, q1, q2⟩ := hat
      obtain ⟨hbl, b0, b1, b2⟩ := hbx
      simp only at q0 q1 q2 b0 b1 b2
      have hgw : gp < wr.heap.size := by omega
      have P0 := fun W (h : Onward wr W) => h.cell hgr h4r
      have P1 := fun W (h : Onward wr W) => h.cell hgw hcx2
      have P2 := fun W (h : Onward wr W) => h.cell hrw q0
      have P3 := fun W (h : Onward wr W) => h.cell hrw q1
      have P4 := fun W (h : Onward wr W) => h.cell hrw q2
      have P5 := fun W (h : Onward wr W) => h.cell hbl b0
      have P6 := fun W (h : Onward wr W) => h.cell hbl b1
      have P7 := fun W (h : Onward wr W) => h.cell hbl b2
      clear hl hkk hx hxe hcx hcx2 htk hxt hz h4r hkp q0 q1 q2 b0 b1 b2
      go_wp2_with fail
      refine region_keep_tail 21 (by kernel_rfl) (by kernel_rfl) ?_
      simp only [List.take_succ_cons, List.take_zero, List.drop_succ_cons, List.drop_zero]
      repeat (apply Go.Proofs.Ytjkmcncgndkdoaa.L.wpKeep_yes; (focus rfl); (focus (intro W hW; go_simp; first | done | exact ⟨rfl, hW⟩ | rfl)); (focus (go_simp; first | done | rfl)))
      (apply Go.Proofs.Ytjkmcncgndkdoaa.L.wpKeep_yes; (focus rfl); (focus (intro W hW; go_simp; first | exact Go.Proofs.Ytjkmcncgndkdoaa.L.Gives.up gadd hW | exact ⟨hW, Go.Proofs.Ytjkmcncgndkdoaa.L.Gives.up gadd hW⟩)); (focus (go_simp; first | done | rfl)))
      repeat (apply Go.Proofs.Ytjkmcncgndkdoaa.L.wpKeep_yes; (focus rfl); (focus (intro W hW; go_simp; first | done | exact ⟨rfl, hW⟩ | rfl)); (focus (go_simp; first | done | rfl)))
      refine wpKeep_nil ?_
      intro W hW
      have hLW := HLr.out.on hW
      have hRW := hLW.row
      have fz := hRW.ok
      have f0 := fz (x * 3)
      have f1 := fz (x * 3 + 1)
      have f2 := fz (x * 3 + 2)
      have d0 := P2 W hW
      have d1 := P3 W hW
      have d2 := P4 W hW
      have hk3 := put3_kept W rb (x * 3) ⟨z0, z1, z2⟩
      have hst := hRW.set x ⟨z0, z1, z2⟩
      rw [all_upd, ← HS.out] at hst
      have HE := Lib.hid (show RLedAt (put3 W rb (x * 3) ⟨z0, z1, z2⟩) g rb cp v1 v2 half age c (Led.bump (fun a => Vec.add a ⟨x0, x1, x2⟩) u (PT.take (k + 1))) ∧ Kept (fun b => b = rb) w4 (put3 W rb (x * 3) ⟨z0, z1, z2⟩) from
        ⟨hLW.turn h0 hw0 hk3 hst, (HKr.out.trans (Kept.of_below hW)).trans hk3⟩)
      unfold put3 at HE
      clear P0 P1 P2 P3 P4 P5 P6 P7 hLW hRW fz hk3 hst hW gadd
      go_wp2_with fail
      go_roundw
      case rel => exact ⟨k + 1, by go_num, by omega, HE.out.1, HE.out.2⟩
      case measure => simp [intOf]; omega
    · have hE := Lib.hid (show RLedEnd 0 g rb cp v1 v2 half age c (Led.bump (fun a => Vec.add a ⟨x0, x1, x2⟩) u (Tree.up c t)) w (.returned (.int .i64 0)) wr from ⟨rfl, by
        rw [List.take_of_length_le (by rw [HL.out]; omega), Hpb.out] at hl
        exact hl, (Kept.of_below HB4.out).trans hkk⟩)
      clear hl hkk
      have hkd : decide (k < L) = false := by simpa using hkL
      go_wp2_with fail
      go_ret
      exact hE.out
end Go.Proofs.Ytjkmcncgndkdoaa.CfgW
