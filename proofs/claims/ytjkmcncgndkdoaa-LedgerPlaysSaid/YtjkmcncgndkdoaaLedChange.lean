/-
  All nodes on a tenant's path changed: the contract of the ledger's change.
-/
import Derived.Test.YtjkmcncgndkdoaaLedPut
import Derived.Test.YtjkmcncgndkdoaaRound
set_option linter.unusedVariables false
set_option linter.unusedSimpArgs false
namespace Go.Proofs.Ytjkmcncgndkdoaa.CfgW
open Go Go.RowKit Go.Proofs.Ytjkmcncgndkdoaa.L
attribute [local go_sem] Oper.semAt_some

def LedEnd (n : Int) (g mb : Nat) (v1 v2 : Value) (half age : Int) (c : Cfg.C) (u' : Led.U) (w : World) (e : Ending) (w' : World) : Prop := e = .returned (.int .i64 n) ∧ LedAt w' g mb v1 v2 half age c u' ∧ Kept (fun k => k = mb) w w'

set_option maxRecDepth 100000 in
set_option maxHeartbeats 4000000 in
theorem change_no {w : World} {g mb : Nat} {v1 v2 : Value} {half age : Int} {c : Cfg.C} {u : Led.U} (h : LedAt w g mb v1 v2 half age c u) (t : Int) (hl : Cfg.leaf c t = false) (v : Vec.V) (d : FuncId) :
    Calls Try.prog 59 #[.pointer (some ⟨g, 0, none⟩), .int .i64 t, v.val, .func (.func d) #[] #[]] w fun e w' => LedEnd 3 g mb v1 v2 half age c u w e w' := by
  obtain ⟨x0, x1, x2⟩ := v
  have H := Lib.hid h
  have gl := leaf_any h.cfg t
  rw [hl] at gl
  have Gl := Lib.hid gl
  obtain ⟨hg, b0, b1, b2, b3⟩ := h.box
  have hne : ∀ k, ¬ g = w.heap.size + k := fun k e => by omega
  clear h gl hl
  show Calls Try.prog 59 #[.pointer (some ⟨g, 0, none⟩), .int .i64 t, .agg #[.int .i64 x0, .int .i64 x1, .int .i64 x2], .func (.func d) #[] #[]] w _
  have hb : Below w.heap.size w (((w.alloc (.cells #[.pointer (some ⟨g, 0, none⟩)] 40)).alloc (.cells #[.int .i64 x0, .int .i64 x1, .int .i64 x2] 33)).alloc (.cells #[.func (.func d) #[] #[]] 84)) := by (repeat' (first | (with_reducible exact Below.refl _ _) | (with_reducible assumption) | (with_reducible refine Below.alloc ?_ ?_ _) | (with_reducible refine Go.Proofs.Ytjkmcncgndkdoaa.L.below_drewN ?_ _) | (with_reducible refine Below.drew ?_) | (with_reducible refine Below.setCell ?_ ?_ _) | (with_reducible refine Below.frame ?_ _) | go_size))
  have Hb := Lib.hid hb
  obtain ⟨hg3, c0, c1, c2, c3⟩ := H.out.box.on hb
  clear hb b0 b1 b2 b3
  go_enter Try.func59, Try.ntmps59
  go_wp2_with fail
  refine (Gl.out _ Hb.out).mono ?_
  rintro e w2 ⟨rfl, hb2⟩
  have HB2 := Lib.hid (keeps_trans Hb.out hb2)
  clear hb2 c0 c1 c2 c3
  go_wp2_with fail
  go_ret
  exact ⟨rfl, H.out.on HB2.out, Kept.of_below HB2.out⟩

set_option maxRecDepth 100000 in
set_option maxHeartbeats 4000000 in
theorem change_yes {w : World} {g mb : Nat} {v1 v2 : Value} {half age : Int} {c : Cfg.C} {u : Led.U} (h : LedAt w g mb v1 v2 half age c u) (t : Int) (hl : Cfg.leaf c t = true) (v : Vec.V) (d : FuncId) (f : Vec.V → Vec.V → Vec.V)
    (hd : ∀ a b, Gives Try.prog d #[a.val, b.val] (f a b).val) (hcf : ∀ (a : Array Value) (W : World), (callFunc d a).run Try.prog W = .ok (.enter d a) W) :
    Calls Try.prog 59 #[.pointer (some ⟨g, 0, none⟩), .int .i64 t, v.val, .func (.func d) #[] #[]] w fun e w' => LedEnd 0 g mb v1 v2 half age c (Led.bump (fun a => f a v) u (Tree.up c t)) w e w' := by
  have H := Lib.hid h
  have gl := leaf_any h.cfg t
  rw [hl] at gl
  have Gl := Lib.hid gl
  have hlt := Tree.leaf_lt hl
  obtain ⟨x0, x1, x2⟩ := v
  have HD := Lib.hid hd
  have HCF := Lib.hid hcf
  obtain ⟨hg, b0, b1, b2, b3⟩ := h.box
  clear gl hl hd hcf
  show Calls Try.prog 59 #[.pointer (some ⟨g, 0, none⟩), .int .i64 t, .agg #[.int .i64 x0, .int .i64 x1, .int .i64 x2], .func (.func d) #[] #[]] w _
  have hb : Below w.heap.size w (((w.alloc (.cells #[.pointer (some ⟨g, 0, none⟩)] 40)).alloc (.cells #[.int .i64 x0, .int .i64 x1, .int .i64 x2] 33)).alloc (.cells #[.func (.func d) #[] #[]] 84)) := by (repeat' (first | (with_reducible exact Below.refl _ _) | (with_reducible assumption) | (with_reducible refine Below.alloc ?_ ?_ _) | (with_reducible refine Go.Proofs.Ytjkmcncgndkdoaa.L.below_drewN ?_ _) | (with_reducible refine Below.drew ?_) | (with_reducible refine Below.setCell ?_ ?_ _) | (with_reducible refine Below.frame ?_ _) | go_size))
  have Hb := Lib.hid hb
  obtain ⟨hg3, c0, c1, c2, c3⟩ := H.out.box.on hb
  clear hb b0 b1 b2 b3 h
  refine (callsIn_wide (n := 0)).1 (callsIn_of_wp_marks Try.func59 rfl trivial (wpIn_wide.2 ?_))
  simp only [Try.ntmps59, List.size_toArray, List.length_cons, List.length_nil, Nat.reduceAdd, Nat.reduceSub, Array.replicate_succ, Array.replicate_zero, List.push_toArray, List.append_toArray, List.nil_append, List.cons_append]
  have q0 : (((w.alloc (.cells #[.pointer (some ⟨g, 0, none⟩)] 40)).alloc (.cells #[.int .i64 x0, .int .i64 x1, .int .i64 x2] 33)).alloc (.cells #[.func (.func d) #[] #[]] 84)).cell? ⟨w.heap.size, 0, none⟩ = some (.pointer (some ⟨g, 0, none⟩)) := by simp [go_sem]
  have q1 : VBox3 (((w.alloc (.cells #[.pointer (some ⟨g, 0, none⟩)] 40)).alloc (.cells #[.int .i64 x0, .int .i64 x1, .int .i64 x2] 33)).alloc (.cells #[.func (.func d) #[] #[]] 84)) (w.heap.size + 1) 0 ⟨x0, x1, x2⟩ := by refine ⟨by simp, ?_, ?_, ?_⟩ <;> simp [go_sem]
  have q2 : (((w.alloc (.cells #[.pointer (some ⟨g, 0, none⟩)] 40)).alloc (.cells #[.int .i64 x0, .int .i64 x1, .int .i64 x2] 33)).alloc (.cells #[.func (.func d) #[] #[]] 84)).cell? ⟨w.heap.size + 1 + 1, 0, none⟩ = some (.func (.func d) #[] #[]) := by simp [go_sem]
  generalize hwq : ((w.alloc (.cells #[.pointer (some ⟨g, 0, none⟩)] 40)).alloc (.cells #[.int .i64 x0, .int .i64 x1, .int .i64 x2] 33)).alloc (.cells #[.func (.func d) #[] #[]] 84) = wq at *
  have hsz : wq.heap.size = w.heap.size + 3 := by rw [← hwq]; simp
  have Hq := Lib.hid (And.intro q0 (And.intro q1 q2))
  clear q1 q2
  go_wp2_with fail
  refine (Gl.out _ Hb.out).mono ?_
  rintro e w2 ⟨rfl, hb2⟩
  have HB2 := Lib.hid hb2
  have H2 := Lib.hid (H.out.on (keeps_trans Hb.out hb2))
  clear c0 c1 c2 c3 q0 hwq hg3 Gl
  obtain ⟨hg2, c0, c1, c2, c3⟩ := H2.out.box
  have q0 : w2.cell? ⟨w.heap.size, 0, none⟩ = some (.pointer (some ⟨g, 0, none⟩)) := (hb2.cell (p := ⟨w.heap.size, 0, none⟩) (by show w.heap.size < wq.heap.size; omega)).trans Hq.out.1
  have q1 := Lib.hid (Hq.out.2.1.on hb2)
  have q2 := Lib.hid (show w2.cell? ⟨w.heap.size + 1 + 1, 0, none⟩ = some (.func (.func d) #[] #[]) from (hb2.cell (p := ⟨w.heap.size + 1 + 1, 0, none⟩) (by show w.heap.size + 1 + 1 < wq.heap.size; omega)).trans Hq.out.2.2)
  have hsz2 : w.heap.size + 3 ≤ w2.heap.size := by have := hb2.size; omega
  clear hb2
  go_wp2_with fail
  refine (up_any v1 v2 half age t w2).mono ?_
  rintro e w3 ⟨rfl, rfl⟩
  go_wp2_with fail
  obtain ⟨v1', v2', ee, ⟨A, ca, e1, hrA, hlA⟩, _⟩ := H.out.cfg
  have ev1 : v1 = .slice A c.nodes.length ca := by
    simp only [Value.agg.injEq, Array.mk.injEq, List.cons.injEq, and_true] at ee
    rw [ee.1, e1]
  have hne : c.nodes ≠ [] := fun e => by rw [e] at hlt; simp at hlt; omega
  obtain ⟨bA, oA, eA, hbA, hcA⟩ := hrA hne
  have hAm : bA ≠ mb := fun e => by
    obtain ⟨x, tl, ex⟩ := List.exists_cons_of_ne_nil hne
    obtain ⟨es, cl, hm⟩ := H.out.isMap
    subst e
    exact not_map (hcA 0 x (by rw [ex]; rfl) 0 _ rfl) hm
  have hmw : mb < w.heap.size := H.out.mlt
  have hwl : Below w2.heap.size w2 ((w2.alloc (.cells #[v1, v2, .int .i64 half, .int .i64 age] 25)).alloc (.cells #[.int .i64 t] 3)) := by (repeat' (first | (with_reducible exact Below.refl _ _) | (with_reducible assumption) | (with_reducible refine Below.alloc ?_ ?_ _) | (with_reducible refine Go.Proofs.Ytjkmcncgndkdoaa.L.below_drewN ?_ _) | (with_reducible refine Below.drew ?_) | (with_reducible refine Below.setCell ?_ ?_ _) | (with_reducible refine Below.frame ?_ _) | go_size))
  have hUp : UpAt ((w2.alloc (.cells #[v1, v2, .int .i64 half, .int .i64 age] 25)).alloc (.cells #[.int .i64 t] 3)) (w2.heap.size + 1) w2.heap.size A c.nodes.length ca v2 half age c.nodes t := by
    refine ⟨by simp [go_sem], by simp [go_sem], by simp, ?_, hrA.below (keeps_trans (keeps_trans Hb.out HB2.out) hwl)⟩
    rw [← ev1]
    exact (CBox.new w2 v1 v2 half age).on ((Below.refl _ _).alloc (Nat.le_refl _) _)
  have hszl : ((w2.alloc (.cells #[v1, v2, .int .i64 half, .int .i64 age] 25)).alloc (.cells #[.int .i64 t] 3)).heap.size = w2.heap.size + 2 := by simp
  generalize (w2.alloc (.cells #[v1, v2, .int .i64 half, .int .i64 age] 25)).alloc (.cells #[.int .i64 t] 3) = wl at *
  have h0w := H.out.cfg
  have hgw : g < w.heap.size := hg
  have HL := Lib.hid (H2.out.on hwl)
  have Q0 := Lib.hid ((hwl.cell (p := ⟨w.heap.size, 0, none⟩) (by show w.heap.size < w2.heap.size; omega)).trans q0)
  have Q1 := Lib.hid (q1.out.on hwl)
  have Q2 := Lib.hid ((hwl.cell (p := ⟨w.heap.size + 1 + 1, 0, none⟩) (by show w.heap.size + 1 + 1 < w2.heap.size; omega)).trans q2.out)
  have hww := Lib.hid (keeps_trans (keeps_trans Hb.out HB2.out) hwl)
  clear c0 c1 c2 c3 q0 q1 q2 e1 ee ev1 hcA hrA Hq
  refine (wpIn_wide (n := 0)).1 (range_up c hlA t rfl rfl hUp (by omega) (fun b o e => by rw [eA] at e; cases e; omega) (fun k => k = mb) (by omega) (by omega) (fun b o e => by rw [eA] at e; cases e; exact hAm) (by omega) (by omega)
    (fun pre W => LedAt W g mb v1 v2 half age c (Led.bump (fun a => f a ⟨x0, x1, x2⟩) u pre) ∧ Kept (fun k => k = mb ∨ k = w2.heap.size + 1 ∨ wl.heap.size ≤ k) wl W) (fun _ _ => False)
    (fun pre W W' ⟨h1, h2⟩ k => ⟨h1.kept h0w k (by omega) (by omega) (fun b hb => by omega), h2.trans (k.mono fun i _ e => by omega)⟩)
    (fun _ _ _ h _ => h.elim)
    (fun W hW => ⟨by rw [Led.bump_nil]; exact HL.out.on hW, Kept.of_below hW⟩)
    ?round ?done (fun _ _ _ h => h.elim))
  case round =>
    intro l m pre x rest W hl hpre hj hat
    gi_wp2
    refine ⟨trivial, fun W2 ⟨hL2, hk2⟩ hat2 hlt2 => ?_⟩
    have hxn : x < c.nodes.length := (Tree.up_lt c t x (by rw [hpre]; simp)).1
    have hxp : x ∉ pre := fun hm => by
      have hnd := Tree.up_nodup c t
      rw [hpre, List.nodup_append] at hnd
      exact hnd.2.2 x hm x (by simp) rfl
    have HS := Lib.hid (bump_snoc (fun a => f a ⟨x0, x1, x2⟩) u pre x hxp)
    have hux : Led.at_ c (Led.bump (fun a => f a ⟨x0, x1, x2⟩) u pre) (x : Int) = u x := by
      unfold Led.at_
      rw [if_pos ⟨by omega, by omega⟩, Int.toNat_natCast, bump_not _ _ _ _ hxp]
    have gd := HD.out (u x) ⟨x0, x1, x2⟩
    obtain ⟨y, hy⟩ : ∃ y, u x = y := ⟨_, rfl⟩
    obtain ⟨y0, y1, y2⟩ := y
    rw [hy] at gd hux
    have HL2 := Lib.hid hL2
    have r0 : W2.cell? ⟨w.heap.size, 0, none⟩ = some (.pointer (some ⟨g, 0, none⟩)) := (hk2.cell (p := ⟨w.heap.size, 0, none⟩) (by show w.heap.size < wl.heap.size; omega) (by show ¬ (w.heap.size = mb ∨ w.heap.size = w2.heap.size + 1 ∨ wl.heap.size ≤ w.heap.size); omega)).trans Q0.out
    have r1 := Q1.out.kept hk2 (by omega)
    have r2 : W2.cell? ⟨w.heap.size + 1 + 1, 0, none⟩ = some (.func (.func d) #[] #[]) := (hk2.cell (p := ⟨w.heap.size + 1 + 1, 0, none⟩) (by show w.heap.size + 1 + 1 < wl.heap.size; omega) (by show ¬ (w.heap.size + 1 + 1 = mb ∨ w.heap.size + 1 + 1 = w2.heap.size + 1 ∨ wl.heap.size ≤ w.heap.size + 1 + 1); omega)).trans Q2.out
    obtain ⟨hg3, -, -, -, -⟩ := hL2.box
    have hp2 := hL2.ptr
    have hw3 : w.heap.size + 2 < W2.heap.size := by omega
    have P0 := fun W' (k : Onward W2 W') => k.cell (b := w.heap.size) (by omega) r0
    have P1 := fun W' (k : Onward W2 W') => k.cell (b := w.heap.size + 1 + 1) (by omega) r2
    have P2 := fun W' (k : Onward W2 W') => k.cell r1.1 r1.2.1
    have P3 := fun W' (k : Onward W2 W') => k.cell r1.1 r1.2.2.1
    have P4 := fun W' (k : Onward W2 W') => k.cell r1.1 r1.2.2.2
    have P5 := fun W' (k : Onward W2 W') => k.cell hg3 hp2
    have P6 : ∀ W', Onward W2 W' → (Instr.lookup 80 (.map (some mb)) (.int .i64 (x : Int)) false).run Try.prog W' = .ok (.agg #[.int .i64 y0, .int .i64 y1, .int .i64 y2]) W' := fun W' k => by
      obtain ⟨L, hL, hu⟩ := (HL2.out.on k).map
      have := (hL.look ikey (t := 80) (et := 33) Try.underlying80 vec_zero (x : Int)).2
      rw [hu, hux] at this
      exact this
    have hcf := HCF.out
    obtain ⟨z, hz⟩ : ∃ z, f ⟨y0, y1, y2⟩ ⟨x0, x1, x2⟩ = z := ⟨_, rfl⟩
    rw [hz] at gd
    have HZ := Lib.hid (show Led.bump (fun a => f a ⟨x0, x1, x2⟩) u (pre ++ [x]) = upd (Led.bump (fun a => f a ⟨x0, x1, x2⟩) u pre) x z by rw [HS.out, hy, hz])
    obtain ⟨z0, z1, z2⟩ := z
    have gd' : Gives Try.prog d #[.agg #[.int .i64 y0, .int .i64 y1, .int .i64 y2], .agg #[.int .i64 x0, .int .i64 x1, .int .i64 x2]] (.agg #[.int .i64 z0, .int .i64 z1, .int .i64 z2]) := gd
    clear hux gd hy HS r0 r1 r2 hp2 hj hat hat2 hpre hL2 hz hl hUp HD
    gi_wp2
    refine region_keep_tail_round 11 (fun ⟨_, _, h⟩ => by cases h) (by kernel_rfl) (by kernel_rfl) (by kernel_rfl) ?_
    simp only [List.take_succ_cons, List.take_zero, List.drop_succ_cons, List.drop_zero]
    repeat (apply Go.Proofs.Ytjkmcncgndkdoaa.L.wpKeep_yes; (focus rfl); (focus (intro W hW; go_simp; first | done | exact ⟨rfl, hW⟩ | rfl)); (focus (go_simp; first | done | rfl)))
    (apply Go.Proofs.Ytjkmcncgndkdoaa.L.wpKeep_yes; (focus rfl); (focus (intro W hW; go_simp; first | exact Go.Proofs.Ytjkmcncgndkdoaa.L.Gives.up gd' hW | exact ⟨hW, Go.Proofs.Ytjkmcncgndkdoaa.L.Gives.up gd' hW⟩)); (focus (go_simp; first | done | rfl)))
    repeat (apply Go.Proofs.Ytjkmcncgndkdoaa.L.wpKeep_yes; (focus rfl); (focus (intro W hW; go_simp; first | done | exact ⟨rfl, hW⟩ | rfl)); (focus (go_simp; first | done | rfl)))
    refine wpKeep_nil ?_
    intro W3 hW3
    have hput := Lib.hid (put_any (HL2.out.on hW3) x hxn ⟨z0, z1, z2⟩)
    have HK3 := Lib.hid hW3
    clear P0 P1 P2 P3 P4 P5 P6 hcf gd' hW3
    go_wp2_with fail
    refine hput.out.mono ?_
    rintro e w5 ⟨rfl, hL5, hk5⟩
    have HE := Lib.hid (show (LedAt w5 g mb v1 v2 half age c (Led.bump (fun a => f a ⟨x0, x1, x2⟩) u (pre ++ [x])) ∧ Kept (fun k => k = mb ∨ k = w2.heap.size + 1 ∨ wl.heap.size ≤ k) wl w5) ∧ Kept (fun k => k = mb) W2 w5 by
      have hk6 : Kept (fun k => k = mb) W2 w5 := (Kept.of_below HK3.out).trans hk5
      exact ⟨⟨by rw [HZ.out]; exact hL5, hk2.trans (hk6.mono fun i _ e => .inl e)⟩, hk6⟩)
    clear hL5 hk5 hk2
    go_wp2_with fail
    exact HE.out
  case done =>
    rintro W ⟨hLW, hkW⟩ hD
    go_wp2_with fail
    have hkp := kept_putObj W wl.heap.size (.deferred none)
    refine ⟨by simp, .inl ⟨_, _, rfl, run_takeDeferred hD, ?_⟩⟩
    refine ⟨_, results_tmp rfl _ _ _, rfl, hLW.kept h0w hkp (by omega) (by omega) (fun b e => by omega), ?_⟩
    exact ((Kept.of_below (F := fun k => k = mb) hww.out).trans' hkW (fun i hi e => by omega)).trans' hkp (fun i hi e => by omega)
end Go.Proofs.Ytjkmcncgndkdoaa.CfgW
