/-
  What all nodes use while some run: the contract of ledger.Of.
-/
import Derived.Test.YtjkmcncgndkdoaaLedNew
import Derived.Test.YtjkmcncgndkdoaaRuns
set_option linter.unusedVariables false
set_option linter.unusedSimpArgs false
namespace Go.Proofs.Ytjkmcncgndkdoaa.Led
open Go.Proofs.Ytjkmcncgndkdoaa
/-- What all use while the first k run. -/
def ofTo (c : Cfg.C) (l : List (Int × Vec.V)) : Nat → U
  | 0 => none_
  | k + 1 => change c (ofTo c l k) (l.getD k (0, ⟨0, 0, 0⟩)).1 (fun a => Vec.add a (l.getD k (0, ⟨0, 0, 0⟩)).2)
end Go.Proofs.Ytjkmcncgndkdoaa.Led
namespace Go.Proofs.Ytjkmcncgndkdoaa.CfgW
open Go Go.RowKit Go.Proofs.Ytjkmcncgndkdoaa.L

def needs (rs : List Run) : List (Int × Vec.V) := rs.map fun r => (r.tenant, Vec.times r.need r.pods)
theorem ofTo_succ (c : Cfg.C) (rs : List Run) (k : Nat) (h : k < rs.length) : Led.ofTo c (needs rs) (k + 1) = Led.change c (Led.ofTo c (needs rs) k) rs[k].tenant (fun a => Vec.add a (Vec.times rs[k].need rs[k].pods)) := by
  have e : (needs rs).getD k (0, ⟨0, 0, 0⟩) = (rs[k].tenant, Vec.times rs[k].need rs[k].pods) := by
    rw [List.getD_eq_getElem?_getD, List.getElem?_eq_getElem (by simp [needs]; exact h), Option.getD_some]; simp [needs]
  show Led.change c _ ((needs rs).getD k _).1 _ = _
  rw [e]
def gangV (r : Run) : Value := .agg #[.int .i64 r.id, .int .i64 r.tenant, .int .i64 r.pods, .int .i64 r.need.x, .int .i64 r.need.y, .int .i64 r.need.z, .int .i64 r.run, .int .i64 r.level, .int .i64 r.prefer]

set_option maxRecDepth 100000 in
set_option maxHeartbeats 4000000 in
theorem gdemand (a b p : Int) (v : Vec.V) (d e f : Int) : Gives Try.prog 71 #[.agg #[.int .i64 a, .int .i64 b, .int .i64 p, .int .i64 v.x, .int .i64 v.y, .int .i64 v.z, .int .i64 d, .int .i64 e, .int .i64 f]] (Vec.times v p).val := by
  intro w
  have gt := VecW.gtimes v p
  obtain ⟨x0, x1, x2⟩ := v
  generalize Vec.times ⟨x0, x1, x2⟩ p = y at *
  obtain ⟨y0, y1, y2⟩ := y
  have GT : Hid (Gives Try.prog 84 #[.agg #[.int .i64 x0, .int .i64 x1, .int .i64 x2], .int .i64 p] (.agg #[.int .i64 y0, .int .i64 y1, .int .i64 y2])) := Lib.hid gt
  clear gt
  simp only [Vec.V.val]
  have hx1 : VBox3 ((w.alloc (.cells #[.int .i64 a, .int .i64 b, .int .i64 p, .int .i64 x0, .int .i64 x1, .int .i64 x2, .int .i64 d, .int .i64 e, .int .i64 f] 87)).alloc (.cells #[.int .i64 0, .int .i64 0, .int .i64 0] 33)) (w.heap.size + 1) 0 ⟨0, 0, 0⟩ := by refine ⟨by simp, ?_, ?_, ?_⟩ <;> simp [go_sem]
  have hf1 : ∀ j, ((w.alloc (.cells #[.int .i64 a, .int .i64 b, .int .i64 p, .int .i64 x0, .int .i64 x1, .int .i64 x2, .int .i64 d, .int .i64 e, .int .i64 f] 87)).alloc (.cells #[.int .i64 0, .int .i64 0, .int .i64 0] 33)).frozen? ⟨w.heap.size + 1, j, none⟩ = false := fun j => by simp [go_sem]
  have hb0 : Below w.heap.size w ((w.alloc (.cells #[.int .i64 a, .int .i64 b, .int .i64 p, .int .i64 x0, .int .i64 x1, .int .i64 x2, .int .i64 d, .int .i64 e, .int .i64 f] 87)).alloc (.cells #[.int .i64 0, .int .i64 0, .int .i64 0] 33)) := by (repeat' (first | (with_reducible exact Below.refl _ _) | (with_reducible assumption) | (with_reducible refine Below.alloc ?_ ?_ _) | (with_reducible refine Go.Proofs.Ytjkmcncgndkdoaa.L.below_drewN ?_ _) | (with_reducible refine Below.drew ?_) | (with_reducible refine Below.setCell ?_ ?_ _) | (with_reducible refine Below.frame ?_ _) | go_size))
  have hsz : ((w.alloc (.cells #[.int .i64 a, .int .i64 b, .int .i64 p, .int .i64 x0, .int .i64 x1, .int .i64 x2, .int .i64 d, .int .i64 e, .int .i64 f] 87)).alloc (.cells #[.int .i64 0, .int .i64 0, .int .i64 0] 33)).heap.size = w.heap.size + 2 := by simp
  have HX := Lib.hid hx1
  have HF := Lib.hid hf1
  have Hb := Lib.hid hb0
  clear hx1 hf1 hb0
  go_enter Try.func71, Try.ntmps71
  go_wp2_with fail
  refine (GT.out _).mono ?_
  rintro e w2 ⟨rfl, hb2⟩
  obtain ⟨hz2, c0, c1, c2⟩ := HX.out.on hb2
  simp only [Nat.zero_add] at c0 c1 c2
  have g0 := (hb2.frozen (p := ⟨w.heap.size + 1, 0, none⟩) (by show w.heap.size + 1 < _; omega)).trans (HF.out 0)
  have g1 := (hb2.frozen (p := ⟨w.heap.size + 1, 1, none⟩) (by show w.heap.size + 1 < _; omega)).trans (HF.out 1)
  have g2 := (hb2.frozen (p := ⟨w.heap.size + 1, 2, none⟩) (by show w.heap.size + 1 < _; omega)).trans (HF.out 2)
  have HB2 := Lib.hid (keeps_trans Hb.out hb2)
  clear hb2 hsz
  go_wp2_with fail
  exact bodyPost_ret (v := .agg #[.int .i64 y0, .int .i64 y1, .int .i64 y2]) (by simp [results, Try.results71, go_sem, c0, c1, c2]) rfl ⟨rfl, by have := HB2.out; (repeat' (first | (with_reducible exact Below.refl _ _) | (with_reducible assumption) | (with_reducible refine Below.alloc ?_ ?_ _) | (with_reducible refine Go.Proofs.Ytjkmcncgndkdoaa.L.below_drewN ?_ _) | (with_reducible refine Below.drew ?_) | (with_reducible refine Below.setCell ?_ ?_ _) | (with_reducible refine Below.frame ?_ _) | go_size))⟩

def OfEnd (l : List Vec.V) (w : World) (e : Ending) (w' : World) : Prop := ∃ v, e = .returned v ∧ VRow w' w.heap.size v l ∧ Below w.heap.size w w'

set_option maxRecDepth 100000 in
set_option maxHeartbeats 4000000 in
theorem of_any {w : World} {v vr : Value} {c : Cfg.C} {rs : List Run} (hc : CfgAt w v c) (hr : Runs w vr rs) (hn : c.nodes.length ≤ 1000000) :
    ∀ w1, Below w.heap.size w w1 → Calls Try.prog 45 #[v, vr] w1 fun e w' => OfEnd (Led.all c (Led.ofTo c (needs rs) rs.length)) w1 e w' := by
  intro w1 hb1
  replace hc := hc.below hb1
  replace hr := hr.below hb1
  clear hb1
  obtain ⟨v1, v2, rfl, h1, h2⟩ := id hc
  obtain ⟨half, hhalf⟩ : ∃ z, c.half = z := ⟨_, rfl⟩
  obtain ⟨age, hage⟩ : ∃ z, c.age = z := ⟨_, rfl⟩
  rw [hhalf, hage] at hc ⊢
  have gN := Lib.hid (fun W hW => new_any hc hn W hW)
  obtain ⟨R, cr, rfl, hrR, hlR, hin⟩ := hr
  have HIn := Lib.hid (fun (k : Nat) (h : k < rs.length) => (show ∃ A n c, rs[k].hv = .slice A n c from by obtain ⟨A, c, e, _⟩ := hin _ (List.getElem_mem h); exact ⟨A, _, c, e⟩))
  clear hin
  unfold maxLen at hlR
  have HR := Lib.hid hrR
  have HN := Lib.hid hn
  obtain ⟨K, hK⟩ : ∃ K, rs.length = K := ⟨_, rfl⟩
  have HK := Lib.hid hK
  rw [hK] at hlR ⊢
  have hbw : Below w1.heap.size w1 (w1.alloc (.cells #[v1, v2, .int .i64 half, .int .i64 age] 25)) := (Below.refl _ _).alloc (Nat.le_refl _) _
  have Hbw := Lib.hid hbw
  obtain ⟨hx0, x0, x1, x2, x3⟩ := CBox.new w1 v1 v2 half age
  clear hbw hhalf hage hc h1 h2 hrR hK hn
  go_enter Try.func45, Try.ntmps45
  go_wp2_with fail
  refine (gN.out _ Hbw.out).mono ?_
  rintro e w2 ⟨g, mb, u1, rfl, hL, hg, hmb, hb2⟩
  have HL := Lib.hid hL
  have HB2 := Lib.hid (keeps_trans Hbw.out hb2)
  have Hm := Lib.hid (Nat.le_trans Hbw.out.size hmb)
  clear hL hb2 hg hmb x0 x1 x2 x3 hx0
  go_wp2_with fail
  go_loopw [12] (fun i wr => ∃ k : Nat, i = .int .i64 (k : Int) ∧ k ≤ K ∧ LedAt wr g mb u1 v2 half age c (Led.ofTo c (needs rs) k) ∧ Below w1.heap.size w1 wr) (fun i _ => K - (intOf i).toNat)
  case atStart => exact ⟨0, rfl, by omega, HL.out, HB2.out⟩
  case round =>
    obtain ⟨k, rfl, hk, hl, hb⟩ := hrel
    rename World => wr
    have HLk := Lib.hid hl
    have HBk := Lib.hid hb
    clear hl hb
    by_cases hkK : k < K
    · have hkr : k < rs.length := by rw [HK.out]; exact hkK
      obtain ⟨br, or_, rfl, hltr, hcr⟩ := row_run HR.out hkr
      obtain ⟨p0, p1, p2, p3, p4, p5, p6, p7, p8, p9, p10, p11, p12, p13⟩ := hcr wr HBk.out
      have HS := Lib.hid (ofTo_succ c rs k hkr)
      obtain ⟨Av, nv, cv, hrv⟩ := HIn.out k hkr
      generalize rs[k] = r at *
      obtain ⟨r0, r1, r2, ⟨z0, z1, z2⟩, r3, r4, r5, r6, r7, r8, r9, r10, rv⟩ := r
      simp only at p0 p1 p2 p3 p4 p5 p6 p7 p8 p9 p10 p11 p12 p13 HS hrv
      subst hrv
      have gd := gdemand r0 r1 r2 ⟨z0, z1, z2⟩ r3 r4 r5
      generalize Vec.times ⟨z0, z1, z2⟩ r2 = y at *
      have gC := Lib.hid (fun W (hW : LedAt W g mb u1 v2 half age c (Led.ofTo c (needs rs) k)) => lchange_any hW r1 y 64 Vec.add (fun a b => VecW.gadd a b) (fun _ _ => by kernel_rfl))
      obtain ⟨y0, y1, y2⟩ := y
      have gd' : Gives Try.prog 71 #[.agg #[.int .i64 r0, .int .i64 r1, .int .i64 r2, .int .i64 z0, .int .i64 z1, .int .i64 z2, .int .i64 r3, .int .i64 r4, .int .i64 r5]] (.agg #[.int .i64 y0, .int .i64 y1, .int .i64 y2]) := gd
      have hbn : Below wr.heap.size wr (wr.alloc (.cells #[.int .i64 r0, .int .i64 r1, .int .i64 r2, .int .i64 z0, .int .i64 z1, .int .i64 z2, .int .i64 r3, .int .i64 r4, .int .i64 r5, .int .i64 r6, .int .i64 r7, .int .i64 r8, .int .i64 r9, .slice Av nv cv] 89)) := (Below.refl _ _).alloc (Nat.le_refl _) _
      have hcell : ∀ (j : Nat) (x : Value), (#[Value.int .i64 r0, .int .i64 r1, .int .i64 r2, .int .i64 z0, .int .i64 z1, .int .i64 z2, .int .i64 r3, .int .i64 r4, .int .i64 r5, .int .i64 r6, .int .i64 r7, .int .i64 r8, .int .i64 r9, .slice Av nv cv] : Array Value)[j]? = some x → ∀ W, Onward (wr.alloc (.cells #[.int .i64 r0, .int .i64 r1, .int .i64 r2, .int .i64 z0, .int .i64 z1, .int .i64 z2, .int .i64 r3, .int .i64 r4, .int .i64 r5, .int .i64 r6, .int .i64 r7, .int .i64 r8, .int .i64 r9, .slice Av nv cv] 89)) W → W.cell? ⟨wr.heap.size, j, none⟩ = some x := fun j x hx W hW =>
        hW.cell (by simp) (by rw [World.cell?_alloc_mark]; exact hx)
      have c0 := hcell 0 _ rfl
      have c1 := hcell 1 _ rfl
      have c2 := hcell 2 _ rfl
      have c3 := hcell 3 _ rfl
      have c4 := hcell 4 _ rfl
      have c5 := hcell 5 _ rfl
      have c6 := hcell 6 _ rfl
      have c7 := hcell 7 _ rfl
      have c8 := hcell 8 _ rfl
      have HBn := Lib.hid (keeps_trans HBk.out hbn)
      have HLn := Lib.hid (HLk.out.on hbn)
      clear hcr hkr hltr hcell gd hbn
      go_wp2_with fail
      clear p0 p1 p2 p3 p4 p5 p6 p7 p8 p9 p10 p11 p12 p13
      refine region_keep_tail 7 (by kernel_rfl) (by kernel_rfl) ?_
      simp only [List.take_succ_cons, List.take_zero, List.drop_succ_cons, List.drop_zero]
      repeat (apply Go.Proofs.Ytjkmcncgndkdoaa.L.wpKeep_yes; (focus rfl); (focus (intro W hW; go_simp; first | done | exact ⟨rfl, hW⟩ | rfl)); (focus (go_simp; first | done | rfl)))
      (apply Go.Proofs.Ytjkmcncgndkdoaa.L.wpKeep_yes; (focus rfl); (focus (intro W hW; go_simp; first | exact Go.Proofs.Ytjkmcncgndkdoaa.L.Gives.up gd' hW | exact ⟨hW, Go.Proofs.Ytjkmcncgndkdoaa.L.Gives.up gd' hW⟩)); (focus (go_simp; first | done | rfl)))
      repeat (apply Go.Proofs.Ytjkmcncgndkdoaa.L.wpKeep_yes; (focus rfl); (focus (intro W hW; go_simp; first | done | exact ⟨rfl, hW⟩ | rfl)); (focus (go_simp; first | done | rfl)))
      refine wpKeep_nil ?_
      intro W hW
      have HW := Lib.hid (keeps_trans HBn.out hW)
      have GC : Hid (Calls Try.prog 59 #[.pointer (some ⟨g, 0, none⟩), .int .i64 r1, .agg #[.int .i64 y0, .int .i64 y1, .int .i64 y2], .func (.func 64) #[] #[]] W fun e w' => LedEnd (Led.changeErr c r1) g mb u1 v2 half age c (Led.change c (Led.ofTo c (needs rs) k) r1 (fun a => Vec.add a ⟨y0, y1, y2⟩)) W e w') := Lib.hid (gC.out W (HLn.out.on hW))
      clear c0 c1 c2 c3 c4 c5 c6 c7 c8 hW gd' gC
      go_wp2_with fail
      refine GC.out.mono ?_
      rintro e w5 ⟨rfl, hL5, hk5⟩
      have HE := Lib.hid (show LedAt w5 g mb u1 v2 half age c (Led.ofTo c (needs rs) (k + 1)) ∧ Below w1.heap.size w1 w5 by
        rw [HS.out]
        exact ⟨hL5, HW.out.trans (hk5.below HW.out.size (fun i e => by rw [e]; exact Hm.out))⟩)
      clear hL5 hk5 GC
      go_wp2_with fail
      go_roundw
      case rel => exact ⟨k + 1, by go_num, by omega, HE.out.1, HE.out.2⟩
      case measure => simp [intOf]; omega
    · have gA := Lib.hid (lall_any HLk.out HN.out)
      have e : k = K := by omega
      subst e
      have hkd : decide (k < k) = false := by simp
      clear hkK
      go_wp2_with fail
      refine gA.out.mono ?_
      rintro e w4 ⟨v4, rfl, hv4, hb4⟩
      have HE := Lib.hid (show OfEnd (Led.all c (Led.ofTo c (needs rs) k)) w1 (.returned v4) w4 from ⟨v4, rfl, hv4.low HBk.out.size, keeps_trans HBk.out hb4⟩)
      clear hv4 hb4
      go_wp2_with fail
      go_ret
      exact HE.out
end Go.Proofs.Ytjkmcncgndkdoaa.CfgW
