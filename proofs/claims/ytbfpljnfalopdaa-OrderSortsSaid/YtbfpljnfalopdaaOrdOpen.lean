/-
  States and waiting gangs that are handed in, opened.
-/
import Derived.Test.YtbfpljnfalopdaaCfgOpen
import Derived.Test.YtbfpljnfalopdaaOrdM
set_option linter.unusedVariables false
set_option linter.unusedSimpArgs false
namespace Go.Proofs.Ytbfpljnfalopdaa.OrdW
open Go.RowKit Go.WideShapes Go.Proofs.Ytbfpljnfalopdaa.L Go.Proofs.Ytbfpljnfalopdaa.CfgW

/-- A waiting gang's numbers that are compared are of 64 bits. -/
def POk (p : Ord.P) : Prop := InI p.since ∧ InI p.seq
/-- A row of waiting gangs. -/
def PSl (w : World) (v : Value) (ps : List Ord.P) : Prop := ∃ A cap, v = .slice A ps.length cap ∧ ps.length ≤ cap ∧ cap ≤ maxLen ∧ RowOf w A 11 (fun p => (prow p).toList) ps ∧ ∀ p ∈ ps, POk p
theorem wf_in {n : Int} (h : (Lit.int .i64 n).wf = true) : InI n := by
  have := h
  simp [Lit.wf, IntKind.min, IntKind.max, IntKind.signed, IntKind.bits] at this
  unfold InI
  omega

section
variable {H : Type} {enc : TypeId × Value → H} {w : World} {base : Nat} {spare : Nat → Bool} {held : Bool}
set_option maxRecDepth 100000 in
theorem pgang_el {n : Nat} {cs : List Value} {y : DataW H × List MemPlace} (h : DataW.trod enc Try.prog w base spare held n 55 cs = some y) : ∃ (a b c : Int) (v : Vec.V) (d e f : Int), cs = [.int .i64 a, .int .i64 b, .int .i64 c, .int .i64 v.x, .int .i64 v.y, .int .i64 v.z, .int .i64 d, .int .i64 e, .int .i64 f] := by
  obtain ⟨xs, m, _, rfl, hlen, hxl, hf⟩ := DataW.trod_struct Try.underlying55 h
  have h3 : Try.prog.cellsOf 55 = 9 := by kernel_rfl
  rw [h3] at hlen
  match cs, hlen with
  | [a0, a1, a2, a3, a4, a5, a6, a7, a8], _ =>
    match xs, hxl with
    | [x0, x1, x2, x3, x4, x5, x6], _ =>
      have g0 := hf 0 _ rfl
      have g1 := hf 1 _ rfl
      have g2 := hf 2 _ rfl
      have g3 := hf 3 _ rfl
      have g4 := hf 4 _ rfl
      have g5 := hf 5 _ rfl
      have g6 := hf 6 _ rfl
      simp [c_int, c_vec] at g0 g1 g2 g3 g4 g5 g6
      obtain ⟨z0, e0, _⟩ := int_el g0
      obtain ⟨z1, e1, _⟩ := int_el g1
      obtain ⟨z2, e2, _⟩ := int_el g2
      obtain ⟨v3, e3, _⟩ := vec_el g3
      obtain ⟨z4, e4, _⟩ := int_el g4
      obtain ⟨z5, e5, _⟩ := int_el g5
      obtain ⟨z6, e6, _⟩ := int_el g6
      cases e0; cases e1; cases e2; cases e3; cases e4; cases e5; cases e6
      exact ⟨_, _, _, v3, _, _, _, rfl⟩
set_option maxRecDepth 100000 in
theorem pend_el : ∀ n cs y, DataW.trod enc Try.prog w base spare held n 57 cs = some y → ∃ p : Ord.P, cs = (prow p).toList ∧ POk p := by
  intro n cs y h
  obtain ⟨xs, m, _, rfl, hlen, hxl, hf⟩ := DataW.trod_struct Try.underlying57 h
  have h3 : Try.prog.cellsOf 57 = 11 := by kernel_rfl
  have h4 : Try.prog.cellsOf 55 = 9 := by kernel_rfl
  rw [h3] at hlen
  match cs, hlen with
  | [a0, a1, a2, a3, a4, a5, a6, a7, a8, a9, a10], _ =>
    match xs, hxl with
    | [x0, x1, x2], _ =>
      have g0 := hf 0 _ rfl
      have g1 := hf 1 _ rfl
      have g2 := hf 2 _ rfl
      simp [c_int, h4] at g0 g1 g2
      obtain ⟨a, b, c, v, d, e, f, e0⟩ := pgang_el g0
      obtain ⟨z1, e1, w1⟩ := int_el g1
      obtain ⟨z2, e2, w2⟩ := int_el g2
      cases e0; cases e1; cases e2
      exact ⟨⟨a, b, c, v, d, e, f, z1, z2⟩, rfl, wf_in w2, wf_in w1⟩
theorem open_pend {fuel : Nat} {cs : Array Value} {y : DataW H × List MemPlace} (h : DataW.trod enc Try.prog w base spare held fuel 57 cs.toList = some y) : ∃ p : Ord.P, cs = prow p ∧ POk p := by
  obtain ⟨p, e, hp⟩ := pend_el _ _ _ h
  exact ⟨p, Array.toList_inj.1 e, hp⟩
theorem open_pends {n : Nat} {v : Value} {y : DataW H × List MemPlace} (h : DataW.trod enc Try.prog w base spare held n 49 [v] = some y) : ∃ ps, PSl w v ps := by
  obtain ⟨A, ca, ps, e0, l1, l2, hr1, hq⟩ := open_row (sz := 11) (fun p : Ord.P => (prow p).toList) (fun x _ => POk x) Try.underlying49 (by kernel_rfl) (by decide) pend_el h
  simp only [List.cons.injEq, and_true] at e0
  refine ⟨ps, A, ca, e0, l1, l2, hr1, fun r hr => ?_⟩
  rcases hq with rfl | ⟨elems, sp, _, _, ha⟩
  · cases hr
  · obtain ⟨d, _, hd⟩ := ha r hr
    exact hd
set_option maxRecDepth 100000 in
theorem fix_el : ∀ n cs y, DataW.trod enc Try.prog w base spare held n 81 cs = some y → ∃ k : Nat, cs = fdec k ∧ k ≤ Fix.top := by
  intro n cs y h
  obtain ⟨z, e, _, hw⟩ := DataW.trod_int Try.underlying81 h
  have hz : 0 ≤ z ∧ z ≤ 18446744073709551615 := by
    have := hw
    simp [Lit.wf, IntKind.min, IntKind.max, IntKind.signed, IntKind.bits] at this
    omega
  refine ⟨z.toNat, ?_, ?_⟩
  · rw [e, fdec, Int.toNat_of_nonneg hz.1]
  · unfold Fix.top; omega
theorem open_fixes {n : Nat} {v : Value} {y : DataW H × List MemPlace} (h : DataW.trod enc Try.prog w base spare held n 51 [v] = some y) : ∃ hs, FSl w v hs := by
  obtain ⟨A, ca, ps, e0, l1, l2, hr1, hq⟩ := open_row (sz := 1) fdec (fun x _ => x ≤ Fix.top) Try.underlying51 (by kernel_rfl) (by decide) fix_el h
  simp only [List.cons.injEq, and_true] at e0
  refine ⟨ps, A, ca, e0, hr1, Nat.le_trans l1 l2, fun r hr => ?_⟩
  rcases hq with rfl | ⟨elems, sp, _, _, ha⟩
  · cases hr
  · obtain ⟨d, _, hd⟩ := ha r hr
    exact hd
theorem open_len {t e : TypeId} (ht : Try.prog.underlying t = some (.slice e)) {n : Nat} {v : Value} {y : DataW H × List MemPlace} (h : DataW.trod enc Try.prog w base spare held n t [v] = some y) : ∃ A l cap, v = .slice A l cap := by
  rcases Go.Deep.open_slice ht h with ⟨e, _⟩ | ⟨a, len, cap, m, n, D, Pl, e, _⟩
  · simp only [List.cons.injEq, and_true] at e; exact ⟨_, _, _, e⟩
  · simp only [List.cons.injEq, and_true] at e; exact ⟨_, _, _, e⟩
/-- What a state that is handed in holds. -/
structure StIn (w : World) (cs : Array Value) : Prop where
  out : ∃ (c : Cfg.C) (v1 v2 : Value) (now next : Int) (ps : List Ord.P) (vp : Value) (Ar : Option Addr) (nr cr : Nat) (h : List Nat) (vh : Value),
    cs = #[v1, v2, .int .i64 c.half, .int .i64 c.age, .int .i64 now, .int .i64 next, vp, .slice Ar nr cr, vh] ∧ CfgAt w (.agg #[v1, v2, .int .i64 c.half, .int .i64 c.age]) c ∧ InI c.age ∧ InI now ∧ PSl w vp ps ∧ FSl w vh h
set_option maxRecDepth 100000 in
theorem open_state {fuel : Nat} {cs : Array Value} {y : DataW H × List MemPlace} (h : DataW.trod enc Try.prog w base spare held fuel 53 cs.toList = some y) : StIn w cs := by
  obtain ⟨xs, m, _, ey, hlen, hxl, hf⟩ := DataW.trod_struct Try.underlying53 h
  have h3 : Try.prog.cellsOf 53 = 9 := by kernel_rfl
  have h4 : Try.prog.cellsOf 25 = 4 := by kernel_rfl
  have h5 : Try.prog.cellsOf 49 = 1 := by kernel_rfl
  have h6 : Try.prog.cellsOf 50 = 1 := by kernel_rfl
  have h7 : Try.prog.cellsOf 51 = 1 := by kernel_rfl
  rw [h3] at hlen
  obtain ⟨l⟩ := cs
  match l, hlen with
  | [a0, a1, a2, a3, a4, a5, a6, a7, a8], _ =>
    match xs, hxl with
    | [x0, x1, x2, x3, x4, x5], _ =>
      have g0 := hf 0 _ rfl
      have g1 := hf 1 _ rfl
      have g2 := hf 2 _ rfl
      have g3 := hf 3 _ rfl
      have g4 := hf 4 _ rfl
      have g5 := hf 5 _ rfl
      simp [c_int, h4, h5, h6, h7] at g0 g1 g2 g3 g4 g5
      obtain ⟨c, v1, v2, e0, k1, k2, _, wa⟩ := cfg_el g0
      obtain ⟨z1, e1, w1⟩ := int_el g1
      obtain ⟨z2, e2, w2⟩ := int_el g2
      obtain ⟨ps, hps⟩ := open_pends g3
      obtain ⟨Ar, nr, cr, er⟩ := open_len Try.underlying50 g4
      obtain ⟨hh, hhs⟩ := open_fixes g5
      cases e0; cases e1; cases e2; cases er
      exact ⟨c, _, _, z1, z2, ps, _, Ar, nr, cr, hh, _, rfl, ⟨_, _, rfl, k1, k2⟩, wf_in wa, wf_in w1, hps, hhs⟩
end
end Go.Proofs.Ytbfpljnfalopdaa.OrdW
