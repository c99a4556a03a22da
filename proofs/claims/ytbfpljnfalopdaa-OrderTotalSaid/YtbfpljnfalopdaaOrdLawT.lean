/-
  Chapter 15: of any three: the order is the same both ways, goes on, and only ones of like Seq are alike, over any world.
-/
import Derived.Test.YtbfpljnfalopdaaSrtM
import Derived.Test.YtbfpljnfalopdaaOrdFew
import Derived.Deep.RegionHeld3
import Derived.Deep.MidRow
set_option linter.unusedVariables false
set_option linter.unusedSimpArgs false
namespace Go.Proofs.Ytbfpljnfalopdaa.OrdW
open Go Go.RowKit Go.Proofs.Ytbfpljnfalopdaa.L Go.Proofs.Ytbfpljnfalopdaa.CfgW Go.Proofs.Ytbfpljnfalopdaa.Srt

/-- What total order says of three. -/
structure Tri (x y z u aa : Int) (sa sb : Int) : Prop where
  xr : x = -1 ∨ x = 0 ∨ x = 1
  neg : y = -x
  self : aa = 0
  seq : x = 0 → sa = sb
  go : x ≤ 0 → z ≤ 0 → u ≤ 0
  still : x ≤ 0 → z ≤ 0 → u = 0 → x = 0 ∧ z = 0
theorem tri (c : Cfg.C) (h : List Nat) (now : Int) (a b d : Ord.P) : Tri (Ord.cmp c h now a b) (Ord.cmp c h now b a) (Ord.cmp c h now b d) (Ord.cmp c h now a d) (Ord.cmp c h now a a) a.seq b.seq where
  xr := (Ord.cmp_cmp c h now).sgn a b
  neg := (Ord.cmp_cmp c h now).neg b a
  self := (Ord.cmp_cmp c h now).self a
  seq := fun e => Ord.cmp_seq e
  go := (Ord.cmp_cmp c h now).trans a b d
  still := fun h1 h2 h3 => (Ord.cmp_cmp c h now).strict h1 h2 h3
/-- Three gangs' cells. -/
def prow3 (a b d : Ord.P) : Array Value := (prow a ++ prow b) ++ prow d
theorem prow_size (a : Ord.P) : (prow a).toList.length = 11 := rfl
theorem prow_one (a : Ord.P) : (prow a).all (·.oneCell') = true := by simp [prow, Value.oneCell']
theorem info11 (a : Ord.P) : (Try.prog.info? 57).map (·.size) = some (prow a).size := by kernel_rfl
theorem range3 {W : World} {g : Nat} {t : TypeId} {a b d : Ord.P} (h : Blk W g t (prow3 a b d)) : W.rangeAt g 0 (prow a).toList ∧ W.rangeAt g 11 (prow b).toList ∧ W.rangeAt g 22 (prow d).toList := by
  have e : (prow3 a b d).toList = (prow a).toList ++ ((prow b).toList ++ (prow d).toList) := by simp [prow3]
  refine ⟨fun j v hv => ?_, fun j v hv => ?_, fun j v hv => ?_⟩ <;>
  · have hj := (List.getElem?_eq_some_iff.1 hv).1
    simp only [prow_size] at hj
    rw [h.cell, ← Array.getElem?_toList, e]
    first
      | rw [List.getElem?_append_left (by simp only [prow_size]; omega), Nat.zero_add, hv]
      | rw [List.getElem?_append_right (by simp only [prow_size]; omega), List.getElem?_append_left (by simp only [prow_size]; omega), prow_size, Nat.add_sub_cancel_left, hv]
      | rw [List.getElem?_append_right (by simp only [prow_size]; omega), List.getElem?_append_right (by simp only [prow_size]; omega), prow_size, prow_size, show 22 + j - 11 - 11 = j by omega, hv]
theorem there_new {W : World} {g : Nat} {t : TypeId} {cs : Array Value} (h : Blk W g t cs) (hn : cs.size = 11) : W.there g 0 11 := fun j hj =>
  ⟨by rw [h.cell, Array.getElem?_eq_getElem (by omega)]; rfl, h.frozen _⟩
theorem setCells_all {W : World} {g : Nat} {t : TypeId} {cs : Array Value} (h : Blk W g t cs) (vs : List Value) (hn : cs.size = vs.length) : Blk (W.setCells g 0 vs) g t vs.toArray := by
  have key : ∀ (vs : List Value) (o : Nat) (W : World) (cs : Array Value), Blk W g t cs → o + vs.length = cs.size → ∃ cs', Blk (W.setCells g o vs) g t cs' ∧ cs'.size = cs.size ∧ cs'.toList = cs.toList.take o ++ vs := by
    intro vs
    induction vs with
    | nil => intro o W cs h hn; exact ⟨cs, h, rfl, by rw [List.append_nil, List.take_of_length_le (by simp at hn ⊢; omega)]⟩
    | cons v vs ih =>
      intro o W cs h hn
      simp only [List.length_cons] at hn
      obtain ⟨cs', h1, h2, h3⟩ := ih (o + 1) _ _ (h.set_ o v) (by simp; omega)
      refine ⟨cs', h1, by simpa using h2, ?_⟩
      rw [h3, Array.toList_setIfInBounds, List.take_set, List.take_add_one]
      rw [List.set_append_right _ _ (by simp; omega)]
      simp [show o < cs.size by omega, show min o cs.size = o by omega]
  obtain ⟨cs', h1, h2, h3⟩ := key vs 0 W cs h (by omega)
  rw [show cs' = vs.toArray by apply Array.toList_inj.1; rw [h3]; simp] at h1
  exact h1
theorem setCells_far {g g' : Nat} {t : TypeId} {cs : Array Value} (hg : g' ≠ g) : ∀ (vs : List Value) (o : Nat) (W : World), Blk W g' t cs → Blk (W.setCells g o vs) g' t cs
  | [], _, _, h => h
  | v :: vs, o, W, h => by rw [World.setCells]; exact setCells_far hg vs (o + 1) _ (h.far hg v)
theorem setCells_on {B g : Nat} (hg : B ≤ g) : ∀ (vs : List Value) (o : Nat) (w W : World), Below B w W → Below B w (W.setCells g o vs)
  | [], _, _, _, h => h
  | v :: vs, o, w, W, h => by rw [World.setCells]; exact setCells_on hg vs (o + 1) w _ (h.setCell hg v)
theorem zeroP (a : Act) (w : World) (o : Oper) (K : Act → World → Prop) (Q : Exit → Act → World → Prop) (ho : o.op = .alloc 57) (d : Nat) (hd : o.dst = some d) (h : K (a.put (some d) (.pointer (some ⟨w.heap.size, 0, none⟩))) (w.alloc (.cells #[.int .i64 0, .int .i64 0, .int .i64 0, .int .i64 0, .int .i64 0, .int .i64 0, .int .i64 0, .int .i64 0, .int .i64 0, .int .i64 0, .int .i64 0] 57))) : Oper.wp Try.prog o a w K Q := by
  unfold Oper.wp execOp
  simp only [ho, hd]
  go_simp
  exact h

theorem storeP (a : Act) (w : World) (o : Oper) (K : Act → World → Prop) (Q : Exit → Act → World → Prop) (x y : Operand) (ho : o.op = .store 57 x y) (b : Nat) (p : Ord.P) (hx : a.eval x = .pointer (some ⟨b, 0, none⟩)) (hy : a.eval y = .agg (prow p)) {cs : Array Value} (hB : Blk w b 57 cs) (hc : cs.size = 11) (hd : o.dst = none) (h : K (a.put none undef) (w.setCells b 0 (prow p).toList)) : Oper.wp Try.prog o a w K Q :=
  wp_store_mid (P := Try.prog) 57 x y ho b 0 (prow p) hx hy (there_new hB hc) (info11 p) (prow_one p) (by rw [hd]; exact h)

theorem storeStep {ops : Array Oper} {Q : Exit → Act → World → Prop} {md : Region.Mode} {S : World → Prop} {fuel : Nat} {listed : Array Bool} {a : Act} {w : World} (i : Nat) (x y : Operand) (b : Nat) (p : Ord.P) {cs : Array Value}
    (hr : Region.ready md ops listed = [i]) (hop : (ops[i]?).map (fun o => (o.dst, o.op, o.guard)) = some (none, .store 57 x y, none)) (hx : a.eval x = .pointer (some ⟨b, 0, none⟩)) (hy : a.eval y = .agg (prow p)) (hB : Blk w b 57 cs) (hc : cs.size = 11)
    (hS : S (w.setCells b 0 (prow p).toList)) (h : wpAnyH Try.prog md ops Q S fuel (listed.setIfInBounds i true) a (w.setCells b 0 (prow p).toList)) : wpAnyH Try.prog md ops Q S (fuel + 1) listed a w := by
  refine wpAnyH_all hr (by simp) fun j hj => ?_
  obtain rfl : j = i := by simpa using hj
  unfold wpOp
  cases ho : ops[j]? with
  | none => simp [ho] at hop
  | some o =>
    simp [ho] at hop
    obtain ⟨hd, hop, hg⟩ := hop
    have hw : Region.wanted o (yielded ops a.tmps) = true := by unfold Region.wanted; rw [hg]
    simp only [hw, if_true]
    exact .inl (storeP _ _ _ _ _ x y hop b p hx hy hB hc hd ⟨hS, h⟩)
theorem takeP {P : Program} {ops : Array Oper} {Q : Exit → Act → World → Prop} {md : Region.Mode} {S : World → Prop} (i d : Nat) {oi : Oper} (v : Value) {fuel : Nat} {listed : Array Bool} {a : Act} {w : World} (hi : ops[i]? = some oi) (hd : oi.dst = some d)
    (hs : Region.noSelect ops = true) (hf : Region.free md ops listed i = true) (hr : (Region.ready md ops listed).contains i = true)
    (hQ : ∀ c a w, Q (.panic c) (a.put (some d) v) w → Q (.panic c) a w) (hy : YieldsIf P ops S oi v a) (hS : S w)
    (h : wpAnyH P md ops Q S fuel (listed.setIfInBounds i true) (a.put (some d) v) w) : wpAnyH P md ops Q S (fuel + 1) listed a w :=
  wpAnyH_take hi hs hf hr (by rw [hd]; exact hQ) hy hS (by rw [hd]; exact h)

set_option maxRecDepth 100000 in
set_option maxHeartbeats 4000000 in
theorem lawtotal_any {w : World} {v1 v2 : Value} {c : Cfg.C} {now next : Int} {ps : List Ord.P} {vp : Value} {Ar : Option Addr} {nr cr : Nat} {h : List Nat} {vh : Value} (hc : CfgAt w (.agg #[v1, v2, .int .i64 c.half, .int .i64 c.age]) c) (hA : InI c.age) (hN : InI now) (hp : PSl w vp ps) (hh : FSl w vh h) (a b d : Ord.P) (ha : POk a) (hb : POk b) (hd : POk d) :
    Calls Try.prog 8 #[.agg #[v1, v2, .int .i64 c.half, .int .i64 c.age, .int .i64 now, .int .i64 next, vp, .slice Ar nr cr, vh], .agg (prow3 a b d)] w fun e w' => e = .returned (.bool true) ∧ Below w.heap.size w w' := by
  obtain ⟨Ap, cp, rfl, -, -, -, -⟩ := id hp
  obtain ⟨Ah, ch, rfl, -, -, -⟩ := id hh
  have gF := few_any (now := now) (next := next) hc Ap Ar Ah ps.length cp nr cr h.length ch
  have aw := Lib.hid awake15
  obtain ⟨fb, hfb⟩ : ∃ x, fewB c ps.length nr h.length = x := ⟨_, rfl⟩
  rw [hfb] at gF
  have HFB := Lib.hid hfb
  have GC := Lib.hid (fun hf : fewB c ps.length nr h.length = true => And.intro (cmp_any (vp := .slice Ap ps.length cp) (vr := .slice Ar nr cr) (next := next) ⟨hc, (fewB_ok hf).len, (fewB_ok hf).wok, hh⟩ (fewB_ok hf).ne ⟨hA, hN⟩ a b ha.1 hb.1) (And.intro (cmp_any (vp := .slice Ap ps.length cp) (vr := .slice Ar nr cr) (next := next) ⟨hc, (fewB_ok hf).len, (fewB_ok hf).wok, hh⟩ (fewB_ok hf).ne ⟨hA, hN⟩ b d hb.1 hd.1) (And.intro (cmp_any (vp := .slice Ap ps.length cp) (vr := .slice Ar nr cr) (next := next) ⟨hc, (fewB_ok hf).len, (fewB_ok hf).wok, hh⟩ (fewB_ok hf).ne ⟨hA, hN⟩ a d ha.1 hd.1) (And.intro (cmp_any (vp := .slice Ap ps.length cp) (vr := .slice Ar nr cr) (next := next) ⟨hc, (fewB_ok hf).len, (fewB_ok hf).wok, hh⟩ (fewB_ok hf).ne ⟨hA, hN⟩ b a hb.1 ha.1) (cmp_any (vp := .slice Ap ps.length cp) (vr := .slice Ar nr cr) (next := next) ⟨hc, (fewB_ok hf).len, (fewB_ok hf).wok, hh⟩ (fewB_ok hf).ne ⟨hA, hN⟩ a a ha.1 ha.1)))))
  have HT := Lib.hid (tri c h now a b d)
  obtain ⟨x, hx⟩ : ∃ r, Ord.cmp c h now a b = r := ⟨_, rfl⟩
  obtain ⟨y, hy⟩ : ∃ r, Ord.cmp c h now b a = r := ⟨_, rfl⟩
  obtain ⟨z, hz⟩ : ∃ r, Ord.cmp c h now b d = r := ⟨_, rfl⟩
  obtain ⟨u, hu⟩ : ∃ r, Ord.cmp c h now a d = r := ⟨_, rfl⟩
  obtain ⟨s, hs⟩ : ∃ r, Ord.cmp c h now a a = r := ⟨_, rfl⟩
  rw [hx, hy, hz, hu, hs] at HT GC
  obtain ⟨half, hhalf⟩ : ∃ z, c.half = z := ⟨_, rfl⟩
  obtain ⟨age, hage⟩ : ∃ z, c.age = z := ⟨_, rfl⟩
  obtain ⟨np, hnp⟩ : ∃ z, ps.length = z := ⟨_, rfl⟩
  obtain ⟨nh, hnh⟩ : ∃ z, h.length = z := ⟨_, rfl⟩
  rw [hhalf, hage, hnp, hnh] at gF ⊢
  rw [hfb, hhalf, hage, hnp, hnh] at GC
  clear hc hA hN hp hh ha hb hd hx hy hz hu hs hhalf hage hnp hnh hfb HFB
  obtain ⟨L, hL⟩ : ∃ L, prow3 a b d = L := ⟨_, rfl⟩
  have HL := Lib.hid hL
  rw [hL]
  clear hL
  obtain ⟨wq, hwq⟩ : ∃ x, (w.alloc (.cells #[v1, v2, .int .i64 half, .int .i64 age, .int .i64 now, .int .i64 next, .slice Ap np cp, .slice Ar nr cr, .slice Ah nh ch] 53)).alloc (.cells L 65) = x := ⟨_, rfl⟩
  have hbw : Below w.heap.size w wq := by
    rw [← hwq]
    exact ((Below.refl w.heap.size w).alloc (Nat.le_refl _) _).alloc (by simp) _
  have hsb : Blk wq w.heap.size 53 #[v1, v2, .int .i64 half, .int .i64 age, .int .i64 now, .int .i64 next, .slice Ap np cp, .slice Ar nr cr, .slice Ah nh ch] := by rw [← hwq]; exact Blk.alloc (Blk.new _ _ _) _
  have hlb : Blk wq (w.heap.size + 1) 65 L := by
    rw [← hwq]
    have h := Blk.new (w.alloc (.cells #[v1, v2, .int .i64 half, .int .i64 age, .int .i64 now, .int .i64 next, .slice Ap np cp, .slice Ar nr cr, .slice Ah nh ch] 53)) 65 L
    simp only [World.size_alloc] at h
    exact h
  have HX := Lib.hid (And.intro hsb hlb)
  have HB := Lib.hid hbw
  have HWQ := Lib.hid hwq
  clear hlb hbw hwq
  have S0 : ∀ W, Onward wq W → W.cell? ⟨w.heap.size, 0, none⟩ = some v1 ∧ W.cell? ⟨w.heap.size, 1, none⟩ = some v2 ∧ W.cell? ⟨w.heap.size, 2, none⟩ = some (.int .i64 half) ∧ W.cell? ⟨w.heap.size, 3, none⟩ = some (.int .i64 age) ∧ W.cell? ⟨w.heap.size, 4, none⟩ = some (.int .i64 now) ∧ W.cell? ⟨w.heap.size, 5, none⟩ = some (.int .i64 next) ∧ W.cell? ⟨w.heap.size, 6, none⟩ = some (.slice Ap np cp) ∧ W.cell? ⟨w.heap.size, 7, none⟩ = some (.slice Ar nr cr) ∧ W.cell? ⟨w.heap.size, 8, none⟩ = some (.slice Ah nh ch) := fun W hW => by
    have h := Blk.below hsb hW (Blk.lt hsb)
    exact ⟨Blk.cell h 0, Blk.cell h 1, Blk.cell h 2, Blk.cell h 3, Blk.cell h 4, Blk.cell h 5, Blk.cell h 6, Blk.cell h 7, Blk.cell h 8⟩
  clear hsb
  cases fb
  · have gf := GivesAt.up (show GivesAt Try.prog w _ _ (.int .i64 0) from gF) HB.out
    clear gF GC HT
    go_enter Try.func8, Try.ntmps8
    go_wp2_with fail
    refine Eq.mp (congrArg (fun z => Calls Try.prog _ _ z _) HWQ.out.symm) ?_
    refine (gf _ (keeps_refl wq)).mono ?_
    rintro e w2 ⟨rfl, hb2⟩
    have HB2 := Lib.hid (keeps_trans HB.out hb2)
    clear hb2 gf S0
    go_wp2_with fail
    refine (aw.out _).mono ?_
    rintro e w3 ⟨rfl, hb3⟩
    have HF := Lib.hid (keeps_trans HB2.out hb3)
    clear hb3
    go_wp2_with fail
    go_ret
    exact ⟨rfl, HF.out⟩
  · have gf := GivesAt.up (show GivesAt Try.prog w _ _ (.int .i64 1) from gF) HB.out
    clear gF
    go_enter Try.func8, Try.ntmps8
    go_wp2_with fail
    refine Eq.mp (congrArg (fun z => Calls Try.prog _ _ z _) HWQ.out.symm) ?_
    refine (gf _ (keeps_refl wq)).mono ?_
    rintro e w2 ⟨rfl, hb2⟩
    have HB2 := Lib.hid (keeps_trans HB.out hb2)
    have HW2 := Lib.hid hb2
    have hlb := Blk.below HX.out.2 hb2 (Blk.lt HX.out.2)
    clear hb2 gf S0
    go_wp2_with fail
    refine Code.wp_mono (Q := fun e a' w' => e = .normal ∧ ∃ b5 b6 b7, a' = ⟨#[.agg #[v1, v2, .int .i64 half, .int .i64 age, .int .i64 now, .int .i64 next, .slice Ap np cp, .slice Ar nr cr, .slice Ah nh ch], .agg L, .pointer (some ⟨w.heap.size, 0, none⟩), .pointer (some ⟨w.heap.size + 1, 0, none⟩), .bool false, .pointer (some ⟨b5, 0, none⟩), .pointer (some ⟨b6, 0, none⟩), .pointer (some ⟨b7, 0, none⟩), undef, undef, undef, .agg #[v1, v2, .int .i64 half, .int .i64 age, .int .i64 now, .int .i64 next, .slice Ap np cp, .slice Ar nr cr, .slice Ah nh ch], .int .i64 1, .bool false, undef, .pointer (some ⟨w.heap.size + 1, 0, none⟩), .agg (prow a), .pointer (some ⟨w.heap.size + 1, 11, none⟩), .agg (prow b), .pointer (some ⟨w.heap.size + 1, 22, none⟩), .agg (prow d), undef, undef, undef, undef, undef, undef, undef, undef, undef, undef, undef, undef, undef, undef, undef, undef, undef, undef, undef, undef, undef, undef, undef, undef, undef, undef, undef, undef, undef, undef, undef, undef, undef, undef, undef, undef, undef, undef, undef, undef, undef, undef, undef, undef, undef, undef, undef, undef, undef, undef, undef, undef, undef, undef, undef, undef, undef, undef, undef, undef], []⟩ ∧ PBox w' b5 a ∧ PBox w' b6 b ∧ PBox w' b7 d ∧ Onward w2 w') ?_ ?_
    · rintro e a' w3 ⟨rfl, b5, b6, b7, rfl, p5, p6, p7, on⟩
      have HON := Lib.hid on
      have HB3 := Lib.hid (keeps_trans HB2.out on)
      have hsb : Blk w3 w.heap.size 53 #[v1, v2, .int .i64 half, .int .i64 age, .int .i64 now, .int .i64 next, .slice Ap np cp, .slice Ar nr cr, .slice Ah nh ch] := Blk.below (Blk.below HX.out.1 HW2.out (Blk.lt HX.out.1)) on (Blk.lt (Blk.below HX.out.1 HW2.out (Blk.lt HX.out.1)))
      have HS := Lib.hid (And.intro hsb (And.intro p5 (And.intro p6 p7)))
      have T := HT.out
      have cs : (x = 1 ∧ y = -1) ∨ (x = 0 ∧ y = 0 ∧ a.seq = b.seq ∧ 0 < z) ∨ (x = 0 ∧ y = 0 ∧ a.seq = b.seq ∧ z ≤ 0 ∧ u < 0) ∨ (x = 0 ∧ y = 0 ∧ a.seq = b.seq ∧ z = 0 ∧ u = 0) ∨ (x = -1 ∧ y = 1 ∧ 0 < z) ∨ (x = -1 ∧ y = 1 ∧ z ≤ 0 ∧ u < 0) := by
        have t1 := T.xr
        have t2 := T.neg
        have t3 := T.seq
        have t4 := T.go
        have t5 := T.still
        rcases t1 with e | e | e
        · have t5' := fun h1 h2 => t5 (by omega) h1 h2
          by_cases hz : z ≤ 0
          · have t4' := t4 (by omega) hz
            have : u ≠ 0 := fun hu => by have := (t5 (by omega) hz hu).1; omega
            omega
          · omega
        · have t3' := t3 e
          by_cases hz : z ≤ 0
          · have t4' := t4 (by omega) hz
            by_cases hu : u = 0
            · have := (t5 (by omega) hz hu).2; exact .inr (.inr (.inr (.inl ⟨e, by omega, t3', this, hu⟩)))
            · exact .inr (.inr (.inl ⟨e, by omega, t3', hz, by omega⟩))
          · exact .inr (.inl ⟨e, by omega, t3', by omega⟩)
        · exact .inl ⟨e, by omega⟩
      have hs0 := T.self
      subst hs0
      clear T HT hlb on hsb p5 p6 p7 HX HB HWQ HB2 HW2 HL
      have GC2 := GC.out trivial
      clear GC
      obtain ⟨a0, a1, a2, ⟨a3, a4, a5⟩, a6, a7, a8, a9, a10⟩ := a
      obtain ⟨d0, d1, d2, ⟨d3, d4, d5⟩, d6, d7, d8, d9, d10⟩ := b
      obtain ⟨f0, f1, f2, ⟨f3, f4, f5⟩, f6, f7, f8, f9, f10⟩ := d
      dsimp only at cs
      have S0 : ∀ W, Onward w3 W → W.cell? ⟨w.heap.size, 0, none⟩ = some v1 ∧ W.cell? ⟨w.heap.size, 1, none⟩ = some v2 ∧ W.cell? ⟨w.heap.size, 2, none⟩ = some (.int .i64 half) ∧ W.cell? ⟨w.heap.size, 3, none⟩ = some (.int .i64 age) ∧ W.cell? ⟨w.heap.size, 4, none⟩ = some (.int .i64 now) ∧ W.cell? ⟨w.heap.size, 5, none⟩ = some (.int .i64 next) ∧ W.cell? ⟨w.heap.size, 6, none⟩ = some (.slice Ap np cp) ∧ W.cell? ⟨w.heap.size, 7, none⟩ = some (.slice Ar nr cr) ∧ W.cell? ⟨w.heap.size, 8, none⟩ = some (.slice Ah nh ch) := fun W hW => by
        have h := Blk.below HS.out.1 hW (Blk.lt HS.out.1)
        exact ⟨Blk.cell h 0, Blk.cell h 1, Blk.cell h 2, Blk.cell h 3, Blk.cell h 4, Blk.cell h 5, Blk.cell h 6, Blk.cell h 7, Blk.cell h 8⟩
      have A := fun W (k : Onward w3 W) => HS.out.2.1.cells W k
      have B := fun W (k : Onward w3 W) => HS.out.2.2.1.cells W k
      have D := fun W (k : Onward w3 W) => HS.out.2.2.2.cells W k
      dsimp only at A B D
      simp only [prow] at *
      have HK := Lib.hid (And.intro S0 (And.intro A B))
      obtain ⟨gab, gbd, gad, gba, gaa⟩ := GC2
      have GBA := Lib.hid (gba.up HB3.out)
      have GAA := Lib.hid (gaa.up HB3.out)
      have gab := gab.up HB3.out
      have gbd := gbd.up HB3.out
      have gad := gad.up HB3.out
      clear gba gaa HS HON
      go_wp2_with fail
      refine region_keep (by kernel_rfl) (by kernel_rfl) ?_
      repeat (apply Go.Proofs.Ytbfpljnfalopdaa.L.wpKeep_yes; (focus rfl); (focus (intro W hW; go_simp; first | done | exact ⟨rfl, hW⟩ | rfl)); (focus (go_simp; first | done | rfl)))
      (apply Go.Proofs.Ytbfpljnfalopdaa.L.wpKeep_yes; (focus rfl); (focus (intro W hW; go_simp; first | exact gab W hW | exact ⟨hW, gab W hW⟩)); (focus (go_simp; first | done | rfl)))
      repeat (apply Go.Proofs.Ytbfpljnfalopdaa.L.wpKeep_yes; (focus rfl); (focus (intro W hW; go_simp; first | done | exact ⟨rfl, hW⟩ | rfl)); (focus (go_simp; first | done | rfl)))
      (apply Go.Proofs.Ytbfpljnfalopdaa.L.wpKeep_yes; (focus rfl); (focus (intro W hW; go_simp; first | exact gbd W hW | exact ⟨hW, gbd W hW⟩)); (focus (go_simp; first | done | rfl)))
      repeat (apply Go.Proofs.Ytbfpljnfalopdaa.L.wpKeep_yes; (focus rfl); (focus (intro W hW; go_simp; first | done | exact ⟨rfl, hW⟩ | rfl)); (focus (go_simp; first | done | rfl)))
      (apply Go.Proofs.Ytbfpljnfalopdaa.L.wpKeep_yes; (focus rfl); (focus (intro W hW; go_simp; first | exact gad W hW | exact ⟨hW, gad W hW⟩)); (focus (go_simp; first | done | rfl)))
      repeat (apply Go.Proofs.Ytbfpljnfalopdaa.L.wpKeep_yes; (focus rfl); (focus (intro W hW; go_simp; first | done | exact ⟨rfl, hW⟩ | rfl)); (focus (go_simp; first | done | rfl)))
      refine wpKeep_nil ?_
      intro W hW
      have HB4 := Lib.hid (keeps_trans HB3.out hW)
      have HO := Lib.hid hW
      have S1 := HK.out.1 W hW
      have A1 := HK.out.2.1 W hW
      have B1 := HK.out.2.2 W hW
      have SA := Lib.hid (fun W (k : Onward w3 W) => And.intro (HK.out.1 W k) (And.intro (HK.out.2.1 W k) (HK.out.2.2 W k)))
      clear hW S0 A B D gab gbd gad HK
      have n1 : IntKind.i64.wrap (-1 : Int) = -1 := by decide
      have n2 : IntKind.i64.wrap (-(-1) : Int) = 1 := by decide
      have n3 : IntKind.i64.wrap (-0 : Int) = 0 := by decide
      have n4 : (-(1 : Int)) = -1 := rfl
      have n5 : (-(-1 : Int)) = 1 := rfl
      have n6 : (-(0 : Int)) = 0 := rfl
      rcases cs with ⟨rfl, rfl⟩ | ⟨rfl, rfl, e, hz⟩ | ⟨rfl, rfl, e, hz, hu⟩ | ⟨rfl, rfl, e, rfl, rfl⟩ | ⟨rfl, rfl, hz⟩ | ⟨rfl, rfl, hz, hu⟩
      · go_wp2_with fail
        refine (GBA.out _ HO.out).mono ?_
        rintro e w5 ⟨rfl, hb5⟩
        have HB5 := Lib.hid (keeps_trans HB3.out hb5)
        have HO5 := Lib.hid hb5
        clear hb5 S1 A1 B1
        have S1 := SA.out w5 HO5.out
        obtain ⟨S1, A1, B1⟩ := S1
        go_wp2_with fail
        refine (GAA.out _ HO5.out).mono ?_
        rintro e w6 ⟨rfl, hb6⟩
        have HB6 := Lib.hid (keeps_trans HB3.out hb6)
        have HO6 := Lib.hid hb6
        clear hb6 S1 A1 B1
        have S1 := SA.out w6 HO6.out
        obtain ⟨S1, A1, B1⟩ := S1
        go_wp2_with fail
        refine (aw.out _).mono ?_
        rintro e w7 ⟨rfl, hb7⟩
        have HF := Lib.hid (keeps_trans HB6.out hb7)
        clear hb7
        go_wp2_with fail
        go_ret
        exact ⟨rfl, HF.out⟩
      · subst e
        have z1 : decide (z ≤ 0) = false := by simp; omega
        clear hz
        go_wp2_with fail
        refine (GBA.out _ HO.out).mono ?_
        rintro e w5 ⟨rfl, hb5⟩
        have HB5 := Lib.hid (keeps_trans HB3.out hb5)
        have HO5 := Lib.hid hb5
        clear hb5 S1 A1 B1
        have S1 := SA.out w5 HO5.out
        obtain ⟨S1, A1, B1⟩ := S1
        go_wp2_with fail
        refine (GAA.out _ HO5.out).mono ?_
        rintro e w6 ⟨rfl, hb6⟩
        have HB6 := Lib.hid (keeps_trans HB3.out hb6)
        have HO6 := Lib.hid hb6
        clear hb6 S1 A1 B1
        have S1 := SA.out w6 HO6.out
        obtain ⟨S1, A1, B1⟩ := S1
        go_wp2_with fail
        refine (aw.out _).mono ?_
        rintro e w7 ⟨rfl, hb7⟩
        have HF := Lib.hid (keeps_trans HB6.out hb7)
        clear hb7
        go_wp2_with fail
        go_ret
        exact ⟨rfl, HF.out⟩
      · subst e
        have z1 : decide (z ≤ 0) = true := by simp; omega
        have u1 : decide (u > 0) = false := by simp; omega
        have u2 : decide (0 < u) = false := by simp; omega
        have u3 : (u == 0) = false := by simp; omega
        have u4 : decide (u = 0) = false := by simp; omega
        clear hz hu
        go_wp2_with fail
        refine (GBA.out _ HO.out).mono ?_
        rintro e w5 ⟨rfl, hb5⟩
        have HB5 := Lib.hid (keeps_trans HB3.out hb5)
        have HO5 := Lib.hid hb5
        clear hb5 S1 A1 B1
        have S1 := SA.out w5 HO5.out
        obtain ⟨S1, A1, B1⟩ := S1
        go_wp2_with fail
        refine (GAA.out _ HO5.out).mono ?_
        rintro e w6 ⟨rfl, hb6⟩
        have HB6 := Lib.hid (keeps_trans HB3.out hb6)
        have HO6 := Lib.hid hb6
        clear hb6 S1 A1 B1
        have S1 := SA.out w6 HO6.out
        obtain ⟨S1, A1, B1⟩ := S1
        go_wp2_with fail
        refine (aw.out _).mono ?_
        rintro e w7 ⟨rfl, hb7⟩
        have HF := Lib.hid (keeps_trans HB6.out hb7)
        clear hb7
        go_wp2_with fail
        go_ret
        exact ⟨rfl, HF.out⟩
      · subst e
        go_wp2_with fail
        refine (GBA.out _ HO.out).mono ?_
        rintro e w5 ⟨rfl, hb5⟩
        have HB5 := Lib.hid (keeps_trans HB3.out hb5)
        have HO5 := Lib.hid hb5
        clear hb5 S1 A1 B1
        have S1 := SA.out w5 HO5.out
        obtain ⟨S1, A1, B1⟩ := S1
        go_wp2_with fail
        refine (GAA.out _ HO5.out).mono ?_
        rintro e w6 ⟨rfl, hb6⟩
        have HB6 := Lib.hid (keeps_trans HB3.out hb6)
        have HO6 := Lib.hid hb6
        clear hb6 S1 A1 B1
        have S1 := SA.out w6 HO6.out
        obtain ⟨S1, A1, B1⟩ := S1
        go_wp2_with fail
        refine (aw.out _).mono ?_
        rintro e w7 ⟨rfl, hb7⟩
        have HF := Lib.hid (keeps_trans HB6.out hb7)
        clear hb7
        go_wp2_with fail
        go_ret
        exact ⟨rfl, HF.out⟩
      · have z1 : decide (z ≤ 0) = false := by simp; omega
        clear hz
        go_wp2_with fail
        refine (GBA.out _ HO.out).mono ?_
        rintro e w5 ⟨rfl, hb5⟩
        have HB5 := Lib.hid (keeps_trans HB3.out hb5)
        have HO5 := Lib.hid hb5
        clear hb5 S1 A1 B1
        have S1 := SA.out w5 HO5.out
        obtain ⟨S1, A1, B1⟩ := S1
        go_wp2_with fail
        refine (GAA.out _ HO5.out).mono ?_
        rintro e w6 ⟨rfl, hb6⟩
        have HB6 := Lib.hid (keeps_trans HB3.out hb6)
        have HO6 := Lib.hid hb6
        clear hb6 S1 A1 B1
        have S1 := SA.out w6 HO6.out
        obtain ⟨S1, A1, B1⟩ := S1
        go_wp2_with fail
        refine (aw.out _).mono ?_
        rintro e w7 ⟨rfl, hb7⟩
        have HF := Lib.hid (keeps_trans HB6.out hb7)
        clear hb7
        go_wp2_with fail
        go_ret
        exact ⟨rfl, HF.out⟩
      · have z1 : decide (z ≤ 0) = true := by simp; omega
        have u1 : decide (u > 0) = false := by simp; omega
        have u2 : decide (0 < u) = false := by simp; omega
        have u3 : (u == 0) = false := by simp; omega
        have u4 : decide (u = 0) = false := by simp; omega
        clear hz hu
        go_wp2_with fail
        refine (GBA.out _ HO.out).mono ?_
        rintro e w5 ⟨rfl, hb5⟩
        have HB5 := Lib.hid (keeps_trans HB3.out hb5)
        have HO5 := Lib.hid hb5
        clear hb5 S1 A1 B1
        have S1 := SA.out w5 HO5.out
        obtain ⟨S1, A1, B1⟩ := S1
        go_wp2_with fail
        refine (GAA.out _ HO5.out).mono ?_
        rintro e w6 ⟨rfl, hb6⟩
        have HB6 := Lib.hid (keeps_trans HB3.out hb6)
        have HO6 := Lib.hid hb6
        clear hb6 S1 A1 B1
        have S1 := SA.out w6 HO6.out
        obtain ⟨S1, A1, B1⟩ := S1
        go_wp2_with fail
        refine (aw.out _).mono ?_
        rintro e w7 ⟨rfl, hb7⟩
        have HF := Lib.hid (keeps_trans HB6.out hb7)
        clear hb7
        go_wp2_with fail
        go_ret
        exact ⟨rfl, HF.out⟩
    rw [← HL.out] at hlb
    refine wp_region_held_drew (S := fun W => Blk W (w.heap.size + 1) 65 (prow3 a b d)) (by kernel_rfl) hlb (fun hHeld => ?_)
    change wpAnyH Try.prog .any _ _ _ 12 (Array.replicate 12 false) _ _
    refine takeP 0 15 (.pointer (some ⟨w.heap.size + 1, 0, none⟩)) rfl rfl (by kernel_rfl) (by kernel_rfl) (by kernel_rfl) (fun _ _ _ h => by cases h.1) (Or.inl ⟨by rfl, ?_⟩) hHeld ?_
    · intro W hSw
      clear hSw
      go_simp
    simp only [Act.put, List.setIfInBounds_toArray, List.set_cons_zero, List.set_cons_succ]
    refine takeP 1 16 (.agg (prow a)) rfl rfl (by kernel_rfl) (by kernel_rfl) (by kernel_rfl) (fun _ _ _ h => by cases h.1) (yieldsIf_load_mid (by rfl) _ _ rfl (w.heap.size + 1) 0 rfl (prow a).toList _ (fun W h => (range3 h).1) Try.underlying57 rfl (info11 a)) hHeld ?_
    simp only [Act.put, List.setIfInBounds_toArray, List.set_cons_zero, List.set_cons_succ]
    refine takeP 2 17 (.pointer (some ⟨w.heap.size + 1, 11, none⟩)) rfl rfl (by kernel_rfl) (by kernel_rfl) (by kernel_rfl) (fun _ _ _ h => by cases h.1) (Or.inl ⟨by rfl, ?_⟩) hHeld ?_
    · intro W hSw
      clear hSw
      go_simp
    simp only [Act.put, List.setIfInBounds_toArray, List.set_cons_zero, List.set_cons_succ]
    refine takeP 3 18 (.agg (prow b)) rfl rfl (by kernel_rfl) (by kernel_rfl) (by kernel_rfl) (fun _ _ _ h => by cases h.1) (yieldsIf_load_mid (by rfl) _ _ rfl (w.heap.size + 1) 11 rfl (prow b).toList _ (fun W h => (range3 h).2.1) Try.underlying57 rfl (info11 b)) hHeld ?_
    simp only [Act.put, List.setIfInBounds_toArray, List.set_cons_zero, List.set_cons_succ]
    refine takeP 4 19 (.pointer (some ⟨w.heap.size + 1, 22, none⟩)) rfl rfl (by kernel_rfl) (by kernel_rfl) (by kernel_rfl) (fun _ _ _ h => by cases h.1) (Or.inl ⟨by rfl, ?_⟩) hHeld ?_
    · intro W hSw
      clear hSw
      go_simp
    simp only [Act.put, List.setIfInBounds_toArray, List.set_cons_zero, List.set_cons_succ]
    refine takeP 5 20 (.agg (prow d)) rfl rfl (by kernel_rfl) (by kernel_rfl) (by kernel_rfl) (fun _ _ _ h => by cases h.1) (yieldsIf_load_mid (by rfl) _ _ rfl (w.heap.size + 1) 22 rfl (prow d).toList _ (fun W h => (range3 h).2.2) Try.underlying57 rfl (info11 d)) hHeld ?_
    simp only [Act.put, List.setIfInBounds_toArray, List.set_cons_zero, List.set_cons_succ]
    obtain ⟨W1, hW1⟩ : ∃ x, w2.drew.alloc (.cells #[.int .i64 0, .int .i64 0, .int .i64 0, .int .i64 0, .int .i64 0, .int .i64 0, .int .i64 0, .int .i64 0, .int .i64 0, .int .i64 0, .int .i64 0] 57) = x := ⟨_, rfl⟩
    obtain ⟨W2, hW2⟩ : ∃ x, W1.alloc (.cells #[.int .i64 0, .int .i64 0, .int .i64 0, .int .i64 0, .int .i64 0, .int .i64 0, .int .i64 0, .int .i64 0, .int .i64 0, .int .i64 0, .int .i64 0] 57) = x := ⟨_, rfl⟩
    obtain ⟨W3, hW3⟩ : ∃ x, W2.alloc (.cells #[.int .i64 0, .int .i64 0, .int .i64 0, .int .i64 0, .int .i64 0, .int .i64 0, .int .i64 0, .int .i64 0, .int .i64 0, .int .i64 0, .int .i64 0] 57) = x := ⟨_, rfl⟩
    have s0 : w2.drew.heap.size = w2.heap.size := rfl
    have s1 : W1.heap.size = w2.drew.heap.size + 1 := by rw [← hW1]; simp
    have s2 : W2.heap.size = W1.heap.size + 1 := by rw [← hW2]; simp
    have q0 : Blk W1 w2.drew.heap.size 57 #[.int .i64 0, .int .i64 0, .int .i64 0, .int .i64 0, .int .i64 0, .int .i64 0, .int .i64 0, .int .i64 0, .int .i64 0, .int .i64 0, .int .i64 0] := by rw [← hW1]; exact Blk.new _ _ _
    have q1 : Blk W2 W1.heap.size 57 #[.int .i64 0, .int .i64 0, .int .i64 0, .int .i64 0, .int .i64 0, .int .i64 0, .int .i64 0, .int .i64 0, .int .i64 0, .int .i64 0, .int .i64 0] := by rw [← hW2]; exact Blk.new _ _ _
    have q2 : Blk W3 W2.heap.size 57 #[.int .i64 0, .int .i64 0, .int .i64 0, .int .i64 0, .int .i64 0, .int .i64 0, .int .i64 0, .int .i64 0, .int .i64 0, .int .i64 0, .int .i64 0] := by rw [← hW3]; exact Blk.new _ _ _
    have q0' : Blk W2 w2.drew.heap.size 57 #[.int .i64 0, .int .i64 0, .int .i64 0, .int .i64 0, .int .i64 0, .int .i64 0, .int .i64 0, .int .i64 0, .int .i64 0, .int .i64 0, .int .i64 0] := by rw [← hW2]; exact Blk.alloc q0 _
    have q0 : Blk W3 w2.drew.heap.size 57 #[.int .i64 0, .int .i64 0, .int .i64 0, .int .i64 0, .int .i64 0, .int .i64 0, .int .i64 0, .int .i64 0, .int .i64 0, .int .i64 0, .int .i64 0] := by rw [← hW3]; exact Blk.alloc q0' _
    have q1 : Blk W3 W1.heap.size 57 #[.int .i64 0, .int .i64 0, .int .i64 0, .int .i64 0, .int .i64 0, .int .i64 0, .int .i64 0, .int .i64 0, .int .i64 0, .int .i64 0, .int .i64 0] := by rw [← hW3]; exact Blk.alloc q1 _
    have on3 : Below w2.heap.size w2 W3 := by
      rw [← hW3, ← hW2, ← hW1]
      exact (((Onward.drew w2).alloc (Nat.le_refl _) _).alloc (by simp) _).alloc (by simp; omega) _
    have hgl := Blk.lt hHeld
    clear q0'
    refine wpAnyH_ready (rs := [6, 7, 8]) (by kernel_rfl) (by simp) ?_
    refine AllReadyH.cons (o := _) rfl (fun K hK => ?_) ?_
    · rw [if_pos (by rfl)]
      refine zeroP _ _ _ _ _ rfl 5 rfl ?_
      rw [hW1]
      refine hK.out _ _ (by rw [← hW1]; exact Blk.alloc hHeld _) (fun hHeld => ?_)
      clear hK K
      simp only [Act.put, List.setIfInBounds_toArray, List.set_cons_zero, List.set_cons_succ]
      refine wpAnyH_ready (rs := [7, 8]) (by kernel_rfl) (by simp) ?_
      refine AllReadyH.cons (o := _) rfl (fun K hK => ?_) ?_
      · rw [if_pos (by rfl)]
        refine zeroP _ _ _ _ _ rfl 6 rfl ?_
        rw [hW2]
        refine hK.out _ _ (by rw [← hW2]; exact Blk.alloc hHeld _) (fun hHeld => ?_)
        clear hK K
        simp only [Act.put, List.setIfInBounds_toArray, List.set_cons_zero, List.set_cons_succ]
        refine wpAnyH_ready (rs := [8]) (by kernel_rfl) (by simp) ?_
        refine AllReadyH.cons (o := _) rfl (fun K hK => ?_) ?_
        · rw [if_pos (by rfl)]
          refine zeroP _ _ _ _ _ rfl 7 rfl ?_
          rw [hW3]
          refine hK.out _ _ (by rw [← hW3]; exact Blk.alloc hHeld _) (fun hHeld => ?_)
          clear hK K
          simp only [Act.put, List.setIfInBounds_toArray, List.set_cons_zero, List.set_cons_succ]
          refine storeStep 9 (.tmp 5) (.tmp 16) (w2.drew.heap.size) a (by kernel_rfl) (by kernel_rfl) ?hx ?hy q0 ?hc (setCells_far (by omega) _ _ _ hHeld) ?_
          case hx => rfl
          case hy => rfl
          case hc => rfl
          have hHeld := setCells_far (show w.heap.size + 1 ≠ w2.drew.heap.size by omega) (prow a).toList 0 _ hHeld
          have c00 := setCells_all q0 (prow a).toList (Eq.trans (show Array.size _ = 11 from rfl) (prow_size a).symm)
          have c01 := setCells_far (show W1.heap.size ≠ w2.drew.heap.size by omega) (prow a).toList 0 _ q1
          have c02 := setCells_far (show W2.heap.size ≠ w2.drew.heap.size by omega) (prow a).toList 0 _ q2
          have on4 := setCells_on (show w2.heap.size ≤ w2.drew.heap.size by omega) (prow a).toList 0 _ _ on3
          refine storeStep 10 (.tmp 6) (.tmp 18) (W1.heap.size) b (by kernel_rfl) (by kernel_rfl) ?hx ?hy c01 ?hc (setCells_far (by omega) _ _ _ hHeld) ?_
          case hx => rfl
          case hy => rfl
          case hc => rfl
          have hHeld := setCells_far (show w.heap.size + 1 ≠ W1.heap.size by omega) (prow b).toList 0 _ hHeld
          have c10 := setCells_far (show w2.drew.heap.size ≠ W1.heap.size by omega) (prow b).toList 0 _ c00
          have c11 := setCells_all c01 (prow b).toList (Eq.trans (show Array.size _ = 11 from rfl) (prow_size b).symm)
          have c12 := setCells_far (show W2.heap.size ≠ W1.heap.size by omega) (prow b).toList 0 _ c02
          have on5 := setCells_on (show w2.heap.size ≤ W1.heap.size by omega) (prow b).toList 0 _ _ on4
          refine storeStep 11 (.tmp 7) (.tmp 20) (W2.heap.size) d (by kernel_rfl) (by kernel_rfl) ?hx ?hy c12 ?hc (setCells_far (by omega) _ _ _ hHeld) ?_
          case hx => rfl
          case hy => rfl
          case hc => rfl
          have hHeld := setCells_far (show w.heap.size + 1 ≠ W2.heap.size by omega) (prow d).toList 0 _ hHeld
          have c20 := setCells_far (show w2.drew.heap.size ≠ W2.heap.size by omega) (prow d).toList 0 _ c10
          have c21 := setCells_far (show W1.heap.size ≠ W2.heap.size by omega) (prow d).toList 0 _ c11
          have c22 := setCells_all c12 (prow d).toList (Eq.trans (show Array.size _ = 11 from rfl) (prow_size d).symm)
          have on6 := setCells_on (show w2.heap.size ≤ W2.heap.size by omega) (prow d).toList 0 _ _ on5
          exact wpAnyH_done (by kernel_rfl) ⟨rfl, _, _, _, rfl, c20, c21, c22, on6⟩ _
        exact AllReadyH.nil
      refine AllReadyH.cons (o := _) rfl (fun K hK => ?_) ?_
      · rw [if_pos (by rfl)]
        refine zeroP _ _ _ _ _ rfl 7 rfl ?_
        rw [hW2]
        refine hK.out _ _ (by rw [← hW2]; exact Blk.alloc hHeld _) (fun hHeld => ?_)
        clear hK K
        simp only [Act.put, List.setIfInBounds_toArray, List.set_cons_zero, List.set_cons_succ]
        refine wpAnyH_ready (rs := [7]) (by kernel_rfl) (by simp) ?_
        refine AllReadyH.cons (o := _) rfl (fun K hK => ?_) ?_
        · rw [if_pos (by rfl)]
          refine zeroP _ _ _ _ _ rfl 6 rfl ?_
          rw [hW3]
          refine hK.out _ _ (by rw [← hW3]; exact Blk.alloc hHeld _) (fun hHeld => ?_)
          clear hK K
          simp only [Act.put, List.setIfInBounds_toArray, List.set_cons_zero, List.set_cons_succ]
          refine storeStep 9 (.tmp 5) (.tmp 16) (w2.drew.heap.size) a (by kernel_rfl) (by kernel_rfl) ?hx ?hy q0 ?hc (setCells_far (by omega) _ _ _ hHeld) ?_
          case hx => rfl
          case hy => rfl
          case hc => rfl
          have hHeld := setCells_far (show w.heap.size + 1 ≠ w2.drew.heap.size by omega) (prow a).toList 0 _ hHeld
          have c00 := setCells_all q0 (prow a).toList (Eq.trans (show Array.size _ = 11 from rfl) (prow_size a).symm)
          have c01 := setCells_far (show W2.heap.size ≠ w2.drew.heap.size by omega) (prow a).toList 0 _ q2
          have c02 := setCells_far (show W1.heap.size ≠ w2.drew.heap.size by omega) (prow a).toList 0 _ q1
          have on4 := setCells_on (show w2.heap.size ≤ w2.drew.heap.size by omega) (prow a).toList 0 _ _ on3
          refine storeStep 10 (.tmp 6) (.tmp 18) (W2.heap.size) b (by kernel_rfl) (by kernel_rfl) ?hx ?hy c01 ?hc (setCells_far (by omega) _ _ _ hHeld) ?_
          case hx => rfl
          case hy => rfl
          case hc => rfl
          have hHeld := setCells_far (show w.heap.size + 1 ≠ W2.heap.size by omega) (prow b).toList 0 _ hHeld
          have c10 := setCells_far (show w2.drew.heap.size ≠ W2.heap.size by omega) (prow b).toList 0 _ c00
          have c11 := setCells_all c01 (prow b).toList (Eq.trans (show Array.size _ = 11 from rfl) (prow_size b).symm)
          have c12 := setCells_far (show W1.heap.size ≠ W2.heap.size by omega) (prow b).toList 0 _ c02
          have on5 := setCells_on (show w2.heap.size ≤ W2.heap.size by omega) (prow b).toList 0 _ _ on4
          refine storeStep 11 (.tmp 7) (.tmp 20) (W1.heap.size) d (by kernel_rfl) (by kernel_rfl) ?hx ?hy c12 ?hc (setCells_far (by omega) _ _ _ hHeld) ?_
          case hx => rfl
          case hy => rfl
          case hc => rfl
          have hHeld := setCells_far (show w.heap.size + 1 ≠ W1.heap.size by omega) (prow d).toList 0 _ hHeld
          have c20 := setCells_far (show w2.drew.heap.size ≠ W1.heap.size by omega) (prow d).toList 0 _ c10
          have c21 := setCells_far (show W2.heap.size ≠ W1.heap.size by omega) (prow d).toList 0 _ c11
          have c22 := setCells_all c12 (prow d).toList (Eq.trans (show Array.size _ = 11 from rfl) (prow_size d).symm)
          have on6 := setCells_on (show w2.heap.size ≤ W1.heap.size by omega) (prow d).toList 0 _ _ on5
          exact wpAnyH_done (by kernel_rfl) ⟨rfl, _, _, _, rfl, c20, c21, c22, on6⟩ _
        exact AllReadyH.nil
      exact AllReadyH.nil
    refine AllReadyH.cons (o := _) rfl (fun K hK => ?_) ?_
    · rw [if_pos (by rfl)]
      refine zeroP _ _ _ _ _ rfl 6 rfl ?_
      rw [hW1]
      refine hK.out _ _ (by rw [← hW1]; exact Blk.alloc hHeld _) (fun hHeld => ?_)
      clear hK K
      simp only [Act.put, List.setIfInBounds_toArray, List.set_cons_zero, List.set_cons_succ]
      refine wpAnyH_ready (rs := [6, 8]) (by kernel_rfl) (by simp) ?_
      refine AllReadyH.cons (o := _) rfl (fun K hK => ?_) ?_
      · rw [if_pos (by rfl)]
        refine zeroP _ _ _ _ _ rfl 5 rfl ?_
        rw [hW2]
        refine hK.out _ _ (by rw [← hW2]; exact Blk.alloc hHeld _) (fun hHeld => ?_)
        clear hK K
        simp only [Act.put, List.setIfInBounds_toArray, List.set_cons_zero, List.set_cons_succ]
        refine wpAnyH_ready (rs := [8]) (by kernel_rfl) (by simp) ?_
        refine AllReadyH.cons (o := _) rfl (fun K hK => ?_) ?_
        · rw [if_pos (by rfl)]
          refine zeroP _ _ _ _ _ rfl 7 rfl ?_
          rw [hW3]
          refine hK.out _ _ (by rw [← hW3]; exact Blk.alloc hHeld _) (fun hHeld => ?_)
          clear hK K
          simp only [Act.put, List.setIfInBounds_toArray, List.set_cons_zero, List.set_cons_succ]
          refine storeStep 9 (.tmp 5) (.tmp 16) (W1.heap.size) a (by kernel_rfl) (by kernel_rfl) ?hx ?hy q1 ?hc (setCells_far (by omega) _ _ _ hHeld) ?_
          case hx => rfl
          case hy => rfl
          case hc => rfl
          have hHeld := setCells_far (show w.heap.size + 1 ≠ W1.heap.size by omega) (prow a).toList 0 _ hHeld
          have c00 := setCells_all q1 (prow a).toList (Eq.trans (show Array.size _ = 11 from rfl) (prow_size a).symm)
          have c01 := setCells_far (show w2.drew.heap.size ≠ W1.heap.size by omega) (prow a).toList 0 _ q0
          have c02 := setCells_far (show W2.heap.size ≠ W1.heap.size by omega) (prow a).toList 0 _ q2
          have on4 := setCells_on (show w2.heap.size ≤ W1.heap.size by omega) (prow a).toList 0 _ _ on3
          refine storeStep 10 (.tmp 6) (.tmp 18) (w2.drew.heap.size) b (by kernel_rfl) (by kernel_rfl) ?hx ?hy c01 ?hc (setCells_far (by omega) _ _ _ hHeld) ?_
          case hx => rfl
          case hy => rfl
          case hc => rfl
          have hHeld := setCells_far (show w.heap.size + 1 ≠ w2.drew.heap.size by omega) (prow b).toList 0 _ hHeld
          have c10 := setCells_far (show W1.heap.size ≠ w2.drew.heap.size by omega) (prow b).toList 0 _ c00
          have c11 := setCells_all c01 (prow b).toList (Eq.trans (show Array.size _ = 11 from rfl) (prow_size b).symm)
          have c12 := setCells_far (show W2.heap.size ≠ w2.drew.heap.size by omega) (prow b).toList 0 _ c02
          have on5 := setCells_on (show w2.heap.size ≤ w2.drew.heap.size by omega) (prow b).toList 0 _ _ on4
          refine storeStep 11 (.tmp 7) (.tmp 20) (W2.heap.size) d (by kernel_rfl) (by kernel_rfl) ?hx ?hy c12 ?hc (setCells_far (by omega) _ _ _ hHeld) ?_
          case hx => rfl
          case hy => rfl
          case hc => rfl
          have hHeld := setCells_far (show w.heap.size + 1 ≠ W2.heap.size by omega) (prow d).toList 0 _ hHeld
          have c20 := setCells_far (show W1.heap.size ≠ W2.heap.size by omega) (prow d).toList 0 _ c10
          have c21 := setCells_far (show w2.drew.heap.size ≠ W2.heap.size by omega) (prow d).toList 0 _ c11
          have c22 := setCells_all c12 (prow d).toList (Eq.trans (show Array.size _ = 11 from rfl) (prow_size d).symm)
          have on6 := setCells_on (show w2.heap.size ≤ W2.heap.size by omega) (prow d).toList 0 _ _ on5
          exact wpAnyH_done (by kernel_rfl) ⟨rfl, _, _, _, rfl, c20, c21, c22, on6⟩ _
        exact AllReadyH.nil
      refine AllReadyH.cons (o := _) rfl (fun K hK => ?_) ?_
      · rw [if_pos (by rfl)]
        refine zeroP _ _ _ _ _ rfl 7 rfl ?_
        rw [hW2]
        refine hK.out _ _ (by rw [← hW2]; exact Blk.alloc hHeld _) (fun hHeld => ?_)
        clear hK K
        simp only [Act.put, List.setIfInBounds_toArray, List.set_cons_zero, List.set_cons_succ]
        refine wpAnyH_ready (rs := [6]) (by kernel_rfl) (by simp) ?_
        refine AllReadyH.cons (o := _) rfl (fun K hK => ?_) ?_
        · rw [if_pos (by rfl)]
          refine zeroP _ _ _ _ _ rfl 5 rfl ?_
          rw [hW3]
          refine hK.out _ _ (by rw [← hW3]; exact Blk.alloc hHeld _) (fun hHeld => ?_)
          clear hK K
          simp only [Act.put, List.setIfInBounds_toArray, List.set_cons_zero, List.set_cons_succ]
          refine storeStep 9 (.tmp 5) (.tmp 16) (W2.heap.size) a (by kernel_rfl) (by kernel_rfl) ?hx ?hy q2 ?hc (setCells_far (by omega) _ _ _ hHeld) ?_
          case hx => rfl
          case hy => rfl
          case hc => rfl
          have hHeld := setCells_far (show w.heap.size + 1 ≠ W2.heap.size by omega) (prow a).toList 0 _ hHeld
          have c00 := setCells_all q2 (prow a).toList (Eq.trans (show Array.size _ = 11 from rfl) (prow_size a).symm)
          have c01 := setCells_far (show w2.drew.heap.size ≠ W2.heap.size by omega) (prow a).toList 0 _ q0
          have c02 := setCells_far (show W1.heap.size ≠ W2.heap.size by omega) (prow a).toList 0 _ q1
          have on4 := setCells_on (show w2.heap.size ≤ W2.heap.size by omega) (prow a).toList 0 _ _ on3
          refine storeStep 10 (.tmp 6) (.tmp 18) (w2.drew.heap.size) b (by kernel_rfl) (by kernel_rfl) ?hx ?hy c01 ?hc (setCells_far (by omega) _ _ _ hHeld) ?_
          case hx => rfl
          case hy => rfl
          case hc => rfl
          have hHeld := setCells_far (show w.heap.size + 1 ≠ w2.drew.heap.size by omega) (prow b).toList 0 _ hHeld
          have c10 := setCells_far (show W2.heap.size ≠ w2.drew.heap.size by omega) (prow b).toList 0 _ c00
          have c11 := setCells_all c01 (prow b).toList (Eq.trans (show Array.size _ = 11 from rfl) (prow_size b).symm)
          have c12 := setCells_far (show W1.heap.size ≠ w2.drew.heap.size by omega) (prow b).toList 0 _ c02
          have on5 := setCells_on (show w2.heap.size ≤ w2.drew.heap.size by omega) (prow b).toList 0 _ _ on4
          refine storeStep 11 (.tmp 7) (.tmp 20) (W1.heap.size) d (by kernel_rfl) (by kernel_rfl) ?hx ?hy c12 ?hc (setCells_far (by omega) _ _ _ hHeld) ?_
          case hx => rfl
          case hy => rfl
          case hc => rfl
          have hHeld := setCells_far (show w.heap.size + 1 ≠ W1.heap.size by omega) (prow d).toList 0 _ hHeld
          have c20 := setCells_far (show W2.heap.size ≠ W1.heap.size by omega) (prow d).toList 0 _ c10
          have c21 := setCells_far (show w2.drew.heap.size ≠ W1.heap.size by omega) (prow d).toList 0 _ c11
          have c22 := setCells_all c12 (prow d).toList (Eq.trans (show Array.size _ = 11 from rfl) (prow_size d).symm)
          have on6 := setCells_on (show w2.heap.size ≤ W1.heap.size by omega) (prow d).toList 0 _ _ on5
          exact wpAnyH_done (by kernel_rfl) ⟨rfl, _, _, _, rfl, c20, c21, c22, on6⟩ _
        exact AllReadyH.nil
      exact AllReadyH.nil
    refine AllReadyH.cons (o := _) rfl (fun K hK => ?_) ?_
    · rw [if_pos (by rfl)]
      refine zeroP _ _ _ _ _ rfl 7 rfl ?_
      rw [hW1]
      refine hK.out _ _ (by rw [← hW1]; exact Blk.alloc hHeld _) (fun hHeld => ?_)
      clear hK K
      simp only [Act.put, List.setIfInBounds_toArray, List.set_cons_zero, List.set_cons_succ]
      refine wpAnyH_ready (rs := [6, 7]) (by kernel_rfl) (by simp) ?_
      refine AllReadyH.cons (o := _) rfl (fun K hK => ?_) ?_
      · rw [if_pos (by rfl)]
        refine zeroP _ _ _ _ _ rfl 5 rfl ?_
        rw [hW2]
        refine hK.out _ _ (by rw [← hW2]; exact Blk.alloc hHeld _) (fun hHeld => ?_)
        clear hK K
        simp only [Act.put, List.setIfInBounds_toArray, List.set_cons_zero, List.set_cons_succ]
        refine wpAnyH_ready (rs := [7]) (by kernel_rfl) (by simp) ?_
        refine AllReadyH.cons (o := _) rfl (fun K hK => ?_) ?_
        · rw [if_pos (by rfl)]
          refine zeroP _ _ _ _ _ rfl 6 rfl ?_
          rw [hW3]
          refine hK.out _ _ (by rw [← hW3]; exact Blk.alloc hHeld _) (fun hHeld => ?_)
          clear hK K
          simp only [Act.put, List.setIfInBounds_toArray, List.set_cons_zero, List.set_cons_succ]
          refine storeStep 9 (.tmp 5) (.tmp 16) (W1.heap.size) a (by kernel_rfl) (by kernel_rfl) ?hx ?hy q1 ?hc (setCells_far (by omega) _ _ _ hHeld) ?_
          case hx => rfl
          case hy => rfl
          case hc => rfl
          have hHeld := setCells_far (show w.heap.size + 1 ≠ W1.heap.size by omega) (prow a).toList 0 _ hHeld
          have c00 := setCells_all q1 (prow a).toList (Eq.trans (show Array.size _ = 11 from rfl) (prow_size a).symm)
          have c01 := setCells_far (show W2.heap.size ≠ W1.heap.size by omega) (prow a).toList 0 _ q2
          have c02 := setCells_far (show w2.drew.heap.size ≠ W1.heap.size by omega) (prow a).toList 0 _ q0
          have on4 := setCells_on (show w2.heap.size ≤ W1.heap.size by omega) (prow a).toList 0 _ _ on3
          refine storeStep 10 (.tmp 6) (.tmp 18) (W2.heap.size) b (by kernel_rfl) (by kernel_rfl) ?hx ?hy c01 ?hc (setCells_far (by omega) _ _ _ hHeld) ?_
          case hx => rfl
          case hy => rfl
          case hc => rfl
          have hHeld := setCells_far (show w.heap.size + 1 ≠ W2.heap.size by omega) (prow b).toList 0 _ hHeld
          have c10 := setCells_far (show W1.heap.size ≠ W2.heap.size by omega) (prow b).toList 0 _ c00
          have c11 := setCells_all c01 (prow b).toList (Eq.trans (show Array.size _ = 11 from rfl) (prow_size b).symm)
          have c12 := setCells_far (show w2.drew.heap.size ≠ W2.heap.size by omega) (prow b).toList 0 _ c02
          have on5 := setCells_on (show w2.heap.size ≤ W2.heap.size by omega) (prow b).toList 0 _ _ on4
          refine storeStep 11 (.tmp 7) (.tmp 20) (w2.drew.heap.size) d (by kernel_rfl) (by kernel_rfl) ?hx ?hy c12 ?hc (setCells_far (by omega) _ _ _ hHeld) ?_
          case hx => rfl
          case hy => rfl
          case hc => rfl
          have hHeld := setCells_far (show w.heap.size + 1 ≠ w2.drew.heap.size by omega) (prow d).toList 0 _ hHeld
          have c20 := setCells_far (show W1.heap.size ≠ w2.drew.heap.size by omega) (prow d).toList 0 _ c10
          have c21 := setCells_far (show W2.heap.size ≠ w2.drew.heap.size by omega) (prow d).toList 0 _ c11
          have c22 := setCells_all c12 (prow d).toList (Eq.trans (show Array.size _ = 11 from rfl) (prow_size d).symm)
          have on6 := setCells_on (show w2.heap.size ≤ w2.drew.heap.size by omega) (prow d).toList 0 _ _ on5
          exact wpAnyH_done (by kernel_rfl) ⟨rfl, _, _, _, rfl, c20, c21, c22, on6⟩ _
        exact AllReadyH.nil
      refine AllReadyH.cons (o := _) rfl (fun K hK => ?_) ?_
      · rw [if_pos (by rfl)]
        refine zeroP _ _ _ _ _ rfl 6 rfl ?_
        rw [hW2]
        refine hK.out _ _ (by rw [← hW2]; exact Blk.alloc hHeld _) (fun hHeld => ?_)
        clear hK K
        simp only [Act.put, List.setIfInBounds_toArray, List.set_cons_zero, List.set_cons_succ]
        refine wpAnyH_ready (rs := [6]) (by kernel_rfl) (by simp) ?_
        refine AllReadyH.cons (o := _) rfl (fun K hK => ?_) ?_
        · rw [if_pos (by rfl)]
          refine zeroP _ _ _ _ _ rfl 5 rfl ?_
          rw [hW3]
          refine hK.out _ _ (by rw [← hW3]; exact Blk.alloc hHeld _) (fun hHeld => ?_)
          clear hK K
          simp only [Act.put, List.setIfInBounds_toArray, List.set_cons_zero, List.set_cons_succ]
          refine storeStep 9 (.tmp 5) (.tmp 16) (W2.heap.size) a (by kernel_rfl) (by kernel_rfl) ?hx ?hy q2 ?hc (setCells_far (by omega) _ _ _ hHeld) ?_
          case hx => rfl
          case hy => rfl
          case hc => rfl
          have hHeld := setCells_far (show w.heap.size + 1 ≠ W2.heap.size by omega) (prow a).toList 0 _ hHeld
          have c00 := setCells_all q2 (prow a).toList (Eq.trans (show Array.size _ = 11 from rfl) (prow_size a).symm)
          have c01 := setCells_far (show W1.heap.size ≠ W2.heap.size by omega) (prow a).toList 0 _ q1
          have c02 := setCells_far (show w2.drew.heap.size ≠ W2.heap.size by omega) (prow a).toList 0 _ q0
          have on4 := setCells_on (show w2.heap.size ≤ W2.heap.size by omega) (prow a).toList 0 _ _ on3
          refine storeStep 10 (.tmp 6) (.tmp 18) (W1.heap.size) b (by kernel_rfl) (by kernel_rfl) ?hx ?hy c01 ?hc (setCells_far (by omega) _ _ _ hHeld) ?_
          case hx => rfl
          case hy => rfl
          case hc => rfl
          have hHeld := setCells_far (show w.heap.size + 1 ≠ W1.heap.size by omega) (prow b).toList 0 _ hHeld
          have c10 := setCells_far (show W2.heap.size ≠ W1.heap.size by omega) (prow b).toList 0 _ c00
          have c11 := setCells_all c01 (prow b).toList (Eq.trans (show Array.size _ = 11 from rfl) (prow_size b).symm)
          have c12 := setCells_far (show w2.drew.heap.size ≠ W1.heap.size by omega) (prow b).toList 0 _ c02
          have on5 := setCells_on (show w2.heap.size ≤ W1.heap.size by omega) (prow b).toList 0 _ _ on4
          refine storeStep 11 (.tmp 7) (.tmp 20) (w2.drew.heap.size) d (by kernel_rfl) (by kernel_rfl) ?hx ?hy c12 ?hc (setCells_far (by omega) _ _ _ hHeld) ?_
          case hx => rfl
          case hy => rfl
          case hc => rfl
          have hHeld := setCells_far (show w.heap.size + 1 ≠ w2.drew.heap.size by omega) (prow d).toList 0 _ hHeld
          have c20 := setCells_far (show W2.heap.size ≠ w2.drew.heap.size by omega) (prow d).toList 0 _ c10
          have c21 := setCells_far (show W1.heap.size ≠ w2.drew.heap.size by omega) (prow d).toList 0 _ c11
          have c22 := setCells_all c12 (prow d).toList (Eq.trans (show Array.size _ = 11 from rfl) (prow_size d).symm)
          have on6 := setCells_on (show w2.heap.size ≤ w2.drew.heap.size by omega) (prow d).toList 0 _ _ on5
          exact wpAnyH_done (by kernel_rfl) ⟨rfl, _, _, _, rfl, c20, c21, c22, on6⟩ _
        exact AllReadyH.nil
      exact AllReadyH.nil
    exact AllReadyH.nil
end Go.Proofs.Ytbfpljnfalopdaa.OrdW
