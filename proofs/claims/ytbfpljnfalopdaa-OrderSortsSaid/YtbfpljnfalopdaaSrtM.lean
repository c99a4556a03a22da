/-
  Merged texts: SrtOrd, SrtSmall, SrtSort, OrdAwake.
-/
import Derived.Test.YtbfpljnfalopdaaSrtIns
import Derived.Test.YtbfpljnfalopdaaOrdCall
import Derived.Test.YtbfpljnfalopdaaOrdOpen
import Derived.Test.YtbfpljnfalopdaaSrtN
import Derived.Laws.EntriesVeiled
/-
  The row of waiting gangs that is sorted: its clone, and the function that compares.
-/
set_option linter.unusedVariables false
set_option linter.unusedSimpArgs false
namespace Go.Proofs.Ytbfpljnfalopdaa.Srt
open Go Go.RowKit Go.Sort Go.Proofs.Ytbfpljnfalopdaa.L Go.Proofs.Ytbfpljnfalopdaa.CfgW Go.Proofs.Ytbfpljnfalopdaa.OrdW

/-- A waiting gang whose numbers are of 64 bits. -/
abbrev PO : Type := { p : Ord.P // POk p }
instance : Inhabited PO := ⟨⟨⟨0, 0, 0, ⟨0, 0, 0⟩, 0, 0, 0, 0, 0⟩, by unfold POk InI; decide⟩⟩
def encP (x : PO) : List Value := (prow x.1).toList
theorem encP_len (x : PO) : (encP x).length = 11 := rfl
theorem encP_one (x : PO) : ∀ v ∈ encP x, v.oneCell' = true := by
  intro v hv
  simp only [encP, prow, List.mem_cons, List.not_mem_nil, or_false] at hv
  rcases hv with rfl | rfl | rfl | rfl | rfl | rfl | rfl | rfl | rfl | rfl | rfl <;> rfl
theorem pk : PK Try.prog 11 where
  mixed := by kernel_rfl
  t3 := Try.underlying3
  a3 := Try.isAgg3
  z3 := Try.sizeOf3
  v3 := Try.zeroValue3
  t4 := Try.underlying4
  a4 := Try.isAgg4
  z4 := Try.sizeOf4
  v4 := Try.zeroValue4
  t49 := Try.underlying49
  a49 := Try.isAgg49
  z49 := Try.sizeOf49
  v49 := Try.zeroValue49
  tu := Try.underlying110
  au := Try.isAgg110
  zu := Try.sizeOf110
  aE := Try.isAgg57
  zE := Try.sizeOf57

theorem lift_row : ∀ ps : List Ord.P, (∀ p ∈ ps, POk p) → ∃ qs : List PO, qs.map (·.1) = ps
  | [], _ => ⟨[], rfl⟩
  | p :: ps, h => by
    obtain ⟨qs, hq⟩ := lift_row ps (fun x hx => h x (List.mem_cons_of_mem _ hx))
    exact ⟨⟨p, h p (List.mem_cons_self ..)⟩ :: qs, by simp [hq]⟩
theorem flat_cells {w : World} {b o : Nat} {qs : List PO} (h : RowOf w (some ⟨b, o, none⟩) 11 (fun p => (prow p).toList) (qs.map (·.1))) :
    ∀ j u, (flatK encP 11 qs.toArray).toList[j]? = some u → w.cell? ⟨b, o + j, none⟩ = some u := by
  intro j u hu
  have hj : j < qs.length * 11 := by
    have := (List.getElem?_eq_some_iff.1 hu).1
    simpa using this
  have hne : qs.map (·.1) ≠ [] := fun e => by rw [List.map_eq_nil_iff.1 e] at hj; exact absurd hj (by simp)
  obtain ⟨b', o', e, hlt, hc⟩ := h hne
  cases e
  have hq : j / 11 < qs.length := by omega
  have hx : (qs.map (·.1))[j / 11]? = some (qs[j / 11]).1 := by simp [hq]
  have hu' : u = (encP qs[j / 11])[j % 11]! := by
    have := get_flatK encP 11 qs.toArray j (by simpa using hj)
    rw [Array.getElem?_toList] at hu
    rw [getElem!_pos _ j (by simpa using hj)] at this
    rw [Array.getElem?_eq_getElem (by simpa using hj)] at hu
    injection hu with hu
    rw [← hu, this]
    simp [hq]
  have hm : (encP qs[j / 11])[j % 11]? = some u := by
    rw [hu', List.getElem?_eq_getElem (by rw [encP_len]; omega), getElem!_pos _ _ (by rw [encP_len]; omega)]
  have := hc (j / 11) _ hx (j % 11) u hm
  rw [show o + j / 11 * 11 + j % 11 = o + j by omega] at this
  exact this
theorem holds_own {w : World} {g n cap : Nat} {e : TypeId} {cur : Array Value} {d : Array PO} (h : w.heap[g]? = some (.cells cur e (0, 0))) (ht : cur.toList.take (d.size * 11) = (flatK encP 11 d).toList) (hc : d.size * 11 ≤ cur.size) : HoldsK encP 11 w g 0 d := fun j hj => by
  have hj' : j < d.size * 11 := by simpa using hj
  have hb : Blk w g e cur := h
  have e1 : cur[j]? = some (flatK encP 11 d)[j]! := by
    rw [getElem!_pos _ j hj]
    have : (flatK encP 11 d).toList[j]? = some (flatK encP 11 d)[j] := by rw [Array.getElem?_toList, Array.getElem?_eq_getElem hj]
    rw [← ht, List.getElem?_take, if_pos hj', Array.getElem?_toList] at this
    exact this
  exact ⟨by rw [Nat.zero_add, hb.cell, e1]; rfl, by rw [Nat.zero_add]; exact hb.frozen j⟩

theorem pinfo : (Try.prog.info? 57).map (fun i => (i.zero, i.size, i.bytes)) = some (some (.agg #[.int .i64 0, .int .i64 0, .int .i64 0, .int .i64 0, .int .i64 0, .int .i64 0, .int .i64 0, .int .i64 0, .int .i64 0, .int .i64 0, .int .i64 0]), 11, 88) := by kernel_rfl

set_option maxRecDepth 100000 in
set_option maxHeartbeats 4000000 in
theorem clone_any {w : World} (a : Addr) (n c : Nat) (news : List Value) (hl : news.length = n * 11) (hn : n ≤ 1048576) (hc : ∀ j u, news[j]? = some u → w.cell? (a.add j) = some u) (h1 : ∀ u ∈ news, u.oneCell' = true) :
    Calls Try.prog 50 #[.slice (some a) n c] w fun e w' => ∃ v', e = .returned v' ∧ w'.ownsRow w.heap.size 57 11 v' n news ∧ v' ≠ .slice none 0 0 ∧ Below w.heap.size w w' := by
  obtain ⟨i0, hi, hz0, hz1, hz2⟩ := info_parts pinfo
  have q22 : ∀ (w : World) (a : Option Addr) (n c n' c' : Nat), (binOp .eql 49 (.slice a n c) (.slice none n' c')).run Try.prog w = .ok (.bool a.isNone) w := fun w a n c n' c' => Lib.run_eql_slice_nil w _ _ a n c n' c' Try.underlying49
  have A := Lib.hid hc
  clear hc
  go_enter Try.func50, Try.ntmps50
  go_wp2_with (at_builtin; refine wpList_append_own _ rfl _ _ 49 rfl w.heap.size 57 i0 _ 11 88 Try.underlying49 hi hz0 hz1 hz2 rfl (by omega) _ _ _ rfl (World.ownsRow_made w #[] 0 (Nat.le_refl _) (Nat.zero_le _) (by simp)) a n c news rfl ?qc1 ?qc2 ?qc3 ?qc4 ?qc5 ?qc6 ?_)
  case qc1 => exact hl
  case qc2 =>
    intro j u hj
    exact Lib.cell?_alloc_some _ (A.out j u hj)
  case qc3 => exact h1
  case qc4 => rw [Nat.zero_add]; unfold maxLen; omega
  case qc5 => omega
  case qc6 => simp
  intro v' w1 hown hgrow hnil
  go_wp2
  go_ret
  refine ⟨v', rfl, by simpa using hown, ?_, ?_⟩
  · exact hnil
  · exact ((Below.refl _ w).alloc (Nat.le_refl _) _).grown hgrow (by simp) (by intro k hk; simp [Value.ownBlock] at hk; omega)
set_option maxHeartbeats 1000000 in
theorem clone_nil (n c : Nat) (w : World) : Calls Try.prog 50 #[.slice none n c] w fun e w' => e = .returned (.slice none 0 0) ∧ w' = w := by
  have q22 : ∀ (w : World) (a : Option Addr) (n c n' c' : Nat), (binOp .eql 49 (.slice a n c) (.slice none n' c')).run Try.prog w = .ok (.bool a.isNone) w := fun w a n c n' c' => Lib.run_eql_slice_nil w _ _ a n c n' c' Try.underlying49
  go_enter Try.func50, Try.ntmps50
  go_wp2
  go_ret
  exact ⟨rfl, rfl⟩

set_option maxRecDepth 100000 in
set_option maxHeartbeats 4000000 in
theorem less_any {w0 w : World} {v1 v2 vp vr vh : Value} {now next : Int} {c : Cfg.C} {h : List Nat} (hs : StAt w0 v1 v2 vh c h) (hne : c.nodes ≠ []) (hn : NumOk c now) {sb fb blk : Nat} (hb0 : Below w0.heap.size w0 w) (hx : SBox w sb v1 v2 c.half c.age now next vp vr vh)
    (hf : w.cell? ⟨fb, 0, none⟩ = some (.func (.func 47) #[] #[])) (hfl : fb < w.heap.size) (h0 : w0.heap.size ≤ blk) (h1 : blk ≠ fb) (h2 : blk ≠ sb) :
    CmpIn Try.prog 52 #[.pointer (some ⟨fb, 0, none⟩), .pointer (some ⟨sb, 0, none⟩)] encP (fun x y => Ord.cmp c h now x.1 y.1) blk w := by
  intro W hW x y
  have hsW : StAt W v1 v2 vh c h := hs.below (hb0.trans (hW.below hb0.size (fun i hi => by subst hi; exact h0)))
  have hxW : SBox W sb v1 v2 c.half c.age now next vp vr vh := ⟨Nat.lt_of_lt_of_le hx.lt hW.size, (hW.cell (p := ⟨sb, 0, none⟩) hx.lt (by show ¬ sb = blk; omega)).trans hx.c0, (hW.cell (p := ⟨sb, 1, none⟩) hx.lt (by show ¬ sb = blk; omega)).trans hx.c1, (hW.cell (p := ⟨sb, 2, none⟩) hx.lt (by show ¬ sb = blk; omega)).trans hx.c2,
    (hW.cell (p := ⟨sb, 3, none⟩) hx.lt (by show ¬ sb = blk; omega)).trans hx.c3, (hW.cell (p := ⟨sb, 4, none⟩) hx.lt (by show ¬ sb = blk; omega)).trans hx.c4, (hW.cell (p := ⟨sb, 5, none⟩) hx.lt (by show ¬ sb = blk; omega)).trans hx.c5, (hW.cell (p := ⟨sb, 6, none⟩) hx.lt (by show ¬ sb = blk; omega)).trans hx.c6,
    (hW.cell (p := ⟨sb, 7, none⟩) hx.lt (by show ¬ sb = blk; omega)).trans hx.c7, (hW.cell (p := ⟨sb, 8, none⟩) hx.lt (by show ¬ sb = blk; omega)).trans hx.c8⟩
  have hfW : W.cell? ⟨fb, 0, none⟩ = some (.func (.func 47) #[] #[]) := (hW.cell (p := ⟨fb, 0, none⟩) hfl (by show ¬ fb = blk; omega)).trans hf
  have hfl' : fb < W.heap.size := Nat.lt_of_lt_of_le hfl hW.size
  clear hW hs hx hf hfl hb0 h0 h1 h2
  obtain ⟨a, ha⟩ := x
  obtain ⟨b, hb⟩ := y
  obtain ⟨W2, hW2⟩ : ∃ W2, (W.alloc (.cells (prow a) 57)).alloc (.cells (prow b) 57) = W2 := ⟨_, rfl⟩
  have hz2 : W2.heap.size = W.heap.size + 1 + 1 := by rw [← hW2]; simp
  have hbw2 : Below W.heap.size W W2 := by
    rw [← hW2]
    have hz : (W.alloc (.cells (prow a) 57)).heap.size = W.heap.size + 1 := by simp
    (repeat' (first | (with_reducible exact Below.refl _ _) | (with_reducible assumption) | (with_reducible refine Below.alloc ?_ ?_ _) | (with_reducible refine Go.Proofs.Ytbfpljnfalopdaa.L.below_drewN ?_ _) | (with_reducible refine Below.drew ?_) | (with_reducible refine Below.setCell ?_ ?_ _) | (with_reducible refine Below.frame ?_ _) | go_size))
  have hb4 : Below W.heap.size W (W2.alloc (.cells #[v1, v2, .int .i64 c.half, .int .i64 c.age, .int .i64 now, .int .i64 next, vp, vr, vh] 87)) := hbw2.alloc (by omega) _
  have hxr := SBox.new W2 87 v1 v2 c.half c.age now next vp vr vh
  have G := Lib.hid (compare_any (hsW.below hb4) hne hn hxr a b ha.1 hb.1 _ (keeps_refl _))
  have HB := Lib.hid hb4
  rw [hz2] at G
  show Calls _ _ #[.agg (prow a), .agg (prow b), .pointer (some ⟨fb, 0, none⟩), .pointer (some ⟨sb, 0, none⟩)] _ fun e w' => e = .returned (.int .i64 (Ord.cmp c h now a b)) ∧ Onward W w'
  obtain ⟨r, hr⟩ : ∃ r, Ord.cmp c h now a b = r := ⟨_, rfl⟩
  rw [hr] at G ⊢
  obtain ⟨half, hhalf⟩ : ∃ z, c.half = z := ⟨_, rfl⟩
  obtain ⟨age, hage⟩ : ∃ z, c.age = z := ⟨_, rfl⟩
  rw [hhalf, hage] at G HB hxW
  obtain ⟨y0, y1, y2, y3, y4, y5, y6, y7, y8, y9⟩ := hxW
  subst hW2
  clear hsW hn ha hb hhalf hage hr hxr hb4 hbw2 hz2
  obtain ⟨a0, a1, a2, ⟨a3, a4, a5⟩, a6, a7, a8, a9, a10⟩ := a
  obtain ⟨b0, b1, b2, ⟨b3, b4, b5⟩, b6, b7, b8, b9, b10⟩ := b
  simp only [encP, prow] at *
  go_enter Try.func52, Try.ntmps52
  go_wp2_with fail
  refine (G.out).mono ?_
  rintro e w5 ⟨rfl, hb5⟩
  have HF := Lib.hid (keeps_trans HB.out hb5)
  clear hb5 G HB
  go_wp2_with fail
  go_ret
  exact ⟨rfl, HF.out⟩
end Go.Proofs.Ytbfpljnfalopdaa.Srt
/-
  Waiting gangs put in order by slices.SortStableFunc.
-/
set_option linter.unusedVariables false
set_option linter.unusedSimpArgs false
namespace Go.Proofs.Ytbfpljnfalopdaa.Srt
open Go Go.RowKit Go.Sort Go.Proofs.Ytbfpljnfalopdaa.L Go.Proofs.Ytbfpljnfalopdaa.CfgW Go.Proofs.Ytbfpljnfalopdaa.OrdW

theorem fk : FK Try.prog where
  f98 := Try.func98
  f95 := Try.func95
  f85 := Try.func85
  f84 := Try.func84
  f72 := Try.func72
  e98 := fun args w => by simp [go_sem]
  e95 := fun args w => by simp [go_sem]
  e85 := fun args w => by simp [go_sem]
  e84 := fun args w => by simp [go_sem]

set_option maxRecDepth 100000 in
set_option maxHeartbeats 4000000 in
theorem stable_small (cf : PO → PO → Int) (hf : Ord.IsCmp cf) (g : Nat) (cb : Array Value) (blk cap : Nat) (d : Array PO) (w : World) (eg : ∀ args w, (callFunc g args).run Try.prog w = .ok (.enter g args) w) (hcmp : CmpIn Try.prog g cb encP cf blk w) (hH : HoldsK encP 11 w blk 0 d) (hblk : blk < w.heap.size) (h20 : d.size < 1000000) :
    Calls Try.prog 51 #[.slice (some ⟨blk, 0, none⟩) d.size cap, .func (.func g) #[] cb] w fun e w' => e = .returned (.tuple #[]) ∧ Sit encP 11 w blk 0 (Sort.insertionSort (ltOf cf) d 0 d.size) w' := by
  have G := Lib.hid (stablecmp_any pk fk encP encP_len encP_one cf hf g cb blk 0 cap d.size d w eg hcmp (Sit.start hH hblk) rfl (by omega))
  clear hcmp hH
  generalize Sort.insertionSort (ltOf cf) d 0 d.size = d' at *
  generalize d.size = n at *
  clear h20 hblk
  go_enter Try.func51, Try.ntmps51
  go_wp2_with fail
  refine (G.out).mono ?_
  rintro e w5 ⟨rfl, hs⟩
  have HS := Lib.hid hs
  clear hs G
  go_wp2_with fail
  go_end0
  exact ⟨rfl, HS.out⟩
set_option maxHeartbeats 4000000 in
theorem ins_none (g : Nat) (cb : Array Value) (w : World) : Calls Try.prog 84 #[.slice none 0 0, .int .i64 0, .int .i64 0, .func (.func g) #[] cb] w fun e w' => e = .returned (.tuple #[]) ∧ w' = w := by
  go_enter Try.func84, Try.ntmps84
  go_wp2_with fail
  refine wp_loop_rounds 1 ?_
  rw [rounds_succ]
  go_wp2_with fail
  go_end0
  exact ⟨rfl, rfl⟩
set_option maxHeartbeats 4000000 in
theorem stable_none (g : Nat) (cb : Array Value) (w : World) : Calls Try.prog 51 #[.slice none 0 0, .func (.func g) #[] cb] w fun e w' => e = .returned (.tuple #[]) ∧ w' = w := by
  have G := Lib.hid (ins_none g cb w)
  go_enter Try.func51, Try.ntmps51
  go_wp2_with fail
  go_enter Try.func72, Try.ntmps72
  go_wp2_with fail
  refine wp_loop_rounds 1 ?_
  rw [rounds_succ]
  go_wp2_with fail
  refine (G.out).mono ?_
  rintro e w5 ⟨rfl, rfl⟩
  clear G
  go_wp2_with fail
  refine wp_loop_rounds 1 ?_
  rw [rounds_succ]
  go_wp2_with fail
  go_end0
  exact ⟨rfl, rfl⟩
end Go.Proofs.Ytbfpljnfalopdaa.Srt
/-
  All that wait, in order: order.Sort.
-/
set_option linter.unusedVariables false
set_option linter.unusedSimpArgs false
namespace Go.Proofs.Ytbfpljnfalopdaa.Srt
open Go Go.RowKit Go.Sort Go.Proofs.Ytbfpljnfalopdaa.L Go.Proofs.Ytbfpljnfalopdaa.CfgW Go.Proofs.Ytbfpljnfalopdaa.OrdW

def cmpP (c : Cfg.C) (h : List Nat) (now : Int) (x y : PO) : Int := Ord.cmp c h now x.1 y.1
def sorted (c : Cfg.C) (h : List Nat) (now : Int) (qs : List PO) : Array PO := Sort.insertionSort (ltOf (cmpP c h now)) qs.toArray 0 qs.length
/-- The row that Sort gives. -/
def SortOut (w w' : World) (qs : List PO) (d : Array PO) (v : Value) : Prop :=
  (qs = [] ∧ v = .slice none 0 0) ∨ ∃ g cap, v = .slice (some ⟨g, 0, none⟩) qs.length cap ∧ HoldsK encP 11 w' g 0 d ∧ w.heap.size ≤ g ∧ g < w'.heap.size

theorem keeps_trans' {w w1 w2 : World} {g : Nat} (h : Below w.heap.size w w1) (k : Kept (fun i => i = g) w1 w2) {m : Nat} (hg : m ≤ g) (hz : m = w.heap.size + 1) : Below w.heap.size w w2 :=
  h.trans (k.below h.size (fun i hi => by subst hi; omega))
set_option maxRecDepth 100000 in
set_option maxHeartbeats 4000000 in
theorem sort_any {w : World} {v1 v2 vp vr vh : Value} {now next : Int} {c : Cfg.C} {h : List Nat} (hs : StAt w v1 v2 vh c h) (hne : c.nodes ≠ []) (hn : NumOk c now) {qs : List PO} (hp : PSl w vp (qs.map (·.1))) (h20 : qs.length < 1000000) :
    Calls Try.prog 31 #[.agg #[v1, v2, .int .i64 c.half, .int .i64 c.age, .int .i64 now, .int .i64 next, vp, vr, vh]] w fun e w' => ∃ v, e = .returned v ∧ SortOut w w' qs (sorted c h now qs) v ∧ Below w.heap.size w w' := by
  obtain ⟨A, cap, rfl, _, _, hrow, _⟩ := hp
  have hx := SBox.new w 53 v1 v2 c.half c.age now next (.slice A (qs.map (·.1)).length cap) vr vh
  have hb1 : Below w.heap.size w (w.alloc (.cells #[v1, v2, .int .i64 c.half, .int .i64 c.age, .int .i64 now, .int .i64 next, .slice A (qs.map (·.1)).length cap, vr, vh] 53)) := (Below.refl _ _).alloc (Nat.le_refl _) _
  have hrow1 := hrow.below hb1
  rw [List.length_map] at hx hb1 hrow1 ⊢
  obtain ⟨half, hhalf⟩ : ∃ z, c.half = z := ⟨_, rfl⟩
  obtain ⟨age, hage⟩ : ∃ z, c.age = z := ⟨_, rfl⟩
  obtain ⟨n, hqn⟩ : ∃ n, qs.length = n := ⟨_, rfl⟩
  rw [hhalf, hage, hqn] at hx hb1 hrow1 ⊢
  have HH := Lib.hid (And.intro hhalf (And.intro hage hqn))
  generalize hwq : w.alloc (.cells #[v1, v2, .int .i64 half, .int .i64 age, .int .i64 now, .int .i64 next, .slice A n cap, vr, vh] 53) = wq at hx hb1 hrow1
  have HQ := Lib.hid hwq
  have HS := Lib.hid (And.intro hs (And.intro hne hn))
  have HR := Lib.hid hrow1
  have HX := Lib.hid (And.intro hx hb1)
  have HZ := Lib.hid (show wq.heap.size = w.heap.size + 1 by rw [← hwq]; simp)
  obtain ⟨y0, y1, y2, y3, y4, y5, y6, y7, y8, y9⟩ := hx
  clear hs hne hn hrow hrow1 hb1 hqn hhalf hage hwq
  have HQN := Lib.hid (show n < 1000000 by have := HH.out.2.2; omega)
  cases A with
  | none =>
    have HE := Lib.hid (show qs = [] by
      rcases qs with _ | ⟨q, qs⟩
      · rfl
      · obtain ⟨b, o, e, _⟩ := HR.out (by simp)
        cases e)
    have G := Lib.hid (clone_nil n cap wq)
    go_enter Try.func31, Try.ntmps31
    go_wp2_with fail
    rw [HQ.out]
    refine (G.out).mono ?_
    rintro e w2 ⟨rfl, rfl⟩
    clear G
    go_wp2_with fail
    refine (stable_none _ _ _).mono ?_
    rintro e w3 ⟨rfl, rfl⟩
    go_wp2_with fail
    go_ret
    exact ⟨_, rfl, .inl ⟨HE.out, rfl⟩, HX.out.2.alloc (by have := HZ.out; omega) _⟩
  | some a =>
    have hnl : (flatK encP 11 qs.toArray).toList.length = n * 11 := by
      have := HH.out.2.2
      simp [this]
    have hcl : ∀ j u, (flatK encP 11 qs.toArray).toList[j]? = some u → wq.cell? (a.add j) = some u := fun j u hu => by
      have hne : qs.map (·.1) ≠ [] := fun e => by
        have e := List.map_eq_nil_iff.1 e
        subst e
        simp [flatK] at hu
      obtain ⟨b, o, e, _⟩ := HR.out hne
      cases e
      rw [Addr.add_lit]
      exact flat_cells HR.out j u hu
    have h1 : ∀ u ∈ (flatK encP 11 qs.toArray).toList, u.oneCell' = true := fun u hu => by
      obtain ⟨j, hj, rfl⟩ := List.getElem_of_mem hu
      have hj' : j < qs.length * 11 := by simpa using hj
      have := get_flatK encP 11 qs.toArray j (by simpa using hj')
      rw [Array.getElem_toList, ← getElem!_pos (flatK encP 11 qs.toArray) j (by simpa using hj'), this, getElem!_pos (encP _) (j % 11) (by rw [encP_len]; omega)]
      exact encP_one _ _ (List.getElem_mem _)
    have G := Lib.hid (clone_any (w := wq) a n cap _ hnl (by have := HQN.out; omega) hcl h1)
    clear hnl hcl h1
    go_enter Try.func31, Try.ntmps31
    go_wp2_with fail
    rw [HQ.out]
    refine (G.out).mono ?_
    rintro e w2 ⟨v', rfl, hown, hnn, hb2⟩
    clear G y1 y2 y3 y4 y5 y6 y7 y8 y9
    obtain ⟨_, ⟨e, _⟩ | ⟨g, cap', cur, rfl, hg, hcur, hnc, hcm, hcs, htk⟩⟩ := hown
    · exact absurd e hnn
    have hgl : g < w2.heap.size := by
      rcases Nat.lt_or_ge g w2.heap.size with hlt | hge
      · exact hlt
      · rw [Array.getElem?_eq_none hge] at hcur; cases hcur
    have hz := HZ.out
    have hqn := HH.out.2.2
    have hH2 : HoldsK encP 11 w2 g 0 qs.toArray := holds_own (n := n) (cap := cap') hcur (by rw [List.size_toArray, hqn]; exact htk) (by rw [List.size_toArray, hqn, hcs]; exact Nat.mul_le_mul_right 11 hnc)
    have hb3 : Below w2.heap.size w2 (w2.alloc (.cells #[.func (.func 47) #[] #[]] 83)) := (Below.refl _ _).alloc (Nat.le_refl _) _
    have hbw : Below w.heap.size w (w2.alloc (.cells #[.func (.func 47) #[] #[]] 83)) := keeps_trans (keeps_trans HX.out.2 hb2) hb3
    have hH3 := holdsK_below hH2 hgl hb3
    have hx3 := (HX.out.1.below hb2).below hb3
    have hf3 : (w2.alloc (.cells #[.func (.func 47) #[] #[]] 83)).cell? ⟨w2.heap.size, 0, none⟩ = some (.func (.func 47) #[] #[]) := by simp [go_sem]
    rw [← HH.out.1, ← HH.out.2.1] at hx3
    have hcmp := less_any HS.out.1 HS.out.2.1 HS.out.2.2 hbw hx3 hf3 (by simp) (by omega) (show g ≠ w2.heap.size by omega) (by omega)
    have G := Lib.hid (stable_small (cmpP c h now) ((Ord.cmp_cmp c h now).pull (fun x : PO => x.1)) _ _ g cap' qs.toArray _ (fun args w => by simp [go_sem]) hcmp hH3 (by simp; omega) (by rw [List.size_toArray, hqn]; exact HQN.out))
    rw [List.size_toArray] at G
    have HF := Lib.hid hbw
    have HG := Lib.hid (And.intro hg hgl)
    have HE := Lib.hid (show Sort.insertionSort (ltOf (cmpP c h now)) qs.toArray 0 qs.length = sorted c h now qs from rfl)
    rw [HE.out, hqn] at G
    clear hz hqn hH2 hb3 hbw hH3 hx3 hf3 hcmp hg hgl hcur hnc hcm hcs htk hnn hb2 HE
    go_wp2_with fail
    refine (G.out).mono ?_
    rintro e w3 ⟨rfl, hs3⟩
    have HS3 := Lib.hid hs3
    clear hs3 G
    go_wp2_with fail
    go_ret
    have hg := HG.out
    have hz := HZ.out
    have hk := HS3.out.kept
    exact ⟨_, rfl, .inr ⟨g, cap', by rw [HH.out.2.2]; rfl, HS3.out.holds, by omega, HS3.out.lt⟩, keeps_trans' HF.out hk hg.1 hz⟩
end Go.Proofs.Ytbfpljnfalopdaa.Srt
/-
  Chapter 15's example.
-/
set_option linter.unusedVariables false
set_option linter.unusedSimpArgs false
namespace Go.Proofs.Ytbfpljnfalopdaa.Srt
open Go Go.RowKit Go.Sort Go.Proofs.Ytbfpljnfalopdaa.L Go.Proofs.Ytbfpljnfalopdaa.CfgW Go.Proofs.Ytbfpljnfalopdaa.OrdW

theorem flat_in {α : Type} {dec : α → List Value} {sz : Nat} (hsz : ∀ x, (dec x).length = sz) : ∀ (xs : List α) (i : Nat) (x : α) (j : Nat) (v : Value), xs[i]? = some x → (dec x)[j]? = some v → (xs.flatMap dec)[i * sz + j]? = some v
  | [], i, x, j, v, h, _ => by simp at h
  | y :: xs, 0, x, j, v, h, hv => by
    simp at h
    subst h
    have hj : j < (dec y).length := by
      rcases Nat.lt_or_ge j (dec y).length with h | h
      · exact h
      · rw [List.getElem?_eq_none h] at hv; cases hv
    rw [List.flatMap_cons, Nat.zero_mul, Nat.zero_add, List.getElem?_append_left hj]
    exact hv
  | y :: xs, i + 1, x, j, v, h, hv => by
    rw [List.flatMap_cons, List.getElem?_append_right (by rw [hsz, Nat.add_mul]; omega), hsz]
    have e : (i + 1) * sz + j - sz = i * sz + j := by rw [Nat.add_mul]; omega
    rw [e]
    exact flat_in hsz xs i x j v (by simpa using h) hv
theorem row_in {α : Type} {w : World} {b : Nat} {t : TypeId} {dec : α → List Value} {sz : Nat} (hsz : ∀ x, (dec x).length = sz) {xs : List α} {cs : Array Value} (h : Blk w b t cs) (hc : cs = (xs.flatMap dec).toArray) : RowOf w (some ⟨b, 0, none⟩) sz dec xs := fun _ =>
  ⟨b, 0, rfl, Blk.lt h, fun i x hx j v hv => by
    rw [Nat.zero_add]
    refine (Blk.cell h _).trans ?_
    rw [hc, List.getElem?_toArray]
    exact flat_in hsz xs i x j v hx hv⟩

def cW : Cfg.C := ⟨[⟨-1, 1, ⟨0, 0, 0⟩, ⟨0, 0, 0⟩, ⟨0, 0, 0⟩⟩, ⟨0, 1, ⟨0, 0, 0⟩, ⟨0, 0, 0⟩, ⟨0, 0, 0⟩⟩, ⟨0, 1, ⟨0, 0, 0⟩, ⟨0, 0, 0⟩, ⟨0, 0, 0⟩⟩], [⟨0, 0, 0, ⟨0, 0, 0⟩⟩], 1, 5⟩
def hW : List Nat := [0, 1, 2]
def pW (t seq at_ : Int) : Ord.P := ⟨seq, t, 0, ⟨0, 0, 0⟩, 0, 0, 0, seq, at_⟩
def qW1 : PO := ⟨pW 2 1 9, by unfold POk InI pW; decide⟩
def qW2 : PO := ⟨pW 1 2 9, by unfold POk InI pW; decide⟩
def qW3 : PO := ⟨pW 1 3 9, by unfold POk InI pW; decide⟩
def qW4 : PO := ⟨pW 2 4 5, by unfold POk InI pW; decide⟩
theorem cmpW : cmpP cW hW 10 qW2 qW1 = -1 ∧ cmpP cW hW 10 qW3 qW1 = -1 ∧ cmpP cW hW 10 qW3 qW2 = 1 ∧ cmpP cW hW 10 qW4 qW1 = -1 ∧ cmpP cW hW 10 qW4 qW3 = -1 ∧ cmpP cW hW 10 qW4 qW2 = -1 := by
  refine ⟨?_, ?_, ?_, ?_, ?_, ?_⟩ <;> decide +kernel
theorem sortedW : sorted cW hW 10 [qW1, qW2, qW3, qW4] = #[qW4, qW2, qW3, qW1] := by
  obtain ⟨e21, e31, e32, e41, e43, e42⟩ := cmpW
  have l21 : ltOf (cmpP cW hW 10) qW2 qW1 = true := by unfold ltOf; rw [e21]; rfl
  have l31 : ltOf (cmpP cW hW 10) qW3 qW1 = true := by unfold ltOf; rw [e31]; rfl
  have l32 : ltOf (cmpP cW hW 10) qW3 qW2 = false := by unfold ltOf; rw [e32]; rfl
  have l41 : ltOf (cmpP cW hW 10) qW4 qW1 = true := by unfold ltOf; rw [e41]; rfl
  have l43 : ltOf (cmpP cW hW 10) qW4 qW3 = true := by unfold ltOf; rw [e43]; rfl
  have l42 : ltOf (cmpP cW hW 10) qW4 qW2 = true := by unfold ltOf; rw [e42]; rfl
  unfold sorted Sort.insertionSort
  generalize ltOf (cmpP cW hW 10) = lt at *
  generalize qW1 = q1 at *
  generalize qW2 = q2 at *
  generalize qW3 = q3 at *
  generalize qW4 = q4 at *
  simp only [List.length_cons, List.length_nil]
  rw [insOuter, if_pos (by decide), insOuter, if_pos (by decide), insOuter, if_pos (by decide), insOuter, if_neg (by decide)]
  have s1 : insInner lt 0 1 #[q1, q2, q3, q4] = #[q2, q1, q3, q4] := by simp [insInner, swp, l21]
  have s2 : insInner lt 0 2 #[q2, q1, q3, q4] = #[q2, q3, q1, q4] := by simp [insInner, swp, l31, l32]
  have s3 : insInner lt 0 3 #[q2, q3, q1, q4] = #[q4, q2, q3, q1] := by simp [insInner, swp, l41, l43, l42]
  show insInner lt 0 3 (insInner lt 0 2 (insInner lt 0 1 #[q1, q2, q3, q4])) = _
  rw [s1, s2, s3]
set_option maxHeartbeats 1000000 in
theorem gang_any (t s a : Int) : Gives Try.prog 46 #[.int .i64 t, .int .i64 s, .int .i64 a] (.agg (prow (pW t s a))) := by
  intro w
  go_enter Try.func46, Try.ntmps46
  go_wp2_with fail
  refine bodyPost_ret (v := .agg (prow (pW t s a))) (by simp [results, Try.results46, go_sem, prow, pW]) rfl ?_
  exact ⟨rfl, (Below.refl _ _).alloc (Nat.le_refl _) _⟩

/-- The example's state, Pending being v. -/
def sW (w : World) (v : Value) : Array Value := #[.slice (some ⟨w.heap.size, 0, none⟩) 3 3, .slice (some ⟨w.heap.size + 1, 0, none⟩) 1 1, .int .i64 1, .int .i64 5, .int .i64 10, .int .i64 0, v, .slice none 0 0, .slice (some ⟨w.heap.size + 1 + 1, 0, none⟩) 3 3]
theorem stW (w : World) : StAt (((w.alloc (.cells (cW.nodes.flatMap ndec).toArray 42)).alloc (.cells (cW.hosts.flatMap hdec).toArray 80)).alloc (.cells (hW.flatMap fdec).toArray 81))
    (.slice (some ⟨w.heap.size, 0, none⟩) 3 3) (.slice (some ⟨w.heap.size + 1, 0, none⟩) 1 1) (.slice (some ⟨w.heap.size + 1 + 1, 0, none⟩) 3 3) cW hW := by
  refine ⟨⟨_, _, rfl, ⟨_, 3, rfl, row_in (dec := ndec) (sz := 11) (t := 42) (fun _ => rfl) ?_ rfl, by decide⟩, ⟨_, 1, rfl, row_in (dec := hdec) (sz := 6) (t := 80) (fun _ => rfl) ?_ rfl, by decide⟩⟩, by decide, ?_, ⟨_, 3, rfl, row_in (dec := fdec) (sz := 1) (t := 81) (fun _ => rfl) ?_ rfl, by decide, ?_⟩⟩
  · exact Blk.alloc (Blk.alloc (Blk.new w 42 _) _) _
  · have h := Blk.new (w.alloc (.cells (cW.nodes.flatMap ndec).toArray 42)) 80 (cW.hosts.flatMap hdec).toArray
    simp only [World.size_alloc] at h
    exact Blk.alloc h _
  · intro x hx
    simp only [cW, List.mem_cons, List.not_mem_nil, or_false] at hx
    unfold InI
    rcases hx with rfl | rfl | rfl <;> decide
  · have h := Blk.new ((w.alloc (.cells (cW.nodes.flatMap ndec).toArray 42)).alloc (.cells (cW.hosts.flatMap hdec).toArray 80)) 81 (hW.flatMap fdec).toArray
    simp only [World.size_alloc] at h
    exact h
  · intro k hk
    simp only [hW, List.mem_cons, List.not_mem_nil, or_false] at hk
    unfold Fix.top
    omega

theorem sboxW {w W : World} {b : Nat} {v : Value} (h : Blk W b 53 (sW w v)) : SBox W b (.slice (some ⟨w.heap.size, 0, none⟩) 3 3) (.slice (some ⟨w.heap.size + 1, 0, none⟩) 1 1) 1 5 10 0 v (.slice none 0 0) (.slice (some ⟨w.heap.size + 1 + 1, 0, none⟩) 3 3) :=
  ⟨Blk.lt h, Blk.cell h 0, Blk.cell h 1, Blk.cell h 2, Blk.cell h 3, Blk.cell h 4, Blk.cell h 5, Blk.cell h 6, Blk.cell h 7, Blk.cell h 8⟩
set_option maxRecDepth 100000 in
set_option maxHeartbeats 4000000 in
theorem awake15 : Gives Try.prog 25 #[] (.bool true) := by
  intro w
  have hst := stW w
  obtain ⟨w3, hw3⟩ : ∃ x, ((w.alloc (.cells (cW.nodes.flatMap ndec).toArray 42)).alloc (.cells (cW.hosts.flatMap hdec).toArray 80)).alloc (.cells (hW.flatMap fdec).toArray 81) = x := ⟨_, rfl⟩
  rw [hw3] at hst
  have hz3 : w3.heap.size = w.heap.size + 1 + 1 + 1 := by rw [← hw3]; simp
  have hb3 : Below w.heap.size w w3 := by
    rw [← hw3]
    have hz : (w.alloc (.cells (cW.nodes.flatMap ndec).toArray 42)).heap.size = w.heap.size + 1 := by simp
    (repeat' (first | (with_reducible exact Below.refl _ _) | (with_reducible assumption) | (with_reducible refine Below.alloc ?_ ?_ _) | (with_reducible refine Go.Proofs.Ytbfpljnfalopdaa.L.below_drewN ?_ _) | (with_reducible refine Below.drew ?_) | (with_reducible refine Below.setCell ?_ ?_ _) | (with_reducible refine Below.frame ?_ _) | go_size))
  have HST := Lib.hid hst
  have hx := Blk.new w3 53 (sW w (.slice none 0 0))
  rw [hz3] at hx
  have hb4 : Below w3.heap.size w3 (w3.alloc (.cells (sW w (.slice none 0 0)) 53)) := (Below.refl _ _).alloc (Nat.le_refl _) _
  obtain ⟨w4, hw4⟩ : ∃ x, w3.alloc (.cells (sW w (.slice none 0 0)) 53) = x := ⟨_, rfl⟩
  have HX : Hid (Blk w4 (w.heap.size + 1 + 1 + 1) 53 (sW w (.slice none 0 0))) := Lib.hid (by rw [← hw4]; exact hx)
  rw [hw4] at hb4
  have HB := Lib.hid (And.intro hb3 hb4)
  have HZ := Lib.hid hz3
  have HW := Lib.hid (show w4 = (((w.alloc (.cells (cW.nodes.flatMap ndec).toArray 42)).alloc (.cells (cW.hosts.flatMap hdec).toArray 80)).alloc (.cells (hW.flatMap fdec).toArray 81)).alloc (.cells (sW w (.slice none 0 0)) 53) by rw [← hw4, ← hw3])
  clear hst hz3 hb3 hx hb4 hw3 hw4
  go_enter Try.func25, Try.ntmps25
  go_wp2_with fail
  refine Eq.mp (congrArg (fun z => Calls Try.prog _ _ z _) HW.out) ?_
  have hbw : Below w4.heap.size w4 w4 := Below.refl _ _
  refine (gang_any 2 1 9 _).mono ?_
  rintro e w5 ⟨rfl, hbq⟩
  replace hbw := keeps_trans hbw hbq
  clear hbq
  go_wp2_with fail
  refine (gang_any 1 2 9 _).mono ?_
  rintro e w6 ⟨rfl, hbq⟩
  replace hbw := keeps_trans hbw hbq
  clear hbq
  go_wp2_with fail
  refine (gang_any 1 3 9 _).mono ?_
  rintro e w7 ⟨rfl, hbq⟩
  replace hbw := keeps_trans hbw hbq
  clear hbq
  go_wp2_with fail
  refine (gang_any 2 4 5 _).mono ?_
  rintro e w8 ⟨rfl, hbq⟩
  replace hbw := keeps_trans hbw hbq
  have hx8 := Blk.below HX.out hbw (Blk.lt HX.out)
  have HBW := Lib.hid hbw
  clear hbq hbw
  have HX8 := Lib.hid hx8
  have y0 : w.heap.size + 1 + 1 + 1 < w8.heap.size := Blk.lt hx8
  obtain ⟨-, y1, y2, y3, y4, y5, y6, y7, y8, y9⟩ := sboxW hx8
  have hfz := Blk.frozen hx8 6
  clear hx8
  simp only [prow, pW]
  go_wp2_with fail
  have hz3 := HZ.out
  have hbk9 : Blk ((w8.setCell ⟨w.heap.size + 1 + 1 + 1, 6, none⟩ (.slice (some ⟨w8.heap.size, 0, none⟩) 4 4)).alloc (.cells (([qW1, qW2, qW3, qW4].map (·.1)).flatMap fun p => (prow p).toList).toArray 57)) (w.heap.size + 1 + 1 + 1) 53 (sW w (.slice (some ⟨w8.heap.size, 0, none⟩) 4 4)) := Blk.alloc (Blk.set_ HX8.out 6 _) _
  have hp9 : Blk ((w8.setCell ⟨w.heap.size + 1 + 1 + 1, 6, none⟩ (.slice (some ⟨w8.heap.size, 0, none⟩) 4 4)).alloc (.cells (([qW1, qW2, qW3, qW4].map (·.1)).flatMap fun p => (prow p).toList).toArray 57)) w8.heap.size 57 (([qW1, qW2, qW3, qW4].map (·.1)).flatMap fun p => (prow p).toList).toArray := by
    have h := Blk.new (w8.setCell ⟨w.heap.size + 1 + 1 + 1, 6, none⟩ (.slice (some ⟨w8.heap.size, 0, none⟩) 4 4)) 57 (([qW1, qW2, qW3, qW4].map (·.1)).flatMap fun p => (prow p).toList).toArray
    rw [show (w8.setCell ⟨w.heap.size + 1 + 1 + 1, 6, none⟩ (.slice (some ⟨w8.heap.size, 0, none⟩) 4 4)).heap.size = w8.heap.size by simp [World.setCell]] at h
    exact h
  have hb9 : Below w3.heap.size w3 ((w8.setCell ⟨w.heap.size + 1 + 1 + 1, 6, none⟩ (.slice (some ⟨w8.heap.size, 0, none⟩) 4 4)).alloc (.cells (([qW1, qW2, qW3, qW4].map (·.1)).flatMap fun p => (prow p).toList).toArray 57)) := by
    have h48 := keeps_trans HB.out.2 HBW.out
    exact (h48.setCell (p := ⟨w.heap.size + 1 + 1 + 1, 6, none⟩) (by show w3.heap.size ≤ w.heap.size + 1 + 1 + 1; omega) _).alloc (by simp [World.setCell]; omega) _
  obtain ⟨w9, hw9⟩ : ∃ x, (w8.setCell ⟨w.heap.size + 1 + 1 + 1, 6, none⟩ (.slice (some ⟨w8.heap.size, 0, none⟩) 4 4)).alloc (.cells (([qW1, qW2, qW3, qW4].map (·.1)).flatMap fun p => (prow p).toList).toArray 57) = x := ⟨_, rfl⟩
  rw [hw9] at hbk9 hp9 hb9
  refine Eq.mp (congrArg (fun z => Calls Try.prog _ _ z _) hw9.symm) ?_
  have hp : PSl w9 (.slice (some ⟨w8.heap.size, 0, none⟩) 4 4) ([qW1, qW2, qW3, qW4].map (·.1)) := ⟨_, 4, rfl, by decide, by decide, row_in (dec := fun p => (prow p).toList) (sz := 11) (t := 57) (fun _ => rfl) hp9 rfl, fun p hp => by
    obtain ⟨q, -, rfl⟩ := List.mem_map.1 hp
    exact q.2⟩
  have hs9 := HST.out.below hb9
  have HB9 := Lib.hid (keeps_trans HB.out.1 hb9)
  have HX9 := Lib.hid hbk9
  have HS9 := Lib.hid hs9
  have G := sort_any (vr := .slice none 0 0) (next := 0) (now := 10) hs9 (by decide) ⟨by unfold InI; decide, by unfold InI; decide⟩ hp (by decide)
  rw [sortedW] at G
  have HG := Lib.hid G
  clear G hp hp9 hb9 hbk9 hs9 hw9 hz3 hfz HX8 HBW HW y0 y1 y2 y3 y4 y5 y6 y7 y8 y9
  refine HG.out.mono ?_
  rintro e w10 ⟨v, rfl, hout, hb10⟩
  rcases hout with ⟨e, _⟩ | ⟨g, cap, rfl, hh, hg1, hg2⟩
  · cases e
  have HH := Lib.hid hh
  have HGL := Lib.hid hg2
  have HB10 := Lib.hid (keeps_trans HB9.out hb10)
  have HX10 := Lib.hid (Blk.below HX9.out hb10 (Blk.lt HX9.out))
  have HS10 := Lib.hid (HS9.out.below hb10)
  clear hh hb10 hg1 hg2 HG
  have A0 : ∀ W, Onward w10 W → W.cell? ⟨g, 0, none⟩ = some (.int .i64 4) ∧ W.cell? ⟨g, 1, none⟩ = some (.int .i64 2) ∧ W.cell? ⟨g, 2, none⟩ = some (.int .i64 0) ∧ W.cell? ⟨g, 3, none⟩ = some (.int .i64 0) ∧ W.cell? ⟨g, 4, none⟩ = some (.int .i64 0) ∧ W.cell? ⟨g, 5, none⟩ = some (.int .i64 0) ∧ W.cell? ⟨g, 6, none⟩ = some (.int .i64 0) ∧ W.cell? ⟨g, 7, none⟩ = some (.int .i64 0) ∧ W.cell? ⟨g, 8, none⟩ = some (.int .i64 0) ∧ W.cell? ⟨g, 9, none⟩ = some (.int .i64 4) ∧ W.cell? ⟨g, 10, none⟩ = some (.int .i64 5) := fun W hW => by
    have h := holdsK_below HH.out HGL.out hW
    exact ⟨(h.cell (i := 0) (c := 0) (by decide) (by decide)).1, (h.cell (i := 0) (c := 1) (by decide) (by decide)).1, (h.cell (i := 0) (c := 2) (by decide) (by decide)).1, (h.cell (i := 0) (c := 3) (by decide) (by decide)).1, (h.cell (i := 0) (c := 4) (by decide) (by decide)).1, (h.cell (i := 0) (c := 5) (by decide) (by decide)).1, (h.cell (i := 0) (c := 6) (by decide) (by decide)).1, (h.cell (i := 0) (c := 7) (by decide) (by decide)).1, (h.cell (i := 0) (c := 8) (by decide) (by decide)).1, (h.cell (i := 0) (c := 9) (by decide) (by decide)).1, (h.cell (i := 0) (c := 10) (by decide) (by decide)).1⟩
  have A1 : ∀ W, Onward w10 W → W.cell? ⟨g, 11, none⟩ = some (.int .i64 2) ∧ W.cell? ⟨g, 12, none⟩ = some (.int .i64 1) ∧ W.cell? ⟨g, 13, none⟩ = some (.int .i64 0) ∧ W.cell? ⟨g, 14, none⟩ = some (.int .i64 0) ∧ W.cell? ⟨g, 15, none⟩ = some (.int .i64 0) ∧ W.cell? ⟨g, 16, none⟩ = some (.int .i64 0) ∧ W.cell? ⟨g, 17, none⟩ = some (.int .i64 0) ∧ W.cell? ⟨g, 18, none⟩ = some (.int .i64 0) ∧ W.cell? ⟨g, 19, none⟩ = some (.int .i64 0) ∧ W.cell? ⟨g, 20, none⟩ = some (.int .i64 2) ∧ W.cell? ⟨g, 21, none⟩ = some (.int .i64 9) ∧ W.cell? ⟨g, 31, none⟩ = some (.int .i64 3) ∧ W.cell? ⟨g, 42, none⟩ = some (.int .i64 1) := fun W hW => by
    have h := holdsK_below HH.out HGL.out hW
    exact ⟨(h.cell (i := 1) (c := 0) (by decide) (by decide)).1, (h.cell (i := 1) (c := 1) (by decide) (by decide)).1, (h.cell (i := 1) (c := 2) (by decide) (by decide)).1, (h.cell (i := 1) (c := 3) (by decide) (by decide)).1, (h.cell (i := 1) (c := 4) (by decide) (by decide)).1, (h.cell (i := 1) (c := 5) (by decide) (by decide)).1, (h.cell (i := 1) (c := 6) (by decide) (by decide)).1, (h.cell (i := 1) (c := 7) (by decide) (by decide)).1, (h.cell (i := 1) (c := 8) (by decide) (by decide)).1, (h.cell (i := 1) (c := 9) (by decide) (by decide)).1, (h.cell (i := 1) (c := 10) (by decide) (by decide)).1,
      (h.cell (i := 2) (c := 9) (by decide) (by decide)).1, (h.cell (i := 3) (c := 9) (by decide) (by decide)).1⟩
  have S0 : ∀ W, Onward w10 W → W.cell? ⟨w.heap.size + 1 + 1 + 1, 0, none⟩ = some (.slice (some ⟨w.heap.size, 0, none⟩) 3 3) ∧ W.cell? ⟨w.heap.size + 1 + 1 + 1, 1, none⟩ = some (.slice (some ⟨w.heap.size + 1, 0, none⟩) 1 1) ∧ W.cell? ⟨w.heap.size + 1 + 1 + 1, 2, none⟩ = some (.int .i64 1) ∧ W.cell? ⟨w.heap.size + 1 + 1 + 1, 3, none⟩ = some (.int .i64 5) ∧ W.cell? ⟨w.heap.size + 1 + 1 + 1, 4, none⟩ = some (.int .i64 10) ∧ W.cell? ⟨w.heap.size + 1 + 1 + 1, 5, none⟩ = some (.int .i64 0) ∧
      W.cell? ⟨w.heap.size + 1 + 1 + 1, 6, none⟩ = some (.slice (some ⟨w8.heap.size, 0, none⟩) 4 4) ∧ W.cell? ⟨w.heap.size + 1 + 1 + 1, 7, none⟩ = some (.slice none 0 0) ∧ W.cell? ⟨w.heap.size + 1 + 1 + 1, 8, none⟩ = some (.slice (some ⟨w.heap.size + 1 + 1, 0, none⟩) 3 3) := fun W hW => by
    have h := Blk.below HX10.out hW (Blk.lt HX10.out)
    exact ⟨Blk.cell h 0, Blk.cell h 1, Blk.cell h 2, Blk.cell h 3, Blk.cell h 4, Blk.cell h 5, Blk.cell h 6, Blk.cell h 7, Blk.cell h 8⟩
  have g1 : Gives Try.prog 28 #[.agg #[.slice (some ⟨w.heap.size, 0, none⟩) 3 3, .slice (some ⟨w.heap.size + 1, 0, none⟩) 1 1, .int .i64 1, .int .i64 5], .int .i64 10, .agg #[.int .i64 4, .int .i64 2, .int .i64 0, .int .i64 0, .int .i64 0, .int .i64 0, .int .i64 0, .int .i64 0, .int .i64 0, .int .i64 4, .int .i64 5]] (.bool true) :=
    old_any (.slice (some ⟨w.heap.size, 0, none⟩) 3 3) (.slice (some ⟨w.heap.size + 1, 0, none⟩) 1 1) 1 5 10 (pW 2 4 5) (by unfold InI; decide) (by unfold InI; decide) (by unfold InI; decide)
  have g2 : GivesAt Try.prog w10 26 #[.agg #[.slice (some ⟨w.heap.size, 0, none⟩) 3 3, .slice (some ⟨w.heap.size + 1, 0, none⟩) 1 1, .int .i64 1, .int .i64 5, .int .i64 10, .int .i64 0, .slice (some ⟨w8.heap.size, 0, none⟩) 4 4, .slice none 0 0, .slice (some ⟨w.heap.size + 1 + 1, 0, none⟩) 3 3], .agg #[.int .i64 4, .int .i64 2, .int .i64 0, .int .i64 0, .int .i64 0, .int .i64 0, .int .i64 0, .int .i64 0, .int .i64 0, .int .i64 4, .int .i64 5], .agg #[.int .i64 2, .int .i64 1, .int .i64 0, .int .i64 0, .int .i64 0, .int .i64 0, .int .i64 0, .int .i64 0, .int .i64 0, .int .i64 2, .int .i64 9]] (.int .i64 (-1)) :=
    (cmp_any (vp := .slice (some ⟨w8.heap.size, 0, none⟩) 4 4) (vr := .slice none 0 0) (next := 0) (now := 10) HS10.out (by decide) ⟨by unfold InI; decide, by unfold InI; decide⟩ (pW 2 4 5) (pW 1 2 9) (by unfold InI; decide) (by unfold InI; decide)).val (congrArg (Value.int .i64) cmpW.2.2.2.2.2)
  replace g2 := g2.up (keeps_refl _)
  clear HS10 HX10 HS9 HX9 HST HX
  go_wp2_with fail
  refine region_keep (by kernel_rfl) (by kernel_rfl) ?_
  repeat (apply Go.Proofs.Ytbfpljnfalopdaa.L.wpKeep_yes; (focus rfl); (focus (intro W hW; go_simp; first | done | exact ⟨rfl, hW⟩ | rfl)); (focus (go_simp; first | done | rfl)))
  (apply Go.Proofs.Ytbfpljnfalopdaa.L.wpKeep_yes; (focus rfl); (focus (intro W hW; go_simp; first | exact Go.Proofs.Ytbfpljnfalopdaa.L.Gives.up g1 hW | exact ⟨hW, Go.Proofs.Ytbfpljnfalopdaa.L.Gives.up g1 hW⟩)); (focus (go_simp; first | done | rfl)))
  repeat (apply Go.Proofs.Ytbfpljnfalopdaa.L.wpKeep_yes; (focus rfl); (focus (intro W hW; go_simp; first | done | exact ⟨rfl, hW⟩ | rfl)); (focus (go_simp; first | done | rfl)))
  (apply Go.Proofs.Ytbfpljnfalopdaa.L.wpKeep_yes; (focus rfl); (focus (intro W hW; go_simp; first | exact g2 W hW | exact ⟨hW, g2 W hW⟩)); (focus (go_simp; first | done | rfl)))
  repeat (apply Go.Proofs.Ytbfpljnfalopdaa.L.wpKeep_yes; (focus rfl); (focus (intro W hW; go_simp; first | done | exact ⟨rfl, hW⟩ | rfl)); (focus (go_simp; first | done | rfl)))
  refine wpKeep_nil ?_
  intro W hW
  have HF := Lib.hid (keeps_trans HB10.out hW)
  clear hW A0 A1 S0 g1 g2
  go_wp2_with fail
  go_ret
  exact ⟨rfl, HF.out⟩
end Go.Proofs.Ytbfpljnfalopdaa.Srt
