/-
  All tenants below a node, as an iterator.
-/
import Derived.Test.YtbfpljnfalopdaaIter
import Derived.Test.YtbfpljnfalopdaaRefSum
set_option linter.unusedVariables false
set_option linter.unusedSimpArgs false
namespace Go.Proofs.Ytbfpljnfalopdaa.CfgW
open Go Go.RowKit Go.Proofs.Ytbfpljnfalopdaa.L
attribute [local go_sem] Oper.semAt_some

theorem up_val (v1 v2 : Value) (half age t : Int) (w : World) : Calls Try.prog 36 #[.agg #[v1, v2, .int .i64 half, .int .i64 age], .int .i64 t] w fun e w' =>
    e = .returned (.func (.func 59) #[] #[.pointer (some ⟨w.heap.size + 1, 0, none⟩), .pointer (some ⟨w.heap.size, 0, none⟩)]) ∧ w' = (w.alloc (.cells #[v1, v2, .int .i64 half, .int .i64 age] 25)).alloc (.cells #[.int .i64 t] 3) := by
  go_enter Try.func36, Try.ntmps36
  go_wp2_with fail
  go_ret
  exact ⟨rfl, rfl⟩
theorem tenants_val (v1 v2 : Value) (half age t : Int) (w : World) : Calls Try.prog 74 #[.agg #[v1, v2, .int .i64 half, .int .i64 age], .int .i64 t] w fun e w' =>
    e = .returned (.func (.func 86) #[] #[.pointer (some ⟨w.heap.size, 0, none⟩), .pointer (some ⟨w.heap.size + 1, 0, none⟩)]) ∧ w' = (w.alloc (.cells #[v1, v2, .int .i64 half, .int .i64 age] 25)).alloc (.cells #[.int .i64 t] 3) := by
  go_enter Try.func74, Try.ntmps74
  go_wp2_with fail
  go_ret
  exact ⟨rfl, rfl⟩

/-! ### marks -/
/-- The marks that a function's ranges have left. -/
def Marks (B : Nat) (D : Nat → Prop) (ds : List Deferred) (W : World) : Prop :=
  (∀ d ∈ ds, ∃ r, d = { target := .collected r, args := #[] } ∧ W.heap[r]? = some (.deferred (some [])) ∧ B ≤ r ∧ ¬ D r) ∧ ds.Nodup
theorem Marks.nil (B : Nat) (D : Nat → Prop) (W : World) : Marks B D [] W := ⟨fun _ h => by simp at h, List.nodup_nil⟩
theorem Marks.kept {B : Nat} {D F : Nat → Prop} {ds : List Deferred} {W W' : World} (h : Marks B D ds W) (k : Kept F W W') (hF : ∀ i, i < W.heap.size → B ≤ i → F i → D i) : Marks B D ds W' :=
  ⟨fun d hd => by
    obtain ⟨r, e, hr, hB, hD⟩ := h.1 d hd
    have hlt := (Array.getElem?_eq_some_iff.1 hr).1
    exact ⟨r, e, (k.block r hlt (fun hf => hD (hF r hlt hB hf))).trans hr, hB, hD⟩, h.2⟩
/-- The caller leans on more. -/
theorem Marks.more {B : Nat} {D D' : Nat → Prop} {ds : List Deferred} {W W' : World} (h : Marks B D ds W) (k : Kept D W W') (hD : ∀ i, D' i → D i ∨ W.heap.size ≤ i) : Marks B D' ds W' :=
  ⟨fun d hd => by
    obtain ⟨r, e, hr, hB, hn⟩ := h.1 d hd
    have hlt := (Array.getElem?_eq_some_iff.1 hr).1
    refine ⟨r, e, (k.block r hlt hn).trans hr, hB, fun h => ?_⟩
    rcases hD r h with h | h
    · exact hn h
    · omega, h.2⟩
/-- One mark more. -/
theorem Marks.cons {B : Nat} {D : Nat → Prop} {ds : List Deferred} {W : World} {r : Nat} (h : Marks B D ds W) (hr : W.heap[r]? = some (.deferred (some []))) (hB : B ≤ r) (hD : ¬ D r) (hn : ∀ d ∈ ds, ∀ r', d = { target := .collected r', args := #[] } → r' ≠ r) :
    Marks B D ({ target := .collected r, args := #[] } :: ds) W :=
  ⟨fun d hd => by
    rcases List.mem_cons.1 hd with rfl | hd
    · exact ⟨r, rfl, hr, hB, hD⟩
    · exact h.1 d hd, by
    rw [List.nodup_cons]
    refine ⟨fun hm => hn _ hm r rfl rfl, h.2⟩⟩
/-- At the function's end the marks are taken, one by one. -/
theorem leaves_marks {n : Nat} {fn : Func} {tmps : Array Value} {R : Ending → World → Prop} {B : Nat} {D : Nat → Prop} {v : Value} (hres : ∀ W, (results fn tmps).run Try.prog W = .ok v W) : ∀ (ds : List Deferred) (W : World), Marks B D ds W →
    (∀ W', Kept (fun i => B ≤ i ∧ ¬ D i) W W' → R (.returned v) W') → LeavesInM Fence.wide n Try.prog fn tmps R ds .returning W
  | [], W, _, hR => ⟨_, hres W, hR W (Kept.refl _ _)⟩
  | d :: ds, W, hm, hR => by
    obtain ⟨r, rfl, hr, hB, hD⟩ := hm.1 d (by simp)
    have hnd := hm.2
    rw [List.nodup_cons] at hnd
    refine ⟨by simp, .inl ⟨r, _, rfl, run_takeDeferred hr, leaves_marks (B := B) (D := D) hres ds _ ⟨fun d' hd' => ?_, hnd.2⟩ (fun W' k => hR W' ?_)⟩⟩
    · obtain ⟨r', e, hr', hB', hD'⟩ := hm.1 d' (by simp [hd'])
      refine ⟨r', e, (World.putObj_heap_other (fun e' => ?_)).trans hr', hB', hD'⟩
      subst e'
      exact hnd.1 (e ▸ hd')
    · exact ((kept_putObj W r (.deferred none)).mono fun i _ e => by subst e; exact ⟨hB, hD⟩).trans k

theorem wrap_succ (k : Nat) (h : k < 1000000) : wrap64 ((k : Int) + 1) = ((k + 1 : Nat) : Int) := (IntWalk.wrap64_in _ (by omega)).trans rfl
theorem round_wide {n n' l l' : Nat} {f : FuncId} {tmps : Array Value} {assign body : Code} {w : World} {R : Ending → World → Prop} (h : RoundIn Fence.wide n Try.prog l f tmps assign body w R) : RoundIn (Fence.wide.inRound l') n' Try.prog l f tmps assign body w R :=
  ⟨h.1, fun c cs _ => h.2 c cs (room_wide _)⟩

/-! ### the iterator -/
theorem Abide.sub {B B' : Nat} {own own' : Nat → Prop} {J : (Nat → Prop) → List Nat → World → Prop} (h : Abide B own J) (g : List Nat → List Nat) (hB : B ≤ B') (ho : ∀ k, own' k → own k ∨ B ≤ k) : Abide B' own' (fun D pre W => J D (g pre) W) :=
  ⟨fun D pre W hj => h.1 D (g pre) W hj, fun D pre W W' F hj k hF => h.2 D (g pre) W W' F hj k fun i hi hFi => by
    obtain ⟨h1, h2⟩ := hF i hi hFi
    refine ⟨h1, ?_⟩
    rcases h2 with h2 | h2
    · exact ho i h2
    · right; omega⟩
theorem Abide.pure {B : Nat} {own : Nat → Prop} {J : (Nat → Prop) → List Nat → World → Prop} (h : Abide B own J) (p : Prop) : Abide B own (fun D pre W => J D pre W ∧ p) :=
  ⟨fun D pre W hj => h.1 D pre W hj.1, fun D pre W W' F hj k hF => ⟨h.2 D pre W W' F hj.1 k hF, hj.2⟩⟩
/-- Those that have come, among them n: then t. -/
def pick (n : Int) (t : Nat) (pre : List Nat) : List Nat := if pre.any (fun x => (x : Int) == n) then [t] else []
theorem pick_snoc_ne {n : Int} {t x : Nat} {pre : List Nat} (h : (x : Int) ≠ n) : pick n t (pre ++ [x]) = pick n t pre := by
  unfold pick
  rw [List.any_append]
  have : ((x : Int) == n) = false := by simpa using h
  simp [this]
theorem pick_snoc_eq {n : Int} {t x : Nat} {pre : List Nat} (h : (x : Int) = n) : pick n t (pre ++ [x]) = [t] := by
  unfold pick
  rw [List.any_append, if_pos]
  simp [h]
theorem pick_none {n : Int} {t x : Nat} {pre rest : List Nat} (h : (x : Int) = n) (hn : (pre ++ x :: rest).Nodup) : pick n t pre = [] := by
  unfold pick
  rw [if_neg]
  intro ha
  rw [List.any_eq_true] at ha
  obtain ⟨y, hy, e⟩ := ha
  have : y = x := by have := beq_iff_eq.1 e; omega
  subst this
  rw [List.nodup_append] at hn
  exact hn.2.2 y hy y (by simp) rfl
theorem pick_all (c : Cfg.C) (n : Int) (k : Nat) (h : k < (Cfg.leaves c).length) : belowTo c n k ++ pick n (Cfg.leaves c)[k] (Tree.up c ((Cfg.leaves c)[k] : Int)) = belowTo c n (k + 1) := by
  rw [belowTo_succ c n k h]
  unfold pick Tree.on
  split <;> simp
theorem below_split (c : Cfg.C) (n : Int) (k : Nat) (h : k < (Cfg.leaves c).length) (ho : Tree.on c n (Cfg.leaves c)[k] = true) : ∃ rest, Tree.below c n = belowTo c n k ++ (Cfg.leaves c)[k] :: rest := by
  refine ⟨((Cfg.leaves c).drop (k + 1)).filter fun t => Tree.on c n t, ?_⟩
  unfold Tree.below belowTo
  conv => lhs; rw [← List.take_append_drop k (Cfg.leaves c), List.filter_append, List.drop_eq_getElem_cons h, List.filter_cons, if_pos ho]

set_option maxRecDepth 100000 in
set_option maxHeartbeats 4000000 in
theorem tenants_iter {w0 : World} {v1 v2 : Value} {half age : Int} {c : Cfg.C} (hc : CfgAt w0 (.agg #[v1, v2, .int .i64 half, .int .i64 age]) c) (hN : c.nodes.length ≤ 1000000) (n : Int) (bc bn : Nat) :
    IterIn 86 #[.pointer (some ⟨bc, 0, none⟩), .pointer (some ⟨bn, 0, none⟩)] (Tree.below c n) (fun k => k < w0.heap.size ∨ k = bc ∨ k = bn) (fun _ => False)
      (fun W => Below w0.heap.size w0 W ∧ CBox W bc v1 v2 half age ∧ W.cell? ⟨bn, 0, none⟩ = some (.int .i64 n) ∧ bn < W.heap.size) := by
  intro m l J Jx W0 ⟨hb0, hbx, hcn, hbn⟩ hJ hJx hY D0 hD0 hJ0
  have HY := Lib.hid hY
  have HJ := Lib.hid hJ
  have HJx := Lib.hid hJx
  have HJ0 := Lib.hid hJ0
  have HD0 := Lib.hid hD0
  have hD0lt := Lib.hid (hJ.1 _ _ _ hJ0)
  have HC := Lib.hid hc
  clear hY hJ hJx hJ0 hD0
  refine callsIn_of_wp_marks Try.func86 rfl trivial (wpIn_wide.2 ?_)
  simp only [Try.ntmps86, List.size_toArray, List.length_cons, List.length_nil, Nat.reduceAdd, Nat.reduceSub, Array.replicate_succ, Array.replicate_zero, List.push_toArray, List.append_toArray, List.nil_append, List.cons_append]
  have hbW : Below W0.heap.size W0 (W0.alloc (.cells #[.func (.yield l) #[] #[]] 68)) := (Below.refl _ _).alloc (Nat.le_refl _) _
  have hy1 : (W0.alloc (.cells #[.func (.yield l) #[] #[]] 68)).cell? ⟨W0.heap.size, 0, none⟩ = some (.func (.yield l) #[] #[]) := by simp [go_sem]
  have hs1 : (W0.alloc (.cells #[.func (.yield l) #[] #[]] 68)).heap.size = W0.heap.size + 1 := by simp
  obtain ⟨z0, z1, z2, z3, z4⟩ := hbx.on hbW
  have z5 := (hbW.cell (p := ⟨bn, 0, none⟩) hbn).trans hcn
  have Hbx := Lib.hid hbx
  have HCN := Lib.hid hcn
  have HbW := Lib.hid hbW
  clear hbx hcn hbW
  go_wp2_with fail
  refine (leaves_any hc hN _ (hb0.trans (HbW.out.mono hb0.size))).mono ?_
  rintro e Wl ⟨vl, rfl, hI, hbl⟩
  have HWl := Lib.hid (keeps_trans HbW.out hbl)
  obtain ⟨A2, c2, rfl, hcl⟩ := ints_cell hI
  have HCl := Lib.hid hcl
  have hk1 : (W0.alloc (.cells #[.func (.yield l) #[] #[]] 68)).heap.size ≤ Wl.heap.size := hbl.size
  have hyl := Lib.hid ((hbl.cell (p := ⟨W0.heap.size, 0, none⟩) (by show W0.heap.size < _; omega)).trans hy1)
  have hsl : W0.heap.size + 1 ≤ Wl.heap.size := by omega
  have hJl := Lib.hid (HJ.out.2 _ _ _ _ (fun _ => False) HJ0.out (Kept.of_below HWl.out) (fun _ _ h => h.elim))
  obtain ⟨L, hL⟩ : ∃ L, (Cfg.leaves c).length = L := ⟨_, rfl⟩
  have HL := Lib.hid hL
  have hLN := Lib.hid (show L ≤ 1000000 by
    rw [← hL]
    have := leavesTo_le c c.nodes.length
    exact Nat.le_trans this hN)
  rw [hL]
  have Hb0 := Lib.hid hb0
  have Hbn := Lib.hid hbn
  clear hI hbl hcl hk1 hy1 hs1 z0 z1 z2 z3 z4 z5 hL hb0 hbn hc
  go_wp2_with fail
  refine wp_loop (fun a' W => ∃ (k : Nat) (ds : List Deferred) (D : Nat → Prop) (u5 u6 u11 u12 u13 u14 u15 u16 u17 u18 u19 u20 u21 u22 u23 u24 u25 u26 u27 : Value), k ≤ L ∧ J D (belowTo c n k) W ∧ (∀ i, D i → D0 i ∨ Wl.heap.size ≤ i) ∧ Kept D0 Wl W ∧ Marks Wl.heap.size D ds W ∧
    a' = { tmps := #[.func (.yield l) #[] #[], .pointer (some ⟨bc, 0, none⟩), .pointer (some ⟨bn, 0, none⟩), .pointer (some ⟨W0.heap.size, 0, none⟩), undef, u5, u6, .agg #[v1, v2, .int .i64 half, .int .i64 age], .slice A2 L c2, .int .i64 (L : Int), .int .i64 (k : Int), u11, u12, u13, u14, u15, u16, u17, u18, u19, u20, u21, u22, u23, u24, u25, u26, u27], defers := ds })
    (fun a' _ => L - (intOf (a'.tmps.getD 10 undef)).toNat) ?_ ?_
  · exact ⟨0, [], D0, _, _, _, _, _, _, _, _, _, _, _, _, _, _, _, _, _, _, _, by omega, hJl.out, fun i h => .inl h, Kept.refl _ _, Marks.nil _ _ _, rfl⟩
  · rintro _ W ⟨k, ds, D, u5, u6, u11, u12, u13, u14, u15, u16, u17, u18, u19, u20, u21, u22, u23, u24, u25, u26, u27, hk, hj, hDn, hkW, hM, rfl⟩
    have Hj := Lib.hid hj
    have HDn := Lib.hid hDn
    have HkW := Lib.hid hkW
    have HM := Lib.hid hM
    clear hj hDn hM
    by_cases hkL : k < L
    · have hkl : k < (Cfg.leaves c).length := by rw [HL.out]; exact hkL
      obtain ⟨t, ht⟩ : ∃ t, (Cfg.leaves c)[k] = t := ⟨_, rfl⟩
      have hte : (Cfg.leaves c)[k]? = some t := by rw [List.getElem?_eq_getElem hkl, ht]
      obtain ⟨g, hA2, hg0, hg1, hcell⟩ := HCl.out k t hte
      have hsz : (W0.alloc (.cells #[.func (.yield l) #[] #[]] 68)).heap.size = W0.heap.size + 1 := by simp
      rw [hsz] at hg0
      have hgW : W.cell? ⟨g, k, none⟩ = some (.int .i64 (t : Int)) := (hkW.cell (p := ⟨g, k, none⟩) hg1 (fun h => by have h' : D0 g := h; have := hD0lt.out g h'; omega)).trans hcell
      have hWs : Wl.heap.size ≤ W.heap.size := hkW.size
      have hk0 : Kept D0 W0 W := (Kept.of_below HWl.out).trans' hkW (fun i hi h => h)
      have hpa := pick_all c n k hkl
      have hsp := below_split c n k hkl
      rw [ht] at hpa hsp
      have HPA := Lib.hid hpa
      have HSP := Lib.hid hsp
      have htN : (t : Int) < (c.nodes.length : Int) := by
        have := List.mem_of_getElem? hte
        rw [Tree.leaves_mem] at this
        exact (Tree.leaf_lt this).2
      have HtN := Lib.hid htN
      obtain ⟨b0, b1, b2, b3, b4⟩ := Hbx.out.kept hk0 (HD0.out bc (.inr (.inl rfl)))
      subst hA2
      have hgW' : g < W.heap.size := by omega
      have hne : ∀ i, ¬ g = W.heap.size + i := fun i e => by omega
      have hne0 : ¬ g = W.heap.size := fun e => by omega
      have hne1 : ¬ bc = W.heap.size := fun e => by omega
      clear hcell ht hte hsz hkl hkW hk0 hpa hsp htN
      go_wp2_with fail
      refine (up_val v1 v2 half age (t : Int) _).mono ?_
      rintro e w3 ⟨rfl, rfl⟩
      go_wp2_with fail
      obtain ⟨v1', v2', ee, ⟨A, ca, e1, hrA, hlA⟩, _⟩ := HC.out
      have ev1 : v1 = .slice A c.nodes.length ca := by
        simp only [Value.agg.injEq, Array.mk.injEq, List.cons.injEq, and_true] at ee
        rw [ee.1, e1]
      have hxn : c.nodes ≠ [] := fun e => by rw [e] at HtN; have := HtN.out; simp at this; omega
      obtain ⟨bA, oA, eA, hbA, -⟩ := hrA hxn
      obtain ⟨Wt, hWt⟩ : ∃ Wt, W.alloc (.cells #[.int .i64 (t : Int)] 3) = Wt := ⟨_, rfl⟩
      rw [hWt]
      have hst : Wt.heap.size = W.heap.size + 1 := by rw [← hWt]; simp
      have hkt : Kept (fun _ => False) W Wt := by rw [← hWt]; exact (Kept.refl _ W).alloc _
      have hct : Wt.cell? ⟨W.heap.size, 0, none⟩ = some (.int .i64 (t : Int)) := by rw [← hWt]; simp [go_sem]
      obtain ⟨Wr, hWr⟩ : ∃ Wr, (Wt.alloc (.cells #[v1, v2, .int .i64 half, .int .i64 age] 25)).alloc (.cells #[.int .i64 (t : Int)] 3) = Wr := ⟨_, rfl⟩
      have hkr : Kept (fun _ => False) Wt Wr := by rw [← hWr]; exact ((Kept.refl _ Wt).alloc _).alloc _
      have hsr : Wr.heap.size = Wt.heap.size + 2 := by rw [← hWr]; simp
      have hbw0 : Below w0.heap.size w0 Wr := ((Kept.of_below (F := D0) Hb0.out).trans' (((Kept.of_below HWl.out).trans' HkW.out (fun i _ h => h)).trans' ((hkt.trans hkr).mono fun _ _ h => h.elim) (fun i _ (h : D0 i) => h)) (fun i _ h => h)).below (Nat.le_refl _) (fun i h => by
        rcases Nat.lt_or_ge i w0.heap.size with h' | h'
        · exact absurd h (HD0.out i (.inl h'))
        · exact h')
      have hUp : UpAt Wr (Wt.heap.size + 1) Wt.heap.size A c.nodes.length ca v2 half age c.nodes (t : Int) := by
        refine ⟨by rw [← hWr]; simp [go_sem], by rw [← hWr]; simp [go_sem], by omega, ?_, hrA.below hbw0⟩
        rw [← ev1, ← hWr]
        exact (CBox.new Wt v1 v2 half age).on ((Below.refl _ _).alloc (Nat.le_refl _) _)
      rw [hWr, ← hst]
      have hw0 := hbw0.size
      have hw0' := Hb0.out.size
      have HDlt := Lib.hid (fun i (h : D i) => HJ.out.1 _ _ _ Hj.out i h)
      have hkWr : Kept (fun _ => False) W Wr := hkt.trans hkr
      have hJr : J D (belowTo c n k) Wr := HJ.out.2 _ _ _ _ (fun _ => False) Hj.out hkWr (fun _ _ h => h.elim)
      have HBbn := Lib.hid (And.intro Hbx.out.1 Hbn.out)
      have hk0r : Kept D0 W0 Wr := ((Kept.of_below HWl.out).trans' HkW.out (fun i _ h => h)).trans' hkWr (fun _ _ h => h.elim)
      clear ee e1 hrA hWt hWr hgW b1 b2 b3 b4 hne hne0 hne1
      refine (wpIn_wide (n := 0)).1 (range_iter (up_iter c hlA (t : Int) (by omega : Wt.heap.size + 1 ≠ Wt.heap.size) (fun b o e => by rw [eA] at e; cases e; omega)) rfl (fun _ _ => by kernel_rfl) rfl
        (fun W' hb => hUp.kept (Kept.of_below (F := fun _ => False) hb) (fun h => h) (fun h => h) (fun _ _ _ h => h))
        (fun i hi => by
          rcases hi with rfl | rfl | ⟨o, ho⟩
          · omega
          · omega
          · rw [eA] at ho; cases ho; omega) (fun i hi => .inl hi)
        (fun D' pre => J D' (belowTo c n k ++ pick n t pre)) (fun D' pre W' => Jx D' (belowTo c n k ++ [t]) W' ∧ belowTo c n k ++ [t] <+: Tree.below c n)
        (HJ.out.sub (fun pre => belowTo c n k ++ pick n t pre) (by omega) (fun i hi => .inr (by have : i = Wt.heap.size + 1 := hi; omega)))
        ((HJx.out.sub (fun pre => belowTo c n k ++ [t]) (by omega) (fun i hi => .inr (by have : i = Wt.heap.size + 1 := hi; omega))).pure _)
        D (fun i hi h => by
          have := HDlt.out i h
          rcases hi with rfl | rfl | ⟨o, ho⟩
          · omega
          · omega
          · rw [eA] at ho; cases ho
            rcases HDn.out _ h with h | h
            · exact HD0.out bA (.inl hbA) h
            · omega)
        (by show J D (belowTo c n k ++ pick n t []) Wr; rw [show pick n t [] = [] from rfl, List.append_nil]; exact hJr) ?round ?done ?stop)
      case round =>
        intro l' m' D' pre x rest W2 hl hpre hj hk hDn' hlt
        gi_wp2
        refine ⟨trivial, fun W3 hj3 hk3 hs3 => ?_⟩
        have hDt : ¬ D W.heap.size := fun h => by have := HDlt.out _ h; omega
        have c5 : W3.cell? ⟨W.heap.size, 0, none⟩ = some (.int .i64 (t : Int)) := (hk3.cell (p := ⟨W.heap.size, 0, none⟩) (by show W.heap.size < Wr.heap.size; omega) (by rintro (h | h); exact hDt h; have h' : W.heap.size = Wt.heap.size + 1 := h; omega)).trans ((hkr.cell (p := ⟨W.heap.size, 0, none⟩) (by show W.heap.size < Wt.heap.size; omega) (fun h => h)).trans hct)
        have hk03 : Kept D0 W0 W3 := hk0r.trans' hk3 (fun i hi h => by
          rcases h with h | h
          · rcases HDn.out i h with h | h
            · exact h
            · omega
          · omega)
        have c2' : W3.cell? ⟨bn, 0, none⟩ = some (.int .i64 n) := (hk03.cell (p := ⟨bn, 0, none⟩) HBbn.out.2 (HD0.out bn (.inr (.inr rfl)))).trans HCN.out
        have c3 : W3.cell? ⟨W0.heap.size, 0, none⟩ = some (.func (.yield l) #[] #[]) := by
          refine (World.cell?_of_block (w := Wl) ?_).trans hyl.out
          have hn : ∀ i, i < Wl.heap.size → ¬ i < W0.heap.size → ¬ D0 i := fun i _ h h' => h (hD0lt.out i h')
          show W3.heap[W0.heap.size]? = Wl.heap[W0.heap.size]?
          have hnn : ¬ D0 W0.heap.size := hn _ (by omega) (by omega)
          exact (hk3.block _ (by omega) (by
            rintro (h | h)
            · rcases HDn.out _ h with h | h
              · exact hnn h
              · omega
            · omega)).trans ((hkWr.block _ (by omega) (fun h => h)).trans (HkW.out.block _ (by omega) hnn))
        have HJ3 := Lib.hid hj3
        by_cases hxn : (x : Int) = n
        · have hnd := Tree.up_nodup c (t : Int)
          rw [hpre] at hnd
          have hpk : pick n t pre = [] := pick_none hxn hnd
          have hon : Tree.on c n t = true := by
            unfold Tree.on
            rw [List.any_eq_true]
            exact ⟨x, by rw [hpre]; simp, by simpa using hxn⟩
          obtain ⟨rest', hrest⟩ := HSP.out hon
          have hj4 : J D' (belowTo c n k) W3 := by have := HJ3.out; rw [hpk, List.append_nil] at this; exact this
          obtain ⟨fn, tmps, assign, body, hy, hR⟩ := HY.out D' (belowTo c n k) t rest' W3 hrest hj4 (fun i hi h => by
            have hlt : i < W0.heap.size := by
              rcases hi with h | rfl | rfl
              · omega
              · exact HBbn.out.1
              · exact HBbn.out.2
            rcases hDn' i h with h | h
            · rcases HDn.out i h with h | h
              · exact HD0.out i hi h
              · omega
            · omega)
          have HR := Lib.hid hR
          have HRest := Lib.hid hrest
          have hps := Lib.hid (pick_snoc_eq (n := n) (t := t) (pre := pre) hxn)
          have te : ((x : Int) == n) = true := by simpa using hxn
          clear hR hnd hpk hon hrest hj3 hj hj4 hk hk3 hxn hpre
          gi_wp2
          refine ⟨fun h => by simp [Fence.wide] at h, (round_wide HR.out).mono ?_⟩
          rintro e W4 (⟨rfl, hs4⟩ | ⟨rfl, hs4⟩)
          · have HS := Lib.hid (show Step D' W3 (fun D'' => J D'' (belowTo c n k ++ pick n t (pre ++ [x]))) W4 by rw [hps.out]; exact hs4)
            clear hs4
            gi_wp2
            exact HS.out
          · have HS := Lib.hid (show Step D' W3 (fun D'' W' => Jx D'' (belowTo c n k ++ [t]) W' ∧ belowTo c n k ++ [t] <+: Tree.below c n) W4 by
              obtain ⟨D'', hx, hd, hk⟩ := hs4
              exact ⟨D'', ⟨hx, by rw [HRest.out]; exact ⟨rest', by simp⟩⟩, hd, hk⟩)
            clear hs4
            gi_wp2
            exact HS.out
        · have te : ((x : Int) == n) = false := by simpa using hxn
          have hps := Lib.hid (pick_snoc_ne (n := n) (t := t) (pre := pre) hxn)
          clear hj3 hj hk hk3 hxn hpre
          gi_wp2
          refine ⟨fun _ _ => trivial, ?_⟩
          gi_wp2
          exact ⟨D', by rw [hps.out]; exact HJ3.out, fun i h => .inl h, Kept.refl _ _⟩
      case done =>
        intro D' W' hj hk hDn' hd
        have hM' : Marks Wl.heap.size D' ({ target := .collected Wr.heap.size, args := #[] } :: ds) W' := by
          have hkk : Kept D W W' := (hkWr.mono fun _ _ h => h.elim).trans' hk (fun i hi h => by
            rcases h with h | h
            · exact h
            · omega)
          refine (HM.out.more hkk (fun i h => by rcases hDn' i h with h | h; exact .inl h; right; omega)).cons hd (by omega) (fun h => by
            rcases hDn' _ h with h | h
            · have := HDlt.out _ h; omega
            · omega) (fun d hd r' e => ?_)
          obtain ⟨r, e', hr, -⟩ := HM.out.1 d hd
          rw [e] at e'
          cases e'
          have := (Array.getElem?_eq_some_iff.1 hr).1
          omega
        have hj' : J D' (belowTo c n (k + 1)) W' := by rw [← HPA.out]; exact hj
        have hDn2 : ∀ i, D' i → D0 i ∨ Wl.heap.size ≤ i := fun i h => by
          rcases hDn' i h with h | h
          · exact HDn.out i h
          · right; omega
        have hk2 : Kept D0 Wl W' := (HkW.out.trans' hkWr (fun _ _ h => h.elim)).trans' hk (fun i hi h => by
          rcases h with h | h
          · rcases HDn.out i h with h | h
            · exact h
            · omega
          · omega)
        have HE := Lib.hid (And.intro hj' (And.intro hDn2 (And.intro hk2 hM')))
        clear hj hk hDn' hd hM' hj' hDn2 hk2
        go_wp2_with fail
        have hL6 := hLN.out
        have hk6 : k < 1000000 := Nat.lt_of_lt_of_le hkL hL6
        have hw64 := wrap_succ k hk6
        rw [hw64]
        refine ⟨⟨k + 1, _, D', _, _, _, _, _, _, _, _, _, _, _, _, _, _, _, _, _, _, _, Nat.succ_le_of_lt hkL, HE.out.1, HE.out.2.1, HE.out.2.2.1, HE.out.2.2.2, rfl⟩, ?_⟩
        show L - (k + 1) < L - k
        exact Nat.sub_lt_sub_left hkL (Nat.lt_succ_self k)
      case stop =>
        intro D' pre W' hpf hj hk hDn' hd
        have hM' : Marks Wl.heap.size D' ({ target := .collected Wr.heap.size, args := #[] } :: ds) W' := by
          have hkk : Kept D W W' := (hkWr.mono fun _ _ h => h.elim).trans' hk (fun i hi h => by
            rcases h with h | h
            · exact h
            · omega)
          refine (HM.out.more hkk (fun i h => by rcases hDn' i h with h | h; exact .inl h; right; omega)).cons hd (by omega) (fun h => by
            rcases hDn' _ h with h | h
            · have := HDlt.out _ h; omega
            · omega) (fun d hd r' e => ?_)
          obtain ⟨r, e', hr, -⟩ := HM.out.1 d hd
          rw [e] at e'
          cases e'
          have := (Array.getElem?_eq_some_iff.1 hr).1
          omega
        obtain ⟨hj, hpre⟩ := hj
        have HE := Lib.hid (And.intro hj hM')
        have HP := Lib.hid hpre
        clear hj hk hDn' hd hM' hpre
        go_wp2_with fail
        refine leaves_marks (fun W => results_none rfl _ _ _) _ W' HE.out.2 (fun W2 hk' => ⟨⟨_, rfl⟩, .inr ⟨D', _, HP.out, ?_⟩⟩)
        exact HJx.out.2 _ _ _ _ _ HE.out.1 hk' (fun i _ h => ⟨h.2, .inr (by omega)⟩)
    · have hkd : decide (k < L) = false := by simpa using hkL
      have hfin := belowTo_all c n k (by rw [HL.out]; omega)
      clear hkL
      go_wp2_with fail
      refine leaves_marks (fun W => results_none rfl _ _ _) ds W HM.out (fun W' hk' => ⟨⟨_, rfl⟩, .inl ⟨D, ?_⟩⟩)
      rw [← hfin]
      exact HJ.out.2 _ _ _ _ _ Hj.out hk' (fun i _ h => ⟨h.2, .inr (by omega)⟩)
end Go.Proofs.Ytbfpljnfalopdaa.CfgW
