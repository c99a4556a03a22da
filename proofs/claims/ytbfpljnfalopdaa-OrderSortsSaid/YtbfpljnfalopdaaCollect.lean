/-
  All that an iterator gives, as a row: slices.AppendSeq and slices.Collect; qtree.Below.
-/
import Derived.Test.YtbfpljnfalopdaaTenants
set_option linter.unusedVariables false
set_option linter.unusedSimpArgs false
namespace Go.Proofs.Ytbfpljnfalopdaa.L
open Go Go.RowKit
section
variable {P : Program} {ops : Array Oper}
theorem wpListIn_of {Q : Exit → Act → World → Prop} {l n : Nat} (hQ : ¬ LetsOut Q) : ∀ (ls : List Oper), (∀ o ∈ ls, ∀ c : Call, o.op ≠ Op.defer c) → ∀ (a : Act) (w : World), wpList P ops Q ls a w → wpListIn (Fence.wide.inRound l) n P ops Q ls a w
  | [], _, _, _, h => h
  | o :: ls, nd, a, w, h => by
    unfold wpList at h
    unfold wpListIn
    split
    · rename_i hw
      simp only [hw, if_true] at h
      exact Oper.wpIn_mono (fun a w k => wpListIn_of hQ ls (fun o ho => nd o (by simp [ho])) a w k) (oper_in (nd o (by simp)) (h.resolve_right (fun hh => hQ hh.2)))
    · rename_i hw
      simp only [hw] at h
      exact ⟨fun _ _ => trivial, wpListIn_of hQ ls (fun o ho => nd o (by simp [ho])) _ _ h⟩
/-- A plain region in a round, walked as anywhere. -/
theorem region_round {id lp m : Nat} {Q : Exit → Act → World → Prop} {a : Act} {w : World} {l : List Oper} (hQ : ¬ LetsOut Q) (nd : noDeferB l = true) (h : wpList P l.toArray Q l a w) : (Code.region id l.toArray false).wpIn (Fence.wide.inRound lp) m P Q a w :=
  wpIn_region_lit (wpListIn_of hQ l (fun o ho => by
    obtain ⟨i, hi⟩ := List.getElem?_of_mem ho
    exact noDefer_spec nd (by simpa using hi)) a w h)
end
end Go.Proofs.Ytbfpljnfalopdaa.L
namespace Go.Proofs.Ytbfpljnfalopdaa.CfgW
open Go Go.RowKit Go.Proofs.Ytbfpljnfalopdaa.L
attribute [local go_sem] Oper.semAt_some

/-- What AppendSeq keeps: its box holds the row. -/
def AppJ (b0 B : Nat) (D : Nat → Prop) (pre : List Nat) (W : World) : Prop := ∃ v, W.cell? ⟨b0, 0, none⟩ = some v ∧ W.frozen? ⟨b0, 0, none⟩ = false ∧ b0 < W.heap.size ∧ Ints W B v pre ∧ v.ownBlock ≠ some b0 ∧ ∀ k, D k ↔ (k = b0 ∨ v.ownBlock = some k)
theorem appJ_abide (b0 B B' : Nat) (own : Nat → Prop) : Abide B' own (AppJ b0 B) :=
  ⟨fun D pre W ⟨v, h1, h2, h3, h4, h5, h6⟩ k hk => by
    rcases (h6 k).1 hk with rfl | h
    · exact h3
    · exact (h4.lt k h).2, fun D pre W W' F ⟨v, h1, h2, h3, h4, h5, h6⟩ kp hF => by
    have hb := fun h : F b0 => (hF b0 h3 h).1 ((h6 b0).2 (.inl rfl))
    refine ⟨v, (kp.cell (p := ⟨b0, 0, none⟩) h3 hb).trans h1, (kp.frozen (p := ⟨b0, 0, none⟩) h3 hb).trans h2, Nat.lt_of_lt_of_le h3 kp.size, h4.kept fun k hk => kp.block k (h4.lt k hk).2 fun h => ?_, h5, h6⟩
    exact (hF k (h4.lt k hk).2 h).1 ((h6 k).2 (.inr hk))⟩

def SeqEnd (own : Nat → Prop) (l : List Nat) (w : World) (e : Ending) (w' : World) : Prop := ∃ v, e = .returned v ∧ Ints w' w.heap.size v l ∧ Kept own w w'

set_option maxRecDepth 100000 in
set_option maxHeartbeats 400000 in
theorem appendseq_any {f : FuncId} {caps : Array Value} {xs : List Nat} {R own : Nat → Prop} {St : World → Prop} (hit : IterIn f caps xs R own St) (eg : ∀ args w, (callFunc f args).run Try.prog w = .ok (.enter f args) w) {w : World}
    (hst : ∀ W, Below w.heap.size w W → St W) (hRlt : ∀ k, R k → k < w.heap.size) (howR : ∀ k, own k → R k) (hlen : xs.length ≤ 1000000) :
    Calls Try.prog 88 #[.slice none 0 0, .func (.func f) #[] caps] w fun e w' => SeqEnd own xs w e w' := by
  have Hit := Lib.hid hit
  have HEg := Lib.hid eg
  have HSt := Lib.hid hst
  have HR := Lib.hid hRlt
  have HO := Lib.hid howR
  have HLen := Lib.hid hlen
  clear hit eg hst hRlt howR hlen
  refine (callsIn_wide (n := 0)).1 (callsIn_of_wp_marks Try.func88 rfl trivial (wpIn_wide.2 ?_))
  simp only [Try.ntmps88, List.size_toArray, List.length_cons, List.length_nil, Nat.reduceAdd, Nat.reduceSub, Array.replicate_succ, Array.replicate_zero, List.push_toArray, List.append_toArray, List.nil_append, List.cons_append]
  have hb : Below w.heap.size w (w.alloc (.cells #[.slice none 0 0] 36)) := (Below.refl _ _).alloc (Nat.le_refl _) _
  have hc : (w.alloc (.cells #[.slice none 0 0] 36)).cell? ⟨w.heap.size, 0, none⟩ = some (.slice none 0 0) := by simp [go_sem]
  have hf : (w.alloc (.cells #[.slice none 0 0] 36)).frozen? ⟨w.heap.size, 0, none⟩ = false := by simp [go_sem]
  have hs : (w.alloc (.cells #[.slice none 0 0] 36)).heap.size = w.heap.size + 1 := by simp
  go_wp2_with fail
  generalize w.alloc (.cells #[.slice none 0 0] 36) = W0 at *
  refine (wpIn_wide (n := 0)).1 (range_iter Hit.out rfl HEg.out rfl (fun W h => HSt.out W (keeps_trans hb h)) (fun k h => by have := HR.out k h; omega) HO.out (AppJ w.heap.size w.heap.size) (fun _ _ _ => False) (appJ_abide _ _ _ _) ⟨fun _ _ _ h => h.elim, fun _ _ _ _ _ h => h.elim⟩
    (fun k => k = w.heap.size) (fun k h e => by have := HR.out k h; omega) ⟨_, hc, hf, by omega, RowV.nil _ _ _, by simp [Value.ownBlock], fun k => by simp [Value.ownBlock]⟩ ?round ?done (fun _ _ _ _ h => h.elim))
  case round =>
    intro l m D pre x rest W hl hpre hj hk hD hlt
    gi_wp2
    refine ⟨trivial, fun W2 hj2 hk2 hs2 => ?_⟩
    obtain ⟨v, h1, h2, h3, h4, h5, h6⟩ := hj2
    have hlx : pre.length ≤ 1000000 := by
      have := HLen.out
      rw [hpre, List.length_append] at this
      omega
    obtain ⟨v', w', hr, hI, hg, hn⟩ := append_int h4 (Nat.le_of_lt h3) x (by omega)
    have ka : Kept (fun k => v.ownBlock = some k) W2 w' := ((Kept.refl _ W2).alloc _).trans (Kept.of_grown hg (fun i e => e))
    have g1 : w'.cell? ⟨w.heap.size, 0, none⟩ = some v := (ka.cell (p := ⟨w.heap.size, 0, none⟩) h3 h5).trans h1
    have g2 : w'.frozen? ⟨w.heap.size, 0, none⟩ = false := (ka.frozen (p := ⟨w.heap.size, 0, none⟩) h3 h5).trans h2
    have hne : v'.ownBlock ≠ some w.heap.size := fun e => by
      rcases hn _ e with h | h
      · exact h5 h
      · omega
    have ks : Kept (fun k => k = w.heap.size) w' (w'.setCell ⟨w.heap.size, 0, none⟩ v') := (Kept.refl (fun k => k = w.heap.size) w').setCell (p := ⟨w.heap.size, 0, none⟩) (.inl rfl) _
    have HE := Lib.hid (show Step D W2 (fun D' => AppJ w.heap.size w.heap.size D' (pre ++ [x])) (w'.setCell ⟨w.heap.size, 0, none⟩ v') from
      ⟨fun k => k = w.heap.size ∨ v'.ownBlock = some k, ⟨v', World.cell?_setCell_same' _ _ _ (by rw [g1]; rfl), by rw [World.frozen?_setCell]; exact g2, Nat.lt_of_lt_of_le (Nat.lt_of_lt_of_le h3 ka.size) ks.size, hI.kept (fun k hk => ks.block k (hI.lt k hk).2 (fun e => hne (by rw [hk, e]))), hne, fun k => Iff.rfl⟩,
        fun k hk => by
          rcases hk with rfl | hk
          · exact .inl ((h6 _).2 (.inl rfl))
          · rcases hn k hk with h | h
            · exact .inl ((h6 k).2 (.inr h))
            · exact .inr h, (ka.mono fun i _ e => (h6 i).2 (.inr e)).trans (ks.mono fun i _ e => (h6 i).2 (.inl e))⟩)
    obtain ⟨A5, c5, e5, -⟩ := RowV.form hI
    subst e5
    have hne2 : ∀ j, ¬ w.heap.size = W2.heap.size + j := fun j e => by omega
    have hne3 : ¬ w.heap.size = W2.heap.size := fun e => by omega
    clear hk2 h4 h6 hI hg hn ka hne ks hk hD hj hpre hs2 hl hlt
    refine wpIn_block (region_round (fun ⟨_, _, h⟩ => by cases h) rfl ?_)
    go_wp2_with (at_builtin; refine wpList_append_eq rfl (.tmp 8) (.tmp 10) _ _ rfl v (.slice (some ⟨W2.heap.size, 0, none⟩) 1 1) rfl rfl hr ?_)
    exact HE.out
  case done =>
    intro D W hj hk hD hd
    obtain ⟨v, h1, h2, h3, h4, h5, h6⟩ := hj
    have kd := kept_putObj W W0.heap.size (.deferred none)
    have HE := Lib.hid (show SeqEnd own xs w (.returned v) (W.putObj W0.heap.size (.deferred none)) from ⟨v, rfl, h4.kept (fun k hk' => kd.block k (h4.lt k hk').2 (fun e => by
        rcases hD k ((h6 k).2 (.inr hk')) with h | h
        · omega
        · omega)), ((Kept.of_below (F := own) hb).trans' (hk.trans' kd (fun i hi h => by omega)) (fun i hi h => by
          rcases h with h | h
          · omega
          · exact h))⟩)
    obtain ⟨A5, c5, e5, -⟩ := RowV.form h4
    subst e5
    clear hk hD h4 h6 kd h2
    go_wp2_with fail
    refine ⟨by simp, .inl ⟨_, _, rfl, run_takeDeferred hd, ?_⟩⟩
    exact ⟨_, by simp [results, Try.results88, go_sem], HE.out⟩

theorem collect_any {f : FuncId} {caps : Array Value} {xs : List Nat} {R own : Nat → Prop} {St : World → Prop} (hit : IterIn f caps xs R own St) (eg : ∀ args w, (callFunc f args).run Try.prog w = .ok (.enter f args) w) {w : World}
    (hst : ∀ W, Below w.heap.size w W → St W) (hRlt : ∀ k, R k → k < w.heap.size) (howR : ∀ k, own k → R k) (hlen : xs.length ≤ 1000000) :
    Calls Try.prog 75 #[.func (.func f) #[] caps] w fun e w' => SeqEnd own xs w e w' := by
  have g := Lib.hid (appendseq_any hit eg hst hRlt howR hlen)
  clear hit eg hst hRlt howR hlen
  go_enter Try.func75, Try.ntmps75
  go_wp2_with fail
  refine g.out.mono ?_
  rintro e w' ⟨v, rfl, hI, hk⟩
  have HE := Lib.hid (show SeqEnd own xs w (.returned v) w' from ⟨v, rfl, hI, hk⟩)
  obtain ⟨A5, c5, e5, -⟩ := RowV.form hI
  subst e5
  clear hI hk
  go_wp2_with fail
  go_ret
  exact HE.out

set_option maxRecDepth 100000 in
set_option maxHeartbeats 400000 in
theorem below_any {w : World} {v : Value} {c : Cfg.C} (hc : CfgAt w v c) (hN : c.nodes.length ≤ 1000000) (n : Int) : ∀ w1, Below w.heap.size w w1 → Calls Try.prog 60 #[v, .int .i64 n] w1 fun e w' => PathEnd (Tree.below c n) w1 e w' := by
  intro w1 hb1
  replace hc := hc.below hb1
  clear hb1
  obtain ⟨v1, v2, rfl, -⟩ := id hc
  obtain ⟨half, hhalf⟩ : ∃ z, c.half = z := ⟨_, rfl⟩
  obtain ⟨age, hage⟩ : ∃ z, c.age = z := ⟨_, rfl⟩
  rw [hhalf, hage] at hc ⊢
  have HC := Lib.hid hc
  have hlen : (Tree.below c n).length ≤ 1000000 := by
    have h1 := List.length_filter_le (fun t => Tree.on c n t) (Cfg.leaves c)
    have h2 := leavesTo_le c c.nodes.length
    have h3 : (Cfg.leaves c).length ≤ c.nodes.length := h2
    unfold Tree.below
    omega
  have HLen := Lib.hid hlen
  clear hc hlen hhalf hage
  have hb : Below w1.heap.size w1 (w1.alloc (.cells #[v1, v2, .int .i64 half, .int .i64 age] 25)) := (Below.refl _ _).alloc (Nat.le_refl _) _
  have hbx := (CBox.new w1 v1 v2 half age)
  obtain ⟨z0, z1, z2, z3, z4⟩ := hbx
  have hs : (w1.alloc (.cells #[v1, v2, .int .i64 half, .int .i64 age] 25)).heap.size = w1.heap.size + 1 := by simp
  go_enter Try.func60, Try.ntmps60
  have HB := Lib.hid hb
  clear hb
  go_wp2_with fail
  generalize w1.alloc (.cells #[v1, v2, .int .i64 half, .int .i64 age] 25) = w2 at *
  refine (tenants_val v1 v2 half age n w2).mono ?_
  rintro e w3 ⟨rfl, rfl⟩
  have hb3 : Below w2.heap.size w2 ((w2.alloc (.cells #[v1, v2, .int .i64 half, .int .i64 age] 25)).alloc (.cells #[.int .i64 n] 3)) := by (repeat' (first | (with_reducible exact Below.refl _ _) | (with_reducible assumption) | (with_reducible refine Below.alloc ?_ ?_ _) | (with_reducible refine Go.Proofs.Ytbfpljnfalopdaa.L.below_drewN ?_ _) | (with_reducible refine Below.drew ?_) | (with_reducible refine Below.setCell ?_ ?_ _) | (with_reducible refine Below.frame ?_ _) | go_size))
  have hx3 : CBox ((w2.alloc (.cells #[v1, v2, .int .i64 half, .int .i64 age] 25)).alloc (.cells #[.int .i64 n] 3)) w2.heap.size v1 v2 half age := (CBox.new w2 v1 v2 half age).on ((Below.refl _ _).alloc (Nat.le_refl _) _)
  have hc3 : ((w2.alloc (.cells #[v1, v2, .int .i64 half, .int .i64 age] 25)).alloc (.cells #[.int .i64 n] 3)).cell? ⟨w2.heap.size + 1, 0, none⟩ = some (.int .i64 n) := by simp [go_sem]
  have hs3 : ((w2.alloc (.cells #[v1, v2, .int .i64 half, .int .i64 age] 25)).alloc (.cells #[.int .i64 n] 3)).heap.size = w2.heap.size + 2 := by simp
  generalize (w2.alloc (.cells #[v1, v2, .int .i64 half, .int .i64 age] 25)).alloc (.cells #[.int .i64 n] 3) = w3 at *
  have HB3 := Lib.hid hb3
  have g := Lib.hid (collect_any (w := w3) (tenants_iter HC.out hN n w2.heap.size (w2.heap.size + 1)) (fun _ _ => by kernel_rfl) (fun W hW => ⟨keeps_trans (keeps_trans HB.out HB3.out) hW, hx3.on hW, (hW.cell (p := ⟨w2.heap.size + 1, 0, none⟩) (by show w2.heap.size + 1 < w3.heap.size; omega)).trans hc3, by have := hW.size; omega⟩)
    (fun k h => by omega) (fun k h => h.elim) HLen.out)
  clear hb3 hx3 hc3 z1 z2 z3 z4
  go_wp2_with fail
  rw [← hs]
  refine g.out.mono ?_
  rintro e w4 ⟨v, rfl, hI, hk⟩
  have HE := Lib.hid (show PathEnd (Tree.below c n) w1 (.returned v) w4 from ⟨v, rfl, RowV.low hI (by omega), keeps_trans (keeps_trans HB.out HB3.out) (hk.below (Nat.le_refl _) (fun i h => h.elim))⟩)
  obtain ⟨A5, c5, e5, -⟩ := RowV.form hI
  subst e5
  clear hI hk g
  go_wp2_with fail
  go_ret
  exact HE.out
end Go.Proofs.Ytbfpljnfalopdaa.CfgW
