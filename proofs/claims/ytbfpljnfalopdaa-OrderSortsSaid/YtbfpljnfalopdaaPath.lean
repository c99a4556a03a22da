/-
  The way from the root to a node: qtree.Path; a row of whole numbers turned about.
-/
import Derived.Test.YtbfpljnfalopdaaCollect
import Derived.Test.YtbfpljnfalopdaaShelf
set_option linter.unusedVariables false
set_option linter.unusedSimpArgs false
namespace Go.Proofs.Ytbfpljnfalopdaa.CfgW
open Go Go.RowKit Go.Proofs.Ytbfpljnfalopdaa.L
attribute [local go_sem] Oper.semAt_some

theorem blk_setCells {g : Nat} {t : TypeId} : ∀ (vs : List Value) (o : Nat) (w : World) (cur : Array Value), Blk w g t cur → o + vs.length ≤ cur.size →
    ∃ cur', Blk (w.setCells g o vs) g t cur' ∧ cur'.size = cur.size ∧ cur'.toList = cur.toList.take o ++ vs ++ cur.toList.drop (o + vs.length)
  | [], o, w, cur, h, _ => ⟨cur, h, rfl, by simp⟩
  | v :: vs, o, w, cur, h, hl => by
    simp only [List.length_cons] at hl
    obtain ⟨cur', h1, h2, h3⟩ := blk_setCells vs (o + 1) (w.setCell ⟨g, o, none⟩ v) (cur.setIfInBounds o v) (Blk.set_ h o v) (by simp; omega)
    refine ⟨cur', h1, by simpa using h2, ?_⟩
    rw [h3, Array.toList_setIfInBounds]
    apply List.ext_getElem?
    intro i
    simp only [List.getElem?_append, List.getElem?_take, List.getElem?_drop, List.getElem?_set, List.length_take, List.length_append, List.length_cons, List.length_set, Array.length_toList]
    have hm1 : min (o + 1) cur.size = o + 1 := by omega
    have hm2 : min o cur.size = o := by omega
    rw [hm1, hm2]
    by_cases c1 : i < o
    · have : ¬ o = i := by omega
      simp [c1, this, show i < o + 1 + vs.length by omega, show i < o + 1 by omega, show i < o + (vs.length + 1) by omega]
    · by_cases c2 : i = o
      · subst c2
        simp [show i < i + 1 + vs.length by omega, show i < cur.size by omega, show i < i + (vs.length + 1) by omega]
      · by_cases c3 : i < o + 1 + vs.length
        · obtain ⟨j, rfl⟩ : ∃ j, i = o + 1 + j := ⟨i - (o + 1), by omega⟩
          have e1 : o + 1 + j - o = j + 1 := by omega
          simp [c3, show ¬ o + 1 + j < o + 1 by omega, show ¬ o + 1 + j < o by omega, show o + 1 + j < o + (vs.length + 1) by omega, e1]
        · have e2 : o + 1 + vs.length + (i - (o + 1 + vs.length)) = i := by omega
          have e3 : o + (vs.length + 1) + (i - (o + (vs.length + 1))) = i := by omega
          simp [c3, show ¬ i < o + (vs.length + 1) by omega, e2, e3, show ¬ o = i by omega]

theorem kept_setCells (g : Nat) : ∀ (vs : List Value) (o : Nat) (w : World), Kept (fun k => k = g) w (w.setCells g o vs)
  | [], o, w => Kept.refl _ w
  | v :: vs, o, w => ((Kept.refl (fun k => k = g) w).setCell (p := ⟨g, o, none⟩) (.inl rfl) v).trans (kept_setCells g vs (o + 1) _)

theorem ints_reverse {w : World} {B : Nat} {v : Value} {l : List Nat} (h : Ints w B v l) (hl : l.length ≤ 1000000) :
    Calls Try.prog 78 #[v] w fun e w' => e = .returned (.tuple #[]) ∧ Ints w' B v l.reverse ∧ Kept (fun k => v.ownBlock = some k) w w' := by
  have hlm : (ival l).length = l.length := by simp [ival]
  rcases h.2 with ⟨rfl, hx⟩ | ⟨g, cap, cur, rfl, hb, hh, hcap, hmax, hsz, htk⟩
  · have hn : l = [] := List.eq_nil_of_length_eq_zero (by omega)
    subst hn
    refine (Try.slices_Reverse_int_empty none 0 w).mono ?_
    rintro e w' ⟨rfl, rfl⟩
    exact ⟨rfl, RowV.nil _ _ _, Kept.refl _ _⟩
  · rw [hlm] at hcap htk ⊢
    rw [Nat.mul_one] at htk hsz
    have hcell : ∀ j (hj : j < l.length), cur[j]? = some (.int .i64 (l[j] : Int)) := fun j hj => by
      have e : (cur.toList.take l.length)[j]? = (ival l)[j]? := by rw [htk]
      rw [List.getElem?_take, if_pos hj, Array.getElem?_toList] at e
      rw [e]
      simp [ival, hj]
    refine (Try.slices_Reverse_int_cells g 0 l.length cap (l.map fun k : Nat => (k : Int)) w (by simp) (by omega) (fun j hj => ?_) (fun j hj => Blk.frozen hh _)).mono ?_
    · simp only [List.length_map] at hj
      rw [Nat.zero_add]
      refine (Blk.cell hh j).trans ?_
      rw [hcell j hj, List.getD_eq_getElem?_getD, List.getElem?_map, List.getElem?_eq_getElem hj]
      rfl
    · rintro e w' ⟨rfl, q, rfl⟩
      obtain ⟨cur', h1, h2, h3⟩ := blk_setCells (g := g) (t := 3) (((l.map fun k : Nat => (k : Int)).take l.length).reverse.map (Value.int .i64)) 0 (w.drewN q) cur hh (by simp; omega)
      have hr : ((l.map fun k : Nat => (k : Int)).take l.length).reverse.map (Value.int .i64) = ival l.reverse := by
        rw [List.take_of_length_le (by simp)]; simp [ival, List.map_reverse]
      have hrl : (ival l.reverse).length = l.length := by simp [ival]
      refine ⟨rfl, ⟨by simp [ival], .inr ⟨g, cap, cur', by rw [hrl], hb, h1, by rw [hrl]; exact hcap, hmax, by rw [h2, Nat.mul_one]; exact hsz, ?_⟩⟩, ?_⟩
      · rw [Nat.mul_one, h3, hr, List.take_zero, List.nil_append, List.take_append_of_le_length (Nat.le_refl _), List.take_length]
      · have := ((Kept.refl (fun k => k = g) w).drewN q).trans (kept_setCells g (((l.map fun k : Nat => (k : Int)).take l.length).reverse.map (Value.int .i64)) 0 (w.drewN q))
        exact this.mono fun i _ e => by rw [e]; rfl

set_option maxRecDepth 100000 in
set_option maxHeartbeats 400000 in
theorem path_any {w : World} {v : Value} {c : Cfg.C} (hc : CfgAt w v c) (hN : c.nodes.length ≤ 1000000) (hne : c.nodes ≠ []) (n : Int) : ∀ w1, Below w.heap.size w w1 → Calls Try.prog 68 #[v, .int .i64 n] w1 fun e w' => PathEnd (Tree.path c n) w1 e w' := by
  intro w1 hb1
  replace hc := hc.below hb1
  clear hb1
  have hlen : (Tree.up c n).length ≤ 1000000 := by have := Tree.up_length c n; omega
  have HLen := Lib.hid hlen
  obtain ⟨v1, v2, rfl, ⟨A, ca, rfl, hrA, hlA⟩, -⟩ := id hc
  obtain ⟨half, hhalf⟩ : ∃ z, c.half = z := ⟨_, rfl⟩
  obtain ⟨age, hage⟩ : ∃ z, c.age = z := ⟨_, rfl⟩
  rw [hhalf, hage] at hc ⊢
  have HC := Lib.hid hc
  have HRA := Lib.hid hrA
  obtain ⟨N, hNe⟩ : ∃ N, c.nodes.length = N := ⟨_, rfl⟩
  have HNe := Lib.hid hNe
  have hmN : c.nodes.length ≤ maxLen := by unfold maxLen; omega
  have HmN := Lib.hid hmN
  rw [hNe] at HC ⊢
  clear hc hlen hhalf hage hrA hlA hNe hmN hN
  have hb : Below w1.heap.size w1 (w1.alloc (.cells #[.slice A N ca, v2, .int .i64 half, .int .i64 age] 25)) := (Below.refl _ _).alloc (Nat.le_refl _) _
  have hbx := (CBox.new w1 (.slice A N ca) v2 half age)
  obtain ⟨z0, z1, z2, z3, z4⟩ := hbx
  have hs : (w1.alloc (.cells #[.slice A N ca, v2, .int .i64 half, .int .i64 age] 25)).heap.size = w1.heap.size + 1 := by simp
  go_enter Try.func68, Try.ntmps68
  have HB := Lib.hid hb
  clear hb
  go_wp2_with fail
  generalize w1.alloc (.cells #[.slice A N ca, v2, .int .i64 half, .int .i64 age] 25) = w2 at *
  refine (up_val (.slice A N ca) v2 half age n w2).mono ?_
  rintro e w3 ⟨rfl, rfl⟩
  have hb3 : Below w2.heap.size w2 ((w2.alloc (.cells #[.slice A N ca, v2, .int .i64 half, .int .i64 age] 25)).alloc (.cells #[.int .i64 n] 3)) := by (repeat' (first | (with_reducible exact Below.refl _ _) | (with_reducible assumption) | (with_reducible refine Below.alloc ?_ ?_ _) | (with_reducible refine Go.Proofs.Ytbfpljnfalopdaa.L.below_drewN ?_ _) | (with_reducible refine Below.drew ?_) | (with_reducible refine Below.setCell ?_ ?_ _) | (with_reducible refine Below.frame ?_ _) | go_size))
  have hx3 : CBox ((w2.alloc (.cells #[.slice A N ca, v2, .int .i64 half, .int .i64 age] 25)).alloc (.cells #[.int .i64 n] 3)) w2.heap.size (.slice A N ca) v2 half age := (CBox.new w2 (.slice A N ca) v2 half age).on ((Below.refl _ _).alloc (Nat.le_refl _) _)
  have hn3 : Blk ((w2.alloc (.cells #[.slice A N ca, v2, .int .i64 half, .int .i64 age] 25)).alloc (.cells #[.int .i64 n] 3)) (w2.heap.size + 1) 3 #[.int .i64 n] := by
    have h := Blk.new (w2.alloc (.cells #[.slice A N ca, v2, .int .i64 half, .int .i64 age] 25)) 3 #[.int .i64 n]
    simp only [World.size_alloc] at h
    exact h
  have hs3 : ((w2.alloc (.cells #[.slice A N ca, v2, .int .i64 half, .int .i64 age] 25)).alloc (.cells #[.int .i64 n] 3)).heap.size = w2.heap.size + 2 := by simp
  generalize (w2.alloc (.cells #[.slice A N ca, v2, .int .i64 half, .int .i64 age] 25)).alloc (.cells #[.int .i64 n] 3) = w3 at *
  have HB3 := Lib.hid hb3
  have hA : ∀ b o, A = some ⟨b, o, none⟩ → b < w1.heap.size := fun b o e => by
    obtain ⟨b', o', e', hb', _⟩ := HRA.out hne
    rw [e] at e'; cases e'; exact hb'
  have hrow : RowOf w3 A 11 ndec c.nodes := HRA.out.below (keeps_trans HB.out hb3)
  have g := Lib.hid (collect_any (w := w3) (up_iter (bn := w2.heap.size + 1) (bc := w2.heap.size) (A := A) (ca := ca) (v2 := v2) (half := half) (age := age) c HmN.out n (by omega) (fun b o e => by have := hA b o e; omega)) (fun _ _ => by kernel_rfl)
    (fun W hW => (⟨(Blk.cell hn3 0), (Blk.frozen hn3 0), Blk.lt hn3, by rw [HNe.out]; exact hx3, hrow⟩ : UpAt w3 (w2.heap.size + 1) w2.heap.size A c.nodes.length ca v2 half age c.nodes n).kept (F := fun _ => False) (Kept.of_below hW) (fun h => h) (fun h => h) (fun _ _ _ h => h))
    (fun k h => by
      rcases h with h | h | ⟨o, h⟩
      · omega
      · omega
      · have := hA _ _ h; omega) (fun k h => .inl h) HLen.out)
  clear hb3 hx3 hn3 z1 z2 z3 z4 hA hrow
  go_wp2_with fail
  rw [← hs]
  refine g.out.mono ?_
  rintro e w4 ⟨v, rfl, hI, hk⟩
  have gr := Lib.hid (ints_reverse hI HLen.out)
  have hlt4 := hk.size
  have HX := Lib.hid (And.intro (RowV.lt hI) (hk.mono (G := fun i => w1.heap.size ≤ i) (fun i _ h => by omega)))
  have hform := RowV.form hI
  obtain ⟨A5, c5, e5, -⟩ := hform
  subst e5
  clear hI hk g
  go_wp2_with fail
  refine gr.out.mono ?_
  rintro e w5 ⟨rfl, hI, hk⟩
  have HE := Lib.hid (show PathEnd (Tree.path c n) w1 (.returned (.slice A5 (ival (Tree.up c n)).length c5)) w5 from ⟨_, rfl, RowV.low hI (by omega), (((Kept.of_below (F := fun i => w1.heap.size ≤ i) (keeps_trans HB.out HB3.out)).trans HX.out.2).trans (hk.mono fun i _ e => (show w1.heap.size ≤ i by have := (HX.out.1 i e).1; omega))).below (Nat.le_refl _) (fun i h => h)⟩)
  clear hI hk gr
  go_wp2_with fail
  go_ret
  exact HE.out
end Go.Proofs.Ytbfpljnfalopdaa.CfgW
