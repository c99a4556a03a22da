/-
  Chapter 15: all that wait, in order, over any world.
-/
import Derived.Test.YtbfpljnfalopdaaSrtM
import Derived.Test.YtbfpljnfalopdaaOrdFew
import Derived.Test.YtbfpljnfalopdaaSrtSame
set_option linter.unusedVariables false
set_option linter.unusedSimpArgs false
namespace Go.Proofs.Ytbfpljnfalopdaa.Srt
open Go Go.RowKit Go.Sort Go.Proofs.Ytbfpljnfalopdaa.L Go.Proofs.Ytbfpljnfalopdaa.CfgW Go.Proofs.Ytbfpljnfalopdaa.OrdW

theorem StEq.map_ {α β : Type} {f : α → α → Int} (hf : Ord.IsCmp f) {g : β → α} {l l' : List β} (h : StEq (fun a b => f (g a) (g b)) l l') : StEq f (l.map g) (l'.map g) := fun x => by
  rw [List.filter_map, List.filter_map]
  congr 1
  by_cases hx : ∃ y, f x (g y) = 0
  · obtain ⟨y, hy⟩ := hx
    have e : ((fun z => f x z == 0) ∘ g) = fun z => f (g y) (g z) == 0 := by
      funext z
      show (f x (g z) == 0) = _
      rw [hf.eq_left (g z) hy]
    rw [e]
    exact h y
  · have e : ((fun z => f x z == 0) ∘ g) = fun _ => false := by
      funext z
      show (f x (g z) == 0) = false
      rw [beq_eq_false_iff_ne]
      exact fun e => hx ⟨z, e⟩
    rw [e, List.filter_eq_nil_iff.2 (fun _ _ h => by cases h), List.filter_eq_nil_iff.2 (fun _ _ h => by cases h)]
theorem sorted_put (c : Cfg.C) (h : List Nat) (now : Int) (qs : List PO) : (sorted c h now qs).toList.map (·.1) = putAll (Ord.cmp c h now) (qs.map (·.1)) := by
  have hf : Ord.IsCmp (cmpP c h now) := (Ord.cmp_cmp c h now).pull (fun x : PO => x.1)
  have F := fold_sorted (Ord.cmp_cmp c h now) (qs.map (·.1)) [] List.Pairwise.nil
  have F2 := fold_sorted hf qs [] List.Pairwise.nil
  have e := putAll_sort hf qs
  have e2 : sorted c h now qs = Sort.insertionSort (ltOf (cmpP c h now)) qs.toArray 0 qs.length := rfl
  rw [e2, ← e]
  refine st_unique (Ord.cmp_cmp c h now) ?_ F.1 ?_
  · exact List.Pairwise.map (fun x : PO => x.1) (fun x y h => h) F2.1
  · have f1 := F.2
    have f2 := F2.2
    rw [List.nil_append] at f1 f2
    exact (StEq.map_ (Ord.cmp_cmp c h now) f2).symm.trans f1
theorem sortout_sl {w w' : World} {qs : List PO} {d : Array PO} {v : Value} (h : SortOut w w' qs d v) (hd : d.size = qs.length) : SlK w' 11 pdec v (d.toList.map (·.1)) := by
  rcases h with ⟨rfl, rfl⟩ | ⟨g, cap, rfl, hh, _, hl⟩
  · have : d = #[] := Array.eq_empty_of_size_eq_zero hd
    subst this
    exact ⟨none, 0, rfl, fun e => absurd rfl e⟩
  · refine ⟨some ⟨g, 0, none⟩, cap, by simp [hd], fun _ => ⟨g, 0, rfl, hl, fun i x hx j u hu => ?_⟩⟩
    have hi : i < d.size := by have := (List.getElem?_eq_some_iff.1 hx).1; simpa using this
    have hj : j < 11 := (List.getElem?_eq_some_iff.1 hu).1
    have hc := (hh.cell (i := i) (c := j) hi hj).1
    have hxe : x = (d[i]!).1 := by
      rw [getElem!_pos d i hi]
      simpa [hi] using hx.symm
    subst hxe
    have h2 : (encP d[i]!)[j]! = u := by
      have h3 : (encP d[i]!)[j]? = some u := hu
      rw [getElem!_def, h3]
    rw [h2] at hc
    rw [Nat.zero_add]
    rw [Nat.zero_add] at hc
    exact hc
end Go.Proofs.Ytbfpljnfalopdaa.Srt
namespace Go.Proofs.Ytbfpljnfalopdaa.OrdW
open Go Go.RowKit Go.Sort Go.Proofs.Ytbfpljnfalopdaa.L Go.Proofs.Ytbfpljnfalopdaa.CfgW Go.Proofs.Ytbfpljnfalopdaa.Srt

theorem sorted_size (c : Cfg.C) (h : List Nat) (now : Int) (qs : List PO) : (sorted c h now qs).size = qs.length := by
  have := (ins_mrg (f := cmpP c h now) ((Ord.cmp_cmp c h now).pull (fun x : PO => x.1)) qs.toArray (Nat.zero_le qs.length) (by simp)).size
  simpa [sorted] using this
set_option maxRecDepth 100000 in
set_option maxHeartbeats 4000000 in
theorem lawsorts_any {w : World} {v1 v2 : Value} {c : Cfg.C} {now next : Int} {ps : List Ord.P} {vp : Value} {Ar : Option Addr} {nr cr : Nat} {h : List Nat} {vh : Value} (hc : CfgAt w (.agg #[v1, v2, .int .i64 c.half, .int .i64 c.age]) c) (hA : InI c.age) (hN : InI now) (hp : PSl w vp ps) (hh : FSl w vh h) :
    Calls Try.prog 7 #[.agg #[v1, v2, .int .i64 c.half, .int .i64 c.age, .int .i64 now, .int .i64 next, vp, .slice Ar nr cr, vh]] w fun e w' => e = .returned (.bool true) ∧ Below w.heap.size w w' := by
  have hp0 := hp
  obtain ⟨Ap, cp, rfl, -, -, -, hpo⟩ := id hp
  obtain ⟨Ah, ch, rfl, -, -, -⟩ := id hh
  have gF := few_any (now := now) (next := next) hc Ap Ar Ah ps.length cp nr cr h.length ch
  have aw := Lib.hid awake15
  obtain ⟨fb, hfb⟩ : ∃ x, fewB c ps.length nr h.length = x := ⟨_, rfl⟩
  rw [hfb] at gF
  obtain ⟨qs, hqs⟩ := lift_row ps hpo
  have GS : fewB c ps.length nr h.length = true → ∀ W, Below w.heap.size w W → Calls Try.prog 31 #[.agg #[v1, v2, .int .i64 c.half, .int .i64 c.age, .int .i64 now, .int .i64 next, .slice Ap ps.length cp, .slice Ar nr cr, .slice Ah h.length ch]] W fun e W' => ∃ v, e = .returned v ∧ SlK W' 11 pdec v (putAll (Ord.cmp c h now) ps) ∧ Below W.heap.size W W' := fun hf W hW => by
    have F := fewB_ok hf
    have st : StAt W v1 v2 (.slice Ah h.length ch) c h := StAt.below ⟨hc, F.len, F.wok, hh⟩ hW
    have hpW : PSl W (.slice Ap ps.length cp) (qs.map (·.1)) := by
      rw [hqs]
      obtain ⟨A, cap, e, h1, h2, h3, h4⟩ := hp
      cases e
      exact ⟨_, _, rfl, h1, h2, h3.below hW, h4⟩
    have hl : qs.length = ps.length := by rw [← hqs, List.length_map]
    refine (sort_any (vr := .slice Ar nr cr) (next := next) st F.ne ⟨hA, hN⟩ hpW (by have := F.np; omega)).mono ?_
    rintro e W' ⟨v, rfl, ho, hb⟩
    refine ⟨v, rfl, ?_, hb⟩
    have := sortout_sl ho (sorted_size c h now qs)
    rw [sorted_put, hqs] at this
    exact this
  have GR : fewB c ps.length nr h.length = true → ∀ W, Below w.heap.size w W → Calls Try.prog 32 #[.agg #[v1, v2, .int .i64 c.half, .int .i64 c.age, .int .i64 now, .int .i64 next, .slice Ap ps.length cp, .slice Ar nr cr, .slice Ah h.length ch]] W fun e W' => ∃ v, e = .returned v ∧ SlK W' 11 pdec v (putAll (Ord.cmp c h now) ps) ∧ Below W.heap.size W W' := fun hf W hW => by
    have F := fewB_ok hf
    have st : StAt W v1 v2 (.slice Ah h.length ch) c h := StAt.below ⟨hc, F.len, F.wok, hh⟩ hW
    have hpW : PSl W (.slice Ap ps.length cp) ps := by
      obtain ⟨A, cap, e, h1, h2, h3, h4⟩ := hp
      cases e
      exact ⟨_, _, rfl, h1, h2, h3.below hW, h4⟩
    refine (rsort_any (vr := .slice Ar nr cr) (next := next) st ⟨hA, hN⟩ hpW (by have := F.np; omega)).mono ?_
    rintro e W' ⟨v, rfl, ho, hb⟩
    exact ⟨v, rfl, ho.sl pel.len, hb⟩
  have GSR := Lib.hid (And.intro GS GR)
  have HPL := Lib.hid (show fewB c ps.length nr h.length = true → (putAll (Ord.cmp c h now) ps).length ≤ 1000000 from fun hf => by rw [putAll_len]; have := (fewB_ok hf).np; omega)
  obtain ⟨qp, hqp⟩ : ∃ x, putAll (Ord.cmp c h now) ps = x := ⟨_, rfl⟩
  obtain ⟨half, hhalf⟩ : ∃ z, c.half = z := ⟨_, rfl⟩
  obtain ⟨age, hage⟩ : ∃ z, c.age = z := ⟨_, rfl⟩
  obtain ⟨np, hnp⟩ : ∃ z, ps.length = z := ⟨_, rfl⟩
  obtain ⟨nh, hnh⟩ : ∃ z, h.length = z := ⟨_, rfl⟩
  clear GS GR
  rw [hhalf, hage, hnp, hnh] at gF ⊢
  rw [hfb, hqp, hhalf, hage, hnp, hnh] at GSR
  rw [hfb, hqp] at HPL
  clear hc hA hN hp hp0 hh hhalf hage hnp hnh hfb hqp hpo hqs
  obtain ⟨wq, hwq⟩ : ∃ x, w.alloc (.cells #[v1, v2, .int .i64 half, .int .i64 age, .int .i64 now, .int .i64 next, .slice Ap np cp, .slice Ar nr cr, .slice Ah nh ch] 53) = x := ⟨_, rfl⟩
  have hbw : Below w.heap.size w wq := by
    rw [← hwq]
    (repeat' (first | (with_reducible exact Below.refl _ _) | (with_reducible assumption) | (with_reducible refine Below.alloc ?_ ?_ _) | (with_reducible refine Go.Proofs.Ytbfpljnfalopdaa.L.below_drewN ?_ _) | (with_reducible refine Below.drew ?_) | (with_reducible refine Below.setCell ?_ ?_ _) | (with_reducible refine Below.frame ?_ _) | go_size))
  have hsb : Blk wq w.heap.size 53 #[v1, v2, .int .i64 half, .int .i64 age, .int .i64 now, .int .i64 next, .slice Ap np cp, .slice Ar nr cr, .slice Ah nh ch] := by rw [← hwq]; exact Blk.new _ _ _
  have HX := Lib.hid hsb
  have HB := Lib.hid hbw
  have HWQ := Lib.hid hwq
  clear hsb hbw hwq
  cases fb
  · have GF := Lib.hid (show GivesAt Try.prog w _ _ (.int .i64 0) from gF)
    clear gF GSR HPL
    go_enter Try.func7, Try.ntmps7
    go_wp2_with fail
    refine Eq.mp (congrArg (fun z => Calls Try.prog _ _ z _) HWQ.out.symm) ?_
    refine (GF.out _ HB.out).mono ?_
    rintro e w2 ⟨rfl, hb2⟩
    have HB2 := Lib.hid (keeps_trans HB.out hb2)
    clear hb2
    go_wp2_with fail
    refine (aw.out _).mono ?_
    rintro e w3 ⟨rfl, hb3⟩
    have HF := Lib.hid (keeps_trans HB2.out hb3)
    clear hb3
    go_wp2_with fail
    go_ret
    exact ⟨rfl, HF.out⟩
  · have GF := Lib.hid (show GivesAt Try.prog w _ _ (.int .i64 1) from gF)
    clear gF
    go_enter Try.func7, Try.ntmps7
    go_wp2_with fail
    refine Eq.mp (congrArg (fun z => Calls Try.prog _ _ z _) HWQ.out.symm) ?_
    refine (GF.out _ HB.out).mono ?_
    rintro e w2 ⟨rfl, hb2⟩
    have HB2 := Lib.hid (keeps_trans HB.out hb2)
    have hsb := Blk.below HX.out hb2 (Blk.lt HX.out)
    have S0 : ∀ W, Onward w2 W → W.cell? ⟨w.heap.size, 0, none⟩ = some v1 ∧ W.cell? ⟨w.heap.size, 1, none⟩ = some v2 ∧ W.cell? ⟨w.heap.size, 2, none⟩ = some (.int .i64 half) ∧ W.cell? ⟨w.heap.size, 3, none⟩ = some (.int .i64 age) ∧ W.cell? ⟨w.heap.size, 4, none⟩ = some (.int .i64 now) ∧ W.cell? ⟨w.heap.size, 5, none⟩ = some (.int .i64 next) ∧ W.cell? ⟨w.heap.size, 6, none⟩ = some (.slice Ap np cp) ∧ W.cell? ⟨w.heap.size, 7, none⟩ = some (.slice Ar nr cr) ∧ W.cell? ⟨w.heap.size, 8, none⟩ = some (.slice Ah nh ch) := fun W hW => by
      have h := Blk.below hsb hW (Blk.lt hsb)
      exact ⟨Blk.cell h 0, Blk.cell h 1, Blk.cell h 2, Blk.cell h 3, Blk.cell h 4, Blk.cell h 5, Blk.cell h 6, Blk.cell h 7, Blk.cell h 8⟩
    clear hsb hb2 GF
    go_wp2_with fail
    refine region_pt (.take 0 (.take 2 (.one 1 (.one 3 (.one 4 (.take 5 (.one 6 (.take 7 (.take 8 .done))))))))) (by kernel_rfl) (by kernel_rfl) ?_
    iterate 2 (apply Go.Proofs.Ytbfpljnfalopdaa.L.pt_take; (focus rfl); (focus rfl); (focus (intro W hW; go_simp; first | done | exact ⟨rfl, rfl⟩ | rfl)); (focus (go_simp; first | done | rfl)))
    refine pt_one ?_
    (apply Go.Proofs.Ytbfpljnfalopdaa.L.pt_call; (focus rfl); (focus rfl); (focus (go_simp; first | done | exact ⟨⟨rfl, rfl⟩, rfl⟩ | rfl)))
    refine (GSR.out.1 trivial _ (keeps_trans HB2.out (Onward.drew w2))).mono ?_
    rintro e w3 ⟨va, rfl, hva, hb3⟩
    have hq3 : Onward w2 w3 := keeps_trans (Onward.drew w2) hb3
    refine ⟨va, rfl, hq3, ?_⟩
    refine pt_one ?_
    (apply Go.Proofs.Ytbfpljnfalopdaa.L.pt_call; (focus rfl); (focus rfl); (focus (go_simp; first | done | exact ⟨⟨rfl, rfl⟩, rfl⟩ | rfl)))
    refine (GSR.out.2 trivial _ (keeps_trans HB2.out hq3)).mono ?_
    rintro e w4 ⟨vb, rfl, hvb, hb4⟩
    have hq4 : Onward w2 w4 := keeps_trans hq3 hb4
    refine ⟨vb, rfl, hq4, ?_⟩
    refine pt_one ?_
    (apply Go.Proofs.Ytbfpljnfalopdaa.L.pt_call; (focus rfl); (focus rfl); (focus (go_simp; first | done | exact ⟨⟨rfl, rfl⟩, rfl⟩ | rfl)))
    refine (rsame15_any (hva.below hb4) hvb (HPL.out trivial) w4 (Below.refl _ _)).mono ?_
    rintro e w5 ⟨rfl, hb5⟩
    have hq5 : Onward w2 w5 := keeps_trans hq4 hb5
    refine ⟨_, rfl, hq5, ?_⟩
    iterate 1 (apply Go.Proofs.Ytbfpljnfalopdaa.L.pt_take; (focus rfl); (focus rfl); (focus (intro W hW; go_simp; first | done | exact ⟨rfl, rfl⟩ | rfl)); (focus (go_simp; first | done | rfl)))
    refine pt_one ?_
    (apply Go.Proofs.Ytbfpljnfalopdaa.L.pt_call; (focus rfl); (focus rfl); (focus (go_simp; first | done | exact ⟨⟨rfl, rfl⟩, rfl⟩ | rfl)))
    refine (aw.out _).mono ?_
    rintro e w6 ⟨rfl, hb6⟩
    have hq6 : Onward w2 w6 := keeps_trans hq5 hb6
    refine ⟨_, rfl, hq6, ?_⟩
    iterate 2 (apply Go.Proofs.Ytbfpljnfalopdaa.L.pt_take; (focus rfl); (focus rfl); (focus (intro W hW; go_simp; first | done | exact ⟨rfl, rfl⟩ | rfl)); (focus (go_simp; first | done | rfl)))
    refine pt_done ?_
    have HF := Lib.hid (keeps_trans HB2.out hq6)
    clear S0 hva hvb hb3 hb4 hb5 hb6 hq3 hq4 hq5 hq6
    go_wp2_with fail
    go_ret
    exact ⟨rfl, HF.out⟩
end Go.Proofs.Ytbfpljnfalopdaa.OrdW
