/-
  The document's sort of waiting gangs: its walk.
-/
import Derived.Test.YtbfpljnfalopdaaOrdRCmp
import Derived.Test.YtbfpljnfalopdaaOrdOpen
import Derived.Test.YtbfpljnfalopdaaRowK
import Derived.Test.YtbfpljnfalopdaaPlanT
import Derived.Test.YtbfpljnfalopdaaStIns
import Derived.Test.YtbfpljnfalopdaaSrtM
import Derived.Deep.DeepCutAuto
import Derived.Deep.CutBlock
set_option linter.unusedVariables false
set_option linter.unusedSimpArgs false
namespace Go.Proofs.Ytbfpljnfalopdaa.Srt
open Go Go.RowKit Go.Sort Go.Proofs.Ytbfpljnfalopdaa.L Go.Proofs.Ytbfpljnfalopdaa.CfgW Go.Proofs.Ytbfpljnfalopdaa.OrdW

instance : Inhabited Ord.P := ⟨⟨0, 0, 0, ⟨0, 0, 0⟩, 0, 0, 0, 0, 0⟩⟩
def pdec (p : Ord.P) : List Value := (prow p).toList
theorem pel : Elem pdec 11 := ⟨fun _ => rfl, fun x u hu => by
  simp only [pdec, prow, List.mem_cons, List.not_mem_nil, or_false] at hu
  rcases hu with rfl | rfl | rfl | rfl | rfl | rfl | rfl | rfl | rfl | rfl | rfl <;> rfl⟩
theorem putIn_mem {α : Type} [Inhabited α] {f : α → α → Int} {l : List α} {x y : α} (h : y ∈ putIn f l x) : y ∈ l ∨ y = x := by
  unfold putIn at h
  rw [List.mem_append, List.mem_append] at h
  rcases h with h | h | h
  · exact .inl (List.mem_of_mem_take h)
  · exact .inr (by simpa using h)
  · exact .inl (List.mem_of_mem_drop h)
theorem putAll_mem {α : Type} [Inhabited α] {f : α → α → Int} : ∀ (xs l : List α) (y : α), y ∈ xs.foldl (putIn f) l → y ∈ l ∨ y ∈ xs
  | [], l, y, h => .inl h
  | x :: xs, l, y, h => by
    rcases putAll_mem xs _ y h with h | h
    · rcases putIn_mem h with h | h
      · exact .inl h
      · exact .inr (by simp [h])
    · exact .inr (List.mem_cons_of_mem _ h)
theorem pat_of {W : World} {b o : Nat} {p : Ord.P} (h : ∀ j u, (pdec p)[j]? = some u → W.cell? ⟨b, o + j, none⟩ = some u) : W.cell? ⟨b, o, none⟩ = some (.int .i64 p.id) ∧ W.cell? ⟨b, o + 1, none⟩ = some (.int .i64 p.tenant) ∧ W.cell? ⟨b, o + 2, none⟩ = some (.int .i64 p.pods) ∧ W.cell? ⟨b, o + 3, none⟩ = some (.int .i64 p.need.x) ∧ W.cell? ⟨b, o + 4, none⟩ = some (.int .i64 p.need.y) ∧ W.cell? ⟨b, o + 5, none⟩ = some (.int .i64 p.need.z) ∧ W.cell? ⟨b, o + 6, none⟩ = some (.int .i64 p.run) ∧ W.cell? ⟨b, o + 7, none⟩ = some (.int .i64 p.level) ∧ W.cell? ⟨b, o + 8, none⟩ = some (.int .i64 p.prefer) ∧ W.cell? ⟨b, o + 9, none⟩ = some (.int .i64 p.seq) ∧ W.cell? ⟨b, o + 10, none⟩ = some (.int .i64 p.since) :=
  ⟨by have := h 0 _ rfl; rwa [Nat.add_zero] at this, h 1 _ rfl, h 2 _ rfl, h 3 _ rfl, h 4 _ rfl, h 5 _ rfl, h 6 _ rfl, h 7 _ rfl, h 8 _ rfl, h 9 _ rfl, h 10 _ rfl⟩

/-- append of waiting gangs behind a row of the call's own. -/
theorem appP {wc W : World} (hO : Onward wc W) {v : Value} {xs ys : List Ord.P} (h : RowK W wc.heap.size 57 11 pdec v xs) {A : Option Addr} {m c : Nat} (hr : RowOf W A 11 pdec ys) (hm : ys.length = m) (hl : xs.length + m ≤ 1048576) :
    ∃ v' W', (Builtin.append_ #[49, 49] 49 #[v, .slice A m c]).run Try.prog W = .ok v' W' ∧ RowK W' wc.heap.size 57 11 pdec v' (xs ++ ys) ∧ Onward wc W' ∧ (v.ownBlock = none → Onward W W') := by
  obtain ⟨i0, hi, hz0, hz1, hz2⟩ := info_parts pinfo
  obtain ⟨v', W', h1, h2, h3, _, _⟩ := appendk 49 49 i0 _ 88 Try.underlying49 hi hz0 hz1 hz2 rfl (by omega) pel h hm hr hO.size (by unfold maxLen; omega) (by omega) (c := c)
  refine ⟨v', W', h1, h2, Below.grown hO h3 hO.size (fun k hk => (h.lt k hk).1), fun hv => Below.grown (Below.refl _ _) h3 (Nat.le_refl _) (fun k hk => by rw [hv] at hk; cases hk)⟩

set_option maxRecDepth 100000 in
set_option maxHeartbeats 4000000 in
theorem rsort_any {w : World} {v1 v2 vp vr vh : Value} {now next : Int} {c : Cfg.C} {h : List Nat} (hs : StAt w v1 v2 vh c h) (hn : NumOk c now) {ps : List Ord.P} (hp : PSl w vp ps) (hl : ps.length ≤ 1000000) :
    Calls Try.prog 32 #[.agg #[v1, v2, .int .i64 c.half, .int .i64 c.age, .int .i64 now, .int .i64 next, vp, vr, vh]] w fun e w' =>
      ∃ v, e = .returned v ∧ RowK w' w.heap.size 57 11 pdec v (putAll (Ord.cmp c h now) ps) ∧ Below w.heap.size w w' := by
  obtain ⟨i0, hi, hz0, hz1, hz2⟩ := info_parts pinfo
  have HI := Lib.hid (And.intro hi (And.intro hz0 (And.intro hz1 hz2)))
  obtain ⟨A, cap, rfl, hlc, hcm, hrow, hok⟩ := hp
  have hx := SBox.new w 53 v1 v2 c.half c.age now next (.slice A ps.length cap) vr vh
  have hb1 : Below w.heap.size w (w.alloc (.cells #[v1, v2, .int .i64 c.half, .int .i64 c.age, .int .i64 now, .int .i64 next, .slice A ps.length cap, vr, vh] 53)) := (Below.refl _ _).alloc (Nat.le_refl _) _
  have HRW := Lib.hid (hrow.below hb1)
  have HST := Lib.hid (hs.below hb1)
  have HN := Lib.hid (And.intro hn hok)
  obtain ⟨half, hhalf⟩ : ∃ z, c.half = z := ⟨_, rfl⟩
  obtain ⟨age, hage⟩ : ∃ z, c.age = z := ⟨_, rfl⟩
  obtain ⟨n, hqn⟩ : ∃ n, ps.length = n := ⟨_, rfl⟩
  obtain ⟨f, hf⟩ : ∃ f, f = Ord.cmp c h now := ⟨_, rfl⟩
  rw [hhalf, hage, hqn] at hx hb1 HRW HST ⊢
  rw [hqn] at hl hlc
  rw [← hf]
  have HH := Lib.hid (And.intro hhalf (And.intro hage (And.intro hqn hf)))
  obtain ⟨w1, hw1⟩ : ∃ w1, w.alloc (.cells #[v1, v2, .int .i64 half, .int .i64 age, .int .i64 now, .int .i64 next, .slice A n cap, vr, vh] 53) = w1 := ⟨_, rfl⟩
  have hwz : w1.heap.size = w.heap.size + 1 := by rw [← hw1]; simp
  have HQ := Lib.hid hw1
  rw [hw1] at hx hb1 HRW HST
  have HX := Lib.hid (And.intro hx (And.intro hb1 hwz))
  have S0 : ∀ W, Onward w1 W → W.cell? ⟨w.heap.size, 0, none⟩ = some v1 ∧ W.cell? ⟨w.heap.size, 1, none⟩ = some v2 ∧ W.cell? ⟨w.heap.size, 2, none⟩ = some (.int .i64 half) ∧ W.cell? ⟨w.heap.size, 3, none⟩ = some (.int .i64 age) ∧ W.cell? ⟨w.heap.size, 4, none⟩ = some (.int .i64 now) ∧ W.cell? ⟨w.heap.size, 5, none⟩ = some (.int .i64 next) ∧ W.cell? ⟨w.heap.size, 6, none⟩ = some (.slice A n cap) ∧ W.cell? ⟨w.heap.size, 7, none⟩ = some vr ∧ W.cell? ⟨w.heap.size, 8, none⟩ = some vh := fun W hW => by
    have y := HX.out.1.below hW
    exact ⟨y.c0, y.c1, y.c2, y.c3, y.c4, y.c5, y.c6, y.c7, y.c8⟩
  have HS0 := Lib.hid S0
  have s6 := (S0 w1 (Onward.refl w1)).2.2.2.2.2.2.1
  clear hs hn hok hrow hx hb1 hhalf hage hf hqn hw1 hwz hi hz0 hz1 hz2 S0
  have CG : Hid (∀ (x y : Ord.P), x ∈ ps → y ∈ ps → ∀ W, Onward w1 W → Calls Try.prog 27 #[.agg #[v1, v2, .int .i64 half, .int .i64 age, .int .i64 now, .int .i64 next, .slice A n cap, vr, vh], .agg (prow x), .agg (prow y)] W fun e W' => e = .returned (.int .i64 (f x y)) ∧ Onward W W') := Lib.hid fun x y hx hy W hW => by
    have g := rcmp_any (vp := .slice A n cap) (vr := vr) (next := next) HST.out HN.out.1 x y (HN.out.2 x hx).1 (HN.out.2 y hy).1 W hW
    rw [HH.out.1, HH.out.2.1, ← HH.out.2.2.2] at g
    exact g
  go_enter Try.func32, Try.ntmps32
  go_wp2_with fail
  rw [HQ.out]
  go_loopg [3, 4] n (fun g1 v vi wr => ∃ i : Nat, vi = .int .i64 i ∧ i ≤ n ∧ n ≤ g1 + i ∧ Hid (RowK wr w.heap.size 57 11 pdec v (putAll f (ps.take i))) ∧ Hid (Onward w1 wr))
  case atStart => exact ⟨0, by go_num, by omega, by omega, Lib.hid (RowK.nil _ _ _ _ _), Lib.hid (Onward.refl w1)⟩
  case round =>
    obtain ⟨wo, rfl⟩ : ∃ wo : World, wo = wr := ⟨_, rfl⟩
    obtain ⟨i, rfl, hin, hg1, HV, HW⟩ := hrel
    obtain ⟨out, hout⟩ : ∃ out, out = putAll f (ps.take i) := ⟨_, rfl⟩
    have hol : out.length = i := by rw [hout, putAll_len, List.length_take]; have := HH.out.2.2.1; omega
    have hmem : ∀ y ∈ out, y ∈ ps := fun y hy => by
      rw [hout] at hy
      rcases putAll_mem _ _ _ hy with e | e
      · cases e
      · exact List.mem_of_mem_take e
    rw [← hout] at HV
    have HO := Lib.hid (And.intro hout (And.intro hol hmem))
    clear hout hol hmem s6
    have S1 := fun W (hW : Onward wo W) => HS0.out W (keeps_trans HW.out hW)
    have s6 := (S1 wo (Onward.refl wo)).2.2.2.2.2.2.1
    by_cases hlt : i < n
    · have hltz : (i : Int) < (n : Int) := by omega
      obtain ⟨x, hxx⟩ : ∃ x, ps[i]? = some x := ⟨_, List.getElem?_eq_getElem (by have := HH.out.2.2.1; omega)⟩
      obtain ⟨b, o, rfl, hbl, hcx⟩ := HRW.out.at_ (i := i) (by have := HH.out.2.2.1; omega)
      have HXM := Lib.hid (show x ∈ ps from List.mem_of_getElem? hxx)
      have hxe : ps[i]'(by have := HH.out.2.2.1; omega) = x := by
        rw [List.getElem?_eq_getElem (by have := HH.out.2.2.1; omega)] at hxx
        exact Option.some.inj hxx
      rw [hxe] at hcx
      have X1 : ∀ W, Onward wo W → W.cell? ⟨b, o + i * 11, none⟩ = some (.int .i64 x.id) ∧ W.cell? ⟨b, o + i * 11 + 1, none⟩ = some (.int .i64 x.tenant) ∧ W.cell? ⟨b, o + i * 11 + 2, none⟩ = some (.int .i64 x.pods) ∧ W.cell? ⟨b, o + i * 11 + 3, none⟩ = some (.int .i64 x.need.x) ∧ W.cell? ⟨b, o + i * 11 + 4, none⟩ = some (.int .i64 x.need.y) ∧ W.cell? ⟨b, o + i * 11 + 5, none⟩ = some (.int .i64 x.need.z) ∧ W.cell? ⟨b, o + i * 11 + 6, none⟩ = some (.int .i64 x.run) ∧ W.cell? ⟨b, o + i * 11 + 7, none⟩ = some (.int .i64 x.level) ∧ W.cell? ⟨b, o + i * 11 + 8, none⟩ = some (.int .i64 x.prefer) ∧ W.cell? ⟨b, o + i * 11 + 9, none⟩ = some (.int .i64 x.seq) ∧ W.cell? ⟨b, o + i * 11 + 10, none⟩ = some (.int .i64 x.since) := fun W hW => pat_of (hcx W (keeps_trans HW.out hW))
      have HX1 := Lib.hid (And.intro S1 X1)
      have HXX := Lib.hid (And.intro hxx hxe)
      clear hcx hxx hxe S1 X1
      obtain ⟨A2, c2, rfl, hsl⟩ := HV.out.sl pel.len
      rw [HO.out.2.1] at HV ⊢
      have HSL := Lib.hid hsl
      clear hsl
      obtain ⟨kf, hkf⟩ : ∃ k, k = downTo f x out i := ⟨_, rfl⟩
      have hki : kf ≤ i := by rw [hkf]; exact downTo_le x out i
      have HK := Lib.hid hkf
      clear hkf
      go_upto_block 2 with fail
      go_cut [5] (fun v wx => v = .int .i64 kf ∧ Onward wo wx)
      case first =>
        go_wp2_with fail
        go_loopg [5] i (fun g2 vk wx => ∃ k : Nat, vk = .int .i64 k ∧ k ≤ i ∧ k ≤ g2 ∧ Hid (downTo f x out k = kf) ∧ Hid (Onward wo wx))
        case atStart => exact ⟨i, rfl, Nat.le_refl _, Nat.le_refl _, Lib.hid HK.out.symm, Lib.hid (Onward.refl wo)⟩
        case round =>
          obtain ⟨k, rfl, hk, hg2, HD, HWX⟩ := hrel
          by_cases hk0 : 0 < k
          · obtain ⟨p, rfl⟩ : ∃ p, k = p + 1 := ⟨k - 1, by omega⟩
            obtain ⟨y, hy⟩ : ∃ y, out[p]? = some y := ⟨_, List.getElem?_eq_getElem (by have := HO.out.2.1; omega)⟩
            obtain ⟨b2, o2, rfl, hbl2, hcy⟩ := HSL.out.at_ (i := p) (by have := HO.out.2.1; omega)
            have hye : out[p]'(by have := HO.out.2.1; omega) = y := by
              rw [List.getElem?_eq_getElem (by have := HO.out.2.1; omega)] at hy
              exact Option.some.inj hy
            rw [hye] at hcy
            have hgp : out.getD p default = y := by simp [hy]
            have X1 : ∀ W, Onward wr W → W.cell? ⟨b, o + i * 11, none⟩ = some (.int .i64 x.id) ∧ W.cell? ⟨b, o + i * 11 + 1, none⟩ = some (.int .i64 x.tenant) ∧ W.cell? ⟨b, o + i * 11 + 2, none⟩ = some (.int .i64 x.pods) ∧ W.cell? ⟨b, o + i * 11 + 3, none⟩ = some (.int .i64 x.need.x) ∧ W.cell? ⟨b, o + i * 11 + 4, none⟩ = some (.int .i64 x.need.y) ∧ W.cell? ⟨b, o + i * 11 + 5, none⟩ = some (.int .i64 x.need.z) ∧ W.cell? ⟨b, o + i * 11 + 6, none⟩ = some (.int .i64 x.run) ∧ W.cell? ⟨b, o + i * 11 + 7, none⟩ = some (.int .i64 x.level) ∧ W.cell? ⟨b, o + i * 11 + 8, none⟩ = some (.int .i64 x.prefer) ∧ W.cell? ⟨b, o + i * 11 + 9, none⟩ = some (.int .i64 x.seq) ∧ W.cell? ⟨b, o + i * 11 + 10, none⟩ = some (.int .i64 x.since) := fun W hW => (HX1.out.2 W (keeps_trans HWX.out hW))
            have Y1 : ∀ W, Onward wr W → W.cell? ⟨b2, o2 + p * 11, none⟩ = some (.int .i64 y.id) ∧ W.cell? ⟨b2, o2 + p * 11 + 1, none⟩ = some (.int .i64 y.tenant) ∧ W.cell? ⟨b2, o2 + p * 11 + 2, none⟩ = some (.int .i64 y.pods) ∧ W.cell? ⟨b2, o2 + p * 11 + 3, none⟩ = some (.int .i64 y.need.x) ∧ W.cell? ⟨b2, o2 + p * 11 + 4, none⟩ = some (.int .i64 y.need.y) ∧ W.cell? ⟨b2, o2 + p * 11 + 5, none⟩ = some (.int .i64 y.need.z) ∧ W.cell? ⟨b2, o2 + p * 11 + 6, none⟩ = some (.int .i64 y.run) ∧ W.cell? ⟨b2, o2 + p * 11 + 7, none⟩ = some (.int .i64 y.level) ∧ W.cell? ⟨b2, o2 + p * 11 + 8, none⟩ = some (.int .i64 y.prefer) ∧ W.cell? ⟨b2, o2 + p * 11 + 9, none⟩ = some (.int .i64 y.seq) ∧ W.cell? ⟨b2, o2 + p * 11 + 10, none⟩ = some (.int .i64 y.since) := fun W hW => pat_of (hcy W (keeps_trans HWX.out hW))
            have S1 := fun W (hW : Onward wr W) => HX1.out.1 W (keeps_trans HWX.out hW)
            have hym := HO.out.2.2 y (List.mem_of_getElem? hy)
            have cg : ∀ W, Onward wr W → Calls Try.prog 27 #[.agg #[v1, v2, .int .i64 half, .int .i64 age, .int .i64 now, .int .i64 next, .slice (some ⟨b, o, none⟩) n cap, vr, vh], .agg (prow x), .agg (prow y)] W fun e W' => e = .returned (.int .i64 (f x y)) ∧ Onward wr W' := fun W hW =>
              (CG.out x y HXM.out hym W (keeps_trans HW.out (keeps_trans HWX.out hW))).mono fun e W' ⟨he, hb⟩ => ⟨he, keeps_trans hW hb⟩
            have HY := Lib.hid hgp
            have hp1 : (p : Int) + 1 > 0 := by omega
            have hwp : IntKind.i64.wrap (p : Int) = (p : Int) := by rw [IntKind.wrap_i64]; omega
            have pz : (p : Int) < (i : Int) := by omega
            clear hy hcy hye hgp hym
            obtain ⟨r, hr⟩ : ∃ r, f x y = r := ⟨_, rfl⟩
            have HR := Lib.hid hr
            rw [hr] at cg
            simp only [prow] at cg
            go_wp2_with fail
            refine region_keep (by kernel_rfl) (by kernel_rfl) ?_
            repeat (apply Go.Proofs.Ytbfpljnfalopdaa.L.wpKeep_yes; (focus rfl); (focus (intro W hW; go_simp; first | done | exact ⟨rfl, hW⟩ | rfl)); (focus (go_simp; first | done | rfl)))
            (apply Go.Proofs.Ytbfpljnfalopdaa.L.wpKeep_yes; (focus rfl); (focus (intro W hW; go_simp; first | exact cg W hW | exact ⟨hW, cg W hW⟩)); (focus (go_simp; first | done | rfl)))
            repeat (apply Go.Proofs.Ytbfpljnfalopdaa.L.wpKeep_yes; (focus rfl); (focus (intro W hW; go_simp; first | done | exact ⟨rfl, hW⟩ | rfl)); (focus (go_simp; first | done | rfl)))
            refine wpKeep_nil ?_
            intro W hW
            have HW2 := Lib.hid (keeps_trans HWX.out hW)
            clear X1 Y1 S1 cg hW HWX
            by_cases hlv : r < 0
            · have HD2 := Lib.hid (show downTo f x out p = kf by
                rw [← HD.out]
                conv => rhs; unfold downTo
                rw [HY.out, HR.out, if_pos hlv])
              clear HD HR
              go_wp2_with fail
              go_roundg p
              case measure => omega
              case rel => exact ⟨p, by go_num, by omega, by omega, HD2, HW2⟩
            · have HD2 := Lib.hid (show p + 1 = kf by
                rw [← HD.out]
                conv => rhs; unfold downTo
                rw [HY.out, HR.out, if_neg hlv])
              clear HD HR
              go_wp2_with fail
              go_meet
              exact ⟨by rw [← HD2.out]; go_num, HW2.out⟩
          · obtain rfl : k = 0 := by omega
            have HD2 := Lib.hid (show 0 = kf from HD.out)
            clear HD
            go_wp2_with fail
            refine region_keep (by kernel_rfl) (by kernel_rfl) ?_
            repeat (first | (apply Go.Proofs.Ytbfpljnfalopdaa.L.wpKeep_yes; (focus rfl); (focus (intro W hW; go_simp; first | done | exact ⟨rfl, hW⟩ | rfl)); (focus (go_simp; first | done | rfl))) | (apply Go.Proofs.Ytbfpljnfalopdaa.L.wpKeep_no; (focus rfl); (focus (go_simp; first | done | rfl))))
            refine wpKeep_nil ?_
            intro W hW
            have HW2 := Lib.hid (keeps_trans HWX.out hW)
            clear hW HWX
            go_wp2_with fail
            go_meet
            exact ⟨by rw [← HD2.out]; rfl, HW2.out⟩
      case rest =>
        obtain ⟨rfl, hwc⟩ := hcut
        have X1 := fun W (hW : Onward wc W) => HX1.out.2 W (keeps_trans hwc hW)
        have S1 := fun W (hW : Onward wc W) => HX1.out.1 W (keeps_trans hwc hW)
        have HWC := Lib.hid hwc
        clear hwc s6
        simp only [prow] at *
        go_wp2_with fail
        refine region_pt (.take 0 (.take 1 (.take 2 (.take 4 (.take 5 (.take 6 (.take 7 (.take 8 (.take 11 (.take 12 (.take 13 (.two 3 9 (.one 9 (.one 10 (.one 14 (.take 15 .done)))) (.one 3 (.one 10 (.one 14 (.take 15 .done)))))))))))))))) (by kernel_rfl) (by kernel_rfl) ?_
        have hoi := HO.out.2.1
        obtain ⟨Aa, ca, hsa, ra⟩ := slicek_to 49 i0 Try.underlying49 HI.out.1 HI.out.2.2.1 pel.len HV.out (m := kf) (by omega)
        obtain ⟨Ab, cb, hsb, rb⟩ := slicek_from 49 i0 Try.underlying49 HI.out.1 HI.out.2.2.1 pel.len HV.out (m := kf) (by omega)
        rw [hoi] at hsb
        have RA := Lib.hid (And.intro hsa (ra.below HWC.out))
        have RB := Lib.hid (And.intro hsb (rb.below HWC.out))
        clear hsa hsb ra rb
        iterate 2 (apply Go.Proofs.Ytbfpljnfalopdaa.L.pt_take; (focus rfl); (focus rfl); (focus (intro W hW; go_simp; first | done | exact ⟨rfl, rfl⟩ | rfl)); (focus (go_simp; first | done | rfl)))
        (apply pt_take_eq (v := .slice Aa kf ca); (focus rfl); (focus rfl); (focus (intro W hW; exact run_slice_op (E := 57) (s := .tmp 34) (lo := none) (hi := some (.tmp 35)) Try.underlying49 rfl rfl (RA.out.1 W))); (focus (go_simp; first | done | rfl)))
        iterate 7 (apply Go.Proofs.Ytbfpljnfalopdaa.L.pt_take; (focus rfl); (focus rfl); (focus (intro W hW; go_simp; first | done | exact ⟨rfl, rfl⟩ | rfl)); (focus (go_simp; first | done | rfl)))
        (apply pt_take_eq (v := .slice Ab (i - kf) cb); (focus rfl); (focus rfl); (focus (intro W hW; exact run_slice_op (E := 57) (s := .tmp 45) (lo := some (.tmp 46)) (hi := none) Try.underlying49 rfl rfl (RB.out.1 W))); (focus (go_simp; first | done | rfl)))
        clear X1 S1
        refine pt_two ?_ ?_
        · obtain ⟨u1, W1, h1, R1, O1, N1⟩ := appP (Onward.drew wc) (RowK.nil wc.drew wc.heap.size 57 11 pdec) (ys := out.take kf) (m := kf) (RA.out.2.below (Onward.drew wc)) (by rw [List.length_take]; omega) (by simp; omega) (c := ca)
          (apply pt_run; (focus rfl); (focus rfl); (focus exact run_append_op (s := .const (.slice none 0 0)) (x := .tmp 36) rfl rfl rfl h1); (focus exact O1); (focus (go_simp; first | done | rfl)))
          have BX : Blk (W1.alloc (.cells (prow x) 57)) W1.heap.size 57 (prow x) := Blk.new _ _ _
          have O2 : Onward wc (W1.alloc (.cells (prow x) 57)) := Below.alloc O1 O1.size _
          have R2 := R1.below ((Below.refl _ _ : Below W1.heap.size W1 W1).alloc (Nat.le_refl _) (.cells (prow x) 57))
          refine pt_one ?_
          (apply pt_run; (focus rfl); (focus rfl); (focus (go_simp; first | done | exact ⟨rfl, rfl⟩)); (focus exact O2); (focus (go_simp; first | done | rfl)))
          obtain ⟨u2, W3, h3, R3, O3, N3⟩ := appP O2 R2 (A := some ⟨W1.heap.size, 0, none⟩) (ys := [x]) (m := 1) (c := 1) (fun _ => ⟨_, 0, rfl, BX.lt, fun q z hz j u hu => by
            have hq : q = 0 := by
              rcases q with _ | q
              · rfl
              · simp at hz
            subst hq
            have e : x = z := by simpa using hz
            subst e
            rw [show 0 + 0 * 11 + j = j by omega]
            exact (BX.cell j).trans ((show (prow x)[j]? = (prow x).toList[j]? by simp).trans hu)⟩) rfl (by simp; omega)
          refine pt_one ?_
          (apply pt_run; (focus rfl); (focus rfl); (focus exact run_append_op (s := .tmp 37) (x := .tmp 43) rfl rfl rfl h3); (focus exact O3); (focus (go_simp; first | done | rfl)))
          obtain ⟨u3, W4, h4, R4, O4, N4⟩ := appP O3 R3 (RB.out.2.below O3) (m := i - kf) (by rw [List.length_drop]; omega) (by simp; omega) (c := cb)
          refine pt_one ?_
          (apply pt_run; (focus rfl); (focus rfl); (focus exact run_append_op (s := .tmp 44) (x := .tmp 47) rfl rfl rfl h4); (focus exact O4); (focus (go_simp; first | done | rfl)))
          repeat (apply Go.Proofs.Ytbfpljnfalopdaa.L.pt_take; (focus rfl); (focus rfl); (focus (intro W hW; go_simp; first | done | exact ⟨rfl, rfl⟩ | rfl)); (focus (go_simp; first | done | rfl)))
          refine pt_done ?_
          have HV4 := Lib.hid (show RowK W4 w.heap.size 57 11 pdec u3 (putAll f (ps.take (i + 1))) by
            have e := putAll_succ (f := f) ps (k := i) (by have := HH.out.2.2.1; omega)
            rw [HXX.out.2, ← HO.out.1] at e
            rw [e]
            unfold putIn
            rw [HO.out.2.1, ← HK.out, ← List.append_assoc]
            exact R4.low (by have := HX.out.2.2; have h1 := HW.out.size; have h2 := HWC.out.size; omega))
          have HW4 := Lib.hid (keeps_trans HW.out (keeps_trans HWC.out O4))
          clear h4 R4 O4 N4 h3 R3 O3 N3 h1 R1 O1 N1 R2 O2 BX hoi
          go_wp2_with fail
          go_roundg (n - (i + 1))
          case measure => omega
          case rel => exact ⟨i + 1, by go_num, by omega, by omega, HV4, HW4⟩
        · have BX0 : Blk (wc.drew.alloc (.cells (prow x) 57)) wc.heap.size 57 (prow x) := Blk.new _ _ _
          have O0 : Onward wc (wc.drew.alloc (.cells (prow x) 57)) := Below.alloc (Onward.drew wc) (Nat.le_refl _) _
          (apply pt_run; (focus rfl); (focus rfl); (focus (go_simp; first | done | exact ⟨rfl, rfl⟩)); (focus exact O0); (focus (go_simp; first | done | rfl)))
          obtain ⟨u1, W1, h1, R1, O1, N1⟩ := appP O0 (RowK.nil _ wc.heap.size 57 11 pdec) (ys := out.take kf) (m := kf) (RA.out.2.below O0) (by rw [List.length_take]; omega) (by simp; omega) (c := ca)
          refine pt_one ?_
          (apply pt_run; (focus rfl); (focus rfl); (focus exact run_append_op (s := .const (.slice none 0 0)) (x := .tmp 36) rfl rfl rfl h1); (focus exact O1); (focus (go_simp; first | done | rfl)))
          have BX : Blk W1 wc.heap.size 57 (prow x) := BX0.below (N1 rfl) BX0.lt
          have O2 := O1
          have R2 := R1
          clear BX0 O0
          obtain ⟨u2, W3, h3, R3, O3, N3⟩ := appP O2 R2 (A := some ⟨wc.heap.size, 0, none⟩) (ys := [x]) (m := 1) (c := 1) (fun _ => ⟨_, 0, rfl, BX.lt, fun q z hz j u hu => by
            have hq : q = 0 := by
              rcases q with _ | q
              · rfl
              · simp at hz
            subst hq
            have e : x = z := by simpa using hz
            subst e
            rw [show 0 + 0 * 11 + j = j by omega]
            exact (BX.cell j).trans ((show (prow x)[j]? = (prow x).toList[j]? by simp).trans hu)⟩) rfl (by simp; omega)
          refine pt_one ?_
          (apply pt_run; (focus rfl); (focus rfl); (focus exact run_append_op (s := .tmp 37) (x := .tmp 43) rfl rfl rfl h3); (focus exact O3); (focus (go_simp; first | done | rfl)))
          obtain ⟨u3, W4, h4, R4, O4, N4⟩ := appP O3 R3 (RB.out.2.below O3) (m := i - kf) (by rw [List.length_drop]; omega) (by simp; omega) (c := cb)
          refine pt_one ?_
          (apply pt_run; (focus rfl); (focus rfl); (focus exact run_append_op (s := .tmp 44) (x := .tmp 47) rfl rfl rfl h4); (focus exact O4); (focus (go_simp; first | done | rfl)))
          repeat (apply Go.Proofs.Ytbfpljnfalopdaa.L.pt_take; (focus rfl); (focus rfl); (focus (intro W hW; go_simp; first | done | exact ⟨rfl, rfl⟩ | rfl)); (focus (go_simp; first | done | rfl)))
          refine pt_done ?_
          have HV4 := Lib.hid (show RowK W4 w.heap.size 57 11 pdec u3 (putAll f (ps.take (i + 1))) by
            have e := putAll_succ (f := f) ps (k := i) (by have := HH.out.2.2.1; omega)
            rw [HXX.out.2, ← HO.out.1] at e
            rw [e]
            unfold putIn
            rw [HO.out.2.1, ← HK.out, ← List.append_assoc]
            exact R4.low (by have := HX.out.2.2; have h1 := HW.out.size; have h2 := HWC.out.size; omega))
          have HW4 := Lib.hid (keeps_trans HW.out (keeps_trans HWC.out O4))
          clear h4 R4 O4 N4 h3 R3 O3 N3 h1 R1 O1 N1 R2 O2 BX hoi
          go_wp2_with fail
          go_roundg (n - (i + 1))
          case measure => omega
          case rel => exact ⟨i + 1, by go_num, by omega, by omega, HV4, HW4⟩
    · have hltz : ¬ (i : Int) < (n : Int) := by omega
      have HV2 := HV
      rw [HO.out.1, List.take_of_length_le (show ps.length ≤ i by have := HH.out.2.2.1; omega)] at HV2
      go_wp2
      go_ret
      exact ⟨_, rfl, HV2.out, keeps_trans HX.out.2.1 HW.out⟩
end Go.Proofs.Ytbfpljnfalopdaa.Srt
