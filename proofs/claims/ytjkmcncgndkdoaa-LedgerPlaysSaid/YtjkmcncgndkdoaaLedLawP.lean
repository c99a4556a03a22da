/-
  Chapter 12: any takes and gives, over any world.
-/
import Derived.Test.YtjkmcncgndkdoaaLedPair
import Derived.Test.YtjkmcncgndkdoaaLedStmt
import Derived.Test.YtjkmcncgndkdoaaLedLawB
import Derived.Test.YtjkmcncgndkdoaaCommB
import Derived.Deep.RegionWith
import Derived.BigRegion
set_option linter.unusedVariables false
set_option linter.unusedSimpArgs false
namespace Go.Proofs.Ytjkmcncgndkdoaa.Led
open Go.Proofs.Ytjkmcncgndkdoaa
def none' : Deed := ⟨false, 0, ⟨0, 0, 0⟩⟩
def deedsTo (c : Cfg.C) (l : List Deed) : Nat → U
  | 0 => none_
  | k + 1 => deed c (deedsTo c l k) (l.getD k none')
end Go.Proofs.Ytjkmcncgndkdoaa.Led
namespace Go.Proofs.Ytjkmcncgndkdoaa.CfgW
open Go Go.RowKit Go.Proofs.Ytjkmcncgndkdoaa.L

def JPair (wq : World) (g mb : Nat) (A : Option Addr) (ca g2 rb cp : Nat) (v1 v2 : Value) (half age : Int) (c : Cfg.C) (u u' : Led.U) (x y : Bool) (W : World) : Prop := PairAt wq W g mb A ca g2 rb cp v1 v2 half age c (if x then u' else u) (if y then u' else u)
theorem JPair.drew {wq : World} {g mb : Nat} {A : Option Addr} {ca g2 rb cp : Nat} {v1 v2 : Value} {half age : Int} {c : Cfg.C} {u u' : Led.U} {x y : Bool} {W : World} (h : JPair wq g mb A ca g2 rb cp v1 v2 half age c u u' x y W) : JPair wq g mb A ca g2 rb cp v1 v2 half age c u u' x y W.drew := PairAt.on h ((Below.refl _ _ : Below W.heap.size W W).drew)
theorem JPair.one {wq : World} {g mb : Nat} {A : Option Addr} {ca g2 rb cp : Nat} {v1 v2 : Value} {half age : Int} {c : Cfg.C} {u u' : Led.U} {f : FuncId} {args : Array Value} {n : Int} (a : Apart wq g mb A g2 rb)
    (h : ∀ W, LedAt W g mb (.slice A c.nodes.length ca) v2 half age c u → Calls Try.prog f args W fun e w' => LedEnd n g mb (.slice A c.nodes.length ca) v2 half age c u' W e w') : ∀ y W, JPair wq g mb A ca g2 rb cp v1 v2 half age c u u' false y W → Calls Try.prog f args W fun e w' => e = .returned (.int .i64 n) ∧ JPair wq g mb A ca g2 rb cp v1 v2 half age c u u' true y w' := fun y W j =>
  (h W j.led).mono fun e w' he => PairAt.one (u := u) a j he
theorem JPair.two {w0 wq : World} {g mb : Nat} {A : Option Addr} {ca g2 rb cp : Nat} {v1 v2 : Value} {half age : Int} {c : Cfg.C} {u u' : Led.U} {f : FuncId} {args : Array Value} {n : Int} (hH : Hosts w0 v2 c.hosts) (hw : w0.heap.size ≤ wq.heap.size) (a : Apart wq g mb A g2 rb)
    (h : ∀ W, RLedAt W g2 rb cp v1 v2 half age c u → Calls Try.prog f args W fun e w' => RLedEnd n g2 rb cp v1 v2 half age c u' W e w') : ∀ x W, JPair wq g mb A ca g2 rb cp v1 v2 half age c u u' x false W → Calls Try.prog f args W fun e w' => e = .returned (.int .i64 n) ∧ JPair wq g mb A ca g2 rb cp v1 v2 half age c u u' x true w' := fun x W j =>
  (h W j.ref).mono fun e w' he => PairAt.two (u2 := u) hH hw a j he
set_option maxRecDepth 100000 in
set_option maxHeartbeats 8000000 in
theorem lawplays_any {w : World} {v vl : Value} {c : Cfg.C} {ds : List Led.Deed} (hc : CfgAt w v c) (hd : Deeds w vl ds) :
    Calls Try.prog 6 #[v, vl] w fun e w' => e = .returned (.bool true) ∧ Below w.heap.size w w' := by
  have gC := Lib.hid (rcheck_any hc)
  obtain ⟨v1, v2, rfl, ⟨A1, ca1, rfl, _, _⟩, hH⟩ := id hc
  have HH := Lib.hid hH
  obtain ⟨B1, cb1, rfl, _, _⟩ := hH
  obtain ⟨half, hhalf⟩ : ∃ z, c.half = z := ⟨_, rfl⟩
  obtain ⟨age, hage⟩ : ∃ z, c.age = z := ⟨_, rfl⟩
  obtain ⟨M, hM⟩ : ∃ M, c.hosts.length = M := ⟨_, rfl⟩
  rw [hhalf, hage] at gC hc ⊢
  have hck := Lib.hid (fun (h : Cfg.check c = 0) => check_len h)
  rw [hM] at hck gC hc HH ⊢
  have HC := Lib.hid hc
  have gN := Lib.hid (fun h => new_any2 hc h)
  have gR := Lib.hid (fun h => rnew_any hc h)
  obtain ⟨D, cd, rfl, hrD, hlD⟩ := hd
  unfold maxLen at hlD
  have HD := Lib.hid hrD
  obtain ⟨K, hK⟩ : ∃ K, ds.length = K := ⟨_, rfl⟩
  have HK := Lib.hid hK
  rw [hK] at hlD ⊢
  have aw := Lib.hid awake12
  obtain ⟨N, hN⟩ : ∃ N, c.nodes.length = N := ⟨_, rfl⟩
  have HN := Lib.hid hN
  rw [hN] at gC gN gR HC hck ⊢
  have hbx := CBox.new w (.slice A1 N ca1) (.slice B1 M cb1) half age
  have hb0 : Below w.heap.size w (w.alloc (.cells #[.slice A1 N ca1, .slice B1 M cb1, .int .i64 half, .int .i64 age] 25)) := by (repeat' (first | (with_reducible exact Below.refl _ _) | (with_reducible assumption) | (with_reducible refine Below.alloc ?_ ?_ _) | (with_reducible refine Go.Proofs.Ytjkmcncgndkdoaa.L.below_drewN ?_ _) | (with_reducible refine Below.drew ?_) | (with_reducible refine Below.setCell ?_ ?_ _) | (with_reducible refine Below.frame ?_ _) | go_size))
  clear hrD hK hc hhalf hage hM hN
  go_enter Try.func6, Try.ntmps6
  generalize hwq : w.alloc (.cells #[.slice A1 N ca1, .slice B1 M cb1, .int .i64 half, .int .i64 age] 25) = wq at *
  have HBX := Lib.hid hbx
  have Hb0 := Lib.hid hb0
  obtain ⟨hx0, y0, y1, y2, y3⟩ := hbx
  clear hb0
  go_wp2_with fail
  refine (gC.out _ Hb0.out).mono ?_
  rintro e w2 ⟨rfl, hb2⟩
  have HB2 := Lib.hid hb2
  clear y0 y1 y2 y3 hwq
  obtain ⟨-, y0, y1, y2, y3⟩ := HBX.out.on hb2
  clear hb2
  generalize Cfg.check c = ck at *
  by_cases h0 : ck = 0
  · have t0 : (ck != 0) = false := by simp [h0]
    obtain ⟨hn1, hn12, -⟩ := hck.out h0
    have GN := Lib.hid (fun W hW => gN.out (by omega) W hW)
    have GR := Lib.hid (fun W hW => gR.out (by omega) W hW)
    clear h0 gN gR hck gC
    go_upto_region 3 with fail
    go_cut [5, 6] (fun a x wx => PairNew wq (.slice A1 N ca1) (.slice B1 M cb1) half age c a x wx)
    case first =>
      go_region_with (first
        | (go_at_call 24; refine (GN.out _ (keeps_trans Hb0.out (keeps_trans HB2.out (by (repeat' (first | (with_reducible exact Below.refl _ _) | (with_reducible assumption) | (with_reducible refine Below.alloc ?_ ?_ _) | (with_reducible refine Go.Proofs.Ytjkmcncgndkdoaa.L.below_drewN ?_ _) | (with_reducible refine Below.drew ?_) | (with_reducible refine Below.setCell ?_ ?_ _) | (with_reducible refine Below.frame ?_ _) | go_size)))))).mono ?_; rintro e wA ⟨g, mb, A, ca, rfl, hL, hg, hmb, hbA, hA⟩; have hqA : Below w2.heap.size w2 wA := keeps_trans (by (repeat' (first | (with_reducible exact Below.refl _ _) | (with_reducible assumption) | (with_reducible refine Below.alloc ?_ ?_ _) | (with_reducible refine Go.Proofs.Ytjkmcncgndkdoaa.L.below_drewN ?_ _) | (with_reducible refine Below.drew ?_) | (with_reducible refine Below.setCell ?_ ?_ _) | (with_reducible refine Below.frame ?_ _) | go_size))) hbA; obtain ⟨-, a0, a1, a2, a3⟩ := HBX.out.on (keeps_trans HB2.out hqA))
        | (go_at_call 25; refine (GR.out _ (keeps_trans Hb0.out (keeps_trans HB2.out (by (repeat' (first | (with_reducible exact Below.refl _ _) | (with_reducible assumption) | (with_reducible refine Below.alloc ?_ ?_ _) | (with_reducible refine Go.Proofs.Ytjkmcncgndkdoaa.L.below_drewN ?_ _) | (with_reducible refine Below.drew ?_) | (with_reducible refine Below.setCell ?_ ?_ _) | (with_reducible refine Below.frame ?_ _) | go_size)))))).mono ?_; rintro e wB ⟨g2, rb, cp, rfl, hR, hg2, hrb, hbB⟩; have hqB : Below w2.heap.size w2 wB := keeps_trans (by (repeat' (first | (with_reducible exact Below.refl _ _) | (with_reducible assumption) | (with_reducible refine Below.alloc ?_ ?_ _) | (with_reducible refine Go.Proofs.Ytjkmcncgndkdoaa.L.below_drewN ?_ _) | (with_reducible refine Below.drew ?_) | (with_reducible refine Below.setCell ?_ ?_ _) | (with_reducible refine Below.frame ?_ _) | go_size))) hbB; obtain ⟨-, b0, b1, b2, b3⟩ := HBX.out.on (keeps_trans HB2.out hqB)))
      all_goals
        have s1 := hL.box.1
        have s2 := hR.rlt
        have s3 := HB2.out.size
        have s4 := hqA.size
        have s5 := hqB.size
        simp only [World.size_drew] at hg hmb hrb hg2 hA
        clear HC HH HD GN GR aw
        go_wp2_with fail
        go_meet
        first
          | exact ⟨g, mb, A, ca, g2, rb, cp, rfl, rfl, ⟨by omega, fun b o e => by have := hA b o e; omega, by omega, by omega⟩, ⟨hL.on hbB, hR, keeps_trans HB2.out hqB⟩⟩
          | exact ⟨g, mb, A, ca, g2, rb, cp, rfl, rfl, ⟨by omega, fun b o e => by have := hA b o e; omega, by omega, by omega⟩, ⟨hL, hR.on hbA, keeps_trans HB2.out hqA⟩⟩
    case rest =>
      obtain ⟨g, mb, A, ca, g2, rb, cp, rfl, rfl, hAp, hP⟩ := hcut
      have HAp := Lib.hid hAp
      have HP0 := Lib.hid hP
      clear hAp hP GN GR y0 y1 y2 y3
      go_wp2_with fail
      go_loopw [7] (fun i wr => ∃ k : Nat, i = .int .i64 (k : Int) ∧ k ≤ K ∧ k ≤ 200 ∧ PairAt wq wr g mb A ca g2 rb cp (.slice A1 N ca1) (.slice B1 M cb1) half age c (Led.deedsTo c ds k) (Led.deedsTo c ds k)) (fun i _ => 200 - (intOf i).toNat)
      case atStart => exact ⟨0, rfl, by omega, by omega, HP0.out⟩
      case round =>
        obtain ⟨k, rfl, hk, hk200, hp⟩ := hrel
        rename World => wr
        have HPk := Lib.hid hp
        have HBk := Lib.hid hp.below
        clear hp HP0
        by_cases hkn : k < K ∧ k < 200
        · obtain ⟨hkK, hk2⟩ := hkn
          have hkd : k < ds.length := by rw [HK.out]; exact hkK
          obtain ⟨bd, od, rfl, hltd, hcd⟩ := row_deed HD.out hkd
          have hst := Lib.hid (show Led.deedsTo c ds (k + 1) = Led.deed c (Led.deedsTo c ds k) ds[k] by
            have e : ds.getD k Led.none' = ds[k] := by rw [List.getD_eq_getElem?_getD, List.getElem?_eq_getElem hkd, Option.getD_some]
            rw [← e]; rfl)
          generalize ds[k] = dk at *
          generalize Led.deedsTo c ds k = u at *
          obtain ⟨kg, kt, ⟨z0, z1, z2⟩⟩ := dk
          have HCD := Lib.hid (fun W (h : Below wq.heap.size wq W) => hcd W (keeps_trans Hb0.out h))
          have t200 : decide ((k : Int) < 200) = true := by simp; omega
          obtain ⟨p0, p1, p2, p3, p4⟩ := HCD.out wr HBk.out
          simp only at p0 p1 p2 p3 p4
          clear hcd hkd hltd
          cases kg
          · -- take
            have g1 : ∀ y W, JPair wq g mb A ca g2 rb cp (.slice A1 N ca1) (.slice B1 M cb1) half age c u (Led.take c u kt ⟨z0, z1, z2⟩) false y W → Calls Try.prog 28 #[.pointer (some ⟨g, 0, none⟩), .int .i64 kt, .agg #[.int .i64 z0, .int .i64 z1, .int .i64 z2]] W fun e w' => e = .returned (.int .i64 (Led.takeErr c kt ⟨z0, z1, z2⟩)) ∧ JPair wq g mb A ca g2 rb cp (.slice A1 N ca1) (.slice B1 M cb1) half age c u (Led.take c u kt ⟨z0, z1, z2⟩) true y w' := JPair.one HAp.out (fun W hW => ltake_any hW kt ⟨z0, z1, z2⟩)
            have g2' : ∀ x W, JPair wq g mb A ca g2 rb cp (.slice A1 N ca1) (.slice B1 M cb1) half age c u (Led.take c u kt ⟨z0, z1, z2⟩) x false W → Calls Try.prog 29 #[.pointer (some ⟨g2, 0, none⟩), .int .i64 kt, .agg #[.int .i64 z0, .int .i64 z1, .int .i64 z2]] W fun e w' => e = .returned (.int .i64 (Led.takeErr c kt ⟨z0, z1, z2⟩)) ∧ JPair wq g mb A ca g2 rb cp (.slice A1 N ca1) (.slice B1 M cb1) half age c u (Led.take c u kt ⟨z0, z1, z2⟩) x true w' := JPair.two HH.out Hb0.out.size HAp.out (fun W hW => rtake_any HC.out (Nat.le_trans Hb0.out.size HAp.out.r0) hW (by rw [HN.out]; omega) kt ⟨z0, z1, z2⟩)
            have hst2 := Lib.hid (show Led.deedsTo c ds (k + 1) = Led.take c u kt ⟨z0, z1, z2⟩ by rw [hst.out]; rfl)
            generalize Led.take c u kt ⟨z0, z1, z2⟩ = u' at *
            generalize Led.takeErr c kt ⟨z0, z1, z2⟩ = n at *
            have j0 : JPair wq g mb A ca g2 rb cp (.slice A1 N ca1) (.slice B1 M cb1) half age c u u' false false wr := HPk.out
            have hcell : ∀ W, Some2 (JPair wq g mb A ca g2 rb cp (.slice A1 N ca1) (.slice B1 M cb1) half age c u u') W → DeedAt W bd (od + k * 5) ⟨false, kt, ⟨z0, z1, z2⟩⟩ := fun W ⟨_, _, j⟩ => HCD.out W j.below
            have c1 := fun W h => (hcell W h).2.1
            have c2 := fun W h => (hcell W h).2.2.1
            have c3 := fun W h => (hcell W h).2.2.2.1
            have c4 := fun W h => (hcell W h).2.2.2.2
            simp only at c1 c2 c3 c4
            have jd := j0.drew
            clear hcell j0 p1 p2 p3 p4
            go_wp2_with fail
            refine region_two 11 23 (JPair wq g mb A ca g2 rb cp (.slice A1 N ca1) (.slice B1 M cb1) half age c u u') (by kernel_rfl) (by kernel_rfl) (by decide) (by decide) jd ?_
            clear jd
            repeat (apply Go.Proofs.Ytjkmcncgndkdoaa.L.wpComm_yes; (focus rfl); (focus (apply Go.Proofs.Ytjkmcncgndkdoaa.L.step_plain (by decide) (by decide); intro x y W hW; have hX := Go.Proofs.Ytjkmcncgndkdoaa.L.some2 hW; go_simp; first | done | exact ⟨rfl, hW⟩ | rfl)); (focus (go_simp; first | done | rfl)))
            (apply Go.Proofs.Ytjkmcncgndkdoaa.L.wpComm_yes; (focus rfl); (focus (apply Go.Proofs.Ytjkmcncgndkdoaa.L.step_one (by decide); intro y W hW; go_simp; exact g1 y W hW)); (focus (go_simp; first | done | rfl)))
            repeat (apply Go.Proofs.Ytjkmcncgndkdoaa.L.wpComm_yes; (focus rfl); (focus (apply Go.Proofs.Ytjkmcncgndkdoaa.L.step_plain (by decide) (by decide); intro x y W hW; have hX := Go.Proofs.Ytjkmcncgndkdoaa.L.some2 hW; go_simp; first | done | exact ⟨rfl, hW⟩ | rfl)); (focus (go_simp; first | done | rfl)))
            (apply Go.Proofs.Ytjkmcncgndkdoaa.L.wpComm_yes; (focus rfl); (focus (apply Go.Proofs.Ytjkmcncgndkdoaa.L.step_two (by decide); intro x W hW; go_simp; exact g2' x W hW)); (focus (go_simp; first | done | rfl)))
            repeat (apply Go.Proofs.Ytjkmcncgndkdoaa.L.wpComm_yes; (focus rfl); (focus (apply Go.Proofs.Ytjkmcncgndkdoaa.L.step_plain (by decide) (by decide); intro x y W hW; have hX := Go.Proofs.Ytjkmcncgndkdoaa.L.some2 hW; go_simp; first | done | exact ⟨rfl, hW⟩ | rfl)); (focus (go_simp; first | done | rfl)))
            refine wpComm_nil ?_
            intro W hW
            have hP2 : PairAt wq W g mb A ca g2 rb cp (.slice A1 N ca1) (.slice B1 M cb1) half age c u' u' := hW
            have HP2 := Lib.hid hP2
            clear hW hP2 g1 g2' c1 c2 c3 c4
            have tn : (n != n) = false := by simp
            have hcell : ∀ W', Some2 (JAll wq W.heap.size g mb A ca g2 rb cp (.slice A1 N ca1) (.slice B1 M cb1) half age c u') W' → DeedAt W' bd (od + k * 5) ⟨false, kt, ⟨z0, z1, z2⟩⟩ ∧ W'.cell? ⟨g2, 4, none⟩ = some (.slice (some ⟨rb, 0, none⟩) c.nodes.length cp) := fun W' ⟨_, _, j⟩ => ⟨HCD.out W' j.1.below, j.1.ref.ptr⟩
            obtain ⟨y, hy⟩ : ∃ y, Led.at_ c u' kt = y := ⟨_, rfl⟩
            have gAll := JAll.all (wq := wq) (S := W.heap.size) (g := g) (mb := mb) (A := A) (ca := ca) (g2 := g2) (rb := rb) (cp := cp) (v1 := .slice A1 N ca1) (v2 := .slice B1 M cb1) (half := half) (age := age) (c := c) (u := u') (by rw [HN.out]; omega)
            have gList := JAll.list (wq := wq) (S := W.heap.size) (g := g) (mb := mb) (A := A) (ca := ca) (g2 := g2) (rb := rb) (cp := cp) (v1 := .slice A1 N ca1) (v2 := .slice B1 M cb1) (half := half) (age := age) (c := c) (u := u')
            have gUsed := JAll.used (wq := wq) (S := W.heap.size) (g := g) (mb := mb) (A := A) (ca := ca) (g2 := g2) (rb := rb) (cp := cp) (v1 := .slice A1 N ca1) (v2 := .slice B1 M cb1) (half := half) (age := age) (c := c) (u := u') kt
            have gGet := JAll.get (wq := wq) (S := W.heap.size) (g := g) (mb := mb) (A := A) (ca := ca) (g2 := g2) (rb := rb) (cp := cp) (v1 := .slice A1 N ca1) (v2 := .slice B1 M cb1) (half := half) (age := age) (c := c) (u := u') kt
            have jd := JAll.start HP2.out
            rw [hy] at gUsed gGet
            obtain ⟨y0, y1, y2⟩ := y
            simp only [Vec.V.val] at gUsed gGet
            have hsy := sameV_self ⟨y0, y1, y2⟩
            simp only [Vec.V.val] at hsy
            have c1 := fun W' h => (hcell W' h).1.2.1
            have c5 := fun W' h => (hcell W' h).2
            simp only at c1
            clear hy hcell
            generalize W.heap.size = S at *
            go_wp2_with fail
            refine region_deep 5 0 (JAll wq S g mb A ca g2 rb cp (.slice A1 N ca1) (.slice B1 M cb1) half age c u') (by kernel_rfl) (by kernel_rfl) (by decide) (by decide) jd ?_
            clear jd
            (apply Go.Proofs.Ytjkmcncgndkdoaa.L.wpDeep_yes; (focus rfl); (focus (apply Go.Proofs.Ytjkmcncgndkdoaa.L.dp_two (by decide); intro x W hW; go_simp; first | exact hW | exact ⟨rfl, hW⟩)); (focus (go_simp; first | done | rfl)))
            repeat (apply Go.Proofs.Ytjkmcncgndkdoaa.L.wpDeep_yes; (focus rfl); (focus (apply Go.Proofs.Ytjkmcncgndkdoaa.L.dp_plain (by decide) (by decide); intro x y W hW; have hX := Go.Proofs.Ytjkmcncgndkdoaa.L.some2 hW; go_simp; first | done | exact ⟨rfl, hW⟩ | rfl)); (focus (go_simp; first | done | rfl)))
            (apply Go.Proofs.Ytjkmcncgndkdoaa.L.wpDeep_yes; (focus rfl); (focus (apply Go.Proofs.Ytjkmcncgndkdoaa.L.dp_one (by decide); intro y W hW; go_simp; exact gAll y W hW)); (focus (go_simp; first | done | rfl)))
            repeat (apply Go.Proofs.Ytjkmcncgndkdoaa.L.wpDeep_yes; (focus rfl); (focus (apply Go.Proofs.Ytjkmcncgndkdoaa.L.dp_plain (by decide) (by decide); intro x y W hW; have hX := Go.Proofs.Ytjkmcncgndkdoaa.L.some2 hW; go_simp; first | done | exact ⟨rfl, hW⟩ | rfl)); (focus (go_simp; first | done | rfl)))
            (apply Go.Proofs.Ytjkmcncgndkdoaa.L.wpDeep_yes; (focus rfl); (focus (apply Go.Proofs.Ytjkmcncgndkdoaa.L.dp_late (by decide) (by decide) 60 (by kernel_rfl) (by kernel_rfl); intro W hW; go_simp; exact gList W hW)); (focus (go_simp; first | done | rfl)))
            repeat (apply Go.Proofs.Ytjkmcncgndkdoaa.L.wpDeep_yes; (focus rfl); (focus (apply Go.Proofs.Ytjkmcncgndkdoaa.L.dp_plain (by decide) (by decide); intro x y W hW; have hX := Go.Proofs.Ytjkmcncgndkdoaa.L.some2 hW; go_simp; first | done | exact ⟨rfl, hW⟩ | rfl)); (focus (go_simp; first | done | rfl)))
            (apply Go.Proofs.Ytjkmcncgndkdoaa.L.wpDeep_yes; (focus rfl); (focus (apply Go.Proofs.Ytjkmcncgndkdoaa.L.dp_late (by decide) (by decide) 60 (by kernel_rfl) (by kernel_rfl); intro W hW; go_simp; exact gUsed W hW)); (focus (go_simp; first | done | rfl)))
            repeat (apply Go.Proofs.Ytjkmcncgndkdoaa.L.wpDeep_yes; (focus rfl); (focus (apply Go.Proofs.Ytjkmcncgndkdoaa.L.dp_plain (by decide) (by decide); intro x y W hW; have hX := Go.Proofs.Ytjkmcncgndkdoaa.L.some2 hW; go_simp; first | done | exact ⟨rfl, hW⟩ | rfl)); (focus (go_simp; first | done | rfl)))
            (apply Go.Proofs.Ytjkmcncgndkdoaa.L.wpDeep_yes; (focus rfl); (focus (apply Go.Proofs.Ytjkmcncgndkdoaa.L.dp_late (by decide) (by decide) 60 (by kernel_rfl) (by kernel_rfl); intro W hW; go_simp; exact gGet W hW)); (focus (go_simp; first | done | rfl)))
            repeat (apply Go.Proofs.Ytjkmcncgndkdoaa.L.wpDeep_yes; (focus rfl); (focus (apply Go.Proofs.Ytjkmcncgndkdoaa.L.dp_plain (by decide) (by decide); intro x y W hW; have hX := Go.Proofs.Ytjkmcncgndkdoaa.L.some2 hW; go_simp; first | done | exact ⟨rfl, hW⟩ | rfl)); (focus (go_simp; first | done | rfl)))
            refine wpDeep_nil ?_
            intro W2 hW2
            have hm : JAll wq S g mb A ca g2 rb cp (.slice A1 N ca1) (.slice B1 M cb1) half age c u' true true W2 := hW2
            have HM := Lib.hid hm.1
            clear hW2 hm gAll gList gUsed gGet c1 c5 hsy tn
            go_wp2_with fail
            go_roundw
            case rel => exact ⟨k + 1, by go_num, by omega, by omega, by rw [hst2.out]; exact HM.out⟩
            case measure => simp [intOf]; omega
          · -- give
            have g1 : ∀ y W, JPair wq g mb A ca g2 rb cp (.slice A1 N ca1) (.slice B1 M cb1) half age c u (Led.give c u kt ⟨z0, z1, z2⟩) false y W → Calls Try.prog 26 #[.pointer (some ⟨g, 0, none⟩), .int .i64 kt, .agg #[.int .i64 z0, .int .i64 z1, .int .i64 z2]] W fun e w' => e = .returned (.int .i64 (Led.giveErr c u kt ⟨z0, z1, z2⟩)) ∧ JPair wq g mb A ca g2 rb cp (.slice A1 N ca1) (.slice B1 M cb1) half age c u (Led.give c u kt ⟨z0, z1, z2⟩) true y w' := JPair.one HAp.out (fun W hW => lgive_any hW kt ⟨z0, z1, z2⟩)
            have g2' : ∀ x W, JPair wq g mb A ca g2 rb cp (.slice A1 N ca1) (.slice B1 M cb1) half age c u (Led.give c u kt ⟨z0, z1, z2⟩) x false W → Calls Try.prog 27 #[.pointer (some ⟨g2, 0, none⟩), .int .i64 kt, .agg #[.int .i64 z0, .int .i64 z1, .int .i64 z2]] W fun e w' => e = .returned (.int .i64 (Led.giveErr c u kt ⟨z0, z1, z2⟩)) ∧ JPair wq g mb A ca g2 rb cp (.slice A1 N ca1) (.slice B1 M cb1) half age c u (Led.give c u kt ⟨z0, z1, z2⟩) x true w' := JPair.two HH.out Hb0.out.size HAp.out (fun W hW => rgive_any HC.out (Nat.le_trans Hb0.out.size HAp.out.r0) hW (by rw [HN.out]; omega) kt ⟨z0, z1, z2⟩)
            have hst2 := Lib.hid (show Led.deedsTo c ds (k + 1) = Led.give c u kt ⟨z0, z1, z2⟩ by rw [hst.out]; rfl)
            generalize Led.give c u kt ⟨z0, z1, z2⟩ = u' at *
            generalize Led.giveErr c u kt ⟨z0, z1, z2⟩ = n at *
            have j0 : JPair wq g mb A ca g2 rb cp (.slice A1 N ca1) (.slice B1 M cb1) half age c u u' false false wr := HPk.out
            have hcell : ∀ W, Some2 (JPair wq g mb A ca g2 rb cp (.slice A1 N ca1) (.slice B1 M cb1) half age c u u') W → DeedAt W bd (od + k * 5) ⟨true, kt, ⟨z0, z1, z2⟩⟩ := fun W ⟨_, _, j⟩ => HCD.out W j.below
            have c1 := fun W h => (hcell W h).2.1
            have c2 := fun W h => (hcell W h).2.2.1
            have c3 := fun W h => (hcell W h).2.2.2.1
            have c4 := fun W h => (hcell W h).2.2.2.2
            simp only at c1 c2 c3 c4
            have jd := j0.drew
            clear hcell j0 p1 p2 p3 p4
            go_wp2_with fail
            refine region_two 11 23 (JPair wq g mb A ca g2 rb cp (.slice A1 N ca1) (.slice B1 M cb1) half age c u u') (by kernel_rfl) (by kernel_rfl) (by decide) (by decide) jd ?_
            clear jd
            repeat (apply Go.Proofs.Ytjkmcncgndkdoaa.L.wpComm_yes; (focus rfl); (focus (apply Go.Proofs.Ytjkmcncgndkdoaa.L.step_plain (by decide) (by decide); intro x y W hW; have hX := Go.Proofs.Ytjkmcncgndkdoaa.L.some2 hW; go_simp; first | done | exact ⟨rfl, hW⟩ | rfl)); (focus (go_simp; first | done | rfl)))
            (apply Go.Proofs.Ytjkmcncgndkdoaa.L.wpComm_yes; (focus rfl); (focus (apply Go.Proofs.Ytjkmcncgndkdoaa.L.step_one (by decide); intro y W hW; go_simp; exact g1 y W hW)); (focus (go_simp; first | done | rfl)))
            repeat (apply Go.Proofs.Ytjkmcncgndkdoaa.L.wpComm_yes; (focus rfl); (focus (apply Go.Proofs.Ytjkmcncgndkdoaa.L.step_plain (by decide) (by decide); intro x y W hW; have hX := Go.Proofs.Ytjkmcncgndkdoaa.L.some2 hW; go_simp; first | done | exact ⟨rfl, hW⟩ | rfl)); (focus (go_simp; first | done | rfl)))
            (apply Go.Proofs.Ytjkmcncgndkdoaa.L.wpComm_yes; (focus rfl); (focus (apply Go.Proofs.Ytjkmcncgndkdoaa.L.step_two (by decide); intro x W hW; go_simp; exact g2' x W hW)); (focus (go_simp; first | done | rfl)))
            repeat (apply Go.Proofs.Ytjkmcncgndkdoaa.L.wpComm_yes; (focus rfl); (focus (apply Go.Proofs.Ytjkmcncgndkdoaa.L.step_plain (by decide) (by decide); intro x y W hW; have hX := Go.Proofs.Ytjkmcncgndkdoaa.L.some2 hW; go_simp; first | done | exact ⟨rfl, hW⟩ | rfl)); (focus (go_simp; first | done | rfl)))
            refine wpComm_nil ?_
            intro W hW
            have hP2 : PairAt wq W g mb A ca g2 rb cp (.slice A1 N ca1) (.slice B1 M cb1) half age c u' u' := hW
            have HP2 := Lib.hid hP2
            clear hW hP2 g1 g2' c1 c2 c3 c4
            have tn : (n != n) = false := by simp
            have hcell : ∀ W', Some2 (JAll wq W.heap.size g mb A ca g2 rb cp (.slice A1 N ca1) (.slice B1 M cb1) half age c u') W' → DeedAt W' bd (od + k * 5) ⟨true, kt, ⟨z0, z1, z2⟩⟩ ∧ W'.cell? ⟨g2, 4, none⟩ = some (.slice (some ⟨rb, 0, none⟩) c.nodes.length cp) := fun W' ⟨_, _, j⟩ => ⟨HCD.out W' j.1.below, j.1.ref.ptr⟩
            obtain ⟨y, hy⟩ : ∃ y, Led.at_ c u' kt = y := ⟨_, rfl⟩
            have gAll := JAll.all (wq := wq) (S := W.heap.size) (g := g) (mb := mb) (A := A) (ca := ca) (g2 := g2) (rb := rb) (cp := cp) (v1 := .slice A1 N ca1) (v2 := .slice B1 M cb1) (half := half) (age := age) (c := c) (u := u') (by rw [HN.out]; omega)
            have gList := JAll.list (wq := wq) (S := W.heap.size) (g := g) (mb := mb) (A := A) (ca := ca) (g2 := g2) (rb := rb) (cp := cp) (v1 := .slice A1 N ca1) (v2 := .slice B1 M cb1) (half := half) (age := age) (c := c) (u := u')
            have gUsed := JAll.used (wq := wq) (S := W.heap.size) (g := g) (mb := mb) (A := A) (ca := ca) (g2 := g2) (rb := rb) (cp := cp) (v1 := .slice A1 N ca1) (v2 := .slice B1 M cb1) (half := half) (age := age) (c := c) (u := u') kt
            have gGet := JAll.get (wq := wq) (S := W.heap.size) (g := g) (mb := mb) (A := A) (ca := ca) (g2 := g2) (rb := rb) (cp := cp) (v1 := .slice A1 N ca1) (v2 := .slice B1 M cb1) (half := half) (age := age) (c := c) (u := u') kt
            have jd := JAll.start HP2.out
            rw [hy] at gUsed gGet
            obtain ⟨y0, y1, y2⟩ := y
            simp only [Vec.V.val] at gUsed gGet
            have hsy := sameV_self ⟨y0, y1, y2⟩
            simp only [Vec.V.val] at hsy
            have c1 := fun W' h => (hcell W' h).1.2.1
            have c5 := fun W' h => (hcell W' h).2
            simp only at c1
            clear hy hcell
            generalize W.heap.size = S at *
            go_wp2_with fail
            refine region_deep 5 0 (JAll wq S g mb A ca g2 rb cp (.slice A1 N ca1) (.slice B1 M cb1) half age c u') (by kernel_rfl) (by kernel_rfl) (by decide) (by decide) jd ?_
            clear jd
            (apply Go.Proofs.Ytjkmcncgndkdoaa.L.wpDeep_yes; (focus rfl); (focus (apply Go.Proofs.Ytjkmcncgndkdoaa.L.dp_two (by decide); intro x W hW; go_simp; first | exact hW | exact ⟨rfl, hW⟩)); (focus (go_simp; first | done | rfl)))
            repeat (apply Go.Proofs.Ytjkmcncgndkdoaa.L.wpDeep_yes; (focus rfl); (focus (apply Go.Proofs.Ytjkmcncgndkdoaa.L.dp_plain (by decide) (by decide); intro x y W hW; have hX := Go.Proofs.Ytjkmcncgndkdoaa.L.some2 hW; go_simp; first | done | exact ⟨rfl, hW⟩ | rfl)); (focus (go_simp; first | done | rfl)))
            (apply Go.Proofs.Ytjkmcncgndkdoaa.L.wpDeep_yes; (focus rfl); (focus (apply Go.Proofs.Ytjkmcncgndkdoaa.L.dp_one (by decide); intro y W hW; go_simp; exact gAll y W hW)); (focus (go_simp; first | done | rfl)))
            repeat (apply Go.Proofs.Ytjkmcncgndkdoaa.L.wpDeep_yes; (focus rfl); (focus (apply Go.Proofs.Ytjkmcncgndkdoaa.L.dp_plain (by decide) (by decide); intro x y W hW; have hX := Go.Proofs.Ytjkmcncgndkdoaa.L.some2 hW; go_simp; first | done | exact ⟨rfl, hW⟩ | rfl)); (focus (go_simp; first | done | rfl)))
            (apply Go.Proofs.Ytjkmcncgndkdoaa.L.wpDeep_yes; (focus rfl); (focus (apply Go.Proofs.Ytjkmcncgndkdoaa.L.dp_late (by decide) (by decide) 60 (by kernel_rfl) (by kernel_rfl); intro W hW; go_simp; exact gList W hW)); (focus (go_simp; first | done | rfl)))
            repeat (apply Go.Proofs.Ytjkmcncgndkdoaa.L.wpDeep_yes; (focus rfl); (focus (apply Go.Proofs.Ytjkmcncgndkdoaa.L.dp_plain (by decide) (by decide); intro x y W hW; have hX := Go.Proofs.Ytjkmcncgndkdoaa.L.some2 hW; go_simp; first | done | exact ⟨rfl, hW⟩ | rfl)); (focus (go_simp; first | done | rfl)))
            (apply Go.Proofs.Ytjkmcncgndkdoaa.L.wpDeep_yes; (focus rfl); (focus (apply Go.Proofs.Ytjkmcncgndkdoaa.L.dp_late (by decide) (by decide) 60 (by kernel_rfl) (by kernel_rfl); intro W hW; go_simp; exact gUsed W hW)); (focus (go_simp; first | done | rfl)))
            repeat (apply Go.Proofs.Ytjkmcncgndkdoaa.L.wpDeep_yes; (focus rfl); (focus (apply Go.Proofs.Ytjkmcncgndkdoaa.L.dp_plain (by decide) (by decide); intro x y W hW; have hX := Go.Proofs.Ytjkmcncgndkdoaa.L.some2 hW; go_simp; first | done | exact ⟨rfl, hW⟩ | rfl)); (focus (go_simp; first | done | rfl)))
            (apply Go.Proofs.Ytjkmcncgndkdoaa.L.wpDeep_yes; (focus rfl); (focus (apply Go.Proofs.Ytjkmcncgndkdoaa.L.dp_late (by decide) (by decide) 60 (by kernel_rfl) (by kernel_rfl); intro W hW; go_simp; exact gGet W hW)); (focus (go_simp; first | done | rfl)))
            repeat (apply Go.Proofs.Ytjkmcncgndkdoaa.L.wpDeep_yes; (focus rfl); (focus (apply Go.Proofs.Ytjkmcncgndkdoaa.L.dp_plain (by decide) (by decide); intro x y W hW; have hX := Go.Proofs.Ytjkmcncgndkdoaa.L.some2 hW; go_simp; first | done | exact ⟨rfl, hW⟩ | rfl)); (focus (go_simp; first | done | rfl)))
            refine wpDeep_nil ?_
            intro W2 hW2
            have hm : JAll wq S g mb A ca g2 rb cp (.slice A1 N ca1) (.slice B1 M cb1) half age c u' true true W2 := hW2
            have HM := Lib.hid hm.1
            clear hW2 hm gAll gList gUsed gGet c1 c5 hsy tn
            go_wp2_with fail
            go_roundw
            case rel => exact ⟨k + 1, by go_num, by omega, by omega, by rw [hst2.out]; exact HM.out⟩
            case measure => simp [intOf]; omega
        · have hdf : k < K → decide ((k : Int) < 200) = false := fun h => by simp; omega
          by_cases hkK : k < K
          all_goals
            first | have ht := hdf hkK | have ht : decide (k < K) = false := by simpa using hkK
            clear hdf hkn
            go_wp2_with fail
            refine (aw.out _).mono ?_
            rintro e w4 ⟨rfl, hb4⟩
            have HB4 := Lib.hid (keeps_trans HBk.out hb4)
            clear hb4
            go_wp2_with fail
            go_ret
            exact ⟨rfl, keeps_trans Hb0.out HB4.out⟩
  · have t0 : (ck != 0) = true := by simp [h0]
    clear h0
    go_wp2_with fail
    refine (aw.out _).mono ?_
    rintro e w3 ⟨rfl, hb3⟩
    have HB3 := Lib.hid (keeps_trans HB2.out hb3)
    clear hb3
    go_wp2_with fail
    go_ret
    exact ⟨rfl, keeps_trans Hb0.out HB3.out⟩
end Go.Proofs.Ytjkmcncgndkdoaa.CfgW
