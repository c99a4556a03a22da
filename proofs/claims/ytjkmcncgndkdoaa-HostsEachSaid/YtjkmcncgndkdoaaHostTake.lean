/-
  Taken from some hosts, given to some hosts: the contracts of hosts.Take and hosts.Give.
-/
import Derived.Test.YtjkmcncgndkdoaaHostChange
set_option linter.unusedVariables false
set_option linter.unusedSimpArgs false
namespace Go.Proofs.Ytjkmcncgndkdoaa.CfgW
open Go.RowKit Go.Proofs.Ytjkmcncgndkdoaa.L

def DoYes (l : List Vec.V) (w : World) (e : Ending) (w' : World) : Prop := ∃ v, e = .returned (.tuple #[v, .int .i64 0]) ∧ VRow w' w.heap.size v l ∧ Below w.heap.size w w'
def DoNo (n : Int) (w : World) (e : Ending) (w' : World) : Prop := e = .returned (.tuple #[.slice none 0 0, .int .i64 n]) ∧ Below w.heap.size w w'
def GiveEnd (free : List Vec.V) (l : List Int) (need : Vec.V) (w : World) (e : Ending) (w' : World) : Prop :=
  if Hst.may free l need then DoYes (Hst.gang Vec.add need l free) w e w' else DoNo 1 w e w'
def TakeEnd (free : List Vec.V) (l : List Int) (need : Vec.V) (w : World) (e : Ending) (w' : World) : Prop :=
  if Hst.may free l need then (if Hst.fine (Hst.gang Vec.sub need l free) l then DoYes (Hst.gang Vec.sub need l free) w e w' else DoNo 12 w e w') else DoNo 1 w e w'

set_option maxRecDepth 100000 in
set_option maxHeartbeats 4000000 in
theorem give_any {w : World} {vf vl : Value} {free : List Vec.V} {l : List Int} (hf : VSl w vf free) (hl : ISl w vl l) (need : Vec.V) (hlen : free.length ≤ 1000000) :
    ∀ w1, Below w.heap.size w w1 → Calls Try.prog 44 #[vf, vl, need.val] w1 fun e w' => GiveEnd free l need w1 e w' := by
  intro w1 hb1
  have gC := Lib.hid (change_any 64 Vec.add (fun a b => VecW.gadd a b) (fun _ _ => by kernel_rfl) (hf.below hb1) (hl.below hb1) need hlen)
  obtain ⟨A, ca, rfl, _⟩ := hf
  obtain ⟨C, cc, rfl, _⟩ := hl
  obtain ⟨M, hM⟩ : ∃ M, free.length = M := ⟨_, rfl⟩
  obtain ⟨L, hL⟩ : ∃ L, l.length = L := ⟨_, rfl⟩
  rw [hM, hL] at gC
  rw [hM, hL]
  clear hb1 hL
  obtain ⟨q, hq⟩ : ∃ q, Hst.may free l need = q := ⟨_, rfl⟩
  unfold GiveEnd
  rw [hq]
  have gD := Lib.hid (show ∀ w2, Below w1.heap.size w1 w2 → Calls Try.prog 70 #[.slice A M ca, .slice C L cc, need.val, .func (.func 64) #[] #[]] w2 fun e w' => if q then ChYes (Hst.gang Vec.add need l free) w2 e w' else ChNo w2 e w' by
    intro w2 h2
    have := gC.out w2 h2
    unfold ChEnd at this
    rw [← hq]; exact this)
  generalize hO : Hst.gang Vec.add need l free = O at *
  obtain ⟨n0, n1, n2⟩ := need
  clear gC hq hO hM
  have hbw : Below w1.heap.size w1 (w1.alloc (.cells #[.int .i64 n0, .int .i64 n1, .int .i64 n2] 33)) := (Below.refl _ _).alloc (Nat.le_refl _) _
  have g1 := gD.out _ hbw
  have Hb := Lib.hid hbw
  clear hbw
  show Calls Try.prog 44 #[.slice A M ca, .slice C L cc, .agg #[.int .i64 n0, .int .i64 n1, .int .i64 n2]] w1 _
  replace g1 : Calls Try.prog 70 #[.slice A M ca, .slice C L cc, .agg #[.int .i64 n0, .int .i64 n1, .int .i64 n2], .func (.func 64) #[] #[]] _ _ := g1
  have G1 := Lib.hid g1
  clear g1 gD
  go_enter Try.func44, Try.ntmps44
  go_wp2_with fail
  refine G1.out.mono ?_
  cases q
  · rintro e w2 ⟨rfl, h2⟩
    have hb2 := Lib.hid (keeps_trans Hb.out h2)
    clear h2
    go_wp2_with fail
    go_ret2
    exact ⟨rfl, hb2.out⟩
  · rintro e w2 ⟨v, rfl, hr, h2⟩
    have hb2 := Lib.hid (keeps_trans Hb.out h2)
    have hr2 := Lib.hid (hr.low Hb.out.size)
    clear h2 hr
    go_wp2_with fail
    go_ret2
    exact ⟨v, rfl, hr2.out, hb2.out⟩

set_option maxRecDepth 100000 in
set_option maxHeartbeats 4000000 in
theorem take_any {w : World} {vf vl : Value} {free : List Vec.V} {l : List Int} (hf : VSl w vf free) (hl : ISl w vl l) (need : Vec.V) (hlen : free.length ≤ 1000000) :
    ∀ w1, Below w.heap.size w w1 → Calls Try.prog 43 #[vf, vl, need.val] w1 fun e w' => TakeEnd free l need w1 e w' := by
  intro w1 hb1
  have gC := Lib.hid (change_any 60 Vec.sub (fun a b => VecW.gsub a b) (fun _ _ => by kernel_rfl) (hf.below hb1) (hl.below hb1) need hlen)
  have hI := hl.below hb1
  obtain ⟨A, ca, rfl, _⟩ := hf
  obtain ⟨C, cc, rfl, hrC, hlC⟩ := hI
  unfold maxLen at hlC
  obtain ⟨M, hM⟩ : ∃ M, free.length = M := ⟨_, rfl⟩
  obtain ⟨L, hL⟩ : ∃ L, l.length = L := ⟨_, rfl⟩
  have HC := Lib.hid hrC
  have HM := Lib.hid hM
  have HL := Lib.hid hL
  rw [hM, hL] at gC
  rw [hL] at hlC
  rw [hM, hL]
  clear hb1 hrC hL hl
  obtain ⟨q, hq⟩ : ∃ q, Hst.may free l need = q := ⟨_, rfl⟩
  unfold TakeEnd
  rw [hq]
  have gD := Lib.hid (show ∀ w2, Below w1.heap.size w1 w2 → Calls Try.prog 70 #[.slice A M ca, .slice C L cc, need.val, .func (.func 60) #[] #[]] w2 fun e w' => if q then ChYes (Hst.gang Vec.sub need l free) w2 e w' else ChNo w2 e w' by
    intro w2 h2
    have := gC.out w2 h2
    unfold ChEnd at this
    rw [← hq]; exact this)
  have hOl := Lib.hid ((Hst.gang_length Vec.sub need l free).trans hM)
  have Hin := Lib.hid (fun (h : q = true) => (show ∀ (k : Nat) (hk : k < l.length), 0 ≤ l[k] ∧ l[k] < (M : Int) from fun k hk => by
    rw [← hM]
    refine Hst.all_at ?_ hk
    rw [← hq] at h
    unfold Hst.may at h
    simp only [Bool.and_eq_true] at h
    exact h.2))
  generalize hO : Hst.gang Vec.sub need l free = O at *
  have HNo := Lib.hid (fun h e w' (c : DoNo 12 w1 e w') => (show (if Hst.fine O l = true then DoYes O w1 e w' else DoNo 12 w1 e w') by rw [show Hst.fine O l = false from h]; exact c))
  have HYes := Lib.hid (fun h e w' (c : DoYes O w1 e w') => (show (if Hst.fine O l = true then DoYes O w1 e w' else DoNo 12 w1 e w') by rw [show Hst.fine O l = true from h]; exact c))
  generalize hQ : (fun e w' => if Hst.fine O l = true then DoYes O w1 e w' else DoNo 12 w1 e w') = Q
  have HNo' : Hid (Hst.fine O l = false → ∀ e w', DoNo 12 w1 e w' → Q e w') := by rw [← hQ]; exact HNo
  have HYes' : Hid (Hst.fine O l = true → ∀ e w', DoYes O w1 e w' → Q e w') := by rw [← hQ]; exact HYes
  obtain ⟨n0, n1, n2⟩ := need
  show Calls Try.prog 43 #[.slice A M ca, .slice C L cc, .agg #[.int .i64 n0, .int .i64 n1, .int .i64 n2]] w1 fun e w' => if q = true then (fun e w' => if Hst.fine O l = true then DoYes O w1 e w' else DoNo 12 w1 e w') e w' else DoNo 1 w1 e w'
  rw [hQ]
  clear gC hq hO hM HNo HYes hQ
  have hbw : Below w1.heap.size w1 (w1.alloc (.cells #[.int .i64 n0, .int .i64 n1, .int .i64 n2] 33)) := (Below.refl _ _).alloc (Nat.le_refl _) _
  have g1 := gD.out _ hbw
  have Hb := Lib.hid hbw
  clear hbw
  replace g1 : Calls Try.prog 70 #[.slice A M ca, .slice C L cc, .agg #[.int .i64 n0, .int .i64 n1, .int .i64 n2], .func (.func 60) #[] #[]] _ _ := g1
  have G1 := Lib.hid g1
  clear g1 gD
  go_enter Try.func43, Try.ntmps43
  go_wp2_with fail
  refine G1.out.mono ?_
  cases q
  · rintro e w2 ⟨rfl, h2⟩
    have hb2 := Lib.hid (keeps_trans Hb.out h2)
    clear h2
    go_wp2_with fail
    go_ret2
    exact ⟨rfl, hb2.out⟩
  · rintro e w2 ⟨v, rfl, hr, h2⟩
    have hb2 := Lib.hid (keeps_trans Hb.out h2)
    have hr2 := hr.low Hb.out.size
    obtain ⟨Av, cv, rfl, hsm⟩ := hr2.form
    have hOM : O.length = M := hOl.out
    rw [hOM] at hr2 hsm
    have HS := Lib.hid hsm
    have HR := Lib.hid hr2
    rw [hOM]
    clear h2 hr hr2 hsm hOM
    go_wp2_with fail
    go_loopw [23] (fun i wx => ∃ j : Nat, i = .int .i64 (j : Int) ∧ j ≤ L ∧ Hst.fine O (l.take j) = true ∧ Below w2.heap.size w2 wx) (fun i _ => L - (intOf i).toNat)
    case atStart => exact ⟨0, rfl, by omega, rfl, Below.refl _ _⟩
    case round =>
      obtain ⟨j, rfl, hj, hfine, hb⟩ := hrel
      rename World => wx
      by_cases hjl : j < L
      · have hjh : j < l.length := by rw [HL.out]; exact hjl
        obtain ⟨bc, oc, rfl, hltc, hcc⟩ := row_int HC.out hjh
        have p := hcc wx (keeps_trans hb2.out hb)
        obtain ⟨hi0, hi1⟩ := Hin.out trivial j hjh
        have HFN := Lib.hid (fun hn => Hst.fine_no (o := O) hjh hn)
        have HFS := Lib.hid (fun hn => Hst.fine_succ (o := O) hjh hfine hn)
        generalize l[j] = h at *
        obtain ⟨i, rfl⟩ := Int.eq_ofNat_of_zero_le hi0
        have hiM : i < M := by omega
        have hiO : i < O.length := by rw [hOl.out]; exact hiM
        obtain ⟨G, rfl⟩ := HS.out (by omega)
        obtain ⟨-, -, hlG, q0, q1, q2⟩ := (HR.out.below hb).at_ hiO
        have hgd : O.getD (i : Int).toNat Vec.zero = O[i] := by rw [Int.toNat_natCast, List.getD_eq_getElem?_getD, List.getElem?_eq_getElem hiO, Option.getD_some]
        rw [hgd] at HFN HFS
        generalize O[i] = z at *
        obtain ⟨z0, z1, z2⟩ := z
        have gO := Lib.hid (VecW.gover Vec.zero ⟨z0, z1, z2⟩)
        obtain ⟨s, hs⟩ : ∃ s, Vec.fits Vec.zero ⟨z0, z1, z2⟩ = s := ⟨_, rfl⟩
        rw [hs] at gO HFN HFS
        have gO2 : Gives Try.prog 57 #[.agg #[.int .i64 0, .int .i64 0, .int .i64 0], .agg #[.int .i64 z0, .int .i64 z1, .int .i64 z2]] (.bool (!s)) := gO.out
        have GO := Lib.hid gO2
        have Hbx := Lib.hid hb
        simp only at q0 q1 q2
        clear hcc hjh hi0 hi1 hiO hgd hs gO gO2 hfine hb
        go_wp2_with fail
        refine (GO.out _).mono ?_
        rintro e w3 ⟨rfl, h3⟩
        have H3 := Lib.hid (keeps_trans Hbx.out h3)
        clear h3 q0 q1 q2 p
        cases s
        · go_wp2_with fail
          exact HNo'.out (HFN.out trivial) _ _ ⟨rfl, keeps_trans hb2.out H3.out⟩
        · go_wp2_with fail
          go_roundw
          case rel => exact ⟨j + 1, by go_num, by omega, HFS.out trivial, H3.out⟩
          case measure => simp [intOf]; omega
      · rw [List.take_of_length_le (by rw [HL.out]; omega)] at hfine
        have HE := Lib.hid (HYes'.out hfine _ _ ⟨_, rfl, HR.out.below hb, keeps_trans hb2.out hb⟩)
        clear hfine hb
        go_wp2_with fail
        exact HE.out
end Go.Proofs.Ytjkmcncgndkdoaa.CfgW
