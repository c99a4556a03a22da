/-
  A journal, and a row of what was appended to it.
-/
import Derived.Test.YtkdbehfmmmlmjaaJouLaws
set_option linter.unusedVariables false
set_option linter.unusedSimpArgs false
namespace Go.Proofs.Ytkdbehfmmmlmjaa.JouW
open Go.RowKit Go.Proofs.Ytkdbehfmmmlmjaa.L Go.Proofs.Ytkdbehfmmmlmjaa.CrcW Go.Proofs.Ytkdbehfmmmlmjaa.DiskW

def Row1 (v : Value) : Nat → Prop := fun b => v.ownBlock = some b
/-- The row v holds the records R, the journal at j, on the disk of block g, has n records, the disk the bytes l; what was in w0 stays. -/
structure JSt (w0 wr : World) (v : Value) (j g : Nat) (R : List (List UInt8)) (l : List UInt8) (n : Nat) : Prop where
  recs : Recs wr w0.heap.size v R
  own : JOwn w0.heap.size (Row1 v) wr j g 1048576 l n
  below : Below w0.heap.size w0 wr
theorem JSt.drew {w0 wr w' : World} {v : Value} {j g n m : Nat} {R : List (List UInt8)} {l : List UInt8} (h : JSt w0 wr v j g R l n) (e : w' = wr.drewN m) : JSt w0 w' v j g R l n := by
  have hb : Below wr.heap.size wr w' := drewN_of e
  exact ⟨h.recs.below hb, h.own.below hb, h.below.trans (hb.mono h.below.size)⟩
theorem JSt.live {w0 wr : World} {v : Value} {j g n : Nat} {R : List (List UInt8)} {l : List UInt8} (h : JSt w0 wr v j g R l n) : Live (Row1 v) wr := fun k hk => (h.recs.lt k hk).2

theorem jst_app {w0 wr : World} {v : Value} {j g n : Nat} {R : List (List UInt8)} {l : List UInt8} (h : JSt w0 wr v j g R l n) (hn : n ≤ 1048576) (s : ByteArray) (hs : s.size ≤ maxLen) :
    Calls Try.prog 29 #[.pointer (some ⟨j, 0, none⟩), .string s] wr fun e w' => e = .returned (.int .i64 (Jou.appErr 1048576 l s.data.toList)) ∧ JSt w0 w' v j g R (Jou.appTo 1048576 l s.data.toList) (Jou.appN 1048576 l s.data.toList n) := by
  refine (append_own h.own h.below.size h.live hn s hs).mono ?_
  rintro e w' ⟨rfl, ho, hk⟩
  exact ⟨rfl, h.recs.kept (fun k hk' => hk.block k (h.recs.lt k hk').2 (fun hr => hr.2 hk')), ho, h.below.trans (hk.below h.below.size (fun _ hr => hr.1))⟩
theorem jst_app_big {w0 wr : World} {v : Value} {j g n : Nat} {R : List (List UInt8)} {l : List UInt8} (h : JSt w0 wr v j g R l n) (hn : n ≤ 1048576) (s : ByteArray) (hs : s.size ≤ maxLen) (hb : 16384 < s.size) :
    Calls Try.prog 29 #[.pointer (some ⟨j, 0, none⟩), .string s] wr fun e w' => e = .returned (.int .i64 8) ∧ JSt w0 w' v j g R l n := by
  obtain ⟨q1, q2, q3⟩ := Jou.app_big 1048576 l s.data.toList n (by simpa using hb)
  have := jst_app h hn s hs
  rw [q1, q2, q3] at this
  exact this
theorem jst_app_ok {w0 wr : World} {v : Value} {j g n : Nat} {R : List (List UInt8)} {l : List UInt8} (h : JSt w0 wr v j g R l n) (hn : n ≤ 1048576) (hl : l.length ≤ 900000) (s : ByteArray) (hs : s.size ≤ maxLen) (hb : s.size ≤ 16384) :
    Calls Try.prog 29 #[.pointer (some ⟨j, 0, none⟩), .string s] wr fun e w' => e = .returned (.int .i64 0) ∧ JSt w0 w' v j g R (l ++ Crc.frame s.data.toList) (n + 1) := by
  obtain ⟨q1, q2, q3⟩ := Jou.app_ok 1048576 l s.data.toList n (by simpa using hb) (by rw [Crc.frame_length _ (by simpa using hb)]; simp; omega)
  have := jst_app h hn s hs
  rw [q1, q2, q3] at this
  exact this
theorem jst_push {w0 wr : World} {v : Value} {j g n : Nat} {R : List (List UInt8)} {l : List UInt8} (h : JSt w0 wr v j g R l n) (hR : R.length ≤ 1048576) (x : List UInt8) :
    ∃ v' w', (Builtin.append_ #[42, 42] 42 #[v, .slice (some ⟨wr.heap.size, 0, none⟩) 1 1]).run Try.prog (wr.alloc (.cells #[vs x] 9)) = .ok v' w' ∧ JSt w0 w' v' j g (R ++ [x]) l n := by
  obtain ⟨v', w', hrun, ho, hg, hn⟩ := append_rec h.recs h.below.size x hR
  have hk : Kept (Row1 v) wr w' := ((Kept.refl _ wr).alloc _).trans (Kept.of_grown hg (fun i e => e))
  refine ⟨v', w', hrun, ho, h.own.more hk (fun i hi => .inl hi) (fun i hi => hn i hi), h.below.trans (hk.below h.below.size (fun i hi => (h.recs.lt i hi).1))⟩

/-- The journal opened anew: what is found. -/
def Found (w0 : World) (v : Value) (g : Nat) (R R' : List (List UInt8)) (l' : List UInt8) (e : Ending) (w' : World) : Prop :=
  ∃ A c j, e = .returned (.tuple #[.pointer (some ⟨j, 0, none⟩), .slice A R'.length c]) ∧ Recs w' w0.heap.size (.slice A R'.length c) R' ∧ JSt w0 w' v j g R l' R'.length
theorem jst_open {w0 wr : World} {v : Value} {g : Nat} {R R' : List (List UInt8)} {l l' : List UInt8} (ho : Own w0.heap.size (Row1 v) wr g (Jou.clean 1048576 l)) (hr : Recs wr w0.heap.size v R) (hb : Below w0.heap.size w0 wr) (h1 : (Jou.scan l).1 = R') (h2 : Jou.opened l = l') :
    Calls Try.prog 28 #[.pointer (some ⟨g, 0, none⟩)] wr fun e w' => Found w0 v g R R' l' e w' := by
  have hL : Live (Row1 v) wr := fun k hk => (hr.lt k hk).2
  refine (open_own ho hb.size hL).mono ?_
  intro e w' h
  obtain ⟨A, c, j, rfl, hr', hj, ho', hk⟩ := OpenEnd.at h h1 h2
  refine ⟨A, c, j, rfl, RowV.low hr' hb.size, ⟨hr.kept (fun k hk' => hk.block k (hr.lt k hk').2 (fun hr => hr.2 hk')), ?_, hb.trans (hk.below hb.size (fun _ hr => hr.1))⟩⟩
  exact ho'.more (G := fun _ => False) (Kept.refl _ _) (fun _ h => h.elim) (fun i hi => .inl (.inl hi))
theorem JSt.disk {w0 wr : World} {v : Value} {j g n : Nat} {R : List (List UInt8)} {l : List UInt8} (h : JSt w0 wr v j g R l n) : Own w0.heap.size (Row1 v) wr g (Jou.clean 1048576 l) := own_less h.own.own (fun i hi => .inl hi)

theorem found_not {w0 : World} {v : Value} {g : Nat} {R R' : List (List UInt8)} {l' : List UInt8} {e : Ending} {w' : World} (h : Found w0 v g R R' l' e w') : ∃ A c j, e = .returned (.tuple #[.pointer (some ⟨j, 0, none⟩), .slice A R'.length c]) ∧ Recs w' w0.heap.size (.slice A R'.length c) R' ∧ JSt w0 w' v j g R l' R'.length := h

/-- A new disk, opened. -/
theorem row_nil : Row1 (.slice none 0 0) = fun _ => False := by
  funext b
  simp [Row1, Value.ownBlock]

theorem fit_total (xs : List (List UInt8)) (k : Nat) : (Jou.frames (Jou.fit (xs.take k))).length ≤ total xs + 8 * xs.length := by
  have key : ∀ ys : List (List UInt8), (Jou.frames (Jou.fit ys)).length ≤ total ys + 8 * ys.length := by
    intro ys
    induction ys with
    | nil => simp [Jou.fit, Jou.frames, total]
    | cons y ys ih =>
      by_cases hy : y.length ≤ 16384
      · have e : Jou.fit (y :: ys) = y :: Jou.fit ys := by unfold Jou.fit; simp [hy]
        rw [e]
        show (Crc.frame y ++ Jou.frames (Jou.fit ys)).length ≤ _
        rw [List.length_append, Crc.frame_length y hy]
        simp only [total, List.length_cons]
        omega
      · have e : Jou.fit (y :: ys) = Jou.fit ys := by unfold Jou.fit; simp [hy]
        rw [e]
        simp only [total, List.length_cons]
        omega
  have h1 := key (xs.take k)
  have h2 := total_le xs k
  have h3 : (xs.take k).length ≤ xs.length := by rw [List.length_take]; omega
  omega
theorem fit_len (xs : List (List UInt8)) (k : Nat) : (Jou.fit (xs.take k)).length ≤ xs.length := by
  have h1 := Jou.fit_length (xs.take k)
  have h3 : (xs.take k).length ≤ xs.length := by rw [List.length_take]; omega
  omega
theorem frames_snoc (R : List (List UInt8)) (x : List UInt8) : Jou.frames (R ++ [x]) = Jou.frames R ++ Crc.frame x := by rw [Jou.frames_append, Jou.frames_one]

/-- An element of a row of texts that came in. -/
theorem text_at {w wr : World} {A : Option Addr} {xs : List (List UInt8)} (hr : RowOf w A 1 sdec xs) (hb : Below w.heap.size w wr) {k : Nat} (hk : k < xs.length) : ∃ b o, A = some ⟨b, o, none⟩ ∧ wr.cell? ⟨b, o + k, none⟩ = some (.string (str xs[k])) := by
  obtain ⟨b, o, rfl, hlt, hc⟩ := hr (by intro e; subst e; simp at hk)
  have := hc k xs[k] (List.getElem?_eq_getElem hk) 0 (vs xs[k]) rfl
  rw [Nat.mul_one, Nat.add_zero] at this
  exact ⟨b, o, rfl, (hb.cell (p := ⟨b, o + k, none⟩) hlt).trans this⟩
theorem text_len {xs : List (List UInt8)} (hf : few xs = true) {k : Nat} (hk : k < xs.length) : xs[k].length ≤ 60000 := by
  have h1 := (few_len hf).2
  have h2 := total_take xs k xs[k] (List.getElem?_eq_getElem hk)
  have h3 := total_le xs (k + 1)
  omega
end Go.Proofs.Ytkdbehfmmmlmjaa.JouW
