/-
  Chapter 6: a record that is torn is as if it had not been written; what comes behind it is kept.
-/
import Derived.Test.YtkdbehfmmmlmjaaJouKeeps
set_option linter.unusedVariables false
set_option linter.unusedSimpArgs false
namespace Go.Proofs.Ytkdbehfmmmlmjaa.L
open Go Go.RowKit
section
variable {P : Program}
theorem append_none {w : World} {B : Nat} {v : Value} {xs : List Value} (t ty E : TypeId) (i : TypeInfo) (ht : P.underlying t = some (.slice E)) (hi : P.info? E = some i) (hsz : i.size = 1) (h : RowV w B E v xs) (c : Nat) :
    (Builtin.append_ #[t, t] ty #[v, .slice none 0 c]).run P w = .ok v w := by
  rcases h.2 with ⟨rfl, hx⟩ | ⟨g, cap, cur, rfl, _, _, hnc, _⟩
  · simp [Builtin.append_, run_underlying ht, sizeOf, typeInfo, hi, Builtin.lenOf, Builtin.firstCells, hx]
  · simp [Builtin.append_, run_underlying ht, sizeOf, typeInfo, hi, Builtin.lenOf, Builtin.firstCells, hnc, storeCells]
/-- All elements of one row behind those of another. -/
theorem append_all {w : World} {B C : Nat} {v u : Value} {xs ys : List Value} (t ty E : TypeId) (i : TypeInfo) (z : Value) (bytes : Nat) (ht : P.underlying t = some (.slice E)) (hi : P.info? E = some i) (hz : i.zero = some z) (hsz : i.size = 1) (hby : i.bytes = bytes) (hzs : z.cells.size = 1)
    (h : RowV w B E v xs) (k : RowV w C E u ys) (hB : B ≤ w.heap.size) (h1 : ∀ x ∈ ys, x.oneCell' = true) (hlen : (xs.length + ys.length) * bytes ≤ 140737488355328) (hlen2 : xs.length + ys.length ≤ 140737488355328) :
    ∃ v' w', (Builtin.append_ #[t, t] ty #[v, u]).run P w = .ok v' w' ∧ RowV w' B E v' (xs ++ ys) ∧ w.grownBy w' v.ownBlock ∧ (∀ k, v'.ownBlock = some k → v.ownBlock = some k ∨ w.heap.size ≤ k) := by
  obtain ⟨a, c, rfl, hc⟩ := k.form
  cases a with
  | none =>
    have hn : ys = [] := by
      rcases ys with _ | ⟨y, ys⟩
      · rfl
      · obtain ⟨g, e, _⟩ := hc (by simp); cases e
    subst hn
    exact ⟨v, w, append_none t ty E i ht hi hsz h c, by simpa using h, World.grownBy.refl w _, fun k hk => .inl hk⟩
  | some ad =>
    obtain ⟨v', w', hr, ho, hg, _, hat⟩ := run_append_own_at (P := P) w B t ty E i z 1 bytes ht hi hz hsz hby hzs (by omega) v xs.length xs h ad ys.length c ys (by simp)
      (fun j u hu => by
        obtain ⟨g, e, _, hcell⟩ := hc (by intro e; subst e; simp at hu)
        injection e with e
        subst e
        rw [addr_add]
        exact hcell j u hu) h1 (by unfold maxLen; omega) hlen hB
    refine ⟨v', w', hr, ?_, hg, fun k hk => ?_⟩
    · unfold RowV; rw [List.length_append]; exact ho
    · rcases hat with e | e
      · exact .inl (e ▸ hk)
      · rw [e] at hk
        right
        have : w.heap.size = k := by injection hk
        omega
end
end Go.Proofs.Ytkdbehfmmmlmjaa.L
namespace Go.Proofs.Ytkdbehfmmmlmjaa.JouW
open Go.RowKit Go.Proofs.Ytkdbehfmmmlmjaa.L Go.Proofs.Ytkdbehfmmmlmjaa.CrcW Go.Proofs.Ytkdbehfmmmlmjaa.DiskW

/-- A row of records, and a disk. -/
structure DSt (w0 wr : World) (v : Value) (g : Nat) (R : List (List UInt8)) (l : List UInt8) : Prop where
  recs : Recs wr w0.heap.size v R
  disk : Own w0.heap.size (Row1 v) wr g (Jou.clean 1048576 l)
  below : Below w0.heap.size w0 wr
theorem dst_push {w0 wr : World} {v : Value} {g : Nat} {R : List (List UInt8)} {l : List UInt8} (h : DSt w0 wr v g R l) (hR : R.length ≤ 1048576) (x : List UInt8) :
    ∃ v' w', (Builtin.append_ #[42, 42] 42 #[v, .slice (some ⟨wr.heap.size, 0, none⟩) 1 1]).run Try.prog (wr.alloc (.cells #[vs x] 9)) = .ok v' w' ∧ DSt w0 w' v' g (R ++ [x]) l := by
  obtain ⟨v', w', hrun, ho, hg, hn⟩ := append_rec h.recs h.below.size x hR
  have hk : Kept (Row1 v) wr w' := ((Kept.refl _ wr).alloc _).trans (Kept.of_grown hg (fun i e => e))
  exact ⟨v', w', hrun, ho, own_more h.disk hk (fun i hi => .inl hi) (fun i hi => hn i hi), h.below.trans (hk.below h.below.size (fun i hi => (h.recs.lt i hi).1))⟩
theorem dst_open {w0 wr : World} {v : Value} {g : Nat} {R R' : List (List UInt8)} {l l' : List UInt8} (h : DSt w0 wr v g R l) (h1 : (Jou.scan l).1 = R') (h2 : Jou.opened l = l') :
    Calls Try.prog 28 #[.pointer (some ⟨g, 0, none⟩)] wr fun e w' => Found w0 v g R R' l' e w' := jst_open h.disk h.recs h.below h1 h2
theorem torn_plain (l f : List UInt8) (keep : Int) (h : l.length + f.length ≤ 1048576) : Dsk.writeErr (Jou.clean 1048576 l) f = 0 ∧ Dsk.crash (Dsk.write (Jou.clean 1048576 l) f) keep = Jou.clean 1048576 (l ++ f.take (min (max keep 0) (f.length : Int)).toNat) := by
  have e : Dsk.canWrite (Jou.clean 1048576 l) f = true := by rw [Jou.clean_can]; simpa using h
  refine ⟨by unfold Dsk.writeErr; rw [if_pos e], ?_⟩
  unfold Dsk.write
  rw [if_pos e]
  simp [Dsk.crash, Dsk.keepN, Jou.clean]
/-- The torn record's bytes: what is safe behind the crash. -/
def TornEnd (w0 : World) (v : Value) (g : Nat) (R : List (List UInt8)) (l : List UInt8) (w' : World) : Prop := DSt w0 w' v g R l
theorem dst_write {w0 wr : World} {v : Value} {g : Nat} {R : List (List UInt8)} {l f : List UInt8} (h : DSt w0 wr v g R l) (hf : f.length ≤ 1048576) :
    Calls Try.prog 17 #[.pointer (some ⟨g, 0, none⟩), .string (str f)] wr fun e w' => e = .returned (.int .i64 (Dsk.writeErr (Jou.clean 1048576 l) f)) ∧ Recs w' w0.heap.size v R ∧ Own w0.heap.size (Row1 v) w' g (Dsk.write (Jou.clean 1048576 l) f) ∧ Below w0.heap.size w0 w' := by
  refine (write_own h.disk h.below.size (fun k hk => (h.recs.lt k hk).2) (str f) (by rw [str_size]; unfold maxLen; omega)).mono ?_
  rintro e w' ⟨rfl, ho, hk⟩
  exact ⟨rfl, h.recs.kept (fun k hk' => hk.block k (h.recs.lt k hk').2 (fun hr => hr.2 hk')), ho, h.below.trans (hk.below h.below.size (fun _ hr => hr.1))⟩
theorem dst_crash {w0 wr : World} {v : Value} {g : Nat} {R : List (List UInt8)} {d : Dsk.D} {l' : List UInt8} (hr : Recs wr w0.heap.size v R) (ho : Own w0.heap.size (Row1 v) wr g d) (hb : Below w0.heap.size w0 wr) (n : Int) (hd : Dsk.crash d n = Jou.clean 1048576 l') :
    Calls Try.prog 20 #[.pointer (some ⟨g, 0, none⟩), .int .i64 n] wr fun e w' => e = .returned (.tuple #[]) ∧ DSt w0 w' v g R l' := by
  refine (crash_own ho hb.size (fun k hk => (hr.lt k hk).2) n).mono ?_
  rintro e w' ⟨rfl, ho', hk⟩
  rw [hd] at ho'
  exact ⟨rfl, hr.kept (fun k hk' => hk.block k (hr.lt k hk').2 (fun h => h.2 hk')), ho', hb.trans (hk.below hb.size (fun _ h => h.1))⟩
theorem JSt.dst {w0 wr : World} {v : Value} {j g n : Nat} {R : List (List UInt8)} {l : List UInt8} (h : JSt w0 wr v j g R l n) : DSt w0 wr v g R l := ⟨h.recs, h.disk, h.below⟩
theorem DSt.on {w0 wr w' : World} {v : Value} {g : Nat} {R : List (List UInt8)} {l : List UInt8} (h : DSt w0 wr v g R l) (hb : Below wr.heap.size wr w') : DSt w0 w' v g R l := ⟨h.recs.below hb, h.disk.below hb, h.below.trans (hb.mono h.below.size)⟩

/-- append(append([]string(nil), all...), x). -/
theorem both_append {w : World} {B : Nat} {v : Value} {R : List (List UInt8)} (h : Recs w B v R) (hR : R.length ≤ 100000) (x : List UInt8) :
    ∃ v1 w1 v2 w2, (Builtin.append_ #[42, 42] 42 #[.slice none 0 0, v]).run Try.prog w = .ok v1 w1 ∧
      (Builtin.append_ #[42, 42] 42 #[v1, .slice (some ⟨w1.heap.size, 0, none⟩) 1 1]).run Try.prog (w1.alloc (.cells #[vs x] 9)) = .ok v2 w2 ∧ Recs w2 w.heap.size v2 (R ++ [x]) ∧ Below w.heap.size w w2 := by
  obtain ⟨i0, hi, hz0, hz1, hz2⟩ := info_parts strinfo
  have hlm : (R.map vs).length = R.length := by simp
  obtain ⟨v1, w1, hr1, ho1, hg1, hn1⟩ := append_all (P := Try.prog) 42 42 9 i0 _ 16 Try.underlying42 hi hz0 hz1 hz2 rfl (RowV.nil w w.heap.size _) h (Nat.le_refl _) (fun y hy => by obtain ⟨_, _, rfl⟩ := List.mem_map.1 hy; rfl) (by simp; omega) (by simp; omega)
  rw [List.nil_append] at ho1
  have hb1 : Below w.heap.size w w1 := (Below.refl _ _).grown hg1 (Nat.le_refl _) (fun k hk => by cases hk)
  obtain ⟨v2, w2, hr2, ho2, hg2, hn2⟩ := append_rec (l := R) ho1 hb1.size x (by omega)
  have hb2 : Below w.heap.size w w2 := (hb1.alloc hb1.size _).grown hg2 (by have := hb1.size; simp; omega) (fun k hk => (ho1.lt k hk).1)
  exact ⟨v1, w1, v2, w2, hr1, hr2, ho2, hb2⟩
end Go.Proofs.Ytkdbehfmmmlmjaa.JouW
