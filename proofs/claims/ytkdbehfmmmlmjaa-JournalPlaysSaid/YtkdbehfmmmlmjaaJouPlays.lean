/-
  Chapter 6: a disk with any content: what is found; any records that are appended, up to what is full.
-/
import Derived.Test.YtkdbehfmmmlmjaaJouTornB
import Derived.Test.YtkdbehfmmmlmjaaCommB
set_option linter.unusedVariables false
set_option linter.unusedSimpArgs false
namespace Go.Proofs.Ytkdbehfmmmlmjaa.JouW
open Go.RowKit Go.Proofs.Ytkdbehfmmmlmjaa.L Go.Proofs.Ytkdbehfmmmlmjaa.CrcW Go.Proofs.Ytkdbehfmmmlmjaa.DiskW

set_option maxHeartbeats 400000 in
theorem rnew_any (n : Int) (w : World) : Calls Try.prog 32 #[.int .i64 n] w fun e w' => e = .returned (.pointer (some ⟨w.heap.size, 0, none⟩)) ∧ w' = w.alloc (.cells #[.int .i64 ((Dsk.new n).size : Int), .string (str []), .string (str []), .bool false] 33) := by
  go_enter Try.func32, Try.ntmps32
  go_wp2
  go_ret
  refine ⟨rfl, ?_⟩
  rw [show (((Dsk.new n).size : Nat) : Int) = max 0 (min n 1048576) by unfold Dsk.new; simp only; omega]
  rfl

/-- Both journals' blocks besides the program's disk. -/
def LB (h b : Nat) : Nat → Prop := fun k => k = h ∨ k = b
/-- Both journals: the program's at j on g, the reference's at b on h. -/
structure PSt (w0 wr : World) (g h j b m : Nat) (l l' : List UInt8) (n n' : Nat) : Prop where
  own : JOwn w0.heap.size (LB h b) wr j g m l n
  ref : RJ wr b h m l' n'
  below : Below w0.heap.size w0 wr
  lowb : w0.heap.size ≤ b
  lowh : w0.heap.size ≤ h
theorem PSt.on {w0 wr w' : World} {g h j b m n n' : Nat} {l l' : List UInt8} (p : PSt w0 wr g h j b m l l' n n') (k : Below wr.heap.size wr w') : PSt w0 w' g h j b m l l' n n' := ⟨p.own.below k, p.ref.below k, p.below.trans (k.mono p.below.size), p.lowb, p.lowh⟩
theorem PSt.live {w0 wr : World} {g h j b m n n' : Nat} {l l' : List UInt8} (p : PSt w0 wr g h j b m l l' n n') : Live (LB h b) wr := fun k hk => by
  rcases hk with rfl | rfl
  · exact p.ref.ref.blk.lt
  · exact p.ref.blk.lt
theorem PSt.one {w0 wr w' : World} {g h j b m n n' n2 : Nat} {l l' l2 : List UInt8} (p : PSt w0 wr g h j b m l l' n n') (o : JOwn w0.heap.size (LB h b) w' j g m l2 n2) (k : Kept (Room w0.heap.size (LB h b)) wr w') : PSt w0 w' g h j b m l2 l' n2 n' :=
  ⟨o, p.ref.kept k (fun hr => hr.2 (.inr rfl)) (fun hr => hr.2 (.inl rfl)), p.below.trans (k.below p.below.size (fun _ hr => hr.1)), p.lowb, p.lowh⟩
theorem PSt.two {w0 wr w' : World} {g h j b m n n' n2 : Nat} {l l' l2 : List UInt8} (p : PSt w0 wr g h j b m l l' n n') (r : RJ w' b h m l2 n2) (k : Kept (Two2 b h) wr w') : PSt w0 w' g h j b m l l2 n n2 :=
  ⟨p.own.kept k (fun i hi => .inl (hi.symm)), r, p.below.trans (k.below p.below.size (fun i hi => by
    rcases hi with rfl | rfl
    · exact p.lowb
    · exact p.lowh)), p.lowb, p.lowh⟩

/-- The two appends, in any order. -/
def JP (w0 : World) (g h j b m : Nat) (l l2 : List UInt8) (n n2 : Nat) (x y : Bool) (W : World) : Prop :=
  PSt w0 W g h j b m (if x then l2 else l) (if y then l2 else l) (if x then n2 else n) (if y then n2 else n)
theorem jp_one {w0 : World} {g h j b m n : Nat} {l : List UInt8} (hn : n ≤ 1048576) (s : ByteArray) (hs : s.size ≤ maxLen) : ∀ y W, JP w0 g h j b m l (Jou.appTo m l s.data.toList) n (Jou.appN m l s.data.toList n) false y W →
    Calls Try.prog 29 #[.pointer (some ⟨j, 0, none⟩), .string s] W fun e W' => e = .returned (.int .i64 (Jou.appErr m l s.data.toList)) ∧ JP w0 g h j b m l (Jou.appTo m l s.data.toList) n (Jou.appN m l s.data.toList n) true y W' := fun y W p => by
  unfold JP at p ⊢
  simp only [Bool.false_eq_true, if_false] at p
  refine (append_own p.own p.below.size p.live hn s hs).mono ?_
  rintro e W' ⟨rfl, o, k⟩
  exact ⟨rfl, p.one o k⟩
theorem jp_two {w0 : World} {g h j b m n : Nat} {l : List UInt8} (hn : n ≤ 1048576) (s : ByteArray) (hs : s.size ≤ maxLen) : ∀ x W, JP w0 g h j b m l (Jou.appTo m l s.data.toList) n (Jou.appN m l s.data.toList n) x false W →
    Calls Try.prog 36 #[.pointer (some ⟨b, 0, none⟩), .string s] W fun e W' => e = .returned (.int .i64 (Jou.appErr m l s.data.toList)) ∧ JP w0 g h j b m l (Jou.appTo m l s.data.toList) n (Jou.appN m l s.data.toList n) x true W' := fun x W p => by
  unfold JP at p ⊢
  simp only [Bool.false_eq_true, if_false] at p
  refine (rappend_any p.ref hn s hs).mono ?_
  rintro e W' ⟨rfl, o, k⟩
  exact ⟨rfl, p.two o k⟩
theorem jp_end {w0 : World} {g h j b m n n2 : Nat} {l l2 : List UInt8} {W : World} (p : JP w0 g h j b m l l2 n n2 true true W) : PSt w0 W g h j b m l2 l2 n2 n2 := p
theorem jp_below {w0 : World} {g h j b m n n2 : Nat} {l l2 : List UInt8} {W : World} (p : Some2 (JP w0 g h j b m l l2 n n2) W) : Below w0.heap.size w0 W := by
  obtain ⟨x, y, p⟩ := p
  exact p.below

/-- What only reads both. -/
theorem pst_rec {w0 W : World} {g h j b m n n' : Nat} {l l' : List UInt8} (p : PSt w0 W g h j b m l l' n n') : Calls Try.prog 30 #[.pointer (some ⟨j, 0, none⟩)] W fun e W' => e = .returned (.int .i64 (n : Int)) ∧ W = W' :=
  (records_any p.own.blk).mono fun _ _ ⟨h1, h2⟩ => ⟨h1, h2.symm⟩
theorem pst_con {w0 W : World} {g h j b m n n' : Nat} {l l' : List UInt8} (p : PSt w0 W g h j b m l l' n n') : Calls Try.prog 15 #[.pointer (some ⟨g, 0, none⟩)] W fun e W' => e = .returned (.string (str l)) ∧ W = W' := content_own p.own.own
theorem pst_wait {w0 W : World} {g h j b m n n' : Nat} {l l' : List UInt8} (p : PSt w0 W g h j b m l l' n n') : Calls Try.prog 21 #[.pointer (some ⟨g, 0, none⟩)] W fun e W' => e = .returned (.int .i64 0) ∧ W = W' := waiting_own p.own.own
theorem pst_n {w0 W : World} {g h j b m n n' : Nat} {l l' : List UInt8} (p : PSt w0 W g h j b m l l' n n') : W.cell? ⟨b, 1, none⟩ = some (.int .i64 (n' : Int)) := p.ref.blk.cell 1
theorem pst_safe {w0 W : World} {g h j b m n n' : Nat} {l l' : List UInt8} (p : PSt w0 W g h j b m l l' n n') : W.cell? ⟨h, 1, none⟩ = some (.string (str l')) := p.ref.ref.blk.cell 1

/-- The two journals opened, on disks that hold the same. -/
theorem appN_le (m : Nat) (l s : List UInt8) (n : Nat) : Jou.appN m l s n ≤ n + 1 := by unfold Jou.appN; split <;> omega

set_option maxRecDepth 100000 in
set_option maxHeartbeats 4000000 in
/-- One round of the appends: the drawn test. -/
theorem jp_start {w0 W : World} {g h j b m n : Nat} {l l2 : List UInt8} {n2 : Nat} (p : PSt w0 W g h j b m l l n n) : JP w0 g h j b m l l2 n n2 false false W := p
end Go.Proofs.Ytkdbehfmmmlmjaa.JouW
