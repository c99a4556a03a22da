/-
Parts that the laws of the whole program share: contracts of its functions, and plain laws.
-/
import Derived.Lib.Hide
import Derived.Below
import Derived.WalkKit
import Derived.ProofKit
set_option maxRecDepth 100000
set_option maxHeartbeats 16000000
set_option linter.all false
namespace Go.Proofs.YtedmeglbjmdlhaaGreatDoor
open Go
namespace Cfg
end Cfg
namespace bM
end bM
namespace Crc
end Crc
namespace IB
end IB
namespace Dec
end Dec
namespace akI
end akI
namespace pE
end pE
namespace Dsk
end Dsk
namespace Dv
end Dv
namespace Fix
end Fix
namespace sK
end sK
namespace Jou
end Jou
namespace pJ
end pJ
namespace L
end L
namespace Led
end Led
namespace Ord
end Ord
namespace eZ
end eZ
namespace Quo
end Quo
namespace Srt
end Srt
namespace Top
end Top
namespace bU
end bU
namespace Tree
end Tree
namespace Vec
end Vec
namespace jN
end jN
namespace topBack
end topBack
namespace topDrains
end topDrains
namespace topHead
end topHead
namespace topQuiet
end topQuiet
namespace topUsage
end topUsage
variable{n:Nat}{w:World}
open Go
theorem nZ{α:Sort _}(a:α):∃x,a=x:=⟨a,rfl⟩
theorem oZ{p:Prop}(h:p:=by omega):p:=h
theorem lZ:n<=n:=Nat.le_refl n
theorem bZ{o:Obj}:RowKit.Below w.heap.size w (w.alloc o):=(RowKit.Below.refl _ _).alloc (Nat.le_refl _) _
theorem kZ{p:Prop}(h:p:=by kernel_rfl):p:=h
theorem sZ{p:Prop}(h:p:=by simp):p:=h
theorem dZ{p:Prop}(h:p:=by decide):p:=h
theorem mZ{p:Prop}(h:p:=by go_num):p:=h
theorem qZ{p:Prop}(h:p):RowKit.Hid p:=h
theorem qY(p:Prop)(h:p):RowKit.Hid p:=h
instance:Coe Nat (Option Addr):=⟨λg=>some ⟨g,0,none⟩⟩
instance (g i:Nat):CoeDep (Nat×Nat) (g,i) Addr:=⟨⟨g,i,none⟩⟩
instance (g:World)(i:Nat):CoeDep (World×Nat) (g,i) Addr:=⟨⟨g.heap.size,i,none⟩⟩
instance:Coe Int Value:=⟨λx=>.int .i64 x⟩
instance:Coe Nat Value:=⟨λk=>.int .i64 (k:Int)⟩
instance:Coe Unit Value:=⟨λ_=>.int .i64 0⟩
instance:Coe Bool Value:=⟨λ_=>.slice none 0 0⟩
instance:Coe World Nat:=⟨λw=>w.heap.size⟩
abbrev CI(w:World)(b i:Nat)(x:Int):Prop:=w.cell? ⟨b,i,none⟩=some (.int .i64 x)
abbrev CV(w:World)(b i:Nat)(v:Value):Prop:=w.cell? ⟨b,i,none⟩=some v
def aH:= @List.getElem?_eq_getElem
def aL:= @List.getD_eq_getElem?_getD
def aM:= @Nat.lt_of_lt_of_le
def aD:= @if_neg
def aT:= @List.take_of_length_le
def aG:= @if_pos
def bH:= @List.drop_succ_cons
def aW:= @List.length_append
def aZ:= @List.mem_cons_self
def bE:= @List.getElem?_eq_some_iff
def bG:= @List.mem_cons_of_mem
def bF:= @List.take_succ_eq_append_getElem
def aU:= @Nat.zero_add
def bJ:= @List.drop_zero
def bB:= @List.getElem_mem
def bA:= @List.mem_cons
def aV:= @Nat.le_trans
def bK:= @Nat.zero_le
def bT:= @Array.getElem?_eq_some_iff
def bI:= @Nat.le_refl
def bR:= @Nat.mul_le_mul_right
def bN:= @List.length_map
def bO:= @List.length_take
def bP:= @List.append_assoc
def bL:= @List.mem_map
def dG:= @List.getElem?_append_left
def dX:= @Int.eq_ofNat_of_zero_le
def dH:= @Array.getElem?_eq_getElem
def dI:= @List.getElem?_append_right
def cO:= @List.mem_append_left
def cB:= @List.cons.injEq
def dM:= @List.drop_eq_getElem_cons
def bY:= @List.mem_append
def cZ:= @List.map_cons
def dP:= @Array.getElem?_toList
def dL:= @List.flatMap_cons
def dA:= @congrArg
def dF:= @getElem!_pos
def dO:= @List.map_append
def dS:= @List.not_mem_nil
def fU:= @List.getElem?_toArray
def eF:= @List.length_filter_le
def eB:= @List.getElem?_take
def gD:= @Bool.eq_false_iff
def dY:= @List.getElem?_eq_none
def eX:= @List.pairwise_cons
def fA:= @decide_eq_true_eq
def eG:= @decide_eq_false
def fK:= @List.getElem?_map
def fB:= @List.foldl_append
def fM:= @List.eq_nil_of_length_eq_zero
def eO:= @Array.mk.injEq
def eD:= @Nat.mul_comm
def fH:= @List.append_toArray
def fG:= @List.mem_append_right
def fC:= @List.append_nil
def fO:= @List.filter_append
def fV:= @List.length_drop
def gB:= @List.size_toArray
def fQ:= @List.nodup_cons
def fT:= @List.mem_filter
def gG:= @List.mem_of_getElem?
def fP:= @Nat.lt_or_ge
def fE:= @Nat.le_succ
def gT:= @List.all_eq_true
def iA:= @List.take_add_one
def gL:= @List.ext_getElem?
def gV:= @List.Perm.refl
def gM:= @List.map_nil
def gJ:= @Nat.add_mul
def iE:= @Nat.add_sub_cancel
def gU:= @List.take_append_drop
def gN:= @Int.le_refl
def gY:= @Nat.mul_one
def kC:= @Bool.false_eq_true
def lC:= @List.drop_of_length_le
def jA:= @List.drop_eq_nil_of_le
def gH:= @Array.getElem?_eq_none
def iM:= @Nat.min_eq_left
def iH:= @Int.mul_nonneg
def jD:= @List.take_append_of_le_length
def jP:= @Nat.two_pow_add_eq_or_of_lt
def gI:= @Nat.eq_zero_or_pos
def iY:= @Nat.div_add_mod
def iQ:= @Nat.add_assoc
def jM:= @List.length_eq_zero_iff
def iZ:= @List.getElem?_set_self
def iW:= @List.nodup_append
def jR:= @List.getElem_of_mem
def jY:= @Nat.div_lt_iff_lt_mul
def jZ:= @List.length_replicate
def kF:= @Array.setIfInBounds_comm
def jV:= @List.mem_flatMap
def jW:= @List.map_toArray
def jK:= @List.getElem?_set_ne
def jJ:= @Nat.add_comm
def jU:= @List.mem_range
def kS:= @List.flatMap_append
def kX:= @List.filter_eq_nil_iff
def kV:= @List.flatMap_nil
def lH:= @List.getElem?_drop
def lS:= @Array.replicate_succ
def jS:= @Nat.mod_lt
def lN:= @List.Sublist.refl
def lX:= @Nat.zero_mul
def pW:= @List.map_eq_nil_iff
def mG:= @List.length_pos_iff
def mJ:= @List.getElem?_replicate
def mH:= @List.filter_sublist
def mK:= @List.filter_cons_of_pos
def lY:= @List.any_eq_true
def aC:= @And.intro
def aJ:= @Go.RowKit.Below.refl
def bC:= @Go.World.size_alloc
end Go.Proofs.YtedmeglbjmdlhaaGreatDoor
