/-
Parts that the laws of the whole program share: contracts of its functions, and plain laws.
-/
import Derived.Test.YtedmeglbjmdlhaaGreatDoorG12
import Derived.Test.YtedmeglbjmdlhaaGreatDoorShelf
set_option maxRecDepth 100000
set_option maxHeartbeats 16000000
set_option linter.all false
open Go.Proofs.Tryz
namespace Go.Proofs.YtedmeglbjmdlhaaGreatDoor
open Go
open L bU pJ
namespace pJ
open Go.RowKit L
theorem afR:(prog.info? 303).map (·.size)=some 2:=by kernel_rfl
theorem anU:(prog.info? 5).map (λi=>(i.zero,i.size,i.bytes))=some (some (.int .u8 0),1,1):=by kernel_rfl
theorem aal(b:Nat)(w:World)(c:w.cell? (b,0)=some (.pointer b)):Calls prog 267 #[.pointer b] w λe w'=>e=.returned (.tuple #[])/\w'=w:=by
 obtain⟨j,a,_⟩:=Option.map_eq_some_iff.1 afR;go_enter func267,ntmps267;go_wp2;rw[Lib.run_neq_ptr_same w _ underlying301 a];go_wp2
 go_end0
 exact⟨rfl,rfl⟩
theorem anO(l:List UInt8)(s:ByteArray):Lib.byteCells l++Lib.strCells s=Lib.byteCells (l++s.data.toList):=by unfold Lib.byteCells Lib.strCells;rw[dO]
end pJ
variable{i:Nat}{v v1:Value}{w w' w1:World}
namespace bU
open Go Go.RowKit L
theorem atr:liesAt prog prog.depth 331 (2/prog.cellsOf 331) 0 303 1=true:=by kernel_rfl
theorem akt:prog.cellsOf 5=1:=by kernel_rfl
structure yJ (w:World) (b:Nat) (v:Value) (l:List UInt8):Prop where
 cK:∃p,(p=.pointer none\/p=.pointer b)/\Blk w b 331 #[p,v]
 row:fI w 0 5 v (Lib.byteCells l)
 ne:v.ownBlock≠some b
def qK(b:Nat)(v:Value)(i:Nat):Prop:=i=b\/v.ownBlock=some i
def jI(w:World)(b:Nat)(v:Value)(l:List UInt8)(w':World):Prop:=∃v',yJ w' b v' l/\aO (qK b v) w w'/\∀i,qK b v' i->qK b v i\/(w:Nat)<=i
theorem yJ.lt{b:Nat}{l:List UInt8}(h:yJ w b v l):b<(w:Nat):=by obtain⟨p,_,a⟩:=h.cK;exact a.lt
theorem yJ.foot{b:Nat}{l:List UInt8}(h:yJ w b v l)(hi:qK b v i):i<(w:Nat):=by
 rcases hi with rfl|hi
 .exact h.lt
 .exact(h.row.lt i hi).2
theorem yJ.below{b:Nat}{l:List UInt8}(h:yJ w b v l)(a:Below w w w'):yJ w' b v l:=by obtain⟨p,d,c⟩:=h.cK;exact⟨⟨p,d,c.below a c.lt⟩,h.row.below a,h.ne⟩
theorem jI.after{b:Nat}{l:List UInt8}(c:aO (qK b v) w w1)(a:∀i,qK b v1 i->qK b v i\/(w:Nat)<=i)(h:jI w1 b v1 l w'):jI w b v l w':=by
 obtain⟨v',d,e,f⟩:=h;refine⟨v',d,c.trans' e λi hi g=>?_,λi hi=>?_⟩
 .rcases a i g with h|h
  .exact h
  .omega
 .rcases f i hi with h|h
  .exact a i h
  .exact .inr (aV c.size h)
theorem atp(w:World):yJ (w.alloc (.cells #[.pointer none,true] 331)) (w:Nat) (.slice none 0 0) []:=⟨⟨_,.inl rfl,Blk.new _ _ _⟩,fI.nil _ _ _,λe=>by cases e⟩
theorem ajg{l:List UInt8}(h:fI w 0 5 v (Lib.byteCells l)):mD w 0 v l:=by
 have i:=Lib.byteCells_length l;have a:=h;unfold fI at a;rw[i]at a;rcases a.2 with⟨rfl,d⟩|⟨g,cap,cur,rfl,e,f,m,k,n,o⟩
 .exact .inl ⟨rfl,fM d⟩
 .refine .inr ⟨g,cap,rfl,e,(h.lt g rfl).2,m,k,λj c=>?_,λj c=>?_⟩
  .have:=a.cells (g:=g) rfl j (.int .u8 (l[j].toNat:Int)) (by simp[Lib.byteCells,c]);rwa [addr_add]at this
  .have b:Blk w g 5 cur:=f;refine⟨?_,b.frozen j⟩;rw[b.cell j,dH oZ];rfl
theorem aoQ{l:List UInt8}(h:fI w 0 5 v (Lib.byteCells l))(t:List UInt8)(n:l.length+t.length<=1000000):∃v' w',(Builtin.append_ #[239,9] 239 #[v,.string (str t)]).run prog w=.ok v' w'/\fI w' 0 5 v' (Lib.byteCells (l++t))/\w.grownBy w' v.ownBlock/\(∀k,v'.ownBlock=some k->v.ownBlock=some k\/(w:Nat)<=k):=by
 obtain⟨i0,hi,e,f,g⟩:=info_parts pJ.anU;have j:=Lib.byteCells_length l;have d:(str t).size=t.length:=pF t;have m:Src prog 1 9 (.string (str t)) t.length (cellsOf t) w:=by have:=YI (P:=prog) (w:=w) underlying9 (str t);rwa [d,mO]at this
 obtain⟨v1,w1,e1,_,_,e4⟩:=vX (l:=l) (new:=t) 239 9 239 5 i0 underlying239 hi e f g (ajg h) (bK _) m oZ;have b:=h;unfold fI at b;rw[j]at b;obtain⟨v2,o,a,c,i,_⟩:=Lib.run_append_own_string (P:=prog) w 0 239 9 239 5 i0 underlying239 underlying9 hi e f g v l.length _ b (str t) (by unfold maxLen;omega) oZ (bK _);rw[e1]at a;simp only[Result.ok.injEq]at a;obtain⟨rfl,rfl⟩:=a;refine⟨v1,w1,e1,?_,i,e4⟩;rw[pJ.anO,mO,d]at c;unfold fI;rw[Lib.byteCells_length,aW];exact c
theorem adF(b:Nat)(w:World)(f:w.cell? (b,0)=some (.pointer none))(c:w.shape? b=some (331,2))(g:w.frozen? (b,0)=false):Calls prog 267 #[.pointer b] w λe w'=>e=.returned (.tuple #[])/\w'=w.setCell (b,0) (.pointer b):=by
 obtain⟨j,a,d⟩:=Option.map_eq_some_iff.1 pJ.afR;go_enter func267,ntmps267;go_wp2;rw[Lib.run_to_unsafe w ⟨b,0,none⟩ underlying301 underlying374 a (by rw[d];decide) c (Nat.zero_lt_succ 1)];simp only[Result.andThen];rw[Oper.upon_value];go_wp2;rw[run_callFunc_extern func290 kZ kZ kZ (e:=Extern.AbiNoEscape.same) kZ];rw[Lib.run_noEscape];simp only[Result.andThen];rw[Oper.upon_value];go_wp2;rw[Lib.run_from_unsafe w ⟨b,0,none⟩ underlying374 underlying301 a c atr];simp only[Result.andThen];rw[Oper.upon_value];go_wp2
 go_end0
 exact⟨rfl,rfl⟩
theorem aiq{b:Nat}{l:List UInt8}(h:yJ w b v l):Calls prog 267 #[.pointer b] w λe w'=>e=.returned (.tuple #[])/\Blk w' b 331 #[.pointer b,v]/\fI w' 0 5 v (Lib.byteCells l)/\aO (λi=>i=b) w w'/\(w':Nat)=(w:Nat):=by
 obtain⟨p,d,a⟩:=h.cK;rcases d with rfl|rfl
 .have f:w.shape? b=some (331,2):=by have:w.heap[b]? =some (.cells #[.pointer none,v] 331 (0,0)):=a;simp[World.shape?,this]
  refine(adF b w (a.cell 0) f (a.frozen 0)).mono ?_;rintro e w'⟨rfl,rfl⟩;refine⟨rfl,a.bV 0 _,h.row.bD λk c=>?_,(aO.refl (λi=>i=b) w).setCell (p:=⟨b,0,none⟩) (.inl rfl) _,by simp[World.setCell]⟩;exact Below.heap_setCell w ⟨b,0,none⟩ _ k (λe=>h.ne (by rw[<-show k=b from e];exact c))
 .refine(pJ.aal b w (a.cell 0)).mono ?_;rintro e w'⟨rfl,rfl⟩;exact⟨rfl,a,h.row,aO.refl _ _,rfl⟩
theorem aio{b:Nat}{l:List UInt8}(h:yJ w b v l)(t:List UInt8)(z:l.length+t.length<=1000000):Calls prog 232 #[.pointer b,.string (str t)] w λe w'=>e=.returned (.tuple #[.int .i64 (str t).size,.nilIface])/\jI w b v (l++t) w':=by
 have A:=h.ne;have N:=qZ (λi=>h.foot (i:=i));have u:=qZ (aiq h);have n:=qZ (λ(w1:World) (L:fI w1 0 5 v (Lib.byteCells l))=>aoQ L t z);clear h z;obtain⟨s,F⟩:=nZ (str t);rw[F]at n⊢;clear F;go_enter func232,ntmps232;go_wp2_with fail;refine u.out.mono ?_;rintro e w1⟨rfl,g,r,x,X⟩;obtain⟨v',d,e1,e2,e3,e4⟩:=n.out w1 r;have O:CV w1 b 0 (.pointer b):=g.cell 0;have c1:CV w1 b 1 v:=g.cell 1;have f:=g.grown e3 (λe=>A e.symm);have Q:CV d b 0 (.pointer b):=f.cell 0;have d1:CV d b 1 v:=f.cell 1;have T:d.frozen? (b,1)=false:=f.frozen 1;have W:=g.lt;have o:v'.ownBlock≠some b:=λe=>by
  rcases e4 b e with h|h
  .exact A h
  .omega
 have y:aO (qK b v) w d:=(x.mono λi _ hi=>.inl hi).trans (aO.lG e3 λi hi=>.inr hi);have I:=qY (jI w b v (l++t) (d.setCell (b,1) v')) (⟨v',⟨⟨_,.inr rfl,f.bV 1 v'⟩,e2.bD λk M=>Below.heap_setCell d ⟨b,1,none⟩ _ k λe=>o (by rw[<-show k=b from e];exact M),o⟩,y.setCell (p:=⟨b,1,none⟩) (.inl (.inl rfl)) _,λi hi=>by
    rcases hi with hi|hi
    .exact .inl (.inl hi)
    .rcases e4 i hi with h|h
     .exact .inl (.inr h)
     .right;omega⟩)
 obtain⟨j,m,cap,rfl⟩:∃j m cap,v'=.slice j m cap:=by obtain⟨a,c,e,_⟩:=e2.form;exact⟨_,_,_,e⟩
 obtain⟨J,n2,K,rfl⟩:∃j m cap,v=.slice j m cap:=by obtain⟨a,c,e,_⟩:=r.form;exact⟨_,_,_,e⟩
 have H:=qZ e1;clear e1 e2 e3 e4 x y o f g r n u;go_wp2_with(at_builtin;refine dJ rfl _ _ _ _ rfl (.slice J n2 K) (.string s) rfl rfl H ?_);go_ret2;exact⟨rfl,I⟩
theorem JL{b:Nat}{l:List UInt8}(h:yJ w b v l)(c:l≠[]){B:Nat}(d:∀i,qK b v i->B<=i):Calls prog 235 #[.pointer b] w λe w'=>e=.returned (.string (str l))/\Below B w w':=by
 obtain⟨p,_,k⟩:=h.cK;have s:l.length≠0:=by simpa using c
 have a:=h.row;unfold fI at a;rw[Lib.byteCells_length]at a;obtain⟨g,cap,cur,rfl,_,n,H,m,F,I⟩:∃g cap cur,v=.slice (some ⟨g,0,none⟩) l.length cap/\0<=g/\w.heap[g]? =some (.cells cur 5 (0,0))/\l.length<=cap/\cap<=maxLen/\cur.size=cap*1/\cur.toList.take (l.length*1)=Lib.byteCells l:=by
  rcases a.2 with⟨_,y⟩|⟨g,cap,cur,hv,r⟩
  .exact absurd y s
  .exact⟨g,cap,cur,hv,r⟩
 have f:B<=g:=d g (.inr rfl);have c1:w.drew.cell? (b,1)=some (.slice g l.length cap):=k.drew.cell 1;have z:(Builtin.unsafeSliceData_ #[239] 336 #[.slice g l.length cap]).run prog w.drew=.ok (.pointer g) w.drew:=
  Lib.run_unsafeSliceData_row _ _ _ _ _ _ oZ
 have A:(Builtin.unsafeString_ #[336,3] 9 #[.pointer g,l.length]).run prog w.drew=.ok (.string (str l)) (w.drew.freeze ⟨g,0,none⟩ l.length):=by refine Lib.run_unsafeString_row w.drew 336 3 9 5 underlying336 akt g cur.size (by have o:w.drew.heap[g]? =some (.cells cur 5 (0,0)):=n;simp[World.shape?,o]) l c oZ (by unfold maxLen at m;omega) ?_;intro j x u;have:=a.cells (g:=g) rfl j (.int .u8 x.toNat) (by simp[Lib.byteCells,u]);exact this
 go_enter func235,ntmps235;go_wp2
 go_region
 (all_goals go_wp2;go_ret;exact⟨rfl,Lib.below_freeze (Below.drew (aJ B w)) (p:=⟨g,0,none⟩) f _⟩)
end bU
end Go.Proofs.YtedmeglbjmdlhaaGreatDoor
