/-
Parts that the laws of the whole program share: contracts of its functions, and plain laws.
-/
import Derived.Test.YtedmeglbjmdlhaaGreatDoorG8
import Derived.Deep.DeepCutAuto
import Derived.Deep.CutBlock
set_option maxRecDepth 100000
set_option maxHeartbeats 16000000
set_option linter.all false
open Go.Proofs.Tryz
namespace Go.Proofs.YtedmeglbjmdlhaaGreatDoor
open Go
open Crc Dsk IB Jou L pE pJ
namespace pJ
open Go.RowKit L IB
theorem aqB{a b:ByteArray}(h:a≠b):(a.toList==b.toList)=false:=by rw[beq_eq_false_iff_ne];intro e;rw[ByteArray.toList_eq,ByteArray.toList_eq]at e;exact h (ByteArray.ext (Array.toList_inj.1 e))
def oV:List (List UInt8)->Nat
 |[]=>0
 |x::xs=>1+x.length+oV xs
def few(xs:List (List UInt8)):Bool:=decide (oV xs<60000)&&decide (xs.length<=60)
def WZ(w:World)(j g n:Nat):Prop:=Blk w j 296 #[.pointer g,(n:Int)]
end pJ
variable{g i j m n:Nat}{L':Nat->Prop}{w w':World}
namespace pJ
open Go.RowKit L IB pE
theorem BN{B:Nat}{L G:Nat->Prop}{d:Dsk.D}(o:Own B L w g d)(k:aO G w w')(e:∀i,G i->L i\/i<B)(f:∀i,L' i->L i\/(w:Nat)<=i):Own B L' w' g d:=by
 obtain⟨F,v1,v2,h,hF⟩:=o;refine⟨F,v1,v2,h.bD k λi hi j=>?_,λi hi=>⟨(hF i hi).1,λl=>?_⟩⟩
 .have a:=hF i hi;rcases e i j with b|b
  .exact a.2 b
  .omega
 .have a:=hF i hi;have b:=h.ltF i hi;rcases f i l with c|c
  .exact a.2 c
  .omega
theorem apw{B:Nat}{L:Nat->Prop}{d:Dsk.D}(o:Own B L w g d)(a:∀i,L' i->L i):Own B L' w g d:=BN o (aO.refl (λ_=>False) w) (λ_ h=>h.elim) (λi h=>.inl (a i h))
structure zH (B:Nat) (L:Nat->Prop) (w:World) (j g m:Nat) (l:List UInt8) (n:Nat):Prop where
 own:Own B (λk=>L k\/k=j) w g (Jou.clean m l)
 cK:WZ w j g n
 low:B<=j
 apart:¬L j
theorem WZ.lt(h:WZ w j g n):j<(w:Nat):=Blk.lt h
theorem asu{L:Nat->Prop}(a:Live L w)(b:j<(w:Nat)):Live (λk=>L k\/k=j) w:=λk c=>by
 rcases c with h|rfl
 .exact a k h
 .exact b
theorem aaK{B:Nat}{L:Nat->Prop}(h:Room B (λk=>L k\/k=j) i):Room B L i:=⟨h.1,λa=>h.2 (.inl a)⟩
theorem VK{B:Nat}{L:Nat->Prop}:¬Room B (λk=>L k\/k=j) j:=λh=>h.2 (.inr rfl)
theorem zH.bD{B:Nat}{L G:Nat->Prop}{l:List UInt8}(h:zH B L w j g m l n)(k:aO G w w')(b:∀i,G i->L i\/i<B):zH B L w' j g m l n:=
 ⟨h.own.bD k λi hi=>(b i hi).imp .inl id,Blk.bD h.cK k (λc=>by
  rcases b j c with a|a
  .exact h.apart a
  .have:=h.low;omega),h.low,h.apart⟩
theorem zH.below{B:Nat}{L:Nat->Prop}{l:List UInt8}(h:zH B L w j g m l n)(k:Below w w w'):zH B L w' j g m l n:=h.bD (G:=λ_=>False) (aO.bS k) (λ_ h=>h.elim)
theorem zH.more{B:Nat}{L G:Nat->Prop}{l:List UInt8}(h:zH B L w j g m l n)(k:aO G w w')(b:∀i,G i->L i\/i<B)(c:∀i,L' i->L i\/(w:Nat)<=i):zH B L' w' j g m l n:=by
 have d:=h.bD k b;refine⟨BN h.own k (λi hi=>(b i hi).imp .inl id) λi hi=>?_,d.cK,h.low,λe=>?_⟩
 .rcases hi with hi|hi
  .exact(c i hi).imp .inl id
  .exact .inl (.inr hi)
 .rcases c j e with a|a
  .exact h.apart a
  .have:=WZ.lt h.cK;omega
theorem aus(s:ByteArray)(a:s.size<=maxLen):bW prog 227 #[.string s] (.string (str (Crc.frame s.data.toList))):=λw=>anf s w a
def RX(B:Nat)(L:Nat->Prop)(j g m:Nat)(l:List UInt8)(n:Nat)(s:List UInt8)(w:World)(e:Ending)(w':World):Prop:=e=.returned (.int .i64 (vS m l s))/\zH B L w' j g m (NP m l s) (WT m l s n)/\aO (Room B L) w w'
theorem akA{B:Nat}{L:Nat->Prop}{l:List UInt8}(h:zH B L w j g m l n)(aw:B<=(w:Nat))(O:Live L w)(a8:n<=1048576)(s:ByteArray)(ao:s.size<=maxLen):Calls prog 188 #[.pointer j,.string s] w λe w'=>RX B L j g m l n s.data.toList w e w':=by
 have X:s.data.toList.length=s.size:=sZ;by_cases a5:16384<s.size
 .obtain⟨u,af,ag⟩:=atc m l s.data.toList n oZ;have al:RX B L j g m l n s.data.toList w (.returned (.int .i64 8)) w:=⟨by rw[u],by rw[af,ag];exact h,aO.refl _ _⟩;have v:=qZ al;unfold maxLen at ao;clear al h u af ag X O;go_enter func188,ntmps188;go_wp2;go_ret;exact v
 .have aj:CV w j 0 (.pointer g):=Blk.cell h.cK 0;have an:=WZ.lt h.cK;have ar:=qZ aj;have I:=qZ X;have a9:s.size<=16384:=oZ;have av:=qZ O;have o:=qZ h;clear aj X O h;have ae:=aus s ao;have am:(str (Crc.frame s.data.toList)).size<=maxLen:=by rw[pF,rP _ (by have:=I.out;omega)];have:=I.out;unfold maxLen;omega
  have au:=qZ am;clear am;have ad:Hid (pI (Jou.clean m l) (str (Crc.frame s.data.toList)).data.toList=decide (l.length+(Crc.frame s.data.toList).length<=m)):=qZ (by rw[mO];exact acL m l _);go_enter func188,ntmps188;go_wp2_with fail;refine lF 6 kZ kZ ?_;simp only[List.take_succ_cons,List.take_zero,bH,bJ];have N:∀W,aF w W->CV W j 0 (.pointer g):=λW a=>a.cell an ar;(repeat refine kY ?_);refine kM ?_ (h:=by intro W a;go_simp;first|exact Go.Proofs.YtedmeglbjmdlhaaGreatDoor.L.bW.up ae a|exact⟨a,Go.Proofs.YtedmeglbjmdlhaaGreatDoor.L.bW.up ae a⟩);(repeat refine kY ?_);refine eH ?_;intro W a;have u:=o.below a;have ah:B<=(W:Nat):=aV aw a.size;have ai:Live (λk=>L k\/k=j) W:=asu (av.bD a.size) (aM an a.size);have ab:=qZ (aO.bS (F:=Room B L) a);have K:=qZ (akM u.own ah ai (str (Crc.frame s.data.toList)) au);have aa:=qZ u;clear N a u;by_cases p:l.length+(Crc.frame s.data.toList).length<=m
  .obtain⟨c,d,f⟩:=anX m l s.data.toList n (by have:=I.out;omega) p;have y:qD (Jou.clean m l) (str (Crc.frame s.data.toList)).data.toList=0:=by unfold qD;rw[aG (by rw[ad.out];simpa using p)]
   have ap:=qY (Dsk.sync (Dsk.write (Jou.clean m l) (str (Crc.frame s.data.toList)).data.toList)=Jou.clean m (l++Crc.frame s.data.toList)) (by rw[mO];exact aix m l _ p);have r:=K.out;rw[y]at r;have M:=qZ r;have x:=qZ (aC c (aC d f));clear K r y p c d f;go_wp2_with fail;refine M.mono ?_;rintro e A⟨rfl,z,b⟩;have Q:WZ A j g n:=Blk.bD aa.cK b VK;have ax:B<=(A:Nat):=aV ah b.size;have az:=ai.bD b.size;have ay:=qZ (ab.out.trans (b.mono λi _ hi=>aaK hi));have aq:=qZ (adT z ax az);have N:CV A j 0 (.pointer g):=Blk.cell Q 0;clear z b;go_wp2_with fail;refine aq.out.mono ?_;rintro e H⟨rfl,Z,Y⟩;rw[ap.out]at Z;have J:WZ H j g n:=Blk.bD Q Y VK;have c1:CI H j 1 (n:Int):=Blk.cell J 1;have a0:H.frozen? (j,1)=false:=Blk.frozen J 1;have v:Hid (RX B L j g m l n s.data.toList w (.returned (.int .i64 0)) (H.setCell (j,1) (.int .i64 ((n:Int)+1)))):=qZ (by
    obtain⟨c,d,f⟩:=x.out;refine⟨by rw[c],?_,?_⟩
    .rw[d,f];refine⟨Own.bD Z (G:=λk=>k=j) (atO H j 1 _) λi hi=>.inl (.inr hi),?_,o.low,o.apart⟩;have:=Blk.bV J 1 (.int .i64 ((n:Int)+1));exact this
    .exact(ay.out.trans (Y.mono λi _ hi=>aaK hi)).setCell (.inl ⟨o.low,o.apart⟩) _)
   clear aq Q N Z Y J x ap;go_wp2;go_ret;exact v
  .obtain⟨c,d,f⟩:=aqJ m l s.data.toList n (by have:=I.out;omega) p;have T:pI (Jou.clean m l) (str (Crc.frame s.data.toList)).data.toList≠true:=by rw[ad.out];simpa using p
   have y:qD (Jou.clean m l) (str (Crc.frame s.data.toList)).data.toList=9:=by unfold qD;rw[aD T]
   have ak:Dsk.write (Jou.clean m l) (str (Crc.frame s.data.toList)).data.toList=Jou.clean m l:=by unfold Dsk.write;rw[aD T]
   have r:=K.out;rw[y,ak]at r;have M:=qZ r;have x:=qZ (aC c (aC d f));clear K r y p c d f T ak;go_wp2_with fail;refine M.mono ?_;rintro e A⟨rfl,z,b⟩;have v:Hid (RX B L j g m l n s.data.toList w (.returned (.int .i64 9)) A):=qZ (by obtain⟨c,d,f⟩:=x.out;refine⟨by rw[c],?_,ab.out.trans (b.mono λi _ hi=>aaK hi)⟩;rw[d,f];exact⟨z,Blk.bD aa.cK b VK,o.low,o.apart⟩);clear z b x;go_wp2;go_ret;exact v
end pJ
variable{v:Value}
namespace pJ
open Go.RowKit L IB pE
def abn(B:Nat)(L:Nat->Prop)(g m:Nat)(l:List UInt8)(w:World)(e:Ending)(w':World):Prop:=∃v j,e=.returned (.tuple #[.pointer (some ⟨j,0,none⟩),v])/\GZ w' (w:Nat) v (scan l).1/\v.ownBlock≠some j/\(w:Nat)<=j/\zH B (λk=>L k\/v.ownBlock=some k) w' j g m (Jou.opened l) (scan l).1.length/\aO (Room B L) w w'
theorem aeI{B:Nat}{L:Nat->Prop}{l:List UInt8}{a:World}(j:B<=(w:Nat))(n:Live L w)(f:GZ a (w:Nat) v (scan l).1)(o:Own B (λk=>L k\/v.ownBlock=some k) a g (Jou.clean m (Jou.opened l)))(b:aO (Room B L) w a):abn B L g m l w (.returned (.tuple #[.pointer a,v])) (a.alloc (.cells #[.pointer g,((scan l).1.length:Int)] 296)):=by
 have c:Below a a (a.alloc (.cells #[.pointer g,((scan l).1.length:Int)] 296)):=bZ;have d:¬v.ownBlock=some (a:Nat):=λe=>by have:=(f.lt _ e).2;omega
 refine⟨v,(a:Nat),rfl,f.below c,d,b.size,⟨BN o (G:=λ_=>False) (aO.bS c) (λ_ h=>h.elim) λi hi=>?_,Blk.new _ _ _,aV j b.size,?_⟩,b.alloc _⟩
 .rcases hi with hi|hi
  .exact .inl hi
  .right;omega
 .rintro(h|h)
  .have:=n _ h;have:=b.size;omega
  .exact d h
theorem apz{B:Nat}{L:Nat->Prop}{l:List UInt8}(o:Own B L w g (Jou.clean m l))(H:B<=(w:Nat))(aa:Live L w):Calls prog 223 #[.pointer g] w λe w'=>abn B L g m l w e w':=by
 have a5:l.length<=1048576:=aV o.ok.1.1 o.ok.2;have au:=qZ (ahf o);have af:=λw=>aoO l w oZ;have ao:=qZ af;have ar:=aiK l;have ax:=arG l;have ae:=qZ (aeH l);have am:=qZ o;have x:=qZ aa;have ah:=pF l;obtain⟨rs,N⟩:=nZ ((scan l).1);obtain⟨n,r⟩:=nZ ((scan l).2);have av:Hid (Jou.opened l=l.take n):=qZ (by rw[<-r];rfl);have f:=qZ N;have Y:=qZ ah;rw[N,r]at ar;rw[r]at ax ae;have al:=qZ r;clear af aa o N r ah;go_enter func223,ntmps223;go_wp2_with fail;refine au.out.mono ?_;rintro e a9⟨rfl,rfl⟩;go_wp2_with fail;refine(ao _).mono ?_;rintro e w1⟨v,rfl,d,j⟩;rw[f.out]at d;rw[al.out];obtain⟨A,z,rfl,_⟩:=d.form;have K:(rs.map vs).length=rs.length:=sZ;have az:=qZ K;rw[K]at d⊢;have a:Own B (λk=>L k\/(Value.slice A rs.length z).ownBlock=some k) w1 g (Jou.clean m l):=BN am (G:=λ_=>False) (aO.bS j) (λ_ h=>h.elim) (λi hi=>hi.imp id λe=>(d.lt i e).1);have Z:B<=(w1:Nat):=aV H j.size;have ab:Live (λk=>L k\/(Value.slice A rs.length z).ownBlock=some k) w1:=λk c=>by
  rcases c with h|h
  .exact aM (x k h) j.size
  .exact(d.lt k h).2
 have W:=qZ (aO.bS (F:=Room B L) j);have y:=qZ d;clear j K d;by_cases p:n<l.length
 .have aw:n<(str l).size:=by rw[Y.out];exact p
  have I:((str l).extract 0 n).data.toList=l.take n:=by rw[extract_eq,mO,mO];simp
  have M:=agF a Z ab ((str l).extract 0 n) (by have h:=dA List.length I;simp only[bO]at h;have a0:((str l).extract 0 n).data.toList.length=((str l).extract 0 n).size:=sZ
                                               unfold maxLen;omega)
  rw[I]at M;have ad:=a.ok.1.1;have ay:=qY (Dsk.sync (Dsk.replace (Jou.clean m l) (l.take n))=Jou.clean m (Jou.opened l)) (by rw[av.out];exact adS m l _ (by simp only[bO];have:l.length<=m:=ad;omega));have an:=qZ M;clear I M ad a p;go_wp2_with fail;refine an.mono ?_;rintro e aj⟨rfl,ai,s⟩;have ap:B<=(aj:Nat):=aV Z s.size;have aq:=ab.bD s.size;have ag:=qZ (adT ai ap aq);have ak:=qZ (W.out.trans (s.mono λi _ hi=>(⟨hi.1,λJ=>hi.2 (.inl J)⟩:Room B L i)));have X:=qY (GZ aj (w:Nat) (.slice A rs.length z) rs) (y.bD λk c=>s.block k (y.out.lt k c).2 λh=>h.2 (.inr c));clear ai s;go_wp2_with fail;refine ag.out.mono ?_;rintro e a8⟨rfl,T,Q⟩;rw[ay.out]at T;have b:=aeI (l:=l) H x (by rw[f.out];exact X.bD λk c=>Q.block k (X.out.lt k c).2 λh=>h.2 (.inr c)) T (ak.out.trans (Q.mono λi _ hi=>(⟨hi.1,λJ=>hi.2 (.inl J)⟩:Room B L i)));rw[f.out]at b;have u:=qZ b;clear ag T Q b;go_wp2;go_ret2;exact u
 .have aw:¬n<(str l).size:=by rw[Y.out];exact p
  have O:=ae.out p;rw[<-O]at a;have b:=aeI (l:=l) H x (by rw[f.out];exact y) (by rw[O]at a⊢;exact a) W;rw[f.out]at b;have u:=qZ b;clear b a O p;go_wp2;go_ret2;exact u
end pJ
end Go.Proofs.YtedmeglbjmdlhaaGreatDoor
