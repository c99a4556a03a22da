/-
Parts that the laws of the whole program share: contracts of its functions, and plain laws.
-/
import Derived.Test.YtedmeglbjmdlhaaGreatDoorRows
import Derived.Test.YtedmeglbjmdlhaaGreatDoorG2
import Derived.Test.YtedmeglbjmdlhaaGreatDoorG1
set_option maxRecDepth 100000
set_option maxHeartbeats 16000000
set_option linter.all false
open Go.Proofs.Tryz
namespace Go.Proofs.YtedmeglbjmdlhaaGreatDoor
open Go
open Crc Dsk IB Jou L pE pJ
namespace IB
open Go.RowKit L
theorem yE(c:Nat)(h:c<4294967296):bits .xor .u32 ((c:Int)/2) (bits .and .u32 2197175160 (-bits .and .u32 (c:Int) 1%4294967296))=(Crc.bit c:Int):=by
 have e1:bits .and .u32 (c:Int) 1=((c%2:Nat):Int):=by rw[show(1:Int)=((1:Nat):Int)from rfl,rQ .u32 rfl c 1 h dZ,Nat.and_one_is_mod]
 rw[e1];have e2:((c:Int)/2)=((c/2:Nat):Int):=oZ;rw[e2];unfold Crc.bit;by_cases a:c%2=1
 .rw[a,aG rfl];have e3:(-((1:Nat):Int)%4294967296)=((4294967295:Nat):Int):=dZ;rw[e3,show(2197175160:Int)=((2197175160:Nat):Int)from rfl,rQ .u32 rfl _ _ dZ dZ,vR .u32 rfl _ _ (by show _<4294967296;omega) dZ];rfl
 .have b:c%2=0:=oZ;rw[b,aD oZ];have e3:(-((0:Nat):Int)%4294967296)=((0:Nat):Int):=dZ;rw[e3,show(2197175160:Int)=((2197175160:Nat):Int)from rfl,rQ .u32 rfl _ _ dZ dZ,vR .u32 rfl _ _ (by show _<4294967296;omega) dZ];simp
theorem adw(c:Nat)(b:UInt8)(h:c<4294967296):bits .xor .u32 (c:Int) ((b.toNat:Int)%4294967296)=((c ^^^ b.toNat:Nat):Int):=by have:=b.toNat_lt;rw[show((b.toNat:Int)%4294967296)=((b.toNat:Nat):Int) by omega];exact vR .u32 rfl _ _ h (by show _<4294967296;omega)
theorem arq(c:Nat)(h:c<4294967296):bits .xor .u32 4294967295 (c:Int)=((c ^^^ 4294967295:Nat):Int):=by rw[show(4294967295:Int)=((4294967295:Nat):Int)from rfl,vR .u32 rfl _ _ dZ h,Nat.xor_comm]
theorem arp(c:Nat)(h:c<4294967296):bits .xor .u32 IntKind.u32.max (c:Int)=((c ^^^ 4294967295:Nat):Int):=arq c h
theorem drop_cons(s:ByteArray)(k:Nat)(h:k<s.size):s.data.toList.drop k=s[k]::s.data.toList.drop (k+1):=by rw[dM (by simpa using h)];rfl
theorem XU(j c:Nat)(h:j<8):Crc.turns (8-j) c=Crc.turns (8-(j+1)) (Crc.bit c):=by rw[show 8-j=(8-(j+1))+1 by omega];rfl
theorem aht(s:ByteArray)(w:World)(v:s.size<=maxLen):Calls prog 257 #[.string s] w λe w'=>e=.returned (.int .u32 (Crc.sum s.data.toList))/\w=w':=by
 unfold maxLen at v;go_enter func257,ntmps257;go_wp2;refine XE (λl a' w'=>w=w'/\∃(x i t u1 u6 u7 u8 u9 u10 u11 u12 u13 u14 u15 u16 u17 u18 u19 u20 u21 u22 u23 u24 u25 u26 u27 u28 u29 u30:Value),a'={tmps:=#[.string s,u1,.int .u32 0,x,i,t,u6,u7,u8,u9,u10,u11,u12,u13,u14,u15,u16,u17,u18,u19,u20,u21,u22,u23,u24,u25,u26,u27,u28,u29,u30],defers:=[]}/\((l=0/\∃(k c:Nat),x=.int .u32 c/\i=.int .i64 k/\k<=s.size/\c<4294967296/\Crc.all (s.data.toList.drop k) c=Crc.all s.data.toList 4294967295)
  \/(l=1/\∃(k c j:Nat),x=.int .u32 c/\i=.int .i64 k/\t=.int .i64 j/\k<=s.size/\j<8/\c<4294967296/\Crc.all (s.data.toList.drop k) (Crc.turns (8-j) c)=Crc.all s.data.toList 4294967295)))
  (λl a' _=>if l=0 then 10*(s.size-(intOf (a'.tmps.getD 4 undef)).toNat)else 10*(s.size-(intOf (a'.tmps.getD 4 undef)).toNat)+(9-(intOf (a'.tmps.getD 5 undef)).toNat)) ?_ ?_
 .by_cases y:s.size=0
  .have f:((0:Int)==(s.size:Int))=true:=by simp;omega
   go_wp2
   go_step3
   go_wp2;simp only[acs];have u:s.data.toList=[]:=by apply fM;simpa using y
   go_ret;exact⟨gP (by rw[u];decide),rfl⟩
  .have f:((0:Int)==(s.size:Int))=false:=by simp;omega
   have o:0<s.size:=oZ;have p:=qZ (drop_cons s 0 o);go_wp2
   go_step3
   go_wp2
   go_step3
   go_wp2
   go_step3
   refine⟨rfl,_,_,_,_,_,_,_,_,_,_,_,_,_,_,_,_,_,_,_,_,_,_,_,_,_,_,_,_,_,rfl,.inr ⟨rfl,1,Crc.bit (4294967295 ^^^ s[0].toNat),1,ret_val ?_,rfl,rfl,o,oZ,GU _ (nI _ _ oZ),?_⟩⟩
   .rw[show(4294967295:Int)=((4294967295:Nat):Int)from rfl,adw _ _ oZ,yE _ (nI _ _ oZ)]
   .have:=p.out;rw[bJ]at this
    conv=>rhs;rw[this]
    rfl
 .rintro l a' w'⟨rfl,x,i,t,u1,u6,u7,u8,u9,u10,u11,u12,u13,u14,u15,u16,u17,u18,u19,u20,u21,u22,u23,u24,u25,u26,u27,u28,u29,u30,rfl,⟨rfl,k,c,rfl,rfl,g,a,d⟩|⟨rfl,k,c,j,rfl,rfl,rfl,g,r,a,d⟩⟩
  .refine⟨_,rfl,?_⟩;have b:=qZ d;clear d;by_cases m:k<s.size
   .have f:((k:Int)==(s.size:Int))=false:=by simp;omega
    go_wp2
    go_step3
    go_wp2
    go_step3
    refine⟨⟨rfl,_,_,_,_,_,_,_,_,_,_,_,_,_,_,_,_,_,_,_,_,_,_,_,_,_,_,_,_,_,rfl,.inr ⟨rfl,k+1,Crc.bit (c ^^^ s[k].toNat),1,ret_val ?_,rfl,rfl,m,oZ,GU _ (nI _ _ a),?_⟩⟩,?_⟩
    .rw[adw _ _ a,yE _ (nI _ _ a)]
    .rw[<-b.out,drop_cons s k m];rfl
    .simp[intOf];omega
   .obtain rfl:k=s.size:=by omega
    have f:((s.size:Int)==(s.size:Int))=true:=sZ;go_wp2;simp only[acs];go_ret;have n:=b.out;rw[lC sZ]at n;exact⟨gP (by rw[arp c a,Crc.sum,<-n];rfl),rfl⟩
  .refine⟨_,rfl,?_⟩;have b:=qZ d;clear d;by_cases m:j<7
   .go_wp2
    go_step3
    refine⟨⟨rfl,_,_,_,_,_,_,_,_,_,_,_,_,_,_,_,_,_,_,_,_,_,_,_,_,_,_,_,_,_,rfl,.inr ⟨rfl,k,Crc.bit c,j+1,ret_val ?_,rfl,rfl,g,oZ,GU _ a,?_⟩⟩,?_⟩
    .rw[yE _ a]
    .rw[<-b.out,XU j c r]
    .simp[intOf];omega
   .obtain rfl:j=7:=by omega
    go_wp2
    go_step3
    refine⟨⟨rfl,_,_,_,_,_,_,_,_,_,_,_,_,_,_,_,_,_,_,_,_,_,_,_,_,_,_,_,_,_,rfl,.inl ⟨rfl,k,Crc.bit c,ret_val ?_,rfl,g,GU _ a,?_⟩⟩,?_⟩
    .rw[yE _ a]
    .rw[<-b.out];rfl
    .simp[intOf]
theorem asf(a b c d:UInt8):bits .or .u32 (bits .or .u32 (bits .or .u32 ((a.toNat:Int)%4294967296) ((b.toNat:Int)%4294967296*256%4294967296)) ((c.toNat:Int)%4294967296*65536%4294967296)) ((d.toNat:Int)%4294967296*16777216%4294967296)=((a.toNat+b.toNat*256+c.toNat*65536+d.toNat*16777216:Nat):Int):=by
 have k:=a.toNat_lt;have l:=b.toNat_lt;have m:=c.toNat_lt;have n:=d.toNat_lt;have e:((a.toNat:Int)%4294967296)=((a.toNat:Nat):Int):=oZ;have e1:((b.toNat:Int)%4294967296*256%4294967296)=((b.toNat*256:Nat):Int):=oZ;have e2:((c.toNat:Int)%4294967296*65536%4294967296)=((c.toNat*65536:Nat):Int):=oZ;have e3:((d.toNat:Int)%4294967296*16777216%4294967296)=((d.toNat*16777216:Nat):Int):=oZ;have f:a.toNat|||b.toNat*256=a.toNat+b.toNat*256:=by rw[Nat.or_comm,eD,jJ];exact(jP (i:=8) oZ _).symm
 have g:(a.toNat+b.toNat*256)|||c.toNat*65536=a.toNat+b.toNat*256+c.toNat*65536:=by rw[Nat.or_comm,eD c.toNat,jJ _ (65536*c.toNat)];exact(jP (i:=16) oZ _).symm
 have j:(a.toNat+b.toNat*256+c.toNat*65536)|||d.toNat*16777216=a.toNat+b.toNat*256+c.toNat*65536+d.toNat*16777216:=by rw[Nat.or_comm,eD d.toNat,jJ _ (16777216*d.toNat)];exact(jP (i:=24) oZ _).symm
 rw[e,e1,e2,e3,uX .u32 rfl _ _ (by show _<4294967296;omega) (by show _<4294967296;omega),f,uX .u32 rfl _ _ (by show _<4294967296;omega) (by show _<4294967296;omega),g,uX .u32 rfl _ _ (by show _<4294967296;omega) (by show _<4294967296;omega),j]
theorem or_none(x:Int)(a:0<=x)(h:x<4294967296):bits .or .u32 0 x=x:=by obtain⟨n,rfl⟩:=dX a;rw[show(0:Int)=((0:Nat):Int)from rfl,uX .u32 rfl _ _ dZ (by show _<4294967296;omega),Nat.zero_or]
theorem aky(s:ByteArray)(h:4<=s.size):Crc.back s.data.toList=(s[0]'oZ).toNat+(s[1]'oZ).toNat*256+(s[2]'oZ).toNat*65536+(s[3]'oZ).toNat*16777216:=by have e:=drop_cons s 0 oZ;rw[bJ,drop_cons s 1 oZ,drop_cons s 2 oZ,drop_cons s 3 oZ]at e;rw[e];rfl
theorem NK(s:ByteArray)(w:World)(a:4<=s.size):Calls prog 310 #[.string s] w λe w'=>e=.returned (.int .u32 (Crc.back s.data.toList))/\w=w':=by
 have b:∀w,(Instr.index 9 (.string s) (.int .i64 0)).run prog w=.ok (.int .u8 ((s[0]'oZ).toNat:Int)) w:=vJ 9 underlying9 s .i64 0 oZ;have c:∀w,(Instr.index 9 (.string s) (.int .i64 1)).run prog w=.ok (.int .u8 ((s[1]'oZ).toNat:Int)) w:=vJ 9 underlying9 s .i64 1 oZ;have d:∀w,(Instr.index 9 (.string s) (.int .i64 2)).run prog w=.ok (.int .u8 ((s[2]'oZ).toNat:Int)) w:=vJ 9 underlying9 s .i64 2 oZ;have f:∀w,(Instr.index 9 (.string s) (.int .i64 3)).run prog w=.ok (.int .u8 ((s[3]'oZ).toNat:Int)) w:=vJ 9 underlying9 s .i64 3 oZ;go_enter func310,ntmps310;go_wp2
 go_rounds 5
 go_ret;have:=(s[0]'oZ).toNat_lt;exact⟨gP (by rw[or_none _ oZ oZ,asf,aky s a]),rfl⟩
theorem afo(n:Nat)(h:n<4294967296)(w:World):Calls prog 256 #[.int .u32 n] w λe w'=>e=.returned (.string ⟨(Crc.nT n).toArray⟩)/\Below w w w':=by
 have b:=λ(w:World)=>TD (P:=prog) 239 9 5 underlying239 underlying5 underlying9 w
  #[.int .u8 ((n:Int)%256),.int .u8 ((n:Int)/256%256),.int .u8 ((n:Int)/65536%256),.int .u8 ((n:Int)/16777216)] 5 (Crc.nT n) 4 4
  (by simp[Crc.nT];omega) rfl
 have a:∀w,(Instr.makeSlice 239 (.int .i64 4) (.int .i64 4)).run prog w=.ok (.slice (some ⟨w,0,none⟩) 4 4) (w.alloc (.cells #[.int .u8 0,.int .u8 0,.int .u8 0,.int .u8 0] 5)):=λ_=>kZ;go_enter func256,ntmps256;go_wp2
 go_rounds 5
 go_ret;exact⟨rfl,by go_grown⟩
end IB
variable{args:Array Value}{n:Nat}{v:Value}{w:World}
namespace IB
open Go.RowKit L
theorem ane(s:ByteArray)(h:s.size<=16384):str (Crc.nT s.size)++str (Crc.nT (Crc.sum s.data.toList))++s=str (Crc.frame s.data.toList):=by have a:s.data.toList.length=s.size:=sZ;rw[BU _ oZ,a,<-EH,<-EH,ByteArray.append_assoc];rfl
theorem anf(s:ByteArray)(w:World)(b:s.size<=maxLen):Calls prog 227 #[.string s] w λe w'=>e=.returned (.string (str (Crc.frame s.data.toList)))/\Below w w w':=by
 have f:=b;unfold maxLen at b;by_cases h:s.size<=16384
 .have g:=qZ (Crc.sum_lt s.data.toList);have d:=qZ (ane s h);go_enter func227,ntmps227;go_wp2_with fail;refine(afo s.size oZ _).mono ?_;rintro e w1⟨rfl,a⟩;go_wp2_with fail;refine(aht s _ f).mono ?_;rintro e i⟨rfl,rfl⟩;go_wp2_with fail;refine(afo _ g.out _).mono ?_;rintro e i⟨rfl,c⟩;have k:(Crc.nT s.size).length<=4:=bI _;have l2:(Crc.nT (Crc.sum s.data.toList)).length<=4:=bI _;go_wp2;go_ret;exact⟨MB d.out,a.trans (c.mono a.size)⟩
 .go_enter func227,ntmps227;go_wp2;go_ret;have j:s.data.toList.length=s.size:=sZ;exact⟨MB (by rw[Crc.frame,aG oZ];rfl),aJ _ _⟩
theorem drop_eq(s:ByteArray)(k:Nat):(s.extract k s.size).data.toList=s.data.toList.drop k:=by rw[extract_eq,mO];exact aT sZ
theorem asb(s:ByteArray)(n:Nat):(s.extract 8 (8+n)).data.toList=(s.data.toList.drop 8).take n:=by rw[extract_eq,mO,show 8+n-8=n by omega]
theorem apv(s:ByteArray)(n:Nat):str ((s.data.toList.drop 8).take n)=s.extract 8 (8+n):=by rw[extract_eq,show 8+n-8=n by omega]
def IV(l:List UInt8):Value:=.tuple #[.string (str (Crc.read l).1),.int .i64 (Crc.read l).2.1,.int .i64 (Crc.read l).2.2]
theorem BL{l a:List UInt8}{e:Nat}(h:Crc.read l=(a,n,e)):IV l=.tuple #[.string (str a),n,e]:=by unfold IV;rw[h]
theorem aev(s:ByteArray)(w:World)(r:s.size<=maxLen):Calls prog 298 #[.string s] w λe w'=>e=.returned (IV s.data.toList)/\∃n,w'=w.drewN n:=by
 have J:=r;unfold maxLen at r;have c:s.data.toList.length=s.size:=sZ;have d:=qZ c;clear c;by_cases I:8<=s.size
 .have F:=BL (l:=s.data.toList) (a:=(Crc.read s.data.toList).1) (n:=(Crc.read s.data.toList).2.1) (e:=(Crc.read s.data.toList).2.2) rfl;have z:=aia s.data.toList;have A:=aia (s.data.toList.drop 4);obtain⟨n,b⟩:=nZ (Crc.back s.data.toList);obtain⟨m,j⟩:=nZ (Crc.back (s.data.toList.drop 4));rw[b]at z;rw[j]at A;have p:∀w,Calls prog 310 #[.string s] w λe w'=>e=.returned (.int .u32 n)/\w=w':=λw=>by rw[<-b];exact NK s w oZ
  have c4:∀w,Calls prog 310 #[.string (s.extract 4 s.size)] w λe w'=>e=.returned (.int .u32 m)/\w=w':=λw=>by rw[<-j,<-drop_eq s 4];exact NK _ w (by simp;omega)
  have u:=qZ p;have v:=qZ c4;have f:=qZ b;have o:=qZ j;clear p c4 b j F;go_enter func298,ntmps298;go_wp2;go_quiet (first|(go_at_call 310;with_reducible exact UC (u.out _))|(go_at_call 310;with_reducible exact UC (v.out _)));by_cases g:16384<n
  .go_wp2;go_ret3;have c:=d.out;have b:=f.out;exact⟨by rw[BL (show Crc.read s.data.toList=([],0,8) by rw[Crc.read,aD oZ,b,aG g])];rfl,⟨_,rfl⟩⟩
  by_cases H:s.size<n+8
  .go_wp2;go_ret3;have c:=d.out;have b:=f.out;exact⟨by rw[BL (show Crc.read s.data.toList=([],0,10) by rw[Crc.read,aD oZ,b,aD g,aG oZ])];rfl,⟨_,rfl⟩⟩
  have cs:∀w,Calls prog 257 #[.string (s.extract 8 (8+n))] w λe w'=>e=.returned (.int .u32 (Crc.sum ((s.data.toList.drop 8).take n)))/\w=w':=λw=>by rw[<-asb];exact aht _ w (by unfold maxLen;simp;omega)
  have k:=qZ cs;clear cs;by_cases i:Crc.sum ((s.data.toList.drop 8).take n)=m
  .have y:((Crc.sum ((s.data.toList.drop 8).take n):Int) !=(m:Int))=false:=by rw[i];simp
   have x:=qZ i;clear i;go_wp2_with(go_at_call 257;(with_reducible refine(k.out _).mono ?_);rintro e w'⟨rfl,rfl⟩);go_ret3;have c:=d.out;have b:=f.out;exact⟨by rw[BL (show Crc.read s.data.toList=((s.data.toList.drop 8).take n,n+8,0) by rw[Crc.read,aD oZ,b,o.out,aD g,aD oZ,x.out,aD sZ]),apv s n];rfl,⟨_,rfl⟩⟩
  .have y:((Crc.sum ((s.data.toList.drop 8).take n):Int) !=(m:Int))=true:=by rw[bne_iff_ne];omega
   go_wp2_with(go_at_call 257;(with_reducible refine(k.out _).mono ?_);rintro e w'⟨rfl,rfl⟩);go_ret3;have c:=d.out;have b:=f.out;exact⟨by rw[BL (show Crc.read s.data.toList=([],0,11) by rw[Crc.read,aD oZ,b,o.out,aD g,aD oZ,aG i])];rfl,⟨_,rfl⟩⟩
 .go_enter func298,ntmps298;go_wp2;go_ret3;have c:=d.out;exact⟨by rw[BL (show Crc.read s.data.toList=([],0,10) by rw[Crc.read,aG oZ])];rfl,⟨0,rfl⟩⟩
theorem atn{P:Program}{f:FuncId}(h:Calls P f args (w.drewN n) λe w'=>e=.returned v/\∃m,w'=(w.drewN n).drewN m):Calls P f args (w.drewN n) λe a=>e=.returned v/\∃m,a=w.drewN m:=
 Calls.quiet_of h
end IB
namespace pJ
open Go.RowKit L IB
def vs(l:List UInt8):Value:=.string (str l)
theorem arD:(prog.info? 9).map (λi=>(i.zero,i.size,i.bytes))=some (some (.string ByteArray.empty),1,16):=by kernel_rfl
theorem asT(rest:List UInt8)(b:Nat)(w:World)(g:rest.length<=4194304)(l:w.cell? (b,0)=some (vs rest))(o:w.frozen? (b,0)=false)(h:(Crc.read rest).2.2=0):Calls prog 297 #[.pointer b] w λe w'=>e=.returned (.tuple #[vs (Crc.read rest).1,((Crc.read rest).2.1:Int),.bool true])/\∃m,w'=(w.setCell (b,0) (vs (rest.drop (Crc.read rest).2.1))).drewN m:=by
 have a:=λw=>aev (str rest) w (by rw[pF];unfold maxLen;omega);have d:=(FH rest h).2.1;have hv:IV (str rest).data.toList=.tuple #[vs (Crc.read rest).1,((Crc.read rest).2.1:Int),()]:=by rw[mO];unfold IV;rw[h];rfl
 rw[hv]at a;have c:(str rest).extract (Crc.read rest).2.1 (str rest).size=str (rest.drop (Crc.read rest).2.1):=by rw[extract_eq,mO,pF];congr 1;exact aT sZ
 obtain⟨n,f⟩:=nZ ((Crc.read rest).2.1);obtain⟨t,i⟩:=nZ ((Crc.read rest).1);rw[f]at a d c⊢;rw[i]at a⊢;unfold vs at*;have r:(str rest).size<=4194304:=by rw[pF];exact g
 have p:n<=(str rest).size:=by rw[pF];exact d
 have k:=qZ a;have j:=qZ c;clear f i hv h a c d g;go_enter func297,ntmps297;go_wp2_with fail;refine(k _).mono ?_;rintro e w1⟨rfl,m,rfl⟩;go_wp2_with fail;go_ret3;refine⟨rfl,m,?_⟩;rw[<-j.out];rfl
theorem auE(rest:List UInt8)(b:Nat)(w:World)(f:rest.length<=4194304)(i:w.cell? (b,0)=some (vs rest))(h:(Crc.read rest).2.2≠0):Calls prog 297 #[.pointer b] w λe w'=>e=.returned (.tuple #[.string ByteArray.empty,(),.bool false])/\∃m,w'=w.drewN m:=by
 have a:=λw=>aev (str rest) w (by rw[pF];unfold maxLen;omega);rw[mO]at a;unfold IV vs at*;obtain⟨x,c⟩:=nZ ((Crc.read rest).2.2);rw[c]at a h;have g:((x:Int) !=0)=true:=by rw[bne_iff_ne];omega
 generalize(Crc.read rest).1=t at*;generalize(Crc.read rest).2.1=n at*;have d:=qZ a;clear a c h f;go_enter func297,ntmps297;go_wp2_with fail;refine(d _).mono ?_;rintro e w1⟨rfl,m,rfl⟩;go_wp2_with fail;go_ret3;exact⟨rfl,m,rfl⟩
theorem ajO(s:ByteArray)(w:World):Calls prog 282 #[.string s] w λe w'=>e=.returned (.func (.func 297) #[] #[.pointer w])/\w'=w.alloc (.cells #[.string s] 9):=by go_enter func282,ntmps282;go_wp2;go_ret;exact⟨rfl,rfl⟩
def GZ(w:World)(B:Nat)(v:Value)(l:List (List UInt8)):Prop:=fI w B 9 v (l.map vs)
def ail(l:List UInt8)(w:World)(e:Ending)(w':World):Prop:=∃v,e=.returned (.tuple #[v,((scan l).2:Int)])/\GZ w' (w:Nat) v (scan l).1/\Below w w w'
theorem akz{B:Nat}{l:List (List UInt8)}(h:GZ w B v l)(a:B<=(w:Nat))(x:List UInt8)(j:l.length<=1048576):∃v' w',(Builtin.append_ #[252,252] 252 #[v,.slice w 1 1]).run prog (w.alloc (.cells #[vs x] 9))=.ok v' w'/\GZ w' B v' (l++[x])/\(w.alloc (.cells #[vs x] 9)).grownBy w' v.ownBlock/\(∀k,v'.ownBlock=some k->v.ownBlock=some k\/(w:Nat)<=k):=by obtain⟨i0,hi,f,g,i⟩:=info_parts arD;have m:(l.map vs).length=l.length:=sZ;obtain⟨v',w',e,d,b,c⟩:=NM (P:=prog) 252 252 9 i0 _ 16 underlying252 hi f g i rfl h a (vs x) rfl oZ oZ;exact⟨v',w',e,by unfold GZ;rw[dO];exact d,b,c⟩
theorem alB(l rest:List UInt8)(a:List (List UInt8))(dD:Nat)(h:scan l=(a++(scan rest).1,dD+(scan rest).2))(b:(Crc.read rest).2.2=0):scan l=((a++[(Crc.read rest).1])++(scan (rest.drop (Crc.read rest).2.1)).1,(dD+(Crc.read rest).2.1)+(scan (rest.drop (Crc.read rest).2.1)).2):=by rw[h,abK rest b];simp only[bP,List.singleton_append,iQ]
theorem alC(l rest:List UInt8)(a:List (List UInt8))(dD:Nat)(h:scan l=(a++(scan rest).1,dD+(scan rest).2))(b:(Crc.read rest).2.2≠0):scan l=(a,dD):=by rw[h,PV rest b];simp
theorem aoO(l:List UInt8)(w:World)(ax:l.length<=4194304):Calls prog 251 #[.string (str l)] w (ail l w):=by
 go_enter func251,ntmps251;go_wp2_with fail;refine(ajO _ _).mono ?_;rintro e w1⟨rfl,rfl⟩;have X:fI (w.alloc (.cells #[vs l] 9)) ((w:Nat)+1) 9 (.slice none 0 0) (List.map vs []):=fI.nil _ _ _;have J:(w.alloc (.cells #[vs l] 9)).cell? (w,0)=some (vs l):=by rw[World.cell?_alloc_mark];rfl
 have Q:(w.alloc (.cells #[vs l] 9)).frozen? (w,0)=false:=by rw[World.frozen?_alloc_mark];simp
 go_wp2_with fail;go_loopw [4,5] (λv a wr=>∃(c:List (List UInt8)) (rest:List UInt8) (k:Nat),a=.int .i64 (k:Int)/\k+rest.length=l.length/\8*c.length<=k/\GZ wr ((w:Nat)+1) v c/\wr.cell? (w,0)=some (vs rest)/\wr.frozen? (w,0)=false/\Below w w wr/\(w:Nat)<(wr:Nat)/\Hid (scan l=(c++(scan rest).1,k+(scan rest).2))) (λ_ a _=>l.length-(intOf a).toNat);case atStart=>exact⟨[],l,0,rfl,oZ,sZ,X,J,Q,bZ,sZ,qZ sZ⟩
 case round=>
  obtain⟨c,rest,k,rfl,z,ao,i,g,x,s,ar,r⟩:=hrel;clear X J Q;by_cases f:(Crc.read rest).2.2=0
  .have N:=qZ (asT rest (w:Nat) wr oZ g x f);have al:=FH rest f;have af:=qZ (alB l rest c k r f);have O:(rest.drop (Crc.read rest).2.1).length=rest.length-(Crc.read rest).2.1:=fV;generalize(Crc.read rest).1=t at*;generalize(Crc.read rest).2.1=n at*;generalize rest.drop n=rest' at*;obtain⟨au,av,_⟩:=al;have aq:k+n<=4194304:=oZ;have ap:k<l.length:=oZ;have I:=qZ z;have ad:=qZ O;have aw:8*(c.length+1)<=k+n:=oZ;have am:c.length<=1048576:=oZ;clear f r z O;go_wp2_with fail;refine N.out.mono ?_;rintro e b⟨rfl,m,d⟩;have H:∀k,u4.ownBlock=some k->(w:Nat)+1<=k/\k<(wr:Nat):=i.lt;have ay:(wr:Nat)<=(b:Nat):=by rw[d];simp[World.setCell]
   have K:b.cell? (w,0)=some (vs rest'):=by rw[d];exact World.cell?_setCell_same' _ _ _ (by rw[g];rfl)
   have T:b.frozen? (w,0)=false:=by rw[d];exact(World.frozen?_setCell _ _ _ _).trans x
   have u:Below w w b:=by rw[d];exact uZ (s.setCell (p:=⟨w,0,none⟩) lZ _) m
   have A:GZ b ((w:Nat)+1) u4 c:=i.bD (λk z=>by rw[d];exact Below.heap_setCell wr ⟨w,0,none⟩ (vs rest') k (by have:=H k z;simp only;omega));clear d i s g x N;obtain⟨v',o,aa,Z,y,ak⟩:=akz A oZ t am;have aj:(w:Nat)<(b:Nat):=oZ;have Y:some (w:Nat)≠u4.ownBlock:=λe=>by have:=H _ e.symm;omega
   have F:o.heap[(w:Nat)]? =b.heap[(w:Nat)]? :=(y.block (w:Nat) (by simp;omega) Y).trans (Below.heap_alloc _ _ _ aj);have L:CV o w 0 (vs rest'):=(World.cell?_of_block (w:=b) (a:=⟨w,0,none⟩) F).trans K;have ah:o.frozen? (w,0)=false:=(World.frozen?_of_block (w:=b) (a:=⟨w,0,none⟩) F).trans T;have ag:Below w w o:=(u.alloc oZ _).grown y (by simp;omega) (λj ai=>by have:=H j ai;omega);have an:(w:Nat)<(o:Nat):=by have:=y.size;simp at this;omega
   clear F Y A K T u y ak;unfold vs at aa;unfold vs;have ae:=qZ Z;have ab:=qZ L;clear Z L;go_wp2_with(at_builtin;refine dJ rfl (.tmp 22) (.tmp 24) _ _ rfl u4 (.slice b 1 1) rfl rfl aa ?_);go_roundw;case rel=>exact⟨c++[t],rest',k+n,mZ,by have:=I.out;have:=ad.out;omega,by simp;omega,ae,ab,ah,ag,an,af⟩
   case measure=>have:=I.out;simp[intOf];omega
  .have M:=qZ (auE rest (w:Nat) wr oZ g f);have W:=qZ (alC l rest c k r f);clear f r;go_wp2_with fail;refine M.out.mono ?_;rintro e b⟨rfl,m,d⟩;have u:Below w w b:=d▸uZ s m;have A:GZ b ((w:Nat)+1) u4 c:=by rw[d];exact i.below (uZ (aJ _ _) m)
   clear d i s g x M;go_wp2_with fail;go_ret2;show ail l w _ _;refine⟨u4,?_,?_,u⟩
   .rw[W.out];rfl
   .rw[W.out];exact A.low oZ
end pJ
variable{g:Nat}{F:Nat->Prop}{v1 v2:Value}{w':World}
namespace pE
open Go.RowKit L
structure rA (w:World) (g:Nat) (d:Dsk.D) (F:Nat->Prop) (v1 v2:Value):Prop where
 cK:Blk w g 241 #[(d.size:Int),v1,v2,.bool d.swaps]
 safe:mD w 0 v1 d.safe
 waits:mD w 0 v2 d.waits
 AY:∀k,v1.ownBlock=some k->k≠g
 RO:∀k,v2.ownBlock=some k->k≠g
 apart:∀k,v1.ownBlock=some k->v2.ownBlock≠some k
 inF:F g
 in1:∀k,v1.ownBlock=some k->F k
 in2:∀k,v2.ownBlock=some k->F k
 ltF:∀k,F k->k<(w:Nat)
 ok:Dsk.Ok d
 most:d.size<=1048576
theorem mD.len{l:List UInt8}(h:mD w 0 v l):∃a c,v=.slice a l.length c:=by
 rcases h with⟨rfl,rfl⟩|⟨g,cap,rfl,_⟩
 .exact⟨_,_,rfl⟩
 .exact⟨_,_,rfl⟩
theorem rA.bD{d:Dsk.D}{G:Nat->Prop}(h:rA w g d F v1 v2)(k:aO G w w')(a:∀i,F i->¬G i):rA w' g d F v1 v2:=
 ⟨h.cK.bD k (a g h.inF),h.safe.bD k.size λi hi=>k.block i ((h.safe.lt i hi).2) (a i (h.in1 i hi)),h.waits.bD k.size λi hi=>k.block i ((h.waits.lt i hi).2) (a i (h.in2 i hi)),h.AY,h.RO,h.apart,h.inF,h.in1,h.in2,λi hi=>aM (h.ltF i hi) k.size,h.ok,h.most⟩
def Turn(w w':World)(g:Nat)(d':Dsk.D)(F:Nat->Prop):Prop:=∃F' v1 v2,rA w' g d' F' v1 v2/\aO F w w'/\∀k,F' k->F k\/(w:Nat)<=k
theorem aO.ahX(h:w'=w.drewN n):aO F w w':=h▸(aO.refl F w).drewN n
theorem TJ{d:Dsk.D}(h:rA w g d F v1 v2):Calls prog 258 #[.pointer g] w λe w'=>e=.returned (.int .i64 (d.waits.length:Int))/\w=w':=by have c2:=h.cK.cell 2;obtain⟨a,c,rfl⟩:=mD.len h.waits;simp only[fU]at c2;clear h;go_enter func258,ntmps258;go_wp2;go_ret;exact⟨rfl,rfl⟩
theorem ahg{d:Dsk.D}(h:rA w g d F v1 v2):Calls prog 250 #[.pointer g] w λe w'=>e=.returned (.string (str d.safe))/\w=w':=by have c1:=h.cK.cell 1;have b:=KN (P:=prog) 239 9 5 underlying239 underlying5 underlying9 h.safe;obtain⟨a,c,rfl⟩:=mD.len h.safe;simp only[fU]at c1;clear h;go_enter func250,ntmps250;go_wp2;go_ret;exact⟨rfl,rfl⟩
theorem BS{w:World}{g:Nat}{d:Dsk.D}{F:Nat->Prop}{v1 v2:Value}(h:rA w g d F v1 v2):Calls prog 255 #[.pointer g] w λe w'=>e=.returned (.int .i64 (Dsk.free d))/\∃n,w'=w.drewN n:=by
 have i:=h.cK.cell 0;have c1:=h.cK.cell 1;have c2:=h.cK.cell 2;have c3:=h.cK.cell 3;have ok:=h.ok;have most:=h.most;unfold Dsk.Ok at ok;obtain⟨a,c,rfl⟩:=mD.len h.waits;obtain⟨a',f,rfl⟩:=mD.len h.safe;obtain⟨j,k,b⟩:=ok;clear h;obtain⟨size,safe,waits,swaps⟩:=d;simp only[fU]at*;cases swaps
 .have l:=b rfl;clear b;go_enter func255,ntmps255;go_wp2;go_quiet (fail);go_wp2;go_ret;exact⟨gP (by simp[Dsk.free]),⟨_,rfl⟩⟩
 .clear b;go_enter func255,ntmps255;go_wp2;go_quiet (fail);go_wp2;go_ret;exact⟨gP (by simp[Dsk.free]),⟨_,rfl⟩⟩
theorem atY(m:Nat)(b:m<=1048576)(w:World):rA (w.alloc (.cells #[(m:Int),true,true,.bool false] 241)) (w:Nat) ⟨m,[],[],false⟩ (λk=>k=(w:Nat)) (.slice none 0 0) (.slice none 0 0):=
 ⟨Blk.new _ _ _,.inl ⟨rfl,rfl⟩,.inl ⟨rfl,rfl⟩,λk a=>(by cases a),λk a=>(by cases a),λk a=>(by cases a),rfl,λk a=>(by cases a),λk a=>(by cases a),λk a=>(by subst a;simp),⟨bK _,bK _,λ_=>bK _⟩,b⟩
theorem aaP(n:Int)(w:World):Calls prog 121 #[n] w λe w'=>e=.returned (.pointer w)/\w'=w.alloc (.cells #[((Dsk.new n).size:Int),true,true,.bool false] 241):=by
 go_enter func121,ntmps121;go_wp2;all_goals
  go_ret;refine⟨rfl,?_⟩;first
   |(rw[show(((Dsk.new n).size:Nat):Int)=n by unfold Dsk.new;simp only;omega];done)
   |(rw[show(((Dsk.new n).size:Nat):Int)=0 by unfold Dsk.new;simp only;omega];done)
   |(rw[show(((Dsk.new n).size:Nat):Int)=1048576 by unfold Dsk.new;simp only;omega];done)
end pE
variable{v':Value}{w1:World}
namespace pE
open Go.RowKit L
theorem akZ:(prog.info? 5).map (λi=>(i.zero,i.size,i.bytes))=some (some (.int .u8 0),1,1):=by kernel_rfl
theorem mD.forms{l:List UInt8}(h:mD w 0 v l):v=.slice none 0 0\/∃g cap,v=.slice (some ⟨g,0,none⟩) l.length cap:=by
 rcases h with⟨rfl,rfl⟩|⟨g,cap,rfl,_⟩
 .exact .inl rfl
 .exact .inr ⟨g,cap,rfl⟩
theorem Turn.KS{d':Dsk.D}(e:w1=w.drewN n)(h:Turn w1 w' g d' F):Turn w w' g d' F:=by subst e;obtain⟨F',v1,v2,a,c,b⟩:=h;exact⟨F',v1,v2,a,((aO.refl F w).drewN n).trans c,b⟩
theorem ait{d d':Dsk.D}(h:rA w g d F v1 v2)(j:d'.size=d.size)(r:d'.safe=d.safe)(o:Dsk.Ok d')(n:mD w1 0 v' d'.waits)(u:aO F w w1)(s:Blk w1 g 241 #[(d.size:Int),v1,v2,.bool d.swaps])(p:mD w1 0 v1 d.safe)(c:∀k,v'.ownBlock=some k->(v2.ownBlock=some k\/(w:Nat)<=k)/\k<(w1:Nat))(e:World)(x:(e:Nat)=(w1:Nat))(f:∀k,k≠g->e.heap[k]? =w1.heap[k]?)(l:Blk e g 241 #[(d.size:Int),v1,v',.bool d'.swaps])(i:aO F w e):Turn w e g d' F:=by
 have v:=h.cK.lt;refine⟨λk=>F k\/(v'.ownBlock=some k),v1,v',⟨by rw[j];exact l,?_,?_,h.AY,?_,?_,.inl h.inF,λk a=>.inl (h.in1 k a),λk a=>.inr a,?_,o,by rw[j];exact h.most⟩,i,?_⟩
 .rw[r];exact p.bD oZ λk a=>f k (h.AY k a)
 .exact n.bD oZ (λk a=>f k (by
   rcases(c k a).1 with b|b
   .exact h.RO k b
   .omega))
 .intro k a;rcases(c k a).1 with b|b
  .exact h.RO k b
  .omega
 .intro k a m;rcases(c k m).1 with b|b
  .exact h.apart k a b
  .have:=(h.safe.lt k a).2;omega
 .intro k a;rcases a with a|a
  .have:=h.ltF k a;have:=i.size;omega
  .have:=(c k a).2;omega
 .intro k a;rcases a with a|a
  .exact .inl a
  .rcases(c k a).1 with b|b
   .exact .inl (h.in2 k b)
   .exact .inr b
theorem akN{d:Dsk.D}(h:rA w g d F v1 v2)(s:ByteArray)(aa:s.size<=maxLen):Calls prog 226 #[.pointer g,.string s] w λe w'=>e=.returned (.int .i64 (qD d s.data.toList))/\Turn w w' g (Dsk.write d s.data.toList) F:=by
 unfold maxLen at aa;have m:s.data.toList.length=s.size:=sZ;by_cases b:pI d s.data.toList=true
 .have Y:(s.size:Int)<=Dsk.free d:=by unfold pI at b;rw[m]at b;simpa using b
  have r:=qY (qD d s.data.toList=0) (by unfold qD;rw[aG b]);have o:Dsk.write d s.data.toList={d with waits:=d.waits++s.data.toList}:=by unfold Dsk.write;rw[aG b]
  have v:=ady d s.data.toList h.ok;rw[o]at v⊢;have Z:d.waits.length+s.data.toList.length<=1048576:=by have a:(d.waits++s.data.toList).length<=d.size:=v.2.1;have af:=h.most;rw[aW]at a;omega
  clear b o;go_enter func226,ntmps226;go_wp2_with fail;refine(BS h).mono ?_;rintro e w1⟨rfl,n,f⟩;have a:rA w1 g d F v1 v2:=h.bD (aO.ahX (F:=λ_=>False) f) (λ_ _ h=>h);have y:=qZ f;clear h f;have c2:=a.cK.cell 2;have ab:=a.cK.frozen 2;obtain⟨i0,hi,M,N,O⟩:=info_parts akZ;obtain⟨v',Q,J,u,l,I⟩:=vX (P:=prog) 239 9 239 5 i0 underlying239 hi M N O a.waits (bK _) (YI (P:=prog) (w:=w1) underlying9 s) oZ;have H:some g≠v2.ownBlock:=λe=>a.RO g e.symm rfl;have j:=a.cK.grown l H;have W:=j.cell 2;have ad:=j.frozen 2;have K:=a.safe.bD l.size (λk c=>l.block k (a.safe.lt k c).2 λe=>a.apart k c e.symm);have x:aO F w1 Q:=aO.lG l (λi e=>a.in2 i e);have z:Turn w1 (Q.setCell (g,2) v') g {d with waits:=d.waits++s.data.toList} F:=
   ait (d':={d with waits:=d.waits++s.data.toList}) a rfl rfl v u x j K (λk c=>⟨I k c,(u.lt k c).2⟩) _ (by simp[World.setCell]) (λk c=>Below.heap_setCell _ _ _ _ c) (j.bV 2 v') (x.setCell (.inl a.inF) v')
  have A:=Turn.KS y z;have p:=qZ A;have X:=mD.forms u;simp only[fU]at c2 W;clear z A x K j H I l u v Z hi M N O a y;have T:=qZ m;clear m;rcases X with rfl|⟨ae,cap,rfl⟩
  .go_wp2_with(at_builtin;refine dJ rfl (.tmp 18) (.tmp 19) _ _ rfl v2 (.string s) rfl rfl J ?_);go_ret;exact⟨gP r.out.symm,p⟩
  .go_wp2_with(at_builtin;refine dJ rfl (.tmp 18) (.tmp 19) _ _ rfl v2 (.string s) rfl rfl J ?_);go_ret;have L:=p.out;rw[aW,T.out]at L;exact⟨gP r.out.symm,L⟩
 .have Y:¬(s.size:Int)<=Dsk.free d:=by unfold pI at b;rw[m]at b;simpa using b
  have r:=qY (qD d s.data.toList=9) (by unfold qD;rw[aD b]);have o:Dsk.write d s.data.toList=d:=by unfold Dsk.write;rw[aD b]
  rw[o];have ag:=λw=> @BS w g d F v1 v2;clear b o m;go_enter func226,ntmps226;go_wp2_with fail;refine(BS h).mono ?_;rintro e w1⟨rfl,n,f⟩;have p:=qZ (Turn.KS (F:=F) (g:=g) (d':=d) f ⟨F,v1,v2,h.bD (aO.ahX (F:=λ_=>False) f) λ_ _ h=>h,aO.refl _ _,λk c=>.inl c⟩);clear h f;go_wp2;go_ret;exact⟨gP r.out.symm,p⟩
theorem set2(p q:Addr)(u v:Value):((w.setCell p u).setCell q v).heap.size=(w:Nat):=by simp[World.setCell]
theorem adQ{d:Dsk.D}{l:List UInt8}(h:rA w g d F v1 v2)(n:l.length<=d.size)(b:Below w w w1)(i:mD w1 0 v' l)(c:∀k,v'.ownBlock=some k->(w:Nat)<=k):Turn w ((w1.setCell (g,2) v').setCell (g,3) (.bool true)) g {d with waits:=l,swaps:=true} F:=by
 have o:=h.cK.lt;have a:aO F w w1:=aO.bS b;have j:Blk w1 g _ _:=h.cK.below b o;have p:=h.safe.bD b.size (λk a=>b.block k (h.safe.lt k a).2);have far:∀k,k≠g->((w1.setCell (g,2) v').setCell (g,3) (.bool true)).heap[k]? =w1.heap[k]? :=λk a=>(Below.heap_setCell _ _ _ _ a).trans (Below.heap_setCell _ _ _ _ a);have f:∀k,v'.ownBlock=some k->k≠g:=λk a e=>by have:=c k a;omega
 refine⟨λk=>F k\/v'.ownBlock=some k,v1,v',⟨(j.bV 2 v').bV 3 (.bool true),?_,?_,h.AY,f,?_,.inl h.inF,λk a=>.inl (h.in1 k a),λk a=>.inr a,?_,⟨h.ok.1,n,λe=>by cases e⟩,h.most⟩,?_,?_⟩
 .exact p.bD (by rw[set2];exact bI _) λk a=>far k (h.AY k a)
 .exact i.bD (by rw[set2];exact bI _) λk a=>far k (f k a)
 .intro k a m;have:=c k m;have:=(h.safe.lt k a).2;omega
 .intro k a;rw[set2];rcases a with a|a
  .exact aM (h.ltF k a) b.size
  .exact(i.lt k a).2
 .exact(a.setCell (.inl h.inF) _).setCell (.inl h.inF) _
 .intro k a;rcases a with a|a
  .exact .inl a
  .exact .inr (c k a)
theorem agG{d:Dsk.D}(h:rA w g d F v1 v2)(s:ByteArray)(r:s.size<=maxLen):Calls prog 236 #[.pointer g,.string s] w λe w'=>e=.returned (.int .i64 (uN d s.data.toList))/\Turn w w' g (Dsk.replace d s.data.toList) F:=by
 unfold maxLen at r;have j:s.data.toList.length=s.size:=sZ;have l:=h.cK.lt;have y:¬g=(w:Nat):=oZ;have n:=h.cK.cell 0;have c2:=h.cK.cell 2;have c3:=h.cK.cell 3;have u:=h.cK.frozen 2;have v:=h.cK.frozen 3;simp only[fU]at n c2 c3;by_cases x:d.size<s.size
 .have c:=qY (uN d s.data.toList=9) (by unfold uN;rw[aG oZ]);have a:Dsk.replace d s.data.toList=d:=by unfold Dsk.replace;rw[aG oZ]
  rw[a];have b:=qY (Turn w w g d F) (⟨F,v1,v2,h,aO.refl _ _,λk f=>.inl f⟩);clear a j h;go_enter func236,ntmps236;go_wp2;go_ret;exact⟨gP c.out.symm,b⟩
 .have c:=qY (uN d s.data.toList=0) (by unfold uN;rw[aD oZ]);have a:Dsk.replace d s.data.toList={d with waits:=s.data.toList,swaps:=true}:=by unfold Dsk.replace;rw[aD oZ]
  rw[a];have p:=h.most;obtain⟨cap,o,z,m⟩:=adb (P:=prog) w 9 239 5 s underlying9 underlying239 underlying5 oZ;have i:=adQ h oZ ((aJ _ _).drew.alloc lZ o) m (λk f=>by cases f;exact bI _);rw[World.alloc_drew,World.setCell_drew,World.setCell_drew,World.setCell_alloc_past o g 2 _ l,World.setCell_alloc_past o g 3 _ (by simpa[World.setCell]using l)]at i;have b:=qZ i;clear a j h m p i;go_enter func236,ntmps236;go_wp2;go_ret;exact⟨gP c.out.symm,b⟩
theorem atD(p q r:Addr)(u v x:Value):(((w.setCell p u).setCell q v).setCell r x).heap.size=(w:Nat):=by simp[World.setCell]
theorem XV{d:Dsk.D}{l:List UInt8}(h:rA w g d F v1 v2)(e:l.length<=d.size)(c:aO F w w1)(m:Blk w1 g 241 #[(d.size:Int),v1,v2,.bool d.swaps])(j:mD w1 0 v' l)(f:∀k,v'.ownBlock=some k->(F k/\k≠g)\/(w:Nat)<=k):Turn w (((w1.setCell (g,1) v').setCell (g,2) (.slice none 0 0)).setCell (g,3) (.bool false)) g ⟨d.size,l,[],false⟩ F:=by
 have o:=h.cK.lt;have far:∀k,k≠g->(((w1.setCell (g,1) v').setCell (g,2) (.slice none 0 0)).setCell (g,3) (.bool false)).heap[k]? =w1.heap[k]? :=λk a=>((Below.heap_setCell _ _ _ _ a).trans (Below.heap_setCell _ _ _ _ a)).trans (Below.heap_setCell _ _ _ _ a);have i:∀k,v'.ownBlock=some k->k≠g:=λk a=>by
  rcases f k a with b|b
  .exact b.2
  .omega
 refine⟨λk=>F k\/v'.ownBlock=some k,v',.slice none 0 0,⟨((m.bV 1 v').bV 2 (.slice none 0 0)).bV 3 (.bool false),?_,mD.nil _ _,i,λk a=>(by cases a),λk a n=>(by cases n),.inl h.inF,λk a=>.inr a,λk a=>(by cases a),?_,⟨e,bK _,λ_=>e⟩,h.most⟩,?_,?_⟩
 .exact j.bD (by rw[atD];exact bI _) λk a=>far k (i k a)
 .intro k a;rw[atD];rcases a with a|a
  .exact aM (h.ltF k a) c.size
  .exact(j.lt k a).2
 .exact((c.setCell (.inl h.inF) _).setCell (.inl h.inF) _).setCell (.inl h.inF) _
 .intro k a;rcases a with a|a
  .exact .inl a
  .rcases f k a with b|b
   .exact .inl b.1
   .exact .inr b
theorem ags{d:Dsk.D}(h:rA w g d F v1 v2):Turn w ((w.setCell (g,2) (.slice none 0 0)).setCell (g,3) (.bool false)) g ⟨d.size,d.safe,[],false⟩ F:=by
 have far:∀k,k≠g->((w.setCell (g,2) (.slice none 0 0)).setCell (g,3) (.bool false)).heap[k]? =w.heap[k]? :=λk a=>(Below.heap_setCell _ _ _ _ a).trans (Below.heap_setCell _ _ _ _ a);refine⟨F,v1,.slice none 0 0,⟨(h.cK.bV 2 (.slice none 0 0)).bV 3 (.bool false),?_,mD.nil _ _,h.AY,λk a=>(by cases a),λk a b=>(by cases b),h.inF,h.in1,λk a=>(by cases a),?_,⟨h.ok.1,bK _,λ_=>h.ok.1⟩,h.most⟩,?_,λk a=>.inl a⟩
 .exact h.safe.bD (by rw[set2];exact bI _) λk a=>far k (h.AY k a)
 .intro k a;rw[set2];exact h.ltF k a
 .exact((aO.refl F w).setCell (.inl h.inF) _).setCell (.inl h.inF) _
theorem acH{d:Dsk.D}(h:rA w g d F v1 v2)(n:Int):Calls prog 126 #[.pointer g,n] w λe w'=>e=.returned (.tuple #[])/\Turn w w' g (rJ d n) F:=by
 have c1:=h.cK.cell 1;have c2:=h.cK.cell 2;have c3:=h.cK.cell 3;have ai:=h.cK.frozen 1;have aj:=h.cK.frozen 2;have ak:=h.cK.frozen 3;simp only[fU]at c1 c2 c3;have W:=afa d n;obtain⟨m,Z⟩:∃m:Nat,max n 0=(m:Int):=⟨(max n 0).toNat,oZ⟩;have X:min m d.waits.length=uP d n:=by unfold uP;omega
 have J:rJ d n=⟨d.size,if d.swaps then(if uP d n=d.waits.length then d.waits else d.safe)else d.safe++d.waits.take (uP d n),[],false⟩:=rfl;have f:=(WM d n h.ok).1;rw[J]at f⊢;obtain⟨k,T⟩:=nZ (uP d n);rw[T]at W X J f⊢;clear J T;have Y:min (m:Int) (d.waits.length:Int)=(k:Int):=oZ;have p:=qZ Z;have o:=qZ Y;clear Z X Y;obtain⟨i0,hi,H,v,I⟩:=info_parts akZ;obtain⟨a2,r,af⟩:=mD.len h.waits;subst af;obtain⟨O,hcut,s,u⟩:=h.waits.cutAt (P:=prog) k W 239 5 underlying239 i0 hi v;have A:=h.ok.2.1;have N:=h.most;obtain⟨size,safe,waits,swaps⟩:=d;simp only at*;cases swaps
 ·
  simp only[kC,if_false]at*;obtain⟨v',ah,ab,c,M,aa⟩:=vX (P:=prog) 239 239 239 5 i0 underlying239 hi H v I h.safe (bK _) (s.src underlying239) (by have:(safe++waits.take k).length<=size:=f;rw[aW]at this;exact aV this oZ);have a:Blk ah g 241 _:=h.cK.grown M (λe=>h.AY g e.symm rfl);have d1:=a.cell 1;have d2:=a.cell 2;have d3:=a.cell 3;have e1:=a.frozen 1;have e2:=a.frozen 2;have e3:=a.frozen 3;simp only[fU]at d1 d2 d3;have b:=qZ (XV h f (aO.lG M λi e=>h.in1 i e) a c (λj z=>by
   rcases aa j z with x|x
   .exact .inl ⟨h.in1 j x,h.AY j x⟩
   .exact .inr x))
  have y:=mD.forms c;have ad:=qY ((safe++waits.take k).length=(safe++waits.take k).length) rfl;obtain⟨L,Q⟩:=nZ ((safe++waits.take k).length);rw[Q]at y;clear a aa M c f hi H v I h s u A N ad Q;rcases y with rfl|⟨ae,cap,rfl⟩
  .go_enter func126,ntmps126;go_wp2_with(first|(refine wK rfl (.tmp 7) (.const (.int .i64 0)) _ _ rfl n 0 m rfl rfl p ?_)|(refine wJ rfl (.tmp 8) (.tmp 13) _ _ rfl m waits.length k rfl rfl o ?_)|(at_builtin;refine dJ rfl (.tmp 32) (.tmp 33) _ _ rfl v1 O rfl rfl ab ?_)|(refine uH rfl (.tmp 18) (.tmp 19) (.tmp 20) _ _ underlying239 rfl (.slice a2 waits.length r) k k rfl rfl rfl (hcut _) ?_))
   go_end0
   exact⟨rfl,b⟩
  .go_enter func126,ntmps126;go_wp2_with(first|(refine wK rfl (.tmp 7) (.const (.int .i64 0)) _ _ rfl n 0 m rfl rfl p ?_)|(refine wJ rfl (.tmp 8) (.tmp 13) _ _ rfl m waits.length k rfl rfl o ?_)|(at_builtin;refine dJ rfl (.tmp 32) (.tmp 33) _ _ rfl v1 O rfl rfl ab ?_)|(refine uH rfl (.tmp 18) (.tmp 19) (.tmp 20) _ _ underlying239 rfl (.slice a2 waits.length r) k k rfl rfl rfl (hcut _) ?_))
   go_end0
   exact⟨rfl,b⟩
 .simp only[if_true]at*;by_cases K:k=waits.length
  .subst K;have c:mD w 0 O waits:=by have:=s;rwa [aT lZ]at this
   have b:=qZ (XV h (l:=waits) A (aO.refl _ _) h.cK c λj z=>.inl ⟨h.in2 j (u j z),h.RO j (u j z)⟩);rw[aG rfl];have y:=mD.forms c;clear c f hi H v I h s u A N;have ag:((waits.length:Int)==(waits.length:Int))=true:=sZ;rcases y with rfl|⟨ae,cap,rfl⟩
   .go_enter func126,ntmps126;go_wp2_with(first|(refine wK rfl (.tmp 7) (.const (.int .i64 0)) _ _ rfl n 0 m rfl rfl p ?_)|(refine wJ rfl (.tmp 8) (.tmp 13) _ _ rfl m waits.length waits.length rfl rfl o ?_)|(refine uH rfl (.tmp 18) (.tmp 19) (.tmp 20) _ _ underlying239 rfl (.slice a2 waits.length r) waits.length waits.length rfl rfl rfl (hcut _) ?_))
    go_end0
    exact⟨rfl,b⟩
   .go_enter func126,ntmps126;go_wp2_with(first|(refine wK rfl (.tmp 7) (.const (.int .i64 0)) _ _ rfl n 0 m rfl rfl p ?_)|(refine wJ rfl (.tmp 8) (.tmp 13) _ _ rfl m waits.length waits.length rfl rfl o ?_)|(refine uH rfl (.tmp 18) (.tmp 19) (.tmp 20) _ _ underlying239 rfl (.slice a2 waits.length r) waits.length waits.length rfl rfl rfl (hcut _) ?_))
    go_end0
    exact⟨rfl,b⟩
  .rw[aD K];have b:=qZ (ags h);have ag:((k:Int)==(waits.length:Int))=false:=by simp;omega
   clear f hi H v I h s u A N K;go_enter func126,ntmps126;go_wp2_with(first|(refine wK rfl (.tmp 7) (.const (.int .i64 0)) _ _ rfl n 0 m rfl rfl p ?_)|(refine wJ rfl (.tmp 8) (.tmp 13) _ _ rfl m waits.length k rfl rfl o ?_)|(refine uH rfl (.tmp 18) (.tmp 19) (.tmp 20) _ _ underlying239 rfl (.slice a2 waits.length r) k k rfl rfl rfl (hcut _) ?_))
   go_end0
   exact⟨rfl,b⟩
theorem aoE{d:Dsk.D}(h:rA w g d F v1 v2):Calls prog 228 #[.pointer g] w λe w'=>e=.returned (.tuple #[])/\Turn w w' g (Dsk.sync d) F:=by
 have f:=qZ (acH h (d.waits.length:Int));have i:=qZ (TJ h);have b:=qY (Dsk.sync d=rJ d (d.waits.length:Int)) rfl;clear h;go_enter func228,ntmps228;go_wp2_with fail;refine i.out.mono ?_;rintro e w1⟨rfl,rfl⟩;go_wp2_with fail;refine f.out.mono ?_;rintro e w1⟨rfl,a⟩;rw[<-b.out]at a;have c:=qZ a;clear a;go_wp2
 go_end0
 exact⟨rfl,c⟩
theorem atO(w:World)(h i:Nat)(u:Value):aO (λk=>k=h) w (w.setCell (h,i) u):=aO.setCell (F:=λk=>k=h) (p:=⟨h,i,none⟩) (aO.refl _ w) (.inl rfl) u
def Own(B:Nat)(L:Nat->Prop)(w:World)(g:Nat)(d:Dsk.D):Prop:=∃F v1 v2,rA w g d F v1 v2/\(∀k,F k->B<=k/\¬L k)
def Room(B:Nat)(L:Nat->Prop):Nat->Prop:=λk=>B<=k/\¬L k
def aax(B:Nat)(L:Nat->Prop)(w w':World)(g:Nat)(d':Dsk.D):Prop:=Own B L w' g d'/\aO (Room B L) w w'
def Live(L:Nat->Prop)(w:World):Prop:=∀k,L k->k<(w:Nat)
section
variable {B:Nat} {L:Nat->Prop} {w w':World} {g:Nat} {d d':Dsk.D}
theorem Own.turn{F:Nat->Prop}(b:B<=(w:Nat))(c:Live L w)(hF:∀k,F k->B<=k/\¬L k)(t:Turn w w' g d' F):aax B L w w' g d':=by
 obtain⟨F',v1,v2,h,k,e⟩:=t;refine⟨⟨F',v1,v2,h,λi hi=>?_⟩,k.mono λi _ hi=>hF i hi⟩;rcases e i hi with a|a
 .exact hF i a
 .exact⟨aV b a,λd=>by have:=c i d;omega⟩
theorem Own.bD{G:Nat->Prop}(o:Own B L w g d)(k:aO G w w')(c:∀i,G i->L i\/i<B):Own B L w' g d:=by
 obtain⟨F,v1,v2,h,hF⟩:=o;refine⟨F,v1,v2,h.bD k λi hi e=>?_,hF⟩;have b:=hF i hi;rcases c i e with a|a
 .exact b.2 a
 .omega
theorem Own.ok(o:Own B L w g d):Dsk.Ok d/\d.size<=1048576:=by obtain⟨F,v1,v2,h,hF⟩:=o;exact⟨h.ok,h.most⟩
theorem Live.bD(a:Live L w)(c:(w:Nat)<=(w':Nat)):Live L w':=λk b=>aM (a k b) c
theorem asc(m:Nat)(d:m<=1048576)(a:B<=(w:Nat))(b:Live L w):Own B L (w.alloc (.cells #[(m:Int),true,true,.bool false] 241)) (w:Nat) ⟨m,[],[],false⟩:=
 ⟨_,_,_,atY m d w,λk c=>by subst c;exact⟨a,λh=>by have:=b _ h;omega⟩⟩
theorem akM(o:Own B L w g d)(a:B<=(w:Nat))(b:Live L w)(s:ByteArray)(f:s.size<=maxLen):Calls prog 226 #[.pointer g,.string s] w λe w'=>e=.returned (.int .i64 (qD d s.data.toList))/\aax B L w w' g (Dsk.write d s.data.toList):=by obtain⟨F,v1,v2,h,hF⟩:=o;exact(akN h s f).mono λ_ _ ⟨c,t⟩=>⟨c,Own.turn a b hF t⟩
theorem agF(o:Own B L w g d)(a:B<=(w:Nat))(b:Live L w)(s:ByteArray)(f:s.size<=maxLen):Calls prog 236 #[.pointer g,.string s] w λe w'=>e=.returned (.int .i64 (uN d s.data.toList))/\aax B L w w' g (Dsk.replace d s.data.toList):=by obtain⟨F,v1,v2,h,hF⟩:=o;exact(agG h s f).mono λ_ _ ⟨c,t⟩=>⟨c,Own.turn a b hF t⟩
theorem anE(o:Own B L w g d)(a:B<=(w:Nat))(b:Live L w)(n:Int):Calls prog 126 #[.pointer g,n] w λe w'=>e=.returned (.tuple #[])/\aax B L w w' g (rJ d n):=by obtain⟨F,v1,v2,h,hF⟩:=o;exact(acH h n).mono λ_ _ ⟨c,t⟩=>⟨c,Own.turn a b hF t⟩
theorem adT(o:Own B L w g d)(a:B<=(w:Nat))(b:Live L w):Calls prog 228 #[.pointer g] w λe w'=>e=.returned (.tuple #[])/\aax B L w w' g (Dsk.sync d):=by obtain⟨F,v1,v2,h,hF⟩:=o;exact(aoE h).mono λ_ _ ⟨c,t⟩=>⟨c,Own.turn a b hF t⟩
theorem ahf(o:Own B L w g d):Calls prog 250 #[.pointer g] w λe w'=>e=.returned (.string (str d.safe))/\w=w':=by obtain⟨F,v1,v2,h,hF⟩:=o;exact ahg h
end
def Nothing:Nat->Prop:=λ_=>False
theorem QL(w:World):Live Nothing w:=λ_ h=>h.elim
end pE
end Go.Proofs.YtedmeglbjmdlhaaGreatDoor
