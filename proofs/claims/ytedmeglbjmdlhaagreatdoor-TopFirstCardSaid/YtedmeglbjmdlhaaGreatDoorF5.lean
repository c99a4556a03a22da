/-
Parts of TopFirst.
-/
import Derived.Test.YtedmeglbjmdlhaaGreatDoorF1
import Derived.Test.YtedmeglbjmdlhaaGreatDoorShelf
import Derived.Shelf.Spec.BitsCarry
import Derived.Deep.DeepCutAuto
import Derived.Deep.CutBlock
set_option maxRecDepth 100000
set_option maxHeartbeats 16000000
set_option linter.all false
open Go.Proofs.Tryz
namespace Go.Proofs.YtedmeglbjmdlhaaGreatDoor
open Go.IntKind renaming u64->ac,u64->ci,i64->cA
open Go.Value renaming int->bz,pointer->b1,string->cn,tuple->cp,slice->cv,slice->cJ
open Go.Ending renaming returned->bO
open Fix renaming top->b0,one->b8,quo->b9,pre->ca,ofInt->ch,add->ct,mul->cy,cut->cC
open Go renaming World->b2,Calls->b5,maxLen->cs,bits->cw,Value->cE
open Go.Proofs.Tryz renaming prog->b3,underlying239->cG,underlying9->cL
open Go.Lib renaming byteCells->b4,byteCells_length->cj
open Jou renaming clean->b6,opened->cz,scan->cH
open L renaming ret_val->b7
open Crc renaming frame->cb
open Bool renaming false->cc,true->cr
open Dec renaming rounds->cd,stp->cF,t->cI
open Int renaming natCast_mul->cg,natCast_pow->ck
open Option renaming some->cl,none->cu
open Nat renaming div_le_self->cm,mul_le_mul->cx
open Go.Result renaming andThen->co
open Dv renaming B->cq,done->cD
open Go
open Crc Dec Dsk Dv EM Fix Jou L agV bT oQ oU rM
namespace rM
open Go.RowKit L
theorem aoc(hi lo:Nat)(h:hi<4294967296)(a:lo<18446744073709551616):cw .or ac ((hi:Int)*4294967296) ((lo:Int)/4294967296)=((hi*4294967296+lo/4294967296:Nat):Int):=by have e1:((hi:Int)*4294967296)=((hi*4294967296:Nat):Int):=oZ;have e2:((lo:Int)/4294967296)=((lo/4294967296:Nat):Int):=oZ;rw[e1,e2,sM ac rfl _ _ (by show _<18446744073709551616;omega) (by show _<18446744073709551616;omega)];congr 1;rw[dW];exact(iW (i:=32) oZ _).symm
theorem aek(a b:Nat)(j:a<=b0)(k:b<=b0)(w:b2):b5 b3 168 #[bz ac a,bz ac b] w λe w'=>e=bO (bz ac (cy a b))/\w=w':=by
 unfold b0 at j k;have m:∀w:b2,b5 b3 215 #[bz ac a,bz ac b] w λe w'=>e=bO (cp #[bz ac ((a*b/18446744073709551616:Nat):Int),bz ac ((a*b%18446744073709551616:Nat):Int)])/\w'=w:=λw=>Tryz.bits_Mul64 a b oZ oZ w;have c:a*b%18446744073709551616<18446744073709551616:=jO _ oZ;have l:a*b/18446744073709551616<18446744073709551616:=by apply Nat.div_lt_of_lt_mul;have:a*b<=18446744073709551615*18446744073709551615:=cx j k;omega
 have n:a*b/4294967296=a*b/18446744073709551616*4294967296+a*b%18446744073709551616/4294967296:=oZ;obtain⟨hi,g⟩:=nQ (a*b/18446744073709551616);obtain⟨lo,i⟩:=nQ (a*b%18446744073709551616);rw[g.out,i.out]at m n;rw[i.out]at c;rw[g.out]at l;have hv:cy a b=cC (hi*4294967296+lo/4294967296):=by unfold cy b8;rw[n]
 have d:=qZ m;have f:=qZ hv;have o:=qZ c;have p:=qZ l;by_cases h:hi<4294967296
 .go_enter func168,ntmps168;go_wp2_with fail;refine(d _).mono ?_;rintro e w1⟨rfl,rfl⟩;go_wp2;go_ret;have c:=o.out;refine⟨fT ?_,rfl⟩;rw[f.out,aoc hi lo h c,zK (by unfold b0;omega)]
 .go_enter func168,ntmps168;go_wp2_with fail;refine(d _).mono ?_;rintro e w1⟨rfl,rfl⟩;go_wp2;go_ret;refine⟨fT ?_,rfl⟩;rw[f.out,WL (by unfold b0;omega)];rfl
theorem afs(a b:Nat)(d:a<=b0)(f:b<=b0)(w:b2):b5 b3 219 #[bz ac a,bz ac b] w λe w'=>e=bO (bz ac (ct a b))/\w=w':=by
 unfold b0 at d f;have hv:ct a b=if a+b<=18446744073709551615 then a+b else 18446744073709551615:=rfl;have c:=qZ hv;by_cases h:a+b<=18446744073709551615
 .go_enter func219,ntmps219;go_wp2;go_ret;exact⟨fT (by rw[c.out,aI h];omega),rfl⟩
 .go_enter func219,ntmps219;go_wp2;go_ret;exact⟨fT (by rw[c.out,aF h];rfl),rfl⟩
theorem UE(a b:Nat)(w:b2):(callFunc 216 #[bz ac a,bz ac b,bz ac 0]).run b3 w=.ok (.value (cp #[bz ac (((a+b)%18446744073709551616:Nat):Int),bz ac (((a+b)/18446744073709551616:Nat):Int)])) w:=by rw[run_callFunc_extern func216 kZ kZ kZ (e:=add64Entry) kZ,run_add64 a b 0 oZ oZ oZ oZ];simp only[co];congr 5<;>omega
theorem AJ(c:Bool)(a b:Int)(w:b2):b5 b3 217 #[.bool c,bz ac a,bz ac b] w λe w'=>e=bO (bz ac (if c then a else b))/\w=w':=by
 cases c
 .go_enter func217,ntmps217;go_wp2;go_ret;exact⟨rfl,rfl⟩
 .go_enter func217,ntmps217;go_wp2;go_ret;exact⟨rfl,rfl⟩
theorem aaR(a b:Nat)(h:a+b<=18446744073709551615):(a+b)%18446744073709551616=a+b/\(a+b)/18446744073709551616=0:=by omega
theorem ahy(a b:Nat)(c:a<=18446744073709551615)(d:b<=18446744073709551615)(h:¬a+b<=18446744073709551615):(a+b)/18446744073709551616=1:=by omega
theorem aoU(a b:Nat)(f:a<=b0)(g:b<=b0)(w:b2):b5 b3 169 #[bz ac a,bz ac b] w λe w'=>e=bO (bz ac (ct a b))/\w=w':=by
 have hv:ct a b=if a+b<=18446744073709551615 then a+b else 18446744073709551615:=rfl;have j:=qZ hv;have i:∃s c:Nat,(∀w:b2,(callFunc 216 #[bz ac a,bz ac b,bz ac 0]).run b3 w=.ok (.value (cp #[bz ac (s:Int),bz ac (c:Int)])) w)/\c<=1/\Hid (ct a b=if 0<c then 18446744073709551615 else s):=by
  unfold b0 at f g;by_cases h:a+b<=18446744073709551615
  .refine⟨a+b,0,λw=>by rw[UE,(aaR a b h).1,(aaR a b h).2],oZ,?_⟩;exact qZ (by rw[hv,aI h,aF oZ])
  .refine⟨(a+b)%18446744073709551616,1,λw=>by rw[UE,ahy a b f g h],oZ,?_⟩;exact qZ (by rw[hv,aF h,aI oZ])
 obtain⟨s,c,l,k,d⟩:=i;by_cases h:0<c
 .go_enter func169,ntmps169;go_wp2_with fail;refine(AJ _ _ _ _).mono ?_;rintro e w1⟨rfl,rfl⟩;go_wp2_with fail;go_ret;exact⟨fT (by rw[d.out,aI h];rfl),rfl⟩
 .go_enter func169,ntmps169;go_wp2_with fail;refine(AJ _ _ _ _).mono ?_;rintro e w1⟨rfl,rfl⟩;go_wp2_with fail;go_ret;exact⟨fT (by rw[d.out,aF h]),rfl⟩
theorem FH(n:Int)(b: -9223372036854775808<=n)(c:n<=9223372036854775807)(w:b2):b5 b3 20 #[n] w λe w'=>e=bO (bz ac (ch n))/\w=w':=by
 by_cases h:n<=0
 .go_enter func20,ntmps20;go_wp2;go_ret;exact⟨fT (by rw[ch,aI h];rfl),rfl⟩
 by_cases a:4294967296<=n
 .go_enter func20,ntmps20;go_wp2;go_ret;exact⟨fT (by rw[ch,aF oZ,aI (by simp only[b8];omega)];rfl),rfl⟩
 .go_enter func20,ntmps20;go_wp2;go_ret;exact⟨fT (by rw[ch,aF oZ,aF (by simp only[b8];omega)];simp only[b8];omega),rfl⟩
theorem aii(n:Int)(b: -9223372036854775808<=n)(c:n<=9223372036854775807)(w:b2):b5 b3 177 #[n] w λe w'=>e=bO (bz ac (ch n))/\w=w':=by
 by_cases h:n<0
 .go_enter func177,ntmps177;go_wp2;go_ret;exact⟨fT (by rw[ch,aI oZ];rfl),rfl⟩
 by_cases a:4294967296<=n
 .go_enter func177,ntmps177;go_wp2;go_ret;exact⟨fT (by rw[ch,aF oZ,aI (by simp only[b8];omega)];rfl),rfl⟩
 .go_enter func177,ntmps177;go_wp2;go_ret;refine⟨fT ?_,rfl⟩;unfold ch b8;split
  .omega
  .rw[aF oZ];omega
def FR(q:Nat)(w:b2)(e:Ending)(w':b2):Prop:=(∃r:Int,e=bO (cp #[bz ac q,bz ac r]))/\∃n,w'=w.drewN n
theorem xE{q r a U:Nat}(h:q*a+r=U)(b:1<=q):(q-1)*a+(r+a)=U:=by obtain⟨p,rfl⟩:∃p,q=p+1:=⟨q-1,oZ⟩;rw[fZ,Nat.one_mul]at h;rw[gN];omega
theorem wrap_mul(q a:Nat)(h:q<4294967296)(b:a<4294967296):IntKind.u64.wrap ((q:Int)*(a:Int))=((q*a:Nat):Int):=by have:q*a<4294967296*4294967296:=Nat.mul_lt_mul'' h b;rw[<-cg];exact L.wrap_small ac rfl _ (by show _<18446744073709551616;omega)
theorem ags(hi lo y s Y a f U L u1 u0 v am r1 Q A C R F an r2 i:Nat)(a5:0<hi)(bs:hi<y)(bg:lo<=18446744073709551615)(bw:y<=18446744073709551615)(w:b2)(hs:s<64)(av:∀w:b2,b5 b3 296 #[bz ac y] w λe w'=>e=bO s/\w'=w)(e1:IntKind.u64.wrap ((y:Int)*2 ^ s)=(Y:Int))(be:(Y:Int)/4294967296=(a:Int))(bt:0<a)(bu:a<4294967296)(bd:cw .and ac (Y:Int) 4294967295=(f:Int))(e2:cw .or ac (IntKind.u64.wrap ((hi:Int)*2 ^ s)) ((lo:Int)/2 ^ (64-s))=(U:Int))(e3:IntKind.u64.wrap ((lo:Int)*2 ^ s)=(L:Int))(ba:(L:Int)/4294967296=(u1:Int))(a9:cw .and ac (L:Int) 4294967295=(u0:Int))(br:u1<4294967296)(bq:u0<4294967296)(N:(U:Int)/(a:Int)=(v:Int))(bn:v<=18446744073709551615)(bh:IntKind.u64.wrap ((v:Int)*(a:Int))=(am:Int))(bk:am<=U)(bc:U<=18446744073709551615)(bo:(U:Int)-(am:Int)=(r1:Int))(aj:Hid (v*a+r1=U/\Q<=v/\r1<4294967296))(m:Hid (Q=(U*cq+u1)/Y))(aq:Q<4294967296)(k:Hid (Y=a*cq+f))(au:U<Y)(O:f<4294967296)(a1:IntKind.u64.wrap ((U:Int)*4294967296)=(A:Int))(a8:A+u1<=18446744073709551615)(a3:IntKind.u64.wrap ((Q:Int)*(Y:Int))=(C:Int))(a4:IntKind.u64.wrap ((A:Int)+(u1:Int)-(C:Int))=(R:Int))(bl:(R:Int)/(a:Int)=(F:Int))(bm:F<=18446744073709551615)(bi:IntKind.u64.wrap ((F:Int)*(a:Int))=(an:Int))(bj:an<=R)(bb:R<=18446744073709551615)(bp:(R:Int)-(an:Int)=(r2:Int))(ak:Hid (F*a+r2=R/\i<=F/\r2<4294967296))(n:Hid (i=(R*cq+u0)/Y))(ap:i<4294967296)(ar:R<Y):b5 b3 281 #[bz ac hi,bz ac lo,bz ac y] w (FR (Q*4294967296+i) w):=by
 have bv:((y:Int)==0)=cc:=by simp;omega
 have bf:((hi:Int)==0)=cc:=by simp;omega
 have ao:=qZ av;go_enter func281,ntmps281;go_wp2_with fail;refine(ao _).mono ?_;rintro e w1⟨rfl,rfl⟩;go_upto_block 0 with fail;go_cut[15,16] (λx z az=>az=w1/\x=bz ac Q);case first=>
  go_wp2_with fail
  go_loop [15,16] (λx z=>∃q r:Nat,x=bz ac q/\z=bz ac r/\r<4294967296/\q<=18446744073709551615/\q*a+r=U/\Q<=q) (λx z=>(intOf x).toNat)
  case atStart=>exact⟨v,r1,rfl,rfl,aj.out.2.2,oZ,aj.out.1,aj.out.2.1⟩
  case round=>
   obtain⟨q,r,rfl,rfl,ay,ax,ah,J⟩:=hrel;have g:=qZ ah;have more:∀p:Nat,q*f=p->(4294967296<=q\/4294967296*r+u1<p)->Q<=q-1/\1<=q:=λp c af=>by subst c;have:=Dv.more (u:=u1) k.out g (by rw[<-m.out];exact aq) oZ af (by rw[<-m.out];exact J);rw[<-m.out]at this;exact this
   have done:q*f<=4294967296*r+u1->q=Q:=λh=>by have:=cD k.out g oZ h (by rw[<-m.out];exact J);rw[<-m.out]at this;exact this
   have brk:1<=q->Q<=q-1->4294967296<=r+a->q-1=Q:=λW X h=>by have j:=xE g W;have ab:=Dv.brk (u:=u1) k.out O j au h;have:=cD k.out j oZ ab (by rw[<-m.out];exact X);rw[<-m.out]at this;exact this
   have I:=qZ more;have T:=qZ done;have H:=qZ brk;have K:∀(h:4294967296<=r+a),decide ((4294967296:Int)<=(r:Int)+(a:Int))=cr:=λh=>by simp;omega
   have M:∀(h:¬4294967296<=r+a),decide ((4294967296:Int)<=(r:Int)+(a:Int))=cc:=λh=>by simp;omega
   by_cases Z:4294967296<=q
   .have ad:decide ((4294967296:Int)<=(q:Int))=cr:=by simp;omega
    have b:=qZ (I _ rfl (.inl Z));have N:1<=q:=oZ;by_cases d:4294967296<=r+a
    .have o:=K d;have l:=qZ d;go_wp2;go_meet;exact⟨rfl,b7 (by have:=H.out b.out.2 b.out.1 l;omega)⟩
    .have o:=M d;have ai:r+a<=4294967295:=oZ;go_wp2
     go_round
     case rel=>exact⟨q-1,r+a,b7 oZ,b7 oZ,oZ,oZ,xE g b.out.2,b.out.1⟩
     case measure=>simp[intOf];omega
   .have ag:q<4294967296:=oZ;have ad:decide ((4294967296:Int)<=(q:Int))=cc:=by simp;omega
    have al:=wrap_mul q f ag O;obtain⟨p,c⟩:=nZ (q*f);have aw:p<=18446744065119617025:=by rw[<-c];exact cx (show q<=4294967295 by omega) (show f<=4294967295 by omega)
    rw[c]at al;by_cases aa:4294967296*r+u1<p
    .have ae:decide ((4294967296:Int)*(r:Int)+(u1:Int)<(p:Int))=cr:=by simp;omega
     have b:=qZ (I _ c (.inr aa));have N:1<=q:=b.out.2;by_cases d:4294967296<=r+a
     .have o:=K d;have l:=qZ d;clear c;go_wp2;go_meet;exact⟨rfl,b7 (by have:=H.out b.out.2 b.out.1 l;omega)⟩
     .have o:=M d;have ai:r+a<=4294967295:=oZ;clear c;go_wp2
      go_round
      case rel=>exact⟨q-1,r+a,b7 oZ,b7 oZ,oZ,oZ,xE g b.out.2,b.out.1⟩
      case measure=>simp[intOf];omega
    .have ae:decide ((4294967296:Int)*(r:Int)+(u1:Int)<(p:Int))=cc:=by simp;omega
     have j:=qZ (T (by rw[c];omega));clear c;go_wp2;go_meet;exact⟨rfl,b7 (by rw[j.out])⟩
 case rest=>
  obtain⟨rfl,rfl⟩:=hcut;go_upto_block 2 with fail;go_cut[16,18] (λz x a0=>a0=wc/\x=bz ac i);case first=>
   go_wp2_with fail
   go_loop [16,18] (λx z=>∃q r:Nat,z=bz ac q/\x=bz ac r/\r<4294967296/\q<=18446744073709551615/\q*a+r=R/\i<=q) (λx z=>(intOf z).toNat)
   case atStart=>exact⟨F,r2,rfl,rfl,ak.out.2.2,oZ,ak.out.1,ak.out.2.1⟩
   case round=>
    obtain⟨q,r,rfl,rfl,ay,ax,ah,J⟩:=hrel;have g:=qZ ah;have more:∀p:Nat,q*f=p->(4294967296<=q\/4294967296*r+u0<p)->i<=q-1/\1<=q:=λp c af=>by subst c;have:=Dv.more (u:=u0) k.out g (by rw[<-n.out];exact ap) oZ af (by rw[<-n.out];exact J);rw[<-n.out]at this;exact this
    have done:q*f<=4294967296*r+u0->q=i:=λh=>by have:=cD k.out g oZ h (by rw[<-n.out];exact J);rw[<-n.out]at this;exact this
    have brk:1<=q->i<=q-1->4294967296<=r+a->q-1=i:=λW X h=>by have j:=xE g W;have ab:=Dv.brk (u:=u0) k.out O j ar h;have:=cD k.out j oZ ab (by rw[<-n.out];exact X);rw[<-n.out]at this;exact this
    have I:=qZ more;have T:=qZ done;have H:=qZ brk;have K:∀(h:4294967296<=r+a),decide ((4294967296:Int)<=(r:Int)+(a:Int))=cr:=λh=>by simp;omega
    have M:∀(h:¬4294967296<=r+a),decide ((4294967296:Int)<=(r:Int)+(a:Int))=cc:=λh=>by simp;omega
    by_cases Z:4294967296<=q
    .have ad:decide ((4294967296:Int)<=(q:Int))=cr:=by simp;omega
     have b:=qZ (I _ rfl (.inl Z));have N:1<=q:=oZ;by_cases d:4294967296<=r+a
     .have o:=K d;have l:=qZ d;go_wp2;go_meet;exact⟨rfl,b7 (by have:=H.out b.out.2 b.out.1 l;omega)⟩
     .have o:=M d;have ai:r+a<=4294967295:=oZ;go_wp2
      go_round
      case rel=>exact⟨q-1,r+a,b7 oZ,b7 oZ,oZ,oZ,xE g b.out.2,b.out.1⟩
      case measure=>simp[intOf];omega
    .have ag:q<4294967296:=oZ;have ad:decide ((4294967296:Int)<=(q:Int))=cc:=by simp;omega
     have al:=wrap_mul q f ag O;obtain⟨p,c⟩:=nZ (q*f);have aw:p<=18446744065119617025:=by rw[<-c];exact cx (show q<=4294967295 by omega) (show f<=4294967295 by omega)
     rw[c]at al;by_cases aa:4294967296*r+u0<p
     .have ae:decide ((4294967296:Int)*(r:Int)+(u0:Int)<(p:Int))=cr:=by simp;omega
      have b:=qZ (I _ c (.inr aa));have N:1<=q:=b.out.2;by_cases d:4294967296<=r+a
      .have o:=K d;have l:=qZ d;clear c;go_wp2;go_meet;exact⟨rfl,b7 (by have:=H.out b.out.2 b.out.1 l;omega)⟩
      .have o:=M d;have ai:r+a<=4294967295:=oZ;clear c;go_wp2
       go_round
       case rel=>exact⟨q-1,r+a,b7 oZ,b7 oZ,oZ,oZ,xE g b.out.2,b.out.1⟩
       case measure=>simp[intOf];omega
     .have ae:decide ((4294967296:Int)*(r:Int)+(u0:Int)<(p:Int))=cc:=by simp;omega
      have j:=qZ (T (by rw[c];omega));clear c;go_wp2;go_meet;exact⟨rfl,b7 (by rw[j.out])⟩
  case rest=>obtain⟨rfl,rfl⟩:=hcut;go_wp2;go_ret2;exact⟨⟨_,rfl⟩,⟨0,rfl⟩⟩
theorem lz(y:Nat)(f:y<=18446744073709551615)(s:Nat)(hs:s<64)(b:2 ^ (63-s)<=y)(c:y/2 ^ (63-s)=1)(w:b2):b5 b3 296 #[bz ac y] w λe w'=>e=bO s/\w'=w:=by refine(Tryz.bits_LeadingZeros64 (y:Int) w oZ oZ).mono λe w' ⟨d,hw⟩=>⟨d.trans (fT ?_),hw⟩;have a:=Lib.bitLen_shift (63-s) y b (by show _<18446744073709551616;omega);rw[c,show Lib.bitLen 1=1 from by decide+kernel]at a;rw[Int.toNat_natCast,a];omega
theorem LY(n m:Nat)(h:n=m)(b:m<=18446744073709551615)(x:Int)(a:x=(n:Int)):IntKind.u64.wrap x=(m:Int):=by subst h a;exact L.wrap_small ac rfl _ (by show _<18446744073709551616;omega)
theorem uY(x:Int)(m:Nat)(h:x%18446744073709551616=(m:Int)):IntKind.u64.wrap x=(m:Int):=by rw[IntKind.wrap_u64,h]
theorem aeF(Y:Nat)(h:Y<=18446744073709551615):cw .and ac (Y:Int) 4294967295=((Y%4294967296:Nat):Int):=by rw[show(4294967295:Int)=((4294967295:Nat):Int)from rfl,rH ac rfl Y 4294967295 (by show _<18446744073709551616;omega) dZ];rw[show(4294967295:Nat)=2 ^ 32-1 from rfl,Nat.and_two_pow_sub_one_eq_mod]
theorem aG(U u Y a d:Nat)(f:Y=a*cq+d)(k:d<cq)(l:2147483648<=a)(n:a<4294967296)(c:u<4294967296)(e:U<Y)(i:Y<=18446744073709551615):∃q m r Q:Nat,(U:Int)/(a:Int)=(q:Int)/\q<=18446744073709551615/\IntKind.u64.wrap ((q:Int)*(a:Int))=(m:Int)/\m<=U/\(U:Int)-(m:Int)=(r:Int)/\Hid (q*a+r=U/\Q<=q/\r<4294967296)/\Hid (Q=(U*cq+u)/Y)/\Q<4294967296:=by
 have g:U/a*a<=U:=Nat.div_mul_le_self _ _;have b:=jI U a;have j:=jO U (show 0<a by omega);refine⟨U/a,U/a*a,U%a,(U*cq+u)/Y,oZ,?_,?_,g,?_,⟨?_,Dv.start f c oZ,oZ⟩,rfl,Dv.small e c⟩
 .have:=cm U a;omega
 .exact LY (U/a*a) _ rfl oZ _ (by rw[cg])
 .rw[dW]at b;omega
 .rw[dW]at b;exact b
theorem ajz(hi lo y:Nat)(W:0<hi)(o:hi<y)(Z:lo<=18446744073709551615)(p:y<=18446744073709551615)(w:b2):b5 b3 281 #[bz ac hi,bz ac lo,bz ac y] w (FR ((hi*18446744073709551616+lo)/y) w):=by
 obtain⟨s,hs,n1,n2,ae,r,al,af,b,ag⟩:=Dv.norm hi lo y o oZ oZ;obtain⟨Y,g⟩:=nZ (y*2 ^ s);obtain⟨U,f⟩:=nZ (hi*2 ^ s+lo/2 ^ (64-s));obtain⟨L,d⟩:=nZ (lo*2 ^ s%18446744073709551616);rw[g]at ae r b;rw[f]at b;have aj:L<18446744073709551616:=by rw[<-d];exact jO _ oZ
 have i:Y=Y/4294967296*cq+Y%4294967296:=by unfold cq;omega
 have k:Y%4294967296<cq:=jO _ dZ;obtain⟨ah,ab,r1,Q,u,v,x,z,A,F,c,H⟩:=aG U (L/4294967296) Y (Y/4294967296) (Y%4294967296) i k oZ oZ oZ b oZ;have a:=Dv.left U (L/4294967296) Y Q r oZ c.out.symm;obtain⟨R,n⟩:=nZ ((U*cq+L/4294967296)%Y);rw[n]at a;obtain⟨ai,ad,r2,l,I,J,K,M,N,O,m,T⟩:=aG R (L%4294967296) Y (Y/4294967296) (Y%4294967296) i k oZ oZ oZ a.2 oZ;have aa:Q*4294967296+l=(hi*18446744073709551616+lo)/y:=by
  have j:=Dv.both U (L/4294967296) (L%4294967296) Y oZ;rw[<-c.out,n,<-m.out]at j;rw[<-shifted _ y s,ag,f,d,g];have e:U*(cq*cq)+(L/4294967296*cq+L%4294967296)=U*18446744073709551616+L:=by unfold cq;omega
  rw[e]at j;exact j
 rw[<-aa];have am:(2:Nat) ^ s=(2:Nat) ^ s:=rfl;refine ags hi lo y s Y (Y/4294967296) (Y%4294967296) U L (L/4294967296) (L%4294967296) ah ab r1 Q (U*4294967296%18446744073709551616) (Q*Y%18446744073709551616) R ai ad r2 l W o Z p w hs
  (λw=>lz y p s hs n1 n2 w) ?_ oZ oZ oZ (aeF Y oZ) ?_ ?_ oZ (aeF L oZ) oZ oZ u v x z oZ A F c H i b k
  ?_ ?_ ?_ ?_ I J K M oZ N O m T a.2
 .exact LY _ _ g oZ _ (by rw[cg,ck];rfl)
 .have e1:IntKind.u64.wrap ((hi:Int)*2 ^ s)=((hi*2 ^ s:Nat):Int):=LY _ _ rfl oZ _ (by rw[cg,ck];rfl);have e2:((lo:Int)/2 ^ (64-s))=((lo/2 ^ (64-s):Nat):Int):=by rw[Int.natCast_ediv,ck];rfl
  have ak:lo/2 ^ (64-s)<=lo:=cm _ _;rw[e1,e2,sM ac rfl _ _ (by show _<18446744073709551616;omega) (by show _<18446744073709551616;omega),<-f];congr 1;rw[dW];exact(iW af _).symm
 .refine uY _ _ ?_;rw[<-d,Int.natCast_emod,cg,ck];rfl
 .refine uY _ _ ?_;omega
 .omega
 .refine uY _ _ ?_;rw[Int.natCast_emod,cg];rfl
 .refine uY _ _ ?_;have X:=a.1;unfold cq at X;generalize Q*Y=QY at*;omega
theorem adK(lo y:Nat)(e:0<y)(b:lo<=18446744073709551615)(g:y<=18446744073709551615)(w:b2):b5 b3 281 #[bz ac 0,bz ac lo,bz ac y] w (FR (lo/y) w):=by
 have f:((y:Int)==0)=cc:=by simp;omega
 obtain⟨q,a⟩:=nZ (lo/y);have c:q<=lo:=by rw[<-a];exact cm _ _
 have d:IntKind.u64.wrap ((lo:Int)/(y:Int))=(q:Int):=LY _ _ a oZ _ (by rw[Int.natCast_ediv]);rw[a];clear a;go_enter func281,ntmps281;go_wp2;go_quiet (fail);go_wp2;go_ret2;exact⟨⟨_,rfl⟩,⟨_,rfl⟩⟩
theorem ajA(hi lo y:Nat)(b:hi<y)(a:lo<=18446744073709551615)(c:y<=18446744073709551615)(w:b2):b5 b3 281 #[bz ac hi,bz ac lo,bz ac y] w (FR ((hi*18446744073709551616+lo)/y) w):=by
 rcases jF hi with h|h
 .subst h;rw[kP,aO];exact adK lo y b a c w
 .exact ajz hi lo y h b a c w
theorem aoN(b:Nat)(w:b2):b5 b3 246 #[bz ac 0,bz ac b] w λe w'=>e=bO (bz ac (b9 0 b))/\∃n,w'=w.drewN n:=by go_enter func246,ntmps246;go_wp2;go_ret;exact⟨rfl,⟨0,rfl⟩⟩
theorem anO(a b:Nat)(f:0<a)(h:b<=a/4294967296):b9 a b=b0:=by
 unfold b9;rw[aF (Nat.pos_iff_ne_zero.1 f)];rcases jF b with g|c
 .rw[aI g]
 .rw[aF (Nat.pos_iff_ne_zero.1 c)];have e:b*4294967296<=a:=bC (dD _ h) (Nat.div_mul_le_self a 4294967296);have d:18446744073709551616<=a*b8/b:=(Nat.le_div_iff_mul_le c).2 (by have:=dD b8 e;unfold b8 at*;omega);exact WL (aM dZ d)
theorem alj(a b:Nat)(c:0<a)(d:a<=18446744073709551615)(h:a/4294967296<b):(a/4294967296*18446744073709551616+a*4294967296%18446744073709551616)/b=b9 a b/\b9 a b<=18446744073709551615:=by
 have e:a/4294967296*18446744073709551616+a*4294967296%18446744073709551616=a*4294967296:=oZ;have f:a*4294967296/b<18446744073709551616:=by rw[kC oZ];have:(a/4294967296+1)*18446744073709551616<=b*18446744073709551616:=dD _ h;rw[dW 18446744073709551616 b];omega
 unfold b9;rw[aF oZ,aF oZ,e,zK (by unfold b0 b8;omega)];exact⟨rfl,by unfold b8;omega⟩
theorem ajS(a b:Nat)(f:a<=b0)(g:b<=b0)(w:b2):b5 b3 246 #[bz ac a,bz ac b] w λe w'=>e=bO (bz ac (b9 a b))/\∃n,w'=w.drewN n:=by
 unfold b0 at f g;rcases jF a with c|c
 .subst c;exact aoN b w
 have s:((a:Int)==0)=cc:=by simp;omega
 by_cases h:b<=a/4294967296
 .have hv:=qZ (anO a b c h);have i:decide ((b:Int)<=(a:Int)/4294967296)=cr:=by simp;omega
  clear h;go_enter func246,ntmps246;go_wp2;go_ret;exact⟨fT (by rw[hv.out];rfl),⟨0,rfl⟩⟩
 .have j:=alj a b c f oZ;have i:decide ((b:Int)<=(a:Int)/4294967296)=cc:=by simp;omega
  have d:∀w:b2,b5 b3 281 #[bz ac (a/4294967296:Nat),bz ac (a*4294967296%18446744073709551616:Nat),bz ac b] w (FR (b9 a b) w):=λw=>by rw[<-j.1];exact ajA _ _ b oZ oZ g w
  obtain⟨hi,k⟩:=nZ (a/4294967296);obtain⟨lo,l⟩:=nZ (a*4294967296%18446744073709551616);rw[k,l]at d;have e1:(a:Int)/4294967296=(hi:Int):=oZ;have e2:IntKind.u64.wrap ((a:Int)*4294967296)=(lo:Int):=uY _ _ oZ;have u:decide (b<=hi)=cc:=by simp;omega
  clear i;have o:=qZ d;clear d j k l h;go_enter func246,ntmps246;go_wp2_with fail;refine(o _).mono ?_;rintro e w1⟨⟨r,rfl⟩,n,m⟩;have p:=qZ m;clear m;go_wp2;go_ret;exact⟨rfl,⟨n,p⟩⟩
theorem aoH(a b:Nat)(c:a<=b0)(d:b<=b0)(w:b2):b5 b3 239 #[bz ac a,bz ac b] w λe w'=>e=bO (bz ac (b9 a b))/\∃n,w'=w.drewN n:=by have i:=qZ (λw=>ajS a b c d w);unfold b0 at c d;go_enter func239,ntmps239;go_wp2_with fail;refine(i.out _).mono ?_;rintro e w1⟨rfl,n,f⟩;have g:=qZ f;clear f;go_wp2;go_ret;exact⟨rfl,⟨n,g⟩⟩
theorem ael(a:Int):∃m:Nat,max a 0=(m:Int)/\a.toNat=m:=⟨a.toNat,oZ,rfl⟩
theorem XV(a b:Int)(l: -9223372036854775808<=a)(o:a<=9223372036854775807)(p: -9223372036854775808<=b)(r:b<=9223372036854775807)(w:b2):b5 b3 213 #[a,b] w λe w'=>e=bO (bz ac (uU a b))/\∃n,w'=w.drewN n:=by
 obtain⟨m,v,d⟩:=ael a;obtain⟨k,s,c⟩:=ael b;have x:m<=9223372036854775807:=oZ;have u:k<=9223372036854775807:=oZ;have j:=qZ (λw=>ajS m k (by unfold b0;omega) (by unfold b0;omega) w);have hv:uU a b=b9 m k:=by unfold uU;rw[d,c]
 have i:=qZ hv;clear hv d c;go_enter func213,ntmps213;go_wp2_with fail;refine(j.out _).mono ?_;rintro e w1⟨rfl,n,f⟩;have g:=qZ f;clear f;go_wp2;go_ret;exact⟨fT (by rw[i.out]),⟨n,g⟩⟩
theorem or_one(n:Nat)(h:2*n+1<=18446744073709551615)(x:Int)(a:x=((2*n:Nat):Int)):cw .or ac x 1=((2*n+1:Nat):Int):=by subst a;rw[show(1:Int)=((1:Nat):Int)from rfl,sM ac rfl _ _ (by show _<18446744073709551616;omega) dZ];congr 1;exact(iW (i:=1) oZ _).symm
theorem akf(n:Nat)(h:n<=18446744073709551615):cw .and ac (n:Int) 1=((n%2:Nat):Int):=by rw[show(1:Int)=((1:Nat):Int)from rfl,rH ac rfl _ _ (by show _<18446744073709551616;omega) dZ,Nat.and_one_is_mod]
theorem afF(a b k:Nat)(s:a<=18446744073709551615)(i:0<b)(u:b<=18446744073709551615)(l:k<96):∃r2 r3 f β:Nat,IntKind.u64.wrap ((ca a k%b:Nat)*2:Int)=(r2:Int)/\((95-k<32/\r3=r2)\/(32<=95-k/\(cw BinOp.and ci ((a:Int)/2 ^ (95-k-32)) 1==1)=cc/\r3=r2)\/(32<=95-k/\(cw BinOp.and ci ((a:Int)/2 ^ (95-k-32)) 1==1)=cr/\cw BinOp.or ci (r2:Int) 1=(r3:Int)))/\((decide ((9223372036854775808:Int)<=((ca a k%b:Nat):Int))=cr/\IntKind.u64.wrap ((r3:Int)-(b:Int))=(f:Int)/\β=1)\/(decide ((9223372036854775808:Int)<=((ca a k%b:Nat):Int))=cc/\decide (b<=r3)=cr/\IntKind.u64.wrap ((r3:Int)-(b:Int))=(f:Int)/\β=1)\/(decide ((9223372036854775808:Int)<=((ca a k%b:Nat):Int))=cc/\decide (b<=r3)=cc/\f=r3/\β=0))/\ca a (k+1)/b=2*(ca a k/b)+β/\ca a (k+1)%b=f:=by
 have hs:=abu a k l;have x:=jO (ca a k) i;obtain⟨t,d⟩:=nZ (ca a (k+1)%2);rw[d]at hs;have p:t<2:=by rw[<-d];exact jO _ oZ
 have g:=amD (ca a k) b t i p;rw[<-hs]at g;have j:∀h:32<=95-k,cw BinOp.and ci ((a:Int)/2 ^ (95-k-32)) 1=(t:Int):=λh=>by
  have e:=anU a k oZ;rw[d]at e;have e2:((a:Int)/2 ^ (95-k-32))=((a/2 ^ (63-k):Nat):Int):=by rw[Int.natCast_ediv,ck,show 95-k-32=63-k by omega];rfl
  have w:a/2 ^ (63-k)<=a:=cm _ _;rw[e2,akf _ oZ,e]
 have o:¬32<=95-k->t=0:=λh=>by rw[<-d];exact anS a k oZ l
 generalize ca a k%b=r at*;generalize ca a k/b=q at*;have m:∃r2,2*r%18446744073709551616=r2/\r2%2=0:=⟨_,rfl,oZ⟩;obtain⟨r2,m,v⟩:=m;refine⟨r2,r2+t,if b<=2*r+t then 2*r+t-b else 2*r+t,if b<=2*r+t then 1 else 0,uY _ _ oZ,?_,?_,g.1,g.2⟩
 .by_cases h:32<=95-k
  .rcases(show t=0\/t=1 by omega)with n|c
   .refine .inr (.inl ⟨h,?_,oZ⟩);rw[j h,n];rfl
   .refine .inr (.inr ⟨h,?_,?_⟩)
    .rw[j h,c];rfl
    .rw[c];have:=or_one (r2/2) oZ (r2:Int) oZ;rw[this];omega
  .exact .inl ⟨oZ,by have:=o h;omega⟩
 .by_cases y:9223372036854775808<=r
  .have c:b<=2*r+t:=oZ;refine .inl ⟨by simp;omega,?_,aI c⟩;rw[aI c];exact uY _ _ oZ
  .have e:r2=2*r:=oZ;by_cases c:b<=2*r+t
   .refine .inr (.inl ⟨by simp;omega,by simp;omega,?_,aI c⟩);rw[aI c];exact uY _ _ oZ
   .exact .inr (.inr ⟨by simp;omega,by simp;omega,by rw[aF c];omega,aF c⟩)
theorem alE(a b:Nat)(m:a<=b0)(y:0<b)(A:b<=b0)(w:b2):b5 b3 218 #[bz ac a,bz ac b] w λe w'=>e=bO (bz ac (cC (a*b8/b)))/\w=w':=by
 have Z:=aln a m;have Q:=anT a;unfold b0 at m A;obtain⟨V,j⟩:=nQ (cC (a*b8/b));have O:∀k,k<96->9223372036854775808<=ca a k/b->V=b0:=λk d h=>by rw[<-j.out];exact alD a b k d h
 have W:∀q,ca a 96/b=q->q<=18446744073709551615->V=q:=λq M N=>by rw[<-j.out,<-Q,M];exact zK N
 rw[j.out];have s:=qZ Z;have I:=qZ O;have J:=qZ W;have H:=qZ (λk d=>afF a b k m y A d);go_enter func218,ntmps218;go_wp2
 go_loop [5,6,7] (λx z i=>∃k q r:Nat,k<=96/\i=bz cA (95-(k:Int))/\x=bz ac q/\z=bz ac r/\q<=18446744073709551615/\r<=18446744073709551615/\ca a k/b=q/\ca a k%b=r) (λ_ _ i=>(intOf i+1).toNat)
 case atStart=>exact⟨0,0,0,oZ,rfl,rfl,rfl,oZ,oZ,by rw[s.out,Nat.zero_div],by rw[s.out,Nat.zero_mod]⟩
 case round=>
  obtain⟨k,q,r,d,rfl,rfl,rfl,Y,ai,n,F⟩:=hrel;by_cases f:k<96
  .obtain⟨r2,r3,ab,β,L,l,c,u,v⟩:=H.out k f;rw[F]at L c;rw[n]at u;have aj:ab<b:=by rw[<-v];exact jO _ y
   have ak:β<=1:=by rcases c with h|h|h<;>omega
   have K:=qZ n;have ae:=qZ F;have o:=qZ u;have p:=qZ v;obtain⟨i,hi⟩:=nZ (95-k);rw[hi]at l;have ag:(95:Int)-(k:Int)=(i:Int):=oZ;have af:i<=95:=oZ;clear hi;by_cases T:9223372036854775808<=q
   .have ad:decide ((9223372036854775808:Int)<=(q:Int))=cr:=by simp;omega
    have hv:=qZ (I k f (by rw[K.out];exact T));rcases l with⟨c1,rfl⟩|⟨c2,c3,rfl⟩|⟨c2,c3,c4⟩<;>rcases c with⟨d1,d2,rfl⟩|⟨d1,d2,d3,rfl⟩|⟨d1,d2,rfl,rfl⟩
    all_goals
     go_wp2;go_ret;exact⟨fT (by rw[hv.out];rfl),rfl⟩
   .have ad:decide ((9223372036854775808:Int)<=(q:Int))=cc:=by simp;omega
    have ah:q<=9223372036854775807:=oZ;have X:cw BinOp.or ci ((q:Int)*2) 1=((2*q+1:Nat):Int):=or_one q oZ _ oZ;obtain⟨aa,g⟩:=nQ (2*q+1);rw[g.out]at X;rcases l with⟨c1,rfl⟩|⟨c2,c3,rfl⟩|⟨c2,c3,c4⟩<;>rcases c with⟨d1,d2,rfl⟩|⟨d1,d2,d3,rfl⟩|⟨d1,d2,rfl,rfl⟩
    all_goals
     go_wp2
     go_round
     case rel=>first|exact⟨k+1,aa,_,f,b7 oZ,rfl,rfl,by have:=g.out;omega,oZ,by rw[o.out];have:=g.out;omega,p⟩|exact⟨k+1,2*q,_,f,b7 oZ,b7 oZ,rfl,oZ,oZ,o,p⟩
     case measure=>simp[intOf];omega
  .obtain rfl:k=96:=by omega
   have hv:=qZ (J q n Y);go_wp2;go_ret;exact⟨fT (by rw[hv.out]),rfl⟩
theorem aml(a b:Nat)(c:a<=b0)(d:b<=b0):eP b3 168 #[bz ac a,bz ac b] (bz ac (cy a b)):=.of_eq λw=>aek a b c d w
theorem zN(a b:Nat)(c:a<=b0)(d:b<=b0):eP b3 169 #[bz ac a,bz ac b] (bz ac (ct a b)):=.of_eq λw=>aoU a b c d w
theorem arh(a b:Nat)(c:a<=b0)(d:b<=b0):eP b3 239 #[bz ac a,bz ac b] (bz ac (b9 a b)):=.FE λw=>aoH a b c d w
theorem gof(n:Int)(a: -9223372036854775808<=n)(b:n<=9223372036854775807):eP b3 20 #[n] (bz ac (ch n)):=.of_eq λw=>FH n a b w
theorem apI(a b:Int)(c: -9223372036854775808<=a)(d:a<=9223372036854775807)(e: -9223372036854775808<=b)(f:b<=9223372036854775807):eP b3 213 #[a,b] (bz ac (uU a b)):=.FE λw=>XV a b c d e f w
theorem AA(a b:Nat)(c:a<=b0)(d:b<=b0):eP b3 219 #[bz ac a,bz ac b] (bz ac (ct a b)):=.of_eq λw=>afs a b c d w
theorem ard(n:Int)(a: -9223372036854775808<=n)(b:n<=9223372036854775807):eP b3 177 #[n] (bz ac (ch n)):=.of_eq λw=>aii n a b w
theorem aqO(a b:Nat)(f:a<=b0)(g:b<=b0):eP b3 175 #[bz ac a,bz ac b] (bz ac (b9 a b)):=by
 refine .of_eq λw=>?_;by_cases c:a=0
 .subst c;go_enter func175,ntmps175;go_wp2;go_ret;exact⟨rfl,rfl⟩
 have k:((a:Int)==0)=cc:=by simp;omega
 by_cases d:b=0
 .have hv:=qY (b9 a b=18446744073709551615) (by rw[b9,aF c,aI d];rfl);have j:((b:Int)==0)=cr:=by simp;omega
  go_enter func175,ntmps175;go_wp2;go_ret;exact⟨fT (by rw[hv.out];rfl),rfl⟩
 .have hv:=qY (b9 a b=cC (a*b8/b)) (by rw[b9,aF c,aF d]);have j:((b:Int)==0)=cc:=by simp;omega
  have i:=qZ (λw=>alE a b f oZ g w);go_enter func175,ntmps175;go_wp2_with fail;refine(i.out _).mono ?_;rintro e w1⟨rfl,rfl⟩;go_wp2;go_ret;exact⟨fT (by rw[hv.out]),rfl⟩
end rM
namespace agV
open Go.RowKit L
def aqU:Array cE:=#[bz ac 3037000499,bz ac 3611622602,bz ac 3938502375,bz ac 4112874772,bz ac 4202935002,bz ac 4248701964,bz ac 4271771996,bz ac 4283353945,bz ac 4289156689,bz ac 4292061009,bz ac 4293513906,bz ac 4294240539,bz ac 4294603902,bz ac 4294785595,bz ac 4294876444,bz ac 4294921869]
def apg:cE:=.agg aqU
theorem ahw(k:Nat)(h:k<16):∀w:b2,(Instr.index 279 apg (bz cA (k:Int))).run b3 w=.ok (bz ac (cI k:Int)) w:=by
 have:k=0\/k=1\/k=2\/k=3\/k=4\/k=5\/k=6\/k=7\/k=8\/k=9\/k=10\/k=11\/k=12\/k=13\/k=14\/k=15:=by omega
 rcases this with rfl|rfl|rfl|rfl|rfl|rfl|rfl|rfl|rfl|rfl|rfl|rfl|rfl|rfl|rfl|rfl<;>(intro w;kernel_rfl)
theorem ahv(w:b2):b5 b3 214 #[] w λe w'=>e=bO apg/\Below w w w':=by go_enter func214,ntmps214;go_wp2;go_returns;exact⟨rfl,kp⟩
theorem aoR(f i:Nat)(d:f<65536)(hi:i<=15):(cw BinOp.and ci (f:Int) (IntKind.u64.wrap (2 ^ i)) !=0)=decide (f/2 ^ i%2=1):=by
 have b:(2:Nat) ^ i<=2 ^ 15:=Nat.pow_le_pow_right oZ hi;have c:(2:Nat) ^ 15=32768:=dZ;have e1:IntKind.u64.wrap (2 ^ i)=((2 ^ i:Nat):Int):=by have e:((2:Int) ^ i)=((2 ^ i:Nat):Int):=sZ;rw[e];exact L.wrap_small ci rfl (2 ^ i) (by show _<18446744073709551616;omega)
 rw[e1,rH ci rfl _ _ (by show _<18446744073709551616;omega) (by show _<18446744073709551616;omega),<-Nat.testBit_eq_decide_div_mod_eq];by_cases h:f.testBit i=cr
 .have:f&&& 2 ^ i≠0:=λe=>by have:=dB (λn:Nat=>n.testBit i) e;simp only[Nat.testBit_and,h,Nat.testBit_two_pow_self,Bool.and_self,Nat.zero_testBit]at this;cases this
  rw[h,bne_iff_ne];omega
 .have:f&&& 2 ^ i=0:=by
   apply Nat.eq_of_testBit_eq;intro j;rw[Nat.testBit_and,Nat.testBit_two_pow,Nat.zero_testBit];by_cases a:i=j
   .subst a;simp[h]
   .simp[a]
  rw[this];simp at h;rw[h];rfl
theorem agl(aJ aG:Int)(M: -9223372036854775808<=aJ)(N:aJ<=9223372036854775807)(Q: -9223372036854775808<=aG)(T:aG<=9223372036854775807)(w:b2):b5 b3 165 #[aJ,aG] w λe w'=>e=bO (bz ac (vK aJ aG:Int))/\Below w w w':=by
 obtain⟨a,W,g⟩:∃a:Nat,max aJ 0=(a:Int)/\max aJ 0=(a:Int):=⟨(max aJ 0).toNat,oZ,oZ⟩;obtain⟨h,Z,l⟩:∃h:Nat,max aG 1=(h:Int)/\max aG 1=(h:Int):=⟨(max aG 1).toNat,oZ,oZ⟩;have ad:0<h:=oZ;have Y:a<=9223372036854775807:=oZ;have aa:h<=9223372036854775807:=oZ;obtain⟨q,I⟩:∃q:Nat,(a:Int)/(h:Int)=(q:Int):=⟨a/h,sZ⟩;have af:q<=9223372036854775807:=by have:(a:Int)/(h:Int)<=(a:Int):=Int.ediv_le_self _ oZ;omega
 obtain⟨r,K⟩:∃r:Nat,(a:Int)%(h:Int)=(r:Int):=⟨a%h,sZ⟩;have ag:r<h:=by have:=Int.emod_lt_of_pos (a:Int) (show(0:Int)<h by omega);omega
 have hv:vK aJ aG=cd (PY r h) 16/2 ^ q:=by unfold vK Dec.fac;rw[g,l,K,I];simp
 have n:63<q->vK aJ aG=0:=λae=>by unfold vK;rw[g,l];exact aoB _ _ oZ
 clear g l;have d:=qZ hv;have v:=qZ n;clear hv n;by_cases J:63<q
 .go_enter func165,ntmps165;go_wp2_with fail;go_ret;exact⟨fT (by rw[v.out J];rfl),aK _ _⟩
 have u:=rM.apI (r:Int) (h:Int) oZ oZ oZ oZ;have o:=aoy (r:Int) (h:Int) oZ oZ;have L:=abq (r:Int) (h:Int) oZ oZ;obtain⟨F,hF⟩:=nZ (uU (r:Int) (h:Int));obtain⟨f,j⟩:=nZ (PY (r:Int) (h:Int));have O:(F:Int)/65536=(f:Int):=by rw[<-j,<-hF];unfold PY;omega
 rw[hF]at u L;rw[j]at o d;clear hF j;go_enter func165,ntmps165;go_wp2_with fail;refine(u _).mono ?_;rintro e w1⟨rfl,z⟩;go_wp2_with fail;refine(ahv _).mono ?_;rintro e ah⟨rfl,A⟩;go_wp2_with fail
 go_loop [6,24] (λx i=>∃k:Nat,k<=16/\i=bz cA (k:Int)/\x=bz ac (cd f k:Int)) (λ_ i=>16-(intOf i).toNat)
 case atStart=>exact⟨0,oZ,rfl,rfl⟩
 case round=>
  obtain⟨k,ab,rfl,rfl⟩:=hrel;by_cases H:k<16
  .have hi:=ahw k H;have c:=zH f k;unfold b8 at c;have m:=aoR f (15-k) o oZ;have p:=rM.aml (cd f k) (cI k) (by unfold b0;omega) (amW k);have s:∀w:b2,b5 b3 168 #[bz ac (cd f k:Int),bz ac (cI k:Int)] w λe w'=>e=bO (bz ac (cy (cd f k) (cI k):Nat))/\w=w':=λw=>rM.aek _ _ (by unfold b0;omega) (amW k) w;by_cases b:f/2 ^ (15-k)%2=1
   .have hs:=qY (cd f (k+1)=cy (cd f k) (cI k)) (by show cF _ _ _=_;unfold cF;rw[aI b]);rw[decide_eq_true b]at m;clear b p;go_wp2_with fail;refine(s _).mono ?_;rintro e ai⟨rfl,rfl⟩;go_wp2_with fail
    go_round
    case rel=>exact⟨k+1,oZ,mZ,by rw[hs.out]⟩
    case measure=>simp[intOf];omega
   .have hs:=qY (cd f (k+1)=cd f k) (by show cF _ _ _=_;unfold cF;rw[aF b]);rw[dS b]at m;clear b p s;go_wp2_with fail
    go_round
    case rel=>exact⟨k+1,oZ,mZ,by rw[hs.out]⟩
    case measure=>simp[intOf];omega
  .obtain rfl:k=16:=by omega
   have c:=zH f 16;unfold b8 at c;obtain⟨X,y⟩:=nZ (cd f 16);rw[y]at c d⊢;go_wp2_with fail;go_ret;exact⟨fT (by rw[d.out];simp),aA z A⟩
end agV
namespace oQ
open Go.RowKit L EM
theorem amJ{a b:ByteArray}(h:a≠b):(a.toList==b.toList)=cc:=by rw[beq_eq_false_iff_ne];intro e;rw[ByteArray.toList_eq,ByteArray.toList_eq]at e;exact h (ByteArray.ext (Array.toList_inj.1 e))
def xR:List (List UInt8)->Nat
 |[]=>0
 |x::xs=>1+x.length+xR xs
def few(xs:List (List UInt8)):Bool:=decide (xR xs<60000)&&decide (xs.length<=60)
def QM(w:b2)(j g n:Nat):Prop:=Blk w j 296 #[b1 g,(n:Int)]
end oQ
variable{g i j m n:Nat}{L':Nat->Prop}{w w':b2}
namespace oQ
open Go.RowKit L EM oU
theorem yN{B:Nat}{L G:Nat->Prop}{d:Dsk.D}(o:Own B L w g d)(k:aL G w w')(e:∀i,G i->L i\/i<B)(f:∀i,L' i->L i\/(w:Nat)<=i):Own B L' w' g d:=by
 obtain⟨F,v1,v2,h,hF⟩:=o;refine⟨F,v1,v2,h.bA k λi hi j=>?_,λi hi=>⟨(hF i hi).1,λl=>?_⟩⟩
 .have a:=hF i hi;rcases e i j with b|b
  .exact a.2 b
  .omega
 .have a:=hF i hi;have b:=h.ltF i hi;rcases f i l with c|c
  .exact a.2 c
  .omega
theorem alC{B:Nat}{L:Nat->Prop}{d:Dsk.D}(o:Own B L w g d)(a:∀i,L' i->L i):Own B L' w g d:=yN o (aL.refl (λ_=>False) w) (λ_ h=>h.elim) (λi h=>.inl (a i h))
structure xA (B:Nat) (L:Nat->Prop) (w:World) (j g m:Nat) (l:List UInt8) (n:Nat):Prop where
 own:Own B (λk=>L k\/k=j) w g (Jou.clean m l)
 bV:QM w j g n
 low:B<=j
 apart:¬L j
theorem QM.lt(h:QM w j g n):j<(w:Nat):=Blk.lt h
theorem aoo{L:Nat->Prop}(a:Live L w)(b:j<(w:Nat)):Live (λk=>L k\/k=j) w:=λk c=>by
 rcases c with h|rfl
 .exact a k h
 .exact b
theorem VJ{B:Nat}{L:Nat->Prop}(h:Room B (λk=>L k\/k=j) i):Room B L i:=⟨h.1,λa=>h.2 (.inl a)⟩
theorem OV{B:Nat}{L:Nat->Prop}:¬Room B (λk=>L k\/k=j) j:=λh=>h.2 (.inr rfl)
theorem xA.bA{B:Nat}{L G:Nat->Prop}{l:List UInt8}(h:xA B L w j g m l n)(k:aL G w w')(b:∀i,G i->L i\/i<B):xA B L w' j g m l n:=
 ⟨h.own.bA k λi hi=>(b i hi).imp .inl id,Blk.bA h.bV k (λc=>by
  rcases b j c with a|a
  .exact h.apart a
  .have:=h.low;omega),h.low,h.apart⟩
theorem xA.below{B:Nat}{L:Nat->Prop}{l:List UInt8}(h:xA B L w j g m l n)(k:Below w w w'):xA B L w' j g m l n:=h.bA (G:=λ_=>False) (aL.bQ k) (λ_ h=>h.elim)
theorem xA.more{B:Nat}{L G:Nat->Prop}{l:List UInt8}(h:xA B L w j g m l n)(k:aL G w w')(b:∀i,G i->L i\/i<B)(c:∀i,L' i->L i\/(w:Nat)<=i):xA B L' w' j g m l n:=by
 have d:=h.bA k b;refine⟨yN h.own k (λi hi=>(b i hi).imp .inl id) λi hi=>?_,d.bV,h.low,λe=>?_⟩
 .rcases hi with hi|hi
  .exact(c i hi).imp .inl id
  .exact .inl (.inr hi)
 .rcases c j e with a|a
  .exact h.apart a
  .have:=QM.lt h.bV;omega
theorem apQ(s:ByteArray)(hs:s.size<=cs):eP b3 227 #[cn s] (cn (str (cb s.data.toList))):=λw=>ajl s w hs
def LX(B:Nat)(L:Nat->Prop)(j g m:Nat)(l:List UInt8)(n:Nat)(s:List UInt8)(w:b2)(e:Ending)(w':b2):Prop:=e=bO (bz cA (yE m l s))/\xA B L w' j g m (JA m l s) (QG m l s n)/\aL (Room B L) w w'
theorem agN{B:Nat}{L:Nat->Prop}{l:List UInt8}(h:xA B L w j g m l n)(al:B<=(w:Nat))(ao:Live L w)(a5:n<=1048576)(s:ByteArray)(hs:s.size<=cs):b5 b3 188 #[b1 j,cn s] w λe w'=>LX B L j g m l n s.data.toList w e w':=by
 have aw:s.data.toList.length=s.size:=sZ;by_cases a0:16384<s.size
 .obtain⟨z,aj,ak⟩:=aoQ m l s.data.toList n oZ;have au:LX B L j g m l n s.data.toList w (bO (bz cA 8)) w:=⟨by rw[z],by rw[aj,ak];exact h,aL.refl _ _⟩;have p:=qZ au;unfold cs at hs;go_enter func188,ntmps188;go_wp2;go_ret;exact p
 .have aq:CV w j 0 (b1 g):=Blk.cell h.bV 0;have Z:=QM.lt h.bV;have ae:=qZ aq;have y:=qZ aw;have a8:s.size<=16384:=oZ;have ag:=qZ ao;have a:=qZ h;have ai:=apQ s hs;have av:(str (cb s.data.toList)).size<=cs:=by rw[nR,yA _ (by have:=y.out;omega)];have:=y.out;unfold cs;omega
  have af:=qZ av;have O:Hid (qG (b6 m l) (str (cb s.data.toList)).data.toList=decide (l.length+(cb s.data.toList).length<=m)):=qZ (by rw[mK];exact ZJ m l _);go_enter func188,ntmps188;go_wp2_with fail;refine jN 6 kZ kZ ?_;simp only[List.take_succ_cons,List.take_zero,aZ,bB];have ah:∀W,aD w W->CV W j 0 (b1 g):=λW b=>b.cell Z ae;(repeat refine kY ?_);refine kJ ai ?_;(repeat refine kY ?_);refine dP ?_;intro W b;have z:=a.below b;have Q:B<=(W:Nat):=bC al b.size;have T:Live (λk=>L k\/k=j) W:=aoo (ag.bA b.size) (aM Z b.size);have N:=qZ (aL.bQ (F:=Room B L) b);have aa:=qZ (aha z.own Q T (str (cb s.data.toList)) af);have M:=qZ z;by_cases r:l.length+(cb s.data.toList).length<=m
  .obtain⟨d,f,o⟩:=akd m l s.data.toList n (by have:=y.out;omega) r;have J:sI (b6 m l) (str (cb s.data.toList)).data.toList=0:=by unfold sI;rw[aI (by rw[O.out];simpa using r)]
   have ax:=qY (Dsk.sync (Dsk.write (b6 m l) (str (cb s.data.toList)).data.toList)=b6 m (l++cb s.data.toList)) (by rw[mK];exact aeW m l _ r);have u:=aa.out;rw[J]at u;have H:=qZ u;have A:=qZ (aC d (aC f o));go_wp2_with fail;refine H.mono ?_;rintro e v⟨rfl,K,c⟩;have X:QM v j g n:=Blk.bA M.bV c OV;have am:B<=(v:Nat):=bC Q c.size;have ap:=T.bA c.size;have an:=qZ (N.out.trans (c.mono λi _ hi=>VJ hi));have ay:=qZ (aaP K am ap);have ah:CV v j 0 (b1 g):=Blk.cell X 0;go_wp2_with fail;refine ay.out.mono ?_;rintro e x⟨rfl,ad,ab⟩;rw[ax.out]at ad;have I:QM x j g n:=Blk.bA X ab OV;have c1:CI x j 1 (n:Int):=Blk.cell I 1;have az:x.frozen? (j,1)=cc:=Blk.frozen I 1;have p:Hid (LX B L j g m l n s.data.toList w (bO (bz cA 0)) (x.setCell (j,1) (bz cA ((n:Int)+1)))):=qZ (by
    obtain⟨d,f,o⟩:=A.out;refine⟨by rw[d],?_,?_⟩
    .rw[f,o];refine⟨Own.bA ad (G:=λk=>k=j) (aqZ x j 1 _) λi hi=>.inl (.inr hi),?_,a.low,a.apart⟩;have:=Blk.bR I 1 (bz cA ((n:Int)+1));exact this
    .exact(an.out.trans (ab.mono λi _ hi=>VJ hi)).setCell (.inl ⟨a.low,a.apart⟩) _)
   go_wp2;go_ret;exact p
  .obtain⟨d,f,o⟩:=amP m l s.data.toList n (by have:=y.out;omega) r;have Y:qG (b6 m l) (str (cb s.data.toList)).data.toList≠cr:=by rw[O.out];simpa using r
   have J:sI (b6 m l) (str (cb s.data.toList)).data.toList=9:=by unfold sI;rw[aF Y]
   have ar:Dsk.write (b6 m l) (str (cb s.data.toList)).data.toList=b6 m l:=by unfold Dsk.write;rw[aF Y]
   have u:=aa.out;rw[J,ar]at u;have H:=qZ u;have A:=qZ (aC d (aC f o));go_wp2_with fail;refine H.mono ?_;rintro e v⟨rfl,K,c⟩;have p:Hid (LX B L j g m l n s.data.toList w (bO (bz cA 9)) v):=qZ (by obtain⟨d,f,o⟩:=A.out;refine⟨by rw[d],?_,N.out.trans (c.mono λi _ hi=>VJ hi)⟩;rw[f,o];exact⟨K,Blk.bA M.bV c OV,a.low,a.apart⟩);go_wp2;go_ret;exact p
end oQ
variable{v:cE}
namespace oQ
open Go.RowKit L EM oU
def WT(B:Nat)(L:Nat->Prop)(g m:Nat)(l:List UInt8)(w:b2)(e:Ending)(w':b2):Prop:=∃v j,e=bO (cp #[b1 (cl ⟨j,0,cu⟩),v])/\BX w' (w:Nat) v (cH l).1/\v.ownBlock≠cl j/\(w:Nat)<=j/\xA B (λk=>L k\/v.ownBlock=cl k) w' j g m (cz l) (cH l).1.length/\aL (Room B L) w w'
theorem abB{B:Nat}{L:Nat->Prop}{l:List UInt8}{a:b2}(j:B<=(w:Nat))(n:Live L w)(f:BX a (w:Nat) v (cH l).1)(o:Own B (λk=>L k\/v.ownBlock=cl k) a g (b6 m (cz l)))(b:aL (Room B L) w a):WT B L g m l w (bO (cp #[b1 a,v])) (a.alloc (.cells #[b1 g,((cH l).1.length:Int)] 296)):=by
 have c:Below a a (a.alloc (.cells #[b1 g,((cH l).1.length:Int)] 296)):=bZ;have d:¬v.ownBlock=cl (a:Nat):=λe=>by have:=(f.lt _ e).2;omega
 refine⟨v,(a:Nat),rfl,f.below c,d,b.size,⟨yN o (G:=λ_=>False) (aL.bQ c) (λ_ h=>h.elim) λi hi=>?_,Blk.new _ _ _,bC j b.size,?_⟩,b.alloc _⟩
 .rcases hi with hi|hi
  .exact .inl hi
  .right;omega
 .rintro(h|h)
  .have:=n _ h;have:=b.size;omega
  .exact d h
theorem alF{B:Nat}{L:Nat->Prop}{l:List UInt8}(o:Own B L w g (b6 m l))(z:B<=(w:Nat))(ai:Live L w):b5 b3 223 #[b1 g] w λe w'=>WT B L g m l w e w':=by
 have az:l.length<=1048576:=bC o.ok.1.1 o.ok.2;have al:=qZ (adN o);have ap:=λw=>akU l w oZ;have ag:=qZ ap;have ak:=afj l;have aq:=anD l;have W:=qZ (abA l);have ae:=qZ o;have u:=qZ ai;have av:=nR l;obtain⟨rs,b⟩:=nQ ((cH l).1);obtain⟨n,j⟩:=nQ ((cH l).2);have am:Hid (cz l=l.take n):=qZ (by rw[<-j.out];rfl);have M:=qZ av;rw[b.out,j.out]at ak;rw[j.out]at aq W;go_enter func223,ntmps223;go_wp2_with fail;refine al.out.mono ?_;rintro e a5⟨rfl,rfl⟩;go_wp2_with fail;refine(ag _).mono ?_;rintro e w1⟨v,rfl,c,p⟩;rw[b.out]at c;rw[j.out];obtain⟨A,y,rfl,_⟩:=c.form;have T:(rs.map vs).length=rs.length:=sZ;have ax:=qZ T;rw[T]at c⊢;have d:Own B (λk=>L k\/(cJ A rs.length y).ownBlock=cl k) w1 g (b6 m l):=yN ae (G:=λ_=>False) (aL.bQ p) (λ_ h=>h.elim) (λi hi=>hi.imp id λe=>(c.lt i e).1);have N:B<=(w1:Nat):=bC z p.size;have O:Live (λk=>L k\/(cJ A rs.length y).ownBlock=cl k) w1:=λk a=>by
  rcases a with h|h
  .exact aM (u k h) p.size
  .exact(c.lt k h).2
 have J:=qZ (aL.bQ (F:=Room B L) p);have x:=qZ c;by_cases I:n<l.length
 .have an:n<(str l).size:=by rw[M.out];exact I
  have Q:((str l).extract 0 n).data.toList=l.take n:=by rw[extract_eq,mK,mK];simp
  have X:=adu d N O ((str l).extract 0 n) (by have h:=dB List.length Q;simp only[bN]at h;have ay:((str l).extract 0 n).data.toList.length=((str l).extract 0 n).size:=sZ
                                              unfold cs;omega)
  rw[Q]at X;have ao:=d.ok.1.1;have ar:=qY (Dsk.sync (Dsk.replace (b6 m l) (l.take n))=b6 m (cz l)) (by rw[am.out];exact aaO m l _ (by simp only[bN];have:l.length<=m:=ao;omega));have af:=qZ X;go_wp2_with fail;refine af.mono ?_;rintro e ab⟨rfl,aw,r⟩;have ah:B<=(ab:Nat):=bC N r.size;have aj:=O.bA r.size;have au:=qZ (aaP aw ah aj);have ad:=qZ (J.out.trans (r.mono λi _ hi=>(⟨hi.1,λH=>hi.2 (.inl H)⟩:Room B L i)));have K:=qY (BX ab (w:Nat) (cv A rs.length y) rs) (x.bA λk a=>r.block k (x.out.lt k a).2 λh=>h.2 (.inr a));go_wp2_with fail;refine au.out.mono ?_;rintro e a0⟨rfl,aa,Z⟩;rw[ar.out]at aa;have f:=abB (l:=l) z u (by rw[b.out];exact K.bA λk a=>Z.block k (K.out.lt k a).2 λh=>h.2 (.inr a)) aa (ad.out.trans (Z.mono λi _ hi=>(⟨hi.1,λH=>hi.2 (.inl H)⟩:Room B L i)));rw[b.out]at f;have s:=qZ f;go_wp2;go_ret2;exact s
 .have an:¬n<(str l).size:=by rw[M.out];exact I
  have Y:=W.out I;rw[<-Y]at d;have f:=abB (l:=l) z u (by rw[b.out];exact x) (by rw[Y]at d⊢;exact d) J;rw[b.out]at f;have s:=qZ f;go_wp2;go_ret2;exact s
theorem ajY:(prog.info? 303).map (·.size)=cl 2:=by kernel_rfl
theorem aqc:(prog.info? 5).map (λi=>(i.zero,i.size,i.bytes))=cl (cl (bz .u8 0),1,1):=by kernel_rfl
theorem agA(b:Nat)(w:b2)(c:w.cell? (b,0)=cl (b1 b)):b5 b3 267 #[b1 b] w λe w'=>e=bO (cp #[])/\w'=w:=by
 obtain⟨j,a,_⟩:=Option.map_eq_some_iff.1 ajY;go_enter func267,ntmps267;go_wp2;rw[Lib.run_neq_ptr_same w _ underlying301 a];go_wp2
 go_end0
 exact⟨rfl,rfl⟩
theorem ajR(l:List UInt8)(s:ByteArray):b4 l++Lib.strCells s=b4 (l++s.data.toList):=by unfold b4 Lib.strCells;rw[dO]
end oQ
variable{v1:cE}{w1:b2}
namespace bT
open Go.RowKit L
theorem apb:liesAt b3 prog.depth 331 (2/prog.cellsOf 331) 0 303 1=cr:=by kernel_rfl
theorem agG:prog.cellsOf 5=1:=by kernel_rfl
structure wB (w:World) (b:Nat) (v:Value) (l:List UInt8):Prop where
 bV:∃p,(p=.pointer none\/p=.pointer b)/\Blk w b 331 #[p,v]
 row:fE w 0 5 v (Lib.byteCells l)
 ne:v.ownBlock≠some b
def oP(b:Nat)(v:cE)(i:Nat):Prop:=i=b\/v.ownBlock=cl i
def iZ(w:b2)(b:Nat)(v:cE)(l:List UInt8)(w':b2):Prop:=∃v',wB w' b v' l/\aL (oP b v) w w'/\∀i,oP b v' i->oP b v i\/(w:Nat)<=i
theorem wB.lt{b:Nat}{l:List UInt8}(h:wB w b v l):b<(w:Nat):=by obtain⟨p,_,a⟩:=h.bV;exact a.lt
theorem wB.foot{b:Nat}{l:List UInt8}(h:wB w b v l)(hi:oP b v i):i<(w:Nat):=by
 rcases hi with rfl|hi
 .exact h.lt
 .exact(h.row.lt i hi).2
theorem wB.below{b:Nat}{l:List UInt8}(h:wB w b v l)(a:Below w w w'):wB w' b v l:=by obtain⟨p,d,c⟩:=h.bV;exact⟨⟨p,d,c.below a c.lt⟩,h.row.below a,h.ne⟩
theorem iZ.after{b:Nat}{l:List UInt8}(c:aL (oP b v) w w1)(a:∀i,oP b v1 i->oP b v i\/(w:Nat)<=i)(h:iZ w1 b v1 l w'):iZ w b v l w':=by
 obtain⟨v',d,e,f⟩:=h;refine⟨v',d,c.trans' e λi hi g=>?_,λi hi=>?_⟩
 .rcases a i g with h|h
  .exact h
  .omega
 .rcases f i hi with h|h
  .exact a i h
  .exact .inr (bC c.size h)
theorem apa(w:b2):wB (w.alloc (.cells #[b1 cu,cr] 331)) (w:Nat) (cv cu 0 0) []:=⟨⟨_,.inl rfl,Blk.new _ _ _⟩,fE.nil _ _ _,λe=>by cases e⟩
theorem afE{l:List UInt8}(h:fE w 0 5 v (b4 l)):lM w 0 v l:=by
 have i:=cj l;have a:=h;unfold fE at a;rw[i]at a;rcases a.2 with⟨rfl,d⟩|⟨g,cap,cur,rfl,e,f,m,k,hs,n⟩
 .exact .inl ⟨rfl,fK d⟩
 .refine .inr ⟨g,cap,rfl,e,(h.lt g rfl).2,m,k,λj c=>?_,λj c=>?_⟩
  .have:=a.cells (g:=g) rfl j (bz .u8 (l[j].toNat:Int)) (by simp[b4,c]);rwa [addr_add]at this
  .have b:Blk w g 5 cur:=f;refine⟨?_,b.frozen j⟩;rw[b.cell j,bY oZ];rfl
theorem akW{l:List UInt8}(h:fE w 0 5 v (b4 l))(t:List UInt8)(n:l.length+t.length<=1000000):∃v' w',(Builtin.append_ #[239,9] 239 #[v,cn (str t)]).run b3 w=.ok v' w'/\fE w' 0 5 v' (b4 (l++t))/\w.grownBy w' v.ownBlock/\(∀k,v'.ownBlock=cl k->v.ownBlock=cl k\/(w:Nat)<=k):=by
 obtain⟨i0,hi,e,f,g⟩:=info_parts oQ.aqc;have j:=cj l;have d:(str t).size=t.length:=nR t;have m:Src b3 1 9 (cn (str t)) t.length (cellsOf t) w:=by have:=RN (P:=b3) (w:=w) cL (str t);rwa [d,mK]at this
 obtain⟨v1,w1,e1,_,_,e4⟩:=tY (l:=l) (new:=t) 239 9 239 5 i0 cG hi e f g (afE h) (bI _) m oZ;have b:=h;unfold fE at b;rw[j]at b;obtain⟨v2,o,a,c,i,_⟩:=Lib.run_append_own_string (P:=b3) w 0 239 9 239 5 i0 cG cL hi e f g v l.length _ b (str t) (by unfold cs;omega) oZ (bI _);rw[e1]at a;simp only[Result.ok.injEq]at a;obtain⟨rfl,rfl⟩:=a;refine⟨v1,w1,e1,?_,i,e4⟩;rw[oQ.ajR,mK,d]at c;unfold fE;rw[cj,aW];exact c
theorem aaB(b:Nat)(w:b2)(f:w.cell? (b,0)=cl (b1 cu))(c:w.shape? b=cl (331,2))(g:w.frozen? (b,0)=cc):b5 b3 267 #[b1 b] w λe w'=>e=bO (cp #[])/\w'=w.setCell (b,0) (b1 b):=by
 obtain⟨j,a,d⟩:=Option.map_eq_some_iff.1 oQ.ajY;go_enter func267,ntmps267;go_wp2;rw[Lib.run_to_unsafe w ⟨b,0,cu⟩ underlying301 underlying374 a (by rw[d];decide) c (Nat.zero_lt_succ 1)];simp only[co];rw[Oper.upon_value];go_wp2;rw[run_callFunc_extern func290 kZ kZ kZ (e:=Extern.AbiNoEscape.same) kZ];rw[Lib.run_noEscape];simp only[co];rw[Oper.upon_value];go_wp2;rw[Lib.run_from_unsafe w ⟨b,0,cu⟩ underlying374 underlying301 a c apb];simp only[co];rw[Oper.upon_value];go_wp2
 go_end0
 exact⟨rfl,rfl⟩
theorem aeO{b:Nat}{l:List UInt8}(h:wB w b v l):b5 b3 267 #[b1 b] w λe w'=>e=bO (cp #[])/\Blk w' b 331 #[b1 b,v]/\fE w' 0 5 v (b4 l)/\aL (λi=>i=b) w w'/\(w':Nat)=(w:Nat):=by
 obtain⟨p,d,a⟩:=h.bV;rcases d with rfl|rfl
 .have f:w.shape? b=cl (331,2):=by have:w.heap[b]? =cl (.cells #[b1 cu,v] 331 (0,0)):=a;simp[World.shape?,this]
  refine(aaB b w (a.cell 0) f (a.frozen 0)).mono ?_;rintro e w'⟨rfl,rfl⟩;refine⟨rfl,a.bR 0 _,h.row.bA λk c=>?_,(aL.refl (λi=>i=b) w).setCell (p:=⟨b,0,cu⟩) (.inl rfl) _,by simp[World.setCell]⟩;exact Below.heap_setCell w ⟨b,0,cu⟩ _ k (λe=>h.ne (by rw[<-show k=b from e];exact c))
 .refine(oQ.agA b w (a.cell 0)).mono ?_;rintro e w'⟨rfl,rfl⟩;exact⟨rfl,a,h.row,aL.refl _ _,rfl⟩
theorem aeL{b:Nat}{l:List UInt8}(h:wB w b v l)(t:List UInt8)(M:l.length+t.length<=1000000):b5 b3 232 #[b1 b,cn (str t)] w λe w'=>e=bO (cp #[bz cA (str t).size,.nilIface])/\iZ w b v (l++t) w':=by
 have r:=h.ne;have N:=qZ (λi=>h.foot (i:=i));have H:=qZ (aeO h);have n:=qZ (λ(w1:b2) (I:fE w1 0 5 v (b4 l))=>akW I t M);obtain⟨s,z⟩:=nQ (str t);rw[z.out]at n⊢;go_enter func232,ntmps232;go_wp2_with fail;refine H.out.mono ?_;rintro e w1⟨rfl,j,u,K,X⟩;obtain⟨v',d,e1,e2,e3,e4⟩:=n.out w1 u;have O:CV w1 b 0 (b1 b):=j.cell 0;have c1:CV w1 b 1 v:=j.cell 1;have g:=j.grown e3 (λe=>r e.symm);have Q:CV d b 0 (b1 b):=g.cell 0;have d1:CV d b 1 v:=g.cell 1;have T:d.frozen? (b,1)=cc:=g.frozen 1;have W:=j.lt;have o:v'.ownBlock≠cl b:=λe=>by
  rcases e4 b e with h|h
  .exact r h
  .omega
 have L:aL (oP b v) w d:=(K.mono λi _ hi=>.inl hi).trans (aL.jX e3 λi hi=>.inr hi);have y:=qY (iZ w b v (l++t) (d.setCell (b,1) v')) (⟨v',⟨⟨_,.inr rfl,g.bR 1 v'⟩,e2.bA λk J=>Below.heap_setCell d ⟨b,1,cu⟩ _ k λe=>o (by rw[<-show k=b from e];exact J),o⟩,L.setCell (p:=⟨b,1,cu⟩) (.inl (.inl rfl)) _,λi hi=>by
    rcases hi with hi|hi
    .exact .inl (.inl hi)
    .rcases e4 i hi with h|h
     .exact .inl (.inr h)
     .right;omega⟩)
 obtain⟨f,m,cap,rfl⟩:∃f m cap,v'=cv f m cap:=by obtain⟨a,c,e,_⟩:=e2.form;exact⟨_,_,_,e⟩
 obtain⟨A,n2,F,rfl⟩:∃f m cap,v=cv f m cap:=by obtain⟨a,c,e,_⟩:=u.form;exact⟨_,_,_,e⟩
 have x:=qZ e1;go_wp2_with(at_builtin;refine cK rfl _ _ _ _ rfl (cv A n2 F) (cn s) rfl rfl x ?_);go_ret2;exact⟨rfl,y⟩
theorem DT{b:Nat}{l:List UInt8}(h:wB w b v l)(c:l≠[]){B:Nat}(d:∀i,oP b v i->B<=i):b5 b3 235 #[b1 b] w λe w'=>e=bO (cn (str l))/\Below B w w':=by
 obtain⟨p,_,k⟩:=h.bV;have s:l.length≠0:=by simpa using c
 have a:=h.row;unfold fE at a;rw[cj]at a;obtain⟨g,cap,cur,rfl,_,n,H,m,F,I⟩:∃g cap cur,v=cv (cl ⟨g,0,cu⟩) l.length cap/\0<=g/\w.heap[g]? =cl (.cells cur 5 (0,0))/\l.length<=cap/\cap<=cs/\cur.size=cap*1/\cur.toList.take (l.length*1)=b4 l:=by
  rcases a.2 with⟨_,y⟩|⟨g,cap,cur,hv,r⟩
  .exact absurd y s
  .exact⟨g,cap,cur,hv,r⟩
 have f:B<=g:=d g (.inr rfl);have c1:w.drew.cell? (b,1)=cl (cv g l.length cap):=k.drew.cell 1;have z:(Builtin.unsafeSliceData_ #[239] 336 #[cv g l.length cap]).run b3 w.drew=.ok (b1 g) w.drew:=
  Lib.run_unsafeSliceData_row _ _ _ _ _ _ oZ
 have A:(Builtin.unsafeString_ #[336,3] 9 #[b1 g,l.length]).run b3 w.drew=.ok (cn (str l)) (w.drew.freeze ⟨g,0,cu⟩ l.length):=by refine Lib.run_unsafeString_row w.drew 336 3 9 5 underlying336 agG g cur.size (by have o:w.drew.heap[g]? =cl (.cells cur 5 (0,0)):=n;simp[World.shape?,o]) l c oZ (by unfold cs at m;omega) ?_;intro j x u;have:=a.cells (g:=g) rfl j (bz .u8 x.toNat) (by simp[b4,u]);exact this
 go_enter func235,ntmps235;go_wp2
 go_region
 (all_goals go_wp2;go_ret;exact⟨rfl,Lib.below_freeze (Below.drew (aK B w)) (p:=⟨g,0,cu⟩) f _⟩)
end bT
end Go.Proofs.YtedmeglbjmdlhaaGreatDoor
