/-
Parts of TopFirst.
-/
import Derived.WalkSpells
import Derived.WalkLawsBesides
import Derived.BigQuiet
import Derived.Handy
import Derived.StillTailTactics
import Derived.Test.YtedmeglbjmdlhaaGreatDoorF0
import Derived.Deep.Slices
import Derived.Deep.AppendSrc
import Derived.Test.YtedmeglbjmdlhaaGreatDoorRows
set_option maxRecDepth 100000
set_option maxHeartbeats 16000000
set_option linter.all false
open Go.Proofs.Tryz
namespace Go.Proofs.YtedmeglbjmdlhaaGreatDoor
open Option renaming some->ac,none->bc,map_some->ed,map_none->ef
open Go renaming World->ay,Value->az,TypeId->ba,Program->bg,Oper->bh,Calls->bt,yielded->b3,maxLen->b4,execOp->b8,getD_replicate_false->b9,ready_mono->cc,typeInfo->cd,bytesRow->cj,undef->co,TypeInfo->cz,sizeOf->cA,Exit->cE,wpList->cH,Addr->cM,wpList_plain->cN,IntKind->cP,step_scope->cQ,HeadInv->cS,Operand->cT,grownCap->cW,asIntOf->cX,run_append_own_at->da,FuncId->df,execOp_put->dg,wanted_put->dh,bits->dn,getD_set_ne->du,getD_both->dv,wp_region_any->dw,Next->dC,wpAny->ec,tail_waits->ek,info_parts->el,getD_in->er,resolve->eu,builtin->ew,wpAny_of_seq->eA,invoke->eI,convert->eJ,wpOp->eK
open Bool renaming true->a8,false->bi,and_eq_true->bq,or_eq_true->ei
open Go.Ending renaming returned->bb,returned->dm
open Crc renaming read->bd,sum->dd,bit->dt,pX->dx,back->ej,all->ey,frame->ez
open Go.Region renaming wanted->be,ready->bn,binds->bT,Mode->cn,seqB->cp,noSelect_spec->cu,chainB->cw,noSelect->cy,sinkB->cG,lexB->cV,free_spec->di,lexTailB->dp,waitsFor->eh
open Go.Value renaming slice->bf,string->bk,int->bo,pointer->bp,int->ck,bool->cr,tuple->cL
open Go.Builtin renaming append_->bj,zeroCells->cg,firstCells->cl,lenOf->dc
open Go.RowKit.Below renaming heap_setCell->bl,heap_alloc->dj
open Go.RowKit renaming Below->bm
open Go.Obj renaming cells->br
open Go.World renaming cell?_alloc_mark->bu,setCell->ch,cell?_of_block->cv,frozen?_of_block->cI,ownsRow_nil->dT,cell?->eE
open Go.MapKept renaming run_getObj_map->bw,run_setObj_map->ci,heap_set->eg
open Go.Proofs.Tryz renaming underlying239->bz,prog->b7,underlying9->cq,ntmps126->dz,underlying5->ea,func126->eb
open Go.Instr renaming slice->b0,sliceBounds->b1,sliceBound->b6,index->cU,sliceAt->cY,lookup->dl,checkKey->eo,sameBits->ep
open Go.Result renaming andThen_ok->b2
open List renaming length_cons->b5,length_nil->ee,range->eL
open Go.Sem renaming run_bind->ca,run_pure->ct
open Go.IntKind renaming i64->cb,signed->en
open _root_.Array renaming replicate->cm
open Go.Code renaming region->cx
open Dsk renaming D->cC,replace->cJ,write->de,free->dy,sync->eC,Ok->eN
open BitVec renaming ofInt->cD
open Go.Act renaming put_comm->cF
open Go.Oper renaming wp->cR,upon->dE
open Jou renaming scan->dk
open Ne renaming symm->dq
open Option.some renaming inj->ds,injEq->eM
open Go
open Crc Dsk EM Jou L Top bO oQ oU
theorem nQ{a:Sort _}(b:a):∃x,Go.RowKit.Hid (b=x):=⟨b,rfl⟩
namespace L
open Go.RowKit
theorem fT{k:cP}{a b:Int}(h:a=b):dm (bo k a)=bb (bo k b):=by rw[h]
theorem ret_val{k:cP}{a b:Int}(h:a=b):ck k a=bo k b:=by rw[h]
theorem gH{a b:Bool}(h:a=b):dm (cr a)=bb (cr b):=by rw[h]
theorem GR{a b:ByteArray}(h:a=b):dm (bk a)=bb (bk b):=by rw[h]
theorem toNat_ofInt(n a:Nat)(b:a<2 ^ n):(cD n (a:Int)).toNat=a:=by rw[BitVec.ofInt_natCast,BitVec.toNat_ofNat];exact Nat.mod_eq_of_lt b
theorem wrap_small(k:cP)(a:k.signed=bi)(n:Nat)(h:n<2 ^ k.bits):k.wrap (n:Int)=n:=by cases k<;>simp[en]at a<;>simp[IntKind.wrap,IntKind.bits,en]at* <;>omega
theorem yD(k:cP)(e:k.signed=bi)(a b:Nat)(c:a<2 ^ k.bits)(d:b<2 ^ k.bits):dn .xor k (a:Int) (b:Int)=((a ^^^ b:Nat):Int):=by show k.wrap ((cD k.bits (a:Int) ^^^ cD k.bits (b:Int)).toNat:Int)=_;rw[BitVec.toNat_xor,toNat_ofInt _ _ c,toNat_ofInt _ _ d];exact wrap_small k e _ (Nat.xor_lt_two_pow c d)
theorem rH(k:cP)(e:k.signed=bi)(a b:Nat)(d:a<2 ^ k.bits)(c:b<2 ^ k.bits):dn .and k (a:Int) (b:Int)=((a&&& b:Nat):Int):=by show k.wrap ((cD k.bits (a:Int)&&& cD k.bits (b:Int)).toNat:Int)=_;rw[BitVec.toNat_and,toNat_ofInt _ _ d,toNat_ofInt _ _ c];exact wrap_small k e _ (Nat.and_lt_two_pow _ c)
theorem sM(k:cP)(e:k.signed=bi)(a b:Nat)(c:a<2 ^ k.bits)(d:b<2 ^ k.bits):dn .or k (a:Int) (b:Int)=((a|||b:Nat):Int):=by show k.wrap ((cD k.bits (a:Int)|||BitVec.ofInt k.bits (b:Int)).toNat:Int)=_;rw[BitVec.toNat_or,toNat_ofInt _ _ c,toNat_ofInt _ _ d];exact wrap_small k e _ (Nat.or_lt_two_pow c d)
theorem tH{P:bg}(t:ba)(h:P.underlying t=ac .string)(s:ByteArray)(k:cP)(i:Nat)(hi:i<s.size)(w:ay):(cU t (bk s) (bo k (i:Int))).run P w=.ok (bo .u8 ((s[i]'hi).toNat:Int)) w:=by rw[run_index_string w t s k _ h,dif_pos ⟨oZ,oZ⟩];rfl
theorem MV{P:bg}(src a e:ba)(hs:P.underlying src=ac (.slice e))(f:P.underlying e=ac (.int .u8))(d:P.underlying a=ac .string)(w:ay)(vs:Array az)(t:ba)(l:List UInt8)(n cap:Nat)(hv:vs.toList=l.map λb=>ck .u8 (b.toNat:Int))(i:l.length=n):(eJ src a (bf w n cap)).run P (w.alloc (br vs t))=.ok (bk ⟨l.toArray⟩) (w.alloc (br vs t)):=by
 subst i;refine run_convert_bytes_back (w.alloc (br vs t)) src a e ⟨w,0,bc⟩ cap l hs f d λj g=>?_;have c:(⟨w,0,bc⟩:cM).add j=⟨(w:Nat),j,bc⟩:=by unfold Addr.add;split<;>simp_all
 rw[c,bu,<-dF,hv];simp[aH g]
theorem NP{P:bg}{f:df}{args:Array az}{w:ay}{n:Nat}{v:az}(h:bt P f args (w.drewN n) λe w'=>e=bb v/\w.drewN n=w'):bt P f args (w.drewN n) λe b=>e=bb v/\∃m,b=w.drewN m:=
 h.mono λ_ _ ⟨a,hm⟩=>⟨a,n,hm.symm⟩
theorem wO{B:Nat}{a w:ay}(h:bm B a w)(n:Nat):bm B a (w.drewN n):=⟨h.os,h.tape,h.output,h.size,h.block⟩
theorem aA{a b c:ay}(h:bm a a b)(k:bm b b c):bm a a c:=h.trans (k.mono h.size)
theorem afR{a b c:ay}{n:Nat}(h:bm a a b)(k:c=b.drewN n):bm a a c:=k▸wO h n
theorem zZ(a:ay):bm a a a:=aK _ _
def eP(P:bg)(f:df)(args:Array az)(v:az):Prop:=∀w:ay,bt P f args w λe w'=>e=bb v/\bm w w w'
theorem eP.of_eq{P:bg}{f:df}{args:Array az}{v:az}(h:∀w:ay,bt P f args w λe w'=>e=bb v/\w=w'):eP P f args v:=
 λw=>(h w).mono λ_ _ ⟨a,hw⟩=>⟨a,hw▸aK _ _⟩
theorem eP.FE{P:bg}{f:df}{args:Array az}{v:az}(h:∀w:ay,bt P f args w λe w'=>e=bb v/\∃n,w'=w.drewN n):eP P f args v:=
 λw=>(h w).mono λ_ _ ⟨a,n,hw⟩=>⟨a,afR (aK _ _) hw⟩
theorem eP.val{P:bg}{f:df}{args:Array az}{v v':az}(h:eP P f args v)(e:v=v'):eP P f args v':=e▸h
def str(l:List UInt8):ByteArray:=⟨l.toArray⟩
theorem mK(l:List UInt8):(str l).data.toList=l:=rfl
theorem nR(l:List UInt8):(str l).size=l.length:=rfl
theorem GH(a b:List UInt8):str a++str b=str (a++b):=by apply ByteArray.ext;simp[str]
theorem extract_eq(s:ByteArray)(a b:Nat):s.extract a b=str ((s.data.toList.drop a).take (b-a)):=by apply ByteArray.ext;apply Array.toList_inj.1;simp[str,List.extract_eq_take_drop]
theorem uM{P:bg}{id:Nat}{Q:cE->Act->ay->Prop}{a:Act}{w:ay}{l:List bh}(n:Nat)(c:P.follows .mixedOrders=a8)(b:dp .any l.toArray n=a8)(h:wpStill P l.toArray w.drew (λa'=>cH P l.toArray Q (l.drop n) a' w.drew) (l.take n) a):(cx id l.toArray a8).wp P Q a w:=
 wp_region_still_tail n c b h
def jumps(J:Nat->Act->ay->Prop)(Q:cE->Act->ay->Prop):cE->Act->ay->Prop
 |.goto l,a,w=>J l a w
 |e,a,w=>Q e a w
section
variable {P:bg} {a:Act} {w:ay} {Q:cE->Act->ay->Prop} {J:Nat->Act->ay->Prop}
theorem YR:jumps J Q .ret a w=Q .ret a w:=rfl
theorem QS{c:Code}(J:Nat->Act->ay->Prop)(μ:Nat->Act->ay->Nat)(first:c.wp P (jumps J Q) a w)(L:∀l a w,J l a w->∃rest,findLabel c l=ac rest/\rest.wp P (jumps (λm a' w'=>J m a' w'/\μ m a' w'<μ l a w) Q) a w):(Code.scope c).wp P Q a w:=by
 intro b k cs;have K:∀n l a w,μ l a w=n->J l a w->∃j,gotoIn l (.inScope c::k)=ac j/\∃e a' w',Q e a' w'/\Arrives P (lone (b.at a j) cs w) b k cs e a' w':=by
  intro n;induction n using Nat.strongRecOn with
  |_ n I=>
   intro l a w N z;obtain⟨rest,F,H⟩:=L l a w z;refine⟨.code rest:: .inScope c::k,by simp[gotoIn,F],?_⟩;obtain⟨e,d,i,g,f⟩:=H b (.inScope c::k) cs;cases e with
   |normal=>exact⟨.normal,d,i,g,Steps.trans f (.one step_inScope)⟩
   |exit id=>exact⟨.exit id,d,i,g,λj u=>f j (by simp[exitTo,u])⟩
   |goto m=>
    obtain⟨A,M⟩:=g;obtain⟨j,s,p,o,x,v,r⟩:=I _ oZ m d i rfl A;exact⟨p,o,x,v,.of_steps (f _ s) r⟩
   |ret=>exact⟨_,d,i,g,f⟩
   |panic y=>exact⟨_,d,i,g,f⟩
   |outgrown=>exact⟨_,d,i,g,f⟩
 obtain⟨e,d,i,g,f⟩:=first b (.inScope c::k) cs
 cases e with
 |normal=>exact⟨.normal,d,i,g,.head cQ (Steps.trans f (.one step_inScope))⟩
 |exit id=>exact⟨.exit id,d,i,g,λj u=>.head cQ (f j (by simp[exitTo,u]))⟩
 |goto m=>
  obtain⟨j,s,p,o,x,v,r⟩:=K _ m d i rfl g;exact⟨p,o,x,v,.of_steps (.head cQ (f _ s)) r⟩
 |ret=>exact⟨_,d,i,g,.of_steps (.one cQ) f⟩
 |panic y=>exact⟨_,d,i,g,.of_steps (.one cQ) f⟩
 |outgrown=>exact⟨_,d,i,g,.of_steps (.one cQ) f⟩
end
end L
variable{a:Act}{Q:cE->Act->ay->Prop}{n:Nat}{w:ay}
namespace L
open Go.RowKit
theorem abo{P:bg}{id:Nat}{l:List bh}(c:P.follows .mixedOrders=a8)(b:cV .any l.toArray=a8)(h:wpStill P l.toArray w.drew (λa'=>Q .normal a' w.drew) l a):(cx id l.toArray a8).wp P Q a w:=
 wp_region_still_lit c b h
theorem kp{a b:ay}(h:bm n a b:=by(repeat' (first|(with_reducible exact aK _ _)|(with_reducible assumption)|(with_reducible refine Below.alloc ?_ ?_ _)|(with_reducible refine wO ?_ _)|(with_reducible refine Below.drew ?_)|(with_reducible refine Below.setCell ?_ ?_ _)|(with_reducible refine Below.frame ?_ _)|go_size))):bm n a b:=h
open Go.WideShapes
def gF{α:Type}(w:ay)(A:Option cM)(sz:Nat)(dec:α->List az)(xs:List α):Prop:=xs≠[]->∃b o,A=ac ⟨b,o,bc⟩/\b<(w:Nat)/\∀i x,xs[i]? =ac x->∀j v,(dec x)[j]? =ac v->w.cell? ⟨b,o+i*sz+j,bc⟩=ac v
theorem gF.below{α:Type}{w w':ay}{A:Option cM}{sz:Nat}{dec:α->List az}{xs:List α}(h:gF w A sz dec xs)(a:bm w w w'):gF w' A sz dec xs:=λf=>by obtain⟨b,o,e,c,d⟩:=h f;exact⟨b,o,e,aM c a.size,λi x g j v hv=>(a.cell (p:=⟨b,o+i*sz+j,bc⟩) c).trans (d i x g j v hv)⟩
section
variable {H:Type} {enc:ba×az->H} {P:bg} {w:ay} {base:Nat} {kE:Nat->Bool} {held:Bool}
theorem open_row{α:Type}{t e:ba}{fuel:Nat}{cs:List az}{x:DataW H×List MemPlace}{sz:Nat}(dec:α->List az)(Q:α->DataW H->Prop)(ag:P.underlying t=ac (.slice e))(af:P.cellsOf e=sz)(ab:0<sz)(hel:∀n cs y,DataW.trod enc P w base kE held n e cs=ac y->∃x,cs=dec x/\Q x y.1)(h:DataW.trod enc P w base kE held fuel t cs=ac x):∃A cap,∃xs:List α,cs=[bf A xs.length cap]/\xs.length<=cap/\cap<=b4/\gF w A sz dec xs/\(xs=[]\/∃s kE,x.1=.slice s kE/\s.length=xs.length/\∀y∈xs,∃d∈s,Q y d):=by
 rcases Go.Deep.open_slice ag h with⟨rfl,_⟩|⟨a,len,cap,m,n,D,al,rfl,an,T,Y,Z,rfl,p⟩
 .exact⟨bc,0,[],rfl,bG _,bI _,λh=>absurd rfl h,.inl rfl⟩
 .have ar:len<=m:=by rw[Z];split<;>omega
  have I:∀i,i<len->∃x:α,w.cells? base (a.add (i*sz)) sz=ac (dec x)/\Q x (D i):=λi hi=>by obtain⟨am,c,J⟩:=p i oZ;rw[af]at c;obtain⟨x,rfl,ad⟩:=hel _ _ _ J;exact⟨x,c,ad⟩
  have F:∀k,k<=len->∃xs:List α,xs.length=k/\(∀i x,xs[i]? =ac x->w.cells? base (a.add (i*sz)) sz=ac (dec x)/\Q x (D i)):=by
   intro k;induction k with
   |zero=>exactλ_=>⟨[],rfl,λi x h=>by simp at h⟩
   |succ k ak=>
    intro ap;obtain⟨xs,g,r⟩:=ak oZ;obtain⟨x,ai,aj⟩:=I k oZ;refine⟨xs++[x],by simp[g],λi y l=>?_⟩;rcases fI i k with hi|hi
    .rw[cO oZ]at l;exact r i y l
    .have:i=k:=by
      rcases fI i (k+1)with c|c
      .omega
      .rw[eH (by simp[g];omega)]at l;cases l
     subst this;rw[dK oZ,g,Nat.sub_self]at l;cases l;exact⟨ai,aj⟩
  obtain⟨xs,g,r⟩:=F len lZ;subst g;refine⟨ac a,cap,xs,rfl,T,Y,λaa=>?_,.inr ⟨_,_,rfl,sZ,λx p=>?_⟩⟩
  .have W:0<xs.length:=oF.2 aa;obtain⟨ao,aq,u⟩:=World.cells?_some (r 0 xs[0] (aH W)).1;rw[kP]at u;obtain⟨b,o,spot⟩:=a;have f:=u 0 ab;have K:(({block:=b,off:=o,spot:=spot}:cM).add 0).add 0=⟨b,o,spot⟩:=rfl;rw[K]at f;have z:0<(dec xs[0]).length:=oZ;obtain⟨au,ah⟩:∃v,(dec xs[0])[0]? =ac v:=⟨(dec xs[0])[0]'z,aH z⟩;rw[ah]at f;have ae:spot=bc:=by
    unfold eE at f;split at f
    .split at f
     .cases f
     .rename_i hs;simpa using hs
    .cases f
   subst ae;refine⟨b,o,rfl,?_,λi x p j v hv=>?_⟩
   .have:=f;rcases fI b (w:Nat)with X|M
    .exact X
    .unfold eE at this;rw[jA M]at this;simp at this
   .obtain⟨_,g,L⟩:=World.cells?_some (r i x p).1;have O:j<sz:=by
     rcases fI j (dec x).length with c|c
     .omega
     .rw[eH c]at hv;cases hv
    have:=L j O;have e:((⟨b,o,bc⟩:cM).add (i*sz)).add j=⟨b,o+i*sz+j,bc⟩:=by unfold Addr.add;split<;>split<;>simp_all
    rw[e]at this;rw[this,hv]
  .obtain⟨i,hi⟩:=List.getElem?_of_mem p;have N:i<xs.length:=by
    rcases fI i xs.length with c|c
    .exact c
    .rw[eH c]at hi;cases hi
   exact⟨D i,bU.2 ⟨i,by simpa using N,rfl⟩,(r i x hi).2⟩
end
open Go.RowKit
section
variable {P:bg} {ops:Array bh} {md:cn} {I:ay->Prop}
def xM(P:bg)(I:ay->Prop)(v:az):Result dC->Prop
 |.ok (.value u) W=>u=v/\I W
 |.ok .skip W=>v=co/\I W
 |.ok (.enter f args) W=>I W/\bt P f args W (λe W'=>e=bb v/\I W')
 |_=>False
theorem SI(v u:az)(W:ay):xM P I v (.ok (.value u) W)=(u=v/\I W):=rfl
theorem VX(v:az)(W:ay):xM P I v (.ok .skip W)=(v=co/\I W):=rfl
theorem SK(v:az)(f:df)(args:Array az)(W:ay):xM P I v (.ok (.enter f args) W)=(I W/\bt P f args W λe W'=>e=bb v/\I W'):=rfl
def xQ(P:bg)(I:ay->Prop)(o:bh)(a:Act)(v:az):Prop:=∀W,I W->xM P I v ((b8 a.eval o).run P W)
def wE(P:bg)(ops:Array bh)(I:ay->Prop)(Q:Act->Prop):List bh->Act->Prop
 |[],a=>Q a
 |o::rest,a=>if be o (b3 ops a.tmps)then∃v,xQ P I o a v/\wE P ops I Q rest (a.put o.dst v)else wE P ops I Q rest (a.put o.dst co)
structure rJ (P:Program) (ops:Array Oper) (I:World->Prop) (Q:Act->Prop) (l:List Oper) (a:Act):Prop where
 out:wE P ops I Q l a
theorem dP{Q:Act->Prop}{a:Act}(h:Q a):rJ P ops I Q [] a:=⟨h⟩
theorem QU{Q:Act->Prop}{a a':Act}{o:bh}{rest:List bh}(v:az)(c:be o (b3 ops a.tmps)=a8)(h:xQ P I o a v)(b:a.put o.dst v=a')(k:rJ P ops I Q rest a'):rJ P ops I Q (o::rest) a:=by subst b;refine⟨?_⟩;unfold wE;rw[aI c];exact⟨v,h,k.out⟩
theorem ahf{Q:Act->Prop}{a a':Act}{o:bh}{rest:List bh}(c:be o (b3 ops a.tmps)=bi)(b:a.put o.dst co=a')(k:rJ P ops I Q rest a'):rJ P ops I Q (o::rest) a:=by subst b;refine⟨?_⟩;unfold wE;rw[aF (by rw[c];decide)];exact k.out
def rC(P:bg)(ops:Array bh)(I:ay->Prop)(i:Nat)(K:Act->Prop)(a:Act):Prop:=
 match ops[i]? with
 |none=>K a
 |some o=>if be o (b3 ops a.tmps)then∃v,xQ P I o a v/\K (a.put o.dst v)else K (a.put o.dst co)
theorem YP{i:Nat}{a:Act}{K c:Act->Prop}(h:∀a,K a->c a)(b:rC P ops I i K a):rC P ops I i c a:=by
 unfold rC at*;split
 .exact h _ (by simpa[*]using b)
 .rename_i o ho;simp only[ho]at b;split
  .rename_i hw;simp only[hw,if_true]at b;obtain⟨v,d,e⟩:=b;exact⟨v,d,h _ e⟩
  .rename_i hw;simp only[hw]at b;exact h _ b
def JV(P:bg)(md:cn)(ops:Array bh)(I:ay->Prop)(Q:Act->Prop):Nat->Array Bool->Act->Prop
 |0,listed,a=>bn md ops listed=[]/\Q a
 |fuel+1,listed,a=>
  (bn md ops listed=[]->Q a)/\
  ∀i∈bn md ops listed,rC P ops I i (JV P md ops I Q fuel (listed.setIfInBounds i a8)) a
theorem JU{i:Nat}{a:Act}{W:ay}{K:Act->Prop}{k:Act->ay->Prop}{Q':cE->Act->ay->Prop}(j:I W)(h:∀a W,K a->I W->k a W)(b:rC P ops I i K a):eK P ops Q' i k a W:=by
 unfold rC at b;unfold eK;split
 .rename_i ho;simp only[ho]at b;exact h _ _ b j
 .rename_i o ho;simp only[ho]at b;split
  .rename_i hw;simp only[hw,if_true]at b;obtain⟨v,l,d⟩:=b;refine .inl ?_;have c:=l W j;unfold cR;generalize(b8 a.eval o).run P W=r at*;cases r with
   |ok n w'=>
    cases n<;>simp only[xM]at c<;>simp only[dE]
    case value u=>obtain⟨rfl,g⟩:=c;exact h _ _ d g
    case skip=>obtain⟨rfl,g⟩:=c;exact h _ _ d g
    case enter f args=>exact c.2.mono λe p ⟨m,hw⟩=>by subst m;exact h _ _ d hw
   |halt x w'=>simp only[xM]at c
  .rename_i hw;simp only[hw]at b;exact h _ _ b j
theorem JI{Q:Act->Prop}{Q':cE->Act->ay->Prop}(c:∀a W,Q a->I W->Q' .normal a W):∀(fuel:Nat) (listed:Array Bool) (a:Act) (W:ay),I W->JV P md ops I Q fuel listed a->ec P md ops Q' fuel listed a W
 |0,_,_,_,b,h=>⟨h.1,c _ _ h.2 b⟩
 |fuel+1,_,_,_,b,h=>⟨λd=>c _ _ (h.1 d) b,λi hi=>JU b (λa' W' k e=>JI c fuel _ a' W' e k) (h.2 i hi)⟩
def qV(P:bg)(ops:Array bh)(I:ay->Prop)(o:bh)(v:az)(a:Act):Prop:=(be o (b3 ops a.tmps)=a8/\xQ P I o a v)\/(be o (b3 ops a.tmps)=bi/\v=co)
theorem qV.rC{i:Nat}{o:bh}{v:az}{a:Act}(hi:ops[i]? =ac o)(c:qV P ops I o v a){K:Act->Prop}(h:K (a.put o.dst v)):rC P ops I i K a:=by
 unfold L.rC;simp only[hi];rcases c with⟨b,hv⟩|⟨b,rfl⟩
 .simp only[b,if_true];exact⟨v,hv,h⟩
 .simp only[b,jG,if_false];exact h
theorem CZ{i:Nat}{o:bh}{a:Act}{K:Act->Prop}(hi:ops[i]? =ac o)(h:rC P ops I i K a):∃v,qV P ops I o v a/\K (a.put o.dst v):=by
 unfold rC at h;simp only[hi]at h;by_cases b:be o (b3 ops a.tmps)=a8
 .simp only[b,if_true]at h;obtain⟨v,c,d⟩:=h;exact⟨v,.inl ⟨b,c⟩,d⟩
 .simp only[b]at h;exact⟨co,.inr ⟨by simpa using b,rfl⟩,h⟩
theorem qV.of_same{o:bh}{v:az}{a a':Act}(d:qV P ops I o v a)(b:b8 a'.eval o=b8 a.eval o)(c:be o (b3 ops a'.tmps)=be o (b3 ops a.tmps)):qV P ops I o v a':=by unfold qV xQ at*;rw[b,c];exact d
theorem abK{j:Nat}{c d:bh}{v:az}(n:ops[j]? =ac d)(m:c.apart ops d=a8)(p:∀cs b,c.op≠.select cs b)(r:∀cs b,d.op≠.select cs b){K:Act->Prop}{a:Act}(e:qV P ops I c v a)(h:rC P ops I j K (a.put c.dst v)):rC P ops I j (λa'=>qV P ops I c v a'/\K (a'.put c.dst v)) a:=by
 obtain⟨f,g,i⟩:=Oper.apart_spec m;have l:∀(a:Act),qV P ops I c v a->∀u,qV P ops I c v (a.put d.dst u):=λa e u=>
  e.of_same (dg c p a d.dst u i) (dh c a d.dst u i)
 unfold rC at*;simp only[n]at*;rw[dh d a c.dst v f]at h;split
 .rename_i hw;simp only[hw,if_true]at h;obtain⟨u,k,o⟩:=h;refine⟨u,?_,l a e u,by rw[<-cF a v u g];exact o⟩;unfold xQ at*;rw[dg d r a c.dst v f]at k;exact k
 .rename_i hw;simp only[hw]at h;exact⟨l a e _,by rw[<-cF a v co g];exact h⟩
theorem aaw{Q:Act->Prop}{i:Nat}{l:bh}{v:az}(hi:ops[i]? =ac l)(z:∀(j:Nat) (o:bh) cs b,ops[j]? =ac o->o.op≠.select cs b):∀(fuel:Nat) (listed:Array Bool) (a:Act),(∀j g,ops[j]? =ac g->j≠i->listed.getD j a8=bi->(∀e∈g.after,bT md e=a8->e.on≠i)->l.apart ops g=a8)->i∈bn md ops listed->qV P ops I l v a->JV P md ops I Q fuel (listed.setIfInBounds i a8) (a.put l.dst v)->JV P md ops I Q (fuel+1) listed a:=by
 intro fuel;induction fuel with
 |zero=>
  intro listed a _ f n H;refine⟨λh=>(by rw[h]at f;cases f),λj m=>?_⟩;by_cases c:j=i
  .subst c;exact n.rC hi H
  .have:=cc m c;rw[H.1]at this;cases this
 |succ fuel Y=>
  intro listed a w f n H;refine⟨λh=>(by rw[h]at f;cases f),λj m=>?_⟩;by_cases c:j=i
  .subst c;exact n.rC hi H
  .have d:=H.2 j (cc m c);obtain⟨y,g,r,J⟩:=mem_ready.1 m;have X:∀e∈g.after,bT md e=a8->e.on≠i:=λe L K M=>by
    have d:=J e L K;have s:=(mem_ready.1 f).1;rw[M]at d;rcases fI i listed.size with p|p
    .simp[p]at s d;rw[s]at d;cases d
    .simp[jA p]at d
   have F:=abK r (w j g r c y X) (λcs b=>z i l cs b hi) (λcs b=>z j g cs b r) n d;have N:∀k ok,ops[k]? =ac ok->k≠i->(listed.setIfInBounds j a8).getD k a8=bi->
     (∀e∈ok.after,bT md e=a8->e.on≠i)->l.apart ops ok=a8:=λk ok O T A W=>by
    refine w k ok O T ?_ W;by_cases x:j=k
    .subst x;exact y
    .rw[du a8 x]at A;exact A
   refine YP (λa' u=>Y (listed.setIfInBounds j a8) a' N (cc f (dq c)) u.1 ?_) F;rw[jK _ _ c];exact u.2
theorem QW{Q:Act->Prop}(hs:cy ops=a8):∀(l:List bh) (k:Nat) (listed:Array Bool) (a:Act),(∀j,l[j]? =ops[k+j]?)->Region.lexFrom md ops l.length k listed=a8->wE P ops I Q l a->JV P md ops I Q l.length listed a
 |[],_,_,_,_,c,h=>⟨by simpa[Region.lexFrom]using c,h⟩
 |o::l,k,listed,a,d,c,h=>by
  have b:ops[k]? =ac o:=by simpa using(d 0).symm
  simp only[b5,Region.lexFrom,bq]at c;obtain⟨⟨i,g⟩,e⟩:=c;have m:rC P ops I k (wE P ops I Q l) a:=by unfold rC;simp only[b];exact h
  obtain⟨v,n,f⟩:=CZ b m;exact aaw b (cu hs) l.length listed a (di b g) (by simpa using i) n
   (QW hs l (k+1) _ _ (λj=>by have:=d (j+1);simpa[iY,jT 1 j]using this) e f)
theorem UQ{id:Nat}{Q:cE->Act->ay->Prop}{a:Act}{w:ay}(e:P.follows .mixedOrders=a8)(b:cV .any ops=a8)(c:I w.drew)(h:wE P ops I (λa'=>∀W,I W->Q .normal a' W) ops.toList a):(cx id ops a8).wp P Q a w:=by simp only[cV,bq]at b;refine dw e (JI (I:=I) (Q:=λa'=>∀W,I W->Q .normal a' W) (λ_ W h d=>h W d) _ _ _ _ c ?_);have:=QW (md:=.any) b.1 ops.toList 0 (cm ops.size bi) a sZ (by simpa using b.2) h;simpa using this
end
def aD(wb W:ay):Prop:=bm wb wb W
theorem aD.refl(w:ay):aD w w:=aK _ _
theorem aD.drew(w:ay):aD w w.drew:=(aK _ _:bm w w w).drew
theorem aD.cell{a W:ay}(h:aD a W){b o:Nat}{x:Option az}(c:b<(a:Nat))(d:a.cell? (b,o)=x):W.cell? (b,o)=x:=(Below.cell (p:=⟨b,o,bc⟩) h c).trans d
theorem aD.size{a W:ay}(h:aD a W):(a:Nat)<=(W:Nat):=Below.size h
theorem aD.after{a W:ay}(h:aD a W){W':ay}(k:bm W W W'):aD a W':=aA h k
theorem eP.up{P:bg}{f:df}{args:Array az}{v:az}(g:eP P f args v){a W:ay}(h:aD a W):bt P f args W λe W'=>e=bb v/\aD a W':=
 (g W).mono λ_ _ ⟨b,hb⟩=>⟨b,h.after hb⟩
theorem oJ{P:bg}{id:Nat}{Q:cE->Act->ay->Prop}{a:Act}{w:ay}{l:List bh}(c:P.follows .mixedOrders=a8)(b:cV .any l.toArray=a8)(h:rJ P l.toArray (aD w) (λa'=>∀W,aD w W->Q .normal a' W) l a):(cx id l.toArray a8).wp P Q a w:=
 UQ (I:=aD w) c b (aD.drew w) (by simpa using h.out)
attribute [go_sem] SI VX SK
theorem kK{P:bg}{id:Nat}{Q:cE->Act->ay->Prop}{a:Act}{w:ay}{l:List bh}(h:rJ P l.toArray (aD w) (λa'=>∀W,aD w W->Q .normal a' W) l a)(c:P.follows .mixedOrders=a8:=by kernel_rfl)(b:cV .any l.toArray=a8:=by kernel_rfl):(cx id l.toArray a8).wp P Q a w:=oJ c b h
theorem kJ{X:Prop}{P:bg}{ops:Array bh}{I:ay->Prop}{Q:Act->Prop}{a a':Act}{o:bh}{rest:List bh}{v:az}(J:X)(k:rJ P ops I Q rest a')(d:be o (b3 ops a.tmps)=a8:=by rfl)(h:X->xQ P I o a v:=by(intro J W b;go_simp;first|exact J W b|exact⟨b,J W b⟩|exact eP.up J b|exact⟨b,eP.up J b⟩))(c:a.put o.dst v=a':=by(go_simp;first|done|rfl)):rJ P ops I Q (o::rest) a:=QU v d (h J) c k
theorem kY{P:bg}{ops:Array bh}{I:ay->Prop}{Q:Act->Prop}{a a':Act}{o:bh}{rest:List bh}{v:az}(k:rJ P ops I Q rest a')(d:be o (b3 ops a.tmps)=a8:=by rfl)(h:xQ P I o a v:=by(intro W b;go_simp;first|done|exact⟨rfl,b⟩|rfl))(c:a.put o.dst v=a':=by(go_simp;first|done|rfl)):rJ P ops I Q (o::rest) a:=QU v d h c k
theorem kN{P:bg}{ops:Array bh}{I:ay->Prop}{Q:Act->Prop}{a a':Act}{o:bh}{rest:List bh}(k:rJ P ops I Q rest a')(c:be o (b3 ops a.tmps)=bi:=by rfl)(b:a.put o.dst co=a':=by(go_simp;first|done|rfl)):rJ P ops I Q (o::rest) a:=ahf c b k
open Go.RowKit
section
variable {P:bg} {ops:Array bh} {md:cn} {I:ay->Prop}
def EP(P:bg)(md:cn)(ops:Array bh)(I:ay->Prop)(n:Nat)(L:Array Bool->Act->Prop):Nat->Array Bool->Act->Prop
 |0,listed,a=>L listed a
 |f+1,listed,a=>
  bn md ops listed≠[]/\∀i∈bn md ops listed,i<n/\rC P ops I i (EP P md ops I n L f (listed.setIfInBounds i a8)) a
theorem vY{n g:Nat}{L:Array Bool->Act->Prop}{Q':cE->Act->ay->Prop}(c:∀listed a W,L listed a->I W->ec P md ops Q' g listed a W):∀(f:Nat) (listed:Array Bool) (a:Act) (W:ay),I W->EP P md ops I n L f listed a->ec P md ops Q' (f+g) listed a W
 |0,listed,a,W,b,h=>by rw[aO];exact c _ _ _ h b
 |f+1,listed,a,W,b,h=>by rw[show f+1+g=(f+g)+1 by omega];exact⟨λe=>absurd e h.1,λi hi=>JU b (λa' W' d j=>vY c f _ a' W' j d) (h.2 i hi).2⟩
theorem ZW{n i:Nat}{p:bh}{v:az}{L:Array Bool->Act->Prop}(hi:ops[i]? =ac p)(N:∀(j:Nat) (o:bh) cs b,ops[j]? =ac o->o.op≠.select cs b)(hs:cG md ops n=a8)(z:cw md ops n=a8)(M:n<ops.size)(F:i<n)(W:∀listed a,L listed a->∀j∈bn md ops listed,n<=j):∀(f:Nat) (listed:Array Bool) (a:Act),cS md ops n listed->(∀j m,ops[j]? =ac m->j≠i->listed.getD j a8=bi->(∀e∈m.after,bT md e=a8->e.on≠i)->p.apart ops m=a8)->i∈bn md ops listed->qV P ops I p v a->EP P md ops I n L f (listed.setIfInBounds i a8) (a.put p.dst v)->EP P md ops I n L (f+1) listed a:=by
 intro f;induction f with
 |zero=>
  intro listed a w _ d u H;have l:=(mem_ready.1 d).1;refine⟨λh=>(by rw[h]at d;cases d),λj g=>?_⟩;have s:j<n:=by
   rcases fI j n with h|h
   .exact h
   .exact absurd g (ek hs z M w _ i rfl F l j h)
  refine⟨s,?_⟩;by_cases c:j=i
  .subst c;exact u.rC hi H
  .have:=W _ _ H j (cc g c);omega
 |succ f af=>
  intro listed a w A d u H;have l:=(mem_ready.1 d).1;refine⟨λh=>(by rw[h]at d;cases d),λj g=>?_⟩;have s:j<n:=by
   rcases fI j n with h|h
   .exact h
   .exact absurd g (ek hs z M w _ i rfl F l j h)
  refine⟨s,?_⟩;by_cases c:j=i
  .subst c;exact u.rC hi H
  .have r:=(H.2 j (cc g c)).2;obtain⟨K,m,x,Q⟩:=mem_ready.1 g;have ae:∀e∈m.after,bT md e=a8->e.on≠i:=λe X T Y=>by have r:=Q e X T;rw[Y,dv l]at r;cases r
   have O:=abK x (A j m x c K ae) (λcs b=>N i p cs b hi) (λcs b=>N j m cs b x) u r;have Z:∀k ok,ops[k]? =ac ok->k≠i->(listed.setIfInBounds j a8).getD k a8=bi->
     (∀e∈ok.after,bT md e=a8->e.on≠i)->p.apart ops ok=a8:=λk ok aa ab l ad=>by
    refine A k ok aa ab ?_ ad;by_cases J:j=k
    .subst J;exact K
    .rw[du a8 J]at l;exact l
   refine YP (λa' y=>af (listed.setIfInBounds j a8) a' (w.set g s) Z (cc d (dq c)) y.1 ?_) O;rw[jK _ _ c];exact y.2
theorem DV{n g:Nat}{e:Act->Prop}(s:cy ops=a8)(hs:cG md ops n=a8)(f:cw md ops n=a8)(p:n<ops.size):∀(l:List bh) (k:Nat) (listed:Array Bool) (a:Act),(∀j,j<l.length->l[j]? =ops[k+j]?)->k+l.length=n->cS md ops n listed->Region.lexHead md ops g l.length k listed=a8->wE P ops I e l a->EP P md ops I n (λw a'=>cp md ops g n w=a8/\e a') l.length listed a
 |[],k,listed,a,_,d,_,c,h=>by
  have:k=n:=by simpa using d
  subst this;exact⟨by simpa[Region.lexHead]using c,h⟩
 |o::l,k,listed,a,m,d,u,c,h=>by
  have b:ops[k]? =ac o:=by simpa using(m 0 sZ).symm
  simp only[b5,Region.lexHead,bq]at c;obtain⟨⟨F,A⟩,x⟩:=c;have i:k<n:=by simp only[b5]at d;omega
  have r:k∈bn md ops listed:=by simpa using F
  have H:rC P ops I k (wE P ops I e l) a:=by unfold rC;simp only[b];exact h
  obtain⟨v,J,y⟩:=CZ b H;exact ZW b (cu s) hs f p i (λw a' z=>seqB_ready z.1) l.length listed a u (di b A) r J
   (DV s hs f p l (k+1) _ _ (λj K=>by have:=m (j+1) (by simp;omega);simpa[iY,jT 1 j]using this) (by simp only[b5]at d;omega) (u.set r i) x y)
end
theorem jN{P:bg}{id:Nat}{Q:cE->Act->ay->Prop}{a:Act}{w:ay}{l:List bh}(n:Nat)(s:P.follows .mixedOrders=a8)(c:dp .any l.toArray n=a8)(h:rJ P l.toArray (aD w) (λa'=>∀W,aD w W->cH P l.toArray Q (l.drop n) a' W) (l.take n) a):(cx id l.toArray a8).wp P Q a w:=by
 simp only[dp,bq,eT]at c;obtain⟨⟨⟨⟨u,k⟩,hs⟩,o⟩,r⟩:=c;have y:n<l.length:=by simpa using k
 have b:(l.take n).length=n:=by simp;omega
 have e:(l.drop n).length=l.toArray.size-n:=sZ;have x:cS .any l.toArray n (cm l.toArray.size bi):=
  ⟨sZ,λj z _ i=>(by rw[b9]at i;cases i),λt _ v=>er (by simpa using v) (b9 _ _)⟩
 have H:=DV (md:=.any) (g:=l.toArray.size-n) u hs o k (l.take n) 0 _ a (λj f=>by
  have p:j<n:=by rw[b]at f;exact f
  simp[p]) (by simpa using b) x (by rw[b];exact r) h.out
 refine dw s ?_;have:=vY (Q':=Q) (I:=aD w) (g:=l.toArray.size-n) (λlisted a' W d m=>by have:=eA (md:=.any) (Q':=Q) (l.drop n) n listed a' W (λj=>by simp[jZ]) (by rw[e];exact d.1) (d.2 W m);rwa [e]at this) _ _ _ _ (aD.drew w) H;rw[b,show n+(l.toArray.size-n)=l.toArray.size by omega]at this;exact this
open Go.RowKit
def lM(w:ay)(base:Nat)(v:az)(l:List UInt8):Prop:=(v=bf bc 0 0/\l=[])\/∃g cap,v=bf (ac ⟨g,0,bc⟩) l.length cap/\base<=g/\g<(w:Nat)/\l.length<=cap/\cap<=b4/\(∀j (hj:j<l.length),w.cell? (g,j)=ac (bo .u8 (l[j].toNat:Int)))/\(∀j,j<cap->(w.cell? ⟨g,j,bc⟩).isSome=a8/\w.frozen? ⟨g,j,bc⟩=bi)
theorem lM.nil(w:ay)(base:Nat):lM w base (bf bc 0 0) []:=.inl ⟨rfl,rfl⟩
theorem lM.lt{w:ay}{base:Nat}{v:az}{l:List UInt8}(h:lM w base v l):∀k,v.ownBlock=ac k->base<=k/\k<(w:Nat):=by
 rcases h with⟨rfl,_⟩|⟨g,cap,rfl,b,c,_⟩
 .intro k a;cases a
 .intro k a;cases a;exact⟨b,c⟩
theorem lM.bA{w w':ay}{base:Nat}{v:az}{l:List UInt8}(h:lM w base v l)(hs:(w:Nat)<=(w':Nat))(i:∀k,v.ownBlock=ac k->w'.heap[k]? =w.heap[k]?):lM w' base v l:=by
 rcases h with⟨rfl,rfl⟩|⟨g,cap,rfl,c,o,m,n,d,f⟩
 .exact .inl ⟨rfl,rfl⟩
 .have e:=i g rfl;refine .inr ⟨g,cap,rfl,c,oZ,m,n,λj b=>?_,λj b=>?_⟩
  .rw[cv (w:=w) (a:=⟨g,j,bc⟩) e];exact d j b
  .rw[cv (w:=w) (a:=⟨g,j,bc⟩) e,cI (w:=w) (a:=⟨g,j,bc⟩) e];exact f j b
def cellsOf(l:List UInt8):List az:=l.map λb=>ck .u8 (b.toNat:Int)
theorem kH(l:List UInt8):(cellsOf l).length=l.length:=by simp[cellsOf]
theorem UC{l:List UInt8}{j:Nat}{u:az}(h:(cellsOf l)[j]? =ac u):∃a:j<l.length,u=bo .u8 (l[j].toNat:Int):=by
 unfold cellsOf at h;rw[gB]at h;rcases fI j l.length with a|a
 .rw[aH a]at h;exact⟨a,(ds h).symm⟩
 .rw[eH a]at h;cases h
theorem WQ(a b:List UInt8):cellsOf (a++b)=cellsOf a++cellsOf b:=by simp[cellsOf]
theorem OH(l:List UInt8):∀u∈cellsOf l,u.oneCell'=a8:=λu a=>by obtain⟨_,_,rfl⟩:=bU.1 a;rfl
theorem addr_add(g j:Nat):(⟨g,0,bc⟩:cM).add j=⟨g,j,bc⟩:=by unfold Addr.add;split<;>simp_all
section
variable {P:bg}
theorem lM.src{w:ay}{base:Nat}{v:az}{l:List UInt8}{t e:ba}(a:P.underlying t=ac (.slice e))(h:lM w base v l):Src P 1 t v l.length (cellsOf l) w:=by
 rcases h with⟨rfl,rfl⟩|⟨g,cap,rfl,_,_,_,_,b,_⟩
 .exact Src.ofNil w a 0
 .refine Src.ofSlice w a ⟨g,0,bc⟩ l.length cap (cellsOf l) (by rw[kH,gI]) (λj u d=>?_) (OH l);obtain⟨c,rfl⟩:=UC d;rw[addr_add];exact b j c
theorem RN{w:ay}{t:ba}(a:P.underlying t=ac .string)(s:ByteArray):Src P 1 t (bk s) s.size (cellsOf s.data.toList) w:=Src.ofString w a s
theorem tY{w:ay}{base:Nat}{v:az}{l new:List UInt8}{x:az}(t c ty e:ba)(i:cz)(A:P.underlying t=ac (.slice e))(hi:P.info? e=ac i)(ag:i.zero=ac (bo .u8 0))(m:i.size=1)(O:i.bytes=1)(h:lM w base v l)(M:base<=(w:Nat))(hs:Src P 1 c x new.length (cellsOf new) w)(aj:l.length+new.length<=140737488355328):∃v' w',(bj #[t,c] ty #[v,x]).run P w=.ok v' w'/\lM w' base v' (l++new)/\w.grownBy w' v.ownBlock/\(∀k,v'.ownBlock=ac k->v.ownBlock=ac k\/(w:Nat)<=k):=by
 have f:Src P i.size c x new.length (cellsOf new) w:=by rw[m];exact hs
 have F:∀(p:Option cM) (cap:Nat),v=bf p l.length cap->(cl 1 l.length (bf p l.length cap)).run P w.drew=.ok (cellsOf l).toArray w.drew->cap<l.length+new.length->
   ∃v' w',(bj #[t,c] ty #[v,x]).run P w=.ok v' w'/\lM w' base v' (l++new)/\w.grownBy w' v.ownBlock/\(∀k,v'.ownBlock=ac k->v.ownBlock=ac k\/(w:Nat)<=k):=by
  intro p cap hv ab s;subst hv;have y:=run_append_grow_src (P:=P) w t c ty e i (bo .u8 0) A hi ag p l.length cap (cellsOf l) (by rw[m];exact ab) x new.length (cellsOf new) f s oZ (growslice_fits s (by rw[O];omega));have T:=grownCap_ge w (l.length+new.length) cap e;have Q:=grownCap_le_maxLen w (l.length+new.length) cap e (by unfold b4;omega);refine⟨_,_,y,.inr ⟨(w:Nat),_,by rw[aW],M,sZ,by rw[aW];exact T,Q,λj a=>?_,λj a=>?_⟩,⟨rfl,rfl,rfl,sZ,λk b _=>heap_alloc_old w.drew _ b⟩,λk b=>?_⟩
  .have e1:(w.drew.alloc (br ((cellsOf l++cellsOf new).toArray++cg (ck .u8 0).cells (cW w (l.length+new.length) cap e-(l.length+new.length))) e)).cell? ((w:Nat),j)=((cellsOf l++cellsOf new).toArray++cg (ck .u8 0).cells (cW w (l.length+new.length) cap e-(l.length+new.length)))[j]? :=
    bu w.drew _ e (0,0) j
   rw[e1,Array.getElem?_append_left (by rw[fO,aW,kH,kH];rw[aW]at a;exact a),<-WQ];simp only[fF,cellsOf,gB,aH a,ed]
  .have e1:(w.drew.alloc (br ((cellsOf l++cellsOf new).toArray++cg (ck .u8 0).cells (cW w (l.length+new.length) cap e-(l.length+new.length))) e)).cell? ((w:Nat),j)=((cellsOf l++cellsOf new).toArray++cg (ck .u8 0).cells (cW w (l.length+new.length) cap e-(l.length+new.length)))[j]? :=
    bu w.drew _ e (0,0) j
   have e2:=World.frozen?_alloc_mark w.drew ((cellsOf l++cellsOf new).toArray++cg (ck .u8 0).cells (cW w (l.length+new.length) cap e-(l.length+new.length))) e 0 0 j;refine⟨?_,by rw[show(w.drew.heap.size)=(w:Nat)from rfl]at e2;rw[e2];simp⟩;rw[e1];have:j<((cellsOf l++cellsOf new).toArray++cg (ck .u8 0).cells (cW w (l.length+new.length) cap e-(l.length+new.length))).size:=by rw[Array.size_append,fO,aW,kH,kH,size_zeroCells];show j<_+_*1;omega
   rw[bY this];rfl
  .cases b;exact .inr lZ
 rcases h with⟨rfl,rfl⟩|⟨g,cap,rfl,N,s,ai,X,H,d⟩
 .by_cases Y:new.length=0
  .have aa:new=[]:=fK Y;subst aa;refine⟨bf bc 0 0,w,?_,.inl ⟨rfl,rfl⟩,⟨rfl,rfl,rfl,bG _,λ_ _ _=>rfl⟩,λk b=>by cases b⟩;have I:=f.cells;simp only[ee]at I;rcases f.kind with⟨ah,b⟩|b<;>
    simp[bj,run_underlying A,run_underlying b,cA,cd,hi,f.len,I]
  .exact F bc 0 rfl (run_firstCells_none w.drew 1 0 0 0) (by simp;omega)
 .by_cases K:l.length+new.length<=cap
  .have y:=run_append_room_src (P:=P) w t c ty e i A hi g 0 l.length cap x new.length (cellsOf new) f K
    (λj a=>by rw[kH]at a;rw[m,aO,gI];exact(d _ oZ).1) (λj a=>by rw[kH]at a;rw[m,aO,gI];exact(d _ oZ).2)
   rw[m,aO,gI]at y;have J:=World.cell?_setCells_in g (cellsOf new) l.length w (λj a=>by rw[kH]at a;exact(d _ oZ).1);have L:∀(vs:List az) (o:Nat) (w:ay),(w.setCells g o vs).heap.size=(w:Nat):=by
    intro vs;induction vs with
    |nil=>intro o w;rfl
    |cons u vs n=>intro o w;show(World.setCells _ g _ vs).heap.size=_;rw[n];simp[ch]
   have ad:∀(vs:List az) (o:Nat) (w:ay) (k:Nat),k≠g->(w.setCells g o vs).heap[k]? =w.heap[k]? :=by
    intro vs;induction vs with
    |nil=>intro o w k b;rfl
    |cons u vs n=>intro o w k b;show(World.setCells _ g _ vs).heap[k]? =_;rw[n _ _ k b];exact bl _ _ _ _ b
   have z:∀(vs:List az) (o:Nat) (w:ay),(w.setCells g o vs).os=w.os/\(w.setCells g o vs).tape=w.tape/\(w.setCells g o vs).output=w.output:=by
    intro vs;induction vs with
    |nil=>intro o w;exact⟨rfl,rfl,rfl⟩
    |cons u vs n=>intro o w;exact n _ _
   have ae:∀j,j<cap->((w.setCells g l.length (cellsOf new)).cell? ⟨g,j,bc⟩).isSome=a8:=λj a=>by
    by_cases r:l.length<=j/\j<l.length+new.length
    .have:=J (j-l.length) (by rw[kH];omega);rw[show l.length+(j-l.length)=j by omega]at this;rw[this];rfl
    .rw[World.cell?_setCells_out g (cellsOf new) l.length w ⟨g,j,bc⟩ λ_ _=>by rw[kH];simp only;omega];exact(d j a).1
   refine⟨_,_,y,.inr ⟨g,cap,by rw[aW],N,by rw[L];exact s,by rw[aW];exact K,X,λj a=>?_,λj a=>⟨ae j a,by rw[World.frozen?_setCells];exact(d j a).2⟩⟩,⟨(z _ _ _).1,(z _ _ _).2.1,(z _ _ _).2.2,by rw[L];exact bG _,λk b Z=>ad _ _ _ k λe=>Z (by rw[e];rfl)⟩,λk b=>.inl b⟩;by_cases r:j<l.length
   .rw[World.cell?_setCells_out g (cellsOf new) l.length w ⟨g,j,bc⟩ λ_ _=>.inl r,H j r,List.getElem_append_left r]
   .have W:j-l.length<new.length:=by rw[aW]at a;omega
    have:=J (j-l.length) (by rw[kH];exact W);rw[show l.length+(j-l.length)=j by omega]at this;rw[this,List.getElem_append_right oZ];simp[cellsOf]
  .refine F (ac ⟨g,0,bc⟩) cap rfl ?_ oZ;exact run_firstCells_some w.drew 1 l.length ⟨g,0,bc⟩ l.length cap (cellsOf l) (by rw[kH,gI]) (λj u af=>by obtain⟨a,rfl⟩:=UC af;rw[addr_add];exact H j a)
theorem EW{w:ay}{base:Nat}{v:az}{l:List UInt8}(src a e:ba)(hs:P.underlying src=ac (.slice e))(c:P.underlying e=ac (.int .u8))(b:P.underlying a=ac .string)(h:lM w base v l):(eJ src a v).run P w=.ok (bk (str l)) w:=by
 rcases h with⟨rfl,rfl⟩|⟨g,cap,rfl,_,_,_,_,d,_⟩
 .exact run_convert_bytes_nil w src e hs c 0 0 a b
 .exact run_convert_bytes_back w src a e ⟨g,0,bc⟩ cap l hs c b (λj f=>by rw[addr_add];exact d j f)
theorem lM.cutAt{w:ay}{base:Nat}{v:az}{l:List UInt8}(h:lM w base v l)(k:Nat)(r:k<=l.length)(t e:ba)(d:P.underlying t=ac (.slice e))(i:cz)(hi:P.info? e=ac i)(y:i.size=1):∃v',(∀w',(b0 t v bc (ac (bo cb k)) (ac (bo cb k))).run P w'=.ok v' w')/\lM w base v' (l.take k)/\(∀b,v'.ownBlock=ac b->v.ownBlock=ac b):=by
 rcases h with⟨rfl,rfl⟩|⟨g,cap,rfl,a,o,u,x,m,n⟩
 .have c:k=0:=by simpa using r
  subst c;refine⟨bf bc 0 0,λw'=>?_,.inl ⟨rfl,rfl⟩,λb a=>by cases a⟩;simp[b0,run_underlying d,b1,b6,cX,cA,cd,hi]
 .have s:(l.take k).length=k:=by rw[bN];omega
  refine⟨bf g k k,λw'=>?_,.inr ⟨g,k,by rw[s],a,o,oZ,oZ,λj p=>?_,λj p=>n j oZ⟩,λb a=>a⟩
  .have f:k<=cap:=oZ;by_cases c:k=0
   .subst c;simp[b0,run_underlying d,b1,b6,cX,cA,cd,hi]
   .simp[b0,run_underlying d,b1,b6,cX,cA,cd,hi,f,c,addr_add]
  .rw[m j oZ,List.getElem_take]
theorem aav{o:bh}{a:Act}{w w':ay}{K:Act->ay->Prop}{Q:cE->Act->ay->Prop}(s x:cT)(t b:ba)(c:o.op=.call {callee:=.builtin .append,args:=#[s,x],argTypes:=#[t,b]})(vs vx:az){v':az}(hs:a.eval s=vs)(e:a.eval x=vx)(d:(bj #[t,b] o.type #[vs,vx]).run P w=.ok v' w')(h:K (a.put o.dst v') w'):o.wp P a w K Q:=by unfold cR b8;simp only[c,eu,eI,ew,ca,ct,b2,jD,dG,fQ,hs,e,d];exact h
theorem cK{c:Array bh}{rest:List bh}{o:bh}{a:Act}{w w':ay}{Q:cE->Act->ay->Prop}(e:o.guard=bc)(s x:cT)(t b:ba)(f:o.op=.call {callee:=.builtin .append,args:=#[s,x],argTypes:=#[t,b]})(vs vx:az){v':az}(hs:a.eval s=vs)(i:a.eval x=vx)(g:(bj #[t,b] o.type #[vs,vx]).run P w=.ok v' w')(h:cH P c Q rest (a.put o.dst v') w'):cH P c Q (o::rest) a w:=
 cN e λ_ d=>aav s x t b f vs vx hs i g (d _ _ h)
theorem aad(w:ay)(src a e:ba)(s:ByteArray)(hs:P.underlying src=ac .string)(d:P.underlying a=ac (.slice e))(f:P.underlying e=ac (.int .u8))(l:s.size<=140737488355328):∃(cap:Nat) (o:Obj),(eJ src a (bk s)).run P w=.ok (bf w s.size cap) (w.drew.alloc o)/\lM (w.drew.alloc o) 0 (bf w s.size cap) s.data.toList:=by
 have g:=grownCap_ge w s.size 0 e;have c:=grownCap_le_maxLen w s.size 0 e (by unfold b4;omega);have i:=run_bytes_of_string (P:=P) w src a e s hs d f;generalize cW w s.size 0 e=cap at*;have k:(cj s cap).size=cap:=by simp[cj];omega
 refine⟨cap,_,i,.inr ⟨(w:Nat),cap,rfl,bI _,sZ,g,c,λj b=>?_,λj b=>⟨?_,?_⟩⟩⟩
 .have e1:(w.drew.alloc (br (cj s cap) e ((cj s cap).size,(cj s cap).size+1))).cell? ((w:Nat),j)=(cj s cap)[j]? :=bu w.drew _ e _ j;rw[e1,bytesRow_at s cap j (by simpa using b)];simp
 .have e1:(w.drew.alloc (br (cj s cap) e ((cj s cap).size,(cj s cap).size+1))).cell? ((w:Nat),j)=(cj s cap)[j]? :=bu w.drew _ e _ j;rw[e1,bY oZ];rfl
 .have e1:(w.drew.alloc (br (cj s cap) e ((cj s cap).size,(cj s cap).size+1))).frozen? ((w:Nat),j)=_:=World.frozen?_alloc_mark w.drew _ e _ _ j;rw[e1,k];simp;omega
theorem rV{d:Array bh}{rest:List bh}{o:bh}{a:Act}{w:ay}{Q:cE->Act->ay->Prop}(g:o.guard=bc)(s y z:cT)(t e:ba)(l:P.underlying t=ac (.slice e))(i:o.op=.slice t s bc (ac y) (ac z))(vs b c:az){v':az}(hs:a.eval s=vs)(m:a.eval y=b)(n:a.eval z=c)(k:(b0 t vs bc (ac b) (ac c)).run P w=.ok v' w)(h:cH P d Q rest (a.put o.dst v') w):cH P d Q (o::rest) a w:=
 cN g λ_ f=>by
  have j:(cY t vs bc (ac b) (ac c)).run P w=.ok v' w:=by simp[cY,run_underlying l,k]
  unfold cR b8;simp only[i,ca,ct,b2,ef,ed,hs,m,n,j];exact f _ _ h
theorem uI{b:Array bh}{rest:List bh}{o:bh}{a:Act}{w:ay}{Q:cE->Act->ay->Prop}(e:o.guard=bc)(s x:cT)(t c:ba)(g:o.op=.call {callee:=.builtin .min,args:=#[s,x],argTypes:=#[t,c]})(n m k:Int)(hs:a.eval s=bo cb n)(j:a.eval x=bo cb m)(f:min n m=k)(h:cH P b Q rest (a.put o.dst k) w):cH P b Q (o::rest) a w:=
 cN e λ_ d=>by
  have i:(Builtin.min_ #[t,c] o.type #[n,m]).run P w=.ok k w:=by rw[run_min_int2];congr 2;rw[<-f];split<;>omega
  unfold cR b8;simp only[g,eu,eI,ew,ca,ct,b2,jD,dG,fQ,hs,j,i];exact d _ _ h
theorem uJ{b:Array bh}{rest:List bh}{o:bh}{a:Act}{w:ay}{Q:cE->Act->ay->Prop}(e:o.guard=bc)(s x:cT)(t c:ba)(g:o.op=.call {callee:=.builtin .max,args:=#[s,x],argTypes:=#[t,c]})(n m k:Int)(hs:a.eval s=bo cb n)(j:a.eval x=bo cb m)(f:max n m=k)(h:cH P b Q rest (a.put o.dst k) w):cH P b Q (o::rest) a w:=
 cN e λ_ d=>by
  have i:(Builtin.max_ #[t,c] o.type #[n,m]).run P w=.ok k w:=by rw[run_max_int2];congr 2;rw[<-f];split<;>omega
  unfold cR b8;simp only[g,eu,eI,ew,ca,ct,b2,jD,dG,fQ,hs,j,i];exact d _ _ h
end
open Go.RowKit
structure aL (F:Nat->Prop) (w w':World):Prop where
 os:w'.os=w.os
 tape:w'.tape=w.tape
 output:w'.output=w.output
 size:(w:Nat)<=(w':Nat)
 block:∀k,k<(w:Nat)->¬F k->w'.heap[k]? =w.heap[k]?
theorem aL.refl(F:Nat->Prop)(w:ay):aL F w w:=⟨rfl,rfl,rfl,bG _,λ_ _ _=>rfl⟩
theorem aL.trans{F:Nat->Prop}{a b c:ay}(h:aL F a b)(k:aL F b c):aL F a c:=
 ⟨k.os.trans h.os,k.tape.trans h.tape,k.output.trans h.output,bC h.size k.size,λi hi d=>(k.block i (aM hi h.size) d).trans (h.block i hi d)⟩
theorem aL.trans'{F G:Nat->Prop}{a b c:ay}(h:aL F a b)(k:aL G b c)(e:∀i,i<(a:Nat)->G i->F i):aL F a c:=
 ⟨k.os.trans h.os,k.tape.trans h.tape,k.output.trans h.output,bC h.size k.size,λi hi d=>(k.block i (aM hi h.size) λf=>d (e i hi f)).trans (h.block i hi d)⟩
theorem aL.mono{F G:Nat->Prop}{a b:ay}(h:aL F a b)(hF:∀i,i<(a:Nat)->F i->G i):aL G a b:=⟨h.os,h.tape,h.output,h.size,λi hi d=>h.block i hi λc=>d (hF i hi c)⟩
theorem aL.alloc{F:Nat->Prop}{a w:ay}(h:aL F a w)(o:Obj):aL F a (w.alloc o):=
 ⟨h.os,h.tape,h.output,bC h.size sZ,λi hi b=>(dj w o i (aM hi h.size)).trans (h.block i hi b)⟩
theorem aL.drew{F:Nat->Prop}{a w:ay}(h:aL F a w):aL F a w.drew:=⟨h.os,h.tape,h.output,h.size,h.block⟩
theorem aL.drewN{F:Nat->Prop}{a w:ay}(h:aL F a w)(n:Nat):aL F a (w.drewN n):=⟨h.os,h.tape,h.output,h.size,h.block⟩
theorem aL.setCell{F:Nat->Prop}{a w:ay}(h:aL F a w){p:cM}(b:F p.block\/(a:Nat)<=p.block)(u:az):aL F a (w.setCell p u):=
 ⟨h.os,h.tape,h.output,by simpa[ch]using h.size,λi hi c=>(bl w p u i (by
  rintro rfl;rcases b with b|b
  .exact c b
  .omega)).trans (h.block i hi c)⟩
theorem aL.bQ{F:Nat->Prop}{a b:ay}(h:bm a a b):aL F a b:=⟨h.os,h.tape,h.output,h.size,λi hi _=>h.block i hi⟩
theorem aL.jX{F:Nat->Prop}{a b:ay}{row:Option Nat}(h:a.grownBy b row)(hF:∀i,row=ac i->F i):aL F a b:=
 ⟨h.os,h.tape,h.output,h.size,λi hi c=>h.block i hi λe=>c (hF i e.symm)⟩
theorem aL.below{F:Nat->Prop}{a w:ay}(h:aL F a w){B:Nat}(b:B<=(a:Nat))(hF:∀i,F i->B<=i):bm B a w:=
 ⟨h.os,h.tape,h.output,h.size,λi hi=>h.block i (aM hi b) λc=>by have:=hF i c;omega⟩
theorem aL.cell{F:Nat->Prop}{a w:ay}(h:aL F a w){p:cM}(c:p.block<(a:Nat))(b:¬F p.block):w.cell? p=a.cell? p:=cv (w:=a) (h.block p.block c b)
theorem aL.frozen{F:Nat->Prop}{a w:ay}(h:aL F a w){p:cM}(c:p.block<(a:Nat))(b:¬F p.block):w.frozen? p=a.frozen? p:=cI (w:=a) (h.block p.block c b)
def Blk(w:ay)(g:Nat)(t:ba)(cs:Array az):Prop:=w.heap[g]? =ac (br cs t (0,0))
section
variable {w w':ay} {g:Nat} {t:ba} {cs:Array az}
theorem Blk.lt(h:Blk w g t cs):g<(w:Nat):=by
 rcases fI g (w:Nat)with b|a
 .exact b
 .unfold Blk at h;rw[jA a]at h;cases h
theorem Blk.cell(h:Blk w g t cs)(i:Nat):w.cell? (g,i)=cs[i]? :=cell_of_row w g i cs t (0,0) h
theorem Blk.frozen(h:Blk w g t cs)(i:Nat):w.frozen? (g,i)=bi:=by unfold Blk at h;simp[World.frozen?,h]
theorem Blk.new(w:ay)(t:ba)(cs:Array az):Blk (w.alloc (br cs t)) (w:Nat) t cs:=heap_alloc_new w _
theorem Blk.drew(h:Blk w g t cs):Blk w.drew g t cs:=h
theorem Blk.alloc(h:Blk w g t cs)(o:Obj):Blk (w.alloc o) g t cs:=(dj w o g h.lt).trans h
theorem Blk.bR(h:Blk w g t cs)(i:Nat)(u:az):Blk (w.setCell (g,i) u) g t (cs.setIfInBounds i u):=by unfold Blk at h⊢;simp[ch,Array.getElem?_modify,h]
theorem Blk.far(h:Blk w g t cs){p:cM}(a:g≠p.block)(u:az):Blk (w.setCell p u) g t cs:=(bl w p u g a).trans h
theorem Blk.below{B:Nat}(h:Blk w g t cs)(a:bm B w w')(b:g<B):Blk w' g t cs:=(a.block g b).trans h
theorem Blk.grown{row:Option Nat}(h:Blk w g t cs)(a:w.grownBy w' row)(b:ac g≠row):Blk w' g t cs:=(a.block g h.lt b).trans h
theorem Blk.bA{F:Nat->Prop}(h:Blk w g t cs)(a:aL F w w')(b:¬F g):Blk w' g t cs:=(a.block g h.lt b).trans h
end
theorem aB{w a:ay}{o:Obj}(h:w.alloc o=a):bm w w a:=by rw[<-h];exact bZ
theorem aX{w a:ay}{t:ba}{cs:Array az}(h:w.alloc (br cs t)=a):Blk a w t cs:=by rw[<-h];exact Blk.new _ _ _
theorem aY{w a:ay}{b:Nat}{t:ba}{cs:Array az}(h:w.alloc (br cs t)=a)(e:(w:Nat)=b):Blk a b t cs:=by rw[<-h,<-e];exact Blk.new _ _ _
theorem Blk.fa{w:ay}{g:Nat}{t:ba}{cs:Array az}(h:Blk w g t cs)(i:Nat)(W:ay)(a:bm w w W):W.cell? (g,i)=cs[i]? :=(h.below a h.lt).cell i
theorem Blk.c2{w:ay}{g:Nat}{t:ba}{a0 a1:az}(h:Blk w g t #[a0,a1]):w.cell? (g,0)=ac a0/\w.cell? (g,1)=ac a1:=⟨h.cell 0,h.cell 1⟩
theorem Blk.c3{w:ay}{g:Nat}{t:ba}{a0 a1 a2:az}(h:Blk w g t #[a0,a1,a2]):w.cell? (g,0)=ac a0/\w.cell? (g,1)=ac a1/\w.cell? (g,2)=ac a2:=⟨h.cell 0,h.cell 1,h.cell 2⟩
theorem Blk.c4{w:ay}{g:Nat}{t:ba}{a0 a1 a2 a3:az}(h:Blk w g t #[a0,a1,a2,a3]):w.cell? (g,0)=ac a0/\w.cell? (g,1)=ac a1/\w.cell? (g,2)=ac a2/\w.cell? (g,3)=ac a3:=⟨h.cell 0,h.cell 1,h.cell 2,h.cell 3⟩
theorem Blk.c5{w:ay}{g:Nat}{t:ba}{a0 a1 a2 a3 a4:az}(h:Blk w g t #[a0,a1,a2,a3,a4]):w.cell? (g,0)=ac a0/\w.cell? (g,1)=ac a1/\w.cell? (g,2)=ac a2/\w.cell? (g,3)=ac a3/\w.cell? (g,4)=ac a4:=⟨h.cell 0,h.cell 1,h.cell 2,h.cell 3,h.cell 4⟩
theorem Blk.c6{w:ay}{g:Nat}{t:ba}{a0 a1 a2 a3 a4 a:az}(h:Blk w g t #[a0,a1,a2,a3,a4,a]):w.cell? (g,0)=ac a0/\w.cell? (g,1)=ac a1/\w.cell? (g,2)=ac a2/\w.cell? (g,3)=ac a3/\w.cell? (g,4)=ac a4/\w.cell? (g,5)=ac a:=⟨h.cell 0,h.cell 1,h.cell 2,h.cell 3,h.cell 4,h.cell 5⟩
theorem Blk.c7{w:ay}{g:Nat}{t:ba}{a0 a1 a2 a3 a4 a a6:az}(h:Blk w g t #[a0,a1,a2,a3,a4,a,a6]):w.cell? (g,0)=ac a0/\w.cell? (g,1)=ac a1/\w.cell? (g,2)=ac a2/\w.cell? (g,3)=ac a3/\w.cell? (g,4)=ac a4/\w.cell? (g,5)=ac a/\w.cell? (g,6)=ac a6:=⟨h.cell 0,h.cell 1,h.cell 2,h.cell 3,h.cell 4,h.cell 5,h.cell 6⟩
theorem Blk.c8{w:ay}{g:Nat}{t:ba}{a0 a1 a2 a3 a4 a a6 a7:az}(h:Blk w g t #[a0,a1,a2,a3,a4,a,a6,a7]):w.cell? (g,0)=ac a0/\w.cell? (g,1)=ac a1/\w.cell? (g,2)=ac a2/\w.cell? (g,3)=ac a3/\w.cell? (g,4)=ac a4/\w.cell? (g,5)=ac a/\w.cell? (g,6)=ac a6/\w.cell? (g,7)=ac a7:=⟨h.cell 0,h.cell 1,h.cell 2,h.cell 3,h.cell 4,h.cell 5,h.cell 6,h.cell 7⟩
theorem Blk.c9{w:ay}{g:Nat}{t:ba}{a0 a1 a2 a3 a4 a a6 a7 b:az}(h:Blk w g t #[a0,a1,a2,a3,a4,a,a6,a7,b]):w.cell? (g,0)=ac a0/\w.cell? (g,1)=ac a1/\w.cell? (g,2)=ac a2/\w.cell? (g,3)=ac a3/\w.cell? (g,4)=ac a4/\w.cell? (g,5)=ac a/\w.cell? (g,6)=ac a6/\w.cell? (g,7)=ac a7/\w.cell? (g,8)=ac b:=⟨h.cell 0,h.cell 1,h.cell 2,h.cell 3,h.cell 4,h.cell 5,h.cell 6,h.cell 7,h.cell 8⟩
theorem Blk.c10{w:ay}{g:Nat}{t:ba}{a0 a1 a2 a3 a4 a a6 a7 b c:az}(h:Blk w g t #[a0,a1,a2,a3,a4,a,a6,a7,b,c]):w.cell? (g,0)=ac a0/\w.cell? (g,1)=ac a1/\w.cell? (g,2)=ac a2/\w.cell? (g,3)=ac a3/\w.cell? (g,4)=ac a4/\w.cell? (g,5)=ac a/\w.cell? (g,6)=ac a6/\w.cell? (g,7)=ac a7/\w.cell? (g,8)=ac b/\w.cell? (g,9)=ac c:=⟨h.cell 0,h.cell 1,h.cell 2,h.cell 3,h.cell 4,h.cell 5,h.cell 6,h.cell 7,h.cell 8,h.cell 9⟩
theorem Blk.c11{w:ay}{g:Nat}{t:ba}{a0 a1 a2 a3 a4 b a6 a7 c d a:az}(h:Blk w g t #[a0,a1,a2,a3,a4,b,a6,a7,c,d,a]):w.cell? (g,0)=ac a0/\w.cell? (g,1)=ac a1/\w.cell? (g,2)=ac a2/\w.cell? (g,3)=ac a3/\w.cell? (g,4)=ac a4/\w.cell? (g,5)=ac b/\w.cell? (g,6)=ac a6/\w.cell? (g,7)=ac a7/\w.cell? (g,8)=ac c/\w.cell? (g,9)=ac d/\w.cell? (g,10)=ac a:=⟨h.cell 0,h.cell 1,h.cell 2,h.cell 3,h.cell 4,h.cell 5,h.cell 6,h.cell 7,h.cell 8,h.cell 9,h.cell 10⟩
theorem Blk.c12{w:ay}{g:Nat}{t:ba}{a0 a1 a2 a3 a4 c a6 a7 d e a b:az}(h:Blk w g t #[a0,a1,a2,a3,a4,c,a6,a7,d,e,a,b]):w.cell? (g,0)=ac a0/\w.cell? (g,1)=ac a1/\w.cell? (g,2)=ac a2/\w.cell? (g,3)=ac a3/\w.cell? (g,4)=ac a4/\w.cell? (g,5)=ac c/\w.cell? (g,6)=ac a6/\w.cell? (g,7)=ac a7/\w.cell? (g,8)=ac d/\w.cell? (g,9)=ac e/\w.cell? (g,10)=ac a/\w.cell? (g,11)=ac b:=⟨h.cell 0,h.cell 1,h.cell 2,h.cell 3,h.cell 4,h.cell 5,h.cell 6,h.cell 7,h.cell 8,h.cell 9,h.cell 10,h.cell 11⟩
theorem Blk.c13{w:ay}{g:Nat}{t:ba}{a0 a1 a2 a3 a4 d a6 a7 e f a b c:az}(h:Blk w g t #[a0,a1,a2,a3,a4,d,a6,a7,e,f,a,b,c]):w.cell? (g,0)=ac a0/\w.cell? (g,1)=ac a1/\w.cell? (g,2)=ac a2/\w.cell? (g,3)=ac a3/\w.cell? (g,4)=ac a4/\w.cell? (g,5)=ac d/\w.cell? (g,6)=ac a6/\w.cell? (g,7)=ac a7/\w.cell? (g,8)=ac e/\w.cell? (g,9)=ac f/\w.cell? (g,10)=ac a/\w.cell? (g,11)=ac b/\w.cell? (g,12)=ac c:=⟨h.cell 0,h.cell 1,h.cell 2,h.cell 3,h.cell 4,h.cell 5,h.cell 6,h.cell 7,h.cell 8,h.cell 9,h.cell 10,h.cell 11,h.cell 12⟩
theorem Blk.c14{w:ay}{g:Nat}{t:ba}{a0 a1 a2 a3 a4 e a6 a7 f i a b c d:az}(h:Blk w g t #[a0,a1,a2,a3,a4,e,a6,a7,f,i,a,b,c,d]):w.cell? (g,0)=ac a0/\w.cell? (g,1)=ac a1/\w.cell? (g,2)=ac a2/\w.cell? (g,3)=ac a3/\w.cell? (g,4)=ac a4/\w.cell? (g,5)=ac e/\w.cell? (g,6)=ac a6/\w.cell? (g,7)=ac a7/\w.cell? (g,8)=ac f/\w.cell? (g,9)=ac i/\w.cell? (g,10)=ac a/\w.cell? (g,11)=ac b/\w.cell? (g,12)=ac c/\w.cell? (g,13)=ac d:=⟨h.cell 0,h.cell 1,h.cell 2,h.cell 3,h.cell 4,h.cell 5,h.cell 6,h.cell 7,h.cell 8,h.cell 9,h.cell 10,h.cell 11,h.cell 12,h.cell 13⟩
theorem Blk.c15{w:ay}{g:Nat}{t:ba}{a0 a1 a2 a3 a4 f a6 a7 i j a b c d e:az}(h:Blk w g t #[a0,a1,a2,a3,a4,f,a6,a7,i,j,a,b,c,d,e]):w.cell? (g,0)=ac a0/\w.cell? (g,1)=ac a1/\w.cell? (g,2)=ac a2/\w.cell? (g,3)=ac a3/\w.cell? (g,4)=ac a4/\w.cell? (g,5)=ac f/\w.cell? (g,6)=ac a6/\w.cell? (g,7)=ac a7/\w.cell? (g,8)=ac i/\w.cell? (g,9)=ac j/\w.cell? (g,10)=ac a/\w.cell? (g,11)=ac b/\w.cell? (g,12)=ac c/\w.cell? (g,13)=ac d/\w.cell? (g,14)=ac e:=⟨h.cell 0,h.cell 1,h.cell 2,h.cell 3,h.cell 4,h.cell 5,h.cell 6,h.cell 7,h.cell 8,h.cell 9,h.cell 10,h.cell 11,h.cell 12,h.cell 13,h.cell 14⟩
open Go.RowKit
def fE(w:ay)(B:Nat)(E:ba)(v:az)(xs:List az):Prop:=w.ownsRow B E 1 v xs.length xs
theorem fE.nil(w:ay)(B:Nat)(E:ba):fE w B E (bf bc 0 0) []:=dT w B E 1
theorem fE.lt{w:ay}{B:Nat}{E:ba}{v:az}{xs:List az}(h:fE w B E v xs):∀k,v.ownBlock=ac k->B<=k/\k<(w:Nat):=by
 intro k c;rcases h.2 with⟨rfl,_⟩|⟨g,cap,cur,rfl,d,b,_⟩
 .cases c
 .cases c;refine⟨d,?_⟩;rcases fI g (w:Nat)with a|a
  .exact a
  .rw[jA a]at b;cases b
theorem fE.low{w:ay}{B B':Nat}{E:ba}{v:az}{xs:List az}(h:fE w B E v xs)(b:B'<=B):fE w B' E v xs:=by
 refine⟨h.1,?_⟩;rcases h.2 with a|⟨g,cap,cur,e,c,r⟩
 .exact .inl a
 .exact .inr ⟨g,cap,cur,e,oZ,r⟩
theorem fE.bA{w w':ay}{B:Nat}{E:ba}{v:az}{xs:List az}(h:fE w B E v xs)(d:∀k,v.ownBlock=ac k->w'.heap[k]? =w.heap[k]?):fE w' B E v xs:=by
 refine⟨h.1,?_⟩;rcases h.2 with a|⟨g,cap,cur,rfl,b,c,r⟩
 .exact .inl a
 .exact .inr ⟨g,cap,cur,rfl,b,(d g rfl).trans c,r⟩
theorem fE.below{w w':ay}{B:Nat}{E:ba}{v:az}{xs:List az}(h:fE w B E v xs)(a:bm w w w'):fE w' B E v xs:=h.bA λk b=>a.block k (h.lt k b).2
theorem fE.form{w:ay}{B:Nat}{E:ba}{v:az}{xs:List az}(h:fE w B E v xs):∃a c,v=bf a xs.length c/\(xs≠[]->∃g,a=ac ⟨g,0,bc⟩/\g<(w:Nat)/\∀i x,xs[i]? =ac x->w.cell? ⟨g,i,bc⟩=ac x):=by
 rcases h.2 with⟨rfl,b⟩|⟨g,cap,cur,rfl,e,j,f⟩
 .exact⟨bc,0,by rw[b],λd=>absurd (fK b) d⟩
 .refine⟨_,_,rfl,λ_=>⟨g,rfl,(h.lt g rfl).2,λi x b=>?_⟩⟩;have:=h.cells (g:=g) rfl i x b;rwa [addr_add]at this
section
variable {P:bg}
theorem IZ{w:ay}{B:Nat}{v:az}{xs:List az}(t ty E:ba)(i:cz)(z:az)(bytes:Nat)(r:P.underlying t=ac (.slice E))(hi:P.info? E=ac i)(s:i.zero=ac z)(p:i.size=1)(g:i.bytes=bytes)(y:z.cells.size=1)(h:fE w B E v xs)(A:B<=(w:Nat))(x:az)(c:x.oneCell'=a8)(m:(xs.length+1)*bytes<=140737488355328)(F:xs.length+1<=140737488355328):∃v' w',(bj #[t,t] ty #[v,bf w 1 1]).run P (w.alloc (br #[x] E))=.ok v' w'/\fE w' B E v' (xs++[x])/\(w.alloc (br #[x] E)).grownBy w' v.ownBlock/\(∀k,v'.ownBlock=ac k->v.ownBlock=ac k\/(w:Nat)<=k):=by
 have d:fE (w.alloc (br #[x] E)) B E v xs:=h.below (bZ);obtain⟨v',w',o,n,l,_,f⟩:=da (P:=P) (w.alloc (br #[x] E)) B t ty E i z 1 bytes r hi s p g y oZ v xs.length xs d ⟨w,0,bc⟩ 1 1 [x] rfl
  (λj u a=>by
   cases j with
   |zero=>
    simp at a;subst a;show(w.alloc (br #[x] E)).cell? (w,0)=_;rw[bu];rfl
   |succ j=>simp at a)
  (λu a=>by simp at a;subst a;exact c) (by unfold b4;omega) m (by simp;omega)
 refine⟨v',w',o,?_,l,λk b=>?_⟩
 .unfold fE;rw[aW];exact n
 .rcases f with e|e
  .exact .inl (e▸b)
  .rw[e]at b;right;have:(w.alloc (br #[x] E)).heap.size=k:=by injection b
   simp at this;omega
end
open Go.RowKit Go.MapKept
section
variable {α:Type} [DecidableEq α]
def qI(a:α):List (α×az)->Nat->Option (Nat×az)
 |[],_=>bc
 |p::l,i=>if a=p.1 then ac (i,p.2)else qI a l (i+1)
def mJ(a:α):List (α×az)->Option az
 |[]=>bc
 |p::l=>if a=p.1 then ac p.2 else mJ a l
def lH(a:α)(v:az):List (α×az)->List (α×az)
 |[]=>[(a,v)]
 |p::l=>if a=p.1 then(a,v)::l else p::lH a v l
def wV(a:α):List (α×az)->List (α×az)
 |[]=>[]
 |p::l=>if a=p.1 then l else p::wV a l
theorem TM(a:α):∀(l:List (α×az)) (i:Nat),(qI a l i).map (·.2)=mJ a l
 |[],i=>rfl
 |p::l,i=>by
  unfold qI mJ;split
  .rfl
  .exact TM a l (i+1)
theorem EF(a:α)(v:az):∀(l:List (α×az)) (i:Nat),qI a l i=bc->lH a v l=l++[(a,v)]/\wV a l=l/\mJ a l=bc
 |[],i,_=>⟨rfl,rfl,rfl⟩
 |p::l,i,h=>by
  unfold qI at h;split at h
  .cases h
  .rename_i hne;obtain⟨b,c,d⟩:=EF a v l (i+1) h;unfold lH wV mJ;rw[aF hne,aF hne,aF hne,b,c,d];exact⟨rfl,rfl,rfl⟩
theorem ED(a:α)(v:az):∀(l:List (α×az)) (i k:Nat) (u:az),qI a l i=ac (k,u)->i<=k/\l[k-i]? =ac (a,u)/\lH a v l=l.set (k-i) (a,v)/\wV a l=l.eraseIdx (k-i)/\mJ a l=ac u
 |[],i,k,u,h=>by cases h
 |p::l,i,k,u,h=>by
  unfold qI at h;split at h
  .rename_i he;simp only[eM,Prod.mk.injEq]at h;obtain⟨rfl,rfl⟩:=h;unfold lH wV mJ;rw[aI he,aI he,aI he];subst he;simp
  .rename_i hne;obtain⟨f,b,c,d,e⟩:=ED a v l (i+1) k u h;unfold lH wV mJ;rw[aF hne,aF hne,aF hne];rw[show k-i=(k-(i+1))+1 by omega];refine⟨oZ,by simpa using b,by rw[c];rfl,by rw[d];rfl,e⟩
theorem CJ(a b:α)(v:az):∀l:List (α×az),mJ b (lH a v l)=if b=a then ac v else mJ b l
 |[]=>by unfold lH mJ mJ;split<;>rfl
 |p::l=>by
  unfold lH;by_cases h:a=p.1
  .rw[aI h];unfold mJ;subst h;split<;>rfl
  .rw[aF h];unfold mJ;rw[CJ a b v l];by_cases c:b=p.1
   .rw[aI c,aI c];by_cases d:b=a
    .exact absurd (d▸c) h
    .rw[aF d]
   .rw[aF c,aF c]
def QL:List (α×az)->Prop
 |[]=>True
 |p::l=>mJ p.1 l=bc/\QL l
theorem OZ(a:α)(v:az):∀l:List (α×az),QL l->QL (lH a v l)
 |[],_=>⟨rfl,trivial⟩
 |p::l,h=>by
  unfold lH;by_cases b:a=p.1
  .rw[aI b];subst b;exact h
  .rw[aF b];refine⟨?_,OZ a v l h.2⟩;rw[CJ,aF λe=>b e.symm];exact h.1
theorem JZ(a b:α):∀l:List (α×az),QL l->mJ b (wV a l)=if b=a then bc else mJ b l
 |[],_=>by unfold wV mJ;split<;>rfl
 |p::l,h=>by
  unfold wV;by_cases d:a=p.1
  .rw[aI d];by_cases c:b=p.1
   .rw[aI (c.trans d.symm),c];exact h.1
   .rw[aF λe=>c (e.trans d)]
    conv=>rhs;unfold mJ
    rw[aF c]
  .rw[aF d];unfold mJ;rw[JZ a b l h.2];by_cases c:b=p.1
   .rw[aI c,aI c,aF λe=>d (e.symm.trans c)]
   .rw[aF c,aF c]
theorem PD(a:α):∀l:List (α×az),QL l->QL (wV a l)
 |[],_=>trivial
 |p::l,h=>by
  unfold wV;by_cases b:a=p.1
  .rw[aI b];exact h.2
  .rw[aF b];refine⟨?_,PD a l h.2⟩;rw[JZ a p.1 l h.2];split
   .rfl
   .exact h.1
theorem VR{β γ:Type}(f:β->γ):∀(l:List β) (k:Nat),(l.eraseIdx k).map f=(l.map f).eraseIdx k
 |[],k=>rfl
 |x::l,0=>rfl
 |x::l,k+1=>by simp[VR f l k]
theorem aeU{β:Type}(a:Array β)(k:Nat):(a.eraseIdxIfInBounds k).toList=a.toList.eraseIdx k:=by
 unfold Array.eraseIdxIfInBounds;split
 .rw[Array.toList_eraseIdx]
 .rename_i h;rw[List.eraseIdx_of_length_le (by simpa using h)]
structure MQ (P:Program) (kt:TypeId) (enc:α->Value):Prop where
 chk:∀(em:Bool) (a:α) (w:World),(Instr.checkKey em 10000 kt (enc a)).run P w=.ok () w
 find:∀(a:α) (es:List MapEntry) (l:List (α×Value)) (w:World),es.map (λe=>(e.key,e.val))=l.map (λp=>(enc p.1,p.2))->(Instr.findKey kt (enc a) es).run P w=.ok (qI a l 0) w
 same:∀(a:α),Instr.sameBits 10000 (enc a) (enc a)=true
def oH(w:ay)(b:Nat)(enc:α->az)(l:List (α×az)):Prop:=∃es clock,w.heap[b]? =ac (.map es clock)/\es.toList.map (λe=>(e.key,e.val))=l.map (λp=>(enc p.1,p.2))/\QL l
theorem oH.lt{w:ay}{b:Nat}{enc:α->az}{l:List (α×az)}(h:oH w b enc l):b<(w:Nat):=by obtain⟨d,c,a,_⟩:=h;exact(bS.1 a).1
theorem oH.bA{w w':ay}{b:Nat}{enc:α->az}{l:List (α×az)}{F:Nat->Prop}(h:oH w b enc l)(k:aL F w w')(e:¬F b):oH w' b enc l:=by have f:=h.lt;obtain⟨a,c,d,g⟩:=h;exact⟨a,c,(k.block b f e).trans d,g⟩
theorem oH.on{w w':ay}{b:Nat}{enc:α->az}{l:List (α×az)}(h:oH w b enc l)(k:bm w w w'):oH w' b enc l:=
 h.bA (F:=λ_=>False) (aL.bQ k) (λf=>f)
theorem oH.new(w:ay)(enc:α->az):oH (w.alloc (.map #[] 0)) (w:Nat) enc ([]:List (α×az)):=⟨#[],0,(heap_alloc w _).1,rfl,trivial⟩
variable {P:bg} {kt et t:ba} {enc:α->az} {w:ay} {b:Nat} {l:List (α×az)}
theorem oH.look(h:oH w b enc l)(K:MQ P kt enc)(j:P.underlying t=ac (.map kt et)){z:az}(n:∀w:ay,(zeroValue et).run P w=.ok z w)(a:α):(dl t (.map (ac b)) (enc a) a8).run P w=.ok (cL #[(mJ a l).getD z,cr (mJ a l).isSome]) w/\(dl t (.map (ac b)) (enc a) bi).run P w=.ok ((mJ a l).getD z) w:=by
 obtain⟨k,c,g,m,_⟩:=h;have d:=K.find a k.toList l w m;have e:=TM a l 0;cases i:qI a l 0 with
 |none=>
  rw[i]at d e;have f:mJ a l=bc:=e.symm;rw[f];constructor<;>simp[dl,run_underlying j,bw g,K.chk,d,n]
 |some p=>
  rw[i]at d e;have f:mJ a l=ac p.2:=e.symm;rw[f];constructor<;>simp[dl,run_underlying j,bw g,K.chk,d]
theorem oH.put(h:oH w b enc l)(K:MQ P kt enc)(F:P.underlying t=ac (.map kt et))(a:α)(v:az):∃w',(Instr.mapUpdate t (.map (ac b)) (enc a) v).run P w=.ok () w'/\oH w' b enc (lH a v l)/\aL (λk=>k=b) w w':=by
 have M:=h.lt;obtain⟨d,c,f,m,A⟩:=h;have n:=K.find a d.toList l w m;have z:∀o,aL (λk=>k=b) w {w with heap:=w.heap.setIfInBounds b o}:=λo=>
  ⟨rfl,rfl,rfl,sZ,λk L g=>by simp[dq g]⟩
 cases g:qI a l 0 with
 |none=>
  rw[g]at n;obtain⟨i,_,_⟩:=EF a v l 0 g;refine⟨_,by simp[Instr.mapUpdate,run_underlying F,bw f,K.chk,n,ci _ f];rfl,⟨_,_,(eg f).1,?_,OZ a v l A⟩,z _⟩;rw[i];simp[m]
 |some p=>
  obtain⟨k,u⟩:=p;rw[g]at n;obtain⟨_,i,y,_,_⟩:=ED a v l 0 k u g;rw[Nat.sub_zero]at i y;have I:k<l.length:=(bF.1 i).1;have hel:d.toList.length=l.length:=by simpa using dB List.length m
  have x:k<d.size:=by simpa using(hel▸I:k<d.toList.length)
  have r:(d.toList.map λe=>(e.key,e.val))[k]? =ac (enc a,u):=by rw[m,gB,i];rfl
  have H:d[k].key=enc a:=by rw[gB,dF,bY x]at r;simp at r;exact r.1
  have J:(Instr.keyThatStays (((d[k]?).map (·.key)).getD (enc a)) (enc a)).run P w=.ok (enc a) w:=by rw[bY x];simp[Instr.keyThatStays,H,K.same]
  refine⟨_,by simp only[Instr.mapUpdate,ca,run_underlying F,b2,bw f,K.chk,n,J,ci _ f];rfl,⟨_,_,(eg f).1,?_,OZ a v l A⟩,z _⟩;rw[y,List.map_set,<-m];apply fP;intro j;by_cases s:j=k
  .subst s;simp[x]
  .simp[Array.getElem?_modify,dq s,List.getElem?_set,s]
theorem oH.cut(h:oH w b enc l)(K:MQ P kt enc)(s:P.underlying t=ac (.map kt et))(a:α):∃w',(∀ty j,(Builtin.delete_ #[t,j] ty #[.map (ac b),enc a]).run P w=.ok (cL #[]) w')/\oH w' b enc (wV a l)/\aL (λk=>k=b) w w':=by
 have y:=h.lt;obtain⟨v,c,d,i,r⟩:=h;have f:=K.find a v.toList l w i;have n:∀o,aL (λk=>k=b) w {w with heap:=w.heap.setIfInBounds b o}:=λo=>
  ⟨rfl,rfl,rfl,sZ,λk x e=>by simp[dq e]⟩
 cases e:qI a l 0 with
 |none=>
  rw[e]at f;obtain⟨_,g,_⟩:=EF a .nilIface l 0 e;refine⟨_,λty j=>by simp[Builtin.delete_,run_underlying s,bw d,K.chk,f,ci _ d];rfl,⟨_,_,(eg d).1,?_,PD a l r⟩,n _⟩;rw[g];exact i
 |some p=>
  obtain⟨k,u⟩:=p;rw[e]at f;obtain⟨_,g,_,m,_⟩:=ED a .nilIface l 0 k u e;rw[Nat.sub_zero]at g m;refine⟨_,λty j=>by simp[Builtin.delete_,run_underlying s,bw d,K.chk,f,ci _ d];rfl,⟨_,_,(eg d).1,?_,PD a l r⟩,n _⟩;rw[m];rw[aeU,VR,i,VR]
end
open Go.RowKit Go.MapKept
theorem abL{P:bg}{kt:ba}{q:cP}(a:Int):∀(b:List MapEntry) (l:List (Int×az)) (i:Nat),b.map (λe=>(e.key,e.val))=l.map (λp=>(ck q p.1,p.2))->Instr.findNow (.int q) (bo q a) b i=ac (qI a l i)
 |[],[],i,_=>rfl
 |[],p::l,i,h=>by simp at h
 |e::b,[],i,h=>by simp at h
 |e::b,p::l,i,h=>by
  simp only[dG,dJ,Prod.mk.injEq]at h;obtain⟨⟨d,hv⟩,f⟩:=h;have g:=abL (P:=P) (kt:=kt) a b l (i+1) f;unfold Instr.findNow qI;rw[d,hv];by_cases c:a=p.1
  .simp[Instr.sameNow,c]
  .have:(a==p.1)=bi:=by simpa using c
   simp[Instr.sameNow,c,this,g]
theorem aoq{P:bg}{kt:ba}{q:cP}(b:P.underlying kt=ac (.int q)):MQ P kt (ck q) where
 chk em a w:=by
  have h:∀n,(eo em (n+1) kt (bo q a)).run P w=.ok () w:=λn=>by simp[eo,run_underlying b]
  exact h 9999
 find a es l w h:=Go.MapKept.run_findKey b (abL (P:=P) (kt:=kt) a es l 0 h)
 same a:=by
  have h:∀n,ep n (bo q a) (bo q a)=a8:=λn=>by cases n<;>simp[ep]
  exact h _
variable {α:Type} {w w':ay} {B k:Nat} {E:ba} {v:az} {dec:α->List az} {xs ys:List α}
structure Elem (dec:α->List Value) (k:Nat):Prop where
 len:∀x,(dec x).length=k
 one:∀x,∀u∈dec x,u.oneCell'=true
theorem iN(a:∀x,(dec x).length=k):∀xs:List α,(xs.flatMap dec).length=xs.length*k
 |[]=>sZ
 |x::xs=>by rw[dA,aW,a,iN a xs,b5,fZ,Nat.one_mul,jT]
theorem flat_get(a:∀x,(dec x).length=k):∀(xs:List α) (i:Nat) (x:α) (j:Nat),xs[i]? =ac x->j<k->(xs.flatMap dec)[i*k+j]? =(dec x)[j]?
 |[],_,_,_,h,_=>by simp at h
 |y::ys,0,x,j,h,b=>by simp at h;subst h;rw[dA,kP,aO,cO (by rw[a];exact b)]
 |y::ys,i+1,x,j,h,b=>by rw[dA,dK (by rw[a,fZ];omega),a,show(i+1)*k+j-k=i*k+j by rw[fZ];omega];exact flat_get a ys i x j (by simpa using h) b
theorem TD(b:0<k)(a:∀x,(dec x).length=k)(xs:List α){n:Nat}{u:az}(h:(xs.flatMap dec)[n]? =ac u):∃x,xs[n/k]? =ac x/\(dec x)[n%k]? =ac u:=by
 have d:n<xs.length*k:=by rw[<-iN a];exact(bF.1 h).1
 have c:n/k<xs.length:=(kC b).2 d;have e:=flat_get a xs (n/k) _ (n%k) (aH c) (jO _ b);rw[show n/k*k+n%k=n by rw[dW];exact jI n k]at e;exact⟨_,aH c,by rw[<-e];exact h⟩
theorem acf(a:Elem dec k):∀u∈xs.flatMap dec,u.oneCell'=a8:=λu b=>by obtain⟨x,_,c⟩:=jC.1 b;exact a.one x u c
def bL(w:ay)(B:Nat)(E:ba)(k:Nat)(dec:α->List az)(v:az)(xs:List α):Prop:=w.ownsRow B E k v xs.length (xs.flatMap dec)
def SlK(w:ay)(k:Nat)(dec:α->List az)(v:az)(xs:List α):Prop:=∃A cap,v=bf A xs.length cap/\gF w A k dec xs
theorem bL.nil(w:ay)(B:Nat)(E:ba)(k:Nat)(dec:α->List az):bL w B E k dec (bf bc 0 0) []:=dT w B E k
theorem bL.lt(h:bL w B E k dec v xs):∀b,v.ownBlock=ac b->B<=b/\b<(w:Nat):=World.ownsRow.lt h
theorem bL.bA(h:bL w B E k dec v xs)(f:∀b,v.ownBlock=ac b->w'.heap[b]? =w.heap[b]?):bL w' B E k dec v xs:=by
 obtain⟨c,a⟩:=h;refine⟨c,?_⟩;rcases a with a|⟨g,cap,cur,rfl,e,d,i⟩
 .exact .inl a
 .exact .inr ⟨g,cap,cur,rfl,e,by rw[f g rfl];exact d,i⟩
theorem bL.below(h:bL w B E k dec v xs)(a:bm w w w'):bL w' B E k dec v xs:=h.bA λb c=>a.block b (h.lt b c).2
theorem bL.low{B':Nat}(h:bL w B E k dec v xs)(c:B'<=B):bL w B' E k dec v xs:=by
 obtain⟨b,a⟩:=h;refine⟨b,?_⟩;rcases a with a|⟨g,cap,cur,rfl,d,e⟩
 .exact .inl a
 .exact .inr ⟨g,cap,cur,rfl,bC c d,e⟩
theorem bL.form(h:bL w B E k dec v xs):(v=bf bc 0 0/\xs=[])\/∃g cap,v=bf (ac ⟨g,0,bc⟩) xs.length cap/\B<=g/\g<(w:Nat)/\xs.length<=cap/\cap<=b4:=by
 have b:=h.lt;rcases h.2 with⟨rfl,e⟩|⟨g,cap,cur,rfl,a,f,d,c,_⟩
 .exact .inl ⟨rfl,fK e⟩
 .exact .inr ⟨g,cap,rfl,a,(b g rfl).2,d,c⟩
theorem bL.sl(h:bL w B E k dec v xs)(a:∀x,(dec x).length=k):SlK w k dec v xs:=by
 rcases h.form with⟨rfl,rfl⟩|⟨g,cap,rfl,m,l,o,n⟩
 .exact⟨bc,0,rfl,λe=>absurd rfl e⟩
 .refine⟨_,cap,rfl,λ_=>⟨g,0,rfl,l,λi x c j u b=>?_⟩⟩;have f:j<k:=by rw[<-a x];exact(bF.1 b).1
  have hi:i<xs.length:=(bF.1 c).1;have d:i*k+j<xs.length*k:=by have:=dD k (show i+1<=xs.length from hi);rw[fZ,Nat.one_mul]at this;omega
  rw[aO];exact(World.ownsRow.cellAt h _ d).trans ((flat_get a xs i x j c f).trans b)
theorem SlK.below(h:SlK w k dec v xs)(a:bm w w w'):SlK w' k dec v xs:=by obtain⟨A,cap,rfl,b⟩:=h;exact⟨A,cap,rfl,b.below a⟩
theorem gF.dR{A:Option cM}(h:gF w A k dec xs){i:Nat}(hi:i<xs.length):∃b o,A=ac ⟨b,o,bc⟩/\b<(w:Nat)/\∀w',bm w w w'->∀j u,(dec xs[i])[j]? =ac u->w'.cell? ⟨b,o+i*k+j,bc⟩=ac u:=by obtain⟨b,o,e,a,d⟩:=h (by intro e;subst e;simp at hi);exact⟨b,o,e,a,λw' c j u f=>(c.cell (p:=⟨b,_,bc⟩) a).trans (d i _ (aH hi) j u f)⟩
theorem gF.drop{b o:Nat}(h:gF w (ac ⟨b,o,bc⟩) k dec xs)(n:Nat):gF w (ac ⟨b,o+n*k,bc⟩) k dec (xs.drop n):=λf=>by obtain⟨l,m,e,d,c⟩:=h (by intro e;subst e;simp at f);cases e;refine⟨b,_,rfl,d,λi x a j u g=>?_⟩;have:=c (n+i) x (by rw[jZ]at a;exact a) j u g;rwa [show o+(n+i)*k+j=o+n*k+i*k+j by rw[fZ];omega]at this
theorem gF.take{A:Option cM}(h:gF w A k dec xs)(n:Nat):gF w A k dec (xs.take n):=λg=>by
 obtain⟨b,m,e,f,d⟩:=h (by intro e;subst e;simp at g);subst e;refine⟨b,m,rfl,f,λi x a j u l=>?_⟩;have hi:i<n:=by have c:=(bF.1 a).1;simp at c;omega
 exact d i x (by rw[dU,aI hi]at a;exact a) j u l
section
variable {P:bg}
theorem acL(t ty:ba)(i:cz)(a:P.underlying t=ac (.slice E))(hi:P.info? E=ac i)(h:bL w B E k dec v xs)(d:i.size=k)(c:Nat):(bj #[t,t] ty #[v,bf bc 0 c]).run P w=.ok v w:=by
 rcases h.form with⟨rfl,rfl⟩|⟨g,cap,rfl,_,_,b,_⟩
 .simp[bj,run_underlying a,cA,cd,hi,dc,cl]
 .simp[bj,run_underlying a,cA,cd,hi,dc,cl,b,storeCells]
theorem lF(t ty:ba)(i:cz)(z:az)(bytes:Nat)(r:P.underlying t=ac (.slice E))(hi:P.info? E=ac i)(Z:i.zero=ac z)(p:i.size=k)(L:i.bytes=bytes)(aa:z.cells.size=k)(f:0<k)(l:∀x,(dec x).length=k)(g:∀u∈ys.flatMap dec,u.oneCell'=a8)(h:bL w B E k dec v xs){A:Option cM}{m c:Nat}(Q:ys.length=m)(n:gF w A k dec ys)(K:B<=(w:Nat))(N:xs.length+m<=b4)(O:(xs.length+m)*bytes<=140737488355328):∃v' w',(bj #[t,t] ty #[v,bf A m c]).run P w=.ok v' w'/\bL w' B E k dec v' (xs++ys)/\w.grownBy w' v.ownBlock/\(v'=bf bc 0 0↔v=bf bc 0 0/\m=0)/\(∀b,v'.ownBlock=ac b->v.ownBlock=ac b\/(w:Nat)<=b):=by
 subst Q;cases A with
 |none=>
  have T:ys=[]:=by
   rcases ys with _|⟨y,ys⟩
   .rfl
   .obtain⟨b,o,e,_⟩:=n sZ;cases e
  subst T;exact⟨v,w,acL t ty i r hi h p c,by simpa using h,World.grownBy.refl w _,sZ,λk f=>.inl f⟩
 |some a=>
  obtain⟨v',w',g,F,H,I,J⟩:=da (P:=P) w B t ty E i z k bytes r hi Z p L aa f v xs.length (xs.flatMap dec) h a ys.length c (ys.flatMap dec) (iN l ys)
   (λj u s=>by
    have W:ys≠[]:=λe=>by subst e;simp at s
    obtain⟨b,o,e,ab,M⟩:=n W;injection e with e;subst e;obtain⟨x,X,Y⟩:=TD f l ys s;have:=M _ x X _ u Y;rw[Addr.add_lit];rwa [show o+j/k*k+j%k=o+j by rw[iY,dW,jI]]at this)
   g N O K
  refine⟨v',w',g,?_,H,I,λb d=>?_⟩
  .unfold bL;rw[aW,jQ];exact F
  .rcases J with e|e
   .exact .inl (e▸d)
   .rw[e]at d;injection d with d;exact .inr oZ
theorem aoP(t ty:ba)(i:cz)(z:az)(bytes:Nat)(p:P.underlying t=ac (.slice E))(hi:P.info? E=ac i)(r:i.zero=ac z)(o:i.size=k)(e:i.bytes=bytes)(s:z.cells.size=k)(f:0<k)(a:Elem dec k)(h:bL w B E k dec v xs){A:Option cM}{m c:Nat}(l:ys.length=m)(n:gF w A k dec ys)(d:B<=(w:Nat))(g:xs.length+m<=b4)(j:(xs.length+m)*bytes<=140737488355328):∃v' w',(bj #[t,t] ty #[v,bf A m c]).run P w=.ok v' w'/\bL w' B E k dec v' (xs++ys)/\w.grownBy w' v.ownBlock/\(v'=bf bc 0 0↔v=bf bc 0 0/\m=0)/\(∀b,v'.ownBlock=ac b->v.ownBlock=ac b\/(w:Nat)<=b):=
 lF t ty i z bytes p hi r o e s f a.len (acf a) h l n d g j
theorem qA{x:α}{b:Nat}{T:ba}{cs:Array az}(h:Blk w b T cs)(c:cs=(dec x).toArray):gF w (ac ⟨b,0,bc⟩) k dec [x]:=λ_=>⟨b,0,rfl,h.lt,λi z a j u d=>by
 have hi:i=0:=by
  rcases i with _|i
  .rfl
  .simp at a
 subst hi;have e:x=z:=by simpa using a
 subst e;rw[show 0+0*k+j=j by omega];refine(h.cell j).trans ?_;rw[c];simpa using d⟩
theorem ahG(t:ba)(i:cz)(b:P.underlying t=ac (.slice E))(hi:P.info? E=ac i)(p:i.size=k)(f:∀x,(dec x).length=k)(h:bL w B E k dec v xs){m:Nat}(a:m<=xs.length):∃A c,(∀W,(b0 t v bc (ac (bo cb m)) bc).run P W=.ok (bf A m c) W)/\gF w A k dec (xs.take m):=by
 obtain⟨A,cap,e,l⟩:=h.sl f;refine⟨A,cap,λW=>?_,l.take m⟩;rcases h.form with⟨e2,rfl⟩|⟨g,n,e2,_,_,j,o⟩
 .rw[e]at e2;cases e2;obtain rfl:m=0:=by simpa using a
  rw[e];simp[b0,run_underlying b,b1,b6,cX,cA,cd,hi]
 .rw[e]at e2;cases e2;rw[e];have d:Addr.add ⟨g,0,bc⟩ 0=⟨g,0,bc⟩:=by rw[Addr.add_lit]
  simp[b0,run_underlying b,b1,b6,cX,cA,cd,hi,bC a j,d]
theorem NG(t:ba)(i:cz)(d:P.underlying t=ac (.slice E))(hi:P.info? E=ac i)(n:i.size=k)(j:∀x,(dec x).length=k)(h:bL w B E k dec v xs){m:Nat}(a:m<=xs.length):∃A c,(∀W,(b0 t v (ac (bo cb m)) bc bc).run P W=.ok (bf A (xs.length-m) c) W)/\gF w A k dec (xs.drop m):=by
 obtain⟨A,cap,e,l⟩:=h.sl j;rcases h.form with⟨e2,rfl⟩|⟨g,o,e2,_,_,r,p⟩
 .rw[e]at e2;cases e2;obtain rfl:m=0:=by simpa using a
  refine⟨bc,0,λW=>?_,λb=>absurd rfl b⟩;rw[e];simp[b0,run_underlying d,b1,b6,cX,cA,cd,hi]
 .rw[e]at e2;cases e2;by_cases f:m=cap
  .refine⟨ac ⟨g,0,bc⟩,cap-m,λW=>?_,λb=>absurd (iH oZ) b⟩;rw[e];simp[b0,run_underlying d,b1,b6,cX,cA,cd,hi,a,f.symm]
  .refine⟨ac ⟨g,0+m*k,bc⟩,cap-m,λW=>?_,l.drop m⟩;rw[e];simp[b0,run_underlying d,b1,b6,cX,cA,cd,hi,a,dq f,n,Addr.add_lit]
theorem mW{o:bh}{a:Act}{w w':ay}{s x:cT}{t b:ba}(c:o.op=.call {callee:=.builtin .append,args:=#[s,x],argTypes:=#[t,b]}){vs vx v':az}(hs:a.eval s=vs)(e:a.eval x=vx)(d:(bj #[t,b] o.type #[vs,vx]).run P w=.ok v' w'):(b8 a.eval o).run P w=.ok (.value v') w':=by unfold b8;simp only[c,eu,eI,ew,ca,ct,b2,jD,dG,fQ,hs,e,d]
theorem lX{o:bh}{a:Act}{w:ay}{s:cT}{t:ba}{lo hi:Option cT}(e:P.underlying t=ac (.slice E))(b:o.op=.slice t s lo hi bc){vs v':az}(hs:a.eval s=vs)(d:(b0 t vs (lo.map a.eval) (hi.map a.eval) bc).run P w=.ok v' w):(b8 a.eval o).run P w=.ok (.value v') w:=by
 have c:(cY t vs (lo.map a.eval) (hi.map a.eval) bc).run P w=.ok v' w:=by simp[cY,run_underlying e,d]
 unfold b8;simp only[b,ca,ct,b2,hs,ef,c]
end
theorem bL.sA{α:Type}{w:ay}{B k:Nat}{E:ba}{v:az}{dec:α->List az}{xs:List α}(h:bL w B E k dec v xs):∃A n c,v=bf A n c:=by rcases h.form with⟨e,_⟩|⟨g,cap,e,_⟩<;>exact⟨_,_,_,e⟩
open Go.RowKit
section
variable {P:bg}
theorem adX{w:ay}{B:Nat}{v:az}{xs:List az}(t ty E:ba)(i:cz)(a:P.underlying t=ac (.slice E))(hi:P.info? E=ac i)(e:i.size=1)(h:fE w B E v xs)(c:Nat):(bj #[t,t] ty #[v,bf bc 0 c]).run P w=.ok v w:=by
 rcases h.2 with⟨rfl,d⟩|⟨g,cap,cur,rfl,_,_,b,_⟩
 .simp[bj,run_underlying a,cA,cd,hi,dc,cl,d]
 .simp[bj,run_underlying a,cA,cd,hi,dc,cl,b,storeCells]
theorem UG{w:ay}{B C:Nat}{v u:az}{xs ys:List az}(t ty E:ba)(i:cz)(z:az)(bytes:Nat)(l:P.underlying t=ac (.slice E))(hi:P.info? E=ac i)(L:i.zero=ac z)(f:i.size=1)(s:i.bytes=bytes)(M:z.cells.size=1)(h:fE w B E v xs)(k:fE w C E u ys)(p:B<=(w:Nat))(o:∀x∈ys,x.oneCell'=a8)(H:(xs.length+ys.length)*bytes<=140737488355328)(N:xs.length+ys.length<=140737488355328):∃v' w',(bj #[t,t] ty #[v,u]).run P w=.ok v' w'/\fE w' B E v' (xs++ys)/\w.grownBy w' v.ownBlock/\(∀k,v'.ownBlock=ac k->v.ownBlock=ac k\/(w:Nat)<=k):=by
 obtain⟨a,c,rfl,d⟩:=k.form;cases a with
 |none=>
  have I:ys=[]:=by
   rcases ys with _|⟨y,ys⟩
   .rfl
   .obtain⟨g,e,_⟩:=d sZ;cases e
  subst I;exact⟨v,w,adX t ty E i l hi f h c,by simpa using h,World.grownBy.refl w _,λk b=>.inl b⟩
 |some n=>
  obtain⟨v',w',K,J,F,_,r⟩:=da (P:=P) w B t ty E i z 1 bytes l hi L f s M oZ v xs.length xs h n ys.length c ys sZ
   (λj u m=>by obtain⟨g,e,_,A⟩:=d (by intro e;subst e;simp at m);injection e with e;subst e;rw[addr_add];exact A j u m) o (by unfold b4;omega) H p
  refine⟨v',w',K,?_,F,λk b=>?_⟩
  .unfold fE;rw[aW];exact J
  .rcases r with e|e
   .exact .inl (e▸b)
   .rw[e]at b;right;have:(w:Nat)=k:=by injection b
    omega
end
open Go.RowKit
section
variable {P:bg} {ops:Array bh} {md:cn} {Y:Sem dC->az->Prop}
def kpY(ops:Array bh)(Y:Sem dC->az->Prop)(i:Nat)(K:Act->Prop)(a:Act):Prop:=
 match ops[i]? with
 |none=>K a
 |some o=>if be o (b3 ops a.tmps)then∃v,Y (b8 a.eval o) v/\K (a.put o.dst v)else K (a.put o.dst co)
theorem alY{i:Nat}{a:Act}{K c:Act->Prop}(h:∀a,K a->c a)(b:kpY ops Y i K a):kpY ops Y i c a:=by
 unfold kpY at*;split
 .exact h _ (by simpa[*]using b)
 .rename_i o ho;simp only[ho]at b;split
  .rename_i hw;simp only[hw,if_true]at b;obtain⟨v,d,e⟩:=b;exact⟨v,d,h _ e⟩
  .rename_i hw;simp only[hw]at b;exact h _ b
def YAt(ops:Array bh)(Y:Sem dC->az->Prop)(o:bh)(v:az)(a:Act):Prop:=(be o (b3 ops a.tmps)=a8/\Y (b8 a.eval o) v)\/(be o (b3 ops a.tmps)=bi/\v=co)
theorem YAt.kpY{i:Nat}{o:bh}{v:az}{a:Act}(hi:ops[i]? =ac o)(c:YAt ops Y o v a){K:Act->Prop}(h:K (a.put o.dst v)):kpY ops Y i K a:=by
 unfold L.kpY;simp only[hi];rcases c with⟨b,hv⟩|⟨b,rfl⟩
 .simp only[b,if_true];exact⟨v,hv,h⟩
 .simp only[b,jG,if_false];exact h
theorem aeK{i:Nat}{o:bh}{a:Act}{K:Act->Prop}(hi:ops[i]? =ac o)(h:kpY ops Y i K a):∃v,YAt ops Y o v a/\K (a.put o.dst v):=by
 unfold kpY at h;simp only[hi]at h;by_cases b:be o (b3 ops a.tmps)=a8
 .simp only[b,if_true]at h;obtain⟨v,c,d⟩:=h;exact⟨v,.inl ⟨b,c⟩,d⟩
 .simp only[b]at h;exact⟨co,.inr ⟨by simpa using b,rfl⟩,h⟩
theorem YAt.of_same{o:bh}{v:az}{a a':Act}(d:YAt ops Y o v a)(b:b8 a'.eval o=b8 a.eval o)(c:be o (b3 ops a'.tmps)=be o (b3 ops a.tmps)):YAt ops Y o v a':=by unfold YAt at*;rw[b,c];exact d
theorem aop{j:Nat}{c d:bh}{v:az}(n:ops[j]? =ac d)(m:c.apart ops d=a8)(p:∀cs b,c.op≠.select cs b)(r:∀cs b,d.op≠.select cs b){K:Act->Prop}{a:Act}(e:YAt ops Y c v a)(h:kpY ops Y j K (a.put c.dst v)):kpY ops Y j (λa'=>YAt ops Y c v a'/\K (a'.put c.dst v)) a:=by
 obtain⟨f,g,i⟩:=Oper.apart_spec m;have l:∀(a:Act),YAt ops Y c v a->∀u,YAt ops Y c v (a.put d.dst u):=λa e u=>
  e.of_same (dg c p a d.dst u i) (dh c a d.dst u i)
 unfold kpY at*;simp only[n]at*;rw[dh d a c.dst v f]at h;split
 .rename_i hw;simp only[hw,if_true]at h;obtain⟨u,k,o⟩:=h;refine⟨u,?_,l a e u,by rw[<-cF a v u g];exact o⟩;rw[dg d r a c.dst v f]at k;exact k
 .rename_i hw;simp only[hw]at h;exact⟨l a e _,by rw[<-cF a v co g];exact h⟩
theorem aiR{j:Nat}{c d:bh}{x:az}(l:ops[j]? =ac d)(k:c.apart ops d=a8)(n:∀cs b,d.op≠.select cs b){K e:Act->Prop}{a:Act}(i:∀a,K a->e (a.put c.dst x))(h:kpY ops Y j K a):kpY ops Y j e (a.put c.dst x):=by
 obtain⟨f,g,p⟩:=Oper.apart_spec k;unfold kpY at*;simp only[l]at*;rw[dh d a c.dst x f];split
 .rename_i hw;simp only[hw,if_true]at h;obtain⟨u,o,m⟩:=h;refine⟨u,?_,by rw[cF a x u g];exact i _ m⟩;rw[dg d n a c.dst x f];exact o
 .rename_i hw;simp only[hw]at h;rw[cF a x co g];exact i _ h
def xC(md:cn)(ops:Array bh)(Y:Sem dC->az->Prop)(n:Nat)(L:Array Bool->Act->Prop):Nat->Array Bool->Act->Prop
 |0,listed,a=>L listed a
 |f+1,listed,a=>
  bn md ops listed≠[]/\∀i∈bn md ops listed,i<n/\kpY ops Y i (xC md ops Y n L f (listed.setIfInBounds i a8)) a
theorem ZV{n i:Nat}{s:bh}{v:az}{L:Array Bool->Act->Prop}(hi:ops[i]? =ac s)(I:∀(j:Nat) (o:bh) cs b,ops[j]? =ac o->o.op≠.select cs b)(hs:cG md ops (n+1)=a8)(O:cw md ops (n+1)=a8)(ad:n+1<ops.size)(ah:i<n)(Q:∀listed a,L listed a->∀j∈bn md ops listed,n+1<=j):∀(f:Nat) (listed:Array Bool) (a:Act),cS md ops (n+1) listed->listed.getD n bi=a8->(∀j r,ops[j]? =ac r->j≠i->listed.getD j a8=bi->(∀e∈r.after,bT md e=a8->e.on≠i)->s.apart ops r=a8)->i∈bn md ops listed->YAt ops Y s v a->xC md ops Y n L f (listed.setIfInBounds i a8) (a.put s.dst v)->xC md ops Y n L (f+1) listed a:=by
 have small:∀(listed:Array Bool) (j:Nat),cS md ops (n+1) listed->listed.getD n bi=a8->listed.getD i a8=bi->j∈bn md ops listed->j<n:=by
  intro listed j p l d c;rcases Nat.lt_trichotomy j n with h|h|h
  .exact h
  .subst h;have J:=(mem_ready.1 c).1;rw[dv J]at l;cases l
  .exact absurd c (ek hs O ad p _ i rfl oZ d j oZ)
 intro f;induction f with
 |zero=>
  intro listed a p l _ m w H;have d:=(mem_ready.1 m).1;refine⟨λh=>(by rw[h]at m;cases m),λj c=>?_⟩;refine⟨small listed j p l d c,?_⟩;by_cases g:j=i
  .subst g;exact w.kpY hi H
  .have:=Q _ _ H j (cc c g);have:=small listed j p l d c;omega
 |succ f ag=>
  intro listed a p l z m w H;have d:=(mem_ready.1 m).1;refine⟨λh=>(by rw[h]at m;cases m),λj c=>?_⟩;have Z:=small listed j p l d c;refine⟨Z,?_⟩;by_cases g:j=i
  .subst g;exact w.kpY hi H
  .have u:=(H.2 j (cc c g)).2;obtain⟨F,r,x,M⟩:=mem_ready.1 c;have af:∀e∈r.after,bT md e=a8->e.on≠i:=λe T N W=>by have u:=M e T N;rw[W,dv d]at u;cases u
   have K:=aop x (z j r x g F af) (λcs b=>I i s cs b hi) (λcs b=>I j r cs b x) w u;have X:∀k ok,ops[k]? =ac ok->k≠i->(listed.setIfInBounds j a8).getD k a8=bi->
     (∀e∈ok.after,bT md e=a8->e.on≠i)->s.apart ops ok=a8:=λk ok aa ab d ae=>by
    refine z k ok aa ab ?_ ae;by_cases A:j=k
    .subst A;exact F
    .rw[du a8 A]at d;exact d
   refine alY (λa' y=>ag (listed.setIfInBounds j a8) a' (p.set c oZ) (getD_set_true l) X (cc m (dq g)) y.1 ?_) K;rw[jK _ _ g];exact y.2
def AQ(ops:Array bh)(Y:Sem dC->az->Prop)(Q:Act->Prop):List bh->Act->Prop
 |[],a=>Q a
 |o::rest,a=>if be o (b3 ops a.tmps)then∃v,Y (b8 a.eval o) v/\AQ ops Y Q rest (a.put o.dst v)else AQ ops Y Q rest (a.put o.dst co)
structure AZ (ops:Array Oper) (Y:Sem Next->Value->Prop) (Q:Act->Prop) (l:List Oper) (a:Act):Prop where
 out:AQ ops Y Q l a
def BL(md:cn)(ops:Array bh)(n g:Nat):Nat->Nat->Array Bool->Bool
 |0,k,listed=>k==n&&cp md ops g (n+1) listed
 |f+1,k,listed=>(bn md ops listed).contains k&&Region.free md ops listed k&&BL md ops n g f (k+1) (listed.setIfInBounds k a8)
theorem MX{n g:Nat}{d:Act->Prop}(u:cy ops=a8)(hs:cG md ops (n+1)=a8)(i:cw md ops (n+1)=a8)(r:n+1<ops.size)(H:0<g):∀(l:List bh) (k:Nat) (listed:Array Bool) (a:Act),(∀j,j<l.length->l[j]? =ops[k+j]?)->k+l.length=n->cS md ops (n+1) listed->listed.getD n bi=a8->BL md ops n g l.length k listed=a8->AQ ops Y d l a->xC md ops Y n (λx a'=>cp md ops g (n+1) x=a8/\d a') l.length listed a
 |[],k,listed,a,_,f,_,_,b,h=>by simp only[BL,ee,bq]at b;exact⟨b.2,h⟩
 |o::l,k,listed,a,m,f,w,p,b,h=>by
  have c:ops[k]? =ac o:=by simpa using(m 0 sZ).symm
  simp only[b5,BL,bq]at b;obtain⟨⟨J,F⟩,y⟩:=b;have I:k<n:=by simp only[b5]at f;omega
  have s:k∈bn md ops listed:=by simpa using J
  have K:kpY ops Y k (AQ ops Y d l) a:=by unfold kpY;simp only[c];exact h
  obtain⟨v,L,z⟩:=aeK c K;refine ZV c (cu u) hs i r I (λx a' A=>?_) l.length listed a w p (di c F) s L
   (MX u hs i r H l (k+1) _ _ (λj e=>by have:=m (j+1) (by simp;omega);simpa[iY,jT 1 j]using this) (by simp only[b5]at f;omega) (w.set s oZ) (getD_set_true p) y z)
  have:=A.1;cases g with
  |zero=>omega
  |succ g=>
   simp only[cp,bq,eT]at this;intro j e;rw[this.1]at e;simp at e;omega
def yP(P:bg)(v:az)(W:ay):Result dC->Prop
 |.ok (.value u) W'=>u=v/\bm W W W'
 |.ok .skip W'=>v=co/\bm W W W'
 |.ok (.enter f args) W'=>bm W W W'/\bt P f args W' (λe W''=>e=bb v/\bm W W W'')
 |_=>False
theorem VU(P:bg)(v u:az)(W W':ay):yP P v W (.ok (.value u) W')=(u=v/\bm W W W'):=rfl
theorem aaf(P:bg)(v:az)(W W':ay):yP P v W (.ok .skip W')=(v=co/\bm W W W'):=rfl
theorem VW(P:bg)(v:az)(f:df)(args:Array az)(W W':ay):yP P v W (.ok (.enter f args) W')=(bm W W W'/\bt P f args W' λe W''=>e=bb v/\bm W W W''):=rfl
def YB(P:bg)(w:ay):Sem dC->az->Prop:=λs v=>∀W,aD w W->yP P v W (s.run P W)
theorem JR{w:ay}{i:Nat}{a:Act}{W:ay}{S:ay->Prop}(l:∀W W',S W->bm W W W'->S W'){K:Act->Prop}{m:Act->ay->Prop}{Q':cE->Act->ay->Prop}(c:bm w w W)(j:S W)(h:∀a W,K a->bm w w W->S W->m a W)(b:kpY ops (YB P w) i K a):eK P ops Q' i m a W:=by
 unfold kpY at b;unfold eK;split
 .rename_i ho;simp only[ho]at b;exact h _ _ b c j
 .rename_i o ho;simp only[ho]at b;split
  .rename_i hw;simp only[hw,if_true]at b;obtain⟨v,p,k⟩:=b;refine .inl ?_;have d:=p W c;unfold cR;generalize(b8 a.eval o).run P W=r at*;cases r with
   |ok n w'=>
    cases n<;>simp only[yP]at d<;>simp only[dE]
    case value u=>obtain⟨rfl,g⟩:=d;exact h _ _ k (aA c g) (l _ _ j g)
    case skip=>obtain⟨rfl,g⟩:=d;exact h _ _ k (aA c g) (l _ _ j g)
    case enter f args=>exact d.2.mono λe y ⟨s,hw⟩=>by subst s;exact h _ _ k (aA c hw) (l _ _ j hw)
   |halt x w'=>simp only[yP]at d
  .rename_i hw;simp only[hw]at b;exact h _ _ b c j
theorem EO{w:ay}{n g:Nat}{L:Array Bool->Act->Prop}{S:ay->Prop}(e:∀W W',S W->bm W W W'->S W'){Q':cE->Act->ay->Prop}(d:∀listed a W,L listed a->bm w w W->S W->ec P md ops Q' g listed a W):∀(f:Nat) (listed:Array Bool) (a:Act) (W:ay),bm w w W->S W->xC md ops (YB P w) n L f listed a->ec P md ops Q' (f+g) listed a W
 |0,listed,a,W,b,c,h=>by rw[aO];exact d _ _ _ h b c
 |f+1,listed,a,W,b,c,h=>by rw[show f+1+g=(f+g)+1 by omega];exact⟨λk=>absurd k h.1,λi hi=>JR e b c (λa' W' j l m=>EO e d f _ a' W' l m j) (h.2 i hi).2⟩
theorem JJ{n:Nat}{on:bh}{x:az}{L L':Array Bool->Act->Prop}(g:∀listed a,L listed a->L' listed (a.put on.dst x))(l:∀(j:Nat) (o:bh) cs b,ops[j]? =ac o->o.op≠.select cs b)(k:∀i c,i<n->ops[i]? =ac c->on.apart ops c=a8):∀(f:Nat) (listed:Array Bool) (a:Act),xC md ops Y n L f listed a->xC md ops Y n L' f listed (a.put on.dst x)
 |0,_,_,h=>g _ _ h
 |f+1,listed,a,h=>⟨h.1,λi hi=>by obtain⟨e,m⟩:=h.2 i hi;obtain⟨_,c,d,_⟩:=mem_ready.1 hi;exact⟨e,aiR d (k i c e d) (λcs b=>l i c cs b d) (λa h=>JJ g l k f _ a h) m⟩⟩
def ajn(md:cn)(ops:Array bh)(n:Nat):Bool:=
 cy ops&&cG md ops (n+1)&&cw md ops (n+1)&&decide (n+1<ops.size)&&
 (match ops[n]? with
  |none=>bi
  |some on=>on.after.all (λe=> !Region.binds md e)&&on.guard.isNone&&(eL n).all (λi=>match ops[i]? with
   |none=>bi
   |some oi=>on.apart ops oi&&oi.after.all λe=> !(bT md e&&e.on==n)))&&
 (eL ops.size).all (λt=>decide (t<=n)||Region.waitsFor md ops t n||decide (n+1<t))&&
 BL md ops n (ops.size-(n+1)) n 0 ((cm ops.size bi).setIfInBounds n a8)
theorem acZ{w:ay}{n g:Nat}{on:bh}{s:Tmp}{T:ba}{z:Array az}{F:Act->Prop}{Q':cE->Act->ay->Prop}(ak:cy ops=a8)(hs:cG md ops (n+1)=a8)(ai:cw md ops (n+1)=a8)(ar:n+1<ops.size)(aq:0<g)(A:ops[n]? =ac on)(aa:∀e∈on.after,bT md e=bi)(ab:on.guard=bc)(Z:on.dst=ac s)(ah:∀i u,i<n->ops[i]? =ac u->on.apart ops u=a8)(am:eh md ops (n+1) n=a8)(ae:∀(a:Act) (W:ay),(b8 a.eval on).run P W=.ok (.value (bp W)) (W.alloc (br z T)))(X:∀listed a b W,cp md ops g (n+1) listed=a8->F a->bm w w W->(w:Nat)<=b->Blk W b T z->ec P md ops Q' g listed (a.put (ac s) (bp (ac ⟨b,0,bc⟩))) W):∀(f:Nat) (listed:Array Bool) (a:Act) (W:ay),bm w w W->cS md ops (n+1) listed->listed.getD n a8=bi->xC md ops (YB P w) n (λr a'=>cp md ops g (n+1) r=a8/\F a') f (listed.setIfInBounds n a8) a->ec P md ops Q' (f+1+g) listed a W:=by
 intro f;induction f with
 |zero=>
  intro listed a W m O o h;have p:n∈bn md ops listed:=mem_ready.2 ⟨o,on,A,λe l d=>by rw[aa e l]at d;cases d⟩;rw[show 0+1+g=g+1 by omega];refine⟨λI=>(by rw[I]at p;cases p),λi hi=>?_⟩;have v:i=n:=by
   rcases Nat.lt_trichotomy i n with J|J|J
   .have j:=cc (i:=n) hi oZ;cases g with
    |zero=>omega
    |succ g=>
     have c:=h.1;simp only[cp,bq,eT]at c;rw[c.1]at j;simp at j;omega
   .exact J
   .exfalso;obtain⟨_,u,N,Y⟩:=mem_ready.1 hi;have ad:i<ops.size:=(bS.1 N).1;rcases fI (n+1) i with j|j
    .have c:=gZ.1 ai i (kQ.2 ad);simp only[ei,eT]at c;rcases c with c|c
     .omega
     .obtain⟨Q,M,e,l,d,L⟩:=Region.waitsFor_spec c;have:Q=u:=ds (M.symm.trans N);subst this;have k:=Y e l d;rw[L,dv (O.tail (i-1) oZ oZ)]at k;cases k
    .have:i=n+1:=by omega
     subst this;obtain⟨Q,M,e,l,d,L⟩:=Region.waitsFor_spec am;have:Q=u:=ds (M.symm.trans N);subst this;have k:=Y e l d;rw[L,dv o]at k;cases k
  subst v;unfold eK;simp only[A,be,ab,if_true];refine .inl ?_;unfold cR;rw[ae];simp only[dE];rw[Z];exact X _ _ _ _ h.1 h.2 (aA m (bZ)) m.size (Blk.new _ _ _)
 |succ f an=>
  intro listed a W m O o h;have p:n∈bn md ops listed:=mem_ready.2 ⟨o,on,A,λe l d=>by rw[aa e l]at d;cases d⟩;rw[show f+1+1+g=(f+1+g)+1 by omega];refine⟨λI=>(by rw[I]at p;cases p),λi hi=>?_⟩;by_cases v:i=n
  .subst v;unfold eK;simp only[A,be,ab,if_true];refine .inl ?_;unfold cR;rw[ae];simp only[dE];have j:=JJ (on:=on) (x:=bp W) (L':=λr a'=>cp md ops g (i+1) r=a8/\∃H,a'=H.put on.dst (bp W)/\F H) (λr a' y=>⟨y.1,a',rfl,y.2⟩) (cu ak) ah _ _ _ h;refine EO (S:=λW'=>Blk W' W T z) (λao ap d aj=>Blk.below d aj (Blk.lt d)) (λr a' W' y K ag=>?_) (f+1) _ _ _ (aA m (bZ)) (Blk.new _ _ _) j;obtain⟨c,H,rfl,k⟩:=y;rw[Z];exact X _ _ _ _ c k K m.size ag
  .have j:=cc (i:=n) hi v;obtain⟨ad,c⟩:=h.2 i j;have al:(listed.setIfInBounds n a8).setIfInBounds i a8=(listed.setIfInBounds i a8).setIfInBounds n a8:=jK _ _ oZ;rw[al]at c;refine JR (S:=λ_=>True) (λ_ _ _ _=>trivial) m trivial (λa' W' af K _=>?_) c;exact an _ a' W' K (O.set hi oZ) (by rw[du a8 oZ];exact o) af
end
theorem xV{P:bg}{id:Nat}{Q:cE->Act->ay->Prop}{a:Act}{w:ay}{l:List bh}(n:Nat)(T:ba)(z:Array az)(s:Tmp)(ae:P.follows .mixedOrders=a8)(r:ajn .any l.toArray n=a8)(ag:∃on,l[n]? =ac on/\on.dst=ac s/\∀(a:Act) (W:ay),(b8 a.eval on).run P W=.ok (.value (bp W)) (W.alloc (br z T)))(h:AZ l.toArray (YB P w) (λa'=>∀b W,aD w W->(w:Nat)<=b->Blk W b T z->cH P l.toArray Q (l.drop (n+1)) (a'.put (ac s) (bp (ac ⟨b,0,bc⟩))) W) (l.take n) a):(cx id l.toArray a8).wp P Q a w:=by
 obtain⟨on,ai,O,ak⟩:=ag;simp only[ajn,bq,eT]at r;obtain⟨⟨⟨⟨⟨⟨F,hs⟩,u⟩,f⟩,o⟩,M⟩,ab⟩:=r;have p:l.toArray[n]? =ac on:=by simpa using ai
 rw[p]at o;simp only[bq]at o;obtain⟨⟨X,Z⟩,N⟩:=o;have af:n+1<l.length:=by simpa using f
 have k:(l.take n).length=n:=by simp;omega
 have v:(l.drop (n+1)).length=l.toArray.size-(n+1):=sZ;have ao:l.toArray.size=l.length:=sZ;have am:eh .any l.toArray (n+1) n=a8:=by
  have c:=gZ.1 M (n+1) (kQ.2 f);simp only[ei,eT]at c;rcases c with(c|c)|c
  .omega
  .exact c
  .omega
 have I:cS .any l.toArray (n+1) (cm l.toArray.size bi):=
  ⟨sZ,λj aq _ A=>(by rw[b9]at A;cases A),λt _ al=>er (by simpa using al) (b9 _ _)⟩
 have x:∀e∈on.after,bT .any e=bi:=λe m=>by have:=Array.all_eq_true'.1 X e m;simpa using this
 have an:cS .any l.toArray (n+1) ((cm l.toArray.size bi).setIfInBounds n a8):=by refine I.set (mem_ready.2 ⟨er (by simp;omega) (b9 _ _),on,p,λe m d=>by rw[x e m]at d;cases d⟩) oZ
 have ad:((cm l.toArray.size bi).setIfInBounds n a8).getD n bi=a8:=by simp[af];omega
 have H:=MX (md:=.any) (Y:=YB P w) (n:=n) (g:=l.toArray.size-(n+1)) F hs u f oZ (l.take n) 0 _ a (λj y=>by
  have aa:j<n:=by rw[k]at y;exact y
  simp[aa]) (by simpa using k) an ad (by rw[k];exact ab) h.out
 refine dw ae ?_;have:=acZ (Q':=Q) (w:=w) (s:=s) (T:=T) (z:=z) F hs u f (by omega:0<l.toArray.size-(n+1)) p x (by simpa using Z) O (λi ap hi ah=>by
   have c:=gZ.1 N i (kQ.2 hi);rw[ah]at c;simp only[bq]at c;exact c.1) am ak (λlisted a b W aj L K d J=>by
   have:=eA (md:=.any) (Q':=Q) (l.drop (n+1)) (n+1) listed (a.put (ac s) (bp b)) W (λj=>by simp[jZ]) (by rw[v];exact aj) (L b W K d J);rwa [v]at this) (l.take n).length _ a w.drew ((aK _ _:bm w w w).drew) I (er (by simp;omega) (b9 _ _)) H
 rw[k,show n+1+(l.toArray.size-(n+1))=l.toArray.size by omega]at this;exact this
theorem yV{ops:Array bh}{Y:Sem dC->az->Prop}{Q:Act->Prop}{a:Act}(h:Q a):AZ ops Y Q [] a:=⟨h⟩
theorem qO{ops:Array bh}{Y:Sem dC->az->Prop}{Q:Act->Prop}{a a':Act}{o:bh}{rest:List bh}(v:az)(c:be o (b3 ops a.tmps)=a8)(h:Y (b8 a.eval o) v)(b:a.put o.dst v=a')(k:AZ ops Y Q rest a'):AZ ops Y Q (o::rest) a:=by subst b;refine⟨?_⟩;unfold AQ;rw[aI c];exact⟨v,h,k.out⟩
attribute [go_sem] VU aaf VW
theorem fY{ops:Array bh}{Y:Sem dC->az->Prop}{Q:Act->Prop}{a a':Act}{o:bh}{rest:List bh}{v:az}(k:AZ ops Y Q rest a')(c:be o (b3 ops a.tmps)=a8:=by rfl)(h:Y (b8 a.eval o) v:=by(intro W d;go_simp;first|done|exact⟨rfl,aK _ _⟩|exact aK _ _|rfl))(b:a.put o.dst v=a':=by(go_simp;first|done|rfl)):AZ ops Y Q (o::rest) a:=qO v c h b k
open Go.RowKit
section
variable {P:bg}
theorem VF(w:ay)(p:cM)(ty:ba)(cs:Array az)(d:TypeDesc)(c:∀j v,cs[j]? =ac v->w.cell? (p.add j)=ac v)(e:P.underlying ty=ac d)(f:(match d with|.struct _|.array _ _=>a8|_=>bi)=a8)(hi:(P.info? ty).map (·.size)=ac cs.size):(loadVar ty p).run P w=.ok (.agg cs) w:=by
 have b:(loadCells p cs.toList.length).run P w=.ok cs.toList.toArray w:=
  run_loadCells_list (P:=P) w p cs.toList (λj v hv=>c j v (by simpa using hv))
 cases a:P.info? ty with
 |none=>simp[a]at hi
 |some i=>
  have hs:i.size=cs.size:=by simpa[a]using hi
  have hagg:(isAgg ty).run P w=.ok a8 w:=by unfold isAgg;rw[ca,run_underlying e w];cases d<;>simp_all
  simp only[Array.length_toList,Array.toArray_toList]at b;simp[loadVar,ca,hagg,cA,cd,a,hs,b]
theorem yH{b:Array bh}{rest:List bh}{o:bh}{a:Act}{w:ay}{Q:cE->Act->ay->Prop}(g:o.guard=bc)(ty:ba)(x:cT)(i:o.op=.load ty x)(p:cM)(l:a.eval x=bp (ac p))(cs:Array az)(d:TypeDesc)(e:∀j v,cs[j]? =ac v->w.cell? (p.add j)=ac v)(k:P.underlying ty=ac d)(f:(match d with|.struct _|.array _ _=>a8|_=>bi)=a8)(hi:(P.info? ty).map (·.size)=ac cs.size)(h:cH P b Q rest (a.put o.dst (.agg cs)) w):cH P b Q (o::rest) a w:=
 cN g λ_ c=>by unfold cR b8;simp only[i,l,Instr.loadAt,Instr.sureAddr,ca,ct,b2,VF w p ty cs d e k f hi];exact c _ _ h
end
theorem jM(w:ay)(g:Nat)(cs:Array az):aL (λi=>i=g) w (w.setRow g cs):=
 ⟨rfl,rfl,rfl,sZ,λk _ a=>setRow_other w g k cs a⟩
theorem Blk.row{w:ay}{g:Nat}{t:ba}{old:Array az}(h:Blk w g t old)(cs:Array az):Blk (w.setRow g cs) g t cs:=setRow_heap w g old cs t (0,0) h
end L
namespace EM
open Go.RowKit L
theorem vW(c:Nat)(h:c<4294967296):dn .xor .u32 ((c:Int)/2) (dn .and .u32 2197175160 (-dn .and .u32 (c:Int) 1%4294967296))=(dt c:Int):=by
 have e1:dn .and .u32 (c:Int) 1=((c%2:Nat):Int):=by rw[show(1:Int)=((1:Nat):Int)from rfl,rH .u32 rfl c 1 h dZ,Nat.and_one_is_mod]
 rw[e1];have e2:((c:Int)/2)=((c/2:Nat):Int):=oZ;rw[e2];unfold dt;by_cases a:c%2=1
 .rw[a,aI rfl];have e3:(-((1:Nat):Int)%4294967296)=((4294967295:Nat):Int):=dZ;rw[e3,show(2197175160:Int)=((2197175160:Nat):Int)from rfl,rH .u32 rfl _ _ dZ dZ,yD .u32 rfl _ _ (by show _<4294967296;omega) dZ];rfl
 .have b:c%2=0:=oZ;rw[b,aF oZ];have e3:(-((0:Nat):Int)%4294967296)=((0:Nat):Int):=dZ;rw[e3,show(2197175160:Int)=((2197175160:Nat):Int)from rfl,rH .u32 rfl _ _ dZ dZ,yD .u32 rfl _ _ (by show _<4294967296;omega) dZ];simp
theorem aas(c:Nat)(b:UInt8)(h:c<4294967296):dn .xor .u32 (c:Int) ((b.toNat:Int)%4294967296)=((c ^^^ b.toNat:Nat):Int):=by have:=b.toNat_lt;rw[show((b.toNat:Int)%4294967296)=((b.toNat:Nat):Int) by omega];exact yD .u32 rfl _ _ h (by show _<4294967296;omega)
theorem anp(c:Nat)(h:c<4294967296):dn .xor .u32 4294967295 (c:Int)=((c ^^^ 4294967295:Nat):Int):=by rw[show(4294967295:Int)=((4294967295:Nat):Int)from rfl,yD .u32 rfl _ _ dZ h,Nat.xor_comm]
theorem ano(c:Nat)(h:c<4294967296):dn .xor .u32 IntKind.u32.max (c:Int)=((c ^^^ 4294967295:Nat):Int):=anp c h
theorem drop_cons(s:ByteArray)(k:Nat)(h:k<s.size):s.data.toList.drop k=s[k]::s.data.toList.drop (k+1):=by rw[cZ (by simpa using h)];rfl
theorem aeR(j c:Nat)(h:j<8):Crc.turns (8-j) c=Crc.turns (8-(j+1)) (dt c):=by rw[show 8-j=(8-(j+1))+1 by omega];rfl
theorem aeb(s:ByteArray)(w:ay)(hs:s.size<=b4):bt b7 257 #[bk s] w λe w'=>e=bb (bo .u32 (dd s.data.toList))/\w=w':=by
 unfold b4 at hs;go_enter func257,ntmps257;go_wp2;refine QS (λl a' w'=>w=w'/\∃(x i t u1 u6 u7 u8 u9 u10 u11 u12 u13 u14 u15 u16 u17 u18 u19 u20 u21 u22 u23 u24 u25 u26 u27 u28 u29 u30:az),a'={tmps:=#[bk s,u1,bo .u32 0,x,i,t,u6,u7,u8,u9,u10,u11,u12,u13,u14,u15,u16,u17,u18,u19,u20,u21,u22,u23,u24,u25,u26,u27,u28,u29,u30],defers:=[]}/\((l=0/\∃(k c:Nat),x=bo .u32 c/\i=bo cb k/\k<=s.size/\c<4294967296/\ey (s.data.toList.drop k) c=ey s.data.toList 4294967295)
  \/(l=1/\∃(k c j:Nat),x=bo .u32 c/\i=bo cb k/\t=bo cb j/\k<=s.size/\j<8/\c<4294967296/\ey (s.data.toList.drop k) (Crc.turns (8-j) c)=ey s.data.toList 4294967295)))
  (λl a' _=>if l=0 then 10*(s.size-(intOf (a'.tmps.getD 4 co)).toNat)else 10*(s.size-(intOf (a'.tmps.getD 4 co)).toNat)+(9-(intOf (a'.tmps.getD 5 co)).toNat)) ?_ ?_
 .by_cases v:s.size=0
  .have f:((0:Int)==(s.size:Int))=a8:=by simp;omega
   go_wp2
   go_step3
   go_wp2;simp only[YR];have u:s.data.toList=[]:=by apply fK;simpa using v
   go_ret;exact⟨fT (by rw[u];decide),rfl⟩
  .have f:((0:Int)==(s.size:Int))=bi:=by simp;omega
   have o:0<s.size:=oZ;have p:=qZ (drop_cons s 0 o);go_wp2
   go_step3
   go_wp2
   go_step3
   go_wp2
   go_step3
   refine⟨rfl,_,_,_,_,_,_,_,_,_,_,_,_,_,_,_,_,_,_,_,_,_,_,_,_,_,_,_,_,_,rfl,.inr ⟨rfl,1,dt (4294967295 ^^^ s[0].toNat),1,ret_val ?_,rfl,rfl,o,oZ,LM _ (wD _ _ oZ),?_⟩⟩
   .rw[show(4294967295:Int)=((4294967295:Nat):Int)from rfl,aas _ _ oZ,vW _ (wD _ _ oZ)]
   .have:=p.out;rw[bB]at this
    conv=>rhs;rw[this]
    rfl
 .rintro l a' w'⟨rfl,x,i,t,u1,u6,u7,u8,u9,u10,u11,u12,u13,u14,u15,u16,u17,u18,u19,u20,u21,u22,u23,u24,u25,u26,u27,u28,u29,u30,rfl,⟨rfl,k,c,rfl,rfl,g,a,d⟩|⟨rfl,k,c,j,rfl,rfl,rfl,g,r,a,d⟩⟩
  .refine⟨_,rfl,?_⟩;have b:=qZ d;by_cases m:k<s.size
   .have f:((k:Int)==(s.size:Int))=bi:=by simp;omega
    go_wp2
    go_step3
    go_wp2
    go_step3
    refine⟨⟨rfl,_,_,_,_,_,_,_,_,_,_,_,_,_,_,_,_,_,_,_,_,_,_,_,_,_,_,_,_,_,rfl,.inr ⟨rfl,k+1,dt (c ^^^ s[k].toNat),1,ret_val ?_,rfl,rfl,m,oZ,LM _ (wD _ _ a),?_⟩⟩,?_⟩
    .rw[aas _ _ a,vW _ (wD _ _ a)]
    .rw[<-b.out,drop_cons s k m];rfl
    .simp[intOf];omega
   .obtain rfl:k=s.size:=by omega
    have f:((s.size:Int)==(s.size:Int))=a8:=sZ;go_wp2;simp only[YR];go_ret;have n:=b.out;rw[iG sZ]at n;exact⟨fT (by rw[ano c a,dd,<-n];rfl),rfl⟩
  .refine⟨_,rfl,?_⟩;have b:=qZ d;by_cases m:j<7
   .go_wp2
    go_step3
    refine⟨⟨rfl,_,_,_,_,_,_,_,_,_,_,_,_,_,_,_,_,_,_,_,_,_,_,_,_,_,_,_,_,_,rfl,.inr ⟨rfl,k,dt c,j+1,ret_val ?_,rfl,rfl,g,oZ,LM _ a,?_⟩⟩,?_⟩
    .rw[vW _ a]
    .rw[<-b.out,aeR j c r]
    .simp[intOf];omega
   .obtain rfl:j=7:=by omega
    go_wp2
    go_step3
    refine⟨⟨rfl,_,_,_,_,_,_,_,_,_,_,_,_,_,_,_,_,_,_,_,_,_,_,_,_,_,_,_,_,_,rfl,.inl ⟨rfl,k,dt c,ret_val ?_,rfl,g,LM _ a,?_⟩⟩,?_⟩
    .rw[vW _ a]
    .rw[<-b.out];rfl
    .simp[intOf]
theorem aod(a b c d:UInt8):dn .or .u32 (dn .or .u32 (dn .or .u32 ((a.toNat:Int)%4294967296) ((b.toNat:Int)%4294967296*256%4294967296)) ((c.toNat:Int)%4294967296*65536%4294967296)) ((d.toNat:Int)%4294967296*16777216%4294967296)=((a.toNat+b.toNat*256+c.toNat*65536+d.toNat*16777216:Nat):Int):=by
 have k:=a.toNat_lt;have l:=b.toNat_lt;have m:=c.toNat_lt;have n:=d.toNat_lt;have e:((a.toNat:Int)%4294967296)=((a.toNat:Nat):Int):=oZ;have e1:((b.toNat:Int)%4294967296*256%4294967296)=((b.toNat*256:Nat):Int):=oZ;have e2:((c.toNat:Int)%4294967296*65536%4294967296)=((c.toNat*65536:Nat):Int):=oZ;have e3:((d.toNat:Int)%4294967296*16777216%4294967296)=((d.toNat*16777216:Nat):Int):=oZ;have f:a.toNat|||b.toNat*256=a.toNat+b.toNat*256:=by rw[Nat.or_comm,dW,jT];exact(iW (i:=8) oZ _).symm
 have g:(a.toNat+b.toNat*256)|||c.toNat*65536=a.toNat+b.toNat*256+c.toNat*65536:=by rw[Nat.or_comm,dW c.toNat,jT _ (65536*c.toNat)];exact(iW (i:=16) oZ _).symm
 have j:(a.toNat+b.toNat*256+c.toNat*65536)|||d.toNat*16777216=a.toNat+b.toNat*256+c.toNat*65536+d.toNat*16777216:=by rw[Nat.or_comm,dW d.toNat,jT _ (16777216*d.toNat)];exact(iW (i:=24) oZ _).symm
 rw[e,e1,e2,e3,sM .u32 rfl _ _ (by show _<4294967296;omega) (by show _<4294967296;omega),f,sM .u32 rfl _ _ (by show _<4294967296;omega) (by show _<4294967296;omega),g,sM .u32 rfl _ _ (by show _<4294967296;omega) (by show _<4294967296;omega),j]
theorem or_none(x:Int)(a:0<=x)(h:x<4294967296):dn .or .u32 0 x=x:=by obtain⟨n,rfl⟩:=fM a;rw[show(0:Int)=((0:Nat):Int)from rfl,sM .u32 rfl _ _ dZ (by show _<4294967296;omega),Nat.zero_or]
theorem agL(s:ByteArray)(h:4<=s.size):ej s.data.toList=(s[0]'oZ).toNat+(s[1]'oZ).toNat*256+(s[2]'oZ).toNat*65536+(s[3]'oZ).toNat*16777216:=by have e:=drop_cons s 0 oZ;rw[bB,drop_cons s 1 oZ,drop_cons s 2 oZ,drop_cons s 3 oZ]at e;rw[e];rfl
theorem acH(s:ByteArray)(w:ay)(hs:4<=s.size):bt b7 310 #[bk s] w λe w'=>e=bb (bo .u32 (ej s.data.toList))/\w=w':=by
 have a:∀w,(cU 9 (bk s) (bo cb 0)).run b7 w=.ok (bo .u8 ((s[0]'oZ).toNat:Int)) w:=tH 9 cq s cb 0 oZ;have b:∀w,(cU 9 (bk s) (bo cb 1)).run b7 w=.ok (bo .u8 ((s[1]'oZ).toNat:Int)) w:=tH 9 cq s cb 1 oZ;have c:∀w,(cU 9 (bk s) (bo cb 2)).run b7 w=.ok (bo .u8 ((s[2]'oZ).toNat:Int)) w:=tH 9 cq s cb 2 oZ;have d:∀w,(cU 9 (bk s) (bo cb 3)).run b7 w=.ok (bo .u8 ((s[3]'oZ).toNat:Int)) w:=tH 9 cq s cb 3 oZ;go_enter func310,ntmps310;go_wp2
 go_rounds 5
 go_ret;have:=(s[0]'oZ).toNat_lt;exact⟨fT (by rw[or_none _ oZ oZ,aod,agL s hs]),rfl⟩
theorem ace(n:Nat)(h:n<4294967296)(w:ay):bt b7 256 #[bo .u32 n] w λe w'=>e=bb (bk ⟨(dx n).toArray⟩)/\bm w w w':=by
 have b:=λ(w:ay)=>MV (P:=b7) 239 9 5 bz ea cq w
  #[bo .u8 ((n:Int)%256),bo .u8 ((n:Int)/256%256),bo .u8 ((n:Int)/65536%256),bo .u8 ((n:Int)/16777216)] 5 (dx n) 4 4
  (by simp[dx];omega) rfl
 have a:∀w,(Instr.makeSlice 239 (bo cb 4) (bo cb 4)).run b7 w=.ok (bf (ac ⟨w,0,bc⟩) 4 4) (w.alloc (br #[bo .u8 0,bo .u8 0,bo .u8 0,bo .u8 0] 5)):=λ_=>kZ;go_enter func256,ntmps256;go_wp2
 go_rounds 5
 go_ret;exact⟨rfl,by go_grown⟩
end EM
variable{args:Array az}{v:az}
namespace EM
open Go.RowKit L
theorem ajk(s:ByteArray)(h:s.size<=16384):str (dx s.size)++str (dx (dd s.data.toList))++s=str (ez s.data.toList):=by have a:s.data.toList.length=s.size:=sZ;rw[II _ oZ,a,<-GH,<-GH,ByteArray.append_assoc];rfl
theorem ajl(s:ByteArray)(w:ay)(hs:s.size<=b4):bt b7 227 #[bk s] w λe w'=>e=bb (bk (str (ez s.data.toList)))/\bm w w w':=by
 have d:=hs;unfold b4 at hs;by_cases h:s.size<=16384
 .have f:=qZ (Crc.sum_lt s.data.toList);have c:=qZ (ajk s h);go_enter func227,ntmps227;go_wp2_with fail;refine(ace s.size oZ _).mono ?_;rintro e w1⟨rfl,a⟩;go_wp2_with fail;refine(aeb s _ d).mono ?_;rintro e g⟨rfl,rfl⟩;go_wp2_with fail;refine(ace _ f.out _).mono ?_;rintro e g⟨rfl,b⟩;have j:(dx s.size).length<=4:=bG _;have k:(dx (dd s.data.toList)).length<=4:=bG _;go_wp2;go_ret;exact⟨GR c.out,a.trans (b.mono a.size)⟩
 .go_enter func227,ntmps227;go_wp2;go_ret;have i:s.data.toList.length=s.size:=sZ;exact⟨GR (by rw[ez,aI oZ];rfl),aK _ _⟩
theorem drop_eq(s:ByteArray)(k:Nat):(s.extract k s.size).data.toList=s.data.toList.drop k:=by rw[extract_eq,mK];exact aU sZ
theorem aoa(s:ByteArray)(n:Nat):(s.extract 8 (8+n)).data.toList=(s.data.toList.drop 8).take n:=by rw[extract_eq,mK,show 8+n-8=n by omega]
theorem alB(s:ByteArray)(n:Nat):str ((s.data.toList.drop 8).take n)=s.extract 8 (8+n):=by rw[extract_eq,show 8+n-8=n by omega]
def LZ(l:List UInt8):az:=cL #[bk (str (bd l).1),bo cb (bd l).2.1,bo cb (bd l).2.2]
theorem yL{l a:List UInt8}{e:Nat}(h:bd l=(a,n,e)):LZ l=cL #[bk (str a),n,e]:=by unfold LZ;rw[h]
theorem abp(s:ByteArray)(w:ay)(hs:s.size<=b4):bt b7 298 #[bk s] w λe w'=>e=bb (LZ s.data.toList)/\∃n,w'=w.drewN n:=by
 have I:=hs;unfold b4 at hs;have c:s.data.toList.length=s.size:=sZ;have d:=qZ c;by_cases F:8<=s.size
 .have H:=yL (l:=s.data.toList) (a:=(bd s.data.toList).1) (n:=(bd s.data.toList).2.1) (e:=(bd s.data.toList).2.2) rfl;have y:=aeD s.data.toList;have z:=aeD (s.data.toList.drop 4);obtain⟨n,b⟩:=nZ (ej s.data.toList);obtain⟨m,i⟩:=nZ (ej (s.data.toList.drop 4));rw[b]at y;rw[i]at z;have v:∀w,bt b7 310 #[bk s] w λe w'=>e=bb (bo .u32 n)/\w=w':=λw=>by rw[<-b];exact acH s w oZ
  have c4:∀w,bt b7 310 #[bk (s.extract 4 s.size)] w λe w'=>e=bb (bo .u32 m)/\w=w':=λw=>by rw[<-i,<-drop_eq s 4];exact acH _ w (by simp;omega)
  have p:=qZ v;have r:=qZ c4;have f:=qZ b;have o:=qZ i;clear b i;go_enter func298,ntmps298;go_wp2;go_quiet (first|(go_at_call 310;with_reducible exact NP (p.out _))|(go_at_call 310;with_reducible exact NP (r.out _)));by_cases g:16384<n
  .go_wp2;go_ret3;have c:=d.out;have b:=f.out;exact⟨by rw[yL (show bd s.data.toList=([],0,8) by rw[bd,aF oZ,b,aI g])];rfl,⟨_,rfl⟩⟩
  by_cases A:s.size<n+8
  .go_wp2;go_ret3;have c:=d.out;have b:=f.out;exact⟨by rw[yL (show bd s.data.toList=([],0,10) by rw[bd,aF oZ,b,aF g,aI oZ])];rfl,⟨_,rfl⟩⟩
  have cs:∀w,bt b7 257 #[bk (s.extract 8 (8+n))] w λe w'=>e=bb (bo .u32 (dd ((s.data.toList.drop 8).take n)))/\w=w':=λw=>by rw[<-aoa];exact aeb _ w (by unfold b4;simp;omega)
  have k:=qZ cs;by_cases j:dd ((s.data.toList.drop 8).take n)=m
  .have x:((dd ((s.data.toList.drop 8).take n):Int) !=(m:Int))=bi:=by rw[j];simp
   have u:=qZ j;go_wp2_with(go_at_call 257;(with_reducible refine(k.out _).mono ?_);rintro e w'⟨rfl,rfl⟩);go_ret3;have c:=d.out;have b:=f.out;exact⟨by rw[yL (show bd s.data.toList=((s.data.toList.drop 8).take n,n+8,0) by rw[bd,aF oZ,b,o.out,aF g,aF oZ,u.out,aF sZ]),alB s n];rfl,⟨_,rfl⟩⟩
  .have x:((dd ((s.data.toList.drop 8).take n):Int) !=(m:Int))=a8:=by rw[bne_iff_ne];omega
   go_wp2_with(go_at_call 257;(with_reducible refine(k.out _).mono ?_);rintro e w'⟨rfl,rfl⟩);go_ret3;have c:=d.out;have b:=f.out;exact⟨by rw[yL (show bd s.data.toList=([],0,11) by rw[bd,aF oZ,b,o.out,aF g,aF oZ,aI j])];rfl,⟨_,rfl⟩⟩
 .go_enter func298,ntmps298;go_wp2;go_ret3;have c:=d.out;exact⟨by rw[yL (show bd s.data.toList=([],0,10) by rw[bd,aI oZ])];rfl,⟨0,rfl⟩⟩
theorem aoZ{P:bg}{f:df}(h:bt P f args (w.drewN n) λe w'=>e=bb v/\∃m,w'=(w.drewN n).drewN m):bt P f args (w.drewN n) λe a=>e=bb v/\∃m,a=w.drewN m:=
 Calls.quiet_of h
end EM
namespace oQ
open Go.RowKit L EM
def vs(l:List UInt8):az:=bk (str l)
theorem anz:(prog.info? 9).map (λi=>(i.zero,i.size,i.bytes))=ac (ac (bk ByteArray.empty),1,16):=by kernel_rfl
theorem aoK(rest:List UInt8)(b:Nat)(w:ay)(hs:rest.length<=4194304)(k:w.cell? (b,0)=ac (vs rest))(l:w.frozen? (b,0)=bi)(h:(bd rest).2.2=0):bt b7 297 #[bp b] w λe w'=>e=bb (cL #[vs (bd rest).1,((bd rest).2.1:Int),cr a8])/\∃m,w'=(w.setCell (b,0) (vs (rest.drop (bd rest).2.1))).drewN m:=by
 have a:=λw=>abp (str rest) w (by rw[nR];unfold b4;omega);have d:=(AU rest h).2.1;have hv:LZ (str rest).data.toList=cL #[vs (bd rest).1,((bd rest).2.1:Int),()]:=by rw[mK];unfold LZ;rw[h];rfl
 rw[hv]at a;have c:(str rest).extract (bd rest).2.1 (str rest).size=str (rest.drop (bd rest).2.1):=by rw[extract_eq,mK,nR];congr 1;exact aU sZ
 obtain⟨n,i⟩:=nQ ((bd rest).2.1);obtain⟨t,j⟩:=nQ ((bd rest).1);rw[i.out]at a d c⊢;rw[j.out]at a⊢;unfold vs at*;have p:(str rest).size<=4194304:=by rw[nR];exact hs
 have o:n<=(str rest).size:=by rw[nR];exact d
 have g:=qZ a;have f:=qZ c;go_enter func297,ntmps297;go_wp2_with fail;refine(g _).mono ?_;rintro e w1⟨rfl,m,rfl⟩;go_wp2_with fail;go_ret3;refine⟨rfl,m,?_⟩;rw[<-f.out];rfl
theorem apY(rest:List UInt8)(b:Nat)(w:ay)(hs:rest.length<=4194304)(g:w.cell? (b,0)=ac (vs rest))(h:(bd rest).2.2≠0):bt b7 297 #[bp b] w λe w'=>e=bb (cL #[bk ByteArray.empty,(),cr bi])/\∃m,w'=w.drewN m:=by
 have a:=λw=>abp (str rest) w (by rw[nR];unfold b4;omega);rw[mK]at a;unfold LZ vs at*;obtain⟨x,c⟩:=nZ ((bd rest).2.2);rw[c]at a h;have f:((x:Int) !=0)=a8:=by rw[bne_iff_ne];omega
 generalize(bd rest).1=t at*;generalize(bd rest).2.1=n at*;have d:=qZ a;clear c;go_enter func297,ntmps297;go_wp2_with fail;refine(d _).mono ?_;rintro e w1⟨rfl,m,rfl⟩;go_wp2_with fail;go_ret3;exact⟨rfl,m,rfl⟩
theorem agc(s:ByteArray)(w:ay):bt b7 282 #[bk s] w λe w'=>e=bb (.func (.func 297) #[] #[bp w])/\w'=w.alloc (br #[bk s] 9):=by go_enter func282,ntmps282;go_wp2;go_ret;exact⟨rfl,rfl⟩
def BX(w:ay)(B:Nat)(v:az)(l:List (List UInt8)):Prop:=fE w B 9 v (l.map vs)
def aeJ(l:List UInt8)(w:ay)(e:Ending)(w':ay):Prop:=∃v,e=bb (cL #[v,((dk l).2:Int)])/\BX w' (w:Nat) v (dk l).1/\bm w w w'
theorem agM{B:Nat}{l:List (List UInt8)}(h:BX w B v l)(a:B<=(w:Nat))(x:List UInt8)(j:l.length<=1048576):∃v' w',(bj #[252,252] 252 #[v,bf w 1 1]).run b7 (w.alloc (br #[vs x] 9))=.ok v' w'/\BX w' B v' (l++[x])/\(w.alloc (br #[vs x] 9)).grownBy w' v.ownBlock/\(∀k,v'.ownBlock=ac k->v.ownBlock=ac k\/(w:Nat)<=k):=by obtain⟨i0,hi,f,g,i⟩:=el anz;have m:(l.map vs).length=l.length:=sZ;obtain⟨v',w',e,d,b,c⟩:=IZ (P:=b7) 252 252 9 i0 _ 16 underlying252 hi f g i rfl h a (vs x) rfl oZ oZ;exact⟨v',w',e,by unfold BX;rw[dO];exact d,b,c⟩
theorem ahJ(l rest:List UInt8)(a:List (List UInt8))(dR:Nat)(h:dk l=(a++(dk rest).1,dR+(dk rest).2))(b:(bd rest).2.2=0):dk l=((a++[(bd rest).1])++(dk (rest.drop (bd rest).2.1)).1,(dR+(bd rest).2.1)+(dk (rest.drop (bd rest).2.1)).2):=by rw[h,XK rest b];simp only[bM,List.singleton_append,iY]
theorem ahK(l rest:List UInt8)(a:List (List UInt8))(dR:Nat)(h:dk l=(a++(dk rest).1,dR+(dk rest).2))(b:(bd rest).2.2≠0):dk l=(a,dR):=by rw[h,XJ rest b];simp
theorem akU(l:List UInt8)(w:ay)(hs:l.length<=4194304):bt b7 251 #[bk (str l)] w (aeJ l w):=by
 go_enter func251,ntmps251;go_wp2_with fail;refine(agc _ _).mono ?_;rintro e w1⟨rfl,rfl⟩;have X:fE (w.alloc (br #[vs l] 9)) ((w:Nat)+1) 9 (bf bc 0 0) (List.map vs []):=fE.nil _ _ _;have J:(w.alloc (br #[vs l] 9)).cell? (w,0)=ac (vs l):=by rw[bu];rfl
 have Q:(w.alloc (br #[vs l] 9)).frozen? (w,0)=bi:=by rw[World.frozen?_alloc_mark];simp
 go_wp2_with fail;go_loopw [4,5] (λv a wr=>∃(c:List (List UInt8)) (rest:List UInt8) (k:Nat),a=bo cb (k:Int)/\k+rest.length=l.length/\8*c.length<=k/\BX wr ((w:Nat)+1) v c/\wr.cell? (w,0)=ac (vs rest)/\wr.frozen? (w,0)=bi/\bm w w wr/\(w:Nat)<(wr:Nat)/\Hid (dk l=(c++(dk rest).1,k+(dk rest).2))) (λ_ a _=>l.length-(intOf a).toNat);exact⟨[],l,0,rfl,oZ,sZ,X,J,Q,bZ,sZ,qZ sZ⟩
 obtain⟨c,rest,k,rfl,z,ao,i,g,x,s,ar,r⟩:=hrel;clear X J Q;by_cases f:(bd rest).2.2=0
 .have N:=qZ (aoK rest (w:Nat) wr oZ g x f);have al:=AU rest f;have af:=qZ (ahJ l rest c k r f);have O:(rest.drop (bd rest).2.1).length=rest.length-(bd rest).2.1:=fJ;generalize(bd rest).1=t at*;generalize(bd rest).2.1=n at*;generalize rest.drop n=rest' at*;obtain⟨au,av,_⟩:=al;have aq:k+n<=4194304:=oZ;have ap:k<l.length:=oZ;have I:=qZ z;have ad:=qZ O;have aw:8*(c.length+1)<=k+n:=oZ;have am:c.length<=1048576:=oZ;clear f r z O;go_wp2_with fail;refine N.out.mono ?_;rintro e b⟨rfl,m,d⟩;have H:∀k,u4.ownBlock=ac k->(w:Nat)+1<=k/\k<(wr:Nat):=i.lt;have ax:(wr:Nat)<=(b:Nat):=by rw[d];simp[ch]
  have K:b.cell? (w,0)=ac (vs rest'):=by rw[d];exact World.cell?_setCell_same' _ _ _ (by rw[g];rfl)
  have T:b.frozen? (w,0)=bi:=by rw[d];exact(World.frozen?_setCell _ _ _ _).trans x
  have u:bm w w b:=by rw[d];exact wO (s.setCell (p:=⟨w,0,bc⟩) lZ _) m
  have A:BX b ((w:Nat)+1) u4 c:=i.bA (λk z=>by rw[d];exact bl wr ⟨w,0,bc⟩ (vs rest') k (by have:=H k z;simp only;omega));clear d i s g x N;obtain⟨v',o,aa,Z,y,ak⟩:=agM A oZ t am;have aj:(w:Nat)<(b:Nat):=oZ;have Y:ac (w:Nat)≠u4.ownBlock:=λe=>by have:=H _ e.symm;omega
  have F:o.heap[(w:Nat)]? =b.heap[(w:Nat)]? :=(y.block (w:Nat) (by simp;omega) Y).trans (dj _ _ _ aj);have L:CV o w 0 (vs rest'):=(cv (w:=b) (a:=⟨w,0,bc⟩) F).trans K;have ah:o.frozen? (w,0)=bi:=(cI (w:=b) (a:=⟨w,0,bc⟩) F).trans T;have ag:bm w w o:=(u.alloc oZ _).grown y (by simp;omega) (λj ai=>by have:=H j ai;omega);have an:(w:Nat)<(o:Nat):=by have:=y.size;simp at this;omega
  clear F Y A K T u y ak;unfold vs at aa;unfold vs;have ae:=qZ Z;have ab:=qZ L;clear Z L;go_wp2_with(at_builtin;refine cK rfl (.tmp 22) (.tmp 24) _ _ rfl u4 (bf b 1 1) rfl rfl aa ?_);go_roundw;exact⟨c++[t],rest',k+n,mZ,by have:=I.out;have:=ad.out;omega,by simp;omega,ae,ab,ah,ag,an,af⟩;have:=I.out;simp[intOf];omega
 .have M:=qZ (apY rest (w:Nat) wr oZ g f);have W:=qZ (ahK l rest c k r f);clear f r;go_wp2_with fail;refine M.out.mono ?_;rintro e b⟨rfl,m,d⟩;have u:bm w w b:=d▸wO s m;have A:BX b ((w:Nat)+1) u4 c:=by rw[d];exact i.below (wO (aK _ _) m)
  clear d i s g x M;go_wp2_with fail;go_ret2;show aeJ l w _ _;refine⟨u4,?_,?_,u⟩
  .rw[W.out];rfl
  .rw[W.out];exact A.low oZ
end oQ
variable{g:Nat}{F:Nat->Prop}{v1 v2:az}{w':ay}
namespace oU
open Go.RowKit L
structure pJ (w:World) (g:Nat) (d:Dsk.D) (F:Nat->Prop) (v1 v2:Value):Prop where
 bV:Blk w g 241 #[(d.size:Int),v1,v2,.bool d.swaps]
 safe:lM w 0 v1 d.safe
 waits:lM w 0 v2 d.waits
 yF:∀k,v1.ownBlock=some k->k≠g
 LQ:∀k,v2.ownBlock=some k->k≠g
 apart:∀k,v1.ownBlock=some k->v2.ownBlock≠some k
 inF:F g
 in1:∀k,v1.ownBlock=some k->F k
 in2:∀k,v2.ownBlock=some k->F k
 ltF:∀k,F k->k<(w:Nat)
 ok:Dsk.Ok d
 most:d.size<=1048576
theorem lM.len{l:List UInt8}(h:lM w 0 v l):∃a c,v=bf a l.length c:=by
 rcases h with⟨rfl,rfl⟩|⟨g,cap,rfl,_⟩
 .exact⟨_,_,rfl⟩
 .exact⟨_,_,rfl⟩
theorem pJ.bA{d:cC}{G:Nat->Prop}(h:pJ w g d F v1 v2)(k:aL G w w')(a:∀i,F i->¬G i):pJ w' g d F v1 v2:=
 ⟨h.bV.bA k (a g h.inF),h.safe.bA k.size λi hi=>k.block i ((h.safe.lt i hi).2) (a i (h.in1 i hi)),h.waits.bA k.size λi hi=>k.block i ((h.waits.lt i hi).2) (a i (h.in2 i hi)),h.yF,h.LQ,h.apart,h.inF,h.in1,h.in2,λi hi=>aM (h.ltF i hi) k.size,h.ok,h.most⟩
def Turn(w w':ay)(g:Nat)(d':cC)(F:Nat->Prop):Prop:=∃F' v1 v2,pJ w' g d' F' v1 v2/\aL F w w'/\∀k,F' k->F k\/(w:Nat)<=k
theorem aL.aeB(h:w'=w.drewN n):aL F w w':=h▸(aL.refl F w).drewN n
theorem ade{d:cC}(h:pJ w g d F v1 v2):bt b7 258 #[bp g] w λe w'=>e=bb (bo cb (d.waits.length:Int))/\w=w':=by have c2:=h.bV.cell 2;obtain⟨a,c,rfl⟩:=lM.len h.waits;simp only[fF]at c2;go_enter func258,ntmps258;go_wp2;go_ret;exact⟨rfl,rfl⟩
theorem adO{d:cC}(h:pJ w g d F v1 v2):bt b7 250 #[bp g] w λe w'=>e=bb (bk (str d.safe))/\w=w':=by have c1:=h.bV.cell 1;have hs:=EW (P:=b7) 239 9 5 bz ea cq h.safe;obtain⟨a,c,rfl⟩:=lM.len h.safe;simp only[fF]at c1;go_enter func250,ntmps250;go_wp2;go_ret;exact⟨rfl,rfl⟩
theorem BP{w:ay}{g:Nat}{d:cC}{F:Nat->Prop}{v1 v2:az}(h:pJ w g d F v1 v2):bt b7 255 #[bp g] w λe w'=>e=bb (bo cb (dy d))/\∃n,w'=w.drewN n:=by
 have i:=h.bV.cell 0;have c1:=h.bV.cell 1;have c2:=h.bV.cell 2;have c3:=h.bV.cell 3;have ok:=h.ok;have most:=h.most;unfold eN at ok;obtain⟨a,c,rfl⟩:=lM.len h.waits;obtain⟨a',f,rfl⟩:=lM.len h.safe;obtain⟨j,k,b⟩:=ok;obtain⟨size,safe,waits,swaps⟩:=d;simp only[fF]at*;cases swaps
 .have l:=b rfl;go_enter func255,ntmps255;go_wp2;go_quiet (fail);go_wp2;go_ret;exact⟨fT (by simp[dy]),⟨_,rfl⟩⟩
 .go_enter func255,ntmps255;go_wp2;go_quiet (fail);go_wp2;go_ret;exact⟨fT (by simp[dy]),⟨_,rfl⟩⟩
theorem apB(m:Nat)(b:m<=1048576)(w:ay):pJ (w.alloc (br #[(m:Int),a8,a8,cr bi] 241)) (w:Nat) ⟨m,[],[],bi⟩ (λk=>k=(w:Nat)) (bf bc 0 0) (bf bc 0 0):=
 ⟨Blk.new _ _ _,.inl ⟨rfl,rfl⟩,.inl ⟨rfl,rfl⟩,λk a=>(by cases a),λk a=>(by cases a),λk a=>(by cases a),rfl,λk a=>(by cases a),λk a=>(by cases a),λk a=>(by subst a;simp),⟨bI _,bI _,λ_=>bI _⟩,b⟩
theorem VP(n:Int)(w:ay):bt b7 121 #[n] w λe w'=>e=bb (bp w)/\w'=w.alloc (br #[((Dsk.new n).size:Int),a8,a8,cr bi] 241):=by
 go_enter func121,ntmps121;go_wp2;all_goals
  go_ret;refine⟨rfl,?_⟩;first
   |(rw[show(((Dsk.new n).size:Nat):Int)=n by unfold Dsk.new;simp only;omega];done)
   |(rw[show(((Dsk.new n).size:Nat):Int)=0 by unfold Dsk.new;simp only;omega];done)
   |(rw[show(((Dsk.new n).size:Nat):Int)=1048576 by unfold Dsk.new;simp only;omega];done)
end oU
variable{v':az}{w1:ay}
namespace oU
open Go.RowKit L
theorem ahm:(prog.info? 5).map (λi=>(i.zero,i.size,i.bytes))=ac (ac (bo .u8 0),1,1):=by kernel_rfl
theorem lM.forms{l:List UInt8}(h:lM w 0 v l):v=bf bc 0 0\/∃g cap,v=bf (ac ⟨g,0,bc⟩) l.length cap:=by
 rcases h with⟨rfl,rfl⟩|⟨g,cap,rfl,_⟩
 .exact .inl rfl
 .exact .inr ⟨g,cap,rfl⟩
theorem Turn.FE{d':cC}(e:w1=w.drewN n)(h:Turn w1 w' g d' F):Turn w w' g d' F:=by subst e;obtain⟨F',v1,v2,a,c,b⟩:=h;exact⟨F',v1,v2,a,((aL.refl F w).drewN n).trans c,b⟩
theorem aeS{d d':cC}(h:pJ w g d F v1 v2)(j:d'.size=d.size)(p:d'.safe=d.safe)(o:eN d')(n:lM w1 0 v' d'.waits)(s:aL F w w1)(r:Blk w1 g 241 #[(d.size:Int),v1,v2,cr d.swaps])(hs:lM w1 0 v1 d.safe)(c:∀k,v'.ownBlock=ac k->(v2.ownBlock=ac k\/(w:Nat)<=k)/\k<(w1:Nat))(e:ay)(v:(e:Nat)=(w1:Nat))(f:∀k,k≠g->e.heap[k]? =w1.heap[k]?)(l:Blk e g 241 #[(d.size:Int),v1,v',cr d'.swaps])(i:aL F w e):Turn w e g d' F:=by
 have u:=h.bV.lt;refine⟨λk=>F k\/(v'.ownBlock=ac k),v1,v',⟨by rw[j];exact l,?_,?_,h.yF,?_,?_,.inl h.inF,λk a=>.inl (h.in1 k a),λk a=>.inr a,?_,o,by rw[j];exact h.most⟩,i,?_⟩
 .rw[p];exact hs.bA oZ λk a=>f k (h.yF k a)
 .exact n.bA oZ (λk a=>f k (by
   rcases(c k a).1 with b|b
   .exact h.LQ k b
   .omega))
 .intro k a;rcases(c k a).1 with b|b
  .exact h.LQ k b
  .omega
 .intro k a m;rcases(c k m).1 with b|b
  .exact h.apart k a b
  .have:=(h.safe.lt k a).2;omega
 .intro k a;rcases a with a|a
  .have:=h.ltF k a;have:=i.size;omega
  .have:=(c k a).2;omega
 .intro k a;rcases a with a|a
  .exact .inl a
  .rcases(c k a).1 with b|b
   .exact .inl (h.in2 k b)
   .exact .inr b
theorem ahb{d:cC}(h:pJ w g d F v1 v2)(s:ByteArray)(hs:s.size<=b4):bt b7 226 #[bp g,bk s] w λe w'=>e=bb (bo cb (sI d s.data.toList))/\Turn w w' g (de d s.data.toList) F:=by
 unfold b4 at hs;have m:s.data.toList.length=s.size:=sZ;by_cases b:qG d s.data.toList=a8
 .have Y:(s.size:Int)<=dy d:=by unfold qG at b;rw[m]at b;simpa using b
  have r:=qY (sI d s.data.toList=0) (by unfold sI;rw[aI b]);have o:de d s.data.toList={d with waits:=d.waits++s.data.toList}:=by unfold de;rw[aI b]
  have v:=aky d s.data.toList h.ok;rw[o]at v⊢;have Z:d.waits.length+s.data.toList.length<=1048576:=by have a:(d.waits++s.data.toList).length<=d.size:=v.2.1;have ae:=h.most;rw[aW]at a;omega
  clear b o;go_enter func226,ntmps226;go_wp2_with fail;refine(BP h).mono ?_;rintro e w1⟨rfl,n,f⟩;have a:pJ w1 g d F v1 v2:=h.bA (aL.aeB (F:=λ_=>False) f) (λ_ _ h=>h);have y:=qZ f;clear h f;have c2:=a.bV.cell 2;have aa:=a.bV.frozen 2;obtain⟨i0,hi,M,N,O⟩:=el ahm;obtain⟨v',Q,J,u,l,I⟩:=tY (P:=b7) 239 9 239 5 i0 bz hi M N O a.waits (bI _) (RN (P:=b7) (w:=w1) cq s) oZ;have H:ac g≠v2.ownBlock:=λe=>a.LQ g e.symm rfl;have j:=a.bV.grown l H;have W:=j.cell 2;have ab:=j.frozen 2;have K:=a.safe.bA l.size (λk c=>l.block k (a.safe.lt k c).2 λe=>a.apart k c e.symm);have x:aL F w1 Q:=aL.jX l (λi e=>a.in2 i e);have z:Turn w1 (Q.setCell (g,2) v') g {d with waits:=d.waits++s.data.toList} F:=
   aeS (d':={d with waits:=d.waits++s.data.toList}) a rfl rfl v u x j K (λk c=>⟨I k c,(u.lt k c).2⟩) _ (by simp[ch]) (λk c=>bl _ _ _ _ c) (j.bR 2 v') (x.setCell (.inl a.inF) v')
  have A:=Turn.FE y z;have p:=qZ A;have X:=lM.forms u;simp only[fF]at c2 W;clear z A x K j H I l u v Z hi M N O a y;have T:=qZ m;clear m;rcases X with rfl|⟨ad,cap,rfl⟩
  .go_wp2_with(at_builtin;refine cK rfl (.tmp 18) (.tmp 19) _ _ rfl v2 (bk s) rfl rfl J ?_);go_ret;exact⟨fT r.out.symm,p⟩
  .go_wp2_with(at_builtin;refine cK rfl (.tmp 18) (.tmp 19) _ _ rfl v2 (bk s) rfl rfl J ?_);go_ret;have L:=p.out;rw[aW,T.out]at L;exact⟨fT r.out.symm,L⟩
 .have Y:¬(s.size:Int)<=dy d:=by unfold qG at b;rw[m]at b;simpa using b
  have r:=qY (sI d s.data.toList=9) (by unfold sI;rw[aF b]);have o:de d s.data.toList=d:=by unfold de;rw[aF b]
  rw[o];have af:=λw=> @BP w g d F v1 v2;clear b o m;go_enter func226,ntmps226;go_wp2_with fail;refine(BP h).mono ?_;rintro e w1⟨rfl,n,f⟩;have p:=qZ (Turn.FE (F:=F) (g:=g) (d':=d) f ⟨F,v1,v2,h.bA (aL.aeB (F:=λ_=>False) f) λ_ _ h=>h,aL.refl _ _,λk c=>.inl c⟩);clear h f;go_wp2;go_ret;exact⟨fT r.out.symm,p⟩
theorem set2(p q:cM)(u v:az):((w.setCell p u).setCell q v).heap.size=(w:Nat):=by simp[ch]
theorem aaM{d:cC}{l:List UInt8}(h:pJ w g d F v1 v2)(n:l.length<=d.size)(b:bm w w w1)(i:lM w1 0 v' l)(c:∀k,v'.ownBlock=ac k->(w:Nat)<=k):Turn w ((w1.setCell (g,2) v').setCell (g,3) (cr a8)) g {d with waits:=l,swaps:=a8} F:=by
 have o:=h.bV.lt;have a:aL F w w1:=aL.bQ b;have j:Blk w1 g _ _:=h.bV.below b o;have p:=h.safe.bA b.size (λk a=>b.block k (h.safe.lt k a).2);have far:∀k,k≠g->((w1.setCell (g,2) v').setCell (g,3) (cr a8)).heap[k]? =w1.heap[k]? :=λk a=>(bl _ _ _ _ a).trans (bl _ _ _ _ a);have f:∀k,v'.ownBlock=ac k->k≠g:=λk a e=>by have:=c k a;omega
 refine⟨λk=>F k\/v'.ownBlock=ac k,v1,v',⟨(j.bR 2 v').bR 3 (cr a8),?_,?_,h.yF,f,?_,.inl h.inF,λk a=>.inl (h.in1 k a),λk a=>.inr a,?_,⟨h.ok.1,n,λe=>by cases e⟩,h.most⟩,?_,?_⟩
 .exact p.bA (by rw[set2];exact bG _) λk a=>far k (h.yF k a)
 .exact i.bA (by rw[set2];exact bG _) λk a=>far k (f k a)
 .intro k a m;have:=c k m;have:=(h.safe.lt k a).2;omega
 .intro k a;rw[set2];rcases a with a|a
  .exact aM (h.ltF k a) b.size
  .exact(i.lt k a).2
 .exact(a.setCell (.inl h.inF) _).setCell (.inl h.inF) _
 .intro k a;rcases a with a|a
  .exact .inl a
  .exact .inr (c k a)
theorem adv{d:cC}(h:pJ w g d F v1 v2)(s:ByteArray)(hs:s.size<=b4):bt b7 236 #[bp g,bk s] w λe w'=>e=bb (bo cb (vR d s.data.toList))/\Turn w w' g (cJ d s.data.toList) F:=by
 unfold b4 at hs;have u:s.data.toList.length=s.size:=sZ;have i:=h.bV.lt;have x:¬g=(w:Nat):=oZ;have l:=h.bV.cell 0;have c2:=h.bV.cell 2;have c3:=h.bV.cell 3;have n:=h.bV.frozen 2;have p:=h.bV.frozen 3;simp only[fF]at l c2 c3;by_cases r:d.size<s.size
 .have b:=qY (vR d s.data.toList=9) (by unfold vR;rw[aI oZ]);have f:cJ d s.data.toList=d:=by unfold cJ;rw[aI oZ]
  rw[f];have a:=qY (Turn w w g d F) (⟨F,v1,v2,h,aL.refl _ _,λk c=>.inl c⟩);go_enter func236,ntmps236;go_wp2;go_ret;exact⟨fT b.out.symm,a⟩
 .have b:=qY (vR d s.data.toList=0) (by unfold vR;rw[aF oZ]);have f:cJ d s.data.toList={d with waits:=s.data.toList,swaps:=a8}:=by unfold cJ;rw[aF oZ]
  rw[f];have v:=h.most;obtain⟨cap,o,y,m⟩:=aad (P:=b7) w 9 239 5 s cq bz ea oZ;have j:=aaM h oZ ((aK _ _).drew.alloc lZ o) m (λk c=>by cases c;exact bG _);rw[World.alloc_drew,World.setCell_drew,World.setCell_drew,World.setCell_alloc_past o g 2 _ i,World.setCell_alloc_past o g 3 _ (by simpa[ch]using i)]at j;have a:=qZ j;go_enter func236,ntmps236;go_wp2;go_ret;exact⟨fT b.out.symm,a⟩
theorem apm(p q r:cM)(u v x:az):(((w.setCell p u).setCell q v).setCell r x).heap.size=(w:Nat):=by simp[ch]
theorem RF{d:cC}{l:List UInt8}(h:pJ w g d F v1 v2)(e:l.length<=d.size)(c:aL F w w1)(m:Blk w1 g 241 #[(d.size:Int),v1,v2,cr d.swaps])(j:lM w1 0 v' l)(f:∀k,v'.ownBlock=ac k->(F k/\k≠g)\/(w:Nat)<=k):Turn w (((w1.setCell (g,1) v').setCell (g,2) (bf bc 0 0)).setCell (g,3) (cr bi)) g ⟨d.size,l,[],bi⟩ F:=by
 have o:=h.bV.lt;have far:∀k,k≠g->(((w1.setCell (g,1) v').setCell (g,2) (bf bc 0 0)).setCell (g,3) (cr bi)).heap[k]? =w1.heap[k]? :=λk a=>((bl _ _ _ _ a).trans (bl _ _ _ _ a)).trans (bl _ _ _ _ a);have i:∀k,v'.ownBlock=ac k->k≠g:=λk a=>by
  rcases f k a with b|b
  .exact b.2
  .omega
 refine⟨λk=>F k\/v'.ownBlock=ac k,v',bf bc 0 0,⟨((m.bR 1 v').bR 2 (bf bc 0 0)).bR 3 (cr bi),?_,lM.nil _ _,i,λk a=>(by cases a),λk a n=>(by cases n),.inl h.inF,λk a=>.inr a,λk a=>(by cases a),?_,⟨e,bI _,λ_=>e⟩,h.most⟩,?_,?_⟩
 .exact j.bA (by rw[apm];exact bG _) λk a=>far k (i k a)
 .intro k a;rw[apm];rcases a with a|a
  .exact aM (h.ltF k a) c.size
  .exact(j.lt k a).2
 .exact((c.setCell (.inl h.inF) _).setCell (.inl h.inF) _).setCell (.inl h.inF) _
 .intro k a;rcases a with a|a
  .exact .inl a
  .rcases f k a with b|b
   .exact .inl b.1
   .exact .inr b
theorem adf{d:cC}(h:pJ w g d F v1 v2):Turn w ((w.setCell (g,2) (bf bc 0 0)).setCell (g,3) (cr bi)) g ⟨d.size,d.safe,[],bi⟩ F:=by
 have far:∀k,k≠g->((w.setCell (g,2) (bf bc 0 0)).setCell (g,3) (cr bi)).heap[k]? =w.heap[k]? :=λk a=>(bl _ _ _ _ a).trans (bl _ _ _ _ a);refine⟨F,v1,bf bc 0 0,⟨(h.bV.bR 2 (bf bc 0 0)).bR 3 (cr bi),?_,lM.nil _ _,h.yF,λk a=>(by cases a),λk a b=>(by cases b),h.inF,h.in1,λk a=>(by cases a),?_,⟨h.ok.1,bI _,λ_=>h.ok.1⟩,h.most⟩,?_,λk a=>.inl a⟩
 .exact h.safe.bA (by rw[set2];exact bG _) λk a=>far k (h.yF k a)
 .intro k a;rw[set2];exact h.ltF k a
 .exact((aL.refl F w).setCell (.inl h.inF) _).setCell (.inl h.inF) _
theorem ZG{d:cC}(h:pJ w g d F v1 v2)(n:Int):bt b7 126 #[bp g,n] w λe w'=>e=bb (cL #[])/\Turn w w' g (yC d n) F:=by
 have c1:=h.bV.cell 1;have c2:=h.bV.cell 2;have c3:=h.bV.cell 3;have ah:=h.bV.frozen 1;have ai:=h.bV.frozen 2;have aj:=h.bV.frozen 3;simp only[fF]at c1 c2 c3;have H:=abN d n;obtain⟨m,X⟩:∃m:Nat,max n 0=(m:Int):=⟨(max n 0).toNat,oZ⟩;have T:min m d.waits.length=uX d n:=by unfold uX;omega
 have y:yC d n=⟨d.size,if d.swaps then(if uX d n=d.waits.length then d.waits else d.safe)else d.safe++d.waits.take (uX d n),[],bi⟩:=rfl;have v:=(amE d n h.ok).1;rw[y]at v⊢;obtain⟨k,O⟩:=nQ (uX d n);rw[O.out]at H T y v⊢;have W:min (m:Int) (d.waits.length:Int)=(k:Int):=oZ;have f:=qZ X;have c:=qZ W;obtain⟨i0,hi,ab,M,ad⟩:=el ahm;obtain⟨a2,o,Z⟩:=lM.len h.waits;subst Z;obtain⟨x,hcut,I,K⟩:=h.waits.cutAt (P:=b7) k H 239 5 bz i0 hi M;have aa:=h.ok.2.1;have ak:=h.most;obtain⟨size,safe,waits,swaps⟩:=d;simp only at*;cases swaps
 ·
  simp only[jG,if_false]at*;obtain⟨v',af,J,p,A,Y⟩:=tY (P:=b7) 239 239 239 5 i0 bz hi ab M ad h.safe (bI _) (I.src bz) (by have:(safe++waits.take k).length<=size:=v;rw[aW]at this;exact bC this oZ);have b:Blk af g 241 _:=h.bV.grown A (λe=>h.yF g e.symm rfl);have d1:=b.cell 1;have d2:=b.cell 2;have d3:=b.cell 3;have e1:=b.frozen 1;have e2:=b.frozen 2;have e3:=b.frozen 3;simp only[fF]at d1 d2 d3;have a:=qZ (RF h v (aL.jX A λi e=>h.in1 i e) b p (λj u=>by
   rcases Y j u with r|r
   .exact .inl ⟨h.in1 j r,h.yF j r⟩
   .exact .inr r))
  have s:=lM.forms p;have ag:=qY ((safe++waits.take k).length=(safe++waits.take k).length) rfl;obtain⟨L,N⟩:=nQ ((safe++waits.take k).length);rw[N.out]at s;rcases s with rfl|⟨Q,cap,rfl⟩
  .go_enter eb,dz;go_wp2_with(first|(refine uJ rfl (.tmp 7) (.const (bo cb 0)) _ _ rfl n 0 m rfl rfl f ?_)|(refine uI rfl (.tmp 8) (.tmp 13) _ _ rfl m waits.length k rfl rfl c ?_)|(at_builtin;refine cK rfl (.tmp 32) (.tmp 33) _ _ rfl v1 x rfl rfl J ?_)|(refine rV rfl (.tmp 18) (.tmp 19) (.tmp 20) _ _ bz rfl (bf a2 waits.length o) k k rfl rfl rfl (hcut _) ?_))
   go_end0
   exact⟨rfl,a⟩
  .go_enter eb,dz;go_wp2_with(first|(refine uJ rfl (.tmp 7) (.const (bo cb 0)) _ _ rfl n 0 m rfl rfl f ?_)|(refine uI rfl (.tmp 8) (.tmp 13) _ _ rfl m waits.length k rfl rfl c ?_)|(at_builtin;refine cK rfl (.tmp 32) (.tmp 33) _ _ rfl v1 x rfl rfl J ?_)|(refine rV rfl (.tmp 18) (.tmp 19) (.tmp 20) _ _ bz rfl (bf a2 waits.length o) k k rfl rfl rfl (hcut _) ?_))
   go_end0
   exact⟨rfl,a⟩
 .simp only[if_true]at*;by_cases z:k=waits.length
  .subst z;have p:lM w 0 x waits:=by have:=I;rwa [aU lZ]at this
   have a:=qZ (RF h (l:=waits) aa (aL.refl _ _) h.bV p λj u=>.inl ⟨h.in2 j (K j u),h.LQ j (K j u)⟩);rw[aI rfl];have s:=lM.forms p;have ae:((waits.length:Int)==(waits.length:Int))=a8:=sZ;rcases s with rfl|⟨Q,cap,rfl⟩
   .go_enter eb,dz;go_wp2_with(first|(refine uJ rfl (.tmp 7) (.const (bo cb 0)) _ _ rfl n 0 m rfl rfl f ?_)|(refine uI rfl (.tmp 8) (.tmp 13) _ _ rfl m waits.length waits.length rfl rfl c ?_)|(refine rV rfl (.tmp 18) (.tmp 19) (.tmp 20) _ _ bz rfl (bf a2 waits.length o) waits.length waits.length rfl rfl rfl (hcut _) ?_))
    go_end0
    exact⟨rfl,a⟩
   .go_enter eb,dz;go_wp2_with(first|(refine uJ rfl (.tmp 7) (.const (bo cb 0)) _ _ rfl n 0 m rfl rfl f ?_)|(refine uI rfl (.tmp 8) (.tmp 13) _ _ rfl m waits.length waits.length rfl rfl c ?_)|(refine rV rfl (.tmp 18) (.tmp 19) (.tmp 20) _ _ bz rfl (bf a2 waits.length o) waits.length waits.length rfl rfl rfl (hcut _) ?_))
    go_end0
    exact⟨rfl,a⟩
  .rw[aF z];have a:=qZ (adf h);have ae:((k:Int)==(waits.length:Int))=bi:=by simp;omega
   go_enter eb,dz;go_wp2_with(first|(refine uJ rfl (.tmp 7) (.const (bo cb 0)) _ _ rfl n 0 m rfl rfl f ?_)|(refine uI rfl (.tmp 8) (.tmp 13) _ _ rfl m waits.length k rfl rfl c ?_)|(refine rV rfl (.tmp 18) (.tmp 19) (.tmp 20) _ _ bz rfl (bf a2 waits.length o) k k rfl rfl rfl (hcut _) ?_))
   go_end0
   exact⟨rfl,a⟩
theorem akK{d:cC}(h:pJ w g d F v1 v2):bt b7 228 #[bp g] w λe w'=>e=bb (cL #[])/\Turn w w' g (eC d) F:=by
 have f:=qZ (ZG h (d.waits.length:Int));have i:=qZ (ade h);have b:=qY (eC d=yC d (d.waits.length:Int)) rfl;go_enter func228,ntmps228;go_wp2_with fail;refine i.out.mono ?_;rintro e w1⟨rfl,rfl⟩;go_wp2_with fail;refine f.out.mono ?_;rintro e w1⟨rfl,a⟩;rw[<-b.out]at a;have c:=qZ a;go_wp2
 go_end0
 exact⟨rfl,c⟩
theorem aqZ(w:ay)(h i:Nat)(u:az):aL (λk=>k=h) w (w.setCell (h,i) u):=aL.setCell (F:=λk=>k=h) (p:=⟨h,i,bc⟩) (aL.refl _ w) (.inl rfl) u
def Own(B:Nat)(L:Nat->Prop)(w:ay)(g:Nat)(d:cC):Prop:=∃F v1 v2,pJ w g d F v1 v2/\(∀k,F k->B<=k/\¬L k)
def Room(B:Nat)(L:Nat->Prop):Nat->Prop:=λk=>B<=k/\¬L k
def UN(B:Nat)(L:Nat->Prop)(w w':ay)(g:Nat)(d':cC):Prop:=Own B L w' g d'/\aL (Room B L) w w'
def Live(L:Nat->Prop)(w:ay):Prop:=∀k,L k->k<(w:Nat)
section
variable {B:Nat} {L:Nat->Prop} {w w':ay} {g:Nat} {d d':cC}
theorem Own.turn{F:Nat->Prop}(b:B<=(w:Nat))(c:Live L w)(hF:∀k,F k->B<=k/\¬L k)(t:Turn w w' g d' F):UN B L w w' g d':=by
 obtain⟨F',v1,v2,h,k,e⟩:=t;refine⟨⟨F',v1,v2,h,λi hi=>?_⟩,k.mono λi _ hi=>hF i hi⟩;rcases e i hi with a|a
 .exact hF i a
 .exact⟨bC b a,λd=>by have:=c i d;omega⟩
theorem Own.bA{G:Nat->Prop}(o:Own B L w g d)(k:aL G w w')(c:∀i,G i->L i\/i<B):Own B L w' g d:=by
 obtain⟨F,v1,v2,h,hF⟩:=o;refine⟨F,v1,v2,h.bA k λi hi e=>?_,hF⟩;have b:=hF i hi;rcases c i e with a|a
 .exact b.2 a
 .omega
theorem Own.ok(o:Own B L w g d):eN d/\d.size<=1048576:=by obtain⟨F,v1,v2,h,hF⟩:=o;exact⟨h.ok,h.most⟩
theorem Live.bA(a:Live L w)(hs:(w:Nat)<=(w':Nat)):Live L w':=λk b=>aM (a k b) hs
theorem aob(m:Nat)(d:m<=1048576)(a:B<=(w:Nat))(b:Live L w):Own B L (w.alloc (br #[(m:Int),a8,a8,cr bi] 241)) (w:Nat) ⟨m,[],[],bi⟩:=
 ⟨_,_,_,apB m d w,λk c=>by subst c;exact⟨a,λh=>by have:=b _ h;omega⟩⟩
theorem aha(o:Own B L w g d)(a:B<=(w:Nat))(b:Live L w)(s:ByteArray)(hs:s.size<=b4):bt b7 226 #[bp g,bk s] w λe w'=>e=bb (bo cb (sI d s.data.toList))/\UN B L w w' g (de d s.data.toList):=by obtain⟨F,v1,v2,h,hF⟩:=o;exact(ahb h s hs).mono λ_ _ ⟨c,t⟩=>⟨c,Own.turn a b hF t⟩
theorem adu(o:Own B L w g d)(a:B<=(w:Nat))(b:Live L w)(s:ByteArray)(hs:s.size<=b4):bt b7 236 #[bp g,bk s] w λe w'=>e=bb (bo cb (vR d s.data.toList))/\UN B L w w' g (cJ d s.data.toList):=by obtain⟨F,v1,v2,h,hF⟩:=o;exact(adv h s hs).mono λ_ _ ⟨c,t⟩=>⟨c,Own.turn a b hF t⟩
theorem ajF(o:Own B L w g d)(a:B<=(w:Nat))(b:Live L w)(n:Int):bt b7 126 #[bp g,n] w λe w'=>e=bb (cL #[])/\UN B L w w' g (yC d n):=by obtain⟨F,v1,v2,h,hF⟩:=o;exact(ZG h n).mono λ_ _ ⟨c,t⟩=>⟨c,Own.turn a b hF t⟩
theorem aaP(o:Own B L w g d)(a:B<=(w:Nat))(b:Live L w):bt b7 228 #[bp g] w λe w'=>e=bb (cL #[])/\UN B L w w' g (eC d):=by obtain⟨F,v1,v2,h,hF⟩:=o;exact(akK h).mono λ_ _ ⟨c,t⟩=>⟨c,Own.turn a b hF t⟩
theorem adN(o:Own B L w g d):bt b7 250 #[bp g] w λe w'=>e=bb (bk (str d.safe))/\w=w':=by obtain⟨F,v1,v2,h,hF⟩:=o;exact adO h
end
def Nothing:Nat->Prop:=λ_=>False
theorem KT(w:ay):Live Nothing w:=λ_ h=>h.elim
end oU
end Go.Proofs.YtedmeglbjmdlhaaGreatDoor
