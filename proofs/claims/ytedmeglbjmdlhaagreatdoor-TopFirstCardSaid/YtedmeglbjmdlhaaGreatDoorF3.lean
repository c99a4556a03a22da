/-
Parts of TopFirst.
-/
import Derived.Test.YtedmeglbjmdlhaaGreatDoorF1
import Derived.Lib.Walk
import Derived.Deep.CutBlock
import Derived.Deep.DeepCutAuto
import Derived.Deep.MidRow
set_option maxRecDepth 100000
set_option maxHeartbeats 16000000
set_option linter.all false
open Go.Proofs.Tryz
namespace Go.Proofs.YtedmeglbjmdlhaaGreatDoor
open Go.Value renaming slice->ac,int->cC,agg->cR,int->cX,bool->ek,ownBlock->e5,pointer->fg
open Go.IntKind renaming i64->cA,wrap_i64->ed,wrap_u64->ez
open Option renaming some->cD,none->cL,getD_some->cY
open Go.RowKit renaming Below->cE
open Go.Obj renaming cells->cF
open Go renaming World->cG,wp_loop_rounds->cH,rounds_succ->cM,Value->cP,bodyPost_ret->cU,Calls->dC,maxLen->dT,info_parts->er,madeCells->eQ,part->e8,TypeId->fe,Program->fo,MemPlace->fw,Ending->fy,FuncId->gd,DataW->gh
open Bool renaming false->cI,true->cW
open Go.Proofs.Tryz renaming prog->cJ,results183->eE,ntmps157->eL,underlying36->eS,func157->eV,ntmps45->fz,ntmps65->fL,func45->ga,func65->gb
open Go.Ending renaming returned->cN
open Vec renaming cut->cQ,V->cT,sub->dE,nV->eg,nW->eh,add1->eK,zero->eM,add->fl,dX->fm,nI->gj
open Hst renaming rows->cS,gTo->ef,jH->el,qB->eA,caps->eC,lY->eJ,one->eR,sG->eW,vD->e0,uN->ff,mU->fq,qD->fr,free->fv,vV->gf,dV->gg,G->gi
open Go.Builtin renaming append_->cV
open List renaming replicate->ee,take_succ_cons->ei,take_zero->eu,range->e9,length_reverse->fb,length_range->fj,any_append->ft,length_set->fu
open Tree renaming path->ej,sum->fx,par->fX
open Go.World.ownsRow renaming stored->en,cells->et
open Cfg renaming C->eo,check->fi
open Go.Op renaming equalIn->ep
open Int renaming toNat_natCast->ew
open Go.DataW renaming trod_struct->ey,trod->eI
open Go.Result renaming andThen_ok->eN
open Ord renaming num->fc,or2->fN,old->fW,P->gl
open Go
open Cfg L Ord Quo Top Tree Vec bO bT eO gT rM
namespace gT
open Go.RowKit L
def _root_.Go.Proofs.YtedmeglbjmdlhaaGreatDoor.Vec.V.val(v:cT):cP:=cR #[v.x,v.y,v.z]
theorem idx(x y z:Int):(∀w:cG,(Instr.index 40 (cR #[x,y,z]) (cC cA 0)).run cJ w=.ok x w)/\(∀w:cG,(Instr.index 40 (cR #[x,y,z]) (cC cA 1)).run cJ w=.ok y w)/\(∀w:cG,(Instr.index 40 (cR #[x,y,z]) (cC cA 2)).run cJ w=.ok z w):=
 ⟨λ_=>kZ,λ_=>kZ,λ_=>kZ⟩
theorem OJ(n m:Int)(w:cG)(h:0<=m)(a:m<=1099511627776):dC cJ 93 #[n,m] w λe w'=>e=cN (cC cA (cQ n m))/\w=w':=by go_enter func93,ntmps93;go_wp2;go_ret;exact⟨rfl,rfl⟩
theorem BJ(n m:Int)(w:cG)(h:0<=m)(b:m<=1099511627776):dC cJ 96 #[n,m] w λe w'=>e=cN (cC cA (cQ n m))/\w=w':=by have a:=qZ (ajB n m h);go_enter func96,ntmps96;go_wp2;go_ret;exact⟨fT a.out,rfl⟩
theorem aqa(x y:Int)(w:cG):dC cJ 92 #[x,y] w λe w'=>e=cN (cC cA (eK x y))/\w=w':=by have a1:=eg x 1099511627776 oZ;have a2:=eh x 1099511627776 oZ;have b1:=eg y 1099511627776 oZ;have b2:=eh y 1099511627776 oZ;go_enter func92,ntmps92;go_wp2_with(go_at_call 93;(with_reducible refine(OJ _ _ _ oZ oZ).mono ?_);rintro e w'⟨rfl,rfl⟩);go_ret;exact⟨rfl,rfl⟩
theorem apZ(x y:Int)(w:cG):dC cJ 186 #[x,y] w λe w'=>e=cN (cC cA (vB x y))/\w=w':=by have a1:=eg x 1099511627776 oZ;have a2:=eh x 1099511627776 oZ;have b1:=eg y 1099511627776 oZ;have b2:=eh y 1099511627776 oZ;go_enter func186,ntmps186;go_wp2_with(go_at_call 93;(with_reducible refine(OJ _ _ _ oZ oZ).mono ?_);rintro e w'⟨rfl,rfl⟩);go_ret;exact⟨rfl,rfl⟩
theorem HZ(x n:Int):∃p:Int,IntKind.i64.wrap (cQ x 1099511627776*cQ n 1048576)=p/\wX x n=cQ p 1099511627776:=by
 refine⟨_,rfl,?_⟩;have a1:=eg x 1099511627776 oZ;have a2:=eh x 1099511627776 oZ;have b1:=eg n 1048576 oZ;have b2:=eh n 1048576 oZ;unfold wX;generalize cQ x 1099511627776=u at*;generalize cQ n 1048576=v at*;have h:(u*v).natAbs<=1099511627776*1048576:=by rw[Int.natAbs_mul];exact Nat.mul_le_mul oZ oZ
 rw[ed];congr 1;omega
theorem aeP(n m:Int)(w:cG)(h:0<=m)(a:m<=1099511627776):dC cJ 93 #[n,m] w λe w'=>e=cN (cC cA (cQ n m))/\w'=w:=
 (OJ n m w h a).mono λ_ _ ⟨b,hw⟩=>⟨b,hw.symm⟩
theorem QD(x y n:Int)(b:Nat)(w:cG)(a:w.cell? (b,0)=cD (cC cA n)):dC cJ 150 #[x,y,fg b] w λe w'=>e=cN (cC cA (wX x n))/\w.drew=w':=by obtain⟨p,c,hv⟩:=HZ x n;rw[hv];go_enter func150,ntmps150;go_wp2;refine abo kZ kZ ?_;(repeat first|still_step|still_call (aeP _ _ _ oZ oZ));refine wpStill_nil ?_;go_wp2;go_ret;exact⟨rfl,rfl⟩
theorem aoG(a0 a1 a2 a b1 b2:Int)(w:cG):dC cJ 91 #[cR #[a0,a1,a2],cR #[a,b1,b2],.func (.func 92) #[] #[]] w λe w'=>e=cN (cR #[(eK a0 a:Int),(eK a1 b1:Int),(eK a2 b2:Int)])/\cE w w w':=by
 obtain⟨i0,b,c⟩:=idx a b1 b2;go_enter func91,ntmps91;go_wp2;refine cH 4 ?_;repeat any_goals(rw[cM];go_wp2_with(go_at_call 92;(with_reducible refine(aqa _ _ _).mono ?_);rintro e w'⟨rfl,rfl⟩))
 go_returns;exact⟨rfl,by go_grown⟩
theorem aoF(a0 a1 a2 a b1 b2:Int)(w:cG):dC cJ 91 #[cR #[a0,a1,a2],cR #[a,b1,b2],.func (.func 186) #[] #[]] w λe w'=>e=cN (cR #[(vB a0 a:Int),(vB a1 b1:Int),(vB a2 b2:Int)])/\cE w w w':=by
 obtain⟨i0,b,c⟩:=idx a b1 b2;go_enter func91,ntmps91;go_wp2;refine cH 4 ?_;repeat any_goals(rw[cM];go_wp2_with(go_at_call 186;(with_reducible refine(apZ _ _ _).mono ?_);rintro e w'⟨rfl,rfl⟩))
 go_returns;exact⟨rfl,by go_grown⟩
theorem vS(n m:Int)(w:cG)(h:0<=m)(a:m<=1099511627776):dC cJ 96 #[n,m] w λe w'=>e=cN (cC cA (cQ n m))/\w'=w:=
 (BJ n m w h a).mono λ_ _ ⟨b,hw⟩=>⟨b,hw.symm⟩
theorem zN(a b:cT):eP cJ 40 #[a.val,b.val] (fl a b).val:=by
 obtain⟨a0,a1,a2⟩:=a;obtain⟨d,b1,b2⟩:=b;intro w;unfold Vec.V.val;go_enter func40,ntmps40;go_wp2_with fail;refine(aoG _ _ _ _ _ _ _).mono ?_;rintro e w1⟨rfl,c⟩;have m:=aA (a:=w) kp c;have f:w1.cell? ((w:Nat)+1+1,0)=cD (cC cA 0):=(c.cell (p:=⟨(w:Nat)+1+1,0,cL⟩) sZ).trans (by simp[go_sem]);have g:w1.cell? ((w:Nat)+1+1,1)=cD (cC cA 0):=(c.cell (p:=⟨(w:Nat)+1+1,1,cL⟩) sZ).trans (by simp[go_sem]);have i:w1.cell? ((w:Nat)+1+1,2)=cD (cC cA 0):=(c.cell (p:=⟨(w:Nat)+1+1,2,cL⟩) sZ).trans (by simp[go_sem]);have j:w1.frozen? ((w:Nat)+1+1,0)=cI:=(c.frozen (p:=⟨(w:Nat)+1+1,0,cL⟩) sZ).trans (by simp[go_sem]);have k:w1.frozen? ((w:Nat)+1+1,1)=cI:=(c.frozen (p:=⟨(w:Nat)+1+1,1,cL⟩) sZ).trans (by simp[go_sem]);have l:w1.frozen? ((w:Nat)+1+1,2)=cI:=(c.frozen (p:=⟨(w:Nat)+1+1,2,cL⟩) sZ).trans (by simp[go_sem]);have n:(w:Nat)+1+1<(w1:Nat):=by have:=c.size;simp at this;omega
 go_wp2;exact cU (v:=cR #[(eK a0 d:Int),(eK a1 b1:Int),(eK a2 b2:Int)]) (by simp[results,Tryz.results40,go_sem,f,g,i]) rfl ⟨rfl,kp⟩
theorem amj(a b:cT):eP cJ 120 #[a.val,b.val] (dE a b).val:=by
 obtain⟨a0,a1,a2⟩:=a;obtain⟨d,b1,b2⟩:=b;intro w;unfold Vec.V.val;go_enter func120,ntmps120;go_wp2_with fail;refine(aoF _ _ _ _ _ _ _).mono ?_;rintro e w1⟨rfl,c⟩;have m:=aA (a:=w) kp c;have f:w1.cell? ((w:Nat)+1+1,0)=cD (cC cA 0):=(c.cell (p:=⟨(w:Nat)+1+1,0,cL⟩) sZ).trans (by simp[go_sem]);have g:w1.cell? ((w:Nat)+1+1,1)=cD (cC cA 0):=(c.cell (p:=⟨(w:Nat)+1+1,1,cL⟩) sZ).trans (by simp[go_sem]);have i:w1.cell? ((w:Nat)+1+1,2)=cD (cC cA 0):=(c.cell (p:=⟨(w:Nat)+1+1,2,cL⟩) sZ).trans (by simp[go_sem]);have j:w1.frozen? ((w:Nat)+1+1,0)=cI:=(c.frozen (p:=⟨(w:Nat)+1+1,0,cL⟩) sZ).trans (by simp[go_sem]);have k:w1.frozen? ((w:Nat)+1+1,1)=cI:=(c.frozen (p:=⟨(w:Nat)+1+1,1,cL⟩) sZ).trans (by simp[go_sem]);have l:w1.frozen? ((w:Nat)+1+1,2)=cI:=(c.frozen (p:=⟨(w:Nat)+1+1,2,cL⟩) sZ).trans (by simp[go_sem]);have n:(w:Nat)+1+1<(w1:Nat):=by have:=c.size;simp at this;omega
 go_wp2;exact cU (v:=cR #[(vB a0 d:Int),(vB a1 b1:Int),(vB a2 b2:Int)]) (by simp[results,Tryz.results120,go_sem,f,g,i]) rfl ⟨rfl,kp⟩
theorem ajx(a0 a1 a2 d b1 b2:Int)(w:cG)(n:Int)(a:Nat)(c:a<(w:Nat))(b:w.cell? (a,0)=cD (cC cA n)):dC cJ 91 #[cR #[a0,a1,a2],cR #[d,b1,b2],.func (.func 150) #[] #[fg a]] w λe w'=>e=cN (cR #[(wX a0 n:Int),(wX a1 n:Int),(wX a2 n:Int)])/\cE w w w':=by
 obtain⟨i0,j,k⟩:=idx d b1 b2;have f:¬a=(w:Nat):=oZ;have g:¬a=(w:Nat)+1:=oZ;have i:¬a=(w:Nat)+1+1:=oZ;go_enter func91,ntmps91;go_wp2;refine cH 4 ?_;rw[cM];go_wp2_with fail;refine(QD _ _ n a _ ?_).mono ?_
 .exact(Below.cell (p:=⟨a,0,cL⟩) kp c).trans b
 rintro e w'⟨rfl,rfl⟩;go_wp2_with fail;rw[cM];go_wp2_with fail;refine(QD _ _ n a _ ?_).mono ?_
 .exact(Below.cell (p:=⟨a,0,cL⟩) kp c).trans b
 rintro e w'⟨rfl,rfl⟩;go_wp2_with fail;rw[cM];go_wp2_with fail;refine(QD _ _ n a _ ?_).mono ?_
 .exact(Below.cell (p:=⟨a,0,cL⟩) kp c).trans b
 rintro e w'⟨rfl,rfl⟩;go_wp2_with fail;rw[cM];go_wp2;go_returns;exact⟨rfl,kp⟩
theorem apG(a:cT)(n:Int):eP cJ 90 #[a.val,n] (gj a n).val:=by
 obtain⟨a0,a1,a2⟩:=a;intro w;unfold Vec.V.val;go_enter func90,ntmps90;go_wp2_with fail;refine(ajx _ _ _ _ _ _ _ n ((w:Nat)+1) sZ (by simp[go_sem])).mono ?_;rintro e w1⟨rfl,b⟩;have k:=aA (a:=w) kp b;have c:w1.cell? ((w:Nat)+1+1,0)=cD (cC cA 0):=(b.cell (p:=⟨(w:Nat)+1+1,0,cL⟩) sZ).trans (by simp[go_sem]);have d:w1.cell? ((w:Nat)+1+1,1)=cD (cC cA 0):=(b.cell (p:=⟨(w:Nat)+1+1,1,cL⟩) sZ).trans (by simp[go_sem]);have f:w1.cell? ((w:Nat)+1+1,2)=cD (cC cA 0):=(b.cell (p:=⟨(w:Nat)+1+1,2,cL⟩) sZ).trans (by simp[go_sem]);have g:w1.frozen? ((w:Nat)+1+1,0)=cI:=(b.frozen (p:=⟨(w:Nat)+1+1,0,cL⟩) sZ).trans (by simp[go_sem]);have i:w1.frozen? ((w:Nat)+1+1,1)=cI:=(b.frozen (p:=⟨(w:Nat)+1+1,1,cL⟩) sZ).trans (by simp[go_sem]);have j:w1.frozen? ((w:Nat)+1+1,2)=cI:=(b.frozen (p:=⟨(w:Nat)+1+1,2,cL⟩) sZ).trans (by simp[go_sem]);have l:(w:Nat)+1+1<(w1:Nat):=by have:=b.size;simp at this;omega
 go_wp2;exact cU (v:=cR #[(wX a0 n:Int),(wX a1 n:Int),(wX a2 n:Int)]) (by simp[results,Tryz.results90,go_sem,c,d,f]) rfl ⟨rfl,kp⟩
theorem AA(a b:cT):eP cJ 66 #[a.val,b.val] (fl a b).val:=by
 obtain⟨a0,a1,a2⟩:=a;obtain⟨c,b1,b2⟩:=b;have d:=eg a0 1099511627776 oZ;have e:=eh a0 1099511627776 oZ;have j:=eg c 1099511627776 oZ;have k:=eh c 1099511627776 oZ;have p:IntKind.i64.wrap (cQ a0 1099511627776+cQ c 1099511627776)=cQ a0 1099511627776+cQ c 1099511627776:=by rw[ed];omega
 have f:=eg a1 1099511627776 oZ;have g:=eh a1 1099511627776 oZ;have l:=eg b1 1099511627776 oZ;have m:=eh b1 1099511627776 oZ;have s1:IntKind.i64.wrap (cQ a1 1099511627776+cQ b1 1099511627776)=cQ a1 1099511627776+cQ b1 1099511627776:=by rw[ed];omega
 have i:=eg a2 1099511627776 oZ;have a22:=eh a2 1099511627776 oZ;have n:=eg b2 1099511627776 oZ;have o:=eh b2 1099511627776 oZ;have s2:IntKind.i64.wrap (cQ a2 1099511627776+cQ b2 1099511627776)=cQ a2 1099511627776+cQ b2 1099511627776:=by rw[ed];omega
 intro w;unfold Vec.V.val;go_enter func66,ntmps66;go_wp2;refine cH 4 ?_;(iterate 3 rw[cM];go_wp2_with fail;refine uM 12 kZ kZ ?_;simp only[ei,eu,aZ,bB];(repeat first|still_step|still_call (vS _ _ _ oZ oZ));refine wpStill_nil ?_;go_wp2);rw[cM];go_wp2;go_returns;exact⟨rfl,kp⟩
theorem afX(a b:cT):eP cJ 74 #[a.val,b.val] (dE a b).val:=by
 obtain⟨a0,a1,a2⟩:=a;obtain⟨c,b1,b2⟩:=b;have d:=eg a0 1099511627776 oZ;have e:=eh a0 1099511627776 oZ;have j:=eg c 1099511627776 oZ;have k:=eh c 1099511627776 oZ;have p:IntKind.i64.wrap (cQ a0 1099511627776-cQ c 1099511627776)=cQ a0 1099511627776-cQ c 1099511627776:=by rw[ed];omega
 have f:=eg a1 1099511627776 oZ;have g:=eh a1 1099511627776 oZ;have l:=eg b1 1099511627776 oZ;have m:=eh b1 1099511627776 oZ;have s1:IntKind.i64.wrap (cQ a1 1099511627776-cQ b1 1099511627776)=cQ a1 1099511627776-cQ b1 1099511627776:=by rw[ed];omega
 have i:=eg a2 1099511627776 oZ;have a22:=eh a2 1099511627776 oZ;have n:=eg b2 1099511627776 oZ;have o:=eh b2 1099511627776 oZ;have s2:IntKind.i64.wrap (cQ a2 1099511627776-cQ b2 1099511627776)=cQ a2 1099511627776-cQ b2 1099511627776:=by rw[ed];omega
 intro w;unfold Vec.V.val;go_enter func74,ntmps74;go_wp2;refine cH 4 ?_;(iterate 3 rw[cM];go_wp2_with fail;refine uM 12 kZ kZ ?_;simp only[ei,eu,aZ,bB];(repeat first|still_step|still_call (vS _ _ _ oZ oZ));refine wpStill_nil ?_;go_wp2);rw[cM];go_wp2;go_returns;exact⟨rfl,kp⟩
theorem aev(a:cT)(n:Int):eP cJ 46 #[a.val,n] (gj a n).val:=by
 obtain⟨a0,a1,a2⟩:=a;obtain⟨f,g,b⟩:=HZ a0 n;obtain⟨p1,s1,c⟩:=HZ a1 n;obtain⟨p2,s2,d⟩:=HZ a2 n;intro w;have hv:(gj ⟨a0,a1,a2⟩ n).val=cR #[(cQ f 1099511627776:Int),(cQ p1 1099511627776:Int),(cQ p2 1099511627776:Int)]:=by rw[<-b,<-c,<-d];rfl
 rw[hv];unfold Vec.V.val;go_enter func46,ntmps46;go_wp2;refine cH 4 ?_;(iterate 4 rw[cM];go_wp2_with(go_at_call 96;(with_reducible refine(BJ _ _ _ oZ oZ).mono ?_);rintro e w'⟨rfl,rfl⟩));go_returns;exact⟨rfl,kp⟩
theorem SV(a b:cT):eP cJ 45 #[a.val,b.val] (ek (fm a b)):=by
 obtain⟨a0,a1,a2⟩:=a;obtain⟨d,b1,b2⟩:=b;intro w;have hv:fm ⟨a0,a1,a2⟩ ⟨d,b1,b2⟩=(decide (a0<=d)&&(decide (a1<=b1)&&decide (a2<=b2))):=rfl;have c:=qZ hv;unfold Vec.V.val;obtain⟨i0,i,j⟩:=idx a0 a1 a2;by_cases e:d<a0
 .go_enter ga,fz;go_wp2;refine cH 1 ?_;rw[cM];go_wp2;go_returns;exact⟨gH (by rw[c.out];simp;omega),kp⟩
 by_cases f:b1<a1
 .go_enter ga,fz;go_wp2;refine cH 2 ?_;(iterate 2 rw[cM];go_wp2);go_returns;exact⟨gH (by rw[c.out];simp;omega),kp⟩
 by_cases g:b2<a2
 .go_enter ga,fz;go_wp2;refine cH 3 ?_;(iterate 3 rw[cM];go_wp2);go_returns;exact⟨gH (by rw[c.out];simp;omega),kp⟩
 .go_enter ga,fz;go_wp2;refine cH 4 ?_;(iterate 4 rw[cM];go_wp2);go_returns;exact⟨gH (by rw[c.out];simp;omega),kp⟩
theorem SS(a b:cT):eP cJ 65 #[a.val,b.val] (ek (fm a b)):=by
 obtain⟨a0,a1,a2⟩:=a;obtain⟨d,b1,b2⟩:=b;intro w;have hv:fm ⟨a0,a1,a2⟩ ⟨d,b1,b2⟩=(decide (a0<=d)&&(decide (a1<=b1)&&decide (a2<=b2))):=rfl;have c:=qZ hv;unfold Vec.V.val;obtain⟨i0,i,j⟩:=idx a0 a1 a2;by_cases e:d<a0
 .go_enter gb,fL;go_wp2;refine cH 1 ?_;rw[cM];go_wp2;go_quiet (fail);go_wp2;go_returns;exact⟨gH (by rw[c.out];simp;omega),kp⟩
 by_cases f:b1<a1
 .go_enter gb,fL;go_wp2;refine cH 2 ?_;(iterate 2 rw[cM];go_wp2;go_quiet (fail);go_wp2);go_returns;exact⟨gH (by rw[c.out];simp;omega),kp⟩
 by_cases g:b2<a2
 .go_enter gb,fL;go_wp2;refine cH 3 ?_;(iterate 3 rw[cM];go_wp2;go_quiet (fail);go_wp2);go_returns;exact⟨gH (by rw[c.out];simp;omega),kp⟩
 .go_enter gb,fL;go_wp2;refine cH 4 ?_;(iterate 3 rw[cM];go_wp2;go_quiet (fail);go_wp2);rw[cM];go_wp2;go_returns;exact⟨gH (by rw[c.out];simp;omega),kp⟩
theorem amZ(a b:cT):eP cJ 43 #[a.val,b.val] (ek (!Vec.dX a b)):=by have g:=SV a b;obtain⟨a0,a1,a2⟩:=a;obtain⟨f,b1,b2⟩:=b;intro w;unfold Vec.V.val at g⊢;go_enter func43,ntmps43;go_wp2_with fail;refine(g _).mono ?_;rintro e w1⟨rfl,c⟩;have d:=aA (a:=w) kp c;go_wp2;go_returns;exact⟨rfl,d⟩
theorem KX(a:cT):eP cJ 157 #[a.val] (ek (lU a)):=by
 obtain⟨a0,a1,a2⟩:=a;intro w;have hv:=qZ (pR ⟨a0,a1,a2⟩);unfold Vec.V.val;obtain⟨i0,f,g⟩:=idx a0 a1 a2;rcases(by omega:a0<0\/1048576<a0\/(0<=a0/\a0<=1048576))with c|c|⟨c,i⟩
 .go_enter eV,eL;go_wp2;refine cH 1 ?_;rw[cM];go_wp2;go_returns;exact⟨gH (by have:=hv.out;exact(iD.2 λb=>by have:=this.1 b;omega).symm),kp⟩
 .go_enter eV,eL;go_wp2;refine cH 1 ?_;rw[cM];go_wp2;go_returns;exact⟨gH (by have:=hv.out;exact(iD.2 λb=>by have:=this.1 b;omega).symm),kp⟩
 rcases(by omega:a1<0\/1048576<a1\/(0<=a1/\a1<=1048576))with d|d|⟨d,j⟩
 .go_enter eV,eL;go_wp2;refine cH 2 ?_;(iterate 2 rw[cM];go_wp2);go_returns;exact⟨gH (by have:=hv.out;exact(iD.2 λb=>by have:=this.1 b;omega).symm),kp⟩
 .go_enter eV,eL;go_wp2;refine cH 2 ?_;(iterate 2 rw[cM];go_wp2);go_returns;exact⟨gH (by have:=hv.out;exact(iD.2 λb=>by have:=this.1 b;omega).symm),kp⟩
 rcases(by omega:a2<0\/1048576<a2\/(0<=a2/\a2<=1048576))with e|e|⟨e,k⟩
 .go_enter eV,eL;go_wp2;refine cH 3 ?_;(iterate 3 rw[cM];go_wp2);go_returns;exact⟨gH (by have:=hv.out;exact(iD.2 λb=>by have:=this.1 b;omega).symm),kp⟩
 .go_enter eV,eL;go_wp2;refine cH 3 ?_;(iterate 3 rw[cM];go_wp2);go_returns;exact⟨gH (by have:=hv.out;exact(iD.2 λb=>by have:=this.1 b;omega).symm),kp⟩
 .go_enter eV,eL;go_wp2;refine cH 4 ?_;(iterate 4 rw[cM];go_wp2);go_returns;exact⟨gH (by have:=hv.out;exact(this.2 ⟨⟨oZ,oZ⟩,⟨oZ,oZ⟩,⟨oZ,oZ⟩⟩).symm),kp⟩
end gT
variable{args:Array cP}{c:eo}{k:Nat}{A:Option Addr}{v v' v1 v2:cP}{w w' w0 w1:cG}
namespace L
open Go.RowKit
def fV(P:fo)(w0:cG)(f:gd)(args:Array cP)(v:cP):Prop:=∀w:cG,cE w0 w0 w->dC P f args w λe w'=>e=cN v/\cE w w w'
theorem fV.on{P:fo}{f:gd}(g:fV P w0 f args v)(h:cE w0 w0 w1):fV P w1 f args v:=λw a=>g w (aA h a)
theorem fV.up{P:fo}{a:cG}{f:gd}(g:fV P w0 f args v)(h:cE w0 w0 a):∀W,aD a W->dC P f args W λe W'=>e=cN v/\aD a W':=
 λW b=>(g W (aA h b)).mono λ_ _ ⟨c,hb⟩=>⟨c,b.after hb⟩
theorem fV.val{P:fo}{f:gd}(h:fV P w0 f args v)(e:v=v'):fV P w0 f args v':=e▸h
end L
namespace bO
open Go.RowKit L
def nN(x:lN):List cP:=[cC cA x.parent,cC cA x.iO,cC cA x.fC.x,cC cA x.fC.y,cC cA x.fC.z,cC cA x.borrow.x,cC cA x.borrow.y,cC cA x.borrow.z,cC cA x.lend.x,cC cA x.lend.y,cC cA x.lend.z]
def hdec(x:iI):List cP:=[cC cA x.flavor,cC cA x.block,cC cA x.zM,cC cA x.cap.x,cC cA x.cap.y,cC cA x.cap.z]
def nval(x:lN):cP:=cR #[x.parent,x.iO,x.fC.x,x.fC.y,x.fC.z,x.borrow.x,x.borrow.y,x.borrow.z,x.lend.x,x.lend.y,x.lend.z]
def Nodes(w:cG)(v:cP)(xs:List lN):Prop:=∃A cap,v=ac A xs.length cap/\gF w A 11 nN xs/\xs.length<=dT
def MR(w:cG)(v:cP)(xs:List iI):Prop:=∃A cap,v=ac A xs.length cap/\gF w A 6 hdec xs/\xs.length<=dT
def bW(w:cG)(v:cP)(c:eo):Prop:=∃v1 v2,v=cR #[v1,v2,c.aG,c.aJ]/\Nodes w v1 c.aN/\MR w v2 c.aR
theorem Nodes.below{xs:List lN}(h:Nodes w v xs)(a:cE w w w'):Nodes w' v xs:=by obtain⟨A,cap,e,c,b⟩:=h;exact⟨A,cap,e,c.below a,b⟩
theorem MR.below{xs:List iI}(h:MR w v xs)(a:cE w w w'):MR w' v xs:=by obtain⟨A,cap,e,c,b⟩:=h;exact⟨A,cap,e,c.below a,b⟩
theorem bW.below(h:bW w v c)(a:cE w w w'):bW w' v c:=by obtain⟨v1,v2,e,b,d⟩:=h;exact⟨v1,v2,e,b.below a,d.below a⟩
def LV(w:cG)(b o:Nat)(x:lN):Prop:=w.cell? (b,o)=cD (cC cA x.parent)/\w.cell? (b,o+1)=cD (cC cA x.iO)/\w.cell? (b,o+2)=cD (cC cA x.fC.x)/\w.cell? (b,o+3)=cD (cC cA x.fC.y)/\w.cell? (b,o+4)=cD (cC cA x.fC.z)/\w.cell? (b,o+5)=cD (cC cA x.borrow.x)/\w.cell? (b,o+6)=cD (cC cA x.borrow.y)/\w.cell? (b,o+7)=cD (cC cA x.borrow.z)/\w.cell? (b,o+8)=cD (cC cA x.lend.x)/\w.cell? (b,o+9)=cD (cC cA x.lend.y)/\w.cell? (b,o+10)=cD (cC cA x.lend.z)
theorem nE{xs:List lN}(h:gF w A 11 nN xs)(c:k<xs.length):∃b o,A=cD ⟨b,o,cL⟩/\b<(w:Nat)/\∀w',cE w w w'->LV w' b (o+k*11) xs[k]:=by obtain⟨b,o,rfl,d,g⟩:=h (by intro e;subst e;simp at c);have i:=aH c;refine⟨b,o,rfl,d,λw' f=>?_⟩;have a:∀j v,(nN xs[k])[j]? =cD v->CV w' b (o+k*11+j) v:=λj v hv=>(f.cell (p:=⟨b,o+k*11+j,cL⟩) d).trans (g k xs[k] i j v hv);exact⟨a 0 _ rfl,a 1 _ rfl,a 2 _ rfl,a 3 _ rfl,a 4 _ rfl,a 5 _ rfl,a 6 _ rfl,a 7 _ rfl,a 8 _ rfl,a 9 _ rfl,a 10 _ rfl⟩
theorem GN{xs:List lN}(h:gF w A 11 nN xs)(d:k<xs.length):∃b o,A=cD ⟨b,o,cL⟩/\b<(w:Nat)/\∀w',cE w w w'->w'.cell? ⟨b,o+k*11,cL⟩=cD (cC cA xs[k].parent):=by obtain⟨b,o,e,f,c⟩:=nE h d;exact⟨b,o,e,f,λw' a=>(c w' a).1⟩
theorem pQ(n lo hi:Int)(w:cG):dC cJ 152 #[n,lo,hi] w λe w'=>e=cN (ek (fD n lo hi))/\w=w':=by
 unfold fD;by_cases a:lo<=n
 .go_enter func152,ntmps152;go_wp2;go_ret;exact⟨by simp[a],rfl⟩
 .have b:decide (lo<=n)=cI:=by simpa using a
  go_enter func152,ntmps152;go_wp2;go_ret;exact⟨by simp[a],rfl⟩
theorem aoL(x:lN)(n:Int)(b:Nat)(w:cG)(a:b<(w:Nat))(c:w.cell? (b,0)=cD (cC cA n)):dC cJ 95 #[nval x,fg b] w λe w'=>e=cN (ek (x.parent==n))/\cE w w w':=by unfold nval;have d:¬b=(w:Nat):=oZ;go_enter func95,ntmps95;go_wp2;go_ret;exact⟨rfl,bZ⟩
theorem bW.s1{a b:cP}(h:bW w (cR #[v1,v2,a,b]) c):∃A n k,v1=ac A n k:=by obtain⟨_,_,e,⟨A,k,rfl,_⟩,_⟩:=h;simp only[Value.agg.injEq,eB,dJ,and_true]at e;exact⟨_,_,_,e.1⟩
theorem bW.s2{a b:cP}(h:bW w (cR #[v1,v2,a,b]) c):∃A n k,v2=ac A n k:=by obtain⟨_,_,e,_,⟨A,k,rfl,_⟩⟩:=h;simp only[Value.agg.injEq,eB,dJ,and_true]at e;exact⟨_,_,_,e.2.1⟩
def aks(P:Bool)(w:cG)(e:fy)(w':cG):Prop:=∃r:Int,e=cN r/\decide (0<=r)=P/\cE w w w'
theorem acM(xs:List lN)(n:Int)(k:Nat)(h:k<xs.length):(xs.take (k+1)).any (λx=>x.parent==n)=((xs.take k).any (λx=>x.parent==n)||(xs[k].parent==n)):=by rw[lS,aH h,ft];simp only[Option.toList_some,List.any_cons,List.any_nil,Bool.or_false]
theorem ake{xs:List lN}{n:Int}(h:k<xs.length)(e:xs[k].parent=n):xs.any (λx=>x.parent==n)=cW:=by rw[kS];exact⟨xs[k],bD h,by simpa using e⟩
theorem aiW{xs:List lN}(n:Int)(b:Nat)(w:cG)(hv:Nodes w v xs)(y:b<(w:Nat))(F:w.cell? (b,0)=cD (cC cA n)):dC cJ 151 #[v,.func (.func 95) #[] #[fg b]] w λe w'=>aks (xs.any λx=>x.parent==n) w e w':=by
 obtain⟨A,cap,rfl,K,J⟩:=hv;unfold dT at J;have M:=qZ K;have L:=qZ F;obtain⟨N,l⟩:=nZ xs.length;have s:=qZ l;rw[l]at J⊢;clear K F l;go_enter func151,ntmps151;go_wp2_with fail;go_loopw [8] (λi wr=>∃k:Nat,i=cC cA (k:Int)/\k<=N/\Hid ((xs.take k).any (λx=>x.parent==n)=cI)/\cE w w wr) (λi _=>N-(intOf i).toNat);exact⟨0,rfl,oZ,qZ sZ,aK _ _⟩
 obtain⟨k,rfl,ad,r,a⟩:=hrel;by_cases T:k<N
 .have j:k<xs.length:=by have:=s.out;omega
  obtain⟨ab,o,rfl,af,H⟩:=nE M j;have O:=H wr a;have X:=qZ (acM xs n k j);have Z:=qZ (λe=>ake (n:=n) j e);generalize xs[k]=x at*;have z:b<(wr:Nat):=aM y a.size;have I:CI wr b 0 n:=(a.cell (p:=⟨b,0,cL⟩) y).trans L;have c:=qZ (aoL x n b wr z I);obtain⟨u,c1,c2,c3,c4,c5,c6,c7,c8,c9,c10⟩:=O;unfold nval at c;clear H j I z;by_cases g:x.parent=n
  .have d:(x.parent==n)=cW:=by simpa using g
   rw[d]at c;have Y:=qZ (Z.out g);clear g d;go_wp2_with fail;refine c.out.mono ?_;rintro e aa⟨rfl,f⟩;have m:=a.trans (f.mono a.size);clear f a c u c1 c2 c3 c4 c5 c6 c7 c8 c9 c10;go_wp2_with fail;go_ret;exact⟨k,rfl,by rw[Y.out];simp,m⟩
  .have d:(x.parent==n)=cI:=by simpa using g
   rw[d]at c;have W:=qY ((xs.take (k+1)).any (λx=>x.parent==n)=cI) (by rw[X.out,r.out,d];rfl);clear g d;go_wp2_with fail;refine c.out.mono ?_;rintro e aa⟨rfl,f⟩;have m:=a.trans (f.mono a.size);clear f a c u c1 c2 c3 c4 c5 c6 c7 c8 c9 c10;go_wp2_with fail;go_roundw;exact⟨k+1,mZ,oZ,W,m⟩;simp[intOf];omega
 .have Q:=qY (xs.any (λx=>x.parent==n)=cI) (by have:=r.out;rwa [aU (by have:=s.out;omega)]at this);have ae:N<=k:=oZ;clear T;go_wp2_with fail;go_ret;exact⟨-1,rfl,by rw[Q.out];decide,a⟩
theorem BR{xs:List lN}(n:Int)(b:Nat)(w:cG)(hv:Nodes w v xs)(f:b<(w:Nat))(a:w.cell? (b,0)=cD (cC cA n)):dC cJ 94 #[v,.func (.func 95) #[] #[fg b]] w λe w'=>e=cN (ek (xs.any λx=>x.parent==n))/\cE w w w':=by have hi:=qZ (aiW n b w hv f a);generalize(xs.any λx=>x.parent==n)=r at*;clear hv a;go_enter func94,ntmps94;go_wp2_with fail;refine hi.out.mono ?_;rintro e w1⟨q,rfl,c,g⟩;have d:=qZ c;clear hi c;go_wp2_with fail;go_ret;exact⟨gH d,g⟩
theorem aen(c:eo)(n:Int):iP c n=(decide (0<=n)&&(decide (n<(c.aN.length:Int))&& !(c.aN.any λx=>x.parent==n))):=by unfold iP;rw[Bool.and_assoc];congr 2;rw[List.not_any_eq_all_not];rfl
theorem tZ(f:bW w v c)(n:Int):fV cJ w 42 #[v,n] (ek (iP c n)):=by
 intro w1 p;replace f:=f.below p;obtain⟨v1,v2,rfl,m,z⟩:=f;obtain⟨A,cap,rfl,F,l⟩:=id m;have b:=qZ (aen c n);have i:=qZ m;obtain⟨N,o⟩:=nQ c.aN.length;rw[o.out]at b i l⊢;unfold dT at l;by_cases j:0<=n
 .by_cases k:n<(N:Int)
  .have y:=qZ (λg (h:Nodes g (ac A N cap) c.aN) d h3=>BR n ((w1:Nat)+1) g h d h3);generalize(c.aN.any λx=>x.parent==n)=r at*;go_enter func42,ntmps42;go_wp2_with fail;refine(y.out _ (i.below kp) sZ (by simp[go_sem])).mono ?_;rintro e g⟨rfl,s⟩;have u:=aA (a:=w1) kp s;go_wp2_with fail;go_ret;exact⟨gH (by rw[b.out];simp[j,k]),u⟩
  .go_enter func42,ntmps42;go_wp2_with fail;go_ret;exact⟨gH (by rw[b.out,show decide (n<(N:Int))=cI by simpa using k];simp),kp⟩
 .have d:decide (0<=n)=cI:=by simpa using j
  go_enter func42,ntmps42;go_wp2_with fail;go_ret;exact⟨gH (by rw[b.out,d];simp),kp⟩
theorem KL(g:bW w v c)(n:Int):fV cJ w 64 #[v,n] (ek (iP c n)):=by
 intro w1 b;replace g:=g.below b;obtain⟨v1,v2,rfl,⟨A,cap,rfl,I,r⟩,T⟩:=g;have a:=qZ (aen c n);have s:=qZ I;obtain⟨N,d⟩:=nQ c.aN.length;rw[d.out]at a r⊢;unfold dT at r;by_cases f:n<0
 .have M:decide (n<0)=cW:=by simpa using f
  go_enter func64,ntmps64;go_wp2_with fail;go_ret;exact⟨gH (by rw[a.out,show decide (0<=n)=cI by simpa using f];simp),kp⟩
 .by_cases p:n<(N:Int)
  .have O:¬(N:Int)<=n:=oZ;go_enter func64,ntmps64;go_wp2_with fail
   go_loop [5] (λi=>∃k:Nat,i=cC cA (k:Int)/\k<=N/\Hid ((c.aN.take k).any (λx=>x.parent==n)=cI)) (λi=>N-(intOf i).toNat)
   case atStart=>exact⟨0,rfl,oZ,qZ sZ⟩
   case round=>
    obtain⟨k,rfl,W,m⟩:=hrel;by_cases X:k<N
    .have j:k<c.aN.length:=by have:=d.out;omega
     obtain⟨u,o,rfl,Z,z⟩:=GN s j;have Q:=z w1 (aK _ _);have aa:¬u=(w1:Nat):=oZ;have J:=qZ (acM c.aN n k j);have L:=qZ (λe=>ake (n:=n) j e);generalize c.aN[k].parent=y at*;by_cases l:y=n
     .have K:=qZ (L.out l);have b:(y==n)=cW:=by simpa using l
      go_wp2_with fail;go_ret;exact⟨gH (by rw[a.out,K.out];simp),kp⟩
     .have b:(y==n)=cI:=by simpa using l
      have H:=qY ((c.aN.take (k+1)).any (λx=>x.parent==n)=cI) (by rw[J.out,m.out,b];rfl);go_wp2_with fail
      go_round
      case rel=>exact⟨k+1,mZ,oZ,H⟩
      case measure=>simp[intOf];omega
    .have F:=qY (c.aN.any (λx=>x.parent==n)=cI) (by have:=m.out;rwa [aU (by have:=d.out;omega)]at this);have Y:N<=k:=oZ;go_wp2_with fail;go_ret;exact⟨gH (by rw[a.out,F.out,show decide (n<(N:Int))=cW by simpa using p,show decide (0<=n)=cW by simpa using f];rfl),kp⟩
  .go_enter func64,ntmps64;go_wp2_with fail;go_ret;exact⟨gH (by rw[a.out,show decide (n<(N:Int))=cI by simpa using p];simp),kp⟩
theorem aqK(x y z:Int)(w:cG):(e8 3 #[cX cA x,y,z] 0).run cJ w=.ok x w:=by kernel_rfl
theorem aqJ(x y z:Int)(w:cG):(e8 3 #[cX cA x,y,z] 1).run cJ w=.ok y w:=by kernel_rfl
theorem aqI(x y z:Int)(w:cG):(e8 3 #[cX cA x,y,z] 2).run cJ w=.ok z w:=by kernel_rfl
theorem eqd(d:Nat)(x0 c e f g i:Int)(w:cG)(m:∀(a b:Int) (w:cG),(ep d 3 a b).run cJ w=.ok (a==b) w):(ep (d+1) 40 (cR #[x0,c,e]) (cR #[f,g,i])).run cJ w=.ok (sN ⟨x0,c,e⟩ ⟨f,g,i⟩) w:=by
 have n:prog.underlying 40=cD (.array 3 3):=kZ;by_cases j:x0=f<;>by_cases k:c=g<;>by_cases l:e=i<;>
  simp[sN,ep,Sem.run_bind,run_underlying n,eN,List.range',List.forIn_cons,aqK,aqJ,aqI,m,j,k,l,Sem.run_pure,Sem.run_ite]
theorem TQ(d:Nat)(a b:Int)(w:cG):(ep (d+1) 3 a b).run cJ w=.ok (a==b) w:=run_equalIn_int w d 3 cA cA a b kZ
theorem agm(d:Nat)(x0 c e f g i:Int)(w:cG):(ep (d+1+1) 40 (cR #[x0,c,e]) (cR #[f,g,i])).run cJ w=.ok (sN ⟨x0,c,e⟩ ⟨f,g,i⟩) w:=
 eqd (d+1) x0 c e f g i w (λa b w=>TQ d a b w)
@[go_sem high] theorem eqv (x0 x1 x2 y0 y1 y2:Int) (w:cG):(ep 10000 40 (cR #[x0,x1,x2]) (cR #[y0,y1,y2])).run cJ w=.ok (sN ⟨x0,x1,x2⟩ ⟨y0,y1,y2⟩) w:=agm 9998 x0 x1 x2 y0 y1 y2 w
section
variable (a0 a1 a2 a3 a4 a5 a6 a7 a8 a9 a10 b0 b1 b2 b3 b4 b5 b6 b7 b8 b9 b10:Int) (w:cG)
theorem apA:(e8 3 #[cX cA a0,a1,a2,a3,a4,a5,a6,a7,a8,a9,a10] 0).run cJ w=.ok a0 w:=by kernel_rfl
theorem apz:(e8 3 #[cX cA a0,a1,a2,a3,a4,a5,a6,a7,a8,a9,a10] 1).run cJ w=.ok a1 w:=by kernel_rfl
theorem apy:(e8 40 #[cX cA a0,a1,a2,a3,a4,a5,a6,a7,a8,a9,a10] 2).run cJ w=.ok (cR #[a2,a3,a4]) w:=by kernel_rfl
theorem apx:(e8 40 #[cX cA a0,a1,a2,a3,a4,a5,a6,a7,a8,a9,a10] 5).run cJ w=.ok (cR #[a5,a6,a7]) w:=by kernel_rfl
theorem apw:(e8 40 #[cX cA a0,a1,a2,a3,a4,a5,a6,a7,a8,a9,a10] 8).run cJ w=.ok (cR #[a8,a9,a10]) w:=by kernel_rfl
@[go_sem high] theorem arv:(ep 10000 66 (cR #[a0,a1,a2,a3,a4,a5,a6,a7,a8,a9,a10]) (cR #[b0,b1,b2,b3,b4,b5,b6,b7,b8,b9,b10])).run cJ w=
  .ok (aam ⟨a0,a1,⟨a2,a3,a4⟩,⟨a5,a6,a7⟩,⟨a8,a9,a10⟩⟩ ⟨b0,b1,⟨b2,b3,b4⟩,⟨b5,b6,b7⟩,⟨b8,b9,b10⟩⟩) w:=by
 have hS:prog.underlying 66=cD (.struct (prog.fieldsOf 66)):=kZ;have hp:prog.stoodInHeld 66=cI:=kZ;rw[show(10000:Nat)=9999+1 from rfl,run_equalIn_agg w 9999 66 _ _ hS hp];simp only[Program.fieldsOf,underlying66];have v1:=λx0 x1 x2 y0 y1 y2 w=>agm 9997 x0 x1 x2 y0 y1 y2 w;have i1:=λa b w=>TQ 9998 a b w;simp only[Op.eqFields,apA,apz,apy,apx,apw,v1,i1,Sem.run_bind,eN,Sem.run_pure,Sem.run_ite,aam];have n1:("Parent" :String)≠ "_" :=dZ;have n2:("Weight" :String)≠ "_" :=dZ;have n3:("Nominal" :String)≠ "_" :=dZ;have n4:("Borrow" :String)≠ "_" :=dZ;have n5:("Lend" :String)≠ "_" :=dZ;simp only[n1,n2,n3,n4,n5,ne_eq,not_false_eq_true,if_true];generalize(a0==b0)=t0;generalize(a1==b1)=t1;generalize sN ⟨a2,a3,a4⟩ ⟨b2,b3,b4⟩=t2;generalize sN ⟨a5,a6,a7⟩ ⟨b5,b6,b7⟩=t3;generalize sN ⟨a8,a9,a10⟩ ⟨b8,b9,b10⟩=t4;cases t0<;>cases t1<;>cases t2<;>cases t3<;>cases t4<;>rfl
end
open Go.RowKit L
theorem xK{b:Nat}{x:lN}(h:LV w b 0 x)(r:cE w w w')(s:b<(w:Nat)):w'.cell? (b,0)=cD (cC cA x.parent)/\w'.cell? (b,1)=cD (cC cA x.iO)/\w'.cell? (b,2)=cD (cC cA x.fC.x)/\w'.cell? (b,3)=cD (cC cA x.fC.y)/\w'.cell? (b,4)=cD (cC cA x.fC.z)/\w'.cell? (b,5)=cD (cC cA x.borrow.x)/\w'.cell? (b,6)=cD (cC cA x.borrow.y)/\w'.cell? (b,7)=cD (cC cA x.borrow.z)/\w'.cell? (b,8)=cD (cC cA x.lend.x)/\w'.cell? (b,9)=cD (cC cA x.lend.y)/\w'.cell? (b,10)=cD (cC cA x.lend.z):=by obtain⟨a,c,e,f,g,i,j,l,m,n,d⟩:=h;simp only[aO]at*;have k:∀o v,CV w b o v->CV w' b o v:=λo v hv=>(r.cell (p:=⟨b,o,cL⟩) s).trans hv;exact⟨k _ _ a,k _ _ c,k _ _ e,k _ _ f,k _ _ g,k _ _ i,k _ _ j,k _ _ l,k _ _ m,k _ _ n,k _ _ d⟩
theorem abE(c:eo)(k:Nat)(x:lN):xW c k x=(!((decide (k=0)&&(x.parent != -1))||((decide (0<k)&& !Cfg.fD x.parent 0 ((k:Int)-1))|| !Cfg.fD x.iO 1 1000))&&(if iP c (k:Int)then lU x.fC&&(lU x.borrow&&(lU x.lend&&fm x.lend x.fC))else pW x.fC&&(pW x.borrow&&pW x.lend))):=by
 unfold xW abz;congr 1;by_cases h:k=0
 .subst h;simp;cases h:(x.parent== -1)<;>cases Cfg.fD x.iO 1 1000<;>simp_all
 .have a:0<k:=oZ;simp[h,a]
theorem afk(x:lN):aam x ⟨x.parent,x.iO,⟨0,0,0⟩,⟨0,0,0⟩,⟨0,0,0⟩⟩=(pW x.fC&&(pW x.borrow&&pW x.lend)):=by unfold aam sN pW;simp
theorem alN(ad:bW w v c)(k:Nat)(ak:k<c.aN.length):fV cJ w 153 #[v,(k:Int)] (ek (xW c k (c.aN.getD k default))):=by
 intro w1 ay;replace ad:=ad.below ay;clear ay;have al:=tZ ad (k:Int);obtain⟨v1,v2,rfl,⟨A,cap,rfl,a9,a8⟩,bf⟩:=ad;obtain⟨ao,o,rfl,bn,a0⟩:=nE a9 ak;have a5:c.aN.getD k default=c.aN[k]:=by rw[aV,aH ak];rfl
 rw[a5,abE];have ba:=qZ (afk c.aN[k]);have be:=a0 w1 (aK _ _);have bo:¬ao=(w1:Nat):=oZ;generalize c.aN[k]=x at*;obtain⟨p,ae,⟨n0,n1,n2⟩,⟨M,b1,b2⟩,⟨I,J,K⟩⟩:=x;obtain⟨bm,c1,c2,c3,c4,c5,c6,c7,c8,c9,c10⟩:=be;unfold dT at a8;obtain⟨N,ax⟩:=nZ c.aN.length;rw[ax]at a8 ak al⊢;simp only at*;have bd:=qZ (pQ p 0 ((k:Int)-1));have ap:=qZ (pQ ae 1 1000);have au:=qZ (gT.KX ⟨n0,n1,n2⟩);have av:=qZ (gT.KX ⟨M,b1,b2⟩);have aw:=qZ (gT.KX ⟨I,J,K⟩);have aq:=qZ (gT.SV ⟨I,J,K⟩ ⟨n0,n1,n2⟩);have ar:=qZ al;generalize fD p 0 ((k:Int)-1)=B1 at*;generalize fD ae 1 1000=B2 at*;generalize iP c (k:Int)=af at*;generalize lU ⟨n0,n1,n2⟩=ag at*;generalize lU ⟨M,b1,b2⟩=ah at*;generalize lU ⟨I,J,K⟩=ai at*;generalize fm ⟨I,J,K⟩ ⟨n0,n1,n2⟩=FT at*;unfold Vec.V.val at*;clear a9 bf a0 a5 al ax;obtain⟨R,aj⟩:∃R,(!((decide (k=0)&&(p != -1))||((decide (0<k)&& !B1)|| !B2))&&
   (if af then ag&&(ah&&(ai&&FT))else pW ⟨n0,n1,n2⟩&&(pW ⟨M,b1,b2⟩&&pW ⟨I,J,K⟩)))=R:=⟨_,rfl⟩
 rw[aj];have y:=qZ aj;clear aj;have az:LV ((w1.alloc (cF #[ac (cD ⟨ao,o,cL⟩) N cap,v2,c.aG,c.aJ] 26)).alloc (cF #[p,ae,n0,n1,n2,M,b1,b2,I,J,K] 66)) ((w1:Nat)+1) 0 ⟨p,ae,⟨n0,n1,n2⟩,⟨M,b1,b2⟩,⟨I,J,K⟩⟩:=by refine⟨?_,?_,?_,?_,?_,?_,?_,?_,?_,?_,?_⟩<;>simp[go_sem]
 have F:=qZ az;clear az;by_cases Q:k=0
 .have bj:((k:Int)==0)=cW:=by simp[Q]
  have bb:¬0<(k:Int):=oZ;have bp:decide (0<(k:Int))=cI:=by simpa using bb
  have H:=qZ Q;clear Q;by_cases L:p= -1
  .have bg:(p != -1)=cI:=by simpa using L
   have ab:=qZ L;clear L;go_enter func153,ntmps153;go_wp2_with fail;refine(ap.out _).mono ?_;rintro e bc⟨rfl,rfl⟩;cases B2
   .go_wp2_with fail;go_ret;exact⟨gH (by rw[<-y.out];simp),kp⟩
   go_wp2_with fail;refine(ar.out _ kp).mono ?_;rintro e an⟨rfl,z⟩;have O:=aA (a:=w1) kp z;obtain⟨d,f,i,j,l,m,n,r,s,u,g⟩:=xK F z sZ;have bi:(w1:Nat)+1<(an:Nat):=by have:=z.size;simp at this;omega
   cases af
   .go_wp2_with fail;go_ret;exact⟨gH (by rw[ba.out,<-y.out];simp[H.out,ab.out]),O⟩
   go_wp2_with fail;refine(au.out _).mono ?_;rintro e bk⟨rfl,b⟩;have T:=aA z b;have Y:=aA O b;clear b d f i j l m n r s u g;obtain⟨d,f,i,j,l,m,n,r,s,u,g⟩:=xK F T sZ;cases ag
   .go_wp2_with fail;go_ret;exact⟨gH (by rw[<-y.out];simp),Y⟩
   go_wp2_with fail;refine(av.out _).mono ?_;rintro e v1⟨rfl,b⟩;have W:=aA T b;have Z:=aA Y b;clear b d f i j l m n r s u g;obtain⟨d,f,i,j,l,m,n,r,s,u,g⟩:=xK F W sZ;cases ah
   .go_wp2_with fail;go_ret;exact⟨gH (by rw[<-y.out];simp),Z⟩
   go_wp2_with fail;refine(aw.out _).mono ?_;rintro e v2⟨rfl,b⟩;have X:=aA W b;have aa:=aA Z b;clear b d f i j l m n r s u g;obtain⟨d,f,i,j,l,m,n,r,s,u,g⟩:=xK F X sZ;cases ai
   .go_wp2_with fail;go_ret;exact⟨gH (by rw[<-y.out];simp),aa⟩
   go_wp2_with fail;refine(aq.out _).mono ?_;rintro e bl⟨rfl,b⟩;have bh:=aA X b;have am:=aA aa b;clear b d f i j l m n r s u g;go_wp2_with fail;go_ret;exact⟨gH (by rw[<-y.out];simp[H.out,ab.out]),am⟩
  .have bg:(p != -1)=cW:=by simpa using L
   have ab:=qZ L;clear L;go_enter func153,ntmps153;go_wp2_with fail;go_ret;exact⟨gH (by rw[<-y.out];simp[H.out,ab.out]),kp⟩
 .have bj:((k:Int)==0)=cI:=by simp[Q]
  have bb:0<(k:Int):=oZ;have H:=qY (0<k) (by omega);clear Q;go_enter func153,ntmps153;go_wp2_with fail;refine(bd.out _).mono ?_;rintro e bc⟨rfl,rfl⟩;cases B1
  .go_wp2_with fail;go_ret;exact⟨gH (by rw[<-y.out];simp[show¬k=0 by have:=H.out;omega,H.out]),kp⟩
  go_wp2_with fail;refine(ap.out _).mono ?_;rintro e bc⟨rfl,rfl⟩;cases B2
  .go_wp2_with fail;go_ret;exact⟨gH (by rw[<-y.out];simp),kp⟩
  go_wp2_with fail;refine(ar.out _ kp).mono ?_;rintro e an⟨rfl,z⟩;have O:=aA (a:=w1) kp z;obtain⟨d,f,i,j,l,m,n,r,s,u,g⟩:=xK F z sZ;have bi:(w1:Nat)+1<(an:Nat):=by have:=z.size;simp at this;omega
  cases af
  .go_wp2_with fail;go_ret;exact⟨gH (by rw[ba.out,<-y.out];simp[show¬k=0 by have:=H.out;omega]),O⟩
  go_wp2_with fail;refine(au.out _).mono ?_;rintro e bk⟨rfl,b⟩;have T:=aA z b;have Y:=aA O b;clear b d f i j l m n r s u g;obtain⟨d,f,i,j,l,m,n,r,s,u,g⟩:=xK F T sZ;cases ag
  .go_wp2_with fail;go_ret;exact⟨gH (by rw[<-y.out];simp),Y⟩
  go_wp2_with fail;refine(av.out _).mono ?_;rintro e v1⟨rfl,b⟩;have W:=aA T b;have Z:=aA Y b;clear b d f i j l m n r s u g;obtain⟨d,f,i,j,l,m,n,r,s,u,g⟩:=xK F W sZ;cases ah
  .go_wp2_with fail;go_ret;exact⟨gH (by rw[<-y.out];simp),Z⟩
  go_wp2_with fail;refine(aw.out _).mono ?_;rintro e v2⟨rfl,b⟩;have X:=aA W b;have aa:=aA Z b;clear b d f i j l m n r s u g;obtain⟨d,f,i,j,l,m,n,r,s,u,g⟩:=xK F X sZ;cases ai
  .go_wp2_with fail;go_ret;exact⟨gH (by rw[<-y.out];simp),aa⟩
  go_wp2_with fail;refine(aq.out _).mono ?_;rintro e bl⟨rfl,b⟩;have bh:=aA X b;have am:=aA aa b;clear b d f i j l m n r s u g;go_wp2_with fail;go_ret;exact⟨gH (by rw[<-y.out];simp[show¬k=0 by have:=H.out;omega]),am⟩
def hval(x:iI):cP:=cR #[x.flavor,x.block,x.zM,x.cap.x,x.cap.y,x.cap.z]
theorem ajf(x:iI):eP cJ 154 #[hval x] (ek (wI x)):=by
 intro w;obtain⟨f,b,r,⟨x0,d,g⟩⟩:=x;unfold hval wI;simp only;have j:=qZ (pQ f 0 100);have k:=qZ (pQ b 0 100);have l:=qZ (pQ r 0 100);have m:=qZ (gT.KX ⟨x0,d,g⟩);generalize fD f 0 100=B1 at*;generalize fD b 0 100=B2 at*;generalize fD r 0 100=i at*;generalize lU ⟨x0,d,g⟩=B4 at*;unfold Vec.V.val at*;go_enter func154,ntmps154;go_wp2_with fail;refine(j.out _).mono ?_;rintro e c⟨rfl,rfl⟩;cases B1
 .go_wp2_with fail;go_ret;exact⟨rfl,kp⟩
 go_wp2_with fail;refine(k.out _).mono ?_;rintro e c⟨rfl,rfl⟩;cases B2
 .go_wp2_with fail;go_ret;exact⟨rfl,kp⟩
 go_wp2_with fail;refine(l.out _).mono ?_;rintro e c⟨rfl,rfl⟩;cases i
 .go_wp2_with fail;go_ret;exact⟨rfl,kp⟩
 go_wp2_with fail;refine(m.out _).mono ?_;rintro e w1⟨rfl,n⟩;have o:=aA (a:=w) kp n;go_wp2_with fail;go_ret;exact⟨rfl,o⟩
end bO
variable{n:Nat}
namespace bO
open Go.RowKit L
theorem qX{xs:List iI}(h:gF w A 6 hdec xs)(c:k<xs.length):∃b o,A=cD ⟨b,o,cL⟩/\b<(w:Nat)/\∀w',cE w w w'->(w'.cell? (b,o+k*6)=cD (cC cA xs[k].flavor)/\w'.cell? (b,o+k*6+1)=cD (cC cA xs[k].block)/\w'.cell? (b,o+k*6+2)=cD (cC cA xs[k].zM)/\w'.cell? (b,o+k*6+3)=cD (cC cA xs[k].cap.x)/\w'.cell? (b,o+k*6+4)=cD (cC cA xs[k].cap.y)/\w'.cell? (b,o+k*6+5)=cD (cC cA xs[k].cap.z)):=by obtain⟨b,o,rfl,d,g⟩:=h (by intro e;subst e;simp at c);have i:=aH c;refine⟨b,o,rfl,d,λw' f=>?_⟩;have a:∀j v,(hdec xs[k])[j]? =cD v->CV w' b (o+k*6+j) v:=λj v hv=>(f.cell (p:=⟨b,o+k*6+j,cL⟩) d).trans (g k xs[k] i j v hv);exact⟨a 0 _ rfl,a 1 _ rfl,a 2 _ rfl,a 3 _ rfl,a 4 _ rfl,a 5 _ rfl⟩
def gM(w:cG)(b:Nat)(v1 v2:cP)(h a:Int):Prop:=b<(w:Nat)/\w.cell? (b,0)=cD v1/\w.cell? (b,1)=cD v2/\w.cell? (b,2)=cD (cC cA h)/\w.cell? (b,3)=cD (cC cA a)
theorem gM.on{b:Nat}{h a:Int}(x:gM w b v1 v2 h a)(c:cE w w w'):gM w' b v1 v2 h a:=
 ⟨aM x.1 c.size,(c.cell (p:=⟨b,0,cL⟩) x.1).trans x.2.1,(c.cell (p:=⟨b,1,cL⟩) x.1).trans x.2.2.1,(c.cell (p:=⟨b,2,cL⟩) x.1).trans x.2.2.2.1,(c.cell (p:=⟨b,3,cL⟩) x.1).trans x.2.2.2.2⟩
theorem gM.new(w:cG)(v1 v2:cP)(h a:Int):gM (w.alloc (cF #[v1,v2,h,a] 26)) (w:Nat) v1 v2 h a:=⟨sZ,by simp[go_sem],by simp[go_sem],by simp[go_sem],by simp[go_sem]⟩
theorem adA(a:k<=c.aN.length)(h:nK c k=cI):nK c c.aN.length=cI:=by rw[iD]at h⊢;exactλe=>h (afI e a)
theorem afW(h:nL c n=cW)(a:k<=n):nL c k=cW:=by unfold nL at*;rw[gZ]at*;intro i hi;exact h i (by simp at hi⊢;omega)
theorem adF(a:k<=c.aR.length)(h:nL c k=cI):nL c c.aR.length=cI:=by rw[iD]at h⊢;exactλe=>h (afW e a)
theorem amI(c:eo)(S n h:Bool)(a:EU c=S)(b:nK c c.aN.length=n)(d:nL c c.aR.length=h):fi c=if S&&(n&&h)then 0 else 2:=by unfold fi Cfg.ok;rw[a,b,d]
theorem ajM(H:bW w v c):fV cJ w 102 #[v] (cC cA (fi c)):=by
 intro w1 r;replace H:=H.below r;clear r;have O:=qZ H;obtain⟨v1,v2,rfl,⟨A,ca,rfl,bg,aj⟩,⟨B,z,rfl,ba,ak⟩⟩:=id H;have aq:=qZ ba;have b:=qZ (amI c);have m:Hid (EU c=(fD (c.aN.length:Int) 1 12&&(fD (c.aR.length:Int) 1 24&&(fD c.aG 1 1048576&&fD c.aJ 0 1048576)))):=qZ rfl;have F:=qZ (λk I=>alN H k I);obtain⟨N,n⟩:=nQ c.aN.length;obtain⟨M,f⟩:=nQ c.aR.length;rw[n.out,f.out]at m;rw[n.out]at F aj;rw[f.out]at F ak;rw[n.out,f.out];rw[n.out,f.out]at O b;have ae:=qZ (pQ (N:Int) 1 12);have af:=qZ (pQ (M:Int) 1 24);have X:=qZ (pQ c.aG 1 1048576);have Y:=qZ (pQ c.aJ 0 1048576);obtain⟨b1,r⟩:=nZ (fD (N:Int) 1 12);obtain⟨b2,u⟩:=nZ (fD (M:Int) 1 24);obtain⟨b3,a⟩:=nZ (fD c.aG 1 1048576);obtain⟨av,j⟩:=nZ (fD c.aJ 0 1048576);rw[r,u,a,j]at m;rw[r]at ae;rw[u]at af;rw[a]at X;rw[j]at Y;obtain⟨aG,au⟩:=nQ c.aG;obtain⟨aJ,ar⟩:=nQ c.aJ;rw[au.out]at X F O⊢;rw[ar.out]at Y F O⊢;unfold dT at aj ak;obtain⟨R,d⟩:=nQ (fi c);rw[d.out];clear r u a j;go_enter func102,ntmps102;go_wp2_with fail;refine(ae.out _).mono ?_;rintro e ad⟨rfl,rfl⟩;cases b1
 . (iterate 2 go_wp2_with fail;refine cH 1 ?_;rw[cM]);go_wp2_with fail;go_ret;exact⟨fT (by rw[<-d.out,b.out _ _ _ m.out rfl rfl];simp),kp⟩
 go_wp2_with fail;refine(af.out _).mono ?_;rintro e ad⟨rfl,rfl⟩;cases b2
 . (iterate 2 go_wp2_with fail;refine cH 1 ?_;rw[cM]);go_wp2_with fail;go_ret;exact⟨fT (by rw[<-d.out,b.out _ _ _ m.out rfl rfl];simp),kp⟩
 go_wp2_with fail;refine(X.out _).mono ?_;rintro e ad⟨rfl,rfl⟩;cases b3
 . (iterate 2 go_wp2_with fail;refine cH 1 ?_;rw[cM]);go_wp2_with fail;go_ret;exact⟨fT (by rw[<-d.out,b.out _ _ _ m.out rfl rfl];simp),kp⟩
 go_wp2_with fail;refine(Y.out _).mono ?_;rintro e ad⟨rfl,rfl⟩;cases av
 . (iterate 2 go_wp2_with fail;refine cH 1 ?_;rw[cM]);go_wp2_with fail;go_ret;exact⟨fT (by rw[<-d.out,b.out _ _ _ m.out rfl rfl];simp),kp⟩
 have a0:=gM.new w1 (ac A N ca) (ac B M z) aG aJ;have az:cE w1 w1 (w1.alloc (cF #[ac A N ca,ac B M z,aG,aJ] 26)):=bZ;have W:Hid (EU c=cW):=qZ (by rw[m.out];rfl);go_upto_block 0 with fail;go_cut[3] (λs L=>s=ek (nK c N)/\cE w1 w1 L/\gM L (w1:Nat) (ac A N ca) (ac B M z) aG aJ);case first=>
  go_wp2_with fail;go_loopw [3,4] (λs i wr=>∃k:Nat,i=cC cA (k:Int)/\k<=N/\s=ek (nK c k)/\cE w1 w1 wr/\gM wr (w1:Nat) (ac A N ca) (ac B M z) aG aJ) (λ_ i _=>N-(intOf i).toNat);exact⟨0,rfl,oZ,rfl,az,a0⟩
  obtain⟨k,rfl,I,rfl,g,y⟩:=hrel;have p:=qZ y;obtain⟨al,x0,an,ao,ap⟩:=y;cases l:nK c k
  .have Z:=qZ (adA (c:=c) (by rw[n.out];exact I) l);go_wp2_with fail;go_meet;exact⟨by rw[<-n.out,Z.out],g,p⟩
  .by_cases ah:k<N
   .have hs:=qY (nK c (k+1)=xW c k (c.aN.getD k default)) (by rw[abD,l];rfl);have aw:=qZ (F.out k ah);generalize xW c k (c.aN.getD k default)=q at*;go_wp2_with fail;refine(aw.out _ g).mono ?_;rintro e bc⟨rfl,a⟩;have j:=aA g a;have ab:=p.on a;clear a;go_wp2_with fail;go_roundw;exact⟨k+1,mZ,oZ,by rw[hs.out],j,ab⟩;simp[intOf];omega
   .have a9:N<=k:=oZ;have T:=qZ l;have aa:Hid (k=N):=qZ oZ;go_wp2_with fail;go_meet;exact⟨by rw[<-aa.out,T.out],g,p⟩
 case rest=>
  obtain⟨rfl,g,y⟩:=hcut;obtain⟨bb,J⟩:=nQ (nK c N);rw[J.out];cases bb
  .have p:=qZ y;obtain⟨al,x0,an,ao,ap⟩:=y;go_wp2_with fail;refine cH 1 ?_;rw[cM];go_wp2_with fail;go_ret;exact⟨fT (by rw[<-d.out,b.out _ _ _ W.out J.out rfl];simp),g⟩
  go_upto_block 2 with fail;go_cut[3] (λs L=>s=ek (nL c M)/\cE w1 w1 L);case first=>
   go_wp2_with fail;go_loopw [3,5] (λs i wr=>∃k:Nat,i=cC cA (k:Int)/\k<=M/\s=ek (nL c k)/\cE w1 w1 wr/\gM wr (w1:Nat) (ac A N ca) (ac B M z) aG aJ) (λ_ i _=>M-(intOf i).toNat);exact⟨0,rfl,oZ,rfl,g,y⟩
   obtain⟨k,rfl,I,rfl,K,am⟩:=hrel;have p:=qZ am;obtain⟨al,x0,an,ao,ap⟩:=am;cases l:nL c k
   .have Z:=qZ (adF (c:=c) (by rw[f.out];exact I) l);go_wp2_with fail;go_meet;exact⟨by rw[<-f.out,Z.out],K⟩
   .by_cases ah:k<M
    .have ai:k<c.aR.length:=by have:=f.out;omega
     obtain⟨bd,o,ax,bf,a5⟩:=qX aq ai;have a8:c.aR.getD k default=c.aR[k]:=by rw[aV,aH ai];rfl
     have hs:=qY (nL c (k+1)=wI c.aR[k]) (by rw[abW,l,a8];rfl);have ag:=qZ (ajf c.aR[k]);obtain⟨be,d1,d2,d3,d4,d5⟩:=a5 wr K;subst ax;generalize c.aR[k]=x at*;generalize wI x=q at*;unfold hval at ag;go_wp2_with fail;refine(ag.out _).mono ?_;rintro e bc⟨rfl,a⟩;have j:=aA K a;have ab:=p.on a;clear a;go_wp2_with fail;go_roundw;exact⟨k+1,mZ,oZ,by rw[hs.out],j,ab⟩;simp[intOf];omega
    .have a9:M<=k:=oZ;have T:=qZ l;have aa:Hid (k=M):=qZ oZ;go_wp2_with fail;go_meet;exact⟨by rw[<-aa.out,T.out],K⟩
  case rest=>
   obtain⟨rfl,u⟩:=hcut;obtain⟨ay,Q⟩:=nQ (nL c M);rw[Q.out];cases ay
   .go_wp2_with fail;go_ret;exact⟨fT (by rw[<-d.out,b.out _ _ _ W.out J.out Q.out];simp),u⟩
   .go_wp2_with fail;go_ret;exact⟨fT (by rw[<-d.out,b.out _ _ _ W.out J.out Q.out];simp),u⟩
end bO
variable{F:Nat->Prop}
namespace bO
open Go.RowKit L
theorem xO:(prog.info? 3).map (λi=>(i.zero,i.size,i.bytes))=cD (cD (cC cA 0),1,8):=by kernel_rfl
def ival(l:List Nat):List cP:=l.map λ(n:Nat)=>cX cA (n:Int)
def mI(w:cG)(B:Nat)(v:cP)(l:List Nat):Prop:=fE w B 3 v (ival l)
theorem AL{B:Nat}{l:List Nat}(h:mI w B v l)(a:B<=(w:Nat))(x:Nat)(j:l.length<=1048576):∃v' w',(cV #[36,36] 36 #[v,ac w 1 1]).run cJ (w.alloc (cF #[(x:Int)] 3))=.ok v' w'/\mI w' B v' (l++[x])/\(w.alloc (cF #[(x:Int)] 3)).grownBy w' v.ownBlock/\(∀k,v'.ownBlock=cD k->v.ownBlock=cD k\/(w:Nat)<=k):=by
 obtain⟨i0,hi,f,g,i⟩:=er xO;have m:(ival l).length=l.length:=by simp[ival]
 obtain⟨v',w',e,d,b,c⟩:=IZ (P:=cJ) 36 36 3 i0 _ 8 eS hi f g i rfl h a (cC cA (x:Int)) rfl oZ oZ;exact⟨v',w',e,by unfold mI ival;rw[dO];exact d,b,c⟩
theorem KV{l:List Nat}(h:mI w (w1:Nat) v l)(a:cE w1 w1 w)(x:Nat)(d:l.length<=1048576):∃v' w',(cV #[36,36] 36 #[v,ac w 1 1]).run cJ (w.alloc (cF #[(x:Int)] 3))=.ok v' w'/\mI w' (w1:Nat) v' (l++[x])/\cE w1 w1 w'/\aL (λk=>v.ownBlock=cD k) w w'/\(∀k,v'.ownBlock=cD k->v.ownBlock=cD k\/(w:Nat)<=k):=by obtain⟨v',w',j,g,c,f⟩:=AL h a.size x d;have b:aL (λk=>v.ownBlock=cD k) w w':=((aL.refl _ w).alloc _).trans (aL.jX c λi e=>e);exact⟨v',w',j,g,a.trans (b.below a.size λi hi=>(h.lt i hi).1),b,f⟩
def oL(c:eo)(k:Nat):List Nat:=(e9 k).filter λ(i:Nat)=>iP c (i:Int)
theorem JK(c:eo)(k:Nat):oL c (k+1)=if iP c (k:Int)then oL c k++[k]else oL c k:=by unfold oL;rw[List.range_succ,fU];cases h:iP c (k:Int)<;>simp[h]
theorem uO(c:eo)(k:Nat):(oL c k).length<=k:=by have:=eG (λ(i:Nat)=>iP c (i:Int)) (e9 k);simpa[oL]using this
theorem gM.bA{b:Nat}{h a:Int}(x:gM w b v1 v2 h a)(k:aL F w w')(c:¬F b):gM w' b v1 v2 h a:=
 ⟨aM x.1 k.size,(k.cell (p:=⟨b,0,cL⟩) x.1 c).trans x.2.1,(k.cell (p:=⟨b,1,cL⟩) x.1 c).trans x.2.2.1,(k.cell (p:=⟨b,2,cL⟩) x.1 c).trans x.2.2.2.1,(k.cell (p:=⟨b,3,cL⟩) x.1 c).trans x.2.2.2.2⟩
def DR(c:eo)(w:cG)(e:fy)(w':cG):Prop:=∃v,e=cN v/\mI w' (w:Nat) v (gQ c)/\cE w w w'
theorem afO(b:bW w v c)(Z:c.aN.length<=1000000):∀w1,cE w w w1->dC cJ 248 #[v] w1 λe w'=>DR c w1 e w':=by
 intro w1 Q;replace b:=b.below Q;have f:=qZ (λn=>tZ b n);obtain⟨v1,v2,rfl,⟨A,ca,rfl,ap,al⟩,⟨B,a,rfl,aq,am⟩⟩:=id b;have r:Hid (gQ c=oL c c.aN.length):=qZ rfl;generalize ah:c.aR.length=M at*;obtain⟨N,I⟩:=nQ c.aN.length;rw[I.out]at f Z r⊢;obtain⟨aG,K⟩:=nQ c.aG;obtain⟨aJ,J⟩:=nQ c.aJ;rw[K.out,J.out]at f⊢;have X:=gM.new w1 (ac A N ca) (ac B M a) aG aJ;have W:cE w1 w1 (w1.alloc (cF #[ac A N ca,ac B M a,aG,aJ] 26)):=bZ;have O:mI (w1.alloc (cF #[ac A N ca,ac B M a,aG,aJ] 26)) (w1:Nat) (ac cL 0 0) (oL c 0):=fE.nil _ _ _;go_enter func248,ntmps248;go_wp2_with fail;go_loopw [3,8] (λl i wr=>∃k:Nat,i=cC cA (k:Int)/\k<=N/\mI wr (w1:Nat) l (oL c k)/\l.ownBlock≠cD (w1:Nat)/\cE w1 w1 wr/\gM wr (w1:Nat) (ac A N ca) (ac B M a) aG aJ) (λ_ i _=>N-(intOf i).toNat);exact⟨0,rfl,oZ,O,by simp[e5],W,X⟩
 obtain⟨k,rfl,ai,u,ab,g,x⟩:=hrel;have H:=qZ x;obtain⟨ar,x0,av,aw,ax⟩:=x;by_cases ak:k<N
 .have hs:=qZ (JK c k);have L:=qZ (f.out (k:Int));have an:=uO c k;generalize iP c (k:Int)=q at*;have F:=qZ u;have d:=qZ ab;go_wp2_with fail;refine(L.out _ g).mono ?_;rintro e y⟨rfl,j⟩;have p:=aA g j;have m:=H.on j;have s:mI y (w1:Nat) u3 (oL c k):=F.below j;cases q
  .go_wp2_with fail;go_roundw;exact⟨k+1,mZ,oZ,by rw[hs.out];exact s,d,p,m⟩;simp[intOf];omega
  .obtain⟨v',au,af,ae,T,Y,aa⟩:=KV s p k oZ;have ag:=m.bA Y d;have ao:=m.1;have ad:v'.ownBlock≠cD (w1:Nat):=λe=>by
    rcases aa _ e with h|h
    .exact d h
    .omega
   have o:=qZ (aC ae ad);go_wp2_with(at_builtin;refine cK rfl (.tmp 14) (.tmp 16) _ _ rfl u3 (ac y 1 1) rfl rfl af ?_);go_roundw;exact⟨k+1,mZ,oZ,by rw[hs.out];exact o.1,o.2,T,ag⟩;simp[intOf];omega
 .have aj:N<=k:=oZ;have z:=qY (DR c w1 (cN u3) wr) (⟨u3,rfl,by rw[r.out,show N=k by omega];exact u,g⟩);go_wp2_with fail;go_ret;exact z
theorem mV{B:Nat}{l:List Nat}(h:mI w B v l):∃A c,v=ac A l.length c/\∀(i x:Nat),l[i]? =cD x->∃g,A=cD ⟨g,0,cL⟩/\B<=g/\g<(w:Nat)/\w.cell? ⟨g,i,cL⟩=cD (cC cA (x:Int)):=by obtain⟨A,c,rfl,b⟩:=fE.form h;refine⟨A,c,by simp[ival],λi x a=>?_⟩;obtain⟨g,rfl,f,d⟩:=b (by intro e;unfold ival at e;rw[oD]at e;subst e;simp at a);exact⟨g,rfl,(fE.lt h g rfl).1,f,d i _ (by unfold ival;rw[gB,a];rfl)⟩
end bO
variable{xs:List cT}{B' g i:Nat}
namespace bO
open Go.RowKit L
def DY(v:cT):List cP:=[cC cA v.x,cC cA v.y,cC cA v.z]
def oK:List cT->List cP
 |[]=>[]
 |v::l=>cC cA v.x:: cC cA v.y:: cC cA v.z::oK l
theorem RA:∀a b:List cT,oK (a++b)=oK a++oK b
 |[],b=>rfl
 |v::l,b=>by simp only[oK,List.cons_append,RA l b]
theorem JY:∀(l:List cT) (i:Nat) (v:cT),l[i]? =cD v->(oK l)[i*3]? =cD (cC cA v.x)/\(oK l)[i*3+1]? =cD (cC cA v.y)/\(oK l)[i*3+2]? =cD (cC cA v.z)
 |[],i,v,h=>by simp at h
 |u::l,0,v,h=>by simp at h;subst h;exact⟨rfl,rfl,rfl⟩
 |u::l,i+1,v,h=>by have:=JY l i v (by simpa using h);rw[show(i+1)*3=i*3+1+1+1 by omega];simpa[oK]using this
theorem QX:∀(l:List cT) (i:Nat) (v:cT),oK (l.set i v)=(((oK l).set (i*3) v.x).set (i*3+1) v.y).set (i*3+2) v.z
 |[],i,v=>by simp[oK]
 |u::l,0,v=>by simp[oK]
 |u::l,i+1,v=>by have:=QX l i v;rw[show(i+1)*3=i*3+1+1+1 by omega];simp only[List.set_cons_succ,oK,this]
theorem QZ:∀n:Nat,oK (ee n eM)=ee (n*3) (cC cA 0)
 |0=>rfl
 |n+1=>by rw[List.replicate_succ,oK,QZ n,show(n+1)*3=n*3+1+1+1 by omega];rfl
def iV(w:cG)(B:Nat)(v:cP)(xs:List cT):Prop:=w.ownsRow B 40 3 v xs.length (oK xs)
def VSl(w:cG)(v:cP)(xs:List cT):Prop:=∃A cap,v=ac A xs.length cap/\gF w A 3 DY xs/\xs.length<=dT
theorem VSl.below(h:VSl w v xs)(a:cE w w w'):VSl w' v xs:=by obtain⟨A,cap,e,c,b⟩:=h;exact⟨A,cap,e,c.below a,b⟩
def VAt(w:cG)(b o:Nat)(v:cT):Prop:=w.cell? (b,o)=cD (cC cA v.x)/\w.cell? (b,o+1)=cD (cC cA v.y)/\w.cell? (b,o+2)=cD (cC cA v.z)
theorem EY(h:gF w A 3 DY xs)(c:k<xs.length):∃b o,A=cD ⟨b,o,cL⟩/\b<(w:Nat)/\∀w',cE w w w'->VAt w' b (o+k*3) xs[k]:=by obtain⟨b,o,rfl,d,g⟩:=h (by intro e;subst e;simp at c);have i:=aH c;refine⟨b,o,rfl,d,λw' f=>?_⟩;have a:∀j v,(DY xs[k])[j]? =cD v->w'.cell? ⟨b,o+k*3+j,cL⟩=cD v:=λj v hv=>(f.cell (p:=⟨b,o+k*3+j,cL⟩) d).trans (g k xs[k] i j v hv);exact⟨a 0 _ rfl,a 1 _ rfl,a 2 _ rfl⟩
theorem iV.nil(w:cG)(B:Nat):iV w B (ac cL 0 0) []:=World.ownsRow_nil w B _ 3
theorem iV.lt{B:Nat}(h:iV w B v xs):∀k,v.ownBlock=cD k->B<=k/\k<(w:Nat):=World.ownsRow.lt h
theorem iV.bA{B:Nat}(h:iV w B v xs)(d:∀k,v.ownBlock=cD k->w'.heap[k]? =w.heap[k]?):iV w' B v xs:=by
 refine⟨h.1,?_⟩;rcases h.2 with a|⟨g,cap,cur,rfl,b,c,r⟩
 .exact .inl a
 .exact .inr ⟨g,cap,cur,rfl,b,(d g rfl).trans c,r⟩
theorem iV.below{B:Nat}(h:iV w B v xs)(a:cE w w w'):iV w' B v xs:=h.bA λk b=>a.block k (h.lt k b).2
theorem iV.low{B:Nat}(h:iV w B v xs)(b:B'<=B):iV w B' v xs:=by
 refine⟨h.1,?_⟩;rcases h.2 with a|⟨g,cap,cur,e,c,r⟩
 .exact .inl a
 .exact .inr ⟨g,cap,cur,e,oZ,r⟩
theorem iV.sl{B:Nat}(h:iV w B v xs):VSl w v xs:=by
 rcases h.2 with⟨rfl,b⟩|⟨g,cap,cur,rfl,m,o,n,p,_⟩
 .refine⟨cL,0,by rw[b],λe=>absurd (fK b) e,by unfold dT;omega⟩
 .refine⟨_,_,rfl,λe=>⟨g,0,rfl,(h.lt g rfl).2,λi x b j u a=>?_⟩,oZ⟩;obtain⟨f,k,l⟩:=JY xs i x b;have c:=λj u a=>et h (g:=g) rfl j u a;have d:=c _ _ f;have e1:=c _ _ k;have e2:=c _ _ l;rw[addr_add]at d e1 e2;rw[show(0:Nat)+i*3+j=i*3+j by omega]
  match j,a with
  |0,a=>simp[DY]at a;subst a;exact d
  |1,a=>simp[DY]at a;subst a;exact e1
  |2,a=>simp[DY]at a;subst a;exact e2
  |j+3,a=>simp[DY]at a
theorem iV.set{B c:Nat}(h:iV w B (ac g n c) xs)(i:Nat)(v:cT):iV (((w.setCell (g,i*3) v.x).setCell (g,i*3+1) v.y).setCell (g,i*3+2) v.z) B (ac g n c) (xs.set i v):=by
 have a:n=xs.length:=by
  rcases h.2 with⟨e,d⟩|⟨b,cap,cur,e,_⟩
  .cases e
  .cases e;rfl
 subst a;unfold iV;rw[QX,fu];exact(en (en (en h (i*3) _).1 (i*3+1) _).1 (i*3+2) _).1
theorem iV.ok{B c:Nat}(h:iV w B (ac g n c) xs)(j:Nat):w.frozen? (g,j)=cI:=by
 have a:n=xs.length:=by
  rcases h.2 with⟨e,d⟩|⟨b,cap,cur,e,_⟩
  .cases e
  .cases e;rfl
 subst a;exact World.ownsRow.frozenAt h j
theorem iV.dR{B c:Nat}(h:iV w B (ac g n c) xs)(hi:i<xs.length):n=xs.length/\B<=g/\g<(w:Nat)/\VAt w g (i*3) xs[i]:=by
 have m:n=xs.length:=by
  rcases h.2 with⟨e,r⟩|⟨p,cap,cur,e,_⟩
  .cases e
  .cases e;rfl
 subst m;have d:=h.lt g rfl;obtain⟨f,k,l⟩:=JY xs i xs[i] (aH hi);have a:=λj u o=>et h (g:=g) rfl j u o;have b:=a _ _ f;have e1:=a _ _ k;have e2:=a _ _ l;rw[addr_add]at b e1 e2;exact⟨rfl,d.1,d.2,b,e1,e2⟩
def uR(w:cG)(g o:Nat)(v:cT):cG:=((w.setCell (g,o) v.x).setCell (g,o+1) v.y).setCell (g,o+2) v.z
theorem zI(w:cG)(g o:Nat)(v:cT):aL (λk=>k=g) w (uR w g o v):=(((aL.refl (λk=>k=g) w).setCell (p:=⟨g,o,cL⟩) (.inl rfl) v.x).setCell (p:=⟨g,o+1,cL⟩) (.inl rfl) v.y).setCell (p:=⟨g,o+2,cL⟩) (.inl rfl) v.z
theorem zW(h:cE w0 w0 w)(a:(w0:Nat)<=g)(o:Nat)(v:cT):cE w0 w0 (uR w g o v):=
 h.trans ((zI w g o v).below h.size λi e=>e▸a)
def arz(w:cG)(b o:Nat)(v:cT):Prop:=b<(w:Nat)/\VAt w b o v
theorem arz.on{b o:Nat}{v:cT}(x:arz w b o v)(a:cE w w w'):arz w' b o v:=
 ⟨aM x.1 a.size,(a.cell (p:=⟨b,o,cL⟩) x.1).trans x.2.1,(a.cell (p:=⟨b,o+1,cL⟩) x.1).trans x.2.2.1,(a.cell (p:=⟨b,o+2,cL⟩) x.1).trans x.2.2.2⟩
theorem arz.bA{b o:Nat}{v:cT}(x:arz w b o v)(k:aL F w w')(a:¬F b):arz w' b o v:=
 ⟨aM x.1 k.size,(k.cell (p:=⟨b,o,cL⟩) x.1 a).trans x.2.1,(k.cell (p:=⟨b,o+1,cL⟩) x.1 a).trans x.2.2.1,(k.cell (p:=⟨b,o+2,cL⟩) x.1 a).trans x.2.2.2⟩
theorem UY:(prog.info? 40).map (λi=>(i.zero,i.size,i.bytes))=cD (cD (cR #[(),(),()]),3,24):=by kernel_rfl
theorem aiP(n:Nat):(eQ #[cX cA 0,(),()] (n*3)).toList=oK (ee n eM):=by
 rw[QZ];apply fP;intro j;by_cases a:j<n*3
 .have b:j%3=0\/j%3=1\/j%3=2:=oZ;rcases b with h|h|h<;>simp[eQ,a,h]
 .simp[eQ,a]
theorem CY(w:cG)(n:Nat)(k:n<=1048576):∃w',(Instr.makeSlice 51 (cC cA (n:Int)) (cC cA (n:Int))).run cJ w=.ok (ac w n n) w'/\iV w' (w:Nat) (ac w n n) (ee n eM)/\cE w w w'/\(w:Nat)<(w':Nat):=by
 obtain⟨i0,hi,f,g,j⟩:=er UY;obtain⟨w',d,c,b⟩:=run_makeSlice_full (P:=cJ) w (w:Nat) 51 40 i0 _ 3 underlying51 hi f g cA cA n oZ (by rw[j];omega) (by unfold dT;omega) lZ;have a:iV w' (w:Nat) (ac w n n) (ee n eM):=by unfold iV;rw[gY,<-aiP];exact c
 exact⟨w',d,a,(aL.jX (F:=λ_=>False) b (λi e=>by cases e)).below lZ λi h=>h.elim,(a.lt _ rfl).2⟩
theorem UF{B:Nat}(h:iV w B v xs)(o:B<=(w:Nat))(x:cT)(p:xs.length<=1048576):∃v' w',(cV #[51,51] 51 #[v,ac w 1 1]).run cJ (w.alloc (cF #[x.x,x.y,x.z] 40))=.ok v' w'/\iV w' B v' (xs++[x])/\(w.alloc (cF #[x.x,x.y,x.z] 40)).grownBy w' v.ownBlock/\(∀k,v'.ownBlock=cD k->v.ownBlock=cD k\/(w:Nat)<=k):=by
 obtain⟨i0,hi,l,m,n⟩:=er UY;have c:iV (w.alloc (cF #[x.x,x.y,x.z] 40)) B v xs:=h.below (bZ);obtain⟨v',w',i,g,f,_,d⟩:=run_append_own_at (P:=cJ) (w.alloc (cF #[x.x,x.y,x.z] 40)) B 51 51 40 i0 _ 3 24 underlying51 hi l m n rfl oZ v xs.length (oK xs) c ⟨w,0,cL⟩ 1 1 (DY x) rfl
  (λj u a=>by show(w.alloc (cF #[x.x,x.y,x.z] 40)).cell? (Addr.add ⟨w,0,cL⟩ j)=_;rw[addr_add,World.cell?_alloc_mark];simpa[DY]using a)
  (λu a=>by simp only[DY,bH,dL,or_false]at a;rcases a with rfl|rfl|rfl<;>rfl) (by unfold dT;omega) oZ (by rw[aT];omega)
 refine⟨v',w',i,?_,f,λk b=>?_⟩
 .unfold iV;rw[RA,aW];exact g
 .rcases d with e|e
  .exact .inl (e▸b)
  .rw[e]at b;right;have:(w.alloc (cF #[cX cA x.x,x.y,x.z] 40)).heap.size=k:=by injection b
   simp at this;omega
def iL(n:Int):List cP:=[cC cA n]
def ISl(w:cG)(v:cP)(l:List Int):Prop:=∃A cap,v=ac A l.length cap/\gF w A 1 iL l/\l.length<=dT
theorem ISl.below{l:List Int}(h:ISl w v l)(a:cE w w w'):ISl w' v l:=by obtain⟨A,cap,e,c,b⟩:=h;exact⟨A,cap,e,c.below a,b⟩
theorem qR{xs:List Int}(h:gF w A 1 iL xs)(a:k<xs.length):∃b o,A=cD ⟨b,o,cL⟩/\b<(w:Nat)/\∀w',cE w w w'->w'.cell? ⟨b,o+k,cL⟩=cD (cC cA xs[k]):=by obtain⟨b,o,rfl,c,f⟩:=h (by intro e;subst e;simp at a);have g:=aH a;refine⟨b,o,rfl,c,λw' d=>?_⟩;have:=f k xs[k] g 0 (cC cA xs[k]) rfl;rw[Nat.add_zero,gI]at this;exact(d.cell (p:=⟨b,o+k,cL⟩) c).trans this
structure Run where
 id:Int
 dI:Int
 fG:Int
 need:Vec.V
 run:Int
 aP:Int
 prefer:Int
 seq:Int
 dR:Int
 start:Int
 flavor:Int
 aR:List Int
 hv:Value
def lV(x:Run):List cP:=[cC cA x.id,cC cA x.dI,cC cA x.fG,cC cA x.need.x,cC cA x.need.y,cC cA x.need.z,cC cA x.run,cC cA x.aP,cC cA x.prefer,cC cA x.seq,cC cA x.dR,cC cA x.start,cC cA x.flavor,x.hv]
def Runs(w:cG)(v:cP)(rs:List Run):Prop:=∃A cap,v=ac A rs.length cap/\gF w A 14 lV rs/\rs.length<=dT/\∀r∈rs,ISl w r.hv r.aR
theorem Runs.below{rs:List Run}(h:Runs w v rs)(a:cE w w w'):Runs w' v rs:=by obtain⟨A,cap,e,d,b,hi⟩:=h;exact⟨A,cap,e,d.below a,b,λr c=>(hi r c).below a⟩
def anh(w:cG)(b o:Nat)(x:Run):Prop:=w.cell? (b,o)=cD (cC cA x.id)/\w.cell? (b,o+1)=cD (cC cA x.dI)/\w.cell? (b,o+2)=cD (cC cA x.fG)/\w.cell? (b,o+3)=cD (cC cA x.need.x)/\w.cell? (b,o+4)=cD (cC cA x.need.y)/\w.cell? (b,o+5)=cD (cC cA x.need.z)/\w.cell? (b,o+6)=cD (cC cA x.run)/\w.cell? (b,o+7)=cD (cC cA x.aP)/\w.cell? (b,o+8)=cD (cC cA x.prefer)/\w.cell? (b,o+9)=cD (cC cA x.seq)/\w.cell? (b,o+10)=cD (cC cA x.dR)/\w.cell? (b,o+11)=cD (cC cA x.start)/\w.cell? (b,o+12)=cD (cC cA x.flavor)/\w.cell? (b,o+13)=cD x.hv
theorem qQ{xs:List Run}(h:gF w A 14 lV xs)(c:k<xs.length):∃b o,A=cD ⟨b,o,cL⟩/\b<(w:Nat)/\∀w',cE w w w'->anh w' b (o+k*14) xs[k]:=by obtain⟨b,o,rfl,d,g⟩:=h (by intro e;subst e;simp at c);have i:=aH c;refine⟨b,o,rfl,d,λw' f=>?_⟩;have a:∀j v,(lV xs[k])[j]? =cD v->CV w' b (o+k*14+j) v:=λj v hv=>(f.cell (p:=⟨b,o+k*14+j,cL⟩) d).trans (g k xs[k] i j v hv);exact⟨a 0 _ rfl,a 1 _ rfl,a 2 _ rfl,a 3 _ rfl,a 4 _ rfl,a 5 _ rfl,a 6 _ rfl,a 7 _ rfl,a 8 _ rfl,a 9 _ rfl,a 10 _ rfl,a 11 _ rfl,a 12 _ rfl,a 13 _ rfl⟩
def asks(rs:List Run):List (cT×List Int):=rs.map λr=>(r.need,r.aR)
theorem wP(rs:List Run):(asks rs).length=rs.length:=by simp[asks]
theorem aeE{rs:List Run}(h:k<rs.length):∃a,(asks rs)[k]'a=(rs[k].need,rs[k].aR):=⟨by rw[wP];exact h,by simp[asks]⟩
def agQ(l:List cT)(w:cG)(e:fy)(w':cG):Prop:=∃v,e=cN v/\iV w' (w:Nat) v l/\cE w w w'
theorem BP{w:cG}{v vr:cP}{c:eo}{rs:List Run}(ah:bW w v c)(al:Runs w vr rs)(ck:c.aR.length<=1000000):∀w1,cE w w w1->dC cJ 60 #[v,vr] w1 λe w'=>agQ (fv c.aR (asks rs)) w1 e w':=by
 intro w1 aw;replace ah:=ah.below aw;replace al:=al.below aw;obtain⟨v1,v2,rfl,⟨A,ca,rfl,dz,ds⟩,⟨B,H,rfl,co,dt⟩⟩:=id ah;obtain⟨R,dj,rfl,cq,a9,s⟩:=al;unfold dT at a9;generalize c.aN.length=N at*;obtain⟨aG,bt⟩:=nQ c.aG;obtain⟨aJ,bs⟩:=nQ c.aJ;rw[bt.out,bs.out];generalize c.aR=hs at*;obtain⟨M,o⟩:=nQ hs.length;obtain⟨K,ab⟩:=nQ rs.length;rw[o.out]at ck⊢;rw[ab.out]at a9⊢;have bg:=qZ co;have bo:=qZ cq;have bn:=qZ s;have az:=gM.new w1 (ac A N ca) (ac B M H) aG aJ;have b8:cE w1 w1 (w1.alloc (cF #[ac A N ca,ac B M H,aG,aJ] 26)):=bZ;obtain⟨d9,bb,b,ax,du⟩:=CY (w1.alloc (cF #[ac A N ca,ac B M H,aG,aJ] 26)) M oZ;have b5:=aA b8 ax;have ct:=az.on ax;generalize b1:(w1.alloc (cF #[ac A N ca,ac B M H,aG,aJ] 26)).heap.size=G at*;have ar:(w1:Nat)<=G:=by rw[<-b1];simp
 have qN:=qZ (b.low ar);obtain⟨d6,x0,ea,eb,ec⟩:=id ct;have br:=qZ bb;go_enter func60,ntmps60;have bb:=br.out;have b6:=b5;go_wp2_with fail;have bh:=qZ b6;have cd:(w1:Nat)<=G:=ar;have bk:=qZ (Hst.agD hs);go_loopw [19] (λi wr=>∃k:Nat,i=cC cA (k:Int)/\k<=M/\iV wr (w1:Nat) (ac G M M) (gf hs k)/\cE w1 w1 wr) (λi _=>M-(intOf i).toNat);exact⟨0,rfl,oZ,by rw[bk.out,o.out];exact qN,bh⟩
 obtain⟨k,rfl,dr,b,d⟩:=hrel;by_cases cj:k<M
 .have ai:k<hs.length:=by rw[o.out];exact cj
  obtain⟨dg,d8,rfl,dw,cb⟩:=qX bg ai;obtain⟨am,p1,p2,p3,p4,an⟩:=cb wr d;have cr:=qZ (Hst.agE hs k ai);generalize hs[k]=h at*;obtain⟨ag,dl,dm,⟨bv,bw,bz⟩⟩:=h;simp only at am p1 p2 p3 p4 an;have ci:k<(gf hs k).length:=by rw[Hst.acB hs k oZ];exact ai
  obtain⟨-,-,bd,da,db,dc⟩:=b.dR ci;generalize(gf hs k)[k]=z at*;have bu:=b.ok;have ae:=qZ b;have af:=qZ d;go_wp2_with fail;refine⟨⟨k+1,mZ,oZ,?_,?_⟩,by simp[intOf];omega⟩
  .rw[<-cr.out];exact(ae.set k ⟨bv,bw,bz⟩).below (bZ)
  .have:=af.out;exact kp
 .have ch:M<=k:=oZ;have ae:=qZ b;have af:=qZ d;have bm:=qY (gf hs k=eW hs (asks rs) 0) (by rw[Hst.ajQ hs k (by rw[o.out];exact ch)];rfl);go_wp2_with fail;go_loopw [32] (λi wr=>∃k:Nat,i=cC cA (k:Int)/\k<=K/\iV wr (w1:Nat) (ac G M M) (eW hs (asks rs) k)/\cE w1 w1 wr) (λi _=>K-(intOf i).toNat);exact⟨0,rfl,oZ,by rw[<-bm.out];exact ae,af⟩
  obtain⟨n,rfl,dy,b,d⟩:=hrel;by_cases cn:n<K
  .have O:n<rs.length:=by rw[ab.out];exact cn
   obtain⟨dh,or,rfl,dx,cc⟩:=qQ bo O;obtain⟨am,p1,p2,p3,p4,an,p6,cx,cy,cz,cu,cv,cw,be⟩:=cc _ d;obtain⟨_,b4⟩:=aeE O;have aj:=qZ (Hst.OC hs (asks rs) n (by rw[wP];exact O));have cm:rs[n]∈rs:=bD O;have a5:=bn.out _ cm;rw[b4]at aj;generalize rs[n]=r at*;obtain⟨id,Z,T,⟨n0,n1,n2⟩,run,aP,X,seq,dR,start,J,aR,hv⟩:=r;simp only at am p1 p2 p3 p4 an p6 cx cy cz cu cv cw be aj a5;obtain⟨C,I,rfl,cp,ba⟩:=a5;obtain⟨L,ad⟩:=nQ aR.length;unfold dT at ba;rw[ad.out]at be ba;have bj:=qZ cp;have ao:=qZ b;have g:=qZ d;go_wp2_with fail;have cs:cE w1 w1 (wr.alloc (cF #[id,Z,T,n0,n1,n2,run,aP,X,seq,dR,start,J,ac C L I] 86)):=g.alloc g.size _;have au:arz (wr.alloc (cF #[id,Z,T,n0,n1,n2,run,aP,X,seq,dR,start,J,ac C L I] 86)) (wr:Nat) 3 ⟨n0,n1,n2⟩:=⟨sZ,by simp[go_sem],by simp[go_sem],by simp[go_sem]⟩;have dp:G<(wr:Nat):=(ao.out.lt G rfl).2;have b3:=ao.below ((aK _ _).alloc lZ (cF #[id,Z,T,n0,n1,n2,run,aP,X,seq,dR,start,J,ac C L I] 86));generalize d0:wr.alloc (cF #[id,Z,T,n0,n1,n2,run,aP,X,seq,dR,start,J,ac C L I] 86)=df at*;have az:(wr:Nat)<(df:Nat):=au.1;generalize(wr:Nat)=bx at*;have aa:=qZ (aC cs (aC au b3));have b0:=qZ (Hst.zO hs (asks rs) n);generalize eW hs (asks rs) n=F0 at*;go_loopw [39] (λi f=>∃j:Nat,i=cC cA (j:Int)/\j<=L/\iV f (w1:Nat) (ac G M M) (gg dE ⟨n0,n1,n2⟩ (aR.take j) F0)/\cE w1 w1 f/\arz f bx 3 ⟨n0,n1,n2⟩) (λi _=>L-(intOf i).toNat);exact⟨0,rfl,oZ,aa.2.2,aa.1,aa.2.1⟩
   obtain⟨j,rfl,dq,b,d,ay⟩:=hrel
   rename cG=>f
   by_cases cg:j<L
   .have a8:j<aR.length:=by rw[ad.out];exact cg
    obtain⟨bc,d7,rfl,dv,b9⟩:=qR bj a8;have p:=b9 _ d;have ak:=qZ (Hst.YV dE ⟨n0,n1,n2⟩ aR F0 j a8);generalize aR[j]=h at*;have cl:=qZ (Hst.wK dE ⟨n0,n1,n2⟩ (aR.take j) F0);generalize gg dE ⟨n0,n1,n2⟩ (aR.take j) F0=l at*;have b2:l.length=M:=by rw[cl.out,b0.out,o.out]
    by_cases s:0<=h/\h<(M:Int)
    .obtain⟨i,rfl⟩:=fM s.1;have ce:i<M:=by have:=s.2;omega
     have a0:i<l.length:=oZ;obtain⟨-,dn,bd,q⟩:=b.dR a0;have Q:Hid (eR dE ⟨n0,n1,n2⟩ l (i:Int)=l.set i (dE l[i] ⟨n0,n1,n2⟩)):=qZ (by unfold eR;rw[aI ⟨oZ,oZ⟩,ew,aV,aH a0,cY]);generalize l[i]=z at*;obtain⟨z0,z1,z2⟩:=z;have c0:=q;obtain⟨da,db,dc⟩:=c0;have u:Hid (∀W,aD f W->VAt W G (i*3) ⟨z0,z1,z2⟩):=qZ (λW a=>(arz.on ⟨bd,q⟩ a).2);have F:Hid (∀W,aD f W->arz W bx 3 ⟨n0,n1,n2⟩):=qZ (λW a=>ay.on a);have m:=qZ b;have g:=qZ d;have bf:decide ((0:Int)<=(i:Int))=cW:=sZ;have dd:decide ((i:Int)<(M:Int))=cW:=by simpa using ce
     go_wp2_with fail;refine jN 10 kZ kZ ?_;simp only[ei,eu,aZ,bB];have di:∀W,aD f W->CI W G (i*3) z0:=λW a=>(u W a).1;have c1:∀W,aD f W->CI W G (i*3+1) z1:=λW a=>(u W a).2.1;have c2:∀W,aD f W->CI W G (i*3+2) z2:=λW a=>(u W a).2.2;have c3:∀W,aD f W->CI W bx 3 n0/\CI W bx 4 n1/\CI W bx 5 n2:=λW a=>⟨(F W a).2.1,(F W a).2.2.1,(F W a).2.2.2⟩;(repeat refine kY ?_);refine kJ (gT.amj ⟨z0,z1,z2⟩ ⟨n0,n1,n2⟩) ?_;(repeat refine kY ?_);refine dP ?_;intro W a;have av:=m.below a;have bu:=av.ok;obtain⟨dk,d1,d2⟩:=u.out W a;have b7:=F.out W a;have bp:=qZ av;have bi:=qZ (aA g a);have bq:=qZ b7;obtain⟨de,aq⟩:=nQ (dE ⟨z0,z1,z2⟩ ⟨n0,n1,n2⟩);obtain⟨Y,s1,s2⟩:=de;rw[show(dE {x:=z0,y:=z1,z:=z2} {x:=n0,y:=n1,z:=n2}).val=cR #[Y,s1,s2] by rw[aq.out];rfl];go_wp2_with fail;go_roundw;case rel=>
      refine⟨j+1,mZ,oZ,?_,zW bi cd _ ⟨Y,s1,s2⟩,bq.bA (zI W G (i*3) ⟨Y,s1,s2⟩) oZ⟩;rw[ak.out,Q.out,aq.out];exact bp.set i ⟨Y,s1,s2⟩
     case measure=>simp[intOf];omega
    .have Q:Hid (eR dE ⟨n0,n1,n2⟩ l h=l):=qZ (by unfold eR;rw[aF (by rw[b2];exact s)]);have m:=qZ b;have g:=qZ d;have ap:=qZ ay;by_cases ag:0<=h
     .have bf:decide ((0:Int)<=h)=cW:=by simpa using ag
      have dd:decide (h<(M:Int))=cI:=by simp;omega
      go_wp2_with fail;go_roundw;exact⟨j+1,mZ,oZ,by rw[ak.out,Q.out];exact m,g,ap⟩;simp[intOf];omega
     .have bf:decide ((0:Int)<=h)=cI:=by simpa using ag
      go_wp2_with fail;go_roundw;exact⟨j+1,mZ,oZ,by rw[ak.out,Q.out];exact m,g,ap⟩;simp[intOf];omega
   .have m:=qY (iV f (w1:Nat) (ac G M M) (eW hs (asks rs) (n+1))) (by rw[aj.out];rwa [aU (by rw[ad.out];omega)]at b);have g:=qZ d;go_wp2_with fail;go_roundw;exact⟨n+1,mZ,oZ,m,g⟩;simp[intOf];omega
  .have bl:=qY (agQ (fv hs (asks rs)) w1 (cN (ac G M M)) wr) (⟨_,rfl,by rw[<-Hst.SY hs (asks rs) n (by rw[wP,ab.out];omega)];exact b,d⟩);go_wp2_with fail;go_ret;exact bl
theorem gM.all{b:Nat}{h a:Int}(x:gM w1 b v1 v2 h a):(∀W,aD w1 W->W.cell? (b,0)=cD v1)/\(∀W,aD w1 W->W.cell? (b,1)=cD v2)/\(∀W,aD w1 W->W.cell? (b,2)=cD (cC cA h))/\(∀W,aD w1 W->W.cell? (b,3)=cD (cC cA a)):=
 ⟨λW c=>(x.on c).2.1,λW c=>(x.on c).2.2.1,λW c=>(x.on c).2.2.2.1,λW c=>(x.on c).2.2.2.2⟩
open Go.WideShapes
section
variable {H:Type} {enc:fe×cP->H} {w:cG} {base:Nat} {kE:Nat->Bool} {held:Bool}
theorem MI:prog.cellsOf 3=1:=by kernel_rfl
theorem aap:prog.cellsOf 40=3:=by kernel_rfl
theorem pI{n:Nat}{cs:List cP}{y:gh H×List fw}(h:eI enc cJ w base kE held n 3 cs=cD y):∃x:Int,cs=[cC cA x]/\(Lit.int cA x).wf=cW:=by obtain⟨z,e,_,a⟩:=DataW.trod_int underlying3 h;exact⟨z,e,a⟩
theorem JX{n:Nat}{cs:List cP}{y:gh H×List fw}(h:eI enc cJ w base kE held n 40 cs=cD y):∃v:cT,cs=[cC cA v.x,cC cA v.y,cC cA v.z]/\(Lit.int cA v.x).wf=cW/\(Lit.int cA v.y).wf=cW/\(Lit.int cA v.z).wf=cW:=by
 have j:prog.underlying 40=cD (.array 3 3):=kZ;obtain⟨xs,m,_,_,g,k,hel⟩:=DataW.trod_array j h;rw[aap]at g
 match cs,g with
 |[a,b,c],_=>
  match xs,k with
  |[x0,o,p],_=>
   have d:=hel 0 oZ;have e:=hel 1 oZ;have f:=hel 2 oZ;simp[MI]at d e f;obtain⟨z0,i,w0⟩:=pI d;obtain⟨z1,e1,w1⟩:=pI e;obtain⟨z2,e2,l⟩:=pI f;cases i;cases e1;cases e2;exact⟨⟨z0,z1,z2⟩,rfl,w0,w1,l⟩
theorem aoi:∀n cs y,eI enc cJ w base kE held n 66 cs=cD y->∃x:lN,cs=nN x/\True:=by
 intro n cs y h;obtain⟨xs,m,_,rfl,g,k,a⟩:=ey underlying66 h;have j:prog.cellsOf 66=11:=kZ;rw[j]at g
 match cs,g with
 |[a0,a1,a2,a3,a4,p,a6,a7,r,s,o],_=>
  match xs,k with
  |[x0,u,v,z,A],_=>
   have b:=a 0 _ rfl;have c:=a 1 _ rfl;have d:=a 2 _ rfl;have e:=a 3 _ rfl;have f:=a 4 _ rfl;simp[MI,aap]at b c d e f;obtain⟨z0,i,_⟩:=pI b;obtain⟨z1,e1,_⟩:=pI c;obtain⟨v2,e2,_⟩:=JX d;obtain⟨l,e3,_⟩:=JX e;obtain⟨v4,e4,_⟩:=JX f;cases i;cases e1;cases e2;cases e3;cases e4;exact⟨⟨z0,z1,v2,l,v4⟩,rfl,trivial⟩
theorem aou:∀n cs y,eI enc cJ w base kE held n 131 cs=cD y->∃x:iI,cs=hdec x/\True:=by
 intro n cs y h;obtain⟨xs,m,_,rfl,f,j,a⟩:=ey underlying131 h;have i:prog.cellsOf 131=6:=kZ;rw[i]at f
 match cs,f with
 |[a0,a1,a2,a3,a4,l],_=>
  match xs,j with
  |[x0,o,p,r],_=>
   have b:=a 0 _ rfl;have c:=a 1 _ rfl;have d:=a 2 _ rfl;have e:=a 3 _ rfl;simp[MI,aap]at b c d e;obtain⟨z0,g,_⟩:=pI b;obtain⟨z1,e1,_⟩:=pI c;obtain⟨z2,e2,_⟩:=pI d;obtain⟨k,e3,_⟩:=JX e;cases g;cases e1;cases e2;cases e3;exact⟨⟨z0,z1,z2,k⟩,rfl,trivial⟩
theorem aqb{n:Nat}{cs:List cP}{y:gh H×List fw}(h:eI enc cJ w base kE held n 26 cs=cD y):∃c:eo,∃v1 v2,cs=[v1,v2,cC cA c.aG,cC cA c.aJ]/\Nodes w v1 c.aN/\MR w v2 c.aR/\(Lit.int cA c.aG).wf=cW/\(Lit.int cA c.aJ).wf=cW:=by
 obtain⟨xs,m,_,rfl,g,p,a⟩:=ey underlying26 h;have k:prog.cellsOf 26=4:=kZ;have c1:prog.cellsOf 23=1:=kZ;have c2:prog.cellsOf 24=1:=kZ;rw[k]at g
 match cs,g with
 |[a0,a1,a2,a3],_=>
  match xs,p with
  |[x0,J,K,L],_=>
   have b:=a 0 _ rfl;have d:=a 1 _ rfl;have e:=a 2 _ rfl;have f:=a 3 _ rfl;simp[MI,c1,c2]at b d e f;obtain⟨A,ca,x,j,r,s,l,_⟩:=open_row (sz:=11) nN (λ_ _=>True) underlying23 kZ dZ aoi b;obtain⟨B,i,hs,e1,u,v,o,_⟩:=open_row (sz:=6) hdec (λ_ _=>True) underlying24 kZ dZ aou d;obtain⟨z2,e2,z⟩:=pI e;obtain⟨I,e3,F⟩:=pI f;cases j;cases e1;cases e2;cases e3;exact⟨⟨x,hs,z2,I⟩,_,_,rfl,⟨A,ca,rfl,l,bC r s⟩,⟨B,i,rfl,o,bC u v⟩,z,F⟩
end
end bO
variable{va:cP}
namespace bO
open Go.RowKit L
theorem BS(h:VSl w va xs)(n:Int):fV cJ w 44 #[va,n] (Tree.dR xs n).val:=by
 intro w1 u;replace h:=h.below u;obtain⟨A,ca,rfl,z,i⟩:=h;unfold dT at i;have r:=qZ z;unfold Tree.dR;obtain⟨N,f⟩:=nQ xs.length;rw[f.out]at i⊢;have d:cE w1 w1 (w1.alloc (cF #[(),(),()] 40)):=bZ;by_cases j:0<=n/\n<(N:Int)
 .obtain⟨a,s⟩:=j;rw[aI ⟨a,s⟩];obtain⟨k,rfl⟩:=fM a;have g:k<xs.length:=by rw[f.out];omega
  have e:xs.getD (k:Int).toNat eM=xs[k]:=by rw[ew,aV,aH g,cY]
  rw[e];obtain⟨b,o,rfl,I,x⟩:=EY r.out g;obtain⟨F,p1,p2⟩:=x _ d;generalize xs[k]=y at*;obtain⟨l,m,p⟩:=y;simp only at F p1 p2;have J:¬b=(w1:Nat):=oZ;show dC cJ 44 #[ac (cD ⟨b,o,cL⟩) N ca,(k:Int)] w1 λe w'=>e=cN (cR #[l,m,p])/\cE w1 w1 w';have c:=qZ d;go_enter func44,ntmps44;go_wp2_with fail;exact cU (v:=cR #[l,m,p]) (by simp[results,Tryz.results44,go_sem]) rfl ⟨rfl,by have:=c.out;exact kp⟩
 .rw[aF j];show dC cJ 44 #[ac A N ca,n] w1 λe w'=>e=cN (cR #[(),(),()])/\cE w1 w1 w';have c:=qZ d;by_cases a:n<0
  .have H:decide (n<0)=cW:=by simpa using a
   go_enter func44,ntmps44;go_wp2_with fail;exact cU (v:=cR #[(),(),()]) (by simp[results,Tryz.results44,go_sem]) rfl ⟨rfl,by have:=c.out;exact kp⟩
  .have H:decide (n<0)=cI:=by simpa using a
   have K:decide ((N:Int)<=n)=cW:=by simp;omega
   go_enter func44,ntmps44;go_wp2_with fail;exact cU (v:=cR #[(),(),()]) (by simp[results,Tryz.results44,go_sem]) rfl ⟨rfl,by have:=c.out;exact kp⟩
theorem VK(h:VSl w va xs)(n:Int):fV cJ w 67 #[va,n] (Tree.dR xs n).val:=by
 intro w1 u;replace h:=h.below u;obtain⟨A,ca,rfl,z,i⟩:=h;unfold dT at i;have r:=qZ z;unfold Tree.dR;obtain⟨N,f⟩:=nQ xs.length;rw[f.out]at i⊢;have d:cE w1 w1 (w1.alloc (cF #[(),(),()] 40)):=bZ;by_cases j:0<=n/\n<(N:Int)
 .obtain⟨a,s⟩:=j;rw[aI ⟨a,s⟩];obtain⟨k,rfl⟩:=fM a;have g:k<xs.length:=by rw[f.out];omega
  have e:xs.getD (k:Int).toNat eM=xs[k]:=by rw[ew,aV,aH g,cY]
  rw[e];obtain⟨b,o,rfl,I,x⟩:=EY r.out g;obtain⟨F,p1,p2⟩:=x _ d;generalize xs[k]=y at*;obtain⟨l,m,p⟩:=y;simp only at F p1 p2;have J:¬b=(w1:Nat):=oZ;show dC cJ 67 #[ac (cD ⟨b,o,cL⟩) N ca,(k:Int)] w1 λe w'=>e=cN (cR #[l,m,p])/\cE w1 w1 w';have c:=qZ d;go_enter func67,ntmps67;go_wp2_with fail;exact cU (v:=cR #[l,m,p]) (by simp[results,Tryz.results67,go_sem]) rfl ⟨rfl,by have:=c.out;exact kp⟩
 .rw[aF j];show dC cJ 67 #[ac A N ca,n] w1 λe w'=>e=cN (cR #[(),(),()])/\cE w1 w1 w';have c:=qZ d;by_cases a:n<0
  .have H:decide (n<0)=cW:=by simpa using a
   go_enter func67,ntmps67;go_wp2_with fail;exact cU (v:=cR #[(),(),()]) (by simp[results,Tryz.results67,go_sem]) rfl ⟨rfl,by have:=c.out;exact kp⟩
  .have H:decide (n<0)=cI:=by simpa using a
   have K:decide ((N:Int)<=n)=cW:=by simp;omega
   go_enter func67,ntmps67;go_wp2_with fail;exact cU (v:=cR #[(),(),()]) (by simp[results,Tryz.results67,go_sem]) rfl ⟨rfl,by have:=c.out;exact kp⟩
theorem alT(w:cG)(k:Nat):mI (w.alloc (cF #[(k:Int)] 3)) (w:Nat) (ac w 1 1) [k]:=by refine⟨rfl,.inr ⟨(w:Nat),1,#[(k:Int)],rfl,bG _,heap_alloc_new w _,bG _,by unfold dT;omega,rfl,rfl⟩⟩
theorem afS{B:Nat}{l:List Nat}(h:mI w B v l)(k:Nat)(u:l.length<=1000000):∃v' w',(cV #[36,36] 36 #[ac w 1 1,v]).run cJ (w.alloc (cF #[(k:Int)] 3))=.ok v' w'/\mI w' (w:Nat) v' (k::l)/\cE w w w':=by
 obtain⟨i0,hi,p,r,s⟩:=er xO;have a:cE w w (w.alloc (cF #[(k:Int)] 3)):=bZ;have f:mI (w.alloc (cF #[(k:Int)] 3)) B v l:=fE.below h a;have d:(ival l).length=l.length:=by simp[ival]
 have c:(ival [k]).length=1:=rfl;obtain⟨v',w',n,m,j,x⟩:=UG (P:=cJ) 36 36 3 i0 _ 8 eS hi p r s rfl (alT w k) f sZ (λy o=>by obtain⟨_,_,rfl⟩:=bU.1 o;rfl) (by rw[c,d];omega) (by rw[c,d];omega);have g:cE w w w':=a.trans ((aL.jX (F:=λb=>b=(w:Nat)) j (λi e=>by cases e;rfl)).below sZ λi e=>by rw[e];exact bG _);exact⟨v',w',n,m,g⟩
def qU(l:List Nat)(w:cG)(e:fy)(w':cG):Prop:=∃v,e=cN v/\mI w' (w:Nat) v l/\cE w w w'
theorem CQ(r:bW w v c)(ah:c.aN.length<=1000000)(t:Int):∀w1,cE w w w1->dC cJ 68 #[v,t] w1 λe w'=>qU (ej c t) w1 e w':=by
 intro w1 aj;replace r:=r.below aj;obtain⟨v1,v2,rfl,⟨A,ca,rfl,aq,aw⟩,⟨B,k,rfl,a0,ax⟩⟩:=r;obtain⟨M,O⟩:=nZ c.aR.length;obtain⟨aG,T⟩:=nZ c.aG;obtain⟨aJ,Q⟩:=nZ c.aJ;obtain⟨N,f⟩:=nQ c.aN.length;have ad:=qZ aq;rw[O,T,Q];rw[f.out]at ah⊢;have af:=qY ((ej c t).length<=N) (by unfold ej;rw[fb,<-f.out];exact uZ c t);have ae:=qY (ej c t=(Tree.up c t).reverse++[]) (by unfold ej;simp);generalize ej c t=PT at*;clear O T Q;have am:=gM.new w1 (ac A N ca) (ac B M k) aG aJ;have al:cE w1 w1 (w1.alloc (cF #[ac A N ca,ac B M k,aG,aJ] 26)):=bZ;go_enter func68,ntmps68;generalize a5:w1.alloc (cF #[ac A N ca,ac B M k,aG,aJ] 26)=wq at*;have H:=qZ am;have g:=qZ al;go_wp2_with fail;go_loopw [1,5] (λn l wr=>∃(m:Int) (a:List Nat),n=cC cA m/\Hid (PT=(Tree.up c m).reverse++a)/\mI wr (w1:Nat) l a/\cE wq wq wr) (λn _ _=>(intOf n+1).toNat);exact⟨t,[],rfl,ae,fE.nil _ _ _,aK _ _⟩
 obtain⟨m,a,rfl,i,o,d⟩:=hrel
 rename cG=>wr
 obtain⟨-,x0,ba,bb,bc⟩:=H.out.on d;have au:=qZ d;by_cases W:0<=m/\m<(N:Int)
 .obtain⟨s,az⟩:=W;obtain⟨x,rfl⟩:=fM s;have y:x<c.aN.length:=by rw[f.out];omega
  have aa:=aal c x y;obtain⟨av,a8,rfl,ay,an⟩:=GN ad.out y;have ai:a.length<=1000000:=by have:=af.out;rw[i.out,aW]at this;omega
  obtain⟨a9,z,Z,K,ak⟩:=afS o x ai;have u:cE wq wq z:=aA d ak;obtain⟨-,bd,-,-,-⟩:=H.out.on u;have X:=an z (aA g.out u);rw[<-show fX c x=c.aN[x].parent by unfold fX;rw[aV,aH y,cY]]at X;obtain⟨p,Y⟩:=nZ (fX c x);rw[Y]at X aa;have I:=qZ aa;have L:=qZ (fE.low K (by have:=(aA g.out d).size;omega:(w1:Nat)<=(wr:Nat)));have J:=qZ u;obtain⟨ab,c5,ag,-⟩:=fE.form K;obtain⟨F,c4,e4,-⟩:=fE.form o;subst ag e4;clear Y;by_cases j:(x:Int)<=p
  .have b:=qY (qU PT w1 (cN (ac ab (ival (x::a)).length c5)) z) (⟨_,rfl,by rw[i.out,I.out,aI j];exact L.out,aA g.out J.out⟩);have ap:decide ((x:Int)<=p)=cW:=by simpa using j
   go_wp2_with(at_builtin;refine cK rfl (.tmp 17) (.tmp 18) _ _ rfl (ac wr 1 1) (ac F (ival a).length c4) rfl rfl Z ?_);go_ret;exact b.out
  .have b:=qY (PT=(Tree.up c p).reverse++(x::a)) (by rw[i.out,I.out,aF j];simp);have ap:decide ((x:Int)<=p)=cI:=by simpa using j
   have ao:=qY ((p+1).toNat<((x:Int)+1).toNat) (by omega);go_wp2_with(at_builtin;refine cK rfl (.tmp 17) (.tmp 18) _ _ rfl (ac wr 1 1) (ac F (ival a).length c4) rfl rfl Z ?_);go_roundw;exact⟨p,x::a,rfl,b,L.out,J.out⟩;exact ao.out
 .have b:=qY (qU PT w1 (cN u5) wr) (⟨_,rfl,by rw[i.out,KA c m (by rw[f.out];exact W)];simpa using o,aA g.out d⟩);by_cases s:0<=m
  .have ar:decide (m<(N:Int))=cI:=by simp;omega
   go_wp2_with fail;go_ret;exact b.out
  .have ar:decide (0<=m)=cI:=by simpa using s
   go_wp2_with fail;go_ret;exact b.out
theorem ads(b:bW w v c)(Z:c.aN.length<=1000000):∀w1,cE w w w1->dC cJ 194 #[v] w1 λe w'=>DR c w1 e w':=by
 intro w1 Q;replace b:=b.below Q;have f:=qZ (λn=>KL b n);obtain⟨v1,v2,rfl,⟨A,ca,rfl,ap,al⟩,⟨B,a,rfl,aq,am⟩⟩:=id b;have r:Hid (gQ c=oL c c.aN.length):=qZ rfl;generalize ah:c.aR.length=M at*;obtain⟨N,I⟩:=nQ c.aN.length;rw[I.out]at f Z r⊢;obtain⟨aG,K⟩:=nQ c.aG;obtain⟨aJ,J⟩:=nQ c.aJ;rw[K.out,J.out]at f⊢;have X:=gM.new w1 (ac A N ca) (ac B M a) aG aJ;have W:cE w1 w1 (w1.alloc (cF #[ac A N ca,ac B M a,aG,aJ] 26)):=bZ;have O:mI (w1.alloc (cF #[ac A N ca,ac B M a,aG,aJ] 26)) (w1:Nat) (ac cL 0 0) (oL c 0):=fE.nil _ _ _;go_enter func194,ntmps194;go_wp2_with fail;go_loopw [3,4] (λl i wr=>∃k:Nat,i=cC cA (k:Int)/\k<=N/\mI wr (w1:Nat) l (oL c k)/\l.ownBlock≠cD (w1:Nat)/\cE w1 w1 wr/\gM wr (w1:Nat) (ac A N ca) (ac B M a) aG aJ) (λ_ i _=>N-(intOf i).toNat);exact⟨0,rfl,oZ,O,by simp[e5],W,X⟩
 obtain⟨k,rfl,ai,u,ab,g,x⟩:=hrel;have H:=qZ x;obtain⟨ar,x0,av,aw,ax⟩:=x;by_cases ak:k<N
 .have hs:=qZ (JK c k);have L:=qZ (f.out (k:Int));have an:=uO c k;generalize iP c (k:Int)=q at*;have F:=qZ u;have d:=qZ ab;go_wp2_with fail;refine(L.out _ g).mono ?_;rintro e y⟨rfl,j⟩;have p:=aA g j;have m:=H.out.on j;have s:mI y (w1:Nat) u3 (oL c k):=F.out.below j;cases q
  .go_wp2_with fail;go_roundw;exact⟨k+1,mZ,oZ,by rw[hs.out];exact s,d.out,p,m⟩;simp[intOf];omega
  .obtain⟨v',au,af,ae,T,Y,aa⟩:=KV s p k oZ;have ag:=m.bA Y d.out;have ao:=m.1;have ad:v'.ownBlock≠cD (w1:Nat):=λe=>by
    rcases aa _ e with h|h
    .exact d.out h
    .omega
   have o:=qZ (aC ae ad);go_wp2_with(at_builtin;refine cK rfl (.tmp 15) (.tmp 17) _ _ rfl u3 (ac y 1 1) rfl rfl af ?_);go_roundw;exact⟨k+1,mZ,oZ,by rw[hs.out];exact o.out.1,o.out.2,T,ag⟩;simp[intOf];omega
 .have aj:N<=k:=oZ;have z:=qY (DR c w1 (cN u3) wr) (⟨u3,rfl,by rw[r.out,show N=k by omega];exact u,g⟩);go_wp2_with fail;go_ret;exact z.out
theorem anI(d:bW w v c)(aa:c.aN.length<=1000000)(n:Int)(t:Nat):fV cJ w 195 #[v,n,(t:Int)] (ek (Tree.on c n t)):=by
 intro w1 O;replace d:=d.below O;clear O;have I:=qZ (λW ah=>CQ d aa (t:Int) W ah);obtain⟨v1,v2,rfl,⟨A,ca,rfl,am,aj⟩,⟨B,H,rfl,an,ak⟩⟩:=id d;generalize ag:c.aR.length=M at*;obtain⟨N,f⟩:=nZ c.aN.length;obtain⟨aG,Z⟩:=nZ c.aG;obtain⟨aJ,K⟩:=nZ c.aJ;rw[f,Z,K]at I⊢;have ab:Tree.on c n t=(ej c (t:Int)).any (λx=>(x:Int)==n):=by unfold Tree.on ej;rw[List.any_reverse]
 have ad:=uZ c (t:Int);have al:(ej c (t:Int)).length<=N:=by unfold ej;rw[fb,<-f];exact ad
 rw[ab];rw[f]at aa;clear f ag am an aj ak d Z K ab ad;generalize ej c (t:Int)=PT at*;obtain⟨Q,p⟩:=nZ (PT.any λx=>(x:Int)==n);have z:=qZ p;rw[p];clear p;have ai:=gM.new w1 (ac A N ca) (ac B M H) aG aJ;have X:cE w1 w1 (w1.alloc (cF #[ac A N ca,ac B M H,aG,aJ] 26)):=bZ;have F:=qZ X;obtain⟨a9,x0,aq,ar,au⟩:=ai;clear X;go_enter func195,ntmps195;go_wp2_with fail;refine(I.out _ F.out).mono ?_;rintro e ap⟨v2,rfl,J,T⟩;have u:=qZ (aA F.out T);obtain⟨av,c2,rfl,Y⟩:=mV J;have af:=qZ Y;obtain⟨L,o⟩:=nZ PT.length;have y:=qZ o;have ax:L<=1000000:=oZ;rw[o];clear T J Y x0 aq ar au o al;go_wp2_with fail;go_loopw [8] (λi wr=>∃k:Nat,i=cC cA (k:Int)/\k<=L/\Hid ((PT.take k).any (λx=>(x:Int)==n)=cI)/\wr=ap) (λi _=>L-(intOf i).toNat);exact⟨0,rfl,oZ,qZ rfl,rfl⟩
 obtain⟨k,rfl,a5,ae,rfl⟩:=hrel;by_cases r:k<L
 .have g:k<PT.length:=by rw[y.out];exact r
  obtain⟨x,j⟩:=nZ (PT[k]);have l:PT[k]? =cD x:=by rw[aH g,j]
  obtain⟨aw,rfl,az,a0,ay⟩:=af.out k x l;have s:PT.take (k+1)=PT.take k++[x]:=by rw[bE g,j]
  by_cases a:(x:Int)=n
  .have b:=qY (Q=cW) (by rw[<-z.out,kS];exact⟨x,gP l,by simpa using a⟩);have ao:((x:Int)==n)=cW:=by simpa using a
   have m:=b.out;subst m;clear l j s g a;go_wp2_with fail;go_ret;exact⟨rfl,u.out⟩
  .have b:=qY ((PT.take (k+1)).any (λx=>(x:Int)==n)=cI) (by rw[s,ft,ae.out];simpa using a);have ao:((x:Int)==n)=cI:=by simpa using a
   clear l j s g a;go_wp2_with fail;go_roundw;exact⟨k+1,mZ,oZ,b,trivial⟩;simp[intOf];omega
 .have b:=qY (Q=cI) (by have:=ae.out;rw[aU (by rw[y.out];omega)]at this;rw[<-z.out,this]);have a8:decide (k<L)=cI:=by simpa using r
  have m:=b.out;subst m;clear r;go_wp2_with fail;go_ret;exact⟨rfl,u.out⟩
def jV(c:eo)(n:Int)(k:Nat):List Nat:=((gQ c).take k).filter λt=>Tree.on c n t
theorem LP(c:eo)(n:Int)(k:Nat)(h:k<(gQ c).length):jV c n (k+1)=if Tree.on c n (gQ c)[k]then jV c n k++[(gQ c)[k]]else jV c n k:=by unfold jV;rw[bE h,fU];cases e:Tree.on c n (gQ c)[k]<;>simp[e]
theorem agJ(c:eo)(n:Int)(k:Nat):(jV c n k).length<=k:=by have:=eG (λt=>Tree.on c n t) ((gQ c).take k);unfold jV;rw[bN]at this;omega
theorem OI(c:eo)(n:Int)(k:Nat)(h:(gQ c).length<=k):jV c n k=Tree.below c n:=by unfold jV Tree.below;rw[aU h]
theorem GU(d:bW w v c)(ao:c.aN.length<=1000000)(n:Int):∀w1,cE w w w1->dC cJ 128 #[v,n] w1 λe w'=>qU (Tree.below c n) w1 e w':=by
 intro w1 af;replace d:=d.below af;clear af;have Y:=qZ (λW b=>ads d ao W b);have Z:=qZ (λt=>anI d ao n t);obtain⟨v1,v2,rfl,⟨A,ca,rfl,bi,be⟩,⟨B,s,rfl,bj,bf⟩⟩:=id d;have bg:(gQ c).length<=1000000:=by have:=eG (λ(i:Nat)=>iP c (i:Int)) (e9 c.aN.length);unfold gQ;rw[fj]at this;omega
 generalize bb:c.aR.length=M at*;obtain⟨N,ad⟩:=nZ c.aN.length;obtain⟨aG,an⟩:=nZ c.aG;obtain⟨aJ,ae⟩:=nZ c.aJ;rw[ad,an,ae]at Y Z⊢;have a0:=qZ (OI c n);generalize Tree.below c n=TB at*;clear ad bb bi bj be bf d an ae;have f:=gM.new w1 (ac A N ca) (ac B M s) aG aJ;have ai:cE w1 w1 (w1.alloc (cF #[ac A N ca,ac B M s,aG,aJ] 26)):=bZ;go_enter func128,ntmps128;generalize bl:w1.alloc (cF #[ac A N ca,ac B M s,aG,aJ] 26)=wq at*;have aw:=qZ f;have g:=qZ ai;obtain⟨bv,x0,bm,bn,bo⟩:=f;clear ai;go_wp2_with fail;refine(Y.out _ g.out).mono ?_;rintro e o⟨v2,rfl,ab,ag⟩;have r:=qZ ag;obtain⟨bp,c2,rfl,aj⟩:=mV ab;have ax:=qZ aj;obtain⟨L,y⟩:=nZ ((gQ c).length);have K:=qZ y;rw[y]at bg⊢;clear ag ab aj x0 bm bn bo y bl;go_wp2_with fail;go_loopw [5,7] (λl i wr=>∃k:Nat,i=cC cA (k:Int)/\k<=L/\mI wr (o:Nat) l (jV c n k)/\cE o o wr) (λ_ i _=>L-(intOf i).toNat);exact⟨0,rfl,oZ,fE.nil _ _ _,aK _ _⟩
 obtain⟨k,rfl,bs,j,a⟩:=hrel
 rename cG=>wr
 by_cases z:k<L
 .have F:k<(gQ c).length:=by rw[K.out];exact z
  have m:=LP c n k F;obtain⟨x,I⟩:=nZ ((gQ c)[k]);rw[I]at m;have ar:(gQ c)[k]? =cD x:=by rw[aH F,I]
  obtain⟨aa,rfl,br,am,ak⟩:=ax.out k x ar;have al:=(a.cell (p:=⟨aa,k,cL⟩) am).trans ak;have bc:aa<(wr:Nat):=aM am a.size;have H:=aA r.out a;have f:=aw.out.on H;obtain⟨a5,a8,a9,ba⟩:=f.all;have X:=λW (h:aD wr W)=>h.cell bc al;have u:=(Z.out x).on (aA g.out H);have bu:=agJ c n k;obtain⟨q,aq⟩:=nZ (Tree.on c n x);rw[aq]at m u;have T:=qZ m;have az:=qZ j;have av:=qZ a;have au:=qZ u;clear m I ar ak al aq F j a H f u;go_wp2_with fail;refine kK ?_;(repeat refine kY ?_);refine kJ (au.out.up (aK _ _)) ?_;(repeat refine kY ?_);refine dP ?_;intro W b;have bq:=X W b;have J:=qZ (aA av.out b);have Q:=qZ (fE.below az.out b);clear a5 a8 a9 ba X b;cases q
  .go_wp2_with fail;go_roundw;exact⟨k+1,mZ,oZ,by rw[T.out];exact Q.out,J.out⟩;simp[intOf];omega
  .obtain⟨v',bw,bk,ap,ah,bd,bh⟩:=KV (w1:=o) Q.out J.out x oZ;have O:=qZ (aC ap ah);clear ap ah bd bh;go_wp2_with(at_builtin;refine cK rfl (.tmp 23) (.tmp 28) _ _ rfl u5 (ac W 1 1) rfl rfl bk ?_);go_roundw;exact⟨k+1,mZ,oZ,by rw[T.out];exact O.out.1,O.out.2⟩;simp[intOf];omega
 .have ay:=qY (qU TB w1 (cN u5) wr) (⟨_,rfl,by rw[<-a0.out k (by rw[K.out];omega)];exact fE.low j (by have:=(aA g.out r.out).size;omega),aA g.out (aA r.out a)⟩);have bt:decide (k<L)=cI:=by simpa using z
  clear z j a;go_wp2_with fail;go_ret;exact ay.out
def sumTo(c:eo)(n:Int)(xs:List cT)(k:Nat):cT:=((Tree.below c n).take k).foldl (λv (t:Nat)=>fl v (Tree.dR xs (t:Int))) eM
theorem aeX(c:eo)(n:Int)(xs:List cT)(k:Nat)(h:k<(Tree.below c n).length):sumTo c n xs (k+1)=fl (sumTo c n xs k) (Tree.dR xs ((Tree.below c n)[k]:Int)):=by unfold sumTo;rw[bE h,fB];rfl
theorem ahz(c:eo)(n:Int)(xs:List cT)(k:Nat)(h:(Tree.below c n).length<=k):sumTo c n xs k=fx c n xs:=by unfold sumTo fx;rw[aU h]
theorem abg(I:bW w v c)(ck:c.aN.length<=1000000)(H:VSl w va xs)(n:Int):fV cJ w 69 #[v,n,va] (fx c n xs).val:=by
 intro w1 al;replace I:=I.below al;replace H:=H.below al;clear al;have ae:=qZ (λW g=>GU I ck n W g);have b8:=qZ (λt=>VK H t);have b9:=qZ (λa b=>gT.AA a b);obtain⟨v1,v2,rfl,⟨A,ca,rfl,cm,ch⟩,⟨B,d,rfl,cn,ci⟩⟩:=id I;obtain⟨D,cd,rfl,co,cj⟩:=id H;have cl:(Tree.below c n).length<=1000000:=by have ai:=eG (λt=>Tree.on c n t) (gQ c);have cb:=eG (λ(i:Nat)=>iP c (i:Int)) (e9 c.aN.length);rw[fj]at cb;unfold Tree.below;unfold gQ at ai⊢;omega
 generalize cc:c.aR.length=M at*;obtain⟨N,a5⟩:=nZ c.aN.length;obtain⟨aG,bh⟩:=nZ c.aG;obtain⟨aJ,a8⟩:=nZ c.aJ;generalize ce:xs.length=X at*;rw[a5,bh,a8]at ae⊢;have b1:=qZ (ahz c n xs);have bz:=qZ (aeX c n xs);have b4:=qY (sumTo c n xs 0=⟨0,0,0⟩) rfl;obtain⟨S,ak⟩:=nZ (fx c n xs);have bw:=qZ ak;rw[ak];obtain⟨ap,s1,s2⟩:=S;clear a5 cc cm cn ch ci I bh a8 ce co cj H ak;show dC cJ 69 #[cR #[ac A N ca,ac B M d,aG,aJ],n,ac D X cd] w1 λe w'=>e=cN (cR #[ap,s1,s2])/\cE w1 w1 w';have a9:cE w1 w1 (((w1.alloc (cF #[ac A N ca,ac B M d,aG,aJ] 26)).alloc (cF #[(),(),()] 40)).alloc (cF #[(),(),()] 40)):=kp;have bi:gM (((w1.alloc (cF #[ac A N ca,ac B M d,aG,aJ] 26)).alloc (cF #[(),(),()] 40)).alloc (cF #[(),(),()] 40)) (w1:Nat) (ac A N ca) (ac B M d) aG aJ:=(gM.new w1 (ac A N ca) (ac B M d) aG aJ).on kp;have bj:arz (((w1.alloc (cF #[ac A N ca,ac B M d,aG,aJ] 26)).alloc (cF #[(),(),()] 40)).alloc (cF #[(),(),()] 40)) ((w1:Nat)+1) 0 ⟨0,0,0⟩:=by refine⟨sZ,?_,?_,?_⟩<;>simp[go_sem]
 have bk:arz (((w1.alloc (cF #[ac A N ca,ac B M d,aG,aJ] 26)).alloc (cF #[(),(),()] 40)).alloc (cF #[(),(),()] 40)) ((w1:Nat)+1+1) 0 ⟨0,0,0⟩:=by refine⟨sZ,?_,?_,?_⟩<;>simp[go_sem]
 have bd:∀j,(((w1.alloc (cF #[ac A N ca,ac B M d,aG,aJ] 26)).alloc (cF #[(),(),()] 40)).alloc (cF #[(),(),()] 40)).frozen? ⟨(w1:Nat)+1,j,cL⟩=cI:=λj=>by simp[go_sem]
 have be:∀j,(((w1.alloc (cF #[ac A N ca,ac B M d,aG,aJ] 26)).alloc (cF #[(),(),()] 40)).alloc (cF #[(),(),()] 40)).frozen? ⟨(w1:Nat)+1+1,j,cL⟩=cI:=λj=>by simp[go_sem]
 have dd:(((w1.alloc (cF #[ac A N ca,ac B M d,aG,aJ] 26)).alloc (cF #[(),(),()] 40)).alloc (cF #[(),(),()] 40)).heap.size=(w1:Nat)+3:=sZ;have b5:=qZ bd;have b6:=qZ be;clear bd be;go_enter func69,ntmps69;have cr:=qZ bi;have b2:=qZ bj;have b3:=qZ bk;clear bi bj bk;go_wp2_with fail;generalize((w1.alloc (cF #[ac A N ca,ac B M d,aG,aJ] 26)).alloc (cF #[(),(),()] 40)).alloc (cF #[(),(),()] 40)=bo at*;have r:=qZ a9;clear a9;refine(ae.out _ r.out).mono ?_;rintro e l⟨v2,rfl,a0,m⟩;have T:=qZ m;obtain⟨cq,c2,rfl,ba⟩:=mV a0;have bt:=qZ ba;have br:=qZ (b2.out.on m);have bs:=qZ (b3.out.on m);have Z:Hid (∀j,l.frozen? ⟨(w1:Nat)+1,j,cL⟩=cI):=qZ (λj=>(m.frozen (p:=⟨(w1:Nat)+1,j,cL⟩) (by show(w1:Nat)+1<(bo:Nat);omega)).trans (b5.out j));have bp:Hid (∀j,l.frozen? ⟨(w1:Nat)+1+1,j,cL⟩=cI):=qZ (λj=>(m.frozen (p:=⟨(w1:Nat)+1+1,j,cL⟩) (by show(w1:Nat)+1+1<(bo:Nat);omega)).trans (b6.out j));have dc:(w1:Nat)+3<=(l:Nat):=by have:=m.size;omega
 obtain⟨L,aj⟩:=nZ ((Tree.below c n).length);have av:=qZ aj;rw[aj]at cl⊢;clear m a0 ba aj ae;go_wp2_with fail;go_loopw [9] (λi wr=>∃k:Nat,i=cC cA (k:Int)/\k<=L/\arz wr ((w1:Nat)+1+1) 0 (sumTo c n xs k)/\(∀j,wr.frozen? ⟨(w1:Nat)+1+1,j,cL⟩=cI)/\aL (λb=>b=(w1:Nat)+1+1) l wr) (λi _=>L-(intOf i).toNat);exact⟨0,rfl,oZ,by rw[b4.out];exact bs.out,bp.out,aL.refl _ _⟩
 obtain⟨k,rfl,da,hv,bf,f⟩:=hrel
 rename cG=>wr
 have aw:=qZ hv;have bu:=qZ bf;have bv:=qZ f;by_cases am:k<L
 .have an:k<(Tree.below c n).length:=by rw[av.out];exact am
  have J:=bz.out k an;obtain⟨x,ao⟩:=nZ ((Tree.below c n)[k]);rw[ao]at J;have bl:(Tree.below c n)[k]? =cD x:=by rw[aH an,ao]
  obtain⟨ah,rfl,c0,bg,bb⟩:=bt.out k x bl;have bc:=(f.cell (p:=⟨ah,k,cL⟩) bg (by show¬ah=(w1:Nat)+1+1;omega)).trans bb;have cg:ah<(wr:Nat):=aM bg f.size;have Y:cE w1 w1 wr:=(aA r.out T.out).trans (f.below (aA r.out T.out).size λi e=>by rw[e];omega);have af:=(b8.out (x:Int)).on Y;obtain⟨y,bm⟩:=nZ (Tree.dR xs (x:Int));rw[bm]at af J;have ag:=b9.out (sumTo c n xs k) y;generalize sumTo c n xs k=z at*;obtain⟨aq,ar,au⟩:=y;obtain⟨z0,z1,z2⟩:=z;obtain⟨s,hs⟩:=nZ (fl ⟨z0,z1,z2⟩ ⟨aq,ar,au⟩);rw[hs]at ag J;obtain⟨K,O,Q⟩:=s;have ax:fV cJ wr 67 #[ac D X cd,(x:Int)] (cR #[aq,ar,au]):=af;have ay:eP cJ 66 #[cR #[z0,z1,z2],cR #[aq,ar,au]] (cR #[K,O,Q]):=ag;have b0:=qZ J;have bq:=qZ ax;have b7:=λW (h:aD wr W)=>h.cell cg bc;have aa:=λW (h:aD wr W)=>h.cell hv.1 hv.2.1;have ab:=λW (h:aD wr W)=>h.cell hv.1 hv.2.2.1;have ad:=λW (h:aD wr W)=>h.cell hv.1 hv.2.2.2;simp only[aO]at aa ab ad;clear hv an J ao bl bb bc Y af bm ag hs ax f;go_wp2_with fail;refine jN 8 kZ kZ ?_;simp only[ei,eu,aZ,bB];(repeat refine kY ?_);refine kJ (bq.out.up (aK _ _)) ?_;(repeat refine kY ?_);refine kJ ay ?_;(repeat refine kY ?_);refine dP ?_;intro W g;have F:∀j,W.frozen? ⟨(w1:Nat)+1+1,j,cL⟩=cI:=λj=>(Below.frozen (p:=⟨(w1:Nat)+1+1,j,cL⟩) g aw.out.1).trans (bu.out j);have cs:=F 0;have ct:=F 1;have cu:=F 2;have u:=aa W g;have d1:=ab W g;have d2:=ad W g;have cp:(w1:Nat)+1+1<(W:Nat):=aM aw.out.1 g.size;have o:=qY (arz (uR W ((w1:Nat)+1+1) 0 ⟨K,O,Q⟩) ((w1:Nat)+1+1) 0 ⟨K,O,Q⟩/\(∀j,(uR W ((w1:Nat)+1+1) 0 ⟨K,O,Q⟩).frozen? ⟨(w1:Nat)+1+1,j,cL⟩=cI)/\aL (λb=>b=(w1:Nat)+1+1) l (uR W ((w1:Nat)+1+1) 0 ⟨K,O,Q⟩)) (by
   refine⟨⟨by simp[uR];exact cp,?_,?_,?_⟩,λj=>?_,(bv.out.trans (aL.bQ g)).trans (zI W _ 0 _)⟩
   .simp[uR,go_sem,u,d1,d2]
   .simp[uR,go_sem,u,d1,d2]
   .simp[uR,go_sem,u,d1,d2]
   .simp[uR,World.frozen?_setCell,F j])
  unfold uR at o;simp only[aO]at o;clear b7 aa ab ad F g ay;go_wp2_with fail;go_roundw;exact⟨k+1,mZ,oZ,by rw[b0.out];exact o.out.1,o.out.2.1,o.out.2.2⟩;simp[intOf];omega
 .have az:sumTo c n xs k=⟨ap,s1,s2⟩:=by rw[b1.out k (by rw[av.out];omega),bw.out]
  rw[az]at hv;have ai:=br.out.bA f (by show¬(w1:Nat)+1=(w1:Nat)+1+1;omega);have cv:wr.frozen? ((w1:Nat)+1,0)=cI:=(f.frozen (p:=⟨(w1:Nat)+1,0,cL⟩) (by show(w1:Nat)+1<(l:Nat);omega) (by show¬(w1:Nat)+1=(w1:Nat)+1+1;omega)).trans (Z.out 0);have cw:wr.frozen? ((w1:Nat)+1,1)=cI:=(f.frozen (p:=⟨(w1:Nat)+1,1,cL⟩) (by show(w1:Nat)+1<(l:Nat);omega) (by show¬(w1:Nat)+1=(w1:Nat)+1+1;omega)).trans (Z.out 1);have cx:wr.frozen? ((w1:Nat)+1,2)=cI:=(f.frozen (p:=⟨(w1:Nat)+1,2,cL⟩) (by show(w1:Nat)+1<(l:Nat);omega) (by show¬(w1:Nat)+1=(w1:Nat)+1+1;omega)).trans (Z.out 2);have Y:=qY (cE w1 w1 wr) ((aA r.out T.out).trans (f.below (aA r.out T.out).size λi e=>by rw[e];omega));obtain⟨cz,u,d1,d2⟩:=hv;obtain⟨cy,bn,r1,r2⟩:=ai;simp only[aO]at u d1 d2 bn r1 r2;have db:decide (k<L)=cI:=by simpa using am
  clear az bf f am;go_wp2_with fail;exact cU (v:=cR #[ap,s1,s2]) (by simp[results,Tryz.results69,go_sem,bn,r1,r2]) rfl ⟨rfl,by have:=Y.out;exact kp⟩
end bO
namespace eO
open Go.RowKit L bO
def eF(p:gl):Array cP:=#[cC cA p.id,cC cA p.dI,cC cA p.fG,cC cA p.need.x,cC cA p.need.y,cC cA p.need.z,cC cA p.run,cC cA p.aP,cC cA p.prefer,cC cA p.seq,cC cA p.since]
def InI(n:Int):Prop:= -9223372036854775808<=n/\n<=9223372036854775807
theorem tK(a b:Int)(w:cG):dC cJ 57 #[a,b] w λe w'=>e=cN (cC cA (fc a b))/\w=w':=by
 unfold fc;by_cases h:a<b
 .rw[aI h];go_enter func57,ntmps57;go_wp2;go_ret;exact⟨rfl,rfl⟩
 by_cases c:b<a
 .rw[aF h,aI c];go_enter func57,ntmps57;go_wp2;go_ret;exact⟨rfl,rfl⟩
 .rw[aF h,aF c];go_enter func57,ntmps57;go_wp2;go_ret;exact⟨rfl,rfl⟩
theorem uP(a b:Int)(w:cG):dC cJ 134 #[a,b] w λe w'=>e=cN (cC cA (fc a b))/\w=w':=by
 have e1:(a !=a)=cI:=sZ;have e2:(b !=b)=cI:=sZ;unfold fc;by_cases h:a<b
 .rw[aI h];go_enter func134,ntmps134;go_wp2;go_ret;exact⟨rfl,rfl⟩
 by_cases c:b<a
 .rw[aF h,aI c];go_enter func134,ntmps134;go_wp2;go_ret;exact⟨rfl,rfl⟩
 .rw[aF h,aF c];go_enter func134,ntmps134;go_wp2;go_ret;exact⟨rfl,rfl⟩
theorem adR(a b:Nat)(w:cG):dC cJ 200 #[cC .u64 a,cC .u64 b] w λe w'=>e=cN (cC cA (fc a b))/\w=w':=by
 have e1:((a:Int) !=(a:Int))=cI:=sZ;have e2:((b:Int) !=(b:Int))=cI:=sZ;unfold fc;by_cases h:(a:Int)<(b:Int)
 .rw[aI h];go_enter func200,ntmps200;go_wp2;go_ret;exact⟨rfl,rfl⟩
 by_cases c:(b:Int)<(a:Int)
 .rw[aF h,aI c];go_enter func200,ntmps200;go_wp2;go_ret;exact⟨rfl,rfl⟩
 .rw[aF h,aF c];go_enter func200,ntmps200;go_wp2;go_ret;exact⟨rfl,rfl⟩
theorem SA{b:Nat}(n:b<(w:Nat))(x y:Int)(a:w.cell? (b,0)=cD (cC cA x))(d:w.cell? (b,1)=cD (cC cA y)):dC cJ 137 #[ac b 2 2] w λe w'=>e=cN (cC cA (fN x y))/\cE w w w':=by
 have k:=qZ a;have l:=qZ d;have g:=qZ n;go_enter func137,ntmps137;go_wp2_with fail;go_loopw [8] (λi wr=>cE w w wr/\((i=cC cA 0)\/(i=cC cA 1/\x=0)\/(i=cC cA 2/\x=0/\y=0))) (λi _=>2-(intOf i).toNat);exact⟨aK _ _,.inl rfl⟩
 obtain⟨f,hi⟩:=hrel;have o:=(f.cell (p:=⟨b,0,cL⟩) g).trans k;have p1:=(f.cell (p:=⟨b,1,cL⟩) g).trans l;have c:=qZ f;rcases hi with rfl|⟨rfl,j⟩|⟨rfl,j,m⟩
 .by_cases a:x=0
  .have e1:(x !=0)=cI:=by simp[a]
   go_wp2_with fail;go_roundw;exact⟨by have:=c.out;exact kp,.inr (.inl ⟨mZ,a⟩)⟩;simp[intOf]
  .have e1:(x !=0)=cW:=by simp[a]
   go_wp2_with fail;go_ret;exact⟨by rw[fN,aI a];rfl,by have:=c.out;exact kp⟩
 .by_cases d:y=0
  .have e1:(y !=0)=cI:=by simp[d]
   go_wp2_with fail;go_roundw;exact⟨by have:=c.out;exact kp,.inr (.inr ⟨mZ,j,d⟩)⟩;simp[intOf]
  .have e1:(y !=0)=cW:=by simp[d]
   go_wp2_with fail;go_ret;exact⟨by rw[fN,aF oZ];rfl,by have:=c.out;exact kp⟩
 .go_wp2_with fail;go_ret;exact⟨by rw[fN,aF oZ,m];rfl,by have:=c.out;exact kp⟩
theorem MW(x:Int)(a:0<=x)(b:x<=9223372036854775807):IntKind.u64.wrap x=x:=by rw[ez];omega
theorem aau(x y:Int)(c:y<=x)(a:InI x)(b:InI y):IntKind.u64.wrap (IntKind.u64.wrap x-IntKind.u64.wrap y)=x-y:=by unfold InI at a b;rw[ez,ez,ez];omega
theorem aei(v1 v2:cP)(aG aJ aQ:Int)(p:gl)(e:InI aJ)(f:InI aQ)(g:InI p.since):eP cJ 133 #[cR #[v1,v2,aG,aJ],aQ,cR (eF p)] (ek (fW aJ aQ p.since)):=by
 intro w;obtain⟨a0,a1,a2,⟨a3,a4,j⟩,a6,a7,k,l,s⟩:=p;have d:=λh:s<=aQ=>aau aQ s h f g;have i:0<aJ->IntKind.u64.wrap aJ=aJ:=λh=>MW aJ oZ e.2;unfold eF fW
 dsimp only at d⊢
 go_enter func133,ntmps133;by_cases a:0<aJ
 .by_cases b:s<=aQ
  .have e1:=d b;have e2:=i a;rw[decide_eq_true a,decide_eq_true b];by_cases c:aJ<=aQ-s
   .rw[decide_eq_true c];go_wp2_with fail;go_ret;exact⟨rfl,kp⟩
   .rw[dS c];go_wp2_with fail;go_ret;exact⟨rfl,kp⟩
  .rw[decide_eq_true a,dS b];go_wp2_with fail;go_ret;exact⟨rfl,kp⟩
 .rw[dS a];go_wp2_with fail;go_ret;exact⟨rfl,kp⟩
theorem abl(v1 v2:cP)(aG aJ aQ:Int)(p:gl)(e:InI aJ)(f:InI aQ)(g:InI p.since):eP cJ 55 #[cR #[v1,v2,aG,aJ],aQ,cR (eF p)] (ek (fW aJ aQ p.since)):=by
 intro w;obtain⟨a0,a1,a2,⟨a3,a4,j⟩,a6,a7,k,l,s⟩:=p;have d:=λh:s<=aQ=>aau aQ s h f g;have i:0<aJ->IntKind.u64.wrap aJ=aJ:=λh=>MW aJ oZ e.2;unfold eF fW
 dsimp only at d⊢
 go_enter func55,ntmps55;by_cases a:0<aJ
 .by_cases b:s<=aQ
  .have e1:=d b;have e2:=i a;rw[decide_eq_true a,decide_eq_true b];by_cases c:aJ<=aQ-s
   .rw[decide_eq_true c];go_wp2_with fail;go_ret;exact⟨rfl,kp⟩
   .rw[dS c];go_wp2_with fail;go_ret;exact⟨rfl,kp⟩
  .rw[decide_eq_true a,dS b];go_wp2_with fail;go_ret;exact⟨rfl,kp⟩
 .rw[dS a];go_wp2_with fail;go_ret;exact⟨rfl,kp⟩
end eO
variable{vr:cP}
namespace bO
open Go.RowKit L
theorem ahi{l:List cT}(h:iV w (w1:Nat) v l)(a:cE w1 w1 w)(x:cT)(d:l.length<=1048576):∃v' w',(cV #[51,51] 51 #[v,ac w 1 1]).run cJ (w.alloc (cF #[x.x,x.y,x.z] 40))=.ok v' w'/\iV w' (w1:Nat) v' (l++[x])/\cE w1 w1 w'/\aL (λk=>v.ownBlock=cD k) w w'/\(∀k,v'.ownBlock=cD k->v.ownBlock=cD k\/(w:Nat)<=k):=by obtain⟨v',w',j,g,c,f⟩:=UF h a.size x d;have b:aL (λk=>v.ownBlock=cD k) w w':=((aL.refl _ w).alloc _).trans (aL.jX c λi e=>e);exact⟨v',w',j,g,a.trans (b.below a.size λi hi=>(h.lt i hi).1),b,f⟩
theorem iV.form{B:Nat}(h:iV w B v xs):∃A c,v=ac A xs.length c/\(0<xs.length->∃g,A=cD ⟨g,0,cL⟩):=by
 rcases h.2 with⟨rfl,a⟩|⟨g,cap,cur,rfl,b,e,d⟩
 .exact⟨cL,0,by rw[a],λh=>oZ⟩
 .exact⟨_,_,rfl,λ_=>⟨g,rfl⟩⟩
theorem aic{rs:List Run}(ad:bW w v c)(ag:Runs w vr rs)(cb:c.aR.length<=1000000):∀w1,cE w w w1->dC cJ 33 #[v,vr] w1 λe w'=>agQ (fv c.aR (asks rs)) w1 e w':=by
 intro w1 an;replace ad:=ad.below an;replace ag:=ag.below an;obtain⟨v1,v2,rfl,⟨A,ca,rfl,dm,dg⟩,⟨B,Q,rfl,cj,dh⟩⟩:=id ad;obtain⟨R,c0,rfl,cl,au,F⟩:=ag;unfold dT at au;generalize c.aN.length=N at*;obtain⟨aG,bn⟩:=nQ c.aG;obtain⟨aJ,bm⟩:=nQ c.aJ;rw[bn.out,bm.out];generalize c.aR=hs at*;obtain⟨M,s⟩:=nQ hs.length;obtain⟨K,aa⟩:=nQ rs.length;rw[s.out]at cb⊢;rw[aa.out]at au⊢;have a9:=qZ cj;have bf:=qZ cl;have be:=qZ F;have b2:=gM.new w1 (ac A N ca) (ac B M Q) aG aJ;have b1:cE w1 w1 (w1.alloc (cF #[ac A N ca,ac B M Q,aG,aJ] 26)):=bZ;have u:iV (w1.alloc (cF #[ac A N ca,ac B M Q,aG,aJ] 26)) (w1:Nat) (ac cL 0 0) ((eC hs).take 0):=iV.nil _ _;go_enter func33,ntmps33;go_wp2_with fail;go_loopw [5,6] (λl i wr=>∃k:Nat,i=cC cA (k:Int)/\k<=M/\iV wr (w1:Nat) l ((eC hs).take k)/\l.ownBlock≠cD (w1:Nat)/\cE w1 w1 wr/\gM wr (w1:Nat) (ac A N ca) (ac B M Q) aG aJ) (λ_ i _=>M-(intOf i).toNat);exact⟨0,rfl,oZ,u,by simp[e5],b1,b2⟩
 obtain⟨k,rfl,df,f,aw,d,a5⟩:=hrel;have bk:=qZ a5;obtain⟨dn,x0,dw,dx,dy⟩:=a5;by_cases b9:k<M
 .have ar:k<hs.length:=by rw[s.out];exact b9
  obtain⟨cx,dp,rfl,dj,b4⟩:=qX a9 ar;obtain⟨cp,p1,p2,p3,p4,ah⟩:=b4 wr d;have az:Hid ((eC hs).take (k+1)=(eC hs).take k++[hs[k].cap]):=qZ (by rw[lS];simp[eC,aH ar]);have cd:((eC hs).take k).length<=1048576:=by rw[bN];omega
  generalize hs[k]=h at*;obtain⟨u,dc,dd,⟨bq,br,bs⟩⟩:=h;simp only at cp p1 p2 p3 p4 ah az;obtain⟨v',dv,ay,ci,b0,b7,cg⟩:=ahi f d ⟨bq,br,bs⟩ cd;simp only at ay;have cn:=bk.bA b7 aw;have ch:v'.ownBlock≠cD (w1:Nat):=λe=>by
   rcases cg _ e with h|h
   .exact aw h
   .omega
  have J:=qZ (aC ci (aC ch (aC b0 cn)));go_wp2_with(at_builtin;refine cK rfl (.tmp 17) (.tmp 24) _ _ rfl u5 (ac wr 1 1) rfl rfl ay ?_);go_roundw;exact⟨k+1,mZ,oZ,by rw[az.out];exact J.1,J.2.1,J.2.2.1,J.2.2.2⟩;simp[intOf];omega
 .have b8:M<=k:=oZ;have bw:(eC hs).take k=eW hs (asks rs) 0:=by rw[aU (by simp[eC,s.out];omega)];rfl
  rw[bw]at f;obtain⟨H,c5,al,a0⟩:=f.form;rw[Hst.zO,s.out]at al a0;subst al;have dt:decide ((k:Int)<(M:Int))=cI:=by simpa using b8
  have bh:=qZ f;have bl:=qZ d;have bj:=qZ a0;go_wp2_with fail;go_loopw [7] (λi wr=>∃k:Nat,i=cC cA (k:Int)/\k<=K/\iV wr (w1:Nat) (ac H M c5) (eW hs (asks rs) k)/\cE w1 w1 wr) (λi _=>K-(intOf i).toNat);exact⟨0,rfl,oZ,bh,bl⟩
  obtain⟨n,rfl,dl,f,d⟩:=hrel;by_cases ax:n<K
  .have X:n<rs.length:=by rw[aa.out];exact ax
   obtain⟨O,or,rfl,dk,T⟩:=qQ bf X;obtain⟨_,bz⟩:=aeE X;have ae:=qZ (Hst.OC hs (asks rs) n (by rw[wP];exact X));have ce:rs[n]∈rs:=bD X;have ap:=be.out _ ce;rw[bz]at ae;generalize rs[n]=r at*;obtain⟨id,cv,cr,⟨n0,n1,n2⟩,run,aP,cs,seq,dR,start,bp,aR,hv⟩:=r;simp only at ae ap;obtain⟨C,bo,rfl,ck,av⟩:=ap;obtain⟨L,ab⟩:=nQ aR.length;unfold dT at av;rw[ab.out]at T av;have bb:=qZ ck;have aj:=qZ T;have bi:=qZ f;have g:=qZ d;have bu:=qZ (Hst.zO hs (asks rs) n);generalize eW hs (asks rs) n=F0 at*;have du:decide ((n:Int)<(K:Int))=cW:=by simpa using ax
   go_wp2_with fail;go_loopw [8] (λi b=>∃j:Nat,i=cC cA (j:Int)/\j<=L/\iV b (w1:Nat) (ac H M c5) (gg dE ⟨n0,n1,n2⟩ (aR.take j) F0)/\cE w1 w1 b) (λi _=>L-(intOf i).toNat);exact⟨0,rfl,oZ,bi,g⟩
   obtain⟨j,rfl,de,f,d⟩:=hrel
   rename cG=>b
   have T:=aj.out b d;obtain⟨-,-,-,p3,p4,ah,-,-,-,-,-,-,-,cq⟩:=T;simp only at p3 p4 ah cq;by_cases b6:j<L
   .have aq:j<aR.length:=by rw[ab.out];exact b6
    obtain⟨bc,co,rfl,di,b3⟩:=qR bb aq;have p:=b3 _ d;have af:=qZ (Hst.YV dE ⟨n0,n1,n2⟩ aR F0 j aq);generalize aR[j]=h at*;have cc:=qZ (Hst.wK dE ⟨n0,n1,n2⟩ (aR.take j) F0);generalize gg dE ⟨n0,n1,n2⟩ (aR.take j) F0=m at*;have bv:m.length=M:=by rw[cc.out,bu.out,s.out]
    by_cases F:0<=h/\h<(M:Int)
    .obtain⟨i,rfl⟩:=fM F.1;have b5:i<M:=by have:=F.2;omega
     have ao:i<m.length:=oZ;obtain⟨G,rfl⟩:=bj.out oZ;obtain⟨-,bt,cm,q⟩:=f.dR ao;have Y:Hid (eR dE ⟨n0,n1,n2⟩ m (i:Int)=m.set i (dE m[i] ⟨n0,n1,n2⟩)):=qZ (by unfold eR;rw[aI ⟨oZ,oZ⟩,ew,aV,aH ao,cY]);generalize m[i]=z at*;obtain⟨z0,z1,z2⟩:=z;have ct:=q;obtain⟨dq,dr,ds⟩:=ct;have I:Hid (∀W,aD b W->VAt W G (i*3) ⟨z0,z1,z2⟩):=qZ (λW a=>(arz.on ⟨cm,q⟩ a).2);have g:=qZ d;have Z:Hid (∀W,aD b W->anh W O (or+n*14) ⟨id,cv,cr,⟨n0,n1,n2⟩,run,aP,cs,seq,dR,start,bp,aR,ac (cD ⟨bc,co,cL⟩) L bo⟩):=qZ (λW a=>aj W (aA g a));have o:=qZ f;have a8:decide ((0:Int)<=(i:Int))=cW:=sZ;have cu:decide ((i:Int)<(M:Int))=cW:=by simpa using b5
     go_wp2_with fail;refine jN 13 kZ kZ ?_;simp only[ei,eu,aZ,bB];have cy:∀W,aD b W->CI W G (i*3) z0:=λW a=>(I W a).1;have c1:∀W,aD b W->CI W G (i*3+1) z1:=λW a=>(I W a).2.1;have c2:∀W,aD b W->CI W G (i*3+2) z2:=λW a=>(I W a).2.2;have c3:∀W,aD b W->CI W O (or+n*14+3) n0:=λW a=>(Z W a).2.2.2.1;have c4:∀W,aD b W->CI W O (or+n*14+4) n1:=λW a=>(Z W a).2.2.2.2.1;have cz:∀W,aD b W->CI W O (or+n*14+5) n2:=λW a=>(Z W a).2.2.2.2.2.1;(repeat refine kY ?_);refine kJ (gT.afX ⟨z0,z1,z2⟩ ⟨n0,n1,n2⟩) ?_;(repeat refine kY ?_);refine dP ?_;intro W a;have am:=o.below a;have db:=am.ok;obtain⟨da,d1,d2⟩:=I.out W a;have bg:=qZ am;have ba:=qZ (aA g a);obtain⟨cw,ak⟩:=nQ (dE ⟨z0,z1,z2⟩ ⟨n0,n1,n2⟩);obtain⟨ai,s1,s2⟩:=cw;rw[show(dE {x:=z0,y:=z1,z:=z2} {x:=n0,y:=n1,z:=n2}).val=cR #[ai,s1,s2] by rw[ak.out];rfl];go_wp2_with fail;go_roundw;case rel=>
      refine⟨j+1,mZ,oZ,?_,zW ba bt _ ⟨ai,s1,s2⟩⟩;rw[af.out,Y.out,ak.out];exact bg.set i ⟨ai,s1,s2⟩
     case measure=>simp[intOf];omega
    .have Y:Hid (eR dE ⟨n0,n1,n2⟩ m h=m):=qZ (by unfold eR;rw[aF (by rw[bv];exact F)]);have o:=qZ f;have g:=qZ d;by_cases u:0<=h
     .have a8:decide ((0:Int)<=h)=cW:=by simpa using u
      have cu:decide (h<(M:Int))=cI:=by simp;omega
      go_wp2_with fail;go_roundw;exact⟨j+1,mZ,oZ,by rw[af.out,Y.out];exact o,g⟩;simp[intOf];omega
     .have a8:decide ((0:Int)<=h)=cI:=by simpa using u
      go_wp2_with fail;go_roundw;exact⟨j+1,mZ,oZ,by rw[af.out,Y.out];exact o,g⟩;simp[intOf];omega
   .have o:=qY (iV b (w1:Nat) (ac H M c5) (eW hs (asks rs) (n+1))) (by rw[ae.out];rwa [aU (by rw[ab.out];omega)]at f);have g:=qZ d;go_wp2_with fail;go_roundw;exact⟨n+1,mZ,oZ,o,g⟩;simp[intOf];omega
  .have bd:=qY (agQ (fv hs (asks rs)) w1 (cN (ac H M c5)) wr) (⟨_,rfl,by rw[<-Hst.SY hs (asks rs) n (by rw[wP,aa.out];omega)];exact f,d⟩);go_wp2_with fail;go_ret;exact bd
end bO
namespace L
open Go.RowKit Go.MapKept
theorem aez{α:Type}[DecidableEq α]{P:fo}{kt:fe}{enc:α->cP}(d:∀(a b:α) (w:cG),(Op.equal kt (enc a) (enc b)).run P w=.ok (decide (a=b)) w)(a:α):∀(c:List MapEntry) (l:List (α×cP)) (i:Nat) (w:cG),c.map (λe=>(e.key,e.val))=l.map (λp=>(enc p.1,p.2))->(Instr.findAsking kt (enc a) c i).run P w=.ok (qI a l i) w
 |[],[],i,w,_=>by simp[Instr.findAsking,qI]
 |[],p::l,i,w,h=>by simp at h
 |e::c,[],i,w,h=>by simp at h
 |e::c,p::l,i,w,h=>by
  simp only[dG,dJ,Prod.mk.injEq]at h;obtain⟨⟨g,hv⟩,j⟩:=h;have k:=aez d a c l (i+1) w j;unfold Instr.findAsking qI;rw[g,hv];by_cases f:a=p.1
  .simp[d,f]
  .simp[d,f,k]
end L
namespace bO
open Go.RowKit L
def uS(p:fq):cP:=cR #[p.flavor,p.block,p.zM,p.host]
section
variable (a0 a1 a2 a3 b0 b1 b2 b3:Int) (w:cG)
theorem ais:(e8 3 #[cX cA a0,a1,a2,a3] 0).run cJ w=.ok a0 w:=by kernel_rfl
theorem air:(e8 3 #[cX cA a0,a1,a2,a3] 1).run cJ w=.ok a1 w:=by kernel_rfl
theorem aiq:(e8 3 #[cX cA a0,a1,a2,a3] 2).run cJ w=.ok a2 w:=by kernel_rfl
theorem aip:(e8 3 #[cX cA a0,a1,a2,a3] 3).run cJ w=.ok a3 w:=by kernel_rfl
theorem aoD:(ep 10000 236 (cR #[a0,a1,a2,a3]) (cR #[b0,b1,b2,b3])).run cJ w=.ok ((a0==b0)&&((a1==b1)&&((a2==b2)&&(a3==b3)))) w:=by have c:prog.underlying 236=cD (.struct (prog.fieldsOf 236)):=kZ;have d:prog.stoodInHeld 236=cI:=kZ;rw[show(10000:Nat)=9999+1 from rfl,run_equalIn_agg w 9999 236 _ _ c d];simp only[Program.fieldsOf,underlying236];have e:=λa b w=>TQ 9998 a b w;simp only[Op.eqFields,ais,air,aiq,aip,e,Sem.run_bind,eN,Sem.run_pure,Sem.run_ite];have n1:("flavor" :String)≠ "_" :=dZ;have n2:("block" :String)≠ "_" :=dZ;have f:("rack" :String)≠ "_" :=dZ;have g:("host" :String)≠ "_" :=dZ;simp only[n1,n2,f,g,ne_eq,not_false_eq_true,if_true];generalize(a0==b0)=i;generalize(a1==b1)=j;generalize(a2==b2)=k;generalize(a3==b3)=l;cases i<;>cases j<;>cases k<;>cases l<;>rfl
end
theorem YC:MQ cJ 236 uS where
 chk em a w:=by
  have g:=underlying236;have f:prog.underlying 3=cD (.int cA):=kZ;have i:∀n (x:Int) (w:cG),(Instr.checkKey em (n+1) 3 x).run cJ w=.ok () w:=λn x w=>by simp[Instr.checkKey,run_underlying f]
  unfold uS;rw[show(10000:Nat)=9998+1+1 from rfl];unfold Instr.checkKey;simp[run_underlying g,ais,air,aiq,aip,i]
 find a es l w h:=by rw[run_findKey_eq w (by rw[underlying236]) (uS a) es];refine aez (λx y w=>?_) a es l 0 w h;unfold uS Op.equal Op.maxDepth;rw[aoD];congr 1;obtain⟨x0,j,k,m⟩:=x;obtain⟨o,p,r,s⟩:=y;by_cases b:x0=o<;>by_cases c:j=p<;>by_cases d:k=r<;>by_cases e:m=s<;>simp[b,c,d,e]
 same a:=by simp[Instr.sameBits,uS]
open Go.RowKit L
def hagg(h:iI):cP:=cR #[h.flavor,h.block,h.zM,h.cap.x,h.cap.y,h.cap.z]
theorem gof(h:iI)(i aP:Int):eP cJ 183 #[hagg h,i,aP] (uS (eA h i aP)):=by
 intro w;obtain⟨a,b,c,⟨g,j,k⟩⟩:=h;unfold hagg;go_enter func183,ntmps183;by_cases e:0<aP
 .have n:decide ((0:Int)<aP)=cW:=by simpa using e
  by_cases d:1<aP
  .have m:decide ((1:Int)<aP)=cW:=by simpa using d
   by_cases f:2<aP
   .have l:decide ((2:Int)<aP)=cW:=by simpa using f
    have hv:uS (eA ⟨a,b,c,⟨g,j,k⟩⟩ i aP)=cR #[a,(),(),()]:=by simp[uS,eA,e,d,f]
    rw[hv];go_wp2_with fail;exact cU (v:=cR #[a,(),(),()]) (by simp[results,eE,go_sem]) rfl ⟨rfl,kp⟩
   .have l:decide ((2:Int)<aP)=cI:=by simpa using f
    have hv:uS (eA ⟨a,b,c,⟨g,j,k⟩⟩ i aP)=cR #[a,b,(),()]:=by simp[uS,eA,e,d,f]
    rw[hv];go_wp2_with fail;exact cU (v:=cR #[a,b,(),()]) (by simp[results,eE,go_sem]) rfl ⟨rfl,kp⟩
  .have m:decide ((1:Int)<aP)=cI:=by simpa using d
   have l:decide ((2:Int)<aP)=cI:=by simp;omega
   have hv:uS (eA ⟨a,b,c,⟨g,j,k⟩⟩ i aP)=cR #[a,b,c,()]:=by simp[uS,eA,e,d];omega
   rw[hv];go_wp2_with fail;exact cU (v:=cR #[a,b,c,()]) (by simp[results,eE,go_sem]) rfl ⟨rfl,kp⟩
 .have n:decide ((0:Int)<aP)=cI:=by simpa using e
  have m:decide ((1:Int)<aP)=cI:=by simp;omega
  have l:decide ((2:Int)<aP)=cI:=by simp;omega
  have hv:uS (eA ⟨a,b,c,⟨g,j,k⟩⟩ i aP)=cR #[a,b,c,i]:=by have d:¬1<aP:=oZ;have f:¬2<aP:=oZ;simp[uS,eA,e,d,f]
  rw[hv];go_wp2_with fail;exact cU (v:=cR #[a,b,c,i]) (by simp[results,eE,go_sem]) rfl ⟨rfl,kp⟩
end bO
variable{H:List Nat}{j:Nat}{x:cP}
namespace bO
open Go.RowKit L
theorem sJ{B:Nat}{E:fe}{xs:List cP}(h:fE w B E v xs)(a:v.ownBlock=cD g):∃cur,w.heap[g]? =cD (cF cur E (0,0)):=by
 rcases h.2 with⟨rfl,_⟩|⟨c,cap,cur,rfl,d,b,_⟩
 .cases a
 .cases a;exact⟨cur,b⟩
def kT(w:cG)(B:Nat)(v:cP)(gs:List (List Nat)):Prop:=∃vs:List cP,vs.length=gs.length/\fE w B 36 v vs/\(∀(i:Nat) (x:cP) (l:List Nat),vs[i]? =cD x->gs[i]? =cD l->mI w B x l)/\(∀(i j:Nat) (x y:cP) (g:Nat),vs[i]? =cD x->vs[j]? =cD y->x.ownBlock=cD g->y.ownBlock=cD g->i=j)
theorem kT.nil(w:cG)(B:Nat):kT w B (ac cL 0 0) []:=⟨[],rfl,fE.nil _ _ _,λi x l h=>by simp at h,λi j x y g h=>by simp at h⟩
theorem kT.bA{B:Nat}{gs:List (List Nat)}(h:kT w B v gs)(k:aL F w w')(e:∀g cur E,B<=g->w.heap[g]? =cD (cF cur E (0,0))->¬F g):kT w' B v gs:=by
 obtain⟨vs,f,j,hi,d⟩:=h;have b:∀{E:fe} {u:cP} {xs:List cP},fE w B E u xs->fE w' B E u xs:=λ{E u xs} r=>r.bA λg a=>by obtain⟨cur,c⟩:=sJ r a;exact k.block g (r.lt g a).2 (e g cur E (r.lt g a).1 c)
 exact⟨vs,f,b j,λi x l m a=>b (hi i x l m a),d⟩
theorem kT.below{B:Nat}{gs:List (List Nat)}(h:kT w B v gs)(k:cE w w w'):kT w' B v gs:=
 h.bA (F:=λ_=>False) (aL.bQ k) (λ_ _ _ _ _ f=>f)
theorem kT.low{B:Nat}{gs:List (List Nat)}(h:kT w B v gs)(a:B'<=B):kT w B' v gs:=by obtain⟨vs,d,e,hi,b⟩:=h;exact⟨vs,d,e.low a,λi x l f c=>fE.low (hi i x l f c) a,b⟩
theorem kT.form{B:Nat}{gs:List (List Nat)}(h:kT w B v gs):∃A c,v=ac A gs.length c/\(0<gs.length->∃g,A=cD ⟨g,0,cL⟩):=by
 obtain⟨vs,a,b,_⟩:=h;rcases b.2 with⟨rfl,d⟩|⟨g,cap,cur,rfl,e,i,f⟩
 .exact⟨cL,0,by rw[<-a,d],λh=>oZ⟩
 .exact⟨_,_,by rw[<-a],λ_=>⟨g,rfl⟩⟩
theorem kT.dR{B c:Nat}{gs:List (List Nat)}(h:kT w B (ac g n c) gs)(hi:i<gs.length):B<=g/\g<(w:Nat)/\w.frozen? (g,i)=cI/\∃x,w.cell? (g,i)=cD x/\mI w B x gs[i]/\x.ownBlock≠cD g:=by
 obtain⟨vs,s,a,m,r⟩:=h;have f:i<vs.length:=oZ;have j:=a.lt g rfl;have o:n=vs.length:=by
  rcases a.2 with⟨e,u⟩|⟨p,cap,cur,e,_⟩
  .cases e
  .cases e;rfl
 have d:=m i vs[i] gs[i] (aH f) (aH hi);refine⟨j.1,j.2,?_,vs[i],?_,d,λe=>?_⟩
 .subst o;exact World.ownsRow.frozenAt a i
 .have:=et a (g:=g) rfl i vs[i] (aH f);rwa [addr_add]at this
 .obtain⟨c1,k⟩:=sJ a (g:=g) rfl;obtain⟨c2,b⟩:=sJ d e;rw[k]at b;injection b with b;injection b with _ l _;exact absurd l dZ
theorem kT.set{B c:Nat}{gs:List (List Nat)}(h:kT w B (ac g n c) gs)(hi:i<gs.length)(Q:w.cell? (g,i)=cD x)(Z:aL (λk=>x.ownBlock=cD k) w w')(X:mI w' B v H)(ad:∀k,v.ownBlock=cD k->x.ownBlock=cD k\/(w:Nat)<=k):kT (w'.setCell (g,i) v) B (ac g n c) (gs.set i H):=by
 obtain⟨_,_,_,x0,M,ao,aj⟩:=h.dR hi;rw[Q]at M;injection M with M;subst M;obtain⟨vs,aa,F,Y,L⟩:=h;have m:i<vs.length:=oZ;have ap:=F.lt g rfl;have ak:n=vs.length:=by
  rcases F.2 with⟨e,Q⟩|⟨an,cap,cur,e,_⟩
  .cases e
  .cases e;rfl
 subst ak;have T:vs[i]=x:=by have:=et F (g:=g) rfl i vs[i] (aH m);rw[addr_add,Q]at this;injection this with this;exact this.symm
 have ae:fE w' B 36 (ac g vs.length c) vs:=F.bA λk p=>Z.block k (F.lt k p).2 (λe=>by cases p;exact aj e);have al:=en ae i v;have am:v.ownBlock≠cD g:=λe=>by obtain⟨c1,N⟩:=sJ ae (g:=g) rfl;obtain⟨c2,d⟩:=sJ X e;rw[N]at d;injection d with d;injection d with _ O _;exact absurd O dZ
 have af:∀{E:fe} {u:cP} {xs:List cP},fE w' B E u xs->u.ownBlock≠cD g->fE (w'.setCell (g,i) v) B E u xs:=λ{E u xs} r ai=>r.bA λk p=>
  Below.heap_setCell w' ⟨g,i,cL⟩ v k (λe=>ai (by rw[p,e]))
 refine⟨vs.set i v,by simp[aa],by unfold fE;rw[fu];exact al.1,λj y l a A=>?_,λj I y W b a f s K=>?_⟩
 .by_cases o:j=i
  .subst o;rw[jW m]at a;rw[jW hi]at A;injection a with a;injection A with A;subst a A;exact af X am
  .rw[kI (Ne.symm o)]at a A;have r:=Y j y l a A;refine af (r.bA λk p=>Z.block k (r.lt k p).2 λe=>o ?_) (λe=>?_)
   .exact L j i y x k a (by rw[aH m,T]) p e
   .obtain⟨c1,N⟩:=sJ F (g:=g) rfl;obtain⟨c2,d⟩:=sJ r e;rw[N]at d;injection d with d;injection d with _ O _;exact absurd O dZ
 .have ab:∀(k:Nat) (z:cP),vs[k]? =cD z->z.ownBlock=cD b->b<(w:Nat):=λk z ag s=>by
   have ah:k<gs.length:=by rw[<-aa];exact(bF.1 ag).1
   exact(fE.lt (Y k z gs[k] ag (aH ah)) b s).2
  by_cases o:j=i
  .by_cases J:I=i
   .rw[o,J]
   .subst o;rw[jW m]at a;rw[kI (Ne.symm J)]at f;injection a with a;subst a;rcases ad b s with e|e
    .exact L j I x W b (by rw[aH m,T]) f e K
    .exact absurd (ab I W f K) oZ
  .rw[kI (Ne.symm o)]at a;by_cases J:I=i
   .subst J;rw[jW m]at f;injection f with f;subst f;rcases ad b K with e|e
    .exact L j I y x b a (by rw[aH m,T]) s e
    .exact absurd (ab j y a s) oZ
   .rw[kI (Ne.symm J)]at f;exact L j I y W b a f s K
theorem akY:(prog.info? 36).map (λi=>(i.zero,i.size,i.bytes))=cD (cD (ac cL 0 0),1,24):=by kernel_rfl
theorem YU{B:Nat}{gs:List (List Nat)}(h:kT w0 B v gs)(J:cE w0 w0 w)(Z:B<=(w:Nat)){l:List Nat}(X:mI w B x l)(ab:∀g,x.ownBlock=cD g->(w0:Nat)<=g)(ao:gs.length<=1048576):∃v' w',(cV #[136,136] 136 #[v,ac w 1 1]).run cJ (w.alloc (cF #[x] 36))=.ok v' w'/\kT w' B v' (gs++[l])/\aL (λk=>v.ownBlock=cD k) w w':=by
 obtain⟨i0,hi,ak,al,am⟩:=er akY;obtain⟨vs,H,ah,N,aa⟩:=h;have W:=ah.below J;have ae:∀(i:Nat) (x:cP) (l:List Nat),vs[i]? =cD x->gs[i]? =cD l->mI w B x l:=λi x l n f=>fE.below (N i x l n f) J;have L:∀g,x.ownBlock=cD g->∀(i:Nat) (y:cP),vs[i]? =cD y->y.ownBlock≠cD g:=λg s i y a e=>by
  have af:i<gs.length:=by rw[<-H];exact(bF.1 a).1
  have:=(fE.lt (N i y gs[i] a (aH af)) g e).2;have:=ab g s;omega
 obtain⟨A,c,rfl,_⟩:=fE.form X;obtain⟨v',w',ai,ag,s,ap⟩:=IZ (P:=cJ) 136 136 36 i0 _ 24 underlying136 hi ak al am rfl W Z (ac A (ival l).length c) rfl oZ oZ;have O:aL (λk=>v.ownBlock=cD k) w w':=((aL.refl _ w).alloc _).trans (aL.jX s λi e=>e);have T:∀{u:cP} {xs:List cP},fE w B 3 u xs->fE w' B 3 u xs:=λ{u xs} r=>r.bA λg M=>O.block g (r.lt g M).2 (λe=>by obtain⟨c1,n⟩:=sJ W e;obtain⟨c2,f⟩:=sJ r M;rw[n]at f;injection f with f;injection f with _ Y _;exact absurd Y dZ);refine⟨v',w',ai,⟨vs++[ac A (ival l).length c],by simp[H],ag,λi y an a m=>?_,λi j y I b a aj o p=>?_⟩,O⟩
 .by_cases ad:i<vs.length
  .rw[cO ad]at a;rw[cO oZ]at m;exact T (ae i y an a m)
  .have F:i=vs.length:=by have:=(bF.1 a).1;simp at this;omega
   subst F;rw[List.getElem?_concat_length]at a;rw[H,List.getElem?_concat_length]at m;injection a with a;injection m with m;subst a m;exact T X
 .have K:∀(k:Nat) (z:cP),(vs++[Value.slice A (ival l).length c])[k]? =cD z->vs[k]? =cD z/\k<vs.length\/k=vs.length/\z=ac A (ival l).length c:=λk z d=>by
   by_cases Q:k<vs.length
   .rw[cO Q]at d;exact .inl ⟨d,Q⟩
   .have F:k=vs.length:=by have:=(bF.1 d).1;simp at this;omega
    subst F;rw[List.getElem?_concat_length]at d;injection d with d;exact .inr ⟨rfl,d.symm⟩
  rcases K i y a with⟨a1,a2⟩|⟨a1,a2⟩<;>rcases K j I aj with⟨b1,b2⟩|⟨b1,b2⟩
  .exact aa i j y I b a1 b1 o p
  .subst b2;exact absurd o (L b p i y a1)
  .subst a2;exact absurd p (L b o j I b1)
  .rw[a1,b1]
def CF(w:cG)(B b:Nat):Prop:=B<=b/\∃cur E,w.heap[b]? =cD (cF cur E (0,0))
theorem CF.abC{B:Nat}{E:fe}{xs:List cP}(h:fE w B E v xs)(a:v.ownBlock=cD g):CF w B g:=by obtain⟨cur,b⟩:=sJ h a;exact⟨(h.lt g a).1,cur,E,b⟩
theorem CF.map{α:Type}[DecidableEq α]{B b:Nat}{enc:α->cP}{l:List (α×cP)}(h:oH w b enc l):¬CF w B b:=by rintro⟨_,cur,E,a⟩;obtain⟨e,c,d,_⟩:=h;rw[d]at a;cases a
theorem kT.cf{B:Nat}{gs:List (List Nat)}(h:kT w B v gs){b:Nat}(a:v.ownBlock=cD b):CF w B b:=by obtain⟨vs,_,r,_⟩:=h;exact CF.abC r a
theorem YT{B c:Nat}{gs:List (List Nat)}(h:kT w B (ac g n c) gs)(z:B<=(w:Nat))(v:j<gs.length)(k:Nat)(I:gs[j].length<=1048576):∃x d w',w.cell? (g,j)=cD x/\(cV #[36,36] 36 #[x,ac w 1 1]).run cJ (w.alloc (cF #[(k:Int)] 3))=.ok d w'/\w'.cell? (g,j)=cD x/\w'.frozen? (g,j)=cI/\kT (w'.setCell (g,j) d) B (ac g n c) (gs.set j (gs[j]++[k]))/\aL (CF w B) w (w'.setCell (g,j) d)/\(∃a m q,x=ac a m q)/\(∃a m q,d=ac a m q)/\g<(w:Nat)/\n=gs.length:=by
 obtain⟨T,y,A,x,r,f,L⟩:=h.dR v;obtain⟨d,w',N,s,F,K⟩:=AL f z k I;have l:aL (λb=>x.ownBlock=cD b) w w':=((aL.refl _ w).alloc _).trans (aL.jX F λi e=>e);have u:w'.heap[g]? =w.heap[g]? :=l.block g y L;have O:=h.set v r l s K;have H:CF w B g:=by obtain⟨vs,_,o,_⟩:=h;exact CF.abC o (g:=g) rfl
 have M:n=gs.length:=by
  obtain⟨vs,J,o,_⟩:=h;rcases o.2 with⟨e,_⟩|⟨Q,cap,cur,e,_⟩
  .cases e
  .cases e;exact J
 obtain⟨a1,c1,e1,_⟩:=fE.form f;obtain⟨a2,c2,e2,_⟩:=fE.form s;exact⟨x,d,w',r,N,(World.cell?_of_block (a:=⟨g,j,cL⟩) u).trans r,(World.frozen?_of_block (a:=⟨g,j,cL⟩) u).trans A,O,(l.mono λi _ e=>CF.abC f e).setCell (p:=⟨g,j,cL⟩) (.inl H) d,⟨_,_,_,e1⟩,⟨_,_,_,e2⟩,y,M⟩
def KM(l:List Int):List cP:=l.map λn=>cX cA n
def amT(w:cG)(B:Nat)(v:cP)(l:List Int):Prop:=fE w B 3 v (KM l)
theorem adw(l:List Int):(KM l).length=l.length:=by simp[KM]
theorem aiL(w:cG)(n:Nat)(m:n<=1048576):∃w',(Instr.makeSlice 36 (cC cA (n:Int)) (cC cA (n:Int))).run cJ w=.ok (ac w n n) w'/\amT w' (w:Nat) (ac w n n) (ee n 0)/\cE w w w'/\(w:Nat)<(w':Nat):=by
 obtain⟨i0,hi,g,k,l⟩:=er xO;obtain⟨w',f,d,c⟩:=run_makeSlice_full (P:=cJ) w (w:Nat) 36 3 i0 _ 1 eS hi g k cA cA n oZ (by rw[l];omega) (by unfold dT;omega) lZ;have a:amT w' (w:Nat) (ac w n n) (ee n 0):=by
  unfold amT fE;rw[adw,gY];have e:KM (ee n 0)=(eQ #[cX cA 0] (n*1)).toList:=by
   apply fP;intro j;by_cases b:j<n
   .simp[KM,eQ,b,Nat.mod_one]
   .simp[KM,eQ,b]
  rw[e];exact d
 exact⟨w',f,a,(aL.jX (F:=λ_=>False) c (λi e=>by cases e)).below lZ λi h=>h.elim,(fE.lt a _ rfl).2⟩
def agT(gs:List (List Nat))(w:cG)(e:fy)(w':cG):Prop:=∃v,e=cN v/\kT w' (w:Nat) v gs/\cE w w w'
def alp(o:Option Nat):Option cP:=o.map λ(j:Nat)=>cX cA (j:Int)
def Index(g:gi)(l:List (fq×cP)):Prop:=∀p,mJ p l=alp (Hst.idx p g)
theorem aiV:Index [] []:=λp=>rfl
theorem index_none{g:gi}{l:List (fq×cP)}(h:Index g l){p:fq}(a:Hst.idx p g=cL):Index (fr p i g) (lH p (cC cA (g.length:Int)) l):=λq=>by rw[CJ,Hst.BO a,h q];split<;>rfl
theorem afT{g:gi}{l:List (fq×cP)}(h:Index g l){p:fq}(a:Hst.idx p g=cD k):Index (fr p i g) l:=λq=>by rw[Hst.BN a,h q]
theorem amd:∀w:cG,(zeroValue 3).run cJ w=.ok (cC cA 0) w:=λw=>by obtain⟨i0,hi,a,_,_⟩:=er xO;simp[zeroValue,typeInfo,hi,a]
theorem afZ(y:bW w v c)(aP:Int)(co:c.aR.length<=1000000):∀w1,cE w w w1->dC cJ 118 #[v,aP] w1 λe w'=>agT (eJ c.aR aP) w1 e w':=by
 intro w1 b7;replace y:=y.below b7;obtain⟨v1,v2,rfl,⟨A,ca,rfl,dr,dk⟩,⟨B,ag,rfl,cs,dl⟩⟩:=id y;generalize c.aN.length=N at*;obtain⟨aG,bt⟩:=nQ c.aG;obtain⟨aJ,bs⟩:=nQ c.aJ;rw[bt.out,bs.out];generalize c.aR=hs at*;obtain⟨M,ad⟩:=nQ hs.length;rw[ad.out]at co⊢;have bn:=qZ cs;obtain⟨T,W⟩:=nQ (eJ hs aP);rw[W.out];have cb:=gM.new w1 (ac A N ca) (ac B M ag) aG aJ;have Z:cE w1 w1 (w1.alloc (cF #[ac A N ca,ac B M ag,aG,aJ] 26)):=bZ;have dq:= @run_makeMap cJ;go_enter func118,ntmps118;by_cases be:aP<0
 .have c0:decide (aP<(0:Int))=cW:=by simpa using be
  have J:=qY (T=[]) (by rw[<-W.out];unfold eJ ff;rw[aF (by simp;omega)]);go_wp2_with fail;go_ret;exact⟨_,rfl,by rw[J.out];exact kT.nil _ _,Z⟩
 .have c0:decide (aP<(0:Int))=cI:=by simpa using be
  by_cases ba:3<aP
  .have da:decide ((3:Int)<aP)=cW:=by simpa using ba
   have J:=qY (T=[]) (by rw[<-W.out];unfold eJ ff;rw[aF (by simp;omega)]);go_wp2_with fail;go_ret;exact⟨_,rfl,by rw[J.out];exact kT.nil _ _,Z⟩
  .have da:decide ((3:Int)<aP)=cI:=by simpa using ba
   have J:=qY (T=cS (ef hs aP M)) (by rw[<-W.out];unfold eJ ff;rw[aI (by simp;omega),ad.out];rfl);generalize dv:w1.alloc (cF #[ac A N ca,ac B M ag,aG,aJ] 26)=Q at*;have b6:=qZ (oH.new Q uS);have b9:cE w1 w1 (Q.alloc (.map #[] 0)):=Z.alloc Z.size _;have bo:=qZ b9;obtain⟨cv,x0,dy,dz,d0⟩:=cb;go_wp2_with fail;have dp:(w1:Nat)<=(Q:Nat):=Nat.le_of_lt cv;generalize du:Q.alloc (.map #[] 0)=wm at*;generalize(Q:Nat)=mb at*;go_loopw [5,22] (λo i wr=>∃k:Nat,i=cC cA (k:Int)/\k<=M/\kT wr (w1:Nat) o (cS (ef hs aP k))/\(∃L,oH wr mb uS L/\Index (ef hs aP k) L)/\cE w1 w1 wr) (λ_ i _=>M-(intOf i).toNat);exact⟨0,rfl,oZ,kT.nil _ _,⟨[],b6.out,aiV⟩,bo⟩
   obtain⟨k,rfl,dj,bg,⟨L,b5,ck⟩,X⟩:=hrel;by_cases cn:k<M
   .have bd:k<hs.length:=by rw[ad.out];exact cn
    obtain⟨de,dw,rfl,dn,ce⟩:=qX bn bd;obtain⟨cx,p1,p2,p3,p4,cy⟩:=ce wr X;have cm:el hs aP k=eA hs[k] (k:Int) aP:=by unfold el Hst.dR;rw[aV,aH bd,cY]
    have m:=qY (ef hs aP (k+1)=fr (eA hs[k] (k:Int) aP) k (ef hs aP k)) (by rw[<-cm];rfl);have aq:=gof hs[k] (k:Int) aP;have ct:=qZ (λ(j:Nat) (h:j<(cS (ef hs aP k)).length)=>Hst.XP hs aP k h);have ci:=qZ (Hst.SX hs aP k);generalize eA hs[k] (k:Int) aP=P at*;generalize hs[k]=h at*;generalize ef hs aP k=g at*;obtain⟨bv,bw,bz,⟨b0,b1,b2⟩⟩:=h;obtain⟨p,r,s,u⟩:=P;simp only at cx p1 p2 p3 p4 cy;replace aq:eP cJ 183 #[cR #[bv,bw,bz,b0,b1,b2],(k:Int),aP] (cR #[p,r,s,u]):=aq;have bp:=qZ aq;have bq:=qZ b5;have ae:=qZ ck;have az:=qZ bg;have br:=qZ X;have ds:(w1:Nat)<=(wr:Nat):=X.size;go_wp2_with fail;refine(bp _).mono ?_;rintro e f⟨rfl,b8⟩;have a9:cE wr wr f:=aA kp b8;have b4:cE w1 w1 f:=aA br a9;have F:=qZ (aC a9 b4);have Y:cE f f (f.alloc (cF #[p,r,s,u] 236)):=bZ;have dt:(f.alloc (cF #[p,r,s,u] 236)).heap.size=(f:Nat)+1:=sZ;have bi:=aA F.1 Y;have H:=bq.on bi;obtain⟨O,_⟩:=H.look YC underlying234 amd ⟨p,r,s,u⟩;rw[ae.out]at O;obtain⟨bm,c5,rfl,bh⟩:=az.form;have ak:=az.below bi;rw[e0]at ak bh⊢;obtain⟨n,d⟩:=nZ g.length;have dh:(w1:Nat)<=(f:Nat)+1:=by have:=F.2.size;omega
    cases z:Hst.idx ⟨p,r,s,u⟩ g with
    |none=>
     rw[z]at O;obtain⟨bj,bf,a0,bb⟩:=H.put YC underlying234 ⟨p,r,s,u⟩ (cC cA (g.length:Int));have al:=ak.bA bb (λb cur E _ y e=>by subst e;obtain⟨dg,df,cj,_⟩:=H;rw[cj]at y;cases y);have an:cE w1 w1 bj:=(aA F.2 Y).trans (bb.below (aA F.2 Y).size λi e=>oZ);have aa:=qZ (index_none (i:=k) ae z);have aw:=qZ (Hst.ahX (i:=k) z);have au:(cS g).length=n:=by rw[e0,d]
     obtain⟨dx,db,av,a8,bc⟩:=YU (x:=ac cL 0 0) (l:=[]) al (aK _ _) an.size (fE.nil _ _ _) (λg e=>by cases e) (by rw[au,<-d];have:=ci.out;omega);have ao:=an.trans (bc.below an.size λi e=>(al.cf e).1);have a5:=a0.bA bc (λe=>CF.map a0 (al.cf e));obtain⟨dc,c6,rfl,cu⟩:=a8.form;obtain⟨G,rfl⟩:=cu sZ;have cl:n<(cS g++[[]]).length:=by simp;omega
     obtain⟨x,bl,bk,cc,ab,cd,cg,I,K,⟨af,ax,ay,ah⟩,⟨bu,cw,cz,ai⟩,b3,cr⟩:=YT a8 ao.size cl k (by rw[List.getElem_append_right oZ];simp);have cq:(cS g++[[]])[n]=[]:=by rw[List.getElem_append_right oZ];simp
     rw[cq]at I;have aj:=a5.bA K (λe=>CF.map a5 e);have ap:=ao.trans (K.below ao.size λi e=>e.1);have ch:kT (bk.setCell (G,n) bl) (w1:Nat) (ac G (cS g++[[]]).length c6) (cS (ef hs aP (k+1))):=by rw[m.out,aw.out];rw[show(cS g).length=n from au];exact I
     have a:=qZ (aC ch (aC ap (aC aj aa.out)));rw[aW,List.length_singleton,e0]at av a;have dm:(cS g++[[]]).length=n+1:=by simp[au]
     subst ah ai;rw[d]at bf av a⊢;simp only[uS,alp,Option.map_none,Option.getD_none,Option.isSome_none]at O bf;have cp:(cS g).length=n:=by rw[e0,d]
     have dd:=qZ cp;clear d;go_wp2_with(at_builtin;refine cK rfl (.tmp 44) (.tmp 45) _ _ rfl (ac bm n c5) (ac bj 1 1) rfl rfl av ?_;go_wp2_with(at_builtin;refine cK rfl (.tmp 52) (.tmp 54) _ _ rfl (ac af ax ay) (ac db 1 1) rfl rfl ab ?_));go_roundw;exact⟨k+1,mZ,oZ,a.1,⟨_,a.2.2.1,by rw[m.out];exact a.2.2.2⟩,a.2.1⟩;simp[intOf];omega
    |some j=>
     rw[z]at O;have am:=aA F.2 Y;obtain⟨ar,aw⟩:=Hst.XO (i:=k) z;have aa:=qZ (afT (i:=k) ae z);have di:j<n:=by rw[<-d,<-e0];exact ar
     obtain⟨G,rfl⟩:=bh (by rw[d];omega);obtain⟨x,bl,bk,cc,ab,cd,cg,I,K,⟨af,ax,ay,ah⟩,⟨bu,cw,cz,ai⟩,b3,cr⟩:=YT ak am.size ar k (by have:=ct.out j ar;omega);have aj:=H.bA K (λe=>CF.map H e);have ap:=am.trans (K.below am.size λi e=>e.1);rw[<-aw,<-m.out]at I;rw[<-m.out]at aa;have a:=qZ (aC I (aC ap (aC aj aa.out)));subst ah ai;rw[d]at a⊢;simp only[uS,alp,Option.map_some,cY,Option.isSome_some]at O;simp only[aT]at ab;clear d;go_wp2_with(at_builtin;refine cK rfl (.tmp 52) (.tmp 54) _ _ rfl (ac af ax ay) (ac (cD ⟨(f:Nat)+1,0,cL⟩) 1 1) rfl rfl ab ?_);go_roundw;exact⟨k+1,mZ,oZ,a.1,⟨_,a.2.2.1,a.2.2.2⟩,a.2.1⟩;simp[intOf];omega
   .have m:=qY (agT T w1 (cN u5) wr) (⟨u5,rfl,by rw[J.out,show M=k by omega];exact bg,X⟩);go_wp2_with fail;go_ret;exact m
open Go.WideShapes
section
variable {H:Type} {enc:fe×cP->H} {w:cG} {base:Nat} {kE:Nat->Bool} {held:Bool}
theorem aov{n:Nat}{cs:List cP}{y:gh H×List fw}(h:eI enc cJ w base kE held n 42 cs=cD y):∃(a b c:Int) (v:cT) (d e f:Int),cs=[cC cA a,cC cA b,cC cA c,cC cA v.x,cC cA v.y,cC cA v.z,cC cA d,cC cA e,cC cA f]:=by
 obtain⟨xs,m,_,rfl,s,A,g⟩:=ey underlying42 h;have z:prog.cellsOf 42=9:=kZ;rw[z]at s
 match cs,s with
 |[a0,a1,a2,a3,a4,I,a6,a7,J],_=>
  match xs,A with
  |[x0,K,L,M,N,O,Q],_=>
   have i:=g 0 _ rfl;have j:=g 1 _ rfl;have k:=g 2 _ rfl;have l:=g 3 _ rfl;have o:=g 4 _ rfl;have p:=g 5 _ rfl;have r:=g 6 _ rfl;simp[MI,aap]at i j k l o p r;obtain⟨z0,u,_⟩:=pI i;obtain⟨z1,e1,_⟩:=pI j;obtain⟨z2,e2,_⟩:=pI k;obtain⟨F,e3,_⟩:=JX l;obtain⟨z4,e4,_⟩:=pI o;obtain⟨T,x,_⟩:=pI p;obtain⟨W,e6,_⟩:=pI r;cases u;cases e1;cases e2;cases e3;cases e4;cases x;cases e6;exact⟨_,_,_,F,_,_,_,rfl⟩
end
open Go.RowKit L
theorem amc(w:cG)(k:Nat):mI (w.alloc (cF #[(k:Int)] 3)) (w:Nat) (ac w 1 1) [k]:=by refine⟨rfl,.inr ⟨(w:Nat),1,#[(k:Int)],rfl,bG _,heap_alloc_new w _,bG _,by unfold dT;omega,rfl,rfl⟩⟩
theorem aiU{B:Nat}{l:List Nat}(h:mI w B x l)(s:l.length<=1000000)(k:Nat):∃v1 w1 v2 a,(cV #[36,36] 36 #[cW,x]).run cJ w=.ok v1 w1/\(cV #[36,36] 36 #[v1,ac w1 1 1]).run cJ (w1.alloc (cF #[(k:Int)] 3))=.ok v2 a/\mI a (w:Nat) v2 (l++[k])/\cE w w a/\aL (λ_=>False) w a/\mI w1 (w:Nat) v1 l:=by
 obtain⟨i0,hi,o,p,r⟩:=er xO;have u:(ival l).length=l.length:=by simp[ival]
 obtain⟨v1,w1,j,c,f,v⟩:=UG (P:=cJ) 36 36 3 i0 _ 8 eS hi o p r rfl (fE.nil w (w:Nat) _) h lZ (λy n=>by obtain⟨_,_,rfl⟩:=bU.1 n;rfl) (by simp;omega) (by simp;omega);rw[List.nil_append]at c;have b:cE w w w1:=(aK _ _).grown f lZ (λk d=>by cases d);obtain⟨v2,a,m,i,g,z⟩:=AL (l:=l) c b.size k oZ;have e:cE w w a:=(b.alloc b.size _).grown g (by have:=b.size;simp;omega) (λk d=>(c.lt k d).1);exact⟨v1,w1,v2,a,j,m,i,e,aL.bQ e,c⟩
theorem afY{B c:Nat}{gs:List (List Nat)}(h:kT w B (ac g n c) gs)(l:B<=(w:Nat))(u:j<gs.length)(k:Nat)(H:gs[j].length<=1000000):∃x v1 w1 v2 b,w.cell? (g,j)=cD x/\(cV #[36,36] 36 #[cW,x]).run cJ w=.ok v1 w1/\(cV #[36,36] 36 #[v1,ac w1 1 1]).run cJ (w1.alloc (cF #[(k:Int)] 3))=.ok v2 b/\b.cell? (g,j)=cD x/\b.frozen? (g,j)=cI/\kT (b.setCell (g,j) v2) B (ac g n c) (gs.set j (gs[j]++[k]))/\cE B w (b.setCell (g,j) v2)/\(∃a m q,x=ac a m q)/\(∃a m q,v1=ac a m q)/\(∃a m q,v2=ac a m q)/\g<(w:Nat)/\n=gs.length:=by
 obtain⟨y,v,z,x,f,o,T⟩:=h.dR u;obtain⟨v1,w1,v2,b,M,N,d,r,F,K⟩:=aiU o H k;have O:=h.set u f (F.mono λi _ e=>e.elim) (fE.low d l) (λk A=>.inr (d.lt k A).1);have s:b.heap[g]? =w.heap[g]? :=r.block g v;have J:n=gs.length:=by
  obtain⟨vs,I,L,_⟩:=h;rcases L.2 with⟨e,_⟩|⟨Q,cap,cur,e,_⟩
  .cases e
  .cases e;exact I
 obtain⟨a1,c1,e1,_⟩:=fE.form o;obtain⟨a2,c2,e2,_⟩:=fE.form d;obtain⟨a3,c3,e3,_⟩:=fE.form K;exact⟨x,v1,w1,v2,b,f,M,N,(World.cell?_of_block (a:=⟨g,j,cL⟩) s).trans f,(World.frozen?_of_block (a:=⟨g,j,cL⟩) s).trans z,O,(r.mono l).setCell (p:=⟨g,j,cL⟩) y _,⟨_,_,_,e1⟩,⟨_,_,_,e3⟩,⟨_,_,_,e2⟩,v,J⟩
theorem ajd{B c:Nat}{gs:List (List Nat)}(h:kT w B (ac g n c) gs)(l:j<gs.length){a:Nat}{t:List Nat}(o:gs[j]=a::t):B<=g/\g<(w:Nat)/\∃G m q,w.cell? (g,j)=cD (ac (cD ⟨G,0,cL⟩) (m+1) q)/\m=t.length/\G<(w:Nat)/\w.cell? ⟨G,0,cL⟩=cD (cC cA (a:Int)):=by obtain⟨e,p,u,x,r,b,v⟩:=h.dR l;rw[o]at b;obtain⟨A,c1,e1,k⟩:=mV b;obtain⟨G,d,s,i,f⟩:=k 0 a rfl;subst e1 d;exact⟨e,p,G,t.length,c1,r,rfl,i,f⟩
theorem akk(z:bW w v c)(aP:Int)(a b:Nat)(s:a<c.aR.length)(u:b<c.aR.length):fV cJ w 129 #[v,aP,(a:Int),(b:Int)] (ek (Hst.alike c.aR aP a b)):=by
 intro w1 ad;replace z:=z.below ad;obtain⟨v1,v2,rfl,⟨A,ca,rfl,a0,ay⟩,⟨B,p,rfl,X,W⟩⟩:=id z;unfold dT at W;generalize c.aN.length=N at*;obtain⟨aG,Z⟩:=nQ c.aG;obtain⟨aJ,Y⟩:=nQ c.aJ;rw[Z.out,Y.out];generalize c.aR=hs at*;have ab:Hst.dR hs a=hs[a]:=by unfold Hst.dR;rw[aV,aH s,cY]
 have ae:Hst.dR hs b=hs[b]:=by unfold Hst.dR;rw[aV,aH u,cY]
 obtain⟨R,e⟩:=nZ (Hst.alike hs aP a b);rw[e];unfold Hst.alike at e;rw[ab,ae]at e;obtain⟨M,O⟩:=nZ hs.length;obtain⟨m,H,rfl,az,Q⟩:=qX X s;obtain⟨ax,ba,r,_,T⟩:=qX X u;injection r with r;injection r with e1 e2 _;subst e1 e2;rw[O]at s u W⊢;generalize hs[a]=x at*;generalize hs[b]=y at*;obtain⟨x0,J,av,⟨bb,bc,bd⟩⟩:=x;obtain⟨j,K,aw,⟨be,bf,bg⟩⟩:=y;simp only at e Q T;clear O;have ag:=gM.new w1 (ac A N ca) (ac (cD ⟨m,H,cL⟩) M p) aG aJ;have af:cE w1 w1 (w1.alloc (cF #[ac A N ca,ac (cD ⟨m,H,cL⟩) M p,aG,aJ] 26)):=bZ;have L:=qZ (aC Q T);have g:=qZ (aC ag af);have k:=qZ e;clear e;go_enter func129,ntmps129;go_wp2_with fail;generalize a9:w1.alloc (cF #[ac A N ca,ac (cD ⟨m,H,cL⟩) M p,aG,aJ] 26)=o at*;obtain⟨-,aa,c1,c2,c3⟩:=g.out.1;obtain⟨ai,p1,p2,p3,p4,aj⟩:=L.out.1 o g.2;obtain⟨ak,al,am,an,ao,ap⟩:=L.out.2 o g.2;have l:=qZ g.2;have a5:(w1:Nat)<(o:Nat):=g.1.1;have a8:m<(o:Nat):=oZ
 go_region
 all_goals clear aa c1 c2 c3 ai p1 p2 p3 p4 aj ak al am an ao ap
 all_goals
  by_cases f:aP=0
  .have aq:(aP==(0:Int))=cW:=by simpa using f
   have d:=qY (R=((a:Int)==(b:Int))) (by rw[<-k.out,aI f,Bool.eq_iff_iff];simp;omega);go_wp2_with fail;go_ret;exact⟨by rw[d.out];rfl,aA l kp⟩
  .have aq:(aP==(0:Int))=cI:=by simpa using f
   by_cases i:aP=1
   .have ar:(aP==(1:Int))=cW:=by simpa using i
    have d:=qY (R=((x0==j)&&((J==K)&&(av==aw)))) (by rw[<-k.out,aF f,aI i]);obtain⟨I,F⟩:=nZ ((x0==j));obtain⟨s1,ah⟩:=nZ ((J==K));rw[F,ah]at d;cases I<;>cases s1<;>(go_wp2_with fail;go_ret;exact⟨by rw[d.out];simp,aA l kp⟩)
   .have ar:(aP==(1:Int))=cI:=by simpa using i
    by_cases n:aP=2
    .have au:(aP==(2:Int))=cW:=by simpa using n
     have d:=qY (R=((x0==j)&&(J==K))) (by rw[<-k.out,aF f,aF i,aI n]);obtain⟨I,F⟩:=nZ ((x0==j));rw[F]at d;cases I<;>(go_wp2_with fail;go_ret;exact⟨by rw[d.out];simp,aA l kp⟩)
    .have au:(aP==(2:Int))=cI:=by simpa using n
     have d:=qY (R=(x0==j)) (by rw[<-k.out,aF f,aF i,aF n]);go_wp2_with fail;go_ret;exact⟨by rw[d.out];rfl,aA l kp⟩
end bO
namespace Hst
open Go.Proofs.YtedmeglbjmdlhaaGreatDoor
theorem YS(p:mU):∀(g:G) (k:Nat) (a:k<g.length),(∀(j:Nat) (b:j<k),(g[j]'(Nat.lt_trans b a)).1≠p)->g[k].1=p->idx p g=cD k
 |[],k,a,_,_=>by simp at a
 |q::r,0,a,_,h=>by unfold idx;rw[aI (show p=q.1 from h.symm)]
 |q::r,k+1,a,c,h=>by unfold idx;rw[aF λe=>c 0 oZ e.symm,YS p r k (by simpa using a) (λj b=>c (j+1) oZ) h];rfl
theorem aiX(p:mU):∀(g:G),(∀(j:Nat) (a:j<g.length),g[j].1≠p)->idx p g=cL
 |[],_=>rfl
 |q::r,b=>by unfold idx;rw[aF λe=>b 0 sZ e.symm,aiX p r λj a=>b (j+1) (by simpa using a)];rfl
theorem akZ{p:mU}{g:G}(h:idx p g=cL):rows (qD p i g)=rows g++[[i]]:=by rw[tQ _ _ _ h];simp[rows]
end Hst
namespace bO
open Go.RowKit L
def aqu(hs:List iI)(aP:Int)(i:Nat)(g:gi)(B:Nat)(v:cP)(k:Nat)(d:Bool)(w:cG):Prop:=if d then(∃j,Hst.idx (el hs aP i) g=cD j)/\kT w B v (cS (fr (el hs aP i) i g))else(∀(j:Nat) (hj:j<g.length),j<k->g[j].1≠el hs aP i)/\kT w B v (cS g)
theorem adt(ad:bW w v c)(aP:Int)(cw:c.aR.length<=1000000):∀w1,cE w w w1->dC cJ 72 #[v,aP] w1 λe w'=>agT (eJ c.aR aP) w1 e w':=by
 intro w1 bd;replace ad:=ad.below bd;clear bd;have bi:=ad;obtain⟨v1,v2,rfl,⟨A,ca,rfl,dd,cu⟩,⟨B,X,rfl,de,cv⟩⟩:=ad;have Y:=qZ (λ(a b:Nat) (cq:a<c.aR.length) (z:b<c.aR.length)=>akk bi aP a b cq z);generalize c.aN.length=N at*;obtain⟨aG,bk⟩:=nZ c.aG;obtain⟨aJ,bc⟩:=nZ c.aJ;rw[bk,bc]at Y⊢;clear dd cu cv de bi bk bc;generalize c.aR=hs at*;obtain⟨M,am⟩:=nZ hs.length;have ah:=qZ am;rw[am]at cw Y⊢;obtain⟨O,al⟩:=nZ (eJ hs aP);have T:=qZ al;rw[al];clear am al;have ab:=gM.new w1 (ac A N ca) (ac B M X) aG aJ;have aa:cE w1 w1 (w1.alloc (cF #[ac A N ca,ac B M X,aG,aJ] 26)):=bZ;go_enter func72,ntmps72;by_cases L:aP<0
 .have dl:decide (aP<(0:Int))=cW:=by simpa using L
  have K:=qY (O=[]) (by rw[<-T.out];unfold eJ ff;rw[aF (by simp;omega)]);clear L ab;go_wp2_with fail;go_ret;exact⟨_,rfl,by rw[K.out];exact kT.nil _ _,aa⟩
 have dl:decide (aP<(0:Int))=cI:=by simpa using L
 by_cases ae:3<aP
 .have dm:decide ((3:Int)<aP)=cW:=by simpa using ae
  have K:=qY (O=[]) (by rw[<-T.out];unfold eJ ff;rw[aF (by simp;omega)]);clear L ae ab;go_wp2_with fail;go_ret;exact⟨_,rfl,by rw[K.out];exact kT.nil _ _,aa⟩
 have dm:decide ((3:Int)<aP)=cI:=by simpa using ae
 have bq:=qY (ff aP=cW) (by unfold ff;simp;omega);have K:=qY (O=cS (ef hs aP M)) (by rw[<-T.out];unfold eJ;rw[aI bq.out,ah.out];rfl);have cm:Hid (∀(h i:Nat),h<M->i<M->fV cJ w1 129 #[cR #[ac A N ca,ac B M X,aG,aJ],aP,(h:Int),(i:Int)] (ek (decide (el hs aP h=el hs aP i)))):=
  qZ (λh i cr hi=>by have:=Y.out h i cr hi;rwa [Hst.akj _ _ _ _ bq.out]at this)
 generalize df:w1.alloc (cF #[ac A N ca,ac B M X,aG,aJ] 26)=p at*;have a0:=qZ ab;have a8:=qZ aa;obtain⟨dx,x0,ax,ay,az⟩:=ab;clear L ae aa T Y;go_wp2_with fail;clear x0 ax ay az df;go_loopw [5,6] (λo i wr=>∃k:Nat,i=cC cA (k:Int)/\k<=M/\kT wr (p:Nat) o (cS (ef hs aP k))/\cE p p wr) (λ_ i _=>M-(intOf i).toNat);exact⟨0,rfl,oZ,kT.nil _ _,aK _ _⟩
 obtain⟨i,rfl,hi,f,z⟩:=hrel
 rename cG=>wr
 obtain⟨-,x0,ax,ay,az⟩:=a0.on z;by_cases bl:i<M
 .have cs:i<hs.length:=by rw[ah.out];exact bl
  have Q:=qY (ef hs aP (i+1)=fr (el hs aP i) i (ef hs aP i)) rfl;have b6:=qZ (λ(j:Nat) (h:j<(cS (ef hs aP i)).length)=>Hst.XP hs aP i h);have a9:=qZ (Hst.SX hs aP i);have b4:=qZ (Hst.PU hs aP i oZ);generalize ef hs aP i=g at*;obtain⟨I,c5,rfl,af⟩:=f.form;rw[e0]at f af⊢;obtain⟨n,ar⟩:=nZ g.length;rw[ar]at f af a9⊢;have aj:=qZ ar;have b8:=qZ af;have b7:=qZ f;have b1:=qZ z;have dw:n<=1000000:=by have:=a9.out;omega
  clear cs ar af f z x0 ay az;go_wp2_with fail;clear ax;go_loopw [7,8] (λd k bw=>∃(aw:Nat) (d':Bool),d=ek d'/\k=cC cA (aw:Int)/\aw<=n/\aqu hs aP i g (p:Nat) (ac I n c5) aw d' bw/\cE p p bw) (λ_ k _=>n-(intOf k).toNat);exact⟨0,cI,rfl,rfl,oZ,⟨λj _ h=>oZ,b7⟩,b1⟩
  obtain⟨k,d,rfl,rfl,dt,av,be⟩:=hrel
  rename cG=>s
  have r:=qZ be;clear be;cases d with
  |true=>
   have J:=qY (kT s (p:Nat) (ac I n c5) (cS (ef hs aP (i+1)))) (by have cn:kT s (p:Nat) (ac I n c5) (cS (fr (el hs aP i) i g)):=av.2;rw[Q.out];exact cn);clear av;by_cases bn:k<n;all_goals
    go_wp2_with fail;go_roundw;exact⟨i+1,mZ,oZ,J,r⟩;simp[intOf];omega
  |false=>
   obtain⟨bp,f⟩:(∀(j:Nat) (u:j<g.length),j<k->g[j].1≠el hs aP i)/\kT s (p:Nat) (ac I n c5) (cS g):=av;have ak:=qZ bp;clear bp;by_cases bn:k<n
   .have aq:k<g.length:=by rw[aj.out];exact bn
    have H:k<(cS g).length:=by rw[e0];exact aq
    obtain⟨h,bu,e1,e2,e3⟩:=b4.out g[k] (bD aq);have br:(cS g)[k]=h::bu:=by simp[cS,e1]
    obtain⟨G,rfl⟩:=b8.out oZ;obtain⟨dq,co,dn,m,d6,ap,cx,cp,bj⟩:=ajd f H br;obtain⟨dg,bo⟩:=nZ (m+1);rw[bo]at ap;have dv:0<dg:=oZ;have Z:=cm.out h i (by have:=ah.out;omega) bl;rw[e2]at Z;have b9:=qZ (λ(e:g[k].1=el hs aP i)=>Hst.YS (el hs aP i) g k aq (λj u=>ak j oZ u) e);have b5:=qY (¬g[k].1=el hs aP i->∀(j:Nat) (u:j<g.length),j<k+1->g[j].1≠el hs aP i) (λcz j u du=>by
     by_cases ct:j=k
     .subst ct;exact cz
     .exact ak j u oZ)
    obtain⟨q,au⟩:=nZ (decide (g[k].1=el hs aP i));have ba:=qZ au;rw[au]at Z;have bz:=qZ (Z.on (aA a8 r));have b0:=qZ f;have cb:=λW (k:aD s W)=>k.cell co ap;have cc:=λW (k:aD s W)=>k.cell cp bj;obtain⟨cd,ce,cg,ch⟩:=(a0.on r).all;clear f ap bj cx bo H e1 e2 e3 br Z au bu;go_wp2_with fail;refine kK ?_;(repeat refine kY ?_);refine kJ (bz.up (aK _ _)) ?_;(repeat refine kY ?_);refine dP ?_;intro W ao;clear cb cc cd ce cg ch;have ai:=qZ (r.out.trans (ao.mono r.size));have a5:=qZ (b0.below ao);clear ao;cases q with
    |false=>
     have cy:=qZ (b5 (by simpa using ba.out));go_wp2_with fail;go_roundw;exact⟨k+1,cI,rfl,mZ,oZ,⟨cy.out,a5⟩,ai⟩;simp[intOf];omega
    |true=>
     have F:=b9.out (by simpa using ba.out);obtain⟨H,bt⟩:=Hst.XO (i:=i) F;obtain⟨y,bv,ag,d8,d9,dy,db,dc,dz,ds,an,bg,⟨cj,di,dk,cl⟩,⟨ci,dh,dj,ck⟩,⟨a6,d0,d7,e6⟩,dr,da⟩:=afY a5 (ai.size) H i (by have:=b6.out k H;omega);rw[<-bt]at an;have J:=qY (aqu hs aP i g (p:Nat) (ac G n c5) (k+1) cW _) (⟨⟨k,F⟩,an⟩);have b3:=qZ (ai.out.trans bg);subst cl ck e6;clear F bt an bg da H;go_wp2_with(at_builtin;refine cK rfl (.const (ac cL 0 0)) (.tmp 47) _ _ rfl (ac cL 0 0) (ac cj di dk) rfl rfl db ?_;go_wp2_with(at_builtin;refine cK rfl (.tmp 48) (.tmp 50) _ _ rfl (ac ci dh dj) (ac ag 1 1) rfl rfl dc ?_));go_roundw;exact⟨k+1,cW,rfl,mZ,oZ,J,b3⟩;simp[intOf];omega
   .have dp:=qZ f;have F:=Hst.aiX (el hs aP i) g (λj u=>ak j u (by rw[aj.out]at u;omega));have c0:=qZ (Hst.akZ (i:=i) F);have bh:=(aK (s:Nat) s).alloc lZ (cF #[(i:Int)] 3);obtain⟨bv,ag,bs,bb,bm⟩:=YU (x:=ac s 1 1) (l:=[i]) f bh (by have:=r.size;simp;omega) (fE.low (amc s i) r.size) (λg e=>by cases e;exact bG _) (by rw[e0,aj.out];omega);have bf:cE p p ag:=(r.alloc r.size _).trans (bm.below (by have:=r.size;simp;omega) λb e=>(f.cf e).1);have J:=qY (kT ag (p:Nat) bv (cS (ef hs aP (i+1)))) (by rw[Q.out,c0.out];exact bb);have b2:=qZ bf;simp only[aT]at bs;clear f F bh bb bm bf;go_wp2_with(at_builtin;refine cK rfl (.tmp 55) (.tmp 58) _ _ rfl (ac I n c5) (ac (cD ⟨(s:Nat)+1,0,cL⟩) 1 1) rfl rfl bs ?_);go_roundw;exact⟨i+1,mZ,oZ,J,b2⟩;simp[intOf];omega
 .have Q:=qY (agT O w1 (cN u5) wr) (⟨u5,rfl,by rw[K.out,show M=i by omega];exact f.low oZ,aA a8 z⟩);clear f z;go_wp2_with fail;go_ret;exact Q
end bO
end Go.Proofs.YtedmeglbjmdlhaaGreatDoor
