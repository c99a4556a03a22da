/-
Parts that the laws of the whole program share: contracts of its functions, and plain laws.
-/
import Derived.Test.YtedmeglbjmdlhaaGreatDoorG21
import Derived.Test.YtedmeglbjmdlhaaGreatDoorG22
import Derived.Test.YtedmeglbjmdlhaaGreatDoorG16
import Derived.Test.YtedmeglbjmdlhaaGreatDoorG13
set_option maxRecDepth 100000
set_option maxHeartbeats 16000000
set_option linter.all false
open Go.Proofs.Tryz
namespace Go.Proofs.YtedmeglbjmdlhaaGreatDoor
open Go
open Cfg Dec L Ord Quo Srt Top Vec akI bM bU eZ jN sK
namespace Srt
open Go Go.RowKit Go.Sort L bM eZ
theorem fk:FK prog where
 f98:=func268
 f95:=func241
 f85:=func203
 f84:=func202
 f72:=func138
 e98:=λargs w=>by simp[go_sem]
 e95:=λargs w=>by simp[go_sem]
 e85:=λargs w=>by simp[go_sem]
 e84:=λargs w=>by simp[go_sem]
theorem aee(cf:PO->PO->Int)(m:jE cf)(g:Nat)(a:Array Value)(cK cap:Nat)(d:Array PO)(w:World)(k:∀args w,(callFunc g args).run prog w=.ok (.enter g args) w)(f:zC prog g a qP cf cK w)(b:HoldsK qP 11 w cK 0 d)(c:cK<(w:Nat))(l:d.size<1000000):Calls prog 81 #[.slice cK d.size cap,.func (.func g) #[] a] w λe w'=>e=.returned (.tuple #[])/\Sit qP 11 w cK 0 (Sort.insertionSort (ltOf cf) d 0 d.size) w':=by
 have G:=qZ (ada pk fk qP MX afy cf m g a cK 0 cap d.size d w k f (Sit.start b c) rfl oZ);clear f b;generalize Sort.insertionSort (ltOf cf) d 0 d.size=d' at*;generalize d.size=n at*;clear l c;go_enter func81,ntmps81;go_wp2_with fail;refine G.mono ?_;rintro e o⟨rfl,i⟩;have j:=qZ i;clear i G;go_wp2_with fail
 go_end0
 exact⟨rfl,j⟩
theorem aqb(g:Nat)(a:Array Value)(w:World):Calls prog 202 #[true,(),(),.func (.func g) #[] a] w λe w'=>e=.returned (.tuple #[])/\w'=w:=by
 go_enter func202,ntmps202;go_wp2_with fail;refine wp_loop_rounds 1 ?_;rw[rounds_succ];go_wp2_with fail
 go_end0
 exact⟨rfl,rfl⟩
theorem agy(g:Nat)(a:Array Value)(w:World):Calls prog 81 #[true,.func (.func g) #[] a] w λe w'=>e=.returned (.tuple #[])/\w'=w:=by
 have G:=qZ (aqb g a w);go_enter func81,ntmps81;go_wp2_with fail;go_enter func138,ntmps138;go_wp2_with fail;refine wp_loop_rounds 1 ?_;rw[rounds_succ];go_wp2_with fail;refine G.mono ?_;rintro e b⟨rfl,rfl⟩;clear G;go_wp2_with fail;refine wp_loop_rounds 1 ?_;rw[rounds_succ];go_wp2_with fail
 go_end0
 exact⟨rfl,rfl⟩
end Srt
namespace bU
open Go Go.RowKit L bM eZ Srt
section
variable (a0 a1 a2 a3 a4 a5 a6 a7 a8:Int) (w:World)
theorem aur:(part 3 #[Value.int .i64 a0,a1,a2,a3,a4,a5,a6,a7,a8] 0).run prog w=.ok a0 w:=by kernel_rfl
theorem auq:(part 3 #[Value.int .i64 a0,a1,a2,a3,a4,a5,a6,a7,a8] 1).run prog w=.ok a1 w:=by kernel_rfl
theorem aup:(part 3 #[Value.int .i64 a0,a1,a2,a3,a4,a5,a6,a7,a8] 2).run prog w=.ok a2 w:=by kernel_rfl
theorem auo:(part 40 #[Value.int .i64 a0,a1,a2,a3,a4,a5,a6,a7,a8] 3).run prog w=.ok (.agg #[a3,a4,a5]) w:=by kernel_rfl
theorem aun:(part 3 #[Value.int .i64 a0,a1,a2,a3,a4,a5,a6,a7,a8] 6).run prog w=.ok a6 w:=by kernel_rfl
theorem aum:(part 3 #[Value.int .i64 a0,a1,a2,a3,a4,a5,a6,a7,a8] 7).run prog w=.ok a7 w:=by kernel_rfl
theorem aul:(part 3 #[Value.int .i64 a0,a1,a2,a3,a4,a5,a6,a7,a8] 8).run prog w=.ok a8 w:=by kernel_rfl
theorem asM:(Op.equalIn 10000 42 (.agg #[a0,a1,a2,a3,a4,a5,a6,a7,a8]) (.agg #[(),(),(),(),(),(),(),(),()])).run prog w=.ok (NJ ⟨a0,a1,a2,⟨a3,a4,a5⟩,a6,a7,a8,0,0⟩) w:=by
 have c:prog.underlying 42=some (.struct (prog.fieldsOf 42)):=kZ;have d:prog.stoodInHeld 42=false:=kZ;rw[show(10000:Nat)=9999+1 from rfl,run_equalIn_agg w 9999 42 _ _ c d];simp only[Program.fieldsOf,underlying42];have v1:=λx0 u v x y z w=>ads 9997 x0 u v x y z w;have f:=λa b w=>SH 9998 a b w;simp only[Op.eqFields,aur,auq,aup,auo,aun,aum,aul,v1,f,Sem.run_bind,Result.andThen_ok,Sem.run_pure,Sem.run_ite];have n1:("Id" :String)≠ "_" :=dZ;have n2:("Tenant" :String)≠ "_" :=dZ;have g:("Pods" :String)≠ "_" :=dZ;have i:("Need" :String)≠ "_" :=dZ;have j:("Run" :String)≠ "_" :=dZ;have k:("Level" :String)≠ "_" :=dZ;have l:("Prefer" :String)≠ "_" :=dZ;simp only[n1,n2,g,i,j,k,l,ne_eq,not_false_eq_true,if_true];have e:qE ⟨a3,a4,a5⟩ ⟨0,0,0⟩=qW ⟨a3,a4,a5⟩:=by simp[qE,qW]
 rw[e];unfold NJ;simp only;generalize(a0==0)=m;generalize(a1==0)=n;generalize(a2==0)=o;generalize qW ⟨a3,a4,a5⟩=p;generalize(a6==0)=t4;generalize(a7==0)=r;generalize(a8==0)=s;cases m<;>cases n<;>cases o<;>cases p<;>cases t4<;>cases r<;>cases s<;>rfl
end
def rY(kind:Int)(v1 v2:Value)(aI aK:Int)(g:Ord.P)(n:Int):Value:=.agg (#[.int .i64 kind,v1,v2,.int .i64 aI,.int .i64 aK]++iD g++#[.int .i64 n])
theorem anG(kind:Int)(d:List kL)(c:List gW)(aI aK:Int)(g:Ord.P)(n:Int){N M:Nat}(k:d.length=N)(j:c.length=M):yS ⟨kind,⟨d,c,aI,aK⟩,g,n⟩=if(decide (kind≥1)&&decide (kind<=6))&&((kind==1)||((((N:Int)==0)&&((M:Int)==0))&&(aI==0))&&(aK==0))&&((kind==2)||NJ g)&&((((kind==3)||(kind==4))||(kind==5))||(n==0))&&LP ⟨d,c,aI,aK⟩&&LM g&&[n].all iU then(if decide ((N:Int)<=12)&&decide ((M:Int)<=24)then 0 else 8)else 1:=by
 subst k j;unfold yS anT ard fF;have e:(d.isEmpty)=((d.length:Int)==0):=by
  cases d with
  |nil=>rfl
  |cons a l=>simp;omega
 have f:(c.isEmpty)=((c.length:Int)==0):=by
  cases c with
  |nil=>rfl
  |cons a l=>simp;omega
 rw[e,f];have i:(if d.length<=12/\c.length<=24 then(0:Int)else 8)=(if decide ((d.length:Int)<=12)&&decide ((c.length:Int)<=24)then 0 else 8):=by by_cases a:d.length<=12<;>by_cases b:c.length<=24<;>simp[a,b]<;>omega
 rw[i];simp only[List.all_cons,List.all_nil,Bool.and_true]
def agl(E:Int)(w:World)(e:Ending)(w':World):Prop:=e=.returned E/\Below w w w'
theorem aqz{w1 W:World}{b:Nat}{x k:Int}(c:b<(W:Nat))(a:Below W W w1)(d:W.cell? (b,0)=some (.int .i64 x)):(w1.setCell (b,0) k).cell? (b,0)=some (.int .i64 k):=by have h:CI w1 b 0 x:=(a.cell c).trans d;simp[h,go_sem]
theorem pV{w W:World}{E k:Int}{b:Nat}{tmps:Array Value}(j:k=E)(l:tmps[2]? =some (.pointer b))(c:b<(W:Nat))(m:(w:Nat)<=b)(g:Below w w W)(d:W.cell? (b,0)=some (.int .i64 0))(n:W.frozen? (b,0)=false):Leaves prog Tryz.f48 tmps (agl E w) [{target:=.fn (.func 97) #[],args:=#[.pointer b]}] (.panicking [{v:=YF k,recovered:=false}]) W:=by
 subst j;refine leaves_cons (f:=97) (args:=#[.pointer b]) sZ (by simp[go_sem]) ?_;refine(akp ⟨b,0,none⟩ 0 k [] W c d n).mono ?_;rintro e u' o⟨rfl,rfl,w1,a,rfl⟩;have i:=aqz (k:=k) c a d;refine⟨.int .i64 k,?_,rfl,?_⟩
 .simp[results,Tryz.results48,l,i,go_sem]
 .exact(g.trans (a.mono g.size)).setCell m _
theorem aqy{w W:World}{E k:Int}{b:Nat}{tmps:Array Value}(a:k=E)(g:tmps[2]? =some (.pointer b))(d:Below w w W)(c:W.cell? (b,0)=some (.int .i64 k)):Leaves prog Tryz.f48 tmps (agl E w) [{target:=.fn (.func 97) #[],args:=#[.pointer b]}] .returning W:=by subst a;refine leaves_cons (f:=97) (args:=#[.pointer b]) sZ (by simp[go_sem]) ?_;refine(aan ⟨b,0,none⟩ W).mono ?_;rintro e u' i⟨rfl,rfl,rfl⟩;refine⟨.int .i64 k,?_,rfl,d⟩;simp[results,Tryz.results48,g,c,go_sem]
theorem ayS{w:World}{v1 v2:Value}{x:Top.Cmd}(K:bX w (.agg #[v1,v2,x.c.aI,x.c.aK]) x.c):Calls prog 48 #[rY x.kind v1 v2 x.c.aI x.c.aK x.g x.n] w λe w'=>agl (yS x) w e w':=by
 obtain⟨kind,⟨ae,ab,aI,aK⟩,g,n⟩:=x;simp only at K⊢;obtain⟨_,_,a,⟨A,ca,rfl,cb,bu⟩,⟨B,O,rfl,cc,bv⟩⟩:=id K;simp only[Value.agg.injEq,eO,cB,and_true]at a;obtain⟨rfl,rfl⟩:=a;simp only at bu bv;obtain⟨N,au⟩:=nZ ae.length;obtain⟨M,ar⟩:=nZ ab.length;obtain⟨E,aq⟩:=nZ (yS ⟨kind,⟨ae,ab,aI,aK⟩,g,n⟩);have L:=qZ ((aq.symm).trans (anG kind ae ab aI aK g n au ar));rw[aq];rw[au]at K bu⊢;rw[ar]at K bv⊢;clear aq;obtain⟨id,u,r,⟨x,y,z⟩,run,aR,s,bi,bh⟩:=g;have J:NJ ⟨id,u,r,⟨x,y,z⟩,run,aR,s,bi,bh⟩=NJ ⟨id,u,r,⟨x,y,z⟩,run,aR,s,0,0⟩:=rfl;rw[J]at L;have b5:=qZ K;clear K cb cc au ar J;simp only[rY,iD];have bj:=qZ (asM id u r x y z run aR s);obtain⟨ay,bs⟩:=nZ (decide (kind≥1));obtain⟨az,bt⟩:=nZ (decide (kind<=6));obtain⟨e1,bm⟩:=nZ ((kind==1));obtain⟨e2,bn⟩:=nZ ((kind==2));obtain⟨e3,bo⟩:=nZ ((kind==3));obtain⟨e4,bp⟩:=nZ ((kind==4));obtain⟨ao,bq⟩:=nZ ((kind==5));obtain⟨n0,bw⟩:=nZ ((n==0));obtain⟨n1,bz⟩:=nZ (((N:Int)==0));obtain⟨n2,b0⟩:=nZ (((M:Int)==0));obtain⟨a0,b1⟩:=nZ ((aI==0));obtain⟨a5,b2⟩:=nZ ((aK==0));obtain⟨an,J⟩:=nZ (NJ ⟨id,u,r,⟨x,y,z⟩,run,aR,s,0,0⟩);obtain⟨af,av⟩:=nZ (LP ⟨ae,ab,aI,aK⟩);obtain⟨ag,aw⟩:=nZ (LM ⟨id,u,r,⟨x,y,z⟩,run,aR,s,bi,bh⟩);obtain⟨T,ax⟩:=nZ ([n].all iU);obtain⟨s1,cd⟩:=nZ (decide ((N:Int)<=12));obtain⟨s2,ce⟩:=nZ (decide ((M:Int)<=24));rw[bs,bt,bm,bn,bo,bp,bq,bw,bz,b0,b1,b2,J,av,aw,ax,cd,ce]at L;rw[J]at bj;have b6:=qZ av;have b7:=qZ aw;have b8:=qZ ax;clear av aw ax J;obtain⟨f,Q⟩:=nZ ((w.alloc (.cells #[kind,.slice A N ca,.slice B M O,aI,aK,id,u,r,x,y,z,run,aR,s,n] 61)).alloc (.cells #[()] 57));have bl:Below w w f:=by rw[<-Q];exact kp
 have l:Blk f w 61 #[kind,.slice A N ca,.slice B M O,aI,aK,id,u,r,x,y,z,run,aR,s,n]:=by rw[<-Q];exact(Blk.new _ _ _).alloc _
 have b4:Blk f ((w:Nat)+1) 57 #[()]:=by rw[<-Q];have h:=Blk.new (w.alloc (.cells #[kind,.slice A N ca,.slice B M O,aI,aK,id,u,r,x,y,z,run,aR,s,n] 61)) 57 #[()];simp only[bC]at h;exact h
 have bk:=qZ l;have c:=qZ b4;have p:=qZ bl;have b9:=qZ Q;have cg:CI f w 0 kind:=l.cell 0;have p1:CV f w 1 (.slice A N ca):=l.cell 1;have p2:CV f w 2 (.slice B M O):=l.cell 2;have p3:CI f w 3 aI:=l.cell 3;have p4:CI f w 4 aK:=l.cell 4;have bd:CI f w 5 id:=l.cell 5;have p6:CI f w 6 u:=l.cell 6;have be:CI f w 7 r:=l.cell 7;have bf:CI f w 8 x:=l.cell 8;have bg:CI f w 9 y:=l.cell 9;have a8:CI f w 10 z:=l.cell 10;have a9:CI f w 11 run:=l.cell 11;have ba:CI f w 12 aR:=l.cell 12;have bb:CI f w 13 s:=l.cell 13;have bc:CI f w 14 n:=l.cell 14;clear Q l b4 bl;have v:Hid (((ay&&az)&&(e1||(((n1&&n2)&&a0)&&a5))&&(e2||an)&&(((e3||e4)||ao)||n0)&&af&&ag&&T)=false->E=1):=qZ (λh=>by rw[L.out,h];rfl);have ci:∀(fn:Fn) (first cap:Array Value) (w:World),(Instr.makeFunc fn first cap).run prog w=.ok (.func fn first cap) w:=λ_ _ _ _=>rfl;go_enter_defers func48,ntmps48;go_upto_region 2 with fail;rw[b9.out];go_cut[]from 3 (λI=>f=I/\(ay&&az)=true);case first=>
  cases ay
  .go_wp2_with fail;refine(iV false _ _).mono ?_;rintro d j⟨a,rfl⟩;rw[fD,aD sZ]at a;subst a;exact pV (v sZ).symm rfl c.out.lt (fE _) p (c.cell 0) (c.frozen 0)
  .cases az
   .go_wp2_with fail;refine(iV false _ _).mono ?_;rintro d j⟨a,rfl⟩;rw[fD,aD sZ]at a;subst a;exact pV (v sZ).symm rfl c.out.lt (fE _) p (c.cell 0) (c.frozen 0)
   .go_wp2_with fail;refine(iV true _ _).mono ?_;rintro d j⟨a,rfl⟩;rw[fD,aG rfl]at a;subst a;go_wp2_with fail;go_meet;exact⟨rfl,rfl⟩
 case rest=>
  obtain⟨H,m⟩:=hcut;subst H;have ak:=qZ m;clear m bs bt;go_upto_region 3 with fail;go_cut[]from 3 (λI=>f=I/\(e1||(((n1&&n2)&&a0)&&a5))=true);case first=>
   cases e1
   .cases n1
    .go_wp2_with fail;refine(iV false _ _).mono ?_;rintro d j⟨a,rfl⟩;rw[fD,aD sZ]at a;subst a;exact pV (v sZ).symm rfl c.out.lt (fE _) p (c.cell 0) (c.frozen 0)
    .cases n2
     .go_wp2_with fail;refine(iV false _ _).mono ?_;rintro d j⟨a,rfl⟩;rw[fD,aD sZ]at a;subst a;exact pV (v sZ).symm rfl c.out.lt (fE _) p (c.cell 0) (c.frozen 0)
     .cases a0
      .go_wp2_with fail;refine(iV false _ _).mono ?_;rintro d j⟨a,rfl⟩;rw[fD,aD sZ]at a;subst a;exact pV (v sZ).symm rfl c.out.lt (fE _) p (c.cell 0) (c.frozen 0)
      .cases a5
       .go_wp2_with fail;refine(iV false _ _).mono ?_;rintro d j⟨a,rfl⟩;rw[fD,aD sZ]at a;subst a;exact pV (v sZ).symm rfl c.out.lt (fE _) p (c.cell 0) (c.frozen 0)
       .go_wp2_with fail;refine(iV true _ _).mono ?_;rintro d j⟨a,rfl⟩;rw[fD,aG rfl]at a;subst a;go_wp2_with fail;go_meet;exact⟨rfl,rfl⟩
   .go_wp2_with fail;refine(iV true _ _).mono ?_;rintro d j⟨a,rfl⟩;rw[fD,aG rfl]at a;subst a;go_wp2_with fail;go_meet;exact⟨rfl,rfl⟩
  case rest=>
   obtain⟨H,m⟩:=hcut;subst H;have al:=qZ m;clear m bm bz b0 b1 b2;go_upto_region 4 with fail;go_cut[]from 3 (λI=>f=I/\(e2||an)=true);case first=>
    have ch:=bj.out;cases e2
    .cases an
     .go_wp2_with fail;refine(iV false _ _).mono ?_;rintro d j⟨a,rfl⟩;rw[fD,aD sZ]at a;subst a;exact pV (v sZ).symm rfl c.out.lt (fE _) p (c.cell 0) (c.frozen 0)
     .go_wp2_with fail;refine(iV true _ _).mono ?_;rintro d j⟨a,rfl⟩;rw[fD,aG rfl]at a;subst a;go_wp2_with fail;go_meet;exact⟨rfl,rfl⟩
    .go_wp2_with fail;refine(iV true _ _).mono ?_;rintro d j⟨a,rfl⟩;rw[fD,aG rfl]at a;subst a;go_wp2_with fail;go_meet;exact⟨rfl,rfl⟩
   case rest=>
    obtain⟨H,m⟩:=hcut;subst H;have am:=qZ m;clear m bn;go_upto_region 5 with fail;go_cut[]from 3 (λI=>f=I/\(((e3||e4)||ao)||n0)=true);case first=>
     cases e3
     .cases e4
      .cases ao
       .cases n0
        .go_wp2_with fail;refine(iV false _ _).mono ?_;rintro d j⟨a,rfl⟩;rw[fD,aD sZ]at a;subst a;exact pV (v sZ).symm rfl c.out.lt (fE _) p (c.cell 0) (c.frozen 0)
        .go_wp2_with fail;refine(iV true _ _).mono ?_;rintro d j⟨a,rfl⟩;rw[fD,aG rfl]at a;subst a;go_wp2_with fail;go_meet;exact⟨rfl,rfl⟩
       .go_wp2_with fail;refine(iV true _ _).mono ?_;rintro d j⟨a,rfl⟩;rw[fD,aG rfl]at a;subst a;go_wp2_with fail;go_meet;exact⟨rfl,rfl⟩
      .go_wp2_with fail;refine(iV true _ _).mono ?_;rintro d j⟨a,rfl⟩;rw[fD,aG rfl]at a;subst a;go_wp2_with fail;go_meet;exact⟨rfl,rfl⟩
     .go_wp2_with fail;refine(iV true _ _).mono ?_;rintro d j⟨a,rfl⟩;rw[fD,aG rfl]at a;subst a;go_wp2_with fail;go_meet;exact⟨rfl,rfl⟩
    case rest=>
     obtain⟨H,m⟩:=hcut;subst H;have ai:Hid ((af&&ag&&T)=false->E=1):=qZ (λh=>v (by rw[ak.out,al.out,am.out,m];simpa using h));have aj:Hid ((af&&ag&&T)=true->E=if(s1&&s2)then 0 else 8):=qZ (λh=>by rw[L.out,ak.out,al.out,am.out,m];simp only[Bool.true_and];rw[aG h]);clear L v ak al am m bo bp bq bw;have ap:=qZ (alg (b5.below p));rw[b6.out]at ap;go_wp2_with fail;clear cg p1 p2 p3 p4;refine ap.out.mono ?_;rintro d F⟨a,Y⟩;have i:=qZ (aC (bk.below Y bk.out.lt) (aC (c.below Y c.out.lt) (p.out.trans (Y.mono p.size))));clear Y ap;cases af
     .rw[fD,aD sZ]at a;subst a;exact pV (ai sZ).symm rfl i.2.1.lt (fE _) i.2.2 (i.2.1.cell 0) (i.2.1.frozen 0)
     .rw[fD,aG rfl]at a;subst a;clear bd p6 be bf bg a8 a9 ba bb bc;have bd:CI F w 5 id:=i.1.cell 5;have p6:CI F w 6 u:=i.1.cell 6;have be:CI F w 7 r:=i.1.cell 7;have bf:CI F w 8 x:=i.1.cell 8;have bg:CI F w 9 y:=i.1.cell 9;have a8:CI F w 10 z:=i.1.cell 10;have a9:CI F w 11 run:=i.1.cell 11;have ba:CI F w 12 aR:=i.1.cell 12;have bb:CI F w 13 s:=i.1.cell 13;have X:=qZ (alf ⟨id,u,r,⟨x,y,z⟩,run,aR,s,bi,bh⟩ F);rw[b7.out]at X;simp only[dW,iD]at X;go_wp2_with fail;clear bd p6 be bf bg a8 a9 ba bb;refine X.out.mono ?_;rintro d W⟨a,Z⟩;have o:=qZ (aC (i.1.below Z i.1.lt) (aC (i.2.1.below Z i.2.1.lt) (i.2.2.trans (Z.mono i.2.2.size))));clear Z X;cases ag
      .rw[fD,aD sZ]at a;subst a;exact pV (ai sZ).symm rfl o.2.1.lt (fE _) o.2.2 (o.2.1.cell 0) (o.2.1.frozen 0)
      .rw[fD,aG rfl]at a;subst a;have bc:CI W w 14 n:=o.1.cell 14;go_wp2_with fail;clear bc;obtain⟨b3,ad⟩:=nZ (W.alloc (.cells #[n] 3));have aa:Below W W b3:=by rw[<-ad];exact kp
       have br:ISl b3 (.slice W 1 1) [n]:=by rw[<-ad];exact afb (by simp only[bC];omega) (by simp[go_sem])
       have k:=qZ (aC (o.1.below aa o.1.lt) (aC (o.2.1.below aa o.2.1.lt) (o.2.2.trans (aa.mono o.2.2.size))));rw[ad];clear aa ad;refine(uI (b:=T) br sZ b8).mono ?_;rintro d ah⟨a,rfl⟩;clear br;cases T
       .rw[fD,aD sZ]at a;subst a;exact pV (ai sZ).symm rfl k.2.1.lt (fE _) k.2.2 (k.2.1.cell 0) (k.2.1.frozen 0)
       .rw[fD,aG rfl]at a;subst a;have p1:CV ah w 1 (.slice A N ca):=k.1.cell 1;have p2:CV ah w 2 (.slice B M O):=k.1.cell 2;have cj:CI ah ((w:Nat)+1) 0 0:=k.2.1.cell 0;have ck:ah.frozen? ((w:Nat)+1,0)=false:=k.2.1.frozen 0;cases s1
        .go_wp2_with fail;refine(iV false _ _).mono ?_;rintro d j⟨a,rfl⟩;rw[fD,aD sZ]at a;subst a;exact pV (aj sZ).symm rfl k.2.1.lt (fE _) k.2.2 (k.2.1.cell 0) (k.2.1.frozen 0)
        .cases s2
         .go_wp2_with fail;refine(iV false _ _).mono ?_;rintro d j⟨a,rfl⟩;rw[fD,aD sZ]at a;subst a;exact pV (aj sZ).symm rfl k.2.1.lt (fE _) k.2.2 (k.2.1.cell 0) (k.2.1.frozen 0)
         .go_wp2_with fail;refine(iV true _ _).mono ?_;rintro d j⟨a,rfl⟩;rw[fD,aG rfl]at a;subst a;go_wp2_with fail;exact aqy (aj sZ).symm rfl (k.2.2.setCell (fE _) _) ((k.2.1.bV 0 (.int .i64 0)).cell 0)
open Go Go.RowKit L bM eZ Srt
def ofV(kind:Int)(v1 v2:Value)(aI aK:Int)(g:Ord.P)(n:Int):Value:=if kind=1 then .iface 105 (.agg #[v1,v2,aI,aK])else if kind=2 then .iface 109 (.agg (iD g))else if kind=3 then .iface 112 (.agg #[n])else if kind=4 then .iface 114 (.agg #[n])else if kind=5 then .iface 118 (.agg #[n])else .iface 122 (.agg #[])
def awt(V:Value)(w:World)(e:Ending)(w':World):Prop:=e=.returned V/\Below w w w'
theorem ayT(kind:Int)(A B:Option Addr)(N ca M c:Nat)(aI aK:Int)(g:Ord.P)(n:Int)(w:World):Calls prog 49 #[rY kind (.slice A N ca) (.slice B M c) aI aK g n] w λe w'=>awt (ofV kind (.slice A N ca) (.slice B M c) aI aK g n) w e w':=by
 obtain⟨V,b⟩:=nZ (ofV kind (.slice A N ca) (.slice B M c) aI aK g n);rw[b];obtain⟨id,H,s,⟨x,y,z⟩,run,aR,u,F,v⟩:=g;simp only[ofV,iD]at b;have a:=qZ b;clear b;simp only[rY,iD];by_cases d:kind=1
 .subst d;have hv:=a.out;simp only[if_true,Int.reduceEq,if_false]at hv;subst hv;clear a;go_enter func49,ntmps49;go_wp2_with fail;go_ret;exact⟨rfl,kp⟩
 by_cases f:kind=2
 .subst f;have hv:=a.out;simp only[if_true,Int.reduceEq,if_false]at hv;subst hv;clear a;go_enter func49,ntmps49;go_wp2_with fail;go_ret;exact⟨rfl,kp⟩
 by_cases i:kind=3
 .subst i;have hv:=a.out;simp only[if_true,Int.reduceEq,if_false]at hv;subst hv;clear a;go_enter func49,ntmps49;go_wp2_with fail;go_ret;exact⟨rfl,kp⟩
 by_cases j:kind=4
 .subst j;have hv:=a.out;simp only[if_true,Int.reduceEq,if_false]at hv;subst hv;clear a;go_enter func49,ntmps49;go_wp2_with fail;go_ret;exact⟨rfl,kp⟩
 by_cases k:kind=5
 .subst k;have hv:=a.out;simp only[if_true,Int.reduceEq,if_false]at hv;subst hv;clear a;go_enter func49,ntmps49;go_wp2_with fail;go_ret;exact⟨rfl,kp⟩
 have l:(kind==1)=false:=by simpa using d
 have m:(kind==2)=false:=by simpa using f
 have o:(kind==3)=false:=by simpa using i
 have p:(kind==4)=false:=by simpa using j
 have r:(kind==5)=false:=by simpa using k
 have hv:=a.out;rw[aD d,aD f,aD i,aD j,aD k]at hv;subst hv;clear a;go_enter func49,ntmps49;go_wp2_with fail;go_ret;exact⟨rfl,kp⟩
end bU
variable{rl:List bM.Run}{k:Nat}{X v x:Value}{w:World}
namespace bU
open Go Go.RowKit L bM eZ Srt
theorem GN{l:List Int}(h:ISl w v l)(i:l.length<=1000000)(x:Int):∀w1,Below w w w1->Calls prog 131 #[v,x] w1 λe w'=>e=.returned (.bool (l.contains x))/\w'=w1:=λw1 d=>by
 obtain⟨A,cap,rfl,g,m⟩:=h.below d;by_cases c:l=[]
 .subst c;exact Tryz.slices_Contains_int_empty A cap x w1
 .obtain⟨b,o,rfl,k,f⟩:=g c;have:=Tryz.slices_Contains_int b o l.length cap l x w1 lZ oZ (λj a=>by have:=f j _ (aH a) 0 _ rfl;rw[gY,Nat.add_zero]at this;simpa[a]using this);rwa [aT lZ]at this
theorem adD(rl:List Run)(dB:List Int)(h:k<rl.length):dK ((rl.take (k+1)).map eY) dB=if dB.contains rl[k].id then dK ((rl.take k).map eY) dB else dK ((rl.take k).map eY) dB++[eY rl[k]]:=by
 unfold dK;rw[bF h,dO,fO];have e:(eY rl[k]).p.id=rl[k].id:=rfl;by_cases a:dB.contains rl[k].id=true
 .rw[aG a];simp[e];simpa using a
 .rw[aD a];simp[e];simpa using a
theorem yV{dB:List Int}(h:Runs w v rl)(au:Many rl)(bs:ISl w X dB)(br:dB.length<=1000000):∀w1,Below w w w1->Calls prog 79 #[v,X] w1 λe w'=>SQ (dK (rl.map eY) dB) w1 e w':=by
 intro w1 ao;have b8:=qZ (GN (bs.below ao) br);obtain⟨R,cq,rfl,bv,cc,bt⟩:=h.below ao;clear bs br;have b3:=qZ bv;have b1:=qZ bt;have bg:=qZ au;obtain⟨K,an⟩:=nZ rl.length;have bf:=qZ an;have ca:=au.len;rw[an]at ca⊢;clear h au ao bv cc bt an;go_enter func79,ntmps79;go_wp2_with fail;go_loopg[5,10] K (λb7 cl v10 wr=>∃(k:Nat) (m:List Run),v10=.int .i64 k/\k<=K/\K<=b7+k/\Hid (kU wr (w1:Nat) cl m/\m.map eY=dK ((rl.take k).map eY) dB/\m.length<=k)/\Hid (Below w1 w1 wr)/\Hid (NZ (w1:Nat) m));case atStart=>exact⟨0,[],mZ,oZ,oZ,qZ ⟨kU.nil _ _,by simp[dK],sZ⟩,qZ (aJ _ _),qZ (λy p=>by cases p)⟩
 case round=>
  obtain⟨k,m,rfl,cv,cu,o,n,ak⟩:=hrel;by_cases cd:k<K
  .have cg:(k:Int)<(K:Int):=oZ;have F:k<rl.length:=by rw[bf.out];exact cd
   obtain⟨cp,cw,rfl,ce,bq⟩:=sQ b3 F;obtain⟨ax,p1,p2,p3,p4,a5,p6,a8,a9,ba,ay,az,a0,L⟩:=bq wr n;have H:=qZ (adD rl dB F);have I:=qZ (aC ((b1 _ (bB F)).below n) (aC (bg.num _ (bB F)) (bg.aQ _ (bB F))));have am:=qZ (adG _ I.1 I.2.2);obtain⟨x,bw⟩:=nZ (rl[k]);rw[bw]at ax p1 p2 p3 p4 a5 p6 a8 a9 ba ay az a0 L H I am;clear bw bq F ce;obtain⟨b0,b5,bj,_,_⟩:=id I.1;obtain⟨a,b,c,⟨d,e,f⟩,g,h,i,j,r,st,l,aQ,hv⟩:=x;simp only at bj ax p1 p2 p3 p4 a5 p6 a8 a9 ba ay az a0 L H;subst bj;obtain⟨ck,av⟩:=nZ aQ.length;have co:=qZ av;simp only[rM,sW,av]at am L;clear av;obtain⟨cn,J⟩:=nZ (wr.alloc (.cells #[a,b,c,d,e,f,g,h,i,j,r,st,l,.slice b0 ck b5] 86));have bn:=aB J;have bd:=aX J;have ah:=qZ (aC bn bd);have b2:=qZ J;obtain⟨M,N,Y,Z,aa,ab,ad,ae,af,ag,O,Q,T,W⟩:=bd.c14;clear bn bd J;obtain⟨bc,bp⟩:=nZ (dB.contains a);have al:=b8.out a cn (aA n ah.1);rw[bp]at al H;clear bp;go_wp2_with fail;refine Eq.mp (dA (λz=>Calls prog _ _ z _) b2.out.symm) ?_;clear ax p1 p2 p3 p4 a5 p6 a8 a9 ba ay az a0 L M N Y Z aa ab ad ae af ag O Q T W;refine(al).mono ?_;rintro b6 bb⟨rfl,rfl⟩;have bz:=ah.2;have u:=qZ ah.1;obtain⟨M,N,Y,Z,aa,ab,ad,ae,af,ag,O,Q,T,W⟩:=bz.c14;clear bz al;cases bc
   .go_wp2_with fail;refine(am.out bb u).mono ?_;rintro b6 cm⟨v',rfl,ar,aq,bl⟩;obtain⟨s,A,rfl,b9,ch⟩:=id ar;have ap:=aA u bl;obtain⟨u6,bh,aw,bk,bm,cj⟩:=aei (x:=⟨a,b,c,⟨d,e,f⟩,g,h,i,j,r,st,l,aQ,.slice s aQ.length A⟩) o.1 ap n.size ar
     (λci b cb=>by have:=aq ci b cb;have:=Below.size u;omega) (by have:=o.2.2;omega)
    rw[aaH]at aw;simp only[sW]at aw;have aj:=qY (kU bh (w1:Nat) u6 (m++[⟨a,b,c,⟨d,e,f⟩,g,h,i,j,r,st,l,aQ,.slice s aQ.length A⟩])/\(m++[(⟨a,b,c,⟨d,e,f⟩,g,h,i,j,r,st,l,aQ,.slice s aQ.length A⟩:Run)]).map eY=dK ((rl.take (k+1)).map eY) dB/\(m++[(⟨a,b,c,⟨d,e,f⟩,g,h,i,j,r,st,l,aQ,.slice s aQ.length A⟩:Run)]).length<=k+1) (⟨bk,by rw[H.out,aD dZ,dO,o.out.2.1];rfl,by have:=o.2.2;simp;omega⟩);have ai:=qY (Below w1 w1 bh) ((n.out.trans (Below.mono ap n.size)).trans bm);have b4:=qY (NZ (w1:Nat) (m++[(⟨a,b,c,⟨d,e,f⟩,g,h,i,j,r,st,l,aQ,.slice s aQ.length A⟩:Run)])) (λy p bu bi bo=>by
     rcases bY.1 p with p|p
     .exact ak y p bu bi bo
     .have e:y=⟨a,b,c,⟨d,e,f⟩,g,h,i,j,r,st,l,aQ,.slice s aQ.length A⟩:=by simpa using p
      subst e;have cr:=aq bu bi bo;have cs:=Below.size u;have ct:=n.size;omega)
    clear bk bm cj ap ar aq bl b9 ch M N Y Z aa ab ad ae af ag O Q T W;go_wp2_with(at_builtin;refine dJ rfl (.tmp 20) (.tmp 23) _ _ rfl u5 (.slice cm 1 1) rfl rfl aw ?_);go_roundg(K-(k+1));case measure=>omega
    case rel=>exact⟨k+1,_,mZ,oZ,oZ,aj,ai,b4⟩
   .have aj:=qY (kU bb (w1:Nat) u5 m/\m.map eY=dK ((rl.take (k+1)).map eY) dB/\m.length<=k+1) (⟨o.1.below u,by rw[H.out,aG rfl];exact o.2.1,by have:=o.2.2;omega⟩);have ai:=qY (Below w1 w1 bb) (aA n u);clear M N Y Z aa ab ad ae af ag O Q T W;go_wp2_with fail;go_roundg(K-(k+1));case measure=>omega
    case rel=>exact⟨k+1,_,mZ,oZ,oZ,aj,ai,ak⟩
  .have cg:¬(k:Int)<(K:Int):=oZ;have be:=qY (kU wr (w1:Nat) _ m/\m.map eY=dK (rl.map eY) dB) (⟨o.1,by have:=o.2.1;rwa [aT (by have:=bf.out;omega)]at this⟩);go_wp2_with fail;go_ret;exact⟨_,m,rfl,be.1,be.2,n,ak⟩
theorem TH{dB:List Int}(h:Runs w v rl)(j:Many rl)(i:ISl w x dB)(g:dB.length<=1000000):∀w1,Below w w w1->Calls prog 79 #[v,x] w1 λe w'=>akE (dK (rl.map eY) dB) w1 e w':=λw1 f=>
 (yV h j i g w1 f).mono λe w' ⟨v',rl',a,b,c,d,_⟩=>⟨v',rl',a,b,c,d⟩
theorem ars(p:Ord.P):bW prog 337 #[.agg (eP p)] p.id:=λw=>by obtain⟨a,p1,f,⟨n0,n1,n2⟩,p6,c,d,e,b⟩:=p;simp only[eP];go_enter func337,ntmps337;go_wp2_with fail;go_ret;exact⟨rfl,bZ⟩
theorem adx(p:Ord.P):bW prog 338 #[.agg (eP p)] p.seq:=λw=>by obtain⟨a,p1,f,⟨n0,n1,n2⟩,p6,c,d,e,b⟩:=p;simp only[eP];go_enter func338,ntmps338;go_wp2_with fail;go_ret;exact⟨rfl,bZ⟩
theorem auc(p:Ord.P)(n:Int):bW prog 160 #[.iface 223 (.agg (eP p)),n] (.bool (p.id==n)):=λw=>by have g:=ars p;obtain⟨c,p1,k,⟨n0,n1,n2⟩,p6,f,i,j,d⟩:=p;simp only[eP]at*;go_enter func160,ntmps160;go_wp2_with fail;refine(g _).mono ?_;rintro e l⟨rfl,a⟩;have b:=qZ a;clear a;go_wp2_with fail;go_ret;exact⟨rfl,b⟩
theorem akx(p q:Ord.P):bW prog 163 #[.iface 223 (.agg (eP p)),.iface 223 (.agg (eP q))] (.bool (decide (q.seq<p.seq))):=λw=>by have g:=qZ (adx p);have a:=qZ (adx q);obtain⟨k,d⟩:=nZ (eP p);obtain⟨l,f⟩:=nZ (eP q);rw[d]at g⊢;rw[f]at a⊢;generalize p.seq=m at*;generalize q.seq=n at*;clear d f;go_enter func163,ntmps163;go_wp2_with fail;refine(g.out _).mono ?_;rintro e o⟨rfl,b⟩;have i:=qZ b;clear b g;go_wp2_with fail;refine(a.out _).mono ?_;rintro e r⟨rfl,c⟩;have j:=qZ (aA i c);clear c a;go_wp2_with fail;go_ret;exact⟨rfl,j⟩
theorem aqm(p:Ord.P)(n:Int)(b:Nat)(w:World)(v:b<(w:Nat))(f:w.cell? (b,0)=some (.int .i64 n)):Calls prog 159 #[.agg (eP p),.pointer b] w λe w'=>e=.returned (.bool (p.id==n))/\Below w w w':=by have g:=qZ (auc p n);obtain⟨c,p1,m,⟨n0,n1,n2⟩,p6,j,k,l,i⟩:=p;simp only[eP]at*;generalize(c==n)=s at*;have a:Below w w (w.alloc (.cells #[c,p1,m,n0,n1,n2,p6,j,k,l,i] 44)):=bZ;have u:(w.alloc (.cells #[c,p1,m,n0,n1,n2,p6,j,k,l,i] 44)).cell? (b,0)=some (.int .i64 n):=(a.cell (p:=⟨b,0,none⟩) v).trans f;have r:=qZ a;clear a f;have x:¬b=(w:Nat):=oZ;go_enter func159,ntmps159;go_wp2_with fail;refine(g.out _).mono ?_;rintro e y⟨rfl,d⟩;have o:=qZ (aA r d);clear d g u;go_wp2_with fail;go_ret;exact⟨rfl,o⟩
theorem apt(p q:Ord.P)(b:Nat)(w:World)(l:Blk w b 44 (eP q)):Calls prog 162 #[.agg (eP p),.pointer b] w λe w'=>e=.returned (.bool (decide (q.seq<p.seq)))/\Below w w w':=by
 have g:=qZ (akx p q);obtain⟨d,p1,k,⟨n0,n1,n2⟩,p6,i,j,a,f⟩:=p;obtain⟨A,F,L,⟨x,y,z⟩,I,J,K,o,H⟩:=q;simp only[eP]at*;generalize decide (o<a)=s at*;have m:Below w w (w.alloc (.cells #[d,p1,k,n0,n1,n2,p6,i,j,a,f] 44)):=bZ;have c:=l.below m l.lt;have M:¬b=(w:Nat):=by have:=l.lt;omega
 have v:(w.alloc (.cells #[d,p1,k,n0,n1,n2,p6,i,j,a,f] 44)).cell? (b,0)=some (.int .i64 A):=c.cell 0;have c1:(w.alloc (.cells #[d,p1,k,n0,n1,n2,p6,i,j,a,f] 44)).cell? (b,1)=some (.int .i64 F):=c.cell 1;have c2:(w.alloc (.cells #[d,p1,k,n0,n1,n2,p6,i,j,a,f] 44)).cell? (b,2)=some (.int .i64 L):=c.cell 2;have c3:(w.alloc (.cells #[d,p1,k,n0,n1,n2,p6,i,j,a,f] 44)).cell? (b,3)=some (.int .i64 x):=c.cell 3;have c4:(w.alloc (.cells #[d,p1,k,n0,n1,n2,p6,i,j,a,f] 44)).cell? (b,4)=some (.int .i64 y):=c.cell 4;have c5:(w.alloc (.cells #[d,p1,k,n0,n1,n2,p6,i,j,a,f] 44)).cell? (b,5)=some (.int .i64 z):=c.cell 5;have c6:(w.alloc (.cells #[d,p1,k,n0,n1,n2,p6,i,j,a,f] 44)).cell? (b,6)=some (.int .i64 I):=c.cell 6;have c7:(w.alloc (.cells #[d,p1,k,n0,n1,n2,p6,i,j,a,f] 44)).cell? (b,7)=some (.int .i64 J):=c.cell 7;have c8:(w.alloc (.cells #[d,p1,k,n0,n1,n2,p6,i,j,a,f] 44)).cell? (b,8)=some (.int .i64 K):=c.cell 8;have c9:(w.alloc (.cells #[d,p1,k,n0,n1,n2,p6,i,j,a,f] 44)).cell? (b,9)=some (.int .i64 o):=c.cell 9;have c10:(w.alloc (.cells #[d,p1,k,n0,n1,n2,p6,i,j,a,f] 44)).cell? (b,10)=some (.int .i64 H):=c.cell 10;have u:=qZ m;clear m l c;go_enter func162,ntmps162;go_wp2_with fail;refine(g.out _).mono ?_;rintro e N⟨rfl,n⟩;have r:=qZ (aA u n);clear n g v c1 c2 c3 c4 c5 c6 c7 c8 c9 c10;go_wp2_with fail;go_ret;exact⟨rfl,r⟩
theorem aco(x y:Run)(al:x.hv.oneCell'=true)(am:y.hv.oneCell'=true):bW prog 204 #[rM x,rM y] (.bool (nO (eY x) (eY y))):=λw=>by
 have K:nO (eY x) (eY y)=decide (Ord.or2 (Ord.num y.start x.start) (Ord.num y.seq x.seq)<0):=rfl;obtain⟨a0,u,j,⟨v,z,A⟩,H,J,i0,d,T,g,Y,ap,aa⟩:=x;obtain⟨a1,b1,c1,⟨d1,e1,F⟩,I,k,Q,f,X,i,Z,aq,v1⟩:=y;simp only at K al am;rw[K];simp only[rM,sW];obtain⟨n0,L⟩:=nZ (Ord.num i g);obtain⟨n1,M⟩:=nZ (Ord.num f d);obtain⟨r,O⟩:=nZ (Ord.or2 n0 n1);rw[L,M,O];have n:=qZ (λW=>wT i g W);have o:=qZ (λW=>wT f d W);rw[L]at n;rw[M]at o;have p:=qZ (λW b ak k aj=>YW (w:=W) (b:=b) ak n0 n1 k aj);rw[O]at p;obtain⟨a,l⟩:=nZ ((w.alloc (.cells #[a0,u,j,v,z,A,H,J,i0,d,T,g,Y,aa] 86)).alloc (.cells #[a1,b1,c1,d1,e1,F,I,k,Q,f,X,i,Z,v1] 86));have ae:Blk a w 86 #[a0,u,j,v,z,A,H,J,i0,d,T,g,Y,aa]:=by rw[<-l];exact Blk.alloc (Blk.new _ _ _) _
 have af:Blk a ((w:Nat)+1) 86 #[a1,b1,c1,d1,e1,F,I,k,Q,f,X,i,Z,v1]:=by rw[<-l];have h:=Blk.new (w.alloc (.cells #[a0,u,j,v,z,A,H,J,i0,d,T,g,Y,aa] 86)) 86 #[a1,b1,c1,d1,e1,F,I,k,Q,f,X,i,Z,v1];simp only[bC]at h;exact h
 have ad:Below w w a:=by rw[<-l];exact kp
 have c:=qZ (aC ae af);have ag:=qZ ad;have ai:=qZ l;clear l ae af ad L M O K;go_enter func204,ntmps204;go_wp2_with fail;rw[ai.out];refine lU (aF a) (.take 0 (.take 1 (.take 2 (.take 3 (.take 5 (.take 6 (.take 7 (.take 8 (.one 4 (.one 9 (.one 10 (.one 11 (.take 12 (.take 13 .done)))))))))))))) kZ kZ (aF.drew a) ?_;have j:∀W,aF a W->CI W w 11 g/\CI W w 9 d/\CI W ((w:Nat)+1) 11 i/\CI W ((w:Nat)+1) 9 f:=λW m=>⟨(Blk.below c.1 m c.1.lt).cell 11,(Blk.below c.1 m c.1.lt).cell 9,(Blk.below c.2 m c.2.lt).cell 11,(Blk.below c.2 m c.2.lt).cell 9⟩;(iterate 8 refine tT ?_);clear j;refine eT ?_;refine tC ?_;refine(n _).mono ?_;rintro e an⟨rfl,rfl⟩;refine⟨_,rfl,aF.drew a,?_⟩;refine eT ?_;refine tC ?_;refine(o _).mono ?_;rintro e an⟨rfl,rfl⟩;refine⟨_,rfl,aF.drew a,?_⟩;refine eT ?_;have s:aF a (a.drew.alloc (.cells #[n0,n1] 3)):=Below.alloc (aF.drew a) lZ _;apply lK;(focus rfl);(focus rfl);(focus(go_simp;first|done|exact⟨rfl,rfl⟩));(focus exact s);(focus(go_simp;first|done|rfl));refine eT ?_;refine tC ?_;refine(p _ (a:Nat) sZ (by simp[go_sem]) (by simp[go_sem])).mono ?_;rintro e ao⟨rfl,ab⟩;have N:aF a ao:=aA s ab;refine⟨_,rfl,N,?_⟩;(iterate 2 refine tT ?_);refine fZ ?_;have ah:=qZ (aA ag N);clear ab N s n o p;go_wp2_with fail;go_ret;exact⟨rfl,ah⟩
theorem aeQ(p:Ord.P)(aN start:Int)(j:0<=aN/\aN<=2199023255552)(k:0<=p.run/\p.run<=1048576):bW prog 139 #[aN,dW p,start] (.bool (sS aN p start)):=λw=>by have a:=SI ⟨p.id,p.dN,p.eU,p.need,p.run,p.aR,p.prefer,0,0,aN,0,[],.slice none 0 0⟩ ⟨j,k⟩;have l:sS aN p start=decide (aN+p.run<=start):=rfl;rw[l];obtain⟨n,p1,s,⟨n0,n1,n2⟩,p6,o,r,v,u⟩:=p;simp only[dW,iD,rM,sW]at*;obtain⟨m,d⟩:=nZ (aN+p6);rw[d]at a⊢;have f:=qZ a;have b:Below w w (w.alloc (.cells #[n,p1,s,n0,n1,n2,p6,o,r] 42)):=bZ;have g:=qZ b;clear a d b;go_enter func139,ntmps139;go_wp2_with fail;refine(f _).mono ?_;rintro e x⟨rfl,c⟩;have i:=qZ (aA g c);clear c;go_wp2_with fail;go_ret;exact⟨rfl,i⟩
open Go.Sort
structure PH (P:Program) (k:Nat):Prop where
 mixed:P.follows .mixedOrders=true
 t3:P.underlying 3=some (TypeDesc.int IntKind.i64)
 a3:∀w,(isAgg 3).run P w=.ok false w
 z3:∀w,(Go.sizeOf 3).run P w=.ok 1 w
 v3:∀w,(zeroValue 3).run P w=.ok (Value.int IntKind.i64 0) w
 t4:P.underlying 4=some TypeDesc.bool
 a4:∀w,(isAgg 4).run P w=.ok false w
 z4:∀w,(Go.sizeOf 4).run P w=.ok 1 w
 v4:∀w,(zeroValue 4).run P w=.ok (Value.bool false) w
 ts:P.underlying 28=some (TypeDesc.slice 86)
 aS:∀w,(isAgg 28).run P w=.ok false w
 zs:∀w,(Go.sizeOf 28).run P w=.ok 1 w
 vs:∀w,(zeroValue 28).run P w=.ok (Value.slice none 0 0) w
 tf:∃a b c,P.underlying 263=some (TypeDesc.func a b c)
 af:∀w,(isAgg 263).run P w=.ok false w
 zf:∀w,(Go.sizeOf 263).run P w=.ok 1 w
 th:P.underlying 265=some (TypeDesc.struct #[{name:= "l",type:=28,offset:=0,embedded:=false,tag:= "",pkgPath:= "tithebarn/victims",byteOffset:=0},{name:= "less",type:=263,offset:=1,embedded:=false,tag:= "",pkgPath:= "tithebarn/victims",byteOffset:=24}])
 aE:∀w,(isAgg 86).run P w=.ok true w
 zE:∀w,(Go.sizeOf 86).run P w=.ok k w
 bs:∀(cs:Array Value) (w:World),cs.size=k->(Instr.buildSlice 28 1 #[(0,.agg cs)]).run P w=.ok (.slice w 1 1) (w.alloc (.cells cs 86))
 pos:0<k
 info:∃i z,P.info? 86=some i/\i.zero=some z/\i.size=k/\i.bytes=128/\z.cells.size=k
section
variable {P:Program} {α:Type} [Inhabited α] {enc:α->List Value} {k:Nat} {E:TypeId}
theorem afr(b:∀x,(enc x).length=k)(d:Array α):(flatK enc k d).toList=d.toList.flatMap enc:=by
 apply gL;intro j;by_cases a:j<d.size*k
 .have f:0<k:=by
   rcases gI k with h|h
   .subst h;simp at a
   .exact h
  have e:j/k<d.size:=Nat.div_lt_of_lt_mul (by rwa [eD]at a);have e1:=get_flatK enc k d j a;have e2:=flat_get b d.toList (j/k) (d[j/k]!) (j%k) (by rw[dF d _ e];simp[e]) (jS _ f);rw[show j/k*k+j%k=j by rw[eD,iY]]at e2;rw[e2,dP,dH (by simpa using a)];rw[dF (flatK enc k d) j (by simpa using a)]at e1;have c:j%k<(enc d[j/k]!).length:=by rw[b];exact jS _ f
  rw[e1,dF (enc (d[j/k]!)) (j%k) c,aH c]
 .rw[dY (by simp;omega),dY (by rw[jG b];simp;omega)]
def Shape(W:World)(g:Nat)(E:TypeId)(n:Nat):Prop:=∃cs:Array Value,Blk W g E cs/\cs.size=n
theorem Shape.on{W W':World}{g n:Nat}(h:Shape W g E n)(c:aF W W'):Shape W' g E n:=by obtain⟨cs,a,b⟩:=h;exact⟨cs,Blk.below a c a.lt,b⟩
theorem Shape.cells{W:World}{g n:Nat}:∀(vs:List Value) (o:Nat) (W:World),Shape W g E n->Shape (W.setCells g o vs) g E n
 |[],_,_,h=>h
 |v::vs,o,W,h=>by obtain⟨cs,a,b⟩:=h;exact Shape.cells (W:=W) vs (o+1) _ ⟨_,Blk.bV a o v,by simpa using b⟩
structure qQ (enc:α->List Value) (k:Nat) (E:TypeId) (w:World) (g cap:Nat) (d:Array α) (W:World):Prop where
 sit:Sit enc k w g 0 d W
 shape:Shape W g E (cap*k)
 room:d.size<=cap/\cap<=maxLen
theorem qQ.on{w W W':World}{g cap:Nat}{d:Array α}(h:qQ enc k E w g cap d W)(a:aF W W'):qQ enc k E w g cap d W':=⟨h.sit.on a,h.shape.on a,h.room⟩
theorem amM(c:∀x,(enc x).length=k){w:World}{g:Nat}{cur:Array Value}{d:Array α}(h:Blk w g E cur)(e:cur.toList.take (d.size*k)=d.toList.flatMap enc):HoldsK enc k w g 0 d:=λj a=>by
 have b:j<d.size*k:=by simpa using a
 have e1:cur[j]? =some (flatK enc k d)[j]! :=by
  rw[dF _ j a];have:(flatK enc k d).toList[j]? =some (flatK enc k d)[j]:=by rw[dP,dH a]
  rw[afr c,<-e,eB,aG b,dP]at this;exact this
 exact⟨by rw[aU,h.cell,e1];rfl,by rw[aU];exact h.frozen j⟩
theorem ahQ(i:∀x,(enc x).length=k){w:World}{B:Nat}{v:Value}{xs:List α}(h:bQ w B E k enc v xs)(n:xs≠[]):∃g cap,v=.slice (some ⟨g,0,none⟩) xs.length cap/\B<=g/\qQ enc k E w g cap xs.toArray w:=by
 obtain⟨o,⟨rfl,b⟩|⟨g,cap,cur,rfl,f,c,j,e,l,m⟩⟩:=h
 .exact absurd (jM.1 b) n
 .have a:Blk w g E cur:=c;exact⟨g,cap,rfl,f,Sit.start (amM i (d:=xs.toArray) a (by simpa using m)) a.lt,⟨cur,a,l⟩,by simpa using j,e⟩
theorem qQ.row(b:∀x,(enc x).length=k){w W:World}{g cap B:Nat}{d:Array α}(h:qQ enc k E w g cap d W)(e:B<=g):bQ W B E k enc (.slice g d.size cap) d.toList:=by
 obtain⟨cs,c,f⟩:=h.shape;refine⟨by rw[jG b],.inr ⟨g,cap,cs,sZ,e,c,by simpa using h.room.1,h.room.2,f,?_⟩⟩;apply gL;intro j;by_cases a:j<d.size*k
 .have:=(h.sit.holds j (by simpa using a)).1;rw[aU,c.cell]at this;rw[eB,aG (by simpa using a),dP,this,<-afr b,dP,dH (by simpa using a),dF _ j (by simpa using a)];rfl
 .rw[eB,aD (by simpa using a),dY (by rw[jG b];simp;omega)]
theorem qQ.swap(l:∀x,(enc x).length=k)(e:∀x,∀v∈enc x,v.oneCell'=true){w W:World}{g cap:Nat}{d:Array α}(h:qQ enc k E w g cap d W){i j:Nat}(hi:i<d.size)(f:j<d.size):Sem.run P (storeCells ⟨g,0+i*k,none⟩ (enc d[j]!) 0) W=.ok () (W.setCells g (0+i*k) (enc d[j]!))/\Sem.run P (storeCells ⟨g,0+j*k,none⟩ (enc d[i]!) 0) (W.setCells g (0+i*k) (enc d[j]!))=.ok () ((W.setCells g (0+i*k) (enc d[j]!)).setCells g (0+j*k) (enc d[i]!))/\qQ enc k E w g cap (swp d i j) ((W.setCells g (0+i*k) (enc d[j]!)).setCells g (0+j*k) (enc d[i]!)):=by obtain⟨a,b,c⟩:=h.sit.swap (P:=P) l e hi f;exact⟨a,b,c,Shape.cells (W:=W) _ _ _ (Shape.cells (W:=W) _ _ _ h.shape),by rw[size_swp];exact h.room⟩
theorem nP(g:Nat):∀(vs:List Value) (o:Nat) (W:World),aO (λi=>i=g) W (W.setCells g o vs)
 |[],_,W=>aO.refl _ _
 |v::vs,o,W=>((aO.refl (λi=>i=g) W).setCell (p:=⟨g,o,none⟩) (.inl rfl) v).trans (nP g vs (o+1) _)
end
theorem aek{P:Program}{o:Oper}{a:Act}{w w':World}{t:TypeId}{n:Nat}{x:Operand}(b:o.op=.buildSlice t n #[(0,x)]){vx v':Value}(d:a.eval x=vx)(c:(Instr.buildSlice t n #[(0,vx)]).run P w=.ok v' w'):(execOp a.eval o).run P w=.ok (.value v') w':=by unfold execOp;simp only[b,Sem.run_bind,Sem.run_pure,Result.andThen_ok,jW,cZ,gM,d,c]
structure aau (hb xb:Nat) (v fn:Value) (cs:Array Value) (W:World):Prop where
 heap:Blk W hb 265 #[v,fn]
 box:Blk W xb 86 cs
def aat{α:Type}[Inhabited α](enc:α->List Value)(k B hb:Nat)(fn v:Value)(xs:List α)(w:World)(e:Ending)(w':World):Prop:=∃v',e=.returned (.tuple #[])/\Blk w' hb 265 #[v',fn]/\bQ w' B 86 k enc v' xs/\aO (λi=>i=hb\/v.ownBlock=some i) w w'/\(∀g,v'.ownBlock=some g->v.ownBlock=some g\/(w:Nat)<=g)
theorem atv{α:Type}[Inhabited α](less:α->α->Bool)(f i j:Nat)(l:Array α)(a:0<i)(b:(i-1)/2=j)(h:less l[i]! l[j]! =true):Top.upH less (f+1) i l=Top.upH less f j ((l.setIfInBounds i l[j]!).setIfInBounds j l[i]!):=by
 subst b
 conv=>lhs;unfold Top.upH
 rw[aG a,aG h]
theorem adL{α:Type}[Inhabited α](less:α->α->Bool)(f i j:Nat)(l:Array α)(h:i=0\/((i-1)/2=j/\less l[i]! l[j]! =false)):Top.upH less f i l=l:=by
 cases f with
 |zero=>rfl
 |succ f=>
  unfold Top.upH;rcases h with h|⟨rfl,h⟩
  .rw[aD oZ]
  .split
   .rw[aD (by rw[h];decide)]
   .rfl
theorem apf{P:Program}{α:Type}[Inhabited α]{enc:α->List Value}{k:Nat}(L:PH P k)(hF:P.funcs[205]? =some Tryz.f205)(ba:∀x,(enc x).length=k)(bm:∀x,∀v∈enc x,v.oneCell'=true)(less:α->α->Bool)(l:Nat)(dr:∀args w,(callFunc l args).run P w=.ok (.enter l args) w)(bv:∀(W:World) (x y:α),Calls P l #[.agg (enc x).toArray,.agg (enc y).toArray] W λe w'=>e=.returned (.bool (less x y))/\aF W w'){B a:Nat}{v:Value}{xs:List α}(x:α){w:World}(al:Blk w a 265 #[v,.func (.func l) #[] #[]])(bc:bQ w B 86 k enc v xs)(bw:v.ownBlock≠some a)(du:B<=(w:Nat))(cv:xs.length<=100000):Calls P 205 #[.pointer a,.agg (enc x).toArray] w λe w'=>aat enc k B a (.func (.func l) #[] #[]) v (oD less xs.toArray x).toList w e w':=by
 have mixed:=L.mixed;have d9:=L.t3;have a3:=L.a3;have ed:=L.z3;have ec:=L.v3;have t4:=L.t4;have a4:=L.a4;have z4:=L.z4;have v4:=L.v4;have ts:=L.ts;have dk:=L.aS;have eg:=L.zs;have vs:=L.vs;have dl:=L.af;have ef:=L.zf;have ea:=L.th;have dj:=L.aE;have ee:=L.zE;have eb:=run_underlying L.ts;have uh:=run_underlying L.th;obtain⟨i0,z0,bt,b6,b7,b8,b9⟩:=L.info;have p:=qZ ba;have bf:=qZ bm;have ci:=qZ bv;obtain⟨z,Q⟩:=nZ (w.alloc (.cells (enc x).toArray 86));have af:aF w z:=by rw[<-Q];exact bZ
 have b5:=Blk.below al af al.lt;have b1:=bc.below af;have cy:(z:Nat)=(w:Nat)+1:=by rw[<-Q];simp
 have cc:Blk z w 86 (enc x).toArray:=by rw[<-Q];exact Blk.new _ _ _
 have d0:a<(w:Nat):=al.lt;have dw:a≠(w:Nat):=oZ;have K:=qZ (aC b5 cc);have cl:=qZ b1;have cn:=qZ Q;have bg:=qZ af;have bi:=qZ bw;have cj:=qZ bc.lt;have bq:(enc x).toArray.size=k:=by simpa using ba x
 have bk:=L.bs;have ce:=qZ bq;clear al bc ba bm bv Q af b5 b1 cc bw bq;go_enter hF,ntmps205;go_wp2_with fail;rw[cn.out];have aa:∀W,aau a (w:Nat) v (.func (.func l) #[] #[]) (enc x).toArray W->CV W a 0 v:=λW h=>h.heap.cell 0;have dh:∀W,aau a (w:Nat) v (.func (.func l) #[] #[]) (enc x).toArray W->Sem.run P (loadCellsFrom ⟨w,0,none⟩ 0 k #[]) W=.ok (enc x).toArray W:=λW h=>
  run_loadCellsFrom_list P W _ (enc x) k (p x) (λj u be=>by rw[Addr.add_lit,aU,h.box.cell j];simpa using be)
 refine iT (aau a (w:Nat) v (.func (.func l) #[] #[]) (enc x).toArray) 8 (.take 0 (.take 1 (.take 2 (.take 3 (.take 4 (.take 5 (.one 6 (.one 7 .done)))))))) L.mixed kZ ⟨K.1,K.2⟩ ?_;(iterate 6 refine tT ?_);clear aa dh;refine eT ?_;obtain⟨wc,ak⟩:=nZ (z.drew.alloc (.cells (enc x).toArray 86));have a8:=bk (enc x).toArray z.drew ce;have M:aF z wc:=by rw[<-ak];exact(aF.drew z).alloc lZ _
 have xc:Blk wc z 86 (enc x).toArray:=by rw[<-ak];exact Blk.new _ _ _
 have s1:aau a (w:Nat) v (.func (.func l) #[] #[]) (enc x).toArray wc:=⟨Blk.below K.1 M K.1.lt,Blk.below K.2 M K.2.lt⟩;have bl:z.drew.heap.size=(z:Nat):=rfl;rw[ak,bl]at a8;obtain⟨v',r,a5,b2,ag,_,bz⟩:=mP 28 28 i0 z0 128 ts bt b6 b7 b8 b9 L.pos p (ys:=[x]) (m:=1) (c:=1) (λu be=>bf x u (by simpa using be)) (cl.below M) rfl (rU xc rfl) (by have:=Below.size M;omega) (by unfold maxLen;omega) oZ;have s2:aau a (w:Nat) v (.func (.func l) #[] #[]) (enc x).toArray r:=⟨Blk.grown s1.heap ag (Ne.symm bi),Blk.grown s1.box ag λe=>by have:=(cj _ e.symm).2;omega⟩;rw[cy]at a5;have N:=qZ (aC a5 (aC b2 (aC ag bz)));have cd:=qZ a8;have cm:=qZ s1;have Y:=qZ s2;have ao:=qZ M;clear a5 b2 ag bz a8 s1 s2 M xc ak bk bt b6 b7 b8 b9 bl;apply Go.Proofs.YtedmeglbjmdlhaaGreatDoor.L.lK;(focus rfl);(focus rfl);(focus exact aek (x:=.tmp 11) rfl rfl cd);(focus exact cm);(focus(go_simp;first|done|rfl));refine eT ?_;apply Go.Proofs.YtedmeglbjmdlhaaGreatDoor.L.lK;(focus rfl);(focus rfl);(focus exact nY (s:=.tmp 10) (x:=.tmp 12) (vs:=v) (vx:=.slice (some ⟨(w:Nat)+1,0,none⟩) 1 1) rfl rfl rfl N.1);(focus exact Y);(focus(go_simp;first|done|rfl));obtain⟨g,cap,rfl,cq,b4⟩:=ahQ p N.2.1 sZ;have a9:g≠a:=λe=>by
  rcases N.out.2.2.2 g rfl with h|h
  .exact bi (e▸h)
  .have:=Below.size ao;omega
 have au:=qZ b4;clear b4;refine fZ ?_;show wpList P _ _ (List.drop 8 _) _ _;simp only[bH,bJ];have dm:CV r a 0 v:=Y.heap.cell 0;have ds:r.frozen? (a,0)=false:=Y.heap.frozen 0;have bu:(xs++[x]).length=xs.length+1:=sZ;rw[bu];obtain⟨n,bb⟩:=nZ xs.length;have bh:=qZ bb;rw[bb]at cv⊢;have cb:Blk (r.setCell (a,0) (.slice g (n+1) cap)) a 265 #[.slice g (n+1) cap,.func (.func l) #[] #[]]:=Blk.bV Y.heap 0 _;have r3:qQ enc k 86 (r.setCell (a,0) (.slice g (n+1) cap)) g cap (xs++[x]).toArray (r.setCell (a,0) (.slice g (n+1) cap)):=by obtain⟨cs,bn,cx⟩:=au.shape;have far:Blk (r.setCell (a,0) (.slice g (n+1) cap)) g 86 cs:=Blk.far bn a9 _;refine⟨Sit.start (λj ah=>?_) far.lt,⟨cs,far,cx⟩,au.room⟩;have:=au.sit.holds j ah;exact⟨by rw[far.cell];rw[bn.cell]at this;exact this.1,by rw[far.frozen]⟩
 have ca:aO (λi=>i=a\/v.ownBlock=some i) w (r.setCell (a,0) (.slice g (n+1) cap)):=by have db:aO (λi=>i=a\/v.ownBlock=some i) w _:=aO.bS (bg.out.trans (Below.mono ao (Below.size bg)));have dc:=db.trans' (aO.lG (F:=λi=>v.ownBlock=some i) N.2.2.1 λi hi=>hi) (λi _ hi=>.inr hi);exact dc.setCell (.inl (.inl rfl)) _
 have co:=qZ cb;have ck:=qZ r3;have ch:=qZ ca;clear cb r3 ca bb bu;have cg:=qY (Top.upH less n n (xs++[x]).toArray=oD less xs.toArray x) (by
  unfold oD;have e:xs.toArray.size=n:=by rw[<-bh.out];simp
  rw[e];simp)
 go_wp2_with fail;go_loopg[4] n (λcp v4 wr=>∃(i f:Nat) (d:Array α),v4=.int .i64 i/\f<=cp/\i<=f/\d.size=n+1/\i<n+1/\Hid (Blk wr a 265 #[.slice g (n+1) cap,.func (.func l) #[] #[]])/\Hid (qQ enc k 86 (r.setCell (a,0) (.slice g (n+1) cap)) g cap d wr)/\Hid (Top.upH less f i d=oD less xs.toArray x));case atStart=>exact⟨n,n,(xs++[x]).toArray,by first|rfl|go_num,bI _,bI _,by simp[bh.out],oZ,co,ck,cg⟩
 case round=>
  obtain⟨i,az,d,rfl,dv,dx,bd,dy,A,O,aw⟩:=hrel;have bj:=qY (∀ab am,ab=oD less xs.toArray x->Blk am a 265 #[.slice g (n+1) cap,.func (.func l) #[] #[]]->ab.size=n+1->qQ enc k 86 (r.setCell (a,0) (.slice g (n+1) cap)) g cap ab am->aat enc k B a (.func (.func l) #[] #[]) v (oD less xs.toArray x).toList w (.returned (.tuple #[])) am) (λab am e cr cw b0=>by
   subst e;have b3:=b0.row p cq;rw[cw]at b3;have bs:v.ownBlock=some g\/(w:Nat)<=g:=by
    rcases N.out.2.2.2 g rfl with h|h
    .exact .inl h
    .have:=Below.size ao;exact .inr oZ
   refine⟨_,rfl,cr,b3,ch.out.trans' b0.sit.bD λq ai e=>?_,λq ai=>?_⟩
   .rcases bs with h|h
    .exact .inr (by rw[h,e])
    .omega
   .injection ai with ai;exact ai▸bs)
  by_cases dt:0<i
  .obtain⟨b,rfl⟩:∃b,i=b+1:=⟨i-1,oZ⟩;obtain⟨f,rfl⟩:∃f,az=f+1:=⟨az-1,oZ⟩;obtain⟨j,ah⟩:=nZ (b/2);have dz:j<=b:=oZ;obtain⟨I,T⟩:=nZ (d[b+1]!);obtain⟨J,X⟩:=nZ (d[j]!);obtain⟨s,aj⟩:=nZ (less I J);have av:=qZ (λe:s=false=>adL less (f+1) (b+1) j d (.inr ⟨oZ,by rw[T,X,aj,e]⟩));have aq:=qZ (λe:s=true=>atv less f (b+1) j d oZ oZ (by rw[T,X,aj,e]));have da:(0:Int)<(b:Int)+1:=oZ;have br:(b:Int)/2=(j:Int):=oZ;have ct:Int.tdiv (b:Int) 2=(j:Int):=by rw[Int.tdiv_eq_ediv_of_nonneg oZ];exact br
   have aa:∀W,aF wr W->CV W a 0 (.slice g (n+1) cap):=λW o=>(Blk.below A o A.out.lt).cell 0;have c1:∀W,aF wr W->CV W a 1 (.func (.func l) #[] #[]):=λW o=>(Blk.below A o A.out.lt).cell 1;have dd:∀W,aF wr W->Sem.run P (loadCellsFrom ⟨g,(b+1)*k,none⟩ 0 k #[]) W=.ok (enc I).toArray W:=λW o=>by have:=(O.on o).sit.load (P:=P) p (j:=b+1) oZ;rwa [aU,T]at this
   have df:∀W,aF wr W->Sem.run P (loadCellsFrom ⟨g,j*k,none⟩ 0 k #[]) W=.ok (enc J).toArray W:=λW o=>by have:=(O.on o).sit.load (P:=P) p (j:=j) oZ;rwa [aU,X]at this
   have ay:∀W,aF wr W->Calls P l #[.agg (enc I).toArray,.agg (enc J).toArray] W λe w'=>e=.returned (.bool s)/\aF wr w':=λW o=>
    (ci W I J).mono λe w' ⟨cu,a⟩=>⟨by rw[cu,aj],aA o a⟩
   have d7:(j:Int)<(n:Int)+1:=oZ;have d6:(b:Int)+1<(n:Int)+1:=oZ;have dq:((b:Int)+1).toNat=b+1:=oZ;have d8:(0:Int)<=(b:Int)+1:=oZ;have di:=qZ ah;have H:=qZ (aC T X);clear ah T X aj;go_wp2_with fail;clear br ct;refine qB L.mixed kZ ?_;(repeat refine kY ?_);refine kM ?_ (h:=by intro W o;go_simp;first|exact ay W o|exact⟨o,ay W o⟩);(repeat refine kY ?_);refine eH ?_;intro W o;have Z:=qZ o;clear aa c1 dd df ay o;cases s
   .have ap:=qZ (bj d W (by rw[<-aw.out];exact(av rfl).symm) (Blk.below A Z A.out.lt) bd (O.on Z));clear av aq;go_wp2_with fail
    go_end0
    exact ap
   .have ar:=qZ (aq rfl);clear av aq;go_wp2_with fail;have ae:=(O.on Z).on (aF.drew W);have a0:=Blk.below A (aA Z (aF.drew W)) A.out.lt;have aa:W.drew.cell? (a,0)=some (.slice g (n+1) cap):=a0.cell 0;have de:Sem.run P (loadCellsFrom ⟨g,(b+1)*k,none⟩ 0 k #[]) W.drew=.ok (enc I).toArray W.drew:=by have:=ae.sit.load (P:=P) p (j:=b+1) oZ;rwa [aU,H.1]at this
    have dg:Sem.run P (loadCellsFrom ⟨g,j*k,none⟩ 0 k #[]) W.drew=.ok (enc J).toArray W.drew:=by have:=ae.sit.load (P:=P) p (j:=j) oZ;rwa [aU,H.2]at this
    obtain⟨s1,s2,s3⟩:=ae.swap (P:=P) p bf (i:=b+1) (j:=j) oZ oZ;have ad:=(a0.bD (nP g (enc d[j]!) (0+(b+1)*k) W.drew) (Ne.symm a9)).bD (nP g (enc d[b+1]!) (0+j*k) _) (Ne.symm a9);rw[H.out.1,H.out.2]at s2 s3 ad;rw[H.out.2]at s1;rw[aU]at s1;rw[aU,aU]at s2 s3 ad;rw[H.out.1,H.out.2,aw.out]at ar;rw[show(d.setIfInBounds (b+1) J).setIfInBounds j I=swp d (b+1) j by rw[<-H.out.1,<-H.out.2];rfl]at ar;have ax:=qZ s3;have an:=qZ ad;have cz:(enc I).length=k:=p _;have c0:(enc J).length=k:=p _;clear s3 ad ae a0;obtain⟨dn,bo⟩:∃c,c=enc I:=⟨_,rfl⟩;obtain⟨dp,bp⟩:∃c,c=enc J:=⟨_,rfl⟩;rw[<-bo]at de s2 cz ax an⊢;rw[<-bp]at dg s1 s2 c0 ax an⊢;clear bo bp
    go_big_region_o
    all_goals go_wp2
    go_roundg f;case measure=>omega
    case rel=>exact⟨j,f,swp d (b+1) j,rfl,bI _,oZ,by rw[size_swp];exact bd,oZ,an,ax,qZ ar.out.symm⟩
  .have da:¬(0:Int)<(i:Int):=oZ;have ap:=qZ (bj d wr (by rw[<-aw.out];exact(adL less az i 0 d (.inl oZ)).symm) A bd O);go_wp2_with fail
   go_end0
   exact ap
end bU
variable{c:Cfg.C}{W:World}
namespace bU
open Go Go.RowKit L bM eZ Srt
def xU(hs:List gW)(k:Nat):Vec.V:=(hs.take k).foldl (λv h=>Vec.add v h.cap) Vec.zero
theorem adR(a:List gW)(h:k<a.length):xU a (k+1)=Vec.add (xU a k) a[k].cap:=by unfold xU;rw[bF h,fB];rfl
theorem wW{b:Nat}{E:TypeId}{a0 a1 a2:Value}(h:Blk W b E #[a0,a1,a2])(x0 a c:Value):Blk (((W.setCell (b,0) x0).setCell (b,1) a).setCell (b,2) c) b E #[x0,a,c]:=by have:=((h.bV 0 x0).bV 1 a).bV 2 c;simpa using this
theorem alb(af:bX w v c):gX prog w 170 #[v] (xU c.aQ c.aQ.length).val:=by
 intro w1 ad;obtain⟨v1,v2,rfl,⟨A,ca,rfl,bg,bc⟩,⟨B,O,rfl,ai,ah⟩⟩:=af.below ad;have an:=qZ ai;generalize c.aP.length=NN at*;generalize c.aI=aI at*;generalize c.aK=aK at*;generalize c.aQ=f at*;obtain⟨N,Q⟩:=nZ f.length;have au:=qZ Q;rw[Q]at ah⊢;unfold maxLen at ah;obtain⟨X,j⟩:=nZ (((w1.alloc (.cells #[.slice A NN ca,.slice B N O,aI,aK] 26)).alloc (.cells #[(),(),()] 40)).alloc (.cells #[(),(),()] 40));have ae:Below w1 w1 X:=by rw[<-j];exact kp
 have b:Blk X ((w1:Nat)+1+1) 40 #[(),(),()]:=by rw[<-j];have h:=Blk.new ((w1.alloc (.cells #[.slice A NN ca,.slice B N O,aI,aK] 26)).alloc (.cells #[(),(),()] 40)) 40 #[(),(),()];simp only[bC]at h;exact h
 have a:Blk X ((w1:Nat)+1) 40 #[(),(),()]:=by rw[<-j];have h:=Blk.new (w1.alloc (.cells #[.slice A NN ca,.slice B N O,aI,aK] 26)) 40 #[(),(),()];simp only[bC]at h;exact h.alloc _
 have aa:=qZ (aC a b);have ao:=qZ ae;have aw:=qZ j;clear j a b ae bg ai bc Q af ad;go_enter func170,ntmps170;go_wp2_with fail;rw[aw.out];go_loopg[9] N (λa8 bh wr=>∃k:Nat,bh=.int .i64 k/\k<=N/\N<=a8+k/\Hid (∃s,s=xU f k/\Blk wr ((w1:Nat)+1+1) 40 #[.int .i64 s.x,.int .i64 s.y,.int .i64 s.z]/\Blk wr ((w1:Nat)+1) 40 #[(),(),()])/\Hid (Below w1 w1 wr));case atStart=>exact⟨0,mZ,oZ,oZ,qZ ⟨_,rfl,aa.2,aa.1⟩,ao⟩
 case round=>
  obtain⟨k,rfl,bk,bj,Z,L⟩:=hrel;obtain⟨⟨d,s1,s2⟩,I,b,a⟩:=Z.out;clear Z;have av:=qZ I;by_cases bd:k<N
  .have bf:(k:Int)<(N:Int):=oZ;have T:k<f.length:=by rw[au.out];exact bd
   obtain⟨bi,bm,rfl,bl,ag⟩:=rW an T;obtain⟨aj,p1,p2,p3,p4,ak⟩:=ag wr L;have Y:=qZ (adR f T);generalize f[k]=h at*;obtain⟨a9,ba,bb,⟨u,x,y⟩⟩:=h;simp only at aj p1 p2 p3 p4 ak;obtain⟨wc,l⟩:=nZ (wr.alloc (.cells #[a9,ba,bb,u,x,y] 131));have J:=aX l;have H:=aB l;have i:=b.below H b.lt;have al:=a.below H a.lt;simp only at i;have M:CI wc ((w1:Nat)+1+1) 0 d:=i.cell 0;have c1:CI wc ((w1:Nat)+1+1) 1 s1:=i.cell 1;have c2:CI wc ((w1:Nat)+1+1) 2 s2:=i.cell 2;have d3:CI wc wr 3 u:=J.cell 3;have d4:CI wc wr 4 x:=J.cell 4;have d5:CI wc wr 5 y:=J.cell 5;have o:=qZ (jN.BR ⟨d,s1,s2⟩ ⟨u,x,y⟩);obtain⟨⟨z0,z1,z2⟩,W⟩:∃z,Vec.add ⟨d,s1,s2⟩ ⟨u,x,y⟩=z:=⟨_,rfl⟩;rw[W]at o;simp only[Vec.V.val]at o;have ay:=qY (xU f (k+1)=⟨z0,z1,z2⟩) (by rw[Y.out,<-av.out];exact W);have r:=qZ (aC al i);have ap:=qZ (aA L H);have ax:=qZ l;rw[<-l]at M c1 c2 d3 d4 d5;clear l J i al b a H I W ag T Y;go_wp2_with fail;rw[ax.out];refine(o _).mono ?_;rintro e m⟨rfl,F⟩;have am:=r.1.below F r.1.lt;have g:=r.2.below F r.2.lt;have aq:=qZ (aA ap F);have ab:CI m ((w1:Nat)+1+1) 0 d:=g.cell 0;have e1:CI m ((w1:Nat)+1+1) 1 s1:=g.cell 1;have e2:CI m ((w1:Nat)+1+1) 2 s2:=g.cell 2;have a5:∀n,m.frozen? ⟨(w1:Nat)+1+1,n,none⟩=false:=λn=>g.frozen n;have be:=g.lt;have a0:=qZ (wW g z0 z1 z2);have az:=qZ (((am.far (p:=⟨(w1:Nat)+1+1,0,none⟩) sZ z0).far (p:=⟨(w1:Nat)+1+1,1,none⟩) sZ z1).far (p:=⟨(w1:Nat)+1+1,2,none⟩) sZ z2);have K:Hid (Below w1 w1 (((m.setCell ((w1:Nat)+1+1,0) z0).setCell ((w1:Nat)+1+1,1) z1).setCell ((w1:Nat)+1+1,2) z2)):=qZ (((aq.setCell (by simp;omega) _).setCell (by simp;omega) _).setCell (by simp;omega) _);clear am g F o M c1 c2 d3 d4 d5 aj p1 p2 p3 p4 ak;go_wp2_with fail;go_roundg(N-(k+1));case measure=>omega
   case rel=>exact⟨k+1,mZ,oZ,oZ,qZ ⟨⟨z0,z1,z2⟩,ay.out.symm,a0,az⟩,K⟩
  .have bf:¬(k:Int)<(N:Int):=oZ;simp only at b;have M:CI wr ((w1:Nat)+1+1) 0 d:=b.cell 0;have c1:CI wr ((w1:Nat)+1+1) 1 s1:=b.cell 1;have c2:CI wr ((w1:Nat)+1+1) 2 s2:=b.cell 2;have ab:CI wr ((w1:Nat)+1) 0 0:=a.cell 0;have e1:CI wr ((w1:Nat)+1) 1 0:=a.cell 1;have e2:CI wr ((w1:Nat)+1) 2 0:=a.cell 2;have a5:∀n,wr.frozen? ⟨(w1:Nat)+1,n,none⟩=false:=λn=>a.frozen n;have be:=a.lt;have ar:=qY (xU f N=⟨d,s1,s2⟩) (by rw[show N=k by omega];exact I.symm);have K:Hid (Below w1 w1 (((wr.setCell ((w1:Nat)+1,0) d).setCell ((w1:Nat)+1,1) s1).setCell ((w1:Nat)+1,2) s2)):=qZ (((L.setCell sZ _).setCell sZ _).setCell sZ _);clear b a I;go_wp2_with fail;refine bodyPost_ret (v:=.agg #[d,s1,s2]) (by simp[results,Tryz.results170,go_sem,ab,e1,e2]) rfl ?_;exact⟨by rw[ar.out];rfl,K⟩
def oL(n:Nat):List Value:=[.int .u64 (n:Int)]
theorem finfo:(prog.info? 63).map (λi=>(i.zero,i.size,i.bytes))=some (some (.int .u64 0),1,8):=by kernel_rfl
theorem ajc{B:Nat}{xs:List Nat}(x:Nat)(h:bQ w B 63 1 oL v xs)(b:Below w w W)(p:B<=(w:Nat))(r:xs.length<=1000000):∃v' a,(Builtin.append_ #[29,29] 29 #[v,.slice W 1 1]).run prog (W.alloc (.cells #[.int .u64 (x:Int)] 63))=.ok v' a/\bQ a B 63 1 oL v' (xs++[x])/\Below B W a/\(W:Nat)<=(a:Nat):=by
 obtain⟨i0,hi,j,l,n⟩:=info_parts finfo;have d:Below W W (W.alloc (.cells #[.int .u64 (x:Int)] 63)):=bZ;have f:=(h.below b).below d;have i:=rU (k:=1) (dec:=oL) (x:=x) (Blk.new W 63 #[.int .u64 (x:Int)]) rfl;obtain⟨v',a,e1,e2,e3,e4,o⟩:=mP 29 29 i0 _ 8 underlying29 hi j l n rfl oZ (λ_=>rfl) (ys:=[x]) (m:=1) (c:=1)
  (λu e=>by simp only[dL,kV,fC,oL,bA,dS,or_false]at e;subst e;rfl) f rfl i (by have:=b.size;simp;omega) (by unfold maxLen;omega) oZ
 refine⟨v',a,e1,e2,?_,?_⟩
 .exact Below.grown (Below.mono d (by have:=b.size;omega)) e3 (by simp;have:=b.size;omega) λk g=>(h.lt k g).1
 .have:=e3.size;simp at this;omega
def KD(l:List Nat)(w1:World)(e:Ending)(w':World):Prop:=∃v',e=.returned v'/\bQ w' w1 63 1 oL v' l/\Below w1 w1 w'
theorem aoq(i:Int)(x:kL):bW prog 156 #[i,nval x] (.int .u64 0):=λw=>by obtain⟨n0,n1,⟨n2,b,c⟩,⟨d,e,f⟩,⟨g,j,a⟩⟩:=x;simp only[nval];go_enter func156,ntmps156;go_wp2_with fail;go_ret;exact⟨rfl,bZ⟩
theorem abt{a:List kL}(u:Nodes w v a)(ab:a.length<=1000000):∀w1,Below w w w1->Calls prog 155 #[v,.func (.func 156) #[] #[]] w1 λe w'=>KD (List.replicate a.length 0) w1 e w':=by
 intro w1 m;obtain⟨A,ca,rfl,y,ad⟩:=u.below m;have O:=qZ y;obtain⟨N,d⟩:=nZ a.length;have X:=qZ d;rw[d]at ab⊢;clear y ad d u m;go_enter func155,ntmps155;go_wp2_with fail;go_loopg[5,10] N (λaa ar v10 wr=>∃k:Nat,v10=.int .i64 k/\k<=N/\N<=aa+k/\Hid (bQ wr w1 63 1 oL ar (List.replicate k 0))/\Hid (Below w1 w1 wr));case atStart=>exact⟨0,mZ,oZ,oZ,qZ (bQ.nil _ _ _ _ _),qZ (aJ _ _)⟩
 case round=>
  obtain⟨k,rfl,av,au,i,b⟩:=hrel;by_cases ae:k<N
  .have ag:(k:Int)<(N:Int):=oZ;have s:k<a.length:=by rw[X.out];exact ae
   obtain⟨bn,aw,rfl,af,r⟩:=oH O s;obtain⟨z,p1,p2,p3,p4,H,p6,I,J,K,F⟩:=r wr b;generalize a[k]=x at*;have c:=aoq (k:Int) x;obtain⟨n0,n1,⟨n2,ak,al⟩,⟨am,an,ao⟩,⟨ap,aq,aj⟩⟩:=x;simp only[nval]at c z p1 p2 p3 p4 H p6 I J K F;have M:=qZ c;obtain⟨ax,g⟩:=nZ (wr.alloc (.cells #[n0,n1,n2,ak,al,am,an,ao,ap,aq,aj] 66));have p:=aB g;have T:=qZ p;have Z:=qZ g;clear g p c r af s;go_wp2_with fail;rw[Z.out];refine(M _).mono ?_;rintro e L⟨rfl,n⟩;have f:Below wr wr L:=aA T n;obtain⟨u6,j,ah,l,o,ai⟩:=ajc 0 i f b.size (by simp;omega);have Y:=qY (bQ j w1 63 1 oL u6 (List.replicate (k+1) 0)) (by rw[List.replicate_succ'];exact l);have Q:=qY (Below w1 w1 j) ((b.out.trans (Below.mono f b.size)).trans o);clear l o ai f n z p1 p2 p3 p4 H p6 I J K F;go_wp2_with(at_builtin;refine dJ rfl (.tmp 15) (.tmp 20) _ _ rfl u5 (.slice L 1 1) rfl rfl ah ?_);go_roundg(N-(k+1));case measure=>omega
   case rel=>exact⟨k+1,mZ,oZ,oZ,Y,Q⟩
  .have ag:¬(k:Int)<(N:Int):=oZ;have W:=qY (k=N) (by omega);go_wp2_with fail;go_ret;exact⟨_,rfl,by rw[<-W.out];exact i,b⟩
def WC(b0 b1 b2 b3 b4 b5 b6:Bool):Int:=if b0&&b1&&b2&&b3&&b4&&b5 then(if b6 then 0 else 3)else 1
theorem aqh{X:Value}(o:bX w X c)(p:Ord.P):gX prog w 104 #[X,dW p] (.int .i64 (uG c p)):=by
 intro w1 T;replace o:=o.below T;have ai:=qZ (vZ o p.dN);have d:=qY (WC (fF p.id 1 1073741824) (fF p.eU 1 16) (iJ p.need) (fF p.run 1 1048576) (fF p.aR 0 3) (fF p.prefer 0 p.aR) (iC c p.dN)=uG c p) rfl;have ab:=qZ (vI p.id 1 1073741824);have ad:=qZ (vI p.eU 1 16);have ae:=qZ (jN.QS p.need);have af:=qZ (vI p.run 1 1048576);have ag:=qZ (vI p.aR 0 3);have ah:=qZ (vI p.prefer 0 p.aR);obtain⟨v1,v2,rfl,⟨A,ca,rfl,a8,a0⟩,⟨B,n,rfl,a9,a5⟩⟩:=o;obtain⟨R,J⟩:=nZ (uG c p);rw[J]at d⊢;generalize fF p.id 1 1073741824=ak at*;generalize fF p.eU 1 16=b1 at*;generalize iJ p.need=b2 at*;generalize fF p.run 1 1048576=b3 at*;generalize fF p.aR 0 3=al at*;generalize fF p.prefer 0 p.aR=am at*;generalize iC c p.dN=an at*;generalize c.aP.length=NN at*;generalize c.aQ.length=NH at*;generalize c.aI=aI at*;generalize c.aK=aK at*;obtain⟨y,p1,s,⟨n0,n1,n2⟩,p6,k,r,be,bd⟩:=p;simp only[dW,iD,Vec.V.val]at*;obtain⟨F,j⟩:=nZ ((w1.alloc (.cells #[.slice A NN ca,.slice B NH n,aI,aK] 26)).alloc (.cells #[y,p1,s,n0,n1,n2,p6,k,r] 42));have Z:Blk F ((w1:Nat)+1) 42 #[y,p1,s,n0,n1,n2,p6,k,r]:=by rw[<-j];have h:=Blk.new (w1.alloc (.cells #[.slice A NN ca,.slice B NH n,aI,aK] 26)) 42 #[y,p1,s,n0,n1,n2,p6,k,r];simp only[bC]at h;exact h
 have aa:Blk F w1 26 #[.slice A NN ca,.slice B NH n,aI,aK]:=by rw[<-j];exact Blk.alloc (Blk.new _ _ _) _
 have W:Below w1 w1 F:=by rw[<-j];exact kp
 have a:=qZ (aC Z aa);have g:=qZ W;have aj:=qZ j;clear j Z aa W a8 a9 a0 a5 J T;go_enter func104,ntmps104;go_wp2_with fail;rw[aj.out];refine(ab _).mono ?_;rintro e ba⟨rfl,K⟩;have u:=qZ K;have ao:CI ba ((w1:Nat)+1) 2 s:=(a.1.below u a.1.lt).cell 2;clear K;cases ak
 .have b:=qY (R=1) (by rw[<-d.out];unfold WC;simp);go_wp2_with fail;go_ret;exact⟨by rw[b.out];rfl,aA g u⟩
 go_wp2_with fail;refine(ad _).mono ?_;rintro e z⟨rfl,L⟩;have i:=qZ (aA u L);have ap:CI z ((w1:Nat)+1) 3 n0:=(a.1.below i a.1.lt).cell 3;have aq:CI z ((w1:Nat)+1) 4 n1:=(a.1.below i a.1.lt).cell 4;have ar:CI z ((w1:Nat)+1) 5 n2:=(a.1.below i a.1.lt).cell 5;clear L;clear ao;cases b1
 .have b:=qY (R=1) (by rw[<-d.out];unfold WC;simp);go_wp2_with fail;go_ret;exact⟨by rw[b.out];rfl,aA g i⟩
 go_wp2_with fail;refine(ae _).mono ?_;rintro e bb⟨rfl,M⟩;have v:=qZ (aA i M);have au:CI bb ((w1:Nat)+1) 6 p6:=(a.1.below v a.1.lt).cell 6;clear M;clear ap aq ar;cases b2
 .have b:=qY (R=1) (by rw[<-d.out];unfold WC;simp);go_wp2_with fail;go_ret;exact⟨by rw[b.out];rfl,aA g v⟩
 go_wp2_with fail;refine(af _).mono ?_;rintro e bc⟨rfl,N⟩;have x:=qZ (aA v N);have av:CI bc ((w1:Nat)+1) 7 k:=(a.1.below x a.1.lt).cell 7;clear N;clear au;cases b3
 .have b:=qY (R=1) (by rw[<-d.out];unfold WC;simp);go_wp2_with fail;go_ret;exact⟨by rw[b.out];rfl,aA g x⟩
 go_wp2_with fail;refine(ag _).mono ?_;rintro e Y⟨rfl,O⟩;have m:=qZ (aA x O);have ax:CI Y ((w1:Nat)+1) 8 r:=(a.1.below m a.1.lt).cell 8;have aw:CI Y ((w1:Nat)+1) 7 k:=(a.1.below m a.1.lt).cell 7;clear O;clear av;cases al
 .have b:=qY (R=1) (by rw[<-d.out];unfold WC;simp);go_wp2_with fail;go_ret;exact⟨by rw[b.out];rfl,aA g m⟩
 go_wp2_with fail;refine(ah _).mono ?_;rintro e l⟨rfl,Q⟩;have f:=qZ (aA m Q);have ay:CI l ((w1:Nat)+1) 1 p1:=(a.1.below f a.1.lt).cell 1;have az:CV l (w1:Nat) 0 (.slice A NN ca):=(a.2.below f a.2.lt).cell 0;have d1:CV l (w1:Nat) 1 (.slice B NH n):=(a.2.below f a.2.lt).cell 1;have d2:CI l (w1:Nat) 2 aI:=(a.2.below f a.2.lt).cell 2;have d3:CI l (w1:Nat) 3 aK:=(a.2.below f a.2.lt).cell 3;clear Q;clear ax aw;cases am
 .have b:=qY (R=1) (by rw[<-d.out];unfold WC;simp);go_wp2_with fail;go_ret;exact⟨by rw[b.out];rfl,aA g f⟩
 go_wp2_with fail;refine(ai _ (aA g f)).mono ?_;rintro e bf⟨rfl,I⟩;have H:=qZ (aA g (aA f I));clear I az d1 d2 d3 ay;cases an
 .have b:=qY (R=3) (by rw[<-d.out];rfl);go_wp2_with fail;go_ret;exact⟨by rw[b.out];rfl,H⟩
 .have b:=qY (R=0) (by rw[<-d.out];rfl);go_wp2_with fail;go_ret;exact⟨by rw[b.out];rfl,H⟩
end bU
variable{b1 b2:Nat}{w':World}
namespace bU
open Go Go.RowKit L bM eZ Srt
structure XA (w:World) (b1 b2:Nat) (vc:Value) (t:Vec.V):Prop where
 cfg:∃v1 v2 h a,vc=.agg #[v1,v2,.int .i64 h,.int .i64 a]/\Blk w b1 26 #[v1,v2,.int .i64 h,.int .i64 a]
 tot:Blk w b2 40 #[t.x,t.y,t.z]
theorem XA.on{f:Value}{t:Vec.V}(h:XA w b1 b2 f t)(b:Below w w w'):XA w' b1 b2 f t:=by obtain⟨⟨v1,v2,x,a,e,c⟩,d⟩:=h;exact⟨⟨v1,v2,x,a,e,c.below b c.lt⟩,d.below b d.lt⟩
theorem aoM{O:Value}{t:Vec.V}(v:XA w b1 b2 O t)(m:bX w O c)(i:Nat)(x:Vec.V)(N:jN.In64 x)(M:jN.In64 t):∀w1,Below w w w1->Calls prog 172 #[(i:Int),x.val,.pointer b1,.pointer b2] w1 λe w'=>e=.returned (.int .u64 (if iC c (i:Int)then(Vec.dom x t:Nat)else(0:Nat):Nat))/\Below w1 w1 w':=by
 intro w1 u;replace v:=v.on u;replace m:=m.below u;have r:=qZ (vZ m (i:Int));have p:=qZ (jN.axx x t N M);obtain⟨⟨v1,v2,aI,aK,rfl,xc⟩,y⟩:=v;obtain⟨u1,u2,e,⟨A,ca,rfl,ae,ab⟩,⟨B,I,rfl,af,ad⟩⟩:=m;obtain⟨rfl,rfl,rfl,rfl⟩:v1=.slice A c.aP.length ca/\v2=.slice B c.aQ.length I/\aI=c.aI/\aK=c.aK:=by simp at e;exact e
 obtain⟨s,L⟩:=nZ (iC c (i:Int));obtain⟨d,K⟩:=nZ (Vec.dom x t);rw[L]at r⊢;rw[K]at p⊢;obtain⟨x0,Q,T⟩:=x;obtain⟨ag,ah,ai⟩:=t;simp only[Vec.V.val]at*;generalize c.aP.length=NN at*;generalize c.aQ.length=NH at*;generalize c.aI=aI at*;generalize c.aK=aK at*;obtain⟨f,b⟩:=nZ (w1.alloc (.cells #[x0,Q,T] 40));have l:=aB b;have W:=aX b;have g:=xc.below l xc.lt;have X:=y.below l y.lt;have j:=qZ (aC W X);have H:CV f b1 0 (.slice A NN ca):=g.cell 0;have c1:CV f b1 1 (.slice B NH I):=g.cell 1;have c2:CI f b1 2 aI:=g.cell 2;have c3:CI f b1 3 aK:=g.cell 3;have F:=qZ l;have Z:=qZ b;rw[<-b]at H c1 c2 c3;clear b l W g X xc y ae ab af ad u e L K N M;go_enter func172,ntmps172;go_wp2_with fail;rw[Z.out];refine(r f F).mono ?_;rintro e a⟨rfl,k⟩;have n:=j.1.below k j.1.lt;have o:=j.2.below k j.2.lt;have z:=qZ (aA F k);have aa:CI a w1 0 x0:=n.cell 0;have d1:CI a w1 1 Q:=n.cell 1;have d2:CI a w1 2 T:=n.cell 2;have d3:CI a b2 0 ag:=o.cell 0;have d4:CI a b2 1 ah:=o.cell 1;have d5:CI a b2 2 ai:=o.cell 2;clear H c1 c2 c3 n o k r;cases s
 .go_wp2_with fail;go_ret;exact⟨rfl,z⟩
 .go_wp2_with fail;refine(p _).mono ?_;rintro e aj⟨rfl,J⟩;have Y:=qZ (aA z J);clear J p aa d1 d2 d3 d4 d5;go_wp2_with fail;go_ret;exact⟨rfl,Y⟩
def LW(c:Cfg.C)(t:Vec.V)(us:List Vec.V)(k:Nat):List Nat:=(List.range k).map λi:Nat=>if iC c (i:Int)then Vec.dom (us.getD i Vec.zero) t else 0
theorem alx(c:Cfg.C)(t:Vec.V)(a:List Vec.V)(h:k<a.length):LW c t a (k+1)=LW c t a k++[if iC c (k:Int)then Vec.dom a[k] t else 0]:=by unfold LW;rw[List.range_succ,dO,cZ,gM,aL,aH h,Option.getD_some]
theorem aoL(c:Cfg.C)(rs:List Top.R):LW c (Cfg.oV c) (Top.used c rs) (Top.used c rs).length=mI c rs:=by
 unfold LW mI JB;apply List.ext_getElem
 .simp
 .intro i a b;simp at a;simp[a]
theorem alz{T:Value}{t:Vec.V}{a:List Vec.V}(O:XA w b1 b2 T t)(F:bX w T c)(M:VSl w v a)(ak:a.length<=1000000)(hi:∀x∈a,jN.In64 x)(L:jN.In64 t):∀w1,Below w w w1->Calls prog 171 #[v,.func (.func 172) #[] #[.pointer b1,.pointer b2]] w1 λe w'=>KD (LW c t a a.length) w1 e w':=by
 intro w1 g;have Y:=qZ (λ(i:Nat) x (aq:jN.In64 x) W (h:Below w1 w1 W)=>aoM (O.on g) (F.below g) i x aq L W h);obtain⟨A,ca,rfl,K,al⟩:=M.below g;have aa:=qZ K;have af:=qZ hi;obtain⟨N,m⟩:=nZ a.length;have ag:=qZ m;rw[m]at ak⊢;clear K al m M g O F hi L;go_enter func171,ntmps171;go_wp2_with fail;go_loopg[5,10] N (λaj au v10 wr=>∃k:Nat,v10=.int .i64 k/\k<=N/\N<=aj+k/\Hid (bQ wr w1 63 1 oL au (LW c t a k))/\Hid (Below w1 w1 wr));case atStart=>exact⟨0,mZ,oZ,oZ,qZ (bQ.nil _ _ _ _ _),qZ (aJ _ _)⟩
 case round=>
  obtain⟨k,rfl,ax,aw,r,b⟩:=hrel;by_cases am:k<N
  .have ao:(k:Int)<(N:Int):=oZ;have j:k<a.length:=by rw[ag.out];exact am
   obtain⟨bn,ay,rfl,an,H⟩:=SA aa j;obtain⟨Q,p1,p2⟩:=H wr b;have p:=qZ (alx c t a j);have J:=af.out _ (bB j);generalize a[k]=x at*;obtain⟨av,l⟩:=nZ (wr.alloc (.cells #[x.x,x.y,x.z] 40));have o:=aB l;have f:=Y.out k x J av (aA b o);obtain⟨d,I⟩:∃d:Nat,(if iC c (k:Int)then Vec.dom x t else 0)=d:=⟨_,rfl⟩;rw[I]at f p;obtain⟨x0,az,a0⟩:=x;simp only[Vec.V.val]at f Q p1 p2 l;have Z:=qZ f;have ad:=qZ o;have ai:=qZ l;clear l o f H an j J I;go_wp2_with fail;rw[ai.out];refine Z.mono ?_;rintro e X⟨rfl,y⟩;have n:Below wr wr X:=aA ad y;obtain⟨u6,s,ap,u,z,ar⟩:=ajc d r n b.size (by simp[LW];omega);have ah:=qY (bQ s w1 63 1 oL u6 (LW c t a (k+1))) (by rw[p.out];exact u);have ab:=qY (Below w1 w1 s) ((b.out.trans (Below.mono n b.size)).trans z);clear u z ar n y Q p1 p2;go_wp2_with(at_builtin;refine dJ rfl (.tmp 15) (.tmp 20) _ _ rfl u5 (.slice X 1 1) rfl rfl ap ?_);go_roundg(N-(k+1));case measure=>omega
   case rel=>exact⟨k+1,mZ,oZ,oZ,ah,ab⟩
  .have ao:¬(k:Int)<(N:Int):=oZ;have ae:=qY (k=N) (by omega);go_wp2_with fail;go_ret;exact⟨_,rfl,by rw[<-ae.out];exact r,b⟩
end bU
variable{vr:Value}
namespace bU
open Go Go.RowKit L bM eZ Srt
theorem aot(c:Cfg.C):xU c.aQ c.aQ.length=Cfg.oV c:=by unfold xU Cfg.oV;rw[aT lZ]
theorem aiJ(a:bX w v c)(j:Runs w vr rl)(aq:c.aP.length<=1000000)(ab:(Top.used c (rl.map eY)).length<=1000000)(hi:∀x∈Top.used c (rl.map eY),jN.In64 x)(s:jN.In64 (Cfg.oV c)):∀w1,Below w w w1->Calls prog 113 #[v,vr] w1 λe w'=>KD (mI c (rl.map eY)) w1 e w':=by intro w1 o;replace a:=a.below o;replace j:=j.below o;have b:=qZ (alb a);rw[aot]at b;have l:=qZ (λW (h:Below w1 w1 W)=>by have:=AR a j aq W h;rw[KM]at this;exact this);rw[<-aoL];obtain⟨an,X⟩:=nZ (Top.used c (rl.map eY));rw[X]at l ab hi⊢;obtain⟨⟨u,y,z⟩,Q⟩:∃T,Cfg.oV c=T:=⟨_,rfl⟩;rw[Q]at b s⊢;have K:=qZ (λW b1 b2 H (h:Below w1 w1 W) (az:XA W b1 b2 v ⟨u,y,z⟩) (ay:VSl W H an)=>alz az (a.below h) ay ab hi s W (aJ _ _));obtain⟨v1,v2,rfl,⟨A,ca,rfl,av,ap⟩,⟨B,n,rfl,aw,ar⟩⟩:=a;obtain⟨F,cf,rfl,ax,au,ao⟩:=j;simp only[Vec.V.val]at b;generalize c.aP.length=NN at*;generalize c.aQ.length=NH at*;generalize c.aI=aI at*;generalize c.aK=aK at*;generalize rl.length=NR at*;obtain⟨a0,k⟩:=nZ (w1.alloc (.cells #[.slice A NN ca,.slice B NH n,aI,aK] 26));have ag:=aX k;have Z:=aB k;have N:=qZ ag;have M:=qZ Z;have al:=qZ k;clear k ag Z av aw ap ar ax au ao X Q hi s o;go_enter func113,ntmps113;go_wp2_with fail;rw[al.out];refine(b a0 M).mono ?_;rintro e I⟨rfl,p⟩;have J:=N.below p N.out.lt;obtain⟨f,d⟩:=nZ (I.alloc (.cells #[u,y,z] 40));have af:=aX d;have r:=aB d;have z4:=J.below r J.lt;have O:CV f w1 0 (.slice A NN ca):=z4.cell 0;have c1:CV f w1 1 (.slice B NH n):=z4.cell 1;have c2:CI f w1 2 aI:=z4.cell 2;have c3:CI f w1 3 aK:=z4.cell 3;have g:=qZ (aC z4 af);have L:=qZ (aA M (aA p r));have ak:=qZ d;rw[<-d]at O c1 c2 c3;clear d af r z4 J p b;go_wp2_with fail;rw[ak.out];refine(l f L).mono ?_;rintro e ae⟨H,rfl,ad,i⟩;have aj:=qZ ad.sl;have m:=qZ (aA L i);have am:=qY (XA ae (w1:Nat) (I:Nat) (.agg #[.slice A NN ca,.slice B NH n,aI,aK]) ⟨u,y,z⟩) (⟨⟨_,_,_,_,rfl,g.1.below i g.1.lt⟩,g.2.below i g.2.lt⟩);clear ad i O c1 c2 c3 l;go_wp2_with fail;refine(K ae (w1:Nat) (I:Nat) H m am aj).mono ?_;rintro e a5⟨v',rfl,aa,Y⟩;have ai:=qZ (aa.low m.size);have ah:=qZ (aA m Y);clear aa Y K;go_wp2_with fail;go_ret;exact⟨_,rfl,ai,ah⟩
end bU
variable{b3:Nat}{A:Option Addr}
namespace bU
open Go Go.RowKit L bM eZ Srt
theorem ahF(a b:Nat):Fix.mul a b<=Fix.top:=by unfold Fix.mul Fix.cut;split<;>omega
theorem KP{xs:List Nat}(h:gQ w A 1 oL xs)(a:k<xs.length):∃b o,A=some ⟨b,o,none⟩/\b<(w:Nat)/\∀w',Below w w w'->w'.cell? ⟨b,o+k,none⟩=some (.int .u64 (xs[k]:Int)):=by obtain⟨b,o,rfl,c,f⟩:=h (by intro e;subst e;simp at a);have g:=aH a;refine⟨b,o,rfl,c,λw' d=>?_⟩;have:=f k xs[k] g 0 (.int .u64 (xs[k]:Int)) rfl;rw[Nat.add_zero,gY]at this;exact(d.cell (p:=⟨b,o+k,none⟩) c).trans this
theorem aoD{vs:Value}{a:List Nat}{left time:Nat}(u:Blk w b1 63 #[.int .u64 (left:Int)])(v:Blk w b2 29 #[vs])(y:Blk w b3 63 #[.int .u64 (time:Int)])(d:SlK w 1 oL vs a)(au:a.length<=1000000)(Y:left<=Fix.top)(ad:time<=Fix.top)(ab:∀x∈a,x<=Fix.top)(i x:Nat)(ae:x<=Fix.top):∀w1,Below w w w1->Calls prog 167 #[(i:Int),.int .u64 (x:Int),.pointer b1,.pointer b2,.pointer b3] w1 λe w'=>e=.returned (.int .u64 (xV left time a i x:Nat))/\Below w1 w1 w':=by
 intro w1 g;replace d:=d.below g;have ag:=qZ (λW (b:Below w1 w1 W)=>u.below (aA g b) u.lt);have n:=qZ (λW (b:Below w1 w1 W)=>v.below (aA g b) v.lt);have ah:=qZ (λW (b:Below w1 w1 W)=>y.below (aA g b) y.lt);obtain⟨A,ca,rfl,aa⟩:=d;obtain⟨m,k⟩:=nZ (Fix.mul x left);have l:=qZ (sK.ajL x left ae Y);have Z:m<=Fix.top:=by rw[<-k];exact ahF _ _
 rw[k]at l;have p:=qY (xV left time a i x=if i<a.length then Fix.add m (Fix.mul (a.getD i 0) time)else m) (by unfold xV;rw[k]);have ai:=qZ aa;have an:=qZ ab;obtain⟨N,z⟩:=nZ a.length;have am:=qZ z;rw[z]at au p n;have al:=qZ Z;have ao:=qZ ad;have c1:CV w1 b1 0 (.int .u64 (left:Int)):=(ag w1 (aJ _ _)).cell 0;clear u v y g aa ab z k ae Y ad Z;go_enter func167,ntmps167;go_wp2_with fail;refine(l _).mono ?_;rintro e c⟨rfl,F⟩;have f:=qZ F;have c2:CV c b2 0 (.slice A N ca):=(n c F).cell 0;clear F c1 l;by_cases hi:i<N
 .have aq:(i:Int)<(N:Int):=oZ;have j:i<a.length:=by rw[am.out];exact hi
  obtain⟨Q,af,rfl,ar,H⟩:=KP ai j;have K:=an.out _ (bB j);have O:Hid (a.getD i 0=a[i]):=qZ (by rw[aL,aH j,Option.getD_some]);obtain⟨s,d⟩:=nZ (a[i]);rw[d]at K H O;have L:=qZ (sK.ajL s time K ao);have M:=qZ (sK.BR m (Fix.mul s time) al (ahF _ _));have o:=qY (xV left time a i x=Fix.add m (Fix.mul s time)) (by rw[p.out,aG hi,O.out]);generalize Fix.mul s time=q at*;generalize Fix.add m q=r at*;have aj:=qZ H;clear d K H ar j;go_wp2_with fail;refine lU (aF c) (.take 0 (.take 1 (.take 2 (.take 3 (.take 4 (.take 5 (.one 6 (.one 7 (.take 8 .done))))))))) kZ kZ (aF.drew c) ?_;have ap:∀W,aF c W->CV W b2 0 (.slice (some ⟨Q,af,none⟩) N ca)/\CV W b3 0 (.int .u64 (time:Int)):=λW b=>⟨(n W (aA f b)).cell 0,(ah W (aA f b)).cell 0⟩;have d2:∀W,aF c W->CV W Q (af+i) (.int .u64 (s:Int)):=λW b=>aj W (aA f b);(iterate 6 refine tT ?_);clear ap d2 c2;refine eT ?_;refine tC ?_;refine(L _).mono ?_;rintro e av⟨rfl,T⟩;have I:aF c av:=aA (aF.drew c) T;refine⟨_,rfl,I,?_⟩;refine eT ?_;refine tC ?_;refine(M _).mono ?_;rintro e aw⟨rfl,X⟩;have J:aF c aw:=aA I X;refine⟨_,rfl,J,?_⟩;(iterate 1 refine tT ?_);refine fZ ?_;have ak:=qZ (aA f J);clear T I X J L M;go_wp2_with fail;go_ret;exact⟨by rw[o.out];rfl,ak⟩
 .have aq:¬(i:Int)<(N:Int):=oZ;have o:=qY (xV left time a i x=m) (by rw[p.out,aD hi]);go_wp2_with fail;go_ret;exact⟨by rw[o.out];rfl,f⟩
end bU
variable{h:List Nat}
namespace bU
open Go Go.RowKit L bM eZ Srt
def LQ(left time:Nat)(sh h:List Nat)(k:Nat):List Nat:=(List.range k).map λi:Nat=>xV left time sh i (h.getD i 0)
theorem ald(left time:Nat)(a h:List Nat)(b:k<h.length):LQ left time a h (k+1)=LQ left time a h k++[xV left time a k h[k]]:=by unfold LQ;rw[List.range_succ,dO,cZ,gM,aL,aH b,Option.getD_some]
theorem aoz(h b:List Nat)(n aI:Int):LQ (nX n aI) (Fix.ofInt n) b h h.length=rR h b n aI:=by
 unfold LQ rR;apply List.ext_getElem
 .simp
 .intro i a c;simp at a;simp[a]
theorem alh{vs:Value}{a:List Nat}{left time:Nat}(p:Blk w b1 63 #[.int .u64 (left:Int)])(r:Blk w b2 29 #[vs])(s:Blk w b3 63 #[.int .u64 (time:Int)])(L:SlK w 1 oL vs a)(J:a.length<=1000000)(I:left<=Fix.top)(O:time<=Fix.top)(M:∀x∈a,x<=Fix.top)(hv:SlK w 1 oL v h)(ai:h.length<=1000000)(F:∀x∈h,x<=Fix.top):∀w1,Below w w w1->Calls prog 166 #[v,.func (.func 167) #[] #[.pointer b1,.pointer b2,.pointer b3]] w1 λe w'=>KD (LQ left time a h h.length) w1 e w':=by
 intro w1 g;have Q:=qZ (λ(i x:Nat) (ak:x<=Fix.top) W (h:Below w1 w1 W)=>aoD p r s L J I O M i x ak W (aA g h));obtain⟨A,ca,rfl,K⟩:=hv.below g;have T:=qZ K;have Z:=qZ F;obtain⟨N,f⟩:=nZ h.length;have aa:=qZ f;rw[f]at ai⊢;clear K f hv g p r s L J I O M F;go_enter func166,ntmps166;go_wp2_with fail;go_loopg[5,10] N (λae an v10 wr=>∃k:Nat,v10=.int .i64 k/\k<=N/\N<=ae+k/\Hid (bQ wr w1 63 1 oL an (LQ left time a h k))/\Hid (Below w1 w1 wr));case atStart=>exact⟨0,mZ,oZ,oZ,qZ (bQ.nil _ _ _ _ _),qZ (aJ _ _)⟩
 case round=>
  obtain⟨k,rfl,aq,ap,m,b⟩:=hrel;by_cases af:k<N
  .have ah:(k:Int)<(N:Int):=oZ;have c:k<h.length:=by rw[aa.out];exact af
   obtain⟨bn,ar,rfl,ag,z⟩:=KP T c;have am:=z wr b;have ab:=qZ (ald left time a h c);have H:=Z.out _ (bB c);generalize h[k]=x at*;have o:=Q.out k x H wr b;generalize xV left time a k x=d at*;have l:=qZ o;clear o z ag c H;go_wp2_with fail;refine l.mono ?_;rintro e ao⟨rfl,j⟩;obtain⟨u6,n,aj,u,y,al⟩:=ajc d m j b.size (by simp[LQ];omega);have ad:=qY (bQ n w1 63 1 oL u6 (LQ left time a h (k+1))) (by rw[ab.out];exact u);have X:=qY (Below w1 w1 n) ((b.out.trans (Below.mono j b.size)).trans y);clear u y al j am l;go_wp2_with(at_builtin;refine dJ rfl (.tmp 15) (.tmp 20) _ _ rfl u5 (.slice ao 1 1) rfl rfl aj ?_);go_roundg(N-(k+1));case measure=>omega
   case rel=>exact⟨k+1,mZ,oZ,oZ,ad,X⟩
  .have ah:¬(k:Int)<(N:Int):=oZ;have Y:=qY (k=N) (by omega);go_wp2_with fail;go_ret;exact⟨_,rfl,by rw[<-Y.out];exact m,b⟩
theorem aoC{vs:Value}{b:List Nat}{n aI:Int}(L:SlK w 1 oL vs b)(ab:b.length<=1000000)(M:∀x∈b,x<=Fix.top)(hv:SlK w 1 oL v h)(ad:h.length<=1000000)(I:∀x∈h,x<=Fix.top)(c: -9223372036854775808<=n/\n<=9223372036854775807)(d: -9223372036854775808<=aI/\aI<=9223372036854775807)(H:nX n aI<=Fix.top)(J:Fix.ofInt n<=Fix.top):∀w1,Below w w w1->Calls prog 112 #[v,vs,n,aI] w1 λe w'=>KD (rR h b n aI) w1 e w':=by
 intro w1 j;rw[<-aoz];have p:=qZ (λW=>akI.ajW n aI c.1 c.2 d.1 d.2 W);have r:=qZ (sK.gof n c.1 c.2);generalize nX n aI=left at*;generalize Fix.ofInt n=time at*;have s:=qZ (λW b1 b2 b3 (z:Below w1 w1 W) d h2 h3=>alh (w:=W) (b1:=b1) (b2:=b2) (b3:=b3) (left:=left) (time:=time) d h2 h3 ((L.below j).below z) ab H J M ((hv.below j).below z) ad I W (aJ _ _));obtain⟨A,ca,rfl,ae⟩:=L;obtain⟨B,ag,rfl,af⟩:=hv;have Z:=qZ ((aJ _ _:Below w1 w1 w1).alloc lZ (.cells #[.slice A b.length ca] 29));have y:=qZ (Blk.new w1 29 #[.slice A b.length ca]);clear ae af j H J M I c d;go_enter func112,ntmps112;go_wp2_with fail;refine(p _).mono ?_;rintro e ah⟨rfl,k⟩;have o:=y.below k y.out.lt;have T:=qZ (aA Z k);clear k p;go_wp2_with fail;refine(r _).mono ?_;rintro e a⟨rfl,l⟩;have N:=o.below l o.lt;have X:=qZ (aA T l);have u:=qZ N;clear l o N r;go_wp2_with fail;obtain⟨g,f⟩:=nZ ((a.alloc (.cells #[.int .u64 (left:Int)] 63)).alloc (.cells #[.int .u64 (time:Int)] 63));have O:Blk g a 63 #[.int .u64 (left:Int)]:=by rw[<-f];exact Blk.alloc (Blk.new _ _ _) _
 have Q:Blk g ((a:Nat)+1) 63 #[.int .u64 (time:Int)]:=by rw[<-f];have h:=Blk.new (a.alloc (.cells #[.int .u64 (left:Int)] 63)) 63 #[.int .u64 (time:Int)];simp only[bC]at h;exact h
 have m:Below a a g:=by rw[<-f];exact kp
 have i:=qZ (aA X m);rw[f];refine(s g (a:Nat) (w1:Nat) ((a:Nat)+1) i O (u.below m u.out.lt) Q).mono ?_;rintro e ai⟨v',rfl,K,F⟩;have aa:=qZ (K.low i.size);have Y:=qZ (aA i F);clear K F s O Q m f;go_wp2_with fail;go_ret;exact⟨_,rfl,aa,Y⟩
end bU
variable{l':List UInt8}{g n:Nat}
namespace bU
open Go Go.RowKit L
def oF(w:World)(rb:Nat)(l:List UInt8):Prop:=Blk w rb 386 #[.string (str l)]
def iI(w:World)(rb:Nat)(l:List UInt8)(w':World):Prop:=oF w' rb l/\aO (λi=>i=rb) w w'
theorem iI.trans{a b c:World}{d:Nat}{l:List UInt8}(h:iI a d l b)(k:iI b d l' c):iI a d l' c:=⟨k.1,h.2.trans k.2⟩
theorem oF.below{a:Nat}{l:List UInt8}(h:oF w a l)(b:Below w w w'):oF w' a l:=Blk.below h b (Blk.lt h)
theorem aeb(b:UInt8)(t:List UInt8):(str (b::t)).extract 1 (str (b::t)).size=str t:=by rw[extract_eq,mO,pF];congr 1;simp
theorem vM{n:Int}(o:0<=n/\n<=127){t:List UInt8}(z:t.length<=100000){a:Nat}(h:oF w a (Top.byte n::t)):Calls prog 301 #[.pointer (some ⟨a,0,none⟩)] w λe w'=>e=.returned (.int .i64 n)/\iI w a t w':=by
 have g:(str (Top.byte n::t)).size=t.length+1:=by rw[pF,List.length_cons]
 have x:=Blk.lt h;have l:CV w a 0 (.string (str (Top.byte n::t))):=Blk.cell h 0;have d:=aqg o t oZ;have k:=qZ (aeb (Top.byte n) t);have b:=qZ h;unfold oF at b;obtain⟨s,r⟩:=nZ (str (Top.byte n::t));rw[r]at g l d k b;have y:1<=s.size:=oZ;have u:=qZ g;clear r h o g;go_enter func301,ntmps301;go_wp2_with fail;refine(d _).mono ?_;rintro e w1⟨rfl,f⟩;have c:=b.below f b.out.lt;have c1:CV w1 a 0 (.string s):=c.cell 0;have v:w1.frozen? ⟨a,0,none⟩=false:=c.frozen 0;have j:=qY (iI w a t (w1.setCell ⟨a,0,none⟩ (.string (str t)))) (⟨c.bV 0 _,aO.setCell (F:=λi=>i=a) (p:=⟨a,0,none⟩) (aO.bS f) (.inl rfl) _⟩);rw[<-k.out]at j;clear c f d l;go_wp2_with fail;refine(iV true 10 _).mono ?_;rintro e A⟨m,rfl⟩;rw[fD,aG rfl]at m;subst m;go_wp2_with fail;go_ret;exact⟨rfl,j⟩
theorem iI.refl{w:World}{a:Nat}{l:List UInt8}(h:oF w a l):iI w a l w:=⟨h,aO.refl _ _⟩
theorem iI.alloc{a:Nat}{l:List UInt8}(h:iI w a l W)(o:Obj):iI w a l (W.alloc o):=⟨h.1.below (bZ),h.2.alloc _⟩
theorem iI.bV{a:Nat}{l:List UInt8}(h:iI w a l W)(b:(w:Nat)<=g)(c:g≠a)(i:Nat)(u:Value):iI w a l (W.setCell (g,i) u):=⟨Blk.far h.1 (λe=>c e.symm) u,h.2.setCell (p:=⟨g,i,none⟩) (.inr b) u⟩
theorem oJ{a:Nat}{n:Int}{t:List UInt8}(c:0<=n/\n<=127)(d:t.length<=100000)(h:iI w a (Top.byte n::t) W):Calls prog 301 #[.pointer a] W λe w'=>e=.returned n/\iI w a t w'/\aO (λi=>i=a) W w':=
 (vM c d h.1).mono λ_ _ ⟨b,ho⟩=>⟨b,h.trans ho,ho.2⟩
theorem aqD{a b c:Value}{t:TypeId}(h:Blk w g t #[a,b,c])(x y z:Value):Blk (((w.setCell (g,0) x).setCell (g,1) y).setCell (g,2) z) g t #[x,y,z]:=by have:=((h.bV 0 x).bV 1 y).bV 2 z;simpa using this
theorem aor{x y z:Int}(W:0<=x/\x<=127)(X:0<=y/\y<=127)(Y:0<=z/\z<=127){t:List UInt8}(T:t.length<=90000){b:Nat}(h:oF w b (Top.byte x::Top.byte y::Top.byte z::t)):Calls prog 313 #[.pointer b] w λe w'=>e=.returned (.agg #[x,y,z])/\iI w b t w':=by
 have az:b<(w:Nat):=Blk.lt h;obtain⟨ad,o⟩:=nZ (w.alloc (.cells #[(),(),()] 40));have ah:=qY (iI w b (Top.byte x::Top.byte y::Top.byte z::t) ad) (by rw[<-o];exact(iI.refl h).alloc _);have J:=qY (Blk ad w 40 #[(),(),()]) (by rw[<-o];exact Blk.new _ _ _);have am:=qZ o;obtain⟨a,F⟩:=nZ (w:Nat);have al:=qZ F;have c:=qY (a≠b) oZ;have f:=qY ((w:Nat)<=a) oZ;have A:=qZ T;rw[F]at J;have ae:=qZ W;have af:=qZ X;have ag:=qZ Y;clear o F h az T W X Y;go_enter func313,ntmps313;go_wp2_with fail;rw[am.out,al.out];refine wp_loop_rounds 4 ?_;rw[rounds_succ];go_wp2_with fail;refine(oJ ae (by have:=A.out;simp;omega) ah).mono ?_;rintro e w1⟨rfl,N,Z⟩;have r:=J.bD Z c;have av:CI w1 a 0 0:=r.cell 0;have aw:w1.frozen? (a,0)=false:=r.frozen 0;obtain⟨K,j⟩:=nZ (w1.setCell (a,0) x);have ai:=qY (iI w b (Top.byte y::Top.byte z::t) K) (by rw[<-j];exact N.bV f c 0 _);have ar:=qY (Blk K a 40 #[x,(),()]) (by rw[<-j];exact r.bV 0 _);have an:=qZ j;clear j N Z r;go_wp2_with fail;rw[an.out];rw[rounds_succ];clear av aw;go_wp2_with fail;refine(oJ af (by have:=A.out;simp;omega) ai).mono ?_;rintro e H⟨rfl,O,aa⟩;have s:=ar.bD aa c;have c1:CI H a 1 0:=s.cell 1;have ax:H.frozen? (a,1)=false:=s.frozen 1;obtain⟨L,k⟩:=nZ (H.setCell (a,1) y);have aj:=qY (iI w b (Top.byte z::t) L) (by rw[<-k];exact O.bV f c 1 _);have au:=qY (Blk L a 40 #[x,y,()]) (by rw[<-k];exact s.bV 1 _);have ao:=qZ k;clear k O aa s;go_wp2_with fail;rw[ao.out];rw[rounds_succ];clear c1 ax;go_wp2_with fail;refine(oJ ag (by have:=A.out;omega) aj).mono ?_;rintro e I⟨rfl,Q,ab⟩;have u:=au.bD ab c;have c2:CI I a 2 0:=u.cell 2;have ay:I.frozen? (a,2)=false:=u.frozen 2;obtain⟨d,l⟩:=nZ (I.setCell (a,2) z);have M:iI w b t d:=by rw[<-l];exact Q.bV f c 2 _
 have g:Blk d a 40 #[x,y,z]:=by rw[<-l];exact u.bV 2 _
 have ap:=qZ l;clear l Q ab u;go_wp2_with fail;rw[ap.out];rw[rounds_succ];clear c2 ay;obtain⟨i,m⟩:=nZ (((d.setCell (a,0) x).setCell (a,1) y).setCell (a,2) z);have ak:=qY (iI w b t i) (by rw[<-m];exact((M.bV f c 0 _).bV f c 1 _).bV f c 2 _);have p:Blk i a 40 #[x,y,z]:=by rw[<-m];exact aqD g _ _ _
 have aq:=qZ m;obtain⟨a9,d1,d2⟩:CI d a 0 x/\CI d a 1 y/\CI d a 2 z:=⟨g.cell 0,g.cell 1,g.cell 2⟩;obtain⟨a0,a5,a8⟩:CI i a 0 x/\CI i a 1 y/\CI i a 2 z:=⟨p.cell 0,p.cell 1,p.cell 2⟩;have ba:∀n,d.frozen? ⟨a,n,none⟩=false:=λn=>g.frozen n;clear M g m p;go_wp2_with fail;rw[aq.out];refine bodyPost_ret (v:=.agg #[x,y,z]) (by simp[results,Tryz.results313,go_sem,a0,a5,a8]) rfl ?_;exact⟨rfl,ak⟩
theorem anF(p:n<=127){t:List UInt8}(r:t.length<=90000)(m:n<=t.length){a:Nat}(h:oF w a (Top.byte n::t)):Calls prog 312 #[.pointer a] w λe w'=>e=.returned n/\iI w a t w':=by
 have f:=qZ (vM (n:=n) oZ oZ h);have d:(str t).size=t.length:=pF t;obtain⟨s,c⟩:=nZ (str t);have j:=qZ c;rw[c]at d;have o:decide (n<=s.size)=true:=by simp;omega
 clear h c;have k:=qZ d;clear d;go_enter func312,ntmps312;go_wp2_with fail;refine f.out.mono ?_;rintro e w1⟨rfl,b⟩;have l:w1.cell? (a,0)=some (.string s):=by rw[<-j.out];exact Blk.cell b.1 0
 have i:=qZ b;clear b f;go_wp2_with fail;refine(iV true 10 _).mono ?_;rintro e u⟨g,rfl⟩;rw[fD,aG rfl]at g;subst g;go_wp2_with fail;go_ret;exact⟨rfl,i⟩
open bM eZ Srt
theorem CY{a:Nat}{x y z:Int}(d:0<=x/\x<=127)(f:0<=y/\y<=127)(g:0<=z/\z<=127){t:List UInt8}(c:t.length<=90000)(h:iI w a (Top.byte x::Top.byte y::Top.byte z::t) W):Calls prog 313 #[.pointer a] W λe w'=>e=.returned (.agg #[x,y,z])/\iI w a t w'/\aO (λi=>i=a) W w':=
 (aor d f g c h.1).mono λ_ _ ⟨b,ho⟩=>⟨b,h.trans ho,ho.2⟩
theorem aaj{a:Nat}(d:n<=127){t:List UInt8}(f:t.length<=90000)(b:n<=t.length)(h:iI w a (Top.byte n::t) W):Calls prog 312 #[.pointer a] W λe w'=>e=.returned n/\iI w a t w'/\aO (λi=>i=a) W w':=
 (anF d f b h.1).mono λ_ _ ⟨c,ho⟩=>⟨c,h.trans ho,ho.2⟩
def nine(w:World)(b:Nat)(u0 u1 u2 u3 u4 u5 u6 u7 u8:Value):World:=((((((((w.setCell (b,0) u0).setCell (b,1) u1).setCell (b,2) u2).setCell (b,3) u3).setCell (b,4) u4).setCell (b,5) u5).setCell (b,6) u6).setCell (b,7) u7).setCell (b,8) u8
theorem apH{b:Nat}{t:TypeId}{a c1 c2 c3 c4 c5 c6 c7 c8:Value}(h:Blk w b t #[a,c1,c2,c3,c4,c5,c6,c7,c8])(u0 u1 u2 u3 u4 u5 u6 u7 u8:Value):Blk (nine w b u0 u1 u2 u3 u4 u5 u6 u7 u8) b t #[u0,u1,u2,u3,u4,u5,u6,u7,u8]:=by have h:=(((((((((h.bV 0 u0).bV 1 u1).bV 2 u2).bV 3 u3).bV 4 u4).bV 5 u5).bV 6 u6).bV 7 u7).bV 8 u8);simpa[nine]using h
theorem apG{d:Nat}{l:List UInt8}(h:iI w d l W){b:Nat}(a:(w:Nat)<=b)(c:b≠d)(u0 u1 u2 u3 u4 u5 u6 u7 u8:Value):iI w d l (nine W b u0 u1 u2 u3 u4 u5 u6 u7 u8):=
 (((((((((h.bV a c 0 _).bV a c 1 _).bV a c 2 _).bV a c 3 _).bV a c 4 _).bV a c 5 _).bV a c 6 _).bV a c 7 _).bV a c 8 _)
theorem amZ{g:Ord.P}(m:Top.Low (rH g)){t:List UInt8}(aj:t.length<=80000){k:Nat}(h:oF w k (Top.bytes (rH g)++t)):Calls prog 303 #[.pointer k] w λe w'=>e=.returned (dW g)/\iI w k t w':=by
 obtain⟨id,j,f,⟨x,y,z⟩,run,aR,i,b4,b3⟩:=g;have T:=qZ (m id (by simp[rH,nL]));have aa:=qZ (m j (by simp[rH,nL]));have X:=qZ (m f (by simp[rH,nL]));have ab:=qZ (m x (by simp[rH,nL]));have ad:=qZ (m y (by simp[rH,nL]));have ae:=qZ (m z (by simp[rH,nL]));have Z:=qZ (m run (by simp[rH,nL]));have W:=qZ (m aR (by simp[rH,nL]));have Y:=qZ (m i (by simp[rH,nL]));replace h:oF w k (Top.byte id::Top.byte j::Top.byte f::Top.byte x::Top.byte y::Top.byte z::Top.byte run::Top.byte aR::Top.byte i::t):=h;have bm:k<(w:Nat):=Blk.lt h;obtain⟨al,M⟩:=nZ (w.alloc (.cells #[(),(),(),(),(),(),(),(),()] 42));have am:=qY (iI w k (Top.byte id::Top.byte j::Top.byte f::Top.byte x::Top.byte y::Top.byte z::Top.byte run::Top.byte aR::Top.byte i::t) al) (by rw[<-M];exact(iI.refl h).alloc _);have af:=qY (Blk al w 42 #[(),(),(),(),(),(),(),(),()]) (by rw[<-M];exact Blk.new _ _ _);have a5:=qZ M;obtain⟨a,Q⟩:=nZ (w:Nat);have a0:=qZ Q;have d:=qY (a≠k) oZ;have l:=qY ((w:Nat)<=a) oZ;have o:=qZ aj;rw[Q]at af;clear M Q h bm aj m;simp only[dW,iD];go_enter func303,ntmps303;go_wp2_with fail;rw[a5.out,a0.out];refine(oJ T (by have:=o.out;simp;omega) am).mono ?_;rintro e w1⟨rfl,c,b⟩;have ar:=qZ c;have be:=qZ (af.bD b d);clear c b;go_wp2_with fail;refine(oJ aa (by have:=o.out;simp;omega) ar).mono ?_;rintro e b5⟨rfl,c,b⟩;have au:=qZ c;have bf:=qZ (be.bD b d);clear c b;go_wp2_with fail;refine(oJ X (by have:=o.out;simp;omega) au).mono ?_;rintro e A⟨rfl,c,b⟩;have av:=qZ c;have p:=qZ (bf.bD b d);clear c b;obtain⟨bi,c1,c2⟩:CI A a 0 0/\CI A a 1 0/\CI A a 2 0:=⟨p.cell 0,p.cell 1,p.cell 2⟩;have bj:∀n,A.frozen? ⟨a,n,none⟩=false:=λn=>p.frozen n;obtain⟨ag,I⟩:=nZ (((A.setCell (a,0) id).setCell (a,1) j).setCell (a,2) f);have ao:=qY (iI w k (Top.byte x::Top.byte y::Top.byte z::Top.byte run::Top.byte aR::Top.byte i::t) ag) (by rw[<-I];exact(((av.bV l d 0 _).bV l d 1 _).bV l d 2 _));have bc:=qY (Blk ag a 42 #[id,j,f,(),(),(),(),(),()]) (by rw[<-I];exact(((p.bV 0 id).bV 1 j).bV 2 f));have a8:=qZ I;clear I;go_wp2_with fail;rw[a8.out];clear bi c1 c2 bj;refine(CY ab ad ae (by have:=o.out;simp;omega) ao).mono ?_;rintro e F⟨rfl,c,b⟩;have aw:=qZ c;have r:=qZ (bc.bD b d);clear c b;obtain⟨c3,c4,c5⟩:CI F a 3 0/\CI F a 4 0/\CI F a 5 0:=⟨r.cell 3,r.cell 4,r.cell 5⟩;have bk:∀n,F.frozen? ⟨a,n,none⟩=false:=λn=>r.frozen n;obtain⟨ah,J⟩:=nZ (((F.setCell (a,3) x).setCell (a,4) y).setCell (a,5) z);have ap:=qY (iI w k (Top.byte run::Top.byte aR::Top.byte i::t) ah) (by rw[<-J];exact(((aw.bV l d 3 _).bV l d 4 _).bV l d 5 _));have bd:=qY (Blk ah a 42 #[id,j,f,x,y,z,(),(),()]) (by rw[<-J];exact(((r.bV 3 x).bV 4 y).bV 5 z));have a9:=qZ J;clear J;go_wp2_with fail;rw[a9.out];clear c3 c4 c5 bk;refine(oJ Z (by have:=o.out;simp;omega) ap).mono ?_;rintro e b6⟨rfl,c,b⟩;have ax:=qZ c;have bg:=qZ (bd.bD b d);clear c b;go_wp2_with fail;refine(oJ W (by have:=o.out;simp;omega) ax).mono ?_;rintro e b7⟨rfl,c,b⟩;have ay:=qZ c;have bh:=qZ (bg.bD b d);clear c b;go_wp2_with fail;refine(oJ Y (by have:=o.out;simp;omega) ay).mono ?_;rintro e H⟨rfl,c,b⟩;have az:=qZ c;have s:=qZ (bh.bD b d);clear c b;obtain⟨c6,c7,c8⟩:CI H a 6 0/\CI H a 7 0/\CI H a 8 0:=⟨s.cell 6,s.cell 7,s.cell 8⟩;have bl:∀n,H.frozen? ⟨a,n,none⟩=false:=λn=>s.frozen n;obtain⟨u,K⟩:=nZ (((H.setCell (a,6) run).setCell (a,7) aR).setCell (a,8) i);have aq:=qY (iI w k (t) u) (by rw[<-K];exact(((az.bV l d 6 _).bV l d 7 _).bV l d 8 _));have N:=qY (Blk u a 42 #[id,j,f,x,y,z,run,aR,i]) (by rw[<-K];exact(((s.bV 6 run).bV 7 aR).bV 8 i));have ba:=qZ K;clear K;clear T aa X ab ad ae Z W Y;go_upto_region 4 with fail;rw[ba.out];clear c6 c7 c8 bl;obtain⟨O,L⟩:=nZ (nine u a id j f x y z run aR i);have ai:((((((((u.setCell (a,0) id).setCell (a,1) j).setCell (a,2) f).setCell (a,3) x).setCell (a,4) y).setCell (a,5) z).setCell (a,6) run).setCell (a,7) aR).setCell (a,8) i=O:=L;have an:=qY (iI w k t O) (by rw[<-L];exact apG aq l d id j f x y z run aR i);have ak:Blk O a 42 #[id,j,f,x,y,z,run,aR,i]:=by rw[<-L];exact apH N id j f x y z run aR i
 obtain⟨bw,d1,d2,d3,d4,d5,bz,b0,b1⟩:=N.c9;obtain⟨bn,bo,bp,bq,br,bs,bt,bu,bv⟩:=ak.c9;have b2:∀n,u.frozen? ⟨a,n,none⟩=false:=λn=>N.frozen n;have bb:=qZ ai;clear L ai ak;go_wp2_with fail;rw[bb.out];refine bodyPost_ret (v:=.agg #[id,j,f,x,y,z,run,aR,i]) (by simp[results,Tryz.results303,go_sem,bn,bo,bp,bq,br,bs,bt,bu,bv]) rfl ?_;exact⟨rfl,an⟩
end bU
end Go.Proofs.YtedmeglbjmdlhaaGreatDoor
