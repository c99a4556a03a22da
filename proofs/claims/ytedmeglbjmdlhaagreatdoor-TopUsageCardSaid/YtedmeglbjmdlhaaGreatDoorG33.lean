/-
Parts that the laws of the whole program share: contracts of its functions, and plain laws.
-/
import Derived.Test.YtedmeglbjmdlhaaGreatDoorG32
set_option maxRecDepth 100000
set_option maxHeartbeats 16000000
set_option linter.all false
open Go.Proofs.Tryz
namespace Go.Proofs.YtedmeglbjmdlhaaGreatDoor
open Go
open L Quo Top bM bU sK
variable{a:Act}{Q:Exit->Act->World->Prop}{rl:List bM.Run}{k n:Nat}{ty:TypeId}{v v' v1 v2 vp vr x:Value}{W w w':World}
namespace bU
open Go Go.RowKit L bM eZ Srt
theorem OH{P:Program}{o:Oper}(ty:TypeId)(x:Operand)(f:o.op=.load ty x)(g:Nat)(j:a.eval x=.pointer g)(t:TypeId)(cs:Array Value)(b:Nat×Nat)(d:TypeDesc)(e:w.heap[g]? =some (.cells cs t b))(i:P.underlying ty=some d)(c:(match d with|.struct _|.array _ _=>true|_=>false)=true)(hi:(P.info? ty).map (·.size)=some cs.size):(execOp a.eval o).run P w=.ok (.value (.agg cs)) w:=by unfold execOp;simp only[f,j,Instr.loadAt,Instr.sureAddr,Sem.run_bind,Sem.run_pure,Result.andThen_ok,run_loadVar_row w g t ty cs b d e i c hi]
theorem IU{P:Program}{o:Oper}{t:TypeId}{parts:Array (Nat×Operand)}(b:o.op=.buildSlice t n parts){vs:Array (Nat×Value)}(hv:(parts.map λ(i,x)=>(i,a.eval x))=vs)(c:(Instr.buildSlice t n vs).run P w=.ok v' w'):(execOp a.eval o).run P w=.ok (.value v') w':=by unfold execOp;simp only[b,Sem.run_bind,Sem.run_pure,Result.andThen_ok,hv,c]
theorem LA{P:Program}{o:Oper}(ty:TypeId)(x y:Operand)(d:o.op=.store ty x y)(g:Nat)(cells:Array Value)(f:a.eval x=.pointer g)(i:a.eval y=.agg cells)(t:TypeId)(old:Array Value)(c:w.heap[g]? =some (.cells old t (0,0)))(hi:(P.info? ty).map (·.size)=some cells.size)(e:old.size=cells.size)(b:cells.all (·.oneCell')=true):(execOp a.eval o).run P w=.ok .skip (w.setRow g cells):=by unfold execOp;simp only[d,f,i,Instr.storeAt,Instr.sureAddr,Sem.run_bind,Sem.run_pure,Result.andThen_ok,run_storeVar_row w g t ty old cells c hi e b]
theorem avz{P:Program}{b:Array Oper}{S:World->Prop}{c:PT}(h:∀F:PT->Act->World->Prop,F=tZ P b Q S->F c a w):tZ P b Q S c a w:=h _ rfl
def c6:Array Value:=#[.int .i64 1,.int .i64 6,.slice none 0 0,.slice none 0 0,.int .i64 0,.int .i64 0,.int .i64 0,.int .i64 0,.int .i64 0,.int .i64 0,.int .i64 0,.int .i64 0,.int .i64 0,.int .i64 0,.int .i64 0,.int .i64 0,.int .i64 0]
def c3v:Value:=.agg #[(3:Int),(),true,true,(),(),(),(),(),(),(),(),(),(),(),(),()]
def c9v(B1 B2:Option Addr):Value:=.agg #[(1:Int),(1:Int),.slice B1 3 3,.slice B2 2 2,(10:Int),(),(),(),(),(),(),(),(),(),(),(),()]
def gCv(id tt rn:Int):Value:=.agg #[(1:Int),(2:Int),true,true,(),(),id,tt,(2:Int),(2:Int),(2:Int),(2:Int),rn,(3:Int),(),(),()]
def ZO(B1 B2:Option Addr):Array Value:=#[.int .i64 1,.int .i64 1,.slice B1 3 3,.slice B2 2 2,.int .i64 10,.int .i64 0,.int .i64 0,.int .i64 0,.int .i64 0,.int .i64 0,.int .i64 0,.int .i64 0,.int .i64 0,.int .i64 0,.int .i64 0,.int .i64 0,.int .i64 0,.int .i64 1,.int .i64 2,.slice none 0 0,.slice none 0 0,.int .i64 0,.int .i64 0,.int .i64 1,.int .i64 1,.int .i64 2,.int .i64 2,.int .i64 2,.int .i64 2,.int .i64 50,.int .i64 3,.int .i64 0,.int .i64 0,.int .i64 0,.int .i64 1,.int .i64 2,.slice none 0 0,.slice none 0 0,.int .i64 0,.int .i64 0,.int .i64 2,.int .i64 1,.int .i64 2,.int .i64 2,.int .i64 2,.int .i64 2,.int .i64 50,.int .i64 3,.int .i64 0,.int .i64 0,.int .i64 0,.int .i64 1,.int .i64 6,.slice none 0 0,.slice none 0 0,.int .i64 0,.int .i64 0,.int .i64 0,.int .i64 0,.int .i64 0,.int .i64 0,.int .i64 0,.int .i64 0,.int .i64 0,.int .i64 0,.int .i64 0,.int .i64 0,.int .i64 0,.int .i64 3,.int .i64 0,.slice none 0 0,.slice none 0 0,.int .i64 0,.int .i64 0,.int .i64 0,.int .i64 0,.int .i64 0,.int .i64 0,.int .i64 0,.int .i64 0,.int .i64 0,.int .i64 0,.int .i64 0,.int .i64 0,.int .i64 0,.int .i64 1,.int .i64 2,.slice none 0 0,.slice none 0 0,.int .i64 0,.int .i64 0,.int .i64 3,.int .i64 2,.int .i64 2,.int .i64 2,.int .i64 2,.int .i64 2,.int .i64 9,.int .i64 3,.int .i64 0,.int .i64 0,.int .i64 0,.int .i64 1,.int .i64 6,.slice none 0 0,.slice none 0 0,.int .i64 0,.int .i64 0,.int .i64 0,.int .i64 0,.int .i64 0,.int .i64 0,.int .i64 0,.int .i64 0,.int .i64 0,.int .i64 0,.int .i64 0,.int .i64 0,.int .i64 0]
def cfv(B1 B2:Option Addr):Value:=.agg #[.slice B1 3 3,.slice B2 2 2,(10:Int),()]
def k1v(B1 B2:Option Addr):Value:=.agg #[(1:Int),.slice B1 3 3,.slice B2 2 2,(10:Int),(),(),(),(),(),(),(),(),(),(),()]
def awf(b1:Nat)(v3 v7 v8 v9 v10 v11 v14 v16:Value):Act:=⟨#[.bool false,.pointer b1,undef,v3,.agg #[(6:Int),true,true,(),(),(),(),(),(),(),(),(),(),(),()],.agg c6,undef,v7,v8,v9,v10,v11,.agg c6,c3v,v14,.agg c6,v16,undef,undef,undef,undef,undef,undef,undef,undef,undef,undef,undef,undef,undef,undef,undef,undef,undef,undef,undef,undef,undef,undef,undef,undef,undef,undef,undef,undef,undef,undef,undef,undef,undef,undef,undef,undef,undef,undef,undef,undef,undef,undef,undef,undef,undef,undef,undef,undef,undef,undef,undef,undef,undef,undef,undef,undef,undef,undef,undef,undef,undef],[]⟩
def pT6:PT:=.one 10 (.take 11 (.take 12 (.take 13 (.take 15 (.one 16 .done)))))
def pT5:PT:=.one 9 pT6
def pT4:PT:=.one 7 pT5
def pT3:PT:=.one 4 pT4
def pT2:PT:=.one 3 pT3
def pT1:PT:=.one 2 pT2
def pT0:PT:=.one 0 (.take 1 pT1)
def pU6:PT:=.two 10 14 (.take 11 (.take 12 (.take 13 (.one 14 (.take 15 (.one 16 .done)))))) pT6
def pU5:PT:=.two 9 14 pU6 pT5
def pU4:PT:=.two 7 14 pU5 pT4
def pU3:PT:=.two 4 14 pU4 pT3
def pU2:PT:=.two 3 14 pU3 pT2
def pU1:PT:=.two 2 14 pU2 pT1
def pU0:PT:=.two 0 14 (.take 1 pU1) pT0
theorem anS(B1 B2:Option Addr)(w:World):(Instr.buildSlice 82 7 #[(0,c9v B1 B2),(1,gCv 1 1 50),(2,gCv 2 1 50),(3,.agg c6),(4,c3v),(5,gCv 3 2 9),(6,.agg c6)]).run prog w=.ok (.slice w 7 7) (w.alloc (.cells (ZO B1 B2) 75)):=by kernel_rfl
theorem aqi(B1 B2:Option Addr):ZO B1 B2=((ysB (.slice B1 3 3) (.slice B2 2 2)).flatMap yZ).toArray:=by kernel_rfl
theorem alp(B1 B2:Option Addr)(w:World)(h:bX w (.agg #[.slice B1 3 3,.slice B2 2 2,(10:Int),()]) pO):Steps (w.alloc (.cells (ZO B1 B2) 75)) (.slice w 7 7) (ysB (.slice B1 3 3) (.slice B2 2 2)):=by
 have a:∀W,bX W (.agg #[true,true,(),()]) Top.noC:=λW=>⟨_,_,rfl,⟨none,0,rfl,λe=>absurd rfl e,dZ⟩,⟨none,0,rfl,λe=>absurd rfl e,dZ⟩⟩;refine⟨_,_,rfl,VI (dec:=yZ) (λ_=>rfl) (Blk.new _ _ _) (aqi B1 B2),λy b=>?_⟩;simp only[ysB,bA,dS,or_false]at b;rcases b with rfl|rfl|rfl|rfl|rfl|rfl|rfl
 .exact h.below (bZ)
 .exact a _
 .exact a _
 .exact a _
 .exact a _
 .exact a _
 .exact a _
theorem aqU(B1 B2:Option Addr)(c:Steps W v (ysB (.slice B1 3 3) (.slice B2 2 2)))(b:W.cell? (0,0)=some (.iface ty x))(a:0<(W:Nat)):Calls prog 27 #[(5000:Int),v] W λe w'=>agd (ysB (.slice B1 3 3) (.slice B2 2 2)) W e w':=anu (m:=5000) c (awi _ _) dZ b a
theorem Steps.below{ys:List yG}(h:Steps w v ys)(a:Below w w w'):Steps w' v ys:=by obtain⟨A,c,e,d,b⟩:=h;exact⟨A,c,e,d.below a,λy f=>(b y f).below a⟩
structure adu (w:World) (v:Value) (fb:Nat) (W:World):Prop where
 ex:∃(ps:List (Value×List Top.E)) (v1 v2 vp vr vh:Value) (rl:List Run),ps.map (·.2)=[[],[],[],[⟨1,1,0⟩,⟨1,2,0⟩],[],[],[⟨2,2,0⟩,⟨1,3,0⟩]]/\bQ W 0 84 2 WV v ps/\(∀p∈ps,bQ W 0 49 3 oQ p.1 p.2)/\StR W v1 v2 vp vr vh Top.s7 rl/\
  Blk W fb 31 #[v1,v2,Top.s7.c.aI,Top.s7.c.aK,Top.s7.aN,Top.s7.next,vp,vr,vh]
 old:aF w W
theorem anV{f b:World}{a B:Nat}{l d:Value}{ps:List (Value×List Top.E)}{old:Array Value}(m:aF f b)(z:(f:Nat)<=a)(y:Blk b a 31 old)(s:ps.map (·.2)=[[],[],[],[⟨1,1,0⟩,⟨1,2,0⟩],[],[],[⟨2,2,0⟩,⟨1,3,0⟩]])(r:bQ b B 84 2 WV l ps)(o:∀p∈ps,bQ b B 49 3 oQ p.1 p.2)(x:StR b v1 v2 vp vr d Top.s7 rl)(w:∀k,l.ownBlock=some k->¬k=a)(v:∀p∈ps,∀k,p.1.ownBlock=some k->¬k=a)(u:∀k,CW v1 v2 vp vr d Top.s7 rl k->¬k=a):adu f l a (b.setRow a #[v1,v2,Top.s7.c.aI,Top.s7.c.aK,Top.s7.aN,Top.s7.next,vp,vr,d])/\aF f (b.setRow a #[v1,v2,Top.s7.c.aI,Top.s7.c.aK,Top.s7.aN,Top.s7.next,vp,vr,d]):=by have g:=jO b a #[v1,v2,Top.s7.c.aI,Top.s7.c.aK,Top.s7.aN,Top.s7.next,vp,vr,d];have n:aF f _:=m.trans (g.below m.size λi e=>oZ);exact⟨⟨⟨ps,_,_,_,_,_,rl,s,(r.bD λk c=>g.block k (r.lt k c).2 (w k c)).low (bK _),λp j=>((o p j).bD λk c=>g.block k ((o p j).lt k c).2 (v p j k c)).low (bK _),x.xA g u,y.row _⟩,n⟩,n⟩
theorem seven{α β:Type}{f:α->β}{l:List α}{c b1 b2 b3 d e b:β}(h:l.map f=[c,b1,b2,b3,d,e,b]):∃a0 a1 a2 a3 a4 a a6,l=[a0,a1,a2,a3,a4,a,a6]/\f a3=b3/\f a6=b:=by
 match l,h with
 |[a0,a1,a2,a3,a4,a,a6],h=>
  simp only[cZ,gM,cB,and_true]at h;exact⟨_,_,_,_,_,_,_,rfl,h.2.2.2.1,h.2.2.2.2.2.2⟩
theorem avV{α β:Type}{f:α->β}{l:List α}{a b1:β}(h:l.map f=[a,b1]):∃a0 a1,l=[a0,a1]/\f a1=b1:=by
 match l,h with
 |[a0,a1],h=>
  simp only[cZ,gM,cB,and_true]at h;exact⟨_,_,rfl,h.2⟩
structure avi (v:Value) (fb:Nat) (W:World) (g c b3 c3 b6 o6 c6 br or_ cr cp:Nat) (Ap:Option Addr):Prop where
 v:v=.slice g 7 c
 e3:W.cell? (g,7)=some (.slice b3 2 c3)
 e6:W.cell? (g,13)=some (.slice b6 2 c6)
 x0:W.cell? (b6,0)=some (.int .i64 2)
 x1:W.cell? (b6,1)=some (.int .i64 2)
 x2:W.cell? (b6,2)=some (.int .i64 0)
 x3:W.cell? (b6,3)=some (.int .i64 1)
 x4:W.cell? (b6,4)=some (.int .i64 3)
 x5:W.cell? (b6,5)=some (.int .i64 0)
 r:W.cell? (fb,7)=some (.slice (some ⟨br,or_,none⟩) 2 cr)
 p:W.cell? (fb,6)=some (.slice Ap 1 cp)
 i:W.cell? (br,or_+14)=some (.int .i64 3)
theorem aaI{α:Type}{B:Nat}{E:TypeId}{dec:α->List Value}{xs:List α}(h:bQ w B E k dec v xs)(i:xs≠[]):∃g c,v=.slice (some ⟨g,0,none⟩) xs.length c/\∀j u,(xs.flatMap dec)[j]? =some u->w.cell? ⟨g,j,none⟩=some u:=by
 obtain⟨n,⟨rfl,b⟩|⟨g,cap,cur,rfl,m,d,o,l,p,f⟩⟩:=h
 .exact absurd (jM.1 b) i
 .have e:Blk w g E cur:=d;refine⟨g,cap,rfl,λj u a=>?_⟩;rw[e.cell,<-dP];rw[<-f,eB]at a;split at a
  .exact a
  .cases a
theorem adu.read{k:Nat}(h:adu w v k W):∃g c b3 c3 b I c6 d j f e Ap,avi v k W g c b3 c3 b I c6 d j f e Ap:=by
 obtain⟨ps,v1,v2,vp,vr,M,rl,y,F,m,i,n⟩:=h.ex;obtain⟨a0,a1,a2,a3,a4,K,a6,rfl,s,u⟩:=seven y;obtain⟨g,c,rfl,l⟩:=aaI F sZ;have r3:=m a3 sZ;have o:=m a6 sZ;rw[s]at r3;rw[u]at o;obtain⟨b3,c3,e3,_⟩:=aaI r3 sZ;obtain⟨b,c6,e6,a⟩:=aaI o sZ;obtain⟨J,f,rfl,H,_,_⟩:=i.rs;obtain⟨Ap,e,rfl,_⟩:=i.ps;obtain⟨L,p,rfl,A⟩:=avV i.map;obtain⟨d,j,rfl,_,x⟩:=H sZ;have z:p.id=3:=dA (λr:Top.R=>r.p.id) A;refine⟨g,c,b3,c3,b,0,c6,d,j,f,e,Ap,rfl,?_,?_,a 0 _ rfl,a 1 _ rfl,a 2 _ rfl,a 3 _ rfl,a 4 _ rfl,a 5 _ rfl,n.cell 7,n.cell 6,?_⟩
 .exact(l 7 _ rfl).trans (dA some e3)
 .exact(l 13 _ rfl).trans (dA some e6)
 .rw[<-z];exact x 1 p rfl 0 _ rfl
theorem DR(a9:w.cell? (0,0)=some (.iface ty x))(a8:0<(w:Nat)):Calls prog 11 #[] w λe w'=>e=.returned (.bool true)/\Below w w w':=by
 have bd:=qZ (LV 6 0 0 0 0 0 0 0 0 0 0 0 0 none none 0 0 0 0 w);have ah:=qZ (aC a9 a8);clear a9 a8;go_enter func11,ntmps11;go_upto_region 1 with fail;go_wp2_with fail;refine bd.mono ?_;rintro e ba⟨rfl,ad⟩;obtain⟨b1,ao⟩:=nZ (ba:Nat);obtain⟨w0,af⟩:=nZ (ba.alloc (.cells #[(),(),true,true,(),(),(),(),(),(),(),(),(),(),(),(),()] 75));have an:Below w w w0:=by rw[<-af];exact ad.alloc ad.size _
 have x0:=aY af ao;obtain⟨o,ag⟩:=nZ (w0.setRow b1 c6);have bb:Blk o b1 75 c6:=by rw[<-ag];exact x0.row c6
 have ae:Below w w o:=by rw[<-ag];exact an.trans ((jO _ _ _).below an.size λi e=>by have:=ad.size;omega)
 have bh:=qZ x0;have ab:=qZ bb;have be:=qZ ae;have X:=qY (o.cell? (0,0)=some (.iface ty x)/\0<(o:Nat)) (⟨(ae.cell (p:=⟨0,0,none⟩) ah.2).trans ah.1,aM ah.2 ae.size⟩);have av:=qZ (aC af ao);have bg:=qZ ag;have ak:(prog.info? 75).map (·.size)=some c6.size:=zM;clear ad af an x0 ag bb ae ao;go_upto_region 2 with(rw[av.out.1,av.out.2];refine wpList_store_row rfl 75 (.tmp 1) (.tmp 5) rfl b1 c6 rfl rfl 75 _ bh ak rfl (by rw[<-Array.all_toList];rfl) ?_;rw[bg.out]);rw[show∀a:Act,a.put none undef=a fromλ_=>rfl];go_cut[2,3,6,7,8,9,10,11,12,13,14,15,16,17,18,19] (λv2 bt cr cs ct cu v10 v11 cj ck cl cm cn co cp cq bw=>∃f,bt=.pointer (some ⟨f,0,none⟩)/\Hid (adu o v2 f bw));case first=>
  refine lU (aF o) (.take 5 (.take 6 (.take 8 pU0))) kZ kZ (aF.drew o) ?_;apply nN;(focus rfl);(focus rfl);(focus(intro W b;exact OH 75 (.tmp 1) rfl b1 rfl 75 c6 (0,0) _ (ab.below b ab.out.lt) underlying75 rfl ak));(focus(go_simp;first|done|rfl));refine tT ?_;apply nN;(focus rfl);(focus rfl);(focus(intro W b;exact OH 75 (.tmp 1) rfl b1 rfl 75 c6 (0,0) _ (ab.below b ab.out.lt) underlying75 rfl ak));(focus(go_simp;first|done|rfl));refine avz ?_;intro F hF;have j:=qZ hF;clear hF;have a5:∀(B1 B2:Option Addr) (N:Nat) (f:Nat) (W:World),aF o W->Steps W (.slice N 7 7) (ysB (.slice B1 3 3) (.slice B2 2 2))->Blk W f 31 #[true,true,(),(),(),(),true,true,true]->(o:Nat)<=f->F pT6 (awf b1 (.pointer f) (cfv B1 B2) (k1v B1 B2) (c9v B1 B2) (gCv 1 1 50) (gCv 2 1 50) (gCv 3 2 9) (.slice N 7 7)) W:=by intro B1 B2 N f W b l u H;rw[j.out];simp only[awf,cfv,k1v];refine eT ?_;refine tC ?_;refine(aqU B1 B2 l ((Below.cell (p:=⟨0,0,none⟩) b X.2).trans X.1) (aM X.2 b.size)).mono ?_;rintro e n⟨bv,ps,v1,v2,vp,vr,bu,rl,rfl,O,K,Q,J,M,d⟩;rw[aqZ]at J M⊢;rw[auy]at O;have ai:=qZ (StV.mk (W:=n) (z:=_) ⟨_,_,_,_,_,_,rfl,J,M⟩).one;simp only[stv];obtain⟨bc,bs,br,rfl⟩:=K.sA;refine⟨_,rfl,aA b d,?_⟩;have y:=u.below d u.lt;have bq:=u.lt;have Y:=qZ (anV (aA b d) H y O K Q J (λk I e=>by have:=(K.lt k I).1;omega) (λp aa k I e=>by have:=((Q p aa).lt k I).1;omega) λk I e=>by have:=M.foot I;omega);have aj:=qZ y;clear O K Q J M y d bq;(iterate 4 refine tT ?_);refine eT ?_;apply uW;(focus rfl);(focus rfl);(focus exact LA 31 (.tmp 3) (.tmp 19) rfl f _ rfl rfl 31 _ aj oC rfl ai);(focus exact Y.2);(focus(go_simp;first|done|rfl));refine fZ ?_;go_wp2_with fail;go_meet;exact⟨f,rfl,Y.1⟩
  have a0:∀(B1 B2:Option Addr) (f:Nat) (W:World),aF o W->bX W (.agg #[.slice B1 3 3,.slice B2 2 2,(10:Int),()]) pO->Blk W f 31 #[true,true,(),(),(),(),true,true,true]->(o:Nat)<=f->F pT5 (awf b1 (.pointer f) (cfv B1 B2) (k1v B1 B2) (c9v B1 B2) (gCv 1 1 50) (gCv 2 1 50) (gCv 3 2 9) undef) W:=by
   intro B1 B2 f W b l u H;rw[j.out];simp only[awf,cfv,k1v];refine eT ?_;obtain⟨n,T⟩:=nZ (W.alloc (.cells (ZO B1 B2) 75));have d:=aB T;have am:Steps n (.slice W 7 7) (ysB (.slice B1 3 3) (.slice B2 2 2)):=by rw[<-T];exact alp B1 B2 W l
   apply lK;(focus rfl);(focus rfl);(focus(refine IU rfl ?_ ((anS B1 B2 W).trans (by rw[T]));(simp only[jW,cZ,gM];rfl)));(focus exact aA b d);(focus rfl);have h:=a5 B1 B2 (W:Nat) f n (aA b d) am (u.below d u.lt) H;rw[j.out]at h;exact h
  have az:∀(B1 B2:Option Addr) (f:Nat) (W:World),aF o W->bX W (.agg #[.slice B1 3 3,.slice B2 2 2,(10:Int),()]) pO->Blk W f 31 #[true,true,(),(),(),(),true,true,true]->(o:Nat)<=f->F pT4 (awf b1 (.pointer f) (cfv B1 B2) (k1v B1 B2) (c9v B1 B2) (gCv 1 1 50) (gCv 2 1 50) undef undef) W:=by intro B1 B2 f W b l u H;rw[j.out];simp only[awf,cfv,k1v];refine eT ?_;refine tC ?_;refine(zV 3 2 9 W).mono ?_;rintro e n⟨rfl,d⟩;refine⟨_,rfl,aA b d,?_⟩;have h:=a0 B1 B2 f n (aA b d) (l.below d) (u.below d u.lt) H;rw[j.out]at h;exact h
  have ay:∀(B1 B2:Option Addr) (f:Nat) (W:World),aF o W->bX W (.agg #[.slice B1 3 3,.slice B2 2 2,(10:Int),()]) pO->Blk W f 31 #[true,true,(),(),(),(),true,true,true]->(o:Nat)<=f->F pT3 (awf b1 (.pointer f) (cfv B1 B2) (k1v B1 B2) (c9v B1 B2) (gCv 1 1 50) undef undef undef) W:=by intro B1 B2 f W b l u H;rw[j.out];simp only[awf,cfv,k1v];refine eT ?_;refine tC ?_;refine(zV 2 1 50 W).mono ?_;rintro e n⟨rfl,d⟩;refine⟨_,rfl,aA b d,?_⟩;have h:=az B1 B2 f n (aA b d) (l.below d) (u.below d u.lt) H;rw[j.out]at h;exact h
  have ax:∀(B1 B2:Option Addr) (f:Nat) (W:World),aF o W->bX W (.agg #[.slice B1 3 3,.slice B2 2 2,(10:Int),()]) pO->Blk W f 31 #[true,true,(),(),(),(),true,true,true]->(o:Nat)<=f->F pT2 (awf b1 (.pointer f) (cfv B1 B2) (k1v B1 B2) (c9v B1 B2) undef undef undef undef) W:=by intro B1 B2 f W b l u H;rw[j.out];simp only[awf,cfv,k1v];refine eT ?_;refine tC ?_;refine(zV 1 1 50 W).mono ?_;rintro e n⟨rfl,d⟩;refine⟨_,rfl,aA b d,?_⟩;have h:=ay B1 B2 f n (aA b d) (l.below d) (u.below d u.lt) H;rw[j.out]at h;exact h
  have aw:∀(B1 B2:Option Addr) (f:Nat) (W:World),aF o W->bX W (.agg #[.slice B1 3 3,.slice B2 2 2,(10:Int),()]) pO->Blk W f 31 #[true,true,(),(),(),(),true,true,true]->(o:Nat)<=f->F pT1 (awf b1 (.pointer f) (cfv B1 B2) (k1v B1 B2) undef undef undef undef undef) W:=by intro B1 B2 f W b l u H;rw[j.out];simp only[awf,cfv,k1v];refine eT ?_;refine tC ?_;refine(LV 1 10 0 0 0 0 0 0 0 0 0 0 0 B1 B2 3 3 2 2 W).mono ?_;rintro e n⟨rfl,d⟩;refine⟨_,rfl,aA b d,?_⟩;have h:=ax B1 B2 f n (aA b d) (l.below d) (u.below d u.lt) H;rw[j.out]at h;exact h
  have bi:∀(f:Nat) (W:World),aF o W->True->Blk W f 31 #[true,true,(),(),(),(),true,true,true]->(o:Nat)<=f->F pT0 (awf b1 (.pointer f) undef undef undef undef undef undef undef) W:=by intro f W b l u H;rw[j.out];simp only[awf,cfv,k1v];refine eT ?_;refine tC ?_;refine(abI W).mono ?_;rintro e n⟨B1,B2,rfl,al,d⟩;refine⟨_,rfl,aA b d,?_⟩;refine tT ?_;have h:=aw B1 B2 f n (aA b d) al (u.below d u.lt) H;rw[j.out]at h;exact h
  have bp:∀(B1 B2:Option Addr) (N:Nat) (W:World),aF o W->Steps W (.slice N 7 7) (ysB (.slice B1 3 3) (.slice B2 2 2))->F pU6 (awf b1 undef (cfv B1 B2) (k1v B1 B2) (c9v B1 B2) (gCv 1 1 50) (gCv 2 1 50) (gCv 3 2 9) (.slice N 7 7)) W:=by
   intro B1 B2 N W b l;rw[j.out];simp only[awf,cfv,k1v];refine yO ?_ ?_
   .refine tC ?_;refine(aqU B1 B2 l ((Below.cell (p:=⟨0,0,none⟩) b X.2).trans X.1) (aM X.2 b.size)).mono ?_;rintro e n⟨bv,ps,v1,v2,vp,vr,bu,rl,rfl,O,K,Q,J,M,d⟩;rw[aqZ]at J M⊢;rw[auy]at O;have ai:=qZ (StV.mk (W:=n) (z:=_) ⟨_,_,_,_,_,_,rfl,J,M⟩).one;simp only[stv];obtain⟨bc,bs,br,rfl⟩:=K.sA;refine⟨_,rfl,aA b d,?_⟩;have aq:=aA b d;obtain⟨f,ap⟩:=nZ (n:Nat);obtain⟨A,m⟩:=nZ (n.alloc (.cells #[true,true,(),(),(),(),true,true,true] 31));have r:=aB m;have y:=aY m ap;have s:=aA aq r;have Y:=qZ (anV s (by have:=aq.size;omega) y O (K.below r) (λp aa=>(Q p aa).below r) (J.below r) (λk I e=>by have:=(K.lt k I).2;omega) (λp aa k I e=>by have:=((Q p aa).lt k I).2;omega) λk I e=>by have:=J.foot I;omega);have aj:=qZ y;have au:=qZ s;have Z:=qZ (aC m ap);clear O K Q J M y d r m aq s ap;(iterate 3 refine tT ?_);refine eT ?_;apply lK;(focus rfl);(focus rfl);(focus(go_simp;first|done|(rw[Z.out.1,Z.out.2];exact⟨rfl,rfl⟩)|exact⟨rfl,rfl⟩));(focus(first|exact au|(rw[Z.out.1];exact au)));(focus(go_simp;first|done|rfl))
    try rw[Z.out.1]
    try rw[Z.out.2]
    refine tT ?_;refine eT ?_;apply uW;(focus rfl);(focus rfl);(focus exact LA 31 (.tmp 3) (.tmp 19) rfl f _ rfl rfl 31 _ aj oC rfl ai);(focus exact Y.2);(focus(go_simp;first|done|rfl));refine fZ ?_;go_wp2_with fail;go_meet;exact⟨f,rfl,Y.1⟩
   .obtain⟨A,m⟩:=nZ (W.alloc (.cells #[true,true,(),(),(),(),true,true,true] 31));have r:=aB m;have s:=aA b r;have y:=aX m;have h:=a5 B1 B2 N (W:Nat) A s (Steps.below l r) y b.size;rw[j.out]at h;apply lK;(focus rfl);(focus rfl);(focus(go_simp;first|done|(rw[m];exact⟨rfl,rfl⟩)|exact⟨rfl,rfl⟩));(focus exact s);(focus rfl);exact h
  have bo:∀(B1 B2:Option Addr) (W:World),aF o W->bX W (.agg #[.slice B1 3 3,.slice B2 2 2,(10:Int),()]) pO->F pU5 (awf b1 undef (cfv B1 B2) (k1v B1 B2) (c9v B1 B2) (gCv 1 1 50) (gCv 2 1 50) (gCv 3 2 9) undef) W:=by
   intro B1 B2 W b l;rw[j.out];simp only[awf,cfv,k1v];refine yO ?_ ?_
   .obtain⟨n,T⟩:=nZ (W.alloc (.cells (ZO B1 B2) 75));have d:=aB T;have am:Steps n (.slice W 7 7) (ysB (.slice B1 3 3) (.slice B2 2 2)):=by rw[<-T];exact alp B1 B2 W l
    apply lK;(focus rfl);(focus rfl);(focus(refine IU rfl ?_ ((anS B1 B2 W).trans (by rw[T]));(simp only[jW,cZ,gM];rfl)));(focus exact aA b d);(focus rfl);have h:=bp B1 B2 (W:Nat) n (aA b d) am;rw[j.out]at h;exact h
   .obtain⟨A,m⟩:=nZ (W.alloc (.cells #[true,true,(),(),(),(),true,true,true] 31));have r:=aB m;have s:=aA b r;have y:=aX m;have h:=a0 B1 B2 (W:Nat) A s (l.below r) y b.size;rw[j.out]at h;apply lK;(focus rfl);(focus rfl);(focus(go_simp;first|done|(rw[m];exact⟨rfl,rfl⟩)|exact⟨rfl,rfl⟩));(focus exact s);(focus rfl);exact h
  have bn:∀(B1 B2:Option Addr) (W:World),aF o W->bX W (.agg #[.slice B1 3 3,.slice B2 2 2,(10:Int),()]) pO->F pU4 (awf b1 undef (cfv B1 B2) (k1v B1 B2) (c9v B1 B2) (gCv 1 1 50) (gCv 2 1 50) undef undef) W:=by
   intro B1 B2 W b l;rw[j.out];simp only[awf,cfv,k1v];refine yO ?_ ?_
   .refine tC ?_;refine(zV 3 2 9 W).mono ?_;rintro e n⟨rfl,d⟩;refine⟨_,rfl,aA b d,?_⟩;have h:=bo B1 B2 n (aA b d) (l.below d);rw[j.out]at h;exact h
   .obtain⟨A,m⟩:=nZ (W.alloc (.cells #[true,true,(),(),(),(),true,true,true] 31));have r:=aB m;have s:=aA b r;have y:=aX m;have h:=az B1 B2 (W:Nat) A s (l.below r) y b.size;rw[j.out]at h;apply lK;(focus rfl);(focus rfl);(focus(go_simp;first|done|(rw[m];exact⟨rfl,rfl⟩)|exact⟨rfl,rfl⟩));(focus exact s);(focus rfl);exact h
  have bm:∀(B1 B2:Option Addr) (W:World),aF o W->bX W (.agg #[.slice B1 3 3,.slice B2 2 2,(10:Int),()]) pO->F pU3 (awf b1 undef (cfv B1 B2) (k1v B1 B2) (c9v B1 B2) (gCv 1 1 50) undef undef undef) W:=by
   intro B1 B2 W b l;rw[j.out];simp only[awf,cfv,k1v];refine yO ?_ ?_
   .refine tC ?_;refine(zV 2 1 50 W).mono ?_;rintro e n⟨rfl,d⟩;refine⟨_,rfl,aA b d,?_⟩;have h:=bn B1 B2 n (aA b d) (l.below d);rw[j.out]at h;exact h
   .obtain⟨A,m⟩:=nZ (W.alloc (.cells #[true,true,(),(),(),(),true,true,true] 31));have r:=aB m;have s:=aA b r;have y:=aX m;have h:=ay B1 B2 (W:Nat) A s (l.below r) y b.size;rw[j.out]at h;apply lK;(focus rfl);(focus rfl);(focus(go_simp;first|done|(rw[m];exact⟨rfl,rfl⟩)|exact⟨rfl,rfl⟩));(focus exact s);(focus rfl);exact h
  have bl:∀(B1 B2:Option Addr) (W:World),aF o W->bX W (.agg #[.slice B1 3 3,.slice B2 2 2,(10:Int),()]) pO->F pU2 (awf b1 undef (cfv B1 B2) (k1v B1 B2) (c9v B1 B2) undef undef undef undef) W:=by
   intro B1 B2 W b l;rw[j.out];simp only[awf,cfv,k1v];refine yO ?_ ?_
   .refine tC ?_;refine(zV 1 1 50 W).mono ?_;rintro e n⟨rfl,d⟩;refine⟨_,rfl,aA b d,?_⟩;have h:=bm B1 B2 n (aA b d) (l.below d);rw[j.out]at h;exact h
   .obtain⟨A,m⟩:=nZ (W.alloc (.cells #[true,true,(),(),(),(),true,true,true] 31));have r:=aB m;have s:=aA b r;have y:=aX m;have h:=ax B1 B2 (W:Nat) A s (l.below r) y b.size;rw[j.out]at h;apply lK;(focus rfl);(focus rfl);(focus(go_simp;first|done|(rw[m];exact⟨rfl,rfl⟩)|exact⟨rfl,rfl⟩));(focus exact s);(focus rfl);exact h
  have bk:∀(B1 B2:Option Addr) (W:World),aF o W->bX W (.agg #[.slice B1 3 3,.slice B2 2 2,(10:Int),()]) pO->F pU1 (awf b1 undef (cfv B1 B2) (k1v B1 B2) undef undef undef undef undef) W:=by
   intro B1 B2 W b l;rw[j.out];simp only[awf,cfv,k1v];refine yO ?_ ?_
   .refine tC ?_;refine(LV 1 10 0 0 0 0 0 0 0 0 0 0 0 B1 B2 3 3 2 2 W).mono ?_;rintro e n⟨rfl,d⟩;refine⟨_,rfl,aA b d,?_⟩;have h:=bl B1 B2 n (aA b d) (l.below d);rw[j.out]at h;exact h
   .obtain⟨A,m⟩:=nZ (W.alloc (.cells #[true,true,(),(),(),(),true,true,true] 31));have r:=aB m;have s:=aA b r;have y:=aX m;have h:=aw B1 B2 (W:Nat) A s (l.below r) y b.size;rw[j.out]at h;apply lK;(focus rfl);(focus rfl);(focus(go_simp;first|done|(rw[m];exact⟨rfl,rfl⟩)|exact⟨rfl,rfl⟩));(focus exact s);(focus rfl);exact h
  have bj:∀(W:World),aF o W->True->F pU0 (awf b1 undef undef undef undef undef undef undef undef) W:=by
   intro W b l;rw[j.out];simp only[awf,cfv,k1v];refine yO ?_ ?_
   .refine tC ?_;refine(abI W).mono ?_;rintro e n⟨B1,B2,rfl,al,d⟩;refine⟨_,rfl,aA b d,?_⟩;refine tT ?_;have h:=bk B1 B2 n (aA b d) al;rw[j.out]at h;exact h
   .obtain⟨A,m⟩:=nZ (W.alloc (.cells #[true,true,(),(),(),(),true,true,true] 31));have r:=aB m;have s:=aA b r;have y:=aX m;have h:=bi (W:Nat) A s l y b.size;rw[j.out]at h;apply lK;(focus rfl);(focus rfl);(focus(go_simp;first|done|(rw[m];exact⟨rfl,rfl⟩)|exact⟨rfl,rfl⟩));(focus exact s);(focus rfl);exact h
  exact bj _ (aF.drew o) trivial
 case rest=>obtain⟨f,rfl,ar⟩:=hcut;obtain⟨g,c,b3,c3,bz,b5,c6,b0,b6,b4,b2,Ap,R⟩:=ar.read;obtain⟨rfl,b7,b8,ca,cb,cc,cd,ce,cg,ch,ci,b9⟩:=R;have bf:=qY (Below w w wc) (aA be ar.old);go_wp2_with fail;refine bodyPost_ret (v:=.bool true) (by simp[results,Tryz.results11,go_sem]) rfl ?_;exact⟨rfl,bf⟩
end bU
end Go.Proofs.YtedmeglbjmdlhaaGreatDoor
