/- packed. -/
import Derived.Test.YtmonobkginiajaaGreatBs10
set_option linter.all false
set_option maxRecDepth 100000
set_option maxHeartbeats 8000000
namespace Go.Proofs.YtmonobkginiajaaGreat
open Go.Proofs.Tryz
namespace Sh
open Go.RowKit Pk Dk Pg
open Nd (E aD bu aN aW dL bA aY cq bF)
attribute [local go_sem ↓] Go.wp_at_zero Go.wp_at_succ
variable{w:World}{g:Nat}
structure Sp where
 a:Int
 b:Int
 c:Int
 d:Int
def Sp.nil:Sp:=⟨0,0,0,0⟩
def Sp.cs(s:Sp):Array Value:= #[.int .i64 s.a,.int .i64 s.b,.int .i64 s.c,.int .i64 s.d]
def Sp.add(s y:Sp):Sp:=⟨wrap64 (s.a+y.a),wrap64 (s.b+y.b),wrap64 (s.c+y.c),max s.d (wrap64 (1+y.d))⟩
structure Cn where
 q:QS
 u:Nat
 s:Sp
 e:Int
def rQ(rec:QS->Nat->Int->Cn)(leaf:Bool):List E->QS->Nat->Sp->Cn
 |[],q,u,s=>⟨q,u,s,0⟩
 |x::l,q,u,s=>
  if leaf=true then
   if 0<=x.aQ then
    if(q.cH x.aQ).2.2.2≠0 then⟨(q.cH x.aQ).1,u,Sp.nil,pz (q.cH x.aQ).2.2.2⟩
    else rQ rec leaf l (q.cH x.aQ).1 u {s with c:=wrap64 (s.c+((q.cH x.aQ).2.1.length:Nat))}
   else rQ rec leaf l q u s
  else if(rec q u x.aQ).e≠0 then⟨(rec q u x.aQ).q,(rec q u x.aQ).u,Sp.nil,(rec q u x.aQ).e⟩
  else rQ rec leaf l (rec q u x.aQ).q (rec q u x.aQ).u (s.add (rec q u x.aQ).s)
def kL:Nat->QS->Nat->Int->Cn
 |0,q,u,p=>⟨(q.bh p).1,u+1,Sp.nil,if(q.bh p).2.2.2≠0 then(q.bh p).2.2.2 else 14⟩
 |d+1,q,u,p=>
  if(q.bh p).2.2.2≠0 then⟨(q.bh p).1,u+1,Sp.nil,(q.bh p).2.2.2⟩
  else if 512<u+1 then⟨(q.bh p).1,u+1,Sp.nil,14⟩
  else rQ (kL d) (q.bh p).2.1 (q.bh p).2.2.1 (q.bh p).1 (u+1) (if(q.bh p).2.1=true then⟨1,0,0,1⟩else⟨0,1,0,1⟩)
structure CL(w wr:World)(tb lb z:Nat)(I:Ix)(F:List Nat)(n K:Nat)(q:QS)(u:Nat)(leaf:Bool)(A:Option Addr)(c xQ:Nat)(l:List E):Prop where
 t:TQ wr tb I F q n K
 r:aF wr z 125 Sp.nil.cs
 f:aF wr lb 3 #[.int .i64 (512-(u:Nat))]
 b:aF wr xQ 118 #[.bool leaf,.slice A l.length c]
 s:aS wr 111 3 (.slice A l.length c) l.length (aD l)
 o:ag (lb::F) w wr
 x:∀g∈z::xQ::ah (.slice A l.length c),g∉lb::F/\w.heap.size<=g
 y:lb∉F/\lb≠tb
structure CG(w wr:World)(tb lb z:Nat)(I:Ix)(F:List Nat)(n K:Nat)(q:QS)(u:Nat)(s:Sp)(leaf:Bool)(A:Option Addr)(c xQ lH:Nat)(l:List E):Prop where
 a:CL w wr tb lb z I F n K q u leaf A c xQ l
 g:aF wr lH 125 s.cs
 x:lH∉lb::F/\z≠lH/\w.heap.size<=lH
section
variable{w wr w':World}{tb lb z:Nat}{I:Ix}{F:List Nat}{n K K':Nat}{q q':QS}{u u':Nat}{s s':Sp}{leaf:Bool}{A:Option Addr}{c xQ lH:Nat}{l:List E}
theorem CL.deep(h:CL w wr tb lb z I F n K q u leaf A c xQ l)(t:TQ w' tb I F q' n K')(f:aF w' lb 3 #[.int .i64 (512-(u':Nat))])(o:ag (lb::F) wr w'):CL w w' tb lb z I F n K' q' u' leaf A c xQ l:=
 ⟨t,h.r.only o (h.x _ (by simp)).1,f,h.b.only o (h.x _ (by simp)).1,h.s.only o (λg hg=>(h.x _ (by simp[hg])).1),h.o.trans o,h.x,h.y⟩
theorem CL.below(h:CL w wr tb lb z I F n K q u leaf A c xQ l)(hb:Below wr.heap.size wr w'):CL w w' tb lb z I F n K q u leaf A c xQ l:=
 h.deep (h.t.below hb) (h.f.below hb h.f.lt) (.ai hb)
theorem CG.deep(h:CG w wr tb lb z I F n K q u s leaf A c xQ lH l)(t:TQ w' tb I F q' n K')(f:aF w' lb 3 #[.int .i64 (512-(u':Nat))])(o:ag (lb::F) wr w'):CG w w' tb lb z I F n K' q' u' s leaf A c xQ lH l:=
 ⟨h.a.deep t f o,h.g.only o h.x.1,h.x⟩
theorem CG.pool(h:CG w wr tb lb z I F n K q u s leaf A c xQ lH l)(p:PQ w' I F q' n K')(o:ag F wr w'):CG w w' tb lb z I F n K' q' u s leaf A c xQ lH l:=
 h.deep (h.a.t.next o p) (h.a.f.only o h.a.y.1) (o.mono λg hg _=>aw _ hg)
theorem CG.below(h:CG w wr tb lb z I F n K q u s leaf A c xQ lH l)(hb:Below wr.heap.size wr w'):CG w w' tb lb z I F n K q u s leaf A c xQ lH l:=
 h.deep (h.a.t.below hb) (h.a.f.below hb h.a.f.lt) (.ai hb)
theorem CG.le(h:CG w wr tb lb z I F n K q u s leaf A c xQ lH l)(hk:K<=K'):CG w wr tb lb z I F n K' q u s leaf A c xQ lH l:={h with a:={h.a with t:=h.a.t.le hk}}
theorem CG.set(h:CG w wr tb lb z I F n K q u s leaf A c xQ lH l)(o:ag [lH] wr w')(g:aF w' lH 125 s'.cs):CG w w' tb lb z I F n K q u s' leaf A c xQ lH l:=by
 have hm:∀{g:Nat},g≠lH->g∉[lH]:=λh e=>h (aI.1 e);have hF:∀g∈lb::F,g≠lH:=λg hg e=>h.x.1 (e▸hg);refine⟨⟨h.a.t.only o λg hg=>hm ?_,h.a.r.only o (hm h.x.2.1),h.a.f.only o (hm (hF _ (by simp))),h.a.b.only o (hm λe=>h.a.b.kl h.g (by decide) e),h.a.s.only o (λg hg=>hm λe=>dk h.a.s h.g (by decide) (e▸hg)),h.a.o.aL o λg hg hl=>?_,h.a.x,h.a.y⟩,g,h.x⟩
 .rcases aj.1 hg with e|hg
  .rw[e];exact(h.g.kl h.a.t.1 (by decide)).symm
  .exact hF _ (aw _ hg)
 .rw[aI.1 hg]at hl;exact absurd h.x.2.2 (by omega)
end
theorem badE_ne{e:Int}(h:e≠0):pz e≠0:=by unfold pz;split<;>omega
def CP(w w':World)(tb lb:Nat)(I:Ix)(F:List Nat)(n K:Nat)(R:Cn):Prop:=
 TQ w' tb I F R.q n (K+286*R.u)/\aF w' lb 3 #[.int .i64 (512-(R.u:Nat))]/\ag (lb::F) w w'/\R.u<=513/\(R.e=0->R.u<=512)
def FZ(tb lb:Nat)(I:Ix)(F:List Nat)(n K:Nat)(d:Nat):Prop:= ∀(w:World) (q:QS) (u dp:Nat) (p:Int),d+dp=16->u<=512->TQ w tb I F q n (K+286*u)->aF w lb 3 #[.int .i64 (512-(u:Nat))]->lb∉F->lb≠tb->
 Calls prog 67 #[tp tb,.int .i64 p,.int .i64 (dp:Nat),.pointer (some ⟨lb,0,none⟩)] w λe w'=>e=.returned (.tuple #[.agg (kL d q u p).s.cs,.int .i64 (kL d q u p).e])/\CP w w' tb lb I F n K (kL d q u p)
theorem kM{fn:Func}{p u:Tmp}{s:Sp}{tmps:Array Value}(h:fn.results= #[.cell p 125,.tmp u])(hp:tmps.getD p undef=.pointer (some ⟨g,0,none⟩))(B:aF w g 125 s.cs):
  (results fn tmps).run prog w=.ok (.tuple #[.agg s.cs,tmps.getD u undef]) w:=by
 have c0:=B.ab (i:=0) rfl;have c1:=B.ab (i:=1) rfl;have c2:=B.ab (i:=2) rfl;have c3:=B.ab (i:=3) rfl;rw[results_cell_tmp h,hp];clear h hp B;unfold Sp.cs at *;go_simp
theorem qv{s s':Sp}(B:aF w g 125 s.cs):
  aF ((((w.setCell ⟨g,0,none⟩ (.int .i64 s'.a)).setCell ⟨g,1,none⟩ (.int .i64 s'.b)).setCell ⟨g,2,none⟩ (.int .i64 s'.c)).setCell ⟨g,3,none⟩ (.int .i64 s'.d)) g 125 s'.cs/\
   ag [g] w ((((w.setCell ⟨g,0,none⟩ (.int .i64 s'.a)).setCell ⟨g,1,none⟩ (.int .i64 s'.b)).setCell ⟨g,2,none⟩ (.int .i64 s'.c)).setCell ⟨g,3,none⟩ (.int .i64 s'.d))/\
   (w.cell? ⟨g,0,none⟩=some (.int .i64 s.a)/\w.cell? ⟨g,1,none⟩=some (.int .i64 s.b)/\w.cell? ⟨g,2,none⟩=some (.int .i64 s.c)/\w.cell? ⟨g,3,none⟩=some (.int .i64 s.d))/\
   w.frozen? ⟨g,0,none⟩=false/\w.frozen? ⟨g,1,none⟩=false/\w.frozen? ⟨g,2,none⟩=false/\w.frozen? ⟨g,3,none⟩=false:=
 ⟨(((B.bU 0 _).bU 1 _).bU 2 _).bU 3 _,((((ag.refl _ _).setCell (by simp) _).setCell (by simp) _).setCell (by simp) _).setCell (by simp) _,⟨B.ab rfl,B.ab rfl,B.ab rfl,B.ab rfl⟩,B.frozen 0 (by simp[Sp.cs]),B.frozen 1 (by simp[Sp.cs]),B.frozen 2 (by simp[Sp.cs]),B.frozen 3 (by simp[Sp.cs])⟩
section
variable{w wr w':World}{tb lb z:Nat}{I:Ix}{F:List Nat}{n K:Nat}{q:QS}{u:Nat}{leaf:Bool}{A:Option Addr}{c xQ:Nat}{l:List E}
theorem CL.done(h:CL w wr tb lb z I F n K q u leaf A c xQ l)(s':Sp)(o:ag [z] wr w')(e:Int){K0:Nat}(hk:K<=K0+286*u)(hu:u<=513)(he:e=0->u<=512):CP w w' tb lb I F n K0 ⟨q,u,s',e⟩:=by
 have hz:=h.x z (by simp);have hF:∀g∈lb::F,g∉[z]:=λg hg e=>hz.1 (aI.1 e▸hg);refine⟨(h.t.only o λg hg=>?_).le hk,h.f.only o (hF _ (by simp)),h.o.aL o λg hg hl=>?_,hu,he⟩
 .rcases aj.1 hg with e|hg
  .rw[e];exact λe=>(h.r.kl h.t.1 (by decide)) (aI.1 e).symm
  .exact hF _ (aw _ hg)
 .rw[aI.1 hg]at hl;exact absurd hz.2 (by omega)
end
theorem IU{tb lb:Nat}{I:Ix}{F:List Nat}{n Kz:Nat}(hK:Kz<=999999000000)(d:Nat)(IH:∀d',d=d'+1->FZ tb lb I F n Kz d'):FZ tb lb I F n Kz d:=by
 intro w q u dp p hd hu h hl hlF dP;have IH:=xh IH;obtain⟨z,hz⟩:∃z,w.heap.size=z:=⟨_,rfl⟩;have W0:=ae (Below.refl w.heap.size w) (.cells Sp.nil.cs 125);have KR:=xh (mf (h.below W0) (by omega) p);have H0:=xh (And.intro (h.below W0) (And.intro (hl.below W0 hl.lt) (And.intro (aF.new w 125 Sp.nil.cs) W0)));have nO:=ru (q:=q) (p:=p);have hlen:=kK q p;obtain⟨R,hR⟩:∃R,kL d q u p=R:=⟨_,rfl⟩;rw[hR];have HR:=xh hR
 have HF:=xh (And.intro hlF dP);have HH:=xh (And.intro (h.lt) hl.lt);clear h hl hR W0 hlF dP;generalize hr:q.bh p=r at *;obtain⟨q1,leaf,l,er⟩:=r;have HQ:=xh hr;clear hr;dsimp only at *;unfold tp bu at *;unfold Sp.nil Sp.cs at KR;go_enter func67,ntmps67;go_wp2_with fail;refine KR.o.mono ?_;rintro e w2 ⟨A,c,rfl,S2,f2,P2,o2⟩;have fi:=ae (Below.refl w2.heap.size w2) (.cells #[.bool leaf,.slice A l.length c] 118)
 obtain⟨w3,GS⟩:∃w3,w2.alloc (.cells #[.bool leaf,.slice A l.length c] 118)=w3:=⟨_,rfl⟩;have BN:=aF.new w2 118 #[.bool leaf,.slice A l.length c];have h12:=o2.size;have oX:(w.alloc (.cells Sp.nil.cs 125)).heap.size=z+1:=by rw[lR,hz]
 have kk:∀g∈lb::F,g<z:=λg hg=>by rw[<-hz];exact(aj.1 hg).elim (λe=>e▸HH.o.2) (λhg=>HH.o.1 g (aw _ hg))
 have C3:CL w w3 tb lb z I F n (Kz+286*u+1) q1 u leaf A c w2.heap.size l:=by
  rw[<-GS];obtain⟨t0,f0,r0,b0⟩:=H0.o;rw[hz]at r0;have hq:∀g,z<=g->g∉lb::F/\w.heap.size<=g:=λg hg=>⟨λhm=>by have:=kk g hm;omega,by omega⟩;exact⟨(t0.next o2 P2).below fi,(r0.only o2 λhm=>(hq z (Nat.le_refl _)).1 (aw _ hm)).alloc _,(f0.only o2 HF.o.1).alloc _,BN,S2.below fi,(((ag.ai b0).trans o2).trans (.ai fi)).mono (λg hg _=>aw _ hg),λg hg=>hq g (by
   have hs:=oX;unfold Sp.nil Sp.cs at hs;dsimp only at hs
   rcases aj.1 hg with e|hg
   .omega
   rcases aj.1 hg with e|hg
   .omega
   .have:=f2 g hg;have hs:=oX;unfold Sp.nil Sp.cs at hs;dsimp only at hs;omega),HF.o⟩
 obtain⟨xQ,yk⟩:∃b,w2.heap.size=b:=⟨_,rfl⟩;rw[yk]at C3;have eu:(512:Int)-((u+1:Nat):Int)=512-((u:Int)+1):=by omega
 have e1:IntKind.i64.wrap (512-(u:Int)-1)=512-((u:Int)+1):=by rw[IntWalk.i64_in _ (by omega)];omega
 have o4:ag [lb] w3 (w3.setCell ⟨lb,0,none⟩ (.int .i64 (512-((u+1:Nat):Int)))):=(ag.refl _ _).setCell (by simp) _;have C4:CL w (w3.setCell ⟨lb,0,none⟩ (.int .i64 (512-((u+1:Nat):Int)))) tb lb z I F n (Kz+286*u+1) q1 (u+1) leaf A c xQ l:=C3.deep (C3.t.only o4 λg hg hm=>by
  rw[aI.1 hm]at hg;exact(aj.1 hg).elim HF.o.2 HF.o.1) (C3.f.bU 0 _) (o4.mono λg hg _=>by rw[aI.1 hg];exact fK ..)
 have x0:=C3.f.ab (i:=0) rfl;have xf:=C3.f.frozen 0 (by simp);clear o4 C3 BN fi S2 f2 P2 o2 h12;have HZ:=xh hz;have HZF:=xh (And.intro kk oX);have HB:=xh yk;obtain⟨w4,UU⟩:∃w4,w3.setCell ⟨lb,0,none⟩ (.int .i64 (512-((u:Int)+1)))=w4:=⟨_,rfl⟩;rw[eu,UU]at C4;have H4:=xh C4;have HW4:=xh UU;have x4:w4.cell? ⟨lb,0,none⟩=some (.int .i64 (512-((u:Int)+1))):=by rw[<-eu];exact C4.f.ab (i:=0) rfl
 clear eu;clear hz kk oX C4
 by_cases he:er=0
 rotate_left
 .have hq:(er != 0)=true:=by rw[bne_iff_ne];exact he
  have kh:(er==0)=false:=by rw[beq_eq_false_iff_ne];exact he
  have bG:=HR.o;have hR2:R=⟨q1,u+1,Sp.nil,er⟩:=by
   rw[<-bG]
   cases d with
   |zero=>unfold kL;rw[HQ.o];dsimp only;rw[if_pos he]
   |succ d=>unfold kL;rw[HQ.o];dsimp only;rw[if_pos he]
  subst hR2;clear bG;obtain⟨B2,o2,⟨k0,k1,k2,k3⟩,z0,z1,z2,z3⟩:=qv (s':=Sp.nil) H4.o.r;have H2:=xh (And.intro B2 (H4.o.done Sp.nil o2 er (K0:=Kz) (by omega) (by omega) (λh=>absurd h he)));unfold Sp.nil Sp.cs at *;dsimp only at *;clear B2 o2;go_wp2_with fail;exact bodyPost_ret (kM (s:=⟨0,0,0,0⟩) rfl rfl H2.o.1) rfl ⟨rfl,H2.o.2⟩
 subst he;have HM:=xh (nO rfl);have HL:=xh hlen;clear nO hlen
 by_cases hd0:d=0
 .have hR2:R=⟨q1,u+1,Sp.nil,14⟩:=by rw[<-HR.o,hd0];unfold kL;rw[HQ.o];rfl
  subst hR2;obtain rfl:dp=16:=by omega
  obtain⟨B2,o2,⟨k0,k1,k2,k3⟩,z0,z1,z2,z3⟩:=qv (s':=Sp.nil) H4.o.r;have H2:=xh (And.intro B2 (H4.o.done Sp.nil o2 14 (K0:=Kz) (by omega) (by omega) (λh=>absurd h (by decide))));unfold Sp.nil Sp.cs at *;dsimp only at *;clear B2 o2;go_wp2_with fail;exact bodyPost_ret (kM (s:=⟨0,0,0,0⟩) rfl rfl H2.o.1) rfl ⟨rfl,H2.o.2⟩
 obtain⟨d',rfl⟩:∃d',d=d'+1:=⟨d-1,by omega⟩;have hdI:¬((dp:Int)=16):=by omega
 have bG:=HR.o;unfold kL at bG;rw[HQ.o]at bG;dsimp only at bG;rw[if_neg (show ¬((0:Int)≠0) by simp)]at bG
 by_cases hs5:512<u+1
 .rw[if_pos hs5]at bG;subst bG;have Ta:(512:Int)-((u:Int)+1)<0:=by omega
  obtain⟨B2,o2,⟨k0,k1,k2,k3⟩,z0,z1,z2,z3⟩:=qv (s':=Sp.nil) H4.o.r;have H2:=xh (And.intro B2 (H4.o.done Sp.nil o2 14 (K0:=Kz) (by omega) (by omega) (λh=>absurd h (by decide))));unfold Sp.nil Sp.cs at *;dsimp only at *;clear B2 o2;go_wp2_with fail;exact bodyPost_ret (kM (s:=⟨0,0,0,0⟩) rfl rfl H2.o.1) rfl ⟨rfl,H2.o.2⟩
 rw[if_neg hs5]at bG;have fj:=xh bG;have Ta:¬((512:Int)-((u:Int)+1)<0):=by omega
 have HN:=xh hs5;have hs3:w4.heap.size=w3.heap.size:=by rw[<-HW4.o];simp
 clear bG hs5;obtain⟨w5,J8⟩:∃w5,w4.alloc (.cells #[.int .i64 0,.int .i64 0,.int .i64 0,.int .i64 1] 125)=w5:=⟨_,rfl⟩;have fi:=ae (Below.refl w4.heap.size w4) (.cells #[.int .i64 0,.int .i64 0,.int .i64 0,.int .i64 1] 125);have BO:=aF.new w4 125 #[.int .i64 0,.int .i64 0,.int .i64 0,.int .i64 1];obtain⟨lH,Q4⟩:∃b,w3.heap.size=b:=⟨_,rfl⟩;rw[hs3,Q4]at BO;have G5:CG w w5 tb lb z I F n (Kz+286*u+1) q1 (u+1) ⟨0,0,0,1⟩ leaf A c xQ lH l:=by
  rw[<-J8];refine⟨H4.o.below fi,BO,λhm=>?_,?_,?_⟩
  .have:=(aj.1 hm).elim (λe=>e▸H4.o.f.lt) (λhm=>H4.o.t.lt _ (aw _ hm));omega
  .have:=H4.o.r.lt;omega
  .have:=H4.o.o.size;omega
 have y0:=G5.a.b.ab (i:=0) rfl;have y1:=G5.a.b.ab (i:=1) rfl;have g0:=G5.g.frozen 0 (by simp[Sp.cs]);have g1:=G5.g.frozen 1 (by simp[Sp.cs]);have g2:=G5.g.ab (i:=0) rfl;have g3:=G5.g.ab (i:=1) rfl;have HS5:=xh (And.intro Q4 hs3)
 cases leaf
 .skip
  have o6:ag [lH] w5 (w5.setCell ⟨lH,1,none⟩ (.int .i64 1)):=(ag.refl _ _).setCell (by simp) _;have G6:=G5.set (s':=⟨0,1,0,1⟩) o6 (G5.g.bU 1 _);obtain⟨w6,Gu⟩:∃w6,w5.setCell ⟨lH,1,none⟩ (.int .i64 1)=w6:=⟨_,rfl⟩;rw[Gu]at G6;have v1:=G6.a.b.ab (i:=1) rfl;have H6:=xh G6;unfold Sp.cs at *;dsimp only at *;clear G5 G6 o6 fi BO;go_wp2_with fail
  go_loopw [53] (λiv wr=> ∃(i:Nat) (qi:QS) (sn:Nat) (si:Sp),i<=l.length/\iv=.int .i64 (i:Nat)/\sn<=512/\Hid (rQ (kL d') false (l.drop i) qi sn si=R)/\Hid (CG w wr tb lb z I F n (Kz+286*sn) qi sn si false A c xQ lH l)) (λiv _=>l.length-(intOf iv).toNat)
  case atStart=>exact⟨0,q1,u+1,_,bf _,rfl,by omega,fj,xh (H6.o.le (by omega))⟩
  case round=>
   clear v1;obtain⟨i,qi,sn,si,hi,rfl,Qm,HE,HW⟩:=hrel
   by_cases ME:i<l.length
   .skip
    have hilI:(i:Int)<(l.length:Int):=by omega
    obtain⟨x,hx⟩:∃x,l[i]?=some x:=⟨_,aG ME⟩;have hE:=HE.o;rw[nZ ME,show l[i]=x from by have:=aG ME;rw[hx]at this;injection this with h;exact h.symm]at hE;unfold rQ at hE;have SL:=HW.o.a.s;obtain⟨ad,oZ,eP⟩:=(Nd.aS.aD SL).2.2 i x hx;obtain⟨ga,ca,r7,xu,_⟩:=SL.form (by omega) (by omega);injection xu with e1 Q6 e3
    clear Q6;subst e1 e3;injection oZ with oZ
    subst oZ;rw[Nd.fZ,bl]at eP;have fi:=ae (Below.refl wr.heap.size wr) (.cells #[.string x.key,.string x.val,.int .i64 x.aQ] 111);have BX:=aF.new wr 111 #[.string x.key,.string x.val,.int .i64 x.aQ];have u0:=eP.c0;have u1:=eP.c1;have u2:=eP.c2;dsimp only at u1 u2;have j2:=BX.ab (i:=2) rfl;have pC:=xh (HW.o.below fi);have n0:=pC.o.a.b.ab (i:=0) rfl;have p0:=pC.o.a.t.1.ab (i:=0) rfl;have Cw:¬((i:Int)<0):=by omega
    have HE:=xh hE;have S0:=xh (And.intro p0 j2);have HBX:=xh BX;have NX:=xh (show wr.heap.size∉F from λhm=>by have:=HW.o.a.t.lt _ (aw _ hm);omega);have hE:=HE.o;clear eP SL BX hx fi;have VH:=HL.o;rw[if_neg (show ¬(false=true) by simp)]at hE;have KI:=IH.o d' rfl _ qi sn (dp+1) x.aQ (by omega) Qm pC.o.a.t pC.o.a.f HF.o.1 HF.o.2;rw[show((dp+1:Nat):Int)=(dp:Int)+1 from by omega]at KI
    have e3:IntKind.i64.wrap ((dp:Int)+1)=(dp:Int)+1:=IntWalk.i64_in _ (by omega);obtain⟨RW,hRW⟩:∃RW,kL d' qi sn x.aQ=RW:=⟨_,rfl⟩;rw[hRW]at KI hE;obtain⟨qw,sw,yw,ew⟩:=RW;dsimp only at KI hE;have KI:=xh KI;have HE:=xh hE;unfold tp at KI;clear hRW hE;go_wp2_with fail;refine KI.o.mono ?_;rintro e w7 ⟨rfl,T7,f7,o7,IV,VQ⟩;have H7:=xh (pC.o.deep T7 f7 o7);have H8:=xh (And.intro IV VQ);clear T7 f7 o7 IV VQ p0 n0 j2 u0 u1 u2
    have fi:=ae (Below.refl w7.heap.size w7) (.cells yw.cs 125);have BY:=aF.new w7 125 yw.cs;have hE:=HE.o
    by_cases hew:ew=0
    .subst hew;rw[if_neg (show ¬((0:Int)≠0) by simp)]at hE;have HE:=xh hE;have G8:=H7.o.below fi;have y0:=BY.ab (i:=0) rfl;have y1:=BY.ab (i:=1) rfl;have y2:=BY.ab (i:=2) rfl;have y3:=BY.ab (i:=3) rfl;obtain⟨B2,o2,⟨k0,k1,k2,k3⟩,z0,z1,z2,z3⟩:=qv (s':=si.add yw) G8.g;have G9:=xh (G8.set o2 B2);unfold Sp.add Sp.cs at *;dsimp only at *;clear hE G8 B2 o2 fi BY;go_wp2_with fail
     exact⟨⟨i+1,qw,sw,_,by omega,by go_num,H8.o.2 rfl,HE,G9⟩,by simp[intOf];omega⟩
    .have hq:(ew != 0)=true:=by rw[bne_iff_ne];exact hew
     have kh:(ew==0)=false:=by rw[beq_eq_false_iff_ne];exact hew
     rw[if_pos hew]at hE;subst hE;have G8:=xh (H7.o.a.below fi);clear fi BY;obtain⟨B2,o2,⟨k0,k1,k2,k3⟩,z0,z1,z2,z3⟩:=qv (s':=Sp.nil) G8.o.r;have H2:=xh (And.intro B2 (G8.o.done Sp.nil o2 ew (K0:=Kz) (by omega) (H8.o.1) (λh=>absurd h hew)));unfold Sp.nil Sp.cs at *;dsimp only at *;clear B2 o2;go_wp2_with fail;exact bodyPost_ret (kM (s:=⟨0,0,0,0⟩) rfl rfl H2.o.1) rfl ⟨rfl,H2.o.2⟩
   .skip
    obtain rfl:i=l.length:=by omega
    have hE:=HE.o;rw[yU]at hE;unfold rQ at hE;subst hE;obtain⟨B2,o2,⟨k0,k1,k2,k3⟩,z0,z1,z2,z3⟩:=qv (s':=si) HW.o.a.r;have H2:=xh (And.intro B2 (HW.o.a.done si o2 0 (K0:=Kz) (by have:=HL.o;omega) (by omega) (λ_=>by omega)));have g0:=HW.o.g.ab (i:=0) rfl;have g1:=HW.o.g.ab (i:=1) rfl;have g2:=HW.o.g.ab (i:=2) rfl;have g3:=HW.o.g.ab (i:=3) rfl;unfold Sp.nil Sp.cs at *;dsimp only at *;clear B2 o2;go_wp2_with fail
    exact bodyPost_ret (kM (s:=si) rfl rfl H2.o.1) rfl ⟨rfl,H2.o.2⟩
 .skip
  have o6:ag [lH] w5 (w5.setCell ⟨lH,0,none⟩ (.int .i64 1)):=(ag.refl _ _).setCell (by simp) _;have G6:=G5.set (s':=⟨1,0,0,1⟩) o6 (G5.g.bU 0 _);obtain⟨w6,Gu⟩:∃w6,w5.setCell ⟨lH,0,none⟩ (.int .i64 1)=w6:=⟨_,rfl⟩;rw[Gu]at G6;have v1:=G6.a.b.ab (i:=1) rfl;have H6:=xh G6;unfold Sp.cs at *;dsimp only at *;clear G5 G6 o6 fi BO;go_wp2_with fail
  go_loopw [53] (λiv wr=> ∃(i:Nat) (qi:QS) (si:Sp),i<=l.length/\iv=.int .i64 (i:Nat)/\Hid (rQ (kL d') true (l.drop i) qi (u+1) si=R)/\Hid (CG w wr tb lb z I F n (Kz+286*u+1+5*i) qi (u+1) si true A c xQ lH l)) (λiv _=>l.length-(intOf iv).toNat)
  case atStart=>exact⟨0,q1,_,bf _,rfl,fj,H6⟩
  case round=>
   clear v1;obtain⟨i,qi,si,hi,rfl,HE,HW⟩:=hrel
   by_cases ME:i<l.length
   .skip
    have hilI:(i:Int)<(l.length:Int):=by omega
    obtain⟨x,hx⟩:∃x,l[i]?=some x:=⟨_,aG ME⟩;have hE:=HE.o;rw[nZ ME,show l[i]=x from by have:=aG ME;rw[hx]at this;injection this with h;exact h.symm]at hE;unfold rQ at hE;have SL:=HW.o.a.s;obtain⟨ad,oZ,eP⟩:=(Nd.aS.aD SL).2.2 i x hx;obtain⟨ga,ca,r7,xu,_⟩:=SL.form (by omega) (by omega);injection xu with e1 Q6 e3
    clear Q6;subst e1 e3;injection oZ with oZ
    subst oZ;rw[Nd.fZ,bl]at eP;have fi:=ae (Below.refl wr.heap.size wr) (.cells #[.string x.key,.string x.val,.int .i64 x.aQ] 111);have BX:=aF.new wr 111 #[.string x.key,.string x.val,.int .i64 x.aQ];have u0:=eP.c0;have u1:=eP.c1;have u2:=eP.c2;dsimp only at u1 u2;have j2:=BX.ab (i:=2) rfl;have pC:=xh (HW.o.below fi);have n0:=pC.o.a.b.ab (i:=0) rfl;have p0:=pC.o.a.t.1.ab (i:=0) rfl;have Cw:¬((i:Int)<0):=by omega
    have HE:=xh hE;have S0:=xh (And.intro p0 j2);have HBX:=xh BX;have NX:=xh (show wr.heap.size∉F from λhm=>by have:=HW.o.a.t.lt _ (aw _ hm);omega);have hE:=HE.o;clear eP SL BX hx fi;have VH:=HL.o;rw[if_pos (show(true=true)from rfl)]at hE
    by_cases hf:0<=x.aQ
    .have KP:=λ(W:World) (hW:TQ W tb I F qi n (Kz+286*u+1+5*i))=>Md hW.2 (by omega) x.aQ;rw[if_pos hf]at hE;obtain⟨RC,hRC⟩:∃RC,qi.cH x.aQ=RC:=⟨_,rfl⟩;rw[hRC]at hE KP;obtain⟨qc,lc,bc,ec⟩:=RC;dsimp only at hE KP;have HE2:=xh hE;have KP:=xh KP;have KB:=xh uA;unfold pp at KP;clear hRC hE;go_wp2_with fail;clear p0 n0 j2 u0 u1 u2
     refine wp_region_held_drew (S:=λW=>W.cell? ⟨tb,0,none⟩=some (.pointer (some ⟨I.pb,0,none⟩))/\W.cell? ⟨wr.heap.size,2,none⟩=some (.int .i64 x.aQ)) (by kernel_rfl) (S0.o) (λau=>?_);refine cP [(0,66),(1,67),(2,68),(3,69),(4,70),(5,71)] ?_
     iterate 6 refine bj ?_
     refine cQ 6 72 λK hK=>?_;go_simp
     go_at_call 116
     refine(KP.o _ pC.o.a.t.drew).mono ?_;rintro e w7 ⟨A7,m7,c7,rfl,S7,P7,o7,f7⟩;obtain⟨V8,c8,e8⟩:=ax S7;injection e8 with e7 e8 e9
     subst e8;have W7:=xh ((pC.o.below (Below.refl _ _).drew).pool P7 o7);have X7:=xh ((HBX.o.drew.only o7 NX.o).ab (i:=2) rfl);clear S7 P7 o7 f7 e7 e9;go_simp;refine bz hK (⟨W7.o.a.t.1.ab (i:=0) rfl,X7.o⟩) (λau=>?_);refine cP [(7,65),(8,73),(9,74),(10,15),(11,16)] ?_
     iterate 5 refine bj ?_
     refine wpAnyH_done (by kernel_rfl) ?_ _;have hE:=HE2.o;have g2:=W7.o.g.ab (i:=2) rfl;have z2:=W7.o.g.frozen 2 (by simp[Sp.cs]);unfold Sp.cs at g2
     by_cases he7:ec=0
     .subst he7;rw[if_neg (show ¬((0:Int)≠0) by simp)]at hE;have HE:=xh hE;have o8:ag [lH] w7 (w7.setCell ⟨lH,2,none⟩ (.int .i64 (wrap64 (si.c+(lc.length:Nat))))):=(ag.refl _ _).setCell (by simp) _;have G8:=xh (W7.o.set (s':={si with c:=wrap64 (si.c+(lc.length:Nat))}) o8 (W7.o.g.bU 2 _));clear hE o8;go_wp2_with fail;go_roundw
      case rel=>exact⟨i+1,qc,_,by omega,by go_num,HE,xh (G8.o.le (by omega))⟩
      case measure=>simp[intOf];omega
     .have hq:(ec != 0)=true:=by rw[bne_iff_ne];exact he7
      have kh:(ec==0)=false:=by rw[beq_eq_false_iff_ne];exact he7
      rw[if_pos he7]at hE;subst hE;clear g2 z2;go_wp2_with fail;refine(KB.o _ _).mono ?_;rintro e w8 ⟨rfl,rfl⟩;obtain⟨B2,o2,⟨k0,k1,k2,k3⟩,z0,z1,z2,z3⟩:=qv (s':=Sp.nil) W7.o.a.r;have H2:=xh (And.intro B2 (W7.o.a.done Sp.nil o2 (pz ec) (K0:=Kz) (by omega) (by omega) (λh=>absurd h (badE_ne he7))));unfold Sp.nil Sp.cs at *;dsimp only at *;clear B2 o2;go_wp2_with fail;exact bodyPost_ret (kM (s:=⟨0,0,0,0⟩) rfl rfl H2.o.1) rfl ⟨rfl,H2.o.2⟩
    .rw[if_neg hf]at hE;have HE:=xh hE;clear hE;go_wp2_with fail;go_roundw
     case rel=>exact⟨i+1,qi,si,by omega,by go_num,HE,xh (pC.o.le (by omega))⟩
     case measure=>simp[intOf];omega
   .skip
    obtain rfl:i=l.length:=by omega
    have hE:=HE.o;rw[yU]at hE;unfold rQ at hE;subst hE;obtain⟨B2,o2,⟨k0,k1,k2,k3⟩,z0,z1,z2,z3⟩:=qv (s':=si) HW.o.a.r;have H2:=xh (And.intro B2 (HW.o.a.done si o2 0 (K0:=Kz) (by have:=HL.o;omega) (by omega) (λ_=>by omega)));have g0:=HW.o.g.ab (i:=0) rfl;have g1:=HW.o.g.ab (i:=1) rfl;have g2:=HW.o.g.ab (i:=2) rfl;have g3:=HW.o.g.ab (i:=3) rfl;unfold Sp.nil Sp.cs at *;dsimp only at *;clear B2 o2;go_wp2_with fail
    exact bodyPost_ret (kM (s:=si) rfl rfl H2.o.1) rfl ⟨rfl,H2.o.2⟩
variable{tb n Kz:Nat}{I:Ix}{F:List Nat}
theorem DB{lb:Nat}(hK:Kz<=999999000000):∀d,FZ tb lb I F n Kz d
 |0=>IU hK 0 λd' e=>absurd e (by omega)
 |d+1=>IU hK (d+1) λd' e=>by
  obtain rfl:d'=d:=by omega
  exact DB hK d'
theorem MH{w:World}{q:QS}(h:TQ w tb I F q n Kz)(hK:Kz<=999999000000):
  Calls prog 23 #[tp tb] w λe w'=>e=.returned (.tuple #[.int .i64 (kL 16 q 0 0).s.a,.int .i64 (kL 16 q 0 0).s.b,.int .i64 (kL 16 q 0 0).s.c,.int .i64 (kL 16 q 0 0).s.d,.int .i64 (kL 16 q 0 0).e])/\PQ w' I F (kL 16 q 0 0).q n (Kz+146718)/\ag F w w':=by
 have O0:=xh (ae (Below.refl w.heap.size w) (.cells #[.int .i64 512] 3));have B0:=xh (aF.new w 3 #[.int .i64 512]);have NF:=xh (show w.heap.size∉F/\w.heap.size≠tb from⟨λhm=>by have:=h.lt _ (aw _ hm);omega,λe=>by have:=h.lt tb (by simp);omega⟩);have KC:=DB (tb:=tb) (lb:=w.heap.size) (I:=I) (F:=F) (n:=n) hK 16 _ q 0 0 0 (by omega) (by omega) (h.below O0.o) B0.o NF.o.1 NF.o.2;generalize kL 16 q 0 0=R at *
 obtain⟨q1,u1,⟨a,b,c,d⟩,er⟩:=R;dsimp only at *;have KC:=xh KC;have HK:=xh hK;clear h hK;unfold tp Sp.cs at *;go_enter func23,ntmps23;go_wp2_with fail;refine KC.o.mono ?_;rintro e w2 ⟨rfl,T2,f2,o2,IV,_⟩;dsimp only at T2 f2 o2 IV;have BS:=aF.new w2 125 #[.int .i64 a,.int .i64 b,.int .i64 c,.int .i64 d];have fi:=ae (Below.refl w2.heap.size w2) (.cells #[.int .i64 a,.int .i64 b,.int .i64 c,.int .i64 d] 125)
 have H2:=xh (show PQ w2 I F q1 n (Kz+146718)/\ag F w w2 from⟨T2.2.le (by omega),(ag.ai O0.o).aL o2 (λg hg hl=>(aj.1 hg).elim (λe=>by omega) id)⟩);have x0:=BS.ab (i:=0) rfl;have x1:=BS.ab (i:=1) rfl;have x2:=BS.ab (i:=2) rfl;have x3:=BS.ab (i:=3) rfl;have HA:=xh fi;clear T2 f2 o2 IV BS fi;go_wp2_with fail;go_quiet (fail);go_wp2_with fail
 refine bodyPost_ret (v:= .tuple #[.int .i64 a,.int .i64 b,.int .i64 c,.int .i64 d,.int .i64 er]) ?_ rfl ⟨rfl,H2.o.1.below (df HA.o nq),H2.o.2.trans (.ai (df HA.o nq))⟩;simp[results,Tryz.results23,go_sem]
variable{n K:Nat}{p:Int}
def QS.VR(q:QS):Nat:=(List.range 512).countP λj=>decide ((q.vw (j:Nat)).2=0)
theorem cnt_le(q:QS):q.VR<=512:=by
 have:=uX (p:=λj:Nat=>decide ((q.vw (j:Nat)).2=0)) (l:=List.range 512);rw[En]at this;exact this
theorem Wp.vw_lt{q:QS}(h:Wp q n K){j:Int}(h0:(q.vw j).2=0):0<=j/\j<512:=by
 refine⟨vw_pos h0,?_⟩;have hr:(q.a.aK j).2=0:=by
  rcases fY q j with ho|⟨i,f,hi,rfl,hp⟩
  .rw[eA ho]at h0;exact h0
  .exact h.V.ex f (ay hi) hp
 have:=ia (mW.1 hr);have:=h.H.nl;omega
theorem VS{q q':QS}(h:Wp q n K)(h0:(q.vw p).2=0)(hv:∀j,q'.vw j=if j=p then([],3)else q.vw j):q'.VR+1=q.VR:=by
 obtain⟨p1,p2⟩:=h.vw_lt h0;obtain⟨m,rfl⟩:∃m:Nat,p=(m:Int):=⟨p.toNat,by omega⟩;have hm:m<512:=by omega
 unfold QS.VR;have key:∀N,m<N->((List.range N).countP λj=>decide ((q'.vw (j:Nat)).2=0))+1=(List.range N).countP λj=>decide ((q.vw (j:Nat)).2=0):=by
  intro N
  induction N with
  |zero=>intro h;omega
  |succ N ih=>
   intro hN;rw[Eu,nY,nY,JN,JN]
   by_cases e:m=N
   .subst e;have h1:decide ((q'.vw (m:Nat)).2=0)=false:=by rw[hv,if_pos rfl];decide
    rw[h1,h0];have h2:((List.range m).countP λj=>decide ((q'.vw (j:Nat)).2=0))=(List.range m).countP λj=>decide ((q.vw (j:Nat)).2=0):=by
     refine sk (λj hj=>?_);have:=kT.1 hj;rw[hv,if_neg (by omega)]
    rw[h2];simp
   .have h1:q'.vw (N:Nat)=q.vw (N:Nat):=by rw[hv,if_neg (by omega)]
    rw[h1];have:=ih (by omega);omega
 exact key 512 hm
theorem VT{q q':QS}(hv:∀j,q'.vw j=q.vw j):q'.VR=q.VR:=by
 unfold QS.VR;simp only[hv]
def ny:Nat->QS->Bool->List E->QS×Int
 |0,q,_,_=>(q,0)
 |m+1,q,leaf,l=>
  if leaf=false/\l.length=1 then
   if(q.bh (l.getD 0 Nd.E.zero).aQ).2.2.2≠0 then((q.bh (l.getD 0 Nd.E.zero).aQ).1,(q.bh (l.getD 0 Nd.E.zero).aQ).2.2.2)
   else if((q.bh (l.getD 0 Nd.E.zero).aQ).1.aR (l.getD 0 Nd.E.zero).aQ).2≠0 then(q.bh (l.getD 0 Nd.E.zero).aQ).1.aR (l.getD 0 Nd.E.zero).aQ
   else ny m ((q.bh (l.getD 0 Nd.E.zero).aQ).1.aR (l.getD 0 Nd.E.zero).aQ).1 (q.bh (l.getD 0 Nd.E.zero).aQ).2.1 (q.bh (l.getD 0 Nd.E.zero).aQ).2.2.1
  else if l=[]then q.cN 0 true []else q.cN 0 leaf l
def QS.sY(q:QS)(leaf:Bool)(l:List E):QS×Int:=ny 600 q leaf l
theorem VU{q:QS}(h:Wp q n K)(p:Int):Wp (q.bh p).1 n (K+1)/\(∀j,(q.bh p).1.vw j=q.vw j):=by
 have hg:=(h.get p).1;have:(q.bh p).1=(q.cU p).1:=by unfold QS.bh;split<;>rfl
 rw[this];exact⟨hg.w,hg.v⟩
theorem VV{q:QS}(h:Wp q n K)(h0:(q.aR p).2=0):(q.aR p).1.VR+1=q.VR:=by
 rcases(h.drop p).2 with⟨a,b,c⟩|⟨a,b,c⟩
 .exact VS h a c
 .rw[h0]at b;exact absurd b (by decide)
theorem MI{w:World}{tb:Nat}{I:Ix}{F:List Nat}{q:QS}{Kz:Nat}(h:TQ w tb I F q n Kz)(VK:Kz<=999999990000)(leaf:Bool)(A:Option Addr)(m c:Nat)(l:List E)(S:aS w 111 3 (.slice A m c) m (aD l))(hm:m<=1000):
  Calls prog 133 #[tp tb,bu leaf A m c] w λe w'=>e=.returned (.int .i64 (q.sY leaf l).2)/\PQ w' I F (q.sY leaf l).1 n (Kz+601)/\ag F w w':=by
 have KR:=xh (λ(W:World) (qj:QS) (kj:Nat) (hW:TQ W tb I F qj n kj) (hk:kj<=999999999999) (p:Int)=>mf hW hk p);have KD:=xh (λ(W:World) (qj:QS) (kj:Nat) (hW:TQ W tb I F qj n kj) (p:Int)=>ra hW.2 p);have KW:=xh (λ(W:World) (qj:QS) (kj:Nat) (hW:TQ W tb I F qj n kj) (hk:kj<=999999999999) (leaf:Bool) (A:Option Addr) (m c:Nat) (l:List E) (S:aS W 111 3 (.slice A m c) m (aD l)) (hm:m<=1000)=>oR hW hk 0 leaf A m c l S hm)
 have hlm:l.length=m:=by have:=S.1;rw[Nd.ar]at this;omega
 obtain⟨R,hR⟩:∃R,q.sY leaf l=R:=⟨_,rfl⟩;rw[hR];unfold QS.sY at hR;have HR:=xh hR;have fi:=ae (Below.refl w.heap.size w) (.cells #[.bool leaf,.slice A m c] 118);have H0:=xh (show TQ _ tb I F q n (Kz+600-600)/\aS _ 111 3 (.slice A m c) m (aD l)/\aF _ w.heap.size 118 #[.bool leaf,.slice A m c]/\ag F w _ from⟨h.below fi,S.below fi,aF.new w 118 #[.bool leaf,.slice A m c],.ai fi⟩);have UL:=xh (show q.VR<600 from by have:=cnt_le q;omega)
 have HLM:=xh hlm;have HLEN:=xh (λ(qj:QS) (p:Int)=>kK qj p);clear h hR S fi hlm;unfold tp bu at *;go_enter func133,ntmps133;go_wp2_with fail
 go_loopg [5] 600 (λk pv wr=> ∃(qi:QS) (leaf:Bool) (A:Option Addr) (m c:Nat) (l:List E),k<=600/\m<=1000/\Hid (ny k qi leaf l=R)/\Hid (qi.VR<k)/\Hid (l.length=m)/\Hid (TQ wr tb I F qi n (Kz+600-k)/\aS wr 111 3 (.slice A m c) m (aD l)/\aF wr w.heap.size 118 #[.bool leaf,.slice A m c]/\ag F w wr))
 case atStart=>exact⟨q,leaf,A,m,c,l,by omega,hm,HR,UL,HLM,H0⟩
 case round=>
  obtain⟨qi,lf,A,m,c,l,hk,hm,HR,UL,HLM,H0⟩:=hrel;obtain⟨k',rfl⟩:∃k',gk=k'+1:=⟨gk-1,by have:=UL.o;omega⟩;have B0:=xh H0.o.2.2.1;have x0:=B0.o.ab (i:=0) rfl;have x1:=B0.o.ab (i:=1) rfl
  by_cases hc:lf=false/\m=1
  .obtain⟨rfl,rfl⟩:=hc;obtain⟨ex,rfl⟩:∃ex,l=[ex]:=List.length_eq_one_iff.1 HLM.o;have bG:=HR.o;unfold ny at bG;rw[if_pos ⟨rfl,rfl⟩,show([ex]:List E).getD 0 Nd.E.zero=ex from rfl]at bG;obtain⟨ga,ca,r7,xu,BA,_,_⟩:=H0.o.2.1.form (by omega) (by omega);injection xu with e1 Q6 e3
   clear Q6;subst e1 e3;have xf:wr.cell? ⟨ga,2,none⟩=some (.int .i64 ex.aQ):=BA.ab rfl;have K1:=xh (KR.o wr qi (Kz+600-(k'+1)) H0.o.1 (by omega) ex.aQ);have hv:=VU H0.o.1.2.wp ex.aQ;have hl1:=HLEN.o qi ex.aQ;generalize qi.bh ex.aQ=r at *;obtain⟨q1,Q7,l1,er⟩:=r;dsimp only at *;have HV:=xh hv;have fj:=xh bG;clear bG hv BA;go_wp2_with fail;refine K1.o.mono ?_;rintro e w2 ⟨A1,c1,rfl,S2,f2,P2,o2⟩
   have HA2:=ae (Below.refl w2.heap.size w2) (.cells #[.bool Q7,.slice A1 l1.length c1] 118);have B3:=xh (aF.new w2 118 #[.bool Q7,.slice A1 l1.length c1]);have Oq:w.heap.size∉F:=H0.o.1.2.iI B0.o
   have H2:=xh (show TQ (w2.alloc (.cells #[.bool Q7,.slice A1 l1.length c1] 118)) tb I F q1 n (Kz+600-k')/\aS (w2.alloc (.cells #[.bool Q7,.slice A1 l1.length c1] 118)) 111 3 (.slice A1 l1.length c1) l1.length (aD l1)/\aF (w2.alloc (.cells #[.bool Q7,.slice A1 l1.length c1] 118)) w.heap.size 118 #[.bool false,.slice (some ⟨ga,0,none⟩) 1 c]/\ag F w (w2.alloc (.cells #[.bool Q7,.slice A1 l1.length c1] 118))/\w.heap.size<w2.heap.size from
    ⟨((H0.o.1.next o2 P2).below HA2).le (by omega),S2.below HA2,(B0.o.only o2 Oq).below HA2 (B0.o.only o2 Oq).lt,(H0.o.2.2.2.trans o2).trans (.ai HA2),(B0.o.only o2 Oq).lt⟩)
   clear S2 f2 P2 o2 HA2 x0 x1 xf
   by_cases he:er=0
   .subst he;have bG:=fj.o;rw[if_neg (show ¬((0:Int)≠0) by simp)]at bG;have K2:=xh (KD.o _ q1 _ H2.o.1 ex.aQ);have hcnt:=VV (q:=q1) H2.o.1.2.wp (p:=ex.aQ);generalize q1.aR ex.aQ=R2 at *;obtain⟨q2,e2⟩:=R2;dsimp only at *;have HCD:=xh hcnt;have fj:=xh bG;clear bG hcnt;unfold pp at K2;have xt:=H2.o.1.1.ab (i:=0) rfl;unfold pp at xt;go_wp2_with fail;refine K2.o.mono ?_;rintro e w4 ⟨rfl,P4,o4⟩;have hnf:w2.heap.size∉F:=H2.o.1.2.iI B3.o
    have Oq:w.heap.size∉F:=H2.o.1.2.iI H2.o.2.2.1;have H4:=xh (show TQ w4 tb I F q2 n (Kz+600-k')/\aS w4 111 3 (.slice A1 l1.length c1) l1.length (aD l1)/\aF w4 w.heap.size 118 #[.bool false,.slice (some ⟨ga,0,none⟩) 1 c]/\ag F w w4 from
     ⟨H2.o.1.next o4 P4,PT.Pt (.self P4 o4) H2.o.1.2 H2.o.2.1,H2.o.2.2.1.only o4 Oq,H2.o.2.2.2.1.trans o4⟩)
    have B4:=xh (B3.o.only o4 hnf);clear P4 o4 xt hnf Oq B3
    by_cases r8:e2=0
    .subst r8;have bG:=fj.o;rw[if_neg (show ¬((0:Int)≠0) by simp)]at bG;have fj:=xh bG;obtain⟨SB,so,z0,z1,zf0,zf1⟩:=FU (b':=Q7) (v':= .slice A1 l1.length c1) H4.o.2.2.1;have y0:=B4.o.ab (i:=0) rfl;have y1:=B4.o.ab (i:=1) rfl;have HTB:tb≠w.heap.size:=λe=>H4.o.1.1.kl H4.o.2.2.1 (by decide) e;have Oq:w.heap.size∉F:=H4.o.1.2.iI H4.o.2.2.1
     have H5:=xh (show TQ ((w4.setCell ⟨w.heap.size,0,none⟩ (.bool Q7)).setCell ⟨w.heap.size,1,none⟩ (.slice A1 l1.length c1)) tb I F q2 n (Kz+600-k')/\aS ((w4.setCell ⟨w.heap.size,0,none⟩ (.bool Q7)).setCell ⟨w.heap.size,1,none⟩ (.slice A1 l1.length c1)) 111 3 (.slice A1 l1.length c1) l1.length (aD l1)/\aF ((w4.setCell ⟨w.heap.size,0,none⟩ (.bool Q7)).setCell ⟨w.heap.size,1,none⟩ (.slice A1 l1.length c1)) w.heap.size 118 #[.bool Q7,.slice A1 l1.length c1]/\ag F w ((w4.setCell ⟨w.heap.size,0,none⟩ (.bool Q7)).setCell ⟨w.heap.size,1,none⟩ (.slice A1 l1.length c1))from
      ⟨H4.o.1.only so (λz hz hm=>by
       rw[aI.1 hm]at hz
       rcases aj.1 hz with h|h
       .exact HTB h.symm
       .exact Oq h),H4.o.2.1.only so (λz hz hm=>dk H4.o.2.1 H4.o.2.2.1 (by decide) (by rw[<-aI.1 hm];exact hz)),SB,H4.o.2.2.2.aL so (λz hz dP=>by rw[aI.1 hz]at dP;omega)⟩)
     clear SB so Oq HTB bG;go_wp2_with fail
     go_roundg k'
     case measure=>omega
     case rel=>exact⟨q2,Q7,A1,l1.length,c1,l1,by omega,by omega,fj,xh (by have h1:=HCD.o (by trivial);have h2:=VT HV.o.2;have h3:=UL.o;omega),xh rfl,H5⟩
    .have bG:=fj.o;rw[if_pos r8]at bG;subst bG;have hq:(e2 != 0)=true:=by rw[bne_iff_ne];exact r8
     have kh:(e2==0)=false:=by rw[beq_eq_false_iff_ne];exact r8
     go_wp2_with fail;go_ret;exact aP ⟨H4.o.1.2.le (by omega),H4.o.2.2.2⟩
   .have bG:=fj.o;rw[if_pos he]at bG;subst bG;have hq:(er != 0)=true:=by rw[bne_iff_ne];exact he
    have kh:(er==0)=false:=by rw[beq_eq_false_iff_ne];exact he
    go_wp2_with fail;go_ret;exact aP ⟨H2.o.1.2.le (by omega),H2.o.2.2.2.1⟩
  .have bG:=HR.o;unfold ny at bG;rw[if_neg (by rw[HLM.o];exact hc)]at bG
   by_cases hm0:m=0
   .subst hm0;have GQ:l=[]:=Ek.1 HLM.o;rw[if_pos GQ]at bG;subst bG;obtain⟨SB,so,z0,z1,zf0,zf1⟩:=FU (b':=true) (v':= .slice none 0 0) H0.o.2.2.1;have HTB:tb≠w.heap.size:=λe=>H0.o.1.1.kl H0.o.2.2.1 (by decide) e;have Oq:w.heap.size∉F:=H0.o.1.2.iI H0.o.2.2.1
    have H5:=xh (show TQ ((wr.setCell ⟨w.heap.size,0,none⟩ (.bool true)).setCell ⟨w.heap.size,1,none⟩ (.slice none 0 0)) tb I F qi n (Kz+600-(k'+1))/\ag F w ((wr.setCell ⟨w.heap.size,0,none⟩ (.bool true)).setCell ⟨w.heap.size,1,none⟩ (.slice none 0 0))from
      ⟨H0.o.1.only so (λz hz hm=>by
       rw[aI.1 hm]at hz
       rcases aj.1 hz with h|h
       .exact HTB h.symm
       .exact Oq h),H0.o.2.2.2.aL so (λz hz dP=>by rw[aI.1 hz]at dP;omega)⟩)
    have K6:=xh (KW.o _ qi _ H5.o.1 (by omega) true none 0 0 [] (aS.nil _ _ _) (by omega));have y0:=SB.ab (i:=0) rfl;have y1:=SB.ab (i:=1) rfl;clear SB so Oq HTB GQ
    cases lf
    .skip
     go_wp2_with fail;refine K6.o.mono ?_;rintro e w6 ⟨rfl,P6,o6⟩;go_wp2_with fail;go_ret;exact aP ⟨P6.le (by omega),H5.o.2.trans o6⟩
    .skip
     go_wp2_with fail;refine K6.o.mono ?_;rintro e w6 ⟨rfl,P6,o6⟩;go_wp2_with fail;go_ret;exact aP ⟨P6.le (by omega),H5.o.2.trans o6⟩
   .rw[if_neg (λe=>hm0 (by rw[<-HLM.o,e];rfl))]at bG;subst bG;have K6:=xh (KW.o _ qi _ H0.o.1 (by omega) lf A m c l H0.o.2.1 hm);have hmI:((m:Nat):Int)≠0:=by omega
    cases lf
    .have hm1:((m:Nat):Int)≠1:=λe=>hc ⟨rfl,by omega⟩;have hm1':¬m=1:=by omega
     clear hc;go_wp2_with fail;refine K6.o.mono ?_;rintro e w6 ⟨rfl,P6,o6⟩;go_wp2_with fail;go_ret;exact aP ⟨P6.le (by omega),H0.o.2.2.2.trans o6⟩
    .clear hc;go_wp2_with fail;refine K6.o.mono ?_;rintro e w6 ⟨rfl,P6,o6⟩;go_wp2_with fail;go_ret;exact aP ⟨P6.le (by omega),H0.o.2.2.2.trans o6⟩
variable{w:World}{b tb n Kz:Nat}{I:Ix}{F:List Nat}
def gC:List Step->QS->QS×Int
 |[],q=>(q,0)
 |[x],q=>if x.leaf=true then q.cN x.an x.leaf x.l else q.sY x.leaf x.l
 |x::y::up,q=>
  if x.l=[]then
   if(q.aR x.an).2≠0 then q.aR x.an
   else gC ({y with l:=y.l.eraseIdx y.at_}::up) (q.aR x.an).1
  else q.cN x.an x.leaf x.l
 termination_by l=>l.length
theorem xR(x:Step)(q:QS):gC [x] q=if x.leaf=true then q.cN x.an x.leaf x.l else q.sY x.leaf x.l:=by
 unfold gC;rfl
theorem xS(x y:Step)(up:List Step)(q:QS):gC (x::y::up) q=if x.l=[]then
   if(q.aR x.an).2≠0 then q.aR x.an
   else gC ({y with l:=y.l.eraseIdx y.at_}::up) (q.aR x.an).1
  else q.cN x.an x.leaf x.l:=by
 conv=>lhs;unfold gC
theorem aV.uC{g m cc:Nat}{Lp:List SM}{Z:SM}{k:Nat}(h:aV w b (.slice (some ⟨g,0,none⟩) m cc) (Lp++[Z]))(hp:Lp.length=k)(i:Nat)(hi:i<4):w.cell? ⟨g,k*4+i,none⟩=Z.cells[i]?:=by
 have h1:=h.cell (k:=Lp.length) (Z:=Z) (by rw[dR (Nat.le_refl _),fM];rfl) i hi;rw[hp]at h1;exact h1
theorem VW(A:Option Addr)(m c m' c':Nat):ah (.slice A m c)=ah (.slice A m' c'):=by cases A<;>rfl
theorem IW{q:QS}{v:Value}{L:List SM}(pre:List Step)(x:Step)(h:TQ w tb I F q n Kz)(VK:Kz<=999999980000)(SA:aV w b v L)(hb:b<=w.heap.size)(nP:L.map SM.s=pre++[x])(rK:∀s∈pre,s.at_<s.l.length/\s.l.length<=1000)(NU:x.l.length<=1000)(hp16:pre.length<=16):
  Calls prog 76 #[tp tb,v] w λe w'=>e=.returned (.int .i64 (gC (x::pre.reverse) q).2)/\PB b w w' I F (gC (x::pre.reverse) q).1 n (Kz+601):=by
 obtain⟨Lp,A,c,g,cc,rfl,lS,rfl,hbg,Fl,uQ,gZ,Su,S1,f1⟩:=SA.last nP;have KD:=xh (λ(W:World) (qj:QS) (hW:TQ W tb I F qj n Kz) (p:Int)=>ra hW.2 p);have KW:=xh (λ(W:World) (qj:QS) (kj:Nat) (hW:TQ W tb I F qj n kj) (hk:kj<=999999999999) (p:Int) (leaf:Bool) (A:Option Addr) (m c:Nat) (l:List E) (S:aS W 111 3 (.slice A m c) m (aD l)) (hm:m<=1000)=>oR hW hk p leaf A m c l S hm)
 have KL:=xh (λ(W:World) (qj:QS) (hW:TQ W tb I F qj n Kz) (leaf:Bool) (A:Option Addr) (m c:Nat) (l:List E) (S:aS W 111 3 (.slice A m c) m (aD l)) (hm:m<=1000)=>MI hW (by omega) leaf A m c l S hm);obtain⟨R,hR⟩:∃R,gC (x::pre.reverse) q=R:=⟨_,rfl⟩;rw[hR];have HR:=xh hR;have HM:=xh lS;have sW:=xh rK;have HXL:=xh NU
 have HA:=xh (show aV w b (.slice (some ⟨g,0,none⟩) (pre.length+1) cc) (Lp++[⟨x,A,c⟩])/\TQ w tb I F q n Kz/\OB b w w F F/\b<=w.heap.size from⟨SA,h,OB.refl _ _ _,hb⟩);clear h SA nP rK NU hR gZ Su S1 f1 lS;unfold tp bu at *;go_enter func76,ntmps76;go_wp2_with fail
 go_loopw [1] (λsv wr=> ∃(pre:List Step) (x:Step) (Lp:List SM) (A:Option Addr) (c:Nat) (qi:QS),pre.length<=16/\pre.length+1<=cc/\sv=.slice (some ⟨g,0,none⟩) (pre.length+1) cc/\Hid (Lp.map SM.s=pre)/\Hid (gC (x::pre.reverse) qi=R)/\Hid (∀s∈pre,s.at_<s.l.length/\s.l.length<=1000)/\Hid (x.l.length<=1000)/\Hid (aV wr b (.slice (some ⟨g,0,none⟩) (pre.length+1) cc) (Lp++[⟨x,A,c⟩])/\TQ wr tb I F qi n Kz/\OB b w wr F F/\b<=wr.heap.size)) (λsv _=>On sv)
 case atStart=>exact⟨pre,x,Lp,A,c,q,hp16,Fl,rfl,HM,HR,sW,HXL,HA⟩
 case round=>
  obtain⟨pre,x,Lp,A,c,qi,hp16,Fl,rfl,HM,HR,sW,HXL,HA⟩:=hrel;have uU:=xh (show Lp.length=pre.length from by rw[<-HM.o,eM]);obtain⟨xp,xf,xl,xa⟩:=x;dsimp only at HXL;have c0:wr.cell? ⟨g,pre.length*4,none⟩=some (.int .i64 xp):=HA.o.1.uC uU.o 0 (by omega);have c1:wr.cell? ⟨g,pre.length*4+1,none⟩=some (.bool xf):=HA.o.1.uC uU.o 1 (by omega);have c2:wr.cell? ⟨g,pre.length*4+1+1,none⟩=some (.slice A xl.length c):=HA.o.1.uC uU.o 2 (by omega)
  have c3:wr.cell? ⟨g,pre.length*4+3,none⟩=some (.int .i64 (xa:Nat)):=HA.o.1.uC uU.o 3 (by omega)
  rcases ss pre with rfl|⟨eB,y,hpe⟩
  .have bG:=HR.o;rw[List.reverse_nil,xR]at bG;rw[show([]:List Step).length=0 from rfl,oo]at c0 c1 c2 c3;rw[bl]at c1 c2 c3
   cases xf
   .rw[if_neg (by simp)]at bG;subst bG;have fi:=ae (Below.refl wr.heap.size wr) (.cells #[.int .i64 xp,.bool false,.slice A xl.length c,.int .i64 (xa:Nat)] 120);have BS:=xh (aF.new wr 120 #[.int .i64 xp,.bool false,.slice A xl.length c,.int .i64 (xa:Nat)]);have y0:=BS.o.ab (i:=0) rfl;have y1:=BS.o.ab (i:=1) rfl;have y2:=BS.o.ab (i:=2) rfl
    have H1:=xh (show TQ _ tb I F qi n Kz/\aS _ 111 3 (.slice A xl.length c) xl.length (aD xl)/\OB b w _ F F from⟨HA.o.2.1.below fi,(HA.o.1.e ⟨⟨xp,false,xl,xa⟩,A,c⟩ (by simp)).1.below fi,HA.o.2.2.1.below fi⟩);clear fi;have K1:=xh (KL.o _ qi H1.o.1 false A xl.length c xl H1.o.2.1 HXL.o);unfold bu at K1;go_wp2_with fail;refine K1.o.mono ?_;rintro e w6 ⟨rfl,P6,o6⟩;have P6:=xh P6;have o6:=xh o6;clear y0 y1 y2;go_wp2_with fail;go_ret
    exact aP (((H1.o.2.2.step hb o6.o (λ_ hg=> .inl hg)).pb P6.o).le (by omega))
   .rw[if_pos rfl]at bG;subst bG;have fi:=ae (Below.refl wr.heap.size wr) (.cells #[.int .i64 xp,.bool true,.slice A xl.length c,.int .i64 (xa:Nat)] 120);have BS:=xh (aF.new wr 120 #[.int .i64 xp,.bool true,.slice A xl.length c,.int .i64 (xa:Nat)]);have y0:=BS.o.ab (i:=0) rfl;have y1:=BS.o.ab (i:=1) rfl;have y2:=BS.o.ab (i:=2) rfl
    have H1:=xh (show TQ _ tb I F qi n Kz/\aS _ 111 3 (.slice A xl.length c) xl.length (aD xl)/\OB b w _ F F from⟨HA.o.2.1.below fi,(HA.o.1.e ⟨⟨xp,true,xl,xa⟩,A,c⟩ (by simp)).1.below fi,HA.o.2.2.1.below fi⟩);clear fi;have K1:=xh (KW.o _ qi Kz H1.o.1 (by omega) xp true A xl.length c xl H1.o.2.1 HXL.o);go_wp2_with fail;refine K1.o.mono ?_;rintro e w6 ⟨rfl,P6,o6⟩;have P6:=xh P6;have o6:=xh o6;clear y0 y1 y2;go_wp2_with fail;go_ret
    exact aP (((H1.o.2.2.step hb o6.o (λ_ hg=> .inl hg)).pb P6.o).le (by omega))
  .obtain rfl:pre=eB++[y]:=by simpa using hpe
   clear hpe;have uR:(eB++[y]).length=eB.length+1:=by simp
   generalize (eB++[y]).length=k at *;have s1:IntKind.i64.wrap (((k+1:Nat):Int)-1)=(k:Int):=by rw[show((k+1:Nat):Int)-1=(k:Int) by omega];exact IntWalk.i64_in _ (by omega)
   have s2:(k:Int)<((k+1:Nat):Int):=by omega
   have s3:(1:Int)<((k+1:Nat):Int):=by omega
   have s4:IntKind.i64.wrap (k:Int)=(k:Int):=IntWalk.i64_in _ (by omega);have s5:(k:Int)<(k:Int)+1/\0<=(k:Int):=by omega
   have s6:IntKind.i64.wrap ((k:Int)-1)=(eB.length:Int):=by rw[show(k:Int)-1=(eB.length:Int) by omega];exact IntWalk.i64_in _ (by omega)
   have s7:(eB.length:Int)<(k:Int):=by omega
   have HK2:=xh uR;clear uR;have bG:=HR.o;rw[List.reverse_append,List.reverse_singleton,tL,xS]at bG;dsimp only at bG
   by_cases Fh:xl.length=0
   .have hxn:xl=[]:=Ek.1 Fh;subst hxn;rw[if_pos rfl]at bG;have KD2:=xh (KD.o _ qi HA.o.2.1.drew xp);have HS1:=xh (show(λW=>W.cell? ⟨tb,0,none⟩=some (.pointer (some ⟨I.pb,0,none⟩))/\W.cell? ⟨g,k*4,none⟩=some (.int .i64 xp)) wr.drew from⟨HA.o.2.1.drew.1.ab (i:=0) rfl,(HA.o.1.below (Below.refl _ _).drew).uC uU.o 0 (by omega)⟩);generalize qi.aR xp=R2 at *;obtain⟨qd,ed⟩:=R2;dsimp only at *;have fj:=xh bG
    obtain⟨uV,AY,cY,rfl,My⟩:∃uV AY cY,Lp=uV++[(⟨y,AY,cY⟩:SM)]/\uV.map SM.s=eB:=by
     have:=HM.o
     rcases ss Lp with h0|⟨uV,Y,h0⟩
     .rw[h0]at this;simp at this
     .have h0:Lp=uV++[Y]:=by simpa using h0
      rw[h0,ez]at this;obtain⟨a1,a2⟩:=JL this rfl;obtain⟨ys,AY,cY⟩:=Y;simp at a2;subst a2;exact⟨uV,AY,cY,h0,a1⟩
    have HPL':=xh (show uV.length=eB.length from by rw[<-My,eM]);have HMP:=xh My;have hfy:=sW.o y (by simp);have hya:=hfy.1;have hyn:=hfy.2;have BH:(0:Int)<=(k:Int)/\(k:Int)<=(cc:Int):=by omega
    clear bG hfy My Fh;unfold pp at *;go_wp2_with fail;refine wp_region_held_drew (S:=λW=>W.cell? ⟨tb,0,none⟩=some (.pointer (some ⟨I.pb,0,none⟩))/\W.cell? ⟨g,k*4,none⟩=some (.int .i64 xp)) (by kernel_rfl) (HS1.o) (λau=>?_);refine cP [(0,23),(1,24),(2,25),(3,26),(4,27),(5,28),(6,29),(7,30),(8,31),(9,32),(10,33)] ?_
    iterate 11 refine bj ?_
    refine cQ 11 34 λK hK=>?_;go_simp
    go_at_call 132
    refine KD2.o.mono ?_;rintro e w2 ⟨rfl,P2,o2⟩;have o2:=xh o2;have P2:=xh P2;have Kx:=xh (show(λW=>W.cell? ⟨tb,0,none⟩=some (.pointer (some ⟨I.pb,0,none⟩))/\W.cell? ⟨g,k*4,none⟩=some (.int .i64 xp)) w2 from⟨(HA.o.2.1.drew.next o2.o P2.o).1.ab (i:=0) rfl,((HA.o.1.below (Below.refl _ _).drew).xN HA.o.2.1.drew.2 o2.o).uC uU.o 0 (by omega)⟩);go_simp;refine bz hK (Kx.o) (λau=>?_);refine cP [(12,5)] ?_
    iterate 1 refine bj ?_
    refine wpAnyH_done (by kernel_rfl) ?_ _;have SA2:=(HA.o.1.below (Below.refl _ _).drew).xN HA.o.2.1.drew.2 o2.o;have hpop:=SA2.pop;rw[uU.o]at hpop;have H2:=xh (show TQ w2 tb I F qd n Kz/\aV w2 b (.slice (some ⟨g,0,none⟩) k cc) (uV++⟨y,AY,cY⟩::[])/\OB b w w2 F F/\b<=w2.heap.size from
     ⟨HA.o.2.1.drew.next o2.o P2.o,hpop,(HA.o.2.2.1.below (Below.refl _ _).drew).step hb o2.o (λ_ hg=> .inl hg),aq HA.o.2.2.2 o2.o.size⟩)
    clear SA2 hpop P2 o2 Kx c0 c1 c2 c3
    by_cases he:ed=0
    .subst he;have bG:=fj.o;rw[if_neg (show ¬((0:Int)≠0) by simp)]at bG;have fj:=xh bG;obtain⟨w8,Mz⟩:∃w8,w2.drew=w8:=⟨_,rfl⟩;have yd:Below w2.heap.size w2 w8:=by rw[<-Mz];exact(Below.refl _ _).drew
     have H8:=xh (show TQ w8 tb I F qd n Kz/\aV w8 b (.slice (some ⟨g,0,none⟩) k cc) (uV++⟨y,AY,cY⟩::[])/\OB b w w8 F F/\b<=w8.heap.size from
      ⟨H2.o.1.below yd,H2.o.2.1.below yd,H2.o.2.2.1.below yd,aq H2.o.2.2.2 yd.size⟩)
     have KS8:=xh (show(λW=>W.cell? ⟨g,eB.length*4+3,none⟩=some (.int .i64 (y.at_:Nat))) w8 from H8.o.2.1.uC HPL'.o 3 (by omega));have x8:w8.cell? ⟨g,eB.length*4+2,none⟩=some (.slice AY y.l.length cY):=H8.o.2.1.uC HPL'.o 2 (by omega);have SY:=H8.o.2.1.e ⟨y,AY,cY⟩ (by simp);have KDE:=xh (Nd.qp SY.1 y.at_ hya (show y.l.length<=100000 by omega));have BL:=xh (show(y.l.eraseIdx y.at_).length=y.l.length-1 from by rw[JX hya])
     have s8:IntKind.i64.wrap ((y.at_:Int)+1)=(y.at_:Int)+1:=IntWalk.i64_in _ (by omega);have HS9:=xh (show ∀W,ag (ah (.slice AY y.l.length cY)) w8 W->(λW=>W.cell? ⟨g,eB.length*4+3,none⟩=some (.int .i64 (y.at_:Nat))) W from λW o=>by
      have hgY:g∉ah (.slice AY y.l.length cY):=λhm=>mc SY.1 H8.o.2.1.s (by decide) g hm (by simp[ah]);exact(o.cell (p:=⟨g,eB.length*4+3,none⟩) (eg KS8.o) hgY).trans KS8.o)
     clear SY yd bG;go_wp2_with fail;refine wp_region_held_drew (S:=λW=>W.cell? ⟨g,eB.length*4+3,none⟩=some (.int .i64 (y.at_:Nat))) (by kernel_rfl) (by rw[Mz];exact KS8.o) (λau=>?_);rw[Mz];clear Mz;refine cP [(0,48),(1,49),(2,50),(3,51),(4,52),(6,54),(7,55),(8,56),(9,57),(10,58),(11,59),(12,60),(13,61),(14,62)] ?_
     iterate 14 refine bj ?_
     refine cQ 5 53 λK hK=>?_;go_simp;refine bz hK (KS8.o) (λau=>?_);refine cQ 15 63 λK hK=>?_;go_simp
     go_at_call 72
     refine KDE.o.mono ?_;rintro e w9 ⟨rfl,S9,o9⟩;have S9:=xh S9;have o9:=xh o9;have KS9:=xh (HS9.o w9 o9.o);go_simp;refine bz hK (KS9.o) (λau=>?_);refine cP [(16,64),(17,65),(18,66)] ?_
     iterate 3 refine bj ?_
     refine nB 19 λK hK=>?_;go_simp;obtain⟨SP,sx,sz⟩:=H8.o.2.1.put (Lp:=uV) (Ls:=[]) (y.l.eraseIdx y.at_) (A':=AY) (c':=cY) (by rw[BL.o];exact S9.o) o9.o (λz hz=> .inl ((VW AY _ _ _ _)▸hz)) H8.o.2.2.2;rw[HPL'.o]at SP sx sz;rw[BL.o]at SP;have SP:=xh SP
     replace sx:w9.cell? ⟨g,eB.length*4+2,none⟩=some (.slice AY y.l.length cY):=sx
     have FI:=xh (show ag (g::ah (.slice AY y.l.length cY)) w8 (w9.setCell ⟨g,eB.length*4+2,none⟩ (.slice AY (y.l.length-1) cY))from(o9.o.mono (λx hx _=>aw _ hx)).setCell (by simp) _);have FW:=xh (show(λW=>W.cell? ⟨g,eB.length*4+3,none⟩=some (.int .i64 (y.at_:Nat))) (w9.setCell ⟨g,eB.length*4+2,none⟩ (.slice AY (y.l.length-1) cY))from SP.o.uC HPL'.o 3 (by omega));go_simp;refine bz hK (FW.o) (λau=>?_)
     refine wpAnyH_done (by kernel_rfl) ?_ _;have qt:=H8.o.2.1.off H8.o.1.2;have FY:=H8.o.2.1.tree H8.o.1.1
     have HN:=xh (show aV (w9.setCell ⟨g,eB.length*4+2,none⟩ (.slice AY (y.l.length-1) cY)) b (.slice (some ⟨g,0,none⟩) k cc) (uV++[⟨{y with l:=y.l.eraseIdx y.at_},AY,cY⟩])/\TQ (w9.setCell ⟨g,eB.length*4+2,none⟩ (.slice AY (y.l.length-1) cY)) tb I F qd n Kz/\OB b w (w9.setCell ⟨g,eB.length*4+2,none⟩ (.slice AY (y.l.length-1) cY)) F F/\b<=(w9.setCell ⟨g,eB.length*4+2,none⟩ (.slice AY (y.l.length-1) cY)).heap.size from
      ⟨SP.o,H8.o.1.only FI.o (λz hz hm=>by
       rcases aj.1 hz with h1|h1<;>rcases aj.1 hm with h2|h2
       .exact FY.1 (by rw[<-h1,h2];simp[ah])
       .exact FY.2 ⟨y,AY,cY⟩ (by simp) (by rw[<-h1];exact h2)
       .exact qt.1 z (by rw[h2];simp[ah]) h1
       .exact qt.2 ⟨y,AY,cY⟩ (by simp) z h2 h1),H8.o.2.2.1.own FI.o (λz hz=>by
       rcases aj.1 hz with h2|h2
       .rw[h2];exact H8.o.2.1.f g (by simp[ah])
       .exact(H8.o.2.1.e ⟨y,AY,cY⟩ (by simp)).2 z h2),aq H8.o.2.2.2 FI.o.size⟩)
     clear qt FY;go_wp2_with fail;go_roundw
     case rel=>exact⟨eB,{y with l:=y.l.eraseIdx y.at_},uV,AY,cY,qd,by have:=HK2.o;omega,by have:=HK2.o;omega,by rw[HK2.o],HMP,fj,xh (λs hs=>sW.o s (by simp[hs])),xh (show(y.l.eraseIdx y.at_).length<=1000 from by rw[BL.o];omega),by rw[<-HK2.o];exact HN⟩
     case measure=>(have:=HK2.o;simp only[On];omega)
    .have bG:=fj.o;rw[if_pos he]at bG;subst bG;have hq:(ed != 0)=true:=by rw[bne_iff_ne];exact he
     have kh:(ed==0)=false:=by rw[beq_eq_false_iff_ne];exact he
     go_wp2_with fail;go_ret;exact aP ((H2.o.2.2.1.pb H2.o.1.2).le (by omega))
   .rw[if_neg (λe=>Fh (by rw[e];rfl))]at bG;subst bG;have hx1:((xl.length:Nat):Int)≠0:=by omega
    have hx2:(((xl.length:Nat):Int)==0)=false:=by rw[beq_eq_false_iff_ne];exact hx1
    have fi:=ae (Below.refl wr.heap.size wr) (.cells #[.int .i64 xp,.bool xf,.slice A xl.length c,.int .i64 (xa:Nat)] 120);have BS:=xh (aF.new wr 120 #[.int .i64 xp,.bool xf,.slice A xl.length c,.int .i64 (xa:Nat)]);have y0:=BS.o.ab (i:=0) rfl;have y1:=BS.o.ab (i:=1) rfl;have y2:=BS.o.ab (i:=2) rfl
    have H1:=xh (show TQ _ tb I F qi n Kz/\aS _ 111 3 (.slice A xl.length c) xl.length (aD xl)/\OB b w _ F F from⟨HA.o.2.1.below fi,(HA.o.1.e ⟨⟨xp,xf,xl,xa⟩,A,c⟩ (by simp)).1.below fi,HA.o.2.2.1.below fi⟩);clear fi;have K1:=xh (KW.o _ qi Kz H1.o.1 (by omega) xp xf A xl.length c xl H1.o.2.1 HXL.o);go_wp2_with fail;refine K1.o.mono ?_;rintro e w6 ⟨rfl,P6,o6⟩;have P6:=xh P6;have o6:=xh o6;clear y0 y1 y2;go_wp2_with fail;go_ret
    exact aP (((H1.o.2.2.step hb o6.o (λ_ hg=> .inl hg)).pb P6.o).le (by omega))
def QS.iT(q:QS)(key:ByteArray):QS×Int:=
 if(q.eJ key).2.2≠0 then((q.eJ key).1,(q.eJ key).2.2)
 else if cq (iJ (q.eJ key).2.1).l key=false then((q.eJ key).1,9)
 else if((q.eJ key).1.lG (iJ (q.eJ key).2.1).l key).2≠0 then(q.eJ key).1.lG (iJ (q.eJ key).2.1).l key
 else gC ({iJ (q.eJ key).2.1 with l:=qu (iJ (q.eJ key).2.1).l key}::(q.eJ key).2.1.dropLast.reverse) ((q.eJ key).1.lG (iJ (q.eJ key).2.1).l key).1
theorem AS{q:QS}(h:TQ w tb I F q n Kz)(VK:Kz<=999999970000)(key:ByteArray):
  Calls prog 26 #[tp tb,.string key] w λe w'=>e=.returned (.int .i64 (q.iT key).2)/\PT w w' I F (q.iT key).1 n (Kz+700):=by
 have KW:=xh (AN h (by omega) key);have HT:=xh h;have fT:=Mx (q:=q) (key:=key);unfold QS.iT;generalize q.eJ key=R at *;obtain⟨q1,steps,er⟩:=R;dsimp only at *;unfold tp at *
 by_cases he:er=0
 .subst he;obtain⟨pre,x,rfl,sN,hnl,nm,hlen⟩:=fT rfl;rw[if_neg (by simp),show iJ (pre++[x])=x from by unfold iJ;simp,show(pre++[x]).dropLast=pre from by simp];have hxo:=nm x (by simp);obtain⟨hm,VH,_⟩:=hxo;have hm:=xh hm;have sW:=xh (show ∀s∈pre,Fit s from λs hs=>(nm s (by simp[hs])).fit (hnl s hs));clear fT hnl nm sN h
  obtain⟨RR,bG⟩:∃RR,(if cq x.l key=false then(q1,9)else if(q1.lG x.l key).2≠0 then q1.lG x.l key else gC ({x with l:=qu x.l key}::pre.reverse) (q1.lG x.l key).1)=RR:=⟨_,rfl⟩;rw[bG];have fj:=xh bG;clear bG;go_enter func26,ntmps26;go_wp2_with fail;refine KW.o.mono ?_;rintro e w1 ⟨v,L,rfl,SA,nP,P1,o1⟩;have VN:=SA.last nP;obtain⟨Lp,A,c,g,cc,rfl,lS,rfl,hbg,Fl,uQ,gZ,Su,S1,f1⟩:=VN
  have H1:=xh (show TQ w1 tb I F q1 n (Kz+16)/\aV w1 w.heap.size (.slice (some ⟨g,0,none⟩) (pre.length+1) cc) (Lp++[⟨x,A,c⟩])/\OB w.heap.size w w1 F F/\w.heap.size<=w1.heap.size from⟨HT.o.next o1 P1,SA,(OB.refl w.heap.size w F).step (Nat.le_refl _) o1 (λ_ hg=> .inl hg),o1.size⟩);have uU:=xh (show Lp.length=pre.length from by rw[<-lS,eM]);have HMP:=xh lS;have S1:=xh S1;have x1:w1.cell? ⟨g,pre.length*4+1,none⟩=some (.bool x.leaf):=gZ 1 (by omega)
  have x2:w1.cell? ⟨g,pre.length*4+1+1,none⟩=some (.slice A x.l.length c):=gZ 2 (by omega);have s1:IntKind.i64.wrap (((pre.length+1:Nat):Int)-1)=(pre.length:Int):=by rw[show((pre.length+1:Nat):Int)-1=(pre.length:Int) by omega];exact IntWalk.i64_in _ (by omega)
  have s2:(pre.length:Int)<((pre.length+1:Nat):Int):=by omega
  have KF:=xh (Nd.wu x.leaf A x.l.length c x.l key (Nd.aS.aD S1.o).2 (by omega) hm.o);unfold bu at KF;clear SA nP P1 o1 lS gZ Su f1;go_wp2_with fail;refine KF.o.mono ?_;rintro e w3 ⟨rfl,gr⟩;have O3:=xh gr
  have H3:=xh (show TQ w3 tb I F q1 n (Kz+16)/\aV w3 w.heap.size (.slice (some ⟨g,0,none⟩) (pre.length+1) cc) (Lp++[⟨x,A,c⟩])/\OB w.heap.size w w3 F F/\w.heap.size<=w3.heap.size from⟨H1.o.1.below O3.o,H1.o.2.1.below O3.o,H1.o.2.2.1.below O3.o,aq H1.o.2.2.2 O3.o.size⟩);have S3:=xh (S1.o.below gr);have u2:w3.cell? ⟨g,pre.length*4+1+1,none⟩=some (.slice A x.l.length c):=(O3.o.cell (p:=⟨g,pre.length*4+1+1,none⟩) (eg x2)).trans x2
  clear x1 x2 gr H1 S1 O3
  by_cases hh:cq x.l key=true
  .have bG:=fj.o;rw[if_neg (by rw[hh];simp)]at bG;have fj:=xh bG;clear bG;obtain⟨ex,hex⟩:=AO hh;have hfx:x.l.getD (aY x.l key) Nd.E.zero=ex:=by rw[ib,hex];rfl
   have bG:=fj.o;unfold QS.lG qu at bG;rw[if_pos hh,if_pos hh,hfx]at bG;generalize cq x.l key=hb at *;subst hh;have pZ:aY x.l key<x.l.length:=(aM.1 hex).1;generalize aY x.l key=at_ at *;obtain⟨ad,oZ,eP⟩:=(Nd.aS.aD S3.o).2.2 at_ ex hex;obtain⟨ga,ca,r7,xu,_⟩:=S3.o.form (by omega) (by omega);injection xu with e1 Q6 e3
   clear Q6;subst e1 e3;injection oZ with oZ
   subst oZ;rw[Nd.fZ,bl]at eP;have u3:=eP.c0;have u4:=eP.c1;have u5:=eP.c2;dsimp only at u4 u5;have KA:=xh (Dy H3.o.1 (by omega) ex);unfold E.agg tp at KA;have hflI:(at_:Int)<(x.l.length:Int):=by omega
   generalize q1.qs ex=R2 at *;obtain⟨q2,e2⟩:=R2;dsimp only at *;have fj:=xh bG;clear eP hex hfx bG;go_wp2_with fail;refine KA.o.mono ?_;rintro e w4 ⟨rfl,P4,o4⟩
   have H4:=xh (show TQ w4 tb I F q2 n (Kz+21)/\aV w4 w.heap.size (.slice (some ⟨g,0,none⟩) (pre.length+1) cc) (Lp++[⟨x,some ⟨ga,0,none⟩,c⟩])/\OB w.heap.size w w4 F F/\w.heap.size<=w4.heap.size from⟨H3.o.1.next o4 P4,H3.o.2.1.xN H3.o.1.2 o4,H3.o.2.2.1.step (Nat.le_refl _) o4 (λ_ hg=> .inl hg),aq H3.o.2.2.2 o4.size⟩);clear P4 o4 u2 u3 u4 u5 S3
   by_cases r8:e2=0
   .subst r8;have bG:=fj.o;rw[if_neg (show ¬((0:Int)≠0) by simp)]at bG;have fj:=xh bG;have SX:=H4.o.2.1.e ⟨x,some ⟨ga,0,none⟩,c⟩ (by simp);have KD:=xh (Nd.qp SX.1 at_ pZ (show x.l.length<=100000 by omega));have u2:=H4.o.2.1.cell (k:=Lp.length) (Z:=⟨x,some ⟨ga,0,none⟩,c⟩) (by rw[dR (Nat.le_refl _),fM];rfl) 2 (by omega);rw[uU.o]at u2
    replace u2:w4.cell? ⟨g,pre.length*4+1+1,none⟩=some (.slice (some ⟨ga,0,none⟩) x.l.length c):=u2
    have BL:=xh (show(x.l.eraseIdx at_).length=x.l.length-1 from by rw[JX pZ]);have s7:IntKind.i64.wrap ((at_:Int)+1)=(at_:Int)+1:=IntWalk.i64_in _ (by omega);clear SX bG;go_wp2_with fail;refine KD.o.mono ?_;rintro e w5 ⟨rfl,S5,o5⟩;obtain⟨SP,sx,sz⟩:=H4.o.2.1.put (Lp:=Lp) (Ls:=[]) (x.l.eraseIdx at_) (A':=some ⟨ga,0,none⟩) (c':=c) (by rw[BL.o];exact S5) o5 (λz hz=> .inl hz) H4.o.2.2.2;rw[uU.o]at SP sx sz;rw[BL.o]at SP
    replace sx:w5.cell? ⟨g,pre.length*4+1+1,none⟩=some (.slice (some ⟨ga,0,none⟩) x.l.length c):=sx
    replace sz:w5.frozen? ⟨g,pre.length*4+1+1,none⟩=false:=sz
    have O5:ag (g::ah (.slice (some ⟨ga,0,none⟩) x.l.length c)) w4 (w5.setCell ⟨g,pre.length*4+1+1,none⟩ (.slice (some ⟨ga,0,none⟩) (x.l.length-1) c)):=(o5.mono (λx hx _=>aw _ hx)).setCell (by simp) _;have qt:=H4.o.2.1.off H4.o.1.2;have FY:=H4.o.2.1.tree H4.o.1.1
    have H5:=xh (show TQ (w5.setCell ⟨g,pre.length*4+1+1,none⟩ (.slice (some ⟨ga,0,none⟩) (x.l.length-1) c)) tb I F q2 n (Kz+21)/\aV (w5.setCell ⟨g,pre.length*4+1+1,none⟩ (.slice (some ⟨ga,0,none⟩) (x.l.length-1) c)) w.heap.size (.slice (some ⟨g,0,none⟩) (pre.length+1) cc) (Lp++[⟨{x with l:=x.l.eraseIdx at_},some ⟨ga,0,none⟩,c⟩])/\OB w.heap.size w (w5.setCell ⟨g,pre.length*4+1+1,none⟩ (.slice (some ⟨ga,0,none⟩) (x.l.length-1) c)) F F/\w.heap.size<=(w5.setCell ⟨g,pre.length*4+1+1,none⟩ (.slice (some ⟨ga,0,none⟩) (x.l.length-1) c)).heap.size from
     ⟨H4.o.1.only O5 (λz hz hm=>by
      rcases aj.1 hz with h1|h1<;>rcases aj.1 hm with h2|h2
      .exact FY.1 (by rw[<-h1,h2];simp[ah])
      .exact FY.2 ⟨x,some ⟨ga,0,none⟩,c⟩ (by simp) (by rw[<-h1];exact h2)
      .exact qt.1 z (by rw[h2];simp[ah]) h1
      .exact qt.2 ⟨x,some ⟨ga,0,none⟩,c⟩ (by simp) z h2 h1),SP,H4.o.2.2.1.own O5 (λz hz=>by
      rcases aj.1 hz with h2|h2
      .rw[h2];exact H4.o.2.1.f g (by simp[ah])
      .exact(H4.o.2.1.e ⟨x,some ⟨ga,0,none⟩,c⟩ (by simp)).2 z h2),aq H4.o.2.2.2 O5.size⟩)
    clear SP S5 o5 O5 qt FY;obtain⟨w6,Gu⟩:∃w6,(w5.setCell ⟨g,pre.length*4+1+1,none⟩ (.slice (some ⟨ga,0,none⟩) (x.l.length-1) c))=w6:=⟨_,rfl⟩;rw[Gu]at H5;have Q5:=fj.o;have KSH:=xh (IW (b:=w.heap.size) pre {x with l:=x.l.eraseIdx at_} H5.o.1 (by omega) H5.o.2.1 H5.o.2.2.2 (by rw[ez,HMP.o];rfl) (λs hs=>⟨(sW.o s hs).a,by have:=(sW.o s hs).n;omega⟩) (by show(x.l.eraseIdx at_).length<=1000;rw[BL.o];omega) (by omega))
    rw[Q5]at KSH;unfold tp at KSH;clear Q5;go_wp2_with fail;refine KSH.o.mono ?_;rintro e w7 ⟨rfl,P7⟩;have P7:=xh P7;clear Gu sx sz u2;go_wp2_with fail;go_ret;exact aP (((H5.o.2.2.1.trans P7.o).pt (Nat.le_refl _)).le (by omega))
   .have bG:=fj.o;rw[if_pos r8]at bG;subst bG;have hq:(e2 != 0)=true:=by rw[bne_iff_ne];exact r8
    have kh:(e2==0)=false:=by rw[beq_eq_false_iff_ne];exact r8
    go_wp2_with fail;go_ret;exact aP (((H4.o.2.2.1.pb H4.o.1.2).pt (Nat.le_refl _)).le (by omega))
  .have hh2:cq x.l key=false:=by simpa using hh
   have bG:=fj.o;rw[if_pos hh2]at bG;subst bG;generalize cq x.l key=hb at *;subst hh2;clear hh;go_wp2_with fail;go_ret;exact aP (((H3.o.2.2.1.pb H3.o.1.2).pt (Nat.le_refl _)).le (by omega))
 .rw[if_pos he];have hq:(er != 0)=true:=by rw[bne_iff_ne];exact he
  have kh:(er==0)=false:=by rw[beq_eq_false_iff_ne];exact he
  clear fT;go_enter func26,ntmps26;go_wp2_with fail;refine KW.o.mono ?_;rintro e w1 ⟨v,L,rfl,SA,nP,P1,o1⟩;have P1:=xh P1;have o1:=xh o1;clear SA nP;go_wp2_with fail;go_ret;exact aP ((PT.self P1.o o1.o).le (by omega))
def jO:List UInt8:=(aW true []).1
def QS.xT(q:QS):QS×Int:=if q.a.jK.length=0 then((q.bJ jO).1,(q.bJ jO).2.2)else(q,0)
def QS.kq(q:QS):QS×Int:=if q.xT.2≠0 then q.xT else((q.xT.1.bh 0).1,(q.xT.1.bh 0).2.2.2)
def Opened(w w':World)(I:Ix)(F:List Nat)(q:QS)(e:Int)(n K:Nat)(v:Value):Prop:=
 ∃F',ag F w w'/\(∀g∈F',g∈F\/w.heap.size<=g)/\PQ w' I F' q n K/\(e≠0->v=.pointer none)/\(e=0->∃tb,v=tp tb/\w.heap.size<=tb/\TQ w' tb I F' q n K)
theorem DE{w:World}{I:Ix}{F:List Nat}{q:QS}{n K:Nat}(h:PQ w I F q n K)(hK:K<=999999999000):
  Calls prog 24 #[pp I.pb] w λe w'=> ∃v,e=.returned (.tuple #[v,.int .i64 q.kq.2])/\Opened w w' I F q.kq.1 q.kq.2 n (K+2) v:=by
 have fi:=ae (Below.refl w.heap.size w) (.cells #[pp I.pb] 130);obtain⟨wT,hwT⟩:∃wT,w.heap.size=wT:=⟨_,rfl⟩;have HWT:=xh hwT;have BT:=aF.new w 130 #[pp I.pb];rw[hwT]at BT;have H1:=xh (show TQ _ wT I F q n K/\ag F w _ from⟨⟨BT,h.below fi⟩,.ai fi⟩);have K1:=xh (Ab H1.o.1.2);have K2:=xh (Ad H1.o.1.2);unfold QS.kq QS.xT;unfold pp sp at *
 by_cases h0:q.a.jK.length=0
 .rw[if_pos h0];rw[h0]at K2;have K3:=xh (λ(W:World)=>Nd.AJ (w:=W) true none 0 0 [] ⟨rfl,λk e he=>by simp at he⟩ (by omega));have hl:=Nd.xK true [];have hleaf:aW true []=(jO,0):=by unfold jO;decide
  rw[hleaf]at K3 hl;dsimp only at K3 hl;have KN:=xh (λ(W:World) (hW:PQ W I F q n K)=>zZ hW (by omega) ⟨jO.toArray⟩ (by show jO.toArray.size<=232;simp;exact hl));have HLB:=xh (show(⟨jO.toArray⟩:ByteArray).data.toList=jO from by simp);rw[HLB.o]at KN;generalize q.bJ jO=R at *;obtain⟨q1,p1,e1⟩:=R;dsimp only at *;unfold bu at K3;unfold pp at KN;obtain⟨RR,bG⟩:∃RR,(if e1≠0 then(q1,e1)else((q1.bh 0).1,(q1.bh 0).2.2.2))=RR:=⟨_,rfl⟩;rw[bG]
  have fj:=xh bG;clear bG;go_enter func24,ntmps24;go_wp2_with fail;refine K1.o.mono ?_;rintro e w2 ⟨rfl,rfl⟩;go_wp2_with fail;refine K2.o.mono ?_;rintro e w3 ⟨A3,c3,rfl,S3,gr⟩;have H3:=xh (show TQ w3 wT I F q n K/\ag F w w3 from⟨H1.o.1.below gr,H1.o.2.trans (.ai gr)⟩);clear S3 gr;go_wp2_with fail;refine(K3.o w3).mono ?_;rintro e w4 ⟨rfl,jk⟩
  have H4:=xh (show TQ w4 wT I F q n K/\ag F w w4 from⟨H3.o.1.below jk,H3.o.2.trans (.ai jk)⟩);clear jk;go_wp2_with fail;refine(KN.o w4 H4.o.1.2).mono ?_;rintro e w5 ⟨rfl,P5⟩;obtain⟨F1,T5,o5,f5⟩:=P5.tq H4.o.1;have HT:=xh (show TQ w5 wT I F1 q1 n (K+1)/\ag F w w5/\(∀g∈F1,g∈F\/w.heap.size<=g)from⟨T5,H4.o.2.trans o5,λg hg=>(f5 g hg).imp id (λh=>aq H4.o.2.size h)⟩);clear P5 T5 o5 f5
  by_cases FV:e1=0
  .subst FV;have bG:=fj.o;rw[if_neg (show ¬((0:Int)≠0) by simp)]at bG;have K9:=xh (mf HT.o.1 (by omega) 0);have hlen:=kK q1 0;generalize q1.bh 0=r at *;obtain⟨q2,lf,l,er⟩:=r;dsimp only at *;subst bG;unfold tp bu at K9;go_wp2_with fail;refine K9.o.mono ?_;rintro e w9 ⟨A9,c9,rfl,S9,f9,P9,o9⟩;have lT:=ae (Below.refl w9.heap.size w9) (.cells #[.bool lf,.slice A9 l.length c9] 118)
   have H9:=xh (show TQ _ wT I F1 q2 n (K+2)/\ag F w _/\(∀g∈F1,g∈F\/w.heap.size<=g)from⟨(HT.o.1.next o9 P9).below lT,(HT.o.2.1.aL o9 (λg hg dP=>(HT.o.2.2 g hg).elim id (λh=>by omega))).trans (.ai lT),HT.o.2.2⟩);clear S9 f9 P9 o9 lT
   by_cases he:er=0
   .subst he;go_wp2_with fail;go_ret2;exact⟨_,by first|rfl|simp,F1,H9.o.2.1,H9.o.2.2,H9.o.1.2,λh=>absurd rfl h,λ_=>⟨wT,by unfold tp;first|rfl|simp[HWT.o],by rw[<-HWT.o];exact Nat.le_refl _,H9.o.1⟩⟩
   .have hq:(er != 0)=true:=by rw[bne_iff_ne];exact he
    have kh:(er==0)=false:=by rw[beq_eq_false_iff_ne];exact he
    go_wp2_with fail;go_ret2;exact⟨_,by first|rfl|simp,F1,H9.o.2.1,H9.o.2.2,H9.o.1.2,λ_=>rfl,λh=>absurd h he⟩
  .have bG:=fj.o;rw[if_pos FV]at bG;subst bG;have hq:(e1 != 0)=true:=by rw[bne_iff_ne];exact FV
   have kh:(e1==0)=false:=by rw[beq_eq_false_iff_ne];exact FV
   go_wp2_with fail;go_ret2;exact⟨_,by first|rfl|simp,F1,HT.o.2.1,HT.o.2.2,HT.o.1.2.le (by omega),λ_=>rfl,λh=>absurd h FV⟩
 .rw[if_neg h0,if_neg (show ¬((0:Int)≠0) by simp)];dsimp only;have h0I:((q.a.jK.length:Nat):Int)≠0:=by omega
  generalize q.a.jK.length=np at *;obtain⟨RR,bG⟩:∃RR,((q.bh 0).1,(q.bh 0).2.2.2)=RR:=⟨_,rfl⟩;rw[show(q.bh 0).1=RR.1 from by rw[<-bG],show(q.bh 0).2.2.2=RR.2 from by rw[<-bG]];have fj:=xh bG;clear bG;go_enter func24,ntmps24;go_wp2_with fail;refine K1.o.mono ?_;rintro e w2 ⟨rfl,rfl⟩;go_wp2_with fail;refine K2.o.mono ?_;rintro e w3 ⟨A3,c3,rfl,S3,gr⟩
  have HT:=xh (show TQ w3 wT I F q n (K+1)/\ag F w w3/\(∀g∈F,g∈F\/w.heap.size<=g)from⟨(H1.o.1.below gr).le (by omega),H1.o.2.trans (.ai gr),λg hg=> .inl hg⟩);clear S3 gr;have bG:=fj.o;have K9:=xh (mf HT.o.1 (by omega) 0);have hlen:=kK q 0;generalize q.bh 0=r at *;obtain⟨q2,lf,l,er⟩:=r;dsimp only at *;subst bG;unfold tp bu at K9;go_wp2_with fail;refine K9.o.mono ?_;rintro e w9 ⟨A9,c9,rfl,S9,f9,P9,o9⟩
  have lT:=ae (Below.refl w9.heap.size w9) (.cells #[.bool lf,.slice A9 l.length c9] 118);have H9:=xh (show TQ _ wT I F q2 n (K+2)/\ag F w _/\(∀g∈F,g∈F\/w.heap.size<=g)from⟨(HT.o.1.next o9 P9).below lT,(HT.o.2.1.aL o9 (λg hg dP=>(HT.o.2.2 g hg).elim id (λh=>by omega))).trans (.ai lT),HT.o.2.2⟩);clear S9 f9 P9 o9 lT
  by_cases he:er=0
  .subst he;go_wp2_with fail;go_ret2;exact⟨_,by first|rfl|simp,F,H9.o.2.1,H9.o.2.2,H9.o.1.2,λh=>absurd rfl h,λ_=>⟨wT,by unfold tp;first|rfl|simp[HWT.o],by rw[<-HWT.o];exact Nat.le_refl _,H9.o.1⟩⟩
  .have hq:(er != 0)=true:=by rw[bne_iff_ne];exact he
   have kh:(er==0)=false:=by rw[beq_eq_false_iff_ne];exact he
   go_wp2_with fail;go_ret2;exact⟨_,by first|rfl|simp,F,H9.o.2.1,H9.o.2.2,H9.o.1.2,λ_=>rfl,λh=>absurd h he⟩
structure Wk(σ:Type) where
 q:QS
 seen:Nat
 s:σ
 more:Bool
 e:Int
section
variable{σ:Type}
def mG(fr:ByteArray)(leaf:Bool)(first i:Nat)(x:E):Bool:=decide (i<first) || (leaf && Op.bytesLess x.key.toList fr.toList)
def lI(az:ByteArray)(leaf:Bool)(i:Nat)(x:E):Bool:= !(az.toList==[]) && !Op.bytesLess x.key.toList az.toList && (leaf || decide (0<i))
def iu(rec:QS->Nat->σ->Int->Wk σ)(step:E->σ->σ×Bool)(fr az:ByteArray)(leaf:Bool)(first:Nat):Nat->List E->QS->Nat->σ->Wk σ
 |_,[],q,seen,s=>⟨q,seen,s,true,0⟩
 |i,x::l,q,seen,s=>
  if mG fr leaf first i x=true then iu rec step fr az leaf first (i+1) l q seen s
  else if lI az leaf i x=true then⟨q,seen,s,false,0⟩
  else if leaf=true then
   if(step x s).2=true then iu rec step fr az leaf first (i+1) l q seen (step x s).1
   else⟨q,seen,(step x s).1,false,0⟩
  else
   if(rec q seen s x.aQ).more=true/\(rec q seen s x.aQ).e=0 then iu rec step fr az leaf first (i+1) l (rec q seen s x.aQ).q (rec q seen s x.aQ).seen (rec q seen s x.aQ).s
   else rec q seen s x.aQ
def gv(step:E->σ->σ×Bool)(fr az:ByteArray):Nat->QS->Nat->σ->Int->Wk σ
 |0,q,seen,s,_=>⟨q,seen+1,s,false,14⟩
 |d+1,q,seen,s,p=>
  if 512<seen+1 then⟨q,seen+1,s,false,14⟩
  else if(q.bh p).2.2.2≠0 then⟨(q.bh p).1,seen+1,s,false,(q.bh p).2.2.2⟩
  else iu (gv step fr az d) step fr az (q.bh p).2.1 (if(q.bh p).2.1=true then 0 else bA (q.bh p).2.2.1 fr) 0 (q.bh p).2.2.1 (q.bh p).1 (seen+1) s
def QS.et(q:QS)(step:E->σ->σ×Bool)(fr az:ByteArray)(s:σ):Wk σ:=gv step fr az 16 q 0 s 0
structure Vis(fn:Nat)(eQ:Array Value)(step:E->σ->σ×Bool)(iK:σ->Nat)(Inv:World->σ->List Nat->Prop):Prop where
 call:∀(W:World) (s:σ) (G:List Nat) (x:E),Inv W s G->iK s<=100000->x.key.size<=32->Calls prog fn (#[x.agg]++eQ) W λe w'=>e=.returned (.bool (step x s).2)/\∃G',Inv w' (step x s).1 G'/\ag G W w'/\∀g∈G',g∈G\/W.heap.size<=g
 pw:∀(W w':World) (s:σ) (G S:List Nat),Inv W s G->ag S W w'->(∀g∈G,g∉S)->Inv w' s G
 lt:∀(W:World) (s:σ) (G:List Nat),Inv W s G->∀g∈G,g<W.heap.size
 ent:∀(args:Array Value) (W:World),Sem.run prog (callFunc fn args) W=Result.ok (.enter fn args) W
 one:∀(x:E) (s:σ),iK (step x s).1<=iK s+1
end
structure Ev where
 sB:Nat
 tB:Nat
 fB:Nat
 oB:Nat
 dB:Nat
 kB:Nat
def Ev.l(v:Ev):List Nat:=[v.sB,v.tB,v.fB,v.oB,v.dB,v.kB]
def Ev.eQ(v:Ev):Array Value:= #[.pointer (some ⟨v.sB,0,none⟩),.pointer (some ⟨v.tB,0,none⟩),.pointer (some ⟨v.fB,0,none⟩),.pointer (some ⟨v.oB,0,none⟩),.pointer (some ⟨v.dB,0,none⟩),.pointer (some ⟨v.kB,0,none⟩)]
structure rR(w:World)(v:Ev)(tb:Nat)(fr az:ByteArray)(fn:Nat)(eQ:Array Value)(seen:Nat):Prop where
 s:aF w v.sB 3 #[.int .i64 (seen:Nat)]
 t:aF w v.tB 35 #[tp tb]
 f:aF w v.fB 9 #[.string fr]
 o:aF w v.oB 9 #[.string az]
 d:aF w v.dB 112 #[.func (.func fn) #[] eQ]
 k:aF w v.kB 191 #[.func (.func 109) #[] v.eQ]
section
variable{w w':World}{v:Ev}{tb:Nat}{fr az:ByteArray}{fn:Nat}{eQ:Array Value}{seen:Nat}{S:List Nat}
theorem rR.only(h:rR w v tb fr az fn eQ seen)(o:ag S w w')(hd:∀g∈v.l,g∉S):rR w' v tb fr az fn eQ seen:=
 ⟨h.s.only o (hd _ (by simp[Ev.l])),h.t.only o (hd _ (by simp[Ev.l])),h.f.only o (hd _ (by simp[Ev.l])),h.o.only o (hd _ (by simp[Ev.l])),h.d.only o (hd _ (by simp[Ev.l])),h.k.only o (hd _ (by simp[Ev.l]))⟩
theorem rR.below(h:rR w v tb fr az fn eQ seen)(hb:Below w.heap.size w w'):rR w' v tb fr az fn eQ seen:=h.only (S:=[]) (.ai hb) (by simp)
theorem rR.lt(h:rR w v tb fr az fn eQ seen):∀g∈v.l,g<w.heap.size:=λg hg=>by
 simp only[Ev.l,aj,gP,or_false]at hg
 rcases hg with rfl|rfl|rfl|rfl|rfl|rfl
 .exact h.s.lt
 .exact h.t.lt
 .exact h.f.lt
 .exact h.o.lt
 .exact h.d.lt
 .exact h.k.lt
theorem rR.up(h:rR w v tb fr az fn eQ seen):rR (w.setCell ⟨v.sB,0,none⟩ (.int .i64 ((seen+1:Nat):Int))) v tb fr az fn eQ (seen+1):=
 ⟨h.s.bU 0 _,h.t.aQ (λe=>h.s.kl h.t (by decide) e.symm) _,h.f.aQ (λe=>h.s.kl h.f (by decide) e.symm) _,h.o.aQ (λe=>h.s.kl h.o (by decide) e.symm) _,h.d.aQ (λe=>h.s.kl h.d (by decide) e.symm) _,h.k.aQ (λe=>h.s.kl h.k (by decide) e.symm) _⟩
end
def WP{σ:Type}(w w':World)(v:Ev)(tb:Nat)(I:Ix)(F G:List Nat)(n K:Nat)(fr az:ByteArray)(fn:Nat)(eQ:Array Value)(iK:σ->Nat)(Inv:World->σ->List Nat->Prop)(R:Wk σ):Prop:=
 ∃G',TQ w' tb I F R.q n (K+R.seen)/\rR w' v tb fr az fn eQ R.seen/\Inv w' R.s G'/\ag (v.sB::(F++G)) w w'/\(∀g∈G',g∈G\/w.heap.size<=g)/\iK R.s<=57*R.seen/\R.seen<=513/\(R.e=0->R.seen<=512)
structure LW{σ:Type}(w wr:World)(v:Ev)(tb:Nat)(I:Ix)(F G:List Nat)(n K:Nat)(fr az:ByteArray)(fn:Nat)(eQ:Array Value)(iK:σ->Nat)(Inv:World->σ->List Nat->Prop)(q:QS)(sn bd:Nat)(s:σ)(Gi:List Nat)(leaf:Bool)(A:Option Addr)(c lH:Nat)(l:List E):Prop where
 t:TQ wr tb I F q n (K+sn)
 e:rR wr v tb fr az fn eQ sn
 i:Inv wr s Gi
 o:ag (v.sB::(F++G)) w wr
 g:∀g∈Gi,g∈G\/w.heap.size<=g
 m:iK s<=bd
 s:aS wr 111 3 (.slice A l.length c) l.length (aD l)
 b:aF wr lH 118 #[.bool leaf,.slice A l.length c]
 d:∀g∈tb::(v.l++(F++lH::ah (.slice A l.length c))),g∉Gi
 x:∀g∈lH::ah (.slice A l.length c),g∉F/\g≠v.sB/\w.heap.size<=g
 y:∀g∈v.l,g∉F/\g≠tb
section
variable{σ:Type}{w wr w':World}{v:Ev}{tb:Nat}{I:Ix}{F G:List Nat}{n K:Nat}{fr az:ByteArray}{fn:Nat}{eQ:Array Value}{iK:σ->Nat}{Inv:World->σ->List Nat->Prop}{q:QS}{sn bd:Nat}{s:σ}{Gi:List Nat}{leaf:Bool}{A:Option Addr}{c lH:Nat}{l:List E}{step:E->σ->σ×Bool}
theorem LW.lt(h:LW w wr v tb I F G n K fr az fn eQ iK Inv q sn bd s Gi leaf A c lH l):∀g∈tb::(v.l++(F++lH::ah (.slice A l.length c))),g<wr.heap.size:=λg hg=>by
 simp only[aj,aB]at hg
 rcases hg with e|hg|hg|e|hg
 .exact h.t.lt g (by simp[e])
 .exact h.e.lt g hg
 .exact h.t.lt g (by simp[hg])
 .rw[e];exact h.b.lt
 .exact h.s.lt g hg
theorem LW.below(V:Vis fn eQ step iK Inv)(h:LW w wr v tb I F G n K fr az fn eQ iK Inv q sn bd s Gi leaf A c lH l)(hb:Below wr.heap.size wr w'):LW w w' v tb I F G n K fr az fn eQ iK Inv q sn bd s Gi leaf A c lH l:=
 ⟨h.t.below hb,h.e.below hb,V.pw _ _ _ _ [] h.i (.ai hb) (by simp),h.o.trans (.ai hb),h.g,h.m,h.s.below hb,h.b.below hb h.b.lt,h.d,h.x,h.y⟩
theorem LW.vis{G':List Nat}{s':σ}{bd':Nat}(h:LW w wr v tb I F G n K fr az fn eQ iK Inv q sn bd s Gi leaf A c lH l)(hI:Inv w' s' G')(o:ag Gi wr w')(f:∀g∈G',g∈Gi\/wr.heap.size<=g)(hm:iK s'<=bd'):LW w w' v tb I F G n K fr az fn eQ iK Inv q sn bd' s' G' leaf A c lH l:=
 ⟨h.t.only o (λg hg=>h.d g (by simp only[aj,aB]at hg ⊢;rcases hg with e|e<;>simp[e])),h.e.only o (λg hg=>h.d g (by simp[hg])),hI,h.o.aL o (λg hg dP=>(h.g g hg).elim (λe=>by simp[e]) (λe=>by omega)),λg hg=>(f g hg).elim (h.g g) (λe=> .inr (by have:=h.o.size;omega)),hm,
  h.s.only o (λg hg=>h.d g (by simp[hg])),h.b.only o (h.d _ (by simp)),λg hg hG=>(f g hG).elim (h.d g hg) (λe=>by have:=h.lt g hg;omega),h.x,h.y⟩
theorem LW.deep{R:Wk σ}(h:LW w wr v tb I F G n K fr az fn eQ iK Inv q sn bd s Gi leaf A c lH l)(hw:WP wr w' v tb I F Gi n K fr az fn eQ iK Inv R):∃G',LW w w' v tb I F G n K fr az fn eQ iK Inv R.q R.seen (57*R.seen) R.s G' leaf A c lH l/\R.seen<=513/\(R.e=0->R.seen<=512):=by
 obtain⟨G',a1,a2,a3,a4,a5,a6,a7,a8⟩:=hw;have ne:∀g∈lH::ah (.slice A l.length c),g∉v.sB::(F++Gi):=λg hg hm=>by
  rcases aj.1 hm with e|hm
  .exact(h.x g hg).2.1 e
  .rcases aB.1 hm with hm|hm
   .exact(h.x g hg).1 hm
   .exact h.d g (by simp only[aj,aB]at hg ⊢;rcases hg with e|e<;>simp[e]) hm
 refine⟨G',⟨a1,a2,a3,h.o.aL a4 (λg hg dP=>?_),λg hg=>(a5 g hg).elim (h.g g) (λe=> .inr (by have:=h.o.size;omega)),a6,h.s.only a4 (λg hg=>ne g (by simp[hg])),h.b.only a4 (ne _ (by simp)),λg hg hG=>(a5 g hG).elim (h.d g hg) (λe=>by have:=h.lt g hg;omega),h.x,h.y⟩,a7,a8⟩
 rcases aj.1 hg with e|hg
 .simp[e]
 .rcases aB.1 hg with hg|hg
  .simp[hg]
  .exact(h.g g hg).elim (λe=>by simp[e]) (λe=>by omega)
theorem LW.wp(h:LW w wr v tb I F G n K fr az fn eQ iK Inv q sn bd s Gi leaf A c lH l)(hb:bd<=57*sn)(h1:sn<=513)(more:Bool)(er:Int)(h2:er=0->sn<=512):WP w wr v tb I F G n K fr az fn eQ iK Inv ⟨q,sn,s,more,er⟩:=
 ⟨Gi,h.t,h.e,h.i,h.o,h.g,aq h.m hb,h1,h2⟩
end
end Sh
namespace Sh
open Go.RowKit Pk Dk Pg
variable{a:St}{l:List Fr}{k:Nat}{q:QS}{j p:Int}{T:List Int}
def Ot{α:Type}(p:α->Bool):List α->Int->List Int
 |[],_=>[]
 |x::t,k=>if p x=true then k::Ot p t (k+1)else Ot p t (k+1)
theorem yL{α:Type}(p:α->Bool):∀(t:List α) (k:Int),(Ot p t k).length=t.countP p
 |[],_=>rfl
 |x::t,k=>by
  unfold Ot;rw[m9,<-yL p t (k+1)]
  split<;>simp
theorem rB{α:Type}{p:α->Bool}:∀{t:List α} {k j:Int},j∈Ot p t k↔ ∃(i:Nat) (x:α),j=k+i/\t[i]?=some x/\p x=true
 |[],k,j=>by simp[Ot]
 |y::t,k,j=>by
  have h:(∃(i:Nat) (x:α),j=k+i/\(y::t)[i]?=some x/\p x=true)↔((j=k/\p y=true)\/j∈Ot p t (k+1)):=by
   rw[rB]
   constructor
   .rintro⟨i,x,h1,h2,h3⟩
    cases i with
    |zero=>simp at h2;subst h2;exact .inl ⟨by omega,h3⟩
    |succ i=>exact .inr ⟨i,x,by omega,by simpa using h2,h3⟩
   .rintro(⟨h1,h2⟩|⟨i,x,h1,h2,h3⟩)
    .exact⟨0,y,by omega,rfl,h2⟩
    .exact⟨i+1,x,by omega,by simpa using h2,h3⟩
  rw[h,show Ot p (y::t) k=if p y=true then k::Ot p t (k+1)else Ot p t (k+1)from rfl]
  by_cases hp:p y=true
  .rw[if_pos hp,aj];simp[hp]
  .rw[if_neg hp];simp[hp]
theorem nQ{α:Type}(p:α->Bool):∀(t:List α) (k:Int),(Ot p t k).Nodup
 |[],_=>mP
 |x::t,k=>by
  unfold Ot
  split
  .rw[fu];exact⟨λhm=>by obtain⟨i,_,h,_⟩:=rB.1 hm;omega,nQ p t _⟩
  .exact nQ p t _
def JF(q:QS)(j:Int):Prop:=cJ (q.a.at j)=true\/∃f∈q.l,f.an=j/\f.bX=true
def AU(q q':QS):Prop:= ∀j,JF q' j->JF q j
theorem AU.trans{a b c:QS}(h:AU a b)(k:AU b c):AU a c:=λj hj=>h j (k j hj)
theorem yM(h:(im l k).bX=true):im l k∈l:=by
 rcases dX k l.length with h1|h1
 .exact ay (jt h1)
 .unfold im at h;rw[fG h1]at h
  cases h
theorem AU.of{q':QS}(ha:q'.a=q.a)(hl:∀f∈q'.l,f.bX=true->∃g∈q.l,g.an=f.an/\g.bX=true):AU q q':=λj hj=>by
 rcases hj with h|⟨f,hf,hp,hd⟩
 .exact .inl (by rw[<-ha];exact h)
 .obtain⟨g,hg,e,d⟩:=hl f hf hd;exact .inr ⟨g,hg,e.trans hp,d⟩
theorem AV{u:Fr}(hu:u.bX=true->∃g∈l,g.an=u.an/\g.bX=true):∀f∈l.set k u,f.bX=true->∃g∈l,g.an=f.an/\g.bX=true:=λf hf hd=>by
 rcases mem_set hf with rfl|⟨i,_,hi⟩
 .exact hu hd
 .exact⟨f,ay hi,rfl,hd⟩
theorem MJ:∀(m:Nat) (s:QS),AU s (s.jF m).1
 |0,s=>λ_ h=>h
 |m+1,s=>by
  rw[LF]
  split
  .exact(AU.of (q:=s) (q':=s.turn) rfl λf hf hd=>⟨f,hf,rfl,hd⟩).trans (MJ m s.turn)
  .split
   .exact(AU.of (q:=s) (q':={s.turn with l:=s.l.set s.hand {im s.l s.hand with used:=false}}) rfl (AV λhd=>⟨_,yM hd,rfl,hd⟩)).trans (MJ m _)
   .exact λ_ h=>h
theorem uD(s:QS):AU s s.aH.1:=by
 unfold QS.aH
 split
 .exact λ_ h=>h
 .exact MJ _ s
theorem VX{a:St}{l j:Int}{u:Option (Bool×List UInt8)}(h:cJ (({a with now:=a.now.set l.toNat u}:St).at j)=true)(hl:0<=l):cJ (a.at j)=true\/j=l:=by
 unfold St.at at h ⊢
 by_cases h0:0<=j
 .rw[if_pos h0]at h ⊢
  by_cases e:j=l
  .exact .inr e
  .left
   rwa [fP (by omega)]at h
 .rw[if_neg h0]at h;cases h
theorem write_t{l:Int}{p:List UInt8}(h:cJ ((a.aA l p).1.at j)=true):cJ (a.at j)=true\/j=l:=by
 unfold St.aA at h
 split at h
 .exact .inl h
 .split at h
  .exact .inl h
  .rename_i hs
   split at h
   .exact .inl h
   .exact VX h (ia (Classical.not_not.1 hs)).1
theorem AW(q:QS)(k:Nat):AU q (q.bI k).1:=by
 unfold QS.bI
 split
 .rename_i hd;have hw:∀j,cJ ((q.a.aA (im q.l k).an (im q.l k).fO.data.toList).1.at j)=true->JF q j:=λj h=>by
   rcases write_t h with h|rfl
   .exact .inl h
   .exact .inr ⟨_,yM hd,rfl,hd⟩
  split
  .intro j hj
   rcases hj with h|⟨f,hf,hp,Qt⟩
   .exact hw j h
   .obtain⟨g,hg,e,d⟩:=AV (u:={im q.l k with bX:=false}) (λh=>absurd h (by simp)) f hf Qt;exact .inr ⟨g,hg,e.trans hp,d⟩
  .intro j hj
   rcases hj with h|h
   .exact hw j h
   .exact .inr h
 .exact λ_ h=>h
theorem IY{f:Fr}(h:q.gX p=some (k,f)):f∈q.l/\(0<=p->f.an=p)/\0<=p:=by
 obtain⟨h1,h2,h3⟩:=vR h
 rcases fX q.l p with e|⟨i,g,e,hi,hp,h0⟩
 .omega
 .rw[e]at h3;obtain rfl:i=k:=by omega
  rw[hi]at h1;injection h1 with h1
  subst h1;exact⟨ay hi,λ_=>hp,h0⟩
theorem qx(q:QS)(p:Int):AU q (q.aZ p).1:=by
 unfold QS.aZ
 split
 .exact AU.of rfl (AV λhd=>⟨_,yM hd,rfl,hd⟩)
 .split
  .exact λ_ h=>h
  .split
   .exact uD q
   .split
    .exact(uD q).trans (AW _ _)
    .exact(uD q).trans ((AW _ _).trans (AU.of rfl (AV λhd=>absurd hd (by simp))))
theorem let_t(q:QS)(p:Int):AU q (q.gY p).1:=by
 unfold QS.gY
 split
 .exact λ_ h=>h
 .rename_i k f h;exact AU.of rfl (AV λhd=>⟨f,(IY h).1,rfl,hd⟩)
theorem get_t(q:QS)(p:Int):AU q (q.cU p).1:=by
 unfold QS.cU
 split
 .exact qx q p
 .exact(qx q p).trans (let_t _ p)
theorem put_t(q:QS)(p:Int)(b:ByteArray)(j:Int)(h:JF (q.du p b).1 j):JF q j\/j=p:=by
 unfold QS.du at h
 split at h
 .exact .inl h
 .split at h
  .exact .inl (qx q p j h)
  .have h:=let_t _ p j h;unfold QS.fE at h
   split at h
   .exact .inl (qx q p j h)
   .split at h
    .exact .inl (qx q p j h)
    .rename_i k f hh
     rcases h with h|⟨g,hg,hp,hd⟩
     .exact .inl (qx q p j (.inl h))
     .rcases mem_set hg with rfl|⟨i,_,hi⟩
      .have:=IY hh;exact .inr (hp.symm.trans (this.2.1 this.2.2))
      .exact .inl (qx q p j (.inr ⟨g,ay hi,hp,hd⟩))
theorem put_te{b:ByteArray}(h:(q.du p b).2≠0):AU q (q.du p b).1:=by
 unfold QS.du at h ⊢
 split
 .exact λ_ h=>h
 .rename_i h1
  split
  .exact qx q p
  .rename_i h2;rw[if_neg h1,if_neg h2]at h;exact absurd rfl h
theorem new_t(q:QS)(p:List UInt8)(j:Int)(h:JF (q.bJ p).1 j):JF q j\/(j=(q.bJ p).2.1/\(q.bJ p).2.2=0):=by
 rcases h with h|h
 .have h:cJ ((q.a.bJ p).1.at j)=true:=h;show _\/(j=(q.a.bJ p).2.1/\(q.a.bJ p).2.2=0);unfold St.bJ at h ⊢
  split
  .rename_i h1;rw[if_pos h1]at h;exact .inl (.inl h)
  .rename_i h1;rw[if_neg h1]at h
   split
   .rename_i h2;rw[if_pos h2]at h;exact .inl (.inl h)
   .rename_i h2;rw[if_neg h2]at h
    by_cases e:j=((q.a.slot:Nat):Int)
    .exact .inr ⟨e,rfl⟩
    .left;left;unfold St.at at h ⊢
     by_cases h0:0<=j
     .rw[if_pos h0]at h ⊢;unfold nF at h
      split at h
      .rename_i hs
       rcases dX j.toNat q.a.now.length with h3|h3
       .rwa [bE h3]at h
       .rw[dR h3]at h;have:j.toNat-q.a.now.length≠0:=by omega
        rw[fG (by simp;omega)]at h
        cases h
      .rwa [fP (by omega)]at h
     .rw[if_neg h0]at h;cases h
 .exact .inl (.inr h)
theorem VY(q:QS)(p:Int):AU q (q.aR p).1:=by
 have ha:∀j,cJ ((q.a.aR p).1.at j)=true->cJ (q.a.at j)=true:=λj h=>by
  unfold St.aR at h
  split at h
  .rename_i hs
   rcases VX h (ia hs).1 with h1|rfl
   .exact h1
   .unfold St.at at h;rw[if_pos (ia hs).1,dI (ia hs).2]at h
    cases h
  .exact h
 unfold QS.aR
 split
 .exact λ_ h=>h
 .split
  .exact λj h=>h.imp (ha j) id
  .split
   .exact λj h=>h.imp (ha j) λ⟨f,hf,hp,hd⟩=>by
     obtain⟨g,hg,e,d⟩:=AV (u:=Fr.nil) (λh=>absurd h (by decide)) f hf hd;exact⟨g,hg,e.trans hp,d⟩
   .exact λj h=>h.imp (ha j) id
theorem evict_t(q:QS)(i:Int):AU q (q.eE i).1:=by
 unfold QS.eE
 split
 .exact λ_ h=>h
 .split
  .exact λ_ h=>h
  .split
   .exact λ_ h=>h
   .split
    .exact AW q _
    .exact(AW q _).trans (AU.of rfl (AV λhd=>absurd hd (by decide)))
theorem yN(q:QS):∀i,AU q (q.aT i).1
 |0=>λ_ h=>h
 |i+1=>by
  rw[q8]
  split
  .exact yN q i
  .exact(yN q i).trans (AW _ _)
theorem DF(l:List (Option (List UInt8)))(a:St)(j:Int):cJ (({a with now:=gl l}:St).at j)=false:=by
 unfold St.at
 split
 .show cJ (((gl l)[j.toNat]?).getD none)=false;unfold gl;rw[ic]
  cases l[j.toNat]? with
  |none=>rfl
  |some x=>cases x<;>rfl
 .rfl
theorem abort_t(q:QS)(j:Int):¬JF q.bY j:=λh=>by
 rcases h with h|⟨f,hf,hp,hd⟩
 .have h:cJ (({q.a with now:=gl q.a.bQ}:St).at j)=true:=h;rw[DF]at h
  cases h
 .rw[ng hf]at hd
  cases hd
theorem A0{n K:Nat}(w:Wp q n K):AU q q.aE.1/\(q.aE.2=0->∀j,¬JF q.aE.1 j):=by
 unfold QS.aE
 split
 .rename_i h;rw[sP w.N]at h;omega
 .split
  .rename_i h1;exact⟨yN q _,λh=>absurd h h1⟩
  .rename_i h1;have hd:=w.FE q.l.length (Nat.le_refl _) (by simpa using h1);have hl:=(w.xx q.l.length (Nat.le_refl _)).2.2;have Km:∀f∈(q.aT q.l.length).1.l,f.bX=true->False:=λf hf hdd=>by
    obtain⟨i,hi⟩:=ym.1 hf;have h2:=hd i f hi hdd;have h3:=(aM.1 hi).1;omega
   unfold St.aE
   split
   .exact⟨λj h=>yN q _ j h,λh=>absurd h (by show ¬(11:Int)=0;decide)⟩
   .have key:∀j,¬JF {(q.aT q.l.length).1 with a:={(q.aT q.l.length).1.a with now:=gl (q.aT q.l.length).1.a.dH,bQ:=(q.aT q.l.length).1.a.dH,ep:=(q.aT q.l.length).1.a.ep+1}} j:=λj h=>by
     rcases h with h|⟨f,hf,hp,hdd⟩
     .have h:cJ (({({(q.aT q.l.length).1.a with bQ:=(q.aT q.l.length).1.a.dH,ep:=(q.aT q.l.length).1.a.ep+1}:St)with now:=gl (q.aT q.l.length).1.a.dH}:St).at j)=true:=h;rw[DF]at h
      cases h
     .exact Km f hf hdd
    exact⟨λj h=>absurd h (key j),λ_=>key⟩
theorem Q8(hT:∀j,JF q j->j∈T)(hr:T.length+q.a.kept<=q.a.many):(q.bI k).2≠11:=λh=>by
 unfold QS.bI at h
 split at h
 .rename_i hd
  split at h
  .exact absurd h (by show ¬(0:Int)=11;decide)
  .have h:(q.a.aA (im q.l k).an (im q.l k).fO.data.toList).2=11:=h;unfold St.aA at h
   split at h
   .exact absurd h (by show ¬(4:Int)=11;decide)
   .split at h
    .exact absurd h (by show ¬(3:Int)=11;decide)
    .split at h
     .rename_i hf;have hn:((im q.l k).an::Ot cJ q.a.now 0).Nodup:=by
       rw[fu];refine⟨λhm=>?_,nQ _ _ _⟩;obtain⟨i,x,h1,h2,h3⟩:=rB.1 hm;have hf:=hf.1;unfold St.at at hf;rw[if_pos (by omega),show(im q.l k).an.toNat=i by omega,h2]at hf;rw[show(some x).getD none=x from rfl,h3]at hf
       cases hf
      have hs:=ly _ T hn λx hx=>by
       rcases aj.1 hx with rfl|hx
       .exact hT _ (.inr ⟨_,yM hd,rfl,hd⟩)
       .obtain⟨i,y,h1,h2,h3⟩:=rB.1 hx;refine hT _ (.inl ?_);unfold St.at;rw[if_pos (by omega),show x.toNat=i by omega,h2];exact h3
      rw[fo,yL]at hs;have hf:=hf.2;unfold St.free St.fresh at hf;omega
     .exact absurd h (by show ¬(0:Int)=11;decide)
 .exact absurd h (by show ¬(0:Int)=11;decide)
theorem VZ(hT:∀j,JF q j->j∈T)(hr:T.length+q.a.kept<=q.a.many)(p:Int):(q.cU p).2.2≠11:=λh=>by
 have h:(q.aZ p).2.2=11:=by
  unfold QS.cU at h
  split at h
  .exact h
  .exact absurd h (by show ¬(0:Int)=11;decide)
 unfold QS.aZ at h
 split at h
 .exact absurd h (by show ¬(0:Int)=11;decide)
 .split at h
  .have h:(q.a.aK p).2=11:=h;unfold St.aK at h
   split at h
   .exact absurd h (by show ¬(0:Int)=11;decide)
   .exact absurd h (by show ¬(3:Int)=11;decide)
  .split at h
   .exact absurd h (by show ¬(12:Int)=11;decide)
   .split at h
    .refine Q8 (q:=q.aH.1) (T:=T) (λj hj=>hT j (uD q j hj)) ?_ h;rw[(iH q).1];exact hr
    .exact absurd h (by show ¬(0:Int)=11;decide)
variable{p j:Int}{a:St}
abbrev Vw:=Int->List UInt8×Int
def jj(v:Vw)(p:Int)(b:List UInt8):Vw:=λj=>if j=p then(b,0)else v j
def Co(v:Vw)(p:Int):Vw:=λj=>if j=p then([],3)else v j
theorem DG(v:Vw)(p:Int)(b:List UInt8):jj v p b p=(b,0):=if_pos rfl
theorem l5(v:Vw)(b:List UInt8)(h:j≠p):jj v p b j=v j:=if_neg h
theorem DH(v:Vw)(p:Int):Co v p p=([],3):=if_pos rfl
theorem F0(v:Vw)(h:j≠p):Co v p j=v j:=if_neg h
def QS.iK(q:QS):Nat×List (Option (List UInt8))×Nat:=(q.a.now.length,q.a.bQ,q.a.many)
theorem Q9(a:St)(l:Int)(p:List UInt8):(a.aA l p).1.now.length=a.now.length/\(a.aA l p).1.bQ=a.bQ/\(a.aA l p).1.many=a.many:=by
 unfold St.aA
 split
 .exact⟨rfl,rfl,rfl⟩
 .split
  .exact⟨rfl,rfl,rfl⟩
  .split
   .exact⟨rfl,rfl,rfl⟩
   .exact⟨by show(a.now.set _ _).length=_;rw[bW],rfl,rfl⟩
theorem Rb{l:Int}{p:List UInt8}(h:(a.aA l p).2=11):a.free=0:=by
 unfold St.aA at h
 split at h
 .exact absurd h (by simp)
 .split at h
  .exact absurd h (by simp)
  .split at h
   .rename_i h1;exact h1.2
   .exact absurd h (by simp)
theorem qy(q:QS)(k:Nat):(q.bI k).1.iK=q.iK:=by
 unfold QS.bI
 split
 .obtain⟨a,b,c⟩:=Q9 q.a (im q.l k).an (im q.l k).fO.data.toList
  split<;>exact jr a (jr b c)
 .rfl
theorem IZ{q:QS}{k:Nat}(h:(q.bI k).2=11):q.a.free=0:=by
 unfold QS.bI at h
 split at h
 .split at h
  .exact absurd h (by simp)
  .exact Rb h
 .exact absurd h (by simp)
theorem sZ(q:QS):q.aH.1.iK=q.iK:=by
 unfold QS.iK;rw[(iH q).1]
theorem uE(q:QS)(p:Int):(q.aZ p).1.iK=q.iK:=by
 unfold QS.aZ
 split
 .rfl
 .split
  .rfl
  .split
   .exact sZ q
   .split
    .rw[qy];exact sZ q
    .exact(qy _ _).trans (sZ q)
theorem I0{q:QS}(h:(q.aZ p).2.2=11):q.a.free=0:=by
 unfold QS.aZ at h
 split at h
 .exact absurd h (by simp)
 .split at h
  .rename_i h1;have h:(q.a.aK p).2=11:=h;unfold St.aK at h
   split at h
   .exact absurd h (by simp)
   .exact absurd h (by simp)
  .split at h
   .exact absurd h (by simp)
   .split at h
    .have:=IZ h;rw[(iH q).1]at this;exact this
    .exact absurd h (by simp)
theorem Ou(q:QS)(p:Int):(q.gY p).1.iK=q.iK:=by
 unfold QS.gY
 split<;>rfl
theorem V9(q:QS)(p:Int)(b:ByteArray):(q.fE p b).1.iK=q.iK:=by
 unfold QS.fE
 split
 .rfl
 .split<;>rfl
theorem Ov(q:QS)(p:Int):(q.cU p).1.iK=q.iK:=by
 unfold QS.cU
 split
 .exact uE q p
 .rw[Ou];exact uE q p
theorem get_f11{q:QS}(h:(q.cU p).2.2=11):q.a.free=0:=by
 unfold QS.cU at h
 split at h
 .exact I0 h
 .exact absurd h (by simp)
theorem Ow(q:QS)(p:Int)(b:ByteArray):(q.du p b).1.iK=q.iK:=by
 unfold QS.du
 split
 .rfl
 .split
  .exact uE q p
  .rw[Ou,V9];exact uE q p
theorem put_f11{q:QS}{b:ByteArray}(h:(q.du p b).2=11):q.a.free=0:=by
 unfold QS.du at h
 split at h
 .exact absurd h (by simp)
 .split at h
  .exact I0 h
  .exact absurd h (by simp)
theorem Rc(q:QS)(i:Int):(q.eE i).1.iK=q.iK:=by
 unfold QS.eE
 split
 .rfl
 .split
  .rfl
  .split
   .rfl
   .split
    .exact qy q _
    .exact qy q _
theorem I1(q:QS)(p:Int):(q.aR p).1.iK=q.iK:=by
 have h:(q.a.aR p).1.now.length=q.a.now.length/\(q.a.aR p).1.bQ=q.a.bQ/\(q.a.aR p).1.many=q.a.many:=by
  unfold St.aR
  split
  .exact⟨by show(q.a.now.set _ _).length=_;rw[bW],rfl,rfl⟩
  .exact⟨rfl,rfl,rfl⟩
 obtain⟨a,b,c⟩:=h;unfold QS.aR
 split
 .rfl
 .split
  .exact jr a (jr b c)
  .split<;>exact jr a (jr b c)
theorem new_mes(q:QS)(p:List UInt8):(q.bJ p).1.a.now.length<=q.a.now.length+1/\(q.bJ p).1.a.bQ=q.a.bQ/\(q.bJ p).1.a.many=q.a.many:=by
 show(q.a.bJ p).1.now.length<=_/\(q.a.bJ p).1.bQ=_/\(q.a.bJ p).1.many=_;unfold St.bJ
 split
 .exact⟨Nat.le_succ _,rfl,rfl⟩
 .split
  .exact⟨Nat.le_succ _,rfl,rfl⟩
  .refine⟨?_,rfl,rfl⟩;show(nF q.a.now _ _).length<=_;unfold nF
   split
   .simp
   .rw[bW];omega
theorem Wa(a:St):a.slot<=a.now.length:=by unfold St.slot;exact n7
theorem new_f11{q:QS}{p:List UInt8}(h:(q.bJ p).2.2=11):512<=q.a.now.length\/q.a.free=0:=by
 have h:(q.a.bJ p).2.2=11:=h;unfold St.bJ at h
 split at h
 .exact absurd h (by simp)
 .split at h
  .rename_i h1;exact h1.imp (λh=>aq h (Wa q.a)) id
  .exact absurd h (by simp)
theorem I2{u:Nat}(h:a.now.length+a.kept<=u)(hu:u<a.many):a.free≠0:=by
 have:a.fresh<=a.now.length:=uX;unfold St.free;omega
abbrev cut(x:List UInt8×Int):List UInt8×Int:=(x.1.take 232,x.2)
theorem qz{x:List UInt8×Int}(h:cut x=([],3)):x=([],3):=by
 obtain⟨a,b⟩:=x;injection h with h1 h2
 refine jr ?_ h2
 rcases List.take_eq_nil_iff.1 h1 with h|h
 .omega
 .exact h
theorem I3{l:List UInt8}(h:l.length=232)(e:Int):(l,e)=cut (l,e):=by
 unfold cut;rw[cr (qP h)]
structure Rd(q:QS)(v o:Vw)(u m:Nat):Prop where
 w:∃n K,Wp q n K
 t:∀j,JF q j->(v j).2=0->(v j).1.length=232
 v:∀j,q.vw j=cut (v j)
 o:∀j,q.ov j=cut (o j)
 u:q.a.now.length+q.a.kept<=u
 m:m<=q.a.many
section
variable{q:QS}{v o:Vw}{u m:Nat}
theorem qA{q q':QS}(h:q'.iK=q.iK):q'.a.now.length+q'.a.kept=q.a.now.length+q.a.kept/\q'.a.many=q.a.many/\q'.a.bQ=q.a.bQ:=by
 have h1:q'.a.now.length=q.a.now.length:=congrArg Prod.fst h;have h2:q'.a.bQ=q.a.bQ:=congrArg (λx=>x.2.1) h;have h3:q'.a.many=q.a.many:=congrArg (λx=>x.2.2) h;refine⟨?_,h3,h2⟩;unfold St.kept;rw[h1,h2]
theorem Rd.step(h:Rd q v o u m){q':QS}{v':Int->List UInt8×Int}(hm:q'.iK=q.iK)(hw:∃n K,Wp q' n K)(hv:∀j,q'.vw j=cut (v' j))(ht:∀j,JF q' j->(v' j).2=0->(v' j).1.length=232):Rd q' v' o u m:=by
 obtain⟨a,b,c⟩:=qA hm;exact⟨hw,ht,hv,λj=>(Ib c j).trans (h.o j),by rw[a];exact h.u,by rw[b];exact h.m⟩
theorem Rd.free(h:Rd q v o u m)(h0:q.a.free=0):m<=u:=by
 rcases dX u m with h1|h1
 .exact absurd h0 (I2 h.u (tO h1 h.m))
 .exact h1
theorem Rd.get(h:Rd q v o u m)(p:Int):Rd (q.cU p).1 v o u m/\
  (((v p).2=0/\(q.cU p).2=(⟨((v p).1.take 232).toArray⟩,0))\/(v p=([],3)/\(q.cU p).2=(⟨#[]⟩,3))\/((q.cU p).2=(⟨#[]⟩,11)/\m<=u)):=by
 obtain⟨n,K,w⟩:=h.w;obtain⟨a,b⟩:=w.get p;refine⟨h.step (Ov q p) ⟨n,_,a.w⟩ (λj=>(a.v j).trans (h.v j)) (λj hj=>h.t j (get_t q p j hj)),?_⟩;rw[h.v]at b
 rcases b with b|b|⟨b,c⟩
 .exact .inl b
 .exact .inr (.inl ⟨qz b.1,b.2⟩)
 .exact .inr (.inr ⟨c,h.free (get_f11 (p:=p) (by rw[c]))⟩)
theorem Rd.put(h:Rd q v o u m)(p:Int)(b:ByteArray)(hb:b.size=232)(h0:(v p).2=0):
  ((q.du p b).2=0/\Rd (q.du p b).1 (jj v p b.data.toList) o u m)\/((q.du p b).2=11/\Rd (q.du p b).1 v o u m/\m<=u):=by
 obtain⟨n,K,w⟩:=h.w;obtain⟨a,c⟩:=w.put p b (by omega);have hl:b.data.toList.length=232:=by simpa using hb
 rcases c with⟨c1,c2,c3⟩|⟨c1,c2,c3⟩|⟨c1,c2,c3⟩
 .refine .inl ⟨c2,h.step (Ow q p b) ⟨n,_,a.w⟩ (λj=>?_) (λj hj=>?_)⟩
  .rw[c3,uj hb];unfold jj
   split
   .exact I3 hl 0
   .exact h.v j
  .unfold jj
   split
   .exact λ_=>hl
   .rename_i hn;exact h.t j ((put_t q p b j hj).resolve_right hn)
 .rw[h.v]at c1;rw[qz c1]at h0;exact absurd h0 (by decide)
 .exact .inr ⟨c2,h.step (Ow q p b) ⟨n,_,a.w⟩ (λj=>(c3 j).trans (h.v j)) (λj hj=>h.t j (put_te (by rw[c2];decide) j hj)),h.free (put_f11 c2)⟩
theorem Rd.new(h:Rd q v o u m)(p:ByteArray)(hb:p.size<=232):
  (∃l:Nat,(q.bJ p.data.toList).2=(((l:Nat):Int),0)/\l<=511/\v (l:Nat)=([],3)/\Rd (q.bJ p.data.toList).1 (jj v (l:Nat) (eO p.data.toList 232)) o (u+1) m)\/
  ((q.bJ p.data.toList).2=(0,11)/\Rd (q.bJ p.data.toList).1 v o (u+1) m/\(m<=u\/512<=u)):=by
 obtain⟨n,K,w⟩:=h.w;obtain⟨a,c⟩:=w.new p hb;obtain⟨m1,m2,m3⟩:=new_mes q p.data.toList;have hk:(q.bJ p.data.toList).1.a.now.length+(q.bJ p.data.toList).1.a.kept<=u+1:=by
  have:=h.u;have hk:(q.bJ p.data.toList).1.a.kept=q.a.kept:=by unfold St.kept;rw[m2]
  omega
 rcases c with⟨l,c1,c2,c3,c4⟩|⟨c1,c2⟩
 .have uR:=lz p.data.toList (by simpa using hb);refine .inl ⟨l,c1,c2,qz (by rw[<-h.v];exact c3),⟨n,_,a.w⟩,λj hj=>?_,λj=>?_,λj=>(Ib m2 j).trans (h.o j),hk,by rw[m3];exact h.m⟩;rotate_left
  .rw[c4];unfold jj
   split
   .exact I3 uR 0
   .exact h.v j
  .unfold jj
   split
   .exact λ_=>uR
   .rename_i hn;exact h.t j ((new_t q _ j hj).resolve_right (λe=>hn (by rw[e.1,c1])))
 .refine .inr ⟨c1,⟨⟨n,_,a.w⟩,λj hj=>h.t j ((new_t q _ j hj).resolve_right (λe=>by rw[c1]at e;exact absurd e.2 (by decide))),λj=>(c2 j).trans (h.v j),λj=>(Ib m2 j).trans (h.o j),hk,by rw[m3];exact h.m⟩,?_⟩
  rcases new_f11 (q:=q) (p:=p.data.toList) (by rw[c1])with h1|h1
  .have:=h.u;right;omega
  .exact .inl (h.free h1)
theorem Rd.drop(h:Rd q v o u m)(p:Int)(h0:(v p).2=0):(q.aR p).2=0/\Rd (q.aR p).1 (Co v p) o u m:=by
 obtain⟨n,K,w⟩:=h.w;obtain⟨a,c⟩:=w.drop p
 rcases c with⟨c1,c2,c3⟩|⟨c1,c2,c3⟩
 .refine⟨c2,h.step (I1 q p) ⟨n,_,a.w⟩ (λj=>?_) (λj hj=>?_)⟩
  .rw[c3];unfold Co
   split
   .rfl
   .exact h.v j
  .unfold Co
   split
   .exact λh=>absurd h (by simp)
   .exact h.t j (VY q p j hj)
 .rw[h.v]at c1;rw[qz c1]at h0;exact absurd h0 (by simp)
theorem Rd.xw(h:Rd q v o u m)(i:Int):Rd (q.eE i).1 v o u m/\((q.eE i).2=0\/(q.eE i).2=3\/(q.eE i).2=11):=by
 obtain⟨n,K,w⟩:=h.w;obtain⟨a,c⟩:=w.xw i;exact⟨h.step (Rc q i) ⟨n,_,a.w⟩ (λj=>(a.v j).trans (h.v j)) (λj hj=>h.t j (evict_t q i j hj)),c⟩
theorem Rd.lt(h:Rd q v o u m)(h0:(v j).2=0):0<=j/\j<512:=by
 obtain⟨n,K,w⟩:=h.w;exact w.vw_lt (by rw[h.v];exact h0)
theorem Rd.len(h:Rd q v o u m)(h0:(v j).2=0):((v j).1.take 232).length=232:=by
 obtain⟨n,K,w⟩:=h.w;have:=w.len (j:=j) (by rw[h.v];exact h0);rw[h.v]at this;exact this
theorem Rd.err(h:Rd q v o u m)(j:Int):(v j).2=0\/v j=([],3):=by
 have:=FD q j;rw[h.v]at this;exact this.imp id qz
theorem Rd.le(h:Rd q v o u m){u':Nat}(hu:u<=u'):Rd q v o u' m:=⟨h.w,h.t,h.v,h.o,aq h.u hu,h.m⟩
end
open Nd (E aN aW dL bA aY cq bF ak)
variable{leaf:Bool}{l:List E}{v:Vw}{p:Int}
def gm(v:Vw)(p:Int):Bool×List E×Int:=
 if(v p).2≠0 then(false,[],pz (v p).2)else((aN ((v p).1.take 232)).1,(aN ((v p).1.take 232)).2.1,pz (aN ((v p).1.take 232)).2.2)
theorem Rf{e:Int}(h:pz e=11):e=11:=by
 unfold pz at h
 split at h<;>omega
theorem nR(leaf:Bool)(l:List E):(dL (blank leaf l) leaf/\ak (blank leaf l)<=223/\(bH leaf l).2=0/\(bH leaf l).1.length=232/\aN (bH leaf l).1=(leaf,blank leaf l,0))\/
  (dL (blank leaf l) leaf/\223<ak (blank leaf l)/\bH leaf l=([],11))\/(¬dL (blank leaf l) leaf/\bH leaf l=([],2)):=by
 unfold bH
 by_cases hm:dL (blank leaf l) leaf
 .have hb:=Nd.AF leaf (blank leaf l)
  by_cases hr:ak (blank leaf l)<=223
  .left;have h0:(aW leaf (blank leaf l)).2=0:=by
    unfold aW;rw[if_pos ((Nd.lF _ _).2 hm),if_pos (by rw[hb];omega)]
   refine⟨hm,hr,h0,?_,Nd.IE h0⟩;unfold aW;rw[if_pos ((Nd.lF _ _).2 hm),if_pos (by rw[hb];omega)];exact(Nd.wk _ (by rw[hb];omega)).1.len
  .right;left;refine⟨hm,by omega,?_⟩;unfold aW;rw[if_pos ((Nd.lF _ _).2 hm),if_neg (by rw[hb];omega)]
 .right;right;refine⟨hm,?_⟩;unfold aW;rw[if_neg (λh=>hm ((Nd.lF _ _).1 h))]
theorem wD(h:(bH leaf l).2=0):dL (blank leaf l) leaf/\ak (blank leaf l)<=223/\(bH leaf l).1.length=232/\aN (bH leaf l).1=(leaf,blank leaf l,0):=by
 rcases nR leaf l with⟨a,b,c,d,e⟩|⟨a,b,c⟩|⟨a,c⟩
 .exact⟨a,b,d,e⟩
 .rw[c]at h;exact absurd h (by decide)
 .rw[c]at h;exact absurd h (by decide)
theorem gh(h:(bH leaf l).2=0)(p j:Int):gm (jj v p (bH leaf l).1) j=if j=p then(leaf,blank leaf l,0)else gm v j:=by
 unfold gm jj
 by_cases e:j=p
 .have hl:List.take 232 (bH leaf l).1=(bH leaf l).1:=cr (qP (wD h).2.2.1);rw[if_pos e,if_pos e,hl,(wD h).2.2.2];rfl
 .rw[if_neg e,if_neg e]
theorem wE{v':Vw}(h:v' p=v p):gm v' p=gm v p:=by
 unfold gm;rw[h]
theorem mH(h:(gm v p).2.2=0):(v p).2=0:=by
 unfold gm at h
 split at h
 .rename_i h1;exact absurd (rq.1 h) h1
 .rename_i h1;omega
theorem oS(h:(gm v p).2.2=0):dL (gm v p).2.1 (gm v p).1:=by
 have h0:=mH h;unfold gm at h ⊢;rw[if_neg (by omega)]at h ⊢;have h1:=rq.1 h;exact Nd.xL h1
section
variable{q:QS}{v o:Vw}{u m:Nat}
theorem Rd.read(h:Rd q v o u m)(p:Int):Rd (q.bh p).1 v o u m/\((q.bh p).2=gm v p\/((q.bh p).2=(false,[],11)/\m<=u)):=by
 obtain⟨a,b⟩:=h.get p;unfold QS.bh gm
 rcases b with⟨b1,b2⟩|⟨b1,b2⟩|⟨b1,b2⟩
 .rw[b2,if_neg (by simp),if_neg (by omega)];exact⟨a,.inl rfl⟩
 .rw[b2,b1,if_pos (by simp),if_pos (by simp)];exact⟨a,.inl rfl⟩
 .rw[b1,if_pos (by simp)];exact⟨a,.inr ⟨rfl,b2⟩⟩
theorem Rd.write(h:Rd q v o u m)(h0:(v p).2=0)(hl:(bH leaf l).2=0):
  ((q.cN p leaf l).2=0/\Rd (q.cN p leaf l).1 (jj v p (bH leaf l).1) o u m)\/((q.cN p leaf l).2=11/\Rd (q.cN p leaf l).1 v o u m/\m<=u):=by
 unfold QS.cN;rw[if_neg (by omega)];exact h.put p ⟨(bH leaf l).1.toArray⟩ (by show(bH leaf l).1.toArray.size=_;rw[lV];exact(wD hl).2.2.1) h0
theorem Rg(q:QS)(p:Int)(hl:(bH leaf l).2≠0):q.cN p leaf l=(q,(bH leaf l).2):=by
 unfold QS.cN;rw[if_pos hl]
theorem Rd.make(h:Rd q v o u m)(hl:(bH leaf l).2=0):
  (∃k:Nat,(q.eC leaf l).2=(((k:Nat):Int),0)/\k<=511/\v (k:Nat)=([],3)/\Rd (q.eC leaf l).1 (jj v (k:Nat) (bH leaf l).1) o (u+1) m)\/
  ((q.eC leaf l).2=(0,11)/\Rd (q.eC leaf l).1 v o (u+1) m/\(m<=u\/512<=u)):=by
 unfold QS.eC;rw[if_neg (by omega)];have hn:=h.new ⟨(bH leaf l).1.toArray⟩ (by show(bH leaf l).1.toArray.size<=_;rw[lV,(wD hl).2.2.1];exact Nat.le_refl _);have e:eO (bH leaf l).1 232=(bH leaf l).1:=by
  have:=uj (b:=⟨(bH leaf l).1.toArray⟩) (by show(bH leaf l).1.toArray.size=_;rw[lV];exact(wD hl).2.2.1);exact this
 have hd:(⟨(bH leaf l).1.toArray⟩:ByteArray).data.toList=(bH leaf l).1:=rfl;rw[hd,e]at hn;exact hn
end
end Sh
end Go.Proofs.YtmonobkginiajaaGreat
