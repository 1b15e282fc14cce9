/- packed. -/
import Derived.Test.YtmonobkginiajaaGreatAp9
set_option linter.all false
set_option maxRecDepth 100000
set_option maxHeartbeats 8000000
namespace Go.Proofs.YtmonobkginiajaaGreat
open Go.Proofs.Tryz
namespace Sh
open Go.RowKit Pk Dk Pg
open Nd (E aH bt aV aZ dD bH bf cd bJ)
attribute [local go_sem ↓] Go.wp_at_zero Go.wp_at_succ
variable{g m cc b n K:Nat}{l:List E}{w W W':World}{F F':List Nat}{I:Ix}{q:QS}
section
variable{w w':World}{b:Nat}{v:Value}{L:List SM}{I:Ix}{F S:List Nat}{q:QS}{n K:Nat}
theorem aM.off(h:aM w b v L)(P:PQ w I F q n K):(∀g∈ah v,g∉F)/\∀x∈L,∀g∈ah x.v,g∉F:=
 ⟨λg hg=>by
  obtain⟨cs,B⟩:=xM h.s g hg;exact P.fR B,λx hx g hg=>by
  obtain⟨cs,B⟩:=xM (h.e x hx).1 g hg;exact P.fR B⟩
theorem aM.tV(h:aM w b v L)(P:PQ w I F q n K)(o:ag F w w'):aM w' b v L:=
 ⟨h.s.only o (h.off P).1,h.f,λx hx=>⟨(h.e x hx).1.only o ((h.off P).2 x hx),(h.e x hx).2⟩,h.d⟩
theorem aM.cell(h:aM w b (.slice (some ⟨g,0,none⟩) m cc) L){k:Nat}{Z:SM}(hz:L[k]?=some Z)(i:Nat)(hi:i<4):w.cell? ⟨g,k*4+i,none⟩=Z.cells[i]?:=by
 obtain⟨rest,B,_⟩:=h.s.rp;have hk:=(aX.1 hz).1;rw[B.cell,cM,bD (by rw[eK];omega)];exact q7 hz i hi
theorem aM.tree{tb:Nat}{cs:Array Value}(h:aM w b v L)(B:aE w tb 130 cs):tb∉ah v/\∀x∈L,tb∉ah x.v:=
 ⟨cC h.s B (by decide),λx hx=>cC (h.e x hx).1 B (by decide)⟩
theorem aM.pop{X:SM}(h:aM w b (.slice (some ⟨g,0,none⟩) m cc) (L++[X])):aM w b (.slice (some ⟨g,0,none⟩) L.length cc) L:=by
 obtain⟨rest,B,h1,_,h2⟩:=h.s.rp;rw[uu,cL]at B;have hl:(L.flatMap SM.cells).length+(([X]:List SM).flatMap SM.cells++rest).length=cc*4:=by
  rw[uu,aQ]at h1;rw[aQ];omega
 refine⟨⟨by rw[eK],.inr ⟨g,cc,_,rfl,B,hl,h2⟩⟩,λx hx=>h.f x (by simpa [ah]using hx),λx hx=>h.e x (bQ _ hx),(dI.1 h.d).1⟩
theorem aM.put{Lp Ls:List SM}{Y:SM}(h:aM w b (.slice (some ⟨g,0,none⟩) m cc) (Lp++Y::Ls))(l':List E){A':Option Addr}{c':Nat}(S':aK w' 111 3 (.slice A' l'.length c') l'.length (aH l'))(o:ag (ah Y.v) w w')
 (f:∀x∈ah (.slice A' l'.length c'),x∈ah Y.v\/w.heap.size<=x)(hbw:b<=w.heap.size):
  aM (w'.setCell ⟨g,Lp.length*4+2,none⟩ (.slice A' l'.length c')) b (.slice (some ⟨g,0,none⟩) m cc) (Lp++⟨{Y.s with l:=l'},A',c'⟩::Ls)/\w'.cell? ⟨g,Lp.length*4+2,none⟩=some Y.v/\w'.frozen? ⟨g,Lp.length*4+2,none⟩=false:=by
 obtain⟨rest,B,h1,hm,h2⟩:=h.s.rp;have hY:=h.e Y (by simp);have hgY:g∉ah Y.v:=λhg=>gP hY.1 h.s (by decide) g hg (by simp[ah]);have B':=B.only o hgY;have hlen:(Lp++Y::Ls).length=(Lp++(⟨{Y.s with l:=l'},A',c'⟩:SM)::Ls).length:=by simp
 have pK:(Lp++Y::Ls).flatMap SM.cells=Lp.flatMap SM.cells++(Y.cells++Ls.flatMap SM.cells):=by rw[uu,gS]
 have DP:(((Lp++Y::Ls).flatMap SM.cells++rest).set (Lp.length*4+2) (.slice A' l'.length c'))=(Lp++(⟨{Y.s with l:=l'},A',c'⟩:SM)::Ls).flatMap SM.cells++rest:=by
  rw[pK,cL,ta _ _ (by rw[eK];omega),eK,show Lp.length*4+2-Lp.length*4=2 by omega,uu,gS];simp only[cL];rfl
 have hix:Lp.length*4+2<((Lp++Y::Ls).flatMap SM.cells++rest).toArray.size:=by
  have h4:Y.cells.length=4:=rfl;rw[pK];simp only[jM,aQ,eK,h4];omega
 have BS:=B'.bG (Lp.length*4+2) (.slice A' l'.length c');rw[qx,DP]at BS;have sd:∀Z∈Lp++Ls,∀x∈ah Z.v,x∉ah Y.v:=λZ hZ x hx hy=>by
  have hd:=dI.1 h.d
  rcases az.1 hZ with hZ|hZ
  .exact hd.2.2 Z hZ Y (by simp) x hx hy
  .exact(dJ.1 hd.2.1).1 Z hZ x hy hx
 have lt:∀Z∈Lp++Ls,∀x∈ah Z.v,x<w.heap.size:=λZ hZ=>(h.e Z (by rcases az.1 hZ with hZ|hZ<;>simp[hZ])).1.lt;have sn:∀Z∈Lp++Ls,∀x∈ah Z.v,x∉ah (.slice A' l'.length c'):=λZ hZ x hx hy=>by
  rcases f x hy with h3|h3
  .exact sd Z hZ x hx h3
  .have:=lt Z hZ x hx;omega
 have og:ag [g] w' (w'.setCell ⟨g,Lp.length*4+2,none⟩ (.slice A' l'.length c')):=(ag.refl _ _).setCell (by simp) _;have po:∀Z∈Lp++Ls,aK (w'.setCell ⟨g,Lp.length*4+2,none⟩ (.slice A' l'.length c')) 111 3 Z.v Z.s.l.length (aH Z.s.l)/\∀x∈ah Z.v,b<=x:=λZ hZ=>by
  have hz:=h.e Z (by rcases az.1 hZ with hZ|hZ<;>simp[hZ]);have s1:=hz.1.only o (sd Z hZ);exact⟨s1.only og (λx hx hg=>cC s1 B' (by decide) (by rw[<-aP.1 hg];exact hx)),hz.2⟩
 refine⟨⟨⟨?_,?_⟩,λx hx=>h.f x (by simpa [ah]using hx),λZ hZ=>?_,?_⟩,?_,B'.frozen _ hix⟩
 .rw[<-hlen,eK,<-hlen]
 .rw[<-hlen,hm];refine .inr ⟨g,cc,rest,rfl,BS,?_,h2⟩;rw[eK]at h1 ⊢;rw[<-hlen];exact h1
 .rcases az.1 hZ with hZ|hZ
  .exact po Z (bQ _ hZ)
  .rcases ar.1 hZ with rfl|hZ
   .exact⟨S'.only og (λx hx hg=>cC S' B' (by decide) (by rw[<-aP.1 hg];exact hx)),λx hx=>(f x hx).elim (hY.2 x) (λh=>by omega)⟩
   .exact po Z (bF _ hZ)
 .have hd:=dI.1 h.d;rw[dI];refine⟨hd.1,dJ.2 ⟨λZ hZ x hx hy=>sn Z (bF _ hZ) x hy hx,(dJ.1 hd.2.1).2⟩,λZ hZ W hW=>?_⟩
  rcases ar.1 hW with rfl|hW
  .exact sn Z (bQ _ hZ)
  .exact hd.2.2 Z hZ W (bz _ hW)
 .refine B'.ab ?_;rw[pK,cM,cL,dE (by rw[eK];omega),eK,show Lp.length*4+2-Lp.length*4=2 by omega];rfl
end
def fT:Nat->List Step->QS->QS×Int
 |0,_,q=>(q,0)
 |_+1,[],q=>(q,0)
 |m+1,x::up,q=>
  if(q.cK x.aw x.leaf x.l).2≠11\/(cf x.leaf x.l).2=0 then q.cK x.aw x.leaf x.l
  else match up with
   |[]=>(q.cK x.aw x.leaf x.l).1.zC x.leaf (x.l.take (bJ x.l)) (x.l.drop (bJ x.l))
   |y::up=>
    if((q.cK x.aw x.leaf x.l).1.eg x.leaf (x.l.drop (bJ x.l))).2.2≠0 then(((q.cK x.aw x.leaf x.l).1.eg x.leaf (x.l.drop (bJ x.l))).1,((q.cK x.aw x.leaf x.l).1.eg x.leaf (x.l.drop (bJ x.l))).2.2)
    else if(((q.cK x.aw x.leaf x.l).1.eg x.leaf (x.l.drop (bJ x.l))).1.cK x.aw x.leaf (x.l.take (bJ x.l))).2≠0 then((q.cK x.aw x.leaf x.l).1.eg x.leaf (x.l.drop (bJ x.l))).1.cK x.aw x.leaf (x.l.take (bJ x.l))
    else fT m ({y with l:=y.l.insertIdx (y.at_+1) ⟨keyOf (x.l.drop (bJ x.l)),⟨#[]⟩,((q.cK x.aw x.leaf x.l).1.eg x.leaf (x.l.drop (bJ x.l))).2.1⟩}::up)
     (((q.cK x.aw x.leaf x.l).1.eg x.leaf (x.l.drop (bJ x.l))).1.cK x.aw x.leaf (x.l.take (bJ x.l))).1
def GI(l:List E):Prop:=l.length<=90/\∀e∈l,e.key.size<=32/\e.val.size<=40
theorem GJ(h:GI l):Nd.an l<=100000:=by
 obtain⟨h1,h2⟩:=h;have:∀l:List E,(∀e∈l,e.key.size<=32/\e.val.size<=40)->Nd.an l<=79*l.length:=λl h=>by
  induction l with
  |nil=>simp[Nd.an]
  |cons e l ih=>
   have h1:=h e (by simp);have h3:=ih (λx hx=>h x (by simp[hx]));unfold Nd.an at *;simp only[eh,kC,ff];omega
 have:=this l h2;omega
theorem Tg{leaf:Bool}(h:(cf leaf l).2≠0)(h2:(cf leaf l).2≠2)(hl:GI l):2<=l.length:=by
 unfold cf aZ at h h2
 split at h2
 .rename_i hm;rw[if_pos hm]at h
  split at h2
  .rename_i hr;rw[if_pos hr]at h;exact absurd rfl h
  .rename_i hr
   rcases l with _|⟨e,_|⟨e2,r⟩⟩
   .exfalso;apply hr
    cases leaf<;>decide
   .exfalso;apply hr;have hh:=hl.2 e (by simp);rw[Nd.zo];have:Nd.an (blank leaf [e])<=79:=by
     have h0:(⟨#[]⟩:ByteArray).size=0:=rfl
     cases leaf
     .show Nd.an [{e with key:=⟨#[]⟩}]<=79;simp only[Nd.an,eh,mG,kC,List.sum_nil,h0];omega
     .show Nd.an [e]<=79;simp only[Nd.an,eh,mG,kC,List.sum_nil];omega
    omega
   .simp
 .exact absurd rfl h2
def PB(b:Nat)(w w':World)(I:Ix)(F:List Nat)(q:QS)(n K:Nat):Prop:= ∃F' S,PQ w' I F' q n K/\ag S w w'/\(∀g∈S,g∈F\/b<=g)/\∀g∈F',g∈F\/b<=g
def OB(b:Nat)(w W:World)(F F':List Nat):Prop:= ∃S,ag S w W/\(∀g∈S,g∈F\/b<=g)/\∀g∈F',g∈F\/b<=g
theorem OB.refl(b:Nat)(w:World)(F:List Nat):OB b w w F F:=⟨[],ag.refl _ _,by simp,λ_ h=> .inl h⟩
theorem OB.step{F'':List Nat}(h:OB b w W F F')(hb:b<=w.heap.size)(o:ag F' W W')(f:∀g∈F'',g∈F'\/W.heap.size<=g):OB b w W' F F'':=by
 obtain⟨S,a1,a2,a3⟩:=h;refine⟨S++F',(a1.mono (λg hg _=>bQ _ hg)).aN o (λg hg _=>bF _ hg),λg hg=>(az.1 hg).elim (a2 g) (a3 g),λg hg=>(f g hg).elim (a3 g) (λh=> .inr (by have:=a1.size;omega))⟩
theorem OB.own{S:List Nat}(h:OB b w W F F')(o:ag S W W')(f:∀g∈S,b<=g):OB b w W' F F':=by
 obtain⟨T,a1,a2,a3⟩:=h;exact⟨T++S,(a1.mono (λg hg _=>bQ _ hg)).aN o (λg hg _=>bF _ hg),λg hg=>(az.1 hg).elim (a2 g) (λh=> .inr (f g h)),a3⟩
theorem OB.below(h:OB b w W F F')(hb:Below W.heap.size W W'):OB b w W' F F':=h.own (S:=[]) (.ai hb) (by simp)
theorem OB.pb(h:OB b w W F F')(P:PQ W I F' q n K):PB b w W I F q n K:=by
 obtain⟨S,a1,a2,a3⟩:=h;exact⟨F',S,P,a1,a2,a3⟩
theorem OB.size(h:OB b w W F F'):w.heap.size<=W.heap.size:=by
 obtain⟨S,a1,_⟩:=h;exact a1.size
theorem OB.trans(h:OB b w W F F')(p:PB b W W' I F' q n K):PB b w W' I F q n K:=by
 obtain⟨S,a1,a2,a3⟩:=h;obtain⟨F2,S2,P,b1,b2,b3⟩:=p;refine⟨F2,S++S2,P,(a1.mono (λg hg _=>bQ _ hg)).aN b1 (λg hg _=>bF _ hg),λg hg=>(az.1 hg).elim (a2 g) (λh=>(b2 g h).elim (a3 g) .inr),λg hg=>(b3 g hg).elim (a3 g) .inr⟩
theorem PB.le{K':Nat}(h:PB b w W I F q n K)(hk:K<=K'):PB b w W I F q n K':=by
 obtain⟨F',S,P,r⟩:=h;exact⟨F',S,P.le hk,r⟩
structure Fit(s:Step):Prop where
 l:GI s.l
 n:s.l.length<=80
 a:s.at_<s.l.length
theorem jA:∀(m:Nat) {w:World} {tb:Nat} {I:Ix} {F:List Nat} {q:QS} {n Kz b:Nat} {v:Value} {L:List SM} (pre:List Step) (x:Step),pre.length+1<=m->TQ w tb I F q n Kz->Kz+4*m<=999999999900->aM w b v L->b<=w.heap.size->L.map SM.s=pre++[x]->(∀s∈pre,Fit s)->GI x.l->pre.length<=16->
  Calls prog 75 #[tp tb,v] w λe w'=>e=.returned (.int .i64 (fT m (x::pre.reverse) q).2)/\PB b w w' I F (fT m (x::pre.reverse) q).1 n (Kz+4*m)
 |0,_,_,_,_,_,_,_,_,_,_,_,_,h,_,_,_,_,_,_,_,_=>absurd h (by omega)
 |m+1,w,tb,I,F,q,n,Kz,b,v,L,pre,x,hpm,h,Th,SA,hb,nH,rn,hlx,hp16=>by
  obtain⟨Lp,A,c,g,cc,hL,lk,rfl,hbg,Ea,uj,gK,Qo,S1,f1⟩:=SA.last nH;have HL:=xh hL;have S1:=xh S1;have HK:=xh Th;have D7:w.cell? ⟨g,pre.length*4,none⟩=some (.int .i64 x.aw):=gK 0 (by omega);have hx1:w.cell? ⟨g,pre.length*4+1,none⟩=some (.bool x.leaf):=gK 1 (by omega);have hx2:w.cell? ⟨g,pre.length*4+2,none⟩=some (.slice A x.l.length c):=gK 2 (by omega);have hx3:w.cell? ⟨g,pre.length*4+3,none⟩=some (.int .i64 (x.at_:Nat)):=gK 3 (by omega)
  have s1:IntKind.i64.wrap (((pre.length+1:Nat):Int)-1)=(pre.length:Int):=by rw[show((pre.length+1:Nat):Int)-1=(pre.length:Int) by omega];exact IntWalk.i64_in _ (by omega)
  have s2:(pre.length:Int)<((pre.length+1:Nat):Int):=by omega
  have gu:=ae (Below.refl w.heap.size w) (.cells #[.int .i64 x.aw,.bool x.leaf,.slice A x.l.length c,.int .i64 (x.at_:Nat)] 120);have BS:=xh (aE.new w 120 #[.int .i64 x.aw,.bool x.leaf,.slice A x.l.length c,.int .i64 (x.at_:Nat)]);have y0:=BS.o.ab (i:=0) rfl;have y1:=BS.o.ab (i:=1) rfl;have y2:=BS.o.ab (i:=2) rfl
  have H1:=xh (show TQ _ tb I F q n Kz/\aM _ b (.slice (some ⟨g,0,none⟩) (pre.length+1) cc) L/\aK _ 111 3 (.slice A x.l.length c) x.l.length (aH x.l)/\OB b w _ F F from⟨h.below gu,SA.below gu,S1.o.below gu,(OB.refl b w F).below gu⟩)
  have KW:=xh (λ(W:World) (F':List Nat) (qj:QS) (Kj:Nat) (hW:TQ W tb I F' qj n Kj) (hk:Kj<=999999999900) (A:Option Addr) (mm c:Nat) (l:List E) (S:aK W 111 3 (.slice A mm c) mm (aH l)) (hm:mm<=1000)=>oL hW (by omega) x.aw x.leaf A mm c l S hm);have oK:=xh rn;have HPM:=xh hpm;have su:=xh hp16;have HPRE:=xh lk;have HLX:=xh hlx;have mC:=hlx.1;obtain⟨RR,bC⟩:∃RR,fT (m+1) (x::pre.reverse) q=RR:=⟨_,rfl⟩;rw[bC];unfold fT at bC
  have eG:=xh bC;clear bC h SA nH rn lk hlx gK Qo f1 hL gu;have K1:=xh (KW.o _ F q Kz H1.o.1 (by omega) A x.l.length c x.l H1.o.2.2.1 (by omega));have hwr:(q.cK x.aw x.leaf x.l).2=11->(cf x.leaf x.l).2≠0->2<=x.l.length:=λh1 h2=>Tg h2 (λh3=>by unfold QS.cK at h1;rw[if_pos h2,h3]at h1;exact absurd h1 (by show(2:Int)≠11;decide)) HLX.o;generalize q.cK x.aw x.leaf x.l=R at *;obtain⟨q1,e1⟩:=R;dsimp only at *;have HWR:=xh hwr
  clear hwr;unfold tp bt at *;go_enter func75,ntmps75;go_wp2_with fail;refine K1.o.mono ?_;rintro e w2 ⟨rfl,P2,o2⟩;have B2:=xh (BS.o.only o2 (H1.o.1.2.fR BS.o));have H2:=xh (show TQ w2 tb I F q1 n (Kz+1)/\aM w2 b (.slice (some ⟨g,0,none⟩) (pre.length+1) cc) L/\aK w2 111 3 (.slice A x.l.length c) x.l.length (aH x.l)/\OB b w w2 F F from
   ⟨H1.o.1.next o2 P2,H1.o.2.1.tV H1.o.1.2 o2,PT.ML (.self P2 o2) H1.o.1.2 H1.o.2.2.1,H1.o.2.2.2.step hb o2 (λg hg=> .inl hg)⟩)
  clear P2 o2 y0 y1 y2 D7 hx1 hx2 hx3;have z0:=B2.o.ab (i:=0) rfl;have z1:=B2.o.ab (i:=1) rfl;have z2:=B2.o.ab (i:=2) rfl
  by_cases he:e1=11
  .subst he;obtain⟨bb,wY⟩:∃bb,bb=decide ((cf x.leaf x.l).2=0):=⟨_,rfl⟩;have KF:=xh (On (w:=w2) x.leaf A x.l.length c x.l H2.o.2.2.1 (by omega) bb wY);unfold bt at KF;have HBB:=xh wY;clear wY;go_wp2_with fail;refine KF.o.mono ?_;rintro e w3 ⟨rfl,cZ⟩;have B3:=xh (B2.o.below cZ B2.o.lt)
   have H3:=xh (show TQ w3 tb I F q1 n (Kz+1)/\aM w3 b (.slice (some ⟨g,0,none⟩) (pre.length+1) cc) L/\aK w3 111 3 (.slice A x.l.length c) x.l.length (aH x.l)/\OB b w w3 F F from⟨H2.o.1.below cZ,H2.o.2.1.below cZ,H2.o.2.2.1.below cZ,H2.o.2.2.2.below cZ⟩);clear cZ z0 z1 z2;have z0:=B3.o.ab (i:=0) rfl;have z1:=B3.o.ab (i:=1) rfl;have z2:=B3.o.ab (i:=2) rfl
   cases bb
   .have pK:(cf x.leaf x.l).2≠0:=by have:=HBB.o;simpa using this.symm
    have h2l:=HWR.o (by trivial) pK;have HLT3:=xh (show ∀Z∈L,∀g∈ah Z.v,g<w3.heap.size from λZ hZ=>(H3.o.2.1.e Z hZ).1.lt);have KH:=xh (Nd.J1 (w:=w3) x.leaf A x.l.length c x.l H3.o.2.2.1 h2l (by omega) (GJ HLX.o));unfold bt at KH;have bC:=eG.o;rw[if_neg (by simp[pK])]at bC;have eG:=xh bC;clear bC HWR;go_wp2_with fail;refine KH.o.mono ?_;rintro e w4 ⟨⟨t,A1,c1,A2,c2,rfl,LV,SL1,SL2,DW⟩,eM⟩;obtain rfl:bJ x.l=t:=Nd.LS LV
    have HF2:=xh DW;clear DW;have gE:1<=bJ x.l/\bJ x.l<x.l.length:=⟨LV.1,LV.2.1⟩;clear LV;have gu:=ae (ae (Below.refl w4.heap.size w4) (.cells #[.bool x.leaf,.slice A1 (bJ x.l) c1] 118)) (.cells #[.bool x.leaf,.slice A2 (x.l.length-bJ x.l) c2] 118);have mD:=au eM gu;have BA:=xh ((aE.new w4 118 #[.bool x.leaf,.slice A1 (bJ x.l) c1]).alloc (.cells #[.bool x.leaf,.slice A2 (x.l.length-bJ x.l) c2] 118))
    have bB:=aE.new (w4.alloc (.cells #[.bool x.leaf,.slice A1 (bJ x.l) c1] 118)) 118 #[.bool x.leaf,.slice A2 (x.l.length-bJ x.l) c2];rw[eJ]at bB;have BB:=xh bB;have B5:=xh (B3.o.below mD B3.o.lt)
    have H5:=xh (show TQ _ tb I F q1 n (Kz+1)/\aM _ b (.slice (some ⟨g,0,none⟩) (pre.length+1) cc) L/\OB b w _ F F/\aK _ 111 3 (.slice A1 (bJ x.l) c1) (bJ x.l) (aH (x.l.take (bJ x.l)))/\aK _ 111 3 (.slice A2 (x.l.length-bJ x.l) c2) (x.l.length-bJ x.l) (aH (x.l.drop (bJ x.l)))from
     ⟨H3.o.1.below mD,H3.o.2.1.below mD,H3.o.2.2.2.below mD,SL1.below gu,SL2.below gu⟩)
    have u0:=BA.o.ab (i:=0) rfl;have u1:=BA.o.ab (i:=1) rfl;have v0:=BB.o.ab (i:=0) rfl;have v1:=BB.o.ab (i:=1) rfl;clear z0 z1 z2 bB eM mD gu SL1 SL2 H3 B3;generalize bJ x.l=hf at *
    rcases rO pre with rfl|⟨dG,y,hpe⟩
    .have KG:=xh (Ot H5.o.1 (by omega) x.leaf A1 hf c1 (x.l.take hf) H5.o.2.2.2.1 A2 (x.l.length-hf) c2 (x.l.drop hf) H5.o.2.2.2.2 (by omega) (by omega) (by omega));have bC:=eG.o;dsimp only[List.reverse_nil]at bC;rw[bC]at KG;unfold bt at KG;clear bC;go_wp2_with fail;refine KG.o.mono ?_;rintro e w6 ⟨rfl,P6⟩;have P6:=xh P6;clear u0 u1 v0 v1;go_wp2_with fail;go_ret;refine⟨by first|rfl|simp,?_⟩;obtain⟨F6,P,o,f⟩:=P6.o
     exact((H5.o.2.2.1.step hb o f).pb P).le (by omega)
    .obtain rfl:pre=dG++[y]:=by simpa using hpe
     clear hpe;have Dy:(dG++[y]).length=dG.length+1:=by simp
     have hne1:¬(((dG.length+1+1:Nat):Int)=1):=by omega
     have KM:=xh (vp H5.o.1 (by omega) x.leaf A2 (x.l.length-hf) c2 (x.l.drop hf) H5.o.2.2.2.2 (by omega));have bC:=eG.o;rw[List.reverse_append,List.reverse_singleton,qy]at bC;dsimp only at bC;generalize q1.eg x.leaf (x.l.drop hf)=R2 at *;obtain⟨q2,l2,e2⟩:=R2;dsimp only at *;have eG:=xh bC;unfold bt at KM;clear bC;go_wp2_with fail;refine KM.o.mono ?_;rintro e w6 ⟨rfl,P6⟩;have SA6:=P6.ML H5.o.1.2 H5.o.2.2.2.1
     have SB6:=P6.ML H5.o.1.2 H5.o.2.2.2.2;obtain⟨F6,T6,o6,f6⟩:=P6.tq H5.o.1;have A6:=xh (BA.o.only o6 (H5.o.1.2.fR BA.o));have B6:=xh (BB.o.only o6 (H5.o.1.2.fR BB.o));have D6:=xh (B5.o.only o6 (H5.o.1.2.fR B5.o))
     have H6:=xh (show TQ w6 tb I F6 q2 n (Kz+2)/\aM w6 b (.slice (some ⟨g,0,none⟩) ((dG++[y]).length+1) cc) L/\OB b w w6 F F6/\aK w6 111 3 (.slice A1 hf c1) hf (aH (x.l.take hf))/\aK w6 111 3 (.slice A2 (x.l.length-hf) c2) (x.l.length-hf) (aH (x.l.drop hf))from
      ⟨T6,H5.o.2.1.tV H5.o.1.2 o6,H5.o.2.2.1.step hb o6 f6,SA6,SB6⟩)
     clear P6 SA6 SB6 T6 o6 f6 u0 u1 v0 v1 BA BB B5
     by_cases wC:e2=0
     .subst wC;have bC:=eG.o;rw[if_neg (by simp)]at bC;have K7:=xh (KW.o w6 F6 q2 (Kz+2) H6.o.1 (by omega) A1 hf c1 (x.l.take hf) H6.o.2.2.2.1 (by omega));generalize q2.cK x.aw x.leaf (x.l.take hf)=R3 at *;obtain⟨q3,e3⟩:=R3;dsimp only at *;have eG:=xh bC;have z0:=D6.o.ab (i:=0) rfl;have u0:=A6.o.ab (i:=0) rfl;have u1:=A6.o.ab (i:=1) rfl;clear bC;go_wp2_with fail;refine K7.o.mono ?_;rintro e w7 ⟨rfl,P7,o7⟩
      have B7:=xh (B6.o.only o7 (H6.o.1.2.fR B6.o));have H7:=xh (show TQ w7 tb I F6 q3 n (Kz+3)/\aM w7 b (.slice (some ⟨g,0,none⟩) ((dG++[y]).length+1) cc) L/\OB b w w7 F F6/\aK w7 111 3 (.slice A2 (x.l.length-hf) c2) (x.l.length-hf) (aH (x.l.drop hf))from
       ⟨H6.o.1.next o7 P7,H6.o.2.1.tV H6.o.1.2 o7,H6.o.2.2.1.step hb o7 (λg hg=> .inl hg),PT.ML (.self P7 o7) H6.o.1.2 H6.o.2.2.2.2⟩)
      clear P7 o7 z0 u0 u1 A6 B6 D6
      by_cases J7:e3=0
      .subst J7;obtain⟨sP,AY,cY,rfl,J8⟩:∃sP AY cY,Lp=sP++[(⟨y,AY,cY⟩:SM)]/\sP.map SM.s=dG:=by
        have:=HPRE.o
        rcases rO Lp with h0|⟨sP,Y,h0⟩
        .rw[h0]at this;simp at this
        .have h0:Lp=sP++[Y]:=by simpa using h0
         rw[h0,cW]at this;obtain⟨a1,a2⟩:=Iq this rfl;obtain⟨ys,AY,cY⟩:=Y;simp at a2;subst a2;exact⟨sP,AY,cY,h0,a1⟩
       have hLL:sP.length=dG.length:=by rw[<-J8,fM]
       have rG:=xh hLL;have Ti:=xh J8;have hHL:=HL.o;rw[cL,qy]at hHL;have hfy:=oK.o y (by simp);have hya:=hfy.a;have hyn:=hfy.n;have HFY:=xh hfy;obtain⟨eb,rb,Gb⟩:∃eb rb,x.l.drop hf=eb::rb:=by
        cases hd:x.l.drop hf with
        |nil=>have:=congrArg List.length hd;rw[de]at this;simp at this;omega
        |cons e r=>exact⟨e,r,rfl⟩
       obtain⟨g2,DS,Tf,pk,BB2,_,_⟩:=H7.o.2.2.2.form (by omega) (by omega);simp only[Value.slice.injEq,true_and]at pk;obtain⟨rfl,rfl⟩:=pk;rw[Gb]at BB2;have bC:=eG.o;rw[if_neg (by simp),Gb]at bC;have eG:=xh bC
       have H8:=xh (show TQ w7.drew tb I F6 q3 n (Kz+3)/\aM w7.drew b (.slice (some ⟨g,0,none⟩) ((dG++[y]).length+1) cc) (sP++⟨y,AY,cY⟩::[⟨x,A,c⟩])/\OB b w w7.drew F F6/\aE w7.drew (w4.heap.size+1) 118 #[.bool x.leaf,.slice (some ⟨g2,0,none⟩) (x.l.length-hf) c2]/\aE w7.drew g2 111 (aH (eb::rb)++Tf).toArray from
        ⟨H7.o.1.drew,by have:=H7.o.2.1;rw[hHL]at this;exact this.below (Below.refl _ _).drew,H7.o.2.2.1.below (Below.refl _ _).drew,B7.o.drew,BB2.drew⟩)
       have HB8:=xh (show b<=w7.drew.heap.size from by have:=H7.o.2.2.1.size;show b<=w7.heap.size;omega);have HNY:=xh (show g2∉ah (.slice AY y.l.length cY)from λhm=>by have h1:=HF2.o g2 (by simp[ah]);have h2:=HLT3.o ⟨y,AY,cY⟩ (by rw[hHL];simp) g2 hm;omega);generalize w4.heap.size+1=gB at *;have s3:IntKind.i64.wrap (((dG.length+1+1:Nat):Int)-2)=(dG.length:Int):=by rw[show((dG.length+1+1:Nat):Int)-2=(dG.length:Int) by omega];exact IntWalk.i64_in _ (by omega)
       have s4:(dG.length:Int)<((dG.length+1+1:Nat):Int):=by omega
       have s5:IntKind.i64.wrap ((y.at_:Int)+1)=((y.at_+1:Nat):Int):=by rw[show(y.at_:Int)+1=((y.at_+1:Nat):Int) by omega];exact IntWalk.i64_in _ (by omega)
       have s7:0<x.l.length-hf:=by omega
       have s6:(0:Int)<((x.l.length-hf:Nat):Int):=by omega
       have HDR:=xh Gb;clear BB2 Gb bC H7 hHL J8 hLL hfy;go_wp2_with fail;obtain⟨w8,AV⟩:∃w8,w7.drew=w8:=⟨_,rfl⟩;rw[AV]at H8 HB8;have HS:=xh (show ∀W,Below w8.heap.size w8 W->(λW=>W.cell? ⟨g,dG.length*4+3,none⟩=some (.int .i64 (y.at_:Nat))/\W.cell? ⟨gB,1,none⟩=some (.slice (some ⟨g2,0,none⟩) (x.l.length-hf) c2)/\W.cell? ⟨g2,0,none⟩=some (.string eb.key)) W from λW hb=>by
        have h1:=(H8.o.2.1.below hb).cell (k:=sP.length) (Z:=⟨y,AY,cY⟩) (by rw[dE (aj _),eU];rfl) 3 (by omega);rw[rG.o]at h1;exact⟨h1,(H8.o.2.2.2.1.below hb H8.o.2.2.2.1.lt).ab (i:=1) rfl,(H8.o.2.2.2.2.below hb H8.o.2.2.2.2.lt).ab (i:=0) rfl⟩)
       have Ou:=xh (HS.o w8 (Below.refl _ _));have x8:w8.cell? ⟨g,dG.length*4+2,none⟩=some (.slice AY y.l.length cY):=by
        have h1:=H8.o.2.1.cell (k:=sP.length) (Z:=⟨y,AY,cY⟩) (by rw[dE (aj _),eU];rfl) 2 (by omega);rw[rG.o]at h1;exact h1
       obtain⟨w9,Tj⟩:∃w9,w8.alloc (.cells #[.string eb.key,.string ⟨#[]⟩,.int .i64 l2] 111)=w9:=⟨_,rfl⟩;have iW:Below w8.heap.size w8 w9:=by rw[<-Tj];exact ae (Below.refl _ _) _
       have BN9:aE w9 w8.heap.size 111 #[.string eb.key,.string ⟨#[]⟩,.int .i64 l2]:=by rw[<-Tj];exact aE.new _ _ _
       have BZ9:w9.frozen? ⟨w8.heap.size,3,none⟩=false:=by rw[<-Tj];exact World.frozen?_alloc_at (w:=w8) _ _ w8.heap.size 3 rfl
       have LX:=xh (HS.o w9 iW);have x9:w9.cell? ⟨g,dG.length*4+2,none⟩=some (.slice AY y.l.length cY):=(iW.cell (p:=⟨g,dG.length*4+2,none⟩) (dN x8)).trans x8;have H9:=xh (show TQ w9 tb I F6 q3 n (Kz+3)/\aM w9 b (.slice (some ⟨g,0,none⟩) ((dG++[y]).length+1) cc) (sP++⟨y,AY,cY⟩::[⟨x,A,c⟩])/\OB b w w9 F F6/\aE w9 gB 118 #[.bool x.leaf,.slice (some ⟨g2,0,none⟩) (x.l.length-hf) c2]/\aE w9 g2 111 (aH (eb::rb)++Tf).toArray from
        ⟨H8.o.1.below iW,H8.o.2.1.below iW,H8.o.2.2.1.below iW,H8.o.2.2.2.1.below iW H8.o.2.2.2.1.lt,H8.o.2.2.2.2.below iW H8.o.2.2.2.2.lt⟩)
       have HB9:=xh (show b<=w9.heap.size from ay HB8.o iW.size);have wD:=xh (show(y.l.insertIdx (y.at_+1) (⟨eb.key,⟨#[]⟩,l2⟩:E)).length=y.l.length+1 from by rw[yc,if_pos (by omega)]);have SY:=H9.o.2.1.e ⟨y,AY,cY⟩ (by simp)
       have KI:=xh (Nd.pX (w:=w9) SY.1 ⟨eb.key,⟨#[]⟩,l2⟩ (g2:=w8.heap.size) (cc:=1) BN9 (show y.l.length<=100000 by omega) (λhm=>by have:=(H8.o.2.1.e ⟨y,AY,cY⟩ (by simp)).1.lt _ hm;omega) (y.at_+1) (show y.at_+1<=y.l.length by omega) BZ9)
       have vU:=xh (show ∀W,ag (ah (.slice AY y.l.length cY)) w9 W->(λW=>W.cell? ⟨g,dG.length*4+3,none⟩=some (.int .i64 (y.at_:Nat))/\W.cell? ⟨gB,1,none⟩=some (.slice (some ⟨g2,0,none⟩) (x.l.length-hf) c2)/\W.cell? ⟨g2,0,none⟩=some (.string eb.key)) W from λW o=>by
        have hgY:g∉ah (.slice AY y.l.length cY):=λhm=>gP SY.1 H9.o.2.1.s (by decide) g hm (by simp[ah]);obtain⟨k1,k2,k3⟩:=LX.o;exact⟨(o.cell (p:=⟨g,dG.length*4+3,none⟩) (dN k1) hgY).trans k1,(H9.o.2.2.2.1.only o (cC SY.1 H9.o.2.2.2.1 (by decide))).ab (i:=1) rfl,(H9.o.2.2.2.2.only o HNY.o).ab (i:=0) rfl⟩)
       clear SY BN9 BZ9 iW;refine wp_region_held_drew (S:=λW=>W.cell? ⟨g,dG.length*4+3,none⟩=some (.int .i64 (y.at_:Nat))/\W.cell? ⟨gB,1,none⟩=some (.slice (some ⟨g2,0,none⟩) (x.l.length-hf) c2)/\W.cell? ⟨g2,0,none⟩=some (.string eb.key)) (by kernel_rfl) (by rw[AV];exact Ou.o) (λaq=>?_);rw[AV];clear AV;refine cV [(0,67),(1,68),(2,69),(3,70),(4,71),(6,73),(7,74),(8,75),(9,76),(10,77),(11,78),(12,79),(13,80),(14,81),(15,82),(16,83),(17,84)] ?_
       iterate 17 refine bj ?_
       refine wpAnyH_ready (rs:=[5,18]) (by kernel_rfl) (by simp) ?_;refine AllReadyH.cons (o:=⟨some 72,_,_,_,_,_⟩) rfl (λK hK=>?_) (AllReadyH.cons (o:=⟨some 85,_,_,_,_,_⟩) rfl (λK hK=>?_) AllReadyH.nil)
       .skip
        go_simp;refine aW hK (Ou.o) (λaq=>?_);refine dn 18 85 λK hK=>?_;go_simp;refine aW hK (LX.o) (λaq=>?_);refine dn 19 86 λK hK=>?_;go_simp
        go_at_call 74
        refine KI.o.mono ?_;rintro e jI ⟨A',c',rfl,tQ,m8,f10⟩;have tQ:=xh tQ;have m8:=xh m8;have f10:=xh f10;have zD:=xh (vU.o jI m8.o);go_simp;refine aW hK (zD.o) (λaq=>?_);refine cV [(20,87),(21,88),(22,89)] ?_
        iterate 3 refine bj ?_
        refine mW 23 λK hK=>?_;go_simp;obtain⟨SP,sx,sz⟩:=H9.o.2.1.put (y.l.insertIdx (y.at_+1) ⟨eb.key,⟨#[]⟩,l2⟩) (A':=A') (c':=c') (by rw[wD.o];exact tQ.o) m8.o (by rw[wD.o];exact f10.o) HB9.o;rw[rG.o]at SP sx sz;rw[wD.o]at SP;have SP:=xh SP;have sx:jI.cell? ⟨g,dG.length*4+2,none⟩=some (.slice AY y.l.length cY):=sx
        have rz:=xh (show ag (g::ah (.slice AY y.l.length cY)) w9 (jI.setCell ⟨g,dG.length*4+2,none⟩ (.slice A' (y.l.length+1) c'))from(m8.o.mono (λx hx _=>bz _ hx)).setCell (by simp) _);have Ov:=(H9.o.2.1.e ⟨y,AY,cY⟩ (by simp)).1;have J9:=SP.o.cell (k:=sP.length) (Z:=⟨{y with l:=y.l.insertIdx (y.at_+1) ⟨eb.key,⟨#[]⟩,l2⟩},A',c'⟩) (by rw[dE (aj _),eU];rfl) 3 (by omega);rw[rG.o]at J9
        have vx:=xh (And.intro J9 (And.intro (((H9.o.2.2.2.1.only m8.o (cC Ov H9.o.2.2.2.1 (by decide))).aU (p:=⟨g,dG.length*4+2,none⟩) (λe=>cC H9.o.2.1.s H9.o.2.2.2.1 (by decide) (by simp[ah];exact e)) (.slice A' (y.l.length+1) c')).ab (i:=1) rfl) (((H9.o.2.2.2.2.only m8.o HNY.o).aU (p:=⟨g,dG.length*4+2,none⟩) (λe=>cC H9.o.2.1.s H9.o.2.2.2.2 (by decide) (by simp[ah];exact e)) (.slice A' (y.l.length+1) c')).ab (i:=0) rfl)))
        clear Ov J9;go_simp;refine aW hK (vx.o) (λaq=>?_);refine wpAnyH_done (by kernel_rfl) ?_ _;go_wp2_with fail;have hT:TQ (jI.setCell ⟨g,dG.length*4+1+1,none⟩ (.slice A' (y.l.length+1) c')) tb I F6 q3 n (Kz+3):=by
         have jV:=H9.o.2.1.off H9.o.1.2;have sy:=H9.o.2.1.tree H9.o.1.1;exact H9.o.1.only rz.o (λz hz hm=>by
          rcases ar.1 hz with h1|h1<;>rcases ar.1 hm with h2|h2
          .exact sy.1 (by rw[<-h1,h2];simp[ah])
          .exact sy.2 ⟨y,AY,cY⟩ (by simp) (by rw[<-h1];exact h2)
          .exact jV.1 z (by rw[h2];simp[ah]) h1
          .exact jV.2 ⟨y,AY,cY⟩ (by simp) z h2 h1)
        have hO:OB b w (jI.setCell ⟨g,dG.length*4+1+1,none⟩ (.slice A' (y.l.length+1) c')) F F6:=H9.o.2.2.1.own rz.o (λz hz=>by
         rcases ar.1 hz with h2|h2
         .rw[h2];exact H9.o.2.1.f g (by simp[ah])
         .exact(H9.o.2.1.e ⟨y,AY,cY⟩ (by simp)).2 z h2)
        have GK:b<=(jI.setCell ⟨g,dG.length*4+1+1,none⟩ (.slice A' (y.l.length+1) c')).heap.size:=ay HB9.o rz.o.size;have SQ:aM (jI.setCell ⟨g,dG.length*4+1+1,none⟩ (.slice A' (y.l.length+1) c')) b (.slice (some ⟨g,0,none⟩) (dG.length+1) cc) (sP++[(⟨{y with l:=y.l.insertIdx (y.at_+1) ⟨eb.key,⟨#[]⟩,l2⟩},A',c'⟩:SM)]):=by
         have h2:=aM.pop (L:=sP++[(⟨{y with l:=y.l.insertIdx (y.at_+1) ⟨eb.key,⟨#[]⟩,l2⟩},A',c'⟩:SM)]) (X:=⟨x,A,c⟩) (by rw[cL,qy];exact SP.o);rw[aQ,mE,rG.o]at h2;exact h2
        have tW:=eG.o;subst tW;have hLX:=HLX.o;have Tk:eb∈x.l:=sS (i:=hf) (by rw[HDR.o];simp);have KR:=jA m dG {y with l:=y.l.insertIdx (y.at_+1) ⟨eb.key,⟨#[]⟩,l2⟩} (by have:=HPM.o;rw[aQ,mE]at this;omega) hT (by have:=HK.o;omega) SQ GK (by rw[cW,Ti.o];rfl) (λs hs=>oK.o s (by simp[hs]))
         ⟨by have:=HFY.o.n;show(y.l.insertIdx (y.at_+1) _).length<=90;rw[wD.o];omega,λe he=>by
          rcases(qu (by omega)).1 he with rfl|he
          .exact⟨(hLX.2 eb Tk).1,by show(⟨#[]⟩:ByteArray).size<=40;decide⟩
          .exact HFY.o.l.2 e he⟩ (by have:=su.o;rw[aQ,mE]at this;omega)
        refine KR.mono ?_;rintro e Ep ⟨rfl,zE⟩;have zE:=xh zE;have HO:=xh hO;clear hT hO GK SQ hLX Tk KR;go_wp2_with fail;go_ret;exact⟨by first|rfl|simp[keyOf],(HO.o.trans zE.o).le (by omega)⟩
       .skip
        go_simp;refine aW hK (LX.o) (λaq=>?_);refine dn 5 72 λK hK=>?_;go_simp;refine aW hK (LX.o) (λaq=>?_);refine dn 19 86 λK hK=>?_;go_simp
        go_at_call 74
        refine KI.o.mono ?_;rintro e jI ⟨A',c',rfl,tQ,m8,f10⟩;have tQ:=xh tQ;have m8:=xh m8;have f10:=xh f10;have zD:=xh (vU.o jI m8.o);go_simp;refine aW hK (zD.o) (λaq=>?_);refine cV [(20,87),(21,88),(22,89)] ?_
        iterate 3 refine bj ?_
        refine mW 23 λK hK=>?_;go_simp;obtain⟨SP,sx,sz⟩:=H9.o.2.1.put (y.l.insertIdx (y.at_+1) ⟨eb.key,⟨#[]⟩,l2⟩) (A':=A') (c':=c') (by rw[wD.o];exact tQ.o) m8.o (by rw[wD.o];exact f10.o) HB9.o;rw[rG.o]at SP sx sz;rw[wD.o]at SP;have SP:=xh SP;have sx:jI.cell? ⟨g,dG.length*4+2,none⟩=some (.slice AY y.l.length cY):=sx
        have rz:=xh (show ag (g::ah (.slice AY y.l.length cY)) w9 (jI.setCell ⟨g,dG.length*4+2,none⟩ (.slice A' (y.l.length+1) c'))from(m8.o.mono (λx hx _=>bz _ hx)).setCell (by simp) _);have Ov:=(H9.o.2.1.e ⟨y,AY,cY⟩ (by simp)).1;have J9:=SP.o.cell (k:=sP.length) (Z:=⟨{y with l:=y.l.insertIdx (y.at_+1) ⟨eb.key,⟨#[]⟩,l2⟩},A',c'⟩) (by rw[dE (aj _),eU];rfl) 3 (by omega);rw[rG.o]at J9
        have vx:=xh (And.intro J9 (And.intro (((H9.o.2.2.2.1.only m8.o (cC Ov H9.o.2.2.2.1 (by decide))).aU (p:=⟨g,dG.length*4+2,none⟩) (λe=>cC H9.o.2.1.s H9.o.2.2.2.1 (by decide) (by simp[ah];exact e)) (.slice A' (y.l.length+1) c')).ab (i:=1) rfl) (((H9.o.2.2.2.2.only m8.o HNY.o).aU (p:=⟨g,dG.length*4+2,none⟩) (λe=>cC H9.o.2.1.s H9.o.2.2.2.2 (by decide) (by simp[ah];exact e)) (.slice A' (y.l.length+1) c')).ab (i:=0) rfl)))
        clear Ov J9;go_simp;refine aW hK (vx.o) (λaq=>?_);refine wpAnyH_done (by kernel_rfl) ?_ _;go_wp2_with fail;have hT:TQ (jI.setCell ⟨g,dG.length*4+1+1,none⟩ (.slice A' (y.l.length+1) c')) tb I F6 q3 n (Kz+3):=by
         have jV:=H9.o.2.1.off H9.o.1.2;have sy:=H9.o.2.1.tree H9.o.1.1;exact H9.o.1.only rz.o (λz hz hm=>by
          rcases ar.1 hz with h1|h1<;>rcases ar.1 hm with h2|h2
          .exact sy.1 (by rw[<-h1,h2];simp[ah])
          .exact sy.2 ⟨y,AY,cY⟩ (by simp) (by rw[<-h1];exact h2)
          .exact jV.1 z (by rw[h2];simp[ah]) h1
          .exact jV.2 ⟨y,AY,cY⟩ (by simp) z h2 h1)
        have hO:OB b w (jI.setCell ⟨g,dG.length*4+1+1,none⟩ (.slice A' (y.l.length+1) c')) F F6:=H9.o.2.2.1.own rz.o (λz hz=>by
         rcases ar.1 hz with h2|h2
         .rw[h2];exact H9.o.2.1.f g (by simp[ah])
         .exact(H9.o.2.1.e ⟨y,AY,cY⟩ (by simp)).2 z h2)
        have GK:b<=(jI.setCell ⟨g,dG.length*4+1+1,none⟩ (.slice A' (y.l.length+1) c')).heap.size:=ay HB9.o rz.o.size;have SQ:aM (jI.setCell ⟨g,dG.length*4+1+1,none⟩ (.slice A' (y.l.length+1) c')) b (.slice (some ⟨g,0,none⟩) (dG.length+1) cc) (sP++[(⟨{y with l:=y.l.insertIdx (y.at_+1) ⟨eb.key,⟨#[]⟩,l2⟩},A',c'⟩:SM)]):=by
         have h2:=aM.pop (L:=sP++[(⟨{y with l:=y.l.insertIdx (y.at_+1) ⟨eb.key,⟨#[]⟩,l2⟩},A',c'⟩:SM)]) (X:=⟨x,A,c⟩) (by rw[cL,qy];exact SP.o);rw[aQ,mE,rG.o]at h2;exact h2
        have tW:=eG.o;subst tW;have hLX:=HLX.o;have Tk:eb∈x.l:=sS (i:=hf) (by rw[HDR.o];simp);have KR:=jA m dG {y with l:=y.l.insertIdx (y.at_+1) ⟨eb.key,⟨#[]⟩,l2⟩} (by have:=HPM.o;rw[aQ,mE]at this;omega) hT (by have:=HK.o;omega) SQ GK (by rw[cW,Ti.o];rfl) (λs hs=>oK.o s (by simp[hs]))
         ⟨by have:=HFY.o.n;show(y.l.insertIdx (y.at_+1) _).length<=90;rw[wD.o];omega,λe he=>by
          rcases(qu (by omega)).1 he with rfl|he
          .exact⟨(hLX.2 eb Tk).1,by show(⟨#[]⟩:ByteArray).size<=40;decide⟩
          .exact HFY.o.l.2 e he⟩ (by have:=su.o;rw[aQ,mE]at this;omega)
        refine KR.mono ?_;rintro e Ep ⟨rfl,zE⟩;have zE:=xh zE;have HO:=xh hO;clear hT hO GK SQ hLX Tk KR;go_wp2_with fail;go_ret;exact⟨by first|rfl|simp[keyOf],(HO.o.trans zE.o).le (by omega)⟩
      .have bC:=eG.o;rw[if_pos J7]at bC;subst bC;have hq:(e3 != 0)=true:=by rw[bne_iff_ne];exact J7
       have ki:(e3==0)=false:=by rw[beq_eq_false_iff_ne];exact J7
       go_wp2_with fail;go_ret;exact aC ((H7.o.2.2.1.pb H7.o.1.2).le (by omega))
     .have bC:=eG.o;rw[if_pos wC]at bC;subst bC;have hq:(e2 != 0)=true:=by rw[bne_iff_ne];exact wC
      have ki:(e2==0)=false:=by rw[beq_eq_false_iff_ne];exact wC
      go_wp2_with fail;go_ret;exact aC ((H6.o.2.2.1.pb H6.o.1.2).le (by omega))
   .have pK:(cf x.leaf x.l).2=0:=by have:=HBB.o;simpa using this.symm
    have bC:=eG.o;rw[if_pos (.inr pK)]at bC;subst bC;go_wp2_with fail;go_ret;exact aC ((H3.o.2.2.2.pb H3.o.1.2).le (by omega))
  .have hq:(e1 != 11)=true:=by rw[bne_iff_ne];exact he
   have ki:(e1==11)=false:=by rw[beq_eq_false_iff_ne];exact he
   have bC:=eG.o;rw[if_pos (.inl he)]at bC;subst bC;go_wp2_with fail;go_ret;exact aC ((H2.o.2.2.2.pb H2.o.1.2).le (by omega))
variable{s:Step}{w:World}{I:Ix}{F:List Nat}{n:Nat}
theorem q8{l:List E}{leaf:Bool}(h:dD l leaf):∀e∈l,e.key.size<=32/\e.val.size<=40:=λe he=>by
 obtain⟨i,hi,rfl⟩:=xj.1 he;have:=(h i hi l[i] (aT hi)).1;exact⟨this.1,this.2.1⟩
theorem vv.light(h:vv s):GI s.l:=⟨by have:=h.2.1;omega,q8 h.1⟩
theorem vv.fit(h:vv s)(hl:s.leaf=false):Fit s:=⟨h.light,by have:=h.2.1;omega,h.2.2 hl⟩
theorem PB.pt{w':World}{q:QS}{K b:Nat}(hb:w.heap.size<=b)(h:PB b w w' I F q n K):PT w w' I F q n K:=by
 obtain⟨F',S,P,o,f,g⟩:=h;exact⟨F',P,o.mono (λx hx hl=>(f x hx).elim id (λh=>by omega)),λx hx=>(g x hx).imp id (λh=>by omega)⟩
theorem zF(q:QS)(key value:ByteArray):(q.iQ key value).2.1.key=key/\(q.iQ key value).2.1.val.size<=40:=by
 unfold QS.iQ
 split
 .exact⟨rfl,by assumption⟩
 .exact⟨rfl,bm _⟩
def pZ(l:List E)(key:ByteArray):List E:=if cd l key=true then l.eraseIdx (bf l key)else l
def QS.kW(q:QS)(l:List E)(key:ByteArray):QS×Int:=if cd l key=true then q.pY (l.getD (bf l key) Nd.E.zero)else(q,0)
def QS.Tm(q:QS)(key value:ByteArray)(x:Step)(i:Nat)(up:List Step):QS×Int:=
 if(q.iQ key value).2.2≠0 then((q.iQ key value).1,(q.iQ key value).2.2)
 else fT (up.length+1) ({x with l:=x.l.insertIdx i (q.iQ key value).2.1}::up) (q.iQ key value).1
def QS.fQ(q:QS)(key value:ByteArray):QS×Int:=
 if 32<key.size\/1024<value.size then(q,4)
 else if(q.eB key).2.2≠0 then((q.eB key).1,(q.eB key).2.2)
 else if((q.eB key).1.kW (iE (q.eB key).2.1).l key).2≠0 then(q.eB key).1.kW (iE (q.eB key).2.1).l key
 else((q.eB key).1.kW (iE (q.eB key).2.1).l key).1.Tm key value {iE (q.eB key).2.1 with l:=pZ (iE (q.eB key).2.1).l key} (bf (iE (q.eB key).2.1).l key) (q.eB key).2.1.dropLast.reverse
theorem Tn{tb:Nat}{q:QS}{Kz:Nat}(h:TQ w tb I F q n Kz)(Th:Kz<=999999999000)(key value:ByteArray)(hks:key.size<=100000)(hvs:value.size<=100000):
  Calls prog 25 #[tp tb,.string key,.string value] w λe w'=>e=.returned (.int .i64 (q.fQ key value).2)/\PT w w' I F (q.fQ key value).1 n (Kz+100):=by
 have KW:=xh (zA h (by omega) key);have HT:=xh h;have HK:=xh Th;have fy:=J6 (q:=q) (key:=key);unfold QS.fQ;generalize q.eB key=R at *;obtain⟨q1,steps,er⟩:=R;dsimp only at *;unfold tp at *
 by_cases hk32:key.size<=32
 .by_cases hv:value.size<=1024
  .rw[if_neg (by omega)];have s5:¬(32<(key.size:Int)):=by omega
   have s6:¬(1024<(value.size:Int)):=by omega
   by_cases he:er=0
   .subst he;obtain⟨pre,x,rfl,uk,NY,iV,hlen⟩:=fy rfl;rw[if_neg (by simp),show iE (pre++[x])=x from by unfold iE;simp,show(pre++[x]).dropLast=pre from by simp];have hxo:=iV x (by simp);obtain⟨hm,hl57,_⟩:=hxo;have HLX:=xh (q8 hm);have hm:=xh hm;have oK:=xh (show ∀s∈pre,Fit s from λs hs=>(iV s (by simp[hs])).fit (NY s hs));have su:=xh hlen;clear fy NY iV uk h
    obtain⟨RR,bC⟩:∃RR,(if(q1.kW x.l key).2≠0 then q1.kW x.l key else(q1.kW x.l key).1.Tm key value {x with l:=pZ x.l key} (bf x.l key) pre.reverse)=RR:=⟨_,rfl⟩;rw[bC];have eG:=xh bC;clear bC;go_enter func25,ntmps25;go_wp2_with fail;refine KW.o.mono ?_;rintro e w1 ⟨v,L,rfl,SA,nH,P1,o1⟩;have Tp:=SA.last nH;obtain⟨Lp,A,c,g,cc,rfl,lk,rfl,hbg,Ea,uj,gK,Qo,S1,f1⟩:=Tp
    have H1:=xh (show TQ w1 tb I F q1 n (Kz+16)/\aM w1 w.heap.size (.slice (some ⟨g,0,none⟩) (pre.length+1) cc) (Lp++[⟨x,A,c⟩])/\OB w.heap.size w w1 F F/\w.heap.size<=w1.heap.size from⟨HT.o.next o1 P1,SA,(OB.refl w.heap.size w F).step (aj _) o1 (λ_ hg=> .inl hg),o1.size⟩);have rG:=xh (show Lp.length=pre.length from by rw[<-lk,fM]);have Ti:=xh lk;have S1:=xh S1;have x1:w1.cell? ⟨g,pre.length*4+1,none⟩=some (.bool x.leaf):=gK 1 (by omega)
    have x2:w1.cell? ⟨g,pre.length*4+1+1,none⟩=some (.slice A x.l.length c):=gK 2 (by omega);have s1:IntKind.i64.wrap (((pre.length+1:Nat):Int)-1)=(pre.length:Int):=by rw[show((pre.length+1:Nat):Int)-1=(pre.length:Int) by omega];exact IntWalk.i64_in _ (by omega)
    have s2:(pre.length:Int)<((pre.length+1:Nat):Int):=by omega
    have KF:=xh (Nd.vj x.leaf A x.l.length c x.l key (Nd.aK.aH S1.o).2 (by omega) hm.o);unfold bt at KF;clear SA nH P1 o1 lk gK Qo f1;go_wp2_with fail;refine KF.o.mono ?_;rintro e w3 ⟨rfl,cZ⟩;have O3:=xh cZ
    have H3:=xh (show TQ w3 tb I F q1 n (Kz+16)/\aM w3 w.heap.size (.slice (some ⟨g,0,none⟩) (pre.length+1) cc) (Lp++[⟨x,A,c⟩])/\OB w.heap.size w w3 F F/\w.heap.size<=w3.heap.size from⟨H1.o.1.below O3.o,H1.o.2.1.below O3.o,H1.o.2.2.1.below O3.o,ay H1.o.2.2.2 O3.o.size⟩);have S3:=xh (S1.o.below cZ);have u2:w3.cell? ⟨g,pre.length*4+1+1,none⟩=some (.slice A x.l.length c):=(O3.o.cell (p:=⟨g,pre.length*4+1+1,none⟩) (dN x2)).trans x2
    clear x1 x2 cZ H1 S1 O3
    by_cases hh:cd x.l key=true
    .skip
     obtain⟨ex,hex⟩:=zB hh;have Te:x.l.getD (bf x.l key) Nd.E.zero=ex:=by rw[jj,hex];rfl
     have bC:=eG.o;unfold QS.kW pZ at bC;rw[if_pos hh,if_pos hh,Te]at bC;generalize cd x.l key=hb at *;subst hh;have pK:bf x.l key<x.l.length:=(aX.1 hex).1;generalize bf x.l key=at_ at *;obtain⟨ad,vu,fN⟩:=(Nd.aK.aH S3.o).2.2 at_ ex hex;obtain⟨ga,ca,wB,Az,_⟩:=S3.o.form (by omega) (by omega);injection Az with e1 ezz e3
     clear ezz;subst e1 e3;injection vu with vu
     subst vu;rw[Nd.eP,bh]at fN;have u3:=fN.c0;have u4:=fN.c1;have u5:=fN.c2;dsimp only at u4 u5;have KA:=xh (Cq H3.o.1 (by omega) ex);unfold E.agg tp at KA;have hflI:(at_:Int)<(x.l.length:Int):=by omega
     generalize q1.pY ex=R2 at *;obtain⟨q2,e2⟩:=R2;dsimp only at *;have eG:=xh bC;clear fN hex Te bC;go_wp2_with fail;refine KA.o.mono ?_;rintro e w4 ⟨rfl,P4,o4⟩
     have H4:=xh (show TQ w4 tb I F q2 n (Kz+21)/\aM w4 w.heap.size (.slice (some ⟨g,0,none⟩) (pre.length+1) cc) (Lp++[⟨x,some ⟨ga,0,none⟩,c⟩])/\OB w.heap.size w w4 F F/\w.heap.size<=w4.heap.size from⟨H3.o.1.next o4 P4,H3.o.2.1.tV H3.o.1.2 o4,H3.o.2.2.1.step (aj _) o4 (λ_ hg=> .inl hg),ay H3.o.2.2.2 o4.size⟩);clear P4 o4 u2 u3 u4 u5 S3
     by_cases wC:e2=0
     .subst wC;have bC:=eG.o;rw[if_neg (show ¬((0:Int)≠0) by simp)]at bC;have eG:=xh bC;have SX:=H4.o.2.1.e ⟨x,some ⟨ga,0,none⟩,c⟩ (by simp);have KD:=xh (Nd.pW SX.1 at_ pK (show x.l.length<=100000 by omega));have u2:=H4.o.2.1.cell (k:=Lp.length) (Z:=⟨x,some ⟨ga,0,none⟩,c⟩) (by rw[dE (aj _),eU];rfl) 2 (by omega);rw[rG.o]at u2
      replace u2:w4.cell? ⟨g,pre.length*4+1+1,none⟩=some (.slice (some ⟨ga,0,none⟩) x.l.length c):=u2
      have AB:=xh (show(x.l.eraseIdx at_).length=x.l.length-1 from by rw[IF pK]);have s7:IntKind.i64.wrap ((at_:Int)+1)=(at_:Int)+1:=IntWalk.i64_in _ (by omega);clear SX bC;go_wp2_with fail;refine KD.o.mono ?_;rintro e w5 ⟨rfl,S5,o5⟩;obtain⟨SP,sx,sz⟩:=H4.o.2.1.put (Lp:=Lp) (Ls:=[]) (x.l.eraseIdx at_) (A':=some ⟨ga,0,none⟩) (c':=c) (by rw[AB.o];exact S5) o5 (λz hz=> .inl hz) H4.o.2.2.2;rw[rG.o]at SP sx sz;rw[AB.o]at SP
      replace sx:w5.cell? ⟨g,pre.length*4+1+1,none⟩=some (.slice (some ⟨ga,0,none⟩) x.l.length c):=sx
      replace sz:w5.frozen? ⟨g,pre.length*4+1+1,none⟩=false:=sz
      have O5:ag (g::ah (.slice (some ⟨ga,0,none⟩) x.l.length c)) w4 (w5.setCell ⟨g,pre.length*4+1+1,none⟩ (.slice (some ⟨ga,0,none⟩) (x.l.length-1) c)):=(o5.mono (λx hx _=>bz _ hx)).setCell (by simp) _;have jV:=H4.o.2.1.off H4.o.1.2;have sy:=H4.o.2.1.tree H4.o.1.1
      have H5:=xh (show TQ (w5.setCell ⟨g,pre.length*4+1+1,none⟩ (.slice (some ⟨ga,0,none⟩) (x.l.length-1) c)) tb I F q2 n (Kz+21)/\aM (w5.setCell ⟨g,pre.length*4+1+1,none⟩ (.slice (some ⟨ga,0,none⟩) (x.l.length-1) c)) w.heap.size (.slice (some ⟨g,0,none⟩) (pre.length+1) cc) (Lp++[⟨{x with l:=x.l.eraseIdx at_},some ⟨ga,0,none⟩,c⟩])/\OB w.heap.size w (w5.setCell ⟨g,pre.length*4+1+1,none⟩ (.slice (some ⟨ga,0,none⟩) (x.l.length-1) c)) F F/\w.heap.size<=(w5.setCell ⟨g,pre.length*4+1+1,none⟩ (.slice (some ⟨ga,0,none⟩) (x.l.length-1) c)).heap.size from
       ⟨H4.o.1.only O5 (λz hz hm=>by
        rcases ar.1 hz with h1|h1<;>rcases ar.1 hm with h2|h2
        .exact sy.1 (by rw[<-h1,h2];simp[ah])
        .exact sy.2 ⟨x,some ⟨ga,0,none⟩,c⟩ (by simp) (by rw[<-h1];exact h2)
        .exact jV.1 z (by rw[h2];simp[ah]) h1
        .exact jV.2 ⟨x,some ⟨ga,0,none⟩,c⟩ (by simp) z h2 h1),SP,H4.o.2.2.1.own O5 (λz hz=>by
        rcases ar.1 hz with h2|h2
        .rw[h2];exact H4.o.2.1.f g (by simp[ah])
        .exact(H4.o.2.1.e ⟨x,some ⟨ga,0,none⟩,c⟩ (by simp)).2 z h2),ay H4.o.2.2.2 O5.size⟩)
      clear SP S5 o5 O5 jV sy;have HLY:=xh (show ∀e∈x.l.eraseIdx at_,e.key.size<=32/\e.val.size<=40 from λe he=>HLX.o e (List.mem_of_mem_eraseIdx he));obtain⟨w6,LY⟩:∃w6,(w5.setCell ⟨g,pre.length*4+1+1,none⟩ (.slice (some ⟨ga,0,none⟩) (x.l.length-1) c))=w6:=⟨_,rfl⟩;rw[LY]at H5
      go_upto_region 13 with fail
      clear LY sx sz u2;have bC:=eG.o;have hya:at_<=(x.l.eraseIdx at_).length:=by rw[AB.o];omega
      have hyn:(x.l.eraseIdx at_).length<=57:=by rw[AB.o];omega
      generalize hY:({x with l:=x.l.eraseIdx at_}:Step)=y at *;have hyl:y.l=x.l.eraseIdx at_:=by rw[<-hY]
      rw[<-hyl]at HLY hya hyn;generalize hAY:some (⟨ga,0,none⟩:Addr)=AY at H5;obtain⟨cY,rfl⟩:∃cY,cY=c:=⟨_,rfl⟩;have eG:=xh bC;clear hyl hY hAY bC;have KT:=xh (Cs H5.o.1 (by omega) key value hv);have nI:=zF q2 key value;have bC:=eG.o;unfold QS.Tm at bC;generalize q2.iQ key value=R3 at *;obtain⟨q3,en,e3⟩:=R3;dsimp only at *;obtain⟨rfl,Ka⟩:=nI;have HEN:=xh (And.intro hk32 Ka);have eG:=xh bC;unfold E.agg tp at KT;clear bC Ka
      go_wp2_with fail;refine KT.o.mono ?_;rintro e w4 ⟨rfl,P4⟩;obtain⟨F4,T4,o4,f4⟩:=P4.tq H5.o.1;have H4:=xh (show TQ w4 tb I F4 q3 n (Kz+26)/\aM w4 w.heap.size (.slice (some ⟨g,0,none⟩) (pre.length+1) cc) (Lp++[⟨y,AY,cY⟩])/\OB w.heap.size w w4 F F4/\w.heap.size<=w4.heap.size from⟨T4,H5.o.2.1.tV H5.o.1.2 o4,H5.o.2.2.1.step (aj _) o4 f4,ay H5.o.2.2.2 o4.size⟩);clear P4 o4 f4 T4
      by_cases J7:e3=0
      .subst J7;have bC:=eG.o;rw[if_neg (show ¬((0:Int)≠0) by simp)]at bC;rw[List.length_reverse]at bC;have eG:=xh bC;clear bC;obtain⟨w8,AV⟩:∃w8,(w4.alloc (.cells #[.string en.key,.string en.val,.int .i64 en.aU] 111)).drew=w8:=⟨_,rfl⟩;have zG:Below w4.heap.size w4 w8:=by rw[<-AV];exact(ae (Below.refl _ _) _).drew
       have Tq:aE w8 w4.heap.size 111 #[.string en.key,.string en.val,.int .i64 en.aU]:=by rw[<-AV];exact(aE.new _ _ _).drew
       have H8:=xh (show TQ w8 tb I F4 q3 n (Kz+26)/\aM w8 w.heap.size (.slice (some ⟨g,0,none⟩) (pre.length+1) cc) (Lp++⟨y,AY,cY⟩::[])/\OB w.heap.size w w8 F F4/\w.heap.size<=w8.heap.size/\aE w8 w4.heap.size 111 #[.string en.key,.string en.val,.int .i64 en.aU]from
        ⟨H4.o.1.below zG,H4.o.2.1.below zG,H4.o.2.2.1.below zG,ay H4.o.2.2.2 zG.size,Tq⟩)
       have Ou:=xh (show(λW=>W.cell? ⟨w4.heap.size,0,none⟩=some (.string en.key)/\W.cell? ⟨w4.heap.size,1,none⟩=some (.string en.val)/\W.cell? ⟨w4.heap.size,2,none⟩=some (.int .i64 en.aU)) w8 from And.intro (Tq.ab (i:=0) rfl) (And.intro (Tq.ab (i:=1) rfl) (Tq.ab (i:=2) rfl)));have x8:w8.cell? ⟨g,pre.length*4+2,none⟩=some (.slice AY y.l.length cY):=by
        have h1:=H8.o.2.1.cell (k:=Lp.length) (Z:=⟨y,AY,cY⟩) (by rw[dE (aj _),eU];rfl) 2 (by omega);rw[rG.o]at h1;exact h1
       obtain⟨w9,Tj⟩:∃w9,w8.alloc (.cells #[.string en.key,.string en.val,.int .i64 en.aU] 111)=w9:=⟨_,rfl⟩;have iW:Below w8.heap.size w8 w9:=by rw[<-Tj];exact ae (Below.refl _ _) _
       have BN9:aE w9 w8.heap.size 111 #[.string en.key,.string en.val,.int .i64 en.aU]:=by rw[<-Tj];exact aE.new _ _ _
       have BZ9:w9.frozen? ⟨w8.heap.size,3,none⟩=false:=by rw[<-Tj];exact World.frozen?_alloc_at (w:=w8) _ _ w8.heap.size 3 rfl
       have Tr:=H8.o.2.2.2.2.below iW H8.o.2.2.2.2.lt;have LX:=xh (show(λW=>W.cell? ⟨w4.heap.size,0,none⟩=some (.string en.key)/\W.cell? ⟨w4.heap.size,1,none⟩=some (.string en.val)/\W.cell? ⟨w4.heap.size,2,none⟩=some (.int .i64 en.aU)) w9 from And.intro (Tr.ab (i:=0) rfl) (And.intro (Tr.ab (i:=1) rfl) (Tr.ab (i:=2) rfl)));have x9:w9.cell? ⟨g,pre.length*4+2,none⟩=some (.slice AY y.l.length cY):=(iW.cell (p:=⟨g,pre.length*4+2,none⟩) (dN x8)).trans x8
       have H9:=xh (show TQ w9 tb I F4 q3 n (Kz+26)/\aM w9 w.heap.size (.slice (some ⟨g,0,none⟩) (pre.length+1) cc) (Lp++⟨y,AY,cY⟩::[])/\OB w.heap.size w w9 F F4/\w.heap.size<=w9.heap.size/\aE w9 w4.heap.size 111 #[.string en.key,.string en.val,.int .i64 en.aU]from
        ⟨H8.o.1.below iW,H8.o.2.1.below iW,H8.o.2.2.1.below iW,ay H8.o.2.2.2.1 iW.size,Tr⟩)
       have wD:=xh (show(y.l.insertIdx at_ en).length=y.l.length+1 from by rw[yc,if_pos (by omega)]);have SY:=H9.o.2.1.e ⟨y,AY,cY⟩ (by simp);have KI:=xh (Nd.pX (w:=w9) SY.1 en (g2:=w8.heap.size) (cc:=1) BN9 (show y.l.length<=100000 by omega) (λhm=>by have:=(H8.o.2.1.e ⟨y,AY,cY⟩ (by simp)).1.lt _ hm;omega) at_ (show at_<=y.l.length by omega) BZ9)
       have vU:=xh (show ∀W,ag (ah (.slice AY y.l.length cY)) w9 W->(λW=>W.cell? ⟨w4.heap.size,0,none⟩=some (.string en.key)/\W.cell? ⟨w4.heap.size,1,none⟩=some (.string en.val)/\W.cell? ⟨w4.heap.size,2,none⟩=some (.int .i64 en.aU)) W from λW o=>by
        have hB:=H9.o.2.2.2.2.only o (λhm=>by have:=(H4.o.2.1.e ⟨y,AY,cY⟩ (by simp)).1.lt _ hm;omega);exact⟨hB.ab (i:=0) rfl,hB.ab (i:=1) rfl,hB.ab (i:=2) rfl⟩)
       clear SY BN9 BZ9 iW Tq Tr zG;go_wp2_with fail;refine wp_region_held_drew (S:=λW=>W.cell? ⟨w4.heap.size,0,none⟩=some (.string en.key)/\W.cell? ⟨w4.heap.size,1,none⟩=some (.string en.val)/\W.cell? ⟨w4.heap.size,2,none⟩=some (.int .i64 en.aU)) (by kernel_rfl) (by rw[AV];exact Ou.o) (λaq=>?_);rw[AV];clear AV;refine cV [(0,86),(1,87),(2,88),(3,89),(4,90),(6,92),(7,93)] ?_
       iterate 7 refine bj ?_
       refine wpAnyH_ready (rs:=[5,8]) (by kernel_rfl) (by simp) ?_;refine AllReadyH.cons (o:=⟨some 91,_,_,_,_,_⟩) rfl (λK hK=>?_) (AllReadyH.cons (o:=⟨some 94,_,_,_,_,_⟩) rfl (λK hK=>?_) AllReadyH.nil)
       .skip
        go_simp;refine aW hK (Ou.o) (λaq=>?_);refine dn 8 94 λK hK=>?_;go_simp;refine aW hK (LX.o) (λaq=>?_);refine dn 9 95 λK hK=>?_;go_simp
        go_at_call 74
        refine KI.o.mono ?_;rintro e jI ⟨A',c',rfl,tQ,m8,f10⟩;have tQ:=xh tQ;have m8:=xh m8;have f10:=xh f10;have zD:=xh (vU.o jI m8.o);go_simp;refine aW hK (zD.o) (λaq=>?_);refine cV [(10,96),(11,97),(12,98)] ?_
        iterate 3 refine bj ?_
        refine mW 13 λK hK=>?_;go_simp;obtain⟨SP,sx,sz⟩:=H9.o.2.1.put (y.l.insertIdx at_ en) (A':=A') (c':=c') (by rw[wD.o];exact tQ.o) m8.o (by rw[wD.o];exact f10.o) H9.o.2.2.2.1;rw[rG.o]at SP sx sz;rw[wD.o]at SP;have SP:=xh SP
        replace sx:jI.cell? ⟨g,pre.length*4+2,none⟩=some (.slice AY y.l.length cY):=sx
        have rz:=xh (show ag (g::ah (.slice AY y.l.length cY)) w9 (jI.setCell ⟨g,pre.length*4+2,none⟩ (.slice A' (y.l.length+1) c'))from(m8.o.mono (λx hx _=>bz _ hx)).setCell (by simp) _);have Ov:=(H9.o.2.1.e ⟨y,AY,cY⟩ (by simp)).1
        have nI:=((H9.o.2.2.2.2.only m8.o (λhm=>by have:=(H4.o.2.1.e ⟨y,AY,cY⟩ (by simp)).1.lt _ hm;omega)).aU (p:=⟨g,pre.length*4+2,none⟩) (λe=>cC H9.o.2.1.s H9.o.2.2.2.2 (by decide) (by simp[ah];exact e)) (.slice A' (y.l.length+1) c'));have vx:=xh (And.intro (nI.ab (i:=0) rfl) (And.intro (nI.ab (i:=1) rfl) (nI.ab (i:=2) rfl)));clear Ov nI;go_simp;refine aW hK (vx.o) (λaq=>?_);refine wpAnyH_done (by kernel_rfl) ?_ _
        go_wp2_with fail;have hT:TQ (jI.setCell ⟨g,pre.length*4+1+1,none⟩ (.slice A' (y.l.length+1) c')) tb I F4 q3 n (Kz+26):=by
         have jV:=H9.o.2.1.off H9.o.1.2;have sy:=H9.o.2.1.tree H9.o.1.1;exact H9.o.1.only rz.o (λz hz hm=>by
          rcases ar.1 hz with h1|h1<;>rcases ar.1 hm with h2|h2
          .exact sy.1 (by rw[<-h1,h2];simp[ah])
          .exact sy.2 ⟨y,AY,cY⟩ (by simp) (by rw[<-h1];exact h2)
          .exact jV.1 z (by rw[h2];simp[ah]) h1
          .exact jV.2 ⟨y,AY,cY⟩ (by simp) z h2 h1)
        have hO:OB w.heap.size w (jI.setCell ⟨g,pre.length*4+1+1,none⟩ (.slice A' (y.l.length+1) c')) F F4:=H9.o.2.2.1.own rz.o (λz hz=>by
         rcases ar.1 hz with h2|h2
         .rw[h2];exact H9.o.2.1.f g (by simp[ah])
         .exact(H9.o.2.1.e ⟨y,AY,cY⟩ (by simp)).2 z h2)
        have GK:w.heap.size<=(jI.setCell ⟨g,pre.length*4+1+1,none⟩ (.slice A' (y.l.length+1) c')).heap.size:=ay H9.o.2.2.2.1 rz.o.size;have SQ:aM (jI.setCell ⟨g,pre.length*4+1+1,none⟩ (.slice A' (y.l.length+1) c')) w.heap.size (.slice (some ⟨g,0,none⟩) (pre.length+1) cc) (Lp++[(⟨{y with l:=y.l.insertIdx at_ en},A',c'⟩:SM)]):=by
         exact SP.o
        have tW:=eG.o;subst tW;have KR:=jA (pre.length+1) pre {y with l:=y.l.insertIdx at_ en} (aj _) hT (by have:=HK.o;have:=su.o;omega) SQ GK (by rw[cW,Ti.o];rfl) oK.o
         ⟨by show(y.l.insertIdx at_ _).length<=90;rw[wD.o];omega,λe he=>by
          rcases(qu (by omega)).1 he with rfl|he
          .exact HEN.o
          .exact HLY.o e he⟩ (by have:=su.o;omega)
        refine KR.mono ?_;rintro e Ep ⟨rfl,zE⟩;have zE:=xh zE;have HO:=xh hO;clear hT hO GK SQ KR;go_wp2_with fail;go_ret;exact aC (((HO.o.trans zE.o).pt (aj _)).le (by have:=su.o;omega))
       .skip
        go_simp;refine aW hK (LX.o) (λaq=>?_);refine dn 5 91 λK hK=>?_;go_simp;refine aW hK (LX.o) (λaq=>?_);refine dn 9 95 λK hK=>?_;go_simp
        go_at_call 74
        refine KI.o.mono ?_;rintro e jI ⟨A',c',rfl,tQ,m8,f10⟩;have tQ:=xh tQ;have m8:=xh m8;have f10:=xh f10;have zD:=xh (vU.o jI m8.o);go_simp;refine aW hK (zD.o) (λaq=>?_);refine cV [(10,96),(11,97),(12,98)] ?_
        iterate 3 refine bj ?_
        refine mW 13 λK hK=>?_;go_simp;obtain⟨SP,sx,sz⟩:=H9.o.2.1.put (y.l.insertIdx at_ en) (A':=A') (c':=c') (by rw[wD.o];exact tQ.o) m8.o (by rw[wD.o];exact f10.o) H9.o.2.2.2.1;rw[rG.o]at SP sx sz;rw[wD.o]at SP;have SP:=xh SP
        replace sx:jI.cell? ⟨g,pre.length*4+2,none⟩=some (.slice AY y.l.length cY):=sx
        have rz:=xh (show ag (g::ah (.slice AY y.l.length cY)) w9 (jI.setCell ⟨g,pre.length*4+2,none⟩ (.slice A' (y.l.length+1) c'))from(m8.o.mono (λx hx _=>bz _ hx)).setCell (by simp) _);have Ov:=(H9.o.2.1.e ⟨y,AY,cY⟩ (by simp)).1
        have nI:=((H9.o.2.2.2.2.only m8.o (λhm=>by have:=(H4.o.2.1.e ⟨y,AY,cY⟩ (by simp)).1.lt _ hm;omega)).aU (p:=⟨g,pre.length*4+2,none⟩) (λe=>cC H9.o.2.1.s H9.o.2.2.2.2 (by decide) (by simp[ah];exact e)) (.slice A' (y.l.length+1) c'));have vx:=xh (And.intro (nI.ab (i:=0) rfl) (And.intro (nI.ab (i:=1) rfl) (nI.ab (i:=2) rfl)));clear Ov nI;go_simp;refine aW hK (vx.o) (λaq=>?_);refine wpAnyH_done (by kernel_rfl) ?_ _
        go_wp2_with fail;have hT:TQ (jI.setCell ⟨g,pre.length*4+1+1,none⟩ (.slice A' (y.l.length+1) c')) tb I F4 q3 n (Kz+26):=by
         have jV:=H9.o.2.1.off H9.o.1.2;have sy:=H9.o.2.1.tree H9.o.1.1;exact H9.o.1.only rz.o (λz hz hm=>by
          rcases ar.1 hz with h1|h1<;>rcases ar.1 hm with h2|h2
          .exact sy.1 (by rw[<-h1,h2];simp[ah])
          .exact sy.2 ⟨y,AY,cY⟩ (by simp) (by rw[<-h1];exact h2)
          .exact jV.1 z (by rw[h2];simp[ah]) h1
          .exact jV.2 ⟨y,AY,cY⟩ (by simp) z h2 h1)
        have hO:OB w.heap.size w (jI.setCell ⟨g,pre.length*4+1+1,none⟩ (.slice A' (y.l.length+1) c')) F F4:=H9.o.2.2.1.own rz.o (λz hz=>by
         rcases ar.1 hz with h2|h2
         .rw[h2];exact H9.o.2.1.f g (by simp[ah])
         .exact(H9.o.2.1.e ⟨y,AY,cY⟩ (by simp)).2 z h2)
        have GK:w.heap.size<=(jI.setCell ⟨g,pre.length*4+1+1,none⟩ (.slice A' (y.l.length+1) c')).heap.size:=ay H9.o.2.2.2.1 rz.o.size;have SQ:aM (jI.setCell ⟨g,pre.length*4+1+1,none⟩ (.slice A' (y.l.length+1) c')) w.heap.size (.slice (some ⟨g,0,none⟩) (pre.length+1) cc) (Lp++[(⟨{y with l:=y.l.insertIdx at_ en},A',c'⟩:SM)]):=by
         exact SP.o
        have tW:=eG.o;subst tW;have KR:=jA (pre.length+1) pre {y with l:=y.l.insertIdx at_ en} (aj _) hT (by have:=HK.o;have:=su.o;omega) SQ GK (by rw[cW,Ti.o];rfl) oK.o
         ⟨by show(y.l.insertIdx at_ _).length<=90;rw[wD.o];omega,λe he=>by
          rcases(qu (by omega)).1 he with rfl|he
          .exact HEN.o
          .exact HLY.o e he⟩ (by have:=su.o;omega)
        refine KR.mono ?_;rintro e Ep ⟨rfl,zE⟩;have zE:=xh zE;have HO:=xh hO;clear hT hO GK SQ KR;go_wp2_with fail;go_ret;exact aC (((HO.o.trans zE.o).pt (aj _)).le (by have:=su.o;omega))
      .have bC:=eG.o;rw[if_pos J7]at bC;subst bC;have hq:(e3 != 0)=true:=by rw[bne_iff_ne];exact J7
       have ki:(e3==0)=false:=by rw[beq_eq_false_iff_ne];exact J7
       go_wp2_with fail;go_ret;exact aC ((((H4.o.2.2.1.below (ae (Below.refl _ _) _)).pb (H4.o.1.2.below (ae (Below.refl _ _) _))).pt (aj _)).le (by omega))
     .have bC:=eG.o;rw[if_pos wC]at bC;subst bC;have hq:(e2 != 0)=true:=by rw[bne_iff_ne];exact wC
      have ki:(e2==0)=false:=by rw[beq_eq_false_iff_ne];exact wC
      go_wp2_with fail;go_ret;exact aC (((H4.o.2.2.1.pb H4.o.1.2).pt (aj _)).le (by omega))
    .have hh2:cd x.l key=false:=by simpa using hh
     have bC:=eG.o;unfold QS.kW pZ at bC;rw[if_neg hh,if_neg hh,if_neg (show ¬((0:Int)≠0) by simp)]at bC;generalize cd x.l key=hb at *;subst hh2;have hya:bf x.l key<=x.l.length:=nX;generalize bf x.l key=at_ at *;obtain⟨q2,rfl⟩:∃q2,q2=q1:=⟨_,rfl⟩;obtain⟨y,rfl⟩:∃y:Step,y=x:=⟨_,rfl⟩;obtain⟨AY,rfl⟩:∃AY,AY=A:=⟨_,rfl⟩;obtain⟨cY,rfl⟩:∃cY,cY=c:=⟨_,rfl⟩;have hyn:y.l.length<=57:=hl57;have HLY:=HLX;have eG:=xh bC
     have H5:=xh (show TQ w3 tb I F q2 n (Kz+21)/\aM w3 w.heap.size (.slice (some ⟨g,0,none⟩) (pre.length+1) cc) (Lp++[⟨y,AY,cY⟩])/\OB w.heap.size w w3 F F/\w.heap.size<=w3.heap.size from⟨H3.o.1.le (by omega),H3.o.2⟩);clear hh bC u2 H3 S3
     go_upto_region 13 with fail
     have KT:=xh (Cs H5.o.1 (by omega) key value hv);have nI:=zF q2 key value;have bC:=eG.o;unfold QS.Tm at bC;generalize q2.iQ key value=R3 at *;obtain⟨q3,en,e3⟩:=R3;dsimp only at *;obtain⟨rfl,Ka⟩:=nI;have HEN:=xh (And.intro hk32 Ka);have eG:=xh bC;unfold E.agg tp at KT;clear bC Ka;go_wp2_with fail;refine KT.o.mono ?_;rintro e w4 ⟨rfl,P4⟩;obtain⟨F4,T4,o4,f4⟩:=P4.tq H5.o.1
     have H4:=xh (show TQ w4 tb I F4 q3 n (Kz+26)/\aM w4 w.heap.size (.slice (some ⟨g,0,none⟩) (pre.length+1) cc) (Lp++[⟨y,AY,cY⟩])/\OB w.heap.size w w4 F F4/\w.heap.size<=w4.heap.size from⟨T4,H5.o.2.1.tV H5.o.1.2 o4,H5.o.2.2.1.step (aj _) o4 f4,ay H5.o.2.2.2 o4.size⟩);clear P4 o4 f4 T4
     by_cases J7:e3=0
     .subst J7;have bC:=eG.o;rw[if_neg (show ¬((0:Int)≠0) by simp)]at bC;rw[List.length_reverse]at bC;have eG:=xh bC;clear bC;obtain⟨w8,AV⟩:∃w8,(w4.alloc (.cells #[.string en.key,.string en.val,.int .i64 en.aU] 111)).drew=w8:=⟨_,rfl⟩;have zG:Below w4.heap.size w4 w8:=by rw[<-AV];exact(ae (Below.refl _ _) _).drew
      have Tq:aE w8 w4.heap.size 111 #[.string en.key,.string en.val,.int .i64 en.aU]:=by rw[<-AV];exact(aE.new _ _ _).drew
      have H8:=xh (show TQ w8 tb I F4 q3 n (Kz+26)/\aM w8 w.heap.size (.slice (some ⟨g,0,none⟩) (pre.length+1) cc) (Lp++⟨y,AY,cY⟩::[])/\OB w.heap.size w w8 F F4/\w.heap.size<=w8.heap.size/\aE w8 w4.heap.size 111 #[.string en.key,.string en.val,.int .i64 en.aU]from
       ⟨H4.o.1.below zG,H4.o.2.1.below zG,H4.o.2.2.1.below zG,ay H4.o.2.2.2 zG.size,Tq⟩)
      have Ou:=xh (show(λW=>W.cell? ⟨w4.heap.size,0,none⟩=some (.string en.key)/\W.cell? ⟨w4.heap.size,1,none⟩=some (.string en.val)/\W.cell? ⟨w4.heap.size,2,none⟩=some (.int .i64 en.aU)) w8 from And.intro (Tq.ab (i:=0) rfl) (And.intro (Tq.ab (i:=1) rfl) (Tq.ab (i:=2) rfl)));have x8:w8.cell? ⟨g,pre.length*4+2,none⟩=some (.slice AY y.l.length cY):=by
       have h1:=H8.o.2.1.cell (k:=Lp.length) (Z:=⟨y,AY,cY⟩) (by rw[dE (aj _),eU];rfl) 2 (by omega);rw[rG.o]at h1;exact h1
      obtain⟨w9,Tj⟩:∃w9,w8.alloc (.cells #[.string en.key,.string en.val,.int .i64 en.aU] 111)=w9:=⟨_,rfl⟩;have iW:Below w8.heap.size w8 w9:=by rw[<-Tj];exact ae (Below.refl _ _) _
      have BN9:aE w9 w8.heap.size 111 #[.string en.key,.string en.val,.int .i64 en.aU]:=by rw[<-Tj];exact aE.new _ _ _
      have BZ9:w9.frozen? ⟨w8.heap.size,3,none⟩=false:=by rw[<-Tj];exact World.frozen?_alloc_at (w:=w8) _ _ w8.heap.size 3 rfl
      have Tr:=H8.o.2.2.2.2.below iW H8.o.2.2.2.2.lt;have LX:=xh (show(λW=>W.cell? ⟨w4.heap.size,0,none⟩=some (.string en.key)/\W.cell? ⟨w4.heap.size,1,none⟩=some (.string en.val)/\W.cell? ⟨w4.heap.size,2,none⟩=some (.int .i64 en.aU)) w9 from And.intro (Tr.ab (i:=0) rfl) (And.intro (Tr.ab (i:=1) rfl) (Tr.ab (i:=2) rfl)));have x9:w9.cell? ⟨g,pre.length*4+2,none⟩=some (.slice AY y.l.length cY):=(iW.cell (p:=⟨g,pre.length*4+2,none⟩) (dN x8)).trans x8
      have H9:=xh (show TQ w9 tb I F4 q3 n (Kz+26)/\aM w9 w.heap.size (.slice (some ⟨g,0,none⟩) (pre.length+1) cc) (Lp++⟨y,AY,cY⟩::[])/\OB w.heap.size w w9 F F4/\w.heap.size<=w9.heap.size/\aE w9 w4.heap.size 111 #[.string en.key,.string en.val,.int .i64 en.aU]from
       ⟨H8.o.1.below iW,H8.o.2.1.below iW,H8.o.2.2.1.below iW,ay H8.o.2.2.2.1 iW.size,Tr⟩)
      have wD:=xh (show(y.l.insertIdx at_ en).length=y.l.length+1 from by rw[yc,if_pos (by omega)]);have SY:=H9.o.2.1.e ⟨y,AY,cY⟩ (by simp);have KI:=xh (Nd.pX (w:=w9) SY.1 en (g2:=w8.heap.size) (cc:=1) BN9 (show y.l.length<=100000 by omega) (λhm=>by have:=(H8.o.2.1.e ⟨y,AY,cY⟩ (by simp)).1.lt _ hm;omega) at_ (show at_<=y.l.length by omega) BZ9)
      have vU:=xh (show ∀W,ag (ah (.slice AY y.l.length cY)) w9 W->(λW=>W.cell? ⟨w4.heap.size,0,none⟩=some (.string en.key)/\W.cell? ⟨w4.heap.size,1,none⟩=some (.string en.val)/\W.cell? ⟨w4.heap.size,2,none⟩=some (.int .i64 en.aU)) W from λW o=>by
       have hB:=H9.o.2.2.2.2.only o (λhm=>by have:=(H4.o.2.1.e ⟨y,AY,cY⟩ (by simp)).1.lt _ hm;omega);exact⟨hB.ab (i:=0) rfl,hB.ab (i:=1) rfl,hB.ab (i:=2) rfl⟩)
      clear SY BN9 BZ9 iW Tq Tr zG;go_wp2_with fail;refine wp_region_held_drew (S:=λW=>W.cell? ⟨w4.heap.size,0,none⟩=some (.string en.key)/\W.cell? ⟨w4.heap.size,1,none⟩=some (.string en.val)/\W.cell? ⟨w4.heap.size,2,none⟩=some (.int .i64 en.aU)) (by kernel_rfl) (by rw[AV];exact Ou.o) (λaq=>?_);rw[AV];clear AV;refine cV [(0,86),(1,87),(2,88),(3,89),(4,90),(6,92),(7,93)] ?_
      iterate 7 refine bj ?_
      refine wpAnyH_ready (rs:=[5,8]) (by kernel_rfl) (by simp) ?_;refine AllReadyH.cons (o:=⟨some 91,_,_,_,_,_⟩) rfl (λK hK=>?_) (AllReadyH.cons (o:=⟨some 94,_,_,_,_,_⟩) rfl (λK hK=>?_) AllReadyH.nil)
      .skip
       go_simp;refine aW hK (Ou.o) (λaq=>?_);refine dn 8 94 λK hK=>?_;go_simp;refine aW hK (LX.o) (λaq=>?_);refine dn 9 95 λK hK=>?_;go_simp
       go_at_call 74
       refine KI.o.mono ?_;rintro e jI ⟨A',c',rfl,tQ,m8,f10⟩;have tQ:=xh tQ;have m8:=xh m8;have f10:=xh f10;have zD:=xh (vU.o jI m8.o);go_simp;refine aW hK (zD.o) (λaq=>?_);refine cV [(10,96),(11,97),(12,98)] ?_
       iterate 3 refine bj ?_
       refine mW 13 λK hK=>?_;go_simp;obtain⟨SP,sx,sz⟩:=H9.o.2.1.put (y.l.insertIdx at_ en) (A':=A') (c':=c') (by rw[wD.o];exact tQ.o) m8.o (by rw[wD.o];exact f10.o) H9.o.2.2.2.1;rw[rG.o]at SP sx sz;rw[wD.o]at SP;have SP:=xh SP
       replace sx:jI.cell? ⟨g,pre.length*4+2,none⟩=some (.slice AY y.l.length cY):=sx
       have rz:=xh (show ag (g::ah (.slice AY y.l.length cY)) w9 (jI.setCell ⟨g,pre.length*4+2,none⟩ (.slice A' (y.l.length+1) c'))from(m8.o.mono (λx hx _=>bz _ hx)).setCell (by simp) _);have Ov:=(H9.o.2.1.e ⟨y,AY,cY⟩ (by simp)).1
       have nI:=((H9.o.2.2.2.2.only m8.o (λhm=>by have:=(H4.o.2.1.e ⟨y,AY,cY⟩ (by simp)).1.lt _ hm;omega)).aU (p:=⟨g,pre.length*4+2,none⟩) (λe=>cC H9.o.2.1.s H9.o.2.2.2.2 (by decide) (by simp[ah];exact e)) (.slice A' (y.l.length+1) c'));have vx:=xh (And.intro (nI.ab (i:=0) rfl) (And.intro (nI.ab (i:=1) rfl) (nI.ab (i:=2) rfl)));clear Ov nI;go_simp;refine aW hK (vx.o) (λaq=>?_);refine wpAnyH_done (by kernel_rfl) ?_ _
       go_wp2_with fail;have hT:TQ (jI.setCell ⟨g,pre.length*4+1+1,none⟩ (.slice A' (y.l.length+1) c')) tb I F4 q3 n (Kz+26):=by
        have jV:=H9.o.2.1.off H9.o.1.2;have sy:=H9.o.2.1.tree H9.o.1.1;exact H9.o.1.only rz.o (λz hz hm=>by
         rcases ar.1 hz with h1|h1<;>rcases ar.1 hm with h2|h2
         .exact sy.1 (by rw[<-h1,h2];simp[ah])
         .exact sy.2 ⟨y,AY,cY⟩ (by simp) (by rw[<-h1];exact h2)
         .exact jV.1 z (by rw[h2];simp[ah]) h1
         .exact jV.2 ⟨y,AY,cY⟩ (by simp) z h2 h1)
       have hO:OB w.heap.size w (jI.setCell ⟨g,pre.length*4+1+1,none⟩ (.slice A' (y.l.length+1) c')) F F4:=H9.o.2.2.1.own rz.o (λz hz=>by
        rcases ar.1 hz with h2|h2
        .rw[h2];exact H9.o.2.1.f g (by simp[ah])
        .exact(H9.o.2.1.e ⟨y,AY,cY⟩ (by simp)).2 z h2)
       have GK:w.heap.size<=(jI.setCell ⟨g,pre.length*4+1+1,none⟩ (.slice A' (y.l.length+1) c')).heap.size:=ay H9.o.2.2.2.1 rz.o.size;have SQ:aM (jI.setCell ⟨g,pre.length*4+1+1,none⟩ (.slice A' (y.l.length+1) c')) w.heap.size (.slice (some ⟨g,0,none⟩) (pre.length+1) cc) (Lp++[(⟨{y with l:=y.l.insertIdx at_ en},A',c'⟩:SM)]):=by
        exact SP.o
       have tW:=eG.o;subst tW;have KR:=jA (pre.length+1) pre {y with l:=y.l.insertIdx at_ en} (aj _) hT (by have:=HK.o;have:=su.o;omega) SQ GK (by rw[cW,Ti.o];rfl) oK.o
        ⟨by show(y.l.insertIdx at_ _).length<=90;rw[wD.o];omega,λe he=>by
         rcases(qu (by omega)).1 he with rfl|he
         .exact HEN.o
         .exact HLY.o e he⟩ (by have:=su.o;omega)
       refine KR.mono ?_;rintro e Ep ⟨rfl,zE⟩;have zE:=xh zE;have HO:=xh hO;clear hT hO GK SQ KR;go_wp2_with fail;go_ret;exact aC (((HO.o.trans zE.o).pt (aj _)).le (by have:=su.o;omega))
      .skip
       go_simp;refine aW hK (LX.o) (λaq=>?_);refine dn 5 91 λK hK=>?_;go_simp;refine aW hK (LX.o) (λaq=>?_);refine dn 9 95 λK hK=>?_;go_simp
       go_at_call 74
       refine KI.o.mono ?_;rintro e jI ⟨A',c',rfl,tQ,m8,f10⟩;have tQ:=xh tQ;have m8:=xh m8;have f10:=xh f10;have zD:=xh (vU.o jI m8.o);go_simp;refine aW hK (zD.o) (λaq=>?_);refine cV [(10,96),(11,97),(12,98)] ?_
       iterate 3 refine bj ?_
       refine mW 13 λK hK=>?_;go_simp;obtain⟨SP,sx,sz⟩:=H9.o.2.1.put (y.l.insertIdx at_ en) (A':=A') (c':=c') (by rw[wD.o];exact tQ.o) m8.o (by rw[wD.o];exact f10.o) H9.o.2.2.2.1;rw[rG.o]at SP sx sz;rw[wD.o]at SP;have SP:=xh SP
       replace sx:jI.cell? ⟨g,pre.length*4+2,none⟩=some (.slice AY y.l.length cY):=sx
       have rz:=xh (show ag (g::ah (.slice AY y.l.length cY)) w9 (jI.setCell ⟨g,pre.length*4+2,none⟩ (.slice A' (y.l.length+1) c'))from(m8.o.mono (λx hx _=>bz _ hx)).setCell (by simp) _);have Ov:=(H9.o.2.1.e ⟨y,AY,cY⟩ (by simp)).1
       have nI:=((H9.o.2.2.2.2.only m8.o (λhm=>by have:=(H4.o.2.1.e ⟨y,AY,cY⟩ (by simp)).1.lt _ hm;omega)).aU (p:=⟨g,pre.length*4+2,none⟩) (λe=>cC H9.o.2.1.s H9.o.2.2.2.2 (by decide) (by simp[ah];exact e)) (.slice A' (y.l.length+1) c'));have vx:=xh (And.intro (nI.ab (i:=0) rfl) (And.intro (nI.ab (i:=1) rfl) (nI.ab (i:=2) rfl)));clear Ov nI;go_simp;refine aW hK (vx.o) (λaq=>?_);refine wpAnyH_done (by kernel_rfl) ?_ _
       go_wp2_with fail;have hT:TQ (jI.setCell ⟨g,pre.length*4+1+1,none⟩ (.slice A' (y.l.length+1) c')) tb I F4 q3 n (Kz+26):=by
        have jV:=H9.o.2.1.off H9.o.1.2;have sy:=H9.o.2.1.tree H9.o.1.1;exact H9.o.1.only rz.o (λz hz hm=>by
         rcases ar.1 hz with h1|h1<;>rcases ar.1 hm with h2|h2
         .exact sy.1 (by rw[<-h1,h2];simp[ah])
         .exact sy.2 ⟨y,AY,cY⟩ (by simp) (by rw[<-h1];exact h2)
         .exact jV.1 z (by rw[h2];simp[ah]) h1
         .exact jV.2 ⟨y,AY,cY⟩ (by simp) z h2 h1)
       have hO:OB w.heap.size w (jI.setCell ⟨g,pre.length*4+1+1,none⟩ (.slice A' (y.l.length+1) c')) F F4:=H9.o.2.2.1.own rz.o (λz hz=>by
        rcases ar.1 hz with h2|h2
        .rw[h2];exact H9.o.2.1.f g (by simp[ah])
        .exact(H9.o.2.1.e ⟨y,AY,cY⟩ (by simp)).2 z h2)
       have GK:w.heap.size<=(jI.setCell ⟨g,pre.length*4+1+1,none⟩ (.slice A' (y.l.length+1) c')).heap.size:=ay H9.o.2.2.2.1 rz.o.size;have SQ:aM (jI.setCell ⟨g,pre.length*4+1+1,none⟩ (.slice A' (y.l.length+1) c')) w.heap.size (.slice (some ⟨g,0,none⟩) (pre.length+1) cc) (Lp++[(⟨{y with l:=y.l.insertIdx at_ en},A',c'⟩:SM)]):=by
        exact SP.o
       have tW:=eG.o;subst tW;have KR:=jA (pre.length+1) pre {y with l:=y.l.insertIdx at_ en} (aj _) hT (by have:=HK.o;have:=su.o;omega) SQ GK (by rw[cW,Ti.o];rfl) oK.o
        ⟨by show(y.l.insertIdx at_ _).length<=90;rw[wD.o];omega,λe he=>by
         rcases(qu (by omega)).1 he with rfl|he
         .exact HEN.o
         .exact HLY.o e he⟩ (by have:=su.o;omega)
       refine KR.mono ?_;rintro e Ep ⟨rfl,zE⟩;have zE:=xh zE;have HO:=xh hO;clear hT hO GK SQ KR;go_wp2_with fail;go_ret;exact aC (((HO.o.trans zE.o).pt (aj _)).le (by have:=su.o;omega))
     .have bC:=eG.o;rw[if_pos J7]at bC;subst bC;have hq:(e3 != 0)=true:=by rw[bne_iff_ne];exact J7
      have ki:(e3==0)=false:=by rw[beq_eq_false_iff_ne];exact J7
      go_wp2_with fail;go_ret;exact aC ((((H4.o.2.2.1.below (ae (Below.refl _ _) _)).pb (H4.o.1.2.below (ae (Below.refl _ _) _))).pt (aj _)).le (by omega))
   .rw[if_pos he];have hq:(er != 0)=true:=by rw[bne_iff_ne];exact he
    have ki:(er==0)=false:=by rw[beq_eq_false_iff_ne];exact he
    clear fy;go_enter func25,ntmps25;go_wp2_with fail;refine KW.o.mono ?_;rintro e w1 ⟨v,L,rfl,SA,nH,P1,o1⟩;have P1:=xh P1;have o1:=xh o1;clear SA nH;go_wp2_with fail;go_ret;exact aC ((PT.self P1.o o1.o).le (by omega))
  .rw[if_pos (by omega)];have s6:1024<(value.size:Int):=by omega
   have s5:¬(32<(key.size:Int)):=by omega
   clear fy;go_enter func25,ntmps25;go_wp2_with fail;go_ret;exact aC ((PT.self HT.o.2 (ag.refl F w)).le (by omega))
 .rw[if_pos (by omega)];have s5:32<(key.size:Int):=by omega
  clear fy;go_enter func25,ntmps25;go_wp2_with fail;go_ret;exact aC ((PT.self HT.o.2 (ag.refl F w)).le (by omega))
variable{n K:Nat}{p:Int}
def QS.Ts(q:QS):Nat:=(List.range 512).countP λj=>decide ((q.vw (j:Nat)).2=0)
theorem cnt_le(q:QS):q.Ts<=512:=by
 have:=Ir (p:=λj:Nat=>decide ((q.vw (j:Nat)).2=0)) (l:=List.range 512);rw[List.length_range]at this;exact this
theorem Wp.vw_lt{q:QS}(h:Wp q n K){j:Int}(h0:(q.vw j).2=0):0<=j/\j<512:=by
 refine⟨vw_pos h0,?_⟩;have hr:(q.a.aR j).2=0:=by
  rcases iC q j with ho|⟨i,f,hi,rfl,hp⟩
  .rw[eZ ho]at h0;exact h0
  .exact h.V.ex f (aA hi) hp
 have:=qO (xL.1 hr);have:=h.H.nl;omega
theorem Tt{q q':QS}(h:Wp q n K)(h0:(q.vw p).2=0)(hv:∀j,q'.vw j=if j=p then([],3)else q.vw j):q'.Ts+1=q.Ts:=by
 obtain⟨p1,p2⟩:=h.vw_lt h0;obtain⟨m,rfl⟩:∃m:Nat,p=(m:Int):=⟨p.toNat,by omega⟩;have hm:m<512:=by omega
 unfold QS.Ts;have key:∀N,m<N->((List.range N).countP λj=>decide ((q'.vw (j:Nat)).2=0))+1=(List.range N).countP λj=>decide ((q.vw (j:Nat)).2=0):=by
  intro N
  induction N with
  |zero=>intro h;omega
  |succ N ih=>
   intro hN;rw[Dl,xU,xU,Is,Is]
   by_cases e:m=N
   .subst e;have h1:decide ((q'.vw (m:Nat)).2=0)=false:=by rw[hv,if_pos rfl];decide
    rw[h1,h0];have h2:((List.range m).countP λj=>decide ((q'.vw (j:Nat)).2=0))=(List.range m).countP λj=>decide ((q.vw (j:Nat)).2=0):=by
     refine rM (λj hj=>?_);have:=kA.1 hj;rw[hv,if_neg (by omega)]
    rw[h2];simp
   .have h1:q'.vw (N:Nat)=q.vw (N:Nat):=by rw[hv,if_neg (by omega)]
    rw[h1];have:=ih (by omega);omega
 exact key 512 hm
theorem Tu{q q':QS}(hv:∀j,q'.vw j=q.vw j):q'.Ts=q.Ts:=by
 unfold QS.Ts;simp only[hv]
def m9:Nat->QS->Bool->List E->QS×Int
 |0,q,_,_=>(q,0)
 |m+1,q,leaf,l=>
  if leaf=false/\l.length=1 then
   if(q.bM (l.getD 0 Nd.E.zero).aU).2.2.2≠0 then((q.bM (l.getD 0 Nd.E.zero).aU).1,(q.bM (l.getD 0 Nd.E.zero).aU).2.2.2)
   else if((q.bM (l.getD 0 Nd.E.zero).aU).1.aS (l.getD 0 Nd.E.zero).aU).2≠0 then(q.bM (l.getD 0 Nd.E.zero).aU).1.aS (l.getD 0 Nd.E.zero).aU
   else m9 m ((q.bM (l.getD 0 Nd.E.zero).aU).1.aS (l.getD 0 Nd.E.zero).aU).1 (q.bM (l.getD 0 Nd.E.zero).aU).2.1 (q.bM (l.getD 0 Nd.E.zero).aU).2.2.1
  else if l=[]then q.cK 0 true []else q.cK 0 leaf l
def QS.sA(q:QS)(leaf:Bool)(l:List E):QS×Int:=m9 600 q leaf l
theorem Tv{q:QS}(h:Wp q n K)(p:Int):Wp (q.bM p).1 n (K+1)/\(∀j,(q.bM p).1.vw j=q.vw j):=by
 have hg:=(h.get p).1;have:(q.bM p).1=(q.dF p).1:=by unfold QS.bM;split<;>rfl
 rw[this];exact⟨hg.w,hg.v⟩
theorem Tw{q:QS}(h:Wp q n K)(h0:(q.aS p).2=0):(q.aS p).1.Ts+1=q.Ts:=by
 rcases(h.drop p).2 with⟨a,b,c⟩|⟨a,b,c⟩
 .exact Tt h a c
 .rw[h0]at b;exact absurd b (by decide)
theorem Kb{w:World}{tb:Nat}{I:Ix}{F:List Nat}{q:QS}{Kz:Nat}(h:TQ w tb I F q n Kz)(Th:Kz<=999999990000)(leaf:Bool)(A:Option Addr)(m c:Nat)(l:List E)(S:aK w 111 3 (.slice A m c) m (aH l))(hm:m<=1000):
  Calls prog 133 #[tp tb,bt leaf A m c] w λe w'=>e=.returned (.int .i64 (q.sA leaf l).2)/\PQ w' I F (q.sA leaf l).1 n (Kz+601)/\ag F w w':=by
 have KR:=xh (λ(W:World) (qj:QS) (kj:Nat) (hW:TQ W tb I F qj n kj) (hk:kj<=999999999999) (p:Int)=>nF hW hk p);have KD:=xh (λ(W:World) (qj:QS) (kj:Nat) (hW:TQ W tb I F qj n kj) (p:Int)=>qP hW.2 p);have KW:=xh (λ(W:World) (qj:QS) (kj:Nat) (hW:TQ W tb I F qj n kj) (hk:kj<=999999999999) (leaf:Bool) (A:Option Addr) (m c:Nat) (l:List E) (S:aK W 111 3 (.slice A m c) m (aH l)) (hm:m<=1000)=>oL hW hk 0 leaf A m c l S hm)
 have SC:l.length=m:=by have:=S.1;rw[Nd.ax]at this;omega
 obtain⟨R,hR⟩:∃R,q.sA leaf l=R:=⟨_,rfl⟩;rw[hR];unfold QS.sA at hR;have HR:=xh hR;have gu:=ae (Below.refl w.heap.size w) (.cells #[.bool leaf,.slice A m c] 118);have H0:=xh (show TQ _ tb I F q n (Kz+600-600)/\aK _ 111 3 (.slice A m c) m (aH l)/\aE _ w.heap.size 118 #[.bool leaf,.slice A m c]/\ag F w _ from⟨h.below gu,S.below gu,aE.new w 118 #[.bool leaf,.slice A m c],.ai gu⟩);have HCN:=xh (show q.Ts<600 from by have:=cnt_le q;omega)
 have Tx:=xh SC;have HLEN:=xh (λ(qj:QS) (p:Int)=>lS qj p);clear h hR S gu SC;unfold tp bt at *;go_enter func133,ntmps133;go_wp2_with fail
 go_loopg [5] 600 (λk pv wr=> ∃(qi:QS) (leaf:Bool) (A:Option Addr) (m c:Nat) (l:List E),k<=600/\m<=1000/\Hid (m9 k qi leaf l=R)/\Hid (qi.Ts<k)/\Hid (l.length=m)/\Hid (TQ wr tb I F qi n (Kz+600-k)/\aK wr 111 3 (.slice A m c) m (aH l)/\aE wr w.heap.size 118 #[.bool leaf,.slice A m c]/\ag F w wr))
 case atStart=>exact⟨q,leaf,A,m,c,l,by omega,hm,HR,HCN,Tx,H0⟩
 case round=>
  obtain⟨qi,lf,A,m,c,l,hk,hm,HR,HCN,Tx,H0⟩:=hrel;obtain⟨k',rfl⟩:∃k',gk=k'+1:=⟨gk-1,by have:=HCN.o;omega⟩;have B0:=xh H0.o.2.2.1;have x0:=B0.o.ab (i:=0) rfl;have x1:=B0.o.ab (i:=1) rfl
  by_cases hc:lf=false/\m=1
  .obtain⟨rfl,rfl⟩:=hc;obtain⟨ex,rfl⟩:∃ex,l=[ex]:=List.length_eq_one_iff.1 Tx.o;have bC:=HR.o;unfold m9 at bC;rw[if_pos ⟨rfl,rfl⟩,show([ex]:List E).getD 0 Nd.E.zero=ex from rfl]at bC;obtain⟨ga,ca,wB,Az,BA,_,_⟩:=H0.o.2.1.form (by omega) (by omega);injection Az with e1 ezz e3
   clear ezz;subst e1 e3;have xf:wr.cell? ⟨ga,2,none⟩=some (.int .i64 ex.aU):=BA.ab rfl;have K1:=xh (KR.o wr qi (Kz+600-(k'+1)) H0.o.1 (by omega) ex.aU);have hv:=Tv H0.o.1.2.wp ex.aU;have hl1:=HLEN.o qi ex.aU;generalize qi.bM ex.aU=r at *;obtain⟨q1,Ow,l1,er⟩:=r;dsimp only at *;have HV:=xh hv;have eG:=xh bC;clear bC hv BA;go_wp2_with fail;refine K1.o.mono ?_;rintro e w2 ⟨A1,c1,rfl,S2,f2,P2,o2⟩
   have HA2:=ae (Below.refl w2.heap.size w2) (.cells #[.bool Ow,.slice A1 l1.length c1] 118);have B3:=xh (aE.new w2 118 #[.bool Ow,.slice A1 l1.length c1]);have Kc:w.heap.size∉F:=H0.o.1.2.fR B0.o
   have H2:=xh (show TQ (w2.alloc (.cells #[.bool Ow,.slice A1 l1.length c1] 118)) tb I F q1 n (Kz+600-k')/\aK (w2.alloc (.cells #[.bool Ow,.slice A1 l1.length c1] 118)) 111 3 (.slice A1 l1.length c1) l1.length (aH l1)/\aE (w2.alloc (.cells #[.bool Ow,.slice A1 l1.length c1] 118)) w.heap.size 118 #[.bool false,.slice (some ⟨ga,0,none⟩) 1 c]/\ag F w (w2.alloc (.cells #[.bool Ow,.slice A1 l1.length c1] 118))/\w.heap.size<w2.heap.size from
    ⟨((H0.o.1.next o2 P2).below HA2).le (by omega),S2.below HA2,(B0.o.only o2 Kc).below HA2 (B0.o.only o2 Kc).lt,(H0.o.2.2.2.trans o2).trans (.ai HA2),(B0.o.only o2 Kc).lt⟩)
   clear S2 f2 P2 o2 HA2 x0 x1 xf
   by_cases he:er=0
   .subst he;have bC:=eG.o;rw[if_neg (show ¬((0:Int)≠0) by simp)]at bC;have K2:=xh (KD.o _ q1 _ H2.o.1 ex.aU);have hcnt:=Tw (q:=q1) H2.o.1.2.wp (p:=ex.aU);generalize q1.aS ex.aU=R2 at *;obtain⟨q2,e2⟩:=R2;dsimp only at *;have HCD:=xh hcnt;have eG:=xh bC;clear bC hcnt;unfold pp at K2;have xt:=H2.o.1.1.ab (i:=0) rfl;unfold pp at xt;go_wp2_with fail;refine K2.o.mono ?_;rintro e w4 ⟨rfl,P4,o4⟩;have hnf:w2.heap.size∉F:=H2.o.1.2.fR B3.o
    have Kc:w.heap.size∉F:=H2.o.1.2.fR H2.o.2.2.1;have H4:=xh (show TQ w4 tb I F q2 n (Kz+600-k')/\aK w4 111 3 (.slice A1 l1.length c1) l1.length (aH l1)/\aE w4 w.heap.size 118 #[.bool false,.slice (some ⟨ga,0,none⟩) 1 c]/\ag F w w4 from
     ⟨H2.o.1.next o4 P4,PT.ML (.self P4 o4) H2.o.1.2 H2.o.2.1,H2.o.2.2.1.only o4 Kc,H2.o.2.2.2.1.trans o4⟩)
    have B4:=xh (B3.o.only o4 hnf);clear P4 o4 xt hnf Kc B3
    by_cases wC:e2=0
    .subst wC;have bC:=eG.o;rw[if_neg (show ¬((0:Int)≠0) by simp)]at bC;have eG:=xh bC;obtain⟨SB,so,z0,z1,zf0,zf1⟩:=EE (b':=Ow) (v':= .slice A1 l1.length c1) H4.o.2.2.1;have y0:=B4.o.ab (i:=0) rfl;have y1:=B4.o.ab (i:=1) rfl;have HTB:tb≠w.heap.size:=λe=>H4.o.1.1.lI H4.o.2.2.1 (by decide) e;have Kc:w.heap.size∉F:=H4.o.1.2.fR H4.o.2.2.1
     have H5:=xh (show TQ ((w4.setCell ⟨w.heap.size,0,none⟩ (.bool Ow)).setCell ⟨w.heap.size,1,none⟩ (.slice A1 l1.length c1)) tb I F q2 n (Kz+600-k')/\aK ((w4.setCell ⟨w.heap.size,0,none⟩ (.bool Ow)).setCell ⟨w.heap.size,1,none⟩ (.slice A1 l1.length c1)) 111 3 (.slice A1 l1.length c1) l1.length (aH l1)/\aE ((w4.setCell ⟨w.heap.size,0,none⟩ (.bool Ow)).setCell ⟨w.heap.size,1,none⟩ (.slice A1 l1.length c1)) w.heap.size 118 #[.bool Ow,.slice A1 l1.length c1]/\ag F w ((w4.setCell ⟨w.heap.size,0,none⟩ (.bool Ow)).setCell ⟨w.heap.size,1,none⟩ (.slice A1 l1.length c1))from
      ⟨H4.o.1.only so (λz hz hm=>by
       rw[aP.1 hm]at hz
       rcases ar.1 hz with h|h
       .exact HTB h.symm
       .exact Kc h),H4.o.2.1.only so (λz hz hm=>cC H4.o.2.1 H4.o.2.2.1 (by decide) (by rw[<-aP.1 hm];exact hz)),SB,H4.o.2.2.2.aN so (λz hz dV=>by rw[aP.1 hz]at dV;omega)⟩)
     clear SB so Kc HTB bC;go_wp2_with fail
     go_roundg k'
     case measure=>omega
     case rel=>exact⟨q2,Ow,A1,l1.length,c1,l1,by omega,by omega,eG,xh (by have h1:=HCD.o (by trivial);have h2:=Tu HV.o.2;have h3:=HCN.o;omega),xh rfl,H5⟩
    .have bC:=eG.o;rw[if_pos wC]at bC;subst bC;have hq:(e2 != 0)=true:=by rw[bne_iff_ne];exact wC
     have ki:(e2==0)=false:=by rw[beq_eq_false_iff_ne];exact wC
     go_wp2_with fail;go_ret;exact aC ⟨H4.o.1.2.le (by omega),H4.o.2.2.2⟩
   .have bC:=eG.o;rw[if_pos he]at bC;subst bC;have hq:(er != 0)=true:=by rw[bne_iff_ne];exact he
    have ki:(er==0)=false:=by rw[beq_eq_false_iff_ne];exact he
    go_wp2_with fail;go_ret;exact aC ⟨H2.o.1.2.le (by omega),H2.o.2.2.2.1⟩
  .have bC:=HR.o;unfold m9 at bC;rw[if_neg (by rw[Tx.o];exact hc)]at bC
   by_cases hm0:m=0
   .subst hm0;have Nf:l=[]:=IE.1 Tx.o;rw[if_pos Nf]at bC;subst bC;obtain⟨SB,so,z0,z1,zf0,zf1⟩:=EE (b':=true) (v':= .slice none 0 0) H0.o.2.2.1;have HTB:tb≠w.heap.size:=λe=>H0.o.1.1.lI H0.o.2.2.1 (by decide) e;have Kc:w.heap.size∉F:=H0.o.1.2.fR H0.o.2.2.1
    have H5:=xh (show TQ ((wr.setCell ⟨w.heap.size,0,none⟩ (.bool true)).setCell ⟨w.heap.size,1,none⟩ (.slice none 0 0)) tb I F qi n (Kz+600-(k'+1))/\ag F w ((wr.setCell ⟨w.heap.size,0,none⟩ (.bool true)).setCell ⟨w.heap.size,1,none⟩ (.slice none 0 0))from
      ⟨H0.o.1.only so (λz hz hm=>by
       rw[aP.1 hm]at hz
       rcases ar.1 hz with h|h
       .exact HTB h.symm
       .exact Kc h),H0.o.2.2.2.aN so (λz hz dV=>by rw[aP.1 hz]at dV;omega)⟩)
    have K6:=xh (KW.o _ qi _ H5.o.1 (by omega) true none 0 0 [] (aK.nil _ _ _) (by omega));have y0:=SB.ab (i:=0) rfl;have y1:=SB.ab (i:=1) rfl;clear SB so Kc HTB Nf
    cases lf
    .skip
     go_wp2_with fail;refine K6.o.mono ?_;rintro e w6 ⟨rfl,P6,o6⟩;go_wp2_with fail;go_ret;exact aC ⟨P6.le (by omega),H5.o.2.trans o6⟩
    .skip
     go_wp2_with fail;refine K6.o.mono ?_;rintro e w6 ⟨rfl,P6,o6⟩;go_wp2_with fail;go_ret;exact aC ⟨P6.le (by omega),H5.o.2.trans o6⟩
   .rw[if_neg (λe=>hm0 (by rw[<-Tx.o,e];rfl))]at bC;subst bC;have K6:=xh (KW.o _ qi _ H0.o.1 (by omega) lf A m c l H0.o.2.1 hm);have hmI:((m:Nat):Int)≠0:=by omega
    cases lf
    .have hm1:((m:Nat):Int)≠1:=λe=>hc ⟨rfl,by omega⟩;have hm1':¬m=1:=by omega
     clear hc;go_wp2_with fail;refine K6.o.mono ?_;rintro e w6 ⟨rfl,P6,o6⟩;go_wp2_with fail;go_ret;exact aC ⟨P6.le (by omega),H0.o.2.2.2.trans o6⟩
    .clear hc;go_wp2_with fail;refine K6.o.mono ?_;rintro e w6 ⟨rfl,P6,o6⟩;go_wp2_with fail;go_ret;exact aC ⟨P6.le (by omega),H0.o.2.2.2.trans o6⟩
variable{w:World}{b tb n Kz:Nat}{I:Ix}{F:List Nat}
def gi:List Step->QS->QS×Int
 |[],q=>(q,0)
 |[x],q=>if x.leaf=true then q.cK x.aw x.leaf x.l else q.sA x.leaf x.l
 |x::y::up,q=>
  if x.l=[]then
   if(q.aS x.aw).2≠0 then q.aS x.aw
   else gi ({y with l:=y.l.eraseIdx y.at_}::up) (q.aS x.aw).1
  else q.cK x.aw x.leaf x.l
 termination_by l=>l.length
theorem wE(x:Step)(q:QS):gi [x] q=if x.leaf=true then q.cK x.aw x.leaf x.l else q.sA x.leaf x.l:=by
 unfold gi;rfl
theorem wF(x y:Step)(up:List Step)(q:QS):gi (x::y::up) q=if x.l=[]then
   if(q.aS x.aw).2≠0 then q.aS x.aw
   else gi ({y with l:=y.l.eraseIdx y.at_}::up) (q.aS x.aw).1
  else q.cK x.aw x.leaf x.l:=by
 conv=>lhs;unfold gi
theorem aM.tX{g m cc:Nat}{Lp:List SM}{Z:SM}{k:Nat}(h:aM w b (.slice (some ⟨g,0,none⟩) m cc) (Lp++[Z]))(hp:Lp.length=k)(i:Nat)(hi:i<4):w.cell? ⟨g,k*4+i,none⟩=Z.cells[i]?:=by
 have h1:=h.cell (k:=Lp.length) (Z:=Z) (by rw[dE (aj _),eU];rfl) i hi;rw[hp]at h1;exact h1
theorem Ty(A:Option Addr)(m c m' c':Nat):ah (.slice A m c)=ah (.slice A m' c'):=by cases A<;>rfl
theorem GL{q:QS}{v:Value}{L:List SM}(pre:List Step)(x:Step)(h:TQ w tb I F q n Kz)(Th:Kz<=999999980000)(SA:aM w b v L)(hb:b<=w.heap.size)(nH:L.map SM.s=pre++[x])(rn:∀s∈pre,s.at_<s.l.length/\s.l.length<=1000)(Ay:x.l.length<=1000)(hp16:pre.length<=16):
  Calls prog 76 #[tp tb,v] w λe w'=>e=.returned (.int .i64 (gi (x::pre.reverse) q).2)/\PB b w w' I F (gi (x::pre.reverse) q).1 n (Kz+601):=by
 obtain⟨Lp,A,c,g,cc,rfl,lk,rfl,hbg,Ea,uj,gK,Qo,S1,f1⟩:=SA.last nH;have KD:=xh (λ(W:World) (qj:QS) (hW:TQ W tb I F qj n Kz) (p:Int)=>qP hW.2 p);have KW:=xh (λ(W:World) (qj:QS) (kj:Nat) (hW:TQ W tb I F qj n kj) (hk:kj<=999999999999) (p:Int) (leaf:Bool) (A:Option Addr) (m c:Nat) (l:List E) (S:aK W 111 3 (.slice A m c) m (aH l)) (hm:m<=1000)=>oL hW hk p leaf A m c l S hm)
 have KL:=xh (λ(W:World) (qj:QS) (hW:TQ W tb I F qj n Kz) (leaf:Bool) (A:Option Addr) (m c:Nat) (l:List E) (S:aK W 111 3 (.slice A m c) m (aH l)) (hm:m<=1000)=>Kb hW (by omega) leaf A m c l S hm);obtain⟨R,hR⟩:∃R,gi (x::pre.reverse) q=R:=⟨_,rfl⟩;rw[hR];have HR:=xh hR;have HM:=xh lk;have oK:=xh rn;have HXL:=xh Ay
 have HA:=xh (show aM w b (.slice (some ⟨g,0,none⟩) (pre.length+1) cc) (Lp++[⟨x,A,c⟩])/\TQ w tb I F q n Kz/\OB b w w F F/\b<=w.heap.size from⟨SA,h,OB.refl _ _ _,hb⟩);clear h SA nH rn Ay hR gK Qo S1 f1 lk;unfold tp bt at *;go_enter func76,ntmps76;go_wp2_with fail
 go_loopw [1] (λsv wr=> ∃(pre:List Step) (x:Step) (Lp:List SM) (A:Option Addr) (c:Nat) (qi:QS),pre.length<=16/\pre.length+1<=cc/\sv=.slice (some ⟨g,0,none⟩) (pre.length+1) cc/\Hid (Lp.map SM.s=pre)/\Hid (gi (x::pre.reverse) qi=R)/\Hid (∀s∈pre,s.at_<s.l.length/\s.l.length<=1000)/\Hid (x.l.length<=1000)/\Hid (aM wr b (.slice (some ⟨g,0,none⟩) (pre.length+1) cc) (Lp++[⟨x,A,c⟩])/\TQ wr tb I F qi n Kz/\OB b w wr F F/\b<=wr.heap.size)) (λsv _=>LU sv)
 case atStart=>exact⟨pre,x,Lp,A,c,q,hp16,Ea,rfl,HM,HR,oK,HXL,HA⟩
 case round=>
  obtain⟨pre,x,Lp,A,c,qi,hp16,Ea,rfl,HM,HR,oK,HXL,HA⟩:=hrel;have rG:=xh (show Lp.length=pre.length from by rw[<-HM.o,fM]);obtain⟨xp,xf,xl,xa⟩:=x;dsimp only at HXL;have c0:wr.cell? ⟨g,pre.length*4,none⟩=some (.int .i64 xp):=HA.o.1.tX rG.o 0 (by omega);have c1:wr.cell? ⟨g,pre.length*4+1,none⟩=some (.bool xf):=HA.o.1.tX rG.o 1 (by omega);have c2:wr.cell? ⟨g,pre.length*4+1+1,none⟩=some (.slice A xl.length c):=HA.o.1.tX rG.o 2 (by omega)
  have c3:wr.cell? ⟨g,pre.length*4+3,none⟩=some (.int .i64 (xa:Nat)):=HA.o.1.tX rG.o 3 (by omega)
  rcases rO pre with rfl|⟨dG,y,hpe⟩
  .have bC:=HR.o;rw[List.reverse_nil,wE]at bC;rw[show([]:List Step).length=0 from rfl,n7]at c0 c1 c2 c3;rw[bh]at c1 c2 c3
   cases xf
   .rw[if_neg (by simp)]at bC;subst bC;have gu:=ae (Below.refl wr.heap.size wr) (.cells #[.int .i64 xp,.bool false,.slice A xl.length c,.int .i64 (xa:Nat)] 120);have BS:=xh (aE.new wr 120 #[.int .i64 xp,.bool false,.slice A xl.length c,.int .i64 (xa:Nat)]);have y0:=BS.o.ab (i:=0) rfl;have y1:=BS.o.ab (i:=1) rfl;have y2:=BS.o.ab (i:=2) rfl
    have H1:=xh (show TQ _ tb I F qi n Kz/\aK _ 111 3 (.slice A xl.length c) xl.length (aH xl)/\OB b w _ F F from⟨HA.o.2.1.below gu,(HA.o.1.e ⟨⟨xp,false,xl,xa⟩,A,c⟩ (by simp)).1.below gu,HA.o.2.2.1.below gu⟩);clear gu;have K1:=xh (KL.o _ qi H1.o.1 false A xl.length c xl H1.o.2.1 HXL.o);unfold bt at K1;go_wp2_with fail;refine K1.o.mono ?_;rintro e w6 ⟨rfl,P6,o6⟩;have P6:=xh P6;have o6:=xh o6;clear y0 y1 y2;go_wp2_with fail;go_ret
    exact aC (((H1.o.2.2.step hb o6.o (λ_ hg=> .inl hg)).pb P6.o).le (by omega))
   .rw[if_pos rfl]at bC;subst bC;have gu:=ae (Below.refl wr.heap.size wr) (.cells #[.int .i64 xp,.bool true,.slice A xl.length c,.int .i64 (xa:Nat)] 120);have BS:=xh (aE.new wr 120 #[.int .i64 xp,.bool true,.slice A xl.length c,.int .i64 (xa:Nat)]);have y0:=BS.o.ab (i:=0) rfl;have y1:=BS.o.ab (i:=1) rfl;have y2:=BS.o.ab (i:=2) rfl
    have H1:=xh (show TQ _ tb I F qi n Kz/\aK _ 111 3 (.slice A xl.length c) xl.length (aH xl)/\OB b w _ F F from⟨HA.o.2.1.below gu,(HA.o.1.e ⟨⟨xp,true,xl,xa⟩,A,c⟩ (by simp)).1.below gu,HA.o.2.2.1.below gu⟩);clear gu;have K1:=xh (KW.o _ qi Kz H1.o.1 (by omega) xp true A xl.length c xl H1.o.2.1 HXL.o);go_wp2_with fail;refine K1.o.mono ?_;rintro e w6 ⟨rfl,P6,o6⟩;have P6:=xh P6;have o6:=xh o6;clear y0 y1 y2;go_wp2_with fail;go_ret
    exact aC (((H1.o.2.2.step hb o6.o (λ_ hg=> .inl hg)).pb P6.o).le (by omega))
  .obtain rfl:pre=dG++[y]:=by simpa using hpe
   clear hpe;have Dy:(dG++[y]).length=dG.length+1:=by simp
   generalize (dG++[y]).length=k at *;have s1:IntKind.i64.wrap (((k+1:Nat):Int)-1)=(k:Int):=by rw[show((k+1:Nat):Int)-1=(k:Int) by omega];exact IntWalk.i64_in _ (by omega)
   have s2:(k:Int)<((k+1:Nat):Int):=by omega
   have s3:(1:Int)<((k+1:Nat):Int):=by omega
   have s4:IntKind.i64.wrap (k:Int)=(k:Int):=IntWalk.i64_in _ (by omega);have s5:(k:Int)<(k:Int)+1/\0<=(k:Int):=by omega
   have s6:IntKind.i64.wrap ((k:Int)-1)=(dG.length:Int):=by rw[show(k:Int)-1=(dG.length:Int) by omega];exact IntWalk.i64_in _ (by omega)
   have s7:(dG.length:Int)<(k:Int):=by omega
   have HK2:=xh Dy;clear Dy;have bC:=HR.o;rw[List.reverse_append,List.reverse_singleton,qy,wF]at bC;dsimp only at bC
   by_cases D7:xl.length=0
   .have hxn:xl=[]:=IE.1 D7;subst hxn;rw[if_pos rfl]at bC;have KD2:=xh (KD.o _ qi HA.o.2.1.drew xp);have HS1:=xh (show(λW=>W.cell? ⟨tb,0,none⟩=some (.pointer (some ⟨I.pb,0,none⟩))/\W.cell? ⟨g,k*4,none⟩=some (.int .i64 xp)) wr.drew from⟨HA.o.2.1.drew.1.ab (i:=0) rfl,(HA.o.1.below (Below.refl _ _).drew).tX rG.o 0 (by omega)⟩);generalize qi.aS xp=R2 at *;obtain⟨qd,ed⟩:=R2;dsimp only at *;have eG:=xh bC
    obtain⟨sP,AY,cY,rfl,J8⟩:∃sP AY cY,Lp=sP++[(⟨y,AY,cY⟩:SM)]/\sP.map SM.s=dG:=by
     have:=HM.o
     rcases rO Lp with h0|⟨sP,Y,h0⟩
     .rw[h0]at this;simp at this
     .have h0:Lp=sP++[Y]:=by simpa using h0
      rw[h0,cW]at this;obtain⟨a1,a2⟩:=Iq this rfl;obtain⟨ys,AY,cY⟩:=Y;simp at a2;subst a2;exact⟨sP,AY,cY,h0,a1⟩
    have HPL':=xh (show sP.length=dG.length from by rw[<-J8,fM]);have Ti:=xh J8;have hfy:=oK.o y (by simp);have hya:=hfy.1;have hyn:=hfy.2;have AK:(0:Int)<=(k:Int)/\(k:Int)<=(cc:Int):=by omega
    clear bC hfy J8 D7;unfold pp at *;go_wp2_with fail;refine wp_region_held_drew (S:=λW=>W.cell? ⟨tb,0,none⟩=some (.pointer (some ⟨I.pb,0,none⟩))/\W.cell? ⟨g,k*4,none⟩=some (.int .i64 xp)) (by kernel_rfl) (HS1.o) (λaq=>?_);refine cV [(0,23),(1,24),(2,25),(3,26),(4,27),(5,28),(6,29),(7,30),(8,31),(9,32),(10,33)] ?_
    iterate 11 refine bj ?_
    refine dn 11 34 λK hK=>?_;go_simp
    go_at_call 132
    refine KD2.o.mono ?_;rintro e w2 ⟨rfl,P2,o2⟩;have o2:=xh o2;have P2:=xh P2;have vU:=xh (show(λW=>W.cell? ⟨tb,0,none⟩=some (.pointer (some ⟨I.pb,0,none⟩))/\W.cell? ⟨g,k*4,none⟩=some (.int .i64 xp)) w2 from⟨(HA.o.2.1.drew.next o2.o P2.o).1.ab (i:=0) rfl,((HA.o.1.below (Below.refl _ _).drew).tV HA.o.2.1.drew.2 o2.o).tX rG.o 0 (by omega)⟩);go_simp;refine aW hK (vU.o) (λaq=>?_);refine cV [(12,5)] ?_
    iterate 1 refine bj ?_
    refine wpAnyH_done (by kernel_rfl) ?_ _;have SA2:=(HA.o.1.below (Below.refl _ _).drew).tV HA.o.2.1.drew.2 o2.o;have hpop:=SA2.pop;rw[rG.o]at hpop;have H2:=xh (show TQ w2 tb I F qd n Kz/\aM w2 b (.slice (some ⟨g,0,none⟩) k cc) (sP++⟨y,AY,cY⟩::[])/\OB b w w2 F F/\b<=w2.heap.size from
     ⟨HA.o.2.1.drew.next o2.o P2.o,hpop,(HA.o.2.2.1.below (Below.refl _ _).drew).step hb o2.o (λ_ hg=> .inl hg),ay HA.o.2.2.2 o2.o.size⟩)
    clear SA2 hpop P2 o2 vU c0 c1 c2 c3
    by_cases he:ed=0
    .subst he;have bC:=eG.o;rw[if_neg (show ¬((0:Int)≠0) by simp)]at bC;have eG:=xh bC;obtain⟨w8,AV⟩:∃w8,w2.drew=w8:=⟨_,rfl⟩;have xF:Below w2.heap.size w2 w8:=by rw[<-AV];exact(Below.refl _ _).drew
     have H8:=xh (show TQ w8 tb I F qd n Kz/\aM w8 b (.slice (some ⟨g,0,none⟩) k cc) (sP++⟨y,AY,cY⟩::[])/\OB b w w8 F F/\b<=w8.heap.size from
      ⟨H2.o.1.below xF,H2.o.2.1.below xF,H2.o.2.2.1.below xF,ay H2.o.2.2.2 xF.size⟩)
     have Ou:=xh (show(λW=>W.cell? ⟨g,dG.length*4+3,none⟩=some (.int .i64 (y.at_:Nat))) w8 from H8.o.2.1.tX HPL'.o 3 (by omega));have x8:w8.cell? ⟨g,dG.length*4+2,none⟩=some (.slice AY y.l.length cY):=H8.o.2.1.tX HPL'.o 2 (by omega);have SY:=H8.o.2.1.e ⟨y,AY,cY⟩ (by simp);have KDE:=xh (Nd.pW SY.1 y.at_ hya (show y.l.length<=100000 by omega));have AB:=xh (show(y.l.eraseIdx y.at_).length=y.l.length-1 from by rw[IF hya])
     have s8:IntKind.i64.wrap ((y.at_:Int)+1)=(y.at_:Int)+1:=IntWalk.i64_in _ (by omega);have HS9:=xh (show ∀W,ag (ah (.slice AY y.l.length cY)) w8 W->(λW=>W.cell? ⟨g,dG.length*4+3,none⟩=some (.int .i64 (y.at_:Nat))) W from λW o=>by
      have hgY:g∉ah (.slice AY y.l.length cY):=λhm=>gP SY.1 H8.o.2.1.s (by decide) g hm (by simp[ah]);exact(o.cell (p:=⟨g,dG.length*4+3,none⟩) (dN Ou.o) hgY).trans Ou.o)
     clear SY xF bC;go_wp2_with fail;refine wp_region_held_drew (S:=λW=>W.cell? ⟨g,dG.length*4+3,none⟩=some (.int .i64 (y.at_:Nat))) (by kernel_rfl) (by rw[AV];exact Ou.o) (λaq=>?_);rw[AV];clear AV;refine cV [(0,48),(1,49),(2,50),(3,51),(4,52),(6,54),(7,55),(8,56),(9,57),(10,58),(11,59),(12,60),(13,61),(14,62)] ?_
     iterate 14 refine bj ?_
     refine dn 5 53 λK hK=>?_;go_simp;refine aW hK (Ou.o) (λaq=>?_);refine dn 15 63 λK hK=>?_;go_simp
     go_at_call 72
     refine KDE.o.mono ?_;rintro e w9 ⟨rfl,S9,o9⟩;have S9:=xh S9;have o9:=xh o9;have LX:=xh (HS9.o w9 o9.o);go_simp;refine aW hK (LX.o) (λaq=>?_);refine cV [(16,64),(17,65),(18,66)] ?_
     iterate 3 refine bj ?_
     refine mW 19 λK hK=>?_;go_simp;obtain⟨SP,sx,sz⟩:=H8.o.2.1.put (Lp:=sP) (Ls:=[]) (y.l.eraseIdx y.at_) (A':=AY) (c':=cY) (by rw[AB.o];exact S9.o) o9.o (λz hz=> .inl ((Ty AY _ _ _ _)▸hz)) H8.o.2.2.2;rw[HPL'.o]at SP sx sz;rw[AB.o]at SP;have SP:=xh SP
     replace sx:w9.cell? ⟨g,dG.length*4+2,none⟩=some (.slice AY y.l.length cY):=sx
     have rz:=xh (show ag (g::ah (.slice AY y.l.length cY)) w8 (w9.setCell ⟨g,dG.length*4+2,none⟩ (.slice AY (y.l.length-1) cY))from(o9.o.mono (λx hx _=>bz _ hx)).setCell (by simp) _);have vx:=xh (show(λW=>W.cell? ⟨g,dG.length*4+3,none⟩=some (.int .i64 (y.at_:Nat))) (w9.setCell ⟨g,dG.length*4+2,none⟩ (.slice AY (y.l.length-1) cY))from SP.o.tX HPL'.o 3 (by omega));go_simp;refine aW hK (vx.o) (λaq=>?_)
     refine wpAnyH_done (by kernel_rfl) ?_ _;have jV:=H8.o.2.1.off H8.o.1.2;have sy:=H8.o.2.1.tree H8.o.1.1
     have HN:=xh (show aM (w9.setCell ⟨g,dG.length*4+2,none⟩ (.slice AY (y.l.length-1) cY)) b (.slice (some ⟨g,0,none⟩) k cc) (sP++[⟨{y with l:=y.l.eraseIdx y.at_},AY,cY⟩])/\TQ (w9.setCell ⟨g,dG.length*4+2,none⟩ (.slice AY (y.l.length-1) cY)) tb I F qd n Kz/\OB b w (w9.setCell ⟨g,dG.length*4+2,none⟩ (.slice AY (y.l.length-1) cY)) F F/\b<=(w9.setCell ⟨g,dG.length*4+2,none⟩ (.slice AY (y.l.length-1) cY)).heap.size from
      ⟨SP.o,H8.o.1.only rz.o (λz hz hm=>by
       rcases ar.1 hz with h1|h1<;>rcases ar.1 hm with h2|h2
       .exact sy.1 (by rw[<-h1,h2];simp[ah])
       .exact sy.2 ⟨y,AY,cY⟩ (by simp) (by rw[<-h1];exact h2)
       .exact jV.1 z (by rw[h2];simp[ah]) h1
       .exact jV.2 ⟨y,AY,cY⟩ (by simp) z h2 h1),H8.o.2.2.1.own rz.o (λz hz=>by
       rcases ar.1 hz with h2|h2
       .rw[h2];exact H8.o.2.1.f g (by simp[ah])
       .exact(H8.o.2.1.e ⟨y,AY,cY⟩ (by simp)).2 z h2),ay H8.o.2.2.2 rz.o.size⟩)
     clear jV sy;go_wp2_with fail;go_roundw
     case rel=>exact⟨dG,{y with l:=y.l.eraseIdx y.at_},sP,AY,cY,qd,by have:=HK2.o;omega,by have:=HK2.o;omega,by rw[HK2.o],Ti,eG,xh (λs hs=>oK.o s (by simp[hs])),xh (show(y.l.eraseIdx y.at_).length<=1000 from by rw[AB.o];omega),by rw[<-HK2.o];exact HN⟩
     case measure=>(have:=HK2.o;simp only[LU];omega)
    .have bC:=eG.o;rw[if_pos he]at bC;subst bC;have hq:(ed != 0)=true:=by rw[bne_iff_ne];exact he
     have ki:(ed==0)=false:=by rw[beq_eq_false_iff_ne];exact he
     go_wp2_with fail;go_ret;exact aC ((H2.o.2.2.1.pb H2.o.1.2).le (by omega))
   .rw[if_neg (λe=>D7 (by rw[e];rfl))]at bC;subst bC;have hx1:((xl.length:Nat):Int)≠0:=by omega
    have hx2:(((xl.length:Nat):Int)==0)=false:=by rw[beq_eq_false_iff_ne];exact hx1
    have gu:=ae (Below.refl wr.heap.size wr) (.cells #[.int .i64 xp,.bool xf,.slice A xl.length c,.int .i64 (xa:Nat)] 120);have BS:=xh (aE.new wr 120 #[.int .i64 xp,.bool xf,.slice A xl.length c,.int .i64 (xa:Nat)]);have y0:=BS.o.ab (i:=0) rfl;have y1:=BS.o.ab (i:=1) rfl;have y2:=BS.o.ab (i:=2) rfl
    have H1:=xh (show TQ _ tb I F qi n Kz/\aK _ 111 3 (.slice A xl.length c) xl.length (aH xl)/\OB b w _ F F from⟨HA.o.2.1.below gu,(HA.o.1.e ⟨⟨xp,xf,xl,xa⟩,A,c⟩ (by simp)).1.below gu,HA.o.2.2.1.below gu⟩);clear gu;have K1:=xh (KW.o _ qi Kz H1.o.1 (by omega) xp xf A xl.length c xl H1.o.2.1 HXL.o);go_wp2_with fail;refine K1.o.mono ?_;rintro e w6 ⟨rfl,P6,o6⟩;have P6:=xh P6;have o6:=xh o6;clear y0 y1 y2;go_wp2_with fail;go_ret
    exact aC (((H1.o.2.2.step hb o6.o (λ_ hg=> .inl hg)).pb P6.o).le (by omega))
def QS.jo(q:QS)(key:ByteArray):QS×Int:=
 if(q.eB key).2.2≠0 then((q.eB key).1,(q.eB key).2.2)
 else if cd (iE (q.eB key).2.1).l key=false then((q.eB key).1,9)
 else if((q.eB key).1.kW (iE (q.eB key).2.1).l key).2≠0 then(q.eB key).1.kW (iE (q.eB key).2.1).l key
 else gi ({iE (q.eB key).2.1 with l:=pZ (iE (q.eB key).2.1).l key}::(q.eB key).2.1.dropLast.reverse) ((q.eB key).1.kW (iE (q.eB key).2.1).l key).1
theorem GM{q:QS}(h:TQ w tb I F q n Kz)(Th:Kz<=999999970000)(key:ByteArray):
  Calls prog 26 #[tp tb,.string key] w λe w'=>e=.returned (.int .i64 (q.jo key).2)/\PT w w' I F (q.jo key).1 n (Kz+700):=by
 have KW:=xh (zA h (by omega) key);have HT:=xh h;have fy:=J6 (q:=q) (key:=key);unfold QS.jo;generalize q.eB key=R at *;obtain⟨q1,steps,er⟩:=R;dsimp only at *;unfold tp at *
 by_cases he:er=0
 .subst he;obtain⟨pre,x,rfl,uk,NY,iV,hlen⟩:=fy rfl;rw[if_neg (by simp),show iE (pre++[x])=x from by unfold iE;simp,show(pre++[x]).dropLast=pre from by simp];have hxo:=iV x (by simp);obtain⟨hm,hl57,_⟩:=hxo;have hm:=xh hm;have oK:=xh (show ∀s∈pre,Fit s from λs hs=>(iV s (by simp[hs])).fit (NY s hs));clear fy NY iV uk h
  obtain⟨RR,bC⟩:∃RR,(if cd x.l key=false then(q1,9)else if(q1.kW x.l key).2≠0 then q1.kW x.l key else gi ({x with l:=pZ x.l key}::pre.reverse) (q1.kW x.l key).1)=RR:=⟨_,rfl⟩;rw[bC];have eG:=xh bC;clear bC;go_enter func26,ntmps26;go_wp2_with fail;refine KW.o.mono ?_;rintro e w1 ⟨v,L,rfl,SA,nH,P1,o1⟩;have Tp:=SA.last nH;obtain⟨Lp,A,c,g,cc,rfl,lk,rfl,hbg,Ea,uj,gK,Qo,S1,f1⟩:=Tp
  have H1:=xh (show TQ w1 tb I F q1 n (Kz+16)/\aM w1 w.heap.size (.slice (some ⟨g,0,none⟩) (pre.length+1) cc) (Lp++[⟨x,A,c⟩])/\OB w.heap.size w w1 F F/\w.heap.size<=w1.heap.size from⟨HT.o.next o1 P1,SA,(OB.refl w.heap.size w F).step (aj _) o1 (λ_ hg=> .inl hg),o1.size⟩);have rG:=xh (show Lp.length=pre.length from by rw[<-lk,fM]);have Ti:=xh lk;have S1:=xh S1;have x1:w1.cell? ⟨g,pre.length*4+1,none⟩=some (.bool x.leaf):=gK 1 (by omega)
  have x2:w1.cell? ⟨g,pre.length*4+1+1,none⟩=some (.slice A x.l.length c):=gK 2 (by omega);have s1:IntKind.i64.wrap (((pre.length+1:Nat):Int)-1)=(pre.length:Int):=by rw[show((pre.length+1:Nat):Int)-1=(pre.length:Int) by omega];exact IntWalk.i64_in _ (by omega)
  have s2:(pre.length:Int)<((pre.length+1:Nat):Int):=by omega
  have KF:=xh (Nd.vj x.leaf A x.l.length c x.l key (Nd.aK.aH S1.o).2 (by omega) hm.o);unfold bt at KF;clear SA nH P1 o1 lk gK Qo f1;go_wp2_with fail;refine KF.o.mono ?_;rintro e w3 ⟨rfl,cZ⟩;have O3:=xh cZ
  have H3:=xh (show TQ w3 tb I F q1 n (Kz+16)/\aM w3 w.heap.size (.slice (some ⟨g,0,none⟩) (pre.length+1) cc) (Lp++[⟨x,A,c⟩])/\OB w.heap.size w w3 F F/\w.heap.size<=w3.heap.size from⟨H1.o.1.below O3.o,H1.o.2.1.below O3.o,H1.o.2.2.1.below O3.o,ay H1.o.2.2.2 O3.o.size⟩);have S3:=xh (S1.o.below cZ);have u2:w3.cell? ⟨g,pre.length*4+1+1,none⟩=some (.slice A x.l.length c):=(O3.o.cell (p:=⟨g,pre.length*4+1+1,none⟩) (dN x2)).trans x2
  clear x1 x2 cZ H1 S1 O3
  by_cases hh:cd x.l key=true
  .have bC:=eG.o;rw[if_neg (by rw[hh];simp)]at bC;have eG:=xh bC;clear bC;obtain⟨ex,hex⟩:=zB hh;have Te:x.l.getD (bf x.l key) Nd.E.zero=ex:=by rw[jj,hex];rfl
   have bC:=eG.o;unfold QS.kW pZ at bC;rw[if_pos hh,if_pos hh,Te]at bC;generalize cd x.l key=hb at *;subst hh;have pK:bf x.l key<x.l.length:=(aX.1 hex).1;generalize bf x.l key=at_ at *;obtain⟨ad,vu,fN⟩:=(Nd.aK.aH S3.o).2.2 at_ ex hex;obtain⟨ga,ca,wB,Az,_⟩:=S3.o.form (by omega) (by omega);injection Az with e1 ezz e3
   clear ezz;subst e1 e3;injection vu with vu
   subst vu;rw[Nd.eP,bh]at fN;have u3:=fN.c0;have u4:=fN.c1;have u5:=fN.c2;dsimp only at u4 u5;have KA:=xh (Cq H3.o.1 (by omega) ex);unfold E.agg tp at KA;have hflI:(at_:Int)<(x.l.length:Int):=by omega
   generalize q1.pY ex=R2 at *;obtain⟨q2,e2⟩:=R2;dsimp only at *;have eG:=xh bC;clear fN hex Te bC;go_wp2_with fail;refine KA.o.mono ?_;rintro e w4 ⟨rfl,P4,o4⟩
   have H4:=xh (show TQ w4 tb I F q2 n (Kz+21)/\aM w4 w.heap.size (.slice (some ⟨g,0,none⟩) (pre.length+1) cc) (Lp++[⟨x,some ⟨ga,0,none⟩,c⟩])/\OB w.heap.size w w4 F F/\w.heap.size<=w4.heap.size from⟨H3.o.1.next o4 P4,H3.o.2.1.tV H3.o.1.2 o4,H3.o.2.2.1.step (aj _) o4 (λ_ hg=> .inl hg),ay H3.o.2.2.2 o4.size⟩);clear P4 o4 u2 u3 u4 u5 S3
   by_cases wC:e2=0
   .subst wC;have bC:=eG.o;rw[if_neg (show ¬((0:Int)≠0) by simp)]at bC;have eG:=xh bC;have SX:=H4.o.2.1.e ⟨x,some ⟨ga,0,none⟩,c⟩ (by simp);have KD:=xh (Nd.pW SX.1 at_ pK (show x.l.length<=100000 by omega));have u2:=H4.o.2.1.cell (k:=Lp.length) (Z:=⟨x,some ⟨ga,0,none⟩,c⟩) (by rw[dE (aj _),eU];rfl) 2 (by omega);rw[rG.o]at u2
    replace u2:w4.cell? ⟨g,pre.length*4+1+1,none⟩=some (.slice (some ⟨ga,0,none⟩) x.l.length c):=u2
    have AB:=xh (show(x.l.eraseIdx at_).length=x.l.length-1 from by rw[IF pK]);have s7:IntKind.i64.wrap ((at_:Int)+1)=(at_:Int)+1:=IntWalk.i64_in _ (by omega);clear SX bC;go_wp2_with fail;refine KD.o.mono ?_;rintro e w5 ⟨rfl,S5,o5⟩;obtain⟨SP,sx,sz⟩:=H4.o.2.1.put (Lp:=Lp) (Ls:=[]) (x.l.eraseIdx at_) (A':=some ⟨ga,0,none⟩) (c':=c) (by rw[AB.o];exact S5) o5 (λz hz=> .inl hz) H4.o.2.2.2;rw[rG.o]at SP sx sz;rw[AB.o]at SP
    replace sx:w5.cell? ⟨g,pre.length*4+1+1,none⟩=some (.slice (some ⟨ga,0,none⟩) x.l.length c):=sx
    replace sz:w5.frozen? ⟨g,pre.length*4+1+1,none⟩=false:=sz
    have O5:ag (g::ah (.slice (some ⟨ga,0,none⟩) x.l.length c)) w4 (w5.setCell ⟨g,pre.length*4+1+1,none⟩ (.slice (some ⟨ga,0,none⟩) (x.l.length-1) c)):=(o5.mono (λx hx _=>bz _ hx)).setCell (by simp) _;have jV:=H4.o.2.1.off H4.o.1.2;have sy:=H4.o.2.1.tree H4.o.1.1
    have H5:=xh (show TQ (w5.setCell ⟨g,pre.length*4+1+1,none⟩ (.slice (some ⟨ga,0,none⟩) (x.l.length-1) c)) tb I F q2 n (Kz+21)/\aM (w5.setCell ⟨g,pre.length*4+1+1,none⟩ (.slice (some ⟨ga,0,none⟩) (x.l.length-1) c)) w.heap.size (.slice (some ⟨g,0,none⟩) (pre.length+1) cc) (Lp++[⟨{x with l:=x.l.eraseIdx at_},some ⟨ga,0,none⟩,c⟩])/\OB w.heap.size w (w5.setCell ⟨g,pre.length*4+1+1,none⟩ (.slice (some ⟨ga,0,none⟩) (x.l.length-1) c)) F F/\w.heap.size<=(w5.setCell ⟨g,pre.length*4+1+1,none⟩ (.slice (some ⟨ga,0,none⟩) (x.l.length-1) c)).heap.size from
     ⟨H4.o.1.only O5 (λz hz hm=>by
      rcases ar.1 hz with h1|h1<;>rcases ar.1 hm with h2|h2
      .exact sy.1 (by rw[<-h1,h2];simp[ah])
      .exact sy.2 ⟨x,some ⟨ga,0,none⟩,c⟩ (by simp) (by rw[<-h1];exact h2)
      .exact jV.1 z (by rw[h2];simp[ah]) h1
      .exact jV.2 ⟨x,some ⟨ga,0,none⟩,c⟩ (by simp) z h2 h1),SP,H4.o.2.2.1.own O5 (λz hz=>by
      rcases ar.1 hz with h2|h2
      .rw[h2];exact H4.o.2.1.f g (by simp[ah])
      .exact(H4.o.2.1.e ⟨x,some ⟨ga,0,none⟩,c⟩ (by simp)).2 z h2),ay H4.o.2.2.2 O5.size⟩)
    clear SP S5 o5 O5 jV sy;obtain⟨w6,LY⟩:∃w6,(w5.setCell ⟨g,pre.length*4+1+1,none⟩ (.slice (some ⟨ga,0,none⟩) (x.l.length-1) c))=w6:=⟨_,rfl⟩;rw[LY]at H5;have tW:=eG.o;have KSH:=xh (GL (b:=w.heap.size) pre {x with l:=x.l.eraseIdx at_} H5.o.1 (by omega) H5.o.2.1 H5.o.2.2.2 (by rw[cW,Ti.o];rfl) (λs hs=>⟨(oK.o s hs).a,by have:=(oK.o s hs).n;omega⟩) (by show(x.l.eraseIdx at_).length<=1000;rw[AB.o];omega) (by omega))
    rw[tW]at KSH;unfold tp at KSH;clear tW;go_wp2_with fail;refine KSH.o.mono ?_;rintro e w7 ⟨rfl,P7⟩;have P7:=xh P7;clear LY sx sz u2;go_wp2_with fail;go_ret;exact aC (((H5.o.2.2.1.trans P7.o).pt (aj _)).le (by omega))
   .have bC:=eG.o;rw[if_pos wC]at bC;subst bC;have hq:(e2 != 0)=true:=by rw[bne_iff_ne];exact wC
    have ki:(e2==0)=false:=by rw[beq_eq_false_iff_ne];exact wC
    go_wp2_with fail;go_ret;exact aC (((H4.o.2.2.1.pb H4.o.1.2).pt (aj _)).le (by omega))
  .have hh2:cd x.l key=false:=by simpa using hh
   have bC:=eG.o;rw[if_pos hh2]at bC;subst bC;generalize cd x.l key=hb at *;subst hh2;clear hh;go_wp2_with fail;go_ret;exact aC (((H3.o.2.2.1.pb H3.o.1.2).pt (aj _)).le (by omega))
 .rw[if_pos he];have hq:(er != 0)=true:=by rw[bne_iff_ne];exact he
  have ki:(er==0)=false:=by rw[beq_eq_false_iff_ne];exact he
  clear fy;go_enter func26,ntmps26;go_wp2_with fail;refine KW.o.mono ?_;rintro e w1 ⟨v,L,rfl,SA,nH,P1,o1⟩;have P1:=xh P1;have o1:=xh o1;clear SA nH;go_wp2_with fail;go_ret;exact aC ((PT.self P1.o o1.o).le (by omega))
def jB:List UInt8:=(aZ true []).1
def QS.zH(q:QS):QS×Int:=if q.a.jS.length=0 then((q.bP jB).1,(q.bP jB).2.2)else(q,0)
def QS.oZ(q:QS):QS×Int:=if q.zH.2≠0 then q.zH else((q.zH.1.bM 0).1,(q.zH.1.bM 0).2.2.2)
def Opened(w w':World)(I:Ix)(F:List Nat)(q:QS)(e:Int)(n K:Nat)(v:Value):Prop:=
 ∃F',ag F w w'/\(∀g∈F',g∈F\/w.heap.size<=g)/\PQ w' I F' q n K/\(e≠0->v=.pointer none)/\(e=0->∃tb,v=tp tb/\w.heap.size<=tb/\TQ w' tb I F' q n K)
theorem Ox{w:World}{I:Ix}{F:List Nat}{q:QS}{n K:Nat}(h:PQ w I F q n K)(hK:K<=999999999000):
  Calls prog 24 #[pp I.pb] w λe w'=> ∃v,e=.returned (.tuple #[v,.int .i64 q.oZ.2])/\Opened w w' I F q.oZ.1 q.oZ.2 n (K+2) v:=by
 have gu:=ae (Below.refl w.heap.size w) (.cells #[pp I.pb] 130);obtain⟨wT,hwT⟩:∃wT,w.heap.size=wT:=⟨_,rfl⟩;have HWT:=xh hwT;have BT:=aE.new w 130 #[pp I.pb];rw[hwT]at BT;have H1:=xh (show TQ _ wT I F q n K/\ag F w _ from⟨⟨BT,h.below gu⟩,.ai gu⟩);have K1:=xh (yP H1.o.1.2);have K2:=xh (yQ H1.o.1.2);unfold QS.oZ QS.zH;unfold pp sp at *
 by_cases h0:q.a.jS.length=0
 .rw[if_pos h0];rw[h0]at K2;have K3:=xh (λ(W:World)=>Nd.zu (w:=W) true none 0 0 [] ⟨rfl,λk e he=>by simp at he⟩ (by omega));have hl:=Nd.wv true [];have hleaf:aZ true []=(jB,0):=by unfold jB;decide
  rw[hleaf]at K3 hl;dsimp only at K3 hl;have KN:=xh (λ(W:World) (hW:PQ W I F q n K)=>yO hW (by omega) ⟨jB.toArray⟩ (by show jB.toArray.size<=232;simp;exact hl));have HLB:=xh (show(⟨jB.toArray⟩:ByteArray).data.toList=jB from by simp);rw[HLB.o]at KN;generalize q.bP jB=R at *;obtain⟨q1,p1,e1⟩:=R;dsimp only at *;unfold bt at K3;unfold pp at KN;obtain⟨RR,bC⟩:∃RR,(if e1≠0 then(q1,e1)else((q1.bM 0).1,(q1.bM 0).2.2.2))=RR:=⟨_,rfl⟩;rw[bC]
  have eG:=xh bC;clear bC;go_enter func24,ntmps24;go_wp2_with fail;refine K1.o.mono ?_;rintro e w2 ⟨rfl,rfl⟩;go_wp2_with fail;refine K2.o.mono ?_;rintro e w3 ⟨A3,c3,rfl,S3,cZ⟩;have H3:=xh (show TQ w3 wT I F q n K/\ag F w w3 from⟨H1.o.1.below cZ,H1.o.2.trans (.ai cZ)⟩);clear S3 cZ;go_wp2_with fail;refine(K3.o w3).mono ?_;rintro e w4 ⟨rfl,eM⟩
  have H4:=xh (show TQ w4 wT I F q n K/\ag F w w4 from⟨H3.o.1.below eM,H3.o.2.trans (.ai eM)⟩);clear eM;go_wp2_with fail;refine(KN.o w4 H4.o.1.2).mono ?_;rintro e w5 ⟨rfl,P5⟩;obtain⟨F1,T5,o5,f5⟩:=P5.tq H4.o.1;have HT:=xh (show TQ w5 wT I F1 q1 n (K+1)/\ag F w w5/\(∀g∈F1,g∈F\/w.heap.size<=g)from⟨T5,H4.o.2.trans o5,λg hg=>(f5 g hg).imp id (λh=>ay H4.o.2.size h)⟩);clear P5 T5 o5 f5
  by_cases Qc:e1=0
  .subst Qc;have bC:=eG.o;rw[if_neg (show ¬((0:Int)≠0) by simp)]at bC;have K9:=xh (nF HT.o.1 (by omega) 0);have hlen:=lS q1 0;generalize q1.bM 0=r at *;obtain⟨q2,lf,l,er⟩:=r;dsimp only at *;subst bC;unfold tp bt at K9;go_wp2_with fail;refine K9.o.mono ?_;rintro e w9 ⟨A9,c9,rfl,S9,f9,P9,o9⟩;have iW:=ae (Below.refl w9.heap.size w9) (.cells #[.bool lf,.slice A9 l.length c9] 118)
   have H9:=xh (show TQ _ wT I F1 q2 n (K+2)/\ag F w _/\(∀g∈F1,g∈F\/w.heap.size<=g)from⟨(HT.o.1.next o9 P9).below iW,(HT.o.2.1.aN o9 (λg hg dV=>(HT.o.2.2 g hg).elim id (λh=>by omega))).trans (.ai iW),HT.o.2.2⟩);clear S9 f9 P9 o9 iW
   by_cases he:er=0
   .subst he;go_wp2_with fail;go_ret2;exact⟨_,by first|rfl|simp,F1,H9.o.2.1,H9.o.2.2,H9.o.1.2,λh=>absurd rfl h,λ_=>⟨wT,by unfold tp;first|rfl|simp[HWT.o],by rw[<-HWT.o];exact aj _,H9.o.1⟩⟩
   .have hq:(er != 0)=true:=by rw[bne_iff_ne];exact he
    have ki:(er==0)=false:=by rw[beq_eq_false_iff_ne];exact he
    go_wp2_with fail;go_ret2;exact⟨_,by first|rfl|simp,F1,H9.o.2.1,H9.o.2.2,H9.o.1.2,λ_=>rfl,λh=>absurd h he⟩
  .have bC:=eG.o;rw[if_pos Qc]at bC;subst bC;have hq:(e1 != 0)=true:=by rw[bne_iff_ne];exact Qc
   have ki:(e1==0)=false:=by rw[beq_eq_false_iff_ne];exact Qc
   go_wp2_with fail;go_ret2;exact⟨_,by first|rfl|simp,F1,HT.o.2.1,HT.o.2.2,HT.o.1.2.le (by omega),λ_=>rfl,λh=>absurd h Qc⟩
 .rw[if_neg h0,if_neg (show ¬((0:Int)≠0) by simp)];dsimp only;have h0I:((q.a.jS.length:Nat):Int)≠0:=by omega
  generalize q.a.jS.length=np at *;obtain⟨RR,bC⟩:∃RR,((q.bM 0).1,(q.bM 0).2.2.2)=RR:=⟨_,rfl⟩;rw[show(q.bM 0).1=RR.1 from by rw[<-bC],show(q.bM 0).2.2.2=RR.2 from by rw[<-bC]];have eG:=xh bC;clear bC;go_enter func24,ntmps24;go_wp2_with fail;refine K1.o.mono ?_;rintro e w2 ⟨rfl,rfl⟩;go_wp2_with fail;refine K2.o.mono ?_;rintro e w3 ⟨A3,c3,rfl,S3,cZ⟩
  have HT:=xh (show TQ w3 wT I F q n (K+1)/\ag F w w3/\(∀g∈F,g∈F\/w.heap.size<=g)from⟨(H1.o.1.below cZ).le (by omega),H1.o.2.trans (.ai cZ),λg hg=> .inl hg⟩);clear S3 cZ;have bC:=eG.o;have K9:=xh (nF HT.o.1 (by omega) 0);have hlen:=lS q 0;generalize q.bM 0=r at *;obtain⟨q2,lf,l,er⟩:=r;dsimp only at *;subst bC;unfold tp bt at K9;go_wp2_with fail;refine K9.o.mono ?_;rintro e w9 ⟨A9,c9,rfl,S9,f9,P9,o9⟩
  have iW:=ae (Below.refl w9.heap.size w9) (.cells #[.bool lf,.slice A9 l.length c9] 118);have H9:=xh (show TQ _ wT I F q2 n (K+2)/\ag F w _/\(∀g∈F,g∈F\/w.heap.size<=g)from⟨(HT.o.1.next o9 P9).below iW,(HT.o.2.1.aN o9 (λg hg dV=>(HT.o.2.2 g hg).elim id (λh=>by omega))).trans (.ai iW),HT.o.2.2⟩);clear S9 f9 P9 o9 iW
  by_cases he:er=0
  .subst he;go_wp2_with fail;go_ret2;exact⟨_,by first|rfl|simp,F,H9.o.2.1,H9.o.2.2,H9.o.1.2,λh=>absurd rfl h,λ_=>⟨wT,by unfold tp;first|rfl|simp[HWT.o],by rw[<-HWT.o];exact aj _,H9.o.1⟩⟩
  .have hq:(er != 0)=true:=by rw[bne_iff_ne];exact he
   have ki:(er==0)=false:=by rw[beq_eq_false_iff_ne];exact he
   go_wp2_with fail;go_ret2;exact⟨_,by first|rfl|simp,F,H9.o.2.1,H9.o.2.2,H9.o.1.2,λ_=>rfl,λh=>absurd h he⟩
end Sh
end Go.Proofs.YtmonobkginiajaaGreat
