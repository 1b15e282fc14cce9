/- packed. -/
import Derived.Test.YtmonobkginiajaaGreatQ22
set_option linter.all false
set_option maxRecDepth 100000
set_option maxHeartbeats 8000000
namespace Go.Proofs.YtmonobkginiajaaGreat.Sh
open Go.RowKit Pk Dk Pg
open Nd (E aw aT aF aJ cM bg aK bI bj)
attribute [local go_sem ↓] Go.wp_at_zero Go.wp_at_succ
section
variable {w w':World} {b:Nat} {v:Value} {L:List SM} {I:Ix} {F S:List Nat} {q:QS} {n K:Nat}
theorem aC.off (h:aC w b v L) (P:PQ w I F q n K):(∀g∈ah v,g∉F)∧ ∀x∈L,∀g∈ah x.v,g∉F:=
 ⟨fun g hg=>by
  obtain ⟨cs,B⟩:=sA h.s g hg;exact P.iR B (by decide) (by decide) (by decide) (by decide) (by decide) (by decide) (by decide) (by decide) (by decide),fun x hx g hg=>by
  obtain ⟨cs,B⟩:=sA (h.e x hx).1 g hg;exact P.iR B (by decide) (by decide) (by decide) (by decide) (by decide) (by decide) (by decide) (by decide) (by decide)⟩
theorem aC.pL (h:aC w b v L) (P:PQ w I F q n K) (o:ag F w w'):aC w' b v L:=
 ⟨h.s.only o (h.off P).1,h.f,fun x hx=>⟨(h.e x hx).1.only o ((h.off P).2 x hx),(h.e x hx).2⟩,h.d⟩
theorem aC.cell {g m cc:Nat} (h:aC w b (.slice (some ⟨g,0,none⟩) m cc) L) {k:Nat} {Z:SM} (hz:L[k]?=some Z) (i:Nat) (hi:i<4):w.cell? ⟨g,k*4+i,none⟩=Z.cells[i]?:=by
 obtain ⟨rest,B,_⟩:=h.s.oM;have hk:=(List.getElem?_eq_some_iff.1 hz).1;rw [B.cell,List.getElem?_toArray,List.getElem?_append_left (by rw [dE]; omega)];exact m7 hz i hi
theorem aC.tree {tb:Nat} {cs:Array Value} (h:aC w b v L) (B:ax w tb 130 cs):tb∉ah v∧ ∀x∈L,tb∉ah x.v:=
 ⟨cv h.s B (by decide),fun x hx=>cv (h.e x hx).1 B (by decide)⟩
theorem aC.pop {g m cc:Nat} {X:SM} (h:aC w b (.slice (some ⟨g,0,none⟩) m cc) (L++[X])):aC w b (.slice (some ⟨g,0,none⟩) L.length cc) L:=by
 obtain ⟨rest,B,h1,_,h2⟩:=h.s.oM;rw [List.flatMap_append,List.append_assoc] at B;have hl:(L.flatMap SM.cells).length+(([X]:List SM).flatMap SM.cells++rest).length=cc*4:=by
  rw [List.flatMap_append,List.length_append] at h1;rw [List.length_append]; omega
 refine ⟨⟨by rw [dE],.inr ⟨g,cc,_,rfl,B,hl,h2⟩⟩,fun x hx=>h.f x (by simpa [ah] using hx),fun x hx=>h.e x (List.mem_append_left _ hx),(List.pairwise_append.1 h.d).1⟩
theorem aC.put {g m cc:Nat} {Lp Ls:List SM} {Y:SM} (h:aC w b (.slice (some ⟨g,0,none⟩) m cc) (Lp++Y::Ls)) (l':List E) {A':Option Addr} {c':Nat} (S':aG w' 111 3 (.slice A' l'.length c') l'.length (aw l')) (o:ag (ah Y.v) w w')
  (f: ∀x∈ah (.slice A' l'.length c'),x∈ah Y.v∨w.heap.size≤x) (hbw:b≤w.heap.size):
  aC (w'.setCell ⟨g,Lp.length*4+2,none⟩ (.slice A' l'.length c')) b (.slice (some ⟨g,0,none⟩) m cc) (Lp++⟨{Y.s with l:=l'},A',c'⟩::Ls)∧w'.cell? ⟨g,Lp.length*4+2,none⟩=some Y.v∧w'.frozen? ⟨g,Lp.length*4+2,none⟩=false:=by
 obtain ⟨rest,B,h1,hm,h2⟩:=h.s.oM;have hY:=h.e Y (by simp);have hgY:g∉ah Y.v:=fun hg=>fo hY.1 h.s (by decide) g hg (by simp [ah]);have B':=B.only o hgY;have hlen:(Lp++Y::Ls).length=(Lp++(⟨{Y.s with l:=l'},A',c'⟩:SM)::Ls).length:=by simp
 have lY:(Lp++Y::Ls).flatMap SM.cells=Lp.flatMap SM.cells++(Y.cells++Ls.flatMap SM.cells):=by rw [List.flatMap_append,List.flatMap_cons]
 have yi:(((Lp++Y::Ls).flatMap SM.cells++rest).set (Lp.length*4+2) (.slice A' l'.length c'))=(Lp++(⟨{Y.s with l:=l'},A',c'⟩:SM)::Ls).flatMap SM.cells++rest:=by
  rw [lY,List.append_assoc,List.set_append_right _ _ (by rw [dE]; omega),dE,show Lp.length*4+2-Lp.length*4=2 by omega,List.flatMap_append,List.flatMap_cons];simp only [List.append_assoc];rfl
 have hix:Lp.length*4+2<((Lp++Y::Ls).flatMap SM.cells++rest).toArray.size:=by
  have h4:Y.cells.length=4:=rfl;rw [lY];simp only [List.size_toArray,List.length_append,dE,h4];omega
 have BS:=B'.bq (Lp.length*4+2) (.slice A' l'.length c');rw [List.setIfInBounds_toArray,yi] at BS;have sd: ∀Z∈Lp++Ls,∀x∈ah Z.v,x∉ah Y.v:=fun Z hZ x hx hy=>by
  have hd:=List.pairwise_append.1 h.d
  rcases List.mem_append.1 hZ with hZ | hZ
  ·exact hd.2.2 Z hZ Y (by simp) x hx hy
  ·exact (List.pairwise_cons.1 hd.2.1).1 Z hZ x hy hx
 have lt: ∀Z∈Lp++Ls,∀x∈ah Z.v,x<w.heap.size:=fun Z hZ=>(h.e Z (by rcases List.mem_append.1 hZ with hZ | hZ<;>simp [hZ])).1.lt;have sn: ∀Z∈Lp++Ls,∀x∈ah Z.v,x∉ah (.slice A' l'.length c'):=fun Z hZ x hx hy=>by
  rcases f x hy with h3 | h3
  ·exact sd Z hZ x hx h3
  ·have:=lt Z hZ x hx; omega
 have og:ag [g] w' (w'.setCell ⟨g,Lp.length*4+2,none⟩ (.slice A' l'.length c')):=(ag.refl _ _).setCell (by simp) _;have ni: ∀Z∈Lp++Ls,aG (w'.setCell ⟨g,Lp.length*4+2,none⟩ (.slice A' l'.length c')) 111 3 Z.v Z.s.l.length (aw Z.s.l)∧ ∀x∈ah Z.v,b≤x:=fun Z hZ=>by
  have hz:=h.e Z (by rcases List.mem_append.1 hZ with hZ | hZ<;>simp [hZ]);have s1:=hz.1.only o (sd Z hZ);exact ⟨s1.only og (fun x hx hg=>cv s1 B' (by decide) (by rw [←List.mem_singleton.1 hg]; exact hx)),hz.2⟩
 refine ⟨⟨⟨?_,?_⟩,fun x hx=>h.f x (by simpa [ah] using hx),fun Z hZ=>?_,?_⟩,?_,B'.frozen _ hix⟩
 ·rw [←hlen,dE,←hlen]
 ·rw [←hlen,hm];refine .inr ⟨g,cc,rest,rfl,BS,?_,h2⟩;rw [dE] at h1 ⊢;rw [←hlen];exact h1
 ·rcases List.mem_append.1 hZ with hZ | hZ
  ·exact ni Z (List.mem_append_left _ hZ)
  ·rcases List.mem_cons.1 hZ with rfl | hZ
   ·exact ⟨S'.only og (fun x hx hg=>cv S' B' (by decide) (by rw [←List.mem_singleton.1 hg]; exact hx)),fun x hx=>(f x hx).elim (hY.2 x) (fun h=>by omega)⟩
   ·exact ni Z (List.mem_append_right _ hZ)
 ·have hd:=List.pairwise_append.1 h.d;rw [List.pairwise_append];refine ⟨hd.1,List.pairwise_cons.2 ⟨fun Z hZ x hx hy=>sn Z (List.mem_append_right _ hZ) x hy hx,(List.pairwise_cons.1 hd.2.1).2⟩,fun Z hZ W hW=>?_⟩
  rcases List.mem_cons.1 hW with rfl | hW
  ·exact sn Z (List.mem_append_left _ hZ)
  ·exact hd.2.2 Z hZ W (List.mem_cons_of_mem _ hW)
 ·refine B'.ab ?_;rw [lY,List.getElem?_toArray,List.append_assoc,List.getElem?_append_right (by rw [dE]; omega),dE,show Lp.length*4+2-Lp.length*4=2 by omega];rfl
end
def eF:Nat→List Step→QS→QS×Int
 | 0,_,q=>(q,0)
 | _+1,[],q=>(q,0)
 | m+1,x::up,q=>
  if (q.cg x.al x.leaf x.l).2≠11∨(aY x.leaf x.l).2=0 then q.cg x.al x.leaf x.l
  else match up with
   | []=>(q.cg x.al x.leaf x.l).1.uP x.leaf (x.l.take (bj x.l)) (x.l.drop (bj x.l))
   | y::up=>
    if ((q.cg x.al x.leaf x.l).1.dh x.leaf (x.l.drop (bj x.l))).2.2≠0 then (((q.cg x.al x.leaf x.l).1.dh x.leaf (x.l.drop (bj x.l))).1,((q.cg x.al x.leaf x.l).1.dh x.leaf (x.l.drop (bj x.l))).2.2)
    else if (((q.cg x.al x.leaf x.l).1.dh x.leaf (x.l.drop (bj x.l))).1.cg x.al x.leaf (x.l.take (bj x.l))).2≠0 then ((q.cg x.al x.leaf x.l).1.dh x.leaf (x.l.drop (bj x.l))).1.cg x.al x.leaf (x.l.take (bj x.l))
    else eF m ({y with l:=y.l.insertIdx (y.at_+1) ⟨keyOf (x.l.drop (bj x.l)),⟨#[]⟩,((q.cg x.al x.leaf x.l).1.dh x.leaf (x.l.drop (bj x.l))).2.1⟩}::up)
     (((q.cg x.al x.leaf x.l).1.dh x.leaf (x.l.drop (bj x.l))).1.cg x.al x.leaf (x.l.take (bj x.l))).1
def AW (l:List E):Prop:=l.length≤90∧ ∀e∈l,e.key.size≤32∧e.val.size≤40
theorem A0 {l:List E} (h:AW l):Nd.ai l≤100000:=by
 obtain ⟨h1,h2⟩:=h;have: ∀l:List E,(∀e∈l,e.key.size≤32∧e.val.size≤40)→Nd.ai l≤79*l.length:=fun l h=>by
  induction l with
  | nil=>simp [Nd.ai]
  | cons e l ih=>
   have h1:=h e (by simp);have h3:=ih (fun x hx=>h x (by simp [hx]));unfold Nd.ai at *;simp only [List.map_cons,List.sum_cons,List.length_cons];omega
 have:=this l h2;omega
theorem LR {leaf:Bool} {l:List E} (h:(aY leaf l).2≠0) (h2:(aY leaf l).2≠2) (hl:AW l):2≤l.length:=by
 unfold aY aJ at h h2
 split at h2
 ·rename_i hm;rw [if_pos hm] at h
  split at h2
  ·rename_i hr;rw [if_pos hr] at h;exact absurd rfl h
  ·rename_i hr
   rcases l with _ | ⟨e,_ | ⟨e2,r⟩⟩
   ·exfalso;apply hr
    cases leaf<;>decide
   ·exfalso;apply hr;have hh:=hl.2 e (by simp);rw [Nd.uD];have:Nd.ai (blank leaf [e])≤79:=by
     have h0:(⟨#[]⟩:ByteArray).size=0:=rfl
     cases leaf
     ·show Nd.ai [{e with key:=⟨#[]⟩}]≤79;simp only [Nd.ai,List.map_cons,List.map_nil,List.sum_cons,List.sum_nil,h0];omega
     ·show Nd.ai [e]≤79;simp only [Nd.ai,List.map_cons,List.map_nil,List.sum_cons,List.sum_nil];omega
    omega
   ·simp
 ·exact absurd rfl h2
def PB (b:Nat) (w w':World) (I:Ix) (F:List Nat) (q:QS) (n K:Nat):Prop:= ∃F' S,PQ w' I F' q n K∧ag S w w'∧(∀g∈S,g∈F∨b≤g)∧ ∀g∈F',g∈F∨b≤g
def OB (b:Nat) (w W:World) (F F':List Nat):Prop:= ∃S,ag S w W∧(∀g∈S,g∈F∨b≤g)∧ ∀g∈F',g∈F∨b≤g
theorem OB.refl (b:Nat) (w:World) (F:List Nat):OB b w w F F:=⟨[],ag.refl _ _,by simp,fun _ h=> .inl h⟩
theorem OB.step {b:Nat} {w W W':World} {F F' F'':List Nat} (h:OB b w W F F') (hb:b≤w.heap.size) (o:ag F' W W') (f: ∀g∈F'',g∈F'∨W.heap.size≤g):OB b w W' F F'':=by
 obtain ⟨S,a1,a2,a3⟩:=h;refine ⟨S++F',(a1.mono (fun g hg _=>List.mem_append_left _ hg)).aS o (fun g hg _=>List.mem_append_right _ hg),fun g hg=>(List.mem_append.1 hg).elim (a2 g) (a3 g),fun g hg=>(f g hg).elim (a3 g) (fun h=> .inr (by have:=a1.size; omega))⟩
theorem OB.own {b:Nat} {w W W':World} {F F' S:List Nat} (h:OB b w W F F') (o:ag S W W') (f: ∀g∈S,b≤g):OB b w W' F F':=by
 obtain ⟨T,a1,a2,a3⟩:=h;exact ⟨T++S,(a1.mono (fun g hg _=>List.mem_append_left _ hg)).aS o (fun g hg _=>List.mem_append_right _ hg),fun g hg=>(List.mem_append.1 hg).elim (a2 g) (fun h=> .inr (f g h)),a3⟩
theorem OB.below {b:Nat} {w W W':World} {F F':List Nat} (h:OB b w W F F') (hb:Below W.heap.size W W'):OB b w W' F F':=h.own (S:=[]) (.ak hb) (by simp)
theorem OB.pb {b:Nat} {w W:World} {I:Ix} {F F':List Nat} {q:QS} {n K:Nat} (h:OB b w W F F') (P:PQ W I F' q n K):PB b w W I F q n K:=by
 obtain ⟨S,a1,a2,a3⟩:=h;exact ⟨F',S,P,a1,a2,a3⟩
theorem OB.size {b:Nat} {w W:World} {F F':List Nat} (h:OB b w W F F'):w.heap.size≤W.heap.size:=by
 obtain ⟨S,a1,_⟩:=h;exact a1.size
theorem OB.trans {b:Nat} {w W W':World} {I:Ix} {F F':List Nat} {q:QS} {n K:Nat} (h:OB b w W F F') (p:PB b W W' I F' q n K):PB b w W' I F q n K:=by
 obtain ⟨S,a1,a2,a3⟩:=h;obtain ⟨F2,S2,P,b1,b2,b3⟩:=p;refine ⟨F2,S++S2,P,(a1.mono (fun g hg _=>List.mem_append_left _ hg)).aS b1 (fun g hg _=>List.mem_append_right _ hg),fun g hg=>(List.mem_append.1 hg).elim (a2 g) (fun h=>(b2 g h).elim (a3 g) .inr),fun g hg=>(b3 g hg).elim (a3 g) .inr⟩
theorem PB.le {b:Nat} {w W:World} {I:Ix} {F:List Nat} {q:QS} {n K K':Nat} (h:PB b w W I F q n K) (hk:K≤K'):PB b w W I F q n K':=by
 obtain ⟨F',S,P,r⟩:=h;exact ⟨F',S,P.le hk,r⟩
structure Fit (s:Step):Prop where
 l:AW s.l
 n:s.l.length≤80
 a:s.at_<s.l.length
theorem gX: ∀(m:Nat) {w:World} {tb:Nat} {I:Ix} {F:List Nat} {q:QS} {n Kz b:Nat} {v:Value} {L:List SM} (pre:List Step) (x:Step),pre.length+1≤m→TQ w tb I F q n Kz→Kz+4*m≤999999999900→aC w b v L→b≤w.heap.size→L.map SM.s=pre++[x]→(∀s∈pre,Fit s)→AW x.l→pre.length≤16→
  Calls Tryz.prog 75 #[tp tb,v] w fun e w'=>e= .returned (.int .i64 (eF m (x::pre.reverse) q).2)∧PB b w w' I F (eF m (x::pre.reverse) q).1 n (Kz+4*m)
 | 0,_,_,_,_,_,_,_,_,_,_,_,_,h,_,_,_,_,_,_,_,_=>absurd h (by omega)
 | m+1,w,tb,I,F,q,n,Kz,b,v,L,pre,x,hpm,h,LS,SA,hb,kH,nh,hlx,hp16=>by
  obtain ⟨Lp,A,c,g,cc,hL,ji,rfl,hbg,Cc,rl,fi,IY,S1,f1⟩:=SA.last kH;have HL:=xh hL;have S1:=xh S1;have HK:=xh LS;have yp:w.cell? ⟨g,pre.length*4,none⟩=some (.int .i64 x.al):=fi 0 (by omega);have hx1:w.cell? ⟨g,pre.length*4+1,none⟩=some (.bool x.leaf):=fi 1 (by omega);have hx2:w.cell? ⟨g,pre.length*4+2,none⟩=some (.slice A x.l.length c):=fi 2 (by omega);have hx3:w.cell? ⟨g,pre.length*4+3,none⟩=some (.int .i64 (x.at_:Nat)):=fi 3 (by omega)
  have s1:IntKind.i64.wrap (((pre.length+1:Nat):Int)-1)=(pre.length:Int):=by rw [show ((pre.length+1:Nat):Int)-1=(pre.length:Int) by omega]; exact IntWalk.i64_in _ (by omega)
  have s2:(pre.length:Int)<((pre.length+1:Nat):Int):=by omega
  have fj:=ae (Below.refl w.heap.size w) (.cells #[.int .i64 x.al,.bool x.leaf,.slice A x.l.length c,.int .i64 (x.at_:Nat)] 120);have BS:=xh (ax.new w 120 #[.int .i64 x.al,.bool x.leaf,.slice A x.l.length c,.int .i64 (x.at_:Nat)]);have y0:=BS.out.ab (i:=0) rfl;have y1:=BS.out.ab (i:=1) rfl;have y2:=BS.out.ab (i:=2) rfl
  have H1:=xh (show TQ _ tb I F q n Kz∧aC _ b (.slice (some ⟨g,0,none⟩) (pre.length+1) cc) L∧aG _ 111 3 (.slice A x.l.length c) x.l.length (aw x.l)∧OB b w _ F F from ⟨h.below fj,SA.below fj,S1.out.below fj,(OB.refl b w F).below fj⟩)
  have KW:=xh (fun (W:World) (F':List Nat) (qj:QS) (Kj:Nat) (hW:TQ W tb I F' qj n Kj) (hk:Kj≤999999999900) (A:Option Addr) (mm c:Nat) (l:List E) (S:aG W 111 3 (.slice A mm c) mm (aw l)) (hm:mm≤1000)=>lr hW (by omega) x.al x.leaf A mm c l S hm);have ln:=xh nh;have HPM:=xh hpm;have n9:=xh hp16;have HPRE:=xh ji;have HLX:=xh hlx;have hln:=hlx.1;obtain ⟨RR,bf⟩: ∃RR,eF (m+1) (x::pre.reverse) q=RR:=⟨_,rfl⟩;rw [bf];unfold eF at bf
  have eh:=xh bf;clear bf h SA kH nh ji hlx fi IY f1 hL fj;have K1:=xh (KW.out _ F q Kz H1.out.1 (by omega) A x.l.length c x.l H1.out.2.2.1 (by omega));have hwr:(q.cg x.al x.leaf x.l).2=11→(aY x.leaf x.l).2≠0→2≤x.l.length:=fun h1 h2=>LR h2 (fun h3=>by unfold QS.cg at h1; rw [if_pos h2,h3] at h1; exact absurd h1 (by show (2:Int)≠11; decide)) HLX.out;generalize q.cg x.al x.leaf x.l=R at *;obtain ⟨q1,e1⟩:=R;dsimp only at *;have HWR:=xh hwr
  clear hwr;unfold tp aT at *;go_enter Tryz.func75,Tryz.ntmps75;go_wp2_with fail;refine K1.out.mono ?_;rintro e w2 ⟨rfl,P2,o2⟩;have B2:=xh (BS.out.only o2 (H1.out.1.2.iR BS.out (by decide) (by decide) (by decide) (by decide) (by decide) (by decide) (by decide) (by decide) (by decide)));have H2:=xh (show TQ w2 tb I F q1 n (Kz+1)∧aC w2 b (.slice (some ⟨g,0,none⟩) (pre.length+1) cc) L∧aG w2 111 3 (.slice A x.l.length c) x.l.length (aw x.l)∧OB b w w2 F F from
   ⟨H1.out.1.next o2 P2,H1.out.2.1.pL H1.out.1.2 o2,PT.FZ (.self P2 o2) H1.out.1.2 H1.out.2.2.1,H1.out.2.2.2.step hb o2 (fun g hg=> .inl hg)⟩)
  clear P2 o2 y0 y1 y2 yp hx1 hx2 hx3;have z0:=B2.out.ab (i:=0) rfl;have z1:=B2.out.ab (i:=1) rfl;have z2:=B2.out.ab (i:=2) rfl
  by_cases he:e1=11
  ·subst he;obtain ⟨bb,zD⟩: ∃bb,bb=decide ((aY x.leaf x.l).2=0):=⟨_,rfl⟩;have KF:=xh (Hj (w:=w2) x.leaf A x.l.length c x.l H2.out.2.2.1 (by omega) bb zD);unfold aT at KF;have HBB:=xh zD;clear zD;go_wp2_with fail;refine KF.out.mono ?_;rintro e w3 ⟨rfl,eG⟩;have B3:=xh (B2.out.below eG B2.out.lt)
   have H3:=xh (show TQ w3 tb I F q1 n (Kz+1)∧aC w3 b (.slice (some ⟨g,0,none⟩) (pre.length+1) cc) L∧aG w3 111 3 (.slice A x.l.length c) x.l.length (aw x.l)∧OB b w w3 F F from ⟨H2.out.1.below eG,H2.out.2.1.below eG,H2.out.2.2.1.below eG,H2.out.2.2.2.below eG⟩);clear eG z0 z1 z2;have z0:=B3.out.ab (i:=0) rfl;have z1:=B3.out.ab (i:=1) rfl;have z2:=B3.out.ab (i:=2) rfl
   cases bb
   ·have lY:(aY x.leaf x.l).2≠0:=by have:=HBB.out; simpa using this.symm
    have h2l:=HWR.out (by trivial) lY;have HLT3:=xh (show ∀Z∈L,∀g∈ah Z.v,g<w3.heap.size from fun Z hZ=>(H3.out.2.1.e Z hZ).1.lt);have KH:=xh (Nd.DW (w:=w3) x.leaf A x.l.length c x.l H3.out.2.2.1 h2l (by omega) (A0 HLX.out));unfold aT at KH;have bf:=eh.out;rw [if_neg (by simp [lY])] at bf;have eh:=xh bf;clear bf HWR;go_wp2_with fail;refine KH.out.mono ?_;rintro e w4 ⟨⟨t,A1,c1,A2,c2,rfl,Fp,SL1,SL2,vQ⟩,fM⟩;obtain rfl:bj x.l=t:=Nd.Fl Fp
    have HF2:=xh vQ;clear vQ;have hb12:1≤bj x.l∧bj x.l<x.l.length:=⟨Fp.1,Fp.2.1⟩;clear Fp;have fj:=ae (ae (Below.refl w4.heap.size w4) (.cells #[.bool x.leaf,.slice A1 (bj x.l) c1] 118)) (.cells #[.bool x.leaf,.slice A2 (x.l.length-bj x.l) c2] 118);have ko:=ao fM fj;have BA:=xh ((ax.new w4 118 #[.bool x.leaf,.slice A1 (bj x.l) c1]).alloc (.cells #[.bool x.leaf,.slice A2 (x.l.length-bj x.l) c2] 118))
    have bB:=ax.new (w4.alloc (.cells #[.bool x.leaf,.slice A1 (bj x.l) c1] 118)) 118 #[.bool x.leaf,.slice A2 (x.l.length-bj x.l) c2];rw [lu] at bB;have BB:=xh bB;have B5:=xh (B3.out.below ko B3.out.lt)
    have H5:=xh (show TQ _ tb I F q1 n (Kz+1)∧aC _ b (.slice (some ⟨g,0,none⟩) (pre.length+1) cc) L∧OB b w _ F F∧aG _ 111 3 (.slice A1 (bj x.l) c1) (bj x.l) (aw (x.l.take (bj x.l)))∧aG _ 111 3 (.slice A2 (x.l.length-bj x.l) c2) (x.l.length-bj x.l) (aw (x.l.drop (bj x.l))) from
     ⟨H3.out.1.below ko,H3.out.2.1.below ko,H3.out.2.2.2.below ko,SL1.below fj,SL2.below fj⟩)
    have u0:=BA.out.ab (i:=0) rfl;have u1:=BA.out.ab (i:=1) rfl;have v0:=BB.out.ab (i:=0) rfl;have v1:=BB.out.ab (i:=1) rfl;clear z0 z1 z2 bB fM ko fj SL1 SL2 H3 B3;generalize bj x.l=hf at *
    rcases List.eq_nil_or_concat pre with rfl | ⟨cP,y,hpe⟩
    ·have KG:=xh (Hm H5.out.1 (by omega) x.leaf A1 hf c1 (x.l.take hf) H5.out.2.2.2.1 A2 (x.l.length-hf) c2 (x.l.drop hf) H5.out.2.2.2.2 (by omega) (by omega) (by omega));have bf:=eh.out;dsimp only [List.reverse_nil] at bf;rw [bf] at KG;unfold aT at KG;clear bf;go_wp2_with fail;refine KG.out.mono ?_;rintro e w6 ⟨rfl,P6⟩;have P6:=xh P6;clear u0 u1 v0 v1;go_wp2_with fail;go_ret;refine ⟨by first | rfl | simp,?_⟩;obtain ⟨F6,P,o,f⟩:=P6.out
     exact ((H5.out.2.2.1.step hb o f).pb P).le (by omega)
    ·obtain rfl:pre=cP++[y]:=by simpa using hpe
     clear hpe;have rW:(cP++[y]).length=cP.length+1:=by simp
     have hne1: ¬(((cP.length+1+1:Nat):Int)=1):=by omega
     have KM:=xh (qR H5.out.1 (by omega) x.leaf A2 (x.l.length-hf) c2 (x.l.drop hf) H5.out.2.2.2.2 (by omega));have bf:=eh.out;rw [List.reverse_append,List.reverse_singleton,List.singleton_append] at bf;dsimp only at bf;generalize q1.dh x.leaf (x.l.drop hf)=R2 at *;obtain ⟨q2,l2,e2⟩:=R2;dsimp only at *;have eh:=xh bf;unfold aT at KM;clear bf;go_wp2_with fail;refine KM.out.mono ?_;rintro e w6 ⟨rfl,P6⟩;have SA6:=P6.FZ H5.out.1.2 H5.out.2.2.2.1
     have SB6:=P6.FZ H5.out.1.2 H5.out.2.2.2.2;obtain ⟨F6,T6,o6,f6⟩:=P6.tq H5.out.1;have A6:=xh (BA.out.only o6 (H5.out.1.2.iR BA.out (by decide) (by decide) (by decide) (by decide) (by decide) (by decide) (by decide) (by decide) (by decide)));have B6:=xh (BB.out.only o6 (H5.out.1.2.iR BB.out (by decide) (by decide) (by decide) (by decide) (by decide) (by decide) (by decide) (by decide) (by decide)))
     have D6:=xh (B5.out.only o6 (H5.out.1.2.iR B5.out (by decide) (by decide) (by decide) (by decide) (by decide) (by decide) (by decide) (by decide) (by decide)));have H6:=xh (show TQ w6 tb I F6 q2 n (Kz+2)∧aC w6 b (.slice (some ⟨g,0,none⟩) ((cP++[y]).length+1) cc) L∧OB b w w6 F F6∧aG w6 111 3 (.slice A1 hf c1) hf (aw (x.l.take hf))∧aG w6 111 3 (.slice A2 (x.l.length-hf) c2) (x.l.length-hf) (aw (x.l.drop hf)) from
      ⟨T6,H5.out.2.1.pL H5.out.1.2 o6,H5.out.2.2.1.step hb o6 f6,SA6,SB6⟩)
     clear P6 SA6 SB6 T6 o6 f6 u0 u1 v0 v1 BA BB B5
     by_cases sE:e2=0
     ·subst sE;have bf:=eh.out;rw [if_neg (by simp)] at bf;have K7:=xh (KW.out w6 F6 q2 (Kz+2) H6.out.1 (by omega) A1 hf c1 (x.l.take hf) H6.out.2.2.2.1 (by omega));generalize q2.cg x.al x.leaf (x.l.take hf)=R3 at *;obtain ⟨q3,e3⟩:=R3;dsimp only at *;have eh:=xh bf;have z0:=D6.out.ab (i:=0) rfl;have u0:=A6.out.ab (i:=0) rfl;have u1:=A6.out.ab (i:=1) rfl;clear bf;go_wp2_with fail;refine K7.out.mono ?_;rintro e w7 ⟨rfl,P7,o7⟩
      have B7:=xh (B6.out.only o7 (H6.out.1.2.iR B6.out (by decide) (by decide) (by decide) (by decide) (by decide) (by decide) (by decide) (by decide) (by decide)));have H7:=xh (show TQ w7 tb I F6 q3 n (Kz+3)∧aC w7 b (.slice (some ⟨g,0,none⟩) ((cP++[y]).length+1) cc) L∧OB b w w7 F F6∧aG w7 111 3 (.slice A2 (x.l.length-hf) c2) (x.l.length-hf) (aw (x.l.drop hf)) from
       ⟨H6.out.1.next o7 P7,H6.out.2.1.pL H6.out.1.2 o7,H6.out.2.2.1.step hb o7 (fun g hg=> .inl hg),PT.FZ (.self P7 o7) H6.out.1.2 H6.out.2.2.2.2⟩)
      clear P7 o7 z0 u0 u1 A6 B6 D6
      by_cases Fq:e3=0
      ·subst Fq;obtain ⟨oH,AY,cY,rfl,D9⟩: ∃oH AY cY,Lp=oH++[(⟨y,AY,cY⟩:SM)]∧oH.map SM.s=cP:=by
        have:=HPRE.out
        rcases List.eq_nil_or_concat Lp with h0 | ⟨oH,Y,h0⟩
        ·rw [h0] at this; simp at this
        ·have h0:Lp=oH++[Y]:=by simpa using h0
         rw [h0,List.map_append] at this;obtain ⟨a1,a2⟩:=List.append_inj' this rfl;obtain ⟨ys,AY,cY⟩:=Y;simp at a2;subst a2;exact ⟨oH,AY,cY,h0,a1⟩
       have hLL:oH.length=cP.length:=by rw [←D9,List.length_map]
       have nF:=xh hLL;have LX:=xh D9;have hHL:=HL.out;rw [List.append_assoc,List.singleton_append] at hHL;have hfy:=ln.out y (by simp);have hya:=hfy.a;have hyn:=hfy.n;have HFY:=xh hfy;obtain ⟨eb,rb,Fc⟩: ∃eb rb,x.l.drop hf=eb::rb:=by
        cases hd:x.l.drop hf with
        | nil=>have:=congrArg List.length hd; rw [List.length_drop] at this; simp at this; omega
        | cons e r=>exact ⟨e,r,rfl⟩
       obtain ⟨g2,yl,LQ,nz,BB2,_,_⟩:=H7.out.2.2.2.form (by omega) (by omega);simp only [Value.slice.injEq,true_and] at nz;obtain ⟨rfl,rfl⟩:=nz;rw [Fc] at BB2;have bf:=eh.out;rw [if_neg (by simp),Fc] at bf;have eh:=xh bf
       have H8:=xh (show TQ w7.drew tb I F6 q3 n (Kz+3)∧aC w7.drew b (.slice (some ⟨g,0,none⟩) ((cP++[y]).length+1) cc) (oH++⟨y,AY,cY⟩::[⟨x,A,c⟩])∧OB b w w7.drew F F6∧ax w7.drew (w4.heap.size+1) 118 #[.bool x.leaf,.slice (some ⟨g2,0,none⟩) (x.l.length-hf) c2]∧ax w7.drew g2 111 (aw (eb::rb)++LQ).toArray from
        ⟨H7.out.1.drew,by have:=H7.out.2.1; rw [hHL] at this; exact this.below (Below.refl _ _).drew,H7.out.2.2.1.below (Below.refl _ _).drew,B7.out.drew,BB2.drew⟩)
       have HB8:=xh (show b≤w7.drew.heap.size from by have:=H7.out.2.2.1.size; show b≤w7.heap.size; omega);have HNY:=xh (show g2∉ah (.slice AY y.l.length cY) from fun hm=>by have h1:=HF2.out g2 (by simp [ah]); have h2:=HLT3.out ⟨y,AY,cY⟩ (by rw [hHL]; simp) g2 hm; omega);generalize w4.heap.size+1=gB at *;have s3:IntKind.i64.wrap (((cP.length+1+1:Nat):Int)-2)=(cP.length:Int):=by rw [show ((cP.length+1+1:Nat):Int)-2=(cP.length:Int) by omega]; exact IntWalk.i64_in _ (by omega)
       have s4:(cP.length:Int)<((cP.length+1+1:Nat):Int):=by omega
       have s5:IntKind.i64.wrap ((y.at_:Int)+1)=((y.at_+1:Nat):Int):=by rw [show (y.at_:Int)+1=((y.at_+1:Nat):Int) by omega]; exact IntWalk.i64_in _ (by omega)
       have s7:0<x.l.length-hf:=by omega
       have s6:(0:Int)<((x.l.length-hf:Nat):Int):=by omega
       have HDR:=xh Fc;clear BB2 Fc bf H7 hHL D9 hLL hfy;go_wp2_with fail;obtain ⟨w8,vX⟩: ∃w8,w7.drew=w8:=⟨_,rfl⟩;rw [vX] at H8 HB8;have HS:=xh (show ∀W,Below w8.heap.size w8 W→(fun W=>W.cell? ⟨g,cP.length*4+3,none⟩=some (.int .i64 (y.at_:Nat))∧W.cell? ⟨gB,1,none⟩=some (.slice (some ⟨g2,0,none⟩) (x.l.length-hf) c2)∧W.cell? ⟨g2,0,none⟩=some (.string eb.key)) W from fun W hb=>by
        have h1:=(H8.out.2.1.below hb).cell (k:=oH.length) (Z:=⟨y,AY,cY⟩) (by rw [List.getElem?_append_right (Nat.le_refl _),Nat.sub_self]; rfl) 3 (by omega);rw [nF.out] at h1;exact ⟨h1,(H8.out.2.2.2.1.below hb H8.out.2.2.2.1.lt).ab (i:=1) rfl,(H8.out.2.2.2.2.below hb H8.out.2.2.2.2.lt).ab (i:=0) rfl⟩)
       have Hn:=xh (HS.out w8 (Below.refl _ _));have x8:w8.cell? ⟨g,cP.length*4+2,none⟩=some (.slice AY y.l.length cY):=by
        have h1:=H8.out.2.1.cell (k:=oH.length) (Z:=⟨y,AY,cY⟩) (by rw [List.getElem?_append_right (Nat.le_refl _),Nat.sub_self]; rfl) 2 (by omega);rw [nF.out] at h1;exact h1
       obtain ⟨w9,LY⟩: ∃w9,w8.alloc (.cells #[.string eb.key,.string ⟨#[]⟩,.int .i64 l2] 111)=w9:=⟨_,rfl⟩;have gv:Below w8.heap.size w8 w9:=by rw [←LY]; exact ae (Below.refl _ _) _
       have BN9:ax w9 w8.heap.size 111 #[.string eb.key,.string ⟨#[]⟩,.int .i64 l2]:=by rw [←LY]; exact ax.new _ _ _
       have BZ9:w9.frozen? ⟨w8.heap.size,3,none⟩=false:=by rw [←LY]; exact World.frozen?_alloc_at (w:=w8) _ _ w8.heap.size 3 rfl
       have Fs:=xh (HS.out w9 gv);have x9:w9.cell? ⟨g,cP.length*4+2,none⟩=some (.slice AY y.l.length cY):=(gv.cell (p:=⟨g,cP.length*4+2,none⟩) (da x8)).trans x8;have H9:=xh (show TQ w9 tb I F6 q3 n (Kz+3)∧aC w9 b (.slice (some ⟨g,0,none⟩) ((cP++[y]).length+1) cc) (oH++⟨y,AY,cY⟩::[⟨x,A,c⟩])∧OB b w w9 F F6∧ax w9 gB 118 #[.bool x.leaf,.slice (some ⟨g2,0,none⟩) (x.l.length-hf) c2]∧ax w9 g2 111 (aw (eb::rb)++LQ).toArray from
        ⟨H8.out.1.below gv,H8.out.2.1.below gv,H8.out.2.2.1.below gv,H8.out.2.2.2.1.below gv H8.out.2.2.2.1.lt,H8.out.2.2.2.2.below gv H8.out.2.2.2.2.lt⟩)
       have HB9:=xh (show b≤w9.heap.size from Nat.le_trans HB8.out gv.size);have rM:=xh (show (y.l.insertIdx (y.at_+1) (⟨eb.key,⟨#[]⟩,l2⟩:E)).length=y.l.length+1 from by rw [List.length_insertIdx,if_pos (by omega)]);have SY:=H9.out.2.1.e ⟨y,AY,cY⟩ (by simp)
       have KI:=xh (Nd.mj (w:=w9) SY.1 ⟨eb.key,⟨#[]⟩,l2⟩ (g2:=w8.heap.size) (cc:=1) BN9 (show y.l.length≤100000 by omega) (fun hm=>by have:=(H8.out.2.1.e ⟨y,AY,cY⟩ (by simp)).1.lt _ hm; omega) (y.at_+1) (show y.at_+1≤y.l.length by omega) BZ9)
       have zf:=xh (show ∀W,ag (ah (.slice AY y.l.length cY)) w9 W→(fun W=>W.cell? ⟨g,cP.length*4+3,none⟩=some (.int .i64 (y.at_:Nat))∧W.cell? ⟨gB,1,none⟩=some (.slice (some ⟨g2,0,none⟩) (x.l.length-hf) c2)∧W.cell? ⟨g2,0,none⟩=some (.string eb.key)) W from fun W o=>by
        have hgY:g∉ah (.slice AY y.l.length cY):=fun hm=>fo SY.1 H9.out.2.1.s (by decide) g hm (by simp [ah]);obtain ⟨k1,k2,k3⟩:=Fs.out;exact ⟨(o.cell (p:=⟨g,cP.length*4+3,none⟩) (da k1) hgY).trans k1,(H9.out.2.2.2.1.only o (cv SY.1 H9.out.2.2.2.1 (by decide))).ab (i:=1) rfl,(H9.out.2.2.2.2.only o HNY.out).ab (i:=0) rfl⟩)
       clear SY BN9 BZ9 gv;refine wp_region_held_drew (S:=fun W=>W.cell? ⟨g,cP.length*4+3,none⟩=some (.int .i64 (y.at_:Nat))∧W.cell? ⟨gB,1,none⟩=some (.slice (some ⟨g2,0,none⟩) (x.l.length-hf) c2)∧W.cell? ⟨g2,0,none⟩=some (.string eb.key)) (by kernel_rfl) (by rw [vX]; exact Hn.out) (fun aj=>?_);rw [vX];clear vX;refine bR [(0,67),(1,68),(2,69),(3,70),(4,71),(6,73),(7,74),(8,75),(9,76),(10,77),(11,78),(12,79),(13,80),(14,81),(15,82),(16,83),(17,84)] ?_
       iterate 17 (refine zt ?_; try simp only [Act.put,pa,pb,pc])
       refine bS ?_;refine wpAnyH_ready (rs:=[5,18]) (by kernel_rfl) (by simp) ?_;refine AllReadyH.cons (o:=⟨some 72,_,_,_,_,_⟩) rfl (fun K hK=>?_) (AllReadyH.cons (o:=⟨some 85,_,_,_,_,_⟩) rfl (fun K hK=>?_) AllReadyH.nil)
       ·skip
        go_simp;refine hK.out _ _ (Hn.out) (fun aj=>?_)
        try simp only [Act.put,pa,pb,pc]
        refine cA (i:=18) (o:=⟨some 85,_,_,_,_,_⟩) fun K hK=>?_;go_simp;refine hK.out _ _ (Fs.out) (fun aj=>?_)
        try simp only [Act.put,pa,pb,pc]
        refine cA (i:=19) (o:=⟨some 86,_,_,_,_,_⟩) fun K hK=>?_;go_simp
        go_at_call 74
        refine KI.out.mono ?_;rintro e jo ⟨A',c',rfl,pH,kk,f10⟩;have pH:=xh pH;have kk:=xh kk;have f10:=xh f10;have uQ:=xh (zf.out jo kk.out);go_simp;refine hK.out _ _ (uQ.out) (fun aj=>?_)
        try simp only [Act.put,pa,pb,pc]
        refine bR [(20,87),(21,88),(22,89)] ?_
        iterate 3 (refine zt ?_; try simp only [Act.put,pa,pb,pc])
        refine bS ?_;refine cA (i:=23) (o:=⟨none,_,_,_,_,_⟩) fun K hK=>?_;go_simp;obtain ⟨SP,sx,sz⟩:=H9.out.2.1.put (y.l.insertIdx (y.at_+1) ⟨eb.key,⟨#[]⟩,l2⟩) (A':=A') (c':=c') (by rw [rM.out]; exact pH.out) kk.out (by rw [rM.out]; exact f10.out) HB9.out;rw [nF.out] at SP sx sz;rw [rM.out] at SP;have SP:=xh SP;have sx:jo.cell? ⟨g,cP.length*4+2,none⟩=some (.slice AY y.l.length cY):=sx
        have nt:=xh (show ag (g::ah (.slice AY y.l.length cY)) w9 (jo.setCell ⟨g,cP.length*4+2,none⟩ (.slice A' (y.l.length+1) c')) from (kk.out.mono (fun x hx _=>List.mem_cons_of_mem _ hx)).setCell (by simp) _);have Ho:=(H9.out.2.1.e ⟨y,AY,cY⟩ (by simp)).1;have Ba:=SP.out.cell (k:=oH.length) (Z:=⟨{y with l:=y.l.insertIdx (y.at_+1) ⟨eb.key,⟨#[]⟩,l2⟩},A',c'⟩) (by rw [List.getElem?_append_right (Nat.le_refl _),Nat.sub_self]; rfl) 3 (by omega);rw [nF.out] at Ba
        have qX:=xh (And.intro Ba (And.intro (((H9.out.2.2.2.1.only kk.out (cv Ho H9.out.2.2.2.1 (by decide))).aH (p:=⟨g,cP.length*4+2,none⟩) (fun e=>cv H9.out.2.1.s H9.out.2.2.2.1 (by decide) (by simp [ah]; exact e)) (.slice A' (y.l.length+1) c')).ab (i:=1) rfl) (((H9.out.2.2.2.2.only kk.out HNY.out).aH (p:=⟨g,cP.length*4+2,none⟩) (fun e=>cv H9.out.2.1.s H9.out.2.2.2.2 (by decide) (by simp [ah]; exact e)) (.slice A' (y.l.length+1) c')).ab (i:=0) rfl)))
        clear Ho Ba;go_simp;refine hK.out _ _ (qX.out) (fun aj=>?_)
        try simp only [Act.put,pa,pb,pc]
        refine wpAnyH_done (by kernel_rfl) ?_ _;go_wp2_with fail;have hT:TQ (jo.setCell ⟨g,cP.length*4+1+1,none⟩ (.slice A' (y.l.length+1) c')) tb I F6 q3 n (Kz+3):=by
         have ik:=H9.out.2.1.off H9.out.1.2;have pM:=H9.out.2.1.tree H9.out.1.1;exact H9.out.1.only nt.out (fun z hz hm=>by
          rcases List.mem_cons.1 hz with h1 | h1<;>rcases List.mem_cons.1 hm with h2 | h2
          ·exact pM.1 (by rw [←h1,h2]; simp [ah])
          ·exact pM.2 ⟨y,AY,cY⟩ (by simp) (by rw [←h1]; exact h2)
          ·exact ik.1 z (by rw [h2]; simp [ah]) h1
          ·exact ik.2 ⟨y,AY,cY⟩ (by simp) z h2 h1)
        have hO:OB b w (jo.setCell ⟨g,cP.length*4+1+1,none⟩ (.slice A' (y.l.length+1) c')) F F6:=H9.out.2.2.1.own nt.out (fun z hz=>by
         rcases List.mem_cons.1 hz with h2 | h2
         ·rw [h2]; exact H9.out.2.1.f g (by simp [ah])
         ·exact (H9.out.2.1.e ⟨y,AY,cY⟩ (by simp)).2 z h2)
        have Bb:b≤(jo.setCell ⟨g,cP.length*4+1+1,none⟩ (.slice A' (y.l.length+1) c')).heap.size:=Nat.le_trans HB9.out nt.out.size;have SQ:aC (jo.setCell ⟨g,cP.length*4+1+1,none⟩ (.slice A' (y.l.length+1) c')) b (.slice (some ⟨g,0,none⟩) (cP.length+1) cc) (oH++[(⟨{y with l:=y.l.insertIdx (y.at_+1) ⟨eb.key,⟨#[]⟩,l2⟩},A',c'⟩:SM)]):=by
         have h2:=aC.pop (L:=oH++[(⟨{y with l:=y.l.insertIdx (y.at_+1) ⟨eb.key,⟨#[]⟩,l2⟩},A',c'⟩:SM)]) (X:=⟨x,A,c⟩) (by rw [List.append_assoc,List.singleton_append]; exact SP.out);rw [List.length_append,List.length_singleton,nF.out] at h2;exact h2
        have pN:=eh.out;subst pN;have hLX:=HLX.out;have L8:eb∈x.l:=List.mem_of_mem_drop (i:=hf) (by rw [HDR.out]; simp);have KR:=gX m cP {y with l:=y.l.insertIdx (y.at_+1) ⟨eb.key,⟨#[]⟩,l2⟩} (by have:=HPM.out; rw [List.length_append,List.length_singleton] at this; omega) hT (by have:=HK.out; omega) SQ Bb (by rw [List.map_append,LX.out]; rfl) (fun s hs=>ln.out s (by simp [hs]))
         ⟨by have:=HFY.out.n; show (y.l.insertIdx (y.at_+1) _).length≤90; rw [rM.out]; omega,fun e he=>by
          rcases (List.mem_insertIdx (by omega)).1 he with rfl | he
          ·exact ⟨(hLX.2 eb L8).1,by show (⟨#[]⟩:ByteArray).size≤40; decide⟩
          ·exact HFY.out.l.2 e he⟩ (by have:=n9.out; rw [List.length_append,List.length_singleton] at this; omega)
        refine KR.mono ?_;rintro e w12 ⟨rfl,uR⟩;have uR:=xh uR;have HO:=xh hO;clear hT hO Bb SQ hLX L8 KR;go_wp2_with fail;go_ret;exact ⟨by first | rfl | simp [keyOf],(HO.out.trans uR.out).le (by omega)⟩
       ·skip
        go_simp;refine hK.out _ _ (Fs.out) (fun aj=>?_)
        try simp only [Act.put,pa,pb,pc]
        refine cA (i:=5) (o:=⟨some 72,_,_,_,_,_⟩) fun K hK=>?_;go_simp;refine hK.out _ _ (Fs.out) (fun aj=>?_)
        try simp only [Act.put,pa,pb,pc]
        refine cA (i:=19) (o:=⟨some 86,_,_,_,_,_⟩) fun K hK=>?_;go_simp
        go_at_call 74
        refine KI.out.mono ?_;rintro e jo ⟨A',c',rfl,pH,kk,f10⟩;have pH:=xh pH;have kk:=xh kk;have f10:=xh f10;have uQ:=xh (zf.out jo kk.out);go_simp;refine hK.out _ _ (uQ.out) (fun aj=>?_)
        try simp only [Act.put,pa,pb,pc]
        refine bR [(20,87),(21,88),(22,89)] ?_
        iterate 3 (refine zt ?_; try simp only [Act.put,pa,pb,pc])
        refine bS ?_;refine cA (i:=23) (o:=⟨none,_,_,_,_,_⟩) fun K hK=>?_;go_simp;obtain ⟨SP,sx,sz⟩:=H9.out.2.1.put (y.l.insertIdx (y.at_+1) ⟨eb.key,⟨#[]⟩,l2⟩) (A':=A') (c':=c') (by rw [rM.out]; exact pH.out) kk.out (by rw [rM.out]; exact f10.out) HB9.out;rw [nF.out] at SP sx sz;rw [rM.out] at SP;have SP:=xh SP;have sx:jo.cell? ⟨g,cP.length*4+2,none⟩=some (.slice AY y.l.length cY):=sx
        have nt:=xh (show ag (g::ah (.slice AY y.l.length cY)) w9 (jo.setCell ⟨g,cP.length*4+2,none⟩ (.slice A' (y.l.length+1) c')) from (kk.out.mono (fun x hx _=>List.mem_cons_of_mem _ hx)).setCell (by simp) _);have Ho:=(H9.out.2.1.e ⟨y,AY,cY⟩ (by simp)).1;have Ba:=SP.out.cell (k:=oH.length) (Z:=⟨{y with l:=y.l.insertIdx (y.at_+1) ⟨eb.key,⟨#[]⟩,l2⟩},A',c'⟩) (by rw [List.getElem?_append_right (Nat.le_refl _),Nat.sub_self]; rfl) 3 (by omega);rw [nF.out] at Ba
        have qX:=xh (And.intro Ba (And.intro (((H9.out.2.2.2.1.only kk.out (cv Ho H9.out.2.2.2.1 (by decide))).aH (p:=⟨g,cP.length*4+2,none⟩) (fun e=>cv H9.out.2.1.s H9.out.2.2.2.1 (by decide) (by simp [ah]; exact e)) (.slice A' (y.l.length+1) c')).ab (i:=1) rfl) (((H9.out.2.2.2.2.only kk.out HNY.out).aH (p:=⟨g,cP.length*4+2,none⟩) (fun e=>cv H9.out.2.1.s H9.out.2.2.2.2 (by decide) (by simp [ah]; exact e)) (.slice A' (y.l.length+1) c')).ab (i:=0) rfl)))
        clear Ho Ba;go_simp;refine hK.out _ _ (qX.out) (fun aj=>?_)
        try simp only [Act.put,pa,pb,pc]
        refine wpAnyH_done (by kernel_rfl) ?_ _;go_wp2_with fail;have hT:TQ (jo.setCell ⟨g,cP.length*4+1+1,none⟩ (.slice A' (y.l.length+1) c')) tb I F6 q3 n (Kz+3):=by
         have ik:=H9.out.2.1.off H9.out.1.2;have pM:=H9.out.2.1.tree H9.out.1.1;exact H9.out.1.only nt.out (fun z hz hm=>by
          rcases List.mem_cons.1 hz with h1 | h1<;>rcases List.mem_cons.1 hm with h2 | h2
          ·exact pM.1 (by rw [←h1,h2]; simp [ah])
          ·exact pM.2 ⟨y,AY,cY⟩ (by simp) (by rw [←h1]; exact h2)
          ·exact ik.1 z (by rw [h2]; simp [ah]) h1
          ·exact ik.2 ⟨y,AY,cY⟩ (by simp) z h2 h1)
        have hO:OB b w (jo.setCell ⟨g,cP.length*4+1+1,none⟩ (.slice A' (y.l.length+1) c')) F F6:=H9.out.2.2.1.own nt.out (fun z hz=>by
         rcases List.mem_cons.1 hz with h2 | h2
         ·rw [h2]; exact H9.out.2.1.f g (by simp [ah])
         ·exact (H9.out.2.1.e ⟨y,AY,cY⟩ (by simp)).2 z h2)
        have Bb:b≤(jo.setCell ⟨g,cP.length*4+1+1,none⟩ (.slice A' (y.l.length+1) c')).heap.size:=Nat.le_trans HB9.out nt.out.size;have SQ:aC (jo.setCell ⟨g,cP.length*4+1+1,none⟩ (.slice A' (y.l.length+1) c')) b (.slice (some ⟨g,0,none⟩) (cP.length+1) cc) (oH++[(⟨{y with l:=y.l.insertIdx (y.at_+1) ⟨eb.key,⟨#[]⟩,l2⟩},A',c'⟩:SM)]):=by
         have h2:=aC.pop (L:=oH++[(⟨{y with l:=y.l.insertIdx (y.at_+1) ⟨eb.key,⟨#[]⟩,l2⟩},A',c'⟩:SM)]) (X:=⟨x,A,c⟩) (by rw [List.append_assoc,List.singleton_append]; exact SP.out);rw [List.length_append,List.length_singleton,nF.out] at h2;exact h2
        have pN:=eh.out;subst pN;have hLX:=HLX.out;have L8:eb∈x.l:=List.mem_of_mem_drop (i:=hf) (by rw [HDR.out]; simp);have KR:=gX m cP {y with l:=y.l.insertIdx (y.at_+1) ⟨eb.key,⟨#[]⟩,l2⟩} (by have:=HPM.out; rw [List.length_append,List.length_singleton] at this; omega) hT (by have:=HK.out; omega) SQ Bb (by rw [List.map_append,LX.out]; rfl) (fun s hs=>ln.out s (by simp [hs]))
         ⟨by have:=HFY.out.n; show (y.l.insertIdx (y.at_+1) _).length≤90; rw [rM.out]; omega,fun e he=>by
          rcases (List.mem_insertIdx (by omega)).1 he with rfl | he
          ·exact ⟨(hLX.2 eb L8).1,by show (⟨#[]⟩:ByteArray).size≤40; decide⟩
          ·exact HFY.out.l.2 e he⟩ (by have:=n9.out; rw [List.length_append,List.length_singleton] at this; omega)
        refine KR.mono ?_;rintro e w12 ⟨rfl,uR⟩;have uR:=xh uR;have HO:=xh hO;clear hT hO Bb SQ hLX L8 KR;go_wp2_with fail;go_ret;exact ⟨by first | rfl | simp [keyOf],(HO.out.trans uR.out).le (by omega)⟩
      ·have bf:=eh.out;rw [if_pos Fq] at bf;subst bf;have hq:(e3 != 0)=true:=by rw [bne_iff_ne]; exact Fq
       have jm:(e3==0)=false:=by rw [beq_eq_false_iff_ne]; exact Fq
       go_wp2_with fail;go_ret;exact ⟨by first | rfl | simp,(H7.out.2.2.1.pb H7.out.1.2).le (by omega)⟩
     ·have bf:=eh.out;rw [if_pos sE] at bf;subst bf;have hq:(e2 != 0)=true:=by rw [bne_iff_ne]; exact sE
      have jm:(e2==0)=false:=by rw [beq_eq_false_iff_ne]; exact sE
      go_wp2_with fail;go_ret;exact ⟨by first | rfl | simp,(H6.out.2.2.1.pb H6.out.1.2).le (by omega)⟩
   ·have lY:(aY x.leaf x.l).2=0:=by have:=HBB.out; simpa using this.symm
    have bf:=eh.out;rw [if_pos (.inr lY)] at bf;subst bf;go_wp2_with fail;go_ret;exact ⟨by first | rfl | simp,(H3.out.2.2.2.pb H3.out.1.2).le (by omega)⟩
  ·have hq:(e1 != 11)=true:=by rw [bne_iff_ne]; exact he
   have jm:(e1==11)=false:=by rw [beq_eq_false_iff_ne]; exact he
   have bf:=eh.out;rw [if_pos (.inl he)] at bf;subst bf;go_wp2_with fail;go_ret;exact ⟨by first | rfl | simp,(H2.out.2.2.2.pb H2.out.1.2).le (by omega)⟩
end Go.Proofs.YtmonobkginiajaaGreat.Sh
