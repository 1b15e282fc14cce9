/- packed. -/
import Derived.Test.YtmonobkginiajaaGreatQ29
import Derived.WalkMore
import Derived.Test.YtmonobkginiajaaGreatQ26
import Derived.Laws.StructEq
import Derived.Laws.Rows
set_option linter.all false
set_option maxRecDepth 100000
set_option maxHeartbeats 8000000
namespace Go.Proofs.YtmonobkginiajaaGreat.Sh
open Go.RowKit Pk Dk Pg
open Nd (E aF aJ cM bg aK bI bj ai cE)
def lowF (l:List PR) (key:ByteArray):List PR:=l.filter fun x=>decide (fW x.1 key)
def eqF (l:List PR) (key:ByteArray):List PR:=l.filter fun x=>decide (x.1=key)
def FL (l:List PR) (key:ByteArray):List PR:=l.filter fun x=>decide (fW key x.1)
theorem filter_all {α:Type} {p:α→Bool} {l:List α} (h: ∀x∈l,p x=true):l.filter p=l:=List.filter_eq_self.2 h
theorem filter_none {α:Type} {p:α→Bool} {l:List α} (h: ∀x∈l,p x=false):l.filter p=[]:=List.filter_eq_nil_iff.2 fun x hx=>by rw [h x hx]; simp
theorem y5 {a b:ByteArray} (h:fW a b):a≠b:=fun e=>sF (by rwa [e] at h)
theorem Et.parts {l:List PR} {key:ByteArray} {A C B:List PR} (d:Et l key A C B):A=lowF l key∧C=eqF l key∧B=FL l key:=by
 have hC: ∀x∈C,x.1=key:=fun x hx=>by
  rcases d.c with h | ⟨y,h⟩
  ·rw [h] at hx; simp at hx
  ·rw [h] at hx; rw [List.mem_singleton.1 hx]
 unfold lowF eqF FL;rw [d.e];simp only [List.filter_append];refine ⟨?_,?_,?_⟩
 ·rw [filter_all (l:=A) (fun x hx=>decide_eq_true (d.a x hx)),filter_none (l:=C) (fun x hx=>decide_eq_false (fun h=>y5 h (hC x hx))),filter_none (l:=B) (fun x hx=>decide_eq_false (fun h=>sF (jB h (d.b x hx))))];simp
 ·rw [filter_none (l:=A) (fun x hx=>decide_eq_false (y5 (d.a x hx))),filter_all (l:=C) (fun x hx=>decide_eq_true (hC x hx)),filter_none (l:=B) (fun x hx=>decide_eq_false (fun h=>y5 (d.b x hx) h.symm))];simp
 ·rw [filter_none (l:=A) (fun x hx=>decide_eq_false (fun h=>sF (jB h (d.a x hx)))),filter_none (l:=C) (fun x hx=>decide_eq_false (fun h=>y5 h (hC x hx).symm)),filter_all (l:=B) (fun x hx=>decide_eq_true (d.b x hx))];simp
def msetF (l:List PR) (key value:ByteArray):List PR:=lowF l key++(key,value)::FL l key
def mdelF (l:List PR) (key:ByteArray):List PR:=lowF l key++FL l key
theorem wt1:Ii (fun _=>1) 34:=fun _=>by show 39*1+34≤73*1; omega
section
variable {o:Vw} {mm:Nat}
theorem Iy {q:QS} {v:Vw} {u H:Nat} {M:List MT} (R:Rd q v o u mm) (T:Tree v H M) (hH:H≤15) (key value:ByteArray) (hk:key.size≤32) (hv:value.size≤1024):
  ((q.jj key value).2=11∧ ∃v' u',Rd (q.jj key value).1 v' o u' mm∧u'≤u+H+8∧(mm≤u'∨512≤u'))∨
  ((q.jj key value).2=0∧ ∃v' H' M' new A C B h c,Rd (q.jj key value).1 v' o (u+new) mm∧SetP v v' H M key value H' M' new A C B h c∧kM M'=msetF (kM M) key value):=by
 refine (MJ R T hH key value hk hv).imp id ?_;rintro ⟨h1,v',H',M',new,A,C,B,h,c,h2,h3⟩;obtain ⟨d1,d2,d3⟩:=h3.d.parts;exact ⟨h1,v',H',M',new,A,C,B,h,c,h2,h3,by rw [h3.m,d1,d3]; rfl⟩
theorem xR {q:QS} {v:Vw} {u:Nat} {M:List MT} (R:Rd q v o u mm) (T:Tree v 0 M) (key value:ByteArray) (hk:key.size≤32) (hv:value.size≤40) (hu:u+8<mm) (hu2:u+8<512) {P:Nat} (hP:dr (fun _=>1) (az v 0 0)≤P) (hP2:P+key.size+value.size+7<34):
  (q.jj key value).2=0∧ ∃v' M',Rd (q.jj key value).1 v' o u mm∧Tree v' 0 M'∧kM M'=msetF (kM M) key value∧dr (fun _=>1) (az v' 0 0)≤P+key.size+value.size+7:=by
 rcases Iy R T (by omega) key value hk (by omega) with ⟨a,v',u',b,c,d⟩ | ⟨a,v',H',M',new,A,C,B,h,c,b,S,hm⟩
 ·omega
 ·have p:=S.IU (fun _=>1) 34 wt1;rw [if_pos hv] at p;have hh:H'=0:=by
   rcases S.h with e | ⟨e,f⟩
   ·exact e
   ·have:=f (fun _=>1) 34 wt1;rw [if_pos hv] at this;omega
  subst hh;rw [if_pos rfl] at p;have hn:=S.n;have hc:=S.c.2 hv;have h0:h=0:=by omega
  have hn0:new=0:=by omega
  rw [hn0] at b;exact ⟨a,v',M',b,S.t,hm,by omega⟩
theorem Ex {q:QS} {v:Vw} {u H:Nat} {M:List MT} (R:Rd q v o u mm) (T:Tree v H M) (hH:H≤15) (key:ByteArray):
  Rd (q.qW key).1 v o u mm∧(((q.qW key).2.2=11∧mm≤u)∨(q.qW key).2=mgetF (eqF (kM M) key)):=by
 obtain ⟨a,b⟩:=MH R T hH key;refine ⟨a,b.imp id ?_⟩;rintro ⟨A,C,B,d,e⟩;rw [e,d.parts.2.1]
theorem Iz {q:QS} {v:Vw} {u H:Nat} {M:List MT} (R:Rd q v o u mm) (T:Tree v H M) (hH:H≤15) (key:ByteArray):
  ((q.mu key).2=11∧mm≤u∧ ∃v',Rd (q.mu key).1 v' o u mm)∨
  ((q.mu key).2=9∧Rd (q.mu key).1 v o u mm∧eqF (kM M) key=[])∨
  ((q.mu key).2=0∧eqF (kM M) key≠[]∧ ∃v' H' M',Rd (q.mu key).1 v' o u mm∧Tree v' H' M'∧kM M'=mdelF (kM M) key∧(∀wt,dr wt (az v' H' 0)≤dr wt (az v H 0))∧H'≤H):=by
 refine (MM R T hH key).imp id (Or.imp ?_ ?_)
 ·rintro ⟨a,b,A,B,d⟩;exact ⟨a,b,d.parts.2.1.symm⟩
 ·rintro ⟨a,v',H',M',A,B,y,b,d⟩;obtain ⟨d1,d2,d3⟩:=d.d.parts;exact ⟨a,by rw [←d2]; simp,v',H',M',b,d.t,by rw [d.m,d1,d3]; rfl,d.IU,d.h⟩
end
end Go.Proofs.YtmonobkginiajaaGreat.Sh
namespace Go.Proofs.YtmonobkginiajaaGreat.Sh
open Go.RowKit Pk Dk Pg
attribute [local go_sem ↓] Go.wp_at_zero Go.wp_at_succ
def kA:ByteArray:=⟨#[97]⟩
def kB:ByteArray:=⟨#[98]⟩
def kC:ByteArray:=⟨#[99]⟩
def k1:ByteArray:=⟨#[49]⟩
def k2:ByteArray:=⟨#[50]⟩
def y6:ByteArray:=⟨#[]⟩
def aq1:QS:=((QS.begun 4 60).jj kB k1).1
def aq2:QS:=(aq1.jj kA k2).1
def aq3:QS:=(aq2.my y6 y6 9).1
def aq4:QS:=(aq3.qW kA).1
theorem pot0:dr (fun _=>1) (az BH 0 0)≤0:=by
 have wg:fV BH 0=(true,[],0):=by unfold BH; rw [eP lay0,if_pos rfl]; rfl
 unfold az;rw [wg];decide
theorem BL (R:Rd (QS.begun 4 60) BH BH 3 60):((QS.begun 4 60).jj kB k1).2=0∧(aq1.jj kA k2).2=0∧(aq2.my y6 y6 9).2=([(kA,k2),(kB,k1)],0)∧(aq3.qW kA).2=(k2,0)∧(aq4.mu kC).2=9:=by
 obtain ⟨a1,v1,M1,a2,a3,a4,a5⟩:=xR R tree0 kB k1 (by decide) (by decide) (by decide) (by decide) pot0 (by decide);have e1:kM M1=[(kB,k1)]:=by rw [a4]; decide
 obtain ⟨b1,v2,M2,b2,b3,b4,b5⟩:=xR a2 a3 kA k2 (by decide) (by decide) (by decide) (by decide) a5 (by decide);have e2:kM M2=[(kA,k2),(kB,k1)]:=by rw [b4,e1]; decide
 obtain ⟨c1,c2⟩:=Iw b2 b3 (by omega) y6 y6 9;obtain ⟨d1,d2⟩:=Ex c1 b3 (by omega) kA;have f:=Iz d1 b3 (by omega) kC;refine ⟨a1,b1,?_,?_,?_⟩
 ·rcases c2 with ⟨c2,c3⟩ | c2
  ·omega
  ·rw [show aq2=(aq1.jj kA k2).1 from rfl];refine c2.trans ?_;rw [e2];decide
 ·rcases d2 with ⟨d2,d3⟩ | d2
  ·omega
  ·refine Eq.trans d2 ?_;rw [e2];decide
 ·rcases f with ⟨f1,f2,_⟩ | ⟨f1,_⟩ | ⟨f1,f2,_⟩
  ·omega
  ·exact f1
  ·exfalso;rw [e2] at f2;exact f2 (by decide)
structure FM (w W:World) (wb mb tb:Nat) (I:Ix) (F:List Nat) (q:QS) (n K:Nat) (bE:Value):Prop where
 b:ax W wb 38 #[dp I.L.b,pp I.pb,tp tb,lp mb,bE]
 t:TQ W tb I F q n K
 o:Below w.heap.size w W
 f: ∀g∈wb::mb::tb::F,w.heap.size≤g
section
variable {w W W':World} {wb mb tb:Nat} {I:Ix} {F:List Nat} {q q':QS} {n K K':Nat} {bE:Value}
theorem FM.nw (h:FM w W wb mb tb I F q n K bE):wb∉F:=h.t.2.iR h.b (by decide) (by decide) (by decide) (by decide) (by decide) (by decide) (by decide) (by decide) (by decide)
theorem FM.pq (h:FM w W wb mb tb I F q n K bE) (P:PQ W' I F q' n K') (o:ag F W W'):FM w W' wb mb tb I F q' n K' bE:=
 ⟨h.b.only o h.nw,h.t.next o P,h.o.trans (o.ay h.o.size (fun g hg=>h.f g (by simp [hg]))),h.f⟩
theorem FM.pt (h:FM w W wb mb tb I F q n K bE) (p:PT W W' I F q' n K'): ∃F',FM w W' wb mb tb I F' q' n K' bE:=by
 obtain ⟨F',P,o,f⟩:=p;refine ⟨F',h.b.only o h.nw,⟨h.t.1.only o h.t.ne,P⟩,h.o.trans (o.ay h.o.size (fun g hg=>h.f g (by simp [hg]))),fun g hg=>?_⟩;have hs:=h.o.size;simp only [List.mem_cons] at hg
 rcases hg with rfl | rfl | rfl | hg
 ·exact h.f _ (by simp)
 ·exact h.f _ (by simp)
 ·exact h.f _ (by simp)
 ·exact (f g hg).elim (fun h1=>h.f g (by simp [h1])) (fun h1=>by omega)
theorem FM.below (h:FM w W wb mb tb I F q n K bE) (hb:Below W.heap.size W W'):FM w W' wb mb tb I F q n K bE:=
 ⟨h.b.below hb h.b.lt,h.t.below hb,ao h.o hb,h.f⟩
end
theorem BO (w:World):Calls Tryz.prog 13 #[] w fun e w'=>e= .returned (.bool true)∧Below w.heap.size w w':=by
 have KB:=xh (Ew w 4 60 (by omega) (by omega) (by omega) (by omega));go_enter Tryz.func13,Tryz.ntmps13;go_wp2_with fail;refine KB.out.mono ?_;rintro e w1 ⟨wb,tb,mb,I,F,rfl,B1,BM,T1,R1,O1,f1⟩;obtain ⟨g1,g2,g3,g4,g5⟩:=BL R1;have A1:FM w w1 wb mb tb I F (QS.begun 4 60) 242 50 (.slice none 0 0):=⟨B1,T1,O1,f1⟩;have x1:=B1.ab (i:=2) rfl;have K1:=Bc T1 (by omega) kB k1 (by decide) (by decide);rw [g1] at K1;have K1:=xh K1
 have K2:=xh (fun (W:World) (F:List Nat) (hW:TQ W tb I F aq1 242 150)=>g2▸Bc hW (by omega) kA k2 (by decide) (by decide));have K3:=xh (fun (W:World) (F:List Nat) (hW:TQ W tb I F aq2 242 250)=>Hx hW (by omega) y6 y6 9);have K4:=xh (fun (W:World) (F:List Nat) (hW:TQ W tb I F aq3 242 300250)=>Hl hW (by omega) kA);have K5:=xh (fun (W:World) (F:List Nat) (hW:TQ W tb I F aq4 242 300271)=>Mk hW (by omega) kC);rw [g3] at K3;rw [g4] at K4;rw [g5] at K5
 have A1:=xh A1;clear B1 BM T1 R1 O1 f1 g1 g2 g3 g4 g5;unfold tp kA kB kC k1 k2 y6 at *;unfold lp;go_wp2_with fail;refine K1.out.mono ?_;rintro e w2 ⟨rfl,p2⟩;obtain ⟨F2,A2⟩:=A1.out.pt p2;have x2:=A2.b.ab (i:=2) rfl;have K2:=xh (K2.out w2 F2 A2.t);have A2:=xh A2;clear p2 x1;unfold tp at x2;go_wp2_with fail;refine K2.out.mono ?_;rintro e w3 ⟨rfl,p3⟩;obtain ⟨F3,A3⟩:=A2.out.pt p3;have x3:=A3.b.ab (i:=2) rfl;have K3:=xh (K3.out w3 F3 A3.t);have A3:=xh A3
 clear p3 x2;unfold tp at x3;go_wp2_with fail;refine K3.out.mono ?_;rintro e w4 ⟨v,rfl,S4,P4,o4,f4⟩;have A4:FM w w4 wb mb tb I F3 aq3 242 300250 (.slice none 0 0):=A3.out.pq P4 o4;have x4:=A4.b.ab (i:=2) rfl;have K4:=xh (K4.out w4 F3 A4.t);have A4:=xh A4;have S4:=xh (And.intro S4 f4);clear P4 o4 f4 x3;unfold tp at x4;go_wp2_with fail;refine K4.out.mono ?_;rintro e w5 ⟨rfl,P5,o5⟩;have A5:FM w w5 wb mb tb I F3 aq4 242 300271 (.slice none 0 0):=A4.out.pq P5 o5
 have S5:aG w5 42 2 v 2 (xD [(⟨#[97]⟩,⟨#[50]⟩),(⟨#[98]⟩,⟨#[49]⟩)]):=S4.out.1.only o5 (fun g hg hm=>by have h1:=S4.out.2 g hg; have h2:=A3.out.t.2.lt g hm; omega);obtain ⟨VA,vc,rfl⟩:=aq S5;have fj:=ae (Below.refl w5.heap.size w5) (.cells #[.string ⟨#[97]⟩,.string ⟨#[50]⟩,.string ⟨#[98]⟩,.string ⟨#[49]⟩] 42)
 have SB:aG (w5.alloc (.cells #[.string ⟨#[97]⟩,.string ⟨#[50]⟩,.string ⟨#[98]⟩,.string ⟨#[49]⟩] 42)) 42 2 (.slice (some ⟨w5.heap.size,0,none⟩) 2 2) 2 (xD [(⟨#[97]⟩,⟨#[50]⟩),(⟨#[98]⟩,⟨#[49]⟩)]):=⟨rfl,.inr ⟨w5.heap.size,2,[],rfl,ax.new _ _ _,rfl,by decide⟩⟩;have KS:=xh (MV (S5.below fj) SB (by omega) (by omega) true (by simp));have A6:=xh (A5.below fj);clear P5 o5 S5 SB fj A5 x4;go_wp2_with fail;refine KS.out.mono ?_;rintro e w7 ⟨rfl,fY⟩;have A7:=A6.out.below fY
 have x7:=A7.b.ab (i:=2) rfl;have K5:=xh (K5.out w7 F3 A7.t);have A7:=xh A7;clear fY;unfold tp at x7;go_wp2_with fail;refine K5.out.mono ?_;rintro e w8 ⟨rfl,p8⟩;obtain ⟨F8,A8⟩:=A7.out.pt p8;have A8:=xh A8;clear p8 x7;go_wp2_with fail;go_ret;exact ⟨by first | rfl | simp,A8.out.o⟩
end Go.Proofs.YtmonobkginiajaaGreat.Sh
namespace Go.Proofs.YtmonobkginiajaaGreat.Sh
open Go.RowKit Go.ChangeShapes Go.WideShapes Go.Deep Pk Dk Pg
attribute [local go_sem ↓] Go.wp_at_zero Go.wp_at_succ
structure Tac where
 kd:Int
 n:Int
 key:ByteArray
 aW:ByteArray
 val:ByteArray
def Tac.v (x:Tac):Value:= .agg #[.int .i64 x.kd,.int .i64 x.n,.string x.key,.string x.aW,.string x.val]
def Tac.ok (x:Tac):Prop:=x.key.size≤maxLen∧x.aW.size≤maxLen∧x.val.size≤maxLen∧ -9223372036854775808≤x.kd∧x.kd≤9223372036854775807∧ -9223372036854775808≤x.n∧x.n≤9223372036854775807
theorem IA {H:Type} {enc:TypeId×Value→H} {P:Program} {w:World} {t:TypeId} {f0 f1 f2 f3 f4:Field} {fuel:Nat} {cs:List Value} {x:DataW H×List MemPlace}
  (hs:P.underlying t=some (.struct #[f0,f1,f2,f3,f4])) (hC:P.cellsOf t=5) (o0:f0.offset=0) (o1:f1.offset=1) (o2:f2.offset=2) (o3:f3.offset=3) (o4:f4.offset=4) (k0:P.cellsOf f0.type=1) (k1:P.cellsOf f1.type=1) (k2:P.cellsOf f2.type=1) (k3:P.cellsOf f3.type=1) (k4:P.cellsOf f4.type=1)
  (u0:P.underlying f0.type=some (.int .i64)) (u1:P.underlying f1.type=some (.int .i64)) (u2:P.underlying f2.type=some .string) (u3:P.underlying f3.type=some .string) (u4:P.underlying f4.type=some .string)
  (h:DataW.trod enc P w 0 (fun _=>true) true fuel t cs=some x): ∃y:Tac,cs=[.int .i64 y.kd,.int .i64 y.n,.string y.key,.string y.aW,.string y.val]∧y.ok:=by
 obtain ⟨xs,n,_,_,hl,ET,hf⟩:=DataW.trod_struct hs h;obtain ⟨c0,c1,c2,c3,c4,rfl⟩: ∃a b c d e,cs=[a,b,c,d,e]:=by
  match cs,hl.trans hC with
  | [a,b,c,d,e],_=>exact ⟨a,b,c,d,e,rfl⟩
 obtain ⟨y0,y1,y2,y3,y4,rfl⟩: ∃y0 y1 y2 y3 y4,xs=[y0,y1,y2,y3,y4]:=by
  match xs,ET with
  | [a,b,c,d,e],_=>exact ⟨a,b,c,d,e,rfl⟩
 have g0:=hf 0 f0 rfl;have g1:=hf 1 f1 rfl;have g2:=hf 2 f2 rfl;have g3:=hf 3 f3 rfl;have g4:=hf 4 f4 rfl;rw [o0,k0] at g0;rw [o1,k1] at g1;rw [o2,k2] at g2;rw [o3,k3] at g3;rw [o4,k4] at g4;simp only [List.drop_zero,List.drop_succ_cons,List.take_succ_cons,List.take_zero] at g0 g1 g2 g3 g4;obtain ⟨r0,vS,-,wf0⟩:=DataW.trod_int u0 (x:=y0) (by simpa using g0);obtain ⟨r1,hr1,-,wf1⟩:=DataW.trod_int u1 (x:=y1) (by simpa using g1);obtain ⟨r2,hr2,-,s2⟩:=DataW.trod_string u2 (x:=y2) (by simpa using g2)
 obtain ⟨r3,hr3,-,s3⟩:=DataW.trod_string u3 (x:=y3) (by simpa using g3);obtain ⟨r4,hr4,-,s4⟩:=DataW.trod_string u4 (x:=y4) (by simpa using g4);simp only [List.cons.injEq,and_true] at vS hr1 hr2 hr3 hr4;subst vS hr1 hr2 hr3 hr4;have b0:=Go.bounds_i64 wf0;have b1:=Go.bounds_i64 wf1;exact ⟨⟨r0,r1,r2,r3,r4⟩,rfl,s2,s3,s4,by show -9223372036854775808≤r0; omega,by show r0≤9223372036854775807; omega,by show -9223372036854775808≤r1; omega,by show r1≤9223372036854775807; omega⟩
theorem tact_of {H:Type} {enc:TypeId×Value→H} {w:World} {base:Nat} {v:Value} {d:DataW H} {ps:List MemPlace} (dS:Value.okWide Tryz.prog w .any base 28 v) (h:DataW.Trod enc Tryz.prog w 0 (fun _=>true) true 28 v d ps):
  ∃y:Tac,v=y.v∧y.ok:=by
 obtain ⟨cs,rfl,lK⟩:=okWide_struct Tryz.underlying28 dS;obtain ⟨fuel,hf⟩:=h;obtain ⟨y,h1,h2⟩:=IA Tryz.underlying28 (by kernel_rfl) rfl rfl rfl rfl rfl (by kernel_rfl) (by kernel_rfl) (by kernel_rfl) (by kernel_rfl) (by kernel_rfl) Tryz.underlying3 Tryz.underlying3 Tryz.underlying9 Tryz.underlying9 Tryz.underlying9 (cs:=cs.toList) (by simpa [Value.cells] using hf);exact ⟨y,by unfold Tac.v; congr 1; exact Array.toList_inj.1 h1,h2⟩
theorem y7 (y:Tac) (w:World):Calls Tryz.prog 5 #[y.v] w fun e w'=>e= .returned (.bool true)∧Below w.heap.size w w':=by
 obtain ⟨kd,n,key,aW,val⟩:=y;have K1:=xh (fun (W:World)=>Mp key W);have K2:=xh (fun (W:World)=>Hy key aW n W);have K3:=xh (fun (W:World)=>Hz key aW W);have K4:=xh (fun (W:World)=>Eg key aW W);have K5:=xh (fun (W:World)=>Eh W);have K6:=xh (fun (W:World)=>Ia W);have K7:=xh (fun (W:World)=>BO W);have K8:=xh (fun (W:World)=>Mq key val W);have K9:=xh (fun (W:World)=>Mr key W)
 have O0:=xh (ae (Below.refl w.heap.size w) (.cells #[.int .i64 kd,.int .i64 n,.string key,.string aW,.string val] 28));have B0:=xh (ax.new w 28 #[.int .i64 kd,.int .i64 n,.string key,.string aW,.string val]);obtain ⟨z,hz⟩: ∃z,w.heap.size=z:=⟨_,rfl⟩;unfold Tac.v;dsimp only;rw [hz] at B0;have C0:=B0;have x01:=C0.out.ab (i:=1) rfl;have x02:=C0.out.ab (i:=2) rfl;have x03:=C0.out.ab (i:=3) rfl;have x04:=C0.out.ab (i:=4) rfl
 go_enter Tryz.func5,Tryz.ntmps5;go_wp2_with fail;refine (K1.out _).mono ?_;rintro e w1 ⟨rfl,aM⟩;have C1:=xh (C0.out.below aM C0.out.lt);have O1:=xh (ao O0.out aM);clear aM x01 x02 x03 x04;have x11:=C1.out.ab (i:=1) rfl;have x12:=C1.out.ab (i:=2) rfl;have x13:=C1.out.ab (i:=3) rfl;have x14:=C1.out.ab (i:=4) rfl;go_wp2_with fail;refine (K2.out _).mono ?_;rintro e w2 ⟨rfl,bT⟩;have C2:=xh (C1.out.below bT C1.out.lt)
 have O2:=xh (ao O1.out bT);clear bT x11 x12 x13 x14;have x21:=C2.out.ab (i:=1) rfl;have x22:=C2.out.ab (i:=2) rfl;have x23:=C2.out.ab (i:=3) rfl;have x24:=C2.out.ab (i:=4) rfl;go_wp2_with fail;refine (K3.out _).mono ?_;rintro e w3 ⟨rfl,eG⟩;have C3:=xh (C2.out.below eG C2.out.lt);have O3:=xh (ao O2.out eG);clear eG x21 x22 x23 x24;have fj:=ae (Below.refl w3.heap.size w3) (.cells #[.string ⟨#[]⟩,.string ⟨#[]⟩] 42)
 have P3:=ax.new w3 42 #[.string ⟨#[]⟩,.string ⟨#[]⟩];have C3:=xh (C3.out.below fj C3.out.lt);have O3:=xh (ao O3.out fj);obtain ⟨zp,hzp⟩: ∃zp,w3.heap.size=zp:=⟨_,rfl⟩;rw [hzp] at P3;have y0:=P3.ab (i:=0) rfl;have y1:=P3.ab (i:=1) rfl;have f0:=P3.frozen 0 (by simp);have f1:=P3.frozen 1 (by simp);have P3:=xh P3;clear fj;have x31:=C3.out.ab (i:=1) rfl;have x32:=C3.out.ab (i:=2) rfl;have x33:=C3.out.ab (i:=3) rfl
 have x34:=C3.out.ab (i:=4) rfl;unfold prV;go_wp2_with fail;refine (K4.out _).mono ?_;rintro e w4 ⟨rfl,fM⟩;have C4:=xh (C3.out.below fM C3.out.lt);have P4:=xh (P3.out.below fM P3.out.lt);have O4:=xh (ao O3.out fM);clear fM x31 x32 x33 x34 y0 y1 f0 f1;have x41:=C4.out.ab (i:=1) rfl;have x42:=C4.out.ab (i:=2) rfl;have x43:=C4.out.ab (i:=3) rfl;have x44:=C4.out.ab (i:=4) rfl;have y40:=P4.out.ab (i:=0) rfl
 have y41:=P4.out.ab (i:=1) rfl;go_wp2_with fail;refine (K5.out _).mono ?_;rintro e w5 ⟨rfl,rfl⟩;go_wp2_with fail;refine (K6.out _).mono ?_;rintro e w6 ⟨rfl,rfl⟩;go_wp2_with fail;refine (K7.out _).mono ?_;rintro e w5 ⟨rfl,ko⟩;have C5:=xh (C4.out.below ko C4.out.lt);have P5:=xh (P4.out.below ko P4.out.lt);have O5:=xh (ao O4.out ko);clear ko x41 x42 x43 x44 y40 y41;have x51:=C5.out.ab (i:=1) rfl;have x52:=C5.out.ab (i:=2) rfl
 have x53:=C5.out.ab (i:=3) rfl;have x54:=C5.out.ab (i:=4) rfl;have y50:=P5.out.ab (i:=0) rfl;have y51:=P5.out.ab (i:=1) rfl;go_wp2_with fail;refine (K8.out _).mono ?_;rintro e w6 ⟨rfl,vI⟩;have C6:=xh (C5.out.below vI C5.out.lt);have P6:=xh (P5.out.below vI P5.out.lt);have O6:=xh (ao O5.out vI);clear vI x51 x52 x53 x54 y50 y51;have x61:=C6.out.ab (i:=1) rfl;have x62:=C6.out.ab (i:=2) rfl;have x63:=C6.out.ab (i:=3) rfl
 have x64:=C6.out.ab (i:=4) rfl;have y60:=P6.out.ab (i:=0) rfl;have y61:=P6.out.ab (i:=1) rfl;go_wp2_with fail;refine (K9.out _).mono ?_;rintro e w7 ⟨rfl,fY⟩;have C7:=xh (C6.out.below fY C6.out.lt);have P7:=xh (P6.out.below fY P6.out.lt);have O7:=xh (ao O6.out fY);clear fY x61 x62 x63 x64 y60 y61;have x71:=C7.out.ab (i:=1) rfl;have x72:=C7.out.ab (i:=2) rfl;have x73:=C7.out.ab (i:=3) rfl;have x74:=C7.out.ab (i:=4) rfl
 have y70:=P7.out.ab (i:=0) rfl;have y71:=P7.out.ab (i:=1) rfl;go_wp2_with fail;go_ret;exact ⟨by first | rfl | simp,O7.out⟩
end Go.Proofs.YtmonobkginiajaaGreat.Sh
