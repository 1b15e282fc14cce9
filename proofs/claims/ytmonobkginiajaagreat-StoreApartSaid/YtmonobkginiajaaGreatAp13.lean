/- packed. -/
import Derived.Test.YtmonobkginiajaaGreatAp12
set_option linter.all false
set_option maxRecDepth 100000
set_option maxHeartbeats 8000000
namespace Go.Proofs.YtmonobkginiajaaGreat
open Go.Proofs.Tryz
namespace Sh
open Go.RowKit Pk Dk Pg
attribute [local go_sem ↓] Go.wp_at_zero Go.wp_at_succ
variable{w:World}{n sb tb Kz:Nat}{I:Ix}{F:List Nat}{q:QS}{fr:Bool}
def Hh(s l:Nat):List UInt8:=[UInt8.ofNat (65+s),UInt8.ofNat l]
def aD(s l:Nat):ByteArray:=⟨(Hh s l).toArray⟩
theorem nP(s l:Nat)(hs:s<=7)(hl:l<=6)(w:World):
  Calls prog 97 #[.agg #[.int .i64 (s:Nat),.int .i64 (l:Nat)]] w λe w'=>e=.returned (.string (aD s l))/\Below w.heap.size w w':=by
 have ry:=ae (Below.refl w.heap.size w) (.cells #[.int .i64 (s:Nat),.int .i64 (l:Nat)] 177);have P0:=aE.new w 177 #[.int .i64 (s:Nat),.int .i64 (l:Nat)];have x0:=P0.ab (i:=0) rfl;have x1:=P0.ab (i:=1) rfl;obtain⟨w1,jJ⟩:∃w1,w.alloc (.cells #[.int .i64 (s:Nat),.int .i64 (l:Nat)] 177)=w1:=⟨_,rfl⟩;rw[jJ]at ry x0 x1;have O0:=xh (au ry (ae (Below.refl w1.heap.size w1) (.cells #[.int .u8 (65+(s:Int)),.int .u8 (l:Nat)] 5)))
 have B0:=aE.new w1 5 #[.int .u8 (65+(s:Int)),.int .u8 (l:Nat)];have e1:IntKind.u8.wrap (65+(s:Int))=65+(s:Int):=IntWalk.u8_in _ (by omega);have e2:IntKind.u8.wrap (l:Int)=(l:Int):=IntWalk.u8_in _ (by omega);have e3:IntKind.i64.wrap (65+(s:Int))=65+(s:Int):=IntWalk.i64_in _ (by omega);have hb:dh (Hh s l)=[.int .u8 (65+(s:Int)),.int .u8 (l:Nat)]:=by
  unfold Hh dh bv;simp only[eh,mG,gZ];rw[show(((65+s) % 2 ^ 8:Nat):Int)=65+(s:Int) by omega,show((l % 2 ^ 8:Nat):Int)=(l:Int) by omega]
 have HR:=xh (bZ (P:=prog) _ 150 9 5 underlying150 underlying5 underlying9 ⟨w1.heap.size,0,none⟩ 2 2 (Hh s l) rfl (bn (l:=dh (Hh s l)) (by rw[hb];exact B0) 0 _ (by simp)));have xN:w1.heap.size=w.heap.size+1:=by rw[<-jJ,eJ]
 rw[xN]at HR;clear B0 hb ry P0;subst jJ;go_enter func97,ntmps97;go_wp2_with fail;rw[HR.o];go_wp2_with fail;go_ret;exact aC O0.o
def Bb(s l:Int)(rs:List ByteArray):Int:=if s<0\/7<s\/l<0\/6<=l then 2 else if rs.all (λr=>decide (r.size<=30))=true then 0 else 2
def nQ(l:List ByteArray):List Value:=l.map Value.string
theorem rj(sb:Nat)(s l:Int)(hs:0<=s/\s<=7)(hl:0<=l/\l<6){A:Option Addr}{c:Nat}{rs:List ByteArray}(S:aK w 9 1 (.slice A n c) n (nQ rs))(hn:n<=100)(hr:∀r∈rs,r.size<=30):
  Calls prog 95 #[.pointer (some ⟨sb,0,none⟩),.agg #[.int .i64 s,.int .i64 l],.slice A n c] w λe w'=>e=.returned (.int .i64 0)/\Below w.heap.size w w':=by
 have ry:=ae (Below.refl w.heap.size w) (.cells #[.int .i64 s,.int .i64 l] 177);have P0:=aE.new w 177 #[.int .i64 s,.int .i64 l];have x0:=P0.ab (i:=0) rfl;have x1:=P0.ab (i:=1) rfl;have S1:=S.below ry;have oU:rs.length=n:=by have:=S.1;simp[nQ]at this;omega
 have HL:=xh oU;have H0:=xh (And.intro S1 ry);obtain⟨xN,hs2⟩:=hs;obtain⟨hl1,Nh⟩:=hl;have n1:¬s<0:=by omega
 have n2:¬7<s:=by omega
 have n3:¬l<0:=by omega
 have n4:¬6<=l:=by omega
 clear S S1 ry P0 oU;go_enter func95,ntmps95;go_wp2_with fail
 go_loopw [33] (λiv wr=> ∃i:Nat,i<=n/\iv=.int .i64 (i:Nat)/\Below (w.alloc (.cells #[.int .i64 s,.int .i64 l] 177)).heap.size (w.alloc (.cells #[.int .i64 s,.int .i64 l] 177)) wr) (λiv _=>n-(intOf iv).toNat)
 case atStart=>exact⟨0,bm _,rfl,Below.refl _ _⟩
 case round=>
  obtain⟨i,hi,rfl,O⟩:=hrel
  by_cases h:i<n
  .have hI:(i:Int)<(n:Int):=by omega
   have S2:=H0.o.1.below O;obtain⟨g,cap,rest,hv,B,hc,jX⟩:=S2.form (by omega) (by omega);injection hv with e1 e2 e3
   subst e1 e3;obtain⟨r,hx⟩:∃r,rs[i]?=some r:=⟨_,aT (by rw[HL.o];exact h)⟩;have gQ:=hr r (aA hx);have hrI:¬(30:Int)<(r.size:Int):=by omega
   have xc:wr.cell? ⟨g,i,none⟩=some (.string r):=B.ab (by
    rw[cM,bD (by simp[nQ];rw[HL.o];exact h)];simp[nQ,hx])
   have HO:=xh O;clear S2 B jX O hx;go_wp2_with fail;go_roundw
   case rel=>exact⟨i+1,by omega,by go_num,HO.o⟩
   case measure=>simp[intOf];omega
  .have hI:¬(i:Int)<(n:Int):=by omega
   have HO:=xh (au H0.o.2 O);clear O;go_wp2_with fail;go_ret;exact aC HO.o
theorem jE(s l:Nat)(r:ByteArray):(aD s l++r).size=2+r.size:=by rw[xT];rfl
theorem Ad(B:aE w sb 182 #[tp tb,pp I.pb,.bool fr])(T:TQ w tb I F q n Kz)(hK:Kz<=999999000000)(s l:Nat)(hs:s<=7)(hl:l<6)(r v:ByteArray)(hr:r.size<=30)(hv:v.size<=100000):
  Calls prog 46 #[.pointer (some ⟨sb,0,none⟩),.int .i64 (s:Nat),.int .i64 (l:Nat),.string r,.string v] w λe w'=>e=.returned (.int .i64 (q.fQ (aD s l++r) v).2)/\PT w w' I F (q.fQ (aD s l++r) v).1 n (Kz+100):=by
 obtain⟨z,hz⟩:∃z,w.heap.size=z:=⟨_,rfl⟩;have aJ:=ae (Below.refl w.heap.size w) (.cells #[.int .i64 (s:Nat),.int .i64 (l:Nat)] 177);have P0:=aE.new w 177 #[.int .i64 (s:Nat),.int .i64 (l:Nat)];obtain⟨w1,jJ⟩:∃w1,w.alloc (.cells #[.int .i64 (s:Nat),.int .i64 (l:Nat)] 177)=w1:=⟨_,rfl⟩;rw[jJ]at aJ P0;rw[hz]at P0;have xN:w1.heap.size=z+1:=by rw[<-jJ,eJ,hz]
 have SR:aK (w1.alloc (.cells #[.string r] 9)) 9 1 (.slice (some ⟨w1.heap.size,0,none⟩) 1 1) 1 (nQ [r]):=⟨rfl,.inr ⟨w1.heap.size,1,[],rfl,aE.new _ _ _,rfl,by decide⟩⟩;have bS:=au aJ (ae (Below.refl w1.heap.size w1) (.cells #[.string r] 9));have P2:=P0.alloc (.cells #[.string r] 9);have KM:=xh (rj (w:=w1.alloc (.cells #[.string r] 9)) sb (s:Nat) (l:Nat) ⟨by omega,by omega⟩ ⟨by omega,by omega⟩ SR (by omega) (by simpa using hr));rw[xN]at KM
 have KH:=xh (λ(W:World)=>nP s l hs (by omega) W);have KT:=xh (λ(W:World) (hW:TQ W tb I F q n Kz)=>Tn hW (by omega) (aD s l++r) v (by rw[jE];omega) hv);have x0:=P0.ab (i:=0) rfl;have x1:=P0.ab (i:=1) rfl;have NB:=xh (T.2.fR B);have hcat:¬9223372036854775807<(aD s l).size+r.size:=by show ¬9223372036854775807<2+r.size;omega
 have NZ:=xh (show z∉F from λhm=>by have:=T.2.lt _ hm;omega);have H0:=xh (And.intro B (And.intro T (And.intro P2 bS)));clear B T P0 P2 SR aJ bS;subst jJ;unfold tp at KT;go_enter func46,ntmps46;go_wp2_with fail;refine KM.o.mono ?_;rintro e w3 ⟨rfl,cZ⟩;have T3:=xh ((H0.o.2.1.below H0.o.2.2.2).below cZ);have B3:=xh ((H0.o.1.below H0.o.2.2.2 H0.o.1.lt).below cZ (H0.o.1.below H0.o.2.2.2 H0.o.1.lt).lt)
 have P3:=xh (H0.o.2.2.1.below cZ H0.o.2.2.1.lt);have O3:=xh (au H0.o.2.2.2 cZ);have S0:=xh (show w3.drew.cell? ⟨sb,0,none⟩=some (.pointer (some ⟨tb,0,none⟩))/\w3.drew.cell? ⟨z,0,none⟩=some (.int .i64 (s:Nat))/\w3.drew.cell? ⟨z,1,none⟩=some (.int .i64 (l:Nat))from⟨B3.o.ab (i:=0) rfl,P3.o.ab (i:=0) rfl,P3.o.ab (i:=1) rfl⟩);clear cZ x0 x1;go_wp2_with fail
 refine wp_region_held_drew (S:=λW=>W.cell? ⟨sb,0,none⟩=some (.pointer (some ⟨tb,0,none⟩))/\W.cell? ⟨z,0,none⟩=some (.int .i64 (s:Nat))/\W.cell? ⟨z,1,none⟩=some (.int .i64 (l:Nat))) (by kernel_rfl) (S0.o) (λaq=>?_);refine cV [(0,24),(1,25),(2,26),(3,27),(4,28),(6,30),(8,32)] ?_
 iterate 7 refine bj ?_
 refine dn 5 29 λK hK=>?_;go_simp
 go_at_call 97
 refine(KH.o _).mono ?_;rintro e w4 ⟨rfl,eM⟩;have T4:=xh (T3.o.drew.below eM);have B4:=xh (B3.o.drew.below eM B3.o.drew.lt);have P4:=xh (P3.o.drew.below eM P3.o.drew.lt);have O4:=xh (au (cD O3.o 1) eM)
 have S4:=xh (show w4.cell? ⟨sb,0,none⟩=some (.pointer (some ⟨tb,0,none⟩))/\w4.cell? ⟨z,0,none⟩=some (.int .i64 (s:Nat))/\w4.cell? ⟨z,1,none⟩=some (.int .i64 (l:Nat))from⟨B4.o.ab (i:=0) rfl,P4.o.ab (i:=0) rfl,P4.o.ab (i:=1) rfl⟩);clear eM;go_simp;refine aW hK (S4.o) (λaq=>?_);refine cV [(7,31)] ?_
 iterate 1 refine bj ?_
 refine dn 9 33 λK hK=>?_;go_simp
 go_at_call 25
 refine(KT.o w4 T4.o).mono ?_;rintro e w5 ⟨rfl,F5,p5,o5,f5⟩;have S5:=xh (show w5.cell? ⟨sb,0,none⟩=some (.pointer (some ⟨tb,0,none⟩))/\w5.cell? ⟨z,0,none⟩=some (.int .i64 (s:Nat))/\w5.cell? ⟨z,1,none⟩=some (.int .i64 (l:Nat))from⟨(B4.o.only o5 NB.o).ab (i:=0) rfl,(P4.o.only o5 NZ.o).ab (i:=0) rfl,(P4.o.only o5 NZ.o).ab (i:=1) rfl⟩)
 have H5:=xh (show PT w w5 I F (q.fQ (aD s l++r) v).1 n (Kz+100)from⟨F5,p5,(ag.ai O4.o).trans o5,λg hg=>(f5 g hg).imp id (λh=>ay O4.o.size h)⟩);clear o5;go_simp;refine aW hK (S5.o) (λaq=>?_);refine cV [(10,10)] ?_
 iterate 1 refine bj ?_
 refine wpAnyH_done (by kernel_rfl) ?_ _;go_wp2_with fail;go_ret;exact aC H5.o
theorem qf(B:aE w sb 182 #[tp tb,pp I.pb,.bool fr])(T:TQ w tb I F q n Kz)(hK:Kz<=999999000000)(s l:Nat)(hs:s<=7)(hl:l<6)(r:ByteArray)(hr:r.size<=30):
  Calls prog 42 #[.pointer (some ⟨sb,0,none⟩),.int .i64 (s:Nat),.int .i64 (l:Nat),.string r] w λe w'=>e=.returned (.tuple #[.string (q.eQ (aD s l++r)).2.1,.int .i64 (q.eQ (aD s l++r)).2.2])/\PQ w' I F (q.eQ (aD s l++r)).1 n (Kz+21)/\ag F w w':=by
 obtain⟨z,hz⟩:∃z,w.heap.size=z:=⟨_,rfl⟩;have aJ:=ae (Below.refl w.heap.size w) (.cells #[.int .i64 (s:Nat),.int .i64 (l:Nat)] 177);have P0:=aE.new w 177 #[.int .i64 (s:Nat),.int .i64 (l:Nat)];obtain⟨w1,jJ⟩:∃w1,w.alloc (.cells #[.int .i64 (s:Nat),.int .i64 (l:Nat)] 177)=w1:=⟨_,rfl⟩;rw[jJ]at aJ P0;rw[hz]at P0;have xN:w1.heap.size=z+1:=by rw[<-jJ,eJ,hz]
 have SR:aK (w1.alloc (.cells #[.string r] 9)) 9 1 (.slice (some ⟨w1.heap.size,0,none⟩) 1 1) 1 (nQ [r]):=⟨rfl,.inr ⟨w1.heap.size,1,[],rfl,aE.new _ _ _,rfl,by decide⟩⟩;have bS:=au aJ (ae (Below.refl w1.heap.size w1) (.cells #[.string r] 9));have P2:=P0.alloc (.cells #[.string r] 9);have KM:=xh (rj (w:=w1.alloc (.cells #[.string r] 9)) sb (s:Nat) (l:Nat) ⟨by omega,by omega⟩ ⟨by omega,by omega⟩ SR (by omega) (by simpa using hr));rw[xN]at KM
 have KH:=xh (λ(W:World)=>nP s l hs (by omega) W);have KT:=xh (λ(W:World) (hW:TQ W tb I F q n Kz)=>Oq hW (by omega) (aD s l++r));have x0:=P0.ab (i:=0) rfl;have x1:=P0.ab (i:=1) rfl;have NB:=xh (T.2.fR B);have hcat:¬9223372036854775807<(aD s l).size+r.size:=by show ¬9223372036854775807<2+r.size;omega
 have NZ:=xh (show z∉F from λhm=>by have:=T.2.lt _ hm;omega);have H0:=xh (And.intro B (And.intro T (And.intro P2 bS)));clear B T P0 P2 SR aJ bS;subst jJ;unfold tp at KT;go_enter func42,ntmps42;go_wp2_with fail;refine KM.o.mono ?_;rintro e w3 ⟨rfl,cZ⟩;have T3:=xh ((H0.o.2.1.below H0.o.2.2.2).below cZ);have B3:=xh ((H0.o.1.below H0.o.2.2.2 H0.o.1.lt).below cZ (H0.o.1.below H0.o.2.2.2 H0.o.1.lt).lt)
 have P3:=xh (H0.o.2.2.1.below cZ H0.o.2.2.1.lt);have O3:=xh (au H0.o.2.2.2 cZ);have S0:=xh (show w3.drew.cell? ⟨sb,0,none⟩=some (.pointer (some ⟨tb,0,none⟩))/\w3.drew.cell? ⟨z,0,none⟩=some (.int .i64 (s:Nat))/\w3.drew.cell? ⟨z,1,none⟩=some (.int .i64 (l:Nat))from⟨B3.o.ab (i:=0) rfl,P3.o.ab (i:=0) rfl,P3.o.ab (i:=1) rfl⟩);clear cZ x0 x1;go_wp2_with fail
 refine wp_region_held_drew (S:=λW=>W.cell? ⟨sb,0,none⟩=some (.pointer (some ⟨tb,0,none⟩))/\W.cell? ⟨z,0,none⟩=some (.int .i64 (s:Nat))/\W.cell? ⟨z,1,none⟩=some (.int .i64 (l:Nat))) (by kernel_rfl) (S0.o) (λaq=>?_);refine cV [(0,23),(1,24),(2,25),(3,26),(4,27),(6,29)] ?_
 iterate 6 refine bj ?_
 refine dn 5 28 λK hK=>?_;go_simp
 go_at_call 97
 refine(KH.o _).mono ?_;rintro e w4 ⟨rfl,eM⟩;have T4:=xh (T3.o.drew.below eM);have B4:=xh (B3.o.drew.below eM B3.o.drew.lt);have P4:=xh (P3.o.drew.below eM P3.o.drew.lt);have O4:=xh (au (cD O3.o 1) eM)
 have S4:=xh (show w4.cell? ⟨sb,0,none⟩=some (.pointer (some ⟨tb,0,none⟩))/\w4.cell? ⟨z,0,none⟩=some (.int .i64 (s:Nat))/\w4.cell? ⟨z,1,none⟩=some (.int .i64 (l:Nat))from⟨B4.o.ab (i:=0) rfl,P4.o.ab (i:=0) rfl,P4.o.ab (i:=1) rfl⟩);clear eM;go_simp;refine aW hK (S4.o) (λaq=>?_);refine cV [(7,30)] ?_
 iterate 1 refine bj ?_
 refine dn 8 31 λK hK=>?_;go_simp
 go_at_call 20
 refine(KT.o w4 T4.o).mono ?_;rintro e w5 ⟨rfl,p5,o5⟩;have S5:=xh (show w5.cell? ⟨sb,0,none⟩=some (.pointer (some ⟨tb,0,none⟩))/\w5.cell? ⟨z,0,none⟩=some (.int .i64 (s:Nat))/\w5.cell? ⟨z,1,none⟩=some (.int .i64 (l:Nat))from⟨(B4.o.only o5 NB.o).ab (i:=0) rfl,(P4.o.only o5 NZ.o).ab (i:=0) rfl,(P4.o.only o5 NZ.o).ab (i:=1) rfl⟩);have H5:=xh (show PQ w5 I F (q.eQ (aD s l++r)).1 n (Kz+21)/\ag F w w5 from⟨p5,(ag.ai O4.o).trans o5⟩)
 clear o5;go_simp;refine aW hK (S5.o) (λaq=>?_);refine cV [(9,32),(10,33),(11,8),(12,9)] ?_
 iterate 4 refine bj ?_
 refine wpAnyH_done (by kernel_rfl) ?_ _;go_wp2_with fail;go_ret2;exact aC H5.o
variable{w:World}{sb tb n K:Nat}{I:Ix}{F:List Nat}{fr:Bool}
def xi(g:ByteArray×Int):Int×Int:=if g.2=9 then(0,0)else if g.2≠0 then(0,g.2)else((lJ g.1.data.toList:Int)-9223372036854775808,0)
def eF(name:ByteArray):ByteArray:=aD 7 0++name
def QS.cF(q:QS)(name:ByteArray):QS×Int×Int:=((q.eQ (eF name)).1,xi (q.eQ (eF name)).2)
def ll(n least:Int):Prop:=least<=n/\n<=1099511627776
instance(n least:Int):Decidable (ll n least):=by unfold ll;exact inferInstance
def QS.rC(q:QS)(name:ByteArray)(n:Int):QS×Int×Int:=
 if(q.cF name).2.2≠0 then((q.cF name).1,0,(q.cF name).2.2)
 else if ¬(ll n (-1099511627776)/\ll (q.cF name).2.1 0/\ll ((q.cF name).2.1+n) 0)then((q.cF name).1,0,3)
 else if((q.cF name).1.fQ (eF name) ⟨(dj ((q.cF name).2.1+n)).toArray⟩).2≠0 then(((q.cF name).1.fQ (eF name) ⟨(dj ((q.cF name).2.1+n)).toArray⟩).1,0,((q.cF name).1.fQ (eF name) ⟨(dj ((q.cF name).2.1+n)).toArray⟩).2)
 else(((q.cF name).1.fQ (eF name) ⟨(dj ((q.cF name).2.1+n)).toArray⟩).1,(q.cF name).2.1+n,0)
theorem lF{q:QS}(B:aE w sb 182 #[tp tb,pp I.pb,.bool fr])(T:TQ w tb I F q n K)(hK:K<=999999000000)(r:ByteArray)(hr:r.size<=30)(h8:(q.eQ (eF r)).2.2=0->(q.eQ (eF r)).2.1.size=8):
  Calls prog 38 #[.pointer (some ⟨sb,0,none⟩),.string r] w λe w'=>e=.returned (.tuple #[.int .i64 (q.cF r).2.1,.int .i64 (q.cF r).2.2])/\PQ w' I F (q.cF r).1 n (K+21)/\ag F w w':=by
 have KG:=qf B T hK 7 0 (by omega) (by omega) r hr;unfold QS.cF;rw[show aD 7 0++r=eF r from rfl]at KG;obtain⟨R,hR⟩:∃R,q.eQ (eF r)=R:=⟨_,rfl⟩;rw[hR]at KG h8 ⊢;obtain⟨q1,b,e1⟩:=R;dsimp only at KG h8 ⊢;have KG:=xh KG;clear hR B T
 by_cases h9:e1=9
 .subst h9;go_enter func38,ntmps38;go_wp2_with fail;refine KG.o.mono ?_;rintro e w1 ⟨rfl,H1⟩;have H1:=xh H1;go_wp2_with fail;go_ret2;exact⟨by first|rfl|simp[xi],H1.o⟩
 .by_cases h0:e1=0
  .subst h0;have hs:=h8 rfl;have KR:=xh (λ(W:World)=>qG b 0 W (by omega) (by omega));have hex:b.extract 0 (0+8)=b:=by
    apply iS;apply nh.1;rw[exl'];have hl:b.data.toList.length=8:=by simpa using hs
    simp[bY,hl]
   rw[hex]at KR;have hsI:((b.size:Nat):Int)=8:=by omega
   have hc:xi (b,0)=((lJ b.data.toList:Int)-9223372036854775808,0):=by unfold xi;rw[if_neg (by simp),if_neg (by simp)]
   rw[hc];dsimp only;generalize (lJ b.data.toList:Int)-9223372036854775808=cv at *;have mM:¬(8:Int)<((b.size:Nat):Int):=by omega
   clear h8 hex hc hsI h9;go_enter func38,ntmps38;go_wp2_with fail;refine KG.o.mono ?_;rintro e w1 ⟨rfl,H1⟩;have H1:=xh H1;go_wp2_with fail;refine(KR.o _).mono ?_;rintro e w2 ⟨rfl,hb⟩;have H2:=xh (show PQ w2 I F q1 n (K+21)/\ag F w w2 from⟨H1.o.1.below hb,H1.o.2.trans (.ai hb)⟩);clear hb;go_wp2_with fail;go_ret2;exact aC H2.o
  .have hc:xi (b,e1)=(0,e1):=by unfold xi;rw[if_neg h9,if_pos h0]
   rw[hc];dsimp only;have q9:(e1==9)=false:=by rw[beq_eq_false_iff_ne];exact h9
   have hq:(e1 != 0)=true:=by rw[bne_iff_ne];exact h0
   have ki:(e1==0)=false:=by rw[beq_eq_false_iff_ne];exact h0
   clear h8 hc;go_enter func38,ntmps38;go_wp2_with fail;refine KG.o.mono ?_;rintro e w1 ⟨rfl,H1⟩;have H1:=xh H1;go_wp2_with fail;go_ret2;exact aC H1.o
theorem Pp(n least:Int)(w:World):Calls prog 87 #[.int .i64 n,.int .i64 least] w λe w'=>e=.returned (.bool (decide (ll n least)))/\w=w':=by
 by_cases h1:least<=n
 .by_cases h2:n<=1099511627776
  .rw[decide_eq_true (p:=ll n least) ⟨h1,h2⟩];go_enter func87,ntmps87;go_wp2_with fail;go_ret;exact aC rfl
  .rw[decide_eq_false (p:=ll n least) (λh=>h2 h.2)];go_enter func87,ntmps87;go_wp2_with fail;go_ret;exact aC rfl
 .rw[decide_eq_false (p:=ll n least) (λh=>h1 h.1)];go_enter func87,ntmps87;go_wp2_with fail;go_ret;exact aC rfl
theorem PT.pre{w1 w2:World}{q:QS}(o:ag F w w1)(h:PT w1 w2 I F q n K):PT w w2 I F q n K:=by
 obtain⟨F',a,o2,f⟩:=h;exact⟨F',a,o.trans o2,λg hg=>(f g hg).imp id (λh=>ay o.size h)⟩
theorem Ae{q:QS}(B:aE w sb 182 #[tp tb,pp I.pb,.bool fr])(T:TQ w tb I F q n K)(hK:K<=999998000000)(r:ByteArray)(hr:r.size<=30)(h8:(q.eQ (eF r)).2.2=0->(q.eQ (eF r)).2.1.size=8)(m:Int):
  Calls prog 37 #[.pointer (some ⟨sb,0,none⟩),.string r,.int .i64 m] w λe w'=>e=.returned (.tuple #[.int .i64 (q.rC r m).2.1,.int .i64 (q.rC r m).2.2])/\PT w w' I F (q.rC r m).1 n (K+200):=by
 have KC:=lF B T (by omega) r hr h8;have KM:=xh Pp;have KI:=xh I_any;have KS:=xh (λ(W:World) (qj:QS) (kj:Nat) (B':aE W sb 182 #[tp tb,pp I.pb,.bool fr]) (hW:TQ W tb I F qj n kj) (hk:kj<=999999000000) (v:ByteArray) (hv:v.size<=100000)=>Ad B' hW hk 7 0 (by omega) (by omega) r v hr hv);have HB:=xh B;have HT:=xh T;have NB:=xh (T.2.fR B);obtain⟨RR,bC⟩:∃RR,q.rC r m=RR:=⟨_,rfl⟩;rw[bC];unfold QS.rC at bC
 obtain⟨R,hR⟩:∃R,q.cF r=R:=⟨_,rfl⟩;rw[hR]at KC bC;obtain⟨q1,cv,e1⟩:=R;dsimp only at KC bC;have KC:=xh KC;have eG:=xh bC;clear bC hR B T h8;unfold tp pp at *
 by_cases he:e1=0
 .subst he;have jX:=eG.o;rw[if_neg (by simp)]at jX
  by_cases hA:ll m (-1099511627776)
  .have dA:=decide_eq_true hA;have a1:=hA.1;have a2:=hA.2
   by_cases hB:ll cv 0
   .have dB:=decide_eq_true hB;have b1:=hB.1;have b2:=hB.2
    by_cases hC:ll (cv+m) 0
    .rw[if_neg (λh=>h ⟨hA,hB,hC⟩)]at jX;have dC:=decide_eq_true hC;have c1:=hC.1;have c2:=hC.2;have HV:=xh jX;have HP:=xh (show(⟨(dj (cv+m)).toArray⟩:ByteArray).size<=100000 by rw[show(⟨(dj (cv+m)).toArray⟩:ByteArray).size=(dj (cv+m)).length from rfl,Pg.eW];decide);clear jX hA hB hC;go_enter func37,ntmps37;go_wp2_with fail;refine KC.o.mono ?_;rintro e w1 ⟨rfl,H1⟩;have H1:=xh H1;go_wp2_with fail;refine(KM.o _ _ _).mono ?_
     rintro e _ ⟨rfl,rfl⟩;rw[dA];go_wp2_with fail;refine(KM.o _ _ _).mono ?_;rintro e _ ⟨rfl,rfl⟩;rw[dB];go_wp2_with fail;refine(KM.o _ _ _).mono ?_;rintro e _ ⟨rfl,rfl⟩;rw[dC];go_wp2_with fail;refine(KI.o _ c1 c2 _).mono ?_;rintro e w2 ⟨rfl,hb⟩
     have H2:=xh (And.intro ((HB.o.only H1.o.2 (by simpa using NB.o)).below hb (HB.o.only H1.o.2 (by simpa using NB.o)).lt) (And.intro (show TQ w2 tb I F q1 n (K+21)from⟨(HT.o.1.only H1.o.2 (by simpa using HT.o.ne)).below hb (HT.o.1.only H1.o.2 (by simpa using HT.o.ne)).lt,H1.o.1.below hb⟩) (show ag F w w2 from H1.o.2.trans (.ai hb))));clear hb;go_wp2_with fail;refine(KS.o _ q1 (K+21) H2.o.1 H2.o.2.1 (by omega) _ HP.o).mono ?_
     rintro e w3 ⟨rfl,H3⟩;have H3:=xh (PT.pre H2.o.2.2 H3);have HV:Hid ((if(q1.fQ (eF r) ⟨(dj (cv+m)).toArray⟩).2≠0 then((q1.fQ (eF r) ⟨(dj (cv+m)).toArray⟩).1,(0:Int),(q1.fQ (eF r) ⟨(dj (cv+m)).toArray⟩).2)else((q1.fQ (eF r) ⟨(dj (cv+m)).toArray⟩).1,cv+m,(0:Int)))=RR):=HV;rw[show aD 7 0++r=eF r from rfl]at H3 ⊢;obtain⟨R2,hR2⟩:∃R2,q1.fQ (eF r) ⟨(dj (cv+m)).toArray⟩=R2:=⟨_,rfl⟩;rw[hR2]at H3 HV ⊢;obtain⟨q2,e2⟩:=R2;clear hR2 HP
     have hv:=HV.o;dsimp only at hv H3;clear HV
     by_cases h2:e2=0
     .subst h2;rw[if_neg (by simp)]at hv;have HV:=xh hv;clear hv;go_wp2_with fail;go_ret2;have h9:=HV.o;subst h9;exact aC (H3.o.le (by omega))
     .have hq:(e2 != 0)=true:=by rw[bne_iff_ne];exact h2
      have ki:(e2==0)=false:=by rw[beq_eq_false_iff_ne];exact h2
      rw[if_pos h2]at hv;have HV:=xh hv;clear hv;go_wp2_with fail;go_ret2;have h9:=HV.o;subst h9;exact aC (H3.o.le (by omega))
    .rw[if_pos (λh=>hC h.2.2)]at jX;have dC:=decide_eq_false hC;have HV:=xh jX;clear jX hA hB hC;go_enter func37,ntmps37;go_wp2_with fail;refine KC.o.mono ?_;rintro e w1 ⟨rfl,H1⟩;have H1:=xh H1;go_wp2_with fail;refine(KM.o _ _ _).mono ?_;rintro e _ ⟨rfl,rfl⟩;rw[dA];go_wp2_with fail;refine(KM.o _ _ _).mono ?_;rintro e _ ⟨rfl,rfl⟩;rw[dB];go_wp2_with fail;refine(KM.o _ _ _).mono ?_;rintro e _ ⟨rfl,rfl⟩;rw[dC];go_wp2_with fail;go_ret2;have h9:=HV.o
     subst h9;exact aC (.self (H1.o.1.le (by omega)) H1.o.2)
   .rw[if_pos (λh=>hB h.2.1)]at jX;have dB:=decide_eq_false hB;have HV:=xh jX;clear jX hA hB;go_enter func37,ntmps37;go_wp2_with fail;refine KC.o.mono ?_;rintro e w1 ⟨rfl,H1⟩;have H1:=xh H1;go_wp2_with fail;refine(KM.o _ _ _).mono ?_;rintro e _ ⟨rfl,rfl⟩;rw[dA];go_wp2_with fail;refine(KM.o _ _ _).mono ?_;rintro e _ ⟨rfl,rfl⟩;rw[dB];go_wp2_with fail;go_ret2;have h9:=HV.o;subst h9;exact aC (.self (H1.o.1.le (by omega)) H1.o.2)
  .rw[if_pos (λh=>hA h.1)]at jX;have dA:=decide_eq_false hA;have HV:=xh jX;clear jX hA;go_enter func37,ntmps37;go_wp2_with fail;refine KC.o.mono ?_;rintro e w1 ⟨rfl,H1⟩;have H1:=xh H1;go_wp2_with fail;refine(KM.o _ _ _).mono ?_;rintro e _ ⟨rfl,rfl⟩;rw[dA];go_wp2_with fail;go_ret2;have h9:=HV.o;subst h9;exact aC (.self (H1.o.1.le (by omega)) H1.o.2)
 .have hq:(e1 != 0)=true:=by rw[bne_iff_ne];exact he
  have ki:(e1==0)=false:=by rw[beq_eq_false_iff_ne];exact he
  have jX:=eG.o;rw[if_pos he]at jX;have HV:=xh jX;clear jX;go_enter func37,ntmps37;go_wp2_with fail;refine KC.o.mono ?_;rintro e w1 ⟨rfl,H1⟩;have H1:=xh H1;go_wp2_with fail;go_ret2;have h9:=HV.o;subst h9;exact aC (.self (H1.o.1.le (by omega)) H1.o.2)
end Sh
namespace Sh
open Go.RowKit Pk Dk Pg
open Nd (E an)
variable{v:Vw}{M:List MT}
def Af(l:List PR):Nat:=(l.map λx=>x.1.size+x.2.size+7).sum
theorem Ui(a b:List PR):Af (a++b)=Af a+Af b:=by simp[Af]
theorem Kx(T:Tree v 0 M)(hs:∀x∈iR M,x.2.size<=40):ef (λ_=>1) (aI v 0 0)=Af (iR M)-151:=by
 have h1:fZ v 0 0=(ik v 0).2.1:=by unfold fZ aI;simp
 have h2:an (ik v 0).2.1=Af (iR M):=by
  rw[<-h1,<-T.en];unfold an Af iR;rw[jf,jf]
  congr 1
  refine iK λm hm=>?_;have h40:m.2.1.size<=40:=hs (m.1.key,m.2.1) (cg.2 ⟨m,hm,rfl⟩);show m.1.key.size+m.1.val.size+7=m.1.key.size+m.2.1.size+7
  rcases T.va m hm with⟨_,h,_,_⟩|⟨_,_,_,_,_,h,_⟩
  .rw[h]
  .omega
 unfold aI;rw[dZ,GZ,h2];show 1*_+0=_;omega
section
variable{o:Vw}{mm:Nat}
theorem Hi{q:QS}{u:Nat}(R:Rd q v o u mm)(T:Tree v 0 M)(hs:∀x∈iR M,x.2.size<=40)(hb:Af (iR M)<=151)(key value:ByteArray)(hk:key.size<=32)(hv:value.size<=20)(hu:u+8<mm)(hu2:u+8<512):
  (q.fQ key value).2=0/\∃v' M',Rd (q.fQ key value).1 v' o (u+1) mm/\Tree v' 0 M'/\iR M'=nO (iR M) key value:=by
 have hp:=Kx T hs
 rcases vK R T (by omega) key value hk (by omega)with⟨a,v',u',b,c,d⟩|⟨a,v',H',M',new,A,C,B,h,c,b,S,hm⟩
 .omega
 .have p:=S.Cy (λ_=>1) 34 wt1;rw[if_pos (by omega)]at p;have hh:H'=0:=by
   rcases S.h with e|⟨e,f⟩
   .exact e
   .have:=f (λ_=>1) 34 wt1;rw[if_pos (by omega)]at this;omega
  subst hh;rw[if_pos rfl]at p;have hn:=S.n;have hc:=S.c.2 (by omega);exact⟨a,v',M',b.le (by omega),S.t,hm⟩
end
def sK(n:Int):ByteArray:=⟨(dj n).toArray⟩
theorem kv(n:Int):(sK n).size=8:=by show(dj n).toArray.size=8;rw[jM];exact eW n
theorem Uj{n:Int}(h:ll n 0):xi (sK n,0)=(n,0):=by
 unfold xi;rw[if_neg (by simp),if_neg (by simp)];have:lJ (sK n).data.toList=lJ (dj n):=rfl;dsimp only;rw[this,uD n h.1 (by have:=h.2;omega)]
structure Cn(B:List PR)(k:ByteArray)(o:Vw)(q:QS)(n:Int)(u mm:Nat)(v:Vw)(M:List MT):Prop where
 r:Rd q v o u mm
 t:Tree v 0 M
 p:(iR M=B/\n=0)\/iR M=B++[(k,sK n)]
 b:∀x∈B,eL x.1 k/\x.2.size<=40
 s:Af B<=100
 n:ll n 0
section
variable{B:List PR}{name:ByteArray}{o:Vw}{q:QS}{n:Int}{u mm:Nat}{v:Vw}{M:List MT}
theorem Mk{B C:List PR}{k:ByteArray}(hb:∀x∈B,eL x.1 k)(hc:∀x∈C,x.1=k):px (B++C) k=B/\ng (B++C) k=C/\jD (B++C) k=[]:=by
 unfold px ng jD;simp only[rP];refine⟨?_,?_,?_⟩
 .rw[filter_all (l:=B) (λx hx=>decide_eq_true (hb x hx)),filter_none (l:=C) (λx hx=>decide_eq_false (λh=>kt h (hc x hx)))];simp
 .rw[filter_none (l:=B) (λx hx=>decide_eq_false (kt (hb x hx))),filter_all (l:=C) (λx hx=>decide_eq_true (hc x hx))];simp
 .rw[filter_none (l:=B) (λx hx=>decide_eq_false (λh=>fI (ev h (hb x hx)))),filter_none (l:=C) (λx hx=>decide_eq_false (λh=>kt h (hc x hx).symm))];simp
theorem Cn.parts(h:Cn B (eF name) o q n u mm v M):∃C,iR M=B++C/\(∀x∈C,x.1=eF name)/\(∀x∈C,x.2.size<=40)/\Af C<=name.size+17/\((C=[]/\n=0)\/C=[(eF name,sK n)]):=by
 have hz:(eF name).size=2+name.size:=jE 7 0 name
 rcases h.p with⟨h1,h2⟩|h1
 .exact⟨[],by simpa using h1,by simp,by simp,by simp[Af],.inl ⟨rfl,h2⟩⟩
 .refine⟨_,h1,by simp,λx hx=>?_,?_,.inr rfl⟩
  .rw[aP.1 hx];show(sK n).size<=40;rw[kv];omega
  .show(eF name).size+(sK n).size+7+0<=_;rw[kv,hz];omega
theorem Cn.get(h:Cn B (eF name) o q n u mm v M)(hu:u<mm):(q.cF name).2=(n,0)/\Cn B (eF name) o (q.cF name).1 n u mm v M/\((q.eQ (eF name)).2.2=0->(q.eQ (eF name)).2.1.size=8):=by
 obtain⟨C,c1,c2,c3,c4,c5⟩:=h.parts;obtain⟨g1,g2⟩:=oO h.r h.t (by omega) (eF name);rw[c1,(Mk (λx hx=>(h.b x hx).1) c2).2.1]at g2;refine⟨?_,⟨g1,h.t,h.p,h.b,h.s,h.n⟩,?_⟩
 .rcases g2 with⟨_,g2⟩|g2
  .omega
  .show xi (q.eQ (eF name)).2=_;rw[g2]
   rcases c5 with⟨c5,c6⟩|c5
   .rw[c5,c6];rfl
   .rw[c5];exact Uj h.n
 .rcases g2 with⟨_,g2⟩|g2
  .omega
  .rw[g2]
   rcases c5 with⟨c5,c6⟩|c5
   .rw[c5];intro h0;exact absurd h0 (by show ¬(9:Int)=0;decide)
   .rw[c5];intro _;exact kv n
theorem Cn.add(h:Cn B (eF name) o q n u mm v M)(hr:name.size<=30)(hu:u+8<mm)(hu2:u+8<512)(m:Int):
  if ll m (-1099511627776)/\ll (n+m) 0 then(q.rC name m).2=(n+m,0)/\∃v' M',Cn B (eF name) o (q.rC name m).1 (n+m) (u+1) mm v' M' else(q.rC name m).2=(0,3)/\Cn B (eF name) o (q.rC name m).1 n u mm v M:=by
 obtain⟨a,b,_⟩:=h.get (by omega);have hz:(eF name).size=2+name.size:=jE 7 0 name;unfold QS.rC;rw[a];dsimp only;rw[if_neg (show ¬((0:Int)≠0) by simp)]
 split
 .rename_i hm;rw[if_neg (λhn=>hn ⟨hm.1,h.n,hm.2⟩)];obtain⟨C,c1,c2,c3,c4,c5⟩:=b.parts;have hs:=kv (n+m);have hbs:=b.s;obtain⟨s1,v',M',s2,s3,s4⟩:=Hi b.r b.t (λx hx=>by rw[c1]at hx;exact(az.1 hx).elim (λh1=>(b.b x h1).2) (c3 x)) (by rw[c1,Ui];omega) (eF name) (sK (n+m)) (by omega) (by omega) hu hu2;rw[show(⟨(dj (n+m)).toArray⟩:ByteArray)=sK (n+m)from rfl,if_neg (by rw[s1];simp)];refine⟨rfl,v',M',s2,s3,.inr ?_,h.b,h.s,hm.2⟩
  obtain⟨l1,l2,l3⟩:=Mk (λx hx=>(h.b x hx).1) c2;rw[s4,c1];unfold nO;rw[l1,l3]
 .rename_i hm;rw[if_pos (λhn=>hm ⟨hn.1,hn.2.2⟩)];exact⟨rfl,b⟩
end
open Nd (E aH bt aV aZ dD bH bf cd)
attribute [local go_sem ↓] Go.wp_at_zero Go.wp_at_succ
variable{fr pg n K:Nat}
theorem Uk:j5 []=List.replicate 64 0:=by unfold j5;simp
theorem Bc(n:Nat)(h1:2<=n)(hn:n<=4096):mZ (dX (D.zero n) n).d n 1 0 [] []/\Twin (dX (D.zero n) n).d 0 1:=by
 have z:(D.zero n).down=false/\(D.zero n).bA=0:=⟨rfl,rfl⟩;have ok0:=ox n hn;obtain⟨w1,w2,w3⟩:=jn (d:=D.zero n) (n:=n) (k:=0) z.1 z.2 (by omega) ft;have ok1:=ok0.write ((0:Nat):Int) ft;have n1:=uE ok0 0 (by omega) ft w1;obtain⟨v1,v2,v3⟩:=jn (d:=((D.zero n).aG n ((0:Nat):Int) ft).1) (n:=n) (k:=1) w2 w3 (by omega) [];have n2:=uE ok1 1 (by omega) [] v1;obtain⟨s1,s2,s3,s4⟩:=uI v2 v3
 have hd:(dX (D.zero n) n).d=((((D.zero n).aG n ((0:Nat):Int) ft).1.aG n ((1:Nat):Int) []).1.gj).1:=rfl;have e0:sec (dX (D.zero n) n).d.now 0=ft:=by
  rw[hd,s4,n2 0 (by omega),if_neg (by omega),n1 0 (by omega),if_pos rfl];exact Bv _ (Rt.D9 1 0 [] (by simp))
 have e1:sec (dX (D.zero n) n).d.now 1=List.replicate 64 0:=by
  rw[hd,s4,n2 1 (by omega),if_pos rfl,Uk]
 have hdec:Rt.yG (List.replicate 64 0)<1:=by decide+kernel
 refine⟨⟨h1,Rb,.inl rfl,e0,λ_=>?_,λi x hx=>by simp at hx,λj _ _=>by rw[hd];exact Jx s1 j⟩,?_⟩
 .show Rt.yG (sec (dX (D.zero n) n).d.now 1)<1;rw[e1];exact hdec
 .unfold Twin;show(sec (dX (D.zero n) n).d.now 1).take 8=(sec (dX (D.zero n) n).d.now 1).drop 56/\Rt.yG (sec (dX (D.zero n) n).d.now 1)<1;rw[e1];exact⟨by simp,hdec⟩
theorem Hj(n:Nat)(h1:1<=fC n)(hn:n<=4096)(fy:(dX (D.zero n) n).d.Ok n):Good (dX (D.zero n) n) n/\(dX (D.zero n) n).cH n=St.start (fC n)/\(dX (D.zero n) n).d.calls<=10/\mZ (dX (D.zero n) n).d n 1 0 [] []/\Twin (dX (D.zero n) n).d 0 1:=by
 obtain⟨g,e,hc⟩:=Jq n h1 hn fy;have hr:=Bc n (by unfold fC cq at h1;omega) hn;exact⟨g,e,hc,hr⟩
def QS.start(fr pg:Nat):QS:=⟨St.start pg,List.replicate fr Fr.nil,0⟩
def mu:Vw:=λ_=>([],3)
def ES:Vw:=jq mu 0 (cf true []).1
theorem Ul(fr pg:Nat):Vi (QS.start fr pg):=by
 have hn:∀f∈(QS.start fr pg).l,f=Fr.nil:=λf hf=>xY hf;have hp:∀f∈(QS.start fr pg).l,¬0<=f.aw:=λf hf=>by rw[hn f hf];show ¬(0:Int)<= -1;omega
 exact⟨λi j f g hi hj e h0=>absurd h0 (hp f (aA hi)),λf hf h0=>absurd h0 (hp f hf),λf hf h0=>absurd h0 (hp f hf),λf hf _=>by rw[hn f hf];rfl,λf hf h0=>absurd h0 (hp f hf)⟩
theorem Hk(H:Hq (QS.start fr pg) n K):Wp (QS.start fr pg) n K:=⟨H,Ul fr pg,λf hf=>by rw[xY hf];rfl⟩
theorem Ag(pg:Nat)(j:Int):(St.start pg).aR j=([],3):=by
 unfold St.aR;have:(St.start pg).at j=none:=by unfold St.at St.start;split<;>simp
 rw[this]
theorem Um(H:Hq (QS.start fr pg) n K):Rd (QS.start fr pg) mu mu 0 pg:=by
 refine⟨⟨n,K,Hk H⟩,λj=>?_,λj=>?_,?_,aj _⟩
 .rcases iC (QS.start fr pg) j with ho|⟨k,f,hk,rfl,hp⟩
  .rw[eZ ho];exact Ag pg j
  .rw[show f=Fr.nil from xY (aA hk)]at hp;exact absurd hp (by show ¬(0:Int)<= -1;omega)
 .show({(St.start pg)with now:=Eb (St.start pg).cG}:St).aR j=_;exact Ag pg j
 .show 0+(0+BC 0)<=0;decide
theorem lay0:(cf true []).2=0:=qa (v:=mu) (h:=0) (λh=>absurd rfl h) (by rw[nM];decide)
theorem Ah:jB=(cf true []).1:=rfl
theorem Un:Tree ES 0 []:=by
 have AF:∀j,ik ES j=if j=0 then(true,[],0)else ik mu j:=λj=>by unfold ES;rw[fU lay0];rfl
 have hns:aI ES 0 0=[(0,0,[])]:=by unfold aI;rw[AF 0,if_pos rfl]
 refine⟨⟨by rw[AF 0,if_pos rfl],by rw[AF 0,if_pos rfl];decide⟩,by unfold fZ;rw[hns];rfl,by simp,by rw[hns];simp,λj hj=>?_⟩;rw[hns]
 by_cases h0:j=0
 .simp[h0]
 .unfold ES at hj;rw[lE _ _ h0]at hj;exact absurd hj (by show ¬(3:Int)=0;decide)
theorem Ky(H:Hq (QS.start fr pg) n K)(hp:2<=pg):(QS.start fr pg).oZ.2=0/\Rd (QS.start fr pg).oZ.1 ES mu 1 pg/\Tree ES 0 []:=by
 have R:=Um H;have hlen:=(zI lay0).2.2.1;have hT:=Un;have OM:((QS.start fr pg).bP jB).2=(0,0):=by
  show((St.start pg).bP jB).2=_;unfold St.bP;have hs:(St.start pg).slot=0:=rfl;have hf:(St.start pg).free≠0:=by
   show pg-(0+BC 0)-0≠0;have:BC 0=0:=by decide
   omega
  rw[if_neg (by rw[Ah,hlen];omega),if_neg (by rw[hs];omega)];exact kG (by rw[hs];rfl) rfl
 have hn:=R.new ⟨jB.toArray⟩ (by show jB.toArray.size<=232;rw[jM,Ah,hlen];exact aj _);have hd:(⟨jB.toArray⟩:ByteArray).data.toList=jB:=rfl;rw[hd]at hn;rw[OM]at hn;have he:eI jB 232=(cf true []).1:=by
  rw[Ah];exact tI (b:=⟨(cf true []).1.toArray⟩) (by show(cf true []).1.toArray.size=_;rw[jM];exact hlen)
 rcases hn with⟨l,a1,a2,a3,a4⟩|⟨a1,_⟩
 .have hl:((l:Nat):Int)=0:=(congrArg Prod.fst a1).symm;rw[hl,he]at a4;have hpg:(QS.start fr pg).a.jS.length=0:=rfl;have hroot:(QS.start fr pg).zH=(((QS.start fr pg).bP jB).1,0):=by
   unfold QS.zH;rw[if_pos hpg,OM]
  unfold QS.oZ;rw[hroot,if_neg (by simp)];have a4:Rd ((QS.start fr pg).bP jB).1 ES mu 1 pg:=a4;obtain⟨b1,b2⟩:=a4.read 0;refine⟨?_,b1,hT⟩;show(((QS.start fr pg).bP jB).1.bM 0).2.2.2=0
  rcases b2 with b2|⟨b2,b3⟩
  .rw[b2,(L8 hT.ok).1]
  .omega
 .exact absurd (congrArg Prod.snd a1) (by show ¬(0:Int)=11;decide)
variable{w:World}
def SOpened(w w':World)(I:Ix)(F:List Nat)(q:QS)(e:Int)(fr:Bool)(n K:Nat)(v:Value):Prop:=
 ∃F',ag F w w'/\(∀g∈F',g∈F\/w.heap.size<=g)/\PQ w' I F' q n K/\(e≠0->v=.pointer none)/\(e=0->∃sb tb,v=.pointer (some ⟨sb,0,none⟩)/\w.heap.size<=sb/\w.heap.size<=tb/\aE w' sb 182 #[tp tb,pp I.pb,.bool fr]/\TQ w' tb I F' q n K)
theorem Pq{I:Ix}{F:List Nat}{q:QS}{n K:Nat}(h:PQ w I F q n K)(hK:K<=999999999000):
  Calls prog 45 #[pp I.pb] w λe w'=> ∃v,e=.returned (.tuple #[v,.int .i64 q.oZ.2])/\SOpened w w' I F q.oZ.1 q.oZ.2 (decide (q.a.jS.length=0)) n (K+2) v:=by
 have K1:=xh (yP h);have K2:=xh (yQ h);have KT:=xh (λ(W:World) (hW:PQ W I F q n K)=>Ox hW (by omega));have HP:=xh h;obtain⟨R,hR⟩:∃R,q.oZ=R:=⟨_,rfl⟩;rw[hR]at KT ⊢;obtain⟨q1,e1⟩:=R;dsimp only at KT ⊢;clear h hR;unfold pp sp at K1;unfold sp at K2;unfold pp at KT;unfold pp
 by_cases h0:q.a.jS.length=0
 .rw[decide_eq_true h0];rw[h0]at K2;clear h0;go_enter func45,ntmps45;go_wp2_with fail;refine K1.o.mono ?_;rintro e w2 ⟨rfl,rfl⟩;go_wp2_with fail;refine K2.o.mono ?_;rintro e w3 ⟨A3,c3,rfl,S3,cZ⟩;have KO:=xh (KT.o w3 (HP.o.below cZ));have O3:=xh (show ag F w w3 from .ai cZ);clear S3 cZ;go_wp2_with fail;refine KO.o.mono ?_;rintro e w4 ⟨v4,rfl,F4,o4,f4,P4,z4,z5⟩;have s3:=O3.o.size
  have H4:=xh (show ag F w w4/\(∀g∈F4,g∈F\/w.heap.size<=g)/\PQ w4 I F4 q1 n (K+2)from⟨O3.o.trans o4,λg hg=>(f4 g hg).imp id (λh=>by omega),P4⟩)
  by_cases he:e1=0
  .obtain⟨tb,rfl,htb,T4⟩:=z5 he;have gu:=ae (Below.refl w4.heap.size w4) (.cells #[tp tb,pp I.pb,.bool true] 182);have BS:=aE.new w4 182 #[tp tb,pp I.pb,.bool true];have H5:=xh (And.intro BS (And.intro (T4.below gu) (And.intro (H4.o.1.trans (.ai gu)) (show w.heap.size<=w4.heap.size/\w.heap.size<=tb from⟨by have:=o4.size;omega,by omega⟩))));clear o4 f4 P4 z4 z5 T4 gu BS htb s3;subst he;unfold tp pp at *;go_wp2_with fail;go_ret2
   exact⟨_,by first|rfl|simp,F4,H5.o.2.2.1,H4.o.2.1,H5.o.2.1.2,λh=>absurd rfl h,λ_=>⟨_,tb,rfl,H5.o.2.2.2.1,H5.o.2.2.2.2,H5.o.1,H5.o.2.1⟩⟩
  .have hq:(e1 != 0)=true:=by rw[bne_iff_ne];exact he
   have ki:(e1==0)=false:=by rw[beq_eq_false_iff_ne];exact he
   clear o4 f4 P4 z4 z5 s3;go_wp2_with fail;go_ret2;exact⟨_,by first|rfl|simp,F4,H4.o.1,H4.o.2.1,H4.o.2.2,λ_=>rfl,λh=>absurd h he⟩
 .rw[decide_eq_false h0];have h0I:((q.a.jS.length:Nat):Int)≠0:=by omega
  generalize q.a.jS.length=np at *;have hq8:(((np:Nat):Int)==0)=false:=by rw[beq_eq_false_iff_ne];exact h0I
  have hq9:decide (((np:Nat):Int)=0)=false:=decide_eq_false h0I;go_enter func45,ntmps45;go_wp2_with fail;refine K1.o.mono ?_;rintro e w2 ⟨rfl,rfl⟩;go_wp2_with fail;refine K2.o.mono ?_;rintro e w3 ⟨A3,c3,rfl,S3,cZ⟩;have KO:=xh (KT.o w3 (HP.o.below cZ));have O3:=xh (show ag F w w3 from .ai cZ);clear S3 cZ;go_wp2_with fail;refine KO.o.mono ?_;rintro e w4 ⟨v4,rfl,F4,o4,f4,P4,z4,z5⟩;have s3:=O3.o.size
  have H4:=xh (show ag F w w4/\(∀g∈F4,g∈F\/w.heap.size<=g)/\PQ w4 I F4 q1 n (K+2)from⟨O3.o.trans o4,λg hg=>(f4 g hg).imp id (λh=>by omega),P4⟩)
  by_cases he:e1=0
  .obtain⟨tb,rfl,htb,T4⟩:=z5 he;have gu:=ae (Below.refl w4.heap.size w4) (.cells #[tp tb,pp I.pb,.bool false] 182);have BS:=aE.new w4 182 #[tp tb,pp I.pb,.bool false];have H5:=xh (And.intro BS (And.intro (T4.below gu) (And.intro (H4.o.1.trans (.ai gu)) (show w.heap.size<=w4.heap.size/\w.heap.size<=tb from⟨by have:=o4.size;omega,by omega⟩))));clear o4 f4 P4 z4 z5 T4 gu BS htb s3;subst he;unfold tp pp at *;go_wp2_with fail;go_ret2
   exact⟨_,by first|rfl|simp,F4,H5.o.2.2.1,H4.o.2.1,H5.o.2.1.2,λh=>absurd rfl h,λ_=>⟨_,tb,rfl,H5.o.2.2.2.1,H5.o.2.2.2.2,H5.o.1,H5.o.2.1⟩⟩
  .have hq:(e1 != 0)=true:=by rw[bne_iff_ne];exact he
   have ki:(e1==0)=false:=by rw[beq_eq_false_iff_ne];exact he
   clear o4 f4 P4 z4 z5 s3;go_wp2_with fail;go_ret2;exact⟨_,by first|rfl|simp,F4,H4.o.1,H4.o.2.1,H4.o.2.2,λ_=>rfl,λh=>absurd h he⟩
theorem KK{sb:Nat}{a b:Value}{fr:Bool}(B:aE w sb 182 #[a,b,.bool fr]):Calls prog 49 #[.pointer (some ⟨sb,0,none⟩)] w λe w'=>e=.returned (.bool fr)/\Below w.heap.size w w':=by
 have x2:=B.ab (i:=2) rfl;have O0:=xh (Below.refl w.heap.size w);have O1:=xh (Below.refl w.heap.size w).drew;clear B;go_enter func49,ntmps49;go_wp2_with fail;go_ret;exact aC (by first|exact O0.o|exact O1.o)
def QS.lG:QS:=(QS.start 5 300).oZ.1
theorem wM(w:World):
  Calls prog 35 #[] w λe w'=> ∃sb tb I F,e=.returned (.pointer (some ⟨sb,0,none⟩))/\aE w' sb 182 #[tp tb,pp I.pb,.bool true]/\TQ w' tb I F QS.lG 1202 3/\
   Rd QS.lG ES mu 1 300/\Below w.heap.size w w'/\(∀g∈sb::tb::F,w.heap.size<=g):=by
 have n1:fC 1202=300:=by decide
 have KD:=xh (DF 1202 w (by omega) (by omega));have KF:=xh (λ(W:World) (L:Dk.Loc) (hW:aY W L 1202 (D.zero 1202))=>Jf hW (by omega) rfl rfl (by show(0:Int)<=1000;omega));have KP:=xh (λ(W:World) (b:Nat)=>Rc (w:=W) b 5 (by omega) (by omega))
 have HQ:=xh (show ∀(W:World) (x:X) (pq:Nat) (v:Value),At W x 1202 (dX (D.zero 1202) 1202)->aE W pq 143 #[sp x.b,v,.int .i64 0]->aK W 167 5 v 5 (DR (List.replicate 5 Fr.nil))->(∀g∈x.fp,w.heap.size<=g)->w.heap.size<=pq->(∀g∈ah v,w.heap.size<=g)->pq∉x.fp->(∀g∈ah v,g∉x.fp)->
   ∃F,PQ W ⟨pq,x.b,x.L⟩ F (QS.start 5 300) 1202 1/\(∀g∈F,w.heap.size<=g)/\Hq (QS.start 5 300) 1202 1 from λW x pq v A B S h1 h2 h3 h4 h5=>by
  obtain⟨g,cp,rest,rfl,BB,_⟩:=S.form (by omega) (by omega);obtain⟨gd,e,hc,hr,_⟩:=Hj 1202 (by omega) (by omega) A.hd.ok;rw[n1]at e;have z:Zc (dX (D.zero 1202) 1202) 1202 (St.start 300) 1:=⟨gd,hr,⟨0,by rw[yI,e]⟩,by omega,by show(1:Int)<=(1:Nat);omega⟩
  have H:Hq (QS.start 5 300) 1202 1:=⟨⟨_,z⟩,λf hf=>by rw[xY hf];exact Fb.nil,by show 1<=(List.replicate 5 Fr.nil).length;rw[fi];omega,by show(List.replicate 5 Fr.nil).length<=32;rw[fi];omega,by show 0<(List.replicate 5 Fr.nil).length;rw[fi];omega,by show([]:List FL).length<=512;simp⟩;refine⟨_,⟨⟨x,pq,g,cp⟩,rfl,rfl,rfl,rfl,⟨_,?_,z⟩,Hk H⟩,?_,H⟩
  .refine⟨?_,?_,A,h4,h5 g (by simp[ah]),H.l1,H.l2,H.lh⟩
   .show aE W pq _ #[_,.slice (some ⟨g,0,none⟩) (List.replicate 5 Fr.nil).length cp,_];rw[fi];exact B
   .show aK W _ 5 (.slice (some ⟨g,0,none⟩) (List.replicate 5 Fr.nil).length cp) (List.replicate 5 Fr.nil).length _;rw[fi];exact S
  .intro y hy;simp only[Y.fp,ar]at hy
   rcases hy with rfl|rfl|hy
   .exact h2
   .exact h3 _ (by simp[ah])
   .exact h1 y hy)
 unfold pp sp at *;go_enter func35,ntmps35;go_wp2_with fail;refine KD.o.mono ?_;rintro e w1 ⟨L,rfl,D1,aJ,hL⟩;have O1:=xh aJ;have D1:=xh D1;have HL:=xh hL;clear aJ hL;go_wp2_with fail;refine(KF.o w1 L D1.o).mono ?_;rintro e w2 ⟨x,hxL,rfl,A2,o2,fx⟩
 have H2:=xh (show At w2 x 1202 (dX (D.zero 1202) 1202)/\Below w.heap.size w w2/\∀g∈x.fp,w.heap.size<=g from⟨A2,O1.o.trans (o2.aO O1.o.size HL.o),λg hg=>(fx g hg).elim (HL.o g) (λh=>by have:=O1.o.size;omega)⟩);have HXL:=xh hxL;clear A2 o2 fx hxL;go_wp2_with fail;refine(KP.o w2 x.b).mono ?_;rintro e w3 ⟨pq,v,rfl,B3,S3,cZ,hp3,hf3⟩
 obtain⟨F3,P3,f3,hq3⟩:=HQ.o w3 x pq v (H2.o.1.below cZ) B3 S3 H2.o.2.2 (by have:=H2.o.2.1.size;omega) (λg hg=>by have:=hf3 g hg;have:=H2.o.2.1.size;omega) (λhF=>by have:=H2.o.1.lt _ hF;omega) (λg hg hF=>by have:=H2.o.1.lt _ hF;have:=hf3 g hg;omega);have hb3':=au H2.o.2.1 cZ;have KO:=Pq P3 (by omega);obtain⟨q1e,q1r,q1t⟩:=Ky hq3 (by omega);rw[q1e]at KO;have KO:=xh KO
 have H3:=xh (show Below w.heap.size w w3/\(∀g∈F3,w.heap.size<=g)from⟨hb3',f3⟩);have HR:=xh q1r;clear B3 S3 cZ hp3 hf3 P3 f3 hq3 hb3' q1e q1r q1t;unfold pp at KO;go_wp2_with fail;refine KO.o.mono ?_;rintro e w4 ⟨v4,rfl,F4,o4,f4,P4,z4,z5⟩;obtain⟨sb,tb,rfl,hsb,htb,BS,T4⟩:=z5 rfl;have H4:=xh (And.intro BS (And.intro T4 (And.intro (show Below w.heap.size w w4 from H3.o.1.trans (o4.aO H3.o.1.size H3.o.2)) (show ∀g∈sb::tb::F4,w.heap.size<=g from λg hg=>by
  have s3:=H3.o.1.size;simp only[ar]at hg
  rcases hg with rfl|rfl|hg
  .omega
  .omega
  .exact(f4 g hg).elim (H3.o.2 g) (λh=>by omega)))))
 clear o4 f4 P4 z4 z5 BS T4 hsb htb;go_wp2_with fail;go_ret;exact⟨sb,tb,⟨pq,x.b,x.L⟩,F4,by first|rfl|simp,H4.o.1,H4.o.2.1,HR.o,H4.o.2.2.1,H4.o.2.2.2⟩
structure Ai(w W:World)(sb tb:Nat)(I:Ix)(F:List Nat)(q:QS)(n K:Nat):Prop where
 b:aE W sb 182 #[tp tb,pp I.pb,.bool true]
 t:TQ W tb I F q n K
 o:Below w.heap.size w W
 f:∀g∈sb::tb::F,w.heap.size<=g
section
variable{w W W':World}{sb tb:Nat}{I:Ix}{F:List Nat}{q q':QS}{n K K':Nat}
theorem Ai.nw(h:Ai w W sb tb I F q n K):sb∉F:=h.t.2.fR h.b
theorem Ai.pq(h:Ai w W sb tb I F q n K)(P:PQ W' I F q' n K')(o:ag F W W'):Ai w W' sb tb I F q' n K':=
 ⟨h.b.only o h.nw,h.t.next o P,h.o.trans (o.aO h.o.size (λg hg=>h.f g (by simp[hg]))),h.f⟩
theorem Ai.pt(h:Ai w W sb tb I F q n K)(p:PT W W' I F q' n K'):∃F',Ai w W' sb tb I F' q' n K':=by
 obtain⟨F',P,o,f⟩:=p;refine⟨F',h.b.only o h.nw,⟨h.t.1.only o h.t.ne,P⟩,h.o.trans (o.aO h.o.size (λg hg=>h.f g (by simp[hg]))),λg hg=>?_⟩;have hs:=h.o.size;simp only[ar]at hg
 rcases hg with rfl|rfl|hg
 .exact h.f _ (by simp)
 .exact h.f _ (by simp)
 .exact(f g hg).elim (λh1=>h.f g (by simp[h1])) (λh1=>by omega)
theorem Ai.below(h:Ai w W sb tb I F q n K)(hb:Below W.heap.size W W'):Ai w W' sb tb I F q n K:=
 ⟨h.b.below hb h.b.lt,h.t.below hb,au h.o hb,h.f⟩
theorem Ai.le(h:Ai w W sb tb I F q n K)(hk:K<=K'):Ai w W sb tb I F q n K':=⟨h.b,h.t.le hk,h.o,h.f⟩
end
def aB:ByteArray:=⟨#[97]⟩
def nB:ByteArray:=⟨#[110]⟩
def xB:ByteArray:=⟨#[120]⟩
def EL:ByteArray:=aD 0 1++aB
def ka2:ByteArray:=aD 0 2++aB
def s1:QS:=(QS.lG.fQ EL xB).1
def s2:QS:=(s1.eQ EL).1
def s3:QS:=(s2.eQ ka2).1
def s4:QS:=(s3.rC nB 5).1
def s5:QS:=(s4.rC nB (-2)).1
theorem Bd(R:Rd QS.lG ES mu 1 300):(QS.lG.fQ EL xB).2=0/\(s1.eQ EL).2=(xB,0)/\(s2.eQ ka2).2.2=9/\(s3.rC nB 5).2=(5,0)/\(s4.rC nB (-2)).2=(3,0)/\
  ((s3.eQ (eF nB)).2.2=0->(s3.eQ (eF nB)).2.1.size=8)/\((s4.eQ (eF nB)).2.2=0->(s4.eQ (eF nB)).2.1.size=8):=by
 have z1:EL.size=3:=by decide
 obtain⟨a1,v1,M1,a2,a3,a4⟩:=Hi R Un (by simp[iR]) (by decide) EL xB (by omega) (by decide) (by decide) (by decide);have e1:iR M1=[(EL,xB)]:=by rw[a4];rfl
 obtain⟨b1,b2⟩:=oO a2 a3 (by omega) EL;rw[e1,show ng [(EL,xB)] EL=[(EL,xB)] by simp[ng]]at b2;obtain⟨c1,c2⟩:=oO b1 a3 (by omega) ka2;have eV:EL≠ka2:=by decide
 rw[e1,show ng [(EL,xB)] ka2=[] by simp[ng,eV]]at c2;have C0:Cn [(EL,xB)] (eF nB) mu s3 0 2 300 v1 M1:=⟨c1,a3,.inl ⟨e1,rfl⟩,λx hx=>by rw[aP.1 hx];exact⟨by decide,by decide⟩,by decide,by decide⟩;have f0:=C0.add (by decide) (by omega) (by omega) 5;rw[if_pos (by decide)]at f0;obtain⟨d1,v2,M2,C1⟩:=f0;have f1:=C1.add (by decide) (by omega) (by omega) (-2);rw[if_pos (by decide)]at f1;refine⟨a1,?_,?_,d1,f1.1,(C0.get (by omega)).2.2,(C1.get (by omega)).2.2⟩
 .rcases b2 with⟨_,b2⟩|b2
  .omega
  .exact b2
 .rcases c2 with⟨_,c2⟩|c2
  .omega
  .exact congrArg Prod.snd c2
theorem Hl(w:World):Calls prog 36 #[] w λe w'=>e=.returned (.bool true)/\Below w.heap.size w w':=by
 have KB:=xh (wM w);go_enter func36,ntmps36;go_wp2_with fail;refine KB.o.mono ?_;rintro e w1 ⟨sb,tb,I,F,rfl,B1,T1,R1,O1,f1⟩;obtain⟨g1,g2,g3,g4,g5,g6,g7⟩:=Bd R1;have A1:Ai w w1 sb tb I F QS.lG 1202 3:=⟨B1,T1,O1,f1⟩;have KF:=xh (KK B1);have K1:=xh (λ(W:World) (F:List Nat) (hW:Ai w W sb tb I F QS.lG 1202 3)=>g1▸Ad hW.b hW.t (by omega) 0 1 (by omega) (by omega) aB xB (by decide) (by decide))
 have K2:=xh (λ(W:World) (F:List Nat) (hW:Ai w W sb tb I F s1 1202 103)=>qf hW.b hW.t (by omega) 0 1 (by omega) (by omega) aB (by decide));have K3:=xh (λ(W:World) (F:List Nat) (hW:Ai w W sb tb I F s2 1202 124)=>qf hW.b hW.t (by omega) 0 2 (by omega) (by omega) aB (by decide));have K4:=xh (λ(W:World) (F:List Nat) (hW:Ai w W sb tb I F s3 1202 145)=>g4▸Ae hW.b hW.t (by omega) nB (by decide) g6 5)
 have K5:=xh (λ(W:World) (F:List Nat) (hW:Ai w W sb tb I F s4 1202 345)=>g5▸Ae hW.b hW.t (by omega) nB (by decide) g7 (-2));rw[show aD 0 1++aB=EL from rfl,g2]at K2;rw[show aD 0 2++aB=ka2 from rfl,g3]at K3;have A1:=xh A1;clear B1 T1 R1 O1 f1 g1 g2 g3 g4 g5 g6 g7;unfold aB nB xB at *;go_wp2_with fail;refine KF.o.mono ?_;rintro e w2 ⟨rfl,bS⟩;have A2:=A1.o.below bS;have K1:=xh (K1.o w2 F A2);have A2:=xh A2;clear bS;go_wp2_with fail
 refine K1.o.mono ?_;rintro e w3 ⟨rfl,p3⟩;obtain⟨F3,A3⟩:=A2.o.pt p3;have K2:=xh (K2.o w3 F3 A3);have A3:=xh A3;clear p3;go_wp2_with fail;refine K2.o.mono ?_;rintro e w4 ⟨rfl,P4,o4⟩;have A4:=A3.o.pq P4 o4;have K3:=xh (K3.o w4 F3 A4);have A4:=xh A4;clear P4 o4;go_wp2_with fail;refine K3.o.mono ?_;rintro e w5 ⟨rfl,P5,o5⟩;have A5:=A4.o.pq P5 o5;have K4:=xh (K4.o w5 F3 A5);have A5:=xh A5;clear P5 o5;go_wp2_with fail;refine K4.o.mono ?_
 rintro e w6 ⟨rfl,p6⟩;obtain⟨F6,A6⟩:=A5.o.pt p6;have K5:=xh (K5.o w6 F6 A6);have A6:=xh A6;clear p6;go_wp2_with fail;refine K5.o.mono ?_;rintro e w7 ⟨rfl,p7⟩;obtain⟨F7,A7⟩:=A6.o.pt p7;have A7:=xh A7;clear p7;go_wp2_with fail;go_ret;exact aC A7.o.o
theorem Aj(s l:Int)(rs:List ByteArray):Bb s l rs=0\/Bb s l rs=2:=by
 unfold Bb
 split
 .exact .inr rfl
 .split
  .exact .inl rfl
  .exact .inr rfl
theorem Hm{w:World}(sb:Nat)(s l:Int){A:Option Addr}{n c:Nat}{rs:List ByteArray}(S:aK w 9 1 (.slice A n c) n (nQ rs))(hn:n<=100):
  Calls prog 95 #[.pointer (some ⟨sb,0,none⟩),.agg #[.int .i64 s,.int .i64 l],.slice A n c] w λe w'=>e=.returned (.int .i64 (Bb s l rs))/\Below w.heap.size w w':=by
 have ry:=ae (Below.refl w.heap.size w) (.cells #[.int .i64 s,.int .i64 l] 177);have P0:=aE.new w 177 #[.int .i64 s,.int .i64 l];have x0:=P0.ab (i:=0) rfl;have x1:=P0.ab (i:=1) rfl;unfold Bb
 by_cases n1:s<0
 .rw[if_pos (.inl n1)];have HO:=xh ry;clear S ry P0;go_enter func95,ntmps95;go_wp2_with fail;go_ret;exact aC HO.o
 by_cases n2:7<s
 .rw[if_pos (.inr (.inl n2))];have HO:=xh ry;clear S ry P0;go_enter func95,ntmps95;go_wp2_with fail;go_ret;exact aC HO.o
 by_cases n3:l<0
 .rw[if_pos (.inr (.inr (.inl n3)))];have HO:=xh ry;clear S ry P0;go_enter func95,ntmps95;go_wp2_with fail;go_ret;exact aC HO.o
 by_cases n4:6<=l
 .rw[if_pos (.inr (.inr (.inr n4)))];have HO:=xh ry;clear S ry P0;go_enter func95,ntmps95;go_wp2_with fail;go_ret;exact aC HO.o
 rw[if_neg (by omega)];have S1:=S.below ry;have oU:rs.length=n:=by have:=S.1;simp[nQ]at this;omega
 have HL:=xh oU;have H0:=xh (And.intro S1 ry);obtain⟨res,AJ⟩:∃res:Int,(if rs.all (λr=>decide (r.size<=30))=true then 0 else 2)=res:=⟨_,rfl⟩;have HR:=xh AJ;rw[AJ];clear S S1 ry P0 oU AJ;go_enter func95,ntmps95;go_wp2_with fail
 go_loopw [33] (λiv wr=> ∃i:Nat,i<=n/\iv=.int .i64 (i:Nat)/\Hid (∀r∈rs.take i,r.size<=30)/\Below (w.alloc (.cells #[.int .i64 s,.int .i64 l] 177)).heap.size (w.alloc (.cells #[.int .i64 s,.int .i64 l] 177)) wr) (λiv _=>n-(intOf iv).toNat)
 case atStart=>exact⟨0,bm _,rfl,xh (by simp),Below.refl _ _⟩
 case round=>
  obtain⟨i,hi,rfl,HS,O⟩:=hrel
  by_cases h:i<n
  .have hI:(i:Int)<(n:Int):=by omega
   have S2:=H0.o.1.below O;obtain⟨g,cap,rest,hv,B,hc,jX⟩:=S2.form (by omega) (by omega);injection hv with e1 e2 e3
   subst e1 e3;obtain⟨r,hx⟩:∃r,rs[i]?=some r:=⟨_,aT (by rw[HL.o];exact h)⟩;have xc:wr.cell? ⟨g,i,none⟩=some (.string r):=B.ab (by
    rw[cM,bD (by simp[nQ];rw[HL.o];exact h)];simp[nQ,hx])
   by_cases gQ:r.size<=30
   .have hrI:¬(30:Int)<(r.size:Int):=by omega
    have HO:=xh O;have vU:=xh (show ∀r∈rs.take (i+1),r.size<=30 from λy hy=>by
     rw[kD,hx]at hy
     rcases az.1 hy with hy|hy
     .exact HS.o y hy
     .simp at hy;rw[hy];exact gQ)
    clear S2 B jX O hx gQ;go_wp2_with fail;go_roundw
    case rel=>exact⟨i+1,by omega,by go_num,vU,HO.o⟩
    case measure=>simp[intOf];omega
   .have hrI:(30:Int)<(r.size:Int):=by omega
    have h2:res=2:=by
     rw[<-HR.o,if_neg];intro iV;rw[nV]at iV;exact gQ (of_decide_eq_true (iV r (aA hx)))
    subst h2;have HO:=xh (au H0.o.2 O);clear S2 B jX O hx gQ;go_wp2_with fail;go_ret;exact aC HO.o
  .have hI:¬(i:Int)<(n:Int):=by omega
   have h2:res=0:=by
    rw[<-HR.o,if_pos];rw[nV];intro r hr;have hs:=HS.o;rw[bY (by rw[HL.o];omega)]at hs;exact decide_eq_true (hs r hr)
   subst h2;have HO:=xh (au H0.o.2 O);clear O;go_wp2_with fail;go_ret;exact aC HO.o
theorem Uo{w:World}{sb tb:Nat}{I:Ix}{F:List Nat}{q:QS}{n Kz:Nat}{fr:Bool}(B:aE w sb 182 #[tp tb,pp I.pb,.bool fr])(T:TQ w tb I F q n Kz)(hK:Kz<=999999970000)(s l:Nat)(hs:s<=7)(hl:l<6)(r:ByteArray)(hr:r.size<=30):
  Calls prog 47 #[.pointer (some ⟨sb,0,none⟩),.int .i64 (s:Nat),.int .i64 (l:Nat),.string r] w λe w'=>e=.returned (.int .i64 (q.jo (aD s l++r)).2)/\PT w w' I F (q.jo (aD s l++r)).1 n (Kz+700):=by
 obtain⟨z,hz⟩:∃z,w.heap.size=z:=⟨_,rfl⟩;have aJ:=ae (Below.refl w.heap.size w) (.cells #[.int .i64 (s:Nat),.int .i64 (l:Nat)] 177);have P0:=aE.new w 177 #[.int .i64 (s:Nat),.int .i64 (l:Nat)];obtain⟨w1,jJ⟩:∃w1,w.alloc (.cells #[.int .i64 (s:Nat),.int .i64 (l:Nat)] 177)=w1:=⟨_,rfl⟩;rw[jJ]at aJ P0;rw[hz]at P0;have xN:w1.heap.size=z+1:=by rw[<-jJ,eJ,hz]
 have SR:aK (w1.alloc (.cells #[.string r] 9)) 9 1 (.slice (some ⟨w1.heap.size,0,none⟩) 1 1) 1 (nQ [r]):=⟨rfl,.inr ⟨w1.heap.size,1,[],rfl,aE.new _ _ _,rfl,by decide⟩⟩;have bS:=au aJ (ae (Below.refl w1.heap.size w1) (.cells #[.string r] 9));have P2:=P0.alloc (.cells #[.string r] 9);have KM:=xh (rj (w:=w1.alloc (.cells #[.string r] 9)) sb (s:Nat) (l:Nat) ⟨by omega,by omega⟩ ⟨by omega,by omega⟩ SR (by omega) (by simpa using hr));rw[xN]at KM
 have KH:=xh (λ(W:World)=>nP s l hs (by omega) W);have KT:=xh (λ(W:World) (hW:TQ W tb I F q n Kz)=>GM hW (by omega) (aD s l++r));have x0:=P0.ab (i:=0) rfl;have x1:=P0.ab (i:=1) rfl;have NB:=xh (T.2.fR B);have hcat:¬9223372036854775807<(aD s l).size+r.size:=by show ¬9223372036854775807<2+r.size;omega
 have NZ:=xh (show z∉F from λhm=>by have:=T.2.lt _ hm;omega);have H0:=xh (And.intro B (And.intro T (And.intro P2 bS)));clear B T P0 P2 SR aJ bS;subst jJ;unfold tp at KT;go_enter func47,ntmps47;go_wp2_with fail;refine KM.o.mono ?_;rintro e w3 ⟨rfl,cZ⟩;have T3:=xh ((H0.o.2.1.below H0.o.2.2.2).below cZ);have B3:=xh ((H0.o.1.below H0.o.2.2.2 H0.o.1.lt).below cZ (H0.o.1.below H0.o.2.2.2 H0.o.1.lt).lt)
 have P3:=xh (H0.o.2.2.1.below cZ H0.o.2.2.1.lt);have O3:=xh (au H0.o.2.2.2 cZ);have S0:=xh (show w3.drew.cell? ⟨sb,0,none⟩=some (.pointer (some ⟨tb,0,none⟩))/\w3.drew.cell? ⟨z,0,none⟩=some (.int .i64 (s:Nat))/\w3.drew.cell? ⟨z,1,none⟩=some (.int .i64 (l:Nat))from⟨B3.o.ab (i:=0) rfl,P3.o.ab (i:=0) rfl,P3.o.ab (i:=1) rfl⟩);clear cZ x0 x1;go_wp2_with fail
 refine wp_region_held_drew (S:=λW=>W.cell? ⟨sb,0,none⟩=some (.pointer (some ⟨tb,0,none⟩))/\W.cell? ⟨z,0,none⟩=some (.int .i64 (s:Nat))/\W.cell? ⟨z,1,none⟩=some (.int .i64 (l:Nat))) (by kernel_rfl) (S0.o) (λaq=>?_);refine cV [(0,22),(1,23),(2,24),(3,25),(4,26),(6,28)] ?_
 iterate 6 refine bj ?_
 refine dn 5 27 λK hK=>?_;go_simp
 go_at_call 97
 refine(KH.o _).mono ?_;rintro e w4 ⟨rfl,eM⟩;have T4:=xh (T3.o.drew.below eM);have B4:=xh (B3.o.drew.below eM B3.o.drew.lt);have P4:=xh (P3.o.drew.below eM P3.o.drew.lt);have O4:=xh (au (cD O3.o 1) eM)
 have S4:=xh (show w4.cell? ⟨sb,0,none⟩=some (.pointer (some ⟨tb,0,none⟩))/\w4.cell? ⟨z,0,none⟩=some (.int .i64 (s:Nat))/\w4.cell? ⟨z,1,none⟩=some (.int .i64 (l:Nat))from⟨B4.o.ab (i:=0) rfl,P4.o.ab (i:=0) rfl,P4.o.ab (i:=1) rfl⟩);clear eM;go_simp;refine aW hK (S4.o) (λaq=>?_);refine cV [(7,29)] ?_
 iterate 1 refine bj ?_
 refine dn 8 30 λK hK=>?_;go_simp
 go_at_call 26
 refine(KT.o w4 T4.o).mono ?_;rintro e w5 ⟨rfl,F5,p5,o5,f5⟩;have S5:=xh (show w5.cell? ⟨sb,0,none⟩=some (.pointer (some ⟨tb,0,none⟩))/\w5.cell? ⟨z,0,none⟩=some (.int .i64 (s:Nat))/\w5.cell? ⟨z,1,none⟩=some (.int .i64 (l:Nat))from⟨(B4.o.only o5 NB.o).ab (i:=0) rfl,(P4.o.only o5 NZ.o).ab (i:=0) rfl,(P4.o.only o5 NZ.o).ab (i:=1) rfl⟩)
 have H5:=xh (show PT w w5 I F (q.jo (aD s l++r)).1 n (Kz+700)from⟨F5,p5,(ag.ai O4.o).trans o5,λg hg=>(f5 g hg).imp id (λh=>ay O4.o.size h)⟩);clear o5;go_simp;refine aW hK (S5.o) (λaq=>?_);refine cV [(9,8)] ?_
 iterate 1 refine bj ?_
 refine wpAnyH_done (by kernel_rfl) ?_ _;go_wp2_with fail;go_ret;exact aC H5.o
theorem Pr(s l:Nat)(hs:s<=7)(hl:l<=5)(w:World):
  Calls prog 145 #[.agg #[.int .i64 (s:Nat),.int .i64 (l:Nat)]] w λe w'=>e=.returned (.string (aD s (l+1)))/\Below w.heap.size w w':=by
 have O0:=xh (ae (Below.refl w.heap.size w) (.cells #[.int .i64 (s:Nat),.int .i64 (l:Nat)] 177));have P0:=aE.new w 177 #[.int .i64 (s:Nat),.int .i64 (l:Nat)];have x0:=P0.ab (i:=0) rfl;have x1:=P0.ab (i:=1) rfl;have e1:IntKind.i64.wrap ((l:Int)+1)=((l+1:Nat):Int):=IntWalk.i64_in _ (by omega);have KH:=xh (λ(W:World)=>nP s (l+1) hs (by omega) W);clear P0;go_enter func145,ntmps145;go_wp2_with fail;refine(KH.o _).mono ?_;rintro e w1 ⟨rfl,aJ⟩
 have O1:=xh (au O0.o aJ);clear aJ;go_wp2_with fail;go_ret;exact aC O1.o
variable{w:World}{A:Option Addr}{n c:Nat}{l:List PR}
theorem Up{a b:ByteArray}(h:a≠b):(a.toList==b.toList)=false:=by
 apply beq_eq_false_iff_ne.2;intro e;rw[bu,bu]at e;exact h (iS (nh.1 e))
theorem Ml:∀{l:List PR} {i:Nat} {x:PR},l[i]?=some x->(iu l)[i*2]?=some (.string x.1)/\(iu l)[i*2+1]?=some (.string x.2)
 |[],_,_,h=>by simp at h
 |y::l,0,x,h=>by
  simp only[rR,Option.some.injEq]at h;subst h;exact⟨rfl,rfl⟩
 |y::l,i+1,x,h=>by
  rw[pA]at h;have:=Ml h;have e:iu (y::l)=[.string y.1,.string y.2]++iu l:=rfl;rw[e,dE (by simp;omega),dE (by simp;omega),show(i+1)*2-[Value.string y.1,Value.string y.2].length=i*2 by simp;omega,show(i+1)*2+1-[Value.string y.1,Value.string y.2].length=i*2+1 by simp;omega];exact this
theorem aK.pr(S:aK w 42 2 (.slice A n c) n (iu l)){i:Nat}(hi:i<n):∃g x,A=some ⟨g,0,none⟩/\l[i]?=some x/\n<=c/\c<=maxLen/\w.cell? ⟨g,i*2,none⟩=some (.string x.1)/\w.cell? ⟨g,i*2+1,none⟩=some (.string x.2):=by
 have hl:l.length=n:=by have:=S.1;rw[dH]at this;omega
 obtain⟨g,cap,rest,hv,B,hc,hr⟩:=S.form (by omega) (by omega);injection hv with e1 e2 e3
 subst e1;obtain⟨x,hx⟩:∃x,l[i]?=some x:=⟨_,aT (by omega)⟩;obtain⟨p1,p2⟩:=Ml hx;have uj:c<=maxLen:=by obtain⟨_,_,_,_,h⟩:=S.rp;exact h
 refine⟨g,x,rfl,hx,by omega,uj,?_,?_⟩
 .exact B.ab (by rw[cM,bD (by rw[dH];omega)];exact p1)
 .exact B.ab (by rw[cM,bD (by rw[dH];omega)];exact p2)
theorem p_ne(k v k' v':ByteArray):(k=k'/\v=v')\/(k≠k')\/(k=k'/\v≠v'):=by
 by_cases h1:k=k'
 .by_cases h2:v=v'
  .exact .inl ⟨h1,h2⟩
  .exact .inr (.inr ⟨h1,h2⟩)
 .exact .inr (.inl h1)
theorem gr{A':Option Addr}{n' c':Nat}{l':List PR}(S:aK w 42 2 (.slice A n c) n (iu l))(S':aK w 42 2 (.slice A' n' c') n' (iu l'))(hn:n<=1000000)(hn':n'<=1000000)(b:Bool)(hb:b=true↔l=l'):
  Calls prog 19 #[.slice A n c,.slice A' n' c'] w λr w'=>r=.returned (.bool b)/\Below w.heap.size w w':=by
 have hl:l.length=n:=by have:=S.1;rw[dH]at this;omega
 have ET:l'.length=n':=by have:=S'.1;rw[dH]at this;omega
 have HL:=xh hl;have HL':=xh ET;have H0:=xh S;have H1:=xh S';have HB:=xh hb;clear S S' hb hl ET
 by_cases hnn:n=n'
 .subst hnn;go_enter func19,ntmps19;go_wp2_with fail
  go_loopw [5] (λiv wr=> ∃i:Nat,i<=n/\iv=.int .i64 i/\Hid (∀j:Nat,j<i->l[j]?=l'[j]?)/\Below w.heap.size w wr) (λiv _=>n-(intOf iv).toNat)
  case atStart=>exact⟨0,bm _,rfl,xh (λj h=>absurd h (kF _)),Below.refl _ _⟩
  case round=>
   obtain⟨i,hi,rfl,EQ,O⟩:=hrel
   by_cases h:i<n
   .obtain⟨g,x,rfl,hx,q1,q2,a0,a1⟩:=aK.pr (H0.o.below O) h;obtain⟨g',x',rfl,hx',q1',q2',b0,b1⟩:=aK.pr (H1.o.below O) h;have OO:=xh O;have HE:=xh (And.intro hx hx');have hii:(i:Int)<(n:Int):=by omega
    clear O hx hx';obtain⟨k,v⟩:=x;obtain⟨k',v'⟩:=x';dsimp only at *
    rcases p_ne k v k' v' with⟨rfl,rfl⟩|hd|⟨rfl,hd⟩
    .have HQ:=xh (show ∀j:Nat,j<i+1->l[j]?=l'[j]? from λj hj=>by
      rcases nZ.1 hj with h1|rfl
      .exact EQ.o j h1
      .rw[HE.o.1,HE.o.2])
     go_wp2_with fail;go_quiet (fail);go_wp2_with fail;go_roundw
     case rel=>exact⟨i+1,by omega,by go_num,HQ,cD OO.o _⟩
     case measure=>simp[intOf];omega
    all_goals
     have HD:=xh (show l≠l' from λhx=>by
      have h1:=HE.o.1;rw[hx,HE.o.2]at h1;simp only[Option.some.injEq,Prod.mk.injEq]at h1
      first|exact hd h1.1.symm|exact hd h1.2.symm)
     have hd2:=Up hd;have hd3:=Up (λe=>hd e.symm);go_wp2_with fail;go_quiet (fail);go_wp2_with fail;go_ret;have hbf:b=false:=by
      cases b
      .rfl
      .exact absurd (HB.o.1 rfl) HD.o
     exact⟨by rw[hbf];rfl,cD OO.o _⟩
   .have hii:¬(i:Int)<(n:Int):=by omega
    have e:i=n:=by omega
    subst e;have Ub:b=true:=HB.o.2 (l5 λj=>by
     rcases eT j i with h1|h1
     .exact EQ.o j h1
     .rw[gw (by rw[HL.o];exact h1),gw (by rw[HL'.o];exact h1)])
    have HBT:=xh Ub;have OO:=xh O;clear Ub O;go_wp2_with fail;go_ret;exact⟨by rw[HBT.o];rfl,OO.o⟩
 .have hbf:b=false:=by
   cases b
   .rfl
   .have:=HB.o.1 rfl;rw[this,HL'.o]at HL;exact absurd HL.o.symm hnn
  have hnI:(n:Int)≠(n':Int):=by omega
  have hq:((n:Int) != (n':Int))=true:=by rw[bne_iff_ne];exact hnI
  have ki:((n:Int)==(n':Int))=false:=by rw[beq_eq_false_iff_ne];exact hnI
  have HBT:=xh hbf;clear hbf;go_enter func19,ntmps19;go_wp2_with fail;go_ret;exact⟨by rw[HBT.o];rfl,Below.refl _ _⟩
attribute [local go_sem ↓] bq
variable{w:World}{mb:Nat}{v:Value}{l:List PR}
structure Mp(w:World)(mb:Nat)(v:Value)(l:List PR):Prop where
 b:aE w mb 45 #[v]
 s:aK w 42 2 v l.length (iu l)
 n:l.length<=1000000
theorem Mp.below{w':World}(h:Mp w mb v l)(hb:Below w.heap.size w w'):Mp w' mb v l:=⟨h.b.below hb h.b.lt,h.s.below hb,h.n⟩
def oP:List PR->ByteArray->Nat
 |[],_=>0
 |x::l,k=>if eL x.1 k then oP l k+1 else 0
theorem KZ(k:ByteArray):∀l:List PR,oP l k<=l.length
 |[]=>aj _
 |x::l=>by unfold oP;split;(have:=KZ k l;simp;omega);exact bm _
theorem Uq(k:ByteArray):∀(l:List PR) (i:Nat),i<oP l k->∃x,l[i]?=some x/\eL x.1 k
 |[],i=>λh=>absurd h (by unfold oP;omega)
 |x::l,i=>λh=>by
  unfold oP at h
  split at h
  .rename_i hx
   cases i with
   |zero=>exact⟨x,rfl,hx⟩
   |succ i=>exact Uq k l i (by omega)
  .omega
theorem Ur(k:ByteArray):∀(l:List PR),oP l k<l.length->∃x,l[oP l k]?=some x/\¬eL x.1 k
 |[]=>λh=>absurd h (by simp)
 |x::l=>λh=>by
  unfold oP at h ⊢
  split at h
  .rename_i hx;rw[if_pos hx];exact Ur k l (by simp at h;omega)
  .rename_i hx;rw[if_neg hx];exact⟨x,rfl,hx⟩
def rK(l:List PR)(k:ByteArray):Bool:=match l[oP l k]? with|some x=>decide (x.1=k)|none=>false
theorem EU(a b:ByteArray):Op.bytesLess a.toList b.toList=decide (eL a b):=by rw[bu,bu,Nd.LR];rfl
theorem str_eq(a b:ByteArray):(a.toList==b.toList)=decide (a=b):=by
 rw[bu,bu]
 by_cases h:a=b
 .subst h;simp
 .rw[decide_eq_false h];simp only[beq_eq_false_iff_ne];intro e;exact h (iS (nh.1 e))
theorem prc_at(l:List PR)(i:Nat)(x:PR)(h:l[i]?=some x):(iu l)[i*2]?=some (.string x.1)/\(iu l)[i*2+1]?=some (.string x.2):=by
 induction l generalizing i with
 |nil=>simp at h
 |cons y l ih=>
  have e:iu (y::l)= .string y.1:: .string y.2::iu l:=rfl;rw[e]
  cases i with
  |zero=>simp at h;subst h;exact⟨rfl,rfl⟩
  |succ i=>
   have:=ih i (by simpa using h);rw[show(i+1)*2=i*2+1+1 by omega];simpa using this
theorem Mp.at(h:Mp w mb v l)(i:Nat)(x:PR)(hx:l[i]?=some x):∃g c,v=.slice (some ⟨g,0,none⟩) l.length c/\w.cell? ⟨g,i*2,none⟩=some (.string x.1)/\w.cell? ⟨g,i*2+1,none⟩=some (.string x.2):=by
 have hi:=(aX.1 hx).1;obtain⟨g,c,rest,e,B,_⟩:=h.s.form (by omega) (by omega);obtain⟨h1,h2⟩:=prc_at l i x hx;refine⟨g,c,e,?_,?_⟩
 .rw[B.cell,cM,bD (aX.1 h1).1];exact h1
 .rw[B.cell,cM,bD (aX.1 h2).1];exact h2
theorem wN(key fr til:ByteArray)(w:World):Calls prog 106 #[.string key,.string fr,.string til] w λe w'=>e=.returned (.bool (wL fr til key))/\w=w':=by
 have c1:Op.bytesLess key.toList fr.toList= !decide (nc fr key):=by
  rw[EU];have h:=Nd.Ex fr.data.toList key.data.toList
  by_cases hk:nc fr key
  .rw[decide_eq_true hk,decide_eq_false (by show ¬Nd.cb _ _<0;have:Nd.cb fr.data.toList key.data.toList<=0:=hk;omega)];rfl
  .rw[decide_eq_false hk,decide_eq_true (by show Nd.cb _ _<0;have:¬Nd.cb fr.data.toList key.data.toList<=0:=hk;omega)];rfl
 have c2:=EU key til;have c3:til.toList.isEmpty=decide (til.size=0):=by
  rw[bu]
  by_cases h:til.size=0
  .rw[decide_eq_true h,show til=⟨#[]⟩from iS (Qh h)];rfl
  .rw[decide_eq_false h]
   cases hl:til.data.toList with
   |nil=>exact absurd (show til.data.toList.length=0 by rw[hl];rfl) h
   |cons a b=>rfl
 unfold wL;generalize decide (nc fr key)=a at *;generalize decide (eL key til)=b at *;generalize decide (til.size=0)=d at *
 cases a<;>cases b<;>cases d
 all_goals
  go_enter func106,ntmps106;go_wp2_with fail;go_ret;exact aC (by first|rfl|trivial)
theorem EV(h:Mp w mb v l)(key:ByteArray):
  Calls prog 105 #[.pointer (some ⟨mb,0,none⟩),.string key] w λe w'=>e=.returned (.tuple #[.int .i64 (oP l key:Nat),.bool (rK l key)])/\Below w.heap.size w w':=by
 obtain⟨A,c,rfl⟩:=ao h.s;have x0:=h.b.ab (i:=0) rfl;have hn:=h.n;have HM:=xh h;have HLE:=xh (KZ key l);have sO:=xh (Uq key l);have HAT:=xh (Ur key l);obtain⟨ln,mC⟩:∃ln,l.length=ln:=⟨_,rfl⟩;have DI:=xh mC;obtain⟨at_,hat⟩:∃a,oP l key=a:=⟨_,rfl⟩;have HATE:=xh hat;rw[hat]at HLE sO HAT ⊢;rw[mC]at HLE HAT x0 hn;have O0:=xh (Below.refl w.heap.size w);obtain⟨bb,wY⟩:∃bb,rK l key=bb:=⟨_,rfl⟩;have HBB:=xh wY;rw[wY]
 clear h mC hat wY;go_enter func105,ntmps105;go_wp2_with fail
 go_loopw [6] (λiv wr=> ∃i:Nat,i<=at_/\iv=.int .i64 i/\wr=w) (λiv _=>ln-(intOf iv).toNat)
 case atStart=>exact⟨0,bm _,rfl,rfl⟩
 case round=>
  obtain⟨i,hi,rfl,rfl⟩:=hrel;have hle:=HLE.o
  by_cases h1:i<ln
  .have h1I:(i:Int)<(ln:Int):=by omega
   have ei:IntKind.i64.wrap ((i:Int)+1)=((i+1:Nat):Int):=IntWalk.i64_in _ (by omega)
   by_cases h2:i<at_
   .obtain⟨x,hx,hk⟩:=sO.o i h2;obtain⟨g,c',hv,d0,_⟩:=HM.o.at i x hx;injection hv with mB pk Fc
    subst mB;have c1:=(EU x.1 key).trans (decide_eq_true hk);clear pk Fc hx hk;go_wp2_with fail;go_roundw
    case rel=>exact⟨i+1,by omega,by go_num,by trivial⟩
    case measure=>simp[intOf];omega
   .obtain rfl:i=at_:=by omega
    obtain⟨x,hx,hk⟩:=HAT.o h1;obtain⟨g,c',hv,d0,_⟩:=HM.o.at i x hx;injection hv with mB pk Fc
    subst mB;have c1:=(EU x.1 key).trans (decide_eq_false (by first|exact hk|exact Int.not_lt.2 hk));have c2:=str_eq x.1 key;have bS:bb=decide (x.1=key):=by rw[<-HBB.o];unfold rK;rw[HATE.o,hx]
    rw[<-bS]at c2;clear pk Fc hx hk bS;have S0:=xh (show wr.drew.cell? ⟨mb,0,none⟩=some (.slice (some ⟨g,0,none⟩) ln c)/\wr.drew.cell? ⟨g,i*2,none⟩=some (.string x.1)from⟨x0,d0⟩);go_wp2_with fail;refine wp_region_held_drew (S:=λW=>W.cell? ⟨mb,0,none⟩=some (.slice (some ⟨g,0,none⟩) ln c)/\W.cell? ⟨g,i*2,none⟩=some (.string x.1)) (by kernel_rfl) (S0.o) (λaq=>?_)
    refine cV [(0,28),(1,29),(2,30),(3,31),(4,32),(5,33),(6,34),(7,35),(8,36),(9,37),(10,38),(11,39),(12,40),(13,41),(14,42),(15,43),(16,44),(17,45),(18,46),(19,47),(20,4),(21,5)] ?_
    iterate 22 refine bj ?_
    refine wpAnyH_done (by kernel_rfl) ?_ _;go_wp2_with fail;go_ret2;exact aC O0.o.drew
  .obtain rfl:i=at_:=by omega
   have h1I:¬(i:Int)<(ln:Int):=by omega
   have bS:bb=false:=by
    rw[<-HBB.o];unfold rK;rw[HATE.o,gw (by have:=DI.o;omega)]
   have JV:=xh bS;clear bS;have S0:=xh (show wr.drew.cell? ⟨mb,0,none⟩=some (.slice A ln c)from x0);go_wp2_with fail;refine wp_region_held_drew (S:=λW=>W.cell? ⟨mb,0,none⟩=some (.slice A ln c)) (by kernel_rfl) (S0.o) (λaq=>?_);refine cV [(0,28),(1,29),(2,30),(3,31),(4,32),(5,33),(6,34),(7,35),(8,36)] ?_
   iterate 9 refine bj ?_
   refine cm 9 37 ?_;refine cm 10 38 ?_;refine cm 11 39 ?_;refine cm 12 40 ?_;refine cm 13 41 ?_;refine cm 14 42 ?_;refine cm 15 43 ?_;refine cm 16 44 ?_;refine cm 17 45 ?_;refine cm 18 46 ?_;refine cV [(19,47),(20,4),(21,5)] ?_
   iterate 3 refine bj ?_
   refine wpAnyH_done (by kernel_rfl) ?_ _;go_wp2_with fail;go_ret2;rw[JV.o];exact aC O0.o.drew
variable{w:World}{mb:Nat}{v:Value}{l:List PR}
def cB(l:List PR)(key:ByteArray):ByteArray×Int:=if rK l key=true then(((l[oP l key]?).getD (⟨#[]⟩,⟨#[]⟩)).2,0)else(⟨#[]⟩,9)
def eH(fr til:ByteArray)(n:Int)(l:List PR):List PR:=l.foldl (λo x=>if wL fr til x.1=true/\(o.length:Int)<n then o++[x]else o) []
def lH(fr til:ByteArray)(l:List PR):List PR:=l.filter λx=> !wL fr til x.1
theorem Ak(fr til:ByteArray)(n:Int)(l:List PR)(i:Nat)(x:PR)(h:l[i]?=some x):eH fr til n (l.take (i+1))=if wL fr til x.1=true/\((eH fr til n (l.take i)).length:Int)<n then eH fr til n (l.take i)++[x]else eH fr til n (l.take i):=by
 unfold eH;rw[kD,h,List.foldl_append];rfl
theorem lX(fr til:ByteArray)(n:Int)(l:List PR):∀i,(eH fr til n (l.take i)).length<=i
 |0=>by simp[eH]
 |i+1=>by
  have ih:=lX fr til n l i
  cases h:l[i]? with
  |none=>
   have e:l.take (i+1)=l.take i:=by rw[kD,h];simp
   rw[e];omega
  |some x=>
   rw[Ak fr til n l i x h]
   split
   .rw[aQ];simp;omega
   .omega
theorem Ps(fr til:ByteArray)(l:List PR)(i:Nat)(x:PR)(h:l[i]?=some x):lH fr til (l.take (i+1))=if wL fr til x.1=true then lH fr til (l.take i)else lH fr til (l.take i)++[x]:=by
 unfold lH;rw[kD,h,rP]
 cases hx:wL fr til x.1<;>simp[hx]
theorem Us(fr til:ByteArray)(l:List PR)(i:Nat):(lH fr til (l.take i)).length<=i:=by
 unfold lH;exact ay (yb _ _) (by rw[bK];omega)
theorem Hn(h:Mp w mb v l)(key:ByteArray):
  Calls prog 107 #[.pointer (some ⟨mb,0,none⟩),.string key] w λe w'=>e=.returned (.tuple #[.string (cB l key).1,.int .i64 (cB l key).2])/\Below w.heap.size w w':=by
 have KA:=xh (EV h key);unfold cB
 cases hb:rK l key with
 |false=>
  rw[hb]at KA;rw[if_neg (by simp)];clear h hb;go_enter func107,ntmps107;go_wp2_with fail;refine KA.o.mono ?_;rintro e w1 ⟨rfl,aJ⟩;have O1:=xh aJ;clear aJ;go_wp2_with fail;go_ret2;exact aC O1.o
 |true=>
  rw[hb]at KA;rw[if_pos rfl];obtain⟨x,hx⟩:∃x,l[oP l key]?=some x:=by
   cases hx:l[oP l key]? with
   |none=>unfold rK at hb;rw[hx]at hb;cases hb
   |some x=>exact⟨x,rfl⟩
  rw[hx];have dV:=(aX.1 hx).1;have hn:=h.n;have HM:=xh h;have HX:=xh hx;obtain⟨k,hk⟩:∃k,oP l key=k:=⟨_,rfl⟩;obtain⟨ln,mC⟩:∃ln,l.length=ln:=⟨_,rfl⟩;have DI:=xh mC;rw[hk]at KA HX dV;rw[mC]at dV hn;have hltI:(k:Int)<(ln:Int):=by omega
  dsimp only[Option.getD];clear h hb hx hk mC;go_enter func107,ntmps107;go_wp2_with fail;refine KA.o.mono ?_;rintro e w1 ⟨rfl,aJ⟩;have O1:=xh aJ;have M1:=HM.o.below aJ;have x0:=M1.b.ab (i:=0) rfl;obtain⟨g,c,rfl,d0,d1⟩:=M1.at k x HX.o;rw[DI.o]at x0;clear aJ M1;go_wp2_with fail;go_ret2;exact aC O1.o
theorem CJ(h:Mp w mb v l)(fr til:ByteArray)(n:Int):
  Calls prog 108 #[.pointer (some ⟨mb,0,none⟩),.string fr,.string til,.int .i64 n] w λe w'=> ∃v',e=.returned v'/\aK w' 42 2 v' (eH fr til n l).length (iu (eH fr til n l))/\Below w.heap.size w w'/\(∀g∈ah v',w.heap.size<=g):=by
 obtain⟨A,c,rfl⟩:=ao h.s;have hn:=h.n;have HM:=xh h;obtain⟨ln,mC⟩:∃ln,l.length=ln:=⟨_,rfl⟩;have DI:=xh mC;rw[mC]at hn;have x0:=h.b.ab (i:=0) rfl;rw[mC]at x0;have KW:=xh wN;have HSU:=xh (Ak fr til n l);have Fe:=xh (lX fr til n l);have HF:=xh (show eH fr til n l=eH fr til n (l.take ln) by rw[<-mC,gY]);have HO0:=xh (show eH fr til n (l.take 0)=[]from rfl);clear h mC
 go_enter func108,ntmps108;go_wp2_with fail
 go_loopw [9,10] (λov iv wr=> ∃(i:Nat) (out:List PR),i<=ln/\iv=.int .i64 i/\Hid (eH fr til n (l.take i)=out)/\aK wr 42 2 ov out.length (iu out)/\Hid (Below w.heap.size w wr)/\Hid (∀g∈ah ov,w.heap.size<=g)) (λ_ iv _=>ln-(intOf iv).toNat)
 case atStart=>exact⟨0,[],bm _,rfl,HO0,aK.nil _ _ _,xh (Below.refl _ _),xh (by simp[ah])⟩
 case round=>
  obtain⟨i,out,hi,rfl,HO,S,O,FO⟩:=hrel;clear x0;have x0:=(HM.o.below O.o).b.ab (i:=0) rfl;rw[DI.o]at x0;obtain⟨VO,co,rfl⟩:=ao S;have hol:=Fe.o i;rw[HO.o]at hol
  by_cases h1:i<ln
  .have h1I:(i:Int)<(ln:Int):=by omega
   obtain⟨x,HX⟩:∃x,Hid (l[i]?=some x):=⟨_,xh (aT (by rw[DI.o];exact h1))⟩;obtain⟨g,c',hv,d0,d1⟩:=(HM.o.below O.o).at i x HX.o;injection hv with mB pk Fc
   subst mB;clear pk Fc;have ei:IntKind.i64.wrap ((i:Int)+1)=((i+1:Nat):Int):=IntWalk.i64_in _ (by omega);have hs:=HSU.o i x HX.o;rw[HO.o]at hs
   by_cases h2:wL fr til x.1=true
   .by_cases h3:(out.length:Int)<n
    .rw[if_pos ⟨h2,h3⟩]at hs;have HO7:=xh hs;have FD:=xh (KW.o x.1 fr til wr);rw[h2]at FD;clear hs h2;go_wp2_with fail;refine FD.o.mono ?_;rintro e _ ⟨rfl,rfl⟩;obtain⟨v',w7,ea,S7,o7,f7⟩:=vJ S x.1 x.2 (by omega);obtain⟨V7,c7,rfl⟩:=ao S7;have hpr:iu out++[Value.string x.1,Value.string x.2]=iu (out++[x]):=by rw[ri];rfl
     rw[hpr]at S7;have S7:=xh (show aK w7 42 2 (.slice V7 (out.length+1) c7) (out++[x]).length (iu (out++[x]))from by rw[aQ];exact S7);have O7:=xh (O.o.trans (o7.aO O.o.size FO.o));have F7:=xh (show ∀g'∈ah (.slice V7 (out.length+1) c7),w.heap.size<=g' from λg' hg=>(f7 g' hg).elim (FO.o g') (λh=>ay O.o.size h));have EA:=xh ea;clear ea o7 f7 hpr S;generalize out.length=ol at *;go_wp2_with fail;rw[EA.o];go_wp2_with fail
     go_roundw
     case rel=>exact⟨i+1,out++[x],by omega,by go_num,HO7,S7.o,O7,F7⟩
     case measure=>simp[intOf];omega
    .rw[if_neg (λh=>h3 h.2)]at hs;have HO7:=xh hs;have FD:=xh (KW.o x.1 fr til wr);rw[h2]at FD;have S7:=xh S;clear hs h2 S;go_wp2_with fail;refine FD.o.mono ?_;rintro e _ ⟨rfl,rfl⟩;go_wp2_with fail;go_roundw
     case rel=>exact⟨i+1,out,by omega,by go_num,HO7,S7.o,O,FO⟩
     case measure=>simp[intOf];omega
   .rw[if_neg (λh=>h2 h.1)]at hs;have HO7:=xh hs;have FD:=xh (KW.o x.1 fr til wr);rw[CT]at h2;rw[h2]at FD;have S7:=xh S;clear hs h2 S;go_wp2_with fail;refine FD.o.mono ?_;rintro e _ ⟨rfl,rfl⟩;go_wp2_with fail;go_roundw
    case rel=>exact⟨i+1,out,by omega,by go_num,HO7,S7.o,O,FO⟩
    case measure=>simp[intOf];omega
  .have h1I:¬(i:Int)<(ln:Int):=by omega
   obtain rfl:i=ln:=by omega
   have S7:=xh S;have hf:=HF.o;rw[HO.o]at hf;have HF7:=xh hf;clear S hf;go_wp2_with fail;go_ret;rw[HF7.o];exact⟨_,by first|rfl|simp,S7.o,O.o,FO.o⟩
theorem sL(h:Mp w mb v l)(fr til:ByteArray):
  Calls prog 56 #[.pointer (some ⟨mb,0,none⟩),.string fr,.string til] w λe w'=>e=.returned (.int .i64 ((l.length:Int)-(lH fr til l).length))/\∃v',Mp w' mb v' (lH fr til l)/\ag [mb] w w'/\(∀g∈ah v',w.heap.size<=g):=by
 obtain⟨A,c,rfl⟩:=ao h.s;have hn:=h.n;have HM:=xh h;obtain⟨ln,mC⟩:∃ln,l.length=ln:=⟨_,rfl⟩;have DI:=xh mC;rw[mC]at hn;have x0:=h.b.ab (i:=0) rfl;rw[mC]at x0;have KW:=xh wN;have HMB:=xh h.b.lt;have HSU:=xh (Ps fr til l);have Fe:=xh (Us fr til l);have HF:=xh (show lH fr til l=lH fr til (l.take ln) by rw[<-mC,gY]);have HO0:=xh (show lH fr til (l.take 0)=[]from rfl);clear h mC
 go_enter func56,ntmps56;go_wp2_with fail
 go_loopw [7,8] (λov iv wr=> ∃(i:Nat) (out:List PR),i<=ln/\iv=.int .i64 i/\Hid (lH fr til (l.take i)=out)/\aK wr 42 2 ov out.length (iu out)/\Hid (Below w.heap.size w wr)/\Hid (∀g∈ah ov,w.heap.size<=g)) (λ_ iv _=>ln-(intOf iv).toNat)
 case atStart=>exact⟨0,[],bm _,rfl,HO0,aK.nil _ _ _,xh (Below.refl _ _),xh (by simp[ah])⟩
 case round=>
  obtain⟨i,out,hi,rfl,HO,S,O,FO⟩:=hrel;clear x0;have BB:=(HM.o.below O.o).b;have x0:=BB.ab (i:=0) rfl;have f0:=BB.frozen 0 (by simp);rw[DI.o]at x0;obtain⟨VO,co,rfl⟩:=ao S;have hol:=Fe.o i;rw[HO.o]at hol
  by_cases h1:i<ln
  .have h1I:(i:Int)<(ln:Int):=by omega
   clear f0 BB;obtain⟨x,HX⟩:∃x,Hid (l[i]?=some x):=⟨_,xh (aT (by rw[DI.o];exact h1))⟩;obtain⟨g,c',hv,d0,d1⟩:=(HM.o.below O.o).at i x HX.o;injection hv with mB pk Fc
   subst mB;clear pk Fc;have ei:IntKind.i64.wrap ((i:Int)+1)=((i+1:Nat):Int):=IntWalk.i64_in _ (by omega);have hs:=HSU.o i x HX.o;rw[HO.o]at hs
   by_cases h2:wL fr til x.1=true
   .rw[if_pos h2]at hs;have HO7:=xh hs;have FD:=xh (KW.o x.1 fr til wr);rw[h2]at FD;have S7:=xh S;clear hs h2 S;go_wp2_with fail;refine FD.o.mono ?_;rintro e _ ⟨rfl,rfl⟩;go_wp2_with fail;go_roundw
    case rel=>exact⟨i+1,out,by omega,by go_num,HO7,S7.o,O,FO⟩
    case measure=>simp[intOf];omega
   .rw[if_neg h2]at hs;have HO7:=xh hs;have FD:=xh (KW.o x.1 fr til wr);rw[CT]at h2;rw[h2]at FD;clear hs h2;go_wp2_with fail;refine FD.o.mono ?_;rintro e _ ⟨rfl,rfl⟩;obtain⟨v',w7,ea,S7,o7,f7⟩:=vJ S x.1 x.2 (by omega);obtain⟨V7,c7,rfl⟩:=ao S7;have hpr:iu out++[Value.string x.1,Value.string x.2]=iu (out++[x]):=by rw[ri];rfl
    rw[hpr]at S7;have S7:=xh (show aK w7 42 2 (.slice V7 (out.length+1) c7) (out++[x]).length (iu (out++[x]))from by rw[aQ];exact S7);have O7:=xh (O.o.trans (o7.aO O.o.size FO.o));have F7:=xh (show ∀g'∈ah (.slice V7 (out.length+1) c7),w.heap.size<=g' from λg' hg=>(f7 g' hg).elim (FO.o g') (λh=>ay O.o.size h));have EA:=xh ea;clear ea o7 f7 hpr S;generalize out.length=ol at *;go_wp2_with fail;rw[EA.o];go_wp2_with fail
    go_roundw
    case rel=>exact⟨i+1,out++[x],by omega,by go_num,HO7,S7.o,O7,F7⟩
    case measure=>simp[intOf];omega
  .have h1I:¬(i:Int)<(ln:Int):=by omega
   obtain rfl:i=ln:=by omega
   have hf:=HF.o;rw[HO.o]at hf;have e1:IntKind.i64.wrap ((i:Int)-(out.length:Int))=(i:Int)-(out.length:Int):=IntWalk.i64_in _ (by omega);have eV:=cC S BB (by decide);have o1:ag [mb] wr (wr.setCell ⟨mb,0,none⟩ (.slice VO out.length co)):=(ag.refl _ _).setCell (by simp) _;have M7:=xh (show Mp (wr.setCell ⟨mb,0,none⟩ (.slice VO out.length co)) mb (.slice VO out.length co) out from⟨BB.bG 0 _,S.only o1 (λg hg hm=>eV (by rw[<-aP.1 hm];exact hg)),by omega⟩)
   have O7:=xh ((ag.ai (S:=[mb]) O.o).trans o1);have HF7:=xh hf;clear S hf eV o1 BB;obtain⟨ol,hol2⟩:∃ol,out.length=ol:=⟨_,rfl⟩;have HOL:=xh hol2;rw[hol2]at e1 M7 O7 FO ⊢;clear hol2 hol;go_wp2_with fail;go_ret;rw[HF7.o,DI.o,HOL.o];exact aC ⟨_,M7.o,O7.o,FO.o⟩
end Sh
namespace Sh
open Go.RowKit Pk Dk Pg
variable{k':Nat}
def Pu(i:Nat):Nat:=if i<=15 then 3 ^ i*2 ^ (15-i)else 0
theorem EW:Kk Pu 0:=λi=>by
 unfold Pu
 by_cases h:i+1<=15
 .rw[if_pos h,if_pos (by omega),show 15-i=(15-(i+1))+1 by omega,xA,xA];generalize 3 ^ i=a;generalize 2 ^ (15-(i+1))=b;have e1:a*3*b=3*(a*b):=by rw[tg a 3,Dq]
  have e2:a*(b*2)=2*(a*b):=by rw[<-Dq,tg]
  omega
 .rw[if_neg h];omega
theorem Mm:Pu 0=32768:=by decide+kernel
theorem Ut:Pu 15=14348907:=by decide+kernel
def TL(v:Vw)(l:List PR)(k:Nat):Prop:= ∃H M,Tree v H M/\iR M=l/\H<=15/\ef Pu (aI v H 0)<=k*2588672/\l.length<=k/\∀x∈l,x.1.size<=32
theorem TL.le{v:Vw}{l:List PR}{k:Nat}(h:TL v l k)(hk:k<=k'):TL v l k':=by
 obtain⟨H,M,a,b,c,d,e⟩:=h;exact⟨H,M,a,b,c,ay d (Dr _ hk),by omega,e.2⟩
def TI(q:QS)(l o:List PR)(mm k:Nat):Prop:= ∃v vo u,Rd q v vo u mm/\TL v l k/\TL vo o k
def TJ(q:QS)(o:List PR)(mm k:Nat):Prop:= ∃v vo u,Rd q v vo u mm/\TL vo o k
theorem filt2{α:Type}{p r:α->Bool}(h:∀x,p x=true->r x=false):∀l:List α,(l.filter p).length+(l.filter r).length<=l.length
 |[]=>aj _
 |x::l=>by
  have ih:=filt2 h l;rw[fL,fL]
  by_cases hp:p x=true
  .rw[if_pos hp,h x hp,if_neg (by simp)];simp only[ff];omega
  .rw[if_neg hp]
   split<;>simp only[ff]<;>omega
theorem Al(l:List PR)(key:ByteArray):(px l key).length+(jD l key).length<=l.length:=filt2 (λx hx=>decide_eq_false λh=>fI (ev (of_decide_eq_true hx) h)) l
section
variable{q:QS}{l o:List PR}{mm k:Nat}
theorem TJ.le(h:TJ q o mm k)(hk:k<=k'):TJ q o mm k':=by
 obtain⟨v,vo,u,R,To⟩:=h;exact⟨v,vo,u,R,To.le hk⟩
theorem TI.le(h:TI q l o mm k)(hk:k<=k'):TI q l o mm k':=by
 obtain⟨v,vo,u,R,Tl,To⟩:=h;exact⟨v,vo,u,R,Tl.le hk,To.le hk⟩
theorem TI.set(h:TI q l o mm k)(key value:ByteArray)(hk:key.size<=32)(hv:value.size<=1024)(hn:k<100):
  ((q.fQ key value).2=11/\TJ (q.fQ key value).1 o mm k)\/((q.fQ key value).2=0/\TI (q.fQ key value).1 (nO l key value) o mm (k+1)):=by
 obtain⟨v,vo,u,R,⟨H,M,T,rfl,hH,hp,hl⟩,To⟩:=h;have hl1:=hl.1
 rcases vK R T hH key value hk hv with⟨a,v',u',b,_⟩|⟨a,v',H',M',new,A,C,B,hh,c,b,S,hm⟩
 .exact .inl ⟨a,v',vo,u',b,To⟩
 .have hx:(if value.size<=40 then value.size else 0)<=40:=by split<;>omega
  have p1:=S.Cy Pu 0 EW;rw[Mm,n7,show(if H'=H then 0 else 0)=0 by split<;>rfl]at p1;refine .inr ⟨a,v',vo,u+new,b,⟨H',M',S.t,hm,?_,by omega,?_,?_⟩,To.le (by omega)⟩
  .rcases S.h with e|⟨e,f⟩
   .omega
   .by_cases h15:H=15
    .have p2:=f Pu 0 EW;rw[h15,Ut,Mm]at p2;rw[h15]at hp;omega
    .omega
  .have:=Al (iR M) key;unfold nO;simp only[aQ,ff];omega
  .intro x hx;unfold nO at hx
   rcases az.1 hx with hx|hx
   .exact hl.2 x (dS.1 hx).1
   .rcases ar.1 hx with rfl|hx
    .exact hk
    .exact hl.2 x (dS.1 hx).1
end
theorem T0_pot:ef Pu (aI ES 0 0)<=0:=by
 have AF:ik ES 0=(true,[],0):=by unfold ES;rw[fU lay0,if_pos rfl];rfl
 unfold aI;rw[AF];decide
theorem rk(key:ByteArray):∀l:List PR,l.Pairwise (λa b=>eL a.1 b.1)->
  l.take (oP l key)=px l key/\l.drop (if rK l key=true then oP l key+1 else oP l key)=jD l key/\(rK l key=true↔ng l key≠[])/\cB l key=G8 (ng l key)
 |[],_=>⟨rfl,by simp[jD],by simp[rK,ng],by simp[cB,rK,ng,G8]⟩
 |x::l,hs=>by
  obtain⟨h1,h2⟩:=dJ.1 hs
  by_cases hx:eL x.1 key
  .obtain⟨a,b,c,d⟩:=rk key l h2;have e1:oP (x::l) key=oP l key+1:=by show(if eL x.1 key then _ else _)=_;rw[if_pos hx]
   have e2:rK (x::l) key=rK l key:=by unfold rK;rw[e1,pA]
   have e3:ng (x::l) key=ng l key:=by unfold ng;rw[fL,if_neg (by simpa using kt hx)]
   refine⟨?_,?_,by rw[e2,e3];exact c,?_⟩
   .rw[e1,mJ,a];unfold px;rw[fL,if_pos (by simpa using hx)]
   .have e4:(if rK l key=true then oP l key+1+1 else oP l key+1)=(if rK l key=true then oP l key+1 else oP l key)+1:=by split<;>rfl
    rw[e2,e1,e4,xW,b];unfold jD;rw[fL,if_neg (by simpa using λh=>fI (ev hx h))]
   .rw[e3,<-d];unfold cB;rw[e2,e1,pA]
  .have e1:oP (x::l) key=0:=by show(if eL x.1 key then _ else _)=_;rw[if_neg hx]
   have hy:∀y∈l,eL key y.1:=λy hy=>iN (km hx) (h1 y hy);have e2:rK (x::l) key=decide (x.1=key):=by unfold rK;rw[e1];rfl
   have l1:px (x::l) key=[]:=by
    unfold px;refine filter_none λy hm=>decide_eq_false ?_
    rcases ar.1 hm with rfl|hm
    .exact hx
    .exact λh=>fI (ev h (hy y hm))
   have l2:jD l key=l:=filter_all λy hm=>decide_eq_true (hy y hm);have l3:ng l key=[]:=filter_none λy hm=>decide_eq_false λe=>kt (hy y hm) e.symm;refine⟨by rw[e1,l1];rfl,?_⟩
   by_cases hk:x.1=key
   .have e3:ng (x::l) key=[x]:=by
     have l3':=l3;unfold ng at l3' ⊢;rw[fL,if_pos (by simpa using hk),l3']
    rw[e1,e2,e3,decide_eq_true hk,if_pos rfl];refine⟨?_,by simp,?_⟩
    .show l=_;unfold jD;rw[fL,if_neg (by simpa using λh=>kt h hk.symm)];exact l2.symm
    .unfold cB;rw[e2,decide_eq_true hk,if_pos rfl,e1];rfl
   .have hkx:eL key x.1:=(nK (km hx)).resolve_right λe=>hk e.symm;have e3:ng (x::l) key=[]:=by
     have l3':=l3;unfold ng at l3' ⊢;rw[fL,if_neg (by simpa using hk),l3']
    rw[e1,e2,e3,decide_eq_false hk,if_neg (by simp)];refine⟨?_,by simp,?_⟩
    .show x::l=_;have l2':=l2;unfold jD at l2' ⊢;rw[fL,if_pos (by simpa using hkx),l2']
    .unfold cB;rw[e2,decide_eq_false hk,if_neg (by simp)];rfl
theorem Mn(fr til:ByteArray)(n:Int)(l:List PR):eH fr til n l=(l.filter (jZ fr til)).take n.toNat:=by
 have h:∀(l o:List PR),l.foldl (λo x=>if wL fr til x.1=true/\(o.length:Int)<n then o++[x]else o) o=o++(l.filter (jZ fr til)).take (n-(o.length:Nat)).toNat:=by
  intro l
  induction l with
  |nil=>intro o;simp
  |cons x l ih=>
   intro o;rw[Db,ih,fL];have hi:jZ fr til x=wL fr til x.1:=rfl
   by_cases h1:wL fr til x.1=true
   .rw[hi,if_pos h1]
    by_cases h2:(o.length:Int)<n
    .rw[if_pos ⟨h1,h2⟩,cL,aQ]
     congr 1
     rw[show(n-((o.length:Nat):Int)).toNat=(n-((o.length+[x].length:Nat):Int)).toNat+1 by simp;omega];rfl
    .rw[if_neg (λh=>h2 h.2),show(n-((o.length:Nat):Int)).toNat=0 by omega];simp
   .rw[hi,if_neg (λh=>h1 h.1),if_neg h1]
 unfold eH;rw[h l []];simp
theorem out_eq(fr til:ByteArray)(l:List PR):lH fr til l=l.filter (λx=> !jZ fr til x):=rfl
theorem Pv(fr til:ByteArray)(l:List PR):(l.length:Int)-(lH fr til l).length=((l.filter (jZ fr til)).length:Nat):=by
 have h:∀l:List PR,(lH fr til l).length+(l.filter (jZ fr til)).length=l.length:=by
  intro l
  induction l with
  |nil=>rfl
  |cons x l ih=>
   unfold lH at ih ⊢;have hi:jZ fr til x=wL fr til x.1:=rfl;rw[fL,fL,hi]
   cases wL fr til x.1<;>simp<;>omega
 have:=h l;omega
theorem Uu(fr til:ByteArray)(l:List PR)(hl:l.length<=1000000){n:Int}(hn:1000000<=n):eH fr til n l=l.filter (jZ fr til):=by
 rw[Mn,bY];have:=yb (jZ fr til) l;omega
open Go.RowKit
variable{i n:Nat}{v:Value}{w:World}{rs:List Nat}
section
variable{P:Program}{ops:Array Oper}{Q:Exit->Act->World->Prop}{md:Region.Mode}{S:World->Prop}{L:Nat}
def Pw(P:Program)(md:Region.Mode)(ops:Array Oper)(Q:Exit->Act->World->Prop)(S:World->Prop)(L:Nat):Nat->Array Bool->Act->World->Prop
 |0,c,a,w=>Region.ready md ops c=[]/\Q .normal a w
 |n+1,c,a,w=>(Region.ready md ops c=[]->Q .normal a w)/\∀i∈Region.ready md ops c,wpOp P ops Q i (λa' w'=>(i≠L->S w')/\Pw P md ops Q S L n (c.setIfInBounds i true) a' w') a w
theorem Mo:∀(n:Nat) (c:Array Bool) (a:Act) (w:World),Pw P md ops Q S L n c a w->wpAny P md ops Q n c a w
 |0,_,_,_,h=>h
 |n+1,_,_,_,h=>⟨h.1,λi hi=>wpOp_mono (λa' w' x=>Mo n _ a' w' x.2) (h.2 i hi)⟩
def EY(md:Region.Mode)(ops:Array Oper)(L i:Nat):Bool:=match ops[L]? with|some o=>o.after.any λe=>Region.binds md e && e.on==i|none=>false
theorem K8(h:EY md ops L i=true):∃o e,ops[L]?=some o/\e∈o.after/\Region.binds md e=true/\e.on=i:=by
 unfold EY at h
 cases ho:ops[L]? with
 |none=>rw[ho]at h;cases h
 |some o=>
  rw[ho]at h;rw[Array.any_eq_true']at h;obtain⟨e,he,hb⟩:=h;rw[gH,beq_iff_eq]at hb;exact⟨o,e,rfl,he,hb.1,hb.2⟩
theorem CK{oi:Oper}(hi:ops[i]?=some oi)(hsel:∀(j:Nat) (o:Oper) cs b,ops[j]?=some o->o.op≠ .select cs b)
 (hQ:∀c a w,Q (.panic c) (a.put oi.dst v) w->Q (.panic c) a w)(hL:EY md ops L i=true):∀(n:Nat) (c:Array Bool) (a:Act) (w:World),
  (∀j oj,ops[j]?=some oj->j≠i->c.getD j true=false->(∀e∈oj.after,Region.binds md e=true->e.on≠i)->oi.apart ops oj=true)->
  i∈Region.ready md ops c->YieldsIf P ops S oi v a->S w->Pw P md ops Q S L n (c.setIfInBounds i true) (a.put oi.dst v) w->Pw P md ops Q S L (n+1) c a w
 |0,c,a,w,_,hr,hy,hS,H=>by
  refine⟨λh=>(by rw[h]at hr;cases hr),λj hj=>?_⟩
  by_cases QV:j=i
  .subst QV;exact hy.wpOp hi hS ⟨λ_=>hS,H⟩
  .have:=ready_mono hj QV;rw[H.1]at this
   cases this
 |n+1,c,a,w,hfree,hr,hy,hS,H=>by
  refine⟨λh=>(by rw[h]at hr;cases hr),λj hj=>?_⟩
  by_cases QV:j=i
  .subst QV;exact hy.wpOp hi hS ⟨λ_=>hS,H⟩
  .obtain⟨hun,oj,hoj,iV⟩:=mem_ready.1 hj;have hnot:∀e∈oj.after,Region.binds md e=true->e.on≠i:=λe he hb heq=>by
    have h1:=iV e he hb;have h0:=(mem_ready.1 hr).1;rw[heq]at h1
    rcases eT i c.size with h'|h'
    .simp[h']at h0 h1;rw[h0]at h1;cases h1
    .simp[Qi h']at h1
   have hjL:j≠L:=λe=>by
    obtain⟨o,x,x1,x2,x3,x4⟩:=K8 hL;rw[<-e,hoj]at x1;injection x1 with x1
    subst x1;exact hnot x x2 x3 x4
   refine wpOp_mono (λa' w' x=>?_) (wpOp_putIf hoj (hfree j oj hoj QV hun hnot) (λcs b=>hsel i oi cs b hi) (λcs b=>hsel j oj cs b hoj) hQ hy (H.2 j (ready_mono hj QV)));obtain⟨x1,x2,x3⟩:=x;refine⟨λ_=>x2 hjL,CK hi hsel hQ hL n _ a' w' (λk ok hk hki hu tC=>hfree k ok hk hki ?_ tC) (ready_mono hr (Ne.symm QV)) x1 (x2 hjL) ?_⟩
   .by_cases hjk:j=k
    .subst hjk;exact hun
    .rw[getD_set_ne true hjk]at hu;exact hu
   .rw[Array.setIfInBounds_comm _ _ QV];exact x3
theorem fW{l:List (Nat×Nat)}{d:Nat}{x1 x2 x3 x4 x5}{c:Array Bool}{a a':Act}(h:Zpl l (Pw P md ops Q S L n (c.setIfInBounds i true) a' w))
 (hi:ops[i]?=some ⟨some d,x1,x2,x3,x4,x5⟩:=by rfl)
 (hb:(Region.noSelect ops && (Region.free md ops c i && ((Region.ready md ops c).contains i && (Region.wanted ⟨some d,x1,x2,x3,x4,x5⟩ (yielded ops a.tmps) && EY md ops L i))))=true:=by kernel_rfl)
 (hQ:∀c a w,Q (.panic c) (a.put (some d) v) w->Q (.panic c) a w:=by exact λ_ _ _ h=>h)(hS:S w:=by assumption)
 (y:∀w,S w->(execOp a.eval ⟨some d,x1,x2,x3,x4,x5⟩).run P w=.ok (.value v) w:=by intro w hS;(try dsimp only at hS);go_simp;try with_reducible rfl)
 (ha:a.put (some d) v=a':=by simp only[Act.put,pa,pb,pc];exact rfl):Zpl ((i,d)::l) (Pw P md ops Q S L (n+1) c a w):=by
 subst ha;simp only[gH]at hb;obtain⟨b1,b2,b3,b4,b5⟩:=hb;exact CK hi (Region.noSelect_spec b1) hQ b5 n c a w (Region.free_spec hi b2) (by simpa using b3) (.inl ⟨b4,y⟩) hS h
def eS(P:Program)(md:Region.Mode)(ops:Array Oper)(Q:Exit->Act->World->Prop)(S:World->Prop)(L n:Nat)(c:Array Bool)(a:Act)(w:World)(rs:List Nat):Prop:=
 ∀i∈rs,wpOp P ops Q i (λa' w'=>(i≠L->S w')/\Pw P md ops Q S L n (c.setIfInBounds i true) a' w') a w
theorem eS.nil{c:Array Bool}{a:Act} :eS P md ops Q S L n c a w []:=λ_ h=>by cases h
theorem eS.cons{c:Array Bool}{a:Act}{o:Oper} 
 (h:∀K':Act->World->Prop,Shut (∀a w,(i≠L->S w)->((i≠L->S w)->Pw P md ops Q S L n (c.setIfInBounds i true) a w)->K' a w)->if Region.wanted o (yielded ops a.tmps)=true then Oper.wp P o a w K' Q else K' (a.put o.dst undef) w)
 (hs:eS P md ops Q S L n c a w rs)(ho:ops[i]?=some o:=by rfl):eS P md ops Q S L n c a w (i::rs):=λj hj=>by
 rcases ar.1 hj with rfl|hj
 .exact wpOp_step ho (λK' hK=>h K' (λa w hS hW=>hK a w ⟨hS,hW hS⟩))
 .exact hs j hj
theorem kx{c:Array Bool}{a:Act}(hr:Region.ready md ops c=rs)(eV:rs≠[])(h:eS P md ops Q S L n c a w rs):Pw P md ops Q S L (n+1) c a w:=⟨λh0=>absurd (hr▸h0) eV,hr▸h⟩
theorem bx{c:Array Bool}{a:Act}(i:Nat){o:Oper}
 (h:∀K':Act->World->Prop,Shut (∀a w,(i≠L->S w)->((i≠L->S w)->Pw P md ops Q S L n (c.setIfInBounds i true) a w)->K' a w)->if Region.wanted o (yielded ops a.tmps)=true then Oper.wp P o a w K' Q else K' (a.put o.dst undef) w)
 (hr:Region.ready md ops c=[i]:=by kernel_rfl)(ho:ops[i]?=some o:=by rfl):Pw P md ops Q S L (n+1) c a w:=kx hr (by simp) (eS.cons h eS.nil ho)
theorem jc{c:Array Bool}{a:Act}(hr:Region.ready md ops c=[])(h:Q .normal a w):∀n,Pw P md ops Q S L n c a w
 |0=>⟨hr,h⟩
 |_+1=>⟨λ_=>h,by rw[hr];simp⟩
theorem oQ{id:Nat}{a:Act}(L:Nat)(hm:P.follows .mixedOrders=true)(hS:S w.drew)
 (h:S w.drew->Pw P .any ops Q S L ops.size (Array.replicate ops.size false) a w.drew):(Code.region id ops true).wp P Q a w:=wp_region_any hm (Mo _ _ _ _ (h hS))
end
end Sh
end Go.Proofs.YtmonobkginiajaaGreat
