/- packed. -/
import Derived.Test.YtmonobkginiajaaGreatB12
set_option linter.all false
set_option maxRecDepth 100000
set_option maxHeartbeats 8000000
namespace Go.Proofs.YtmonobkginiajaaGreat
open Go.Proofs.Tryz
namespace Sh
open Go.RowKit Pk Dk Pg
attribute [local go_sem ↓] Go.wp_at_zero Go.wp_at_succ
variable{w:World}{A:Option Addr}{n c:Nat}{l:List PR}
theorem toLb2{a b:ByteArray}(h:a≠b):(a.toList==b.toList)=false:=by
 apply beq_eq_false_iff_ne.2;intro e;rw[cf,cf]at e;exact h (mr (rP.1 e))
theorem OE:∀{l:List PR} {i:Nat} {x:PR},l[i]?=some x->(ku l)[i*2]?=some (.string x.1)/\(ku l)[i*2+1]?=some (.string x.2)
 |[],_,_,h=>by simp at h
 |y::l,0,x,h=>by
  simp only[yI,Option.some.injEq]at h;subst h;exact⟨rfl,rfl⟩
 |y::l,i+1,x,h=>by
  rw[vi]at h;have:=OE h;have e:ku (y::l)=[.string y.1,.string y.2]++ku l:=rfl;rw[e,dW (by simp;omega),dW (by simp;omega),show(i+1)*2-[Value.string y.1,Value.string y.2].length=i*2 by simp;omega,show(i+1)*2+1-[Value.string y.1,Value.string y.2].length=i*2+1 by simp;omega];exact this
theorem aT.pr(S:aT w 42 2 (.slice A n c) n (ku l)){i:Nat}(hi:i<n):∃g x,A=some ⟨g,0,none⟩/\l[i]?=some x/\n<=c/\c<=maxLen/\w.cell? ⟨g,i*2,none⟩=some (.string x.1)/\w.cell? ⟨g,i*2+1,none⟩=some (.string x.2):=by
 have hl:l.length=n:=by have:=S.1;rw[eh]at this;omega
 obtain⟨g,cap,rest,hv,B,hc,hr⟩:=S.form (by omega) (by omega);injection hv with e1 e2 e3
 subst e1;obtain⟨x,hx⟩:∃x,l[i]?=some x:=⟨_,aL (by omega)⟩;obtain⟨p1,p2⟩:=OE hx;have tC:c<=maxLen:=by obtain⟨_,_,_,_,h⟩:=S.tx;exact h
 refine⟨g,x,rfl,hx,by omega,tC,?_,?_⟩
 .exact B.ab (by rw[dj,bF (by rw[eh];omega)];exact p1)
 .exact B.ab (by rw[dj,bF (by rw[eh];omega)];exact p2)
theorem p_ne(k v k' v':ByteArray):(k=k'/\v=v')\/(k≠k')\/(k=k'/\v≠v'):=by
 by_cases h1:k=k'
 .by_cases h2:v=v'
  .exact .inl ⟨h1,h2⟩
  .exact .inr (.inr ⟨h1,h2⟩)
 .exact .inr (.inl h1)
theorem mP{A':Option Addr}{n' c':Nat}{l':List PR}(S:aT w 42 2 (.slice A n c) n (ku l))(S':aT w 42 2 (.slice A' n' c') n' (ku l'))(hn:n<=1000000)(hn':n'<=1000000)(b:Bool)(hb:b=true↔l=l'):
  Calls prog 19 #[.slice A n c,.slice A' n' c'] w λr w'=>r=.returned (.bool b)/\Below w.heap.size w w':=by
 have hl:l.length=n:=by have:=S.1;rw[eh]at this;omega
 have hl':l'.length=n':=by have:=S'.1;rw[eh]at this;omega
 have HL:=xh hl;have HL':=xh hl';have H0:=xh S;have H1:=xh S';have HB:=xh hb;clear S S' hb hl hl'
 by_cases hnn:n=n'
 .subst hnn;go_enter func19,ntmps19;go_wp2_with fail
  go_loopw [5] (λiv wr=> ∃i:Nat,i<=n/\iv=.int .i64 i/\Hid (∀j:Nat,j<i->l[j]?=l'[j]?)/\Below w.heap.size w wr) (λiv _=>n-(intOf iv).toNat)
  case atStart=>exact⟨0,aY _,rfl,xh (λj h=>absurd h (j9 _)),Below.refl _ _⟩
  case round=>
   obtain⟨i,hi,rfl,EQ,O⟩:=hrel
   by_cases h:i<n
   .obtain⟨g,x,rfl,hx,q1,q2,a0,a1⟩:=aT.pr (H0.o.below O) h;obtain⟨g',x',rfl,Jo,q1',q2',b0,b1⟩:=aT.pr (H1.o.below O) h;have OO:=xh O;have HE:=xh (And.intro hx Jo);have hii:(i:Int)<(n:Int):=by omega
    clear O hx Jo;obtain⟨k,v⟩:=x;obtain⟨k',v'⟩:=x';dsimp only at *
    rcases p_ne k v k' v' with⟨rfl,rfl⟩|hd|⟨rfl,hd⟩
    .have HQ:=xh (show ∀j:Nat,j<i+1->l[j]?=l'[j]? from λj hj=>by
      rcases oA.1 hj with h1|rfl
      .exact EQ.o j h1
      .rw[HE.o.1,HE.o.2])
     go_wp2_with fail;go_quiet (fail);go_wp2_with fail;go_roundw
     case rel=>exact⟨i+1,by omega,by go_num,HQ,dS OO.o _⟩
     case measure=>simp[intOf];omega
    all_goals
     have HD:=xh (show l≠l' from λhx=>by
      have h1:=HE.o.1;rw[hx,HE.o.2]at h1;simp only[Option.some.injEq,Prod.mk.injEq]at h1
      first|exact hd h1.1.symm|exact hd h1.2.symm)
     have TV:=toLb2 hd;have hd3:=toLb2 (λe=>hd e.symm);go_wp2_with fail;go_quiet (fail);go_wp2_with fail;go_ret;have hbf:b=false:=by
      cases b
      .rfl
      .exact absurd (HB.o.1 rfl) HD.o
     exact⟨by rw[hbf];rfl,dS OO.o _⟩
   .have hii:¬(i:Int)<(n:Int):=by omega
    have e:i=n:=by omega
    subst e;have VY:b=true:=HB.o.2 (mu λj=>by
     rcases eR j i with h1|h1
     .exact EQ.o j h1
     .rw[gu (by rw[HL.o];exact h1),gu (by rw[HL'.o];exact h1)])
    have HBT:=xh VY;have OO:=xh O;clear VY O;go_wp2_with fail;go_ret;exact⟨by rw[HBT.o];rfl,OO.o⟩
 .have hbf:b=false:=by
   cases b
   .rfl
   .have:=HB.o.1 rfl;rw[this,HL'.o]at HL;exact absurd HL.o.symm hnn
  have hnI:(n:Int)≠(n':Int):=by omega
  have hq:((n:Int) != (n':Int))=true:=by rw[bne_iff_ne];exact hnI
  have kt:((n:Int)==(n':Int))=false:=by rw[beq_eq_false_iff_ne];exact hnI
  have HBT:=xh hbf;clear hbf;go_enter func19,ntmps19;go_wp2_with fail;go_ret;exact⟨by rw[HBT.o];rfl,Below.refl _ _⟩
def kA:ByteArray:=⟨#[97]⟩
def kB:ByteArray:=⟨#[98]⟩
def kC:ByteArray:=⟨#[99]⟩
def k1:ByteArray:=⟨#[49]⟩
def k2:ByteArray:=⟨#[50]⟩
def Gb:ByteArray:=⟨#[]⟩
def aq1:QS:=((QS.begun 4 60).iQ kB k1).1
def aq2:QS:=(aq1.iQ kA k2).1
def aq3:QS:=(aq2.iY Gb Gb 9).1
def aq4:QS:=(aq3.nz kA).1
theorem pot0:eC (λ_=>1) (aM xU 0 0)<=0:=by
 have xX:iG xU 0=(true,[],0):=by unfold xU;rw[gq lay0,if_pos rfl];rfl
 unfold aM;rw[xX];decide
theorem Jk(R:Rd (QS.begun 4 60) xU xU 3 60):((QS.begun 4 60).iQ kB k1).2=0/\(aq1.iQ kA k2).2=0/\(aq2.iY Gb Gb 9).2=([(kA,k2),(kB,k1)],0)/\(aq3.nz kA).2=(k2,0)/\(aq4.jj kC).2=9:=by
 obtain⟨a1,v1,M1,a2,a3,a4,a5⟩:=DP R Wo kB k1 (by decide) (by decide) (by decide) (by decide) pot0 (by decide);have e1:kz M1=[(kB,k1)]:=by rw[a4];decide
 obtain⟨b1,v2,M2,b2,b3,b4,b5⟩:=DP a2 a3 kA k2 (by decide) (by decide) (by decide) (by decide) a5 (by decide);have e2:kz M2=[(kA,k2),(kB,k1)]:=by rw[b4,e1];decide
 obtain⟨c1,c2⟩:=DJ b2 b3 (by omega) Gb Gb 9;obtain⟨d1,d2⟩:=Bh c1 b3 (by omega) kA;have f:=DQ d1 b3 (by omega) kC;refine⟨a1,b1,?_,?_,?_⟩
 .rcases c2 with⟨c2,c3⟩|c2
  .omega
  .rw[show aq2=(aq1.iQ kA k2).1 from rfl];refine c2.trans ?_;rw[e2];decide
 .rcases d2 with⟨d2,d3⟩|d2
  .omega
  .refine Eq.trans d2 ?_;rw[e2];decide
 .rcases f with⟨f1,f2,_⟩|⟨f1,_⟩|⟨f1,f2,_⟩
  .omega
  .exact f1
  .exfalso;rw[e2]at f2;exact f2 (by decide)
structure OG(w W:World)(wb mb tb:Nat)(I:Ix)(F:List Nat)(q:QS)(n K:Nat)(bX:Value):Prop where
 b:aJ W wb 38 #[dp I.L.b,pp I.pb,tp tb,lp mb,bX]
 t:TQ W tb I F q n K
 o:Below w.heap.size w W
 f:∀g∈wb::mb::tb::F,w.heap.size<=g
section
variable{w W W':World}{wb mb tb:Nat}{I:Ix}{F:List Nat}{q q':QS}{n K K':Nat}{bX:Value}
theorem OG.nw(h:OG w W wb mb tb I F q n K bX):wb∉F:=h.t.2.iV h.b
theorem OG.pq(h:OG w W wb mb tb I F q n K bX)(P:PQ W' I F q' n K')(o:ag F W W'):OG w W' wb mb tb I F q' n K' bX:=
 ⟨h.b.only o h.nw,h.t.next o P,h.o.trans (o.aI h.o.size (λg hg=>h.f g (by simp[hg]))),h.f⟩
theorem OG.pt(h:OG w W wb mb tb I F q n K bX)(p:PT W W' I F q' n K'):∃F',OG w W' wb mb tb I F' q' n K' bX:=by
 obtain⟨F',P,o,f⟩:=p;refine⟨F',h.b.only o h.nw,⟨h.t.1.only o h.t.ne,P⟩,h.o.trans (o.aI h.o.size (λg hg=>h.f g (by simp[hg]))),λg hg=>?_⟩;have hs:=h.o.size;simp only[an]at hg
 rcases hg with rfl|rfl|rfl|hg
 .exact h.f _ (by simp)
 .exact h.f _ (by simp)
 .exact h.f _ (by simp)
 .exact(f g hg).elim (λh1=>h.f g (by simp[h1])) (λh1=>by omega)
theorem OG.below(h:OG w W wb mb tb I F q n K bX)(hb:Below W.heap.size W W'):OG w W' wb mb tb I F q n K bX:=
 ⟨h.b.below hb h.b.lt,h.t.below hb,aB h.o hb,h.f⟩
end
theorem xV(w:World):Calls prog 13 #[] w λe w'=>e=.returned (.bool true)/\Below w.heap.size w w':=by
 have KB:=xh (Bl w 4 60 (by omega) (by omega) (by omega) (by omega));go_enter func13,ntmps13;go_wp2_with fail;refine KB.o.mono ?_;rintro e w1 ⟨wb,tb,mb,I,F,rfl,B1,BM,T1,R1,O1,f1⟩;obtain⟨g1,g2,g3,g4,g5⟩:=Jk R1;have A1:OG w w1 wb mb tb I F (QS.begun 4 60) 242 50 (.slice none 0 0):=⟨B1,T1,O1,f1⟩;have x1:=B1.ab (i:=2) rfl;have K1:=AF T1 (by omega) kB k1 (by decide) (by decide);rw[g1]at K1;have K1:=xh K1
 have K2:=xh (λ(W:World) (F:List Nat) (hW:TQ W tb I F aq1 242 150)=>g2▸AF hW (by omega) kA k2 (by decide) (by decide));have K3:=xh (λ(W:World) (F:List Nat) (hW:TQ W tb I F aq2 242 250)=>rz hW (by omega) Gb Gb 9);have K4:=xh (λ(W:World) (F:List Nat) (hW:TQ W tb I F aq3 242 300250)=>Ds hW (by omega) kA);have K5:=xh (λ(W:World) (F:List Nat) (hW:TQ W tb I F aq4 242 300271)=>AH hW (by omega) kC);rw[g3]at K3;rw[g4]at K4;rw[g5]at K5
 have A1:=xh A1;clear B1 BM T1 R1 O1 f1 g1 g2 g3 g4 g5;unfold tp kA kB kC k1 k2 Gb at *;unfold lp;go_wp2_with fail;refine K1.o.mono ?_;rintro e w2 ⟨rfl,p2⟩;obtain⟨F2,A2⟩:=A1.o.pt p2;have x2:=A2.b.ab (i:=2) rfl;have K2:=xh (K2.o w2 F2 A2.t);have A2:=xh A2;clear p2 x1;unfold tp at x2;go_wp2_with fail;refine K2.o.mono ?_;rintro e w3 ⟨rfl,p3⟩;obtain⟨F3,A3⟩:=A2.o.pt p3;have x3:=A3.b.ab (i:=2) rfl;have K3:=xh (K3.o w3 F3 A3.t);have A3:=xh A3
 clear p3 x2;unfold tp at x3;go_wp2_with fail;refine K3.o.mono ?_;rintro e w4 ⟨v,rfl,S4,P4,o4,f4⟩;have A4:OG w w4 wb mb tb I F3 aq3 242 300250 (.slice none 0 0):=A3.o.pq P4 o4;have x4:=A4.b.ab (i:=2) rfl;have K4:=xh (K4.o w4 F3 A4.t);have A4:=xh A4;have S4:=xh (And.intro S4 f4);clear P4 o4 f4 x3;unfold tp at x4;go_wp2_with fail;refine K4.o.mono ?_;rintro e w5 ⟨rfl,P5,o5⟩;have A5:OG w w5 wb mb tb I F3 aq4 242 300271 (.slice none 0 0):=A4.o.pq P5 o5
 have S5:aT w5 42 2 v 2 (ku [(⟨#[97]⟩,⟨#[50]⟩),(⟨#[98]⟩,⟨#[49]⟩)]):=S4.o.1.only o5 (λg hg hm=>by have h1:=S4.o.2 g hg;have h2:=A3.o.t.2.lt g hm;omega);obtain⟨VA,vc,rfl⟩:=au S5;have gV:=ae (Below.refl w5.heap.size w5) (.cells #[.string ⟨#[97]⟩,.string ⟨#[50]⟩,.string ⟨#[98]⟩,.string ⟨#[49]⟩] 42)
 have SB:aT (w5.alloc (.cells #[.string ⟨#[97]⟩,.string ⟨#[50]⟩,.string ⟨#[98]⟩,.string ⟨#[49]⟩] 42)) 42 2 (.slice (some ⟨w5.heap.size,0,none⟩) 2 2) 2 (ku [(⟨#[97]⟩,⟨#[50]⟩),(⟨#[98]⟩,⟨#[49]⟩)]):=⟨rfl,.inr ⟨w5.heap.size,2,[],rfl,aJ.new _ _ _,rfl,by decide⟩⟩;have KS:=xh (mP (S5.below gV) SB (by omega) (by omega) true (by simp));have A6:=xh (A5.below gV);clear P5 o5 S5 SB gV A5 x4;go_wp2_with fail;refine KS.o.mono ?_;rintro e w7 ⟨rfl,gD⟩;have A7:=A6.o.below gD
 have x7:=A7.b.ab (i:=2) rfl;have K5:=xh (K5.o w7 F3 A7.t);have A7:=xh A7;clear gD;unfold tp at x7;go_wp2_with fail;refine K5.o.mono ?_;rintro e w8 ⟨rfl,p8⟩;obtain⟨F8,A8⟩:=A7.o.pt p8;have A8:=xh A8;clear p8 x7;go_wp2_with fail;go_ret;exact aE A8.o.o
open Go.RowKit Go.ChangeShapes Go.WideShapes Go.Deep Pk Dk Pg
structure RH where
 kd:Int
 n:Int
 key:ByteArray
 az:ByteArray
 val:ByteArray
def RH.ok(x:RH):Prop:=x.key.size<=maxLen/\x.az.size<=maxLen/\x.val.size<=maxLen/\ -9223372036854775808<=x.kd/\x.kd<=9223372036854775807/\ -9223372036854775808<=x.n/\x.n<=9223372036854775807
theorem Ro{H:Type}{enc:TypeId×Value->H}{P:Program}{w:World}{t:TypeId}{f0 f1 f2 f3 f4:Field}{fuel:Nat}{cs:List Value}{x:DataW H×List MemPlace}
  (hs:P.underlying t=some (.struct #[f0,f1,f2,f3,f4]))(hC:P.cellsOf t=5)(o0:f0.offset=0)(o1:f1.offset=1)(o2:f2.offset=2)(o3:f3.offset=3)(o4:f4.offset=4)(k0:P.cellsOf f0.type=1)(k1:P.cellsOf f1.type=1)(k2:P.cellsOf f2.type=1)(k3:P.cellsOf f3.type=1)(k4:P.cellsOf f4.type=1)
  (u0:P.underlying f0.type=some (.int .i64))(u1:P.underlying f1.type=some (.int .i64))(u2:P.underlying f2.type=some .string)(u3:P.underlying f3.type=some .string)(u4:P.underlying f4.type=some .string)
  (h:DataW.trod enc P w 0 (λ_=>true) true fuel t cs=some x):∃y:RH,cs=[.int .i64 y.kd,.int .i64 y.n,.string y.key,.string y.az,.string y.val]/\y.ok:=by
 obtain⟨xs,n,_,_,hl,Gs,hf⟩:=DataW.trod_struct hs h;obtain⟨c0,c1,c2,c3,c4,rfl⟩:∃a b c d e,cs=[a,b,c,d,e]:=by
  match cs,hl.trans hC with
  |[a,b,c,d,e],_=>exact⟨a,b,c,d,e,rfl⟩
 obtain⟨y0,y1,y2,y3,y4,rfl⟩:∃y0 y1 y2 y3 y4,xs=[y0,y1,y2,y3,y4]:=by
  match xs,Gs with
  |[a,b,c,d,e],_=>exact⟨a,b,c,d,e,rfl⟩
 have g0:=hf 0 f0 rfl;have g1:=hf 1 f1 rfl;have g2:=hf 2 f2 rfl;have g3:=hf 3 f3 rfl;have g4:=hf 4 f4 rfl;rw[o0,k0]at g0;rw[o1,k1]at g1;rw[o2,k2]at g2;rw[o3,k3]at g3;rw[o4,k4]at g4;simp only[D0,DY,ox,jb]at g0 g1 g2 g3 g4;obtain⟨r0,BU,-,wf0⟩:=DataW.trod_int u0 (x:=y0) (by simpa using g0);obtain⟨r1,UJ,-,wf1⟩:=DataW.trod_int u1 (x:=y1) (by simpa using g1);obtain⟨r2,hr2,-,s2⟩:=DataW.trod_string u2 (x:=y2) (by simpa using g2)
 obtain⟨r3,hr3,-,s3⟩:=DataW.trod_string u3 (x:=y3) (by simpa using g3);obtain⟨r4,hr4,-,s4⟩:=DataW.trod_string u4 (x:=y4) (by simpa using g4);simp only[List.cons.injEq,and_true]at BU UJ hr2 hr3 hr4;subst BU UJ hr2 hr3 hr4;have b0:=Go.bounds_i64 wf0;have b1:=Go.bounds_i64 wf1;exact⟨⟨r0,r1,r2,r3,r4⟩,rfl,s2,s3,s4,by show -9223372036854775808<=r0;omega,by show r0<=9223372036854775807;omega,by show -9223372036854775808<=r1;omega,by show r1<=9223372036854775807;omega⟩
def FrA(A:List Nat)(z:Nat)(B:List Nat):Prop:= ∀g∈B,g∈A\/z<=g
abbrev tK(kd n:Int)(key az val:ByteArray):Array Value:= #[.int .i64 kd,.int .i64 n,.string key,.string az,.string val]
section
variable{w w':World}{wb tb mb:Nat}{I:Ix}{F S:List Nat}{vl vo:Value}{q q':QS}{n K K':Nat}{l o:List PR}
theorem TW.next(h:TW w wb tb mb I F vl vo q n K l o)(ho:ag F w w')(p:PQ w' I F q' n K'):TW w' wb tb mb I F vl vo q' n K' l o:=
 ⟨h.b.only ho h.wF,⟨h.m.b.only ho h.mF,h.m.s.only ho (h.t.2.Ga h.m.s),h.m.n⟩,h.s.only ho (h.t.2.Ga h.s),h.t.next ho p,h.no⟩
theorem TW.only(h:TW w wb tb mb I F vl vo q n K l o)(ho:ag S w w')(hd:∀g∈wb::mb::tb::F,g∉S)(h1:∀g∈ai vl,g∉S)(h2:∀g∈ai vo,g∉S):TW w' wb tb mb I F vl vo q n K l o:=
 ⟨h.b.only ho (hd _ (by simp)),⟨h.m.b.only ho (hd _ (by simp)),h.m.s.only ho h1,h.m.n⟩,h.s.only ho h2,h.t.only ho (λg hg=>hd g (ax _ (ax _ hg))),h.no⟩
theorem ag.Wu{w w1 w':World}{p:Nat}{S:List Nat}(ho:ag [p] w1 w')(o:ag S w w1)(h:w.heap.size<=p):ag S w w':=o.aO ho (λx hx hl=>by have:=aQ.1 hx;omega)
theorem dU(w:World):Calls prog 18 #[.int .i64 11] w λr w'=>r=.returned (.bool true)/\w=w':=qH 11 w
theorem eW(e:Int)(h:e≠11)(h2:e≠12)(w:World):Calls prog 18 #[.int .i64 e] w λr w'=>r=.returned (.bool false)/\w=w':=by
 have:=qH e w
 rwa [decide_eq_false h,decide_eq_false h2]at this
theorem TW.actF(h:TW w wb tb mb I F vl vo q n K l o){z:Nat}{cs:Array Value}(B:aJ w z 28 cs):z∉wb::mb::F:=λhm=>by
 simp only[an]at hm
 rcases hm with hm|hm|hm
 .exact(B.k7 h.b (by decide)) hm
 .exact(B.k7 h.m.b (by decide)) hm
 .exact (show _ ∉ _ from h.t.2.iV B) hm
end
theorem Rp{w:World}{wb tb mb:Nat}{I:Ix}{F:List Nat}{vl vo:Value}{q:QS}{n Kz mm k:Nat}{l o:List PR}(h:TW w wb tb mb I F vl vo q n Kz l o)(hi:TI q l o mm k)(hk:k<=1000)(hK:Kz<=999998000000)(kd nn:Int)(key az val:ByteArray):
  Calls prog 59 #[.pointer (some ⟨wb,0,none⟩),.agg (tK kd nn key az val)] w λe w'=>e=.returned (.bool true)/\∃nF rO F' RG q' l',TW w' wb nF rO I F' RG vo q' n (Kz+400000) l' o/\TI q' l' o mm k/\ag (wb::F) w w'/\FrA (mb::tb::F) w.heap.size (rO::nF::F'):=by
 obtain⟨g1,g2⟩:=hi.getM key;obtain⟨q1,Bt⟩:∃q1,(q.nz key).1=q1:=⟨_,rfl⟩;obtain⟨b1,e1,UJ⟩:∃b1 e1,(q.nz key).2=(b1,e1):=⟨_,_,rfl⟩;rw[Bt]at g1;obtain⟨g3,g4⟩:=g1.Wt key az nn;obtain⟨q2,kt⟩:∃q2,(q1.iY key az nn).1=q2:=⟨_,rfl⟩;obtain⟨l2,e2,hr2⟩:∃l2 e2,(q1.iY key az nn).2=(l2,e2):=⟨_,_,rfl⟩;rw[kt]at g3;obtain⟨g5,g6⟩:=g3.lastM (by omega) key az;obtain⟨q3,hq3⟩:∃q3,(q2.lH key az).1=q3:=⟨_,rfl⟩;obtain⟨x3,e3,hr3⟩:∃x3 e3,(q2.lH key az).2=(x3,e3):=⟨_,_,rfl⟩
 rw[hq3]at g5;have K1:=xh (λ(W:World) (hW:TW W wb tb mb I F vl vo q n Kz l o)=>Ds hW.t (by omega) key);have K2:=xh (λ(W:World) (hW:TW W wb tb mb I F vl vo q1 n (Kz+21) l o)=>rz hW.t (by omega) key az nn);have K3:=xh (λ(W:World) (hW:TW W wb tb mb I F vl vo q2 n (Kz+21+300000) l o)=>Ri hW.t (by omega) key az);rw[Bt,UJ]at K1;rw[UJ]at g2;rw[kt,hr2]at K2;rw[hr2]at g4;rw[hq3,hr3]at K3;rw[hr3]at g6;dsimp only at K1 K2 K3 g2 g4 g6
 obtain⟨mg,Wv⟩:∃mg,qF l key=mg:=⟨_,rfl⟩;have KM:=xh (λ(W:World) (hW:TW W wb tb mb I F vl vo q1 n (Kz+21) l o)=>Wj hW.m key);rw[Wv]at KM g2;have MG:=xh Wv;have KSA:=xh (λ(W:World) (hW:TW W wb tb mb I F vl vo q3 n (Kz+21+300000+600) l o)=>DR hW.m key az 1099511627776);have KSN:=xh (λ(W:World) (hW:TW W wb tb mb I F vl vo q3 n (Kz+21+300000+600) l o)=>DR hW.m key az nn)
 have hal1:(iZ key az 1099511627776 l).length<=1000000:=by have:=rB key az 1099511627776 l l.length;rw[fw]at this;have:=hi.sorted.2;omega
 have hsn1:(iZ key az nn l).length<=1000000:=by have:=rB key az nn l l.length;rw[fw]at this;have:=hi.sorted.2;omega
 obtain⟨al,gV⟩:∃al,iZ key az 1099511627776 l=al:=⟨_,rfl⟩;obtain⟨sn,P8⟩:∃sn,iZ key az nn l=sn:=⟨_,rfl⟩;rw[gV]at KSA g6 hal1;rw[P8]at KSN g4 hsn1;have nD:=xh (And.intro hal1 hsn1);clear gV P8 hal1 hsn1;have KT:=xh qH;have TS:=xh (And.intro g5 (And.intro g2 (And.intro g4 g6)));have tA:=hi.sorted.2;have hb:=ae (Below.refl w.heap.size w) (.cells (tK kd nn key az val) 28);have T0:=xh (h.below hb)
 have CZ:=aJ.new w 28 (tK kd nn key az val);obtain⟨z,hz⟩:∃z,w.heap.size=z:=⟨_,rfl⟩;rw[hz]at CZ;have lG:=xh (T0.o.actF CZ);have CZ:=xh CZ;have HZ:=xh hz;have O0:=xh (ag.aj (S:=wb::F) hb);have HI:=xh hi;have Br:=xh (And.intro hk hK);unfold tp at K1 K2 K3;unfold prV at K3;clear h hi hk hK g1 g2 g3 g4 g5 g6 Bt UJ kt hr2 hq3 hr3 Wv hb hz;have y1:=CZ.o.ab (i:=1) rfl;have y2:=CZ.o.ab (i:=2) rfl;have y3:=CZ.o.ab (i:=3) rfl
 obtain⟨x1,x2,OH,x4⟩:=T0.o.cells;have tw:=HZ.o;unfold tK at *;go_enter func59,ntmps59;go_wp2_with fail;refine wp_region_held_drew (S:=λW=>W.cell? ⟨wb,2,none⟩=some (.pointer (some ⟨tb,0,none⟩))/\W.cell? ⟨z,2,none⟩=some (.string key)) (by kernel_rfl) (⟨x2,y2⟩) (λah=>?_);refine bM [(0,15),(1,16),(2,17),(3,18),(4,19),(5,20)] ?_
 iterate 6 refine aG ?_
 refine bY 6 21 λK hK=>?_;go_simp
 go_at_call 20
 refine(K1.o _ T0.o.drew).mono ?_;rintro e w1 ⟨rfl,p1,o1⟩;have T1:=xh (T0.o.drew.next o1 p1);have C1:=xh (CZ.o.drew.only o1 (λhm=>lG.o (ax _ (ax _ hm))));have O1:=xh (O0.o.drew.trans (o1.mono (λx hx _=>ax _ hx)));clear p1 o1;go_simp;refine aA hK (⟨T1.o.cells.2.1,C1.o.ab (i:=2) rfl⟩) (λah=>?_);refine bM [(7,14),(8,22),(9,23),(10,5),(11,6)] ?_
 iterate 5 refine aG ?_
 refine wpAnyH_done (by kernel_rfl) ?_ _;clear x1 x2 OH x4 y1 y2 y3;have y1:=C1.o.ab (i:=1) rfl;have y2:=C1.o.ab (i:=2) rfl;have y3:=C1.o.ab (i:=3) rfl;obtain⟨x1,x2,OH,x4⟩:=T1.o.cells;go_wp2_with fail;refine wp_region_held_drew (S:=λW=>W.cell? ⟨wb,3,none⟩=some (.pointer (some ⟨mb,0,none⟩))/\W.cell? ⟨z,2,none⟩=some (.string key)) (by kernel_rfl) (⟨OH,y2⟩) (λah=>?_);refine bM [(0,25),(1,26),(2,27),(3,28),(4,29),(5,30)] ?_
 iterate 6 refine aG ?_
 refine bY 6 31 λK hK=>?_;go_simp
 go_at_call 107
 refine(KM.o _ T1.o.drew).mono ?_;rintro e w2 ⟨rfl,cA⟩;have T2:=xh (T1.o.drew.below cA);have C2:=xh (C1.o.drew.below cA C1.o.drew.lt);have O2:=xh (O1.o.drew.trans (.aj cA));clear cA;go_simp;refine aA hK (⟨T2.o.cells.2.2.1,C2.o.ab (i:=2) rfl⟩) (λah=>?_);refine bM [(7,24),(8,32),(9,33),(10,7),(11,8)] ?_
 iterate 5 refine aG ?_
 refine wpAnyH_done (by kernel_rfl) ?_ _;clear x1 x2 OH x4 y1 y2 y3;have y1:=C2.o.ab (i:=1) rfl;have y2:=C2.o.ab (i:=2) rfl;have y3:=C2.o.ab (i:=3) rfl;obtain⟨x1,x2,OH,x4⟩:=T2.o.cells;go_wp2_with fail;refine wp_region_held_drew (S:=λW=>W.cell? ⟨wb,2,none⟩=some (.pointer (some ⟨tb,0,none⟩))/\W.cell? ⟨z,2,none⟩=some (.string key)/\W.cell? ⟨z,3,none⟩=some (.string az)/\W.cell? ⟨z,1,none⟩=some (.int .i64 nn)) (by kernel_rfl) (⟨x2,y2,y3,y1⟩) (λah=>?_)
 refine bM [(0,35),(1,36),(2,37),(3,38),(4,39),(5,40),(6,41),(7,42),(8,43),(9,44)] ?_
 iterate 10 refine aG ?_
 refine bY 10 45 λK hK=>?_;go_simp
 go_at_call 17
 refine(K2.o _ T2.o.drew).mono ?_;rintro e w3 ⟨vs,rfl,S3,p3,o3,f3⟩;have T3:=xh (T2.o.drew.next o3 p3);have C3:=xh (C2.o.drew.only o3 (λhm=>lG.o (ax _ (ax _ hm))));have O3:=xh (O2.o.drew.trans (o3.mono (λx hx _=>ax _ hx)));obtain⟨As,cs,rfl⟩:=au S3;have S3:=xh S3;have hl3:0<=l2.length:=aY _;clear p3 o3 f3;go_simp
 refine aA hK (⟨T3.o.cells.2.1,C3.o.ab (i:=2) rfl,C3.o.ab (i:=3) rfl,C3.o.ab (i:=1) rfl⟩) (λah=>?_);refine bM [(11,34),(12,46),(13,47),(14,9),(15,10)] ?_
 iterate 5 refine aG ?_
 refine wpAnyH_done (by kernel_rfl) ?_ _;clear x1 x2 OH x4 y1 y2 y3;have y1:=C3.o.ab (i:=1) rfl;have y2:=C3.o.ab (i:=2) rfl;have y3:=C3.o.ab (i:=3) rfl;obtain⟨x1,x2,OH,x4⟩:=T3.o.cells
 go_upto_region 4 with fail
 go_cut [11,12]from 48 to 59 (λv11 v12 wx=> ∃p,v11=.pointer (some ⟨p,0,none⟩)/\v12=.int .i64 e3/\Hid (TW wx wb tb mb I F vl vo q3 n (Kz+21+300000+600) l o/\aJ wx z 28 (tK kd nn key az val)/\ag (wb::F) w wx/\aT wx 42 2 (.slice As l2.length cs) l2.length (ku l2)/\aJ wx p 42 #[.string x3.1,.string x3.2]/\w.heap.size<=p))
 case first=>
  refine wp_region_held_drew (S:=λW=>W.cell? ⟨wb,2,none⟩=some (.pointer (some ⟨tb,0,none⟩))/\W.cell? ⟨z,2,none⟩=some (.string key)/\W.cell? ⟨z,3,none⟩=some (.string az)) (by kernel_rfl) (⟨x2,y2,y3⟩) (λah=>?_);refine bM [(0,49),(1,50),(2,51),(3,52),(4,53),(5,54),(6,55),(7,56)] ?_
  iterate 8 refine aG ?_
  refine wpAnyH_ready (rs:=[8,12]) (by kernel_rfl) (by simp) ?_;refine AllReadyH.cons (o:=⟨some 57,_,_,_,_,_⟩) rfl (λK hK=>?_) (AllReadyH.cons (o:=⟨some 11,_,_,_,_,_⟩) rfl (λK hK=>?_) AllReadyH.nil)
  .skip
   go_simp
   go_at_call 21
   refine(K3.o _ T3.o.drew).mono ?_;rintro e w4 ⟨rfl,p4,o4⟩;have T4:=xh (T3.o.drew.next o4 p4);have C4:=xh (C3.o.drew.only o4 (λhm=>lG.o (ax _ (ax _ hm))));have S4:=xh (S3.o.drew.only o4 (T3.o.drew.t.2.Ga S3.o.drew));have O4:=xh (O3.o.drew.trans (o4.mono (λx hx _=>ax _ hx)));clear p4 o4;go_simp
   refine aA hK (⟨T4.o.cells.2.1,C4.o.ab (i:=2) rfl,C4.o.ab (i:=3) rfl⟩) (λah=>?_);refine bM [(9,48),(10,58),(11,59)] ?_
   iterate 3 refine aG ?_
   refine bY 12 11 λK hK=>?_;go_simp;have ha:=ae (Below.refl w4.heap.size w4) (.cells #[.string x3.1,.string x3.2] 42);have y2:=C4.o.alloc (.cells #[.string ⟨#[]⟩,.string ⟨#[]⟩] 42);have T5:=T4.o.below (ae (Below.refl w4.heap.size w4) (.cells #[.string ⟨#[]⟩,.string ⟨#[]⟩] 42));have T6:=xh (T4.o.below ha);have C6:=xh (C4.o.below ha C4.o.lt);have S6:=xh (S4.o.below ha);have O6:=xh (O4.o.trans (.aj ha))
   have B6:=xh (aJ.new w4 42 #[.string x3.1,.string x3.2]);clear ha;refine aA hK (⟨T5.cells.2.1,y2.ab (i:=2) rfl,y2.ab (i:=3) rfl⟩) (λah=>?_);refine dv 13 λK hK=>?_;go_simp;refine aA hK (⟨T6.o.cells.2.1,C6.o.ab (i:=2) rfl,C6.o.ab (i:=3) rfl⟩) (λah=>?_);refine bM [(14,12)] ?_
   iterate 1 refine aG ?_
   refine wpAnyH_done (by kernel_rfl) ?_ _;go_wp2_with fail;go_meet;exact⟨w4.heap.size,rfl,rfl,xh ⟨T6.o,C6.o,O6.o,S6.o,B6.o,by have:=O4.o.size;omega⟩⟩
  .skip
   go_simp;have ha:=ae (Below.refl w3.heap.size w3) (.cells #[.string ⟨#[]⟩,.string ⟨#[]⟩] 42);have T4:=xh (T3.o.below ha).drew;have C4:=xh (C3.o.below ha C3.o.lt).drew;have S4:=xh (S3.o.below ha).drew;have O4:=xh (O3.o.trans (.aj ha)).drew;have B4:=xh (aJ.new w3 42 #[.string ⟨#[]⟩,.string ⟨#[]⟩]).drew;clear ha;refine aA hK (⟨T4.o.cells.2.1,C4.o.ab (i:=2) rfl,C4.o.ab (i:=3) rfl⟩) (λah=>?_);refine bY 8 57 λK hK=>?_
   go_simp
   go_at_call 21
   refine(K3.o _ T4.o).mono ?_;rintro e w5 ⟨rfl,p4,o4⟩;have T5:=xh (T4.o.next o4 p4);have C5:=xh (C4.o.only o4 (λhm=>lG.o (ax _ (ax _ hm))));have S5:=xh (S4.o.only o4 (T4.o.t.2.Ga S4.o));have hpF:=T4.o.t.2.iV B4.o;have B5:=xh (B4.o.only o4 hpF);have O5:=xh (O4.o.trans (o4.mono (λx hx _=>ax _ hx)));clear p4 o4;have u0:=B5.o.ab (i:=0) rfl;have u1:=B5.o.ab (i:=1) rfl
   have v0:=B5.o.frozen 0 (by simp);have v1:=B5.o.frozen 1 (by simp);have P6:=(((ag.refl [w3.heap.size] w5).setCell (p:=⟨w3.heap.size,0,none⟩) (λ_=>by simp) (.string x3.1)).setCell (p:=⟨w3.heap.size,1,none⟩) (λ_=>by simp) (.string x3.2));have Pe:=T5.o.lt;have hs5:=S5.o.lt;have dH:=T3.o.lt;have QM:=T3.o.m.s.lt;have Gh:=T3.o.s.lt;have hl3:=S3.o.lt
   have T6:=xh (T5.o.only P6 (λg hg hm=>by have e:=aQ.1 hm;subst e;simp only[an]at hg;rcases hg with e|e|e|hg;(have:=dH wb (by simp);omega);(have:=dH mb (by simp);omega);(have:=dH tb (by simp);omega);(exact hpF hg)) (λg hg hm=>by have:=QM g hg;have:=aQ.1 hm;omega) (λg hg hm=>by have:=Gh g hg;have:=aQ.1 hm;omega))
   have C6:=xh (C5.o.only P6 (λhm=>(C5.o.k7 B5.o (by decide)) (aQ.1 hm)));have S6:=xh (S5.o.only P6 (λg hg hm=>by have:=hl3 g hg;have:=aQ.1 hm;omega));have O6:=xh (ag.Wu P6 O5.o O3.o.size);have B6:=xh ((B5.o.bE 0 (.string x3.1)).bE 1 (.string x3.2));clear dH QM Gh hl3 P6;go_simp;refine aA hK (⟨T5.o.cells.2.1,C5.o.ab (i:=2) rfl,C5.o.ab (i:=3) rfl⟩) (λah=>?_)
   refine bM [(9,48),(10,58),(11,59)] ?_
   iterate 3 refine aG ?_
   refine dv 13 λK hK=>?_;go_simp;refine aA hK (⟨T6.o.cells.2.1,C6.o.ab (i:=2) rfl,C6.o.ab (i:=3) rfl⟩) (λah=>?_);refine bM [(14,12)] ?_
   iterate 1 refine aG ?_
   refine wpAnyH_done (by kernel_rfl) ?_ _;go_wp2_with fail;go_meet;exact⟨w3.heap.size,rfl,rfl,xh ⟨T6.o,C6.o,O6.o,S6.o,B6.o,by have:=O3.o.size;omega⟩⟩
 case rest=>
  obtain⟨p,rfl,rfl,HC⟩:=hcut;have T5:=xh HC.o.1;have C5:=xh HC.o.2.1;have O5:=xh HC.o.2.2.1;have S5:=xh HC.o.2.2.2.1;have B5:=xh HC.o.2.2.2.2.1;clear HC x1 x2 OH x4 y1 y2 y3 S3;have KB:=xh (jZ T5.o (by have:=Br.o;omega) TS.o.1.j.back.1);have Wv:=TS.o.2.1;have hsc:=TS.o.2.2.1;have Ol:=TS.o.2.2.2;have m2:mg.2=0\/mg.2=9:=by have:=MG.o;rw[<-this];unfold qF;split;exact .inl rfl;exact .inr rfl
  by_cases h1:e1=11
  .subst h1;have k1:=xh (dU wc);clear Wv hsc Ol m2;go_wp2_with fail;refine k1.o.mono ?_;rintro e _ ⟨rfl,rfl⟩;go_wp2_with fail;refine KB.o.mono ?_;rintro e w9 ⟨rfl,nF,rO,F',T9,o9,f9⟩;have T9:=xh (T9.le (show _<=Kz+400000 by omega));have O9:=xh (O5.o.trans o9);have F9:=xh (show FrA (mb::tb::F) w.heap.size (rO::nF::F')from λg hg=>(f9 g hg).elim (λh=> .inl (by simp[h])) (λh=> .inr (ar O5.o.size h)));clear o9 f9;go_wp2_with fail;go_ret
   exact aE ⟨nF,rO,F',vo,_,o,T9.o,TS.o.1.j.back.2,O9.o,F9.o⟩
  have h1':e1≠12:=by
   rcases Wv with h|h
   .exact absurd h h1
   .have:=congrArg Prod.snd h;dsimp only at this;omega
  have k1:=xh (eW e1 h1 h1' wc)
  by_cases h2:e2=11
  .subst h2;have k2:=xh (dU wc);clear Wv hsc Ol m2 h1 h1';go_wp2_with fail;refine k1.o.mono ?_;rintro e _ ⟨rfl,rfl⟩;go_wp2_with fail;refine k2.o.mono ?_;rintro e _ ⟨rfl,rfl⟩;go_wp2_with fail;refine KB.o.mono ?_;rintro e w9 ⟨rfl,nF,rO,F',T9,o9,f9⟩;have T9:=xh (T9.le (show _<=Kz+400000 by omega));have O9:=xh (O5.o.trans o9)
   have F9:=xh (show FrA (mb::tb::F) w.heap.size (rO::nF::F')from λg hg=>(f9 g hg).elim (λh=> .inl (by simp[h])) (λh=> .inr (ar O5.o.size h)));clear o9 f9;go_wp2_with fail;go_ret;exact aE ⟨nF,rO,F',vo,_,o,T9.o,TS.o.1.j.back.2,O9.o,F9.o⟩
  have hsc:=hsc.resolve_left h2;injection hsc with Gh rW
  subst rW;have k2:=xh (eW 0 (by omega) (by omega) wc)
  by_cases h3:e3=11
  .subst h3;have k3:=xh (dU wc);clear Wv Ol m2 h1 h1' h2 Gh;go_wp2_with fail;refine k1.o.mono ?_;rintro e _ ⟨rfl,rfl⟩;go_wp2_with fail;refine k2.o.mono ?_;rintro e _ ⟨rfl,rfl⟩;go_wp2_with fail;refine k3.o.mono ?_;rintro e _ ⟨rfl,rfl⟩;go_wp2_with fail;refine KB.o.mono ?_;rintro e w9 ⟨rfl,nF,rO,F',T9,o9,f9⟩;have T9:=xh (T9.le (show _<=Kz+400000 by omega));have O9:=xh (O5.o.trans o9)
   have F9:=xh (show FrA (mb::tb::F) w.heap.size (rO::nF::F')from λg hg=>(f9 g hg).elim (λh=> .inl (by simp[h])) (λh=> .inr (ar O5.o.size h)));clear o9 f9;go_wp2_with fail;go_ret;exact aE ⟨nF,rO,F',vo,_,o,T9.o,TS.o.1.j.back.2,O9.o,F9.o⟩
  have Ol:=Ol.resolve_left h3;have h3':e3≠12:=by
   have e:=congrArg Prod.snd Ol;dsimp only at e;rw[e]
   split<;>(dsimp only;omega)
  have k3:=xh (eW e3 h3 h3' wc);have Wv:=Wv.resolve_left h1;subst Wv;dsimp only at m2;have Fu:=xh (And.intro Gh Ol);clear Gh Ol m2 h1 h1' h2 h3 h3' MG;go_wp2_with fail;refine k1.o.mono ?_;rintro e _ ⟨rfl,rfl⟩;go_wp2_with fail;refine k2.o.mono ?_;rintro e _ ⟨rfl,rfl⟩;go_wp2_with fail;refine k3.o.mono ?_;rintro e _ ⟨rfl,rfl⟩;have y1:=C5.o.ab (i:=1) rfl;have y2:=C5.o.ab (i:=2) rfl;have y3:=C5.o.ab (i:=3) rfl
  obtain⟨x1,x2,OH,x4⟩:=T5.o.cells;go_wp2_with fail;refine wp_region_held_drew (S:=λW=>W.cell? ⟨wb,3,none⟩=some (.pointer (some ⟨mb,0,none⟩))/\W.cell? ⟨z,2,none⟩=some (.string key)/\W.cell? ⟨z,3,none⟩=some (.string az)) (by kernel_rfl) (⟨OH,y2,y3⟩) (λah=>?_);refine bM [(0,72),(1,73),(2,74),(3,75),(4,76),(5,77),(6,78),(7,79)] ?_
  iterate 8 refine aG ?_
  refine bY 8 80 λK hK=>?_;go_simp
  go_at_call 108
  refine(KSA.o _ T5.o.drew).mono ?_;rintro e w6 ⟨va,rfl,Sa,sA,f6⟩;have T6:=xh (T5.o.drew.below sA);have C6:=xh (C5.o.drew.below sA C5.o.lt);have O6:=xh (O5.o.drew.trans (.aj sA));have S6:=xh (S5.o.drew.below sA);have B6:=xh (B5.o.drew.below sA B5.o.lt);obtain⟨Aa,ca,rfl⟩:=au Sa;have Sa:=xh Sa;clear sA f6;go_simp;refine aA hK (⟨T6.o.cells.2.2.1,C6.o.ab (i:=2) rfl,C6.o.ab (i:=3) rfl⟩) (λah=>?_)
  refine bM [(9,13)] ?_
  iterate 1 refine aG ?_
  refine wpAnyH_done (by kernel_rfl) ?_ _;clear x1 x2 OH x4 y1 y2 y3;have y1:=C6.o.ab (i:=1) rfl;have y2:=C6.o.ab (i:=2) rfl;have y3:=C6.o.ab (i:=3) rfl;obtain⟨x1,x2,OH,x4⟩:=T6.o.cells;go_wp2_with fail;refine wp_region_held_drew (S:=λW=>W.cell? ⟨wb,3,none⟩=some (.pointer (some ⟨mb,0,none⟩))/\W.cell? ⟨z,2,none⟩=some (.string key)/\W.cell? ⟨z,3,none⟩=some (.string az)/\W.cell? ⟨z,1,none⟩=some (.int .i64 nn)) (by kernel_rfl) (⟨OH,y2,y3,y1⟩) (λah=>?_)
  refine bM [(0,81),(1,82),(2,83),(3,84),(4,85),(5,86),(6,87),(7,88),(8,89),(9,90),(10,91),(11,92),(12,93),(13,94),(14,95),(15,96),(16,97),(17,98),(18,99),(19,100),(20,101),(21,102),(22,103),(23,104)] ?_
  iterate 24 refine aG ?_
  refine bY 24 105 λK hK=>?_;go_simp
  go_at_call 108
  refine(KSN.o _ T6.o.drew).mono ?_;rintro e w7 ⟨vn,rfl,Sn,gD,f7⟩;have T7:=xh (T6.o.drew.below gD);have C7:=xh (C6.o.drew.below gD C6.o.lt);have O7:=xh (O6.o.drew.trans (.aj gD));have S7:=xh (S6.o.drew.below gD);have B7:=xh (B6.o.drew.below gD B6.o.lt);have Sa7:=xh (Sa.o.drew.below gD);obtain⟨An,cn,rfl⟩:=au Sn;have Sn:=xh Sn
  have KE:=xh (mP S7.o Sn.o (by rw[Fu.o.1];exact nD.o.2) nD.o.2 true (by simp[Fu.o.1]));clear gD f7;go_simp;refine aA hK (⟨T7.o.cells.2.2.1,C7.o.ab (i:=2) rfl,C7.o.ab (i:=3) rfl,C7.o.ab (i:=1) rfl⟩) (λah=>?_);refine bY 25 106 λK hK=>?_;go_simp
  go_at_call 19
  refine KE.o.mono ?_;rintro e w8 ⟨rfl,xZ⟩;have T8:=xh (T7.o.below xZ);have C8:=xh (C7.o.below xZ C7.o.lt);have O8:=xh (O7.o.trans (.aj xZ));have B8:=xh (B7.o.below xZ B7.o.lt);have Sa8:=xh (Sa7.o.below xZ);clear xZ;go_simp;refine aA hK (⟨T8.o.cells.2.2.1,C8.o.ab (i:=2) rfl,C8.o.ab (i:=3) rfl,C8.o.ab (i:=1) rfl⟩) (λah=>?_);refine bM [(26,107),(27,108)] ?_
  iterate 2 refine aG ?_
  refine wpAnyH_done (by kernel_rfl) ?_ _;have Ol:=Fu.o.2;have T9:=xh (T8.o.le (show _<=Kz+400000 by omega));clear x1 x2 OH x4 y1 y2 y3
  rcases sk al with gV|⟨L9,b9,gV⟩
  .subst gV;injection Ol with hx he
   subst hx;subst he;have p0:=B8.o.ab (i:=0) rfl;have p1:=B8.o.ab (i:=1) rfl;go_wp2_with fail;go_ret;exact aE ⟨tb,mb,F,vl,q3,l,T9.o,TS.o.1,O8.o,λg hg=> .inl hg⟩
  .rw[List.concat_eq_append]at gV;subst gV;obtain⟨ln,mR⟩:∃ln,(L9++[b9]).length=ln:=⟨_,rfl⟩;have hln2:ln=L9.length+1:=by rw[<-mR];simp
   have S9:=Sa8.o;rw[mR]at S9;obtain⟨ga,xa,rfl,OJ,hca,tC,c0,c1⟩:=aT.pr S9 (i:=L9.length) (by omega);rw[List.getElem?_concat_length]at OJ;injection OJ with OJ
   subst OJ;rw[List.getLast?_concat]at Ol;injection Ol with hx he
   subst hx;subst he;have p0:=B8.o.ab (i:=0) rfl;have p1:=B8.o.ab (i:=1) rfl;obtain⟨xk,xv⟩:=x3;dsimp only at p0 p1 c0 c1;have hll9:=nD.o.1;rw[mR]at hll9;have hn0:¬(ln:Int)=0:=by omega
   have hn1:¬ln=0:=by omega
   have s1:IntKind.i64.wrap ((ln:Int)-1)=(L9.length:Int):=by rw[hln2,show(((L9.length+1:Nat):Int)-1)=(L9.length:Int) by omega];exact IntWalk.i64_in _ (by omega)
   have s2:L9.length<ln:=by omega
   have s3:(L9.length:Int)<(ln:Int):=by omega
   have s4:(0:Int)<=(L9.length:Int):=by omega
   rw[mR]
   replace mR:=xh mR
   replace hln2:=xh hln2
   clear S9;go_wp2_with fail;refine wp_region_held_drew (S:=λW=>W.cell? ⟨p,0,none⟩=some (.string xk)/\W.cell? ⟨p,1,none⟩=some (.string xv)/\W.cell? ⟨ga,L9.length*2,none⟩=some (.string xk)/\W.cell? ⟨ga,L9.length*2+1,none⟩=some (.string xv)) (by kernel_rfl) (⟨p0,p1,c0,c1⟩) (λah=>?_);refine bM [(0,119),(1,120),(2,121),(3,122),(4,123),(5,124),(6,125),(7,126),(8,127),(9,128),(10,129),(11,130),(12,4)] ?_
   iterate 13 refine aG ?_
   refine wpAnyH_done (by kernel_rfl) ?_ _;go_wp2_with fail;go_ret;exact aE ⟨tb,mb,F,vl,q3,l,T9.o.drew,TS.o.1,O8.o.drew,λg hg=> .inl hg⟩
variable{nF rO z wb tb mb n Kz mm k:Nat}{F' F F1:List Nat}{w:World}{I:Ix}{vl vo:Value}{q:QS}{l o:List PR}
def pK(w w':World)(wb tb mb:Nat)(I:Ix)(F:List Nat)(n Kz mm k:Nat):Prop:=
 ∃nF rO F' RG vo' q' l' o',TW w' wb nF rO I F' RG vo' q' n Kz l' o'/\TI q' l' o' mm k/\ag (wb::mb::F) w w'/\FrA (mb::tb::F) w.heap.size (rO::nF::F')
section
variable{w:World}{wb tb mb:Nat}{I:Ix}{F:List Nat}{vl vo:Value}{q:QS}{n Kz mm k:Nat}{l o:List PR}
theorem TW.act(h:TW w wb tb mb I F vl vo q n Kz l o)(kd nn:Int)(key az val:ByteArray):TW (w.alloc (.cells (tK kd nn key az val) 28)) wb tb mb I F vl vo q n Kz l o/\aJ (w.alloc (.cells (tK kd nn key az val) 28)) w.heap.size 28 (tK kd nn key az val)/\w.heap.size∉wb::mb::F/\ag (wb::mb::F) w (w.alloc (.cells (tK kd nn key az val) 28)):=by
 have hb:=ae (Below.refl w.heap.size w) (.cells (tK kd nn key az val) 28);have T0:=h.below hb;have C:=aJ.new w 28 (tK kd nn key az val);exact⟨T0,C,T0.actF C,.aj hb⟩
theorem pK.of{w':World}{RG vo':Value}{q':QS}{K':Nat}{l' o':List PR}(T:TW w' wb nF rO I F' RG vo' q' n K' l' o')(i:TI q' l' o' mm k)(ho:ag (wb::mb::F) w w')(f:FrA (mb::tb::F) w.heap.size (rO::nF::F'))(hK:K'<=Kz):pK w w' wb tb mb I F n Kz mm k:=⟨nF,rO,F',RG,vo',q',l',o',T.le hK,i,ho,f⟩
theorem rF{w1:Nat}(f1:∀g∈F1,g∈F\/z<=g)(hz:z<=w1)(f2:∀g∈rO::nF::F',g∈F1\/w1<=g):FrA (mb::tb::F) z (rO::nF::F'):=λg hg=>(f2 g hg).elim (λh=>(f1 g h).elim (λh=> .inl (ax _ (ax _ h))) .inr) (λh=> .inr (ar hz h))
theorem rG(f1:∀g∈F1,g∈F\/z<=g):FrA (mb::tb::F) z (mb::tb::F1):=λg hg=>by
 simp only[an]at hg
 rcases hg with rfl|rfl|hg
 .exact .inl (by simp)
 .exact .inl (by simp)
 .exact(f1 g hg).elim (λh=> .inl (ax _ (ax _ h))) .inr
end
theorem uU(h:TW w wb tb mb I F vl vo q n Kz l o)(hi:TI q l o mm k)(hk:k<100)(hK:Kz<=999900000000)(kd nn:Int)(key az val:ByteArray)(xK:key.size<=100000)(Ce:val.size<=100000)(Co:kd=0\/kd=1\/kd=2\/kd=3\/kd=4):
  Calls prog 15 #[.pointer (some ⟨wb,0,none⟩),.agg (tK kd nn key az val)] w λe w'=>e=.returned (.bool true)/\pK w w' wb tb mb I F n (Kz+40000000) mm (k+1):=by
 have G:=hi.setM key val hk;have hlen:=hi.sorted.2;obtain⟨q1,e1,Bt⟩:∃q1 e1,q.iQ key val=(q1,e1):=⟨_,_,rfl⟩;have KS:=xh (λ(W:World) (hW:TW W wb tb mb I F vl vo q n Kz l o)=>AF hW.t (by omega) key val xK Ce);rw[Bt]at KS G;dsimp only at KS G;obtain⟨f1,oS⟩:∃f1:Int,(if 32<key.size\/1024<val.size then 4 else 0)=f1:=⟨_,rfl⟩;have KM:=xh (λ(W:World) (v:Value) (hW:Mp W mb v l)=>Ws hW key val (by omega) (by omega) (by omega));rw[oS]at KM G
 have HF:=xh (show f1≠11/\f1≠12 from by rw[<-oS];split<;>decide);unfold tp at KS;clear oS Bt hlen;obtain⟨T0,CZ,lG,O0⟩:=h.act kd nn key az val;obtain⟨z,hz⟩:∃z,w.heap.size=z:=⟨_,rfl⟩;rw[hz]at CZ lG;have T0:=xh T0;have CZ:=xh CZ;have lG:=xh lG;have O0:=xh O0;have HZ:=xh hz;have Br:=xh (And.intro hk hK);clear h hi hk hK hz;have y0:=CZ.o.ab (i:=0) rfl;have y2:=CZ.o.ab (i:=2) rfl;have y4:=CZ.o.ab (i:=4) rfl
 obtain⟨x1,x2,x3,x4⟩:=T0.o.cells;have tw:=HZ.o;unfold tK at *
 rcases G with⟨g1,J⟩|⟨g1,J⟩
 .have J:=xh J;rw[g1]at KS;clear g1 KM
  rcases Co with rfl|rfl|rfl|rfl|rfl
  all_goals
   go_enter func15,ntmps15;go_wp2_with fail;refine wp_region_held_drew (S:=λW=>W.cell? ⟨wb,2,none⟩=some (.pointer (some ⟨tb,0,none⟩))/\W.cell? ⟨z,2,none⟩=some (.string key)/\W.cell? ⟨z,4,none⟩=some (.string val)) (by kernel_rfl) (⟨x2,y2,y4⟩) (λah=>?_);refine bM [(0,20),(1,21),(2,22),(3,23),(4,24),(5,25),(6,26),(7,27)] ?_
   iterate 8 refine aG ?_
   refine bY 8 28 λK hK=>?_;go_simp
   go_at_call 25
   refine(KS.o _ T0.o.drew).mono ?_;rintro e w1 ⟨rfl,hp⟩;obtain⟨F1,T1,o1,f1⟩:=T0.o.drew.tree hp;have T1:=xh T1;have C1:=xh (CZ.o.drew.only o1 (λhm=>lG.o (ax _ (ax _ hm))));have O1:=xh (O0.o.drew.trans (o1.mono (λx hx _=>ax _ (ax _ hx))));have f1:=xh (show ∀g∈F1,g∈F\/w.heap.size<=g from λg hg=>(f1 g hg).imp id (λh=>ar O0.o.size h));clear hp o1;go_simp
   refine aA hK (⟨T1.o.cells.2.1,C1.o.ab (i:=2) rfl,C1.o.ab (i:=4) rfl⟩) (λah=>?_);refine bM [(9,5)] ?_
   iterate 1 refine aG ?_
   refine wpAnyH_done (by kernel_rfl) ?_ _;clear y0 y2 y4;clear x1 x2 x3 x4;obtain⟨x1,x2,x3,x4⟩:=T1.o.cells;go_wp2_with fail;refine(dU _).mono ?_;rintro e _ ⟨rfl,rfl⟩;go_wp2_with fail;refine(dU _).mono ?_;rintro e _ ⟨rfl,rfl⟩;have KB:=xh (jZ T1.o (by have:=Br.o;omega) J.o.back.1);clear x1 x2 x3 x4;go_wp2_with fail;refine KB.o.mono ?_;rintro e w9 ⟨rfl,nF,rO,F',T9,o9,f9⟩
   have R9:=xh (show pK w w9 wb tb mb I F n (Kz+40000000) mm (k+1)from pK.of T9 J.o.back.2 (O1.o.aO o9 (λx hx hl=>(an.1 hx).elim (λe=>by simp[e]) (λh=>(f1.o x h).elim (λh=>by simp[h]) (λh=>by omega)))) (rF f1.o O1.o.size f9) (by omega));clear T9 o9 f9;go_wp2_with fail;go_ret;exact aE R9.o
 .have J:=xh J;rw[g1]at KS;clear g1;have Ju:=xh HF.o.1;have rW:=xh HF.o.2
  rcases Co with rfl|rfl|rfl|rfl|rfl
  all_goals
   go_enter func15,ntmps15;go_wp2_with fail;refine wp_region_held_drew (S:=λW=>W.cell? ⟨wb,2,none⟩=some (.pointer (some ⟨tb,0,none⟩))/\W.cell? ⟨z,2,none⟩=some (.string key)/\W.cell? ⟨z,4,none⟩=some (.string val)) (by kernel_rfl) (⟨x2,y2,y4⟩) (λah=>?_);refine bM [(0,20),(1,21),(2,22),(3,23),(4,24),(5,25),(6,26),(7,27)] ?_
   iterate 8 refine aG ?_
   refine bY 8 28 λK hK=>?_;go_simp
   go_at_call 25
   refine(KS.o _ T0.o.drew).mono ?_;rintro e w1 ⟨rfl,hp⟩;obtain⟨F1,T1,o1,f1⟩:=T0.o.drew.tree hp;have T1:=xh T1;have C1:=xh (CZ.o.drew.only o1 (λhm=>lG.o (ax _ (ax _ hm))));have O1:=xh (O0.o.drew.trans (o1.mono (λx hx _=>ax _ (ax _ hx))));have f1:=xh (show ∀g∈F1,g∈F\/w.heap.size<=g from λg hg=>(f1 g hg).imp id (λh=>ar O0.o.size h));clear hp o1;go_simp
   refine aA hK (⟨T1.o.cells.2.1,C1.o.ab (i:=2) rfl,C1.o.ab (i:=4) rfl⟩) (λah=>?_);refine bM [(9,5)] ?_
   iterate 1 refine aG ?_
   refine wpAnyH_done (by kernel_rfl) ?_ _;clear y0 y2 y4;clear x1 x2 x3 x4;have y2:=C1.o.ab (i:=2) rfl;have y4:=C1.o.ab (i:=4) rfl;obtain⟨x1,x2,x3,x4⟩:=T1.o.cells;go_wp2_with fail;refine(eW _ Ju.o rW.o _).mono ?_;rintro e _ ⟨rfl,rfl⟩;go_wp2_with fail
   refine wp_region_held_drew (S:=λW=>W.cell? ⟨wb,3,none⟩=some (.pointer (some ⟨mb,0,none⟩))/\W.cell? ⟨z,2,none⟩=some (.string key)/\W.cell? ⟨z,4,none⟩=some (.string val)) (by kernel_rfl) (⟨x3,y2,y4⟩) (λah=>?_);refine bM [(0,32),(1,33),(2,34),(3,35),(4,36),(5,37),(6,38),(7,39)] ?_
   iterate 8 refine aG ?_
   refine bY 8 40 λK hK=>?_;go_simp
   go_at_call 54
   refine(KM.o _ _ T1.o.drew.m).mono ?_;rintro e w2 ⟨rfl,v2,M2,o2⟩;have T2:=xh (T1.o.drew.map o2 M2);have C2:=xh (C1.o.drew.only o2 (λhm=>lG.o (by simp at hm;simp[hm])));have O2:=xh (O1.o.drew.trans (o2.mono (λx hx _=>by simp at hx;simp[hx])));clear M2 o2;go_simp;refine aA hK (⟨T2.o.cells.2.2.1,C2.o.ab (i:=2) rfl,C2.o.ab (i:=4) rfl⟩) (λah=>?_);refine bM [(9,6)] ?_
   iterate 1 refine aG ?_
   refine wpAnyH_done (by kernel_rfl) ?_ _;clear x1 x2 x3 x4;go_wp2_with fail;refine(eW _ Ju.o rW.o _).mono ?_;rintro e _ ⟨rfl,rfl⟩;have R9:=xh (show pK w _ wb tb mb I F n (Kz+40000000) mm (k+1)from pK.of T2.o J.o O2.o (rG f1.o) (by omega));go_wp2_with fail;go_ret;exact aE R9.o
theorem OM(h:TW w wb tb mb I F vl vo q n Kz l o)(hi:TI q l o mm k)(hk:k<100)(hK:Kz<=999900000000)(kd nn:Int)(key az val:ByteArray)(xK:key.size<=100000)(Ce:val.size<=100000)(Co:kd=5\/kd=6):
  Calls prog 15 #[.pointer (some ⟨wb,0,none⟩),.agg (tK kd nn key az val)] w λe w'=>e=.returned (.bool true)/\pK w w' wb tb mb I F n (Kz+40000000) mm (k+1):=by
 have G:=hi.delM key;obtain⟨q1,e1,Bt⟩:∃q1 e1,q.jj key=(q1,e1):=⟨_,_,rfl⟩;have KS:=xh (λ(W:World) (hW:TW W wb tb mb I F vl vo q n Kz l o)=>AH hW.t (by omega) key);rw[Bt]at KS G;dsimp only at KS G;obtain⟨f1,oS⟩:∃f1:Int,(if tJ l key=true then 0 else 9)=f1:=⟨_,rfl⟩;have KM:=xh (λ(W:World) (v:Value) (hW:Mp W mb v l)=>Wr hW key);rw[oS]at KM G
 have G:(e1=11/\TJ q1 o mm (k+1))\/(e1=f1/\TI q1 (Jj l key) o mm (k+1)):=G.imp (λx=>⟨x.1,x.2.le (by omega)⟩) (λx=>⟨x.1,x.2.le (by omega)⟩);have HF:=xh (show f1≠11/\f1≠12 from by rw[<-oS];split<;>decide);unfold tp at KS;clear oS Bt;obtain⟨T0,CZ,lG,O0⟩:=h.act kd nn key az val;obtain⟨z,hz⟩:∃z,w.heap.size=z:=⟨_,rfl⟩;rw[hz]at CZ lG;have T0:=xh T0;have CZ:=xh CZ;have lG:=xh lG;have O0:=xh O0;have HZ:=xh hz;have Br:=xh (And.intro hk hK)
 clear h hi hk hK hz;have y0:=CZ.o.ab (i:=0) rfl;have y2:=CZ.o.ab (i:=2) rfl;obtain⟨x1,x2,x3,x4⟩:=T0.o.cells;have tw:=HZ.o;unfold tK at *
 rcases G with⟨g1,J⟩|⟨g1,J⟩
 .have J:=xh J;rw[g1]at KS;clear g1 KM
  rcases Co with rfl|rfl
  all_goals
   go_enter func15,ntmps15;go_wp2_with fail;refine wp_region_held_drew (S:=λW=>W.cell? ⟨wb,2,none⟩=some (.pointer (some ⟨tb,0,none⟩))/\W.cell? ⟨z,2,none⟩=some (.string key)) (by kernel_rfl) (⟨x2,y2⟩) (λah=>?_);refine bM [(0,44),(1,45),(2,46),(3,47),(4,48),(5,49)] ?_
   iterate 6 refine aG ?_
   refine bY 6 50 λK hK=>?_;go_simp
   go_at_call 26
   refine(KS.o _ T0.o.drew).mono ?_;rintro e w1 ⟨rfl,hp⟩;obtain⟨F1,T1,o1,f1⟩:=T0.o.drew.tree hp;have T1:=xh T1;have C1:=xh (CZ.o.drew.only o1 (λhm=>lG.o (ax _ (ax _ hm))));have O1:=xh (O0.o.drew.trans (o1.mono (λx hx _=>ax _ (ax _ hx))));have f1:=xh (show ∀g∈F1,g∈F\/w.heap.size<=g from λg hg=>(f1 g hg).imp id (λh=>ar O0.o.size h));clear hp o1;go_simp
   refine aA hK (⟨T1.o.cells.2.1,C1.o.ab (i:=2) rfl⟩) (λah=>?_);refine bM [(7,5)] ?_
   iterate 1 refine aG ?_
   refine wpAnyH_done (by kernel_rfl) ?_ _;clear y0 y2;clear x1 x2 x3 x4;obtain⟨x1,x2,x3,x4⟩:=T1.o.cells;go_wp2_with fail;refine(dU _).mono ?_;rintro e _ ⟨rfl,rfl⟩;go_wp2_with fail;refine(dU _).mono ?_;rintro e _ ⟨rfl,rfl⟩;have KB:=xh (jZ T1.o (by have:=Br.o;omega) J.o.back.1);clear x1 x2 x3 x4;go_wp2_with fail;refine KB.o.mono ?_;rintro e w9 ⟨rfl,nF,rO,F',T9,o9,f9⟩
   have R9:=xh (show pK w w9 wb tb mb I F n (Kz+40000000) mm (k+1)from pK.of T9 J.o.back.2 (O1.o.aO o9 (λx hx hl=>(an.1 hx).elim (λe=>by simp[e]) (λh=>(f1.o x h).elim (λh=>by simp[h]) (λh=>by omega)))) (rF f1.o O1.o.size f9) (by omega));clear T9 o9 f9;go_wp2_with fail;go_ret;exact aE R9.o
 .have J:=xh J;rw[g1]at KS;clear g1;have Ju:=xh HF.o.1;have rW:=xh HF.o.2
  rcases Co with rfl|rfl
  all_goals
   go_enter func15,ntmps15;go_wp2_with fail;refine wp_region_held_drew (S:=λW=>W.cell? ⟨wb,2,none⟩=some (.pointer (some ⟨tb,0,none⟩))/\W.cell? ⟨z,2,none⟩=some (.string key)) (by kernel_rfl) (⟨x2,y2⟩) (λah=>?_);refine bM [(0,44),(1,45),(2,46),(3,47),(4,48),(5,49)] ?_
   iterate 6 refine aG ?_
   refine bY 6 50 λK hK=>?_;go_simp
   go_at_call 26
   refine(KS.o _ T0.o.drew).mono ?_;rintro e w1 ⟨rfl,hp⟩;obtain⟨F1,T1,o1,f1⟩:=T0.o.drew.tree hp;have T1:=xh T1;have C1:=xh (CZ.o.drew.only o1 (λhm=>lG.o (ax _ (ax _ hm))));have O1:=xh (O0.o.drew.trans (o1.mono (λx hx _=>ax _ (ax _ hx))));have f1:=xh (show ∀g∈F1,g∈F\/w.heap.size<=g from λg hg=>(f1 g hg).imp id (λh=>ar O0.o.size h));clear hp o1;go_simp
   refine aA hK (⟨T1.o.cells.2.1,C1.o.ab (i:=2) rfl⟩) (λah=>?_);refine bM [(7,5)] ?_
   iterate 1 refine aG ?_
   refine wpAnyH_done (by kernel_rfl) ?_ _;clear y0 y2;clear x1 x2 x3 x4;have y2:=C1.o.ab (i:=2) rfl;obtain⟨x1,x2,x3,x4⟩:=T1.o.cells;go_wp2_with fail;refine(eW _ Ju.o rW.o _).mono ?_;rintro e _ ⟨rfl,rfl⟩;go_wp2_with fail;refine wp_region_held_drew (S:=λW=>W.cell? ⟨wb,3,none⟩=some (.pointer (some ⟨mb,0,none⟩))/\W.cell? ⟨z,2,none⟩=some (.string key)) (by kernel_rfl) (⟨x3,y2⟩) (λah=>?_);refine bM [(0,54),(1,55),(2,56),(3,57),(4,58),(5,59)] ?_
   iterate 6 refine aG ?_
   refine bY 6 60 λK hK=>?_;go_simp
   go_at_call 55
   refine(KM.o _ _ T1.o.drew.m).mono ?_;rintro e w2 ⟨rfl,v2,M2,o2⟩;have T2:=xh (T1.o.drew.map o2 M2);have C2:=xh (C1.o.drew.only o2 (λhm=>lG.o (by simp at hm;simp[hm])));have O2:=xh (O1.o.drew.trans (o2.mono (λx hx _=>by simp at hx;simp[hx])));clear M2 o2;go_simp;refine aA hK (⟨T2.o.cells.2.2.1,C2.o.ab (i:=2) rfl⟩) (λah=>?_);refine bM [(7,6)] ?_
   iterate 1 refine aG ?_
   refine wpAnyH_done (by kernel_rfl) ?_ _;clear x1 x2 x3 x4;go_wp2_with fail;refine(eW _ Ju.o rW.o _).mono ?_;rintro e _ ⟨rfl,rfl⟩;have R9:=xh (show pK w _ wb tb mb I F n (Kz+40000000) mm (k+1)from pK.of T2.o J.o O2.o (rG f1.o) (by omega));go_wp2_with fail;go_ret;exact aE R9.o
variable{w:World}{wb tb mb n Kz mm k:Nat}{I:Ix}{F:List Nat}{vl vo:Value}{q:QS}{l o:List PR}
theorem Rq(h:TW w wb tb mb I F vl vo q n Kz l o)(hi:TI q l o mm k)(hk:k<100)(hK:Kz<=999900000000)(kd nn:Int)(key az val:ByteArray)(xK:key.size<=100000)(Ce:val.size<=100000)(Co:kd=10):
  Calls prog 15 #[.pointer (some ⟨wb,0,none⟩),.agg (tK kd nn key az val)] w λe w'=>e=.returned (.bool true)/\pK w w' wb tb mb I F n (Kz+40000000) mm (k+1):=by
 have G:=hi.clearM key az;obtain⟨q1,c1,e1,Bt⟩:∃q1 c1 e1,q.ia key az=(q1,c1,e1):=⟨_,_,_,rfl⟩;have KS:=xh (λ(W:World) (hW:TW W wb tb mb I F vl vo q n Kz l o)=>MU hW.t (by omega) key az);rw[Bt]at KS G;dsimp only at KS G;have KM:=xh (λ(W:World) (v:Value) (hW:Mp W mb v l)=>M0 hW key az);unfold tp at KS;clear Bt;obtain⟨T0,CZ,lG,O0⟩:=h.act kd nn key az val;obtain⟨z,hz⟩:∃z,w.heap.size=z:=⟨_,rfl⟩;rw[hz]at CZ lG;have T0:=xh T0;have CZ:=xh CZ
 have lG:=xh lG;have O0:=xh O0;have HZ:=xh hz;have Br:=xh (And.intro hk hK);clear h hi hk hK hz;have y0:=CZ.o.ab (i:=0) rfl;have y2:=CZ.o.ab (i:=2) rfl;have y3:=CZ.o.ab (i:=3) rfl;obtain⟨x1,x2,x3,x4⟩:=T0.o.cells;have tw:=HZ.o;unfold tK at *;subst Co
 rcases G with⟨g1,J⟩|⟨g1,J⟩
 .have J:=xh (J.le (show k<=k+1 by omega));subst g1;clear KM;go_enter func15,ntmps15;go_wp2_with fail;refine wp_region_held_drew (S:=λW=>W.cell? ⟨wb,2,none⟩=some (.pointer (some ⟨tb,0,none⟩))/\W.cell? ⟨z,2,none⟩=some (.string key)/\W.cell? ⟨z,3,none⟩=some (.string az)) (by kernel_rfl) (⟨x2,y2,y3⟩) (λah=>?_);refine bM [(0,64),(1,65),(2,66),(3,67),(4,68),(5,69),(6,70),(7,71)] ?_
  iterate 8 refine aG ?_
  refine bY 8 72 λK hK=>?_;go_simp
  go_at_call 22
  refine(KS.o _ T0.o.drew).mono ?_;rintro e w1 ⟨rfl,hp⟩;obtain⟨F1,T1,o1,f1⟩:=T0.o.drew.tree hp;have T1:=xh T1;have C1:=xh (CZ.o.drew.only o1 (λhm=>lG.o (ax _ (ax _ hm))));have O1:=xh (O0.o.drew.trans (o1.mono (λx hx _=>ax _ (ax _ hx))));have f1:=xh (show ∀g∈F1,g∈F\/w.heap.size<=g from λg hg=>(f1 g hg).imp id (λh=>ar O0.o.size h));clear hp o1;go_simp
  refine aA hK (⟨T1.o.cells.2.1,C1.o.ab (i:=2) rfl,C1.o.ab (i:=3) rfl⟩) (λah=>?_);refine bM [(9,63),(10,73),(11,74),(12,7),(13,8)] ?_
  iterate 5 refine aG ?_
  refine wpAnyH_done (by kernel_rfl) ?_ _;clear y0 y2 y3 x1 x2 x3 x4;have y2:=C1.o.ab (i:=2) rfl;have y3:=C1.o.ab (i:=3) rfl;obtain⟨x1,x2,x3,x4⟩:=T1.o.cells;go_wp2_with fail;refine wp_region_held_drew (S:=λW=>W.cell? ⟨wb,3,none⟩=some (.pointer (some ⟨mb,0,none⟩))) (by kernel_rfl) (x3) (λah=>?_);refine bM [(0,76)] ?_
  iterate 1 refine aG ?_
  refine bY 1 77 λK hK=>?_;go_simp
  go_at_call 18
  refine(dU _).mono ?_;rintro e _ ⟨rfl,rfl⟩;go_simp;refine aA hK (x3) (λah=>?_);refine bM [(2,78),(3,79)] ?_
  iterate 2 refine aG ?_
  refine cG 4 80 ?_;refine cG 5 81 ?_;refine cG 6 82 ?_;refine cG 7 83 ?_;refine cG 8 84 ?_;refine cG 9 85 ?_;refine cG 10 86 ?_;refine cG 11 87 ?_;refine cG 12 88 ?_;refine cG 13 89 ?_;refine cG 14 90 ?_;refine bM [(15,91)] ?_
  iterate 1 refine aG ?_
  refine wpAnyH_done (by kernel_rfl) ?_ _;have T1:=xh T1.o.drew;have O1:=xh O1.o.drew;go_wp2_with fail;refine(dU _).mono ?_;rintro e _ ⟨rfl,rfl⟩;have KB:=xh (jZ T1.o (by have:=Br.o;omega) J.o.back.1);clear x1 x2 x3 x4;go_wp2_with fail;refine KB.o.mono ?_;rintro e w9 ⟨rfl,nF,rO,F',T9,o9,f9⟩
  have R9:=xh (show pK w w9 wb tb mb I F n (Kz+40000000) mm (k+1)from pK.of T9 J.o.back.2 (O1.o.aO o9 (λx hx hl=>(an.1 hx).elim (λe=>by simp[e]) (λh=>(f1.o x h).elim (λh=>by simp[h]) (λh=>by omega)))) (rF f1.o O1.o.size f9) (by omega));clear T9 o9 f9;go_wp2_with fail;go_ret;exact aE R9.o
 .have J:=xh (J.le (show k<=k+1 by omega));have g2:c1=(l.length:Int)-(po key az l).length:=congrArg Prod.fst g1;have g3:e1=0:=congrArg Prod.snd g1;subst g3;rw[<-g2]at KM;clear g1 g2;go_enter func15,ntmps15;go_wp2_with fail;refine wp_region_held_drew (S:=λW=>W.cell? ⟨wb,2,none⟩=some (.pointer (some ⟨tb,0,none⟩))/\W.cell? ⟨z,2,none⟩=some (.string key)/\W.cell? ⟨z,3,none⟩=some (.string az)) (by kernel_rfl) (⟨x2,y2,y3⟩) (λah=>?_)
  refine bM [(0,64),(1,65),(2,66),(3,67),(4,68),(5,69),(6,70),(7,71)] ?_
  iterate 8 refine aG ?_
  refine bY 8 72 λK hK=>?_;go_simp
  go_at_call 22
  refine(KS.o _ T0.o.drew).mono ?_;rintro e w1 ⟨rfl,hp⟩;obtain⟨F1,T1,o1,f1⟩:=T0.o.drew.tree hp;have T1:=xh T1;have C1:=xh (CZ.o.drew.only o1 (λhm=>lG.o (ax _ (ax _ hm))));have O1:=xh (O0.o.drew.trans (o1.mono (λx hx _=>ax _ (ax _ hx))));have f1:=xh (show ∀g∈F1,g∈F\/w.heap.size<=g from λg hg=>(f1 g hg).imp id (λh=>ar O0.o.size h));clear hp o1;go_simp
  refine aA hK (⟨T1.o.cells.2.1,C1.o.ab (i:=2) rfl,C1.o.ab (i:=3) rfl⟩) (λah=>?_);refine bM [(9,63),(10,73),(11,74),(12,7),(13,8)] ?_
  iterate 5 refine aG ?_
  refine wpAnyH_done (by kernel_rfl) ?_ _;clear y0 y2 y3 x1 x2 x3 x4;have y2:=C1.o.ab (i:=2) rfl;have y3:=C1.o.ab (i:=3) rfl;obtain⟨x1,x2,x3,x4⟩:=T1.o.cells;go_wp2_with fail;refine wp_region_held_drew (S:=λW=>W.cell? ⟨wb,3,none⟩=some (.pointer (some ⟨mb,0,none⟩))/\W.cell? ⟨z,2,none⟩=some (.string key)/\W.cell? ⟨z,3,none⟩=some (.string az)) (by kernel_rfl) (⟨x3,y2,y3⟩) (λah=>?_);refine bM [(0,76)] ?_
  iterate 1 refine aG ?_
  refine bY 1 77 λK hK=>?_;go_simp
  go_at_call 18
  refine(eW 0 (by omega) (by omega) _).mono ?_;rintro e _ ⟨rfl,rfl⟩;go_simp;refine aA hK (⟨x3,y2,y3⟩) (λah=>?_);refine bM [(2,78),(3,79),(4,80),(5,81),(6,82),(7,83),(8,84),(9,85),(10,86),(11,87),(12,88)] ?_
  iterate 11 refine aG ?_
  refine bY 13 89 λK hK=>?_;go_simp
  go_at_call 56
  refine(KM.o _ _ T1.o.drew.m).mono ?_;rintro e w2 ⟨rfl,v2,M2,o2,f2⟩;have T2:=xh (T1.o.drew.map o2 M2);have C2:=xh (C1.o.drew.only o2 (λhm=>lG.o (by simp at hm;simp[hm])));have O2:=xh (O1.o.drew.trans (o2.mono (λx hx _=>by simp at hx;simp[hx])));clear M2 o2 f2;go_simp;refine aA hK (⟨T2.o.cells.2.2.1,C2.o.ab (i:=2) rfl,C2.o.ab (i:=3) rfl⟩) (λah=>?_);refine bM [(14,90),(15,91)] ?_
  iterate 2 refine aG ?_
  refine wpAnyH_done (by kernel_rfl) ?_ _;clear x1 x2 x3 x4;go_wp2_with fail;refine(eW 0 (by omega) (by omega) _).mono ?_;rintro e _ ⟨rfl,rfl⟩;have R9:=xh (show pK w _ wb tb mb I F n (Kz+40000000) mm (k+1)from pK.of T2.o J.o O2.o (rG f1.o) (by omega));go_wp2_with fail;go_ret;exact aE R9.o
theorem M9(h:TW w wb tb mb I F vl vo q n Kz l o)(hi:TI q l o mm k)(hk:k<100)(hK:Kz<=999900000000)(kd nn:Int)(key az val:ByteArray)(xK:key.size<=100000)(Ce:val.size<=100000)(Co:kd=11):
  Calls prog 15 #[.pointer (some ⟨wb,0,none⟩),.agg (tK kd nn key az val)] w λe w'=>e=.returned (.bool true)/\pK w w' wb tb mb I F n (Kz+40000000) mm (k+1):=by
 have G:=hi.ko ⟨_,_,h.t.2.wp,by omega⟩;obtain⟨q1,e1,Bt⟩:∃q1 e1,q.aK=(q1,e1):=⟨_,_,rfl⟩;have KS:=xh (λ(W:World) (hW:TW W wb tb mb I F vl vo q n Kz l o)=>xu hW.t.2 (by omega));rw[Bt]at KS G;dsimp only at KS G;unfold pp at KS;obtain⟨A,c,rfl⟩:=au h.m.s;clear Bt;obtain⟨T0,CZ,lG,O0⟩:=h.act kd nn key az val;obtain⟨z,hz⟩:∃z,w.heap.size=z:=⟨_,rfl⟩;rw[hz]at CZ lG;have T0:=xh T0;have CZ:=xh CZ;have lG:=xh lG;have O0:=xh O0
 have HZ:=xh hz;have Br:=xh (And.intro hk hK);clear h hi hk hK hz;have y0:=CZ.o.ab (i:=0) rfl;obtain⟨x1,x2,x3,x4⟩:=T0.o.cells;have tw:=HZ.o;unfold tK at *;have m0:=T0.o.m.b.ab (i:=0) rfl;subst Co
 rcases G with⟨g1,J⟩|⟨g1,J⟩
 .have J:=xh (J.le (show k<=k+1 by omega));subst g1;go_enter func15,ntmps15;go_wp2_with fail;refine(KS.o _ T0.o).mono ?_;rintro e w1 ⟨rfl,hp⟩;obtain⟨F1,T1,o1,f1⟩:=T0.o.tree hp;have T1:=xh T1;have O1:=xh (O0.o.trans (o1.mono (λx hx _=>ax _ (ax _ hx))));have f1:=xh (show ∀g∈F1,g∈F\/w.heap.size<=g from λg hg=>(f1 g hg).imp id (λh=>ar O0.o.size h));clear hp o1 x1 x2 x3 x4 m0
  obtain⟨x1,x2,x3,x4⟩:=T1.o.cells;have m0:=T1.o.m.b.ab (i:=0) rfl;have z4:=T1.o.b.frozen 4 (by simp);have P4:=(ag.refl [wb] w1).setCell (p:=⟨wb,4,none⟩) (λ_=>by simp) (.slice A l.length c);have B4:=T1.o.b.bE 4 (.slice A l.length c);have h4:∀g∈ai (.slice A l.length c),g≠wb:=Bm T1.o.m.s T1.o.b (by decide);have hn:=T1.o.m.n
  have T4:=xh (show TW _ wb tb mb I F1 (.slice A l.length c) (.slice A l.length c) q1 n (Kz+40) l l from⟨B4,⟨T1.o.m.b.only P4 (by simpa using T1.o.wm.symm),T1.o.m.s.only P4 (λg hg hm=>h4 g hg (aQ.1 hm)),hn⟩,T1.o.m.s.only P4 (λg hg hm=>h4 g hg (aQ.1 hm)),T1.o.t.only P4 (λg hg hm=>by
   have e:=aQ.1 hm;subst e;exact(an.1 hg).elim T1.o.wt T1.o.wF),hn⟩)
  have R9:=xh (show pK w _ wb tb mb I F n (Kz+40000000) mm (k+1)from pK.of T4.o J.o (O1.o.trans (P4.mono (λx hx _=>by simp at hx;simp[hx]))) (rG f1.o) (by omega));clear P4 B4 h4 hn;go_wp2_with fail;refine(eW 0 (by omega) (by omega) _).mono ?_;rintro e _ ⟨rfl,rfl⟩;go_wp2_with fail;go_ret;exact aE R9.o
 .have J:=xh (J.le (show k<=k+1 by omega));subst g1;go_enter func15,ntmps15;go_wp2_with fail;refine(KS.o _ T0.o).mono ?_;rintro e w1 ⟨rfl,hp⟩;obtain⟨F1,T1,o1,f1⟩:=T0.o.tree hp;have T1:=xh T1;have O1:=xh (O0.o.trans (o1.mono (λx hx _=>ax _ (ax _ hx))));have f1:=xh (show ∀g∈F1,g∈F\/w.heap.size<=g from λg hg=>(f1 g hg).imp id (λh=>ar O0.o.size h));clear hp o1 x1 x2 x3 x4 m0
  obtain⟨x1,x2,x3,x4⟩:=T1.o.cells;go_wp2_with fail;refine(dU _).mono ?_;rintro e _ ⟨rfl,rfl⟩;have KB:=xh (jZ T1.o (by have:=Br.o;omega) J.o.back.1);clear x1 x2 x3 x4;go_wp2_with fail;refine KB.o.mono ?_;rintro e w9 ⟨rfl,nF,rO,F',T9,o9,f9⟩
  have R9:=xh (show pK w w9 wb tb mb I F n (Kz+40000000) mm (k+1)from pK.of T9 J.o.back.2 (O1.o.aO o9 (λx hx hl=>(an.1 hx).elim (λe=>by simp[e]) (λh=>(f1.o x h).elim (λh=>by simp[h]) (λh=>by omega)))) (rF f1.o O1.o.size f9) (by omega));clear T9 o9 f9;go_wp2_with fail;go_ret;exact aE R9.o
theorem Ww(h:TW w wb tb mb I F vl vo q n Kz l o)(hi:TI q l o mm k)(hk:k<100)(hK:Kz<=999900000000)(kd nn:Int)(key az val:ByteArray)(xK:key.size<=100000)(Ce:val.size<=100000)(Co:kd=12):
  Calls prog 15 #[.pointer (some ⟨wb,0,none⟩),.agg (tK kd nn key az val)] w λe w'=>e=.returned (.bool true)/\pK w w' wb tb mb I F n (Kz+40000000) mm (k+1):=by
 have HI:=xh hi;obtain⟨T0,CZ,lG,O0⟩:=h.act kd nn key az val;obtain⟨z,hz⟩:∃z,w.heap.size=z:=⟨_,rfl⟩;rw[hz]at CZ lG;have T0:=xh T0;have CZ:=xh CZ;have lG:=xh lG;have O0:=xh O0;have HZ:=xh hz;have Br:=xh (And.intro hk hK);clear h hi hk hK hz;have y0:=CZ.o.ab (i:=0) rfl;obtain⟨x1,x2,x3,x4⟩:=T0.o.cells;have tw:=HZ.o;unfold tK at *;subst Co;have J:=xh (HI.o.j.le (show k<=k+1 by omega))
 have KB:=xh (jZ T0.o (by have:=Br.o;omega) J.o.back.1);go_enter func15,ntmps15;go_wp2_with fail;refine KB.o.mono ?_;rintro e w9 ⟨rfl,nF,rO,F',T9,o9,f9⟩;have R9:=xh (show pK w w9 wb tb mb I F n (Kz+40000000) mm (k+1)from pK.of T9 J.o.back.2 (O0.o.trans (o9.mono (λx hx _=>(an.1 hx).elim (λe=>by simp[e]) (λh=>by simp[h])))) (rF (λg hg=> .inl hg) O0.o.size f9) (by omega));clear T9 o9 f9;go_wp2_with fail;go_ret
 exact aE R9.o
theorem Rr(h:TW w wb tb mb I F vl vo q n Kz l o)(hi:TI q l o mm k)(hk:k<100)(hK:Kz<=999900000000)(kd nn:Int)(key az val:ByteArray)(xK:key.size<=100000)(Ce:val.size<=100000)(Co:kd=13):
  Calls prog 15 #[.pointer (some ⟨wb,0,none⟩),.agg (tK kd nn key az val)] w λe w'=>e=.returned (.bool true)/\pK w w' wb tb mb I F n (Kz+40000000) mm (k+1):=by
 obtain⟨G,G2⟩:=hi.xr nn;obtain⟨q1,e1,Bt⟩:∃q1 e1,q.eU nn=(q1,e1):=⟨_,_,rfl⟩;have KS:=xh (λ(W:World) (hW:TW W wb tb mb I F vl vo q n Kz l o)=>LL hW.t.2 (by omega) nn);rw[Bt]at KS G G2;dsimp only at KS G G2;unfold pp at KS;have G:=xh (G.le (show k<=k+1 by omega));have J:=xh G.o.j;clear Bt;obtain⟨T0,CZ,lG,O0⟩:=h.act kd nn key az val;obtain⟨z,hz⟩:∃z,w.heap.size=z:=⟨_,rfl⟩;rw[hz]at CZ lG;have T0:=xh T0;have CZ:=xh CZ;have lG:=xh lG
 have O0:=xh O0;have HZ:=xh hz;have Br:=xh (And.intro hk hK);clear h hi hk hK hz;have y0:=CZ.o.ab (i:=0) rfl;have y1:=CZ.o.ab (i:=1) rfl;obtain⟨x1,x2,x3,x4⟩:=T0.o.cells;have tw:=HZ.o;unfold tK at *;subst Co
 rcases G2 with rfl|rfl|rfl
 .go_enter func15,ntmps15;go_wp2_with fail;refine wp_region_held_drew (S:=λW=>W.cell? ⟨wb,1,none⟩=some (.pointer (some ⟨I.pb,0,none⟩))/\W.cell? ⟨z,1,none⟩=some (.int .i64 nn)) (by kernel_rfl) (⟨x1,y1⟩) (λah=>?_);refine bM [(0,117),(1,118),(2,119),(3,120),(4,121),(5,122)] ?_
  iterate 6 refine aG ?_
  refine bY 6 123 λK hK=>?_;go_simp
  go_at_call 58
  refine(KS.o _ T0.o.drew).mono ?_;rintro e w1 ⟨rfl,p1,o1⟩;have T1:=xh (T0.o.drew.next o1 p1);have C1:=xh (CZ.o.drew.only o1 (λhm=>lG.o (ax _ (ax _ hm))));have O1:=xh (O0.o.drew.trans (o1.mono (λx hx _=>ax _ (ax _ hx))));have f1:=xh (show ∀g∈F,g∈F\/w.heap.size<=g from λg hg=> .inl hg);clear p1 o1;go_simp;refine aA hK (⟨T1.o.cells.1,C1.o.ab (i:=1) rfl⟩) (λah=>?_)
  refine bM [(7,5)] ?_
  iterate 1 refine aG ?_
  refine wpAnyH_done (by kernel_rfl) ?_ _;clear x1 x2 x3 x4;go_wp2_with fail;refine(eW 0 (by omega) (by omega) _).mono ?_;rintro e _ ⟨rfl,rfl⟩;have R9:=xh (show pK w _ wb tb mb I F n (Kz+40000000) mm (k+1)from pK.of T1.o G.o O1.o (rG f1.o) (by omega));go_wp2_with fail;go_ret;exact aE R9.o
 .go_enter func15,ntmps15;go_wp2_with fail;refine wp_region_held_drew (S:=λW=>W.cell? ⟨wb,1,none⟩=some (.pointer (some ⟨I.pb,0,none⟩))/\W.cell? ⟨z,1,none⟩=some (.int .i64 nn)) (by kernel_rfl) (⟨x1,y1⟩) (λah=>?_);refine bM [(0,117),(1,118),(2,119),(3,120),(4,121),(5,122)] ?_
  iterate 6 refine aG ?_
  refine bY 6 123 λK hK=>?_;go_simp
  go_at_call 58
  refine(KS.o _ T0.o.drew).mono ?_;rintro e w1 ⟨rfl,p1,o1⟩;have T1:=xh (T0.o.drew.next o1 p1);have C1:=xh (CZ.o.drew.only o1 (λhm=>lG.o (ax _ (ax _ hm))));have O1:=xh (O0.o.drew.trans (o1.mono (λx hx _=>ax _ (ax _ hx))));have f1:=xh (show ∀g∈F,g∈F\/w.heap.size<=g from λg hg=> .inl hg);clear p1 o1;go_simp;refine aA hK (⟨T1.o.cells.1,C1.o.ab (i:=1) rfl⟩) (λah=>?_)
  refine bM [(7,5)] ?_
  iterate 1 refine aG ?_
  refine wpAnyH_done (by kernel_rfl) ?_ _;clear x1 x2 x3 x4;go_wp2_with fail;refine(eW 0 (by omega) (by omega) _).mono ?_;rintro e _ ⟨rfl,rfl⟩;have R9:=xh (show pK w _ wb tb mb I F n (Kz+40000000) mm (k+1)from pK.of T1.o G.o O1.o (rG f1.o) (by omega));go_wp2_with fail;go_ret;exact aE R9.o
 .go_enter func15,ntmps15;go_wp2_with fail;refine wp_region_held_drew (S:=λW=>W.cell? ⟨wb,1,none⟩=some (.pointer (some ⟨I.pb,0,none⟩))/\W.cell? ⟨z,1,none⟩=some (.int .i64 nn)) (by kernel_rfl) (⟨x1,y1⟩) (λah=>?_);refine bM [(0,117),(1,118),(2,119),(3,120),(4,121),(5,122)] ?_
  iterate 6 refine aG ?_
  refine bY 6 123 λK hK=>?_;go_simp
  go_at_call 58
  refine(KS.o _ T0.o.drew).mono ?_;rintro e w1 ⟨rfl,p1,o1⟩;have T1:=xh (T0.o.drew.next o1 p1);have C1:=xh (CZ.o.drew.only o1 (λhm=>lG.o (ax _ (ax _ hm))));have O1:=xh (O0.o.drew.trans (o1.mono (λx hx _=>ax _ (ax _ hx))));have f1:=xh (show ∀g∈F,g∈F\/w.heap.size<=g from λg hg=> .inl hg);clear p1 o1;go_simp;refine aA hK (⟨T1.o.cells.1,C1.o.ab (i:=1) rfl⟩) (λah=>?_)
  refine bM [(7,5)] ?_
  iterate 1 refine aG ?_
  refine wpAnyH_done (by kernel_rfl) ?_ _;clear x1 x2 x3 x4;obtain⟨x1,x2,x3,x4⟩:=T1.o.cells;go_wp2_with fail;refine(dU _).mono ?_;rintro e _ ⟨rfl,rfl⟩;have KB:=xh (jZ T1.o (by have:=Br.o;omega) J.o.back.1);clear x1 x2 x3 x4;go_wp2_with fail;refine KB.o.mono ?_;rintro e w9 ⟨rfl,nF,rO,F',T9,o9,f9⟩
  have R9:=xh (show pK w w9 wb tb mb I F n (Kz+40000000) mm (k+1)from pK.of T9 J.o.back.2 (O1.o.aO o9 (λx hx hl=>(an.1 hx).elim (λe=>by simp[e]) (λh=>(f1.o x h).elim (λh=>by simp[h]) (λh=>by omega)))) (rF f1.o O1.o.size f9) (by omega));clear T9 o9 f9;go_wp2_with fail;go_ret;exact aE R9.o
theorem tdo_ask(h:TW w wb tb mb I F vl vo q n Kz l o)(hi:TI q l o mm k)(hk:k<100)(hK:Kz<=999900000000)(kd nn:Int)(key az val:ByteArray)(xK:key.size<=100000)(Ce:val.size<=100000)(Co:¬kd=0/\¬kd=1/\¬kd=2/\¬kd=3/\¬kd=4/\¬kd=5/\¬kd=6/\¬kd=10/\¬kd=11/\¬kd=12/\¬kd=13):
  Calls prog 15 #[.pointer (some ⟨wb,0,none⟩),.agg (tK kd nn key az val)] w λe w'=>e=.returned (.bool true)/\pK w w' wb tb mb I F n (Kz+40000000) mm (k+1):=by
 have HI:=xh (hi.le (show k<=k+1 by omega));obtain⟨n0,n1,n2,n3,n4,n5,n6,n10,n11,n12,n13⟩:=Co;obtain⟨T0,CZ,lG,O0⟩:=h.act kd nn key az val;obtain⟨z,hz⟩:∃z,w.heap.size=z:=⟨_,rfl⟩;rw[hz]at CZ lG;have T0:=xh T0;have CZ:=xh CZ;have lG:=xh lG;have O0:=xh O0;have HZ:=xh hz;have Br:=xh (And.intro hk hK);clear h hi hk hK hz;have y0:=CZ.o.ab (i:=0) rfl;have y1:=CZ.o.ab (i:=1) rfl;have y2:=CZ.o.ab (i:=2) rfl
 have y3:=CZ.o.ab (i:=3) rfl;have y4:=CZ.o.ab (i:=4) rfl;obtain⟨x1,x2,x3,x4⟩:=T0.o.cells;have tw:=HZ.o;unfold tK at *;have KA:=xh (Rp T0.o HI.o (by have:=Br.o;omega) (by have:=Br.o;omega) kd nn key az val);unfold tK at KA;go_enter func15,ntmps15;go_wp2_with fail;refine KA.o.mono ?_;rintro e w9 ⟨rfl,nF,rO,F',RG,q',l',T9,J9,o9,f9⟩
 have R9:=xh (show pK w w9 wb tb mb I F n (Kz+40000000) mm (k+1)from pK.of T9 J9 (O0.o.trans (o9.mono (λx hx _=>(an.1 hx).elim (λe=>by simp[e]) (λh=>by simp[h])))) (λg hg=>(f9 g hg).imp id (λh=>ar O0.o.size h)) (by omega));clear T9 J9 o9 f9;go_wp2_with fail;go_ret;exact aE R9.o
theorem tdo_any(h:TW w wb tb mb I F vl vo q n Kz l o)(hi:TI q l o mm k)(hk:k<100)(hK:Kz<=999900000000)(kd nn:Int)(key az val:ByteArray)(xK:key.size<=100000)(Ce:val.size<=100000):
  Calls prog 15 #[.pointer (some ⟨wb,0,none⟩),.agg (tK kd nn key az val)] w λe w'=>e=.returned (.bool true)/\pK w w' wb tb mb I F n (Kz+40000000) mm (k+1):=by
 by_cases a0:kd=0;exact uU h hi hk hK kd nn key az val xK Ce (by omega)
 by_cases a1:kd=1;exact uU h hi hk hK kd nn key az val xK Ce (by omega)
 by_cases a2:kd=2;exact uU h hi hk hK kd nn key az val xK Ce (by omega)
 by_cases a3:kd=3;exact uU h hi hk hK kd nn key az val xK Ce (by omega)
 by_cases a4:kd=4;exact uU h hi hk hK kd nn key az val xK Ce (by omega)
 by_cases a5:kd=5;exact OM h hi hk hK kd nn key az val xK Ce (by omega)
 by_cases a6:kd=6;exact OM h hi hk hK kd nn key az val xK Ce (by omega)
 by_cases a10:kd=10;exact Rq h hi hk hK kd nn key az val xK Ce a10
 by_cases a11:kd=11;exact M9 h hi hk hK kd nn key az val xK Ce a11
 by_cases a12:kd=12;exact Ww h hi hk hK kd nn key az val xK Ce a12
 by_cases a13:kd=13;exact Rr h hi hk hK kd nn key az val xK Ce a13
 exact tdo_ask h hi hk hK kd nn key az val xK Ce ⟨a0,a1,a2,a3,a4,a5,a6,a10,a11,a12,a13⟩
variable{w w':World}{n:Nat}
instance:Inhabited RH:=⟨⟨0,0,.empty,.empty,.empty⟩⟩
structure Jl(w:World)(ad:Addr)(a:RH):Prop where
 c0:w.cell? ad=some (.int .i64 a.kd)
 c1:w.cell? ⟨ad.block,ad.off+1,none⟩=some (.int .i64 a.n)
 c2:w.cell? ⟨ad.block,ad.off+2,none⟩=some (.string a.key)
 c3:w.cell? ⟨ad.block,ad.off+3,none⟩=some (.string a.az)
 c4:w.cell? ⟨ad.block,ad.off+4,none⟩=some (.string a.val)
def wV(w:World)(A:Option Addr)(n:Nat)(F:Nat->RH):Prop:= ∀k,k<n->∃ad,A=some ad/\Jl w (ad.add (k*5)) (F k)
theorem Jl.below{ad:Addr}{a:RH}(h:Jl w ad a)(hb:Below w.heap.size w w'):Jl w' ad a:=by
 have dH:=dX h.c0;have e:∀j:Nat,w'.cell? ⟨ad.block,ad.off+j,none⟩=w.cell? ⟨ad.block,ad.off+j,none⟩:=λj=>hb.cell (p:=⟨ad.block,ad.off+j,none⟩) dH;exact⟨(hb.cell dH).trans h.c0,(e 1).trans h.c1,(e 2).trans h.c2,(e 3).trans h.c3,(e 4).trans h.c4⟩
theorem wV.below{A:Option Addr}{F:Nat->RH}(h:wV w A n F)(hb:Below w.heap.size w w'):wV w' A n F:=by
 intro k hk;obtain⟨ad,e,h1⟩:=h k hk;exact⟨ad,e,h1.below hb⟩
theorem add_att(a:Addr)(i j:Nat)(hj:0<j):(a.add i).add j=⟨(a.add i).block,(a.add i).off+j,none⟩:=by
 rw[Addr.add,if_neg (by omega)]
theorem Rs(a:Addr):a.add 0=a:=by simp[Addr.add]
theorem Na{α:Type}[Inhabited α]{p:Nat->α->Prop}(h:∀k,k<n->∃x,p k x):∃F:Nat->α,∀k,k<n->p k (F k):=by
 refine⟨λk=>if hk:k<n then Classical.choose (h k hk)else default,λk hk=>?_⟩;show p k (if hk:k<n then Classical.choose (h k hk)else default);rw[dif_pos hk];exact Classical.choose_spec (h k hk)
theorem Jm{H:Type}{enc:TypeId×Value->H}{base:Nat}{v:Value}{d:DataW H}{ps:List MemPlace}(fu:Value.okWide prog w .any base 22 v)(h:DataW.Trod enc prog w 0 (λ_=>true) true 22 v d ps):
  ∃(A:Option Addr) (n c:Nat) (F:Nat->RH),v=.slice A n c/\n<=9223372036854775807/\wV w A n F:=by
 obtain⟨a0,len,cap,rfl⟩:=Go.WideShapes.okWide_slice underlying22 fu;obtain⟨fuel,hf⟩:=h;have hce:prog.cellsOf 28=5:=by kernel_rfl
 rcases open_slice underlying22 hf with⟨Jp,_⟩|⟨a,len',Gr,m,n,D,Pl,Jp,_,hl,hm,Ot,_,ny⟩
 .simp[Value.cells]at Jp;obtain⟨rfl,rfl,rfl⟩:=Jp;exact⟨none,0,0,λ_=>default,rfl,aY _,λk hk=>absurd hk (by omega)⟩
 .simp[Value.cells]at Jp;obtain⟨rfl,rfl,rfl⟩:=Jp;simp at Ot;have each:∀k,k<len->∃x:RH,Jl w (a.add (k*5)) x:=by
   intro k hk;obtain⟨cs',Jp,sU⟩:=ny k (by omega);rw[hce]at Jp;obtain⟨_,_,MK⟩:=World.cells?_some Jp;obtain⟨y,rfl,_⟩:=Ro underlying28 (by kernel_rfl) rfl rfl rfl rfl rfl (by kernel_rfl) (by kernel_rfl) (by kernel_rfl) (by kernel_rfl) (by kernel_rfl) underlying3 underlying3 underlying9 underlying9 underlying9 sU;have g0:=MK 0 (by omega);have g1:=MK 1 (by omega);have g2:=MK 2 (by omega);have g3:=MK 3 (by omega);have g4:=MK 4 (by omega)
   rw[Rs]at g0;rw[add_att _ _ _ (by omega)]at g1 g2 g3 g4;exact⟨y,g0,g1,g2,g3,g4⟩
  obtain⟨F,hF⟩:=Na (p:=λk x=>Jl w (a.add (k*5)) x) each;exact⟨some a,len,cap,F,rfl,by unfold maxLen at hm;omega,λk hk=>⟨a,rfl,hF k hk⟩⟩
theorem xW(kd nn:Int)(key az val:ByteArray)(w:World)(b:Bool)(hb:b=decide (key.size<200/\az.size<200/\val.size<3000)):Calls prog 14 #[.agg #[.int .i64 kd,.int .i64 nn,.string key,.string az,.string val]] w λe w'=>e=.returned (.bool b)/\Below w.heap.size w w':=by
 have B0:=xh (aJ.new w 28 (tK kd nn key az val));have O0:=xh (ae (Below.refl w.heap.size w) (.cells (tK kd nn key az val) 28));have y2:=B0.o.ab (i:=2) rfl;have y3:=B0.o.ab (i:=3) rfl;have y4:=B0.o.ab (i:=4) rfl;unfold tK at *
 by_cases h1:key.size<200
 .have Wh:(key.size:Int)<200:=by omega
  by_cases h2:az.size<200
  .have Te:(az.size:Int)<200:=by omega
   by_cases h3:val.size<3000
   .have h3I:(val.size:Int)<3000:=by omega
    rw[decide_eq_true ⟨h1,h2,h3⟩]at hb;subst hb;clear h1 h2 h3;go_enter func14,ntmps14;go_wp2_with fail;go_ret;exact aE O0.o
   .have h3I:¬(val.size:Int)<3000:=by omega
    rw[decide_eq_false (λh=>h3 h.2.2)]at hb;subst hb;clear h1 h2 h3;go_enter func14,ntmps14;go_wp2_with fail;go_ret;exact aE O0.o
  .have Te:¬(az.size:Int)<200:=by omega
   rw[decide_eq_false (λh=>h2 h.2.1)]at hb;subst hb;clear h1 h2;go_enter func14,ntmps14;go_wp2_with fail;go_ret;exact aE O0.o
 .have Wh:¬(key.size:Int)<200:=by omega
  rw[decide_eq_false (λh=>h1 h.1)]at hb;subst hb;clear h1;go_enter func14,ntmps14;go_wp2_with fail;go_ret;exact aE O0.o
theorem Nb{wb tb mb:Nat}{I:Ix}{F:List Nat}{vl vo:Value}{q:QS}{Kz mm k:Nat}{l o:List PR}(h:TW w wb tb mb I F vl vo q n Kz l o)(hi:TI q l o mm k)(hk:k<=100)(hK:Kz<=999998000000):
  Calls prog 16 #[.pointer (some ⟨wb,0,none⟩)] w λe w'=>e=.returned (.bool true)/\ag (wb::F) w w':=by
 obtain⟨g1,g2⟩:=hi.wholeM (by omega);have hl:=hi.sorted.2;obtain⟨q1,l1,e1,Bt⟩:∃q1 l1 e1,q.iY ⟨#[]⟩ ⟨#[]⟩ 1099511627776=(q1,l1,e1):=⟨_,_,_,rfl⟩;have KS:=xh (rz h.t (by omega) ⟨#[]⟩ ⟨#[]⟩ 1099511627776);rw[Bt]at KS g1 g2;dsimp only at KS g1 g2;obtain⟨x1,x2,x3,x4⟩:=h.cells;have HT:=xh h;have Br:=xh (And.intro hk (And.intro hK hl));have J:=xh g1.j;unfold tp at KS;clear h hi hk hK hl Bt g1
 rcases g2 with g2|g2
 .subst g2;go_enter func16,ntmps16;go_wp2_with fail;refine KS.o.mono ?_;rintro e w1 ⟨v,rfl,S1,p1,o1,f1⟩;have T1:=xh (HT.o.next o1 p1);have O1:=xh o1;have KB:=xh (jZ T1.o (by have:=Br.o;omega) J.o.back.1);obtain⟨A1,c1,rfl⟩:=au S1;clear S1 p1 o1 f1 x1 x2 x3 x4;go_wp2_with fail;refine(dU _).mono ?_;rintro e _ ⟨rfl,rfl⟩;go_wp2_with fail;refine KB.o.mono ?_;rintro e w9 ⟨rfl,nF,rO,F',T9,o9,f9⟩
  have O9:=xh ((O1.o.mono (S':=wb::F) (λx hx _=>ax _ hx)).trans o9);clear T9 o9 f9;go_wp2_with fail;go_ret;exact aE O9.o
 .have g3:l1=l:=congrArg Prod.fst g2;have g4:e1=0:=congrArg Prod.snd g2;subst g3;subst g4;clear g2;obtain⟨Am,cm,rfl⟩:=au HT.o.m.s;go_enter func16,ntmps16;go_wp2_with fail;refine KS.o.mono ?_;rintro e w1 ⟨v,rfl,S1,p1,o1,f1⟩;have T1:=xh (HT.o.next o1 p1);have O1:=xh (o1.mono (S':=wb::F) (λx hx _=>ax _ hx));obtain⟨A1,c1,rfl⟩:=au S1;have KE:=xh (mP S1 T1.o.m.s (by have:=Br.o;omega) (by have:=Br.o;omega) true (by simp))
  clear S1 p1 o1 f1 x1 x2 x3 x4;obtain⟨x1,x2,x3,x4⟩:=T1.o.cells;have m0:=T1.o.m.b.ab (i:=0) rfl;go_wp2_with fail;refine(eW 0 (by omega) (by omega) _).mono ?_;rintro e _ ⟨rfl,rfl⟩;go_wp2_with fail;refine KE.o.mono ?_;rintro e w2 ⟨rfl,cA⟩;have O2:=xh (O1.o.trans (.aj cA));clear cA;go_wp2_with fail;go_ret;exact aE O2.o
variable{w wr:World}{wb n pg i:Nat}{I:Ix}
def Jv(w wr:World)(wb n pg:Nat)(I:Ix)(i:Nat):Prop:= ∃tb mb F vl vo q l o,TW wr wb tb mb I F vl vo q n (50+40000000*i) l o/\TI q l o pg i/\Below w.heap.size w wr/\∀g∈wb::mb::tb::F,w.heap.size<=g
theorem Jv.below{w':World}(h:Jv w wr wb n pg I i)(hb:Below wr.heap.size wr w'):Jv w w' wb n pg I i:=by
 obtain⟨tb,mb,F,vl,vo,q,l,o,T,hi,b,f⟩:=h;exact⟨tb,mb,F,vl,vo,q,l,o,T.below hb,hi,aB b hb,f⟩
theorem Jv.succ(h:Jv w wr wb n pg I i):Jv w wr wb n pg I (i+1):=by
 obtain⟨tb,mb,F,vl,vo,q,l,o,T,hi,b,f⟩:=h;exact⟨tb,mb,F,vl,vo,q,l,o,T.le (by omega),hi.le (by omega),b,f⟩
theorem Jv.b(h:Jv w wr wb n pg I i):Below w.heap.size w wr:=by
 obtain⟨tb,mb,F,vl,vo,q,l,o,T,hi,b,f⟩:=h;exact b
theorem Jv.do_(h:Jv w wr wb n pg I i)(hi:i<100)(kd nn:Int)(key az val:ByteArray)(hs:key.size<200/\az.size<200/\val.size<3000):
  Calls prog 15 #[.pointer (some ⟨wb,0,none⟩),.agg #[.int .i64 kd,.int .i64 nn,.string key,.string az,.string val]] wr λe w'=>e=.returned (.bool true)/\Jv w w' wb n pg I (i+1):=by
 obtain⟨tb,mb,F,vl,vo,q,l,o,T,ti,b,f⟩:=h;refine(tdo_any T ti hi (by omega) kd nn key az val (by omega) (by omega)).mono λe w' ⟨r,nF,rO,F',RG,vo',q',l',o',T',ti',ho,fr⟩=>⟨r,nF,rO,F',RG,vo',q',l',o',T'.le (by omega),ti',b.trans (ho.aI b.size (λx hx=>f x (by simp only[an]at hx ⊢;rcases hx with h|h|h<;>simp[h]))),λg hg=>?_⟩
 rcases an.1 hg with h|h
 .exact f g (by simp[h])
 .exact(fr g h).elim (λh=>f g (ax _ h)) (λh=>ar b.size h)
theorem Jv.holds(h:Jv w wr wb n pg I i)(hi:i<=100):
  Calls prog 16 #[.pointer (some ⟨wb,0,none⟩)] wr λe w'=>e=.returned (.bool true)/\Below w.heap.size w w':=by
 obtain⟨tb,mb,F,vl,vo,q,l,o,T,ti,b,f⟩:=h;exact(Nb T ti hi (by omega)).mono λe w' ⟨r,ho⟩=>⟨r,b.trans (ho.aI b.size (λx hx=>f x (by simp only[an]at hx ⊢;rcases hx with h|h<;>simp[h])))⟩
theorem Bn(w:World)(fr pg:Nat)(f1:1<=fr)(f2:fr<=32)(p1:4<=pg)(p2:pg<=1000):
  Calls prog 12 #[.int .i64 (fr:Nat),.int .i64 (pg:Nat)] w λe w'=> ∃wb I,e=.returned (.pointer (some ⟨wb,0,none⟩))/\Jv w w' wb (2+4*pg) pg I 0:=by
 refine(Bl w fr pg f1 f2 p1 p2).mono λe w' ⟨wb,tb,mb,I,F,r,B,M,T,R,b,f⟩=>⟨wb,I,r,tb,mb,F,.slice none 0 0,.slice none 0 0,_,[],[],⟨B,⟨M,aT.nil _ _ _,by simp⟩,aT.nil _ _ _,T,by simp⟩,TI.start R Wo,b,λg hg=>f g ?_⟩;simp only[an]at hg ⊢
 rcases hg with h|h|h|h<;>simp[h]
theorem Gc(Nf Np:Nat)(h1:Nf<256)(h2:Np<256)(A:Option Addr)(m cc:Nat)(F:Nat->RH)(hm:m<=9223372036854775807)(hA:wV w A m F):
  Calls prog 3 #[.int .u8 (Nf:Nat),.int .u8 (Np:Nat),.slice A m cc] w λe w'=>e=.returned (.bool true)/\Below w.heap.size w w':=by
 obtain⟨r,hr⟩:∃r:Nat,Nf % 5=r:=⟨_,rfl⟩;obtain⟨s,hs⟩:∃s:Nat,Np % 100=s:=⟨_,rfl⟩;obtain⟨fr,yd⟩:∃fr:Nat,fr=r+1:=⟨_,rfl⟩;obtain⟨pg,hpg⟩:∃pg:Nat,pg=s+4:=⟨_,rfl⟩;have e0:(Nf:Int) % 5=(r:Int):=by omega
 have e1:IntKind.u8.wrap (r:Int)=(r:Int):=IntWalk.u8_in _ (by omega);have e2:IntKind.i64.wrap (r:Int)=(r:Int):=IntWalk.i64_in _ (by omega);have e3:IntKind.i64.wrap ((r:Int)+1)=(fr:Int):=by rw[show(r:Int)+1=(fr:Int) by omega];exact IntWalk.i64_in _ (by omega)
 have e4:(Np:Int) % 100=(s:Int):=by omega
 have e5:IntKind.u8.wrap (s:Int)=(s:Int):=IntWalk.u8_in _ (by omega);have e6:IntKind.i64.wrap (s:Int)=(s:Int):=IntWalk.i64_in _ (by omega);have e7:IntKind.i64.wrap ((s:Int)+4)=(pg:Int):=by rw[show(s:Int)+4=(pg:Int) by omega];exact IntWalk.i64_in _ (by omega)
 have KB:=xh (Bn w fr pg (by omega) (by omega) (by omega) (by omega));have KA:=xh xV;have HA:=xh (λ(W:World) (hb:Below w.heap.size w W)=>hA.below hb);have KS:=xh xW;clear hA hr hs yd hpg;go_enter func3,ntmps3;go_wp2_with fail;refine KB.o.mono ?_;rintro e w1 ⟨wb,I,rfl,P1⟩;have P1:=xh P1;go_wp2_with fail;refine(KA.o w1).mono ?_;rintro e w2 ⟨rfl,cA⟩;have P2:=xh (P1.o.below cA);clear cA;go_wp2_with fail
 go_loopw [8] (λiv wr=> ∃i:Nat,i<=60/\iv=.int .i64 i/\Hid (Jv w wr wb (2+4*pg) pg I i)) (λiv _=>60-(intOf iv).toNat)
 case atStart=>exact⟨0,aY _,rfl,P2⟩
 case round=>
  obtain⟨i,hi,rfl,HP⟩:=hrel
  by_cases h1:i<m
  .have Wh:(i:Int)<(m:Int):=by omega
   by_cases h2:i<60
   .have Te:(i:Int)<60:=by omega
    obtain⟨ad,rfl,hSa⟩:=HA.o wr HP.o.b i h1;obtain⟨c0,c1,c2,c3,c4⟩:=hSa;have HC:=xh (show ∀W,Below w.heap.size w W->Jl W (ad.add (i*5)) (F i)from λW hb=>by
     obtain⟨ad',e,h⟩:=HA.o W hb i h1;injection e with e
     rw[e];exact h)
    generalize F i=sa at c0 c1 c2 c3 c4 HC;obtain⟨kd,nn,key,az,val⟩:=sa;dsimp only at c0 c1 c2 c3 c4;obtain⟨bb,ue⟩:∃bb,decide (key.size<200/\az.size<200/\val.size<3000)=bb:=⟨_,rfl⟩;have KS2:=xh (λ(W:World)=>KS.o kd nn key az val W bb ue.symm);have ei:IntKind.i64.wrap ((i:Int)+1)=((i+1:Nat):Int):=IntWalk.i64_in _ (by omega);have HBB:=xh ue;clear ue;go_wp2_with fail;refine(KS2.o _).mono ?_;rintro e w3 ⟨rfl,gh⟩;have P3:=xh (HP.o.below gh);clear gh c0 c1 c2 c3 c4
    cases bb
    .have P4:=xh P3.o.succ;go_wp2_with fail;go_roundw
     case rel=>exact⟨i+1,by omega,by go_num,P4⟩
     case measure=>simp[intOf];omega
    .have KD:=xh (P3.o.do_ (by omega) kd nn key az val (of_decide_eq_true HBB.o));obtain⟨c0,c1,c2,c3,c4⟩:=HC.o w3 P3.o.b;dsimp only at c0 c1 c2 c3 c4;go_wp2_with fail;refine KD.o.mono ?_;rintro e w4 ⟨rfl,P4⟩;have P4:=xh P4;clear c0 c1 c2 c3 c4;go_wp2_with fail;go_roundw
     case rel=>exact⟨i+1,by omega,by go_num,P4⟩
     case measure=>simp[intOf];omega
   .have Te:¬(i:Int)<60:=by omega
    have KH:=xh (HP.o.holds (by omega));go_wp2_with fail;refine KH.o.mono ?_;rintro e w5 ⟨rfl,nC⟩;have O5:=xh nC;clear nC;go_wp2_with fail;go_ret;exact aE O5.o
  .have Wh:¬(i:Int)<(m:Int):=by omega
   have KH:=xh (HP.o.holds (by omega));go_wp2_with fail;refine KH.o.mono ?_;rintro e w5 ⟨rfl,nC⟩;have O5:=xh nC;clear nC;go_wp2_with fail;go_ret;exact aE O5.o
end Sh
end Go.Proofs.YtmonobkginiajaaGreat
