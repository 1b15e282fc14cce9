/- packed. -/
import Derived.Test.YtmonobkginiajaaGreatC12
import Derived.Deep.RegionHeld3
import Derived.Deep.DrawnRows
import Derived.Deep.RegionHeld
import Derived.Deep.Slices
import Derived.Deep.Grids
import Derived.Lib.SmallJoins
set_option linter.all false
set_option maxRecDepth 100000
set_option maxHeartbeats 8000000
namespace Go.Proofs.YtmonobkginiajaaGreat.Sl
open Go.RowKit
variable{b:List UInt8}{k:Nat}
theorem Iq{a b:Bool}(h:a=b):Ending.returned (.bool a)= .returned (.bool b):=by rw[h]
theorem Er(x y:Slot)(w:World)(hx:x.1+x.2<=1000000)(hy:y.1+y.2<=1000000):
  Calls Tryz.prog 227 #[.agg #[.int .i64 x.1,.int .i64 x.2],.agg #[.int .i64 y.1,.int .i64 y.2]] w λe w'=>e=.returned (.bool (apart x y))/\Below w.heap.size w w':=by
 obtain⟨a,b⟩:=x;obtain⟨c,d⟩:=y;have O:=xh (((Below.refl w.heap.size w).alloc (ak _) (.cells #[.int .i64 a,.int .i64 b] 271)).alloc (by simp) (.cells #[.int .i64 c,.int .i64 d] 271));simp only at hx hy;have HA:=xh (show apart (a,b) (c,d)=(decide (b=0) || (decide (d=0) || (decide (a+b<=c) || decide (c+d<=a))))from rfl);go_enter Tryz.func227,Tryz.ntmps227
 go_wp2
 all_goals go_ret
 all_goals
  refine⟨Iq ?_,((Below.refl _ _).alloc (ak _) _).alloc (by simp) _⟩;rw[HA.o,Bool.eq_iff_iff];simp
  try omega
theorem pH(hl:b.length=232)(h:¬Sound b):bq b=14:=by
 unfold bq;rw[if_pos hl,if_neg];rw[m7];exact h
theorem Bs(hl:b.length=232)(hk:k<bl b 0)(h:¬(bl b 2<=(slot b k).1/\(slot b k).1+(slot b k).2<=232)):bq b=14:=
 pH hl λS=>h (S.fit.ln _ (az (uP b k hk)))
theorem yo(hl:b.length=232){j:Nat}(hk:k<bl b 0)(hj:j<k)(h:apart (slot b k) (slot b j)=false):bq b=14:=
 pH hl λS=>by
  have hp:=S.fit.apart;rw[vO]at hp;have h1:=hp j k (by rw[bR];omega) (by rw[bR];omega) hj;simp only[aX,List.getElem_map,vI]at h1;rw[kT,h]at h1
  cases h1
theorem Bt(hl:b.length=232)(hh:bl b 2<=232)(h4:4+4*bl b 0<=bl b 2)(hf:Fit (bl b 2) (aX b)):bq b=0:=(cU b).2 ⟨hl,hh,h4,hf⟩
theorem Ir{heap:Nat}(hk:k<bl b 0)(hf:Fit heap ((aX b).take k))(hx:heap<=(slot b k).1/\(slot b k).1+(slot b k).2<=232)(ha:∀j,j<k->apart (slot b k) (slot b j)=true):Fit heap ((aX b).take (k+1)):=by
 rw[m9 b k hk,Fit.snoc];refine⟨hf,hx,λy hy=>?_⟩;obtain⟨j,hj,rfl⟩:=lr hy;have hj2:j<k:=by simp at hj;omega
 simp only[aX,List.getElem_take,List.getElem_map,vI];exact ha j hj2
theorem kU{w:World}{g n cap:Nat}{l:List Slot}(S:aQ w 271 2 (.slice (some ⟨g,0,none⟩) n cap) n (sc l))(k:Nat)(hk:k<l.length):w.cell? ⟨g,k*2,none⟩=some (.int .i64 l[k].1)/\w.cell? ⟨g,k*2+1,none⟩=some (.int .i64 l[k].2):=by
 obtain⟨rest,B,_⟩:=S.oO;obtain⟨h0,h1⟩:=Io l k hk;have hlen:=gv l;exact⟨B.ab (by rw[cW,bx (by omega)];exact h0),B.ab (by rw[cW,bx (by omega)];exact h1)⟩
theorem iH(b:List UInt8)(k:Nat)(h:k<(aX b).length):(aX b)[k]=slot b k:=by simp[aX]
theorem Bu(s:ByteArray)(w:World)(hl:s.size=232)(hh:bl s.data.toList 2<=232)(h4:4+4*bl s.data.toList 0<=bl s.data.toList 2):
  Calls Tryz.prog 207 #[.string s] w λe w'=>e=.returned (.int .i64 (bq s.data.toList))/\Below w.heap.size w w':=by
 have hL:s.data.toList.length=232:=by simpa using hl
 have HLI:=xh (λ(k:Nat) (hk:k<bl s.data.toList 0) (h:¬(bl s.data.toList 2<=(slot s.data.toList k).1/\(slot s.data.toList k).1+(slot s.data.toList k).2<=232))=>Bs hL hk h);have HAP:=xh (λ(k j:Nat) (hk:k<bl s.data.toList 0) (hj:j<k) (h:apart (slot s.data.toList k) (slot s.data.toList j)=false)=>yo hL hk hj h);have zF:=xh (λ(hf:Fit (bl s.data.toList 2) (aX s.data.toList))=>Bt hL hh h4 hf)
 have HST:=xh (λ(k:Nat) (hk:k<bl s.data.toList 0) (hf:Fit (bl s.data.toList 2) ((aX s.data.toList).take k)) (hx:bl s.data.toList 2<=(slot s.data.toList k).1/\(slot s.data.toList k).1+(slot s.data.toList k).2<=232) (ha:∀j,j<k->apart (slot s.data.toList k) (slot s.data.toList j)=true)=>Ir hk hf hx ha);have HAL:=xh (show(aX s.data.toList).take (bl s.data.toList 0)=aX s.data.toList from bJ (by rw[bR];exact ak _))
 have HN:=xh (bR s.data.toList);have xz:=λk=>sH s.data.toList k;have xU:∀k,(slot s.data.toList k).1<65536/\(slot s.data.toList k).2<65536:=λk=>⟨xz _,xz _⟩;have HSL:=xh xU;have KL:=xh (λw'=>jE s w' (by omega) (by omega));clear xz xU hL;have hs1:s.size<=232:=by omega
 have hs2:232<=s.size:=by omega
 have hsb:((s.size:Int)==232)=true:=by simp;omega
 have HHL:=xh hl;clear hl;have K0:=xh (λw'=>dL s 0 w' (by omega) (by omega) (by omega));have K2:=xh (λw'=>dL s 2 w' (by omega) (by omega) (by omega));simp only[show(0:Int).toNat=0 from rfl,show(2:Int).toNat=2 from rfl]at K0 K2;generalize hq:bq s.data.toList=q at *;have HQ:=xh hq;clear hq;generalize bl s.data.toList 0=n at *;generalize bl s.data.toList 2=heap at *;go_enter Tryz.func207,Tryz.ntmps207;go_wp2_with fail;refine(K0.o _).mono ?_
 rintro e w1 ⟨rfl,aL⟩;go_wp2_with fail;refine(K2.o _).mono ?_;rintro e w2 ⟨rfl,bK⟩;go_wp2_with fail;refine(KL.o _).mono ?_;rintro e w3 ⟨v,rfl,S,dR,fr⟩;obtain⟨A,c,rfl⟩:=aq S;have S:=xh S;have O3:=xh (ao (ao aL bK) dR);clear aL bK dR fr K0 K2 KL;go_wp2_with fail
 go_loopw [31] (λiv wr=> ∃k:Nat,k<=n/\iv=.int .i64 k/\aQ wr 271 2 (.slice A n c) n (sc (aX s.data.toList))/\Below w.heap.size w wr/\Hid (Fit heap ((aX s.data.toList).take k))) (λiv _=>n-(intOf iv).toNat)
 case atStart=>exact⟨0,bm _,rfl,S.o,O3.o,xh (by rw[gJ];exact Fit.nil _)⟩
 case round=>
  obtain⟨k,hk,rfl,S,O,F⟩:=hrel
  by_cases h:k<n
  .obtain⟨g,cap,rest,hv,-,pG,-⟩:=S.form (by omega) (by omega);simp only[Value.slice.injEq,true_and]at hv;obtain⟨rfl,rfl⟩:=hv;have gS:=kU S k (by rw[HN.o];exact h);rw[iH]at gS;obtain⟨c0,c1⟩:=gS;have b0:=HSL.o k;have LI:=xh (HLI.o k h);have AP:=xh (λj=>HAP.o k j h);have ST:=xh (HST.o k h F.o);have SS:=xh S;have OO:=xh O;clear S O;generalize slot s.data.toList k=x at *;obtain⟨x0,x1⟩:=x;simp only at b0 c0 c1
   have B8:=xh (aD.new wr 271 #[.int .i64 x0,.int .i64 x1]);have S8:=xh (SS.o.alloc (.cells #[.int .i64 x0,.int .i64 x1] 271));have O8:=xh (OO.o.alloc OO.o.size (.cells #[.int .i64 x0,.int .i64 x1] 271));have hx:heap<=x0/\x0+x1<=232\/(heap<=x0/\232<x0+x1)\/x0<heap:=by omega
   rcases hx with⟨g1,g2⟩|⟨g1,g2⟩|g1
   .go_wp2_with fail;generalize wr.alloc (.cells #[.int .i64 x0,.int .i64 x1] 271)=W at *;generalize wr.heap.size=z at *
    go_loopw [52] (λjv w4=> ∃j:Nat,j<=k/\jv=.int .i64 j/\aQ w4 271 2 (.slice (some ⟨g,0,none⟩) n c) n (sc (aX s.data.toList))/\aD w4 z 271 #[.int .i64 x0,.int .i64 x1]/\Below w.heap.size w w4/\Hid (∀i,i<j->apart (x0,x1) (slot s.data.toList i)=true)) (λjv _=>k-(intOf jv).toNat)
    case atStart=>exact⟨0,bm _,rfl,S8.o,B8.o,O8.o,xh λi hi=>absurd hi (jP i)⟩
    case round=>
     obtain⟨j,hj,rfl,S9,B9,O9,HJ⟩:=hrel
     by_cases hjk:j<k
     .have gS:=kU S9 j (by rw[HN.o];omega);rw[iH]at gS;obtain⟨d0,d1⟩:=gS;have b2:=HSL.o j;have hn1:=AP.o j hjk;have HJS:=xh (show apart (x0,x1) (slot s.data.toList j)=true->∀i,i<j+1->apart (x0,x1) (slot s.data.toList i)=true from λe i hi=>by
       rcases dZ i j with h|h
       .exact HJ.o i h
       .obtain rfl:i=j:=by omega
        exact e)
      have HN1:=xh hn1;have z0:=B9.ab (i:=0) rfl;have z1:=B9.ab (i:=1) rfl;have zl:=B9.lt;have SS9:=xh S9;have BB9:=xh B9;have OO9:=xh O9;clear S9 B9 O9 hn1 HJ;generalize slot s.data.toList j=y at *;obtain⟨y0,y1⟩:=y;simp only at b2 d0 d1;have KA:=xh (λw'=>Er (x0,x1) (y0,y1) w' (by show x0+x1<=1000000;omega) (by show y0+y1<=1000000;omega));simp only at KA;go_wp2_with fail;refine(KA.o _).mono ?_;rintro e w5 ⟨rfl,nt⟩
      have nt:=xh (((Below.refl wr.heap.size wr).alloc (ak _) (.cells #[.int .i64 y0,.int .i64 y1] 271)).trans (nt.mono (by simp)))
      cases ha:apart (x0,x1) (y0,y1)
      .have hq:=HN1.o ha;go_wp2_with fail;go_ret;exact⟨by first|rfl|(rw[hq];rfl),ao OO9.o nt.o⟩
      .have HA:=xh ha;clear ha;go_wp2_with fail;go_roundw
       case rel=>exact⟨j+1,by omega,by go_num,SS9.o.below nt.o,BB9.o.below nt.o BB9.o.lt,ao OO9.o nt.o,xh (HJS.o HA.o)⟩
       case measure=>simp[intOf];omega
     .have SS9:=xh S9;have OO9:=xh O9;have hjk2:=xh (show j=k by omega);clear S9 B9 O9;go_wp2_with fail;go_roundw
      case rel=>exact⟨k+1,by omega,by go_num,SS9.o,OO9.o,xh (ST.o ⟨g1,g2⟩ (hjk2.o▸HJ.o))⟩
      case measure=>simp[intOf];omega
   .have hq:=LI.o (by omega);go_wp2_with fail;go_ret;exact⟨by first|rfl|(rw[hq];rfl),O8.o⟩
   .have hq:=LI.o (by omega);go_wp2_with fail;go_ret;exact⟨by first|rfl|(rw[hq];rfl),O8.o⟩
  .have ub:k=n:=by omega
   have H2:=xh ub;have OO:=xh O;have SS:=xh S;clear ub S O;go_wp2_with fail;go_ret;refine⟨?_,OO.o⟩;have hf:=F.o;rw[H2.o,HAL.o]at hf;rw[zF.o hf];rfl
theorem mh(s:ByteArray)(w:World)(hs:s.size<=1000000):
  Calls Tryz.prog 207 #[.string s] w λe w'=>e=.returned (.int .i64 (bq s.data.toList))/\Below w.heap.size w w':=by
 by_cases hl:s.size=232
 .by_cases hg:bl s.data.toList 2<=232/\4+4*bl s.data.toList 0<=bl s.data.toList 2
  .exact Bu s w hl hg.1 hg.2
  .have hL:s.data.toList.length=232:=by simpa using hl
   have e1:bq s.data.toList=14:=pH hL λS=>hg ⟨S.heap,S.head⟩;rw[e1];have K0:=xh (λw'=>dL s 0 w' (by omega) (by omega) (by omega));have K2:=xh (λw'=>dL s 2 w' (by omega) (by omega) (by omega));simp only[show(0:Int).toNat=0 from rfl,show(2:Int).toNat=2 from rfl]at K0 K2;have b0:=sH s.data.toList 0;generalize bl s.data.toList 0=n at *;generalize bl s.data.toList 2=heap at *;have hsb:((s.size:Int)==232)=true:=by simp;omega
   have hx:232<heap\/(heap<=232/\heap<4+4*n):=by omega
   clear hl hg e1 hL
   rcases hx with h1|⟨h1,h2⟩
   all_goals
    go_enter Tryz.func207,Tryz.ntmps207;go_wp2_with fail;refine(K0.o _).mono ?_;rintro e w1 ⟨rfl,aL⟩;go_wp2_with fail;refine(K2.o _).mono ?_;rintro e w2 ⟨rfl,bK⟩;have O:=xh (ao aL bK);clear aL bK;go_wp2_with fail;go_ret;exact⟨rfl,O.o⟩
 .have e1:bq s.data.toList=6:=by unfold bq;rw[if_neg (by simpa using hl)]
  rw[e1];have hsb:((s.size:Int)==232)=false:=by simp;omega
  clear e1 hl;go_enter Tryz.func207,Tryz.ntmps207;go_wp2_with fail;go_ret;exact⟨rfl,Below.refl _ _⟩
def jF(l:List Slot)(k:Nat):Int:=228-((((l.take k).map λx=>4+x.2).sum:Nat):Int)
theorem yp(l:List Slot)(k:Nat)(h:k<l.length):jF l (k+1)=jF l k-(4+(l[k].2:Int)):=by
 unfold jF;rw[iD h,eh,qS];simp;omega
theorem Bv(b:List UInt8):jF (aX b) (aX b).length=ff b:=by unfold jF ff;rw[jO]
def oe(b:List UInt8):Int:=if bq b=0 then ff b else 0
theorem yq(s:ByteArray)(w:World)(hs:s.size<=1000000):
  Calls Tryz.prog 209 #[.string s] w λe w'=>e=.returned (.int .i64 (oe s.data.toList))/\Below w.heap.size w w':=by
 have KC:=xh (mh s w hs)
 by_cases h:bq s.data.toList=0
 .have e1:oe s.data.toList=ff s.data.toList:=by unfold oe;rw[if_pos h]
  have hS:=(cU _).1 h;have Fy:s.size=232:=by have:=hS.len;simpa using this
  have h4:=hS.head;have h5:=hS.heap;rw[e1];rw[h]at KC;have KL:=xh (λw'=>jE s w' (by omega) hs);have HN:=xh (bR s.data.toList);have HA:=xh (Bv s.data.toList);have HX:=xh (show ∀k,(jF (aX s.data.toList) k<=228/\∀h:k<(aX s.data.toList).length,(aX s.data.toList)[k].2<65536)from λk=>⟨by unfold jF;omega,λh=>by rw[iH];exact sH _ _⟩)
  have HLO:=xh (show ∀k,k<=bl s.data.toList 0-> -1000000<=jF (aX s.data.toList) k from λk hk=>by
   have hsum:=uQ _ _ hS.fit hS.heap;have:((((aX s.data.toList).take k).map λx=>4+x.2).sum)<=4*(aX s.data.toList).length+pE (aX s.data.toList):=by
    generalize aX s.data.toList=l;unfold pE
    induction l generalizing k with
    |nil=>simp
    |cons x l ih=>
     cases k with
     |zero=>simp
     |succ k=>
      have:=ih k;simp only[vR,eW,iB,il];omega
   rw[bR]at this;unfold jF;omega)
  clear e1 h hS;generalize ff s.data.toList=q at *;generalize bl s.data.toList 0=n at *;go_enter Tryz.func209,Tryz.ntmps209;go_wp2_with fail;refine KC.o.mono ?_;rintro e w1 ⟨rfl,aL⟩;have aL:=xh aL;go_wp2_with fail;refine(KL.o _).mono ?_;rintro e w3 ⟨v,rfl,S,dR,fr⟩;obtain⟨A,c,rfl⟩:=aq S;have S:=xh S;have O3:=xh (ao aL.o dR);clear dR fr KL aL;go_wp2_with fail
  go_loopw [3,12] (λrv iv wr=> ∃k:Nat,k<=n/\iv=.int .i64 k/\rv=.int .i64 (jF (aX s.data.toList) k)/\aQ wr 271 2 (.slice A n c) n (sc (aX s.data.toList))/\Below w.heap.size w wr) (λ_ iv _=>n-(intOf iv).toNat)
  case atStart=>exact⟨0,bm _,rfl,rfl,S.o,O3.o⟩
  case round=>
   obtain⟨k,hk,rfl,rfl,S,O⟩:=hrel;have hr1:=(HX.o k).1;have xy:=HLO.o k hk
   by_cases h:k<n
   .obtain⟨g,cap,rest,hv,-,pG,-⟩:=S.form (by omega) (by omega);simp only[Value.slice.injEq,true_and]at hv;obtain⟨rfl,rfl⟩:=hv;have kQ:k<(aX s.data.toList).length:=by rw[HN.o];exact h
    obtain⟨c0,c1⟩:=kU S k kQ;have hb:=(HX.o k).2 kQ;have HST:=xh (yp _ k kQ);generalize (aX s.data.toList)[k]=x at *;obtain⟨x0,x1⟩:=x;simp only at hb c0 c1 HST;have S8:=xh (S.alloc (.cells #[.int .i64 x0,.int .i64 x1] 271));have O8:=xh (O.alloc O.size (.cells #[.int .i64 x0,.int .i64 x1] 271));clear S O kQ;generalize jF (aX s.data.toList) k=r at *;go_wp2_with fail;go_roundw
    case rel=>exact⟨k+1,by omega,by go_num,by rw[HST.o],S8.o,O8.o⟩
    case measure=>simp[intOf];omega
   .have ub:=xh (show k=n by omega);have OO:=xh O;clear S O;go_wp2_with fail;go_ret;refine⟨?_,OO.o⟩;rw[<-HA.o,HN.o,<-ub.o];rfl
 .have e1:oe s.data.toList=0:=by unfold oe;rw[if_neg h]
  have hb:(bq s.data.toList==0)=false:=by simpa using h
  rw[e1];clear e1 h;generalize bq s.data.toList=q at *;go_enter Tryz.func209,Tryz.ntmps209;go_wp2_with fail;refine KC.o.mono ?_;rintro e w1 ⟨rfl,aL⟩;have aL:=xh aL;go_wp2_with fail;go_ret;exact⟨rfl,aL.o⟩
theorem kV(s:ByteArray)(a b:Nat):s.extract a (a+b)=⟨((s.data.toList.drop a).take b).toArray⟩:=by
 apply nA;apply nz.1;rw[FK,FI,zO];simp
theorem Bw(s:ByteArray)(x:Slot)(w:World)(hx:x.1+x.2<=s.size)(hs:s.size<=1000000):
  Calls Tryz.prog 215 #[.string s,.agg #[.int .i64 x.1,.int .i64 x.2]] w λe w'=>e=.returned (.string ⟨(iW s.data.toList x).toArray⟩)/\Below w.heap.size w w':=by
 obtain⟨a,b⟩:=x;simp only at hx;have HE:=xh (kV s a b);go_enter Tryz.func215,Tryz.ntmps215
 go_wp2
 go_ret;refine⟨?_,(Below.refl _ _).alloc (ak _) _⟩;show Ending.returned (.string (s.extract a (a+b)))=_;rw[HE.o];rfl
def cC(b:List UInt8)(i:Int):List UInt8×Int:=if bq b=0 then(if 0<=i/\i<(bl b 0:Int)then(iW b (slot b i.toNat),0)else([],3))else([],bq b)
end Go.Proofs.YtmonobkginiajaaGreat.Sl
namespace Go.Proofs.YtmonobkginiajaaGreat.Sl
open Go.RowKit
attribute [local go_sem ↓] aW
variable{w:World}{e:TypeId}{size n:Nat}{v:Value}{l:List Value}
theorem pI(h:aQ w e size v n l):∀g∈ah v,∃cs,aD w g e cs:=by
 rcases h.2 with⟨rfl,_⟩|⟨g,cap,rest,rfl,B,_⟩
 .simp[ah]
 .intro x hx;simp[ah]at hx;subst hx;exact⟨_,B⟩
theorem cy{e':TypeId}{size' n':Nat}{v':Value}{l':List Value}(h:aQ w e size v n l)(h':aQ w e' size' v' n' l')(eG:e≠e'):∀g∈ah v,g∉ah v':=by
 intro g hg hg';obtain⟨_,B⟩:=pI h g hg;obtain⟨_,B'⟩:=pI h' g hg';exact B.mB B' eG rfl
def strs(l:List (List UInt8)):List Value:=l.map λr=> .string ⟨r.toArray⟩
theorem uT(l:List (List UInt8))(r:List UInt8):strs l++[.string ⟨r.toArray⟩]=strs (l++[r]):=by simp[strs]
@[simp] theorem qo(l:List (List UInt8)):(strs l).length=l.length:=by simp[strs]
theorem qp:(Tryz.prog.info? 9).map (λi=>(i.zero,i.size,i.bytes))=some (some (.string .empty),1,16):=by kernel_rfl
theorem pJ(b:List UInt8)(k:Nat)(h:k<bl b 0):(bQ b).take (k+1)=(bQ b).take k++[iW b (slot b k)]:=by
 unfold bQ;rw[<-rE,m9 b k h,eh,rE];rfl
def je(s:ByteArray)(w:World)(e:Ending)(w':World):Prop:=
 ∃v,e=.returned (.tuple #[v,.int .i64 (bq s.data.toList)])/\Below w.heap.size w w'/\(∀g∈ah v,w.heap.size<=g)/\
  ((bq s.data.toList=0/\aQ w' 9 1 v (bl s.data.toList 0) (strs (bQ s.data.toList)))\/(bq s.data.toList≠0/\v=.slice none 0 0))
theorem jU(s:ByteArray)(w:World)(hs:s.size<=1000000):
  Calls Tryz.prog 169 #[.string s] w (je s w):=by
 have KC:=xh (mh s w hs)
 by_cases h:bq s.data.toList=0
 .have hS:=(cU _).1 h;have Fy:s.size=232:=by have:=hS.len;simpa using this
  have h4:=hS.head;have h5:=hS.heap;rw[h]at KC;have HC:=xh h;have KL:=xh (λw'=>jE s w' (by omega) hs);have HN:=xh (bR s.data.toList);have HG:=xh (iH s.data.toList);have HT:=xh (pJ s.data.toList);have HF:=xh (λk (hk:k<bl s.data.toList 0)=>hS.fit.ln _ (az (uP s.data.toList k hk)))
  have HA:=xh (show(bQ s.data.toList).take (bl s.data.toList 0)=bQ s.data.toList from bJ (by rw[bI];exact ak _));clear hS h;generalize hn:bl s.data.toList 0=n at *;have HN0:=xh hn;clear hn;go_enter Tryz.func169,Tryz.ntmps169;go_wp2_with fail;refine KC.o.mono ?_;rintro e w1 ⟨rfl,aL⟩;have aL:=xh aL;go_wp2_with fail;refine(KL.o _).mono ?_;rintro e w3 ⟨v,rfl,S,dR,fr⟩;obtain⟨A,c,rfl⟩:=aq S;have S:=xh S
  have O3:=xh (ao aL.o dR);have FR:=xh (show ∀x∈ah (.slice A n c),w.heap.size<=x from λx hx=>au aL.o.size (fr x hx));clear dR fr KL aL;go_wp2_with fail
  go_loopw [5,16] (λv iv wr=> ∃k:Nat,k<=n/\iv=.int .i64 k/\aQ wr 9 1 v k (strs ((bQ s.data.toList).take k))/\aQ wr 271 2 (.slice A n c) n (sc (aX s.data.toList))/\Below w.heap.size w wr/\Hid (∀g∈ah v,w.heap.size<=g)) (λ_ iv _=>n-(intOf iv).toNat)
  case atStart=>exact⟨0,bm _,rfl,by rw[gJ];exact aQ.nil _ _ _,S.o,O3.o,xh (by simp[ah])⟩
  case round=>
   obtain⟨k,hk,rfl,T,S,O,F⟩:=hrel;obtain⟨TA,tc,rfl⟩:=aq T
   by_cases h:k<n
   .obtain⟨g,cap,rest,hv,-,pG,-⟩:=S.form (by omega) (by omega);simp only[Value.slice.injEq,true_and]at hv;obtain⟨rfl,rfl⟩:=hv;have kQ:k<(aX s.data.toList).length:=by rw[HN.o];exact h
    obtain⟨c0,c1⟩:=kU S k kQ;rw[HG.o k kQ]at c0 c1;have hf:=HF.o k h;have KR:=xh (λw'=>Bw s (slot s.data.toList k) w' (by omega) hs);have HTk:=xh (HT.o k (HN0.o▸h));generalize slot s.data.toList k=x at *;obtain⟨x0,x1⟩:=x;simp only at hf c0 c1 KR;have O8:=xh (((Below.refl wr.heap.size wr).alloc (ak _) (.cells #[.int .i64 x0,.int .i64 x1] 271)));have OO:=xh O;have SS:=xh S;have TT:=xh T;clear S T O;go_wp2_with fail
    refine(KR.o _).mono ?_;rintro e w4 ⟨rfl,fw⟩;have fw:=ao O8.o fw;have T4:=TT.o.below fw;have S4:=SS.o.below fw;have O4:=xh (ao OO.o fw);generalize iW s.data.toList (x0,x1)=r at *;obtain⟨v',w5,ea,T5,o5,F5⟩:=bZ (P:=Tryz.prog) T4 123 123 (.string .empty) 16 Tryz.underlying123 qp rfl (.string ⟨r.toArray⟩) rfl (by unfold maxLen;omega) (by omega);rw[uT,<-HTk.o]at T5;have S5:=xh (S4.only o5 (cy S4 T4 (by decide)))
    have F6:=xh (show ∀g∈ah v',w.heap.size<=g from λg hg=>(F5 g hg).elim (F.o g) (λh=>au O4.o.size h));have O5:=xh (O4.o.trans (o5.aE O4.o.size F.o));obtain⟨VA,vc,rfl⟩:=aq T5;have T5:=xh T5;clear fw T4 S4 o5 F5 SS TT OO;go_wp2_with fail;go_roundw
    case rel=>exact⟨k+1,by omega,by go_num,T5.o,S5.o,O5.o,F6⟩
    case measure=>simp[intOf];omega
   .have ub:=xh (show k=n by omega);have OO:=xh O;have TT:=xh T;clear S O T;go_wp2_with fail;go_ret2;refine⟨_,by rw[HC.o];rfl,OO.o,F.o,.inl ⟨HC.o,?_⟩⟩;have h1:=TT.o
    cases ub.o
    rw[HA.o]at h1;rw[HN0.o];exact h1
 .have HC:=xh h;have hb:(bq s.data.toList==0)=false:=by simpa using h
  clear h;generalize hq:bq s.data.toList=q at *;have HQ:=xh hq;clear hq;go_enter Tryz.func169,Tryz.ntmps169;go_wp2_with fail;refine KC.o.mono ?_;rintro e w1 ⟨rfl,aL⟩;have aL:=xh aL;go_wp2_with fail;go_ret2;exact⟨_,by rw[HQ.o];rfl,aL.o,by simp[ah],.inr ⟨by rw[HQ.o];exact HC.o,rfl⟩⟩
end Go.Proofs.YtmonobkginiajaaGreat.Sl
namespace Go.Proofs.YtmonobkginiajaaGreat.Sl
open Go.RowKit
variable{w w':World}{v:Value}{n:Nat}{l:List Slot}{F:List UInt8}
def nc(w:World)(v:Value)(l:List Slot):Prop:=
 ∃A c,v=.slice A l.length c/\(0<l.length->∃g cs,A=some ⟨g,0,none⟩/\aD w g 271 cs/\∀(j:Nat) (u:Value),(sc l)[j]?=some u->cs[j]?=some u)
theorem nc.of(S:aQ w 271 2 v n (sc l)):nc w v l:=by
 have hl:=S.1;rw[gv]at hl;obtain rfl:n=l.length:=by omega
 obtain⟨A,c,rfl⟩:=aq S;refine⟨A,c,rfl,λh=>?_⟩;obtain⟨g,cap,rest,hv,B,_,_⟩:=S.form h (by omega);simp only[Value.slice.injEq,true_and]at hv;obtain⟨rfl,rfl⟩:=hv;exact⟨g,_,rfl,B,λj u hu=>by rw[cW,bx (aR.1 hu).1];exact hu⟩
theorem nc.only{S:List Nat}(h:nc w v l)(ho:ag S w w')(hd:∀g cs,aD w g 271 cs->g∉S):nc w' v l:=by
 obtain⟨A,c,rfl,h⟩:=h;refine⟨A,c,rfl,λhl=>?_⟩;obtain⟨g,cs,rfl,B,hc⟩:=h hl;exact⟨g,cs,rfl,B.only ho (hd g cs B),hc⟩
theorem nc.below(h:nc w v l)(hb:Below w.heap.size w w'):nc w' v l:=h.only (S:=[]) (.aj hb) (by simp)
theorem Es(B:jR w v F):∀g cs,aD w g 271 cs->g∉ah v:=by
 intro g cs hg hm;obtain⟨_,B'⟩:=pI B g hm;exact hg.mB B' (by decide) rfl
theorem nc.cells{A:Option Addr}{c:Nat}(h:nc w (.slice A n c) l)(k:Nat)(hk:k<l.length):∃g,A=some ⟨g,0,none⟩/\w.cell? ⟨g,k*2,none⟩=some (.int .i64 l[k].1)/\w.cell? ⟨g,k*2+1,none⟩=some (.int .i64 l[k].2):=by
 obtain⟨A',c',hv,h⟩:=h;simp only[Value.slice.injEq]at hv;obtain⟨rfl,rfl,rfl⟩:=hv;obtain⟨g,cs,rfl,B,hc⟩:=h (by omega);obtain⟨h0,h1⟩:=Io l k hk;exact⟨g,rfl,B.ab (hc _ _ h0),B.ab (hc _ _ h1)⟩
theorem sM{vb vl:Value}(B:jR w vb F)(S:nc w vl l)(heap:Int)(hF:F.length=232)(hl:4+4*l.length<=232)(hh0:0<=heap)(hh:heap<65536)(hx:∀x∈l,x.1<65536/\x.2<65536):
  Calls Tryz.prog 212 #[vb,vl,.int .i64 heap] w λe w'=>e=.returned (.string ⟨(ib F l heap.toNat).toArray⟩)/\ag (ah vb) w w':=by
 obtain⟨h,rfl⟩:=dn hh0;rw[eK];obtain⟨A,c,rfl,-⟩:=id S;have SS:=xh S;have DN:=xh (iG F l h);have HX:=xh (show ∀k (hk:k<l.length),l[k].1<65536/\l[k].2<65536 from λk hk=>hx _ (ik hk));have HST:=xh (show ∀k (hk:k<l.length),eO F l h (k+1)=jD (jD (eO F l h k) (4+4*k) l[k].1) (6+4*k) l[k].2 from λk hk=>by
  rw[eO];simp[List.getD,aN hk])
 have H0:=xh (show eO F l h 0=jD (jD F 0 l.length) 2 h from rfl);have HW:=xh (show ib F l h=eO F l h l.length from rfl);have K0:=xh (fW B 0 l.length (by omega) (by omega) (by omega) (by omega) (by omega));have AP:=xh (λ(w':World) (F':List UInt8) (B':jR w' vb F')=>Es B');have BB:=xh B;have HFF:=xh hF;clear S B hx hF;go_enter Tryz.func212,Tryz.ntmps212;go_wp2_with fail;refine K0.o.mono ?_;rintro e w1 ⟨rfl,B1,o1⟩
 have S1:=xh (SS.o.only o1 (AP.o _ _ BB.o));have O1:=xh o1;have K2:=xh (fW B1 2 h (by omega) (by rw[cV,HFF.o];omega) (by rw[cV,HFF.o];omega) (by omega) (by omega));have BB1:=xh B1;clear B1 o1 K0 SS;go_wp2_with fail;refine K2.o.mono ?_;rintro e w2 ⟨rfl,B2,o2⟩;have S2:=xh (S1.o.only o2 (AP.o _ _ BB1.o));have O2:=xh (O1.o.trans o2)
 rw[show(2:Int).toNat=2 from rfl,show(0:Int).toNat=0 from rfl,eK,eK,<-H0.o]at B2;have BB2:=xh B2;clear B2 o2 K2 O1 S1 BB1;go_wp2_with fail
 go_loopw [18] (λiv wr=> ∃k:Nat,k<=l.length/\iv=.int .i64 k/\jR wr vb (eO F l h k)/\nc wr (.slice A l.length c) l/\ag (ah vb) w wr) (λiv _=>l.length-(intOf iv).toNat)
 case atStart=>exact⟨0,bm _,rfl,BB2.o,S2.o,O2.o⟩
 case round=>
  obtain⟨k,hk,rfl,B,S,O⟩:=hrel
  by_cases kQ:k<l.length
  .obtain⟨g,rfl,c0,c1⟩:=S.cells k kQ;have hx:=HX.o k kQ;have HSTk:=xh (HST.o k kQ);have hkl2:(k:Int)<(l.length:Int):=by omega
   generalize l[k]=x at *;obtain⟨x0,x1⟩:=x;simp only at hx c0 c1 HSTk;have b8:=(Below.refl wr.heap.size wr).alloc (ak _) (.cells #[.int .i64 x0,.int .i64 x1] 271);have B8:=xh (B.below b8);have S8:=xh (S.below b8);have O8:=xh (O.trans (.aj b8));have Z8:=xh (aD.new wr 271 #[.int .i64 x0,.int .i64 x1]);have K3:=xh (fW B8.o (4+4*k) x0 (by omega) (by rw[DN.o,HFF.o];omega) (by rw[DN.o,HFF.o];omega) (by omega) (by omega));clear b8 B S O
   go_wp2_with fail;generalize wr.alloc (.cells #[.int .i64 x0,.int .i64 x1] 271)=W at *;generalize wr.heap.size=z at *;refine K3.o.mono ?_;rintro e w3 ⟨rfl,B3,o3⟩;have S3:=xh (S8.o.only o3 (AP.o _ _ B8.o));have O3:=xh (O8.o.trans o3);have Z3:=xh (Z8.o.only o3 (AP.o _ _ B8.o _ _ Z8.o));have z1:=Z3.o.ab (i:=1) rfl
   have K4:=xh (fW B3 (4+4*k+2) x1 (by omega) (by rw[cV,DN.o,HFF.o];omega) (by rw[cV,DN.o,HFF.o];omega) (by omega) (by omega));have B3:=xh B3;clear o3 K3 B8 S8 O8 Z8 c0 c1;go_wp2_with fail;refine K4.o.mono ?_;rintro e w4 ⟨rfl,B4,o4⟩;have S4:=xh (S3.o.only o4 (AP.o _ _ B3.o));have O4:=xh (O3.o.trans o4)
   rw[show(4+4*(k:Int)).toNat=4+4*k by omega,show(4+4*(k:Int)+2).toNat=6+4*k by omega,eK,eK,<-HSTk.o]at B4;have B4:=xh B4;clear o4 K4 S3 O3 Z3 z1;go_wp2_with fail;go_roundw
   case rel=>exact⟨k+1,by omega,by go_num,B4.o,S4.o,O4.o⟩
   case measure=>simp[intOf];omega
  .have ub:=xh (show k=l.length by omega);have KS:=xh (B.string (by rw[DN.o,HFF.o];omega));have OO:=xh O;clear B S O;go_wp2_with fail;rw[KS.o];go_wp2_with fail;go_ret;refine⟨?_,OO.o⟩;rw[HW.o,<-ub.o];rfl
end Go.Proofs.YtmonobkginiajaaGreat.Sl
namespace Go.Proofs.YtmonobkginiajaaGreat.Sl
open Go.RowKit
attribute [local go_sem ↓] aW
variable{l:List Value}{w:World}{g n:Nat}{F b:List UInt8}{v:Value}
theorem kG:(Tryz.prog.info? 5).map (·.size)=some 1:=by kernel_rfl
theorem CQ(F:List UInt8)(o:Nat):lay F o []=F:=by simp[lay]
theorem Bx{r c:List Value}{o:Nat}(h:o+c.length<=l.length):putAt (l++r) o c=putAt l o c++r:=by
 unfold putAt;rw[lU (by omega),vE h];simp
theorem lJ{cap:Nat}(B:jR w (.slice (some ⟨g,0,none⟩) F.length cap) F)(o oa rG:Nat)(s:ByteArray)(ho:o+s.size<=F.length)(hoa:oa=o\/(s.size=0/\oa<=F.length))(nM:Nat)(hd:nM=F.length-o):
  ∃w',(Builtin.copy_ #[150,9] 3 #[.slice (some ⟨g,oa,none⟩) nM rG,.string s]).run Tryz.prog w=.ok (goInt s.size) w'/\jR w' (.slice (some ⟨g,0,none⟩) F.length cap) (lay F o s.data.toList)/\ag [g] w w':=by
 obtain⟨rest,BB,hc,_,hm⟩:=aQ.oO B;have hl:(cf F).length=F.length:=fZ F;have xU:s.data.toList.length=s.size:=by simp
 obtain⟨w',e,B',o'⟩:=jQ (P:=Tryz.prog) BB 150 9 3 5 oa nM rG s s.size Tryz.underlying150 kG (by rw[hd];exact(qV (by omega)).symm) (by simp;omega);refine⟨w',e,?_,o'⟩;rw[bJ (by omega),Bx (by simp;omega),nQ]at B';have el:lay F oa s.data.toList=lay F o s.data.toList:=by
  rcases hoa with rfl|⟨h0,_⟩
  .rfl
  .have:s.data.toList=[]:=mN (by omega);rw[this,CQ,CQ]
 rw[el]at B';have mG:(lay F o s.data.toList).length=F.length:=fy (by omega);unfold jR;rw[mG];exact⟨by simp[mG],.inr ⟨g,cap,rest,rfl,B',by simp[mG];simpa using hc,hm⟩⟩
theorem yr{l:List Slot}(S:aQ w 271 2 v n (sc l))(a b:Nat)(hn:n<=1000000):
  ∃v' w',dG Tryz.prog 266 266 (w.alloc (.cells #[.int .i64 a,.int .i64 b] 271)) v (.slice (some ⟨w.heap.size,0,none⟩) 1 1)= .ok v' w'/\aQ w' 271 2 v' (n+1) (sc (l++[(a,b)]))/\ag (ah v) w w'/\(∀g∈ah v',g∈ah v\/w.heap.size<=g):=by
 obtain⟨i0,hi,jb,gW,iS⟩:=info_parts pF;obtain⟨v',w',ea,S',O',F'⟩:=cQ (P:=Tryz.prog) (S.alloc (.cells #[.int .i64 a,.int .i64 b] 271)) 266 266 i0 (.agg #[.int .i64 0,.int .i64 0]) 16 Tryz.underlying266 hi jb gW iS rfl (by omega)
  ⟨w.heap.size,0,none⟩ 1 1 [.int .i64 a,.int .i64 b] rfl (aZ (l:=[_,_]) (aD.new _ _ _) 0 _ (by simp)) (by intro u hu;simp at hu;rcases hu with rfl|rfl<;>rfl) (by unfold maxLen;omega) (by omega)
 rw[show sc l++[.int .i64 (a:Int),.int .i64 (b:Int)]=sc (l++[(a,b)])from by rw[kq];rfl]at S';exact⟨v',w',ea,S',((ag.refl _ _).alloc _).bw O' (λx hx _=>hx),λg hg=>(F' g hg).imp id (λh=>by simp at h;omega)⟩
theorem oh{c:Nat}{e:TypeId}{size m:Nat}(h:aQ w e size v m l)(B:jR w (.slice (some ⟨g,0,none⟩) n c) F)(eG:e≠5):∀x∈ah v,x∉[g]:=by
 have:=cy h B eG;simpa [ah]using this
def dM(b:List UInt8)(k:Nat):mD:=((bQ b).take k).foldl mD.add uS
theorem yt(b:List UInt8)(k:Nat)(h:k<bl b 0):dM b (k+1)=(dM b k).add (iW b (slot b k)):=by
 unfold dM;rw[pJ b k h,List.foldl_append];rfl
theorem sN(b:List UInt8):dM b (bl b 0)=mI (bQ b):=by
 unfold dM mI;rw[bJ (by rw[bI];exact ak _)]
theorem qs(l:List Nat):∀k,(l.take k).sum<=l.sum:=by
 induction l with
 |nil=>intro k;simp
 |cons x l ih=>
  intro k
  cases k with
  |zero=>simp
  |succ k=>simp only[vR,iB];have:=ih k;omega
theorem pK(h:Sound b)(k:Nat):(dM b k).Ok ((bQ b).take k):=by
 refine sK _ ?_;rw[rE];have:=qs ((bQ b).map List.length) k;have:=h.sum;omega
theorem yu(h:Sound b)(k:Nat)(hk:k<bl b 0):(iW b (slot b k)).length<=(dM b k).heap:=by
 have h1:=(pK h k).heap;have h2:=(pK h (k+1)).heap;rw[pJ b k hk,eh,qS]at h2;simp only[eW,mP,iB,List.sum_nil]at h2;omega
def iM(b:List UInt8):List UInt8×Int:=if bq b=0 then(eF b,0)else([],bq b)
theorem yv(s:ByteArray)(w:World)(hs:s.size<=1000000):
  Calls Tryz.prog 211 #[.string s] w λe w'=>e=.returned (.tuple #[.string ⟨(iM s.data.toList).1.toArray⟩,.int .i64 (iM s.data.toList).2])/\Below w.heap.size w w':=by
 have KA:=xh (jU s w hs)
 by_cases h:bq s.data.toList=0
 .have hS:=(cU _).1 h;have e1:iM s.data.toList=(eF s.data.toList,0):=by unfold iM;rw[if_pos h]
  rw[e1];clear e1;have Fy:s.size=232:=by have:=hS.len;simpa using this
  have h4:=hS.head;have h5:=hS.heap;have HC:=xh h;have hlist:(bQ s.data.toList).length=bl s.data.toList 0:=bI _;have HGET:=xh (show ∀k,k<bl s.data.toList 0->(strs (bQ s.data.toList))[k]?=some (.string ⟨(iW s.data.toList (slot s.data.toList k)).toArray⟩)from λk hk=>by
   simp[strs,bQ,aX,hk])
  have HSU:=xh (yt s.data.toList);have zF:=xh (λk=>pK hS k);have HRM:=xh (λk hk=>yu hS k hk);have HCF:=xh (show eF s.data.toList=ib (dM s.data.toList (bl s.data.toList 0)).o (dM s.data.toList (bl s.data.toList 0)).to (dM s.data.toList (bl s.data.toList 0)).heap from by rw[sN];rfl);have HLA:=xh hS.comp;have HAL:=xh (sN s.data.toList)
  have H0:=xh (show dM s.data.toList 0=uS from rfl);clear h hS hlist Fy;generalize hn:bl s.data.toList 0=n at *;have HN0:=xh hn;clear hn;have hmk:Hid (∀w':World,(Instr.makeSlice 150 (.int .i64 232) (.int .i64 232)).run Tryz.prog w'= .ok (.slice (some ⟨w'.heap.size,0,none⟩) 232 232) (w'.alloc (.cells (cf (List.replicate 232 0)).toArray 5))):=xh (λw':World=>kH 232 (by omega) w');have HZ:=xh (show uS=⟨List.replicate 232 0,[],232⟩from rfl)
  have HZL:=xh (show(List.replicate 232 (0:UInt8)).length=232 from eM);generalize List.replicate 232 (0:UInt8)=Z at *;go_enter Tryz.func211,Tryz.ntmps211;go_wp2_with fail;refine KA.o.mono ?_;rintro e w1 ⟨v,rfl,aL,fr,hv⟩
  rcases hv with⟨-,T⟩|⟨eG,-⟩
  .rw[HC.o];rw[HN0.o]at T;obtain⟨A,c,rfl⟩:=aq T;have hm:=hmk.o;have B0:=xh (jR.new w1 Z (by rw[HZL.o];unfold maxLen;omega));rw[HZL.o]at B0;have b0:=(Below.refl w1.heap.size w1).alloc (ak _) (.cells (cf Z).toArray 5);have T0:=xh (T.below b0);have O0:=xh (ao aL b0);have hg:=aL.size;clear b0 T aL fr hmk KA;go_wp2_with fail;generalize w1.alloc (.cells (cf Z).toArray 5)=W at *;generalize w1.heap.size=g at *;clear hm
   go_loopw [7,8,22] (λv hv iv wr=> ∃k:Nat,k<=n/\iv=.int .i64 k/\hv=.int .i64 (dM s.data.toList k).heap/\jR wr (.slice (some ⟨g,0,none⟩) 232 232) (dM s.data.toList k).o/\aQ wr 271 2 v k (sc (dM s.data.toList k).to)/\aQ wr 9 1 (.slice A n c) n (strs (bQ s.data.toList))/\Below w.heap.size w wr/\Hid (∀g∈ah v,w.heap.size<=g)) (λ_ _ iv _=>n-(intOf iv).toNat)
   case atStart=>exact⟨0,bm _,rfl,by rw[H0.o];rfl,by rw[H0.o,HZ.o];exact B0.o,by rw[H0.o];exact aQ.nil _ _ _,T0.o,O0.o,xh (by simp[ah])⟩
   case round=>
    obtain⟨k,hk,rfl,rfl,B,S,T,O,F⟩:=hrel;obtain⟨SA,cS,rfl⟩:=aq S;have yw:=(zF.o k).len;have hsum:=(zF.o k).heap
    by_cases h:k<n
    .obtain⟨gT,cT,restT,hv,BT,pG,-⟩:=T.form (by omega) (by omega);simp only[Value.slice.injEq,true_and]at hv;obtain⟨rfl,rfl⟩:=hv;have ck:wr.cell? ⟨gT,k,none⟩=some (.string ⟨(iW s.data.toList (slot s.data.toList k)).toArray⟩):=BT.ab (by
      have h1:=HGET.o k h;rw[cW,bx (aR.1 h1).1];exact h1)
     have hrm:=HRM.o k h;have HS:=xh (HSU.o k h);have TT:=xh T;have OO:=xh O;have SS:=xh S;clear T O S BT;generalize iW s.data.toList (slot s.data.toList k)=r at *;have HCk:=xh (show dM s.data.toList (k+1)=⟨lay (dM s.data.toList k).o ((dM s.data.toList k).heap-r.length) r,(dM s.data.toList k).to++[((dM s.data.toList k).heap-r.length,r.length)],(dM s.data.toList k).heap-r.length⟩from HS.o);generalize dM s.data.toList k=C at *
     obtain⟨out,to,heap⟩:=C;simp only at hrm B HCk SS yw hsum;have hhp:heap<=232:=by omega
     clear hsum;obtain⟨R,rfl⟩:∃R:ByteArray,R.data.toList=r:=⟨⟨r.toArray⟩,by simp⟩;have cd:(⟨R.data.toList.toArray⟩:ByteArray)=R:=by simp
     have hRl:R.data.toList.length=R.size:=by simp
     rw[cd]at ck;rw[hRl]at hrm HCk;obtain⟨h',rfl⟩:∃h',heap=h'+R.size:=⟨heap-R.size,by omega⟩;rw[nG]at HCk;have HB:=xh B;rw[<-yw]at B;have KCP:=xh (λ(oa:Nat) (hoa:oa=h'\/(R.size=0/\oa<=232)) (rG:Nat)=>lJ B h' oa rG R (by omega) (by rw[yw];exact hoa) (232-h') (by omega));rw[yw]at KCP;clear B yw cd hRl HS;have NS:=xh (oh SS.o HB.o (by decide));have NT:=xh (oh TT.o HB.o (by decide))
     have KX:=xh (show ∃(oa dc:Nat) (w5:World),((h'=232/\oa=0/\dc=0)\/(h'≠232/\oa=h'/\dc=232-h'))/\(Builtin.copy_ #[150,9] 3 #[.slice (some ⟨g,oa,none⟩) (232-h') dc,.string R]).run Tryz.prog wr=.ok (goInt R.size) w5/\jR w5 (.slice (some ⟨g,0,none⟩) 232 232) (lay out h' R.data.toList)/\ag [g] wr w5 from by
      by_cases hz:h'=232
      .obtain⟨w5,h1,h2,h3⟩:=KCP.o 0 (.inr ⟨by omega,by omega⟩) 0;exact⟨0,0,w5,.inl ⟨hz,rfl,rfl⟩,h1,h2,h3⟩
      .obtain⟨w5,h1,h2,h3⟩:=KCP.o h' (.inl rfl) (232-h');exact⟨h',232-h',w5,.inr ⟨hz,rfl,rfl⟩,h1,h2,h3⟩)
     obtain⟨oa,dc,w5,hoa,cp,B5,o5⟩:=KX.o;have S5:=SS.o.only o5 NS.o;have T5:=TT.o.only o5 NT.o;have O5:=xh (OO.o.trans (o5.aE OO.o.size (by simp;exact hg)));obtain⟨v6,w6,ea,S6,o6,F6⟩:=yr S5 h' R.size (by omega);obtain⟨VA,vc,rfl⟩:=aq S6;have B6:=xh (B5.only o6 (λx hx hx'=>cy S5 B5 (by decide) x hx' hx));have T6:=xh (T5.only o6 (cy T5 S5 (by decide)));have O6:=xh (O5.o.trans (o6.aE O5.o.size F.o))
     have F7:=xh (show ∀g∈ah (.slice VA (k+1) vc),w.heap.size<=g from λg hg=>(F6 g hg).elim (F.o g) (λh=>au O5.o.size h));have S6:=xh S6;clear KX B5 o5 S5 T5 o6 F6 KCP NS NT HB
     rcases hoa with⟨rfl,rfl,rfl⟩|⟨hz,rfl,rfl⟩
     all_goals
      try simp only[show((232:Nat):Int)=232 from rfl]at ea
      go_wp2_with fail;go_roundw
      case rel=>exact⟨k+1,by omega,by go_num,by rw[HCk.o]<;>rfl,by rw[HCk.o];exact B6.o,by rw[HCk.o];exact S6.o,T6.o,O6.o,F7⟩
      case measure=>simp[intOf];omega
    .have ub:=xh (show k=n by omega);obtain rfl:k=n:=ub.o;have HL:=xh HLA.o;have HTL:=xh (zF.o k).Im;rw[<-HAL.o]at HL;have KW:=xh (sM B (nc.of S) (dM s.data.toList k).heap yw (by have h1:=HL.o.head;have h2:=HL.o.hh;omega) (by omega) (by have:=HL.o.hh;omega) HL.o.small);rw[eK,<-HCF.o]at KW;have Et:=hg;have OO:=xh O;have hlt2:(dM s.data.toList k).heap<=232:=HL.o.hh;clear B S T O HL
     generalize dM s.data.toList k=C at *;go_wp2_with fail;refine KW.o.mono ?_;rintro e w5 ⟨rfl,o5⟩;have O6:=xh (OO.o.trans (o5.aE OO.o.size (by simpa [ah]using Et)));clear o5;go_wp2_with fail;go_ret2;exact⟨rfl,O6.o⟩
  .exact absurd HC.o eG
 .have HC:=xh h;have hb:(bq s.data.toList==0)=false:=by simpa using h
  have e1:iM s.data.toList=([],bq s.data.toList):=by unfold iM;rw[if_neg h]
  rw[e1];clear h e1;unfold je at KA;generalize bq s.data.toList=q at *;go_enter Tryz.func211,Tryz.ntmps211;go_wp2_with fail;refine KA.o.mono ?_;rintro e w1 ⟨v,rfl,aL,fr,hv⟩
  rcases hv with⟨h0,-⟩|⟨-,rfl⟩
  .exact absurd h0 HC.o
  .have O:=xh aL;clear aL fr;go_wp2_with fail;go_ret2;exact⟨rfl,O.o⟩
variable{w:World}{A:Option Addr}{n c:Nat}{l:List Slot}
theorem iY:∃i:TypeInfo,Tryz.prog.info? 271=some i/\i.zero=some (.agg #[.int .i64 0,.int .i64 0])/\i.size=2/\i.bytes=16:=info_parts pF
theorem Is{cc:Nat}(h:n<=c):dG Tryz.prog 266 266 w (.slice A n c) (.slice none 0 cc)= .ok (.slice A n c) w:=by
 obtain⟨i0,zD,jb,gW,iS⟩:=iY;unfold dG
 cases A with
 |none=>simp[Builtin.append_,run_underlying Tryz.underlying266,sizeOf,typeInfo,zD,Builtin.lenOf,Builtin.firstCells,qZ.2 h,h]
 |some a=>simp[Builtin.append_,run_underlying Tryz.underlying266,sizeOf,typeInfo,zD,Builtin.lenOf,Builtin.firstCells,h,storeCells]
theorem yx(l:List Slot)(i:Nat):sc l=sc (l.take i)++sc (l.drop i):=by rw[<-kq,jN]
theorem yy(S:aQ w 271 2 (.slice A n c) n (sc l))(i:Nat)(hi:i<=n)(hn:n<=1000000)(a:Addr)(cc:Nat)(lx:List Slot)(hm0:0<lx.length)(hm1:lx.length<=1000000)(hx:∀j u,(sc lx)[j]?=some u->w.cell? (a.add j)=some u):
  ∃v' w',dG Tryz.prog 266 266 w (.slice A i i) (.slice (some a) lx.length cc)= .ok v' w'/\aQ w' 271 2 v' (i+lx.length) (sc (l.take i++lx))/\Below w.heap.size w w'/\(∀g∈ah v',w.heap.size<=g):=by
 obtain⟨i0,zD,jb,gW,iS⟩:=iY;have hl:=S.1;rw[gv]at hl;have hnl:(sc lx).length=lx.length*2:=by rw[gv];omega
 rcases S.2 with⟨hv,h0⟩|⟨g,cap,rest,hv,B,hc,_⟩
 .simp only[Value.slice.injEq]at hv;obtain⟨rfl,-,rfl⟩:=hv;subst h0;obtain rfl:i=0:=by omega
  obtain⟨v',w',e,S',o,F⟩:=cQ (P:=Tryz.prog) (aQ.nil w 271 2) 266 266 i0 (.agg #[.int .i64 0,.int .i64 0]) 16 Tryz.underlying266 zD jb gW iS rfl (by omega) a lx.length cc (sc lx) hnl hx (Ip lx) (by unfold maxLen;omega) (by omega);exact⟨v',w',e,by rw[gJ,eA];simpa using S',o.below (by simp[ah]),λx hx=>(F x hx).elim (by simp[ah]) id⟩
 .simp only[Value.slice.injEq]at hv;obtain⟨rfl,-,rfl⟩:=hv;have hli:(sc (l.take i)).length=i*2:=by rw[gv,cE];omega
  obtain⟨v',w',vT,h2,h3⟩:=run_append_arg_grows (P:=Tryz.prog) w 266 266 271 i0 (.agg #[.int .i64 0,.int .i64 0]) 2 16 Tryz.underlying266 zD jb gW iS rfl (by omega) ⟨g,0,none⟩ i i (sc (l.take i)) hli
   (aZ B 0 _ (by
    intro j u hu;rw[bt];have hj:j<(sc (l.take i)).length:=(aR.1 hu).1;rw[yx l i,cN,bx hj];exact hu)) a lx.length cc (sc lx) hnl hx (by omega) (by unfold maxLen;omega) (by omega)
  rw[<-kq]at h2;refine⟨v',w',vT,.rH h2,((ag.refl [] w).grown h3 (by simp)).cK,?_⟩;intro g' hg
  rcases h2.2 with⟨rfl,_⟩|⟨g'',Ae,cur,rfl,hb,_⟩
  .simp[ah]at hg
  .simp[ah]at hg;subst hg;exact hb
theorem sO(S:aQ w 271 2 (.slice A n c) n (sc l))(i:Nat)(hi:i<=n)(hn:n<=1000000)(a b:Nat):
  ∃v' w',dG Tryz.prog 266 266 (w.alloc (.cells #[.int .i64 a,.int .i64 b] 271)) (.slice A i i) (.slice (some ⟨w.heap.size,0,none⟩) 1 1)= .ok v' w'/\aQ w' 271 2 v' (i+1) (sc (l.take i++[(a,b)]))/\Below w.heap.size w w'/\(∀g∈ah v',w.heap.size<=g):=by
 have b0:=(Below.refl w.heap.size w).alloc (ak _) (.cells #[.int .i64 (a:Int),.int .i64 (b:Int)] 271);obtain⟨v',w',e,S',o,F⟩:=yy (S.below b0) i hi hn ⟨w.heap.size,0,none⟩ 1 [(a,b)] (by simp) (by simp) (aZ (l:=[.int .i64 (a:Int),.int .i64 (b:Int)]) (aD.new _ _ _) 0 _ (by intro j u hu;rw[bt];exact hu));exact⟨v',w',e,S',ao b0 o,λg hg=>au (by simp) (F g hg)⟩
theorem qt{vt:Value}{m:Nat}{lt:List Slot}(T:aQ w 271 2 vt m (sc lt))(S:aQ w 271 2 (.slice A n c) n (sc l))(i:Nat)(hi:i<=n)(hn:n<=1000000)(hm:m<=1000000)(hmp:0<m):
  ∃A' cc v' w',((A=none/\n=0/\i=0/\c=0/\A'=none/\cc=0)\/(∃g,A=some ⟨g,0,none⟩/\c=i/\n=i/\A'=some ⟨g,0,none⟩/\cc=0)\/(∃g,A=some ⟨g,0,none⟩/\c≠i/\i<c/\n<=c/\A'=some ⟨g,i*2,none⟩/\cc=c-i))/\
   dG Tryz.prog 266 266 w vt (.slice A' (n-i) cc)= .ok v' w'/\aQ w' 271 2 v' (m+(n-i)) (sc (lt++l.drop i))/\ag (ah vt) w w'/\(∀g∈ah v',g∈ah vt\/w.heap.size<=g):=by
 obtain⟨i0,zD,jb,gW,iS⟩:=iY;have hl:=S.1;rw[gv]at hl
 rcases S.2 with⟨hv,h0⟩|⟨g,cap,rest,hv,B,hc,_⟩
 .simp only[Value.slice.injEq]at hv;obtain⟨rfl,-,rfl⟩:=hv;subst h0;obtain rfl:i=0:=by omega
  have hl0:l=[]:=mN (by omega);subst hl0;obtain⟨g,cap,rest,rfl,_,pG,_⟩:=T.form hmp (by omega);exact⟨none,0,_,w,.inl ⟨rfl,rfl,rfl,rfl,rfl,rfl⟩,Is pG,by simpa using T,ag.refl _ _,λx hx=> .inl hx⟩
 .simp only[Value.slice.injEq]at hv;obtain⟨rfl,-,rfl⟩:=hv;have Dn:n<=c:=by
   have:=S.1;omega
  have hdl:(sc (l.drop i)).length=(n-i)*2:=by rw[gv,dg];omega
  have hcells:∀(o:Nat),o=i*2\/n-i=0->∀j u,(sc (l.drop i))[j]?=some u->w.cell? ((⟨g,o,none⟩:Addr).add j)=some u:=λo ho=>aZ B o _ (by
   intro j u hu;have hj:j<(sc (l.drop i)).length:=(aR.1 hu).1
   rcases ho with rfl|h0
   .have hti:(sc (l.take i)).length=i*2:=by rw[gv,cE];omega
    rw[yx l i,cN,dF (by omega),hti,Nat.add_sub_cancel_left,bx hj];exact hu
   .omega)
  have key:∀(o cc:Nat),o=i*2\/n-i=0->∃v' w',dG Tryz.prog 266 266 w vt (.slice (some ⟨g,o,none⟩) (n-i) cc)= .ok v' w'/\aQ w' 271 2 v' (m+(n-i)) (sc (lt++l.drop i))/\ag (ah vt) w w'/\(∀g∈ah v',g∈ah vt\/w.heap.size<=g):=by
   intro o cc ho;obtain⟨v',w',e,S',o',F⟩:=cQ (P:=Tryz.prog) T 266 266 i0 (.agg #[.int .i64 0,.int .i64 0]) 16 Tryz.underlying266 zD jb gW iS rfl (by omega) ⟨g,o,none⟩ (n-i) cc (sc (l.drop i)) hdl (hcells o ho) (Ip _) (by unfold maxLen;omega) (by omega);rw[<-kq]at S';exact⟨v',w',e,S',o',F⟩
  by_cases hci:c=i
  .have hni:n=i:=by omega
   obtain⟨v',w',h1,h2,h3,h4⟩:=key 0 0 (.inr (by omega));exact⟨_,0,v',w',.inr (.inl ⟨g,rfl,hci,hni,rfl,rfl⟩),h1,h2,h3,h4⟩
  .obtain⟨v',w',h1,h2,h3,h4⟩:=key (i*2) (c-i) (.inl rfl);exact⟨_,c-i,v',w',.inr (.inr ⟨g,rfl,hci,by omega,Dn,rfl,rfl⟩),h1,h2,h3,h4⟩
variable{b r:List UInt8}
def om(b:List UInt8)(i:Int)(r:List UInt8):List UInt8×Int:=
 if bq b=0 then(if 0<=i/\i<=(bl b 0:Int)then(if(r.length:Int)<=ff b-4 then(m8 b i.toNat r,0)else([],11))else([],3))else([],bq b)
theorem It(h:¬4+4*(bl b 0+1)+r.length>bl b 2):gu b r=b:=by unfold gu;rw[if_neg h]
theorem Eu(h:4+4*(bl b 0+1)+r.length>bl b 2):gu b r=eF b:=by unfold gu;rw[if_pos h]
theorem mJ(s:ByteArray)(w:World)(hs:s.size<=1000000):
  ∃cap w',(convert 9 150 (.string s)).run Tryz.prog w=.ok (.slice (some ⟨w.heap.size,0,none⟩) s.size cap) w'/\jR w' (.slice (some ⟨w.heap.size,0,none⟩) s.size cap) s.data.toList/\Below w.heap.size w w':=by
 obtain⟨cap,w1,e1,S1,aL⟩:=qE (P:=Tryz.prog) w 9 150 5 s Tryz.underlying9 Tryz.underlying150 Tryz.underlying5 (by unfold maxLen;omega);refine⟨cap,w1,e1,?_,aL⟩;unfold jR;rw[show s.data.toList.length=s.size from by simp];exact S1
theorem yz(h:Sound b)(i:Nat)(hr:(r.length:Int)<=ff b-4)(hi:i<=bl b 0):
  ∃t:List UInt8,t=gu b r/\Sound t/\bl t 0=bl b 0/\4+4*(bl b 0+1)+r.length<=bl t 2/\
   m8 b i r=ib (lay t (bl t 2-r.length) r) (((aX t).take i++[(bl t 2-r.length,r.length)])++(aX t).drop i) (bl t 2-r.length)/\
   Laid (lay t (bl t 2-r.length) r) (((aX t).take i++[(bl t 2-r.length,r.length)])++(aX t).drop i) (bl t 2-r.length):=by
 obtain⟨hs,he,h0,hh⟩:=h.base r hr;refine⟨_,rfl,hs,h0,hh,?_,?_⟩
 .unfold m8;simp
 .rw[cN];exact Laid.insert hs i r (by rw[h0];exact hh) (by rw[h0];exact hi)
theorem Ew(s r:ByteArray)(i:Nat)(w:World)(hs:Sound s.data.toList)(hr:(r.size:Int)<=ff s.data.toList-4)(hi:i<=bl s.data.toList 0):
  Calls Tryz.prog 164 #[.string s,.int .i64 i,.string r] w λe w'=>e=.returned (.tuple #[.string ⟨(m8 s.data.toList i r.data.toList).toArray⟩,.int .i64 0])/\Below w.heap.size w w':=by
 have Fy:s.size=232:=by have:=hs.len;simpa using this
 have h4:=hs.head;have h5:=hs.heap;have Ex:r.data.toList.length=r.size:=by simp
 obtain⟨t,ht,tS,t0,t2,hF,CR⟩:=yz hs i (r:=r.data.toList) (by rw[Ex];exact hr) hi;rw[Ex]at t2 hF CR;rw[hF];have FC:=(cU _).2 hs;have G6:oe s.data.toList=ff s.data.toList:=by unfold oe;rw[if_pos FC]
 have hrle:ff s.data.toList<=228:=by unfold ff;omega
 have KC:=xh (λw'=>mh s w' (by omega));have KL:=xh (λw'=>jE s w' (by omega) (by omega));have KR:=xh (λw'=>yq s w' (by omega));have K2:=xh (λw'=>dL s 2 w' (by omega) (by omega) (by omega));have KM:=xh (λw'=>yv s w' (by omega));have hcg:iM s.data.toList=(eF s.data.toList,0):=by unfold iM;rw[if_pos FC]
 rw[hcg]at KM;rw[FC]at KC;rw[G6]at KR;simp only[show(2:Int).toNat=2 from rfl]at K2;obtain⟨T,rfl⟩:∃T:ByteArray,T.data.toList=t:=⟨⟨t.toArray⟩,by simp⟩;have Cw:T.size=232:=by have:=tS.len;simpa using this
 have tH:=tS.heap;have KLT:=xh (λw'=>jE T w' (by rw[t0];omega) (by omega));have K2T:=xh (λw'=>dL T 2 w' (by omega) (by omega) (by omega));simp only[show(2:Int).toNat=2 from rfl]at K2T;rw[t0]at KLT;have HSL:=xh (bR T.data.toList);rw[t0]at HSL;obtain⟨h',hh'⟩:∃h',bl T.data.toList 2=h'+r.size:=⟨bl T.data.toList 2-r.size,by omega⟩;rw[hh',nG]at CR;rw[hh',nG];rw[hh']at tH t2 K2T
 have xz:bl s.data.toList 0<65536:=sH _ _;have qu:=xh CR;have HT:=xh ht;have HCB:=xh (show 4+4*(bl s.data.toList 0+1)+r.size>bl s.data.toList 2->(⟨(eF s.data.toList).toArray⟩:ByteArray)=T from λhg=>by
  rw[Eu (by rw[Ex];exact hg)]at ht;rw[<-ht])
 have HCN:=xh (show ¬4+4*(bl s.data.toList 0+1)+r.size>bl s.data.toList 2->s=T from λhg=>by
  rw[It (by rw[Ex];exact hg)]at ht;apply nA;apply nz.1;exact ht.symm)
 have HTL:=xh Cw;have hTl1:T.size<=1000000:=by omega
 clear ht tS hF CR FC G6 hcg Fy Ex hh' Cw t0 hs;generalize bl s.data.toList 0=n at *;generalize bl s.data.toList 2=heap at *;generalize ff s.data.toList=room at *;go_enter Tryz.func164,Tryz.ntmps164;go_wp2_with fail;refine(KC.o _).mono ?_;rintro e w1 ⟨rfl,aL⟩;have O1:=xh aL;clear aL;go_wp2_with fail;refine(KL.o _).mono ?_;rintro e w2 ⟨v,rfl,S2,bK,CF⟩;have O2:=xh (ao O1.o bK);have hS2:=xh S2;obtain⟨A2,c2,rfl⟩:=aq S2
 have FR2:=xh (show ∀g∈ah (.slice A2 n c2),w.heap.size<=g from λg hg=>au O1.o.size (CF g hg));clear S2 bK CF;go_wp2_with fail;refine(KR.o _).mono ?_;rintro e w3 ⟨rfl,dR⟩;have O3:=xh (ao O2.o dR);have S3:=xh (hS2.o.below dR);clear dR hS2;go_wp2_with fail;refine(K2.o _).mono ?_;rintro e w4 ⟨rfl,fw⟩;have O4:=xh (ao O3.o fw);have S4:=xh (S3.o.below fw);clear fw S3 O3 O2 O1
 by_cases hg:4+4*(n+1)+r.size>heap
 .have e1:=HCB.o hg;rw[e1]at KM;clear e1;have uU:heap<4+4*(n+1)+r.size:=hg;clear hg HCB HCN;go_wp2_with fail;refine(KM.o _).mono ?_;rintro e w5 ⟨rfl,nt⟩;have O5:=xh (ao O4.o nt);clear nt O4;go_wp2_with fail;refine(KLT.o _).mono ?_;rintro e w6 ⟨v,rfl,S6,zE,fr6⟩;have O6:=xh (ao O5.o zE);obtain⟨A,c,rfl⟩:=aq S6;have S:=xh S6;have FR:=xh (show ∀g∈ah (.slice A n c),w.heap.size<=g from λg hg=>au O5.o.size (fr6 g hg))
  clear S6 zE fr6 O5 S4;go_wp2_with fail;refine(K2T.o _).mono ?_;rintro e w7 ⟨rfl,Dx⟩;have O7:=xh (ao O6.o Dx);have S7:=xh (S.o.below Dx);clear Dx S O6 uU KM K2 KC KL KR K2T KLT;obtain⟨cap,w8,e8,B8,Ft⟩:=mJ T w7 (by omega);rw[HTL.o]at e8 B8;have E8:=xh e8;have O8:=xh (ao O7.o Ft);have S8:=S7.o.below Ft;have hgw:=au O7.o.size (ak w7.heap.size);have lK:T.data.toList.length=232:=by have:=HTL.o;simpa using this
  have NS:=xh (oh S8 B8 (by decide));have pG:232<=cap:=by obtain⟨rest,_,h2,_⟩:=aQ.oO B8;rw[fZ,lK]at h2;omega
  obtain⟨oa,dc,w9,hoa,cp,B9,o9⟩:∃(oa dc:Nat) (w9:World),((h'=232/\cap=232/\oa=0/\dc=0)\/(h'≠cap/\h'<cap/\oa=h'/\dc=cap-h'))/\(Builtin.copy_ #[150,9] 3 #[.slice (some ⟨w7.heap.size,oa,none⟩) (232-h') dc,.string r]).run Tryz.prog w8=.ok (goInt r.size) w9/\jR w9 (.slice (some ⟨w7.heap.size,0,none⟩) 232 cap) (lay T.data.toList h' r.data.toList)/\ag [w7.heap.size] w8 w9:=by
   rw[<-lK]at B8
   by_cases hz:h'=cap
   .obtain⟨w9,h1,h2,h3⟩:=lJ B8 h' 0 0 r (by omega) (.inr ⟨by omega,by omega⟩) (232-h') (by omega);rw[lK]at h2;exact⟨0,0,w9,.inl ⟨by omega,by omega,rfl,rfl⟩,h1,h2,h3⟩
   .obtain⟨w9,h1,h2,h3⟩:=lJ B8 h' h' (cap-h') r (by omega) (.inl rfl) (232-h') (by omega);rw[lK]at h2;exact⟨h',cap-h',w9,.inr ⟨hz,by omega,rfl,rfl⟩,h1,h2,h3⟩
  have S9:=S8.only o9 NS.o;have O9:=xh (O8.o.trans (o9.aE O8.o.size (by simpa using hgw)));obtain⟨v10,jf,ea,T10,wY,Iu⟩:=sO S9 i hi (by omega) h' r.size;obtain⟨V10,c10,rfl⟩:=aq T10;have O10:=xh (ao O9.o wY);have B10:=B9.below wY;have oo:=S9.below wY;obtain⟨A',cc,v11,w11,hd,eb,T11,o11,-⟩:=qt T10 oo i hi (by omega) (by omega) (by omega);obtain⟨V11,c11,rfl⟩:=aq T11
  have B11:=B10.only o11 (λx hx hx'=>cy T10 B10 (by decide) x hx' hx);have oq:=xh (O10.o.trans (o11.aE O10.o.size (λx hx=>au O9.o.size (Iu x hx))));have KW:=xh (sM B11 (nc.of T11) h' qu.o.len (by have h1:=qu.o.head;have h2:=qu.o.hh;omega) (by omega) (by omega) qu.o.small);rw[eK]at KW;have Et:=xh (show ∀x∈ah (.slice (some ⟨w7.heap.size,0,none⟩) 232 cap),w.heap.size<=x from by simpa [ah]using hgw)
  generalize Iv:ib (lay T.data.toList h' r.data.toList) (List.take i (aX T.data.toList)++[(h',r.size)]++List.drop i (aX T.data.toList)) h'=RES at *;have GB:=xh Iv;clear Iv;clear e8 B8 Ft S8 NS B9 o9 S9 T10 wY Iu B10 oo T11 o11 B11 O7 S7 O8 O9 O10 lK;go_wp2_with fail;rw[E8.o]
  rcases hoa with⟨rfl,rfl,rfl,rfl⟩|⟨hz,iS,rfl,rfl⟩
  all_goals
   rcases hd with⟨rfl,rfl,rfl,rfl,rfl,rfl⟩|⟨gA,rfl,rfl,rfl,rfl,rfl⟩|⟨gA,rfl,hci,hci2,Dn,rfl,rfl⟩
  all_goals
   try simp only[show((232:Nat):Int)=232 from rfl,show((0:Nat):Int)=0 from rfl]at ea
   try simp only[eB,iE]at eb KW
   go_wp2_with fail;refine KW.o.mono ?_;rintro e w12 ⟨rfl,o12⟩;have O12:=xh (oq.o.trans (o12.aE oq.o.size Et.o));clear o12;go_wp2_with fail;go_ret2;refine⟨?_,O12.o⟩
   first|rfl|(rw[GB.o];rfl)
 .have e1:=HCN.o hg;have uU:4+4*(n+1)+r.size<=heap:=by omega
  clear hg HCB HCN;subst e1;have A2':=FR2;go_wp2_with fail;refine(K2T.o _).mono ?_;rintro e w7 ⟨rfl,Dx⟩;have O7:=xh (ao O4.o Dx);have S7:=xh (S4.o.below Dx);clear Dx S4 O4 uU KM K2 KC KL KR K2T KLT;obtain⟨cap,w8,e8,B8,Ft⟩:=mJ s w7 (by omega);rw[HTL.o]at e8 B8;have E8:=xh e8;have O8:=xh (ao O7.o Ft);have S8:=S7.o.below Ft;have hgw:=au O7.o.size (ak w7.heap.size)
  have lK:s.data.toList.length=232:=by have:=HTL.o;simpa using this
  have NS:=xh (oh S8 B8 (by decide));have pG:232<=cap:=by obtain⟨rest,_,h2,_⟩:=aQ.oO B8;rw[fZ,lK]at h2;omega
  obtain⟨oa,dc,w9,hoa,cp,B9,o9⟩:∃(oa dc:Nat) (w9:World),((h'=232/\cap=232/\oa=0/\dc=0)\/(h'≠cap/\h'<cap/\oa=h'/\dc=cap-h'))/\(Builtin.copy_ #[150,9] 3 #[.slice (some ⟨w7.heap.size,oa,none⟩) (232-h') dc,.string r]).run Tryz.prog w8=.ok (goInt r.size) w9/\jR w9 (.slice (some ⟨w7.heap.size,0,none⟩) 232 cap) (lay s.data.toList h' r.data.toList)/\ag [w7.heap.size] w8 w9:=by
   rw[<-lK]at B8
   by_cases hz:h'=cap
   .obtain⟨w9,h1,h2,h3⟩:=lJ B8 h' 0 0 r (by omega) (.inr ⟨by omega,by omega⟩) (232-h') (by omega);rw[lK]at h2;exact⟨0,0,w9,.inl ⟨by omega,by omega,rfl,rfl⟩,h1,h2,h3⟩
   .obtain⟨w9,h1,h2,h3⟩:=lJ B8 h' h' (cap-h') r (by omega) (.inl rfl) (232-h') (by omega);rw[lK]at h2;exact⟨h',cap-h',w9,.inr ⟨hz,by omega,rfl,rfl⟩,h1,h2,h3⟩
  have S9:=S8.only o9 NS.o;have O9:=xh (O8.o.trans (o9.aE O8.o.size (by simpa using hgw)));obtain⟨v10,jf,ea,T10,wY,Iu⟩:=sO S9 i hi (by omega) h' r.size;obtain⟨V10,c10,rfl⟩:=aq T10;have O10:=xh (ao O9.o wY);have B10:=B9.below wY;have oo:=S9.below wY;obtain⟨A',cc,v11,w11,hd,eb,T11,o11,-⟩:=qt T10 oo i hi (by omega) (by omega) (by omega);obtain⟨V11,c11,rfl⟩:=aq T11
  have B11:=B10.only o11 (λx hx hx'=>cy T10 B10 (by decide) x hx' hx);have oq:=xh (O10.o.trans (o11.aE O10.o.size (λx hx=>au O9.o.size (Iu x hx))));have KW:=xh (sM B11 (nc.of T11) h' qu.o.len (by have h1:=qu.o.head;have h2:=qu.o.hh;omega) (by omega) (by omega) qu.o.small);rw[eK]at KW;have Et:=xh (show ∀x∈ah (.slice (some ⟨w7.heap.size,0,none⟩) 232 cap),w.heap.size<=x from by simpa [ah]using hgw)
  generalize Iv:ib (lay s.data.toList h' r.data.toList) (List.take i (aX s.data.toList)++[(h',r.size)]++List.drop i (aX s.data.toList)) h'=RES at *;have GB:=xh Iv;clear Iv;clear e8 B8 Ft S8 NS B9 o9 S9 T10 wY Iu B10 oo T11 o11 B11 O7 S7 O8 O9 O10 lK;go_wp2_with fail;rw[E8.o]
  rcases hoa with⟨rfl,rfl,rfl,rfl⟩|⟨hz,iS,rfl,rfl⟩
  all_goals
   rcases hd with⟨rfl,rfl,rfl,rfl,rfl,rfl⟩|⟨gA,rfl,rfl,rfl,rfl,rfl⟩|⟨gA,rfl,hci,hci2,Dn,rfl,rfl⟩
  all_goals
   try simp only[show((232:Nat):Int)=232 from rfl,show((0:Nat):Int)=0 from rfl]at ea
   try simp only[eB,iE]at eb KW
   go_wp2_with fail;refine KW.o.mono ?_;rintro e w12 ⟨rfl,o12⟩;have O12:=xh (oq.o.trans (o12.aE oq.o.size Et.o));clear o12;go_wp2_with fail;go_ret2;refine⟨?_,O12.o⟩
   first|rfl|(rw[GB.o];rfl)
end Go.Proofs.YtmonobkginiajaaGreat.Sl
namespace Go.Proofs.YtmonobkginiajaaGreat.Sl
open Go.RowKit
attribute [local go_sem ↓] Go.wp_at_zero Go.wp_at_succ
attribute [local go_sem ↓] aW
theorem Bz(s r:ByteArray)(i:Int)(w:World)(hs:s.size<=1000000)(hr:r.size<=9223372036854775807):
  Calls Tryz.prog 164 #[.string s,.int .i64 i,.string r] w λe w'=>e=.returned (.tuple #[.string ⟨(om s.data.toList i r.data.toList).1.toArray⟩,.int .i64 (om s.data.toList i r.data.toList).2])/\Below w.heap.size w w':=by
 have Ex:r.data.toList.length=r.size:=by simp
 have KC:=xh (λw'=>mh s w' hs)
 by_cases h:bq s.data.toList=0
 .have hS:=(cU _).1 h;have Fy:s.size=232:=by have:=hS.len;simpa using this
  have h4:=hS.head;have h5:=hS.heap
  by_cases hi:0<=i/\i<=(bl s.data.toList 0:Int)
  .by_cases hg:(r.size:Int)<=ff s.data.toList-4
   .have e1:om s.data.toList i r.data.toList=(m8 s.data.toList i.toNat r.data.toList,0):=by unfold om;rw[if_pos h,if_pos hi,Ex,if_pos hg]
    rw[e1];obtain⟨k,rfl⟩:=dn hi.1;rw[eK];exact Ew s r k w hS hg (by omega)
   .have e1:om s.data.toList i r.data.toList=([],11):=by unfold om;rw[if_pos h,if_pos hi,Ex,if_neg hg]
    rw[e1];have G6:oe s.data.toList=ff s.data.toList:=by unfold oe;rw[if_pos h]
    have Fw: -1000000<=ff s.data.toList:=by
     rw[sL hS];have:=hS.sum;omega
    have hhi:ff s.data.toList<=228:=by unfold ff;omega
    have KL:=xh (λw'=>jE s w' (by omega) hs);have KR:=xh (λw'=>yq s w' hs);rw[G6]at KR;rw[h]at KC;have uU:ff s.data.toList-4<(r.size:Int):=by omega
    clear e1 h hS G6 hg;generalize ff s.data.toList=room at *;generalize bl s.data.toList 0=n at *;obtain⟨hi1,Ih⟩:=hi;go_enter Tryz.func164,Tryz.ntmps164;go_wp2_with fail;refine(KC.o _).mono ?_;rintro e w1 ⟨rfl,aL⟩;have O1:=xh aL;clear aL;go_wp2_with fail;refine(KL.o _).mono ?_;rintro e w2 ⟨v,rfl,S2,bK,-⟩;have O2:=xh (ao O1.o bK);obtain⟨A2,c2,rfl⟩:=aq S2;clear S2 bK;go_wp2_with fail;refine(KR.o _).mono ?_;rintro e w3 ⟨rfl,dR⟩
    have O3:=xh (ao O2.o dR);clear dR;go_wp2_with fail;go_ret2;exact⟨rfl,O3.o⟩
  .have e1:om s.data.toList i r.data.toList=([],3):=by unfold om;rw[if_pos h,if_neg hi]
   rw[e1];have KL:=xh (λw'=>jE s w' (by omega) hs);rw[h]at KC;generalize bl s.data.toList 0=n at *;have hx:i<0\/(¬i<0/\(n:Int)<i):=by omega
   clear e1 h hi hS
   rcases hx with h1|⟨h1,h2⟩
   all_goals
    go_enter Tryz.func164,Tryz.ntmps164;go_wp2_with fail;refine(KC.o _).mono ?_;rintro e w1 ⟨rfl,aL⟩;have O1:=xh aL;clear aL;go_wp2_with fail;refine(KL.o _).mono ?_;rintro e w2 ⟨v,rfl,S2,bK,-⟩;have O2:=xh (ao O1.o bK);obtain⟨A2,c2,rfl⟩:=aq S2;clear S2 bK;go_wp2_with fail;go_ret2;exact⟨rfl,O2.o⟩
 .have e1:om s.data.toList i r.data.toList=([],bq s.data.toList):=by unfold om;rw[if_neg h]
  have hb:(bq s.data.toList==0)=false:=by simpa using h
  rw[e1];clear e1 h;generalize bq s.data.toList=q at *;go_enter Tryz.func164,Tryz.ntmps164;go_wp2_with fail;refine(KC.o _).mono ?_;rintro e w1 ⟨rfl,aL⟩;have O1:=xh aL;clear aL;go_wp2_with fail;go_ret2;exact⟨rfl,O1.o⟩
end Go.Proofs.YtmonobkginiajaaGreat.Sl
namespace Go.Proofs.YtmonobkginiajaaGreat.Sl
open Go.RowKit
end Go.Proofs.YtmonobkginiajaaGreat.Sl
namespace Go.Proofs.YtmonobkginiajaaGreat.Sl
open Go.RowKit
attribute [local go_sem ↓] aW
theorem iN{w:World}{A:Option Addr}{n c:Nat}{l:List (List UInt8)}(S:aQ w 9 1 (.slice A n c) n (strs l))(k:Nat)(hk:k<l.length):∃g,A=some ⟨g,0,none⟩/\w.cell? ⟨g,k,none⟩=some (.string ⟨l[k].toArray⟩):=by
 have hl:=S.1;rw[qo]at hl;obtain⟨g,cap,rest,hv,B,_,_⟩:=S.form (by omega) (by omega);simp only[Value.slice.injEq,true_and]at hv;obtain⟨rfl,rfl⟩:=hv;exact⟨g,rfl,B.ab (by rw[cW,bx (by rw[qo];exact hk)];simp[strs,aN hk])⟩
theorem size_of_list(l:List UInt8):(⟨l.toArray⟩:ByteArray).size=l.length:=by
 show l.toArray.size=l.length;simp
end Go.Proofs.YtmonobkginiajaaGreat.Sl
namespace Go.Proofs.YtmonobkginiajaaGreat.Sl
open Go.RowKit
attribute [local go_sem ↓] Go.wp_at_zero Go.wp_at_succ
attribute [local go_sem ↓] aW
section
variable{w:World}{A:Option Addr}{n c i:Nat}{l:List (List UInt8)}{A3:Option Addr}{cc:Nat}
end
section
variable{W:World}{A:Option Addr}{n c i:Nat}{l:List (List UInt8)}{A3:Option Addr}{cc:Nat}{r:ByteArray}
end
end Go.Proofs.YtmonobkginiajaaGreat.Sl
namespace Go.Proofs.YtmonobkginiajaaGreat.Sl
open Go.RowKit
attribute [local go_sem ↓] aW
variable{b:List UInt8}
theorem CS(T:ByteArray):(⟨T.data.toList.toArray⟩:ByteArray)=T:=by simp
theorem Iw(b:List UInt8):∃T:ByteArray,T.data.toList=b:=⟨⟨b.toArray⟩,by simp⟩
theorem ir(h:Sound b):∀r∈bQ b,r.length<=232:=by
 intro r hr;simp only[bQ,eo]at hr;obtain⟨x,hx,rfl⟩:=hr;have:=(h.fit.ln x hx).2;rw[qm (by rw[h.len];omega)];omega
theorem js(h:Sound b):(bQ b).length<=57:=by
 rw[bI];have:=h.head;have:=h.heap;omega
theorem CT(h:Sound b)(i:Nat)(r:List UInt8)(hr:(r.length:Int)<=fT (bQ b)-4)(hi:i<=(bQ b).length):
  om b i r=(m8 b i r,0)/\Sound (m8 b i r)/\bQ (m8 b i r)=(bQ b).take i++r::(bQ b).drop i:=by
 rw[bI]at hi;rw[<-CO h]at hr;refine⟨?_,h.insert i r hr hi⟩;unfold om;rw[if_pos ((cU b).2 h),if_pos ⟨by omega,by omega⟩,if_pos hr,eK]
end Go.Proofs.YtmonobkginiajaaGreat.Sl
namespace Go.Proofs.YtmonobkginiajaaGreat.Sl
open Go.RowKit Go.Deep Go.ChangeShapes Go.WideShapes
attribute [local go_sem ↓] aW
theorem BC{b:List UInt8}(h:Sound b)(i:Nat)(r:List UInt8)(hr:fT (bQ b)-4<(r.length:Int))(hi:i<=(bQ b).length):om b i r=([],11):=by
 rw[bI]at hi;rw[<-CO h]at hr;unfold om;rw[if_pos ((cU b).2 h),if_pos ⟨by omega,by omega⟩,if_neg (by omega)]
end Go.Proofs.YtmonobkginiajaaGreat.Sl
namespace Go.Proofs.YtmonobkginiajaaGreat.Sl
open Go.RowKit Go.Deep Go.ChangeShapes Go.WideShapes
structure Ac where
 kind:Int
 i:Int
 r:ByteArray
instance:Inhabited Ac:=⟨⟨0,0,.empty⟩⟩
end Go.Proofs.YtmonobkginiajaaGreat.Sl
