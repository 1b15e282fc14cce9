/- packed. -/
import Derived.Test.YtmonobkginiajaaGreatC2
import Derived.Deep.RegionHeld3
import Derived.Deep.DrawnRows
import Derived.Laws.ResultCell
import Derived.ChangeKeysEq
set_option linter.all false
set_option maxRecDepth 100000
set_option maxHeartbeats 8000000
namespace Go.Proofs.YtmonobkginiajaaGreat.Rt
open Go.RowKit Pk
attribute [local go_sem ↓] Go.wp_at_zero Go.wp_at_succ
variable{w:World}{A:Option Addr}{n:Nat}{l:List Int}
theorem ae{W w1:World}(h:Below W.heap.size W w1)(o:Obj):Below W.heap.size W (w1.alloc o):=h.alloc h.size o
theorem bool_of(p:Prop):∃b:Bool,b=true↔p:=by
 by_cases h:p
 .exact⟨true,by simp[h]⟩
 .exact⟨false,by simp[h]⟩
def fO(w:World)(A:Option Addr)(n:Nat)(l:List Int):Prop:=l.length=n/\∀k x,l[k]?=some x->∃ad,A=some ad/\w.cell? (ad.add k)=some (.int .i64 x)
theorem fO.below{w':World}(h:fO w A n l)(hb:Below w.heap.size w w'):fO w' A n l:=by
 refine⟨h.1,λk x hx=>?_⟩;obtain⟨ad,e1,h1⟩:=h.2 k x hx;exact⟨ad,e1,(hb.cell (by rw[nK];exact cell_lt h1)).trans h1⟩
theorem fO.at(h:fO w A n l)(k:Nat)(hk:k<n):∃ad x,A=some ad/\l[k]?=some x/\w.cell? (ad.add k)=some (.int .i64 x):=by
 have hl:=h.1;obtain⟨ad,e1,h1⟩:=h.2 k l[k] (aN (by omega));exact⟨ad,l[k],e1,aN (by omega),h1⟩
theorem fO.take(h:fO w A n l)(k:Nat)(hk:k<=n):fO w A k (l.take k):=by
 refine⟨by rw[cE];have:=h.1;omega,λj x hx=>?_⟩;rw[zV]at hx
 split at hx
 .exact h.2 j x hx
 .cases hx
def qd(n:Int):Int:=(max n 0+115) / 116
def xQ(a b:Int)(A:Option Addr)(n c:Nat):Value:= .agg #[.int .i64 a,.int .i64 b,.slice A n c]
def iV(ep lg:Int)(l:List Int):Prop:=1<=ep/\ep<=1099511627776/\0<=lg/\lg<=512/\(l.length:Int)=qd lg/\∀i x,l[i]?=some x->0<=x/\x<=1023/\x∉l.take i
theorem Gw(n:Int)(h:n<=1000000)(w:World):
  Calls Tryz.prog 149 #[.int .i64 n] w λe w'=>e=.returned (.int .i64 (qd n))/\Below w.heap.size w w':=by
 unfold qd;obtain⟨m,hm⟩:=dn (show 0<=max n 0 by omega);rw[hm];have hm2:m<=1000000:=by omega
 have e1:IntKind.i64.wrap ((m:Int)+116)=(m:Int)+116:=IntWalk.i64_in _ (by omega);have e2:IntKind.i64.wrap ((m:Int)+116-1)=(m:Int)+115:=by rw[show(m:Int)+116-1=(m:Int)+115 by omega];exact IntWalk.i64_in _ (by omega)
 have e3:IntKind.i64.wrap (((m:Int)+115).tdiv 116)=((m:Int)+115) / 116:=by rw[zJ (by omega)];exact IntWalk.i64_in _ (by omega)
 have e4:IntKind.i64.wrap ((m:Int)+115)=(m:Int)+115:=IntWalk.i64_in _ (by omega);go_enter Tryz.func149,Tryz.ntmps149;go_wp2_with fail
 all_goals
  go_ret;refine⟨?_,Below.refl _ _⟩
  first|(simp;done)|(simp;omega)
theorem l6(A:Option Addr)(n c:Nat)(l:List Int)(x:Int)(h:fO w A n l)(hn:n<=1000000):
  Calls Tryz.prog 165 #[.slice A n c,.int .i64 x] w λe w'=>(∃k:Int,e=.returned (.int .i64 k)/\(0<=k↔x∈l))/\w'=w:=by
 have H0:=xh h;go_enter Tryz.func165,Tryz.ntmps165;go_wp2_with fail
 go_loopw [8] (λiv wr=> ∃i:Nat,i<=n/\iv=.int .i64 i/\Hid (∀j y,j<i->l[j]?=some y->y≠x)/\wr=w) (λiv _=>n-(intOf iv).toNat)
 case atStart=>exact⟨0,bm _,rfl,xh (λj y h=>absurd h (jP _)),rfl⟩
 case round=>
  obtain⟨i,hi,rfl,HX,rfl⟩:=hrel
  by_cases h':i<n
  .obtain⟨ad,y,rfl,hy,ck⟩:=H0.o.at i h';have hiI:(i:Int)<(n:Int):=by omega
   have HY:=xh hy;clear hy h
   by_cases hxy:x=y
   .subst hxy;go_wp2_with fail;go_ret;refine⟨⟨(i:Int),rfl,?_⟩,rfl⟩;exact⟨λ_=>az HY.o,λ_=>by omega⟩
   .have hxy2:(x==y)=false:=by simpa using hxy
    have HX2:=xh (show ∀j z,j<i+1->l[j]?=some z->z≠x from λj z hj hz=>by
     rcases lW.1 hj with h1|rfl
     .exact HX.o j z h1 hz
     .rw[HY.o]at hz;injection hz with hz;subst hz;exact λe=>hxy e.symm)
    go_wp2_with fail;go_roundw
    case rel=>exact⟨i+1,by omega,by go_num,HX2,by first|rfl|trivial⟩
    case measure=>simp[intOf];omega
  .obtain rfl:i=n:=by omega
   clear h;go_wp2_with fail;go_ret;refine⟨⟨-1,rfl,?_⟩,rfl⟩
   constructor
   .intro h1;omega
   .intro hm;exfalso;obtain⟨j,hj,hjx⟩:=lr hm;exact HX.o j _ (by have:=H0.o.1;omega) (aN hj) hjx
theorem wo(A:Option Addr)(n c:Nat)(l:List Int)(x:Int)(h:fO w A n l)(hn:n<=1000000)(b:Bool)(hb:b=true↔x∈l):
  Calls Tryz.prog 201 #[.slice A n c,.int .i64 x] w λe w'=>e=.returned (.bool b)/\w'=w:=by
 have K:=xh (l6 A n c l x h hn);have HB:=xh hb;clear h hb;go_enter Tryz.func201,Tryz.ntmps201;go_wp2_with fail;refine K.o.mono ?_;rintro e w1 ⟨⟨k,rfl,hk⟩,rfl⟩;have HK:=xh hk;clear hk
 by_cases h0:0<=k
 .have h1:¬k<0:=by omega
  go_wp2_with fail;go_ret;refine⟨?_,rfl⟩;rw[HB.o.2 (HK.o.1 h0)];first|rfl|simp
 .have h1:k<0:=by omega
  go_wp2_with fail;go_ret;refine⟨?_,rfl⟩
  cases b
  .first|rfl|(simp;omega)
  .exact absurd (HK.o.2 (HB.o.1 rfl)) (by omega)
theorem Av{ep lg:Int}{l:List Int}(h:iV ep lg l):l.length<=5:=by
 have:=h.2.2.2.2.1;unfold qd at this;have:=h.2.2.2.1;omega
theorem pw{w:World}(ep lg:Int)(A:Option Addr)(n c:Nat)(l:List Int)(h:fO w A n l)(hn:n<=1000000)(Dn:n<=c)(b:Bool)(hb:b=true↔iV ep lg l):
  Calls Tryz.prog 156 #[xQ ep lg A n c] w λe w'=>e=.returned (.bool b)/\Below w.heap.size w w':=by
 have O0:=ae (Below.refl w.heap.size w) (.cells #[.int .i64 ep,.int .i64 lg,.slice A n c] 155);have B0:=xh (aD.new w 155 #[.int .i64 ep,.int .i64 lg,.slice A n c]);have H0:=xh (h.below O0);have HB:=xh hb;have HL:=xh h.1;have O0:=xh O0;clear h hb;unfold xQ
 have uB:(ep<1)\/(¬ep<1/\1099511627776<ep)\/(¬ep<1/\¬1099511627776<ep/\lg<0)\/(¬ep<1/\¬1099511627776<ep/\¬lg<0/\512<lg)\/(¬ep<1/\¬1099511627776<ep/\¬lg<0/\¬512<lg/\(n:Int)≠qd lg)\/(¬ep<1/\¬1099511627776<ep/\¬lg<0/\¬512<lg/\(n:Int)=qd lg):=by omega
 have KN:=xh (λ(hl:lg<=512) w=>Gw lg (by omega) w)
 rcases uB with h1|⟨h1,h2⟩|⟨h1,h2,h3⟩|⟨h1,h2,h3,h4⟩|⟨h1,h2,h3,h4,h5⟩|⟨h1,h2,h3,h4,h5⟩
 .go_enter Tryz.func156,Tryz.ntmps156;go_wp2_with fail;generalize hW:(w.alloc (.cells #[.int .i64 ep,.int .i64 lg,.slice A n c] 155))=W at *;clear hW
  have HK:=xh (show ∀W',Below W.heap.size W W'->(W'.cell? ⟨w.heap.size,0,none⟩=some (.int .i64 ep)/\W'.cell? ⟨w.heap.size,1,none⟩=some (.int .i64 lg)/\W'.cell? ⟨w.heap.size,2,none⟩=some (.slice A n c))from λW' ho=>⟨(B0.o.below ho B0.o.lt).ab (i:=0) rfl,(B0.o.below ho B0.o.lt).ab (i:=1) rfl,(B0.o.below ho B0.o.lt).ab (i:=2) rfl⟩);have OD:=xh ((Below.refl W.heap.size W).drew)
  refine wp_region_held_drew (S:=λW'=>W'.cell? ⟨w.heap.size,0,none⟩=some (.int .i64 ep)/\W'.cell? ⟨w.heap.size,1,none⟩=some (.int .i64 lg)/\W'.cell? ⟨w.heap.size,2,none⟩=some (.slice A n c)) (by kernel_rfl) (HK.o _ OD.o) (λaw=>?_);refine dq [(0,5),(1,6)] ?_
  iterate 2 refine za ?_
  refine zg 2 7 (.bool true) ?_ ?_
  ·(intro w kl;(try dsimp only at kl);go_simp;(try omega))
  refine dq [(3,8)] ?_
  iterate 1 refine za ?_
  refine zc 4 9 ?_;refine zc 5 10 ?_;refine zc 6 11 ?_;refine dq [(7,12),(8,13)] ?_
  iterate 2 refine za ?_
  refine zc 9 14 ?_;refine zc 10 15 ?_;refine zc 11 16 ?_;refine dq [(12,17),(13,18)] ?_
  iterate 2 refine za ?_
  refine zc 14 19 ?_;refine zc 15 20 ?_;refine zc 16 21 ?_;refine dq [(17,22),(18,23)] ?_
  iterate 2 refine za ?_
  refine zc 19 24 ?_;refine zc 20 25 ?_;refine zc 21 26 ?_;refine zc 22 27 ?_;refine zc 23 28 ?_;refine zc 24 29 ?_;refine zc 25 30 ?_;refine dq [(26,31)] ?_
  iterate 1 refine za ?_
  refine wpAnyH_done (by kernel_rfl) ?_ _;have PP:=xh (ao O0.o OD.o);go_wp2_with fail;go_ret;refine⟨?_,PP.o⟩
  cases b
  .first|rfl|simp
  .exfalso;have hr:=HB.o.1 rfl;have hl:=HL.o;unfold iV at hr;omega
 .go_enter Tryz.func156,Tryz.ntmps156;go_wp2_with fail;generalize hW:(w.alloc (.cells #[.int .i64 ep,.int .i64 lg,.slice A n c] 155))=W at *;clear hW
  have HK:=xh (show ∀W',Below W.heap.size W W'->(W'.cell? ⟨w.heap.size,0,none⟩=some (.int .i64 ep)/\W'.cell? ⟨w.heap.size,1,none⟩=some (.int .i64 lg)/\W'.cell? ⟨w.heap.size,2,none⟩=some (.slice A n c))from λW' ho=>⟨(B0.o.below ho B0.o.lt).ab (i:=0) rfl,(B0.o.below ho B0.o.lt).ab (i:=1) rfl,(B0.o.below ho B0.o.lt).ab (i:=2) rfl⟩);have OD:=xh ((Below.refl W.heap.size W).drew)
  refine wp_region_held_drew (S:=λW'=>W'.cell? ⟨w.heap.size,0,none⟩=some (.int .i64 ep)/\W'.cell? ⟨w.heap.size,1,none⟩=some (.int .i64 lg)/\W'.cell? ⟨w.heap.size,2,none⟩=some (.slice A n c)) (by kernel_rfl) (HK.o _ OD.o) (λaw=>?_);refine dq [(0,5),(1,6)] ?_
  iterate 2 refine za ?_
  refine zg 2 7 (.bool false) ?_ ?_
  ·(intro w kl;(try dsimp only at kl);go_simp;(try omega))
  refine dq [(3,8),(4,9),(5,10)] ?_
  iterate 3 refine za ?_
  refine zg 6 11 (.bool true) ?_ ?_
  ·(intro w kl;(try dsimp only at kl);go_simp;(try omega))
  refine dq [(7,12),(8,13)] ?_
  iterate 2 refine za ?_
  refine zc 9 14 ?_;refine zc 10 15 ?_;refine zc 11 16 ?_;refine dq [(12,17),(13,18)] ?_
  iterate 2 refine za ?_
  refine zc 14 19 ?_;refine zc 15 20 ?_;refine zc 16 21 ?_;refine dq [(17,22),(18,23)] ?_
  iterate 2 refine za ?_
  refine zc 19 24 ?_;refine zc 20 25 ?_;refine zc 21 26 ?_;refine zc 22 27 ?_;refine zc 23 28 ?_;refine zc 24 29 ?_;refine zc 25 30 ?_;refine dq [(26,31)] ?_
  iterate 1 refine za ?_
  refine wpAnyH_done (by kernel_rfl) ?_ _;have PP:=xh (ao O0.o OD.o);go_wp2_with fail;go_ret;refine⟨?_,PP.o⟩
  cases b
  .first|rfl|simp
  .exfalso;have hr:=HB.o.1 rfl;have hl:=HL.o;unfold iV at hr;omega
 .go_enter Tryz.func156,Tryz.ntmps156;go_wp2_with fail;generalize hW:(w.alloc (.cells #[.int .i64 ep,.int .i64 lg,.slice A n c] 155))=W at *;clear hW
  have HK:=xh (show ∀W',Below W.heap.size W W'->(W'.cell? ⟨w.heap.size,0,none⟩=some (.int .i64 ep)/\W'.cell? ⟨w.heap.size,1,none⟩=some (.int .i64 lg)/\W'.cell? ⟨w.heap.size,2,none⟩=some (.slice A n c))from λW' ho=>⟨(B0.o.below ho B0.o.lt).ab (i:=0) rfl,(B0.o.below ho B0.o.lt).ab (i:=1) rfl,(B0.o.below ho B0.o.lt).ab (i:=2) rfl⟩);have OD:=xh ((Below.refl W.heap.size W).drew)
  refine wp_region_held_drew (S:=λW'=>W'.cell? ⟨w.heap.size,0,none⟩=some (.int .i64 ep)/\W'.cell? ⟨w.heap.size,1,none⟩=some (.int .i64 lg)/\W'.cell? ⟨w.heap.size,2,none⟩=some (.slice A n c)) (by kernel_rfl) (HK.o _ OD.o) (λaw=>?_);refine dq [(0,5),(1,6)] ?_
  iterate 2 refine za ?_
  refine zg 2 7 (.bool false) ?_ ?_
  ·(intro w kl;(try dsimp only at kl);go_simp;(try omega))
  refine dq [(3,8),(4,9),(5,10)] ?_
  iterate 3 refine za ?_
  refine zg 6 11 (.bool false) ?_ ?_
  ·(intro w kl;(try dsimp only at kl);go_simp;(try omega))
  refine dq [(7,12),(8,13),(9,14),(10,15)] ?_
  iterate 4 refine za ?_
  refine zg 11 16 (.bool true) ?_ ?_
  ·(intro w kl;(try dsimp only at kl);go_simp;(try omega))
  refine dq [(12,17),(13,18)] ?_
  iterate 2 refine za ?_
  refine zc 14 19 ?_;refine zc 15 20 ?_;refine zc 16 21 ?_;refine dq [(17,22),(18,23)] ?_
  iterate 2 refine za ?_
  refine zc 19 24 ?_;refine zc 20 25 ?_;refine zc 21 26 ?_;refine zc 22 27 ?_;refine zc 23 28 ?_;refine zc 24 29 ?_;refine zc 25 30 ?_;refine dq [(26,31)] ?_
  iterate 1 refine za ?_
  refine wpAnyH_done (by kernel_rfl) ?_ _;have PP:=xh (ao O0.o OD.o);go_wp2_with fail;go_ret;refine⟨?_,PP.o⟩
  cases b
  .first|rfl|simp
  .exfalso;have hr:=HB.o.1 rfl;have hl:=HL.o;unfold iV at hr;omega
 .go_enter Tryz.func156,Tryz.ntmps156;go_wp2_with fail;generalize hW:(w.alloc (.cells #[.int .i64 ep,.int .i64 lg,.slice A n c] 155))=W at *;clear hW
  have HK:=xh (show ∀W',Below W.heap.size W W'->(W'.cell? ⟨w.heap.size,0,none⟩=some (.int .i64 ep)/\W'.cell? ⟨w.heap.size,1,none⟩=some (.int .i64 lg)/\W'.cell? ⟨w.heap.size,2,none⟩=some (.slice A n c))from λW' ho=>⟨(B0.o.below ho B0.o.lt).ab (i:=0) rfl,(B0.o.below ho B0.o.lt).ab (i:=1) rfl,(B0.o.below ho B0.o.lt).ab (i:=2) rfl⟩);have OD:=xh ((Below.refl W.heap.size W).drew)
  refine wp_region_held_drew (S:=λW'=>W'.cell? ⟨w.heap.size,0,none⟩=some (.int .i64 ep)/\W'.cell? ⟨w.heap.size,1,none⟩=some (.int .i64 lg)/\W'.cell? ⟨w.heap.size,2,none⟩=some (.slice A n c)) (by kernel_rfl) (HK.o _ OD.o) (λaw=>?_);refine dq [(0,5),(1,6)] ?_
  iterate 2 refine za ?_
  refine zg 2 7 (.bool false) ?_ ?_
  ·(intro w kl;(try dsimp only at kl);go_simp;(try omega))
  refine dq [(3,8),(4,9),(5,10)] ?_
  iterate 3 refine za ?_
  refine zg 6 11 (.bool false) ?_ ?_
  ·(intro w kl;(try dsimp only at kl);go_simp;(try omega))
  refine dq [(7,12),(8,13),(9,14),(10,15)] ?_
  iterate 4 refine za ?_
  refine zg 11 16 (.bool false) ?_ ?_
  ·(intro w kl;(try dsimp only at kl);go_simp;(try omega))
  refine dq [(12,17),(13,18),(14,19),(15,20)] ?_
  iterate 4 refine za ?_
  refine zg 16 21 (.bool true) ?_ ?_
  ·(intro w kl;(try dsimp only at kl);go_simp;(try omega))
  refine dq [(17,22),(18,23)] ?_
  iterate 2 refine za ?_
  refine zc 19 24 ?_;refine zc 20 25 ?_;refine zc 21 26 ?_;refine zc 22 27 ?_;refine zc 23 28 ?_;refine zc 24 29 ?_;refine zc 25 30 ?_;refine dq [(26,31)] ?_
  iterate 1 refine za ?_
  refine wpAnyH_done (by kernel_rfl) ?_ _;have PP:=xh (ao O0.o OD.o);go_wp2_with fail;go_ret;refine⟨?_,PP.o⟩
  cases b
  .first|rfl|simp
  .exfalso;have hr:=HB.o.1 rfl;have hl:=HL.o;unfold iV at hr;omega
 .replace KN:=xh (KN.o (by omega))
  obtain⟨nd,Aa⟩:∃nd,qd lg=nd:=⟨_,rfl⟩;have HND:=xh Aa;rw[Aa]at KN h5;clear Aa;go_enter Tryz.func156,Tryz.ntmps156;go_wp2_with fail;generalize hW:(w.alloc (.cells #[.int .i64 ep,.int .i64 lg,.slice A n c] 155))=W at *;clear hW
  have HK:=xh (show ∀W',Below W.heap.size W W'->(W'.cell? ⟨w.heap.size,0,none⟩=some (.int .i64 ep)/\W'.cell? ⟨w.heap.size,1,none⟩=some (.int .i64 lg)/\W'.cell? ⟨w.heap.size,2,none⟩=some (.slice A n c))from λW' ho=>⟨(B0.o.below ho B0.o.lt).ab (i:=0) rfl,(B0.o.below ho B0.o.lt).ab (i:=1) rfl,(B0.o.below ho B0.o.lt).ab (i:=2) rfl⟩);have OD:=xh ((Below.refl W.heap.size W).drew)
  refine wp_region_held_drew (S:=λW'=>W'.cell? ⟨w.heap.size,0,none⟩=some (.int .i64 ep)/\W'.cell? ⟨w.heap.size,1,none⟩=some (.int .i64 lg)/\W'.cell? ⟨w.heap.size,2,none⟩=some (.slice A n c)) (by kernel_rfl) (HK.o _ OD.o) (λaw=>?_);refine dq [(0,5),(1,6)] ?_
  iterate 2 refine za ?_
  refine zg 2 7 (.bool false) ?_ ?_
  ·(intro w kl;(try dsimp only at kl);go_simp;(try omega))
  refine dq [(3,8),(4,9),(5,10)] ?_
  iterate 3 refine za ?_
  refine zg 6 11 (.bool false) ?_ ?_
  ·(intro w kl;(try dsimp only at kl);go_simp;(try omega))
  refine dq [(7,12),(8,13),(9,14),(10,15)] ?_
  iterate 4 refine za ?_
  refine zg 11 16 (.bool false) ?_ ?_
  ·(intro w kl;(try dsimp only at kl);go_simp;(try omega))
  refine dq [(12,17),(13,18),(14,19),(15,20)] ?_
  iterate 4 refine za ?_
  refine zg 16 21 (.bool false) ?_ ?_
  ·(intro w kl;(try dsimp only at kl);go_simp;(try omega))
  refine dq [(17,22),(18,23),(19,24),(20,25),(21,26),(22,27),(23,28)] ?_
  iterate 7 refine za ?_
  refine zd 24 29 λK hK=>?_;go_simp
  go_at_call 149
  refine(KN.o _).mono ?_;rintro r w2 ⟨rfl,bK⟩;have P2:=xh (ao OD.o bK);go_simp;refine zh hK (HK.o _ P2.o) (λaw=>?_);refine zg 25 30 (.bool true) ?_ ?_
  ·(intro w kl;(try dsimp only at kl);go_simp;(try omega))
  refine dq [(26,31)] ?_
  iterate 1 refine za ?_
  refine wpAnyH_done (by kernel_rfl) ?_ _;have PP:=xh (ao O0.o P2.o);go_wp2_with fail;go_ret;refine⟨?_,PP.o⟩
  cases b
  .first|rfl|simp
  .exfalso;have hr:=HB.o.1 rfl;have hl:=HL.o;unfold iV at hr;rw[HND.o]at hr;omega
 .replace KN:=xh (KN.o (by omega))
  obtain⟨nd,Aa⟩:∃nd,qd lg=nd:=⟨_,rfl⟩;have HND:=xh Aa;rw[Aa]at KN h5;clear Aa;go_enter Tryz.func156,Tryz.ntmps156;go_wp2_with fail;generalize hW:(w.alloc (.cells #[.int .i64 ep,.int .i64 lg,.slice A n c] 155))=W at *;clear hW
  have HK:=xh (show ∀W',Below W.heap.size W W'->(W'.cell? ⟨w.heap.size,0,none⟩=some (.int .i64 ep)/\W'.cell? ⟨w.heap.size,1,none⟩=some (.int .i64 lg)/\W'.cell? ⟨w.heap.size,2,none⟩=some (.slice A n c))from λW' ho=>⟨(B0.o.below ho B0.o.lt).ab (i:=0) rfl,(B0.o.below ho B0.o.lt).ab (i:=1) rfl,(B0.o.below ho B0.o.lt).ab (i:=2) rfl⟩);have OD:=xh ((Below.refl W.heap.size W).drew)
  refine wp_region_held_drew (S:=λW'=>W'.cell? ⟨w.heap.size,0,none⟩=some (.int .i64 ep)/\W'.cell? ⟨w.heap.size,1,none⟩=some (.int .i64 lg)/\W'.cell? ⟨w.heap.size,2,none⟩=some (.slice A n c)) (by kernel_rfl) (HK.o _ OD.o) (λaw=>?_);refine dq [(0,5),(1,6)] ?_
  iterate 2 refine za ?_
  refine zg 2 7 (.bool false) ?_ ?_
  ·(intro w kl;(try dsimp only at kl);go_simp;(try omega))
  refine dq [(3,8),(4,9),(5,10)] ?_
  iterate 3 refine za ?_
  refine zg 6 11 (.bool false) ?_ ?_
  ·(intro w kl;(try dsimp only at kl);go_simp;(try omega))
  refine dq [(7,12),(8,13),(9,14),(10,15)] ?_
  iterate 4 refine za ?_
  refine zg 11 16 (.bool false) ?_ ?_
  ·(intro w kl;(try dsimp only at kl);go_simp;(try omega))
  refine dq [(12,17),(13,18),(14,19),(15,20)] ?_
  iterate 4 refine za ?_
  refine zg 16 21 (.bool false) ?_ ?_
  ·(intro w kl;(try dsimp only at kl);go_simp;(try omega))
  refine dq [(17,22),(18,23),(19,24),(20,25),(21,26),(22,27),(23,28)] ?_
  iterate 7 refine za ?_
  refine zd 24 29 λK hK=>?_;go_simp
  go_at_call 149
  refine(KN.o _).mono ?_;rintro r w2 ⟨rfl,bK⟩;have P2:=xh (ao OD.o bK);go_simp;refine zh hK (HK.o _ P2.o) (λaw=>?_);refine zg 25 30 (.bool false) ?_ ?_
  ·(intro w kl;(try dsimp only at kl);go_simp;(try omega))
  refine dq [(26,31)] ?_
  iterate 1 refine za ?_
  refine wpAnyH_done (by kernel_rfl) ?_ _;have PP:=xh (ao O0.o P2.o);have B2:=xh (B0.o.below P2.o B0.o.lt);have H2:=xh (H0.o.below P2.o);have y2:w2.cell? ⟨w.heap.size,2,none⟩=some (.slice A n c):=B2.o.ab (i:=2) rfl;go_wp2_with fail
  go_loopw [35] (λiv wr=> ∃i:Nat,i<=n/\iv=.int .i64 i/\Hid (∀j x,j<i->l[j]?=some x->0<=x/\x<=1023/\x∉l.take j)/\wr=w2) (λiv _=>n-(intOf iv).toNat)
  case atStart=>exact⟨0,bm _,rfl,xh (λj x h=>absurd h (jP _)),rfl⟩
  case round=>
   obtain⟨i,hi,rfl,HX,rfl⟩:=hrel
   by_cases h':i<n
   .obtain⟨ad,x,rfl,hx,ck⟩:=H2.o.at i h';have hiI:(i:Int)<(n:Int):=by omega
    have HXX:=xh hx;have HT:=xh (H2.o.take i (by omega));clear hx;have NO:=xh (show ¬(0<=x/\x<=1023/\x∉l.take i)->b=false from λGx=>by
     cases b
     .rfl
     .exact absurd ((HB.o.1 rfl).2.2.2.2.2 i x HXX.o) Gx)
    by_cases x0:x<0
    .go_wp2_with fail;go_ret;refine⟨?_,PP.o⟩;rw[NO.o (by omega)];first|rfl|simp
    .by_cases x1:1023<x
     .go_wp2_with fail;go_ret;refine⟨?_,PP.o⟩;rw[NO.o (by omega)];first|rfl|simp
     .obtain⟨q,hq⟩:=bool_of (x∈l.take i);have KC:=xh (wo (w:=wr) (some ad) i c (l.take i) x HT.o (by omega) q hq);have HQ:=xh hq;have hc:(i:Int)<=(c:Int):=by omega
      clear hq;go_wp2_with fail;refine KC.o.mono ?_;rintro e w3 ⟨rfl,rfl⟩
      cases q
      .have HX2:=xh (show ∀j z,j<i+1->l[j]?=some z->0<=z/\z<=1023/\z∉l.take j from λj z hj hz=>by
        rcases lW.1 hj with h1|rfl
        .exact HX.o j z h1 hz
        .rw[HXX.o]at hz;injection hz with hz;subst hz
         exact⟨by omega,by omega,λhm=>by have:=HQ.o.2 hm;cases this⟩)
       go_wp2_with fail;go_roundw
       case rel=>exact⟨i+1,by omega,by go_num,HX2,by first|rfl|trivial⟩
       case measure=>simp[intOf];omega
      .go_wp2_with fail;go_ret;refine⟨?_,PP.o⟩;rw[NO.o (λhx=>hx.2.2 (HQ.o.1 (by trivial)))];first|rfl|simp
   .obtain rfl:i=n:=by omega
    go_wp2_with fail;go_ret;refine⟨?_,PP.o⟩;have:iV ep lg l:=⟨by omega,by omega,by omega,by omega,by rw[HND.o,HL.o];exact h5,λj x hx=>HX.o j x (by have:=(aR.1 hx).1;rw[HL.o]at this;exact this) hx⟩;rw[HB.o.2 this];first|rfl|simp
end Go.Proofs.YtmonobkginiajaaGreat.Rt
namespace Go.Proofs.YtmonobkginiajaaGreat.Rt
open Go.RowKit Pk
attribute [local go_sem ↓] Go.wp_at_zero Go.wp_at_succ aW
variable{w:World}
def dV(n:Nat):List UInt8:=[UInt8.ofNat (n / 256),UInt8.ofNat n]
theorem wu{P:Program}{e:TypeId}{v:Value}{n:Nat}{l:List Value}(S:aQ w e 1 v n l)
 (T ty:TypeId)(z:Value)(bytes:Nat)(ht:P.underlying T=some (.slice e))(kg:(P.info? e).map (λi=>(i.zero,i.size,i.bytes))=some (some z,1,bytes))(hz:z.cells.size=1)
 (news:List Value)(hx:∀u∈news,u.oneCell'=true)(xE:n+news.length<=maxLen)(hb:(n+news.length)*bytes<=140737488355328):
  ∃v' w',dG P T ty (w.alloc (.cells news.toArray e)) v (.slice (some ⟨w.heap.size,0,none⟩) news.length news.length)= .ok v' w'/\aQ w' e 1 v' (n+news.length) (l++news)/\ag (ah v) w w'/\(∀g∈ah v',g∈ah v\/w.heap.size<=g):=by
 obtain⟨i0,hi,jb,gW,iS⟩:=info_parts kg;obtain⟨v',w',h1,h2,h3,h4⟩:=cQ (P:=P) (S.alloc (.cells news.toArray e)) T ty i0 z bytes ht hi jb gW iS hz (by omega)
  ⟨w.heap.size,0,none⟩ news.length news.length news (by simp) (aZ (l:=news) (aD.new w e news.toArray) 0 _ (by intro j u hu;rw[bt];exact hu)) hx xE hb
 exact⟨v',w',h1,h2,((ag.refl _ _).alloc _).bw h3 (λx hx _=>hx),λg hg=>(h4 g hg).imp id (λh=>by simp at h;omega)⟩
theorem dL(v:Value)(k:Nat)(l:List UInt8)(S:aQ w 5 1 v k (cf l))(n:Nat)(hn:n<=65535)(hk:k<=1000):
  Calls Tryz.prog 157 #[v,.int .i64 (n:Nat)] w λe w'=>(∃v',e=.returned v'/\aQ w' 5 1 v' (k+2) (cf (l++dV n))/\(∀g∈ah v',g∈ah v\/w.heap.size<=g))/\ag (ah v) w w':=by
 obtain⟨A,c,rfl⟩:=aq S;have e0:Value.int .u8 ((n:Int) / 256)=bv (UInt8.ofNat (n / 256)):=by
  unfold bv
  congr 1
  rw[fV];omega
 have e1:Value.int .u8 ((n:Int) % 256)=bv (UInt8.ofNat n):=by
  unfold bv;rfl
 obtain⟨v',w2,ea,S2,ow,fr⟩:=wu (P:=Tryz.prog) S 150 150 (.int .u8 0) 1 Tryz.underlying150 gD.cM rfl [.int .u8 ((n:Int) / 256),.int .u8 ((n:Int) % 256)] (by intro u hu;simp at hu;rcases hu with rfl|rfl<;>rfl) (by simp;unfold maxLen;omega) (by simp;omega);obtain⟨V2,fs,rfl⟩:=aq S2
 have EA:=xh (show dG Tryz.prog 150 150 (w.alloc (.cells #[.int .u8 ((n:Int) / 256),.int .u8 ((n:Int) % 256)] 5)) (.slice A k c) (.slice (some ⟨w.heap.size,0,none⟩) 2 2)= .ok (.slice V2 (k+2) fs) w2 from ea);have SX:=xh (show aQ w2 5 1 (.slice V2 (k+2) fs) (k+2) (cf (l++dV n))from by
  rw[e0,e1]at S2;rw[bD];exact S2)
 have OX:=xh ow;have FX:=xh fr;have m1:IntKind.u8.wrap ((n:Int) / 256)=(n:Int) / 256:=IntWalk.u8_in _ (by omega);clear ea S2 ow fr S e0 e1;go_enter Tryz.func157,Tryz.ntmps157;go_wp2_with fail;rw[EA.o];go_wp2_with fail;go_ret;exact⟨⟨_,rfl,SX.o,FX.o⟩,OX.o⟩
def px(lg:Nat)(l:List Nat):List UInt8:=(dV lg++dV l.length++(l++List.replicate (5-l.length) 0).flatMap dV)++List.replicate 30 0
def qe(ep:Int)(lg:Nat)(l:List Nat):List UInt8:=cF ep++gD.bA (px lg l)++cF ep
def lenV:Value->Nat
 |.slice _ n _=>n
 |_=>0
theorem Gy(a0 a1 a2 a3 a4:Int)(w:World)(k:Nat)(x:Value)(hx: #[Value.int .i64 a0,.int .i64 a1,.int .i64 a2,.int .i64 a3,.int .i64 a4][k]?=some x):
  (Instr.index 231 (.agg #[.int .i64 a0,.int .i64 a1,.int .i64 a2,.int .i64 a3,.int .i64 a4]) (.int .i64 (k:Int))).run Tryz.prog w=.ok x w:=by
 have hu:Tryz.prog.underlying 231=some (.array 5 3):=by kernel_rfl
 have hm:(Tryz.prog.info? 3).map (·.size)=some 1:=by kernel_rfl
 have hp:Tryz.prog.plainKey 3=true:=by kernel_rfl
 have hk:k<5:=by
  rcases dZ k 5 with h|h
  .exact h
  .rw[Array.getElem?_eq_none (by simpa using h)]at hx;cases hx
 cases hq:Tryz.prog.info? 3 with
 |none=>simp[hq]at hm
 |some i=>
  simp only[hq,iZ,Option.some.injEq]at hm;have:=run_part_plain (P:=Tryz.prog) w hp hx;simp[Instr.index,asIntOf,run_underlying hu,hk,sizeOf,typeInfo,hq,hm];exact this
def nU(l:List Nat):List Int:=l.map Int.ofNat
def Gz(l:List Nat):List Value:=l.map λ(x:Nat)=>Value.int .i64 (x:Int)
theorem Aw{W:World}{g:Nat}{A:Option Addr}{n c:Nat}{l:List Nat}(B:aD W g 231 #[.int .i64 0,.int .i64 0,.int .i64 0,.int .i64 0,.int .i64 0])(H:fO W A n (nU l))(hl:l.length=n)(hn:n<=5):
  ∃w',(Builtin.copy_ #[60,60] 3 #[.slice (some ⟨g,0,none⟩) 5 5,.slice A n c]).run Tryz.prog W=.ok (goInt n) w'/\aD w' g 231 (Gz (l++List.replicate (5-l.length) 0)).toArray/\ag [g] W w':=by
 cases A with
 |none=>
  have h0:n=0:=by
   by_cases h0:n=0
   .exact h0
   .obtain⟨ad,x,h1,_⟩:=H.at 0 (by omega)
    cases h1
  subst h0;have hl0:l=[]:=mN hl;subst hl0;refine⟨W,?_,B,ag.refl _ _⟩;simp[Builtin.copy_,run_underlying Tryz.underlying60,Builtin.lenOf,Builtin.firstCells,storeCells]
 |some ad=>
  have hlen:(Gz l).length=n:=by simp[Gz,hl]
  obtain⟨w',e,B',o⟩:=rF (P:=Tryz.prog) (cur:=[.int .i64 0,.int .i64 0,.int .i64 0,.int .i64 0,.int .i64 0]) B 60 60 3 3 0 5 5 ad n c (Gz l) Tryz.underlying60 (by kernel_rfl) (by rw[hlen];exact(qV hn).symm)
   (λj v hv=>by
    have hj:j<l.length:=by have:=(aR.1 hv).1;simpa [Gz]using this
    have hx:(nU l)[j]?=some (Int.ofNat l[j]):=by simp[nU,aN hj]
    obtain⟨ad',e1,h1⟩:=H.2 j _ hx;injection e1 with e1
    subst e1;simp only[Gz,ij,aN hj,iZ,Option.some.injEq]at hv;subst hv;exact h1) (by rw[hlen];exact(by omega:0+n<=5)) (by intro v hv;simp only[Gz,eo]at hv;obtain⟨x,_,rfl⟩:=hv;rfl)
  rw[hlen]at e;refine⟨w',e,?_,o⟩;have:putAt [.int .i64 0,.int .i64 0,.int .i64 0,.int .i64 0,.int .i64 0] 0 (Gz l)=Gz (l++List.replicate (5-l.length) 0):=by
   unfold putAt;rw[gJ,eA,bt,hlen,hl];have hz:([.int .i64 0,.int .i64 0,.int .i64 0,.int .i64 0,.int .i64 0]:List Value).drop n=Gz (List.replicate (5-n) 0):=by
    rcases(show n=0\/n=1\/n=2\/n=3\/n=4\/n=5 by omega)with rfl|rfl|rfl|rfl|rfl|rfl<;>rfl
   rw[hz];simp[Gz]
  rw[<-this];exact B'
theorem GA{w:World}(ep:Int)(lg:Nat)(A:Option Addr)(n c:Nat)(l:List Nat)(h:fO w A n (nU l))(Dn:n<=c)(hr:iV ep lg (nU l)):
  Calls Tryz.prog 102 #[xQ ep lg A n c] w λe w'=>e=.returned (.tuple #[.string ⟨(qe ep lg l).toArray⟩,.int .i64 0])/\Below w.heap.size w w':=by
 have hn5:=Av hr;have mG:l.length=n:=by have:=h.1;simpa [nU]using this
 have hn:n<=5:=by rw[<-mG];simpa [nU]using hn5
 have hlg:lg<=512:=by have:=hr.2.2.2.1;omega
 have O0:=ae (Below.refl w.heap.size w) (.cells #[.int .i64 ep,.int .i64 (lg:Int),.slice A n c] 155);have B0:=xh (aD.new w 155 #[.int .i64 ep,.int .i64 (lg:Int),.slice A n c]);have H0:=xh (h.below O0);have KR:=xh (pw (w:=w.alloc (.cells #[.int .i64 ep,.int .i64 (lg:Int),.slice A n c] 155)) ep lg A n c (nU l) H0.o (by omega) Dn true (by simp[hr]));have O0:=xh O0;have HR:=xh hr;have ld:=xh mG;clear h hr hn5;unfold xQ at *
 go_enter Tryz.func102,Tryz.ntmps102;go_wp2_with fail;generalize hW:(w.alloc (.cells #[.int .i64 ep,.int .i64 (lg:Int),.slice A n c] 155))=W at *;clear hW;refine KR.o.mono ?_;rintro e w1 ⟨rfl,aL⟩;have O1:=xh (ao O0.o aL);have B1:=xh (B0.o.below aL B0.o.lt);have H1:=xh (H0.o.below aL);clear aL KR;go_wp2_with fail
 have HK:=xh (show ∀W',Below w1.heap.size w1 W'->(W'.cell? ⟨w.heap.size,0,none⟩=some (.int .i64 ep)/\W'.cell? ⟨w.heap.size,1,none⟩=some (.int .i64 (lg:Int))/\W'.cell? ⟨w.heap.size,2,none⟩=some (.slice A n c))from λW' ho=>⟨(B1.o.below ho B1.o.lt).ab (i:=0) rfl,(B1.o.below ho B1.o.lt).ab (i:=1) rfl,(B1.o.below ho B1.o.lt).ab (i:=2) rfl⟩);have OD:=xh ((Below.refl w1.heap.size w1).drew)
 refine wp_region_held_drew (S:=λW'=>W'.cell? ⟨w.heap.size,0,none⟩=some (.int .i64 ep)/\W'.cell? ⟨w.heap.size,1,none⟩=some (.int .i64 (lg:Int))/\W'.cell? ⟨w.heap.size,2,none⟩=some (.slice A n c)) (by kernel_rfl) (HK.o _ OD.o) (λaw=>?_);refine dq [(0,12),(1,13),(3,15),(4,16),(5,17)] ?_
 iterate 5 refine za ?_
 refine zd 2 14 λK hK=>?_;go_simp
 go_at_call 157
 refine(dL _ 0 [] (aQ.nil _ _ _) lg (by omega) (by omega)).mono ?_;rintro r w2 ⟨⟨v2,rfl,S2,F2⟩,o2⟩;have P2:=xh (OD.o.trans (o2.aE OD.o.size (by simp[ah])));have F2:=xh (show ∀g∈ah v2,w1.heap.size<=g from λg hg=>(F2 g hg).elim (λh=>by simp[ah]at h) (λh=>au OD.o.size h));go_simp;refine zh hK (HK.o _ P2.o) (λaw=>?_);refine zd 6 18 λK hK=>?_;go_simp
 go_at_call 157
 refine(dL _ 2 _ S2 n (by omega) (by omega)).mono ?_;rintro r w3 ⟨⟨v3,rfl,S3,F3⟩,o3⟩;have P3:=xh (P2.o.trans (o3.aE P2.o.size F2.o));have F3:=xh (show ∀g∈ah v3,w1.heap.size<=g from λg hg=>(F3 g hg).elim (F2.o g) (λh=>au P2.o.size h));go_simp;refine zh hK (HK.o _ P3.o) (λaw=>?_);refine dq [(7,4)] ?_
 iterate 1 refine za ?_
 refine wpAnyH_done (by kernel_rfl) ?_ _;have O3:=xh (ao O1.o P3.o);have B3:=xh (B1.o.below P3.o B1.o.lt);have H3:=xh (H1.o.below P3.o);have S3:=xh S3;obtain⟨V3,c3,rfl⟩:=aq S3.o;have F3:=xh (show ∀g∈ah (.slice V3 4 c3),w.heap.size+1<=g from λg hg=>au (by have:=B1.o.lt;omega) (F3.o g hg));clear aw o2 o3 S2 P2 P3 F2 OD HK;have BA:=xh (aD.new w3 231 #[.int .i64 0,.int .i64 0,.int .i64 0,.int .i64 0,.int .i64 0])
 have O4:=xh (ae O3.o (.cells #[.int .i64 0,.int .i64 0,.int .i64 0,.int .i64 0,.int .i64 0] 231));have B4:=xh (B3.o.alloc (.cells #[.int .i64 0,.int .i64 0,.int .i64 0,.int .i64 0,.int .i64 0] 231));have S4:=xh (S3.o.alloc (.cells #[.int .i64 0,.int .i64 0,.int .i64 0,.int .i64 0,.int .i64 0] 231));have H4:=xh (H3.o.below (ae (Below.refl _ _) (.cells #[.int .i64 0,.int .i64 0,.int .i64 0,.int .i64 0,.int .i64 0] 231)));go_wp2_with fail
 generalize hW:(w3.alloc _)=w4 at *;have W3LT:=B4.o.lt;have HK:=xh (show ∀W',ag [w3.heap.size] w4 W'->(W'.cell? ⟨w.heap.size,0,none⟩=some (.int .i64 ep)/\W'.cell? ⟨w.heap.size,1,none⟩=some (.int .i64 (lg:Int))/\W'.cell? ⟨w.heap.size,2,none⟩=some (.slice A n c))from λW' ho=>by
  have eG:w.heap.size∉[w3.heap.size]:=by have:=B3.o.lt;simp;omega
  have B:=B4.o.only ho eG;exact⟨B.ab (i:=0) rfl,B.ab (i:=1) rfl,B.ab (i:=2) rfl⟩)
 have OD:=xh ((ag.refl [w3.heap.size] w4).drew);refine wp_region_held_drew (S:=λW'=>W'.cell? ⟨w.heap.size,0,none⟩=some (.int .i64 ep)/\W'.cell? ⟨w.heap.size,1,none⟩=some (.int .i64 (lg:Int))/\W'.cell? ⟨w.heap.size,2,none⟩=some (.slice A n c)) (by kernel_rfl) (HK.o _ OD.o) (λaw=>?_);refine dq [(0,19),(1,20),(2,21)] ?_
 iterate 3 refine za ?_
 refine zd 3 22 λK hK=>?_;obtain⟨w5,ec,BQ,oc⟩:=Aw (W:=w4.drew) BA.o (show fO w4.drew A n (nU l)from H4.o.below (Below.refl _ _).drew) ld.o hn;have EC:=xh ec;have OC:=xh (OD.o.trans oc);have BQ:=xh BQ;clear ec oc;go_simp;rw[EC.o];go_simp;refine zh hK (HK.o _ OC.o) (λaw=>?_);refine wpAnyH_done (by kernel_rfl) ?_ _;have hq5:(l++List.replicate (5-l.length) 0).length=5:=by rw[aU,eM];have:=ld.o;omega
 have hqs:∀x∈l++List.replicate (5-l.length) 0,x<=1023:=by
  intro x hx
  rcases aS.1 hx with hx|hx
  .obtain⟨i,hi,rfl⟩:=lr hx;have h1:=HR.o.2.2.2.2.2 i ((l[i]:Nat):Int) (by simp[nU];exact⟨l[i],aN hi,rfl⟩);omega
  .have:=rz hx;omega
 obtain⟨q,hqq⟩:∃q,l++List.replicate (5-l.length) 0=q:=⟨_,rfl⟩;have HQQ:=xh hqq;rw[hqq]at BQ hq5 hqs;clear hqq
 match q,hq5 with
 |[q0,q1,q2,q3,q4],_=>
 have p0:q0<=1023:=hqs _ (by simp);have p1:q1<=1023:=hqs _ (by simp);have p2:q2<=1023:=hqs _ (by simp);have p3:q3<=1023:=hqs _ (by simp);have p4:q4<=1023:=hqs _ (by simp);have a0:w5.cell? ⟨w3.heap.size,0,none⟩=some (.int .i64 (q0:Int)):=BQ.o.ab (i:=0) rfl;have a1:w5.cell? ⟨w3.heap.size,1,none⟩=some (.int .i64 (q1:Int)):=BQ.o.ab (i:=1) rfl;have a2:w5.cell? ⟨w3.heap.size,2,none⟩=some (.int .i64 (q2:Int)):=BQ.o.ab (i:=2) rfl
 have a3:w5.cell? ⟨w3.heap.size,3,none⟩=some (.int .i64 (q3:Int)):=BQ.o.ab (i:=3) rfl;have a4:w5.cell? ⟨w3.heap.size,4,none⟩=some (.int .i64 (q4:Int)):=BQ.o.ab (i:=4) rfl;have hw3:w.heap.size<w3.heap.size:=B3.o.lt;have O5:=xh (O4.o.trans (OC.o.aE O4.o.size (λx hx=>by simp at hx;omega)));have B5:=xh (B4.o.only OC.o (by simp;omega));have S5:=xh (S4.o.only OC.o (λx hx=>by have:=S3.o.lt x hx;simp;omega));clear aw hqs OD HK
 go_wp2_with fail;obtain⟨HD,hHD⟩:∃HD,[]++dV lg++dV n=HD:=⟨_,rfl⟩;have HHD:=xh hHD;rw[hHD]at S5;clear hHD a0 a1 a2 a3 a4 S4 S3
 go_loopw [4,24] (λsv iv wr=> ∃k:Nat,k<=5/\iv=.int .i64 (k:Int)/\aQ wr 5 1 sv (4+2*k) (cf (HD++([q0,q1,q2,q3,q4].take k).flatMap dV))/\Hid (aD wr w.heap.size 155 #[.int .i64 ep,.int .i64 (lg:Int),.slice A n c])/\Below w.heap.size w wr/\Hid (∀x∈ah sv,w.heap.size+1<=x)) (λ_ iv _=>5-(intOf iv).toNat)
 case atStart=>exact⟨0,by omega,rfl,by simpa using S5.o,B5,O5.o,F3⟩
 case round=>
  obtain⟨k,hk,rfl,S,C,O,F⟩:=hrel;obtain⟨VA,vc,rfl⟩:=aq S
  rcases(show k=0\/k=1\/k=2\/k=3\/k=4\/k=5 from by omega)with rfl|rfl|rfl|rfl|rfl|rfl
  .have K:=xh (dL _ 4 _ S q0 (by omega) (by omega));have OO:=xh O;have IX:=xh (show(Instr.index 231 (.agg #[.int .i64 (q0:Int),.int .i64 (q1:Int),.int .i64 (q2:Int),.int .i64 (q3:Int),.int .i64 (q4:Int)]) (.int .i64 0)).run Tryz.prog wr=.ok (.int .i64 (q0:Int)) wr from Gy q0 q1 q2 q3 q4 wr 0 _ rfl);clear S O;go_wp2_with fail;rw[IX.o];go_wp2_with fail;refine K.o.mono ?_;rintro r w7 ⟨⟨v7,rfl,S7,F7⟩,o7⟩
   have O7:=xh (OO.o.trans (o7.aE OO.o.size (λx hx=>by have:=F.o x hx;omega)));have C7:=xh (C.o.only o7 (λhx=>by have:=F.o _ hx;omega));have F7:=xh (show ∀x∈ah v7,w.heap.size+1<=x from λx hx=>(F7 x hx).elim (F.o x) (λh=>by have:=C.o.lt;omega));have S7:=xh (show aQ w7 5 1 v7 (4+2*(0+1)) (cf (HD++([q0,q1,q2,q3,q4].take (0+1)).flatMap dV))from by
    have hx:HD++([q0,q1,q2,q3,q4].take (0+1)).flatMap dV=(HD++([q0,q1,q2,q3,q4].take 0).flatMap dV)++dV q0:=by simp
    rw[hx];exact S7)
   obtain⟨V7,c7,rfl⟩:=aq S7.o;clear o7;go_wp2_with fail;go_roundw
   case rel=>exact⟨0+1,by omega,by first|rfl|go_num,S7.o,C7,O7.o,F7⟩
   case measure=>simp[intOf]
  .have K:=xh (dL _ 6 _ S q1 (by omega) (by omega));have OO:=xh O;have IX:=xh (show(Instr.index 231 (.agg #[.int .i64 (q0:Int),.int .i64 (q1:Int),.int .i64 (q2:Int),.int .i64 (q3:Int),.int .i64 (q4:Int)]) (.int .i64 1)).run Tryz.prog wr=.ok (.int .i64 (q1:Int)) wr from Gy q0 q1 q2 q3 q4 wr 1 _ rfl);clear S O;go_wp2_with fail;rw[IX.o];go_wp2_with fail;refine K.o.mono ?_;rintro r w7 ⟨⟨v7,rfl,S7,F7⟩,o7⟩
   have O7:=xh (OO.o.trans (o7.aE OO.o.size (λx hx=>by have:=F.o x hx;omega)));have C7:=xh (C.o.only o7 (λhx=>by have:=F.o _ hx;omega));have F7:=xh (show ∀x∈ah v7,w.heap.size+1<=x from λx hx=>(F7 x hx).elim (F.o x) (λh=>by have:=C.o.lt;omega));have S7:=xh (show aQ w7 5 1 v7 (4+2*(1+1)) (cf (HD++([q0,q1,q2,q3,q4].take (1+1)).flatMap dV))from by
    have hx:HD++([q0,q1,q2,q3,q4].take (1+1)).flatMap dV=(HD++([q0,q1,q2,q3,q4].take 1).flatMap dV)++dV q1:=by simp
    rw[hx];exact S7)
   obtain⟨V7,c7,rfl⟩:=aq S7.o;clear o7;go_wp2_with fail;go_roundw
   case rel=>exact⟨1+1,by omega,by first|rfl|go_num,S7.o,C7,O7.o,F7⟩
   case measure=>simp[intOf]
  .have K:=xh (dL _ 8 _ S q2 (by omega) (by omega));have OO:=xh O;have IX:=xh (show(Instr.index 231 (.agg #[.int .i64 (q0:Int),.int .i64 (q1:Int),.int .i64 (q2:Int),.int .i64 (q3:Int),.int .i64 (q4:Int)]) (.int .i64 2)).run Tryz.prog wr=.ok (.int .i64 (q2:Int)) wr from Gy q0 q1 q2 q3 q4 wr 2 _ rfl);clear S O;go_wp2_with fail;rw[IX.o];go_wp2_with fail;refine K.o.mono ?_;rintro r w7 ⟨⟨v7,rfl,S7,F7⟩,o7⟩
   have O7:=xh (OO.o.trans (o7.aE OO.o.size (λx hx=>by have:=F.o x hx;omega)));have C7:=xh (C.o.only o7 (λhx=>by have:=F.o _ hx;omega));have F7:=xh (show ∀x∈ah v7,w.heap.size+1<=x from λx hx=>(F7 x hx).elim (F.o x) (λh=>by have:=C.o.lt;omega));have S7:=xh (show aQ w7 5 1 v7 (4+2*(2+1)) (cf (HD++([q0,q1,q2,q3,q4].take (2+1)).flatMap dV))from by
    have hx:HD++([q0,q1,q2,q3,q4].take (2+1)).flatMap dV=(HD++([q0,q1,q2,q3,q4].take 2).flatMap dV)++dV q2:=by simp
    rw[hx];exact S7)
   obtain⟨V7,c7,rfl⟩:=aq S7.o;clear o7;go_wp2_with fail;go_roundw
   case rel=>exact⟨2+1,by omega,by first|rfl|go_num,S7.o,C7,O7.o,F7⟩
   case measure=>simp[intOf]
  .have K:=xh (dL _ 10 _ S q3 (by omega) (by omega));have OO:=xh O;have IX:=xh (show(Instr.index 231 (.agg #[.int .i64 (q0:Int),.int .i64 (q1:Int),.int .i64 (q2:Int),.int .i64 (q3:Int),.int .i64 (q4:Int)]) (.int .i64 3)).run Tryz.prog wr=.ok (.int .i64 (q3:Int)) wr from Gy q0 q1 q2 q3 q4 wr 3 _ rfl);clear S O;go_wp2_with fail;rw[IX.o];go_wp2_with fail;refine K.o.mono ?_;rintro r w7 ⟨⟨v7,rfl,S7,F7⟩,o7⟩
   have O7:=xh (OO.o.trans (o7.aE OO.o.size (λx hx=>by have:=F.o x hx;omega)));have C7:=xh (C.o.only o7 (λhx=>by have:=F.o _ hx;omega));have F7:=xh (show ∀x∈ah v7,w.heap.size+1<=x from λx hx=>(F7 x hx).elim (F.o x) (λh=>by have:=C.o.lt;omega));have S7:=xh (show aQ w7 5 1 v7 (4+2*(3+1)) (cf (HD++([q0,q1,q2,q3,q4].take (3+1)).flatMap dV))from by
    have hx:HD++([q0,q1,q2,q3,q4].take (3+1)).flatMap dV=(HD++([q0,q1,q2,q3,q4].take 3).flatMap dV)++dV q3:=by simp
    rw[hx];exact S7)
   obtain⟨V7,c7,rfl⟩:=aq S7.o;clear o7;go_wp2_with fail;go_roundw
   case rel=>exact⟨3+1,by omega,by first|rfl|go_num,S7.o,C7,O7.o,F7⟩
   case measure=>simp[intOf]
  .have K:=xh (dL _ 12 _ S q4 (by omega) (by omega));have OO:=xh O;have IX:=xh (show(Instr.index 231 (.agg #[.int .i64 (q0:Int),.int .i64 (q1:Int),.int .i64 (q2:Int),.int .i64 (q3:Int),.int .i64 (q4:Int)]) (.int .i64 4)).run Tryz.prog wr=.ok (.int .i64 (q4:Int)) wr from Gy q0 q1 q2 q3 q4 wr 4 _ rfl);clear S O;go_wp2_with fail;rw[IX.o];go_wp2_with fail;refine K.o.mono ?_;rintro r w7 ⟨⟨v7,rfl,S7,F7⟩,o7⟩
   have O7:=xh (OO.o.trans (o7.aE OO.o.size (λx hx=>by have:=F.o x hx;omega)));have C7:=xh (C.o.only o7 (λhx=>by have:=F.o _ hx;omega));have F7:=xh (show ∀x∈ah v7,w.heap.size+1<=x from λx hx=>(F7 x hx).elim (F.o x) (λh=>by have:=C.o.lt;omega));have S7:=xh (show aQ w7 5 1 v7 (4+2*(4+1)) (cf (HD++([q0,q1,q2,q3,q4].take (4+1)).flatMap dV))from by
    have hx:HD++([q0,q1,q2,q3,q4].take (4+1)).flatMap dV=(HD++([q0,q1,q2,q3,q4].take 4).flatMap dV)++dV q4:=by simp
    rw[hx];exact S7)
   obtain⟨V7,c7,rfl⟩:=aq S7.o;clear o7;go_wp2_with fail;go_roundw
   case rel=>exact⟨4+1,by omega,by first|rfl|go_num,S7.o,C7,O7.o,F7⟩
   case measure=>simp[intOf]
  .have OO:=xh O;have SS:=xh (show aQ wr 5 1 (.slice VA 14 vc) 14 (cf (HD++[q0,q1,q2,q3,q4].flatMap dV))from S);clear S O;go_wp2_with fail;obtain⟨M,hM⟩:∃M,HD++[q0,q1,q2,q3,q4].flatMap dV=M:=⟨_,rfl⟩;have HM:=xh (show M++List.replicate 30 0=px lg l from by
    unfold px;rw[<-hM,<-HHD.o,HQQ.o,ld.o,eA])
   rw[hM]at SS;clear hM
   go_loopw [4] (λsv wx=> ∃j:Nat,j<=30/\aQ wx 5 1 sv (14+j) (cf (M++List.replicate j 0))/\Hid (aD wx w.heap.size 155 #[.int .i64 ep,.int .i64 (lg:Int),.slice A n c])/\Below w.heap.size w wx/\Hid (∀x∈ah sv,w.heap.size+1<=x)) (λsv _=>44-lenV sv)
   case atStart=>exact⟨0,by omega,by simpa using SS.o,C,OO.o,F⟩
   case round=>
    obtain⟨j,hj,S,C,O,F⟩:=hrel;obtain⟨VB,vb,rfl⟩:=aq S
    by_cases h:j<30
    .have h1:(14:Int)+(j:Int)<44:=by omega
     have h2:14+j<44:=by omega
     have h3:((14+j:Nat):Int)<44:=by omega
     obtain⟨v8,w8,ea,S8,o8,f8⟩:=bZ (P:=Tryz.prog) S 150 150 (.int .u8 0) 1 Tryz.underlying150 gD.cM rfl (.int .u8 0) rfl (by unfold maxLen;omega) (by omega);obtain⟨V8,c8,rfl⟩:=aq S8;have EA:=xh ea;have S9:=xh (show aQ w8 5 1 (.slice V8 (14+(j+1)) c8) (14+(j+1)) (cf (M++List.replicate (j+1) 0))from by
      rw[nD,<-cN,bD];exact S8)
     have O8:=xh (O.trans (o8.aE O.size (λx hx=>by have:=F.o x hx;omega)));have C8:=xh (C.o.only o8 (λhx=>by have:=F.o _ hx;omega));have F8:=xh (show ∀x∈ah (.slice V8 (14+(j+1)) c8),w.heap.size+1<=x from λx hx=>(f8 x hx).elim (F.o x) (λh=>by have:=C.o.lt;omega));clear ea S8 o8 f8 S O;go_wp2_with fail;rw[EA.o];go_wp2_with fail;go_roundw
     case rel=>exact⟨_,_,_,_,_,_,_,⟨j+1,by omega,S9.o,C8,O8.o,F8⟩,rfl⟩
     case measure=>simp[lenV];omega
    .obtain rfl:j=30:=by omega
     have h2:¬((14+30:Nat):Int)<44:=by omega
     rw[HM.o]at S;obtain⟨gB,cap,rest,hv,BB,_,_⟩:=S.form (by omega) (by omega);simp only[Value.slice.injEq,true_and]at hv;obtain⟨rfl,rfl⟩:=hv;have ST:=xh (bs (P:=Tryz.prog) wr 150 9 5 Tryz.underlying150 Tryz.underlying5 Tryz.underlying9 ⟨gB,0,none⟩ 44 vb (px lg l) (by have:=S.1;simpa using this) (aZ BB 0 _ (by intro j u hu;rw[bt];exact bx (aR.1 hu).1▸hu)))
     have qI:(px lg l).length=44:=by have:=S.1;simpa using this
     obtain⟨T,hT⟩:∃T:ByteArray,(⟨(px lg l).toArray⟩:ByteArray)=T:=⟨_,rfl⟩;have hTz:T.size=44:=by rw[<-hT];show(px lg l).toArray.size=44;simpa using qI
     have Cw:T.data.toList=px lg l:=by rw[<-hT]
     rw[hT]at ST;have KY:=xh (gD.Cv T wr (by omega));rw[Cw]at KY;have OO9:=xh O;have hlen48:(gD.bA (px lg l)).length=48:=by unfold gD.bA;simp[gD.gk,qI]
     have Fu:(cF ep).length=8:=by unfold cF qF;rw[kI]
     obtain⟨L,hL⟩:∃L:ByteArray,(⟨(gD.bA (px lg l)).toArray⟩:ByteArray)=L:=⟨_,rfl⟩;obtain⟨PI,hPI⟩:∃L:ByteArray,(⟨(cF ep).toArray⟩:ByteArray)=L:=⟨_,rfl⟩;have hLz:L.size=48:=by rw[<-hL];show(gD.bA (px lg l)).toArray.size=48;simpa using hlen48
     have hPz:PI.size=8:=by rw[<-hPI];show(cF ep).toArray.size=8;simpa using Fu
     have GB:=xh (show PI++L++PI=(⟨(qe ep lg l).toArray⟩:ByteArray)from by
      rw[<-hL,<-hPI];apply nA;apply nz.1;unfold qe;simp)
     rw[hL]at KY;have KI:=xh (λw=>I_any ep (by have:=HR.o.1;omega) HR.o.2.1 w);rw[hPI]at KI;clear S O BB hT Cw hL hPI qI hTz;go_wp2_with fail;rw[ST.o];go_wp2_with fail;refine KY.o.mono ?_;rintro e w9 ⟨rfl,hb9⟩;have O9:=xh (ao OO9.o hb9);have B9:=xh (C.o.below hb9 C.o.lt);clear hb9;go_wp2_with fail
     have HK:=xh (show ∀W',Below w9.heap.size w9 W'->W'.cell? ⟨w.heap.size,0,none⟩=some (.int .i64 ep)from λW' ho=>(B9.o.below ho B9.o.lt).ab (i:=0) rfl);have OD:=xh ((Below.refl w9.heap.size w9).drew);have z1:¬9223372036854775807<PI.size+L.size:=by omega
     have z2:¬9223372036854775807<PI.size+L.size+PI.size:=by omega
     clear hLz hPz;refine wp_region_held_drew (S:=λW'=>W'.cell? ⟨w.heap.size,0,none⟩=some (.int .i64 ep)) (by kernel_rfl) (HK.o _ OD.o) (λaw=>?_);refine dq [(0,40),(1,41),(3,43),(5,45),(6,46)] ?_
     iterate 5 refine za ?_
     refine zd 2 42 λK hK=>?_;go_simp
     go_at_call 88
     refine(KI.o _).mono ?_;rintro r wa ⟨rfl,hba⟩;have Pa:=xh (ao OD.o hba);go_simp;refine zh hK (HK.o _ Pa.o) (λaw=>?_);refine dq [(4,44)] ?_
     iterate 1 refine za ?_
     refine zd 7 47 λK hK=>?_;go_simp
     go_at_call 88
     refine(KI.o _).mono ?_;rintro r wb ⟨rfl,xR⟩;have Pb:=xh (ao Pa.o xR);go_simp;refine zh hK (HK.o _ Pb.o) (λaw=>?_);refine dq [(8,48),(9,2),(10,3)] ?_
     iterate 3 refine za ?_
     refine wpAnyH_done (by kernel_rfl) ?_ _;have OF:=xh (ao O9.o Pb.o);go_wp2_with fail;go_ret2;exact⟨by rw[<-GB.o];rfl,OF.o⟩
end Go.Proofs.YtmonobkginiajaaGreat.Rt
