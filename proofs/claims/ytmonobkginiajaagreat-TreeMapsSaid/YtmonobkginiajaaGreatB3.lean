/- packed. -/
import Derived.ChangeKeysEq
import Derived.Test.YtmonobkginiajaaGreatB2
set_option linter.all false
set_option maxRecDepth 100000
set_option maxHeartbeats 8000000
namespace Go.Proofs.YtmonobkginiajaaGreat
open Go.Proofs.Tryz
namespace Rt
open Go.RowKit Pk
attribute [local go_sem ↓] Go.wp_at_zero Go.wp_at_succ
variable{w:World}{A:Option Addr}{n:Nat}{l:List Int}
theorem ae{W w1:World}(h:Below W.heap.size W w1)(o:Obj):Below W.heap.size W (w1.alloc o):=h.alloc h.size o
theorem bool_of(p:Prop):∃b:Bool,b=true↔p:=by
 by_cases h:p
 .exact⟨true,by simp[h]⟩
 .exact⟨false,by simp[h]⟩
def js(w:World)(A:Option Addr)(n:Nat)(l:List Int):Prop:=l.length=n/\∀k x,l[k]?=some x->∃ad,A=some ad/\w.cell? (ad.add k)=some (.int .i64 x)
theorem js.below{w':World}(h:js w A n l)(hb:Below w.heap.size w w'):js w' A n l:=by
 refine⟨h.1,λk x hx=>?_⟩;obtain⟨ad,e1,h1⟩:=h.2 k x hx;exact⟨ad,e1,(hb.cell (by rw[tU];exact cell_lt h1)).trans h1⟩
theorem js.at(h:js w A n l)(k:Nat)(hk:k<n):∃ad x,A=some ad/\l[k]?=some x/\w.cell? (ad.add k)=some (.int .i64 x):=by
 have hl:=h.1;obtain⟨ad,e1,h1⟩:=h.2 k l[k] (aL (by omega));exact⟨ad,l[k],e1,aL (by omega),h1⟩
theorem js.take(h:js w A n l)(k:Nat)(hk:k<=n):js w A k (l.take k):=by
 refine⟨by rw[bm];have:=h.1;omega,λj x hx=>?_⟩;rw[pM]at hx
 split at hx
 .exact h.2 j x hx
 .cases hx
def ll(n:Int):Int:=(max n 0+115) / 116
def Cy(a b:Int)(A:Option Addr)(n c:Nat):Value:= .agg #[.int .i64 a,.int .i64 b,.slice A n c]
def gK(ep lg:Int)(l:List Int):Prop:=1<=ep/\ep<=1099511627776/\0<=lg/\lg<=512/\(l.length:Int)=ll lg/\∀i x,l[i]?=some x->0<=x/\x<=1023/\x∉l.take i
theorem y8(n:Int)(h:n<=1000000)(w:World):
  Calls prog 149 #[.int .i64 n] w λe w'=>e=.returned (.int .i64 (ll n))/\Below w.heap.size w w':=by
 unfold ll;obtain⟨m,hm⟩:=eT (show 0<=max n 0 by omega);rw[hm];have Kc:m<=1000000:=by omega
 have e1:IntKind.i64.wrap ((m:Int)+116)=(m:Int)+116:=IntWalk.i64_in _ (by omega);have e2:IntKind.i64.wrap ((m:Int)+116-1)=(m:Int)+115:=by rw[show(m:Int)+116-1=(m:Int)+115 by omega];exact IntWalk.i64_in _ (by omega)
 have e3:IntKind.i64.wrap (((m:Int)+115).tdiv 116)=((m:Int)+115) / 116:=by rw[Jz (by omega)];exact IntWalk.i64_in _ (by omega)
 have e4:IntKind.i64.wrap ((m:Int)+115)=(m:Int)+115:=IntWalk.i64_in _ (by omega);go_enter func149,ntmps149;go_wp2_with fail
 all_goals
  go_ret;refine⟨?_,Below.refl _ _⟩
  first|(simp;done)|(simp;omega)
theorem qW(A:Option Addr)(n c:Nat)(l:List Int)(x:Int)(h:js w A n l)(hn:n<=1000000):
  Calls prog 165 #[.slice A n c,.int .i64 x] w λe w'=>(∃k:Int,e=.returned (.int .i64 k)/\(0<=k↔x∈l))/\w'=w:=by
 have H0:=xh h;go_enter func165,ntmps165;go_wp2_with fail
 go_loopw [8] (λiv wr=> ∃i:Nat,i<=n/\iv=.int .i64 i/\Hid (∀j y,j<i->l[j]?=some y->y≠x)/\wr=w) (λiv _=>n-(intOf iv).toNat)
 case atStart=>exact⟨0,aY _,rfl,xh (λj y h=>absurd h (j9 _)),rfl⟩
 case round=>
  obtain⟨i,hi,rfl,HX,rfl⟩:=hrel
  by_cases h':i<n
  .obtain⟨ad,y,rfl,hy,ck⟩:=H0.o.at i h';have hiI:(i:Int)<(n:Int):=by omega
   have HY:=xh hy;clear hy h
   by_cases hxy:x=y
   .subst hxy;go_wp2_with fail;go_ret;refine⟨⟨(i:Int),rfl,?_⟩,rfl⟩;exact⟨λ_=>ay HY.o,λ_=>by omega⟩
   .have hxy2:(x==y)=false:=by simpa using hxy
    have HX2:=xh (show ∀j z,j<i+1->l[j]?=some z->z≠x from λj z hj hz=>by
     rcases oA.1 hj with h1|rfl
     .exact HX.o j z h1 hz
     .rw[HY.o]at hz;injection hz with hz;subst hz;exact λe=>hxy e.symm)
    go_wp2_with fail;go_roundw
    case rel=>exact⟨i+1,by omega,by go_num,HX2,by first|rfl|trivial⟩
    case measure=>simp[intOf];omega
  .obtain rfl:i=n:=by omega
   clear h;go_wp2_with fail;go_ret;refine⟨⟨-1,rfl,?_⟩,rfl⟩
   constructor
   .intro h1;omega
   .intro hm;exfalso;obtain⟨j,hj,hjx⟩:=oq hm;exact HX.o j _ (by have:=H0.o.1;omega) (aL hj) hjx
theorem EF(A:Option Addr)(n c:Nat)(l:List Int)(x:Int)(h:js w A n l)(hn:n<=1000000)(b:Bool)(hb:b=true↔x∈l):
  Calls prog 201 #[.slice A n c,.int .i64 x] w λe w'=>e=.returned (.bool b)/\w'=w:=by
 have K:=xh (qW A n c l x h hn);have HB:=xh hb;clear h hb;go_enter func201,ntmps201;go_wp2_with fail;refine K.o.mono ?_;rintro e w1 ⟨⟨k,rfl,hk⟩,rfl⟩;have HK:=xh hk;clear hk
 by_cases h0:0<=k
 .have h1:¬k<0:=by omega
  go_wp2_with fail;go_ret;refine⟨?_,rfl⟩;rw[HB.o.2 (HK.o.1 h0)];first|rfl|simp
 .have h1:k<0:=by omega
  go_wp2_with fail;go_ret;refine⟨?_,rfl⟩
  cases b
  .first|rfl|(simp;omega)
  .exact absurd (HK.o.2 (HB.o.1 rfl)) (by omega)
theorem kK{ep lg:Int}{l:List Int}(h:gK ep lg l):l.length<=5:=by
 have:=h.2.2.2.2.1;unfold ll at this;have:=h.2.2.2.1;omega
theorem vB{w:World}(ep lg:Int)(A:Option Addr)(n c:Nat)(l:List Int)(h:js w A n l)(hn:n<=1000000)(Gq:n<=c)(b:Bool)(hb:b=true↔gK ep lg l):
  Calls prog 156 #[Cy ep lg A n c] w λe w'=>e=.returned (.bool b)/\Below w.heap.size w w':=by
 have O0:=ae (Below.refl w.heap.size w) (.cells #[.int .i64 ep,.int .i64 lg,.slice A n c] 155);have B0:=xh (aJ.new w 155 #[.int .i64 ep,.int .i64 lg,.slice A n c]);have H0:=xh (h.below O0);have HB:=xh hb;have HL:=xh h.1;have O0:=xh O0;clear h hb;unfold Cy
 have Ct:(ep<1)\/(¬ep<1/\1099511627776<ep)\/(¬ep<1/\¬1099511627776<ep/\lg<0)\/(¬ep<1/\¬1099511627776<ep/\¬lg<0/\512<lg)\/(¬ep<1/\¬1099511627776<ep/\¬lg<0/\¬512<lg/\(n:Int)≠ll lg)\/(¬ep<1/\¬1099511627776<ep/\¬lg<0/\¬512<lg/\(n:Int)=ll lg):=by omega
 have KN:=xh (λ(hl:lg<=512) w=>y8 lg (by omega) w)
 rcases Ct with h1|⟨h1,h2⟩|⟨h1,h2,h3⟩|⟨h1,h2,h3,h4⟩|⟨h1,h2,h3,h4,h5⟩|⟨h1,h2,h3,h4,h5⟩
 .go_enter func156,ntmps156;go_wp2_with fail;generalize hW:(w.alloc (.cells #[.int .i64 ep,.int .i64 lg,.slice A n c] 155))=W at *;clear hW
  have HK:=xh (show ∀W',Below W.heap.size W W'->(W'.cell? ⟨w.heap.size,0,none⟩=some (.int .i64 ep)/\W'.cell? ⟨w.heap.size,1,none⟩=some (.int .i64 lg)/\W'.cell? ⟨w.heap.size,2,none⟩=some (.slice A n c))from λW' ho=>⟨(B0.o.below ho B0.o.lt).ab (i:=0) rfl,(B0.o.below ho B0.o.lt).ab (i:=1) rfl,(B0.o.below ho B0.o.lt).ab (i:=2) rfl⟩);have OD:=xh ((Below.refl W.heap.size W).drew)
  refine wp_region_held_drew (S:=λW'=>W'.cell? ⟨w.heap.size,0,none⟩=some (.int .i64 ep)/\W'.cell? ⟨w.heap.size,1,none⟩=some (.int .i64 lg)/\W'.cell? ⟨w.heap.size,2,none⟩=some (.slice A n c)) (by kernel_rfl) (HK.o _ OD.o) (λah=>?_);refine bM [(0,5),(1,6)] ?_
  iterate 2 refine aG ?_
  refine ni 2 7 (.bool true) ?_ ?_
  ·(intro w nJ;(try dsimp only at nJ);go_simp;(try omega))
  refine bM [(3,8)] ?_
  iterate 1 refine aG ?_
  refine cG 4 9 ?_;refine cG 5 10 ?_;refine cG 6 11 ?_;refine bM [(7,12),(8,13)] ?_
  iterate 2 refine aG ?_
  refine cG 9 14 ?_;refine cG 10 15 ?_;refine cG 11 16 ?_;refine bM [(12,17),(13,18)] ?_
  iterate 2 refine aG ?_
  refine cG 14 19 ?_;refine cG 15 20 ?_;refine cG 16 21 ?_;refine bM [(17,22),(18,23)] ?_
  iterate 2 refine aG ?_
  refine cG 19 24 ?_;refine cG 20 25 ?_;refine cG 21 26 ?_;refine cG 22 27 ?_;refine cG 23 28 ?_;refine cG 24 29 ?_;refine cG 25 30 ?_;refine bM [(26,31)] ?_
  iterate 1 refine aG ?_
  refine wpAnyH_done (by kernel_rfl) ?_ _;have PP:=xh (aB O0.o OD.o);go_wp2_with fail;go_ret;refine⟨?_,PP.o⟩
  cases b
  .first|rfl|simp
  .exfalso;have hr:=HB.o.1 rfl;have hl:=HL.o;unfold gK at hr;omega
 .go_enter func156,ntmps156;go_wp2_with fail;generalize hW:(w.alloc (.cells #[.int .i64 ep,.int .i64 lg,.slice A n c] 155))=W at *;clear hW
  have HK:=xh (show ∀W',Below W.heap.size W W'->(W'.cell? ⟨w.heap.size,0,none⟩=some (.int .i64 ep)/\W'.cell? ⟨w.heap.size,1,none⟩=some (.int .i64 lg)/\W'.cell? ⟨w.heap.size,2,none⟩=some (.slice A n c))from λW' ho=>⟨(B0.o.below ho B0.o.lt).ab (i:=0) rfl,(B0.o.below ho B0.o.lt).ab (i:=1) rfl,(B0.o.below ho B0.o.lt).ab (i:=2) rfl⟩);have OD:=xh ((Below.refl W.heap.size W).drew)
  refine wp_region_held_drew (S:=λW'=>W'.cell? ⟨w.heap.size,0,none⟩=some (.int .i64 ep)/\W'.cell? ⟨w.heap.size,1,none⟩=some (.int .i64 lg)/\W'.cell? ⟨w.heap.size,2,none⟩=some (.slice A n c)) (by kernel_rfl) (HK.o _ OD.o) (λah=>?_);refine bM [(0,5),(1,6)] ?_
  iterate 2 refine aG ?_
  refine ni 2 7 (.bool false) ?_ ?_
  ·(intro w nJ;(try dsimp only at nJ);go_simp;(try omega))
  refine bM [(3,8),(4,9),(5,10)] ?_
  iterate 3 refine aG ?_
  refine ni 6 11 (.bool true) ?_ ?_
  ·(intro w nJ;(try dsimp only at nJ);go_simp;(try omega))
  refine bM [(7,12),(8,13)] ?_
  iterate 2 refine aG ?_
  refine cG 9 14 ?_;refine cG 10 15 ?_;refine cG 11 16 ?_;refine bM [(12,17),(13,18)] ?_
  iterate 2 refine aG ?_
  refine cG 14 19 ?_;refine cG 15 20 ?_;refine cG 16 21 ?_;refine bM [(17,22),(18,23)] ?_
  iterate 2 refine aG ?_
  refine cG 19 24 ?_;refine cG 20 25 ?_;refine cG 21 26 ?_;refine cG 22 27 ?_;refine cG 23 28 ?_;refine cG 24 29 ?_;refine cG 25 30 ?_;refine bM [(26,31)] ?_
  iterate 1 refine aG ?_
  refine wpAnyH_done (by kernel_rfl) ?_ _;have PP:=xh (aB O0.o OD.o);go_wp2_with fail;go_ret;refine⟨?_,PP.o⟩
  cases b
  .first|rfl|simp
  .exfalso;have hr:=HB.o.1 rfl;have hl:=HL.o;unfold gK at hr;omega
 .go_enter func156,ntmps156;go_wp2_with fail;generalize hW:(w.alloc (.cells #[.int .i64 ep,.int .i64 lg,.slice A n c] 155))=W at *;clear hW
  have HK:=xh (show ∀W',Below W.heap.size W W'->(W'.cell? ⟨w.heap.size,0,none⟩=some (.int .i64 ep)/\W'.cell? ⟨w.heap.size,1,none⟩=some (.int .i64 lg)/\W'.cell? ⟨w.heap.size,2,none⟩=some (.slice A n c))from λW' ho=>⟨(B0.o.below ho B0.o.lt).ab (i:=0) rfl,(B0.o.below ho B0.o.lt).ab (i:=1) rfl,(B0.o.below ho B0.o.lt).ab (i:=2) rfl⟩);have OD:=xh ((Below.refl W.heap.size W).drew)
  refine wp_region_held_drew (S:=λW'=>W'.cell? ⟨w.heap.size,0,none⟩=some (.int .i64 ep)/\W'.cell? ⟨w.heap.size,1,none⟩=some (.int .i64 lg)/\W'.cell? ⟨w.heap.size,2,none⟩=some (.slice A n c)) (by kernel_rfl) (HK.o _ OD.o) (λah=>?_);refine bM [(0,5),(1,6)] ?_
  iterate 2 refine aG ?_
  refine ni 2 7 (.bool false) ?_ ?_
  ·(intro w nJ;(try dsimp only at nJ);go_simp;(try omega))
  refine bM [(3,8),(4,9),(5,10)] ?_
  iterate 3 refine aG ?_
  refine ni 6 11 (.bool false) ?_ ?_
  ·(intro w nJ;(try dsimp only at nJ);go_simp;(try omega))
  refine bM [(7,12),(8,13),(9,14),(10,15)] ?_
  iterate 4 refine aG ?_
  refine ni 11 16 (.bool true) ?_ ?_
  ·(intro w nJ;(try dsimp only at nJ);go_simp;(try omega))
  refine bM [(12,17),(13,18)] ?_
  iterate 2 refine aG ?_
  refine cG 14 19 ?_;refine cG 15 20 ?_;refine cG 16 21 ?_;refine bM [(17,22),(18,23)] ?_
  iterate 2 refine aG ?_
  refine cG 19 24 ?_;refine cG 20 25 ?_;refine cG 21 26 ?_;refine cG 22 27 ?_;refine cG 23 28 ?_;refine cG 24 29 ?_;refine cG 25 30 ?_;refine bM [(26,31)] ?_
  iterate 1 refine aG ?_
  refine wpAnyH_done (by kernel_rfl) ?_ _;have PP:=xh (aB O0.o OD.o);go_wp2_with fail;go_ret;refine⟨?_,PP.o⟩
  cases b
  .first|rfl|simp
  .exfalso;have hr:=HB.o.1 rfl;have hl:=HL.o;unfold gK at hr;omega
 .go_enter func156,ntmps156;go_wp2_with fail;generalize hW:(w.alloc (.cells #[.int .i64 ep,.int .i64 lg,.slice A n c] 155))=W at *;clear hW
  have HK:=xh (show ∀W',Below W.heap.size W W'->(W'.cell? ⟨w.heap.size,0,none⟩=some (.int .i64 ep)/\W'.cell? ⟨w.heap.size,1,none⟩=some (.int .i64 lg)/\W'.cell? ⟨w.heap.size,2,none⟩=some (.slice A n c))from λW' ho=>⟨(B0.o.below ho B0.o.lt).ab (i:=0) rfl,(B0.o.below ho B0.o.lt).ab (i:=1) rfl,(B0.o.below ho B0.o.lt).ab (i:=2) rfl⟩);have OD:=xh ((Below.refl W.heap.size W).drew)
  refine wp_region_held_drew (S:=λW'=>W'.cell? ⟨w.heap.size,0,none⟩=some (.int .i64 ep)/\W'.cell? ⟨w.heap.size,1,none⟩=some (.int .i64 lg)/\W'.cell? ⟨w.heap.size,2,none⟩=some (.slice A n c)) (by kernel_rfl) (HK.o _ OD.o) (λah=>?_);refine bM [(0,5),(1,6)] ?_
  iterate 2 refine aG ?_
  refine ni 2 7 (.bool false) ?_ ?_
  ·(intro w nJ;(try dsimp only at nJ);go_simp;(try omega))
  refine bM [(3,8),(4,9),(5,10)] ?_
  iterate 3 refine aG ?_
  refine ni 6 11 (.bool false) ?_ ?_
  ·(intro w nJ;(try dsimp only at nJ);go_simp;(try omega))
  refine bM [(7,12),(8,13),(9,14),(10,15)] ?_
  iterate 4 refine aG ?_
  refine ni 11 16 (.bool false) ?_ ?_
  ·(intro w nJ;(try dsimp only at nJ);go_simp;(try omega))
  refine bM [(12,17),(13,18),(14,19),(15,20)] ?_
  iterate 4 refine aG ?_
  refine ni 16 21 (.bool true) ?_ ?_
  ·(intro w nJ;(try dsimp only at nJ);go_simp;(try omega))
  refine bM [(17,22),(18,23)] ?_
  iterate 2 refine aG ?_
  refine cG 19 24 ?_;refine cG 20 25 ?_;refine cG 21 26 ?_;refine cG 22 27 ?_;refine cG 23 28 ?_;refine cG 24 29 ?_;refine cG 25 30 ?_;refine bM [(26,31)] ?_
  iterate 1 refine aG ?_
  refine wpAnyH_done (by kernel_rfl) ?_ _;have PP:=xh (aB O0.o OD.o);go_wp2_with fail;go_ret;refine⟨?_,PP.o⟩
  cases b
  .first|rfl|simp
  .exfalso;have hr:=HB.o.1 rfl;have hl:=HL.o;unfold gK at hr;omega
 .replace KN:=xh (KN.o (by omega))
  obtain⟨nd,xX⟩:∃nd,ll lg=nd:=⟨_,rfl⟩;have HND:=xh xX;rw[xX]at KN h5;clear xX;go_enter func156,ntmps156;go_wp2_with fail;generalize hW:(w.alloc (.cells #[.int .i64 ep,.int .i64 lg,.slice A n c] 155))=W at *;clear hW
  have HK:=xh (show ∀W',Below W.heap.size W W'->(W'.cell? ⟨w.heap.size,0,none⟩=some (.int .i64 ep)/\W'.cell? ⟨w.heap.size,1,none⟩=some (.int .i64 lg)/\W'.cell? ⟨w.heap.size,2,none⟩=some (.slice A n c))from λW' ho=>⟨(B0.o.below ho B0.o.lt).ab (i:=0) rfl,(B0.o.below ho B0.o.lt).ab (i:=1) rfl,(B0.o.below ho B0.o.lt).ab (i:=2) rfl⟩);have OD:=xh ((Below.refl W.heap.size W).drew)
  refine wp_region_held_drew (S:=λW'=>W'.cell? ⟨w.heap.size,0,none⟩=some (.int .i64 ep)/\W'.cell? ⟨w.heap.size,1,none⟩=some (.int .i64 lg)/\W'.cell? ⟨w.heap.size,2,none⟩=some (.slice A n c)) (by kernel_rfl) (HK.o _ OD.o) (λah=>?_);refine bM [(0,5),(1,6)] ?_
  iterate 2 refine aG ?_
  refine ni 2 7 (.bool false) ?_ ?_
  ·(intro w nJ;(try dsimp only at nJ);go_simp;(try omega))
  refine bM [(3,8),(4,9),(5,10)] ?_
  iterate 3 refine aG ?_
  refine ni 6 11 (.bool false) ?_ ?_
  ·(intro w nJ;(try dsimp only at nJ);go_simp;(try omega))
  refine bM [(7,12),(8,13),(9,14),(10,15)] ?_
  iterate 4 refine aG ?_
  refine ni 11 16 (.bool false) ?_ ?_
  ·(intro w nJ;(try dsimp only at nJ);go_simp;(try omega))
  refine bM [(12,17),(13,18),(14,19),(15,20)] ?_
  iterate 4 refine aG ?_
  refine ni 16 21 (.bool false) ?_ ?_
  ·(intro w nJ;(try dsimp only at nJ);go_simp;(try omega))
  refine bM [(17,22),(18,23),(19,24),(20,25),(21,26),(22,27),(23,28)] ?_
  iterate 7 refine aG ?_
  refine bY 24 29 λK hK=>?_;go_simp
  go_at_call 149
  refine(KN.o _).mono ?_;rintro r w2 ⟨rfl,cA⟩;have P2:=xh (aB OD.o cA);go_simp;refine aA hK (HK.o _ P2.o) (λah=>?_);refine ni 25 30 (.bool true) ?_ ?_
  ·(intro w nJ;(try dsimp only at nJ);go_simp;(try omega))
  refine bM [(26,31)] ?_
  iterate 1 refine aG ?_
  refine wpAnyH_done (by kernel_rfl) ?_ _;have PP:=xh (aB O0.o P2.o);go_wp2_with fail;go_ret;refine⟨?_,PP.o⟩
  cases b
  .first|rfl|simp
  .exfalso;have hr:=HB.o.1 rfl;have hl:=HL.o;unfold gK at hr;rw[HND.o]at hr;omega
 .replace KN:=xh (KN.o (by omega))
  obtain⟨nd,xX⟩:∃nd,ll lg=nd:=⟨_,rfl⟩;have HND:=xh xX;rw[xX]at KN h5;clear xX;go_enter func156,ntmps156;go_wp2_with fail;generalize hW:(w.alloc (.cells #[.int .i64 ep,.int .i64 lg,.slice A n c] 155))=W at *;clear hW
  have HK:=xh (show ∀W',Below W.heap.size W W'->(W'.cell? ⟨w.heap.size,0,none⟩=some (.int .i64 ep)/\W'.cell? ⟨w.heap.size,1,none⟩=some (.int .i64 lg)/\W'.cell? ⟨w.heap.size,2,none⟩=some (.slice A n c))from λW' ho=>⟨(B0.o.below ho B0.o.lt).ab (i:=0) rfl,(B0.o.below ho B0.o.lt).ab (i:=1) rfl,(B0.o.below ho B0.o.lt).ab (i:=2) rfl⟩);have OD:=xh ((Below.refl W.heap.size W).drew)
  refine wp_region_held_drew (S:=λW'=>W'.cell? ⟨w.heap.size,0,none⟩=some (.int .i64 ep)/\W'.cell? ⟨w.heap.size,1,none⟩=some (.int .i64 lg)/\W'.cell? ⟨w.heap.size,2,none⟩=some (.slice A n c)) (by kernel_rfl) (HK.o _ OD.o) (λah=>?_);refine bM [(0,5),(1,6)] ?_
  iterate 2 refine aG ?_
  refine ni 2 7 (.bool false) ?_ ?_
  ·(intro w nJ;(try dsimp only at nJ);go_simp;(try omega))
  refine bM [(3,8),(4,9),(5,10)] ?_
  iterate 3 refine aG ?_
  refine ni 6 11 (.bool false) ?_ ?_
  ·(intro w nJ;(try dsimp only at nJ);go_simp;(try omega))
  refine bM [(7,12),(8,13),(9,14),(10,15)] ?_
  iterate 4 refine aG ?_
  refine ni 11 16 (.bool false) ?_ ?_
  ·(intro w nJ;(try dsimp only at nJ);go_simp;(try omega))
  refine bM [(12,17),(13,18),(14,19),(15,20)] ?_
  iterate 4 refine aG ?_
  refine ni 16 21 (.bool false) ?_ ?_
  ·(intro w nJ;(try dsimp only at nJ);go_simp;(try omega))
  refine bM [(17,22),(18,23),(19,24),(20,25),(21,26),(22,27),(23,28)] ?_
  iterate 7 refine aG ?_
  refine bY 24 29 λK hK=>?_;go_simp
  go_at_call 149
  refine(KN.o _).mono ?_;rintro r w2 ⟨rfl,cA⟩;have P2:=xh (aB OD.o cA);go_simp;refine aA hK (HK.o _ P2.o) (λah=>?_);refine ni 25 30 (.bool false) ?_ ?_
  ·(intro w nJ;(try dsimp only at nJ);go_simp;(try omega))
  refine bM [(26,31)] ?_
  iterate 1 refine aG ?_
  refine wpAnyH_done (by kernel_rfl) ?_ _;have PP:=xh (aB O0.o P2.o);have B2:=xh (B0.o.below P2.o B0.o.lt);have H2:=xh (H0.o.below P2.o);have y2:w2.cell? ⟨w.heap.size,2,none⟩=some (.slice A n c):=B2.o.ab (i:=2) rfl;go_wp2_with fail
  go_loopw [35] (λiv wr=> ∃i:Nat,i<=n/\iv=.int .i64 i/\Hid (∀j x,j<i->l[j]?=some x->0<=x/\x<=1023/\x∉l.take j)/\wr=w2) (λiv _=>n-(intOf iv).toNat)
  case atStart=>exact⟨0,aY _,rfl,xh (λj x h=>absurd h (j9 _)),rfl⟩
  case round=>
   obtain⟨i,hi,rfl,HX,rfl⟩:=hrel
   by_cases h':i<n
   .obtain⟨ad,x,rfl,hx,ck⟩:=H2.o.at i h';have hiI:(i:Int)<(n:Int):=by omega
    have HXX:=xh hx;have HT:=xh (H2.o.take i (by omega));clear hx;have NO:=xh (show ¬(0<=x/\x<=1023/\x∉l.take i)->b=false from λPz=>by
     cases b
     .rfl
     .exact absurd ((HB.o.1 rfl).2.2.2.2.2 i x HXX.o) Pz)
    by_cases x0:x<0
    .go_wp2_with fail;go_ret;refine⟨?_,PP.o⟩;rw[NO.o (by omega)];first|rfl|simp
    .by_cases x1:1023<x
     .go_wp2_with fail;go_ret;refine⟨?_,PP.o⟩;rw[NO.o (by omega)];first|rfl|simp
     .obtain⟨q,hq⟩:=bool_of (x∈l.take i);have KC:=xh (EF (w:=wr) (some ad) i c (l.take i) x HT.o (by omega) q hq);have HQ:=xh hq;have hc:(i:Int)<=(c:Int):=by omega
      clear hq;go_wp2_with fail;refine KC.o.mono ?_;rintro e w3 ⟨rfl,rfl⟩
      cases q
      .have HX2:=xh (show ∀j z,j<i+1->l[j]?=some z->0<=z/\z<=1023/\z∉l.take j from λj z hj hz=>by
        rcases oA.1 hj with h1|rfl
        .exact HX.o j z h1 hz
        .rw[HXX.o]at hz;injection hz with hz;subst hz
         exact⟨by omega,by omega,λhm=>by have:=HQ.o.2 hm;cases this⟩)
       go_wp2_with fail;go_roundw
       case rel=>exact⟨i+1,by omega,by go_num,HX2,by first|rfl|trivial⟩
       case measure=>simp[intOf];omega
      .go_wp2_with fail;go_ret;refine⟨?_,PP.o⟩;rw[NO.o (λhx=>hx.2.2 (HQ.o.1 (by trivial)))];first|rfl|simp
   .obtain rfl:i=n:=by omega
    go_wp2_with fail;go_ret;refine⟨?_,PP.o⟩;have:gK ep lg l:=⟨by omega,by omega,by omega,by omega,by rw[HND.o,HL.o];exact h5,λj x hx=>HX.o j x (by have:=(aS.1 hx).1;rw[HL.o]at this;exact this) hx⟩;rw[HB.o.2 this];first|rfl|simp
attribute [local go_sem ↓] bz
variable{w:World}
def eS(n:Nat):List UInt8:=[UInt8.ofNat (n / 256),UInt8.ofNat n]
theorem EG{P:Program}{e:TypeId}{v:Value}{n:Nat}{l:List Value}(S:aT w e 1 v n l)
 (T ty:TypeId)(z:Value)(bytes:Nat)(ht:P.underlying T=some (.slice e))(mx:(P.info? e).map (λi=>(i.zero,i.size,i.bytes))=some (some z,1,bytes))(hz:z.cells.size=1)
 (news:List Value)(hx:∀u∈news,u.oneCell'=true)(El:n+news.length<=maxLen)(hb:(n+news.length)*bytes<=140737488355328):
  ∃v' w',dP P T ty (w.alloc (.cells news.toArray e)) v (.slice (some ⟨w.heap.size,0,none⟩) news.length news.length)= .ok v' w'/\aT w' e 1 v' (n+news.length) (l++news)/\ag (ai v) w w'/\(∀g∈ai v',g∈ai v\/w.heap.size<=g):=by
 obtain⟨i0,hi,kx,ju,kg⟩:=info_parts mx;obtain⟨v',w',h1,h2,h3,h4⟩:=dk (P:=P) (S.alloc (.cells news.toArray e)) T ty i0 z bytes ht hi kx ju kg hz (by omega)
  ⟨w.heap.size,0,none⟩ news.length news.length news (by simp) (bq (l:=news) (aJ.new w e news.toArray) 0 _ (by intro j u hu;rw[bg];exact hu)) hx El hb
 exact⟨v',w',h1,h2,((ag.refl _ _).alloc _).aO h3 (λx hx _=>hx),λg hg=>(h4 g hg).imp id (λh=>by simp at h;omega)⟩
theorem eZ(v:Value)(k:Nat)(l:List UInt8)(S:aT w 5 1 v k (dI l))(n:Nat)(hn:n<=65535)(hk:k<=1000):
  Calls prog 157 #[v,.int .i64 (n:Nat)] w λe w'=>(∃v',e=.returned v'/\aT w' 5 1 v' (k+2) (dI (l++eS n))/\(∀g∈ai v',g∈ai v\/w.heap.size<=g))/\ag (ai v) w w':=by
 obtain⟨A,c,rfl⟩:=au S;have e0:Value.int .u8 ((n:Int) / 256)=bv (UInt8.ofNat (n / 256)):=by
  unfold bv
  congr 1
  rw[je];omega
 have e1:Value.int .u8 ((n:Int) % 256)=bv (UInt8.ofNat n):=by
  unfold bv;rfl
 obtain⟨v',w2,ea,S2,ow,fr⟩:=EG (P:=prog) S 150 150 (.int .u8 0) 1 underlying150 jy.eA rfl [.int .u8 ((n:Int) / 256),.int .u8 ((n:Int) % 256)] (by intro u hu;simp at hu;rcases hu with rfl|rfl<;>rfl) (by simp;unfold maxLen;omega) (by simp;omega);obtain⟨V2,ix,rfl⟩:=au S2
 have EA:=xh (show dP prog 150 150 (w.alloc (.cells #[.int .u8 ((n:Int) / 256),.int .u8 ((n:Int) % 256)] 5)) (.slice A k c) (.slice (some ⟨w.heap.size,0,none⟩) 2 2)= .ok (.slice V2 (k+2) ix) w2 from ea);have SX:=xh (show aT w2 5 1 (.slice V2 (k+2) ix) (k+2) (dI (l++eS n))from by
  rw[e0,e1]at S2;rw[cP];exact S2)
 have OX:=xh ow;have FX:=xh fr;have m1:IntKind.u8.wrap ((n:Int) / 256)=(n:Int) / 256:=IntWalk.u8_in _ (by omega);clear ea S2 ow fr S e0 e1;go_enter func157,ntmps157;go_wp2_with fail;rw[EA.o];go_wp2_with fail;go_ret;exact⟨⟨_,rfl,SX.o,FX.o⟩,OX.o⟩
def nm(lg:Nat)(l:List Nat):List UInt8:=(eS lg++eS l.length++(l++List.replicate (5-l.length) 0).flatMap eS)++List.replicate 30 0
def eX(ep:Int)(lg:Nat)(l:List Nat):List UInt8:=fE ep++jy.bH (nm lg l)++fE ep
def lenV:Value->Nat
 |.slice _ n _=>n
 |_=>0
theorem SW(a0 a1 a2 a3 a4:Int)(w:World)(k:Nat)(x:Value)(hx: #[Value.int .i64 a0,.int .i64 a1,.int .i64 a2,.int .i64 a3,.int .i64 a4][k]?=some x):
  (Instr.index 231 (.agg #[.int .i64 a0,.int .i64 a1,.int .i64 a2,.int .i64 a3,.int .i64 a4]) (.int .i64 (k:Int))).run prog w=.ok x w:=by
 have hu:prog.underlying 231=some (.array 5 3):=by kernel_rfl
 have hm:(prog.info? 3).map (·.size)=some 1:=by kernel_rfl
 have hp:prog.plainKey 3=true:=by kernel_rfl
 have hk:k<5:=by
  rcases eR k 5 with h|h
  .exact h
  .rw[RJ (by simpa using h)]at hx;cases hx
 cases hq:prog.info? 3 with
 |none=>simp[hq]at hm
 |some i=>
  simp only[hq,kU,Option.some.injEq]at hm;have:=run_part_plain (P:=prog) w hp hx;simp[Instr.index,asIntOf,run_underlying hu,hk,sizeOf,typeInfo,hq,hm];exact this
def dr(l:List Nat):List Int:=l.map Int.ofNat
def Ta(l:List Nat):List Value:=l.map λ(x:Nat)=>Value.int .i64 (x:Int)
theorem Kd{W:World}{g:Nat}{A:Option Addr}{n c:Nat}{l:List Nat}(B:aJ W g 231 #[.int .i64 0,.int .i64 0,.int .i64 0,.int .i64 0,.int .i64 0])(H:js W A n (dr l))(hl:l.length=n)(hn:n<=5):
  ∃w',(Builtin.copy_ #[60,60] 3 #[.slice (some ⟨g,0,none⟩) 5 5,.slice A n c]).run prog W=.ok (goInt n) w'/\aJ w' g 231 (Ta (l++List.replicate (5-l.length) 0)).toArray/\ag [g] W w':=by
 cases A with
 |none=>
  have h0:n=0:=by
   by_cases h0:n=0
   .exact h0
   .obtain⟨ad,x,h1,_⟩:=H.at 0 (by omega)
    cases h1
  subst h0;have GK:l=[]:=lK hl;subst GK;refine⟨W,?_,B,ag.refl _ _⟩;simp[Builtin.copy_,run_underlying underlying60,Builtin.lenOf,Builtin.firstCells,storeCells]
 |some ad=>
  have hlen:(Ta l).length=n:=by simp[Ta,hl]
  obtain⟨w',e,B',o⟩:=yL (P:=prog) (cur:=[.int .i64 0,.int .i64 0,.int .i64 0,.int .i64 0,.int .i64 0]) B 60 60 3 3 0 5 5 ad n c (Ta l) underlying60 (by kernel_rfl) (by rw[hlen];exact(oC hn).symm)
   (λj v hv=>by
    have hj:j<l.length:=by have:=(aS.1 hv).1;simpa [Ta]using this
    have hx:(dr l)[j]?=some (Int.ofNat l[j]):=by simp[dr,aL hj]
    obtain⟨ad',e1,h1⟩:=H.2 j _ hx;injection e1 with e1
    subst e1;simp only[Ta,jr,aL hj,kU,Option.some.injEq]at hv;subst hv;exact h1) (by rw[hlen];exact(by omega:0+n<=5)) (by intro v hv;simp only[Ta,dC]at hv;obtain⟨x,_,rfl⟩:=hv;rfl)
  rw[hlen]at e;refine⟨w',e,?_,o⟩;have:putAt [.int .i64 0,.int .i64 0,.int .i64 0,.int .i64 0,.int .i64 0] 0 (Ta l)=Ta (l++List.replicate (5-l.length) 0):=by
   unfold putAt;rw[jb,cW,bg,hlen,hl];have hz:([.int .i64 0,.int .i64 0,.int .i64 0,.int .i64 0,.int .i64 0]:List Value).drop n=Ta (List.replicate (5-n) 0):=by
    rcases(show n=0\/n=1\/n=2\/n=3\/n=4\/n=5 by omega)with rfl|rfl|rfl|rfl|rfl|rfl<;>rfl
   rw[hz];simp[Ta]
  rw[<-this];exact B'
theorem GL{w:World}(ep:Int)(lg:Nat)(A:Option Addr)(n c:Nat)(l:List Nat)(h:js w A n (dr l))(Gq:n<=c)(hr:gK ep lg (dr l)):
  Calls prog 102 #[Cy ep lg A n c] w λe w'=>e=.returned (.tuple #[.string ⟨(eX ep lg l).toArray⟩,.int .i64 0])/\Below w.heap.size w w':=by
 have hn5:=kK hr;have tA:l.length=n:=by have:=h.1;simpa [dr]using this
 have hn:n<=5:=by rw[<-tA];simpa [dr]using hn5
 have hlg:lg<=512:=by have:=hr.2.2.2.1;omega
 have O0:=ae (Below.refl w.heap.size w) (.cells #[.int .i64 ep,.int .i64 (lg:Int),.slice A n c] 155);have B0:=xh (aJ.new w 155 #[.int .i64 ep,.int .i64 (lg:Int),.slice A n c]);have H0:=xh (h.below O0);have KR:=xh (vB (w:=w.alloc (.cells #[.int .i64 ep,.int .i64 (lg:Int),.slice A n c] 155)) ep lg A n c (dr l) H0.o (by omega) Gq true (by simp[hr]));have O0:=xh O0;have HR:=xh hr;have nD:=xh tA;clear h hr hn5;unfold Cy at *
 go_enter func102,ntmps102;go_wp2_with fail;generalize hW:(w.alloc (.cells #[.int .i64 ep,.int .i64 (lg:Int),.slice A n c] 155))=W at *;clear hW;refine KR.o.mono ?_;rintro e w1 ⟨rfl,bf⟩;have O1:=xh (aB O0.o bf);have B1:=xh (B0.o.below bf B0.o.lt);have H1:=xh (H0.o.below bf);clear bf KR;go_wp2_with fail
 have HK:=xh (show ∀W',Below w1.heap.size w1 W'->(W'.cell? ⟨w.heap.size,0,none⟩=some (.int .i64 ep)/\W'.cell? ⟨w.heap.size,1,none⟩=some (.int .i64 (lg:Int))/\W'.cell? ⟨w.heap.size,2,none⟩=some (.slice A n c))from λW' ho=>⟨(B1.o.below ho B1.o.lt).ab (i:=0) rfl,(B1.o.below ho B1.o.lt).ab (i:=1) rfl,(B1.o.below ho B1.o.lt).ab (i:=2) rfl⟩);have OD:=xh ((Below.refl w1.heap.size w1).drew)
 refine wp_region_held_drew (S:=λW'=>W'.cell? ⟨w.heap.size,0,none⟩=some (.int .i64 ep)/\W'.cell? ⟨w.heap.size,1,none⟩=some (.int .i64 (lg:Int))/\W'.cell? ⟨w.heap.size,2,none⟩=some (.slice A n c)) (by kernel_rfl) (HK.o _ OD.o) (λah=>?_);refine bM [(0,12),(1,13),(3,15),(4,16),(5,17)] ?_
 iterate 5 refine aG ?_
 refine bY 2 14 λK hK=>?_;go_simp
 go_at_call 157
 refine(eZ _ 0 [] (aT.nil _ _ _) lg (by omega) (by omega)).mono ?_;rintro r w2 ⟨⟨v2,rfl,S2,F2⟩,o2⟩;have P2:=xh (OD.o.trans (o2.aI OD.o.size (by simp[ai])));have F2:=xh (show ∀g∈ai v2,w1.heap.size<=g from λg hg=>(F2 g hg).elim (λh=>by simp[ai]at h) (λh=>ar OD.o.size h));go_simp;refine aA hK (HK.o _ P2.o) (λah=>?_);refine bY 6 18 λK hK=>?_;go_simp
 go_at_call 157
 refine(eZ _ 2 _ S2 n (by omega) (by omega)).mono ?_;rintro r w3 ⟨⟨v3,rfl,S3,F3⟩,o3⟩;have P3:=xh (P2.o.trans (o3.aI P2.o.size F2.o));have F3:=xh (show ∀g∈ai v3,w1.heap.size<=g from λg hg=>(F3 g hg).elim (F2.o g) (λh=>ar P2.o.size h));go_simp;refine aA hK (HK.o _ P3.o) (λah=>?_);refine bM [(7,4)] ?_
 iterate 1 refine aG ?_
 refine wpAnyH_done (by kernel_rfl) ?_ _;have O3:=xh (aB O1.o P3.o);have B3:=xh (B1.o.below P3.o B1.o.lt);have H3:=xh (H1.o.below P3.o);have S3:=xh S3;obtain⟨V3,c3,rfl⟩:=au S3.o;have F3:=xh (show ∀g∈ai (.slice V3 4 c3),w.heap.size+1<=g from λg hg=>ar (by have:=B1.o.lt;omega) (F3.o g hg));clear ah o2 o3 S2 P2 P3 F2 OD HK;have BA:=xh (aJ.new w3 231 #[.int .i64 0,.int .i64 0,.int .i64 0,.int .i64 0,.int .i64 0])
 have O4:=xh (ae O3.o (.cells #[.int .i64 0,.int .i64 0,.int .i64 0,.int .i64 0,.int .i64 0] 231));have B4:=xh (B3.o.alloc (.cells #[.int .i64 0,.int .i64 0,.int .i64 0,.int .i64 0,.int .i64 0] 231));have S4:=xh (S3.o.alloc (.cells #[.int .i64 0,.int .i64 0,.int .i64 0,.int .i64 0,.int .i64 0] 231));have H4:=xh (H3.o.below (ae (Below.refl _ _) (.cells #[.int .i64 0,.int .i64 0,.int .i64 0,.int .i64 0,.int .i64 0] 231)));go_wp2_with fail
 generalize hW:(w3.alloc _)=w4 at *;have W3LT:=B4.o.lt;have HK:=xh (show ∀W',ag [w3.heap.size] w4 W'->(W'.cell? ⟨w.heap.size,0,none⟩=some (.int .i64 ep)/\W'.cell? ⟨w.heap.size,1,none⟩=some (.int .i64 (lg:Int))/\W'.cell? ⟨w.heap.size,2,none⟩=some (.slice A n c))from λW' ho=>by
  have ff:w.heap.size∉[w3.heap.size]:=by have:=B3.o.lt;simp;omega
  have B:=B4.o.only ho ff;exact⟨B.ab (i:=0) rfl,B.ab (i:=1) rfl,B.ab (i:=2) rfl⟩)
 have OD:=xh ((ag.refl [w3.heap.size] w4).drew);refine wp_region_held_drew (S:=λW'=>W'.cell? ⟨w.heap.size,0,none⟩=some (.int .i64 ep)/\W'.cell? ⟨w.heap.size,1,none⟩=some (.int .i64 (lg:Int))/\W'.cell? ⟨w.heap.size,2,none⟩=some (.slice A n c)) (by kernel_rfl) (HK.o _ OD.o) (λah=>?_);refine bM [(0,19),(1,20),(2,21)] ?_
 iterate 3 refine aG ?_
 refine bY 3 22 λK hK=>?_;obtain⟨w5,ec,BQ,oc⟩:=Kd (W:=w4.drew) BA.o (show js w4.drew A n (dr l)from H4.o.below (Below.refl _ _).drew) nD.o hn;have EC:=xh ec;have OC:=xh (OD.o.trans oc);have BQ:=xh BQ;clear ec oc;go_simp;rw[EC.o];go_simp;refine aA hK (HK.o _ OC.o) (λah=>?_);refine wpAnyH_done (by kernel_rfl) ?_ _;have hq5:(l++List.replicate (5-l.length) 0).length=5:=by rw[aU,ez];have:=nD.o;omega
 have hqs:∀x∈l++List.replicate (5-l.length) 0,x<=1023:=by
  intro x hx
  rcases aC.1 hx with hx|hx
  .obtain⟨i,hi,rfl⟩:=oq hx;have h1:=HR.o.2.2.2.2.2 i ((l[i]:Nat):Int) (by simp[dr];exact⟨l[i],aL hi,rfl⟩);omega
  .have:=om hx;omega
 obtain⟨q,hqq⟩:∃q,l++List.replicate (5-l.length) 0=q:=⟨_,rfl⟩;have HQQ:=xh hqq;rw[hqq]at BQ hq5 hqs;clear hqq
 match q,hq5 with
 |[q0,q1,q2,q3,q4],_=>
 have p0:q0<=1023:=hqs _ (by simp);have p1:q1<=1023:=hqs _ (by simp);have p2:q2<=1023:=hqs _ (by simp);have p3:q3<=1023:=hqs _ (by simp);have p4:q4<=1023:=hqs _ (by simp);have a0:w5.cell? ⟨w3.heap.size,0,none⟩=some (.int .i64 (q0:Int)):=BQ.o.ab (i:=0) rfl;have a1:w5.cell? ⟨w3.heap.size,1,none⟩=some (.int .i64 (q1:Int)):=BQ.o.ab (i:=1) rfl;have a2:w5.cell? ⟨w3.heap.size,2,none⟩=some (.int .i64 (q2:Int)):=BQ.o.ab (i:=2) rfl
 have a3:w5.cell? ⟨w3.heap.size,3,none⟩=some (.int .i64 (q3:Int)):=BQ.o.ab (i:=3) rfl;have a4:w5.cell? ⟨w3.heap.size,4,none⟩=some (.int .i64 (q4:Int)):=BQ.o.ab (i:=4) rfl;have Ke:w.heap.size<w3.heap.size:=B3.o.lt;have O5:=xh (O4.o.trans (OC.o.aI O4.o.size (λx hx=>by simp at hx;omega)));have B5:=xh (B4.o.only OC.o (by simp;omega));have S5:=xh (S4.o.only OC.o (λx hx=>by have:=S3.o.lt x hx;simp;omega));clear ah hqs OD HK
 go_wp2_with fail;obtain⟨HD,hHD⟩:∃HD,[]++eS lg++eS n=HD:=⟨_,rfl⟩;have HHD:=xh hHD;rw[hHD]at S5;clear hHD a0 a1 a2 a3 a4 S4 S3
 go_loopw [4,24] (λsv iv wr=> ∃k:Nat,k<=5/\iv=.int .i64 (k:Int)/\aT wr 5 1 sv (4+2*k) (dI (HD++([q0,q1,q2,q3,q4].take k).flatMap eS))/\Hid (aJ wr w.heap.size 155 #[.int .i64 ep,.int .i64 (lg:Int),.slice A n c])/\Below w.heap.size w wr/\Hid (∀x∈ai sv,w.heap.size+1<=x)) (λ_ iv _=>5-(intOf iv).toNat)
 case atStart=>exact⟨0,by omega,rfl,by simpa using S5.o,B5,O5.o,F3⟩
 case round=>
  obtain⟨k,hk,rfl,S,C,O,F⟩:=hrel;obtain⟨VA,vc,rfl⟩:=au S
  rcases(show k=0\/k=1\/k=2\/k=3\/k=4\/k=5 from by omega)with rfl|rfl|rfl|rfl|rfl|rfl
  .have K:=xh (eZ _ 4 _ S q0 (by omega) (by omega));have OO:=xh O;have IX:=xh (show(Instr.index 231 (.agg #[.int .i64 (q0:Int),.int .i64 (q1:Int),.int .i64 (q2:Int),.int .i64 (q3:Int),.int .i64 (q4:Int)]) (.int .i64 0)).run prog wr=.ok (.int .i64 (q0:Int)) wr from SW q0 q1 q2 q3 q4 wr 0 _ rfl);clear S O;go_wp2_with fail;rw[IX.o];go_wp2_with fail;refine K.o.mono ?_;rintro r w7 ⟨⟨v7,rfl,S7,F7⟩,o7⟩
   have O7:=xh (OO.o.trans (o7.aI OO.o.size (λx hx=>by have:=F.o x hx;omega)));have C7:=xh (C.o.only o7 (λhx=>by have:=F.o _ hx;omega));have F7:=xh (show ∀x∈ai v7,w.heap.size+1<=x from λx hx=>(F7 x hx).elim (F.o x) (λh=>by have:=C.o.lt;omega));have S7:=xh (show aT w7 5 1 v7 (4+2*(0+1)) (dI (HD++([q0,q1,q2,q3,q4].take (0+1)).flatMap eS))from by
    have hx:HD++([q0,q1,q2,q3,q4].take (0+1)).flatMap eS=(HD++([q0,q1,q2,q3,q4].take 0).flatMap eS)++eS q0:=by simp
    rw[hx];exact S7)
   obtain⟨V7,c7,rfl⟩:=au S7.o;clear o7;go_wp2_with fail;go_roundw
   case rel=>exact⟨0+1,by omega,by first|rfl|go_num,S7.o,C7,O7.o,F7⟩
   case measure=>simp[intOf]
  .have K:=xh (eZ _ 6 _ S q1 (by omega) (by omega));have OO:=xh O;have IX:=xh (show(Instr.index 231 (.agg #[.int .i64 (q0:Int),.int .i64 (q1:Int),.int .i64 (q2:Int),.int .i64 (q3:Int),.int .i64 (q4:Int)]) (.int .i64 1)).run prog wr=.ok (.int .i64 (q1:Int)) wr from SW q0 q1 q2 q3 q4 wr 1 _ rfl);clear S O;go_wp2_with fail;rw[IX.o];go_wp2_with fail;refine K.o.mono ?_;rintro r w7 ⟨⟨v7,rfl,S7,F7⟩,o7⟩
   have O7:=xh (OO.o.trans (o7.aI OO.o.size (λx hx=>by have:=F.o x hx;omega)));have C7:=xh (C.o.only o7 (λhx=>by have:=F.o _ hx;omega));have F7:=xh (show ∀x∈ai v7,w.heap.size+1<=x from λx hx=>(F7 x hx).elim (F.o x) (λh=>by have:=C.o.lt;omega));have S7:=xh (show aT w7 5 1 v7 (4+2*(1+1)) (dI (HD++([q0,q1,q2,q3,q4].take (1+1)).flatMap eS))from by
    have hx:HD++([q0,q1,q2,q3,q4].take (1+1)).flatMap eS=(HD++([q0,q1,q2,q3,q4].take 1).flatMap eS)++eS q1:=by simp
    rw[hx];exact S7)
   obtain⟨V7,c7,rfl⟩:=au S7.o;clear o7;go_wp2_with fail;go_roundw
   case rel=>exact⟨1+1,by omega,by first|rfl|go_num,S7.o,C7,O7.o,F7⟩
   case measure=>simp[intOf]
  .have K:=xh (eZ _ 8 _ S q2 (by omega) (by omega));have OO:=xh O;have IX:=xh (show(Instr.index 231 (.agg #[.int .i64 (q0:Int),.int .i64 (q1:Int),.int .i64 (q2:Int),.int .i64 (q3:Int),.int .i64 (q4:Int)]) (.int .i64 2)).run prog wr=.ok (.int .i64 (q2:Int)) wr from SW q0 q1 q2 q3 q4 wr 2 _ rfl);clear S O;go_wp2_with fail;rw[IX.o];go_wp2_with fail;refine K.o.mono ?_;rintro r w7 ⟨⟨v7,rfl,S7,F7⟩,o7⟩
   have O7:=xh (OO.o.trans (o7.aI OO.o.size (λx hx=>by have:=F.o x hx;omega)));have C7:=xh (C.o.only o7 (λhx=>by have:=F.o _ hx;omega));have F7:=xh (show ∀x∈ai v7,w.heap.size+1<=x from λx hx=>(F7 x hx).elim (F.o x) (λh=>by have:=C.o.lt;omega));have S7:=xh (show aT w7 5 1 v7 (4+2*(2+1)) (dI (HD++([q0,q1,q2,q3,q4].take (2+1)).flatMap eS))from by
    have hx:HD++([q0,q1,q2,q3,q4].take (2+1)).flatMap eS=(HD++([q0,q1,q2,q3,q4].take 2).flatMap eS)++eS q2:=by simp
    rw[hx];exact S7)
   obtain⟨V7,c7,rfl⟩:=au S7.o;clear o7;go_wp2_with fail;go_roundw
   case rel=>exact⟨2+1,by omega,by first|rfl|go_num,S7.o,C7,O7.o,F7⟩
   case measure=>simp[intOf]
  .have K:=xh (eZ _ 10 _ S q3 (by omega) (by omega));have OO:=xh O;have IX:=xh (show(Instr.index 231 (.agg #[.int .i64 (q0:Int),.int .i64 (q1:Int),.int .i64 (q2:Int),.int .i64 (q3:Int),.int .i64 (q4:Int)]) (.int .i64 3)).run prog wr=.ok (.int .i64 (q3:Int)) wr from SW q0 q1 q2 q3 q4 wr 3 _ rfl);clear S O;go_wp2_with fail;rw[IX.o];go_wp2_with fail;refine K.o.mono ?_;rintro r w7 ⟨⟨v7,rfl,S7,F7⟩,o7⟩
   have O7:=xh (OO.o.trans (o7.aI OO.o.size (λx hx=>by have:=F.o x hx;omega)));have C7:=xh (C.o.only o7 (λhx=>by have:=F.o _ hx;omega));have F7:=xh (show ∀x∈ai v7,w.heap.size+1<=x from λx hx=>(F7 x hx).elim (F.o x) (λh=>by have:=C.o.lt;omega));have S7:=xh (show aT w7 5 1 v7 (4+2*(3+1)) (dI (HD++([q0,q1,q2,q3,q4].take (3+1)).flatMap eS))from by
    have hx:HD++([q0,q1,q2,q3,q4].take (3+1)).flatMap eS=(HD++([q0,q1,q2,q3,q4].take 3).flatMap eS)++eS q3:=by simp
    rw[hx];exact S7)
   obtain⟨V7,c7,rfl⟩:=au S7.o;clear o7;go_wp2_with fail;go_roundw
   case rel=>exact⟨3+1,by omega,by first|rfl|go_num,S7.o,C7,O7.o,F7⟩
   case measure=>simp[intOf]
  .have K:=xh (eZ _ 12 _ S q4 (by omega) (by omega));have OO:=xh O;have IX:=xh (show(Instr.index 231 (.agg #[.int .i64 (q0:Int),.int .i64 (q1:Int),.int .i64 (q2:Int),.int .i64 (q3:Int),.int .i64 (q4:Int)]) (.int .i64 4)).run prog wr=.ok (.int .i64 (q4:Int)) wr from SW q0 q1 q2 q3 q4 wr 4 _ rfl);clear S O;go_wp2_with fail;rw[IX.o];go_wp2_with fail;refine K.o.mono ?_;rintro r w7 ⟨⟨v7,rfl,S7,F7⟩,o7⟩
   have O7:=xh (OO.o.trans (o7.aI OO.o.size (λx hx=>by have:=F.o x hx;omega)));have C7:=xh (C.o.only o7 (λhx=>by have:=F.o _ hx;omega));have F7:=xh (show ∀x∈ai v7,w.heap.size+1<=x from λx hx=>(F7 x hx).elim (F.o x) (λh=>by have:=C.o.lt;omega));have S7:=xh (show aT w7 5 1 v7 (4+2*(4+1)) (dI (HD++([q0,q1,q2,q3,q4].take (4+1)).flatMap eS))from by
    have hx:HD++([q0,q1,q2,q3,q4].take (4+1)).flatMap eS=(HD++([q0,q1,q2,q3,q4].take 4).flatMap eS)++eS q4:=by simp
    rw[hx];exact S7)
   obtain⟨V7,c7,rfl⟩:=au S7.o;clear o7;go_wp2_with fail;go_roundw
   case rel=>exact⟨4+1,by omega,by first|rfl|go_num,S7.o,C7,O7.o,F7⟩
   case measure=>simp[intOf]
  .have OO:=xh O;have SS:=xh (show aT wr 5 1 (.slice VA 14 vc) 14 (dI (HD++[q0,q1,q2,q3,q4].flatMap eS))from S);clear S O;go_wp2_with fail;obtain⟨M,hM⟩:∃M,HD++[q0,q1,q2,q3,q4].flatMap eS=M:=⟨_,rfl⟩;have HM:=xh (show M++List.replicate 30 0=nm lg l from by
    unfold nm;rw[<-hM,<-HHD.o,HQQ.o,nD.o,cW])
   rw[hM]at SS;clear hM
   go_loopw [4] (λsv wx=> ∃j:Nat,j<=30/\aT wx 5 1 sv (14+j) (dI (M++List.replicate j 0))/\Hid (aJ wx w.heap.size 155 #[.int .i64 ep,.int .i64 (lg:Int),.slice A n c])/\Below w.heap.size w wx/\Hid (∀x∈ai sv,w.heap.size+1<=x)) (λsv _=>44-lenV sv)
   case atStart=>exact⟨0,by omega,by simpa using SS.o,C,OO.o,F⟩
   case round=>
    obtain⟨j,hj,S,C,O,F⟩:=hrel;obtain⟨VB,vb,rfl⟩:=au S
    by_cases h:j<30
    .have h1:(14:Int)+(j:Int)<44:=by omega
     have h2:14+j<44:=by omega
     have h3:((14+j:Nat):Int)<44:=by omega
     obtain⟨v8,w8,ea,S8,o8,f8⟩:=cQ (P:=prog) S 150 150 (.int .u8 0) 1 underlying150 jy.eA rfl (.int .u8 0) rfl (by unfold maxLen;omega) (by omega);obtain⟨V8,c8,rfl⟩:=au S8;have EA:=xh ea;have S9:=xh (show aT w8 5 1 (.slice V8 (14+(j+1)) c8) (14+(j+1)) (dI (M++List.replicate (j+1) 0))from by
      rw[qM,<-cr,cP];exact S8)
     have O8:=xh (O.trans (o8.aI O.size (λx hx=>by have:=F.o x hx;omega)));have C8:=xh (C.o.only o8 (λhx=>by have:=F.o _ hx;omega));have F8:=xh (show ∀x∈ai (.slice V8 (14+(j+1)) c8),w.heap.size+1<=x from λx hx=>(f8 x hx).elim (F.o x) (λh=>by have:=C.o.lt;omega));clear ea S8 o8 f8 S O;go_wp2_with fail;rw[EA.o];go_wp2_with fail;go_roundw
     case rel=>exact⟨_,_,_,_,_,_,_,⟨j+1,by omega,S9.o,C8,O8.o,F8⟩,rfl⟩
     case measure=>simp[lenV];omega
    .obtain rfl:j=30:=by omega
     have h2:¬((14+30:Nat):Int)<44:=by omega
     rw[HM.o]at S;obtain⟨gB,cap,rest,hv,BB,_,_⟩:=S.form (by omega) (by omega);simp only[Value.slice.injEq,true_and]at hv;obtain⟨rfl,rfl⟩:=hv;have ST:=xh (cg (P:=prog) wr 150 9 5 underlying150 underlying5 underlying9 ⟨gB,0,none⟩ 44 vb (nm lg l) (by have:=S.1;simpa using this) (bq BB 0 _ (by intro j u hu;rw[bg];exact bF (aS.1 hu).1▸hu)))
     have oh:(nm lg l).length=44:=by have:=S.1;simpa using this
     obtain⟨T,hT⟩:∃T:ByteArray,(⟨(nm lg l).toArray⟩:ByteArray)=T:=⟨_,rfl⟩;have hTz:T.size=44:=by rw[<-hT];show(nm lg l).toArray.size=44;simpa using oh
     have Jq:T.data.toList=nm lg l:=by rw[<-hT]
     rw[hT]at ST;have KY:=xh (jy.yv T wr (by omega));rw[Jq]at KY;have OO9:=xh O;have hlen48:(jy.bH (nm lg l)).length=48:=by unfold jy.bH;simp[jy.jl,oh]
     have x6:(fE ep).length=8:=by unfold fE vr;rw[oH]
     obtain⟨L,hL⟩:∃L:ByteArray,(⟨(jy.bH (nm lg l)).toArray⟩:ByteArray)=L:=⟨_,rfl⟩;obtain⟨PI,hPI⟩:∃L:ByteArray,(⟨(fE ep).toArray⟩:ByteArray)=L:=⟨_,rfl⟩;have hLz:L.size=48:=by rw[<-hL];show(jy.bH (nm lg l)).toArray.size=48;simpa using hlen48
     have hPz:PI.size=8:=by rw[<-hPI];show(fE ep).toArray.size=8;simpa using x6
     have Tb:=xh (show PI++L++PI=(⟨(eX ep lg l).toArray⟩:ByteArray)from by
      rw[<-hL,<-hPI];apply mr;apply rP.1;unfold eX;simp)
     rw[hL]at KY;have KI:=xh (λw=>I_any ep (by have:=HR.o.1;omega) HR.o.2.1 w);rw[hPI]at KI;clear S O BB hT Jq hL hPI oh hTz;go_wp2_with fail;rw[ST.o];go_wp2_with fail;refine KY.o.mono ?_;rintro e w9 ⟨rfl,hb9⟩;have O9:=xh (aB OO9.o hb9);have B9:=xh (C.o.below hb9 C.o.lt);clear hb9;go_wp2_with fail
     have HK:=xh (show ∀W',Below w9.heap.size w9 W'->W'.cell? ⟨w.heap.size,0,none⟩=some (.int .i64 ep)from λW' ho=>(B9.o.below ho B9.o.lt).ab (i:=0) rfl);have OD:=xh ((Below.refl w9.heap.size w9).drew);have z1:¬9223372036854775807<PI.size+L.size:=by omega
     have z2:¬9223372036854775807<PI.size+L.size+PI.size:=by omega
     clear hLz hPz;refine wp_region_held_drew (S:=λW'=>W'.cell? ⟨w.heap.size,0,none⟩=some (.int .i64 ep)) (by kernel_rfl) (HK.o _ OD.o) (λah=>?_);refine bM [(0,40),(1,41),(3,43),(5,45),(6,46)] ?_
     iterate 5 refine aG ?_
     refine bY 2 42 λK hK=>?_;go_simp
     go_at_call 88
     refine(KI.o _).mono ?_;rintro r wa ⟨rfl,hba⟩;have Pa:=xh (aB OD.o hba);go_simp;refine aA hK (HK.o _ Pa.o) (λah=>?_);refine bM [(4,44)] ?_
     iterate 1 refine aG ?_
     refine bY 7 47 λK hK=>?_;go_simp
     go_at_call 88
     refine(KI.o _).mono ?_;rintro r wb ⟨rfl,ue⟩;have Pb:=xh (aB Pa.o ue);go_simp;refine aA hK (HK.o _ Pb.o) (λah=>?_);refine bM [(8,48),(9,2),(10,3)] ?_
     iterate 3 refine aG ?_
     refine wpAnyH_done (by kernel_rfl) ?_ _;have OF:=xh (aB O9.o Pb.o);go_wp2_with fail;go_ret2;exact⟨by rw[<-Tb.o];rfl,OF.o⟩
end Rt
namespace Sh
open Go.RowKit Pk Dk Pg
attribute [local go_sem ↓] Go.wp_at_zero Go.wp_at_succ
variable{w:World}{n:Nat}
structure C where
 d:D
 m:List Int
 table:List Int
 bX:List Int
 parts:List Int
 ep:Int
 slot:Int
 broken:Bool
structure X where
 b:Nat
 L:Dk.Loc
 mb:Nat
 mg:Nat
 tv:Value
 ov:Value
 pv:Value
def X.fp(x:X):List Nat:=x.b::x.mb::x.mg::(x.L.fp++cw x.tv++cw x.ov++cw x.pv)
def dm(l:List Int):List Value:=l.map (Value.int .i64)
@[simp] theorem nvs'_length(l:List Int):(dm l).length=l.length:=by simp[dm]
theorem pU(l:List Int)(k:Nat)(h:k<l.length):(dm l)[k]?=some (.int .i64 (l.getD k 0)):=by simp[dm,aL h]
theorem Tc(l:List Int):∀u∈dm l,u.oneCell'=true:=by
 intro u hu;obtain⟨x,_,rfl⟩:=dC.1 hu;rfl
theorem Td(l:List Int)(k:Nat)(x:Int):(dm l).set k (.int .i64 x)=dm (l.set k x):=by simp[dm,qJ]
theorem gi(l m:List Int):dm (l++m)=dm l++dm m:=by simp[dm]
def EH(x:X)(c:C):Array Value:= #[dp x.L.b,Fm.mp x.mb,x.tv,x.ov,x.pv,.int .i64 c.ep,.int .i64 c.slot,.bool c.broken]
def Pl(w:World)(v:Value)(n:Nat)(l:List Value):Prop:=Sl w 3 v n l\/(l.length=n/\∃g cap rest,v=.slice (some ⟨g,0,none⟩) n cap/\n<=cap/\0<cap/\aJ w g 231 (l++rest).toArray)
section
variable{w w':World}{v:Value}{n:Nat}{l:List Value}{S:List Nat}
theorem Pl.only(h:Pl w v n l)(ho:ag S w w')(hd:∀g∈cw v,g∉S):Pl w' v n l:=by
 rcases h with h|⟨hl,g,cap,rest,rfl,h1,h2,B⟩
 .exact .inl (h.only ho hd)
 .exact .inr ⟨hl,g,cap,rest,rfl,h1,h2,B.only ho (hd g (by simp[cw];omega))⟩
theorem Pl.own(h:Pl w v n l):∀g∈cw v,∃t cs,(t=3\/t=231)/\aJ w g t cs:=by
 intro g hg
 rcases h with S|⟨hl,g',cap,rest,rfl,h1,h2,B⟩
 .rcases S.2 with⟨A,rfl,_⟩|⟨g',cap,rest,rfl,h0,B,_⟩
  .cases A<;>simp[cw]at hg
  .simp[cw]at hg;rw[hg.2];exact⟨_,_,.inl rfl,B⟩
 .simp[cw]at hg;rw[hg.2];exact⟨_,_,.inr rfl,B⟩
theorem Pl.lt(h:Pl w v n l):∀g∈cw v,g<w.heap.size:=λg hg=>by
 obtain⟨t,cs,_,B⟩:=h.own g hg;exact B.lt
theorem Pl.val(h:Pl w v n l):∃A c,v=.slice A n c/\n<=c:=by
 rcases h with h|⟨hl,g,cap,rest,rfl,h1,h2,B⟩
 .exact h.val
 .exact⟨_,cap,rfl,h1⟩
theorem Pl.form(h:Pl w v n l)(hn:0<n):∃g cap rest,v=.slice (some ⟨g,0,none⟩) n cap/\(∃t,aJ w g t (l++rest).toArray)/\n<=cap/\l.length=n:=by
 rcases h with h|⟨hl,g,cap,rest,rfl,h1,h2,B⟩
 .obtain⟨g,cap,rest,h1,h2,h3,h4⟩:=h.form hn;exact⟨g,cap,rest,h1,⟨_,h2⟩,h3,h.1⟩
 .exact⟨g,cap,rest,rfl,⟨_,B⟩,h1,hl⟩
theorem Pl.aW(h:Pl w v n l){b:Nat}{t:TypeId}{cs:Array Value}(B:aJ w b t cs)(h1:t≠3)(h2:t≠231):b∉cw v:=λhb=>by
 obtain⟨t',cs',ht,B'⟩:=h.own b hb
 rcases ht with rfl|rfl
 .exact B.k7 B' h1 rfl
 .exact B.k7 B' h2 rfl
end
structure At(w:World)(x:X)(n:Nat)(c:C):Prop where
 hb:aJ w x.b 146 (EH x c)
 hd:aZ w x.L n c.d
 hm:Fm.dE w x.mb x.mg c.m
 ht:Sl w 3 x.tv c.table.length (dm c.table)
 ho:Sl w 3 x.ov c.bX.length (dm c.bX)
 hp:Pl w x.pv c.parts.length (dm c.parts)
 n1:x.mg∉cw x.tv
 n2:x.mg∉cw x.ov
 n3:x.mg∉cw x.pv
 n4:∀g∈cw x.tv,g∉cw x.ov
 n5:∀g∈cw x.tv,g∉cw x.pv
 n6:∀g∈cw x.ov,g∉cw x.pv
 tl:c.table.length<=512
section
variable{w w':World}{x:X}{n:Nat}{c:C}{S:List Nat}
theorem At.only(h:At w x n c)(ho:ag S w w')(hd:∀g∈x.fp,g∉S):At w' x n c:=
 ⟨h.hb.only ho (hd _ (by simp[X.fp])),h.hd.only ho (λg hg=>hd g (by simp[X.fp,hg])),h.hm.only ho (hd _ (by simp[X.fp])) (hd _ (by simp[X.fp])),
  h.ht.only ho (λg hg=>hd g (by simp[X.fp,hg])),h.ho.only ho (λg hg=>hd g (by simp[X.fp,hg])),h.hp.only ho (λg hg=>hd g (by simp[X.fp,hg])),h.n1,h.n2,h.n3,h.n4,h.n5,h.n6,h.tl⟩
theorem At.below(h:At w x n c)(hb:Below w.heap.size w w'):At w' x n c:=h.only (S:=[]) (.aj hb) (by simp)
theorem At.drew(h:At w x n c):At w.drew x n c:=h.below ((Below.refl _ _).drew)
theorem At.drewN(h:At w x n c)(k:Nat):At (w.drewN k) x n c:=h.below (dS (Below.refl _ _) k)
theorem At.lt(h:At w x n c):∀g∈x.fp,g<w.heap.size:=by
 intro g hg;simp only[X.fp,an,aC]at hg
 rcases hg with rfl|rfl|rfl|((hg|hg)|hg)|hg
 .exact h.hb.lt
 .exact h.hm.hb.lt
 .exact h.hm.hg.lt
 .exact h.hd.lt g hg
 .exact h.ht.lt g hg
 .exact h.ho.lt g hg
 .exact h.hp.lt g hg
theorem At.f0(h:At w x n c):w.cell? ⟨x.b,0,none⟩=some (dp x.L.b):=h.hb.ab rfl
theorem At.f1(h:At w x n c):w.cell? ⟨x.b,1,none⟩=some (Fm.mp x.mb):=h.hb.ab rfl
theorem At.f2(h:At w x n c):w.cell? ⟨x.b,2,none⟩=some x.tv:=h.hb.ab rfl
theorem At.f3(h:At w x n c):w.cell? ⟨x.b,3,none⟩=some x.ov:=h.hb.ab rfl
theorem At.f4(h:At w x n c):w.cell? ⟨x.b,4,none⟩=some x.pv:=h.hb.ab rfl
theorem At.f5(h:At w x n c):w.cell? ⟨x.b,5,none⟩=some (.int .i64 c.ep):=h.hb.ab rfl
theorem At.f6(h:At w x n c):w.cell? ⟨x.b,6,none⟩=some (.int .i64 c.slot):=h.hb.ab rfl
theorem At.f7(h:At w x n c):w.cell? ⟨x.b,7,none⟩=some (.bool c.broken):=h.hb.ab rfl
theorem At.fz(h:At w x n c)(i:Nat)(hi:i<8):w.frozen? ⟨x.b,i,none⟩=false:=h.hb.frozen i (by simpa [EH]using hi)
theorem At.tk(h:At w x n c)(k:Nat)(hk:k<c.table.length):∃g cp,x.tv=.slice (some ⟨g,0,none⟩) c.table.length cp/\w.cell? ⟨g,k,none⟩=some (.int .i64 (c.table.getD k 0)):=by
 obtain⟨g,cp,rest,hv,B,_,_⟩:=h.ht.form (by omega);refine⟨g,cp,hv,B.ab ?_⟩;rw[dj,bF (by simpa using hk),pU _ _ hk]
theorem At.BL(h:At w x n c){d':D}(hd:aZ w' x.L n d')(ho:ag x.L.fp w w'):At w' x n {c with d:=d'}:=by
 have ne:∀g∈x.L.fp,∀{t:TypeId} {cs:Array Value} {b:Nat},aJ w b t cs->t≠149->t≠152->t≠4->b∉x.L.fp:=by
  intro g hg t cs b B h1 h2 h3 hm;simp only[Loc.fp,an,gX,or_false]at hm
  rcases hm with rfl|rfl|rfl|rfl
  .exact h1 (B.inj h.hd.hb).1
  .exact h2 (B.inj h.hd.hN).1
  .exact h2 (B.inj h.hd.hO).1
  .exact h3 (B.inj h.hd.hL).1
 have nb:∀{t:TypeId} {cs:Array Value} {b:Nat},aJ w b t cs->t≠149->t≠152->t≠4->b∉x.L.fp:=λB h1 h2 h3=>ne x.L.b (by simp[Loc.fp]) B h1 h2 h3;have ns:∀{v:Value} {k:Nat} {l:List Value},Sl w 3 v k l->∀g∈cw v,g∉x.L.fp:=by
  intro v k l S g hg
  rcases S.2 with⟨A,rfl,_⟩|⟨g',cap,rest,rfl,h0,B,_⟩
  .cases A<;>simp[cw]at hg
  .simp[cw]at hg;rw[hg.2];exact nb B (by decide) (by decide) (by decide)
 have np:∀g∈cw x.pv,g∉x.L.fp:=λg hg=>by
  obtain⟨t,cs,ht,B⟩:=h.hp.own g hg
  rcases ht with rfl|rfl
  .exact nb B (by decide) (by decide) (by decide)
  .exact nb B (by decide) (by decide) (by decide)
 exact⟨h.hb.only ho (nb h.hb (by decide) (by decide) (by decide)),hd,h.hm.only ho (nb h.hm.hb (by decide) (by decide) (by decide)) (nb h.hm.hg (by decide) (by decide) (by decide)),h.ht.only ho (ns h.ht),h.ho.only ho (ns h.ho),h.hp.only ho np,h.n1,h.n2,h.n3,h.n4,h.n5,h.n6,h.tl⟩
theorem At.map(h:At w x n c){m':List Int}(hm:Fm.dE w' x.mb x.mg m')(ho:ag [x.mg] w w'):At w' x n {c with m:=m'}:=by
 have nb:∀{t:TypeId} {cs:Array Value} {b:Nat},aJ w b t cs->t≠3->b∉[x.mg]:=by
  intro t cs b B h1 hm;simp at hm;subst hm;exact h1 (B.inj h.hm.hg).1
 refine⟨h.hb.only ho (nb h.hb (by decide)),h.hd.only ho ?_,hm,h.ht.only ho ?_,h.ho.only ho ?_,h.hp.only ho ?_,h.n1,h.n2,h.n3,h.n4,h.n5,h.n6,h.tl⟩
 .intro g hg;simp only[Loc.fp,an,gX,or_false]at hg
  rcases hg with rfl|rfl|rfl|rfl
  .exact nb h.hd.hb (by decide)
  .exact nb h.hd.hN (by decide)
  .exact nb h.hd.hO (by decide)
  .exact nb h.hd.hL (by decide)
 .intro g hg hm;simp at hm;subst hm;exact h.n1 hg
 .intro g hg hm;simp at hm;subst hm;exact h.n2 hg
 .intro g hg hm;simp at hm;subst hm;exact h.n3 hg
end
def sp(b:Nat):Value:= .pointer (some ⟨b,0,none⟩)
def fi(n:Nat):Nat:=min (cB n) 1024
def C.fJ(c:C):Int:=if c.broken then 13 else 0
def C.rI(c:C)(l:Int):Bool:=decide (0<=l) && decide (l<c.table.length) && decide (0<=c.table.getD l.toNat 0)
def C.jM(c:C)(l:Int):Int:=if c.broken then 13 else if c.rI l then 0 else 3
theorem PD{L:Dk.Loc}{d:D}(h:aZ w L n d):
  Calls prog 82 #[dp L.b] w λe w'=>e=.returned (.int .i64 (fi n:Nat))/\w=w':=by
 have K:=xh (nI h);have hm:((cB n:Nat):Int)<=1024:=by have:=h.ok.small;unfold cB;omega
 have HP:=xh (show((fi n:Nat):Int)=((cB n:Nat):Int)from by unfold fi;omega);generalize cB n=mn at *;unfold dp at *;go_enter func82,ntmps82;go_wp2_with fail;refine K.o.mono ?_;rintro e w1 ⟨rfl,rfl⟩;go_wp2_with fail
 all_goals
  go_ret;refine⟨?_,rfl⟩;rw[HP.o]
  first|(simp;done)|(simp;omega)
theorem jg{x:X}{c:C}(h:At w x n c):
  Calls prog 148 #[sp x.b] w λe w'=>e=.returned (.int .i64 c.fJ)/\w=w':=by
 have f7:=h.f7;unfold sp C.fJ;clear h
 cases hb:c.broken
 all_goals
  rw[hb]at f7;clear hb;go_enter func148,ntmps148;go_wp2_with fail;go_ret;exact aE rfl
variable{w:World}{x:X}{n:Nat}
theorem pR{c:C}(h:At w x n c)(l:Int):
  Calls prog 191 #[sp x.b,.int .i64 l] w λe w'=>e=.returned (.int .i64 (c.jM l))/\w=w':=by
 have K:=jg h;have f2:=h.f2;obtain⟨TA,tc,tF,htc⟩:=h.ht.val;rw[tF]at f2;have HR:=xh (show ∀r,c.jM l=r->c.jM l=r from λr h=>h);have tl:=h.tl
 by_cases hb:c.broken=true
 .have hw:c.fJ=13:=by unfold C.fJ;rw[if_pos hb]
  have HA:=xh (show c.jM l=13 from by unfold C.jM;rw[if_pos hb]);rw[hw]at K;have K:=xh K;clear h hb hw;generalize c.jM l=r at *;unfold sp at *;go_enter func191,ntmps191;go_wp2_with fail;refine K.o.mono ?_;rintro e w1 ⟨rfl,rfl⟩;go_wp2_with fail;go_ret;exact⟨by rw[HA.o];first|rfl|simp,rfl⟩
 .have hw:c.fJ=0:=by unfold C.fJ;rw[if_neg hb]
  rw[hw]at K;have K:=xh K
  by_cases h1:l<0
  .have HA:=xh (show c.jM l=3 from by unfold C.jM C.rI;rw[if_neg hb];simp;omega);clear h hb hw;generalize c.jM l=r at *;unfold sp at *;go_enter func191,ntmps191;go_wp2_with fail;refine K.o.mono ?_;rintro e w1 ⟨rfl,rfl⟩;go_wp2_with fail;go_ret;exact⟨by rw[HA.o];first|rfl|simp,rfl⟩
  .obtain⟨k,rfl⟩:=eT (show 0<=l by omega)
   by_cases h2:k<c.table.length
   .obtain⟨g,cp,hv,hk⟩:=h.tk k h2;rw[hv]at tF;injection tF with ht1 ht2 ht3
    subst ht1 ht3;obtain⟨v,Nu⟩:∃v,c.table.getD k 0=v:=⟨_,rfl⟩;rw[Nu]at hk;have Te:¬(c.table.length:Int)<=(k:Int):=by omega
    have h2J:(k:Int)<(c.table.length:Int):=by omega
    by_cases h3:v<0
    .have ht:c.table.getD ((k:Nat):Int).toNat 0=v:=by rw[show((k:Nat):Int).toNat=k from by omega];exact Nu
     have HA:=xh (show c.jM k=3 from by unfold C.jM C.rI;rw[if_neg hb,ht,if_neg (by simp only[im,decide_eq_true_eq];omega)]);clear ht;clear h hb hw hv Nu;generalize c.jM k=r at *;generalize c.table.length=tn at *;unfold sp at *;go_enter func191,ntmps191;go_wp2_with fail;refine K.o.mono ?_;rintro e w1 ⟨rfl,rfl⟩;go_wp2_with fail;go_ret;exact⟨by rw[HA.o];first|rfl|simp,rfl⟩
    .have HA:=xh (show c.jM k=0 from by
      have ht:c.table.getD ((k:Nat):Int).toNat 0=v:=by rw[show((k:Nat):Int).toNat=k from by omega];exact Nu
      have hh:c.rI k=true:=by unfold C.rI;rw[ht];simp only[im,decide_eq_true_eq];omega
      unfold C.jM;rw[if_neg hb,if_pos hh])
     clear h hb hw hv Nu;generalize c.jM k=r at *;generalize c.table.length=tn at *;unfold sp at *;go_enter func191,ntmps191;go_wp2_with fail;refine K.o.mono ?_;rintro e w1 ⟨rfl,rfl⟩;go_wp2_with fail;go_ret;exact⟨by rw[HA.o];first|rfl|simp,rfl⟩
   .have HA:=xh (show c.jM k=3 from by unfold C.jM C.rI;rw[if_neg hb];simp;omega);have Te:(c.table.length:Int)<=(k:Int):=by omega
    clear h hb hw;generalize c.jM k=r at *;generalize c.table.length=tn at *;unfold sp at *;go_enter func191,ntmps191;go_wp2_with fail;refine K.o.mono ?_;rintro e w1 ⟨rfl,rfl⟩;go_wp2_with fail;go_ret;exact⟨by rw[HA.o];first|rfl|simp,rfl⟩
theorem jf{c:C}(h:At w x n c)(id kind:Int)(s:ByteArray)(hid:id<=9223372036854775807)(Gf:0<=c.ep/\c.ep<=1099511627776)(hc:c.d.calls<=3999999999999999990)(hr:c.d.bt<=9223372036854775807):
  Calls prog 193 #[sp x.b,.int .i64 id,.int .i64 kind,.string s] w λe w'=>e=.returned (.int .i64 (bs c.d n id (c.ep+1) kind s.data.toList).2)/\At w' x n {c with d:=(bs c.d n id (c.ep+1) kind s.data.toList).1}/\ag x.L.fp w w':=by
 have KPW:=J3 (w:=w.drew) h.hd.drew id (c.ep+1) kind s hid hc hr;have HD:=xh (λ(w':World) (hd:aZ w' x.L n (bs c.d n id (c.ep+1) kind s.data.toList).1) (ho:ag x.L.fp w.drew w')=>At.BL h.drew hd ho);have f0:=h.f0;have f5:=h.f5;have q1:IntKind.i64.wrap (c.ep+1)=c.ep+1:=IntWalk.i64_in _ (by omega);have HK:=xh (show w.drew.cell? ⟨x.b,0,none⟩=some (dp x.L.b)/\w.drew.cell? ⟨x.b,5,none⟩=some (.int .i64 c.ep)from⟨f0,f5⟩)
 have HP:=xh (show ∀w',ag x.L.fp w.drew w'->(w'.cell? ⟨x.b,0,none⟩=some (dp x.L.b)/\w'.cell? ⟨x.b,5,none⟩=some (.int .i64 c.ep))from λw' ho=>by
  have B:=h.hb.drew.only ho (λhm=>by
   simp only[Loc.fp,an,gX,or_false]at hm
   rcases hm with hm|hm|hm|hm
   .exact h.hb.k7 h.hd.hb (by decide) hm
   .exact h.hb.k7 h.hd.hN (by decide) hm
   .exact h.hb.k7 h.hd.hO (by decide) hm
   .exact h.hb.k7 h.hd.hL (by decide) hm)
  exact⟨B.ab (i:=0) rfl,B.ab (i:=5) rfl⟩)
 clear h;generalize (bs c.d n id (c.ep+1) kind s.data.toList).2=er at *;generalize (bs c.d n id (c.ep+1) kind s.data.toList).1=d2 at *;generalize c.ep=ep at *;unfold sp dp jn at *;have KPW:=xh KPW;go_enter func193,ntmps193;go_wp2_with fail;refine wp_region_held_drew (S:=λW'=>W'.cell? ⟨x.b,0,none⟩=some (.pointer (some ⟨x.L.b,0,none⟩))/\W'.cell? ⟨x.b,5,none⟩=some (.int .i64 ep)) (by kernel_rfl) (HK.o) (λah=>?_)
 refine bM [(0,9),(1,10),(2,11),(3,12),(4,13),(5,14),(6,15),(7,16),(8,17),(9,18),(10,19),(11,20),(12,21)] ?_
 iterate 13 refine aG ?_
 refine bY 13 22 λK hK=>?_;go_simp
 go_at_call 225
 refine KPW.o.mono ?_;rintro e w1 ⟨rfl,dd,ow⟩;have DV:=xh dd;have OW:=xh ow;clear dd ow;go_simp;refine aA hK (HP.o _ OW.o) (λah=>?_);refine bM [(14,8)] ?_
 iterate 1 refine aG ?_
 refine wpAnyH_done (by kernel_rfl) ?_ _;go_wp2_with fail;go_ret;exact aE ⟨HD.o _ DV.o OW.o,(ag.refl _ w).drew.trans OW.o⟩
def C.ct(c:C)(n:Nat)(p:List UInt8):C×Int×Int:=
 if(Fm.cR c.m).2.2≠0 then({c with m:=(Fm.cR c.m).1},0,(Fm.cR c.m).2.2)
 else if(bs c.d n (Fm.cR c.m).2.1 (c.ep+1) 2 p).2≠0 then({c with m:=(Fm.dD (Fm.cR c.m).1 (Fm.cR c.m).2.1).1,d:=(bs c.d n (Fm.cR c.m).2.1 (c.ep+1) 2 p).1},0,(bs c.d n (Fm.cR c.m).2.1 (c.ep+1) 2 p).2)
 else({c with m:=(Fm.cR c.m).1,d:=(bs c.d n (Fm.cR c.m).2.1 (c.ep+1) 2 p).1},(Fm.cR c.m).2.1,0)
theorem Tf(m:List Int)(h:m.length<=1024):(Fm.cR m).2.1<=1024/\0<=(Fm.cR m).2.1:=by
 unfold Fm.cR
 split
 .exact⟨by show(Fm.de m 0:Int)<=_;omega,by show(0:Int)<=(Fm.de m 0:Int);omega⟩
 .exact⟨by show(0:Int)<=_;omega,by show(0:Int)<=0;omega⟩
theorem rQ(x:X):∀g∈[x.mg],g∈x.fp:=by intro g hg;simp at hg;subst hg;simp[X.fp]
theorem GM(x:X):∀g∈x.L.fp,g∈x.fp:=by intro g hg;simp[X.fp,hg]
theorem qX{c:C}(h:At w x n c)(s:ByteArray)(Gf:0<=c.ep/\c.ep<=1099511627776)(hc:c.d.calls<=3999999999999999990)(hr:c.d.bt<=9223372036854775807):
  Calls prog 166 #[sp x.b,.string s] w λe w'=>e=.returned (.tuple #[.int .i64 (c.ct n s.data.toList).2.1,.int .i64 (c.ct n s.data.toList).2.2])/\At w' x n (c.ct n s.data.toList).1/\ag x.fp w w':=by
 have KT:=Fm.tX h.hm;have HT:=xh (λ(w':World) (hm:Fm.dE w' x.mb x.mg (Fm.cR c.m).1) (ho:ag [x.mg] w w')=>At.map h hm ho);have oh:c.m.length<=1024:=h.hm.hl;have hid:=Tf c.m oh;have f1:=h.f1;obtain⟨R,hR⟩:∃R,c.ct n s.data.toList=R:=⟨_,rfl⟩;rw[hR];unfold C.ct at hR
 by_cases h1:(Fm.cR c.m).2.2=0
 .rw[if_neg (by simpa using h1)]at hR;rw[h1]at KT;generalize (Fm.cR c.m).2.1=id at *;generalize (Fm.cR c.m).1=m1 at *;have KP:=xh (λ(w':World) (hh:At w' x n {c with m:=m1})=>jf hh id 2 s (by omega) Gf hc hr);dsimp only at KP
  by_cases h2:(bs c.d n id (c.ep+1) 2 s.data.toList).2=0
  .rw[if_neg (by simpa using h2)]at hR;rw[h2]at KP;subst hR;generalize (bs c.d n id (c.ep+1) 2 s.data.toList).1=d1 at *;have KT:=xh KT;clear h h1 h2;unfold sp Fm.mp at *;go_enter func166,ntmps166;go_wp2_with fail;refine KT.o.mono ?_;rintro e w1 ⟨rfl,mm,ow⟩;have A1:=xh (HT.o _ mm ow);have O1:=xh ow;clear mm ow;go_wp2_with fail;refine(KP.o _ A1.o).mono ?_;rintro e w2 ⟨rfl,aa,ow⟩;have A2:=xh aa
   have O2:=xh ((O1.o.mono (λg hg _=>rQ x g hg)).trans (ow.mono (λg hg _=>GM x g hg)));clear aa ow;go_wp2_with fail;go_ret2;exact aE ⟨A2.o,O2.o⟩
  .rw[if_pos h2]at hR;subst hR;have hq:((bs c.d n id (c.ep+1) 2 s.data.toList).2 != 0)=true:=by rw[bne_iff_ne];exact h2
   generalize (bs c.d n id (c.ep+1) 2 s.data.toList).1=d1 at *;generalize (bs c.d n id (c.ep+1) 2 s.data.toList).2=er at *;have KT:=xh KT;clear h h1 h2;unfold sp Fm.mp at *;go_enter func166,ntmps166;go_wp2_with fail;refine KT.o.mono ?_;rintro e w1 ⟨rfl,mm,ow⟩;have A1:=xh (HT.o _ mm ow);have O1:=xh ow;clear mm ow;go_wp2_with fail;refine(KP.o _ A1.o).mono ?_;rintro e w2 ⟨rfl,aa,ow⟩;have A2:=xh aa
   have O2:=xh ((O1.o.mono (λg hg _=>rQ x g hg)).trans (ow.mono (λg hg _=>GM x g hg)));have f1':=aa.f1;have KL:=Fm.qV aa.hm id;dsimp only at KL;have KL:=xh KL;unfold Fm.mp at *;clear aa ow;go_wp2_with fail;refine KL.o.mono ?_;rintro e w3 ⟨rfl,mm,ow⟩;have A3:=xh (A2.o.map mm ow);have O3:=xh (O2.o.trans (ow.mono (λg hg _=>rQ x g hg)));clear mm ow;go_wp2_with fail;go_ret2;exact aE ⟨A3.o,O3.o⟩
 .rw[if_pos h1]at hR;subst hR;have hq:((Fm.cR c.m).2.2 != 0)=true:=by rw[bne_iff_ne];exact h1
  generalize (Fm.cR c.m).2.1=id at *;generalize (Fm.cR c.m).2.2=er at *;generalize (Fm.cR c.m).1=m1 at *;have KT:=xh KT;clear h h1;unfold sp Fm.mp at *;go_enter func166,ntmps166;go_wp2_with fail;refine KT.o.mono ?_;rintro e w1 ⟨rfl,mm,ow⟩;have A1:=xh (HT.o _ mm ow);have O1:=xh (ow.mono (S':=x.fp) (λg hg _=>rQ x g hg));clear mm ow;go_wp2_with fail;go_ret2;exact aE ⟨A1.o,O1.o⟩
variable{v:Value}{k:Nat}{l:List Value}
section
variable{w w':World}{x:X}{n:Nat}{c:C}
theorem vC(S:Sl w 3 v k l):∀g∈cw v,∃cs,aJ w g 3 cs:=by
 intro g hg
 rcases S.2 with⟨A,rfl,_⟩|⟨g',cap,rest,rfl,h0,B,_⟩
 .cases A<;>simp[cw]at hg
 .simp[cw]at hg;rw[hg.2];exact⟨_,B⟩
theorem At.EI(h:At w x n c)(S:Sl w 3 v k l):x.b∉cw v/\x.mb∉cw v/\∀g∈x.L.fp,g∉cw v:=by
 refine⟨λhg=>?_,λhg=>?_,λg hgL hg=>?_⟩
 .obtain⟨cs,B⟩:=vC S _ hg;exact h.hb.k7 B (by decide) rfl
 .obtain⟨cs,B⟩:=vC S _ hg;exact h.hm.hb.k7 B (by decide) rfl
 .obtain⟨cs,B⟩:=vC S _ hg;simp only[Loc.fp,an,gX,or_false]at hgL
  rcases hgL with rfl|rfl|rfl|rfl
  .exact h.hd.hb.k7 B (by decide) rfl
  .exact h.hd.hN.k7 B (by decide) rfl
  .exact h.hd.hO.k7 B (by decide) rfl
  .exact h.hd.hL.k7 B (by decide) rfl
theorem At.iQ(h:At w x n c)(k:Nat)(hk:k<c.table.length)(u:Int):∃g cp,x.tv=.slice (some ⟨g,0,none⟩) c.table.length cp/\w.cell? ⟨g,k,none⟩=some (.int .i64 (c.table.getD k 0))/\w.frozen? ⟨g,k,none⟩=false/\
  At (w.setCell ⟨g,k,none⟩ (.int .i64 u)) x n {c with table:=c.table.set k u}/\ag x.fp w (w.setCell ⟨g,k,none⟩ (.int .i64 u)):=by
 obtain⟨g,cp,hv,S,hg,z,ow⟩:=h.ht.bE k hk (.int .i64 u);obtain⟨g',cp',Ry,ck⟩:=h.tk k hk;rw[hv]at Ry;injection Ry with e1 e2 e3
 injection e1 with e1
 injection e1 with e1
 subst e1;have ne:=h.EI h.ht;rw[hg]at ne;refine⟨g,cp,hv,ck,z,⟨h.hb.only ow ne.1,h.hd.only ow ne.2.2,h.hm.only ow ne.2.1 (by rw[<-hg];exact h.n1),?_,h.ho.only ow (λy hy hm=>h.n4 y (by rw[hg];exact hm) hy),h.hp.only ow (λy hy hm=>h.n5 y (by rw[hg];exact hm) hy),h.n1,h.n2,h.n3,h.n4,h.n5,h.n6,by show(c.table.set k u).length<=512;rw[bW];exact h.tl⟩,ow.mono (λy hy _=>by
  have:y∈cw x.tv:=by rw[hg];exact hy
  simp[X.fp,this])⟩
 show Sl _ _ x.tv (c.table.set k u).length (dm (c.table.set k u));rw[bW,<-Td];exact S
theorem At.addT(h:At w x n c)(u:Int){v':Value}(S:Sl w' 3 v' (c.table.length+1) (dm (c.table++[u])))(ow:ag (cw x.tv) w w')(fr:∀g∈cw v',g∈cw x.tv\/w.heap.size<=g)(hl:c.table.length+1<=512):
  w'.cell? ⟨x.b,2,none⟩=some x.tv/\w'.frozen? ⟨x.b,2,none⟩=false/\At (w'.setCell ⟨x.b,2,none⟩ v') {x with tv:=v'} n {c with table:=c.table++[u]}/\ag x.fp w (w'.setCell ⟨x.b,2,none⟩ v')/\∀g∈({x with tv:=v'}:X).fp,g∈x.fp\/w.heap.size<=g:=by
 have ne:=h.EI h.ht;have B1:=h.hb.only ow ne.1;have B2:aJ (w'.setCell ⟨x.b,2,none⟩ v') x.b 146 #[dp x.L.b,Fm.mp x.mb,v',x.ov,x.pv,.int .i64 c.ep,.int .i64 c.slot,.bool c.broken]:=B1.bE 2 v';have o2:=(ag.refl [x.b] w').setCell (p:=⟨x.b,2,none⟩) (by simp) v';have D1:=h.hd.only ow ne.2.2;have M1:=h.hm.only ow ne.2.1 h.n1;have O1:=h.ho.only ow (λy hy hm=>h.n4 y hm hy);have P1:=h.hp.only ow (λy hy hm=>h.n5 y hm hy)
 have hbn:∀{t:TypeId} {cs:Array Value} {b:Nat},aJ w' b t cs->t≠146->b∉[x.b]:=by
  intro t cs b B ff hm;simp at hm;subst hm;exact ff (B.inj B1).1
 have hs:∀{v:Value} {k:Nat} {l:List Value},Sl w' 3 v k l->∀g∈cw v,g∉[x.b]:=λS g hg=>by
  obtain⟨cs,B⟩:=vC S g hg;exact hbn B (by decide)
 refine⟨B1.ab rfl,B1.frozen 2 (by simp[EH]),⟨B2,D1.only o2 ?_,M1.only o2 (hbn M1.hb (by decide)) (hbn M1.hg (by decide)),?_,O1.only o2 (hs O1),P1.only o2 (λg hg hm=>P1.aW B1 (by decide) (by decide) (by rw[<-aQ.1 hm];exact hg)),?_,h.n2,h.n3,?_,?_,h.n6,by show(c.table++[u]).length<=512;rw[aU];exact hl⟩,?_,?_⟩
 .intro g hg;simp only[Loc.fp,an,gX,or_false]at hg
  rcases hg with rfl|rfl|rfl|rfl
  .exact hbn D1.hb (by decide)
  .exact hbn D1.hN (by decide)
  .exact hbn D1.hO (by decide)
  .exact hbn D1.hL (by decide)
 .show Sl _ _ v' (c.table++[u]).length _;rw[aU];exact S.only o2 (hs S)
 .exact λhg=>(fr x.mg hg).elim h.n1 (λJn=>by have:=h.hm.hg.lt;omega)
 .exact λg hg ho=>(fr g hg).elim (λh1=>h.n4 g h1 ho) (λJn=>by have:=h.ho.lt g ho;omega)
 .exact λg hg ho=>(fr g hg).elim (λh1=>h.n5 g h1 ho) (λJn=>by have:=h.hp.lt g ho;omega)
 .exact(ow.mono (λg hg _=>by simp[X.fp,hg])).trans (o2.mono (λg hg _=>by simp at hg;subst hg;simp[X.fp]))
 .intro g hg;simp only[X.fp,an,aC]at hg ⊢
  rcases hg with hg|hg|hg|((hg|hg)|hg)|hg
  .exact .inl (.inl hg)
  .exact .inl (.inr (.inl hg))
  .exact .inl (.inr (.inr (.inl hg)))
  .exact .inl (.inr (.inr (.inr (.inl (.inl (.inl hg))))))
  .exact(fr g hg).imp (λh1=> .inr (.inr (.inr (.inl (.inl (.inr h1)))))) id
  .exact .inl (.inr (.inr (.inr (.inl (.inr hg)))))
  .exact .inl (.inr (.inr (.inr (.inr hg))))
end
theorem Tg{w:World}{l:List Int}(S:Sl w 3 v l.length (dm l))(hl:l.length<=1000000)(k:Int):
  Calls prog 165 #[v,.int .i64 k] w λe w'=>e=.returned (.int .i64 (Fm.kJ l k))/\w=w':=by
 by_cases h0:0<l.length
 .obtain⟨g,cap,rest,rfl,B,hc,_⟩:=S.form h0;exact Fm.qW g l.length cap l rfl hl k w (λj hj=>B.ab (by rw[dj,bF (by simpa using hj),pU _ _ hj]))
 .have hn:l=[]:=lK (by omega);subst hn;obtain⟨A,c,rfl,_⟩:=S.val;have e1:Fm.kJ [] k= -1:=rfl;rw[e1];clear S;simp only[iq];go_enter func165,ntmps165;go_wp2_with fail
  go_loopw [8] (λiv wr=>iv=.int .i64 0/\wr=w) (λ_ _=>0)
  case atStart=>exact⟨rfl,rfl⟩
  case round=>
   obtain⟨rfl,rfl⟩:=hrel;go_wp2_with fail;go_ret;exact aE rfl
def iR(t:List Int):Nat:=Fm.de t (-1)
theorem y9(t:List Int):iR t<=t.length:=by unfold iR Fm.de;exact oo
theorem GN(t:List Int):Fm.kJ t (-1)=if iR t<t.length then(iR t:Int)else -1:=rfl
attribute [local go_sem ↓] bz
variable{w:World}{x:X}{n:Nat}
theorem ji:(prog.info? 3).map (λi=>(i.zero,i.size,i.bytes))=some (some (.int .i64 0),1,8):=by kernel_rfl
def sE(t:List Int)(l:Nat)(u:Int):List Int:=if l=t.length then t++[u]else t.set l u
def C.bV(c:C)(n:Nat)(p:List UInt8):C×Int×Int:=
 if c.broken=true then(c,0,13)
 else if 232<p.length then(c,0,4)
 else if 512<=iR c.table then(c,0,11)
 else if(c.ct n p).2.2≠0 then((c.ct n p).1,0,(c.ct n p).2.2)
 else({(c.ct n p).1 with table:=sE c.table (iR c.table) (c.ct n p).2.1},iR c.table,0)
theorem lV(c:C)(n:Nat)(p:List UInt8):(c.ct n p).1.table=c.table/\(c.ct n p).1.bX=c.bX/\(c.ct n p).1.parts=c.parts/\(c.ct n p).1.ep=c.ep/\(c.ct n p).1.slot=c.slot/\(c.ct n p).1.broken=c.broken:=by
 unfold C.ct
 split
 .exact⟨rfl,rfl,rfl,rfl,rfl,rfl⟩
 .split<;>exact⟨rfl,rfl,rfl,rfl,rfl,rfl⟩
def yb(w w':World)(x:X)(n:Nat)(c':C):Prop:= ∃x',x'.b=x.b/\x'.L=x.L/\At w' x' n c'/\ag x.fp w w'/\∀g∈x'.fp,g∈x.fp\/w.heap.size<=g
theorem yb.self{w':World}{c':C}(h:At w' x n c')(ho:ag x.fp w w'):yb w w' x n c':=⟨x,rfl,rfl,h,ho,λ_ hg=> .inl hg⟩
theorem new_any{c:C}(h:At w x n c)(s:ByteArray)(hs:s.size<=9223372036854775807)(Gf:0<=c.ep/\c.ep<=1099511627776)(hc:c.d.calls<=3999999999999999990)(hr:c.d.bt<=9223372036854775807):
  Calls prog 120 #[sp x.b,.string s] w λe w'=>e=.returned (.tuple #[.int .i64 (c.bV n s.data.toList).2.1,.int .i64 (c.bV n s.data.toList).2.2])/\yb w w' x n (c.bV n s.data.toList).1:=by
 have KW:=jg h;have hl:s.data.toList.length=s.size:=by simp
 obtain⟨R,hR⟩:∃R,c.bV n s.data.toList=R:=⟨_,rfl⟩;rw[hR];unfold C.bV at hR;rw[hl]at hR;have HH:=xh h
 by_cases h1:c.broken=true
 .rw[if_pos h1]at hR;subst hR;rw[show c.fJ=13 from by unfold C.fJ;rw[if_pos h1]]at KW;have KW:=xh KW;clear h h1;unfold sp at *;go_enter func120,ntmps120;go_wp2_with fail;refine KW.o.mono ?_;rintro e w1 ⟨rfl,rfl⟩;go_wp2_with fail;go_ret2;exact aE (.self HH.o (ag.refl _ _))
 rw[if_neg h1]at hR;rw[show c.fJ=0 from by unfold C.fJ;rw[if_neg h1]]at KW;have KW:=xh KW;have KI:=Tg h.ht (by have:=h.tl;omega) (-1);rw[GN]at KI;have Bs:=y9 c.table;have f2:=h.f2;have tl:=h.tl;obtain⟨TA,tc,tF,htc⟩:=h.ht.val;obtain⟨l,Gh⟩:∃l,iR c.table=l:=⟨_,rfl⟩;rw[Gh]at KI hR Bs
 by_cases h2:232<s.size
 .rw[if_pos h2]at hR;subst hR;have Te:(232:Int)<(s.size:Int):=by omega
  by_cases h3:l<c.table.length
  .rw[if_pos h3]at KI;have KI:=xh KI;have h3I:¬(l:Int)<0:=by omega
   clear h h1 h2 tF;unfold sp at *;go_enter func120,ntmps120;go_wp2_with fail;refine KW.o.mono ?_;rintro e w1 ⟨rfl,rfl⟩;go_wp2_with fail;refine KI.o.mono ?_;rintro e w1 ⟨rfl,rfl⟩;go_wp2_with fail;go_ret2;exact aE (.self HH.o (ag.refl _ _))
  .rw[if_neg h3]at KI;have KI:=xh KI;clear h h1 h2;rw[tF]at f2 KI;unfold sp at *;go_enter func120,ntmps120;go_wp2_with fail;refine KW.o.mono ?_;rintro e w1 ⟨rfl,rfl⟩;go_wp2_with fail;refine KI.o.mono ?_;rintro e w1 ⟨rfl,rfl⟩;go_wp2_with fail;go_ret2;exact aE (.self HH.o (ag.refl _ _))
 rw[if_neg h2]at hR;have Te:¬(232:Int)<(s.size:Int):=by omega
 by_cases h4:512<=l
 .rw[if_pos h4]at hR;subst hR;have h3:¬l<c.table.length:=by omega
  have h4I:(512:Int)<=(c.table.length:Int):=by omega
  rw[if_neg h3]at KI;have KI:=xh KI;clear h h1 h2;rw[tF]at f2 KI;unfold sp at *;go_enter func120,ntmps120;go_wp2_with fail;refine KW.o.mono ?_;rintro e w1 ⟨rfl,rfl⟩;go_wp2_with fail;refine KI.o.mono ?_;rintro e w1 ⟨rfl,rfl⟩;go_wp2_with fail;go_ret2;exact aE (.self HH.o (ag.refl _ _))
 rw[if_neg h4]at hR;have KF:=qX h s Gf hc hr;have hft:=lV c n s.data.toList;generalize hF:c.ct n s.data.toList=F at *;obtain⟨c1,id,er⟩:=F;dsimp only at KF hft hR;have KF:=xh KF
 by_cases h5:er=0
 .rw[if_neg (by simpa using h5)]at hR;subst h5;have h4I:¬(512:Int)<=(l:Int):=by omega
  by_cases h3:l<c.table.length
  .rw[if_pos h3]at KI;have KI:=xh KI;have h3I:¬(l:Int)<0:=by omega
   have h3J:((l:Int)==(c.table.length:Int))=false:=by rw[beq_eq_false_iff_ne];omega
   have sD:sE c.table l id=c.table.set l id:=by unfold sE;rw[if_neg (by omega)]
   rw[sD]at hR;subst hR;have HFT:=xh hft;clear h h1 h2 hF sD hft tF;unfold sp at *;go_enter func120,ntmps120;go_wp2_with fail;refine KW.o.mono ?_;rintro e w1 ⟨rfl,rfl⟩;go_wp2_with fail;refine KI.o.mono ?_;rintro e w1 ⟨rfl,rfl⟩;go_wp2_with fail;refine KF.o.mono ?_;rintro e w1 ⟨rfl,aa,ow⟩;have f2':=aa.f2;obtain⟨g,cp,hv,ck,z,A2,o2⟩:=aa.iQ l (by rw[HFT.o.1];exact h3) id;rw[hv,HFT.o.1]at f2'
   have AX:=xh (show At (w1.setCell ⟨g,l,none⟩ (.int .i64 id)) x n {c1 with table:=c.table.set l id}from by rw[<-HFT.o.1];exact A2);have OX:=xh (ow.trans o2);generalize c1.table.getD l 0=ov at ck;clear aa ow A2 o2 hv;clear f2;generalize c.table.length=tn at *;go_wp2_with fail;go_ret2;exact aE (.self AX.o OX.o)
  .obtain rfl:l=c.table.length:=by omega
   rw[if_neg h3]at KI;have sD:sE c.table c.table.length id=c.table++[id]:=by unfold sE;rw[if_pos rfl]
   rw[sD]at hR;subst hR;have HFT:=xh hft;have HTV:=xh tF;rw[tF]at f2 KI;have KI:=xh KI;clear h h1 h2 hF sD hft tF Gh Bs h3 h4;generalize htn:c.table.length=tn at *;have HTN:=xh htn;clear htn;unfold sp at *;go_enter func120,ntmps120;go_wp2_with fail;refine KW.o.mono ?_;rintro e w1 ⟨rfl,rfl⟩;go_wp2_with fail;refine KI.o.mono ?_;rintro e w1 ⟨rfl,rfl⟩;go_wp2_with fail;refine KF.o.mono ?_;rintro e w1 ⟨rfl,aa,ow⟩;have f2':=aa.f2;have St:=aa.ht
   rw[HFT.o.1,HTN.o]at St;obtain⟨v',w2,ea,S2,Rz,Cz⟩:=JV (P:=prog) St 60 60 (.int .i64 0) 8 underlying60 ji rfl (.int .i64 id) rfl (by unfold maxLen;omega) (by omega);rw[show dm c.table++[Value.int .i64 id]=dm (c.table++[id])from by rw[gi];rfl]at S2;obtain⟨gg,ix,rr,rfl,BB,_,_⟩:=S2.form (by omega)
   have w2c:w2.cell? ⟨gg,tn,none⟩=some (.int .i64 id):=BB.ab (by rw[<-HTN.o,dj,bF (by simp),gi,dW (by simp)];simp[dm]);have w2z:w2.frozen? ⟨gg,tn,none⟩=false:=BB.frozen _ (by have:=HTN.o;simp;omega);have hlt1:((tn:Nat):Int)<((tn+1:Nat):Int):=by omega
   have hlt2:tn<tn+1:=by omega
   have hadd:=aa.addT id (by rw[HFT.o.1,HTN.o];exact S2) Rz Cz (by rw[HFT.o.1,HTN.o];omega);obtain⟨g2,z2,A3,o3,fr3⟩:=hadd;rw[HFT.o.1]at A3;obtain⟨g,cp,hv,ck,z,A4,o4⟩:=A3.iQ tn (by show _<(c.table++[id]).length;have:=HTN.o;simp;omega) id;have EJ:(c.table++[id]).set tn id=c.table++[id]:=by
    rw[<-HTN.o,qN _ _ (ak _),fy];rfl
   have A4:At ((w2.setCell ⟨x.b,2,none⟩ (.slice (some ⟨gg,0,none⟩) (tn+1) ix)).setCell ⟨g,tn,none⟩ (.int .i64 id)) {x with tv:= .slice (some ⟨gg,0,none⟩) (tn+1) ix} n {c1 with table:=c.table++[id]}:=by
    have:=A4;dsimp only at this;rw[EJ]at this;exact this
   dsimp only at hv;injection hv with mQ oe Gg
   injection mQ with mQ
   injection mQ with mQ
   clear oe;subst mQ Gg;have ff:x.b≠gg:=BB.k7 (aa.hb.only Rz (aa.EI aa.ht).1) (by decide)|>.symm;have hne2:gg≠x.b:=ff.symm;have f2'':(w2.setCell ⟨x.b,2,none⟩ (.slice (some ⟨gg,0,none⟩) (tn+1) ix)).cell? ⟨x.b,2,none⟩=some (.slice (some ⟨gg,0,none⟩) (tn+1) ix):=A3.f2;rw[HTV.o]at f2' g2 ea;have EA:=xh ea;have AX:=xh A4;have OX:=xh ((ow.trans o3).aO o4 (λg hg dH=>(fr3 g hg).elim (λh=>h) (λh=>by have:=ow.size;omega)))
   have FX:=xh (show ∀g'∈({x with tv:= .slice (some ⟨gg,0,none⟩) (tn+1) ix}:X).fp,g'∈x.fp\/w.heap.size<=g' from λg' hg=>(fr3 g' hg).imp (λh=>h) (λh=>ar ow.size h));generalize (c.table++[id]).getD tn 0=ov at ck;clear aa ow A3 A4 o3 o4 Rz Cz St S2 ea EJ fr3 BB;go_wp2_with fail;rw[EA.o];go_wp2_with fail;go_ret2;exact aE ⟨{x with tv:= .slice (some ⟨gg,0,none⟩) (tn+1) ix},rfl,rfl,AX.o,OX.o,FX.o⟩
 .rw[if_pos h5]at hR;subst hR;have hq:(er != 0)=true:=by rw[bne_iff_ne];exact h5
  have h4I:¬(512:Int)<=(l:Int):=by omega
  by_cases h3:l<c.table.length
  .rw[if_pos h3]at KI;have KI:=xh KI;have h3I:¬(l:Int)<0:=by omega
   clear h h1 h2 hF tF;unfold sp at *;go_enter func120,ntmps120;go_wp2_with fail;refine KW.o.mono ?_;rintro e w1 ⟨rfl,rfl⟩;go_wp2_with fail;refine KI.o.mono ?_;rintro e w1 ⟨rfl,rfl⟩;go_wp2_with fail;refine KF.o.mono ?_;rintro e w1 ⟨rfl,aa,ow⟩;have AX:=xh aa;have OX:=xh ow;clear aa ow;go_wp2_with fail;go_ret2;exact aE (.self AX.o OX.o)
  .rw[if_neg h3]at KI;have hlI:¬(512:Int)<=(c.table.length:Int):=by omega
   have KI:=xh KI;clear h h1 h2 hF;rw[tF]at f2 KI;unfold sp at *;go_enter func120,ntmps120;go_wp2_with fail;refine KW.o.mono ?_;rintro e w1 ⟨rfl,rfl⟩;go_wp2_with fail;refine KI.o.mono ?_;rintro e w1 ⟨rfl,rfl⟩;go_wp2_with fail;refine KF.o.mono ?_;rintro e w1 ⟨rfl,aa,ow⟩;have AX:=xh aa;have OX:=xh ow;clear aa ow;go_wp2_with fail;go_ret2;exact aE (.self AX.o OX.o)
end Sh
namespace Sh
open Go.RowKit Pk Dk Pg
attribute [local go_sem ↓] Go.wp_at_zero Go.wp_at_succ
def Kf(e:Int):Int:=if e=13 then 13 else 14
theorem bad_any(e:Int)(w:World):
  Calls prog 140 #[.int .i64 e] w λr w'=>r=.returned (.int .i64 (Kf e))/\w=w':=by
 have HB:=xh (rfl:Kf e=Kf e);obtain⟨b,hb⟩:∃b,Kf e=b:=⟨_,rfl⟩;rw[hb];unfold Kf at hb
 by_cases h:e=13
 .rw[if_pos h]at hb;subst hb h;go_enter func140,ntmps140;go_wp2_with fail;go_ret;exact aE rfl
 .rw[if_neg h]at hb;subst hb;have hq:(e==13)=false:=by rw[beq_eq_false_iff_ne];exact h
  go_enter func140,ntmps140;go_wp2_with fail;go_ret;exact aE rfl
def C.aV(c:C)(l:Int):C×Int:=
 if c.jM l≠0 then(c,c.jM l)else({c with m:=(Fm.dD c.m (c.table.getD l.toNat 0)).1,table:=c.table.set l.toNat (-1)},0)
def C.aP(c:C)(n:Nat)(l:Int):List UInt8×Int:=
 if c.jM l≠0 then([],c.jM l)
 else if(bu c.d n (c.table.getD l.toNat 0)).2≠0 then([],Kf (bu c.d n (c.table.getD l.toNat 0)).2)
 else((bu c.d n (c.table.getD l.toNat 0)).1.s,0)
theorem Kg{c:C}{l:Int}(h:c.jM l=0):c.broken=false/\0<=l/\l<c.table.length/\0<=c.table.getD l.toNat 0:=by
 unfold C.jM at h
 split at h
 .simp at h
 .rename_i hb
  split at h
  .rename_i hh;unfold C.rI at hh;simp only[im,decide_eq_true_eq]at hh;exact⟨by simpa using hb,hh.1.1,hh.1.2,hh.2⟩
  .simp at h
theorem GO{w:World}{x:X}{n:Nat}{c:C}(h:At w x n c)(l:Int):
  Calls prog 179 #[sp x.b,.int .i64 l] w λe w'=>e=.returned (.int .i64 (c.aV l).2)/\At w' x n (c.aV l).1/\ag x.fp w w':=by
 have KA:=pR h l;have HH:=xh h;obtain⟨R,hR⟩:∃R,c.aV l=R:=⟨_,rfl⟩;rw[hR];unfold C.aV at hR
 by_cases h1:c.jM l=0
 .rw[if_neg (by simpa using h1)]at hR;obtain⟨_,h2,h3,h4⟩:=Kg h1;rw[h1]at KA;obtain⟨k,rfl⟩:=eT h2;have hk:k<c.table.length:=by omega
  rw[show((k:Nat):Int).toNat=k from by omega]at hR h4;obtain⟨g,cp,hv,ck⟩:=h.tk k hk;have f1:=h.f1;have f2:=h.f2;rw[hv]at f2;have KL:=Fm.qV h.hm.drew (c.table.getD k 0);have HM:=xh (λ(w':World) (m':List Int) (mm:Fm.dE w' x.mb x.mg m') (ow:ag [x.mg] w.drew w')=>At.map h.drew mm ow);have hg:g∈cw x.tv:=by rw[hv];simp[cw];have:=(h.ht.val);obtain⟨A,cc,e1,e2⟩:=this;rw[hv]at e1;injection e1 with _ _ e3;omega
  have HP:=xh (show ∀w',ag [x.mg] w.drew w'->(w'.cell? ⟨x.b,1,none⟩=some (Fm.mp x.mb)/\w'.cell? ⟨x.b,2,none⟩=some (.slice (some ⟨g,0,none⟩) c.table.length cp)/\w'.cell? ⟨g,k,none⟩=some (.int .i64 (c.table.getD k 0)))from λw' ho=>by
   have B:=h.hb.drew.only ho (λhm=>by simp at hm;exact h.hb.k7 h.hm.hg (by decide) hm);have T:=h.ht.drew.only ho (λy hy hm=>by simp at hm;subst hm;exact h.n1 hy);obtain⟨g',cp',rest,Ry,BB,_,_⟩:=T.form (by omega);rw[hv]at Ry;injection Ry with e1 e2 e3
   injection e1 with e1
   injection e1 with e1
   subst e1;refine⟨B.ab (i:=1) rfl,?_,BB.ab (by rw[dj,bF (by simpa using hk),pU _ _ hk])⟩;rw[<-hv];exact B.ab (i:=2) rfl)
  have HK:=xh (show w.drew.cell? ⟨x.b,1,none⟩=some (Fm.mp x.mb)/\w.drew.cell? ⟨x.b,2,none⟩=some (.slice (some ⟨g,0,none⟩) c.table.length cp)/\w.drew.cell? ⟨g,k,none⟩=some (.int .i64 (c.table.getD k 0))from⟨f1,f2,ck⟩);have RA:=xh hk
  have HX:=xh (show ∀w' m',At w' x n {c with m:=m'}->w'.cell? ⟨g,k,none⟩=some (.int .i64 (c.table.getD k 0))/\w'.frozen? ⟨g,k,none⟩=false/\At (w'.setCell ⟨g,k,none⟩ (.int .i64 (-1))) x n {c with m:=m',table:=c.table.set k (-1)}/\ag x.fp w' (w'.setCell ⟨g,k,none⟩ (.int .i64 (-1)))from λw' m' hh=>by
   obtain⟨g',cp',Ry,ck',z',A',o'⟩:=hh.iQ k hk (-1);rw[hv]at Ry;injection Ry with e1 e2 e3
   injection e1 with e1
   injection e1 with e1
   subst e1;exact⟨ck',z',A',o'⟩)
  have Kh:(k:Int)<(c.table.length:Int):=by omega
  subst hR;generalize c.table.getD k 0=pid at *;generalize (Fm.dD c.m pid).2=le at *;generalize (Fm.dD c.m pid).1=m2 at *;have HQ:=xh hv;clear h h1 f1 f2 ck hv hg h4;generalize c.table.length=tn at *;have KA:=xh KA;unfold sp Fm.mp at *;have KL:=xh KL;go_enter func179,ntmps179;go_wp2_with fail;refine KA.o.mono ?_;rintro e w1 ⟨rfl,rfl⟩;go_wp2_with fail
  refine wp_region_held_drew (S:=λW'=>W'.cell? ⟨x.b,1,none⟩=some (.pointer (some ⟨x.mb,0,none⟩))/\W'.cell? ⟨x.b,2,none⟩=some (.slice (some ⟨g,0,none⟩) tn cp)/\W'.cell? ⟨g,k,none⟩=some (.int .i64 pid)) (by kernel_rfl) (HK.o) (λah=>?_);refine bM [(0,12),(1,13),(2,14),(3,15),(4,16),(5,17),(6,18),(7,19),(8,20),(9,21),(10,22)] ?_
  iterate 11 refine aG ?_
  refine bY 11 23 λK hK=>?_;go_simp
  go_at_call 153
  refine KL.o.mono ?_;rintro e w1 ⟨rfl,mm,ow⟩;have A1:=xh (HM.o _ _ mm ow);have OW:=xh ow;have HX1:=xh (HX.o _ _ A1.o);have f2x:=(HP.o _ ow).2.1;have ckx:=HX1.o.1;have zkx:=HX1.o.2.1;have OX:=xh (((ag.refl _ w).drew.trans (ow.mono (S':=x.fp) (λg hg _=>rQ x g hg))).trans HX1.o.2.2.2);clear mm ow;go_simp;refine aA hK (HP.o _ OW.o) (λah=>?_);refine wpAnyH_done (by kernel_rfl) ?_ _;go_wp2_with fail;go_ret;exact aE ⟨HX1.o.2.2.1,OX.o⟩
 .rw[if_pos h1]at hR;subst hR;have hq:(c.jM l != 0)=true:=by rw[bne_iff_ne];exact h1
  have KA:=xh KA;generalize c.jM l=er at *;clear h h1;unfold sp at *;go_enter func179,ntmps179;go_wp2_with fail;refine KA.o.mono ?_;rintro e w1 ⟨rfl,rfl⟩;go_wp2_with fail;go_ret;exact aE ⟨HH.o,ag.refl _ _⟩
theorem nH{w:World}{x:X}{n:Nat}{c:C}(h:At w x n c)(l:Int):
  Calls prog 228 #[sp x.b,.int .i64 l] w λe w'=>e=.returned (.tuple #[.string ⟨(c.aP n l).1.toArray⟩,.int .i64 (c.aP n l).2])/\Below w.heap.size w w':=by
 have KA:=pR h l;obtain⟨R,hR⟩:∃R,c.aP n l=R:=⟨_,rfl⟩;rw[hR];unfold C.aP at hR
 by_cases h1:c.jM l=0
 .rw[if_neg (by simpa using h1)]at hR;obtain⟨_,h2,h3,h4⟩:=Kg h1;rw[h1]at KA;obtain⟨k,rfl⟩:=eT h2;have hk:k<c.table.length:=by omega
  rw[show((k:Nat):Int).toNat=k from by omega]at hR h4;obtain⟨g,cp,hv,ck⟩:=h.tk k hk;have Kh:(k:Int)<(c.table.length:Int):=by omega
  have HK:=xh (show ∀W',Below w.heap.size w W'->(W'.cell? ⟨x.b,0,none⟩=some (.pointer (some ⟨x.L.b,0,none⟩))/\W'.cell? ⟨x.b,2,none⟩=some (.slice (some ⟨g,0,none⟩) c.table.length cp)/\W'.cell? ⟨g,k,none⟩=some (.int .i64 (c.table.getD k 0)))from λW' hb=>by
   have h':=h.below hb;obtain⟨g',cp',Ry,ck'⟩:=h'.tk k hk;have e:=hv;rw[Ry]at e;injection e with e1 e2 e3
   injection e1 with e1
   injection e1 with e1
   subst e1;exact⟨h'.f0,by rw[<-hv];exact h'.f2,ck'⟩)
  have OD:=xh (show Below w.heap.size w w.drew from(Below.refl _ _).drew);have KR:=λ(W:World) (hb:Below w.heap.size w W)=>Pv (h.hd.below hb) (c.table.getD k 0);obtain⟨P,hP⟩:∃P,bu c.d n (c.table.getD k 0)=P:=⟨_,rfl⟩;rw[hP]at KR hR;obtain⟨⟨rid,rep,rkd,rs⟩,er⟩:=P;have KB:=xh (λw=>bad_any er w);unfold PG.val jn at KR;dsimp only at KR hR;generalize c.table.getD k 0=pid at *;generalize c.table.length=tn at *;unfold dp at KR;have KR:=xh KR;have KA:=xh KA
  clear h h1 hv hP h4 ck;unfold sp at *
  by_cases h5:er=0
  .rw[if_neg (by simpa using h5)]at hR;subst hR h5;go_enter func228,ntmps228;go_wp2_with fail;refine KA.o.mono ?_;rintro e w1 ⟨rfl,rfl⟩;go_wp2_with fail;refine wp_region_held_drew (S:=λW'=>W'.cell? ⟨x.b,0,none⟩=some (.pointer (some ⟨x.L.b,0,none⟩))/\W'.cell? ⟨x.b,2,none⟩=some (.slice (some ⟨g,0,none⟩) tn cp)/\W'.cell? ⟨g,k,none⟩=some (.int .i64 pid)) (by kernel_rfl) (HK.o _ OD.o) (λah=>?_)
   refine bM [(0,16),(1,17),(2,18),(3,19),(4,20),(5,21),(6,22),(7,23),(8,24),(9,25),(10,26)] ?_
   iterate 11 refine aG ?_
   refine wpAnyH_ready (rs:=[11,15]) (by kernel_rfl) (by simp) ?_;refine AllReadyH.cons (o:=⟨some 27,_,_,_,_,_⟩) rfl (λK hK=>?_) (AllReadyH.cons (o:=⟨some 7,_,_,_,_,_⟩) rfl (λK hK=>?_) AllReadyH.nil)
   .skip
    go_simp
    go_at_call 139
    refine(KR.o _ OD.o).mono ?_;rintro e v1 ⟨rfl,mQ⟩;have P1:=xh (aB OD.o mQ);clear mQ;go_simp;refine aA hK (HK.o _ P1.o) (λah=>?_);refine bM [(12,15),(13,28),(14,29)] ?_
    iterate 3 refine aG ?_
    refine bY 15 7 λK hK=>?_;go_simp;have P2:=xh (ae P1.o (.cells iy 162));refine aA hK (HK.o _ P2.o) (λah=>?_);refine dv 16 λK hK=>?_;go_simp;have P3:=xh (ae P1.o (.cells #[.int .i64 rid,.int .i64 rep,.int .i64 rkd,.string ⟨rs.toArray⟩] 162));have BX:=xh (aJ.new v1 162 #[.int .i64 rid,.int .i64 rep,.int .i64 rkd,.string ⟨rs.toArray⟩]);refine aA hK (HK.o _ P3.o) (λah=>?_);refine bM [(17,8)] ?_
    iterate 1 refine aG ?_
    refine wpAnyH_done (by kernel_rfl) ?_ _;have y3:=BX.o.ab (i:=3) rfl;go_wp2_with fail;go_ret2;exact aE P3.o
   .skip
    go_simp;have P1:=xh (ae OD.o (.cells iy 162));have BX0:=xh (show aJ (w.drew.alloc (.cells iy 162)) w.heap.size 162 iy from aJ.new w.drew 162 iy);refine aA hK (HK.o _ P1.o) (λah=>?_);refine bY 11 27 λK hK=>?_;go_simp
    go_at_call 139
    refine(KR.o _ P1.o).mono ?_;rintro e v1 ⟨rfl,mQ⟩;have P2:=xh (aB P1.o mQ);have EK:=xh (BX0.o.below mQ BX0.o.lt);clear mQ;have z0:=EK.o.frozen 0 (by simp);have z1:=EK.o.frozen 1 (by simp);have z2:=EK.o.frozen 2 (by simp);have z3:=EK.o.frozen 3 (by simp);have c0:=EK.o.ab (i:=0) rfl;have c1:=EK.o.ab (i:=1) rfl;have c2:=EK.o.ab (i:=2) rfl;have c3:=EK.o.ab (i:=3) rfl;go_simp
    refine aA hK (HK.o _ P2.o) (λah=>?_);refine bM [(12,15),(13,28),(14,29)] ?_
    iterate 3 refine aG ?_
    refine dv 16 λK hK=>?_;go_simp;have P3:=xh (fA P2.o (ak _) rid rep rkd ⟨rs.toArray⟩);have BX:=xh (kh EK.o rfl rid rep rkd ⟨rs.toArray⟩);refine aA hK (HK.o _ P3.o) (λah=>?_);refine bM [(17,8)] ?_
    iterate 1 refine aG ?_
    refine wpAnyH_done (by kernel_rfl) ?_ _;have y3:=BX.o.ab (i:=3) rfl;go_wp2_with fail;go_ret2;exact aE P3.o
  .rw[if_pos h5]at hR;have hq:(er != 0)=true:=by rw[bne_iff_ne];exact h5
   subst hR;clear h5;generalize Kf er=be at *;go_enter func228,ntmps228;go_wp2_with fail;refine KA.o.mono ?_;rintro e w1 ⟨rfl,rfl⟩;go_wp2_with fail;refine wp_region_held_drew (S:=λW'=>W'.cell? ⟨x.b,0,none⟩=some (.pointer (some ⟨x.L.b,0,none⟩))/\W'.cell? ⟨x.b,2,none⟩=some (.slice (some ⟨g,0,none⟩) tn cp)/\W'.cell? ⟨g,k,none⟩=some (.int .i64 pid)) (by kernel_rfl) (HK.o _ OD.o) (λah=>?_)
   refine bM [(0,16),(1,17),(2,18),(3,19),(4,20),(5,21),(6,22),(7,23),(8,24),(9,25),(10,26)] ?_
   iterate 11 refine aG ?_
   refine wpAnyH_ready (rs:=[11,15]) (by kernel_rfl) (by simp) ?_;refine AllReadyH.cons (o:=⟨some 27,_,_,_,_,_⟩) rfl (λK hK=>?_) (AllReadyH.cons (o:=⟨some 7,_,_,_,_,_⟩) rfl (λK hK=>?_) AllReadyH.nil)
   .skip
    go_simp
    go_at_call 139
    refine(KR.o _ OD.o).mono ?_;rintro e v1 ⟨rfl,mQ⟩;have P1:=xh (aB OD.o mQ);clear mQ;go_simp;refine aA hK (HK.o _ P1.o) (λah=>?_);refine bM [(12,15),(13,28),(14,29)] ?_
    iterate 3 refine aG ?_
    refine bY 15 7 λK hK=>?_;go_simp;have P2:=xh (ae P1.o (.cells iy 162));refine aA hK (HK.o _ P2.o) (λah=>?_);refine dv 16 λK hK=>?_;go_simp;have P3:=xh (ae P1.o (.cells #[.int .i64 rid,.int .i64 rep,.int .i64 rkd,.string ⟨rs.toArray⟩] 162));have BX:=xh (aJ.new v1 162 #[.int .i64 rid,.int .i64 rep,.int .i64 rkd,.string ⟨rs.toArray⟩]);refine aA hK (HK.o _ P3.o) (λah=>?_);refine bM [(17,8)] ?_
    iterate 1 refine aG ?_
    refine wpAnyH_done (by kernel_rfl) ?_ _;go_wp2_with fail;refine(KB.o _).mono ?_;rintro e wz ⟨rfl,rfl⟩;go_wp2_with fail;go_ret2;exact aE P3.o
   .skip
    go_simp;have P1:=xh (ae OD.o (.cells iy 162));have BX0:=xh (show aJ (w.drew.alloc (.cells iy 162)) w.heap.size 162 iy from aJ.new w.drew 162 iy);refine aA hK (HK.o _ P1.o) (λah=>?_);refine bY 11 27 λK hK=>?_;go_simp
    go_at_call 139
    refine(KR.o _ P1.o).mono ?_;rintro e v1 ⟨rfl,mQ⟩;have P2:=xh (aB P1.o mQ);have EK:=xh (BX0.o.below mQ BX0.o.lt);clear mQ;have z0:=EK.o.frozen 0 (by simp);have z1:=EK.o.frozen 1 (by simp);have z2:=EK.o.frozen 2 (by simp);have z3:=EK.o.frozen 3 (by simp);have c0:=EK.o.ab (i:=0) rfl;have c1:=EK.o.ab (i:=1) rfl;have c2:=EK.o.ab (i:=2) rfl;have c3:=EK.o.ab (i:=3) rfl;go_simp
    refine aA hK (HK.o _ P2.o) (λah=>?_);refine bM [(12,15),(13,28),(14,29)] ?_
    iterate 3 refine aG ?_
    refine dv 16 λK hK=>?_;go_simp;have P3:=xh (fA P2.o (ak _) rid rep rkd ⟨rs.toArray⟩);have BX:=xh (kh EK.o rfl rid rep rkd ⟨rs.toArray⟩);refine aA hK (HK.o _ P3.o) (λah=>?_);refine bM [(17,8)] ?_
    iterate 1 refine aG ?_
    refine wpAnyH_done (by kernel_rfl) ?_ _;go_wp2_with fail;refine(KB.o _).mono ?_;rintro e wz ⟨rfl,rfl⟩;go_wp2_with fail;go_ret2;exact aE P3.o
 .rw[if_pos h1]at hR;subst hR;have hq:(c.jM l != 0)=true:=by rw[bne_iff_ne];exact h1
  have KA:=xh KA;generalize c.jM l=er at *;clear h h1;unfold sp at *;go_enter func228,ntmps228;go_wp2_with fail;refine KA.o.mono ?_;rintro e w1 ⟨rfl,rfl⟩;go_wp2_with fail;go_ret2;exact aE (Below.refl _ _)
attribute [local go_sem ↓] bz
def yc(t:List Int):Nat->List Int
 |0=>[]
 |k+1=>yc t k++if 0<=t.getD k 0 then [(k:Int)]else []
theorem Th(t:List Int):∀k,(yc t k).length<=k
 |0=>ak _
 |k+1=>by
  have:=Th t k;unfold yc;rw[aU]
  split<;>simp<;>omega
theorem Ki{w:World}{x:X}{n:Nat}{c:C}(h:At w x n c):
  Calls prog 29 #[sp x.b] w λe w'=> ∃A cc,e=.returned (.slice A (yc c.table c.table.length).length cc)/\aT w' 3 1 (.slice A (yc c.table c.table.length).length cc) (yc c.table c.table.length).length (dm (yc c.table c.table.length))/\Below w.heap.size w w':=by
 have f2:=h.f2;have tl:=h.tl;obtain⟨TA,tc,tF,htc⟩:=h.ht.val;rw[tF]at f2;have HT:=xh (λ(k:Nat) (hk:k<c.table.length) (W:World) (hb:Below w.heap.size w W)=>(h.below hb).tk k hk);have HV:=xh tF;obtain⟨t,ht⟩:∃t,c.table=t:=⟨_,rfl⟩;rw[ht]at f2 tl htc HT HV ⊢;obtain⟨tn,htn⟩:∃tn,t.length=tn:=⟨_,rfl⟩;rw[htn]at f2 tl htc HT HV ⊢;clear h tF ht htn;unfold sp at *;go_enter func29,ntmps29;go_wp2_with fail
 go_loopw [3,14] (λbv iv wr=> ∃k:Nat,k<=tn/\iv=.int .i64 k/\aT wr 3 1 bv (yc t k).length (dm (yc t k))/\Hid (Below w.heap.size w wr)/\Hid (∀g∈ai bv,w.heap.size<=g)) (λ_ iv _=>tn-(intOf iv).toNat)
 case atStart=>exact⟨0,aY _,rfl,aT.nil _ _ _,xh (Below.refl _ _),xh (by simp[ai])⟩
 case round=>
  obtain⟨k,hk,rfl,S,O,F⟩:=hrel;have hle:=Th t k;obtain⟨VA,vc,rfl⟩:=au S
  by_cases h':k<tn
  .have Kh:(k:Int)<(tn:Int):=by omega
   obtain⟨g,cp,hv,ck⟩:=HT.o k h' wr O.o;rw[HV.o]at hv;injection hv with e1 e2 e3
   subst e1 e3;obtain⟨u,hu⟩:∃u,t.getD k 0=u:=⟨_,rfl⟩;rw[hu]at ck
   by_cases hpos:0<=u
   .have CA:yc t (k+1)=yc t k++[(k:Int)]:=by
     show yc t k++_=_;rw[hu,if_pos hpos]
    obtain⟨v',w2,ea,S2,ow,fr⟩:=cQ (P:=prog) S 60 60 (.int .i64 0) 8 underlying60 ji rfl (.int .i64 (k:Int)) rfl (by unfold maxLen;omega) (by omega);obtain⟨V2,ix,rfl⟩:=au S2;have hlen:(yc t (k+1)).length=(yc t k).length+1:=by rw[CA];simp
    have EA:=xh ea;have SX:=xh (show aT w2 3 1 (.slice V2 ((yc t k).length+1) ix) (yc t (k+1)).length (dm (yc t (k+1)))from by
     rw[hlen,CA,gi];exact S2)
    have OX:=xh (O.o.trans (ow.aI O.o.size F.o));have FX:=xh (show ∀g'∈ai (.slice V2 ((yc t k).length+1) ix),w.heap.size<=g' from λg' hg=>(fr g' hg).elim (F.o g') (λh=>ar O.o.size h));clear ea S2 ow fr S CA hlen hu;generalize (yc t k).length=pl at *;go_wp2_with fail;rw[EA.o];go_wp2_with fail;go_roundw
    case rel=>exact⟨k+1,by omega,by go_num,SX.o,OX,FX⟩
    case measure=>simp[intOf];omega
   .have CA:yc t (k+1)=yc t k:=by
     show yc t k++_=_;rw[hu,if_neg hpos,iJ]
    have SX:=xh S;have HN:=xh CA;clear S CA hu;go_wp2_with fail;go_roundw
    case rel=>exact⟨k+1,by omega,by go_num,by rw[HN.o];exact SX.o,O,F⟩
    case measure=>simp[intOf];omega
  .obtain rfl:k=tn:=by omega
   have SX:=xh S;clear S;go_wp2_with fail;go_ret;exact⟨_,_,by first|rfl|simp,SX.o,O.o⟩
end Sh
namespace Sh
open Go.RowKit Pk Dk Pg
attribute [local go_sem ↓] Go.wp_at_zero Go.wp_at_succ
variable{d:D}{w:World}{n:Nat}
def fF:List UInt8:=Rt.eX 1 0 []
def Nw(d:D)(n:Nat):D:=(((d.aD n 0 fF).1.aD n 1 []).1.et).1
def eu(d:D)(n:Nat):C:={d:=Nw d n,m:=List.replicate (fi n) 0,table:=[],bX:=[],parts:=[],ep:=1,slot:=0,broken:=false}
theorem nK(hd:d.down=false)(ha:d.bt=0):d.et.2=0/\d.et.1.down=false/\d.et.1.bt=0/\d.et.1.now=d.now:=by
 obtain⟨c1,c2,c3⟩:=wZ d ha;unfold D.et;rw[if_neg (by simp[hd]),if_pos c1];exact⟨rfl,c3.trans hd,c2,Cw d⟩
theorem Ti:Rt.gK 1 ((0:Nat):Int) (Rt.dr []):=by
 refine⟨by omega,by omega,by omega,by omega,by decide,?_⟩;intro i x hx;simp[Rt.dr]at hx
theorem Kk{L:Dk.Loc}(h:aZ w L n d)(hp:1<=fi n)(hd:d.down=false)(ha:d.bt=0)(hc:d.calls<=1000):
  Calls prog 53 #[dp L.b] w λe w'=> ∃x,x.L=L/\e=.returned (.tuple #[sp x.b,.int .i64 0])/\At w' x n (eu d n)/\ag L.fp w w'/\∀g∈x.fp,g∈L.fp\/w.heap.size<=g:=by
 have hn:=h.ok.small;have RZ:6<=n:=by unfold fi cB at hp;omega
 have EL:=h.ok.calls;have Ny:fi n<=1024:=by unfold fi;omega
 have w1f:=iP (n:=n) (k:=0) hd ha (by omega) fF;have w2f:=iP (n:=n) (k:=1) w1f.2.1 w1f.2.2 (by omega) [];have sf:=nK w2f.2.1 w2f.2.2;have b1:=jh d n ((0:Nat):Int) fF (by omega);have b2:=jh (d.aD n ((0:Nat):Int) fF).1 n ((1:Nat):Int) [] b1.2;have KP:=xh (λw' (hb:Below w.heap.size w w')=>PD (h.below hb));have KN:=xh (λw=>Fm.Eu (fi n) w Ny)
 have KR:=xh (λw=>Rt.GL (w:=w) 1 0 none 0 0 [] ⟨rfl,λk x hx=>by simp[Rt.dr]at hx⟩ (ak _) Ti);have HD:=xh h;have oO:=xh (λg hg=>h.lt g hg);have O1:=xh (ae (Below.refl w.heap.size w) (.cells #[dp L.b,.pointer none,.slice none 0 0,.slice none 0 0,.slice none 0 0,.int .i64 1,.int .i64 0,.bool false] 146))
 have B1:=xh (aJ.new w 146 #[dp L.b,.pointer none,.slice none 0 0,.slice none 0 0,.slice none 0 0,.int .i64 1,.int .i64 0,.bool false]);have hpz:((fi n:Nat):Int)≠0:=by omega
 have hpq:(((fi n:Nat):Int)==0)=false:=by rw[beq_eq_false_iff_ne];exact hpz
 have KP0:=KP.o w (Below.refl _ _);have e1:(⟨fF.toArray⟩:ByteArray).data.toList=fF:=by simp
 have e2:(⟨#[]⟩:ByteArray).data.toList=([]:List UInt8):=by simp
 have c1:=jh d n 0 fF (by omega);have c2:=jh (d.aD n 0 fF).1 n 1 [] c1.2;have v1:(d.aD n 0 fF).2=0:=w1f.1;have v2:((d.aD n 0 fF).1.aD n 1 []).2=0:=w2f.1;have v3:((d.aD n 0 fF).1.aD n 1 []).1.et.2=0:=sf.1;have GQ:=xh (λ(W:World) (hW:aZ W L n d)=>kI hW 0 ⟨fF.toArray⟩ (by omega) (by omega));have KW2:=xh (λ(W:World) (hW:aZ W L n (d.aD n 0 fF).1)=>kI hW 1 ⟨#[]⟩ (by omega) (by omega))
 have KS:=xh (λ(W:World) (hW:aZ W L n ((d.aD n 0 fF).1.aD n 1 []).1)=>yV hW (by omega) (by omega));rw[e1,v1]at GQ;rw[e2,v2]at KW2;rw[v3]at KS;have HFD:Nw d n=((d.aD n 0 fF).1.aD n 1 []).1.et.1:=rfl;have KR:=xh (show ∀w:World,Calls prog 102 #[.agg #[.int .i64 1,.int .i64 0,.slice none 0 0]] w λe w'=>e=.returned (.tuple #[.string ⟨fF.toArray⟩,.int .i64 0])/\Below w.heap.size w w' from KR.o)
 have hfc:eu d n={d:=Nw d n,m:=List.replicate (fi n) 0,table:=[],bX:=[],parts:=[],ep:=1,slot:=0,broken:=false}:=rfl;rw[hfc];clear hfc;generalize Nw d n=dz at *;generalize ((d.aD n 0 fF).1.aD n 1 []).1.et.1=dy at *;subst HFD;generalize ((d.aD n 0 fF).1.aD n 1 []).1=dx at *;generalize (d.aD n 0 fF).1=dw at *;generalize fF=rt at *;clear w1f w2f sf b1 b2 c1 c2 v1 v2 v3 e1 e2;generalize fi n=pn at *;unfold dp Fm.mp Rt.Cy at *
 have KP0:=xh KP0;clear h hpz;go_enter func53,ntmps53;go_wp2_with fail;refine KP0.o.mono ?_;rintro e w1 ⟨rfl,rfl⟩;go_wp2_with fail;refine(KP.o _ O1.o).mono ?_;rintro e w1 ⟨rfl,rfl⟩;go_wp2_with fail;refine(KN.o _).mono ?_;rintro e w2 ⟨mb,mg,rfl,mm,cA,h1,h2⟩;have B2:=xh (B1.o.below cA B1.o.lt);have O2:=xh (aB O1.o cA);have O3:=xh (Below.setCell O2.o (p:=⟨w.heap.size,1,none⟩) (ak _) (.pointer (some ⟨mb,0,none⟩)))
 have n1:w.heap.size≠mg:=by have:=h2;simp only[World.size_alloc]at this;omega
 have n2:w.heap.size≠mb:=by have:=h1;simp only[World.size_alloc]at this;omega
 have g1:w.heap.size<=mb:=by have:=h1;simp only[World.size_alloc]at this;omega
 have g2:w.heap.size<=mg:=by have:=h2;simp only[World.size_alloc]at this;omega
 have M3:=xh (mm.only (S:=[w.heap.size]) ((ag.refl _ w2).setCell (p:=⟨w.heap.size,1,none⟩) (by simp) (.pointer (some ⟨mb,0,none⟩))) (by simpa using n2.symm) (by simpa using n1.symm));have B3:=xh (B2.o.bE 1 (.pointer (some ⟨mb,0,none⟩)));have q0:=B2.o.ab (i:=1) rfl;have q1:=B2.o.frozen 1 (by simp);clear cA h1 h2 mm;go_wp2_with fail;generalize w2.setCell ⟨w.heap.size,1,none⟩ (.pointer (some ⟨mb,0,none⟩))=w3 at *;clear q0 q1;refine(KR.o _).mono ?_
 rintro e w4 ⟨rfl,jw⟩;have O4:=xh (aB O3.o jw);have M4:=xh (M3.o.below jw);have B4:=xh (B3.o.below jw B3.o.lt);have U4:=xh (ae (Below.refl w4.heap.size w4) (.cells #[.string ⟨rt.toArray⟩,.string ⟨#[]⟩] 9));have T4:=xh (aJ.new w4 9 #[.string ⟨rt.toArray⟩,.string ⟨#[]⟩]);have nT:w4.heap.size∉L.fp:=λhg=>by have:=oO.o _ hg;have:=O4.o.size;omega
 have nT:=xh nT;have H5:=xh (HD.o.below (aB O4.o U4.o));have t0:=T4.o.ab (i:=0) rfl;clear jw;go_wp2_with fail;refine wp_loop_rounds 3 ?_;rw[rounds_succ];go_wp2_with fail;refine(GQ.o _ H5.o).mono ?_;rintro e w6 ⟨rfl,H6,O6⟩;have T6:=xh (T4.o.only O6 nT.o);have t1:=T6.o.ab (i:=1) rfl;have H6:=xh H6;have O6:=xh O6;clear t0;go_wp2_with fail;rw[rounds_succ];go_wp2_with fail;refine(KW2.o _ H6.o).mono ?_;rintro e w7 ⟨rfl,H7,O7⟩
 have H7:=xh H7;have O7:=xh O7;clear t1;go_wp2_with fail;rw[rounds_succ];go_wp2_with fail;refine(KS.o _ H7.o).mono ?_;rintro e w8 ⟨rfl,H8,O8⟩;have H8:=xh H8;have O8:=xh O8;go_wp2_with fail;go_ret2;have nb:∀g,w.heap.size<=g->g∉L.fp:=λg hg hm=>by have:=oO.o _ hm;omega
 have O5:=aB O4.o U4.o;have A5:ag L.fp w _:=ag.aj O5;have A8:=((A5.trans O6.o).trans O7.o).trans O8.o;have A58:=((O6.o).trans O7.o).trans O8.o;refine⟨⟨w.heap.size,L,mb,mg,.slice none 0 0,.slice none 0 0,.slice none 0 0⟩,rfl,by first|rfl|simp[sp],⟨?_,H8.o,?_,Sl.nil _ _,Sl.nil _ _,.inl (Sl.nil _ _),by simp[cw],by simp[cw],by simp[cw],by simp[cw],by simp[cw],by simp[cw],by simp⟩,A8,?_⟩
 .exact(((B4.o.below U4.o B4.o.lt).only A58 (nb _ (ak _))))
 .exact((M4.o.below U4.o).only A58 (nb _ g1) (nb _ g2))
 .intro g hg;simp only[X.fp,an,aC]at hg
  rcases hg with rfl|rfl|rfl|((hg|hg)|hg)|hg
  .exact .inr (ak _)
  .exact .inr g1
  .exact .inr g2
  .exact .inl hg
  .simp[cw]at hg
  .simp[cw]at hg
  .simp[cw]at hg
theorem cU{e t:TypeId}{k:Nat}{v:Value}{b:Nat}{l:List Value}{cs:Array Value}(h:aT w e k v n l)(B:aJ w b t cs)(ff:t≠e):b∉ai v:=by
 rcases h.2 with⟨rfl,_⟩|⟨g,cap,rest,rfl,BB,_⟩
 .simp[ai]
 .simp only[ai,aQ];exact B.k7 BB ff
variable{w:World}{g:Nat}
structure Fr where
 aq:Int
 fS:ByteArray
 held:Int
 cD:Bool
 used:Bool
def Fr.cs(f:Fr):List Value:=[.int .i64 f.aq,.string f.fS,.int .i64 f.held,.bool f.cD,.bool f.used]
def Fr.agg(f:Fr):Value:= .agg #[.int .i64 f.aq,.string f.fS,.int .i64 f.held,.bool f.cD,.bool f.used]
def Fr.nil:Fr:=⟨-1,⟨#[]⟩,0,false,false⟩
def EM(l:List Fr):List Value:=l.flatMap Fr.cs
theorem mA(l:List Fr):(EM l).length=l.length*5:=by
 induction l with
 |nil=>rfl
 |cons f l ih=>simp only[EM,gW,aU]at ih ⊢;rw[ih];simp[Fr.cs];omega
theorem frc_get(l:List Fr)(k i:Nat)(hi:i<5)(f:Fr)(hf:l[k]?=some f):(EM l)[k*5+i]?=f.cs[i]?:=by
 induction l generalizing k with
 |nil=>simp at hf
 |cons a l ih=>
  have e5:a.cs.length=5:=rfl;simp only[EM,gW]at ih ⊢
  cases k with
  |zero=>
   simp at hf;subst hf;rw[qS,bg,bF (by omega)]
  |succ k=>
   simp at hf;rw[dW (by omega),e5,show(k+1)*5+i-5=k*5+i from by omega];exact ih k hf
def xe(w:World)(g:Nat)(l:List Fr):Prop:= ∀k f,l[k]?=some f->w.cell? ⟨g,k*5,none⟩=some (.int .i64 f.aq)/\w.cell? ⟨g,k*5+1,none⟩=some (.string f.fS)/\w.cell? ⟨g,k*5+2,none⟩=some (.int .i64 f.held)/\w.cell? ⟨g,k*5+3,none⟩=some (.bool f.cD)/\w.cell? ⟨g,k*5+4,none⟩=some (.bool f.used)
theorem xe.of{l:List Fr}{rest:List Value}{t:TypeId}(B:aJ w g t (EM l++rest).toArray):xe w g l:=by
 intro k f hf;have hk:k<l.length:=(aS.1 hf).1;have hl:=mA l;have c:∀i v,i<5->f.cs[i]?=some v->w.cell? ⟨g,k*5+i,none⟩=some v:=λi v hi hv=>
  B.ab (by rw[dj,bF (by omega),frc_get l k i hi f hf,hv])
 exact⟨c 0 _ (by omega) rfl,c 1 _ (by omega) rfl,c 2 _ (by omega) rfl,c 3 _ (by omega) rfl,c 4 _ (by omega) rfl⟩
theorem xe.below{w':World}{l:List Fr}(h:xe w g l)(hb:Below w.heap.size w w'):xe w' g l:=by
 intro k f hf;obtain⟨c0,c1,c2,c3,c4⟩:=h k f hf;exact⟨(hb.cell (dX c0)).trans c0,(hb.cell (dX c1)).trans c1,(hb.cell (dX c2)).trans c2,(hb.cell (dX c3)).trans c3,(hb.cell (dX c4)).trans c4⟩
def Gj(b:Fr->Bool)(l:List Fr):Int:=if l.findIdx b<l.length then(l.findIdx b:Int)else -1
def findF(l:List Fr)(p:Int):Int:=if p<0 then -1 else Gj (λf=>decide (f.aq=p)) l
theorem uf{b:Fr->Bool}{l:List Fr}{k:Nat}{f:Fr}(hf:l[k]?=some f)(hb:b f=true)(ha:∀(j:Nat) (a:Fr),j<k->l[j]?=some a->b a=false):Gj b l=k:=by
 have hk:k<l.length:=(aS.1 hf).1;have hg:l[k]=f:=(aS.1 hf).2;have e:l.findIdx b=k:=by
  rw[List.findIdx_eq hk];exact⟨by rw[hg];exact hb,λj hj=>by have:=ha j l[j] hj (aL (by omega));simp[this]⟩
 unfold Gj;rw[e,if_pos hk]
theorem za{b:Fr->Bool}{l:List Fr}(ha:∀(j:Nat) (a:Fr),l[j]?=some a->b a=false):Gj b l= -1:=by
 have e:l.findIdx b=l.length:=by
  rw[List.findIdx_eq_length];intro x hx;obtain⟨i,hi,rfl⟩:=yg.1 hx;exact ha i _ (aL hi)
 unfold Gj;rw[e,if_neg (yo _)]
theorem PE{fn:Func}{p:Tmp}{f:Fr}{tmps:Array Value}(h:fn.results= #[.cell p 167])(hp:tmps.getD p undef=.pointer (some ⟨g,0,none⟩))(B:aJ w g 167 f.cs.toArray):
  (results fn tmps).run prog w=.ok f.agg w:=by
 have c0:=B.ab (i:=0) rfl;have c1:=B.ab (i:=1) rfl;have c2:=B.ab (i:=2) rfl;have c3:=B.ab (i:=3) rfl;have c4:=B.ab (i:=4) rfl;rw[dJ h,hp];clear h hp B;unfold Fr.agg;go_simp;exact⟨rfl,rfl,rfl,rfl,rfl⟩
theorem l7(w:World):Calls prog 86 #[] w λe w'=>e=.returned Fr.nil.agg/\Below w.heap.size w w':=by
 unfold Fr.nil Fr.agg;go_enter func86,ntmps86;go_wp2_with fail;exact bodyPost_ret (PE (f:=Fr.nil) rfl rfl (aJ.new w 167 Fr.nil.cs.toArray)) rfl ⟨rfl,ae (Below.refl w.heap.size w) _⟩
theorem qY(f:Fr)(q:Nat)(p:Int)(w:World)(hq:w.cell? ⟨q,0,none⟩=some (.int .i64 p))(b:Bool)(hb:b=decide (f.aq=p)):
  Calls prog 221 #[f.agg,.pointer (some ⟨q,0,none⟩)] w λe w'=>e=.returned (.bool b)/\Below w.heap.size w w':=by
 have O0:=xh ((Below.refl w.heap.size w).alloc (ak _) (.cells #[.int .i64 f.aq,.string f.fS,.int .i64 f.held,.bool f.cD,.bool f.used] 167));have B0:=aJ.new w 167 #[.int .i64 f.aq,.string f.fS,.int .i64 f.held,.bool f.cD,.bool f.used];have c0:=B0.ab (i:=0) rfl;have HB:=xh hb;have Bt:=(O0.o.cell (dX hq)).trans hq;clear hb hq B0;unfold Fr.agg;go_enter func221,ntmps221;go_wp2_with fail;go_ret;exact⟨by rw[HB.o];rfl,O0.o⟩
theorem Kl(g n c q:Nat)(p:Int)(l:List Fr)(h:xe w g l)(hl:l.length=n)(hn:n<=1000000)(hq:w.cell? ⟨q,0,none⟩=some (.int .i64 p)):
  Calls prog 220 #[.slice (some ⟨g,0,none⟩) n c,.func (Fn.func 221) #[] #[.pointer (some ⟨q,0,none⟩)]] w λe w'=>e=.returned (.int .i64 (Gj (λf=>decide (f.aq=p)) l))/\Below w.heap.size w w':=by
 have HL:=xh hl;have H0:=xh h;have HQ:=xh hq;clear h hq hl;go_enter func220,ntmps220;go_wp2_with fail
 go_loopw [8] (λiv wr=> ∃i:Nat,i<=n/\iv=.int .i64 i/\Hid (∀j a,j<i->l[j]?=some a->decide (a.aq=p)=false)/\Hid (Below w.heap.size w wr)) (λiv _=>n-(intOf iv).toNat)
 case atStart=>exact⟨0,aY _,rfl,xh (λj a hj=>absurd hj (j9 j)),xh (Below.refl _ _)⟩
 case round=>
  obtain⟨i,hi,rfl,HA,HB⟩:=hrel
  by_cases h:i<n
  .have hf:l[i]?=some (l[i]'(by have:=HL.o;omega)):=aL _;generalize (l[i]'(by have:=HL.o;omega))=f at hf;obtain⟨c0,c1,c2,c3,c4⟩:=(H0.o.below HB.o) i f hf;have KF:=xh (qY f q p wr ((HB.o.cell (dX HQ.o)).trans HQ.o) _ rfl);have HF:=xh hf;clear hf;unfold Fr.agg at KF;obtain⟨b,hb⟩:∃b,decide (f.aq=p)=b:=⟨_,rfl⟩;rw[hb]at KF;have HD:=xh hb;clear hb;go_wp2_with fail;refine KF.o.mono ?_;rintro e w1 ⟨rfl,bf⟩
   have GR:=xh (aB HB.o bf);clear bf
   cases b with
   |true=>
    have he:=xh (uf (b:=λf=>decide (f.aq=p)) HF.o HD.o HA.o);go_wp2_with fail;go_ret;exact⟨by rw[he.o];rfl,GR.o⟩
   |false=>
    go_wp2_with fail;go_roundw
    case rel=>
     refine⟨i+1,by omega,by go_num,xh (λj a hj ha=>?_),GR⟩
     rcases oA.1 hj with hj|rfl
     .exact HA.o j a hj ha
     .have:=HF.o.symm.trans ha;injection this with this
      subst this;exact HD.o
    case measure=>simp[intOf];omega
  .have he:=xh (za (b:=λf=>decide (f.aq=p)) (l:=l) (λj a ha=>HA.o j a (by have:=(aS.1 ha).1;have:=HL.o;omega) ha));go_wp2_with fail;go_ret;exact⟨by rw[he.o];rfl,HB.o⟩
attribute [local go_sem ↓] bz
variable{w:World}{v:Value}
theorem Km:(prog.info? 167).map (λi=>(i.zero,i.size,i.bytes))=some (some (.agg #[.int .i64 0,.string ⟨#[]⟩,.int .i64 0,.bool false,.bool false]),5,40):=by kernel_rfl
theorem Kn(l k:List Fr):EM (l++k)=EM l++EM k:=by simp[EM]
theorem Ko{a b c:World}(h:Below w.heap.size w a)(k:Below a.heap.size a b)(o:ag (ai v) b c)(hf:∀g∈ai v,w.heap.size<=g):Below w.heap.size w c:=
 (aB h k).trans (o.aI (ar h.size k.size) hf)
theorem append_nil{n:Nat}{l:List Fr}(h:aT w 167 5 v n (EM l))(hn:n<=1000):
  ∃v' w',dP prog 141 141 (w.alloc (.cells #[.int .i64 (-1),.string ⟨#[]⟩,.int .i64 0,.bool false,.bool false] 167)) v (.slice (some ⟨w.heap.size,0,none⟩) 1 1)= .ok v' w'/\aT w' 167 5 v' (n+1) (EM (l++[Fr.nil]))/\ag (ai v) w w'/\(∀g∈ai v',g∈ai v\/w.heap.size<=g):=by
 obtain⟨i0,hi,kx,ju,kg⟩:=info_parts Km;obtain⟨v',w',h1,h2,h3,h4⟩:=dk (P:=prog) (h.alloc (.cells #[.int .i64 (-1),.string ⟨#[]⟩,.int .i64 0,.bool false,.bool false] 167)) 141 141 i0 _ 40 underlying141 hi kx ju kg rfl (by omega)
  ⟨w.heap.size,0,none⟩ 1 1 Fr.nil.cs rfl (bq (l:=Fr.nil.cs) (aJ.new w _ #[.int .i64 (-1),.string ⟨#[]⟩,.int .i64 0,.bool false,.bool false]) 0 _ (by intro j u hu;rw[bg];exact hu)) (by intro u hu;simp[Fr.cs,Fr.nil]at hu;rcases hu with rfl|rfl|rfl|rfl<;>rfl) (by unfold maxLen;omega) (by omega)
 refine⟨v',w',h1,?_,((ag.refl _ _).alloc _).aO h3 (λx hx _=>hx),λg hg=>(h4 g hg).imp id (λh=>by simp at h;omega)⟩;rw[Kn];exact h2
theorem Tj(b k:Nat)(h1:1<=k)(h2:k<=32):
  Calls prog 34 #[sp b,.int .i64 (k:Nat)] w λe w'=> ∃pb v,e=.returned (.tuple #[.pointer (some ⟨pb,0,none⟩),.int .i64 0])/\aJ w' pb 143 #[sp b,v,.int .i64 0]/\aT w' 167 5 v k (EM (List.replicate k Fr.nil))/\Below w.heap.size w w'/\w.heap.size<=pb/\∀g∈ai v,w.heap.size<=g:=by
 have KE:=xh l7;have O0:=xh (ae (Below.refl w.heap.size w) (.cells #[sp b,.slice none 0 0,.int .i64 0] 143));have B0:=xh (aJ.new w 143 #[sp b,.slice none 0 0,.int .i64 0]);have k1:¬(k:Int)<1:=by omega
 have k2:¬(32:Int)<(k:Int):=by omega
 unfold sp at *;go_enter func34,ntmps34;go_wp2_with fail;generalize hwa:w.alloc (.cells #[.pointer (some ⟨b,0,none⟩),.slice none 0 0,.int .i64 0] 143)=wa at *;clear hwa
 go_loopw [21] (λiv wr=> ∃i:Nat,i<=k/\iv=.int .i64 i/\∃v,Hid (aJ wr w.heap.size 143 #[.pointer (some ⟨b,0,none⟩),v,.int .i64 0])/\Hid (aT wr 167 5 v i (EM (List.replicate i Fr.nil)))/\Hid (Below w.heap.size w wr)/\Hid (∀g∈ai v,w.heap.size<=g)) (λiv _=>k-(intOf iv).toNat)
 case atStart=>exact⟨0,aY _,rfl,.slice none 0 0,B0,xh (aT.nil _ _ _),O0,xh (by simp[ai])⟩
 case round=>
  obtain⟨i,hi,rfl,v,BP,SP,OB,FR⟩:=hrel
  by_cases h:i<k
  .obtain⟨A,cc,rfl⟩:=au SP.o;have hI:(i:Int)<(k:Int):=by omega
   have OD:=xh (show Below wr.heap.size wr wr.drew from(Below.refl _ _).drew);have c0:=BP.o.ab (i:=1) rfl;have NB:=xh (show w.heap.size∉ai (.slice A i cc)from cU SP.o BP.o (by decide));go_wp2_with fail;refine wp_region_held_drew (S:=λ_=>True) (by kernel_rfl) (trivial) (λah=>?_);refine bM [(0,23),(1,24),(2,25),(3,26)] ?_
   iterate 4 refine aG ?_
   refine wpAnyH_ready (rs:=[4,5]) (by kernel_rfl) (by simp) ?_;refine AllReadyH.cons (o:=⟨some 27,_,_,_,_,_⟩) rfl (λK hK=>?_) (AllReadyH.cons (o:=⟨some 28,_,_,_,_,_⟩) rfl (λK hK=>?_) AllReadyH.nil)
   .skip
    go_simp;refine aA hK (trivial) (λah=>?_);refine bY 5 28 λK hK=>?_;go_simp
    go_at_call 86
    refine(KE.o _).mono ?_;rintro e v1 ⟨rfl,mQ⟩;have P1:=xh (aB OD.o mQ);have BP1:=xh (BP.o.below P1.o BP.o.lt);have SP1:=xh (SP.o.below P1.o);have cl:=BP1.o.ab (i:=1) rfl;clear mQ;unfold Fr.nil Fr.agg;go_simp;refine aA hK (trivial) (λah=>?_);refine bY 6 29 λK hK=>?_;go_simp;obtain⟨v2,w2,ea,S2,Rz,Cz⟩:=append_nil SP1.o (by omega);obtain⟨A2,EP,rfl⟩:=au S2;have EA:=xh ea;have SP2:=xh S2;have OW2:=xh Rz
    have FR2:=xh Cz;have Nz:=xh (BP1.o.only OW2.o NB.o);clear ea S2 Rz Cz cl;refine aA hK (trivial) (λah=>?_);refine bY 7 30 λK hK=>?_;go_simp;rw[EA.o];go_simp;refine aA hK (trivial) (λah=>?_);refine bM [(8,31),(9,32)] ?_
    iterate 2 refine aG ?_
    refine dv 10 λK hK=>?_;go_simp;have q0:=Nz.o.ab (i:=1) rfl;have q1:=Nz.o.frozen 1 (by simp);go_simp;refine aA hK (trivial) (λah=>?_);refine wpAnyH_done (by kernel_rfl) ?_ _;have BP3:=Nz.o.bE 1 (.slice A2 (i+1) EP);have SP3:=SP2.o.only ((ag.refl [w.heap.size] w2).setCell (p:=⟨w.heap.size,1,none⟩) (by simp) (.slice A2 (i+1) EP)) (λg hg hm=>by simp at hm;subst hm;exact cU SP2.o Nz.o (by decide) hg)
    have O3:=Below.setCell (Ko OB.o P1.o OW2.o FR.o) (p:=⟨w.heap.size,1,none⟩) (ak _) (.slice A2 (i+1) EP);have yd:∀g∈ai (.slice A2 (i+1) EP),w.heap.size<=g:=λg hg=>(FR2.o g hg).elim (FR.o g) (λh=>by have:=OB.o.size;have:=P1.o.size;omega);have BP4:=xh BP3;have SP4:=xh SP3;have O4:=xh O3;have HFR:=xh yd;clear BP3 SP3 O3 yd q0 q1;go_wp2_with fail;go_roundw
    case rel=>
     refine⟨i+1,by omega,by go_num,.slice A2 (i+1) EP,BP4,?_,O4,HFR⟩;rw[show List.replicate (i+1) Fr.nil=List.replicate i Fr.nil++[Fr.nil]from qM];exact SP4
    case measure=>simp[intOf];omega
   .skip
    go_simp
    go_at_call 86
    refine(KE.o _).mono ?_;rintro e v1 ⟨rfl,mQ⟩;have P1:=xh (aB OD.o mQ);have BP1:=xh (BP.o.below P1.o BP.o.lt);have SP1:=xh (SP.o.below P1.o);have cl:=BP1.o.ab (i:=1) rfl;clear mQ;unfold Fr.nil Fr.agg;go_simp;refine aA hK (trivial) (λah=>?_);refine wpAnyH_ready (rs:=[4,6]) (by kernel_rfl) (by simp) ?_;refine AllReadyH.cons (o:=⟨some 27,_,_,_,_,_⟩) rfl (λK hK=>?_) (AllReadyH.cons (o:=⟨some 29,_,_,_,_,_⟩) rfl (λK hK=>?_) AllReadyH.nil)
    .skip
     go_simp;refine aA hK (trivial) (λah=>?_);refine bY 6 29 λK hK=>?_;go_simp;obtain⟨v2,w2,ea,S2,Rz,Cz⟩:=append_nil SP1.o (by omega);obtain⟨A2,EP,rfl⟩:=au S2;have EA:=xh ea;have SP2:=xh S2;have OW2:=xh Rz;have FR2:=xh Cz;have Nz:=xh (BP1.o.only OW2.o NB.o);clear ea S2 Rz Cz cl;refine aA hK (trivial) (λah=>?_);refine bY 7 30 λK hK=>?_;go_simp;rw[EA.o];go_simp;refine aA hK (trivial) (λah=>?_)
     refine bM [(8,31),(9,32)] ?_
     iterate 2 refine aG ?_
     refine dv 10 λK hK=>?_;go_simp;have q0:=Nz.o.ab (i:=1) rfl;have q1:=Nz.o.frozen 1 (by simp);go_simp;refine aA hK (trivial) (λah=>?_);refine wpAnyH_done (by kernel_rfl) ?_ _;have BP3:=Nz.o.bE 1 (.slice A2 (i+1) EP);have SP3:=SP2.o.only ((ag.refl [w.heap.size] w2).setCell (p:=⟨w.heap.size,1,none⟩) (by simp) (.slice A2 (i+1) EP)) (λg hg hm=>by simp at hm;subst hm;exact cU SP2.o Nz.o (by decide) hg)
     have O3:=Below.setCell (Ko OB.o P1.o OW2.o FR.o) (p:=⟨w.heap.size,1,none⟩) (ak _) (.slice A2 (i+1) EP);have yd:∀g∈ai (.slice A2 (i+1) EP),w.heap.size<=g:=λg hg=>(FR2.o g hg).elim (FR.o g) (λh=>by have:=OB.o.size;have:=P1.o.size;omega);have BP4:=xh BP3;have SP4:=xh SP3;have O4:=xh O3;have HFR:=xh yd;clear BP3 SP3 O3 yd q0 q1;go_wp2_with fail;go_roundw
     case rel=>
      refine⟨i+1,by omega,by go_num,.slice A2 (i+1) EP,BP4,?_,O4,HFR⟩;rw[show List.replicate (i+1) Fr.nil=List.replicate i Fr.nil++[Fr.nil]from qM];exact SP4
     case measure=>simp[intOf];omega
    .skip
     go_simp;obtain⟨v2,w2,ea,S2,Rz,Cz⟩:=append_nil SP1.o (by omega);obtain⟨A2,EP,rfl⟩:=au S2;have EA:=xh ea;have SP2:=xh S2;have OW2:=xh Rz;have FR2:=xh Cz;have Nz:=xh (BP1.o.only OW2.o NB.o);clear ea S2 Rz Cz cl;have cl:=(BP1.o.alloc (.cells #[.int .i64 (-1),.string ⟨#[]⟩,.int .i64 0,.bool false,.bool false] 167)).ab (i:=1) rfl;refine aA hK (trivial) (λah=>?_);refine bY 4 27 λK hK=>?_;go_simp
     refine aA hK (trivial) (λah=>?_);refine bY 7 30 λK hK=>?_;go_simp;rw[EA.o];go_simp;refine aA hK (trivial) (λah=>?_);refine bM [(8,31),(9,32)] ?_
     iterate 2 refine aG ?_
     refine dv 10 λK hK=>?_;go_simp;have q0:=Nz.o.ab (i:=1) rfl;have q1:=Nz.o.frozen 1 (by simp);go_simp;refine aA hK (trivial) (λah=>?_);refine wpAnyH_done (by kernel_rfl) ?_ _;have BP3:=Nz.o.bE 1 (.slice A2 (i+1) EP);have SP3:=SP2.o.only ((ag.refl [w.heap.size] w2).setCell (p:=⟨w.heap.size,1,none⟩) (by simp) (.slice A2 (i+1) EP)) (λg hg hm=>by simp at hm;subst hm;exact cU SP2.o Nz.o (by decide) hg)
     have O3:=Below.setCell (Ko OB.o P1.o OW2.o FR.o) (p:=⟨w.heap.size,1,none⟩) (ak _) (.slice A2 (i+1) EP);have yd:∀g∈ai (.slice A2 (i+1) EP),w.heap.size<=g:=λg hg=>(FR2.o g hg).elim (FR.o g) (λh=>by have:=OB.o.size;have:=P1.o.size;omega);have BP4:=xh BP3;have SP4:=xh SP3;have O4:=xh O3;have HFR:=xh yd;clear BP3 SP3 O3 yd q0 q1;go_wp2_with fail;go_roundw
     case rel=>
      refine⟨i+1,by omega,by go_num,.slice A2 (i+1) EP,BP4,?_,O4,HFR⟩;rw[show List.replicate (i+1) Fr.nil=List.replicate i Fr.nil++[Fr.nil]from qM];exact SP4
     case measure=>simp[intOf];omega
  .have e:i=k:=by omega
   subst e;go_wp2_with fail;go_ret2;exact⟨w.heap.size,v,by first|rfl|simp,BP.o,SP.o,OB.o,ak _,FR.o⟩
end Sh
namespace Sh
open Go.RowKit Pk Dk Pg
attribute [local go_sem ↓] Go.wp_at_zero Go.wp_at_succ
structure Y where
 x:X
 pb:Nat
 fg:Nat
 cp:Nat
structure PS where
 c:C
 l:List Fr
 hand:Nat
def pp(b:Nat):Value:= .pointer (some ⟨b,0,none⟩)
def Y.fp(y:Y):List Nat:=y.pb::y.fg::y.x.fp
structure ib(w:World)(y:Y)(n:Nat)(s:PS):Prop where
 hp:aJ w y.pb 143 #[sp y.x.b,.slice (some ⟨y.fg,0,none⟩) s.l.length y.cp,.int .i64 (s.hand:Nat)]
 hf:aT w 167 5 (.slice (some ⟨y.fg,0,none⟩) s.l.length y.cp) s.l.length (EM s.l)
 hs:At w y.x n s.c
 n1:y.pb∉y.x.fp
 n2:y.fg∉y.x.fp
 l1:1<=s.l.length
 l2:s.l.length<=32
 lh:s.hand<s.l.length
section
variable{w w':World}{y:Y}{n:Nat}{s:PS}{S:List Nat}
theorem ib.n3(h:ib w y n s):y.pb≠y.fg:=λe=>cU h.hf h.hp (by decide) (by simp[ai,e])
theorem ib.only(h:ib w y n s)(ho:ag S w w')(hd:∀g∈y.fp,g∉S):ib w' y n s:=
 ⟨h.hp.only ho (hd _ (by simp[Y.fp])),h.hf.only ho (λg hg=>hd g (by simp[ai]at hg;simp[Y.fp,hg])),h.hs.only ho (λg hg=>hd g (by simp[Y.fp,hg])),h.n1,h.n2,h.l1,h.l2,h.lh⟩
theorem ib.below(h:ib w y n s)(hb:Below w.heap.size w w'):ib w' y n s:=h.only (S:=[]) (.aj hb) (by simp)
theorem ib.drew(h:ib w y n s):ib w.drew y n s:=h.below ((Below.refl _ _).drew)
theorem ib.lt(h:ib w y n s):∀g∈y.fp,g<w.heap.size:=by
 intro g hg;simp only[Y.fp,an]at hg
 rcases hg with rfl|rfl|hg
 .exact h.hp.lt
 .exact h.hf.lt _ (by simp[ai])
 .exact h.hs.lt g hg
theorem ib.p0(h:ib w y n s):w.cell? ⟨y.pb,0,none⟩=some (.pointer (some ⟨y.x.b,0,none⟩)):=h.hp.ab rfl
theorem ib.p1(h:ib w y n s):w.cell? ⟨y.pb,1,none⟩=some (.slice (some ⟨y.fg,0,none⟩) s.l.length y.cp):=h.hp.ab rfl
theorem ib.p2(h:ib w y n s):w.cell? ⟨y.pb,2,none⟩=some (.int .i64 (s.hand:Nat)):=h.hp.ab rfl
theorem ib.yy(h:ib w y n s):xe w y.fg s.l:=by
 obtain⟨rest,B,_⟩:=h.hf.tx;exact .of B
theorem ib.store(h:ib w y n s){c':C}(p:∃x',x'.b=y.x.b/\x'.L=y.x.L/\At w' x' n c'/\ag y.x.fp w w'/\∀g∈x'.fp,g∈y.x.fp\/w.heap.size<=g):
  ∃y',y'.pb=y.pb/\y'.fg=y.fg/\y'.cp=y.cp/\y'.x.b=y.x.b/\y'.x.L=y.x.L/\ib w' y' n {s with c:=c'}/\ag y.fp w w'/\∀g∈y'.fp,g∈y.fp\/w.heap.size<=g:=by
 obtain⟨x',e1,e2,A,o,fr⟩:=p;have l1:=h.lt y.pb (by simp[Y.fp]);have l2:=h.lt y.fg (by simp[Y.fp]);refine⟨⟨x',y.pb,y.fg,y.cp⟩,rfl,rfl,rfl,e1,e2,⟨?_,h.hf.only o (λg hg=>by simp[ai]at hg;subst hg;exact h.n2),A,?_,?_,h.l1,h.l2,h.lh⟩,o.mono (λg hg _=>by simp[Y.fp,hg]),?_⟩
 .show aJ w' y.pb _ #[sp x'.b,_,_];rw[e1];exact h.hp.only o h.n1
 .exact λhg=>(fr _ hg).elim h.n1 (λh=>absurd l1 (yq.2 h))
 .exact λhg=>(fr _ hg).elim h.n2 (λh=>absurd l2 (yq.2 h))
 .intro g hg;simp only[Y.fp,an]at hg ⊢
  rcases hg with rfl|rfl|hg
  .exact .inl (.inl rfl)
  .exact .inl (.inr (.inl rfl))
  .exact(fr g hg).imp (λh=> .inr (.inr h)) id
end
theorem iS{w:World}{y:Y}{n:Nat}{s:PS}(h:ib w y n s)(l:Int):
  Calls prog 178 #[pp y.pb,.int .i64 l] w λe w'=>e=.returned (.int .i64 (findF s.l l))/\Below w.heap.size w w':=by
 have O0:=xh (ae (Below.refl w.heap.size w) (.cells #[.int .i64 l] 3));have B0:=xh (aJ.new w 3 #[.int .i64 l]);have H0:=h.below O0.o;have q0:=B0.o.ab (i:=0) rfl;have KI:=xh (Kl y.fg s.l.length y.cp w.heap.size l s.l H0.yy rfl (by have:=h.l2;omega) q0);have p1:=H0.p1;obtain⟨R,hR⟩:∃R,findF s.l l=R:=⟨_,rfl⟩;rw[hR];unfold findF at hR;generalize s.l.length=tn at *;clear H0 h;unfold pp
 by_cases h1:l<0
 .rw[if_pos h1]at hR;subst hR;go_enter func178,ntmps178;go_wp2_with fail;go_ret;exact aE O0.o
 .rw[if_neg h1]at hR;rw[hR]at KI;clear hR;go_enter func178,ntmps178;go_wp2_with fail;refine KI.o.mono ?_;rintro e w1 ⟨rfl,bf⟩;have O1:=xh (aB O0.o bf);clear bf;go_wp2_with fail;go_ret;exact aE O1.o
theorem frc_set(l:List Fr)(k j:Nat)(hj:j<5)(f f':Fr)(u:Value)(hf:l[k]?=some f)(hu:f'.cs=f.cs.set j u):(EM l).set (k*5+j) u=EM (l.set k f'):=by
 induction l generalizing k with
 |nil=>simp at hf
 |cons a l ih=>
  have e5:a.cs.length=5:=rfl
  cases k with
  |zero=>
   simp at hf;subst hf;simp only[EM,gW,List.set_cons_zero,qS,bg]at ih ⊢;rw[yk _ _ (by omega),hu]
  |succ k=>
   simp at hf;have:=ih k hf;simp only[EM,gW,List.set_cons_succ]at this ⊢;rw[qN _ _ (by omega),e5,show(k+1)*5+j-5=k*5+j from by omega,this]
section
variable{w w':World}{y:Y}{n:Nat}{s:PS}{S:List Nat}
theorem ib.fK(h:ib w y n s)(k j:Nat)(hj:j<5){f:Fr}(f':Fr)(u:Value)(hf:s.l[k]?=some f)(hu:f'.cs=f.cs.set j u):
  w.frozen? ⟨y.fg,k*5+j,none⟩=false/\ib (w.setCell ⟨y.fg,k*5+j,none⟩ u) y n {s with l:=s.l.set k f'}/\ag y.fp w (w.setCell ⟨y.fg,k*5+j,none⟩ u):=by
 have hk:k<s.l.length:=(aS.1 hf).1;have hl:=mA s.l;obtain⟨rest,B,hr,_,hm⟩:=h.hf.tx;have o:ag [y.fg] w (w.setCell ⟨y.fg,k*5+j,none⟩ u):=(ag.refl _ _).setCell (by simp) _;have B2:=B.bE (k*5+j) u;rw[tN,yk _ _ (by omega),frc_set s.l k j hj f f' u hf hu]at B2
 refine⟨B.frozen _ (by simp;omega),⟨?_,?_,h.hs.only o (λg hg hm=>by simp at hm;subst hm;exact h.n2 hg),h.n1,h.n2,by simpa using h.l1,by simpa using h.l2,by simpa using h.lh⟩,o.mono (λg hg _=>by simp at hg;subst hg;simp[Y.fp])⟩
 .have:=h.hp.only o (by simpa using h.n3);simpa using this
 .refine⟨by rw[mA],.inr ⟨y.fg,y.cp,rest,by simp,B2,by rw[mA,bW];omega,hm⟩⟩
theorem ib.setH(h:ib w y n s)(k:Nat)(hk:k<s.l.length):
  w.frozen? ⟨y.pb,2,none⟩=false/\ib (w.setCell ⟨y.pb,2,none⟩ (.int .i64 (k:Nat))) y n {s with hand:=k}/\ag y.fp w (w.setCell ⟨y.pb,2,none⟩ (.int .i64 (k:Nat))):=by
 have o:ag [y.pb] w (w.setCell ⟨y.pb,2,none⟩ (.int .i64 (k:Nat))):=(ag.refl _ _).setCell (by simp) _;have n3:=h.n3;refine⟨h.hp.frozen 2 (by simp),⟨h.hp.bE 2 _,h.hf.only o (λg hg hm=>by simp[ai]at hg hm;omega),h.hs.only o (λg hg hm=>by simp at hm;subst hm;exact h.n1 hg),h.n1,h.n2,h.l1,h.l2,hk⟩,o.mono (λg hg _=>by simp at hg;subst hg;simp[Y.fp])⟩
end
theorem ER(b:Fr->Bool)(l:List Fr):Gj b l= -1\/∃k f,Gj b l=((k:Nat):Int)/\l[k]?=some f/\b f=true:=by
 unfold Gj
 by_cases h:l.findIdx b<l.length
 .rw[if_pos h];exact .inr ⟨l.findIdx b,l[l.findIdx b],rfl,aL h,pL⟩
 .rw[if_neg h];exact .inl rfl
theorem gM(l:List Fr)(p:Int):findF l p= -1\/∃k f,findF l p=((k:Nat):Int)/\l[k]?=some f/\f.aq=p/\0<=p:=by
 unfold findF
 by_cases h:p<0
 .rw[if_pos h];exact .inl rfl
 .rw[if_neg h];exact(ER _ l).imp id (λ⟨k,f,e1,e2,e3⟩=>⟨k,f,e1,e2,by simpa using e3,by omega⟩)
def PS.iA(s:PS)(p:Int):Option (Nat×Fr):=
 if findF s.l p<0 then none else match s.l[(findF s.l p).toNat]? with
  |none=>none
  |some f=>if f.held=0 then none else some ((findF s.l p).toNat,f)
def ug(y:Y):Option (Nat×Fr)->Value
 |none=> .tuple #[.pointer none,.int .i64 16]
 |some (k,_)=> .tuple #[.pointer (some ⟨y.fg,k*5,none⟩),.int .i64 0]
theorem zb{w:World}{y:Y}{n:Nat}{s:PS}(h:ib w y n s)(p:Int):
  Calls prog 230 #[pp y.pb,.int .i64 p] w λe w'=>e=.returned (ug y (s.iA p))/\Below w.heap.size w w':=by
 have KF:=xh (iS h p);have HB:=xh (λw' (hb:Below w.heap.size w w')=>h.below hb);obtain⟨R,hR⟩:∃R,ug y (s.iA p)=R:=⟨_,rfl⟩;rw[hR];unfold PS.iA at hR;unfold pp at *
 rcases gM s.l p with e|⟨k,f,e,hf,_,_⟩
 .rw[e,if_pos (by omega)]at hR;rw[e]at KF;subst hR;unfold ug;clear h e;go_enter func230,ntmps230;go_wp2_with fail;refine KF.o.mono ?_;rintro e w1 ⟨rfl,bf⟩;have O1:=xh bf;clear bf;go_wp2_with fail;go_ret2;exact aE O1.o
 .rw[e,if_neg (by omega),show((k:Nat):Int).toNat=k from by omega,hf]at hR;rw[e]at KF;have hk:k<s.l.length:=(aS.1 hf).1;have Kh:(k:Int)<(s.l.length:Int):=by omega
  have PF:¬(k:Int)<0:=by omega
  have HX:=xh (λw' (hb:Below w.heap.size w w')=>(show w'.cell? ⟨y.pb,1,none⟩=some (.slice (some ⟨y.fg,0,none⟩) s.l.length y.cp)/\w'.cell? ⟨y.fg,k*5+2,none⟩=some (.int .i64 f.held)from⟨(HB.o w' hb).p1,((HB.o w' hb).yy k f hf).2.2.1⟩));have HL:=xh (show s.l.length<=32 from h.l2);dsimp only at hR
  by_cases hh:f.held=0
  .rw[if_pos hh]at hR;subst hR;have hq:(f.held==0)=true:=by rw[beq_iff_eq];exact hh
   unfold ug;clear h e hf hk hh;generalize f.held=fh at *;generalize s.l.length=tn at *;go_enter func230,ntmps230;go_wp2_with fail;refine KF.o.mono ?_;rintro e w1 ⟨rfl,bf⟩;have O1:=xh bf;obtain⟨x1,x2⟩:=HX.o w1 bf;clear bf;go_wp2_with fail;go_ret2;exact aE O1.o
  .rw[if_neg hh]at hR;subst hR;have hq:(f.held==0)=false:=by rw[beq_eq_false_iff_ne];exact hh
   unfold ug;clear h e hf hk hh;generalize f.held=fh at *;generalize s.l.length=tn at *;go_enter func230,ntmps230;go_wp2_with fail;refine KF.o.mono ?_;rintro e w1 ⟨rfl,bf⟩;have O1:=xh bf;obtain⟨x1,x2⟩:=HX.o w1 bf;clear bf;go_wp2_with fail;go_ret2;exact aE O1.o
variable{w:World}{y:Y}{n:Nat}
def PS.iI(s:PS)(p:Int):PS×Int:=match s.iA p with
 |none=>(s,16)
 |some (k,f)=>({s with l:=s.l.set k {f with held:=f.held-1}},0)
theorem zf{s:PS}{p:Int}{k:Nat}{f:Fr}(h:s.iA p=some (k,f)):s.l[k]?=some f/\f.held≠0/\findF s.l p=k:=by
 unfold PS.iA at h
 rcases gM s.l p with e|⟨j,g,e,hf,_,_⟩
 .rw[e,if_pos (by omega)]at h
  cases h
 .rw[e,if_neg (by omega),show((j:Nat):Int).toNat=j from by omega,hf]at h;dsimp only at h
  split at h
  .cases h
  .rename_i hh;injection h with h
   injection h with h1 h2
   subst h1 h2;exact⟨hf,hh,e⟩
def PostP(w w':World)(y:Y)(n:Nat)(s':PS):Prop:= ∃y',y'.pb=y.pb/\y'.fg=y.fg/\y'.cp=y.cp/\y'.x.b=y.x.b/\y'.x.L=y.x.L/\ib w' y' n s'/\ag y.fp w w'/\∀g∈y'.fp,g∈y.fp\/w.heap.size<=g
theorem let_any{s:PS}(h:ib w y n s)(p:Int)(hb:∀f∈s.l,-1000<=f.held/\f.held<=4000000000000):
  Calls prog 214 #[pp y.pb,.int .i64 p] w λe w'=>e=.returned (.int .i64 (s.iI p).2)/\ib w' y n (s.iI p).1/\ag y.fp w w':=by
 have KH:=xh (zb h p);have HB:=xh (λw' (hb:Below w.heap.size w w')=>h.below hb);obtain⟨R,hR⟩:∃R,s.iI p=R:=⟨_,rfl⟩;rw[hR];unfold PS.iI at hR;unfold pp at *
 cases hd:s.iA p with
 |none=>
  rw[hd]at hR KH;dsimp only at hR;subst hR;unfold ug at KH;clear h hd hb;go_enter func214,ntmps214;go_wp2_with fail;refine KH.o.mono ?_;rintro e w1 ⟨rfl,bf⟩;have O1:=xh bf;clear bf;go_wp2_with fail;go_ret;exact aE ⟨HB.o _ O1.o,.aj O1.o⟩
 |some r=>
  obtain⟨k,f⟩:=r;obtain⟨hf,hh,_⟩:=zf hd;rw[hd]at hR KH;dsimp only at hR;subst hR;have hfb:=hb f (ay hf);have HS:=xh (λw' (hb:Below w.heap.size w w')=>(HB.o w' hb).fK k 2 (by omega) {f with held:=f.held-1} (.int .i64 (f.held-1)) hf rfl);have HC:=xh (λw' (hb:Below w.heap.size w w')=>((HB.o w' hb).yy k f hf).2.2.1);have m1:IntKind.i64.wrap (f.held-1)=f.held-1:=IntWalk.i64_in _ (by omega);unfold ug at KH;clear h hd hb hf hfb hh
  generalize f.held=fh at *;go_enter func214,ntmps214;go_wp2_with fail;refine KH.o.mono ?_;rintro e w1 ⟨rfl,bf⟩;have O1:=xh bf;obtain⟨z1,A1,o1⟩:=HS.o w1 bf;have A1:=xh A1;have o1:=xh o1;have c1:=HC.o w1 bf;clear bf;go_wp2_with fail;go_ret;exact aE ⟨A1.o,(ag.aj O1.o).trans o1.o⟩
theorem PH{s:PS}(h:ib w y n s)(v:ByteArray)(hs:v.size<=9223372036854775807)(Gf:0<=s.c.ep/\s.c.ep<=1099511627776)(hc:s.c.d.calls<=3999999999999999990)(hr:s.c.d.bt<=9223372036854775807):
  Calls prog 69 #[pp y.pb,.string v] w λe w'=>e=.returned (.tuple #[.int .i64 (s.c.bV n v.data.toList).2.1,.int .i64 (s.c.bV n v.data.toList).2.2])/\PostP w w' y n {s with c:=(s.c.bV n v.data.toList).1}:=by
 have KN:=xh (new_any h.hs v hs Gf hc hr);have HP:=xh (λw' (p:yb w w' y.x n (s.c.bV n v.data.toList).1)=>(show PostP w w' y n {s with c:=(s.c.bV n v.data.toList).1}from h.store p));have p0:=h.p0;generalize (s.c.bV n v.data.toList)=R at *;clear h hs Gf hc hr;unfold pp sp at *;go_enter func69,ntmps69;go_wp2_with fail;refine KN.o.mono ?_;rintro e w1 ⟨rfl,P1⟩;have P2:=xh (HP.o w1 P1);clear P1;go_wp2_with fail;go_ret2;exact aE P2.o
theorem Kp{s:PS}(h:ib w y n s):
  Calls prog 28 #[pp y.pb] w λe w'=>e=.returned (sp y.x.b)/\w=w':=by
 have p0:=h.p0;clear h;unfold pp sp at *;go_enter func28,ntmps28;go_wp2_with fail;go_ret;exact aE rfl
end Sh
end Go.Proofs.YtmonobkginiajaaGreat
