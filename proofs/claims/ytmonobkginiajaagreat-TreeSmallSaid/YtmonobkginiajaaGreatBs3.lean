/- packed. -/
import Derived.ChangeKeysEq
import Derived.Test.YtmonobkginiajaaGreatBs2
set_option linter.all false
set_option maxRecDepth 100000
set_option maxHeartbeats 8000000
namespace Go.Proofs.YtmonobkginiajaaGreat
open Go.Proofs.Tryz
namespace Rt
open Go.RowKit Pk
attribute [local go_sem ↓] Go.wp_at_zero Go.wp_at_succ
variable{w:World}{A:Option Addr}{n:Nat}{l:List Int}
theorem ae{W w1:World}(h:Below W.heap.size W w1)(o:Obj):Below W.heap.size W (w1.alloc o):=h.alloc h.size o
theorem bool_of(p:Prop):∃b:Bool,b=true↔p:=by
 by_cases h:p
 .exact⟨true,by simp[h]⟩
 .exact⟨false,by simp[h]⟩
def ji(w:World)(A:Option Addr)(n:Nat)(l:List Int):Prop:=l.length=n/\∀k x,l[k]?=some x->∃ad,A=some ad/\w.cell? (ad.add k)=some (.int .i64 x)
theorem ji.below{w':World}(h:ji w A n l)(hb:Below w.heap.size w w'):ji w' A n l:=by
 refine⟨h.1,λk x hx=>?_⟩;obtain⟨ad,e1,h1⟩:=h.2 k x hx;exact⟨ad,e1,(hb.cell (by rw[tQ];exact cell_lt h1)).trans h1⟩
theorem ji.at(h:ji w A n l)(k:Nat)(hk:k<n):∃ad x,A=some ad/\l[k]?=some x/\w.cell? (ad.add k)=some (.int .i64 x):=by
 have hl:=h.1;obtain⟨ad,e1,h1⟩:=h.2 k l[k] (aG (by omega));exact⟨ad,l[k],e1,aG (by omega),h1⟩
theorem ji.take(h:ji w A n l)(k:Nat)(hk:k<=n):ji w A k (l.take k):=by
 refine⟨by rw[bK];have:=h.1;omega,λj x hx=>?_⟩;rw[sy]at hx
 split at hx
 .exact h.2 j x hx
 .cases hx
def mV(n:Int):Int:=(max n 0+115) / 116
def CO(a b:Int)(A:Option Addr)(n c:Nat):Value:= .agg #[.int .i64 a,.int .i64 b,.slice A n c]
def iC(ep lg:Int)(l:List Int):Prop:=1<=ep/\ep<=1099511627776/\0<=lg/\lg<=512/\(l.length:Int)=mV lg/\∀i x,l[i]?=some x->0<=x/\x<=1023/\x∉l.take i
theorem zu(n:Int)(h:n<=1000000)(w:World):
  Calls prog 149 #[.int .i64 n] w λe w'=>e=.returned (.int .i64 (mV n))/\Below w.heap.size w w':=by
 unfold mV;obtain⟨m,hm⟩:=eT (show 0<=max n 0 by omega);rw[hm];have NK:m<=1000000:=by omega
 have e1:IntKind.i64.wrap ((m:Int)+116)=(m:Int)+116:=IntWalk.i64_in _ (by omega);have e2:IntKind.i64.wrap ((m:Int)+116-1)=(m:Int)+115:=by rw[show(m:Int)+116-1=(m:Int)+115 by omega];exact IntWalk.i64_in _ (by omega)
 have e3:IntKind.i64.wrap (((m:Int)+115).tdiv 116)=((m:Int)+115) / 116:=by rw[JJ (by omega)];exact IntWalk.i64_in _ (by omega)
 have e4:IntKind.i64.wrap ((m:Int)+115)=(m:Int)+115:=IntWalk.i64_in _ (by omega);go_enter func149,ntmps149;go_wp2_with fail
 all_goals
  go_ret;refine⟨?_,Below.refl _ _⟩
  first|(simp;done)|(simp;omega)
theorem qV(A:Option Addr)(n c:Nat)(l:List Int)(x:Int)(h:ji w A n l)(hn:n<=1000000):
  Calls prog 165 #[.slice A n c,.int .i64 x] w λe w'=>(∃k:Int,e=.returned (.int .i64 k)/\(0<=k↔x∈l))/\w'=w:=by
 have H0:=xh h;go_enter func165,ntmps165;go_wp2_with fail
 go_loopw [8] (λiv wr=> ∃i:Nat,i<=n/\iv=.int .i64 i/\Hid (∀j y,j<i->l[j]?=some y->y≠x)/\wr=w) (λiv _=>n-(intOf iv).toNat)
 case atStart=>exact⟨0,bf _,rfl,xh (λj y h=>absurd h (kZ _)),rfl⟩
 case round=>
  obtain⟨i,hi,rfl,HX,rfl⟩:=hrel
  by_cases h':i<n
  .obtain⟨ad,y,rfl,hy,ck⟩:=H0.o.at i h';have hiI:(i:Int)<(n:Int):=by omega
   have HY:=xh hy;clear hy h
   by_cases hxy:x=y
   .subst hxy;go_wp2_with fail;go_ret;refine⟨⟨(i:Int),rfl,?_⟩,rfl⟩;exact⟨λ_=>ay HY.o,λ_=>by omega⟩
   .have hxy2:(x==y)=false:=by simpa using hxy
    have HX2:=xh (show ∀j z,j<i+1->l[j]?=some z->z≠x from λj z hj hz=>by
     rcases oh.1 hj with h1|rfl
     .exact HX.o j z h1 hz
     .rw[HY.o]at hz;injection hz with hz;subst hz;exact λe=>hxy e.symm)
    go_wp2_with fail;go_roundw
    case rel=>exact⟨i+1,by omega,by go_num,HX2,by first|rfl|trivial⟩
    case measure=>simp[intOf];omega
  .obtain rfl:i=n:=by omega
   clear h;go_wp2_with fail;go_ret;refine⟨⟨-1,rfl,?_⟩,rfl⟩
   constructor
   .intro h1;omega
   .intro hm;exfalso;obtain⟨j,hj,hjx⟩:=n8 hm;exact HX.o j _ (by have:=H0.o.1;omega) (aG hj) hjx
theorem EY(A:Option Addr)(n c:Nat)(l:List Int)(x:Int)(h:ji w A n l)(hn:n<=1000000)(b:Bool)(hb:b=true↔x∈l):
  Calls prog 201 #[.slice A n c,.int .i64 x] w λe w'=>e=.returned (.bool b)/\w'=w:=by
 have K:=xh (qV A n c l x h hn);have HB:=xh hb;clear h hb;go_enter func201,ntmps201;go_wp2_with fail;refine K.o.mono ?_;rintro e w1 ⟨⟨k,rfl,hk⟩,rfl⟩;have HK:=xh hk;clear hk
 by_cases h0:0<=k
 .have h1:¬k<0:=by omega
  go_wp2_with fail;go_ret;refine⟨?_,rfl⟩;rw[HB.o.2 (HK.o.1 h0)];first|rfl|simp
 .have h1:k<0:=by omega
  go_wp2_with fail;go_ret;refine⟨?_,rfl⟩
  cases b
  .first|rfl|(simp;omega)
  .exact absurd (HK.o.2 (HB.o.1 rfl)) (by omega)
theorem kF{ep lg:Int}{l:List Int}(h:iC ep lg l):l.length<=5:=by
 have:=h.2.2.2.2.1;unfold mV at this;have:=h.2.2.2.1;omega
theorem vz{w:World}(ep lg:Int)(A:Option Addr)(n c:Nat)(l:List Int)(h:ji w A n l)(hn:n<=1000000)(J1:n<=c)(b:Bool)(hb:b=true↔iC ep lg l):
  Calls prog 156 #[CO ep lg A n c] w λe w'=>e=.returned (.bool b)/\Below w.heap.size w w':=by
 have O0:=ae (Below.refl w.heap.size w) (.cells #[.int .i64 ep,.int .i64 lg,.slice A n c] 155);have B0:=xh (aF.new w 155 #[.int .i64 ep,.int .i64 lg,.slice A n c]);have H0:=xh (h.below O0);have HB:=xh hb;have HL:=xh h.1;have O0:=xh O0;clear h hb;unfold CO;have KN:=xh (λ(hl:lg<=512) w=>zu lg (by omega) w);go_enter func156,ntmps156;go_wp2_with fail;generalize hW:(w.alloc (.cells #[.int .i64 ep,.int .i64 lg,.slice A n c] 155))=W at *
 clear hW;have HK:=xh (show ∀W',Below W.heap.size W W'->(W'.cell? ⟨w.heap.size,0,none⟩=some (.int .i64 ep)/\W'.cell? ⟨w.heap.size,1,none⟩=some (.int .i64 lg)/\W'.cell? ⟨w.heap.size,2,none⟩=some (.slice A n c))from λW' ho=>⟨(B0.o.below ho B0.o.lt).ab (i:=0) rfl,(B0.o.below ho B0.o.lt).ab (i:=1) rfl,(B0.o.below ho B0.o.lt).ab (i:=2) rfl⟩);have OD:=xh ((Below.refl W.heap.size W).drew)
 refine wp_region_held_drew (S:=λW'=>W'.cell? ⟨w.heap.size,0,none⟩=some (.int .i64 ep)/\W'.cell? ⟨w.heap.size,1,none⟩=some (.int .i64 lg)/\W'.cell? ⟨w.heap.size,2,none⟩=some (.slice A n c)) (by kernel_rfl) (HK.o _ OD.o) (λau=>?_);refine cP [(0,5),(1,6)] ?_
 iterate 2 refine bj ?_
 refine zpe ?_;have CH:(ep<1)\/(¬ep<1/\1099511627776<ep)\/(¬ep<1/\¬1099511627776<ep/\lg<0)\/(¬ep<1/\¬1099511627776<ep/\¬lg<0/\512<lg)\/(¬ep<1/\¬1099511627776<ep/\¬lg<0/\¬512<lg):=by omega
 rcases CH with h1|⟨h1,h2⟩|⟨h1,h2,h3⟩|⟨h1,h2,h3,h4⟩|⟨h1,h2,h3,h4⟩
 refine pI 2 7 (.bool true) ?_ ?_
 ·(intro w rL;(try dsimp only at rL);go_simp;(try omega))
 refine cP [(3,8)] ?_
 iterate 1 refine bj ?_
 refine cA 4 9 ?_;refine cA 5 10 ?_;refine cA 6 11 ?_;refine cP [(7,12),(8,13)] ?_
 iterate 2 refine bj ?_
 refine cA 9 14 ?_;refine cA 10 15 ?_;refine cA 11 16 ?_;refine cP [(12,17),(13,18)] ?_
 iterate 2 refine bj ?_
 refine cA 14 19 ?_;refine cA 15 20 ?_;refine cA 16 21 ?_;refine cP [(17,22),(18,23)] ?_
 iterate 2 refine bj ?_
 refine cA 19 24 ?_;refine cA 20 25 ?_;refine cA 21 26 ?_;refine cA 22 27 ?_;refine cA 23 28 ?_;refine cA 24 29 ?_;refine cA 25 30 ?_;refine cP [(26,31)] ?_
 iterate 1 refine bj ?_
 refine wpAnyH_done (by kernel_rfl) ?_ _;rotate_left;refine pI 2 7 (.bool false) ?_ ?_
 ·(intro w rL;(try dsimp only at rL);go_simp;(try omega))
 refine cP [(3,8),(4,9),(5,10)] ?_
 iterate 3 refine bj ?_
 refine pI 6 11 (.bool true) ?_ ?_
 ·(intro w rL;(try dsimp only at rL);go_simp;(try omega))
 refine cP [(7,12),(8,13)] ?_
 iterate 2 refine bj ?_
 refine cA 9 14 ?_;refine cA 10 15 ?_;refine cA 11 16 ?_;refine cP [(12,17),(13,18)] ?_
 iterate 2 refine bj ?_
 refine cA 14 19 ?_;refine cA 15 20 ?_;refine cA 16 21 ?_;refine cP [(17,22),(18,23)] ?_
 iterate 2 refine bj ?_
 refine cA 19 24 ?_;refine cA 20 25 ?_;refine cA 21 26 ?_;refine cA 22 27 ?_;refine cA 23 28 ?_;refine cA 24 29 ?_;refine cA 25 30 ?_;refine cP [(26,31)] ?_
 iterate 1 refine bj ?_
 refine wpAnyH_done (by kernel_rfl) ?_ _;rotate_left;refine pI 2 7 (.bool false) ?_ ?_
 ·(intro w rL;(try dsimp only at rL);go_simp;(try omega))
 refine cP [(3,8),(4,9),(5,10)] ?_
 iterate 3 refine bj ?_
 refine pI 6 11 (.bool false) ?_ ?_
 ·(intro w rL;(try dsimp only at rL);go_simp;(try omega))
 refine cP [(7,12),(8,13),(9,14),(10,15)] ?_
 iterate 4 refine bj ?_
 refine pI 11 16 (.bool true) ?_ ?_
 ·(intro w rL;(try dsimp only at rL);go_simp;(try omega))
 refine cP [(12,17),(13,18)] ?_
 iterate 2 refine bj ?_
 refine cA 14 19 ?_;refine cA 15 20 ?_;refine cA 16 21 ?_;refine cP [(17,22),(18,23)] ?_
 iterate 2 refine bj ?_
 refine cA 19 24 ?_;refine cA 20 25 ?_;refine cA 21 26 ?_;refine cA 22 27 ?_;refine cA 23 28 ?_;refine cA 24 29 ?_;refine cA 25 30 ?_;refine cP [(26,31)] ?_
 iterate 1 refine bj ?_
 refine wpAnyH_done (by kernel_rfl) ?_ _;rotate_left;refine pI 2 7 (.bool false) ?_ ?_
 ·(intro w rL;(try dsimp only at rL);go_simp;(try omega))
 refine cP [(3,8),(4,9),(5,10)] ?_
 iterate 3 refine bj ?_
 refine pI 6 11 (.bool false) ?_ ?_
 ·(intro w rL;(try dsimp only at rL);go_simp;(try omega))
 refine cP [(7,12),(8,13),(9,14),(10,15)] ?_
 iterate 4 refine bj ?_
 refine pI 11 16 (.bool false) ?_ ?_
 ·(intro w rL;(try dsimp only at rL);go_simp;(try omega))
 refine cP [(12,17),(13,18),(14,19),(15,20)] ?_
 iterate 4 refine bj ?_
 refine pI 16 21 (.bool true) ?_ ?_
 ·(intro w rL;(try dsimp only at rL);go_simp;(try omega))
 refine cP [(17,22),(18,23)] ?_
 iterate 2 refine bj ?_
 refine cA 19 24 ?_;refine cA 20 25 ?_;refine cA 21 26 ?_;refine cA 22 27 ?_;refine cA 23 28 ?_;refine cA 24 29 ?_;refine cA 25 30 ?_;refine cP [(26,31)] ?_
 iterate 1 refine bj ?_
 refine wpAnyH_done (by kernel_rfl) ?_ _;rotate_left
 .replace KN:=xh (KN.o (by omega))
  obtain⟨nd,Ct⟩:∃nd,mV lg=nd:=⟨_,rfl⟩;have HND:=xh Ct;rw[Ct]at KN;clear Ct;refine pI 2 7 (.bool false) ?_ ?_
  ·(intro w rL;(try dsimp only at rL);go_simp;(try omega))
  refine cP [(3,8),(4,9),(5,10)] ?_
  iterate 3 refine bj ?_
  refine pI 6 11 (.bool false) ?_ ?_
  ·(intro w rL;(try dsimp only at rL);go_simp;(try omega))
  refine cP [(7,12),(8,13),(9,14),(10,15)] ?_
  iterate 4 refine bj ?_
  refine pI 11 16 (.bool false) ?_ ?_
  ·(intro w rL;(try dsimp only at rL);go_simp;(try omega))
  refine cP [(12,17),(13,18),(14,19),(15,20)] ?_
  iterate 4 refine bj ?_
  refine pI 16 21 (.bool false) ?_ ?_
  ·(intro w rL;(try dsimp only at rL);go_simp;(try omega))
  refine cP [(17,22),(18,23),(19,24),(20,25),(21,26),(22,27),(23,28)] ?_
  iterate 7 refine bj ?_
  refine cQ 24 29 λK hK=>?_;go_simp
  go_at_call 149
  refine(KN.o _).mono ?_;rintro r w2 ⟨rfl,dn⟩;have P2:=xh (aC OD.o dn);go_simp;refine bz hK (HK.o _ P2.o) (λau=>?_)
  by_cases h5:(n:Int)=nd
  rotate_left
  .skip
   refine pI 25 30 (.bool true) ?_ ?_
   ·(intro w rL;(try dsimp only at rL);go_simp;(try omega))
   refine cP [(26,31)] ?_
   iterate 1 refine bj ?_
   refine wpAnyH_done (by kernel_rfl) ?_ _;have PP:=xh (aC O0.o P2.o);go_wp2_with fail;go_ret;refine⟨?_,PP.o⟩
   cases b
   .first|rfl|simp
   .exfalso;have hr:=HB.o.1 rfl;have hl:=HL.o;unfold iC at hr;rw[HND.o]at hr;omega
  refine pI 25 30 (.bool false) ?_ ?_
  ·(intro w rL;(try dsimp only at rL);go_simp;(try omega))
  refine cP [(26,31)] ?_
  iterate 1 refine bj ?_
  refine wpAnyH_done (by kernel_rfl) ?_ _;have PP:=xh (aC O0.o P2.o);have B2:=xh (B0.o.below P2.o B0.o.lt);have H2:=xh (H0.o.below P2.o);have y2:w2.cell? ⟨w.heap.size,2,none⟩=some (.slice A n c):=B2.o.ab (i:=2) rfl;go_wp2_with fail
  go_loopw [35] (λiv wr=> ∃i:Nat,i<=n/\iv=.int .i64 i/\Hid (∀j x,j<i->l[j]?=some x->0<=x/\x<=1023/\x∉l.take j)/\wr=w2) (λiv _=>n-(intOf iv).toNat)
  case atStart=>exact⟨0,bf _,rfl,xh (λj x h=>absurd h (kZ _)),rfl⟩
  case round=>
   obtain⟨i,hi,rfl,HX,rfl⟩:=hrel
   by_cases h':i<n
   .obtain⟨ad,x,rfl,hx,ck⟩:=H2.o.at i h';have hiI:(i:Int)<(n:Int):=by omega
    have HXX:=xh hx;have HT:=xh (H2.o.take i (by omega));clear hx;have NO:=xh (show ¬(0<=x/\x<=1023/\x∉l.take i)->b=false from λKm=>by
     cases b
     .rfl
     .exact absurd ((HB.o.1 rfl).2.2.2.2.2 i x HXX.o) Km)
    by_cases x0:x<0
    .go_wp2_with fail;go_ret;refine⟨?_,PP.o⟩;rw[NO.o (by omega)];first|rfl|simp
    .by_cases x1:1023<x
     .go_wp2_with fail;go_ret;refine⟨?_,PP.o⟩;rw[NO.o (by omega)];first|rfl|simp
     .obtain⟨q,hq⟩:=bool_of (x∈l.take i);have KC:=xh (EY (w:=wr) (some ad) i c (l.take i) x HT.o (by omega) q hq);have HQ:=xh hq;have hc:(i:Int)<=(c:Int):=by omega
      clear hq;go_wp2_with fail;refine KC.o.mono ?_;rintro e w3 ⟨rfl,rfl⟩
      cases q
      .have HX2:=xh (show ∀j z,j<i+1->l[j]?=some z->0<=z/\z<=1023/\z∉l.take j from λj z hj hz=>by
        rcases oh.1 hj with h1|rfl
        .exact HX.o j z h1 hz
        .rw[HXX.o]at hz;injection hz with hz;subst hz
         exact⟨by omega,by omega,λhm=>by have:=HQ.o.2 hm;cases this⟩)
       go_wp2_with fail;go_roundw
       case rel=>exact⟨i+1,by omega,by go_num,HX2,by first|rfl|trivial⟩
       case measure=>simp[intOf];omega
      .go_wp2_with fail;go_ret;refine⟨?_,PP.o⟩;rw[NO.o (λhx=>hx.2.2 (HQ.o.1 (by trivial)))];first|rfl|simp
   .obtain rfl:i=n:=by omega
    go_wp2_with fail;go_ret;refine⟨?_,PP.o⟩;have:iC ep lg l:=⟨by omega,by omega,by omega,by omega,by rw[HND.o,HL.o];exact h5,λj x hx=>HX.o j x (by have:=(aM.1 hx).1;rw[HL.o]at this;exact this) hx⟩;rw[HB.o.2 this];first|rfl|simp
 all_goals
  have PP:=xh (aC O0.o OD.o);go_wp2_with fail;go_ret;refine⟨?_,PP.o⟩
  cases b
  .first|rfl|simp
  .exfalso;have hr:=HB.o.1 rfl;have hl:=HL.o;unfold iC at hr;omega
attribute [local go_sem ↓] bw
variable{w:World}
def eS(n:Nat):List UInt8:=[UInt8.ofNat (n / 256),UInt8.ofNat n]
theorem E3{P:Program}{e:TypeId}{v:Value}{n:Nat}{l:List Value}(S:aS w e 1 v n l)
 (T ty:TypeId)(z:Value)(bytes:Nat)(ht:P.underlying T=some (.slice e))(nA:(P.info? e).map (λi=>(i.zero,i.size,i.bytes))=some (some z,1,bytes))(hz:z.cells.size=1)
 (news:List Value)(hx:∀u∈news,u.oneCell'=true)(Gx:n+news.length<=maxLen)(hb:(n+news.length)*bytes<=140737488355328):
  ∃v' w',dZ P T ty (w.alloc (.cells news.toArray e)) v (.slice (some ⟨w.heap.size,0,none⟩) news.length news.length)= .ok v' w'/\aS w' e 1 v' (n+news.length) (l++news)/\ag (ah v) w w'/\(∀g∈ah v',g∈ah v\/w.heap.size<=g):=by
 obtain⟨i0,hi,ku,js,ki⟩:=info_parts nA;obtain⟨v',w',h1,h2,h3,h4⟩:=dC (P:=P) (S.alloc (.cells news.toArray e)) T ty i0 z bytes ht hi ku js ki hz (by omega)
  ⟨w.heap.size,0,none⟩ news.length news.length news (by simp) (bq (l:=news) (aF.new w e news.toArray) 0 _ (by intro j u hu;rw[bl];exact hu)) hx Gx hb
 exact⟨v',w',h1,h2,((ag.refl _ _).alloc _).aL h3 (λx hx _=>hx),λg hg=>(h4 g hg).imp id (λh=>by simp at h;omega)⟩
theorem fe(v:Value)(k:Nat)(l:List UInt8)(S:aS w 5 1 v k (dN l))(n:Nat)(hn:n<=65535)(hk:k<=1000):
  Calls prog 157 #[v,.int .i64 (n:Nat)] w λe w'=>(∃v',e=.returned v'/\aS w' 5 1 v' (k+2) (dN (l++eS n))/\(∀g∈ah v',g∈ah v\/w.heap.size<=g))/\ag (ah v) w w':=by
 obtain⟨A,c,rfl⟩:=ax S;have e0:Value.int .u8 ((n:Int) / 256)=bv (UInt8.ofNat (n / 256)):=by
  unfold bv
  congr 1
  rw[iN];omega
 have e1:Value.int .u8 ((n:Int) % 256)=bv (UInt8.ofNat n):=by
  unfold bv;rfl
 obtain⟨v',w2,ea,S2,ow,fr⟩:=E3 (P:=prog) S 150 150 (.int .u8 0) 1 underlying150 jB.eR rfl [.int .u8 ((n:Int) / 256),.int .u8 ((n:Int) % 256)] (by intro u hu;simp at hu;rcases hu with rfl|rfl<;>rfl) (by simp;unfold maxLen;omega) (by simp;omega);obtain⟨V2,iP,rfl⟩:=ax S2
 have EA:=xh (show dZ prog 150 150 (w.alloc (.cells #[.int .u8 ((n:Int) / 256),.int .u8 ((n:Int) % 256)] 5)) (.slice A k c) (.slice (some ⟨w.heap.size,0,none⟩) 2 2)= .ok (.slice V2 (k+2) iP) w2 from ea);have SX:=xh (show aS w2 5 1 (.slice V2 (k+2) iP) (k+2) (dN (l++eS n))from by
  rw[e0,e1]at S2;rw[di];exact S2)
 have OX:=xh ow;have FX:=xh fr;have m1:IntKind.u8.wrap ((n:Int) / 256)=(n:Int) / 256:=IntWalk.u8_in _ (by omega);clear ea S2 ow fr S e0 e1;go_enter func157,ntmps157;go_wp2_with fail;rw[EA.o];go_wp2_with fail;go_ret;exact⟨⟨_,rfl,SX.o,FX.o⟩,OX.o⟩
def ni(lg:Nat)(l:List Nat):List UInt8:=(eS lg++eS l.length++(l++List.replicate (5-l.length) 0).flatMap eS)++List.replicate 30 0
def eV(ep:Int)(lg:Nat)(l:List Nat):List UInt8:=fC ep++jB.bH (ni lg l)++fC ep
def lenV:Value->Nat
 |.slice _ n _=>n
 |_=>0
theorem Tx(a0 a1 a2 a3 a4:Int)(w:World)(k:Nat)(x:Value)(hx: #[Value.int .i64 a0,.int .i64 a1,.int .i64 a2,.int .i64 a3,.int .i64 a4][k]?=some x):
  (Instr.index 231 (.agg #[.int .i64 a0,.int .i64 a1,.int .i64 a2,.int .i64 a3,.int .i64 a4]) (.int .i64 (k:Int))).run prog w=.ok x w:=by
 have hu:prog.underlying 231=some (.array 5 3):=by kernel_rfl
 have hm:(prog.info? 3).map (·.size)=some 1:=by kernel_rfl
 have hp:prog.plainKey 3=true:=by kernel_rfl
 have hk:k<5:=by
  rcases dX k 5 with h|h
  .exact h
  .rw[Sj (by simpa using h)]at hx;cases hx
 cases hq:prog.info? 3 with
 |none=>simp[hq]at hm
 |some i=>
  simp only[hq,k6,Option.some.injEq]at hm;have:=run_part_plain (P:=prog) w hp hx;simp[Instr.index,asIntOf,run_underlying hu,hk,sizeOf,typeInfo,hq,hm];exact this
def dv(l:List Nat):List Int:=l.map Int.ofNat
def Ty(l:List Nat):List Value:=l.map λ(x:Nat)=>Value.int .i64 (x:Int)
theorem Kn{W:World}{g:Nat}{A:Option Addr}{n c:Nat}{l:List Nat}(B:aF W g 231 #[.int .i64 0,.int .i64 0,.int .i64 0,.int .i64 0,.int .i64 0])(H:ji W A n (dv l))(hl:l.length=n)(hn:n<=5):
  ∃w',(Builtin.copy_ #[60,60] 3 #[.slice (some ⟨g,0,none⟩) 5 5,.slice A n c]).run prog W=.ok (goInt n) w'/\aF w' g 231 (Ty (l++List.replicate (5-l.length) 0)).toArray/\ag [g] W w':=by
 cases A with
 |none=>
  have h0:n=0:=by
   by_cases h0:n=0
   .exact h0
   .obtain⟨ad,x,h1,_⟩:=H.at 0 (by omega)
    cases h1
  subst h0;have GQ:l=[]:=nc hl;subst GQ;refine⟨W,?_,B,ag.refl _ _⟩;simp[Builtin.copy_,run_underlying underlying60,Builtin.lenOf,Builtin.firstCells,storeCells]
 |some ad=>
  have hlen:(Ty l).length=n:=by simp[Ty,hl]
  obtain⟨w',e,B',o⟩:=yZ (P:=prog) (cur:=[.int .i64 0,.int .i64 0,.int .i64 0,.int .i64 0,.int .i64 0]) B 60 60 3 3 0 5 5 ad n c (Ty l) underlying60 (by kernel_rfl) (by rw[hlen];exact(qQ hn).symm)
   (λj v hv=>by
    have hj:j<l.length:=by have:=(aM.1 hv).1;simpa [Ty]using this
    have hx:(dv l)[j]?=some (Int.ofNat l[j]):=by simp[dv,aG hj]
    obtain⟨ad',e1,h1⟩:=H.2 j _ hx;injection e1 with e1
    subst e1;simp only[Ty,ic,aG hj,k6,Option.some.injEq]at hv;subst hv;exact h1) (by rw[hlen];exact(by omega:0+n<=5)) (by intro v hv;simp only[Ty,dm]at hv;obtain⟨x,_,rfl⟩:=hv;rfl)
  rw[hlen]at e;refine⟨w',e,?_,o⟩;have:putAt [.int .i64 0,.int .i64 0,.int .i64 0,.int .i64 0,.int .i64 0] 0 (Ty l)=Ty (l++List.replicate (5-l.length) 0):=by
   unfold putAt;rw[iL,cI,bl,hlen,hl];have hz:([.int .i64 0,.int .i64 0,.int .i64 0,.int .i64 0,.int .i64 0]:List Value).drop n=Ty (List.replicate (5-n) 0):=by
    rcases(show n=0\/n=1\/n=2\/n=3\/n=4\/n=5 by omega)with rfl|rfl|rfl|rfl|rfl|rfl<;>rfl
   rw[hz];simp[Ty]
  rw[<-this];exact B'
theorem GR{w:World}(ep:Int)(lg:Nat)(A:Option Addr)(n c:Nat)(l:List Nat)(h:ji w A n (dv l))(J1:n<=c)(hr:iC ep lg (dv l)):
  Calls prog 102 #[CO ep lg A n c] w λe w'=>e=.returned (.tuple #[.string ⟨(eV ep lg l).toArray⟩,.int .i64 0])/\Below w.heap.size w w':=by
 have hn5:=kF hr;have tC:l.length=n:=by have:=h.1;simpa [dv]using this
 have hn:n<=5:=by rw[<-tC];simpa [dv]using hn5
 have hlg:lg<=512:=by have:=hr.2.2.2.1;omega
 have O0:=ae (Below.refl w.heap.size w) (.cells #[.int .i64 ep,.int .i64 (lg:Int),.slice A n c] 155);have B0:=xh (aF.new w 155 #[.int .i64 ep,.int .i64 (lg:Int),.slice A n c]);have H0:=xh (h.below O0);have KR:=xh (vz (w:=w.alloc (.cells #[.int .i64 ep,.int .i64 (lg:Int),.slice A n c] 155)) ep lg A n c (dv l) H0.o (by omega) J1 true (by simp[hr]));have O0:=xh O0;have HR:=xh hr;have nz:=xh tC;clear h hr hn5;unfold CO at *
 go_enter func102,ntmps102;go_wp2_with fail;generalize hW:(w.alloc (.cells #[.int .i64 ep,.int .i64 (lg:Int),.slice A n c] 155))=W at *;clear hW;refine KR.o.mono ?_;rintro e w1 ⟨rfl,bg⟩;have O1:=xh (aC O0.o bg);have B1:=xh (B0.o.below bg B0.o.lt);have H1:=xh (H0.o.below bg);clear bg KR;go_wp2_with fail
 have HK:=xh (show ∀W',Below w1.heap.size w1 W'->(W'.cell? ⟨w.heap.size,0,none⟩=some (.int .i64 ep)/\W'.cell? ⟨w.heap.size,1,none⟩=some (.int .i64 (lg:Int))/\W'.cell? ⟨w.heap.size,2,none⟩=some (.slice A n c))from λW' ho=>⟨(B1.o.below ho B1.o.lt).ab (i:=0) rfl,(B1.o.below ho B1.o.lt).ab (i:=1) rfl,(B1.o.below ho B1.o.lt).ab (i:=2) rfl⟩);have OD:=xh ((Below.refl w1.heap.size w1).drew)
 refine wp_region_held_drew (S:=λW'=>W'.cell? ⟨w.heap.size,0,none⟩=some (.int .i64 ep)/\W'.cell? ⟨w.heap.size,1,none⟩=some (.int .i64 (lg:Int))/\W'.cell? ⟨w.heap.size,2,none⟩=some (.slice A n c)) (by kernel_rfl) (HK.o _ OD.o) (λau=>?_);refine cP [(0,12),(1,13),(3,15),(4,16),(5,17)] ?_
 iterate 5 refine bj ?_
 refine cQ 2 14 λK hK=>?_;go_simp
 go_at_call 157
 refine(fe _ 0 [] (aS.nil _ _ _) lg (by omega) (by omega)).mono ?_;rintro r w2 ⟨⟨v2,rfl,S2,F2⟩,o2⟩;have P2:=xh (OD.o.trans (o2.aJ OD.o.size (by simp[ah])));have F2:=xh (show ∀g∈ah v2,w1.heap.size<=g from λg hg=>(F2 g hg).elim (λh=>by simp[ah]at h) (λh=>aq OD.o.size h));go_simp;refine bz hK (HK.o _ P2.o) (λau=>?_);refine cQ 6 18 λK hK=>?_;go_simp
 go_at_call 157
 refine(fe _ 2 _ S2 n (by omega) (by omega)).mono ?_;rintro r w3 ⟨⟨v3,rfl,S3,F3⟩,o3⟩;have P3:=xh (P2.o.trans (o3.aJ P2.o.size F2.o));have F3:=xh (show ∀g∈ah v3,w1.heap.size<=g from λg hg=>(F3 g hg).elim (F2.o g) (λh=>aq P2.o.size h));go_simp;refine bz hK (HK.o _ P3.o) (λau=>?_);refine cP [(7,4)] ?_
 iterate 1 refine bj ?_
 refine wpAnyH_done (by kernel_rfl) ?_ _;have O3:=xh (aC O1.o P3.o);have B3:=xh (B1.o.below P3.o B1.o.lt);have H3:=xh (H1.o.below P3.o);have S3:=xh S3;obtain⟨V3,c3,rfl⟩:=ax S3.o;have F3:=xh (show ∀g∈ah (.slice V3 4 c3),w.heap.size+1<=g from λg hg=>aq (by have:=B1.o.lt;omega) (F3.o g hg));clear au o2 o3 S2 P2 P3 F2 OD HK;have BA:=xh (aF.new w3 231 #[.int .i64 0,.int .i64 0,.int .i64 0,.int .i64 0,.int .i64 0])
 have O4:=xh (ae O3.o (.cells #[.int .i64 0,.int .i64 0,.int .i64 0,.int .i64 0,.int .i64 0] 231));have B4:=xh (B3.o.alloc (.cells #[.int .i64 0,.int .i64 0,.int .i64 0,.int .i64 0,.int .i64 0] 231));have S4:=xh (S3.o.alloc (.cells #[.int .i64 0,.int .i64 0,.int .i64 0,.int .i64 0,.int .i64 0] 231));have H4:=xh (H3.o.below (ae (Below.refl _ _) (.cells #[.int .i64 0,.int .i64 0,.int .i64 0,.int .i64 0,.int .i64 0] 231)));go_wp2_with fail
 generalize hW:(w3.alloc _)=w4 at *;have W3LT:=B4.o.lt;have HK:=xh (show ∀W',ag [w3.heap.size] w4 W'->(W'.cell? ⟨w.heap.size,0,none⟩=some (.int .i64 ep)/\W'.cell? ⟨w.heap.size,1,none⟩=some (.int .i64 (lg:Int))/\W'.cell? ⟨w.heap.size,2,none⟩=some (.slice A n c))from λW' ho=>by
  have fc:w.heap.size∉[w3.heap.size]:=by have:=B3.o.lt;simp;omega
  have B:=B4.o.only ho fc;exact⟨B.ab (i:=0) rfl,B.ab (i:=1) rfl,B.ab (i:=2) rfl⟩)
 have OD:=xh ((ag.refl [w3.heap.size] w4).drew);refine wp_region_held_drew (S:=λW'=>W'.cell? ⟨w.heap.size,0,none⟩=some (.int .i64 ep)/\W'.cell? ⟨w.heap.size,1,none⟩=some (.int .i64 (lg:Int))/\W'.cell? ⟨w.heap.size,2,none⟩=some (.slice A n c)) (by kernel_rfl) (HK.o _ OD.o) (λau=>?_);refine cP [(0,19),(1,20),(2,21)] ?_
 iterate 3 refine bj ?_
 refine cQ 3 22 λK hK=>?_;obtain⟨w5,ec,BQ,oc⟩:=Kn (W:=w4.drew) BA.o (show ji w4.drew A n (dv l)from H4.o.below (Below.refl _ _).drew) nz.o hn;have EC:=xh ec;have OC:=xh (OD.o.trans oc);have BQ:=xh BQ;clear ec oc;go_simp;rw[EC.o];go_simp;refine bz hK (HK.o _ OC.o) (λau=>?_);refine wpAnyH_done (by kernel_rfl) ?_ _;have hq5:(l++List.replicate (5-l.length) 0).length=5:=by rw[aO,ev];have:=nz.o;omega
 have hqs:∀x∈l++List.replicate (5-l.length) 0,x<=1023:=by
  intro x hx
  rcases aB.1 hx with hx|hx
  .obtain⟨i,hi,rfl⟩:=n8 hx;have h1:=HR.o.2.2.2.2.2 i ((l[i]:Nat):Int) (by simp[dv];exact⟨l[i],aG hi,rfl⟩);omega
  .have:=ng hx;omega
 obtain⟨q,hqq⟩:∃q,l++List.replicate (5-l.length) 0=q:=⟨_,rfl⟩;have HQQ:=xh hqq;rw[hqq]at BQ hq5 hqs;clear hqq
 match q,hq5 with
 |[q0,q1,q2,q3,q4],_=>
 have p0:q0<=1023:=hqs _ (by simp);have p1:q1<=1023:=hqs _ (by simp);have p2:q2<=1023:=hqs _ (by simp);have p3:q3<=1023:=hqs _ (by simp);have p4:q4<=1023:=hqs _ (by simp);have a0:w5.cell? ⟨w3.heap.size,0,none⟩=some (.int .i64 (q0:Int)):=BQ.o.ab (i:=0) rfl;have a1:w5.cell? ⟨w3.heap.size,1,none⟩=some (.int .i64 (q1:Int)):=BQ.o.ab (i:=1) rfl;have a2:w5.cell? ⟨w3.heap.size,2,none⟩=some (.int .i64 (q2:Int)):=BQ.o.ab (i:=2) rfl
 have a3:w5.cell? ⟨w3.heap.size,3,none⟩=some (.int .i64 (q3:Int)):=BQ.o.ab (i:=3) rfl;have a4:w5.cell? ⟨w3.heap.size,4,none⟩=some (.int .i64 (q4:Int)):=BQ.o.ab (i:=4) rfl;have GS:w.heap.size<w3.heap.size:=B3.o.lt;have O5:=xh (O4.o.trans (OC.o.aJ O4.o.size (λx hx=>by simp at hx;omega)));have B5:=xh (B4.o.only OC.o (by simp;omega));have S5:=xh (S4.o.only OC.o (λx hx=>by have:=S3.o.lt x hx;simp;omega));clear au hqs OD HK
 go_wp2_with fail;obtain⟨HD,hHD⟩:∃HD,[]++eS lg++eS n=HD:=⟨_,rfl⟩;have HHD:=xh hHD;rw[hHD]at S5;clear hHD a0 a1 a2 a3 a4 S4 S3
 go_loopw [4,24] (λsv iv wr=> ∃k:Nat,k<=5/\iv=.int .i64 (k:Int)/\aS wr 5 1 sv (4+2*k) (dN (HD++([q0,q1,q2,q3,q4].take k).flatMap eS))/\Hid (aF wr w.heap.size 155 #[.int .i64 ep,.int .i64 (lg:Int),.slice A n c])/\Below w.heap.size w wr/\Hid (∀x∈ah sv,w.heap.size+1<=x)) (λ_ iv _=>5-(intOf iv).toNat)
 case atStart=>exact⟨0,by omega,rfl,by simpa using S5.o,B5,O5.o,F3⟩
 case round=>
  obtain⟨k,hk,rfl,S,C,O,F⟩:=hrel;obtain⟨VA,vc,rfl⟩:=ax S
  rcases(show k=0\/k=1\/k=2\/k=3\/k=4\/k=5 from by omega)with rfl|rfl|rfl|rfl|rfl|rfl
  .have K:=xh (fe _ 4 _ S q0 (by omega) (by omega));have OO:=xh O;have IX:=xh (show(Instr.index 231 (.agg #[.int .i64 (q0:Int),.int .i64 (q1:Int),.int .i64 (q2:Int),.int .i64 (q3:Int),.int .i64 (q4:Int)]) (.int .i64 0)).run prog wr=.ok (.int .i64 (q0:Int)) wr from Tx q0 q1 q2 q3 q4 wr 0 _ rfl);clear S O;go_wp2_with fail;rw[IX.o];go_wp2_with fail;refine K.o.mono ?_;rintro r w7 ⟨⟨v7,rfl,S7,F7⟩,o7⟩
   have O7:=xh (OO.o.trans (o7.aJ OO.o.size (λx hx=>by have:=F.o x hx;omega)));have C7:=xh (C.o.only o7 (λhx=>by have:=F.o _ hx;omega));have F7:=xh (show ∀x∈ah v7,w.heap.size+1<=x from λx hx=>(F7 x hx).elim (F.o x) (λh=>by have:=C.o.lt;omega));have S7:=xh (show aS w7 5 1 v7 (4+2*(0+1)) (dN (HD++([q0,q1,q2,q3,q4].take (0+1)).flatMap eS))from by
    have hx:HD++([q0,q1,q2,q3,q4].take (0+1)).flatMap eS=(HD++([q0,q1,q2,q3,q4].take 0).flatMap eS)++eS q0:=by simp
    rw[hx];exact S7)
   obtain⟨V7,c7,rfl⟩:=ax S7.o;clear o7;go_wp2_with fail;go_roundw
   case rel=>exact⟨0+1,by omega,by first|rfl|go_num,S7.o,C7,O7.o,F7⟩
   case measure=>simp[intOf]
  .have K:=xh (fe _ 6 _ S q1 (by omega) (by omega));have OO:=xh O;have IX:=xh (show(Instr.index 231 (.agg #[.int .i64 (q0:Int),.int .i64 (q1:Int),.int .i64 (q2:Int),.int .i64 (q3:Int),.int .i64 (q4:Int)]) (.int .i64 1)).run prog wr=.ok (.int .i64 (q1:Int)) wr from Tx q0 q1 q2 q3 q4 wr 1 _ rfl);clear S O;go_wp2_with fail;rw[IX.o];go_wp2_with fail;refine K.o.mono ?_;rintro r w7 ⟨⟨v7,rfl,S7,F7⟩,o7⟩
   have O7:=xh (OO.o.trans (o7.aJ OO.o.size (λx hx=>by have:=F.o x hx;omega)));have C7:=xh (C.o.only o7 (λhx=>by have:=F.o _ hx;omega));have F7:=xh (show ∀x∈ah v7,w.heap.size+1<=x from λx hx=>(F7 x hx).elim (F.o x) (λh=>by have:=C.o.lt;omega));have S7:=xh (show aS w7 5 1 v7 (4+2*(1+1)) (dN (HD++([q0,q1,q2,q3,q4].take (1+1)).flatMap eS))from by
    have hx:HD++([q0,q1,q2,q3,q4].take (1+1)).flatMap eS=(HD++([q0,q1,q2,q3,q4].take 1).flatMap eS)++eS q1:=by simp
    rw[hx];exact S7)
   obtain⟨V7,c7,rfl⟩:=ax S7.o;clear o7;go_wp2_with fail;go_roundw
   case rel=>exact⟨1+1,by omega,by first|rfl|go_num,S7.o,C7,O7.o,F7⟩
   case measure=>simp[intOf]
  .have K:=xh (fe _ 8 _ S q2 (by omega) (by omega));have OO:=xh O;have IX:=xh (show(Instr.index 231 (.agg #[.int .i64 (q0:Int),.int .i64 (q1:Int),.int .i64 (q2:Int),.int .i64 (q3:Int),.int .i64 (q4:Int)]) (.int .i64 2)).run prog wr=.ok (.int .i64 (q2:Int)) wr from Tx q0 q1 q2 q3 q4 wr 2 _ rfl);clear S O;go_wp2_with fail;rw[IX.o];go_wp2_with fail;refine K.o.mono ?_;rintro r w7 ⟨⟨v7,rfl,S7,F7⟩,o7⟩
   have O7:=xh (OO.o.trans (o7.aJ OO.o.size (λx hx=>by have:=F.o x hx;omega)));have C7:=xh (C.o.only o7 (λhx=>by have:=F.o _ hx;omega));have F7:=xh (show ∀x∈ah v7,w.heap.size+1<=x from λx hx=>(F7 x hx).elim (F.o x) (λh=>by have:=C.o.lt;omega));have S7:=xh (show aS w7 5 1 v7 (4+2*(2+1)) (dN (HD++([q0,q1,q2,q3,q4].take (2+1)).flatMap eS))from by
    have hx:HD++([q0,q1,q2,q3,q4].take (2+1)).flatMap eS=(HD++([q0,q1,q2,q3,q4].take 2).flatMap eS)++eS q2:=by simp
    rw[hx];exact S7)
   obtain⟨V7,c7,rfl⟩:=ax S7.o;clear o7;go_wp2_with fail;go_roundw
   case rel=>exact⟨2+1,by omega,by first|rfl|go_num,S7.o,C7,O7.o,F7⟩
   case measure=>simp[intOf]
  .have K:=xh (fe _ 10 _ S q3 (by omega) (by omega));have OO:=xh O;have IX:=xh (show(Instr.index 231 (.agg #[.int .i64 (q0:Int),.int .i64 (q1:Int),.int .i64 (q2:Int),.int .i64 (q3:Int),.int .i64 (q4:Int)]) (.int .i64 3)).run prog wr=.ok (.int .i64 (q3:Int)) wr from Tx q0 q1 q2 q3 q4 wr 3 _ rfl);clear S O;go_wp2_with fail;rw[IX.o];go_wp2_with fail;refine K.o.mono ?_;rintro r w7 ⟨⟨v7,rfl,S7,F7⟩,o7⟩
   have O7:=xh (OO.o.trans (o7.aJ OO.o.size (λx hx=>by have:=F.o x hx;omega)));have C7:=xh (C.o.only o7 (λhx=>by have:=F.o _ hx;omega));have F7:=xh (show ∀x∈ah v7,w.heap.size+1<=x from λx hx=>(F7 x hx).elim (F.o x) (λh=>by have:=C.o.lt;omega));have S7:=xh (show aS w7 5 1 v7 (4+2*(3+1)) (dN (HD++([q0,q1,q2,q3,q4].take (3+1)).flatMap eS))from by
    have hx:HD++([q0,q1,q2,q3,q4].take (3+1)).flatMap eS=(HD++([q0,q1,q2,q3,q4].take 3).flatMap eS)++eS q3:=by simp
    rw[hx];exact S7)
   obtain⟨V7,c7,rfl⟩:=ax S7.o;clear o7;go_wp2_with fail;go_roundw
   case rel=>exact⟨3+1,by omega,by first|rfl|go_num,S7.o,C7,O7.o,F7⟩
   case measure=>simp[intOf]
  .have K:=xh (fe _ 12 _ S q4 (by omega) (by omega));have OO:=xh O;have IX:=xh (show(Instr.index 231 (.agg #[.int .i64 (q0:Int),.int .i64 (q1:Int),.int .i64 (q2:Int),.int .i64 (q3:Int),.int .i64 (q4:Int)]) (.int .i64 4)).run prog wr=.ok (.int .i64 (q4:Int)) wr from Tx q0 q1 q2 q3 q4 wr 4 _ rfl);clear S O;go_wp2_with fail;rw[IX.o];go_wp2_with fail;refine K.o.mono ?_;rintro r w7 ⟨⟨v7,rfl,S7,F7⟩,o7⟩
   have O7:=xh (OO.o.trans (o7.aJ OO.o.size (λx hx=>by have:=F.o x hx;omega)));have C7:=xh (C.o.only o7 (λhx=>by have:=F.o _ hx;omega));have F7:=xh (show ∀x∈ah v7,w.heap.size+1<=x from λx hx=>(F7 x hx).elim (F.o x) (λh=>by have:=C.o.lt;omega));have S7:=xh (show aS w7 5 1 v7 (4+2*(4+1)) (dN (HD++([q0,q1,q2,q3,q4].take (4+1)).flatMap eS))from by
    have hx:HD++([q0,q1,q2,q3,q4].take (4+1)).flatMap eS=(HD++([q0,q1,q2,q3,q4].take 4).flatMap eS)++eS q4:=by simp
    rw[hx];exact S7)
   obtain⟨V7,c7,rfl⟩:=ax S7.o;clear o7;go_wp2_with fail;go_roundw
   case rel=>exact⟨4+1,by omega,by first|rfl|go_num,S7.o,C7,O7.o,F7⟩
   case measure=>simp[intOf]
  .have OO:=xh O;have SS:=xh (show aS wr 5 1 (.slice VA 14 vc) 14 (dN (HD++[q0,q1,q2,q3,q4].flatMap eS))from S);clear S O;go_wp2_with fail;obtain⟨M,hM⟩:∃M,HD++[q0,q1,q2,q3,q4].flatMap eS=M:=⟨_,rfl⟩;have HM:=xh (show M++List.replicate 30 0=ni lg l from by
    unfold ni;rw[<-hM,<-HHD.o,HQQ.o,nz.o,cI])
   rw[hM]at SS;clear hM
   go_loopw [4] (λsv wx=> ∃j:Nat,j<=30/\aS wx 5 1 sv (14+j) (dN (M++List.replicate j 0))/\Hid (aF wx w.heap.size 155 #[.int .i64 ep,.int .i64 (lg:Int),.slice A n c])/\Below w.heap.size w wx/\Hid (∀x∈ah sv,w.heap.size+1<=x)) (λsv _=>44-lenV sv)
   case atStart=>exact⟨0,by omega,by simpa using SS.o,C,OO.o,F⟩
   case round=>
    obtain⟨j,hj,S,C,O,F⟩:=hrel;obtain⟨VB,vb,rfl⟩:=ax S
    by_cases h:j<30
    .have h1:(14:Int)+(j:Int)<44:=by omega
     have h2:14+j<44:=by omega
     have h3:((14+j:Nat):Int)<44:=by omega
     obtain⟨v8,w8,ea,S8,o8,f8⟩:=dj (P:=prog) S 150 150 (.int .u8 0) 1 underlying150 jB.eR rfl (.int .u8 0) rfl (by unfold maxLen;omega) (by omega);obtain⟨V8,c8,rfl⟩:=ax S8;have EA:=xh ea;have S9:=xh (show aS w8 5 1 (.slice V8 (14+(j+1)) c8) (14+(j+1)) (dN (M++List.replicate (j+1) 0))from by
      rw[yq,<-cy,di];exact S8)
     have O8:=xh (O.trans (o8.aJ O.size (λx hx=>by have:=F.o x hx;omega)));have C8:=xh (C.o.only o8 (λhx=>by have:=F.o _ hx;omega));have F8:=xh (show ∀x∈ah (.slice V8 (14+(j+1)) c8),w.heap.size+1<=x from λx hx=>(f8 x hx).elim (F.o x) (λh=>by have:=C.o.lt;omega));clear ea S8 o8 f8 S O;go_wp2_with fail;rw[EA.o];go_wp2_with fail;go_roundw
     case rel=>exact⟨_,_,_,_,_,_,_,⟨j+1,by omega,S9.o,C8,O8.o,F8⟩,rfl⟩
     case measure=>simp[lenV];omega
    .obtain rfl:j=30:=by omega
     have h2:¬((14+30:Nat):Int)<44:=by omega
     rw[HM.o]at S;obtain⟨gB,cap,rest,hv,BB,_,_⟩:=S.form (by omega) (by omega);simp only[Value.slice.injEq,true_and]at hv;obtain⟨rfl,rfl⟩:=hv;have ST:=xh (cm (P:=prog) wr 150 9 5 underlying150 underlying5 underlying9 ⟨gB,0,none⟩ 44 vb (ni lg l) (by have:=S.1;simpa using this) (bq BB 0 _ (by intro j u hu;rw[bl];exact bE (aM.1 hu).1▸hu)))
     have nX:(ni lg l).length=44:=by have:=S.1;simpa using this
     obtain⟨T,hT⟩:∃T:ByteArray,(⟨(ni lg l).toArray⟩:ByteArray)=T:=⟨_,rfl⟩;have hTz:T.size=44:=by rw[<-hT];show(ni lg l).toArray.size=44;simpa using nX
     have JD:T.data.toList=ni lg l:=by rw[<-hT]
     rw[hT]at ST;have KY:=xh (jB.yA T wr (by omega));rw[JD]at KY;have OO9:=xh O;have hlen48:(jB.bH (ni lg l)).length=48:=by unfold jB.bH;simp[jB.iX,nX]
     have uR:(fC ep).length=8:=by unfold fC vk;rw[oy]
     obtain⟨L,hL⟩:∃L:ByteArray,(⟨(jB.bH (ni lg l)).toArray⟩:ByteArray)=L:=⟨_,rfl⟩;obtain⟨PI,hPI⟩:∃L:ByteArray,(⟨(fC ep).toArray⟩:ByteArray)=L:=⟨_,rfl⟩;have hLz:L.size=48:=by rw[<-hL];show(jB.bH (ni lg l)).toArray.size=48;simpa using hlen48
     have hPz:PI.size=8:=by rw[<-hPI];show(fC ep).toArray.size=8;simpa using uR
     have Tz:=xh (show PI++L++PI=(⟨(eV ep lg l).toArray⟩:ByteArray)from by
      rw[<-hL,<-hPI];apply mo;apply rS.1;unfold eV;simp)
     rw[hL]at KY;have KI:=xh (λw=>I_any ep (by have:=HR.o.1;omega) HR.o.2.1 w);rw[hPI]at KI;clear S O BB hT JD hL hPI nX hTz;go_wp2_with fail;rw[ST.o];go_wp2_with fail;refine KY.o.mono ?_;rintro e w9 ⟨rfl,hb9⟩;have O9:=xh (aC OO9.o hb9);have B9:=xh (C.o.below hb9 C.o.lt);clear hb9;go_wp2_with fail
     have HK:=xh (show ∀W',Below w9.heap.size w9 W'->W'.cell? ⟨w.heap.size,0,none⟩=some (.int .i64 ep)from λW' ho=>(B9.o.below ho B9.o.lt).ab (i:=0) rfl);have OD:=xh ((Below.refl w9.heap.size w9).drew);have z1:¬9223372036854775807<PI.size+L.size:=by omega
     have z2:¬9223372036854775807<PI.size+L.size+PI.size:=by omega
     clear hLz hPz;refine wp_region_held_drew (S:=λW'=>W'.cell? ⟨w.heap.size,0,none⟩=some (.int .i64 ep)) (by kernel_rfl) (HK.o _ OD.o) (λau=>?_);refine cP [(0,40),(1,41),(3,43),(5,45),(6,46)] ?_
     iterate 5 refine bj ?_
     refine cQ 2 42 λK hK=>?_;go_simp
     go_at_call 88
     refine(KI.o _).mono ?_;rintro r wa ⟨rfl,hba⟩;have Pa:=xh (aC OD.o hba);go_simp;refine bz hK (HK.o _ Pa.o) (λau=>?_);refine cP [(4,44)] ?_
     iterate 1 refine bj ?_
     refine cQ 7 47 λK hK=>?_;go_simp
     go_at_call 88
     refine(KI.o _).mono ?_;rintro r wb ⟨rfl,yg⟩;have Pb:=xh (aC Pa.o yg);go_simp;refine bz hK (HK.o _ Pb.o) (λau=>?_);refine cP [(8,48),(9,2),(10,3)] ?_
     iterate 3 refine bj ?_
     refine wpAnyH_done (by kernel_rfl) ?_ _;have OF:=xh (aC O9.o Pb.o);go_wp2_with fail;go_ret2;exact⟨by rw[<-Tz.o];rfl,OF.o⟩
end Rt
namespace Sh
open Go.RowKit Pk Dk Pg
attribute [local go_sem ↓] Go.wp_at_zero Go.wp_at_succ
variable{w:World}{n:Nat}
structure C where
 d:D
 m:List Int
 table:List Int
 bQ:List Int
 parts:List Int
 ep:Int
 slot:Int
 broken:Bool
structure X where
 b:Nat
 L:Dk.Loc
 mb:Nat
 mg:Nat
 tv:Value
 ov:Value
 pv:Value
def X.fp(x:X):List Nat:=x.b::x.mb::x.mg::(x.L.fp++cf x.tv++cf x.ov++cf x.pv)
def cZ(l:List Int):List Value:=l.map (Value.int .i64)
@[simp] theorem nvs'_length(l:List Int):(cZ l).length=l.length:=by simp[cZ]
theorem pP(l:List Int)(k:Nat)(h:k<l.length):(cZ l)[k]?=some (.int .i64 (l.getD k 0)):=by simp[cZ,aG h]
theorem TB(l:List Int):∀u∈cZ l,u.oneCell'=true:=by
 intro u hu;obtain⟨x,_,rfl⟩:=dm.1 hu;rfl
theorem TC(l:List Int)(k:Nat)(x:Int):(cZ l).set k (.int .i64 x)=cZ (l.set k x):=by simp[cZ,qL]
theorem fW(l m:List Int):cZ (l++m)=cZ l++cZ m:=by simp[cZ]
def E4(x:X)(c:C):Array Value:= #[dp x.L.b,Fm.mp x.mb,x.tv,x.ov,x.pv,.int .i64 c.ep,.int .i64 c.slot,.bool c.broken]
def Pl(w:World)(v:Value)(n:Nat)(l:List Value):Prop:=Sl w 3 v n l\/(l.length=n/\∃g cap rest,v=.slice (some ⟨g,0,none⟩) n cap/\n<=cap/\0<cap/\aF w g 231 (l++rest).toArray)
section
variable{w w':World}{v:Value}{n:Nat}{l:List Value}{S:List Nat}
theorem Pl.only(h:Pl w v n l)(ho:ag S w w')(hd:∀g∈cf v,g∉S):Pl w' v n l:=by
 rcases h with h|⟨hl,g,cap,rest,rfl,h1,h2,B⟩
 .exact .inl (h.only ho hd)
 .exact .inr ⟨hl,g,cap,rest,rfl,h1,h2,B.only ho (hd g (by simp[cf];omega))⟩
theorem Pl.own(h:Pl w v n l):∀g∈cf v,∃t cs,(t=3\/t=231)/\aF w g t cs:=by
 intro g hg
 rcases h with S|⟨hl,g',cap,rest,rfl,h1,h2,B⟩
 .rcases S.2 with⟨A,rfl,_⟩|⟨g',cap,rest,rfl,h0,B,_⟩
  .cases A<;>simp[cf]at hg
  .simp[cf]at hg;rw[hg.2];exact⟨_,_,.inl rfl,B⟩
 .simp[cf]at hg;rw[hg.2];exact⟨_,_,.inr rfl,B⟩
theorem Pl.lt(h:Pl w v n l):∀g∈cf v,g<w.heap.size:=λg hg=>by
 obtain⟨t,cs,_,B⟩:=h.own g hg;exact B.lt
theorem Pl.val(h:Pl w v n l):∃A c,v=.slice A n c/\n<=c:=by
 rcases h with h|⟨hl,g,cap,rest,rfl,h1,h2,B⟩
 .exact h.val
 .exact⟨_,cap,rfl,h1⟩
theorem Pl.form(h:Pl w v n l)(hn:0<n):∃g cap rest,v=.slice (some ⟨g,0,none⟩) n cap/\(∃t,aF w g t (l++rest).toArray)/\n<=cap/\l.length=n:=by
 rcases h with h|⟨hl,g,cap,rest,rfl,h1,h2,B⟩
 .obtain⟨g,cap,rest,h1,h2,h3,h4⟩:=h.form hn;exact⟨g,cap,rest,h1,⟨_,h2⟩,h3,h.1⟩
 .exact⟨g,cap,rest,rfl,⟨_,B⟩,h1,hl⟩
theorem Pl.aQ(h:Pl w v n l){b:Nat}{t:TypeId}{cs:Array Value}(B:aF w b t cs)(h1:t≠3)(h2:t≠231):b∉cf v:=λhb=>by
 obtain⟨t',cs',ht,B'⟩:=h.own b hb
 rcases ht with rfl|rfl
 .exact B.kl B' h1 rfl
 .exact B.kl B' h2 rfl
end
structure At(w:World)(x:X)(n:Nat)(c:C):Prop where
 hb:aF w x.b 146 (E4 x c)
 hd:aX w x.L n c.d
 hm:Fm.dE w x.mb x.mg c.m
 ht:Sl w 3 x.tv c.table.length (cZ c.table)
 ho:Sl w 3 x.ov c.bQ.length (cZ c.bQ)
 hp:Pl w x.pv c.parts.length (cZ c.parts)
 n1:x.mg∉cf x.tv
 n2:x.mg∉cf x.ov
 n3:x.mg∉cf x.pv
 n4:∀g∈cf x.tv,g∉cf x.ov
 n5:∀g∈cf x.tv,g∉cf x.pv
 n6:∀g∈cf x.ov,g∉cf x.pv
 tl:c.table.length<=512
section
variable{w w':World}{x:X}{n:Nat}{c:C}{S:List Nat}
theorem At.only(h:At w x n c)(ho:ag S w w')(hd:∀g∈x.fp,g∉S):At w' x n c:=
 ⟨h.hb.only ho (hd _ (by simp[X.fp])),h.hd.only ho (λg hg=>hd g (by simp[X.fp,hg])),h.hm.only ho (hd _ (by simp[X.fp])) (hd _ (by simp[X.fp])),
  h.ht.only ho (λg hg=>hd g (by simp[X.fp,hg])),h.ho.only ho (λg hg=>hd g (by simp[X.fp,hg])),h.hp.only ho (λg hg=>hd g (by simp[X.fp,hg])),h.n1,h.n2,h.n3,h.n4,h.n5,h.n6,h.tl⟩
theorem At.below(h:At w x n c)(hb:Below w.heap.size w w'):At w' x n c:=h.only (S:=[]) (.ai hb) (by simp)
theorem At.drew(h:At w x n c):At w.drew x n c:=h.below ((Below.refl _ _).drew)
theorem At.drewN(h:At w x n c)(k:Nat):At (w.drewN k) x n c:=h.below (df (Below.refl _ _) k)
theorem At.lt(h:At w x n c):∀g∈x.fp,g<w.heap.size:=by
 intro g hg;simp only[X.fp,aj,aB]at hg
 rcases hg with rfl|rfl|rfl|((hg|hg)|hg)|hg
 .exact h.hb.lt
 .exact h.hm.hb.lt
 .exact h.hm.hg.lt
 .exact h.hd.lt g hg
 .exact h.ht.lt g hg
 .exact h.ho.lt g hg
 .exact h.hp.lt g hg
theorem At.f0(h:At w x n c):w.cell? ⟨x.b,0,none⟩=some (dp x.L.b):=h.hb.ab rfl
theorem At.f1(h:At w x n c):w.cell? ⟨x.b,1,none⟩=some (Fm.mp x.mb):=h.hb.ab rfl
theorem At.f2(h:At w x n c):w.cell? ⟨x.b,2,none⟩=some x.tv:=h.hb.ab rfl
theorem At.f3(h:At w x n c):w.cell? ⟨x.b,3,none⟩=some x.ov:=h.hb.ab rfl
theorem At.f4(h:At w x n c):w.cell? ⟨x.b,4,none⟩=some x.pv:=h.hb.ab rfl
theorem At.f5(h:At w x n c):w.cell? ⟨x.b,5,none⟩=some (.int .i64 c.ep):=h.hb.ab rfl
theorem At.f6(h:At w x n c):w.cell? ⟨x.b,6,none⟩=some (.int .i64 c.slot):=h.hb.ab rfl
theorem At.f7(h:At w x n c):w.cell? ⟨x.b,7,none⟩=some (.bool c.broken):=h.hb.ab rfl
theorem At.fz(h:At w x n c)(i:Nat)(hi:i<8):w.frozen? ⟨x.b,i,none⟩=false:=h.hb.frozen i (by simpa [E4]using hi)
theorem At.tk(h:At w x n c)(k:Nat)(hk:k<c.table.length):∃g cp,x.tv=.slice (some ⟨g,0,none⟩) c.table.length cp/\w.cell? ⟨g,k,none⟩=some (.int .i64 (c.table.getD k 0)):=by
 obtain⟨g,cp,rest,hv,B,_,_⟩:=h.ht.form (by omega);refine⟨g,cp,hv,B.ab ?_⟩;rw[dh,bE (by simpa using hk),pP _ _ hk]
theorem At.disk(h:At w x n c){d':D}(hd:aX w' x.L n d')(ho:ag x.L.fp w w'):At w' x n {c with d:=d'}:=by
 have ne:∀g∈x.L.fp,∀{t:TypeId} {cs:Array Value} {b:Nat},aF w b t cs->t≠149->t≠152->t≠4->b∉x.L.fp:=by
  intro g hg t cs b B h1 h2 h3 hm;simp only[Loc.fp,aj,gP,or_false]at hm
  rcases hm with rfl|rfl|rfl|rfl
  .exact h1 (B.inj h.hd.hb).1
  .exact h2 (B.inj h.hd.hN).1
  .exact h2 (B.inj h.hd.hO).1
  .exact h3 (B.inj h.hd.hL).1
 have nb:∀{t:TypeId} {cs:Array Value} {b:Nat},aF w b t cs->t≠149->t≠152->t≠4->b∉x.L.fp:=λB h1 h2 h3=>ne x.L.b (by simp[Loc.fp]) B h1 h2 h3;have ns:∀{v:Value} {k:Nat} {l:List Value},Sl w 3 v k l->∀g∈cf v,g∉x.L.fp:=by
  intro v k l S g hg
  rcases S.2 with⟨A,rfl,_⟩|⟨g',cap,rest,rfl,h0,B,_⟩
  .cases A<;>simp[cf]at hg
  .simp[cf]at hg;rw[hg.2];exact nb B (by decide) (by decide) (by decide)
 have np:∀g∈cf x.pv,g∉x.L.fp:=λg hg=>by
  obtain⟨t,cs,ht,B⟩:=h.hp.own g hg
  rcases ht with rfl|rfl
  .exact nb B (by decide) (by decide) (by decide)
  .exact nb B (by decide) (by decide) (by decide)
 exact⟨h.hb.only ho (nb h.hb (by decide) (by decide) (by decide)),hd,h.hm.only ho (nb h.hm.hb (by decide) (by decide) (by decide)) (nb h.hm.hg (by decide) (by decide) (by decide)),h.ht.only ho (ns h.ht),h.ho.only ho (ns h.ho),h.hp.only ho np,h.n1,h.n2,h.n3,h.n4,h.n5,h.n6,h.tl⟩
theorem At.map(h:At w x n c){m':List Int}(hm:Fm.dE w' x.mb x.mg m')(ho:ag [x.mg] w w'):At w' x n {c with m:=m'}:=by
 have nb:∀{t:TypeId} {cs:Array Value} {b:Nat},aF w b t cs->t≠3->b∉[x.mg]:=by
  intro t cs b B h1 hm;simp at hm;subst hm;exact h1 (B.inj h.hm.hg).1
 refine⟨h.hb.only ho (nb h.hb (by decide)),h.hd.only ho ?_,hm,h.ht.only ho ?_,h.ho.only ho ?_,h.hp.only ho ?_,h.n1,h.n2,h.n3,h.n4,h.n5,h.n6,h.tl⟩
 .intro g hg;simp only[Loc.fp,aj,gP,or_false]at hg
  rcases hg with rfl|rfl|rfl|rfl
  .exact nb h.hd.hb (by decide)
  .exact nb h.hd.hN (by decide)
  .exact nb h.hd.hO (by decide)
  .exact nb h.hd.hL (by decide)
 .intro g hg hm;simp at hm;subst hm;exact h.n1 hg
 .intro g hg hm;simp at hm;subst hm;exact h.n2 hg
 .intro g hg hm;simp at hm;subst hm;exact h.n3 hg
end
def sp(b:Nat):Value:= .pointer (some ⟨b,0,none⟩)
def eY(n:Nat):Nat:=min (ct n) 1024
def C.fH(c:C):Int:=if c.broken then 13 else 0
def C.rM(c:C)(l:Int):Bool:=decide (0<=l) && decide (l<c.table.length) && decide (0<=c.table.getD l.toNat 0)
def C.jD(c:C)(l:Int):Int:=if c.broken then 13 else if c.rM l then 0 else 3
theorem PW{L:Dk.Loc}{d:D}(h:aX w L n d):
  Calls prog 82 #[dp L.b] w λe w'=>e=.returned (.int .i64 (eY n:Nat))/\w=w':=by
 have K:=xh (nD h);have hm:((ct n:Nat):Int)<=1024:=by have:=h.ok.small;unfold ct;omega
 have HP:=xh (show((eY n:Nat):Int)=((ct n:Nat):Int)from by unfold eY;omega);generalize ct n=mn at *;unfold dp at *;go_enter func82,ntmps82;go_wp2_with fail;refine K.o.mono ?_;rintro e w1 ⟨rfl,rfl⟩;go_wp2_with fail
 all_goals
  go_ret;refine⟨?_,rfl⟩;rw[HP.o]
  first|(simp;done)|(simp;omega)
theorem iQ{x:X}{c:C}(h:At w x n c):
  Calls prog 148 #[sp x.b] w λe w'=>e=.returned (.int .i64 c.fH)/\w=w':=by
 have f7:=h.f7;unfold sp C.fH;clear h
 cases hb:c.broken
 all_goals
  rw[hb]at f7;clear hb;go_enter func148,ntmps148;go_wp2_with fail;go_ret;exact aP rfl
variable{w:World}{x:X}{n:Nat}
theorem pM{c:C}(h:At w x n c)(l:Int):
  Calls prog 191 #[sp x.b,.int .i64 l] w λe w'=>e=.returned (.int .i64 (c.jD l))/\w=w':=by
 have K:=iQ h;have f2:=h.f2;obtain⟨TA,tc,xd,htc⟩:=h.ht.val;rw[xd]at f2;have HR:=xh (show ∀r,c.jD l=r->c.jD l=r from λr h=>h);have tl:=h.tl
 by_cases hb:c.broken=true
 .have hw:c.fH=13:=by unfold C.fH;rw[if_pos hb]
  have HA:=xh (show c.jD l=13 from by unfold C.jD;rw[if_pos hb]);rw[hw]at K;have K:=xh K;clear h hb hw;generalize c.jD l=r at *;unfold sp at *;go_enter func191,ntmps191;go_wp2_with fail;refine K.o.mono ?_;rintro e w1 ⟨rfl,rfl⟩;go_wp2_with fail;go_ret;exact⟨by rw[HA.o];first|rfl|simp,rfl⟩
 .have hw:c.fH=0:=by unfold C.fH;rw[if_neg hb]
  rw[hw]at K;have K:=xh K
  by_cases h1:l<0
  .have HA:=xh (show c.jD l=3 from by unfold C.jD C.rM;rw[if_neg hb];simp;omega);clear h hb hw;generalize c.jD l=r at *;unfold sp at *;go_enter func191,ntmps191;go_wp2_with fail;refine K.o.mono ?_;rintro e w1 ⟨rfl,rfl⟩;go_wp2_with fail;go_ret;exact⟨by rw[HA.o];first|rfl|simp,rfl⟩
  .obtain⟨k,rfl⟩:=eT (show 0<=l by omega)
   by_cases h2:k<c.table.length
   .obtain⟨g,cp,hv,hk⟩:=h.tk k h2;rw[hv]at xd;injection xd with ht1 ht2 ht3
    subst ht1 ht3;obtain⟨v,NL⟩:∃v,c.table.getD k 0=v:=⟨_,rfl⟩;rw[NL]at hk;have h2I:¬(c.table.length:Int)<=(k:Int):=by omega
    have h2J:(k:Int)<(c.table.length:Int):=by omega
    by_cases h3:v<0
    .have ht:c.table.getD ((k:Nat):Int).toNat 0=v:=by rw[show((k:Nat):Int).toNat=k from by omega];exact NL
     have HA:=xh (show c.jD k=3 from by unfold C.jD C.rM;rw[if_neg hb,ht,if_neg (by simp only[ig,decide_eq_true_eq];omega)]);clear ht;clear h hb hw hv NL;generalize c.jD k=r at *;generalize c.table.length=tn at *;unfold sp at *;go_enter func191,ntmps191;go_wp2_with fail;refine K.o.mono ?_;rintro e w1 ⟨rfl,rfl⟩;go_wp2_with fail;go_ret;exact⟨by rw[HA.o];first|rfl|simp,rfl⟩
    .have HA:=xh (show c.jD k=0 from by
      have ht:c.table.getD ((k:Nat):Int).toNat 0=v:=by rw[show((k:Nat):Int).toNat=k from by omega];exact NL
      have hh:c.rM k=true:=by unfold C.rM;rw[ht];simp only[ig,decide_eq_true_eq];omega
      unfold C.jD;rw[if_neg hb,if_pos hh])
     clear h hb hw hv NL;generalize c.jD k=r at *;generalize c.table.length=tn at *;unfold sp at *;go_enter func191,ntmps191;go_wp2_with fail;refine K.o.mono ?_;rintro e w1 ⟨rfl,rfl⟩;go_wp2_with fail;go_ret;exact⟨by rw[HA.o];first|rfl|simp,rfl⟩
   .have HA:=xh (show c.jD k=3 from by unfold C.jD C.rM;rw[if_neg hb];simp;omega);have h2I:(c.table.length:Int)<=(k:Int):=by omega
    clear h hb hw;generalize c.jD k=r at *;generalize c.table.length=tn at *;unfold sp at *;go_enter func191,ntmps191;go_wp2_with fail;refine K.o.mono ?_;rintro e w1 ⟨rfl,rfl⟩;go_wp2_with fail;go_ret;exact⟨by rw[HA.o];first|rfl|simp,rfl⟩
theorem iO{c:C}(h:At w x n c)(id kind:Int)(s:ByteArray)(hid:id<=9223372036854775807)(Gn:0<=c.ep/\c.ep<=1099511627776)(hc:c.d.calls<=3999999999999999990)(hr:c.d.bn<=9223372036854775807):
  Calls prog 193 #[sp x.b,.int .i64 id,.int .i64 kind,.string s] w λe w'=>e=.returned (.int .i64 (bm c.d n id (c.ep+1) kind s.data.toList).2)/\At w' x n {c with d:=(bm c.d n id (c.ep+1) kind s.data.toList).1}/\ag x.L.fp w w':=by
 have KPW:=Kd (w:=w.drew) h.hd.drew id (c.ep+1) kind s hid hc hr;have HD:=xh (λ(w':World) (hd:aX w' x.L n (bm c.d n id (c.ep+1) kind s.data.toList).1) (ho:ag x.L.fp w.drew w')=>At.disk h.drew hd ho);have f0:=h.f0;have f5:=h.f5;have q1:IntKind.i64.wrap (c.ep+1)=c.ep+1:=IntWalk.i64_in _ (by omega);have HK:=xh (show w.drew.cell? ⟨x.b,0,none⟩=some (dp x.L.b)/\w.drew.cell? ⟨x.b,5,none⟩=some (.int .i64 c.ep)from⟨f0,f5⟩)
 have HP:=xh (show ∀w',ag x.L.fp w.drew w'->(w'.cell? ⟨x.b,0,none⟩=some (dp x.L.b)/\w'.cell? ⟨x.b,5,none⟩=some (.int .i64 c.ep))from λw' ho=>by
  have B:=h.hb.drew.only ho (λhm=>by
   simp only[Loc.fp,aj,gP,or_false]at hm
   rcases hm with hm|hm|hm|hm
   .exact h.hb.kl h.hd.hb (by decide) hm
   .exact h.hb.kl h.hd.hN (by decide) hm
   .exact h.hb.kl h.hd.hO (by decide) hm
   .exact h.hb.kl h.hd.hL (by decide) hm)
  exact⟨B.ab (i:=0) rfl,B.ab (i:=5) rfl⟩)
 clear h;generalize (bm c.d n id (c.ep+1) kind s.data.toList).2=er at *;generalize (bm c.d n id (c.ep+1) kind s.data.toList).1=d2 at *;generalize c.ep=ep at *;unfold sp dp iZ at *;have KPW:=xh KPW;go_enter func193,ntmps193;go_wp2_with fail;refine wp_region_held_drew (S:=λW'=>W'.cell? ⟨x.b,0,none⟩=some (.pointer (some ⟨x.L.b,0,none⟩))/\W'.cell? ⟨x.b,5,none⟩=some (.int .i64 ep)) (by kernel_rfl) (HK.o) (λau=>?_)
 refine cP [(0,9),(1,10),(2,11),(3,12),(4,13),(5,14),(6,15),(7,16),(8,17),(9,18),(10,19),(11,20),(12,21)] ?_
 iterate 13 refine bj ?_
 refine cQ 13 22 λK hK=>?_;go_simp
 go_at_call 225
 refine KPW.o.mono ?_;rintro e w1 ⟨rfl,dd,ow⟩;have DV:=xh dd;have OW:=xh ow;clear dd ow;go_simp;refine bz hK (HP.o _ OW.o) (λau=>?_);refine cP [(14,8)] ?_
 iterate 1 refine bj ?_
 refine wpAnyH_done (by kernel_rfl) ?_ _;go_wp2_with fail;go_ret;exact aP ⟨HD.o _ DV.o OW.o,(ag.refl _ w).drew.trans OW.o⟩
def C.bZ(c:C)(n:Nat)(p:List UInt8):C×Int×Int:=
 if(Fm.cG c.m).2.2≠0 then({c with m:=(Fm.cG c.m).1},0,(Fm.cG c.m).2.2)
 else if(bm c.d n (Fm.cG c.m).2.1 (c.ep+1) 2 p).2≠0 then({c with m:=(Fm.dD (Fm.cG c.m).1 (Fm.cG c.m).2.1).1,d:=(bm c.d n (Fm.cG c.m).2.1 (c.ep+1) 2 p).1},0,(bm c.d n (Fm.cG c.m).2.1 (c.ep+1) 2 p).2)
 else({c with m:=(Fm.cG c.m).1,d:=(bm c.d n (Fm.cG c.m).2.1 (c.ep+1) 2 p).1},(Fm.cG c.m).2.1,0)
theorem TD(m:List Int)(h:m.length<=1024):(Fm.cG m).2.1<=1024/\0<=(Fm.cG m).2.1:=by
 unfold Fm.cG
 split
 .exact⟨by show(Fm.cR m 0:Int)<=_;omega,by show(0:Int)<=(Fm.cR m 0:Int);omega⟩
 .exact⟨by show(0:Int)<=_;omega,by show(0:Int)<=0;omega⟩
theorem rW(x:X):∀g∈[x.mg],g∈x.fp:=by intro g hg;simp at hg;subst hg;simp[X.fp]
theorem GU(x:X):∀g∈x.L.fp,g∈x.fp:=by intro g hg;simp[X.fp,hg]
theorem qW{c:C}(h:At w x n c)(s:ByteArray)(Gn:0<=c.ep/\c.ep<=1099511627776)(hc:c.d.calls<=3999999999999999990)(hr:c.d.bn<=9223372036854775807):
  Calls prog 166 #[sp x.b,.string s] w λe w'=>e=.returned (.tuple #[.int .i64 (c.bZ n s.data.toList).2.1,.int .i64 (c.bZ n s.data.toList).2.2])/\At w' x n (c.bZ n s.data.toList).1/\ag x.fp w w':=by
 have KT:=Fm.tU h.hm;have HT:=xh (λ(w':World) (hm:Fm.dE w' x.mb x.mg (Fm.cG c.m).1) (ho:ag [x.mg] w w')=>At.map h hm ho);have nX:c.m.length<=1024:=h.hm.hl;have hid:=TD c.m nX;have f1:=h.f1;obtain⟨R,hR⟩:∃R,c.bZ n s.data.toList=R:=⟨_,rfl⟩;rw[hR];unfold C.bZ at hR
 by_cases h1:(Fm.cG c.m).2.2=0
 .rw[if_neg (by simpa using h1)]at hR;rw[h1]at KT;generalize (Fm.cG c.m).2.1=id at *;generalize (Fm.cG c.m).1=m1 at *;have KP:=xh (λ(w':World) (hh:At w' x n {c with m:=m1})=>iO hh id 2 s (by omega) Gn hc hr);dsimp only at KP
  by_cases h2:(bm c.d n id (c.ep+1) 2 s.data.toList).2=0
  .rw[if_neg (by simpa using h2)]at hR;rw[h2]at KP;subst hR;generalize (bm c.d n id (c.ep+1) 2 s.data.toList).1=d1 at *;have KT:=xh KT;clear h h1 h2;unfold sp Fm.mp at *;go_enter func166,ntmps166;go_wp2_with fail;refine KT.o.mono ?_;rintro e w1 ⟨rfl,mm,ow⟩;have A1:=xh (HT.o _ mm ow);have O1:=xh ow;clear mm ow;go_wp2_with fail;refine(KP.o _ A1.o).mono ?_;rintro e w2 ⟨rfl,aa,ow⟩;have A2:=xh aa
   have O2:=xh ((O1.o.mono (λg hg _=>rW x g hg)).trans (ow.mono (λg hg _=>GU x g hg)));clear aa ow;go_wp2_with fail;go_ret2;exact aP ⟨A2.o,O2.o⟩
  .rw[if_pos h2]at hR;subst hR;have hq:((bm c.d n id (c.ep+1) 2 s.data.toList).2 != 0)=true:=by rw[bne_iff_ne];exact h2
   generalize (bm c.d n id (c.ep+1) 2 s.data.toList).1=d1 at *;generalize (bm c.d n id (c.ep+1) 2 s.data.toList).2=er at *;have KT:=xh KT;clear h h1 h2;unfold sp Fm.mp at *;go_enter func166,ntmps166;go_wp2_with fail;refine KT.o.mono ?_;rintro e w1 ⟨rfl,mm,ow⟩;have A1:=xh (HT.o _ mm ow);have O1:=xh ow;clear mm ow;go_wp2_with fail;refine(KP.o _ A1.o).mono ?_;rintro e w2 ⟨rfl,aa,ow⟩;have A2:=xh aa
   have O2:=xh ((O1.o.mono (λg hg _=>rW x g hg)).trans (ow.mono (λg hg _=>GU x g hg)));have f1':=aa.f1;have KL:=Fm.qU aa.hm id;dsimp only at KL;have KL:=xh KL;unfold Fm.mp at *;clear aa ow;go_wp2_with fail;refine KL.o.mono ?_;rintro e w3 ⟨rfl,mm,ow⟩;have A3:=xh (A2.o.map mm ow);have O3:=xh (O2.o.trans (ow.mono (λg hg _=>rW x g hg)));clear mm ow;go_wp2_with fail;go_ret2;exact aP ⟨A3.o,O3.o⟩
 .rw[if_pos h1]at hR;subst hR;have hq:((Fm.cG c.m).2.2 != 0)=true:=by rw[bne_iff_ne];exact h1
  generalize (Fm.cG c.m).2.1=id at *;generalize (Fm.cG c.m).2.2=er at *;generalize (Fm.cG c.m).1=m1 at *;have KT:=xh KT;clear h h1;unfold sp Fm.mp at *;go_enter func166,ntmps166;go_wp2_with fail;refine KT.o.mono ?_;rintro e w1 ⟨rfl,mm,ow⟩;have A1:=xh (HT.o _ mm ow);have O1:=xh (ow.mono (S':=x.fp) (λg hg _=>rW x g hg));clear mm ow;go_wp2_with fail;go_ret2;exact aP ⟨A1.o,O1.o⟩
variable{v:Value}{k:Nat}{l:List Value}
section
variable{w w':World}{x:X}{n:Nat}{c:C}
theorem vA(S:Sl w 3 v k l):∀g∈cf v,∃cs,aF w g 3 cs:=by
 intro g hg
 rcases S.2 with⟨A,rfl,_⟩|⟨g',cap,rest,rfl,h0,B,_⟩
 .cases A<;>simp[cf]at hg
 .simp[cf]at hg;rw[hg.2];exact⟨_,B⟩
theorem At.E6(h:At w x n c)(S:Sl w 3 v k l):x.b∉cf v/\x.mb∉cf v/\∀g∈x.L.fp,g∉cf v:=by
 refine⟨λhg=>?_,λhg=>?_,λg hgL hg=>?_⟩
 .obtain⟨cs,B⟩:=vA S _ hg;exact h.hb.kl B (by decide) rfl
 .obtain⟨cs,B⟩:=vA S _ hg;exact h.hm.hb.kl B (by decide) rfl
 .obtain⟨cs,B⟩:=vA S _ hg;simp only[Loc.fp,aj,gP,or_false]at hgL
  rcases hgL with rfl|rfl|rfl|rfl
  .exact h.hd.hb.kl B (by decide) rfl
  .exact h.hd.hN.kl B (by decide) rfl
  .exact h.hd.hO.kl B (by decide) rfl
  .exact h.hd.hL.kl B (by decide) rfl
theorem At.iD(h:At w x n c)(k:Nat)(hk:k<c.table.length)(u:Int):∃g cp,x.tv=.slice (some ⟨g,0,none⟩) c.table.length cp/\w.cell? ⟨g,k,none⟩=some (.int .i64 (c.table.getD k 0))/\w.frozen? ⟨g,k,none⟩=false/\
  At (w.setCell ⟨g,k,none⟩ (.int .i64 u)) x n {c with table:=c.table.set k u}/\ag x.fp w (w.setCell ⟨g,k,none⟩ (.int .i64 u)):=by
 obtain⟨g,cp,hv,S,hg,z,ow⟩:=h.ht.bU k hk (.int .i64 u);obtain⟨g',cp',RZ,ck⟩:=h.tk k hk;rw[hv]at RZ;injection RZ with e1 e2 e3
 injection e1 with e1
 injection e1 with e1
 subst e1;have ne:=h.E6 h.ht;rw[hg]at ne;refine⟨g,cp,hv,ck,z,⟨h.hb.only ow ne.1,h.hd.only ow ne.2.2,h.hm.only ow ne.2.1 (by rw[<-hg];exact h.n1),?_,h.ho.only ow (λy hy hm=>h.n4 y (by rw[hg];exact hm) hy),h.hp.only ow (λy hy hm=>h.n5 y (by rw[hg];exact hm) hy),h.n1,h.n2,h.n3,h.n4,h.n5,h.n6,by show(c.table.set k u).length<=512;rw[bW];exact h.tl⟩,ow.mono (λy hy _=>by
  have:y∈cf x.tv:=by rw[hg];exact hy
  simp[X.fp,this])⟩
 show Sl _ _ x.tv (c.table.set k u).length (cZ (c.table.set k u));rw[bW,<-TC];exact S
theorem At.addT(h:At w x n c)(u:Int){v':Value}(S:Sl w' 3 v' (c.table.length+1) (cZ (c.table++[u])))(ow:ag (cf x.tv) w w')(fr:∀g∈cf v',g∈cf x.tv\/w.heap.size<=g)(hl:c.table.length+1<=512):
  w'.cell? ⟨x.b,2,none⟩=some x.tv/\w'.frozen? ⟨x.b,2,none⟩=false/\At (w'.setCell ⟨x.b,2,none⟩ v') {x with tv:=v'} n {c with table:=c.table++[u]}/\ag x.fp w (w'.setCell ⟨x.b,2,none⟩ v')/\∀g∈({x with tv:=v'}:X).fp,g∈x.fp\/w.heap.size<=g:=by
 have ne:=h.E6 h.ht;have B1:=h.hb.only ow ne.1;have B2:aF (w'.setCell ⟨x.b,2,none⟩ v') x.b 146 #[dp x.L.b,Fm.mp x.mb,v',x.ov,x.pv,.int .i64 c.ep,.int .i64 c.slot,.bool c.broken]:=B1.bU 2 v';have o2:=(ag.refl [x.b] w').setCell (p:=⟨x.b,2,none⟩) (by simp) v';have D1:=h.hd.only ow ne.2.2;have M1:=h.hm.only ow ne.2.1 h.n1;have O1:=h.ho.only ow (λy hy hm=>h.n4 y hm hy);have P1:=h.hp.only ow (λy hy hm=>h.n5 y hm hy)
 have hbn:∀{t:TypeId} {cs:Array Value} {b:Nat},aF w' b t cs->t≠146->b∉[x.b]:=by
  intro t cs b B fc hm;simp at hm;subst hm;exact fc (B.inj B1).1
 have hs:∀{v:Value} {k:Nat} {l:List Value},Sl w' 3 v k l->∀g∈cf v,g∉[x.b]:=λS g hg=>by
  obtain⟨cs,B⟩:=vA S g hg;exact hbn B (by decide)
 refine⟨B1.ab rfl,B1.frozen 2 (by simp[E4]),⟨B2,D1.only o2 ?_,M1.only o2 (hbn M1.hb (by decide)) (hbn M1.hg (by decide)),?_,O1.only o2 (hs O1),P1.only o2 (λg hg hm=>P1.aQ B1 (by decide) (by decide) (by rw[<-aI.1 hm];exact hg)),?_,h.n2,h.n3,?_,?_,h.n6,by show(c.table++[u]).length<=512;rw[aO];exact hl⟩,?_,?_⟩
 .intro g hg;simp only[Loc.fp,aj,gP,or_false]at hg
  rcases hg with rfl|rfl|rfl|rfl
  .exact hbn D1.hb (by decide)
  .exact hbn D1.hN (by decide)
  .exact hbn D1.hO (by decide)
  .exact hbn D1.hL (by decide)
 .show Sl _ _ v' (c.table++[u]).length _;rw[aO];exact S.only o2 (hs S)
 .exact λhg=>(fr x.mg hg).elim h.n1 (λJB=>by have:=h.hm.hg.lt;omega)
 .exact λg hg ho=>(fr g hg).elim (λh1=>h.n4 g h1 ho) (λJB=>by have:=h.ho.lt g ho;omega)
 .exact λg hg ho=>(fr g hg).elim (λh1=>h.n5 g h1 ho) (λJB=>by have:=h.hp.lt g ho;omega)
 .exact(ow.mono (λg hg _=>by simp[X.fp,hg])).trans (o2.mono (λg hg _=>by simp at hg;subst hg;simp[X.fp]))
 .intro g hg;simp only[X.fp,aj,aB]at hg ⊢
  rcases hg with hg|hg|hg|((hg|hg)|hg)|hg
  .exact .inl (.inl hg)
  .exact .inl (.inr (.inl hg))
  .exact .inl (.inr (.inr (.inl hg)))
  .exact .inl (.inr (.inr (.inr (.inl (.inl (.inl hg))))))
  .exact(fr g hg).imp (λh1=> .inr (.inr (.inr (.inl (.inl (.inr h1)))))) id
  .exact .inl (.inr (.inr (.inr (.inl (.inr hg)))))
  .exact .inl (.inr (.inr (.inr (.inr hg))))
end
theorem TE{w:World}{l:List Int}(S:Sl w 3 v l.length (cZ l))(hl:l.length<=1000000)(k:Int):
  Calls prog 165 #[v,.int .i64 k] w λe w'=>e=.returned (.int .i64 (Fm.kD l k))/\w=w':=by
 by_cases h0:0<l.length
 .obtain⟨g,cap,rest,rfl,B,hc,_⟩:=S.form h0;exact Fm.qV g l.length cap l rfl hl k w (λj hj=>B.ab (by rw[dh,bE (by simpa using hj),pP _ _ hj]))
 .have hn:l=[]:=nc (by omega);subst hn;obtain⟨A,c,rfl,_⟩:=S.val;have e1:Fm.kD [] k= -1:=rfl;rw[e1];clear S;simp only[yY];go_enter func165,ntmps165;go_wp2_with fail
  go_loopw [8] (λiv wr=>iv=.int .i64 0/\wr=w) (λ_ _=>0)
  case atStart=>exact⟨rfl,rfl⟩
  case round=>
   obtain⟨rfl,rfl⟩:=hrel;go_wp2_with fail;go_ret;exact aP rfl
def iE(t:List Int):Nat:=Fm.cR t (-1)
theorem zv(t:List Int):iE t<=t.length:=by unfold iE Fm.cR;exact n7
theorem GV(t:List Int):Fm.kD t (-1)=if iE t<t.length then(iE t:Int)else -1:=rfl
attribute [local go_sem ↓] bw
variable{w:World}{x:X}{n:Nat}
theorem kG:(prog.info? 3).map (λi=>(i.zero,i.size,i.bytes))=some (some (.int .i64 0),1,8):=by kernel_rfl
def sH(t:List Int)(l:Nat)(u:Int):List Int:=if l=t.length then t++[u]else t.set l u
def C.bJ(c:C)(n:Nat)(p:List UInt8):C×Int×Int:=
 if c.broken=true then(c,0,13)
 else if 232<p.length then(c,0,4)
 else if 512<=iE c.table then(c,0,11)
 else if(c.bZ n p).2.2≠0 then((c.bZ n p).1,0,(c.bZ n p).2.2)
 else({(c.bZ n p).1 with table:=sH c.table (iE c.table) (c.bZ n p).2.1},iE c.table,0)
theorem lX(c:C)(n:Nat)(p:List UInt8):(c.bZ n p).1.table=c.table/\(c.bZ n p).1.bQ=c.bQ/\(c.bZ n p).1.parts=c.parts/\(c.bZ n p).1.ep=c.ep/\(c.bZ n p).1.slot=c.slot/\(c.bZ n p).1.broken=c.broken:=by
 unfold C.bZ
 split
 .exact⟨rfl,rfl,rfl,rfl,rfl,rfl⟩
 .split<;>exact⟨rfl,rfl,rfl,rfl,rfl,rfl⟩
def yh(w w':World)(x:X)(n:Nat)(c':C):Prop:= ∃x',x'.b=x.b/\x'.L=x.L/\At w' x' n c'/\ag x.fp w w'/\∀g∈x'.fp,g∈x.fp\/w.heap.size<=g
theorem yh.self{w':World}{c':C}(h:At w' x n c')(ho:ag x.fp w w'):yh w w' x n c':=⟨x,rfl,rfl,h,ho,λ_ hg=> .inl hg⟩
theorem new_any{c:C}(h:At w x n c)(s:ByteArray)(hs:s.size<=9223372036854775807)(Gn:0<=c.ep/\c.ep<=1099511627776)(hc:c.d.calls<=3999999999999999990)(hr:c.d.bn<=9223372036854775807):
  Calls prog 120 #[sp x.b,.string s] w λe w'=>e=.returned (.tuple #[.int .i64 (c.bJ n s.data.toList).2.1,.int .i64 (c.bJ n s.data.toList).2.2])/\yh w w' x n (c.bJ n s.data.toList).1:=by
 have KW:=iQ h;have hl:s.data.toList.length=s.size:=by simp
 obtain⟨R,hR⟩:∃R,c.bJ n s.data.toList=R:=⟨_,rfl⟩;rw[hR];unfold C.bJ at hR;rw[hl]at hR;have HH:=xh h
 by_cases h1:c.broken=true
 .rw[if_pos h1]at hR;subst hR;rw[show c.fH=13 from by unfold C.fH;rw[if_pos h1]]at KW;have KW:=xh KW;clear h h1;unfold sp at *;go_enter func120,ntmps120;go_wp2_with fail;refine KW.o.mono ?_;rintro e w1 ⟨rfl,rfl⟩;go_wp2_with fail;go_ret2;exact aP (.self HH.o (ag.refl _ _))
 rw[if_neg h1]at hR;rw[show c.fH=0 from by unfold C.fH;rw[if_neg h1]]at KW;have KW:=xh KW;have KI:=TE h.ht (by have:=h.tl;omega) (-1);rw[GV]at KI;have BH:=zv c.table;have f2:=h.f2;have tl:=h.tl;obtain⟨TA,tc,xd,htc⟩:=h.ht.val;obtain⟨l,Gr⟩:∃l,iE c.table=l:=⟨_,rfl⟩;rw[Gr]at KI hR BH
 by_cases h2:232<s.size
 .rw[if_pos h2]at hR;subst hR;have h2I:(232:Int)<(s.size:Int):=by omega
  by_cases h3:l<c.table.length
  .rw[if_pos h3]at KI;have KI:=xh KI;have h3I:¬(l:Int)<0:=by omega
   clear h h1 h2 xd;unfold sp at *;go_enter func120,ntmps120;go_wp2_with fail;refine KW.o.mono ?_;rintro e w1 ⟨rfl,rfl⟩;go_wp2_with fail;refine KI.o.mono ?_;rintro e w1 ⟨rfl,rfl⟩;go_wp2_with fail;go_ret2;exact aP (.self HH.o (ag.refl _ _))
  .rw[if_neg h3]at KI;have KI:=xh KI;clear h h1 h2;rw[xd]at f2 KI;unfold sp at *;go_enter func120,ntmps120;go_wp2_with fail;refine KW.o.mono ?_;rintro e w1 ⟨rfl,rfl⟩;go_wp2_with fail;refine KI.o.mono ?_;rintro e w1 ⟨rfl,rfl⟩;go_wp2_with fail;go_ret2;exact aP (.self HH.o (ag.refl _ _))
 rw[if_neg h2]at hR;have h2I:¬(232:Int)<(s.size:Int):=by omega
 by_cases h4:512<=l
 .rw[if_pos h4]at hR;subst hR;have h3:¬l<c.table.length:=by omega
  have h4I:(512:Int)<=(c.table.length:Int):=by omega
  rw[if_neg h3]at KI;have KI:=xh KI;clear h h1 h2;rw[xd]at f2 KI;unfold sp at *;go_enter func120,ntmps120;go_wp2_with fail;refine KW.o.mono ?_;rintro e w1 ⟨rfl,rfl⟩;go_wp2_with fail;refine KI.o.mono ?_;rintro e w1 ⟨rfl,rfl⟩;go_wp2_with fail;go_ret2;exact aP (.self HH.o (ag.refl _ _))
 rw[if_neg h4]at hR;have KF:=qW h s Gn hc hr;have hft:=lX c n s.data.toList;generalize hF:c.bZ n s.data.toList=F at *;obtain⟨c1,id,er⟩:=F;dsimp only at KF hft hR;have KF:=xh KF
 by_cases h5:er=0
 .rw[if_neg (by simpa using h5)]at hR;subst h5;have h4I:¬(512:Int)<=(l:Int):=by omega
  by_cases h3:l<c.table.length
  .rw[if_pos h3]at KI;have KI:=xh KI;have h3I:¬(l:Int)<0:=by omega
   have h3J:((l:Int)==(c.table.length:Int))=false:=by rw[beq_eq_false_iff_ne];omega
   have sG:sH c.table l id=c.table.set l id:=by unfold sH;rw[if_neg (by omega)]
   rw[sG]at hR;subst hR;have HFT:=xh hft;clear h h1 h2 hF sG hft xd;unfold sp at *;go_enter func120,ntmps120;go_wp2_with fail;refine KW.o.mono ?_;rintro e w1 ⟨rfl,rfl⟩;go_wp2_with fail;refine KI.o.mono ?_;rintro e w1 ⟨rfl,rfl⟩;go_wp2_with fail;refine KF.o.mono ?_;rintro e w1 ⟨rfl,aa,ow⟩;have f2':=aa.f2;obtain⟨g,cp,hv,ck,z,A2,o2⟩:=aa.iD l (by rw[HFT.o.1];exact h3) id;rw[hv,HFT.o.1]at f2'
   have AX:=xh (show At (w1.setCell ⟨g,l,none⟩ (.int .i64 id)) x n {c1 with table:=c.table.set l id}from by rw[<-HFT.o.1];exact A2);have OX:=xh (ow.trans o2);generalize c1.table.getD l 0=ov at ck;clear aa ow A2 o2 hv;clear f2;generalize c.table.length=tn at *;go_wp2_with fail;go_ret2;exact aP (.self AX.o OX.o)
  .obtain rfl:l=c.table.length:=by omega
   rw[if_neg h3]at KI;have sG:sH c.table c.table.length id=c.table++[id]:=by unfold sH;rw[if_pos rfl]
   rw[sG]at hR;subst hR;have HFT:=xh hft;have HTV:=xh xd;rw[xd]at f2 KI;have KI:=xh KI;clear h h1 h2 hF sG hft xd Gr BH h3 h4;generalize htn:c.table.length=tn at *;have HTN:=xh htn;clear htn;unfold sp at *;go_enter func120,ntmps120;go_wp2_with fail;refine KW.o.mono ?_;rintro e w1 ⟨rfl,rfl⟩;go_wp2_with fail;refine KI.o.mono ?_;rintro e w1 ⟨rfl,rfl⟩;go_wp2_with fail;refine KF.o.mono ?_;rintro e w1 ⟨rfl,aa,ow⟩;have f2':=aa.f2;have St:=aa.ht
   rw[HFT.o.1,HTN.o]at St;obtain⟨v',w2,ea,S2,R4,CQ⟩:=J3 (P:=prog) St 60 60 (.int .i64 0) 8 underlying60 kG rfl (.int .i64 id) rfl (by unfold maxLen;omega) (by omega);rw[show cZ c.table++[Value.int .i64 id]=cZ (c.table++[id])from by rw[fW];rfl]at S2;obtain⟨gg,iP,rr,rfl,BB,_,_⟩:=S2.form (by omega)
   have w2c:w2.cell? ⟨gg,tn,none⟩=some (.int .i64 id):=BB.ab (by rw[<-HTN.o,dh,bE (by simp),fW,dR (by simp)];simp[cZ]);have w2z:w2.frozen? ⟨gg,tn,none⟩=false:=BB.frozen _ (by have:=HTN.o;simp;omega);have hlt1:((tn:Nat):Int)<((tn+1:Nat):Int):=by omega
   have hlt2:tn<tn+1:=by omega
   have hadd:=aa.addT id (by rw[HFT.o.1,HTN.o];exact S2) R4 CQ (by rw[HFT.o.1,HTN.o];omega);obtain⟨g2,z2,A3,o3,fr3⟩:=hadd;rw[HFT.o.1]at A3;obtain⟨g,cp,hv,ck,z,A4,o4⟩:=A3.iD tn (by show _<(c.table++[id]).length;have:=HTN.o;simp;omega) id;have E9:(c.table++[id]).set tn id=c.table++[id]:=by
    rw[<-HTN.o,qN _ _ (Nat.le_refl _),fM];rfl
   have A4:At ((w2.setCell ⟨x.b,2,none⟩ (.slice (some ⟨gg,0,none⟩) (tn+1) iP)).setCell ⟨g,tn,none⟩ (.int .i64 id)) {x with tv:= .slice (some ⟨gg,0,none⟩) (tn+1) iP} n {c1 with table:=c.table++[id]}:=by
    have:=A4;dsimp only at this;rw[E9]at this;exact this
   dsimp only at hv;injection hv with po pB Gp
   injection po with po
   injection po with po
   clear pB;subst po Gp;have fc:x.b≠gg:=BB.kl (aa.hb.only R4 (aa.E6 aa.ht).1) (by decide)|>.symm;have hne2:gg≠x.b:=fc.symm;have f2'':(w2.setCell ⟨x.b,2,none⟩ (.slice (some ⟨gg,0,none⟩) (tn+1) iP)).cell? ⟨x.b,2,none⟩=some (.slice (some ⟨gg,0,none⟩) (tn+1) iP):=A3.f2;rw[HTV.o]at f2' g2 ea;have EA:=xh ea;have AX:=xh A4;have OX:=xh ((ow.trans o3).aL o4 (λg hg dP=>(fr3 g hg).elim (λh=>h) (λh=>by have:=ow.size;omega)))
   have FX:=xh (show ∀g'∈({x with tv:= .slice (some ⟨gg,0,none⟩) (tn+1) iP}:X).fp,g'∈x.fp\/w.heap.size<=g' from λg' hg=>(fr3 g' hg).imp (λh=>h) (λh=>aq ow.size h));generalize (c.table++[id]).getD tn 0=ov at ck;clear aa ow A3 A4 o3 o4 R4 CQ St S2 ea E9 fr3 BB;go_wp2_with fail;rw[EA.o];go_wp2_with fail;go_ret2;exact aP ⟨{x with tv:= .slice (some ⟨gg,0,none⟩) (tn+1) iP},rfl,rfl,AX.o,OX.o,FX.o⟩
 .rw[if_pos h5]at hR;subst hR;have hq:(er != 0)=true:=by rw[bne_iff_ne];exact h5
  have h4I:¬(512:Int)<=(l:Int):=by omega
  by_cases h3:l<c.table.length
  .rw[if_pos h3]at KI;have KI:=xh KI;have h3I:¬(l:Int)<0:=by omega
   clear h h1 h2 hF xd;unfold sp at *;go_enter func120,ntmps120;go_wp2_with fail;refine KW.o.mono ?_;rintro e w1 ⟨rfl,rfl⟩;go_wp2_with fail;refine KI.o.mono ?_;rintro e w1 ⟨rfl,rfl⟩;go_wp2_with fail;refine KF.o.mono ?_;rintro e w1 ⟨rfl,aa,ow⟩;have AX:=xh aa;have OX:=xh ow;clear aa ow;go_wp2_with fail;go_ret2;exact aP (.self AX.o OX.o)
  .rw[if_neg h3]at KI;have hlI:¬(512:Int)<=(c.table.length:Int):=by omega
   have KI:=xh KI;clear h h1 h2 hF;rw[xd]at f2 KI;unfold sp at *;go_enter func120,ntmps120;go_wp2_with fail;refine KW.o.mono ?_;rintro e w1 ⟨rfl,rfl⟩;go_wp2_with fail;refine KI.o.mono ?_;rintro e w1 ⟨rfl,rfl⟩;go_wp2_with fail;refine KF.o.mono ?_;rintro e w1 ⟨rfl,aa,ow⟩;have AX:=xh aa;have OX:=xh ow;clear aa ow;go_wp2_with fail;go_ret2;exact aP (.self AX.o OX.o)
end Sh
namespace Sh
open Go.RowKit Pk Dk Pg
attribute [local go_sem ↓] Go.wp_at_zero Go.wp_at_succ
def PY(e:Int):Int:=if e=13 then 13 else 14
theorem bad_any(e:Int)(w:World):
  Calls prog 140 #[.int .i64 e] w λr w'=>r=.returned (.int .i64 (PY e))/\w=w':=by
 have HB:=xh (rfl:PY e=PY e);obtain⟨b,hb⟩:∃b,PY e=b:=⟨_,rfl⟩;rw[hb];unfold PY at hb
 by_cases h:e=13
 .rw[if_pos h]at hb;subst hb h;go_enter func140,ntmps140;go_wp2_with fail;go_ret;exact aP rfl
 .rw[if_neg h]at hb;subst hb;have hq:(e==13)=false:=by rw[beq_eq_false_iff_ne];exact h
  go_enter func140,ntmps140;go_wp2_with fail;go_ret;exact aP rfl
def C.aR(c:C)(l:Int):C×Int:=
 if c.jD l≠0 then(c,c.jD l)else({c with m:=(Fm.dD c.m (c.table.getD l.toNat 0)).1,table:=c.table.set l.toNat (-1)},0)
def C.aK(c:C)(n:Nat)(l:Int):List UInt8×Int:=
 if c.jD l≠0 then([],c.jD l)
 else if(bs c.d n (c.table.getD l.toNat 0)).2≠0 then([],PY (bs c.d n (c.table.getD l.toNat 0)).2)
 else((bs c.d n (c.table.getD l.toNat 0)).1.s,0)
theorem Ko{c:C}{l:Int}(h:c.jD l=0):c.broken=false/\0<=l/\l<c.table.length/\0<=c.table.getD l.toNat 0:=by
 unfold C.jD at h
 split at h
 .simp at h
 .rename_i hb
  split at h
  .rename_i hh;unfold C.rM at hh;simp only[ig,decide_eq_true_eq]at hh;exact⟨by simpa using hb,hh.1.1,hh.1.2,hh.2⟩
  .simp at h
theorem GW{w:World}{x:X}{n:Nat}{c:C}(h:At w x n c)(l:Int):
  Calls prog 179 #[sp x.b,.int .i64 l] w λe w'=>e=.returned (.int .i64 (c.aR l).2)/\At w' x n (c.aR l).1/\ag x.fp w w':=by
 have KA:=pM h l;have HH:=xh h;obtain⟨R,hR⟩:∃R,c.aR l=R:=⟨_,rfl⟩;rw[hR];unfold C.aR at hR
 by_cases h1:c.jD l=0
 .rw[if_neg (by simpa using h1)]at hR;obtain⟨_,h2,h3,h4⟩:=Ko h1;rw[h1]at KA;obtain⟨k,rfl⟩:=eT h2;have hk:k<c.table.length:=by omega
  rw[show((k:Nat):Int).toNat=k from by omega]at hR h4;obtain⟨g,cp,hv,ck⟩:=h.tk k hk;have f1:=h.f1;have f2:=h.f2;rw[hv]at f2;have KL:=Fm.qU h.hm.drew (c.table.getD k 0);have HM:=xh (λ(w':World) (m':List Int) (mm:Fm.dE w' x.mb x.mg m') (ow:ag [x.mg] w.drew w')=>At.map h.drew mm ow);have hg:g∈cf x.tv:=by rw[hv];simp[cf];have:=(h.ht.val);obtain⟨A,cc,e1,e2⟩:=this;rw[hv]at e1;injection e1 with _ _ e3;omega
  have HP:=xh (show ∀w',ag [x.mg] w.drew w'->(w'.cell? ⟨x.b,1,none⟩=some (Fm.mp x.mb)/\w'.cell? ⟨x.b,2,none⟩=some (.slice (some ⟨g,0,none⟩) c.table.length cp)/\w'.cell? ⟨g,k,none⟩=some (.int .i64 (c.table.getD k 0)))from λw' ho=>by
   have B:=h.hb.drew.only ho (λhm=>by simp at hm;exact h.hb.kl h.hm.hg (by decide) hm);have T:=h.ht.drew.only ho (λy hy hm=>by simp at hm;subst hm;exact h.n1 hy);obtain⟨g',cp',rest,RZ,BB,_,_⟩:=T.form (by omega);rw[hv]at RZ;injection RZ with e1 e2 e3
   injection e1 with e1
   injection e1 with e1
   subst e1;refine⟨B.ab (i:=1) rfl,?_,BB.ab (by rw[dh,bE (by simpa using hk),pP _ _ hk])⟩;rw[<-hv];exact B.ab (i:=2) rfl)
  have HK:=xh (show w.drew.cell? ⟨x.b,1,none⟩=some (Fm.mp x.mb)/\w.drew.cell? ⟨x.b,2,none⟩=some (.slice (some ⟨g,0,none⟩) c.table.length cp)/\w.drew.cell? ⟨g,k,none⟩=some (.int .i64 (c.table.getD k 0))from⟨f1,f2,ck⟩);have R5:=xh hk
  have HX:=xh (show ∀w' m',At w' x n {c with m:=m'}->w'.cell? ⟨g,k,none⟩=some (.int .i64 (c.table.getD k 0))/\w'.frozen? ⟨g,k,none⟩=false/\At (w'.setCell ⟨g,k,none⟩ (.int .i64 (-1))) x n {c with m:=m',table:=c.table.set k (-1)}/\ag x.fp w' (w'.setCell ⟨g,k,none⟩ (.int .i64 (-1)))from λw' m' hh=>by
   obtain⟨g',cp',RZ,ck',z',A',o'⟩:=hh.iD k hk (-1);rw[hv]at RZ;injection RZ with e1 e2 e3
   injection e1 with e1
   injection e1 with e1
   subst e1;exact⟨ck',z',A',o'⟩)
  have Kp:(k:Int)<(c.table.length:Int):=by omega
  subst hR;generalize c.table.getD k 0=pid at *;generalize (Fm.dD c.m pid).2=le at *;generalize (Fm.dD c.m pid).1=m2 at *;have HQ:=xh hv;clear h h1 f1 f2 ck hv hg h4;generalize c.table.length=tn at *;have KA:=xh KA;unfold sp Fm.mp at *;have KL:=xh KL;go_enter func179,ntmps179;go_wp2_with fail;refine KA.o.mono ?_;rintro e w1 ⟨rfl,rfl⟩;go_wp2_with fail
  refine wp_region_held_drew (S:=λW'=>W'.cell? ⟨x.b,1,none⟩=some (.pointer (some ⟨x.mb,0,none⟩))/\W'.cell? ⟨x.b,2,none⟩=some (.slice (some ⟨g,0,none⟩) tn cp)/\W'.cell? ⟨g,k,none⟩=some (.int .i64 pid)) (by kernel_rfl) (HK.o) (λau=>?_);refine cP [(0,12),(1,13),(2,14),(3,15),(4,16),(5,17),(6,18),(7,19),(8,20),(9,21),(10,22)] ?_
  iterate 11 refine bj ?_
  refine cQ 11 23 λK hK=>?_;go_simp
  go_at_call 153
  refine KL.o.mono ?_;rintro e w1 ⟨rfl,mm,ow⟩;have A1:=xh (HM.o _ _ mm ow);have OW:=xh ow;have HX1:=xh (HX.o _ _ A1.o);have f2x:=(HP.o _ ow).2.1;have ckx:=HX1.o.1;have zkx:=HX1.o.2.1;have OX:=xh (((ag.refl _ w).drew.trans (ow.mono (S':=x.fp) (λg hg _=>rW x g hg))).trans HX1.o.2.2.2);clear mm ow;go_simp;refine bz hK (HP.o _ OW.o) (λau=>?_);refine wpAnyH_done (by kernel_rfl) ?_ _;go_wp2_with fail;go_ret;exact aP ⟨HX1.o.2.2.1,OX.o⟩
 .rw[if_pos h1]at hR;subst hR;have hq:(c.jD l != 0)=true:=by rw[bne_iff_ne];exact h1
  have KA:=xh KA;generalize c.jD l=er at *;clear h h1;unfold sp at *;go_enter func179,ntmps179;go_wp2_with fail;refine KA.o.mono ?_;rintro e w1 ⟨rfl,rfl⟩;go_wp2_with fail;go_ret;exact aP ⟨HH.o,ag.refl _ _⟩
theorem nC{w:World}{x:X}{n:Nat}{c:C}(h:At w x n c)(l:Int):
  Calls prog 228 #[sp x.b,.int .i64 l] w λe w'=>e=.returned (.tuple #[.string ⟨(c.aK n l).1.toArray⟩,.int .i64 (c.aK n l).2])/\Below w.heap.size w w':=by
 have KA:=pM h l;obtain⟨R,hR⟩:∃R,c.aK n l=R:=⟨_,rfl⟩;rw[hR];unfold C.aK at hR
 by_cases h1:c.jD l=0
 .rw[if_neg (by simpa using h1)]at hR;obtain⟨_,h2,h3,h4⟩:=Ko h1;rw[h1]at KA;obtain⟨k,rfl⟩:=eT h2;have hk:k<c.table.length:=by omega
  rw[show((k:Nat):Int).toNat=k from by omega]at hR h4;obtain⟨g,cp,hv,ck⟩:=h.tk k hk;have Kp:(k:Int)<(c.table.length:Int):=by omega
  have HK:=xh (show ∀W',Below w.heap.size w W'->(W'.cell? ⟨x.b,0,none⟩=some (.pointer (some ⟨x.L.b,0,none⟩))/\W'.cell? ⟨x.b,2,none⟩=some (.slice (some ⟨g,0,none⟩) c.table.length cp)/\W'.cell? ⟨g,k,none⟩=some (.int .i64 (c.table.getD k 0)))from λW' hb=>by
   have h':=h.below hb;obtain⟨g',cp',RZ,ck'⟩:=h'.tk k hk;have e:=hv;rw[RZ]at e;injection e with e1 e2 e3
   injection e1 with e1
   injection e1 with e1
   subst e1;exact⟨h'.f0,by rw[<-hv];exact h'.f2,ck'⟩)
  have OD:=xh (show Below w.heap.size w w.drew from(Below.refl _ _).drew);have KR:=λ(W:World) (hb:Below w.heap.size w W)=>PN (h.hd.below hb) (c.table.getD k 0);obtain⟨P,hP⟩:∃P,bs c.d n (c.table.getD k 0)=P:=⟨_,rfl⟩;rw[hP]at KR hR;obtain⟨⟨rid,rep,rkd,rs⟩,er⟩:=P;have KB:=xh (λw=>bad_any er w);unfold PG.val iZ at KR;dsimp only at KR hR;generalize c.table.getD k 0=pid at *;generalize c.table.length=tn at *;unfold dp at KR;have KR:=xh KR;have KA:=xh KA
  clear h h1 hv hP h4 ck;unfold sp at *;have HR:=xh hR;clear hR;go_enter func228,ntmps228;go_wp2_with fail;refine KA.o.mono ?_;rintro e w1 ⟨rfl,rfl⟩;go_wp2_with fail;refine wp_region_held_drew (S:=λW'=>W'.cell? ⟨x.b,0,none⟩=some (.pointer (some ⟨x.L.b,0,none⟩))/\W'.cell? ⟨x.b,2,none⟩=some (.slice (some ⟨g,0,none⟩) tn cp)/\W'.cell? ⟨g,k,none⟩=some (.int .i64 pid)) (by kernel_rfl) (HK.o _ OD.o) (λau=>?_)
  refine cP [(0,16),(1,17),(2,18),(3,19),(4,20),(5,21),(6,22),(7,23),(8,24),(9,25),(10,26)] ?_
  iterate 11 refine bj ?_
  refine wpAnyH_ready (rs:=[11,15]) (by kernel_rfl) (by simp) ?_;refine AllReadyH.cons (o:=⟨some 27,_,_,_,_,_⟩) rfl (λK hK=>?_) (AllReadyH.cons (o:=⟨some 7,_,_,_,_,_⟩) rfl (λK hK=>?_) AllReadyH.nil)
  focus
   go_simp
   go_at_call 139
   refine(KR.o _ OD.o).mono ?_;rintro e v1 ⟨rfl,po⟩;have P1:=xh (aC OD.o po);clear po;go_simp;refine bz hK (HK.o _ P1.o) (λau=>?_);refine cP [(12,15),(13,28),(14,29)] ?_
   iterate 3 refine bj ?_
   refine cQ 15 7 λK hK=>?_;go_simp;have P2:=xh (ae P1.o (.cells jU 162));refine bz hK (HK.o _ P2.o) (λau=>?_);refine nB 16 λK hK=>?_;go_simp;have P3:=xh (ae P1.o (.cells #[.int .i64 rid,.int .i64 rep,.int .i64 rkd,.string ⟨rs.toArray⟩] 162));have BX:=xh (aF.new v1 162 #[.int .i64 rid,.int .i64 rep,.int .i64 rkd,.string ⟨rs.toArray⟩]);refine bz hK (HK.o _ P3.o) (λau=>?_);refine cP [(17,8)] ?_
   iterate 1 refine bj ?_
   refine zpe ?_
  rotate_left
  focus
   go_simp;have P1:=xh (ae OD.o (.cells jU 162));have BX0:=xh (show aF (w.drew.alloc (.cells jU 162)) w.heap.size 162 jU from aF.new w.drew 162 jU);refine bz hK (HK.o _ P1.o) (λau=>?_);refine cQ 11 27 λK hK=>?_;go_simp
   go_at_call 139
   refine(KR.o _ P1.o).mono ?_;rintro e v1 ⟨rfl,po⟩;have P2:=xh (aC P1.o po);have BX1:=xh (BX0.o.below po BX0.o.lt);clear po;have z0:=BX1.o.frozen 0 (by simp);have z1:=BX1.o.frozen 1 (by simp);have z2:=BX1.o.frozen 2 (by simp);have z3:=BX1.o.frozen 3 (by simp);have c0:=BX1.o.ab (i:=0) rfl;have c1:=BX1.o.ab (i:=1) rfl;have c2:=BX1.o.ab (i:=2) rfl;have c3:=BX1.o.ab (i:=3) rfl;go_simp
   refine bz hK (HK.o _ P2.o) (λau=>?_);refine cP [(12,15),(13,28),(14,29)] ?_
   iterate 3 refine bj ?_
   refine nB 16 λK hK=>?_;go_simp;have P3:=xh (fV P2.o (Nat.le_refl _) rid rep rkd ⟨rs.toArray⟩);have BX:=xh (ky BX1.o rfl rid rep rkd ⟨rs.toArray⟩);refine bz hK (HK.o _ P3.o) (λau=>?_);refine cP [(17,8)] ?_
   iterate 1 refine bj ?_
   refine zpe ?_
  rotate_left
  all_goals
   refine wpAnyH_done (by kernel_rfl) ?_ _;have hR:=HR.o
   by_cases h5:er=0
   .rw[if_neg (by simpa using h5)]at hR;subst hR h5;have y3:=BX.o.ab (i:=3) rfl;go_wp2_with fail;go_ret2;exact aP P3.o
   .rw[if_pos h5]at hR;have hq:(er != 0)=true:=by rw[bne_iff_ne];exact h5
    subst hR;clear h5;go_wp2_with fail;refine(KB.o _).mono ?_;rintro e wz ⟨rfl,rfl⟩;go_wp2_with fail;go_ret2;exact aP P3.o
 .rw[if_pos h1]at hR;subst hR;have hq:(c.jD l != 0)=true:=by rw[bne_iff_ne];exact h1
  have KA:=xh KA;generalize c.jD l=er at *;clear h h1;unfold sp at *;go_enter func228,ntmps228;go_wp2_with fail;refine KA.o.mono ?_;rintro e w1 ⟨rfl,rfl⟩;go_wp2_with fail;go_ret2;exact aP (Below.refl _ _)
attribute [local go_sem ↓] bw
def yi(t:List Int):Nat->List Int
 |0=>[]
 |k+1=>yi t k++if 0<=t.getD k 0 then [(k:Int)]else []
theorem TF(t:List Int):∀k,(yi t k).length<=k
 |0=>Nat.le_refl _
 |k+1=>by
  have:=TF t k;unfold yi;rw[aO]
  split<;>simp<;>omega
theorem Kq{w:World}{x:X}{n:Nat}{c:C}(h:At w x n c):
  Calls prog 29 #[sp x.b] w λe w'=> ∃A cc,e=.returned (.slice A (yi c.table c.table.length).length cc)/\aS w' 3 1 (.slice A (yi c.table c.table.length).length cc) (yi c.table c.table.length).length (cZ (yi c.table c.table.length))/\Below w.heap.size w w':=by
 have f2:=h.f2;have tl:=h.tl;obtain⟨TA,tc,xd,htc⟩:=h.ht.val;rw[xd]at f2;have HT:=xh (λ(k:Nat) (hk:k<c.table.length) (W:World) (hb:Below w.heap.size w W)=>(h.below hb).tk k hk);have HV:=xh xd;obtain⟨t,ht⟩:∃t,c.table=t:=⟨_,rfl⟩;rw[ht]at f2 tl htc HT HV ⊢;obtain⟨tn,htn⟩:∃tn,t.length=tn:=⟨_,rfl⟩;rw[htn]at f2 tl htc HT HV ⊢;clear h xd ht htn;unfold sp at *;go_enter func29,ntmps29;go_wp2_with fail
 go_loopw [3,14] (λbv iv wr=> ∃k:Nat,k<=tn/\iv=.int .i64 k/\aS wr 3 1 bv (yi t k).length (cZ (yi t k))/\Hid (Below w.heap.size w wr)/\Hid (∀g∈ah bv,w.heap.size<=g)) (λ_ iv _=>tn-(intOf iv).toNat)
 case atStart=>exact⟨0,bf _,rfl,aS.nil _ _ _,xh (Below.refl _ _),xh (by simp[ah])⟩
 case round=>
  obtain⟨k,hk,rfl,S,O,F⟩:=hrel;have hle:=TF t k;obtain⟨VA,vc,rfl⟩:=ax S
  by_cases h':k<tn
  .have Kp:(k:Int)<(tn:Int):=by omega
   obtain⟨g,cp,hv,ck⟩:=HT.o k h' wr O.o;rw[HV.o]at hv;injection hv with e1 e2 e3
   subst e1 e3;obtain⟨u,hu⟩:∃u,t.getD k 0=u:=⟨_,rfl⟩;rw[hu]at ck
   by_cases hpos:0<=u
   .have CR:yi t (k+1)=yi t k++[(k:Int)]:=by
     show yi t k++_=_;rw[hu,if_pos hpos]
    obtain⟨v',w2,ea,S2,ow,fr⟩:=dj (P:=prog) S 60 60 (.int .i64 0) 8 underlying60 kG rfl (.int .i64 (k:Int)) rfl (by unfold maxLen;omega) (by omega);obtain⟨V2,iP,rfl⟩:=ax S2;have hlen:(yi t (k+1)).length=(yi t k).length+1:=by rw[CR];simp
    have EA:=xh ea;have SX:=xh (show aS w2 3 1 (.slice V2 ((yi t k).length+1) iP) (yi t (k+1)).length (cZ (yi t (k+1)))from by
     rw[hlen,CR,fW];exact S2)
    have OX:=xh (O.o.trans (ow.aJ O.o.size F.o));have FX:=xh (show ∀g'∈ah (.slice V2 ((yi t k).length+1) iP),w.heap.size<=g' from λg' hg=>(fr g' hg).elim (F.o g') (λh=>aq O.o.size h));clear ea S2 ow fr S CR hlen hu;generalize (yi t k).length=pl at *;go_wp2_with fail;rw[EA.o];go_wp2_with fail;go_roundw
    case rel=>exact⟨k+1,by omega,by go_num,SX.o,OX,FX⟩
    case measure=>simp[intOf];omega
   .have CR:yi t (k+1)=yi t k:=by
     show yi t k++_=_;rw[hu,if_neg hpos,jh]
    have SX:=xh S;have HN:=xh CR;clear S CR hu;go_wp2_with fail;go_roundw
    case rel=>exact⟨k+1,by omega,by go_num,by rw[HN.o];exact SX.o,O,F⟩
    case measure=>simp[intOf];omega
  .obtain rfl:k=tn:=by omega
   have SX:=xh S;clear S;go_wp2_with fail;go_ret;exact⟨_,_,by first|rfl|simp,SX.o,O.o⟩
end Sh
namespace Sh
open Go.RowKit Pk Dk Pg
attribute [local go_sem ↓] Go.wp_at_zero Go.wp_at_succ
variable{d:D}{w:World}{n:Nat}
def fD:List UInt8:=Rt.eV 1 0 []
def NM(d:D)(n:Nat):D:=(((d.aA n 0 fD).1.aA n 1 []).1.eh).1
def eo(d:D)(n:Nat):C:={d:=NM d n,m:=List.replicate (eY n) 0,table:=[],bQ:=[],parts:=[],ep:=1,slot:=0,broken:=false}
theorem nE(hd:d.down=false)(ha:d.bn=0):d.eh.2=0/\d.eh.1.down=false/\d.eh.1.bn=0/\d.eh.1.now=d.now:=by
 obtain⟨c1,c2,c3⟩:=wY d ha;unfold D.eh;rw[if_neg (by simp[hd]),if_pos c1];exact⟨rfl,c3.trans hd,c2,CK d⟩
theorem TG:Rt.iC 1 ((0:Nat):Int) (Rt.dv []):=by
 refine⟨by omega,by omega,by omega,by omega,by decide,?_⟩;intro i x hx;simp[Rt.dv]at hx
theorem Kr{L:Dk.Loc}(h:aX w L n d)(hp:1<=eY n)(hd:d.down=false)(ha:d.bn=0)(hc:d.calls<=1000):
  Calls prog 53 #[dp L.b] w λe w'=> ∃x,x.L=L/\e=.returned (.tuple #[sp x.b,.int .i64 0])/\At w' x n (eo d n)/\ag L.fp w w'/\∀g∈x.fp,g∈L.fp\/w.heap.size<=g:=by
 have hn:=h.ok.small;have RU:6<=n:=by unfold eY ct at hp;omega
 have NN:=h.ok.calls;have NR:eY n<=1024:=by unfold eY;omega
 have w1f:=iB (n:=n) (k:=0) hd ha (by omega) fD;have w2f:=iB (n:=n) (k:=1) w1f.2.1 w1f.2.2 (by omega) [];have sf:=nE w2f.2.1 w2f.2.2;have b1:=iR d n ((0:Nat):Int) fD (by omega);have b2:=iR (d.aA n ((0:Nat):Int) fD).1 n ((1:Nat):Int) [] b1.2;have KP:=xh (λw' (hb:Below w.heap.size w w')=>PW (h.below hb));have KN:=xh (λw=>Fm.EP (eY n) w NR)
 have KR:=xh (λw=>Rt.GR (w:=w) 1 0 none 0 0 [] ⟨rfl,λk x hx=>by simp[Rt.dv]at hx⟩ (Nat.le_refl _) TG);have HD:=xh h;have pQ:=xh (λg hg=>h.lt g hg);have O1:=xh (ae (Below.refl w.heap.size w) (.cells #[dp L.b,.pointer none,.slice none 0 0,.slice none 0 0,.slice none 0 0,.int .i64 1,.int .i64 0,.bool false] 146))
 have B1:=xh (aF.new w 146 #[dp L.b,.pointer none,.slice none 0 0,.slice none 0 0,.slice none 0 0,.int .i64 1,.int .i64 0,.bool false]);have hpz:((eY n:Nat):Int)≠0:=by omega
 have hpq:(((eY n:Nat):Int)==0)=false:=by rw[beq_eq_false_iff_ne];exact hpz
 have KP0:=KP.o w (Below.refl _ _);have e1:(⟨fD.toArray⟩:ByteArray).data.toList=fD:=by simp
 have e2:(⟨#[]⟩:ByteArray).data.toList=([]:List UInt8):=by simp
 have c1:=iR d n 0 fD (by omega);have c2:=iR (d.aA n 0 fD).1 n 1 [] c1.2;have v1:(d.aA n 0 fD).2=0:=w1f.1;have v2:((d.aA n 0 fD).1.aA n 1 []).2=0:=w2f.1;have v3:((d.aA n 0 fD).1.aA n 1 []).1.eh.2=0:=sf.1;have GX:=xh (λ(W:World) (hW:aX W L n d)=>kz hW 0 ⟨fD.toArray⟩ (by omega) (by omega));have KW2:=xh (λ(W:World) (hW:aX W L n (d.aA n 0 fD).1)=>kz hW 1 ⟨#[]⟩ (by omega) (by omega))
 have KS:=xh (λ(W:World) (hW:aX W L n ((d.aA n 0 fD).1.aA n 1 []).1)=>zh hW (by omega) (by omega));rw[e1,v1]at GX;rw[e2,v2]at KW2;rw[v3]at KS;have HFD:NM d n=((d.aA n 0 fD).1.aA n 1 []).1.eh.1:=rfl;have KR:=xh (show ∀w:World,Calls prog 102 #[.agg #[.int .i64 1,.int .i64 0,.slice none 0 0]] w λe w'=>e=.returned (.tuple #[.string ⟨fD.toArray⟩,.int .i64 0])/\Below w.heap.size w w' from KR.o)
 have hfc:eo d n={d:=NM d n,m:=List.replicate (eY n) 0,table:=[],bQ:=[],parts:=[],ep:=1,slot:=0,broken:=false}:=rfl;rw[hfc];clear hfc;generalize NM d n=dz at *;generalize ((d.aA n 0 fD).1.aA n 1 []).1.eh.1=dy at *;subst HFD;generalize ((d.aA n 0 fD).1.aA n 1 []).1=dx at *;generalize (d.aA n 0 fD).1=dw at *;generalize fD=rt at *;clear w1f w2f sf b1 b2 c1 c2 v1 v2 v3 e1 e2;generalize eY n=pn at *;unfold dp Fm.mp Rt.CO at *
 have KP0:=xh KP0;clear h hpz;go_enter func53,ntmps53;go_wp2_with fail;refine KP0.o.mono ?_;rintro e w1 ⟨rfl,rfl⟩;go_wp2_with fail;refine(KP.o _ O1.o).mono ?_;rintro e w1 ⟨rfl,rfl⟩;go_wp2_with fail;refine(KN.o _).mono ?_;rintro e w2 ⟨mb,mg,rfl,mm,dn,h1,h2⟩;have B2:=xh (B1.o.below dn B1.o.lt);have O2:=xh (aC O1.o dn);have O3:=xh (Below.setCell O2.o (p:=⟨w.heap.size,1,none⟩) (Nat.le_refl _) (.pointer (some ⟨mb,0,none⟩)))
 have n1:w.heap.size≠mg:=by have:=h2;simp only[World.size_alloc]at this;omega
 have n2:w.heap.size≠mb:=by have:=h1;simp only[World.size_alloc]at this;omega
 have g1:w.heap.size<=mb:=by have:=h1;simp only[World.size_alloc]at this;omega
 have g2:w.heap.size<=mg:=by have:=h2;simp only[World.size_alloc]at this;omega
 have M3:=xh (mm.only (S:=[w.heap.size]) ((ag.refl _ w2).setCell (p:=⟨w.heap.size,1,none⟩) (by simp) (.pointer (some ⟨mb,0,none⟩))) (by simpa using n2.symm) (by simpa using n1.symm));have B3:=xh (B2.o.bU 1 (.pointer (some ⟨mb,0,none⟩)));have q0:=B2.o.ab (i:=1) rfl;have q1:=B2.o.frozen 1 (by simp);clear dn h1 h2 mm;go_wp2_with fail;generalize w2.setCell ⟨w.heap.size,1,none⟩ (.pointer (some ⟨mb,0,none⟩))=w3 at *;clear q0 q1;refine(KR.o _).mono ?_
 rintro e w4 ⟨rfl,jk⟩;have O4:=xh (aC O3.o jk);have M4:=xh (M3.o.below jk);have B4:=xh (B3.o.below jk B3.o.lt);have U4:=xh (ae (Below.refl w4.heap.size w4) (.cells #[.string ⟨rt.toArray⟩,.string ⟨#[]⟩] 9));have T4:=xh (aF.new w4 9 #[.string ⟨rt.toArray⟩,.string ⟨#[]⟩]);have nT:w4.heap.size∉L.fp:=λhg=>by have:=pQ.o _ hg;have:=O4.o.size;omega
 have nT:=xh nT;have H5:=xh (HD.o.below (aC O4.o U4.o));have t0:=T4.o.ab (i:=0) rfl;clear jk;go_wp2_with fail;refine wp_loop_rounds 3 ?_;rw[rounds_succ];go_wp2_with fail;refine(GX.o _ H5.o).mono ?_;rintro e w6 ⟨rfl,H6,O6⟩;have T6:=xh (T4.o.only O6 nT.o);have t1:=T6.o.ab (i:=1) rfl;have H6:=xh H6;have O6:=xh O6;clear t0;go_wp2_with fail;rw[rounds_succ];go_wp2_with fail;refine(KW2.o _ H6.o).mono ?_;rintro e w7 ⟨rfl,H7,O7⟩
 have H7:=xh H7;have O7:=xh O7;clear t1;go_wp2_with fail;rw[rounds_succ];go_wp2_with fail;refine(KS.o _ H7.o).mono ?_;rintro e w8 ⟨rfl,H8,O8⟩;have H8:=xh H8;have O8:=xh O8;go_wp2_with fail;go_ret2;have nb:∀g,w.heap.size<=g->g∉L.fp:=λg hg hm=>by have:=pQ.o _ hm;omega
 have O5:=aC O4.o U4.o;have A5:ag L.fp w _:=ag.ai O5;have A8:=((A5.trans O6.o).trans O7.o).trans O8.o;have A58:=((O6.o).trans O7.o).trans O8.o;refine⟨⟨w.heap.size,L,mb,mg,.slice none 0 0,.slice none 0 0,.slice none 0 0⟩,rfl,by first|rfl|simp[sp],⟨?_,H8.o,?_,Sl.nil _ _,Sl.nil _ _,.inl (Sl.nil _ _),by simp[cf],by simp[cf],by simp[cf],by simp[cf],by simp[cf],by simp[cf],by simp⟩,A8,?_⟩
 .exact(((B4.o.below U4.o B4.o.lt).only A58 (nb _ (Nat.le_refl _))))
 .exact((M4.o.below U4.o).only A58 (nb _ g1) (nb _ g2))
 .intro g hg;simp only[X.fp,aj,aB]at hg
  rcases hg with rfl|rfl|rfl|((hg|hg)|hg)|hg
  .exact .inr (Nat.le_refl _)
  .exact .inr g1
  .exact .inr g2
  .exact .inl hg
  .simp[cf]at hg
  .simp[cf]at hg
  .simp[cf]at hg
theorem dk{e t:TypeId}{k:Nat}{v:Value}{b:Nat}{l:List Value}{cs:Array Value}(h:aS w e k v n l)(B:aF w b t cs)(fc:t≠e):b∉ah v:=by
 rcases h.2 with⟨rfl,_⟩|⟨g,cap,rest,rfl,BB,_⟩
 .simp[ah]
 .simp only[ah,aI];exact B.kl BB fc
end Sh
end Go.Proofs.YtmonobkginiajaaGreat
