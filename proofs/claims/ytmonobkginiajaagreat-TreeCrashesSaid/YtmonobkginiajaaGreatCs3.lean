/- packed. -/
import Derived.ChangeKeysEq
import Derived.Test.YtmonobkginiajaaGreatCs2
set_option linter.all false
set_option maxRecDepth 100000
set_option maxHeartbeats 8000000
namespace Go.Proofs.YtmonobkginiajaaGreat
open Go.Proofs.Tryz
open Value renaming string→U7,slice→U3,int→U5,bool→WF,tuple→rg
open Ending renaming returned→fd
open IntKind renaming i64→U6
open Obj renaming cells→Pi
open Go renaming World→BY,Value→By,Calls→io,TypeId→us
open List renaming replicate→it
namespace Rt
open Go.RowKit Pk
variable{w:BY}{A:Option Addr}{n:Nat}{l:List Int}
def ag{W w1:BY}(h:i7 W w1)(o:Obj):i7 W (w1.alloc o):=h.alloc h.size o
def bool_of(p:Prop):∃b:Bool,b=true↔p:=by
 by_cases h:p
 .exact⟨true,by simp[h]⟩
 .exact⟨false,by simp[h]⟩
def iw(w:BY)(A:Option Addr)(n:Nat)(l:List Int):Prop:=l.length=n/\∀k x,l[k]?=some x->∃ad,A=some ad/\w.cell? (ad.add k)=some (U5 U6 x)
def iw.below{w':BY}(h:iw w A n l)(hb:i7 w w'):iw w' A n l:=by
 refine⟨h.1,λk x hx=>?_⟩;obtain⟨ad,e1,h1⟩:=h.2 k x hx;exact⟨ad,e1,(hb.cell (by rw[ji];exact wK h1)).trans h1⟩
def iw.at(h:iw w A n l)(k:Nat)(hk:k<n):∃ad x,A=some ad/\l[k]?=some x/\w.cell? (ad.add k)=some (x:li):=by
 have hl:=h.1;obtain⟨ad,e1,h1⟩:=h.2 k l[k] (aQ ls);exact⟨ad,l[k],e1,aQ ls,h1⟩
def iw.take(h:iw w A n l)(k:Nat)(hk:k<=n):iw w A k (l.take k):=by
 refine⟨by rw[bY];have:=h.1;omega,λj x hx=>?_⟩;rw[rP]at hx
 split at hx
 .exact h.2 j x hx
 .cases hx
def oT(n:Int):Int:=(max n 0+115) / 116
def kk(a b:Int)(A:Option Addr)(n c:Nat):By:= .agg #[U5 U6 a,U5 U6 b,U3 A n c]
def gP(ep lg:Int)(l:List Int):Prop:=1<=ep/\ep<=1099511627776/\0<=lg/\lg<=512/\(l.length:Int)=oT lg/\∀i x,l[i]?=some x->0<=x/\x<=1023/\x∉l.take i
def Dj(n:Int)(h:n<=1000000)(w:BY):
  io prog 149 #[n] w λe w'=>e=fd (U5 U6 (oT n))/\i7 w w':=by
 unfold oT;obtain⟨m,hm⟩:=fu (show 0<=max n 0 by omega);rw[hm];have Lk:m<=1000000:=ls
 have e1:U6.wrap ((m:Int)+116)=(m:Int)+116:=d9;have e2:U6.wrap ((m:Int)+116-1)=(m:Int)+115:=by rw[show(m:Int)+116-1=(m:Int)+115 by omega];exact d9
 have e3:U6.wrap (((m:Int)+115).tdiv 116)=((m:Int)+115) / 116:=by rw[OP ls];exact d9
 have e4:U6.wrap ((m:Int)+115)=(m:Int)+115:=d9;go_in;go_wp2_with fail
 all_goals
  go_ret;refine⟨?_,Below.refl _ _⟩
  first|(simp;done)|(simp;omega)
def tY(A:Option Addr)(n c:Nat)(l:List Int)(x:Int)(h:iw w A n l)(hn:n<=1000000):
  io prog 165 #[U3 A n c,x] w λe w'=>(∃k:Int,e=fd k/\(0<=k↔x∈l))/\w'=w:=by
 have H0:=xh h;go_in;go_wp2_with fail
 go_loopw [8] (λiv wr=> ∃i:Nat,i<=n/\iv=U5 U6 i/\Hid (∀j y,j<i->l[j]?=some y->y≠x)/\wr=w) (λiv _=>n-(intOf iv).toNat)
 case atStart=>exact⟨0,bG _,rfl,xh (λj y h=>eq h (lA _)),rfl⟩
 case round=>
  obtain⟨i,hi,rfl,HX,rfl⟩:=hrel
  by_cases h':i<n
  .obtain⟨ad,y,rfl,hy,ck⟩:=H0.o.at i h';have Xc:(i:Int)<(n:Int):=ls
   have HY:=xh hy;clear hy h
   by_cases hxy:x=y
   .subst hxy;go_wp2;go_ret;refine⟨⟨(i:Int),rfl,?_⟩,rfl⟩;exact⟨λ_=>ay HY.o,λ_=>by omega⟩
   .have hxy2:(x==y)=false:=by simpa using hxy
    have HX2:=xh (show ∀j z,j<i+1->l[j]?=some z->z≠x from λj z hj hz=>by
     rcases oL.1 hj with h1|rfl
     .exact HX.o j z h1 hz
     .rw[HY.o]at hz;injection hz with hz;subst hz;exact λe=>hxy e.symm)
    go_wp2;go_roundw
    case rel=>exact⟨i+1,ls,by go_num,HX2,by first|rfl|trivial⟩
    case measure=>simp[intOf];omega
  .obtain rfl:i=n:=ls
   clear h;go_wp2;go_ret;refine⟨⟨-1,rfl,?_⟩,rfl⟩
   constructor
   .intro h1;omega
   .intro hm;exfalso;obtain⟨j,hj,hjx⟩:=qu hm;exact HX.o j _ (by have:=H0.o.1;omega) (aQ hj) hjx
def Jo(A:Option Addr)(n c:Nat)(l:List Int)(x:Int)(h:iw w A n l)(hn:n<=1000000)(b:Bool)(hb:b=true↔x∈l):
  io prog 201 #[U3 A n c,x] w λe w'=>e=fd (WF b)/\w'=w:=by
 have K:=xh<|tY A n c l x h hn;have HB:=xh hb;clear h hb;go_in;go_wp2_with fail;go_call K.o as e w1 ⟨⟨k,rfl,hk⟩,rfl⟩;have HK:=xh hk;clear hk
 by_cases h0:0<=k
 .have h1:¬k<0:=ls
  go_wp2;go_ret;refine⟨?_,rfl⟩;rw[HB.o.2 (HK.o.1 h0)];first|rfl|simp
 .have h1:k<0:=ls
  go_wp2;go_ret;refine⟨?_,rfl⟩
  cases b
  .first|rfl|(simp;omega)
  .exact eq (HK.o.2 (HB.o.1 rfl)) ls
def jU{ep lg:Int}{l:List Int}(h:gP ep lg l):l.length<=5:=by
 have:=h.2.2.2.2.1;unfold oT at this;have:=h.2.2.2.1;omega
def ua{w:BY}(ep lg:Int)(A:Option Addr)(n c:Nat)(l:List Int)(h:iw w A n l)(hn:n<=1000000)(Kx:n<=c)(b:Bool)(hb:b=true↔gP ep lg l):
  io prog 156 #[kk ep lg A n c] w λe w'=>e=fd (WF b)/\i7 w w':=by
 have O0:=i6 w (Pi #[ep,lg,U3 A n c] 155);have B0:=xh<|aM.new w 155 #[ep,lg,U3 A n c];have H0:=xh<|h.below O0;have HB:=xh hb;have HL:=xh h.1;have O0:=xh O0;clear h hb;unfold kk;have KN:=xh (λ(hl:lg<=512) w=>Dj lg ls w);go_in;go_wp2_with fail;generalize hW:(w.alloc (Pi #[ep,lg,U3 A n c] 155))=W at *
 clear hW;have HK:=g9 (∀W',i7 W W'->(W'.cell? (lc w.heap.size)=some (ep:li)/\W'.cell? ⟨w.heap.size,1,none⟩=some (lg:li)/\W'.cell? ⟨w.heap.size,2,none⟩=some (U3 A n c))) (λW' ho=>⟨(B0.o.below ho B0.o.lt).ae (i:=0) rfl,(B0.o.below ho B0.o.lt).ae (i:=1) rfl,(B0.o.below ho B0.o.lt).ae (i:=2) rfl⟩);have OD:=xh<|(i5 W).drew
 refine kw (λW'=>W'.cell? (lc w.heap.size)=some (ep:li)/\W'.cell? ⟨w.heap.size,1,none⟩=some (lg:li)/\W'.cell? ⟨w.heap.size,2,none⟩=some (U3 A n c)) (HK.o _ OD.o) (λaC=>?_);refine dj [(0,5),(1,6)] ?_
 iterate 2 refine bJ ?_
 refine zpe ?_;have GM:(ep<1)\/(¬ep<1/\1099511627776<ep)\/(¬ep<1/\¬1099511627776<ep/\lg<0)\/(¬ep<1/\¬1099511627776<ep/\¬lg<0/\512<lg)\/(¬ep<1/\¬1099511627776<ep/\¬lg<0/\¬512<lg):=ls
 rcases GM with h1|⟨h1,h2⟩|⟨h1,h2,h3⟩|⟨h1,h2,h3,h4⟩|⟨h1,h2,h3,h4⟩
 refine rA 2 7 (WF true) ?_ ?_
 ·(intro w rZ;(try dsimp only at rZ);go_simp;(try omega))
 refine dj [(3,8)] ?_
 iterate 1 refine bJ ?_
 refine bK 4 9 ?_;refine bK 5 10 ?_;refine bK 6 11 ?_;refine dj [(7,12),(8,13)] ?_
 iterate 2 refine bJ ?_
 refine bK 9 14 ?_;refine bK 10 15 ?_;refine bK 11 16 ?_;refine dj [(12,17),(13,18)] ?_
 iterate 2 refine bJ ?_
 refine bK 14 19 ?_;refine bK 15 20 ?_;refine bK 16 21 ?_;refine dj [(17,22),(18,23)] ?_
 iterate 2 refine bJ ?_
 refine bK 19 24 ?_;refine bK 20 25 ?_;refine bK 21 26 ?_;refine bK 22 27 ?_;refine bK 23 28 ?_;refine bK 24 29 ?_;refine bK 25 30 ?_;refine dj [(26,31)] ?_
 iterate 1 refine bJ ?_
 refine jp ?_ _;rotate_left;refine rA 2 7 (WF false) ?_ ?_
 ·(intro w rZ;(try dsimp only at rZ);go_simp;(try omega))
 refine dj [(3,8),(4,9),(5,10)] ?_
 iterate 3 refine bJ ?_
 refine rA 6 11 (WF true) ?_ ?_
 ·(intro w rZ;(try dsimp only at rZ);go_simp;(try omega))
 refine dj [(7,12),(8,13)] ?_
 iterate 2 refine bJ ?_
 refine bK 9 14 ?_;refine bK 10 15 ?_;refine bK 11 16 ?_;refine dj [(12,17),(13,18)] ?_
 iterate 2 refine bJ ?_
 refine bK 14 19 ?_;refine bK 15 20 ?_;refine bK 16 21 ?_;refine dj [(17,22),(18,23)] ?_
 iterate 2 refine bJ ?_
 refine bK 19 24 ?_;refine bK 20 25 ?_;refine bK 21 26 ?_;refine bK 22 27 ?_;refine bK 23 28 ?_;refine bK 24 29 ?_;refine bK 25 30 ?_;refine dj [(26,31)] ?_
 iterate 1 refine bJ ?_
 refine jp ?_ _;rotate_left;refine rA 2 7 (WF false) ?_ ?_
 ·(intro w rZ;(try dsimp only at rZ);go_simp;(try omega))
 refine dj [(3,8),(4,9),(5,10)] ?_
 iterate 3 refine bJ ?_
 refine rA 6 11 (WF false) ?_ ?_
 ·(intro w rZ;(try dsimp only at rZ);go_simp;(try omega))
 refine dj [(7,12),(8,13),(9,14),(10,15)] ?_
 iterate 4 refine bJ ?_
 refine rA 11 16 (WF true) ?_ ?_
 ·(intro w rZ;(try dsimp only at rZ);go_simp;(try omega))
 refine dj [(12,17),(13,18)] ?_
 iterate 2 refine bJ ?_
 refine bK 14 19 ?_;refine bK 15 20 ?_;refine bK 16 21 ?_;refine dj [(17,22),(18,23)] ?_
 iterate 2 refine bJ ?_
 refine bK 19 24 ?_;refine bK 20 25 ?_;refine bK 21 26 ?_;refine bK 22 27 ?_;refine bK 23 28 ?_;refine bK 24 29 ?_;refine bK 25 30 ?_;refine dj [(26,31)] ?_
 iterate 1 refine bJ ?_
 refine jp ?_ _;rotate_left;refine rA 2 7 (WF false) ?_ ?_
 ·(intro w rZ;(try dsimp only at rZ);go_simp;(try omega))
 refine dj [(3,8),(4,9),(5,10)] ?_
 iterate 3 refine bJ ?_
 refine rA 6 11 (WF false) ?_ ?_
 ·(intro w rZ;(try dsimp only at rZ);go_simp;(try omega))
 refine dj [(7,12),(8,13),(9,14),(10,15)] ?_
 iterate 4 refine bJ ?_
 refine rA 11 16 (WF false) ?_ ?_
 ·(intro w rZ;(try dsimp only at rZ);go_simp;(try omega))
 refine dj [(12,17),(13,18),(14,19),(15,20)] ?_
 iterate 4 refine bJ ?_
 refine rA 16 21 (WF true) ?_ ?_
 ·(intro w rZ;(try dsimp only at rZ);go_simp;(try omega))
 refine dj [(17,22),(18,23)] ?_
 iterate 2 refine bJ ?_
 refine bK 19 24 ?_;refine bK 20 25 ?_;refine bK 21 26 ?_;refine bK 22 27 ?_;refine bK 23 28 ?_;refine bK 24 29 ?_;refine bK 25 30 ?_;refine dj [(26,31)] ?_
 iterate 1 refine bJ ?_
 refine jp ?_ _;rotate_left
 .replace KN:=xh<|KN.o ls
  obtain⟨nd,Gx⟩:∃nd,oT lg=nd:=⟨_,rfl⟩;have HND:=xh Gx;rw[Gx]at KN;clear Gx;refine rA 2 7 (WF false) ?_ ?_
  ·(intro w rZ;(try dsimp only at rZ);go_simp;(try omega))
  refine dj [(3,8),(4,9),(5,10)] ?_
  iterate 3 refine bJ ?_
  refine rA 6 11 (WF false) ?_ ?_
  ·(intro w rZ;(try dsimp only at rZ);go_simp;(try omega))
  refine dj [(7,12),(8,13),(9,14),(10,15)] ?_
  iterate 4 refine bJ ?_
  refine rA 11 16 (WF false) ?_ ?_
  ·(intro w rZ;(try dsimp only at rZ);go_simp;(try omega))
  refine dj [(12,17),(13,18),(14,19),(15,20)] ?_
  iterate 4 refine bJ ?_
  refine rA 16 21 (WF false) ?_ ?_
  ·(intro w rZ;(try dsimp only at rZ);go_simp;(try omega))
  refine dj [(17,22),(18,23),(19,24),(20,25),(21,26),(22,27),(23,28)] ?_
  iterate 7 refine bJ ?_
  refine dV 24 29 λK hK=>?_;go_simp
  go_at_call 149
  go_call (KN.o _) as r w2 ⟨rfl,da⟩;have P2:=xh<|aE OD.o da;go_simp;refine cq hK (HK.o _ P2.o) (λaC=>?_)
  by_cases h5:(n:Int)=nd
  rotate_left
  .skip
   refine rA 25 30 (WF true) ?_ ?_
   ·(intro w rZ;(try dsimp only at rZ);go_simp;(try omega))
   refine dj [(26,31)] ?_
   iterate 1 refine bJ ?_
   refine jp ?_ _;have PP:=xh<|aE O0.o P2.o;go_wp2;go_ret;refine⟨?_,PP.o⟩
   cases b
   .first|rfl|simp
   .exfalso;have hr:=HB.o.1 rfl;have hl:=HL.o;unfold gP at hr;rw[HND.o]at hr;omega
  refine rA 25 30 (WF false) ?_ ?_
  ·(intro w rZ;(try dsimp only at rZ);go_simp;(try omega))
  refine dj [(26,31)] ?_
  iterate 1 refine bJ ?_
  refine jp ?_ _;have PP:=xh<|aE O0.o P2.o;have B2:=xh<|B0.o.below P2.o B0.o.lt;have H2:=xh<|H0.o.below P2.o;have y2:w2.cell? ⟨w.heap.size,2,none⟩=some (U3 A n c):=B2.ap 2;go_wp2_with fail
  go_loopw [35] (λiv wr=> ∃i:Nat,i<=n/\iv=U5 U6 i/\Hid (∀j x,j<i->l[j]?=some x->0<=x/\x<=1023/\x∉l.take j)/\wr=w2) (λiv _=>n-(intOf iv).toNat)
  case atStart=>exact⟨0,bG _,rfl,xh (λj x h=>eq h (lA _)),rfl⟩
  case round=>
   obtain⟨i,hi,rfl,HX,rfl⟩:=hrel
   by_cases h':i<n
   .obtain⟨ad,x,rfl,hx,ck⟩:=H2.o.at i h';have Xc:(i:Int)<(n:Int):=ls
    have HXX:=xh hx;have HT:=xh<|H2.o.take i ls;clear hx;have NO:=xh (show ¬(0<=x/\x<=1023/\x∉l.take i)->b=false from λLl=>by
     cases b
     .rfl
     .exact eq ((HB.o.1 rfl).2.2.2.2.2 i x HXX.o) Ll)
    by_cases x0:x<0
    .go_wp2;go_ret;refine⟨?_,PP.o⟩;rw[NO.o ls];first|rfl|simp
    .by_cases x1:1023<x
     .go_wp2;go_ret;refine⟨?_,PP.o⟩;rw[NO.o ls];first|rfl|simp
     .obtain⟨q,hq⟩:=bool_of (x∈l.take i);have KC:=xh<|Jo (w:=wr) (some ad) i c (l.take i) x HT.o ls q hq;have HQ:=xh hq;have hc:(i:Int)<=(c:Int):=ls
      clear hq;go_wp2_with fail;go_call KC.o as e w3 ⟨rfl,rfl⟩
      cases q
      .have HX2:=xh (show ∀j z,j<i+1->l[j]?=some z->0<=z/\z<=1023/\z∉l.take j from λj z hj hz=>by
        rcases oL.1 hj with h1|rfl
        .exact HX.o j z h1 hz
        .rw[HXX.o]at hz;injection hz with hz;subst hz
         exact⟨ls,ls,λhm=>by have:=HQ.o.2 hm;cases this⟩)
       go_wp2;go_roundw
       case rel=>exact⟨i+1,ls,by go_num,HX2,by first|rfl|trivial⟩
       case measure=>simp[intOf];omega
      .go_wp2;go_ret;refine⟨?_,PP.o⟩;rw[NO.o (λhx=>hx.2.2 (HQ.o.1 (by trivial)))];first|rfl|simp
   .obtain rfl:i=n:=ls
    go_wp2;go_ret;refine⟨?_,PP.o⟩;have:gP ep lg l:=⟨ls,ls,ls,ls,by rw[HND.o,HL.o];exact h5,λj x hx=>HX.o j x (by have:=(aW.1 hx).1;rw[HL.o]at this;exact this) hx⟩;rw[HB.o.2 this];first|rfl|simp
 all_goals
  have PP:=xh<|aE O0.o OD.o;go_wp2;go_ret;refine⟨?_,PP.o⟩
  cases b
  .first|rfl|simp
  .exfalso;have hr:=HB.o.1 rfl;have hl:=HL.o;unfold gP at hr;omega
attribute [local go_sem ↓] bP
variable{w:BY}
def jH(n:Nat):UV:=[UInt8.ofNat (n / 256),UInt8.ofNat n]
def Jp{P:Program}{e:us}{v:By}{n:Nat}{l:List By}(S:bm w e 1 v n l)
 (T ty:us)(z:By)(bytes:Nat)(ht:P.underlying T=some (.slice e))(pE:(P.info? e).map (λi=>(i.zero,i.size,i.bytes))=some (some z,1,bytes))(hz:z.cells.size=1)
 (news:List By)(hx:∀u∈news,u.oneCell'=true)(KK:n+news.length<=maxLen)(hb:(n+news.length)*bytes<=140737488355328):
  ∃v' w',eM P T ty (w.alloc (Pi news.toArray e)) v (U3 (lc w.heap.size) news.length news.length)= .ok v' w'/\bm w' e 1 v' (n+news.length) (l++news)/\ah (ak v) w w'/\(∀g∈ak v',g∈ak v\/w.heap.size<=g):=by
 obtain⟨i0,hi,lC,kH,lM⟩:=info_parts pE;obtain⟨v',w',h1,h2,h3,h4⟩:=eu (P:=P) (S.alloc (Pi news.toArray e)) T ty i0 z bytes ht hi lC kH lM hz ls
  ⟨w.heap.size,0,none⟩ news.length news.length news lw (bT (l:=news) (aM.new w e news.toArray) 0 _ (by intro j u hu;rw[bV];exact hu)) hx KK hb
 exact⟨v',w',h1,h2,((ah.refl _ _).alloc _).bj h3 (λx hx _=>hx),λg hg=>(h4 g hg).imp id (λh=>by simp at h;omega)⟩
def iS(v:By)(k:Nat)(l:UV)(S:bm w 5 1 v k (fq l))(n:Nat)(hn:n<=65535)(hk:k<=1000):
  io prog 157 #[v,(n:Nat)] w λe w'=>(∃v',e=fd v'/\bm w' 5 1 v' (k+2) (fq (l++jH n))/\(∀g∈ak v',g∈ak v\/w.heap.size<=g))/\ah (ak v) w w':=by
 obtain⟨A,c,rfl⟩:=aI S;have e0:Value.int .u8 ((n:Int) / 256)=bv (UInt8.ofNat (n / 256)):=by
  unfold bv
  congr 1
  rw[j5];omega
 have e1:Value.int .u8 ((n:Int) % 256)=bv (UInt8.ofNat n):=by
  unfold bv;rfl
 obtain⟨v',w2,ea,S2,ow,fr⟩:=Jp (P:=prog) S 150 150 (U5 .u8 0) 1 underlying150 ky.kI rfl [U5 .u8 ((n:Int) / 256),U5 .u8 ((n:Int) % 256)] (by intro u hu;simp at hu;rcases hu with rfl|rfl<;>rfl) (by simp;unfold maxLen;omega) (by simp;omega);obtain⟨V2,nc,rfl⟩:=aI S2
 have EA:=g9 (eM prog 150 150 (w.alloc (Pi #[U5 .u8 ((n:Int) / 256),U5 .u8 ((n:Int) % 256)] 5)) (U3 A k c) (U3 (lc w.heap.size) 2 2)= .ok (U3 V2 (k+2) nc) w2) ea;have SX:=xh (show bm w2 5 1 (U3 V2 (k+2) nc) (k+2) (fq (l++jH n))from by
  rw[e0,e1]at S2;rw[jT];exact S2)
 have OX:=xh ow;have FX:=xh fr;have m1:IntKind.u8.wrap ((n:Int) / 256)=(n:Int) / 256:=IntWalk.u8_in _ ls;clear ea S2 ow fr S e0 e1;go_in;go_wp2_with fail;rw[EA.o];go_wp2;go_ret;exact⟨⟨_,rfl,SX.o,FX.o⟩,OX.o⟩
def nS(lg:Nat)(l:List Nat):UV:=(jH lg++jH l.length++(l++it (5-l.length) 0).flatMap jH)++it 30 0
def eV(ep:Int)(lg:Nat)(l:List Nat):UV:=fM ep++ky.bM (nS lg l)++fM ep
variable{w:BY}
def rput_no(ep lg:Int)(A:Option Addr)(n c:Nat)(l:List Int)(h:iw w A n l)(hn:n<=1000000)(Kx:n<=c)(hr:¬gP ep lg l):
  io prog 102 #[kk ep lg A n c] w λe w'=>e=fd (rg #[U7 ⟨#[]⟩,U5 U6 2])/\i7 w w':=by
 have O0:=i6 w (Pi #[ep,lg,U3 A n c] 155);have KR:=xh<|ua (w:=w.alloc (Pi #[ep,lg,U3 A n c] 155)) ep lg A n c l (h.below O0) hn Kx false (by simp[hr]);have O0:=xh O0;clear h hr;unfold kk at *;go_in;go_wp2_with fail;go_call KR.o as e w1 ⟨rfl,bu⟩;have O1:=xh<|aE O0.o bu;clear bu;go_wp2;go_ret2;exact⟨rfl,O1.o⟩
def lenV:By->Nat
 |U3 _ n _=>n
 |_=>0
def idx5(a0 a1 a2 a3 a4:Int)(w:BY)(k:Nat)(x:By)(hx: #[Value.int U6 a0,a1,a2,a3,a4][k]?=some x):
  (Instr.index 231 (.agg #[a0,a1,a2,a3,a4]) (k:Int)).run prog w=.ok x w:=by
 have hu:prog.underlying 231=some (.array 5 3):=pm
 have hm:(prog.info? 3).map (·.size)=some 1:=pm
 have hp:prog.plainKey 3=true:=pm
 have hk:k<5:=by
  rcases fo k 5 with h|h
  .exact h
  .rw[Xr (by simpa using h)]at hx;cases hx
 cases hq:prog.info? 3 with
 |none=>simp[hq]at hm
 |some i=>
  simp only[hq,mr,Option.some.injEq]at hm;have:=run_part_plain (P:=prog) w hp hx;simp[Instr.index,asIntOf,run_underlying hu,hk,sizeOf,typeInfo,hq,hm];exact this
def cy(l:List Nat):List Int:=l.map Int.ofNat
def wV(l:List Nat):List By:=l.map λ(x:Nat)=>Value.int U6 (x:Int)
def PO{W:BY}{g:Nat}{A:Option Addr}{n c:Nat}{l:List Nat}(B:aM W g 231 #[U5 U6 0,U5 U6 0,U5 U6 0,U5 U6 0,U5 U6 0])(H:iw W A n (cy l))(hl:l.length=n)(hn:n<=5):
  ∃w',(Builtin.copy_ #[60,60] 3 #[U3 (lc g) 5 5,U3 A n c]).run prog W=.ok (goInt n) w'/\aM w' g 231 (wV (l++it (5-l.length) 0)).toArray/\ah [g] W w':=by
 cases A with
 |none=>
  have h0:n=0:=by
   by_cases h0:n=0
   .exact h0
   .obtain⟨ad,x,h1,_⟩:=H.at 0 ls
    cases h1
  subst h0;have Lm:l=[]:=pf hl;subst Lm;refine⟨W,?_,B,ah.refl _ _⟩;simp[Builtin.copy_,run_underlying underlying60,Builtin.lenOf,Builtin.firstCells,storeCells]
 |some ad=>
  have hlen:(wV l).length=n:=by simp[wV,hl]
  obtain⟨w',e,B',o⟩:=vu (P:=prog) (cur:=[U5 U6 0,U5 U6 0,U5 U6 0,U5 U6 0,U5 U6 0]) B 60 60 3 3 0 5 5 ad n c (wV l) underlying60 pm (by rw[hlen];exact(tJ hn).symm)
   (λj v hv=>by
    have hj:j<l.length:=by have:=(aW.1 hv).1;simpa [wV]using this
    have hx:(cy l)[j]?=some (Int.ofNat l[j]):=by simp[cy,aQ hj]
    obtain⟨ad',e1,h1⟩:=H.2 j _ hx;injection e1 with e1
    subst e1;simp only[wV,iM,aQ hj,mr,Option.some.injEq]at hv;subst hv;exact h1) (by rw[hlen];exact(by omega:0+n<=5)) (by intro v hv;simp only[wV,dq]at hv;obtain⟨x,_,rfl⟩:=hv;rfl)
  rw[hlen]at e;refine⟨w',e,?_,o⟩;have:putAt [U5 U6 0,U5 U6 0,U5 U6 0,U5 U6 0,U5 U6 0] 0 (wV l)=wV (l++it (5-l.length) 0):=by
   unfold putAt;rw[jK,dD,bV,hlen,hl];have hz:([U5 U6 0,U5 U6 0,U5 U6 0,U5 U6 0,U5 U6 0]:List By).drop n=wV (it (5-n) 0):=by
    rcases(show n=0\/n=1\/n=2\/n=3\/n=4\/n=5 by omega)with rfl|rfl|rfl|rfl|rfl|rfl<;>rfl
   rw[hz];simp[wV]
  rw[<-this];exact B'
def Dl(ep:Int)(lg:Nat)(A:Option Addr)(n c:Nat)(l:List Nat)(h:iw w A n (cy l))(Kx:n<=c)(hr:gP ep lg (cy l)):
  io prog 102 #[kk ep lg A n c] w λe w'=>e=fd (rg #[U7 ⟨(eV ep lg l).toArray⟩,U5 U6 0])/\i7 w w':=by
 have hn5:=jU hr;have wM:l.length=n:=by have:=h.1;simpa [cy]using this
 have hn:n<=5:=by rw[<-wM];simpa [cy]using hn5
 have hlg:lg<=512:=by have:=hr.2.2.2.1;omega
 have O0:=i6 w (Pi #[U5 U6 ep,U5 U6 (lg:Int),U3 A n c] 155);have B0:=xh<|aM.new w 155 #[U5 U6 ep,U5 U6 (lg:Int),U3 A n c];have H0:=xh<|h.below O0;have KR:=xh<|ua (w:=w.alloc (Pi #[U5 U6 ep,U5 U6 (lg:Int),U3 A n c] 155)) ep lg A n c (cy l) H0.o (by omega) Kx true (by simp[hr]);have O0:=xh O0;have HR:=xh hr;have pD:=xh wM;clear h hr hn5;unfold kk at *
 go_in;go_wp2_with fail;generalize hW:(w.alloc (Pi #[U5 U6 ep,U5 U6 (lg:Int),U3 A n c] 155))=W at *;clear hW;go_call KR.o as e w1 ⟨rfl,bu⟩;have O1:=xh<|aE O0.o bu;have B1:=xh<|B0.o.below bu B0.o.lt;have H1:=xh<|H0.o.below bu;clear bu KR;go_wp2_with fail
 have HK:=g9 (∀W',i7 w1 W'->(W'.cell? ⟨w.heap.size,0,none⟩=some (U5 U6 ep)/\W'.cell? ⟨w.heap.size,1,none⟩=some (U5 U6 (lg:Int))/\W'.cell? ⟨w.heap.size,2,none⟩=some (U3 A n c))) (λW' ho=>⟨(B1.o.below ho B1.o.lt).ae (i:=0) rfl,(B1.o.below ho B1.o.lt).ae (i:=1) rfl,(B1.o.below ho B1.o.lt).ae (i:=2) rfl⟩);have OD:=xh<|(i5 w1).drew
 refine kw (λW'=>W'.cell? ⟨w.heap.size,0,none⟩=some (U5 U6 ep)/\W'.cell? ⟨w.heap.size,1,none⟩=some (U5 U6 (lg:Int))/\W'.cell? ⟨w.heap.size,2,none⟩=some (U3 A n c)) (HK.o _ OD.o) (λaC=>?_);refine dj [(0,12),(1,13),(3,15),(4,16),(5,17)] ?_
 iterate 5 refine bJ ?_
 refine dV 2 14 λK hK=>?_;go_simp
 go_at_call 157
 go_call (iS _ 0 [] (bm.nil _ _ _) lg (by omega) (by omega)) as r w2 ⟨⟨v2,rfl,S2,F2⟩,o2⟩;have P2:=xh<|OD.o.trans (o2.bI OD.o.size (by simp[ak]));have F2:=g9 (∀g∈ak v2,w1.heap.size<=g) (λg hg=>(F2 g hg).elim (λh=>by simp[ak]at h) (λh=>aD OD.o.size h));go_simp;refine cq hK (HK.o _ P2.o) (λaC=>?_);refine dV 6 18 λK hK=>?_;go_simp
 go_at_call 157
 go_call (iS _ 2 _ S2 n (by omega) (by omega)) as r w3 ⟨⟨v3,rfl,S3,F3⟩,o3⟩;have P3:=xh<|P2.o.trans (o3.bI P2.o.size F2.o);have F3:=g9 (∀g∈ak v3,w1.heap.size<=g) (λg hg=>(F3 g hg).elim (F2.o g) (λh=>aD P2.o.size h));go_simp;refine cq hK (HK.o _ P3.o) (λaC=>?_);refine dj [(7,4)] ?_
 iterate 1 refine bJ ?_
 refine jp ?_ _;have O3:=xh<|aE O1.o P3.o;have B3:=xh<|B1.o.below P3.o B1.o.lt;have H3:=xh<|H1.o.below P3.o;have S3:=xh S3;obtain⟨V3,c3,rfl⟩:=aI S3.o;have F3:=g9 (∀g∈ak (U3 V3 4 c3),w.heap.size+1<=g) (λg hg=>aD (by have:=B1.o.lt;omega) (F3.o g hg));clear aC o2 o3 S2 P2 P3 F2 OD HK;have BA:=xh<|aM.new w3 231 #[U5 U6 0,U5 U6 0,U5 U6 0,U5 U6 0,U5 U6 0]
 have O4:=xh<|ag O3.o (Pi #[U5 U6 0,U5 U6 0,U5 U6 0,U5 U6 0,U5 U6 0] 231);have B4:=xh<|B3.o.alloc (Pi #[U5 U6 0,U5 U6 0,U5 U6 0,U5 U6 0,U5 U6 0] 231);have S4:=xh<|S3.o.alloc (Pi #[U5 U6 0,U5 U6 0,U5 U6 0,U5 U6 0,U5 U6 0] 231);have H4:=xh<|H3.o.below (i6 _ (Pi #[U5 U6 0,U5 U6 0,U5 U6 0,U5 U6 0,U5 U6 0] 231));go_wp2_with fail
 generalize hW:(w3.alloc _)=w4 at *;have W3LT:=B4.o.lt;have HK:=xh (show ∀W',ah [w3.heap.size] w4 W'->(W'.cell? ⟨w.heap.size,0,none⟩=some (U5 U6 ep)/\W'.cell? ⟨w.heap.size,1,none⟩=some (U5 U6 (lg:Int))/\W'.cell? ⟨w.heap.size,2,none⟩=some (U3 A n c))from λW' ho=>by
  have fy:w.heap.size∉[w3.heap.size]:=by have:=B3.o.lt;simp;omega
  have B:=B4.o.only ho fy;exact⟨B.bi 0,B.bi 1,B.bi 2⟩)
 have OD:=xh<|(ah.refl [w3.heap.size] w4).drew;refine kw (λW'=>W'.cell? ⟨w.heap.size,0,none⟩=some (U5 U6 ep)/\W'.cell? ⟨w.heap.size,1,none⟩=some (U5 U6 (lg:Int))/\W'.cell? ⟨w.heap.size,2,none⟩=some (U3 A n c)) (HK.o _ OD.o) (λaC=>?_);refine dj [(0,19),(1,20),(2,21)] ?_
 iterate 3 refine bJ ?_
 refine dV 3 22 λK hK=>?_;obtain⟨w5,ec,BQ,oc⟩:=PO (W:=w4.drew) BA.o (show iw w4.drew A n (cy l)from H4.o.below (Below.refl _ _).drew) pD.o hn;have EC:=xh ec;have OC:=xh<|OD.o.trans oc;have BQ:=xh BQ;clear ec oc;go_simp;rw[EC.o];go_simp;refine cq hK (HK.o _ OC.o) (λaC=>?_);refine jp ?_ _;have hq5:(l++it (5-l.length) 0).length=5:=by rw[bC,eG];have:=pD.o;omega
 have hqs:∀x∈l++it (5-l.length) 0,x<=1023:=by
  intro x hx
  rcases aK.1 hx with hx|hx
  .obtain⟨i,hi,rfl⟩:=qu hx;have h1:=HR.o.2.2.2.2.2 i ((l[i]:Nat):Int) (by simp[cy];exact⟨l[i],aQ hi,rfl⟩);omega
  .have:=jQ hx;omega
 obtain⟨q,hqq⟩:∃q,l++it (5-l.length) 0=q:=⟨_,rfl⟩;have HQQ:=xh hqq;rw[hqq]at BQ hq5 hqs;clear hqq
 match q,hq5 with
 |[q0,q1,q2,q3,q4],_=>
 have p0:q0<=1023:=hqs _ (by simp);have p1:q1<=1023:=hqs _ (by simp);have p2:q2<=1023:=hqs _ (by simp);have p3:q3<=1023:=hqs _ (by simp);have p4:q4<=1023:=hqs _ (by simp);have a0:w5.cell? ⟨w3.heap.size,0,none⟩=some (U5 U6 (q0:Int)):=BQ.ap 0;have a1:w5.cell? ⟨w3.heap.size,1,none⟩=some (U5 U6 (q1:Int)):=BQ.ap 1;have a2:w5.cell? ⟨w3.heap.size,2,none⟩=some (U5 U6 (q2:Int)):=BQ.ap 2
 have a3:w5.cell? ⟨w3.heap.size,3,none⟩=some (U5 U6 (q3:Int)):=BQ.ap 3;have a4:w5.cell? ⟨w3.heap.size,4,none⟩=some (U5 U6 (q4:Int)):=BQ.ap 4;have BU:w.heap.size<w3.heap.size:=B3.o.lt;have O5:=xh<|O4.o.trans (OC.o.bI O4.o.size (λx hx=>by simp at hx;omega));have B5:=xh<|B4.o.only OC.o (by simp;omega);have S5:=xh<|S4.o.only OC.o (λx hx=>by have:=S3.o.lt x hx;simp;omega);clear aC hqs OD HK
 go_wp2_with fail;obtain⟨HD,hHD⟩:∃HD,[]++jH lg++jH n=HD:=⟨_,rfl⟩;have HHD:=xh hHD;rw[hHD]at S5;clear hHD a0 a1 a2 a3 a4 S4 S3
 go_loopw [4,24] (λsv iv wr=> ∃k:Nat,k<=5/\iv=U5 U6 (k:Int)/\bm wr 5 1 sv (4+2*k) (fq (HD++([q0,q1,q2,q3,q4].take k).flatMap jH))/\Hid (aM wr w.heap.size 155 #[U5 U6 ep,U5 U6 (lg:Int),U3 A n c])/\i7 w wr/\Hid (∀x∈ak sv,w.heap.size+1<=x)) (λ_ iv _=>5-(intOf iv).toNat)
 case atStart=>exact⟨0,by omega,rfl,by simpa using S5.o,B5,O5.o,F3⟩
 case round=>
  obtain⟨k,hk,rfl,S,C,O,F⟩:=hrel;obtain⟨VA,vc,rfl⟩:=aI S
  rcases(show k<5\/k=5 by omega)with hk5|rfl
  .obtain⟨x,hx,hx3,hxi⟩:∃x:Nat,[q0,q1,q2,q3,q4][k]?=some x/\x<=1023/\ #[Value.int U6 q0,U5 U6 q1,U5 U6 q2,U5 U6 q3,U5 U6 q4][k]?=some (U5 U6 x):=by
    rcases(show k=0\/k=1\/k=2\/k=3\/k=4 by omega)with rfl|rfl|rfl|rfl|rfl
    .exact⟨q0,rfl,p0,rfl⟩
    .exact⟨q1,rfl,p1,rfl⟩
    .exact⟨q2,rfl,p2,rfl⟩
    .exact⟨q3,rfl,p3,rfl⟩
    .exact⟨q4,rfl,p4,rfl⟩
   have K:=xh<|iS _ (4+2*k) _ S x (by omega) (by omega);have OO:=xh O;have IX:=xh<|idx5 q0 q1 q2 q3 q4 wr k _ hxi;have HX:=xh hx;have Oy:(k:Int)<5:=by omega
   clear S O hx hx3 hxi;go_wp2_with fail;rw[IX.o];go_wp2_with fail;go_call K.o as r w7 ⟨⟨v7,rfl,S7,F7⟩,o7⟩;have O7:=xh<|OO.o.trans (o7.bI OO.o.size (λx hx=>by have:=F.o x hx;omega));have C7:=xh<|C.o.only o7 (λhx=>by have:=F.o _ hx;omega);have F7:=g9 (∀x∈ak v7,w.heap.size+1<=x) (λx hx=>(F7 x hx).elim (F.o x) (λh=>by have:=C.o.lt;omega))
   have S7:=xh (show bm w7 5 1 v7 (4+2*(k+1)) (fq (HD++([q0,q1,q2,q3,q4].take (k+1)).flatMap jH))from by
    rw[List.take_succ,HX.o,rO,<-cV,show 4+2*(k+1)=4+2*k+2 by omega];simpa using S7)
   obtain⟨V7,c7,rfl⟩:=aI S7.o;clear o7;go_wp2;go_roundw
   case rel=>exact⟨k+1,by omega,by first|rfl|go_num,S7.o,C7,O7.o,F7⟩
   case measure=>simp[intOf];omega
  .have OO:=xh O;have SS:=g9 (bm wr 5 1 (U3 VA 14 vc) 14 (fq (HD++[q0,q1,q2,q3,q4].flatMap jH))) S;clear S O;go_wp2_with fail;obtain⟨M,hM⟩:∃M,HD++[q0,q1,q2,q3,q4].flatMap jH=M:=⟨_,rfl⟩;have HM:=xh (show M++it 30 0=nS lg l from by
    unfold nS;rw[<-hM,<-HHD.o,HQQ.o,pD.o,dD])
   rw[hM]at SS;clear hM
   go_loopw [4] (λsv wx=> ∃j:Nat,j<=30/\bm wx 5 1 sv (14+j) (fq (M++it j 0))/\Hid (aM wx w.heap.size 155 #[U5 U6 ep,U5 U6 (lg:Int),U3 A n c])/\i7 w wx/\Hid (∀x∈ak sv,w.heap.size+1<=x)) (λsv _=>44-lenV sv)
   case atStart=>exact⟨0,by omega,by simpa using SS.o,C,OO.o,F⟩
   case round=>
    obtain⟨j,hj,S,C,O,F⟩:=hrel;obtain⟨VB,vb,rfl⟩:=aI S
    by_cases h:j<30
    .have h1:(14:Int)+(j:Int)<44:=by omega
     have h2:14+j<44:=by omega
     have h3:((14+j:Nat):Int)<44:=by omega
     obtain⟨v8,w8,ea,S8,o8,f8⟩:=gw (P:=prog) S 150 150 (U5 .u8 0) 1 underlying150 ky.kI rfl (U5 .u8 0) rfl (by unfold maxLen;omega) (by omega);obtain⟨V8,c8,rfl⟩:=aI S8;have EA:=xh ea;have S9:=xh (show bm w8 5 1 (U3 V8 (14+(j+1)) c8) (14+(j+1)) (fq (M++it (j+1) 0))from by
      rw[Bo,<-cV,jT];exact S8)
     have O8:=xh<|O.trans (o8.bI O.size (λx hx=>by have:=F.o x hx;omega));have C8:=xh<|C.o.only o8 (λhx=>by have:=F.o _ hx;omega);have F8:=g9 (∀x∈ak (U3 V8 (14+(j+1)) c8),w.heap.size+1<=x) (λx hx=>(f8 x hx).elim (F.o x) (λh=>by have:=C.o.lt;omega));clear ea S8 o8 f8 S O;go_wp2_with fail;rw[EA.o];go_wp2;go_roundw
     case rel=>exact⟨_,_,_,_,_,_,_,⟨j+1,by omega,S9.o,C8,O8.o,F8⟩,rfl⟩
     case measure=>simp[lenV];omega
    .obtain rfl:j=30:=by omega
     have h2:¬((14+30:Nat):Int)<44:=by omega
     rw[HM.o]at S;obtain⟨gB,cap,rest,hv,BB,_,_⟩:=S.form (by omega) (by omega);simp only[Value.slice.injEq,true_and]at hv;obtain⟨rfl,rfl⟩:=hv;have ST:=xh<|cQ (P:=prog) wr 150 9 5 underlying150 underlying5 underlying9 ⟨gB,0,none⟩ 44 vb (nS lg l) (by have:=S.1;simpa using this) (bT BB 0 _ (by intro j u hu;rw[bV];exact bX (aW.1 hu).1▸hu))
     have qs:(nS lg l).length=44:=by have:=S.1;simpa using this
     obtain⟨T,hT⟩:∃T:Nm,(⟨(nS lg l).toArray⟩:Nm)=T:=⟨_,rfl⟩;have hTz:T.size=44:=by rw[<-hT];show(nS lg l).toArray.size=44;simpa using qs
     have BH:T.data.toList=nS lg l:=by rw[<-hT]
     rw[hT]at ST;have KY:=xh<|ky.BC T wr (by omega);rw[BH]at KY;have OO9:=xh O;have hlen48:(ky.bM (nS lg l)).length=48:=by unfold ky.bM;simp[ky.iU,qs]
     have tQ:(fM ep).length=8:=by unfold fM yw;rw[qC]
     obtain⟨L,hL⟩:∃L:Nm,(⟨(ky.bM (nS lg l)).toArray⟩:Nm)=L:=⟨_,rfl⟩;obtain⟨PI,hPI⟩:∃L:Nm,(⟨(fM ep).toArray⟩:Nm)=L:=⟨_,rfl⟩;have hLz:L.size=48:=by rw[<-hL];show(ky.bM (nS lg l)).toArray.size=48;simpa using hlen48
     have hPz:PI.size=8:=by rw[<-hPI];show(fM ep).toArray.size=8;simpa using tQ
     have Yh:=xh (show PI++L++PI=(⟨(eV ep lg l).toArray⟩:Nm)from by
      rw[<-hL,<-hPI];apply mP;apply rk.1;unfold eV;simp)
     rw[hL]at KY;have KI:=xh (λw=>I_any ep (by have:=HR.o.1;omega) HR.o.2.1 w);rw[hPI]at KI;clear S O BB hT BH hL hPI qs hTz;go_wp2_with fail;rw[ST.o];go_wp2_with fail;go_call KY.o as e w9 ⟨rfl,hb9⟩;have O9:=xh<|aE OO9.o hb9;have B9:=xh<|C.o.below hb9 C.o.lt;clear hb9;go_wp2_with fail
     have HK:=g9 (∀W',i7 w9 W'->W'.cell? ⟨w.heap.size,0,none⟩=some (U5 U6 ep)) (λW' ho=>(B9.o.below ho B9.o.lt).ae (i:=0) rfl);have OD:=xh<|(i5 w9).drew;have z1:¬9223372036854775807<PI.size+L.size:=by omega
     have z2:¬9223372036854775807<PI.size+L.size+PI.size:=by omega
     clear hLz hPz;refine kw (λW'=>W'.cell? ⟨w.heap.size,0,none⟩=some (U5 U6 ep)) (HK.o _ OD.o) (λaC=>?_);refine dj [(0,40),(1,41),(3,43),(5,45),(6,46)] ?_
     iterate 5 refine bJ ?_
     refine dV 2 42 λK hK=>?_;go_simp
     go_at_call 88
     go_call (KI.o _) as r wa ⟨rfl,hba⟩;have Pa:=xh<|aE OD.o hba;go_simp;refine cq hK (HK.o _ Pa.o) (λaC=>?_);refine dj [(4,44)] ?_
     iterate 1 refine bJ ?_
     refine dV 7 47 λK hK=>?_;go_simp
     go_at_call 88
     go_call (KI.o _) as r wb ⟨rfl,Bd⟩;have Pb:=xh<|aE Pa.o Bd;go_simp;refine cq hK (HK.o _ Pb.o) (λaC=>?_);refine dj [(8,48),(9,2),(10,3)] ?_
     iterate 3 refine bJ ?_
     refine jp ?_ _;have OF:=xh<|aE O9.o Pb.o;go_wp2;go_ret2;exact⟨by rw[<-Yh.o];rfl,OF.o⟩
end Rt
namespace Sh
open Go.RowKit Pk Dk Pg
variable{w:BY}{n:Nat}
structure C where
 d:D
 m:List Int
 table:List Int
 aR:List Int
 parts:List Int
 ep:Int
 slot:Int
 broken:Bool
structure X where
 b:Nat
 L:Dk.Loc
 mb:Nat
 mg:Nat
 tv:By
 ov:By
 pv:By
def X.fp(x:X):List Nat:=x.b::x.mb::x.mg::(x.L.fp++cB x.tv++cB x.ov++cB x.pv)
def di(l:List Int):List By:=l.map (Value.int U6)
@[simp] theorem nvs'_length(l:List Int):(di l).length=l.length:=by simp[di]
def pJ(l:List Int)(k:Nat)(h:k<l.length):(di l)[k]?=some (U5 U6 (l.getD k 0)):=by simp[di,aQ h]
def Ln(l:List Int):∀u∈di l,u.oneCell'=true:=by
 intro u hu;obtain⟨x,_,rfl⟩:=dq.1 hu;rfl
def Yi(l:List Int)(k:Nat)(x:Int):(di l).set k x=di (l.set k x):=by simp[di,Bl]
def gS(l m:List Int):di (l++m)=di l++di m:=by simp[di]
def wW(x:X)(c:C):Array By:= #[dp x.L.b,Fm.mp x.mb,x.tv,x.ov,x.pv,U5 U6 c.ep,U5 U6 c.slot,WF c.broken]
def Pl(w:BY)(v:By)(n:Nat)(l:List By):Prop:=Sl w 3 v n l\/(l.length=n/\∃g cap rest,v=U3 (lc g) n cap/\n<=cap/\0<cap/\aM w g 231 (l++rest).toArray)
section
variable{w w':BY}{v:By}{n:Nat}{l:List By}{S:List Nat}
def Pl.only(h:Pl w v n l)(ho:ah S w w')(hd:∀g∈cB v,g∉S):Pl w' v n l:=by
 rcases h with h|⟨hl,g,cap,rest,rfl,h1,h2,B⟩
 .exact .inl (h.only ho hd)
 .exact .inr ⟨hl,g,cap,rest,rfl,h1,h2,B.only ho (hd g (by simp[cB];omega))⟩
def Pl.below(h:Pl w v n l)(hb:i7 w w'):Pl w' v n l:=h.only (S:=[]) (.aj hb) lw
def Pl.own(h:Pl w v n l):∀g∈cB v,∃t cs,(t=3\/t=231)/\aM w g t cs:=by
 intro g hg
 rcases h with S|⟨hl,g',cap,rest,rfl,h1,h2,B⟩
 .rcases S.2 with⟨A,rfl,_⟩|⟨g',cap,rest,rfl,h0,B,_⟩
  .cases A<;>simp[cB]at hg
  .simp[cB]at hg;rw[hg.2];exact⟨_,_,.inl rfl,B⟩
 .simp[cB]at hg;rw[hg.2];exact⟨_,_,.inr rfl,B⟩
def Pl.lt(h:Pl w v n l):∀g∈cB v,g<w.heap.size:=λg hg=>by
 obtain⟨t,cs,_,B⟩:=h.own g hg;exact B.lt
def Pl.val(h:Pl w v n l):∃A c,v=U3 A n c/\n<=c:=by
 rcases h with h|⟨hl,g,cap,rest,rfl,h1,h2,B⟩
 .exact h.val
 .exact⟨_,cap,rfl,h1⟩
def Pl.form(h:Pl w v n l)(hn:0<n):∃g cap rest,v=U3 (lc g) n cap/\(∃t,aM w g t (l++rest).toArray)/\n<=cap/\l.length=n:=by
 rcases h with h|⟨hl,g,cap,rest,rfl,h1,h2,B⟩
 .obtain⟨g,cap,rest,h1,h2,h3,h4⟩:=h.form hn;exact⟨g,cap,rest,h1,⟨_,h2⟩,h3,h.1⟩
 .exact⟨g,cap,rest,rfl,⟨_,B⟩,h1,hl⟩
def Pl.bh(h:Pl w v n l){b:Nat}{t:us}{cs:Array By}(B:aM w b t cs)(h1:t≠3)(h2:t≠231):b∉cB v:=λhb=>by
 obtain⟨t',cs',ht,B'⟩:=h.own b hb
 rcases ht with rfl|rfl
 .exact B.mx B' h1 rfl
 .exact B.mx B' h2 rfl
end
structure At(w:BY)(x:X)(n:Nat)(c:C):Prop where
 hb:aM w x.b 146 (wW x c)
 hd:aX w x.L n c.d
 hm:Fm.dQ w x.mb x.mg c.m
 ht:Sl w 3 x.tv c.table.length (di c.table)
 ho:Sl w 3 x.ov c.aR.length (di c.aR)
 hp:Pl w x.pv c.parts.length (di c.parts)
 n1:x.mg∉cB x.tv
 n2:x.mg∉cB x.ov
 n3:x.mg∉cB x.pv
 n4:∀g∈cB x.tv,g∉cB x.ov
 n5:∀g∈cB x.tv,g∉cB x.pv
 n6:∀g∈cB x.ov,g∉cB x.pv
 tl:c.table.length<=512
section
variable{w w':BY}{x:X}{n:Nat}{c:C}{S:List Nat}
def At.only(h:At w x n c)(ho:ah S w w')(hd:∀g∈x.fp,g∉S):At w' x n c:=
 ⟨h.hb.only ho (hd _ (by simp[X.fp])),h.hd.only ho (λg hg=>hd g (by simp[X.fp,hg])),h.hm.only ho (hd _ (by simp[X.fp])) (hd _ (by simp[X.fp])),
  h.ht.only ho (λg hg=>hd g (by simp[X.fp,hg])),h.ho.only ho (λg hg=>hd g (by simp[X.fp,hg])),h.hp.only ho (λg hg=>hd g (by simp[X.fp,hg])),h.n1,h.n2,h.n3,h.n4,h.n5,h.n6,h.tl⟩
def At.below(h:At w x n c)(hb:i7 w w'):At w' x n c:=h.only (S:=[]) (.aj hb) lw
def At.drew(h:At w x n c):At w.drew x n c:=h.below ((Below.refl _ _).drew)
def At.drewN(h:At w x n c)(k:Nat):At (w.drewN k) x n c:=h.below (dC (Below.refl _ _) k)
def At.lt(h:At w x n c):∀g∈x.fp,g<w.heap.size:=by
 intro g hg;simp only[X.fp,ax,aK]at hg
 rcases hg with rfl|rfl|rfl|((hg|hg)|hg)|hg
 .exact h.hb.lt
 .exact h.hm.hb.lt
 .exact h.hm.hg.lt
 .exact h.hd.lt g hg
 .exact h.ht.lt g hg
 .exact h.ho.lt g hg
 .exact h.hp.lt g hg
def At.f0(h:At w x n c):w.cell? (lc x.b)=some (dp x.L.b):=h.hb.ae rfl
def At.f1(h:At w x n c):w.cell? ⟨x.b,1,none⟩=some (Fm.mp x.mb):=h.hb.ae rfl
def At.f2(h:At w x n c):w.cell? ⟨x.b,2,none⟩=some x.tv:=h.hb.ae rfl
def At.f3(h:At w x n c):w.cell? ⟨x.b,3,none⟩=some x.ov:=h.hb.ae rfl
def At.f4(h:At w x n c):w.cell? ⟨x.b,4,none⟩=some x.pv:=h.hb.ae rfl
def At.f5(h:At w x n c):w.cell? ⟨x.b,5,none⟩=some (c.ep:li):=h.hb.ae rfl
def At.f6(h:At w x n c):w.cell? ⟨x.b,6,none⟩=some (c.slot:li):=h.hb.ae rfl
def At.f7(h:At w x n c):w.cell? ⟨x.b,7,none⟩=some (WF c.broken):=h.hb.ae rfl
def At.fz(h:At w x n c)(i:Nat)(hi:i<8):w.frozen? ⟨x.b,i,none⟩=false:=h.hb.frozen i (by simpa [wW]using hi)
def At.tk(h:At w x n c)(k:Nat)(hk:k<c.table.length):∃g cp,x.tv=U3 (lc g) c.table.length cp/\w.cell? ⟨g,k,none⟩=some (U5 U6 (c.table.getD k 0)):=by
 obtain⟨g,cp,rest,hv,B,_,_⟩:=h.ht.form ls;refine⟨g,cp,hv,B.ae ?_⟩;rw[dr,bX (by simpa using hk),pJ _ _ hk]
def At.Gj(h:At w x n c){d':D}(hd:aX w' x.L n d')(ho:ah x.L.fp w w'):At w' x n {c with d:=d'}:=by
 have ne:∀g∈x.L.fp,∀{t:us} {cs:Array By} {b:Nat},aM w b t cs->t≠149->t≠152->t≠4->b∉x.L.fp:=by
  intro g hg t cs b B h1 h2 h3 hm;simp only[Loc.fp,ax,iD,or_false]at hm
  rcases hm with rfl|rfl|rfl|rfl
  .exact h1 (B.inj h.hd.hb).1
  .exact h2 (B.inj h.hd.hN).1
  .exact h2 (B.inj h.hd.hO).1
  .exact h3 (B.inj h.hd.hL).1
 have nb:∀{t:us} {cs:Array By} {b:Nat},aM w b t cs->t≠149->t≠152->t≠4->b∉x.L.fp:=λB h1 h2 h3=>ne x.L.b (by simp[Loc.fp]) B h1 h2 h3;have ns:∀{v:By} {k:Nat} {l:List By},Sl w 3 v k l->∀g∈cB v,g∉x.L.fp:=by
  intro v k l S g hg
  rcases S.2 with⟨A,rfl,_⟩|⟨g',cap,rest,rfl,h0,B,_⟩
  .cases A<;>simp[cB]at hg
  .simp[cB]at hg;rw[hg.2];exact nb B ms ms ms
 have np:∀g∈cB x.pv,g∉x.L.fp:=λg hg=>by
  obtain⟨t,cs,ht,B⟩:=h.hp.own g hg
  rcases ht with rfl|rfl
  .exact nb B ms ms ms
  .exact nb B ms ms ms
 exact⟨h.hb.only ho (nb h.hb ms ms ms),hd,h.hm.only ho (nb h.hm.hb ms ms ms) (nb h.hm.hg ms ms ms),h.ht.only ho (ns h.ht),h.ho.only ho (ns h.ho),h.hp.only ho np,h.n1,h.n2,h.n3,h.n4,h.n5,h.n6,h.tl⟩
def At.map(h:At w x n c){m':List Int}(hm:Fm.dQ w' x.mb x.mg m')(ho:ah [x.mg] w w'):At w' x n {c with m:=m'}:=by
 have nb:∀{t:us} {cs:Array By} {b:Nat},aM w b t cs->t≠3->b∉[x.mg]:=by
  intro t cs b B h1 hm;simp at hm;subst hm;exact h1 (B.inj h.hm.hg).1
 refine⟨h.hb.only ho (nb h.hb ms),h.hd.only ho ?_,hm,h.ht.only ho ?_,h.ho.only ho ?_,h.hp.only ho ?_,h.n1,h.n2,h.n3,h.n4,h.n5,h.n6,h.tl⟩
 .intro g hg;simp only[Loc.fp,ax,iD,or_false]at hg
  rcases hg with rfl|rfl|rfl|rfl
  .exact nb h.hd.hb ms
  .exact nb h.hd.hN ms
  .exact nb h.hd.hO ms
  .exact nb h.hd.hL ms
 .intro g hg hm;simp at hm;subst hm;exact h.n1 hg
 .intro g hg hm;simp at hm;subst hm;exact h.n2 hg
 .intro g hg hm;simp at hm;subst hm;exact h.n3 hg
end
def sp(b:Nat):By:= .pointer (some ⟨b,0,none⟩)
def cN(n:Nat):Nat:=min (cJ n) 1024
def C.gM(c:C):Int:=if c.broken then 13 else 0
def C.uP(c:C)(l:Int):Bool:=decide (0<=l) && decide (l<c.table.length) && decide (0<=c.table.getD l.toNat 0)
def C.jb(c:C)(l:Int):Int:=if c.broken then 13 else if c.uP l then 0 else 3
def GV{L:Dk.Loc}{d:D}(h:aX w L n d):
  io prog 82 #[dp L.b] w λe w'=>e=fd (cN n:Nat)/\w=w':=by
 have K:=xh<|pG h;have hm:((cJ n:Nat):Int)<=1024:=by have:=h.ok.small;unfold cJ;omega
 have HP:=xh (show((cN n:Nat):Int)=((cJ n:Nat):Int)from by unfold cN;omega);generalize cJ n=mn at *;unfold dp at *;go_in;go_wp2_with fail;go_call K.o as e w1 ⟨rfl,rfl⟩;go_wp2_with fail
 all_goals
  go_ret;refine⟨?_,rfl⟩;rw[HP.o]
  first|(simp;done)|(simp;omega)
def jC{x:X}{c:C}(h:At w x n c):
  io prog 148 #[sp x.b] w λe w'=>e=fd c.gM/\w=w':=by
 have f7:=h.f7;unfold sp C.gM;clear h
 cases hb:c.broken
 all_goals
  rw[hb]at f7;clear hb;go_in;go_wp2;go_ret;exact bz rfl
variable{w:BY}{x:X}{n:Nat}
def rV{c:C}(h:At w x n c)(l:Int):
  io prog 191 #[sp x.b,l] w λe w'=>e=fd (U5 U6 (c.jb l))/\w=w':=by
 have K:=jC h;have f2:=h.f2;obtain⟨TA,tc,Ae,htc⟩:=h.ht.val;rw[Ae]at f2;have HR:=g9 (∀r,c.jb l=r->c.jb l=r) (λr h=>h);have tl:=h.tl
 by_cases hb:c.broken=true
 .have hw:c.gM=13:=by unfold C.gM;rw[U8 hb]
  have HA:=g9 (c.jb l=13) (by unfold C.jb;rw[U8 hb]);rw[hw]at K;have K:=xh K;clear h hb hw;generalize c.jb l=r at *;unfold sp at *;go_in;go_wp2_with fail;go_call K.o as e w1 ⟨rfl,rfl⟩;go_wp2;go_ret;exact⟨by rw[HA.o];first|rfl|simp,rfl⟩
 .have hw:c.gM=0:=by unfold C.gM;rw[U9 hb]
  rw[hw]at K;have K:=xh K
  by_cases h1:l<0
  .have HA:=g9 (c.jb l=3) (by unfold C.jb C.uP;rw[U9 hb];simp;omega);clear h hb hw;generalize c.jb l=r at *;unfold sp at *;go_in;go_wp2_with fail;go_call K.o as e w1 ⟨rfl,rfl⟩;go_wp2;go_ret;exact⟨by rw[HA.o];first|rfl|simp,rfl⟩
  .obtain⟨k,rfl⟩:=fu (show 0<=l by omega)
   by_cases h2:k<c.table.length
   .obtain⟨g,cp,hv,hk⟩:=h.tk k h2;rw[hv]at Ae;injection Ae with ht1 ht2 ht3
    subst ht1 ht3;obtain⟨v,SW⟩:∃v,c.table.getD k 0=v:=⟨_,rfl⟩;rw[SW]at hk;have h2I:¬(c.table.length:Int)<=(k:Int):=ls
    have h2J:(k:Int)<(c.table.length:Int):=ls
    by_cases h3:v<0
    .have ht:c.table.getD ((k:Nat):Int).toNat 0=v:=by rw[show((k:Nat):Int).toNat=k from by omega];exact SW
     have HA:=g9 (c.jb k=3) (by unfold C.jb C.uP;rw[U9 hb,ht,U9 (by simp only[jI,decide_eq_true_eq];omega)]);clear ht;clear h hb hw hv SW;generalize c.jb k=r at *;generalize c.table.length=tn at *;unfold sp at *;go_in;go_wp2_with fail;go_call K.o as e w1 ⟨rfl,rfl⟩;go_wp2;go_ret;exact⟨by rw[HA.o];first|rfl|simp,rfl⟩
    .have HA:=xh (show c.jb k=0 from by
      have ht:c.table.getD ((k:Nat):Int).toNat 0=v:=by rw[show((k:Nat):Int).toNat=k from by omega];exact SW
      have hh:c.uP k=true:=by unfold C.uP;rw[ht];simp only[jI,decide_eq_true_eq];omega
      unfold C.jb;rw[U9 hb,U8 hh])
     clear h hb hw hv SW;generalize c.jb k=r at *;generalize c.table.length=tn at *;unfold sp at *;go_in;go_wp2_with fail;go_call K.o as e w1 ⟨rfl,rfl⟩;go_wp2;go_ret;exact⟨by rw[HA.o];first|rfl|simp,rfl⟩
   .have HA:=g9 (c.jb k=3) (by unfold C.jb C.uP;rw[U9 hb];simp;omega);have h2I:(c.table.length:Int)<=(k:Int):=ls
    clear h hb hw;generalize c.jb k=r at *;generalize c.table.length=tn at *;unfold sp at *;go_in;go_wp2_with fail;go_call K.o as e w1 ⟨rfl,rfl⟩;go_wp2;go_ret;exact⟨by rw[HA.o];first|rfl|simp,rfl⟩
def j6{c:C}(h:At w x n c)(id kind:Int)(s:Nm)(hid:id<=9223372036854775807)(vz:0<=c.ep/\c.ep<=1099511627776)(hc:c.d.calls<=3999999999999999990)(hr:c.d.aq<=9223372036854775807):
  io prog 193 #[sp x.b,id,kind,U7 s] w λe w'=>e=fd (U5 U6 (bq c.d n id (c.ep+1) kind s.data.toList).2)/\At w' x n {c with d:=(bq c.d n id (c.ep+1) kind s.data.toList).1}/\ah x.L.fp w w':=by
 have KPW:=PE (w:=w.drew) h.hd.drew id (c.ep+1) kind s hid hc hr;have HD:=xh (λ(w':BY) (hd:aX w' x.L n (bq c.d n id (c.ep+1) kind s.pu).1) (ho:ah x.L.fp w.drew w')=>At.Gj h.drew hd ho);have f0:=h.f0;have f5:=h.f5;have q1:U6.wrap (c.ep+1)=c.ep+1:=d9;have HK:=g9 (w.drew.cell? (lc x.b)=some (dp x.L.b)/\w.drew.cell? ⟨x.b,5,none⟩=some (c.ep:li)) ⟨f0,f5⟩
 have HP:=xh (show ∀w',ah x.L.fp w.drew w'->(w'.cell? (lc x.b)=some (dp x.L.b)/\w'.cell? ⟨x.b,5,none⟩=some (c.ep:li))from λw' ho=>by
  have B:=h.hb.drew.only ho (λhm=>by
   simp only[Loc.fp,ax,iD,or_false]at hm
   rcases hm with hm|hm|hm|hm
   .exact h.hb.mx h.hd.hb ms hm
   .exact h.hb.mx h.hd.hN ms hm
   .exact h.hb.mx h.hd.hO ms hm
   .exact h.hb.mx h.hd.hL ms hm)
  exact⟨B.bi 0,B.bi 5⟩)
 clear h;generalize (bq c.d n id (c.ep+1) kind s.pu).2=er at *;generalize (bq c.d n id (c.ep+1) kind s.pu).1=d2 at *;generalize c.ep=ep at *;unfold sp dp jw at *;have KPW:=xh KPW;go_in;go_wp2;refine kw (λW'=>W'.cell? (lc x.b)=some (lc x.L.b:li)/\W'.cell? ⟨x.b,5,none⟩=some (ep:li)) (HK.o) (λaC=>?_)
 refine dj [(0,9),(1,10),(2,11),(3,12),(4,13),(5,14),(6,15),(7,16),(8,17),(9,18),(10,19),(11,20),(12,21)] ?_
 iterate 13 refine bJ ?_
 refine dV 13 22 λK hK=>?_;go_simp
 go_at_call 225
 go_call KPW.o as e w1 ⟨rfl,dd,ow⟩;have DV:=xh dd;have OW:=xh ow;clear dd ow;go_simp;refine cq hK (HP.o _ OW.o) (λaC=>?_);refine dj [(14,8)] ?_
 iterate 1 refine bJ ?_
 refine jp ?_ _;go_wp2;go_ret;exact bz ⟨HD.o _ DV.o OW.o,(ah.refl _ w).drew.trans OW.o⟩
def C.bA(c:C)(n:Nat)(p:UV):C×Int×Int:=
 if(Fm.cP c.m).2.2≠0 then({c with m:=(Fm.cP c.m).1},0,(Fm.cP c.m).2.2)
 else if(bq c.d n (Fm.cP c.m).2.1 (c.ep+1) 2 p).2≠0 then({c with m:=(Fm.du (Fm.cP c.m).1 (Fm.cP c.m).2.1).1,d:=(bq c.d n (Fm.cP c.m).2.1 (c.ep+1) 2 p).1},0,(bq c.d n (Fm.cP c.m).2.1 (c.ep+1) 2 p).2)
 else({c with m:=(Fm.cP c.m).1,d:=(bq c.d n (Fm.cP c.m).2.1 (c.ep+1) 2 p).1},(Fm.cP c.m).2.1,0)
def Dm(m:List Int)(h:m.length<=1024):(Fm.cP m).2.1<=1024/\0<=(Fm.cP m).2.1:=by
 unfold Fm.cP
 split
 .exact⟨by show(Fm.dH m 0:Int)<=_;omega,by show(0:Int)<=(Fm.dH m 0:Int);omega⟩
 .exact⟨by show(0:Int)<=_;omega,by show(0:Int)<=0;omega⟩
def uV(x:X):∀g∈[x.mg],g∈x.fp:=by intro g hg;simp at hg;subst hg;simp[X.fp]
def Lo(x:X):∀g∈x.L.fp,g∈x.fp:=by intro g hg;simp[X.fp,hg]
def tZ{c:C}(h:At w x n c)(s:Nm)(vz:0<=c.ep/\c.ep<=1099511627776)(hc:c.d.calls<=3999999999999999990)(hr:c.d.aq<=9223372036854775807):
  io prog 166 #[sp x.b,U7 s] w λe w'=>e=fd (rg #[U5 U6 (c.bA n s.data.toList).2.1,U5 U6 (c.bA n s.data.toList).2.2])/\At w' x n (c.bA n s.data.toList).1/\ah x.fp w w':=by
 have KT:=Fm.wN h.hm;have HT:=xh (λ(w':BY) (hm:Fm.dQ w' x.mb x.mg (Fm.cP c.m).1) (ho:ah [x.mg] w w')=>At.map h hm ho);have qs:c.m.length<=1024:=h.hm.hl;have hid:=Dm c.m qs;have f1:=h.f1;obtain⟨R,hR⟩:∃R,c.bA n s.pu=R:=⟨_,rfl⟩;rw[hR];unfold C.bA at hR
 by_cases h1:(Fm.cP c.m).2.2=0
 .rw[U9 (by simpa using h1)]at hR;rw[h1]at KT;generalize (Fm.cP c.m).2.1=id at *;generalize (Fm.cP c.m).1=m1 at *;have KP:=xh (λ(w':BY) (hh:At w' x n {c with m:=m1})=>j6 hh id 2 s ls vz hc hr);dsimp only at KP
  by_cases h2:(bq c.d n id (c.ep+1) 2 s.pu).2=0
  .rw[U9 (by simpa using h2)]at hR;rw[h2]at KP;subst hR;generalize (bq c.d n id (c.ep+1) 2 s.pu).1=d1 at *;have KT:=xh KT;clear h h1 h2;unfold sp Fm.mp at *;go_in;go_wp2_with fail;go_call KT.o as e w1 ⟨rfl,mm,ow⟩;have A1:=xh<|HT.o _ mm ow;have O1:=xh ow;clear mm ow;go_wp2_with fail;go_call (KP.o _ A1.o) as e w2 ⟨rfl,aa,ow⟩;have A2:=xh aa
   have O2:=xh<|(O1.o.mono (λg hg _=>uV x g hg)).trans (ow.mono (λg hg _=>Lo x g hg));clear aa ow;go_wp2;go_ret2;exact bz ⟨A2.o,O2.o⟩
  .rw[U8 h2]at hR;subst hR;have hq:((bq c.d n id (c.ep+1) 2 s.pu).2 != 0)=true:=lm h2
   generalize (bq c.d n id (c.ep+1) 2 s.pu).1=d1 at *;generalize (bq c.d n id (c.ep+1) 2 s.pu).2=er at *;have KT:=xh KT;clear h h1 h2;unfold sp Fm.mp at *;go_in;go_wp2_with fail;go_call KT.o as e w1 ⟨rfl,mm,ow⟩;have A1:=xh<|HT.o _ mm ow;have O1:=xh ow;clear mm ow;go_wp2_with fail;go_call (KP.o _ A1.o) as e w2 ⟨rfl,aa,ow⟩;have A2:=xh aa
   have O2:=xh<|(O1.o.mono (λg hg _=>uV x g hg)).trans (ow.mono (λg hg _=>Lo x g hg));have f1':=aa.f1;have KL:=Fm.tX aa.hm id;dsimp only at KL;have KL:=xh KL;unfold Fm.mp at *;clear aa ow;go_wp2_with fail;go_call KL.o as e w3 ⟨rfl,mm,ow⟩;have A3:=xh<|A2.o.map mm ow;have O3:=xh<|O2.o.trans (ow.mono (λg hg _=>uV x g hg));clear mm ow;go_wp2;go_ret2;exact bz ⟨A3.o,O3.o⟩
 .rw[U8 h1]at hR;subst hR;have hq:((Fm.cP c.m).2.2 != 0)=true:=lm h1
  generalize (Fm.cP c.m).2.1=id at *;generalize (Fm.cP c.m).2.2=er at *;generalize (Fm.cP c.m).1=m1 at *;have KT:=xh KT;clear h h1;unfold sp Fm.mp at *;go_in;go_wp2_with fail;go_call KT.o as e w1 ⟨rfl,mm,ow⟩;have A1:=xh<|HT.o _ mm ow;have O1:=xh<|ow.mono (S':=x.fp) (λg hg _=>uV x g hg);clear mm ow;go_wp2;go_ret2;exact bz ⟨A1.o,O1.o⟩
variable{v:By}{k:Nat}{l:List By}
section
variable{w w':BY}{x:X}{n:Nat}{c:C}
def vC(S:Sl w 3 v k l):∀g∈cB v,∃cs,aM w g 3 cs:=by
 intro g hg
 rcases S.2 with⟨A,rfl,_⟩|⟨g',cap,rest,rfl,h0,B,_⟩
 .cases A<;>simp[cB]at hg
 .simp[cB]at hg;rw[hg.2];exact⟨_,B⟩
def At.BV(h:At w x n c)(S:Sl w 3 v k l):x.b∉cB v/\x.mb∉cB v/\∀g∈x.L.fp,g∉cB v:=by
 refine⟨λhg=>?_,λhg=>?_,λg hgL hg=>?_⟩
 .obtain⟨cs,B⟩:=vC S _ hg;exact h.hb.mx B ms rfl
 .obtain⟨cs,B⟩:=vC S _ hg;exact h.hm.hb.mx B ms rfl
 .obtain⟨cs,B⟩:=vC S _ hg;simp only[Loc.fp,ax,iD,or_false]at hgL
  rcases hgL with rfl|rfl|rfl|rfl
  .exact h.hd.hb.mx B ms rfl
  .exact h.hd.hN.mx B ms rfl
  .exact h.hd.hO.mx B ms rfl
  .exact h.hd.hL.mx B ms rfl
def At.fC(h:At w x n c)(k:Nat)(hk:k<c.table.length)(u:Int):∃g cp,x.tv=U3 (lc g) c.table.length cp/\w.cell? ⟨g,k,none⟩=some (U5 U6 (c.table.getD k 0))/\w.frozen? ⟨g,k,none⟩=false/\
  At (w.setCell ⟨g,k,none⟩ u) x n {c with table:=c.table.set k u}/\ah x.fp w (w.setCell ⟨g,k,none⟩ u):=by
 obtain⟨g,cp,hv,S,hg,z,ow⟩:=h.ht.ct k hk u;obtain⟨g',cp',Xf,ck⟩:=h.tk k hk;rw[hv]at Xf;injection Xf with e1 e2 e3
 injection e1 with e1
 injection e1 with e1
 subst e1;have ne:=h.BV h.ht;rw[hg]at ne;refine⟨g,cp,hv,ck,z,⟨h.hb.only ow ne.1,h.hd.only ow ne.2.2,h.hm.only ow ne.2.1 (by rw[<-hg];exact h.n1),?_,h.ho.only ow (λy hy hm=>h.n4 y (by rw[hg];exact hm) hy),h.hp.only ow (λy hy hm=>h.n5 y (by rw[hg];exact hm) hy),h.n1,h.n2,h.n3,h.n4,h.n5,h.n6,by show(c.table.set k u).length<=512;rw[bR];exact h.tl⟩,ow.mono (λy hy _=>by
  have:y∈cB x.tv:=by rw[hg];exact hy
  simp[X.fp,this])⟩
 show Sl _ _ x.tv (c.table.set k u).length (di (c.table.set k u));rw[bR,<-Yi];exact S
def At.addT(h:At w x n c)(u:Int){v':By}(S:Sl w' 3 v' (c.table.length+1) (di (c.table++[u])))(ow:ah (cB x.tv) w w')(fr:∀g∈cB v',g∈cB x.tv\/w.heap.size<=g)(hl:c.table.length+1<=512):
  w'.cell? ⟨x.b,2,none⟩=some x.tv/\w'.frozen? ⟨x.b,2,none⟩=false/\At (w'.setCell ⟨x.b,2,none⟩ v') {x with tv:=v'} n {c with table:=c.table++[u]}/\ah x.fp w (w'.setCell ⟨x.b,2,none⟩ v')/\∀g∈({x with tv:=v'}:X).fp,g∈x.fp\/w.heap.size<=g:=by
 have ne:=h.BV h.ht;have B1:=h.hb.only ow ne.1;have B2:aM (w'.setCell ⟨x.b,2,none⟩ v') x.b 146 #[dp x.L.b,Fm.mp x.mb,v',x.ov,x.pv,c.ep,c.slot,WF c.broken]:=B1.ct 2 v';have o2:=(ah.refl [x.b] w').setCell (p:=⟨x.b,2,none⟩) lw v';have D1:=h.hd.only ow ne.2.2;have M1:=h.hm.only ow ne.2.1 h.n1;have O1:=h.ho.only ow (λy hy hm=>h.n4 y hm hy);have P1:=h.hp.only ow (λy hy hm=>h.n5 y hm hy)
 have Ks:∀{t:us} {cs:Array By} {b:Nat},aM w' b t cs->t≠146->b∉[x.b]:=by
  intro t cs b B fy hm;simp at hm;subst hm;exact fy (B.inj B1).1
 have hs:∀{v:By} {k:Nat} {l:List By},Sl w' 3 v k l->∀g∈cB v,g∉[x.b]:=λS g hg=>by
  obtain⟨cs,B⟩:=vC S g hg;exact Ks B ms
 refine⟨B1.ae rfl,B1.frozen 2 (by simp[wW]),⟨B2,D1.only o2 ?_,M1.only o2 (Ks M1.hb ms) (Ks M1.hg ms),?_,O1.only o2 (hs O1),P1.only o2 (λg hg hm=>P1.bh B1 ms ms (by rw[<-aG.1 hm];exact hg)),?_,h.n2,h.n3,?_,?_,h.n6,by show(c.table++[u]).length<=512;rw[bC];exact hl⟩,?_,?_⟩
 .intro g hg;simp only[Loc.fp,ax,iD,or_false]at hg
  rcases hg with rfl|rfl|rfl|rfl
  .exact Ks D1.hb ms
  .exact Ks D1.hN ms
  .exact Ks D1.hO ms
  .exact Ks D1.hL ms
 .show Sl _ _ v' (c.table++[u]).length _;rw[bC];exact S.only o2 (hs S)
 .exact λhg=>(fr x.mg hg).elim h.n1 (λCH=>by have:=h.hm.hg.lt;omega)
 .exact λg hg ho=>(fr g hg).elim (λh1=>h.n4 g h1 ho) (λCH=>by have:=h.ho.lt g ho;omega)
 .exact λg hg ho=>(fr g hg).elim (λh1=>h.n5 g h1 ho) (λCH=>by have:=h.hp.lt g ho;omega)
 .exact(ow.mono (λg hg _=>by simp[X.fp,hg])).trans (o2.mono (λg hg _=>by simp at hg;subst hg;simp[X.fp]))
 .intro g hg;simp only[X.fp,ax,aK]at hg ⊢
  rcases hg with hg|hg|hg|((hg|hg)|hg)|hg
  .exact .inl (.inl hg)
  .exact .inl (.inr (.inl hg))
  .exact .inl (.inr (.inr (.inl hg)))
  .exact .inl (.inr (.inr (.inr (.inl (.inl (.inl hg))))))
  .exact(fr g hg).imp (λh1=> .inr (.inr (.inr (.inl (.inl (.inr h1)))))) id
  .exact .inl (.inr (.inr (.inr (.inl (.inr hg)))))
  .exact .inl (.inr (.inr (.inr (.inr hg))))
end
def Yj{w:BY}{l:List Int}(S:Sl w 3 v l.length (di l))(hl:l.length<=1000000)(k:Int):
  io prog 165 #[v,k] w λe w'=>e=fd (U5 U6 (Fm.lW l k))/\w=w':=by
 by_cases h0:0<l.length
 .obtain⟨g,cap,rest,rfl,B,hc,_⟩:=S.form h0;exact Fm.tY g l.length cap l rfl hl k w (λj hj=>B.ae (by rw[dr,bX (by simpa using hj),pJ _ _ hj]))
 .have hn:l=[]:=pf ls;subst hn;obtain⟨A,c,rfl,_⟩:=S.val;have e1:Fm.lW [] k= -1:=rfl;rw[e1];clear S;simp only[CG];go_in;go_wp2_with fail
  go_loopw [8] (λiv wr=>iv=U5 U6 0/\wr=w) (λ_ _=>0)
  case atStart=>exact⟨rfl,rfl⟩
  case round=>
   obtain⟨rfl,rfl⟩:=hrel;go_wp2;go_ret;exact bz rfl
def jc(t:List Int):Nat:=Fm.dH t (-1)
def Dp(t:List Int):jc t<=t.length:=by unfold jc Fm.dH;exact qt
def Lq(t:List Int):Fm.lW t (-1)=if jc t<t.length then(jc t:Int)else -1:=rfl
attribute [local go_sem ↓] bP
variable{w:BY}{x:X}{n:Nat}
def kX:(prog.info? 3).map (λi=>(i.zero,i.size,i.bytes))=some (some (U5 U6 0),1,8):=pm
def qJ(t:List Int)(l:Nat)(u:Int):List Int:=if l=t.length then t++[u]else t.set l u
def C.bE(c:C)(n:Nat)(p:UV):C×Int×Int:=
 if c.broken=true then(c,0,13)
 else if 232<p.length then(c,0,4)
 else if 512<=jc c.table then(c,0,11)
 else if(c.bA n p).2.2≠0 then((c.bA n p).1,0,(c.bA n p).2.2)
 else({(c.bA n p).1 with table:=qJ c.table (jc c.table) (c.bA n p).2.1},jc c.table,0)
def gQ(c:C)(n:Nat)(p:UV):(c.bA n p).1.table=c.table/\(c.bA n p).1.aR=c.aR/\(c.bA n p).1.parts=c.parts/\(c.bA n p).1.ep=c.ep/\(c.bA n p).1.slot=c.slot/\(c.bA n p).1.broken=c.broken:=by
 unfold C.bA
 split
 .exact⟨rfl,rfl,rfl,rfl,rfl,rfl⟩
 .split<;>exact⟨rfl,rfl,rfl,rfl,rfl,rfl⟩
def Be(w w':BY)(x:X)(n:Nat)(c':C):Prop:= ∃x',x'.b=x.b/\x'.L=x.L/\At w' x' n c'/\ah x.fp w w'/\∀g∈x'.fp,g∈x.fp\/w.heap.size<=g
def Be.self{w':BY}{c':C}(h:At w' x n c')(ho:ah x.fp w w'):Be w w' x n c':=⟨x,rfl,rfl,h,ho,λ_ hg=> .inl hg⟩
def new_any{c:C}(h:At w x n c)(s:Nm)(hs:s.size<=9223372036854775807)(vz:0<=c.ep/\c.ep<=1099511627776)(hc:c.d.calls<=3999999999999999990)(hr:c.d.aq<=9223372036854775807):
  io prog 120 #[sp x.b,U7 s] w λe w'=>e=fd (rg #[U5 U6 (c.bE n s.data.toList).2.1,U5 U6 (c.bE n s.data.toList).2.2])/\Be w w' x n (c.bE n s.data.toList).1:=by
 have KW:=jC h;have hl:s.pu.length=s.size:=lw
 obtain⟨R,hR⟩:∃R,c.bE n s.pu=R:=⟨_,rfl⟩;rw[hR];unfold C.bE at hR;rw[hl]at hR;have HH:=xh h
 by_cases h1:c.broken=true
 .rw[U8 h1]at hR;subst hR;rw[show c.gM=13 from by unfold C.gM;rw[U8 h1]]at KW;have KW:=xh KW;clear h h1;unfold sp at *;go_in;go_wp2_with fail;go_call KW.o as e w1 ⟨rfl,rfl⟩;go_wp2;go_ret2;exact bz (.self HH.o (ah.refl _ _))
 rw[U9 h1]at hR;rw[show c.gM=0 from by unfold C.gM;rw[U9 h1]]at KW;have KW:=xh KW;have KI:=Yj h.ht (by have:=h.tl;omega) (-1);rw[Lq]at KI;have Ca:=Dp c.table;have f2:=h.f2;have tl:=h.tl;obtain⟨TA,tc,Ae,htc⟩:=h.ht.val;obtain⟨l,PU⟩:∃l,jc c.table=l:=⟨_,rfl⟩;rw[PU]at KI hR Ca
 by_cases h2:232<s.size
 .rw[U8 h2]at hR;subst hR;have h2I:(232:Int)<(s.size:Int):=ls
  by_cases h3:l<c.table.length
  .rw[U8 h3]at KI;have KI:=xh KI;have h3I:¬(l:Int)<0:=ls
   clear h h1 h2 Ae;unfold sp at *;go_in;go_wp2_with fail;go_call KW.o as e w1 ⟨rfl,rfl⟩;go_wp2_with fail;go_call KI.o as e w1 ⟨rfl,rfl⟩;go_wp2;go_ret2;exact bz (.self HH.o (ah.refl _ _))
  .rw[U9 h3]at KI;have KI:=xh KI;clear h h1 h2;rw[Ae]at f2 KI;unfold sp at *;go_in;go_wp2_with fail;go_call KW.o as e w1 ⟨rfl,rfl⟩;go_wp2_with fail;go_call KI.o as e w1 ⟨rfl,rfl⟩;go_wp2;go_ret2;exact bz (.self HH.o (ah.refl _ _))
 rw[U9 h2]at hR;have h2I:¬(232:Int)<(s.size:Int):=ls
 by_cases h4:512<=l
 .rw[U8 h4]at hR;subst hR;have h3:¬l<c.table.length:=ls
  have h4I:(512:Int)<=(c.table.length:Int):=ls
  rw[U9 h3]at KI;have KI:=xh KI;clear h h1 h2;rw[Ae]at f2 KI;unfold sp at *;go_in;go_wp2_with fail;go_call KW.o as e w1 ⟨rfl,rfl⟩;go_wp2_with fail;go_call KI.o as e w1 ⟨rfl,rfl⟩;go_wp2;go_ret2;exact bz (.self HH.o (ah.refl _ _))
 rw[U9 h4]at hR;have KF:=tZ h s vz hc hr;have hft:=gQ c n s.pu;generalize hF:c.bA n s.pu=F at *;obtain⟨c1,id,er⟩:=F;dsimp only at KF hft hR;have KF:=xh KF
 by_cases h5:er=0
 .rw[U9 (by simpa using h5)]at hR;subst h5;have h4I:¬(512:Int)<=(l:Int):=ls
  by_cases h3:l<c.table.length
  .rw[U8 h3]at KI;have KI:=xh KI;have h3I:¬(l:Int)<0:=ls
   have h3J:((l:Int)==(c.table.length:Int))=false:=by rw[beq_eq_false_iff_ne];omega
   have mQ:qJ c.table l id=c.table.set l id:=by unfold qJ;rw[ge]
   rw[mQ]at hR;subst hR;have HFT:=xh hft;clear h h1 h2 hF mQ hft Ae;unfold sp at *;go_in;go_wp2_with fail;go_call KW.o as e w1 ⟨rfl,rfl⟩;go_wp2_with fail;go_call KI.o as e w1 ⟨rfl,rfl⟩;go_wp2_with fail;go_call KF.o as e w1 ⟨rfl,aa,ow⟩;have f2':=aa.f2;obtain⟨g,cp,hv,ck,z,A2,o2⟩:=aa.fC l (by rw[HFT.o.1];exact h3) id;rw[hv,HFT.o.1]at f2'
   have AX:=g9 (At (w1.setCell ⟨g,l,none⟩ id) x n {c1 with table:=c.table.set l id}) (by rw[<-HFT.o.1];exact A2);have OX:=xh<|ow.trans o2;generalize c1.table.getD l 0=ov at ck;clear aa ow A2 o2 hv;clear f2;generalize c.table.length=tn at *;go_wp2;go_ret2;exact bz (.self AX.o OX.o)
  .obtain rfl:l=c.table.length:=ls
   rw[U9 h3]at KI;have mQ:qJ c.table c.table.length id=c.table++[id]:=by unfold qJ;rw[U8 rfl]
   rw[mQ]at hR;subst hR;have HFT:=xh hft;have HTV:=xh Ae;rw[Ae]at f2 KI;have KI:=xh KI;clear h h1 h2 hF mQ hft Ae PU Ca h3 h4;generalize htn:c.table.length=tn at *;have HTN:=xh htn;clear htn;unfold sp at *;go_in;go_wp2_with fail;go_call KW.o as e w1 ⟨rfl,rfl⟩;go_wp2_with fail;go_call KI.o as e w1 ⟨rfl,rfl⟩;go_wp2_with fail;go_call KF.o as e w1 ⟨rfl,aa,ow⟩;have f2':=aa.f2;have St:=aa.ht
   rw[HFT.o.1,HTN.o]at St;obtain⟨v',w2,ea,S2,Xg,GW⟩:=Pr (P:=prog) St 60 60 (U5 U6 0) 8 underlying60 kX rfl id rfl (by unfold maxLen;omega) ls;rw[show di c.table++[Value.int U6 id]=di (c.table++[id])from by rw[gS];rfl]at S2;obtain⟨gg,nc,rr,rfl,BB,_,_⟩:=S2.form ls
   have w2c:w2.cell? ⟨gg,tn,none⟩=some (id:li):=BB.ae (by rw[<-HTN.o,dr,bX lw,gS,eC lw];simp[di]);have w2z:w2.frozen? ⟨gg,tn,none⟩=false:=BB.frozen _ (by have:=HTN.o;simp;omega);have hlt1:((tn:Nat):Int)<((tn+1:Nat):Int):=ls
   have XN:tn<tn+1:=ls
   have hadd:=aa.addT id (by rw[HFT.o.1,HTN.o];exact S2) Xg GW (by rw[HFT.o.1,HTN.o];omega);obtain⟨g2,z2,A3,o3,fr3⟩:=hadd;rw[HFT.o.1]at A3;obtain⟨g,cp,hv,ck,z,A4,o4⟩:=A3.fC tn (by show _<(c.table++[id]).length;have:=HTN.o;simp;omega) id;have Jq:(c.table++[id]).set tn id=c.table++[id]:=by
    rw[<-HTN.o,tG _ _ (ai _),ik];rfl
   have A4:At ((w2.setCell ⟨x.b,2,none⟩ (U3 (lc gg) (tn+1) nc)).setCell ⟨g,tn,none⟩ id) {x with tv:=U3 (lc gg) (tn+1) nc} n {c1 with table:=c.table++[id]}:=by
    have:=A4;dsimp only at this;rw[Jq]at this;exact this
   dsimp only at hv;injection hv with rB rl Kp
   injection rB with rB
   injection rB with rB
   clear rl;subst rB Kp;have fy:x.b≠gg:=BB.mx (aa.hb.only Xg (aa.BV aa.ht).1) ms|>.symm;have hne2:gg≠x.b:=fy.symm;have f2'':(w2.setCell ⟨x.b,2,none⟩ (U3 (lc gg) (tn+1) nc)).cell? ⟨x.b,2,none⟩=some (U3 (lc gg) (tn+1) nc):=A3.f2;rw[HTV.o]at f2' g2 ea;have EA:=xh ea;have AX:=xh A4;have OX:=xh<|(ow.trans o3).bj o4 (λg hg dP=>(fr3 g hg).elim (λh=>h) (λh=>by have:=ow.size;omega))
   have FX:=g9 (∀g'∈({x with tv:=U3 (lc gg) (tn+1) nc}:X).fp,g'∈x.fp\/w.heap.size<=g') (λg' hg=>(fr3 g' hg).imp (λh=>h) (λh=>aD ow.size h));generalize (c.table++[id]).getD tn 0=ov at ck;clear aa ow A3 A4 o3 o4 Xg GW St S2 ea Jq fr3 BB;go_wp2_with fail;rw[EA.o];go_wp2;go_ret2;exact bz ⟨{x with tv:=U3 (lc gg) (tn+1) nc},rfl,rfl,AX.o,OX.o,FX.o⟩
 .rw[U8 h5]at hR;subst hR;have hq:(er != 0)=true:=lm h5
  have h4I:¬(512:Int)<=(l:Int):=ls
  by_cases h3:l<c.table.length
  .rw[U8 h3]at KI;have KI:=xh KI;have h3I:¬(l:Int)<0:=ls
   clear h h1 h2 hF Ae;unfold sp at *;go_in;go_wp2_with fail;go_call KW.o as e w1 ⟨rfl,rfl⟩;go_wp2_with fail;go_call KI.o as e w1 ⟨rfl,rfl⟩;go_wp2_with fail;go_call KF.o as e w1 ⟨rfl,aa,ow⟩;have AX:=xh aa;have OX:=xh ow;clear aa ow;go_wp2;go_ret2;exact bz (.self AX.o OX.o)
  .rw[U9 h3]at KI;have hlI:¬(512:Int)<=(c.table.length:Int):=ls
   have KI:=xh KI;clear h h1 h2 hF;rw[Ae]at f2 KI;unfold sp at *;go_in;go_wp2_with fail;go_call KW.o as e w1 ⟨rfl,rfl⟩;go_wp2_with fail;go_call KI.o as e w1 ⟨rfl,rfl⟩;go_wp2_with fail;go_call KF.o as e w1 ⟨rfl,aa,ow⟩;have AX:=xh aa;have OX:=xh ow;clear aa ow;go_wp2;go_ret2;exact bz (.self AX.o OX.o)
end Sh
namespace Sh
open Go.RowKit Pk Dk Pg
def Gk(e:Int):Int:=if e=13 then 13 else 14
def Ta(e:Int)(w:BY):
  io prog 140 #[e] w λr w'=>r=fd (U5 U6 (Gk e))/\w=w':=by
 have HB:=xh (rfl:Gk e=Gk e);obtain⟨b,hb⟩:∃b,Gk e=b:=⟨_,rfl⟩;rw[hb];unfold Gk at hb
 by_cases h:e=13
 .rw[U8 h]at hb;subst hb h;go_in;go_wp2;go_ret;exact bz rfl
 .rw[U9 h]at hb;subst hb;have hq:(e==13)=false:=i4 h
  go_in;go_wp2;go_ret;exact bz rfl
def C.aF(c:C)(l:Int):C×Int:=
 if c.jb l≠0 then(c,c.jb l)else({c with m:=(Fm.du c.m (c.table.getD l.toNat 0)).1,table:=c.table.set l.toNat (-1)},0)
def C.aO(c:C)(n:Nat)(l:Int):UV×Int:=
 if c.jb l≠0 then([],c.jb l)
 else if(aV c.d n (c.table.getD l.toNat 0)).2≠0 then([],Gk (aV c.d n (c.table.getD l.toNat 0)).2)
 else((aV c.d n (c.table.getD l.toNat 0)).1.s,0)
def yE{c:C}{l:Int}(h:c.jb l=0):c.broken=false/\0<=l/\l<c.table.length/\0<=c.table.getD l.toNat 0:=by
 unfold C.jb at h
 split at h
 .simp at h
 .rename_i hb
  split at h
  .rename_i hh;unfold C.uP at hh;simp only[jI,decide_eq_true_eq]at hh;exact⟨by simpa using hb,hh.1.1,hh.1.2,hh.2⟩
  .simp at h
def Lt{w:BY}{x:X}{n:Nat}{c:C}(h:At w x n c)(l:Int):
  io prog 179 #[sp x.b,l] w λe w'=>e=fd (U5 U6 (c.aF l).2)/\At w' x n (c.aF l).1/\ah x.fp w w':=by
 have KA:=rV h l;have HH:=xh h;obtain⟨R,hR⟩:∃R,c.aF l=R:=⟨_,rfl⟩;rw[hR];unfold C.aF at hR
 by_cases h1:c.jb l=0
 .rw[U9 (by simpa using h1)]at hR;obtain⟨_,h2,h3,h4⟩:=yE h1;rw[h1]at KA;obtain⟨k,rfl⟩:=fu h2;have hk:k<c.table.length:=ls
  rw[show((k:Nat):Int).toNat=k from by omega]at hR h4;obtain⟨g,cp,hv,ck⟩:=h.tk k hk;have f1:=h.f1;have f2:=h.f2;rw[hv]at f2;have KL:=Fm.tX h.hm.drew (c.table.getD k 0);have HM:=xh (λ(w':BY) (m':List Int) (mm:Fm.dQ w' x.mb x.mg m') (ow:ah [x.mg] w.drew w')=>At.map h.drew mm ow);have hg:g∈cB x.tv:=by rw[hv];simp[cB];have:=(h.ht.val);obtain⟨A,cc,e1,e2⟩:=this;rw[hv]at e1;injection e1 with _ _ e3;omega
  have HP:=xh (show ∀w',ah [x.mg] w.drew w'->(w'.cell? ⟨x.b,1,none⟩=some (Fm.mp x.mb)/\w'.cell? ⟨x.b,2,none⟩=some (U3 (lc g) c.table.length cp)/\w'.cell? ⟨g,k,none⟩=some (U5 U6 (c.table.getD k 0)))from λw' ho=>by
   have B:=h.hb.drew.only ho (λhm=>by simp at hm;exact h.hb.mx h.hm.hg ms hm);have T:=h.ht.drew.only ho (λy hy hm=>by simp at hm;subst hm;exact h.n1 hy);obtain⟨g',cp',rest,Xf,BB,_,_⟩:=T.form ls;rw[hv]at Xf;injection Xf with e1 e2 e3
   injection e1 with e1
   injection e1 with e1
   subst e1;refine⟨B.bi 1,?_,BB.ae (by rw[dr,bX (by simpa using hk),pJ _ _ hk])⟩;rw[<-hv];exact B.bi 2)
  have HK:=g9 (w.drew.cell? ⟨x.b,1,none⟩=some (Fm.mp x.mb)/\w.drew.cell? ⟨x.b,2,none⟩=some (U3 (lc g) c.table.length cp)/\w.drew.cell? ⟨g,k,none⟩=some (U5 U6 (c.table.getD k 0))) ⟨f1,f2,ck⟩;have Xh:=xh hk
  have HX:=xh (show ∀w' m',At w' x n {c with m:=m'}->w'.cell? ⟨g,k,none⟩=some (U5 U6 (c.table.getD k 0))/\w'.frozen? ⟨g,k,none⟩=false/\At (w'.setCell ⟨g,k,none⟩ (U5 U6 (-1))) x n {c with m:=m',table:=c.table.set k (-1)}/\ah x.fp w' (w'.setCell ⟨g,k,none⟩ (U5 U6 (-1)))from λw' m' hh=>by
   obtain⟨g',cp',Xf,ck',z',A',o'⟩:=hh.fC k hk (-1);rw[hv]at Xf;injection Xf with e1 e2 e3
   injection e1 with e1
   injection e1 with e1
   subst e1;exact⟨ck',z',A',o'⟩)
  have Oy:(k:Int)<(c.table.length:Int):=ls
  subst hR;generalize c.table.getD k 0=pid at *;generalize (Fm.du c.m pid).2=le at *;generalize (Fm.du c.m pid).1=m2 at *;have HQ:=xh hv;clear h h1 f1 f2 ck hv hg h4;generalize c.table.length=tn at *;have KA:=xh KA;unfold sp Fm.mp at *;have KL:=xh KL;go_in;go_wp2_with fail;go_call KA.o as e w1 ⟨rfl,rfl⟩;go_wp2_with fail
  refine kw (λW'=>W'.cell? ⟨x.b,1,none⟩=some (lc x.mb:li)/\W'.cell? ⟨x.b,2,none⟩=some (U3 (lc g) tn cp)/\W'.cell? ⟨g,k,none⟩=some (pid:li)) (HK.o) (λaC=>?_);refine dj [(0,12),(1,13),(2,14),(3,15),(4,16),(5,17),(6,18),(7,19),(8,20),(9,21),(10,22)] ?_
  iterate 11 refine bJ ?_
  refine dV 11 23 λK hK=>?_;go_simp
  go_at_call 153
  go_call KL.o as e w1 ⟨rfl,mm,ow⟩;have A1:=xh<|HM.o _ _ mm ow;have OW:=xh ow;have HX1:=xh<|HX.o _ _ A1.o;have f2x:=(HP.o _ ow).2.1;have ckx:=HX1.o.1;have zkx:=HX1.o.2.1;have OX:=xh<|((ah.refl _ w).drew.trans (ow.mono (S':=x.fp) (λg hg _=>uV x g hg))).trans HX1.o.2.2.2;clear mm ow;go_simp;refine cq hK (HP.o _ OW.o) (λaC=>?_);refine jp ?_ _;go_wp2;go_ret;exact bz ⟨HX1.o.2.2.1,OX.o⟩
 .rw[U8 h1]at hR;subst hR;have hq:(c.jb l != 0)=true:=lm h1
  have KA:=xh KA;generalize c.jb l=er at *;clear h h1;unfold sp at *;go_in;go_wp2_with fail;go_call KA.o as e w1 ⟨rfl,rfl⟩;go_wp2;go_ret;exact bz ⟨HH.o,ah.refl _ _⟩
def mG{w:BY}{x:X}{n:Nat}{c:C}(h:At w x n c)(l:Int):
  io prog 228 #[sp x.b,l] w λe w'=>e=fd (rg #[U7 ⟨(c.aO n l).1.toArray⟩,U5 U6 (c.aO n l).2])/\i7 w w':=by
 have KA:=rV h l;obtain⟨R,hR⟩:∃R,c.aO n l=R:=⟨_,rfl⟩;rw[hR];unfold C.aO at hR
 by_cases h1:c.jb l=0
 .rw[U9 (by simpa using h1)]at hR;obtain⟨_,h2,h3,h4⟩:=yE h1;rw[h1]at KA;obtain⟨k,rfl⟩:=fu h2;have hk:k<c.table.length:=ls
  rw[show((k:Nat):Int).toNat=k from by omega]at hR h4;obtain⟨g,cp,hv,ck⟩:=h.tk k hk;have Oy:(k:Int)<(c.table.length:Int):=ls
  have HK:=xh (show ∀W',i7 w W'->(W'.cell? (lc x.b)=some (lc x.L.b:li)/\W'.cell? ⟨x.b,2,none⟩=some (U3 (lc g) c.table.length cp)/\W'.cell? ⟨g,k,none⟩=some (U5 U6 (c.table.getD k 0)))from λW' hb=>by
   have h':=h.below hb;obtain⟨g',cp',Xf,ck'⟩:=h'.tk k hk;have e:=hv;rw[Xf]at e;injection e with e1 e2 e3
   injection e1 with e1
   injection e1 with e1
   subst e1;exact⟨h'.f0,by rw[<-hv];exact h'.f2,ck'⟩)
  have OD:=g9 (i7 w w.drew) ((Below.refl _ _).drew);have KR:=λ(W:BY) (hb:i7 w W)=>GN (h.hd.below hb) (c.table.getD k 0);obtain⟨P,hP⟩:∃P,aV c.d n (c.table.getD k 0)=P:=⟨_,rfl⟩;rw[hP]at KR hR;obtain⟨⟨Bf,rep,vD,rs⟩,er⟩:=P;have KB:=xh (λw=>Ta er w);unfold PG.val jw at KR;dsimp only at KR hR;generalize c.table.getD k 0=pid at *;generalize c.table.length=tn at *;unfold dp at KR;have KR:=xh KR;have KA:=xh KA
  clear h h1 hv hP h4 ck;unfold sp at *;have HR:=xh hR;clear hR;go_in;go_wp2_with fail;go_call KA.o as e w1 ⟨rfl,rfl⟩;go_wp2;refine kw (λW'=>W'.cell? (lc x.b)=some (lc x.L.b:li)/\W'.cell? ⟨x.b,2,none⟩=some (U3 (lc g) tn cp)/\W'.cell? ⟨g,k,none⟩=some (pid:li)) (HK.o _ OD.o) (λaC=>?_)
  refine dj [(0,16),(1,17),(2,18),(3,19),(4,20),(5,21),(6,22),(7,23),(8,24),(9,25),(10,26)] ?_
  iterate 11 refine bJ ?_
  refine wpAnyH_ready (rs:=[11,15]) pm lw ?_;refine AllReadyH.cons (o:=⟨some 27,_,_,_,_,_⟩) rfl (λK hK=>?_) (AllReadyH.cons (o:=⟨some 7,_,_,_,_,_⟩) rfl (λK hK=>?_) AllReadyH.nil)
  focus
   go_simp
   go_at_call 139
   go_call (KR.o _ OD.o) as e v1 ⟨rfl,rB⟩;have P1:=xh<|aE OD.o rB;clear rB;go_simp;refine cq hK (HK.o _ P1.o) (λaC=>?_);refine dj [(12,15),(13,28),(14,29)] ?_
   iterate 3 refine bJ ?_
   refine dV 15 7 λK hK=>?_;go_simp;have P2:=xh<|ag P1.o (Pi lE 162);refine cq hK (HK.o _ P2.o) (λaC=>?_);refine pF 16 λK hK=>?_;go_simp;have P3:=xh<|ag P1.o (Pi #[Bf,rep,vD,U7 ⟨rs.toArray⟩] 162);have BX:=xh<|aM.new v1 162 #[Bf,rep,vD,U7 ⟨rs.toArray⟩];refine cq hK (HK.o _ P3.o) (λaC=>?_);refine dj [(17,8)] ?_
   iterate 1 refine bJ ?_
   refine zpe ?_
  rotate_left
  focus
   go_simp;have P1:=xh<|ag OD.o (Pi lE 162);have BX0:=g9 (aM (w.drew.alloc (Pi lE 162)) w.heap.size 162 lE) (aM.new w.drew 162 lE);refine cq hK (HK.o _ P1.o) (λaC=>?_);refine dV 11 27 λK hK=>?_;go_simp
   go_at_call 139
   go_call (KR.o _ P1.o) as e v1 ⟨rfl,rB⟩;have P2:=xh<|aE P1.o rB;have BX1:=xh<|BX0.o.below rB BX0.o.lt;clear rB;have z0:=BX1.o.frozen 0 lw;have z1:=BX1.o.frozen 1 lw;have z2:=BX1.o.frozen 2 lw;have z3:=BX1.o.frozen 3 lw;have c0:=BX1.ap 0;have c1:=BX1.ap 1;have c2:=BX1.ap 2;have c3:=BX1.ap 3;go_simp
   refine cq hK (HK.o _ P2.o) (λaC=>?_);refine dj [(12,15),(13,28),(14,29)] ?_
   iterate 3 refine bJ ?_
   refine pF 16 λK hK=>?_;go_simp;have P3:=xh<|iE P2.o (ai _) Bf rep vD ⟨rs.toArray⟩;have BX:=xh<|lU BX1.o rfl Bf rep vD ⟨rs.toArray⟩;refine cq hK (HK.o _ P3.o) (λaC=>?_);refine dj [(17,8)] ?_
   iterate 1 refine bJ ?_
   refine zpe ?_
  rotate_left
  all_goals
   refine jp ?_ _;have hR:=HR.o
   by_cases h5:er=0
   .rw[U9 (by simpa using h5)]at hR;subst hR h5;have y3:=BX.ap 3;go_wp2;go_ret2;exact bz P3.o
   .rw[U8 h5]at hR;have hq:(er != 0)=true:=lm h5
    subst hR;clear h5;go_wp2_with fail;go_call (KB.o _) as e wz ⟨rfl,rfl⟩;go_wp2;go_ret2;exact bz P3.o
 .rw[U8 h1]at hR;subst hR;have hq:(c.jb l != 0)=true:=lm h1
  have KA:=xh KA;generalize c.jb l=er at *;clear h h1;unfold sp at *;go_in;go_wp2_with fail;go_call KA.o as e w1 ⟨rfl,rfl⟩;go_wp2;go_ret2;exact bz (Below.refl _ _)
attribute [local go_sem ↓] bP
def yF(t:List Int):Nat->List Int
 |0=>[]
 |k+1=>yF t k++if 0<=t.getD k 0 then [(k:Int)]else []
def Yk(t:List Int):∀k,(yF t k).length<=k
 |0=>ai _
 |k+1=>by
  have:=Yk t k;unfold yF;rw[bC]
  split<;>simp<;>omega
def PV{w:BY}{x:X}{n:Nat}{c:C}(h:At w x n c):
  io prog 29 #[sp x.b] w λe w'=> ∃A cc,e=fd (U3 A (yF c.table c.table.length).length cc)/\bm w' 3 1 (U3 A (yF c.table c.table.length).length cc) (yF c.table c.table.length).length (di (yF c.table c.table.length))/\i7 w w':=by
 have f2:=h.f2;have tl:=h.tl;obtain⟨TA,tc,Ae,htc⟩:=h.ht.val;rw[Ae]at f2;have HT:=xh (λ(k:Nat) (hk:k<c.table.length) (W:BY) (hb:i7 w W)=>(h.below hb).tk k hk);have HV:=xh Ae;obtain⟨t,ht⟩:∃t,c.table=t:=⟨_,rfl⟩;rw[ht]at f2 tl htc HT HV ⊢;obtain⟨tn,htn⟩:∃tn,t.length=tn:=⟨_,rfl⟩;rw[htn]at f2 tl htc HT HV ⊢;clear h Ae ht htn;unfold sp at *;go_in;go_wp2_with fail
 go_loopw [3,14] (λbv iv wr=> ∃k:Nat,k<=tn/\iv=U5 U6 k/\bm wr 3 1 bv (yF t k).length (di (yF t k))/\Hid (i7 w wr)/\Hid (∀g∈ak bv,w.heap.size<=g)) (λ_ iv _=>tn-(intOf iv).toNat)
 case atStart=>exact⟨0,bG _,rfl,bm.nil _ _ _,xh (Below.refl _ _),xh (by simp[ak])⟩
 case round=>
  obtain⟨k,hk,rfl,S,O,F⟩:=hrel;have hle:=Yk t k;obtain⟨VA,vc,rfl⟩:=aI S
  by_cases h':k<tn
  .have Oy:(k:Int)<(tn:Int):=ls
   obtain⟨g,cp,hv,ck⟩:=HT.o k h' wr O.o;rw[HV.o]at hv;injection hv with e1 e2 e3
   subst e1 e3;obtain⟨u,hu⟩:∃u,t.getD k 0=u:=⟨_,rfl⟩;rw[hu]at ck
   by_cases hpos:0<=u
   .have GX:yF t (k+1)=yF t k++[(k:Int)]:=by
     show yF t k++_=_;rw[hu,U8 hpos]
    obtain⟨v',w2,ea,S2,ow,fr⟩:=gw (P:=prog) S 60 60 (U5 U6 0) 8 underlying60 kX rfl (k:Int) rfl (by unfold maxLen;omega) ls;obtain⟨V2,nc,rfl⟩:=aI S2;have hlen:(yF t (k+1)).length=(yF t k).length+1:=by rw[GX];simp
    have EA:=xh ea;have SX:=xh (show bm w2 3 1 (U3 V2 ((yF t k).length+1) nc) (yF t (k+1)).length (di (yF t (k+1)))from by
     rw[hlen,GX,gS];exact S2)
    have OX:=xh<|O.o.trans (ow.bI O.o.size F.o);have FX:=g9 (∀g'∈ak (U3 V2 ((yF t k).length+1) nc),w.heap.size<=g') (λg' hg=>(fr g' hg).elim (F.o g') (λh=>aD O.o.size h));clear ea S2 ow fr S GX hlen hu;generalize (yF t k).length=pl at *;go_wp2_with fail;rw[EA.o];go_wp2;go_roundw
    case rel=>exact⟨k+1,ls,by go_num,SX.o,OX,FX⟩
    case measure=>simp[intOf];omega
   .have GX:yF t (k+1)=yF t k:=by
     show yF t k++_=_;rw[hu,U9 hpos,kM]
    have SX:=xh S;have HN:=xh GX;clear S GX hu;go_wp2;go_roundw
    case rel=>exact⟨k+1,ls,by go_num,by rw[HN.o];exact SX.o,O,F⟩
    case measure=>simp[intOf];omega
  .obtain rfl:k=tn:=ls
   have SX:=xh S;clear S;go_wp2;go_ret;exact⟨_,_,by first|rfl|simp,SX.o,O.o⟩
end Sh
namespace Sh
open Go.RowKit Pk Dk Pg
variable{d:D}{w:BY}{n:Nat}
def gU:UV:=Rt.eV 1 0 []
def Tb(d:D)(n:Nat):D:=(((d.ao n 0 gU).1.ao n 1 []).1.cX).1
def eI(d:D)(n:Nat):C:={d:=Tb d n,m:=it (cN n) 0,table:=[],aR:=[],parts:=[],ep:=1,slot:=0,broken:=false}
def lX(hd:d.down=false)(ha:d.aq=0):d.cX.2=0/\d.cX.1.down=false/\d.cX.1.aq=0/\d.cX.1.now=d.now:=by
 obtain⟨c1,c2,c3⟩:=oR d ha;unfold D.cX;rw[U9 (by simp[hd]),U8 c1];exact⟨rfl,c3.trans hd,c2,GR d⟩
def Yl:Rt.gP 1 ((0:Nat):Int) (Rt.cy []):=by
 refine⟨ls,ls,ls,ls,ms,?_⟩;intro i x hx;simp[Rt.cy]at hx
def PW{L:Dk.Loc}(h:aX w L n d)(hp:1<=cN n)(hd:d.down=false)(ha:d.aq=0)(hc:d.calls<=1000):
  io prog 53 #[dp L.b] w λe w'=> ∃x,x.L=L/\e=fd (rg #[sp x.b,U5 U6 0])/\At w' x n (eI d n)/\ah L.fp w w'/\∀g∈x.fp,g∈L.fp\/w.heap.size<=g:=by
 have hn:=h.ok.small;have XB:6<=n:=by unfold cN cJ at hp;omega
 have Oz:=h.ok.calls;have Kt:cN n<=1024:=by unfold cN;omega
 have w1f:=jk (n:=n) (k:=0) hd ha ls gU;have w2f:=jk (n:=n) (k:=1) w1f.2.1 w1f.2.2 ls [];have sf:=lX w2f.2.1 w2f.2.2;have b1:=jD d n ((0:Nat):Int) gU ls;have b2:=jD (d.ao n ((0:Nat):Int) gU).1 n ((1:Nat):Int) [] b1.2;have KP:=xh (λw' (hb:i7 w w')=>GV (h.below hb));have KN:=xh (λw=>Fm.BO (cN n) w Kt)
 have KR:=xh (λw=>Rt.Dl (w:=w) 1 0 none 0 0 [] ⟨rfl,λk x hx=>by simp[Rt.cy]at hx⟩ (ai _) Yl);have HD:=xh h;have rD:=xh (λg hg=>h.lt g hg);have O1:=xh<|i6 w (Pi #[dp L.b,.pointer none,U3 none 0 0,U3 none 0 0,U3 none 0 0,U5 U6 1,U5 U6 0,WF false] 146)
 have B1:=xh<|aM.new w 146 #[dp L.b,.pointer none,U3 none 0 0,U3 none 0 0,U3 none 0 0,U5 U6 1,U5 U6 0,WF false];have hpz:((cN n:Nat):Int)≠0:=ls
 have hpq:(((cN n:Nat):Int)==0)=false:=i4 hpz
 have KP0:=KP.o w (Below.refl _ _);have e1:(⟨gU.toArray⟩:Nm).data.toList=gU:=lw
 have e2:(⟨#[]⟩:Nm).data.toList=([]:UV):=lw
 have c1:=jD d n 0 gU ls;have c2:=jD (d.ao n 0 gU).1 n 1 [] c1.2;have v1:(d.ao n 0 gU).2=0:=w1f.1;have v2:((d.ao n 0 gU).1.ao n 1 []).2=0:=w2f.1;have v3:((d.ao n 0 gU).1.ao n 1 []).1.cX.2=0:=sf.1;have Lu:=xh (λ(W:BY) (hW:aX W L n d)=>tV hW 0 ⟨gU.toArray⟩ ls ls);have KW2:=xh (λ(W:BY) (hW:aX W L n (d.ao n 0 gU).1)=>tV hW 1 ⟨#[]⟩ ls ls)
 have KS:=xh (λ(W:BY) (hW:aX W L n ((d.ao n 0 gU).1.ao n 1 []).1)=>Db hW ls ls);rw[e1,v1]at Lu;rw[e2,v2]at KW2;rw[v3]at KS;have HFD:Tb d n=((d.ao n 0 gU).1.ao n 1 []).1.cX.1:=rfl;have KR:=g9 (∀w:BY,io prog 102 #[.agg #[U5 U6 1,U5 U6 0,U3 none 0 0]] w λe w'=>e=fd (rg #[U7 ⟨gU.toArray⟩,U5 U6 0])/\i7 w w') KR.o
 have hfc:eI d n={d:=Tb d n,m:=it (cN n) 0,table:=[],aR:=[],parts:=[],ep:=1,slot:=0,broken:=false}:=rfl;rw[hfc];clear hfc;generalize Tb d n=dz at *;generalize ((d.ao n 0 gU).1.ao n 1 []).1.cX.1=dy at *;subst HFD;generalize ((d.ao n 0 gU).1.ao n 1 []).1=dx at *;generalize (d.ao n 0 gU).1=dw at *;generalize gU=rt at *;clear w1f w2f sf b1 b2 c1 c2 v1 v2 v3 e1 e2;generalize cN n=pn at *;unfold dp Fm.mp Rt.kk at *
 have KP0:=xh KP0;clear h hpz;go_in;go_wp2_with fail;go_call KP0.o as e w1 ⟨rfl,rfl⟩;go_wp2_with fail;go_call (KP.o _ O1.o) as e w1 ⟨rfl,rfl⟩;go_wp2_with fail;go_call (KN.o _) as e w2 ⟨mb,mg,rfl,mm,da,h1,h2⟩;have B2:=xh<|B1.o.below da B1.o.lt;have O2:=xh<|aE O1.o da;have O3:=xh<|Below.setCell O2.o (p:=⟨w.heap.size,1,none⟩) (ai _) (lc mb)
 have n1:w.heap.size≠mg:=by have:=h2;simp only[World.size_alloc]at this;omega
 have n2:w.heap.size≠mb:=by have:=h1;simp only[World.size_alloc]at this;omega
 have g1:w.heap.size<=mb:=by have:=h1;simp only[World.size_alloc]at this;omega
 have g2:w.heap.size<=mg:=by have:=h2;simp only[World.size_alloc]at this;omega
 have M3:=xh<|mm.only (S:=[w.heap.size]) ((ah.refl _ w2).setCell (p:=⟨w.heap.size,1,none⟩) lw (lc mb)) (by simpa using n2.symm) (by simpa using n1.symm);have B3:=xh<|B2.o.ct 1 (lc mb);have q0:=B2.ap 1;have q1:=B2.o.frozen 1 lw;clear da h1 h2 mm;go_wp2_with fail;generalize w2.setCell ⟨w.heap.size,1,none⟩ (lc mb)=w3 at *;clear q0 q1;refine(KR.o _).mono ?_
 rintro e w4 ⟨rfl,iZ⟩;have O4:=xh<|aE O3.o iZ;have M4:=xh<|M3.o.below iZ;have B4:=xh<|B3.o.below iZ B3.o.lt;have U4:=xh<|i6 w4 (Pi #[U7 ⟨rt.toArray⟩,U7 ⟨#[]⟩] 9);have T4:=xh<|aM.new w4 9 #[U7 ⟨rt.toArray⟩,U7 ⟨#[]⟩];have nT:w4.heap.size∉L.fp:=λhg=>by have:=rD.o _ hg;have:=O4.o.size;omega
 have nT:=xh nT;have H5:=xh<|HD.o.below (aE O4.o U4.o);have t0:=T4.ap 0;clear iZ;go_wp2_with fail;refine wp_loop_rounds 3 ?_;rw[rounds_succ];go_wp2_with fail;go_call (Lu.o _ H5.o) as e w6 ⟨rfl,H6,O6⟩;have T6:=xh<|T4.o.only O6 nT.o;have t1:=T6.ap 1;have H6:=xh H6;have O6:=xh O6;clear t0;go_wp2_with fail;rw[rounds_succ];go_wp2_with fail;go_call (KW2.o _ H6.o) as e w7 ⟨rfl,H7,O7⟩
 have H7:=xh H7;have O7:=xh O7;clear t1;go_wp2_with fail;rw[rounds_succ];go_wp2_with fail;go_call (KS.o _ H7.o) as e w8 ⟨rfl,H8,O8⟩;have H8:=xh H8;have O8:=xh O8;go_wp2;go_ret2;have nb:∀g,w.heap.size<=g->g∉L.fp:=λg hg hm=>by have:=rD.o _ hm;omega
 have O5:=aE O4.o U4.o;have A5:ah L.fp w _:=ah.aj O5;have A8:=((A5.trans O6.o).trans O7.o).trans O8.o;have A58:=((O6.o).trans O7.o).trans O8.o;refine⟨⟨w.heap.size,L,mb,mg,U3 none 0 0,U3 none 0 0,U3 none 0 0⟩,rfl,by first|rfl|simp[sp],⟨?_,H8.o,?_,Sl.nil _ _,Sl.nil _ _,.inl (Sl.nil _ _),by simp[cB],by simp[cB],by simp[cB],by simp[cB],by simp[cB],by simp[cB],lw⟩,A8,?_⟩
 .exact(((B4.o.below U4.o B4.o.lt).only A58 (nb _ (ai _))))
 .exact((M4.o.below U4.o).only A58 (nb _ g1) (nb _ g2))
 .intro g hg;simp only[X.fp,ax,aK]at hg
  rcases hg with rfl|rfl|rfl|((hg|hg)|hg)|hg
  .exact .inr (ai _)
  .exact .inr g1
  .exact .inr g2
  .exact .inl hg
  .simp[cB]at hg
  .simp[cB]at hg
  .simp[cB]at hg
def eg{e t:us}{k:Nat}{v:By}{b:Nat}{l:List By}{cs:Array By}(h:bm w e k v n l)(B:aM w b t cs)(fy:t≠e):b∉ak v:=by
 rcases h.2 with⟨rfl,_⟩|⟨g,cap,rest,rfl,BB,_⟩
 .simp[ak]
 .simp only[ak,aG];exact B.mx BB fy
end Sh
end Go.Proofs.YtmonobkginiajaaGreat
