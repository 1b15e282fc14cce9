/- packed. -/
import Derived.Deep.CutRange
import Derived.Lib.Bytealg
import Derived.Laws.StructEq
import Derived.Test.YtmonobkginiajaaGreatB7
set_option linter.all false
set_option maxRecDepth 100000
set_option maxHeartbeats 8000000
namespace Go.Proofs.YtmonobkginiajaaGreat
open Go.Proofs.Tryz
namespace Sl
open Go.RowKit
attribute [local go_sem ↓] bz
theorem zY(l:List (List UInt8))(k:Nat)(h:k<l.length):jC (l.take (k+1))=jC (l.take k)-4-(l[k].length:Int):=by
 unfold jC;rw[gC h,dA,yl];simp;omega
theorem zZ(l:List (List UInt8))(k:Nat):jC l<=jC (l.take k):=by
 unfold jC;have:((l.take k).map λr=>4+r.length).sum<=(l.map λr=>4+r.length).sum:=by
  rw[lR];exact xB _ k
 omega
def Ih(l:List (List UInt8)):Nat->List UInt8
 |0=>lO
 |k+1=>sN (Ih l k) k (l.getD k [])
def ofL(l:List (List UInt8)):List UInt8:=Ih l l.length
def UP(l:List (List UInt8))(w:World)(e:Ending)(w':World):Prop:=
 ((0<=jC l/\∃b:ByteArray,e=.returned (.tuple #[.string b,.int .i64 0])/\Sound b.data.toList/\cZ b.data.toList=l/\b.data.toList=ofL l)\/(jC l<0/\e=.returned (.tuple #[.string ⟨#[]⟩,.int .i64 11])))/\Below w.heap.size w w'
theorem UQ{w:World}{v:Value}{l:List (List UInt8)}(S:aT w 9 1 v l.length (strs l))(hl:l.length<=1000000)(hm:∀r∈l,r.length<=1000000):
  Calls prog 119 #[v] w (UP l w):=by
 obtain⟨A,c,rfl⟩:=au S;have SS:=xh S;obtain⟨s0,r0,-,-⟩:=qg;obtain⟨T0,h0⟩:=UO lO;have KE:=xh (l7 w);rw[<-h0,NV]at KE;rw[<-h0]at s0 r0;have HS:=xh (show Sound T0.data.toList/\cZ T0.data.toList=l.take 0/\T0.data.toList=Ih l 0 from⟨s0,r0,h0⟩);have HM:=xh (show ∀k (h:k<l.length),l[k].length<=1000000 from λk h=>hm _ (jJ h));have HR:=xh (λk h=>zY l k h);have HMO:=xh (λk=>zZ l k)
 have HAL:=xh (show l.take l.length=l from fw);have HZ:=xh (show 0<=jC (l.take 0)from by rw[jb];decide);clear S s0 r0 h0 hm;go_enter func119,ntmps119;go_wp2_with fail;refine KE.o.mono ?_;rintro e w1 ⟨rfl,bf⟩;have S1:=xh (SS.o.below bf);have O1:=xh bf;clear bf SS;go_wp2_with fail
 go_loopw [4,12] (λbv iv wr=> ∃(k:Nat) (b:ByteArray),k<=l.length/\bv=.string b/\iv=.int .i64 k/\Hid (Sound b.data.toList/\cZ b.data.toList=l.take k/\b.data.toList=Ih l k)/\Hid (0<=jC (l.take k))/\aT wr 9 1 (.slice A l.length c) l.length (strs l)/\Below w.heap.size w wr) (λ_ iv _=>l.length-(intOf iv).toNat)
 case atStart=>exact⟨0,T0,aY _,rfl,rfl,HS,HZ,S1.o,O1.o⟩
 case round=>
  obtain⟨k,b,hk,rfl,rfl,HB,HP,S,O⟩:=hrel;have OO:=xh O;have SS:=xh S;clear S O
  by_cases h:k<l.length
  .obtain⟨g,rfl,ck⟩:=lz SS.o k h;have hrk:=HM.o k h;have HRk:=xh (HR.o k h);have HMk:=xh (HMO.o (k+1));obtain⟨R,hR⟩:=UO l[k];have HST:=xh (show l.take (k+1)=l.take k++[R.data.toList]from by rw[gC h,hR]);rw[<-hR]at ck hrk HRk;rw[NV]at ck;have hRl:R.data.toList.length=R.size:=by simp
   rw[hRl]at hrk HRk;have hs:=HB.o.1;have pF:b.size=232:=by have:=hs.len;simpa using this
   have KI:=xh (λw'=>Me b R k w' (by omega) (by omega));have hlen:(cZ b.data.toList).length=k:=by rw[HB.o.2.1,bm];omega
   have hki:(k:Int)<(l.length:Int):=by omega
   by_cases hf:0<=jC (l.take (k+1))
   .obtain⟨i1,s1,r1⟩:=NW hs k R.data.toList (by rw[HB.o.2.1,hRl];have:=HRk.o;omega) (by omega);obtain⟨T,hT⟩:=UO (sN b.data.toList k R.data.toList);rw[<-hT]at i1 s1 r1;rw[i1,NV]at KI;have Fu:=xh (show Sound T.data.toList/\cZ T.data.toList=l.take (k+1)/\T.data.toList=Ih l (k+1)from⟨s1,by
     rw[r1,HST.o,HB.o.2.1];rw[cy (by rw[bm];omega),lJ (by rw[bm];omega)],by
     rw[hT,hR,HB.o.2.2];show sN _ k l[k]=sN _ k (l.getD k []);rw[gH,aL h];rfl⟩)
    have HF:=xh hf;clear i1 s1 r1 hT hs pF hlen hf hR hRl;go_wp2_with fail;refine(KI.o _).mono ?_;rintro e w2 ⟨rfl,cA⟩;have S2:=xh (SS.o.below cA);have O2:=xh (aB OO.o cA);clear cA;go_wp2_with fail;go_roundw
    case rel=>exact⟨k+1,T,by omega,rfl,by go_num,Fu,HF,S2.o,O2.o⟩
    case measure=>simp[intOf];omega
   .have i1:=Mf hs k R.data.toList (by rw[HB.o.2.1,hRl];have:=HRk.o;omega) (by omega);rw[i1]at KI;have HF:=xh (show jC l<0 from by have:=HMk.o;omega);clear i1 hs pF hlen hf hR hRl;go_wp2_with fail;refine(KI.o _).mono ?_;rintro e w2 ⟨rfl,cA⟩;have O2:=xh (aB OO.o cA);clear cA;go_wp2_with fail;go_ret2;exact⟨.inr ⟨HF.o,rfl⟩,O2.o⟩
  .have BC:=xh (show k=l.length by omega);go_wp2_with fail;go_ret2;refine⟨.inl ⟨?_,b,rfl,HB.o.1,?_,by rw[HB.o.2.2,BC.o];rfl⟩,OO.o⟩
   .have:=HP.o;rw[BC.o,HAL.o]at this;exact this
   .rw[HB.o.2.1,BC.o,HAL.o]
end Sl
namespace Nd
open Go.RowKit Sl
variable{s:ByteArray}
structure E where
 key:ByteArray
 val:ByteArray
 aW:Int
def E.agg(e:E):Value:= .agg #[.string e.key,.string e.val,.int .i64 e.aW]
def E.cells(e:E):List Value:=[.string e.key,.string e.val,.int .i64 e.aW]
def du(e:E)(leaf:Bool):Prop:=e.key.size<=32/\e.val.size<=40/\(if leaf=true then -1 else 0)<=e.aW/\e.aW<512/\(e.aW<0\/e.val.size=0)
instance(e:E)(leaf:Bool):Decidable (du e leaf):=by unfold du;exact inferInstance
theorem Db(h:s.size=0):s= .empty:=by
 apply mr;exact zal0q h
theorem vX(h:s.size≠0):s.toList.isEmpty=false:=by
 cases e:s.toList with
 |nil=>
  refine absurd ?_ h;rw[cf]at e;show s.data.size=0;rw[<-RK,e];rfl
 |cons a l=>rfl
theorem vB(w:World)(e:E)(leaf:Bool):
  Calls prog 162 #[e.agg,.bool leaf] w λr w'=>r=.returned (.bool (decide (du e leaf)))/\Below w.heap.size w w':=by
 have O0:=xh ((Below.refl w.heap.size w).alloc (ak _) (.cells #[.string e.key,.string e.val,.int .i64 e.aW] 111));have B0:=aJ.new w 111 #[.string e.key,.string e.val,.int .i64 e.aW];have c0:=B0.ab (i:=0) rfl;have c1:=B0.ab (i:=1) rfl;have c2:=B0.ab (i:=2) rfl;clear B0;obtain⟨b,hb⟩:∃b,b=decide (du e leaf):=⟨_,rfl⟩;rw[<-hb]
 replace hb:=xh hb
 unfold E.agg;obtain⟨key,val,aW⟩:=e;dsimp only at *
 by_cases hv:val.size=0
 .have oe:=xh hv;obtain rfl:=Db hv
  cases leaf
  all_goals
   go_enter func162,ntmps162;go_wp2_with fail
  all_goals
   go_ret;refine⟨?_,O0.o⟩;have h:=hb.o;have Gg:=oe.o
   first
    |(rw[decide_eq_true (by unfold du;dsimp only;simp only[pw,if_false,if_true];omega)]at h;subst h;rfl)
    |(rw[decide_eq_false (by unfold du;dsimp only;simp only[pw,if_false,if_true];omega)]at h;subst h;rfl)
 .have oe:=vX hv;have Gg:=xh hv;clear hv
  by_cases hf:aW<0
  all_goals
   cases leaf
  all_goals
   go_enter func162,ntmps162;go_wp2_with fail
  all_goals
   go_ret;refine⟨?_,O0.o⟩;have h:=hb.o;have hv4:=Gg.o
   first
    |(rw[decide_eq_true (by unfold du;dsimp only;simp only[pw,if_false,if_true];omega)]at h;subst h;rfl)
    |(rw[decide_eq_false (by unfold du;dsimp only;simp only[pw,if_false,if_true];omega)]at h;subst h;rfl)
attribute [local go_sem ↓] Go.wp_at_zero Go.wp_at_succ
variable{w w':World}{A:Option Addr}{n:Nat}{l:List E}
theorem ae{W w1:World}(h:Below W.heap.size W w1)(o:Obj):Below W.heap.size W (w1.alloc o):=h.alloc h.size o
structure Dc(w:World)(ad:Addr)(e:E):Prop where
 c0:w.cell? ad=some (.string e.key)
 c1:w.cell? ⟨ad.block,ad.off+1,none⟩=some (.string e.val)
 c2:w.cell? ⟨ad.block,ad.off+2,none⟩=some (.int .i64 e.aW)
def oW(w:World)(A:Option Addr)(n:Nat)(l:List E):Prop:=l.length=n/\∀k e,l[k]?=some e->∃ad,A=some ad/\Dc w (ad.add (k*3)) e
theorem Dc.below{ad:Addr}{e:E}(h:Dc w ad e)(hb:Below w.heap.size w w'):Dc w' ad e:=by
 have dH:=dX h.c0;exact⟨(hb.cell dH).trans h.c0,(hb.cell (p:=⟨ad.block,ad.off+1,none⟩) dH).trans h.c1,(hb.cell (p:=⟨ad.block,ad.off+2,none⟩) dH).trans h.c2⟩
theorem oW.below(h:oW w A n l)(hb:Below w.heap.size w w'):oW w' A n l:=by
 refine⟨h.1,λk e he=>?_⟩;obtain⟨ad,e1,h1⟩:=h.2 k e he;exact⟨ad,e1,h1.below hb⟩
theorem oW.at(h:oW w A n l)(k:Nat)(hk:k<n):∃ad e,A=some ad/\l[k]?=some e/\Dc w (ad.add (k*3)) e:=by
 have hl:=h.1;obtain⟨ad,e1,h1⟩:=h.2 k l[k] (aL (by omega));exact⟨ad,l[k],e1,aL (by omega),h1⟩
def leB(a b:ByteArray):Bool:=Op.bytesLess a.toList b.toList || a.toList==b.toList
def okAt(l:List E)(leaf:Bool)(i:Nat):Prop:= ∀e,l[i]?=some e->du e leaf/\(0<i->∀p,l[i-1]?=some p->leB e.key p.key=false)
def dN(l:List E)(leaf:Bool):Prop:= ∀i,i<l.length->okAt l leaf i
def bA(leaf:Bool)(A:Option Addr)(n c:Nat):Value:= .agg #[.bool leaf,.slice A n c]
theorem ri(leaf:Bool)(A:Option Addr)(n c:Nat)(l:List E)(h:oW w A n l)(hn:n<=9223372036854775807):
  Calls prog 117 #[bA leaf A n c] w λr w'=>(∃b,r=.returned (.bool b)/\(b=true↔dN l leaf))/\Below w.heap.size w w':=by
 have O0:=(Below.refl w.heap.size w).alloc (ak _) (.cells #[.bool leaf,.slice A n c] 118);have B0:=xh (aJ.new w 118 #[.bool leaf,.slice A n c]);have hl:=xh h.1;have H0:=xh (h.below O0);have O0:=xh O0;clear h;have c1:=B0.o.ab (i:=1) rfl;unfold bA;go_enter func117,ntmps117;go_wp2_with fail;generalize (w.alloc (.cells #[.bool leaf,.slice A n c] 118))=W at *;clear c1
 go_loopw [8] (λiv wr=> ∃i:Nat,i<=n/\iv=.int .i64 i/\(∀j,j<i->okAt l leaf j)/\Below W.heap.size W wr) (λiv _=>n-(intOf iv).toNat)
 case atStart=>exact⟨0,by omega,rfl,λj hj=>absurd hj (j9 j),Below.refl _ _⟩
 case round=>
  obtain⟨i,hi,rfl,fu,hb⟩:=hrel
  by_cases h:i<n
  .obtain⟨ad,e,rfl,he,AT⟩:=(H0.o.below hb).at i h;have HB:=xh hb;have Jr:=xh fu;have b0:=(B0.o.below hb B0.o.lt).ab (i:=0) rfl;have b1:=(B0.o.below hb B0.o.lt).ab (i:=1) rfl;have a0:=AT.c0;have a1:=AT.c1;have a2:=AT.c2;clear hb fu;have gV:=ae (Below.refl wr.heap.size wr) (.cells #[.string e.key,.string e.val,.int .i64 e.aW] 111);have BE:=xh (aJ.new wr 111 #[.string e.key,.string e.val,.int .i64 e.aW]);have Fu:=xh (aB HB.o gV)
   have HE:=xh ((H0.o.below HB.o).below gV);have HN:=xh ((B0.o.below HB.o B0.o.lt).below gV (B0.o.below HB.o B0.o.lt).lt);clear gV AT;have hnn:(i:Int)<(n:Int):=by omega
   go_wp2_with fail;generalize hwA:(wr.alloc (.cells #[.string e.key,.string e.val,.int .i64 e.aW] 111))=wA at *;clear hwA a0 a1 a2 b0 b1;have x0:=BE.o.ab (i:=0) rfl;have x1:=BE.o.ab (i:=1) rfl;have x2:=BE.o.ab (i:=2) rfl;have y0:=HN.o.ab (i:=0) rfl;have y1:=HN.o.ab (i:=1) rfl;have hyx:wr.heap.size<wA.heap.size:=BE.o.lt
   have HK:=xh (show ∀W',Below wA.heap.size wA W'->(Below wA.heap.size wA W'/\W'.cell? ⟨wr.heap.size,0,none⟩=some (.string e.key)/\W'.cell? ⟨wr.heap.size,1,none⟩=some (.string e.val)/\W'.cell? ⟨wr.heap.size,2,none⟩=some (.int .i64 e.aW)/\W'.cell? ⟨w.heap.size,0,none⟩=some (.bool leaf)/\W'.cell? ⟨w.heap.size,1,none⟩=some (.slice (some ad) n c))from λW' hb=>⟨hb,(Below.cell hb BE.o.lt).trans x0,(Below.cell hb BE.o.lt).trans x1,(Below.cell hb BE.o.lt).trans x2,(Below.cell hb HN.o.lt).trans y0,(Below.cell hb HN.o.lt).trans y1⟩)
   have d0:Below wA.heap.size wA wA.drew:=(Below.refl _ _).drew;have HF:=xh (And.intro Jr.o (And.intro he (And.intro hl.o O0.o)));have KR:=xh (λw'=>vB w' e leaf)
   rcases Bool.eq_false_or_eq_true (decide (du e leaf))with hr|hr
   .rw[hr]at KR
    by_cases Ge:i=0
    .subst Ge;refine wp_region_held_drew (S:=(λw'=>Below wA.heap.size wA w'/\w'.cell? ⟨wr.heap.size,0,none⟩=some (.string e.key)/\w'.cell? ⟨wr.heap.size,1,none⟩=some (.string e.val)/\w'.cell? ⟨wr.heap.size,2,none⟩=some (.int .i64 e.aW)/\w'.cell? ⟨w.heap.size,0,none⟩=some (.bool leaf)/\w'.cell? ⟨w.heap.size,1,none⟩=some (.slice (some ad) n c))) (by kernel_rfl) (HK.o _ d0) (λah=>?_);refine bM [(0,13),(1,14),(2,15)] ?_
     iterate 3 refine aG ?_
     refine bY 3 16 λK hK=>?_;go_simp
     go_at_call 162
     refine(KR.o _).mono ?_;rintro r w1 ⟨rfl,bf⟩;have cA:=aB (show Below wA.heap.size wA _ from ah.1) bf;go_simp;refine aA hK (HK.o _ cA) (λah=>?_);refine bM [(4,17),(5,18),(6,19),(7,20),(8,21)] ?_
     iterate 5 refine aG ?_
     refine cG 9 22 ?_;refine cG 10 23 ?_;refine cG 11 24 ?_;refine cG 12 25 ?_;refine cG 13 26 ?_;refine cG 14 27 ?_;refine cG 15 28 ?_;refine cG 16 29 ?_;refine cG 17 30 ?_;refine cG 18 31 ?_;refine bM [(19,32),(20,33)] ?_
     iterate 2 refine aG ?_
     refine wpAnyH_done (by kernel_rfl) ?_ _;go_wp2_with fail;obtain⟨f1,f2,f3,f4⟩:=HF.o;refine⟨⟨0+1,by omega,rfl,?_,aB Fu.o ah.1⟩,by simp[intOf];omega⟩;intro j hj e' ye;obtain rfl:j=0:=by omega
     rw[f2]at ye;injection ye with ye
     subst ye;exact⟨of_decide_eq_true hr,λh0=>absurd h0 (yo _)⟩
    .obtain⟨ad',p,e',hp,AP⟩:=HE.o.at (i-1) (by omega);injection e' with e'
     subst e';have q0:=AP.c0;have HK:=xh (show ∀W',Below wA.heap.size wA W'->(Below wA.heap.size wA W'/\W'.cell? ⟨wr.heap.size,0,none⟩=some (.string e.key)/\W'.cell? ⟨wr.heap.size,1,none⟩=some (.string e.val)/\W'.cell? ⟨wr.heap.size,2,none⟩=some (.int .i64 e.aW)/\W'.cell? ⟨w.heap.size,0,none⟩=some (.bool leaf)/\W'.cell? ⟨w.heap.size,1,none⟩=some (.slice (some ad) n c)/\W'.cell? (ad.add ((i-1)*3))=some (.string p.key))from λW' hb=>by
      obtain⟨h1,h2,h3,h4,h5,h6⟩:=HK.o W' hb;exact⟨h1,h2,h3,h4,h5,h6,(hb.cell (dX q0)).trans q0⟩)
     have e1:IntKind.i64.wrap ((i:Int)-1)=(i:Int)-1:=IntWalk.i64_in _ (by omega);have e2:(0:Int)<=(i:Int)-1:=by omega
     have e3:(i:Int)-1<(n:Int):=by omega
     have e4:((i:Int)-1).toNat=i-1:=by omega
     have e5:(0:Int)<(i:Int):=by omega
     have e6:(1:Int)<=(i:Int):=by omega
     refine wp_region_held_drew (S:=(λw'=>Below wA.heap.size wA w'/\w'.cell? ⟨wr.heap.size,0,none⟩=some (.string e.key)/\w'.cell? ⟨wr.heap.size,1,none⟩=some (.string e.val)/\w'.cell? ⟨wr.heap.size,2,none⟩=some (.int .i64 e.aW)/\w'.cell? ⟨w.heap.size,0,none⟩=some (.bool leaf)/\w'.cell? ⟨w.heap.size,1,none⟩=some (.slice (some ad) n c)/\w'.cell? (ad.add ((i-1)*3))=some (.string p.key))) (by kernel_rfl) (HK.o _ d0) (λah=>?_);refine bM [(0,13),(1,14),(2,15)] ?_
     iterate 3 refine aG ?_
     refine bY 3 16 λK hK=>?_;go_simp
     go_at_call 162
     refine(KR.o _).mono ?_;rintro r w1 ⟨rfl,bf⟩;have cA:=aB (show Below wA.heap.size wA _ from ah.1) bf;go_simp;refine aA hK (HK.o _ cA) (λah=>?_);refine bM [(4,17),(5,18),(6,19)] ?_
     iterate 3 refine aG ?_
     refine ni 7 20 (.bool true) ?_ ?_
     ·(intro w nJ;(try dsimp only at nJ);go_simp;(try omega))
     refine bM [(8,21),(9,22),(10,23),(11,24),(12,25),(13,26),(14,27),(15,28),(16,29),(17,30),(18,31),(19,32),(20,33)] ?_
     iterate 13 refine aG ?_
     refine wpAnyH_done (by kernel_rfl) ?_ _;go_wp2_with fail
     .rename_i hx;obtain⟨f1,f2,f3,f4⟩:=HF.o;go_ret;refine⟨⟨false,rfl,?_⟩,aB (aB f4 Fu.o) ah.1⟩;simp only[pw,false_iff];intro hm;have h1:=(hm i (by omega) e f2).2 (by omega) p hp;unfold leB at h1
      rcases hx with hx|hx
      .rw[hx]at h1;simp at h1
      .rw[hx]at h1;simp at h1
     .rename_i hx;obtain⟨f1,f2,f3,f4⟩:=HF.o;refine⟨⟨i+1,by omega,rfl,?_,aB Fu.o ah.1⟩,by simp[intOf];omega⟩;intro j hj
      rcases oA.1 hj with h1|rfl
      .exact f1 j h1
      .intro e' ye;rw[f2]at ye;injection ye with ye
       subst ye;refine⟨of_decide_eq_true hr,λ_ p' hp'=>?_⟩;rw[hp]at hp';injection hp' with hp'
       subst hp';unfold leB;rw[hx.1,hx.2];rfl
   .rw[hr]at KR;refine wp_region_held_drew (S:=(λw'=>Below wA.heap.size wA w'/\w'.cell? ⟨wr.heap.size,0,none⟩=some (.string e.key)/\w'.cell? ⟨wr.heap.size,1,none⟩=some (.string e.val)/\w'.cell? ⟨wr.heap.size,2,none⟩=some (.int .i64 e.aW)/\w'.cell? ⟨w.heap.size,0,none⟩=some (.bool leaf)/\w'.cell? ⟨w.heap.size,1,none⟩=some (.slice (some ad) n c))) (by kernel_rfl) (HK.o _ d0) (λah=>?_);refine bM [(0,13),(1,14),(2,15)] ?_
    iterate 3 refine aG ?_
    refine bY 3 16 λK hK=>?_;go_simp
    go_at_call 162
    refine(KR.o _).mono ?_;rintro r w1 ⟨rfl,bf⟩;have cA:=aB (show Below wA.heap.size wA _ from ah.1) bf;go_simp;refine aA hK (HK.o _ cA) (λah=>?_);refine bM [(4,17),(5,18)] ?_
    iterate 2 refine aG ?_
    refine cG 6 19 ?_;refine cG 7 20 ?_;refine cG 8 21 ?_;refine cG 9 22 ?_;refine cG 10 23 ?_;refine cG 11 24 ?_;refine cG 12 25 ?_;refine cG 13 26 ?_;refine cG 14 27 ?_;refine cG 15 28 ?_;refine cG 16 29 ?_;refine cG 17 30 ?_;refine cG 18 31 ?_;refine cG 19 32 ?_;refine bM [(20,33)] ?_
    iterate 1 refine aG ?_
    refine wpAnyH_done (by kernel_rfl) ?_ _;go_wp2_with fail;obtain⟨f1,f2,f3,f4⟩:=HF.o;go_ret;refine⟨⟨false,rfl,?_⟩,aB (aB f4 Fu.o) ah.1⟩;simp only[pw,false_iff];intro hm;exact of_decide_eq_false hr (hm i (by omega) e f2).1
  .go_wp2_with fail;go_ret;refine⟨⟨true,rfl,?_⟩,aB O0.o hb⟩;simp only[true_iff];intro k hk;have:=hl.o;exact fu k (by omega)
def mG(s:ByteArray):Nat:=(s.data.toList.getD 0 0).toNat
def iD(s:ByteArray):Prop:=3+mG s<=s.size
def il(s:ByteArray):E:=⟨s.extract 1 (1+mG s),s.extract (3+mG s) s.size,(bS s.data.toList (1+mG s):Int)-1⟩
def E.zero:E:=⟨.empty,.empty,0⟩
theorem nQ{fn:Func}{p u:Tmp}{w:World}{g:Nat}{a b:ByteArray}{c:Int}{tmps:Array Value}(h:fn.results= #[.cell p 111,.tmp u])(hp:tmps.getD p undef=.pointer (some ⟨g,0,none⟩))(B:aJ w g 111 #[.string a,.string b,.int .i64 c]):
  (results fn tmps).run prog w=.ok (.tuple #[.agg #[.string a,.string b,.int .i64 c],tmps.getD u undef]) w:=by
 have c0:=B.ab (i:=0) rfl;have c1:=B.ab (i:=1) rfl;have c2:=B.ab (i:=2) rfl;rw[results_cell_tmp h,hp];clear h hp B;go_simp
theorem Ii(w:World)(s:ByteArray)(h:¬iD s):
  Calls prog 170 #[.string s] w λr w'=>r=.returned (.tuple #[E.zero.agg,.bool false])/\Below w.heap.size w w':=by
 have O0:=xh ((Below.refl w.heap.size w).alloc (ak _) (.cells #[.string .empty,.string .empty,.int .i64 0] 111));have B0:=xh (aJ.new w 111 #[.string .empty,.string .empty,.int .i64 0]);unfold E.agg E.zero
 by_cases hs:s.size=0
 .obtain rfl:=Db hs;go_enter func170,ntmps170;go_wp2_with fail;exact bodyPost_ret (nQ rfl rfl B0.o) rfl ⟨rfl,O0.o⟩
 .have hs2:=vX hs;have h0:0<s.size:=by omega
  have h1:(0:Int)<(s.size:Int):=by omega
  have hk:mG s=s[0].toNat:=by unfold mG;rw[dL _ _ h0]
  unfold iD at h;rw[hk]at h;have b0:=s[0].toNat_lt;have h2:(s.size:Int)<3+(s[0].toNat:Int):=by omega
  have e4:IntKind.i64.wrap (s[0].toNat:Int)=(s[0].toNat:Int):=IntWalk.i64_in _ (by omega);have e5:IntKind.i64.wrap (3+(s[0].toNat:Int))=3+(s[0].toNat:Int):=IntWalk.i64_in _ (by omega);go_enter func170,ntmps170;go_wp2_with fail;exact bodyPost_ret (nQ rfl rfl B0.o) rfl ⟨rfl,O0.o⟩
theorem Dd(w:World)(s:ByteArray)(h:iD s)(hs:s.size<=1000000):
  Calls prog 170 #[.string s] w λr w'=>r=.returned (.tuple #[(il s).agg,.bool true])/\Below w.heap.size w w':=by
 have O0:=xh ((Below.refl w.heap.size w).alloc (ak _) (.cells #[.string .empty,.string .empty,.int .i64 0] 111));have B0:=xh (aJ.new w 111 #[.string .empty,.string .empty,.int .i64 0]);unfold iD at h;have hs2:=vX (s:=s) (by omega);have h0:0<s.size:=by omega
 have h1:(0:Int)<(s.size:Int):=by omega
 have hk:mG s=s[0].toNat:=by unfold mG;rw[dL _ _ h0]
 rw[hk]at h;have hE:=xh (show(il s).agg=.agg #[.string (s.extract 1 (1+s[0].toNat)),.string (s.extract (3+s[0].toNat) s.size),.int .i64 ((bS s.data.toList (1+s[0].toNat):Int)-1)]from by unfold E.agg il;rw[hk]);have b0:=s[0].toNat_lt;have h2:¬(s.size:Int)<3+(s[0].toNat:Int):=by omega
 have e4:IntKind.i64.wrap (s[0].toNat:Int)=(s[0].toNat:Int):=IntWalk.i64_in _ (by omega);have e5:IntKind.i64.wrap (3+(s[0].toNat:Int))=3+(s[0].toNat:Int):=IntWalk.i64_in _ (by omega);have e6:IntKind.i64.wrap (1+(s[0].toNat:Int))=1+(s[0].toNat:Int):=IntWalk.i64_in _ (by omega);go_enter func170,ntmps170;go_wp2_with fail;obtain⟨k,hkk⟩:∃k,1+s[0].toNat=k:=⟨_,rfl⟩;have Kh:(1:Int)+((s[0].toNat:Nat):Int)=((k:Nat):Int):=by omega
 rw[Kh];have hk1:k<s.size:=by omega
 have hk2:k+1<s.size:=by omega
 have b1:=s[k].toNat_lt;have b2:=s[k+1].toNat_lt;have HV:=xh (show bits .or .i64 ((s[k].toNat:Int)*256) (s[k+1].toNat:Int)=((bS s.data.toList k:Nat):Int)from by
  rw[or8 _ _ (by omega) (by omega)];unfold bS;rw[dL _ _ hk1,dL _ _ hk2])
 have e1:IntKind.i64.wrap ((k:Int)+1)=(k:Int)+1:=IntWalk.i64_in _ (by omega);have e2:(0:Int)<=(k:Int)+1:=by omega
 have e3:((k:Int)+1).toNat=k+1:=by omega
 have e7:(k:Int)+1<(s.size:Int):=by omega
 have e8:(k:Int)<(s.size:Int):=by omega
 have v1:IntKind.i64.wrap (s[k].toNat:Int)=(s[k].toNat:Int):=IntWalk.i64_in _ (by omega);have v2:IntKind.i64.wrap ((s[k].toNat:Int)*256)=(s[k].toNat:Int)*256:=IntWalk.i64_in _ (by omega);have v3:IntKind.i64.wrap (s[k+1].toNat:Int)=(s[k+1].toNat:Int):=IntWalk.i64_in _ (by omega);have z1:IntKind.i64.wrap ((k:Int)+2)=(k:Int)+2:=IntWalk.i64_in _ (by omega);have z2:(0:Int)<=(k:Int)+2:=by omega
 have z3:((k:Int)+2).toNat=k+2:=by omega
 have z4:(k:Int)+2<=(s.size:Int):=by omega
 have z5:(k:Int)<=(s.size:Int):=by omega
 have z6:(1:Int)<=(k:Int):=by omega
 go_quiet (fail);rw[HV.o];have u0:=List.getD s.data.toList k 0|>.toNat_lt;have u1:=List.getD s.data.toList (k+1) 0|>.toNat_lt;have z7:IntKind.i64.wrap ((bS s.data.toList k:Int)-1)=(bS s.data.toList k:Int)-1:=IntWalk.i64_in _ (by unfold bS;omega);go_wp2_with fail;refine wp_region_held_drew (S:=λ_=>True) (by kernel_rfl) trivial (λah=>?_);refine bM [(0,33),(1,34),(2,35),(3,36),(4,37),(5,38),(6,39),(7,40),(8,41),(9,42)] ?_
 iterate 10 refine aG ?_
 refine dv 10 λK hK=>?_;go_simp;refine hK.o _ _ trivial (λah=>?_)
 try simp only[Act.put,pa,pb,pc]
 refine bM [(11,3)] ?_
 iterate 1 refine aG ?_
 refine wpAnyH_done (by kernel_rfl) ?_ _;go_wp2_with fail;have BB:=((((B0.o.drewN (nq+1)).bE 0 (.string (s.extract 1 k))).bE 1 (.string (s.extract (k+2) s.size))).bE 2 (.int .i64 ((bS s.data.toList k:Int)-1)));refine bodyPost_ret (nQ rfl rfl BB) rfl ⟨?_,?_⟩
 .have hE2:(il s).agg=.agg #[.string (s.extract 1 k),.string (s.extract (k+2) s.size),.int .i64 ((bS s.data.toList k:Int)-1)]:=by
   rw[hE.o,<-hkk,show 3+s[0].toNat=1+s[0].toNat+2 by omega]
  rw[hE2];rfl
 .have hn:w.heap.size<w.heap.size->w.heap.size∈([]:List Nat):=λh=>absurd h (yo _);exact((((ag.aj (S:=[]) (dS O0.o (nq+1))).setCell (p:=⟨w.heap.size,0,none⟩) hn _).setCell (p:=⟨w.heap.size,1,none⟩) hn _).setCell (p:=⟨w.heap.size,2,none⟩) hn _).eo
end Nd
namespace Nd
open Go.RowKit Sl
def ao(l:List E):Nat:=(l.map λe=>e.key.size+e.val.size+7).sum
theorem lA(l:List E)(i:Nat)(e:E)(h:l[i]?=some e):ao (l.take (i+1))=ao (l.take i)+(e.key.size+e.val.size+7):=by
 unfold ao;rw[tO,h];simp
theorem ql(l:List E)(i:Nat):ao (l.take i)<=ao l:=by
 have:ao l=ao (l.take i)+ao (l.drop i):=by
  unfold ao;rw[<-yl,<-dA,kT]
 omega
theorem De{w:World}(A:Option Addr)(n c:Nat)(l:List E)(h:oW w A n l)(hn:n<=9223372036854775807)(hb:ao l<=1000000):
  Calls prog 177 #[.slice A n c] w λr w'=>r=.returned (.int .i64 (ao l:Nat))/\Below w.heap.size w w':=by
 have H0:=xh h;have hl:=xh h.1;have hB:=xh hb;clear h hb;go_enter func177,ntmps177;go_wp2_with fail
 go_loopw [3,8] (λsv iv wr=> ∃i:Nat,i<=n/\iv=.int .i64 i/\sv=.int .i64 (ao (l.take i):Nat)/\Below w.heap.size w wr) (λ_ iv _=>n-(intOf iv).toNat)
 case atStart=>exact⟨0,by omega,rfl,by simp[ao],Below.refl _ _⟩
 case round=>
  obtain⟨i,hi,rfl,rfl,hbw⟩:=hrel
  by_cases h:i<n
  .obtain⟨ad,e,rfl,he,AT⟩:=(H0.o.below hbw).at i h;have a0:=AT.c0;have a1:=AT.c1;have a2:=AT.c2;have hs:=lA l i e he;have ht:=ql l (i+1);have hb:=hB.o;have HS:=xh hs;have s1:IntKind.i64.wrap ((e.key.size:Int)+(e.val.size:Int))=(e.key.size:Int)+(e.val.size:Int):=IntWalk.i64_in _ (by omega);have s2:IntKind.i64.wrap ((e.key.size:Int)+(e.val.size:Int)+7)=(e.key.size:Int)+(e.val.size:Int)+7:=IntWalk.i64_in _ (by omega)
   have s3:IntKind.i64.wrap ((ao (l.take i):Int)+((e.key.size:Int)+(e.val.size:Int)+7))=(ao (l.take i):Int)+((e.key.size:Int)+(e.val.size:Int)+7):=IntWalk.i64_in _ (by omega);have Fu:=xh (aB hbw (ae (Below.refl wr.heap.size wr) (.cells #[.string e.key,.string e.val,.int .i64 e.aW] 111)));clear AT hs ht hb hbw;go_wp2_with fail;refine⟨⟨i+1,by omega,rfl,?_,Fu.o⟩,by simp[intOf];omega⟩;rw[HS.o];simp
  .obtain rfl:i=n:=by omega
   have Fu:=xh hbw;clear hbw;go_wp2_with fail;go_ret;refine⟨?_,Fu.o⟩;have:=hl.o;rw[cy (by omega)];rfl
attribute [local go_sem ↓] Go.wp_at_zero Go.wp_at_succ
theorem Ab(e:E)(leaf:Bool):du e leaf↔e.key.size<=32/\e.val.size<=40/\ -1<=e.aW/\e.aW<=511/\(0<=e.aW->e.val.size=0)/\(e.aW<0->leaf=true):=by
 unfold du
 constructor
 .rintro⟨h1,h2,h3,h4,h5⟩
  cases leaf
  .simp only[pw,if_false]at h3;exact⟨h1,h2,by omega,by omega,λh=>by omega,λh=>by omega⟩
  .simp only[if_true]at h3;exact⟨h1,h2,by omega,by omega,λh=>by omega,λ_=>rfl⟩
 .rintro⟨h1,h2,h3,h4,h5,h6⟩;have h7:e.aW<0\/e.val.size=0:=by
   rcases(show e.aW<0\/0<=e.aW by omega)with h|h
   .exact .inl h
   .exact .inr (h5 h)
  cases leaf
  .simp only[pw,if_false];refine⟨h1,h2,?_,by omega,h7⟩
   rcases(show e.aW<0\/0<=e.aW by omega)with h|h
   .exact absurd (h6 h) (by decide)
   .exact h
  .simp only[if_true];exact⟨h1,h2,h3,by omega,h7⟩
end Nd
namespace Nd
open Go.RowKit Sl
variable{l:List E}{w:World}{t:TypeId}{n:Nat}
def aH(l:List E):List Value:=l.flatMap E.cells
theorem kM(e:E)(l:List E):aH (e::l)=e.cells++aH l:=by simp[aH]
theorem gl(l m:List E):aH (l++m)=aH l++aH m:=by simp[aH]
theorem aw(l:List E):(aH l).length=l.length*3:=by
 induction l with
 |nil=>rfl
 |cons e l ih=>rw[kM,aU,ih];simp[E.cells];omega
theorem UR{k:Nat}{e:E}(h:l[k]?=some e)(j:Nat)(hj:j<3):(aH l)[k*3+j]?=e.cells[j]?:=by
 induction l generalizing k with
 |nil=>simp at h
 |cons x l ih=>
  rw[kM]
  cases k with
  |zero=>
   simp only[yI,Option.some.injEq]at h;subst h;rw[bF (by simp[E.cells];omega)];congr 1;omega
  |succ k=>
   rw[vi]at h;rw[dW (by simp[E.cells];omega),<-ih h]
   congr 1;simp[E.cells];omega
theorem fe(g o j:Nat):(⟨g,o,none⟩:Addr).add j=⟨g,o+j,none⟩:=by
 unfold Addr.add
 split
 .next h=>rw[h];rfl
 .rfl
theorem Ij{g:Nat}{rest:List Value}(B:aJ w g t (aH l++rest).toArray)(k:Nat)(e:E)(h:l[k]?=some e):Dc w ((⟨g,0,none⟩:Addr).add (k*3)) e:=by
 have hk:=(aS.1 h).1;have hlen:=aw l;have key:∀j,j<3->(aH l++rest).toArray[k*3+j]?=e.cells[j]?:=λj hj=>by
  rw[dj,bF (by omega),UR h j hj]
 rw[fe,bg];exact⟨(B.cell _).trans (key 0 (by omega)),(B.cell _).trans (key 1 (by omega)),(B.cell _).trans (key 2 (by omega))⟩
theorem aT.aH{A:Option Addr}{c m:Nat}(S:aT w t 3 (.slice A n c) m (aH l)):n=m/\oW w A m l:=by
 have hl:=S.1;rw[aw]at hl;have US:l.length=m:=by omega
 rcases S.2 with⟨hv,h0⟩|⟨g,cap,rest,hv,B,hc,_⟩
 .simp only[Value.slice.injEq]at hv;obtain⟨rfl,rfl,rfl⟩:=hv;refine⟨h0.symm,US,λk e he=>?_⟩;have:=(aS.1 he).1;omega
 .simp only[Value.slice.injEq]at hv;obtain⟨rfl,rfl,rfl⟩:=hv;exact⟨rfl,US,λk e he=>⟨_,rfl,Ij B k e he⟩⟩
theorem sQ{P:Program}{v:Value}{l:List Value}(S:aT w t 3 v n l)
 (T ty:TypeId)(z:Value)(bytes:Nat)(ht:P.underlying T=some (.slice t))(mx:(P.info? t).map (λi=>(i.zero,i.size,i.bytes))=some (some z,3,bytes))(hz:z.cells.size=3)
 (e:E)(El:n+1<=maxLen)(hb:(n+1)*bytes<=140737488355328):
  ∃v' w',dP P T ty (w.alloc (.cells #[.string e.key,.string e.val,.int .i64 e.aW] t)) v (.slice (some ⟨w.heap.size,0,none⟩) 1 1)= .ok v' w'/\aT w' t 3 v' (n+1) (l++e.cells)/\ag (ai v) w w'/\(∀g∈ai v',g∈ai v\/w.heap.size<=g):=by
 obtain⟨i0,hi,kx,ju,kg⟩:=info_parts mx;obtain⟨v',w',h1,h2,h3,h4⟩:=dk (P:=P) (S.alloc (.cells #[.string e.key,.string e.val,.int .i64 e.aW] t)) T ty i0 z bytes ht hi kx ju kg hz (by omega)
  ⟨w.heap.size,0,none⟩ 1 1 e.cells rfl (bq (l:=e.cells) (aJ.new w t #[.string e.key,.string e.val,.int .i64 e.aW]) 0 _ (by intro j v hv;rw[bg];exact hv)) (by intro u hu;simp[E.cells]at hu;rcases hu with rfl|rfl|rfl<;>rfl) El hb
 exact⟨v',w',h1,h2,((ag.refl _ _).alloc _).aO h3 (λx hx _=>hx),λg hg=>(h4 g hg).imp id (λh=>by simp at h;omega)⟩
attribute [local go_sem ↓] bz
def qm(e:E):List UInt8:=UInt8.ofNat e.key.size::(e.key.data.toList++(eS (e.aW+1).toNat++e.val.data.toList))
def uG(e:E):ByteArray:=⟨(qm e).toArray⟩
theorem vY(a b:ByteArray):a++b=⟨(a.data.toList++b.data.toList).toArray⟩:=by
 have:=ss a.data.toList b;rw[NV]at this;exact this
theorem recB_eq(e:E):(⟨[UInt8.ofNat e.key.size].toArray⟩++e.key)++⟨(eS (e.aW+1).toNat).toArray⟩++e.val=uG e:=by
 rw[vY,vY,vY];unfold uG qm;simp
theorem vZ(w:World)(o:Obj):(w.alloc o).heap.size=w.heap.size+1:=by simp
theorem uu{w:World}(e:E)(hk:e.key.size<=32)(hv:e.val.size<=40)(hf: -1<=e.aW)(BO:e.aW<=511){g n:Nat}{v:Value}{l:List (List UInt8)}(B:aJ w g 123 #[v])(S:aT w 9 1 v n (strs l))(hg:g∉ai v)(hn:n<=1000000):
  Calls prog 118 #[e.agg,.pointer (some ⟨g,0,none⟩)] w λr w'=>r=.returned (.tuple #[])/\∃v',aJ w' g 123 #[v']/\aT w' 9 1 v' (n+1) (strs (l++[qm e]))/\ag (g::ai v) w w'/\(∀x∈ai v',x∈ai v\/w.heap.size<=x):=by
 obtain⟨A,c,rfl⟩:=au S;have HR:=xh (recB_eq e);have hR2:Value.string (uG e)= .string ⟨(qm e).toArray⟩:=rfl;obtain⟨m,hm⟩:=eT (show 0<=e.aW+1 by omega);have Kc:m<=512:=by omega
 have e0:Value.int .u8 ((m:Int) / 256)=bv (UInt8.ofNat (m / 256)):=by
  unfold bv
  congr 1
  rw[je];omega
 have e1:Value.int .u8 ((m:Int) % 256)=bv (UInt8.ofNat m):=by
  unfold bv;rfl
 have e2:Value.int .u8 (e.key.size:Int)=bv (UInt8.ofNat e.key.size):=by
  unfold bv
  congr 1
  rw[je];omega
 rw[hm,gG]at HR;have HE:=xh (show #[Value.int .u8 ((m:Int) / 256),Value.int .u8 ((m:Int) % 256)]=(dI (eS m)).toArray from by rw[e0,e1];rfl);have HK:=xh (show #[Value.int .u8 (e.key.size:Int)]=(dI [UInt8.ofNat e.key.size]).toArray from by rw[e2];rfl);have BX:=xh (aJ.new w 111 #[.string e.key,.string e.val,.int .i64 e.aW])
 have s1:=cg (P:=prog) ((w.alloc (.cells #[.string e.key,.string e.val,.int .i64 e.aW] 111)).alloc (.cells (dI [UInt8.ofNat e.key.size]).toArray 5)) 150 9 5 underlying150 underlying5 underlying9 ⟨(w.alloc (.cells #[.string e.key,.string e.val,.int .i64 e.aW] 111)).heap.size,0,none⟩ 1 1 [UInt8.ofNat e.key.size] rfl (bq (l:=dI [UInt8.ofNat e.key.size]) (aJ.new _ 5 _) 0 _ (by intro j u hu;rw[bg];exact hu));rw[<-HK.o,vZ]at s1
 have S1:=xh s1
 have s2:=cg (P:=prog) (((w.alloc (.cells #[.string e.key,.string e.val,.int .i64 e.aW] 111)).alloc (.cells #[.int .u8 (e.key.size:Int)] 5)).alloc (.cells (dI (eS m)).toArray 5)) 150 9 5 underlying150 underlying5 underlying9 ⟨((w.alloc (.cells #[.string e.key,.string e.val,.int .i64 e.aW] 111)).alloc (.cells #[.int .u8 (e.key.size:Int)] 5)).heap.size,0,none⟩ 2 2 (eS m) rfl (bq (l:=dI (eS m)) (aJ.new _ 5 _) 0 _ (by intro j u hu;rw[bg];exact hu))
 rw[<-HE.o,vZ,vZ]at s2;have S2:=xh s2;have B1:=B.alloc (.cells #[.string e.key,.string e.val,.int .i64 e.aW] 111);have c1:(w.alloc (.cells #[.string e.key,.string e.val,.int .i64 e.aW] 111)).cell? ⟨g,0,none⟩=some (.slice A n c):=B1.ab (i:=0) rfl
 obtain⟨v',w2,ea,SS,ow,fr⟩:=cQ (P:=prog) (((S.alloc (.cells #[.string e.key,.string e.val,.int .i64 e.aW] 111)).alloc (.cells #[.int .u8 (e.key.size:Int)] 5)).alloc (.cells #[Value.int .u8 ((m:Int) / 256),Value.int .u8 ((m:Int) % 256)] 5)) 123 123 (.string .empty) 16 underlying123 xA rfl (.string (⟨#[UInt8.ofNat e.key.size]⟩++e.key++⟨(eS m).toArray⟩++e.val)) rfl (by unfold maxLen;omega) (by omega);obtain⟨V2,ix,rfl⟩:=au SS;rw[vZ,vZ,vZ]at ea
 have EA:=xh ea;clear s1 s2 ea;have OO:=xh (((((ag.refl (g::ai (.slice A n c)) w).alloc (.cells #[.string e.key,.string e.val,.int .i64 e.aW] 111)).alloc (.cells #[.int .u8 (e.key.size:Int)] 5)).alloc (.cells #[Value.int .u8 ((m:Int) / 256),Value.int .u8 ((m:Int) % 256)] 5)).aO ow (λx hx _=>ax _ hx))
 have B2:=xh ((((B.alloc (.cells #[.string e.key,.string e.val,.int .i64 e.aW] 111)).alloc (.cells #[.int .u8 (e.key.size:Int)] 5)).alloc (.cells #[Value.int .u8 ((m:Int) / 256),Value.int .u8 ((m:Int) % 256)] 5)).only ow hg);have hR3:Value.string (⟨#[UInt8.ofNat e.key.size]⟩++e.key++⟨(eS m).toArray⟩++e.val)= .string ⟨(qm e).toArray⟩:=congrArg Value.string HR.o;rw[hR3,C9]at SS
 replace SS:=xh SS
 have c2:w2.cell? ⟨g,0,none⟩=some (.slice A n c):=B2.o.ab (i:=0) rfl;have c3:w2.frozen? ⟨g,0,none⟩=false:=B2.o.frozen 0 (by simp);have t8:(eS m).length=2:=rfl;have FR2:=xh (show ∀x∈ai (.slice V2 (n+1) ix),x∈ai (.slice A n c)\/w.heap.size<=x from λx hx=>(fr x hx).imp id (λh=>by rw[vZ,vZ,vZ]at h;omega));have NE:=xh (show g∉ai (.slice V2 (n+1) ix)from λhx=>(FR2.o g hx).elim hg (λh=>by have:=B.lt;omega));have HM:=xh hm;unfold E.agg
 clear B1 e0 e1 e2 ow fr S B hg hR2 hR3;have m1:IntKind.u8.wrap ((m:Int) / 256)=(m:Int) / 256:=IntWalk.u8_in _ (by omega);go_enter func118,ntmps118;go_wp2_with fail;rw[S1.o];go_wp2_with fail;rw[S2.o];go_wp2_with fail;rw[EA.o];go_wp2_with fail
 go_end0
 exact⟨rfl,_,B2.o.bE 0 _,SS.o.only ((ag.refl [g] w2).setCell (λ_=>by simp) _) (λx hx=>by simp;exact λhh=>NE.o (hh▸hx)),OO.o.setCell (λ_=>by simp) _,FR2.o⟩
end Nd
namespace Nd
open Go.RowKit Sl
attribute [local go_sem ↓] Go.wp_at_zero Go.wp_at_succ
variable{w:World}
def Df(leaf:Bool):List UInt8:=if leaf=true then [1]else [2]
def iE(leaf:Bool)(l:List E):List (List UInt8):=Df leaf::l.map qm
theorem Ad(leaf:Bool)(l:List E)(i:Nat)(e:E)(h:l[i]?=some e):iE leaf (l.take (i+1))=iE leaf (l.take i)++[qm e]:=by
 unfold iE;rw[tO,h];simp
theorem Fv(leaf:Bool)(l:List E):(iE leaf l).length=l.length+1:=by simp[iE]
theorem qo(e:E):(qm e).length=3+e.key.size+e.val.size:=by
 unfold qm eS;simp;omega
theorem put_no(leaf:Bool)(A:Option Addr)(n c:Nat)(l:List E)(h:oW w A n l)(hn:n<=1000000)(hm:¬dN l leaf):
  Calls prog 68 #[bA leaf A n c] w λr w'=>r=.returned (.tuple #[.string ⟨#[]⟩,.int .i64 2])/\Below w.heap.size w w':=by
 have O0:=(Below.refl w.heap.size w).alloc (ak _) (.cells #[.bool leaf,.slice A n c] 118);have KM:=xh (ri (w:=w.alloc (.cells #[.bool leaf,.slice A n c] 118)) leaf A n c l (h.below O0) (by omega));have O0:=xh O0;have HM:=xh hm;clear h hm;unfold bA at *;go_enter func68,ntmps68;go_wp2_with fail;refine KM.o.mono ?_;rintro r w1 ⟨⟨b,rfl,hb⟩,bf⟩;obtain rfl:b=false:=by
  cases b
  .rfl
  .exact absurd (hb.1 rfl) HM.o
 have O1:=xh (aB O0.o bf);clear hb bf;go_wp2_with fail;go_ret2;exact⟨rfl,O1.o⟩
theorem put_yes(leaf:Bool)(A:Option Addr)(n c:Nat)(l:List E)(h:oW w A n l)(hn:n<=1000)(hm:dN l leaf):
  Calls prog 68 #[bA leaf A n c] w (UP (iE leaf l) w):=by
 have O0:=(Below.refl w.heap.size w).alloc (ak _) (.cells #[.bool leaf,.slice A n c] 118);have hl:=xh h.1;have H0:=h.below O0;have KM:=xh (ri (w:=w.alloc (.cells #[.bool leaf,.slice A n c] 118)) leaf A n c l H0 (by omega));have B0:=xh (aJ.new w 118 #[.bool leaf,.slice A n c]);have O0:=xh O0;have H0:=xh H0;have HM:=xh hm;have HH:=xh h
 have HQ:=xh (show ∀(i:Nat) (e:E),l[i]?=some e->e.key.size<=32/\e.val.size<=40/\ -1<=e.aW/\e.aW<=511 from λi e he=>by
  have h2:=(Ab e leaf).1 (hm i (aS.1 he).1 e he).1;exact⟨h2.1,h2.2.1,h2.2.2.1,h2.2.2.2.1⟩)
 have HL:=xh (Fv leaf l);have HS:=xh (show ∀r∈iE leaf l,r.length<=1000000 from λr hr=>by
  unfold iE at hr
  rcases an.1 hr with rfl|hr
  .unfold Df;split<;>decide
  .obtain⟨e,he,rfl⟩:=dC.1 hr;obtain⟨i,hi,rfl⟩:=oq he;have:=HQ.o i _ (aL hi);rw[qo];omega)
 clear h hm;unfold bA at *;go_enter func68,ntmps68;go_wp2_with fail;generalize (w.alloc (.cells #[.bool leaf,.slice A n c] 118))=W0 at *;refine KM.o.mono ?_;rintro r w1 ⟨⟨b,rfl,hb⟩,bf⟩;obtain rfl:b=true:=hb.2 HM.o;have O1:=xh (aB O0.o bf);have H1:=xh (H0.o.below bf);have B1:=xh (B0.o.below bf B0.o.lt);have c0:w1.cell? ⟨w.heap.size,0,none⟩=some (.bool leaf):=B1.o.ab (i:=0) rfl
 have c1:w1.cell? ⟨w.heap.size,1,none⟩=some (.slice A n c):=B1.o.ab (i:=1) rfl;have dH:=B1.o.lt;clear hb bf;have SK:=xh (show ∀k:List UInt8,aT ((w1.alloc (.cells #[.string ⟨k.toArray⟩] 9)).alloc (.cells #[.slice (some ⟨w1.heap.size,0,none⟩) 1 1] 123)) 9 1 (.slice (some ⟨w1.heap.size,0,none⟩) 1 1) 1 (strs [k])from λk=>⟨rfl,.inr ⟨w1.heap.size,1,[],rfl,(aJ.new w1 9 #[.string ⟨k.toArray⟩]).alloc _,rfl,by unfold maxLen;omega⟩⟩)
 have BK:=xh (show ∀k:List UInt8,aJ ((w1.alloc (.cells #[.string ⟨k.toArray⟩] 9)).alloc (.cells #[.slice (some ⟨w1.heap.size,0,none⟩) 1 1] 123)) (w1.heap.size+1) 123 #[.slice (some ⟨w1.heap.size,0,none⟩) 1 1]from λk=>by
  have:=aJ.new (w1.alloc (.cells #[.string ⟨k.toArray⟩] 9)) 123 #[.slice (some ⟨w1.heap.size,0,none⟩) 1 1];rw[vZ]at this;exact this)
 have OK:=xh (show ∀k:List UInt8,Below w.heap.size w ((w1.alloc (.cells #[.string ⟨k.toArray⟩] 9)).alloc (.cells #[.slice (some ⟨w1.heap.size,0,none⟩) 1 1] 123))from λk=>aB O1.o (ae (ae (Below.refl _ _) _) _))
 cases leaf
 .replace SK:=xh (SK.o [2])
  replace BK:=xh (BK.o [2])
  replace OK:=xh (OK.o [2])
  go_wp2_with fail;generalize hW2:((w1.alloc (.cells #[.string ⟨#[2]⟩] 9)).alloc (.cells #[.slice (some ⟨w1.heap.size,0,none⟩) 1 1] 123))=W2 at *;clear hW2 c0 c1
  go_loopw [20] (λiv wr=> ∃(i:Nat) (v':Value),i<=n/\iv=.int .i64 i/\aJ wr (w1.heap.size+1) 123 #[v']/\aT wr 9 1 v' (i+1) (strs (iE false (l.take i)))/\Below w.heap.size w wr/\Hid (∀x∈ai v',w.heap.size<=x/\x≠w1.heap.size+1)) (λiv _=>n-(intOf iv).toNat)
  case atStart=>exact⟨0,_,aY _,rfl,BK.o,SK.o,OK.o,xh (λx hx=>by simp[ai]at hx;omega)⟩
  case round=>
   obtain⟨i,v',hi,rfl,B,S,O,F⟩:=hrel;obtain⟨VA,vc,rfl⟩:=au S;have hltr:=B.lt
   by_cases h:i<n
   .obtain⟨ad,e,rfl,he,AT⟩:=(HH.o.below O).at i h;have HT:=xh (Ad false l i e he);obtain⟨q1,q2,q3,q4⟩:=HQ.o i e he;have KP:=xh (uu (w:=wr.alloc (.cells #[.string e.key,.string e.val,.int .i64 e.aW] 111)) e q1 q2 q3 q4 (B.alloc _) (S.alloc _) (λhx=>(F.o _ hx).2 rfl) (by omega));have a0:=AT.c0;have a1:=AT.c1;have a2:=AT.c2;have OO:=xh O;have SZ:=xh (show w.heap.size<=w1.heap.size+1 from by omega);clear AT S B O he;go_wp2_with fail;refine KP.o.mono ?_
    rintro r w2 ⟨rfl,v2,B2,S2,o2,f2⟩;have F2:=xh (show ∀x∈ai v2,w.heap.size<=x/\x≠w1.heap.size+1 from λx hx=>(f2 x hx).elim (F.o x) (λh=>by rw[vZ]at h;have:=OO.o.size;omega));have O2:=xh ((OO.o.alloc OO.o.size (.cells #[.string e.key,.string e.val,.int .i64 e.aW] 111)).trans (o2.aI (by rw[vZ];have:=OO.o.size;omega) (λx hx=>by
     rcases an.1 hx with rfl|hx
     .exact SZ.o
     .exact(F.o x hx).1)))
    rw[<-HT.o]at S2
    replace S2:=xh S2
    replace B2:=xh B2
    clear o2 f2;go_wp2_with fail;go_roundw
    case rel=>exact⟨i+1,v2,by omega,by go_num,B2.o,S2.o,O2.o,F2⟩
    case measure=>simp[intOf];omega
   .obtain rfl:i=n:=by omega
    have mR:=hl.o;rw[cy (by omega)]at S;have KO:=xh (UQ (l:=iE false l) (by rw[HL.o,mR];exact S) (by rw[HL.o];omega) HS.o);have b0:wr.cell? ⟨w1.heap.size+1,0,none⟩=some (.slice VA (i+1) vc):=B.ab (i:=0) rfl;have OO:=xh O;clear S B O mR;go_wp2_with fail;refine KO.o.mono ?_;rintro r w2 ⟨hx,cA⟩;have O2:=xh (aB OO.o cA);clear cA
    rcases hx with⟨h0,T,rfl,sT,rT⟩|⟨h0,rfl⟩
    .have HX:=xh (And.intro h0 (And.intro sT rT));clear h0 sT rT;go_wp2_with fail;go_ret2;exact⟨.inl ⟨HX.o.1,T,rfl,HX.o.2.1,HX.o.2.2⟩,O2.o⟩
    .have HX:=xh h0;clear h0;go_wp2_with fail;go_ret2;exact⟨.inr ⟨HX.o,rfl⟩,O2.o⟩
 .replace SK:=xh (SK.o [1])
  replace BK:=xh (BK.o [1])
  replace OK:=xh (OK.o [1])
  go_wp2_with fail;generalize hW2:((w1.alloc (.cells #[.string ⟨#[1]⟩] 9)).alloc (.cells #[.slice (some ⟨w1.heap.size,0,none⟩) 1 1] 123))=W2 at *;clear hW2 c0 c1
  go_loopw [20] (λiv wr=> ∃(i:Nat) (v':Value),i<=n/\iv=.int .i64 i/\aJ wr (w1.heap.size+1) 123 #[v']/\aT wr 9 1 v' (i+1) (strs (iE true (l.take i)))/\Below w.heap.size w wr/\Hid (∀x∈ai v',w.heap.size<=x/\x≠w1.heap.size+1)) (λiv _=>n-(intOf iv).toNat)
  case atStart=>exact⟨0,_,aY _,rfl,BK.o,SK.o,OK.o,xh (λx hx=>by simp[ai]at hx;omega)⟩
  case round=>
   obtain⟨i,v',hi,rfl,B,S,O,F⟩:=hrel;obtain⟨VA,vc,rfl⟩:=au S;have hltr:=B.lt
   by_cases h:i<n
   .obtain⟨ad,e,rfl,he,AT⟩:=(HH.o.below O).at i h;have HT:=xh (Ad true l i e he);obtain⟨q1,q2,q3,q4⟩:=HQ.o i e he;have KP:=xh (uu (w:=wr.alloc (.cells #[.string e.key,.string e.val,.int .i64 e.aW] 111)) e q1 q2 q3 q4 (B.alloc _) (S.alloc _) (λhx=>(F.o _ hx).2 rfl) (by omega));have a0:=AT.c0;have a1:=AT.c1;have a2:=AT.c2;have OO:=xh O;have SZ:=xh (show w.heap.size<=w1.heap.size+1 from by omega);clear AT S B O he;go_wp2_with fail;refine KP.o.mono ?_
    rintro r w2 ⟨rfl,v2,B2,S2,o2,f2⟩;have F2:=xh (show ∀x∈ai v2,w.heap.size<=x/\x≠w1.heap.size+1 from λx hx=>(f2 x hx).elim (F.o x) (λh=>by rw[vZ]at h;have:=OO.o.size;omega));have O2:=xh ((OO.o.alloc OO.o.size (.cells #[.string e.key,.string e.val,.int .i64 e.aW] 111)).trans (o2.aI (by rw[vZ];have:=OO.o.size;omega) (λx hx=>by
     rcases an.1 hx with rfl|hx
     .exact SZ.o
     .exact(F.o x hx).1)))
    rw[<-HT.o]at S2
    replace S2:=xh S2
    replace B2:=xh B2
    clear o2 f2;go_wp2_with fail;go_roundw
    case rel=>exact⟨i+1,v2,by omega,by go_num,B2.o,S2.o,O2.o,F2⟩
    case measure=>simp[intOf];omega
   .obtain rfl:i=n:=by omega
    have mR:=hl.o;rw[cy (by omega)]at S;have KO:=xh (UQ (l:=iE true l) (by rw[HL.o,mR];exact S) (by rw[HL.o];omega) HS.o);have b0:wr.cell? ⟨w1.heap.size+1,0,none⟩=some (.slice VA (i+1) vc):=B.ab (i:=0) rfl;have OO:=xh O;clear S B O mR;go_wp2_with fail;refine KO.o.mono ?_;rintro r w2 ⟨hx,cA⟩;have O2:=xh (aB OO.o cA);clear cA
    rcases hx with⟨h0,T,rfl,sT,rT⟩|⟨h0,rfl⟩
    .have HX:=xh (And.intro h0 (And.intro sT rT));clear h0 sT rT;go_wp2_with fail;go_ret2;exact⟨.inl ⟨HX.o.1,T,rfl,HX.o.2.1,HX.o.2.2⟩,O2.o⟩
    .have HX:=xh h0;clear h0;go_wp2_with fail;go_ret2;exact⟨.inr ⟨HX.o,rfl⟩,O2.o⟩
end Nd
namespace Nd
open Go.RowKit Sl
variable{w:World}{g n c:Nat}{leaf:Bool}{A:Option Addr}{tmps:Array Value}
theorem wg{fn:Func}{p q:Tmp}{ty tz:TypeId}(h:fn.results= #[.cell p ty,.cell q tz])(tmps:Array Value)(P:Program)(w:World):
  (results fn tmps).run P w=
   ((asAddr (tmps.getD p undef)).run P w).andThen λa w₁=>((loadVar ty a).run P w₁).andThen λv w₂=>((asAddr (tmps.getD q undef)).run P w₂).andThen λa w₁=>((loadVar tz a).run P w₁).andThen λu w₂=> .ok (.tuple #[v,u]) w₂:=by
 simp only[results,h];simp[Sem.run_bind,Result.andThen]
theorem fG{fn:Func}{p u:Tmp}(h:fn.results= #[.cell p 118,.tmp u])(hp:tmps.getD p undef=.pointer (some ⟨g,0,none⟩))(B:aJ w g 118 #[.bool leaf,.slice A n c]):
  (results fn tmps).run prog w=.ok (.tuple #[bA leaf A n c,tmps.getD u undef]) w:=by
 have c0:=B.ab (i:=0) rfl;have c1:=B.ab (i:=1) rfl;rw[results_cell_tmp h,hp];clear h hp B;unfold bA;go_simp
theorem Mg{fn:Func}{p q:Tmp}{g':Nat}{leaf':Bool}{A':Option Addr}{n' c':Nat}(h:fn.results= #[.cell p 118,.cell q 118])(hp:tmps.getD p undef=.pointer (some ⟨g,0,none⟩))(hq:tmps.getD q undef=.pointer (some ⟨g',0,none⟩))(B:aJ w g 118 #[.bool leaf,.slice A n c])(B':aJ w g' 118 #[.bool leaf',.slice A' n' c']):
  (results fn tmps).run prog w=.ok (.tuple #[bA leaf A n c,bA leaf' A' n' c']) w:=by
 have c0:=B.ab (i:=0) rfl;have c1:=B.ab (i:=1) rfl;have d0:=B'.ab (i:=0) rfl;have d1:=B'.ab (i:=1) rfl;rw[wg h,hp,hq];clear h hp hq B B';unfold bA;go_simp
attribute [local go_sem ↓] Go.wp_at_zero Go.wp_at_succ bz
def m9(rs:List (List UInt8)):Bool:=decide (rs.head?=some [1])
def lB(rs:List (List UInt8)):List E:=rs.tail.map λr=>il ⟨r.toArray⟩
def iW(rs:List (List UInt8)):Prop:=(rs.head?=some [1]\/rs.head?=some [2])/\(∀r∈rs.tail,iD ⟨r.toArray⟩)/\dN (lB rs) (m9 rs)
def nc(rs:List (List UInt8))(w:World)(e:Ending)(w':World):Prop:=
 ((¬iW rs/\e=.returned (.tuple #[bA false none 0 0,.int .i64 14]))\/
  (iW rs/\∃A n c,e=.returned (.tuple #[bA (m9 rs) A n c,.int .i64 0])/\aT w' 111 3 (.slice A n c) n (aH (lB rs))/\Hid (∀g∈ai (.slice A n c),w.heap.size<=g)))/\Below w.heap.size w w'
theorem got_nil(s:ByteArray)(w:World)(hs:s.size<=1000000)(hq:cu s.data.toList=0)(pz:cZ s.data.toList=[]):
  Calls prog 122 #[.string s] w (nc ([]) w):=by
 have B0:=aJ.new w 118 #[.bool false,.slice none 0 0];have O0:=ae (Below.refl w.heap.size w) (.cells #[.bool false,.slice none 0 0] 118);have KA:=xh (m8 s (w.alloc (.cells #[.bool false,.slice none 0 0] 118)) hs);unfold nc bA;have O0:=xh O0;have B0:=xh B0;have hS:=(eH _).1 hq;have hm:=mc hS;have QA:=xh (kL hS);have hN:=cV s.data.toList;obtain⟨N,Ae⟩:∃N,bS s.data.toList 0=N:=⟨_,rfl⟩;unfold lX at KA
 rw[hq,pz,Ae]at KA;rw[pz,Ae]at hN;rw[pz]at hm QA;clear hS hq pz Ae;go_enter func122,ntmps122;go_wp2_with fail;refine KA.o.mono ?_;rintro e w1 ⟨v,rfl,bf,fr,hv⟩;have S1:aT w1 9 1 v N (strs []):=hv.elim (λh=>h.2) (λh=>absurd rfl h.1);have Da:∀x∈ai v,w.heap.size+1<=x:=λx hx=>by have:=fr x hx;rw[vZ]at this;exact this
 obtain⟨V1,tD,rfl⟩:=au S1;have O1:=xh (aB O0.o bf);have B1:=xh (B0.o.below bf B0.o.lt);have f0:w1.frozen? ⟨w.heap.size,0,none⟩=false:=B1.o.frozen 0 (by simp);have f1:w1.frozen? ⟨w.heap.size,1,none⟩=false:=B1.o.frozen 1 (by simp);have z0:w1.cell? ⟨w.heap.size,0,none⟩=some (.bool false):=B1.o.ab (i:=0) rfl;have z1:w1.cell? ⟨w.heap.size,1,none⟩=some (.slice none 0 0):=B1.o.ab (i:=1) rfl
 have BZ:=xh ((B1.o.bE 0 (.bool false)).bE 1 (.slice none 0 0));have OZ:=xh (((((ag.aj (S:=[]) O1.o).setCell (p:=⟨w.heap.size,0,none⟩) (λh=>absurd h (by simp)) (.bool false)).setCell (p:=⟨w.heap.size,1,none⟩) (λh=>absurd h (by simp)) (.slice none 0 0))).eo);clear fr bf hv;obtain rfl:N=0:=by simpa using hN.symm
 go_wp2_with fail;exact bodyPost_ret (fG rfl rfl BZ.o) rfl ⟨.inl ⟨by simp[iW],rfl⟩,OZ.o⟩
theorem got_odd(s:ByteArray)(w:World)(hs:s.size<=1000000)(hq:cu s.data.toList=0)(r0:List UInt8)(rest:List (List UInt8))(h1:¬r0=[1])(h2:¬r0=[2])(pz:cZ s.data.toList=r0::rest):
  Calls prog 122 #[.string s] w (nc (r0::rest) w):=by
 have B0:=aJ.new w 118 #[.bool false,.slice none 0 0];have O0:=ae (Below.refl w.heap.size w) (.cells #[.bool false,.slice none 0 0] 118);have KA:=xh (m8 s (w.alloc (.cells #[.bool false,.slice none 0 0] 118)) hs);unfold nc bA;have O0:=xh O0;have B0:=xh B0;have hS:=(eH _).1 hq;have hm:=mc hS;have QA:=xh (kL hS);have hN:=cV s.data.toList;obtain⟨N,Ae⟩:∃N,bS s.data.toList 0=N:=⟨_,rfl⟩;unfold lX at KA
 rw[hq,pz,Ae]at KA;rw[pz,Ae]at hN;rw[pz]at hm QA;clear hS hq pz Ae;go_enter func122,ntmps122;go_wp2_with fail;refine KA.o.mono ?_;rintro e w1 ⟨v,rfl,bf,fr,hv⟩;have S1:aT w1 9 1 v N (strs (r0::rest)):=hv.elim (λh=>h.2) (λh=>absurd rfl h.1);have Da:∀x∈ai v,w.heap.size+1<=x:=λx hx=>by have:=fr x hx;rw[vZ]at this;exact this
 obtain⟨V1,tD,rfl⟩:=au S1;have O1:=xh (aB O0.o bf);have B1:=xh (B0.o.below bf B0.o.lt);have f0:w1.frozen? ⟨w.heap.size,0,none⟩=false:=B1.o.frozen 0 (by simp);have f1:w1.frozen? ⟨w.heap.size,1,none⟩=false:=B1.o.frozen 1 (by simp);have z0:w1.cell? ⟨w.heap.size,0,none⟩=some (.bool false):=B1.o.ab (i:=0) rfl;have z1:w1.cell? ⟨w.heap.size,1,none⟩=some (.slice none 0 0):=B1.o.ab (i:=1) rfl
 have BZ:=xh ((B1.o.bE 0 (.bool false)).bE 1 (.slice none 0 0));have OZ:=xh (((((ag.aj (S:=[]) O1.o).setCell (p:=⟨w.heap.size,0,none⟩) (λh=>absurd h (by simp)) (.bool false)).setCell (p:=⟨w.heap.size,1,none⟩) (λh=>absurd h (by simp)) (.slice none 0 0))).eo);clear fr bf hv;obtain rfl:N=rest.length+1:=by simpa using hN.symm
 obtain⟨g,rfl,ck⟩:=lz S1 0 (by simp);have hgw:w.heap.size<g:=Da g (by simp[ai]);have hgl:g<w1.heap.size:=S1.lt g (by simp[ai]);have hwl1:=B1.o.lt;have QC:w1.cell? ⟨g,0,none⟩=some (.string ⟨r0.toArray⟩):=ck;have S1:=xh S1;have Lk:rest.length<=56:=tP hm;have vS:rest.length+1<=tD/\tD<=maxLen:=by
  obtain⟨r,_,h1,_,h2⟩:=S1.o.tx;simp at h1;exact⟨by first|omega|(simp;omega),h2⟩
 clear ck Da KA hN hm;obtain⟨K0,Fw⟩:∃K0:ByteArray,(⟨r0.toArray⟩:ByteArray)=K0:=⟨_,rfl⟩;rw[Fw]at QC;have Mh:K0.toList=r0:=by rw[cf,<-Fw]
 clear Fw;have n1:¬(rest.length:Int)+1=0:=by omega
 have n2:((rest.length:Int)+1==0)=false:=by simpa using n1
 rw[<-Mh]at h1 h2;have k1:(K0.toList==[1])=false:=by simpa using h1
 have k2:(K0.toList==[2])=false:=by simpa using h2
 have HNO:=xh (show ¬iW (r0::rest)from λhx=>by
  have:=hx.1;simp only[List.head?_cons,Option.some.injEq]at this;rw[<-Mh]at this;exact this.elim h1 h2)
 clear Mh;go_wp2_with fail;exact bodyPost_ret (fG rfl rfl BZ.o) rfl ⟨.inl ⟨HNO.o,rfl⟩,OZ.o⟩
theorem Fx(s:ByteArray)(w:World)(hs:s.size<=1000000)(hq:cu s.data.toList=0)(r0:List UInt8)(BU:r0=[1])(pz:cZ s.data.toList=[r0]):
  Calls prog 122 #[.string s] w (nc ([r0]) w):=by
 have B0:=aJ.new w 118 #[.bool false,.slice none 0 0];have O0:=ae (Below.refl w.heap.size w) (.cells #[.bool false,.slice none 0 0] 118);have KA:=xh (m8 s (w.alloc (.cells #[.bool false,.slice none 0 0] 118)) hs);unfold nc bA;have O0:=xh O0;have B0:=xh B0;have hS:=(eH _).1 hq;have hm:=mc hS;have QA:=xh (kL hS);have hN:=cV s.data.toList;obtain⟨N,Ae⟩:∃N,bS s.data.toList 0=N:=⟨_,rfl⟩;unfold lX at KA
 rw[hq,pz,Ae]at KA;rw[pz,Ae]at hN;rw[pz]at hm QA;clear hS hq pz Ae;go_enter func122,ntmps122;go_wp2_with fail;refine KA.o.mono ?_;rintro e w1 ⟨v,rfl,bf,fr,hv⟩;have S1:aT w1 9 1 v N (strs [r0]):=hv.elim (λh=>h.2) (λh=>absurd rfl h.1);have Da:∀x∈ai v,w.heap.size+1<=x:=λx hx=>by have:=fr x hx;rw[vZ]at this;exact this
 obtain⟨V1,tD,rfl⟩:=au S1;have O1:=xh (aB O0.o bf);have B1:=xh (B0.o.below bf B0.o.lt);have f0:w1.frozen? ⟨w.heap.size,0,none⟩=false:=B1.o.frozen 0 (by simp);have f1:w1.frozen? ⟨w.heap.size,1,none⟩=false:=B1.o.frozen 1 (by simp);have z0:w1.cell? ⟨w.heap.size,0,none⟩=some (.bool false):=B1.o.ab (i:=0) rfl;have z1:w1.cell? ⟨w.heap.size,1,none⟩=some (.slice none 0 0):=B1.o.ab (i:=1) rfl
 have BZ:=xh ((B1.o.bE 0 (.bool false)).bE 1 (.slice none 0 0));have OZ:=xh (((((ag.aj (S:=[]) O1.o).setCell (p:=⟨w.heap.size,0,none⟩) (λh=>absurd h (by simp)) (.bool false)).setCell (p:=⟨w.heap.size,1,none⟩) (λh=>absurd h (by simp)) (.slice none 0 0))).eo);clear fr bf hv;obtain rfl:N=([]:List (List UInt8)).length+1:=by simpa using hN.symm
 obtain⟨g,rfl,ck⟩:=lz S1 0 (by simp);have hgw:w.heap.size<g:=Da g (by simp[ai]);have hgl:g<w1.heap.size:=S1.lt g (by simp[ai]);have hwl1:=B1.o.lt;have QC:w1.cell? ⟨g,0,none⟩=some (.string ⟨r0.toArray⟩):=ck;have S1:=xh S1;have Lk:([]:List (List UInt8)).length<=56:=tP hm;have vS:([]:List (List UInt8)).length+1<=tD/\tD<=maxLen:=by
  obtain⟨r,_,h1,_,h2⟩:=S1.o.tx;simp at h1;exact⟨by first|omega|(simp;omega),h2⟩
 clear ck Da KA hN hm;obtain⟨K0,Fw⟩:∃K0:ByteArray,(⟨r0.toArray⟩:ByteArray)=K0:=⟨_,rfl⟩;rw[Fw]at QC;have Mh:K0.toList=r0:=by rw[cf,<-Fw]
 clear Fw;have hk:K0.toList=[1]:=by rw[Mh];exact BU
 have UT:=xh BU;have k1:(K0.toList==[1])=true:=by rw[hk];decide
 have k2:(K0.toList==[2])=false:=by rw[hk];decide
 have k3:K0.toList=[1]:=by rw[hk]
 clear Mh hk;have R0:=xh (show aJ (w1.alloc (.cells #[.bool true,.slice none 0 0] 118)) w1.heap.size 118 #[.bool true,.slice none 0 0]from aJ.new w1 _ _);have R2:=xh (B1.o.alloc (.cells #[.bool true,.slice none 0 0] 118));have RO:=xh (aB O1.o (ae (Below.refl _ _) (.cells #[.bool true,.slice none 0 0] 118)));have Mi:=xh (show m9 [r0]=true from by simp[m9,UT.o])
 have HM:=xh (show dN ([]:List E) true from λi hi=>absurd hi (j9 _));have Mj:=xh (show iW [r0]from⟨by rw[UT.o];simp,by simp,by rw[Mi.o];exact HM.o⟩)
 by_cases mQ:tD=1
 all_goals
  go_wp2_with fail;generalize hW6:(w1.alloc (.cells #[.bool true,.slice none 0 0] 118))=W6 at *;clear hW6 f0 f1 z0 z1 QC;have KM:=xh (ri (w:=W6) true none 0 0 [] (show oW W6 none 0 []from⟨rfl,λk e h=>by simp at h⟩) (by omega));unfold bA at KM
  go_loopw [46] (λiv wr=>iv=.int .i64 0/\wr=W6) (λ_ _=>0)
  case atStart=>exact⟨rfl,rfl⟩
  case round=>
   obtain⟨rfl,rfl⟩:=hrel;have d0:wr.cell? ⟨w1.heap.size,0,none⟩=some (.bool true):=R0.o.ab (i:=0) rfl;have d1:wr.cell? ⟨w1.heap.size,1,none⟩=some (.slice none 0 0):=R0.o.ab (i:=1) rfl;go_wp2_with fail;refine KM.o.mono ?_;rintro e' w2 ⟨⟨b,rfl,hb⟩,cA⟩;obtain rfl:=hb.2 HM.o;have CW:=R2.o.below cA R2.o.lt;have CN:=R0.o.below cA R0.o.lt;have f0:w2.frozen? ⟨w.heap.size,0,none⟩=false:=CW.frozen 0 (by simp)
   have f1:w2.frozen? ⟨w.heap.size,1,none⟩=false:=CW.frozen 1 (by simp);have z0:w2.cell? ⟨w.heap.size,0,none⟩=some (.bool false):=CW.ab (i:=0) rfl;have z1:w2.cell? ⟨w.heap.size,1,none⟩=some (.slice none 0 0):=CW.ab (i:=1) rfl;have y0:w2.cell? ⟨w1.heap.size,0,none⟩=some (.bool true):=CN.ab (i:=0) rfl;have y1:w2.cell? ⟨w1.heap.size,1,none⟩=some (.slice none 0 0):=CN.ab (i:=1) rfl;have UU:=R2.o.lt;have CX:=xh ((CW.bE 0 (.bool true)).bE 1 (.slice none 0 0))
   have OX:=xh ((((ag.aj (S:=[]) (aB RO.o cA)).setCell (p:=⟨w.heap.size,0,none⟩) (λh=>absurd h (by simp)) (.bool true)).setCell (p:=⟨w.heap.size,1,none⟩) (λh=>absurd h (by simp)) (.slice none 0 0)).eo);clear CW CN cA hb d0 d1;go_wp2_with fail;exact bodyPost_ret (fG rfl rfl CX.o) rfl ⟨.inr ⟨Mj.o,none,0,0,by rw[Mi.o];rfl,aT.nil _ _ _,xh (λx hx=>by simp[ai]at hx)⟩,OX.o⟩
theorem Ca(s:ByteArray)(w:World)(hs:s.size<=1000000)(hq:cu s.data.toList=0)(r0:List UInt8)(rest:List (List UInt8))(BU:r0=[1])(ff:rest≠[])(pz:cZ s.data.toList=r0::rest):
  Calls prog 122 #[.string s] w (nc (r0::rest) w):=by
 have B0:=aJ.new w 118 #[.bool false,.slice none 0 0];have O0:=ae (Below.refl w.heap.size w) (.cells #[.bool false,.slice none 0 0] 118);have KA:=xh (m8 s (w.alloc (.cells #[.bool false,.slice none 0 0] 118)) hs);unfold nc bA;have O0:=xh O0;have B0:=xh B0;have hS:=(eH _).1 hq;have hm:=mc hS;have QA:=xh (kL hS);have hN:=cV s.data.toList;obtain⟨N,Ae⟩:∃N,bS s.data.toList 0=N:=⟨_,rfl⟩;unfold lX at KA
 rw[hq,pz,Ae]at KA;rw[pz,Ae]at hN;rw[pz]at hm QA;clear hS hq pz Ae;go_enter func122,ntmps122;go_wp2_with fail;refine KA.o.mono ?_;rintro e w1 ⟨v,rfl,bf,fr,hv⟩;have S1:aT w1 9 1 v N (strs (r0::rest)):=hv.elim (λh=>h.2) (λh=>absurd rfl h.1);have Da:∀x∈ai v,w.heap.size+1<=x:=λx hx=>by have:=fr x hx;rw[vZ]at this;exact this
 obtain⟨V1,tD,rfl⟩:=au S1;have O1:=xh (aB O0.o bf);have B1:=xh (B0.o.below bf B0.o.lt);have f0:w1.frozen? ⟨w.heap.size,0,none⟩=false:=B1.o.frozen 0 (by simp);have f1:w1.frozen? ⟨w.heap.size,1,none⟩=false:=B1.o.frozen 1 (by simp);have z0:w1.cell? ⟨w.heap.size,0,none⟩=some (.bool false):=B1.o.ab (i:=0) rfl;have z1:w1.cell? ⟨w.heap.size,1,none⟩=some (.slice none 0 0):=B1.o.ab (i:=1) rfl
 have BZ:=xh ((B1.o.bE 0 (.bool false)).bE 1 (.slice none 0 0));have OZ:=xh (((((ag.aj (S:=[]) O1.o).setCell (p:=⟨w.heap.size,0,none⟩) (λh=>absurd h (by simp)) (.bool false)).setCell (p:=⟨w.heap.size,1,none⟩) (λh=>absurd h (by simp)) (.slice none 0 0))).eo);clear fr bf hv;obtain rfl:N=rest.length+1:=by simpa using hN.symm
 obtain⟨g,rfl,ck⟩:=lz S1 0 (by simp);have hgw:w.heap.size<g:=Da g (by simp[ai]);have hgl:g<w1.heap.size:=S1.lt g (by simp[ai]);have hwl1:=B1.o.lt;have QC:w1.cell? ⟨g,0,none⟩=some (.string ⟨r0.toArray⟩):=ck;have S1:=xh S1;have Lk:rest.length<=56:=tP hm;have vS:rest.length+1<=tD/\tD<=maxLen:=by
  obtain⟨r,_,h1,_,h2⟩:=S1.o.tx;simp at h1;exact⟨by first|omega|(simp;omega),h2⟩
 clear ck Da KA hN hm;obtain⟨K0,Fw⟩:∃K0:ByteArray,(⟨r0.toArray⟩:ByteArray)=K0:=⟨_,rfl⟩;rw[Fw]at QC;have Mh:K0.toList=r0:=by rw[cf,<-Fw]
 clear Fw;have hk:K0.toList=[1]:=by rw[Mh];exact BU
 have UT:=xh BU;have k1:(K0.toList==[1])=true:=by rw[hk];decide
 have k2:(K0.toList==[2])=false:=by rw[hk];decide
 have k3:K0.toList=[1]:=by rw[hk]
 clear Mh hk;have n1:¬(rest.length:Int)+1=0:=by omega
 have n2:((rest.length:Int)+1==0)=false:=by simpa using n1
 have mQ:¬tD=1:=λh=>by
  have:0<rest.length:=tL.2 ff;omega
 have R0:=xh (show aJ (w1.alloc (.cells #[.bool true,.slice none 0 0] 118)) w1.heap.size 118 #[.bool true,.slice none 0 0]from aJ.new w1 _ _);have R2:=xh (B1.o.alloc (.cells #[.bool true,.slice none 0 0] 118));have RS:=xh (S1.o.alloc (.cells #[.bool true,.slice none 0 0] 118));have RO:=xh (aB O1.o (ae (Below.refl _ _) (.cells #[.bool true,.slice none 0 0] 118)));go_wp2_with fail;generalize hW6:(w1.alloc (.cells #[.bool true,.slice none 0 0] 118))=W6 at *
 clear hW6 f0 f1 z0 z1 QC
 go_loopw [46] (λiv wr=> ∃(i:Nat) (v':Value),i<=rest.length/\iv=.int .i64 i/\aJ wr w1.heap.size 118 #[.bool true,v']/\aJ wr w.heap.size 118 #[.bool false,.slice none 0 0]/\aT wr 111 3 v' i (aH ((rest.take i).map λr=>il ⟨r.toArray⟩))/\aT wr 9 1 (.slice (some ⟨g,0,none⟩) (rest.length+1) tD) (rest.length+1) (strs (r0::rest))/\Hid (∀r∈rest.take i,iD ⟨r.toArray⟩)/\Below w.heap.size w wr/\Hid (∀x∈ai v',w1.heap.size+1<=x)) (λiv _=>rest.length-(intOf iv).toNat)
 case atStart=>exact⟨0,_,aY _,rfl,R0.o,R2.o,aT.nil _ _ _,RS.o,xh (by simp),RO.o,xh (λx hx=>by simp[ai]at hx)⟩
 case round=>
  obtain⟨i,v',hi,rfl,C6,C2,S,RS,EO,O,F⟩:=hrel;obtain⟨VA,vc,rfl⟩:=au S;have hltr:=C6.lt;have hg6:w1.heap.size∉ai (.slice VA i vc):=λhx=>by have:=F.o _ hx;omega
  have hg2:w.heap.size∉ai (.slice VA i vc):=λhx=>by have:=F.o _ hx;omega
  have Qw:g∉ai (.slice VA i vc):=λhx=>by have:=F.o _ hx;omega
  by_cases h:i<rest.length
  .obtain⟨g',hgx,ck⟩:=lz RS (i+1) (by simp;omega);simp only[Option.some.injEq,Addr.mk.injEq,and_true]at hgx;subst hgx;have hri:(r0::rest)[i+1]'(by simp;omega)=rest[i]:=JM ..;rw[hri]at ck;have pF:rest[i].length<=232:=QA.o _ (ax _ (jJ h));have HT:=xh (gC h);obtain⟨T,hT⟩:∃T:ByteArray,(⟨rest[i].toArray⟩:ByteArray)=T:=⟨_,rfl⟩;have hTs:T.size<=232:=by rw[<-hT,Sl.size_of_list];exact pF
   rw[hT]at ck;have HTT:=xh hT;have ck2:wr.cell? ((⟨g,1,none⟩:Addr).add i)=some (.string T):=by rw[fe,ym];exact ck
   have hiI:(i:Int)<(rest.length:Int):=by omega
   have ck3:wr.cell? ⟨g,1+i,none⟩=some (.string T):=by rw[ym];exact ck
   clear hT hri pF
   by_cases fu:iD T
   .have KE:=xh (λw=>Dd w T fu (by omega));have Jr:=xh fu;obtain⟨e,he⟩:∃e,il T=e:=⟨_,rfl⟩;rw[he]at KE;have HE:=xh he;have SL:=xh S;have CL:=xh C6;have Fy:=xh C2;have RL:=xh RS;have OL:=xh O;unfold E.agg at KE;clear fu he S C6 C2 RS O;go_wp2_with fail;refine(KE.o _).mono ?_;rintro e' w2 ⟨rfl,cA⟩
    obtain⟨v2,w3,ea,S3,ow,f3⟩:=sQ (P:=prog) ((SL.o.below cA).alloc (.cells #[.string e.key,.string e.val,.int .i64 e.aW] 111)) 108 108 (.agg #[.string .empty,.string .empty,.int .i64 0]) 40 underlying108 (by kernel_rfl) rfl e (by unfold maxLen;omega) (by omega);rw[vZ]at ea;obtain⟨V2,ix,rfl⟩:=au S3;have EA:=xh ea;have O2:=xh ((ag.aj (S:=ai (.slice VA i vc)) cA).alloc (.cells #[.string e.key,.string e.val,.int .i64 e.aW] 111))
    have OW:=O2.o.trans ow;have CW:=((CL.o.below cA CL.o.lt).alloc (.cells #[.string e.key,.string e.val,.int .i64 e.aW] 111)).only ow hg6;have c61:((w2.alloc (.cells #[.string e.key,.string e.val,.int .i64 e.aW] 111))).cell? ⟨w1.heap.size,1,none⟩=some (.slice VA i vc):=((CL.o.below cA CL.o.lt).alloc (.cells #[.string e.key,.string e.val,.int .i64 e.aW] 111)).ab (i:=1) rfl;have fz:w3.frozen? ⟨w1.heap.size,1,none⟩=false:=CW.frozen 1 (by simp)
    have cz:w3.cell? ⟨w1.heap.size,1,none⟩=some (.slice VA i vc):=CW.ab (i:=1) rfl;have hsz2:wr.heap.size<=w2.heap.size:=cA.size;have OX:=OW.mono (S':=w1.heap.size::ai (.slice VA i vc)) (λx hx _=>ax _ hx)|>.setCell (p:=⟨w1.heap.size,1,none⟩) (λ_=>by simp) (.slice V2 (i+1) ix);have CX:=xh (CW.bE 1 (.slice V2 (i+1) ix));have C2X:=xh (Fy.o.only OX (by simp;exact⟨by omega,hg2⟩))
    have RX:=xh (RL.o.only OX (λx hx=>by simp[ai]at hx;subst hx;simp;exact⟨by omega,Qw⟩));have oe:∀x∈ai (.slice V2 (i+1) ix),w1.heap.size+1<=x:=λx hx=>(f3 x hx).elim (F.o x) (λh=>by rw[vZ]at h;omega);have FX:=xh oe;have SX:=xh (S3.only ((ag.refl [w1.heap.size] w3).setCell (p:=⟨w1.heap.size,1,none⟩) (λ_=>by simp) (.slice V2 (i+1) ix)) (λx hx=>by have:=oe x hx;simp;omega))
    have OB:=xh (OL.o.trans (OX.aI OL.o.size (λx hx=>by
     rcases an.1 hx with rfl|hx
     .omega
     .have:=F.o x hx;omega)))
    have HSX:=xh (show aH ((rest.take (i+1)).map λr=>il ⟨r.toArray⟩)=aH ((rest.take i).map λr=>il ⟨r.toArray⟩)++e.cells from by
     rw[HT.o,dA,gl,fN,HTT.o,HE.o];simp[aH])
    have EX:=xh (show ∀r∈rest.take (i+1),iD ⟨r.toArray⟩from λr hr=>by
     rw[HT.o]at hr
     rcases aC.1 hr with hr|hr
     .exact EO.o r hr
     .simp only[aQ]at hr;rw[hr,HTT.o];exact Jr.o)
    clear ea S3 ow f3 OW CW OX oe cA;go_wp2_with fail;rw[EA.o];go_wp2_with fail;go_roundw
    case rel=>exact⟨i+1,_,by omega,by go_num,CX.o,C2X.o,by rw[HSX.o];exact SX.o,RX.o,EX,OB.o,FX⟩
    case measure=>simp[intOf];omega
   .have KE:=xh (λw=>Ii w T fu);have Jr:=xh fu;have HNO:=xh (show ¬iW (r0::rest)from λhx=>fu (by rw[<-HTT.o];exact hx.2.1 _ (by rw[j8];exact jJ h)));have Fy:=xh C2;have OL:=xh O;unfold E.agg E.zero at KE;clear fu S C6 C2 RS O;go_wp2_with fail;refine(KE.o _).mono ?_;rintro e' w2 ⟨rfl,cA⟩;have CW:=(Fy.o.below cA Fy.o.lt).alloc (.cells #[.string .empty,.string .empty,.int .i64 0] 111)
    have f0:(w2.alloc (.cells #[.string .empty,.string .empty,.int .i64 0] 111)).frozen? ⟨w.heap.size,0,none⟩=false:=CW.frozen 0 (by simp);have f1:(w2.alloc (.cells #[.string .empty,.string .empty,.int .i64 0] 111)).frozen? ⟨w.heap.size,1,none⟩=false:=CW.frozen 1 (by simp);have z0:(w2.alloc (.cells #[.string .empty,.string .empty,.int .i64 0] 111)).cell? ⟨w.heap.size,0,none⟩=some (.bool false):=CW.ab (i:=0) rfl
    have z1:(w2.alloc (.cells #[.string .empty,.string .empty,.int .i64 0] 111)).cell? ⟨w.heap.size,1,none⟩=some (.slice none 0 0):=CW.ab (i:=1) rfl;have CX:=xh ((CW.bE 0 (.bool false)).bE 1 (.slice none 0 0))
    have OX:=xh ((((ag.aj (S:=[]) (aB OL.o (ae cA (.cells #[.string .empty,.string .empty,.int .i64 0] 111)))).setCell (p:=⟨w.heap.size,0,none⟩) (λh=>absurd h (by simp)) (.bool false)).setCell (p:=⟨w.heap.size,1,none⟩) (λh=>absurd h (by simp)) (.slice none 0 0)).eo);have UU:=Fy.o.lt;clear CW cA;go_wp2_with fail;exact bodyPost_ret (fG rfl rfl CX.o) rfl ⟨.inl ⟨HNO.o,rfl⟩,OX.o⟩
  .obtain rfl:i=rest.length:=by omega
   rw[fw]at S EO;have HE:=xh (show lB (r0::rest)=rest.map λr=>il ⟨r.toArray⟩from rfl);have Mi:=xh (show m9 (r0::rest)=true from by simp[m9,UT.o]);rw[<-HE.o]at S;obtain⟨-,EN⟩:=aT.aH S;have KM:=xh (ri (w:=wr) true VA rest.length vc (lB (r0::rest)) EN (by omega))
   have HF:=xh (show(dN (lB (r0::rest)) true->iW (r0::rest))/\(iW (r0::rest)->dN (lB (r0::rest)) true)from⟨λhm=>⟨by rw[UT.o];simp,EO.o,by rw[Mi.o];exact hm⟩,λhx=>by have:=hx.2.2;rw[Mi.o]at this;exact this⟩);have d0:wr.cell? ⟨w1.heap.size,0,none⟩=some (.bool true):=C6.ab (i:=0) rfl;have d1:wr.cell? ⟨w1.heap.size,1,none⟩=some (.slice VA rest.length vc):=C6.ab (i:=1) rfl;have SL:=xh S;have CL:=xh C6;have Fy:=xh C2
   have OL:=xh O;unfold bA at KM;clear S C6 C2 RS O EN;go_wp2_with fail;refine KM.o.mono ?_;rintro e' w2 ⟨⟨b,rfl,hb⟩,cA⟩;have CW:=Fy.o.below cA Fy.o.lt;have CN:=CL.o.below cA CL.o.lt;have f0:w2.frozen? ⟨w.heap.size,0,none⟩=false:=CW.frozen 0 (by simp);have f1:w2.frozen? ⟨w.heap.size,1,none⟩=false:=CW.frozen 1 (by simp);have z0:w2.cell? ⟨w.heap.size,0,none⟩=some (.bool false):=CW.ab (i:=0) rfl
   have z1:w2.cell? ⟨w.heap.size,1,none⟩=some (.slice none 0 0):=CW.ab (i:=1) rfl;have y0:w2.cell? ⟨w1.heap.size,0,none⟩=some (.bool true):=CN.ab (i:=0) rfl;have y1:w2.cell? ⟨w1.heap.size,1,none⟩=some (.slice VA rest.length vc):=CN.ab (i:=1) rfl;have UU:=Fy.o.lt
   cases b
   .have HNO:=xh (show ¬iW (r0::rest)from λhx=>by have:=hb.2 (HF.o.2 hx);cases this);have CX:=xh ((CW.bE 0 (.bool false)).bE 1 (.slice none 0 0));have OX:=xh ((((ag.aj (S:=[]) (aB OL.o cA)).setCell (p:=⟨w.heap.size,0,none⟩) (λh=>absurd h (by simp)) (.bool false)).setCell (p:=⟨w.heap.size,1,none⟩) (λh=>absurd h (by simp)) (.slice none 0 0)).eo);clear CW CN cA hb d0 d1;go_wp2_with fail
    exact bodyPost_ret (fG rfl rfl CX.o) rfl ⟨.inl ⟨HNO.o,rfl⟩,OX.o⟩
   .have Mj:=xh (HF.o.1 (hb.1 rfl));have CX:=xh ((CW.bE 0 (.bool true)).bE 1 (.slice VA rest.length vc));have OX:=xh ((((ag.aj (S:=[]) (aB OL.o cA)).setCell (p:=⟨w.heap.size,0,none⟩) (λh=>absurd h (by simp)) (.bool true)).setCell (p:=⟨w.heap.size,1,none⟩) (λh=>absurd h (by simp)) (.slice VA rest.length vc)).eo)
    have SX:=xh ((SL.o.below cA).only (((ag.refl [w.heap.size] w2).setCell (p:=⟨w.heap.size,0,none⟩) (λ_=>by simp) (.bool true)).setCell (p:=⟨w.heap.size,1,none⟩) (λ_=>by simp) (.slice VA rest.length vc)) (λx hx=>by simp;exact λhxx=>hg2 (hxx▸hx)));clear CW CN cA hb d0 d1;go_wp2_with fail;exact bodyPost_ret (fG rfl rfl CX.o) rfl ⟨.inr (⟨Mj.o,VA,rest.length,vc,by rw[Mi.o];rfl,SX.o,xh (λx hx=>by have:=F.o x hx;omega)⟩),OX.o⟩
theorem Cb(s:ByteArray)(w:World)(hs:s.size<=1000000)(hq:cu s.data.toList=0)(r0:List UInt8)(BU:r0=[2])(pz:cZ s.data.toList=[r0]):
  Calls prog 122 #[.string s] w (nc ([r0]) w):=by
 have B0:=aJ.new w 118 #[.bool false,.slice none 0 0];have O0:=ae (Below.refl w.heap.size w) (.cells #[.bool false,.slice none 0 0] 118);have KA:=xh (m8 s (w.alloc (.cells #[.bool false,.slice none 0 0] 118)) hs);unfold nc bA;have O0:=xh O0;have B0:=xh B0;have hS:=(eH _).1 hq;have hm:=mc hS;have QA:=xh (kL hS);have hN:=cV s.data.toList;obtain⟨N,Ae⟩:∃N,bS s.data.toList 0=N:=⟨_,rfl⟩;unfold lX at KA
 rw[hq,pz,Ae]at KA;rw[pz,Ae]at hN;rw[pz]at hm QA;clear hS hq pz Ae;go_enter func122,ntmps122;go_wp2_with fail;refine KA.o.mono ?_;rintro e w1 ⟨v,rfl,bf,fr,hv⟩;have S1:aT w1 9 1 v N (strs [r0]):=hv.elim (λh=>h.2) (λh=>absurd rfl h.1);have Da:∀x∈ai v,w.heap.size+1<=x:=λx hx=>by have:=fr x hx;rw[vZ]at this;exact this
 obtain⟨V1,tD,rfl⟩:=au S1;have O1:=xh (aB O0.o bf);have B1:=xh (B0.o.below bf B0.o.lt);have f0:w1.frozen? ⟨w.heap.size,0,none⟩=false:=B1.o.frozen 0 (by simp);have f1:w1.frozen? ⟨w.heap.size,1,none⟩=false:=B1.o.frozen 1 (by simp);have z0:w1.cell? ⟨w.heap.size,0,none⟩=some (.bool false):=B1.o.ab (i:=0) rfl;have z1:w1.cell? ⟨w.heap.size,1,none⟩=some (.slice none 0 0):=B1.o.ab (i:=1) rfl
 have BZ:=xh ((B1.o.bE 0 (.bool false)).bE 1 (.slice none 0 0));have OZ:=xh (((((ag.aj (S:=[]) O1.o).setCell (p:=⟨w.heap.size,0,none⟩) (λh=>absurd h (by simp)) (.bool false)).setCell (p:=⟨w.heap.size,1,none⟩) (λh=>absurd h (by simp)) (.slice none 0 0))).eo);clear fr bf hv;obtain rfl:N=([]:List (List UInt8)).length+1:=by simpa using hN.symm
 obtain⟨g,rfl,ck⟩:=lz S1 0 (by simp);have hgw:w.heap.size<g:=Da g (by simp[ai]);have hgl:g<w1.heap.size:=S1.lt g (by simp[ai]);have hwl1:=B1.o.lt;have QC:w1.cell? ⟨g,0,none⟩=some (.string ⟨r0.toArray⟩):=ck;have S1:=xh S1;have Lk:([]:List (List UInt8)).length<=56:=tP hm;have vS:([]:List (List UInt8)).length+1<=tD/\tD<=maxLen:=by
  obtain⟨r,_,h1,_,h2⟩:=S1.o.tx;simp at h1;exact⟨by first|omega|(simp;omega),h2⟩
 clear ck Da KA hN hm;obtain⟨K0,Fw⟩:∃K0:ByteArray,(⟨r0.toArray⟩:ByteArray)=K0:=⟨_,rfl⟩;rw[Fw]at QC;have Mh:K0.toList=r0:=by rw[cf,<-Fw]
 clear Fw;have hk:K0.toList=[2]:=by rw[Mh];exact BU
 have UT:=xh BU;have k1:(K0.toList==[1])=false:=by rw[hk];decide
 have k2:(K0.toList==[2])=true:=by rw[hk];decide
 have k3:¬K0.toList=[1]:=by rw[hk];decide
 clear Mh hk;have R0:=xh (show aJ (w1.alloc (.cells #[.bool false,.slice none 0 0] 118)) w1.heap.size 118 #[.bool false,.slice none 0 0]from aJ.new w1 _ _);have R2:=xh (B1.o.alloc (.cells #[.bool false,.slice none 0 0] 118));have RO:=xh (aB O1.o (ae (Below.refl _ _) (.cells #[.bool false,.slice none 0 0] 118)));have Mi:=xh (show m9 [r0]=false from by simp[m9,UT.o])
 have HM:=xh (show dN ([]:List E) false from λi hi=>absurd hi (j9 _));have Mj:=xh (show iW [r0]from⟨by rw[UT.o];simp,by simp,by rw[Mi.o];exact HM.o⟩)
 by_cases mQ:tD=1
 all_goals
  go_wp2_with fail;generalize hW6:(w1.alloc (.cells #[.bool false,.slice none 0 0] 118))=W6 at *;clear hW6 f0 f1 z0 z1 QC;have KM:=xh (ri (w:=W6) false none 0 0 [] (show oW W6 none 0 []from⟨rfl,λk e h=>by simp at h⟩) (by omega));unfold bA at KM
  go_loopw [46] (λiv wr=>iv=.int .i64 0/\wr=W6) (λ_ _=>0)
  case atStart=>exact⟨rfl,rfl⟩
  case round=>
   obtain⟨rfl,rfl⟩:=hrel;have d0:wr.cell? ⟨w1.heap.size,0,none⟩=some (.bool false):=R0.o.ab (i:=0) rfl;have d1:wr.cell? ⟨w1.heap.size,1,none⟩=some (.slice none 0 0):=R0.o.ab (i:=1) rfl;go_wp2_with fail;refine KM.o.mono ?_;rintro e' w2 ⟨⟨b,rfl,hb⟩,cA⟩;obtain rfl:=hb.2 HM.o;have CW:=R2.o.below cA R2.o.lt;have CN:=R0.o.below cA R0.o.lt;have f0:w2.frozen? ⟨w.heap.size,0,none⟩=false:=CW.frozen 0 (by simp)
   have f1:w2.frozen? ⟨w.heap.size,1,none⟩=false:=CW.frozen 1 (by simp);have z0:w2.cell? ⟨w.heap.size,0,none⟩=some (.bool false):=CW.ab (i:=0) rfl;have z1:w2.cell? ⟨w.heap.size,1,none⟩=some (.slice none 0 0):=CW.ab (i:=1) rfl;have y0:w2.cell? ⟨w1.heap.size,0,none⟩=some (.bool false):=CN.ab (i:=0) rfl;have y1:w2.cell? ⟨w1.heap.size,1,none⟩=some (.slice none 0 0):=CN.ab (i:=1) rfl;have UU:=R2.o.lt;have CX:=xh ((CW.bE 0 (.bool false)).bE 1 (.slice none 0 0))
   have OX:=xh ((((ag.aj (S:=[]) (aB RO.o cA)).setCell (p:=⟨w.heap.size,0,none⟩) (λh=>absurd h (by simp)) (.bool false)).setCell (p:=⟨w.heap.size,1,none⟩) (λh=>absurd h (by simp)) (.slice none 0 0)).eo);clear CW CN cA hb d0 d1;go_wp2_with fail;exact bodyPost_ret (fG rfl rfl CX.o) rfl ⟨.inr ⟨Mj.o,none,0,0,by rw[Mi.o];rfl,aT.nil _ _ _,xh (λx hx=>by simp[ai]at hx)⟩,OX.o⟩
theorem Af(s:ByteArray)(w:World)(hs:s.size<=1000000)(hq:cu s.data.toList=0)(r0:List UInt8)(rest:List (List UInt8))(BU:r0=[2])(ff:rest≠[])(pz:cZ s.data.toList=r0::rest):
  Calls prog 122 #[.string s] w (nc (r0::rest) w):=by
 have B0:=aJ.new w 118 #[.bool false,.slice none 0 0];have O0:=ae (Below.refl w.heap.size w) (.cells #[.bool false,.slice none 0 0] 118);have KA:=xh (m8 s (w.alloc (.cells #[.bool false,.slice none 0 0] 118)) hs);unfold nc bA;have O0:=xh O0;have B0:=xh B0;have hS:=(eH _).1 hq;have hm:=mc hS;have QA:=xh (kL hS);have hN:=cV s.data.toList;obtain⟨N,Ae⟩:∃N,bS s.data.toList 0=N:=⟨_,rfl⟩;unfold lX at KA
 rw[hq,pz,Ae]at KA;rw[pz,Ae]at hN;rw[pz]at hm QA;clear hS hq pz Ae;go_enter func122,ntmps122;go_wp2_with fail;refine KA.o.mono ?_;rintro e w1 ⟨v,rfl,bf,fr,hv⟩;have S1:aT w1 9 1 v N (strs (r0::rest)):=hv.elim (λh=>h.2) (λh=>absurd rfl h.1);have Da:∀x∈ai v,w.heap.size+1<=x:=λx hx=>by have:=fr x hx;rw[vZ]at this;exact this
 obtain⟨V1,tD,rfl⟩:=au S1;have O1:=xh (aB O0.o bf);have B1:=xh (B0.o.below bf B0.o.lt);have f0:w1.frozen? ⟨w.heap.size,0,none⟩=false:=B1.o.frozen 0 (by simp);have f1:w1.frozen? ⟨w.heap.size,1,none⟩=false:=B1.o.frozen 1 (by simp);have z0:w1.cell? ⟨w.heap.size,0,none⟩=some (.bool false):=B1.o.ab (i:=0) rfl;have z1:w1.cell? ⟨w.heap.size,1,none⟩=some (.slice none 0 0):=B1.o.ab (i:=1) rfl
 have BZ:=xh ((B1.o.bE 0 (.bool false)).bE 1 (.slice none 0 0));have OZ:=xh (((((ag.aj (S:=[]) O1.o).setCell (p:=⟨w.heap.size,0,none⟩) (λh=>absurd h (by simp)) (.bool false)).setCell (p:=⟨w.heap.size,1,none⟩) (λh=>absurd h (by simp)) (.slice none 0 0))).eo);clear fr bf hv;obtain rfl:N=rest.length+1:=by simpa using hN.symm
 obtain⟨g,rfl,ck⟩:=lz S1 0 (by simp);have hgw:w.heap.size<g:=Da g (by simp[ai]);have hgl:g<w1.heap.size:=S1.lt g (by simp[ai]);have hwl1:=B1.o.lt;have QC:w1.cell? ⟨g,0,none⟩=some (.string ⟨r0.toArray⟩):=ck;have S1:=xh S1;have Lk:rest.length<=56:=tP hm;have vS:rest.length+1<=tD/\tD<=maxLen:=by
  obtain⟨r,_,h1,_,h2⟩:=S1.o.tx;simp at h1;exact⟨by first|omega|(simp;omega),h2⟩
 clear ck Da KA hN hm;obtain⟨K0,Fw⟩:∃K0:ByteArray,(⟨r0.toArray⟩:ByteArray)=K0:=⟨_,rfl⟩;rw[Fw]at QC;have Mh:K0.toList=r0:=by rw[cf,<-Fw]
 clear Fw;have hk:K0.toList=[2]:=by rw[Mh];exact BU
 have UT:=xh BU;have k1:(K0.toList==[1])=false:=by rw[hk];decide
 have k2:(K0.toList==[2])=true:=by rw[hk];decide
 have k3:¬K0.toList=[1]:=by rw[hk];decide
 clear Mh hk;have n1:¬(rest.length:Int)+1=0:=by omega
 have n2:((rest.length:Int)+1==0)=false:=by simpa using n1
 have mQ:¬tD=1:=λh=>by
  have:0<rest.length:=tL.2 ff;omega
 have R0:=xh (show aJ (w1.alloc (.cells #[.bool false,.slice none 0 0] 118)) w1.heap.size 118 #[.bool false,.slice none 0 0]from aJ.new w1 _ _);have R2:=xh (B1.o.alloc (.cells #[.bool false,.slice none 0 0] 118));have RS:=xh (S1.o.alloc (.cells #[.bool false,.slice none 0 0] 118));have RO:=xh (aB O1.o (ae (Below.refl _ _) (.cells #[.bool false,.slice none 0 0] 118)));go_wp2_with fail
 generalize hW6:(w1.alloc (.cells #[.bool false,.slice none 0 0] 118))=W6 at *;clear hW6 f0 f1 z0 z1 QC
 go_loopw [46] (λiv wr=> ∃(i:Nat) (v':Value),i<=rest.length/\iv=.int .i64 i/\aJ wr w1.heap.size 118 #[.bool false,v']/\aJ wr w.heap.size 118 #[.bool false,.slice none 0 0]/\aT wr 111 3 v' i (aH ((rest.take i).map λr=>il ⟨r.toArray⟩))/\aT wr 9 1 (.slice (some ⟨g,0,none⟩) (rest.length+1) tD) (rest.length+1) (strs (r0::rest))/\Hid (∀r∈rest.take i,iD ⟨r.toArray⟩)/\Below w.heap.size w wr/\Hid (∀x∈ai v',w1.heap.size+1<=x)) (λiv _=>rest.length-(intOf iv).toNat)
 case atStart=>exact⟨0,_,aY _,rfl,R0.o,R2.o,aT.nil _ _ _,RS.o,xh (by simp),RO.o,xh (λx hx=>by simp[ai]at hx)⟩
 case round=>
  obtain⟨i,v',hi,rfl,C6,C2,S,RS,EO,O,F⟩:=hrel;obtain⟨VA,vc,rfl⟩:=au S;have hltr:=C6.lt;have hg6:w1.heap.size∉ai (.slice VA i vc):=λhx=>by have:=F.o _ hx;omega
  have hg2:w.heap.size∉ai (.slice VA i vc):=λhx=>by have:=F.o _ hx;omega
  have Qw:g∉ai (.slice VA i vc):=λhx=>by have:=F.o _ hx;omega
  by_cases h:i<rest.length
  .obtain⟨g',hgx,ck⟩:=lz RS (i+1) (by simp;omega);simp only[Option.some.injEq,Addr.mk.injEq,and_true]at hgx;subst hgx;have hri:(r0::rest)[i+1]'(by simp;omega)=rest[i]:=JM ..;rw[hri]at ck;have pF:rest[i].length<=232:=QA.o _ (ax _ (jJ h));have HT:=xh (gC h);obtain⟨T,hT⟩:∃T:ByteArray,(⟨rest[i].toArray⟩:ByteArray)=T:=⟨_,rfl⟩;have hTs:T.size<=232:=by rw[<-hT,Sl.size_of_list];exact pF
   rw[hT]at ck;have HTT:=xh hT;have ck2:wr.cell? ((⟨g,1,none⟩:Addr).add i)=some (.string T):=by rw[fe,ym];exact ck
   have hiI:(i:Int)<(rest.length:Int):=by omega
   have ck3:wr.cell? ⟨g,1+i,none⟩=some (.string T):=by rw[ym];exact ck
   clear hT hri pF
   by_cases fu:iD T
   .have KE:=xh (λw=>Dd w T fu (by omega));have Jr:=xh fu;obtain⟨e,he⟩:∃e,il T=e:=⟨_,rfl⟩;rw[he]at KE;have HE:=xh he;have SL:=xh S;have CL:=xh C6;have Fy:=xh C2;have RL:=xh RS;have OL:=xh O;unfold E.agg at KE;clear fu he S C6 C2 RS O;go_wp2_with fail;refine(KE.o _).mono ?_;rintro e' w2 ⟨rfl,cA⟩
    obtain⟨v2,w3,ea,S3,ow,f3⟩:=sQ (P:=prog) ((SL.o.below cA).alloc (.cells #[.string e.key,.string e.val,.int .i64 e.aW] 111)) 108 108 (.agg #[.string .empty,.string .empty,.int .i64 0]) 40 underlying108 (by kernel_rfl) rfl e (by unfold maxLen;omega) (by omega);rw[vZ]at ea;obtain⟨V2,ix,rfl⟩:=au S3;have EA:=xh ea;have O2:=xh ((ag.aj (S:=ai (.slice VA i vc)) cA).alloc (.cells #[.string e.key,.string e.val,.int .i64 e.aW] 111))
    have OW:=O2.o.trans ow;have CW:=((CL.o.below cA CL.o.lt).alloc (.cells #[.string e.key,.string e.val,.int .i64 e.aW] 111)).only ow hg6;have c61:((w2.alloc (.cells #[.string e.key,.string e.val,.int .i64 e.aW] 111))).cell? ⟨w1.heap.size,1,none⟩=some (.slice VA i vc):=((CL.o.below cA CL.o.lt).alloc (.cells #[.string e.key,.string e.val,.int .i64 e.aW] 111)).ab (i:=1) rfl;have fz:w3.frozen? ⟨w1.heap.size,1,none⟩=false:=CW.frozen 1 (by simp)
    have cz:w3.cell? ⟨w1.heap.size,1,none⟩=some (.slice VA i vc):=CW.ab (i:=1) rfl;have hsz2:wr.heap.size<=w2.heap.size:=cA.size;have OX:=OW.mono (S':=w1.heap.size::ai (.slice VA i vc)) (λx hx _=>ax _ hx)|>.setCell (p:=⟨w1.heap.size,1,none⟩) (λ_=>by simp) (.slice V2 (i+1) ix);have CX:=xh (CW.bE 1 (.slice V2 (i+1) ix));have C2X:=xh (Fy.o.only OX (by simp;exact⟨by omega,hg2⟩))
    have RX:=xh (RL.o.only OX (λx hx=>by simp[ai]at hx;subst hx;simp;exact⟨by omega,Qw⟩));have oe:∀x∈ai (.slice V2 (i+1) ix),w1.heap.size+1<=x:=λx hx=>(f3 x hx).elim (F.o x) (λh=>by rw[vZ]at h;omega);have FX:=xh oe;have SX:=xh (S3.only ((ag.refl [w1.heap.size] w3).setCell (p:=⟨w1.heap.size,1,none⟩) (λ_=>by simp) (.slice V2 (i+1) ix)) (λx hx=>by have:=oe x hx;simp;omega))
    have OB:=xh (OL.o.trans (OX.aI OL.o.size (λx hx=>by
     rcases an.1 hx with rfl|hx
     .omega
     .have:=F.o x hx;omega)))
    have HSX:=xh (show aH ((rest.take (i+1)).map λr=>il ⟨r.toArray⟩)=aH ((rest.take i).map λr=>il ⟨r.toArray⟩)++e.cells from by
     rw[HT.o,dA,gl,fN,HTT.o,HE.o];simp[aH])
    have EX:=xh (show ∀r∈rest.take (i+1),iD ⟨r.toArray⟩from λr hr=>by
     rw[HT.o]at hr
     rcases aC.1 hr with hr|hr
     .exact EO.o r hr
     .simp only[aQ]at hr;rw[hr,HTT.o];exact Jr.o)
    clear ea S3 ow f3 OW CW OX oe cA;go_wp2_with fail;rw[EA.o];go_wp2_with fail;go_roundw
    case rel=>exact⟨i+1,_,by omega,by go_num,CX.o,C2X.o,by rw[HSX.o];exact SX.o,RX.o,EX,OB.o,FX⟩
    case measure=>simp[intOf];omega
   .have KE:=xh (λw=>Ii w T fu);have Jr:=xh fu;have HNO:=xh (show ¬iW (r0::rest)from λhx=>fu (by rw[<-HTT.o];exact hx.2.1 _ (by rw[j8];exact jJ h)));have Fy:=xh C2;have OL:=xh O;unfold E.agg E.zero at KE;clear fu S C6 C2 RS O;go_wp2_with fail;refine(KE.o _).mono ?_;rintro e' w2 ⟨rfl,cA⟩;have CW:=(Fy.o.below cA Fy.o.lt).alloc (.cells #[.string .empty,.string .empty,.int .i64 0] 111)
    have f0:(w2.alloc (.cells #[.string .empty,.string .empty,.int .i64 0] 111)).frozen? ⟨w.heap.size,0,none⟩=false:=CW.frozen 0 (by simp);have f1:(w2.alloc (.cells #[.string .empty,.string .empty,.int .i64 0] 111)).frozen? ⟨w.heap.size,1,none⟩=false:=CW.frozen 1 (by simp);have z0:(w2.alloc (.cells #[.string .empty,.string .empty,.int .i64 0] 111)).cell? ⟨w.heap.size,0,none⟩=some (.bool false):=CW.ab (i:=0) rfl
    have z1:(w2.alloc (.cells #[.string .empty,.string .empty,.int .i64 0] 111)).cell? ⟨w.heap.size,1,none⟩=some (.slice none 0 0):=CW.ab (i:=1) rfl;have CX:=xh ((CW.bE 0 (.bool false)).bE 1 (.slice none 0 0))
    have OX:=xh ((((ag.aj (S:=[]) (aB OL.o (ae cA (.cells #[.string .empty,.string .empty,.int .i64 0] 111)))).setCell (p:=⟨w.heap.size,0,none⟩) (λh=>absurd h (by simp)) (.bool false)).setCell (p:=⟨w.heap.size,1,none⟩) (λh=>absurd h (by simp)) (.slice none 0 0)).eo);have UU:=Fy.o.lt;clear CW cA;go_wp2_with fail;exact bodyPost_ret (fG rfl rfl CX.o) rfl ⟨.inl ⟨HNO.o,rfl⟩,OX.o⟩
  .obtain rfl:i=rest.length:=by omega
   rw[fw]at S EO;have HE:=xh (show lB (r0::rest)=rest.map λr=>il ⟨r.toArray⟩from rfl);have Mi:=xh (show m9 (r0::rest)=false from by simp[m9,UT.o]);rw[<-HE.o]at S;obtain⟨-,EN⟩:=aT.aH S;have KM:=xh (ri (w:=wr) false VA rest.length vc (lB (r0::rest)) EN (by omega))
   have HF:=xh (show(dN (lB (r0::rest)) false->iW (r0::rest))/\(iW (r0::rest)->dN (lB (r0::rest)) false)from⟨λhm=>⟨by rw[UT.o];simp,EO.o,by rw[Mi.o];exact hm⟩,λhx=>by have:=hx.2.2;rw[Mi.o]at this;exact this⟩);have d0:wr.cell? ⟨w1.heap.size,0,none⟩=some (.bool false):=C6.ab (i:=0) rfl;have d1:wr.cell? ⟨w1.heap.size,1,none⟩=some (.slice VA rest.length vc):=C6.ab (i:=1) rfl;have SL:=xh S;have CL:=xh C6;have Fy:=xh C2
   have OL:=xh O;unfold bA at KM;clear S C6 C2 RS O EN;go_wp2_with fail;refine KM.o.mono ?_;rintro e' w2 ⟨⟨b,rfl,hb⟩,cA⟩;have CW:=Fy.o.below cA Fy.o.lt;have CN:=CL.o.below cA CL.o.lt;have f0:w2.frozen? ⟨w.heap.size,0,none⟩=false:=CW.frozen 0 (by simp);have f1:w2.frozen? ⟨w.heap.size,1,none⟩=false:=CW.frozen 1 (by simp);have z0:w2.cell? ⟨w.heap.size,0,none⟩=some (.bool false):=CW.ab (i:=0) rfl
   have z1:w2.cell? ⟨w.heap.size,1,none⟩=some (.slice none 0 0):=CW.ab (i:=1) rfl;have y0:w2.cell? ⟨w1.heap.size,0,none⟩=some (.bool false):=CN.ab (i:=0) rfl;have y1:w2.cell? ⟨w1.heap.size,1,none⟩=some (.slice VA rest.length vc):=CN.ab (i:=1) rfl;have UU:=Fy.o.lt
   cases b
   .have HNO:=xh (show ¬iW (r0::rest)from λhx=>by have:=hb.2 (HF.o.2 hx);cases this);have CX:=xh ((CW.bE 0 (.bool false)).bE 1 (.slice none 0 0));have OX:=xh ((((ag.aj (S:=[]) (aB OL.o cA)).setCell (p:=⟨w.heap.size,0,none⟩) (λh=>absurd h (by simp)) (.bool false)).setCell (p:=⟨w.heap.size,1,none⟩) (λh=>absurd h (by simp)) (.slice none 0 0)).eo);clear CW CN cA hb d0 d1;go_wp2_with fail
    exact bodyPost_ret (fG rfl rfl CX.o) rfl ⟨.inl ⟨HNO.o,rfl⟩,OX.o⟩
   .have Mj:=xh (HF.o.1 (hb.1 rfl));have CX:=xh ((CW.bE 0 (.bool false)).bE 1 (.slice VA rest.length vc));have OX:=xh ((((ag.aj (S:=[]) (aB OL.o cA)).setCell (p:=⟨w.heap.size,0,none⟩) (λh=>absurd h (by simp)) (.bool false)).setCell (p:=⟨w.heap.size,1,none⟩) (λh=>absurd h (by simp)) (.slice VA rest.length vc)).eo)
    have SX:=xh ((SL.o.below cA).only (((ag.refl [w.heap.size] w2).setCell (p:=⟨w.heap.size,0,none⟩) (λ_=>by simp) (.bool false)).setCell (p:=⟨w.heap.size,1,none⟩) (λ_=>by simp) (.slice VA rest.length vc)) (λx hx=>by simp;exact λhxx=>hg2 (hxx▸hx)));clear CW CN cA hb d0 d1;go_wp2_with fail;exact bodyPost_ret (fG rfl rfl CX.o) rfl ⟨.inr (⟨Mj.o,VA,rest.length,vc,by rw[Mi.o];rfl,SX.o,xh (λx hx=>by have:=F.o x hx;omega)⟩),OX.o⟩
def Fz(s:ByteArray)(w:World)(e:Ending)(w':World):Prop:=
 (cu s.data.toList≠0/\e=.returned (.tuple #[bA false none 0 0,.int .i64 (cu s.data.toList)])/\Below w.heap.size w w')\/(cu s.data.toList=0/\nc (cZ s.data.toList) w e w')
theorem got_any(s:ByteArray)(w:World)(hs:s.size<=1000000):
  Calls prog 122 #[.string s] w (Fz s w):=by
 by_cases hq:cu s.data.toList=0
 .have lift:∀{rs},cZ s.data.toList=rs->Calls prog 122 #[.string s] w (nc rs w)->Calls prog 122 #[.string s] w (Fz s w):=λh k=>k.mono λe w' h2=> .inr ⟨hq,by rw[h];exact h2⟩
  match pz:cZ s.data.toList with
  |[]=>exact lift pz (got_nil s w hs hq pz)
  |r0::rest=>
   refine lift pz ?_
   by_cases h1:r0=[1]
   .by_cases ff:rest=[]
    .subst ff;exact Fx s w hs hq r0 h1 pz
    .exact Ca s w hs hq r0 rest h1 ff pz
   .by_cases h2:r0=[2]
    .by_cases ff:rest=[]
     .subst ff;exact Cb s w hs hq r0 h2 pz
     .exact Af s w hs hq r0 rest h2 ff pz
    .exact got_odd s w hs hq r0 rest h1 h2 pz
 .have HQ:=xh hq;have B0:=aJ.new w 118 #[.bool false,.slice none 0 0];have O0:=ae (Below.refl w.heap.size w) (.cells #[.bool false,.slice none 0 0] 118);have KA:=xh (m8 s (w.alloc (.cells #[.bool false,.slice none 0 0] 118)) hs);unfold Fz bA;have O0:=xh O0;have B0:=xh B0;unfold lX at KA;generalize cu s.data.toList=q at *;go_enter func122,ntmps122;go_wp2_with fail;refine KA.o.mono ?_;rintro e w1 ⟨v,rfl,bf,fr,hv⟩
  rcases hv with⟨h0,-⟩|⟨-,rfl⟩
  .exact absurd h0 hq
  have O1:=xh (aB O0.o bf);have B1:=xh (B0.o.below bf B0.o.lt);have f0:w1.frozen? ⟨w.heap.size,0,none⟩=false:=B1.o.frozen 0 (by simp);have f1:w1.frozen? ⟨w.heap.size,1,none⟩=false:=B1.o.frozen 1 (by simp);have z0:w1.cell? ⟨w.heap.size,0,none⟩=some (.bool false):=B1.o.ab (i:=0) rfl;have z1:w1.cell? ⟨w.heap.size,1,none⟩=some (.slice none 0 0):=B1.o.ab (i:=1) rfl;have BZ:=xh ((B1.o.bE 0 (.bool false)).bE 1 (.slice none 0 0))
  have OZ:=xh (((((ag.aj (S:=[]) O1.o).setCell (p:=⟨w.heap.size,0,none⟩) (λh=>absurd h (by simp)) (.bool false)).setCell (p:=⟨w.heap.size,1,none⟩) (λh=>absurd h (by simp)) (.slice none 0 0))).eo);have q2:(q==0)=false:=by simpa using hq
  clear fr bf KA;go_wp2_with fail;exact bodyPost_ret (fG rfl rfl BZ.o) rfl (.inl ⟨HQ.o,rfl,OZ.o⟩)
end Nd
namespace Nd
open Go.RowKit Sl
variable{l:List E}{leaf:Bool}
theorem rj(e:E):(uG e).data.toList=qm e:=by simp[uG]
theorem QD(e:E):(qm e).drop 1=e.key.data.toList++(eS (e.aW+1).toNat++e.val.data.toList):=rfl
theorem Ag(e:E)(h:e.key.size<=32):mG (uG e)=e.key.size:=by
 unfold mG;rw[rj];show(UInt8.ofNat e.key.size).toNat=e.key.size;rw[je];omega
theorem Dg(e:E):(uG e).size=3+e.key.size+e.val.size:=by
 unfold uG;rw[Sl.size_of_list,qo]
theorem Ik(e:E)(h:e.key.size<=32):iD (uG e):=by
 unfold iD;rw[Ag e h,Dg];omega
theorem keyL(e:E):e.key.data.toList.length=e.key.size:=by simp
theorem Mk(e:E)(h:e.key.size<=32)(h1: -1<=e.aW)(h2:e.aW<=511):il (uG e)=e:=by
 obtain⟨m,hm⟩:=eT (show 0<=e.aW+1 by omega);have hk:=keyL e;have hd:=QD e;have d2:(qm e).drop (1+e.key.size)=eS (e.aW+1).toNat++e.val.data.toList:=by
  rw[<-iK,hd,r9 (by omega),<-hk,JG,cW]
 have d3:(qm e).drop (3+e.key.size)=e.val.data.toList:=by
  rw[show 3+e.key.size=(1+e.key.size)+2 by omega,<-iK,d2];rfl
 unfold il;rw[Ag e h];have a1:(uG e).extract 1 (1+e.key.size)=e.key:=by
  rw[oV,rj,hd,lT (by omega),<-hk,fw]
 have a2:(uG e).extract (3+e.key.size) (uG e).size=e.val:=by
  rw[Dg,oV,rj,d3,cy (by simp)]
 have a3:bS (uG e).data.toList (1+e.key.size)=m:=by
  rw[rj];have g0:(qm e).getD (1+e.key.size) 0=UInt8.ofNat (m / 256):=by
   have:=congrArg (λl=>l.getD 0 0) d2;simp only[gH,gI,iw]at this;rw[gH,this,hm];rfl
  have g1:(qm e).getD (1+e.key.size+1) 0=UInt8.ofNat m:=by
   have:=congrArg (λl=>l.getD 1 0) d2;simp only[gH,gI]at this;rw[gH,this,hm];rfl
  unfold bS;rw[g0,g1,je,je];omega
 rw[a1,a2,a3];obtain⟨k,v,f⟩:=e;dsimp only at *;rw[show((m:Nat):Int)-1=f by omega]
theorem Ah(hm:dN l leaf)(e:E)(he:e∈l):e.key.size<=32/\e.val.size<=40/\ -1<=e.aW/\e.aW<=511:=by
 obtain⟨i,hi,rfl⟩:=oq he;have h2:=(Ab l[i] leaf).1 (hm i hi l[i] (aL hi)).1;exact⟨h2.1,h2.2.1,h2.2.2.1,h2.2.2.2.1⟩
theorem Ai(hm:dN l leaf):lB (iE leaf l)=l:=by
 unfold lB iE;rw[j8,j6];have:l.map ((λr=>il ⟨r.toArray⟩) ∘ qm)=l.map id:=by
  apply gy;intro e he;obtain⟨b1,b2,b3,b4⟩:=Ah hm e he;exact Mk e b1 b3 b4
 rw[this,List.map_id]
theorem Aj(leaf:Bool)(l:List E):m9 (iE leaf l)=leaf:=by
 unfold m9 iE Df
 cases leaf<;>simp
theorem Il(hm:dN l leaf):iW (iE leaf l):=by
 refine⟨?_,?_,?_⟩
 .unfold iE Df
  cases leaf<;>simp
 .intro r hr;unfold iE at hr;rw[j8]at hr;obtain⟨e,he,rfl⟩:=dC.1 hr;exact Ik e (Ah hm e he).1
 .rw[Ai hm,Aj];exact hm
def l0:List E:=[⟨⟨#[97]⟩,⟨#[120]⟩,-1⟩,⟨⟨#[99]⟩,⟨#[]⟩,7⟩]
variable{w:World}{t g j:Nat}{u:TypeId}{l:List E}{rest:List Value}{nu R:Int}
section
open Go.RowKit Sl
attribute [local go_sem ↓] Go.wp_at_zero Go.wp_at_succ bz
def ky(l:List E)(i:Nat):Int:=max ((ao (l.take i):Int)-((ao l:Int)-ao (l.take i))) ((ao l:Int)-ao (l.take i)-ao (l.take i))
def wh(l:List E)(m t:Nat):Prop:=1<=t/\t<m/\(∀j,1<=j->j<m->ky l t<=ky l j)/\∀j,1<=j->j<t->ky l t<ky l j
theorem wi(l:List E)(k:Nat):(aH l).take (k*3)=aH (l.take k):=by
 induction l generalizing k with
 |nil=>simp[aH]
 |cons e l ih=>
  cases k with
  |zero=>simp[aH]
  |succ k=>
   rw[kM,ox,kM,show(k+1)*3=e.cells.length+k*3 by simp[E.cells];omega,List.take_length_add_append,ih]
theorem me(l:List E)(k:Nat):(aH l).drop (k*3)=aH (l.drop k):=by
 induction l generalizing k with
 |nil=>simp[aH]
 |cons e l ih=>
  cases k with
  |zero=>simp[aH]
  |succ k=>
   rw[kM,DY,show(k+1)*3=e.cells.length+k*3 by simp[E.cells];omega,List.drop_length_add_append,ih]
theorem lC(l:List E):∀v∈aH l,v.oneCell'=true:=by
 intro v hv;simp only[aH,mU]at hv;obtain⟨e,_,hv⟩:=hv;simp[E.cells]at hv
 rcases hv with rfl|rfl|rfl<;>rfl
theorem xE{P:Program}{t:TypeId}{v:Value}{n:Nat}{l0:List E}(S:aT w t 3 v n (aH l0))(B:aJ w g u (aH l++rest).toArray)(o m c:Nat)(hom:o+m<=l.length)
 (T ty:TypeId)(z:Value)(bytes:Nat)(ht:P.underlying T=some (.slice t))(mx:(P.info? t).map (λi=>(i.zero,i.size,i.bytes))=some (some z,3,bytes))(hz:z.cells.size=3)
 (El:n+m<=maxLen)(hb:(n+m)*bytes<=140737488355328):
  ∃v' w',dP P T ty w v (.slice (some ⟨g,o*3,none⟩) m c)= .ok v' w'/\aT w' t 3 v' (n+m) (aH (l0++(l.drop o).take m))/\ag (ai v) w w'/\(∀x∈ai v',x∈ai v\/w.heap.size<=x):=by
 obtain⟨i0,hi,kx,ju,kg⟩:=info_parts mx;have hlen:(aH ((l.drop o).take m)).length=m*3:=by rw[aw,bm,cO];congr 1;omega
 obtain⟨v',w',h1,h2,h3,h4⟩:=dk (P:=P) S T ty i0 z bytes ht hi kx ju kg hz (by omega)
  ⟨g,o*3,none⟩ m c (aH ((l.drop o).take m)) hlen (λj x hx=>by
   have hj:j<m*3:=by rw[<-hlen];exact(aS.1 hx).1
   rw[fe];refine(B.cell _).trans ?_;rw[<-wi,<-me,pM,if_pos hj,gI]at hx;rw[dj,bF (by rw[aw];omega)];exact hx) (lC _) El hb
 exact⟨v',w',h1,by rw[gl];exact h2,h3,h4⟩
theorem QE(B:aJ w g u (aH l++rest).toArray)(j:Nat)(e:E)(he:l[j]?=some e):oW w (some ⟨g,j*3,none⟩) 1 [e]:=by
 refine⟨rfl,λk x hx=>?_⟩;have hk:k=0:=by have:=(aS.1 hx).1;simp at this;exact this
 subst hk;simp only[yI,Option.some.injEq]at hx;subst hx;have:=Ij B j e he;rw[fe,bg]at this;exact⟨_,rfl,by rw[qS,Addr.add,if_pos rfl];exact this⟩
theorem UW(l:List E)(i:Nat):0<=ky l i:=by unfold ky;omega
def rk(l:List E)(j t:Nat)(nu:Int):Prop:=(j=0/\nu= -1/\t=1)\/(0<j/\wh l (j+1) t/\nu=ky l t)
theorem Dh(h:rk l j t nu)(hR:R=ky l (j+1))(hb:nu<0\/R<nu):rk l (j+1) (j+1) R:=by
 have lt:∀i,1<=i->i<j+1->ky l (j+1)<ky l i:=λi hi1 NI=>by
  rcases h with⟨rfl,_,_⟩|⟨h0,hB,ue⟩
  .omega
  .have:=hB.2.2.1 i hi1 NI;have:=UW l t;omega
 refine .inr ⟨by omega,⟨by omega,by omega,λi hi1 NI=>?_,lt⟩,hR⟩
 rcases eR i (j+1)with h1|h1
 .have:=lt i hi1 h1;omega
 .obtain rfl:i=j+1:=by omega
  exact jI _
theorem Di(h:rk l j t nu)(hR:R=ky l (j+1))(h1:¬nu<0)(h2:¬R<nu):rk l (j+1) t nu:=by
 rcases h with⟨rfl,hb,_⟩|⟨h0,hB,ue⟩
 .omega
 .refine .inr ⟨by omega,⟨hB.1,by have:=hB.2.1;omega,λi hi1 NI=>?_,hB.2.2.2⟩,ue⟩
  rcases eR i (j+1)with h3|h3
  .exact hB.2.2.1 i hi1 h3
  .obtain rfl:i=j+1:=by omega
   omega
theorem Ml(leaf:Bool)(A:Option Addr)(n c:Nat)(l:List E)(S:aT w 111 3 (.slice A n c) n (aH l))(hn:2<=n)(RZ:n<=100)(hb:ao l<=100000):
  Calls prog 129 #[bA leaf A n c] w λr w'=>(∃t A1 c1 A2 c2,r=.returned (.tuple #[bA leaf A1 t c1,bA leaf A2 (n-t) c2])/\wh l n t/\aT w' 111 3 (.slice A1 t c1) t (aH (l.take t))/\aT w' 111 3 (.slice A2 (n-t) c2) (n-t) (aH (l.drop t))/\∀x∈ai (.slice A2 (n-t) c2),w.heap.size<=x)/\Below w.heap.size w w':=by
 obtain⟨g,cap,rest,hv,BG,hcn,LA⟩:=S.form (by omega) (by omega);simp only[Value.slice.injEq,true_and]at hv;obtain⟨rfl,rfl⟩:=hv;have tC:c<=maxLen:=by obtain⟨_,_,_,_,h⟩:=S.tx;exact h
 have tA:l.length=n:=by have:=S.1;rw[aw]at this;omega
 have nD:=xh tA;have hgl:=BG.lt;have B1:=xh (((aJ.new w 118 #[.bool leaf,.slice (some ⟨g,0,none⟩) n c]).alloc (.cells #[.bool false,.slice none 0 0] 118)).alloc (.cells #[.bool false,.slice none 0 0] 118));have B2:=(aJ.new (w.alloc (.cells #[.bool leaf,.slice (some ⟨g,0,none⟩) n c] 118)) 118 #[.bool false,.slice none 0 0]).alloc (.cells #[.bool false,.slice none 0 0] 118)
 have B3:=aJ.new ((w.alloc (.cells #[.bool leaf,.slice (some ⟨g,0,none⟩) n c] 118)).alloc (.cells #[.bool false,.slice none 0 0] 118)) 118 #[.bool false,.slice none 0 0];rw[vZ]at B2;rw[vZ,vZ]at B3;have B2:=xh B2;have B3:=xh B3;have O0:=xh (ae (ae (ae (Below.refl w.heap.size w) (.cells #[.bool leaf,.slice (some ⟨g,0,none⟩) n c] 118)) (.cells #[.bool false,.slice none 0 0] 118)) (.cells #[.bool false,.slice none 0 0] 118))
 have G0:=xh (((BG.alloc (.cells #[.bool leaf,.slice (some ⟨g,0,none⟩) n c] 118)).alloc (.cells #[.bool false,.slice none 0 0] 118)).alloc (.cells #[.bool false,.slice none 0 0] 118));have E0:=xh (((S.alloc (.cells #[.bool leaf,.slice (some ⟨g,0,none⟩) n c] 118)).alloc (.cells #[.bool false,.slice none 0 0] 118)).alloc (.cells #[.bool false,.slice none 0 0] 118));clear BG S tA;unfold bA;go_enter func129,ntmps129
 have bx1:(((w.alloc (.cells #[.bool leaf,.slice (some ⟨g,0,none⟩) n c] 118)).alloc (.cells #[.bool false,.slice none 0 0] 118)).alloc (.cells #[.bool false,.slice none 0 0] 118)).cell? ⟨w.heap.size,1,none⟩=some (.slice (some ⟨g,0,none⟩) n c):=B1.o.ab (i:=1) rfl;go_wp2_with fail;generalize hW:(((w.alloc (.cells #[.bool leaf,.slice (some ⟨g,0,none⟩) n c] 118)).alloc (.cells #[.bool false,.slice none 0 0] 118)).alloc (.cells #[.bool false,.slice none 0 0] 118))=W at *;clear hW
 refine(De (w:=W) (some ⟨g,0,none⟩) n c l (aT.aH E0.o).2 (by omega) (by omega)).mono ?_;rintro r w1 ⟨rfl,bf⟩;have O1:=xh (aB O0.o bf);have C1:=xh (B1.o.below bf B1.o.lt);have C2:=xh (B2.o.below bf B2.o.lt);have C3:=xh (B3.o.below bf B3.o.lt);have G1:=xh (G0.o.below bf G0.o.lt);have hwl:=C1.o.lt;have x1:w1.cell? ⟨w.heap.size,1,none⟩=some (.slice (some ⟨g,0,none⟩) n c):=C1.o.ab (i:=1) rfl
 obtain⟨all,ny⟩:∃all,ao l=all:=⟨_,rfl⟩;have HALL:=xh ny;rw[ny]at hb ⊢;have hm1:min (1:Int) (n:Int)=1:=by omega
 clear bf ny bx1;go_wp2_with fail;go_quiet (fail);go_wp2_with fail;have x0:w1.cell? ⟨w.heap.size,0,none⟩=some (.bool leaf):=C1.o.ab (i:=0) rfl
 go_loopw [5,6,7,8] (λbv av lv iv wr=> ∃(j t:Nat) (nu:Int),j+1<=n/\bv=.int .i64 nu/\av=.int .i64 (t:Nat)/\lv=.int .i64 (ao (l.take j):Nat)/\iv=.int .i64 ((j:Int)+1)/\Hid (rk l j t nu)/\Below w1.heap.size w1 wr) (λ_ _ _ iv _=>n-(intOf iv).toNat)
 case atStart=>exact⟨0,1,-1,by omega,rfl,rfl,by simp[ao],rfl,xh (.inl ⟨rfl,rfl,rfl⟩),dS (Below.refl _ _) _⟩
 case round=>
  obtain⟨j,t,nu,hj,rfl,rfl,rfl,rfl,BI,O⟩:=hrel;have D1:=xh (C1.o.below O C1.o.lt);have y1:wr.cell? ⟨w.heap.size,1,none⟩=some (.slice (some ⟨g,0,none⟩) n c):=D1.o.ab (i:=1) rfl
  by_cases h:j+1<n
  .have he:=aL (show j<l.length by rw[nD.o];omega);obtain⟨e,hee⟩:∃e,l[j]'(by rw[nD.o];omega)=e:=⟨_,rfl⟩;rw[hee]at he;have hs:=lA l j e he;have ht:=ql l (j+1);have hone:ao [e]=e.key.size+e.val.size+7:=by simp[ao]
   rw[HALL.o]at ht;have KB:=xh (λcc=>De (w:=wr) (some ⟨g,j*3,none⟩) 1 cc [e] (QE (G1.o.below O G1.o.lt) j e he) (by omega) (by rw[hone];omega));have HRF:=xh (show ky l (j+1)=max ((ao (l.take (j+1)):Int)-((all:Int)-ao (l.take (j+1)))) ((all:Int)-ao (l.take (j+1))-ao (l.take (j+1)))from by unfold ky;rw[HALL.o]);obtain⟨P,hP⟩:∃P,ao (l.take j)=P:=⟨_,rfl⟩;obtain⟨q,hq⟩:∃q,ao (l.take (j+1))=q:=⟨_,rfl⟩
   obtain⟨ce,hce⟩:∃ce,ao [e]=ce:=⟨_,rfl⟩;rw[hce]at KB hone;rw[hP,hq]at hs;rw[hq]at ht HRF;rw[hP];have HQ:=xh hq;have hqP:(P:Int)+(ce:Int)=(q:Int):=by omega
   have s1:IntKind.i64.wrap ((P:Int)+(ce:Int))=(q:Int):=by rw[hqP];exact IntWalk.i64_in _ (by omega)
   have s2:IntKind.i64.wrap ((all:Int)-(q:Int))=(all:Int)-(q:Int):=IntWalk.i64_in _ (by omega);have s3:IntKind.i64.wrap ((q:Int)-((all:Int)-(q:Int)))=(q:Int)-((all:Int)-(q:Int)):=IntWalk.i64_in _ (by omega);have s4:IntKind.i64.wrap ((all:Int)-(q:Int)-(q:Int))=(all:Int)-(q:Int)-(q:Int):=IntWalk.i64_in _ (by omega);have s5:IntKind.i64.wrap (j:Int)=(j:Int):=IntWalk.i64_in _ (by omega);have s6:IntKind.i64.wrap ((j:Int)+1-1)=(j:Int):=by rw[DU];exact s5
   have s7:IntKind.i64.wrap ((j:Int)+1+1)=(j:Int)+1+1:=IntWalk.i64_in _ (by omega);have s8:(j:Int)+1<(n:Int):=by omega
   have s9:(j:Int)<=(j:Int)+1:=by omega
   have s10:(j:Int)+1<=(c:Int):=by omega
   have s11:((j:Int)+1).toNat=j+1:=by omega
   have s12:(0:Int)<=(j:Int)+1:=by omega
   have OO:=xh O;clear he hee hs hone hP hq hce O;go_wp2_with fail;refine(KB.o _).mono ?_;rintro r w2 ⟨rfl,cA⟩;have O2:=xh (aB OO.o cA);clear cA;go_wp2_with fail
   all_goals
    have hRI:∀R:Int,R=(if((q:Int)-((all:Int)-q))<(all:Int)-q-q then(all:Int)-q-q else(q:Int)-((all:Int)-q))->R=ky l (j+1):=λR h=>by rw[h,HRF.o];split<;>omega
    refine⟨?_,by simp[intOf];omega⟩
    first
     |exact⟨j+1,t,nu,by omega,rfl,rfl,by rw[HQ.o],by go_num,xh (Di BI.o (hRI _ (by first|rfl|(split<;>omega))) (by first|assumption|omega) (by first|assumption|omega)),O2.o⟩
     |exact⟨j+1,j+1,_,by omega,rfl,by go_num,by rw[HQ.o],by go_num,xh (Dh BI.o (hRI _ (by first|rfl|(split<;>omega))) (by first|(left;assumption)|(right;assumption)|omega)),O2.o⟩
  .obtain rfl:n=j+1:=by omega
   have D2:=xh (C2.o.below O C2.o.lt);have D3:=xh (C3.o.below O C3.o.lt);have G2:=xh (G1.o.below O G1.o.lt);have y0:wr.cell? ⟨w.heap.size,0,none⟩=some (.bool leaf):=D1.o.ab (i:=0) rfl;have HBT:=xh (show wh l (j+1) t from by
    rcases BI.o with⟨rfl,_,_⟩|⟨_,hB,_⟩
    .omega
    .exact hB)
   have ht1:=HBT.o.1;have ht2:=HBT.o.2.1;have OO:=xh (aB O1.o O);have s8:¬(j:Int)+1<((j+1:Nat):Int):=by omega
   have t1:(t:Int)<=(c:Int):=by omega
   have t2:(t:Int)<=((j+1:Nat):Int):=by omega
   have t3:t<c:=by omega
   have t4:¬t=c:=by omega
   clear O;go_wp2_with fail;have t5:(t:Int)<=(j:Int)+1:=by omega
   have t6:¬c=t:=by omega
   have HK:=xh (show ∀W',ag [w.heap.size+1,w.heap.size+1+1] wr W'->(W'.cell? ⟨w.heap.size,0,none⟩=some (.bool leaf)/\W'.cell? ⟨w.heap.size,1,none⟩=some (.slice (some ⟨g,0,none⟩) (j+1) c))from λW' ho=>⟨(D1.o.only ho (by simp;omega)).ab (i:=0) rfl,(D1.o.only ho (by simp;omega)).ab (i:=1) rfl⟩)
   have HK0:=xh (show ∀W',ag [] wr W'->(W'.cell? ⟨w.heap.size,0,none⟩=some (.bool leaf)/\W'.cell? ⟨w.heap.size,1,none⟩=some (.slice (some ⟨g,0,none⟩) (j+1) c))from λW' ho=>HK.o W' (ho.mono (λx hx _=>absurd hx (by simp))));have OD:=xh ((ag.refl [] wr).drew);have GD:=xh (G2.o.drew);have TV:=D2.o.lt;have hd3:=D3.o.lt
   have AP1:=xh (show ∀W' u,aJ W' g u (aH l++rest).toArray->∃V1 k1 w2,dP prog 108 108 W' (.slice none 0 0) (.slice (some ⟨g,0,none⟩) t t)= .ok (.slice V1 t k1) w2/\aT w2 111 3 (.slice V1 t k1) t (aH (l.take t))/\ag [] W' w2/\(∀x∈ai (.slice V1 t k1),W'.heap.size<=x)from λW' u B=>by
    obtain⟨v,w2,e1,S,o,f⟩:=xE (P:=prog) (l0:=[]) (aT.nil W' 111 3) B 0 t t (by rw[nD.o];omega) 108 108 (.agg #[.string .empty,.string .empty,.int .i64 0]) 40 underlying108 (by kernel_rfl) rfl (by unfold maxLen;omega) (by omega);rw[bg,cW,D0]at S;obtain⟨V1,k1,rfl⟩:=au S;exact⟨V1,k1,w2,e1,S,o,λx hx=>(f x hx).elim (λh=>by simp[ai]at h) id⟩)
   have AP2:=xh (show ∀W' u,aJ W' g u (aH l++rest).toArray->∃V1 k1 w2,dP prog 108 108 W' (.slice none 0 0) (.slice (some ⟨g,t*3,none⟩) (j+1-t) (c-t))= .ok (.slice V1 (j+1-t) k1) w2/\aT w2 111 3 (.slice V1 (j+1-t) k1) (j+1-t) (aH (l.drop t))/\ag [] W' w2/\(∀x∈ai (.slice V1 (j+1-t) k1),W'.heap.size<=x)from λW' u B=>by
    obtain⟨v,w2,e1,S,o,f⟩:=xE (P:=prog) (l0:=[]) (aT.nil W' 111 3) B t (j+1-t) (c-t) (by rw[nD.o];omega) 108 108 (.agg #[.string .empty,.string .empty,.int .i64 0]) 40 underlying108 (by kernel_rfl) rfl (by unfold maxLen;omega) (by omega);rw[bg,cW,cy (by rw[cO,nD.o];exact ak _)]at S;obtain⟨V1,k1,rfl⟩:=au S;exact⟨V1,k1,w2,e1,S,o,λx hx=>(f x hx).elim (λh=>by simp[ai]at h) id⟩)
   refine wp_region_held_drew (S:=λW'=>W'.cell? ⟨w.heap.size,0,none⟩=some (.bool leaf)/\W'.cell? ⟨w.heap.size,1,none⟩=some (.slice (some ⟨g,0,none⟩) (j+1) c)) (by kernel_rfl) (HK0.o _ OD.o) (λah=>?_);refine bM [(0,53),(1,54),(2,55),(3,56),(4,57),(5,58),(6,59),(9,62),(10,63),(11,64),(12,65),(13,66),(14,67)] ?_
   iterate 13 refine aG ?_
   refine bY 7 60 λK hK=>?_
   .obtain⟨Va,ka,w2,ea,Sa,oa,fa⟩:=AP1.o _ _ GD.o;have Oa:=xh (OD.o.trans oa);obtain⟨Vb,kb,w3,eb,Sb,ob,fb⟩:=AP2.o _ _ (GD.o.only oa (by simp));have Ob:=xh (Oa.o.trans ob);have E1:=xh ea;have E2:=xh eb;have Sa3:=Sa.only ob (by simp);have Fa:=xh (show ∀x∈ai _,wr.heap.size<=x from fa);have Fb:=xh (show ∀x∈ai _,wr.heap.size<=x from λx hx=>ar oa.size (fb x hx));have D23:=D2.o.only Ob.o (by simp);have D33:=D3.o.only Ob.o (by simp)
    clear ea eb;go_simp;rw[E1.o];go_simp;refine aA hK (HK0.o _ Oa.o) (λah=>?_);refine bM [(8,61)] ?_
    iterate 1 refine aG ?_
    refine bY 15 68 λK hK=>?_;go_simp;rw[E2.o];go_simp;refine aA hK (HK0.o _ Ob.o) (λah=>?_);refine bM [(16,69)] ?_
    iterate 1 refine aG ?_
    refine zpe ?_;have p0:w3.frozen? ⟨w.heap.size+1,0,none⟩=false:=D23.frozen 0 (by simp);have p1:w3.frozen? ⟨w.heap.size+1,1,none⟩=false:=D23.frozen 1 (by simp);have p2:w3.cell? ⟨w.heap.size+1,0,none⟩=some (.bool false):=D23.ab (i:=0) rfl;have p3:w3.cell? ⟨w.heap.size+1,1,none⟩=some (.slice none 0 0):=D23.ab (i:=1) rfl;have r0:w3.frozen? ⟨w.heap.size+1+1,0,none⟩=false:=D33.frozen 0 (by simp);have r1:w3.frozen? ⟨w.heap.size+1+1,1,none⟩=false:=D33.frozen 1 (by simp)
    have r2:w3.cell? ⟨w.heap.size+1+1,0,none⟩=some (.bool false):=D33.ab (i:=0) rfl;have r3:w3.cell? ⟨w.heap.size+1+1,1,none⟩=some (.slice none 0 0):=D33.ab (i:=1) rfl;have OX1:=xh (((Ob.o.mono (S':=[w.heap.size+1,w.heap.size+1+1]) (λx hx _=>absurd hx (by simp))).setCell (p:=⟨w.heap.size+1,0,none⟩) (λ_=>by simp) (.bool leaf)).setCell (p:=⟨w.heap.size+1,1,none⟩) (λ_=>by simp) (.slice Va t ka))
    have OX2:=xh ((OX1.o.setCell (p:=⟨w.heap.size+1+1,0,none⟩) (λ_=>by simp) (.bool leaf)).setCell (p:=⟨w.heap.size+1+1,1,none⟩) (λ_=>by simp) (.slice Vb (j+1-t) kb));have BX2:=xh ((((D23.bE 0 (.bool leaf)).bE 1 (.slice Va t ka)).aW (p:=⟨w.heap.size+1+1,0,none⟩) (by simp) (.bool leaf)).aW (p:=⟨w.heap.size+1+1,1,none⟩) (by simp) (.slice Vb (j+1-t) kb))
    have BX3:=xh ((((D33.aW (p:=⟨w.heap.size+1,0,none⟩) (by simp) (.bool leaf)).aW (p:=⟨w.heap.size+1,1,none⟩) (by simp) (.slice Va t ka)).bE 0 (.bool leaf)).bE 1 (.slice Vb (j+1-t) kb))
    have OS:=xh ((((((ag.refl [w.heap.size+1,w.heap.size+1+1] w3).setCell (p:=⟨w.heap.size+1,0,none⟩) (λ_=>by simp) (.bool leaf)).setCell (p:=⟨w.heap.size+1,1,none⟩) (λ_=>by simp) (.slice Va t ka)).setCell (p:=⟨w.heap.size+1+1,0,none⟩) (λ_=>by simp) (.bool leaf)).setCell (p:=⟨w.heap.size+1+1,1,none⟩) (λ_=>by simp) (.slice Vb (j+1-t) kb)));have SX1:=xh (Sa3.only OS.o (λx hx=>by have:=Fa.o x hx;simp;omega))
    have SX2:=xh (Sb.only OS.o (λx hx=>by have:=Fb.o x hx;simp;omega));have OB:=xh (OO.o.trans (OX2.o.aI OO.o.size (λx hx=>by simp at hx;omega)));clear Sa Sb Sa3 oa ob fa fb D23 D33;refine dv 17 λK hK=>?_;go_simp;refine aA hK (HK.o _ OX1.o) (λah=>?_);refine dv 18 λK hK=>?_;go_simp;refine aA hK (HK.o _ OX2.o) (λah=>?_);refine wpAnyH_done (by kernel_rfl) ?_ _;go_wp2_with fail
    exact bodyPost_ret (Mg rfl rfl rfl BX2.o BX3.o) rfl ⟨⟨t,_,_,_,_,rfl,HBT.o,SX1.o,SX2.o,λx hx=>ar OO.o.size (Fb.o x hx)⟩,OB.o⟩
end
section
open Go.RowKit Sl Go.Deep Go.ChangeShapes Go.WideShapes
def cost(e:E):Nat:=e.key.size+e.val.size+7
theorem Cc(l m:List E):ao (l++m)=ao l+ao m:=by simp[ao]
theorem xF(l:List E)(t:Nat):ao l=ao (l.take t)+ao (l.drop t):=by rw[<-Cc,kT]
theorem Ak(leaf:Bool)(l:List E):jC (iE leaf l)=223-(ao l:Int):=by
 unfold jC iE ao;have h:∀l:List E,((l.map qm).map λr=>4+r.length).sum=(l.map λe=>e.key.size+e.val.size+7).sum:=by
  intro l
  induction l with
  |nil=>rfl
  |cons e l ih=>simp only[fN,kS,ih,qo];omega
 have hk:(Df leaf).length=1:=by unfold Df;split<;>rfl
 rw[fN,kS,h,hk];omega
theorem Dj(l:List E)(hc:∀e∈l,cost e<=79)(hn:2<=l.length):∃i,1<=i/\i<l.length/\ky l i<=79:=by
 have step:∀k,k+1<l.length->(∃i,1<=i/\i<l.length/\ky l i<=79)\/2*ao (l.take (k+1))<ao l:=by
  intro k
  induction k with
  |zero=>
   intro hk
   by_cases h:2*ao (l.take 1)<ao l
   .exact .inr h
   .refine .inl ⟨1,by omega,by omega,?_⟩;have he:=aL (show 0<l.length by omega);have hs:=lA l 0 _ he;have hx:=hc _ (jJ (show 0<l.length by omega));unfold cost at hx;have ht:=ql l 1;rw[jb]at hs;have h0:ao ([]:List E)=0:=rfl;rw[bg]at hs;unfold ky;omega
  |succ k ih=>
   intro hk
   rcases ih (by omega)with h|h
   .exact .inl h
   .by_cases h2:2*ao (l.take (k+1+1))<ao l
    .exact .inr h2
    .have he:=aL (show k+1<l.length by omega);have hs:=lA l (k+1) _ he;have hx:=hc _ (jJ (show k+1<l.length by omega));unfold cost at hx
     by_cases h3:2*ao (l.take (k+1+1))<=ao l+79
     .refine .inl ⟨k+1+1,by omega,by omega,?_⟩;unfold ky;omega
     .refine .inl ⟨k+1,by omega,by omega,?_⟩;unfold ky;omega
 rcases step (l.length-2) (by omega)with h|h
 .exact h
 .refine⟨l.length-1,by omega,by omega,?_⟩;rw[show l.length-2+1=l.length-1 by omega]at h;have he:=aL (show l.length-1<l.length by omega);have hs:=lA l (l.length-1) _ he;have hx:=hc _ (jJ (show l.length-1<l.length by omega));unfold cost at hx;rw[show l.length-1+1=l.length by omega,fw]at hs;unfold ky;omega
theorem QF(hc:∀e∈l,cost e<=79)(hn:2<=l.length)(hb:ao l<=302)(h:wh l l.length t):ao (l.take t)<=223/\ao (l.drop t)<=223:=by
 obtain⟨i,h1,h2,h3⟩:=Dj l hc hn;have h4:=h.2.2.1 i h1 h2;have h5:=xF l t;unfold ky at h3 h4;omega
end
attribute [local go_sem ↓] Go.wp_at_zero Go.wp_at_succ
theorem Mm(a b:ByteArray)(w:World):
  Calls prog 161 #[.string a,.string b] w λe w'=>e=.returned (.int .i64 (Lib.compareBytes a.data.toList b.data.toList))/\Below w.heap.size w w':=by
 go_enter func161,ntmps161;go_wp2_with fail;rw[run_callFunc_extern func205 (by kernel_rfl) (by kernel_rfl) (by kernel_rfl) (e:=Extern.BytealgCompare.compare) (by kernel_rfl),Lib.run_compareString];simp only[Result.andThen];rw[Oper.upon_value]
 go_wp2
 go_ret;exact⟨rfl,Below.refl _ _⟩
theorem Im(a b:ByteArray)(w:World):
  Calls prog 115 #[.string a,.string b] w λe w'=>e=.returned (.int .i64 (Lib.compareBytes a.data.toList b.data.toList))/\Below w.heap.size w w':=by
 have K:=xh (Mm a b w);go_enter func115,ntmps115;go_wp2_with fail;refine K.o.mono ?_;rintro e w1 ⟨rfl,hb⟩;have HB:=xh hb;go_wp2_with fail;go_ret;exact⟨rfl,HB.o⟩
theorem qY(e:E)(k:ByteArray)(w:World):
  Calls prog 114 #[e.agg,.string k] w λr w'=>r=.returned (.int .i64 (Lib.compareBytes e.key.data.toList k.data.toList))/\Below w.heap.size w w':=by
 have O0:=xh ((Below.refl w.heap.size w).alloc (ak _) (.cells #[.string e.key,.string e.val,.int .i64 e.aW] 111));have B0:=aJ.new w 111 #[.string e.key,.string e.val,.int .i64 e.aW];have c0:=B0.ab (i:=0) rfl;have K:=xh (λw=>Im e.key k w);clear B0;unfold E.agg;go_enter func114,ntmps114;go_wp2_with fail;refine(K.o _).mono ?_;rintro e w1 ⟨rfl,hb⟩;have HB:=xh (aB O0.o hb);clear hb;go_wp2_with fail;go_ret;exact⟨rfl,HB.o⟩
def rM(e:E)(k:ByteArray):Int:=Lib.compareBytes e.key.data.toList k.data.toList
def rl(l:List E)(key:ByteArray)(k:Nat):Prop:=k<=l.length/\(∀e,0<k->l[k-1]?=some e->rM e key<0)/\(∀e,l[k]?=some e->0<=rM e key)
def Dl(l:List E)(key:ByteArray)(k:Nat):Prop:= ∃e,l[k]?=some e/\rM e key=0
theorem Io{w:World}(A:Option Addr)(n c:Nat)(l:List E)(key:ByteArray)(h:oW w A n l)(hn:n<=1000000):
  Calls prog 113 #[.slice A n c,.string key,.func (Fn.func 114) #[] #[]] w λr w'=>(∃k b,r=.returned (.tuple #[.int .i64 (k:Nat),.bool b])/\rl l key k/\(b=true↔Dl l key k))/\Below w.heap.size w w':=by
 have hl:=xh h.1;have H0:=xh h;clear h;go_enter func113,ntmps113;go_wp2_with fail
 go_loopw [9,10] (λiv jv wr=> ∃i j:Nat,i<=j/\j<=n/\iv=.int .i64 i/\jv=.int .i64 j/\Hid (∀e,0<i->l[i-1]?=some e->rM e key<0)/\Hid (∀e,l[j]?=some e->0<=rM e key)/\Below w.heap.size w wr) (λiv jv _=>(intOf jv).toNat-(intOf iv).toNat)
 case atStart=>exact⟨0,n,aY _,ak _,rfl,rfl,xh (λe h=>absurd h (yo _)),xh (λe h=>by have:=(aS.1 h).1;have:=hl.o;omega),Below.refl _ _⟩
 case round=>
  obtain⟨i,j,hij,hj,rfl,rfl,LO,HI,hb⟩:=hrel
  by_cases h:i<j
  .obtain⟨m,hm⟩:∃m,(i+j) / 2=m:=⟨_,rfl⟩;have hmj:m<j:=by omega
   have hmi:i<=m:=by omega
   have hmI:((i:Int)+(j:Int)) / 2=(m:Int):=by omega
   obtain⟨ad,e,rfl,he,AT⟩:=(H0.o.below hb).at m (by omega);have HB:=xh hb;have a0:=AT.c0;have a1:=AT.c1;have a2:=AT.c2;have e1:IntKind.i64.wrap ((i:Int)+(j:Int))=(i:Int)+(j:Int):=IntWalk.i64_in _ (by omega);have e2:IntKind.u64.wrap ((i:Int)+(j:Int))=(i:Int)+(j:Int):=IntWalk.u64_in _ (by omega);have e3:IntKind.i64.wrap (m:Int)=(m:Int):=IntWalk.i64_in _ (by omega);have hmn:m<n:=by omega
   have KF:=xh (qY e key wr);have HE:=xh he;unfold E.agg at KF;clear AT hb he;obtain⟨q,hq⟩:∃q,Lib.compareBytes e.key.data.toList key.data.toList=q:=⟨_,rfl⟩;have HQ:=xh (show rM e key=q from hq);rw[hq]at KF;clear hq;go_wp2_with fail;refine KF.o.mono ?_;rintro r w1 ⟨rfl,bf⟩;have GR:=xh (aB HB.o bf);clear bf
   by_cases hq:q<0
   .have HLO:=xh (show ∀x,0<m+1->l[m+1-1]?=some x->rM x key<0 from λx _ hx=>by
     rw[oy,HE.o]at hx;injection hx with hx
     rw[<-hx,HQ.o];exact hq)
    go_wp2_with fail;go_roundw
    case rel=>exact⟨m+1,j,by omega,hj,by go_num,rfl,HLO,HI,GR.o⟩
    case measure=>simp[intOf];omega
   .have HHI:=xh (show ∀x,l[m]?=some x->0<=rM x key from λx hx=>by
     rw[HE.o]at hx;injection hx with hx
     rw[<-hx,HQ.o];omega)
    go_wp2_with fail;go_roundw
    case rel=>exact⟨i,m,hmi,by omega,rfl,rfl,LO,HHI,GR.o⟩
    case measure=>simp[intOf];omega
  .obtain rfl:i=j:=by omega
   have HB:=xh hb;have mf:=xh (show rl l key i from⟨by have:=hl.o;omega,LO.o,HI.o⟩)
   by_cases pH:i<n
   .obtain⟨ad,e,rfl,he,AT⟩:=(H0.o.below hb).at i pH;have a0:=AT.c0;have a1:=AT.c1;have a2:=AT.c2;have KF:=xh (qY e key wr);have HE:=xh he;unfold E.agg at KF;clear AT hb he;obtain⟨q,hq⟩:∃q,Lib.compareBytes e.key.data.toList key.data.toList=q:=⟨_,rfl⟩;have HQ:=xh (show rM e key=q from hq);rw[hq]at KF;clear hq;have HI2:(i:Int)<(n:Int):=by omega
    go_wp2_with fail;refine KF.o.mono ?_;rintro r w1 ⟨rfl,bf⟩;have GR:=xh (aB HB.o bf);clear bf
    by_cases hq:q=0
    .subst hq;go_wp2_with fail;go_ret2;exact⟨⟨i,true,rfl,mf.o,by simp only[true_iff];exact⟨e,HE.o,HQ.o⟩⟩,GR.o⟩
    .go_wp2_with fail;go_ret2;refine⟨⟨i,false,by simp[hq],mf.o,?_⟩,GR.o⟩;simp only[pw,false_iff];rintro⟨x,hx,h0⟩;rw[HE.o]at hx;injection hx with hx
     subst hx;exact hq (HQ.o.symm.trans h0)
   .have hin2:¬(i:Int)<(n:Int):=by omega
    clear hb;go_wp2_with fail;go_ret2;refine⟨⟨i,.inl ⟨rfl,mf.o,?_⟩⟩,HB.o⟩;rintro⟨x,hx,h0⟩;have:=(aS.1 hx).1;have:=hl.o;omega
variable{w:World}
theorem iS(leaf:Bool)(A:Option Addr)(n c:Nat)(l:List E)(key:ByteArray)(h:oW w A n l)(hn:n<=1000000):
  Calls prog 64 #[bA leaf A n c,.string key] w λr w'=>(∃k b,r=.returned (.tuple #[.int .i64 (k:Nat),.bool b])/\rl l key k/\(b=true↔Dl l key k))/\Below w.heap.size w w':=by
 have O0:=(Below.refl w.heap.size w).alloc (ak _) (.cells #[.bool leaf,.slice A n c] 118);have B0:=aJ.new w 118 #[.bool leaf,.slice A n c];have c1:(w.alloc (.cells #[.bool leaf,.slice A n c] 118)).cell? ⟨w.heap.size,1,none⟩=some (.slice A n c):=B0.ab (i:=1) rfl;have K:=xh (Io (w:=w.alloc (.cells #[.bool leaf,.slice A n c] 118)) A n c l key (h.below O0) hn);have O0:=xh O0;clear h B0;unfold bA;go_enter func64,ntmps64;go_wp2_with fail
 refine K.o.mono ?_;rintro r w1 ⟨⟨k,b,rfl,hp,hh⟩,bf⟩;have HP:=xh hp;have HH:=xh hh;have O1:=xh (aB O0.o bf);clear hp hh bf;go_wp2_with fail;go_ret2;exact⟨⟨k,b,rfl,HP.o,HH.o⟩,O1.o⟩
theorem QG(leaf:Bool)(A:Option Addr)(n c:Nat)(l:List E)(key:ByteArray)(h:oW w A n l)(hn:n<=1000000):
  Calls prog 110 #[bA leaf A n c,.string key] w λr w'=>(∃m:Nat,r=.returned (.int .i64 (m:Nat))/\∃k,rl l key k/\((Dl l key k/\m=k)\/(¬Dl l key k/\m=k-1)))/\Below w.heap.size w w':=by
 have O0:=(Below.refl w.heap.size w).alloc (ak _) (.cells #[.bool leaf,.slice A n c] 118);have B0:=aJ.new w 118 #[.bool leaf,.slice A n c];have c0:(w.alloc (.cells #[.bool leaf,.slice A n c] 118)).cell? ⟨w.heap.size,0,none⟩=some (.bool leaf):=B0.ab (i:=0) rfl;have c1:(w.alloc (.cells #[.bool leaf,.slice A n c] 118)).cell? ⟨w.heap.size,1,none⟩=some (.slice A n c):=B0.ab (i:=1) rfl
 have K:=xh (iS (w:=w.alloc (.cells #[.bool leaf,.slice A n c] 118)) leaf A n c l key (h.below O0) hn);have O0:=xh O0;have HL:=xh h.1;clear h B0;unfold bA at *;go_enter func110,ntmps110;go_wp2_with fail;refine K.o.mono ?_;rintro r w1 ⟨⟨k,b,rfl,hp,hh⟩,bf⟩;have HP:=xh hp;have HH:=xh hh;have O1:=xh (aB O0.o bf);have hk:k<=1000000:=by have:=hp.1;have:=HL.o;omega
 clear hp hh bf
 cases b
 .rcases(show k=0\/∃j,k=j+1 from by cases k;exact .inl rfl;exact .inr ⟨_,rfl⟩)with rfl|⟨j,rfl⟩
  .go_wp2_with fail;go_ret;exact⟨⟨0,rfl,0,HP.o,.inr ⟨λhx=>absurd (HH.o.2 hx) (by decide),rfl⟩⟩,O1.o⟩
  .have e1:IntKind.i64.wrap ((j:Int)+1-1)=(j:Int):=by rw[DU];exact IntWalk.i64_in _ (by omega)
   have e2:IntKind.i64.wrap (j:Int)=(j:Int):=IntWalk.i64_in _ (by omega);have e3:max (j:Int) 0=(j:Int):=by omega
   have e4:¬(j:Int)<0:=by omega
   go_wp2_with fail;go_ret;refine⟨⟨j,?_,j+1,HP.o,.inr ⟨λhx=>absurd (HH.o.2 hx) (by decide),rfl⟩⟩,O1.o⟩
   first|rfl|simp[e3]
 .have e3:max (k:Int) 0=(k:Int):=by omega
  have e4:¬(k:Int)<0:=by omega
  go_wp2_with fail;go_ret;refine⟨⟨k,?_,k,HP.o,.inl ⟨HH.o.1 (by trivial),rfl⟩⟩,O1.o⟩
  first|rfl|simp[e3]
attribute [local go_sem ↓] bz
end Nd
namespace Nd
open Go.RowKit Sl Go.Deep Go.ChangeShapes Go.WideShapes
instance:Inhabited E:=⟨⟨.empty,.empty,0⟩⟩
open Go.RowKit Sl
variable{l:List E}{leaf:Bool}
abbrev cb:=Lib.compareBytes
theorem kZ(a:UInt8)(x:List UInt8)(b:UInt8)(y:List UInt8):cb (a::x) (b::y)=if a<b then -1 else if b<a then 1 else cb x y:=rfl
theorem NX{a b:UInt8}(h1:¬a<b)(h2:¬b<a):a=b:=by
 rw[yr]at h1 h2;exact UInt8.toNat_inj.1 (by omega)
theorem UX:∀(x y:List UInt8),cb x y=0↔x=y
 |[],[]=>by simp[cb,Lib.compareBytes]
 |[],_::_=>by simp[cb,Lib.compareBytes]
 |_::_,[]=>by simp[cb,Lib.compareBytes]
 |a::x,b::y=>by
  rw[kZ]
  by_cases h1:a<b
  .rw[if_pos h1];have:a≠b:=λe=>by subst e;exact absurd h1 (by rw[yr];omega)
   simp[this]
  .rw[if_neg h1]
   by_cases h2:b<a
   .rw[if_pos h2];have:a≠b:=λe=>by subst e;exact h1 h2
    simp[this]
   .rw[if_neg h2,UX x y,NX h1 h2];simp
theorem FC:∀(x y:List UInt8),cb y x= -cb x y
 |[],[]=>rfl
 |[],_::_=>rfl
 |_::_,[]=>rfl
 |a::x,b::y=>by
  rw[kZ,kZ]
  by_cases h1:a<b
  .have h2:¬b<a:=by rw[yr]at *;omega
   rw[if_pos h1,if_neg h2,if_pos h1];rfl
  .rw[if_neg h1,if_neg h1]
   by_cases h2:b<a
   .rw[if_pos h2,if_pos h2]
   .rw[if_neg h2,if_neg h2];exact FC x y
theorem qp:∀(x y z:List UInt8),cb x y<0->cb y z<0->cb x z<0
 |[],[],_=>λh _=>absurd h (by decide)
 |[],_::_,[]=>λ_ h=>absurd h (by simp[cb,Lib.compareBytes])
 |[],_::_,_::_=>λ_ _=>by simp[cb,Lib.compareBytes]
 |_::_,[],_=>λh _=>absurd h (by simp[cb,Lib.compareBytes])
 |_::_,_::_,[]=>λ_ h=>absurd h (by simp[cb,Lib.compareBytes])
 |a::x,b::y,c::z=>by
  rw[kZ,kZ,kZ];intro h1 h2
  by_cases p1:a<b
  .by_cases p2:b<c
   .rw[if_pos (by rw[yr]at *;omega)];decide
   .rw[if_neg p2]at h2
    by_cases p3:c<b
    .rw[if_pos p3]at h2;exact absurd h2 (by decide)
    .obtain rfl:=NX p2 p3;rw[if_pos p1];decide
  .rw[if_neg p1]at h1
   by_cases p4:b<a
   .rw[if_pos p4]at h1;exact absurd h1 (by decide)
   .rw[if_neg p4]at h1;obtain rfl:=NX p1 p4
    by_cases p2:a<c
    .rw[if_pos p2];decide
    .rw[if_neg p2]at h2 ⊢
     by_cases p3:c<a
     .rw[if_pos p3]at h2;exact absurd h2 (by decide)
     .rw[if_neg p3]at h2 ⊢;exact qp x y z h1 h2
theorem NY:∀(x y:List UInt8),Op.bytesLess x y=decide (cb x y<0)
 |[],[]=>by simp[Op.bytesLess,cb,Lib.compareBytes]
 |[],_::_=>by simp[Op.bytesLess,cb,Lib.compareBytes]
 |_::_,[]=>by simp[Op.bytesLess,cb,Lib.compareBytes]
 |a::x,b::y=>by
  rw[kZ,Op.bytesLess]
  by_cases h1:a<b
  .simp[h1]
  .by_cases h2:b<a
   .have h3:¬a=b:=λe=>by subst e;exact h1 h2
    simp[h1,h2,h3]
   .have h3:=NX h1 h2;subst h3;simp[h1,NY x y]
theorem UY(a b:ByteArray):leB a b=decide (cb a.data.toList b.data.toList<=0):=by
 unfold leB;rw[cf,cf,NY];have h:=UX a.data.toList b.data.toList
 by_cases h1:cb a.data.toList b.data.toList<0
 .rw[decide_eq_true h1,decide_eq_true (by omega)];rfl
 .rw[decide_eq_false h1]
  by_cases h2:a.data.toList=b.data.toList
  .rw[decide_eq_true (by rw[h.2 h2];omega),h2];simp
  .rw[decide_eq_false (by
    have:cb a.data.toList b.data.toList≠0:=λe=>h2 (h.1 e);omega)]
   simpa using h2
theorem Ip(hm:dN l leaf){i:Nat}{p e:E}(hp:l[i]?=some p)(he:l[i+1]?=some e):cb p.key.data.toList e.key.data.toList<0:=by
 have h:=(hm (i+1) (aS.1 he).1 e he).2 (by omega) p (by rw[oy];exact hp);rw[UY,decide_eq_false_iff_not]at h;have:=FC p.key.data.toList e.key.data.toList;omega
theorem Mn(hm:dN l leaf)(i d:Nat):∀{p e:E},l[i]?=some p->l[i+1+d]?=some e->cb p.key.data.toList e.key.data.toList<0:=by
 induction d with
 |zero=>intro p e hp he;exact Ip hm hp he
 |succ d ih=>
  intro p e hp he;have dH:=(aS.1 he).1;have hq:=aL (show i+1+d<l.length by omega);exact qp _ _ _ (ih hp hq) (Ip hm hq (by rw[show i+1+d+1=i+1+(d+1) by omega];exact he))
theorem Mo{key:ByteArray}{p:Nat}(hm:dN l leaf)(h:rl l key p)(j:Nat)(e:E)(he:l[j]?=some e):rM e key<0↔j<p:=by
 constructor
 .intro hc
  rcases eR j p with h1|h1
  .exact h1
  .exfalso
   rcases Nat.lt_or_eq_of_le h1 with h2|rfl
   .have hq:=aL (show p<l.length by have:=(aS.1 he).1;omega);have h3:=h.2.2 _ hq;have h4:=Mn hm p (j-p-1) hq (by rw[show p+1+(j-p-1)=j by omega];exact he);have h5:=qp _ _ _ h4 hc;unfold rM at h3;exact absurd h5 (by unfold cb;omega)
   .have:=h.2.2 _ he;omega
 .intro hj;have hp:=h.1;have hq:=aL (show p-1<l.length by omega);have h3:=h.2.1 _ (by omega) hq
  rcases eR j (p-1)with h1|h1
  .have h4:=Mn hm j (p-1-j-1) he (by rw[show j+1+(p-1-j-1)=p-1 by omega];exact hq);exact qp _ _ _ h4 h3
  .obtain rfl:j=p-1:=by omega
   rw[he]at hq;injection hq with hq
   rw[hq];exact h3
variable{leaf:Bool}{l:List E}{key:ByteArray}{k:Nat}{w:World}
def mayB(l:List E)(leaf:Bool):Bool:=(List.range l.length).all λi=>match l[i]? with
 |none=>true
 |some e=>decide (du e leaf) && (decide (i=0) || match l[i-1]? with
  |none=>true
  |some p=> !leB e.key p.key)
theorem lD(l:List E)(leaf:Bool):mayB l leaf=true↔dN l leaf:=by
 unfold mayB dN okAt;rw[r5];refine⟨λh i hi e he=>?_,λh i hi=>?_⟩
 .have:=h i (kR.2 hi);rw[he]at this;simp only[im,decide_eq_true_eq,wW]at this;refine⟨this.1,λh0 p hp=>?_⟩;have h2:=this.2.resolve_left (by omega);rw[hp]at h2;simpa using h2
 .have hi:=kR.1 hi;have he:=aL hi;obtain⟨a,b⟩:=h i hi _ he;rw[he];simp only[im,decide_eq_true_eq,wW];refine⟨a,?_⟩
  by_cases h0:i=0
  .exact .inl h0
  .right;have hp:=aL (show i-1<l.length by omega);rw[hp];simpa using b (by omega) _ hp
def UZ(rs:List (List UInt8)):Bool:=(decide (rs.head?=some [1]) || decide (rs.head?=some [2])) && (rs.tail.all (λr=>decide (3+mG ⟨r.toArray⟩<=r.length)) && mayB (lB rs) (m9 rs))
theorem rm(rs:List (List UInt8)):UZ rs=true↔iW rs:=by
 unfold UZ iW iD;simp only[im,wW,decide_eq_true_eq,r5,lD];refine and_congr_right λ_=>and_congr_left λ_=>?_;have:∀r:List UInt8,(⟨r.toArray⟩:ByteArray).size=r.length:=λr=>by show r.toArray.size=_;simp
 simp only[this]
def aX(b:List UInt8):Bool×List E×Int:=
 if cu b≠0 then(false,[],cu b)else if UZ (cZ b)=true then(m9 (cZ b),lB (cZ b),0)else(false,[],14)
def bj(leaf:Bool)(l:List E):List UInt8×Int:=
 if mayB l leaf=true then(if 0<=jC (iE leaf l)then(ofL (iE leaf l),0)else([],11))else([],2)
theorem Ao(l:List (List UInt8))(h:0<=jC l):∀k,k<=l.length->Sound (Ih l k)/\cZ (Ih l k)=l.take k
 |0,_=>⟨qg.1,by rw[jb];exact qg.2.1⟩
 |k+1,hk=>by
  obtain⟨s,r⟩:=Ao l h k (by omega);have e:l.getD k []=l[k]:=by rw[gH,aL (by omega)];rfl
  have h1:=zY l k (by omega);have h2:=zZ l (k+1);obtain⟨_,a,b⟩:=NW s k l[k] (by rw[r];omega) (by rw[r,bm];omega);unfold Ih;rw[e];refine⟨a,?_⟩;rw[b,r,gC (by omega),cy (by rw[bm];omega),lJ (by rw[bm];omega)]
theorem wj(l:List (List UInt8))(h:0<=jC l):Sound (ofL l)/\cZ (ofL l)=l:=by
 have:=Ao l h l.length (ak _);rw[fw]at this;exact this
theorem xG(leaf:Bool)(l:List E):(bj leaf l).1.length<=232:=by
 unfold bj
 split
 .split
  .rename_i h;exact Nat.le_of_eq (wj _ h).1.len
  .exact aY _
 .exact aY _
theorem Iq(b:List UInt8):(aX b).2.1.length<=57:=by
 unfold aX
 split
 .exact aY _
 .rename_i h
  split
  .have hs:Sound b:=(eH b).1 (by simpa using h);have h1:=hs.head;have h2:=hs.heap;show(lB (cZ b)).length<=57;unfold lB;rw[fo,List.length_tail,cV];omega
  .exact aY _
theorem xH{b:List UInt8}(h:(aX b).2.2=0):dN (aX b).2.1 (aX b).1:=by
 unfold aX at h ⊢
 split at h
 .rename_i h2;exact absurd h h2
 .rename_i h2;rw[if_neg h2]
  split at h
  .rename_i h3;rw[if_pos h3];exact((rm _).1 h3).2.2
  .exact absurd h (by decide)
theorem Ir(h:(bj leaf l).2=0):aX (bj leaf l).1=(leaf,l,0):=by
 unfold bj at h ⊢
 split at h
 .rename_i hm;rw[if_pos hm]
  split at h
  .rename_i hr;rw[if_pos hr];obtain⟨s,r⟩:=wj _ hr;have Kc:=(lD _ _).1 hm;unfold aX;rw[if_neg (by rw[(eH _).2 s];simp),r,if_pos ((rm _).2 (Il Kc)),Aj,Ai Kc]
  .exact absurd h (by decide)
 .exact absurd h (by decide)
def bl(l:List E)(key:ByteArray):Nat:=l.findIdx λe=>decide (0<=rM e key)
def cF(l:List E)(key:ByteArray):Bool:=match l[bl l key]? with
 |none=>false
 |some e=>decide (rM e key=0)
def bP(l:List E)(key:ByteArray):Nat:=if cF l key=true then bl l key else bl l key-1
def bU(l:List E):Nat:=((List.range l.length).find? λt=>decide (1<=t) && (List.range l.length).all λj=>decide (j=0) || decide (ky l t<=ky l j)).getD 1
theorem NZ{t:Nat}(h:wh l l.length t):bU l=t:=by
 obtain⟨h1,h2,h3,h4⟩:=h;unfold bU;have:(List.range l.length).find? (λt=>decide (1<=t) && (List.range l.length).all λj=>decide (j=0) || decide (ky l t<=ky l j))=some t:=by
  rw[List.find?_eq_some_iff_append];refine⟨?_,List.range t,(List.range (l.length-t-1)).map (· +(t+1)),?_,λa ha=>?_⟩
  .simp only[im,decide_eq_true_eq,r5,wW,kR];exact⟨h1,λj hj=>by
    by_cases h0:j=0
    .exact .inl h0
    .exact .inr (h3 j (by omega) hj)⟩
  .apply vg
   .simp;omega
   .intro i hi1 NI;rw[yJ,List.getElem_append];simp only[Eb]
    split
    .rw[yJ]
    .rename_i hi;rw[List.getElem_cons]
     split
     .omega
     .simp;omega
  .have ha:=kR.1 ha
   by_cases h0:a=0
   .subst h0;simp
   .have:=h4 a (by omega) ha;simp only[Bool.not_eq_true',Bool.and_eq_false_iff];right;rw[Bool.eq_false_iff];intro hc;rw[r5]at hc;have:=hc t (kR.2 h2);simp only[wW,decide_eq_true_eq]at this;omega
 rw[this];rfl
theorem Ap(hm:dN l leaf)(h:rl l key k):bl l key=k:=by
 unfold bl;obtain⟨h1,h2,h3⟩:=h;have hp:=Mo hm ⟨h1,h2,h3⟩
 rcases eR k l.length with hk|hk
 .have hkk:=aL hk;rw[List.findIdx_eq hk];refine⟨by simpa using h3 _ hkk,λj hj=>?_⟩;have:=(hp j _ (aL (by omega))).2 hj;simpa using this
 .obtain rfl:k=l.length:=by omega
  rw[List.findIdx_eq_length];intro e he;obtain⟨j,hj,rfl⟩:=oq he;have:=(hp j _ (aL hj)).2 hj;simpa using this
theorem wk(h:bl l key=k):cF l key=true↔Dl l key k:=by
 unfold cF Dl;rw[h]
 cases l[k]? with
 |none=>simp
 |some e=>simp
section
open Go.RowKit
theorem Vc(s:ByteArray)(w:World)(hs:s.size<=1000000):
  Calls prog 122 #[.string s] w λe w'=> ∃A c,e=.returned (.tuple #[bA (aX s.data.toList).1 A (aX s.data.toList).2.1.length c,.int .i64 (aX s.data.toList).2.2])/\
   aT w' 111 3 (.slice A (aX s.data.toList).2.1.length c) (aX s.data.toList).2.1.length (aH (aX s.data.toList).2.1)/\(∀g∈ai (.slice A (aX s.data.toList).2.1.length c),w.heap.size<=g)/\Below w.heap.size w w':=by
 refine(got_any s w hs).mono ?_;unfold aX;rintro e w' (⟨h1,rfl,hb⟩|⟨h1,h2,hb⟩)
 .rw[if_pos h1];exact⟨none,0,rfl,aT.nil _ _ _,by simp[ai],hb⟩
 .rw[if_neg (by simpa using h1)]
  rcases h2 with⟨h2,rfl⟩|⟨h2,A,n,c,rfl,S,f⟩
  .rw[if_neg (λh=>h2 ((rm _).1 h))];exact⟨none,0,rfl,aT.nil _ _ _,by simp[ai],hb⟩
  .rw[if_pos ((rm _).2 h2)];have hn:=S.1;rw[aw]at hn;obtain rfl:(lB (cZ s.data.toList)).length=n:=by omega
   exact⟨A,c,rfl,S,f.o,hb⟩
theorem Aq(leaf:Bool)(A:Option Addr)(n c:Nat)(l:List E)(h:oW w A n l)(hn:n<=1000):
  Calls prog 68 #[bA leaf A n c] w λe w'=>e=.returned (.tuple #[.string ⟨(bj leaf l).1.toArray⟩,.int .i64 (bj leaf l).2])/\Below w.heap.size w w':=by
 unfold bj
 by_cases hm:dN l leaf
 .rw[if_pos ((lD _ _).2 hm)];refine(put_yes leaf A n c l h hn hm).mono ?_;rintro e w' ⟨h1|h1,hb⟩
  .obtain⟨h0,b,rfl,_,_,he⟩:=h1;rw[if_pos h0];refine⟨?_,hb⟩;rw[show(⟨(ofL (iE leaf l)).toArray⟩:ByteArray)=b by rw[<-he]]
  .obtain⟨h0,rfl⟩:=h1;rw[if_neg (by omega)];exact⟨rfl,hb⟩
 .rw[if_neg (λh=>hm ((lD _ _).1 h))];exact put_no leaf A n c l h (by omega) hm
theorem wo(leaf:Bool)(A:Option Addr)(n c:Nat)(l:List E)(key:ByteArray)(h:oW w A n l)(hn:n<=1000000)(hm:dN l leaf):
  Calls prog 64 #[bA leaf A n c,.string key] w λr w'=>r=.returned (.tuple #[.int .i64 (bl l key:Nat),.bool (cF l key)])/\Below w.heap.size w w':=by
 refine(iS leaf A n c l key h hn).mono ?_;rintro e w' ⟨⟨k,b,rfl,h1,h2⟩,hb⟩;have hk:=Ap hm h1;refine⟨?_,hb⟩;rw[hk];have:cF l key=b:=by
  rw[Bool.eq_iff_iff,wk hk,h2]
 rw[this]
theorem Ar(leaf:Bool)(A:Option Addr)(n c:Nat)(l:List E)(key:ByteArray)(h:oW w A n l)(hn:n<=1000000)(hm:dN l leaf):
  Calls prog 110 #[bA leaf A n c,.string key] w λr w'=>r=.returned (.int .i64 (bP l key:Nat))/\Below w.heap.size w w':=by
 refine(QG leaf A n c l key h hn).mono ?_;rintro e w' ⟨⟨m,rfl,k,h1,h2⟩,hb⟩;have hk:=Ap hm h1;refine⟨?_,hb⟩;unfold bP;rw[hk]
 rcases h2 with⟨h2,rfl⟩|⟨h2,rfl⟩
 .rw[if_pos ((wk hk).2 h2)]
 .rw[if_neg (λh=>h2 ((wk hk).1 h))]
end
end Nd
end Go.Proofs.YtmonobkginiajaaGreat
