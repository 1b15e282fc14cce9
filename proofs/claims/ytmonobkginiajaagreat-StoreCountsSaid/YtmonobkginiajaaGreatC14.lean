/- packed. -/
import Derived.Test.YtmonobkginiajaaGreatC13
import Derived.Deep.RegionHeld3
import Derived.Deep.DrawnRows
import Derived.Deep.Cut
import Derived.Laws.ResultCell
set_option linter.all false
set_option maxRecDepth 100000
set_option maxHeartbeats 8000000
namespace Go.Proofs.YtmonobkginiajaaGreat.Sl
open Go.RowKit
attribute [local go_sem ↓] aW
theorem sP(l:List (List UInt8))(k:Nat)(h:k<l.length):fT (l.take (k+1))=fT (l.take k)-4-(l[k].length:Int):=by
 unfold fT;rw[iD h,eh,qS];simp;omega
theorem sQ(l:List (List UInt8))(k:Nat):fT l<=fT (l.take k):=by
 unfold fT;have:((l.take k).map λr=>4+r.length).sum<=(l.map λr=>4+r.length).sum:=by
  rw[rE];exact qs _ k
 omega
def yA(l:List (List UInt8)):Nat->List UInt8
 |0=>iX
 |k+1=>m8 (yA l k) k (l.getD k [])
def ofL(l:List (List UInt8)):List UInt8:=yA l l.length
def Iy(l:List (List UInt8))(w:World)(e:Ending)(w':World):Prop:=
 ((0<=fT l/\∃b:ByteArray,e=.returned (.tuple #[.string b,.int .i64 0])/\Sound b.data.toList/\bQ b.data.toList=l/\b.data.toList=ofL l)\/(fT l<0/\e=.returned (.tuple #[.string ⟨#[]⟩,.int .i64 11])))/\Below w.heap.size w w'
theorem Iz{w:World}{v:Value}{l:List (List UInt8)}(S:aQ w 9 1 v l.length (strs l))(hl:l.length<=1000000)(hm:∀r∈l,r.length<=1000000):
  Calls Tryz.prog 119 #[v] w (Iy l w):=by
 obtain⟨A,c,rfl⟩:=aq S;have SS:=xh S;obtain⟨s0,r0,-,-⟩:=lI;obtain⟨T0,h0⟩:=Iw iX;have KE:=xh (l8 w);rw[<-h0,CS]at KE;rw[<-h0]at s0 r0;have HS:=xh (show Sound T0.data.toList/\bQ T0.data.toList=l.take 0/\T0.data.toList=yA l 0 from⟨s0,r0,h0⟩);have HM:=xh (show ∀k (h:k<l.length),l[k].length<=1000000 from λk h=>hm _ (ik h));have HR:=xh (λk h=>sP l k h);have HMO:=xh (λk=>sQ l k)
 have HAL:=xh (show l.take l.length=l from jO);have HZ:=xh (show 0<=fT (l.take 0)from by rw[gJ];decide);clear S s0 r0 h0 hm;go_enter Tryz.func119,Tryz.ntmps119;go_wp2_with fail;refine KE.o.mono ?_;rintro e w1 ⟨rfl,aL⟩;have S1:=xh (SS.o.below aL);have O1:=xh aL;clear aL SS;go_wp2_with fail
 go_loopw [4,12] (λbv iv wr=> ∃(k:Nat) (b:ByteArray),k<=l.length/\bv=.string b/\iv=.int .i64 k/\Hid (Sound b.data.toList/\bQ b.data.toList=l.take k/\b.data.toList=yA l k)/\Hid (0<=fT (l.take k))/\aQ wr 9 1 (.slice A l.length c) l.length (strs l)/\Below w.heap.size w wr) (λ_ iv _=>l.length-(intOf iv).toNat)
 case atStart=>exact⟨0,T0,bm _,rfl,rfl,HS,HZ,S1.o,O1.o⟩
 case round=>
  obtain⟨k,b,hk,rfl,rfl,HB,HP,S,O⟩:=hrel;have OO:=xh O;have SS:=xh S;clear S O
  by_cases h:k<l.length
  .obtain⟨g,rfl,ck⟩:=iN SS.o k h;have hrk:=HM.o k h;have HRk:=xh (HR.o k h);have HMk:=xh (HMO.o (k+1));obtain⟨R,hR⟩:=Iw l[k];have HST:=xh (show l.take (k+1)=l.take k++[R.data.toList]from by rw[iD h,hR]);rw[<-hR]at ck hrk HRk;rw[CS]at ck;have hRl:R.data.toList.length=R.size:=by simp
   rw[hRl]at hrk HRk;have hs:=HB.o.1;have mS:b.size=232:=by have:=hs.len;simpa using this
   have KI:=xh (λw'=>Bz b R k w' (by omega) (by omega));have hlen:(bQ b.data.toList).length=k:=by rw[HB.o.2.1,cE];omega
   have hki:(k:Int)<(l.length:Int):=by omega
   by_cases hf:0<=fT (l.take (k+1))
   .obtain⟨i1,s1,r1⟩:=CT hs k R.data.toList (by rw[HB.o.2.1,hRl];have:=HRk.o;omega) (by omega);obtain⟨T,hT⟩:=Iw (m8 b.data.toList k R.data.toList);rw[<-hT]at i1 s1 r1;rw[i1,CS]at KI;have Ey:=xh (show Sound T.data.toList/\bQ T.data.toList=l.take (k+1)/\T.data.toList=yA l (k+1)from⟨s1,by
     rw[r1,HST.o,HB.o.2.1];rw[bJ (by rw[cE];omega),jY (by rw[cE];omega)],by
     rw[hT,hR,HB.o.2.2];show m8 _ k l[k]=m8 _ k (l.getD k []);rw[ig,aN h];rfl⟩)
    have HF:=xh hf;clear i1 s1 r1 hT hs mS hlen hf hR hRl;go_wp2_with fail;refine(KI.o _).mono ?_;rintro e w2 ⟨rfl,bK⟩;have S2:=xh (SS.o.below bK);have O2:=xh (ao OO.o bK);clear bK;go_wp2_with fail;go_roundw
    case rel=>exact⟨k+1,T,by omega,rfl,by go_num,Ey,HF,S2.o,O2.o⟩
    case measure=>simp[intOf];omega
   .have i1:=BC hs k R.data.toList (by rw[HB.o.2.1,hRl];have:=HRk.o;omega) (by omega);rw[i1]at KI;have HF:=xh (show fT l<0 from by have:=HMk.o;omega);clear i1 hs mS hlen hf hR hRl;go_wp2_with fail;refine(KI.o _).mono ?_;rintro e w2 ⟨rfl,bK⟩;have O2:=xh (ao OO.o bK);clear bK;go_wp2_with fail;go_ret2;exact⟨.inr ⟨HF.o,rfl⟩,O2.o⟩
  .have ub:=xh (show k=l.length by omega);go_wp2_with fail;go_ret2;refine⟨.inl ⟨?_,b,rfl,HB.o.1,?_,by rw[HB.o.2.2,ub.o];rfl⟩,OO.o⟩
   .have:=HP.o;rw[ub.o,HAL.o]at this;exact this
   .rw[HB.o.2.1,ub.o,HAL.o]
end Go.Proofs.YtmonobkginiajaaGreat.Sl
namespace Go.Proofs.YtmonobkginiajaaGreat.Nd
open Go.RowKit Sl
variable{s:ByteArray}
structure E where
 key:ByteArray
 val:ByteArray
 aY:Int
def E.agg(e:E):Value:= .agg #[.string e.key,.string e.val,.int .i64 e.aY]
def E.cells(e:E):List Value:=[.string e.key,.string e.val,.int .i64 e.aY]
def cn(e:E)(leaf:Bool):Prop:=e.key.size<=32/\e.val.size<=40/\(if leaf=true then -1 else 0)<=e.aY/\e.aY<512/\(e.aY<0\/e.val.size=0)
instance(e:E)(leaf:Bool):Decidable (cn e leaf):=by unfold cn;exact inferInstance
theorem uV(h:s.size=0):s= .empty:=by
 apply nA;exact Array.eq_empty_of_size_eq_zero h
theorem pL(h:s.size≠0):s.toList.isEmpty=false:=by
 cases e:s.toList with
 |nil=>
  refine absurd ?_ h;rw[dk]at e;show s.data.size=0;rw[<-FH,e];rfl
 |cons a l=>rfl
theorem pw(w:World)(e:E)(leaf:Bool):
  Calls Tryz.prog 162 #[e.agg,.bool leaf] w λr w'=>r=.returned (.bool (decide (cn e leaf)))/\Below w.heap.size w w':=by
 have O0:=xh ((Below.refl w.heap.size w).alloc (ak _) (.cells #[.string e.key,.string e.val,.int .i64 e.aY] 111));have B0:=aD.new w 111 #[.string e.key,.string e.val,.int .i64 e.aY];have c0:=B0.ab (i:=0) rfl;have c1:=B0.ab (i:=1) rfl;have c2:=B0.ab (i:=2) rfl;clear B0;obtain⟨b,hb⟩:∃b,b=decide (cn e leaf):=⟨_,rfl⟩;rw[<-hb]
 replace hb:=xh hb
 unfold E.agg;obtain⟨key,val,aY⟩:=e;dsimp only at *
 by_cases hv:val.size=0
 .have nP:=xh hv;obtain rfl:=uV hv
  cases leaf
  all_goals
   go_enter Tryz.func162,Tryz.ntmps162;go_wp2_with fail
  all_goals
   go_ret;refine⟨?_,O0.o⟩;have h:=hb.o;have hv3:=nP.o
   first
    |(rw[decide_eq_true (by unfold cn;dsimp only;simp only[lq,if_false,if_true];omega)]at h;subst h;rfl)
    |(rw[decide_eq_false (by unfold cn;dsimp only;simp only[lq,if_false,if_true];omega)]at h;subst h;rfl)
 .have nP:=pL hv;have hv3:=xh hv;clear hv
  by_cases hf:aY<0
  all_goals
   cases leaf
  all_goals
   go_enter Tryz.func162,Tryz.ntmps162;go_wp2_with fail
  all_goals
   go_ret;refine⟨?_,O0.o⟩;have h:=hb.o;have hv4:=hv3.o
   first
    |(rw[decide_eq_true (by unfold cn;dsimp only;simp only[lq,if_false,if_true];omega)]at h;subst h;rfl)
    |(rw[decide_eq_false (by unfold cn;dsimp only;simp only[lq,if_false,if_true];omega)]at h;subst h;rfl)
end Go.Proofs.YtmonobkginiajaaGreat.Nd
namespace Go.Proofs.YtmonobkginiajaaGreat.Nd
open Go.RowKit Sl
attribute [local go_sem ↓] Go.wp_at_zero Go.wp_at_succ
variable{w w':World}{A:Option Addr}{n:Nat}{l:List E}
theorem ae{W w1:World}(h:Below W.heap.size W w1)(o:Obj):Below W.heap.size W (w1.alloc o):=h.alloc h.size o
structure uW(w:World)(ad:Addr)(e:E):Prop where
 c0:w.cell? ad=some (.string e.key)
 c1:w.cell? ⟨ad.block,ad.off+1,none⟩=some (.string e.val)
 c2:w.cell? ⟨ad.block,ad.off+2,none⟩=some (.int .i64 e.aY)
def kW(w:World)(A:Option Addr)(n:Nat)(l:List E):Prop:=l.length=n/\∀k e,l[k]?=some e->∃ad,A=some ad/\uW w (ad.add (k*3)) e
theorem uW.below{ad:Addr}{e:E}(h:uW w ad e)(hb:Below w.heap.size w w'):uW w' ad e:=by
 have eT:=db h.c0;exact⟨(hb.cell eT).trans h.c0,(hb.cell (p:=⟨ad.block,ad.off+1,none⟩) eT).trans h.c1,(hb.cell (p:=⟨ad.block,ad.off+2,none⟩) eT).trans h.c2⟩
theorem kW.below(h:kW w A n l)(hb:Below w.heap.size w w'):kW w' A n l:=by
 refine⟨h.1,λk e he=>?_⟩;obtain⟨ad,e1,h1⟩:=h.2 k e he;exact⟨ad,e1,h1.below hb⟩
theorem kW.at(h:kW w A n l)(k:Nat)(hk:k<n):∃ad e,A=some ad/\l[k]?=some e/\uW w (ad.add (k*3)) e:=by
 have hl:=h.1;obtain⟨ad,e1,h1⟩:=h.2 k l[k] (aN (by omega));exact⟨ad,l[k],e1,aN (by omega),h1⟩
def leB(a b:ByteArray):Bool:=Op.bytesLess a.toList b.toList || a.toList==b.toList
def okAt(l:List E)(leaf:Bool)(i:Nat):Prop:= ∀e,l[i]?=some e->cn e leaf/\(0<i->∀p,l[i-1]?=some p->leB e.key p.key=false)
def cu(l:List E)(leaf:Bool):Prop:= ∀i,i<l.length->okAt l leaf i
def aV(leaf:Bool)(A:Option Addr)(n c:Nat):Value:= .agg #[.bool leaf,.slice A n c]
theorem mi(leaf:Bool)(A:Option Addr)(n c:Nat)(l:List E)(h:kW w A n l)(hn:n<=9223372036854775807):
  Calls Tryz.prog 117 #[aV leaf A n c] w λr w'=>(∃b,r=.returned (.bool b)/\(b=true↔cu l leaf))/\Below w.heap.size w w':=by
 have O0:=(Below.refl w.heap.size w).alloc (ak _) (.cells #[.bool leaf,.slice A n c] 118);have B0:=xh (aD.new w 118 #[.bool leaf,.slice A n c]);have hl:=xh h.1;have H0:=xh (h.below O0);have O0:=xh O0;clear h;have c1:=B0.o.ab (i:=1) rfl;unfold aV;go_enter Tryz.func117,Tryz.ntmps117;go_wp2_with fail;generalize (w.alloc (.cells #[.bool leaf,.slice A n c] 118))=W at *;clear c1
 go_loopw [8] (λiv wr=> ∃i:Nat,i<=n/\iv=.int .i64 i/\(∀j,j<i->okAt l leaf j)/\Below W.heap.size W wr) (λiv _=>n-(intOf iv).toNat)
 case atStart=>exact⟨0,by omega,rfl,λj hj=>absurd hj (jP j),Below.refl _ _⟩
 case round=>
  obtain⟨i,hi,rfl,ef,hb⟩:=hrel
  by_cases h:i<n
  .obtain⟨ad,e,rfl,he,AT⟩:=(H0.o.below hb).at i h;have HB:=xh hb;have zF:=xh ef;have b0:=(B0.o.below hb B0.o.lt).ab (i:=0) rfl;have b1:=(B0.o.below hb B0.o.lt).ab (i:=1) rfl;have a0:=AT.c0;have a1:=AT.c1;have a2:=AT.c2;clear hb ef;have lk:=ae (Below.refl wr.heap.size wr) (.cells #[.string e.key,.string e.val,.int .i64 e.aY] 111);have BE:=xh (aD.new wr 111 #[.string e.key,.string e.val,.int .i64 e.aY]);have Ey:=xh (ao HB.o lk)
   have HE:=xh ((H0.o.below HB.o).below lk);have HN:=xh ((B0.o.below HB.o B0.o.lt).below lk (B0.o.below HB.o B0.o.lt).lt);clear lk AT;have hnn:(i:Int)<(n:Int):=by omega
   go_wp2_with fail;generalize hwA:(wr.alloc (.cells #[.string e.key,.string e.val,.int .i64 e.aY] 111))=wA at *;clear hwA a0 a1 a2 b0 b1;have x0:=BE.o.ab (i:=0) rfl;have x1:=BE.o.ab (i:=1) rfl;have x2:=BE.o.ab (i:=2) rfl;have y0:=HN.o.ab (i:=0) rfl;have y1:=HN.o.ab (i:=1) rfl;have hyx:wr.heap.size<wA.heap.size:=BE.o.lt
   have HK:=xh (show ∀W',Below wA.heap.size wA W'->(Below wA.heap.size wA W'/\W'.cell? ⟨wr.heap.size,0,none⟩=some (.string e.key)/\W'.cell? ⟨wr.heap.size,1,none⟩=some (.string e.val)/\W'.cell? ⟨wr.heap.size,2,none⟩=some (.int .i64 e.aY)/\W'.cell? ⟨w.heap.size,0,none⟩=some (.bool leaf)/\W'.cell? ⟨w.heap.size,1,none⟩=some (.slice (some ad) n c))from λW' hb=>⟨hb,(Below.cell hb BE.o.lt).trans x0,(Below.cell hb BE.o.lt).trans x1,(Below.cell hb BE.o.lt).trans x2,(Below.cell hb HN.o.lt).trans y0,(Below.cell hb HN.o.lt).trans y1⟩)
   have d0:Below wA.heap.size wA wA.drew:=(Below.refl _ _).drew;have HF:=xh (And.intro zF.o (And.intro he (And.intro hl.o O0.o)));have KR:=xh (λw'=>pw w' e leaf)
   rcases Bool.eq_false_or_eq_true (decide (cn e leaf))with hr|hr
   .rw[hr]at KR
    by_cases zD:i=0
    .subst zD;refine wp_region_held_drew (S:=(λw'=>Below wA.heap.size wA w'/\w'.cell? ⟨wr.heap.size,0,none⟩=some (.string e.key)/\w'.cell? ⟨wr.heap.size,1,none⟩=some (.string e.val)/\w'.cell? ⟨wr.heap.size,2,none⟩=some (.int .i64 e.aY)/\w'.cell? ⟨w.heap.size,0,none⟩=some (.bool leaf)/\w'.cell? ⟨w.heap.size,1,none⟩=some (.slice (some ad) n c))) (by kernel_rfl) (HK.o _ d0) (λaw=>?_);refine dq [(0,13),(1,14),(2,15)] ?_
     iterate 3 refine za ?_
     refine zd 3 16 λK hK=>?_;go_simp
     go_at_call 162
     refine(KR.o _).mono ?_;rintro r w1 ⟨rfl,aL⟩;have bK:=ao (show Below wA.heap.size wA _ from aw.1) aL;go_simp;refine zh hK (HK.o _ bK) (λaw=>?_);refine dq [(4,17),(5,18),(6,19),(7,20),(8,21)] ?_
     iterate 5 refine za ?_
     refine zc 9 22 ?_;refine zc 10 23 ?_;refine zc 11 24 ?_;refine zc 12 25 ?_;refine zc 13 26 ?_;refine zc 14 27 ?_;refine zc 15 28 ?_;refine zc 16 29 ?_;refine zc 17 30 ?_;refine zc 18 31 ?_;refine dq [(19,32),(20,33)] ?_
     iterate 2 refine za ?_
     refine wpAnyH_done (by kernel_rfl) ?_ _;go_wp2_with fail;obtain⟨f1,f2,f3,f4⟩:=HF.o;refine⟨⟨0+1,by omega,rfl,?_,ao Ey.o aw.1⟩,by simp[intOf];omega⟩;intro j hj e' sR;obtain rfl:j=0:=by omega
     rw[f2]at sR;injection sR with sR
     subst sR;exact⟨of_decide_eq_true hr,λh0=>absurd h0 (qU _)⟩
    .obtain⟨ad',p,e',hp,AP⟩:=HE.o.at (i-1) (by omega);injection e' with e'
     subst e';have q0:=AP.c0;have HK:=xh (show ∀W',Below wA.heap.size wA W'->(Below wA.heap.size wA W'/\W'.cell? ⟨wr.heap.size,0,none⟩=some (.string e.key)/\W'.cell? ⟨wr.heap.size,1,none⟩=some (.string e.val)/\W'.cell? ⟨wr.heap.size,2,none⟩=some (.int .i64 e.aY)/\W'.cell? ⟨w.heap.size,0,none⟩=some (.bool leaf)/\W'.cell? ⟨w.heap.size,1,none⟩=some (.slice (some ad) n c)/\W'.cell? (ad.add ((i-1)*3))=some (.string p.key))from λW' hb=>by
      obtain⟨h1,h2,h3,h4,h5,h6⟩:=HK.o W' hb;exact⟨h1,h2,h3,h4,h5,h6,(hb.cell (db q0)).trans q0⟩)
     have e1:IntKind.i64.wrap ((i:Int)-1)=(i:Int)-1:=IntWalk.i64_in _ (by omega);have e2:(0:Int)<=(i:Int)-1:=by omega
     have e3:(i:Int)-1<(n:Int):=by omega
     have e4:((i:Int)-1).toNat=i-1:=by omega
     have e5:(0:Int)<(i:Int):=by omega
     have e6:(1:Int)<=(i:Int):=by omega
     refine wp_region_held_drew (S:=(λw'=>Below wA.heap.size wA w'/\w'.cell? ⟨wr.heap.size,0,none⟩=some (.string e.key)/\w'.cell? ⟨wr.heap.size,1,none⟩=some (.string e.val)/\w'.cell? ⟨wr.heap.size,2,none⟩=some (.int .i64 e.aY)/\w'.cell? ⟨w.heap.size,0,none⟩=some (.bool leaf)/\w'.cell? ⟨w.heap.size,1,none⟩=some (.slice (some ad) n c)/\w'.cell? (ad.add ((i-1)*3))=some (.string p.key))) (by kernel_rfl) (HK.o _ d0) (λaw=>?_);refine dq [(0,13),(1,14),(2,15)] ?_
     iterate 3 refine za ?_
     refine zd 3 16 λK hK=>?_;go_simp
     go_at_call 162
     refine(KR.o _).mono ?_;rintro r w1 ⟨rfl,aL⟩;have bK:=ao (show Below wA.heap.size wA _ from aw.1) aL;go_simp;refine zh hK (HK.o _ bK) (λaw=>?_);refine dq [(4,17),(5,18),(6,19)] ?_
     iterate 3 refine za ?_
     refine zg 7 20 (.bool true) ?_ ?_
     ·(intro w kl;(try dsimp only at kl);go_simp;(try omega))
     refine dq [(8,21),(9,22),(10,23),(11,24),(12,25),(13,26),(14,27),(15,28),(16,29),(17,30),(18,31),(19,32),(20,33)] ?_
     iterate 13 refine za ?_
     refine wpAnyH_done (by kernel_rfl) ?_ _;go_wp2_with fail
     .rename_i hx;obtain⟨f1,f2,f3,f4⟩:=HF.o;go_ret;refine⟨⟨false,rfl,?_⟩,ao (ao f4 Ey.o) aw.1⟩;simp only[lq,false_iff];intro hm;have h1:=(hm i (by omega) e f2).2 (by omega) p hp;unfold leB at h1
      rcases hx with hx|hx
      .rw[hx]at h1;simp at h1
      .rw[hx]at h1;simp at h1
     .rename_i hx;obtain⟨f1,f2,f3,f4⟩:=HF.o;refine⟨⟨i+1,by omega,rfl,?_,ao Ey.o aw.1⟩,by simp[intOf];omega⟩;intro j hj
      rcases lW.1 hj with h1|rfl
      .exact f1 j h1
      .intro e' sR;rw[f2]at sR;injection sR with sR
       subst sR;refine⟨of_decide_eq_true hr,λ_ p' hp'=>?_⟩;rw[hp]at hp';injection hp' with hp'
       subst hp';unfold leB;rw[hx.1,hx.2];rfl
   .rw[hr]at KR;refine wp_region_held_drew (S:=(λw'=>Below wA.heap.size wA w'/\w'.cell? ⟨wr.heap.size,0,none⟩=some (.string e.key)/\w'.cell? ⟨wr.heap.size,1,none⟩=some (.string e.val)/\w'.cell? ⟨wr.heap.size,2,none⟩=some (.int .i64 e.aY)/\w'.cell? ⟨w.heap.size,0,none⟩=some (.bool leaf)/\w'.cell? ⟨w.heap.size,1,none⟩=some (.slice (some ad) n c))) (by kernel_rfl) (HK.o _ d0) (λaw=>?_);refine dq [(0,13),(1,14),(2,15)] ?_
    iterate 3 refine za ?_
    refine zd 3 16 λK hK=>?_;go_simp
    go_at_call 162
    refine(KR.o _).mono ?_;rintro r w1 ⟨rfl,aL⟩;have bK:=ao (show Below wA.heap.size wA _ from aw.1) aL;go_simp;refine zh hK (HK.o _ bK) (λaw=>?_);refine dq [(4,17),(5,18)] ?_
    iterate 2 refine za ?_
    refine zc 6 19 ?_;refine zc 7 20 ?_;refine zc 8 21 ?_;refine zc 9 22 ?_;refine zc 10 23 ?_;refine zc 11 24 ?_;refine zc 12 25 ?_;refine zc 13 26 ?_;refine zc 14 27 ?_;refine zc 15 28 ?_;refine zc 16 29 ?_;refine zc 17 30 ?_;refine zc 18 31 ?_;refine zc 19 32 ?_;refine dq [(20,33)] ?_
    iterate 1 refine za ?_
    refine wpAnyH_done (by kernel_rfl) ?_ _;go_wp2_with fail;obtain⟨f1,f2,f3,f4⟩:=HF.o;go_ret;refine⟨⟨false,rfl,?_⟩,ao (ao f4 Ey.o) aw.1⟩;simp only[lq,false_iff];intro hm;exact of_decide_eq_false hr (hm i (by omega) e f2).1
  .go_wp2_with fail;go_ret;refine⟨⟨true,rfl,?_⟩,ao O0.o hb⟩;simp only[true_iff];intro k hk;have:=hl.o;exact ef k (by omega)
def jG(s:ByteArray):Nat:=(s.data.toList.getD 0 0).toNat
def fi(s:ByteArray):Prop:=3+jG s<=s.size
def eY(s:ByteArray):E:=⟨s.extract 1 (1+jG s),s.extract (3+jG s) s.size,(bl s.data.toList (1+jG s):Int)-1⟩
def E.zero:E:=⟨.empty,.empty,0⟩
theorem kr{fn:Func}{p u:Tmp}{w:World}{g:Nat}{a b:ByteArray}{c:Int}{tmps:Array Value}(h:fn.results= #[.cell p 111,.tmp u])(hp:tmps.getD p undef=.pointer (some ⟨g,0,none⟩))(B:aD w g 111 #[.string a,.string b,.int .i64 c]):
  (results fn tmps).run Tryz.prog w=.ok (.tuple #[.agg #[.string a,.string b,.int .i64 c],tmps.getD u undef]) w:=by
 have c0:=B.ab (i:=0) rfl;have c1:=B.ab (i:=1) rfl;have c2:=B.ab (i:=2) rfl;rw[results_cell_tmp h,hp];clear h hp B;go_simp
theorem yB(w:World)(s:ByteArray)(h:¬fi s):
  Calls Tryz.prog 170 #[.string s] w λr w'=>r=.returned (.tuple #[E.zero.agg,.bool false])/\Below w.heap.size w w':=by
 have O0:=xh ((Below.refl w.heap.size w).alloc (ak _) (.cells #[.string .empty,.string .empty,.int .i64 0] 111));have B0:=xh (aD.new w 111 #[.string .empty,.string .empty,.int .i64 0]);unfold E.agg E.zero
 by_cases hs:s.size=0
 .obtain rfl:=uV hs;go_enter Tryz.func170,Tryz.ntmps170;go_wp2_with fail;exact bodyPost_ret (kr rfl rfl B0.o) rfl ⟨rfl,O0.o⟩
 .have hs2:=pL hs;have h0:0<s.size:=by omega
  have h1:(0:Int)<(s.size:Int):=by omega
  have hk:jG s=s[0].toNat:=by unfold jG;rw[cm _ _ h0]
  unfold fi at h;rw[hk]at h;have b0:=s[0].toNat_lt;have h2:(s.size:Int)<3+(s[0].toNat:Int):=by omega
  have e4:IntKind.i64.wrap (s[0].toNat:Int)=(s[0].toNat:Int):=IntWalk.i64_in _ (by omega);have e5:IntKind.i64.wrap (3+(s[0].toNat:Int))=3+(s[0].toNat:Int):=IntWalk.i64_in _ (by omega);go_enter Tryz.func170,Tryz.ntmps170;go_wp2_with fail;exact bodyPost_ret (kr rfl rfl B0.o) rfl ⟨rfl,O0.o⟩
theorem uX(w:World)(s:ByteArray)(h:fi s)(hs:s.size<=1000000):
  Calls Tryz.prog 170 #[.string s] w λr w'=>r=.returned (.tuple #[(eY s).agg,.bool true])/\Below w.heap.size w w':=by
 have O0:=xh ((Below.refl w.heap.size w).alloc (ak _) (.cells #[.string .empty,.string .empty,.int .i64 0] 111));have B0:=xh (aD.new w 111 #[.string .empty,.string .empty,.int .i64 0]);unfold fi at h;have hs2:=pL (s:=s) (by omega);have h0:0<s.size:=by omega
 have h1:(0:Int)<(s.size:Int):=by omega
 have hk:jG s=s[0].toNat:=by unfold jG;rw[cm _ _ h0]
 rw[hk]at h;have hE:=xh (show(eY s).agg=.agg #[.string (s.extract 1 (1+s[0].toNat)),.string (s.extract (3+s[0].toNat) s.size),.int .i64 ((bl s.data.toList (1+s[0].toNat):Int)-1)]from by unfold E.agg eY;rw[hk]);have b0:=s[0].toNat_lt;have h2:¬(s.size:Int)<3+(s[0].toNat:Int):=by omega
 have e4:IntKind.i64.wrap (s[0].toNat:Int)=(s[0].toNat:Int):=IntWalk.i64_in _ (by omega);have e5:IntKind.i64.wrap (3+(s[0].toNat:Int))=3+(s[0].toNat:Int):=IntWalk.i64_in _ (by omega);have e6:IntKind.i64.wrap (1+(s[0].toNat:Int))=1+(s[0].toNat:Int):=IntWalk.i64_in _ (by omega);go_enter Tryz.func170,Tryz.ntmps170;go_wp2_with fail;obtain⟨k,hkk⟩:∃k,1+s[0].toNat=k:=⟨_,rfl⟩;have FA:(1:Int)+((s[0].toNat:Nat):Int)=((k:Nat):Int):=by omega
 rw[FA];have hk1:k<s.size:=by omega
 have hk2:k+1<s.size:=by omega
 have b1:=s[k].toNat_lt;have b2:=s[k+1].toNat_lt;have HV:=xh (show bits .or .i64 ((s[k].toNat:Int)*256) (s[k+1].toNat:Int)=((bl s.data.toList k:Nat):Int)from by
  rw[or8 _ _ (by omega) (by omega)];unfold bl;rw[cm _ _ hk1,cm _ _ hk2])
 have e1:IntKind.i64.wrap ((k:Int)+1)=(k:Int)+1:=IntWalk.i64_in _ (by omega);have e2:(0:Int)<=(k:Int)+1:=by omega
 have e3:((k:Int)+1).toNat=k+1:=by omega
 have e7:(k:Int)+1<(s.size:Int):=by omega
 have e8:(k:Int)<(s.size:Int):=by omega
 have v1:IntKind.i64.wrap (s[k].toNat:Int)=(s[k].toNat:Int):=IntWalk.i64_in _ (by omega);have v2:IntKind.i64.wrap ((s[k].toNat:Int)*256)=(s[k].toNat:Int)*256:=IntWalk.i64_in _ (by omega);have v3:IntKind.i64.wrap (s[k+1].toNat:Int)=(s[k+1].toNat:Int):=IntWalk.i64_in _ (by omega);have z1:IntKind.i64.wrap ((k:Int)+2)=(k:Int)+2:=IntWalk.i64_in _ (by omega);have z2:(0:Int)<=(k:Int)+2:=by omega
 have z3:((k:Int)+2).toNat=k+2:=by omega
 have z4:(k:Int)+2<=(s.size:Int):=by omega
 have z5:(k:Int)<=(s.size:Int):=by omega
 have z6:(1:Int)<=(k:Int):=by omega
 go_quiet (fail);rw[HV.o];have u0:=List.getD s.data.toList k 0|>.toNat_lt;have u1:=List.getD s.data.toList (k+1) 0|>.toNat_lt;have z7:IntKind.i64.wrap ((bl s.data.toList k:Int)-1)=(bl s.data.toList k:Int)-1:=IntWalk.i64_in _ (by unfold bl;omega);go_wp2_with fail;refine wp_region_held_drew (S:=λ_=>True) (by kernel_rfl) trivial (λaw=>?_);refine dq [(0,33),(1,34),(2,35),(3,36),(4,37),(5,38),(6,39),(7,40),(8,41),(9,42)] ?_
 iterate 10 refine za ?_
 refine zf 10 λK hK=>?_;go_simp;refine hK.o _ _ trivial (λaw=>?_)
 try simp only[Act.put,pa,pb,pc]
 refine dq [(11,3)] ?_
 iterate 1 refine za ?_
 refine wpAnyH_done (by kernel_rfl) ?_ _;go_wp2_with fail;have BB:=((((B0.o.drewN (nq+1)).bu 0 (.string (s.extract 1 k))).bu 1 (.string (s.extract (k+2) s.size))).bu 2 (.int .i64 ((bl s.data.toList k:Int)-1)));refine bodyPost_ret (kr rfl rfl BB) rfl ⟨?_,?_⟩
 .have hE2:(eY s).agg=.agg #[.string (s.extract 1 k),.string (s.extract (k+2) s.size),.int .i64 ((bl s.data.toList k:Int)-1)]:=by
   rw[hE.o,<-hkk,show 3+s[0].toNat=1+s[0].toNat+2 by omega]
  rw[hE2];rfl
 .have hn:w.heap.size<w.heap.size->w.heap.size∈([]:List Nat):=λh=>absurd h (qU _);exact((((ag.aj (S:=[]) (cB O0.o (nq+1))).setCell (p:=⟨w.heap.size,0,none⟩) hn _).setCell (p:=⟨w.heap.size,1,none⟩) hn _).setCell (p:=⟨w.heap.size,2,none⟩) hn _).cK
end Go.Proofs.YtmonobkginiajaaGreat.Nd
namespace Go.Proofs.YtmonobkginiajaaGreat.Nd
open Go.RowKit Sl
def ai(l:List E):Nat:=(l.map λe=>e.key.size+e.val.size+7).sum
theorem iO(l:List E)(i:Nat)(e:E)(h:l[i]?=some e):ai (l.take (i+1))=ai (l.take i)+(e.key.size+e.val.size+7):=by
 unfold ai;rw[List.take_add_one,h];simp
theorem lL(l:List E)(i:Nat):ai (l.take i)<=ai l:=by
 have:ai l=ai (l.take i)+ai (l.drop i):=by
  unfold ai;rw[<-qS,<-eh,jN]
 omega
theorem uY{w:World}(A:Option Addr)(n c:Nat)(l:List E)(h:kW w A n l)(hn:n<=9223372036854775807)(hb:ai l<=1000000):
  Calls Tryz.prog 177 #[.slice A n c] w λr w'=>r=.returned (.int .i64 (ai l:Nat))/\Below w.heap.size w w':=by
 have H0:=xh h;have hl:=xh h.1;have hB:=xh hb;clear h hb;go_enter Tryz.func177,Tryz.ntmps177;go_wp2_with fail
 go_loopw [3,8] (λsv iv wr=> ∃i:Nat,i<=n/\iv=.int .i64 i/\sv=.int .i64 (ai (l.take i):Nat)/\Below w.heap.size w wr) (λ_ iv _=>n-(intOf iv).toNat)
 case atStart=>exact⟨0,by omega,rfl,by simp[ai],Below.refl _ _⟩
 case round=>
  obtain⟨i,hi,rfl,rfl,hbw⟩:=hrel
  by_cases h:i<n
  .obtain⟨ad,e,rfl,he,AT⟩:=(H0.o.below hbw).at i h;have a0:=AT.c0;have a1:=AT.c1;have a2:=AT.c2;have hs:=iO l i e he;have ht:=lL l (i+1);have hb:=hB.o;have HS:=xh hs;have s1:IntKind.i64.wrap ((e.key.size:Int)+(e.val.size:Int))=(e.key.size:Int)+(e.val.size:Int):=IntWalk.i64_in _ (by omega);have s2:IntKind.i64.wrap ((e.key.size:Int)+(e.val.size:Int)+7)=(e.key.size:Int)+(e.val.size:Int)+7:=IntWalk.i64_in _ (by omega)
   have s3:IntKind.i64.wrap ((ai (l.take i):Int)+((e.key.size:Int)+(e.val.size:Int)+7))=(ai (l.take i):Int)+((e.key.size:Int)+(e.val.size:Int)+7):=IntWalk.i64_in _ (by omega);have Ey:=xh (ao hbw (ae (Below.refl wr.heap.size wr) (.cells #[.string e.key,.string e.val,.int .i64 e.aY] 111)));clear AT hs ht hb hbw;go_wp2_with fail;refine⟨⟨i+1,by omega,rfl,?_,Ey.o⟩,by simp[intOf];omega⟩;rw[HS.o];simp
  .obtain rfl:i=n:=by omega
   have Ey:=xh hbw;clear hbw;go_wp2_with fail;go_ret;refine⟨?_,Ey.o⟩;have:=hl.o;rw[bJ (by omega)];rfl
end Go.Proofs.YtmonobkginiajaaGreat.Nd
namespace Go.Proofs.YtmonobkginiajaaGreat.Nd
open Go.RowKit Sl
attribute [local go_sem ↓] Go.wp_at_zero Go.wp_at_succ
theorem sS(e:E)(leaf:Bool):cn e leaf↔e.key.size<=32/\e.val.size<=40/\ -1<=e.aY/\e.aY<=511/\(0<=e.aY->e.val.size=0)/\(e.aY<0->leaf=true):=by
 unfold cn
 constructor
 .rintro⟨h1,h2,h3,h4,h5⟩
  cases leaf
  .simp only[lq,if_false]at h3;exact⟨h1,h2,by omega,by omega,λh=>by omega,λh=>by omega⟩
  .simp only[if_true]at h3;exact⟨h1,h2,by omega,by omega,λh=>by omega,λ_=>rfl⟩
 .rintro⟨h1,h2,h3,h4,h5,h6⟩;have h7:e.aY<0\/e.val.size=0:=by
   rcases(show e.aY<0\/0<=e.aY by omega)with h|h
   .exact .inl h
   .exact .inr (h5 h)
  cases leaf
  .simp only[lq,if_false];refine⟨h1,h2,?_,by omega,h7⟩
   rcases(show e.aY<0\/0<=e.aY by omega)with h|h
   .exact absurd (h6 h) (by decide)
   .exact h
  .simp only[if_true];exact⟨h1,h2,h3,by omega,h7⟩
end Go.Proofs.YtmonobkginiajaaGreat.Nd
namespace Go.Proofs.YtmonobkginiajaaGreat.Nd
open Go.RowKit Sl
variable{l:List E}{w:World}{t:TypeId}{n:Nat}
def ax(l:List E):List Value:=l.flatMap E.cells
theorem iu(e:E)(l:List E):ax (e::l)=e.cells++ax l:=by simp[ax]
theorem eI(l m:List E):ax (l++m)=ax l++ax m:=by simp[ax]
theorem al(l:List E):(ax l).length=l.length*3:=by
 induction l with
 |nil=>rfl
 |cons e l ih=>rw[iu,aU,ih];simp[E.cells];omega
theorem IA{k:Nat}{e:E}(h:l[k]?=some e)(j:Nat)(hj:j<3):(ax l)[k*3+j]?=e.cells[j]?:=by
 induction l generalizing k with
 |nil=>simp at h
 |cons x l ih=>
  rw[iu]
  cases k with
  |zero=>
   simp only[vG,Option.some.injEq]at h;subst h;rw[bx (by simp[E.cells];omega)];congr 1;omega
  |succ k=>
   rw[zU]at h;rw[dF (by simp[E.cells];omega),<-ih h]
   congr 1;simp[E.cells];omega
theorem gU(g o j:Nat):(⟨g,o,none⟩:Addr).add j=⟨g,o+j,none⟩:=by
 unfold Addr.add
 split
 .next h=>rw[h];rfl
 .rfl
theorem yC{g:Nat}{rest:List Value}(B:aD w g t (ax l++rest).toArray)(k:Nat)(e:E)(h:l[k]?=some e):uW w ((⟨g,0,none⟩:Addr).add (k*3)) e:=by
 have hk:=(aR.1 h).1;have hlen:=al l;have key:∀j,j<3->(ax l++rest).toArray[k*3+j]?=e.cells[j]?:=λj hj=>by
  rw[cW,bx (by omega),IA h j hj]
 rw[gU,bt];exact⟨(B.cell _).trans (key 0 (by omega)),(B.cell _).trans (key 1 (by omega)),(B.cell _).trans (key 2 (by omega))⟩
theorem aQ.ax{A:Option Addr}{c m:Nat}(S:aQ w t 3 (.slice A n c) m (ax l)):n=m/\kW w A m l:=by
 have hl:=S.1;rw[al]at hl;have hlm:l.length=m:=by omega
 rcases S.2 with⟨hv,h0⟩|⟨g,cap,rest,hv,B,hc,_⟩
 .simp only[Value.slice.injEq]at hv;obtain⟨rfl,rfl,rfl⟩:=hv;refine⟨h0.symm,hlm,λk e he=>?_⟩;have:=(aR.1 he).1;omega
 .simp only[Value.slice.injEq]at hv;obtain⟨rfl,rfl,rfl⟩:=hv;exact⟨rfl,hlm,λk e he=>⟨_,rfl,yC B k e he⟩⟩
theorem sU{P:Program}{v:Value}{l:List Value}(S:aQ w t 3 v n l)
 (T ty:TypeId)(z:Value)(bytes:Nat)(ht:P.underlying T=some (.slice t))(kg:(P.info? t).map (λi=>(i.zero,i.size,i.bytes))=some (some z,3,bytes))(hz:z.cells.size=3)
 (e:E)(xE:n+1<=maxLen)(hb:(n+1)*bytes<=140737488355328):
  ∃v' w',dG P T ty (w.alloc (.cells #[.string e.key,.string e.val,.int .i64 e.aY] t)) v (.slice (some ⟨w.heap.size,0,none⟩) 1 1)= .ok v' w'/\aQ w' t 3 v' (n+1) (l++e.cells)/\ag (ah v) w w'/\(∀g∈ah v',g∈ah v\/w.heap.size<=g):=by
 obtain⟨i0,hi,jb,gW,iS⟩:=info_parts kg;obtain⟨v',w',h1,h2,h3,h4⟩:=cQ (P:=P) (S.alloc (.cells #[.string e.key,.string e.val,.int .i64 e.aY] t)) T ty i0 z bytes ht hi jb gW iS hz (by omega)
  ⟨w.heap.size,0,none⟩ 1 1 e.cells rfl (aZ (l:=e.cells) (aD.new w t #[.string e.key,.string e.val,.int .i64 e.aY]) 0 _ (by intro j v hv;rw[bt];exact hv)) (by intro u hu;simp[E.cells]at hu;rcases hu with rfl|rfl|rfl<;>rfl) xE hb
 exact⟨v',w',h1,h2,((ag.refl _ _).alloc _).bw h3 (λx hx _=>hx),λg hg=>(h4 g hg).imp id (λh=>by simp at h;omega)⟩
end Go.Proofs.YtmonobkginiajaaGreat.Nd
namespace Go.Proofs.YtmonobkginiajaaGreat.Nd
open Go.RowKit Sl
attribute [local go_sem ↓] aW
def lM(e:E):List UInt8:=UInt8.ofNat e.key.size::(e.key.data.toList++(dV (e.aY+1).toNat++e.val.data.toList))
def ou(e:E):ByteArray:=⟨(lM e).toArray⟩
theorem pM(a b:ByteArray):a++b=⟨(a.data.toList++b.data.toList).toArray⟩:=by
 have:=mR a.data.toList b;rw[CS]at this;exact this
theorem recB_eq(e:E):(⟨[UInt8.ofNat e.key.size].toArray⟩++e.key)++⟨(dV (e.aY+1).toNat).toArray⟩++e.val=ou e:=by
 rw[pM,pM,pM];unfold ou lM;simp
theorem pN(w:World)(o:Obj):(w.alloc o).heap.size=w.heap.size+1:=by simp
theorem nX{w:World}(e:E)(hk:e.key.size<=32)(hv:e.val.size<=40)(hf: -1<=e.aY)(DU:e.aY<=511){g n:Nat}{v:Value}{l:List (List UInt8)}(B:aD w g 123 #[v])(S:aQ w 9 1 v n (strs l))(hg:g∉ah v)(hn:n<=1000000):
  Calls Tryz.prog 118 #[e.agg,.pointer (some ⟨g,0,none⟩)] w λr w'=>r=.returned (.tuple #[])/\∃v',aD w' g 123 #[v']/\aQ w' 9 1 v' (n+1) (strs (l++[lM e]))/\ag (g::ah v) w w'/\(∀x∈ah v',x∈ah v\/w.heap.size<=x):=by
 obtain⟨A,c,rfl⟩:=aq S;have HR:=xh (recB_eq e);have hR2:Value.string (ou e)= .string ⟨(lM e).toArray⟩:=rfl;obtain⟨m,hm⟩:=dn (show 0<=e.aY+1 by omega);have hm2:m<=512:=by omega
 have e0:Value.int .u8 ((m:Int) / 256)=bv (UInt8.ofNat (m / 256)):=by
  unfold bv
  congr 1
  rw[fV];omega
 have e1:Value.int .u8 ((m:Int) % 256)=bv (UInt8.ofNat m):=by
  unfold bv;rfl
 have e2:Value.int .u8 (e.key.size:Int)=bv (UInt8.ofNat e.key.size):=by
  unfold bv
  congr 1
  rw[fV];omega
 rw[hm,eK]at HR;have HE:=xh (show #[Value.int .u8 ((m:Int) / 256),Value.int .u8 ((m:Int) % 256)]=(cf (dV m)).toArray from by rw[e0,e1];rfl);have HK:=xh (show #[Value.int .u8 (e.key.size:Int)]=(cf [UInt8.ofNat e.key.size]).toArray from by rw[e2];rfl);have BX:=xh (aD.new w 111 #[.string e.key,.string e.val,.int .i64 e.aY])
 have s1:=bs (P:=Tryz.prog) ((w.alloc (.cells #[.string e.key,.string e.val,.int .i64 e.aY] 111)).alloc (.cells (cf [UInt8.ofNat e.key.size]).toArray 5)) 150 9 5 Tryz.underlying150 Tryz.underlying5 Tryz.underlying9 ⟨(w.alloc (.cells #[.string e.key,.string e.val,.int .i64 e.aY] 111)).heap.size,0,none⟩ 1 1 [UInt8.ofNat e.key.size] rfl (aZ (l:=cf [UInt8.ofNat e.key.size]) (aD.new _ 5 _) 0 _ (by intro j u hu;rw[bt];exact hu));rw[<-HK.o,pN]at s1
 have S1:=xh s1
 have s2:=bs (P:=Tryz.prog) (((w.alloc (.cells #[.string e.key,.string e.val,.int .i64 e.aY] 111)).alloc (.cells #[.int .u8 (e.key.size:Int)] 5)).alloc (.cells (cf (dV m)).toArray 5)) 150 9 5 Tryz.underlying150 Tryz.underlying5 Tryz.underlying9 ⟨((w.alloc (.cells #[.string e.key,.string e.val,.int .i64 e.aY] 111)).alloc (.cells #[.int .u8 (e.key.size:Int)] 5)).heap.size,0,none⟩ 2 2 (dV m) rfl (aZ (l:=cf (dV m)) (aD.new _ 5 _) 0 _ (by intro j u hu;rw[bt];exact hu))
 rw[<-HE.o,pN,pN]at s2;have S2:=xh s2;have B1:=B.alloc (.cells #[.string e.key,.string e.val,.int .i64 e.aY] 111);have c1:(w.alloc (.cells #[.string e.key,.string e.val,.int .i64 e.aY] 111)).cell? ⟨g,0,none⟩=some (.slice A n c):=B1.ab (i:=0) rfl
 obtain⟨v',w2,ea,SS,ow,fr⟩:=bZ (P:=Tryz.prog) (((S.alloc (.cells #[.string e.key,.string e.val,.int .i64 e.aY] 111)).alloc (.cells #[.int .u8 (e.key.size:Int)] 5)).alloc (.cells #[Value.int .u8 ((m:Int) / 256),Value.int .u8 ((m:Int) % 256)] 5)) 123 123 (.string .empty) 16 Tryz.underlying123 qp rfl (.string (⟨#[UInt8.ofNat e.key.size]⟩++e.key++⟨(dV m).toArray⟩++e.val)) rfl (by unfold maxLen;omega) (by omega);obtain⟨V2,fs,rfl⟩:=aq SS;rw[pN,pN,pN]at ea
 have EA:=xh ea;clear s1 s2 ea;have OO:=xh (((((ag.refl (g::ah (.slice A n c)) w).alloc (.cells #[.string e.key,.string e.val,.int .i64 e.aY] 111)).alloc (.cells #[.int .u8 (e.key.size:Int)] 5)).alloc (.cells #[Value.int .u8 ((m:Int) / 256),Value.int .u8 ((m:Int) % 256)] 5)).bw ow (λx hx _=>bY _ hx))
 have B2:=xh ((((B.alloc (.cells #[.string e.key,.string e.val,.int .i64 e.aY] 111)).alloc (.cells #[.int .u8 (e.key.size:Int)] 5)).alloc (.cells #[Value.int .u8 ((m:Int) / 256),Value.int .u8 ((m:Int) % 256)] 5)).only ow hg);have hR3:Value.string (⟨#[UInt8.ofNat e.key.size]⟩++e.key++⟨(dV m).toArray⟩++e.val)= .string ⟨(lM e).toArray⟩:=congrArg Value.string HR.o;rw[hR3,uT]at SS
 replace SS:=xh SS
 have c2:w2.cell? ⟨g,0,none⟩=some (.slice A n c):=B2.o.ab (i:=0) rfl;have c3:w2.frozen? ⟨g,0,none⟩=false:=B2.o.frozen 0 (by simp);have t8:(dV m).length=2:=rfl;have FR2:=xh (show ∀x∈ah (.slice V2 (n+1) fs),x∈ah (.slice A n c)\/w.heap.size<=x from λx hx=>(fr x hx).imp id (λh=>by rw[pN,pN,pN]at h;omega));have NE:=xh (show g∉ah (.slice V2 (n+1) fs)from λhx=>(FR2.o g hx).elim hg (λh=>by have:=B.lt;omega));have HM:=xh hm;unfold E.agg
 clear B1 e0 e1 e2 ow fr S B hg hR2 hR3;have m1:IntKind.u8.wrap ((m:Int) / 256)=(m:Int) / 256:=IntWalk.u8_in _ (by omega);go_enter Tryz.func118,Tryz.ntmps118;go_wp2_with fail;rw[S1.o];go_wp2_with fail;rw[S2.o];go_wp2_with fail;rw[EA.o];go_wp2_with fail
 go_end0
 exact⟨rfl,_,B2.o.bu 0 _,SS.o.only ((ag.refl [g] w2).setCell (λ_=>by simp) _) (λx hx=>by simp;exact λhh=>NE.o (hh▸hx)),OO.o.setCell (λ_=>by simp) _,FR2.o⟩
end Go.Proofs.YtmonobkginiajaaGreat.Nd
namespace Go.Proofs.YtmonobkginiajaaGreat.Nd
open Go.RowKit Sl
attribute [local go_sem ↓] Go.wp_at_zero Go.wp_at_succ
variable{w:World}
def uZ(leaf:Bool):List UInt8:=if leaf=true then [1]else [2]
def fj(leaf:Bool)(l:List E):List (List UInt8):=uZ leaf::l.map lM
theorem sV(leaf:Bool)(l:List E)(i:Nat)(e:E)(h:l[i]?=some e):fj leaf (l.take (i+1))=fj leaf (l.take i)++[lM e]:=by
 unfold fj;rw[List.take_add_one,h];simp
theorem wZ(leaf:Bool)(l:List E):(fj leaf l).length=l.length+1:=by simp[fj]
theorem lN(e:E):(lM e).length=3+e.key.size+e.val.size:=by
 unfold lM dV;simp;omega
theorem put_no(leaf:Bool)(A:Option Addr)(n c:Nat)(l:List E)(h:kW w A n l)(hn:n<=1000000)(hm:¬cu l leaf):
  Calls Tryz.prog 68 #[aV leaf A n c] w λr w'=>r=.returned (.tuple #[.string ⟨#[]⟩,.int .i64 2])/\Below w.heap.size w w':=by
 have O0:=(Below.refl w.heap.size w).alloc (ak _) (.cells #[.bool leaf,.slice A n c] 118);have KM:=xh (mi (w:=w.alloc (.cells #[.bool leaf,.slice A n c] 118)) leaf A n c l (h.below O0) (by omega));have O0:=xh O0;have HM:=xh hm;clear h hm;unfold aV at *;go_enter Tryz.func68,Tryz.ntmps68;go_wp2_with fail;refine KM.o.mono ?_;rintro r w1 ⟨⟨b,rfl,hb⟩,aL⟩;obtain rfl:b=false:=by
  cases b
  .rfl
  .exact absurd (hb.1 rfl) HM.o
 have O1:=xh (ao O0.o aL);clear hb aL;go_wp2_with fail;go_ret2;exact⟨rfl,O1.o⟩
theorem put_yes(leaf:Bool)(A:Option Addr)(n c:Nat)(l:List E)(h:kW w A n l)(hn:n<=1000)(hm:cu l leaf):
  Calls Tryz.prog 68 #[aV leaf A n c] w (Iy (fj leaf l) w):=by
 have O0:=(Below.refl w.heap.size w).alloc (ak _) (.cells #[.bool leaf,.slice A n c] 118);have hl:=xh h.1;have H0:=h.below O0;have KM:=xh (mi (w:=w.alloc (.cells #[.bool leaf,.slice A n c] 118)) leaf A n c l H0 (by omega));have B0:=xh (aD.new w 118 #[.bool leaf,.slice A n c]);have O0:=xh O0;have H0:=xh H0;have HM:=xh hm;have HH:=xh h
 have HQ:=xh (show ∀(i:Nat) (e:E),l[i]?=some e->e.key.size<=32/\e.val.size<=40/\ -1<=e.aY/\e.aY<=511 from λi e he=>by
  have h2:=(sS e leaf).1 (hm i (aR.1 he).1 e he).1;exact⟨h2.1,h2.2.1,h2.2.2.1,h2.2.2.2.1⟩)
 have HL:=xh (wZ leaf l);have HS:=xh (show ∀r∈fj leaf l,r.length<=1000000 from λr hr=>by
  unfold fj at hr
  rcases aC.1 hr with rfl|hr
  .unfold uZ;split<;>decide
  .obtain⟨e,he,rfl⟩:=eo.1 hr;obtain⟨i,hi,rfl⟩:=lr he;have:=HQ.o i _ (aN hi);rw[lN];omega)
 clear h hm;unfold aV at *;go_enter Tryz.func68,Tryz.ntmps68;go_wp2_with fail;generalize (w.alloc (.cells #[.bool leaf,.slice A n c] 118))=W0 at *;refine KM.o.mono ?_;rintro r w1 ⟨⟨b,rfl,hb⟩,aL⟩;obtain rfl:b=true:=hb.2 HM.o;have O1:=xh (ao O0.o aL);have H1:=xh (H0.o.below aL);have B1:=xh (B0.o.below aL B0.o.lt);have c0:w1.cell? ⟨w.heap.size,0,none⟩=some (.bool leaf):=B1.o.ab (i:=0) rfl
 have c1:w1.cell? ⟨w.heap.size,1,none⟩=some (.slice A n c):=B1.o.ab (i:=1) rfl;have eT:=B1.o.lt;clear hb aL;have SK:=xh (show ∀k:List UInt8,aQ ((w1.alloc (.cells #[.string ⟨k.toArray⟩] 9)).alloc (.cells #[.slice (some ⟨w1.heap.size,0,none⟩) 1 1] 123)) 9 1 (.slice (some ⟨w1.heap.size,0,none⟩) 1 1) 1 (strs [k])from λk=>⟨rfl,.inr ⟨w1.heap.size,1,[],rfl,(aD.new w1 9 #[.string ⟨k.toArray⟩]).alloc _,rfl,by unfold maxLen;omega⟩⟩)
 have BK:=xh (show ∀k:List UInt8,aD ((w1.alloc (.cells #[.string ⟨k.toArray⟩] 9)).alloc (.cells #[.slice (some ⟨w1.heap.size,0,none⟩) 1 1] 123)) (w1.heap.size+1) 123 #[.slice (some ⟨w1.heap.size,0,none⟩) 1 1]from λk=>by
  have:=aD.new (w1.alloc (.cells #[.string ⟨k.toArray⟩] 9)) 123 #[.slice (some ⟨w1.heap.size,0,none⟩) 1 1];rw[pN]at this;exact this)
 have OK:=xh (show ∀k:List UInt8,Below w.heap.size w ((w1.alloc (.cells #[.string ⟨k.toArray⟩] 9)).alloc (.cells #[.slice (some ⟨w1.heap.size,0,none⟩) 1 1] 123))from λk=>ao O1.o (ae (ae (Below.refl _ _) _) _))
 cases leaf
 .replace SK:=xh (SK.o [2])
  replace BK:=xh (BK.o [2])
  replace OK:=xh (OK.o [2])
  go_wp2_with fail;generalize hW2:((w1.alloc (.cells #[.string ⟨#[2]⟩] 9)).alloc (.cells #[.slice (some ⟨w1.heap.size,0,none⟩) 1 1] 123))=W2 at *;clear hW2 c0 c1
  go_loopw [20] (λiv wr=> ∃(i:Nat) (v':Value),i<=n/\iv=.int .i64 i/\aD wr (w1.heap.size+1) 123 #[v']/\aQ wr 9 1 v' (i+1) (strs (fj false (l.take i)))/\Below w.heap.size w wr/\Hid (∀x∈ah v',w.heap.size<=x/\x≠w1.heap.size+1)) (λiv _=>n-(intOf iv).toNat)
  case atStart=>exact⟨0,_,bm _,rfl,BK.o,SK.o,OK.o,xh (λx hx=>by simp[ah]at hx;omega)⟩
  case round=>
   obtain⟨i,v',hi,rfl,B,S,O,F⟩:=hrel;obtain⟨VA,vc,rfl⟩:=aq S;have hltr:=B.lt
   by_cases h:i<n
   .obtain⟨ad,e,rfl,he,AT⟩:=(HH.o.below O).at i h;have HT:=xh (sV false l i e he);obtain⟨q1,q2,q3,q4⟩:=HQ.o i e he;have KP:=xh (nX (w:=wr.alloc (.cells #[.string e.key,.string e.val,.int .i64 e.aY] 111)) e q1 q2 q3 q4 (B.alloc _) (S.alloc _) (λhx=>(F.o _ hx).2 rfl) (by omega));have a0:=AT.c0;have a1:=AT.c1;have a2:=AT.c2;have OO:=xh O;have SZ:=xh (show w.heap.size<=w1.heap.size+1 from by omega);clear AT S B O he;go_wp2_with fail;refine KP.o.mono ?_
    rintro r w2 ⟨rfl,v2,B2,S2,o2,f2⟩;have F2:=xh (show ∀x∈ah v2,w.heap.size<=x/\x≠w1.heap.size+1 from λx hx=>(f2 x hx).elim (F.o x) (λh=>by rw[pN]at h;have:=OO.o.size;omega));have O2:=xh ((OO.o.alloc OO.o.size (.cells #[.string e.key,.string e.val,.int .i64 e.aY] 111)).trans (o2.aE (by rw[pN];have:=OO.o.size;omega) (λx hx=>by
     rcases aC.1 hx with rfl|hx
     .exact SZ.o
     .exact(F.o x hx).1)))
    rw[<-HT.o]at S2
    replace S2:=xh S2
    replace B2:=xh B2
    clear o2 f2;go_wp2_with fail;go_roundw
    case rel=>exact⟨i+1,v2,by omega,by go_num,B2.o,S2.o,O2.o,F2⟩
    case measure=>simp[intOf];omega
   .obtain rfl:i=n:=by omega
    have hln:=hl.o;rw[bJ (by omega)]at S;have KO:=xh (Iz (l:=fj false l) (by rw[HL.o,hln];exact S) (by rw[HL.o];omega) HS.o);have b0:wr.cell? ⟨w1.heap.size+1,0,none⟩=some (.slice VA (i+1) vc):=B.ab (i:=0) rfl;have OO:=xh O;clear S B O hln;go_wp2_with fail;refine KO.o.mono ?_;rintro r w2 ⟨hx,bK⟩;have O2:=xh (ao OO.o bK);clear bK
    rcases hx with⟨h0,T,rfl,sT,rT⟩|⟨h0,rfl⟩
    .have HX:=xh (And.intro h0 (And.intro sT rT));clear h0 sT rT;go_wp2_with fail;go_ret2;exact⟨.inl ⟨HX.o.1,T,rfl,HX.o.2.1,HX.o.2.2⟩,O2.o⟩
    .have HX:=xh h0;clear h0;go_wp2_with fail;go_ret2;exact⟨.inr ⟨HX.o,rfl⟩,O2.o⟩
 .replace SK:=xh (SK.o [1])
  replace BK:=xh (BK.o [1])
  replace OK:=xh (OK.o [1])
  go_wp2_with fail;generalize hW2:((w1.alloc (.cells #[.string ⟨#[1]⟩] 9)).alloc (.cells #[.slice (some ⟨w1.heap.size,0,none⟩) 1 1] 123))=W2 at *;clear hW2 c0 c1
  go_loopw [20] (λiv wr=> ∃(i:Nat) (v':Value),i<=n/\iv=.int .i64 i/\aD wr (w1.heap.size+1) 123 #[v']/\aQ wr 9 1 v' (i+1) (strs (fj true (l.take i)))/\Below w.heap.size w wr/\Hid (∀x∈ah v',w.heap.size<=x/\x≠w1.heap.size+1)) (λiv _=>n-(intOf iv).toNat)
  case atStart=>exact⟨0,_,bm _,rfl,BK.o,SK.o,OK.o,xh (λx hx=>by simp[ah]at hx;omega)⟩
  case round=>
   obtain⟨i,v',hi,rfl,B,S,O,F⟩:=hrel;obtain⟨VA,vc,rfl⟩:=aq S;have hltr:=B.lt
   by_cases h:i<n
   .obtain⟨ad,e,rfl,he,AT⟩:=(HH.o.below O).at i h;have HT:=xh (sV true l i e he);obtain⟨q1,q2,q3,q4⟩:=HQ.o i e he;have KP:=xh (nX (w:=wr.alloc (.cells #[.string e.key,.string e.val,.int .i64 e.aY] 111)) e q1 q2 q3 q4 (B.alloc _) (S.alloc _) (λhx=>(F.o _ hx).2 rfl) (by omega));have a0:=AT.c0;have a1:=AT.c1;have a2:=AT.c2;have OO:=xh O;have SZ:=xh (show w.heap.size<=w1.heap.size+1 from by omega);clear AT S B O he;go_wp2_with fail;refine KP.o.mono ?_
    rintro r w2 ⟨rfl,v2,B2,S2,o2,f2⟩;have F2:=xh (show ∀x∈ah v2,w.heap.size<=x/\x≠w1.heap.size+1 from λx hx=>(f2 x hx).elim (F.o x) (λh=>by rw[pN]at h;have:=OO.o.size;omega));have O2:=xh ((OO.o.alloc OO.o.size (.cells #[.string e.key,.string e.val,.int .i64 e.aY] 111)).trans (o2.aE (by rw[pN];have:=OO.o.size;omega) (λx hx=>by
     rcases aC.1 hx with rfl|hx
     .exact SZ.o
     .exact(F.o x hx).1)))
    rw[<-HT.o]at S2
    replace S2:=xh S2
    replace B2:=xh B2
    clear o2 f2;go_wp2_with fail;go_roundw
    case rel=>exact⟨i+1,v2,by omega,by go_num,B2.o,S2.o,O2.o,F2⟩
    case measure=>simp[intOf];omega
   .obtain rfl:i=n:=by omega
    have hln:=hl.o;rw[bJ (by omega)]at S;have KO:=xh (Iz (l:=fj true l) (by rw[HL.o,hln];exact S) (by rw[HL.o];omega) HS.o);have b0:wr.cell? ⟨w1.heap.size+1,0,none⟩=some (.slice VA (i+1) vc):=B.ab (i:=0) rfl;have OO:=xh O;clear S B O hln;go_wp2_with fail;refine KO.o.mono ?_;rintro r w2 ⟨hx,bK⟩;have O2:=xh (ao OO.o bK);clear bK
    rcases hx with⟨h0,T,rfl,sT,rT⟩|⟨h0,rfl⟩
    .have HX:=xh (And.intro h0 (And.intro sT rT));clear h0 sT rT;go_wp2_with fail;go_ret2;exact⟨.inl ⟨HX.o.1,T,rfl,HX.o.2.1,HX.o.2.2⟩,O2.o⟩
    .have HX:=xh h0;clear h0;go_wp2_with fail;go_ret2;exact⟨.inr ⟨HX.o,rfl⟩,O2.o⟩
end Go.Proofs.YtmonobkginiajaaGreat.Nd
namespace Go.Proofs.YtmonobkginiajaaGreat.Nd
open Go.RowKit Sl
variable{w:World}{g n c:Nat}{leaf:Bool}{A:Option Addr}{tmps:Array Value}
theorem pO{fn:Func}{p q:Tmp}{ty tz:TypeId}(h:fn.results= #[.cell p ty,.cell q tz])(tmps:Array Value)(P:Program)(w:World):
  (results fn tmps).run P w=
   ((asAddr (tmps.getD p undef)).run P w).andThen λa w₁=>((loadVar ty a).run P w₁).andThen λv w₂=>((asAddr (tmps.getD q undef)).run P w₂).andThen λa w₁=>((loadVar tz a).run P w₁).andThen λu w₂=> .ok (.tuple #[v,u]) w₂:=by
 simp only[results,h];simp[Sem.run_bind,Result.andThen]
theorem dS{fn:Func}{p u:Tmp}(h:fn.results= #[.cell p 118,.tmp u])(hp:tmps.getD p undef=.pointer (some ⟨g,0,none⟩))(B:aD w g 118 #[.bool leaf,.slice A n c]):
  (results fn tmps).run Tryz.prog w=.ok (.tuple #[aV leaf A n c,tmps.getD u undef]) w:=by
 have c0:=B.ab (i:=0) rfl;have c1:=B.ab (i:=1) rfl;rw[results_cell_tmp h,hp];clear h hp B;unfold aV;go_simp
theorem BF{fn:Func}{p q:Tmp}{g':Nat}{leaf':Bool}{A':Option Addr}{n' c':Nat}(h:fn.results= #[.cell p 118,.cell q 118])(hp:tmps.getD p undef=.pointer (some ⟨g,0,none⟩))(hq:tmps.getD q undef=.pointer (some ⟨g',0,none⟩))(B:aD w g 118 #[.bool leaf,.slice A n c])(B':aD w g' 118 #[.bool leaf',.slice A' n' c']):
  (results fn tmps).run Tryz.prog w=.ok (.tuple #[aV leaf A n c,aV leaf' A' n' c']) w:=by
 have c0:=B.ab (i:=0) rfl;have c1:=B.ab (i:=1) rfl;have d0:=B'.ab (i:=0) rfl;have d1:=B'.ab (i:=1) rfl;rw[pO h,hp,hq];clear h hp hq B B';unfold aV;go_simp
end Go.Proofs.YtmonobkginiajaaGreat.Nd
