/- packed. -/
import Derived.Deep.Slices
import Derived.Deep.Grids
import Derived.Lib.SmallJoins
import Derived.Test.YtmonobkginiajaaGreatAs8
set_option linter.all false
set_option maxRecDepth 100000
set_option maxHeartbeats 8000000
namespace Go.Proofs.YtmonobkginiajaaGreat
open Go.Proofs.Tryz
open Value renaming string→U2,slice→U3,int→U5,bool→U6,pointer→U7,tuple→U8
open Ending renaming returned→BY
open IntKind renaming i64→By,u8→Nm
open Obj renaming cells→WF
open Go renaming World→YB,Value→YO,Calls→eq,maxLen→it,TypeId→pm
open List renaming replicate→fd
open UInt8 renaming ofNat→gn
open And renaming intro→io
namespace Sl
open Go.RowKit
attribute [local go_sem ↓] bA
variable{w:YB}{e:pm}{size n:Nat}{v:YO}{l:List YO}
theorem ya(h:aM w e size v n l):∀g∈ah v,∃cs,aF w g e cs:=by
 rcases h.2 with⟨rfl,_⟩|⟨g,cap,rest,rfl,B,_⟩
 .simp[ah]
 .intro x hx;simp[ah]at hx;subst hx;exact⟨_,B⟩
theorem dL{e':pm}{size' n':Nat}{v':YO}{l':List YO}(h:aM w e size v n l)(h':aM w e' size' v' n' l')(fF:e≠e'):∀g∈ah v,g∉ah v':=by
 intro g hg hg';obtain⟨_,B⟩:=ya h g hg;obtain⟨_,B'⟩:=ya h' g hg';exact B.jJ B' fF rfl
def strs(l:List (pu)):List YO:=l.map λr=>U2 ⟨r.toArray⟩
theorem FA(l:List (pu))(r:pu):strs l++[U2 ⟨r.toArray⟩]=strs (l++[r]):=by simp[strs]
@[simp] theorem yY(l:List (pu)):(strs l).length=l.length:=by simp[strs]
theorem yZ:(prog.info? 9).map (λi=>(i.zero,i.size,i.bytes))=some (some (U2 .empty),1,16):=by kernel_rfl
theorem yc(b:pu)(k:Nat)(h:k<cd b 0):(dn b).take (k+1)=(dn b).take k++[mN b (slot b k)]:=by
 unfold dn;rw[<-l6,uS b k h,cX,l6];rfl
def qF(s:rd)(w:YB)(e:Ending)(w':YB):Prop:=
 ∃v,e=BY (U8 #[v,U5 By (cC s.data.toList)])/\i7 w w'/\(∀g∈ah v,w.heap.size<=g)/\
  ((cC s.data.toList=0/\aM w' 9 1 v (cd s.data.toList 0) (strs (dn s.data.toList)))\/(cC s.data.toList≠0/\v=U3 none 0 0))
theorem tx(s:rd)(w:YB)(hs:s.size<=1000000):
  eq prog 169 #[U2 s] w (qF s w):=by
 have KC:=xh<|tw s w hs
 by_cases h:cC s.data.toList=0
 .have hS:=(fP _).1 h;have JI:s.size=232:=by have:=hS.len;simpa using this
  have h4:=hS.head;have h5:=hS.heap;rw[h]at KC;have HC:=xh h;have KL:=xh (λw'=>kW s w' (by omega) hs);have HN:=xh<|dj s.data.toList;have HG:=xh<|mj s.data.toList;have HT:=xh<|yc s.data.toList;have HF:=xh (λk (hk:k<cd s.data.toList 0)=>hS.fit.qW _ (aA (Fw s.data.toList k hk)))
  have HA:=xh (show(dn s.data.toList).take (cd s.data.toList 0)=dn s.data.toList from cm (by rw[dV];exact ai _));clear hS h;generalize hn:cd s.data.toList 0=n at *;have HN0:=xh hn;clear hn;go_in;go_wp2_with fail;go_call KC.o as e w1 ⟨rfl,aO⟩;have aO:=xh aO;go_wp2_with fail;go_call (KL.o _) as e w3 ⟨v,rfl,S,dk,fr⟩;obtain⟨A,c,rfl⟩:=ax S;have S:=xh S
  have O3:=xh<|aC aO.o dk;have FR:=g9 (∀x∈ah (U3 A n c),w.heap.size<=x) (λx hx=>aq aO.o.size (fr x hx));clear dk fr KL aO;go_wp2_with fail
  go_loopw [5,16] (λv iv wr=> ∃k:Nat,k<=n/\iv=U5 By k/\aM wr 9 1 v k (strs ((dn s.data.toList).take k))/\aM wr 271 2 (U3 A n c) n (sc (bU s.data.toList))/\i7 w wr/\Hid (∀g∈ah v,w.heap.size<=g)) (λ_ iv _=>n-(intOf iv).toNat)
  case atStart=>exact⟨0,aW _,rfl,by rw[jA];exact aM.nil _ _ _,S.o,O3.o,xh (by simp[ah])⟩
  case round=>
   obtain⟨k,hk,rfl,T,S,O,F⟩:=hrel;obtain⟨TA,tc,rfl⟩:=ax T
   by_cases h:k<n
   .obtain⟨g,cap,rest,hv,-,Cy,-⟩:=S.form (by omega) (by omega);simp only[Value.slice.injEq,true_and]at hv;obtain⟨rfl,rfl⟩:=hv;have lO:k<(bU s.data.toList).length:=by rw[HN.o];exact h
    obtain⟨c0,c1⟩:=qD S k lO;rw[HG.o k lO]at c0 c1;have hf:=HF.o k h;have KR:=xh (λw'=>Pw s (slot s.data.toList k) w' (by omega) hs);have HTk:=xh<|HT.o k (HN0.o▸h);generalize slot s.data.toList k=x at *;obtain⟨x0,x1⟩:=x;simp only at hf c0 c1 KR;have O8:=xh<|((i5 wr).alloc (ai _) (WF #[x0,x1] 271));have OO:=xh O;have SS:=xh S;have TT:=xh T;clear S T O;go_wp2_with fail
    go_call (KR.o _) as e w4 ⟨rfl,fo⟩;have fo:=aC O8.o fo;have T4:=TT.o.below fo;have S4:=SS.o.below fo;have O4:=xh<|aC OO.o fo;generalize mN s.data.toList (x0,x1)=r at *;obtain⟨v',w5,ea,T5,o5,F5⟩:=dG (P:=prog) T4 123 123 (U2 .empty) 16 underlying123 yZ rfl (U2 ⟨r.toArray⟩) rfl (by unfold it;omega) (by omega);rw[FA,<-HTk.o]at T5;have S5:=xh<|S4.only o5 (dL S4 T4 (by decide))
    have F6:=g9 (∀g∈ah v',w.heap.size<=g) (λg hg=>(F5 g hg).elim (F.o g) (λh=>aq O4.o.size h));have O5:=xh<|O4.o.trans (o5.aK O4.o.size F.o);obtain⟨VA,vc,rfl⟩:=ax T5;have T5:=xh T5;clear fo T4 S4 o5 F5 SS TT OO;go_wp2_with fail;go_roundw
    case rel=>exact⟨k+1,by omega,by go_num,T5.o,S5.o,O5.o,F6⟩
    case measure=>simp[intOf];omega
   .have En:=g9 (k=n) (by omega);have OO:=xh O;have TT:=xh T;clear S O T;go_wp2;go_ret2;refine⟨_,by rw[HC.o];rfl,OO.o,F.o,.inl ⟨HC.o,?_⟩⟩;have h1:=TT.o
    cases En.o
    rw[HA.o]at h1;rw[HN0.o];exact h1
 .have HC:=xh h;have hb:(cC s.data.toList==0)=false:=by simpa using h
  clear h;generalize hq:cC s.data.toList=q at *;have HQ:=xh hq;clear hq;go_in;go_wp2_with fail;go_call KC.o as e w1 ⟨rfl,aO⟩;have aO:=xh aO;go_wp2;go_ret2;exact⟨_,by rw[HQ.o];rfl,aO.o,by simp[ah],.inr ⟨by rw[HQ.o];exact HC.o,rfl⟩⟩
end Sl
namespace Sl
open Go.RowKit
variable{w w':YB}{v:YO}{n:Nat}{l:List Slot}{F:pu}
def uT(w:YB)(v:YO)(l:List Slot):Prop:=
 ∃A c,v=U3 A l.length c/\(0<l.length->∃g cs,A=some ⟨g,0,none⟩/\aF w g 271 cs/\∀(j:Nat) (u:YO),(sc l)[j]?=some u->cs[j]?=some u)
theorem uT.of(S:aM w 271 2 v n (sc l)):uT w v l:=by
 have hl:=S.1;rw[kI]at hl;obtain rfl:n=l.length:=by omega
 obtain⟨A,c,rfl⟩:=ax S;refine⟨A,c,rfl,λh=>?_⟩;obtain⟨g,cap,rest,hv,B,_,_⟩:=S.form h (by omega);simp only[Value.slice.injEq,true_and]at hv;obtain⟨rfl,rfl⟩:=hv;exact⟨g,_,rfl,B,λj u hu=>by rw[cN,bE (aR.1 hu).1];exact hu⟩
theorem uT.only{S:List Nat}(h:uT w v l)(ho:ag S w w')(hd:∀g cs,aF w g 271 cs->g∉S):uT w' v l:=by
 obtain⟨A,c,rfl,h⟩:=h;refine⟨A,c,rfl,λhl=>?_⟩;obtain⟨g,cs,rfl,B,hc⟩:=h hl;exact⟨g,cs,rfl,B.only ho (hd g cs B),hc⟩
theorem uT.below(h:uT w v l)(hb:i7 w w'):uT w' v l:=h.only (S:=[]) (.aj hb) (by simp)
theorem Uc(B:oH w v F):∀g cs,aF w g 271 cs->g∉ah v:=by
 intro g cs hg hm;obtain⟨_,B'⟩:=ya B g hm;exact hg.jJ B' (by decide) rfl
theorem uT.cells{A:Option Addr}{c:Nat}(h:uT w (U3 A n c) l)(k:Nat)(hk:k<l.length):∃g,A=some ⟨g,0,none⟩/\w.cell? ⟨g,k*2,none⟩=some (U5 By l[k].1)/\w.cell? ⟨g,k*2+1,none⟩=some (U5 By l[k].2):=by
 obtain⟨A',c',hv,h⟩:=h;simp only[Value.slice.injEq]at hv;obtain⟨rfl,rfl,rfl⟩:=hv;obtain⟨g,cs,rfl,B,hc⟩:=h (by omega);obtain⟨h0,h1⟩:=Yc l k hk;exact⟨g,rfl,B.ab (hc _ _ h0),B.ab (hc _ _ h1)⟩
theorem Cz{vb vl:YO}(B:oH w vb F)(S:uT w vl l)(heap:Int)(hF:F.length=232)(hl:4+4*l.length<=232)(hh0:0<=heap)(hh:heap<65536)(hx:∀x∈l,x.1<65536/\x.2<65536):
  eq prog 212 #[vb,vl,heap] w λe w'=>e=BY (U2 ⟨(lH F l heap.toNat).toArray⟩)/\ag (ah vb) w w':=by
 obtain⟨h,rfl⟩:=dZ hh0;rw[iJ];obtain⟨A,c,rfl,-⟩:=id S;have SS:=xh S;have Tf:=xh<|mi F l h;have HX:=g9 (∀k (hk:k<l.length),l[k].1<65536/\l[k].2<65536) (λk hk=>hx _ (jS hk));have HST:=xh (show ∀k (hk:k<l.length),iM F l h (k+1)=nW (nW (iM F l h k) (4+4*k) l[k].1) (6+4*k) l[k].2 from λk hk=>by
  rw[iM];simp[List.getD,aH hk])
 have H0:=g9 (iM F l h 0=nW (nW F 0 l.length) 2 h) rfl;have HW:=g9 (lH F l h=iM F l h l.length) rfl;have K0:=xh<|jD B 0 l.length (by omega) (by omega) (by omega) (by omega) (by omega);have AP:=xh (λ(w':YB) (F':pu) (B':oH w' vb F')=>Uc B');have BB:=xh B;have HFF:=xh hF;clear S B hx hF;go_in;go_wp2_with fail;go_call K0.o as e w1 ⟨rfl,B1,o1⟩
 have S1:=xh<|SS.o.only o1 (AP.o _ _ BB.o);have O1:=xh o1;have K2:=xh<|jD B1 2 h (by omega) (by rw[fq,HFF.o];omega) (by rw[fq,HFF.o];omega) (by omega) (by omega);have BB1:=xh B1;clear B1 o1 K0 SS;go_wp2_with fail;go_call K2.o as e w2 ⟨rfl,B2,o2⟩;have S2:=xh<|S1.o.only o2 (AP.o _ _ BB1.o);have O2:=xh<|O1.o.trans o2
 rw[show(2:Int).toNat=2 from rfl,show(0:Int).toNat=0 from rfl,iJ,iJ,<-H0.o]at B2;have BB2:=xh B2;clear B2 o2 K2 O1 S1 BB1;go_wp2_with fail
 go_loopw [18] (λiv wr=> ∃k:Nat,k<=l.length/\iv=U5 By k/\oH wr vb (iM F l h k)/\uT wr (U3 A l.length c) l/\ag (ah vb) w wr) (λiv _=>l.length-(intOf iv).toNat)
 case atStart=>exact⟨0,aW _,rfl,BB2.o,S2.o,O2.o⟩
 case round=>
  obtain⟨k,hk,rfl,B,S,O⟩:=hrel
  by_cases lO:k<l.length
  .obtain⟨g,rfl,c0,c1⟩:=S.cells k lO;have hx:=HX.o k lO;have HSTk:=xh<|HST.o k lO;have hkl2:(k:Int)<(l.length:Int):=by omega
   generalize l[k]=x at *;obtain⟨x0,x1⟩:=x;simp only at hx c0 c1 HSTk;have b8:=(i5 wr).alloc (ai _) (WF #[x0,x1] 271);have B8:=xh<|B.below b8;have S8:=xh<|S.below b8;have O8:=xh<|O.trans (.aj b8);have Z8:=xh<|aF.new wr 271 #[x0,x1];have K3:=xh<|jD B8.o (4+4*k) x0 (by omega) (by rw[Tf.o,HFF.o];omega) (by rw[Tf.o,HFF.o];omega) (by omega) (by omega);clear b8 B S O
   go_wp2_with fail;generalize wr.alloc (WF #[x0,x1] 271)=W at *;generalize wr.heap.size=z at *;go_call K3.o as e w3 ⟨rfl,B3,o3⟩;have S3:=xh<|S8.o.only o3 (AP.o _ _ B8.o);have O3:=xh<|O8.o.trans o3;have Z3:=xh<|Z8.o.only o3 (AP.o _ _ B8.o _ _ Z8.o);have z1:=Z3.ap 1
   have K4:=xh<|jD B3 (4+4*k+2) x1 (by omega) (by rw[fq,Tf.o,HFF.o];omega) (by rw[fq,Tf.o,HFF.o];omega) (by omega) (by omega);have B3:=xh B3;clear o3 K3 B8 S8 O8 Z8 c0 c1;go_wp2_with fail;go_call K4.o as e w4 ⟨rfl,B4,o4⟩;have S4:=xh<|S3.o.only o4 (AP.o _ _ B3.o);have O4:=xh<|O3.o.trans o4
   rw[show(4+4*(k:Int)).toNat=4+4*k by omega,show(4+4*(k:Int)+2).toNat=6+4*k by omega,iJ,iJ,<-HSTk.o]at B4;have B4:=xh B4;clear o4 K4 S3 O3 Z3 z1;go_wp2_with fail;go_roundw
   case rel=>exact⟨k+1,by omega,by go_num,B4.o,S4.o,O4.o⟩
   case measure=>simp[intOf];omega
  .have En:=g9 (k=l.length) (by omega);have KS:=xh<|B.string (by rw[Tf.o,HFF.o];omega);have OO:=xh O;clear B S O;go_wp2_with fail;rw[KS.o];go_wp2;go_ret;refine⟨?_,OO.o⟩;rw[HW.o,<-En.o];rfl
attribute [local go_sem ↓] bA
variable{l:List YO}{w:YB}{g n:Nat}{F b:pu}{v:YO}
theorem ql:(prog.info? 5).map (·.size)=some 1:=by kernel_rfl
theorem Rj(F:pu)(o:Nat):lay F o []=F:=by simp[lay]
theorem Px{r c:List YO}{o:Nat}(h:o+c.length<=l.length):putAt (l++r) o c=putAt l o c++r:=by
 unfold putAt;rw[m8 (by omega),uv h];simp
theorem rQ{cap:Nat}(B:oH w (U3 (lc g) F.length cap) F)(o oa AQ:Nat)(s:rd)(ho:o+s.size<=F.length)(hoa:oa=o\/(s.size=0/\oa<=F.length))(vH:Nat)(hd:vH=F.length-o):
  ∃w',(Builtin.copy_ #[150,9] 3 #[U3 (some ⟨g,oa,none⟩) vH AQ,U2 s]).run prog w=.ok (goInt s.size) w'/\oH w' (U3 (lc g) F.length cap) (lay F o s.data.toList)/\ag [g] w w':=by
 obtain⟨rest,BB,hc,_,hm⟩:=aM.uD B;have hl:(dR F).length=F.length:=kk F;have zL:s.data.toList.length=s.size:=by simp
 obtain⟨w',e,B',o'⟩:=oF (P:=prog) BB 150 9 3 5 oa vH AQ s s.size underlying150 ql (by rw[hd];exact(sM (by omega)).symm) (by simp;omega);refine⟨w',e,?_,o'⟩;rw[cm (by omega),Px (by simp;omega),vM]at B';have el:lay F oa s.data.toList=lay F o s.data.toList:=by
  rcases hoa with rfl|⟨h0,_⟩
  .rfl
  .have:s.data.toList=[]:=oO (by omega);rw[this,Rj,Rj]
 rw[el]at B';have qQ:(lay F o s.data.toList).length=F.length:=jl (by omega);unfold oH;rw[qQ];exact⟨by simp[qQ],.inr ⟨g,cap,rest,rfl,B',by simp[qQ];simpa using hc,hm⟩⟩
theorem Ks{l:List Slot}(S:aM w 271 2 v n (sc l))(a b:Nat)(hn:n<=1000000):
  ∃v' w',dF prog 266 266 (w.alloc (WF #[U5 By a,U5 By b] 271)) v (U3 (some ⟨w.heap.size,0,none⟩) 1 1)= .ok v' w'/\aM w' 271 2 v' (n+1) (sc (l++[(a,b)]))/\ag (ah v) w w'/\(∀g∈ah v',g∈ah v\/w.heap.size<=g):=by
 obtain⟨i0,hi,lz,jK,kl⟩:=info_parts xY;obtain⟨v',w',ea,S',O',F'⟩:=dE (P:=prog) (S.alloc (WF #[U5 By a,U5 By b] 271)) 266 266 i0 (.agg #[U5 By 0,U5 By 0]) 16 underlying266 hi lz jK kl rfl (by omega)
  ⟨w.heap.size,0,none⟩ 1 1 [U5 By a,U5 By b] rfl (bm (l:=[_,_]) (aF.new _ _ _) 0 _ (by simp)) (by intro u hu;simp at hu;rcases hu with rfl|rfl<;>rfl) (by unfold it;omega) (by omega)
 rw[show sc l++[U5 By (a:Int),U5 By (b:Int)]=sc (l++[(a,b)])from by rw[pD];rfl]at S';exact⟨v',w',ea,S',((ag.refl _ _).alloc _).aU O' (λx hx _=>hx),λg hg=>(F' g hg).imp id (λh=>by simp at h;omega)⟩
theorem wy{c:Nat}{e:pm}{size m:Nat}(h:aM w e size v m l)(B:oH w (U3 (lc g) n c) F)(fF:e≠5):∀x∈ah v,x∉[g]:=by
 have:=dL h B fF;simpa [ah]using this
def fZ(b:pu)(k:Nat):ub:=((dn b).take k).foldl ub.add Fz
theorem Kt(b:pu)(k:Nat)(h:k<cd b 0):fZ b (k+1)=(fZ b k).add (mN b (slot b k)):=by
 unfold fZ;rw[yc b k h,List.foldl_append];rfl
theorem CA(b:pu):fZ b (cd b 0)=ug (dn b):=by
 unfold fZ ug;rw[cm (by rw[dV];exact ai _)]
theorem y7(l:List Nat):∀k,(l.take k).sum<=l.sum:=by
 induction l with
 |nil=>intro k;simp
 |cons x l ih=>
  intro k
  cases k with
  |zero=>simp
  |succ k=>simp only[qe,l8];have:=ih k;omega
theorem yd(h:Sound b)(k:Nat):(fZ b k).Ok ((dn b).take k):=by
 refine Cw _ ?_;rw[l6];have:=y7 ((dn b).map List.length) k;have:=h.sum;omega
theorem Ku(h:Sound b)(k:Nat)(hk:k<cd b 0):(mN b (slot b k)).length<=(fZ b k).heap:=by
 have h1:=(yd h k).heap;have h2:=(yd h (k+1)).heap;rw[yc b k hk,cX,zW]at h2;simp only[fA,oE,l8,List.sum_nil]at h2;omega
def mB(b:pu):pu×Int:=if cC b=0 then(iB b,0)else([],cC b)
theorem Kv(s:rd)(w:YB)(hs:s.size<=1000000):
  eq prog 211 #[U2 s] w λe w'=>e=BY (U8 #[U2 ⟨(mB s.data.toList).1.toArray⟩,U5 By (mB s.data.toList).2])/\i7 w w':=by
 have KA:=xh<|tx s w hs
 by_cases h:cC s.data.toList=0
 .have hS:=(fP _).1 h;have e1:mB s.data.toList=(iB s.data.toList,0):=by unfold mB;rw[if_pos h]
  rw[e1];clear e1;have JI:s.size=232:=by have:=hS.len;simpa using this
  have h4:=hS.head;have h5:=hS.heap;have HC:=xh h;have hlist:(dn s.data.toList).length=cd s.data.toList 0:=dV _;have HGET:=xh (show ∀k,k<cd s.data.toList 0->(strs (dn s.data.toList))[k]?=some (U2 ⟨(mN s.data.toList (slot s.data.toList k)).toArray⟩)from λk hk=>by
   simp[strs,dn,bU,hk])
  have HSU:=xh<|Kt s.data.toList;have Em:=xh (λk=>yd hS k);have HRM:=xh (λk hk=>Ku hS k hk);have HCF:=g9 (iB s.data.toList=lH (fZ s.data.toList (cd s.data.toList 0)).o (fZ s.data.toList (cd s.data.toList 0)).ts (fZ s.data.toList (cd s.data.toList 0)).heap) (by rw[CA];rfl);have HLA:=xh hS.comp;have HAL:=xh<|CA s.data.toList
  have H0:=g9 (fZ s.data.toList 0=Fz) rfl;clear h hS hlist JI;generalize hn:cd s.data.toList 0=n at *;have HN0:=xh hn;clear hn;have hmk:Hid (∀w':YB,(Instr.makeSlice 150 (U5 By 232) (U5 By 232)).run prog w'= .ok (U3 (lc w'.heap.size) 232 232) (w'.alloc (WF (dR (fd 232 0)).toArray 5))):=xh (λw':YB=>qm 232 (by omega) w');have HZ:=g9 (Fz=⟨fd 232 0,[],232⟩) rfl
  have HZL:=xh (show(fd 232 (0:UInt8)).length=232 from eR);generalize fd 232 (0:UInt8)=Z at *;go_in;go_wp2_with fail;go_call KA.o as e w1 ⟨v,rfl,aO,fr,hv⟩
  rcases hv with⟨-,T⟩|⟨fF,-⟩
  .rw[HC.o];rw[HN0.o]at T;obtain⟨A,c,rfl⟩:=ax T;have hm:=hmk.o;have B0:=xh<|oH.new w1 Z (by rw[HZL.o];unfold it;omega);rw[HZL.o]at B0;have b0:=(i5 w1).alloc (ai _) (WF (dR Z).toArray 5);have T0:=xh<|T.below b0;have O0:=xh<|aC aO b0;have hg:=aO.size;clear b0 T aO fr hmk KA;go_wp2_with fail;generalize w1.alloc (WF (dR Z).toArray 5)=W at *;generalize w1.heap.size=g at *;clear hm
   go_loopw [7,8,22] (λv hv iv wr=> ∃k:Nat,k<=n/\iv=U5 By k/\hv=U5 By (fZ s.data.toList k).heap/\oH wr (U3 (lc g) 232 232) (fZ s.data.toList k).o/\aM wr 271 2 v k (sc (fZ s.data.toList k).ts)/\aM wr 9 1 (U3 A n c) n (strs (dn s.data.toList))/\i7 w wr/\Hid (∀g∈ah v,w.heap.size<=g)) (λ_ _ iv _=>n-(intOf iv).toNat)
   case atStart=>exact⟨0,aW _,rfl,by rw[H0.o];rfl,by rw[H0.o,HZ.o];exact B0.o,by rw[H0.o];exact aM.nil _ _ _,T0.o,O0.o,xh (by simp[ah])⟩
   case round=>
    obtain⟨k,hk,rfl,rfl,B,S,T,O,F⟩:=hrel;obtain⟨SA,cS,rfl⟩:=ax S;have Ew:=(Em.o k).len;have hsum:=(Em.o k).heap
    by_cases h:k<n
    .obtain⟨gT,cT,restT,hv,BT,Cy,-⟩:=T.form (by omega) (by omega);simp only[Value.slice.injEq,true_and]at hv;obtain⟨rfl,rfl⟩:=hv;have ck:wr.cell? ⟨gT,k,none⟩=some (U2 ⟨(mN s.data.toList (slot s.data.toList k)).toArray⟩):=BT.ab (by
      have h1:=HGET.o k h;rw[cN,bE (aR.1 h1).1];exact h1)
     have hrm:=HRM.o k h;have HS:=xh<|HSU.o k h;have TT:=xh T;have OO:=xh O;have SS:=xh S;clear T O S BT;generalize mN s.data.toList (slot s.data.toList k)=r at *;have HCk:=g9 (fZ s.data.toList (k+1)=⟨lay (fZ s.data.toList k).o ((fZ s.data.toList k).heap-r.length) r,(fZ s.data.toList k).ts++[((fZ s.data.toList k).heap-r.length,r.length)],(fZ s.data.toList k).heap-r.length⟩) HS.o;generalize fZ s.data.toList k=C at *
     obtain⟨out,ts,heap⟩:=C;simp only at hrm B HCk SS Ew hsum;have hhp:heap<=232:=by omega
     clear hsum;obtain⟨R,rfl⟩:∃R:rd,R.data.toList=r:=⟨⟨r.toArray⟩,by simp⟩;have bS:(⟨R.data.toList.toArray⟩:rd)=R:=by simp
     have hRl:R.data.toList.length=R.size:=by simp
     rw[bS]at ck;rw[hRl]at hrm HCk;obtain⟨h',rfl⟩:∃h',heap=h'+R.size:=⟨heap-R.size,by omega⟩;rw[qf]at HCk;have HB:=xh B;rw[<-Ew]at B;have KCP:=xh (λ(oa:Nat) (hoa:oa=h'\/(R.size=0/\oa<=232)) (AQ:Nat)=>rQ B h' oa AQ R (by omega) (by rw[Ew];exact hoa) (232-h') (by omega));rw[Ew]at KCP;clear B Ew bS hRl HS;have NS:=xh<|wy SS.o HB.o (by decide);have NT:=xh<|wy TT.o HB.o (by decide)
     have KX:=xh (show ∃(oa dc:Nat) (w5:YB),((h'=232/\oa=0/\dc=0)\/(h'≠232/\oa=h'/\dc=232-h'))/\(Builtin.copy_ #[150,9] 3 #[U3 (some ⟨g,oa,none⟩) (232-h') dc,U2 R]).run prog wr=.ok (goInt R.size) w5/\oH w5 (U3 (lc g) 232 232) (lay out h' R.data.toList)/\ag [g] wr w5 from by
      by_cases hz:h'=232
      .obtain⟨w5,h1,h2,h3⟩:=KCP.o 0 (.inr ⟨by omega,by omega⟩) 0;exact⟨0,0,w5,.inl ⟨hz,rfl,rfl⟩,h1,h2,h3⟩
      .obtain⟨w5,h1,h2,h3⟩:=KCP.o h' (.inl rfl) (232-h');exact⟨h',232-h',w5,.inr ⟨hz,rfl,rfl⟩,h1,h2,h3⟩)
     obtain⟨oa,dc,w5,hoa,cp,B5,o5⟩:=KX.o;have S5:=SS.o.only o5 NS.o;have T5:=TT.o.only o5 NT.o;have O5:=xh<|OO.o.trans (o5.aK OO.o.size (by simp;exact hg));obtain⟨v6,w6,ea,S6,o6,F6⟩:=Ks S5 h' R.size (by omega);obtain⟨VA,vc,rfl⟩:=ax S6;have B6:=xh<|B5.only o6 (λx hx hx'=>dL S5 B5 (by decide) x hx' hx);have T6:=xh<|T5.only o6 (dL T5 S5 (by decide));have O6:=xh<|O5.o.trans (o6.aK O5.o.size F.o)
     have F7:=g9 (∀g∈ah (U3 VA (k+1) vc),w.heap.size<=g) (λg hg=>(F6 g hg).elim (F.o g) (λh=>aq O5.o.size h));have S6:=xh S6;clear KX B5 o5 S5 T5 o6 F6 KCP NS NT HB
     rcases hoa with⟨rfl,rfl,rfl⟩|⟨hz,rfl,rfl⟩
     all_goals
      try simp only[show((232:Nat):Int)=232 from rfl]at ea
      go_wp2_with fail;go_roundw
      case rel=>exact⟨k+1,by omega,by go_num,by rw[HCk.o]<;>rfl,by rw[HCk.o];exact B6.o,by rw[HCk.o];exact S6.o,T6.o,O6.o,F7⟩
      case measure=>simp[intOf];omega
    .have En:=g9 (k=n) (by omega);obtain rfl:k=n:=En.o;have HL:=xh HLA.o;have HTL:=xh (Em.o k).Yb;rw[<-HAL.o]at HL;have KW:=xh<|Cz B (uT.of S) (fZ s.data.toList k).heap Ew (by have h1:=HL.o.head;have h2:=HL.o.hh;omega) (by omega) (by have:=HL.o.hh;omega) HL.o.small;rw[iJ,<-HCF.o]at KW;have Yg:=hg;have OO:=xh O;have hlt2:(fZ s.data.toList k).heap<=232:=HL.o.hh;clear B S T O HL
     generalize fZ s.data.toList k=C at *;go_wp2_with fail;go_call KW.o as e w5 ⟨rfl,o5⟩;have O6:=xh<|OO.o.trans (o5.aK OO.o.size (by simpa [ah]using Yg));clear o5;go_wp2;go_ret2;exact⟨rfl,O6.o⟩
  .exact absurd HC.o fF
 .have HC:=xh h;have hb:(cC s.data.toList==0)=false:=by simpa using h
  have e1:mB s.data.toList=([],cC s.data.toList):=by unfold mB;rw[if_neg h]
  rw[e1];clear h e1;unfold qF at KA;generalize cC s.data.toList=q at *;go_in;go_wp2_with fail;go_call KA.o as e w1 ⟨v,rfl,aO,fr,hv⟩
  rcases hv with⟨h0,-⟩|⟨-,rfl⟩
  .exact absurd h0 HC.o
  .have O:=xh aO;clear aO fr;go_wp2;go_ret2;exact⟨rfl,O.o⟩
variable{w:YB}{A:Option Addr}{n c:Nat}{l:List Slot}
theorem mP:∃i:TypeInfo,prog.info? 271=some i/\i.zero=some (.agg #[U5 By 0,U5 By 0])/\i.size=2/\i.bytes=16:=info_parts xY
theorem Yh{cc:Nat}(h:n<=c):dF prog 266 266 w (U3 A n c) (U3 none 0 cc)= .ok (U3 A n c) w:=by
 obtain⟨i0,Jj,lz,jK,kl⟩:=mP;unfold dF
 cases A with
 |none=>simp[Builtin.append_,run_underlying underlying266,sizeOf,typeInfo,Jj,Builtin.lenOf,Builtin.firstCells,Ad.2 h,h]
 |some a=>simp[Builtin.append_,run_underlying underlying266,sizeOf,typeInfo,Jj,Builtin.lenOf,Builtin.firstCells,h,storeCells]
theorem Kw(l:List Slot)(i:Nat):sc l=sc (l.take i)++sc (l.drop i):=by rw[<-pD,m7]
theorem Kx(S:aM w 271 2 (U3 A n c) n (sc l))(i:Nat)(hi:i<=n)(hn:n<=1000000)(a:Addr)(cc:Nat)(lx:List Slot)(hm0:0<lx.length)(BH:lx.length<=1000000)(hx:∀j u,(sc lx)[j]?=some u->w.cell? (a.add j)=some u):
  ∃v' w',dF prog 266 266 w (U3 A i i) (U3 (some a) lx.length cc)= .ok v' w'/\aM w' 271 2 v' (i+lx.length) (sc (l.take i++lx))/\i7 w w'/\(∀g∈ah v',w.heap.size<=g):=by
 obtain⟨i0,Jj,lz,jK,kl⟩:=mP;have hl:=S.1;rw[kI]at hl;have Ud:(sc lx).length=lx.length*2:=by rw[kI];omega
 rcases S.2 with⟨hv,h0⟩|⟨g,cap,rest,hv,B,hc,_⟩
 .simp only[Value.slice.injEq]at hv;obtain⟨rfl,-,rfl⟩:=hv;subst h0;obtain rfl:i=0:=by omega
  obtain⟨v',w',e,S',o,F⟩:=dE (P:=prog) (aM.nil w 271 2) 266 266 i0 (.agg #[U5 By 0,U5 By 0]) 16 underlying266 Jj lz jK kl rfl (by omega) a lx.length cc (sc lx) Ud hx (Yd lx) (by unfold it;omega) (by omega);exact⟨v',w',e,by rw[jA,cQ];simpa using S',o.below (by simp[ah]),λx hx=>(F x hx).elim (by simp[ah]) id⟩
 .simp only[Value.slice.injEq]at hv;obtain⟨rfl,-,rfl⟩:=hv;have hli:(sc (l.take i)).length=i*2:=by rw[kI,bC];omega
  obtain⟨v',w',AU,h2,h3⟩:=run_append_arg_grows (P:=prog) w 266 266 271 i0 (.agg #[U5 By 0,U5 By 0]) 2 16 underlying266 Jj lz jK kl rfl (by omega) ⟨g,0,none⟩ i i (sc (l.take i)) hli
   (bm B 0 _ (by
    intro j u hu;rw[bq];have hj:j<(sc (l.take i)).length:=(aR.1 hu).1;rw[Kw l i,cK,bE hj];exact hu)) a lx.length cc (sc lx) Ud hx (by omega) (by unfold it;omega) (by omega)
  rw[<-pD]at h2;refine⟨v',w',AU,.AR h2,((ag.refl [] w).grown h3 (by simp)).iw,?_⟩;intro g' hg
  rcases h2.2 with⟨rfl,_⟩|⟨g'',Hb,cur,rfl,hb,_⟩
  .simp[ah]at hg
  .simp[ah]at hg;subst hg;exact hb
theorem CB(S:aM w 271 2 (U3 A n c) n (sc l))(i:Nat)(hi:i<=n)(hn:n<=1000000)(a b:Nat):
  ∃v' w',dF prog 266 266 (w.alloc (WF #[a,b] 271)) (U3 A i i) (U3 (lc w.heap.size) 1 1)= .ok v' w'/\aM w' 271 2 v' (i+1) (sc (l.take i++[(a,b)]))/\i7 w w'/\(∀g∈ah v',w.heap.size<=g):=by
 have b0:=(i5 w).alloc (ai _) (WF #[(a:Int),(b:Int)] 271);obtain⟨v',w',e,S',o,F⟩:=Kx (S.below b0) i hi hn ⟨w.heap.size,0,none⟩ 1 [(a,b)] (by simp) (by simp) (bm (l:=[(a:Int),(b:Int)]) (aF.new _ _ _) 0 _ (by intro j u hu;rw[bq];exact hu));exact⟨v',w',e,S',aC b0 o,λg hg=>aq (by simp) (F g hg)⟩
theorem y8{vt:YO}{m:Nat}{lt:List Slot}(T:aM w 271 2 vt m (sc lt))(S:aM w 271 2 (U3 A n c) n (sc l))(i:Nat)(hi:i<=n)(hn:n<=1000000)(hm:m<=1000000)(hmp:0<m):
  ∃A' cc v' w',((A=none/\n=0/\i=0/\c=0/\A'=none/\cc=0)\/(∃g,A=some ⟨g,0,none⟩/\c=i/\n=i/\A'=some ⟨g,0,none⟩/\cc=0)\/(∃g,A=some ⟨g,0,none⟩/\c≠i/\i<c/\n<=c/\A'=some ⟨g,i*2,none⟩/\cc=c-i))/\
   dF prog 266 266 w vt (U3 A' (n-i) cc)= .ok v' w'/\aM w' 271 2 v' (m+(n-i)) (sc (lt++l.drop i))/\ag (ah vt) w w'/\(∀g∈ah v',g∈ah vt\/w.heap.size<=g):=by
 obtain⟨i0,Jj,lz,jK,kl⟩:=mP;have hl:=S.1;rw[kI]at hl
 rcases S.2 with⟨hv,h0⟩|⟨g,cap,rest,hv,B,hc,_⟩
 .simp only[Value.slice.injEq]at hv;obtain⟨rfl,-,rfl⟩:=hv;subst h0;obtain rfl:i=0:=by omega
  have JE:l=[]:=oO (by omega);subst JE;obtain⟨g,cap,rest,rfl,_,Cy,_⟩:=T.form hmp (by omega);exact⟨none,0,_,w,.inl ⟨rfl,rfl,rfl,rfl,rfl,rfl⟩,Yh Cy,by simpa using T,ag.refl _ _,λx hx=> .inl hx⟩
 .simp only[Value.slice.injEq]at hv;obtain⟨rfl,-,rfl⟩:=hv;have Ha:n<=c:=by
   have:=S.1;omega
  have hdl:(sc (l.drop i)).length=(n-i)*2:=by rw[kI,ev];omega
  have hcells:∀(o:Nat),o=i*2\/n-i=0->∀j u,(sc (l.drop i))[j]?=some u->w.cell? ((⟨g,o,none⟩:Addr).add j)=some u:=λo ho=>bm B o _ (by
   intro j u hu;have hj:j<(sc (l.drop i)).length:=(aR.1 hu).1
   rcases ho with rfl|h0
   .have hti:(sc (l.take i)).length=i*2:=by rw[kI,bC];omega
    rw[Kw l i,cK,dQ (by omega),hti,Nat.add_sub_cancel_left,bE hj];exact hu
   .omega)
  have key:∀(o cc:Nat),o=i*2\/n-i=0->∃v' w',dF prog 266 266 w vt (U3 (some ⟨g,o,none⟩) (n-i) cc)= .ok v' w'/\aM w' 271 2 v' (m+(n-i)) (sc (lt++l.drop i))/\ag (ah vt) w w'/\(∀g∈ah v',g∈ah vt\/w.heap.size<=g):=by
   intro o cc ho;obtain⟨v',w',e,S',o',F⟩:=dE (P:=prog) T 266 266 i0 (.agg #[U5 By 0,U5 By 0]) 16 underlying266 Jj lz jK kl rfl (by omega) ⟨g,o,none⟩ (n-i) cc (sc (l.drop i)) hdl (hcells o ho) (Yd _) (by unfold it;omega) (by omega);rw[<-pD]at S';exact⟨v',w',e,S',o',F⟩
  by_cases hci:c=i
  .have hni:n=i:=by omega
   obtain⟨v',w',h1,h2,h3,h4⟩:=key 0 0 (.inr (by omega));exact⟨_,0,v',w',.inr (.inl ⟨g,rfl,hci,hni,rfl,rfl⟩),h1,h2,h3,h4⟩
  .obtain⟨v',w',h1,h2,h3,h4⟩:=key (i*2) (c-i) (.inl rfl);exact⟨_,c-i,v',w',.inr (.inr ⟨g,rfl,hci,by omega,Ha,rfl,rfl⟩),h1,h2,h3,h4⟩
variable{b r:pu}
def wB(b:pu)(i:Int)(r:pu):pu×Int:=
 if cC b=0 then(if 0<=i/\i<=(cd b 0:Int)then(if(r.length:Int)<=jf b-4 then(uR b i.toNat r,0)else([],11))else([],3))else([],cC b)
theorem Yi(h:¬4+4*(cd b 0+1)+r.length>cd b 2):kH b r=b:=by unfold kH;rw[if_neg h]
theorem Ue(h:4+4*(cd b 0+1)+r.length>cd b 2):kH b r=iB b:=by unfold kH;rw[if_pos h]
theorem uh(s:rd)(w:YB)(hs:s.size<=1000000):
  ∃cap w',(convert 9 150 (U2 s)).run prog w=.ok (U3 (lc w.heap.size) s.size cap) w'/\oH w' (U3 (lc w.heap.size) s.size cap) s.data.toList/\i7 w w':=by
 obtain⟨cap,w1,e1,S1,aO⟩:=zH (P:=prog) w 9 150 5 s underlying9 underlying150 underlying5 (by unfold it;omega);refine⟨cap,w1,e1,?_,aO⟩;unfold oH;rw[show s.data.toList.length=s.size from by simp];exact S1
theorem Ky(h:Sound b)(i:Nat)(hr:(r.length:Int)<=jf b-4)(hi:i<=cd b 0):
  ∃t:pu,t=kH b r/\Sound t/\cd t 0=cd b 0/\4+4*(cd b 0+1)+r.length<=cd t 2/\
   uR b i r=lH (lay t (cd t 2-r.length) r) (((bU t).take i++[(cd t 2-r.length,r.length)])++(bU t).drop i) (cd t 2-r.length)/\
   Laid (lay t (cd t 2-r.length) r) (((bU t).take i++[(cd t 2-r.length,r.length)])++(bU t).drop i) (cd t 2-r.length):=by
 obtain⟨hs,he,h0,hh⟩:=h.base r hr;refine⟨_,rfl,hs,h0,hh,?_,?_⟩
 .unfold uR;simp
 .rw[cK];exact Laid.insert hs i r (by rw[h0];exact hh) (by rw[h0];exact hi)
theorem Uf(s r:rd)(i:Nat)(w:YB)(hs:Sound s.data.toList)(hr:(r.size:Int)<=jf s.data.toList-4)(hi:i<=cd s.data.toList 0):
  eq prog 164 #[U2 s,i,U2 r] w λe w'=>e=BY (U8 #[U2 ⟨(uR s.data.toList i r.data.toList).toArray⟩,U5 By 0])/\i7 w w':=by
 have JI:s.size=232:=by have:=hs.len;simpa using this
 have h4:=hs.head;have h5:=hs.heap;have TD:r.data.toList.length=r.size:=by simp
 obtain⟨t,ht,tS,t0,t2,hF,Rk⟩:=Ky hs i (r:=r.data.toList) (by rw[TD];exact hr) hi;rw[TD]at t2 hF Rk;rw[hF];have hc0:=(fP _).2 hs;have Xs:wv s.data.toList=jf s.data.toList:=by unfold wv;rw[if_pos hc0]
 have hrle:jf s.data.toList<=228:=by unfold jf;omega
 have KC:=xh (λw'=>tw s w' (by omega));have KL:=xh (λw'=>kW s w' (by omega) (by omega));have KR:=xh (λw'=>Kr s w' (by omega));have K2:=xh (λw'=>fO s 2 w' (by omega) (by omega) (by omega));have KM:=xh (λw'=>Kv s w' (by omega));have hcg:mB s.data.toList=(iB s.data.toList,0):=by unfold mB;rw[if_pos hc0]
 rw[hcg]at KM;rw[hc0]at KC;rw[Xs]at KR;simp only[show(2:Int).toNat=2 from rfl]at K2;obtain⟨T,rfl⟩:∃T:rd,T.data.toList=t:=⟨⟨t.toArray⟩,by simp⟩;have MP:T.size=232:=by have:=tS.len;simpa using this
 have tH:=tS.heap;have KLT:=xh (λw'=>kW T w' (by rw[t0];omega) (by omega));have K2T:=xh (λw'=>fO T 2 w' (by omega) (by omega) (by omega));simp only[show(2:Int).toNat=2 from rfl]at K2T;rw[t0]at KLT;have VJ:=xh<|dj T.data.toList;rw[t0]at VJ;obtain⟨h',hh'⟩:∃h',cd T.data.toList 2=h'+r.size:=⟨cd T.data.toList 2-r.size,by omega⟩;rw[hh',qf]at Rk;rw[hh',qf];rw[hh']at tH t2 K2T
 have qX:cd s.data.toList 0<65536:=Ct _ _;have za:=xh Rk;have HT:=xh ht;have HCB:=xh (show 4+4*(cd s.data.toList 0+1)+r.size>cd s.data.toList 2->(⟨(iB s.data.toList).toArray⟩:rd)=T from λhg=>by
  rw[Ue (by rw[TD];exact hg)]at ht;rw[<-ht])
 have XV:=xh (show ¬4+4*(cd s.data.toList 0+1)+r.size>cd s.data.toList 2->s=T from λhg=>by
  rw[Yi (by rw[TD];exact hg)]at ht;apply jQ;apply qP.1;exact ht.symm)
 have HTL:=xh MP;have hTl1:T.size<=1000000:=by omega
 clear ht tS hF Rk hc0 Xs hcg JI TD hh' MP t0 hs;generalize cd s.data.toList 0=n at *;generalize cd s.data.toList 2=heap at *;generalize jf s.data.toList=room at *;go_in;go_wp2_with fail;go_call (KC.o _) as e w1 ⟨rfl,aO⟩;have O1:=xh aO;clear aO;go_wp2_with fail;go_call (KL.o _) as e w2 ⟨v,rfl,S2,cf,Fc⟩;have O2:=xh<|aC O1.o cf;have hS2:=xh S2;obtain⟨A2,c2,rfl⟩:=ax S2
 have FR2:=g9 (∀g∈ah (U3 A2 n c2),w.heap.size<=g) (λg hg=>aq O1.o.size (Fc g hg));clear S2 cf Fc;go_wp2_with fail;go_call (KR.o _) as e w3 ⟨rfl,dk⟩;have O3:=xh<|aC O2.o dk;have S3:=xh<|hS2.o.below dk;clear dk hS2;go_wp2_with fail;go_call (K2.o _) as e w4 ⟨rfl,fo⟩;have O4:=xh<|aC O3.o fo;have S4:=xh<|S3.o.below fo;clear fo S3 O3 O2 O1
 by_cases hg:4+4*(n+1)+r.size>heap
 .have e1:=HCB.o hg;rw[e1]at KM;clear e1;have Rm:heap<4+4*(n+1)+r.size:=hg;clear hg HCB XV;go_wp2_with fail;go_call (KM.o _) as e w5 ⟨rfl,mK⟩;have O5:=xh<|aC O4.o mK;clear mK O4;go_wp2_with fail;go_call (KLT.o _) as e w6 ⟨v,rfl,S6,zI,fr6⟩;have O6:=xh<|aC O5.o zI;obtain⟨A,c,rfl⟩:=ax S6;have S:=xh S6;have FR:=g9 (∀g∈ah (U3 A n c),w.heap.size<=g) (λg hg=>aq O5.o.size (fr6 g hg))
  clear S6 zI fr6 O5 S4;go_wp2_with fail;go_call (K2T.o _) as e w7 ⟨rfl,tW⟩;have O7:=xh<|aC O6.o tW;have S7:=xh<|S.o.below tW;clear tW S O6 Rm KM K2 KC KL KR K2T KLT;obtain⟨cap,w8,e8,B8,Ai⟩:=uh T w7 (by omega);rw[HTL.o]at e8 B8;have E8:=xh e8;have O8:=xh<|aC O7.o Ai;have S8:=S7.o.below Ai;have hgw:=aq O7.o.size (ai w7.heap.size);have rR:T.data.toList.length=232:=by have:=HTL.o;simpa using this
  have NS:=xh<|wy S8 B8 (by decide);have Cy:232<=cap:=by obtain⟨rest,_,h2,_⟩:=aM.uD B8;rw[kk,rR]at h2;omega
  obtain⟨oa,dc,w9,hoa,cp,B9,o9⟩:∃(oa dc:Nat) (w9:YB),((h'=232/\cap=232/\oa=0/\dc=0)\/(h'≠cap/\h'<cap/\oa=h'/\dc=cap-h'))/\(Builtin.copy_ #[150,9] 3 #[U3 (some ⟨w7.heap.size,oa,none⟩) (232-h') dc,U2 r]).run prog w8=.ok (goInt r.size) w9/\oH w9 (U3 (lc w7.heap.size) 232 cap) (lay T.data.toList h' r.data.toList)/\ag [w7.heap.size] w8 w9:=by
   rw[<-rR]at B8
   by_cases hz:h'=cap
   .obtain⟨w9,h1,h2,h3⟩:=rQ B8 h' 0 0 r (by omega) (.inr ⟨by omega,by omega⟩) (232-h') (by omega);rw[rR]at h2;exact⟨0,0,w9,.inl ⟨by omega,by omega,rfl,rfl⟩,h1,h2,h3⟩
   .obtain⟨w9,h1,h2,h3⟩:=rQ B8 h' h' (cap-h') r (by omega) (.inl rfl) (232-h') (by omega);rw[rR]at h2;exact⟨h',cap-h',w9,.inr ⟨hz,by omega,rfl,rfl⟩,h1,h2,h3⟩
  have S9:=S8.only o9 NS.o;have O9:=xh<|O8.o.trans (o9.aK O8.o.size (by simpa using hgw));obtain⟨v10,zb,ea,T10,zP,Yj⟩:=CB S9 i hi (by omega) h' r.size;obtain⟨V10,c10,rfl⟩:=ax T10;have O10:=xh<|aC O9.o zP;have B10:=B9.below zP;have Ex:=S9.below zP;obtain⟨A',cc,v11,MU,hd,eb,T11,o11,-⟩:=y8 T10 Ex i hi (by omega) (by omega) (by omega);obtain⟨V11,c11,rfl⟩:=ax T11
  have B11:=B10.only o11 (λx hx hx'=>dL T10 B10 (by decide) x hx' hx);have Iw:=xh<|O10.o.trans (o11.aK O10.o.size (λx hx=>aq O9.o.size (Yj x hx)));have KW:=xh<|Cz B11 (uT.of T11) h' za.o.len (by have h1:=za.o.head;have h2:=za.o.hh;omega) (by omega) (by omega) za.o.small;rw[iJ]at KW;have Yg:=g9 (∀x∈ah (U3 (lc w7.heap.size) 232 cap),w.heap.size<=x) (by simpa [ah]using hgw)
  generalize Yk:lH (lay T.data.toList h' r.data.toList) (List.take i (bU T.data.toList)++[(h',r.size)]++List.drop i (bU T.data.toList)) h'=RES at *;have WO:=xh Yk;clear Yk;clear e8 B8 Ai S8 NS B9 o9 S9 T10 zP Yj B10 Ex T11 o11 B11 O7 S7 O8 O9 O10 rR;go_wp2_with fail;rw[E8.o]
  rcases hoa with⟨rfl,rfl,rfl,rfl⟩|⟨hz,kl,rfl,rfl⟩
  all_goals
   rcases hd with⟨rfl,rfl,rfl,rfl,rfl,rfl⟩|⟨gA,rfl,rfl,rfl,rfl,rfl⟩|⟨gA,rfl,hci,hci2,Ha,rfl,rfl⟩
  all_goals
   try simp only[show((232:Nat):Int)=232 from rfl,show((0:Nat):Int)=0 from rfl]at ea
   try simp only[fM,ma]at eb KW
   go_wp2_with fail;go_call KW.o as e w12 ⟨rfl,o12⟩;have O12:=xh<|Iw.o.trans (o12.aK Iw.o.size Yg.o);clear o12;go_wp2;go_ret2;refine⟨?_,O12.o⟩
   first|rfl|(rw[WO.o];rfl)
 .have e1:=XV.o hg;have Rm:4+4*(n+1)+r.size<=heap:=by omega
  clear hg HCB XV;subst e1;have A2':=FR2;go_wp2_with fail;go_call (K2T.o _) as e w7 ⟨rfl,tW⟩;have O7:=xh<|aC O4.o tW;have S7:=xh<|S4.o.below tW;clear tW S4 O4 Rm KM K2 KC KL KR K2T KLT;obtain⟨cap,w8,e8,B8,Ai⟩:=uh s w7 (by omega);rw[HTL.o]at e8 B8;have E8:=xh e8;have O8:=xh<|aC O7.o Ai;have S8:=S7.o.below Ai;have hgw:=aq O7.o.size (ai w7.heap.size)
  have rR:s.data.toList.length=232:=by have:=HTL.o;simpa using this
  have NS:=xh<|wy S8 B8 (by decide);have Cy:232<=cap:=by obtain⟨rest,_,h2,_⟩:=aM.uD B8;rw[kk,rR]at h2;omega
  obtain⟨oa,dc,w9,hoa,cp,B9,o9⟩:∃(oa dc:Nat) (w9:YB),((h'=232/\cap=232/\oa=0/\dc=0)\/(h'≠cap/\h'<cap/\oa=h'/\dc=cap-h'))/\(Builtin.copy_ #[150,9] 3 #[U3 (some ⟨w7.heap.size,oa,none⟩) (232-h') dc,U2 r]).run prog w8=.ok (goInt r.size) w9/\oH w9 (U3 (lc w7.heap.size) 232 cap) (lay s.data.toList h' r.data.toList)/\ag [w7.heap.size] w8 w9:=by
   rw[<-rR]at B8
   by_cases hz:h'=cap
   .obtain⟨w9,h1,h2,h3⟩:=rQ B8 h' 0 0 r (by omega) (.inr ⟨by omega,by omega⟩) (232-h') (by omega);rw[rR]at h2;exact⟨0,0,w9,.inl ⟨by omega,by omega,rfl,rfl⟩,h1,h2,h3⟩
   .obtain⟨w9,h1,h2,h3⟩:=rQ B8 h' h' (cap-h') r (by omega) (.inl rfl) (232-h') (by omega);rw[rR]at h2;exact⟨h',cap-h',w9,.inr ⟨hz,by omega,rfl,rfl⟩,h1,h2,h3⟩
  have S9:=S8.only o9 NS.o;have O9:=xh<|O8.o.trans (o9.aK O8.o.size (by simpa using hgw));obtain⟨v10,zb,ea,T10,zP,Yj⟩:=CB S9 i hi (by omega) h' r.size;obtain⟨V10,c10,rfl⟩:=ax T10;have O10:=xh<|aC O9.o zP;have B10:=B9.below zP;have Ex:=S9.below zP;obtain⟨A',cc,v11,MU,hd,eb,T11,o11,-⟩:=y8 T10 Ex i hi (by omega) (by omega) (by omega);obtain⟨V11,c11,rfl⟩:=ax T11
  have B11:=B10.only o11 (λx hx hx'=>dL T10 B10 (by decide) x hx' hx);have Iw:=xh<|O10.o.trans (o11.aK O10.o.size (λx hx=>aq O9.o.size (Yj x hx)));have KW:=xh<|Cz B11 (uT.of T11) h' za.o.len (by have h1:=za.o.head;have h2:=za.o.hh;omega) (by omega) (by omega) za.o.small;rw[iJ]at KW;have Yg:=g9 (∀x∈ah (U3 (lc w7.heap.size) 232 cap),w.heap.size<=x) (by simpa [ah]using hgw)
  generalize Yk:lH (lay s.data.toList h' r.data.toList) (List.take i (bU s.data.toList)++[(h',r.size)]++List.drop i (bU s.data.toList)) h'=RES at *;have WO:=xh Yk;clear Yk;clear e8 B8 Ai S8 NS B9 o9 S9 T10 zP Yj B10 Ex T11 o11 B11 O7 S7 O8 O9 O10 rR;go_wp2_with fail;rw[E8.o]
  rcases hoa with⟨rfl,rfl,rfl,rfl⟩|⟨hz,kl,rfl,rfl⟩
  all_goals
   rcases hd with⟨rfl,rfl,rfl,rfl,rfl,rfl⟩|⟨gA,rfl,rfl,rfl,rfl,rfl⟩|⟨gA,rfl,hci,hci2,Ha,rfl,rfl⟩
  all_goals
   try simp only[show((232:Nat):Int)=232 from rfl,show((0:Nat):Int)=0 from rfl]at ea
   try simp only[fM,ma]at eb KW
   go_wp2_with fail;go_call KW.o as e w12 ⟨rfl,o12⟩;have O12:=xh<|Iw.o.trans (o12.aK Iw.o.size Yg.o);clear o12;go_wp2;go_ret2;refine⟨?_,O12.o⟩
   first|rfl|(rw[WO.o];rfl)
theorem Py(s r:rd)(i:Int)(w:YB)(hs:s.size<=1000000)(hr:r.size<=9223372036854775807):
  eq prog 164 #[U2 s,i,U2 r] w λe w'=>e=BY (U8 #[U2 ⟨(wB s.data.toList i r.data.toList).1.toArray⟩,U5 By (wB s.data.toList i r.data.toList).2])/\i7 w w':=by
 have TD:r.data.toList.length=r.size:=by simp
 have KC:=xh (λw'=>tw s w' hs)
 by_cases h:cC s.data.toList=0
 .have hS:=(fP _).1 h;have JI:s.size=232:=by have:=hS.len;simpa using this
  have h4:=hS.head;have h5:=hS.heap
  by_cases hi:0<=i/\i<=(cd s.data.toList 0:Int)
  .by_cases hg:(r.size:Int)<=jf s.data.toList-4
   .have e1:wB s.data.toList i r.data.toList=(uR s.data.toList i.toNat r.data.toList,0):=by unfold wB;rw[if_pos h,if_pos hi,TD,if_pos hg]
    rw[e1];obtain⟨k,rfl⟩:=dZ hi.1;rw[iJ];exact Uf s r k w hS hg (by omega)
   .have e1:wB s.data.toList i r.data.toList=([],11):=by unfold wB;rw[if_pos h,if_pos hi,TD,if_neg hg]
    rw[e1];have Xs:wv s.data.toList=jf s.data.toList:=by unfold wv;rw[if_pos h]
    have MQ: -1000000<=jf s.data.toList:=by
     rw[Cx hS];have:=hS.sum;omega
    have Ug:jf s.data.toList<=228:=by unfold jf;omega
    have KL:=xh (λw'=>kW s w' (by omega) hs);have KR:=xh (λw'=>Kr s w' hs);rw[Xs]at KR;rw[h]at KC;have Rm:jf s.data.toList-4<(r.size:Int):=by omega
    clear e1 h hS Xs hg;generalize jf s.data.toList=room at *;generalize cd s.data.toList 0=n at *;obtain⟨hi1,VG⟩:=hi;go_in;go_wp2_with fail;go_call (KC.o _) as e w1 ⟨rfl,aO⟩;have O1:=xh aO;clear aO;go_wp2_with fail;go_call (KL.o _) as e w2 ⟨v,rfl,S2,cf,-⟩;have O2:=xh<|aC O1.o cf;obtain⟨A2,c2,rfl⟩:=ax S2;clear S2 cf;go_wp2_with fail;go_call (KR.o _) as e w3 ⟨rfl,dk⟩
    have O3:=xh<|aC O2.o dk;clear dk;go_wp2;go_ret2;exact⟨rfl,O3.o⟩
  .have e1:wB s.data.toList i r.data.toList=([],3):=by unfold wB;rw[if_pos h,if_neg hi]
   rw[e1];have KL:=xh (λw'=>kW s w' (by omega) hs);rw[h]at KC;generalize cd s.data.toList 0=n at *;have hx:i<0\/(¬i<0/\(n:Int)<i):=by omega
   clear e1 h hi hS
   rcases hx with h1|⟨h1,h2⟩
   all_goals
    go_in;go_wp2_with fail;go_call (KC.o _) as e w1 ⟨rfl,aO⟩;have O1:=xh aO;clear aO;go_wp2_with fail;go_call (KL.o _) as e w2 ⟨v,rfl,S2,cf,-⟩;have O2:=xh<|aC O1.o cf;obtain⟨A2,c2,rfl⟩:=ax S2;clear S2 cf;go_wp2;go_ret2;exact⟨rfl,O2.o⟩
 .have e1:wB s.data.toList i r.data.toList=([],cC s.data.toList):=by unfold wB;rw[if_neg h]
  have hb:(cC s.data.toList==0)=false:=by simpa using h
  rw[e1];clear e1 h;generalize cC s.data.toList=q at *;go_in;go_wp2_with fail;go_call (KC.o _) as e w1 ⟨rfl,aO⟩;have O1:=xh aO;clear aO;go_wp2;go_ret2;exact⟨rfl,O1.o⟩
end Sl
namespace Sl
open Go.RowKit
attribute [local go_sem ↓] bA
theorem rS{w:YB}{A:Option Addr}{n c:Nat}{l:List (pu)}(S:aM w 9 1 (U3 A n c) n (strs l))(k:Nat)(hk:k<l.length):∃g,A=some ⟨g,0,none⟩/\w.cell? ⟨g,k,none⟩=some (U2 ⟨l[k].toArray⟩):=by
 have hl:=S.1;rw[yY]at hl;obtain⟨g,cap,rest,hv,B,_,_⟩:=S.form (by omega) (by omega);simp only[Value.slice.injEq,true_and]at hv;obtain⟨rfl,rfl⟩:=hv;exact⟨g,rfl,B.ab (by rw[cN,bE (by rw[yY];exact hk)];simp[strs,aH hk])⟩
theorem size_of_list(l:pu):(⟨l.toArray⟩:rd).size=l.length:=by
 show l.toArray.size=l.length;simp
section
variable{w:YB}{A:Option Addr}{n c i:Nat}{l:List (pu)}{A3:Option Addr}{cc:Nat}
end
section
variable{W:YB}{A:Option Addr}{n c i:Nat}{l:List (pu)}{A3:Option Addr}{cc:Nat}{r:rd}
end
end Sl
namespace Sl
open Go.RowKit
attribute [local go_sem ↓] bA
variable{b:pu}
theorem Rn(T:rd):(⟨T.data.toList.toArray⟩:rd)=T:=by simp
theorem Yl(b:pu):∃T:rd,T.data.toList=b:=⟨⟨b.toArray⟩,by simp⟩
theorem qG(h:Sound b):∀r∈dn b,r.length<=232:=by
 intro r hr;simp only[dn,cr]at hr;obtain⟨x,hx,rfl⟩:=hr;have:=(h.fit.qW x hx).2;rw[yX (by rw[h.len];omega)];omega
theorem tA(h:Sound b):(dn b).length<=57:=by
 rw[dV];have:=h.head;have:=h.heap;omega
theorem Ro(h:Sound b)(i:Nat)(r:pu)(hr:(r.length:Int)<=jZ (dn b)-4)(hi:i<=(dn b).length):
  wB b i r=(uR b i r,0)/\Sound (uR b i r)/\dn (uR b i r)=(dn b).take i++r::(dn b).drop i:=by
 rw[dV]at hi;rw[<-Ri h]at hr;refine⟨?_,h.insert i r hr hi⟩;unfold wB;rw[if_pos ((fP b).2 h),if_pos ⟨by omega,by omega⟩,if_pos hr,iJ]
open Go.RowKit Go.Deep Go.ChangeShapes Go.WideShapes
theorem Pz{b:pu}(h:Sound b)(i:Nat)(r:pu)(hr:jZ (dn b)-4<(r.length:Int))(hi:i<=(dn b).length):wB b i r=([],11):=by
 rw[dV]at hi;rw[<-Ri h]at hr;unfold wB;rw[if_pos ((fP b).2 h),if_pos ⟨by omega,by omega⟩,gc]
end Sl
namespace Sl
open Go.RowKit Go.Deep Go.ChangeShapes Go.WideShapes
structure Ac where
 kind:Int
 i:Int
 r:rd
instance:Inhabited Ac:=⟨⟨0,0,.empty⟩⟩
open Go.RowKit
attribute [local go_sem ↓] bA
theorem CD(l:List (pu))(k:Nat)(h:k<l.length):jZ (l.take (k+1))=jZ (l.take k)-4-(l[k].length:Int):=by
 unfold jZ;rw[ik h,cX,zW];simp;omega
theorem CE(l:List (pu))(k:Nat):jZ l<=jZ (l.take k):=by
 unfold jZ;have:((l.take k).map λr=>4+r.length).sum<=(l.map λr=>4+r.length).sum:=by
  rw[l6];exact y7 _ k
 omega
def KK(l:List (pu)):Nat->pu
 |0=>mO
 |k+1=>uR (KK l k) k (l.getD k [])
def ofL(l:List (pu)):pu:=KK l l.length
def Ym(l:List (pu))(w:YB)(e:Ending)(w':YB):Prop:=
 ((0<=jZ l/\∃b:rd,e=BY (U8 #[U2 b,U5 By 0])/\Sound b.data.toList/\dn b.data.toList=l/\b.data.toList=ofL l)\/(jZ l<0/\e=BY (U8 #[U2 ⟨#[]⟩,U5 By 11])))/\i7 w w'
theorem mQ{w:YB}{v:YO}{l:List (pu)}(S:aM w 9 1 v l.length (strs l))(hl:l.length<=1000000)(hm:∀r∈l,r.length<=1000000):
  eq prog 119 #[v] w (Ym l w):=by
 obtain⟨A,c,rfl⟩:=ax S;have SS:=xh S;obtain⟨s0,r0,-,-⟩:=rP;obtain⟨T0,h0⟩:=Yl mO;have KE:=xh<|pw w;rw[<-h0,Rn]at KE;rw[<-h0]at s0 r0;have HS:=g9 (Sound T0.data.toList/\dn T0.data.toList=l.take 0/\T0.data.toList=KK l 0) ⟨s0,r0,h0⟩;have HM:=g9 (∀k (h:k<l.length),l[k].length<=1000000) (λk h=>hm _ (jS h));have HR:=xh (λk h=>CD l k h);have HMO:=xh (λk=>CE l k)
 have HAL:=g9 (l.take l.length=l) fX;have HZ:=g9 (0<=jZ (l.take 0)) (by rw[jA];decide);clear S s0 r0 h0 hm;go_in;go_wp2_with fail;go_call KE.o as e w1 ⟨rfl,aO⟩;have S1:=xh<|SS.o.below aO;have O1:=xh aO;clear aO SS;go_wp2_with fail
 go_loopw [4,12] (λbv iv wr=> ∃(k:Nat) (b:rd),k<=l.length/\bv=U2 b/\iv=U5 By k/\Hid (Sound b.data.toList/\dn b.data.toList=l.take k/\b.data.toList=KK l k)/\Hid (0<=jZ (l.take k))/\aM wr 9 1 (U3 A l.length c) l.length (strs l)/\i7 w wr) (λ_ iv _=>l.length-(intOf iv).toNat)
 case atStart=>exact⟨0,T0,aW _,rfl,rfl,HS,HZ,S1.o,O1.o⟩
 case round=>
  obtain⟨k,b,hk,rfl,rfl,HB,HP,S,O⟩:=hrel;have OO:=xh O;have SS:=xh S;clear S O
  by_cases h:k<l.length
  .obtain⟨g,rfl,ck⟩:=rS SS.o k h;have hrk:=HM.o k h;have HRk:=xh<|HR.o k h;have HMk:=xh<|HMO.o (k+1);obtain⟨R,hR⟩:=Yl l[k];have HST:=g9 (l.take (k+1)=l.take k++[R.data.toList]) (by rw[ik h,hR]);rw[<-hR]at ck hrk HRk;rw[Rn]at ck;have hRl:R.data.toList.length=R.size:=by simp
   rw[hRl]at hrk HRk;have hs:=HB.o.1;have oq:b.size=232:=by have:=hs.len;simpa using this
   have KI:=xh (λw'=>Py b R k w' (by omega) (by omega));have hlen:(dn b.data.toList).length=k:=by rw[HB.o.2.1,bC];omega
   have hki:(k:Int)<(l.length:Int):=by omega
   by_cases hf:0<=jZ (l.take (k+1))
   .obtain⟨i1,s1,r1⟩:=Ro hs k R.data.toList (by rw[HB.o.2.1,hRl];have:=HRk.o;omega) (by omega);obtain⟨T,hT⟩:=Yl (uR b.data.toList k R.data.toList);rw[<-hT]at i1 s1 r1;rw[i1,Rn]at KI;have PD:=xh (show Sound T.data.toList/\dn T.data.toList=l.take (k+1)/\T.data.toList=KK l (k+1)from⟨s1,by
     rw[r1,HST.o,HB.o.2.1];rw[cm (by rw[bC];omega),lJ (by rw[bC];omega)],by
     rw[hT,hR,HB.o.2.2];show uR _ k l[k]=uR _ k (l.getD k []);rw[iq,aH h];rfl⟩)
    have HF:=xh hf;clear i1 s1 r1 hT hs oq hlen hf hR hRl;go_wp2_with fail;go_call (KI.o _) as e w2 ⟨rfl,cf⟩;have S2:=xh<|SS.o.below cf;have O2:=xh<|aC OO.o cf;clear cf;go_wp2_with fail;go_roundw
    case rel=>exact⟨k+1,T,by omega,rfl,by go_num,PD,HF,S2.o,O2.o⟩
    case measure=>simp[intOf];omega
   .have i1:=Pz hs k R.data.toList (by rw[HB.o.2.1,hRl];have:=HRk.o;omega) (by omega);rw[i1]at KI;have HF:=g9 (jZ l<0) (by have:=HMk.o;omega);clear i1 hs oq hlen hf hR hRl;go_wp2_with fail;go_call (KI.o _) as e w2 ⟨rfl,cf⟩;have O2:=xh<|aC OO.o cf;clear cf;go_wp2;go_ret2;exact⟨.inr ⟨HF.o,rfl⟩,O2.o⟩
  .have En:=g9 (k=l.length) (by omega);go_wp2;go_ret2;refine⟨.inl ⟨?_,b,rfl,HB.o.1,?_,by rw[HB.o.2.2,En.o];rfl⟩,OO.o⟩
   .have:=HP.o;rw[En.o,HAL.o]at this;exact this
   .rw[HB.o.2.1,En.o,HAL.o]
end Sl
namespace Nd
open Go.RowKit Sl
variable{s:rd}
structure E where
 key:rd
 val:rd
 aY:Int
def E.agg(e:E):YO:= .agg #[U2 e.key,U2 e.val,U5 By e.aY]
def E.cells(e:E):List YO:=[U2 e.key,U2 e.val,U5 By e.aY]
def dO(e:E)(leaf:Bool):Prop:=e.key.size<=32/\e.val.size<=40/\(if leaf=true then -1 else 0)<=e.aY/\e.aY<512/\(e.aY<0\/e.val.size=0)
instance(e:E)(leaf:Bool):Decidable (dO e leaf):=by unfold dO;exact inferInstance
theorem FC(h:s.size=0):s= .empty:=by
 apply jQ;exact VS h
theorem ye(h:s.size≠0):s.toList.isEmpty=false:=by
 cases e:s.toList with
 |nil=>
  refine absurd ?_ h;rw[bQ]at e;show s.data.size=0;rw[<-VV,e];rfl
 |cons a l=>rfl
theorem xI(w:YB)(e:E)(leaf:Bool):
  eq prog 162 #[e.agg,U6 leaf] w λr w'=>r=BY (U6 (decide (dO e leaf)))/\i7 w w':=by
 have O0:=xh<|(i5 w).alloc (ai _) (WF #[U2 e.key,U2 e.val,e.aY] 111);have B0:=aF.new w 111 #[U2 e.key,U2 e.val,e.aY];have c0:=B0.bi 0;have c1:=B0.bi 1;have c2:=B0.bi 2;clear B0;obtain⟨b,hb⟩:∃b,b=decide (dO e leaf):=⟨_,rfl⟩;rw[<-hb]
 replace hb:=xh hb
 unfold E.agg;obtain⟨key,val,aY⟩:=e;dsimp only at *
 by_cases hv:val.size=0
 .have re:=xh hv;obtain rfl:=FC hv
  cases leaf
  all_goals
   go_in;go_wp2_with fail
  all_goals
   go_ret;refine⟨?_,O0.o⟩;have h:=hb.o;have Jl:=re.o
   first
    |(rw[decide_eq_true (by unfold dO;dsimp only;simp only[mJ,if_false,if_true];omega)]at h;subst h;rfl)
    |(rw[decide_eq_false (by unfold dO;dsimp only;simp only[mJ,if_false,if_true];omega)]at h;subst h;rfl)
 .have re:=ye hv;have Jl:=xh hv;clear hv
  by_cases hf:aY<0
  all_goals
   cases leaf
  all_goals
   go_in;go_wp2_with fail
  all_goals
   go_ret;refine⟨?_,O0.o⟩;have h:=hb.o;have hv4:=Jl.o
   first
    |(rw[decide_eq_true (by unfold dO;dsimp only;simp only[mJ,if_false,if_true];omega)]at h;subst h;rfl)
    |(rw[decide_eq_false (by unfold dO;dsimp only;simp only[mJ,if_false,if_true];omega)]at h;subst h;rfl)
variable{w w':YB}{A:Option Addr}{n:Nat}{l:List E}
theorem ae{W w1:YB}(h:i7 W w1)(o:Obj):i7 W (w1.alloc o):=h.alloc h.size o
structure FD(w:YB)(ad:Addr)(e:E):Prop where
 c0:w.cell? ad=some (U2 e.key)
 c1:w.cell? ⟨ad.block,ad.off+1,none⟩=some (U2 e.val)
 c2:w.cell? ⟨ad.block,ad.off+2,none⟩=some (U5 By e.aY)
def qY(w:YB)(A:Option Addr)(n:Nat)(l:List E):Prop:=l.length=n/\∀k e,l[k]?=some e->∃ad,A=some ad/\FD w (ad.add (k*3)) e
theorem FD.below{ad:Addr}{e:E}(h:FD w ad e)(hb:i7 w w'):FD w' ad e:=by
 have ef:=cZ h.c0;exact⟨(hb.cell ef).trans h.c0,(hb.cell (p:=⟨ad.block,ad.off+1,none⟩) ef).trans h.c1,(hb.cell (p:=⟨ad.block,ad.off+2,none⟩) ef).trans h.c2⟩
theorem qY.below(h:qY w A n l)(hb:i7 w w'):qY w' A n l:=by
 refine⟨h.1,λk e he=>?_⟩;obtain⟨ad,e1,h1⟩:=h.2 k e he;exact⟨ad,e1,h1.below hb⟩
theorem qY.at(h:qY w A n l)(k:Nat)(hk:k<n):∃ad e,A=some ad/\l[k]?=some e/\FD w (ad.add (k*3)) e:=by
 have hl:=h.1;obtain⟨ad,e1,h1⟩:=h.2 k l[k] (aH (by omega));exact⟨ad,l[k],e1,aH (by omega),h1⟩
def leB(a b:rd):Bool:=Op.bytesLess a.toList b.toList || a.toList==b.toList
def okAt(l:List E)(leaf:Bool)(i:Nat):Prop:= ∀e,l[i]?=some e->dO e leaf/\(0<i->∀p,l[i-1]?=some p->leB e.key p.key=false)
def et(l:List E)(leaf:Bool):Prop:= ∀i,i<l.length->okAt l leaf i
def bH(leaf:Bool)(A:Option Addr)(n c:Nat):YO:= .agg #[U6 leaf,U3 A n c]
theorem Aq(leaf:Bool)(A:Option Addr)(n c:Nat)(l:List E)(h:qY w A n l)(hn:n<=9223372036854775807):
  eq prog 117 #[bH leaf A n c] w λr w'=>(∃b,r=BY (U6 b)/\(b=true↔et l leaf))/\i7 w w':=by
 have O0:=(i5 w).alloc (ai _) (WF #[U6 leaf,U3 A n c] 118);have B0:=xh<|aF.new w 118 #[U6 leaf,U3 A n c];have hl:=xh h.1;have H0:=xh<|h.below O0;have O0:=xh O0;clear h;have c1:=B0.ap 1;unfold bH;go_in;go_wp2_with fail;generalize (w.alloc (WF #[U6 leaf,U3 A n c] 118))=W at *;clear c1
 go_loopw [8] (λiv wr=> ∃i:Nat,i<=n/\iv=U5 By i/\(∀j,j<i->okAt l leaf j)/\i7 W wr) (λiv _=>n-(intOf iv).toNat)
 case atStart=>exact⟨0,by omega,rfl,λj hj=>absurd hj (mc j),Below.refl _ _⟩
 case round=>
  obtain⟨i,hi,rfl,gj,hb⟩:=hrel
  by_cases h:i<n
  .obtain⟨ad,e,rfl,he,AT⟩:=(H0.o.below hb).at i h;have HB:=xh hb;have Em:=xh gj;have b0:=(B0.o.below hb B0.o.lt).ab (i:=0) rfl;have b1:=(B0.o.below hb B0.o.lt).ab (i:=1) rfl;have a0:=AT.c0;have a1:=AT.c1;have a2:=AT.c2;clear hb gj;have iF:=i6 wr (WF #[U2 e.key,U2 e.val,e.aY] 111);have BE:=xh<|aF.new wr 111 #[U2 e.key,U2 e.val,e.aY];have PD:=xh<|aC HB.o iF
   have HE:=xh<|(H0.o.below HB.o).below iF;have HN:=xh<|(B0.o.below HB.o B0.o.lt).below iF (B0.o.below HB.o B0.o.lt).lt;clear iF AT;have hnn:(i:Int)<(n:Int):=by omega
   go_wp2_with fail;generalize hwA:(wr.alloc (WF #[U2 e.key,U2 e.val,e.aY] 111))=wA at *;clear hwA a0 a1 a2 b0 b1;have x0:=BE.ap 0;have x1:=BE.ap 1;have x2:=BE.ap 2;have y0:=HN.ap 0;have y1:=HN.ap 1;have hyx:wr.heap.size<wA.heap.size:=BE.o.lt
   have HK:=g9 (∀W',i7 wA W'->(i7 wA W'/\W'.cell? (lc wr.heap.size)=some (U2 e.key)/\W'.cell? ⟨wr.heap.size,1,none⟩=some (U2 e.val)/\W'.cell? ⟨wr.heap.size,2,none⟩=some (e.aY:li)/\W'.cell? (lc w.heap.size)=some (U6 leaf)/\W'.cell? ⟨w.heap.size,1,none⟩=some (U3 (some ad) n c))) (λW' hb=>⟨hb,(Below.cell hb BE.o.lt).trans x0,(Below.cell hb BE.o.lt).trans x1,(Below.cell hb BE.o.lt).trans x2,(Below.cell hb HN.o.lt).trans y0,(Below.cell hb HN.o.lt).trans y1⟩)
   have d0:i7 wA wA.drew:=(Below.refl _ _).drew;have HF:=xh<|io Em.o (io he (io hl.o O0.o));have KR:=xh (λw'=>xI w' e leaf)
   rcases Bool.eq_false_or_eq_true (decide (dO e leaf))with hr|hr
   .rw[hr]at KR
    by_cases Jj:i=0
    .subst Jj;refine kw (λw'=>i7 wA w'/\w'.cell? (lc wr.heap.size)=some (U2 e.key)/\w'.cell? ⟨wr.heap.size,1,none⟩=some (U2 e.val)/\w'.cell? ⟨wr.heap.size,2,none⟩=some (e.aY:li)/\w'.cell? (lc w.heap.size)=some (U6 leaf)/\w'.cell? ⟨w.heap.size,1,none⟩=some (U3 (some ad) n c)) (HK.o _ d0) (λau=>?_);refine dP [(0,13),(1,14),(2,15)] ?_
     iterate 3 refine bJ ?_
     refine dI 3 16 λK hK=>?_;go_simp
     go_at_call 162
     go_call (KR.o _) as r w1 ⟨rfl,aO⟩;have cf:=aC (show i7 wA _ from au.1) aO;go_simp;refine bn hK (HK.o _ cf) (λau=>?_);refine dP [(4,17),(5,18),(6,19),(7,20),(8,21)] ?_
     iterate 5 refine bJ ?_
     refine cL 9 22 ?_;refine cL 10 23 ?_;refine cL 11 24 ?_;refine cL 12 25 ?_;refine cL 13 26 ?_;refine cL 14 27 ?_;refine cL 15 28 ?_;refine cL 16 29 ?_;refine cL 17 30 ?_;refine cL 18 31 ?_;refine dP [(19,32),(20,33)] ?_
     iterate 2 refine bJ ?_
     refine jp ?_ _;go_wp2_with fail;obtain⟨f1,f2,f3,f4⟩:=HF.o;refine⟨⟨0+1,by omega,rfl,?_,aC PD.o au.1⟩,by simp[intOf];omega⟩;intro j hj e' nj;obtain rfl:j=0:=by omega
     rw[f2]at nj;injection nj with nj
     subst nj;exact⟨of_decide_eq_true hr,λh0=>absurd h0 (sL _)⟩
    .obtain⟨ad',p,e',hp,AP⟩:=HE.o.at (i-1) (by omega);injection e' with e'
     subst e';have q0:=AP.c0;have HK:=xh (show ∀W',i7 wA W'->(i7 wA W'/\W'.cell? (lc wr.heap.size)=some (U2 e.key)/\W'.cell? ⟨wr.heap.size,1,none⟩=some (U2 e.val)/\W'.cell? ⟨wr.heap.size,2,none⟩=some (e.aY:li)/\W'.cell? (lc w.heap.size)=some (U6 leaf)/\W'.cell? ⟨w.heap.size,1,none⟩=some (U3 (some ad) n c)/\W'.cell? (ad.add ((i-1)*3))=some (U2 p.key))from λW' hb=>by
      obtain⟨h1,h2,h3,h4,h5,h6⟩:=HK.o W' hb;exact⟨h1,h2,h3,h4,h5,h6,(hb.cell (cZ q0)).trans q0⟩)
     have e1:IntKind.i64.wrap ((i:Int)-1)=(i:Int)-1:=dl;have e2:(0:Int)<=(i:Int)-1:=by omega
     have e3:(i:Int)-1<(n:Int):=by omega
     have e4:((i:Int)-1).toNat=i-1:=by omega
     have e5:(0:Int)<(i:Int):=by omega
     have e6:(1:Int)<=(i:Int):=by omega
     refine kw (λw'=>i7 wA w'/\w'.cell? (lc wr.heap.size)=some (U2 e.key)/\w'.cell? ⟨wr.heap.size,1,none⟩=some (U2 e.val)/\w'.cell? ⟨wr.heap.size,2,none⟩=some (e.aY:li)/\w'.cell? (lc w.heap.size)=some (U6 leaf)/\w'.cell? ⟨w.heap.size,1,none⟩=some (U3 (some ad) n c)/\w'.cell? (ad.add ((i-1)*3))=some (U2 p.key)) (HK.o _ d0) (λau=>?_);refine dP [(0,13),(1,14),(2,15)] ?_
     iterate 3 refine bJ ?_
     refine dI 3 16 λK hK=>?_;go_simp
     go_at_call 162
     go_call (KR.o _) as r w1 ⟨rfl,aO⟩;have cf:=aC (show i7 wA _ from au.1) aO;go_simp;refine bn hK (HK.o _ cf) (λau=>?_);refine dP [(4,17),(5,18),(6,19)] ?_
     iterate 3 refine bJ ?_
     refine rn 7 20 (U6 true) ?_ ?_
     ·(intro w tX;(try dsimp only at tX);go_simp;(try omega))
     refine dP [(8,21),(9,22),(10,23),(11,24),(12,25),(13,26),(14,27),(15,28),(16,29),(17,30),(18,31),(19,32),(20,33)] ?_
     iterate 13 refine bJ ?_
     refine jp ?_ _;go_wp2_with fail
     .rename_i hx;obtain⟨f1,f2,f3,f4⟩:=HF.o;go_ret;refine⟨⟨false,rfl,?_⟩,aC (aC f4 PD.o) au.1⟩;simp only[mJ,false_iff];intro hm;have h1:=(hm i (by omega) e f2).2 (by omega) p hp;unfold leB at h1
      rcases hx with hx|hx
      .rw[hx]at h1;simp at h1
      .rw[hx]at h1;simp at h1
     .rename_i hx;obtain⟨f1,f2,f3,f4⟩:=HF.o;refine⟨⟨i+1,by omega,rfl,?_,aC PD.o au.1⟩,by simp[intOf];omega⟩;intro j hj
      rcases qg.1 hj with h1|rfl
      .exact f1 j h1
      .intro e' nj;rw[f2]at nj;injection nj with nj
       subst nj;refine⟨of_decide_eq_true hr,λ_ p' hp'=>?_⟩;rw[hp]at hp';injection hp' with hp'
       subst hp';unfold leB;rw[hx.1,hx.2];rfl
   .rw[hr]at KR;refine kw (λw'=>i7 wA w'/\w'.cell? (lc wr.heap.size)=some (U2 e.key)/\w'.cell? ⟨wr.heap.size,1,none⟩=some (U2 e.val)/\w'.cell? ⟨wr.heap.size,2,none⟩=some (e.aY:li)/\w'.cell? (lc w.heap.size)=some (U6 leaf)/\w'.cell? ⟨w.heap.size,1,none⟩=some (U3 (some ad) n c)) (HK.o _ d0) (λau=>?_);refine dP [(0,13),(1,14),(2,15)] ?_
    iterate 3 refine bJ ?_
    refine dI 3 16 λK hK=>?_;go_simp
    go_at_call 162
    go_call (KR.o _) as r w1 ⟨rfl,aO⟩;have cf:=aC (show i7 wA _ from au.1) aO;go_simp;refine bn hK (HK.o _ cf) (λau=>?_);refine dP [(4,17),(5,18)] ?_
    iterate 2 refine bJ ?_
    refine cL 6 19 ?_;refine cL 7 20 ?_;refine cL 8 21 ?_;refine cL 9 22 ?_;refine cL 10 23 ?_;refine cL 11 24 ?_;refine cL 12 25 ?_;refine cL 13 26 ?_;refine cL 14 27 ?_;refine cL 15 28 ?_;refine cL 16 29 ?_;refine cL 17 30 ?_;refine cL 18 31 ?_;refine cL 19 32 ?_;refine dP [(20,33)] ?_
    iterate 1 refine bJ ?_
    refine jp ?_ _;go_wp2_with fail;obtain⟨f1,f2,f3,f4⟩:=HF.o;go_ret;refine⟨⟨false,rfl,?_⟩,aC (aC f4 PD.o) au.1⟩;simp only[mJ,false_iff];intro hm;exact of_decide_eq_false hr (hm i (by omega) e f2).1
  .go_wp2;go_ret;refine⟨⟨true,rfl,?_⟩,aC O0.o hb⟩;simp only[true_iff];intro k hk;have:=hl.o;exact gj k (by omega)
def nY(s:rd):Nat:=(s.data.toList.getD 0 0).toNat
def k8(s:rd):Prop:=3+nY s<=s.size
def lR(s:rd):E:=⟨s.extract 1 (1+nY s),s.extract (3+nY s) s.size,(cd s.data.toList (1+nY s):Int)-1⟩
def E.zero:E:=⟨.empty,.empty,0⟩
theorem pE{fn:Func}{p u:Tmp}{w:YB}{g:Nat}{a b:rd}{c:Int}{tmps:Array YO}(h:fn.results= #[.cell p 111,.tmp u])(hp:tmps.getD p undef=U7 (some ⟨g,0,none⟩))(B:aF w g 111 #[U2 a,U2 b,c]):
  (results fn tmps).run prog w=.ok (U8 #[.agg #[U2 a,U2 b,c],tmps.getD u undef]) w:=by
 have c0:=B.bi 0;have c1:=B.bi 1;have c2:=B.bi 2;rw[results_cell_tmp h,hp];clear h hp B;go_simp
theorem Yn(w:YB)(s:rd)(h:¬k8 s):
  eq prog 170 #[U2 s] w λr w'=>r=BY (U8 #[E.zero.agg,U6 false])/\i7 w w':=by
 have O0:=xh<|(i5 w).alloc (ai _) (WF #[U2 .empty,U2 .empty,U5 By 0] 111);have B0:=xh<|aF.new w 111 #[U2 .empty,U2 .empty,U5 By 0];unfold E.agg E.zero
 by_cases hs:s.size=0
 .obtain rfl:=FC hs;go_in;go_wp2_with fail;exact bodyPost_ret (pE rfl rfl B0.o) rfl ⟨rfl,O0.o⟩
 .have hs2:=ye hs;have h0:0<s.size:=by omega
  have h1:(0:Int)<(s.size:Int):=by omega
  have hk:nY s=s[0].toNat:=by unfold nY;rw[eo _ _ h0]
  unfold k8 at h;rw[hk]at h;have b0:=s[0].toNat_lt;have h2:(s.size:Int)<3+(s[0].toNat:Int):=by omega
  have e4:IntKind.i64.wrap (s[0].toNat:Int)=(s[0].toNat:Int):=dl;have e5:IntKind.i64.wrap (3+(s[0].toNat:Int))=3+(s[0].toNat:Int):=dl;go_in;go_wp2_with fail;exact bodyPost_ret (pE rfl rfl B0.o) rfl ⟨rfl,O0.o⟩
theorem Uh(w:YB)(s:rd)(h:k8 s)(hs:s.size<=1000000):
  eq prog 170 #[U2 s] w λr w'=>r=BY (U8 #[(lR s).agg,U6 true])/\i7 w w':=by
 have O0:=xh<|(i5 w).alloc (ai _) (WF #[U2 .empty,U2 .empty,U5 By 0] 111);have B0:=xh<|aF.new w 111 #[U2 .empty,U2 .empty,U5 By 0];unfold k8 at h;have hs2:=ye (s:=s) (by omega);have h0:0<s.size:=by omega
 have h1:(0:Int)<(s.size:Int):=by omega
 have hk:nY s=s[0].toNat:=by unfold nY;rw[eo _ _ h0]
 rw[hk]at h;have hE:=xh (show(lR s).agg=.agg #[U2 (s.extract 1 (1+s[0].toNat)),U2 (s.extract (3+s[0].toNat) s.size),U5 By ((cd s.data.toList (1+s[0].toNat):Int)-1)]from by unfold E.agg lR;rw[hk]);have b0:=s[0].toNat_lt;have h2:¬(s.size:Int)<3+(s[0].toNat:Int):=by omega
 have e4:IntKind.i64.wrap (s[0].toNat:Int)=(s[0].toNat:Int):=dl;have e5:IntKind.i64.wrap (3+(s[0].toNat:Int))=3+(s[0].toNat:Int):=dl;have e6:IntKind.i64.wrap (1+(s[0].toNat:Int))=1+(s[0].toNat:Int):=dl;go_in;go_wp2_with fail;obtain⟨k,hkk⟩:∃k,1+s[0].toNat=k:=⟨_,rfl⟩;have Q4:(1:Int)+((s[0].toNat:Nat):Int)=((k:Nat):Int):=by omega
 rw[Q4];have hk1:k<s.size:=by omega
 have hk2:k+1<s.size:=by omega
 have b1:=s[k].toNat_lt;have b2:=s[k+1].toNat_lt;have HV:=xh (show bits .or By ((s[k].toNat:Int)*256) (s[k+1].toNat:Int)=((cd s.data.toList k:Nat):Int)from by
  rw[or8 _ _ (by omega) (by omega)];unfold cd;rw[eo _ _ hk1,eo _ _ hk2])
 have e1:IntKind.i64.wrap ((k:Int)+1)=(k:Int)+1:=dl;have e2:(0:Int)<=(k:Int)+1:=by omega
 have e3:((k:Int)+1).toNat=k+1:=by omega
 have e7:(k:Int)+1<(s.size:Int):=by omega
 have e8:(k:Int)<(s.size:Int):=by omega
 have v1:IntKind.i64.wrap (s[k].toNat:Int)=(s[k].toNat:Int):=dl;have v2:IntKind.i64.wrap ((s[k].toNat:Int)*256)=(s[k].toNat:Int)*256:=dl;have v3:IntKind.i64.wrap (s[k+1].toNat:Int)=(s[k+1].toNat:Int):=dl;have z1:IntKind.i64.wrap ((k:Int)+2)=(k:Int)+2:=dl;have z2:(0:Int)<=(k:Int)+2:=by omega
 have z3:((k:Int)+2).toNat=k+2:=by omega
 have z4:(k:Int)+2<=(s.size:Int):=by omega
 have z5:(k:Int)<=(s.size:Int):=by omega
 have z6:(1:Int)<=(k:Int):=by omega
 go_quiet (fail);rw[HV.o];have u0:=List.getD s.data.toList k 0|>.toNat_lt;have u1:=List.getD s.data.toList (k+1) 0|>.toNat_lt;have z7:IntKind.i64.wrap ((cd s.data.toList k:Int)-1)=(cd s.data.toList k:Int)-1:=IntWalk.i64_in _ (by unfold cd;omega);go_wp2_with fail;refine kw (λ_=>True) trivial (λau=>?_);refine dP [(0,33),(1,34),(2,35),(3,36),(4,37),(5,38),(6,39),(7,40),(8,41),(9,42)] ?_
 iterate 10 refine bJ ?_
 refine rm 10 λK hK=>?_;go_simp;refine hK.o _ _ trivial (λau=>?_)
 try simp only[Act.put,pa,pb,pc]
 refine dP [(11,3)] ?_
 iterate 1 refine bJ ?_
 refine jp ?_ _;go_wp2_with fail;have BB:=((((B0.o.drewN (nq+1)).cw 0 (U2 (s.extract 1 k))).cw 1 (U2 (s.extract (k+2) s.size))).cw 2 (U5 By ((cd s.data.toList k:Int)-1)));refine bodyPost_ret (pE rfl rfl BB) rfl ⟨?_,?_⟩
 .have hE2:(lR s).agg=.agg #[U2 (s.extract 1 k),U2 (s.extract (k+2) s.size),U5 By ((cd s.data.toList k:Int)-1)]:=by
   rw[hE.o,<-hkk,show 3+s[0].toNat=1+s[0].toNat+2 by omega]
  rw[hE2];rfl
 .have hn:w.heap.size<w.heap.size->w.heap.size∈([]:List Nat):=λh=>absurd h (sL _);exact((((ag.aj (S:=[]) (de O0.o (nq+1))).setCell (p:=⟨w.heap.size,0,none⟩) hn _).setCell (p:=⟨w.heap.size,1,none⟩) hn _).setCell (p:=⟨w.heap.size,2,none⟩) hn _).iw
end Nd
namespace Nd
open Go.RowKit Sl
def an(l:List E):Nat:=(l.map λe=>e.key.size+e.val.size+7).sum
theorem mC(l:List E)(i:Nat)(e:E)(h:l[i]?=some e):an (l.take (i+1))=an (l.take i)+(e.key.size+e.val.size+7):=by
 unfold an;rw[kQ,h];simp
theorem rU(l:List E)(i:Nat):an (l.take i)<=an l:=by
 have:an l=an (l.take i)+an (l.drop i):=by
  unfold an;rw[<-zW,<-cX,m7]
 omega
theorem FE{w:YB}(A:Option Addr)(n c:Nat)(l:List E)(h:qY w A n l)(hn:n<=9223372036854775807)(hb:an l<=1000000):
  eq prog 177 #[U3 A n c] w λr w'=>r=BY (an l:Nat)/\i7 w w':=by
 have H0:=xh h;have hl:=xh h.1;have hB:=xh hb;clear h hb;go_in;go_wp2_with fail
 go_loopw [3,8] (λsv iv wr=> ∃i:Nat,i<=n/\iv=U5 By i/\sv=U5 By (an (l.take i):Nat)/\i7 w wr) (λ_ iv _=>n-(intOf iv).toNat)
 case atStart=>exact⟨0,by omega,rfl,by simp[an],Below.refl _ _⟩
 case round=>
  obtain⟨i,hi,rfl,rfl,hbw⟩:=hrel
  by_cases h:i<n
  .obtain⟨ad,e,rfl,he,AT⟩:=(H0.o.below hbw).at i h;have a0:=AT.c0;have a1:=AT.c1;have a2:=AT.c2;have hs:=mC l i e he;have ht:=rU l (i+1);have hb:=hB.o;have HS:=xh hs;have s1:IntKind.i64.wrap ((e.key.size:Int)+(e.val.size:Int))=(e.key.size:Int)+(e.val.size:Int):=dl;have s2:IntKind.i64.wrap ((e.key.size:Int)+(e.val.size:Int)+7)=(e.key.size:Int)+(e.val.size:Int)+7:=dl
   have s3:IntKind.i64.wrap ((an (l.take i):Int)+((e.key.size:Int)+(e.val.size:Int)+7))=(an (l.take i):Int)+((e.key.size:Int)+(e.val.size:Int)+7):=dl;have PD:=xh<|aC hbw (i6 wr (WF #[U2 e.key,U2 e.val,e.aY] 111));clear AT hs ht hb hbw;go_wp2_with fail;refine⟨⟨i+1,by omega,rfl,?_,PD.o⟩,by simp[intOf];omega⟩;rw[HS.o];simp
  .obtain rfl:i=n:=by omega
   have PD:=xh hbw;clear hbw;go_wp2;go_ret;refine⟨?_,PD.o⟩;have:=hl.o;rw[cm (by omega)];rfl
theorem CF(e:E)(leaf:Bool):dO e leaf↔e.key.size<=32/\e.val.size<=40/\ -1<=e.aY/\e.aY<=511/\(0<=e.aY->e.val.size=0)/\(e.aY<0->leaf=true):=by
 unfold dO
 constructor
 .rintro⟨h1,h2,h3,h4,h5⟩
  cases leaf
  .simp only[mJ,if_false]at h3;exact⟨h1,h2,by omega,by omega,λh=>by omega,λh=>by omega⟩
  .simp only[if_true]at h3;exact⟨h1,h2,by omega,by omega,λh=>by omega,λ_=>rfl⟩
 .rintro⟨h1,h2,h3,h4,h5,h6⟩;have h7:e.aY<0\/e.val.size=0:=by
   rcases(show e.aY<0\/0<=e.aY by omega)with h|h
   .exact .inl h
   .exact .inr (h5 h)
  cases leaf
  .simp only[mJ,if_false];refine⟨h1,h2,?_,by omega,h7⟩
   rcases(show e.aY<0\/0<=e.aY by omega)with h|h
   .exact absurd (h6 h) (by decide)
   .exact h
  .simp only[if_true];exact⟨h1,h2,h3,by omega,h7⟩
end Nd
namespace Nd
open Go.RowKit Sl
variable{l:List E}{w:YB}{t:pm}{n:Nat}
def aJ(l:List E):List YO:=l.flatMap E.cells
theorem lS(e:E)(l:List E):aJ (e::l)=e.cells++aJ l:=by simp[aJ]
theorem iH(l m:List E):aJ (l++m)=aJ l++aJ m:=by simp[aJ]
theorem aw(l:List E):(aJ l).length=l.length*3:=by
 induction l with
 |nil=>rfl
 |cons e l ih=>rw[lS,aT,ih];simp[E.cells];omega
theorem Yo{k:Nat}{e:E}(h:l[k]?=some e)(j:Nat)(hj:j<3):(aJ l)[k*3+j]?=e.cells[j]?:=by
 induction l generalizing k with
 |nil=>simp at h
 |cons x l ih=>
  rw[lS]
  cases k with
  |zero=>
   simp only[uz,Option.some.injEq]at h;subst h;rw[bE (by simp[E.cells];omega)];congr 1;omega
  |succ k=>
   rw[rk]at h;rw[dQ (by simp[E.cells];omega),<-ih h]
   congr 1;simp[E.cells];omega
theorem iN(g o j:Nat):(⟨g,o,none⟩:Addr).add j=⟨g,o+j,none⟩:=by
 unfold Addr.add
 split
 .next h=>rw[h];rfl
 .rfl
theorem K8{g:Nat}{rest:List YO}(B:aF w g t (aJ l++rest).toArray)(k:Nat)(e:E)(h:l[k]?=some e):FD w ((⟨g,0,none⟩:Addr).add (k*3)) e:=by
 have hk:=(aR.1 h).1;have hlen:=aw l;have key:∀j,j<3->(aJ l++rest).toArray[k*3+j]?=e.cells[j]?:=λj hj=>by
  rw[cN,bE (by omega),Yo h j hj]
 rw[iN,bq];exact⟨(B.cell _).trans (key 0 (by omega)),(B.cell _).trans (key 1 (by omega)),(B.cell _).trans (key 2 (by omega))⟩
theorem aM.aJ{A:Option Addr}{c m:Nat}(S:aM w t 3 (U3 A n c) m (aJ l)):n=m/\qY w A m l:=by
 have hl:=S.1;rw[aw]at hl;have Yp:l.length=m:=by omega
 rcases S.2 with⟨hv,h0⟩|⟨g,cap,rest,hv,B,hc,_⟩
 .simp only[Value.slice.injEq]at hv;obtain⟨rfl,rfl,rfl⟩:=hv;refine⟨h0.symm,Yp,λk e he=>?_⟩;have:=(aR.1 he).1;omega
 .simp only[Value.slice.injEq]at hv;obtain⟨rfl,rfl,rfl⟩:=hv;exact⟨rfl,Yp,λk e he=>⟨_,rfl,K8 B k e he⟩⟩
theorem CG{P:Program}{v:YO}{l:List YO}(S:aM w t 3 v n l)
 (T ty:pm)(z:YO)(bytes:Nat)(ht:P.underlying T=some (.slice t))(nN:(P.info? t).map (λi=>(i.zero,i.size,i.bytes))=some (some z,3,bytes))(hz:z.cells.size=3)
 (e:E)(Hc:n+1<=it)(hb:(n+1)*bytes<=140737488355328):
  ∃v' w',dF P T ty (w.alloc (WF #[U2 e.key,U2 e.val,e.aY] t)) v (U3 (lc w.heap.size) 1 1)= .ok v' w'/\aM w' t 3 v' (n+1) (l++e.cells)/\ag (ah v) w w'/\(∀g∈ah v',g∈ah v\/w.heap.size<=g):=by
 obtain⟨i0,hi,lz,jK,kl⟩:=info_parts nN;obtain⟨v',w',h1,h2,h3,h4⟩:=dE (P:=P) (S.alloc (WF #[U2 e.key,U2 e.val,e.aY] t)) T ty i0 z bytes ht hi lz jK kl hz (by omega)
  ⟨w.heap.size,0,none⟩ 1 1 e.cells rfl (bm (l:=e.cells) (aF.new w t #[U2 e.key,U2 e.val,e.aY]) 0 _ (by intro j v hv;rw[bq];exact hv)) (by intro u hu;simp[E.cells]at hu;rcases hu with rfl|rfl|rfl<;>rfl) Hc hb
 exact⟨v',w',h1,h2,((ag.refl _ _).alloc _).aU h3 (λx hx _=>hx),λg hg=>(h4 g hg).imp id (λh=>by simp at h;omega)⟩
attribute [local go_sem ↓] bA
def rV(e:E):pu:=gn e.key.size::(e.key.data.toList++(fD (e.aY+1).toNat++e.val.data.toList))
def wC(e:E):rd:=⟨(rV e).toArray⟩
theorem yf(a b:rd):a++b=⟨(a.data.toList++b.data.toList).toArray⟩:=by
 have:=uC a.data.toList b;rw[Rn]at this;exact this
theorem recB_eq(e:E):(⟨[gn e.key.size].toArray⟩++e.key)++⟨(fD (e.aY+1).toNat).toArray⟩++e.val=wC e:=by
 rw[yf,yf,yf];unfold wC rV;simp
theorem CH(w:YB)(o:Obj):(w.alloc o).heap.size=w.heap.size+1:=by simp
theorem wh{w:YB}(e:E)(hk:e.key.size<=32)(hv:e.val.size<=40)(hf: -1<=e.aY)(Ak:e.aY<=511){g n:Nat}{v:YO}{l:List (pu)}(B:aF w g 123 #[v])(S:aM w 9 1 v n (strs l))(hg:g∉ah v)(hn:n<=1000000):
  eq prog 118 #[e.agg,lc g] w λr w'=>r=BY (U8 #[])/\∃v',aF w' g 123 #[v']/\aM w' 9 1 v' (n+1) (strs (l++[rV e]))/\ag (g::ah v) w w'/\(∀x∈ah v',x∈ah v\/w.heap.size<=x):=by
 obtain⟨A,c,rfl⟩:=ax S;have HR:=xh<|recB_eq e;have hR2:Value.string (wC e)=U2 ⟨(rV e).toArray⟩:=rfl;obtain⟨m,hm⟩:=dZ (show 0<=e.aY+1 by omega);have Bp:m<=512:=by omega
 have e0:Value.int Nm ((m:Int) / 256)=bv (gn (m / 256)):=by
  unfold bv
  congr 1
  rw[il];omega
 have e1:Value.int Nm ((m:Int) % 256)=bv (gn m):=by
  unfold bv;rfl
 have e2:Value.int Nm (e.key.size:Int)=bv (gn e.key.size):=by
  unfold bv
  congr 1
  rw[il];omega
 rw[hm,iJ]at HR;have HE:=g9 (#[Value.int Nm ((m:Int) / 256),Value.int Nm ((m:Int) % 256)]=(dR (fD m)).toArray) (by rw[e0,e1];rfl);have HK:=g9 (#[Value.int Nm (e.key.size:Int)]=(dR [gn e.key.size]).toArray) (by rw[e2];rfl);have BX:=xh<|aF.new w 111 #[U2 e.key,U2 e.val,e.aY]
 have s1:=cu (P:=prog) ((w.alloc (WF #[U2 e.key,U2 e.val,e.aY] 111)).alloc (WF (dR [gn e.key.size]).toArray 5)) 150 9 5 underlying150 underlying5 underlying9 ⟨(w.alloc (WF #[U2 e.key,U2 e.val,e.aY] 111)).heap.size,0,none⟩ 1 1 [gn e.key.size] rfl (bm (l:=dR [gn e.key.size]) (aF.new _ 5 _) 0 _ (by intro j u hu;rw[bq];exact hu));rw[<-HK.o,CH]at s1
 have S1:=xh s1
 have s2:=cu (P:=prog) (((w.alloc (WF #[U2 e.key,U2 e.val,e.aY] 111)).alloc (WF #[U5 Nm (e.key.size:Int)] 5)).alloc (WF (dR (fD m)).toArray 5)) 150 9 5 underlying150 underlying5 underlying9 ⟨((w.alloc (WF #[U2 e.key,U2 e.val,e.aY] 111)).alloc (WF #[U5 Nm (e.key.size:Int)] 5)).heap.size,0,none⟩ 2 2 (fD m) rfl (bm (l:=dR (fD m)) (aF.new _ 5 _) 0 _ (by intro j u hu;rw[bq];exact hu))
 rw[<-HE.o,CH,CH]at s2;have S2:=xh s2;have B1:=B.alloc (WF #[U2 e.key,U2 e.val,e.aY] 111);have c1:(w.alloc (WF #[U2 e.key,U2 e.val,e.aY] 111)).cell? (lc g)=some (U3 A n c):=B1.bi 0
 obtain⟨v',w2,ea,SS,ow,fr⟩:=dG (P:=prog) (((S.alloc (WF #[U2 e.key,U2 e.val,e.aY] 111)).alloc (WF #[U5 Nm (e.key.size:Int)] 5)).alloc (WF #[Value.int Nm ((m:Int) / 256),Value.int Nm ((m:Int) % 256)] 5)) 123 123 (U2 .empty) 16 underlying123 yZ rfl (U2 (⟨#[gn e.key.size]⟩++e.key++⟨(fD m).toArray⟩++e.val)) rfl (by unfold it;omega) (by omega);obtain⟨V2,jh,rfl⟩:=ax SS;rw[CH,CH,CH]at ea
 have EA:=xh ea;clear s1 s2 ea;have OO:=xh<|((((ag.refl (g::ah (U3 A n c)) w).alloc (WF #[U2 e.key,U2 e.val,e.aY] 111)).alloc (WF #[U5 Nm (e.key.size:Int)] 5)).alloc (WF #[Value.int Nm ((m:Int) / 256),Value.int Nm ((m:Int) % 256)] 5)).aU ow (λx hx _=>bK _ hx)
 have B2:=xh<|(((B.alloc (WF #[U2 e.key,U2 e.val,e.aY] 111)).alloc (WF #[U5 Nm (e.key.size:Int)] 5)).alloc (WF #[Value.int Nm ((m:Int) / 256),Value.int Nm ((m:Int) % 256)] 5)).only ow hg;have hR3:Value.string (⟨#[gn e.key.size]⟩++e.key++⟨(fD m).toArray⟩++e.val)=U2 ⟨(rV e).toArray⟩:=congrArg Value.string HR.o;rw[hR3,FA]at SS
 replace SS:=xh SS
 have c2:w2.cell? (lc g)=some (U3 A n c):=B2.ap 0;have c3:w2.frozen? ⟨g,0,none⟩=false:=B2.o.frozen 0 (by simp);have t8:(fD m).length=2:=rfl;have FR2:=g9 (∀x∈ah (U3 V2 (n+1) jh),x∈ah (U3 A n c)\/w.heap.size<=x) (λx hx=>(fr x hx).imp id (λh=>by rw[CH,CH,CH]at h;omega));have NE:=g9 (g∉ah (U3 V2 (n+1) jh)) (λhx=>(FR2.o g hx).elim hg (λh=>by have:=B.lt;omega));have HM:=xh hm;unfold E.agg
 clear B1 e0 e1 e2 ow fr S B hg hR2 hR3;have m1:IntKind.u8.wrap ((m:Int) / 256)=(m:Int) / 256:=IntWalk.u8_in _ (by omega);go_in;go_wp2_with fail;rw[S1.o];go_wp2_with fail;rw[S2.o];go_wp2_with fail;rw[EA.o];go_wp2_with fail
 go_end0
 exact⟨rfl,_,B2.o.cw 0 _,SS.o.only ((ag.refl [g] w2).setCell (λ_=>by simp) _) (λx hx=>by simp;exact λhh=>NE.o (hh▸hx)),OO.o.setCell (λ_=>by simp) _,FR2.o⟩
end Nd
namespace Nd
open Go.RowKit Sl
variable{w:YB}
def FF(leaf:Bool):pu:=if leaf=true then [1]else [2]
def jg(leaf:Bool)(l:List E):List (pu):=FF leaf::l.map rV
theorem CI(leaf:Bool)(l:List E)(i:Nat)(e:E)(h:l[i]?=some e):jg leaf (l.take (i+1))=jg leaf (l.take i)++[rV e]:=by
 unfold jg;rw[kQ,h];simp
theorem Iy(leaf:Bool)(l:List E):(jg leaf l).length=l.length+1:=by simp[jg]
theorem rW(e:E):(rV e).length=3+e.key.size+e.val.size:=by
 unfold rV fD;simp;omega
theorem put_no(leaf:Bool)(A:Option Addr)(n c:Nat)(l:List E)(h:qY w A n l)(hn:n<=1000000)(hm:¬et l leaf):
  eq prog 68 #[bH leaf A n c] w λr w'=>r=BY (U8 #[U2 ⟨#[]⟩,U5 By 2])/\i7 w w':=by
 have O0:=(i5 w).alloc (ai _) (WF #[U6 leaf,U3 A n c] 118);have KM:=xh<|Aq (w:=w.alloc (WF #[U6 leaf,U3 A n c] 118)) leaf A n c l (h.below O0) (by omega);have O0:=xh O0;have HM:=xh hm;clear h hm;unfold bH at *;go_in;go_wp2_with fail;go_call KM.o as r w1 ⟨⟨b,rfl,hb⟩,aO⟩;obtain rfl:b=false:=by
  cases b
  .rfl
  .exact absurd (hb.1 rfl) HM.o
 have O1:=xh<|aC O0.o aO;clear hb aO;go_wp2;go_ret2;exact⟨rfl,O1.o⟩
theorem put_yes(leaf:Bool)(A:Option Addr)(n c:Nat)(l:List E)(h:qY w A n l)(hn:n<=1000)(hm:et l leaf):
  eq prog 68 #[bH leaf A n c] w (Ym (jg leaf l) w):=by
 have O0:=(i5 w).alloc (ai _) (WF #[U6 leaf,U3 A n c] 118);have hl:=xh h.1;have H0:=h.below O0;have KM:=xh<|Aq (w:=w.alloc (WF #[U6 leaf,U3 A n c] 118)) leaf A n c l H0 (by omega);have B0:=xh<|aF.new w 118 #[U6 leaf,U3 A n c];have O0:=xh O0;have H0:=xh H0;have HM:=xh hm;have HH:=xh h
 have HQ:=xh (show ∀(i:Nat) (e:E),l[i]?=some e->e.key.size<=32/\e.val.size<=40/\ -1<=e.aY/\e.aY<=511 from λi e he=>by
  have h2:=(CF e leaf).1 (hm i (aR.1 he).1 e he).1;exact⟨h2.1,h2.2.1,h2.2.2.1,h2.2.2.2.1⟩)
 have HL:=xh<|Iy leaf l;have HS:=xh (show ∀r∈jg leaf l,r.length<=1000000 from λr hr=>by
  unfold jg at hr
  rcases ar.1 hr with rfl|hr
  .unfold FF;split<;>decide
  .obtain⟨e,he,rfl⟩:=cr.1 hr;obtain⟨i,hi,rfl⟩:=p9 he;have:=HQ.o i _ (aH hi);rw[rW];omega)
 clear h hm;unfold bH at *;go_in;go_wp2_with fail;generalize (w.alloc (WF #[U6 leaf,U3 A n c] 118))=W0 at *;go_call KM.o as r w1 ⟨⟨b,rfl,hb⟩,aO⟩;obtain rfl:b=true:=hb.2 HM.o;have O1:=xh<|aC O0.o aO;have H1:=xh<|H0.o.below aO;have B1:=xh<|B0.o.below aO B0.o.lt;have c0:w1.cell? (lc w.heap.size)=some (U6 leaf):=B1.ap 0
 have c1:w1.cell? ⟨w.heap.size,1,none⟩=some (U3 A n c):=B1.ap 1;have ef:=B1.o.lt;clear hb aO;have SK:=g9 (∀k:pu,aM ((w1.alloc (WF #[U2 ⟨k.toArray⟩] 9)).alloc (WF #[U3 (lc w1.heap.size) 1 1] 123)) 9 1 (U3 (lc w1.heap.size) 1 1) 1 (strs [k])) (λk=>⟨rfl,.inr ⟨w1.heap.size,1,[],rfl,(aF.new w1 9 #[U2 ⟨k.toArray⟩]).alloc _,rfl,by unfold it;omega⟩⟩)
 have BK:=xh (show ∀k:pu,aF ((w1.alloc (WF #[U2 ⟨k.toArray⟩] 9)).alloc (WF #[U3 (lc w1.heap.size) 1 1] 123)) (w1.heap.size+1) 123 #[U3 (lc w1.heap.size) 1 1]from λk=>by
  have:=aF.new (w1.alloc (WF #[U2 ⟨k.toArray⟩] 9)) 123 #[U3 (lc w1.heap.size) 1 1];rw[CH]at this;exact this)
 have OK:=g9 (∀k:pu,i7 w ((w1.alloc (WF #[U2 ⟨k.toArray⟩] 9)).alloc (WF #[U3 (lc w1.heap.size) 1 1] 123))) (λk=>aC O1.o (ae (i6 _ _) _))
 cases leaf
 .replace SK:=xh<|SK.o [2]
  replace BK:=xh<|BK.o [2]
  replace OK:=xh<|OK.o [2]
  go_wp2_with fail;generalize hW2:((w1.alloc (WF #[U2 ⟨#[2]⟩] 9)).alloc (WF #[U3 (lc w1.heap.size) 1 1] 123))=W2 at *;clear hW2 c0 c1
  go_loopw [20] (λiv wr=> ∃(i:Nat) (v':YO),i<=n/\iv=U5 By i/\aF wr (w1.heap.size+1) 123 #[v']/\aM wr 9 1 v' (i+1) (strs (jg false (l.take i)))/\i7 w wr/\Hid (∀x∈ah v',w.heap.size<=x/\x≠w1.heap.size+1)) (λiv _=>n-(intOf iv).toNat)
  case atStart=>exact⟨0,_,aW _,rfl,BK.o,SK.o,OK.o,xh (λx hx=>by simp[ah]at hx;omega)⟩
  case round=>
   obtain⟨i,v',hi,rfl,B,S,O,F⟩:=hrel;obtain⟨VA,vc,rfl⟩:=ax S;have hltr:=B.lt
   by_cases h:i<n
   .obtain⟨ad,e,rfl,he,AT⟩:=(HH.o.below O).at i h;have HT:=xh<|CI false l i e he;obtain⟨q1,q2,q3,q4⟩:=HQ.o i e he;have KP:=xh<|wh (w:=wr.alloc (WF #[U2 e.key,U2 e.val,e.aY] 111)) e q1 q2 q3 q4 (B.alloc _) (S.alloc _) (λhx=>(F.o _ hx).2 rfl) (by omega);have a0:=AT.c0;have a1:=AT.c1;have a2:=AT.c2;have OO:=xh O;have SZ:=g9 (w.heap.size<=w1.heap.size+1) (by omega);clear AT S B O he;go_wp2_with fail;refine KP.o.mono ?_
    rintro r w2 ⟨rfl,v2,B2,S2,o2,f2⟩;have F2:=g9 (∀x∈ah v2,w.heap.size<=x/\x≠w1.heap.size+1) (λx hx=>(f2 x hx).elim (F.o x) (λh=>by rw[CH]at h;have:=OO.o.size;omega));have O2:=xh<|(OO.o.alloc OO.o.size (WF #[U2 e.key,U2 e.val,e.aY] 111)).trans (o2.aK (by rw[CH];have:=OO.o.size;omega) (λx hx=>by
     rcases ar.1 hx with rfl|hx
     .exact SZ.o
     .exact(F.o x hx).1))
    rw[<-HT.o]at S2
    replace S2:=xh S2
    replace B2:=xh B2
    clear o2 f2;go_wp2_with fail;go_roundw
    case rel=>exact⟨i+1,v2,by omega,by go_num,B2.o,S2.o,O2.o,F2⟩
    case measure=>simp[intOf];omega
   .obtain rfl:i=n:=by omega
    have oy:=hl.o;rw[cm (by omega)]at S;have KO:=xh<|mQ (l:=jg false l) (by rw[HL.o,oy];exact S) (by rw[HL.o];omega) HS.o;have b0:wr.cell? ⟨w1.heap.size+1,0,none⟩=some (U3 VA (i+1) vc):=B.bi 0;have OO:=xh O;clear S B O oy;go_wp2_with fail;go_call KO.o as r w2 ⟨hx,cf⟩;have O2:=xh<|aC OO.o cf;clear cf
    rcases hx with⟨h0,T,rfl,sT,rT⟩|⟨h0,rfl⟩
    .have HX:=xh<|io h0 (io sT rT);clear h0 sT rT;go_wp2;go_ret2;exact⟨.inl ⟨HX.o.1,T,rfl,HX.o.2.1,HX.o.2.2⟩,O2.o⟩
    .have HX:=xh h0;clear h0;go_wp2;go_ret2;exact⟨.inr ⟨HX.o,rfl⟩,O2.o⟩
 .replace SK:=xh<|SK.o [1]
  replace BK:=xh<|BK.o [1]
  replace OK:=xh<|OK.o [1]
  go_wp2_with fail;generalize hW2:((w1.alloc (WF #[U2 ⟨#[1]⟩] 9)).alloc (WF #[U3 (lc w1.heap.size) 1 1] 123))=W2 at *;clear hW2 c0 c1
  go_loopw [20] (λiv wr=> ∃(i:Nat) (v':YO),i<=n/\iv=U5 By i/\aF wr (w1.heap.size+1) 123 #[v']/\aM wr 9 1 v' (i+1) (strs (jg true (l.take i)))/\i7 w wr/\Hid (∀x∈ah v',w.heap.size<=x/\x≠w1.heap.size+1)) (λiv _=>n-(intOf iv).toNat)
  case atStart=>exact⟨0,_,aW _,rfl,BK.o,SK.o,OK.o,xh (λx hx=>by simp[ah]at hx;omega)⟩
  case round=>
   obtain⟨i,v',hi,rfl,B,S,O,F⟩:=hrel;obtain⟨VA,vc,rfl⟩:=ax S;have hltr:=B.lt
   by_cases h:i<n
   .obtain⟨ad,e,rfl,he,AT⟩:=(HH.o.below O).at i h;have HT:=xh<|CI true l i e he;obtain⟨q1,q2,q3,q4⟩:=HQ.o i e he;have KP:=xh<|wh (w:=wr.alloc (WF #[U2 e.key,U2 e.val,e.aY] 111)) e q1 q2 q3 q4 (B.alloc _) (S.alloc _) (λhx=>(F.o _ hx).2 rfl) (by omega);have a0:=AT.c0;have a1:=AT.c1;have a2:=AT.c2;have OO:=xh O;have SZ:=g9 (w.heap.size<=w1.heap.size+1) (by omega);clear AT S B O he;go_wp2_with fail;refine KP.o.mono ?_
    rintro r w2 ⟨rfl,v2,B2,S2,o2,f2⟩;have F2:=g9 (∀x∈ah v2,w.heap.size<=x/\x≠w1.heap.size+1) (λx hx=>(f2 x hx).elim (F.o x) (λh=>by rw[CH]at h;have:=OO.o.size;omega));have O2:=xh<|(OO.o.alloc OO.o.size (WF #[U2 e.key,U2 e.val,e.aY] 111)).trans (o2.aK (by rw[CH];have:=OO.o.size;omega) (λx hx=>by
     rcases ar.1 hx with rfl|hx
     .exact SZ.o
     .exact(F.o x hx).1))
    rw[<-HT.o]at S2
    replace S2:=xh S2
    replace B2:=xh B2
    clear o2 f2;go_wp2_with fail;go_roundw
    case rel=>exact⟨i+1,v2,by omega,by go_num,B2.o,S2.o,O2.o,F2⟩
    case measure=>simp[intOf];omega
   .obtain rfl:i=n:=by omega
    have oy:=hl.o;rw[cm (by omega)]at S;have KO:=xh<|mQ (l:=jg true l) (by rw[HL.o,oy];exact S) (by rw[HL.o];omega) HS.o;have b0:wr.cell? ⟨w1.heap.size+1,0,none⟩=some (U3 VA (i+1) vc):=B.bi 0;have OO:=xh O;clear S B O oy;go_wp2_with fail;go_call KO.o as r w2 ⟨hx,cf⟩;have O2:=xh<|aC OO.o cf;clear cf
    rcases hx with⟨h0,T,rfl,sT,rT⟩|⟨h0,rfl⟩
    .have HX:=xh<|io h0 (io sT rT);clear h0 sT rT;go_wp2;go_ret2;exact⟨.inl ⟨HX.o.1,T,rfl,HX.o.2.1,HX.o.2.2⟩,O2.o⟩
    .have HX:=xh h0;clear h0;go_wp2;go_ret2;exact⟨.inr ⟨HX.o,rfl⟩,O2.o⟩
end Nd
namespace Nd
open Go.RowKit Sl
variable{w:YB}{g n c:Nat}{leaf:Bool}{A:Option Addr}{tmps:Array YO}
theorem yg{fn:Func}{p q:Tmp}{ty tz:pm}(h:fn.results= #[.cell p ty,.cell q tz])(tmps:Array YO)(P:Program)(w:YB):
  (results fn tmps).run P w=
   ((asAddr (tmps.getD p undef)).run P w).andThen λa w₁=>((loadVar ty a).run P w₁).andThen λv w₂=>((asAddr (tmps.getD q undef)).run P w₂).andThen λa w₁=>((loadVar tz a).run P w₁).andThen λu w₂=> .ok (U8 #[v,u]) w₂:=by
 simp only[results,h];simp[Sem.run_bind,Result.andThen]
theorem jG{fn:Func}{p u:Tmp}(h:fn.results= #[.cell p 118,.tmp u])(hp:tmps.getD p undef=U7 (some ⟨g,0,none⟩))(B:aF w g 118 #[U6 leaf,U3 A n c]):
  (results fn tmps).run prog w=.ok (U8 #[bH leaf A n c,tmps.getD u undef]) w:=by
 have c0:=B.bi 0;have c1:=B.bi 1;rw[results_cell_tmp h,hp];clear h hp B;unfold bH;go_simp
theorem PE{fn:Func}{p q:Tmp}{g':Nat}{leaf':Bool}{A':Option Addr}{n' c':Nat}(h:fn.results= #[.cell p 118,.cell q 118])(hp:tmps.getD p undef=U7 (some ⟨g,0,none⟩))(hq:tmps.getD q undef=U7 (some ⟨g',0,none⟩))(B:aF w g 118 #[U6 leaf,U3 A n c])(B':aF w g' 118 #[U6 leaf',U3 A' n' c']):
  (results fn tmps).run prog w=.ok (U8 #[bH leaf A n c,bH leaf' A' n' c']) w:=by
 have c0:=B.bi 0;have c1:=B.bi 1;have d0:=B'.bi 0;have d1:=B'.bi 1;rw[yg h,hp,hq];clear h hp hq B B';unfold bH;go_simp
end Nd
end Go.Proofs.YtmonobkginiajaaGreat
