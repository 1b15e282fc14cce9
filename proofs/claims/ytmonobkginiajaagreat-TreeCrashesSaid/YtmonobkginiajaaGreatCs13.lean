/- packed. -/
import Derived.Test.YtmonobkginiajaaGreatCs12
set_option linter.all false
set_option maxRecDepth 100000
set_option maxHeartbeats 8000000
namespace Go.Proofs.YtmonobkginiajaaGreat
open Go.Proofs.Tryz
open Value renaming string→U7,slice→U3,int→U5,bool→WF
open Ending renaming returned→fd
open IntKind renaming i64→U6
open Obj renaming cells→Pi
open Go renaming World→BY,Calls→io
open And renaming intro→rx
namespace Sh.Cn
open Go.RowKit Pk Dk Pg
open Nd (E aL bQ aJ aP dm bw aY cg)
variable{w:BY}{tb n K:Nat}{I:Ix}{F:List Nat}
def QS.cC(q:QS)(x:E):QS×Nm×Int:=if x.bh<0 then(q,x.val,0)else((q.dA x.bh).1,⟨(q.dA x.bh).2.2.1.toArray⟩,rH (q.dA x.bh).2.2.2)
def QS.jY(q:QS)(x:E):QS×Int:=if x.bh<0 then(q,0)else((q.jX x.bh).1,rH (q.jX x.bh).2)
def QS.fU(q:QS)(key value:Nm):QS×E×Int:=if value.size<=40 then(q,⟨key,value,-1⟩,0)else((q.kE value.data.toList).1,⟨key,⟨#[]⟩,(q.kE value.data.toList).2.1⟩,(q.kE value.data.toList).2.2)
def NL(key:Nm):∀(m:Nat) (q:QS) (p:Int) (out:List Step),(iG key m q p out).2.2=0->∃pre x,(iG key m q p out).2.1=out++(pre++[x])/\x.leaf=true/\(∀s∈pre,s.leaf=false)/\(∀s∈pre++[x],zq s)/\pre.length<m
 |0,_,_,_,h=>eq h (by show(14:Int)≠0;decide)
 |m+1,q,p,out,h=>by
  have hl:=nP q p;unfold iG at h ⊢
  split at h
  .rename_i h1;exact eq h h1
  .rename_i h1;have hm:=zM (q:=q) (p:=p) (by simpa using h1);rw[U9 h1]
   split at h
   .rename_i h2;rw[U8 h2];refine⟨[],⟨p,true,(q.aT p).2.2.1,0⟩,rfl,rfl,by simp,λs hs=>?_,by simp⟩;simp at hs;subst hs;rw[h2]at hm;exact⟨hm,hl,λh=>by cases h⟩
   .rename_i h2;rw[U9 h2]
    split at h
    .exact eq h (by show(14:Int)≠0;decide)
    .rename_i h3;rw[U9 h3];obtain⟨pre,x,e1,e2,e3,e4,e5⟩:=NL key m _ _ _ h;have h2:(q.aT p).2.1=false:=by simpa using h2
     refine⟨⟨p,false,(q.aT p).2.2.1,bw (q.aT p).2.2.1 key⟩::pre,x,?_,e2,λs hs=>?_,λs hs=>?_,by simp;omega⟩
     .rw[e1];simp
     .rcases ax.1 hs with rfl|hs
      .rfl
      .exact e3 s hs
     .rcases ax.1 hs with rfl|hs
      .rw[h2]at hm;exact⟨hm,hl,λ_=>zp h3 key⟩
      .exact e4 s hs
def RM{q:QS}{key:Nm}(h:(q.cI key).2.2=0):∃pre x,(q.cI key).2.1=pre++[x]/\x.leaf=true/\(∀s∈pre,s.leaf=false)/\(∀s∈pre++[x],zq s)/\pre.length<16:=by
 obtain⟨pre,x,e1,e2⟩:=NL key 16 q 0 [] h;exact⟨pre,x,e1,e2⟩
def TQ.drew{q:QS}(h:TQ w tb I F q n K):TQ w.drew tb I F q n K:=⟨h.1.drew,h.2.drew⟩
def wg{q:QS}(h:TQ w tb I F q n K)(hK:K<=999999999900)(x:E):
  io prog 62 #[tp tb,x.agg] w λe w'=>e=fd (.tuple #[U7 (q.cC x).2.1,U5 U6 (q.cC x).2.2])/\PQ w' I F (q.cC x).1 n (K+5)/\ah F w w':=by
 have O0:=xh<|i6 w (Pi #[U7 x.key,U7 x.val,x.bh] 111);have B0:=xh<|aM.new w 111 #[U7 x.key,U7 x.val,x.bh];have T0:=xh<|h.below O0.o;have x1:=B0.ap 1;have x2:=B0.ap 2;have p0:=T0.o.1.bi 0;have S0:=xh<|rx p0 x2;have NB:=g9 (w.heap.size∉F) (λhm=>by have:=h.2.lt _ hm;omega)
 have KW:=xh (λ(W:BY) (hW:TQ W tb I F q n K)=>cget_any hW.2 hK x.bh);have KB:=xh Ez;unfold QS.cC;generalize q.dA x.bh=R at *;obtain⟨q1,l1,b1,e1⟩:=R;dsimp only at *;clear h;unfold tp E.agg at *;unfold pp at KW p0 S0
 by_cases hf:x.bh<0
 .rw[U8 hf];go_in;go_wp2;go_ret2;exact bz ⟨T0.o.2.le ls,.aj O0.o⟩
 .rw[U9 hf];go_in;go_wp2_with fail;clear p0 x1 x2;refine kw (λW=>W.cell? (lc tb)=some (lc I.pb:li)/\W.cell? ⟨w.heap.size,2,none⟩=some (x.bh:li)) (S0.o) (λaC=>?_);refine dj [(0,14),(1,15),(2,16),(3,17),(4,18),(5,19)] ?_
  iterate 6 refine bJ ?_
  refine dV 6 20 λK hK=>?_;go_simp
  go_at_call 111
  go_call (KW.o _ (T0.o.drew)) as e w2 ⟨rfl,P2,o2⟩;have P2:=xh P2;have O2:=xh<|(ah.aj O0.o).drew.trans o2;have S2:=xh<|rx ((T0.o.drew.next o2 P2.o).1.ae (i:=0) rfl) ((B0.o.drew.only o2 NB.o).ae (i:=2) rfl);clear o2;go_simp;refine cq hK (S2.o) (λaC=>?_);refine dj [(7,13),(8,21),(9,22),(10,6),(11,7)] ?_
  iterate 5 refine bJ ?_
  refine jp ?_ _;go_wp2_with fail;go_call (KB.o _ _) as e w3 ⟨rfl,rfl⟩;go_wp2;go_ret2;exact bz ⟨P2.o,O2.o⟩
def IA{q:QS}(h:TQ w tb I F q n K)(hK:K<=999999999900)(x:E):
  io prog 71 #[tp tb,x.agg] w λe w'=>e=fd (U5 U6 (q.jY x).2)/\PQ w' I F (q.jY x).1 n (K+5)/\ah F w w':=by
 have O0:=xh<|i6 w (Pi #[U7 x.key,U7 x.val,x.bh] 111);have B0:=xh<|aM.new w 111 #[U7 x.key,U7 x.val,x.bh];have T0:=xh<|h.below O0.o;have x1:=B0.ap 1;have x2:=B0.ap 2;have p0:=T0.o.1.bi 0;have S0:=xh<|rx p0 x2;have NB:=g9 (w.heap.size∉F) (λhm=>by have:=h.2.lt _ hm;omega)
 have KW:=xh (λ(W:BY) (hW:TQ W tb I F q n K)=>WB hW.2 hK x.bh);have KB:=xh Ez;unfold QS.jY;generalize q.jX x.bh=R at *;obtain⟨q1,e1⟩:=R;dsimp only at *;clear h;unfold tp E.agg at *;unfold pp at KW p0 S0
 by_cases hf:x.bh<0
 .rw[U8 hf];go_in;go_wp2;go_ret;exact bz ⟨T0.o.2.le ls,.aj O0.o⟩
 .rw[U9 hf];go_in;go_wp2_with fail;clear p0 x1 x2;refine kw (λW=>W.cell? (lc tb)=some (lc I.pb:li)/\W.cell? ⟨w.heap.size,2,none⟩=some (x.bh:li)) (S0.o) (λaC=>?_);refine dj [(0,8),(1,9),(2,10),(3,11),(4,12),(5,13)] ?_
  iterate 6 refine bJ ?_
  refine dV 6 14 λK hK=>?_;go_simp
  go_at_call 123
  go_call (KW.o _ (T0.o.drew)) as e w2 ⟨rfl,P2,o2⟩;have P2:=xh P2;have O2:=xh<|(ah.aj O0.o).drew.trans o2;have S2:=xh<|rx ((T0.o.drew.next o2 P2.o).1.ae (i:=0) rfl) ((B0.o.drew.only o2 NB.o).ae (i:=2) rfl);clear o2;go_simp;refine cq hK (S2.o) (λaC=>?_);refine dV 7 15 λK hK=>?_;go_simp
  go_at_call 112
  go_call (KB.o _ _) as e w3 ⟨rfl,rfl⟩;go_simp;refine cq hK (S2.o) (λaC=>?_);refine dj [(8,4)] ?_
  iterate 1 refine bJ ?_
  refine jp ?_ _;go_wp2;go_ret;exact bz ⟨P2.o,O2.o⟩
def WC{q:QS}(h:TQ w tb I F q n K)(hK:K<=999999999900)(key value:Nm)(hv:value.size<=1024):
  io prog 73 #[tp tb,U7 key,U7 value] w λe w'=>e=fd (.tuple #[(q.fU key value).2.1.agg,U5 U6 (q.fU key value).2.2])/\PT w w' I F (q.fU key value).1 n (K+5):=by
 have O0:=xh<|i6 w (Pi #[U7 ⟨#[]⟩,U7 ⟨#[]⟩,U5 U6 0] 111);have B0:=xh<|aM.new w 111 #[U7 ⟨#[]⟩,U7 ⟨#[]⟩,U5 U6 0];have T0:=xh<|h.below O0.o;have p0:=T0.o.1.bi 0;have NB:=g9 (w.heap.size∉F) (λhm=>by have:=h.2.lt _ hm;omega);have KW:=xh<|cput_any T0.o.2 value hv hK;have HH:=xh h;unfold QS.fU;generalize q.kE value.pu=R at *;obtain⟨q1,l1,e1⟩:=R
 dsimp only at *;clear h;unfold tp E.agg at *;unfold pp at KW p0
 by_cases hs:value.size<=40
 .rw[U8 hs];have XR:(value.size:Int)<=40:=ls
  have B2:=xh<|aM.new w 111 #[U7 key,U7 value,U5 U6 (-1)];have o2:=xh<|i6 w (Pi #[U7 key,U7 value,U5 U6 (-1)] 111);go_in;go_wp2;exact bodyPost_ret (Nd.pV rfl rfl B2.o) rfl ⟨rfl,.self ((HH.o.2.below o2.o).le ls) (.aj o2.o)⟩
 .rw[U9 hs];have XR:¬(value.size:Int)<=40:=ls
  go_in;go_wp2_with fail;go_call KW.o as e w1 ⟨rfl,F1,P1,o1,f1⟩;have H1:=xh<|rx P1 (rx o1 f1);have NB1:=g9 (w.heap.size∉F1) (λhm=>(f1 _ hm).elim NB.o (λh=>by simp at h;omega));obtain⟨B2,o2,c0,c1,c2,z0,z1,z2⟩:=ZE (a':=key) (b':=⟨#[]⟩) (c':=l1) (B0.o.only o1 NB.o);have B2:=xh B2;have o2:=xh o2;clear P1 o1 f1 p0;go_wp2
  exact bodyPost_ret (Nd.pV rfl rfl B2.o) rfl ⟨rfl,F1,H1.o.1.bh o2.o NB1.o,nG (((ah.aj (S:=w.heap.size::F) O0.o).trans (nH H1.o.2.1)).trans (nI o2.o)) (ai _),λg hg=>(H1.o.2.2 g hg).imp id (λh=>by simp at h;omega)⟩
def bF.last{b:Nat}{v:Value}{L:List SM}(h:bF w b v L){pre:List Step}{x:Step}(e:L.map SM.s=pre++[x]):∃Lp A c g cc,L=Lp++[⟨x,A,c⟩]/\Lp.map SM.s=pre/\v=U3 (lc g) (pre.length+1) cc/\b<=g/\pre.length+1<=cc/\cc<=maxLen/\
  (∀j,j<4->w.cell? ⟨g,pre.length*4+j,none⟩=(SM.cells ⟨x,A,c⟩)[j]?)/\(∀j,j<4->w.frozen? ⟨g,pre.length*4+j,none⟩=false)/\bm w 111 3 (U3 A x.l.length c) x.l.length (aL x.l)/\(∀g∈ak (U3 A x.l.length c),b<=g):=by
 obtain⟨Lp,y,rfl⟩:∃Lp y,L=Lp++[y]:=by
  rcases vk L with h0|⟨Lp,y,h0⟩
  .rw[h0]at e;simp at e
  .exact⟨Lp,y,by simpa using h0⟩
 rw[eS,iA,tD]at e;obtain⟨e1,e2⟩:=OT e rfl;simp only[List.cons.injEq,and_true]at e2;obtain⟨s,A,c⟩:=y;dsimp only at e2;subst e2;have hlen:Lp.length=pre.length:=by rw[<-e1,eZ]
 have hS:=h.s;rw[bC,jh,CG,hlen,bV]at hS;obtain⟨g,cc,rest,rfl,B,hc,hr⟩:=hS.form ls ls;have hm:cc<=maxLen:=by obtain⟨_,_,_,_,h⟩:=hS.ya;exact h
 have hx:=h.e ⟨s,A,c⟩ lw;have pC:((Lp++[(⟨s,A,c⟩:SM)]).flatMap SM.cells).length=pre.length*4+4:=by rw[fX,bC];simp;omega
 refine⟨Lp,A,c,g,cc,rfl,e1,rfl,h.f g (by simp[ak]),hc,hm,λj hj=>?_,λj hj=>B.frozen _ (by simp;rw[<-List.length_flatMap]at *;simp[fX]at *;omega),hx.1,hx.2⟩;rw[B.cell,dr,bX (by rw[pC];omega)];exact uz (by rw[<-hlen,eC (ai _),ik];rfl) j hj
def QS.gD(q:QS)(key:Nm):QS×Nm×Int:=
 if(q.cI key).2.2≠0 then((q.cI key).1,⟨#[]⟩,(q.cI key).2.2)
 else if cg (eF (q.cI key).2.1).l key=true then(q.cI key).1.cC ((eF (q.cI key).2.1).l.getD (aY (eF (q.cI key).2.1).l key) Nd.E.zero)
 else((q.cI key).1,⟨#[]⟩,9)
def IB{q:QS}(h:TQ w tb I F q n K)(hK:K<=999999999000)(key:Nm):
  io prog 20 #[tp tb,U7 key] w λe w'=>e=fd (.tuple #[U7 (q.gD key).2.1,U5 U6 (q.gD key).2.2])/\PQ w' I F (q.gD key).1 n (K+21)/\ah F w w':=by
 have KW:=xh<|Ft h ls key;have HT:=xh h;have KV:=xh (λ(W:BY) (qj:QS) (hW:TQ W tb I F qj n (K+16)) (x:E)=>wg hW ls x);have fN:=RM (q:=q) (key:=key);unfold QS.gD;generalize q.cI key=R at *;obtain⟨q1,steps,er⟩:=R;dsimp only at *;clear h;unfold tp at *
 by_cases he:er=0
 .subst he;obtain⟨pre,x,rfl,vI,hnl,py,hlen⟩:=fN rfl;rw[i8,show eF (pre++[x])=x from by unfold eF;simp];obtain⟨hm,hl57,_⟩:=py x lw;have hm:=xh hm;clear fN hnl py vI;obtain⟨RR,cA⟩:∃RR,(if cg x.l key=true then q1.cC (x.l.getD (aY x.l key) Nd.E.zero)else(q1,⟨#[]⟩,9))=RR:=⟨_,rfl⟩;rw[cA];have gI:=xh cA;clear cA;go_in;go_wp2_with fail;go_call KW.o as e w1 ⟨v,L,rfl,SA,qf,P1,o1⟩
  obtain⟨Lp,A,c,g,cc,rfl,mV,rfl,hbg,Ku,rS,iO,Xw,S1,f1⟩:=SA.last qf;have T1:=xh<|HT.o.next o1 P1;have o1:=xh o1;have S1:=xh S1;have x1:w1.cell? ⟨g,pre.length*4+1,none⟩=some (WF x.leaf):=iO 1 ls;have x2:w1.cell? ⟨g,pre.length*4+1+1,none⟩=some (U3 A x.l.length c):=iO 2 ls;have s1:U6.wrap (((pre.length+1:Nat):Int)-1)=(pre.length:Int):=by rw[show((pre.length+1:Nat):Int)-1=(pre.length:Int) by omega];exact d9
  have s2:(pre.length:Int)<((pre.length+1:Nat):Int):=ls
  have ja:=i6 w1 (Pi #[WF x.leaf,U3 A x.l.length c] 118);have B2:=xh<|aM.new w1 118 #[WF x.leaf,U3 A x.l.length c];have y0:=B2.ap 0;have y1:=B2.ap 1;have S2:=xh<|S1.o.below ja;have KF:=xh<|Nd.zm x.leaf A x.l.length c x.l key (Nd.bm.aL S2.o).2 ls hm.o;have HAL:=xh ja;unfold bQ at KF;clear SA qf P1 mV iO Xw f1 ja;go_wp2_with fail
  go_call KF.o as e w3 ⟨rfl,gK⟩;have O3:=xh<|aE HAL.o gK;have T3:=xh<|T1.o.below O3.o;have z1:=(B2.o.below gK B2.o.lt).ae (i:=1) rfl;have S3:=xh<|S2.o.below gK;clear x1 x2 y0 y1 gK
  by_cases hh:cg x.l key=true
  .obtain⟨ex,hex⟩:=EF hh;have hfx:x.l.getD (aY x.l key) Nd.E.zero=ex:=by rw[jG,hex];rfl
   have cA:=gI.o;rw[U8 hh,hfx]at cA;subst cA;generalize cg x.l key=hb at *;subst hh;have sE:aY x.l key<x.l.length:=(aW.1 hex).1;generalize aY x.l key=at_ at *;obtain⟨ad,zN,iy⟩:=(Nd.bm.aL S3.o).2.2 at_ ex hex;obtain⟨ga,ca,AR,FY,_⟩:=S3.o.form ls ls;injection FY with e1 e2 e3
   subst e1 e3;injection zN with zN
   subst zN;rw[Nd.jq,bV]at iy;have u0:=iy.c0;have u1:=iy.c1;have u2:=iy.c2;dsimp only at u1 u2;have K3:=xh<|KV.o w3 q1 T3.o ex;unfold E.agg at K3;have hflI:(at_:Int)<(x.l.length:Int):=ls
   clear iy hex hfx;go_wp2_with fail;go_call K3.o as e w4 ⟨rfl,P4,o4⟩;have P4:=xh P4;have O4:=xh<|(o1.o.trans (.aj O3.o)).trans o4;clear o4 u0 u1 u2 z1;go_wp2;go_ret2;exact bz ⟨P4.o,O4.o⟩
  .have hh2:cg x.l key=false:=by simpa using hh
   have cA:=gI.o;rw[U9 hh]at cA;subst cA;generalize cg x.l key=hb at *;subst hh2;clear hh;go_wp2;go_ret2;exact bz ⟨T3.o.2.le ls,o1.o.trans (.aj O3.o)⟩
 .rw[U8 he];have hq:(er != 0)=true:=lm he
  have kP:(er==0)=false:=i4 he
  clear fN;go_in;go_wp2_with fail;go_call KW.o as e w1 ⟨v,L,rfl,SA,qf,P1,o1⟩;have P1:=xh P1;have o1:=xh o1;clear SA qf;go_wp2;go_ret2;exact bz ⟨P1.o.le ls,o1.o⟩
open Nd (E aL bQ aJ aP dm bw aY cg aZ)
variable{w w':BY}{I:Ix}{F:List Nat}{n K K0 tb:Nat}
def QS.lk(q:QS)(leaf:Bool)(la lb:List E):QS×Int:=
 if(q.cu leaf la).2.2≠0 then((q.cu leaf la).1,(q.cu leaf la).2.2)
 else if((q.cu leaf la).1.cu leaf lb).2.2≠0 then(((q.cu leaf la).1.cu leaf lb).1,((q.cu leaf la).1.cu leaf lb).2.2)
 else((q.cu leaf la).1.cu leaf lb).1.bg 0 false [⟨⟨#[]⟩,⟨#[]⟩,(q.cu leaf la).2.1⟩,⟨keyOf lb,⟨#[]⟩,((q.cu leaf la).1.cu leaf lb).2.1⟩]
def PT.Uy{q q0:QS}{A:Option Addr}{m c:Nat}{l:List E}(h:PT w w' I F q n K)(P:PQ w I F q0 n K0)(S:bm w 111 3 (U3 A m c) m (aL l)):bm w' 111 3 (U3 A m c) m (aL l):=by
 obtain⟨F',_,o,_⟩:=h;exact S.only o (λg hg=>by
  obtain⟨cs,B⟩:=Ci S g hg;exact P.jL B)
def PT.tq{q q0:QS}(T:TQ w tb I F q0 n K0)(h:PT w w' I F q n K):∃F',TQ w' tb I F' q n K/\ah F w w'/\∀g∈F',g∈F\/w.heap.size<=g:=by
 obtain⟨F',P,o,f⟩:=h;exact⟨F',⟨T.1.only o T.ne,P⟩,o,f⟩
def WE{q:QS}(h:TQ w tb I F q n K)(hK:K<=999999999900)(leaf:Bool)(A1:Option Addr)(m1 c1:Nat)(la:List E)(S1:bm w 111 3 (U3 A1 m1 c1) m1 (aL la))(A2:Option Addr)(m2 c2:Nat)(lb:List E)(S2:bm w 111 3 (U3 A2 m2 c2) m2 (aL lb))(Td:m1<=1000)(Lk:m2<=1000)(h0:0<m2):
  io prog 130 #[tp tb,bQ leaf A1 m1 c1,bQ leaf A2 m2 c2] w λe w'=>e=fd (U5 U6 (q.lk leaf la lb).2)/\PT w w' I F (q.lk leaf la lb).1 n (K+3):=by
 have Bh:=ag (i6 w (Pi #[WF leaf,U3 A1 m1 c1] 118)) (Pi #[WF leaf,U3 A2 m2 c2] 118);have O0:=xh Bh;have B1:=xh<|(aM.new w 118 #[WF leaf,U3 A1 m1 c1]).alloc (Pi #[WF leaf,U3 A2 m2 c2] 118);have B2:=aM.new (w.alloc (Pi #[WF leaf,U3 A1 m1 c1] 118)) 118 #[WF leaf,U3 A2 m2 c2];rw[ny]at B2;have B2:=xh B2
 have H0:=xh<|rx (h.below Bh) (rx (S1.below Bh) (S2.below Bh));have x0:=B1.ap 0;have x1:=B1.ap 1;have KM1:=xh<|zL H0.o.1 ls leaf A1 m1 c1 la H0.o.2.1 Td;have KM2:=xh (λ(W:BY) (F':List Nat) (qj:QS) (hW:TQ W tb I F' qj n (K+1)) (S:bm W 111 3 (U3 A2 m2 c2) m2 (aL lb))=>zL hW ls leaf A2 m2 c2 lb S Lk)
 have KW:=xh (λ(W:BY) (F':List Nat) (qj:QS) (hW:TQ W tb I F' qj n (K+2)) (g:Nat) (l:List E) (S:bm W 111 3 (U3 (lc g) 2 2) 2 (aL l))=>ra hW ls 0 false (some ⟨g,0,none⟩) 2 2 l S ls);have HL:=g9 (w.heap.size∉F/\w.heap.size+1∉F) ⟨λhm=>by have:=h.2.lt _ hm;omega,λhm=>by have:=h.2.lt _ hm;omega⟩;obtain⟨eb,rb,rfl⟩:∃e r,lb=e::r:=by
  have:=S2.1;rw[nu]at this
  cases lb with
  |nil=>simp at this;omega
  |cons e r=>exact⟨e,r,rfl⟩
 obtain⟨RR,cA⟩:∃RR,q.lk leaf la (eb::rb)=RR:=⟨_,rfl⟩;rw[cA];unfold QS.lk keyOf at cA;generalize q.cu leaf la=R1 at *;obtain⟨q1,l1,e1⟩:=R1;dsimp only[List.headD_cons]at *;have gI:=xh cA;clear h S1 S2 cA Bh;unfold tp bQ at *;go_in;go_wp2_with fail;go_call KM1.o as e w1 ⟨rfl,P1⟩;have S21:=xh<|P1.Uy H0.o.1.2 H0.o.2.2;obtain⟨F1,T1,o1,f1⟩:=P1.tq H0.o.1;have B21:=xh<|B2.o.only o1 HL.o.2
 have H1:=xh (show TQ w1 tb I F1 q1 n (K+1)/\ah F w w1/\(∀g∈F1,g∈F\/w.heap.size<=g)/\w.heap.size+1∉F1 from
  ⟨T1,(ah.aj O0.o).trans o1,λg hg=>(f1 g hg).imp id (λh=>by simp at h;omega),λhm=>(f1 _ hm).elim HL.o.2 (λh=>by rw[ny,ny]at h;omega)⟩)
 clear P1 T1 o1 f1 x0 x1
 by_cases OJ:e1=0
 .subst OJ;have y0:=B21.ap 0;have y1:=B21.ap 1;have K2:=xh<|KM2.o w1 F1 q1 H1.o.1 S21.o;have cA:=gI.o;rw[i8]at cA;generalize q1.cu leaf (eb::rb)=R2 at *;obtain⟨q2,l2,e2⟩:=R2;dsimp only at *;have gI:=xh cA;clear cA;go_wp2_with fail;go_call K2.o as e w2 ⟨rfl,P2⟩;have S22:=xh<|P2.Uy H1.o.1.2 S21.o;obtain⟨F2,T2,o2,f2⟩:=P2.tq H1.o.1;have B22:=xh<|B21.o.only o2 H1.o.2.2.2
  have H2:=xh (show TQ w2 tb I F2 q2 n (K+2)/\ah F w w2/\(∀g∈F2,g∈F\/w.heap.size<=g)from
   ⟨T2,H1.o.2.1.bj o2 (λg hg dP=>(H1.o.2.2.1 g hg).elim id (λh=>by omega)),λg hg=>(f2 g hg).elim (H1.o.2.2.1 g) (λh=>by have:=H1.o.2.1.size;omega)⟩)
  clear P2 T2 o2 f2 y0 y1
  by_cases vh:e2=0
  .subst vh;have cA:=gI.o;rw[i8]at cA;obtain⟨g2,cc2,Uf,rl,BB2,_,_⟩:=S22.o.form h0 ls;simp only[Value.slice.injEq,true_and]at rl;obtain⟨rfl,rfl⟩:=rl;have z1:=B22.ap 1;have k0:w2.cell? (lc g2)=some (U7 eb.key):=BB2.ae rfl;have ja:=i6 w2 (Pi #[U7 ⟨#[]⟩,U7 ⟨#[]⟩,l1,U7 eb.key,U7 ⟨#[]⟩,l2] 111)
   have SN:bm (w2.alloc (Pi #[U7 ⟨#[]⟩,U7 ⟨#[]⟩,l1,U7 eb.key,U7 ⟨#[]⟩,l2] 111)) 111 3 (U3 (lc w2.heap.size) 2 2) 2 (aL [⟨⟨#[]⟩,⟨#[]⟩,l1⟩,⟨eb.key,⟨#[]⟩,l2⟩]):=
    ⟨rfl,.inr ⟨w2.heap.size,2,[],rfl,aM.new w2 _ _,rfl,by unfold maxLen;omega⟩⟩
   have K3:=xh<|KW.o _ F2 q2 (H2.o.1.below ja) w2.heap.size _ SN;have h0I:(0:Int)<(m2:Int):=ls
   have HAL:=xh ja;clear BB2 ja SN;rw[cA]at K3;clear cA;go_wp2_with fail;go_call K3.o as e w3 ⟨rfl,P3,o3⟩;have H3:=g9 (PT w w3 I F RR.1 n (K+3)) ⟨F2,P3,(H2.o.2.1.trans (.aj HAL.o)).bj o3 (λg hg dP=>(H2.o.2.2 g hg).elim id (λh=>by omega)),H2.o.2.2⟩;clear P3 o3 z1 k0;go_wp2;go_ret;exact bz H3.o
  .have cA:=gI.o;rw[U8 vh]at cA;subst cA;have hq:(e2 != 0)=true:=lm vh
   have kP:(e2==0)=false:=i4 vh
   go_wp2;go_ret;exact bz ⟨F2,H2.o.1.2.le ls,H2.o.2.1,H2.o.2.2⟩
 .have cA:=gI.o;rw[U8 OJ]at cA;subst cA;have hq:(e1 != 0)=true:=lm OJ
  have kP:(e1==0)=false:=i4 OJ
  go_wp2;go_ret;exact bz ⟨F1,H1.o.1.2.le ls,H1.o.2.1,H1.o.2.2.1⟩
variable{g m cc b n K:Nat}{w W W':BY}{F F':List Nat}{I:Ix}{q:QS}
section
variable{w w':BY}{b:Nat}{v:Value}{L:List SM}{I:Ix}{F S:List Nat}{q:QS}{n K:Nat}
def bF.off(h:bF w b v L)(P:PQ w I F q n K):(∀g∈ak v,g∉F)/\∀x∈L,∀g∈ak x.v,g∉F:=
 ⟨λg hg=>by
  obtain⟨cs,B⟩:=Ci h.s g hg;exact P.jL B,λx hx g hg=>by
  obtain⟨cs,B⟩:=Ci (h.e x hx).1 g hg;exact P.jL B⟩
def bF.AS(h:bF w b v L)(P:PQ w I F q n K)(o:ah F w w'):bF w' b v L:=
 ⟨h.s.only o (h.off P).1,h.f,λx hx=>⟨(h.e x hx).1.only o ((h.off P).2 x hx),(h.e x hx).2⟩,h.d⟩
def bF.cell(h:bF w b (U3 (lc g) m cc) L){k:Nat}{Z:SM}(hz:L[k]?=some Z)(i:Nat)(hi:i<4):w.cell? ⟨g,k*4+i,none⟩=Z.cells[i]?:=by
 obtain⟨rest,B,_⟩:=h.s.ya;have hk:=(aW.1 hz).1;rw[B.cell,dr,bX (by rw[fX];omega)];exact uz hz i hi
def bF.tree{tb:Nat}{cs:Array Value}(h:bF w b v L)(B:aM w tb 130 cs):tb∉ak v/\∀x∈L,tb∉ak x.v:=
 ⟨eg h.s B ms,λx hx=>eg (h.e x hx).1 B ms⟩
def bF.pop{X:SM}(h:bF w b (U3 (lc g) m cc) (L++[X])):bF w b (U3 (lc g) L.length cc) L:=by
 obtain⟨rest,B,h1,_,h2⟩:=h.s.ya;rw[rO,cV]at B;have hl:(L.flatMap SM.cells).length+(([X]:List SM).flatMap SM.cells++rest).length=cc*4:=by
  rw[rO,bC]at h1;rw[bC];omega
 refine⟨⟨by rw[fX],.inr ⟨g,cc,_,rfl,B,hl,h2⟩⟩,λx hx=>h.f x (by simpa [ak]using hx),λx hx=>h.e x (cL _ hx),(eH.1 h.d).1⟩
def bF.put{Lp Ls:List SM}{Y:SM}(h:bF w b (U3 (lc g) m cc) (Lp++Y::Ls))(l':List E){A':Option Addr}{c':Nat}(S':bm w' 111 3 (U3 A' l'.length c') l'.length (aL l'))(o:ah (ak Y.v) w w')
 (f:∀x∈ak (U3 A' l'.length c'),x∈ak Y.v\/w.heap.size<=x)(hbw:b<=w.heap.size):
  bF (w'.setCell ⟨g,Lp.length*4+2,none⟩ (U3 A' l'.length c')) b (U3 (lc g) m cc) (Lp++⟨{Y.s with l:=l'},A',c'⟩::Ls)/\w'.cell? ⟨g,Lp.length*4+2,none⟩=some Y.v/\w'.frozen? ⟨g,Lp.length*4+2,none⟩=false:=by
 obtain⟨rest,B,h1,hm,h2⟩:=h.s.ya;have hY:=h.e Y lw;have hgY:g∉ak Y.v:=λhg=>nJ hY.1 h.s ms g hg (by simp[ak]);have B':=B.only o hgY;have hlen:(Lp++Y::Ls).length=(Lp++(⟨{Y.s with l:=l'},A',c'⟩:SM)::Ls).length:=lw
 have sE:(Lp++Y::Ls).flatMap SM.cells=Lp.flatMap SM.cells++(Y.cells++Ls.flatMap SM.cells):=by rw[rO,jg]
 have Jq:(((Lp++Y::Ls).flatMap SM.cells++rest).set (Lp.length*4+2) (U3 A' l'.length c'))=(Lp++(⟨{Y.s with l:=l'},A',c'⟩:SM)::Ls).flatMap SM.cells++rest:=by
  rw[sE,cV,tG _ _ (by rw[fX];omega),fX,show Lp.length*4+2-Lp.length*4=2 by omega,rO,jg];simp only[cV];rfl
 have hix:Lp.length*4+2<((Lp++Y::Ls).flatMap SM.cells++rest).toArray.size:=by
  have h4:Y.cells.length=4:=rfl;rw[sE];simp only[mh,bC,fX,h4];omega
 have BS:=B'.ct (Lp.length*4+2) (U3 A' l'.length c');rw[tF,Jq]at BS;have sd:∀Z∈Lp++Ls,∀x∈ak Z.v,x∉ak Y.v:=λZ hZ x hx hy=>by
  have hd:=eH.1 h.d
  rcases aK.1 hZ with hZ|hZ
  .exact hd.2.2 Z hZ Y lw x hx hy
  .exact(eT.1 hd.2.1).1 Z hZ x hy hx
 have lt:∀Z∈Lp++Ls,∀x∈ak Z.v,x<w.heap.size:=λZ hZ=>(h.e Z (by rcases aK.1 hZ with hZ|hZ<;>simp[hZ])).1.lt;have sn:∀Z∈Lp++Ls,∀x∈ak Z.v,x∉ak (U3 A' l'.length c'):=λZ hZ x hx hy=>by
  rcases f x hy with h3|h3
  .exact sd Z hZ x hx h3
  .have:=lt Z hZ x hx;omega
 have og:ah [g] w' (w'.setCell ⟨g,Lp.length*4+2,none⟩ (U3 A' l'.length c')):=(ah.refl _ _).setCell lw _;have rC:∀Z∈Lp++Ls,bm (w'.setCell ⟨g,Lp.length*4+2,none⟩ (U3 A' l'.length c')) 111 3 Z.v Z.s.l.length (aL Z.s.l)/\∀x∈ak Z.v,b<=x:=λZ hZ=>by
  have hz:=h.e Z (by rcases aK.1 hZ with hZ|hZ<;>simp[hZ]);have s1:=hz.1.only o (sd Z hZ);exact⟨s1.only og (λx hx hg=>eg s1 B' ms (by rw[<-aG.1 hg];exact hx)),hz.2⟩
 refine⟨⟨⟨?_,?_⟩,λx hx=>h.f x (by simpa [ak]using hx),λZ hZ=>?_,?_⟩,?_,B'.frozen _ hix⟩
 .rw[<-hlen,fX,<-hlen]
 .rw[<-hlen,hm];refine .inr ⟨g,cc,rest,rfl,BS,?_,h2⟩;rw[fX]at h1 ⊢;rw[<-hlen];exact h1
 .rcases aK.1 hZ with hZ|hZ
  .exact rC Z (cL _ hZ)
  .rcases ax.1 hZ with rfl|hZ
   .exact⟨S'.only og (λx hx hg=>eg S' B' ms (by rw[<-aG.1 hg];exact hx)),λx hx=>(f x hx).elim (hY.2 x) (λh=>by omega)⟩
   .exact rC Z (cv _ hZ)
 .have hd:=eH.1 h.d;rw[eH];refine⟨hd.1,eT.2 ⟨λZ hZ x hx hy=>sn Z (cv _ hZ) x hy hx,(eT.1 hd.2.1).2⟩,λZ hZ W hW=>?_⟩
  rcases ax.1 hW with rfl|hW
  .exact sn Z (cL _ hZ)
  .exact hd.2.2 Z hZ W (aH _ hW)
 .refine B'.ae ?_;rw[sE,dr,cV,eC (by rw[fX];omega),fX,show Lp.length*4+2-Lp.length*4=2 by omega];rfl
end
def dX:Nat->List Step->QS->QS×Int
 |0,_,q=>(q,0)
 |_+1,[],q=>(q,0)
 |m+1,x::up,q=>
  if(q.bg x.au x.leaf x.l).2≠11\/(bM x.leaf x.l).2=0 then q.bg x.au x.leaf x.l
  else match up with
   |[]=>(q.bg x.au x.leaf x.l).1.lk x.leaf (x.l.take (aZ x.l)) (x.l.drop (aZ x.l))
   |y::up=>
    if((q.bg x.au x.leaf x.l).1.cu x.leaf (x.l.drop (aZ x.l))).2.2≠0 then(((q.bg x.au x.leaf x.l).1.cu x.leaf (x.l.drop (aZ x.l))).1,((q.bg x.au x.leaf x.l).1.cu x.leaf (x.l.drop (aZ x.l))).2.2)
    else if(((q.bg x.au x.leaf x.l).1.cu x.leaf (x.l.drop (aZ x.l))).1.bg x.au x.leaf (x.l.take (aZ x.l))).2≠0 then((q.bg x.au x.leaf x.l).1.cu x.leaf (x.l.drop (aZ x.l))).1.bg x.au x.leaf (x.l.take (aZ x.l))
    else dX m ({y with l:=y.l.insertIdx (y.at_+1) ⟨keyOf (x.l.drop (aZ x.l)),⟨#[]⟩,((q.bg x.au x.leaf x.l).1.cu x.leaf (x.l.drop (aZ x.l))).2.1⟩}::up)
     (((q.bg x.au x.leaf x.l).1.cu x.leaf (x.l.drop (aZ x.l))).1.bg x.au x.leaf (x.l.take (aZ x.l))).1
def PB(b:Nat)(w w':BY)(I:Ix)(F:List Nat)(q:QS)(n K:Nat):Prop:= ∃F' S,PQ w' I F' q n K/\ah S w w'/\(∀g∈S,g∈F\/b<=g)/\∀g∈F',g∈F\/b<=g
def OB(b:Nat)(w W:BY)(F F':List Nat):Prop:= ∃S,ah S w W/\(∀g∈S,g∈F\/b<=g)/\∀g∈F',g∈F\/b<=g
def OB.refl(b:Nat)(w:BY)(F:List Nat):OB b w w F F:=⟨[],ah.refl _ _,lw,λ_ h=> .inl h⟩
def OB.step{F'':List Nat}(h:OB b w W F F')(hb:b<=w.heap.size)(o:ah F' W W')(f:∀g∈F'',g∈F'\/W.heap.size<=g):OB b w W' F F'':=by
 obtain⟨S,a1,a2,a3⟩:=h;refine⟨S++F',(a1.mono (λg hg _=>cL _ hg)).bj o (λg hg _=>cv _ hg),λg hg=>(aK.1 hg).elim (a2 g) (a3 g),λg hg=>(f g hg).elim (a3 g) (λh=> .inr (by have:=a1.size;omega))⟩
def OB.own{S:List Nat}(h:OB b w W F F')(o:ah S W W')(f:∀g∈S,b<=g):OB b w W' F F':=by
 obtain⟨T,a1,a2,a3⟩:=h;exact⟨T++S,(a1.mono (λg hg _=>cL _ hg)).bj o (λg hg _=>cv _ hg),λg hg=>(aK.1 hg).elim (a2 g) (λh=> .inr (f g h)),a3⟩
def OB.below(h:OB b w W F F')(hb:i7 W W'):OB b w W' F F':=h.own (S:=[]) (.aj hb) lw
def OB.pb(h:OB b w W F F')(P:PQ W I F' q n K):PB b w W I F q n K:=by
 obtain⟨S,a1,a2,a3⟩:=h;exact⟨F',S,P,a1,a2,a3⟩
def OB.size(h:OB b w W F F'):w.heap.size<=W.heap.size:=by
 obtain⟨S,a1,_⟩:=h;exact a1.size
def OB.trans(h:OB b w W F F')(p:PB b W W' I F' q n K):PB b w W' I F q n K:=by
 obtain⟨S,a1,a2,a3⟩:=h;obtain⟨F2,S2,P,b1,b2,b3⟩:=p;refine⟨F2,S++S2,P,(a1.mono (λg hg _=>cL _ hg)).bj b1 (λg hg _=>cv _ hg),λg hg=>(aK.1 hg).elim (a2 g) (λh=>(b2 g h).elim (a3 g) .inr),λg hg=>(b3 g hg).elim (a3 g) .inr⟩
def PB.le{K':Nat}(h:PB b w W I F q n K)(hk:K<=K'):PB b w W I F q n K':=by
 obtain⟨F',S,P,r⟩:=h;exact⟨F',S,P.le hk,r⟩
def AU:∀(m:Nat) {w:BY} {tb:Nat} {I:Ix} {F:List Nat} {q:QS} {n Kz b:Nat} {v:Value} {L:List SM} (pre:List Step) (x:Step),pre.length+1<=m->TQ w tb I F q n Kz->Kz+4*m<=999999999900->bF w b v L->b<=w.heap.size->L.map SM.s=pre++[x]->(∀s∈pre,Fit s)->ML x.l->pre.length<=16->
  io prog 75 #[tp tb,v] w λe w'=>e=fd (U5 U6 (dX m (x::pre.reverse) q).2)/\PB b w w' I F (dX m (x::pre.reverse) q).1 n (Kz+4*m)
 |0,_,_,_,_,_,_,_,_,_,_,_,_,h,_,_,_,_,_,_,_,_=>eq h ls
 |m+1,w,tb,I,F,q,n,Kz,b,v,L,pre,x,hpm,h,hKz,SA,hb,qf,uN,hlx,hp16=>by
  obtain⟨Lp,A,c,g,cc,hL,mV,rfl,hbg,Ku,rS,iO,Xw,S1,f1⟩:=SA.last qf;have HL:=xh hL;have S1:=xh S1;have HK:=xh hKz;have Jt:w.cell? ⟨g,pre.length*4,none⟩=some (x.au:li):=iO 0 ls;have hx1:w.cell? ⟨g,pre.length*4+1,none⟩=some (WF x.leaf):=iO 1 ls;have Ou:w.cell? ⟨g,pre.length*4+2,none⟩=some (U3 A x.l.length c):=iO 2 ls;have hx3:w.cell? ⟨g,pre.length*4+3,none⟩=some ((x.at_:Nat):li):=iO 3 ls
  have s1:U6.wrap (((pre.length+1:Nat):Int)-1)=(pre.length:Int):=by rw[show((pre.length+1:Nat):Int)-1=(pre.length:Int) by omega];exact d9
  have s2:(pre.length:Int)<((pre.length+1:Nat):Int):=ls
  have ja:=i6 w (Pi #[x.au,WF x.leaf,U3 A x.l.length c,(x.at_:Nat)] 120);have BS:=xh<|aM.new w 120 #[x.au,WF x.leaf,U3 A x.l.length c,(x.at_:Nat)];have y0:=BS.ap 0;have y1:=BS.ap 1;have y2:=BS.ap 2
  have H1:=g9 (TQ _ tb I F q n Kz/\bF _ b (U3 (lc g) (pre.length+1) cc) L/\bm _ 111 3 (U3 A x.l.length c) x.l.length (aL x.l)/\OB b w _ F F) ⟨h.below ja,SA.below ja,S1.o.below ja,(OB.refl b w F).below ja⟩
  have KW:=xh (λ(W:BY) (F':List Nat) (qj:QS) (Kj:Nat) (hW:TQ W tb I F' qj n Kj) (hk:Kj<=999999999900) (A:Option Addr) (mm c:Nat) (l:List E) (S:bm W 111 3 (U3 A mm c) mm (aL l)) (hm:mm<=1000)=>ra hW ls x.au x.leaf A mm c l S hm);have vP:=xh uN;have HPM:=xh hpm;have HP16:=xh hp16;have HPRE:=xh mV;have HLX:=xh hlx;have oF:=hlx.1;obtain⟨RR,cA⟩:∃RR,dX (m+1) (x::pre.reverse) q=RR:=⟨_,rfl⟩;rw[cA];unfold dX at cA
  have gI:=xh cA;clear cA h SA qf uN mV hlx iO Xw f1 hL ja;have K1:=xh<|KW.o _ F q Kz H1.o.1 ls A x.l.length c x.l H1.o.2.2.1 ls;have hwr:(q.bg x.au x.leaf x.l).2=11->(bM x.leaf x.l).2≠0->2<=x.l.length:=λh1 h2=>ZF h2 (λh3=>by unfold QS.bg at h1;rw[U8 h2,h3]at h1;exact eq h1 (by show(2:Int)≠11;decide)) HLX.o;generalize q.bg x.au x.leaf x.l=R at *;obtain⟨q1,e1⟩:=R;dsimp only at *;have HWR:=xh hwr
  clear hwr;unfold tp bQ at *;go_in;go_wp2_with fail;go_call K1.o as e w2 ⟨rfl,P2,o2⟩;have B2:=xh<|BS.o.only o2 (H1.o.1.2.jL BS.o);have H2:=xh (show TQ w2 tb I F q1 n (Kz+1)/\bF w2 b (U3 (lc g) (pre.length+1) cc) L/\bm w2 111 3 (U3 A x.l.length c) x.l.length (aL x.l)/\OB b w w2 F F from
   ⟨H1.o.1.next o2 P2,H1.o.2.1.AS H1.o.1.2 o2,PT.Uy (.self P2 o2) H1.o.1.2 H1.o.2.2.1,H1.o.2.2.2.step hb o2 (λg hg=> .inl hg)⟩)
  clear P2 o2 y0 y1 y2 Jt hx1 Ou hx3;have z0:=B2.ap 0;have z1:=B2.ap 1;have z2:=B2.ap 2
  by_cases he:e1=11
  .subst he;obtain⟨bb,Bd⟩:∃bb,bb=decide ((bM x.leaf x.l).2=0):=⟨_,rfl⟩;have KF:=xh<|VL (w:=w2) x.leaf A x.l.length c x.l H2.o.2.2.1 ls bb Bd;unfold bQ at KF;have HBB:=xh Bd;clear Bd;go_wp2_with fail;go_call KF.o as e w3 ⟨rfl,gK⟩;have B3:=xh<|B2.o.below gK B2.o.lt
   have H3:=g9 (TQ w3 tb I F q1 n (Kz+1)/\bF w3 b (U3 (lc g) (pre.length+1) cc) L/\bm w3 111 3 (U3 A x.l.length c) x.l.length (aL x.l)/\OB b w w3 F F) ⟨H2.o.1.below gK,H2.o.2.1.below gK,H2.o.2.2.1.below gK,H2.o.2.2.2.below gK⟩;clear gK z0 z1 z2;have z0:=B3.ap 0;have z1:=B3.ap 1;have z2:=B3.ap 2
   cases bb
   .have sE:(bM x.leaf x.l).2≠0:=by have:=HBB.o;simpa using this.symm
    have h2l:=HWR.o (by trivial) sE;have HLT3:=g9 (∀Z∈L,∀g∈ak Z.v,g<w3.heap.size) (λZ hZ=>(H3.o.2.1.e Z hZ).1.lt);have KH:=xh<|Nd.QW (w:=w3) x.leaf A x.l.length c x.l H3.o.2.2.1 h2l ls (MM HLX.o);unfold bQ at KH;have cA:=gI.o;rw[U9 (by simp[sE])]at cA;have gI:=xh cA;clear cA HWR;go_wp2_with fail;go_call KH.o as e w4 ⟨⟨t,A1,c1,A2,c2,rfl,Ug,SL1,SL2,Cc⟩,iZ⟩;obtain rfl:aZ x.l=t:=Nd.TE Ug
    have HF2:=xh Cc;clear Cc;have hb12:1<=aZ x.l/\aZ x.l<x.l.length:=⟨Ug.1,Ug.2.1⟩;clear Ug;have ja:=ag (i6 w4 (Pi #[WF x.leaf,U3 A1 (aZ x.l) c1] 118)) (Pi #[WF x.leaf,U3 A2 (x.l.length-aZ x.l) c2] 118);have oQ:=aE iZ ja;have BA:=xh<|(aM.new w4 118 #[WF x.leaf,U3 A1 (aZ x.l) c1]).alloc (Pi #[WF x.leaf,U3 A2 (x.l.length-aZ x.l) c2] 118)
    have bB:=aM.new (w4.alloc (Pi #[WF x.leaf,U3 A1 (aZ x.l) c1] 118)) 118 #[WF x.leaf,U3 A2 (x.l.length-aZ x.l) c2];rw[ny]at bB;have BB:=xh bB;have B5:=xh<|B3.o.below oQ B3.o.lt
    have H5:=xh (show TQ _ tb I F q1 n (Kz+1)/\bF _ b (U3 (lc g) (pre.length+1) cc) L/\OB b w _ F F/\bm _ 111 3 (U3 A1 (aZ x.l) c1) (aZ x.l) (aL (x.l.take (aZ x.l)))/\bm _ 111 3 (U3 A2 (x.l.length-aZ x.l) c2) (x.l.length-aZ x.l) (aL (x.l.drop (aZ x.l)))from
     ⟨H3.o.1.below oQ,H3.o.2.1.below oQ,H3.o.2.2.2.below oQ,SL1.below ja,SL2.below ja⟩)
    have u0:=BA.ap 0;have u1:=BA.ap 1;have v0:=BB.ap 0;have v1:=BB.ap 1;clear z0 z1 z2 bB iZ oQ ja SL1 SL2 H3 B3;generalize aZ x.l=hf at *
    rcases vk pre with rfl|⟨fE,y,hpe⟩
    .have KG:=xh<|WE H5.o.1 ls x.leaf A1 hf c1 (x.l.take hf) H5.o.2.2.2.1 A2 (x.l.length-hf) c2 (x.l.drop hf) H5.o.2.2.2.2 ls ls ls;have cA:=gI.o;dsimp only[List.reverse_nil]at cA;rw[cA]at KG;unfold bQ at KG;clear cA;go_wp2_with fail;go_call KG.o as e w6 ⟨rfl,P6⟩;have P6:=xh P6;clear u0 u1 v0 v1;go_wp2;go_ret;refine⟨by first|rfl|simp,?_⟩;obtain⟨F6,P,o,f⟩:=P6.o
     exact((H5.o.2.2.1.step hb o f).pb P).le ls
    .obtain rfl:pre=fE++[y]:=by simpa using hpe
     clear hpe;have tQ:(fE++[y]).length=fE.length+1:=lw
     have hne1:¬(((fE.length+1+1:Nat):Int)=1):=ls
     have KM:=xh<|zL H5.o.1 ls x.leaf A2 (x.l.length-hf) c2 (x.l.drop hf) H5.o.2.2.2.2 ls;have cA:=gI.o;rw[List.reverse_append,List.reverse_singleton,wG]at cA;dsimp only at cA;generalize q1.cu x.leaf (x.l.drop hf)=R2 at *;obtain⟨q2,l2,e2⟩:=R2;dsimp only at *;have gI:=xh cA;unfold bQ at KM;clear cA;go_wp2_with fail;go_call KM.o as e w6 ⟨rfl,P6⟩;have SA6:=P6.Uy H5.o.1.2 H5.o.2.2.2.1
     have SB6:=P6.Uy H5.o.1.2 H5.o.2.2.2.2;obtain⟨F6,T6,o6,f6⟩:=P6.tq H5.o.1;have A6:=xh<|BA.o.only o6 (H5.o.1.2.jL BA.o);have B6:=xh<|BB.o.only o6 (H5.o.1.2.jL BB.o);have D6:=xh<|B5.o.only o6 (H5.o.1.2.jL B5.o)
     have H6:=xh (show TQ w6 tb I F6 q2 n (Kz+2)/\bF w6 b (U3 (lc g) ((fE++[y]).length+1) cc) L/\OB b w w6 F F6/\bm w6 111 3 (U3 A1 hf c1) hf (aL (x.l.take hf))/\bm w6 111 3 (U3 A2 (x.l.length-hf) c2) (x.l.length-hf) (aL (x.l.drop hf))from
      ⟨T6,H5.o.2.1.AS H5.o.1.2 o6,H5.o.2.2.1.step hb o6 f6,SA6,SB6⟩)
     clear P6 SA6 SB6 T6 o6 f6 u0 u1 v0 v1 BA BB B5
     by_cases vh:e2=0
     .subst vh;have cA:=gI.o;rw[i8]at cA;have K7:=xh<|KW.o w6 F6 q2 (Kz+2) H6.o.1 ls A1 hf c1 (x.l.take hf) H6.o.2.2.2.1 ls;generalize q2.bg x.au x.leaf (x.l.take hf)=R3 at *;obtain⟨q3,e3⟩:=R3;dsimp only at *;have gI:=xh cA;have z0:=D6.ap 0;have u0:=A6.ap 0;have u1:=A6.ap 1;clear cA;go_wp2_with fail;go_call K7.o as e w7 ⟨rfl,P7,o7⟩
      have B7:=xh<|B6.o.only o7 (H6.o.1.2.jL B6.o);have H7:=xh (show TQ w7 tb I F6 q3 n (Kz+3)/\bF w7 b (U3 (lc g) ((fE++[y]).length+1) cc) L/\OB b w w7 F F6/\bm w7 111 3 (U3 A2 (x.l.length-hf) c2) (x.l.length-hf) (aL (x.l.drop hf))from
       ⟨H6.o.1.next o7 P7,H6.o.2.1.AS H6.o.1.2 o7,H6.o.2.2.1.step hb o7 (λg hg=> .inl hg),PT.Uy (.self P7 o7) H6.o.1.2 H6.o.2.2.2.2⟩)
      clear P7 o7 z0 u0 u1 A6 B6 D6
      by_cases he3:e3=0
      .subst he3;obtain⟨yi,AY,cY,rfl,RN⟩:∃yi AY cY,Lp=yi++[(⟨y,AY,cY⟩:SM)]/\yi.map SM.s=fE:=by
        have:=HPRE.o
        rcases vk Lp with h0|⟨yi,Y,h0⟩
        .rw[h0]at this;simp at this
        .have h0:Lp=yi++[Y]:=by simpa using h0
         rw[h0,eS]at this;obtain⟨a1,a2⟩:=OT this rfl;obtain⟨ys,AY,cY⟩:=Y;simp at a2;subst a2;exact⟨yi,AY,cY,h0,a1⟩
       have hLL:yi.length=fE.length:=by rw[<-RN,eZ]
       have yf:=xh hLL;have HMP:=xh RN;have hHL:=HL.o;rw[cV,wG]at hHL;have hfy:=vP.o y lw;have hya:=hfy.a;have hyn:=hfy.n;have HFY:=xh hfy;obtain⟨eb,rb,NJ⟩:∃eb rb,x.l.drop hf=eb::rb:=by
        cases hd:x.l.drop hf with
        |nil=>have:=congrArg List.length hd;rw[ef]at this;simp at this;omega
        |cons e r=>exact⟨e,r,rfl⟩
       obtain⟨g2,cc2,Uf,rl,BB2,_,_⟩:=H7.o.2.2.2.form ls ls;simp only[Value.slice.injEq,true_and]at rl;obtain⟨rfl,rfl⟩:=rl;rw[NJ]at BB2;have cA:=gI.o;rw[i8,NJ]at cA;have gI:=xh cA
       have H8:=xh (show TQ w7.drew tb I F6 q3 n (Kz+3)/\bF w7.drew b (U3 (lc g) ((fE++[y]).length+1) cc) (yi++⟨y,AY,cY⟩::[⟨x,A,c⟩])/\OB b w w7.drew F F6/\aM w7.drew (w4.heap.size+1) 118 #[WF x.leaf,U3 (lc g2) (x.l.length-hf) c2]/\aM w7.drew g2 111 (aL (eb::rb)++Uf).toArray from
        ⟨H7.o.1.drew,by have:=H7.o.2.1;rw[hHL]at this;exact this.below (Below.refl _ _).drew,H7.o.2.2.1.below (Below.refl _ _).drew,B7.o.drew,BB2.drew⟩)
       have HB8:=g9 (b<=w7.drew.heap.size) (by have:=H7.o.2.2.1.size;show b<=w7.heap.size;omega);have HNY:=g9 (g2∉ak (U3 AY y.l.length cY)) (λhm=>by have h1:=HF2.o g2 (by simp[ak]);have h2:=HLT3.o ⟨y,AY,cY⟩ (by rw[hHL];simp) g2 hm;omega);generalize w4.heap.size+1=gB at *;have s3:U6.wrap (((fE.length+1+1:Nat):Int)-2)=(fE.length:Int):=by rw[show((fE.length+1+1:Nat):Int)-2=(fE.length:Int) by omega];exact d9
       have s4:(fE.length:Int)<((fE.length+1+1:Nat):Int):=ls
       have s5:U6.wrap ((y.at_:Int)+1)=((y.at_+1:Nat):Int):=by rw[show(y.at_:Int)+1=((y.at_+1:Nat):Int) by omega];exact d9
       have s7:0<x.l.length-hf:=ls
       have s6:(0:Int)<((x.l.length-hf:Nat):Int):=ls
       have HDR:=xh NJ;clear BB2 NJ cA H7 hHL RN hLL hfy;go_wp2_with fail;obtain⟨w8,NN⟩:∃w8,w7.drew=w8:=⟨_,rfl⟩;rw[NN]at H8 HB8;have HS:=xh (show ∀W,i7 w8 W->(λW=>W.cell? ⟨g,fE.length*4+3,none⟩=some ((y.at_:Nat):li)/\W.cell? ⟨gB,1,none⟩=some (U3 (lc g2) (x.l.length-hf) c2)/\W.cell? (lc g2)=some (U7 eb.key)) W from λW hb=>by
        have h1:=(H8.o.2.1.below hb).cell (k:=yi.length) (Z:=⟨y,AY,cY⟩) (by rw[eC (ai _),ik];rfl) 3 ls;rw[yf.o]at h1;exact⟨h1,(H8.o.2.2.2.1.below hb H8.o.2.2.2.1.lt).ae (i:=1) rfl,(H8.o.2.2.2.2.below hb H8.o.2.2.2.2.lt).ae (i:=0) rfl⟩)
       have KS8:=xh<|HS.o w8 (Below.refl _ _);have x8:w8.cell? ⟨g,fE.length*4+2,none⟩=some (U3 AY y.l.length cY):=by
        have h1:=H8.o.2.1.cell (k:=yi.length) (Z:=⟨y,AY,cY⟩) (by rw[eC (ai _),ik];rfl) 2 ls;rw[yf.o]at h1;exact h1
       obtain⟨w9,hw9⟩:∃w9,w8.alloc (Pi #[U7 eb.key,U7 ⟨#[]⟩,l2] 111)=w9:=⟨_,rfl⟩;have mW:i7 w8 w9:=by rw[<-hw9];exact i6 _ _
       have BN9:aM w9 w8.heap.size 111 #[U7 eb.key,U7 ⟨#[]⟩,l2]:=by rw[<-hw9];exact aM.new _ _ _
       have BZ9:w9.frozen? ⟨w8.heap.size,3,none⟩=false:=by rw[<-hw9];exact World.frozen?_alloc_at (w:=w8) _ _ w8.heap.size 3 rfl
       have KS9:=xh<|HS.o w9 mW;have x9:w9.cell? ⟨g,fE.length*4+2,none⟩=some (U3 AY y.l.length cY):=(mW.cell (p:=⟨g,fE.length*4+2,none⟩) (dU x8)).trans x8;have H9:=xh (show TQ w9 tb I F6 q3 n (Kz+3)/\bF w9 b (U3 (lc g) ((fE++[y]).length+1) cc) (yi++⟨y,AY,cY⟩::[⟨x,A,c⟩])/\OB b w w9 F F6/\aM w9 gB 118 #[WF x.leaf,U3 (lc g2) (x.l.length-hf) c2]/\aM w9 g2 111 (aL (eb::rb)++Uf).toArray from
        ⟨H8.o.1.below mW,H8.o.2.1.below mW,H8.o.2.2.1.below mW,H8.o.2.2.2.1.below mW H8.o.2.2.2.1.lt,H8.o.2.2.2.2.below mW H8.o.2.2.2.2.lt⟩)
       have HB9:=g9 (b<=w9.heap.size) (aD HB8.o mW.size);have RP:=xh (show(y.l.insertIdx (y.at_+1) (⟨eb.key,⟨#[]⟩,l2⟩:E)).length=y.l.length+1 from by rw[I1,g8]);have SY:=H9.o.2.1.e ⟨y,AY,cY⟩ lw
       have KI:=xh<|Nd.AE (w:=w9) SY.1 ⟨eb.key,⟨#[]⟩,l2⟩ (g2:=w8.heap.size) (cc:=1) BN9 (show y.l.length<=100000 by omega) (λhm=>by have:=(H8.o.2.1.e ⟨y,AY,cY⟩ lw).1.lt _ hm;omega) (y.at_+1) (show y.at_+1<=y.l.length by omega) BZ9
       have yG:=xh (show ∀W,ah (ak (U3 AY y.l.length cY)) w9 W->(λW=>W.cell? ⟨g,fE.length*4+3,none⟩=some ((y.at_:Nat):li)/\W.cell? ⟨gB,1,none⟩=some (U3 (lc g2) (x.l.length-hf) c2)/\W.cell? (lc g2)=some (U7 eb.key)) W from λW o=>by
        have hgY:g∉ak (U3 AY y.l.length cY):=λhm=>nJ SY.1 H9.o.2.1.s ms g hm (by simp[ak]);obtain⟨k1,k2,k3⟩:=KS9.o;exact⟨(o.cell (p:=⟨g,fE.length*4+3,none⟩) (dU k1) hgY).trans k1,(H9.o.2.2.2.1.only o (eg SY.1 H9.o.2.2.2.1 ms)).ae (i:=1) rfl,(H9.o.2.2.2.2.only o HNY.o).ae (i:=0) rfl⟩)
       clear SY BN9 BZ9 mW;refine kw (λW=>W.cell? ⟨g,fE.length*4+3,none⟩=some ((y.at_:Nat):li)/\W.cell? ⟨gB,1,none⟩=some (U3 (lc g2) (x.l.length-hf) c2)/\W.cell? (lc g2)=some (U7 eb.key)) (by rw[NN];exact KS8.o) (λaC=>?_);rw[NN];clear NN;refine dj [(0,67),(1,68),(2,69),(3,70),(4,71),(6,73),(7,74),(8,75),(9,76),(10,77),(11,78),(12,79),(13,80),(14,81),(15,82),(16,83),(17,84)] ?_
       iterate 17 refine bJ ?_
       refine wpAnyH_ready (rs:=[5,18]) pm lw ?_;refine AllReadyH.cons (o:=⟨some 72,_,_,_,_,_⟩) rfl (λK hK=>?_) (AllReadyH.cons (o:=⟨some 85,_,_,_,_,_⟩) rfl (λK hK=>?_) AllReadyH.nil)
       focus
        go_simp;refine cq hK (KS8.o) (λaC=>?_);refine dV 18 85 λK hK=>?_;go_simp;refine cq hK (KS9.o) (λaC=>?_);refine dV 19 86 λK hK=>?_;go_simp
        go_at_call 74
        go_call KI.o as e yd ⟨A',c',rfl,Gq,xV,f10⟩;have Gq:=xh Gq;have xV:=xh xV;have f10:=xh f10;have RQ:=xh<|yG.o yd xV.o;go_simp;refine cq hK (RQ.o) (λaC=>?_);refine dj [(20,87),(21,88),(22,89)] ?_
        iterate 3 refine bJ ?_
        refine pF 23 λK hK=>?_;go_simp;obtain⟨SP,sx,sz⟩:=H9.o.2.1.put (y.l.insertIdx (y.at_+1) ⟨eb.key,⟨#[]⟩,l2⟩) (A':=A') (c':=c') (by rw[RP.o];exact Gq.o) xV.o (by rw[RP.o];exact f10.o) HB9.o;rw[yf.o]at SP sx sz;rw[RP.o]at SP;have SP:=xh SP;have sx:yd.cell? ⟨g,fE.length*4+2,none⟩=some (U3 AY y.l.length cY):=sx
        have JJ:=g9 (ah (g::ak (U3 AY y.l.length cY)) w9 (yd.setCell ⟨g,fE.length*4+2,none⟩ (U3 A' (y.l.length+1) c'))) ((xV.o.mono (λx hx _=>aH _ hx)).setCell lw _);have SY9:=(H9.o.2.1.e ⟨y,AY,cY⟩ lw).1;have Cm:=SP.o.cell (k:=yi.length) (Z:=⟨{y with l:=y.l.insertIdx (y.at_+1) ⟨eb.key,⟨#[]⟩,l2⟩},A',c'⟩) (by rw[eC (ai _),ik];rfl) 3 ls;rw[yf.o]at Cm
        have Ki:=xh<|rx Cm (rx (((H9.o.2.2.2.1.only xV.o (eg SY9 H9.o.2.2.2.1 ms)).bh (p:=⟨g,fE.length*4+2,none⟩) (λe=>eg H9.o.2.1.s H9.o.2.2.2.1 ms (by simp[ak];exact e)) (U3 A' (y.l.length+1) c')).ae (i:=1) rfl) (((H9.o.2.2.2.2.only xV.o HNY.o).bh (p:=⟨g,fE.length*4+2,none⟩) (λe=>eg H9.o.2.1.s H9.o.2.2.2.2 ms (by simp[ak];exact e)) (U3 A' (y.l.length+1) c')).ae (i:=0) rfl))
        clear SY9 Cm;go_simp;refine cq hK (Ki.o) (λaC=>?_)
       rotate_left
       focus
        go_simp;refine cq hK (KS9.o) (λaC=>?_);refine dV 5 72 λK hK=>?_;go_simp;refine cq hK (KS9.o) (λaC=>?_);refine dV 19 86 λK hK=>?_;go_simp
        go_at_call 74
        go_call KI.o as e yd ⟨A',c',rfl,Gq,xV,f10⟩;have Gq:=xh Gq;have xV:=xh xV;have f10:=xh f10;have RQ:=xh<|yG.o yd xV.o;go_simp;refine cq hK (RQ.o) (λaC=>?_);refine dj [(20,87),(21,88),(22,89)] ?_
        iterate 3 refine bJ ?_
        refine pF 23 λK hK=>?_;go_simp;obtain⟨SP,sx,sz⟩:=H9.o.2.1.put (y.l.insertIdx (y.at_+1) ⟨eb.key,⟨#[]⟩,l2⟩) (A':=A') (c':=c') (by rw[RP.o];exact Gq.o) xV.o (by rw[RP.o];exact f10.o) HB9.o;rw[yf.o]at SP sx sz;rw[RP.o]at SP;have SP:=xh SP;have sx:yd.cell? ⟨g,fE.length*4+2,none⟩=some (U3 AY y.l.length cY):=sx
        have JJ:=g9 (ah (g::ak (U3 AY y.l.length cY)) w9 (yd.setCell ⟨g,fE.length*4+2,none⟩ (U3 A' (y.l.length+1) c'))) ((xV.o.mono (λx hx _=>aH _ hx)).setCell lw _);have SY9:=(H9.o.2.1.e ⟨y,AY,cY⟩ lw).1;have Cm:=SP.o.cell (k:=yi.length) (Z:=⟨{y with l:=y.l.insertIdx (y.at_+1) ⟨eb.key,⟨#[]⟩,l2⟩},A',c'⟩) (by rw[eC (ai _),ik];rfl) 3 ls;rw[yf.o]at Cm
        have Ki:=xh<|rx Cm (rx (((H9.o.2.2.2.1.only xV.o (eg SY9 H9.o.2.2.2.1 ms)).bh (p:=⟨g,fE.length*4+2,none⟩) (λe=>eg H9.o.2.1.s H9.o.2.2.2.1 ms (by simp[ak];exact e)) (U3 A' (y.l.length+1) c')).ae (i:=1) rfl) (((H9.o.2.2.2.2.only xV.o HNY.o).bh (p:=⟨g,fE.length*4+2,none⟩) (λe=>eg H9.o.2.1.s H9.o.2.2.2.2 ms (by simp[ak];exact e)) (U3 A' (y.l.length+1) c')).ae (i:=0) rfl))
        clear SY9 Cm;go_simp;refine cq hK (Ki.o) (λaC=>?_)
       rotate_left
       all_goals
        refine jp ?_ _;go_wp2_with fail;have hT:TQ (yd.setCell ⟨g,fE.length*4+1+1,none⟩ (U3 A' (y.l.length+1) c')) tb I F6 q3 n (Kz+3):=by
         have tx:=H9.o.2.1.off H9.o.1.2;have Kk:=H9.o.2.1.tree H9.o.1.1;exact H9.o.1.only JJ.o (λz hz hm=>by
          rcases ax.1 hz with h1|h1<;>rcases ax.1 hm with h2|h2
          .exact Kk.1 (by rw[<-h1,h2];simp[ak])
          .exact Kk.2 ⟨y,AY,cY⟩ lw (by rw[<-h1];exact h2)
          .exact tx.1 z (by rw[h2];simp[ak]) h1
          .exact tx.2 ⟨y,AY,cY⟩ lw z h2 h1)
        have hO:OB b w (yd.setCell ⟨g,fE.length*4+1+1,none⟩ (U3 A' (y.l.length+1) c')) F F6:=H9.o.2.2.1.own JJ.o (λz hz=>by
         rcases ax.1 hz with h2|h2
         .rw[h2];exact H9.o.2.1.f g (by simp[ak])
         .exact(H9.o.2.1.e ⟨y,AY,cY⟩ lw).2 z h2)
        have hBW:b<=(yd.setCell ⟨g,fE.length*4+1+1,none⟩ (U3 A' (y.l.length+1) c')).heap.size:=aD HB9.o JJ.o.size;have SQ:bF (yd.setCell ⟨g,fE.length*4+1+1,none⟩ (U3 A' (y.l.length+1) c')) b (U3 (lc g) (fE.length+1) cc) (yi++[(⟨{y with l:=y.l.insertIdx (y.at_+1) ⟨eb.key,⟨#[]⟩,l2⟩},A',c'⟩:SM)]):=by
         have h2:=bF.pop (L:=yi++[(⟨{y with l:=y.l.insertIdx (y.at_+1) ⟨eb.key,⟨#[]⟩,l2⟩},A',c'⟩:SM)]) (X:=⟨x,A,c⟩) (by rw[cV,wG];exact SP.o);rw[bC,wC,yf.o]at h2;exact h2
        have WG:=gI.o;subst WG;have hLX:=HLX.o;have hebx:eb∈x.l:=tE (i:=hf) (by rw[HDR.o];simp);have KR:=AU m fE {y with l:=y.l.insertIdx (y.at_+1) ⟨eb.key,⟨#[]⟩,l2⟩} (by have:=HPM.o;rw[bC,wC]at this;omega) hT (by have:=HK.o;omega) SQ hBW (by rw[eS,HMP.o];rfl) (λs hs=>vP.o s (by simp[hs]))
         ⟨by have:=HFY.o.n;show(y.l.insertIdx (y.at_+1) _).length<=90;rw[RP.o];omega,λe he=>by
          rcases(List.mem_insertIdx ls).1 he with rfl|he
          .exact⟨(hLX.2 eb hebx).1,by show(⟨#[]⟩:Nm).size<=40;decide⟩
          .exact HFY.o.l.2 e he⟩ (by have:=HP16.o;rw[bC,wC]at this;omega)
        go_call KR as e w12 ⟨rfl,P12⟩;have P12:=xh P12;have HO:=xh hO;clear hT hO hBW SQ hLX hebx KR;go_wp2;go_ret;exact⟨by first|rfl|simp[keyOf],(HO.o.trans P12.o).le ls⟩
      .have cA:=gI.o;rw[U8 he3]at cA;subst cA;have hq:(e3 != 0)=true:=lm he3
       have kP:(e3==0)=false:=i4 he3
       go_wp2;go_ret;exact bz ((H7.o.2.2.1.pb H7.o.1.2).le ls)
     .have cA:=gI.o;rw[U8 vh]at cA;subst cA;have hq:(e2 != 0)=true:=lm vh
      have kP:(e2==0)=false:=i4 vh
      go_wp2;go_ret;exact bz ((H6.o.2.2.1.pb H6.o.1.2).le ls)
   .have sE:(bM x.leaf x.l).2=0:=by have:=HBB.o;simpa using this.symm
    have cA:=gI.o;rw[U8 (.inr sE)]at cA;subst cA;go_wp2;go_ret;exact bz ((H3.o.2.2.2.pb H3.o.1.2).le ls)
  .have hq:(e1 != 11)=true:=lm he
   have kP:(e1==11)=false:=i4 he
   have cA:=gI.o;rw[U8 (.inl he)]at cA;subst cA;go_wp2;go_ret;exact bz ((H2.o.2.2.2.pb H2.o.1.2).le ls)
variable{w:BY}{I:Ix}{F:List Nat}{n:Nat}
def PB.pt{w':BY}{q:QS}{K b:Nat}(hb:w.heap.size<=b)(h:PB b w w' I F q n K):PT w w' I F q n K:=by
 obtain⟨F',S,P,o,f,g⟩:=h;exact⟨F',P,o.mono (λx hx hl=>(f x hx).elim id (λh=>by omega)),λx hx=>(g x hx).imp id (λh=>by omega)⟩
def RT(q:QS)(key value:Nm):(q.fU key value).2.1.key=key/\(q.fU key value).2.1.val.size<=40:=by
 unfold QS.fU
 split
 .exact⟨rfl,by assumption⟩
 .exact⟨rfl,bG _⟩
def QS.hX(q:QS)(l:List E)(key:Nm):QS×Int:=if cg l key=true then q.jY (l.getD (aY l key) Nd.E.zero)else(q,0)
def QS.rI(q:QS)(key value:Nm)(x:Step)(i:Nat)(up:List Step):QS×Int:=
 if(q.fU key value).2.2≠0 then((q.fU key value).1,(q.fU key value).2.2)
 else dX (up.length+1) ({x with l:=x.l.insertIdx i (q.fU key value).2.1}::up) (q.fU key value).1
def QS.fC(q:QS)(key value:Nm):QS×Int:=
 if 32<key.size\/1024<value.size then(q,4)
 else if(q.cI key).2.2≠0 then((q.cI key).1,(q.cI key).2.2)
 else if((q.cI key).1.hX (eF (q.cI key).2.1).l key).2≠0 then(q.cI key).1.hX (eF (q.cI key).2.1).l key
 else((q.cI key).1.hX (eF (q.cI key).2.1).l key).1.rI key value {eF (q.cI key).2.1 with l:=pY (eF (q.cI key).2.1).l key} (aY (eF (q.cI key).2.1).l key) (q.cI key).2.1.dropLast.reverse
def Fu{tb:Nat}{q:QS}{Kz:Nat}(h:TQ w tb I F q n Kz)(hKz:Kz<=999999999000)(key value:Nm)(xM:key.size<=100000)(Gb:value.size<=100000):
  io prog 25 #[tp tb,U7 key,U7 value] w λe w'=>e=fd (U5 U6 (q.fC key value).2)/\PT w w' I F (q.fC key value).1 n (Kz+100):=by
 have KW:=xh<|Ft h ls key;have HT:=xh h;have HK:=xh hKz;have fN:=RM (q:=q) (key:=key);unfold QS.fC;generalize q.cI key=R at *;obtain⟨q1,steps,er⟩:=R;dsimp only at *;unfold tp at *
 by_cases hk32:key.size<=32
 .by_cases hv:value.size<=1024
  .rw[ge];have s5:¬(32<(key.size:Int)):=ls
   have s6:¬(1024<(value.size:Int)):=ls
   by_cases he:er=0
   .subst he;obtain⟨pre,x,rfl,vI,hnl,py,hlen⟩:=fN rfl;rw[i8,show eF (pre++[x])=x from by unfold eF;simp,show(pre++[x]).dropLast=pre from by simp];have hxo:=py x lw;obtain⟨hm,hl57,_⟩:=hxo;have HLX:=xh<|uA hm;have hm:=xh hm;have vP:=g9 (∀s∈pre,Fit s) (λs hs=>(py s (by simp[hs])).fit (hnl s hs));have HP16:=xh hlen;clear fN hnl py vI h
    obtain⟨RR,cA⟩:∃RR,(if(q1.hX x.l key).2≠0 then q1.hX x.l key else(q1.hX x.l key).1.rI key value {x with l:=pY x.l key} (aY x.l key) pre.reverse)=RR:=⟨_,rfl⟩;rw[cA];have gI:=xh cA;clear cA;go_in;go_wp2_with fail;go_call KW.o as e w1 ⟨v,L,rfl,SA,qf,P1,o1⟩;have hlast:=SA.last qf;obtain⟨Lp,A,c,g,cc,rfl,mV,rfl,hbg,Ku,rS,iO,Xw,S1,f1⟩:=hlast
    have H1:=g9 (TQ w1 tb I F q1 n (Kz+16)/\bF w1 w.heap.size (U3 (lc g) (pre.length+1) cc) (Lp++[⟨x,A,c⟩])/\OB w.heap.size w w1 F F/\w.heap.size<=w1.heap.size) ⟨HT.o.next o1 P1,SA,(OB.refl w.heap.size w F).step (ai _) o1 (λ_ hg=> .inl hg),o1.size⟩;have yf:=g9 (Lp.length=pre.length) (by rw[<-mV,eZ]);have HMP:=xh mV;have S1:=xh S1;have x1:w1.cell? ⟨g,pre.length*4+1,none⟩=some (WF x.leaf):=iO 1 ls
    have x2:w1.cell? ⟨g,pre.length*4+1+1,none⟩=some (U3 A x.l.length c):=iO 2 ls;have s1:U6.wrap (((pre.length+1:Nat):Int)-1)=(pre.length:Int):=by rw[show((pre.length+1:Nat):Int)-1=(pre.length:Int) by omega];exact d9
    have s2:(pre.length:Int)<((pre.length+1:Nat):Int):=ls
    have KF:=xh<|Nd.zm x.leaf A x.l.length c x.l key (Nd.bm.aL S1.o).2 ls hm.o;unfold bQ at KF;clear SA qf P1 o1 mV iO Xw f1;go_wp2_with fail;go_call KF.o as e w3 ⟨rfl,gK⟩;have O3:=xh gK
    have H3:=g9 (TQ w3 tb I F q1 n (Kz+16)/\bF w3 w.heap.size (U3 (lc g) (pre.length+1) cc) (Lp++[⟨x,A,c⟩])/\OB w.heap.size w w3 F F/\w.heap.size<=w3.heap.size) ⟨H1.o.1.below O3.o,H1.o.2.1.below O3.o,H1.o.2.2.1.below O3.o,aD H1.o.2.2.2 O3.o.size⟩;have S3:=xh<|S1.o.below gK;have u2:w3.cell? ⟨g,pre.length*4+1+1,none⟩=some (U3 A x.l.length c):=(O3.o.cell (p:=⟨g,pre.length*4+1+1,none⟩) (dU x2)).trans x2
    clear x1 x2 gK H1 S1 O3
    by_cases hh:cg x.l key=true
    obtain⟨ex,hex⟩:=EF hh;have hfx:x.l.getD (aY x.l key) Nd.E.zero=ex:=by rw[jG,hex];rfl
    have cA:=gI.o;unfold QS.hX pY at cA;rw[U8 hh,U8 hh,hfx]at cA;generalize cg x.l key=hb at *;subst hh;have sE:aY x.l key<x.l.length:=(aW.1 hex).1;generalize aY x.l key=at_ at *;obtain⟨ad,zN,iy⟩:=(Nd.bm.aL S3.o).2.2 at_ ex hex;obtain⟨ga,ca,AR,FY,_⟩:=S3.o.form ls ls;injection FY with e1 ezz e3
    clear ezz;subst e1 e3;injection zN with zN
    subst zN;rw[Nd.jq,bV]at iy;have u3:=iy.c0;have u4:=iy.c1;have u5:=iy.c2;dsimp only at u4 u5;have KA:=xh<|IA H3.o.1 ls ex;unfold E.agg tp at KA;have hflI:(at_:Int)<(x.l.length:Int):=ls
    generalize q1.jY ex=R2 at *;obtain⟨q2,e2⟩:=R2;dsimp only at *;have gI:=xh cA;clear iy hex hfx cA;go_wp2_with fail;go_call KA.o as e w4 ⟨rfl,P4,o4⟩
    have H4:=g9 (TQ w4 tb I F q2 n (Kz+21)/\bF w4 w.heap.size (U3 (lc g) (pre.length+1) cc) (Lp++[⟨x,some ⟨ga,0,none⟩,c⟩])/\OB w.heap.size w w4 F F/\w.heap.size<=w4.heap.size) ⟨H3.o.1.next o4 P4,H3.o.2.1.AS H3.o.1.2 o4,H3.o.2.2.1.step (ai _) o4 (λ_ hg=> .inl hg),aD H3.o.2.2.2 o4.size⟩;clear P4 o4 u2 u3 u4 u5 S3
    by_cases vh:e2=0
    rotate_left
    .have cA:=gI.o;rw[U8 vh]at cA;subst cA;have hq:(e2 != 0)=true:=lm vh
     have kP:(e2==0)=false:=i4 vh
     go_wp2;go_ret;exact bz (((H4.o.2.2.1.pb H4.o.1.2).pt (ai _)).le ls)
    rotate_left;subst vh;have cA:=gI.o;rw[U9 (show ¬((0:Int)≠0) by simp)]at cA;have gI:=xh cA;have SX:=H4.o.2.1.e ⟨x,some ⟨ga,0,none⟩,c⟩ lw;have KD:=xh<|Nd.sQ SX.1 at_ sE (show x.l.length<=100000 by omega);have u2:=H4.o.2.1.cell (k:=Lp.length) (Z:=⟨x,some ⟨ga,0,none⟩,c⟩) (by rw[eC (ai _),ik];rfl) 2 ls;rw[yf.o]at u2
    replace u2:w4.cell? ⟨g,pre.length*4+1+1,none⟩=some (U3 (lc ga) x.l.length c):=u2
    have FW:=xh (show(x.l.eraseIdx at_).length=x.l.length-1 from by rw[Pm sE]);have s7:U6.wrap ((at_:Int)+1)=(at_:Int)+1:=d9;clear SX cA;go_wp2_with fail;go_call KD.o as e w5 ⟨rfl,S5,o5⟩;obtain⟨SP,sx,sz⟩:=H4.o.2.1.put (Lp:=Lp) (Ls:=[]) (x.l.eraseIdx at_) (A':=some ⟨ga,0,none⟩) (c':=c) (by rw[FW.o];exact S5) o5 (λz hz=> .inl hz) H4.o.2.2.2;rw[yf.o]at SP sx sz;rw[FW.o]at SP
    replace sx:w5.cell? ⟨g,pre.length*4+1+1,none⟩=some (U3 (lc ga) x.l.length c):=sx
    replace sz:w5.frozen? ⟨g,pre.length*4+1+1,none⟩=false:=sz
    have O5:ah (g::ak (U3 (lc ga) x.l.length c)) w4 (w5.setCell ⟨g,pre.length*4+1+1,none⟩ (U3 (lc ga) (x.l.length-1) c)):=(o5.mono (λx hx _=>aH _ hx)).setCell lw _;have tx:=H4.o.2.1.off H4.o.1.2;have Kk:=H4.o.2.1.tree H4.o.1.1
    have H5:=xh (show TQ (w5.setCell ⟨g,pre.length*4+1+1,none⟩ (U3 (lc ga) (x.l.length-1) c)) tb I F q2 n (Kz+21)/\bF (w5.setCell ⟨g,pre.length*4+1+1,none⟩ (U3 (lc ga) (x.l.length-1) c)) w.heap.size (U3 (lc g) (pre.length+1) cc) (Lp++[⟨{x with l:=x.l.eraseIdx at_},some ⟨ga,0,none⟩,c⟩])/\OB w.heap.size w (w5.setCell ⟨g,pre.length*4+1+1,none⟩ (U3 (lc ga) (x.l.length-1) c)) F F/\w.heap.size<=(w5.setCell ⟨g,pre.length*4+1+1,none⟩ (U3 (lc ga) (x.l.length-1) c)).heap.size from
     ⟨H4.o.1.only O5 (λz hz hm=>by
      rcases ax.1 hz with h1|h1<;>rcases ax.1 hm with h2|h2
      .exact Kk.1 (by rw[<-h1,h2];simp[ak])
      .exact Kk.2 ⟨x,some ⟨ga,0,none⟩,c⟩ lw (by rw[<-h1];exact h2)
      .exact tx.1 z (by rw[h2];simp[ak]) h1
      .exact tx.2 ⟨x,some ⟨ga,0,none⟩,c⟩ lw z h2 h1),SP,H4.o.2.2.1.own O5 (λz hz=>by
      rcases ax.1 hz with h2|h2
      .rw[h2];exact H4.o.2.1.f g (by simp[ak])
      .exact(H4.o.2.1.e ⟨x,some ⟨ga,0,none⟩,c⟩ lw).2 z h2),aD H4.o.2.2.2 O5.size⟩)
    clear SP S5 o5 O5 tx Kk;have HLY:=g9 (∀e∈x.l.eraseIdx at_,e.key.size<=32/\e.val.size<=40) (λe he=>HLX.o e (List.mem_of_mem_eraseIdx he));obtain⟨w6,OM⟩:∃w6,(w5.setCell ⟨g,pre.length*4+1+1,none⟩ (U3 (lc ga) (x.l.length-1) c))=w6:=⟨_,rfl⟩;rw[OM]at H5
    go_upto_region 13 with fail
    clear OM sx sz u2;have cA:=gI.o;have hya:at_<=(x.l.eraseIdx at_).length:=by rw[FW.o];omega
    have hyn:(x.l.eraseIdx at_).length<=57:=by rw[FW.o];omega
    generalize hY:({x with l:=x.l.eraseIdx at_}:Step)=y at *;have hyl:y.l=x.l.eraseIdx at_:=by rw[<-hY]
    rw[<-hyl]at HLY hya hyn;generalize hAY:some (⟨ga,0,none⟩:Addr)=AY at H5;obtain⟨cY,rfl⟩:∃cY,cY=c:=⟨_,rfl⟩;have gI:=xh cA;clear hyl hY hAY cA;rotate_left;have hh2:cg x.l key=false:=by simpa using hh
    have cA:=gI.o;unfold QS.hX pY at cA;rw[U9 hh,U9 hh,U9 (show ¬((0:Int)≠0) by simp)]at cA;generalize cg x.l key=hb at *;subst hh2;have hya:aY x.l key<=x.l.length:=qt;generalize aY x.l key=at_ at *;obtain⟨q2,rfl⟩:∃q2,q2=q1:=⟨_,rfl⟩;obtain⟨y,rfl⟩:∃y:Step,y=x:=⟨_,rfl⟩;obtain⟨AY,rfl⟩:∃AY,AY=A:=⟨_,rfl⟩;obtain⟨cY,rfl⟩:∃cY,cY=c:=⟨_,rfl⟩;have hyn:y.l.length<=57:=hl57;have HLY:=HLX;have gI:=xh cA
    have H5:=g9 (TQ w3 tb I F q2 n (Kz+21)/\bF w3 w.heap.size (U3 (lc g) (pre.length+1) cc) (Lp++[⟨y,AY,cY⟩])/\OB w.heap.size w w3 F F/\w.heap.size<=w3.heap.size) ⟨H3.o.1.le ls,H3.o.2⟩;clear hh cA u2 H3 S3;obtain⟨w6,rfl⟩:∃w6,w6=w3:=⟨_,rfl⟩
    go_upto_region 13 with fail
    all_goals
     have KT:=xh<|WC H5.o.1 ls key value hv;have xL:=RT q2 key value;have cA:=gI.o;unfold QS.rI at cA;generalize q2.fU key value=R3 at *;obtain⟨q3,en,e3⟩:=R3;dsimp only at *;obtain⟨rfl,hen2⟩:=xL;have HEN:=xh<|rx hk32 hen2;have gI:=xh cA;unfold E.agg tp at KT;clear cA hen2;go_wp2_with fail;go_call KT.o as e w4 ⟨rfl,P4⟩;obtain⟨F4,T4,o4,f4⟩:=P4.tq H5.o.1
     have H4:=g9 (TQ w4 tb I F4 q3 n (Kz+26)/\bF w4 w.heap.size (U3 (lc g) (pre.length+1) cc) (Lp++[⟨y,AY,cY⟩])/\OB w.heap.size w w4 F F4/\w.heap.size<=w4.heap.size) ⟨T4,H5.o.2.1.AS H5.o.1.2 o4,H5.o.2.2.1.step (ai _) o4 f4,aD H5.o.2.2.2 o4.size⟩;clear P4 o4 f4 T4
     by_cases he3:e3=0
     .subst he3;have cA:=gI.o;rw[U9 (show ¬((0:Int)≠0) by simp)]at cA;rw[List.length_reverse]at cA;have gI:=xh cA;clear cA;obtain⟨w8,NN⟩:∃w8,(w4.alloc (Pi #[U7 en.key,U7 en.val,en.bh] 111)).drew=w8:=⟨_,rfl⟩;have hal8:i7 w4 w8:=by rw[<-NN];exact(i6 _ _).drew
      have BE8:aM w8 w4.heap.size 111 #[U7 en.key,U7 en.val,en.bh]:=by rw[<-NN];exact(aM.new _ _ _).drew
      have H8:=xh (show TQ w8 tb I F4 q3 n (Kz+26)/\bF w8 w.heap.size (U3 (lc g) (pre.length+1) cc) (Lp++⟨y,AY,cY⟩::[])/\OB w.heap.size w w8 F F4/\w.heap.size<=w8.heap.size/\aM w8 w4.heap.size 111 #[U7 en.key,U7 en.val,en.bh]from
       ⟨H4.o.1.below hal8,H4.o.2.1.below hal8,H4.o.2.2.1.below hal8,aD H4.o.2.2.2 hal8.size,BE8⟩)
      have KS8:=xh (show(λW=>W.cell? (lc w4.heap.size)=some (U7 en.key)/\W.cell? ⟨w4.heap.size,1,none⟩=some (U7 en.val)/\W.cell? ⟨w4.heap.size,2,none⟩=some (en.bh:li)) w8 from rx (BE8.bi 0) (rx (BE8.bi 1) (BE8.bi 2)));have x8:w8.cell? ⟨g,pre.length*4+2,none⟩=some (U3 AY y.l.length cY):=by
       have h1:=H8.o.2.1.cell (k:=Lp.length) (Z:=⟨y,AY,cY⟩) (by rw[eC (ai _),ik];rfl) 2 ls;rw[yf.o]at h1;exact h1
      obtain⟨w9,hw9⟩:∃w9,w8.alloc (Pi #[U7 en.key,U7 en.val,en.bh] 111)=w9:=⟨_,rfl⟩;have mW:i7 w8 w9:=by rw[<-hw9];exact i6 _ _
      have BN9:aM w9 w8.heap.size 111 #[U7 en.key,U7 en.val,en.bh]:=by rw[<-hw9];exact aM.new _ _ _
      have BZ9:w9.frozen? ⟨w8.heap.size,3,none⟩=false:=by rw[<-hw9];exact World.frozen?_alloc_at (w:=w8) _ _ w8.heap.size 3 rfl
      have BE9:=H8.o.2.2.2.2.below mW H8.o.2.2.2.2.lt;have KS9:=xh (show(λW=>W.cell? (lc w4.heap.size)=some (U7 en.key)/\W.cell? ⟨w4.heap.size,1,none⟩=some (U7 en.val)/\W.cell? ⟨w4.heap.size,2,none⟩=some (en.bh:li)) w9 from rx (BE9.bi 0) (rx (BE9.bi 1) (BE9.bi 2)));have x9:w9.cell? ⟨g,pre.length*4+2,none⟩=some (U3 AY y.l.length cY):=(mW.cell (p:=⟨g,pre.length*4+2,none⟩) (dU x8)).trans x8
      have H9:=xh (show TQ w9 tb I F4 q3 n (Kz+26)/\bF w9 w.heap.size (U3 (lc g) (pre.length+1) cc) (Lp++⟨y,AY,cY⟩::[])/\OB w.heap.size w w9 F F4/\w.heap.size<=w9.heap.size/\aM w9 w4.heap.size 111 #[U7 en.key,U7 en.val,en.bh]from
       ⟨H8.o.1.below mW,H8.o.2.1.below mW,H8.o.2.2.1.below mW,aD H8.o.2.2.2.1 mW.size,BE9⟩)
      have RP:=xh (show(y.l.insertIdx at_ en).length=y.l.length+1 from by rw[I1,g8]);have SY:=H9.o.2.1.e ⟨y,AY,cY⟩ lw;have KI:=xh<|Nd.AE (w:=w9) SY.1 en (g2:=w8.heap.size) (cc:=1) BN9 (show y.l.length<=100000 by omega) (λhm=>by have:=(H8.o.2.1.e ⟨y,AY,cY⟩ lw).1.lt _ hm;omega) at_ (show at_<=y.l.length by omega) BZ9
      have yG:=xh (show ∀W,ah (ak (U3 AY y.l.length cY)) w9 W->(λW=>W.cell? (lc w4.heap.size)=some (U7 en.key)/\W.cell? ⟨w4.heap.size,1,none⟩=some (U7 en.val)/\W.cell? ⟨w4.heap.size,2,none⟩=some (en.bh:li)) W from λW o=>by
       have hB:=H9.o.2.2.2.2.only o (λhm=>by have:=(H4.o.2.1.e ⟨y,AY,cY⟩ lw).1.lt _ hm;omega);exact⟨hB.bi 0,hB.bi 1,hB.bi 2⟩)
      clear SY BN9 BZ9 mW BE8 BE9 hal8;go_wp2;refine kw (λW=>W.cell? (lc w4.heap.size)=some (U7 en.key)/\W.cell? ⟨w4.heap.size,1,none⟩=some (U7 en.val)/\W.cell? ⟨w4.heap.size,2,none⟩=some (en.bh:li)) (by rw[NN];exact KS8.o) (λaC=>?_);rw[NN];clear NN;refine dj [(0,86),(1,87),(2,88),(3,89),(4,90),(6,92),(7,93)] ?_
      iterate 7 refine bJ ?_
      refine wpAnyH_ready (rs:=[5,8]) pm lw ?_;refine AllReadyH.cons (o:=⟨some 91,_,_,_,_,_⟩) rfl (λK hK=>?_) (AllReadyH.cons (o:=⟨some 94,_,_,_,_,_⟩) rfl (λK hK=>?_) AllReadyH.nil)
      focus
       go_simp;refine cq hK (KS8.o) (λaC=>?_);refine dV 8 94 λK hK=>?_;go_simp;refine cq hK (KS9.o) (λaC=>?_);refine dV 9 95 λK hK=>?_;go_simp
       go_at_call 74
       go_call KI.o as e yd ⟨A',c',rfl,Gq,xV,f10⟩;have Gq:=xh Gq;have xV:=xh xV;have f10:=xh f10;have RQ:=xh<|yG.o yd xV.o;go_simp;refine cq hK (RQ.o) (λaC=>?_);refine dj [(10,96),(11,97),(12,98)] ?_
       iterate 3 refine bJ ?_
       refine pF 13 λK hK=>?_;go_simp;obtain⟨SP,sx,sz⟩:=H9.o.2.1.put (y.l.insertIdx at_ en) (A':=A') (c':=c') (by rw[RP.o];exact Gq.o) xV.o (by rw[RP.o];exact f10.o) H9.o.2.2.2.1;rw[yf.o]at SP sx sz;rw[RP.o]at SP;have SP:=xh SP
       replace sx:yd.cell? ⟨g,pre.length*4+2,none⟩=some (U3 AY y.l.length cY):=sx
       have JJ:=g9 (ah (g::ak (U3 AY y.l.length cY)) w9 (yd.setCell ⟨g,pre.length*4+2,none⟩ (U3 A' (y.l.length+1) c'))) ((xV.o.mono (λx hx _=>aH _ hx)).setCell lw _);have SY9:=(H9.o.2.1.e ⟨y,AY,cY⟩ lw).1
       have xL:=((H9.o.2.2.2.2.only xV.o (λhm=>by have:=(H4.o.2.1.e ⟨y,AY,cY⟩ lw).1.lt _ hm;omega)).bh (p:=⟨g,pre.length*4+2,none⟩) (λe=>eg H9.o.2.1.s H9.o.2.2.2.2 ms (by simp[ak];exact e)) (U3 A' (y.l.length+1) c'));have Ki:=xh<|rx (xL.bi 0) (rx (xL.bi 1) (xL.bi 2));clear SY9 xL;go_simp;refine cq hK (Ki.o) (λaC=>?_)
      rotate_left
      focus
       go_simp;refine cq hK (KS9.o) (λaC=>?_);refine dV 5 91 λK hK=>?_;go_simp;refine cq hK (KS9.o) (λaC=>?_);refine dV 9 95 λK hK=>?_;go_simp
       go_at_call 74
       go_call KI.o as e yd ⟨A',c',rfl,Gq,xV,f10⟩;have Gq:=xh Gq;have xV:=xh xV;have f10:=xh f10;have RQ:=xh<|yG.o yd xV.o;go_simp;refine cq hK (RQ.o) (λaC=>?_);refine dj [(10,96),(11,97),(12,98)] ?_
       iterate 3 refine bJ ?_
       refine pF 13 λK hK=>?_;go_simp;obtain⟨SP,sx,sz⟩:=H9.o.2.1.put (y.l.insertIdx at_ en) (A':=A') (c':=c') (by rw[RP.o];exact Gq.o) xV.o (by rw[RP.o];exact f10.o) H9.o.2.2.2.1;rw[yf.o]at SP sx sz;rw[RP.o]at SP;have SP:=xh SP
       replace sx:yd.cell? ⟨g,pre.length*4+2,none⟩=some (U3 AY y.l.length cY):=sx
       have JJ:=g9 (ah (g::ak (U3 AY y.l.length cY)) w9 (yd.setCell ⟨g,pre.length*4+2,none⟩ (U3 A' (y.l.length+1) c'))) ((xV.o.mono (λx hx _=>aH _ hx)).setCell lw _);have SY9:=(H9.o.2.1.e ⟨y,AY,cY⟩ lw).1
       have xL:=((H9.o.2.2.2.2.only xV.o (λhm=>by have:=(H4.o.2.1.e ⟨y,AY,cY⟩ lw).1.lt _ hm;omega)).bh (p:=⟨g,pre.length*4+2,none⟩) (λe=>eg H9.o.2.1.s H9.o.2.2.2.2 ms (by simp[ak];exact e)) (U3 A' (y.l.length+1) c'));have Ki:=xh<|rx (xL.bi 0) (rx (xL.bi 1) (xL.bi 2));clear SY9 xL;go_simp;refine cq hK (Ki.o) (λaC=>?_)
      rotate_left
      all_goals
       refine jp ?_ _;go_wp2_with fail;have hT:TQ (yd.setCell ⟨g,pre.length*4+1+1,none⟩ (U3 A' (y.l.length+1) c')) tb I F4 q3 n (Kz+26):=by
        have tx:=H9.o.2.1.off H9.o.1.2;have Kk:=H9.o.2.1.tree H9.o.1.1;exact H9.o.1.only JJ.o (λz hz hm=>by
         rcases ax.1 hz with h1|h1<;>rcases ax.1 hm with h2|h2
         .exact Kk.1 (by rw[<-h1,h2];simp[ak])
         .exact Kk.2 ⟨y,AY,cY⟩ lw (by rw[<-h1];exact h2)
         .exact tx.1 z (by rw[h2];simp[ak]) h1
         .exact tx.2 ⟨y,AY,cY⟩ lw z h2 h1)
       have hO:OB w.heap.size w (yd.setCell ⟨g,pre.length*4+1+1,none⟩ (U3 A' (y.l.length+1) c')) F F4:=H9.o.2.2.1.own JJ.o (λz hz=>by
        rcases ax.1 hz with h2|h2
        .rw[h2];exact H9.o.2.1.f g (by simp[ak])
        .exact(H9.o.2.1.e ⟨y,AY,cY⟩ lw).2 z h2)
       have hBW:w.heap.size<=(yd.setCell ⟨g,pre.length*4+1+1,none⟩ (U3 A' (y.l.length+1) c')).heap.size:=aD H9.o.2.2.2.1 JJ.o.size;have SQ:bF (yd.setCell ⟨g,pre.length*4+1+1,none⟩ (U3 A' (y.l.length+1) c')) w.heap.size (U3 (lc g) (pre.length+1) cc) (Lp++[(⟨{y with l:=y.l.insertIdx at_ en},A',c'⟩:SM)]):=by
        exact SP.o
       have WG:=gI.o;subst WG;have KR:=AU (pre.length+1) pre {y with l:=y.l.insertIdx at_ en} (ai _) hT (by have:=HK.o;have:=HP16.o;omega) SQ hBW (by rw[eS,HMP.o];rfl) vP.o
        ⟨by show(y.l.insertIdx at_ _).length<=90;rw[RP.o];omega,λe he=>by
         rcases(List.mem_insertIdx ls).1 he with rfl|he
         .exact HEN.o
         .exact HLY.o e he⟩ (by have:=HP16.o;omega)
       go_call KR as e w12 ⟨rfl,P12⟩;have P12:=xh P12;have HO:=xh hO;clear hT hO hBW SQ KR;go_wp2;go_ret;exact bz (((HO.o.trans P12.o).pt (ai _)).le (by have:=HP16.o;omega))
     .have cA:=gI.o;rw[U8 he3]at cA;subst cA;have hq:(e3 != 0)=true:=lm he3
      have kP:(e3==0)=false:=i4 he3
      go_wp2;go_ret;exact bz ((((H4.o.2.2.1.below (i6 _ _)).pb (H4.o.1.2.below (i6 _ _))).pt (ai _)).le ls)
   .rw[U8 he];have hq:(er != 0)=true:=lm he
    have kP:(er==0)=false:=i4 he
    clear fN;go_in;go_wp2_with fail;go_call KW.o as e w1 ⟨v,L,rfl,SA,qf,P1,o1⟩;have P1:=xh P1;have o1:=xh o1;clear SA qf;go_wp2;go_ret;exact bz ((PT.self P1.o o1.o).le ls)
  .rw[g8];have s6:1024<(value.size:Int):=ls
   have s5:¬(32<(key.size:Int)):=ls
   clear fN;go_in;go_wp2;go_ret;exact bz ((PT.self HT.o.2 (ah.refl F w)).le ls)
 .rw[g8];have s5:32<(key.size:Int):=ls
  clear fN;go_in;go_wp2;go_ret;exact bz ((PT.self HT.o.2 (ah.refl F w)).le ls)
def fY:Nat->QS->Bool->List E->QS×Int
 |0,q,_,_=>(q,0)
 |m+1,q,leaf,l=>
  if leaf=false/\l.length=1 then
   if(q.aT (l.getD 0 Nd.E.zero).bh).2.2.2≠0 then((q.aT (l.getD 0 Nd.E.zero).bh).1,(q.aT (l.getD 0 Nd.E.zero).bh).2.2.2)
   else if((q.aT (l.getD 0 Nd.E.zero).bh).1.aF (l.getD 0 Nd.E.zero).bh).2≠0 then(q.aT (l.getD 0 Nd.E.zero).bh).1.aF (l.getD 0 Nd.E.zero).bh
   else fY m ((q.aT (l.getD 0 Nd.E.zero).bh).1.aF (l.getD 0 Nd.E.zero).bh).1 (q.aT (l.getD 0 Nd.E.zero).bh).2.1 (q.aT (l.getD 0 Nd.E.zero).bh).2.2.1
  else if l=[]then q.bg 0 true []else q.bg 0 leaf l
def QS.kx(q:QS)(leaf:Bool)(l:List E):QS×Int:=fY 600 q leaf l
def readN_vw{q:QS}{n K:Nat}(h:Wp q n K)(p:Int):Wp (q.aT p).1 n (K+1)/\(q.aT p).1.Ga=q.Ga:=by
 have:(q.aT p).1=(q.cF p).1:=by unfold QS.aT;split<;>rfl
 rw[this];exact⟨h.get p,get_cnt h p⟩
def RU{w:BY}{tb:Nat}{I:Ix}{F:List Nat}{q:QS}{n Kz:Nat}(h:TQ w tb I F q n Kz)(hKz:Kz<=999999990000)(leaf:Bool)(A:Option Addr)(m c:Nat)(l:List E)(S:bm w 111 3 (U3 A m c) m (aL l))(hm:m<=1000):
  io prog 133 #[tp tb,bQ leaf A m c] w λe w'=>e=fd (U5 U6 (q.kx leaf l).2)/\PQ w' I F (q.kx leaf l).1 n (Kz+601)/\ah F w w':=by
 have KR:=xh (λ(W:BY) (qj:QS) (kj:Nat) (hW:TQ W tb I F qj n kj) (hk:kj<=999999999999) (p:Int)=>qe hW hk p);have KD:=xh (λ(W:BY) (qj:QS) (kj:Nat) (hW:TQ W tb I F qj n kj) (p:Int)=>uK hW.2 p);have KW:=xh (λ(W:BY) (qj:QS) (kj:Nat) (hW:TQ W tb I F qj n kj) (hk:kj<=999999999999) (leaf:Bool) (A:Option Addr) (m c:Nat) (l:List E) (S:bm W 111 3 (U3 A m c) m (aL l)) (hm:m<=1000)=>ra hW hk 0 leaf A m c l S hm)
 have hlm:l.length=m:=by have:=S.1;rw[Nd.aA]at this;omega
 obtain⟨R,hR⟩:∃R,q.kx leaf l=R:=⟨_,rfl⟩;rw[hR];unfold QS.kx at hR;have HR:=xh hR;have ja:=i6 w (Pi #[WF leaf,U3 A m c] 118);have H0:=g9 (TQ _ tb I F q n (Kz+600-600)/\bm _ 111 3 (U3 A m c) m (aL l)/\aM _ w.heap.size 118 #[WF leaf,U3 A m c]/\ah F w _) ⟨h.below ja,S.below ja,aM.new w 118 #[WF leaf,U3 A m c],.aj ja⟩;have Zi:=g9 (q.Ga<600) (by have:=cnt_le h.2.wp;omega)
 have HLM:=xh hlm;have HLEN:=xh (λ(qj:QS) (p:Int)=>nP qj p);clear h hR S ja hlm;unfold tp bQ at *;go_in;go_wp2_with fail
 go_loopg [5] 600 (λk pv wr=> ∃(qi:QS) (leaf:Bool) (A:Option Addr) (m c:Nat) (l:List E),k<=600/\m<=1000/\Hid (fY k qi leaf l=R)/\Hid (qi.Ga<k)/\Hid (l.length=m)/\Hid (TQ wr tb I F qi n (Kz+600-k)/\bm wr 111 3 (U3 A m c) m (aL l)/\aM wr w.heap.size 118 #[WF leaf,U3 A m c]/\ah F w wr))
 case atStart=>exact⟨q,leaf,A,m,c,l,ls,hm,HR,Zi,HLM,H0⟩
 case round=>
  obtain⟨qi,lf,A,m,c,l,hk,hm,HR,Zi,HLM,H0⟩:=hrel;obtain⟨k',rfl⟩:∃k',gk=k'+1:=⟨gk-1,by have:=Zi.o;omega⟩;have B0:=xh H0.o.2.2.1;have x0:=B0.ap 0;have x1:=B0.ap 1
  by_cases hc:lf=false/\m=1
  .obtain⟨rfl,rfl⟩:=hc;obtain⟨ex,rfl⟩:∃ex,l=[ex]:=List.length_eq_one_iff.1 HLM.o;have cA:=HR.o;unfold fY at cA;rw[U8 ⟨rfl,rfl⟩,show([ex]:List E).getD 0 Nd.E.zero=ex from rfl]at cA;obtain⟨ga,ca,AR,FY,BA,_,_⟩:=H0.o.2.1.form ls ls;injection FY with e1 ezz e3
   clear ezz;subst e1 e3;have xf:wr.cell? ⟨ga,2,none⟩=some (ex.bh:li):=BA.ae rfl;have K1:=xh<|KR.o wr qi (Kz+600-(k'+1)) H0.o.1 ls ex.bh;have hv:=readN_vw H0.o.1.2.wp ex.bh;have Xo:=HLEN.o qi ex.bh;generalize qi.aT ex.bh=r at *;obtain⟨q1,WH,l1,er⟩:=r;dsimp only at *;have HV:=xh hv;have gI:=xh cA;clear cA hv BA;go_wp2_with fail;go_call K1.o as e w2 ⟨A1,c1,rfl,S2,f2,P2,o2⟩
   have HA2:=i6 w2 (Pi #[WF WH,U3 A1 l1.length c1] 118);have B3:=xh<|aM.new w2 118 #[WF WH,U3 A1 l1.length c1];have TO:w.heap.size∉F:=H0.o.1.2.jL B0.o
   have H2:=xh (show TQ (w2.alloc (Pi #[WF WH,U3 A1 l1.length c1] 118)) tb I F q1 n (Kz+600-k')/\bm (w2.alloc (Pi #[WF WH,U3 A1 l1.length c1] 118)) 111 3 (U3 A1 l1.length c1) l1.length (aL l1)/\aM (w2.alloc (Pi #[WF WH,U3 A1 l1.length c1] 118)) w.heap.size 118 #[WF false,U3 (lc ga) 1 c]/\ah F w (w2.alloc (Pi #[WF WH,U3 A1 l1.length c1] 118))/\w.heap.size<w2.heap.size from
    ⟨((H0.o.1.next o2 P2).below HA2).le ls,S2.below HA2,(B0.o.only o2 TO).below HA2 (B0.o.only o2 TO).lt,(H0.o.2.2.2.trans o2).trans (.aj HA2),(B0.o.only o2 TO).lt⟩)
   clear S2 f2 P2 o2 HA2 x0 x1 xf
   by_cases he:er=0
   .subst he;have cA:=gI.o;rw[U9 (show ¬((0:Int)≠0) by simp)]at cA;have K2:=xh<|KD.o _ q1 _ H2.o.1 ex.bh;have hcnt:=drop_cnt (q:=q1) H2.o.1.2.wp (p:=ex.bh);generalize q1.aF ex.bh=R2 at *;obtain⟨q2,e2⟩:=R2;dsimp only at *;have HCD:=xh hcnt;have gI:=xh cA;clear cA hcnt;unfold pp at K2;have xt:=H2.o.1.1.bi 0;unfold pp at xt;go_wp2_with fail;go_call K2.o as e w4 ⟨rfl,P4,o4⟩;have hnf:w2.heap.size∉F:=H2.o.1.2.jL B3.o
    have TO:w.heap.size∉F:=H2.o.1.2.jL H2.o.2.2.1;have H4:=xh (show TQ w4 tb I F q2 n (Kz+600-k')/\bm w4 111 3 (U3 A1 l1.length c1) l1.length (aL l1)/\aM w4 w.heap.size 118 #[WF false,U3 (lc ga) 1 c]/\ah F w w4 from
     ⟨H2.o.1.next o4 P4,PT.Uy (.self P4 o4) H2.o.1.2 H2.o.2.1,H2.o.2.2.1.only o4 TO,H2.o.2.2.2.1.trans o4⟩)
    have B4:=xh<|B3.o.only o4 hnf;clear P4 o4 xt hnf TO B3
    by_cases vh:e2=0
    .subst vh;have cA:=gI.o;rw[U9 (show ¬((0:Int)≠0) by simp)]at cA;have gI:=xh cA;obtain⟨SB,so,z0,z1,zf0,zf1⟩:=JQ (b':=WH) (v':=U3 A1 l1.length c1) H4.o.2.2.1;have y0:=B4.ap 0;have y1:=B4.ap 1;have HTB:tb≠w.heap.size:=λe=>H4.o.1.1.mx H4.o.2.2.1 ms e;have TO:w.heap.size∉F:=H4.o.1.2.jL H4.o.2.2.1
     have H5:=xh (show TQ ((w4.setCell ⟨w.heap.size,0,none⟩ (WF WH)).setCell ⟨w.heap.size,1,none⟩ (U3 A1 l1.length c1)) tb I F q2 n (Kz+600-k')/\bm ((w4.setCell ⟨w.heap.size,0,none⟩ (WF WH)).setCell ⟨w.heap.size,1,none⟩ (U3 A1 l1.length c1)) 111 3 (U3 A1 l1.length c1) l1.length (aL l1)/\aM ((w4.setCell ⟨w.heap.size,0,none⟩ (WF WH)).setCell ⟨w.heap.size,1,none⟩ (U3 A1 l1.length c1)) w.heap.size 118 #[WF WH,U3 A1 l1.length c1]/\ah F w ((w4.setCell ⟨w.heap.size,0,none⟩ (WF WH)).setCell ⟨w.heap.size,1,none⟩ (U3 A1 l1.length c1))from
      ⟨H4.o.1.only so (λz hz hm=>by
       rw[aG.1 hm]at hz
       rcases ax.1 hz with h|h
       .exact HTB h.symm
       .exact TO h),H4.o.2.1.only so (λz hz hm=>eg H4.o.2.1 H4.o.2.2.1 ms (by rw[<-aG.1 hm];exact hz)),SB,H4.o.2.2.2.bj so (λz hz dP=>by rw[aG.1 hz]at dP;omega)⟩)
     clear SB so TO HTB cA;go_wp2_with fail
     go_roundg k'
     case measure=>omega
     case rel=>exact⟨q2,WH,A1,l1.length,c1,l1,ls,ls,gI,xh (by have h1:=HCD.o (by trivial);have h2:=HV.o.2;have h3:=Zi.o;omega),xh rfl,H5⟩
    .have cA:=gI.o;rw[U8 vh]at cA;subst cA;have hq:(e2 != 0)=true:=lm vh
     have kP:(e2==0)=false:=i4 vh
     go_wp2;go_ret;exact bz ⟨H4.o.1.2.le ls,H4.o.2.2.2⟩
   .have cA:=gI.o;rw[U8 he]at cA;subst cA;have hq:(er != 0)=true:=lm he
    have kP:(er==0)=false:=i4 he
    go_wp2;go_ret;exact bz ⟨H2.o.1.2.le ls,H2.o.2.2.2.1⟩
  .have cA:=HR.o;unfold fY at cA;rw[U9 (by rw[HLM.o];exact hc)]at cA
   by_cases hm0:m=0
   .subst hm0;have Lm:l=[]:=IZ.1 HLM.o;rw[U8 Lm]at cA;subst cA;obtain⟨SB,so,z0,z1,zf0,zf1⟩:=JQ (b':=true) (v':=U3 none 0 0) H0.o.2.2.1;have HTB:tb≠w.heap.size:=λe=>H0.o.1.1.mx H0.o.2.2.1 ms e;have TO:w.heap.size∉F:=H0.o.1.2.jL H0.o.2.2.1
    have H5:=xh (show TQ ((wr.setCell ⟨w.heap.size,0,none⟩ (WF true)).setCell ⟨w.heap.size,1,none⟩ (U3 none 0 0)) tb I F qi n (Kz+600-(k'+1))/\ah F w ((wr.setCell ⟨w.heap.size,0,none⟩ (WF true)).setCell ⟨w.heap.size,1,none⟩ (U3 none 0 0))from
      ⟨H0.o.1.only so (λz hz hm=>by
       rw[aG.1 hm]at hz
       rcases ax.1 hz with h|h
       .exact HTB h.symm
       .exact TO h),H0.o.2.2.2.bj so (λz hz dP=>by rw[aG.1 hz]at dP;omega)⟩)
    have K6:=xh<|KW.o _ qi _ H5.o.1 ls true none 0 0 [] (bm.nil _ _ _) ls;have y0:=SB.bi 0;have y1:=SB.bi 1;clear SB so TO HTB Lm
    cases lf
    .skip
     go_wp2_with fail;go_call K6.o as e w6 ⟨rfl,P6,o6⟩;go_wp2;go_ret;exact bz ⟨P6.le ls,H5.o.2.trans o6⟩
    .skip
     go_wp2_with fail;go_call K6.o as e w6 ⟨rfl,P6,o6⟩;go_wp2;go_ret;exact bz ⟨P6.le ls,H5.o.2.trans o6⟩
   .rw[U9 (λe=>hm0 (by rw[<-HLM.o,e];rfl))]at cA;subst cA;have K6:=xh<|KW.o _ qi _ H0.o.1 ls lf A m c l H0.o.2.1 hm;have hmI:((m:Nat):Int)≠0:=ls
    cases lf
    .have Td:((m:Nat):Int)≠1:=λe=>hc ⟨rfl,ls⟩;have hm1':¬m=1:=ls
     clear hc;go_wp2_with fail;go_call K6.o as e w6 ⟨rfl,P6,o6⟩;go_wp2;go_ret;exact bz ⟨P6.le ls,H0.o.2.2.2.trans o6⟩
    .clear hc;go_wp2_with fail;go_call K6.o as e w6 ⟨rfl,P6,o6⟩;go_wp2;go_ret;exact bz ⟨P6.le ls,H0.o.2.2.2.trans o6⟩
variable{w:BY}{b tb n Kz:Nat}{I:Ix}{F:List Nat}
def cU:List Step->QS->QS×Int
 |[],q=>(q,0)
 |[x],q=>if x.leaf=true then q.bg x.au x.leaf x.l else q.kx x.leaf x.l
 |x::y::up,q=>
  if x.l=[]then
   if(q.aF x.au).2≠0 then q.aF x.au
   else cU ({y with l:=y.l.eraseIdx y.at_}::up) (q.aF x.au).1
  else q.bg x.au x.leaf x.l
 termination_by l=>l.length
def sR(x:Step)(q:QS):cU [x] q=if x.leaf=true then q.bg x.au x.leaf x.l else q.kx x.leaf x.l:=by
 unfold cU;rfl
def sS(x y:Step)(up:List Step)(q:QS):cU (x::y::up) q=if x.l=[]then
   if(q.aF x.au).2≠0 then q.aF x.au
   else cU ({y with l:=y.l.eraseIdx y.at_}::up) (q.aF x.au).1
  else q.bg x.au x.leaf x.l:=by
 conv=>lhs;unfold cU
def bF.xW{g m cc:Nat}{Lp:List SM}{Z:SM}{k:Nat}(h:bF w b (U3 (lc g) m cc) (Lp++[Z]))(hp:Lp.length=k)(i:Nat)(hi:i<4):w.cell? ⟨g,k*4+i,none⟩=Z.cells[i]?:=by
 have h1:=h.cell (k:=Lp.length) (Z:=Z) (by rw[eC (ai _),ik];rfl) i hi;rw[hp]at h1;exact h1
def NR{q:QS}{v:Value}{L:List SM}(pre:List Step)(x:Step)(h:TQ w tb I F q n Kz)(hKz:Kz<=999999980000)(SA:bF w b v L)(hb:b<=w.heap.size)(qf:L.map SM.s=pre++[x])(uN:∀s∈pre,s.at_<s.l.length/\s.l.length<=1000)(OE:x.l.length<=1000)(hp16:pre.length<=16):
  io prog 76 #[tp tb,v] w λe w'=>e=fd (U5 U6 (cU (x::pre.reverse) q).2)/\PB b w w' I F (cU (x::pre.reverse) q).1 n (Kz+601):=by
 obtain⟨Lp,A,c,g,cc,rfl,mV,rfl,hbg,Ku,rS,iO,Xw,S1,f1⟩:=SA.last qf;have KD:=xh (λ(W:BY) (qj:QS) (hW:TQ W tb I F qj n Kz) (p:Int)=>uK hW.2 p);have KW:=xh (λ(W:BY) (qj:QS) (kj:Nat) (hW:TQ W tb I F qj n kj) (hk:kj<=999999999999) (p:Int) (leaf:Bool) (A:Option Addr) (m c:Nat) (l:List E) (S:bm W 111 3 (U3 A m c) m (aL l)) (hm:m<=1000)=>ra hW hk p leaf A m c l S hm)
 have KL:=xh (λ(W:BY) (qj:QS) (hW:TQ W tb I F qj n Kz) (leaf:Bool) (A:Option Addr) (m c:Nat) (l:List E) (S:bm W 111 3 (U3 A m c) m (aL l)) (hm:m<=1000)=>RU hW ls leaf A m c l S hm);obtain⟨R,hR⟩:∃R,cU (x::pre.reverse) q=R:=⟨_,rfl⟩;rw[hR];have HR:=xh hR;have HM:=xh mV;have vP:=xh uN;have HXL:=xh OE
 have HA:=g9 (bF w b (U3 (lc g) (pre.length+1) cc) (Lp++[⟨x,A,c⟩])/\TQ w tb I F q n Kz/\OB b w w F F/\b<=w.heap.size) ⟨SA,h,OB.refl _ _ _,hb⟩;clear h SA qf uN OE hR iO Xw S1 f1 mV;unfold tp bQ at *;go_in;go_wp2_with fail
 go_loopw [1] (λsv wr=> ∃(pre:List Step) (x:Step) (Lp:List SM) (A:Option Addr) (c:Nat) (qi:QS),pre.length<=16/\pre.length+1<=cc/\sv=U3 (lc g) (pre.length+1) cc/\Hid (Lp.map SM.s=pre)/\Hid (cU (x::pre.reverse) qi=R)/\Hid (∀s∈pre,s.at_<s.l.length/\s.l.length<=1000)/\Hid (x.l.length<=1000)/\Hid (bF wr b (U3 (lc g) (pre.length+1) cc) (Lp++[⟨x,A,c⟩])/\TQ wr tb I F qi n Kz/\OB b w wr F F/\b<=wr.heap.size)) (λsv _=>TF sv)
 case atStart=>exact⟨pre,x,Lp,A,c,q,hp16,Ku,rfl,HM,HR,vP,HXL,HA⟩
 case round=>
  obtain⟨pre,x,Lp,A,c,qi,hp16,Ku,rfl,HM,HR,vP,HXL,HA⟩:=hrel;have yf:=g9 (Lp.length=pre.length) (by rw[<-HM.o,eZ]);obtain⟨xp,xf,xl,xa⟩:=x;dsimp only at HXL;have c0:wr.cell? ⟨g,pre.length*4,none⟩=some (xp:li):=HA.o.1.xW yf.o 0 ls;have c1:wr.cell? ⟨g,pre.length*4+1,none⟩=some (WF xf):=HA.o.1.xW yf.o 1 ls;have c2:wr.cell? ⟨g,pre.length*4+1+1,none⟩=some (U3 A xl.length c):=HA.o.1.xW yf.o 2 ls
  have c3:wr.cell? ⟨g,pre.length*4+3,none⟩=some ((xa:Nat):li):=HA.o.1.xW yf.o 3 ls
  rcases vk pre with rfl|⟨fE,y,hpe⟩
  .have cA:=HR.o;rw[List.reverse_nil,sR]at cA;rw[show([]:List Step).length=0 from rfl,qA]at c0 c1 c2 c3;rw[bV]at c1 c2 c3
   cases xf
   .rw[i8]at cA;subst cA;have ja:=i6 wr (Pi #[xp,WF false,U3 A xl.length c,(xa:Nat)] 120);have BS:=xh<|aM.new wr 120 #[xp,WF false,U3 A xl.length c,(xa:Nat)];have y0:=BS.ap 0;have y1:=BS.ap 1;have y2:=BS.ap 2
    have H1:=g9 (TQ _ tb I F qi n Kz/\bm _ 111 3 (U3 A xl.length c) xl.length (aL xl)/\OB b w _ F F) ⟨HA.o.2.1.below ja,(HA.o.1.e ⟨⟨xp,false,xl,xa⟩,A,c⟩ lw).1.below ja,HA.o.2.2.1.below ja⟩;clear ja;have K1:=xh<|KL.o _ qi H1.o.1 false A xl.length c xl H1.o.2.1 HXL.o;unfold bQ at K1;go_wp2_with fail;go_call K1.o as e w6 ⟨rfl,P6,o6⟩;have P6:=xh P6;have o6:=xh o6;clear y0 y1 y2;go_wp2;go_ret
    exact bz (((H1.o.2.2.step hb o6.o (λ_ hg=> .inl hg)).pb P6.o).le ls)
   .rw[U8 rfl]at cA;subst cA;have ja:=i6 wr (Pi #[xp,WF true,U3 A xl.length c,(xa:Nat)] 120);have BS:=xh<|aM.new wr 120 #[xp,WF true,U3 A xl.length c,(xa:Nat)];have y0:=BS.ap 0;have y1:=BS.ap 1;have y2:=BS.ap 2
    have H1:=g9 (TQ _ tb I F qi n Kz/\bm _ 111 3 (U3 A xl.length c) xl.length (aL xl)/\OB b w _ F F) ⟨HA.o.2.1.below ja,(HA.o.1.e ⟨⟨xp,true,xl,xa⟩,A,c⟩ lw).1.below ja,HA.o.2.2.1.below ja⟩;clear ja;have K1:=xh<|KW.o _ qi Kz H1.o.1 ls xp true A xl.length c xl H1.o.2.1 HXL.o;go_wp2_with fail;go_call K1.o as e w6 ⟨rfl,P6,o6⟩;have P6:=xh P6;have o6:=xh o6;clear y0 y1 y2;go_wp2;go_ret
    exact bz (((H1.o.2.2.step hb o6.o (λ_ hg=> .inl hg)).pb P6.o).le ls)
  .obtain rfl:pre=fE++[y]:=by simpa using hpe
   clear hpe;have tQ:(fE++[y]).length=fE.length+1:=lw
   generalize (fE++[y]).length=k at *;have s1:U6.wrap (((k+1:Nat):Int)-1)=(k:Int):=by rw[show((k+1:Nat):Int)-1=(k:Int) by omega];exact d9
   have s2:(k:Int)<((k+1:Nat):Int):=ls
   have s3:(1:Int)<((k+1:Nat):Int):=ls
   have s4:U6.wrap (k:Int)=(k:Int):=d9;have s5:(k:Int)<(k:Int)+1/\0<=(k:Int):=ls
   have s6:U6.wrap ((k:Int)-1)=(fE.length:Int):=by rw[show(k:Int)-1=(fE.length:Int) by omega];exact d9
   have s7:(fE.length:Int)<(k:Int):=ls
   have HK2:=xh tQ;clear tQ;have cA:=HR.o;rw[List.reverse_append,List.reverse_singleton,wG,sS]at cA;dsimp only at cA
   by_cases Jt:xl.length=0
   .have hxn:xl=[]:=IZ.1 Jt;subst hxn;rw[U8 rfl]at cA;have KD2:=xh<|KD.o _ qi HA.o.2.1.drew xp;have ru:=xh (show(λW=>W.cell? (lc tb)=some (lc I.pb:li)/\W.cell? ⟨g,k*4,none⟩=some (xp:li)) wr.drew from⟨HA.o.2.1.drew.1.bi 0,(HA.o.1.below (Below.refl _ _).drew).xW yf.o 0 ls⟩);generalize qi.aF xp=R2 at *;obtain⟨qd,ed⟩:=R2;dsimp only at *;have gI:=xh cA
    obtain⟨yi,AY,cY,rfl,RN⟩:∃yi AY cY,Lp=yi++[(⟨y,AY,cY⟩:SM)]/\yi.map SM.s=fE:=by
     have:=HM.o
     rcases vk Lp with h0|⟨yi,Y,h0⟩
     .rw[h0]at this;simp at this
     .have h0:Lp=yi++[Y]:=by simpa using h0
      rw[h0,eS]at this;obtain⟨a1,a2⟩:=OT this rfl;obtain⟨ys,AY,cY⟩:=Y;simp at a2;subst a2;exact⟨yi,AY,cY,h0,a1⟩
    have HPL':=g9 (yi.length=fE.length) (by rw[<-RN,eZ]);have HMP:=xh RN;have hfy:=vP.o y lw;have hya:=hfy.1;have hyn:=hfy.2;have Ca:(0:Int)<=(k:Int)/\(k:Int)<=(cc:Int):=ls
    clear cA hfy RN Jt;unfold pp at *;go_wp2;refine kw (λW=>W.cell? (lc tb)=some (lc I.pb:li)/\W.cell? ⟨g,k*4,none⟩=some (xp:li)) (ru.o) (λaC=>?_);refine dj [(0,23),(1,24),(2,25),(3,26),(4,27),(5,28),(6,29),(7,30),(8,31),(9,32),(10,33)] ?_
    iterate 11 refine bJ ?_
    refine dV 11 34 λK hK=>?_;go_simp
    go_at_call 132
    go_call KD2.o as e w2 ⟨rfl,P2,o2⟩;have o2:=xh o2;have P2:=xh P2;have yG:=xh (show(λW=>W.cell? (lc tb)=some (lc I.pb:li)/\W.cell? ⟨g,k*4,none⟩=some (xp:li)) w2 from⟨(HA.o.2.1.drew.next o2.o P2.o).1.ae (i:=0) rfl,((HA.o.1.below (Below.refl _ _).drew).AS HA.o.2.1.drew.2 o2.o).xW yf.o 0 ls⟩);go_simp;refine cq hK (yG.o) (λaC=>?_);refine dj [(12,5)] ?_
    iterate 1 refine bJ ?_
    refine jp ?_ _;have SA2:=(HA.o.1.below (Below.refl _ _).drew).AS HA.o.2.1.drew.2 o2.o;have hpop:=SA2.pop;rw[yf.o]at hpop;have H2:=xh (show TQ w2 tb I F qd n Kz/\bF w2 b (U3 (lc g) k cc) (yi++⟨y,AY,cY⟩::[])/\OB b w w2 F F/\b<=w2.heap.size from
     ⟨HA.o.2.1.drew.next o2.o P2.o,hpop,(HA.o.2.2.1.below (Below.refl _ _).drew).step hb o2.o (λ_ hg=> .inl hg),aD HA.o.2.2.2 o2.o.size⟩)
    clear SA2 hpop P2 o2 yG c0 c1 c2 c3
    by_cases he:ed=0
    .subst he;have cA:=gI.o;rw[U9 (show ¬((0:Int)≠0) by simp)]at cA;have gI:=xh cA;obtain⟨w8,NN⟩:∃w8,w2.drew=w8:=⟨_,rfl⟩;have AW:i7 w2 w8:=by rw[<-NN];exact(Below.refl _ _).drew
     have H8:=xh (show TQ w8 tb I F qd n Kz/\bF w8 b (U3 (lc g) k cc) (yi++⟨y,AY,cY⟩::[])/\OB b w w8 F F/\b<=w8.heap.size from
      ⟨H2.o.1.below AW,H2.o.2.1.below AW,H2.o.2.2.1.below AW,aD H2.o.2.2.2 AW.size⟩)
     have KS8:=xh (show(λW=>W.cell? ⟨g,fE.length*4+3,none⟩=some ((y.at_:Nat):li)) w8 from H8.o.2.1.xW HPL'.o 3 ls);have x8:w8.cell? ⟨g,fE.length*4+2,none⟩=some (U3 AY y.l.length cY):=H8.o.2.1.xW HPL'.o 2 ls;have SY:=H8.o.2.1.e ⟨y,AY,cY⟩ lw;have KDE:=xh<|Nd.sQ SY.1 y.at_ hya (show y.l.length<=100000 by omega);have FW:=xh (show(y.l.eraseIdx y.at_).length=y.l.length-1 from by rw[Pm hya])
     have s8:U6.wrap ((y.at_:Int)+1)=(y.at_:Int)+1:=d9;have HS9:=xh (show ∀W,ah (ak (U3 AY y.l.length cY)) w8 W->(λW=>W.cell? ⟨g,fE.length*4+3,none⟩=some ((y.at_:Nat):li)) W from λW o=>by
      have hgY:g∉ak (U3 AY y.l.length cY):=λhm=>nJ SY.1 H8.o.2.1.s ms g hm (by simp[ak]);exact(o.cell (p:=⟨g,fE.length*4+3,none⟩) (dU KS8.o) hgY).trans KS8.o)
     clear SY AW cA;go_wp2;refine kw (λW=>W.cell? ⟨g,fE.length*4+3,none⟩=some ((y.at_:Nat):li)) (by rw[NN];exact KS8.o) (λaC=>?_);rw[NN];clear NN;refine dj [(0,48),(1,49),(2,50),(3,51),(4,52),(6,54),(7,55),(8,56),(9,57),(10,58),(11,59),(12,60),(13,61),(14,62)] ?_
     iterate 14 refine bJ ?_
     refine dV 5 53 λK hK=>?_;go_simp;refine cq hK (KS8.o) (λaC=>?_);refine dV 15 63 λK hK=>?_;go_simp
     go_at_call 72
     go_call KDE.o as e w9 ⟨rfl,S9,o9⟩;have S9:=xh S9;have o9:=xh o9;have KS9:=xh<|HS9.o w9 o9.o;go_simp;refine cq hK (KS9.o) (λaC=>?_);refine dj [(16,64),(17,65),(18,66)] ?_
     iterate 3 refine bJ ?_
     refine pF 19 λK hK=>?_;go_simp;obtain⟨SP,sx,sz⟩:=H8.o.2.1.put (Lp:=yi) (Ls:=[]) (y.l.eraseIdx y.at_) (A':=AY) (c':=cY) (by rw[FW.o];exact S9.o) o9.o (λz hz=> .inl ((ZG AY _ _ _ _)▸hz)) H8.o.2.2.2;rw[HPL'.o]at SP sx sz;rw[FW.o]at SP;have SP:=xh SP
     replace sx:w9.cell? ⟨g,fE.length*4+2,none⟩=some (U3 AY y.l.length cY):=sx
     have JJ:=g9 (ah (g::ak (U3 AY y.l.length cY)) w8 (w9.setCell ⟨g,fE.length*4+2,none⟩ (U3 AY (y.l.length-1) cY))) ((o9.o.mono (λx hx _=>aH _ hx)).setCell lw _);have Ki:=xh (show(λW=>W.cell? ⟨g,fE.length*4+3,none⟩=some ((y.at_:Nat):li)) (w9.setCell ⟨g,fE.length*4+2,none⟩ (U3 AY (y.l.length-1) cY))from SP.o.xW HPL'.o 3 ls);go_simp;refine cq hK (Ki.o) (λaC=>?_)
     refine jp ?_ _;have tx:=H8.o.2.1.off H8.o.1.2;have Kk:=H8.o.2.1.tree H8.o.1.1
     have HN:=xh (show bF (w9.setCell ⟨g,fE.length*4+2,none⟩ (U3 AY (y.l.length-1) cY)) b (U3 (lc g) k cc) (yi++[⟨{y with l:=y.l.eraseIdx y.at_},AY,cY⟩])/\TQ (w9.setCell ⟨g,fE.length*4+2,none⟩ (U3 AY (y.l.length-1) cY)) tb I F qd n Kz/\OB b w (w9.setCell ⟨g,fE.length*4+2,none⟩ (U3 AY (y.l.length-1) cY)) F F/\b<=(w9.setCell ⟨g,fE.length*4+2,none⟩ (U3 AY (y.l.length-1) cY)).heap.size from
      ⟨SP.o,H8.o.1.only JJ.o (λz hz hm=>by
       rcases ax.1 hz with h1|h1<;>rcases ax.1 hm with h2|h2
       .exact Kk.1 (by rw[<-h1,h2];simp[ak])
       .exact Kk.2 ⟨y,AY,cY⟩ lw (by rw[<-h1];exact h2)
       .exact tx.1 z (by rw[h2];simp[ak]) h1
       .exact tx.2 ⟨y,AY,cY⟩ lw z h2 h1),H8.o.2.2.1.own JJ.o (λz hz=>by
       rcases ax.1 hz with h2|h2
       .rw[h2];exact H8.o.2.1.f g (by simp[ak])
       .exact(H8.o.2.1.e ⟨y,AY,cY⟩ lw).2 z h2),aD H8.o.2.2.2 JJ.o.size⟩)
     clear tx Kk;go_wp2;go_roundw
     case rel=>exact⟨fE,{y with l:=y.l.eraseIdx y.at_},yi,AY,cY,qd,by have:=HK2.o;omega,by have:=HK2.o;omega,by rw[HK2.o],HMP,gI,xh (λs hs=>vP.o s (by simp[hs])),xh (show(y.l.eraseIdx y.at_).length<=1000 from by rw[FW.o];omega),by rw[<-HK2.o];exact HN⟩
     case measure=>(have:=HK2.o;simp only[TF];omega)
    .have cA:=gI.o;rw[U8 he]at cA;subst cA;have hq:(ed != 0)=true:=lm he
     have kP:(ed==0)=false:=i4 he
     go_wp2;go_ret;exact bz ((H2.o.2.2.1.pb H2.o.1.2).le ls)
   .rw[U9 (λe=>Jt (by rw[e];rfl))]at cA;subst cA;have hx1:((xl.length:Nat):Int)≠0:=ls
    have Ou:(((xl.length:Nat):Int)==0)=false:=i4 hx1
    have ja:=i6 wr (Pi #[xp,WF xf,U3 A xl.length c,(xa:Nat)] 120);have BS:=xh<|aM.new wr 120 #[xp,WF xf,U3 A xl.length c,(xa:Nat)];have y0:=BS.ap 0;have y1:=BS.ap 1;have y2:=BS.ap 2
    have H1:=g9 (TQ _ tb I F qi n Kz/\bm _ 111 3 (U3 A xl.length c) xl.length (aL xl)/\OB b w _ F F) ⟨HA.o.2.1.below ja,(HA.o.1.e ⟨⟨xp,xf,xl,xa⟩,A,c⟩ lw).1.below ja,HA.o.2.2.1.below ja⟩;clear ja;have K1:=xh<|KW.o _ qi Kz H1.o.1 ls xp xf A xl.length c xl H1.o.2.1 HXL.o;go_wp2_with fail;go_call K1.o as e w6 ⟨rfl,P6,o6⟩;have P6:=xh P6;have o6:=xh o6;clear y0 y1 y2;go_wp2;go_ret
    exact bz (((H1.o.2.2.step hb o6.o (λ_ hg=> .inl hg)).pb P6.o).le ls)
def QS.fR(q:QS)(key:Nm):QS×Int:=
 if(q.cI key).2.2≠0 then((q.cI key).1,(q.cI key).2.2)
 else if cg (eF (q.cI key).2.1).l key=false then((q.cI key).1,9)
 else if((q.cI key).1.hX (eF (q.cI key).2.1).l key).2≠0 then(q.cI key).1.hX (eF (q.cI key).2.1).l key
 else cU ({eF (q.cI key).2.1 with l:=pY (eF (q.cI key).2.1).l key}::(q.cI key).2.1.dropLast.reverse) ((q.cI key).1.hX (eF (q.cI key).2.1).l key).1
def Fv{q:QS}(h:TQ w tb I F q n Kz)(hKz:Kz<=999999970000)(key:Nm):
  io prog 26 #[tp tb,U7 key] w λe w'=>e=fd (U5 U6 (q.fR key).2)/\PT w w' I F (q.fR key).1 n (Kz+700):=by
 have KW:=xh<|Ft h ls key;have HT:=xh h;have fN:=RM (q:=q) (key:=key);unfold QS.fR;generalize q.cI key=R at *;obtain⟨q1,steps,er⟩:=R;dsimp only at *;unfold tp at *
 by_cases he:er=0
 .subst he;obtain⟨pre,x,rfl,vI,hnl,py,hlen⟩:=fN rfl;rw[i8,show eF (pre++[x])=x from by unfold eF;simp,show(pre++[x]).dropLast=pre from by simp];have hxo:=py x lw;obtain⟨hm,hl57,_⟩:=hxo;have hm:=xh hm;have vP:=g9 (∀s∈pre,Fit s) (λs hs=>(py s (by simp[hs])).fit (hnl s hs));clear fN hnl py vI h
  obtain⟨RR,cA⟩:∃RR,(if cg x.l key=false then(q1,9)else if(q1.hX x.l key).2≠0 then q1.hX x.l key else cU ({x with l:=pY x.l key}::pre.reverse) (q1.hX x.l key).1)=RR:=⟨_,rfl⟩;rw[cA];have gI:=xh cA;clear cA;go_in;go_wp2_with fail;go_call KW.o as e w1 ⟨v,L,rfl,SA,qf,P1,o1⟩;have hlast:=SA.last qf;obtain⟨Lp,A,c,g,cc,rfl,mV,rfl,hbg,Ku,rS,iO,Xw,S1,f1⟩:=hlast
  have H1:=g9 (TQ w1 tb I F q1 n (Kz+16)/\bF w1 w.heap.size (U3 (lc g) (pre.length+1) cc) (Lp++[⟨x,A,c⟩])/\OB w.heap.size w w1 F F/\w.heap.size<=w1.heap.size) ⟨HT.o.next o1 P1,SA,(OB.refl w.heap.size w F).step (ai _) o1 (λ_ hg=> .inl hg),o1.size⟩;have yf:=g9 (Lp.length=pre.length) (by rw[<-mV,eZ]);have HMP:=xh mV;have S1:=xh S1;have x1:w1.cell? ⟨g,pre.length*4+1,none⟩=some (WF x.leaf):=iO 1 ls
  have x2:w1.cell? ⟨g,pre.length*4+1+1,none⟩=some (U3 A x.l.length c):=iO 2 ls;have s1:U6.wrap (((pre.length+1:Nat):Int)-1)=(pre.length:Int):=by rw[show((pre.length+1:Nat):Int)-1=(pre.length:Int) by omega];exact d9
  have s2:(pre.length:Int)<((pre.length+1:Nat):Int):=ls
  have KF:=xh<|Nd.zm x.leaf A x.l.length c x.l key (Nd.bm.aL S1.o).2 ls hm.o;unfold bQ at KF;clear SA qf P1 o1 mV iO Xw f1;go_wp2_with fail;go_call KF.o as e w3 ⟨rfl,gK⟩;have O3:=xh gK
  have H3:=g9 (TQ w3 tb I F q1 n (Kz+16)/\bF w3 w.heap.size (U3 (lc g) (pre.length+1) cc) (Lp++[⟨x,A,c⟩])/\OB w.heap.size w w3 F F/\w.heap.size<=w3.heap.size) ⟨H1.o.1.below O3.o,H1.o.2.1.below O3.o,H1.o.2.2.1.below O3.o,aD H1.o.2.2.2 O3.o.size⟩;have S3:=xh<|S1.o.below gK;have u2:w3.cell? ⟨g,pre.length*4+1+1,none⟩=some (U3 A x.l.length c):=(O3.o.cell (p:=⟨g,pre.length*4+1+1,none⟩) (dU x2)).trans x2
  clear x1 x2 gK H1 S1 O3
  by_cases hh:cg x.l key=true
  .have cA:=gI.o;rw[U9 (by rw[hh];simp)]at cA;have gI:=xh cA;clear cA;obtain⟨ex,hex⟩:=EF hh;have hfx:x.l.getD (aY x.l key) Nd.E.zero=ex:=by rw[jG,hex];rfl
   have cA:=gI.o;unfold QS.hX pY at cA;rw[U8 hh,U8 hh,hfx]at cA;generalize cg x.l key=hb at *;subst hh;have sE:aY x.l key<x.l.length:=(aW.1 hex).1;generalize aY x.l key=at_ at *;obtain⟨ad,zN,iy⟩:=(Nd.bm.aL S3.o).2.2 at_ ex hex;obtain⟨ga,ca,AR,FY,_⟩:=S3.o.form ls ls;injection FY with e1 ezz e3
   clear ezz;subst e1 e3;injection zN with zN
   subst zN;rw[Nd.jq,bV]at iy;have u3:=iy.c0;have u4:=iy.c1;have u5:=iy.c2;dsimp only at u4 u5;have KA:=xh<|IA H3.o.1 ls ex;unfold E.agg tp at KA;have hflI:(at_:Int)<(x.l.length:Int):=ls
   generalize q1.jY ex=R2 at *;obtain⟨q2,e2⟩:=R2;dsimp only at *;have gI:=xh cA;clear iy hex hfx cA;go_wp2_with fail;go_call KA.o as e w4 ⟨rfl,P4,o4⟩
   have H4:=g9 (TQ w4 tb I F q2 n (Kz+21)/\bF w4 w.heap.size (U3 (lc g) (pre.length+1) cc) (Lp++[⟨x,some ⟨ga,0,none⟩,c⟩])/\OB w.heap.size w w4 F F/\w.heap.size<=w4.heap.size) ⟨H3.o.1.next o4 P4,H3.o.2.1.AS H3.o.1.2 o4,H3.o.2.2.1.step (ai _) o4 (λ_ hg=> .inl hg),aD H3.o.2.2.2 o4.size⟩;clear P4 o4 u2 u3 u4 u5 S3
   by_cases vh:e2=0
   .subst vh;have cA:=gI.o;rw[U9 (show ¬((0:Int)≠0) by simp)]at cA;have gI:=xh cA;have SX:=H4.o.2.1.e ⟨x,some ⟨ga,0,none⟩,c⟩ lw;have KD:=xh<|Nd.sQ SX.1 at_ sE (show x.l.length<=100000 by omega);have u2:=H4.o.2.1.cell (k:=Lp.length) (Z:=⟨x,some ⟨ga,0,none⟩,c⟩) (by rw[eC (ai _),ik];rfl) 2 ls;rw[yf.o]at u2
    replace u2:w4.cell? ⟨g,pre.length*4+1+1,none⟩=some (U3 (lc ga) x.l.length c):=u2
    have FW:=xh (show(x.l.eraseIdx at_).length=x.l.length-1 from by rw[Pm sE]);have s7:U6.wrap ((at_:Int)+1)=(at_:Int)+1:=d9;clear SX cA;go_wp2_with fail;go_call KD.o as e w5 ⟨rfl,S5,o5⟩;obtain⟨SP,sx,sz⟩:=H4.o.2.1.put (Lp:=Lp) (Ls:=[]) (x.l.eraseIdx at_) (A':=some ⟨ga,0,none⟩) (c':=c) (by rw[FW.o];exact S5) o5 (λz hz=> .inl hz) H4.o.2.2.2;rw[yf.o]at SP sx sz;rw[FW.o]at SP
    replace sx:w5.cell? ⟨g,pre.length*4+1+1,none⟩=some (U3 (lc ga) x.l.length c):=sx
    replace sz:w5.frozen? ⟨g,pre.length*4+1+1,none⟩=false:=sz
    have O5:ah (g::ak (U3 (lc ga) x.l.length c)) w4 (w5.setCell ⟨g,pre.length*4+1+1,none⟩ (U3 (lc ga) (x.l.length-1) c)):=(o5.mono (λx hx _=>aH _ hx)).setCell lw _;have tx:=H4.o.2.1.off H4.o.1.2;have Kk:=H4.o.2.1.tree H4.o.1.1
    have H5:=xh (show TQ (w5.setCell ⟨g,pre.length*4+1+1,none⟩ (U3 (lc ga) (x.l.length-1) c)) tb I F q2 n (Kz+21)/\bF (w5.setCell ⟨g,pre.length*4+1+1,none⟩ (U3 (lc ga) (x.l.length-1) c)) w.heap.size (U3 (lc g) (pre.length+1) cc) (Lp++[⟨{x with l:=x.l.eraseIdx at_},some ⟨ga,0,none⟩,c⟩])/\OB w.heap.size w (w5.setCell ⟨g,pre.length*4+1+1,none⟩ (U3 (lc ga) (x.l.length-1) c)) F F/\w.heap.size<=(w5.setCell ⟨g,pre.length*4+1+1,none⟩ (U3 (lc ga) (x.l.length-1) c)).heap.size from
     ⟨H4.o.1.only O5 (λz hz hm=>by
      rcases ax.1 hz with h1|h1<;>rcases ax.1 hm with h2|h2
      .exact Kk.1 (by rw[<-h1,h2];simp[ak])
      .exact Kk.2 ⟨x,some ⟨ga,0,none⟩,c⟩ lw (by rw[<-h1];exact h2)
      .exact tx.1 z (by rw[h2];simp[ak]) h1
      .exact tx.2 ⟨x,some ⟨ga,0,none⟩,c⟩ lw z h2 h1),SP,H4.o.2.2.1.own O5 (λz hz=>by
      rcases ax.1 hz with h2|h2
      .rw[h2];exact H4.o.2.1.f g (by simp[ak])
      .exact(H4.o.2.1.e ⟨x,some ⟨ga,0,none⟩,c⟩ lw).2 z h2),aD H4.o.2.2.2 O5.size⟩)
    clear SP S5 o5 O5 tx Kk;obtain⟨w6,OM⟩:∃w6,(w5.setCell ⟨g,pre.length*4+1+1,none⟩ (U3 (lc ga) (x.l.length-1) c))=w6:=⟨_,rfl⟩;rw[OM]at H5;have WG:=gI.o;have KSH:=xh<|NR (b:=w.heap.size) pre {x with l:=x.l.eraseIdx at_} H5.o.1 ls H5.o.2.1 H5.o.2.2.2 (by rw[eS,HMP.o];rfl) (λs hs=>⟨(vP.o s hs).a,by have:=(vP.o s hs).n;omega⟩) (by show(x.l.eraseIdx at_).length<=1000;rw[FW.o];omega) ls
    rw[WG]at KSH;unfold tp at KSH;clear WG;go_wp2_with fail;go_call KSH.o as e w7 ⟨rfl,P7⟩;have P7:=xh P7;clear OM sx sz u2;go_wp2;go_ret;exact bz (((H5.o.2.2.1.trans P7.o).pt (ai _)).le ls)
   .have cA:=gI.o;rw[U8 vh]at cA;subst cA;have hq:(e2 != 0)=true:=lm vh
    have kP:(e2==0)=false:=i4 vh
    go_wp2;go_ret;exact bz (((H4.o.2.2.1.pb H4.o.1.2).pt (ai _)).le ls)
  .have hh2:cg x.l key=false:=by simpa using hh
   have cA:=gI.o;rw[U8 hh2]at cA;subst cA;generalize cg x.l key=hb at *;subst hh2;clear hh;go_wp2;go_ret;exact bz (((H3.o.2.2.1.pb H3.o.1.2).pt (ai _)).le ls)
 .rw[U8 he];have hq:(er != 0)=true:=lm he
  have kP:(er==0)=false:=i4 he
  clear fN;go_in;go_wp2_with fail;go_call KW.o as e w1 ⟨v,L,rfl,SA,qf,P1,o1⟩;have P1:=xh P1;have o1:=xh o1;clear SA qf;go_wp2;go_ret;exact bz ((PT.self P1.o o1.o).le ls)
def QS.kl(q:QS):QS×Int:=if q.a.jW.length=0 then((q.bE jZ).1,(q.bE jZ).2.2)else(q,0)
def QS.dJ(q:QS):QS×Int:=if q.kl.2≠0 then q.kl else((q.kl.1.aT 0).1,(q.kl.1.aT 0).2.2.2)
def Opened(w w':BY)(I:Ix)(F:List Nat)(q:QS)(e:Int)(n K:Nat)(v:Value):Prop:=
 ∃F',ah F w w'/\(∀g∈F',g∈F\/w.heap.size<=g)/\PQ w' I F' q n K/\(e≠0->v=.pointer none)/\(e=0->∃tb,v=tp tb/\w.heap.size<=tb/\TQ w' tb I F' q n K)
def uL{w:BY}{I:Ix}{F:List Nat}{q:QS}{n K:Nat}(h:PQ w I F q n K)(hK:K<=999999999000):
  io prog 24 #[pp I.pb] w λe w'=> ∃v,e=fd (.tuple #[v,q.dJ.2])/\Opened w w' I F q.dJ.1 q.dJ.2 n (K+2) v:=by
 have ja:=i6 w (Pi #[pp I.pb] 130);obtain⟨wT,hwT⟩:∃wT,w.heap.size=wT:=⟨_,rfl⟩;have HWT:=xh hwT;have BT:=aM.new w 130 #[pp I.pb];rw[hwT]at BT;have H1:=g9 (TQ _ wT I F q n K/\ah F w _) ⟨⟨BT,h.below ja⟩,.aj ja⟩;have K1:=xh<|RI H1.o.1.2;have K2:=xh<|RJ H1.o.1.2;unfold QS.dJ QS.kl;unfold pp sp at *
 by_cases h0:q.a.jW.length=0
 .rw[U8 h0];rw[h0]at K2;have K3:=xh (λ(W:BY)=>Nd.Ex (w:=W) true none 0 0 [] ⟨rfl,λk e he=>by simp at he⟩ ls);have hl:=Nd.Az true [];have hleaf:aP true []=(jZ,0):=by unfold jZ;decide
  rw[hleaf]at K3 hl;dsimp only at K3 hl;have KN:=xh (λ(W:BY) (hW:PQ W I F q n K)=>Fq hW ls ⟨jZ.toArray⟩ (by show jZ.toArray.size<=232;simp;exact hl));have HLB:=xh (show(⟨jZ.toArray⟩:Nm).data.toList=jZ from by simp);rw[HLB.o]at KN;generalize q.bE jZ=R at *;obtain⟨q1,p1,e1⟩:=R;dsimp only at *;unfold bQ at K3;unfold pp at KN;obtain⟨RR,cA⟩:∃RR,(if e1≠0 then(q1,e1)else((q1.aT 0).1,(q1.aT 0).2.2.2))=RR:=⟨_,rfl⟩;rw[cA]
  have gI:=xh cA;clear cA;go_in;go_wp2_with fail;go_call K1.o as e w2 ⟨rfl,rfl⟩;go_wp2_with fail;go_call K2.o as e w3 ⟨A3,c3,rfl,S3,gK⟩;have H3:=g9 (TQ w3 wT I F q n K/\ah F w w3) ⟨H1.o.1.below gK,H1.o.2.trans (.aj gK)⟩;clear S3 gK;go_wp2_with fail;go_call (K3.o w3) as e w4 ⟨rfl,iZ⟩
  have H4:=g9 (TQ w4 wT I F q n K/\ah F w w4) ⟨H3.o.1.below iZ,H3.o.2.trans (.aj iZ)⟩;clear iZ;go_wp2_with fail;go_call (KN.o w4 H4.o.1.2) as e w5 ⟨rfl,P5⟩;obtain⟨F1,T5,o5,f5⟩:=P5.tq H4.o.1;have HT:=g9 (TQ w5 wT I F1 q1 n (K+1)/\ah F w w5/\(∀g∈F1,g∈F\/w.heap.size<=g)) ⟨T5,H4.o.2.trans o5,λg hg=>(f5 g hg).imp id (λh=>aD H4.o.2.size h)⟩;clear P5 T5 o5 f5
  by_cases OJ:e1=0
  .subst OJ;have cA:=gI.o;rw[U9 (show ¬((0:Int)≠0) by simp)]at cA;have K9:=xh<|qe HT.o.1 ls 0;have hlen:=nP q1 0;generalize q1.aT 0=r at *;obtain⟨q2,lf,l,er⟩:=r;dsimp only at *;subst cA;unfold tp bQ at K9;go_wp2_with fail;go_call K9.o as e w9 ⟨A9,c9,rfl,S9,f9,P9,o9⟩;have mW:=i6 w9 (Pi #[WF lf,U3 A9 l.length c9] 118)
   have H9:=g9 (TQ _ wT I F1 q2 n (K+2)/\ah F w _/\(∀g∈F1,g∈F\/w.heap.size<=g)) ⟨(HT.o.1.next o9 P9).below mW,(HT.o.2.1.bj o9 (λg hg dP=>(HT.o.2.2 g hg).elim id (λh=>by omega))).trans (.aj mW),HT.o.2.2⟩;clear S9 f9 P9 o9 mW
   by_cases he:er=0
   .subst he;go_wp2;go_ret2;exact⟨_,by first|rfl|simp,F1,H9.o.2.1,H9.o.2.2,H9.o.1.2,λh=>eq rfl h,λ_=>⟨wT,by unfold tp;first|rfl|simp[HWT.o],by rw[<-HWT.o];exact ai _,H9.o.1⟩⟩
   .have hq:(er != 0)=true:=lm he
    have kP:(er==0)=false:=i4 he
    go_wp2;go_ret2;exact⟨_,by first|rfl|simp,F1,H9.o.2.1,H9.o.2.2,H9.o.1.2,λ_=>rfl,λh=>eq h he⟩
  .have cA:=gI.o;rw[U8 OJ]at cA;subst cA;have hq:(e1 != 0)=true:=lm OJ
   have kP:(e1==0)=false:=i4 OJ
   go_wp2;go_ret2;exact⟨_,by first|rfl|simp,F1,HT.o.2.1,HT.o.2.2,HT.o.1.2.le ls,λ_=>rfl,λh=>eq h OJ⟩
 .rw[U9 h0,U9 (show ¬((0:Int)≠0) by simp)];dsimp only;have h0I:((q.a.jW.length:Nat):Int)≠0:=ls
  generalize q.a.jW.length=np at *;obtain⟨RR,cA⟩:∃RR,((q.aT 0).1,(q.aT 0).2.2.2)=RR:=⟨_,rfl⟩;rw[show(q.aT 0).1=RR.1 from by rw[<-cA],show(q.aT 0).2.2.2=RR.2 from by rw[<-cA]];have gI:=xh cA;clear cA;go_in;go_wp2_with fail;go_call K1.o as e w2 ⟨rfl,rfl⟩;go_wp2_with fail;go_call K2.o as e w3 ⟨A3,c3,rfl,S3,gK⟩
  have HT:=g9 (TQ w3 wT I F q n (K+1)/\ah F w w3/\(∀g∈F,g∈F\/w.heap.size<=g)) ⟨(H1.o.1.below gK).le ls,H1.o.2.trans (.aj gK),λg hg=> .inl hg⟩;clear S3 gK;have cA:=gI.o;have K9:=xh<|qe HT.o.1 ls 0;have hlen:=nP q 0;generalize q.aT 0=r at *;obtain⟨q2,lf,l,er⟩:=r;dsimp only at *;subst cA;unfold tp bQ at K9;go_wp2_with fail;go_call K9.o as e w9 ⟨A9,c9,rfl,S9,f9,P9,o9⟩
  have mW:=i6 w9 (Pi #[WF lf,U3 A9 l.length c9] 118);have H9:=g9 (TQ _ wT I F q2 n (K+2)/\ah F w _/\(∀g∈F,g∈F\/w.heap.size<=g)) ⟨(HT.o.1.next o9 P9).below mW,(HT.o.2.1.bj o9 (λg hg dP=>(HT.o.2.2 g hg).elim id (λh=>by omega))).trans (.aj mW),HT.o.2.2⟩;clear S9 f9 P9 o9 mW
  by_cases he:er=0
  .subst he;go_wp2;go_ret2;exact⟨_,by first|rfl|simp,F,H9.o.2.1,H9.o.2.2,H9.o.1.2,λh=>eq rfl h,λ_=>⟨wT,by unfold tp;first|rfl|simp[HWT.o],by rw[<-HWT.o];exact ai _,H9.o.1⟩⟩
  .have hq:(er != 0)=true:=lm he
   have kP:(er==0)=false:=i4 he
   go_wp2;go_ret2;exact⟨_,by first|rfl|simp,F,H9.o.2.1,H9.o.2.2,H9.o.1.2,λ_=>rfl,λh=>eq h he⟩
end Sh.Cn
end Go.Proofs.YtmonobkginiajaaGreat
