/- packed. -/
import Derived.Test.YtmonobkginiajaaGreatAs11
set_option linter.all false
set_option maxRecDepth 100000
set_option maxHeartbeats 8000000
namespace Go.Proofs.YtmonobkginiajaaGreat
open Go.Proofs.Tryz
open Value renaming slice→U3,bool→U6
open Ending renaming returned→BY
open Obj renaming cells→WF
open Go renaming World→YB,Value→YO
namespace Sh
open Go.RowKit Pk Dk Pg
open Nd (E aJ bH aS aZ et bI bg cG bR)
variable{n K:Nat}{p:Int}
def QS.YK(q:QS):Nat:=(List.range 512).countP λj=>decide ((q.vw (j:Nat)).2=0)
theorem cnt_le(q:QS):q.YK<=512:=by
 have:=xj (p:=λj:Nat=>decide ((q.vw (j:Nat)).2=0)) (l:=List.range 512);rw[GS]at this;exact this
theorem Wp.vw_lt{q:QS}(h:Wp q n K){j:Int}(h0:(q.vw j).2=0):0<=j/\j<512:=by
 refine⟨vw_pos h0,?_⟩;have hr:(q.a.aP j).2=0:=by
  rcases iA q j with ho|⟨i,f,hi,rfl,hp⟩
  .rw[eW ho]at h0;exact h0
  .exact h.V.ex f (aA hi) hp
 have:=pA (wj.1 hr);have:=h.H.nl;omega
theorem YL{q q':QS}(h:Wp q n K)(h0:(q.vw p).2=0)(hv:∀j,q'.vw j=if j=p then([],3)else q.vw j):q'.YK+1=q.YK:=by
 obtain⟨p1,p2⟩:=h.vw_lt h0;obtain⟨m,rfl⟩:∃m:Nat,p=(m:Int):=⟨p.toNat,by omega⟩;have hm:m<512:=by omega
 unfold QS.YK;have key:∀N,m<N->((List.range N).countP λj=>decide ((q'.vw (j:Nat)).2=0))+1=(List.range N).countP λj=>decide ((q.vw (j:Nat)).2=0):=by
  intro N
  induction N with
  |zero=>intro h;omega
  |succ N ih=>
   intro hN;rw[GZ,ur,ur,M9,M9]
   by_cases e:m=N
   .subst e;have h1:decide ((q'.vw (m:Nat)).2=0)=false:=by rw[hv,if_pos rfl];decide
    rw[h1,h0];have h2:((List.range m).countP λj=>decide ((q'.vw (j:Nat)).2=0))=(List.range m).countP λj=>decide ((q.vw (j:Nat)).2=0):=by
     refine uu (λj hj=>?_);have:=l7.1 hj;rw[hv,gc]
    rw[h2];simp
   .have h1:q'.vw (N:Nat)=q.vw (N:Nat):=by rw[hv,gc]
    rw[h1];have:=ih (by omega);omega
 exact key 512 hm
theorem YM{q q':QS}(hv:∀j,q'.vw j=q.vw j):q'.YK=q.YK:=by
 unfold QS.YK;simp only[hv]
def mV:Nat->QS->Bool->List E->QS×Int
 |0,q,_,_=>(q,0)
 |m+1,q,leaf,l=>
  if leaf=false/\l.length=1 then
   if(q.bF (l.getD 0 Nd.E.zero).aY).2.2.2≠0 then((q.bF (l.getD 0 Nd.E.zero).aY).1,(q.bF (l.getD 0 Nd.E.zero).aY).2.2.2)
   else if((q.bF (l.getD 0 Nd.E.zero).aY).1.aV (l.getD 0 Nd.E.zero).aY).2≠0 then(q.bF (l.getD 0 Nd.E.zero).aY).1.aV (l.getD 0 Nd.E.zero).aY
   else mV m ((q.bF (l.getD 0 Nd.E.zero).aY).1.aV (l.getD 0 Nd.E.zero).aY).1 (q.bF (l.getD 0 Nd.E.zero).aY).2.1 (q.bF (l.getD 0 Nd.E.zero).aY).2.2.1
  else if l=[]then q.db 0 true []else q.db 0 leaf l
def QS.uW(q:QS)(leaf:Bool)(l:List E):QS×Int:=mV 600 q leaf l
theorem YN{q:QS}(h:Wp q n K)(p:Int):Wp (q.bF p).1 n (K+1)/\(∀j,(q.bF p).1.vw j=q.vw j):=by
 have hg:=(h.get p).1;have:(q.bF p).1=(q.dN p).1:=by unfold QS.bF;split<;>rfl
 rw[this];exact⟨hg.w,hg.v⟩
theorem YP{q:QS}(h:Wp q n K)(h0:(q.aV p).2=0):(q.aV p).1.YK+1=q.YK:=by
 rcases(h.drop p).2 with⟨a,b,c⟩|⟨a,b,c⟩
 .exact YL h a c
 .rw[h0]at b;exact absurd b (by decide)
theorem Qa{w:YB}{tb:Nat}{I:Ix}{F:List Nat}{q:QS}{Kz:Nat}(h:TQ w tb I F q n Kz)(YF:Kz<=999999990000)(leaf:Bool)(A:Option Addr)(m c:Nat)(l:List E)(S:aM w 111 3 (U3 A m c) m (aJ l))(hm:m<=1000):
  Calls prog 133 #[tp tb,bH leaf A m c] w λe w'=>e=BY (.int .i64 (q.uW leaf l).2)/\PQ w' I F (q.uW leaf l).1 n (Kz+601)/\ag F w w':=by
 have KR:=xh (λ(W:YB) (qj:QS) (kj:Nat) (hW:TQ W tb I F qj n kj) (hk:kj<=999999999999) (p:Int)=>pH hW hk p);have KD:=xh (λ(W:YB) (qj:QS) (kj:Nat) (hW:TQ W tb I F qj n kj) (p:Int)=>th hW.2 p);have KW:=xh (λ(W:YB) (qj:QS) (kj:Nat) (hW:TQ W tb I F qj n kj) (hk:kj<=999999999999) (leaf:Bool) (A:Option Addr) (m c:Nat) (l:List E) (S:aM W 111 3 (U3 A m c) m (aJ l)) (hm:m<=1000)=>qH hW hk 0 leaf A m c l S hm)
 have Yp:l.length=m:=by have:=S.1;rw[Nd.aw]at this;omega
 obtain⟨R,hR⟩:∃R,q.uW leaf l=R:=⟨_,rfl⟩;rw[hR];unfold QS.uW at hR;have HR:=xh hR;have iF:=i6 w (WF #[U6 leaf,U3 A m c] 118);have H0:=g9 (TQ _ tb I F q n (Kz+600-600)/\aM _ 111 3 (U3 A m c) m (aJ l)/\aF _ w.heap.size 118 #[U6 leaf,U3 A m c]/\ag F w _) ⟨h.below iF,S.below iF,aF.new w 118 #[U6 leaf,U3 A m c],.aj iF⟩;have XV:=g9 (q.YK<600) (by have:=cnt_le q;omega)
 have YR:=xh Yp;have HLEN:=xh (λ(qj:QS) (p:Int)=>lT qj p);clear h hR S iF Yp;unfold tp bH at *;go_in;go_wp2_with fail
 go_loopg [5] 600 (λk pv wr=> ∃(qi:QS) (leaf:Bool) (A:Option Addr) (m c:Nat) (l:List E),k<=600/\m<=1000/\Hid (mV k qi leaf l=R)/\Hid (qi.YK<k)/\Hid (l.length=m)/\Hid (TQ wr tb I F qi n (Kz+600-k)/\aM wr 111 3 (U3 A m c) m (aJ l)/\aF wr w.heap.size 118 #[U6 leaf,U3 A m c]/\ag F w wr))
 case atStart=>exact⟨q,leaf,A,m,c,l,by omega,hm,HR,XV,YR,H0⟩
 case round=>
  obtain⟨qi,lf,A,m,c,l,hk,hm,HR,XV,YR,H0⟩:=hrel;obtain⟨k',rfl⟩:∃k',gk=k'+1:=⟨gk-1,by have:=XV.o;omega⟩;have B0:=xh H0.o.2.2.1;have x0:=B0.ap 0;have x1:=B0.ap 1
  by_cases hc:lf=false/\m=1
  .obtain⟨rfl,rfl⟩:=hc;obtain⟨ex,rfl⟩:∃ex,l=[ex]:=List.length_eq_one_iff.1 YR.o;have bS:=HR.o;unfold mV at bS;rw[if_pos ⟨rfl,rfl⟩,show([ex]:List E).getD 0 Nd.E.zero=ex from rfl]at bS;obtain⟨ga,ca,zk,Eh,BA,_,_⟩:=H0.o.2.1.form (by omega) (by omega);injection Eh with e1 ezz e3
   clear ezz;subst e1 e3;have xf:wr.cell? ⟨ga,2,none⟩=some (ex.aY:li):=BA.ab rfl;have K1:=xh<|KR.o wr qi (Kz+600-(k'+1)) H0.o.1 (by omega) ex.aY;have hv:=YN H0.o.1.2.wp ex.aY;have hl1:=HLEN.o qi ex.aY;generalize qi.bF ex.aY=r at *;obtain⟨q1,Uw,l1,er⟩:=r;dsimp only at *;have HV:=xh hv;have fQ:=xh bS;clear bS hv BA;go_wp2_with fail;go_call K1.o as e w2 ⟨A1,c1,rfl,S2,f2,P2,o2⟩
   have HA2:=i6 w2 (WF #[U6 Uw,U3 A1 l1.length c1] 118);have B3:=xh<|aF.new w2 118 #[U6 Uw,U3 A1 l1.length c1];have Qb:w.heap.size∉F:=H0.o.1.2.fI B0.o
   have H2:=xh (show TQ (w2.alloc (WF #[U6 Uw,U3 A1 l1.length c1] 118)) tb I F q1 n (Kz+600-k')/\aM (w2.alloc (WF #[U6 Uw,U3 A1 l1.length c1] 118)) 111 3 (U3 A1 l1.length c1) l1.length (aJ l1)/\aF (w2.alloc (WF #[U6 Uw,U3 A1 l1.length c1] 118)) w.heap.size 118 #[U6 false,U3 (lc ga) 1 c]/\ag F w (w2.alloc (WF #[U6 Uw,U3 A1 l1.length c1] 118))/\w.heap.size<w2.heap.size from
    ⟨((H0.o.1.next o2 P2).below HA2).le (by omega),S2.below HA2,(B0.o.only o2 Qb).below HA2 (B0.o.only o2 Qb).lt,(H0.o.2.2.2.trans o2).trans (.aj HA2),(B0.o.only o2 Qb).lt⟩)
   clear S2 f2 P2 o2 HA2 x0 x1 xf
   by_cases he:er=0
   .subst he;have bS:=fQ.o;rw[if_neg (show ¬((0:Int)≠0) by simp)]at bS;have K2:=xh<|KD.o _ q1 _ H2.o.1 ex.aY;have hcnt:=YP (q:=q1) H2.o.1.2.wp (p:=ex.aY);generalize q1.aV ex.aY=R2 at *;obtain⟨q2,e2⟩:=R2;dsimp only at *;have HCD:=xh hcnt;have fQ:=xh bS;clear bS hcnt;unfold pp at K2;have xt:=H2.o.1.1.bi 0;unfold pp at xt;go_wp2_with fail;go_call K2.o as e w4 ⟨rfl,P4,o4⟩;have hnf:w2.heap.size∉F:=H2.o.1.2.fI B3.o
    have Qb:w.heap.size∉F:=H2.o.1.2.fI H2.o.2.2.1;have H4:=xh (show TQ w4 tb I F q2 n (Kz+600-k')/\aM w4 111 3 (U3 A1 l1.length c1) l1.length (aJ l1)/\aF w4 w.heap.size 118 #[U6 false,U3 (lc ga) 1 c]/\ag F w w4 from
     ⟨H2.o.1.next o4 P4,PT.Sz (.self P4 o4) H2.o.1.2 H2.o.2.1,H2.o.2.2.1.only o4 Qb,H2.o.2.2.2.1.trans o4⟩)
    have B4:=xh<|B3.o.only o4 hnf;clear P4 o4 xt hnf Qb B3
    by_cases zm:e2=0
    .subst zm;have bS:=fQ.o;rw[if_neg (show ¬((0:Int)≠0) by simp)]at bS;have fQ:=xh bS;obtain⟨SB,so,z0,z1,zf0,zf1⟩:=IE (b':=Uw) (v':=U3 A1 l1.length c1) H4.o.2.2.1;have y0:=B4.ap 0;have y1:=B4.ap 1;have HTB:tb≠w.heap.size:=λe=>H4.o.1.1.jJ H4.o.2.2.1 (by decide) e;have Qb:w.heap.size∉F:=H4.o.1.2.fI H4.o.2.2.1
     have H5:=xh (show TQ ((w4.setCell ⟨w.heap.size,0,none⟩ (U6 Uw)).setCell ⟨w.heap.size,1,none⟩ (U3 A1 l1.length c1)) tb I F q2 n (Kz+600-k')/\aM ((w4.setCell ⟨w.heap.size,0,none⟩ (U6 Uw)).setCell ⟨w.heap.size,1,none⟩ (U3 A1 l1.length c1)) 111 3 (U3 A1 l1.length c1) l1.length (aJ l1)/\aF ((w4.setCell ⟨w.heap.size,0,none⟩ (U6 Uw)).setCell ⟨w.heap.size,1,none⟩ (U3 A1 l1.length c1)) w.heap.size 118 #[U6 Uw,U3 A1 l1.length c1]/\ag F w ((w4.setCell ⟨w.heap.size,0,none⟩ (U6 Uw)).setCell ⟨w.heap.size,1,none⟩ (U3 A1 l1.length c1))from
      ⟨H4.o.1.only so (λz hz hm=>by
       rw[az.1 hm]at hz
       rcases ar.1 hz with h|h
       .exact HTB h.symm
       .exact Qb h),H4.o.2.1.only so (λz hz hm=>dL H4.o.2.1 H4.o.2.2.1 (by decide) (by rw[<-az.1 hm];exact hz)),SB,H4.o.2.2.2.aU so (λz hz ef=>by rw[az.1 hz]at ef;omega)⟩)
     clear SB so Qb HTB bS;go_wp2_with fail
     go_roundg k'
     case measure=>omega
     case rel=>exact⟨q2,Uw,A1,l1.length,c1,l1,by omega,by omega,fQ,xh (by have h1:=HCD.o (by trivial);have h2:=YM HV.o.2;have h3:=XV.o;omega),xh rfl,H5⟩
    .have bS:=fQ.o;rw[if_pos zm]at bS;subst bS;have hq:(e2 != 0)=true:=ls zm
     have my:(e2==0)=false:=i4 zm
     go_wp2;go_ret;exact aI ⟨H4.o.1.2.le (by omega),H4.o.2.2.2⟩
   .have bS:=fQ.o;rw[if_pos he]at bS;subst bS;have hq:(er != 0)=true:=ls he
    have my:(er==0)=false:=i4 he
    go_wp2;go_ret;exact aI ⟨H2.o.1.2.le (by omega),H2.o.2.2.2.1⟩
  .have bS:=HR.o;unfold mV at bS;rw[if_neg (by rw[YR.o];exact hc)]at bS
   by_cases hm0:m=0
   .subst hm0;have JE:l=[]:=GQ.1 YR.o;rw[if_pos JE]at bS;subst bS;obtain⟨SB,so,z0,z1,zf0,zf1⟩:=IE (b':=true) (v':=U3 none 0 0) H0.o.2.2.1;have HTB:tb≠w.heap.size:=λe=>H0.o.1.1.jJ H0.o.2.2.1 (by decide) e;have Qb:w.heap.size∉F:=H0.o.1.2.fI H0.o.2.2.1
    have H5:=xh (show TQ ((wr.setCell ⟨w.heap.size,0,none⟩ (U6 true)).setCell ⟨w.heap.size,1,none⟩ (U3 none 0 0)) tb I F qi n (Kz+600-(k'+1))/\ag F w ((wr.setCell ⟨w.heap.size,0,none⟩ (U6 true)).setCell ⟨w.heap.size,1,none⟩ (U3 none 0 0))from
      ⟨H0.o.1.only so (λz hz hm=>by
       rw[az.1 hm]at hz
       rcases ar.1 hz with h|h
       .exact HTB h.symm
       .exact Qb h),H0.o.2.2.2.aU so (λz hz ef=>by rw[az.1 hz]at ef;omega)⟩)
    have K6:=xh<|KW.o _ qi _ H5.o.1 (by omega) true none 0 0 [] (aM.nil _ _ _) (by omega);have y0:=SB.bi 0;have y1:=SB.bi 1;clear SB so Qb HTB JE
    cases lf
    .skip
     go_wp2_with fail;go_call K6.o as e w6 ⟨rfl,P6,o6⟩;go_wp2;go_ret;exact aI ⟨P6.le (by omega),H5.o.2.trans o6⟩
    .skip
     go_wp2_with fail;go_call K6.o as e w6 ⟨rfl,P6,o6⟩;go_wp2;go_ret;exact aI ⟨P6.le (by omega),H5.o.2.trans o6⟩
   .rw[if_neg (λe=>hm0 (by rw[<-YR.o,e];rfl))]at bS;subst bS;have K6:=xh<|KW.o _ qi _ H0.o.1 (by omega) lf A m c l H0.o.2.1 hm;have hmI:((m:Nat):Int)≠0:=by omega
    cases lf
    .have BH:((m:Nat):Int)≠1:=λe=>hc ⟨rfl,by omega⟩;have hm1':¬m=1:=by omega
     clear hc;go_wp2_with fail;go_call K6.o as e w6 ⟨rfl,P6,o6⟩;go_wp2;go_ret;exact aI ⟨P6.le (by omega),H0.o.2.2.2.trans o6⟩
    .clear hc;go_wp2_with fail;go_call K6.o as e w6 ⟨rfl,P6,o6⟩;go_wp2;go_ret;exact aI ⟨P6.le (by omega),H0.o.2.2.2.trans o6⟩
variable{w:YB}{b tb n Kz:Nat}{I:Ix}{F:List Nat}
def gy:List Step->QS->QS×Int
 |[],q=>(q,0)
 |[x],q=>if x.leaf=true then q.db x.ao x.leaf x.l else q.uW x.leaf x.l
 |x::y::up,q=>
  if x.l=[]then
   if(q.aV x.ao).2≠0 then q.aV x.ao
   else gy ({y with l:=y.l.eraseIdx y.at_}::up) (q.aV x.ao).1
  else q.db x.ao x.leaf x.l
 termination_by l=>l.length
theorem r9(x:Step)(q:QS):gy [x] q=if x.leaf=true then q.db x.ao x.leaf x.l else q.uW x.leaf x.l:=by
 unfold gy;rfl
theorem sg(x y:Step)(up:List Step)(q:QS):gy (x::y::up) q=if x.l=[]then
   if(q.aV x.ao).2≠0 then q.aV x.ao
   else gy ({y with l:=y.l.eraseIdx y.at_}::up) (q.aV x.ao).1
  else q.db x.ao x.leaf x.l:=by
 conv=>lhs;unfold gy
theorem aX.wK{g m cc:Nat}{Lp:List SM}{Z:SM}{k:Nat}(h:aX w b (U3 (lc g) m cc) (Lp++[Z]))(hp:Lp.length=k)(i:Nat)(hi:i<4):w.cell? ⟨g,k*4+i,none⟩=Z.cells[i]?:=by
 have h1:=h.cell (k:=Lp.length) (Z:=Z) (by rw[dQ (ai _),fM];rfl) i hi;rw[hp]at h1;exact h1
theorem YS(A:Option Addr)(m c m' c':Nat):ah (U3 A m c)=ah (U3 A m' c'):=by cases A<;>rfl
theorem Lq{q:QS}{v:YO}{L:List SM}(pre:List Step)(x:Step)(h:TQ w tb I F q n Kz)(YF:Kz<=999999980000)(SA:aX w b v L)(hb:b<=w.heap.size)(pJ:L.map SM.s=pre++[x])(tU:∀s∈pre,s.at_<s.l.length/\s.l.length<=1000)(EM:x.l.length<=1000)(hp16:pre.length<=16):
  Calls prog 76 #[tp tb,v] w λe w'=>e=BY (.int .i64 (gy (x::pre.reverse) q).2)/\PB b w w' I F (gy (x::pre.reverse) q).1 n (Kz+601):=by
 obtain⟨Lp,A,c,g,cc,rfl,mS,rfl,hbg,Ib,vr,iU,VZ,S1,f1⟩:=SA.last pJ;have KD:=xh (λ(W:YB) (qj:QS) (hW:TQ W tb I F qj n Kz) (p:Int)=>th hW.2 p);have KW:=xh (λ(W:YB) (qj:QS) (kj:Nat) (hW:TQ W tb I F qj n kj) (hk:kj<=999999999999) (p:Int) (leaf:Bool) (A:Option Addr) (m c:Nat) (l:List E) (S:aM W 111 3 (U3 A m c) m (aJ l)) (hm:m<=1000)=>qH hW hk p leaf A m c l S hm)
 have KL:=xh (λ(W:YB) (qj:QS) (hW:TQ W tb I F qj n Kz) (leaf:Bool) (A:Option Addr) (m c:Nat) (l:List E) (S:aM W 111 3 (U3 A m c) m (aJ l)) (hm:m<=1000)=>Qa hW (by omega) leaf A m c l S hm);obtain⟨R,hR⟩:∃R,gy (x::pre.reverse) q=R:=⟨_,rfl⟩;rw[hR];have HR:=xh hR;have HM:=xh mS;have uU:=xh tU;have HXL:=xh EM
 have HA:=g9 (aX w b (U3 (lc g) (pre.length+1) cc) (Lp++[⟨x,A,c⟩])/\TQ w tb I F q n Kz/\OB b w w F F/\b<=w.heap.size) ⟨SA,h,OB.refl _ _ _,hb⟩;clear h SA pJ tU EM hR iU VZ S1 f1 mS;unfold tp bH at *;go_in;go_wp2_with fail
 go_loopw [1] (λsv wr=> ∃(pre:List Step) (x:Step) (Lp:List SM) (A:Option Addr) (c:Nat) (qi:QS),pre.length<=16/\pre.length+1<=cc/\sv=U3 (lc g) (pre.length+1) cc/\Hid (Lp.map SM.s=pre)/\Hid (gy (x::pre.reverse) qi=R)/\Hid (∀s∈pre,s.at_<s.l.length/\s.l.length<=1000)/\Hid (x.l.length<=1000)/\Hid (aX wr b (U3 (lc g) (pre.length+1) cc) (Lp++[⟨x,A,c⟩])/\TQ wr tb I F qi n Kz/\OB b w wr F F/\b<=wr.heap.size)) (λsv _=>Rs sv)
 case atStart=>exact⟨pre,x,Lp,A,c,q,hp16,Ib,rfl,HM,HR,uU,HXL,HA⟩
 case round=>
  obtain⟨pre,x,Lp,A,c,qi,hp16,Ib,rfl,HM,HR,uU,HXL,HA⟩:=hrel;have xe:=g9 (Lp.length=pre.length) (by rw[<-HM.o,bM]);obtain⟨xp,xf,xl,xa⟩:=x;dsimp only at HXL;have c0:wr.cell? ⟨g,pre.length*4,none⟩=some (xp:li):=HA.o.1.wK xe.o 0 (by omega);have c1:wr.cell? ⟨g,pre.length*4+1,none⟩=some (U6 xf):=HA.o.1.wK xe.o 1 (by omega);have c2:wr.cell? ⟨g,pre.length*4+1+1,none⟩=some (U3 A xl.length c):=HA.o.1.wK xe.o 2 (by omega)
  have c3:wr.cell? ⟨g,pre.length*4+3,none⟩=some ((xa:Nat):li):=HA.o.1.wK xe.o 3 (by omega)
  rcases ux pre with rfl|⟨eT,y,hpe⟩
  .have bS:=HR.o;rw[List.reverse_nil,r9]at bS;rw[show([]:List Step).length=0 from rfl,qh]at c0 c1 c2 c3;rw[bq]at c1 c2 c3
   cases xf
   .rw[i8]at bS;subst bS;have iF:=i6 wr (WF #[xp,U6 false,U3 A xl.length c,(xa:Nat)] 120);have BS:=xh<|aF.new wr 120 #[xp,U6 false,U3 A xl.length c,(xa:Nat)];have y0:=BS.ap 0;have y1:=BS.ap 1;have y2:=BS.ap 2
    have H1:=g9 (TQ _ tb I F qi n Kz/\aM _ 111 3 (U3 A xl.length c) xl.length (aJ xl)/\OB b w _ F F) ⟨HA.o.2.1.below iF,(HA.o.1.e ⟨⟨xp,false,xl,xa⟩,A,c⟩ (by simp)).1.below iF,HA.o.2.2.1.below iF⟩;clear iF;have K1:=xh<|KL.o _ qi H1.o.1 false A xl.length c xl H1.o.2.1 HXL.o;unfold bH at K1;go_wp2_with fail;go_call K1.o as e w6 ⟨rfl,P6,o6⟩;have P6:=xh P6;have o6:=xh o6;clear y0 y1 y2;go_wp2;go_ret
    exact aI (((H1.o.2.2.step hb o6.o (λ_ hg=> .inl hg)).pb P6.o).le (by omega))
   .rw[if_pos rfl]at bS;subst bS;have iF:=i6 wr (WF #[xp,U6 true,U3 A xl.length c,(xa:Nat)] 120);have BS:=xh<|aF.new wr 120 #[xp,U6 true,U3 A xl.length c,(xa:Nat)];have y0:=BS.ap 0;have y1:=BS.ap 1;have y2:=BS.ap 2
    have H1:=g9 (TQ _ tb I F qi n Kz/\aM _ 111 3 (U3 A xl.length c) xl.length (aJ xl)/\OB b w _ F F) ⟨HA.o.2.1.below iF,(HA.o.1.e ⟨⟨xp,true,xl,xa⟩,A,c⟩ (by simp)).1.below iF,HA.o.2.2.1.below iF⟩;clear iF;have K1:=xh<|KW.o _ qi Kz H1.o.1 (by omega) xp true A xl.length c xl H1.o.2.1 HXL.o;go_wp2_with fail;go_call K1.o as e w6 ⟨rfl,P6,o6⟩;have P6:=xh P6;have o6:=xh o6;clear y0 y1 y2;go_wp2;go_ret
    exact aI (((H1.o.2.2.step hb o6.o (λ_ hg=> .inl hg)).pb P6.o).le (by omega))
  .obtain rfl:pre=eT++[y]:=by simpa using hpe
   clear hpe;have vL:(eT++[y]).length=eT.length+1:=by simp
   generalize (eT++[y]).length=k at *;have s1:IntKind.i64.wrap (((k+1:Nat):Int)-1)=(k:Int):=by rw[show((k+1:Nat):Int)-1=(k:Int) by omega];exact dl
   have s2:(k:Int)<((k+1:Nat):Int):=by omega
   have s3:(1:Int)<((k+1:Nat):Int):=by omega
   have s4:IntKind.i64.wrap (k:Int)=(k:Int):=dl;have s5:(k:Int)<(k:Int)+1/\0<=(k:Int):=by omega
   have s6:IntKind.i64.wrap ((k:Int)-1)=(eT.length:Int):=by rw[show(k:Int)-1=(eT.length:Int) by omega];exact dl
   have s7:(eT.length:Int)<(k:Int):=by omega
   have HK2:=xh vL;clear vL;have bS:=HR.o;rw[List.reverse_append,List.reverse_singleton,vD,sg]at bS;dsimp only at bS
   by_cases Hz:xl.length=0
   .have hxn:xl=[]:=GQ.1 Hz;subst hxn;rw[if_pos rfl]at bS;have KD2:=xh<|KD.o _ qi HA.o.2.1.drew xp;have HS1:=xh (show(λW=>W.cell? (lc tb)=some (lc I.pb:li)/\W.cell? ⟨g,k*4,none⟩=some (xp:li)) wr.drew from⟨HA.o.2.1.drew.1.bi 0,(HA.o.1.below (Below.refl _ _).drew).wK xe.o 0 (by omega)⟩);generalize qi.aV xp=R2 at *;obtain⟨qd,ed⟩:=R2;dsimp only at *;have fQ:=xh bS
    obtain⟨xg,AY,cY,rfl,PU⟩:∃xg AY cY,Lp=xg++[(⟨y,AY,cY⟩:SM)]/\xg.map SM.s=eT:=by
     have:=HM.o
     rcases ux Lp with h0|⟨xg,Y,h0⟩
     .rw[h0]at this;simp at this
     .have h0:Lp=xg++[Y]:=by simpa using h0
      rw[h0,cX]at this;obtain⟨a1,a2⟩:=M6 this rfl;obtain⟨ys,AY,cY⟩:=Y;simp at a2;subst a2;exact⟨xg,AY,cY,h0,a1⟩
    have HPL':=g9 (xg.length=eT.length) (by rw[<-PU,bM]);have HMP:=xh PU;have hfy:=uU.o y (by simp);have hya:=hfy.1;have hyn:=hfy.2;have zL:(0:Int)<=(k:Int)/\(k:Int)<=(cc:Int):=by omega
    clear bS hfy PU Hz;unfold pp at *;go_wp2_with fail;refine kw (λW=>W.cell? (lc tb)=some (lc I.pb:li)/\W.cell? ⟨g,k*4,none⟩=some (xp:li)) (HS1.o) (λau=>?_);refine dP [(0,23),(1,24),(2,25),(3,26),(4,27),(5,28),(6,29),(7,30),(8,31),(9,32),(10,33)] ?_
    iterate 11 refine bJ ?_
    refine dI 11 34 λK hK=>?_;go_simp
    go_at_call 132
    go_call KD2.o as e w2 ⟨rfl,P2,o2⟩;have o2:=xh o2;have P2:=xh P2;have Bu:=xh (show(λW=>W.cell? (lc tb)=some (lc I.pb:li)/\W.cell? ⟨g,k*4,none⟩=some (xp:li)) w2 from⟨(HA.o.2.1.drew.next o2.o P2.o).1.ab (i:=0) rfl,((HA.o.1.below (Below.refl _ _).drew).zo HA.o.2.1.drew.2 o2.o).wK xe.o 0 (by omega)⟩);go_simp;refine bn hK (Bu.o) (λau=>?_);refine dP [(12,5)] ?_
    iterate 1 refine bJ ?_
    refine jp ?_ _;have SA2:=(HA.o.1.below (Below.refl _ _).drew).zo HA.o.2.1.drew.2 o2.o;have hpop:=SA2.pop;rw[xe.o]at hpop;have H2:=xh (show TQ w2 tb I F qd n Kz/\aX w2 b (U3 (lc g) k cc) (xg++⟨y,AY,cY⟩::[])/\OB b w w2 F F/\b<=w2.heap.size from
     ⟨HA.o.2.1.drew.next o2.o P2.o,hpop,(HA.o.2.2.1.below (Below.refl _ _).drew).step hb o2.o (λ_ hg=> .inl hg),aq HA.o.2.2.2 o2.o.size⟩)
    clear SA2 hpop P2 o2 Bu c0 c1 c2 c3
    by_cases he:ed=0
    .subst he;have bS:=fQ.o;rw[if_neg (show ¬((0:Int)≠0) by simp)]at bS;have fQ:=xh bS;obtain⟨w8,PV⟩:∃w8,w2.drew=w8:=⟨_,rfl⟩;have Ai:i7 w2 w8:=by rw[<-PV];exact(Below.refl _ _).drew
     have H8:=xh (show TQ w8 tb I F qd n Kz/\aX w8 b (U3 (lc g) k cc) (xg++⟨y,AY,cY⟩::[])/\OB b w w8 F F/\b<=w8.heap.size from
      ⟨H2.o.1.below Ai,H2.o.2.1.below Ai,H2.o.2.2.1.below Ai,aq H2.o.2.2.2 Ai.size⟩)
     have KS8:=xh (show(λW=>W.cell? ⟨g,eT.length*4+3,none⟩=some ((y.at_:Nat):li)) w8 from H8.o.2.1.wK HPL'.o 3 (by omega));have x8:w8.cell? ⟨g,eT.length*4+2,none⟩=some (U3 AY y.l.length cY):=H8.o.2.1.wK HPL'.o 2 (by omega);have SY:=H8.o.2.1.e ⟨y,AY,cY⟩ (by simp);have KDE:=xh<|Nd.rZ SY.1 y.at_ hya (show y.l.length<=100000 by omega);have Ei:=xh (show(y.l.eraseIdx y.at_).length=y.l.length-1 from by rw[GR hya])
     have s8:IntKind.i64.wrap ((y.at_:Int)+1)=(y.at_:Int)+1:=dl;have HS9:=xh (show ∀W,ag (ah (U3 AY y.l.length cY)) w8 W->(λW=>W.cell? ⟨g,eT.length*4+3,none⟩=some ((y.at_:Nat):li)) W from λW o=>by
      have hgY:g∉ah (U3 AY y.l.length cY):=λhm=>nE SY.1 H8.o.2.1.s (by decide) g hm (by simp[ah]);exact(o.cell (p:=⟨g,eT.length*4+3,none⟩) (cZ KS8.o) hgY).trans KS8.o)
     clear SY Ai bS;go_wp2_with fail;refine kw (λW=>W.cell? ⟨g,eT.length*4+3,none⟩=some ((y.at_:Nat):li)) (by rw[PV];exact KS8.o) (λau=>?_);rw[PV];clear PV;refine dP [(0,48),(1,49),(2,50),(3,51),(4,52),(6,54),(7,55),(8,56),(9,57),(10,58),(11,59),(12,60),(13,61),(14,62)] ?_
     iterate 14 refine bJ ?_
     refine dI 5 53 λK hK=>?_;go_simp;refine bn hK (KS8.o) (λau=>?_);refine dI 15 63 λK hK=>?_;go_simp
     go_at_call 72
     go_call KDE.o as e w9 ⟨rfl,S9,o9⟩;have S9:=xh S9;have o9:=xh o9;have KS9:=xh<|HS9.o w9 o9.o;go_simp;refine bn hK (KS9.o) (λau=>?_);refine dP [(16,64),(17,65),(18,66)] ?_
     iterate 3 refine bJ ?_
     refine rm 19 λK hK=>?_;go_simp;obtain⟨SP,sx,sz⟩:=H8.o.2.1.put (Lp:=xg) (Ls:=[]) (y.l.eraseIdx y.at_) (A':=AY) (c':=cY) (by rw[Ei.o];exact S9.o) o9.o (λz hz=> .inl ((YS AY _ _ _ _)▸hz)) H8.o.2.2.2;rw[HPL'.o]at SP sx sz;rw[Ei.o]at SP;have SP:=xh SP
     replace sx:w9.cell? ⟨g,eT.length*4+2,none⟩=some (U3 AY y.l.length cY):=sx
     have Iw:=g9 (ag (g::ah (U3 AY y.l.length cY)) w8 (w9.setCell ⟨g,eT.length*4+2,none⟩ (U3 AY (y.l.length-1) cY))) ((o9.o.mono (λx hx _=>bK _ hx)).setCell (by simp) _);have IF:=xh (show(λW=>W.cell? ⟨g,eT.length*4+3,none⟩=some ((y.at_:Nat):li)) (w9.setCell ⟨g,eT.length*4+2,none⟩ (U3 AY (y.l.length-1) cY))from SP.o.wK HPL'.o 3 (by omega));go_simp;refine bn hK (IF.o) (λau=>?_)
     refine jp ?_ _;have r7:=H8.o.2.1.off H8.o.1.2;have IG:=H8.o.2.1.tree H8.o.1.1
     have HN:=xh (show aX (w9.setCell ⟨g,eT.length*4+2,none⟩ (U3 AY (y.l.length-1) cY)) b (U3 (lc g) k cc) (xg++[⟨{y with l:=y.l.eraseIdx y.at_},AY,cY⟩])/\TQ (w9.setCell ⟨g,eT.length*4+2,none⟩ (U3 AY (y.l.length-1) cY)) tb I F qd n Kz/\OB b w (w9.setCell ⟨g,eT.length*4+2,none⟩ (U3 AY (y.l.length-1) cY)) F F/\b<=(w9.setCell ⟨g,eT.length*4+2,none⟩ (U3 AY (y.l.length-1) cY)).heap.size from
      ⟨SP.o,H8.o.1.only Iw.o (λz hz hm=>by
       rcases ar.1 hz with h1|h1<;>rcases ar.1 hm with h2|h2
       .exact IG.1 (by rw[<-h1,h2];simp[ah])
       .exact IG.2 ⟨y,AY,cY⟩ (by simp) (by rw[<-h1];exact h2)
       .exact r7.1 z (by rw[h2];simp[ah]) h1
       .exact r7.2 ⟨y,AY,cY⟩ (by simp) z h2 h1),H8.o.2.2.1.own Iw.o (λz hz=>by
       rcases ar.1 hz with h2|h2
       .rw[h2];exact H8.o.2.1.f g (by simp[ah])
       .exact(H8.o.2.1.e ⟨y,AY,cY⟩ (by simp)).2 z h2),aq H8.o.2.2.2 Iw.o.size⟩)
     clear r7 IG;go_wp2_with fail;go_roundw
     case rel=>exact⟨eT,{y with l:=y.l.eraseIdx y.at_},xg,AY,cY,qd,by have:=HK2.o;omega,by have:=HK2.o;omega,by rw[HK2.o],HMP,fQ,xh (λs hs=>uU.o s (by simp[hs])),xh (show(y.l.eraseIdx y.at_).length<=1000 from by rw[Ei.o];omega),by rw[<-HK2.o];exact HN⟩
     case measure=>(have:=HK2.o;simp only[Rs];omega)
    .have bS:=fQ.o;rw[if_pos he]at bS;subst bS;have hq:(ed != 0)=true:=ls he
     have my:(ed==0)=false:=i4 he
     go_wp2;go_ret;exact aI ((H2.o.2.2.1.pb H2.o.1.2).le (by omega))
   .rw[if_neg (λe=>Hz (by rw[e];rfl))]at bS;subst bS;have hx1:((xl.length:Nat):Int)≠0:=by omega
    have hx2:(((xl.length:Nat):Int)==0)=false:=i4 hx1
    have iF:=i6 wr (WF #[xp,U6 xf,U3 A xl.length c,(xa:Nat)] 120);have BS:=xh<|aF.new wr 120 #[xp,U6 xf,U3 A xl.length c,(xa:Nat)];have y0:=BS.ap 0;have y1:=BS.ap 1;have y2:=BS.ap 2
    have H1:=g9 (TQ _ tb I F qi n Kz/\aM _ 111 3 (U3 A xl.length c) xl.length (aJ xl)/\OB b w _ F F) ⟨HA.o.2.1.below iF,(HA.o.1.e ⟨⟨xp,xf,xl,xa⟩,A,c⟩ (by simp)).1.below iF,HA.o.2.2.1.below iF⟩;clear iF;have K1:=xh<|KW.o _ qi Kz H1.o.1 (by omega) xp xf A xl.length c xl H1.o.2.1 HXL.o;go_wp2_with fail;go_call K1.o as e w6 ⟨rfl,P6,o6⟩;have P6:=xh P6;have o6:=xh o6;clear y0 y1 y2;go_wp2;go_ret
    exact aI (((H1.o.2.2.step hb o6.o (λ_ hg=> .inl hg)).pb P6.o).le (by omega))
def QS.jV(q:QS)(key:rd):QS×Int:=
 if(q.eP key).2.2≠0 then((q.eP key).1,(q.eP key).2.2)
 else if cG (iV (q.eP key).2.1).l key=false then((q.eP key).1,9)
 else if((q.eP key).1.lC (iV (q.eP key).2.1).l key).2≠0 then(q.eP key).1.lC (iV (q.eP key).2.1).l key
 else gy ({iV (q.eP key).2.1 with l:=r8 (iV (q.eP key).2.1).l key}::(q.eP key).2.1.dropLast.reverse) ((q.eP key).1.lC (iV (q.eP key).2.1).l key).1
theorem Lr{q:QS}(h:TQ w tb I F q n Kz)(YF:Kz<=999999970000)(key:rd):
  Calls prog 26 #[tp tb,.string key] w λe w'=>e=BY (.int .i64 (q.jV key).2)/\PT w w' I F (q.jV key).1 n (Kz+700):=by
 have KW:=xh<|Dd h (by omega) key;have HT:=xh h;have gj:=PO (q:=q) (key:=key);unfold QS.jV;generalize q.eP key=R at *;obtain⟨q1,steps,er⟩:=R;dsimp only at *;unfold tp at *
 by_cases he:er=0
 .subst he;obtain⟨pre,x,rfl,rJ,Ud,jU,hlen⟩:=gj rfl;rw[i8,show iV (pre++[x])=x from by unfold iV;simp,show(pre++[x]).dropLast=pre from by simp];have hxo:=jU x (by simp);obtain⟨hm,hl57,_⟩:=hxo;have hm:=xh hm;have uU:=g9 (∀s∈pre,Fit s) (λs hs=>(jU s (by simp[hs])).fit (Ud s hs));clear gj Ud jU rJ h
  obtain⟨RR,bS⟩:∃RR,(if cG x.l key=false then(q1,9)else if(q1.lC x.l key).2≠0 then q1.lC x.l key else gy ({x with l:=r8 x.l key}::pre.reverse) (q1.lC x.l key).1)=RR:=⟨_,rfl⟩;rw[bS];have fQ:=xh bS;clear bS;go_in;go_wp2_with fail;go_call KW.o as e w1 ⟨v,L,rfl,SA,pJ,P1,o1⟩;have YI:=SA.last pJ;obtain⟨Lp,A,c,g,cc,rfl,mS,rfl,hbg,Ib,vr,iU,VZ,S1,f1⟩:=YI
  have H1:=g9 (TQ w1 tb I F q1 n (Kz+16)/\aX w1 w.heap.size (U3 (lc g) (pre.length+1) cc) (Lp++[⟨x,A,c⟩])/\OB w.heap.size w w1 F F/\w.heap.size<=w1.heap.size) ⟨HT.o.next o1 P1,SA,(OB.refl w.heap.size w F).step (ai _) o1 (λ_ hg=> .inl hg),o1.size⟩;have xe:=g9 (Lp.length=pre.length) (by rw[<-mS,bM]);have HMP:=xh mS;have S1:=xh S1;have x1:w1.cell? ⟨g,pre.length*4+1,none⟩=some (U6 x.leaf):=iU 1 (by omega)
  have x2:w1.cell? ⟨g,pre.length*4+1+1,none⟩=some (U3 A x.l.length c):=iU 2 (by omega);have s1:IntKind.i64.wrap (((pre.length+1:Nat):Int)-1)=(pre.length:Int):=by rw[show((pre.length+1:Nat):Int)-1=(pre.length:Int) by omega];exact dl
  have s2:(pre.length:Int)<((pre.length+1:Nat):Int):=by omega
  have KF:=xh<|Nd.yl x.leaf A x.l.length c x.l key (Nd.aM.aJ S1.o).2 (by omega) hm.o;unfold bH at KF;clear SA pJ P1 o1 mS iU VZ f1;go_wp2_with fail;go_call KF.o as e w3 ⟨rfl,dk⟩;have O3:=xh dk
  have H3:=g9 (TQ w3 tb I F q1 n (Kz+16)/\aX w3 w.heap.size (U3 (lc g) (pre.length+1) cc) (Lp++[⟨x,A,c⟩])/\OB w.heap.size w w3 F F/\w.heap.size<=w3.heap.size) ⟨H1.o.1.below O3.o,H1.o.2.1.below O3.o,H1.o.2.2.1.below O3.o,aq H1.o.2.2.2 O3.o.size⟩;have S3:=xh<|S1.o.below dk;have u2:w3.cell? ⟨g,pre.length*4+1+1,none⟩=some (U3 A x.l.length c):=(O3.o.cell (p:=⟨g,pre.length*4+1+1,none⟩) (cZ x2)).trans x2
  clear x1 x2 dk H1 S1 O3
  by_cases hh:cG x.l key=true
  .have bS:=fQ.o;rw[if_neg (by rw[hh];simp)]at bS;have fQ:=xh bS;clear bS;obtain⟨ex,hex⟩:=Dg hh;have YC:x.l.getD (bg x.l key) Nd.E.zero=ex:=by rw[iq,hex];rfl
   have bS:=fQ.o;unfold QS.lC r8 at bS;rw[if_pos hh,if_pos hh,YC]at bS;generalize cG x.l key=hb at *;subst hh;have rK:bg x.l key<x.l.length:=(aR.1 hex).1;generalize bg x.l key=at_ at *;obtain⟨ad,yp,gJ⟩:=(Nd.aM.aJ S3.o).2.2 at_ ex hex;obtain⟨ga,ca,zk,Eh,_⟩:=S3.o.form (by omega) (by omega);injection Eh with e1 ezz e3
   clear ezz;subst e1 e3;injection yp with yp
   subst yp;rw[Nd.iN,bq]at gJ;have u3:=gJ.c0;have u4:=gJ.c1;have u5:=gJ.c2;dsimp only at u4 u5;have KA:=xh<|FP H3.o.1 (by omega) ex;unfold E.agg tp at KA;have hflI:(at_:Int)<(x.l.length:Int):=by omega
   generalize q1.pI ex=R2 at *;obtain⟨q2,e2⟩:=R2;dsimp only at *;have fQ:=xh bS;clear gJ hex YC bS;go_wp2_with fail;go_call KA.o as e w4 ⟨rfl,P4,o4⟩
   have H4:=g9 (TQ w4 tb I F q2 n (Kz+21)/\aX w4 w.heap.size (U3 (lc g) (pre.length+1) cc) (Lp++[⟨x,some ⟨ga,0,none⟩,c⟩])/\OB w.heap.size w w4 F F/\w.heap.size<=w4.heap.size) ⟨H3.o.1.next o4 P4,H3.o.2.1.zo H3.o.1.2 o4,H3.o.2.2.1.step (ai _) o4 (λ_ hg=> .inl hg),aq H3.o.2.2.2 o4.size⟩;clear P4 o4 u2 u3 u4 u5 S3
   by_cases zm:e2=0
   .subst zm;have bS:=fQ.o;rw[if_neg (show ¬((0:Int)≠0) by simp)]at bS;have fQ:=xh bS;have SX:=H4.o.2.1.e ⟨x,some ⟨ga,0,none⟩,c⟩ (by simp);have KD:=xh<|Nd.rZ SX.1 at_ rK (show x.l.length<=100000 by omega);have u2:=H4.o.2.1.cell (k:=Lp.length) (Z:=⟨x,some ⟨ga,0,none⟩,c⟩) (by rw[dQ (ai _),fM];rfl) 2 (by omega);rw[xe.o]at u2
    replace u2:w4.cell? ⟨g,pre.length*4+1+1,none⟩=some (U3 (lc ga) x.l.length c):=u2
    have Ei:=xh (show(x.l.eraseIdx at_).length=x.l.length-1 from by rw[GR rK]);have s7:IntKind.i64.wrap ((at_:Int)+1)=(at_:Int)+1:=dl;clear SX bS;go_wp2_with fail;go_call KD.o as e w5 ⟨rfl,S5,o5⟩;obtain⟨SP,sx,sz⟩:=H4.o.2.1.put (Lp:=Lp) (Ls:=[]) (x.l.eraseIdx at_) (A':=some ⟨ga,0,none⟩) (c':=c) (by rw[Ei.o];exact S5) o5 (λz hz=> .inl hz) H4.o.2.2.2;rw[xe.o]at SP sx sz;rw[Ei.o]at SP
    replace sx:w5.cell? ⟨g,pre.length*4+1+1,none⟩=some (U3 (lc ga) x.l.length c):=sx
    replace sz:w5.frozen? ⟨g,pre.length*4+1+1,none⟩=false:=sz
    have O5:ag (g::ah (U3 (lc ga) x.l.length c)) w4 (w5.setCell ⟨g,pre.length*4+1+1,none⟩ (U3 (lc ga) (x.l.length-1) c)):=(o5.mono (λx hx _=>bK _ hx)).setCell (by simp) _;have r7:=H4.o.2.1.off H4.o.1.2;have IG:=H4.o.2.1.tree H4.o.1.1
    have H5:=xh (show TQ (w5.setCell ⟨g,pre.length*4+1+1,none⟩ (U3 (lc ga) (x.l.length-1) c)) tb I F q2 n (Kz+21)/\aX (w5.setCell ⟨g,pre.length*4+1+1,none⟩ (U3 (lc ga) (x.l.length-1) c)) w.heap.size (U3 (lc g) (pre.length+1) cc) (Lp++[⟨{x with l:=x.l.eraseIdx at_},some ⟨ga,0,none⟩,c⟩])/\OB w.heap.size w (w5.setCell ⟨g,pre.length*4+1+1,none⟩ (U3 (lc ga) (x.l.length-1) c)) F F/\w.heap.size<=(w5.setCell ⟨g,pre.length*4+1+1,none⟩ (U3 (lc ga) (x.l.length-1) c)).heap.size from
     ⟨H4.o.1.only O5 (λz hz hm=>by
      rcases ar.1 hz with h1|h1<;>rcases ar.1 hm with h2|h2
      .exact IG.1 (by rw[<-h1,h2];simp[ah])
      .exact IG.2 ⟨x,some ⟨ga,0,none⟩,c⟩ (by simp) (by rw[<-h1];exact h2)
      .exact r7.1 z (by rw[h2];simp[ah]) h1
      .exact r7.2 ⟨x,some ⟨ga,0,none⟩,c⟩ (by simp) z h2 h1),SP,H4.o.2.2.1.own O5 (λz hz=>by
      rcases ar.1 hz with h2|h2
      .rw[h2];exact H4.o.2.1.f g (by simp[ah])
      .exact(H4.o.2.1.e ⟨x,some ⟨ga,0,none⟩,c⟩ (by simp)).2 z h2),aq H4.o.2.2.2 O5.size⟩)
    clear SP S5 o5 O5 r7 IG;obtain⟨w6,Rv⟩:∃w6,(w5.setCell ⟨g,pre.length*4+1+1,none⟩ (U3 (lc ga) (x.l.length-1) c))=w6:=⟨_,rfl⟩;rw[Rv]at H5;have Uu:=fQ.o;have KSH:=xh<|Lq (b:=w.heap.size) pre {x with l:=x.l.eraseIdx at_} H5.o.1 (by omega) H5.o.2.1 H5.o.2.2.2 (by rw[cX,HMP.o];rfl) (λs hs=>⟨(uU.o s hs).a,by have:=(uU.o s hs).n;omega⟩) (by show(x.l.eraseIdx at_).length<=1000;rw[Ei.o];omega) (by omega)
    rw[Uu]at KSH;unfold tp at KSH;clear Uu;go_wp2_with fail;go_call KSH.o as e w7 ⟨rfl,P7⟩;have P7:=xh P7;clear Rv sx sz u2;go_wp2;go_ret;exact aI (((H5.o.2.2.1.trans P7.o).pt (ai _)).le (by omega))
   .have bS:=fQ.o;rw[if_pos zm]at bS;subst bS;have hq:(e2 != 0)=true:=ls zm
    have my:(e2==0)=false:=i4 zm
    go_wp2;go_ret;exact aI (((H4.o.2.2.1.pb H4.o.1.2).pt (ai _)).le (by omega))
  .have hh2:cG x.l key=false:=by simpa using hh
   have bS:=fQ.o;rw[if_pos hh2]at bS;subst bS;generalize cG x.l key=hb at *;subst hh2;clear hh;go_wp2;go_ret;exact aI (((H3.o.2.2.1.pb H3.o.1.2).pt (ai _)).le (by omega))
 .rw[if_pos he];have hq:(er != 0)=true:=ls he
  have my:(er==0)=false:=i4 he
  clear gj;go_in;go_wp2_with fail;go_call KW.o as e w1 ⟨v,L,rfl,SA,pJ,P1,o1⟩;have P1:=xh P1;have o1:=xh o1;clear SA pJ;go_wp2;go_ret;exact aI ((PT.self P1.o o1.o).le (by omega))
def kJ:pu:=(aZ true []).1
def QS.wL(q:QS):QS×Int:=if q.a.je.length=0 then((q.bZ kJ).1,(q.bZ kJ).2.2)else(q,0)
def QS.j0(q:QS):QS×Int:=if q.wL.2≠0 then q.wL else((q.wL.1.bF 0).1,(q.wL.1.bF 0).2.2.2)
def Opened(w w':YB)(I:Ix)(F:List Nat)(q:QS)(e:Int)(n K:Nat)(v:YO):Prop:=
 ∃F',ag F w w'/\(∀g∈F',g∈F\/w.heap.size<=g)/\PQ w' I F' q n K/\(e≠0->v=.pointer none)/\(e=0->∃tb,v=tp tb/\w.heap.size<=tb/\TQ w' tb I F' q n K)
theorem Ux{w:YB}{I:Ix}{F:List Nat}{q:QS}{n K:Nat}(h:PQ w I F q n K)(hK:K<=999999999000):
  Calls prog 24 #[pp I.pb] w λe w'=> ∃v,e=BY (.tuple #[v,q.j0.2])/\Opened w w' I F q.j0.1 q.j0.2 n (K+2) v:=by
 have iF:=i6 w (WF #[pp I.pb] 130);obtain⟨wT,hwT⟩:∃wT,w.heap.size=wT:=⟨_,rfl⟩;have HWT:=xh hwT;have BT:=aF.new w 130 #[pp I.pb];rw[hwT]at BT;have H1:=g9 (TQ _ wT I F q n K/\ag F w _) ⟨⟨BT,h.below iF⟩,.aj iF⟩;have K1:=xh<|Co H1.o.1.2;have K2:=xh<|Cp H1.o.1.2;unfold QS.j0 QS.wL;unfold pp sp at *
 by_cases h0:q.a.je.length=0
 .rw[if_pos h0];rw[h0]at K2;have K3:=xh (λ(W:YB)=>Nd.CY (w:=W) true none 0 0 [] ⟨rfl,λk e he=>by simp at he⟩ (by omega));have hl:=Nd.zh true [];have hleaf:aZ true []=(kJ,0):=by unfold kJ;decide
  rw[hleaf]at K3 hl;dsimp only at K3 hl;have KN:=xh (λ(W:YB) (hW:PQ W I F q n K)=>Cm hW (by omega) ⟨kJ.toArray⟩ (by show kJ.toArray.size<=232;simp;exact hl));have HLB:=xh (show(⟨kJ.toArray⟩:rd).data.toList=kJ from by simp);rw[HLB.o]at KN;generalize q.bZ kJ=R at *;obtain⟨q1,p1,e1⟩:=R;dsimp only at *;unfold bH at K3;unfold pp at KN;obtain⟨RR,bS⟩:∃RR,(if e1≠0 then(q1,e1)else((q1.bF 0).1,(q1.bF 0).2.2.2))=RR:=⟨_,rfl⟩;rw[bS]
  have fQ:=xh bS;clear bS;go_in;go_wp2_with fail;go_call K1.o as e w2 ⟨rfl,rfl⟩;go_wp2_with fail;go_call K2.o as e w3 ⟨A3,c3,rfl,S3,dk⟩;have H3:=g9 (TQ w3 wT I F q n K/\ag F w w3) ⟨H1.o.1.below dk,H1.o.2.trans (.aj dk)⟩;clear S3 dk;go_wp2_with fail;go_call (K3.o w3) as e w4 ⟨rfl,fo⟩
  have H4:=g9 (TQ w4 wT I F q n K/\ag F w w4) ⟨H3.o.1.below fo,H3.o.2.trans (.aj fo)⟩;clear fo;go_wp2_with fail;go_call (KN.o w4 H4.o.1.2) as e w5 ⟨rfl,P5⟩;obtain⟨F1,T5,o5,f5⟩:=P5.tq H4.o.1;have HT:=g9 (TQ w5 wT I F1 q1 n (K+1)/\ag F w w5/\(∀g∈F1,g∈F\/w.heap.size<=g)) ⟨T5,H4.o.2.trans o5,λg hg=>(f5 g hg).imp id (λh=>aq H4.o.2.size h)⟩;clear P5 T5 o5 f5
  by_cases VL:e1=0
  .subst VL;have bS:=fQ.o;rw[if_neg (show ¬((0:Int)≠0) by simp)]at bS;have K9:=xh<|pH HT.o.1 (by omega) 0;have hlen:=lT q1 0;generalize q1.bF 0=r at *;obtain⟨q2,lf,l,er⟩:=r;dsimp only at *;subst bS;unfold tp bH at K9;go_wp2_with fail;go_call K9.o as e w9 ⟨A9,c9,rfl,S9,f9,P9,o9⟩;have mU:=i6 w9 (WF #[U6 lf,U3 A9 l.length c9] 118)
   have H9:=g9 (TQ _ wT I F1 q2 n (K+2)/\ag F w _/\(∀g∈F1,g∈F\/w.heap.size<=g)) ⟨(HT.o.1.next o9 P9).below mU,(HT.o.2.1.aU o9 (λg hg ef=>(HT.o.2.2 g hg).elim id (λh=>by omega))).trans (.aj mU),HT.o.2.2⟩;clear S9 f9 P9 o9 mU
   by_cases he:er=0
   .subst he;go_wp2;go_ret2;exact⟨_,by first|rfl|simp,F1,H9.o.2.1,H9.o.2.2,H9.o.1.2,λh=>absurd rfl h,λ_=>⟨wT,by unfold tp;first|rfl|simp[HWT.o],by rw[<-HWT.o];exact ai _,H9.o.1⟩⟩
   .have hq:(er != 0)=true:=ls he
    have my:(er==0)=false:=i4 he
    go_wp2;go_ret2;exact⟨_,by first|rfl|simp,F1,H9.o.2.1,H9.o.2.2,H9.o.1.2,λ_=>rfl,λh=>absurd h he⟩
  .have bS:=fQ.o;rw[if_pos VL]at bS;subst bS;have hq:(e1 != 0)=true:=ls VL
   have my:(e1==0)=false:=i4 VL
   go_wp2;go_ret2;exact⟨_,by first|rfl|simp,F1,HT.o.2.1,HT.o.2.2,HT.o.1.2.le (by omega),λ_=>rfl,λh=>absurd h VL⟩
 .rw[if_neg h0,if_neg (show ¬((0:Int)≠0) by simp)];dsimp only;have h0I:((q.a.je.length:Nat):Int)≠0:=by omega
  generalize q.a.je.length=np at *;obtain⟨RR,bS⟩:∃RR,((q.bF 0).1,(q.bF 0).2.2.2)=RR:=⟨_,rfl⟩;rw[show(q.bF 0).1=RR.1 from by rw[<-bS],show(q.bF 0).2.2.2=RR.2 from by rw[<-bS]];have fQ:=xh bS;clear bS;go_in;go_wp2_with fail;go_call K1.o as e w2 ⟨rfl,rfl⟩;go_wp2_with fail;go_call K2.o as e w3 ⟨A3,c3,rfl,S3,dk⟩
  have HT:=g9 (TQ w3 wT I F q n (K+1)/\ag F w w3/\(∀g∈F,g∈F\/w.heap.size<=g)) ⟨(H1.o.1.below dk).le (by omega),H1.o.2.trans (.aj dk),λg hg=> .inl hg⟩;clear S3 dk;have bS:=fQ.o;have K9:=xh<|pH HT.o.1 (by omega) 0;have hlen:=lT q 0;generalize q.bF 0=r at *;obtain⟨q2,lf,l,er⟩:=r;dsimp only at *;subst bS;unfold tp bH at K9;go_wp2_with fail;go_call K9.o as e w9 ⟨A9,c9,rfl,S9,f9,P9,o9⟩
  have mU:=i6 w9 (WF #[U6 lf,U3 A9 l.length c9] 118);have H9:=g9 (TQ _ wT I F q2 n (K+2)/\ag F w _/\(∀g∈F,g∈F\/w.heap.size<=g)) ⟨(HT.o.1.next o9 P9).below mU,(HT.o.2.1.aU o9 (λg hg ef=>(HT.o.2.2 g hg).elim id (λh=>by omega))).trans (.aj mU),HT.o.2.2⟩;clear S9 f9 P9 o9 mU
  by_cases he:er=0
  .subst he;go_wp2;go_ret2;exact⟨_,by first|rfl|simp,F,H9.o.2.1,H9.o.2.2,H9.o.1.2,λh=>absurd rfl h,λ_=>⟨wT,by unfold tp;first|rfl|simp[HWT.o],by rw[<-HWT.o];exact ai _,H9.o.1⟩⟩
  .have hq:(er != 0)=true:=ls he
   have my:(er==0)=false:=i4 he
   go_wp2;go_ret2;exact⟨_,by first|rfl|simp,F,H9.o.2.1,H9.o.2.2,H9.o.1.2,λ_=>rfl,λh=>absurd h he⟩
structure Wk(σ:Type) where
 q:QS
 seen:Nat
 s:σ
 more:Bool
 e:Int
section
variable{σ:Type}
def mX(fr:rd)(leaf:Bool)(first i:Nat)(x:E):Bool:=decide (i<first) || (leaf && Op.bytesLess x.key.toList fr.toList)
def lI(til:rd)(leaf:Bool)(i:Nat)(x:E):Bool:= !(til.toList==[]) && !Op.bytesLess x.key.toList til.toList && (leaf || decide (0<i))
def gr(rec:QS->Nat->σ->Int->Wk σ)(step:E->σ->σ×Bool)(fr til:rd)(leaf:Bool)(first:Nat):Nat->List E->QS->Nat->σ->Wk σ
 |_,[],q,seen,s=>⟨q,seen,s,true,0⟩
 |i,x::l,q,seen,s=>
  if mX fr leaf first i x=true then gr rec step fr til leaf first (i+1) l q seen s
  else if lI til leaf i x=true then⟨q,seen,s,false,0⟩
  else if leaf=true then
   if(step x s).2=true then gr rec step fr til leaf first (i+1) l q seen (step x s).1
   else⟨q,seen,(step x s).1,false,0⟩
  else
   if(rec q seen s x.aY).more=true/\(rec q seen s x.aY).e=0 then gr rec step fr til leaf first (i+1) l (rec q seen s x.aY).q (rec q seen s x.aY).seen (rec q seen s x.aY).s
   else rec q seen s x.aY
def fJ(step:E->σ->σ×Bool)(fr til:rd):Nat->QS->Nat->σ->Int->Wk σ
 |0,q,seen,s,_=>⟨q,seen+1,s,false,14⟩
 |d+1,q,seen,s,p=>
  if 512<seen+1 then⟨q,seen+1,s,false,14⟩
  else if(q.bF p).2.2.2≠0 then⟨(q.bF p).1,seen+1,s,false,(q.bF p).2.2.2⟩
  else gr (fJ step fr til d) step fr til (q.bF p).2.1 (if(q.bF p).2.1=true then 0 else bI (q.bF p).2.2.1 fr) 0 (q.bF p).2.2.1 (q.bF p).1 (seen+1) s
def QS.dW(q:QS)(step:E->σ->σ×Bool)(fr til:rd)(s:σ):Wk σ:=fJ step fr til 16 q 0 s 0
structure Vis(fn:Nat)(fu:Array YO)(step:E->σ->σ×Bool)(mes:σ->Nat)(Inv:YB->σ->List Nat->Prop):Prop where
 call:∀(W:YB) (s:σ) (G:List Nat) (x:E),Inv W s G->mes s<=100000->x.key.size<=32->Calls prog fn (#[x.agg]++fu) W λe w'=>e=BY (U6 (step x s).2)/\∃G',Inv w' (step x s).1 G'/\ag G W w'/\∀g∈G',g∈G\/W.heap.size<=g
 pf:∀(W w':YB) (s:σ) (G S:List Nat),Inv W s G->ag S W w'->(∀g∈G,g∉S)->Inv w' s G
 lt:∀(W:YB) (s:σ) (G:List Nat),Inv W s G->∀g∈G,g<W.heap.size
 ent:∀(args:Array YO) (W:YB),Sem.run prog (callFunc fn args) W=Result.ok (.enter fn args) W
 one:∀(x:E) (s:σ),mes (step x s).1<=mes s+1
end
structure Ev where
 sB:Nat
 tB:Nat
 fB:Nat
 oB:Nat
 dB:Nat
 kB:Nat
def Ev.l(v:Ev):List Nat:=[v.sB,v.tB,v.fB,v.oB,v.dB,v.kB]
def Ev.fu(v:Ev):Array YO:= #[lc v.sB,lc v.tB,lc v.fB,lc v.oB,lc v.dB,lc v.kB]
structure ud(w:YB)(v:Ev)(tb:Nat)(fr til:rd)(fn:Nat)(fu:Array YO)(seen:Nat):Prop where
 s:aF w v.sB 3 #[.int .i64 (seen:Nat)]
 t:aF w v.tB 35 #[tp tb]
 f:aF w v.fB 9 #[.string fr]
 o:aF w v.oB 9 #[.string til]
 d:aF w v.dB 112 #[.func (.func fn) #[] fu]
 k:aF w v.kB 191 #[.func (.func 109) #[] v.fu]
section
variable{w w':YB}{v:Ev}{tb:Nat}{fr til:rd}{fn:Nat}{fu:Array YO}{seen:Nat}{S:List Nat}
theorem ud.only(h:ud w v tb fr til fn fu seen)(o:ag S w w')(hd:∀g∈v.l,g∉S):ud w' v tb fr til fn fu seen:=
 ⟨h.s.only o (hd _ (by simp[Ev.l])),h.t.only o (hd _ (by simp[Ev.l])),h.f.only o (hd _ (by simp[Ev.l])),h.o.only o (hd _ (by simp[Ev.l])),h.d.only o (hd _ (by simp[Ev.l])),h.k.only o (hd _ (by simp[Ev.l]))⟩
theorem ud.below(h:ud w v tb fr til fn fu seen)(hb:i7 w w'):ud w' v tb fr til fn fu seen:=h.only (S:=[]) (.aj hb) (by simp)
theorem ud.lt(h:ud w v tb fr til fn fu seen):∀g∈v.l,g<w.heap.size:=λg hg=>by
 simp only[Ev.l,ar,ij,or_false]at hg
 rcases hg with rfl|rfl|rfl|rfl|rfl|rfl
 .exact h.s.lt
 .exact h.t.lt
 .exact h.f.lt
 .exact h.o.lt
 .exact h.d.lt
 .exact h.k.lt
theorem ud.up(h:ud w v tb fr til fn fu seen):ud (w.setCell ⟨v.sB,0,none⟩ ((seen+1:Nat):Int)) v tb fr til fn fu (seen+1):=
 ⟨h.s.cw 0 _,h.t.aY (λe=>h.s.jJ h.t (by decide) e.symm) _,h.f.aY (λe=>h.s.jJ h.f (by decide) e.symm) _,h.o.aY (λe=>h.s.jJ h.o (by decide) e.symm) _,h.d.aY (λe=>h.s.jJ h.d (by decide) e.symm) _,h.k.aY (λe=>h.s.jJ h.k (by decide) e.symm) _⟩
end
def WP{σ:Type}(w w':YB)(v:Ev)(tb:Nat)(I:Ix)(F G:List Nat)(n K:Nat)(fr til:rd)(fn:Nat)(fu:Array YO)(mes:σ->Nat)(Inv:YB->σ->List Nat->Prop)(R:Wk σ):Prop:=
 ∃G',TQ w' tb I F R.q n (K+R.seen)/\ud w' v tb fr til fn fu R.seen/\Inv w' R.s G'/\ag (v.sB::(F++G)) w w'/\(∀g∈G',g∈G\/w.heap.size<=g)/\mes R.s<=57*R.seen/\R.seen<=513/\(R.e=0->R.seen<=512)
structure LW{σ:Type}(w wr:YB)(v:Ev)(tb:Nat)(I:Ix)(F G:List Nat)(n K:Nat)(fr til:rd)(fn:Nat)(fu:Array YO)(mes:σ->Nat)(Inv:YB->σ->List Nat->Prop)(q:QS)(sn bd:Nat)(s:σ)(Gi:List Nat)(leaf:Bool)(A:Option Addr)(c FQ:Nat)(l:List E):Prop where
 t:TQ wr tb I F q n (K+sn)
 e:ud wr v tb fr til fn fu sn
 i:Inv wr s Gi
 o:ag (v.sB::(F++G)) w wr
 g:∀g∈Gi,g∈G\/w.heap.size<=g
 m:mes s<=bd
 s:aM wr 111 3 (U3 A l.length c) l.length (aJ l)
 b:aF wr FQ 118 #[U6 leaf,U3 A l.length c]
 d:∀g∈tb::(v.l++(F++FQ::ah (U3 A l.length c))),g∉Gi
 x:∀g∈FQ::ah (U3 A l.length c),g∉F/\g≠v.sB/\w.heap.size<=g
 y:∀g∈v.l,g∉F/\g≠tb
section
variable{σ:Type}{w wr w':YB}{v:Ev}{tb:Nat}{I:Ix}{F G:List Nat}{n K:Nat}{fr til:rd}{fn:Nat}{fu:Array YO}{mes:σ->Nat}{Inv:YB->σ->List Nat->Prop}{q:QS}{sn bd:Nat}{s:σ}{Gi:List Nat}{leaf:Bool}{A:Option Addr}{c FQ:Nat}{l:List E}{step:E->σ->σ×Bool}
theorem LW.lt(h:LW w wr v tb I F G n K fr til fn fu mes Inv q sn bd s Gi leaf A c FQ l):∀g∈tb::(v.l++(F++FQ::ah (U3 A l.length c))),g<wr.heap.size:=λg hg=>by
 simp only[ar,ay]at hg
 rcases hg with e|hg|hg|e|hg
 .exact h.t.lt g (by simp[e])
 .exact h.e.lt g hg
 .exact h.t.lt g (by simp[hg])
 .rw[e];exact h.b.lt
 .exact h.s.lt g hg
theorem LW.below(V:Vis fn fu step mes Inv)(h:LW w wr v tb I F G n K fr til fn fu mes Inv q sn bd s Gi leaf A c FQ l)(hb:i7 wr w'):LW w w' v tb I F G n K fr til fn fu mes Inv q sn bd s Gi leaf A c FQ l:=
 ⟨h.t.below hb,h.e.below hb,V.pf _ _ _ _ [] h.i (.aj hb) (by simp),h.o.trans (.aj hb),h.g,h.m,h.s.below hb,h.b.below hb h.b.lt,h.d,h.x,h.y⟩
theorem LW.vis{G':List Nat}{s':σ}{bd':Nat}(h:LW w wr v tb I F G n K fr til fn fu mes Inv q sn bd s Gi leaf A c FQ l)(hI:Inv w' s' G')(o:ag Gi wr w')(f:∀g∈G',g∈Gi\/wr.heap.size<=g)(hm:mes s'<=bd'):LW w w' v tb I F G n K fr til fn fu mes Inv q sn bd' s' G' leaf A c FQ l:=
 ⟨h.t.only o (λg hg=>h.d g (by simp only[ar,ay]at hg ⊢;rcases hg with e|e<;>simp[e])),h.e.only o (λg hg=>h.d g (by simp[hg])),hI,h.o.aU o (λg hg ef=>(h.g g hg).elim (λe=>by simp[e]) (λe=>by omega)),λg hg=>(f g hg).elim (h.g g) (λe=> .inr (by have:=h.o.size;omega)),hm,
  h.s.only o (λg hg=>h.d g (by simp[hg])),h.b.only o (h.d _ (by simp)),λg hg hG=>(f g hG).elim (h.d g hg) (λe=>by have:=h.lt g hg;omega),h.x,h.y⟩
theorem LW.deep{R:Wk σ}(h:LW w wr v tb I F G n K fr til fn fu mes Inv q sn bd s Gi leaf A c FQ l)(hw:WP wr w' v tb I F Gi n K fr til fn fu mes Inv R):∃G',LW w w' v tb I F G n K fr til fn fu mes Inv R.q R.seen (57*R.seen) R.s G' leaf A c FQ l/\R.seen<=513/\(R.e=0->R.seen<=512):=by
 obtain⟨G',a1,a2,a3,a4,a5,a6,a7,a8⟩:=hw;have ne:∀g∈FQ::ah (U3 A l.length c),g∉v.sB::(F++Gi):=λg hg hm=>by
  rcases ar.1 hm with e|hm
  .exact(h.x g hg).2.1 e
  .rcases ay.1 hm with hm|hm
   .exact(h.x g hg).1 hm
   .exact h.d g (by simp only[ar,ay]at hg ⊢;rcases hg with e|e<;>simp[e]) hm
 refine⟨G',⟨a1,a2,a3,h.o.aU a4 (λg hg ef=>?_),λg hg=>(a5 g hg).elim (h.g g) (λe=> .inr (by have:=h.o.size;omega)),a6,h.s.only a4 (λg hg=>ne g (by simp[hg])),h.b.only a4 (ne _ (by simp)),λg hg hG=>(a5 g hG).elim (h.d g hg) (λe=>by have:=h.lt g hg;omega),h.x,h.y⟩,a7,a8⟩
 rcases ar.1 hg with e|hg
 .simp[e]
 .rcases ay.1 hg with hg|hg
  .simp[hg]
  .exact(h.g g hg).elim (λe=>by simp[e]) (λe=>by omega)
theorem LW.wp(h:LW w wr v tb I F G n K fr til fn fu mes Inv q sn bd s Gi leaf A c FQ l)(hb:bd<=57*sn)(h1:sn<=513)(more:Bool)(er:Int)(h2:er=0->sn<=512):WP w wr v tb I F G n K fr til fn fu mes Inv ⟨q,sn,s,more,er⟩:=
 ⟨Gi,h.t,h.e,h.i,h.o,h.g,aq h.m hb,h1,h2⟩
end
end Sh
namespace Sh
open Go.RowKit Pk Dk Pg
variable{p j:Int}{a:St}
abbrev Vw:=Int->pu×Int
def ky(v:Vw)(p:Int)(b:pu):Vw:=λj=>if j=p then(b,0)else v j
def II(v:Vw)(p:Int):Vw:=λj=>if j=p then([],3)else v j
theorem FU(v:Vw)(p:Int)(b:pu):ky v p b p=(b,0):=if_pos rfl
theorem nr(v:Vw)(b:pu)(h:j≠p):ky v p b j=v j:=if_neg h
theorem FV(v:Vw)(p:Int):II v p p=([],3):=if_pos rfl
theorem IJ(v:Vw)(h:j≠p):II v p j=v j:=if_neg h
def QS.mes(q:QS):Nat×List (Option (pu))×Nat:=(q.a.now.length,q.a.bj,q.a.many)
theorem Uy(a:St)(l:Int)(p:pu):(a.aG l p).1.now.length=a.now.length/\(a.aG l p).1.bj=a.bj/\(a.aG l p).1.many=a.many:=by
 unfold St.aG
 split
 .exact⟨rfl,rfl,rfl⟩
 .split
  .exact⟨rfl,rfl,rfl⟩
  .split
   .exact⟨rfl,rfl,rfl⟩
   .exact⟨by show(a.now.set _ _).length=_;rw[bV],rfl,rfl⟩
theorem Uz{l:Int}{p:pu}(h:(a.aG l p).2=11):a.free=0:=by
 unfold St.aG at h
 split at h
 .exact absurd h (by simp)
 .split at h
  .exact absurd h (by simp)
  .split at h
   .rename_i h1;exact h1.2
   .exact absurd h (by simp)
theorem Dh(q:QS)(k:Nat):(q.cA k).1.mes=q.mes:=by
 unfold QS.cA
 split
 .obtain⟨a,b,c⟩:=Uy q.a (kA q.l k).ao (kA q.l k).gI.data.toList
  split<;>exact jC a (jC b c)
 .rfl
theorem Lt{q:QS}{k:Nat}(h:(q.cA k).2=11):q.a.free=0:=by
 unfold QS.cA at h
 split at h
 .split at h
  .exact absurd h (by simp)
  .exact Uz h
 .exact absurd h (by simp)
theorem uX(q:QS):q.aN.1.mes=q.mes:=by
 unfold QS.mes;rw[(jX q).1]
theorem wM(q:QS)(p:Int):(q.bh p).1.mes=q.mes:=by
 unfold QS.bh
 split
 .rfl
 .split
  .rfl
  .split
   .exact uX q
   .split
    .rw[Dh];exact uX q
    .exact(Dh _ _).trans (uX q)
theorem Lu{q:QS}(h:(q.bh p).2.2=11):q.a.free=0:=by
 unfold QS.bh at h
 split at h
 .exact absurd h (by simp)
 .split at h
  .rename_i h1;have h:(q.a.aP p).2=11:=h;unfold St.aP at h
   split at h
   .exact absurd h (by simp)
   .exact absurd h (by simp)
  .split at h
   .exact absurd h (by simp)
   .split at h
    .have:=Lt h;rw[(jX q).1]at this;exact this
    .exact absurd h (by simp)
theorem Rw(q:QS)(p:Int):(q.iT p).1.mes=q.mes:=by
 unfold QS.iT
 split<;>rfl
theorem YT(q:QS)(p:Int)(b:rd):(q.gm p b).1.mes=q.mes:=by
 unfold QS.gm
 split
 .rfl
 .split<;>rfl
theorem Rx(q:QS)(p:Int):(q.dN p).1.mes=q.mes:=by
 unfold QS.dN
 split
 .exact wM q p
 .rw[Rw];exact wM q p
theorem get_f11{q:QS}(h:(q.dN p).2.2=11):q.a.free=0:=by
 unfold QS.dN at h
 split at h
 .exact Lu h
 .exact absurd h (by simp)
theorem IK(q:QS)(p:Int)(b:rd):(q.eg p b).1.mes=q.mes:=by
 unfold QS.eg
 split
 .rfl
 .split
  .exact wM q p
  .rw[Rw,YT];exact wM q p
theorem put_f11{q:QS}{b:rd}(h:(q.eg p b).2=11):q.a.free=0:=by
 unfold QS.eg at h
 split at h
 .exact absurd h (by simp)
 .split at h
  .exact Lu h
  .exact absurd h (by simp)
theorem Di(q:QS)(p:Int):(q.aV p).1.mes=q.mes:=by
 have h:(q.a.aV p).1.now.length=q.a.now.length/\(q.a.aV p).1.bj=q.a.bj/\(q.a.aV p).1.many=q.a.many:=by
  unfold St.aV
  split
  .exact⟨by show(q.a.now.set _ _).length=_;rw[bV],rfl,rfl⟩
  .exact⟨rfl,rfl,rfl⟩
 obtain⟨a,b,c⟩:=h;unfold QS.aV
 split
 .rfl
 .split
  .exact jC a (jC b c)
  .split<;>exact jC a (jC b c)
theorem Ry(q:QS)(p:pu):(q.bZ p).1.a.now.length<=q.a.now.length+1/\(q.bZ p).1.a.bj=q.a.bj/\(q.bZ p).1.a.many=q.a.many:=by
 show(q.a.bZ p).1.now.length<=_/\(q.a.bZ p).1.bj=_/\(q.a.bZ p).1.many=_;unfold St.bZ
 split
 .exact⟨Nat.le_succ _,rfl,rfl⟩
 .split
  .exact⟨Nat.le_succ _,rfl,rfl⟩
  .refine⟨?_,rfl,rfl⟩;show(qz q.a.now _ _).length<=_;unfold qz
   split
   .simp
   .rw[bV];omega
theorem YU(a:St):a.slot<=a.now.length:=by unfold St.slot;exact p8
theorem new_f11{q:QS}{p:pu}(h:(q.bZ p).2.2=11):512<=q.a.now.length\/q.a.free=0:=by
 have h:(q.a.bZ p).2.2=11:=h;unfold St.bZ at h
 split at h
 .exact absurd h (by simp)
 .split at h
  .rename_i h1;exact h1.imp (λh=>aq h (YU q.a)) id
  .exact absurd h (by simp)
theorem Lv{u:Nat}(h:a.now.length+a.kept<=u)(hu:u<a.many):a.free≠0:=by
 have:a.fresh<=a.now.length:=xj;unfold St.free;omega
structure Rd(q:QS)(v o:Vw)(u m:Nat):Prop where
 w:∃n K,Wp q n K
 v:∀j,q.vw j=v j
 o:∀j,q.ov j=o j
 u:q.a.now.length+q.a.kept<=u
 m:m<=q.a.many
section
variable{q:QS}{v o:Vw}{u m:Nat}
theorem wN{q q':QS}(h:q'.mes=q.mes):q'.a.now.length+q'.a.kept=q.a.now.length+q.a.kept/\q'.a.many=q.a.many/\q'.a.bj=q.a.bj:=by
 have h1:q'.a.now.length=q.a.now.length:=congrArg Prod.fst h;have h2:q'.a.bj=q.a.bj:=congrArg (λx=>x.2.1) h;have h3:q'.a.many=q.a.many:=congrArg (λx=>x.2.2) h;refine⟨?_,h3,h2⟩;unfold St.kept;rw[h1,h2]
theorem Rd.step(h:Rd q v o u m){q':QS}{v':Int->pu×Int}(hm:q'.mes=q.mes)(hw:∃n K,Wp q' n K)(hv:∀j,q'.vw j=v' j):Rd q' v' o u m:=by
 obtain⟨a,b,c⟩:=wN hm;exact⟨hw,hv,λj=>(Fq c j).trans (h.o j),by rw[a];exact h.u,by rw[b];exact h.m⟩
theorem Rd.free(h:Rd q v o u m)(h0:q.a.free=0):m<=u:=by
 rcases fC u m with h1|h1
 .exact absurd h0 (Lv h.u (vE h1 h.m))
 .exact h1
theorem Rd.get(h:Rd q v o u m)(p:Int):Rd (q.dN p).1 v o u m/\
  (((v p).2=0/\(q.dN p).2=(⟨(v p).1.toArray⟩,0))\/(v p=([],3)/\(q.dN p).2=(⟨#[]⟩,3))\/((q.dN p).2=(⟨#[]⟩,11)/\m<=u)):=by
 obtain⟨n,K,w⟩:=h.w;obtain⟨a,b⟩:=w.get p;refine⟨h.step (Rx q p) ⟨n,_,a.w⟩ (λj=>(a.v j).trans (h.v j)),?_⟩;rw[h.v]at b
 rcases b with b|b|⟨b,c⟩
 .exact .inl b
 .exact .inr (.inl b)
 .exact .inr (.inr ⟨c,h.free (get_f11 (p:=p) (by rw[c]))⟩)
theorem Rd.put(h:Rd q v o u m)(p:Int)(b:rd)(hb:b.size=232)(h0:(v p).2=0):
  ((q.eg p b).2=0/\Rd (q.eg p b).1 (ky v p b.data.toList) o u m)\/((q.eg p b).2=11/\Rd (q.eg p b).1 v o u m/\m<=u):=by
 obtain⟨n,K,w⟩:=h.w;obtain⟨a,c⟩:=w.put p b (by omega)
 rcases c with⟨c1,c2,c3⟩|⟨c1,c2,c3⟩|⟨c1,c2,c3⟩
 .refine .inl ⟨c2,h.step (IK q p b) ⟨n,_,a.w⟩ (λj=>?_)⟩;rw[c3,wk hb];unfold ky
  split
  .rfl
  .exact h.v j
 .rw[h.v]at c1;rw[c1]at h0;exact absurd h0 (by decide)
 .exact .inr ⟨c2,h.step (IK q p b) ⟨n,_,a.w⟩ (λj=>(c3 j).trans (h.v j)),h.free (put_f11 c2)⟩
theorem Rd.new(h:Rd q v o u m)(p:rd)(hb:p.size<=232):
  (∃l:Nat,(q.bZ p.data.toList).2=(((l:Nat):Int),0)/\l<=511/\v (l:Nat)=([],3)/\Rd (q.bZ p.data.toList).1 (ky v (l:Nat) (ft p.data.toList 232)) o (u+1) m)\/
  ((q.bZ p.data.toList).2=(0,11)/\Rd (q.bZ p.data.toList).1 v o (u+1) m/\(m<=u\/512<=u)):=by
 obtain⟨n,K,w⟩:=h.w;obtain⟨a,c⟩:=w.new p hb;obtain⟨m1,m2,m3⟩:=Ry q p.data.toList;have hk:(q.bZ p.data.toList).1.a.now.length+(q.bZ p.data.toList).1.a.kept<=u+1:=by
  have:=h.u;have hk:(q.bZ p.data.toList).1.a.kept=q.a.kept:=by unfold St.kept;rw[m2]
  omega
 rcases c with⟨l,c1,c2,c3,c4⟩|⟨c1,c2⟩
 .refine .inl ⟨l,c1,c2,by rw[<-h.v];exact c3,⟨n,_,a.w⟩,λj=>?_,λj=>(Fq m2 j).trans (h.o j),hk,by rw[m3];exact h.m⟩;rw[c4];unfold ky
  split
  .rfl
  .exact h.v j
 .refine .inr ⟨c1,⟨⟨n,_,a.w⟩,λj=>(c2 j).trans (h.v j),λj=>(Fq m2 j).trans (h.o j),hk,by rw[m3];exact h.m⟩,?_⟩
  rcases new_f11 (q:=q) (p:=p.data.toList) (by rw[c1])with h1|h1
  .have:=h.u;right;omega
  .exact .inl (h.free h1)
theorem Rd.drop(h:Rd q v o u m)(p:Int)(h0:(v p).2=0):(q.aV p).2=0/\Rd (q.aV p).1 (II v p) o u m:=by
 obtain⟨n,K,w⟩:=h.w;obtain⟨a,c⟩:=w.drop p
 rcases c with⟨c1,c2,c3⟩|⟨c1,c2,c3⟩
 .refine⟨c2,h.step (Di q p) ⟨n,_,a.w⟩ (λj=>?_)⟩;rw[c3];unfold II
  split
  .rfl
  .exact h.v j
 .rw[h.v]at c1;rw[c1]at h0;exact absurd h0 (by simp)
theorem Rd.lt(h:Rd q v o u m)(h0:(v j).2=0):0<=j/\j<512:=by
 obtain⟨n,K,w⟩:=h.w;exact w.vw_lt (by rw[h.v];exact h0)
theorem Rd.err(h:Rd q v o u m)(j:Int):(v j).2=0\/v j=([],3):=by
 rw[<-h.v];exact Is q j
theorem Rd.le(h:Rd q v o u m){u':Nat}(hu:u<=u'):Rd q v o u' m:=⟨h.w,h.v,h.o,aq h.u hu,h.m⟩
end
open Nd (E aS aZ et bI bg cG bR an)
variable{leaf:Bool}{l:List E}{v:Vw}{p:Int}
def iX(v:Vw)(p:Int):Bool×List E×Int:=
 if(v p).2≠0 then(false,[],wG (v p).2)else((aS (v p).1).1,(aS (v p).1).2.1,wG (aS (v p).1).2.2)
theorem pL(leaf:Bool)(l:List E):(et (blank leaf l) leaf/\an (blank leaf l)<=223/\(bT leaf l).2=0/\(bT leaf l).1.length=232/\aS (bT leaf l).1=(leaf,blank leaf l,0))\/
  (et (blank leaf l) leaf/\223<an (blank leaf l)/\bT leaf l=([],11))\/(¬et (blank leaf l) leaf/\bT leaf l=([],2)):=by
 unfold bT
 by_cases hm:et (blank leaf l) leaf
 .have hb:=Nd.CR leaf (blank leaf l)
  by_cases hr:an (blank leaf l)<=223
  .left;have h0:(aZ leaf (blank leaf l)).2=0:=by
    unfold aZ;rw[if_pos ((Nd.mE _ _).2 hm),if_pos (by rw[hb];omega)]
   refine⟨hm,hr,h0,?_,Nd.Lg h0⟩;unfold aZ;rw[if_pos ((Nd.mE _ _).2 hm),if_pos (by rw[hb];omega)];exact(Nd.yj _ (by rw[hb];omega)).1.len
  .right;left;refine⟨hm,by omega,?_⟩;unfold aZ;rw[if_pos ((Nd.mE _ _).2 hm),if_neg (by rw[hb];omega)]
 .right;right;refine⟨hm,?_⟩;unfold aZ;rw[if_neg (λh=>hm ((Nd.mE _ _).1 h))]
theorem Dj(h:(bT leaf l).2=0):et (blank leaf l) leaf/\an (blank leaf l)<=223/\(bT leaf l).1.length=232/\aS (bT leaf l).1=(leaf,blank leaf l,0):=by
 rcases pL leaf l with⟨a,b,c,d,e⟩|⟨a,b,c⟩|⟨a,c⟩
 .exact⟨a,b,d,e⟩
 .rw[c]at h;exact absurd h (by decide)
 .rw[c]at h;exact absurd h (by decide)
theorem hJ(h:(bT leaf l).2=0)(p j:Int):iX (ky v p (bT leaf l).1) j=if j=p then(leaf,blank leaf l,0)else iX v j:=by
 unfold iX ky
 by_cases e:j=p
 .rw[if_pos e,if_pos e,(Dj h).2.2.2];rfl
 .rw[if_neg e,if_neg e]
theorem yr{v':Vw}(h:v' p=v p):iX v' p=iX v p:=by
 unfold iX;rw[h]
theorem n7(h:(iX v p).2.2=0):(v p).2=0:=by
 unfold iX at h
 split at h
 .rename_i h1;exact absurd (tI.1 h) h1
 .rename_i h1;omega
theorem qI(h:(iX v p).2.2=0):et (iX v p).2.1 (iX v p).1:=by
 have h0:=n7 h;unfold iX at h ⊢;rw[gc]at h ⊢;have h1:=tI.1 h;exact Nd.zi h1
section
variable{q:QS}{v o:Vw}{u m:Nat}
theorem Rd.read(h:Rd q v o u m)(p:Int):Rd (q.bF p).1 v o u m/\((q.bF p).2=iX v p\/((q.bF p).2=(false,[],11)/\m<=u)):=by
 obtain⟨a,b⟩:=h.get p;unfold QS.bF iX
 rcases b with⟨b1,b2⟩|⟨b1,b2⟩|⟨b1,b2⟩
 .rw[b2,i8,gc];exact⟨a,.inl rfl⟩
 .rw[b2,b1,i9,i9];exact⟨a,.inl rfl⟩
 .rw[b1,i9];exact⟨a,.inr ⟨rfl,b2⟩⟩
theorem Rd.write(h:Rd q v o u m)(h0:(v p).2=0)(hl:(bT leaf l).2=0):
  ((q.db p leaf l).2=0/\Rd (q.db p leaf l).1 (ky v p (bT leaf l).1) o u m)\/((q.db p leaf l).2=11/\Rd (q.db p leaf l).1 v o u m/\m<=u):=by
 unfold QS.db;rw[gc];exact h.put p ⟨(bT leaf l).1.toArray⟩ (by show(bT leaf l).1.toArray.size=_;rw[j9];exact(Dj hl).2.2.1) h0
theorem UA(q:QS)(p:Int)(hl:(bT leaf l).2≠0):q.db p leaf l=(q,(bT leaf l).2):=by
 unfold QS.db;rw[if_pos hl]
theorem Rd.make(h:Rd q v o u m)(hl:(bT leaf l).2=0):
  (∃k:Nat,(q.eK leaf l).2=(((k:Nat):Int),0)/\k<=511/\v (k:Nat)=([],3)/\Rd (q.eK leaf l).1 (ky v (k:Nat) (bT leaf l).1) o (u+1) m)\/
  ((q.eK leaf l).2=(0,11)/\Rd (q.eK leaf l).1 v o (u+1) m/\(m<=u\/512<=u)):=by
 unfold QS.eK;rw[gc];have hn:=h.new ⟨(bT leaf l).1.toArray⟩ (by show(bT leaf l).1.toArray.size<=_;rw[j9,(Dj hl).2.2.1];exact ai _);have e:ft (bT leaf l).1 232=(bT leaf l).1:=by
  have:=wk (b:=⟨(bT leaf l).1.toArray⟩) (by show(bT leaf l).1.toArray.size=_;rw[j9];exact(Dj hl).2.2.1);exact this
 have hd:(⟨(bT leaf l).1.toArray⟩:rd).data.toList=(bT leaf l).1:=rfl;rw[hd,e]at hn;exact hn
end
open Nd (E aS aZ et bI bg cG bR an dO)
variable{a b c:rd}{v v':Vw}{h:Nat}{l:List E}{leaf:Bool}{p:Int}{y:Step}
theorem Dl{α β:Type}{f g:α->List β}:∀{l:List α},(∀a∈l,f a=g a)->l.flatMap f=l.flatMap g
 |[],_=>rfl
 |a::l,h=>by rw[im,im,h a (by simp),Dl λx hx=>h x (by simp[hx])]
def kc(a b:rd):Int:=Nd.cb a.data.toList b.data.toList
abbrev fw(a b:rd):Prop:=kc a b<0
abbrev ox(a b:rd):Prop:=kc a b<=0
theorem Rz :kc a b=0↔a=b:=by
 unfold kc;rw[Nd.Yt];exact⟨λh=>jQ (qP.1 h),λh=>by rw[h]⟩
theorem Qc(a b:rd):kc b a= -kc a b:=Nd.IA _ _
theorem fc(h:fw a b)(k:fw b c):fw a c:=Nd.rY _ _ _ h k
theorem uY(h:fw a b):ox a b:=Int.le_of_lt h
theorem pM(h:ox a b):fw a b\/a=b:=by
 rcases Int.lt_or_eq_of_le h with h|h
 .exact .inl h
 .exact .inr (Rz.1 h)
theorem hX(h:fw a b)(k:ox b c):fw a c:=by
 rcases pM k with k|rfl
 .exact fc h k
 .exact h
theorem jH(h:ox a b)(k:fw b c):fw a c:=by
 rcases pM h with h|rfl
 .exact fc h k
 .exact k
theorem pN(h:ox a b)(k:ox b c):ox a c:=by
 rcases pM h with h|rfl
 .exact uY (hX h k)
 .exact k
theorem RA(a:rd):ox a a:=Int.le_of_eq (Rz.2 rfl)
theorem gC(h:fw a a):False:=by
 have:=Rz.2 (rfl:a=a);omega
theorem tL(h:fw a b)(k:ox b a):False:=gC (hX h k)
theorem kz(h:¬fw a b):ox b a:=by
 have:=Qc a b;omega
theorem tM(a:rd):ox ⟨#[]⟩ a:=by
 show Nd.cb [] a.data.toList<=0
 cases a.data.toList<;>simp[Nd.cb,Lib.compareBytes]
abbrev NT:=Nat×Int×List E
def aL(v:Vw):Nat->Int->List NT
 |0,p=>[(0,p,(iX v p).2.1)]
 |h+1,p=>(h+1,p,(iX v p).2.1)::(iX v p).2.1.flatMap λe=>aL v h e.aY
def bz(v:Vw)(h:Nat)(l:List E):List NT:=l.flatMap λe=>aL v h e.aY
def ct(ns:List NT):List E:=ns.flatMap λn=>if n.1=0 then n.2.2 else []
def bG(ns:List NT):List Int:=ns.map λn=>n.2.1
def ie(v:Vw)(h:Nat)(p:Int):List E:=ct (aL v h p)
@[simp] theorem entsT_nil:ct []=[]:=rfl
@[simp] theorem eE(a b:List NT):ct (a++b)=ct a++ct b:=by simp[ct]
theorem uZ(n:NT)(a:List NT):ct (n::a)=(if n.1=0 then n.2.2 else [])++ct a:=rfl
@[simp] theorem Qd(p:Int)(l:List E)(a:List NT):ct ((0,p,l)::a)=l++ct a:=rfl
@[simp] theorem lU(h:Nat)(p:Int)(l:List E)(a:List NT):ct ((h+1,p,l)::a)=ct a:=by rw[uZ];simp
@[simp] theorem pgsT_nil:bG []=[]:=rfl
@[simp] theorem dq(a b:List NT):bG (a++b)=bG a++bG b:=by simp[bG]
@[simp] theorem dr(n:NT)(a:List NT):bG (n::a)=n.2.1::bG a:=rfl
@[simp] theorem UB(v:Vw)(h:Nat):bz v h []=[]:=rfl
@[simp] theorem gu(v:Vw)(h:Nat)(e:E)(l:List E):bz v h (e::l)=aL v h e.aY++bz v h l:=rfl
@[simp] theorem iC(v:Vw)(h:Nat)(a b:List E):bz v h (a++b)=bz v h a++bz v h b:=by simp[bz]
theorem dY{x:E}:x∈ct (bz v h l)↔ ∃e∈l,x∈ie v h e.aY:=by
 induction l with
 |nil=>simp
 |cons e l ih=>simp[ih,ie]
structure vd(C:Int->Prop)(en:Int->List E)(l:List E):Prop where
 ne:l≠[]
 c:∀e∈l,C e.aY/\en e.aY≠[]
 lo:l.Pairwise λc e=> ∀x∈en c.aY,fw x.key e.key
 hi:∀e∈l.tail,∀x∈en e.aY,ox e.key x.key
def nG(v:Vw):Nat->Int->Prop
 |0,p=>iX v p=(true,(iX v p).2.1,0)/\an (iX v p).2.1<=223
 |h+1,p=>iX v p=(false,(iX v p).2.1,0)/\an (iX v p).2.1<=223/\blank false (iX v p).2.1=(iX v p).2.1/\vd (nG v h) (ie v h) (iX v p).2.1
def gK(v:Vw)(h:Nat)(l:List E):Prop:=(∀e∈l,dO e (decide (h=0)))/\match h with
 |0=>l.Pairwise λc e=>fw c.key e.key
 |h+1=>vd (nG v h) (ie v h) l
def cM(v:Vw)(h:Nat)(l:List E):List NT:=match h with
 |0=>[]
 |h+1=>bz v h l
def ig(v:Vw)(h:Nat)(l:List E):List E:=match h with
 |0=>l
 |h+1=>ct (bz v h l)
theorem oM(v:Vw)(h:Nat)(p:Int):aL v h p=(h,p,(iX v p).2.1)::cM v h (iX v p).2.1:=by cases h<;>rfl
theorem IL(v:Vw)(h:Nat)(p:Int):ie v h p=ig v h (iX v p).2.1:=by
 cases h with
 |zero=>simp[ie,aL,ig]
 |succ h=>exact lU _ _ _ _
theorem nH(h:et l leaf):∀e∈l,dO e leaf:=λe he=>by
 obtain⟨i,hi,rfl⟩:=p9 he;exact(h i hi _ (aH hi)).1
theorem Lw(h:et l leaf):l.Pairwise λc e=>fw c.key e.key:=by
 rw[vA];intro i j hi hj hij;exact Nd.PL h i (j-i-1) (aH hi) (by rw[show i+1+(j-i-1)=j by omega];exact aH hj)
theorem Qe(h:∀e∈l,dO e leaf)(hp:l.Pairwise λc e=>fw c.key e.key):et l leaf:=by
 intro i hi e he;refine⟨h e (aA he),λh0 p hpe=>?_⟩;rw[vA]at hp;have h1:=hp (i-1) i (by omega) hi (by omega);rw[aH (by omega)]at he hpe;injection he with he
 injection hpe with hpe
 rw[he,hpe]at h1;rw[Nd.Yu,decide_eq_false_iff_not];have h2:=Qc p.key e.key;have h1:kc p.key e.key<0:=h1;show ¬kc e.key p.key<=0;omega
theorem pair_ne{C:Int->Prop}{en:Int->List E}(h:vd C en l):l.tail.Pairwise λc e=>fw c.key e.key:=by
 obtain⟨ne,c,lo,hi⟩:=h
 cases l with
 |nil=>exact List.Pairwise.nil
 |cons e l=>
  rw[l9]at hi ⊢;rw[eC]at lo;refine List.Pairwise.imp_of_mem ?_ lo.2;intro a b ha hb hab;obtain⟨x,hx⟩:=xo _ (c a (bK _ ha)).2;exact jH (hi a ha x hx) (hab x hx)
theorem in_may{C:Int->Prop}{en:Int->List E}(h:vd C en l)(hr:∀e∈l,dO e false):et (blank false l) false:=by
 have hp:=pair_ne h;obtain⟨ne,c,lo,hi⟩:=h
 cases l with
 |nil=>exact absurd rfl ne
 |cons e l=>
  have hb:blank false (e::l)={e with key:=⟨#[]⟩}::l:=rfl;rw[hb];refine Qe (λx hx=>?_) ?_
  .rcases ar.1 hx with rfl|hx
   .obtain⟨a,b,cc⟩:=hr e (gS ..);exact⟨aW _,b,cc⟩
   .exact hr x (bK _ hx)
  .rw[eC]at lo ⊢;refine⟨λx hx=>?_,hp⟩;obtain⟨y,hy⟩:=xo _ (c e (gS ..)).2;exact jH (tM y.key) (lo.1 x hx y hy)
theorem YV{C:Int->Prop}{en:Int->List E} :vd C en (blank false l)↔vd C en l:=by
 cases l with
 |nil=>exact Iff.rfl
 |cons e l=>
  have hb:blank false (e::l)={e with key:=⟨#[]⟩}::l:=rfl;rw[hb]
  constructor
  .rintro⟨ne,c,lo,hi⟩;refine⟨by simp,λx hx=>?_,?_,hi⟩
   .rcases ar.1 hx with rfl|hx
    .exact c {x with key:=⟨#[]⟩} (gS ..)
    .exact c x (bK _ hx)
   .rw[eC]at lo ⊢;exact lo
  .rintro⟨ne,c,lo,hi⟩;refine⟨by simp,λx hx=>?_,?_,hi⟩
   .rcases ar.1 hx with rfl|hx
    .exact c e (gS ..)
    .exact c x (bK _ hx)
   .rw[eC]at lo ⊢;exact lo
theorem Dm(v:Vw)(h:Nat)(leaf:Bool)(l:List E):bz v h (blank leaf l)=bz v h l:=by
 cases leaf<;>cases l<;>rfl
theorem lV(l:List E):blank true l=l:=by cases l<;>rfl
theorem pO(leaf:Bool):blank leaf []=[]:=by cases leaf<;>rfl
theorem dX(leaf:Bool)(l:List E):an (blank leaf l)<=an l:=by
 cases leaf
 .cases l with
  |nil=>exact ai _
  |cons e l=>show an ({e with key:=⟨#[]⟩}::l)<=_;unfold an;simp;exact aW _
 .rw[lV];exact ai _
theorem Lx(k:gK v h l):et (blank (decide (h=0)) l) (decide (h=0)):=by
 cases h with
 |zero=>exact(lV l).symm▸Qe k.1 k.2
 |succ h=>exact in_may k.2 k.1
theorem IM(k:nG v h p):iX v p=(decide (h=0),(iX v p).2.1,0)/\an (iX v p).2.1<=223/\gK v h (iX v p).2.1:=by
 cases h with
 |zero=>
  have hm:=qI (v:=v) (p:=p) (by rw[k.1]);rw[k.1]at hm;exact⟨k.1,k.2,nH hm,Lw hm⟩
 |succ h=>
  have hm:=qI (v:=v) (p:=p) (by rw[k.1]);rw[k.1]at hm;exact⟨k.1,k.2.1,nH hm,k.2.2.2⟩
theorem list_ok(k:iX v p=(decide (h=0),l,0))(hb:an l<=223)(hk:blank (decide (h=0)) l=l)(hl:gK v h l):nG v h p:=by
 cases h with
 |zero=>exact⟨by rw[k];rfl,by rw[k];exact hb⟩
 |succ h=>exact⟨by rw[k];rfl,by rw[k];exact hb,by rw[k];exact hk,by rw[k];exact hl.2⟩
theorem zq :∀(h:Nat) (p:Int),(∀j∈bG (aL v h p),v' j=v j)->aL v' h p=aL v h p/\(nG v h p->nG v' h p)
 |0,p,hj=>by
  have e:=yr (hj p (by simp[aL]));exact⟨by unfold aL;rw[e],λh=>by unfold nG at h ⊢;rw[e];exact h⟩
 |h+1,p,hj=>by
  have e:=yr (hj p (by simp[aL]));have hk:∀c∈(iX v p).2.1,aL v' h c.aY=aL v h c.aY/\(nG v h c.aY->nG v' h c.aY):=λc hc=>zq h c.aY λj hjm=>hj j (by
   unfold aL;rw[dr];refine bK _ ?_;simp only[bG,cr,mZ]at hjm ⊢;obtain⟨n,hn,rfl⟩:=hjm;exact⟨n,⟨c,hc,hn⟩,rfl⟩)
  have hf:((iX v p).2.1.flatMap λe=>aL v' h e.aY)=(iX v p).2.1.flatMap λe=>aL v h e.aY:=Dl λc hc=>(hk c hc).1;refine⟨?_,?_⟩
  .unfold aL;rw[e,hf]
  .unfold nG;rw[e];rintro⟨a,b,bk,d⟩;refine⟨a,b,bk,d.ne,λx hx=>⟨(hk x hx).2 (d.c x hx).1,by unfold ie;rw[(hk x hx).1];exact(d.c x hx).2⟩,?_,λx hx y hy=>?_⟩
   .refine List.Pairwise.imp_of_mem ?_ d.lo;intro x y hx hy Vz z hz;unfold ie at hz;rw[(hk x hx).1]at hz;exact Vz z hz
   .unfold ie at hy;rw[(hk x (vy hx)).1]at hy;exact d.hi x hx y hy
theorem iO(hj:∀j∈bG (bz v h l),v' j=v j):bz v' h l=bz v h l/\∀e∈l,aL v' h e.aY=aL v h e.aY/\(nG v h e.aY->nG v' h e.aY):=by
 have hk:∀c∈l,aL v' h c.aY=aL v h c.aY/\(nG v h c.aY->nG v' h c.aY):=λc hc=>zq h c.aY λj hjm=>hj j (by
  unfold bz;simp only[bG,cr,mZ]at hjm ⊢;obtain⟨n,hn,rfl⟩:=hjm;exact⟨n,⟨c,hc,hn⟩,rfl⟩)
 exact⟨Dl λc hc=>(hk c hc).1,hk⟩
theorem YY(hk:∀e∈l,aL v' h e.aY=aL v h e.aY/\(nG v h e.aY->nG v' h e.aY))(d:vd (nG v h) (ie v h) l):vd (nG v' h) (ie v' h) l:=by
 refine⟨d.ne,λx hx=>⟨(hk x hx).2 (d.c x hx).1,by unfold ie;rw[(hk x hx).1];exact(d.c x hx).2⟩,?_,λx hx y hy=>?_⟩
 .refine List.Pairwise.imp_of_mem ?_ d.lo;intro x y hx hy Vz z hz;unfold ie at hz;rw[(hk x hx).1]at hz;exact Vz z hz
 .unfold ie at hy;rw[(hk x (vy hx)).1]at hy;exact d.hi x hx y hy
theorem lW(hj:∀j∈bG (cM v h l),v' j=v j):cM v' h l=cM v h l/\ig v' h l=ig v h l/\(gK v h l->gK v' h l):=by
 cases h with
 |zero=>exact⟨rfl,rfl,id⟩
 |succ h=>
  obtain⟨a,b⟩:=iO (h:=h) (l:=l) hj;exact⟨a,by show ct _=ct _;rw[a],λk=>⟨k.1,YY b k.2⟩⟩
structure YZ(v:Vw)(h:Nat)(y:Step)(p:Int)(a:List E)(c:E)(b:List E):Prop where
 leaf:y.leaf=false
 nd:iX v y.ao=(false,y.l,0)
 by_:an y.l<=223
 bk:blank false y.l=y.l
 l:y.l=a++c::b
 at_:y.at_=a.length
 aY:c.aY=p
 ch:∀e∈a++b,nG v h e.aY/\ie v h e.aY≠[]
 lo:(a++b).Pairwise λc e=> ∀x∈ie v h c.aY,fw x.key e.key
 la:∀e∈a,∀x∈ie v h e.aY,fw x.key c.key
 ha:∀e∈a.tail,∀x∈ie v h e.aY,ox e.key x.key
 hb:∀e∈b,∀x∈ie v h e.aY,ox e.key x.key
 hc:a≠[]->∀e∈b,fw c.key e.key
def IP:List Step->rd->Prop
 |[],_=>True
 |y::up,k=>(0<y.at_->ox (y.l.getD y.at_ Nd.E.zero).key k)/\(∀e∈y.l.drop (y.at_+1),fw k e.key)/\IP up k
def qS(v:Vw):List Step->Nat->Int->Prop
 |[],_,p=>p=0
 |y::up,h,p=>(∃a c b,YZ v h y p a c b/\∀e∈a++b,∀x∈ie v h e.aY,IP up x.key)/\qS v up (h+1) y.ao
def fV(v:Vw):List Step->Nat->List NT
 |[],_=>[]
 |y::up,h=>fV v up (h+1)++(h+1,y.ao,y.l)::bz v h (y.l.take y.at_)
def dJ(v:Vw):List Step->Nat->List NT
 |[],_=>[]
 |y::up,h=>bz v h (y.l.drop (y.at_+1))++dJ v up (h+1)
theorem dK(v:Vw)(h:Nat):fV v [] h=[]:=rfl
theorem cR(v:Vw)(h:Nat):dJ v [] h=[]:=rfl
theorem du(v:Vw)(y:Step)(up:List Step)(h:Nat):fV v (y::up) h=fV v up (h+1)++(h+1,y.ao,y.l)::bz v h (y.l.take y.at_):=rfl
theorem cP(v:Vw)(y:Step)(up:List Step)(h:Nat):dJ v (y::up) h=bz v h (y.l.drop (y.at_+1))++dJ v up (h+1):=rfl
theorem mq{a:List E}{c:E}{b:List E}(f:YZ v h y p a c b):y.l.take y.at_=a/\y.l.drop (y.at_+1)=b/\y.l.getD y.at_ Nd.E.zero=c:=by
 rw[f.l,f.at_];refine⟨sK,?_,?_⟩
 .rw[show a++c::b=(a++[c])++b by simp,List.drop_left' (by simp)]
 .simp[iq]
theorem n8{a:List E}{c:E}{b:List E}(f:YZ v h y p a c b)(up:List Step)(k:rd):IP (y::up) k↔(a≠[]->ox c.key k)/\(∀e∈b,fw k e.key)/\IP up k:=by
 obtain⟨h1,h2,h3⟩:=mq f;show((0<y.at_->ox (y.l.getD y.at_ Nd.E.zero).key k)/\(∀e∈y.l.drop (y.at_+1),fw k e.key)/\IP up k)↔_;rw[h2,h3,f.at_];refine and_congr_left λ_=>?_
 constructor
 .exact λhh hn=>hh (zT.2 hn)
 .exact λhh hn=>hh (zT.1 hn)
theorem fr_in{a:List E}{c:E}{b:List E}(f:YZ v h y p a c b)(hp:nG v h p)(hn:ie v h p≠[])(hh:∀x∈ie v h p,(a≠[]->ox c.key x.key)/\∀e∈b,fw x.key e.key):nG v (h+1) y.ao:=by
 unfold nG;rw[f.nd];refine⟨rfl,f.by_,f.bk,by rw[f.l];simp,λe he=>?_,?_,λe he=>?_⟩
 .rw[f.l]at he
  rcases ay.1 he with he|he
  .exact f.ch e (cg _ he)
  .rcases ar.1 he with rfl|he
   .rw[f.aY];exact⟨hp,hn⟩
   .exact f.ch e (bP _ he)
 .show y.l.Pairwise _;have:=f.lo;rw[eB]at this;rw[f.l,eB,eC];refine⟨this.1,⟨λe he x hx=>?_,this.2.1⟩,λe he e' nj x hx=>?_⟩
  .rw[f.aY]at hx;exact(hh x hx).2 e he
  .rcases ar.1 nj with rfl|nj
   .exact f.la e he x hx
   .exact this.2.2 e he e' nj x hx
 .have he:e∈y.l.tail:=he;rw[f.l]at he
  cases ha:a with
  |nil=>
   rw[ha]at he;exact f.hb e he
  |cons z a'=>
   have fF:a≠[]:=by rw[ha];simp
   have hha:=f.ha;rw[ha]at he hha;rw[nL,l9]at he;rw[l9]at hha
   rcases ay.1 he with he|he
   .exact hha e he
   .rcases ar.1 he with rfl|he
    .intro x hx;rw[f.aY]at hx;exact(hh x hx).1 fF
    .exact f.hb e he
theorem plug :∀(up:List Step) (h:Nat) (p:Int),qS v up h p->nG v h p->(up≠[]->ie v h p≠[])->(∀x∈ie v h p,IP up x.key)->
  nG v (h+up.length) 0/\aL v (h+up.length) 0=fV v up h++(aL v h p++dJ v up h)
 |[],h,p,hH,ho,hn,hi=>by
  have e:p=0:=hH;subst e;exact⟨ho,by simp[dK,cR]⟩
 |y::up,h,p,hH,ho,hn,hi=>by
  obtain⟨⟨a,c,b,f,hs⟩,hU⟩:=hH;have VG:=λx hx=>(n8 f up x.key).1 (hi x hx);have hn:=hn (by simp);have o1:=fr_in f ho hn (λx hx=>⟨(VG x hx).1,(VG x hx).2.1⟩);obtain⟨t1,t2,t3⟩:=mq f;have e1:aL v (h+1) y.ao=(h+1,y.ao,y.l)::(bz v h a++(aL v h p++bz v h b)):=by
   rw[oM,f.nd];show _::bz v h y.l=_;rw[f.l,iC,gu,f.aY,<-f.l]
  have hmem:∀x∈ie v (h+1) y.ao,x∈ie v h p\/∃e∈a++b,x∈ie v h e.aY:=λx hx=>by
   unfold ie at hx;rw[e1,lU,eE,eE]at hx
   rcases ay.1 hx with hx|hx
   .obtain⟨e,he,hx⟩:=dY.1 hx;exact .inr ⟨e,cg _ he,hx⟩
   .rcases ay.1 hx with hx|hx
    .exact .inl hx
    .obtain⟨e,he,hx⟩:=dY.1 hx;exact .inr ⟨e,bP _ he,hx⟩
  have fF:ie v (h+1) y.ao≠[]:=λh0=>by
   unfold ie at h0;rw[e1,lU,eE,eE,M5,M5]at h0;exact hn h0.2.1
  obtain⟨r1,r2⟩:=plug up (h+1) y.ao hU o1 (λ_=>fF) (λx hx=>by
   rcases hmem x hx with hx|⟨e,he,hx⟩
   .exact(VG x hx).2.2
   .exact hs e he x hx)
  have hl:h+(y::up).length=h+1+up.length:=by simp;omega
  rw[hl];refine⟨r1,?_⟩;rw[r2,e1];simp only[du,cP,dK,cR];rw[t1,t2];simp
variable{l:List E}{v:Vw}{p:Int}{key:rd}
theorem Y1(e:E)(k:rd):Nd.uc e k=kc e.key k:=rfl
theorem Dn(hp:l.Pairwise λc e=>fw c.key e.key)(key:rd):∃a b,l=a++b/\bg l key=a.length/\(∀e∈a,fw e.key key)/\
  ((cG l key=true/\∃c b',b=c::b'/\c.key=key/\∀e∈b',fw key e.key)\/(cG l key=false/\∀e∈b,fw key e.key)):=by
 have hle:bg l key<=l.length:=p8;have ef:∀e∈l.take (bg l key),fw e.key key:=λe he=>by
  obtain⟨j,hj,rfl⟩:=p9 he;rw[bC]at hj;have hj2:j<l.findIdx λe=>decide (0<=Nd.uc e key):=by unfold bg at hj;omega
  have:=GW hj2;have:=of_decide_eq_false this;rw[Nk];rw[Y1]at this;show kc _ _<0;omega
 refine⟨l.take (bg l key),l.drop (bg l key),(m7 _ _).symm,by rw[bC];omega,ef,?_⟩
 rcases fC (bg l key) l.length with hf|hf
 .have he:=rh hf;have h0:0<=kc l[bg l key].key key:=by
   have:=rj (w:=show(l.findIdx λe=>decide (0<=Nd.uc e key))<l.length from hf);exact of_decide_eq_true this
  rw[he];have hp2:(l.drop (bg l key)).Pairwise λc e=>fw c.key e.key:=hp.sublist (List.drop_sublist _ _);rw[he,eC]at hp2;unfold cG;rw[aH hf];dsimp only;rw[Y1]
  by_cases hz:kc l[bg l key].key key=0
  .left;have hk:=Rz.1 hz;refine⟨by rw[decide_eq_true hz],_,_,rfl,hk,λe he=>?_⟩;rw[<-hk];exact hp2.1 e he
  .right;have hn:=Qc l[bg l key].key key;have h1:fw key l[bg l key].key:=by show kc _ _<0;omega
   refine⟨by rw[decide_eq_false hz],λe he=>?_⟩
   rcases ar.1 he with rfl|he
   .exact h1
   .exact fc h1 (hp2.1 e he)
 .right;rw[lJ hf];refine⟨?_,by simp⟩;unfold cG;rw[gH hf]
theorem Lz(hp:l.Pairwise λc e=>fw c.key e.key)(hn:l≠[])(key:rd):∃a c b,l=a++c::b/\bI l key=a.length/\(a≠[]->ox c.key key)/\∀e∈b,fw key e.key:=by
 obtain⟨a,b,hl,hf,ha,hb⟩:=Dn hp key;unfold bI
 rcases hb with⟨h1,c,b',rfl,hc,hb'⟩|⟨h1,hb⟩
 .rw[if_pos h1];exact⟨a,c,b',hl,hf,λ_=>by rw[hc];exact RA _,hb'⟩
 .rw[if_neg (by rw[h1];simp),hf]
  rcases ux a with rfl|⟨a',c,rfl⟩
  .cases b with
   |nil=>exact absurd hl hn
   |cons c b'=>exact⟨[],c,b',hl,rfl,λh=>absurd rfl h,λe he=>hb e (bK _ he)⟩
  .refine⟨a',c,b,by rw[hl];simp,by simp,λ_=>uY (ha c (by simp)),hb⟩
theorem fr_of{h:Nat}{a b:List E}{c:E}(hd:iX v p=(false,l,0))(hb:an l<=223)(hk:blank false l=l)(d:vd (nG v h) (ie v h) l)(hl:l=a++c::b)(hp:l.Pairwise λc e=>fw c.key e.key):
  YZ v h ⟨p,false,l,a.length⟩ c.aY a c b:=by
 have MQ:=d.lo;have Ug:=d.hi;have hc:=d.c;rw[hl,eB,eC]at MQ hp;refine⟨rfl,hd,hb,hk,hl,rfl,rfl,λe he=>?_,?_,λe he x hx=>MQ.2.2 e he c (gS ..) x hx,λe he x hx=>?_,λe he x hx=>?_,λ_ e he=>hp.2.1.1 e he⟩
 .rw[hl]at hc
  rcases ay.1 he with he|he
  .exact hc e (cg _ he)
  .exact hc e (bP _ (bK _ he))
 .rw[eB];exact⟨MQ.1,MQ.2.1.2,λx hx y hy=>MQ.2.2 x hx y (bK _ hy)⟩
 .rw[hl]at Ug
  cases a with
  |nil=>exact absurd he (by simp)
  |cons z a'=>exact Ug e (cg _ he) x hx
 .rw[hl]at Ug
  cases a with
  |nil=>exact Ug e he x hx
  |cons z a'=>exact Ug e (bP _ (bK _ he)) x hx
theorem qJ{leaf:Bool}(h:iX v p=(leaf,l,0)):l.Pairwise λc e=>fw c.key e.key:=by
 have:=Lw (qI (v:=v) (p:=p) (by rw[h]));rw[h]at this;exact this
structure WayV(v:Vw)(key:rd)(up:List Step)(x:Step):Prop where
 hole:qS v up 0 x.ao
 ok:nG v 0 x.ao
 leaf:x.leaf=true
 nd:iX v x.ao=(true,x.l,0)
 key:IP up key
 ne:up≠[]->x.l≠[]
 Y3:∀e∈x.l,IP up e.key
section
variable{v:Vw}{o:Vw}{mm:Nat}
theorem LA(key:rd):∀(h m:Nat) (q:QS) (p:Int) (out up:List Step) (u:Nat),h<m->Rd q v o u mm->nG v h p->qS v up h p->IP up key->(up≠[]->ie v h p≠[])->(∀x∈ie v h p,IP up x.key)->
  Rd (nZ key m q p out).1 v o u mm/\(((nZ key m q p out).2.2=11/\mm<=u)\/((nZ key m q p out).2.2=0/\∃mid x,(nZ key m q p out).2.1=out++(mid++[x])/\mid.length=h/\WayV v key (mid.reverse++up) x))
 |h,0,q,p,out,up,u,hm,hR,hO,hH,hK,hN,hI=>absurd hm (by omega)
 |h,m+1,q,p,out,up,u,hm,hR,hO,hH,hK,hN,hI=>by
  obtain⟨r1,r2⟩:=hR.read p;unfold nZ
  rcases r2 with r2|⟨r2,r3⟩
  .cases h with
   |zero=>
    have hO':=hO;obtain⟨o1,o2⟩:=hO;rw[r2,o1,i8,if_pos rfl];refine⟨r1,.inr ⟨rfl,[],⟨p,true,(iX v p).2.1,0⟩,by simp,rfl,hH,hO',rfl,o1,hK,λfF=>?_,λe he=>?_⟩⟩
    .have:=hN fF;rw[IL]at this;exact this
    .refine hI e ?_;rw[IL];exact he
   |succ h=>
    obtain⟨o1,o2,o4,o3⟩:=hO;obtain⟨l,hl⟩:∃l,(iX v p).2.1=l:=⟨_,rfl⟩;have wJ:ie v (h+1) p=ct (bz v h l):=by rw[IL,hl];rfl
    rw[hl]at o1 o2 o3 o4;have hp:=qJ o1;obtain⟨a,c,b,e1,e2,e3,e4⟩:=Lz hp o3.ne key;rw[r2,o1,i8,i8,if_neg o3.ne];dsimp only;have f:=fr_of o1 o2 o4 o3 e1 hp;rw[e2];have hc:l.getD a.length Nd.E.zero=c:=by rw[e1];simp[iq]
    rw[hc];have sW:∀e∈l,∀x∈ie v h e.aY,IP up x.key:=λe he x hx=>hI x (by rw[wJ];exact dY.2 ⟨e,he,hx⟩);have vr:c∈l:=by rw[e1];simp
    have Ap:∀x∈ie v h c.aY,a≠[]->ox c.key x.key:=λx hx fF=>by
     have Ug:=o3.hi;rw[e1]at Ug
     cases a with
     |nil=>exact absurd rfl fF
     |cons z a'=>exact Ug c (by simp) x hx
    have hs2:∀x∈ie v h c.aY,∀e∈b,fw x.key e.key:=λx hx e he=>by
     have MQ:=o3.lo;rw[e1,eB,eC]at MQ;exact MQ.2.1.1 e he x hx
    obtain⟨i1,i2⟩:=LA key h m (q.bF p).1 c.aY (out++[⟨p,false,l,a.length⟩]) (⟨p,false,l,a.length⟩::up) u (by omega) r1 (o3.c c vr).1
     ⟨⟨a,c,b,f,λe he x hx=>sW e (by rw[e1];rcases ay.1 he with he|he<;>simp[he]) x hx⟩,hH⟩ ((n8 f up key).2 ⟨e3,e4,hK⟩) (λ_=>(o3.c c vr).2)
     (λx hx=>(n8 f up x.key).2 ⟨Ap x hx,hs2 x hx,sW c vr x hx⟩)
    .refine⟨i1,i2.imp id ?_⟩;rintro⟨j1,mid,x,j2,j3,j4⟩;refine⟨j1,⟨p,false,l,a.length⟩::mid,x,by rw[j2];simp,by simp[j3],?_⟩;rw[List.reverse_cons,cK];exact j4
  .rw[r2,i9];exact⟨r1,.inl ⟨rfl,r3⟩⟩
theorem IQ{q:QS}{u H:Nat}(hR:Rd q v o u mm)(hO:nG v H 0)(hH:H<=15)(key:rd):
  Rd (q.eP key).1 v o u mm/\(((q.eP key).2.2=11/\mm<=u)\/((q.eP key).2.2=0/\∃up x,(q.eP key).2.1=up.reverse++[x]/\up.length=H/\WayV v key up x)):=by
 obtain⟨a,b⟩:=LA key H 16 q 0 [] [] u (by omega) hR hO rfl trivial (λh=>absurd rfl h) (λ_ _=>trivial);refine⟨a,b.imp id ?_⟩;rintro⟨b1,mid,x,b2,b3,b4⟩;rw[jR]at b4;exact⟨b1,mid.reverse,x,by rw[List.reverse_reverse];exact b2,by simp[b3],b4⟩
end
theorem Y4 :∀{up:List Step} {h:Nat} {p:Int},qS v up h p->IP up key->∀x∈ct (fV v up h),fw x.key key
 |[],_,_,_,_,x,hx=>absurd hx (by simp[dK])
 |y::up,h,p,hH,hK,x,hx=>by
  obtain⟨⟨a,c,b,f,hs⟩,hU⟩:=hH;obtain⟨k1,k2,k3⟩:=(n8 f up key).1 hK;simp only[du]at hx;rw[(mq f).1,eE,lU]at hx
  rcases ay.1 hx with hx|hx
  .exact Y4 hU k3 x hx
  .obtain⟨e,he,hx⟩:=dY.1 hx;exact hX (f.la e he x hx) (k1 (λh0=>by rw[h0]at he;simp at he))
theorem RC :∀{up:List Step} {h:Nat} {p:Int},qS v up h p->IP up key->∀x∈ct (dJ v up h),fw key x.key
 |[],_,_,_,_,x,hx=>absurd hx (by simp[cR])
 |y::up,h,p,hH,hK,x,hx=>by
  obtain⟨⟨a,c,b,f,hs⟩,hU⟩:=hH;obtain⟨k1,k2,k3⟩:=(n8 f up key).1 hK;simp only[cP]at hx;rw[(mq f).2.1,eE]at hx
  rcases ay.1 hx with hx|hx
  .obtain⟨e,he,hx⟩:=dY.1 hx;exact hX (k2 e he) (f.hb e he x hx)
  .exact RC hU k3 x hx
theorem Dp{up:List Step}{x:Step}(k:WayV v key up x):nG v up.length 0/\aL v up.length 0=fV v up 0++(0,x.ao,x.l)::dJ v up 0/\
  (∀e∈ct (fV v up 0),fw e.key key)/\(∀e∈ct (dJ v up 0),fw key e.key)/\ie v up.length 0=ct (fV v up 0)++(x.l++ct (dJ v up 0)):=by
 have hl:ie v 0 x.ao=x.l:=by rw[IL,k.nd];rfl
 obtain⟨a,b⟩:=plug up 0 x.ao k.hole k.ok (by rw[hl];exact k.ne) (by rw[hl];exact k.Y3);rw[bq]at a b;have e:aL v 0 x.ao=[(0,x.ao,x.l)]:=by unfold aL;rw[k.nd]
 rw[e]at b;refine⟨a,b,Y4 k.hole k.key,RC k.hole k.key,?_⟩;unfold ie;rw[b,eE,vD,Qd]
variable{l la lb:List E}{v:Vw}{h:Nat}
theorem LB(l:List E):∀j,∃t oW,Nd.tD l j t oW
 |0=>⟨1,-1,.inl ⟨rfl,rfl,rfl⟩⟩
 |j+1=>by
  obtain⟨t,oW,h⟩:=LB l j
  by_cases h1:oW<0\/Nd.lB l (j+1)<oW
  .exact⟨_,_,Nd.FH h rfl h1⟩
  .exact⟨_,_,Nd.FI h rfl (λh2=>h1 (.inl h2)) (λh2=>h1 (.inr h2))⟩
theorem best_ex(l:List E)(m:Nat)(h:2<=m):∃t,Nd.yh l m t:=by
 obtain⟨t,oW,h1⟩:=LB l (m-1)
 rcases h1 with⟨h1,_⟩|⟨h1,h2,_⟩
 .omega
 .rw[show m-1+1=m by omega]at h2;exact⟨t,h2⟩
theorem fi(a b:List E):an (a++b)=an a+an b:=by simp[an]
theorem eY(e:E)(b:List E):an (e::b)=e.key.size+e.val.size+7+an b:=by simp[an]
theorem UC(hc:∀e∈l,Nd.cost e<=79)(hT:223<an l)(hT2:an l<=302):
  ∃la lb,l=la++lb/\l.take (bR l)=la/\l.drop (bR l)=lb/\la≠[]/\lb≠[]/\an la<=223/\an lb<=223/\(an la-151)+(an lb-151)+73<=an l-151:=by
 have hn:2<=l.length:=by
  match l,hc,hT with
  |[],_,hT=>exact absurd hT (by simp[an])
  |[e],hc,hT=>
   have:=hc e (by simp);unfold Nd.cost at this;rw[eY]at hT;have:an []=0:=rfl;omega
  |_::_::_,_,_=>simp
 obtain⟨t,hB⟩:=best_ex l l.length hn;have ht:=Nd.Rr hB;obtain⟨f1,f2⟩:=Nd.Uk hc hn hT2 hB;obtain⟨i,h1,h2,h3⟩:=Nd.FJ l hc hn;have h4:=hB.2.2.1 i h1 h2;have h5:=Nd.zg l t;have hb:=hB.2.1;have ha:=hB.1;refine⟨l.take t,l.drop t,(m7 _ _).symm,by rw[ht],by rw[ht],λh=>?_,λh=>?_,f1,f2,?_⟩
 .have:=congrArg List.length h;rw[bC]at this;have:min t l.length=0:=this;omega
 .have:=congrArg List.length h;rw[ev]at this;have:l.length-t=0:=this;omega
 .have h6:Nd.lB l t<=79:=Int.le_trans h4 h3;simp only[Nd.lB]at h6;omega
theorem Y5{C:Int->Prop}{en:Int->List E}(d:vd C en (la++lb))(ha:la≠[])(hb:lb≠[]):vd C en la/\vd C en lb/\
  (∀e∈la,∀x∈en e.aY,fw x.key (keyOf lb))/\∀e∈lb,∀x∈en e.aY,ox (keyOf lb) x.key:=by
 obtain⟨ne,c,lo,hi⟩:=d
 cases la with
 |nil=>exact absurd rfl ha
 |cons a la=>
  cases lb with
  |nil=>exact absurd rfl hb
  |cons b lb=>
   have hk:keyOf (b::lb)=b.key:=rfl;rw[hk];rw[eB]at lo;rw[nL,l9]at hi;have vR:=hi b (by simp);refine⟨⟨ha,λe he=>c e (cg _ he),lo.1,λe he=>hi e (cg _ he)⟩,⟨hb,λe he=>c e (bP _ he),lo.2.1,λe he=>hi e (bP _ (bK _ he))⟩,λe he=>lo.2.2 e he b (by simp),λe he x hx=>?_⟩
   rcases ar.1 he with rfl|he
   .exact vR x hx
   .obtain⟨y,hy⟩:=xo _ (c b (by simp)).2;have h1:=(eC.1 lo.2.1).1 e he y hy;exact pN (uY (jH (vR y hy) h1)) (hi e (by simp[he]) x hx)
theorem yt(v:Vw)(h:Nat)(a b:List E):ig v h (a++b)=ig v h a++ig v h b:=by
 cases h with
 |zero=>rfl
 |succ h=>show ct _=ct _++ct _;rw[iC,eE]
theorem nI(v:Vw)(h:Nat)(a b:List E):cM v h (a++b)=cM v h a++cM v h b:=by
 cases h with
 |zero=>rfl
 |succ h=>exact iC _ _ _ _
theorem nJ(k:gK v h l)(hn:l≠[]):ig v h l≠[]:=by
 cases h with
 |zero=>exact hn
 |succ h=>
  cases l with
  |nil=>exact absurd rfl hn
  |cons e l=>
   intro h0;have h0:ct (bz v h (e::l))=[]:=h0;rw[gu,eE,M5]at h0;exact(k.2.c e (by simp)).2 h0.1
theorem vf(k:gK v h (la++lb))(ha:la≠[])(hb:lb≠[]):gK v h la/\gK v h lb/\(∀x∈ig v h la,fw x.key (keyOf lb))/\(∀x∈ig v h lb,ox (keyOf lb) x.key)/\(keyOf lb).size<=32:=by
 have hr:=k.1;have hks:(keyOf lb).size<=32:=by
  cases lb with
  |nil=>exact absurd rfl hb
  |cons b lb=>exact(hr b (by simp)).1
 cases h with
 |zero=>
  have hp:(la++lb).Pairwise λc e=>fw c.key e.key:=k.2;rw[eB]at hp;refine⟨⟨λe he=>hr e (cg _ he),hp.1⟩,⟨λe he=>hr e (bP _ he),hp.2.1⟩,λx hx=>?_,λx hx=>?_,hks⟩
  .cases lb with
   |nil=>exact absurd rfl hb
   |cons b lb=>exact hp.2.2 x hx b (by simp)
  .cases lb with
   |nil=>exact absurd rfl hb
   |cons b lb=>
    rcases ar.1 hx with rfl|hx
    .exact RA _
    .exact uY ((eC.1 hp.2.1).1 x hx)
 |succ h=>
  obtain⟨p1,p2,p3,p4⟩:=Y5 k.2 ha hb;refine⟨⟨λe he=>hr e (cg _ he),p1⟩,⟨λe he=>hr e (bP _ he),p2⟩,λx hx=>?_,λx hx=>?_,hks⟩
  .obtain⟨e,he,hx⟩:=dY.1 hx;exact p3 e he x hx
  .obtain⟨e,he,hx⟩:=dY.1 hx;exact p4 e he x hx
theorem Qf(k:gK v h l):gK v h (blank (decide (h=0)) l):=by
 cases h with
 |zero=>exact(lV l).symm▸k
 |succ h=>
  refine⟨λe he=>?_,YV.2 k.2⟩;have he:e∈blank false l:=he
  cases l with
  |nil=>exact absurd he (by simp[blank])
  |cons c l=>
   have hb:blank false (c::l)={c with key:=⟨#[]⟩}::l:=rfl;rw[hb]at he
   rcases ar.1 he with rfl|he
   .obtain⟨a,b,cc⟩:=k.1 c (by simp);exact⟨aW _,b,cc⟩
   .exact k.1 e (by simp[he])
theorem LC(v:Vw)(h:Nat)(l:List E):cM v h (blank (decide (h=0)) l)=cM v h l:=by
 cases h with
 |zero=>rfl
 |succ h=>exact Dm _ _ _ _
theorem LF(v:Vw)(h:Nat)(l:List E):ig v h (blank (decide (h=0)) l)=ig v h l:=by
 cases h with
 |zero=>exact lV l
 |succ h=>show ct _=ct _;exact congrArg ct (Dm _ _ _ _)
theorem Qg(leaf:Bool)(l:List E):blank leaf (blank leaf l)=blank leaf l:=by cases leaf<;>cases l<;>rfl
theorem wO{p:Int}(k:gK v h l)(hb:an (blank (decide (h=0)) l)<=223)(hd:iX v p=(decide (h=0),blank (decide (h=0)) l,0)):
  nG v h p/\aL v h p=(h,p,blank (decide (h=0)) l)::cM v h l/\ie v h p=ig v h l:=by
 refine⟨list_ok hd hb (Qg _ _) (Qf k),?_,?_⟩
 .rw[oM,hd,LC]
 .rw[IL,hd,LF]
theorem wP(k:gK v h l)(hb:an (blank (decide (h=0)) l)<=223):(bT (decide (h=0)) l).2=0:=by
 rcases pL (decide (h=0)) l with h1|h1|h1
 .exact h1.2.2.1
 .omega
 .exact absurd (Lx k) h1.1
theorem Qh(k:gK v h l)(hb:223<an (blank (decide (h=0)) l)):bT (decide (h=0)) l=([],11):=by
 rcases pL (decide (h=0)) l with h1|h1|h1
 .omega
 .exact h1.2.2
 .exact absurd (Lx k) h1.1
theorem IU :∀(h:Nat) (p:Int),nG v h p->∀j∈bG (aL v h p),(v j).2=0
 |0,p,ho,j,hj=>by
  have:j=p:=by simpa [aL]using hj
  subst this;exact n7 (by rw[ho.1])
 |h+1,p,ho,j,hj=>by
  unfold aL at hj;rw[dr]at hj
  rcases ar.1 hj with rfl|hj
  .exact n7 (by rw[ho.1])
  .simp only[bG,cr,mZ]at hj;obtain⟨n,⟨c,hc,hn⟩,rfl⟩:=hj;exact IU h c.aY (ho.2.2.2.c c hc).1 _ (cr.2 ⟨n,hn,rfl⟩)
theorem yu(hc:∀e∈l,nG v h e.aY):∀j∈bG (bz v h l),(v j).2=0:=λj hj=>by
 unfold bz at hj;simp only[bG,cr,mZ]at hj;obtain⟨n,⟨c,hc',hn⟩,rfl⟩:=hj;exact IU h c.aY (hc c hc') _ (cr.2 ⟨n,hn,rfl⟩)
theorem FW(k:gK v h l):∀j∈bG (cM v h l),(v j).2=0:=by
 cases h with
 |zero=>intro j hj;exact absurd hj (by simp[cM])
 |succ h=>exact yu λe he=>(k.2.c e he).1
theorem FY :∀(up:List Step) (h:Nat) (p:Int),qS v up h p->(∀j∈bG (fV v up h),(v j).2=0)/\∀j∈bG (dJ v up h),(v j).2=0
 |[],h,p,_=>⟨λj hj=>absurd hj (by simp[dK]),λj hj=>absurd hj (by simp[cR])⟩
 |y::up,h,p,hH=>by
  obtain⟨⟨a,c,b,f,hs⟩,hU⟩:=hH;obtain⟨i1,i2⟩:=FY up (h+1) y.ao hU;obtain⟨t1,t2,t3⟩:=mq f;simp only[du,cP,dK,cR];rw[t1,t2];refine⟨λj hj=>?_,λj hj=>?_⟩
  .rw[dq,dr]at hj
   rcases ay.1 hj with hj|hj
   .exact i1 j hj
   .rcases ar.1 hj with rfl|hj
    .exact n7 (by rw[f.nd])
    .exact yu (λe he=>(f.ch e (cg _ he)).1) j hj
  .rw[dq]at hj
   rcases ay.1 hj with hj|hj
   .exact yu (λe he=>(f.ch e (bP _ he)).1) j hj
   .exact i2 j hj
theorem iP{v':Vw}:∀(up:List Step) (h:Nat) (p:Int),qS v up h p->(∀j∈bG (fV v up h),v' j=v j)->(∀j∈bG (dJ v up h),v' j=v j)->qS v' up h p/\fV v' up h=fV v up h/\dJ v' up h=dJ v up h
 |[],h,p,hH,_,_=>⟨hH,rfl,rfl⟩
 |y::up,h,p,hH,h1,h2=>by
  obtain⟨⟨a,c,b,f,hs⟩,hU⟩:=hH;obtain⟨t1,t2,t3⟩:=mq f;simp only[du]at h1;simp only[cP]at h2;rw[t1,dq,dr]at h1;rw[t2,dq]at h2;obtain⟨i1,i2,i3⟩:=iP up (h+1) y.ao hU (λj hj=>h1 j (cg _ hj)) (λj hj=>h2 j (bP _ hj));obtain⟨ka,kb⟩:=iO (v:=v) (v':=v') (h:=h) (l:=a) (λj hj=>h1 j (bP _ (bK _ hj)))
  obtain⟨la,lb⟩:=iO (v:=v) (v':=v') (h:=h) (l:=b) (λj hj=>h2 j (cg _ hj));have hk:∀e∈a++b,aL v' h e.aY=aL v h e.aY/\(nG v h e.aY->nG v' h e.aY):=λe he=>(ay.1 he).elim (kb e) (lb e);have he:∀e∈a++b,ie v' h e.aY=ie v h e.aY:=λe hm=>by unfold ie;rw[(hk e hm).1]
  have hna:∀e∈a,ie v' h e.aY=ie v h e.aY:=λe hm=>he e (cg _ hm);have Qb:∀e∈b,ie v' h e.aY=ie v h e.aY:=λe hm=>he e (bP _ hm);have hny:iX v' y.ao=iX v y.ao:=yr (h1 _ (bP _ (gS ..)))
  refine⟨⟨⟨a,c,b,⟨f.leaf,by rw[hny];exact f.nd,f.by_,f.bk,f.l,f.at_,f.aY,λe hm=>⟨(hk e hm).2 (f.ch e hm).1,by rw[he e hm];exact(f.ch e hm).2⟩,?_,λe hm x hx=>f.la e hm x (by rw[<-hna e hm];exact hx),λe hm x hx=>f.ha e hm x (by rw[<-hna e (vy hm)];exact hx),λe hm x hx=>f.hb e hm x (by rw[<-Qb e hm];exact hx),f.hc⟩,λe hm x hx=>hs e hm x (by rw[<-he e hm];exact hx)⟩,i1⟩,?_,?_⟩
  .refine List.Pairwise.imp_of_mem ?_ f.lo;intro x y hx hy Vz z hz;rw[he x hx]at hz;exact Vz z hz
  .simp only[du,dK];rw[t1,i2,ka]
  .simp only[cP,cR];rw[t2,i3,la]
def eU(wt:Nat->Nat)(ns:List NT):Nat:=(ns.map λn=>wt n.1*(an n.2.2-151)).sum
@[simp] theorem LG(wt:Nat->Nat):eU wt []=0:=rfl
@[simp] theorem j5(wt:Nat->Nat)(a b:List NT):eU wt (a++b)=eU wt a+eU wt b:=by simp[eU]
@[simp] theorem eQ(wt:Nat->Nat)(n:NT)(a:List NT):eU wt (n::a)=wt n.1*(an n.2.2-151)+eU wt a:=by simp[eU]
def Qi(wt:Nat->Nat)(c:Nat):Prop:= ∀i,39*wt (i+1)+c<=73*wt i
theorem Qj(a:List E)(c n:E)(b:List E):(a++c::b).insertIdx (a.length+1) n=a++c::n::b:=by
 induction a with
 |nil=>rfl
 |cons x a ih=>rw[nL,fT,Nn,ih];rfl
theorem yv(a:List E)(c:E)(b:List E):(a++c::b).eraseIdx a.length=a++b:=by
 induction a with
 |nil=>rfl
 |cons x a ih=>rw[nL,fT,List.eraseIdx_cons_succ,ih];rfl
variable{v v':Vw}{h:Nat}{x:Step}{up:List Step}
structure Ez(v:Vw)(h:Nat)(x:Step)(up:List Step):Prop where
 hole:qS v up h x.ao
 leaf:x.leaf=decide (h=0)
 here:(v x.ao).2=0
 ok:gK v h x.l
 ne:x.l≠[]
 bk:blank x.leaf x.l=x.l
 Y3:∀e∈ig v h x.l,IP up e.key
 LH:(bG (fV v up h)++x.ao::(bG (cM v h x.l)++bG (dJ v up h))).Nodup
 sz:an x.l<=302
def dv(v:Vw)(h:Nat)(x:Step)(up:List Step):List NT:=fV v up h++(h,x.ao,x.l)::(cM v h x.l++dJ v up h)
structure Grown(v v':Vw)(H H':Nat)(ns:List NT)(new:List Int):Prop where
 ok:nG v' H' 0
 en:ie v' H' 0=ct ns
 pg:(bG (aL v' H' 0)).Perm (bG ns++new)
 fresh:∀j∈new,v j=([],3)
 LH:new.Nodup
 o:∀j,j∉bG ns->j∉new->v' j=v j
 FZ:∀wt c,Qi wt c->eU wt (aL v' H' 0)+c*new.length<=eU wt ns+(if H'=H then 0 else c)
 h:H'=H\/(H'=H+1/\∀wt c,Qi wt c->73*wt H<=eU wt ns)
theorem gi(v:Vw)(h:Nat)(x:Step)(up:List Step):bG (dv v h x up)=bG (fV v up h)++x.ao::(bG (cM v h x.l)++bG (dJ v up h)):=by
 unfold dv;simp
theorem lX(v:Vw)(h:Nat)(x:Step)(up:List Step):ct (dv v h x up)=ct (fV v up h)++(ig v h x.l++ct (dJ v up h)):=by
 unfold dv
 cases h with
 |zero=>simp[cM,ig]
 |succ h=>simp[cM,ig]
theorem Ez.cost(P:Ez v h x up):∀e∈x.l,Nd.cost e<=79:=λe he=>by
 obtain⟨a,b,c⟩:=P.ok.1 e he;unfold Nd.cost;omega
theorem Ez.nin(P:Ez v h x up):(∀j∈bG (fV v up h),j≠x.ao)/\(∀j∈bG (cM v h x.l),j≠x.ao)/\∀j∈bG (dJ v up h),j≠x.ao:=by
 have:=P.LH;rw[gU,gV]at this;obtain⟨_,⟨a,_⟩,b⟩:=this;refine⟨λj hj e=>b j hj x.ao (by simp) e,λj hj e=>a (by rw[<-e];exact cg _ hj),λj hj e=>a (by rw[<-e];exact bP _ hj)⟩
theorem Dq(hole:qS v up h x.ao)(ok:gK v h x.l)(ne:up≠[]->x.l≠[])(Y3:∀e∈ig v h x.l,IP up e.key)
 (LH:(bG (fV v up h)++x.ao::(bG (cM v h x.l)++bG (dJ v up h))).Nodup)(hb:an (blank (decide (h=0)) x.l)<=223)(hd:iX v' x.ao=(decide (h=0),blank (decide (h=0)) x.l,0))(hv:∀j,j≠x.ao->v' j=v j):
  nG v' (h+up.length) 0/\aL v' (h+up.length) 0=fV v up h++(h,x.ao,blank (decide (h=0)) x.l)::(cM v h x.l++dJ v up h)/\ie v' (h+up.length) 0=ct (dv v h x up):=by
 have hn:=LH;rw[gU,gV]at hn;obtain⟨_,⟨na,_⟩,nb⟩:=hn;obtain⟨c1,c2,c3⟩:=iP up h x.ao hole (λj hj=>hv j (λe=>nb j hj x.ao (by simp) e)) (λj hj=>hv j (λe=>na (by rw[<-e];exact bP _ hj)));obtain⟨l1,l2,l3⟩:=lW (v:=v) (v':=v') (h:=h) (l:=x.l) (λj hj=>hv j (λe=>na (by rw[<-e];exact cg _ hj)));obtain⟨k1,k2,k3⟩:=wO (l3 ok) hb hd
 obtain⟨p1,p2⟩:=plug up h x.ao c1 k1 (λfF=>by rw[k3,l2];exact nJ ok (ne fF)) (λe he=>by rw[k3,l2]at he;exact Y3 e he);rw[c2,c3,k2,l1,nL]at p2;refine⟨p1,p2,?_⟩;unfold ie;rw[p2,lX]
 cases h with
 |zero=>simp[cM,ig,lV]
 |succ h=>simp[cM,ig]
theorem UD(P:Ez v h x up)(hb:an x.l<=223)(hd:iX v' x.ao=(decide (h=0),x.l,0))(hv:∀j,j≠x.ao->v' j=v j):
  Grown v v' (h+up.length) (h+up.length) (dv v h x up) []:=by
 have hbk:=P.bk;rw[P.leaf]at hbk;obtain⟨p1,p2,p3⟩:=Dq P.hole P.ok (λ_=>P.ne) P.Y3 P.LH (by rw[hbk];exact hb) (by rw[hbk];exact hd) hv;rw[hbk]at p2;have e:aL v' (h+up.length) 0=dv v h x up:=p2;refine⟨p1,p3,by rw[e,jR],by simp,qb,λj hj _=>hv j (λej=>hj (by rw[gi,ej];simp)),λwt c _=>by rw[e,if_pos rfl];simp,.inl rfl⟩
theorem Qk{l:List Int}{k:Int}(h:l.Nodup)(hk:k∉l):(l++[k]).Nodup:=by
 rw[gU];exact⟨h,by simp,λa ha b hb e=>hk (by rw[<-az.1 hb,<-e];exact ha)⟩
theorem UE{a b:List E}{c n:E}(h:blank false (a++c::b)=a++c::b):blank false (a++c::n::b)=a++c::n::b:=by
 cases a with
 |nil=>
  have h:({c with key:=⟨#[]⟩}:E)::b=c::b:=h;injection h with h1 h2
  show({c with key:=⟨#[]⟩}:E)::n::b=_;rw[h1];rfl
 |cons z a=>
  have h:({z with key:=⟨#[]⟩}:E)::(a++c::b)=z::(a++c::b):=h;injection h with h1 h2
  show({z with key:=⟨#[]⟩}:E)::(a++c::n::b)=_;rw[h1];rfl
theorem pend_up{v2:Vw}{y:Step}(P:Ez v h x (y::up)){la lb:List E}(hl:x.l=la++lb)(ha:la≠[])(hb:lb≠[])(ba:an la<=223)(bb:an lb<=223)(hs:(an la-151)+(an lb-151)+73<=an x.l-151)
 {k:Nat}(hk:k<=511)(hvk:v (k:Nat)=([],3))(wZ:iX v2 x.ao=(decide (h=0),blank (decide (h=0)) la,0))(XB:iX v2 (k:Nat)=(decide (h=0),blank (decide (h=0)) lb,0))(hv:∀j,j≠x.ao->j≠(k:Nat)->v2 j=v j)(h2:(v2 x.ao).2=0/\(v2 (k:Nat)).2=0):
  Ez v2 (h+1) {y with l:=y.l.insertIdx (y.at_+1) ⟨keyOf lb,⟨#[]⟩,(k:Nat)⟩} up/\
  ∀{v':Vw} {H':Nat} {new:List Int},Grown v2 v' (h+1+up.length) H' (dv v2 (h+1) {y with l:=y.l.insertIdx (y.at_+1) ⟨keyOf lb,⟨#[]⟩,(k:Nat)⟩} up) new->Grown v v' (h+(y::up).length) H' (dv v h x (y::up)) ((k:Nat)::new):=by
 obtain⟨⟨a,c,b,f,hsib⟩,hU⟩:=P.hole;obtain⟨t1,t2,t3⟩:=mq f;obtain⟨n1,n2,n3⟩:=P.nin;obtain⟨hh1,hh2⟩:=FY (y::up) h x.ao P.hole;have hlk:=FW P.ok;have nk:∀j,(v j).2=0->j≠(k:Nat):=λj hj e=>by rw[e,hvk]at hj;exact absurd hj (by decide)
 have mS:∀j∈bG (fV v (y::up) h),v2 j=v j:=λj hj=>hv j (n1 j hj) (nk j (hh1 j hj));have wQ:∀j∈bG (dJ v (y::up) h),v2 j=v j:=λj hj=>hv j (n3 j hj) (nk j (hh2 j hj));have LJ:∀j∈bG (cM v h x.l),v2 j=v j:=λj hj=>hv j (n2 j hj) (nk j (hlk j hj));obtain⟨H2,e1,e2⟩:=iP (y::up) h x.ao P.hole mS wQ;have gj:=P.ok;rw[hl]at gj LJ;rw[nI,dq]at LJ;obtain⟨sa,sb,s1,s2,s3⟩:=vf gj ha hb
 obtain⟨IV,ka2,ka3⟩:=lW (v:=v) (v':=v2) (h:=h) (l:=la) (λj hj=>LJ j (cg _ hj));obtain⟨kb1,kb2,kb3⟩:=lW (v:=v) (v':=v2) (h:=h) (l:=lb) (λj hj=>LJ j (bP _ hj));obtain⟨oa1,oa2,oa3⟩:=wO (ka3 sa) (aq (dX _ _) ba) wZ;obtain⟨ob1,ob2,ob3⟩:=wO (kb3 sb) (aq (dX _ _) bb) XB;rw[IV]at oa2;rw[kb1]at ob2;rw[ka2]at oa3;rw[kb2]at ob3;obtain⟨⟨a',c',b',f2,Y6⟩,hU2⟩:=H2
 have rK:a'=a/\c'=c/\b'=b:=by
  have q1:=(mq f2);exact⟨by rw[<-q1.1,t1],by rw[<-q1.2.2,t3],by rw[<-q1.2.1,t2]⟩
 obtain⟨rfl,rfl,rfl⟩:=rK;obtain⟨n,hn⟩:∃n:E,n=⟨keyOf lb,⟨#[]⟩,(k:Nat)⟩:=⟨_,rfl⟩;have hnf:n.aY=(k:Nat):=by rw[hn]
 have hnk:n.key=keyOf lb:=by rw[hn]
 rw[<-hn];have hins:y.l.insertIdx (y.at_+1) n=a'++c'::n::b':=by rw[f.l,f.at_,Qj]
 rw[hins];have hinP:=P.Y3;rw[hl,yt]at hinP;have inA:∀e∈ig v h la,(a'≠[]->ox c'.key e.key)/\(∀z∈b',fw e.key z.key)/\IP up e.key:=λe he=>(n8 f up e.key).1 (hinP e (cg _ he));have inB:∀e∈ig v h lb,(a'≠[]->ox c'.key e.key)/\(∀z∈b',fw e.key z.key)/\IP up e.key:=λe he=>(n8 f up e.key).1 (hinP e (bP _ he));have neA:=nJ sa ha;have neB:=nJ sb hb;have enc:ie v2 h c'.aY=ig v h la:=by rw[f.aY,oa3]
 have enn:ie v2 h n.aY=ig v h lb:=by rw[hnf,ob3]
 have gq:=nH (qI (v:=v) (p:=y.ao) (by rw[f.nd]));rw[f.nd]at gq;have gq:∀e∈a'++c'::b',dO e false:=by rw[<-f.l];exact gq
 have flo:=f2.lo;rw[eB]at flo;have hin2:vd (nG v2 h) (ie v2 h) (a'++c'::n::b'):=by
  refine⟨by simp,λe he=>?_,?_,λe he=>?_⟩
  .rcases ay.1 he with he|he
   .exact f2.ch e (cg _ he)
   .rcases ar.1 he with rfl|he
    .exact⟨by rw[f.aY];exact oa1,by rw[enc];exact neA⟩
    .rcases ar.1 he with rfl|he
     .exact⟨by rw[hnf];exact ob1,by rw[enn];exact neB⟩
     .exact f2.ch e (bP _ he)
  .rw[eB,eC,eC];refine⟨flo.1,⟨λe he x hx=>?_,λe he x hx=>?_,flo.2.1⟩,λe he e' nj x hx=>?_⟩
   .rw[enc]at hx
    rcases ar.1 he with rfl|he
    .rw[hnk];exact s1 x hx
    .exact(inA x hx).2.1 e he
   .rw[enn]at hx;exact(inB x hx).2.1 e he
   .rcases ar.1 nj with rfl|nj
    .exact f2.la e he x hx
    .rcases ar.1 nj with rfl|nj
     .rw[hnk];obtain⟨z,hz⟩:=xo _ neA;exact fc (hX (f2.la e he x hx) ((inA z hz).1 (λh0=>by rw[h0]at he;simp at he))) (s1 z hz)
     .exact flo.2.2 e he e' nj x hx
  .have hmid:∀e∈n::b',∀x∈ie v2 h e.aY,ox e.key x.key:=λe he x hx=>by
    rcases ar.1 he with rfl|he
    .rw[enn]at hx;rw[hnk];exact s2 x hx
    .exact f2.hb e he x hx
   cases ha':a' with
   |nil=>
    rw[ha']at he;exact hmid e he
   |cons z a2=>
    have fF:a'≠[]:=by rw[ha'];simp
    have hha:=f2.ha;rw[ha']at he hha;rw[nL,l9]at he;rw[l9]at hha
    rcases ay.1 he with he|he
    .exact hha e he
    .rcases ar.1 he with rfl|he
     .intro x hx;rw[enc]at hx;exact(inA x hx).1 fF
     .exact hmid e he
 have zu:bz v2 h (a'++c'::n::b')=bz v h a'++((h,x.ao,blank (decide (h=0)) la)::cM v h la++((h,((k:Nat):Int),blank (decide (h=0)) lb)::cM v h lb++bz v h b')):=by
  rw[iC,gu,gu,f.aY,hnf,oa2,ob2];have q1:bz v2 h a'=bz v h a':=(iO (λj hj=>mS j (by simp only[du,dK];rw[t1,dq,dr];exact bP _ (bK _ hj)))).1;have q2:bz v2 h b'=bz v h b':=(iO (λj hj=>wQ j (by simp only[cP,cR];rw[t2,dq];exact cg _ hj))).1;rw[q1,q2]
 have Dr:fV v2 up (h+1)=fV v up (h+1):=by
  exact(iP up (h+1) y.ao hU (λj hj=>mS j (by simp only[du,dK];rw[dq];exact cg _ hj)) (λj hj=>wQ j (by simp only[cP,cR];rw[dq];exact bP _ hj))).2.1
 have vg:dJ v2 up (h+1)=dJ v up (h+1):=by
  exact(iP up (h+1) y.ao hU (λj hj=>mS j (by simp only[du,dK];rw[dq];exact cg _ hj)) (λj hj=>wQ j (by simp only[cP,cR];rw[dq];exact bP _ hj))).2.2
 have hold:bG (dv v h x (y::up))=bG (fV v up (h+1))++(y.ao::bG (bz v h a'))++x.ao::((bG (cM v h la)++bG (cM v h lb))++(bG (bz v h b')++bG (dJ v up (h+1)))):=by
  rw[gi,hl,nI,dq];simp only[du,cP,dK,cR];rw[t1,t2];simp
 have UF:bG (dv v2 (h+1) {y with l:=a'++c'::n::b'} up)=bG (fV v up (h+1))++y.ao::(bG (bz v h a')++(x.ao::bG (cM v h la)++(((k:Nat):Int)::bG (cM v h lb)++bG (bz v h b')))++bG (dJ v up (h+1))):=by
  rw[gi];show bG (fV v2 up (h+1))++y.ao::(bG (bz v2 h (a'++c'::n::b'))++bG (dJ v2 up (h+1)))=_;rw[zu,Dr,vg];simp
 have ui:(bG (dv v2 (h+1) {y with l:=a'++c'::n::b'} up)).Perm (bG (dv v h x (y::up))++[((k:Nat):Int)]):=by
  rw[UF,hold,GY];intro j;simp only[Na,Nb,List.count_nil];omega
 have hknin:((k:Nat):Int)∉bG (dv v h x (y::up)):=λhm=>by
  rw[gi]at hm
  rcases ay.1 hm with hm|hm
  .exact nk _ (hh1 _ hm) rfl
  .rcases ar.1 hm with hm|hm
   .exact nk _ P.here hm.symm
   .rcases ay.1 hm with hm|hm
    .exact nk _ (hlk _ hm) rfl
    .exact nk _ (hh2 _ hm) rfl
 have LL:=P.LH;rw[<-gi]at LL;have hnod:(bG (dv v2 (h+1) {y with l:=a'++c'::n::b'} up)).Nodup:=ui.nodup_iff.2 (Qk LL hknin);have hcostn:n.key.size+n.val.size+7<=39:=by rw[hn];show(keyOf lb).size+0+7<=39;omega
 have hby:=f.by_;rw[f.l,fi,eY]at hby;have Ns:an (a'++c'::n::b')<=an y.l+39:=by
  rw[f.l,fi,fi,eY,eY,eY];omega
 refine⟨⟨hU2,?_,?_,⟨λe he=>?_,hin2⟩,by simp,?_,λe he=>?_,?_,?_⟩,λ{v' H' new} G=>?_⟩
 .show y.leaf=decide (h+1=0);rw[f.leaf];rfl
 .exact n7 (by show(iX v2 y.ao).2.2=0;rw[f2.nd])
 .rcases ay.1 he with he|he
  .exact gq e (cg _ he)
  .rcases ar.1 he with rfl|he
   .exact gq _ (by simp)
   .rcases ar.1 he with rfl|he
    .rw[hn];exact⟨s3,aW _,by show(if(decide (h+1=0))=true then(-1:Int)else 0)<=((k:Nat):Int);split<;>omega,by show((k:Nat):Int)<512;omega,.inr rfl⟩
    .exact gq e (bP _ (bK _ he))
 .show blank y.leaf _=_;rw[f.leaf];exact UE (by rw[<-f.l];exact f.bk)
 .have he:e∈ct (bz v2 h (a'++c'::n::b')):=he;obtain⟨z,hz,hx⟩:=dY.1 he;have sib:∀z∈a'++b',e∈ie v2 h z.aY->IP up e.key:=λz hz hx=>Y6 z hz e hx
  rcases ay.1 hz with hz|hz
  .exact sib z (cg _ hz) hx
  .rcases ar.1 hz with rfl|hz
   .rw[enc]at hx;exact(inA e hx).2.2
   .rcases ar.1 hz with rfl|hz
    .rw[enn]at hx;exact(inB e hx).2.2
    .exact sib z (bP _ hz) hx
 .rw[<-gi];exact hnod
 .have:=f.by_;show an (a'++c'::n::b')<=302;omega
 .have Y7:∀wt c,Qi wt c->eU wt (dv v2 (h+1) {y with l:=a'++c'::n::b'} up)+c<=eU wt (dv v h x (y::up)):=λwt c hw=>by
   have h1:=hw h;have h2:=dX (decide (h=0)) la;have h3:=dX (decide (h=0)) lb;have e3:eU wt (dv v2 (h+1) {y with l:=a'++c'::n::b'} up)=eU wt (fV v up (h+1))+(wt (h+1)*(an (a'++c'::n::b')-151)+(eU wt (bz v h a')+((wt h*(an (blank (decide (h=0)) la)-151)+eU wt (cM v h la))+((wt h*(an (blank (decide (h=0)) lb)-151)+eU wt (cM v h lb))+eU wt (bz v h b')))+eU wt (dJ v up (h+1)))):=by
    unfold dv;show eU wt (fV v2 up (h+1)++(h+1,y.ao,a'++c'::n::b')::(bz v2 h (a'++c'::n::b')++dJ v2 up (h+1)))=_;rw[zu,Dr,vg];simp only[j5,eQ]
   have e4:eU wt (dv v h x (y::up))=(eU wt (fV v up (h+1))+(wt (h+1)*(an y.l-151)+eU wt (bz v h a')))+(wt h*(an x.l-151)+((eU wt (cM v h la)+eU wt (cM v h lb))+(eU wt (bz v h b')+eU wt (dJ v up (h+1))))):=by
    unfold dv;simp only[du,cP,dK,cR];rw[t1,t2];simp only[j5,eQ];rw[show cM v h x.l=cM v h la++cM v h lb by rw[hl,nI]];simp only[j5]
   have m1:wt (h+1)*(an (a'++c'::n::b')-151)<=wt (h+1)*(an y.l-151)+wt (h+1)*39:=by
    rw[<-sO];exact kR _ (by omega)
   have m2:wt h*(an (blank (decide (h=0)) la)-151)+wt h*(an (blank (decide (h=0)) lb)-151)+wt h*73<=wt h*(an x.l-151):=by
    rw[<-sO,<-sO];exact kR _ (by omega)
   rw[e3,e4];omega
  have hHl:h+(y::up).length=h+1+up.length:=by simp;omega
  have hmemP:∀j,j∈bG (dv v2 (h+1) {y with l:=a'++c'::n::b'} up)↔j∈bG (dv v h x (y::up))\/j=(k:Nat):=λj=>by rw[ui.mem_iff];simp
  have hxin:x.ao∈bG (dv v h x (y::up)):=by rw[gi];simp
  rw[hHl];refine⟨G.ok,?_,?_,λj hj=>?_,?_,λj h1 h3=>?_,λwt c hw=>?_,?_⟩
  .rw[G.en,lX,lX];show ct (fV v2 up (h+1))++(ct (bz v2 h (a'++c'::n::b'))++ct (dJ v2 up (h+1)))=_;rw[iC,gu,gu,eE,eE,eE];have q1:bz v2 h a'=bz v h a':=(iO (λj hj=>mS j (by simp only[du,dK];rw[t1,dq,dr];exact bP _ (bK _ hj)))).1
   have q2:bz v2 h b'=bz v h b':=(iO (λj hj=>wQ j (by simp only[cP,cR];rw[t2,dq];exact cg _ hj))).1;have q3:ct (aL v2 h c'.aY)=ig v h la:=enc;have q4:ct (aL v2 h n.aY)=ig v h lb:=enn;rw[q1,q2,q3,q4,Dr,vg,hl,yt];simp only[du,cP,dK,cR];rw[t1,t2];simp
  .refine G.pg.trans ?_;refine(ui.append_right new).trans ?_;simp
  .rcases ar.1 hj with rfl|hj
   .exact hvk
   .have:=G.fresh j hj;rw[hv j]at this
    .exact this
    .intro e;rw[e]at this;rw[this]at h2;exact absurd h2.1 (by decide)
    .intro e;rw[e]at this;rw[this]at h2;exact absurd h2.2 (by decide)
  .rw[gV];refine⟨λhm=>?_,G.LH⟩;have:=G.fresh _ hm;rw[this]at h2;exact absurd h2.2 (by decide)
  .rw[ar,not_or]at h3;rw[G.o j (by rw[hmemP];rintro(h5|h5);exact h1 h5;exact h3.1 h5) h3.2];exact hv j (λe=>h1 (by rw[e];exact hxin)) h3.1
  .have p1:=G.FZ wt c hw;have p2:=Y7 wt c hw;rw[fT,Nat.mul_succ];omega
  .refine G.h.imp id (λ⟨h5,h6⟩=>⟨h5,λwt c hw=>?_⟩);have p1:=h6 wt c hw;have p2:=Y7 wt c hw;omega
end Sh
end Go.Proofs.YtmonobkginiajaaGreat
