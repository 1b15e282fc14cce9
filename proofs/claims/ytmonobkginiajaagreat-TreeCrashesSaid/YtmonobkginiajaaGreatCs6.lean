/- packed. -/
import Derived.Deep.Cut
import Derived.Deep.CutRange
import Derived.Shelf.Sort.Plain
import Derived.Shelf.Slices.In.SortNone
import Derived.Sort.OwnSortedInts
import Derived.Test.YtmonobkginiajaaGreatCs5
set_option linter.all false
set_option maxRecDepth 100000
set_option maxHeartbeats 8000000
namespace Go.Proofs.YtmonobkginiajaaGreat
open Go.Proofs.Tryz
open Value renaming string→U7,slice→U3,int→U5,bool→WF,tuple→rg
open Ending renaming returned→fd
open IntKind renaming i64→U6
open Obj renaming cells→Pi
open Go renaming World→BY,Value→By,Calls→io
open List renaming replicate→it
namespace Sh
open Go.RowKit Pk Dk Pg
attribute [local go_sem ↓] bP
variable{x x':X}{n:Nat}{w0 w:BY}{c':C}
structure CW(x:X)(n:Nat)(w0 w:BY)(x':X)(c':C):Prop where
 a:At w x' n c'
 o:ah x.fp w0 w
 f:x'.fp=x.fp
def CW.below{w':BY}(h:CW x n w0 w x' c')(hb:i7 w w'):CW x n w0 w' x' c':=⟨h.a.below hb,h.o.trans (.aj hb),h.f⟩
def CW.brk(h:CW x n w0 w x' c'):CW x n w0 (w.setCell ⟨x'.b,7,none⟩ (WF true)) x' {c' with broken:=true}:=by
 have o2:=(ah.refl [x'.b] w).setCell (p:=⟨x'.b,7,none⟩) lw (WF true);have A:=h.a;obtain⟨n1,n2,n3,n4⟩:=A.Jw A.hb;have ns:∀{v:By} {k:Nat} {l:List By},Sl w 3 v k l->∀g∈cB v,g∉[x'.b]:=λS g hg hm=>n4 S (by rw[<-aG.1 hm];exact hg)
 exact⟨⟨A.hb.ct 7 _,A.hd.only o2 (λg hg hm=>n3 (by rw[<-aG.1 hm];exact hg)),A.hm.only o2 (λhm=>n1 (aG.1 hm).symm) (λhm=>n2 (aG.1 hm).symm),A.ht.only o2 (ns A.ht),A.ho.only o2 (ns A.ho),A.hp.only o2 (λg hg hm=>A.hp.bh A.hb ms ms (by rw[<-aG.1 hm];exact hg)),A.n1,A.n2,A.n3,A.n4,A.n5,A.n6,A.tl⟩,h.o.trans (o2.mono (λg hg _=>by rw[<-h.f];simp at hg;subst hg;simp[X.fp])),h.f⟩
def CW.post{x:X}{v:By}{n:Nat}{w0 w:BY}{c':C}(h:CW x n w0 w {x with tv:=v} c'):Be w0 w x n c':=⟨{x with tv:=v},rfl,rfl,h.a,h.o,λg hg=> .inl (by rw[h.f]at hg;exact hg)⟩
def Mb{c:C}(h:At w x n c)(hbr:c.broken=false)(vz:0<=c.ep)(hb:∀y∈c.table,y<=1023)(Ca:c.slot=0\/c.slot=1)(hc:c.d.calls<=3999999999999999900)(ha:c.d.aq<=9223372036854775807)(hol:c.parts.length<=5)
 (hr:cd c.bf.table.length<=(Fm.gY c.m 0).length->c.ep<1099511627776->Rt.gP (c.ep+1) (c.bf.table.length:Nat) (Rt.cy ((takeN c.m (cd c.bf.table.length)).2.map Int.toNat))/\Rt.cy ((takeN c.m (cd c.bf.table.length)).2.map Int.toNat)=(takeN c.m (cd c.bf.table.length)).2):
  io prog 100 #[sp x.b] w λe w'=>e=fd (U5 U6 (c.an n).2)/\Be w w' x n (c.an n).1:=by
 have KW:=jC h;rw[show c.gM=0 from by unfold C.gM;rw[hbr];rfl]at KW;have KW:=xh KW;obtain⟨R,hR⟩:∃R,c.an n=R:=⟨_,rfl⟩;rw[hR];have tl:=h.tl;have rD:=xh h.lt;obtain⟨TA,tc,Ae,htc⟩:=h.ht.val;have hx:x={x with tv:=U3 TA c.table.length tc}:=by rw[<-Ae]
 have HA:=g9 (At w {x with tv:=U3 TA c.table.length tc} n {c with table:=c.table.take c.table.length}) (by rw[ig,<-hx];exact h);have HV:=xh Ae;obtain⟨T,hT⟩:∃T,lR c.table c.table.length=T:=⟨_,rfl⟩;have BH:T<=c.table.length:=by rw[<-hT];exact DJ _ _
 have htf:c.bf={c with table:=c.table.take T}:=by unfold C.bf;rw[hT]
 have htl:c.bf.table.length=T:=by rw[htf];show(c.table.take T).length=T;rw[bY];omega
 have HT:=xh hT;unfold C.an at hR;rw[htl]at hR hr;rw[htf]at hR;have HR:=xh hR;clear hR hT htf htl hx Ae hbr h;unfold sp at *;go_in;go_wp2_with fail;go_call KW.o as e w1 ⟨rfl,rfl⟩
 go_upto_if 14 with(fail)
 iterate 5 (first|go_values|go_skip|go_guarded|go_step|go_upon|go_back)
 go_cut []from 16 to 50 (λwx=>Hid (At wx {x with tv:=U3 TA T tc} n {c with table:=c.table.take T}/\ah [x.b] w wx))
 case first=>
  go_wp2_with fail
  go_loopw [19] (λ_ wr=> ∃k:Nat,k<=c.table.length/\Hid (lR c.table k=T)/\Hid (At wr {x with tv:=U3 TA k tc} n {c with table:=c.table.take k}/\ah [x.b] w wr)) (λ_ wr=>Te wr x.b)
  case atStart=>exact⟨c.table.length,ai _,HT,xh ⟨HA.o,ah.refl _ _⟩⟩
  case round=>
   obtain⟨k,hk,HK,HB⟩:=hrel;have f2:=HB.o.1.f2;have lQ:(c.table.take k).length=k:=by rw[bY];omega
   have Ov:(k≠0/\c.table.getD (k-1) 0<0)\/k=T/\(k=0\/¬c.table.getD (k-1) 0<0):=by
    have:=HK.o
    cases k with
    |zero=>exact .inr ⟨this,.inl rfl⟩
    |succ k=>
     rw[nV]at this
     split at this
     .rename_i h;exact .inl ⟨ls,h⟩
     .rename_i h;exact .inr ⟨this,.inr h⟩
   rcases Ov with⟨UO,DH⟩|⟨hkT,UO⟩
   .obtain⟨j,rfl⟩:∃j,k=j+1:=⟨k-1,ls⟩;rw[qx]at DH;obtain⟨g,cp,hv,ck⟩:=HB.o.1.tk j (by show j<(c.table.take (j+1)).length;omega);rw[show({c with table:=c.table.take (j+1)}:C).table.getD j 0=c.table.getD j 0 from by show(c.table.take (j+1)).getD j 0=_;simp[List.getD]]at ck;have hv:(Value.slice TA (j+1) tc)=U3 (lc g) (c.table.take (j+1)).length cp:=hv;rw[lQ]at hv;injection hv with e1 e2 e3
    subst e1 e3;clear e2;have f2:wr.cell? ⟨x.b,2,none⟩=some (U3 (lc g) (j+1) tc):=f2;have HK2:=g9 (lR c.table j=T) (by have:=HK.o;rw[nV,U8 DH]at this;exact this);have e4:U6.wrap ((j:Int)+1-1)=(j:Int):=by rw[IM];exact d9
    have e5:U6.wrap (j:Int)=(j:Int):=d9;have e6:(0:Int)<(j:Int)+1:=ls
    have e7:(j:Int)<(j:Int)+1:=ls
    generalize c.table.getD j 0=pv at *;go_wp2_with fail;go_quiet (fail);have z2:=HB.o.1.fz 2 ls;have z2:wr.frozen? ⟨x.b,2,none⟩=false:=z2;have HN:=xh (show ∀m,At ((wr.drewN m).setCell ⟨x.b,2,none⟩ (U3 (lc g) j tc)) {x with tv:=U3 (lc g) j tc} n {c with table:=c.table.take j}/\ah [x.b] w ((wr.drewN m).setCell ⟨x.b,2,none⟩ (U3 (lc g) j tc))from λm=>by
     have A1:=HB.o.1.drewN m;have ni:∀y∈cB (U3 (lc g) j tc),y∈cB (U3 (lc g) (j+1) tc):=λy hy=>hy;have S:=A1.ht;have S:Sl (wr.drewN m) 3 (U3 (lc g) (j+1) tc) (j+1) (di (c.table.take (j+1))):=by have S2:=S;rw[show({c with table:=c.table.take (j+1)}:C).table.length=j+1 from lQ]at S2;exact S2
     have S3:=S.cut rfl j ls;have e:(di (c.table.take (j+1))).take j=di (c.table.take j):=by unfold di;rw[<-mZ,Ja,tJ ls]
     rw[e]at S3;have hl:(c.table.take j).length=j:=by rw[bY];omega
     have S4:Sl (wr.drewN m) 3 (U3 (lc g) j tc) (c.table.take j).length (di (c.table.take j)):=by rw[hl];exact S3
     obtain⟨_,_,A2,o2⟩:=A1.newT S4 (λhg=>A1.n1 (ni _ hg)) (λy hy=>A1.n4 y (ni y hy)) (λy hy=>A1.n5 y (ni y hy)) ls;exact⟨A2,(HB.o.2.drewN m).trans o2⟩)
    have HM:=xh (show ∀m,Te ((wr.drewN m).setCell ⟨x.b,2,none⟩ (U3 (lc g) j tc)) x.b<Te wr x.b from λm=>by
     have c2:((wr.drewN m).setCell ⟨x.b,2,none⟩ (U3 (lc g) j tc)).cell? ⟨x.b,2,none⟩=some (U3 (lc g) j tc):=(HN.o m).1.f2;unfold Te;rw[c2,f2];show j<j+1;omega)
    go_wp2_with fail
    go_region
    go_wp2;go_roundw
    case rel=>exact⟨j,ls,HK2,xh (HN.o _)⟩
    case measure=>exact HM.o _
   .rcases wI k with hz|hpos
    .subst hz;subst hkT;go_wp2_with fail;go_quiet (fail);go_wp2;go_meet;exact xh ⟨HB.o.1.drewN nq,HB.o.2.drewN nq⟩
    .obtain⟨jz,rfl⟩:∃jz,k=jz+1:=⟨k-1,ls⟩;subst hkT
     rcases UO with UO|UO
     .omega
     rw[qx]at UO;obtain⟨gz,cp,SW,ck⟩:=HB.o.1.tk jz (by show jz<(c.table.take (jz+1)).length;omega);rw[show({c with table:=c.table.take (jz+1)}:C).table.getD jz 0=c.table.getD jz 0 from by show(c.table.take (jz+1)).getD jz 0=_;simp[List.getD]]at ck;have hv:(Value.slice TA (jz+1) tc)=U3 (lc gz) (c.table.take (jz+1)).length cp:=SW;clear SW;rw[lQ]at hv;injection hv with e1 e2 e3
     subst e1 e3;clear e2;have f2:wr.cell? ⟨x.b,2,none⟩=some (U3 (lc gz) (jz+1) tc):=f2;have e4:U6.wrap ((jz:Int)+1-1)=(jz:Int):=by rw[IM];exact d9
     have e5:U6.wrap (jz:Int)=(jz:Int):=d9;have e6:(0:Int)<(jz:Int)+1:=ls
     have e7:(jz:Int)<(jz:Int)+1:=ls
     have hdv:decide (c.table.getD jz 0<0)=false:=by rw[decide_eq_false_iff_not];exact UO
     generalize c.table.getD jz 0=pv at *;go_wp2_with fail;go_quiet (fail);go_wp2;go_meet;exact xh ⟨HB.o.1.drewN nq,HB.o.2.drewN nq⟩
 case rest=>
  have HB:=xh hcut.o;clear hcut;have lQ:(c.table.take T).length=T:=by rw[bY];omega
  have hfp:({x with tv:=U3 TA T tc}:X).fp=x.fp:=by
   unfold X.fp;rw[HV.o,YA TA T c.table.length tc]
  have KND:=xh (λ(W:BY)=>Rt.Dj ((T:Nat):Int) ls W);rw[Cg]at KND;have KFR:=xh (λ(W:BY) (hW:At W {x with tv:=U3 TA T tc} n {c with table:=c.table.take T})=>Fm.Yg hW.hm);rw[show({c with table:=c.table.take T}:C).m=c.m from rfl]at KFR;unfold Fm.mp at KFR;have hk:T<=c.table.length:=BH
  have C0:=g9 (CW x n w wc {x with tv:=U3 TA T tc} {c with table:=c.table.take T}) ⟨HB.o.1,HB.o.2.mono (λg hg _=>by simp at hg;subst hg;simp[X.fp]),hfp⟩;have f1:=C0.o.a.f1;have f2:=C0.o.a.f2;have f5:=C0.o.a.f5;have f2:wc.cell? ⟨x.b,2,none⟩=some (U3 TA (c.table.take T).length tc):=by rw[lQ];exact f2
  have f1:wc.cell? ⟨x.b,1,none⟩=some (lc x.mb:li):=f1;rw[lQ]at f2;go_wp2_with fail;go_call (KND.o _) as e v1 ⟨rfl,bu⟩;have C1:=xh<|C0.o.below bu;have g1:v1.cell? ⟨x.b,1,none⟩=some (lc x.mb:li):=C1.o.a.f1;clear bu f1 f2 f5;go_wp2_with fail;go_call (KFR.o _ C1.o.a) as e v2 ⟨rfl,da⟩;have C2:=xh<|C1.o.below da;have f5:=C2.o.a.f5;have f5:v2.cell? ⟨x.b,5,none⟩=some (c.ep:li):=f5;clear da g1
  by_cases Lw:(Fm.gY c.m 0).length<cd T
  .have hI:((Fm.gY c.m 0).length:Int)<((cd T:Nat):Int):=ls
   have yN:=HR.o;rw[U8 Lw]at yN;subst yN;generalize cd T=nd at *;go_wp2;go_ret;exact bz C2.o.post
  have hI:¬((Fm.gY c.m 0).length:Int)<((cd T:Nat):Int):=ls
  by_cases Tk:1099511627776<=c.ep
  .have yN:=HR.o;rw[U9 Lw,U8 Tk]at yN;subst yN;generalize cd T=nd at *;go_wp2;go_ret;exact bz C2.o.post
  have yN:=HR.o;rw[U9 Lw,U9 Tk]at yN;obtain⟨rn,hnn⟩:=hr ls ls;have hkl2:T<=512:=ls
  have hnd5:cd T<=5:=by unfold cd;omega
  have hm1024:=C2.o.a.hm.hl;have HR3:=xh yN;clear yN Lw hr;obtain⟨nd,Gx⟩:∃nd,cd T=nd:=⟨_,rfl⟩;rw[Gx]at hI rn hnn HR3 hnd5 ⊢;clear Gx;have rE:decide (((Fm.gY c.m 0).length:Int)<(nd:Int))=false:=by rw[decide_eq_false_iff_not];exact hI
  have hd3:decide ((Fm.gY c.m 0).length<nd)=false:=by rw[decide_eq_false_iff_not];omega
  have YS:decide ((1099511627776:Int)<=c.ep)=false:=by rw[decide_eq_false_iff_not];omega
  have PNL:=xh (λi=>pM c.m i);go_wp2_with fail
  go_loopw [5,6,7,72] (λpv _ _ iv wq=> ∃i:Nat,i<=nd/\iv=U5 U6 i/\bm wq 3 1 pv i (di (takeN c.m i).2)/\Hid (CW x n w wq {x with tv:=U3 TA T tc} {c with table:=c.table.take T,m:=(takeN c.m i).1}/\∀g∈ak pv,w.heap.size<=g)) (λ_ _ _ iv _=>nd-(intOf iv).toNat)
  case atStart=>exact⟨0,bG _,rfl,bm.nil _ _ _,xh ⟨C2.o,by simp[ak]⟩⟩
  case round=>
   obtain⟨i,hi,rfl,S,HC⟩:=hrel;obtain⟨VA,vc,rfl⟩:=aI S
   by_cases h':i<nd
   .have Xc:(i:Int)<(nd:Int):=ls
    have g1:wr.cell? ⟨x.b,1,none⟩=some (lc x.mb:li):=HC.o.1.a.f1;have KT:=xh<|Fm.wN HC.o.1.a.hm;have HM:=xh (λ(W:BY) (mm:Fm.dQ W x.mb x.mg (Fm.cP (takeN c.m i).1).1) (ow:ah [x.mg] wr W)=>HC.o.1.a.map mm ow);have HTK:=g9 (takeN c.m (i+1)=((Fm.cP (takeN c.m i).1).1,(takeN c.m i).2++[(Fm.cP (takeN c.m i).1).2.1])) rfl;rw[show({c with table:=c.table.take T,m:=(takeN c.m i).1}:C).m=(takeN c.m i).1 from rfl]at KT
    generalize Fm.cP (takeN c.m i).1=tf at *;obtain⟨tm,tid,te⟩:=tf;dsimp only at KT;unfold Fm.mp at KT;go_wp2_with fail;go_call KT.o as e v3 ⟨rfl,mm,ow⟩;have A3:=HM.o _ mm ow;have s3:=S.only ow (λg hg hm=>by have:=HC.o.2 g hg;have:=rD.o x.mg (by simp[X.fp]);simp at hm;omega);obtain⟨v',w4,ea,S4,ow4,fr4⟩:=gw (P:=prog) s3 60 60 (U5 U6 0) 8 underlying60 kX rfl tid rfl (by unfold maxLen;omega) ls
    obtain⟨V4,c4,rfl⟩:=aI S4;have H4:=xh (show bm w4 3 1 (U3 V4 (i+1) c4) (i+1) (di (takeN c.m (i+1)).2)/\CW x n w w4 {x with tv:=U3 TA T tc} {c with table:=c.table.take T,m:=(takeN c.m (i+1)).1}/\∀g∈ak (U3 V4 (i+1) c4),w.heap.size<=g from by
     rw[HTK.o];refine⟨by rw[gS];exact S4,⟨A3.only ow4 (λg hF hg=>by have:=HC.o.2 g hg;have:=rD.o g (by rw[hfp]at hF;exact hF);omega),(HC.o.1.o.trans (ow.mono (λg hg _=>uV x g hg))).bj ow4 (λg hg dP=>by have:=HC.o.2 g hg;omega),hfp⟩,λg hg=>(fr4 g hg).elim (HC.o.2 g) (λh=>by have:=HC.o.1.o.size;have:=ow.size;omega)⟩)
    have EA:=xh ea;clear ea S4 ow4 fr4 s3 A3 mm ow S g1;go_wp2_with fail;rw[EA.o];go_wp2;go_roundw
    case rel=>exact⟨i+1,ls,by go_num,H4.o.1,xh H4.o.2⟩
    case measure=>simp[intOf];omega
   .obtain rfl:i=nd:=ls
    have tQ:(Rt.cy ((takeN c.m i).2.map Int.toNat)).length=i:=by rw[hnn];exact PNL.o i
    have hown:cB (U3 VA i vc)=[]\/cB (U3 VA i vc)=ak (U3 VA i vc):=by
     cases VA with
     |none=>exact .inl rfl
     |some a=>unfold cB ak;by_cases h0:vc=0<;>simp[h0]
    have ni:∀g∈cB (U3 VA i vc),w.heap.size<=g:=λg hg=>by
     rcases hown with h|h
     .rw[h]at hg;simp at hg
     .rw[h]at hg;exact HC.o.2 g hg
    have hic:i<=vc:=by
     obtain⟨A',c',e,hle⟩:=(Sl.rQ S).val;injection e with _ _ e3
     omega
    have SP:Sl wr 3 (U3 VA i vc) i (di (Rt.cy ((takeN c.m i).2.map Int.toNat))):=by rw[hnn];exact Sl.rQ S
    have KL:=BC HC.o.1.a ((takeN c.m i).2.map Int.toNat) SP hic (λg hg hF=>by have:=ni g hg;have:=rD.o g (by rw[hfp]at hF;exact hF);omega) (show Rt.gP (c.ep+1) ((c.table.take T).length:Nat) _ from by rw[lQ];exact rn) (λy hy=>hb y (iR hy)) Ca hc ha;have HR4:=HR3.o;have KL:=xh KL;generalize vI:({c with table:=c.table.take T,m:=(takeN c.m i).1}:C).bM n ((takeN c.m i).2.map Int.toNat)=lf at *;obtain⟨ld,le⟩:=lf;dsimp only at KL HR4
    by_cases hle:le=0
    .subst hle;rw[i8]at HR4;subst HR4;clear vI;obtain⟨PA,pqc,hpv,hpcc⟩:=HC.o.1.a.hp.val;have hpv:x.pv=U3 PA c.parts.length pqc:=hpv;have HPV:=xh hpv;unfold sp at KL;go_wp2_with fail;go_call KL.o as e v3 ⟨rfl,A3,o3⟩
     have C3:=g9 (CW x n w v3 {x with tv:=U3 TA T tc} {c with table:=c.table.take T,m:=cO (takeN c.m i).1 (c.parts.take 0),d:=ld}) ⟨by rw[jK];exact A3,HC.o.1.o.trans (o3.mono (λg hg _=>Lo x g hg)),hfp⟩;have SP3:=g9 (Sl v3 3 (U3 VA i vc) i (di (takeN c.m i).2)) ((Sl.rQ S).only o3 (λg hg hF=>by have:=ni g hg;have:=rD.o g (Lo x g hF);omega))
     have q4:v3.cell? ⟨x.b,4,none⟩=some (U3 PA c.parts.length pqc):=by rw[<-HPV.o];exact C3.o.a.f4
     clear A3 o3 hpv;go_wp2_with fail
     go_loopw [10,101] (λ_ iv wr=> ∃j:Nat,j<=c.parts.length/\iv=U5 U6 j/\Hid (CW x n w wr {x with tv:=U3 TA T tc} {c with table:=c.table.take T,m:=cO (takeN c.m i).1 (c.parts.take j),d:=ld})/\Hid (Sl wr 3 (U3 VA i vc) i (di (takeN c.m i).2))) (λ_ iv _=>c.parts.length-(intOf iv).toNat)
     case atStart=>exact⟨0,bG _,rfl,C3,SP3⟩
     case round=>
      obtain⟨j,hj,rfl,HC4,SP4⟩:=hrel
      by_cases h':j<c.parts.length
      .have hjI:(j:Int)<(c.parts.length:Int):=ls
       obtain⟨g,cp,rest,hv,⟨_,B⟩,_,_⟩:=HC4.o.a.hp.form (by show 0<c.parts.length;omega);have hv:x.pv=U3 (lc g) c.parts.length cp:=hv;rw[HPV.o]at hv;injection hv with e1 e2 e3
       subst e1 e3;clear e2;have cj:wr.cell? ⟨g,j,none⟩=some (U5 U6 (c.parts.getD j 0)):=B.ae (by rw[dr,bX (by simpa using h'),pJ _ _ h']);have g1:wr.cell? ⟨x.b,1,none⟩=some (lc x.mb:li):=HC4.o.a.f1;have hlv:cO (takeN c.m i).1 (c.parts.take (j+1))=(Fm.du (cO (takeN c.m i).1 (c.parts.take j)) (c.parts.getD j 0)).1:=by
        rw[ij h',Jx];simp[cO,List.getD,aQ h']
       have KLV:=xh<|Fm.tX HC4.o.a.hm (c.parts.getD j 0);rw[show({c with table:=c.table.take T,m:=cO (takeN c.m i).1 (c.parts.take j),d:=ld}:C).m=cO (takeN c.m i).1 (c.parts.take j)from rfl,<-hlv]at KLV;have HM:=xh (λ(W:BY) (mm:Fm.dQ W x.mb x.mg (cO (takeN c.m i).1 (c.parts.take (j+1)))) (ow:ah [x.mg] wr W)=>HC4.o.a.map mm ow);generalize (Fm.du (cO (takeN c.m i).1 (c.parts.take j)) (c.parts.getD j 0)).2=lq at *
       generalize c.parts.getD j 0=pj at *;unfold Fm.mp at KLV;clear hlv B;go_wp2_with fail;go_call KLV.o as e v4 ⟨rfl,mm,ow⟩;have C5:=g9 (CW x n w v4 {x with tv:=U3 TA T tc} {c with table:=c.table.take T,m:=cO (takeN c.m i).1 (c.parts.take (j+1)),d:=ld}) ⟨HM.o _ mm ow,HC4.o.o.trans (ow.mono (λg hg _=>uV x g hg)),hfp⟩;have SP5:=xh<|SP4.o.only ow (λg hg hm=>by have:=ni g hg;have:=rD.o x.mg (by simp[X.fp]);simp at hm;omega)
       clear mm ow;go_wp2;go_roundw
       case rel=>exact⟨j+1,ls,by go_num,C5,SP5⟩
       case measure=>simp[intOf];omega
      .obtain rfl:j=c.parts.length:=ls
       have g1:wr.cell? ⟨x.b,1,none⟩=some (lc x.mb:li):=HC4.o.a.f1;rw[ig]at HC4;have KCM:=xh<|Fm.PM HC4.o.a.hm;rw[show({c with table:=c.table.take T,m:=cO (takeN c.m i).1 c.parts,d:=ld}:C).m=cO (takeN c.m i).1 c.parts from rfl]at KCM;have HM:=xh (λ(W:BY) (mm:Fm.dQ W x.mb x.mg (Fm.iV 0 1 (cO (takeN c.m i).1 c.parts))) (ow:ah [x.mg] wr W)=>HC4.o.a.map mm ow);unfold Fm.mp at KCM;go_wp2_with fail
       go_call KCM.o as e v6 ⟨rfl,mm,ow⟩;have C6:=g9 (CW x n w v6 {x with tv:=U3 TA T tc} {c with table:=c.table.take T,m:=Fm.iV 0 1 (cO (takeN c.m i).1 c.parts),d:=ld}) ⟨HM.o _ mm ow,HC4.o.o.trans (ow.mono (λg hg _=>uV x g hg)),hfp⟩;have SP6:=xh<|SP4.o.only ow (λg hg hm=>by have:=ni g hg;have:=rD.o x.mg (by simp[X.fp]);simp at hm;omega)
       have KC:=xh (λ(W:BY) (hW:At W {x with tv:=U3 TA T tc} n {c with table:=c.table.take T,m:=Fm.iV 0 1 (cO (takeN c.m i).1 c.parts),d:=ld})=>DI (v:=U3 TA T tc) hW.ht (by show(c.table.take T).length<=100000;omega));have e8:U6.wrap (c.ep+1)=c.ep+1:=d9;have e9:U6.wrap (1-c.slot)=1-c.slot:=d9;have d2:v6.cell? ⟨x.b,2,none⟩=some (U3 TA T tc):=C6.o.a.f2
       have d5:v6.cell? ⟨x.b,5,none⟩=some (c.ep:li):=C6.o.a.f5;have d6:v6.cell? ⟨x.b,6,none⟩=some (c.slot:li):=C6.o.a.f6;have HNC:=xh (show ∀v7 vo,Sl v7 3 vo (c.table.take T).length (di (c.table.take T))->i7 v6.drew v7->(∀g∈cB vo,v6.drew.heap.size<=g)->
         Be w ((((v7.setCell ⟨x.b,3,none⟩ vo).setCell ⟨x.b,4,none⟩ (U3 VA i vc)).setCell ⟨x.b,5,none⟩ (U5 U6 (c.ep+1))).setCell ⟨x.b,6,none⟩ (U5 U6 (1-c.slot))) x n
          {c with table:=c.table.take T,m:=Fm.iV 0 1 (cO (takeN c.m i).1 c.parts),d:=ld,aR:=c.table.take T,parts:=(takeN c.m i).2,ep:=c.ep+1,slot:=1-c.slot}from λv7 vo S7 oC fr7=>by
        have A7:=C6.o.a.drew.below oC;have SP7:Sl v7 3 (U3 VA i vc) (takeN c.m i).2.length (di (takeN c.m i).2):=by rw[PNL.o];exact SP6.o.drew.below oC
        have hfpl:∀g∈({x with tv:=U3 TA T tc}:X).fp,g<w.heap.size:=λg hg=>rD.o g (by rw[hfp]at hg;exact hg);have hws:w.heap.size<=v6.drew.heap.size:=C6.o.o.size;obtain⟨A8,o8⟩:=A7.newC S7 SP7 (λg hg hF=>by have:=fr7 g hg;have:=hfpl g hF;omega) (λg hg hF=>by have:=ni g hg;have:=hfpl g hF;omega) (λg hg hp=>by have:=fr7 g hg;have:g<v6.drew.heap.size:=SP6.o.lt g hp;omega) (c.ep+1) (1-c.slot)
        refine⟨{x with tv:=U3 TA T tc,ov:=vo,pv:=U3 VA i vc},rfl,rfl,A8,((C6.o.o.drew).trans (.aj oC)).trans (o8.mono (λg hg _=>by simp at hg;subst hg;simp[X.fp])),λg hg=>?_⟩;have pI:g∈({x with tv:=U3 TA T tc}:X).fp\/g∈cB vo\/g∈cB (U3 VA i vc):=by
         simp only[X.fp,ax,aK]at hg ⊢
         rcases hg with hg|hg|hg|((hg|hg)|hg)|hg
         .exact .inl (.inl hg)
         .exact .inl (.inr (.inl hg))
         .exact .inl (.inr (.inr (.inl hg)))
         .exact .inl (.inr (.inr (.inr (.inl (.inl (.inl hg))))))
         .exact .inl (.inr (.inr (.inr (.inl (.inl (.inr hg))))))
         .exact .inr (.inl hg)
         .exact .inr (.inr hg)
        rcases pI with h|h|h
        .exact .inl (by rw[hfp]at h;exact h)
        .exact .inr (aD hws (fr7 g h))
        .exact .inr (ni g h))
       clear mm ow g1;go_wp2_with fail;refine vH (S:=λW=>W.cell? ⟨x.b,2,none⟩=some (U3 TA T tc)/\W.cell? ⟨x.b,5,none⟩=some (c.ep:li)/\W.cell? ⟨x.b,6,none⟩=some (c.slot:li)) [22,25,28,31] pm ⟨d2,d5,d6⟩ (λaC=>?_);refine dj [(0,117),(1,118),(2,119),(3,120),(4,121),(5,122),(6,123)] ?_
       iterate 7 refine mH ?_
       refine dj [(7,124)] ?_
       iterate 1 refine nX ?_
       refine dj [(9,126),(10,127),(11,128),(12,129)] ?_
       iterate 4 refine mH ?_
       refine dj [(13,130)] ?_
       iterate 1 refine nX ?_
       refine dj [(14,131),(15,132),(16,133),(17,134)] ?_
       iterate 4 refine mH ?_
       refine dj [(18,135)] ?_
       iterate 1 refine nX ?_
       refine dj [(19,136)] ?_
       iterate 1 refine mH ?_
       refine iq 8 λK hK=>?_;go_simp
       go_at_call 85
       go_call (KC.o _ C6.o.a.drew) as e v7 ⟨vo,rfl,S7,oC,fr7⟩;have A7:=xh<|C6.o.a.drew.below oC;have PX:=xh<|HNC.o v7 vo S7 oC fr7;obtain⟨V7,c7,rfl,_⟩:=S7.val;have h2:v7.cell? ⟨x.b,2,none⟩=some (U3 TA T tc):=A7.o.f2;have h5:v7.cell? ⟨x.b,5,none⟩=some (c.ep:li):=A7.o.f5;have h6:v7.cell? ⟨x.b,6,none⟩=some (c.slot:li):=A7.o.f6;have h3:=A7.o.hb.bi 3;have h4:=A7.o.hb.bi 4
       have z3:v7.frozen? ⟨x.b,3,none⟩=false:=A7.o.fz 3 ls;have z4:v7.frozen? ⟨x.b,4,none⟩=false:=A7.o.fz 4 ls;have z5:v7.frozen? ⟨x.b,5,none⟩=false:=A7.o.fz 5 ls;have z6:v7.frozen? ⟨x.b,6,none⟩=false:=A7.o.fz 6 ls;have h3:v7.cell? ⟨x.b,3,none⟩=some x.ov:=h3;have h4:v7.cell? ⟨x.b,4,none⟩=some x.pv:=h4;clear S7 oC fr7;go_simp;refine cq hK (λ_=>⟨h2,h5,h6⟩) (λaC=>?_);refine dj [(20,137),(21,138)] ?_
       iterate 2 refine mH ?_
       refine iq 22 λK hK=>?_;go_simp;refine cq hK (λh=>eq lw h) (λ_=>?_);refine dj [(23,139),(24,140)] ?_
       iterate 2 refine mH ?_
       refine iq 25 λK hK=>?_;go_simp;refine cq hK (λh=>eq lw h) (λ_=>?_);refine dj [(26,141),(27,142)] ?_
       iterate 2 refine mH ?_
       refine iq 28 λK hK=>?_;go_simp;refine cq hK (λh=>eq lw h) (λ_=>?_);refine dj [(29,143),(30,144)] ?_
       iterate 2 refine mH ?_
       refine iq 31 λK hK=>?_;go_simp;refine cq hK (λh=>eq lw h) (λ_=>?_);refine DS pm ?_ _;go_wp2;go_ret
       first
        |exact bz PX.o
        |exact bz (by have q:=PX.o;rw[lQ]at q;exact q)
    .rw[U8 hle]at HR4;subst HR4;have hq:(le != 0)=true:=lm hle
     have kP:(le==0)=false:=i4 hle
     clear vI;unfold sp at KL;go_wp2_with fail;go_call KL.o as e v3 ⟨rfl,A3,o3⟩;have C3:=g9 (CW x n w v3 {x with tv:=U3 TA T tc} {c with table:=c.table.take T,m:=(takeN c.m i).1,d:=ld}) ⟨A3,HC.o.1.o.trans (o3.mono (λg hg _=>Lo x g hg)),hfp⟩;have q7:=C3.o.a.hb.bi 7;have z7:=C3.o.a.fz 7 ls;have q7:v3.cell? ⟨x.b,7,none⟩=some (WF c.broken):=q7;have z7:v3.frozen? ⟨x.b,7,none⟩=false:=z7;have R7:=xh<|C3.o.brk;clear A3 o3
     go_wp2;go_ret;exact bz R7.o.post
end Sh
namespace Sh
open Go.RowKit Pk Dk Pg
structure Zc(c:C)(n:Nat)(a:St)(K:Nat):Prop where
 g:Good c n
 R:fD c.d n c.ep c.slot c.aR c.parts
 e:∃k,a=(c.bU n).pad k
 bc:c.d.calls<=40*K
 be:c.ep<=K
section
variable{c:C}{n:Nat}{a:St}{K:Nat}
def Zc.more(z:Zc c n a K){K':Nat}(h:K<=K'):Zc c n a K':=⟨z.g,z.R,z.e,by have:=z.bc;omega,by have:=z.be;omega⟩
def Zc.read(z:Zc c n a K)(l:Int):c.aO n l=a.aO l:=by
 obtain⟨k,e⟩:=z.e;rw[yJ z.g,e];unfold St.aO;rw[Qu]
def Zc.new(z:Zc c n a K)(p:UV):Zc (c.bE n p).1 n (a.bE p).1 (K+1)/\(c.bE n p).2=(a.bE p).2:=by
 obtain⟨k,ek⟩:=z.e;obtain⟨k',ep⟩:=pad_new (c.bU n) k p;rw[<-ek]at ep;obtain⟨g1,g2,g3,g4,g5,g6⟩:=Yv z.g p;have sE:=DO c n p;exact⟨⟨g1,by rw[sE.1,sE.2.1,sE.2.2.1,sE.2.2.2.1];exact Qs z.g z.R _,⟨k',by rw[ep,g2]⟩,by have:=z.bc;omega,by rw[sE.2.2.1];have:=z.be;omega⟩,by rw[ep];exact g3⟩
def Zc.write(z:Zc c n a K)(l:Int)(p:UV):Zc (c.ao n l p).1 n (a.ao l p).1 (K+1)/\(c.ao n l p).2=(a.ao l p).2:=by
 obtain⟨k,ek⟩:=z.e;have ep:=Vj (c.bU n) k l p;rw[<-ek]at ep;obtain⟨g1,g2,g3,g4⟩:=Qp z.g l p;have sE:=xj c n l p;exact⟨⟨g1,by rw[sE.1,sE.2.1,sE.2.2.1,sE.2.2.2.1];exact JA z.g z.R _ _,⟨k,by rw[ep,g2]⟩,by have:=z.bc;omega,by rw[sE.2.2.1];have:=z.be;omega⟩,by rw[ep];exact g3⟩
def Zc.drop(z:Zc c n a K)(l:Int):Zc (c.aF l).1 n (a.aF l).1 K/\(c.aF l).2=(a.aF l).2:=by
 obtain⟨k,ek⟩:=z.e;have ep:=YR (c.bU n) k l;rw[<-ek]at ep;obtain⟨g1,g2,g3,g4,g5,g6⟩:=GZ z.g l;have sE:(c.aF l).1.ep=c.ep/\(c.aF l).1.slot=c.slot:=by
  unfold C.aF
  split<;>exact⟨rfl,rfl⟩
 exact⟨⟨g1,by rw[g4,g5,g6,sE.1,sE.2];exact z.R,⟨k,by rw[ep,g2]⟩,by rw[g4];exact z.bc,by rw[sE.1];exact z.be⟩,by rw[ep];exact g3⟩
def Zc.abort(z:Zc c n a K):Zc c.bt n {a with now:=jy a.aR} K:=by
 obtain⟨k,ek⟩:=z.e;obtain⟨g1,g2,g3⟩:=Qn z.g;exact⟨g1,by show fD c.d n c.ep c.slot c.aR c.parts;exact z.R,⟨0,by rw[sD,g2,ek];rfl⟩,z.bc,z.be⟩
def Zc.aR(z:Zc c n a K):c.aR.length<=512:=by have:=z.R.ro.2.2.2.1;omega
def Zc.gZ(z:Zc c n a K)(tl:c.table.length<=512)(hK:K<=1000000000000):Zc (c.an n).1 n a.an.1 (K+1)/\(c.an n).2=a.an.2:=by
 obtain⟨k,ek⟩:=z.e;have hbe:=z.be;have hae2:a.free=(c.bU n).free:=by rw[ek,DQ]
 have Tn:a.dW=(c.bU n).dW:=by rw[ek,L8]
 by_cases hf:(c.bU n).free<cd (c.bU n).dW.length
 .rw[Am z.g hf,show a.an=(a,11) by unfold St.an;rw[hae2,Tn,U8 hf]];obtain⟨t1,t2⟩:=G8 z.g;exact⟨⟨t1,by show fD c.d n c.ep c.slot c.aR c.parts;exact z.R,⟨_,by rw[ek,t2,pad_pad]⟩,by show c.d.calls<=_;have:=z.bc;omega,by show c.ep<=_;omega⟩,rfl⟩
 .obtain⟨c',d1,d2,d3,d4,d5,d6,d7,d8⟩:=sC z.g z.R ls tl hf;rw[d1,show a.an=({a with now:=jy a.dW,aR:=a.dW,ep:=a.ep+1},0) by unfold St.an;rw[hae2,Tn,U9 hf]];exact⟨⟨d2,d3,⟨0,by rw[sD,d6,Tn,ek];rfl⟩,by show c'.d.calls<=_;have:=z.bc;omega,by show c'.ep<=_;rw[d8];omega⟩,rfl⟩
end
section
variable{w:BY}{x:X}{c:C}{n:Nat}{a:St}{K:Nat}
end
structure QS where
 a:St
 l:List Fr
 hand:Nat
def QS.turn(s:QS):QS:={s with hand:=(s.hand+1) % s.l.length}
def QS.gC:Nat->QS->QS×Int
 |0,s=>(s,-1)
 |m+1,s=>
  if 0<(il s.l s.hand).held then QS.gC m s.turn
  else if(il s.l s.hand).used=true then QS.gC m {s.turn with l:=s.l.set s.hand {il s.l s.hand with used:=false}}
  else(s.turn,(s.hand:Int))
def QS.az(s:QS):QS×Int:=
 if 0<=Gl (λf=>decide (f.au<0)) s.l then(s,Gl (λf=>decide (f.au<0)) s.l)else s.gC (2*s.l.length+1)
def QS.bl(s:QS)(k:Nat):QS×Int:=
 if(il s.l k).cH=true then
  if(s.a.ao (il s.l k).au (il s.l k).fS.data.toList).2=0 then({s with a:=(s.a.ao (il s.l k).au (il s.l k).fS.data.toList).1,l:=s.l.set k {il s.l k with cH:=false}},0)
  else({s with a:=(s.a.ao (il s.l k).au (il s.l k).fS.data.toList).1},(s.a.ao (il s.l k).au (il s.l k).fS.data.toList).2)
 else(s,0)
def QS.aU(s:QS)(p:Int):QS×Nm×Int:=
 if 0<=findF s.l p then
  ({s with l:=s.l.set (findF s.l p).toNat {il s.l (findF s.l p).toNat with held:=(il s.l (findF s.l p).toNat).held+1,used:=true}},(il s.l (findF s.l p).toNat).fS,0)
 else if(s.a.aO p).2≠0 then(s,⟨#[]⟩,(s.a.aO p).2)
 else if s.az.2<0 then(s.az.1,⟨#[]⟩,12)
 else if(s.az.1.bl s.az.2.toNat).2≠0 then((s.az.1.bl s.az.2.toNat).1,⟨#[]⟩,(s.az.1.bl s.az.2.toNat).2)
 else({(s.az.1.bl s.az.2.toNat).1 with l:=(s.az.1.bl s.az.2.toNat).1.l.set s.az.2.toNat ⟨p,⟨(s.a.aO p).1.toArray⟩,1,false,true⟩},⟨(s.a.aO p).1.toArray⟩,0)
def QS.eX(s:QS)(p:Int):Option (Nat×Fr):=
 if findF s.l p<0 then none else match s.l[(findF s.l p).toNat]? with
  |none=>none
  |some f=>if f.held=0 then none else some ((findF s.l p).toNat,f)
def QS.fG(s:QS)(p:Int):QS×Int:=match s.eX p with
 |none=>(s,16)
 |some (k,f)=>({s with l:=s.l.set k {f with held:=f.held-1}},0)
def mX(s:Nm):Nm:=⟨(ff s.data.toList 232).toArray⟩
def QS.eP(s:QS)(p:Int)(b:Nm):QS×Int:=
 if 232<b.size then(s,4)else match s.eX p with
 |none=>(s,16)
 |some (k,f)=>({s with l:=s.l.set k {f with fS:=mX b,cH:=true,used:=true}},0)
def QS.cF(s:QS)(p:Int):QS×Nm×Int:=
 if(s.aU p).2.2≠0 then((s.aU p).1,⟨#[]⟩,(s.aU p).2.2)else(((s.aU p).1.fG p).1,(s.aU p).2.1,0)
def QS.dh(s:QS)(p:Int)(b:Nm):QS×Int:=
 if 232<b.size then(s,4)else if(s.aU p).2.2≠0 then((s.aU p).1,(s.aU p).2.2)else((((s.aU p).1.eP p b).1.fG p).1,0)
def QS.aF(s:QS)(p:Int):QS×Int:=
 if 0<=findF s.l p/\0<(il s.l (findF s.l p).toNat).held then(s,16)
 else if(s.a.aF p).2≠0 then({s with a:=(s.a.aF p).1},(s.a.aF p).2)
 else if 0<=findF s.l p then({s with a:=(s.a.aF p).1,l:=s.l.set (findF s.l p).toNat Fr.nil},0)
 else({s with a:=(s.a.aF p).1},0)
def QS.dk(s:QS)(i:Int):QS×Int:=
 if i<0\/(s.l.length:Int)<=i then(s,3)
 else if(il s.l i.toNat).au<0 then(s,0)
 else if 0<(il s.l i.toNat).held then(s,16)
 else if(s.bl i.toNat).2≠0 then s.bl i.toNat
 else({(s.bl i.toNat).1 with l:=(s.bl i.toNat).1.l.set i.toNat Fr.nil},0)
def QS.mI(s:QS):Nat:=s.l.countP λf=>decide (0<f.held)
def QS.aN(s:QS):Nat->QS×Int
 |0=>(s,0)
 |k+1=>if(s.aN k).2≠0 then s.aN k else(s.aN k).1.bl k
def QS.an(s:QS):QS×Int:=
 if 0<s.mI then(s,16)
 else if(s.aN s.l.length).2≠0 then s.aN s.l.length
 else({(s.aN s.l.length).1 with a:=(s.aN s.l.length).1.a.an.1},(s.aN s.l.length).1.a.an.2)
def QS.bt(s:QS):QS:={s with a:={s.a with now:=jy s.a.aR},l:=it s.l.length Fr.nil}
def QS.bE(s:QS)(p:UV):QS×Int×Int:=({s with a:=(s.a.bE p).1},(s.a.bE p).2)
def vJ:∀(m:Nat) (q:QS),(q.gC m).1.a=q.a/\(q.gC m).1.l.length=q.l.length
 |0,_=>⟨rfl,rfl⟩
 |m+1,q=>by
  unfold QS.gC
  split
  .exact vJ m q.turn
  .split
   .have h:=vJ m {q.turn with l:=q.l.set q.hand {il q.l q.hand with used:=false}};exact⟨h.1,by rw[h.2,bR]⟩
   .exact⟨rfl,rfl⟩
def gG(q:QS):q.az.1.a=q.a/\q.az.1.l.length=q.l.length:=by
 unfold QS.az
 split
 .exact⟨rfl,rfl⟩
 .exact vJ _ q
variable{l:List Fr}{f:Fr}{K:Nat}
def nY{k:Nat}(h:l[k]?=some f):il l k=f:=by unfold il;rw[h];rfl
def Fb(l:List Fr)(K:Nat):Prop:= ∀f∈l,0<=f.held/\f.held<=K/\f.fS.size<=1000
def Fb.set(h:Fb l K)(k:Nat)(hf:0<=f.held/\f.held<=K/\f.fS.size<=1000):Fb (l.set k f) K:=by
 intro g hg
 rcases oJ hg with hg|rfl
 .exact h g hg
 .exact hf
def Fb.more{K':Nat}(h:Fb l K)(hk:K<=K'):Fb l K':=λf hf=>by have:=h f hf;omega
def Fb.nil :0<=Fr.nil.held/\Fr.nil.held<=(K:Nat)/\Fr.nil.fS.size<=1000:=⟨dG _,by show(0:Int)<=_;omega,ms⟩
def nZ :∀(m:Nat) (s:QS),s.hand<s.l.length->Fb s.l K->Fb (s.gC m).1.l K/\(s.gC m).1.hand<(s.gC m).1.l.length/\((s.gC m).2= -1\/∃k:Nat,(s.gC m).2=k/\k<s.l.length)
 |0,_,hl,hc=>⟨hc,hl,.inl rfl⟩
 |m+1,s,hl,hc=>by
  unfold QS.gC;have hf:=j8 hl;have hm:=hc _ (ay hf);have ht:(s.hand+1) % s.l.length<s.l.length:=qz _ ls
  split
  .exact nZ m s.turn ht hc
  .split
   .have:=nZ m {s.turn with l:=s.l.set s.hand {il s.l s.hand with used:=false}} (by rw[bR];exact ht) (hc.set _ hm);rw[bR]at this;exact this
   .exact⟨hc,ht,.inr ⟨s.hand,rfl,hl⟩⟩
def n7(s:QS)(hl:s.hand<s.l.length)(hc:Fb s.l K):Fb s.az.1.l K/\s.az.1.hand<s.az.1.l.length/\(s.az.2= -1\/∃k:Nat,s.az.2=k/\k<s.l.length):=by
 unfold QS.az
 split
 .refine⟨hc,hl,?_⟩
  rcases Dr (λf=>decide (f.au<0)) s.l with e|⟨k,f,e,hf,_⟩
  .exact .inl e
  .exact .inr ⟨k,e,(aW.1 hf).1⟩
 .exact nZ _ s hl hc
variable{w:BY}{y:Y}{n:Nat}{s:PS}
def kI:(prog.info? 5).map (λi=>(i.zero,i.size,i.bytes))=some (some (U5 .u8 0),1,1):=pm
def YU(n:Nat)(h1:n<=140737488355328)(w:BY):
  (Instr.makeSlice 150 n n).run prog w=.ok (U3 (lc w.heap.size) n n) (w.alloc (Pi (fq (it n 0)).toArray 5)):=by
 obtain⟨i0,hi,lC,kH,lM⟩:=info_parts kI;have h:=run_make (P:=prog) w 150 5 i0 (U5 .u8 0) underlying150 hi lC U6 U6 n n ls (dG _) (by rw[lM];omega) ls;rw[h,kH];have e:madeCells (Value.int .u8 0).cells (((n:Int).toNat)*1)=(fq (it n 0)).toArray:=by
  show madeCells #[Value.int .u8 0] (n*1)=_;rw[Nat.mul_one,jB];simp[fq,bv]
 rw[e];rfl
def full_eq(b:Nm):b++(⟨(it (232-b.size) (0:UInt8)).toArray⟩:Nm)=mX b:=by
 apply mP;unfold mX ff;rw[ByteArray.data_append];simp
def qO{b:Nm}(h:b.size<=232):(mX b).size=232:=by
 have hl:b.pu.length=b.size:=lw
 show(ff b.pu 232).toArray.size=232;unfold ff;simp;omega
def set_in(h:ju w y n s)(p:Int)(b:Nm)(hb:b.size<=232){k:Nat}{f:Fr}(hh:s.eX p=some (k,f)):
  io prog 219 #[pp y.pb,p,U7 b] w λe w'=>e=fd (U5 U6 0)/\ju w' y n {s with l:=s.l.set k {f with fS:=mX b,cH:=true,used:=true}}/\ah y.fp w w':=by
 have KH:=xh<|Ds h p;rw[hh]at KH;obtain⟨hf,_,_⟩:=Dt hh;have lQ:k<s.l.length:=(aW.1 hf).1;have l2:=h.l2;have HF:=xh hf;have HA:=xh (λW (hb:i7 w W)=>h.below hb);have hbI:¬(232:Int)<(b.size:Int):=ls
 obtain⟨m,hm⟩:∃m,232-b.size=m:=⟨_,rfl⟩;have em:U6.wrap (232-(b.size:Int))=(m:Int):=by rw[show(232:Int)-(b.size:Int)=(m:Int) by omega];exact d9
 have hmk:=λW=>YU m ls W;have HCV:=xh (λ(W:BY)=>(cQ (P:=prog) (W.alloc (Pi (fq (it m 0)).toArray 5)) 150 9 5 underlying150 underlying5 underlying9 ⟨W.heap.size,0,none⟩ m m (it m 0) lw (bT (aM.new W 5 (fq (it m 0)).toArray) 0 _ (by intro j u hu;rw[bV];simpa using hu))));obtain⟨FB,hFB⟩:∃FB,mX b=FB:=⟨_,rfl⟩;have HCAT:=xh<|full_eq b;rw[hFB]at HCAT;rw[hFB]
 rw[hm]at HCAT;have hm0:(0:Int)<=(m:Int):=ls
 have pC:¬9223372036854775807<b.size+(⟨(it m (0:UInt8)).toArray⟩:Nm).size:=by
  have:(⟨(it m (0:UInt8)).toArray⟩:Nm).size=m:=by show(it m (0:UInt8)).toArray.size=m;simp
  omega
 have Lk:m<=232:=ls
 generalize (⟨(it m (0:UInt8)).toArray⟩:Nm)=ZZ at *;generalize (fq (it m (0:UInt8))).toArray=ZC at *;clear h hh hf hm hb hFB;unfold pp wY at *;go_in;go_wp2_with fail;go_call KH.o as e w1 ⟨rfl,bu⟩;have O1:=xh bu;have A1:=xh<|HA.o _ (ag bu (Pi ZC 5));have O1':=xh<|ag bu (Pi ZC 5);clear bu;go_wp2_with fail;rw[HCV.o w1];clear hmk;generalize (w1.alloc (Pi ZC 5))=w2 at *
 have hcat:=HCAT.o;obtain⟨c0,c1,c2,c3,c4⟩:=A1.o.Cb k f HF.o;obtain⟨z1,B1,q1⟩:=A1.o.eP k 1 ls {f with fS:=FB} (U7 (FB)) HF.o rfl;have g1:(s.l.set k {f with fS:=FB})[k]?=some {f with fS:=FB}:=by rw[eK lQ]
 obtain⟨z2,B2,q2⟩:=B1.eP k 3 ls {f with fS:=FB,cH:=true} (WF true) g1 rfl;simp only[ly]at B2;have g2:(s.l.set k {f with fS:=FB,cH:=true})[k]?=some {f with fS:=FB,cH:=true}:=by rw[eK lQ]
 obtain⟨z3,B3,q3⟩:=B2.eP k 4 ls {f with fS:=FB,cH:=true,used:=true} (WF true) g2 rfl;simp only[ly]at B3;have AZ:=xh B3;have OZ:=xh<|(ah.aj (S:=y.fp) O1'.o).trans ((q1.trans q2).trans q3);clear B1 B2 B3 q1 q2 q3 g1 g2 lQ;go_wp2;go_ret;exact bz ⟨AZ.o,OZ.o⟩
def set_out(h:ju w y n s)(p:Int)(b:Nm)(hb:b.size<=232)(hh:s.eX p=none):
  io prog 219 #[pp y.pb,p,U7 b] w λe w'=>e=fd (U5 U6 16)/\i7 w w':=by
 have KH:=xh<|Ds h p;rw[hh]at KH;have hbI:¬(232:Int)<(b.size:Int):=ls
 clear h hh hb;unfold pp wY at *;go_in;go_wp2_with fail;go_call KH.o as e w1 ⟨rfl,bu⟩;have O1:=xh bu;clear bu;go_wp2;go_ret;exact bz O1.o
def set_big(w:BY)(pb:Nat)(p:Int)(b:Nm)(hb:232<b.size):
  io prog 219 #[pp pb,p,U7 b] w λe w'=>e=fd (U5 U6 4)/\i7 w w':=by
 have hbI:(232:Int)<(b.size:Int):=ls
 have O1:=xh<|i5 w;clear hb;unfold pp;go_in;go_wp2;go_ret;exact bz O1.o
variable{q:QS}{k K:Nat}
def Vo(b:Nm)(q:Nat)(w:BY)(s0:Nm)(B:aM w q 9 #[U7 s0]):
  io prog 168 #[U7 b,lc q] w λe w'=>e=fd (U5 U6 0)/\aM w' q 9 #[U7 b]/\ah [q] w w':=by
 have q0:=B.bi 0;have q1:=B.frozen 0 lw;have B1:=g9 (aM (w.setCell ⟨q,0,none⟩ (U7 b)) q 9 #[U7 b]) (B.ct 0 (U7 b));have O1:=xh<|(ah.refl [q] w).setCell (p:=⟨q,0,none⟩) lw (U7 b);clear B;go_in;go_wp2;go_ret;exact bz ⟨B1.o,O1.o⟩
def qP(h:Fb q.l K)(hk:k<q.l.length):Fb (q.bl k).1.l K/\(q.bl k).1.l.length=q.l.length:=by
 have hm:=h _ (ay (j8 hk));unfold QS.bl
 split
 .split
  .exact⟨h.set _ hm,bR⟩
  .exact⟨h,rfl⟩
 .exact⟨h,rfl⟩
def Full(a:St):Prop:= ∀l,(a.aO l).1.length<=232
def Qy{l:UV}(h:l.length<=232):(⟨l.toArray⟩:Nm).size<=1000:=by
 show l.toArray.size<=1000;simp;omega
def pP{p:Int}{f:Fr}(h:q.eX p=some (k,f)):q.l[k]?=some f/\f.held≠0/\findF q.l p=k:=by
 unfold QS.eX at h
 rcases gF q.l p with e|⟨j,g,e,hg,_,_⟩
 .rw[e,g8]at h;cases h
 .rw[e,ge,show((j:Nat):Int).toNat=j by omega,hg]at h;dsimp only at h
  split at h
  .cases h
  .rename_i fy;obtain⟨rfl,rfl⟩:j=k/\g=f:=by simpa using h
   exact⟨hg,fy,e⟩
def Tp(h:Fb q.l K)(p:Int):Fb (q.fG p).1.l K/\(q.fG p).1.l.length=q.l.length/\(q.fG p).1.a=q.a/\(q.fG p).1.hand=q.hand:=by
 unfold QS.fG
 cases hh:q.eX p with
 |none=>exact⟨h,rfl,rfl,rfl⟩
 |some kf=>
  obtain⟨k,f⟩:=kf;obtain⟨h1,h2,_⟩:=pP hh;have hm:=h _ (ay h1);exact⟨h.set k ⟨by show 0<=f.held-1;omega,by show f.held-1<=_;omega,hm.2.2⟩,bR,rfl,rfl⟩
def Tq(h:Fb q.l K)(p:Int)(b:Nm):Fb (q.eP p b).1.l K/\(q.eP p b).1.l.length=q.l.length/\(q.eP p b).1.a=q.a/\(q.eP p b).1.hand=q.hand:=by
 unfold QS.eP
 split
 .exact⟨h,rfl,rfl,rfl⟩
 .rename_i hb
  cases hh:q.eX p with
  |none=>exact⟨h,rfl,rfl,rfl⟩
  |some kf=>
   obtain⟨k,f⟩:=kf;obtain⟨h1,h2,_⟩:=pP hh;have hm:=h _ (ay h1);exact⟨h.set k ⟨hm.1,hm.2.1,by show(mX b).size<=_;rw[qO ls];omega⟩,bR,rfl,rfl⟩
def YV{w:BY}{y:Y}(p:Int)(b:Nm)(hs:232<b.size):
  io prog 176 #[pp y.pb,p,U7 b] w λe w'=>e=fd (U5 U6 4)/\i7 w w':=by
 have OZ:=xh<|ag (ag (i6 w (Pi #[pp y.pb] 34)) (Pi #[p] 3)) (Pi #[U7 b] 9);have XR:(232:Int)<(b.size:Int):=ls
 clear hs;unfold pp at *;go_in;go_wp2;go_ret;exact bz OZ.o
end Sh
namespace Sh
open Go.RowKit Pk Dk Pg
section
variable{c:C}{n:Nat}{a:St}{K:Nat}
def Zc.full(z:Zc c n a K):Full a:=by
 intro l
 by_cases h:(a.aO l).2=0
 .have hr:=z.read l;rw[yJ z.g]at hr;rw[<-hr]at h ⊢;exact Bt (LA z.g h)
 .unfold St.aO at h ⊢
  cases ha:a.at l with
  |none=>exact bG _
  |some u=>rw[ha]at h;exact eq rfl h
def Zc.tl(z:Zc c n a K)(h:a.now.length<=512):c.table.length<=512:=by
 obtain⟨k,e⟩:=z.e;rw[e]at h;have h2:((c.bU n).pad k).now.length=c.table.length+k:=by
  unfold St.pad C.bU;simp
 omega
end
structure Hq(q:QS)(n K:Nat):Prop where
 z:∃c,Zc c n q.a K
 f:Fb q.l K
 l1:1<=q.l.length
 l2:q.l.length<=32
 lh:q.hand<q.l.length
 nl:q.a.now.length<=512
section
variable{q:QS}{n K:Nat}
def Hq.full(h:Hq q n K):Full q.a:=by
 obtain⟨c,z⟩:=h.z;exact z.full
def Hq.more(h:Hq q n K){K':Nat}(hk:K<=K'):Hq q n K':=by
 obtain⟨c,z⟩:=h.z;exact⟨⟨c,z.more hk⟩,h.f.more hk,h.l1,h.l2,h.lh,h.nl⟩
def Hq.qQ(h:Hq q n K){q':QS}{K':Nat}(ha:q'.a=q.a)(hk:K<=K')(hf:Fb q'.l K')(hl:q'.l.length=q.l.length)(hh:q'.hand<q.l.length):Hq q' n K':=by
 obtain⟨c,z⟩:=h.z;exact⟨⟨c,by rw[ha];exact z.more hk⟩,hf,by rw[hl];exact h.l1,by rw[hl];exact h.l2,by rw[hl];exact hh,by rw[ha];exact h.nl⟩
def pQ(a:St)(l:Int)(p:UV):(a.ao l p).1.now.length=a.now.length:=by
 unfold St.ao
 split
 .rfl
 .split
  .rfl
  .split
   .rfl
   .show(a.now.set _ _).length=_;rw[bR]
def Hq.yU(h:Hq q n K):Hq q.az.1 n K/\(q.az.2= -1\/∃k:Nat,q.az.2=k/\k<q.l.length):=by
 obtain⟨v1,v2,v3⟩:=n7 q h.lh h.f;have va:=gG q;exact⟨h.qQ va.1 (ai _) v1 va.2 (by rw[<-va.2];exact v2),v3⟩
def yV(q:QS)(k:Nat):(q.bl k).1.hand=q.hand:=by
 unfold QS.bl
 split
 .split<;>rfl
 .rfl
def DT(q:QS)(k:Nat):(q.bl k).1.a.now.length=q.a.now.length:=by
 unfold QS.bl
 split
 .split
  .exact pQ _ _ _
  .exact pQ _ _ _
 .rfl
def Hq.back(h:Hq q n K)(k:Nat)(hk:k<q.l.length):Hq (q.bl k).1 n (K+1):=by
 obtain⟨b1,b2⟩:=qP h.f hk;obtain⟨c,z⟩:=h.z;refine⟨?_,b1.more ls,by rw[b2];exact h.l1,by rw[b2];exact h.l2,by rw[b2,yV];exact h.lh,by rw[DT];exact h.nl⟩;unfold QS.bl
 split
 .split
  .exact⟨_,(z.write _ _).1⟩
  .exact⟨_,(z.write _ _).1⟩
 .exact⟨c,z.more ls⟩
def Hq.put(h:Hq q n K)(k:Nat){f:Fr}(hf:0<=f.held/\f.held<=K/\f.fS.size<=1000):Hq {q with l:=q.l.set k f} n K:=
 h.qQ rfl (ai _) (h.f.set k hf) bR h.lh
def Hq.hold(h:Hq q n K)(p:Int):Hq (q.aU p).1 n (K+1):=by
 unfold QS.aU
 rcases gF q.l p with e|⟨k,f,e,hk,_,_⟩
 .rw[e,ge]
  split
  .exact h.more ls
  .obtain⟨v1,v3⟩:=h.yU;have va:=gG q
   split
   .exact v1.more ls
   .rcases v3 with v3|⟨k,v3,hk⟩
    .omega
    .rw[v3,show((k:Nat):Int).toNat=k by omega];have hb:=v1.back k ls
     split
     .exact hb
     .exact hb.put k ⟨by show(0:Int)<=1;omega,by show(1:Int)<=_;omega,Qy (h.full p)⟩
 .rw[e,g8,show((k:Nat):Int).toNat=k by omega,nY hk];have hm:=h.f _ (ay hk);exact(h.more ls).put k ⟨by show 0<=f.held+1;omega,by show f.held+1<=_;omega,hm.2.2⟩
def Hq.Gm(h:Hq q n K)(p:Int):Hq (q.fG p).1 n K:=by
 obtain⟨a,b,c,d⟩:=Tp h.f p;exact h.qQ c (ai _) a b (by rw[d];exact h.lh)
def Hq.set(h:Hq q n K)(p:Int)(b:Nm):Hq (q.eP p b).1 n K:=by
 obtain⟨a,e,c,d⟩:=Tq h.f p b;exact h.qQ c (ai _) a e (by rw[d];exact h.lh)
def Hq.get(h:Hq q n K)(p:Int):Hq (q.cF p).1 n (K+1):=by
 unfold QS.cF
 split
 .exact h.hold p
 .exact(h.hold p).Gm p
def Hq.put_(h:Hq q n K)(p:Int)(b:Nm):Hq (q.dh p b).1 n (K+1):=by
 unfold QS.dh
 split
 .exact h.more ls
 .split
  .exact h.hold p
  .exact((h.hold p).set p b).Gm p
def DU(a:St)(l:Int):(a.aF l).1.now.length=a.now.length:=by
 unfold St.aF
 split
 .show(a.now.set _ _).length=_;rw[bR]
 .rfl
def Hq.drop(h:Hq q n K)(p:Int):Hq (q.aF p).1 n K:=by
 obtain⟨c,z⟩:=h.z;have hd:Hq {q with a:=(q.a.aF p).1} n K:=⟨⟨_,(z.drop p).1⟩,h.f,h.l1,h.l2,h.lh,by show(q.a.aF p).1.now.length<=512;rw[DU];exact h.nl⟩;unfold QS.aF
 split
 .exact h
 .split
  .exact hd
  .split
   .exact hd.put _ Fb.nil
   .exact hd
def Hq.pR(h:Hq q n K)(i:Int):Hq (q.dk i).1 n (K+1):=by
 unfold QS.dk
 split
 .exact h.more ls
 .split
  .exact h.more ls
  .split
   .exact h.more ls
   .split
    .exact h.back _ ls
    .exact(h.back _ ls).put _ Fb.nil
def lI(q:QS)(i:Nat):q.aN (i+1)=if(q.aN i).2≠0 then q.aN i else(q.aN i).1.bl i:=rfl
def Hq.lJ(h:Hq q n K):∀i,i<=q.l.length->Hq (q.aN i).1 n (K+i)/\(q.aN i).1.l.length=q.l.length
 |0,_=>⟨h,rfl⟩
 |i+1,hi=>by
  obtain⟨h1,h2⟩:=h.lJ i ls;rw[lI]
  split
  .exact⟨h1.more ls,h2⟩
  .exact⟨h1.back i ls,by rw[(qP h1.f ls).2,h2]⟩
def old_len(a:St):(jy a.aR).length=a.aR.length:=by unfold jy;rw[eZ]
def vK(a:St)(h:a.now.length<=512):a.an.1.now.length<=512:=by
 unfold St.an
 split
 .exact h
 .show(jy a.dW).length<=512;unfold jy;rw[eZ];have:=DK a;omega
def Hq.gZ(h:Hq q n K)(hK:K<=999999999000):Hq q.an.1 n (K+40):=by
 unfold QS.an;obtain⟨b1,b2⟩:=h.lJ q.l.length (ai _);have l2:=h.l2
 split
 .exact h.more ls
 .split
  .exact b1.more ls
  .obtain⟨c,z⟩:=b1.z;have zc:=(z.gZ (z.tl b1.nl) ls).1;exact⟨⟨_,zc.more ls⟩,b1.f.more ls,b1.l1,b1.l2,b1.lh,vK _ b1.nl⟩
def Hq.abort(h:Hq q n K):Hq q.bt n K:=by
 obtain⟨c,z⟩:=h.z;refine⟨⟨_,z.abort⟩,λf hf=>?_,by show 1<=(it _ _).length;rw[eG];exact h.l1,by show(it _ _).length<=32;rw[eG];exact h.l2,by show q.hand<(it _ _).length;rw[eG];exact h.lh,?_⟩
 .rw[jQ hf];exact Fb.nil
 .show(jy q.a.aR).length<=512;rw[old_len];obtain⟨k,e⟩:=z.e;have:=z.aR;rw[e];show(c.aR.map _).length<=512;rw[eZ];exact this
def JD(a:St)(p:UV)(h:a.now.length<=512):(a.bE p).1.now.length<=512:=by
 unfold St.bE
 split
 .exact h
 .split
  .exact h
  .rename_i hs;show(qK a.now a.slot _).length<=512;unfold qK
   split
   .rw[bC];simp;omega
   .rw[bR];exact h
def Hq.new(h:Hq q n K)(p:UV):Hq (q.bE p).1 n (K+1):=by
 obtain⟨c,z⟩:=h.z;exact⟨⟨_,(z.new p).1⟩,h.f.more ls,h.l1,h.l2,h.lh,JD _ _ h.nl⟩
end
def jm{α β:Type}(l:List α)(g:α->β)(k:Nat){a b:α}(h:l[k]?=some b)(e:g a=g b):(l.set k a).map g=l.map g:=by
 rw[Bl];apply lr;intro i;rw[kq];have hk:=(aW.1 h).1
 split
 .rename_i hi;subst hi;rw[U8 (by simpa using hk),iM,h,e];rfl
 .rfl
def xr{a:St}{p:Int}(h:(a.aO p).2=0):0<=p:=by
 by_cases hp:0<=p
 .exact hp
 .exfalso;unfold St.aO St.at at h;rw[U9 hp]at h;exact eq h ms
variable{a:St}{l l':List Fr}{k:Nat}{f:Fr}{j:Int}
def pS{l:Int}(h:(a.at l).isSome=true):0<=l/\l.toNat<a.now.length:=by
 unfold St.at at h
 by_cases h0:0<=l
 .rw[U8 h0]at h;refine⟨h0,?_⟩
  by_cases hl:l.toNat<a.now.length
  .exact hl
  .rw[fw ls]at h
   cases h
 .rw[U9 h0]at h;cases h
def xu{l:Int}:(a.aO l).2=0↔(a.at l).isSome=true:=by
 unfold St.aO
 cases h:a.at l with
 |none=>simp
 |some u=>simp
def nR{l:Int}{p:UV}(h:(a.ao l p).2=0)(j:Int):(a.ao l p).1.aO j=if j=l then(ff p 232,0)else a.aO j:=by
 unfold St.ao at h ⊢
 by_cases h1:232<p.length
 .rw[U8 h1]at h;exact eq h (by show(4:Int)≠0;decide)
 rw[U9 h1]at h ⊢
 by_cases h2:¬(a.at l).isSome=true
 .rw[U8 h2]at h;exact eq h (by show(3:Int)≠0;decide)
 rw[U9 h2]at h ⊢
 by_cases h3:im (a.at l)=false/\a.free=0
 .rw[U8 h3]at h;exact eq h (by show(11:Int)≠0;decide)
 rw[U9 h3];obtain⟨l0,l1⟩:=pS (Classical.not_not.1 h2);have hat:St.at {a with now:=a.now.set l.toNat (some (true,ff p 232))} j=if j=l then some (true,ff p 232)else a.at j:=by
  unfold St.at
  by_cases hj:j=l
  .subst hj;rw[U8 l0,U8 rfl];show((a.now.set j.toNat _)[j.toNat]?).getD none=_;rw[eK l1];rfl
  .rw[U9 hj]
   by_cases h0:0<=j
   .rw[U8 h0,U8 h0];show((a.now.set l.toNat _)[j.toNat]?).getD none=_;rw[fW ls]
   .rw[U9 h0,U9 h0]
 show St.aO {a with now:=a.now.set l.toNat (some (true,ff p 232))} j=_;unfold St.aO;rw[hat]
 by_cases hj:j=l
 .rw[U8 hj,U8 hj]
 .rw[U9 hj,U9 hj]
def QS.vw(q:QS)(j:Int):UV×Int:=if 0<=findF q.l j then((il q.l (findF q.l j).toNat).fS.data.toList,0)else q.a.aO j
structure Vi(q:QS):Prop where
 un:∀(i j:Nat) (f h:Fr),q.l[i]?=some f->q.l[j]?=some h->f.au=h.au->0<=f.au->i=j
 cl:∀f∈q.l,0<=f.au->f.cH=false->q.a.aO f.au=(f.fS.data.toList,0)
 ex:∀f∈q.l,0<=f.au->(q.a.aO f.au).2=0
 em:∀f∈q.l,f.au<0->f.cH=false
 fl:∀f∈q.l,0<=f.au->f.fS.size=232
def JE(hf:l[k]?=some f)(h0:0<=f.au)(un:∀(j:Nat) (h:Fr),l[j]?=some h->h.au=f.au->j=k):findF l f.au=k:=by
 unfold findF;rw[ge];exact wX hf lw (λj a hj Xi=>by
  simp only[decide_eq_false_iff_not];intro e;have:=un j a Xi e;omega)
def YW(h:j<0\/∀f∈l,f.au≠j):findF l j= -1:=by
 unfold findF
 by_cases h0:j<0
 .rw[U8 h0]
 .rw[U9 h0];exact Dq (λi a hi=>by
   simp only[decide_eq_false_iff_not];exact h.resolve_left h0 a (ay hi))
def fQ{q:QS}(h:j<0\/∀f∈q.l,f.au≠j):q.vw j=q.a.aO j:=by
 unfold QS.vw;rw[YW h,ge]
def Vi.k7{q:QS}(V:Vi q)(hf:q.l[k]?=some f)(h0:0<=f.au):q.vw f.au=(f.fS.data.toList,0):=by
 unfold QS.vw;rw[JE hf h0 (λj h hj e=>V.un j k h f hj hf e ls),g8,show((k:Nat):Int).toNat=k by omega,nY hf]
def jA(q:QS)(j:Int):(j<0\/∀f∈q.l,f.au≠j)\/∃(k:Nat) (f:Fr),q.l[k]?=some f/\f.au=j/\0<=j:=by
 by_cases h0:j<0
 .exact .inl (.inl h0)
 by_cases h:∃f∈q.l,f.au=j
 .obtain⟨f,hf,e⟩:=h;obtain⟨k,hk⟩:=I3.1 hf;exact .inr ⟨k,f,hk,e,ls⟩
 .exact .inl (.inr (λf hf e=>h ⟨f,hf,e⟩))
def pd(f:Fr):Int×Nm×Bool:=(f.au,f.fS,f.cH)
def JF(e:l'.map pd=l.map pd)(hf:l[k]?=some f):∃f',l'[k]?=some f'/\f'.au=f.au/\f'.fS=f.fS/\f'.cH=f.cH:=by
 have:(l'.map pd)[k]?=(l.map pd)[k]?:=by rw[e]
 rw[iM,iM,hf]at this
 cases h':l'[k]? with
 |none=>rw[h']at this;cases this
 |some f'=>
  rw[h']at this;have:pd f'=pd f:=by simpa using this
  exact⟨f',rfl,congrArg Prod.fst this,congrArg (λx=>x.2.1) this,congrArg (λx=>x.2.2) this⟩
def DW(e:l'.map pd=l.map pd)(hf:f∈l):∃f'∈l',f'.au=f.au/\f'.fS=f.fS/\f'.cH=f.cH:=by
 obtain⟨k,hk⟩:=I3.1 hf;obtain⟨f',h1,h2⟩:=JF e hk;exact⟨f',ay h1,h2⟩
def Vi.pd{q q':QS}(V:Vi q)(ea:q'.a=q.a)(e:q'.l.map Sh.pd=q.l.map Sh.pd):Vi q'/\∀j,q'.vw j=q.vw j:=by
 have V':Vi q':=by
  refine⟨λi j f h hf hh ep h0=>?_,λf hf h0 hd=>?_,λf hf h0=>?_,λf hf h0=>?_,λf hf h0=>?_⟩
  .obtain⟨f',a1,a2,_⟩:=JF e.symm hf;obtain⟨h',b1,b2,_⟩:=JF e.symm hh;exact V.un i j f' h' a1 b1 ls ls
  .obtain⟨f',a1,a2,a3,a4⟩:=DW e.symm hf;rw[ea,<-a2,<-a3];exact V.cl f' a1 ls (by rw[a4];exact hd)
  .obtain⟨f',a1,a2,_⟩:=DW e.symm hf;rw[ea,<-a2];exact V.ex f' a1 ls
  .obtain⟨f',a1,a2,_,a4⟩:=DW e.symm hf;rw[<-a4];exact V.em f' a1 ls
  .obtain⟨f',a1,a2,a3,_⟩:=DW e.symm hf;rw[<-a3];exact V.fl f' a1 ls
 refine⟨V',λj=>?_⟩
 rcases jA q j with h|⟨k,f,hf,rfl,h0⟩
 .rw[fQ h,fQ (h.imp id (λh f hf=>by
   obtain⟨f',a1,a2,_⟩:=DW e.symm hf;rw[<-a2];exact h f' a1)),ea]
 .obtain⟨f',a1,a2,a3,_⟩:=JF e hf;rw[V.k7 hf h0,<-a2,V'.k7 a1 ls,a3]
def mem_set{g:Fr}(h:f∈l.set k g):f=g\/∃i,i≠k/\l[i]?=some f:=by
 obtain⟨i,hi⟩:=I3.1 h
 by_cases yb:i=k
 .subst yb;rw[kq]at hi
  split at hi
  .split at hi
   .injection hi with hi;exact .inl hi.symm
   .cases hi
  .rename_i h;exact eq rfl h
 .rw[fW ls]at hi;exact .inr ⟨i,yb,hi⟩
def xw{b:Nm}(h:b.size=232):ff b.data.toList 232=b.data.toList:=by
 have hl:b.pu.length=b.size:=lw
 unfold ff;rw[hl,h];simp
def Vi.wrote{q:QS}(V:Vi q)(hf:q.l[k]?=some f)(h0:0<=f.au)(hw:(q.a.ao f.au f.fS.data.toList).2=0):
  Vi {q with a:=(q.a.ao f.au f.fS.data.toList).1,l:=q.l.set k {f with cH:=false}}/\∀j,QS.vw {q with a:=(q.a.ao f.au f.fS.data.toList).1,l:=q.l.set k {f with cH:=false}} j=q.vw j:=by
 have hr:=nR hw;have hp:=xw (V.fl f (ay hf) h0);have hk:=(aW.1 hf).1;have ne:∀(i:Nat) (h:Fr),i≠k->q.l[i]?=some h->h.au≠f.au:=λi h hi hh e=>hi (V.un i k h f hh hf e ls);have V':Vi {q with a:=(q.a.ao f.au f.fS.pu).1,l:=q.l.set k {f with cH:=false}}:=by
  refine⟨λi j g h hg hh ep Xj=>?_,λg hg Xj hd=>?_,λg hg Xj=>?_,λg hg Xj=>?_,λg hg Xj=>?_⟩
  .have gt:∀(i:Nat) (g:Fr),(q.l.set k {f with cH:=false})[i]?=some g->∃g',q.l[i]?=some g'/\g'.au=g.au:=λi g hg=>by
    by_cases yb:i=k
    .subst yb;rw[eK hk]at hg;injection hg with hg
     exact⟨f,hf,by rw[<-hg]⟩
    .rw[fW ls]at hg;exact⟨g,hg,rfl⟩
   obtain⟨g',a1,a2⟩:=gt i g hg;obtain⟨h',b1,b2⟩:=gt j h hh;exact V.un i j g' h' a1 b1 ls ls
  .show(q.a.ao f.au f.fS.pu).1.aO g.au=_
   rcases mem_set hg with rfl|⟨i,hi,YX⟩
   .rw[hr,U8 rfl,hp]
   .rw[hr,U9 (ne i g hi YX)];exact V.cl g (ay YX) Xj hd
  .show((q.a.ao f.au f.fS.pu).1.aO g.au).2=0
   rcases mem_set hg with rfl|⟨i,hi,YX⟩
   .rw[hr,U8 rfl]
   .rw[hr,U9 (ne i g hi YX)];exact V.ex g (ay YX) Xj
  .rcases mem_set hg with rfl|⟨i,hi,YX⟩
   .rfl
   .exact V.em g (ay YX) Xj
  .rcases mem_set hg with rfl|⟨i,hi,YX⟩
   .exact V.fl f (ay hf) h0
   .exact V.fl g (ay YX) Xj
 refine⟨V',λj=>?_⟩
 rcases jA q j with h|⟨i,g,hg,rfl,Xj⟩
 .rw[fQ h,fQ (h.imp id (λh g hg=>by
   rcases mem_set hg with rfl|⟨i,hi,YX⟩
   .exact h f (ay hf)
   .exact h g (ay YX)))]
  show(q.a.ao f.au f.fS.pu).1.aO j=_;rw[hr,U9];intro e
  rcases h with h|h
  .omega
  .exact h f (ay hf) e.symm
 .rw[V.k7 hg Xj]
  by_cases yb:i=k
  .subst yb;have:g=f:=by rw[hg]at hf;injection hf
   subst this;exact V'.k7 (k:=i) (f:={g with cH:=false}) (by show(q.l.set i _)[i]?=_;rw[eK hk]) Xj
  .exact V'.k7 (k:=i) (f:=g) (by show(q.l.set k _)[i]?=_;rw[fW ls];exact hg) Xj
def Vi.swap{q:QS}(V:Vi q)(hf:q.l[k]?=some f)(hd:f.cH=false)(g:Fr)(hg:g=Fr.nil\/(0<=g.au/\g.cH=false/\(∀h∈q.l,h.au≠g.au)/\q.a.aO g.au=(g.fS.data.toList,0)/\g.fS.size=232)):
  Vi {q with l:=q.l.set k g}/\∀j,QS.vw {q with l:=q.l.set k g} j=q.vw j:=by
 have hk:=(aW.1 hf).1;have hgp:g.au<0\/0<=g.au:=ls
 have gn:g.au<0->g=Fr.nil:=λh=>hg.resolve_right (λh'=>by omega);have gp:0<=g.au->g.cH=false/\(∀h∈q.l,h.au≠g.au)/\q.a.aO g.au=(g.fS.pu,0)/\g.fS.size=232:=λh=>by
  rcases hg with rfl|hg
  .exact eq h ms
  .exact hg.2
 have V':Vi {q with l:=q.l.set k g}:=by
  refine⟨λi j f1 h1 qR hh1 ep h0=>?_,λf1 qR h0 rE=>?_,λf1 qR h0=>?_,λf1 qR h0=>?_,λf1 qR h0=>?_⟩
  .have gt:∀(i:Nat) (x:Fr),(q.l.set k g)[i]?=some x->(i=k/\x=g)\/(i≠k/\q.l[i]?=some x):=λi x hx=>by
    by_cases yb:i=k
    .subst yb;rw[eK hk]at hx;injection hx with hx
     exact .inl ⟨rfl,hx.symm⟩
    .rw[fW ls]at hx;exact .inr ⟨yb,hx⟩
   rcases gt i f1 qR with⟨rfl,rfl⟩|⟨hi,pk⟩
   .rcases gt j h1 hh1 with⟨rfl,rfl⟩|⟨hj,hj'⟩
    .rfl
    .exact eq ep.symm ((gp h0).2.1 h1 (ay hj'))
   .rcases gt j h1 hh1 with⟨rfl,rfl⟩|⟨hj,hj'⟩
    .exact eq ep ((gp ls).2.1 f1 (ay pk))
    .exact V.un i j f1 h1 pk hj' ep h0
  .rcases mem_set qR with rfl|⟨i,hi,pk⟩
   .exact(gp h0).2.2.1
   .exact V.cl f1 (ay pk) h0 rE
  .show(q.a.aO f1.au).2=0
   rcases mem_set qR with rfl|⟨i,hi,pk⟩
   .rw[(gp h0).2.2.1]
   .exact V.ex f1 (ay pk) h0
  .rcases mem_set qR with rfl|⟨i,hi,pk⟩
   .rw[gn h0];rfl
   .exact V.em f1 (ay pk) h0
  .rcases mem_set qR with rfl|⟨i,hi,pk⟩
   .exact(gp h0).2.2.2
   .exact V.fl f1 (ay pk) h0
 refine⟨V',λj=>?_⟩
 by_cases hjg:0<=g.au/\g.au=j
 .obtain⟨h0,rfl⟩:=hjg;rw[V'.k7 (k:=k) (f:=g) (by show(q.l.set k g)[k]?=_;rw[eK hk]) h0,fQ (.inr (gp h0).2.1)];exact(gp h0).2.2.1.symm
 rcases jA q j with h|⟨i,f1,qR,rfl,h0⟩
 .rw[fQ h,fQ (q:={q with l:=q.l.set k g})]
  by_cases hj:j<0
  .exact .inl hj
  .refine .inr (λf1 qR=>?_)
   rcases mem_set qR with rfl|⟨i,hi,pk⟩
   .intro e;exact hjg ⟨ls,e⟩
   .exact h.resolve_left hj f1 (ay pk)
 .rw[V.k7 qR h0]
  by_cases yb:i=k
  .subst yb;have:f1=f:=by rw[qR]at hf;injection hf
   subst this;rw[fQ (q:={q with l:=q.l.set i g}) (.inr (λx hx=>by
    rcases mem_set hx with rfl|⟨i',hi,pk⟩
    .intro e;exact hjg ⟨ls,e⟩
    .intro e;exact hi (V.un i' i x f1 pk qR e ls)))]
   exact V.cl f1 (ay qR) h0 hd
  .exact V'.k7 (k:=i) (f:=f1) (by show(q.l.set k g)[i]?=_;rw[fW ls];exact qR) h0
variable{l l':List Fr}{p:Int}{n K k:Nat}{a:St}{f:Fr}
def yW(m:Nat)(s:QS):s.gC (m+1)=if 0<(il s.l s.hand).held then s.turn.gC m else if(il s.l s.hand).used=true then QS.gC m {s.turn with l:=s.l.set s.hand {il s.l s.hand with used:=false}}else(s.turn,(s.hand:Int)):=rfl
def DY(h:findF l p= -1)(h0:0<=p):∀f∈l,f.au≠p:=by
 intro f hf e;unfold findF at h;rw[ge]at h;unfold Gl at h
 split at h
 .omega
 .rename_i hn;exact hn (Pf.2 ⟨f,hf,by simpa using e⟩)
def Qz(f:Fr):Int×Nm×Bool×Int:=(f.au,f.fS,f.cH,f.held)
def pdh_pd(e:l'.map Qz=l.map Qz):l'.map Sh.pd=l.map Sh.pd:=by
 have h:∀l:List Fr,l.map Sh.pd=(l.map Qz).map (λx=>(x.1,x.2.1,x.2.2.1)):=λl=>by rw[iQ];rfl
 rw[h,h,e]
def Mc(e:l'.map Qz=l.map Qz)(h:∀f∈l,f.held=0):∀f∈l',f.held=0:=λf hf=>by
 have:Qz f∈l.map Qz:=by rw[<-e];exact wD hf
 obtain⟨f',h1,h2⟩:=dq.1 this;have h3:f'.held=f.held:=congrArg (λx=>x.2.2.2) h2;rw[<-h3];exact h f' h1
def QA(s:QS)(hl:s.hand<s.l.length)(hh:∀f∈s.l,f.held=0):∀m,s.l.countP Fr.used<m->∃k:Nat,(s.gC m).2=k/\k<s.l.length/\(s.gC m).1.l.map Qz=s.l.map Qz:=by
 intro m
 induction m generalizing s with
 |zero=>intro h;omega
 |succ m ih=>
  intro hm;have hf:=j8 hl;have h0:=hh _ (ay hf);have ht:(s.hand+1) % s.l.length<s.l.length:=qz _ ls;rw[yW,ge]
  by_cases hu:(il s.l s.hand).used=true
  .rw[U8 hu];have Jq:(s.l.set s.hand {il s.l s.hand with used:=false}).map Qz=s.l.map Qz:=jm s.l Qz s.hand hf rfl;have hlen:(s.l.set s.hand {il s.l s.hand with used:=false}).length=s.l.length:=bR ..;have hc:(s.l.set s.hand {il s.l s.hand with used:=false}).countP Fr.used<s.l.countP Fr.used:=by
    rw[List.countP_set hl];have e:s.l[s.hand]=il s.l s.hand:=by unfold il;rw[aQ hl];rfl
    have hp:0<s.l.countP Fr.used:=List.countP_pos_iff.2 ⟨_,jR hl,by rw[e];exact hu⟩;rw[e];simp[hu];omega
   obtain⟨k,h1,h2,h3⟩:=ih {s.turn with l:=s.l.set s.hand {il s.l s.hand with used:=false}} (by rw[hlen];exact ht)
    (λf Cc=>(oJ Cc).elim (hh f) (λe=>by rw[e];exact h0)) (by show List.countP _ (s.l.set _ _)<m;omega)
   rw[hlen]at h2;exact⟨k,h1,h2,h3.trans Jq⟩
  .rw[U9 hu];exact⟨s.hand,rfl,hl,rfl⟩
def JG(s:QS)(hl:s.hand<s.l.length)(hh:∀f∈s.l,f.held=0):∃k:Nat,s.az.2=k/\k<s.l.length/\s.az.1.l.map Qz=s.l.map Qz:=by
 unfold QS.az
 rcases Dr (λf=>decide (f.au<0)) s.l with e|⟨k,f,e,hf,_⟩
 .rw[e,ge];exact QA s hl hh _ (by have:=yk (p:=Fr.used) (l:=s.l);omega)
 .rw[e,g8];exact⟨k,rfl,(aW.1 hf).1,rfl⟩
def Zc.len{c:C}(z:Zc c n a K){l:Int}(h:(a.aO l).2=0):(a.aO l).1.length=232:=by
 have hr:=z.read l;rw[yJ z.g]at hr;rw[<-hr]at h ⊢;exact LA z.g h
def ba_eta(b:Nm):(⟨b.data.toList.toArray⟩:Nm)=b:=lw
def Md{q:QS}(V:Vi q)(hf:q.l[k]?=some f)(he:f.au=p)(h0:0<=p)(h1:f.held=1)(hN:∀(i:Nat) (h:Fr),i≠k->q.l[i]?=some h->h.held=0):
  (q.fG p).1.a=q.a/\Vi (q.fG p).1/\(∀j,(q.fG p).1.vw j=q.vw j)/\∀f∈(q.fG p).1.l,f.held=0:=by
 have lQ:=(aW.1 hf).1;have e:findF q.l p=k:=by rw[<-he];exact JE hf ls (λj h hj ej=>V.un j k h f hj hf ej ls)
 have hE:(q.fG p).1={q with l:=q.l.set k {f with held:=f.held-1}}:=by
  unfold QS.fG QS.eX;rw[e,ge,show((k:Nat):Int).toNat=k by omega,hf];dsimp only;rw[ge]
 rw[hE];obtain⟨V1,w1⟩:=V.pd (q':={q with l:=q.l.set k {f with held:=f.held-1}}) rfl (jm q.l Sh.pd k hf rfl);refine⟨rfl,V1,w1,λg hg=>?_⟩
 rcases mem_set hg with rfl|⟨i,hi,pk⟩
 .show f.held-1=0;omega
 .exact hN i g hi pk
def D4{q:QS}(N:∀f∈q.l,f.held=0):q.mI=0:=by
 unfold QS.mI;rw[OU];intro f hf;rw[N f hf];decide
def Vi.setp{q:QS}(V:Vi q)(hf:q.l[k]?=some f)(h0:0<=f.au)(g:Fr)(ep:g.au=f.au)(hd:g.cH=true)(hs:g.fS.size=232):
  Vi {q with l:=q.l.set k g}/\∀j,QS.vw {q with l:=q.l.set k g} j=if j=f.au then(g.fS.data.toList,0)else q.vw j:=by
 have hk:=(aW.1 hf).1;have gt:∀(i:Nat) (x:Fr),(q.l.set k g)[i]?=some x->∃x',q.l[i]?=some x'/\x'.au=x.au:=λi x hx=>by
  by_cases yb:i=k
  .subst yb;rw[eK hk]at hx;injection hx with hx
   exact⟨f,hf,by rw[<-hx,ep]⟩
  .rw[fW ls]at hx;exact⟨x,hx,rfl⟩
 have V':Vi {q with l:=q.l.set k g}:=by
  refine⟨λi j f1 h1 qR hh1 e1 Xk=>?_,λf1 qR Xk rE=>?_,λf1 qR Xk=>?_,λf1 qR Xk=>?_,λf1 qR Xk=>?_⟩
  .obtain⟨f',a1,a2⟩:=gt i f1 qR;obtain⟨h',b1,b2⟩:=gt j h1 hh1;exact V.un i j f' h' a1 b1 ls ls
  .rcases mem_set qR with rfl|⟨i,hi,pk⟩
   .rw[hd]at rE;cases rE
   .exact V.cl f1 (ay pk) Xk rE
  .show(q.a.aO f1.au).2=0
   rcases mem_set qR with rfl|⟨i,hi,pk⟩
   .rw[ep];exact V.ex f (ay hf) h0
   .exact V.ex f1 (ay pk) Xk
  .rcases mem_set qR with rfl|⟨i,hi,pk⟩
   .omega
   .exact V.em f1 (ay pk) Xk
  .rcases mem_set qR with rfl|⟨i,hi,pk⟩
   .exact hs
   .exact V.fl f1 (ay pk) Xk
 refine⟨V',λj=>?_⟩
 by_cases hj:j=f.au
 .subst hj;rw[U8 rfl,<-ep];exact V'.k7 (k:=k) (f:=g) (by show(q.l.set k g)[k]?=_;rw[eK hk]) ls
 .rw[U9 hj]
  rcases jA q j with h|⟨i,f1,qR,rfl,Xk⟩
  .rw[fQ h,fQ (q:={q with l:=q.l.set k g}) (h.imp id (λh x hx=>by
    rcases mem_set hx with rfl|⟨i,hi,pk⟩
    .rw[ep];exact h f (ay hf)
    .exact h x (ay pk)))]
  .rw[V.k7 qR Xk];refine V'.k7 (k:=i) (f:=f1) ?_ Xk;have yb:i≠k:=λe=>by
    subst e;have:f1=f:=by rw[qR]at hf;injection hf
    exact hj (by rw[this])
   show(q.l.set k g)[i]?=_;rw[fW ls];exact qR
def D7(l:List vG):∀(k i:Nat),k6 l k<=i->i<k->(l[i]?).getD none=none
 |0,i,_,h=>eq h (lA i)
 |k+1,i,h1,h2=>by
  unfold k6 at h1
  by_cases h:((l[k]?).getD none).isSome=true
  .rw[U8 h]at h1;omega
  .rw[U9 h]at h1
   by_cases hk:i=k
   .subst hk;simpa using h
   .exact D7 l k i h1 ls
def next_at(a:St)(j:Int):({a with now:=jy a.dW,aR:=a.dW,ep:=a.ep+1}:St).at j=unfr (a.at j):=by
 unfold St.at
 by_cases h0:0<=j
 .rw[U8 h0,U8 h0];show((jy a.dW)[j.toNat]?).getD none=_;rw[YC,iM,rP]
  by_cases h:j.toNat<k6 a.now a.now.length
  .rw[U8 h]
   cases hx:a.now[j.toNat]? with
   |none=>rfl
   |some u=>rfl
  .rw[U9 h]
   by_cases hl:j.toNat<a.now.length
   .rw[D7 a.now a.now.length j.toNat ls hl];rfl
   .rw[fw ls];rfl
 .rw[U9 h0,U9 h0];rfl
def oW(a:St)(j:Int):a.an.1.aO j=a.aO j/\((a.an.1.at j).isSome=(a.at j).isSome):=by
 unfold St.an
 split
 .exact⟨rfl,rfl⟩
 .unfold St.aO;show(match St.at {a with now:=jy a.dW,aR:=a.dW,ep:=a.ep+1} j with|some (_,b)=>(b,(0:Int))|none=>([],3))=_/\(St.at {a with now:=jy a.dW,aR:=a.dW,ep:=a.ep+1} j).isSome=_;rw[next_at]
  cases a.at j with
  |none=>exact⟨rfl,rfl⟩
  |some u=>exact⟨rfl,rfl⟩
def Vi.gZ{q:QS}(V:Vi q):Vi {q with a:=q.a.an.1}/\∀j,QS.vw {q with a:=q.a.an.1} j=q.vw j:=by
 refine⟨⟨V.un,λf hf h0 hd=>?_,λf hf h0=>?_,V.em,V.fl⟩,λj=>?_⟩
 .show q.a.an.1.aO f.au=_;rw[(oW q.a _).1];exact V.cl f hf h0 hd
 .show(q.a.an.1.aO f.au).2=0;rw[(oW q.a _).1];exact V.ex f hf h0
 .unfold QS.vw;show(if 0<=findF q.l j then _ else q.a.an.1.aO j)=_;rw[(oW q.a j).1]
def QC{q:QS}(V:Vi q)(hk:k<q.l.length):
  ((q.bl k).2=0/\(q.bl k).1.a.aR=q.a.aR/\Vi (q.bl k).1/\(∀j,(q.bl k).1.vw j=q.vw j)/\∃f,(q.bl k).1.l[k]?=some f/\f.cH=false/\(q.bl k).1.l.map Fr.held=q.l.map Fr.held/\(q.bl k).1.l.map Fr.au=q.l.map Fr.au)\/q.bl k=(q,11):=by
 have hf:=j8 hk;unfold QS.bl
 by_cases hd:(il q.l k).cH=true
 .have h0:0<=(il q.l k).au:=by
   by_cases h:0<=(il q.l k).au
   .exact h
   .have:=V.em _ (ay hf) ls;rw[hd]at this;cases this
  rw[U8 hd];have hx:=V.ex _ (ay hf) h0;have hl:=V.fl _ (ay hf) h0;have hw:(q.a.ao (il q.l k).au (il q.l k).fS.data.toList).2=0/\(q.a.ao (il q.l k).au (il q.l k).fS.data.toList).1.aR=q.a.aR\/q.a.ao (il q.l k).au (il q.l k).fS.data.toList=(q.a,11):=by
   unfold St.ao;rw[U9 (by simp[hl]),U9 (by rw[xu]at hx;simp[hx])]
   split
   .exact .inr rfl
   .exact .inl ⟨rfl,rfl⟩
  rcases hw with⟨hw,ho⟩|hw
  .rw[U8 hw];obtain⟨V',hv⟩:=V.wrote hf h0 hw;exact .inl ⟨rfl,ho,V',hv,{il q.l k with cH:=false},by show(q.l.set k _)[k]?=_;rw[eK hk],rfl,jm q.l Fr.held k hf rfl,jm q.l Fr.au k hf rfl⟩
  .rw[hw,i8];exact .inr rfl
 .rw[U9 hd];exact .inl ⟨rfl,rfl,V,λj=>rfl,_,hf,by simpa using hd,rfl,rfl⟩
def QD{q:QS}(hk:k<q.l.length)(h0:(q.bl k).2=0){i:Nat}(hf:(q.bl k).1.l[i]?=some f)(hd:f.cH=true):i≠k/\q.l[i]?=some f:=by
 have Xe:=j8 hk;unfold QS.bl at h0 hf
 by_cases h1:(il q.l k).cH=true
 .rw[U8 h1]at h0 hf
  by_cases h2:(q.a.ao (il q.l k).au (il q.l k).fS.data.toList).2=0
  .rw[U8 h2]at hf;have hf:(q.l.set k {il q.l k with cH:=false})[i]?=some f:=hf
   by_cases e:i=k
   .subst e;rw[eK hk]at hf;injection hf with hf
    subst hf
    cases hd
   .rw[fW ls]at hf;exact⟨e,hf⟩
  .rw[U9 h2]at h0;exact eq h0 h2
 .rw[U9 h1]at hf;have hf:q.l[i]?=some f:=hf;refine⟨λe=>?_,hf⟩;subst e;rw[Xe]at hf;injection hf with hf
  rw[hf]at h1;exact h1 hd
def YY{q:QS}(H:Hq q n K)(V:Vi q)(N:∀f∈q.l,f.held=0)(p:Int):
  (q.aU p).1.a.aR=q.a.aR/\Vi (q.aU p).1/\(∀j,(q.aU p).1.vw j=q.vw j)/\
  (((q.vw p).2=0/\(q.aU p).2=(⟨(q.vw p).1.toArray⟩,0)/\∃(k:Nat) (f:Fr),(q.aU p).1.l[k]?=some f/\f.au=p/\0<=p/\f.held=1/\∀(i:Nat) (h:Fr),i≠k->(q.aU p).1.l[i]?=some h->h.held=0)\/
   ((q.vw p).2=3/\(q.aU p).2=(⟨#[]⟩,3)/\∀f∈(q.aU p).1.l,f.held=0)\/((q.vw p).2=0/\(q.aU p).2=(⟨#[]⟩,11)/\∀f∈(q.aU p).1.l,f.held=0)):=by
 obtain⟨c,z⟩:=H.z
 rcases gF q.l p with e|⟨k,f,e,hk,he,Gn⟩
 .have Ll:p<0\/∀f∈q.l,f.au≠p:=by
   by_cases h0:p<0
   .exact .inl h0
   .exact .inr (DY e ls)
  have hvw:=fQ (q:=q) Ll
  by_cases hr:(q.a.aO p).2≠0
  .have hE:q.aU p=(q,⟨#[]⟩,(q.a.aO p).2):=by
    unfold QS.aU;rw[e,ge,U8 hr]
   have h3:(q.a.aO p).2=3:=by
    unfold St.aO at hr ⊢
    split
    .rename_i h;rw[h]at hr;exact eq rfl hr
    .rfl
   rw[hE];exact⟨rfl,V,λj=>rfl,.inr (.inl ⟨by rw[hvw];exact h3,by rw[h3],N⟩)⟩
  have Kv:(q.a.aO p).2=0:=by simpa using hr
  obtain⟨k,v1,v2,v3⟩:=JG q H.lh N;have va:=gG q;obtain⟨V1,w1⟩:=V.pd (q':=q.az.1) va.1 (pdh_pd v3);have hkv:k<q.az.1.l.length:=ls
  rcases QC V1 hkv with⟨b1,b2,b3,b4,f,b5,b6,b7,b8⟩|hb
  .have hE:q.aU p=({(q.az.1.bl k).1 with l:=(q.az.1.bl k).1.l.set k ⟨p,⟨(q.a.aO p).1.toArray⟩,1,false,true⟩},⟨(q.a.aO p).1.toArray⟩,0):=by
    unfold QS.aU;rw[e,ge,U9 hr,v1,ge,show((k:Nat):Int).toNat=k by omega,U9 (by rw[b1];simp)]
   have Gn:0<=p:=xr Kv;have hpg:∀h∈(q.az.1.bl k).1.l,h.au≠p:=λh hh=>by
    have:h.au∈q.l.map Fr.au:=by
     have e1:q.az.1.l.map Fr.au=q.l.map Fr.au:=by
      have hx:∀l:List Fr,l.map Fr.au=(l.map Qz).map (λx=>x.1):=λl=>by rw[iQ];rfl
      rw[hx,hx,v3]
     rw[<-e1,<-b8];exact wD hh
    obtain⟨f',h1,h2⟩:=dq.1 this;rw[<-h2];exact Ll.resolve_left ls f' h1
   have hrd:(q.az.1.bl k).1.a.aO p=q.a.aO p:=by
    have h1:=(b4 p).trans (w1 p);rw[fQ (q:=(q.az.1.bl k).1) (.inr hpg),hvw]at h1;exact h1
   have hsw:=b3.swap b5 b6 ⟨p,⟨(q.a.aO p).1.toArray⟩,1,false,true⟩ (.inr ⟨Gn,rfl,hpg,by
    show(q.az.1.bl k).1.a.aO p=((q.a.aO p).1,0);rw[hrd];exact mu rfl Kv,by show(q.a.aO p).1.toArray.size=232;simpa using z.len Kv⟩)
   rw[hE];refine⟨by show(q.az.1.bl k).1.a.aR=_;rw[b2,va.1],hsw.1,λj=>((hsw.2 j).trans (b4 j)).trans (w1 j),.inl ⟨by rw[hvw];exact Kv,by rw[hvw],k,⟨p,⟨(q.a.aO p).1.toArray⟩,1,false,true⟩,?_,rfl,Gn,rfl,λi h hi hh=>?_⟩⟩
   .show(List.set _ _ _)[k]?=_;rw[eK (aW.1 b5).1]
   .have hh:(List.set (q.az.1.bl k).1.l k _)[i]?=some h:=hh;rw[fW ls]at hh;have h3:h.held∈q.az.1.l.map Fr.held:=by rw[<-b7];exact wD (ay hh)
    obtain⟨f',h4,h5⟩:=dq.1 h3;rw[<-h5];exact Mc v3 N f' h4
  .have hE:q.aU p=(q.az.1,⟨#[]⟩,11):=by
    unfold QS.aU;rw[e,ge,U9 hr,v1,ge,show((k:Nat):Int).toNat=k by omega,hb,i9]
   rw[hE];exact⟨by show q.az.1.a.aR=_;rw[va.1],V1,w1,.inr (.inr ⟨by rw[hvw];exact Kv,rfl,Mc v3 N⟩)⟩
 .have lQ:=(aW.1 hk).1;have hE:q.aU p=({q with l:=q.l.set k {f with held:=f.held+1,used:=true}},f.fS,0):=by
   unfold QS.aU;rw[e,g8,show((k:Nat):Int).toNat=k by omega,nY hk]
  have hvw:q.vw p=(f.fS.pu,0):=by rw[<-he];exact V.k7 hk ls
  obtain⟨V1,w1⟩:=V.pd (q':={q with l:=q.l.set k {f with held:=f.held+1,used:=true}}) rfl (jm q.l Sh.pd k hk rfl);rw[hE];refine⟨rfl,V1,w1,.inl ⟨by rw[hvw],by rw[hvw,ba_eta],k,{f with held:=f.held+1,used:=true},?_,he,Gn,?_,λi h hi hh=>?_⟩⟩
  .show(q.l.set k _)[k]?=_;rw[eK lQ]
  .have:=N f (ay hk);show f.held+1=1;omega
  .have hh:(q.l.set k _)[i]?=some h:=hh;rw[fW ls]at hh;exact N h (ay hh)
structure Wp(q:QS)(n K:Nat):Prop where
 H:Hq q n K
 V:Vi q
 N:∀f∈q.l,f.held=0
structure Nx(q q':QS)(n K:Nat):Prop where
 w:Wp q' n K
 o:q'.a.aR=q.a.aR
structure Nv(q q':QS)(n K:Nat):Prop extends Nx q q' n K where
 v:∀j,q'.vw j=q.vw j
section
variable{q:QS}{n K:Nat}
def Wp.more(h:Wp q n K){K':Nat}(hk:K<=K'):Wp q n K':=⟨h.H.more hk,h.V,h.N⟩
def Nv.self(h:Wp q n K):Nv q q n K:=⟨⟨h,rfl⟩,λ_=>rfl⟩
def JH(q:QS)(j:Int):(q.vw j).2=0\/q.vw j=([],3):=by
 unfold QS.vw
 split
 .exact .inl rfl
 .unfold St.aO
  split
  .exact .inl rfl
  .exact .inr rfl
def vw_pos{j:Int}(h0:(q.vw j).2=0):0<=j:=by
 unfold QS.vw at h0
 split at h0
 .rcases gF q.l j with e|⟨_,_,_,_,_,h⟩
  .omega
  .exact h
 .exact xr h0
def Wp.get(h:Wp q n K)(p:Int):Nv q (q.cF p).1 n (K+1)/\
  (((q.vw p).2=0/\(q.cF p).2=(⟨(q.vw p).1.toArray⟩,0))\/(q.vw p=([],3)/\(q.cF p).2=(⟨#[]⟩,3))\/((q.vw p).2=0/\(q.cF p).2=(⟨#[]⟩,11))):=by
 obtain⟨h1,h2,h3,h4⟩:=YY h.H h.V h.N p;have HH:=h.H.get p;unfold QS.cF at HH ⊢
 rcases h4 with⟨e0,e1,k,f,hf,he,Gn,hh,hN⟩|⟨e0,e1,e2⟩|⟨e0,e1,e2⟩
 .rw[e1,i8]at HH;rw[e1,i8];obtain⟨l1,l2,l3,l4⟩:=Md h2 hf he Gn hh hN;exact⟨⟨⟨⟨HH,l2,l4⟩,by rw[l1];exact h1⟩,λj=>(l3 j).trans (h3 j)⟩,.inl ⟨e0,rfl⟩⟩
 .rw[e1,i9]at HH;rw[e1,i9];exact⟨⟨⟨⟨HH,h2,e2⟩,h1⟩,h3⟩,.inr (.inl ⟨(JH q p).resolve_left ls,rfl⟩)⟩
 .rw[e1,i9]at HH;rw[e1,i9];exact⟨⟨⟨⟨HH,h2,e2⟩,h1⟩,h3⟩,.inr (.inr ⟨e0,rfl⟩)⟩
def Wp.put(h:Wp q n K)(p:Int)(b:Nm)(hb:b.size<=232):Nx q (q.dh p b).1 n (K+1)/\
  (((q.vw p).2=0/\(q.dh p b).2=0/\∀j,(q.dh p b).1.vw j=if j=p then(ff b.data.toList 232,0)else q.vw j)\/(q.vw p=([],3)/\(q.dh p b).2=3/\∀j,(q.dh p b).1.vw j=q.vw j)\/((q.vw p).2=0/\(q.dh p b).2=11/\∀j,(q.dh p b).1.vw j=q.vw j)):=by
 obtain⟨h1,h2,h3,h4⟩:=YY h.H h.V h.N p;have HH:=h.H.put_ p b;unfold QS.dh at HH ⊢;rw[ge]at HH ⊢
 rcases h4 with⟨e0,e1,k,f,hf,he,Gn,hh,hN⟩|⟨e0,e1,e2⟩|⟨e0,e1,e2⟩
 .rw[e1,i8]at HH ⊢;have lQ:=(aW.1 hf).1;have e:findF (q.aU p).1.l p=k:=by
   have e:=JE hf ls (λj h hj ej=>h2.un j k h f hj hf ej ls);rw[he]at e;exact e
  have hE:((q.aU p).1.eP p b).1={(q.aU p).1 with l:=(q.aU p).1.l.set k {f with fS:=mX b,cH:=true,used:=true}}:=by
   unfold QS.eP QS.eX;rw[ge,e,ge,show((k:Nat):Int).toNat=k by omega,hf];dsimp only;rw[ge]
  have Jq:=h2.setp hf ls {f with fS:=mX b,cH:=true,used:=true} rfl rfl (qO ls);have hlet:=Md (q:=((q.aU p).1.eP p b).1) (by rw[hE];exact Jq.1) (p:=p) (k:=k) (f:={f with fS:=mX b,cH:=true,used:=true}) (by rw[hE];show(List.set _ _ _)[k]?=_;rw[eK lQ]) he Gn hh (λi h hi hx=>by
   rw[hE]at hx;have hx:(List.set (q.aU p).1.l k _)[i]?=some h:=hx;rw[fW ls]at hx;exact hN i h hi hx)
  obtain⟨l1,l2,l3,l4⟩:=hlet;refine⟨⟨⟨HH,l2,l4⟩,by rw[l1,hE];exact h1⟩,.inl ⟨e0,rfl,λj=>?_⟩⟩;rw[l3 j,hE,Jq.2 j,he]
  by_cases hj:j=p
  .rw[U8 hj,U8 hj];rfl
  .rw[U9 hj,U9 hj];exact h3 j
 .rw[e1,i9]at HH ⊢;exact⟨⟨⟨HH,h2,e2⟩,h1⟩,.inr (.inl ⟨(JH q p).resolve_left ls,rfl,h3⟩)⟩
 .rw[e1,i9]at HH ⊢;exact⟨⟨⟨HH,h2,e2⟩,h1⟩,.inr (.inr ⟨e0,rfl,h3⟩)⟩
def Wp.pR(h:Wp q n K)(i:Int):Nv q (q.dk i).1 n (K+1)/\((q.dk i).2=0\/(q.dk i).2=3\/(q.dk i).2=11):=by
 have HH:=h.H.pR i;unfold QS.dk at HH ⊢
 split
 .exact⟨.self (h.more (by omega)),.inr (.inl rfl)⟩
 .split
  .exact⟨.self (h.more (by omega)),.inl rfl⟩
  .split
   .rename_i hi _ h3;have:=h.N _ (ay (j8 (l:=q.l) (k:=i.toNat) (by omega)));omega
   .rename_i hi hp h3;rw[U9 hi,U9 hp,U9 h3]at HH
    rcases QC h.V (k:=i.toNat) (by omega)with⟨b1,b2,b3,b4,f,b5,b6,b7,b8⟩|hb
    .rw[U9 (by rw[b1];simp)]at HH ⊢;have hsw:=b3.swap b5 b6 Fr.nil (.inl rfl);refine⟨⟨⟨⟨HH,hsw.1,λg hg=>?_⟩,b2⟩,λj=>(hsw.2 j).trans (b4 j)⟩,.inl rfl⟩
     rcases mem_set hg with rfl|⟨i',hi1,Ti⟩
     .rfl
     .have h3:g.held∈q.l.map Fr.held:=by rw[<-b7];exact wD (ay Ti)
      obtain⟨f',h4,h5⟩:=dq.1 h3;rw[<-h5];exact h.N f' h4
    .rw[hb,i9];exact⟨.self (h.more (by omega)),.inr (.inr rfl)⟩
def Wp.lJ(h:Wp q n K):∀i,i<=q.l.length->Nv q (q.aN i).1 n (K+i)/\((q.aN i).2=0\/(q.aN i).2=11)/\(q.aN i).1.l.length=q.l.length
 |0,_=>⟨.self h,.inl rfl,rfl⟩
 |i+1,hi=>by
  obtain⟨h1,h2,h3⟩:=h.lJ i (by omega);have HH:=(h.H.lJ (i+1) hi).1;rw[lI]at HH ⊢
  rcases h2 with h2|h2
  .rw[U9 (by rw[h2];simp)]at HH ⊢
   rcases QC h1.w.V (k:=i) (by omega)with⟨b1,b2,b3,b4,f,b5,b6,b7,b8⟩|hb
   .refine⟨⟨⟨⟨HH,b3,λg hg=>?_⟩,by rw[b2];exact h1.o⟩,λj=>(b4 j).trans (h1.v j)⟩,.inl b1,?_⟩
    .have h6:g.held∈(q.aN i).1.l.map Fr.held:=by rw[<-b7];exact wD hg
     obtain⟨f',h7,h8⟩:=dq.1 h6;rw[<-h8];exact h1.w.N f' h7
    .have:=congrArg List.length b8;simp only[eZ]at this;omega
   .rw[hb]at HH ⊢;exact⟨⟨⟨⟨HH,h1.w.V,h1.w.N⟩,h1.o⟩,h1.v⟩,.inr rfl,h3⟩
  .rw[U8 (by rw[h2];simp)]at HH ⊢;exact⟨⟨⟨⟨HH,h1.w.V,h1.w.N⟩,h1.o⟩,h1.v⟩,.inr h2,h3⟩
def Wp.Tr(h:Wp q n K):∀i,i<=q.l.length->(q.aN i).2=0->∀(j:Nat) (f:Fr),(q.aN i).1.l[j]?=some f->f.cH=true->i<=j
 |0,_,_,_,_,_,_=>bG _
 |i+1,hi,h0,j,f,hf,hd=>by
  rw[lI]at h0 hf
  by_cases h2:(q.aN i).2=0
  .rw[U9 (by rw[h2];simp)]at h0 hf;obtain⟨a1,a2⟩:=QD (by rw[(h.lJ i ls).2.2];omega) h0 hf hd;have:=h.Tr i ls h2 j f a2 hd;omega
  .rw[U8 h2]at h0;exact eq h0 h2
def QS.ov(q:QS)(j:Int):UV×Int:=({q.a with now:=jy q.a.aR}:St).aO j
def Hd{q q':QS}(h:q'.a.aR=q.a.aR)(j:Int):q'.ov j=q.ov j:=by
 unfold QS.ov St.aO St.at;rw[h]
def Wp.gZ(h:Wp q n K)(hK:K<=999999999000):Wp q.an.1 n (K+40)/\(∀j,q.an.1.vw j=q.vw j)/\
  ((q.an.2=0/\∀j,q.an.1.ov j=q.vw j)\/(q.an.2=11/\∀j,q.an.1.ov j=q.ov j)):=by
 obtain⟨h1,h2,h3⟩:=h.lJ q.l.length (ai _);have l2:=h.H.l2;have HH:=h.H.gZ hK;unfold QS.an at HH ⊢;rw[U9 (by rw[D4 h.N];omega)]at HH ⊢
 rcases h2 with h2|h2
 .rw[U9 (by rw[h2];simp)]at HH ⊢;obtain⟨c1,c2⟩:=h1.w.V.gZ;refine⟨⟨HH,c1,h1.w.N⟩,λj=>(c2 j).trans (h1.v j),?_⟩;have Bg:=h.Tr _ (ai _) h2;generalize hb:(q.aN q.l.length).1=r at *
  by_cases hf:r.a.free<cd r.a.dW.length
  .right;have e:r.a.an=(r.a,11):=by unfold St.an;rw[U8 hf]
   rw[e];exact⟨rfl,λj=>Hd h1.o j⟩
  .left;have e:r.a.an=({r.a with now:=jy r.a.dW,aR:=r.a.dW,ep:=r.a.ep+1},0):=by unfold St.an;rw[U9 hf]
   refine⟨by rw[e],λj=>?_⟩;have e2:QS.ov {r with a:=r.a.an.1} j=r.a.an.1.aO j:=by
    rw[e];rfl
   show QS.ov {r with a:=r.a.an.1} j=_;rw[e2,(oW r.a j).1,<-h1.v j]
   rcases jA r j with ho|⟨k,f,hk,rfl,hp⟩
   .rw[fQ ho]
   .rw[h1.w.V.k7 hk hp];refine h1.w.V.cl f (ay hk) hp ?_
    by_cases hd:f.cH=true
    .have:=Bg k f hk hd;have:=(aW.1 hk).1;omega
    .simpa using hd
 .rw[U8 (by rw[h2];simp)]at HH ⊢;exact⟨(⟨HH,h1.w.V,h1.w.N⟩),h1.v,.inr ⟨h2,λj=>Hd h1.o j⟩⟩
def Wp.abort(h:Wp q n K):Wp q.bt n K/\(∀j,q.bt.vw j=q.ov j)/\∀j,q.bt.ov j=q.ov j:=by
 have hn:∀f∈q.bt.l,f=Fr.nil:=λf hf=>jQ hf;have hp:∀f∈q.bt.l,¬0<=f.au:=λf hf=>by rw[hn f hf];show ¬(0:Int)<= -1;omega
 refine⟨⟨h.H.abort,⟨λi j f g hi hj e h0=>eq h0 (hp f (ay hi)),λf hf h0=>eq h0 (hp f hf),λf hf h0=>eq h0 (hp f hf),λf hf _=>by rw[hn f hf];rfl,λf hf h0=>eq h0 (hp f hf)⟩,λf hf=>by rw[hn f hf];rfl⟩,λj=>?_,λj=>rfl⟩
 by_cases hj:j<0
 .rw[fQ (.inl hj)];rfl
 .rw[fQ (.inr λf hf e=>hp f hf ls)];rfl
def at_put'(v:Option (Bool×UV))(q:Int):({a with now:=qK a.now a.slot v}:St).at q=if q=(a.slot:Nat)then v else a.at q:=by
 unfold St.at
 by_cases h0:0<=q
 .rw[U8 h0];show((qK a.now a.slot v)[q.toNat]?).getD none=_;rw[pK _ _ _ (slot_le a)]
  by_cases e:q=(a.slot:Nat)
  .rw[U8 e,g8];rfl
  .rw[U9 e,ge,U8 h0]
 .rw[U9 h0,ge,U9 h0]
def vw_new{p:UV}(h:(a.bE p).2.2=0):∃l:Nat,(a.bE p).2.1=l/\l<=511/\a.at (l:Nat)=none/\∀j,(a.bE p).1.aO j=if j=(l:Nat)then(ff p 232,0)else a.aO j:=by
 unfold St.bE at h ⊢
 split at h
 .exact eq h (by show(4:Int)≠0;decide)
 .rename_i h1;rw[U9 h1]
  split at h
  .exact eq h (by show(11:Int)≠0;decide)
  .rename_i h2;rw[U9 h2];refine⟨a.slot,rfl,ls,UT a,λj=>?_⟩;unfold St.aO;rw[at_put']
   by_cases e:j=(a.slot:Nat)
   .rw[U8 e,U8 e]
   .rw[U9 e,U9 e]
def Wp.new(h:Wp q n K)(p:Nm)(hb:p.size<=232):Nx q (q.bE p.data.toList).1 n (K+1)/\
  ((∃l:Nat,(q.bE p.data.toList).2=(((l:Nat):Int),0)/\l<=511/\q.vw (l:Nat)=([],3)/\∀j,(q.bE p.data.toList).1.vw j=if j=(l:Nat)then(ff p.data.toList 232,0)else q.vw j)\/((q.bE p.data.toList).2=(0,11)/\∀j,(q.bE p.data.toList).1.vw j=q.vw j)):=by
 have HH:=h.H.new p.data.toList;unfold QS.bE at HH ⊢
 by_cases h0:(q.a.bE p.data.toList).2.2=0
 .obtain⟨l,e1,e2,e3,e4⟩:=vw_new h0;have hr:∀f∈q.l,0<=f.au->f.au≠(l:Nat):=λf hf h0 e=>by
   have:=h.V.ex f hf h0;unfold St.aO at this;rw[e,e3]at this;exact eq this (by show(3:Int)≠0;decide)
  have hl:q.vw (l:Nat)=([],3):=by
   rw[fQ (.inr λf hf e=>hr f hf (by omega) e)];unfold St.aO;rw[e3]
  have V':Vi {q with a:=(q.a.bE p.data.toList).1}:=⟨h.V.un,λf hf h0 hd=>by show(q.a.bE _).1.aO _=_;rw[e4,U9 (hr f hf h0)];exact h.V.cl f hf h0 hd,λf hf h0=>by show((q.a.bE _).1.aO _).2=_;rw[e4,U9 (hr f hf h0)];exact h.V.ex f hf h0,h.V.em,h.V.fl⟩;refine⟨⟨⟨HH,V',h.N⟩,?_⟩,.inl ⟨l,mu e1 h0,e2,hl,λj=>?_⟩⟩
  .show(q.a.bE _).1.aR=_;unfold St.bE
   split
   .rfl
   .split<;>rfl
  .rcases jA q j with ho|⟨k,f,hk,rfl,hp⟩
   .rw[fQ (q:={q with a:=(q.a.bE p.data.toList).1}) ho,fQ ho];exact e4 j
   .rw[U9 (hr f (ay hk) hp),h.V.k7 hk hp];exact V'.k7 hk hp
 .have e:q.a.bE p.data.toList=(q.a,0,11):=by
   unfold St.bE at h0 ⊢;have hl:¬232<p.data.toList.length:=by simp;omega
   rw[U9 hl]at h0 ⊢
   split
   .rfl
   .rename_i h1;rw[U9 h1]at h0;exact eq rfl h0
  rw[e]at HH ⊢;exact⟨⟨⟨HH,h.V,h.N⟩,rfl⟩,.inr ⟨rfl,λ_=>rfl⟩⟩
def Vp{l:Int}(h:(a.at l).isSome=true)(j:Int):(a.aF l).1.aO j=if j=l then([],3)else a.aO j:=by
 obtain⟨h0,h1⟩:=pS h;have hat:(a.aF l).1.at j=if j=l then none else a.at j:=by
  unfold St.aF;rw[U8 h];unfold St.at
  by_cases hj:0<=j
  .rw[U8 hj,U8 hj];show((a.now.set l.toNat none)[j.toNat]?).getD none=_
   by_cases e:j=l
   .subst e;rw[U8 rfl,eK h1];rfl
   .rw[U9 e,fW ls]
  .rw[U9 hj,ge,U9 hj]
 unfold St.aO;rw[hat]
 by_cases e:j=l
 .rw[U8 e,U8 e]
 .rw[U9 e,U9 e]
def Wp.drop(h:Wp q n K)(p:Int):Nx q (q.aF p).1 n K/\
  (((q.vw p).2=0/\(q.aF p).2=0/\∀j,(q.aF p).1.vw j=if j=p then([],3)else q.vw j)\/(q.vw p=([],3)/\(q.aF p).2=3/\∀j,(q.aF p).1.vw j=q.vw j)):=by
 have HH:=h.H.drop p;have hold:(q.a.aF p).1.aR=q.a.aR:=by unfold St.aF;split<;>rfl
 unfold QS.aF at HH ⊢;have hnh:¬(0<=findF q.l p/\0<(il q.l (findF q.l p).toNat).held):=λ⟨h1,h2⟩=>by
  rcases gF q.l p with e|⟨k,f,e,hk,_,_⟩
  .omega
  .rw[e,show((k:Nat):Int).toNat=k by omega,nY hk,h.N f (ay hk)]at h2;omega
 rw[U9 hnh]at HH ⊢
 by_cases hx:(q.a.at p).isSome=true
 .have e0:(q.a.aF p).2=0:=by unfold St.aF;rw[U8 hx]
  have hr:=Vp hx;rw[U9 (by rw[e0];simp)]at HH ⊢
  rcases gF q.l p with e|⟨k,f,e,hk,he,Gn⟩
  .rw[e,ge]at HH ⊢;have Gn:=(pS hx).1;have Ll:=DY e Gn;have hv:q.vw p=q.a.aO p:=fQ (.inr Ll);have V':Vi {q with a:=(q.a.aF p).1}:=⟨h.V.un,λf hf h0 hd=>by show(q.a.aF p).1.aO _=_;rw[hr,U9 (Ll f hf)];exact h.V.cl f hf h0 hd,λf hf h0=>by show((q.a.aF p).1.aO _).2=_;rw[hr,U9 (Ll f hf)];exact h.V.ex f hf h0,h.V.em,h.V.fl⟩;refine⟨⟨⟨HH,V',h.N⟩,hold⟩,.inl ⟨by rw[hv];exact xu.2 hx,rfl,λj=>?_⟩⟩
   rcases jA q j with ho|⟨i,f,hi,rfl,hp⟩
   .rw[fQ (q:={q with a:=(q.a.aF p).1}) ho,fQ ho];exact hr j
   .rw[U9 (Ll f (ay hi)),h.V.k7 hi hp];exact V'.k7 hi hp
  .rw[e,g8,show((k:Nat):Int).toNat=k by omega]at HH ⊢;have lQ:=(aW.1 hk).1;have hv:q.vw p=(f.fS.pu,0):=by rw[<-he];exact h.V.k7 hk ls
   have ne:∀(i:Nat) (g:Fr),i≠k->q.l[i]?=some g->0<=g.au->g.au≠p:=λi g hi hg h0 e=>hi (h.V.un i k g f hg hk ls h0);have aR:∀g∈q.l.set k Fr.nil,0<=g.au->g∈q.l/\g.au≠p:=λg hg h0=>by
    rcases mem_set hg with rfl|⟨i,hi,pk⟩
    .exact eq h0 (by show ¬(0:Int)<= -1;omega)
    .exact⟨ay pk,ne i g hi pk h0⟩
   have V':Vi {q with a:=(q.a.aF p).1,l:=q.l.set k Fr.nil}:=by
    refine⟨λi j f1 h1 hi hj ee h0=>?_,λg hg h0 hd=>?_,λg hg h0=>?_,λg hg h0=>?_,λg hg h0=>h.V.fl g (aR g hg h0).1 h0⟩
    .have gt:∀(i:Nat) (x:Fr),(q.l.set k Fr.nil)[i]?=some x->0<=x.au->q.l[i]?=some x:=λi x hx h0=>by
      by_cases yb:i=k
      .subst yb;rw[eK lQ]at hx;injection hx with hx
       subst hx;exact eq h0 (by show ¬(0:Int)<= -1;omega)
      .rw[fW ls]at hx;exact hx
     exact h.V.un i j f1 h1 (gt i f1 hi h0) (gt j h1 hj ls) ee h0
    .obtain⟨o1,o2⟩:=aR g hg h0;show(q.a.aF p).1.aO _=_;rw[hr,U9 o2];exact h.V.cl g o1 h0 hd
    .obtain⟨o1,o2⟩:=aR g hg h0;show((q.a.aF p).1.aO _).2=_;rw[hr,U9 o2];exact h.V.ex g o1 h0
    .rcases mem_set hg with rfl|⟨i,hi,pk⟩
     .rfl
     .exact h.V.em g (ay pk) h0
   refine⟨⟨⟨HH,V',λg hg=>?_⟩,hold⟩,.inl ⟨by rw[hv],rfl,λj=>?_⟩⟩
   .rcases mem_set hg with rfl|⟨i,hi,pk⟩
    .rfl
    .exact h.N g (ay pk)
   .by_cases hj:j=p
    .subst hj;rw[U8 rfl,fQ (q:={q with a:=(q.a.aF j).1,l:=q.l.set k Fr.nil}) (.inr λg hg e=>(aR g hg ls).2 e)];show(q.a.aF j).1.aO j=_;rw[hr,U8 rfl]
    .rw[U9 hj]
     rcases jA q j with ho|⟨i,g,hi,rfl,hp⟩
     .have ho':j<0\/∀g∈q.l.set k Fr.nil,g.au≠j:=by
       by_cases hj0:j<0
       .exact .inl hj0
       .refine .inr λg hg=>?_
        rcases mem_set hg with rfl|⟨i,hi,pk⟩
        .show(-1:Int)≠j;omega
        .exact ho.resolve_left hj0 g (ay pk)
      rw[fQ ho,fQ (q:={q with a:=(q.a.aF p).1,l:=q.l.set k Fr.nil}) ho'];show(q.a.aF p).1.aO j=_;rw[hr,U9 hj]
     .rw[h.V.k7 hi hp];refine V'.k7 (k:=i) ?_ hp;show(q.l.set k Fr.nil)[i]?=_;rw[fW]
      .exact hi
      .rintro rfl;rw[hk]at hi;injection hi with hi
       subst hi;exact hj he
 .have Ou:(q.a.aF p)=(q.a,3):=by unfold St.aF;rw[U9 hx]
  have YZ:(q.a.aO p).2≠0:=λh=>hx (xu.1 h);rw[Ou,i9]at HH ⊢;refine⟨⟨⟨HH,h.V,h.N⟩,rfl⟩,.inr ⟨?_,rfl,λ_=>rfl⟩⟩;refine(JH q p).resolve_left (λh0=>?_)
  rcases jA q p with ho|⟨i,g,hi,rfl,hp⟩
  .rw[fQ ho]at h0;exact YZ h0
  .exact YZ (h.V.ex g (ay hi) hp)
end
open Go.RowKit Go.Sort Go.Shelf
variable{w:BY}
def Me:Go.Shelf.Ren:=⟨fun|189=>190|125=>224|257=>223|128=>240|129=>241|294=>231|295=>232|296=>233|297=>234|298=>235|299=>236|216=>237|300=>238|301=>239|328=>246|329=>247|330=>248|331=>249|332=>250|215=>251|343=>254|n=>n,fun|28=>60|3=>3|46=>201|0=>0|51=>259|53=>222|4=>4|183=>288|182=>287|131=>121|5=>5|9=>9|218=>298|222=>128|228=>305|229=>306|n=>n,fun|n=>n⟩
def Ts:Go.Proofs.Lays.n189 prog Me:={
 mixed:=pm
 f125:=func224.trans (congrArg some pm)
 f128:=func240.trans (congrArg some pm)
 f129:=func241.trans (congrArg some pm)
 f189:=func190.trans (congrArg some pm)
 f215:=func251.trans (congrArg some pm)
 f216:=func237.trans (congrArg some pm)
 f257:=func223.trans (congrArg some pm)
 f294:=func231.trans (congrArg some pm)
 f295:=func232.trans (congrArg some pm)
 f296:=func233.trans (congrArg some pm)
 f297:=func234.trans (congrArg some pm)
 f298:=func235.trans (congrArg some pm)
 f299:=func236.trans (congrArg some pm)
 f300:=func238.trans (congrArg some pm)
 f301:=func239.trans (congrArg some pm)
 f328:=func246.trans (congrArg some pm)
 f329:=func247.trans (congrArg some pm)
 f330:=func248.trans (congrArg some pm)
 f331:=func249.trans (congrArg some pm)
 f332:=func250.trans (congrArg some pm)
 f343:=func254.trans (congrArg some pm)
 t0:=underlying0
 a0:=Tryz.isAgg0
 z0:=Tryz.sizeOf0
 v0:=Tryz.zeroValue0
 t3:=underlying3
 a3:=Tryz.isAgg3
 z3:=Tryz.sizeOf3
 v3:=Tryz.zeroValue3
 t4:=underlying4
 a4:=Tryz.isAgg4
 z4:=Tryz.sizeOf4
 v4:=Tryz.zeroValue4
 t5:=underlying5
 a5:=Tryz.isAgg5
 z5:=Tryz.sizeOf5
 v5:=Tryz.zeroValue5
 t9:=underlying9
 a9:=Tryz.isAgg9
 z9:=Tryz.sizeOf9
 v9:=Tryz.zeroValue9
 t28:=underlying60
 a28:=Tryz.isAgg60
 z28:=Tryz.sizeOf60
 v28:=Tryz.zeroValue60
 t46:=underlying201
 a46:=Tryz.isAgg201
 z46:=Tryz.sizeOf201
 v46:=Tryz.zeroValue201
 t51:=underlying259
 a51:=Tryz.isAgg259
 z51:=Tryz.sizeOf259
 v51:=Tryz.zeroValue259
 t53:=underlying222
 a53:=Tryz.isAgg222
 z53:=Tryz.sizeOf222
 v53:=Tryz.zeroValue222
 t131:=underlying121
 a131:=Tryz.isAgg121
 z131:=Tryz.sizeOf121
 v131:=Tryz.zeroValue121
 t182:=underlying287
 a182:=Tryz.isAgg287
 z182:=Tryz.sizeOf287
 v182:=Tryz.zeroValue287
 t183:=underlying288
 a183:=Tryz.isAgg288
 z183:=Tryz.sizeOf288
 v183:=Tryz.zeroValue288
 t218:=underlying298
 a218:=Tryz.isAgg298
 z218:=Tryz.sizeOf298
 v218:=Tryz.zeroValue298
 t222:=underlying128
 a222:=Tryz.isAgg128
 z222:=Tryz.sizeOf128
 v222:=Tryz.zeroValue128
 t228:=underlying305
 a228:=Tryz.isAgg305
 z228:=Tryz.sizeOf305
 v228:=Tryz.zeroValue305
 t229:=underlying306
 a229:=Tryz.isAgg306
 z229:=Tryz.sizeOf306
 v229:=Tryz.zeroValue306}
def D8(l:List Int):List Int:=l.mergeSort λx y=>decide (x<=y)
def ug(l:List Int):(D8 l).length=l.length:=by unfold D8;simp
def Y0(g cap:Nat)(zs:List Int)(w:BY)(hH:Holds (Value.int U6) w g 0 zs.toArray)(hblk:g<w.heap.size)(pC:zs.length<4611686018427387904):
  io prog 190 #[U3 (lc g) zs.length cap] w λe w'=>e=fd (rg #[])/\∃n os,w'=grow (putRow (Value.int U6) (Sort.ahead w n) g 0 (D8 zs).toArray) os:=
 Any.slices_Sort_int Ts g 0 cap zs w hH hblk pC
def Vq(p:Option Addr)(cap:Nat)(w:BY):
  io prog 190 #[U3 p 0 cap] w λe w'=>e=fd (rg #[])/\w'=w:=
 Any.slices_Sort_int_none Ts p cap w
def Mf{g n:Nat}{os:Array Obj}(d:Array Int):ah [g] w (grow (putRow (Value.int U6) (Sort.ahead w n) g 0 d) os):=by
 refine⟨rfl,rfl,rfl,lw,λk hk fy=>?_⟩;rw[heap_grow_old _ _ (by simpa using hk)];have:g≠k:=λe=>fy (by simp[e]);simp[putRow,mapBlock,Sort.ahead,Array.getElem?_modify,this]
def JI(ts:List Int)(cur rest:List By)(h:ts.length=cur.length):putCells (Value.int U6) 0 ts.toArray (cur++rest).toArray=(ts.map (Value.int U6)++rest).toArray:=by
 apply Array.ext_getElem?;intro j;unfold putCells;rw[Array.getElem?_mapIdx,dr,dr]
 by_cases hc:j<ts.length
 .rw[bX ls,bX (by simpa using hc),iM,aQ hc,aQ (show j<cur.length by omega)];simp[hc]
 .rw[eC ls,eC (by simp;omega),eZ,h]
  cases rest[j-cur.length]? with
  |none=>rfl
  |some x=>
   simp only[mr];rw[U9 (by simp;omega)]
def Y1{v:By}{l:List Int}(S:bm w 3 1 v l.length (di l))(hl:l.length<=1000000):
  io prog 190 #[v] w λe w'=>e=fd (rg #[])/\bm w' 3 1 v l.length (di (D8 l))/\ah (ak v) w w':=by
 rcases S.2 with⟨rfl,h0⟩|⟨g,cap,rest,rfl,B,hc,hm⟩
 .rw[h0];have Lm:l=[]:=IZ.1 h0;subst Lm;go_call (Vq none 0 w) as e w' ⟨rfl,rfl⟩;exact⟨rfl,by simpa [D8,di]using bm.nil w' 3 1,ah.refl _ _⟩
 .obtain⟨lo,hi,hb,hf⟩:=B;have hB:aM w g 3 (di l++rest).toArray:=⟨lo,hi,hb,hf⟩;have hn:(di l).length=l.length:=by unfold di;simp
  have hH:Holds (Value.int U6) w g 0 l.toArray:=by
   intro j hj;have hj':j<l.length:=by simpa using hj
   refine⟨?_,?_⟩
   .rw[bV];refine hB.ae ?_;rw[dr,bX (by rw[hn];exact hj')];simp[di,hj']
   .rw[bV];exact hB.frozen j (by simp[hn];omega)
  go_call (Y0 g cap l w hH (Array.getElem?_eq_some_iff.1 hb).1 ls) as e w' ⟨rfl,n,os,rfl⟩;refine⟨rfl,⟨by unfold di;simp[ug],.inr ⟨g,cap,rest,rfl,⟨lo,hi,?_,?_⟩,by unfold di at hc ⊢;simpa [ug]using hc,hm⟩⟩,?_⟩
  .rw[heap_sortedI _ hb,JI _ _ _ (by rw[hn,ug])];rfl
  .simpa [di,ug]using hf
  .simpa [ak]using Mf (w:=w) (g:=g) (n:=n) (os:=os) (D8 l).toArray
attribute [local go_sem ↓] bP
variable{w:BY}{y:Y}{n:Nat}{s:PS}
def He(l:List Fr):List Int:=(l.map Fr.au).filter λx=>decide (0<=x)
def Y2(l:List Fr)(i:Nat)(f:Fr)(hf:l[i]?=some f):He (l.take (i+1))=if 0<=f.au then He (l.take i)++[f.au]else He (l.take i):=by
 obtain⟨hi,rfl⟩:=aW.1 hf;unfold He;rw[ij hi,eS,yo]
 by_cases h:0<=l[i].au
 .rw[U8 h];simp[h]
 .rw[U9 h];simp[h]
def pgL_len(l:List Fr):(He l).length<=l.length:=by
 unfold He;exact aD (I0 _ _) lw
def QE(h:ju w y n s):
  io prog 146 #[pp y.pb] w λe w'=> ∃v,e=fd v/\bm w' 3 1 v (He s.l).length (di (D8 (He s.l)))/\i7 w w':=by
 have H0:=xh h;have p1:w.cell? ⟨y.pb,1,none⟩=some (U3 (lc y.fg) s.l.length y.cp):=h.p1;have HL:=xh (show ∀i,(He (s.l.take i)).length<=32 from λi=>by
  have:=pgL_len (s.l.take i);have:=h.l2;rw[bY]at *;omega)
 obtain⟨N,hN⟩:∃N,s.l.length=N:=⟨_,rfl⟩;have HN:=xh hN;have HT:=g9 (He (s.l.take N)=He s.l) (by rw[<-hN,ig]);have PU:N<=32:=by rw[<-hN];exact h.l2
 rw[hN]at p1;have HF:=xh h.Cb;clear h hN H0;unfold pp;go_in;go_wp2_with fail
 go_loopw [3,5,14] (λpv _ iv wq=> ∃i:Nat,i<=N/\iv=U5 U6 i/\bm wq 3 1 pv (He (s.l.take i)).length (di (He (s.l.take i)))/\Hid (i7 w wq)/\Hid (∀g∈ak pv,w.heap.size<=g)) (λ_ _ iv _=>N-(intOf iv).toNat)
 case atStart=>exact⟨0,bG _,rfl,bm.nil _ _ _,xh (Below.refl _ _),xh (by simp[ak])⟩
 case round=>
  obtain⟨i,hi,rfl,S,O,F⟩:=hrel;obtain⟨VA,vc,rfl⟩:=aI S
  by_cases h':i<N
  .have hI:(i:Int)<(N:Int):=ls
   obtain⟨f,HG⟩:∃f,Hid (s.l[i]?=some f):=⟨_,xh (aQ (by rw[HN.o];exact h'))⟩;obtain⟨c0,c1,c2,c3,c4⟩:=(HF.o.below O.o) i f HG.o;have hm:=HL.o i;have Tn:=Y2 s.l i f HG.o;have S5:=S.alloc (Pi #[f.au,U7 f.fS,f.held,WF f.cH,WF f.used] 167);have O5:=xh<|ag O.o (Pi #[f.au,U7 f.fS,f.held,WF f.cH,WF f.used] 167)
   have d0:=(aM.new wr 167 #[f.au,U7 f.fS,f.held,WF f.cH,WF f.used]).ae (i:=0) rfl
   by_cases hp:0<=f.au
   .rw[U8 hp]at Tn;obtain⟨v',w2,ea,S2,ow,fr⟩:=gw (P:=prog) S5 60 60 (U5 U6 0) 8 underlying60 kX rfl f.au rfl (by unfold maxLen;omega) ls;obtain⟨V2,nc,rfl⟩:=aI S2;rw[show(wr.alloc (Pi #[f.au,U7 f.fS,f.held,WF f.cH,WF f.used] 167)).heap.size=wr.heap.size+1 from by simp]at ea;have EA:=xh ea
    have SX:=xh (show bm w2 3 1 (U3 V2 ((He (s.l.take i)).length+1) nc) (He (s.l.take (i+1))).length (di (He (s.l.take (i+1))))from by
     rw[Tn,gS,bC];exact S2)
    have OX:=xh<|O5.o.trans (ow.bI O5.o.size F.o);have FX:=g9 (∀g'∈ak (U3 V2 ((He (s.l.take i)).length+1) nc),w.heap.size<=g') (λg' hg=>(fr g' hg).elim (F.o g') (λh=>aD O5.o.size h));clear ea S2 ow fr S S5 Tn;generalize (He (s.l.take i)).length=pl at *;go_wp2_with fail;rw[EA.o];go_wp2;go_roundw
    case rel=>exact⟨i+1,ls,by go_num,SX.o,OX,FX⟩
    case measure=>simp[intOf];omega
   .rw[U9 hp]at Tn;have SX:=xh S5;have HX:=xh Tn;clear S S5 Tn;go_wp2;go_roundw
    case rel=>exact⟨i+1,ls,by go_num,by rw[HX.o];exact SX.o,O5,F⟩
    case measure=>simp[intOf];omega
  .obtain rfl:N=i:=ls
   have Ca:=HL.o N;have KS:=xh<|Y1 S ls;clear S;go_wp2_with fail;go_call KS.o as e w5 ⟨rfl,S5,o5⟩;have SX:=xh S5;have OX:=xh<|O.o.trans (o5.bI O.o.size F.o);clear S5 o5;go_wp2;go_ret;exact⟨_,by first|rfl|simp,by have h:=SX.o;rw[HT.o]at h ⊢;exact h,OX.o⟩
def QF(h:ju w y n s):
  io prog 98 #[pp y.pb] w λe w'=>e=fd (rg #[(s.l.length:Nat),((He s.l).length:Nat),U5 U6 ((s.l.countP λf=>decide (0<f.held)):Nat)])/\i7 w w':=by
 have p1:w.cell? ⟨y.pb,1,none⟩=some (U3 (lc y.fg) s.l.length y.cp):=h.p1;obtain⟨N,hN⟩:∃N,s.l.length=N:=⟨_,rfl⟩;have HN:=xh hN;have HT:=xh (show((s.l.take N).countP λf=>decide (0<f.held))=(s.l.countP λf=>decide (0<f.held))from by rw[<-hN,ig]);have HL:=xh (show ∀i,((s.l.take i).countP λf=>decide (0<f.held))<=32 from λi=>by
  have h1:((s.l.take i).countP λf=>decide (0<f.held))<=(s.l.take i).length:=yk;have h2:=h.l2;rw[bY]at h1;omega)
 have HU:=xh (show ∀i f,s.l[i]?=some f->((s.l.take (i+1)).countP λf=>decide (0<f.held))=((s.l.take i).countP λf=>decide (0<f.held))+(if 0<f.held then 1 else 0)from λi f hf=>by
  obtain⟨hi,rfl⟩:=aW.1 hf;rw[ij hi,Cx];simp[List.countP_cons])
 have PU:N<=32:=by rw[<-hN];exact h.l2
 rw[hN]at p1 ⊢;have HF:=xh h.Cb;have KP:=xh (λW (hb:i7 w W)=>QE (h.below hb));have HP1:=xh (λW (hb:i7 w W)=>(show W.cell? ⟨y.pb,1,none⟩=some (U3 (lc y.fg) N y.cp)from by rw[<-hN];exact(h.below hb).p1));clear h hN;unfold pp at *;go_in;go_wp2_with fail
 go_loopw [5,7,15] (λkv _ iv wq=> ∃i:Nat,i<=N/\iv=U5 U6 i/\kv=U5 U6 (((s.l.take i).countP λf=>decide (0<f.held)):Nat)/\Hid (i7 w wq)) (λ_ _ iv _=>N-(intOf iv).toNat)
 case atStart=>exact⟨0,bG _,rfl,rfl,xh (Below.refl _ _)⟩
 case round=>
  obtain⟨i,hi,rfl,rfl,O⟩:=hrel
  by_cases h':i<N
  .have hI:(i:Int)<(N:Int):=ls
   obtain⟨f,HG⟩:∃f,Hid (s.l[i]?=some f):=⟨_,xh (aQ (by rw[HN.o];exact h'))⟩;obtain⟨c0,c1,c2,c3,c4⟩:=(HF.o.below O.o) i f HG.o;have hm:=HL.o i;have Tn:=HU.o i f HG.o;have O5:=xh<|ag O.o (Pi #[f.au,U7 f.fS,f.held,WF f.cH,WF f.used] 167);have d2:=(aM.new wr 167 #[f.au,U7 f.fS,f.held,WF f.cH,WF f.used]).ae (i:=2) rfl;have HX:=xh Tn;clear Tn
   generalize hcn:((s.l.take i).countP λf=>decide (0<f.held))=cn at *;have ec:U6.wrap ((cn:Int)+1)=((cn+1:Nat):Int):=d9
   by_cases hp:0<f.held
   .go_wp2;go_roundw
    case rel=>exact⟨i+1,ls,by go_num,by rw[HX.o,U8 hp];try rfl,O5⟩
    case measure=>simp[intOf];omega
   .go_wp2;go_roundw
    case rel=>exact⟨i+1,ls,by go_num,by rw[HX.o,U9 hp];try rfl,O5⟩
    case measure=>simp[intOf];omega
  .obtain rfl:N=i:=ls
   rw[HT.o];have OD:=xh O.o.drew;have q1:=HP1.o _ OD.o;have Q1:=xh q1;have hcn:=HL.o N;rw[HT.o]at hcn;generalize hcq:(s.l.countP λf=>decide (0<f.held))=cn at *;have HCQ:=xh hcq;clear hcq;go_wp2;refine kw (λW'=>W'.cell? ⟨y.pb,1,none⟩=some (U3 (lc y.fg) N y.cp)) (Q1.o) (λaC=>?_);refine dj [(0,25),(1,26),(2,27),(3,28),(4,29),(5,30),(8,33)] ?_
   iterate 7 refine bJ ?_
   refine dV 6 31 λK hK=>?_;go_simp
   go_at_call 146
   go_call (KP.o _ OD.o) as e w5 ⟨v5,rfl,S5,oQ⟩;obtain⟨V5,vc5,rfl⟩:=aI S5;have O5:=xh<|aE OD.o oQ;have d1:=HP1.o _ O5.o;clear S5 oQ;go_simp;refine cq hK (d1) (λaC=>?_);refine dj [(7,32),(9,2),(10,3),(11,4)] ?_
   iterate 4 refine bJ ?_
   refine jp ?_ _;go_wp2_with fail;refine bodyPost_ret (v:=rg #[(N:Nat),((He s.l).length:Nat),(cn:Nat)]) ?_ rfl ⟨by rw[HCQ.o],O5.o⟩;simp[results,Tryz.results98,go_sem]
end Sh
namespace Sh
open Go.RowKit Pk Dk Pg
def mJ(l:List Fr)(i:Nat):List Fr:=it i Fr.nil++l.drop i
def Vr(l:List Fr){i:Nat}(h:i<=l.length):(mJ l i).length=l.length:=by unfold mJ;simp;omega
def Vs(l:List Fr){i:Nat}(h:i<l.length):(mJ l i).set i Fr.nil=mJ l (i+1):=by
 unfold mJ;rw[tG _ _ lw,eG,ik,vi h,List.set_cons_zero,Bo,cV];rfl
end Sh
namespace Sh
open Go.RowKit Pk Dk Pg
variable{w:BY}{n g:Nat}{t:TypeId}{cs:Array By}
def At.alien2{x:X}{c:C}(h:At w x n c)(B:aM w g t cs)(h1:t≠146)(h2:t≠218)(h3:t≠3)(h4:t≠149)(h5:t≠152)(h6:t≠4)(h7:t≠231):g∉x.fp:=by
 intro hg;simp only[X.fp,ax,aK]at hg;have hs:∀{v:By} {k:Nat} {l:List By},Sl w 3 v k l->g∉cB v:=λS hg=>by
  obtain⟨cs',B'⟩:=vC S _ hg;exact B.mx B' h3 rfl
 rcases hg with rfl|rfl|rfl|((hg|hg)|hg)|hg
 .exact B.mx h.hb h1 rfl
 .exact B.mx h.hm.hb h2 rfl
 .exact B.mx h.hm.hg h3 rfl
 .simp only[Loc.fp,ax,iD,or_false]at hg
  rcases hg with rfl|rfl|rfl|rfl
  .exact B.mx h.hd.hb h4 rfl
  .exact B.mx h.hd.hN h5 rfl
  .exact B.mx h.hd.hO h5 rfl
  .exact B.mx h.hd.hL h6 rfl
 .exact hs h.ht hg
 .exact hs h.ho hg
 .exact h.hp.bh B h3 h7 hg
def ju.jL{y:Y}{s:PS}(h:ju w y n s)(B:aM w g t cs)(ha:t≠143)(hb:t≠167)(h1:t≠146)(h2:t≠218)(h3:t≠3)(h4:t≠149)(h5:t≠152)(h6:t≠4)(h7:t≠231):g∉y.fp:=by
 intro hg;simp only[Y.fp,ax]at hg
 rcases hg with rfl|rfl|hg
 .exact B.mx h.hp ha rfl
 .exact eg h.hf B (by exact hb) (by simp[ak])
 .exact h.hs.alien2 B h1 h2 h3 h4 h5 h6 h7 hg
structure Ix where
 pb:Nat
 sb:Nat
 L:Dk.Loc
section
variable{w w':BY}{I:Ix}{F S:List Nat}{q:QS}{n K:Nat}
end
variable{w w':BY}{b g:Nat}{F:List Nat}{c:Int}{a:Nm}
def jn(n:Int):Int:=max ((max n 0+227) / 228) 1
def sF(n:Nat):UV:=[UInt8.ofNat (n / 256),UInt8.ofNat n]
def eQ(v:UV)(i:Nat):UV:=(v.drop (228*i)).take 228
def Hf(n:Int)(h:n<=1000000)(w:BY):
  io prog 172 #[n] w λe w'=>e=fd (U5 U6 (jn n))/\w=w':=by
 unfold jn;obtain⟨m,hm⟩:=fu (show 0<=max n 0 by omega);rw[hm];have Lk:m<=1000000:=ls
 have e1:U6.wrap ((m:Int)+228)=(m:Int)+228:=d9;have e2:U6.wrap ((m:Int)+228-1)=(m:Int)+227:=by rw[show(m:Int)+228-1=(m:Int)+227 by omega];exact d9
 have e3:U6.wrap (((m:Int)+227).tdiv 228)=((m:Int)+227) / 228:=by rw[OP ls];exact d9
 have e4:U6.wrap ((m:Int)+227)=(m:Int)+227:=d9;go_in;go_wp2_with fail
 all_goals
  go_ret;refine⟨?_,rfl⟩
  first|(simp;done)|(simp;omega)
def iS(n:Nat)(h:n<=60000)(w:BY):
  io prog 173 #[(n:Nat)] w λe w'=>e=fd (U7 ⟨(sF n).toArray⟩)/\i7 w w':=by
 have O0:=xh<|i6 w (Pi #[U5 .u8 ((n:Int) / 256),U5 .u8 ((n:Int) % 256)] 5);have B0:=aM.new w 5 #[U5 .u8 ((n:Int) / 256),U5 .u8 ((n:Int) % 256)];have e1:IntKind.u8.wrap ((n:Int) / 256)=(n:Int) / 256:=IntWalk.u8_in _ ls;have hb:fq (sF n)=[U5 .u8 ((n:Int) / 256),U5 .u8 ((n:Int) % 256)]:=by
  unfold sF fq bv;simp only[iA,tD,j5];rw[show((n / 256 % 2 ^ 8:Nat):Int)=(n:Int) / 256 by omega,show((n % 2 ^ 8:Nat):Int)=(n:Int) % 256 by omega]
 have HR:=xh<|cQ (P:=prog) _ 150 9 5 underlying150 underlying5 underlying9 ⟨w.heap.size,0,none⟩ 2 2 (sF n) rfl (bT (l:=fq (sF n)) (by rw[hb];exact B0) 0 _ lw);clear B0 hb;go_in;go_wp2_with fail;rw[HR.o];go_wp2;go_ret;exact bz O0.o
def Vt{q:Nat}(v:Nm)(hv:v.size<=1024)(hq:w.cell? (lc q)=some (U7 v))(i:Nat)(hi:228*i<=v.size):
  io prog 171 #[(i:Nat),lc q] w λe w'=>e=fd (U7 ⟨(eQ v.data.toList i).toArray⟩)/\w=w':=by
 have e1:U6.wrap ((i:Int)*228)=((228*i:Nat):Int):=by rw[show(i:Int)*228=((228*i:Nat):Int) by omega];exact d9
 have e2:U6.wrap ((i:Int)+1)=(i:Int)+1:=d9;have e3:U6.wrap (((i:Int)+1)*228)=((228*i+228:Nat):Int):=by rw[show((i:Int)+1)*228=((228*i+228:Nat):Int) by omega];exact d9
 have HP:=xh (show ∀b:Nat,(228*i+228<=v.size->b=228*i+228)->(v.size<228*i+228->b=v.size)->v.extract (228*i) b=⟨(eQ v.pu i).toArray⟩from λb h1 h2=>by
  apply mP;apply rk.1;show(v.extract (228*i) b).data.toList=eQ v.pu i;rw[exl'];unfold eQ
  rcases fo v.size (228*i+228)with h|h
  .rw[h2 h,cR lw,cR (by simp;omega)]
  .rw[h1 h,show 228*i+228-228*i=228 by omega])
 go_in;go_wp2_with fail
 all_goals
  go_ret;exact⟨by rw[HP.o _ ls ls];rfl,rfl⟩
def bS(l:UV)(k:Nat):Nat:=(l.getD k 0).toNat*256+(l.getD (k+1) 0).toNat
def or8(a b:Nat)(ha:a<256)(hb:b<256):bits .or U6 ((a:Int)*256) (b:Int)=((a*256+b:Nat):Int):=by
 rw[bits_join U6 32 ms (λn h0 h1=>IntWalk.i64_in n ls) 8 _ _ ls ls ls ls ls ls];omega
def df(s:Nm)(k:Nat)(h:k<s.size):s.data.toList.getD k 0=s[k]:=by
 have h2:k<s.pu.length:=by simpa using h
 simp only[List.getD,aQ h2,j0,Array.getElem_toList];rfl
def nG(o:ah (b::F) w w')(hb:w.heap.size<=b):ah F w w':=o.mono (λx hx dP=>(ax.1 hx).elim (λe=>by omega) id)
def nH(o:ah F w w'):ah (b::F) w w':=o.mono (λ_ hx _=>aH _ hx)
def nI(o:ah [b] w w'):ah (b::F) w w':=o.mono (λ_ hx _=>by rw[aG.1 hx];exact ie ..)
def QS.cW(q:QS)(l:Int):QS×Int×UV×Int:=
 if(q.cF l).2.2≠0 then((q.cF l).1,0,[],(q.cF l).2.2)else if 228<bS (q.cF l).2.1.data.toList 2 then((q.cF l).1,0,[],14)else((q.cF l).1,(bS (q.cF l).2.1.data.toList 0:Int)-1,((q.cF l).2.1.data.toList.drop 4).take (bS (q.cF l).2.1.data.toList 2),0)
def D9(n:Int)(s:Nm):By:= .agg #[U5 U6 n,U7 s]
def Ea{fn:Func}{p u:Tmp}{tmps:Array By}(h:fn.results= #[.cell p 262,.tmp u])(hp:tmps.getD p undef=.pointer (some ⟨g,0,none⟩))(B:aM w g 262 #[c,U7 a]):
  (results fn tmps).run prog w=.ok (rg #[D9 c a,tmps.getD u undef]) w:=by
 have c0:=B.bi 0;have c1:=B.bi 1;rw[results_cell_tmp h,hp];clear h hp B;unfold D9;go_simp
def QG{c':Int}{a':Nm}(B:aM w g 262 #[c,U7 a]):
  aM ((w.setCell ⟨g,0,none⟩ c').setCell ⟨g,1,none⟩ (U7 a')) g 262 #[c',U7 a']/\ah [g] w ((w.setCell ⟨g,0,none⟩ c').setCell ⟨g,1,none⟩ (U7 a'))/\
   w.cell? (lc g)=some (c:li)/\w.cell? ⟨g,1,none⟩=some (U7 a)/\w.frozen? ⟨g,0,none⟩=false/\w.frozen? ⟨g,1,none⟩=false:=
 ⟨(B.ct 0 _).ct 1 _,((ah.refl _ _).setCell lw _).setCell lw _,B.ae rfl,B.ae rfl,B.frozen 0 lw,B.frozen 1 lw⟩
attribute [local go_sem ↓] bP tP
variable{w:BY}{e:TypeId}{z n:Nat}{v:By}{l:List By}
def QS.hJ:Nat->QS->Int->List Int->UV->QS×List Int×UV×Int
 |0,q,_,_,_=>(q,[],[],14)
 |m+1,q,at_,l,b=>
  if(q.cW at_).2.2.2=3/\0<l.length then((q.cW at_).1,[],[],14)
  else if(q.cW at_).2.2.2≠0 then((q.cW at_).1,[],[],(q.cW at_).2.2.2)
  else if 1024<(b++(q.cW at_).2.2.1).length then((q.cW at_).1,[],[],14)
  else if(q.cW at_).2.1<0 then((q.cW at_).1,l++[at_],b++(q.cW at_).2.2.1,0)
  else QS.hJ m (q.cW at_).1 (q.cW at_).2.1 (l++[at_]) (b++(q.cW at_).2.2.1)
def QS.dA(q:QS)(first:Int):QS×List Int×UV×Int:=q.hJ 5 first [] []
def Ci(h:bm w e z v n l):∀g∈ak v,∃cs,aM w g e cs:=by
 rcases h.2 with⟨rfl,_⟩|⟨g,cap,rest,rfl,B,_⟩
 .simp[ak]
 .intro x hx;simp only[ak,aG]at hx;exact⟨_,by rw[hx];exact B⟩
def nJ{t:TypeId}{y m:Nat}{u:By}{k:List By}(h:bm w e z v n l)(h':bm w t y u m k)(fy:e≠t):∀g∈ak v,g∉ak u:=λg hg hu=>by
 obtain⟨cs,B⟩:=Ci h g hg;exact eg h' B fy hu
end Sh
namespace Sh
open Go.RowKit Pk Dk Pg
def QS.je(q:QS):List Int->QS×Int
 |[]=>(q,0)
 |p::l=>if(q.aF p).2≠0 then((q.aF p).1,(q.aF p).2)else(q.aF p).1.je l
def QS.jX(q:QS)(p:Int):QS×Int:=if(q.dA p).2.2.2≠0 then((q.dA p).1,(q.dA p).2.2.2)else(q.dA p).1.je (q.dA p).2.1
attribute [local go_sem ↓] bP
def iW(v:UV)(i:Nat)(next:Int):UV:=sF (next+1).toNat++sF (eQ v i).length++eQ v i
def QS.eU(q:QS):List Int->QS
 |[]=>q
 |p::l=>(q.aF p).1.eU l
def QS.qS(q:QS)(p:Int)(l:List Int):q.eU (p::l)=(q.aF p).1.eU l:=rfl
def QS.kS(v:UV):Nat->QS->Int->List Int->QS×Int×Int
 |0,q,next,_=>(q,next,0)
 |i+1,q,next,made=>
  if(q.bE (iW v i next)).2.2≠0 then((q.bE (iW v i next)).1.eU made,0,(q.bE (iW v i next)).2.2)
  else QS.kS v i (q.bE (iW v i next)).1 (q.bE (iW v i next)).2.1 (made++[(q.bE (iW v i next)).2.1])
def QS.kE(q:QS)(v:UV):QS×Int×Int:=if 1024<v.length then(q,0,4)else QS.kS v (jn v.length).toNat q (-1) []
end Sh
end Go.Proofs.YtmonobkginiajaaGreat
