/- packed. -/
import Derived.Test.YtmonobkginiajaaGreatAs13
set_option linter.all false
set_option maxRecDepth 100000
set_option maxHeartbeats 8000000
namespace Go.Proofs.YtmonobkginiajaaGreat
open Go.Proofs.Tryz
open Value renaming string→U2,slice→U3,int→U5,bool→U6,tuple→U8
open Ending renaming returned→BY
open IntKind renaming i64→By
open Obj renaming cells→WF
open Go renaming World→YB,Value→YO,Calls→eq
open List renaming replicate→fd
open And renaming intro→io
namespace Sh
open Go.RowKit Pk Dk Pg
open Nd (E aJ bH aS aZ et bI bg cG)
attribute [local go_sem ↓] bA
variable{w:YB}
abbrev PR:=rd×rd
def iQ(l:List PR):List YO:=l.flatMap λx=>[U2 x.1,U2 x.2]
theorem ez:∀l:List PR,(iQ l).length=l.length*2
 |[]=>rfl
 |x::l=>by unfold iQ;rw[im,aT];have:=ez l;unfold iQ at this;rw[this];simp;omega
theorem tN(a b:List PR):iQ (a++b)=iQ a++iQ b:=by simp[iQ]
def kK:List E->QS->List PR->QS×List PR×Int
 |[],q,out=>(q,out,0)
 |x::l,q,out=>if(q.eH x).2.2≠0 then((q.eH x).1,[],(q.eH x).2.2)else kK l (q.eH x).1 (out++[(x.key,(q.eH x).2.1)])
def QS.fS(q:QS)(fr til:rd)(n:Int):QS×List PR×Int:=
 if(q.dW (j6 n) fr til []).e≠0 then((q.dW (j6 n) fr til []).q,[],(q.dW (j6 n) fr til []).e)else kK (q.dW (j6 n) fr til []).s (q.dW (j6 n) fr til []).q []
theorem DF:(prog.info? 42).map (λi=>(i.zero,i.size,i.bytes))=some (some (.agg #[U2 .empty,U2 .empty]),2,32):=by kernel_rfl
theorem yD{v:YO}{m:Nat}{L:List YO}(S:aM w 42 2 v m L)(a b:rd)(hm:m<=1000000):
  ∃v' w',dF prog 30 30 (w.alloc (WF #[U2 a,U2 b] 42)) v (U3 (lc w.heap.size) 1 1)= .ok v' w'/\aM w' 42 2 v' (m+1) (L++[U2 a,U2 b])/\ag (ah v) w w'/\(∀g∈ah v',g∈ah v\/w.heap.size<=g):=by
 obtain⟨i0,hi,lz,jK,kl⟩:=info_parts DF;obtain⟨v',w',h1,h2,h3,h4⟩:=dE (P:=prog) (S.alloc (WF #[U2 a,U2 b] 42)) 30 30 i0 _ 32 underlying30 hi lz jK kl rfl (by omega)
  ⟨w.heap.size,0,none⟩ 1 1 [U2 a,U2 b] rfl (bm (aF.new w 42 #[U2 a,U2 b]) 0 _ (by simp)) (by simp;exact⟨rfl,rfl⟩) (by unfold maxLen;omega) (by omega)
 exact⟨v',w',h1,h2,((ag.refl _ _).alloc _).aU h3 (λx hx _=>hx),λg hg=>(h4 g hg).imp id (λh=>by simp at h;omega)⟩
theorem US{tb:Nat}{I:Ix}{F:List Nat}{q:QS}{n K:Nat}(h:TQ w tb I F q n K)(hK:K<=999999000000)(fr til:rd)(m:Int):
  eq prog 17 #[tp tb,U2 fr,U2 til,m] w λe w'=> ∃v,e=BY (U8 #[v,U5 By (q.fS fr til m).2.2])/\aM w' 42 2 v (q.fS fr til m).2.1.length (iQ (q.fS fr til m).2.1)/\PQ w' I F (q.fS fr til m).1 n (K+300000)/\ag F w w'/\(∀g∈ah v,w.heap.size<=g):=by
 have hmf:∀(fn:Fn) (first cap:Array YO) (w:YB),(Instr.makeFunc fn first cap).run prog w=.ok (.func fn first cap) w:=λ_ _ _ _=>rfl;obtain⟨z,hz⟩:∃z,w.heap.size=z:=⟨_,rfl⟩;have W0:=i5 w;obtain⟨w1,lD⟩:∃w1,w.alloc (WF #[m] 3)=w1:=⟨_,rfl⟩;have s1:w1.heap.size=z+1:=by rw[<-lD,gf,hz]
 have Ma:aF w1 z 3 #[m]:=by rw[<-lD,<-hz];exact aF.new _ _ _
 have W1:=aC W0 (i6 w (WF #[m] 3));rw[lD]at W1;obtain⟨w2,Ee⟩:∃w2,w1.alloc (WF #[U3 none 0 0] 108)=w2:=⟨_,rfl⟩;have s2:w2.heap.size=z+1+1:=by rw[<-Ee,gf,s1]
 have Mb:aF w2 (z+1) 108 #[U3 none 0 0]:=by rw[<-Ee,<-s1];exact aF.new _ _ _
 have DB:=Ma.alloc (WF #[U3 none 0 0] 108);rw[Ee]at DB;have W2:=aC W1 (i6 w1 (WF #[U3 none 0 0] 108));rw[Ee]at W2;have hI:sr (z+1) z m w2 [] [z+1,z]:=⟨none,0,rfl,Mb,DB,aM.nil _ _ _,by omega⟩;have ef:=h.lt;have KE:=yA (Zm (z+1) z m) (h.below W2) (by omega) fr til hI (λg hg hm=>by have:=ef g hg;simp at hm;omega) rfl
 have KV:=xh (λ(W:YB) (qj:QS) (kj:Nat) (hW:TQ W tb I F qj n kj) (hk:kj<=999999999900) (x:E)=>uV hW hk x);unfold QS.fS;obtain⟨R,hR⟩:∃R,q.dW (j6 m) fr til []=R:=⟨_,rfl⟩;rw[hR]at KE ⊢;obtain⟨RR,bS⟩:∃RR,(if R.e≠0 then(R.q,([]:List PR),R.e)else kK R.s R.q [])=RR:=⟨_,rfl⟩;rw[bS];have fQ:=xh bS;have KE:=xh KE;have yW:=xh W2;have HZ:=xh hz;have rC:=xh ef;have HNE:=xh h.ne;clear Ma Mb DB W0 W1 W2 s1 s2 hI ef h bS hR
 subst lD Ee;unfold tp lp at *;go_in;go_wp2_with fail;go_call KE.o as e w3 ⟨rfl,G,a1,a2,a3,a4,a5,a6⟩;obtain⟨A,c,hG,b1,b2,b3,b4⟩:=a2;obtain⟨l,hl⟩:∃l,R.s=l:=⟨_,rfl⟩;obtain⟨er,vN⟩:∃er,R.e=er:=⟨_,rfl⟩;obtain⟨k,hk⟩:∃k,l.length=k:=⟨_,rfl⟩;rw[hl]at b1 b3 hG a5 fQ;rw[hk]at b1 b3 hG a5;rw[vN]at fQ ⊢
 have o3:ag F w w3:=(ag.aj (S:=F) yW.o).aU a3 (λg hg hl=>(ay.1 hg).elim id (λhg=>by have:=HZ.o;simp at hg;omega));have hG3:∀g∈G,w.heap.size<=g:=λg hg=>(a4 g hg).elim (λh=>by have:=HZ.o;simp at h;omega) (λh=>aq yW.o.size h);have NW:=o3.size
 by_cases he:er=0
 .subst he;have kO:kK l R.q []=RR:=by have:=fQ.o;rw[i8]at this;exact this
  have fQ:=xh kO;have H3:=xh (show TQ w3 tb I F R.q n (K+513)/\aM w3 111 3 (U3 A k c) k (aJ l)/\ag F w w3/\(∀g∈tb::F,g∉ah (U3 A k c))/\(∀g∈ah (U3 A k c),w.heap.size<=g)/\k<=57*513 from
   ⟨a1,b3,o3,λg hg hm=>a6 g hg (by rw[hG];simp[hm]),λg hg=>hG3 g (by rw[hG];simp[hg]),a5⟩)
  have x1:=b1.bi 0;have hlen:=H3.o.2.2.2.2.2;have VE:=xh hk;clear hk a1 a3 a4 a5 a6 b1 b2 b3 b4 o3 hG3 kO hl vN;go_wp2_with fail
  go_loopw [12,27] (λov iv wr=> ∃(i:Nat) (qi:QS) (out:List PR),i<=k/\iv=U5 By (i:Nat)/\aM wr 42 2 ov i (iQ out)/\Hid (kK (l.drop i) qi out=RR/\out.length=i)/\Hid (TQ wr tb I F qi n (K+513+5*i)/\aM wr 111 3 (U3 A k c) k (aJ l)/\ag F w wr/\(∀g∈ah ov,w.heap.size<=g/\g∉ah (U3 A k c)))) (λ_ iv _=>k-(intOf iv).toNat)
  case atStart=>exact⟨0,R.q,[],by omega,rfl,aM.nil _ _ _,xh ⟨fQ.o,rfl⟩,xh ⟨H3.o.1,H3.o.2.1,H3.o.2.2.1,by simp[ah]⟩⟩
  case round=>
   obtain⟨i,qi,out,hi,rfl,S1,HV,HA⟩:=hrel;obtain⟨VA,vc,rfl⟩:=ax S1
   by_cases xd:i<k
   .have hikI:(i:Int)<(k:Int):=by omega
    obtain⟨x,hx⟩:∃x,l[i]?=some x:=⟨_,aH (by rw[VE.o];exact xd)⟩;obtain⟨ga,ca,zk,Eh,BA,hca1,hca2⟩:=HA.o.2.1.form (by omega) (by omega);have SE:=(Nd.aM.aJ HA.o.2.1).2;obtain⟨ad,yp,gJ⟩:=SE.2 i x hx;injection Eh with e1 e2 e3
    subst e1 e3;injection yp with yp
    subst yp;rw[Nd.iN,bq]at gJ;have xc0:=gJ.c0;have xc1:=gJ.c1;have xc2:=gJ.c2;dsimp only at xc0 xc1 xc2;have hgal:=BA.lt;obtain⟨zr,hzr⟩:∃zr,wr.heap.size=zr:=⟨_,rfl⟩;have B0:=aF.new wr 111 #[U2 .empty,U2 .empty,U5 By 0];have D1:=aF.new wr 111 #[U2 x.key,U2 x.val,x.aY];have fo:=i6 wr (WF #[U2 x.key,U2 x.val,x.aY] 111);rw[hzr]at B0 D1;have y0:=B0.bi 0
    have y1:=B0.bi 1;have y2:=B0.bi 2;have f0:=B0.frozen 0 (by simp);have f1:=B0.frozen 1 (by simp);have f2:=B0.frozen 2 (by simp);have KX:=xh<|KV.o (wr.alloc (WF #[U2 x.key,U2 x.val,x.aY] 111)) qi (K+513+5*i) (HA.o.1.below fo) (by omega) x;have v0:=D1.bi 0;have v1:=D1.bi 1;have v2:=D1.bi 2;have D1:=xh D1;have H4:=xh fo;have HX:=xh hx;have HZR:=xh hzr
    clear fo B0 BA SE gJ hx hca2;obtain⟨RV,hRV⟩:∃RV,qi.eH x=RV:=⟨_,rfl⟩;rw[hRV]at KX;have Km:l.drop i=x::l.drop (i+1):=by rw[<-List.getElem_cons_drop (h:=by rw[VE.o];exact xd)];congr 1;have:=HX.o;rw[aH (by rw[VE.o];exact xd)]at this;injection this
    have vj:=HV.o.1;rw[Km]at vj;unfold kK at vj;rw[hRV]at vj;have Zo:=xh vj;have HRV:=xh hRV;clear vj Km hRV;unfold E.agg at *;go_wp2_with fail;go_call KX.o as e w5 ⟨rfl,p1,p2⟩;have hzF:∀g∈F,g<w.heap.size:=λg hg=>rC.o g (bK _ hg);have hwz:w.heap.size<=zr:=by rw[<-HZR.o];exact HA.o.2.2.1.size
    have o45:ag F w w5:=(HA.o.2.2.1.trans (ag.aj H4.o)).trans p2;have D5:=D1.o.only p2 (λhm=>by have:=hzF _ hm;omega);have v0:=D5.bi 0;obtain⟨q5,b5,e5⟩:=RV;dsimp only at *
    by_cases Qs:e5=0
    .subst Qs;have h9:=Zo.o;rw[i8]at h9;have hov:∀g∈ah (U3 VA i vc),w.heap.size<=g:=λg hg=>(HA.o.2.2.2 g hg).1;have S5:=(S1.below H4.o).only p2 (λg hg hm=>by have:=hov g hg;have:=hzF g hm;omega);have E5:=(HA.o.2.1.below H4.o).only p2 (λg hg hm=>H3.o.2.2.2.1 g (bK _ hm) hg);obtain⟨v',w7,ea,S7,ow,fa⟩:=yD S5 x.key b5 (by omega)
     have T7:TQ w7 tb I F q5 n (K+513+5*(i+1)):=(((HA.o.1.below H4.o).next p2 p1).only ow (λg hg hm=>by have:=hov g hm;have:=rC.o g hg;omega)).le (by omega);have E7:=E5.only ow (λg hg hm=>(HA.o.2.2.2 g hm).2 hg);have hwr5:wr.heap.size<=w5.heap.size:=aq H4.o.size p2.size;have hel:∀g∈ah (U3 (lc ga) k c),g<wr.heap.size:=HA.o.2.1.lt
     have H7:=xh (show TQ w7 tb I F q5 n (K+513+5*(i+1))/\aM w7 111 3 (U3 (lc ga) k c) k (aJ l)/\ag F w w7/\(∀g∈ah v',w.heap.size<=g/\g∉ah (U3 (lc ga) k c))from
      ⟨T7,E7,o45.aU ow (λg hg ef=>by have:=hov g hg;omega),λg hg=>(fa g hg).elim (HA.o.2.2.2 g) (λh=>⟨by have:=o45.size;omega,λhm=>by have:=hel g hm;omega⟩)⟩)
     obtain⟨V7,c7,rfl⟩:=ax S7;have hpr:iQ out++[Value.string x.key,Value.string b5]=iQ (out++[(x.key,b5)]):=by rw[tN];rfl
     rw[hpr]at S7;have H9:=xh<|io S7 (io h9 (show(out++[(x.key,b5)]).length=i+1 by rw[aT,HV.o.2];rfl));have EA:=xh ea;clear ea S7 ow fa T7 E7 hwr5 hel h9 hpr S5 E5 hov p1 o45 p2 D5 hzF hwz;go_wp2_with fail;rw[EA.o];go_wp2_with fail;go_roundw
     case rel=>exact⟨i+1,q5,out++[(x.key,b5)],by omega,by first|rfl|simp,H9.o.1,xh H9.o.2,H7⟩
     case measure=>simp[intOf];omega
    .have h9:=Zo.o;rw[if_pos Qs]at h9;have hq:(e5 != 0)=true:=ls Qs
     have my:(e5==0)=false:=i4 Qs
     have H9:=xh<|io h9 (io p1 o45);clear h9 p1 o45 p2 D5 hzF hwz;go_wp2;go_ret2;obtain⟨h9,h10,Lo⟩:=H9.o;subst h9;exact⟨U3 none 0 0,by first|rfl|simp,aM.nil _ _ _,h10.le (by omega),Lo,by simp[ah]⟩
   .have hikI:¬(i:Int)<(k:Int):=by omega
    have JE:l.drop i=[]:=lJ (by rw[VE.o];omega);have h9:=HV.o.1;rw[JE]at h9;have HV9:=xh h9;have HO:=xh HV.o.2;have S1:=xh S1;clear h9 JE;go_wp2;go_ret2;have h9:=HV9.o;subst h9;exact⟨_,by first|rfl|simp[kK],by show aM _ _ 2 _ out.length _;rw[HO.o];exact S1.o,HA.o.1.2.le (by omega),HA.o.2.2.1,λg hg=>by have:=(HA.o.2.2.2 g hg).1;first|exact this|(have:=HZ.o;omega)⟩
 .have kO:(R.q,([]:List PR),er)=RR:=by have:=fQ.o;rw[if_pos he]at this;exact this
  have hq:(er != 0)=true:=ls he
  have my:(er==0)=false:=i4 he
  have H3:=xh<|io a1 o3;have fQ:=xh kO;clear a1 a3 a4 a5 a6 b1 b2 b3 b4 o3 hG3 kO hl vN;go_wp2;go_ret2;have h9:=fQ.o;subst h9;exact⟨U3 none 0 0,by first|rfl|simp,aM.nil _ _ _,H3.o.1.2.le (by omega),H3.o.2,by simp[ah]⟩
variable{w:YB}{g tb n K:Nat}{a b:rd}{I:Ix}{F:List Nat}
def prV(x:PR):YO:= .agg #[U2 x.1,U2 x.2]
theorem pP{fn:Func}{p u:Tmp}{tmps:Array YO}(h:fn.results= #[.cell p 42,.tmp u])(hp:tmps.getD p undef=.pointer (some ⟨g,0,none⟩))(B:aF w g 42 #[U2 a,U2 b]):
  (results fn tmps).run prog w=.ok (U8 #[prV (a,b),tmps.getD u undef]) w:=by
 have c0:=B.bi 0;have c1:=B.bi 1;rw[results_cell_tmp h,hp];clear h hp B;unfold prV;go_simp
theorem ko{a' b':rd}(B:aF w g 42 #[U2 a,U2 b]):
  aF ((w.setCell ⟨g,0,none⟩ (U2 a')).setCell ⟨g,1,none⟩ (U2 b')) g 42 #[U2 a',U2 b']/\ag [g] w ((w.setCell ⟨g,0,none⟩ (U2 a')).setCell ⟨g,1,none⟩ (U2 b'))/\
   w.cell? (lc g)=some (U2 a)/\w.cell? ⟨g,1,none⟩=some (U2 b)/\w.frozen? ⟨g,0,none⟩=false/\w.frozen? ⟨g,1,none⟩=false:=
 ⟨(B.cw 0 _).cw 1 _,((ag.refl _ _).setCell (by simp) _).setCell (by simp) _,B.ab rfl,B.ab rfl,B.frozen 0 (by simp),B.frozen 1 (by simp)⟩
def QS.gF(q:QS)(fr til:rd):QS×PR×Int:=
 if(q.dW ju fr til none).e≠0 then((q.dW ju fr til none).q,(⟨#[]⟩,⟨#[]⟩),(q.dW ju fr til none).e)
 else match (q.dW ju fr til none).s with
  |none=>((q.dW ju fr til none).q,(⟨#[]⟩,⟨#[]⟩),9)
  |some x=>if((q.dW ju fr til none).q.eH x).2.2≠0 then(((q.dW ju fr til none).q.eH x).1,(⟨#[]⟩,⟨#[]⟩),((q.dW ju fr til none).q.eH x).2.2)
   else(((q.dW ju fr til none).q.eH x).1,(x.key,((q.dW ju fr til none).q.eH x).2.1),0)
theorem UT{q:QS}(h:TQ w tb I F q n K)(hK:K<=999999000000)(fr til:rd):
  eq prog 21 #[tp tb,U2 fr,U2 til] w λe w'=>e=BY (U8 #[prV (q.gF fr til).2.1,U5 By (q.gF fr til).2.2])/\PQ w' I F (q.gF fr til).1 n (K+600)/\ag F w w':=by
 have hmf:∀(fn:Fn) (first cap:Array YO) (w:YB),(Instr.makeFunc fn first cap).run prog w=.ok (.func fn first cap) w:=λ_ _ _ _=>rfl;obtain⟨z,hz⟩:∃z,w.heap.size=z:=⟨_,rfl⟩;have W0:=i5 w;obtain⟨w1,lD⟩:∃w1,w.alloc (WF #[U2 ⟨#[]⟩,U2 ⟨#[]⟩] 42)=w1:=⟨_,rfl⟩;have s1:w1.heap.size=z+1:=by rw[<-lD,gf,hz]
 have Ma:aF w1 z 42 #[U2 ⟨#[]⟩,U2 ⟨#[]⟩]:=by rw[<-lD,<-hz];exact aF.new _ _ _
 have W1:=aC W0 (i6 w (WF #[U2 ⟨#[]⟩,U2 ⟨#[]⟩] 42));rw[lD]at W1;obtain⟨w2,Ee⟩:∃w2,w1.alloc (WF #[U2 ⟨#[]⟩,U2 ⟨#[]⟩,U5 By 0] 111)=w2:=⟨_,rfl⟩;have s2:w2.heap.size=z+1+1:=by rw[<-Ee,gf,s1]
 have Mb:aF w2 (z+1) 111 #[U2 ⟨#[]⟩,U2 ⟨#[]⟩,U5 By 0]:=by rw[<-Ee,<-s1];exact aF.new _ _ _
 have DB:=Ma.alloc (WF #[U2 ⟨#[]⟩,U2 ⟨#[]⟩,U5 By 0] 111);rw[Ee]at DB;have W2:=aC W1 (i6 w1 (WF #[U2 ⟨#[]⟩,U2 ⟨#[]⟩,U5 By 0] 111));rw[Ee]at W2;obtain⟨w3,NW⟩:∃w3,w2.alloc (WF #[U6 false] 4)=w3:=⟨_,rfl⟩;have s3:w3.heap.size=z+1+1+1:=by rw[<-NW,gf,s2]
 have Qo:aF w3 (z+1+1) 4 #[U6 false]:=by rw[<-NW,<-s2];exact aF.new _ _ _
 have Qp:=DB.alloc (WF #[U6 false] 4);rw[NW]at Qp;have yB:=Mb.alloc (WF #[U6 false] 4);rw[NW]at yB;have W3:=aC W2 (i6 w2 (WF #[U6 false] 4));rw[NW]at W3;have y0:=yB.bi 0;have y1:=yB.bi 1;have y2:=yB.bi 2;have y3:=Qo.bi 0;have f0:=yB.frozen 0 (by simp);have f1:=yB.frozen 1 (by simp);have f2:=yB.frozen 2 (by simp)
 have f3:=Qo.frozen 0 (by simp);have hI:DE (z+1) (z+1+1) w3 none [z+1,z+1+1]:=⟨rfl,yB,Qo,by omega⟩;have ef:=h.lt;have KE:=yA (Zn (z+1) (z+1+1)) (h.below W3) (by omega) fr til hI (λg hg hm=>by have:=ef g hg;simp at hm;omega) rfl;have KV:=xh (λ(W:YB) (qj:QS) (kj:Nat) (hW:TQ W tb I F qj n kj) (hk:kj<=999999999900) (x:E)=>uV hW hk x);have C0:=xh Qp;obtain⟨RR,bS⟩:∃RR,q.gF fr til=RR:=⟨_,rfl⟩;rw[bS];unfold QS.gF at bS
 obtain⟨R,hR⟩:∃R,q.dW ju fr til none=R:=⟨_,rfl⟩;rw[hR]at KE bS;have fQ:=xh bS;clear bS;have KE:=xh KE;have HW3:=xh W3;have HZ:=xh hz;have rC:=xh ef;have HNE:=xh h.ne;clear Ma Mb DB Qp yB Qo W0 W1 W2 W3 s1 s2 s3 hI ef h hR;subst lD Ee NW;unfold lp at KE;unfold tp at *;go_in;go_wp2_with fail;go_call KE.o as e w4 ⟨rfl,G,a1,a2,a3,a4,a5,a6⟩;obtain⟨rfl,b1,b2,b3⟩:=a2;obtain⟨s,hs⟩:∃s,R.s=s:=⟨_,rfl⟩
 obtain⟨er,vN⟩:∃er,R.e=er:=⟨_,rfl⟩;obtain⟨qr,hqr⟩:∃qr,R.q=qr:=⟨_,rfl⟩;rw[hs]at b1 b2;rw[hqr]at a1;have kO:=fQ.o;rw[vN,hs,hqr]at kO;rw[vN];have hzF:∀g∈F,g<z:=λg hg=>by have:=rC.o g (bK _ hg);have:=HZ.o;omega
 have o4:ag F w w4:=(ag.aj (S:=F) HW3.o).aU a3 (λg hg hl=>(ay.1 hg).elim id (λhg=>by have:=HZ.o;simp at hg;omega));have C4:=C0.o.only a3 (λhm=>(ay.1 hm).elim (λhm=>by have:=hzF z hm;omega) (λhm=>by simp at hm<;>omega));have HZF:=xh hzF;clear hs hqr a3 a4 a5 a6 hzF y0 y1 y2 y3 f0 f1 f2 f3
 by_cases he:er=0
 .subst he;rw[i8]at kO
  cases s with
  |none=>
   dsimp only at kO;have fQ:=xh kO;clear kO;have x2:=b2.bi 0;obtain⟨B2,o2,k0,k1,z0,z1⟩:=ko (a':=⟨#[]⟩) (b':=⟨#[]⟩) C4;have H2:=xh<|io B2 (io o2 (io a1 o4));clear B2 o2 a1 o4 b1 b2 b3 C4 vN;go_wp2_with fail;have h9:=fQ.o;subst h9
   exact bodyPost_ret (pP rfl rfl H2.o.1) rfl ⟨rfl,(H2.o.2.2.1.2.aY H2.o.2.1 (λhm=>by have:=HZF.o z hm;omega)).le (by omega),H2.o.2.2.2.aU H2.o.2.1 (λg hg hl=>by have:=HZ.o;simp at hg;omega)⟩
  |some x=>
   dsimp only at kO;have x2:=b2.bi 0;have xa:=b1.bi 0;have xb:=b1.bi 1;have xc:=b1.bi 2;have KX:=KV.o w4 qr (K+513) a1 (by omega) x;obtain⟨RV,hRV⟩:∃RV,qr.eH x=RV:=⟨_,rfl⟩;rw[hRV]at KX kO;have KX:=xh KX;have H4:=xh<|io o4 (io b1 (io b2 C4));clear b1 b2 b3 C4 vN o4 hRV a1;unfold E.agg at *;unfold optE at *;go_wp2_with fail;go_call KX.o as e w5 ⟨rfl,p1,p2⟩
   have o5:=H4.o.1.trans p2;have hn1:z+1∉F:=λhm=>by have:=HZF.o _ hm;omega
   have hn0:z∉F:=λhm=>by have:=HZF.o _ hm;omega
   have D1:=H4.o.2.1.only p2 hn1;have C5:=H4.o.2.2.2.only p2 hn0;have xk:=D1.bi 0;obtain⟨q5,b5,e5⟩:=RV;dsimp only at *
   by_cases Qs:e5=0
   .subst Qs;rw[i8]at kO;have fQ:=xh kO;clear kO;obtain⟨B2,o2,k0,k1,z0,z1⟩:=ko (a':=x.key) (b':=b5) C5;have H2:=xh<|io B2 (io o2 (io p1 o5));clear B2 o2 p1 p2 o5 D1 C5;go_wp2_with fail;have h9:=fQ.o;subst h9;exact bodyPost_ret (pP rfl rfl H2.o.1) rfl ⟨rfl,(H2.o.2.2.1.aY H2.o.2.1 hn0).le (by omega),H2.o.2.2.2.aU H2.o.2.1 (λg hg hl=>by have:=HZ.o;simp at hg;omega)⟩
   .rw[if_pos Qs]at kO;have fQ:=xh kO;clear kO;have hq:(e5 != 0)=true:=ls Qs
    have my:(e5==0)=false:=i4 Qs
    obtain⟨B2,o2,k0,k1,z0,z1⟩:=ko (a':=⟨#[]⟩) (b':=⟨#[]⟩) C5;have H2:=xh<|io B2 (io o2 (io p1 o5));clear B2 o2 p1 p2 o5 D1 C5;go_wp2_with fail;have h9:=fQ.o;subst h9;exact bodyPost_ret (pP rfl rfl H2.o.1) rfl ⟨rfl,(H2.o.2.2.1.aY H2.o.2.1 hn0).le (by omega),H2.o.2.2.2.aU H2.o.2.1 (λg hg hl=>by have:=HZ.o;simp at hg;omega)⟩
 .rw[if_pos he]at kO;have fQ:=xh kO;clear kO;have hq:(er != 0)=true:=ls he
  have my:(er==0)=false:=i4 he
  obtain⟨B2,o2,k0,k1,z0,z1⟩:=ko (a':=⟨#[]⟩) (b':=⟨#[]⟩) C4;have H2:=xh<|io B2 (io o2 (io a1 o4));clear B2 o2 a1 o4 b1 b2 b3 C4 vN;go_wp2_with fail;have h9:=fQ.o;subst h9;exact bodyPost_ret (pP rfl rfl H2.o.1) rfl ⟨rfl,(H2.o.2.2.1.2.aY H2.o.2.1 (λhm=>by have:=HZF.o z hm;omega)).le (by omega),H2.o.2.2.2.aU H2.o.2.1 (λg hg hl=>by have:=HZ.o;simp at hg;omega)⟩
def mY:List rd->QS->QS×Int
 |[],q=>(q,0)
 |k::l,q=>if(q.jV k).2≠0 then((q.jV k).1,(q.jV k).2)else mY l (q.jV k).1
def QS.iD(q:QS)(fr til:rd):QS×Int×Int:=
 if(q.dW gM fr til []).e≠0 then((q.dW gM fr til []).q,0,(q.dW gM fr til []).e)
 else if(mY (q.dW gM fr til []).s (q.dW gM fr til []).q).2≠0 then((mY (q.dW gM fr til []).s (q.dW gM fr til []).q).1,0,(mY (q.dW gM fr til []).s (q.dW gM fr til []).q).2)
 else((mY (q.dW gM fr til []).s (q.dW gM fr til []).q).1,((q.dW gM fr til []).s.length:Nat),0)
theorem Qt{q:QS}(h:TQ w tb I F q n K)(hK:K<=999900000000)(fr til:rd):
  eq prog 22 #[tp tb,U2 fr,U2 til] w λe w'=>e=BY (U8 #[U5 By (q.iD fr til).2.1,U5 By (q.iD fr til).2.2])/\PT w w' I F (q.iD fr til).1 n (K+30000000):=by
 have hmf:∀(fn:Fn) (first cap:Array YO) (w:YB),(Instr.makeFunc fn first cap).run prog w=.ok (.func fn first cap) w:=λ_ _ _ _=>rfl;obtain⟨z,hz⟩:∃z,w.heap.size=z:=⟨_,rfl⟩;have aO:=i6 w (WF #[U3 none 0 0] 123);have c0:=aF.new w 123 #[U3 none 0 0];rw[hz]at c0;have hI:ss z (w.alloc (WF #[U3 none 0 0] 123)) [] [z]:=⟨none,0,rfl,c0,aM.nil _ _ _⟩;have ef:=h.lt
 have KE:=yA (UR z) (h.below aO) (by omega) fr til hI (λg hg hm=>by have:=ef g hg;simp at hm;omega) rfl;have KD:=xh (λ(W:YB) (Fj:List Nat) (qj:QS) (kj:Nat) (hW:TQ W tb I Fj qj n kj) (hk:kj<=999999970000) (key:rd)=>Lr hW hk key);obtain⟨RR,bS⟩:∃RR,q.iD fr til=RR:=⟨_,rfl⟩;rw[bS];unfold QS.iD at bS;obtain⟨R,hR⟩:∃R,q.dW gM fr til []=R:=⟨_,rfl⟩;rw[hR]at KE bS;have fQ:=xh bS;have KE:=xh KE;have JL:=xh aO
 have HZ:=xh hz;have rC:=xh ef;have HNE:=xh h.ne;clear bS aO hI ef h hR c0;unfold lp at KE;unfold tp at *;go_in;go_wp2_with fail;go_call KE.o as e w3 ⟨rfl,G,a1,a2,a3,a4,a5,a6⟩;obtain⟨A,c,hG,b1,b3⟩:=a2;obtain⟨l,hl⟩:∃l,R.s=l:=⟨_,rfl⟩;obtain⟨er,vN⟩:∃er,R.e=er:=⟨_,rfl⟩;obtain⟨qr,hqr⟩:∃qr,R.q=qr:=⟨_,rfl⟩;obtain⟨k,hk⟩:∃k,l.length=k:=⟨_,rfl⟩;rw[hl]at b1 b3 hG a5;rw[hk]at b1 b3 hG a5;rw[hqr]at a1;have kO:=fQ.o
 rw[hl,vN,hqr]at kO;rw[vN];have o3:ag F w w3:=(ag.aj (S:=F) JL.o).aU a3 (λg hg hl=>(ay.1 hg).elim id (λhg=>by have:=HZ.o;simp at hg;omega));have hG3:∀g∈G,w.heap.size<=g:=λg hg=>(a4 g hg).elim (λh=>by have:=HZ.o;simp at h;omega) (λh=>aq JL.o.size h)
 by_cases he:er=0
 .subst he;rw[i8]at kO;have fQ:=xh kO;have H3:=xh (show TQ w3 tb I F qr n (K+513)/\aM w3 9 1 (U3 A k c) k (IZ l)/\ag F w w3/\(∀g∈tb::F,g∉z::ah (U3 A k c))/\aF w3 z 123 #[U3 A k c]/\k<=57*513 from
   ⟨a1,b3,o3,λg hg hm=>a6 g hg (by rw[hG];exact hm),b1,a5⟩)
  have x1:=b1.bi 0;have hlen:=H3.o.2.2.2.2.2;have VE:=xh hk;have zO:w.heap.size<=w3.heap.size:=o3.size;have hob:OB w.heap.size w w3 F F:=⟨F,o3,λg hg=> .inl hg,λg hg=> .inl hg⟩;have HOB:=xh hob;obtain⟨DD,hDD⟩:∃DD,mY l qr=DD:=⟨_,rfl⟩;rw[hDD]at kO;have fQ:=xh kO;have HDD:=xh hDD;clear kO hDD hk a1 a3 a4 a5 a6 b1 b3 o3 hG3 hl vN hqr hob;go_wp2_with fail
  go_loopw [26] (λiv wr=> ∃(i:Nat) (qi:QS) (Fi:List Nat),i<=k/\iv=U5 By (i:Nat)/\Hid (mY (l.drop i) qi=DD)/\Hid (TQ wr tb I Fi qi n (K+513+700*i)/\aM wr 9 1 (U3 A k c) k (IZ l)/\aF wr z 123 #[U3 A k c]/\(∀g∈tb::Fi,g∉z::ah (U3 A k c))/\OB w.heap.size w wr F Fi)) (λiv _=>k-(intOf iv).toNat)
  case atStart=>exact⟨0,qr,F,by omega,rfl,HDD,xh ⟨H3.o.1,H3.o.2.1,H3.o.2.2.2.2.1,H3.o.2.2.2.1,HOB.o⟩⟩
  case round=>
   obtain⟨i,qi,Fi,hi,rfl,HV,HA⟩:=hrel
   by_cases xd:i<k
   .have hikI:(i:Int)<(k:Int):=by omega
    obtain⟨x,hx⟩:∃x,l[i]?=some x:=⟨_,aH (by rw[VE.o];exact xd)⟩;obtain⟨ga,ca,zk,Eh,BA,hca1,hca2⟩:=HA.o.2.1.form (by omega) (by omega);injection Eh with e1 e2 e3
    subst e1 e3;have xc:wr.cell? ⟨ga,i,none⟩=some (U2 x):=BA.ab (by
     rw[cN,bE (by simp[IZ];rw[VE.o];exact xd)];simp[IZ,hx])
    have Km:l.drop i=x::l.drop (i+1):=by rw[<-List.getElem_cons_drop (h:=by rw[VE.o];exact xd)];congr 1;have:=hx;rw[aH (by rw[VE.o];exact xd)]at this;injection this
    have vj:=HV.o;rw[Km]at vj;unfold mY at vj;have KX:=KD.o wr Fi qi (K+513+700*i) HA.o.1 (by omega) x;obtain⟨RV,hRV⟩:∃RV,qi.jV x=RV:=⟨_,rfl⟩;rw[hRV]at KX vj;have KX:=xh KX;have Zo:=xh vj;clear hx vj Km hRV BA hca2;go_wp2_with fail;go_call KX.o as e w5 ⟨rfl,F5,p1,p2,p3⟩;have Vy:=p2.size;have hFd:∀g∈Fi,g∉z::ah (U3 (lc ga) k c):=λg hg=>HA.o.2.2.2.1 g (bK _ hg)
    have S5:=HA.o.2.1.only p2 (λg hg hm=>hFd g hm (bK _ hg));have C5:=HA.o.2.2.1.only p2 (λhm=>hFd z hm (by simp));have hel:∀g∈z::ah (U3 (lc ga) k c),g<wr.heap.size:=λg hg=>by
     rcases ar.1 hg with rfl|hg
     .exact HA.o.2.2.1.lt
     .exact HA.o.2.1.lt g hg
    obtain⟨q5,e5⟩:=RV;dsimp only at *;have H5:=xh (show TQ w5 tb I F5 q5 n (K+513+700*(i+1))/\aM w5 9 1 (U3 (lc ga) k c) k (IZ l)/\aF w5 z 123 #[U3 (lc ga) k c]/\(∀g∈tb::F5,g∉z::ah (U3 (lc ga) k c))/\OB w.heap.size w w5 F F5 from
     ⟨⟨HA.o.1.1.only p2 HA.o.1.ne,p1.le (by omega)⟩,S5,C5,λg hg hm=>by
      rcases ar.1 hg with rfl|hg
      .exact HA.o.2.2.2.1 _ (by simp) hm
      .rcases p3 g hg with h1|h1
       .exact hFd g h1 hm
       .have:=hel g hm;omega,HA.o.2.2.2.2.step (ai _) p2 p3⟩)
    clear p1 p2 p3 Vy hFd S5 C5 hel
    by_cases Qs:e5=0
    .subst Qs;have h9:=Zo.o;rw[i8]at h9;have HV9:=xh h9;clear h9;go_wp2_with fail;go_roundw
     case rel=>exact⟨i+1,q5,F5,by omega,by first|rfl|simp,HV9,H5⟩
     case measure=>simp[intOf];omega
    .have h9:=Zo.o;rw[if_pos Qs]at h9;have h8:=fQ.o;rw[<-h9,if_pos Qs]at h8;have hq:(e5 != 0)=true:=ls Qs
     have my:(e5==0)=false:=i4 Qs
     have HV9:=xh h8;clear h9 h8;go_wp2;go_ret2;have h9:=HV9.o;subst h9;exact aI ((H5.o.2.2.2.2.pb (H5.o.1.2.le (by omega))).pt (by first|exact ai _|(have:=HZ.o;omega)))
   .have hikI:¬(i:Int)<(k:Int):=by omega
    have JE:l.drop i=[]:=lJ (by rw[VE.o];omega);have h9:=HV.o;rw[JE]at h9;have h8:=fQ.o;rw[<-h9]at h8;have h8:(qi,((l.length:Nat):Int),(0:Int))=RR:=by unfold mY at h8;rw[i8]at h8;exact h8
    have x1:=HA.o.2.2.1.bi 0;have HV9:=xh h8;clear h9 JE h8;go_wp2;go_ret2;have h9:=HV9.o;subst h9;exact⟨by rw[VE.o];first|rfl|simp,(HA.o.2.2.2.2.pb (HA.o.1.2.le (by omega))).pt (by first|exact ai _|(have:=HZ.o;omega))⟩
 .rw[if_pos he]at kO;have hq:(er != 0)=true:=ls he
  have my:(er==0)=false:=i4 he
  have H3:=xh<|io a1 o3;have fQ:=xh kO;clear kO hk a1 a3 a4 a5 a6 b1 b3 o3 hG3 hl vN hqr;go_wp2;go_ret2;have h9:=fQ.o;subst h9;exact aI ⟨F,H3.o.1.2.le (by omega),H3.o.2,λg hg=> .inl hg⟩
end Sh
namespace Sh
open Go.RowKit Pk Dk Pg
open Nd (E aS aZ et bI bg cG bR an dO)
variable{q:QS}{v:Vw}{u H:Nat}{M:List MT}
def k9(fr til:rd)(x:PR):Bool:=zA fr til x.1
theorem Ge(n:Int):∀(l s:List E),(fR (j6 n) l s).1=s++l.take (n-(s.length:Nat)).toNat
 |[],s=>by simp[fR]
 |x::l,s=>by
  unfold fR j6
  by_cases h:(s.length:Int)<n
  .rw[if_pos h];obtain⟨k,hk⟩:∃k:Nat,(n-(s.length:Nat)).toNat=k+1:=⟨(n-(s.length:Nat)).toNat-1,by omega⟩;have hl:((s++[x]).length:Int)=s.length+1:=by simp
   rw[hk,qe]
   by_cases h2:((s++[x]).length:Int)<n
   .rw[decide_eq_true h2,if_pos rfl];dsimp only;have:=Ge n l (s++[x]);unfold j6 at this;rw[this,show(n-((s++[x]).length:Nat)).toNat=k by omega];simp
   .rw[decide_eq_false h2,i8];have:k=0:=by omega
    subst this;simp
  .rw[if_neg h,decide_eq_false h,i8,show(n-(s.length:Nat)).toNat=0 by omega];simp
theorem Gf:∀(l:List E) (s:Option E),(fR ju l s).1=match l.getLast? with|none=>s|some x=>some x
 |[],s=>rfl
 |[x],s=>by simp[fR,ju]
 |x::y::l,s=>by
  have h:fR ju (x::y::l) s=fR ju (y::l) (some x):=by simp[fR,ju]
  rw[h,Gf (y::l) (some x),List.getLast?_cons_cons]
  cases h2:(y::l).getLast? with
  |none=>simp at h2
  |some z=>rfl
theorem DG:∀(l:List E) (s:List rd),(fR gM l s).1=s++l.map (λe=>e.key)
 |[],s=>by simp[fR]
 |x::l,s=>by
  have h:fR gM (x::l) s=fR gM l (s++[x.key]):=by simp[fR,gM]
  rw[h,DG l (s++[x.key])];simp
def inM(fr til:rd)(M:List MT):List MT:=M.filter λm=>zA fr til m.1.key
theorem Zp(fr til:rd)(M:List MT):vu fr til (M.map λm=>m.1)=(inM fr til M).map λm=>m.1:=by
 unfold vu inM;rw[List.filter_map];rfl
theorem Zq(fr til:rd)(M:List MT):jy (inM fr til M)=(jy M).filter (k9 fr til):=by
 unfold jy inM;rw[List.filter_map];rfl
section
variable{o:Vw}{mm:Nat}
theorem Gg:∀(Ms:List MT) (q:QS) (v:Vw) (u:Nat) (out:List PR),Rd q v o u mm->(∀m∈Ms,VN v m.1 m.2.1 m.2.2)->
  Rd (kK (Ms.map λm=>m.1) q out).1 v o u mm/\((kK (Ms.map λm=>m.1) q out).2=(out++jy Ms,0)\/((kK (Ms.map λm=>m.1) q out).2.2=11/\mm<=u))
 |[],q,v,u,out,R,_=>⟨R,.inl (by simp[kK])⟩
 |m::Ms,q,v,u,out,R,h=>by
  obtain⟨g1,g2⟩:=vi R (h m (by simp));rw[fA];unfold kK
  rcases g2 with g2|⟨g2,g3⟩
  .rw[g2,i8];obtain⟨a,b⟩:=Gg Ms (q.eH m.1).1 v u (out++[(m.1.key,m.2.1)]) g1 (λx hx=>h x (by simp[hx]));refine⟨a,b.imp (λe=>?_) id⟩;rw[e,LM];simp
  .rw[if_pos (by rw[g2];simp)];exact⟨g1,.inr ⟨g2,g3⟩⟩
theorem Tree.le(R:Rd q v o u mm)(T:Tree v H M):(aL v H 0).length<=512:=by
 have:=Zj R (fj.1 T.LH).1 T.zy;simpa [bG]using this
theorem Gh(R:Rd q v o u mm)(T:Tree v H M)(hH:H<=15)(fr til:rd)(n:Int):
  Rd (q.fS fr til n).1 v o u mm/\(((q.fS fr til n).2.2=11/\mm<=u)\/(q.fS fr til n).2=(((jy M).filter (k9 fr til)).take n.toNat,0)):=by
 obtain⟨a,b⟩:=yz (j6 n) fr til R T.ok hH (T.le R) [];unfold QS.fS
 rcases b with⟨b1,b2⟩|⟨b1,b2⟩
 .rw[if_pos (by rw[b1];simp)];exact⟨a,.inl ⟨b1,b2⟩⟩
 .rw[if_neg (by rw[b1];simp),b2,Ge,<-T.en,Zp,cQ,<-l6];obtain⟨c,d⟩:=Gg ((inM fr til M).take (n-(([]:List E).length:Nat)).toNat) _ v u [] a (λm hm=>T.va m ((eA.1 (gv hm)).1));refine⟨c,d.symm.imp id (λe=>?_)⟩;rw[e,cQ,<-Zq];unfold jy;rw[l6,show(n-(([]:List E).length:Nat)).toNat=n.toNat by simp]
theorem UU(R:Rd q v o u mm)(T:Tree v H M)(hH:H<=15)(fr til:rd):
  Rd (q.gF fr til).1 v o u mm/\(((q.gF fr til).2.2=11/\mm<=u)\/(q.gF fr til).2=match ((jy M).filter (k9 fr til)).getLast? with|none=>((⟨#[]⟩,⟨#[]⟩),9)|some x=>(x,0)):=by
 obtain⟨a,b⟩:=yz ju fr til R T.ok hH (T.le R) none;unfold QS.gF
 rcases b with⟨b1,b2⟩|⟨b1,b2⟩
 .rw[if_pos (by rw[b1];simp)];exact⟨a,.inl ⟨b1,b2⟩⟩
 .rw[if_neg (by rw[b1];simp),b2,Gf,<-T.en,Zp,<-Zq];unfold jy;rw[Nl,Nl]
  cases hl:(inM fr til M).getLast? with
  |none=>exact⟨a,.inr rfl⟩
  |some m=>
   have hm:m∈M:=(eA.1 (List.mem_of_getLast? hl)).1;dsimp only[Option.map];obtain⟨c,d⟩:=vi a (T.va m hm)
   rcases d with d|⟨d,d2⟩
   .rw[d,i8];exact⟨c,.inr rfl⟩
   .rw[if_pos (by rw[d];simp)];exact⟨c,.inl ⟨d,d2⟩⟩
theorem Tree.sorted :∀(h:Nat) (p:Int),nG v h p->(ie v h p).Pairwise λc e=>fw c.key e.key
 |0,p,ho=>by rw[IL];exact qJ ho.1
 |h+1,p,ho=>by
  rw[IL];show(ct (bz v h (iX v p).2.1)).Pairwise _;have d:=ho.2.2.2;have key:∀(l:List E),(∀e∈l,nG v h e.aY)->(l.Pairwise λc e=> ∀x∈ie v h c.aY,fw x.key e.key)->(∀e∈l.tail,∀x∈ie v h e.aY,ox e.key x.key)->(ct (bz v h l)).Pairwise λc e=>fw c.key e.key:=by
   intro l
   induction l with
   |nil=>intro _ _ _;exact List.Pairwise.nil
   |cons e l ih=>
    intro h1 h2 h3;rw[eC]at h2;rw[gu,eE,eB];refine⟨Tree.sorted h e.aY (h1 e (by simp)),ih (λx hx=>h1 x (by simp[hx])) h2.2 (λx hx=>h3 x (vy hx)),λx hx y hy=>?_⟩;obtain⟨z,hz,hy⟩:=dY.1 hy;exact hX (h2.1 z hz x hx) (h3 z hz y hy)
  exact key _ (λe he=>(d.c e he).1) d.lo d.hi
theorem Tree.keys(T:Tree v H M):(jy M).Pairwise λa b=>fw a.1 b.1:=by
 have h:=Tree.sorted H 0 T.ok;rw[<-T.en,vB]at h;unfold jy;rw[vB];exact h
structure ClrP(v v':Vw)(H:Nat)(M:List MT)(H':Nat)(M':List MT)(P:PR->Bool):Prop where
 t:Tree v' H' M'
 m:jy M'=(jy M).filter P
 FZ:∀wt,eU wt (aL v' H' 0)<=eU wt (aL v H 0)
 h:H'<=H
theorem Gj:∀(ks:List rd) (q:QS) (v:Vw) (u H:Nat) (M:List MT),Rd q v o u mm->Tree v H M->H<=15->ks.Nodup->(∀k∈ks,∃x∈jy M,x.1=k)->
  ((mY ks q).2=11/\mm<=u/\∃v',Rd (mY ks q).1 v' o u mm)\/
  ((mY ks q).2=0/\∃v' H' M',Rd (mY ks q).1 v' o u mm/\ClrP v v' H M H' M' λx=>ks.all λk=> !decide (x.1=k))
 |[],q,v,u,H,M,R,T,_,_,_=> .inr ⟨rfl,v,H,M,R,T,(xr.2 (λ_ _=>rfl)).symm,λ_=>ai _,ai _⟩
 |k::ks,q,v,u,H,M,R,T,hH,hn,hk=>by
  rw[gV]at hn;unfold mY
  rcases LY R T hH k with⟨d1,d2,v',d3⟩|⟨d1,d2,A,B,d3⟩|⟨d1,v1,H1,M1,A,B,y,d2,d3⟩
  .rw[if_pos (by rw[d1];simp)];exact .inl ⟨d1,d2,v',d3⟩
  .exfalso;obtain⟨x,hx,rfl⟩:=hk k (by simp);rw[d3.e,cQ]at hx
   rcases ay.1 hx with hx|hx
   .exact gC (d3.a x hx)
   .exact gC (d3.b x hx)
  .rw[if_neg (by rw[d1];simp)];have hA:∀x∈A,x.1≠k:=λx hx e=>gC (by have:=d3.d.a x hx;rwa [e]at this);have hB:∀x∈B,x.1≠k:=λx hx e=>gC (by have:=d3.d.b x hx;rwa [e]at this);have hf:jy M1=(jy M).filter λx=> !decide (x.1=k):=by
    rw[d3.m,d3.d.e,ri,ri];have e1:A.filter (λx=> !decide (x.1=k))=A:=xr.2 λx hx=>by rw[decide_eq_false (hA x hx)];rfl
    have e2:B.filter (λx=> !decide (x.1=k))=B:=xr.2 λx hx=>by rw[decide_eq_false (hB x hx)];rfl
    rw[e1,e2];simp
   rcases Gj ks (q.jV k).1 v1 u H1 M1 d2 d3.t (by have:=d3.h;omega) hn.2 (λk' hk'=>by
    obtain⟨x,hx,e⟩:=hk k' (by simp[hk']);refine⟨x,?_,e⟩;rw[hf,eA];exact⟨hx,by rw[decide_eq_false (λe2=>hn.1 (by rw[<-e2,e];exact hk'))];rfl⟩)with i|⟨i1,v',H',M',i2,CC⟩
   .exact .inl i
   .refine .inr ⟨i1,v',H',M',i2,CC.t,?_,λwt=>aq (CC.FZ wt) (d3.FZ wt),aq CC.h d3.h⟩;rw[CC.m,hf,oQ]
    congr 1
    funext x
    rw[List.all_cons,EJ]
theorem Qu(R:Rd q v o u mm)(T:Tree v H M)(hH:H<=15)(fr til:rd):
  ((q.iD fr til).2.2=11/\mm<=u/\∃v',Rd (q.iD fr til).1 v' o u mm)\/
  ((q.iD fr til).2=(((((jy M).filter (k9 fr til)).length:Nat):Int),0)/\∃v' H' M',Rd (q.iD fr til).1 v' o u mm/\ClrP v v' H M H' M' λx=> !k9 fr til x):=by
 obtain⟨a,b⟩:=yz gM fr til R T.ok hH (T.le R) [];unfold QS.iD
 rcases b with⟨b1,b2⟩|⟨b1,b2⟩
 .rw[if_pos (by rw[b1];simp)];exact .inl ⟨b1,b2,v,a⟩
 .rw[if_neg (by rw[b1];simp),b2,DG,<-T.en,Zp,cQ,gR];have hks:(inM fr til M).map ((λe:E=>e.key) ∘ λm=>m.1)=((jy M).filter (k9 fr til)).map Prod.fst:=by
   rw[<-Zq];unfold jy;rw[gR];rfl
  rw[hks];have nh:((jy M).filter (k9 fr til)).Pairwise λa b=>fw a.1 b.1:=T.keys.sublist GN;have EK:(((jy M).filter (k9 fr til)).map Prod.fst).Nodup:=by
   rw[GV,vB];exact nh.imp (λ{a b} h (e:a.1=b.1)=>gC (a:=b.1) (by rw[e]at h;exact h))
  rcases Gj _ _ v u H M a T hH EK (λk hk=>by
   obtain⟨x,hx,rfl⟩:=cr.1 hk;exact⟨x,(eA.1 hx).1,rfl⟩)with⟨i1,i2,i3⟩|⟨i1,v',H',M',i2,CC⟩
  .rw[if_pos (by rw[i1];simp)];exact .inl ⟨i1,i2,i3⟩
  .rw[if_neg (by rw[i1];simp)];refine .inr ⟨by rw[bM],v',H',M',i2,CC.t,?_,CC.FZ,CC.h⟩;rw[CC.m];apply List.filter_congr;intro x hx;have hi:(k9 fr til x=true)↔x.1∈((jy M).filter (k9 fr til)).map Prod.fst:=by
    refine⟨λh=>cr.2 ⟨x,eA.2 ⟨hx,h⟩,rfl⟩,λhm=>?_⟩;obtain⟨y,hy,e⟩:=cr.1 hm;have:=(eA.1 hy).2;unfold k9 at this ⊢;rw[<-e];exact this
   by_cases hb:k9 fr til x=true
   .rw[hb];have hm:=hi.1 hb;show _=false;rw[<-GG,oN];intro h;have:=h _ hm;rw[decide_eq_true rfl]at this;exact absurd this (by simp)
   .have cf:k9 fr til x=false:=by simpa using hb
    rw[cf];show _=true;rw[oN];intro k hk;rw[decide_eq_false (λe=>hb (hi.2 (by rw[e];exact hk)))];rfl
end
theorem tO(q:QS):∀i,(q.bl i).1.mes=q.mes
 |0=>rfl
 |i+1=>by
  rw[wi]
  split
  .exact tO q i
  .rw[Dh];exact tO q i
theorem Gk(q:QS):∀i,(q.bl i).2=11->∃q':QS,q'.mes=q.mes/\q'.a.free=0
 |0,h=>absurd h (by show ¬(0:Int)=11;decide)
 |i+1,h=>by
  rw[wi]at h
  split at h
  .exact Gk q i h
  .exact⟨(q.bl i).1,tO q i,Lt h⟩
theorem Gl{a b:Nat}(h:a<=b):cU a<=cU b:=by unfold cU;omega
section
variable{q:QS}{v o:Vw}{u m:Nat}
theorem Rd.kx(h:Rd q v o u m)(hK:∃n K,Wp q n K/\K<=999999999000):
  (q.aQ.2=0/\Rd q.aQ.1 v v (u+u+cU u) m)\/(q.aQ.2=11/\Rd q.aQ.1 v o u m/\m<u+cU u+1):=by
 obtain⟨n,K,w,hk⟩:=hK;obtain⟨c1,c2,c3⟩:=w.kx hk;have hb:=tO q q.l.length;obtain⟨e1,e2,e3⟩:=wN hb;have oq:q.aQ.1.a.many=q.a.many/\((q.aQ.2=0->q.aQ.1.a.now.length+q.aQ.1.a.kept<=u+u+cU u)/\(q.aQ.2=11->q.aQ.1.mes=q.mes/\m<u+cU u+1)):=by
  have hu:=h.u;have hm:=h.m;unfold QS.aQ;rw[if_neg (by rw[Ci w.N];omega)]
  by_cases qX:(q.bl q.l.length).2=0
  .rw[if_neg (by rw[qX];simp)];unfold St.aQ
   by_cases hf:(q.bl q.l.length).1.a.free<cU (q.bl q.l.length).1.a.eJ.length
   .rw[if_pos hf];refine⟨e2,λh0=>absurd h0 (by show ¬(11:Int)=0;decide),λ_=>⟨hb,?_⟩⟩;have h1:=BM (q.bl q.l.length).1.a;have h2:=Gl (a:=(q.bl q.l.length).1.a.eJ.length) (b:=u) (by omega);have h3:(q.bl q.l.length).1.a.fresh<=(q.bl q.l.length).1.a.now.length:=xj;unfold St.free at hf;omega
   .rw[if_neg hf];refine⟨e2,λ_=>?_,λh0=>absurd h0 (by show ¬(0:Int)=11;decide)⟩;have h1:=BM (q.bl q.l.length).1.a;have h2:=Gl (a:=(q.bl q.l.length).1.a.eJ.length) (b:=u) (by omega);show(jr (q.bl q.l.length).1.a.eJ).length+((q.bl q.l.length).1.a.eJ.countP Option.isSome+cU (q.bl q.l.length).1.a.eJ.length)<=_;have h3:(q.bl q.l.length).1.a.eJ.countP Option.isSome<=(q.bl q.l.length).1.a.eJ.length:=xj
    rw[JY];omega
  .rw[if_pos (by exact qX)];refine⟨e2,λh0=>absurd h0 qX,λLo=>⟨hb,?_⟩⟩;obtain⟨q',f1,f2⟩:=Gk q _ Lo;obtain⟨g1,g2,g3⟩:=wN f1;have:=Lv (a:=q'.a) (u:=u) (by omega)
   rcases fC u q'.a.many with h9|h9
   .exact absurd f2 (this h9)
   .omega
 obtain⟨s1,s2,s3⟩:=oq
 rcases c3 with⟨c3,c4⟩|⟨c3,c4⟩
 .exact .inl ⟨c3,⟨⟨n,_,c1⟩,λj=>(c2 j).trans (h.v j),λj=>(c4 j).trans (h.v j),s2 c3,by rw[s1];exact h.m⟩⟩
 .obtain⟨s4,s5⟩:=s3 c3;obtain⟨g1,g2,g3⟩:=wN s4;exact .inr ⟨c3,⟨⟨n,_,c1⟩,λj=>(c2 j).trans (h.v j),λj=>(c4 j).trans (h.o j),by rw[g1];exact h.u,by rw[s1];exact h.m⟩,s5⟩
theorem Rd.abort(h:Rd q v o u m):∃u',Rd q.cq o o u' m:=by
 obtain⟨n,K,w⟩:=h.w;obtain⟨a1,a2,a3⟩:=w.abort;exact⟨_,⟨n,K,a1⟩,λj=>(a2 j).trans (h.o j),λj=>(a3 j).trans (h.o j),ai _,h.m⟩
theorem Qv(q:QS)(hl:1<=q.l.length)(p:Int):(q.cq.bh p).2.2≠11:=by
 have hn:∀f∈q.cq.l,f=Fr.nil:=λf hf=>oP hf;have hlen:q.cq.l.length=q.l.length:=eR;have hf0:findF q.cq.l p= -1:=by
  rcases ix q.cq.l p with e|⟨k,f,e,hk,he,hp⟩
  .exact e
  .rw[hn f (aA hk)]at he;exact absurd he (by show ¬(-1:Int)=p;omega)
 intro h;unfold QS.bh at h;rw[if_neg (by rw[hf0];omega)]at h
 split at h
 .rename_i h1;have h:(q.cq.a.aP p).2=11:=h;unfold St.aP at h
  split at h
  .exact absurd h (by simp)
  .exact absurd h (by simp)
 .split at h
  .exact absurd h (by simp)
  .split at h
   .have h:(q.cq.aN.1.cA q.cq.aN.2.toNat).2=11:=h;have h0:q.cq.l[0]?=some Fr.nil:=by
     rw[aH (by omega)];exact congrArg some (hn _ (jS _))
    have hix:Jm (λf=>decide (f.ao<0)) q.cq.l=((0:Nat):Int):=vS h0 (by decide) (λj a hj _=>absurd hj (by omega));have hv:q.cq.aN=(q.cq,((0:Nat):Int)):=by
     unfold QS.aN;rw[hix,g8]
    rw[hv]at h;have hb:q.cq.cA 0=(q.cq,0):=by
     unfold QS.cA;rw[oU h0,if_neg (by decide)]
    have h:(q.cq.cA 0).2=11:=h;rw[hb]at h;exact absurd h (by simp)
   .exact absurd h (by simp)
theorem Qw(h:Rd q v o u m)(p:Int):(q.cq.bF p).2=iX o p:=by
 obtain⟨u',R⟩:=h.abort;obtain⟨n,K,w⟩:=h.w;obtain⟨a,b⟩:=R.get p;have fF:(q.cq.dN p).2.2≠11:=λe=>by
  unfold QS.dN at e
  split at e
  .exact Qv q w.H.l1 p e
  .exact absurd e (by simp)
 unfold QS.bF iX
 rcases b with⟨b1,b2⟩|⟨b1,b2⟩|⟨b1,b2⟩
 .rw[b2,i8,gc]
 .rw[b2,b1,i9,i9]
 .exact absurd (by rw[b1]) fF
theorem Mc(w:∃n K,Wp q n K){j:Int}(h0:(q.vw j).2=0):q.a.je.length≠0:=by
 obtain⟨n,K,w⟩:=w;have h1:(q.a.aP j).2=0:=by
  rcases iA q j with ho|⟨k,f,hk,rfl,hp⟩
  .rw[eW ho]at h0;exact h0
  .exact w.V.ex f (aA hk) hp
 have h2:=wj.1 h1;obtain⟨h3,h4⟩:=pA h2;unfold St.at at h2;rw[if_pos h3]at h2;unfold St.je;rw[yR _ _ (ai _),fX];intro hz;rw[M8]at hz
 cases hx:q.a.now[j.toNat]? with
 |none=>rw[hx]at h2;cases h2
 |some x=>
  rw[hx]at h2;exact hz x (aA hx) h2
theorem Qx{H:Nat}{M:List MT}(R:Rd q v o u m)(T:Tree o H M):∃u',Rd q.cq.j0.1 o o u' m/\q.cq.j0.2=0:=by
 obtain⟨u',R'⟩:=R.abort;have h0:(o 0).2=0:=T.zy 0 (by rw[oM];simp);have hp:=Mc R'.w (j:=0) (by rw[R'.v];exact h0);unfold QS.j0 QS.wL;rw[if_neg hp,i8];refine⟨u',(R'.read 0).1,?_⟩;show(q.cq.bF 0).2.2.2=0;rw[Qw R,(IM T.ok).1]
end
variable{q:QS}{v:Vw}{u H:Nat}{M:List MT}
def qZ(l:List PR)(key:rd):List PR:=l.filter λx=>decide (fw x.1 key)
def oZ(l:List PR)(key:rd):List PR:=l.filter λx=>decide (x.1=key)
def kL(l:List PR)(key:rd):List PR:=l.filter λx=>decide (fw key x.1)
theorem filter_all{α:Type}{p:α->Bool}{l:List α}(h:∀x∈l,p x=true):l.filter p=l:=xr.2 h
theorem filter_none{α:Type}{p:α->Bool}{l:List α}(h:∀x∈l,p x=false):l.filter p=[]:=Ng.2 λx hx=>by rw[h x hx];simp
theorem lY{a b:rd}(h:fw a b):a≠b:=λe=>gC (by rwa [e]at h)
theorem Qm.parts{l:List PR}{key:rd}{A C B:List PR}(d:Qm l key A C B):A=qZ l key/\C=oZ l key/\B=kL l key:=by
 have hC:∀x∈C,x.1=key:=λx hx=>by
  rcases d.c with h|⟨y,h⟩
  .rw[h]at hx;simp at hx
  .rw[h]at hx;rw[az.1 hx]
 unfold qZ oZ kL;rw[d.e];simp only[ri];refine⟨?_,?_,?_⟩
 .rw[filter_all (l:=A) (λx hx=>decide_eq_true (d.a x hx)),filter_none (l:=C) (λx hx=>decide_eq_false (λh=>lY h (hC x hx))),filter_none (l:=B) (λx hx=>decide_eq_false (λh=>gC (fc h (d.b x hx))))];simp
 .rw[filter_none (l:=A) (λx hx=>decide_eq_false (lY (d.a x hx))),filter_all (l:=C) (λx hx=>decide_eq_true (hC x hx)),filter_none (l:=B) (λx hx=>decide_eq_false (λh=>lY (d.b x hx) h.symm))];simp
 .rw[filter_none (l:=A) (λx hx=>decide_eq_false (λh=>gC (fc h (d.a x hx)))),filter_none (l:=C) (λx hx=>decide_eq_false (λh=>lY h (hC x hx).symm)),filter_all (l:=B) (λx hx=>decide_eq_true (d.b x hx))];simp
def pQ(l:List PR)(key value:rd):List PR:=qZ l key++(key,value)::kL l key
def uk(l:List PR)(key:rd):List PR:=qZ l key++kL l key
theorem wt1:Qi (λ_=>1) 34:=λ_=>by show 39*1+34<=73*1;omega
section
variable{o:Vw}{mm:Nat}
theorem yE(R:Rd q v o u mm)(T:Tree v H M)(hH:H<=15)(key value:rd)(hk:key.size<=32)(hv:value.size<=1024):
  ((q.gE key value).2=11/\∃v' u',Rd (q.gE key value).1 v' o u' mm/\u'<=u+H+8/\(mm<=u'\/512<=u'))\/
  ((q.gE key value).2=0/\∃v' H' M' new A C B h c,Rd (q.gE key value).1 v' o (u+new) mm/\SetP v v' H M key value H' M' new A C B h c/\jy M'=pQ (jy M) key value):=by
 refine(Zd R T hH key value hk hv).imp id ?_;rintro⟨h1,v',H',M',new,A,C,B,h,c,h2,h3⟩;obtain⟨d1,d2,d3⟩:=h3.d.parts;exact⟨h1,v',H',M',new,A,C,B,h,c,h2,h3,by rw[h3.m,d1,d3];rfl⟩
theorem qK(R:Rd q v o u mm)(T:Tree v H M)(hH:H<=15)(key:rd):
  Rd (q.fm key).1 v o u mm/\(((q.fm key).2.2=11/\mm<=u)\/(q.fm key).2=LR (oZ (jy M) key)):=by
 obtain⟨a,b⟩:=Za R T hH key;refine⟨a,b.imp id ?_⟩;rintro⟨A,C,B,d,e⟩;rw[e,d.parts.2.1]
theorem UW(R:Rd q v o u mm)(T:Tree v H M)(hH:H<=15)(key:rd):
  ((q.jV key).2=11/\mm<=u/\∃v',Rd (q.jV key).1 v' o u mm)\/
  ((q.jV key).2=9/\Rd (q.jV key).1 v o u mm/\oZ (jy M) key=[])\/
  ((q.jV key).2=0/\oZ (jy M) key≠[]/\∃v' H' M',Rd (q.jV key).1 v' o u mm/\Tree v' H' M'/\jy M'=uk (jy M) key/\(∀wt,eU wt (aL v' H' 0)<=eU wt (aL v H 0))/\H'<=H):=by
 refine(LY R T hH key).imp id (Or.imp ?_ ?_)
 .rintro⟨a,b,A,B,d⟩;exact⟨a,b,d.parts.2.1.symm⟩
 .rintro⟨a,v',H',M',A,B,y,b,d⟩;obtain⟨d1,d2,d3⟩:=d.d.parts;exact⟨a,by rw[<-d2];simp,v',H',M',b,d.t,by rw[d.m,d1,d3];rfl,d.FZ,d.h⟩
end
variable{w:YB}{n sb tb Kz:Nat}{I:Ix}{F:List Nat}{q:QS}{fr:Bool}
def Md(s l:Nat):pu:=[UInt8.ofNat (65+s),UInt8.ofNat l]
def aD(s l:Nat):rd:=⟨(Md s l).toArray⟩
theorem pR(s l:Nat)(hs:s<=7)(hl:l<=6)(w:YB):
  eq prog 97 #[.agg #[(s:Nat),(l:Nat)]] w λe w'=>e=BY (U2 (aD s l))/\i7 w w':=by
 have qX:=i6 w (WF #[(s:Nat),(l:Nat)] 177);have P0:=aF.new w 177 #[(s:Nat),(l:Nat)];have x0:=P0.bi 0;have x1:=P0.bi 1;obtain⟨w1,lD⟩:∃w1,w.alloc (WF #[(s:Nat),(l:Nat)] 177)=w1:=⟨_,rfl⟩;rw[lD]at qX x0 x1;have O0:=xh<|aC qX (i6 w1 (WF #[U5 .u8 (65+(s:Int)),U5 .u8 (l:Nat)] 5))
 have B0:=aF.new w1 5 #[U5 .u8 (65+(s:Int)),U5 .u8 (l:Nat)];have e1:IntKind.u8.wrap (65+(s:Int))=65+(s:Int):=IntWalk.u8_in _ (by omega);have e2:IntKind.u8.wrap (l:Int)=(l:Int):=IntWalk.u8_in _ (by omega);have e3:IntKind.i64.wrap (65+(s:Int))=65+(s:Int):=dl;have hb:dR (Md s l)=[U5 .u8 (65+(s:Int)),U5 .u8 (l:Nat)]:=by
  unfold Md dR bv;simp only[fA,oE,il];rw[show(((65+s) % 2 ^ 8:Nat):Int)=65+(s:Int) by omega,show((l % 2 ^ 8:Nat):Int)=(l:Int) by omega]
 have HR:=xh<|cu (P:=prog) _ 150 9 5 underlying150 underlying5 underlying9 ⟨w1.heap.size,0,none⟩ 2 2 (Md s l) rfl (bm (l:=dR (Md s l)) (by rw[hb];exact B0) 0 _ (by simp));have Ap:w1.heap.size=w.heap.size+1:=by rw[<-lD,gf]
 rw[Ap]at HR;clear B0 hb qX P0;subst lD;go_in;go_wp2_with fail;rw[HR.o];go_wp2;go_ret;exact aI O0.o
def ED(s l:Int)(rs:List rd):Int:=if s<0\/7<s\/l<0\/6<=l then 2 else if rs.all (λr=>decide (r.size<=30))=true then 0 else 2
def pS(l:List rd):List YO:=l.map Value.string
theorem tP(sb:Nat)(s l:Int)(hs:0<=s/\s<=7)(hl:0<=l/\l<6){A:Option Addr}{c:Nat}{rs:List rd}(S:aM w 9 1 (U3 A n c) n (pS rs))(hn:n<=100)(hr:∀r∈rs,r.size<=30):
  eq prog 95 #[lc sb,.agg #[s,l],U3 A n c] w λe w'=>e=BY (U5 By 0)/\i7 w w':=by
 have qX:=i6 w (WF #[s,l] 177);have P0:=aF.new w 177 #[s,l];have x0:=P0.bi 0;have x1:=P0.bi 1;have S1:=S.below qX;have qQ:rs.length=n:=by have:=S.1;simp[pS]at this;omega
 have HL:=xh qQ;have H0:=xh<|io S1 qX;obtain⟨Ap,hs2⟩:=hs;obtain⟨hl1,JI⟩:=hl;have n1:¬s<0:=by omega
 have n2:¬7<s:=by omega
 have n3:¬l<0:=by omega
 have n4:¬6<=l:=by omega
 clear S S1 qX P0 qQ;go_in;go_wp2_with fail
 go_loopw [33] (λiv wr=> ∃i:Nat,i<=n/\iv=U5 By (i:Nat)/\Below (w.alloc (WF #[s,l] 177)).heap.size (w.alloc (WF #[s,l] 177)) wr) (λiv _=>n-(intOf iv).toNat)
 case atStart=>exact⟨0,aW _,rfl,Below.refl _ _⟩
 case round=>
  obtain⟨i,hi,rfl,O⟩:=hrel
  by_cases h:i<n
  .have hI:(i:Int)<(n:Int):=by omega
   have S2:=H0.o.1.below O;obtain⟨g,cap,rest,hv,B,hc,kO⟩:=S2.form (by omega) (by omega);injection hv with e1 e2 e3
   subst e1 e3;obtain⟨r,hx⟩:∃r,rs[i]?=some r:=⟨_,aH (by rw[HL.o];exact h)⟩;have gZ:=hr r (aA hx);have VP:¬(30:Int)<(r.size:Int):=by omega
   have xc:wr.cell? ⟨g,i,none⟩=some (U2 r):=B.ab (by
    rw[cN,bE (by simp[pS];rw[HL.o];exact h)];simp[pS,hx])
   have HO:=xh O;clear S2 B kO O hx;go_wp2_with fail;go_roundw
   case rel=>exact⟨i+1,by omega,by go_num,HO.o⟩
   case measure=>simp[intOf];omega
  .have hI:¬(i:Int)<(n:Int):=by omega
   have HO:=xh<|aC H0.o.2 O;clear O;go_wp2;go_ret;exact aI HO.o
theorem iY(s l:Nat)(r:rd):(aD s l++r).size=2+r.size:=by rw[AJ];rfl
theorem wS(B:aF w sb 182 #[tp tb,pp I.pb,U6 fr])(T:TQ w tb I F q n Kz)(hK:Kz<=999999000000)(s l:Nat)(hs:s<=7)(hl:l<6)(r v:rd)(hr:r.size<=30)(hv:v.size<=100000):
  eq prog 46 #[lc sb,(s:Nat),(l:Nat),U2 r,U2 v] w λe w'=>e=BY (U5 By (q.gE (aD s l++r) v).2)/\PT w w' I F (q.gE (aD s l++r) v).1 n (Kz+100):=by
 obtain⟨z,hz⟩:∃z,w.heap.size=z:=⟨_,rfl⟩;have aO:=i6 w (WF #[(s:Nat),(l:Nat)] 177);have P0:=aF.new w 177 #[(s:Nat),(l:Nat)];obtain⟨w1,lD⟩:∃w1,w.alloc (WF #[(s:Nat),(l:Nat)] 177)=w1:=⟨_,rfl⟩;rw[lD]at aO P0;rw[hz]at P0;have Ap:w1.heap.size=z+1:=by rw[<-lD,gf,hz]
 have SR:aM (w1.alloc (WF #[U2 r] 9)) 9 1 (U3 (lc w1.heap.size) 1 1) 1 (pS [r]):=⟨rfl,.inr ⟨w1.heap.size,1,[],rfl,aF.new _ _ _,rfl,by decide⟩⟩;have cf:=aC aO (i6 w1 (WF #[U2 r] 9));have P2:=P0.alloc (WF #[U2 r] 9);have KM:=xh<|tP (w:=w1.alloc (WF #[U2 r] 9)) sb (s:Nat) (l:Nat) ⟨by omega,by omega⟩ ⟨by omega,by omega⟩ SR (by omega) (by simpa using hr);rw[Ap]at KM
 have KH:=xh (λ(W:YB)=>pR s l hs (by omega) W);have KT:=xh (λ(W:YB) (hW:TQ W tb I F q n Kz)=>YH hW (by omega) (aD s l++r) v (by rw[iY];omega) hv);have x0:=P0.bi 0;have x1:=P0.bi 1;have NB:=xh<|T.2.fI B;have hcat:¬9223372036854775807<(aD s l).size+r.size:=by show ¬9223372036854775807<2+r.size;omega
 have NZ:=g9 (z∉F) (λhm=>by have:=T.2.lt _ hm;omega);have H0:=xh<|io B (io T (io P2 cf));clear B T P0 P2 SR aO cf;subst lD;unfold tp at KT;go_in;go_wp2_with fail;go_call KM.o as e w3 ⟨rfl,dk⟩;have T3:=xh<|(H0.o.2.1.below H0.o.2.2.2).below dk;have B3:=xh<|(H0.o.1.below H0.o.2.2.2 H0.o.1.lt).below dk (H0.o.1.below H0.o.2.2.2 H0.o.1.lt).lt
 have P3:=xh<|H0.o.2.2.1.below dk H0.o.2.2.1.lt;have O3:=xh<|aC H0.o.2.2.2 dk;have S0:=g9 (w3.drew.cell? (lc sb)=some (lc tb:li)/\w3.drew.cell? (lc z)=some ((s:Nat):li)/\w3.drew.cell? ⟨z,1,none⟩=some ((l:Nat):li)) ⟨B3.ap 0,P3.ap 0,P3.ap 1⟩;clear dk x0 x1;go_wp2_with fail
 refine kw (λW=>W.cell? (lc sb)=some (lc tb:li)/\W.cell? (lc z)=some ((s:Nat):li)/\W.cell? ⟨z,1,none⟩=some ((l:Nat):li)) (S0.o) (λau=>?_);refine dP [(0,24),(1,25),(2,26),(3,27),(4,28),(6,30),(8,32)] ?_
 iterate 7 refine bJ ?_
 refine dI 5 29 λK hK=>?_;go_simp
 go_at_call 97
 go_call (KH.o _) as e w4 ⟨rfl,fo⟩;have T4:=xh<|T3.o.drew.below fo;have B4:=xh<|B3.o.drew.below fo B3.o.drew.lt;have P4:=xh<|P3.o.drew.below fo P3.o.drew.lt;have O4:=xh<|aC (de O3.o 1) fo
 have S4:=g9 (w4.cell? (lc sb)=some (lc tb:li)/\w4.cell? (lc z)=some ((s:Nat):li)/\w4.cell? ⟨z,1,none⟩=some ((l:Nat):li)) ⟨B4.ap 0,P4.ap 0,P4.ap 1⟩;clear fo;go_simp;refine bn hK (S4.o) (λau=>?_);refine dP [(7,31)] ?_
 iterate 1 refine bJ ?_
 refine dI 9 33 λK hK=>?_;go_simp
 go_at_call 25
 go_call (KT.o w4 T4.o) as e w5 ⟨rfl,F5,p5,o5,f5⟩;have S5:=g9 (w5.cell? (lc sb)=some (lc tb:li)/\w5.cell? (lc z)=some ((s:Nat):li)/\w5.cell? ⟨z,1,none⟩=some ((l:Nat):li)) ⟨(B4.o.only o5 NB.o).ab (i:=0) rfl,(P4.o.only o5 NZ.o).ab (i:=0) rfl,(P4.o.only o5 NZ.o).ab (i:=1) rfl⟩
 have H5:=g9 (PT w w5 I F (q.gE (aD s l++r) v).1 n (Kz+100)) ⟨F5,p5,(ag.aj O4.o).trans o5,λg hg=>(f5 g hg).imp id (λh=>aq O4.o.size h)⟩;clear o5;go_simp;refine bn hK (S5.o) (λau=>?_);refine dP [(10,10)] ?_
 iterate 1 refine bJ ?_
 refine jp ?_ _;go_wp2;go_ret;exact aI H5.o
theorem pT(B:aF w sb 182 #[tp tb,pp I.pb,U6 fr])(T:TQ w tb I F q n Kz)(hK:Kz<=999999000000)(s l:Nat)(hs:s<=7)(hl:l<6)(r:rd)(hr:r.size<=30):
  eq prog 42 #[lc sb,(s:Nat),(l:Nat),U2 r] w λe w'=>e=BY (U8 #[U2 (q.fm (aD s l++r)).2.1,U5 By (q.fm (aD s l++r)).2.2])/\PQ w' I F (q.fm (aD s l++r)).1 n (Kz+21)/\ag F w w':=by
 obtain⟨z,hz⟩:∃z,w.heap.size=z:=⟨_,rfl⟩;have aO:=i6 w (WF #[(s:Nat),(l:Nat)] 177);have P0:=aF.new w 177 #[(s:Nat),(l:Nat)];obtain⟨w1,lD⟩:∃w1,w.alloc (WF #[(s:Nat),(l:Nat)] 177)=w1:=⟨_,rfl⟩;rw[lD]at aO P0;rw[hz]at P0;have Ap:w1.heap.size=z+1:=by rw[<-lD,gf,hz]
 have SR:aM (w1.alloc (WF #[U2 r] 9)) 9 1 (U3 (lc w1.heap.size) 1 1) 1 (pS [r]):=⟨rfl,.inr ⟨w1.heap.size,1,[],rfl,aF.new _ _ _,rfl,by decide⟩⟩;have cf:=aC aO (i6 w1 (WF #[U2 r] 9));have P2:=P0.alloc (WF #[U2 r] 9);have KM:=xh<|tP (w:=w1.alloc (WF #[U2 r] 9)) sb (s:Nat) (l:Nat) ⟨by omega,by omega⟩ ⟨by omega,by omega⟩ SR (by omega) (by simpa using hr);rw[Ap]at KM
 have KH:=xh (λ(W:YB)=>pR s l hs (by omega) W);have KT:=xh (λ(W:YB) (hW:TQ W tb I F q n Kz)=>Us hW (by omega) (aD s l++r));have x0:=P0.bi 0;have x1:=P0.bi 1;have NB:=xh<|T.2.fI B;have hcat:¬9223372036854775807<(aD s l).size+r.size:=by show ¬9223372036854775807<2+r.size;omega
 have NZ:=g9 (z∉F) (λhm=>by have:=T.2.lt _ hm;omega);have H0:=xh<|io B (io T (io P2 cf));clear B T P0 P2 SR aO cf;subst lD;unfold tp at KT;go_in;go_wp2_with fail;go_call KM.o as e w3 ⟨rfl,dk⟩;have T3:=xh<|(H0.o.2.1.below H0.o.2.2.2).below dk;have B3:=xh<|(H0.o.1.below H0.o.2.2.2 H0.o.1.lt).below dk (H0.o.1.below H0.o.2.2.2 H0.o.1.lt).lt
 have P3:=xh<|H0.o.2.2.1.below dk H0.o.2.2.1.lt;have O3:=xh<|aC H0.o.2.2.2 dk;have S0:=g9 (w3.drew.cell? (lc sb)=some (lc tb:li)/\w3.drew.cell? (lc z)=some ((s:Nat):li)/\w3.drew.cell? ⟨z,1,none⟩=some ((l:Nat):li)) ⟨B3.ap 0,P3.ap 0,P3.ap 1⟩;clear dk x0 x1;go_wp2_with fail
 refine kw (λW=>W.cell? (lc sb)=some (lc tb:li)/\W.cell? (lc z)=some ((s:Nat):li)/\W.cell? ⟨z,1,none⟩=some ((l:Nat):li)) (S0.o) (λau=>?_);refine dP [(0,23),(1,24),(2,25),(3,26),(4,27),(6,29)] ?_
 iterate 6 refine bJ ?_
 refine dI 5 28 λK hK=>?_;go_simp
 go_at_call 97
 go_call (KH.o _) as e w4 ⟨rfl,fo⟩;have T4:=xh<|T3.o.drew.below fo;have B4:=xh<|B3.o.drew.below fo B3.o.drew.lt;have P4:=xh<|P3.o.drew.below fo P3.o.drew.lt;have O4:=xh<|aC (de O3.o 1) fo
 have S4:=g9 (w4.cell? (lc sb)=some (lc tb:li)/\w4.cell? (lc z)=some ((s:Nat):li)/\w4.cell? ⟨z,1,none⟩=some ((l:Nat):li)) ⟨B4.ap 0,P4.ap 0,P4.ap 1⟩;clear fo;go_simp;refine bn hK (S4.o) (λau=>?_);refine dP [(7,30)] ?_
 iterate 1 refine bJ ?_
 refine dI 8 31 λK hK=>?_;go_simp
 go_at_call 20
 go_call (KT.o w4 T4.o) as e w5 ⟨rfl,p5,o5⟩;have S5:=g9 (w5.cell? (lc sb)=some (lc tb:li)/\w5.cell? (lc z)=some ((s:Nat):li)/\w5.cell? ⟨z,1,none⟩=some ((l:Nat):li)) ⟨(B4.o.only o5 NB.o).ab (i:=0) rfl,(P4.o.only o5 NZ.o).ab (i:=0) rfl,(P4.o.only o5 NZ.o).ab (i:=1) rfl⟩;have H5:=g9 (PQ w5 I F (q.fm (aD s l++r)).1 n (Kz+21)/\ag F w w5) ⟨p5,(ag.aj O4.o).trans o5⟩
 clear o5;go_simp;refine bn hK (S5.o) (λau=>?_);refine dP [(9,32),(10,33),(11,8),(12,9)] ?_
 iterate 4 refine bJ ?_
 refine jp ?_ _;go_wp2;go_ret2;exact aI H5.o
variable{w:YB}{sb tb n K:Nat}{I:Ix}{F:List Nat}{fr:Bool}
def zQ(g:rd×Int):Int×Int:=if g.2=9 then(0,0)else if g.2≠0 then(0,g.2)else((mI g.1.data.toList:Int)-9223372036854775808,0)
def eZ(name:rd):rd:=aD 7 0++name
def QS.dg(q:QS)(name:rd):QS×Int×Int:=((q.fm (eZ name)).1,zQ (q.fm (eZ name)).2)
def lE(n least:Int):Prop:=least<=n/\n<=1099511627776
instance(n least:Int):Decidable (lE n least):=by unfold lE;exact inferInstance
def QS.q8(q:QS)(name:rd)(n:Int):QS×Int×Int:=
 if(q.dg name).2.2≠0 then((q.dg name).1,0,(q.dg name).2.2)
 else if ¬(lE n (-1099511627776)/\lE (q.dg name).2.1 0/\lE ((q.dg name).2.1+n) 0)then((q.dg name).1,0,3)
 else if((q.dg name).1.gE (eZ name) ⟨(df ((q.dg name).2.1+n)).toArray⟩).2≠0 then(((q.dg name).1.gE (eZ name) ⟨(df ((q.dg name).2.1+n)).toArray⟩).1,0,((q.dg name).1.gE (eZ name) ⟨(df ((q.dg name).2.1+n)).toArray⟩).2)
 else(((q.dg name).1.gE (eZ name) ⟨(df ((q.dg name).2.1+n)).toArray⟩).1,(q.dg name).2.1+n,0)
theorem nt{q:QS}(B:aF w sb 182 #[tp tb,pp I.pb,U6 fr])(T:TQ w tb I F q n K)(hK:K<=999999000000)(r:rd)(hr:r.size<=30)(h8:(q.fm (eZ r)).2.2=0->(q.fm (eZ r)).2.1.size=8):
  eq prog 38 #[lc sb,U2 r] w λe w'=>e=BY (U8 #[U5 By (q.dg r).2.1,U5 By (q.dg r).2.2])/\PQ w' I F (q.dg r).1 n (K+21)/\ag F w w':=by
 have KG:=pT B T hK 7 0 (by omega) (by omega) r hr;unfold QS.dg;rw[show aD 7 0++r=eZ r from rfl]at KG;obtain⟨R,hR⟩:∃R,q.fm (eZ r)=R:=⟨_,rfl⟩;rw[hR]at KG h8 ⊢;obtain⟨q1,b,e1⟩:=R;dsimp only at KG h8 ⊢;have KG:=xh KG;clear hR B T
 by_cases h9:e1=9
 .subst h9;go_in;go_wp2_with fail;go_call KG.o as e w1 ⟨rfl,H1⟩;have H1:=xh H1;go_wp2;go_ret2;exact⟨by first|rfl|simp[zQ],H1.o⟩
 .by_cases h0:e1=0
  .subst h0;have hs:=h8 rfl;have KR:=xh (λ(W:YB)=>sR b 0 W (by omega) (by omega));have hex:b.extract 0 (0+8)=b:=by
    apply jQ;apply qP.1;rw[exl'];have hl:b.data.toList.length=8:=by simpa using hs
    simp[cm,hl]
   rw[hex]at KR;have Wo:((b.size:Nat):Int)=8:=by omega
   have hc:zQ (b,0)=((mI b.data.toList:Int)-9223372036854775808,0):=by unfold zQ;rw[i8,i8]
   rw[hc];dsimp only;generalize (mI b.data.toList:Int)-9223372036854775808=cv at *;have oq:¬(8:Int)<((b.size:Nat):Int):=by omega
   clear h8 hex hc Wo h9;go_in;go_wp2_with fail;go_call KG.o as e w1 ⟨rfl,H1⟩;have H1:=xh H1;go_wp2_with fail;go_call (KR.o _) as e w2 ⟨rfl,hb⟩;have H2:=g9 (PQ w2 I F q1 n (K+21)/\ag F w w2) ⟨H1.o.1.below hb,H1.o.2.trans (.aj hb)⟩;clear hb;go_wp2;go_ret2;exact aI H2.o
  .have hc:zQ (b,e1)=(0,e1):=by unfold zQ;rw[if_neg h9,if_pos h0]
   rw[hc];dsimp only;have q9:(e1==9)=false:=i4 h9
   have hq:(e1 != 0)=true:=ls h0
   have my:(e1==0)=false:=i4 h0
   clear h8 hc;go_in;go_wp2_with fail;go_call KG.o as e w1 ⟨rfl,H1⟩;have H1:=xh H1;go_wp2;go_ret2;exact aI H1.o
theorem UX(n least:Int)(w:YB):eq prog 87 #[n,least] w λe w'=>e=BY (U6 (decide (lE n least)))/\w=w':=by
 by_cases h1:least<=n
 .by_cases h2:n<=1099511627776
  .rw[decide_eq_true (p:=lE n least) ⟨h1,h2⟩];go_in;go_wp2;go_ret;exact aI rfl
  .rw[decide_eq_false (p:=lE n least) (λh=>h2 h.2)];go_in;go_wp2;go_ret;exact aI rfl
 .rw[decide_eq_false (p:=lE n least) (λh=>h1 h.1)];go_in;go_wp2;go_ret;exact aI rfl
theorem PT.pre{w1 w2:YB}{q:QS}(o:ag F w w1)(h:PT w1 w2 I F q n K):PT w w2 I F q n K:=by
 obtain⟨F',a,o2,f⟩:=h;exact⟨F',a,o.trans o2,λg hg=>(f g hg).imp id (λh=>aq o.size h)⟩
theorem DH{q:QS}(B:aF w sb 182 #[tp tb,pp I.pb,U6 fr])(T:TQ w tb I F q n K)(hK:K<=999998000000)(r:rd)(hr:r.size<=30)(h8:(q.fm (eZ r)).2.2=0->(q.fm (eZ r)).2.1.size=8)(m:Int):
  eq prog 37 #[lc sb,U2 r,m] w λe w'=>e=BY (U8 #[U5 By (q.q8 r m).2.1,U5 By (q.q8 r m).2.2])/\PT w w' I F (q.q8 r m).1 n (K+200):=by
 have KC:=nt B T (by omega) r hr h8;have KM:=xh UX;have KI:=xh I_any;have KS:=xh (λ(W:YB) (qj:QS) (kj:Nat) (B':aF W sb 182 #[tp tb,pp I.pb,U6 fr]) (hW:TQ W tb I F qj n kj) (hk:kj<=999999000000) (v:rd) (hv:v.size<=100000)=>wS B' hW hk 7 0 (by omega) (by omega) r v hr hv);have HB:=xh B;have HT:=xh T;have NB:=xh<|T.2.fI B;obtain⟨RR,bS⟩:∃RR,q.q8 r m=RR:=⟨_,rfl⟩;rw[bS];unfold QS.q8 at bS
 obtain⟨R,hR⟩:∃R,q.dg r=R:=⟨_,rfl⟩;rw[hR]at KC bS;obtain⟨q1,cv,e1⟩:=R;dsimp only at KC bS;have KC:=xh KC;have fQ:=xh bS;clear bS hR B T h8;unfold tp pp at *
 by_cases he:e1=0
 .subst he;have kO:=fQ.o;rw[i8]at kO
  by_cases hA:lE m (-1099511627776)
  .have dA:=decide_eq_true hA;have a1:=hA.1;have a2:=hA.2
   by_cases hB:lE cv 0
   .have dB:=decide_eq_true hB;have b1:=hB.1;have b2:=hB.2
    by_cases hC:lE (cv+m) 0
    .rw[if_neg (λh=>h ⟨hA,hB,hC⟩)]at kO;have dC:=decide_eq_true hC;have c1:=hC.1;have c2:=hC.2;have HV:=xh kO;have HP:=xh (show(⟨(df (cv+m)).toArray⟩:rd).size<=100000 by rw[show(⟨(df (cv+m)).toArray⟩:rd).size=(df (cv+m)).length from rfl,Pg.fN];decide);clear kO hA hB hC;go_in;go_wp2_with fail;go_call KC.o as e w1 ⟨rfl,H1⟩;have H1:=xh H1;go_wp2_with fail;refine(KM.o _ _ _).mono ?_
     rintro e _ ⟨rfl,rfl⟩;rw[dA];go_wp2_with fail;go_call (KM.o _ _ _) as e _ ⟨rfl,rfl⟩;rw[dB];go_wp2_with fail;go_call (KM.o _ _ _) as e _ ⟨rfl,rfl⟩;rw[dC];go_wp2_with fail;go_call (KI.o _ c1 c2 _) as e w2 ⟨rfl,hb⟩
     have H2:=xh<|io ((HB.o.only H1.o.2 (by simpa using NB.o)).below hb (HB.o.only H1.o.2 (by simpa using NB.o)).lt) (io (show TQ w2 tb I F q1 n (K+21)from⟨(HT.o.1.only H1.o.2 (by simpa using HT.o.ne)).below hb (HT.o.1.only H1.o.2 (by simpa using HT.o.ne)).lt,H1.o.1.below hb⟩) (show ag F w w2 from H1.o.2.trans (.aj hb)));clear hb;go_wp2_with fail;refine(KS.o _ q1 (K+21) H2.o.1 H2.o.2.1 (by omega) _ HP.o).mono ?_
     rintro e w3 ⟨rfl,H3⟩;have H3:=xh<|PT.pre H2.o.2.2 H3;have HV:Hid ((if(q1.gE (eZ r) ⟨(df (cv+m)).toArray⟩).2≠0 then((q1.gE (eZ r) ⟨(df (cv+m)).toArray⟩).1,(0:Int),(q1.gE (eZ r) ⟨(df (cv+m)).toArray⟩).2)else((q1.gE (eZ r) ⟨(df (cv+m)).toArray⟩).1,cv+m,(0:Int)))=RR):=HV;rw[show aD 7 0++r=eZ r from rfl]at H3 ⊢;obtain⟨R2,hR2⟩:∃R2,q1.gE (eZ r) ⟨(df (cv+m)).toArray⟩=R2:=⟨_,rfl⟩;rw[hR2]at H3 HV ⊢;obtain⟨q2,e2⟩:=R2;clear hR2 HP
     have hv:=HV.o;dsimp only at hv H3;clear HV
     by_cases h2:e2=0
     .subst h2;rw[i8]at hv;have HV:=xh hv;clear hv;go_wp2;go_ret2;have h9:=HV.o;subst h9;exact aI (H3.o.le (by omega))
     .have hq:(e2 != 0)=true:=ls h2
      have my:(e2==0)=false:=i4 h2
      rw[if_pos h2]at hv;have HV:=xh hv;clear hv;go_wp2;go_ret2;have h9:=HV.o;subst h9;exact aI (H3.o.le (by omega))
    .rw[if_pos (λh=>hC h.2.2)]at kO;have dC:=decide_eq_false hC;have HV:=xh kO;clear kO hA hB hC;go_in;go_wp2_with fail;go_call KC.o as e w1 ⟨rfl,H1⟩;have H1:=xh H1;go_wp2_with fail;go_call (KM.o _ _ _) as e _ ⟨rfl,rfl⟩;rw[dA];go_wp2_with fail;go_call (KM.o _ _ _) as e _ ⟨rfl,rfl⟩;rw[dB];go_wp2_with fail;go_call (KM.o _ _ _) as e _ ⟨rfl,rfl⟩;rw[dC];go_wp2;go_ret2;have h9:=HV.o
     subst h9;exact aI (.self (H1.o.1.le (by omega)) H1.o.2)
   .rw[if_pos (λh=>hB h.2.1)]at kO;have dB:=decide_eq_false hB;have HV:=xh kO;clear kO hA hB;go_in;go_wp2_with fail;go_call KC.o as e w1 ⟨rfl,H1⟩;have H1:=xh H1;go_wp2_with fail;go_call (KM.o _ _ _) as e _ ⟨rfl,rfl⟩;rw[dA];go_wp2_with fail;go_call (KM.o _ _ _) as e _ ⟨rfl,rfl⟩;rw[dB];go_wp2;go_ret2;have h9:=HV.o;subst h9;exact aI (.self (H1.o.1.le (by omega)) H1.o.2)
  .rw[if_pos (λh=>hA h.1)]at kO;have dA:=decide_eq_false hA;have HV:=xh kO;clear kO hA;go_in;go_wp2_with fail;go_call KC.o as e w1 ⟨rfl,H1⟩;have H1:=xh H1;go_wp2_with fail;go_call (KM.o _ _ _) as e _ ⟨rfl,rfl⟩;rw[dA];go_wp2;go_ret2;have h9:=HV.o;subst h9;exact aI (.self (H1.o.1.le (by omega)) H1.o.2)
 .have hq:(e1 != 0)=true:=ls he
  have my:(e1==0)=false:=i4 he
  have kO:=fQ.o;rw[if_pos he]at kO;have HV:=xh kO;clear kO;go_in;go_wp2_with fail;go_call KC.o as e w1 ⟨rfl,H1⟩;have H1:=xh H1;go_wp2;go_ret2;have h9:=HV.o;subst h9;exact aI (.self (H1.o.1.le (by omega)) H1.o.2)
end Sh
namespace Sh
open Go.RowKit Pk Dk Pg
open Nd (E an)
variable{v:Vw}{M:List MT}
def DI(l:List PR):Nat:=(l.map λx=>x.1.size+x.2.size+7).sum
theorem Zr(a b:List PR):DI (a++b)=DI a+DI b:=by simp[DI]
theorem Qy(T:Tree v 0 M)(hs:∀x∈jy M,x.2.size<=40):eU (λ_=>1) (aL v 0 0)=DI (jy M)-151:=by
 have h1:ie v 0 0=(iX v 0).2.1:=by unfold ie aL;simp
 have h2:an (iX v 0).2.1=DI (jy M):=by
  rw[<-h1,<-T.en];unfold an DI jy;rw[gR,gR]
  congr 1
  refine fW λm hm=>?_;have h40:m.2.1.size<=40:=hs (m.1.key,m.2.1) (cr.2 ⟨m,hm,rfl⟩);show m.1.key.size+m.1.val.size+7=m.1.key.size+m.2.1.size+7
  rcases T.va m hm with⟨_,h,_,_⟩|⟨_,_,_,_,_,h,_⟩
  .rw[h]
  .omega
 unfold aL;rw[eQ,LG,h2];show 1*_+0=_;omega
section
variable{o:Vw}{mm:Nat}
theorem Me{q:QS}{u:Nat}(R:Rd q v o u mm)(T:Tree v 0 M)(hs:∀x∈jy M,x.2.size<=40)(hb:DI (jy M)<=151)(key value:rd)(hk:key.size<=32)(hv:value.size<=20)(hu:u+8<mm)(hu2:u+8<512):
  (q.gE key value).2=0/\∃v' M',Rd (q.gE key value).1 v' o (u+1) mm/\Tree v' 0 M'/\jy M'=pQ (jy M) key value:=by
 have hp:=Qy T hs
 rcases yE R T (by omega) key value hk (by omega)with⟨a,v',u',b,c,d⟩|⟨a,v',H',M',new,A,C,B,h,c,b,S,hm⟩
 .omega
 .have p:=S.FZ (λ_=>1) 34 wt1;rw[g8]at p;have hh:H'=0:=by
   rcases S.h with e|⟨e,f⟩
   .exact e
   .have:=f (λ_=>1) 34 wt1;rw[g8]at this;omega
  subst hh;rw[if_pos rfl]at p;have hn:=S.n;have hc:=S.c.2 (by omega);exact⟨a,v',M',b.le (by omega),S.t,hm⟩
end
def su(n:Int):rd:=⟨(df n).toArray⟩
theorem kM(n:Int):(su n).size=8:=by show(df n).toArray.size=8;rw[j9];exact fN n
theorem Zs{n:Int}(h:lE n 0):zQ (su n,0)=(n,0):=by
 unfold zQ;rw[i8,i8];have:mI (su n).data.toList=mI (df n):=rfl;dsimp only;rw[this,xF n h.1 (by have:=h.2;omega)]
structure Cn(B:List PR)(k:rd)(o:Vw)(q:QS)(n:Int)(u mm:Nat)(v:Vw)(M:List MT):Prop where
 r:Rd q v o u mm
 t:Tree v 0 M
 p:(jy M=B/\n=0)\/jy M=B++[(k,su n)]
 b:∀x∈B,fw x.1 k/\x.2.size<=40
 s:DI B<=100
 n:lE n 0
section
variable{B:List PR}{name:rd}{o:Vw}{q:QS}{n:Int}{u mm:Nat}{v:Vw}{M:List MT}
theorem RN{B C:List PR}{k:rd}(hb:∀x∈B,fw x.1 k)(hc:∀x∈C,x.1=k):qZ (B++C) k=B/\oZ (B++C) k=C/\kL (B++C) k=[]:=by
 unfold qZ oZ kL;simp only[ri];refine⟨?_,?_,?_⟩
 .rw[filter_all (l:=B) (λx hx=>decide_eq_true (hb x hx)),filter_none (l:=C) (λx hx=>decide_eq_false (λh=>lY h (hc x hx)))];simp
 .rw[filter_none (l:=B) (λx hx=>decide_eq_false (lY (hb x hx))),filter_all (l:=C) (λx hx=>decide_eq_true (hc x hx))];simp
 .rw[filter_none (l:=B) (λx hx=>decide_eq_false (λh=>gC (fc h (hb x hx)))),filter_none (l:=C) (λx hx=>decide_eq_false (λh=>lY h (hc x hx).symm))];simp
theorem Cn.parts(h:Cn B (eZ name) o q n u mm v M):∃C,jy M=B++C/\(∀x∈C,x.1=eZ name)/\(∀x∈C,x.2.size<=40)/\DI C<=name.size+17/\((C=[]/\n=0)\/C=[(eZ name,su n)]):=by
 have hz:(eZ name).size=2+name.size:=iY 7 0 name
 rcases h.p with⟨h1,h2⟩|h1
 .exact⟨[],by simpa using h1,by simp,by simp,by simp[DI],.inl ⟨rfl,h2⟩⟩
 .refine⟨_,h1,by simp,λx hx=>?_,?_,.inr rfl⟩
  .rw[az.1 hx];show(su n).size<=40;rw[kM];omega
  .show(eZ name).size+(su n).size+7+0<=_;rw[kM,hz];omega
theorem Cn.get(h:Cn B (eZ name) o q n u mm v M)(hu:u<mm):(q.dg name).2=(n,0)/\Cn B (eZ name) o (q.dg name).1 n u mm v M/\((q.fm (eZ name)).2.2=0->(q.fm (eZ name)).2.1.size=8):=by
 obtain⟨C,c1,c2,c3,c4,c5⟩:=h.parts;obtain⟨g1,g2⟩:=qK h.r h.t (by omega) (eZ name);rw[c1,(RN (λx hx=>(h.b x hx).1) c2).2.1]at g2;refine⟨?_,⟨g1,h.t,h.p,h.b,h.s,h.n⟩,?_⟩
 .rcases g2 with⟨_,g2⟩|g2
  .omega
  .show zQ (q.fm (eZ name)).2=_;rw[g2]
   rcases c5 with⟨c5,c6⟩|c5
   .rw[c5,c6];rfl
   .rw[c5];exact Zs h.n
 .rcases g2 with⟨_,g2⟩|g2
  .omega
  .rw[g2]
   rcases c5 with⟨c5,c6⟩|c5
   .rw[c5];intro h0;exact absurd h0 (by show ¬(9:Int)=0;decide)
   .rw[c5];intro _;exact kM n
theorem Cn.add(h:Cn B (eZ name) o q n u mm v M)(hr:name.size<=30)(hu:u+8<mm)(hu2:u+8<512)(m:Int):
  if lE m (-1099511627776)/\lE (n+m) 0 then(q.q8 name m).2=(n+m,0)/\∃v' M',Cn B (eZ name) o (q.q8 name m).1 (n+m) (u+1) mm v' M' else(q.q8 name m).2=(0,3)/\Cn B (eZ name) o (q.q8 name m).1 n u mm v M:=by
 obtain⟨a,b,_⟩:=h.get (by omega);have hz:(eZ name).size=2+name.size:=iY 7 0 name;unfold QS.q8;rw[a];dsimp only;rw[if_neg (show ¬((0:Int)≠0) by simp)]
 split
 .rename_i hm;rw[if_neg (λhn=>hn ⟨hm.1,h.n,hm.2⟩)];obtain⟨C,c1,c2,c3,c4,c5⟩:=b.parts;have hs:=kM (n+m);have hbs:=b.s;obtain⟨s1,v',M',s2,s3,s4⟩:=Me b.r b.t (λx hx=>by rw[c1]at hx;exact(ay.1 hx).elim (λh1=>(b.b x h1).2) (c3 x)) (by rw[c1,Zr];omega) (eZ name) (su (n+m)) (by omega) (by omega) hu hu2;rw[show(⟨(df (n+m)).toArray⟩:rd)=su (n+m)from rfl,if_neg (by rw[s1];simp)];refine⟨rfl,v',M',s2,s3,.inr ?_,h.b,h.s,hm.2⟩
  obtain⟨l1,l2,l3⟩:=RN (λx hx=>(h.b x hx).1) c2;rw[s4,c1];unfold pQ;rw[l1,l3]
 .rename_i hm;rw[if_pos (λhn=>hm ⟨hn.1,hn.2.2⟩)];exact⟨rfl,b⟩
end
open Nd (E aJ bH aS aZ et bI bg cG)
variable{fr pg n K:Nat}
theorem Zt:kU []=fd 64 0:=by unfold kU;simp
theorem EE(n:Nat)(h1:2<=n)(hn:n<=4096):js (eO (D.zero n) n).d n 1 0 [] []/\Twin (eO (D.zero n) n).d 0 1:=by
 have z:(D.zero n).down=false/\(D.zero n).bu=0:=⟨rfl,rfl⟩;have ok0:=qx n hn;obtain⟨w1,w2,w3⟩:=jm (d:=D.zero n) (n:=n) (k:=0) z.1 z.2 (by omega) gh;have ok1:=ok0.write ((0:Nat):Int) gh;have n1:=sU ok0 0 (by omega) gh w1;obtain⟨v1,v2,v3⟩:=jm (d:=((D.zero n).aG n ((0:Nat):Int) gh).1) (n:=n) (k:=1) w2 w3 (by omega) [];have n2:=sU ok1 1 (by omega) [] v1;obtain⟨s1,s2,s3,s4⟩:=po v2 v3
 have hd:(eO (D.zero n) n).d=((((D.zero n).aG n ((0:Nat):Int) gh).1.aG n ((1:Nat):Int) []).1.eM).1:=rfl;have e0:sec (eO (D.zero n) n).d.now 0=gh:=by
  rw[hd,s4,n2 0 (by omega),gc,n1 0 (by omega),if_pos rfl];exact xG _ (Rt.vW 1 0 [] (by simp))
 have e1:sec (eO (D.zero n) n).d.now 1=fd 64 0:=by
  rw[hd,s4,n2 1 (by omega),if_pos rfl,Zt]
 have hdec:Rt.rF (fd 64 0)<1:=by decide+kernel
 refine⟨⟨h1,WW,.inl rfl,e0,λ_=>?_,λi x hx=>by simp at hx,λj _ _=>by rw[hd];exact uM s1 j⟩,?_⟩
 .show Rt.rF (sec (eO (D.zero n) n).d.now 1)<1;rw[e1];exact hdec
 .unfold Twin;show(sec (eO (D.zero n) n).d.now 1).take 8=(sec (eO (D.zero n) n).d.now 1).drop 56/\Rt.rF (sec (eO (D.zero n) n).d.now 1)<1;rw[e1];exact⟨by simp,hdec⟩
theorem Mf(n:Nat)(h1:1<=fU n)(hn:n<=4096)(gj:(eO (D.zero n) n).d.Ok n):Good (eO (D.zero n) n) n/\(eO (D.zero n) n).bY n=St.start (fU n)/\(eO (D.zero n) n).d.calls<=10/\js (eO (D.zero n) n).d n 1 0 [] []/\Twin (eO (D.zero n) n).d 0 1:=by
 obtain⟨g,e,hc⟩:=Of n h1 hn gj;have hr:=EE n (by unfold fU cH at h1;omega) hn;exact⟨g,e,hc,hr⟩
def QS.start(fr pg:Nat):QS:=⟨St.start pg,fd fr Fr.nil,0⟩
def oh:Vw:=λ_=>([],3)
def I0:Vw:=ky oh 0 (bT true []).1
theorem Zu(fr pg:Nat):Vi (QS.start fr pg):=by
 have hn:∀f∈(QS.start fr pg).l,f=Fr.nil:=λf hf=>oP hf;have hp:∀f∈(QS.start fr pg).l,¬0<=f.ao:=λf hf=>by rw[hn f hf];show ¬(0:Int)<= -1;omega
 exact⟨λi j f g hi hj e h0=>absurd h0 (hp f (aA hi)),λf hf h0=>absurd h0 (hp f hf),λf hf h0=>absurd h0 (hp f hf),λf hf _=>by rw[hn f hf];rfl,λf hf h0=>absurd h0 (hp f hf)⟩
theorem Mg(H:Hq (QS.start fr pg) n K):Wp (QS.start fr pg) n K:=⟨H,Zu fr pg,λf hf=>by rw[oP hf];rfl⟩
theorem DJ(pg:Nat)(j:Int):(St.start pg).aP j=([],3):=by
 unfold St.aP;have:(St.start pg).at j=none:=by unfold St.at St.start;split<;>simp
 rw[this]
theorem Zv(H:Hq (QS.start fr pg) n K):Rd (QS.start fr pg) oh oh 0 pg:=by
 refine⟨⟨n,K,Mg H⟩,λj=>?_,λj=>?_,?_,ai _⟩
 .rcases iA (QS.start fr pg) j with ho|⟨k,f,hk,rfl,hp⟩
  .rw[eW ho];exact DJ pg j
  .rw[show f=Fr.nil from oP (aA hk)]at hp;exact absurd hp (by show ¬(0:Int)<= -1;omega)
 .show({(St.start pg)with now:=jr (St.start pg).bj}:St).aP j=_;exact DJ pg j
 .show 0+(0+cU 0)<=0;decide
theorem lay0:(bT true []).2=0:=sq (v:=oh) (h:=0) (λh=>absurd rfl h) (by rw[pO];decide)
theorem DK:kJ=(bT true []).1:=rfl
theorem Zw:Tree I0 0 []:=by
 have EK:∀j,iX I0 j=if j=0 then(true,[],0)else iX oh j:=λj=>by unfold I0;rw[hJ lay0];rfl
 have hns:aL I0 0 0=[(0,0,[])]:=by unfold aL;rw[EK 0,if_pos rfl]
 refine⟨⟨by rw[EK 0,if_pos rfl],by rw[EK 0,if_pos rfl];decide⟩,by unfold ie;rw[hns];rfl,by simp,by rw[hns];simp,λj hj=>?_⟩;rw[hns]
 by_cases h0:j=0
 .simp[h0]
 .unfold I0 at hj;rw[nr _ _ h0]at hj;exact absurd hj (by show ¬(3:Int)=0;decide)
theorem Qz(H:Hq (QS.start fr pg) n K)(hp:2<=pg):(QS.start fr pg).j0.2=0/\Rd (QS.start fr pg).j0.1 I0 oh 1 pg/\Tree I0 0 []:=by
 have R:=Zv H;have hlen:=(Dj lay0).2.2.1;have hT:=Zw;have UF:((QS.start fr pg).bZ kJ).2=(0,0):=by
  show((St.start pg).bZ kJ).2=_;unfold St.bZ;have hs:(St.start pg).slot=0:=rfl;have hf:(St.start pg).free≠0:=by
   show pg-(0+cU 0)-0≠0;have:cU 0=0:=by decide
   omega
  rw[if_neg (by rw[DK,hlen];omega),if_neg (by rw[hs];omega)];exact jC (by rw[hs];rfl) rfl
 have hn:=R.new ⟨kJ.toArray⟩ (by show kJ.toArray.size<=232;rw[j9,DK,hlen];exact ai _);have hd:(⟨kJ.toArray⟩:rd).data.toList=kJ:=rfl;rw[hd]at hn;rw[UF]at hn;have he:ft kJ 232=(bT true []).1:=by
  rw[DK];exact wk (b:=⟨(bT true []).1.toArray⟩) (by show(bT true []).1.toArray.size=_;rw[j9];exact hlen)
 rcases hn with⟨l,a1,a2,a3,a4⟩|⟨a1,_⟩
 .have hl:((l:Nat):Int)=0:=(congrArg Prod.fst a1).symm;rw[hl,he]at a4;have hpg:(QS.start fr pg).a.je.length=0:=rfl;have hroot:(QS.start fr pg).wL=(((QS.start fr pg).bZ kJ).1,0):=by
   unfold QS.wL;rw[if_pos hpg,UF]
  unfold QS.j0;rw[hroot,i8];have a4:Rd ((QS.start fr pg).bZ kJ).1 I0 oh 1 pg:=a4;obtain⟨b1,b2⟩:=a4.read 0;refine⟨?_,b1,hT⟩;show(((QS.start fr pg).bZ kJ).1.bF 0).2.2.2=0
  rcases b2 with b2|⟨b2,b3⟩
  .rw[b2,(IM hT.ok).1]
  .omega
 .exact absurd (congrArg Prod.snd a1) (by show ¬(0:Int)=11;decide)
variable{w:YB}
def SOpened(w w':YB)(I:Ix)(F:List Nat)(q:QS)(e:Int)(fr:Bool)(n K:Nat)(v:YO):Prop:=
 ∃F',ag F w w'/\(∀g∈F',g∈F\/w.heap.size<=g)/\PQ w' I F' q n K/\(e≠0->v=.pointer none)/\(e=0->∃sb tb,v=.pointer (some ⟨sb,0,none⟩)/\w.heap.size<=sb/\w.heap.size<=tb/\aF w' sb 182 #[tp tb,pp I.pb,U6 fr]/\TQ w' tb I F' q n K)
theorem Gm{I:Ix}{F:List Nat}{q:QS}{n K:Nat}(h:PQ w I F q n K)(hK:K<=999999999000):
  eq prog 45 #[pp I.pb] w λe w'=> ∃v,e=BY (U8 #[v,q.j0.2])/\SOpened w w' I F q.j0.1 q.j0.2 (decide (q.a.je.length=0)) n (K+2) v:=by
 have K1:=xh<|Co h;have K2:=xh<|Cp h;have KT:=xh (λ(W:YB) (hW:PQ W I F q n K)=>Ux hW (by omega));have HP:=xh h;obtain⟨R,hR⟩:∃R,q.j0=R:=⟨_,rfl⟩;rw[hR]at KT ⊢;obtain⟨q1,e1⟩:=R;dsimp only at KT ⊢;clear h hR;unfold pp sp at K1;unfold sp at K2;unfold pp at KT;unfold pp
 by_cases h0:q.a.je.length=0
 .rw[decide_eq_true h0];rw[h0]at K2;clear h0;go_in;go_wp2_with fail;go_call K1.o as e w2 ⟨rfl,rfl⟩;go_wp2_with fail;go_call K2.o as e w3 ⟨A3,c3,rfl,S3,dk⟩;have KO:=xh<|KT.o w3 (HP.o.below dk);have O3:=g9 (ag F w w3) (.aj dk);clear S3 dk;go_wp2_with fail;go_call KO.o as e w4 ⟨v4,rfl,F4,o4,f4,P4,z4,z5⟩;have s3:=O3.o.size
  have H4:=g9 (ag F w w4/\(∀g∈F4,g∈F\/w.heap.size<=g)/\PQ w4 I F4 q1 n (K+2)) ⟨O3.o.trans o4,λg hg=>(f4 g hg).imp id (λh=>by omega),P4⟩
  by_cases he:e1=0
  .obtain⟨tb,rfl,htb,T4⟩:=z5 he;have iF:=i6 w4 (WF #[tp tb,pp I.pb,U6 true] 182);have BS:=aF.new w4 182 #[tp tb,pp I.pb,U6 true];have H5:=xh<|io BS (io (T4.below iF) (io (H4.o.1.trans (.aj iF)) (show w.heap.size<=w4.heap.size/\w.heap.size<=tb from⟨by have:=o4.size;omega,by omega⟩)));clear o4 f4 P4 z4 z5 T4 iF BS htb s3;subst he;unfold tp pp at *;go_wp2;go_ret2
   exact⟨_,by first|rfl|simp,F4,H5.o.2.2.1,H4.o.2.1,H5.o.2.1.2,λh=>absurd rfl h,λ_=>⟨_,tb,rfl,H5.o.2.2.2.1,H5.o.2.2.2.2,H5.o.1,H5.o.2.1⟩⟩
  .have hq:(e1 != 0)=true:=ls he
   have my:(e1==0)=false:=i4 he
   clear o4 f4 P4 z4 z5 s3;go_wp2;go_ret2;exact⟨_,by first|rfl|simp,F4,H4.o.1,H4.o.2.1,H4.o.2.2,λ_=>rfl,λh=>absurd h he⟩
 .rw[decide_eq_false h0];have h0I:((q.a.je.length:Nat):Int)≠0:=by omega
  generalize q.a.je.length=np at *;have hq8:(((np:Nat):Int)==0)=false:=i4 h0I
  have hq9:decide (((np:Nat):Int)=0)=false:=decide_eq_false h0I;go_in;go_wp2_with fail;go_call K1.o as e w2 ⟨rfl,rfl⟩;go_wp2_with fail;go_call K2.o as e w3 ⟨A3,c3,rfl,S3,dk⟩;have KO:=xh<|KT.o w3 (HP.o.below dk);have O3:=g9 (ag F w w3) (.aj dk);clear S3 dk;go_wp2_with fail;go_call KO.o as e w4 ⟨v4,rfl,F4,o4,f4,P4,z4,z5⟩;have s3:=O3.o.size
  have H4:=g9 (ag F w w4/\(∀g∈F4,g∈F\/w.heap.size<=g)/\PQ w4 I F4 q1 n (K+2)) ⟨O3.o.trans o4,λg hg=>(f4 g hg).imp id (λh=>by omega),P4⟩
  by_cases he:e1=0
  .obtain⟨tb,rfl,htb,T4⟩:=z5 he;have iF:=i6 w4 (WF #[tp tb,pp I.pb,U6 false] 182);have BS:=aF.new w4 182 #[tp tb,pp I.pb,U6 false];have H5:=xh<|io BS (io (T4.below iF) (io (H4.o.1.trans (.aj iF)) (show w.heap.size<=w4.heap.size/\w.heap.size<=tb from⟨by have:=o4.size;omega,by omega⟩)));clear o4 f4 P4 z4 z5 T4 iF BS htb s3;subst he;unfold tp pp at *;go_wp2;go_ret2
   exact⟨_,by first|rfl|simp,F4,H5.o.2.2.1,H4.o.2.1,H5.o.2.1.2,λh=>absurd rfl h,λ_=>⟨_,tb,rfl,H5.o.2.2.2.1,H5.o.2.2.2.2,H5.o.1,H5.o.2.1⟩⟩
  .have hq:(e1 != 0)=true:=ls he
   have my:(e1==0)=false:=i4 he
   clear o4 f4 P4 z4 z5 s3;go_wp2;go_ret2;exact⟨_,by first|rfl|simp,F4,H4.o.1,H4.o.2.1,H4.o.2.2,λ_=>rfl,λh=>absurd h he⟩
theorem DM{sb:Nat}{a b:YO}{fr:Bool}(B:aF w sb 182 #[a,b,U6 fr]):eq prog 49 #[lc sb] w λe w'=>e=BY (U6 fr)/\i7 w w':=by
 have x2:=B.bi 2;have O0:=xh<|i5 w;have O1:=xh (i5 w).drew;clear B;go_in;go_wp2;go_ret;exact aI (by first|exact O0.o|exact O1.o)
def QS.nu:QS:=(QS.start 5 300).j0.1
theorem zB(w:YB):
  eq prog 35 #[] w λe w'=> ∃sb tb I F,e=BY (lc sb)/\aF w' sb 182 #[tp tb,pp I.pb,U6 true]/\TQ w' tb I F QS.nu 1202 3/\
   Rd QS.nu I0 oh 1 300/\i7 w w'/\(∀g∈sb::tb::F,w.heap.size<=g):=by
 have n1:fU 1202=300:=by decide
 have KD:=xh<|Hk 1202 w (by omega) (by omega);have KF:=xh (λ(W:YB) (L:Dk.Loc) (hW:bf W L 1202 (D.zero 1202))=>N1 hW (by omega) rfl rfl (by show(0:Int)<=1000;omega));have KP:=xh (λ(W:YB) (b:Nat)=>WX (w:=W) b 5 (by omega) (by omega))
 have HQ:=xh (show ∀(W:YB) (x:X) (pq:Nat) (v:YO),At W x 1202 (eO (D.zero 1202) 1202)->aF W pq 143 #[sp x.b,v,U5 By 0]->aM W 167 5 v 5 (Hw (fd 5 Fr.nil))->(∀g∈x.fp,w.heap.size<=g)->w.heap.size<=pq->(∀g∈ah v,w.heap.size<=g)->pq∉x.fp->(∀g∈ah v,g∉x.fp)->
   ∃F,PQ W ⟨pq,x.b,x.L⟩ F (QS.start 5 300) 1202 1/\(∀g∈F,w.heap.size<=g)/\Hq (QS.start 5 300) 1202 1 from λW x pq v A B S h1 h2 h3 h4 h5=>by
  obtain⟨g,cp,rest,rfl,BB,_⟩:=S.form (by omega) (by omega);obtain⟨gd,e,hc,hr,_⟩:=Mf 1202 (by omega) (by omega) A.hd.ok;rw[n1]at e;have z:Zc (eO (D.zero 1202) 1202) 1202 (St.start 300) 1:=⟨gd,hr,⟨0,by rw[rI,e]⟩,by omega,by show(1:Int)<=(1:Nat);omega⟩
  have H:Hq (QS.start 5 300) 1202 1:=⟨⟨_,z⟩,λf hf=>by rw[oP hf];exact Fb.nil,by show 1<=(fd 5 Fr.nil).length;rw[eR];omega,by show(fd 5 Fr.nil).length<=32;rw[eR];omega,by show 0<(fd 5 Fr.nil).length;rw[eR];omega,by show([]:List ua).length<=512;simp⟩;refine⟨_,⟨⟨x,pq,g,cp⟩,rfl,rfl,rfl,rfl,⟨_,?_,z⟩,Mg H⟩,?_,H⟩
  .refine⟨?_,?_,A,h4,h5 g (by simp[ah]),H.l1,H.l2,H.lh⟩
   .show aF W pq _ #[_,U3 (lc g) (fd 5 Fr.nil).length cp,_];rw[eR];exact B
   .show aM W _ 5 (U3 (lc g) (fd 5 Fr.nil).length cp) (fd 5 Fr.nil).length _;rw[eR];exact S
  .intro y hy;simp only[Y.fp,ar]at hy
   rcases hy with rfl|rfl|hy
   .exact h2
   .exact h3 _ (by simp[ah])
   .exact h1 y hy)
 unfold pp sp at *;go_in;go_wp2_with fail;go_call KD.o as e w1 ⟨L,rfl,D1,aO,hL⟩;have O1:=xh aO;have D1:=xh D1;have HL:=xh hL;clear aO hL;go_wp2_with fail;go_call (KF.o w1 L D1.o) as e w2 ⟨x,hxL,rfl,A2,o2,fx⟩
 have H2:=g9 (At w2 x 1202 (eO (D.zero 1202) 1202)/\i7 w w2/\∀g∈x.fp,w.heap.size<=g) ⟨A2,O1.o.trans (o2.aK O1.o.size HL.o),λg hg=>(fx g hg).elim (HL.o g) (λh=>by have:=O1.o.size;omega)⟩;have HXL:=xh hxL;clear A2 o2 fx hxL;go_wp2_with fail;go_call (KP.o w2 x.b) as e w3 ⟨pq,v,rfl,B3,S3,dk,hp3,hf3⟩
 obtain⟨F3,P3,f3,hq3⟩:=HQ.o w3 x pq v (H2.o.1.below dk) B3 S3 H2.o.2.2 (by have:=H2.o.2.1.size;omega) (λg hg=>by have:=hf3 g hg;have:=H2.o.2.1.size;omega) (λhF=>by have:=H2.o.1.lt _ hF;omega) (λg hg hF=>by have:=H2.o.1.lt _ hF;have:=hf3 g hg;omega);have hb3':=aC H2.o.2.1 dk;have KO:=Gm P3 (by omega);obtain⟨q1e,q1r,q1t⟩:=Qz hq3 (by omega);rw[q1e]at KO;have KO:=xh KO
 have H3:=g9 (i7 w w3/\(∀g∈F3,w.heap.size<=g)) ⟨hb3',f3⟩;have HR:=xh q1r;clear B3 S3 dk hp3 hf3 P3 f3 hq3 hb3' q1e q1r q1t;unfold pp at KO;go_wp2_with fail;go_call KO.o as e w4 ⟨v4,rfl,F4,o4,f4,P4,z4,z5⟩;obtain⟨sb,tb,rfl,hsb,htb,BS,T4⟩:=z5 rfl;have H4:=xh<|io BS (io T4 (io (show i7 w w4 from H3.o.1.trans (o4.aK H3.o.1.size H3.o.2)) (show ∀g∈sb::tb::F4,w.heap.size<=g from λg hg=>by
  have s3:=H3.o.1.size;simp only[ar]at hg
  rcases hg with rfl|rfl|hg
  .omega
  .omega
  .exact(f4 g hg).elim (H3.o.2 g) (λh=>by omega))))
 clear o4 f4 P4 z4 z5 BS T4 hsb htb;go_wp2;go_ret;exact⟨sb,tb,⟨pq,x.b,x.L⟩,F4,by first|rfl|simp,H4.o.1,H4.o.2.1,HR.o,H4.o.2.2.1,H4.o.2.2.2⟩
structure zC(w W:YB)(sb tb:Nat)(I:Ix)(F:List Nat)(q:QS)(n K:Nat):Prop where
 b:aF W sb 182 #[tp tb,pp I.pb,U6 true]
 t:TQ W tb I F q n K
 o:i7 w W
 f:∀g∈sb::tb::F,w.heap.size<=g
section
variable{w W W':YB}{sb tb:Nat}{I:Ix}{F:List Nat}{q q':QS}{n K K':Nat}
theorem zC.nw(h:zC w W sb tb I F q n K):sb∉F:=h.t.2.fI h.b
theorem zC.pq(h:zC w W sb tb I F q n K)(P:PQ W' I F q' n K')(o:ag F W W'):zC w W' sb tb I F q' n K':=
 ⟨h.b.only o h.nw,h.t.next o P,h.o.trans (o.aK h.o.size (λg hg=>h.f g (by simp[hg]))),h.f⟩
theorem zC.pt(h:zC w W sb tb I F q n K)(p:PT W W' I F q' n K'):∃F',zC w W' sb tb I F' q' n K':=by
 obtain⟨F',P,o,f⟩:=p;refine⟨F',h.b.only o h.nw,⟨h.t.1.only o h.t.ne,P⟩,h.o.trans (o.aK h.o.size (λg hg=>h.f g (by simp[hg]))),λg hg=>?_⟩;have hs:=h.o.size;simp only[ar]at hg
 rcases hg with rfl|rfl|hg
 .exact h.f _ (by simp)
 .exact h.f _ (by simp)
 .exact(f g hg).elim (λh1=>h.f g (by simp[h1])) (λh1=>by omega)
theorem zC.below(h:zC w W sb tb I F q n K)(hb:i7 W W'):zC w W' sb tb I F q n K:=
 ⟨h.b.below hb h.b.lt,h.t.below hb,aC h.o hb,h.f⟩
theorem zC.le(h:zC w W sb tb I F q n K)(hk:K<=K'):zC w W sb tb I F q n K':=⟨h.b,h.t.le hk,h.o,h.f⟩
end
def aB:rd:=⟨#[97]⟩
def nB:rd:=⟨#[110]⟩
def xB:rd:=⟨#[120]⟩
def IV:rd:=aD 0 1++aB
def ka2:rd:=aD 0 2++aB
def s1:QS:=(QS.nu.gE IV xB).1
def s2:QS:=(s1.fm IV).1
def s3:QS:=(s2.fm ka2).1
def s4:QS:=(s3.q8 nB 5).1
def s5:QS:=(s4.q8 nB (-2)).1
theorem EF(R:Rd QS.nu I0 oh 1 300):(QS.nu.gE IV xB).2=0/\(s1.fm IV).2=(xB,0)/\(s2.fm ka2).2.2=9/\(s3.q8 nB 5).2=(5,0)/\(s4.q8 nB (-2)).2=(3,0)/\
  ((s3.fm (eZ nB)).2.2=0->(s3.fm (eZ nB)).2.1.size=8)/\((s4.fm (eZ nB)).2.2=0->(s4.fm (eZ nB)).2.1.size=8):=by
 have z1:IV.size=3:=by decide
 obtain⟨a1,v1,M1,a2,a3,a4⟩:=Me R Zw (by simp[jy]) (by decide) IV xB (by omega) (by decide) (by decide) (by decide);have e1:jy M1=[(IV,xB)]:=by rw[a4];rfl
 obtain⟨b1,b2⟩:=qK a2 a3 (by omega) IV;rw[e1,show oZ [(IV,xB)] IV=[(IV,xB)] by simp[oZ]]at b2;obtain⟨c1,c2⟩:=qK b1 a3 (by omega) ka2;have fF:IV≠ka2:=by decide
 rw[e1,show oZ [(IV,xB)] ka2=[] by simp[oZ,fF]]at c2;have C0:Cn [(IV,xB)] (eZ nB) oh s3 0 2 300 v1 M1:=⟨c1,a3,.inl ⟨e1,rfl⟩,λx hx=>by rw[az.1 hx];exact⟨by decide,by decide⟩,by decide,by decide⟩;have f0:=C0.add (by decide) (by omega) (by omega) 5;rw[if_pos (by decide)]at f0;obtain⟨d1,v2,M2,C1⟩:=f0;have f1:=C1.add (by decide) (by omega) (by omega) (-2);rw[if_pos (by decide)]at f1;refine⟨a1,?_,?_,d1,f1.1,(C0.get (by omega)).2.2,(C1.get (by omega)).2.2⟩
 .rcases b2 with⟨_,b2⟩|b2
  .omega
  .exact b2
 .rcases c2 with⟨_,c2⟩|c2
  .omega
  .exact congrArg Prod.snd c2
theorem Mh(w:YB):eq prog 36 #[] w λe w'=>e=BY (U6 true)/\i7 w w':=by
 have KB:=xh<|zB w;go_in;go_wp2_with fail;go_call KB.o as e w1 ⟨sb,tb,I,F,rfl,B1,T1,R1,O1,f1⟩;obtain⟨g1,g2,g3,g4,g5,g6,g7⟩:=EF R1;have A1:zC w w1 sb tb I F QS.nu 1202 3:=⟨B1,T1,O1,f1⟩;have KF:=xh<|DM B1;have K1:=xh (λ(W:YB) (F:List Nat) (hW:zC w W sb tb I F QS.nu 1202 3)=>g1▸wS hW.b hW.t (by omega) 0 1 (by omega) (by omega) aB xB (by decide) (by decide))
 have K2:=xh (λ(W:YB) (F:List Nat) (hW:zC w W sb tb I F s1 1202 103)=>pT hW.b hW.t (by omega) 0 1 (by omega) (by omega) aB (by decide));have K3:=xh (λ(W:YB) (F:List Nat) (hW:zC w W sb tb I F s2 1202 124)=>pT hW.b hW.t (by omega) 0 2 (by omega) (by omega) aB (by decide));have K4:=xh (λ(W:YB) (F:List Nat) (hW:zC w W sb tb I F s3 1202 145)=>g4▸DH hW.b hW.t (by omega) nB (by decide) g6 5)
 have K5:=xh (λ(W:YB) (F:List Nat) (hW:zC w W sb tb I F s4 1202 345)=>g5▸DH hW.b hW.t (by omega) nB (by decide) g7 (-2));rw[show aD 0 1++aB=IV from rfl,g2]at K2;rw[show aD 0 2++aB=ka2 from rfl,g3]at K3;have A1:=xh A1;clear B1 T1 R1 O1 f1 g1 g2 g3 g4 g5 g6 g7;unfold aB nB xB at *;go_wp2_with fail;go_call KF.o as e w2 ⟨rfl,cf⟩;have A2:=A1.o.below cf;have K1:=xh<|K1.o w2 F A2;have A2:=xh A2;clear cf;go_wp2_with fail
 go_call K1.o as e w3 ⟨rfl,p3⟩;obtain⟨F3,A3⟩:=A2.o.pt p3;have K2:=xh<|K2.o w3 F3 A3;have A3:=xh A3;clear p3;go_wp2_with fail;go_call K2.o as e w4 ⟨rfl,P4,o4⟩;have A4:=A3.o.pq P4 o4;have K3:=xh<|K3.o w4 F3 A4;have A4:=xh A4;clear P4 o4;go_wp2_with fail;go_call K3.o as e w5 ⟨rfl,P5,o5⟩;have A5:=A4.o.pq P5 o5;have K4:=xh<|K4.o w5 F3 A5;have A5:=xh A5;clear P5 o5;go_wp2_with fail;refine K4.o.mono ?_
 rintro e w6 ⟨rfl,p6⟩;obtain⟨F6,A6⟩:=A5.o.pt p6;have K5:=xh<|K5.o w6 F6 A6;have A6:=xh A6;clear p6;go_wp2_with fail;go_call K5.o as e w7 ⟨rfl,p7⟩;obtain⟨F7,A7⟩:=A6.o.pt p7;have A7:=xh A7;clear p7;go_wp2;go_ret;exact aI A7.o.o
theorem DN(s l:Int)(rs:List rd):ED s l rs=0\/ED s l rs=2:=by
 unfold ED
 split
 .exact .inr rfl
 .split
  .exact .inl rfl
  .exact .inr rfl
theorem Mi{w:YB}(sb:Nat)(s l:Int){A:Option Addr}{n c:Nat}{rs:List rd}(S:aM w 9 1 (U3 A n c) n (pS rs))(hn:n<=100):
  eq prog 95 #[lc sb,.agg #[s,l],U3 A n c] w λe w'=>e=BY (U5 By (ED s l rs))/\i7 w w':=by
 have qX:=i6 w (WF #[s,l] 177);have P0:=aF.new w 177 #[s,l];have x0:=P0.bi 0;have x1:=P0.bi 1;unfold ED
 by_cases n1:s<0
 .rw[if_pos (.inl n1)];have HO:=xh qX;clear S qX P0;go_in;go_wp2;go_ret;exact aI HO.o
 by_cases n2:7<s
 .rw[if_pos (.inr (.inl n2))];have HO:=xh qX;clear S qX P0;go_in;go_wp2;go_ret;exact aI HO.o
 by_cases n3:l<0
 .rw[if_pos (.inr (.inr (.inl n3)))];have HO:=xh qX;clear S qX P0;go_in;go_wp2;go_ret;exact aI HO.o
 by_cases n4:6<=l
 .rw[if_pos (.inr (.inr (.inr n4)))];have HO:=xh qX;clear S qX P0;go_in;go_wp2;go_ret;exact aI HO.o
 rw[gc];have S1:=S.below qX;have qQ:rs.length=n:=by have:=S.1;simp[pS]at this;omega
 have HL:=xh qQ;have H0:=xh<|io S1 qX;obtain⟨res,Eo⟩:∃res:Int,(if rs.all (λr=>decide (r.size<=30))=true then 0 else 2)=res:=⟨_,rfl⟩;have HR:=xh Eo;rw[Eo];clear S S1 qX P0 qQ Eo;go_in;go_wp2_with fail
 go_loopw [33] (λiv wr=> ∃i:Nat,i<=n/\iv=U5 By (i:Nat)/\Hid (∀r∈rs.take i,r.size<=30)/\Below (w.alloc (WF #[s,l] 177)).heap.size (w.alloc (WF #[s,l] 177)) wr) (λiv _=>n-(intOf iv).toNat)
 case atStart=>exact⟨0,aW _,rfl,xh (by simp),Below.refl _ _⟩
 case round=>
  obtain⟨i,hi,rfl,HS,O⟩:=hrel
  by_cases h:i<n
  .have hI:(i:Int)<(n:Int):=by omega
   have S2:=H0.o.1.below O;obtain⟨g,cap,rest,hv,B,hc,kO⟩:=S2.form (by omega) (by omega);injection hv with e1 e2 e3
   subst e1 e3;obtain⟨r,hx⟩:∃r,rs[i]?=some r:=⟨_,aH (by rw[HL.o];exact h)⟩;have xc:wr.cell? ⟨g,i,none⟩=some (U2 r):=B.ab (by
    rw[cN,bE (by simp[pS];rw[HL.o];exact h)];simp[pS,hx])
   by_cases gZ:r.size<=30
   .have VP:¬(30:Int)<(r.size:Int):=by omega
    have HO:=xh O;have Bu:=xh (show ∀r∈rs.take (i+1),r.size<=30 from λy hy=>by
     rw[kQ,hx]at hy
     rcases ay.1 hy with hy|hy
     .exact HS.o y hy
     .simp at hy;rw[hy];exact gZ)
    clear S2 B kO O hx gZ;go_wp2_with fail;go_roundw
    case rel=>exact⟨i+1,by omega,by go_num,Bu,HO.o⟩
    case measure=>simp[intOf];omega
   .have VP:(30:Int)<(r.size:Int):=by omega
    have h2:res=2:=by
     rw[<-HR.o,if_neg];intro jU;rw[oN]at jU;exact gZ (of_decide_eq_true (jU r (aA hx)))
    subst h2;have HO:=xh<|aC H0.o.2 O;clear S2 B kO O hx gZ;go_wp2;go_ret;exact aI HO.o
  .have hI:¬(i:Int)<(n:Int):=by omega
   have h2:res=0:=by
    rw[<-HR.o,if_pos];rw[oN];intro r hr;have hs:=HS.o;rw[cm (by rw[HL.o];omega)]at hs;exact decide_eq_true (hs r hr)
   subst h2;have HO:=xh<|aC H0.o.2 O;clear O;go_wp2;go_ret;exact aI HO.o
theorem Mj{w:YB}{sb tb:Nat}{I:Ix}{F:List Nat}{q:QS}{n Kz:Nat}{fr:Bool}(B:aF w sb 182 #[tp tb,pp I.pb,U6 fr])(T:TQ w tb I F q n Kz)(hK:Kz<=999999970000)(s l:Nat)(hs:s<=7)(hl:l<6)(r:rd)(hr:r.size<=30):
  eq prog 47 #[lc sb,(s:Nat),(l:Nat),U2 r] w λe w'=>e=BY (U5 By (q.jV (aD s l++r)).2)/\PT w w' I F (q.jV (aD s l++r)).1 n (Kz+700):=by
 obtain⟨z,hz⟩:∃z,w.heap.size=z:=⟨_,rfl⟩;have aO:=i6 w (WF #[(s:Nat),(l:Nat)] 177);have P0:=aF.new w 177 #[(s:Nat),(l:Nat)];obtain⟨w1,lD⟩:∃w1,w.alloc (WF #[(s:Nat),(l:Nat)] 177)=w1:=⟨_,rfl⟩;rw[lD]at aO P0;rw[hz]at P0;have Ap:w1.heap.size=z+1:=by rw[<-lD,gf,hz]
 have SR:aM (w1.alloc (WF #[U2 r] 9)) 9 1 (U3 (lc w1.heap.size) 1 1) 1 (pS [r]):=⟨rfl,.inr ⟨w1.heap.size,1,[],rfl,aF.new _ _ _,rfl,by decide⟩⟩;have cf:=aC aO (i6 w1 (WF #[U2 r] 9));have P2:=P0.alloc (WF #[U2 r] 9);have KM:=xh<|tP (w:=w1.alloc (WF #[U2 r] 9)) sb (s:Nat) (l:Nat) ⟨by omega,by omega⟩ ⟨by omega,by omega⟩ SR (by omega) (by simpa using hr);rw[Ap]at KM
 have KH:=xh (λ(W:YB)=>pR s l hs (by omega) W);have KT:=xh (λ(W:YB) (hW:TQ W tb I F q n Kz)=>Lr hW (by omega) (aD s l++r));have x0:=P0.bi 0;have x1:=P0.bi 1;have NB:=xh<|T.2.fI B;have hcat:¬9223372036854775807<(aD s l).size+r.size:=by show ¬9223372036854775807<2+r.size;omega
 have NZ:=g9 (z∉F) (λhm=>by have:=T.2.lt _ hm;omega);have H0:=xh<|io B (io T (io P2 cf));clear B T P0 P2 SR aO cf;subst lD;unfold tp at KT;go_in;go_wp2_with fail;go_call KM.o as e w3 ⟨rfl,dk⟩;have T3:=xh<|(H0.o.2.1.below H0.o.2.2.2).below dk;have B3:=xh<|(H0.o.1.below H0.o.2.2.2 H0.o.1.lt).below dk (H0.o.1.below H0.o.2.2.2 H0.o.1.lt).lt
 have P3:=xh<|H0.o.2.2.1.below dk H0.o.2.2.1.lt;have O3:=xh<|aC H0.o.2.2.2 dk;have S0:=g9 (w3.drew.cell? (lc sb)=some (lc tb:li)/\w3.drew.cell? (lc z)=some ((s:Nat):li)/\w3.drew.cell? ⟨z,1,none⟩=some ((l:Nat):li)) ⟨B3.ap 0,P3.ap 0,P3.ap 1⟩;clear dk x0 x1;go_wp2_with fail
 refine kw (λW=>W.cell? (lc sb)=some (lc tb:li)/\W.cell? (lc z)=some ((s:Nat):li)/\W.cell? ⟨z,1,none⟩=some ((l:Nat):li)) (S0.o) (λau=>?_);refine dP [(0,22),(1,23),(2,24),(3,25),(4,26),(6,28)] ?_
 iterate 6 refine bJ ?_
 refine dI 5 27 λK hK=>?_;go_simp
 go_at_call 97
 go_call (KH.o _) as e w4 ⟨rfl,fo⟩;have T4:=xh<|T3.o.drew.below fo;have B4:=xh<|B3.o.drew.below fo B3.o.drew.lt;have P4:=xh<|P3.o.drew.below fo P3.o.drew.lt;have O4:=xh<|aC (de O3.o 1) fo
 have S4:=g9 (w4.cell? (lc sb)=some (lc tb:li)/\w4.cell? (lc z)=some ((s:Nat):li)/\w4.cell? ⟨z,1,none⟩=some ((l:Nat):li)) ⟨B4.ap 0,P4.ap 0,P4.ap 1⟩;clear fo;go_simp;refine bn hK (S4.o) (λau=>?_);refine dP [(7,29)] ?_
 iterate 1 refine bJ ?_
 refine dI 8 30 λK hK=>?_;go_simp
 go_at_call 26
 go_call (KT.o w4 T4.o) as e w5 ⟨rfl,F5,p5,o5,f5⟩;have S5:=g9 (w5.cell? (lc sb)=some (lc tb:li)/\w5.cell? (lc z)=some ((s:Nat):li)/\w5.cell? ⟨z,1,none⟩=some ((l:Nat):li)) ⟨(B4.o.only o5 NB.o).ab (i:=0) rfl,(P4.o.only o5 NZ.o).ab (i:=0) rfl,(P4.o.only o5 NZ.o).ab (i:=1) rfl⟩
 have H5:=g9 (PT w w5 I F (q.jV (aD s l++r)).1 n (Kz+700)) ⟨F5,p5,(ag.aj O4.o).trans o5,λg hg=>(f5 g hg).imp id (λh=>aq O4.o.size h)⟩;clear o5;go_simp;refine bn hK (S5.o) (λau=>?_);refine dP [(9,8)] ?_
 iterate 1 refine bJ ?_
 refine jp ?_ _;go_wp2;go_ret;exact aI H5.o
theorem UY(s l:Nat)(hs:s<=7)(hl:l<=5)(w:YB):
  eq prog 145 #[.agg #[(s:Nat),(l:Nat)]] w λe w'=>e=BY (U2 (aD s (l+1)))/\i7 w w':=by
 have O0:=xh<|i6 w (WF #[(s:Nat),(l:Nat)] 177);have P0:=aF.new w 177 #[(s:Nat),(l:Nat)];have x0:=P0.bi 0;have x1:=P0.bi 1;have e1:IntKind.i64.wrap ((l:Int)+1)=((l+1:Nat):Int):=dl;have KH:=xh (λ(W:YB)=>pR s (l+1) hs (by omega) W);clear P0;go_in;go_wp2_with fail;go_call (KH.o _) as e w1 ⟨rfl,aO⟩
 have O1:=xh<|aC O0.o aO;clear aO;go_wp2;go_ret;exact aI O1.o
variable{w:YB}{A:Option Addr}{n c:Nat}{l:List PR}
theorem Zx{a b:rd}(h:a≠b):(a.toList==b.toList)=false:=by
 apply beq_eq_false_iff_ne.2;intro e;rw[bQ,bQ]at e;exact h (jQ (qP.1 e))
theorem RP:∀{l:List PR} {i:Nat} {x:PR},l[i]?=some x->(iQ l)[i*2]?=some (U2 x.1)/\(iQ l)[i*2+1]?=some (U2 x.2)
 |[],_,_,h=>by simp at h
 |y::l,0,x,h=>by
  simp only[uz,Option.some.injEq]at h;subst h;exact⟨rfl,rfl⟩
 |y::l,i+1,x,h=>by
  rw[rk]at h;have:=RP h;have e:iQ (y::l)=[U2 y.1,U2 y.2]++iQ l:=rfl;rw[e,dQ (by simp;omega),dQ (by simp;omega),show(i+1)*2-[Value.string y.1,Value.string y.2].length=i*2 by simp;omega,show(i+1)*2+1-[Value.string y.1,Value.string y.2].length=i*2+1 by simp;omega];exact this
theorem aM.pr(S:aM w 42 2 (U3 A n c) n (iQ l)){i:Nat}(hi:i<n):∃g x,A=some ⟨g,0,none⟩/\l[i]?=some x/\n<=c/\c<=maxLen/\w.cell? ⟨g,i*2,none⟩=some (U2 x.1)/\w.cell? ⟨g,i*2+1,none⟩=some (U2 x.2):=by
 have hl:l.length=n:=by have:=S.1;rw[ez]at this;omega
 obtain⟨g,cap,rest,hv,B,hc,hr⟩:=S.form (by omega) (by omega);injection hv with e1 e2 e3
 subst e1;obtain⟨x,hx⟩:∃x,l[i]?=some x:=⟨_,aH (by omega)⟩;obtain⟨p1,p2⟩:=RP hx;have vr:c<=maxLen:=by obtain⟨_,_,_,_,h⟩:=S.uD;exact h
 refine⟨g,x,rfl,hx,by omega,vr,?_,?_⟩
 .exact B.ab (by rw[cN,bE (by rw[ez];omega)];exact p1)
 .exact B.ab (by rw[cN,bE (by rw[ez];omega)];exact p2)
theorem p_ne(k v k' v':rd):(k=k'/\v=v')\/(k≠k')\/(k=k'/\v≠v'):=by
 by_cases h1:k=k'
 .by_cases h2:v=v'
  .exact .inl ⟨h1,h2⟩
  .exact .inr (.inr ⟨h1,h2⟩)
 .exact .inr (.inl h1)
theorem Mk{A':Option Addr}{n' c':Nat}{l':List PR}(S:aM w 42 2 (U3 A n c) n (iQ l))(S':aM w 42 2 (U3 A' n' c') n' (iQ l'))(hn:n<=1000000)(hn':n'<=1000000)(b:Bool)(hb:b=true↔l=l'):
  eq prog 19 #[U3 A n c,U3 A' n' c'] w λr w'=>r=BY (U6 b)/\i7 w w':=by
 have hl:l.length=n:=by have:=S.1;rw[ez]at this;omega
 have DO:l'.length=n':=by have:=S'.1;rw[ez]at this;omega
 have HL:=xh hl;have HL':=xh DO;have H0:=xh S;have H1:=xh S';have HB:=xh hb;clear S S' hb hl DO
 by_cases hnn:n=n'
 .subst hnn;go_in;go_wp2_with fail
  go_loopw [5] (λiv wr=> ∃i:Nat,i<=n/\iv=U5 By i/\Hid (∀j:Nat,j<i->l[j]?=l'[j]?)/\i7 w wr) (λiv _=>n-(intOf iv).toNat)
  case atStart=>exact⟨0,aW _,rfl,xh (λj h=>absurd h (mc _)),Below.refl _ _⟩
  case round=>
   obtain⟨i,hi,rfl,EQ,O⟩:=hrel
   by_cases h:i<n
   .obtain⟨g,x,rfl,hx,q1,q2,a0,a1⟩:=aM.pr (H0.o.below O) h;obtain⟨g',x',rfl,hx',q1',q2',b0,b1⟩:=aM.pr (H1.o.below O) h;have OO:=xh O;have HE:=xh<|io hx hx';have hii:(i:Int)<(n:Int):=by omega
    clear O hx hx';obtain⟨k,v⟩:=x;obtain⟨k',v'⟩:=x';dsimp only at *
    rcases p_ne k v k' v' with⟨rfl,rfl⟩|hd|⟨rfl,hd⟩
    .have HQ:=xh (show ∀j:Nat,j<i+1->l[j]?=l'[j]? from λj hj=>by
      rcases qg.1 hj with h1|rfl
      .exact EQ.o j h1
      .rw[HE.o.1,HE.o.2])
     go_wp2_with fail;go_quiet (fail);go_wp2_with fail;go_roundw
     case rel=>exact⟨i+1,by omega,by go_num,HQ,de OO.o _⟩
     case measure=>simp[intOf];omega
    all_goals
     have HD:=xh (show l≠l' from λhx=>by
      have h1:=HE.o.1;rw[hx,HE.o.2]at h1;simp only[Option.some.injEq,Prod.mk.injEq]at h1
      first|exact hd h1.1.symm|exact hd h1.2.symm)
     have XB:=Zx hd;have hd3:=Zx (λe=>hd e.symm);go_wp2_with fail;go_quiet (fail);go_wp2;go_ret;have hbf:b=false:=by
      cases b
      .rfl
      .exact absurd (HB.o.1 rfl) HD.o
     exact⟨by rw[hbf];rfl,de OO.o _⟩
   .have hii:¬(i:Int)<(n:Int):=by omega
    have e:i=n:=by omega
    subst e;have Zk:b=true:=HB.o.2 (nM λj=>by
     rcases fC j i with h1|h1
     .exact EQ.o j h1
     .rw[gH (by rw[HL.o];exact h1),gH (by rw[HL'.o];exact h1)])
    have HBT:=xh Zk;have OO:=xh O;clear Zk O;go_wp2;go_ret;exact⟨by rw[HBT.o];rfl,OO.o⟩
 .have hbf:b=false:=by
   cases b
   .rfl
   .have:=HB.o.1 rfl;rw[this,HL'.o]at HL;exact absurd HL.o.symm hnn
  have hnI:(n:Int)≠(n':Int):=by omega
  have hq:((n:Int) != (n':Int))=true:=ls hnI
  have my:((n:Int)==(n':Int))=false:=by rw[beq_eq_false_iff_ne];exact hnI
  have HBT:=xh hbf;clear hbf;go_in;go_wp2;go_ret;exact⟨by rw[HBT.o];rfl,Below.refl _ _⟩
attribute [local go_sem ↓] bA
variable{w:YB}{mb:Nat}{v:YO}{l:List PR}
structure Mp(w:YB)(mb:Nat)(v:YO)(l:List PR):Prop where
 b:aF w mb 45 #[v]
 s:aM w 42 2 v l.length (iQ l)
 n:l.length<=1000000
theorem Mp.below{w':YB}(h:Mp w mb v l)(hb:i7 w w'):Mp w' mb v l:=⟨h.b.below hb h.b.lt,h.s.below hb,h.n⟩
def pY:List PR->rd->Nat
 |[],_=>0
 |x::l,k=>if fw x.1 k then pY l k+1 else 0
theorem QA(k:rd):∀l:List PR,pY l k<=l.length
 |[]=>ai _
 |x::l=>by unfold pY;split;(have:=QA k l;simp;omega);exact aW _
theorem Zy(k:rd):∀(l:List PR) (i:Nat),i<pY l k->∃x,l[i]?=some x/\fw x.1 k
 |[],i=>λh=>absurd h (by unfold pY;omega)
 |x::l,i=>λh=>by
  unfold pY at h
  split at h
  .rename_i hx
   cases i with
   |zero=>exact⟨x,rfl,hx⟩
   |succ i=>exact Zy k l i (by omega)
  .omega
theorem Zz(k:rd):∀(l:List PR),pY l k<l.length->∃x,l[pY l k]?=some x/\¬fw x.1 k
 |[]=>λh=>absurd h (by simp)
 |x::l=>λh=>by
  unfold pY at h ⊢
  split at h
  .rename_i hx;rw[if_pos hx];exact Zz k l (by simp at h;omega)
  .rename_i hx;rw[if_neg hx];exact⟨x,rfl,hx⟩
def um(l:List PR)(k:rd):Bool:=match l[pY l k]? with|some x=>decide (x.1=k)|none=>false
theorem I1(a b:rd):Op.bytesLess a.toList b.toList=decide (fw a b):=by rw[bQ,bQ,Nd.Rq];rfl
theorem str_eq(a b:rd):(a.toList==b.toList)=decide (a=b):=by
 rw[bQ,bQ]
 by_cases h:a=b
 .subst h;simp
 .rw[decide_eq_false h];simp only[beq_eq_false_iff_ne];intro e;exact h (jQ (qP.1 e))
theorem prc_at(l:List PR)(i:Nat)(x:PR)(h:l[i]?=some x):(iQ l)[i*2]?=some (U2 x.1)/\(iQ l)[i*2+1]?=some (U2 x.2):=by
 induction l generalizing i with
 |nil=>simp at h
 |cons y l ih=>
  have e:iQ (y::l)=U2 y.1::U2 y.2::iQ l:=rfl;rw[e]
  cases i with
  |zero=>simp at h;subst h;exact⟨rfl,rfl⟩
  |succ i=>
   have:=ih i (by simpa using h);rw[show(i+1)*2=i*2+1+1 by omega];simpa using this
theorem Mp.at(h:Mp w mb v l)(i:Nat)(x:PR)(hx:l[i]?=some x):∃g c,v=U3 (lc g) l.length c/\w.cell? ⟨g,i*2,none⟩=some (U2 x.1)/\w.cell? ⟨g,i*2+1,none⟩=some (U2 x.2):=by
 have hi:=(aR.1 hx).1;obtain⟨g,c,rest,e,B,_⟩:=h.s.form (by omega) (by omega);obtain⟨h1,h2⟩:=prc_at l i x hx;refine⟨g,c,e,?_,?_⟩
 .rw[B.cell,cN,bE (aR.1 h1).1];exact h1
 .rw[B.cell,cN,bE (aR.1 h2).1];exact h2
theorem zD(key fr til:rd)(w:YB):eq prog 106 #[U2 key,U2 fr,U2 til] w λe w'=>e=BY (U6 (zA fr til key))/\w=w':=by
 have c1:Op.bytesLess key.toList fr.toList= !decide (ox fr key):=by
  rw[I1];have h:=Nd.IA fr.data.toList key.data.toList
  by_cases hk:ox fr key
  .rw[decide_eq_true hk,decide_eq_false (by show ¬Nd.cb _ _<0;have:Nd.cb fr.data.toList key.data.toList<=0:=hk;omega)];rfl
  .rw[decide_eq_false hk,decide_eq_true (by show Nd.cb _ _<0;have:¬Nd.cb fr.data.toList key.data.toList<=0:=hk;omega)];rfl
 have c2:=I1 key til;have c3:til.toList.isEmpty=decide (til.size=0):=by
  rw[bQ]
  by_cases h:til.size=0
  .rw[decide_eq_true h,show til=⟨#[]⟩from jQ (VS h)];rfl
  .rw[decide_eq_false h]
   cases hl:til.data.toList with
   |nil=>exact absurd (show til.data.toList.length=0 by rw[hl];rfl) h
   |cons a b=>rfl
 unfold zA;generalize decide (ox fr key)=a at *;generalize decide (fw key til)=b at *;generalize decide (til.size=0)=d at *
 cases a<;>cases b<;>cases d
 all_goals
  go_in;go_wp2;go_ret;exact aI (by first|rfl|trivial)
theorem I2(h:Mp w mb v l)(key:rd):
  eq prog 105 #[lc mb,U2 key] w λe w'=>e=BY (U8 #[(pY l key:Nat),U6 (um l key)])/\i7 w w':=by
 obtain⟨A,c,rfl⟩:=ax h.s;have x0:=h.b.bi 0;have hn:=h.n;have HM:=xh h;have HLE:=xh<|QA key l;have rC:=xh<|Zy key l;have HAT:=xh<|Zz key l;obtain⟨ln,oy⟩:∃ln,l.length=ln:=⟨_,rfl⟩;have Ep:=xh oy;obtain⟨at_,hat⟩:∃a,pY l key=a:=⟨_,rfl⟩;have HATE:=xh hat;rw[hat]at HLE rC HAT ⊢;rw[oy]at HLE HAT x0 hn;have O0:=xh<|i5 w;obtain⟨bb,vR⟩:∃bb,um l key=bb:=⟨_,rfl⟩;have HBB:=xh vR;rw[vR]
 clear h oy hat vR;go_in;go_wp2_with fail
 go_loopw [6] (λiv wr=> ∃i:Nat,i<=at_/\iv=U5 By i/\wr=w) (λiv _=>ln-(intOf iv).toNat)
 case atStart=>exact⟨0,aW _,rfl,rfl⟩
 case round=>
  obtain⟨i,hi,rfl,rfl⟩:=hrel;have hle:=HLE.o
  by_cases h1:i<ln
  .have ZA:(i:Int)<(ln:Int):=by omega
   have ei:IntKind.i64.wrap ((i:Int)+1)=((i+1:Nat):Int):=dl
   by_cases h2:i<at_
   .obtain⟨x,hx,hk⟩:=rC.o i h2;obtain⟨g,c',hv,d0,_⟩:=HM.o.at i x hx;injection hv with qV re Jl
    subst qV;have c1:=(I1 x.1 key).trans (decide_eq_true hk);clear re Jl hx hk;go_wp2_with fail;go_roundw
    case rel=>exact⟨i+1,by omega,by go_num,by trivial⟩
    case measure=>simp[intOf];omega
   .obtain rfl:i=at_:=by omega
    obtain⟨x,hx,hk⟩:=HAT.o h1;obtain⟨g,c',hv,d0,_⟩:=HM.o.at i x hx;injection hv with qV re Jl
    subst qV;have c1:=(I1 x.1 key).trans (decide_eq_false (by first|exact hk|exact Int.not_lt.2 hk));have c2:=str_eq x.1 key;have cf:bb=decide (x.1=key):=by rw[<-HBB.o];unfold um;rw[HATE.o,hx]
    rw[<-cf]at c2;clear re Jl hx hk cf;have S0:=g9 (wr.drew.cell? (lc mb)=some (U3 (lc g) ln c)/\wr.drew.cell? ⟨g,i*2,none⟩=some (U2 x.1)) ⟨x0,d0⟩;go_wp2_with fail;refine kw (λW=>W.cell? (lc mb)=some (U3 (lc g) ln c)/\W.cell? ⟨g,i*2,none⟩=some (U2 x.1)) (S0.o) (λau=>?_)
    refine dP [(0,28),(1,29),(2,30),(3,31),(4,32),(5,33),(6,34),(7,35),(8,36),(9,37),(10,38),(11,39),(12,40),(13,41),(14,42),(15,43),(16,44),(17,45),(18,46),(19,47),(20,4),(21,5)] ?_
    iterate 22 refine bJ ?_
    refine jp ?_ _;go_wp2;go_ret2;exact aI O0.o.drew
  .obtain rfl:i=at_:=by omega
   have ZA:¬(i:Int)<(ln:Int):=by omega
   have cf:bb=false:=by
    rw[<-HBB.o];unfold um;rw[HATE.o,gH (by have:=Ep.o;omega)]
   have PD:=xh cf;clear cf;have S0:=g9 (wr.drew.cell? (lc mb)=some (U3 A ln c)) x0;go_wp2_with fail;refine kw (λW=>W.cell? (lc mb)=some (U3 A ln c)) (S0.o) (λau=>?_);refine dP [(0,28),(1,29),(2,30),(3,31),(4,32),(5,33),(6,34),(7,35),(8,36)] ?_
   iterate 9 refine bJ ?_
   refine cL 9 37 ?_;refine cL 10 38 ?_;refine cL 11 39 ?_;refine cL 12 40 ?_;refine cL 13 41 ?_;refine cL 14 42 ?_;refine cL 15 43 ?_;refine cL 16 44 ?_;refine cL 17 45 ?_;refine cL 18 46 ?_;refine dP [(19,47),(20,4),(21,5)] ?_
   iterate 3 refine bJ ?_
   refine jp ?_ _;go_wp2;go_ret2;rw[PD.o];exact aI O0.o.drew
end Sh
end Go.Proofs.YtmonobkginiajaaGreat
