/- packed. -/
import Derived.Test.YtmonobkginiajaaGreatB11
set_option linter.all false
set_option maxRecDepth 100000
set_option maxHeartbeats 8000000
namespace Go.Proofs.YtmonobkginiajaaGreat
open Go.Proofs.Tryz
namespace Sh
open Go.RowKit Pk Dk Pg
open Nd (E aH bA aX bj dN bP bl cF)
attribute [local go_sem ↓] Go.wp_at_zero Go.wp_at_succ bz
variable{w:World}
abbrev PR:=ByteArray×ByteArray
def ku(l:List PR):List Value:=l.flatMap λx=>[.string x.1,.string x.2]
theorem eh:∀l:List PR,(ku l).length=l.length*2
 |[]=>rfl
 |x::l=>by unfold ku;rw[gW,aU];have:=eh l;unfold ku at this;rw[this];simp;omega
theorem ng(a b:List PR):ku (a++b)=ku a++ku b:=by simp[ku]
def pB:List E->QS->List PR->QS×List PR×Int
 |[],q,out=>(q,out,0)
 |x::l,q,out=>if(q.fL x).2.2≠0 then((q.fL x).1,[],(q.fL x).2.2)else pB l (q.fL x).1 (out++[(x.key,(q.fL x).2.1)])
def QS.iY(q:QS)(fr az:ByteArray)(n:Int):QS×List PR×Int:=
 if(q.ev (mN n) fr az []).e≠0 then((q.ev (mN n) fr az []).q,[],(q.ev (mN n) fr az []).e)else pB (q.ev (mN n) fr az []).s (q.ev (mN n) fr az []).q []
theorem pk:(prog.info? 42).map (λi=>(i.zero,i.size,i.bytes))=some (some (.agg #[.string .empty,.string .empty]),2,32):=by kernel_rfl
theorem wU{v:Value}{m:Nat}{L:List Value}(S:aT w 42 2 v m L)(a b:ByteArray)(hm:m<=1000000):
  ∃v' w',dP prog 30 30 (w.alloc (.cells #[.string a,.string b] 42)) v (.slice (some ⟨w.heap.size,0,none⟩) 1 1)= .ok v' w'/\aT w' 42 2 v' (m+1) (L++[.string a,.string b])/\ag (ai v) w w'/\(∀g∈ai v',g∈ai v\/w.heap.size<=g):=by
 obtain⟨i0,hi,kx,ju,kg⟩:=info_parts pk;obtain⟨v',w',h1,h2,h3,h4⟩:=dk (P:=prog) (S.alloc (.cells #[.string a,.string b] 42)) 30 30 i0 _ 32 underlying30 hi kx ju kg rfl (by omega)
  ⟨w.heap.size,0,none⟩ 1 1 [.string a,.string b] rfl (bq (aJ.new w 42 #[.string a,.string b]) 0 _ (by simp)) (by simp;exact⟨rfl,rfl⟩) (by unfold maxLen;omega) (by omega)
 exact⟨v',w',h1,h2,((ag.refl _ _).alloc _).aO h3 (λx hx _=>hx),λg hg=>(h4 g hg).imp id (λh=>by simp at h;omega)⟩
theorem rz{tb:Nat}{I:Ix}{F:List Nat}{q:QS}{n K:Nat}(h:TQ w tb I F q n K)(hK:K<=999999000000)(fr az:ByteArray)(m:Int):
  Calls prog 17 #[tp tb,.string fr,.string az,.int .i64 m] w λe w'=> ∃v,e=.returned (.tuple #[v,.int .i64 (q.iY fr az m).2.2])/\aT w' 42 2 v (q.iY fr az m).2.1.length (ku (q.iY fr az m).2.1)/\PQ w' I F (q.iY fr az m).1 n (K+300000)/\ag F w w'/\(∀g∈ai v,w.heap.size<=g):=by
 have hmf:∀(fn:Fn) (first cap:Array Value) (w:World),(Instr.makeFunc fn first cap).run prog w=.ok (.func fn first cap) w:=λ_ _ _ _=>rfl;obtain⟨z,hz⟩:∃z,w.heap.size=z:=⟨_,rfl⟩;have W0:=Below.refl w.heap.size w;obtain⟨w1,I6⟩:∃w1,w.alloc (.cells #[.int .i64 m] 3)=w1:=⟨_,rfl⟩;have s1:w1.heap.size=z+1:=by rw[<-I6,jD,hz]
 have Ja:aJ w1 z 3 #[.int .i64 m]:=by rw[<-I6,<-hz];exact aJ.new _ _ _
 have W1:=aB W0 (ae (Below.refl w.heap.size w) (.cells #[.int .i64 m] 3));rw[I6]at W1;obtain⟨w2,Ex⟩:∃w2,w1.alloc (.cells #[.slice none 0 0] 108)=w2:=⟨_,rfl⟩;have s2:w2.heap.size=z+1+1:=by rw[<-Ex,jD,s1]
 have Jb:aJ w2 (z+1) 108 #[.slice none 0 0]:=by rw[<-Ex,<-s1];exact aJ.new _ _ _
 have Be:=Ja.alloc (.cells #[.slice none 0 0] 108);rw[Ex]at Be;have W2:=aB W1 (ae (Below.refl w1.heap.size w1) (.cells #[.slice none 0 0] 108));rw[Ex]at W2;have hI:qC (z+1) z m w2 [] [z+1,z]:=⟨none,0,rfl,Jb,Be,aT.nil _ _ _,by omega⟩;have dH:=h.lt;have KE:=wQ (V9 (z+1) z m) (h.below W2) (by omega) fr az hI (λg hg hm=>by have:=dH g hg;simp at hm;omega) rfl
 have KV:=xh (λ(W:World) (qj:QS) (kj:Nat) (hW:TQ W tb I F qj n kj) (hk:kj<=999999999900) (x:E)=>sR hW hk x);unfold QS.iY;obtain⟨R,hR⟩:∃R,q.ev (mN m) fr az []=R:=⟨_,rfl⟩;rw[hR]at KE ⊢;obtain⟨RR,bG⟩:∃RR,(if R.e≠0 then(R.q,([]:List PR),R.e)else pB R.s R.q [])=RR:=⟨_,rfl⟩;rw[bG];have eY:=xh bG;have KE:=xh KE;have xw:=xh W2;have HZ:=xh hz;have oO:=xh dH;have HNE:=xh h.ne;clear Ja Jb Be W0 W1 W2 s1 s2 hI dH h bG hR
 subst I6 Ex;unfold tp lp at *;go_enter func17,ntmps17;go_wp2_with fail;refine KE.o.mono ?_;rintro e w3 ⟨rfl,G,a1,a2,a3,a4,a5,a6⟩;obtain⟨A,c,hG,b1,b2,b3,b4⟩:=a2;obtain⟨l,hl⟩:∃l,R.s=l:=⟨_,rfl⟩;obtain⟨er,vz⟩:∃er,R.e=er:=⟨_,rfl⟩;obtain⟨k,hk⟩:∃k,l.length=k:=⟨_,rfl⟩;rw[hl]at b1 b3 hG a5 eY;rw[hk]at b1 b3 hG a5;rw[vz]at eY ⊢
 have o3:ag F w w3:=(ag.aj (S:=F) xw.o).aO a3 (λg hg hl=>(aC.1 hg).elim id (λhg=>by have:=HZ.o;simp at hg;omega));have hG3:∀g∈G,w.heap.size<=g:=λg hg=>(a4 g hg).elim (λh=>by have:=HZ.o;simp at h;omega) (λh=>ar xw.o.size h);have Ke:=o3.size
 by_cases he:er=0
 .subst he;have qa:pB l R.q []=RR:=by have:=eY.o;rw[if_neg (by simp)]at this;exact this
  have eY:=xh qa;have H3:=xh (show TQ w3 tb I F R.q n (K+513)/\aT w3 111 3 (.slice A k c) k (aH l)/\ag F w w3/\(∀g∈tb::F,g∉ai (.slice A k c))/\(∀g∈ai (.slice A k c),w.heap.size<=g)/\k<=57*513 from
   ⟨a1,b3,o3,λg hg hm=>a6 g hg (by rw[hG];simp[hm]),λg hg=>hG3 g (by rw[hG];simp[hg]),a5⟩)
  have x1:=b1.ab (i:=0) rfl;have hlen:=H3.o.2.2.2.2.2;have RA:=xh hk;clear hk a1 a3 a4 a5 a6 b1 b2 b3 b4 o3 hG3 qa hl vz;go_wp2_with fail
  go_loopw [12,27] (λov iv wr=> ∃(i:Nat) (qi:QS) (out:List PR),i<=k/\iv=.int .i64 (i:Nat)/\aT wr 42 2 ov i (ku out)/\Hid (pB (l.drop i) qi out=RR/\out.length=i)/\Hid (TQ wr tb I F qi n (K+513+5*i)/\aT wr 111 3 (.slice A k c) k (aH l)/\ag F w wr/\(∀g∈ai ov,w.heap.size<=g/\g∉ai (.slice A k c)))) (λ_ iv _=>k-(intOf iv).toNat)
  case atStart=>exact⟨0,R.q,[],by omega,rfl,aT.nil _ _ _,xh ⟨eY.o,rfl⟩,xh ⟨H3.o.1,H3.o.2.1,H3.o.2.2.1,by simp[ai]⟩⟩
  case round=>
   obtain⟨i,qi,out,hi,rfl,S1,HV,HA⟩:=hrel;obtain⟨VA,vc,rfl⟩:=au S1
   by_cases uY:i<k
   .have hikI:(i:Int)<(k:Int):=by omega
    obtain⟨x,hx⟩:∃x,l[i]?=some x:=⟨_,aL (by rw[RA.o];exact uY)⟩;obtain⟨ga,ca,xI,Bv,BA,hca1,hca2⟩:=HA.o.2.1.form (by omega) (by omega);have SE:=(Nd.aT.aH HA.o.2.1).2;obtain⟨ad,wC,fT⟩:=SE.2 i x hx;injection Bv with e1 e2 e3
    subst e1 e3;injection wC with wC
    subst wC;rw[Nd.fe,bg]at fT;have xc0:=fT.c0;have xc1:=fT.c1;have xc2:=fT.c2;dsimp only at xc0 xc1 xc2;have hgal:=BA.lt;obtain⟨zr,hzr⟩:∃zr,wr.heap.size=zr:=⟨_,rfl⟩;have B0:=aJ.new wr 111 #[.string .empty,.string .empty,.int .i64 0];have D1:=aJ.new wr 111 #[.string x.key,.string x.val,.int .i64 x.aW];have jw:=ae (Below.refl wr.heap.size wr) (.cells #[.string x.key,.string x.val,.int .i64 x.aW] 111);rw[hzr]at B0 D1;have y0:=B0.ab (i:=0) rfl
    have y1:=B0.ab (i:=1) rfl;have y2:=B0.ab (i:=2) rfl;have f0:=B0.frozen 0 (by simp);have f1:=B0.frozen 1 (by simp);have f2:=B0.frozen 2 (by simp);have KX:=xh (KV.o (wr.alloc (.cells #[.string x.key,.string x.val,.int .i64 x.aW] 111)) qi (K+513+5*i) (HA.o.1.below jw) (by omega) x);have v0:=D1.ab (i:=0) rfl;have v1:=D1.ab (i:=1) rfl;have v2:=D1.ab (i:=2) rfl;have D1:=xh D1;have H4:=xh jw;have HX:=xh hx;have HZR:=xh hzr
    clear jw B0 BA SE fT hx hca2;obtain⟨RV,hRV⟩:∃RV,qi.fL x=RV:=⟨_,rfl⟩;rw[hRV]at KX;have Hs:l.drop i=x::l.drop (i+1):=by rw[<-List.getElem_cons_drop (h:=by rw[RA.o];exact uY)];congr 1;have:=HX.o;rw[aL (by rw[RA.o];exact uY)]at this;injection this
    have n8:=HV.o.1;rw[Hs]at n8;unfold pB at n8;rw[hRV]at n8;have Wb:=xh n8;have HRV:=xh hRV;clear n8 Hs hRV;unfold E.agg at *;go_wp2_with fail;refine KX.o.mono ?_;rintro e w5 ⟨rfl,p1,p2⟩;have lG:∀g∈F,g<w.heap.size:=λg hg=>oO.o g (ax _ hg);have hwz:w.heap.size<=zr:=by rw[<-HZR.o];exact HA.o.2.2.1.size
    have o45:ag F w w5:=(HA.o.2.2.1.trans (ag.aj H4.o)).trans p2;have D5:=D1.o.only p2 (λhm=>by have:=lG _ hm;omega);have v0:=D5.ab (i:=0) rfl;obtain⟨q5,b5,e5⟩:=RV;dsimp only at *
    by_cases MQ:e5=0
    .subst MQ;have h9:=Wb.o;rw[if_neg (by simp)]at h9;have hov:∀g∈ai (.slice VA i vc),w.heap.size<=g:=λg hg=>(HA.o.2.2.2 g hg).1;have S5:=(S1.below H4.o).only p2 (λg hg hm=>by have:=hov g hg;have:=lG g hm;omega);have E5:=(HA.o.2.1.below H4.o).only p2 (λg hg hm=>H3.o.2.2.2.1 g (ax _ hm) hg);obtain⟨v',w7,ea,S7,ow,fa⟩:=wU S5 x.key b5 (by omega)
     have T7:TQ w7 tb I F q5 n (K+513+5*(i+1)):=(((HA.o.1.below H4.o).next p2 p1).only ow (λg hg hm=>by have:=hov g hm;have:=oO.o g hg;omega)).le (by omega);have E7:=E5.only ow (λg hg hm=>(HA.o.2.2.2 g hm).2 hg);have hwr5:wr.heap.size<=w5.heap.size:=ar H4.o.size p2.size;have hel:∀g∈ai (.slice (some ⟨ga,0,none⟩) k c),g<wr.heap.size:=HA.o.2.1.lt
     have H7:=xh (show TQ w7 tb I F q5 n (K+513+5*(i+1))/\aT w7 111 3 (.slice (some ⟨ga,0,none⟩) k c) k (aH l)/\ag F w w7/\(∀g∈ai v',w.heap.size<=g/\g∉ai (.slice (some ⟨ga,0,none⟩) k c))from
      ⟨T7,E7,o45.aO ow (λg hg dH=>by have:=hov g hg;omega),λg hg=>(fa g hg).elim (HA.o.2.2.2 g) (λh=>⟨by have:=o45.size;omega,λhm=>by have:=hel g hm;omega⟩)⟩)
     obtain⟨V7,c7,rfl⟩:=au S7;have hpr:ku out++[Value.string x.key,Value.string b5]=ku (out++[(x.key,b5)]):=by rw[ng];rfl
     rw[hpr]at S7;have H9:=xh (And.intro S7 (And.intro h9 (show(out++[(x.key,b5)]).length=i+1 by rw[aU,HV.o.2];rfl)));have EA:=xh ea;clear ea S7 ow fa T7 E7 hwr5 hel h9 hpr S5 E5 hov p1 o45 p2 D5 lG hwz;go_wp2_with fail;rw[EA.o];go_wp2_with fail;go_roundw
     case rel=>exact⟨i+1,q5,out++[(x.key,b5)],by omega,by first|rfl|simp,H9.o.1,xh H9.o.2,H7⟩
     case measure=>simp[intOf];omega
    .have h9:=Wb.o;rw[if_pos MQ]at h9;have hq:(e5 != 0)=true:=by rw[bne_iff_ne];exact MQ
     have kt:(e5==0)=false:=by rw[beq_eq_false_iff_ne];exact MQ
     have H9:=xh (And.intro h9 (And.intro p1 o45));clear h9 p1 o45 p2 D5 lG hwz;go_wp2_with fail;go_ret2;obtain⟨h9,h10,IB⟩:=H9.o;subst h9;exact⟨.slice none 0 0,by first|rfl|simp,aT.nil _ _ _,h10.le (by omega),IB,by simp[ai]⟩
   .have hikI:¬(i:Int)<(k:Int):=by omega
    have GK:l.drop i=[]:=lJ (by rw[RA.o];omega);have h9:=HV.o.1;rw[GK]at h9;have HV9:=xh h9;have HO:=xh HV.o.2;have S1:=xh S1;clear h9 GK;go_wp2_with fail;go_ret2;have h9:=HV9.o;subst h9;exact⟨_,by first|rfl|simp[pB],by show aT _ _ 2 _ out.length _;rw[HO.o];exact S1.o,HA.o.1.2.le (by omega),HA.o.2.2.1,λg hg=>by have:=(HA.o.2.2.2 g hg).1;first|exact this|(have:=HZ.o;omega)⟩
 .have qa:(R.q,([]:List PR),er)=RR:=by have:=eY.o;rw[if_pos he]at this;exact this
  have hq:(er != 0)=true:=by rw[bne_iff_ne];exact he
  have kt:(er==0)=false:=by rw[beq_eq_false_iff_ne];exact he
  have H3:=xh (And.intro a1 o3);have eY:=xh qa;clear a1 a3 a4 a5 a6 b1 b2 b3 b4 o3 hG3 qa hl vz;go_wp2_with fail;go_ret2;have h9:=eY.o;subst h9;exact⟨.slice none 0 0,by first|rfl|simp,aT.nil _ _ _,H3.o.1.2.le (by omega),H3.o.2,by simp[ai]⟩
variable{w:World}{g tb n K:Nat}{a b:ByteArray}{I:Ix}{F:List Nat}
def prV(x:PR):Value:= .agg #[.string x.1,.string x.2]
theorem uS{fn:Func}{p u:Tmp}{tmps:Array Value}(h:fn.results= #[.cell p 42,.tmp u])(hp:tmps.getD p undef=.pointer (some ⟨g,0,none⟩))(B:aJ w g 42 #[.string a,.string b]):
  (results fn tmps).run prog w=.ok (.tuple #[prV (a,b),tmps.getD u undef]) w:=by
 have c0:=B.ab (i:=0) rfl;have c1:=B.ab (i:=1) rfl;rw[results_cell_tmp h,hp];clear h hp B;unfold prV;go_simp
theorem kh{a' b':ByteArray}(B:aJ w g 42 #[.string a,.string b]):
  aJ ((w.setCell ⟨g,0,none⟩ (.string a')).setCell ⟨g,1,none⟩ (.string b')) g 42 #[.string a',.string b']/\ag [g] w ((w.setCell ⟨g,0,none⟩ (.string a')).setCell ⟨g,1,none⟩ (.string b'))/\
   w.cell? ⟨g,0,none⟩=some (.string a)/\w.cell? ⟨g,1,none⟩=some (.string b)/\w.frozen? ⟨g,0,none⟩=false/\w.frozen? ⟨g,1,none⟩=false:=
 ⟨(B.bE 0 _).bE 1 _,((ag.refl _ _).setCell (by simp) _).setCell (by simp) _,B.ab rfl,B.ab rfl,B.frozen 0 (by simp),B.frozen 1 (by simp)⟩
def QS.lH(q:QS)(fr az:ByteArray):QS×PR×Int:=
 if(q.ev jF fr az none).e≠0 then((q.ev jF fr az none).q,(⟨#[]⟩,⟨#[]⟩),(q.ev jF fr az none).e)
 else match (q.ev jF fr az none).s with
  |none=>((q.ev jF fr az none).q,(⟨#[]⟩,⟨#[]⟩),9)
  |some x=>if((q.ev jF fr az none).q.fL x).2.2≠0 then(((q.ev jF fr az none).q.fL x).1,(⟨#[]⟩,⟨#[]⟩),((q.ev jF fr az none).q.fL x).2.2)
   else(((q.ev jF fr az none).q.fL x).1,(x.key,((q.ev jF fr az none).q.fL x).2.1),0)
theorem Ri{q:QS}(h:TQ w tb I F q n K)(hK:K<=999999000000)(fr az:ByteArray):
  Calls prog 21 #[tp tb,.string fr,.string az] w λe w'=>e=.returned (.tuple #[prV (q.lH fr az).2.1,.int .i64 (q.lH fr az).2.2])/\PQ w' I F (q.lH fr az).1 n (K+600)/\ag F w w':=by
 have hmf:∀(fn:Fn) (first cap:Array Value) (w:World),(Instr.makeFunc fn first cap).run prog w=.ok (.func fn first cap) w:=λ_ _ _ _=>rfl;obtain⟨z,hz⟩:∃z,w.heap.size=z:=⟨_,rfl⟩;have W0:=Below.refl w.heap.size w;obtain⟨w1,I6⟩:∃w1,w.alloc (.cells #[.string ⟨#[]⟩,.string ⟨#[]⟩] 42)=w1:=⟨_,rfl⟩;have s1:w1.heap.size=z+1:=by rw[<-I6,jD,hz]
 have Ja:aJ w1 z 42 #[.string ⟨#[]⟩,.string ⟨#[]⟩]:=by rw[<-I6,<-hz];exact aJ.new _ _ _
 have W1:=aB W0 (ae (Below.refl w.heap.size w) (.cells #[.string ⟨#[]⟩,.string ⟨#[]⟩] 42));rw[I6]at W1;obtain⟨w2,Ex⟩:∃w2,w1.alloc (.cells #[.string ⟨#[]⟩,.string ⟨#[]⟩,.int .i64 0] 111)=w2:=⟨_,rfl⟩;have s2:w2.heap.size=z+1+1:=by rw[<-Ex,jD,s1]
 have Jb:aJ w2 (z+1) 111 #[.string ⟨#[]⟩,.string ⟨#[]⟩,.int .i64 0]:=by rw[<-Ex,<-s1];exact aJ.new _ _ _
 have Be:=Ja.alloc (.cells #[.string ⟨#[]⟩,.string ⟨#[]⟩,.int .i64 0] 111);rw[Ex]at Be;have W2:=aB W1 (ae (Below.refl w1.heap.size w1) (.cells #[.string ⟨#[]⟩,.string ⟨#[]⟩,.int .i64 0] 111));rw[Ex]at W2;obtain⟨w3,Ke⟩:∃w3,w2.alloc (.cells #[.bool false] 4)=w3:=⟨_,rfl⟩;have s3:w3.heap.size=z+1+1+1:=by rw[<-Ke,jD,s2]
 have MM:aJ w3 (z+1+1) 4 #[.bool false]:=by rw[<-Ke,<-s2];exact aJ.new _ _ _
 have MN:=Be.alloc (.cells #[.bool false] 4);rw[Ke]at MN;have wR:=Jb.alloc (.cells #[.bool false] 4);rw[Ke]at wR;have W3:=aB W2 (ae (Below.refl w2.heap.size w2) (.cells #[.bool false] 4));rw[Ke]at W3;have y0:=wR.ab (i:=0) rfl;have y1:=wR.ab (i:=1) rfl;have y2:=wR.ab (i:=2) rfl;have y3:=MM.ab (i:=0) rfl;have f0:=wR.frozen 0 (by simp);have f1:=wR.frozen 1 (by simp);have f2:=wR.frozen 2 (by simp)
 have f3:=MM.frozen 0 (by simp);have hI:Bf (z+1) (z+1+1) w3 none [z+1,z+1+1]:=⟨rfl,wR,MM,by omega⟩;have dH:=h.lt;have KE:=wQ (Wa (z+1) (z+1+1)) (h.below W3) (by omega) fr az hI (λg hg hm=>by have:=dH g hg;simp at hm;omega) rfl;have KV:=xh (λ(W:World) (qj:QS) (kj:Nat) (hW:TQ W tb I F qj n kj) (hk:kj<=999999999900) (x:E)=>sR hW hk x);have C0:=xh MN;obtain⟨RR,bG⟩:∃RR,q.lH fr az=RR:=⟨_,rfl⟩;rw[bG];unfold QS.lH at bG
 obtain⟨R,hR⟩:∃R,q.ev jF fr az none=R:=⟨_,rfl⟩;rw[hR]at KE bG;have eY:=xh bG;clear bG;have KE:=xh KE;have HW3:=xh W3;have HZ:=xh hz;have oO:=xh dH;have HNE:=xh h.ne;clear Ja Jb Be MN wR MM W0 W1 W2 W3 s1 s2 s3 hI dH h hR;subst I6 Ex Ke;unfold lp at KE;unfold tp at *;go_enter func21,ntmps21;go_wp2_with fail;refine KE.o.mono ?_;rintro e w4 ⟨rfl,G,a1,a2,a3,a4,a5,a6⟩;obtain⟨rfl,b1,b2,b3⟩:=a2;obtain⟨s,hs⟩:∃s,R.s=s:=⟨_,rfl⟩
 obtain⟨er,vz⟩:∃er,R.e=er:=⟨_,rfl⟩;obtain⟨qr,hqr⟩:∃qr,R.q=qr:=⟨_,rfl⟩;rw[hs]at b1 b2;rw[hqr]at a1;have qa:=eY.o;rw[vz,hs,hqr]at qa;rw[vz];have lG:∀g∈F,g<z:=λg hg=>by have:=oO.o g (ax _ hg);have:=HZ.o;omega
 have o4:ag F w w4:=(ag.aj (S:=F) HW3.o).aO a3 (λg hg hl=>(aC.1 hg).elim id (λhg=>by have:=HZ.o;simp at hg;omega));have C4:=C0.o.only a3 (λhm=>(aC.1 hm).elim (λhm=>by have:=lG z hm;omega) (λhm=>by simp at hm<;>omega));have HZF:=xh lG;clear hs hqr a3 a4 a5 a6 lG y0 y1 y2 y3 f0 f1 f2 f3
 by_cases he:er=0
 .subst he;rw[if_neg (by simp)]at qa
  cases s with
  |none=>
   dsimp only at qa;have eY:=xh qa;clear qa;have x2:=b2.ab (i:=0) rfl;obtain⟨B2,o2,k0,k1,z0,z1⟩:=kh (a':=⟨#[]⟩) (b':=⟨#[]⟩) C4;have H2:=xh (And.intro B2 (And.intro o2 (And.intro a1 o4)));clear B2 o2 a1 o4 b1 b2 b3 C4 vz;go_wp2_with fail;have h9:=eY.o;subst h9
   exact bodyPost_ret (uS rfl rfl H2.o.1) rfl ⟨rfl,(H2.o.2.2.1.2.aW H2.o.2.1 (λhm=>by have:=HZF.o z hm;omega)).le (by omega),H2.o.2.2.2.aO H2.o.2.1 (λg hg hl=>by have:=HZ.o;simp at hg;omega)⟩
  |some x=>
   dsimp only at qa;have x2:=b2.ab (i:=0) rfl;have xa:=b1.ab (i:=0) rfl;have xb:=b1.ab (i:=1) rfl;have xc:=b1.ab (i:=2) rfl;have KX:=KV.o w4 qr (K+513) a1 (by omega) x;obtain⟨RV,hRV⟩:∃RV,qr.fL x=RV:=⟨_,rfl⟩;rw[hRV]at KX qa;have KX:=xh KX;have H4:=xh (And.intro o4 (And.intro b1 (And.intro b2 C4)));clear b1 b2 b3 C4 vz o4 hRV a1;unfold E.agg at *;unfold optE at *;go_wp2_with fail;refine KX.o.mono ?_;rintro e w5 ⟨rfl,p1,p2⟩
   have o5:=H4.o.1.trans p2;have hn1:z+1∉F:=λhm=>by have:=HZF.o _ hm;omega
   have hn0:z∉F:=λhm=>by have:=HZF.o _ hm;omega
   have D1:=H4.o.2.1.only p2 hn1;have C5:=H4.o.2.2.2.only p2 hn0;have xk:=D1.ab (i:=0) rfl;obtain⟨q5,b5,e5⟩:=RV;dsimp only at *
   by_cases MQ:e5=0
   .subst MQ;rw[if_neg (by simp)]at qa;have eY:=xh qa;clear qa;obtain⟨B2,o2,k0,k1,z0,z1⟩:=kh (a':=x.key) (b':=b5) C5;have H2:=xh (And.intro B2 (And.intro o2 (And.intro p1 o5)));clear B2 o2 p1 p2 o5 D1 C5;go_wp2_with fail;have h9:=eY.o;subst h9;exact bodyPost_ret (uS rfl rfl H2.o.1) rfl ⟨rfl,(H2.o.2.2.1.aW H2.o.2.1 hn0).le (by omega),H2.o.2.2.2.aO H2.o.2.1 (λg hg hl=>by have:=HZ.o;simp at hg;omega)⟩
   .rw[if_pos MQ]at qa;have eY:=xh qa;clear qa;have hq:(e5 != 0)=true:=by rw[bne_iff_ne];exact MQ
    have kt:(e5==0)=false:=by rw[beq_eq_false_iff_ne];exact MQ
    obtain⟨B2,o2,k0,k1,z0,z1⟩:=kh (a':=⟨#[]⟩) (b':=⟨#[]⟩) C5;have H2:=xh (And.intro B2 (And.intro o2 (And.intro p1 o5)));clear B2 o2 p1 p2 o5 D1 C5;go_wp2_with fail;have h9:=eY.o;subst h9;exact bodyPost_ret (uS rfl rfl H2.o.1) rfl ⟨rfl,(H2.o.2.2.1.aW H2.o.2.1 hn0).le (by omega),H2.o.2.2.2.aO H2.o.2.1 (λg hg hl=>by have:=HZ.o;simp at hg;omega)⟩
 .rw[if_pos he]at qa;have eY:=xh qa;clear qa;have hq:(er != 0)=true:=by rw[bne_iff_ne];exact he
  have kt:(er==0)=false:=by rw[beq_eq_false_iff_ne];exact he
  obtain⟨B2,o2,k0,k1,z0,z1⟩:=kh (a':=⟨#[]⟩) (b':=⟨#[]⟩) C4;have H2:=xh (And.intro B2 (And.intro o2 (And.intro a1 o4)));clear B2 o2 a1 o4 b1 b2 b3 C4 vz;go_wp2_with fail;have h9:=eY.o;subst h9;exact bodyPost_ret (uS rfl rfl H2.o.1) rfl ⟨rfl,(H2.o.2.2.1.2.aW H2.o.2.1 (λhm=>by have:=HZF.o z hm;omega)).le (by omega),H2.o.2.2.2.aO H2.o.2.1 (λg hg hl=>by have:=HZ.o;simp at hg;omega)⟩
def nh:List ByteArray->QS->QS×Int
 |[],q=>(q,0)
 |k::l,q=>if(q.jj k).2≠0 then((q.jj k).1,(q.jj k).2)else nh l (q.jj k).1
def QS.ia(q:QS)(fr az:ByteArray):QS×Int×Int:=
 if(q.ev fV fr az []).e≠0 then((q.ev fV fr az []).q,0,(q.ev fV fr az []).e)
 else if(nh (q.ev fV fr az []).s (q.ev fV fr az []).q).2≠0 then((nh (q.ev fV fr az []).s (q.ev fV fr az []).q).1,0,(nh (q.ev fV fr az []).s (q.ev fV fr az []).q).2)
 else((nh (q.ev fV fr az []).s (q.ev fV fr az []).q).1,((q.ev fV fr az []).s.length:Nat),0)
theorem MU{q:QS}(h:TQ w tb I F q n K)(hK:K<=999900000000)(fr az:ByteArray):
  Calls prog 22 #[tp tb,.string fr,.string az] w λe w'=>e=.returned (.tuple #[.int .i64 (q.ia fr az).2.1,.int .i64 (q.ia fr az).2.2])/\PT w w' I F (q.ia fr az).1 n (K+30000000):=by
 have hmf:∀(fn:Fn) (first cap:Array Value) (w:World),(Instr.makeFunc fn first cap).run prog w=.ok (.func fn first cap) w:=λ_ _ _ _=>rfl;obtain⟨z,hz⟩:∃z,w.heap.size=z:=⟨_,rfl⟩;have bf:=ae (Below.refl w.heap.size w) (.cells #[.slice none 0 0] 123);have c0:=aJ.new w 123 #[.slice none 0 0];rw[hz]at c0;have hI:qD z (w.alloc (.cells #[.slice none 0 0] 123)) [] [z]:=⟨none,0,rfl,c0,aT.nil _ _ _⟩;have dH:=h.lt
 have KE:=wQ (Rh z) (h.below bf) (by omega) fr az hI (λg hg hm=>by have:=dH g hg;simp at hm;omega) rfl;have KD:=xh (λ(W:World) (Fj:List Nat) (qj:QS) (kj:Nat) (hW:TQ W tb I Fj qj n kj) (hk:kj<=999999970000) (key:ByteArray)=>AH hW hk key);obtain⟨RR,bG⟩:∃RR,q.ia fr az=RR:=⟨_,rfl⟩;rw[bG];unfold QS.ia at bG;obtain⟨R,hR⟩:∃R,q.ev fV fr az []=R:=⟨_,rfl⟩;rw[hR]at KE bG;have eY:=xh bG;have KE:=xh KE;have GR:=xh bf
 have HZ:=xh hz;have oO:=xh dH;have HNE:=xh h.ne;clear bG bf hI dH h hR c0;unfold lp at KE;unfold tp at *;go_enter func22,ntmps22;go_wp2_with fail;refine KE.o.mono ?_;rintro e w3 ⟨rfl,G,a1,a2,a3,a4,a5,a6⟩;obtain⟨A,c,hG,b1,b3⟩:=a2;obtain⟨l,hl⟩:∃l,R.s=l:=⟨_,rfl⟩;obtain⟨er,vz⟩:∃er,R.e=er:=⟨_,rfl⟩;obtain⟨qr,hqr⟩:∃qr,R.q=qr:=⟨_,rfl⟩;obtain⟨k,hk⟩:∃k,l.length=k:=⟨_,rfl⟩;rw[hl]at b1 b3 hG a5;rw[hk]at b1 b3 hG a5;rw[hqr]at a1;have qa:=eY.o
 rw[hl,vz,hqr]at qa;rw[vz];have o3:ag F w w3:=(ag.aj (S:=F) GR.o).aO a3 (λg hg hl=>(aC.1 hg).elim id (λhg=>by have:=HZ.o;simp at hg;omega));have hG3:∀g∈G,w.heap.size<=g:=λg hg=>(a4 g hg).elim (λh=>by have:=HZ.o;simp at h;omega) (λh=>ar GR.o.size h)
 by_cases he:er=0
 .subst he;rw[if_neg (by simp)]at qa;have eY:=xh qa;have H3:=xh (show TQ w3 tb I F qr n (K+513)/\aT w3 9 1 (.slice A k c) k (FU l)/\ag F w w3/\(∀g∈tb::F,g∉z::ai (.slice A k c))/\aJ w3 z 123 #[.slice A k c]/\k<=57*513 from
   ⟨a1,b3,o3,λg hg hm=>a6 g hg (by rw[hG];exact hm),b1,a5⟩)
  have x1:=b1.ab (i:=0) rfl;have hlen:=H3.o.2.2.2.2.2;have RA:=xh hk;have rS:w.heap.size<=w3.heap.size:=o3.size;have hob:OB w.heap.size w w3 F F:=⟨F,o3,λg hg=> .inl hg,λg hg=> .inl hg⟩;have HOB:=xh hob;obtain⟨DD,hDD⟩:∃DD,nh l qr=DD:=⟨_,rfl⟩;rw[hDD]at qa;have eY:=xh qa;have HDD:=xh hDD;clear qa hDD hk a1 a3 a4 a5 a6 b1 b3 o3 hG3 hl vz hqr hob;go_wp2_with fail
  go_loopw [26] (λiv wr=> ∃(i:Nat) (qi:QS) (Fi:List Nat),i<=k/\iv=.int .i64 (i:Nat)/\Hid (nh (l.drop i) qi=DD)/\Hid (TQ wr tb I Fi qi n (K+513+700*i)/\aT wr 9 1 (.slice A k c) k (FU l)/\aJ wr z 123 #[.slice A k c]/\(∀g∈tb::Fi,g∉z::ai (.slice A k c))/\OB w.heap.size w wr F Fi)) (λiv _=>k-(intOf iv).toNat)
  case atStart=>exact⟨0,qr,F,by omega,rfl,HDD,xh ⟨H3.o.1,H3.o.2.1,H3.o.2.2.2.2.1,H3.o.2.2.2.1,HOB.o⟩⟩
  case round=>
   obtain⟨i,qi,Fi,hi,rfl,HV,HA⟩:=hrel
   by_cases uY:i<k
   .have hikI:(i:Int)<(k:Int):=by omega
    obtain⟨x,hx⟩:∃x,l[i]?=some x:=⟨_,aL (by rw[RA.o];exact uY)⟩;obtain⟨ga,ca,xI,Bv,BA,hca1,hca2⟩:=HA.o.2.1.form (by omega) (by omega);injection Bv with e1 e2 e3
    subst e1 e3;have xc:wr.cell? ⟨ga,i,none⟩=some (.string x):=BA.ab (by
     rw[dj,bF (by simp[FU];rw[RA.o];exact uY)];simp[FU,hx])
    have Hs:l.drop i=x::l.drop (i+1):=by rw[<-List.getElem_cons_drop (h:=by rw[RA.o];exact uY)];congr 1;have:=hx;rw[aL (by rw[RA.o];exact uY)]at this;injection this
    have n8:=HV.o;rw[Hs]at n8;unfold nh at n8;have KX:=KD.o wr Fi qi (K+513+700*i) HA.o.1 (by omega) x;obtain⟨RV,hRV⟩:∃RV,qi.jj x=RV:=⟨_,rfl⟩;rw[hRV]at KX n8;have KX:=xh KX;have Wb:=xh n8;clear hx n8 Hs hRV BA hca2;go_wp2_with fail;refine KX.o.mono ?_;rintro e w5 ⟨rfl,F5,p1,p2,p3⟩;have Pe:=p2.size;have hFd:∀g∈Fi,g∉z::ai (.slice (some ⟨ga,0,none⟩) k c):=λg hg=>HA.o.2.2.2.1 g (ax _ hg)
    have S5:=HA.o.2.1.only p2 (λg hg hm=>hFd g hm (ax _ hg));have C5:=HA.o.2.2.1.only p2 (λhm=>hFd z hm (by simp));have hel:∀g∈z::ai (.slice (some ⟨ga,0,none⟩) k c),g<wr.heap.size:=λg hg=>by
     rcases an.1 hg with rfl|hg
     .exact HA.o.2.2.1.lt
     .exact HA.o.2.1.lt g hg
    obtain⟨q5,e5⟩:=RV;dsimp only at *;have H5:=xh (show TQ w5 tb I F5 q5 n (K+513+700*(i+1))/\aT w5 9 1 (.slice (some ⟨ga,0,none⟩) k c) k (FU l)/\aJ w5 z 123 #[.slice (some ⟨ga,0,none⟩) k c]/\(∀g∈tb::F5,g∉z::ai (.slice (some ⟨ga,0,none⟩) k c))/\OB w.heap.size w w5 F F5 from
     ⟨⟨HA.o.1.1.only p2 HA.o.1.ne,p1.le (by omega)⟩,S5,C5,λg hg hm=>by
      rcases an.1 hg with rfl|hg
      .exact HA.o.2.2.2.1 _ (by simp) hm
      .rcases p3 g hg with h1|h1
       .exact hFd g h1 hm
       .have:=hel g hm;omega,HA.o.2.2.2.2.step (ak _) p2 p3⟩)
    clear p1 p2 p3 Pe hFd S5 C5 hel
    by_cases MQ:e5=0
    .subst MQ;have h9:=Wb.o;rw[if_neg (by simp)]at h9;have HV9:=xh h9;clear h9;go_wp2_with fail;go_roundw
     case rel=>exact⟨i+1,q5,F5,by omega,by first|rfl|simp,HV9,H5⟩
     case measure=>simp[intOf];omega
    .have h9:=Wb.o;rw[if_pos MQ]at h9;have h8:=eY.o;rw[<-h9,if_pos MQ]at h8;have hq:(e5 != 0)=true:=by rw[bne_iff_ne];exact MQ
     have kt:(e5==0)=false:=by rw[beq_eq_false_iff_ne];exact MQ
     have HV9:=xh h8;clear h9 h8;go_wp2_with fail;go_ret2;have h9:=HV9.o;subst h9;exact aE ((H5.o.2.2.2.2.pb (H5.o.1.2.le (by omega))).pt (by first|exact ak _|(have:=HZ.o;omega)))
   .have hikI:¬(i:Int)<(k:Int):=by omega
    have GK:l.drop i=[]:=lJ (by rw[RA.o];omega);have h9:=HV.o;rw[GK]at h9;have h8:=eY.o;rw[<-h9]at h8;have h8:(qi,((l.length:Nat):Int),(0:Int))=RR:=by unfold nh at h8;rw[if_neg (by simp)]at h8;exact h8
    have x1:=HA.o.2.2.1.ab (i:=0) rfl;have HV9:=xh h8;clear h9 GK h8;go_wp2_with fail;go_ret2;have h9:=HV9.o;subst h9;exact⟨by rw[RA.o];first|rfl|simp,(HA.o.2.2.2.2.pb (HA.o.1.2.le (by omega))).pt (by first|exact ak _|(have:=HZ.o;omega))⟩
 .rw[if_pos he]at qa;have hq:(er != 0)=true:=by rw[bne_iff_ne];exact he
  have kt:(er==0)=false:=by rw[beq_eq_false_iff_ne];exact he
  have H3:=xh (And.intro a1 o3);have eY:=xh qa;clear qa hk a1 a3 a4 a5 a6 b1 b3 o3 hG3 hl vz hqr;go_wp2_with fail;go_ret2;have h9:=eY.o;subst h9;exact aE ⟨F,H3.o.1.2.le (by omega),H3.o.2,λg hg=> .inl hg⟩
end Sh
namespace Sh
open Go.RowKit Pk Dk Pg
open Nd (E aX bj dN bP bl cF bU ao du)
variable{q:QS}{v:Vw}{u H:Nat}{M:List MT}
def rZ(fr az:ByteArray)(x:PR):Bool:=Bb fr az x.1
theorem DG(n:Int):∀(l s:List E),(fj (mN n) l s).1=s++l.take (n-(s.length:Nat)).toNat
 |[],s=>by simp[fj]
 |x::l,s=>by
  unfold fj mN
  by_cases h:(s.length:Int)<n
  .rw[if_pos h];obtain⟨k,hk⟩:∃k:Nat,(n-(s.length:Nat)).toNat=k+1:=⟨(n-(s.length:Nat)).toNat-1,by omega⟩;have hl:((s++[x]).length:Int)=s.length+1:=by simp
   rw[hk,ox]
   by_cases h2:((s++[x]).length:Int)<n
   .rw[decide_eq_true h2,if_pos rfl];dsimp only;have:=DG n l (s++[x]);unfold mN at this;rw[this,show(n-((s++[x]).length:Nat)).toNat=k by omega];simp
   .rw[decide_eq_false h2,if_neg (by simp)];have:k=0:=by omega
    subst this;simp
  .rw[if_neg h,decide_eq_false h,if_neg (by simp),show(n-(s.length:Nat)).toNat=0 by omega];simp
theorem DH:∀(l:List E) (s:Option E),(fj jF l s).1=match l.getLast? with|none=>s|some x=>some x
 |[],s=>rfl
 |[x],s=>by simp[fj,jF]
 |x::y::l,s=>by
  have h:fj jF (x::y::l) s=fj jF (y::l) (some x):=by simp[fj,jF]
  rw[h,DH (y::l) (some x),List.getLast?_cons_cons]
  cases h2:(y::l).getLast? with
  |none=>simp at h2
  |some z=>rfl
theorem Bg:∀(l:List E) (s:List ByteArray),(fj fV l s).1=s++l.map (λe=>e.key)
 |[],s=>by simp[fj]
 |x::l,s=>by
  have h:fj fV (x::l) s=fj fV l (s++[x.key]):=by simp[fj,fV]
  rw[h,Bg l (s++[x.key])];simp
def inM(fr az:ByteArray)(M:List MT):List MT:=M.filter λm=>Bb fr az m.1.key
theorem Wc(fr az:ByteArray)(M:List MT):tI fr az (M.map λm=>m.1)=(inM fr az M).map λm=>m.1:=by
 unfold tI inM;rw[List.filter_map];rfl
theorem Wd(fr az:ByteArray)(M:List MT):kz (inM fr az M)=(kz M).filter (rZ fr az):=by
 unfold kz inM;rw[List.filter_map];rfl
section
variable{o:Vw}{mm:Nat}
theorem DI:∀(Ms:List MT) (q:QS) (v:Vw) (u:Nat) (out:List PR),Rd q v o u mm->(∀m∈Ms,RF v m.1 m.2.1 m.2.2)->
  Rd (pB (Ms.map λm=>m.1) q out).1 v o u mm/\((pB (Ms.map λm=>m.1) q out).2=(out++kz Ms,0)\/((pB (Ms.map λm=>m.1) q out).2.2=11/\mm<=u))
 |[],q,v,u,out,R,_=>⟨R,.inl (by simp[pB])⟩
 |m::Ms,q,v,u,out,R,h=>by
  obtain⟨g1,g2⟩:=th R (h m (by simp));rw[fN];unfold pB
  rcases g2 with g2|⟨g2,g3⟩
  .rw[g2,if_neg (by simp)];obtain⟨a,b⟩:=DI Ms (q.fL m.1).1 v u (out++[(m.1.key,m.2.1)]) g1 (λx hx=>h x (by simp[hx]));refine⟨a,b.imp (λe=>?_) id⟩;rw[e,I0];simp
  .rw[if_pos (by rw[g2];simp)];exact⟨g1,.inr ⟨g2,g3⟩⟩
theorem Tree.le(R:Rd q v o u mm)(T:Tree v H M):(aM v H 0).length<=512:=by
 have:=VX R (eK.1 T.IV).1 T.AW;simpa [bC]using this
theorem DJ(R:Rd q v o u mm)(T:Tree v H M)(hH:H<=15)(fr az:ByteArray)(n:Int):
  Rd (q.iY fr az n).1 v o u mm/\(((q.iY fr az n).2.2=11/\mm<=u)\/(q.iY fr az n).2=(((kz M).filter (rZ fr az)).take n.toNat,0)):=by
 obtain⟨a,b⟩:=wP (mN n) fr az R T.ok hH (T.le R) [];unfold QS.iY
 rcases b with⟨b1,b2⟩|⟨b1,b2⟩
 .rw[if_pos (by rw[b1];simp)];exact⟨a,.inl ⟨b1,b2⟩⟩
 .rw[if_neg (by rw[b1];simp),b2,DG,<-T.en,Wc,cW,<-lR];obtain⟨c,d⟩:=DI ((inM fr az M).take (n-(([]:List E).length:Nat)).toNat) _ v u [] a (λm hm=>T.va m ((ir.1 (fZ hm)).1));refine⟨c,d.symm.imp id (λe=>?_)⟩;rw[e,cW,<-Wd];unfold kz;rw[lR,show(n-(([]:List E).length:Nat)).toNat=n.toNat by simp]
theorem Rj(R:Rd q v o u mm)(T:Tree v H M)(hH:H<=15)(fr az:ByteArray):
  Rd (q.lH fr az).1 v o u mm/\(((q.lH fr az).2.2=11/\mm<=u)\/(q.lH fr az).2=match ((kz M).filter (rZ fr az)).getLast? with|none=>((⟨#[]⟩,⟨#[]⟩),9)|some x=>(x,0)):=by
 obtain⟨a,b⟩:=wP jF fr az R T.ok hH (T.le R) none;unfold QS.lH
 rcases b with⟨b1,b2⟩|⟨b1,b2⟩
 .rw[if_pos (by rw[b1];simp)];exact⟨a,.inl ⟨b1,b2⟩⟩
 .rw[if_neg (by rw[b1];simp),b2,DH,<-T.en,Wc,<-Wd];unfold kz;rw[List.getLast?_map,List.getLast?_map]
  cases hl:(inM fr az M).getLast? with
  |none=>exact⟨a,.inr rfl⟩
  |some m=>
   have hm:m∈M:=(ir.1 (List.mem_of_getLast? hl)).1;dsimp only[Option.map];obtain⟨c,d⟩:=th a (T.va m hm)
   rcases d with d|⟨d,d2⟩
   .rw[d,if_neg (by simp)];exact⟨c,.inr rfl⟩
   .rw[if_pos (by rw[d];simp)];exact⟨c,.inl ⟨d,d2⟩⟩
theorem Tree.sorted :∀(h:Nat) (p:Int),mi v h p->(gF v h p).Pairwise λc e=>fR c.key e.key
 |0,p,ho=>by rw[FK];exact ph ho.1
 |h+1,p,ho=>by
  rw[FK];show(bZ (bw v h (iG v p).2.1)).Pairwise _;have d:=ho.2.2.2;have key:∀(l:List E),(∀e∈l,mi v h e.aW)->(l.Pairwise λc e=> ∀x∈gF v h c.aW,fR x.key e.key)->(∀e∈l.tail,∀x∈gF v h e.aW,nY e.key x.key)->(bZ (bw v h l)).Pairwise λc e=>fR c.key e.key:=by
   intro l
   induction l with
   |nil=>intro _ _ _;exact List.Pairwise.nil
   |cons e l ih=>
    intro h1 h2 h3;rw[ef]at h2;rw[fM,dV,dR];refine⟨Tree.sorted h e.aW (h1 e (by simp)),ih (λx hx=>h1 x (by simp[hx])) h2.2 (λx hx=>h3 x (tM hx)),λx hx y hy=>?_⟩;obtain⟨z,hz,hy⟩:=dG.1 hy;exact gr (h2.1 z hz x hx) (h3 z hz y hy)
  exact key _ (λe he=>(d.c e he).1) d.lo d.hi
theorem Tree.keys(T:Tree v H M):(kz M).Pairwise λa b=>fR a.1 b.1:=by
 have h:=Tree.sorted H 0 T.ok;rw[<-T.en,yj]at h;unfold kz;rw[yj];exact h
structure ClrP(v v':Vw)(H:Nat)(M:List MT)(H':Nat)(M':List MT)(P:PR->Bool):Prop where
 t:Tree v' H' M'
 m:kz M'=(kz M).filter P
 IW:∀wt,eC wt (aM v' H' 0)<=eC wt (aM v H 0)
 h:H'<=H
theorem DK:∀(ks:List ByteArray) (q:QS) (v:Vw) (u H:Nat) (M:List MT),Rd q v o u mm->Tree v H M->H<=15->ks.Nodup->(∀k∈ks,∃x∈kz M,x.1=k)->
  ((nh ks q).2=11/\mm<=u/\∃v',Rd (nh ks q).1 v' o u mm)\/
  ((nh ks q).2=0/\∃v' H' M',Rd (nh ks q).1 v' o u mm/\ClrP v v' H M H' M' λx=>ks.all λk=> !decide (x.1=k))
 |[],q,v,u,H,M,R,T,_,_,_=> .inr ⟨rfl,v,H,M,R,T,(vh.2 (λ_ _=>rfl)).symm,λ_=>ak _,ak _⟩
 |k::ks,q,v,u,H,M,R,T,hH,hn,hk=>by
  rw[gf]at hn;unfold nh
  rcases I4 R T hH k with⟨d1,d2,v',d3⟩|⟨d1,d2,A,B,d3⟩|⟨d1,v1,H1,M1,A,B,y,d2,d3⟩
  .rw[if_pos (by rw[d1];simp)];exact .inl ⟨d1,d2,v',d3⟩
  .exfalso;obtain⟨x,hx,rfl⟩:=hk k (by simp);rw[d3.e,cW]at hx
   rcases aC.1 hx with hx|hx
   .exact iH (d3.a x hx)
   .exact iH (d3.b x hx)
  .rw[if_neg (by rw[d1];simp)];have hA:∀x∈A,x.1≠k:=λx hx e=>iH (by have:=d3.d.a x hx;rwa [e]at this);have hB:∀x∈B,x.1≠k:=λx hx e=>iH (by have:=d3.d.b x hx;rwa [e]at this);have hf:kz M1=(kz M).filter λx=> !decide (x.1=k):=by
    rw[d3.m,d3.d.e,sq,sq];have e1:A.filter (λx=> !decide (x.1=k))=A:=vh.2 λx hx=>by rw[decide_eq_false (hA x hx)];rfl
    have e2:B.filter (λx=> !decide (x.1=k))=B:=vh.2 λx hx=>by rw[decide_eq_false (hB x hx)];rfl
    rw[e1,e2];simp
   rcases DK ks (q.jj k).1 v1 u H1 M1 d2 d3.t (by have:=d3.h;omega) hn.2 (λk' hk'=>by
    obtain⟨x,hx,e⟩:=hk k' (by simp[hk']);refine⟨x,?_,e⟩;rw[hf,ir];exact⟨hx,by rw[decide_eq_false (λe2=>hn.1 (by rw[<-e2,e];exact hk'))];rfl⟩)with i|⟨i1,v',H',M',i2,CC⟩
   .exact .inl i
   .refine .inr ⟨i1,v',H',M',i2,CC.t,?_,λwt=>ar (CC.IW wt) (d3.IW wt),ar CC.h d3.h⟩;rw[CC.m,hf,D4]
    congr 1
    funext x
    rw[List.all_cons,Bool.and_comm]
theorem MV(R:Rd q v o u mm)(T:Tree v H M)(hH:H<=15)(fr az:ByteArray):
  ((q.ia fr az).2.2=11/\mm<=u/\∃v',Rd (q.ia fr az).1 v' o u mm)\/
  ((q.ia fr az).2=(((((kz M).filter (rZ fr az)).length:Nat):Int),0)/\∃v' H' M',Rd (q.ia fr az).1 v' o u mm/\ClrP v v' H M H' M' λx=> !rZ fr az x):=by
 obtain⟨a,b⟩:=wP fV fr az R T.ok hH (T.le R) [];unfold QS.ia
 rcases b with⟨b1,b2⟩|⟨b1,b2⟩
 .rw[if_pos (by rw[b1];simp)];exact .inl ⟨b1,b2,v,a⟩
 .rw[if_neg (by rw[b1];simp),b2,Bg,<-T.en,Wc,cW,j6];have xK:(inM fr az M).map ((λe:E=>e.key) ∘ λm=>m.1)=((kz M).filter (rZ fr az)).map Prod.fst:=by
   rw[<-Wd];unfold kz;rw[j6];rfl
  rw[xK];have lW:((kz M).filter (rZ fr az)).Pairwise λa b=>fR a.1 b.1:=T.keys.sublist D7;have xX:(((kz M).filter (rZ fr az)).map Prod.fst).Nodup:=by
   rw[Ni,yj];exact lW.imp (λ{a b} h (e:a.1=b.1)=>iH (a:=b.1) (by rw[e]at h;exact h))
  rcases DK _ _ v u H M a T hH xX (λk hk=>by
   obtain⟨x,hx,rfl⟩:=dC.1 hk;exact⟨x,(ir.1 hx).1,rfl⟩)with⟨i1,i2,i3⟩|⟨i1,v',H',M',i2,CC⟩
  .rw[if_pos (by rw[i1];simp)];exact .inl ⟨i1,i2,i3⟩
  .rw[if_neg (by rw[i1];simp)];refine .inr ⟨by rw[fo],v',H',M',i2,CC.t,?_,CC.IW,CC.h⟩;rw[CC.m];apply List.filter_congr;intro x hx;have hi:(rZ fr az x=true)↔x.1∈((kz M).filter (rZ fr az)).map Prod.fst:=by
    refine⟨λh=>dC.2 ⟨x,ir.2 ⟨hx,h⟩,rfl⟩,λhm=>?_⟩;obtain⟨y,hy,e⟩:=dC.1 hm;have:=(ir.1 hy).2;unfold rZ at this ⊢;rw[<-e];exact this
   by_cases hb:rZ fr az x=true
   .rw[hb];have hm:=hi.1 hb;show _=false;rw[<-RN,r5];intro h;have:=h _ hm;rw[decide_eq_true rfl]at this;exact absurd this (by simp)
   .have cA:rZ fr az x=false:=by simpa using hb
    rw[cA];show _=true;rw[r5];intro k hk;rw[decide_eq_false (λe=>hb (hi.2 (by rw[e];exact hk)))];rfl
end
theorem rA(q:QS):∀i,(q.bn i).1.ja=q.ja
 |0=>rfl
 |i+1=>by
  rw[uv]
  split
  .exact rA q i
  .rw[qy];exact rA q i
theorem DL(q:QS):∀i,(q.bn i).2=11->∃q':QS,q'.ja=q.ja/\q'.a.free=0
 |0,h=>absurd h (by show ¬(0:Int)=11;decide)
 |i+1,h=>by
  rw[uv]at h
  split at h
  .exact DL q i h
  .exact⟨(q.bn i).1,rA q i,IE h⟩
theorem DM{a b:Nat}(h:a<=b):cM a<=cM b:=by unfold cM;omega
section
variable{q:QS}{v o:Vw}{u m:Nat}
theorem Rd.ko(h:Rd q v o u m)(hK:∃n K,Wp q n K/\K<=999999999000):
  (q.aK.2=0/\Rd q.aK.1 v v (u+u+cM u) m)\/(q.aK.2=11/\Rd q.aK.1 v o u m/\m<u+cM u+1):=by
 obtain⟨n,K,w,hk⟩:=hK;obtain⟨c1,c2,c3⟩:=w.ko hk;have hb:=rA q q.l.length;obtain⟨e1,e2,e3⟩:=uN hb;have pF:q.aK.1.a.many=q.a.many/\((q.aK.2=0->q.aK.1.a.now.length+q.aK.1.a.kept<=u+u+cM u)/\(q.aK.2=11->q.aK.1.ja=q.ja/\m<u+cM u+1)):=by
  have hu:=h.u;have hm:=h.m;unfold QS.aK;rw[if_neg (by rw[zI w.N];omega)]
  by_cases NN:(q.bn q.l.length).2=0
  .rw[if_neg (by rw[NN];simp)];unfold St.aK
   by_cases hf:(q.bn q.l.length).1.a.free<cM (q.bn q.l.length).1.a.eg.length
   .rw[if_pos hf];refine⟨e2,λh0=>absurd h0 (by show ¬(11:Int)=0;decide),λ_=>⟨hb,?_⟩⟩;have h1:=zu (q.bn q.l.length).1.a;have h2:=DM (a:=(q.bn q.l.length).1.a.eg.length) (b:=u) (by omega);have h3:(q.bn q.l.length).1.a.fresh<=(q.bn q.l.length).1.a.now.length:=vd;unfold St.free at hf;omega
   .rw[if_neg hf];refine⟨e2,λ_=>?_,λh0=>absurd h0 (by show ¬(0:Int)=11;decide)⟩;have h1:=zu (q.bn q.l.length).1.a;have h2:=DM (a:=(q.bn q.l.length).1.a.eg.length) (b:=u) (by omega);show(iT (q.bn q.l.length).1.a.eg).length+((q.bn q.l.length).1.a.eg.countP Option.isSome+cM (q.bn q.l.length).1.a.eg.length)<=_;have h3:(q.bn q.l.length).1.a.eg.countP Option.isSome<=(q.bn q.l.length).1.a.eg.length:=vd
    rw[G5];omega
  .rw[if_pos (by exact NN)];refine⟨e2,λh0=>absurd h0 NN,λIB=>⟨hb,?_⟩⟩;obtain⟨q',f1,f2⟩:=DL q _ IB;obtain⟨g1,g2,g3⟩:=uN f1;have:=II (a:=q'.a) (u:=u) (by omega)
   rcases eR u q'.a.many with h9|h9
   .exact absurd f2 (this h9)
   .omega
 obtain⟨s1,s2,s3⟩:=pF
 rcases c3 with⟨c3,c4⟩|⟨c3,c4⟩
 .exact .inl ⟨c3,⟨⟨n,_,c1⟩,λj=>(c2 j).trans (h.v j),λj=>(c4 j).trans (h.v j),s2 c3,by rw[s1];exact h.m⟩⟩
 .obtain⟨s4,s5⟩:=s3 c3;obtain⟨g1,g2,g3⟩:=uN s4;exact .inr ⟨c3,⟨⟨n,_,c1⟩,λj=>(c2 j).trans (h.v j),λj=>(c4 j).trans (h.o j),by rw[g1];exact h.u,by rw[s1];exact h.m⟩,s5⟩
theorem Rd.abort(h:Rd q v o u m):∃u',Rd q.cq o o u' m:=by
 obtain⟨n,K,w⟩:=h.w;obtain⟨a1,a2,a3⟩:=w.abort;exact⟨_,⟨n,K,a1⟩,λj=>(a2 j).trans (h.o j),λj=>(a3 j).trans (h.o j),ak _,h.m⟩
theorem MW(q:QS)(hl:1<=q.l.length)(p:Int):(q.cq.bh p).2.2≠11:=by
 have hn:∀f∈q.cq.l,f=Fr.nil:=λf hf=>om hf;have hlen:q.cq.l.length=q.l.length:=ez;have hf0:findF q.cq.l p= -1:=by
  rcases gM q.cq.l p with e|⟨k,f,e,hk,he,hp⟩
  .exact e
  .rw[hn f (ay hk)]at he;exact absurd he (by show ¬(-1:Int)=p;omega)
 intro h;unfold QS.bh at h;rw[if_neg (by rw[hf0];omega)]at h
 split at h
 .rename_i h1;have h:(q.cq.a.aP p).2=11:=h;unfold St.aP at h
  split at h
  .exact absurd h (by simp)
  .exact absurd h (by simp)
 .split at h
  .exact absurd h (by simp)
  .split at h
   .have h:(q.cq.aN.1.bT q.cq.aN.2.toNat).2=11:=h;have h0:q.cq.l[0]?=some Fr.nil:=by
     rw[aL (by omega)];exact congrArg some (hn _ (jJ _))
    have hix:Gj (λf=>decide (f.aq<0)) q.cq.l=((0:Nat):Int):=uf h0 (by decide) (λj a hj _=>absurd hj (by omega));have hv:q.cq.aN=(q.cq,((0:Nat):Int)):=by
     unfold QS.aN;rw[hix,if_pos (by omega)]
    rw[hv]at h;have hb:q.cq.bT 0=(q.cq,0):=by
     unfold QS.bT;rw[nt h0,if_neg (by decide)]
    have h:(q.cq.bT 0).2=11:=h;rw[hb]at h;exact absurd h (by simp)
   .exact absurd h (by simp)
theorem MX(h:Rd q v o u m)(p:Int):(q.cq.bJ p).2=iG o p:=by
 obtain⟨u',R⟩:=h.abort;obtain⟨n,K,w⟩:=h.w;obtain⟨a,b⟩:=R.get p;have ff:(q.cq.dK p).2.2≠11:=λe=>by
  unfold QS.dK at e
  split at e
  .exact MW q w.H.l1 p e
  .exact absurd e (by simp)
 unfold QS.bJ iG
 rcases b with⟨b1,b2⟩|⟨b1,b2⟩|⟨b1,b2⟩
 .rw[b2,if_neg (by simp),if_neg (by omega)]
 .rw[b2,b1,if_pos (by simp),if_pos (by simp)]
 .exact absurd (by rw[b1]) ff
theorem We(w:∃n K,Wp q n K){j:Int}(h0:(q.vw j).2=0):q.a.lr.length≠0:=by
 obtain⟨n,K,w⟩:=w;have h1:(q.a.aP j).2=0:=by
  rcases gQ q j with ho|⟨k,f,hk,rfl,hp⟩
  .rw[eE ho]at h0;exact h0
  .exact w.V.ex f (ay hk) hp
 have h2:=uw.1 h1;obtain⟨h3,h4⟩:=nN h2;unfold St.at at h2;rw[if_pos h3]at h2;unfold St.lr;rw[xj _ _ (ak _),fw];intro hz;rw[JC]at hz
 cases hx:q.a.now[j.toNat]? with
 |none=>rw[hx]at h2;cases h2
 |some x=>
  rw[hx]at h2;exact hz x (ay hx) h2
theorem MY{H:Nat}{M:List MT}(R:Rd q v o u m)(T:Tree o H M):∃u',Rd q.cq.kG.1 o o u' m/\q.cq.kG.2=0:=by
 obtain⟨u',R'⟩:=R.abort;have h0:(o 0).2=0:=T.AW 0 (by rw[pf];simp);have hp:=We R'.w (j:=0) (by rw[R'.v];exact h0);unfold QS.kG QS.xN;rw[if_neg hp,if_neg (by simp)];refine⟨u',(R'.read 0).1,?_⟩;show(q.cq.bJ 0).2.2.2=0;rw[MX R,(FL T.ok).1]
end
variable{q:QS}{v:Vw}{u H:Nat}{M:List MT}
def FV(l:List PR)(key:ByteArray):List PR:=l.filter λx=>decide (fR x.1 key)
def DN(l:List PR)(key:ByteArray):List PR:=l.filter λx=>decide (x.1=key)
def qE(l:List PR)(key:ByteArray):List PR:=l.filter λx=>decide (fR key x.1)
theorem filter_all{α:Type}{p:α->Bool}{l:List α}(h:∀x∈l,p x=true):l.filter p=l:=vh.2 h
theorem filter_none{α:Type}{p:α->Bool}{l:List α}(h:∀x∈l,p x=false):l.filter p=[]:=JI.2 λx hx=>by rw[h x hx];simp
theorem tr{a b:ByteArray}(h:fR a b):a≠b:=λe=>iH (by rwa [e]at h)
theorem MJ.parts{l:List PR}{key:ByteArray}{A C B:List PR}(d:MJ l key A C B):A=FV l key/\C=DN l key/\B=qE l key:=by
 have hC:∀x∈C,x.1=key:=λx hx=>by
  rcases d.c with h|⟨y,h⟩
  .rw[h]at hx;simp at hx
  .rw[h]at hx;rw[aQ.1 hx]
 unfold FV DN qE;rw[d.e];simp only[sq];refine⟨?_,?_,?_⟩
 .rw[filter_all (l:=A) (λx hx=>decide_eq_true (d.a x hx)),filter_none (l:=C) (λx hx=>decide_eq_false (λh=>tr h (hC x hx))),filter_none (l:=B) (λx hx=>decide_eq_false (λh=>iH (ij h (d.b x hx))))];simp
 .rw[filter_none (l:=A) (λx hx=>decide_eq_false (tr (d.a x hx))),filter_all (l:=C) (λx hx=>decide_eq_true (hC x hx)),filter_none (l:=B) (λx hx=>decide_eq_false (λh=>tr (d.b x hx) h.symm))];simp
 .rw[filter_none (l:=A) (λx hx=>decide_eq_false (λh=>iH (ij h (d.a x hx)))),filter_none (l:=C) (λx hx=>decide_eq_false (λh=>tr h (hC x hx).symm)),filter_all (l:=B) (λx hx=>decide_eq_true (d.b x hx))];simp
def Jc(l:List PR)(key value:ByteArray):List PR:=FV l key++(key,value)::qE l key
def Ow(l:List PR)(key:ByteArray):List PR:=FV l key++qE l key
theorem wt1:MD (λ_=>1) 34:=λ_=>by show 39*1+34<=73*1;omega
section
variable{o:Vw}{mm:Nat}
theorem DO(R:Rd q v o u mm)(T:Tree v H M)(hH:H<=15)(key value:ByteArray)(hk:key.size<=32)(hv:value.size<=1024):
  ((q.iQ key value).2=11/\∃v' u',Rd (q.iQ key value).1 v' o u' mm/\u'<=u+H+8/\(mm<=u'\/512<=u'))\/
  ((q.iQ key value).2=0/\∃v' H' M' new A C B h c,Rd (q.iQ key value).1 v' o (u+new) mm/\SetP v v' H M key value H' M' new A C B h c/\kz M'=Jc (kz M) key value):=by
 refine(VS R T hH key value hk hv).imp id ?_;rintro⟨h1,v',H',M',new,A,C,B,h,c,h2,h3⟩;obtain⟨d1,d2,d3⟩:=h3.d.parts;exact⟨h1,v',H',M',new,A,C,B,h,c,h2,h3,by rw[h3.m,d1,d3];rfl⟩
theorem DP(R:Rd q v o u mm)(T:Tree v 0 M)(key value:ByteArray)(hk:key.size<=32)(hv:value.size<=40)(hu:u+8<mm)(hu2:u+8<512){P:Nat}(hP:eC (λ_=>1) (aM v 0 0)<=P)(hP2:P+key.size+value.size+7<34):
  (q.iQ key value).2=0/\∃v' M',Rd (q.iQ key value).1 v' o u mm/\Tree v' 0 M'/\kz M'=Jc (kz M) key value/\eC (λ_=>1) (aM v' 0 0)<=P+key.size+value.size+7:=by
 rcases DO R T (by omega) key value hk (by omega)with⟨a,v',u',b,c,d⟩|⟨a,v',H',M',new,A,C,B,h,c,b,S,hm⟩
 .omega
 .have p:=S.IW (λ_=>1) 34 wt1;rw[if_pos hv]at p;have hh:H'=0:=by
   rcases S.h with e|⟨e,f⟩
   .exact e
   .have:=f (λ_=>1) 34 wt1;rw[if_pos hv]at this;omega
  subst hh;rw[if_pos rfl]at p;have hn:=S.n;have hc:=S.c.2 hv;have h0:h=0:=by omega
  have hn0:new=0:=by omega
  rw[hn0]at b;exact⟨a,v',M',b,S.t,hm,by omega⟩
theorem Bh(R:Rd q v o u mm)(T:Tree v H M)(hH:H<=15)(key:ByteArray):
  Rd (q.nz key).1 v o u mm/\(((q.nz key).2.2=11/\mm<=u)\/(q.nz key).2=I1 (DN (kz M) key)):=by
 obtain⟨a,b⟩:=VQ R T hH key;refine⟨a,b.imp id ?_⟩;rintro⟨A,C,B,d,e⟩;rw[e,d.parts.2.1]
theorem DQ(R:Rd q v o u mm)(T:Tree v H M)(hH:H<=15)(key:ByteArray):
  ((q.jj key).2=11/\mm<=u/\∃v',Rd (q.jj key).1 v' o u mm)\/
  ((q.jj key).2=9/\Rd (q.jj key).1 v o u mm/\DN (kz M) key=[])\/
  ((q.jj key).2=0/\DN (kz M) key≠[]/\∃v' H' M',Rd (q.jj key).1 v' o u mm/\Tree v' H' M'/\kz M'=Ow (kz M) key/\(∀wt,eC wt (aM v' H' 0)<=eC wt (aM v H 0))/\H'<=H):=by
 refine(I4 R T hH key).imp id (Or.imp ?_ ?_)
 .rintro⟨a,b,A,B,d⟩;exact⟨a,b,d.parts.2.1.symm⟩
 .rintro⟨a,v',H',M',A,B,y,b,d⟩;obtain⟨d1,d2,d3⟩:=d.d.parts;exact⟨a,by rw[<-d2];simp,v',H',M',b,d.t,by rw[d.m,d1,d3];rfl,d.IW,d.h⟩
end
attribute [local go_sem ↓] Go.wp_at_zero Go.wp_at_succ bz
variable{w:World}{mb:Nat}{v:Value}{l:List PR}
structure Mp(w:World)(mb:Nat)(v:Value)(l:List PR):Prop where
 b:aJ w mb 45 #[v]
 s:aT w 42 2 v l.length (ku l)
 n:l.length<=1000000
theorem Mp.below{w':World}(h:Mp w mb v l)(hb:Below w.heap.size w w'):Mp w' mb v l:=⟨h.b.below hb h.b.lt,h.s.below hb,h.n⟩
def pC:List PR->ByteArray->Nat
 |[],_=>0
 |x::l,k=>if fR x.1 k then pC l k+1 else 0
theorem MZ(k:ByteArray):∀l:List PR,pC l k<=l.length
 |[]=>ak _
 |x::l=>by unfold pC;split;(have:=MZ k l;simp;omega);exact aY _
theorem Wf(k:ByteArray):∀(l:List PR) (i:Nat),i<pC l k->∃x,l[i]?=some x/\fR x.1 k
 |[],i=>λh=>absurd h (by unfold pC;omega)
 |x::l,i=>λh=>by
  unfold pC at h
  split at h
  .rename_i hx
   cases i with
   |zero=>exact⟨x,rfl,hx⟩
   |succ i=>exact Wf k l i (by omega)
  .omega
theorem Wg(k:ByteArray):∀(l:List PR),pC l k<l.length->∃x,l[pC l k]?=some x/\¬fR x.1 k
 |[]=>λh=>absurd h (by simp)
 |x::l=>λh=>by
  unfold pC at h ⊢
  split at h
  .rename_i hx;rw[if_pos hx];exact Wg k l (by simp at h;omega)
  .rename_i hx;rw[if_neg hx];exact⟨x,rfl,hx⟩
def tJ(l:List PR)(k:ByteArray):Bool:=match l[pC l k]? with|some x=>decide (x.1=k)|none=>false
theorem FW(a b:ByteArray):Op.bytesLess a.toList b.toList=decide (fR a b):=by rw[cf,cf,Nd.NY];rfl
theorem str_eq(a b:ByteArray):(a.toList==b.toList)=decide (a=b):=by
 rw[cf,cf]
 by_cases h:a=b
 .subst h;simp
 .rw[decide_eq_false h];simp only[beq_eq_false_iff_ne];intro e;exact h (mr (rP.1 e))
theorem prc_at(l:List PR)(i:Nat)(x:PR)(h:l[i]?=some x):(ku l)[i*2]?=some (.string x.1)/\(ku l)[i*2+1]?=some (.string x.2):=by
 induction l generalizing i with
 |nil=>simp at h
 |cons y l ih=>
  have e:ku (y::l)= .string y.1:: .string y.2::ku l:=rfl;rw[e]
  cases i with
  |zero=>simp at h;subst h;exact⟨rfl,rfl⟩
  |succ i=>
   have:=ih i (by simpa using h);rw[show(i+1)*2=i*2+1+1 by omega];simpa using this
theorem Mp.at(h:Mp w mb v l)(i:Nat)(x:PR)(hx:l[i]?=some x):∃g c,v=.slice (some ⟨g,0,none⟩) l.length c/\w.cell? ⟨g,i*2,none⟩=some (.string x.1)/\w.cell? ⟨g,i*2+1,none⟩=some (.string x.2):=by
 have hi:=(aS.1 hx).1;obtain⟨g,c,rest,e,B,_⟩:=h.s.form (by omega) (by omega);obtain⟨h1,h2⟩:=prc_at l i x hx;refine⟨g,c,e,?_,?_⟩
 .rw[B.cell,dj,bF (aS.1 h1).1];exact h1
 .rw[B.cell,dj,bF (aS.1 h2).1];exact h2
theorem xT(key fr az:ByteArray)(w:World):Calls prog 106 #[.string key,.string fr,.string az] w λe w'=>e=.returned (.bool (Bb fr az key))/\w=w':=by
 have c1:Op.bytesLess key.toList fr.toList= !decide (nY fr key):=by
  rw[FW];have h:=Nd.FC fr.data.toList key.data.toList
  by_cases hk:nY fr key
  .rw[decide_eq_true hk,decide_eq_false (by show ¬Nd.cb _ _<0;have:Nd.cb fr.data.toList key.data.toList<=0:=hk;omega)];rfl
  .rw[decide_eq_false hk,decide_eq_true (by show Nd.cb _ _<0;have:¬Nd.cb fr.data.toList key.data.toList<=0:=hk;omega)];rfl
 have c2:=FW key az;have c3:az.toList.isEmpty=decide (az.size=0):=by
  rw[cf]
  by_cases h:az.size=0
  .rw[decide_eq_true h,show az=⟨#[]⟩from mr (zal0q h)];rfl
  .rw[decide_eq_false h]
   cases hl:az.data.toList with
   |nil=>exact absurd (show az.data.toList.length=0 by rw[hl];rfl) h
   |cons a b=>rfl
 unfold Bb;generalize decide (nY fr key)=a at *;generalize decide (fR key az)=b at *;generalize decide (az.size=0)=d at *
 cases a<;>cases b<;>cases d
 all_goals
  go_enter func106,ntmps106;go_wp2_with fail;go_ret;exact aE (by first|rfl|trivial)
theorem FY(h:Mp w mb v l)(key:ByteArray):
  Calls prog 105 #[.pointer (some ⟨mb,0,none⟩),.string key] w λe w'=>e=.returned (.tuple #[.int .i64 (pC l key:Nat),.bool (tJ l key)])/\Below w.heap.size w w':=by
 obtain⟨A,c,rfl⟩:=au h.s;have x0:=h.b.ab (i:=0) rfl;have hn:=h.n;have HM:=xh h;have HLE:=xh (MZ key l);have oO:=xh (Wf key l);have HAT:=xh (Wg key l);obtain⟨ln,mR⟩:∃ln,l.length=ln:=⟨_,rfl⟩;have tE:=xh mR;obtain⟨at_,hat⟩:∃a,pC l key=a:=⟨_,rfl⟩;have HATE:=xh hat;rw[hat]at HLE oO HAT ⊢;rw[mR]at HLE HAT x0 hn;have O0:=xh (Below.refl w.heap.size w);obtain⟨bb,ue⟩:∃bb,tJ l key=bb:=⟨_,rfl⟩;have HBB:=xh ue;rw[ue]
 clear h mR hat ue;go_enter func105,ntmps105;go_wp2_with fail
 go_loopw [6] (λiv wr=> ∃i:Nat,i<=at_/\iv=.int .i64 i/\wr=w) (λiv _=>ln-(intOf iv).toNat)
 case atStart=>exact⟨0,aY _,rfl,rfl⟩
 case round=>
  obtain⟨i,hi,rfl,rfl⟩:=hrel;have hle:=HLE.o
  by_cases h1:i<ln
  .have Wh:(i:Int)<(ln:Int):=by omega
   have ei:IntKind.i64.wrap ((i:Int)+1)=((i+1:Nat):Int):=IntWalk.i64_in _ (by omega)
   by_cases h2:i<at_
   .obtain⟨x,hx,hk⟩:=oO.o i h2;obtain⟨g,c',hv,d0,_⟩:=HM.o.at i x hx;injection hv with mQ oe Gg
    subst mQ;have c1:=(FW x.1 key).trans (decide_eq_true hk);clear oe Gg hx hk;go_wp2_with fail;go_roundw
    case rel=>exact⟨i+1,by omega,by go_num,by trivial⟩
    case measure=>simp[intOf];omega
   .obtain rfl:i=at_:=by omega
    obtain⟨x,hx,hk⟩:=HAT.o h1;obtain⟨g,c',hv,d0,_⟩:=HM.o.at i x hx;injection hv with mQ oe Gg
    subst mQ;have c1:=(FW x.1 key).trans (decide_eq_false (by first|exact hk|exact Int.not_lt.2 hk));have c2:=str_eq x.1 key;have cA:bb=decide (x.1=key):=by rw[<-HBB.o];unfold tJ;rw[HATE.o,hx]
    rw[<-cA]at c2;clear oe Gg hx hk cA;have S0:=xh (show wr.drew.cell? ⟨mb,0,none⟩=some (.slice (some ⟨g,0,none⟩) ln c)/\wr.drew.cell? ⟨g,i*2,none⟩=some (.string x.1)from⟨x0,d0⟩);go_wp2_with fail;refine wp_region_held_drew (S:=λW=>W.cell? ⟨mb,0,none⟩=some (.slice (some ⟨g,0,none⟩) ln c)/\W.cell? ⟨g,i*2,none⟩=some (.string x.1)) (by kernel_rfl) (S0.o) (λah=>?_)
    refine bM [(0,28),(1,29),(2,30),(3,31),(4,32),(5,33),(6,34),(7,35),(8,36),(9,37),(10,38),(11,39),(12,40),(13,41),(14,42),(15,43),(16,44),(17,45),(18,46),(19,47),(20,4),(21,5)] ?_
    iterate 22 refine aG ?_
    refine wpAnyH_done (by kernel_rfl) ?_ _;go_wp2_with fail;go_ret2;exact aE O0.o.drew
  .obtain rfl:i=at_:=by omega
   have Wh:¬(i:Int)<(ln:Int):=by omega
   have cA:bb=false:=by
    rw[<-HBB.o];unfold tJ;rw[HATE.o,gu (by have:=tE.o;omega)]
   have Fu:=xh cA;clear cA;have S0:=xh (show wr.drew.cell? ⟨mb,0,none⟩=some (.slice A ln c)from x0);go_wp2_with fail;refine wp_region_held_drew (S:=λW=>W.cell? ⟨mb,0,none⟩=some (.slice A ln c)) (by kernel_rfl) (S0.o) (λah=>?_);refine bM [(0,28),(1,29),(2,30),(3,31),(4,32),(5,33),(6,34),(7,35),(8,36)] ?_
   iterate 9 refine aG ?_
   refine cG 9 37 ?_;refine cG 10 38 ?_;refine cG 11 39 ?_;refine cG 12 40 ?_;refine cG 13 41 ?_;refine cG 14 42 ?_;refine cG 15 43 ?_;refine cG 16 44 ?_;refine cG 17 45 ?_;refine cG 18 46 ?_;refine bM [(19,47),(20,4),(21,5)] ?_
   iterate 3 refine aG ?_
   refine wpAnyH_done (by kernel_rfl) ?_ _;go_wp2_with fail;go_ret2;rw[Fu.o];exact aE O0.o.drew
variable{w:World}{mb:Nat}{v:Value}{l:List PR}
def qF(l:List PR)(key:ByteArray):ByteArray×Int:=if tJ l key=true then(((l[pC l key]?).getD (⟨#[]⟩,⟨#[]⟩)).2,0)else(⟨#[]⟩,9)
def iZ(fr az:ByteArray)(n:Int)(l:List PR):List PR:=l.foldl (λo x=>if Bb fr az x.1=true/\(o.length:Int)<n then o++[x]else o) []
def po(fr az:ByteArray)(l:List PR):List PR:=l.filter λx=> !Bb fr az x.1
theorem Bi(fr az:ByteArray)(n:Int)(l:List PR)(i:Nat)(x:PR)(h:l[i]?=some x):iZ fr az n (l.take (i+1))=if Bb fr az x.1=true/\((iZ fr az n (l.take i)).length:Int)<n then iZ fr az n (l.take i)++[x]else iZ fr az n (l.take i):=by
 unfold iZ;rw[tO,h,List.foldl_append];rfl
theorem rB(fr az:ByteArray)(n:Int)(l:List PR):∀i,(iZ fr az n (l.take i)).length<=i
 |0=>by simp[iZ]
 |i+1=>by
  have ih:=rB fr az n l i
  cases h:l[i]? with
  |none=>
   have e:l.take (i+1)=l.take i:=by rw[tO,h];simp
   rw[e];omega
  |some x=>
   rw[Bi fr az n l i x h]
   split
   .rw[aU];simp;omega
   .omega
theorem Rk(fr az:ByteArray)(l:List PR)(i:Nat)(x:PR)(h:l[i]?=some x):po fr az (l.take (i+1))=if Bb fr az x.1=true then po fr az (l.take i)else po fr az (l.take i)++[x]:=by
 unfold po;rw[tO,h,sq]
 cases hx:Bb fr az x.1<;>simp[hx]
theorem Wi(fr az:ByteArray)(l:List PR)(i:Nat):(po fr az (l.take i)).length<=i:=by
 unfold po;exact ar (Ea _ _) (by rw[bm];omega)
theorem Wj(h:Mp w mb v l)(key:ByteArray):
  Calls prog 107 #[.pointer (some ⟨mb,0,none⟩),.string key] w λe w'=>e=.returned (.tuple #[.string (qF l key).1,.int .i64 (qF l key).2])/\Below w.heap.size w w':=by
 have KA:=xh (FY h key);unfold qF
 cases hb:tJ l key with
 |false=>
  rw[hb]at KA;rw[if_neg (by simp)];clear h hb;go_enter func107,ntmps107;go_wp2_with fail;refine KA.o.mono ?_;rintro e w1 ⟨rfl,bf⟩;have O1:=xh bf;clear bf;go_wp2_with fail;go_ret2;exact aE O1.o
 |true=>
  rw[hb]at KA;rw[if_pos rfl];obtain⟨x,hx⟩:∃x,l[pC l key]?=some x:=by
   cases hx:l[pC l key]? with
   |none=>unfold tJ at hb;rw[hx]at hb;cases hb
   |some x=>exact⟨x,rfl⟩
  rw[hx];have dH:=(aS.1 hx).1;have hn:=h.n;have HM:=xh h;have HX:=xh hx;obtain⟨k,hk⟩:∃k,pC l key=k:=⟨_,rfl⟩;obtain⟨ln,mR⟩:∃ln,l.length=ln:=⟨_,rfl⟩;have tE:=xh mR;rw[hk]at KA HX dH;rw[mR]at dH hn;have hltI:(k:Int)<(ln:Int):=by omega
  dsimp only[Option.getD];clear h hb hx hk mR;go_enter func107,ntmps107;go_wp2_with fail;refine KA.o.mono ?_;rintro e w1 ⟨rfl,bf⟩;have O1:=xh bf;have M1:=HM.o.below bf;have x0:=M1.b.ab (i:=0) rfl;obtain⟨g,c,rfl,d0,d1⟩:=M1.at k x HX.o;rw[tE.o]at x0;clear bf M1;go_wp2_with fail;go_ret2;exact aE O1.o
theorem DR(h:Mp w mb v l)(fr az:ByteArray)(n:Int):
  Calls prog 108 #[.pointer (some ⟨mb,0,none⟩),.string fr,.string az,.int .i64 n] w λe w'=> ∃v',e=.returned v'/\aT w' 42 2 v' (iZ fr az n l).length (ku (iZ fr az n l))/\Below w.heap.size w w'/\(∀g∈ai v',w.heap.size<=g):=by
 obtain⟨A,c,rfl⟩:=au h.s;have hn:=h.n;have HM:=xh h;obtain⟨ln,mR⟩:∃ln,l.length=ln:=⟨_,rfl⟩;have tE:=xh mR;rw[mR]at hn;have x0:=h.b.ab (i:=0) rfl;rw[mR]at x0;have KW:=xh xT;have HSU:=xh (Bi fr az n l);have Gn:=xh (rB fr az n l);have HF:=xh (show iZ fr az n l=iZ fr az n (l.take ln) by rw[<-mR,fw]);have HO0:=xh (show iZ fr az n (l.take 0)=[]from rfl);clear h mR
 go_enter func108,ntmps108;go_wp2_with fail
 go_loopw [9,10] (λov iv wr=> ∃(i:Nat) (out:List PR),i<=ln/\iv=.int .i64 i/\Hid (iZ fr az n (l.take i)=out)/\aT wr 42 2 ov out.length (ku out)/\Hid (Below w.heap.size w wr)/\Hid (∀g∈ai ov,w.heap.size<=g)) (λ_ iv _=>ln-(intOf iv).toNat)
 case atStart=>exact⟨0,[],aY _,rfl,HO0,aT.nil _ _ _,xh (Below.refl _ _),xh (by simp[ai])⟩
 case round=>
  obtain⟨i,out,hi,rfl,HO,S,O,FO⟩:=hrel;clear x0;have x0:=(HM.o.below O.o).b.ab (i:=0) rfl;rw[tE.o]at x0;obtain⟨VO,co,rfl⟩:=au S;have hol:=Gn.o i;rw[HO.o]at hol
  by_cases h1:i<ln
  .have Wh:(i:Int)<(ln:Int):=by omega
   obtain⟨x,HX⟩:∃x,Hid (l[i]?=some x):=⟨_,xh (aL (by rw[tE.o];exact h1))⟩;obtain⟨g,c',hv,d0,d1⟩:=(HM.o.below O.o).at i x HX.o;injection hv with mQ oe Gg
   subst mQ;clear oe Gg;have ei:IntKind.i64.wrap ((i:Int)+1)=((i+1:Nat):Int):=IntWalk.i64_in _ (by omega);have hs:=HSU.o i x HX.o;rw[HO.o]at hs
   by_cases h2:Bb fr az x.1=true
   .by_cases h3:(out.length:Int)<n
    .rw[if_pos ⟨h2,h3⟩]at hs;have HO7:=xh hs;have GQ:=xh (KW.o x.1 fr az wr);rw[h2]at GQ;clear hs h2;go_wp2_with fail;refine GQ.o.mono ?_;rintro e _ ⟨rfl,rfl⟩;obtain⟨v',w7,ea,S7,o7,f7⟩:=wU S x.1 x.2 (by omega);obtain⟨V7,c7,rfl⟩:=au S7;have hpr:ku out++[Value.string x.1,Value.string x.2]=ku (out++[x]):=by rw[ng];rfl
     rw[hpr]at S7;have S7:=xh (show aT w7 42 2 (.slice V7 (out.length+1) c7) (out++[x]).length (ku (out++[x]))from by rw[aU];exact S7);have O7:=xh (O.o.trans (o7.aI O.o.size FO.o));have F7:=xh (show ∀g'∈ai (.slice V7 (out.length+1) c7),w.heap.size<=g' from λg' hg=>(f7 g' hg).elim (FO.o g') (λh=>ar O.o.size h));have EA:=xh ea;clear ea o7 f7 hpr S;generalize out.length=ol at *;go_wp2_with fail;rw[EA.o];go_wp2_with fail
     go_roundw
     case rel=>exact⟨i+1,out++[x],by omega,by go_num,HO7,S7.o,O7,F7⟩
     case measure=>simp[intOf];omega
    .rw[if_neg (λh=>h3 h.2)]at hs;have HO7:=xh hs;have GQ:=xh (KW.o x.1 fr az wr);rw[h2]at GQ;have S7:=xh S;clear hs h2 S;go_wp2_with fail;refine GQ.o.mono ?_;rintro e _ ⟨rfl,rfl⟩;go_wp2_with fail;go_roundw
     case rel=>exact⟨i+1,out,by omega,by go_num,HO7,S7.o,O,FO⟩
     case measure=>simp[intOf];omega
   .rw[if_neg (λh=>h2 h.1)]at hs;have HO7:=xh hs;have GQ:=xh (KW.o x.1 fr az wr);rw[RN]at h2;rw[h2]at GQ;have S7:=xh S;clear hs h2 S;go_wp2_with fail;refine GQ.o.mono ?_;rintro e _ ⟨rfl,rfl⟩;go_wp2_with fail;go_roundw
    case rel=>exact⟨i+1,out,by omega,by go_num,HO7,S7.o,O,FO⟩
    case measure=>simp[intOf];omega
  .have Wh:¬(i:Int)<(ln:Int):=by omega
   obtain rfl:i=ln:=by omega
   have S7:=xh S;have hf:=HF.o;rw[HO.o]at hf;have HF7:=xh hf;clear S hf;go_wp2_with fail;go_ret;rw[HF7.o];exact⟨_,by first|rfl|simp,S7.o,O.o,FO.o⟩
theorem M0(h:Mp w mb v l)(fr az:ByteArray):
  Calls prog 56 #[.pointer (some ⟨mb,0,none⟩),.string fr,.string az] w λe w'=>e=.returned (.int .i64 ((l.length:Int)-(po fr az l).length))/\∃v',Mp w' mb v' (po fr az l)/\ag [mb] w w'/\(∀g∈ai v',w.heap.size<=g):=by
 obtain⟨A,c,rfl⟩:=au h.s;have hn:=h.n;have HM:=xh h;obtain⟨ln,mR⟩:∃ln,l.length=ln:=⟨_,rfl⟩;have tE:=xh mR;rw[mR]at hn;have x0:=h.b.ab (i:=0) rfl;rw[mR]at x0;have KW:=xh xT;have HMB:=xh h.b.lt;have HSU:=xh (Rk fr az l);have Gn:=xh (Wi fr az l);have HF:=xh (show po fr az l=po fr az (l.take ln) by rw[<-mR,fw]);have HO0:=xh (show po fr az (l.take 0)=[]from rfl);clear h mR
 go_enter func56,ntmps56;go_wp2_with fail
 go_loopw [7,8] (λov iv wr=> ∃(i:Nat) (out:List PR),i<=ln/\iv=.int .i64 i/\Hid (po fr az (l.take i)=out)/\aT wr 42 2 ov out.length (ku out)/\Hid (Below w.heap.size w wr)/\Hid (∀g∈ai ov,w.heap.size<=g)) (λ_ iv _=>ln-(intOf iv).toNat)
 case atStart=>exact⟨0,[],aY _,rfl,HO0,aT.nil _ _ _,xh (Below.refl _ _),xh (by simp[ai])⟩
 case round=>
  obtain⟨i,out,hi,rfl,HO,S,O,FO⟩:=hrel;clear x0;have BB:=(HM.o.below O.o).b;have x0:=BB.ab (i:=0) rfl;have f0:=BB.frozen 0 (by simp);rw[tE.o]at x0;obtain⟨VO,co,rfl⟩:=au S;have hol:=Gn.o i;rw[HO.o]at hol
  by_cases h1:i<ln
  .have Wh:(i:Int)<(ln:Int):=by omega
   clear f0 BB;obtain⟨x,HX⟩:∃x,Hid (l[i]?=some x):=⟨_,xh (aL (by rw[tE.o];exact h1))⟩;obtain⟨g,c',hv,d0,d1⟩:=(HM.o.below O.o).at i x HX.o;injection hv with mQ oe Gg
   subst mQ;clear oe Gg;have ei:IntKind.i64.wrap ((i:Int)+1)=((i+1:Nat):Int):=IntWalk.i64_in _ (by omega);have hs:=HSU.o i x HX.o;rw[HO.o]at hs
   by_cases h2:Bb fr az x.1=true
   .rw[if_pos h2]at hs;have HO7:=xh hs;have GQ:=xh (KW.o x.1 fr az wr);rw[h2]at GQ;have S7:=xh S;clear hs h2 S;go_wp2_with fail;refine GQ.o.mono ?_;rintro e _ ⟨rfl,rfl⟩;go_wp2_with fail;go_roundw
    case rel=>exact⟨i+1,out,by omega,by go_num,HO7,S7.o,O,FO⟩
    case measure=>simp[intOf];omega
   .rw[if_neg h2]at hs;have HO7:=xh hs;have GQ:=xh (KW.o x.1 fr az wr);rw[RN]at h2;rw[h2]at GQ;clear hs h2;go_wp2_with fail;refine GQ.o.mono ?_;rintro e _ ⟨rfl,rfl⟩;obtain⟨v',w7,ea,S7,o7,f7⟩:=wU S x.1 x.2 (by omega);obtain⟨V7,c7,rfl⟩:=au S7;have hpr:ku out++[Value.string x.1,Value.string x.2]=ku (out++[x]):=by rw[ng];rfl
    rw[hpr]at S7;have S7:=xh (show aT w7 42 2 (.slice V7 (out.length+1) c7) (out++[x]).length (ku (out++[x]))from by rw[aU];exact S7);have O7:=xh (O.o.trans (o7.aI O.o.size FO.o));have F7:=xh (show ∀g'∈ai (.slice V7 (out.length+1) c7),w.heap.size<=g' from λg' hg=>(f7 g' hg).elim (FO.o g') (λh=>ar O.o.size h));have EA:=xh ea;clear ea o7 f7 hpr S;generalize out.length=ol at *;go_wp2_with fail;rw[EA.o];go_wp2_with fail
    go_roundw
    case rel=>exact⟨i+1,out++[x],by omega,by go_num,HO7,S7.o,O7,F7⟩
    case measure=>simp[intOf];omega
  .have Wh:¬(i:Int)<(ln:Int):=by omega
   obtain rfl:i=ln:=by omega
   have hf:=HF.o;rw[HO.o]at hf;have e1:IntKind.i64.wrap ((i:Int)-(out.length:Int))=(i:Int)-(out.length:Int):=IntWalk.i64_in _ (by omega);have ff:=cU S BB (by decide);have o1:ag [mb] wr (wr.setCell ⟨mb,0,none⟩ (.slice VO out.length co)):=(ag.refl _ _).setCell (by simp) _;have M7:=xh (show Mp (wr.setCell ⟨mb,0,none⟩ (.slice VO out.length co)) mb (.slice VO out.length co) out from⟨BB.bE 0 _,S.only o1 (λg hg hm=>ff (by rw[<-aQ.1 hm];exact hg)),by omega⟩)
   have O7:=xh ((ag.aj (S:=[mb]) O.o).trans o1);have HF7:=xh hf;clear S hf ff o1 BB;obtain⟨ol,hol2⟩:∃ol,out.length=ol:=⟨_,rfl⟩;have HOL:=xh hol2;rw[hol2]at e1 M7 O7 FO ⊢;clear hol2 hol;go_wp2_with fail;go_ret;rw[HF7.o,tE.o,HOL.o];exact aE ⟨_,M7.o,O7.o,FO.o⟩
end Sh
namespace Sh
open Go.RowKit Pk Dk Pg
open Nd (E aH bA aX bj dN bP bl cF)
attribute [local go_sem ↓] Go.wp_at_zero Go.wp_at_succ
variable{fr pg n K:Nat}
theorem Wl:ki []=List.replicate 64 0:=by unfold ki;simp
theorem Cg(n:Nat)(h1:2<=n)(hn:n<=4096):iU (eu (D.zero n) n).d n 1 0 [] []/\Twin (eu (D.zero n) n).d 0 1:=by
 have z:(D.zero n).down=false/\(D.zero n).bt=0:=⟨rfl,rfl⟩;have ok0:=oM n hn;obtain⟨w1,w2,w3⟩:=iP (d:=D.zero n) (n:=n) (k:=0) z.1 z.2 (by omega) fF;have ok1:=ok0.write ((0:Nat):Int) fF;have n1:=qU ok0 0 (by omega) fF w1;obtain⟨v1,v2,v3⟩:=iP (d:=((D.zero n).aD n ((0:Nat):Int) fF).1) (n:=n) (k:=1) w2 w3 (by omega) [];have n2:=qU ok1 1 (by omega) [] v1;obtain⟨s1,s2,s3,s4⟩:=nK v2 v3
 have hd:(eu (D.zero n) n).d=((((D.zero n).aD n ((0:Nat):Int) fF).1.aD n ((1:Nat):Int) []).1.et).1:=rfl;have e0:sec (eu (D.zero n) n).d.now 0=fF:=by
  rw[hd,s4,n2 0 (by omega),if_neg (by omega),n1 0 (by omega),if_pos rfl];exact vA _ (Rt.uj 1 0 [] (by simp))
 have e1:sec (eu (D.zero n) n).d.now 1=List.replicate 64 0:=by
  rw[hd,s4,n2 1 (by omega),if_pos rfl,Wl]
 have hdec:Rt.pX (List.replicate 64 0)<1:=by decide+kernel
 refine⟨⟨h1,Ti,.inl rfl,e0,λ_=>?_,λi x hx=>by simp at hx,λj _ _=>by rw[hd];exact sH s1 j⟩,?_⟩
 .show Rt.pX (sec (eu (D.zero n) n).d.now 1)<1;rw[e1];exact hdec
 .unfold Twin;show(sec (eu (D.zero n) n).d.now 1).take 8=(sec (eu (D.zero n) n).d.now 1).drop 56/\Rt.pX (sec (eu (D.zero n) n).d.now 1)<1;rw[e1];exact⟨by simp,hdec⟩
theorem Jd(n:Nat)(h1:1<=fi n)(hn:n<=4096)(fu:(eu (D.zero n) n).d.Ok n):Good (eu (D.zero n) n) n/\(eu (D.zero n) n).bR n=St.start (fi n)/\(eu (D.zero n) n).d.calls<=10/\iU (eu (D.zero n) n).d n 1 0 [] []/\Twin (eu (D.zero n) n).d 0 1:=by
 obtain⟨g,e,hc⟩:=Kw n h1 hn fu;have hr:=Cg n (by unfold fi cB at h1;omega) hn;exact⟨g,e,hc,hr⟩
def QS.start(fr pg:Nat):QS:=⟨St.start pg,List.replicate fr Fr.nil,0⟩
def tt:Vw:=λ_=>([],3)
def xU:Vw:=jP tt 0 (bH true []).1
theorem Wm(fr pg:Nat):Vi (QS.start fr pg):=by
 have hn:∀f∈(QS.start fr pg).l,f=Fr.nil:=λf hf=>om hf;have hp:∀f∈(QS.start fr pg).l,¬0<=f.aq:=λf hf=>by rw[hn f hf];show ¬(0:Int)<= -1;omega
 exact⟨λi j f g hi hj e h0=>absurd h0 (hp f (ay hi)),λf hf h0=>absurd h0 (hp f hf),λf hf h0=>absurd h0 (hp f hf),λf hf _=>by rw[hn f hf];rfl,λf hf h0=>absurd h0 (hp f hf)⟩
theorem Je(H:Hq (QS.start fr pg) n K):Wp (QS.start fr pg) n K:=⟨H,Wm fr pg,λf hf=>by rw[om hf];rfl⟩
theorem Bj(pg:Nat)(j:Int):(St.start pg).aP j=([],3):=by
 unfold St.aP;have:(St.start pg).at j=none:=by unfold St.at St.start;split<;>simp
 rw[this]
theorem Wn(H:Hq (QS.start fr pg) n K):Rd (QS.start fr pg) tt tt 0 pg:=by
 refine⟨⟨n,K,Je H⟩,λj=>?_,λj=>?_,?_,ak _⟩
 .rcases gQ (QS.start fr pg) j with ho|⟨k,f,hk,rfl,hp⟩
  .rw[eE ho];exact Bj pg j
  .rw[show f=Fr.nil from om (ay hk)]at hp;exact absurd hp (by show ¬(0:Int)<= -1;omega)
 .show({(St.start pg)with now:=iT (St.start pg).bX}:St).aP j=_;exact Bj pg j
 .show 0+(0+cM 0)<=0;decide
theorem lay0:(bH true []).2=0:=qB (v:=tt) (h:=0) (λh=>absurd rfl h) (by rw[n7];decide)
theorem Bk:jY=(bH true []).1:=rfl
theorem Wo:Tree xU 0 []:=by
 have xX:∀j,iG xU j=if j=0 then(true,[],0)else iG tt j:=λj=>by unfold xU;rw[gq lay0];rfl
 have hns:aM xU 0 0=[(0,0,[])]:=by unfold aM;rw[xX 0,if_pos rfl]
 refine⟨⟨by rw[xX 0,if_pos rfl],by rw[xX 0,if_pos rfl];decide⟩,by unfold gF;rw[hns];rfl,by simp,by rw[hns];simp,λj hj=>?_⟩;rw[hns]
 by_cases h0:j=0
 .simp[h0]
 .unfold xU at hj;rw[l5 _ _ h0]at hj;exact absurd hj (by show ¬(3:Int)=0;decide)
theorem M6(H:Hq (QS.start fr pg) n K)(hp:2<=pg):(QS.start fr pg).kG.2=0/\Rd (QS.start fr pg).kG.1 xU tt 1 pg/\Tree xU 0 []:=by
 have R:=Wn H;have hlen:=(AJ lay0).2.2.1;have hT:=Wo;have Q0:((QS.start fr pg).bV jY).2=(0,0):=by
  show((St.start pg).bV jY).2=_;unfold St.bV;have hs:(St.start pg).slot=0:=rfl;have hf:(St.start pg).free≠0:=by
   show pg-(0+cM 0)-0≠0;have:cM 0=0:=by decide
   omega
  rw[if_neg (by rw[Bk,hlen];omega),if_neg (by rw[hs];omega)];exact kV (by rw[hs];rfl) rfl
 have hn:=R.new ⟨jY.toArray⟩ (by show jY.toArray.size<=232;rw[lS,Bk,hlen];exact ak _);have hd:(⟨jY.toArray⟩:ByteArray).data.toList=jY:=rfl;rw[hd]at hn;rw[Q0]at hn;have he:eP jY 232=(bH true []).1:=by
  rw[Bk];exact ux (b:=⟨(bH true []).1.toArray⟩) (by show(bH true []).1.toArray.size=_;rw[lS];exact hlen)
 rcases hn with⟨l,a1,a2,a3,a4⟩|⟨a1,_⟩
 .have hl:((l:Nat):Int)=0:=(congrArg Prod.fst a1).symm;rw[hl,he]at a4;have hpg:(QS.start fr pg).a.lr.length=0:=rfl;have hroot:(QS.start fr pg).xN=(((QS.start fr pg).bV jY).1,0):=by
   unfold QS.xN;rw[if_pos hpg,Q0]
  unfold QS.kG;rw[hroot,if_neg (by simp)];have a4:Rd ((QS.start fr pg).bV jY).1 xU tt 1 pg:=a4;obtain⟨b1,b2⟩:=a4.read 0;refine⟨?_,b1,hT⟩;show(((QS.start fr pg).bV jY).1.bJ 0).2.2.2=0
  rcases b2 with b2|⟨b2,b3⟩
  .rw[b2,(FL hT.ok).1]
  .omega
 .exact absurd (congrArg Prod.snd a1) (by show ¬(0:Int)=11;decide)
def QS.begun(fr pg:Nat):QS:=(QS.start fr pg).kG.1.aK.1
theorem Bl(w:World)(fr pg:Nat)(f1:1<=fr)(f2:fr<=32)(p1:4<=pg)(p2:pg<=1000):
  Calls prog 12 #[.int .i64 (fr:Nat),.int .i64 (pg:Nat)] w λe w'=> ∃wb tb mb I F,e=.returned (lp wb)/\aJ w' wb 38 #[dp I.L.b,pp I.pb,tp tb,lp mb,.slice none 0 0]/\aJ w' mb 45 #[.slice none 0 0]/\TQ w' tb I F (QS.begun fr pg) (2+4*pg) 50/\
   Rd (QS.begun fr pg) xU xU 3 pg/\Below w.heap.size w w'/\(∀g∈wb::mb::tb::F,w.heap.size<=g):=by
 have n1:fi (2+4*pg)=pg:=by unfold fi cB;omega
 have e1:IntKind.i64.wrap (4*(pg:Int))=4*(pg:Int):=IntWalk.i64_in _ (by omega);have e2:IntKind.i64.wrap (2+4*(pg:Int))=((2+4*pg:Nat):Int):=by rw[show 2+4*(pg:Int)=((2+4*pg:Nat):Int) by omega];exact IntWalk.i64_in _ (by omega)
 have KD:=xh (Eu (2+4*pg) w (by omega) (by omega));have KF:=xh (λ(W:World) (L:Dk.Loc) (hW:aZ W L (2+4*pg) (D.zero (2+4*pg)))=>Kk hW (by omega) rfl rfl (by show(0:Int)<=1000;omega));have KP:=xh (λ(W:World) (b:Nat)=>Tj (w:=W) b fr f1 f2)
 have HQ:=xh (show ∀(W:World) (x:X) (pq:Nat) (v:Value),At W x (2+4*pg) (eu (D.zero (2+4*pg)) (2+4*pg))->aJ W pq 143 #[sp x.b,v,.int .i64 0]->aT W 167 5 v fr (EM (List.replicate fr Fr.nil))->(∀g∈x.fp,w.heap.size<=g)->w.heap.size<=pq->(∀g∈ai v,w.heap.size<=g)->pq∉x.fp->(∀g∈ai v,g∉x.fp)->
   ∃F,PQ W ⟨pq,x.b,x.L⟩ F (QS.start fr pg) (2+4*pg) 1/\(∀g∈F,w.heap.size<=g)/\Hq (QS.start fr pg) (2+4*pg) 1 from λW x pq v A B S h1 h2 h3 h4 h5=>by
  obtain⟨g,cp,rest,rfl,BB,_⟩:=S.form (by omega) (by omega);obtain⟨gd,e,hc,hr,_⟩:=Jd (2+4*pg) (by omega) (by omega) A.hd.ok;rw[n1]at e;have z:Zc (eu (D.zero (2+4*pg)) (2+4*pg)) (2+4*pg) (St.start pg) 1:=⟨gd,hr,⟨0,by rw[p9,e]⟩,by omega,by show(1:Int)<=(1:Nat);omega⟩
  have H:Hq (QS.start fr pg) (2+4*pg) 1:=⟨⟨_,z⟩,λf hf=>by rw[om hf];exact Fb.nil,by show 1<=(List.replicate fr Fr.nil).length;rw[ez];exact f1,by show(List.replicate fr Fr.nil).length<=32;rw[ez];exact f2,by show 0<(List.replicate fr Fr.nil).length;rw[ez];exact f1,by show([]:List rJ).length<=512;simp⟩;refine⟨_,⟨⟨x,pq,g,cp⟩,rfl,rfl,rfl,rfl,⟨_,?_,z⟩,Je H⟩,?_,H⟩
  .refine⟨?_,?_,A,h4,h5 g (by simp[ai]),H.l1,H.l2,H.lh⟩
   .show aJ W pq _ #[_,.slice (some ⟨g,0,none⟩) (List.replicate fr Fr.nil).length cp,_];rw[ez];exact B
   .show aT W _ 5 (.slice (some ⟨g,0,none⟩) (List.replicate fr Fr.nil).length cp) (List.replicate fr Fr.nil).length _;rw[ez];exact S
  .intro y hy;simp only[Y.fp,an]at hy
   rcases hy with rfl|rfl|hy
   .exact h2
   .exact h3 _ (by simp[ai])
   .exact h1 y hy)
 have HP4:=xh p1;clear f1 f2 p1;unfold dp pp sp tp lp at *;go_enter func12,ntmps12;go_wp2_with fail;refine KD.o.mono ?_;rintro e w1 ⟨L,rfl,D1,bf,hL⟩;have O1:=xh bf;have D1:=xh D1;have HL:=xh hL;clear bf hL;go_wp2_with fail;refine(KF.o w1 L D1.o).mono ?_;rintro e w2 ⟨x,hxL,rfl,A2,o2,fx⟩
 have H2:=xh (show At w2 x (2+4*pg) (eu (D.zero (2+4*pg)) (2+4*pg))/\Below w.heap.size w w2/\∀g∈x.fp,w.heap.size<=g from⟨A2,O1.o.trans (o2.aI O1.o.size HL.o),λg hg=>(fx g hg).elim (HL.o g) (λh=>by have:=O1.o.size;omega)⟩);have HXL:=xh hxL;clear A2 o2 fx hxL;go_wp2_with fail;refine(KP.o w2 x.b).mono ?_;rintro e w3 ⟨pq,v,rfl,B3,S3,gh,hp3,hf3⟩
 obtain⟨F3,P3,f3,hq3⟩:=HQ.o w3 x pq v (H2.o.1.below gh) B3 S3 H2.o.2.2 (by have:=H2.o.2.1.size;omega) (λg hg=>by have:=hf3 g hg;have:=H2.o.2.1.size;omega) (λhF=>by have:=H2.o.1.lt _ hF;omega) (λg hg hF=>by have:=H2.o.1.lt _ hF;have:=hf3 g hg;omega);have hb3':=aB H2.o.2.1 gh;have KO:=Dt P3 (by omega);obtain⟨q1e,q1r,q1t⟩:=M6 hq3 (by have:=HP4.o;omega);rw[q1e]at KO;have KO:=xh KO
 have H3:=xh (show Below w.heap.size w w3/\(∀g∈F3,w.heap.size<=g)from⟨hb3',f3⟩);have HR:=xh q1r;clear B3 S3 gh hp3 hf3 P3 f3 hq3 hb3' q1e q1r q1t;unfold pp at KO;go_wp2_with fail;refine KO.o.mono ?_;rintro e w4 ⟨v4,rfl,F4,o4,f4,P4,z4,z5⟩;obtain⟨tb,rfl,htb,T4⟩:=z5 rfl;have KC:=xu T4.2 (by omega);have tC:=HR.o.ko ⟨_,_,(by obtain⟨y,_,_,_,_,_,W⟩:=T4.2;exact W),by omega⟩;obtain⟨q2,kt⟩:∃q2,(QS.start fr pg).kG.1.aK=q2:=⟨_,rfl⟩
 have hbq:QS.begun fr pg=q2.1:=by unfold QS.begun;rw[kt]
 rw[kt]at KC tC;have HBQ:=xh hbq;have EL:q2.2=0/\Rd q2.1 xU xU 3 pg:=by
  rcases tC with⟨c1,c2⟩|⟨c1,c2,c3⟩
  .exact⟨c1,c2.le (by decide)⟩
  .have:cM 1=1:=by decide
   have:=HP4.o;omega
 rw[EL.1]at KC;have uW:=xh EL.2;have KC:=xh KC;have H4:=xh (show ag F3 w3 w4/\(∀g∈F4,g∈F3\/w3.heap.size<=g)/\w3.heap.size<=tb/\TQ w4 tb ⟨pq,x.b,x.L⟩ F4 (QS.start fr pg).kG.1 (2+4*pg) (1+2)from⟨o4,f4,htb,T4⟩);clear tC EL o4 f4 P4 z4 htb T4 hbq;unfold pp at KC;unfold tp;go_wp2_with fail;refine KC.o.mono ?_;rintro e w5 ⟨rfl,F5,P5,o5,f5⟩;have B6:=aJ.new w5 45 #[.slice none 0 0]
 have B7:=aJ.new (w5.alloc (.cells #[.slice none 0 0] 45)) 38 #[.pointer (some ⟨L.b,0,none⟩),.pointer (some ⟨pq,0,none⟩),.pointer (some ⟨tb,0,none⟩),.pointer (some ⟨w5.heap.size,0,none⟩),.slice none 0 0];have gV:=ae (ae (Below.refl w5.heap.size w5) (.cells #[.slice none 0 0] 45)) (.cells #[.pointer (some ⟨L.b,0,none⟩),.pointer (some ⟨pq,0,none⟩),.pointer (some ⟨tb,0,none⟩),.pointer (some ⟨w5.heap.size,0,none⟩),.slice none 0 0] 38)
 have B6':=B6.alloc (.cells #[.pointer (some ⟨L.b,0,none⟩),.pointer (some ⟨pq,0,none⟩),.pointer (some ⟨tb,0,none⟩),.pointer (some ⟨w5.heap.size,0,none⟩),.slice none 0 0] 38);have s4:=H4.o.1.size;have s5:=o5.size;have s3:=H3.o.1.size;have f4':∀g∈F4,w.heap.size<=g:=λg hg=>(H4.o.2.1 g hg).elim (H3.o.2 g) (λh=>by omega);have f5':∀g∈F5,w.heap.size<=g:=λg hg=>(f5 g hg).elim (f4' g) (λh=>by omega)
 have nC:Below w.heap.size w w5:=(H3.o.1.trans (H4.o.1.aI s3 H3.o.2)).trans (o5.aI (by omega) f4');have T5:TQ w5 tb ⟨pq,x.b,x.L⟩ F5 q2.1 (2+4*pg) 50:=⟨H4.o.2.2.2.1.only o5 H4.o.2.2.2.ne,P5.le (by omega)⟩;have H9:=xh (And.intro B7 (And.intro B6' (And.intro (T5.below gV) (And.intro (aB nC gV) (show ∀g∈(w5.alloc (.cells #[.slice none 0 0] 45)).heap.size::w5.heap.size::tb::F5,w.heap.size<=g from λg hg=>by
  simp only[an]at hg
  rcases hg with rfl|rfl|rfl|hg
  .simp;omega
  .omega
  .have:=H4.o.2.2.1;omega
  .exact f5' g hg)))))
 have HLX:=HXL.o;clear B6 B7 B6' gV f4' f5' nC T5 P5 o5 f5 s3 s4 s5;go_wp2_with fail;go_ret;rw[HBQ.o];refine⟨_,_,_,⟨pq,x.b,x.L⟩,F5,by first|rfl|simp,?_,H9.o.2.1,H9.o.2.2.1,uW.o,H9.o.2.2.2.1,H9.o.2.2.2.2⟩;have h9:=H9.o.1;show aJ _ _ _ #[.pointer (some ⟨x.L.b,0,none⟩),_,_,_,_];rw[HLX];exact h9
end Sh
namespace Sh
open Go.RowKit Pk Dk Pg
variable{k':Nat}
def wtD(i:Nat):Nat:=if i<=15 then 3 ^ i*2 ^ (15-i)else 0
theorem Wq:MD wtD 0:=λi=>by
 unfold wtD
 by_cases h:i+1<=15
 .rw[if_pos h,if_pos (by omega),show 15-i=(15-(i+1))+1 by omega,Nat.pow_succ,Nat.pow_succ];generalize 3 ^ i=a;generalize 2 ^ (15-(i+1))=b;have e1:a*3*b=3*(a*b):=by rw[tR a 3,Ej]
  have e2:a*(b*2)=2*(a*b):=by rw[<-Ej,tR]
  omega
 .rw[if_neg h];omega
theorem wtD_0:wtD 0=32768:=by decide+kernel
theorem wtD_15:wtD 15=14348907:=by decide+kernel
def TL(v:Vw)(l:List PR)(k:Nat):Prop:= ∃H M,Tree v H M/\kz M=l/\H<=15/\eC wtD (aM v H 0)<=k*2588672/\l.length<=k/\∀x∈l,x.1.size<=32
theorem TL.le{v:Vw}{l:List PR}{k:Nat}(h:TL v l k)(hk:k<=k'):TL v l k':=by
 obtain⟨H,M,a,b,c,d,e⟩:=h;exact⟨H,M,a,b,c,ar d (Nat.mul_le_mul_right _ hk),by omega,e.2⟩
def TI(q:QS)(l o:List PR)(mm k:Nat):Prop:= ∃v vo u,Rd q v vo u mm/\TL v l k/\TL vo o k
def TJ(q:QS)(o:List PR)(mm k:Nat):Prop:= ∃v vo u,Rd q v vo u mm/\TL vo o k
theorem filt2{α:Type}{p r:α->Bool}(h:∀x,p x=true->r x=false):∀l:List α,(l.filter p).length+(l.filter r).length<=l.length
 |[]=>ak _
 |x::l=>by
  have ih:=filt2 h l;rw[j5,j5]
  by_cases hp:p x=true
  .rw[if_pos hp,h x hp,if_neg (by simp)];simp only[fI];omega
  .rw[if_neg hp]
   split<;>simp only[fI]<;>omega
theorem Jf(l:List PR)(key:ByteArray):(FV l key).length+(qE l key).length<=l.length:=filt2 (λx hx=>decide_eq_false λh=>iH (ij (of_decide_eq_true hx) h)) l
section
variable{q:QS}{l o:List PR}{mm k:Nat}
theorem TI.j(h:TI q l o mm k):TJ q o mm k:=by
 obtain⟨v,vo,u,R,_,To⟩:=h;exact⟨v,vo,u,R,To⟩
theorem TJ.le(h:TJ q o mm k)(hk:k<=k'):TJ q o mm k':=by
 obtain⟨v,vo,u,R,To⟩:=h;exact⟨v,vo,u,R,To.le hk⟩
theorem TI.le(h:TI q l o mm k)(hk:k<=k'):TI q l o mm k':=by
 obtain⟨v,vo,u,R,Tl,To⟩:=h;exact⟨v,vo,u,R,Tl.le hk,To.le hk⟩
theorem TI.set(h:TI q l o mm k)(key value:ByteArray)(hk:key.size<=32)(hv:value.size<=1024)(hn:k<100):
  ((q.iQ key value).2=11/\TJ (q.iQ key value).1 o mm k)\/((q.iQ key value).2=0/\TI (q.iQ key value).1 (Jc l key value) o mm (k+1)):=by
 obtain⟨v,vo,u,R,⟨H,M,T,rfl,hH,hp,hl⟩,To⟩:=h;have QM:=hl.1
 rcases DO R T hH key value hk hv with⟨a,v',u',b,_⟩|⟨a,v',H',M',new,A,C,B,hh,c,b,S,hm⟩
 .exact .inl ⟨a,v',vo,u',b,To⟩
 .have hx:(if value.size<=40 then value.size else 0)<=40:=by split<;>omega
  have p1:=S.IW wtD 0 Wq;rw[wtD_0,qS,show(if H'=H then 0 else 0)=0 by split<;>rfl]at p1;refine .inr ⟨a,v',vo,u+new,b,⟨H',M',S.t,hm,?_,by omega,?_,?_⟩,To.le (by omega)⟩
  .rcases S.h with e|⟨e,f⟩
   .omega
   .by_cases h15:H=15
    .have p2:=f wtD 0 Wq;rw[h15,wtD_15,wtD_0]at p2;rw[h15]at hp;omega
    .omega
  .have:=Jf (kz M) key;unfold Jc;simp only[aU,fI];omega
  .intro x hx;unfold Jc at hx
   rcases aC.1 hx with hx|hx
   .exact hl.2 x (ir.1 hx).1
   .rcases an.1 hx with rfl|hx
    .exact hk
    .exact hl.2 x (ir.1 hx).1
theorem TI.del(h:TI q l o mm k)(key:ByteArray):
  ((q.jj key).2=11/\TJ (q.jj key).1 o mm k)\/((q.jj key).2=9/\DN l key=[]/\TI (q.jj key).1 l o mm k)\/((q.jj key).2=0/\DN l key≠[]/\TI (q.jj key).1 (Ow l key) o mm k):=by
 obtain⟨v,vo,u,R,⟨H,M,T,rfl,hH,hp,hl⟩,To⟩:=h;have QM:=hl.1
 rcases DQ R T hH key with⟨a,_,v',b⟩|⟨a,b,c⟩|⟨a,c,v',H',M',b,t,m,p,hh⟩
 .exact .inl ⟨a,v',vo,u,b,To⟩
 .exact .inr (.inl ⟨a,c,v,vo,u,b,⟨H,M,T,rfl,hH,hp,hl⟩,To⟩)
 .refine .inr (.inr ⟨a,c,v',vo,u,b,⟨H',M',t,m,by omega,ar (p wtD) hp,?_,λx hx=>?_⟩,To⟩)
  .have:=Jf (kz M) key;unfold Ow;rw[aU];omega
  .unfold Ow at hx;exact(aC.1 hx).elim (λh=>hl.2 x (ir.1 h).1) (λh=>hl.2 x (ir.1 h).1)
theorem TI.clear(h:TI q l o mm k)(fr az:ByteArray):
  ((q.ia fr az).2.2=11/\TJ (q.ia fr az).1 o mm k)\/((q.ia fr az).2=((((l.filter (rZ fr az)).length:Nat):Int),0)/\TI (q.ia fr az).1 (l.filter λx=> !rZ fr az x) o mm k):=by
 obtain⟨v,vo,u,R,⟨H,M,T,rfl,hH,hp,hl⟩,To⟩:=h;have QM:=hl.1
 rcases MV R T hH fr az with⟨a,_,v',b⟩|⟨a,v',H',M',b,P⟩
 .exact .inl ⟨a,v',vo,u,b,To⟩
 .exact .inr ⟨a,v',vo,u,b,⟨H',M',P.t,P.m,ar P.h hH,ar (P.IW wtD) hp,ar (Ea ..) hl.1,λx hx=>hl.2 x (ir.1 hx).1⟩,To⟩
theorem TI.ko(h:TI q l o mm k)(hK:∃n K,Wp q n K/\K<=999999999000):(q.aK.2=0/\TI q.aK.1 l l mm k)\/(q.aK.2=11/\TJ q.aK.1 o mm k):=by
 obtain⟨v,vo,u,R,Tl,To⟩:=h
 rcases R.ko hK with⟨a,b⟩|⟨a,b,_⟩
 .exact .inl ⟨a,v,v,_,b,Tl,Tl⟩
 .exact .inr ⟨a,v,vo,u,b,To⟩
theorem TI.xr(h:TI q l o mm k)(i:Int):TI (q.eU i).1 l o mm k/\((q.eU i).2=0\/(q.eU i).2=3\/(q.eU i).2=11):=by
 obtain⟨v,vo,u,R,Tl,To⟩:=h;obtain⟨a,b⟩:=R.xr i;exact⟨⟨v,vo,u,a,Tl,To⟩,b⟩
theorem TI.get(h:TI q l o mm k)(key:ByteArray):TI (q.nz key).1 l o mm k/\((q.nz key).2.2=11\/(q.nz key).2=I1 (DN l key)):=by
 obtain⟨v,vo,u,R,⟨H,M,T,rfl,hH,hp,hl⟩,To⟩:=h;have QM:=hl.1;obtain⟨a,b⟩:=Bh R T hH key;exact⟨⟨v,vo,u,a,⟨H,M,T,rfl,hH,hp,hl⟩,To⟩,b.imp (·.1) id⟩
theorem TI.scan(h:TI q l o mm k)(fr az:ByteArray)(n:Int):TI (q.iY fr az n).1 l o mm k/\((q.iY fr az n).2.2=11\/(q.iY fr az n).2=((l.filter (rZ fr az)).take n.toNat,0)):=by
 obtain⟨v,vo,u,R,⟨H,M,T,rfl,hH,hp,hl⟩,To⟩:=h;have QM:=hl.1;obtain⟨a,b⟩:=DJ R T hH fr az n;exact⟨⟨v,vo,u,a,⟨H,M,T,rfl,hH,hp,hl⟩,To⟩,b.imp (·.1) id⟩
theorem TI.last(h:TI q l o mm k)(fr az:ByteArray):TI (q.lH fr az).1 l o mm k/\((q.lH fr az).2.2=11\/(q.lH fr az).2=match (l.filter (rZ fr az)).getLast? with|none=>((⟨#[]⟩,⟨#[]⟩),9)|some x=>(x,0)):=by
 obtain⟨v,vo,u,R,⟨H,M,T,rfl,hH,hp,hl⟩,To⟩:=h;have QM:=hl.1;obtain⟨a,b⟩:=Rj R T hH fr az;exact⟨⟨v,vo,u,a,⟨H,M,T,rfl,hH,hp,hl⟩,To⟩,b.imp (·.1) id⟩
theorem TJ.back(h:TJ q o mm k):q.cq.kG.2=0/\TI q.cq.kG.1 o o mm k:=by
 obtain⟨v,vo,u,R,To⟩:=h;obtain⟨H,M,T,e,hH,hp,hl⟩:=To;obtain⟨u',a,b⟩:=MY R T;exact⟨b,vo,vo,u',a,⟨H,M,T,e,hH,hp,hl⟩,⟨H,M,T,e,hH,hp,hl⟩⟩
theorem TI.sorted(h:TI q l o mm k):l.Pairwise (λa b=>fR a.1 b.1)/\l.length<=k:=by
 obtain⟨v,vo,u,R,⟨H,M,T,rfl,hH,hp,hl⟩,To⟩:=h;have QM:=hl.1;exact⟨T.keys,hl.1⟩
theorem TI.keys(h:TI q l o mm k):∀x∈l,x.1.size<=32:=by
 obtain⟨v,vo,u,R,⟨H,M,T,rfl,hH,hp,hl⟩,To⟩:=h;have QM:=hl.1;exact hl.2
end
theorem T0_pot:eC wtD (aM xU 0 0)<=0:=by
 have xX:iG xU 0=(true,[],0):=by unfold xU;rw[gq lay0,if_pos rfl];rfl
 unfold aM;rw[xX];decide
theorem TI.start{q:QS}{mm u:Nat}(R:Rd q xU xU u mm)(hT:Tree xU 0 []):TI q [] [] mm 0:=by
 have t:TL xU [] 0:=⟨0,[],hT,rfl,by omega,by have:=T0_pot;omega,by simp,by simp⟩;exact⟨xU,xU,u,R,t,t⟩
theorem rC(key:ByteArray):∀l:List PR,l.Pairwise (λa b=>fR a.1 b.1)->
  l.take (pC l key)=FV l key/\l.drop (if tJ l key=true then pC l key+1 else pC l key)=qE l key/\(tJ l key=true↔DN l key≠[])/\qF l key=I1 (DN l key)
 |[],_=>⟨rfl,by simp[qE],by simp[tJ,DN],by simp[qF,tJ,DN,I1]⟩
 |x::l,hs=>by
  obtain⟨h1,h2⟩:=ef.1 hs
  by_cases hx:fR x.1 key
  .obtain⟨a,b,c,d⟩:=rC key l h2;have e1:pC (x::l) key=pC l key+1:=by show(if fR x.1 key then _ else _)=_;rw[if_pos hx]
   have e2:tJ (x::l) key=tJ l key:=by unfold tJ;rw[e1,vi]
   have e3:DN (x::l) key=DN l key:=by unfold DN;rw[j5,if_neg (by simpa using tr hx)]
   refine⟨?_,?_,by rw[e2,e3];exact c,?_⟩
   .rw[e1,ox,a];unfold FV;rw[j5,if_pos (by simpa using hx)]
   .have e4:(if tJ l key=true then pC l key+1+1 else pC l key+1)=(if tJ l key=true then pC l key+1 else pC l key)+1:=by split<;>rfl
    rw[e2,e1,e4,DY,b];unfold qE;rw[j5,if_neg (by simpa using λh=>iH (ij hx h))]
   .rw[e3,<-d];unfold qF;rw[e2,e1,vi]
  .have e1:pC (x::l) key=0:=by show(if fR x.1 key then _ else _)=_;rw[if_neg hx]
   have hy:∀y∈l,fR key y.1:=λy hy=>jk (mJ hx) (h1 y hy);have e2:tJ (x::l) key=decide (x.1=key):=by unfold tJ;rw[e1];rfl
   have l1:FV (x::l) key=[]:=by
    unfold FV;refine filter_none λy hm=>decide_eq_false ?_
    rcases an.1 hm with rfl|hm
    .exact hx
    .exact λh=>iH (ij h (hy y hm))
   have l2:qE l key=l:=filter_all λy hm=>decide_eq_true (hy y hm);have l3:DN l key=[]:=filter_none λy hm=>decide_eq_false λe=>tr (hy y hm) e.symm;refine⟨by rw[e1,l1];rfl,?_⟩
   by_cases hk:x.1=key
   .have e3:DN (x::l) key=[x]:=by
     have l3':=l3;unfold DN at l3' ⊢;rw[j5,if_pos (by simpa using hk),l3']
    rw[e1,e2,e3,decide_eq_true hk,if_pos rfl];refine⟨?_,by simp,?_⟩
    .show l=_;unfold qE;rw[j5,if_neg (by simpa using λh=>tr h hk.symm)];exact l2.symm
    .unfold qF;rw[e2,decide_eq_true hk,if_pos rfl,e1];rfl
   .have hkx:fR key x.1:=(ry (mJ hx)).resolve_right λe=>hk e.symm;have e3:DN (x::l) key=[]:=by
     have l3':=l3;unfold DN at l3' ⊢;rw[j5,if_neg (by simpa using hk),l3']
    rw[e1,e2,e3,decide_eq_false hk,if_neg (by simp)];refine⟨?_,by simp,?_⟩
    .show x::l=_;have l2':=l2;unfold qE at l2' ⊢;rw[j5,if_pos (by simpa using hkx),l2']
    .unfold qF;rw[e2,decide_eq_false hk,if_neg (by simp)];rfl
theorem FZ(fr az:ByteArray)(n:Int)(l:List PR):iZ fr az n l=(l.filter (rZ fr az)).take n.toNat:=by
 have h:∀(l o:List PR),l.foldl (λo x=>if Bb fr az x.1=true/\(o.length:Int)<n then o++[x]else o) o=o++(l.filter (rZ fr az)).take (n-(o.length:Nat)).toNat:=by
  intro l
  induction l with
  |nil=>intro o;simp
  |cons x l ih=>
   intro o;rw[yH,ih,j5];have hi:rZ fr az x=Bb fr az x.1:=rfl
   by_cases h1:Bb fr az x.1=true
   .rw[hi,if_pos h1]
    by_cases h2:(o.length:Int)<n
    .rw[if_pos ⟨h1,h2⟩,cr,aU]
     congr 1
     rw[show(n-((o.length:Nat):Int)).toNat=(n-((o.length+[x].length:Nat):Int)).toNat+1 by simp;omega];rfl
    .rw[if_neg (λh=>h2 h.2),show(n-((o.length:Nat):Int)).toNat=0 by omega];simp
   .rw[hi,if_neg (λh=>h1 h.1),if_neg h1]
 unfold iZ;rw[h l []];simp
theorem out_eq(fr az:ByteArray)(l:List PR):po fr az l=l.filter (λx=> !rZ fr az x):=rfl
theorem Rl(fr az:ByteArray)(l:List PR):(l.length:Int)-(po fr az l).length=((l.filter (rZ fr az)).length:Nat):=by
 have h:∀l:List PR,(po fr az l).length+(l.filter (rZ fr az)).length=l.length:=by
  intro l
  induction l with
  |nil=>rfl
  |cons x l ih=>
   unfold po at ih ⊢;have hi:rZ fr az x=Bb fr az x.1:=rfl;rw[j5,j5,hi]
   cases Bb fr az x.1<;>simp<;>omega
 have:=h l;omega
theorem Jg(fr az:ByteArray)(l:List PR)(hl:l.length<=1000000){n:Int}(hn:1000000<=n):iZ fr az n l=l.filter (rZ fr az):=by
 rw[FZ,cy];have:=Ea (rZ fr az) l;omega
theorem uT(l:List PR):l.filter (rZ ⟨#[]⟩ ⟨#[]⟩)=l:=by
 refine filter_all λx _=>?_;unfold rZ Bb;rw[decide_eq_true (wI x.1)];rfl
open Go.RowKit
variable{i n:Nat}{v:Value}{w:World}{rs:List Nat}
section
variable{P:Program}{ops:Array Oper}{Q:Exit->Act->World->Prop}{md:Region.Mode}{S:World->Prop}{L:Nat}
def Rm(P:Program)(md:Region.Mode)(ops:Array Oper)(Q:Exit->Act->World->Prop)(S:World->Prop)(L:Nat):Nat->Array Bool->Act->World->Prop
 |0,c,a,w=>Region.ready md ops c=[]/\Q .normal a w
 |n+1,c,a,w=>(Region.ready md ops c=[]->Q .normal a w)/\∀i∈Region.ready md ops c,wpOp P ops Q i (λa' w'=>(i≠L->S w')/\Rm P md ops Q S L n (c.setIfInBounds i true) a' w') a w
theorem Ox:∀(n:Nat) (c:Array Bool) (a:Act) (w:World),Rm P md ops Q S L n c a w->wpAny P md ops Q n c a w
 |0,_,_,_,h=>h
 |n+1,_,_,_,h=>⟨h.1,λi hi=>wpOp_mono (λa' w' x=>Ox n _ a' w' x.2) (h.2 i hi)⟩
def F0(md:Region.Mode)(ops:Array Oper)(L i:Nat):Bool:=match ops[L]? with|some o=>o.after.any λe=>Region.binds md e && e.on==i|none=>false
theorem M8(h:F0 md ops L i=true):∃o e,ops[L]?=some o/\e∈o.after/\Region.binds md e=true/\e.on=i:=by
 unfold F0 at h
 cases ho:ops[L]? with
 |none=>rw[ho]at h;cases h
 |some o=>
  rw[ho]at h;rw[Array.any_eq_true']at h;obtain⟨e,he,hb⟩:=h;rw[im,beq_iff_eq]at hb;exact⟨o,e,rfl,he,hb.1,hb.2⟩
theorem DS{oi:Oper}(hi:ops[i]?=some oi)(hsel:∀(j:Nat) (o:Oper) cs b,ops[j]?=some o->o.op≠ .select cs b)
 (hQ:∀c a w,Q (.panic c) (a.put oi.dst v) w->Q (.panic c) a w)(hL:F0 md ops L i=true):∀(n:Nat) (c:Array Bool) (a:Act) (w:World),
  (∀j oj,ops[j]?=some oj->j≠i->c.getD j true=false->(∀e∈oj.after,Region.binds md e=true->e.on≠i)->oi.apart ops oj=true)->
  i∈Region.ready md ops c->YieldsIf P ops S oi v a->S w->Rm P md ops Q S L n (c.setIfInBounds i true) (a.put oi.dst v) w->Rm P md ops Q S L (n+1) c a w
 |0,c,a,w,_,hr,hy,hS,H=>by
  refine⟨λh=>(by rw[h]at hr;cases hr),λj hj=>?_⟩
  by_cases Px:j=i
  .subst Px;exact hy.wpOp hi hS ⟨λ_=>hS,H⟩
  .have:=ready_mono hj Px;rw[H.1]at this
   cases this
 |n+1,c,a,w,hfree,hr,hy,hS,H=>by
  refine⟨λh=>(by rw[h]at hr;cases hr),λj hj=>?_⟩
  by_cases Px:j=i
  .subst Px;exact hy.wpOp hi hS ⟨λ_=>hS,H⟩
  .obtain⟨hun,oj,hoj,ny⟩:=mem_ready.1 hj;have hnot:∀e∈oj.after,Region.binds md e=true->e.on≠i:=λe he hb heq=>by
    have h1:=ny e he hb;have h0:=(mem_ready.1 hr).1;rw[heq]at h1
    rcases eR i c.size with h'|h'
    .simp[h']at h0 h1;rw[h0]at h1;cases h1
    .simp[RJ h']at h1
   have hjL:j≠L:=λe=>by
    obtain⟨o,x,x1,x2,x3,x4⟩:=M8 hL;rw[<-e,hoj]at x1;injection x1 with x1
    subst x1;exact hnot x x2 x3 x4
   refine wpOp_mono (λa' w' x=>?_) (wpOp_putIf hoj (hfree j oj hoj Px hun hnot) (λcs b=>hsel i oi cs b hi) (λcs b=>hsel j oj cs b hoj) hQ hy (H.2 j (ready_mono hj Px)));obtain⟨x1,x2,x3⟩:=x;refine⟨λ_=>x2 hjL,DS hi hsel hQ hL n _ a' w' (λk ok hk hki hu Pz=>hfree k ok hk hki ?_ Pz) (ready_mono hr (Ne.symm Px)) x1 (x2 hjL) ?_⟩
   .by_cases hjk:j=k
    .subst hjk;exact hun
    .rw[getD_set_ne true hjk]at hu;exact hu
   .rw[Array.setIfInBounds_comm _ _ Px];exact x3
theorem jG{l:List (Nat×Nat)}{d:Nat}{x1 x2 x3 x4 x5}{c:Array Bool}{a a':Act}(h:Zpl l (Rm P md ops Q S L n (c.setIfInBounds i true) a' w))
 (hi:ops[i]?=some ⟨some d,x1,x2,x3,x4,x5⟩:=by rfl)
 (hb:(Region.noSelect ops && (Region.free md ops c i && ((Region.ready md ops c).contains i && (Region.wanted ⟨some d,x1,x2,x3,x4,x5⟩ (yielded ops a.tmps) && F0 md ops L i))))=true:=by kernel_rfl)
 (hQ:∀c a w,Q (.panic c) (a.put (some d) v) w->Q (.panic c) a w:=by exact λ_ _ _ h=>h)(hS:S w:=by assumption)
 (y:∀w,S w->(execOp a.eval ⟨some d,x1,x2,x3,x4,x5⟩).run P w=.ok (.value v) w:=by intro w hS;(try dsimp only at hS);go_simp;try with_reducible rfl)
 (ha:a.put (some d) v=a':=by simp only[Act.put,pa,pb,pc];exact rfl):Zpl ((i,d)::l) (Rm P md ops Q S L (n+1) c a w):=by
 subst ha;simp only[im]at hb;obtain⟨b1,b2,b3,b4,b5⟩:=hb;exact DS hi (Region.noSelect_spec b1) hQ b5 n c a w (Region.free_spec hi b2) (by simpa using b3) (.inl ⟨b4,y⟩) hS h
def gU(P:Program)(md:Region.Mode)(ops:Array Oper)(Q:Exit->Act->World->Prop)(S:World->Prop)(L n:Nat)(c:Array Bool)(a:Act)(w:World)(rs:List Nat):Prop:=
 ∀i∈rs,wpOp P ops Q i (λa' w'=>(i≠L->S w')/\Rm P md ops Q S L n (c.setIfInBounds i true) a' w') a w
theorem gU.nil{c:Array Bool}{a:Act} :gU P md ops Q S L n c a w []:=λ_ h=>by cases h
theorem gU.cons{c:Array Bool}{a:Act}{o:Oper} 
 (h:∀K':Act->World->Prop,Shut (∀a w,(i≠L->S w)->((i≠L->S w)->Rm P md ops Q S L n (c.setIfInBounds i true) a w)->K' a w)->if Region.wanted o (yielded ops a.tmps)=true then Oper.wp P o a w K' Q else K' (a.put o.dst undef) w)
 (hs:gU P md ops Q S L n c a w rs)(ho:ops[i]?=some o:=by rfl):gU P md ops Q S L n c a w (i::rs):=λj hj=>by
 rcases an.1 hj with rfl|hj
 .exact wpOp_step ho (λK' hK=>h K' (λa w hS hW=>hK a w ⟨hS,hW hS⟩))
 .exact hs j hj
theorem n9{c:Array Bool}{a:Act}(hr:Region.ready md ops c=rs)(ff:rs≠[])(h:gU P md ops Q S L n c a w rs):Rm P md ops Q S L (n+1) c a w:=⟨λh0=>absurd (hr▸h0) ff,hr▸h⟩
theorem cC{c:Array Bool}{a:Act}(i:Nat){o:Oper}
 (h:∀K':Act->World->Prop,Shut (∀a w,(i≠L->S w)->((i≠L->S w)->Rm P md ops Q S L n (c.setIfInBounds i true) a w)->K' a w)->if Region.wanted o (yielded ops a.tmps)=true then Oper.wp P o a w K' Q else K' (a.put o.dst undef) w)
 (hr:Region.ready md ops c=[i]:=by kernel_rfl)(ho:ops[i]?=some o:=by rfl):Rm P md ops Q S L (n+1) c a w:=n9 hr (by simp) (gU.cons h gU.nil ho)
theorem mO{c:Array Bool}{a:Act}(hr:Region.ready md ops c=[])(h:Q .normal a w):∀n,Rm P md ops Q S L n c a w
 |0=>⟨hr,h⟩
 |_+1=>⟨λ_=>h,by rw[hr];simp⟩
theorem tu{id:Nat}{a:Act}(L:Nat)(hm:P.follows .mixedOrders=true)(hS:S w.drew)
 (h:S w.drew->Rm P .any ops Q S L ops.size (Array.replicate ops.size false) a w.drew):(Code.region id ops true).wp P Q a w:=wp_region_any hm (Ox _ _ _ _ (h hS))
end
attribute [local go_sem ↓] Go.wp_at_zero Go.wp_at_succ bz
variable{w:World}{v:Value}{n mb c:Nat}{l:List PR}{A V:Option Addr}
theorem qG{l:List Value}(S:aT w 42 2 v n l)(B:Option Addr)(m c:Nat)(lx:List Value)(hl:lx.length=m*2)
 (hs:m=0\/∃a,B=some a/\∀j u,lx[j]?=some u->w.cell? (a.add j)=some u)(h1:∀u∈lx,u.oneCell'=true)(hn:n+m<=4000000):
  ∃v' w',dP prog 30 30 w v (.slice B m c)= .ok v' w'/\aT w' 42 2 v' (n+m) (l++lx)/\ag (ai v) w w'/\(∀g∈ai v',g∈ai v\/w.heap.size<=g):=by
 obtain⟨i0,hi,kx,ju,kg⟩:=info_parts pk;have ht:prog.underlying 30=some (.slice 42):=underlying30
 cases B with
 |some a=>
  have hs':∀j u,lx[j]?=some u->w.cell? (a.add j)=some u:=by
   rcases hs with rfl|⟨a',e,h⟩
   .intro j u hj;have:lx=[]:=lK (by omega);rw[this]at hj;simp at hj
   .injection e with e;subst e;exact h
  exact dk (P:=prog) S 30 30 i0 _ 32 ht hi kx ju kg rfl (by omega) a m c lx hl hs' h1 (by unfold maxLen;omega) (by omega)
 |none=>
  have hm:m=0:=hs.elim id λ⟨a,e,_⟩=>by cases e
  subst hm;have hlx:lx=[]:=lK (by omega);subst hlx;refine⟨v,w,?_,by rw[iJ];exact S,ag.refl _ _,λx hx=> .inl hx⟩;unfold dP
  rcases S.2 with⟨rfl,h0⟩|⟨g,cap,rest,rfl,BB,hc,hm⟩
  .simp[Builtin.append_,run_underlying ht,sizeOf,typeInfo,hi,Builtin.lenOf,Builtin.firstCells]
  .have hl:=S.1;have Gq:n<=cap:=by omega
   simp[Builtin.append_,run_underlying ht,sizeOf,typeInfo,hi,Builtin.lenOf,Builtin.firstCells,Gq,storeCells]
theorem Mp.len(h:Mp w mb (.slice A n c) l):l.length=n:=by
 obtain⟨A',c',e⟩:=au h.s;injection e with _ e _
 exact e.symm
theorem rD(l:List PR):∀u∈ku l,u.oneCell'=true:=λu hu=>by
 unfold ku at hu;obtain⟨x,_,hx⟩:=mU.1 hu;simp only[an,gX,or_false]at hx
 rcases hx with rfl|rfl<;>rfl
theorem Jh(l:List PR)(i:Nat):ku (l.take i)=(ku l).take (i*2):=by
 induction l generalizing i with
 |nil=>simp[ku]
 |cons x l ih=>
  cases i with
  |zero=>simp[ku]
  |succ i=>
   have:=ih i;unfold ku at this ⊢;rw[ox,gW,gW,this,show(i+1)*2=i*2+1+1 by omega];rfl
theorem Ji(l:List PR)(i:Nat):ku (l.drop i)=(ku l).drop (i*2):=by
 induction l generalizing i with
 |nil=>simp[ku]
 |cons x l ih=>
  cases i with
  |zero=>simp
  |succ i=>
   have:=ih i;unfold ku at this ⊢;rw[DY,gW,this,show(i+1)*2=i*2+1+1 by omega];rfl
def Oy(l:List PR)(key value:ByteArray):List PR:=if 32<key.size\/1024<value.size then l else l.take (pC l key)++(key,value)::l.drop (if tJ l key=true then pC l key+1 else pC l key)
def Jj(l:List PR)(key:ByteArray):List PR:=if tJ l key=true then l.take (pC l key)++l.drop (pC l key+1)else l
theorem Wr(h:Mp w mb v l)(key:ByteArray):
  Calls prog 55 #[.pointer (some ⟨mb,0,none⟩),.string key] w λe w'=>e=.returned (.int .i64 (if tJ l key=true then 0 else 9))/\∃v',Mp w' mb v' (Jj l key)/\ag [mb] w w':=by
 have KA:=xh (FY h key);unfold Jj
 cases hb:tJ l key with
 |false=>
  rw[hb]at KA;rw[if_neg (by simp),if_neg (by simp)];have HM:=xh h;clear h hb;go_enter func55,ntmps55;go_wp2_with fail;refine KA.o.mono ?_;rintro e w1 ⟨rfl,bf⟩;have O1:=xh bf;clear bf;go_wp2_with fail;go_ret;exact aE ⟨v,HM.o.below O1.o,.aj O1.o⟩
 |true=>
  rw[hb]at KA;rw[if_pos rfl,if_pos rfl];obtain⟨x,hx⟩:∃x,l[pC l key]?=some x:=by
   cases hx:l[pC l key]? with
   |none=>unfold tJ at hb;rw[hx]at hb;cases hb
   |some x=>exact⟨x,rfl⟩
  obtain⟨k,hk⟩:∃k,pC l key=k:=⟨_,rfl⟩;rw[hk]at KA hx ⊢;have dH:=(aS.1 hx).1;have hn:=h.n;obtain⟨g,c,hv,_,_⟩:=h.at k x hx;subst hv;have HM:=xh h;obtain⟨rest,BB,hc,_,tC⟩:=h.s.tx;rw[eh]at hc;obtain⟨ln,mR⟩:∃ln,l.length=ln:=⟨_,rfl⟩;have tE:=xh mR;rw[mR]at dH hn hc;have LA:ln<=c:=by omega
  have s1:k<=c:=by omega
  have s2:(k:Int)<=(c:Int):=by omega
  have s3:(k:Int)+1<=(ln:Int):=by omega
  have s4:(ln:Int)<=(c:Int):=by omega
  have s5:(k:Int)+1<=(c:Int):=by omega
  have s6:(0:Int)<=(k:Int)+1:=by omega
  have s7:((k:Int)+1).toNat=k+1:=by omega
  have s8:IntKind.i64.wrap ((k:Int)+1)=(k:Int)+1:=IntWalk.i64_in _ (by omega);have s9:k+1<=ln:=dH;have s10:k+1<=c:=by omega
  rw[mR]at HM;have HHL:=xh dH;have HHC:=xh LA;have HHN:=xh hn;have BB:=xh BB
  replace hc:=xh hc
  have T1:=xh (show(l.take k).length=k from by rw[bm,mR];omega);have T2:=xh (show(l.drop (k+1)).length=ln-(k+1)from by rw[cO,mR]);clear h hb hx hk mR;obtain⟨b9,hb9⟩:∃b:Prop,b=(c=k+1):=⟨_,rfl⟩;go_enter func55,ntmps55;go_wp2_with fail;refine KA.o.mono ?_;rintro e w1 ⟨rfl,bf⟩;have O1:=xh bf;have x0:=(HM.o.below bf).b.ab (i:=0) rfl;clear bf;go_wp2_with fail
  have HR:=xh (show ∃B':Option Addr,∃m',(if c=k+1 then some (⟨g,0,none⟩:Addr)else some ⟨g,(k+1)*2,none⟩)=B'/\True from⟨_,0,rfl,trivial⟩);refine tu (S:=λW=>W.cell? ⟨mb,0,none⟩=some (.slice (some ⟨g,0,none⟩) ln c)) 19 (by kernel_rfl) (x0) (λah=>?_);refine bM [(0,15),(2,17),(3,18),(4,19),(5,20),(6,21),(7,22),(9,24),(10,25),(11,26),(12,27),(13,28),(14,29),(15,30)] ?_
  iterate 14 refine jG ?_
  refine cC 1 λK hK=>?_;go_simp;have hh:=O1.o.size;have N0:=aJ.new w1 42 #[];have S0:aT (w1.alloc (.cells #[] 42)).drew 42 2 (.slice (some ⟨w1.heap.size,0,none⟩) 0 0) 0 []:=⟨rfl,.inr ⟨w1.heap.size,0,[],rfl,N0.drew,rfl,by unfold maxLen;omega⟩⟩;have B1:=xh (((BB.o.below O1.o BB.o.lt).alloc (.cells #[] 42)).drew);have M1:=xh ((((HM.o.below O1.o).b).alloc (.cells #[] 42)).drew);have OA:=xh (((ag.aj (S:=[mb]) O1.o).alloc (.cells #[] 42)).drew)
  have y0:=M1.o.ab (i:=0) rfl;obtain⟨v2,w2,ea,S2,o2,f2⟩:=qG S0 (some ⟨g,0,none⟩) k c (ku (l.take k)) (by rw[eh,T1.o])
   (.inr ⟨_,rfl,bq B1.o 0 _ (λj u hj=>by
    rw[Jh,pM]at hj
    split at hj
    .rw[bg,bF (aS.1 hj).1];exact hj
    .cases hj)⟩) (rD _) (by have:=HHL.o;have:=HHN.o;omega)
  rw[bg,cW]at S2;obtain⟨V2,c2,rfl⟩:=au S2;have hg2:g∉ai (.slice (some ⟨w1.heap.size,0,none⟩) 0 0):=by
   have:=(BB.o.below O1.o BB.o.lt).lt;simp[ai];omega
  have Kc:mb∉ai (.slice (some ⟨w1.heap.size,0,none⟩) 0 0):=by
   have:=(HM.o.below O1.o).b.lt;simp[ai];omega
  have B2:=xh (B1.o.only o2 hg2);have M2:=xh (M1.o.only o2 Kc);have O2:=xh (OA.o.aO o2 (λx hx dH=>by have:=O1.o.size;simp[ai]at hx;omega));have hgB:=BB.o.lt;have hmB:=HM.o.b.lt;have F2:=xh (show ∀x∈ai (.slice V2 k c2),w.heap.size<=x from λx hx=>(f2 x hx).elim (λh=>by simp[ai]at h;omega) (λh=>by have e:(w1.alloc (.cells #[] 42)).drew.heap.size=w1.heap.size+1:=(by simp);omega));have EA:=xh ea;have y2:=M2.o.ab (i:=0) rfl
  obtain⟨v3,w3,Oz,S3,o3,f3⟩:=qG S2 (if c=k+1 then some ⟨g,0,none⟩else some ⟨g,(k+1)*2,none⟩) (ln-(k+1)) (c-(k+1)) (ku (l.drop (k+1))) (by rw[eh,T2.o])
   (by
    by_cases Gl:c=k+1
    .left;have:=HHL.o;have:=HHC.o;omega
    .right;rw[if_neg Gl];refine⟨_,rfl,bq B2.o _ _ (λj u hj=>?_)⟩;rw[Ji,gI]at hj;rw[bF (aS.1 hj).1];exact hj) (rD _) (by have:=HHL.o;have:=HHN.o;omega)
  obtain⟨m3,hm3⟩:∃m3,(l.take k++l.drop (k+1)).length=m3:=⟨_,rfl⟩;rw[show k+(ln-(k+1))=(l.take k++l.drop (k+1)).length by rw[aU,T1.o,T2.o],<-ng,hm3]at S3;have HM3:=xh hm3;clear hm3;obtain⟨V3,c3,rfl⟩:=au S3;have hm3:mb∉ai (.slice V2 k c2):=λh=>by have:=F2.o _ h;omega
  have M3:=xh (M2.o.only o3 hm3);have O3:=xh (O2.o.aO o3 (λx hx dH=>by have:=F2.o _ hx;omega));have EA3:=xh Oz;have S3:=xh S3;have F3:=xh (show ∀x∈ai (.slice V3 m3 c3),w.heap.size<=x from λx hx=>(f3 x hx).elim (F2.o x) (λh=>by have:=O2.o.size;omega));have y3:=M3.o.ab (i:=0) rfl;have z3:=M3.o.frozen 0 (by simp);clear ea Oz S2 S0 N0 o2 o3 f2 f3 hg2 Kc hm3 hgB hmB hh;refine aA hK (λ_=>y0) (λah=>?_)
  refine cC 8 λK hK=>?_;go_simp;rw[EA.o];go_simp;refine aA hK (λ_=>y2) (λah=>?_);refine cC 16 λK hK=>?_;go_simp;rw[EA3.o];go_simp;refine aA hK (λ_=>y3) (λah=>?_);refine cC 17 λK hK=>?_;go_simp;refine aA hK (λ_=>y3) (λah=>?_);refine bM [(18,33)] ?_
  iterate 1 refine jG ?_
  refine cC 19 λK hK=>?_;go_simp;refine aA hK (λh=>absurd rfl h) (λah=>?_);refine mO (by kernel_rfl) ?_ _;generalize (if c=k+1 then some (⟨g,0,none⟩:Addr)else some ⟨g,(k+1)*2,none⟩)=B9;have MF:=xh (M3.o.bE 0 (.slice V3 m3 c3));have OF:=xh (O3.o.setCell (p:=⟨mb,0,none⟩) (λ_=>by simp) (.slice V3 m3 c3))
  have SF:=xh (S3.o.only (S:=[mb]) ((ag.refl _ _).setCell (p:=⟨mb,0,none⟩) (λ_=>by simp) (.slice V3 m3 c3)) (λx hx hm=>by have:=F3.o x hx;have:=HM.o.b.lt;simp at hm;omega));go_wp2_with fail;go_ret;have HN:=HM.o.n;exact aE ⟨_,⟨MF.o,by rw[HM3.o];exact SF.o,by rw[aU,T1.o,T2.o];have:=HHL.o;have:=HHN.o;omega⟩,OF.o⟩
structure MS(w W:World)(mb:Nat)(A:Option Addr)(ln c:Nat)(l:List PR)(key value:ByteArray)(k:Nat)(ze pe:Option Nat)(ve:Option Value):Prop where
 h:Mp W mb (.slice A ln c) l
 o:ag [mb] w W
 s:∀g∈ai (.slice A ln c),g<w.heap.size
 b:mb<w.heap.size
 z:∀b,ze=some b->aT W 42 2 (.slice (some ⟨b,0,none⟩) 0 0) 0 []/\w.heap.size<=b/\∀p,pe=some p->b≠p
 p:∀p,pe=some p->aJ W p 42 #[.string key,.string value]/\w.heap.size<=p
 v:∀V,ve=some V->aT W 42 2 V k (ku (l.take k))/\∀g∈ai V,w.heap.size<=g
section
variable{w W:World}{mb:Nat}{A:Option Addr}{ln c:Nat}{l:List PR}{key value:ByteArray}{k:Nat}{ze pe:Option Nat}{ve:Option Value}
theorem MS.m0(H:MS w W mb A ln c l key value k ze pe ve):W.cell? ⟨mb,0,none⟩=some (.slice A ln c):=H.h.b.ab (i:=0) rfl
theorem MS.below(H:MS w W mb A ln c l key value k ze pe ve){W':World}(hb:Below W.heap.size W W'):MS w W' mb A ln c l key value k ze pe ve:=
 ⟨H.h.below hb,H.o.trans (.aj hb),H.s,H.b,λb h=>⟨(H.z b h).1.below hb,(H.z b h).2⟩,λp h=>⟨(H.p p h).1.below hb (H.p p h).1.lt,(H.p p h).2⟩,λV h=>⟨(H.v V h).1.below hb,(H.v V h).2⟩⟩
theorem MS.drew(H:MS w W mb A ln c l key value k ze pe ve):MS w W.drew mb A ln c l key value k ze pe ve:=H.below (Below.refl _ _).drew
theorem MS.zero(H:MS w W mb A ln c l key value k none pe ve):MS w (W.alloc (.cells #[] 42)) mb A ln c l key value k (some W.heap.size) pe ve:=by
 have H':=H.below (ae (Below.refl _ _) (.cells #[] 42));refine⟨H'.h,H'.o,H'.s,H'.b,λb hb=>?_,H'.p,H'.v⟩;injection hb with hb
 subst hb;exact⟨⟨rfl,.inr ⟨_,0,[],rfl,aJ.new W _ #[],rfl,by unfold maxLen;omega⟩⟩,H.o.size,λp hp e=>by have:=(H.p p hp).1.lt;omega⟩
theorem MS.one(H:MS w W mb A ln c l key value k ze none ve):MS w (W.alloc (.cells #[.string key,.string value] 42)) mb A ln c l key value k ze (some W.heap.size) ve:=by
 have H':=H.below (ae (Below.refl _ _) (.cells #[.string key,.string value] 42));refine⟨H'.h,H'.o,H'.s,H'.b,λb hb=>⟨(H'.z b hb).1,(H'.z b hb).2.1,λp hp e=>?_⟩,λp hp=>?_,H'.v⟩
 .injection hp with hp
  have:=(H.z b hb).1.lt b (by simp[ai]);omega
 .injection hp with hp
  subst hp;exact⟨aJ.new W _ _,H.o.size⟩
theorem MS.app{b:Nat}(H:MS w W mb A ln c l key value k (some b) pe none)(hk:k<=ln)(hn:ln<=1000000):
  ∃V c2 W',dP prog 30 30 W (.slice (some ⟨b,0,none⟩) 0 0) (.slice A k c)= .ok (.slice V k c2) W'/\MS w W' mb A ln c l key value k none pe (some (.slice V k c2)):=by
 obtain⟨S0,hb,hbp⟩:=H.z b rfl;have hl:l.length=ln:=by have:=H.h.s.1;rw[eh]at this;have:=H.h.len;omega
 have ht:(l.take k).length=k:=by rw[bm];omega
 obtain⟨v2,w2,ea,S2,o2,f2⟩:=qG S0 A k c (ku (l.take k)) (by rw[eh,ht]) (by
  rcases H.h.s.2 with⟨hv,h0⟩|⟨g,cap,rest,hv,B,_⟩
  .left;omega
  .right;simp only[Value.slice.injEq]at hv;refine⟨_,hv.1,bq B 0 _ (λj u hj=>?_)⟩;rw[Jh,pM]at hj
   split at hj
   .rw[bg,bF (aS.1 hj).1];exact hj
   .cases hj) (rD _) (by omega)
 rw[bg,cW]at S2;obtain⟨V2,c2,rfl⟩:=au S2;have hd:∀x∈ai (.slice (some ⟨b,0,none⟩) 0 0),x=b:=λx hx=>by simpa [ai]using hx
 have hs:∀g∈ai (.slice A ln c),g∉ai (.slice (some ⟨b,0,none⟩) 0 0):=λg hg hx=>by have:=hd g hx;have:=H.s g hg;omega
 refine⟨V2,c2,w2,ea,⟨⟨H.h.b.only o2 (λhx=>by have:=hd _ hx;have:=H.b;omega),H.h.s.only o2 hs,H.h.n⟩,H.o.aO o2 (λx hx dH=>by have:=hd x hx;omega),H.s,H.b,(λ_ h=>by cases h),λp hp=>⟨(H.p p hp).1.only o2 (λhx=>hbp p hp (hd p hx).symm),(H.p p hp).2⟩,λV hV=>?_⟩⟩;injection hV with hV
 subst hV;exact⟨S2,λg hg=>(f2 g hg).elim (λh=>by have:=hd g h;omega) (λh=>ar H.o.size h)⟩
theorem MS.Rn{c2 p:Nat}(H:MS w W mb A ln c l key value k none (some p) (some (.slice V k c2)))(hk:k<=1000000):
  ∃V' c' W',dP prog 30 30 W (.slice V k c2) (.slice (some ⟨p,0,none⟩) 1 1)= .ok (.slice V' (k+1) c') W'/\Mp W' mb (.slice A ln c) l/\ag [mb] w W'/\aT W' 42 2 (.slice V' (k+1) c') (k+1) (ku (l.take k++[(key,value)]))/\∀g∈ai (.slice V' (k+1) c'),w.heap.size<=g:=by
 obtain⟨S2,f2⟩:=H.v _ rfl;obtain⟨v3,w3,ea,S3,o3,f3⟩:=qG S2 (some ⟨p,0,none⟩) 1 1 [.string key,.string value] rfl (.inr ⟨_,rfl,bq (H.p p rfl).1 0 _ (λj u hj=>by rw[bg];exact hj)⟩) (by simp;exact⟨rfl,rfl⟩) (by omega);obtain⟨V3,c3,rfl⟩:=au S3
 refine⟨V3,c3,w3,ea,⟨H.h.b.only o3 (λhx=>by have:=f2 _ hx;have:=H.b;omega),H.h.s.only o3 (λg hg hx=>by have:=f2 g hx;have:=H.s g hg;omega),H.h.n⟩,H.o.aO o3 (λx hx dH=>by have:=f2 x hx;omega),?_,λg hg=>(f3 g hg).elim (f2 g) (λh=>ar H.o.size h)⟩;rw[ng];exact S3
end
theorem rE{W:World}{ln:Nat}{k c':Nat}{L:List PR}(M:Mp W mb (.slice A ln c) l)(S:aT W 42 2 (.slice V k c') k (ku L))(f:∀g∈ai (.slice V k c'),w.heap.size<=g)(o:ag [mb] w W)
 (hs:∀g∈ai (.slice A ln c),g<w.heap.size)(hb:mb<w.heap.size)(e:Nat)(he:e<=ln)(hn:ln<=1000000)(hk:k<=1000001)(B:Option Addr)(hB:e<c->∀g,A=some ⟨g,0,none⟩->B=some ⟨g,e*2,none⟩):
  ∃V' m c2 W',dP prog 30 30 W (.slice V k c') (.slice B (ln-e) (c-e))= .ok (.slice V' m c2) W'/\Mp W' mb (.slice A ln c) l/\ag [mb] w W'/\aT W' 42 2 (.slice V' m c2) (L++l.drop e).length (ku (L++l.drop e))/\∀g∈ai (.slice V' m c2),w.heap.size<=g:=by
 have hl:l.length=ln:=M.len;have hL:L.length=k:=by have:=S.1;rw[eh]at this;omega
 obtain⟨v3,w3,ea,S3,o3,f3⟩:=qG S B (ln-e) (c-e) (ku (l.drop e)) (by rw[eh,cO,hl]) (by
  rcases M.s.2 with⟨hv,h0⟩|⟨g,cap,rest,hv,BB,hc,_⟩
  .left;omega
  .simp only[Value.slice.injEq]at hv;obtain⟨h1,_,h3⟩:=hv;rw[eh]at hc
   by_cases hec:e<c
   .right;refine⟨_,hB hec g h1,bq BB _ _ (λj u hj=>?_)⟩;rw[Ji,gI]at hj;rw[bF (aS.1 hj).1];exact hj
   .left;omega) (rD _) (by omega)
 obtain⟨V3,c3,rfl⟩:=au S3;refine⟨V3,_,c3,w3,ea,⟨M.b.only o3 (λhx=>by have:=f _ hx;omega),M.s.only o3 (λg hg hx=>by have:=f g hx;have:=hs g hg;omega),M.n⟩,o.aO o3 (λx hx dH=>by have:=f x hx;omega),?_,λg hg=>(f3 g hg).elim (f g) (λh=>ar o.size h)⟩;rw[ng,show(L++l.drop e).length=k+(ln-e) by rw[aU,hL,cO,hl]];exact S3
theorem Ws(h:Mp w mb v l)(key value:ByteArray)(hl:l.length<1000000)(h1:key.size<=1000000)(h2:value.size<=1000000):
  Calls prog 54 #[.pointer (some ⟨mb,0,none⟩),.string key,.string value] w λe w'=>e=.returned (.int .i64 (if 32<key.size\/1024<value.size then 4 else 0))/\∃v',Mp w' mb v' (Oy l key value)/\ag [mb] w w':=by
 unfold Oy;have HM:=xh h
 by_cases hk:32<key.size
 .rw[if_pos (.inl hk),if_pos (.inl hk)];have Kh:(32:Int)<(key.size:Int):=by omega
  clear h;go_enter func54,ntmps54;go_wp2_with fail;go_ret
  first|exact aE ⟨v,HM.o,ag.refl _ _⟩|exact aE ⟨⟨v,HM.o⟩,ag.refl _ _⟩
 have Kh:¬(32:Int)<(key.size:Int):=by omega
 by_cases hv:1024<value.size
 .rw[if_pos (.inr hv),if_pos (.inr hv)];have hvI:(1024:Int)<(value.size:Int):=by omega
  clear h;go_enter func54,ntmps54;go_wp2_with fail;go_ret
  first|exact aE ⟨v,HM.o,ag.refl _ _⟩|exact aE ⟨⟨v,HM.o⟩,ag.refl _ _⟩
 have hvI:¬(1024:Int)<(value.size:Int):=by omega
 rw[if_neg (by omega),if_neg (by omega)];have KA:=xh (FY h key);obtain⟨A,c,rfl⟩:=au h.s;have hle:=MZ key l;have hlen:=h.len;obtain⟨ln,mR⟩:∃ln,l.length=ln:=⟨_,rfl⟩;rw[mR]at hle hl HM;have tE:=xh mR;have hcc:ln<=c:=by
  rcases h.s.2 with⟨hv,h0⟩|⟨g,cap,rest,hv,_,hc,_⟩
  .omega
  .simp only[Value.slice.injEq]at hv;rw[eh]at hc;omega
 obtain⟨e,he⟩:∃e,(if tJ l key=true then pC l key+1 else pC l key)=e:=⟨_,rfl⟩;have hel:e<=ln:=by
  rw[<-he]
  split
  .rename_i hb;unfold tJ at hb
   cases hx:l[pC l key]? with
   |none=>rw[hx]at hb;cases hb
   |some x=>have:=(aS.1 hx).1;omega
  .exact hle
 rw[he];obtain⟨k,hk'⟩:∃k,pC l key=k:=⟨_,rfl⟩;rw[hk']at KA hle he ⊢;have s1:k<=c:=by omega
 have s2:(k:Int)<=(c:Int):=by omega
 have s3:(e:Int)<=(ln:Int):=by omega
 have s4:(ln:Int)<=(c:Int):=by omega
 have s5:(e:Int)<=(c:Int):=by omega
 have s9:e<=ln:=hel;have s10:e<=c:=by omega
 have HH:=xh (show k<=ln/\e<=ln/\ln<1000000 from⟨hle,hel,hl⟩);have HHC:=xh hcc;have Gn:=xh h.s.lt;have Gm:=xh h.b.lt;rw[mR]at Gn
 cases hb:tJ l key
 .rw[hb]at KA he;rw[if_neg (by simp)]at he;have s8:IntKind.i64.wrap ((k:Int)+1)=(k:Int)+1:=IntWalk.i64_in _ (by omega);subst he
  push_cast at s3 s5
  have s6:(0:Int)<=(k:Int)+1:=by omega
  have s7:((k:Int)+1).toNat=k+1:=by omega
  clear h hb hk' mR hlen hle hel hcc hl hk hv;go_enter func54,ntmps54;go_wp2_with fail;refine KA.o.mono ?_;rintro e w1 ⟨rfl,bf⟩;have H0:=xh (show MS w w1 mb A ln c l key value k none none none from⟨HM.o.below bf,.aj bf,Gn.o,Gm.o,(λ_ h=>by cases h),(λ_ h=>by cases h),(λ_ h=>by cases h)⟩);clear bf;go_wp2_with fail;refine tu (S:=λW=>W.cell? ⟨mb,0,none⟩=some (.slice A ln c)) 23 (by kernel_rfl) (H0.o.drew.m0) (λah=>?_)
  refine bM [(0,28),(2,30),(3,31),(4,32),(5,33),(6,34),(7,35),(9,37),(10,38),(11,39),(14,42),(15,43),(16,44),(17,45),(18,46),(19,47)] ?_
  iterate 16 refine jG ?_
  refine n9 (rs:=[1,12]) (by kernel_rfl) (by simp) ?_;refine gU.cons (λK hK=>?_) (gU.cons (λK hK=>?_) gU.nil)
  .skip
   have H1:=xh H0.o.zero;go_simp;refine aA hK (λ_=>H1.o.drew.m0) (λah=>?_);refine n9 (rs:=[8,12]) (by kernel_rfl) (by simp) ?_;refine gU.cons (λK hK=>?_) (gU.cons (λK hK=>?_) gU.nil)
   .skip
    obtain⟨V2,c2,w2,ea,hq⟩:=H1.o.drew.app HH.o.1 (by have:=HH.o;omega)
    try simp only[jD]at ea
    have H2:=xh hq;clear hq;go_simp;clear ea;refine aA hK (λ_=>H2.o.m0) (λah=>?_);refine cC 12 λK hK=>?_;have H3:=xh H2.o.one;go_simp;refine aA hK (λ_=>H3.o.m0) (λah=>?_);obtain⟨V3,c3,w3,Oz,M3,o3,S3,f3⟩:=H3.o.Rn (by have:=HH.o;omega)
    try simp only[jD]at Oz
    have y3:=M3.b.ab (i:=0) rfl;obtain⟨V4,m4,c4,w4,ea4,M4,o4,S4,f4⟩:=rE M3 S3 f3 o3 Gn.o Gm.o k HH.o.2.1 (by have:=HH.o;omega) (by have:=HH.o;omega) (if c=k then A else Option.map (λx=>x.add (k*2)) A) (λhc g hg=>by rw[if_neg (by omega),hg];exact congrArg some (show(⟨g,0,none⟩:Addr).add (k*2)=_ from by rw[Nd.fe,bg]));have y4:=M4.b.ab (i:=0) rfl;have z4:=M4.b.frozen 0 (by simp);have M4:=xh M4;have o4:=xh o4;have S4:=xh S4
    have f4:=xh f4;clear M3 S3 f3 o3;refine cC 13 λK hK=>?_;go_simp;refine aA hK (λ_=>y3) (λah=>?_);refine cC 20 λK hK=>?_;go_simp;refine aA hK (λ_=>y4) (λah=>?_);refine cC 21 λK hK=>?_;go_simp;refine aA hK (λ_=>y4) (λah=>?_);refine bM [(22,50)] ?_
    iterate 1 refine jG ?_
    refine cC 23 λK hK=>?_;go_simp;refine aA hK (λh=>absurd rfl h) (λah=>?_);refine mO (by kernel_rfl) ?_ _;have MF:=xh (M4.o.b.bE 0 (.slice V4 m4 c4));have OF:=xh (o4.o.setCell (p:=⟨mb,0,none⟩) (λ_=>by simp) (.slice V4 m4 c4));have SF:=xh (S4.o.only (S:=[mb]) ((ag.refl _ _).setCell (p:=⟨mb,0,none⟩) (λ_=>by simp) (.slice V4 m4 c4)) (λx hx hm=>by have:=f4.o x hx;have:=Gm.o;simp at hm;omega))
    generalize (if c=k then A else Option.map (λx=>x.add (k*2)) A)=B9;go_wp2_with fail;go_ret;have HN:=HM.o.n;have hq:=And.intro MF.o (And.intro SF.o OF.o);rw[cr]at hq;exact aE ⟨_,⟨hq.1,hq.2.1,by simp only[aU,bm,cO,fI,iq,tE.o];have:=HH.o;omega⟩,hq.2.2⟩
   .skip
    have H2:=xh H1.o.one;go_simp;refine aA hK (λ_=>H2.o.drew.m0) (λah=>?_);refine cC 8 λK hK=>?_;obtain⟨V2,c2,w2,ea,hq⟩:=H2.o.drew.app HH.o.1 (by have:=HH.o;omega)
    try simp only[jD]at ea
    have H3:=xh hq;clear hq;go_simp;clear ea;refine aA hK (λ_=>H3.o.m0) (λah=>?_);obtain⟨V3,c3,w3,Oz,M3,o3,S3,f3⟩:=H3.o.Rn (by have:=HH.o;omega)
    try simp only[jD]at Oz
    have y3:=M3.b.ab (i:=0) rfl;obtain⟨V4,m4,c4,w4,ea4,M4,o4,S4,f4⟩:=rE M3 S3 f3 o3 Gn.o Gm.o k HH.o.2.1 (by have:=HH.o;omega) (by have:=HH.o;omega) (if c=k then A else Option.map (λx=>x.add (k*2)) A) (λhc g hg=>by rw[if_neg (by omega),hg];exact congrArg some (show(⟨g,0,none⟩:Addr).add (k*2)=_ from by rw[Nd.fe,bg]));have y4:=M4.b.ab (i:=0) rfl;have z4:=M4.b.frozen 0 (by simp);have M4:=xh M4;have o4:=xh o4;have S4:=xh S4
    have f4:=xh f4;clear M3 S3 f3 o3;refine cC 13 λK hK=>?_;go_simp;refine aA hK (λ_=>y3) (λah=>?_);refine cC 20 λK hK=>?_;go_simp;refine aA hK (λ_=>y4) (λah=>?_);refine cC 21 λK hK=>?_;go_simp;refine aA hK (λ_=>y4) (λah=>?_);refine bM [(22,50)] ?_
    iterate 1 refine jG ?_
    refine cC 23 λK hK=>?_;go_simp;refine aA hK (λh=>absurd rfl h) (λah=>?_);refine mO (by kernel_rfl) ?_ _;have MF:=xh (M4.o.b.bE 0 (.slice V4 m4 c4));have OF:=xh (o4.o.setCell (p:=⟨mb,0,none⟩) (λ_=>by simp) (.slice V4 m4 c4));have SF:=xh (S4.o.only (S:=[mb]) ((ag.refl _ _).setCell (p:=⟨mb,0,none⟩) (λ_=>by simp) (.slice V4 m4 c4)) (λx hx hm=>by have:=f4.o x hx;have:=Gm.o;simp at hm;omega))
    generalize (if c=k then A else Option.map (λx=>x.add (k*2)) A)=B9;go_wp2_with fail;go_ret;have HN:=HM.o.n;have hq:=And.intro MF.o (And.intro SF.o OF.o);rw[cr]at hq;exact aE ⟨_,⟨hq.1,hq.2.1,by simp only[aU,bm,cO,fI,iq,tE.o];have:=HH.o;omega⟩,hq.2.2⟩
  .skip
   have H1:=xh H0.o.one;go_simp;refine aA hK (λ_=>H1.o.drew.m0) (λah=>?_);refine cC 1 λK hK=>?_;have H2:=xh H1.o.zero;go_simp;refine aA hK (λ_=>H2.o.drew.m0) (λah=>?_);refine cC 8 λK hK=>?_;obtain⟨V2,c2,w2,ea,hq⟩:=H2.o.drew.app HH.o.1 (by have:=HH.o;omega)
   try simp only[jD]at ea
   have H3:=xh hq;clear hq;go_simp;clear ea;refine aA hK (λ_=>H3.o.m0) (λah=>?_);obtain⟨V3,c3,w3,Oz,M3,o3,S3,f3⟩:=H3.o.Rn (by have:=HH.o;omega)
   try simp only[jD]at Oz
   have y3:=M3.b.ab (i:=0) rfl;obtain⟨V4,m4,c4,w4,ea4,M4,o4,S4,f4⟩:=rE M3 S3 f3 o3 Gn.o Gm.o k HH.o.2.1 (by have:=HH.o;omega) (by have:=HH.o;omega) (if c=k then A else Option.map (λx=>x.add (k*2)) A) (λhc g hg=>by rw[if_neg (by omega),hg];exact congrArg some (show(⟨g,0,none⟩:Addr).add (k*2)=_ from by rw[Nd.fe,bg]));have y4:=M4.b.ab (i:=0) rfl;have z4:=M4.b.frozen 0 (by simp);have M4:=xh M4;have o4:=xh o4;have S4:=xh S4
   have f4:=xh f4;clear M3 S3 f3 o3;refine cC 13 λK hK=>?_;go_simp;refine aA hK (λ_=>y3) (λah=>?_);refine cC 20 λK hK=>?_;go_simp;refine aA hK (λ_=>y4) (λah=>?_);refine cC 21 λK hK=>?_;go_simp;refine aA hK (λ_=>y4) (λah=>?_);refine bM [(22,50)] ?_
   iterate 1 refine jG ?_
   refine cC 23 λK hK=>?_;go_simp;refine aA hK (λh=>absurd rfl h) (λah=>?_);refine mO (by kernel_rfl) ?_ _;have MF:=xh (M4.o.b.bE 0 (.slice V4 m4 c4));have OF:=xh (o4.o.setCell (p:=⟨mb,0,none⟩) (λ_=>by simp) (.slice V4 m4 c4));have SF:=xh (S4.o.only (S:=[mb]) ((ag.refl _ _).setCell (p:=⟨mb,0,none⟩) (λ_=>by simp) (.slice V4 m4 c4)) (λx hx hm=>by have:=f4.o x hx;have:=Gm.o;simp at hm;omega))
   generalize (if c=k then A else Option.map (λx=>x.add (k*2)) A)=B9;go_wp2_with fail;go_ret;have HN:=HM.o.n;have hq:=And.intro MF.o (And.intro SF.o OF.o);rw[cr]at hq;exact aE ⟨_,⟨hq.1,hq.2.1,by simp only[aU,bm,cO,fI,iq,tE.o];have:=HH.o;omega⟩,hq.2.2⟩
 .rw[hb]at KA he;rw[if_pos rfl]at he;have s8:IntKind.i64.wrap ((k:Int)+1)=(k:Int)+1:=IntWalk.i64_in _ (by omega);subst he
  push_cast at s3 s5
  have s6:(0:Int)<=(k:Int)+1:=by omega
  have s7:((k:Int)+1).toNat=k+1:=by omega
  clear h hb hk' mR hlen hle hel hcc hl hk hv;go_enter func54,ntmps54;go_wp2_with fail;refine KA.o.mono ?_;rintro e w1 ⟨rfl,bf⟩;have H0:=xh (show MS w w1 mb A ln c l key value k none none none from⟨HM.o.below bf,.aj bf,Gn.o,Gm.o,(λ_ h=>by cases h),(λ_ h=>by cases h),(λ_ h=>by cases h)⟩);clear bf;go_wp2_with fail;refine tu (S:=λW=>W.cell? ⟨mb,0,none⟩=some (.slice A ln c)) 23 (by kernel_rfl) (H0.o.drew.m0) (λah=>?_)
  refine bM [(0,28),(2,30),(3,31),(4,32),(5,33),(6,34),(7,35),(9,37),(10,38),(11,39),(14,42),(15,43),(16,44),(17,45),(18,46),(19,47)] ?_
  iterate 16 refine jG ?_
  refine n9 (rs:=[1,12]) (by kernel_rfl) (by simp) ?_;refine gU.cons (λK hK=>?_) (gU.cons (λK hK=>?_) gU.nil)
  .skip
   have H1:=xh H0.o.zero;go_simp;refine aA hK (λ_=>H1.o.drew.m0) (λah=>?_);refine n9 (rs:=[8,12]) (by kernel_rfl) (by simp) ?_;refine gU.cons (λK hK=>?_) (gU.cons (λK hK=>?_) gU.nil)
   .skip
    obtain⟨V2,c2,w2,ea,hq⟩:=H1.o.drew.app HH.o.1 (by have:=HH.o;omega)
    try simp only[jD]at ea
    have H2:=xh hq;clear hq;go_simp;clear ea;refine aA hK (λ_=>H2.o.m0) (λah=>?_);refine cC 12 λK hK=>?_;have H3:=xh H2.o.one;go_simp;refine aA hK (λ_=>H3.o.m0) (λah=>?_);obtain⟨V3,c3,w3,Oz,M3,o3,S3,f3⟩:=H3.o.Rn (by have:=HH.o;omega)
    try simp only[jD]at Oz
    have y3:=M3.b.ab (i:=0) rfl;obtain⟨V4,m4,c4,w4,ea4,M4,o4,S4,f4⟩:=rE M3 S3 f3 o3 Gn.o Gm.o (k+1) HH.o.2.1 (by have:=HH.o;omega) (by have:=HH.o;omega) (if c=(k+1)then A else Option.map (λx=>x.add ((k+1)*2)) A) (λhc g hg=>by rw[if_neg (by omega),hg];exact congrArg some (show(⟨g,0,none⟩:Addr).add ((k+1)*2)=_ from by rw[Nd.fe,bg]));have y4:=M4.b.ab (i:=0) rfl;have z4:=M4.b.frozen 0 (by simp);have M4:=xh M4;have o4:=xh o4
    have S4:=xh S4;have f4:=xh f4;clear M3 S3 f3 o3;refine cC 13 λK hK=>?_;go_simp;refine aA hK (λ_=>y3) (λah=>?_);refine cC 20 λK hK=>?_;go_simp;refine aA hK (λ_=>y4) (λah=>?_);refine cC 21 λK hK=>?_;go_simp;refine aA hK (λ_=>y4) (λah=>?_);refine bM [(22,50)] ?_
    iterate 1 refine jG ?_
    refine cC 23 λK hK=>?_;go_simp;refine aA hK (λh=>absurd rfl h) (λah=>?_);refine mO (by kernel_rfl) ?_ _;have MF:=xh (M4.o.b.bE 0 (.slice V4 m4 c4));have OF:=xh (o4.o.setCell (p:=⟨mb,0,none⟩) (λ_=>by simp) (.slice V4 m4 c4));have SF:=xh (S4.o.only (S:=[mb]) ((ag.refl _ _).setCell (p:=⟨mb,0,none⟩) (λ_=>by simp) (.slice V4 m4 c4)) (λx hx hm=>by have:=f4.o x hx;have:=Gm.o;simp at hm;omega))
    generalize (if c=(k+1)then A else Option.map (λx=>x.add ((k+1)*2)) A)=B9;go_wp2_with fail;go_ret;have HN:=HM.o.n;have hq:=And.intro MF.o (And.intro SF.o OF.o);rw[cr]at hq;exact aE ⟨_,⟨hq.1,hq.2.1,by simp only[aU,bm,cO,fI,iq,tE.o];have:=HH.o;omega⟩,hq.2.2⟩
   .skip
    have H2:=xh H1.o.one;go_simp;refine aA hK (λ_=>H2.o.drew.m0) (λah=>?_);refine cC 8 λK hK=>?_;obtain⟨V2,c2,w2,ea,hq⟩:=H2.o.drew.app HH.o.1 (by have:=HH.o;omega)
    try simp only[jD]at ea
    have H3:=xh hq;clear hq;go_simp;clear ea;refine aA hK (λ_=>H3.o.m0) (λah=>?_);obtain⟨V3,c3,w3,Oz,M3,o3,S3,f3⟩:=H3.o.Rn (by have:=HH.o;omega)
    try simp only[jD]at Oz
    have y3:=M3.b.ab (i:=0) rfl;obtain⟨V4,m4,c4,w4,ea4,M4,o4,S4,f4⟩:=rE M3 S3 f3 o3 Gn.o Gm.o (k+1) HH.o.2.1 (by have:=HH.o;omega) (by have:=HH.o;omega) (if c=(k+1)then A else Option.map (λx=>x.add ((k+1)*2)) A) (λhc g hg=>by rw[if_neg (by omega),hg];exact congrArg some (show(⟨g,0,none⟩:Addr).add ((k+1)*2)=_ from by rw[Nd.fe,bg]));have y4:=M4.b.ab (i:=0) rfl;have z4:=M4.b.frozen 0 (by simp);have M4:=xh M4;have o4:=xh o4
    have S4:=xh S4;have f4:=xh f4;clear M3 S3 f3 o3;refine cC 13 λK hK=>?_;go_simp;refine aA hK (λ_=>y3) (λah=>?_);refine cC 20 λK hK=>?_;go_simp;refine aA hK (λ_=>y4) (λah=>?_);refine cC 21 λK hK=>?_;go_simp;refine aA hK (λ_=>y4) (λah=>?_);refine bM [(22,50)] ?_
    iterate 1 refine jG ?_
    refine cC 23 λK hK=>?_;go_simp;refine aA hK (λh=>absurd rfl h) (λah=>?_);refine mO (by kernel_rfl) ?_ _;have MF:=xh (M4.o.b.bE 0 (.slice V4 m4 c4));have OF:=xh (o4.o.setCell (p:=⟨mb,0,none⟩) (λ_=>by simp) (.slice V4 m4 c4));have SF:=xh (S4.o.only (S:=[mb]) ((ag.refl _ _).setCell (p:=⟨mb,0,none⟩) (λ_=>by simp) (.slice V4 m4 c4)) (λx hx hm=>by have:=f4.o x hx;have:=Gm.o;simp at hm;omega))
    generalize (if c=(k+1)then A else Option.map (λx=>x.add ((k+1)*2)) A)=B9;go_wp2_with fail;go_ret;have HN:=HM.o.n;have hq:=And.intro MF.o (And.intro SF.o OF.o);rw[cr]at hq;exact aE ⟨_,⟨hq.1,hq.2.1,by simp only[aU,bm,cO,fI,iq,tE.o];have:=HH.o;omega⟩,hq.2.2⟩
  .skip
   have H1:=xh H0.o.one;go_simp;refine aA hK (λ_=>H1.o.drew.m0) (λah=>?_);refine cC 1 λK hK=>?_;have H2:=xh H1.o.zero;go_simp;refine aA hK (λ_=>H2.o.drew.m0) (λah=>?_);refine cC 8 λK hK=>?_;obtain⟨V2,c2,w2,ea,hq⟩:=H2.o.drew.app HH.o.1 (by have:=HH.o;omega)
   try simp only[jD]at ea
   have H3:=xh hq;clear hq;go_simp;clear ea;refine aA hK (λ_=>H3.o.m0) (λah=>?_);obtain⟨V3,c3,w3,Oz,M3,o3,S3,f3⟩:=H3.o.Rn (by have:=HH.o;omega)
   try simp only[jD]at Oz
   have y3:=M3.b.ab (i:=0) rfl;obtain⟨V4,m4,c4,w4,ea4,M4,o4,S4,f4⟩:=rE M3 S3 f3 o3 Gn.o Gm.o (k+1) HH.o.2.1 (by have:=HH.o;omega) (by have:=HH.o;omega) (if c=(k+1)then A else Option.map (λx=>x.add ((k+1)*2)) A) (λhc g hg=>by rw[if_neg (by omega),hg];exact congrArg some (show(⟨g,0,none⟩:Addr).add ((k+1)*2)=_ from by rw[Nd.fe,bg]));have y4:=M4.b.ab (i:=0) rfl;have z4:=M4.b.frozen 0 (by simp);have M4:=xh M4;have o4:=xh o4
   have S4:=xh S4;have f4:=xh f4;clear M3 S3 f3 o3;refine cC 13 λK hK=>?_;go_simp;refine aA hK (λ_=>y3) (λah=>?_);refine cC 20 λK hK=>?_;go_simp;refine aA hK (λ_=>y4) (λah=>?_);refine cC 21 λK hK=>?_;go_simp;refine aA hK (λ_=>y4) (λah=>?_);refine bM [(22,50)] ?_
   iterate 1 refine jG ?_
   refine cC 23 λK hK=>?_;go_simp;refine aA hK (λh=>absurd rfl h) (λah=>?_);refine mO (by kernel_rfl) ?_ _;have MF:=xh (M4.o.b.bE 0 (.slice V4 m4 c4));have OF:=xh (o4.o.setCell (p:=⟨mb,0,none⟩) (λ_=>by simp) (.slice V4 m4 c4));have SF:=xh (S4.o.only (S:=[mb]) ((ag.refl _ _).setCell (p:=⟨mb,0,none⟩) (λ_=>by simp) (.slice V4 m4 c4)) (λx hx hm=>by have:=f4.o x hx;have:=Gm.o;simp at hm;omega))
   generalize (if c=(k+1)then A else Option.map (λx=>x.add ((k+1)*2)) A)=B9;go_wp2_with fail;go_ret;have HN:=HM.o.n;have hq:=And.intro MF.o (And.intro SF.o OF.o);rw[cr]at hq;exact aE ⟨_,⟨hq.1,hq.2.1,by simp only[aU,bm,cO,fI,iq,tE.o];have:=HH.o;omega⟩,hq.2.2⟩
end Sh
namespace Sh
open Go.RowKit Pk Dk Pg
attribute [local go_sem ↓] Go.wp_at_zero Go.wp_at_succ
variable{w:World}{I:Ix}{F:List Nat}{q:QS}{n K m:Nat}{v:Value}{L:List Value}
structure TW(w:World)(wb tb mb:Nat)(I:Ix)(F:List Nat)(vl vo:Value)(q:QS)(n K:Nat)(l o:List PR):Prop where
 b:aJ w wb 38 #[.pointer (some ⟨I.L.b,0,none⟩),.pointer (some ⟨I.pb,0,none⟩),.pointer (some ⟨tb,0,none⟩),.pointer (some ⟨mb,0,none⟩),vo]
 m:Mp w mb vl l
 s:aT w 42 2 vo o.length (ku o)
 t:TQ w tb I F q n K
 no:o.length<=1000000
theorem PQ.Ga(h:PQ w I F q n K)(S:aT w 42 2 v m L):∀g∈ai v,g∉F:=by
 rcases S.2 with⟨rfl,_⟩|⟨g,cap,rest,rfl,B,_⟩
 .intro g hg;simp[ai]at hg
 .intro g' hg;simp only[ai,aQ]at hg;subst hg;exact h.iV B
theorem Bm(S:aT w 42 2 v m L){b:Nat}{t:TypeId}{cs:Array Value}(B:aJ w b t cs)(h:t≠42):∀g∈ai v,g≠b:=by
 rcases S.2 with⟨rfl,_⟩|⟨g,cap,rest,rfl,BB,_⟩
 .intro g hg;simp[ai]at hg
 .intro g' hg;simp only[ai,aQ]at hg;subst hg;exact λe=>h ((e▸BB).inj B).1.symm
section
variable{w w':World}{wb tb mb:Nat}{I:Ix}{F S:List Nat}{vl vo:Value}{q q':QS}{n K K':Nat}{l o:List PR}
theorem TW.wF(h:TW w wb tb mb I F vl vo q n K l o):wb∉F:=h.t.2.iV h.b
theorem TW.mF(h:TW w wb tb mb I F vl vo q n K l o):mb∉F:=h.t.2.iV h.m.b
theorem TW.wm(h:TW w wb tb mb I F vl vo q n K l o):wb≠mb:=h.b.k7 h.m.b (by decide)
theorem TW.wt(h:TW w wb tb mb I F vl vo q n K l o):wb≠tb:=h.b.k7 h.t.1 (by decide)
theorem TW.mt(h:TW w wb tb mb I F vl vo q n K l o):mb≠tb:=h.m.b.k7 h.t.1 (by decide)
theorem TW.below(h:TW w wb tb mb I F vl vo q n K l o)(hb:Below w.heap.size w w'):TW w' wb tb mb I F vl vo q n K l o:=⟨h.b.below hb h.b.lt,h.m.below hb,h.s.below hb,h.t.below hb,h.no⟩
theorem TW.drew(h:TW w wb tb mb I F vl vo q n K l o):TW w.drew wb tb mb I F vl vo q n K l o:=h.below (Below.refl _ _).drew
theorem TW.le(h:TW w wb tb mb I F vl vo q n K l o)(hk:K<=K'):TW w wb tb mb I F vl vo q n K' l o:=⟨h.b,h.m,h.s,h.t.le hk,h.no⟩
theorem TW.lt(h:TW w wb tb mb I F vl vo q n K l o):∀g∈wb::mb::tb::F,g<w.heap.size:=λg hg=>by
 simp only[an]at hg
 rcases hg with rfl|rfl|hg
 .exact h.b.lt
 .exact h.m.b.lt
 .exact h.t.lt g (an.2 hg)
theorem TW.tree(h:TW w wb tb mb I F vl vo q n K l o)(p:PT w w' I F q' n K'):∃F',TW w' wb tb mb I F' vl vo q' n K' l o/\ag F w w'/\∀g∈F',g∈F\/w.heap.size<=g:=by
 obtain⟨F',P,o,f⟩:=p;exact⟨F',⟨h.b.only o h.wF,⟨h.m.b.only o h.mF,h.m.s.only o (h.t.2.Ga h.m.s),h.m.n⟩,h.s.only o (h.t.2.Ga h.s),⟨h.t.1.only o h.t.ne,P⟩,h.no⟩,o,f⟩
theorem TW.map{RG:Value}{l':List PR}(h:TW w wb tb mb I F vl vo q n K l o)(ho:ag [mb] w w')(M:Mp w' mb RG l'):TW w' wb tb mb I F RG vo q n K l' o:=
 ⟨h.b.only ho (by simpa using h.wm),M,h.s.only ho (λg hg hm=>Bm h.s h.m.b (by decide) g hg (aQ.1 hm)),h.t.only ho (λg hg hm=>by
  have e:=aQ.1 hm;subst e;exact(an.1 hg).elim h.mt h.mF),h.no⟩
theorem TW.cells(h:TW w wb tb mb I F vl vo q n K l o):w.cell? ⟨wb,1,none⟩=some (.pointer (some ⟨I.pb,0,none⟩))/\w.cell? ⟨wb,2,none⟩=some (.pointer (some ⟨tb,0,none⟩))/\w.cell? ⟨wb,3,none⟩=some (.pointer (some ⟨mb,0,none⟩))/\w.cell? ⟨wb,4,none⟩=some vo:=
 ⟨h.b.ab (i:=1) rfl,h.b.ab (i:=2) rfl,h.b.ab (i:=3) rfl,h.b.ab (i:=4) rfl⟩
end
theorem qH(e:Int)(w:World):Calls prog 18 #[.int .i64 e] w λr w'=>r=.returned (.bool (decide (e=11) || decide (e=12)))/\w=w':=by
 go_enter func18,ntmps18;go_wp2_with fail
 all_goals
  go_ret;exact⟨by first|rfl|simp_all,rfl⟩
theorem jZ{wb tb mb:Nat}{vl vo:Value}{l o:List PR}(h:TW w wb tb mb I F vl vo q n K l o)(hK:K<=999999990000)(h0:q.cq.kG.2=0):
  Calls prog 57 #[.pointer (some ⟨wb,0,none⟩)] w λe w'=>e=.returned (.bool true)/\∃nF rO F',TW w' wb nF rO I F' vo vo q.cq.kG.1 n (K+2) o o/\ag (wb::F) w w'/\∀g∈rO::nF::F',g∈F\/w.heap.size<=g:=by
 have KA:=LM h.t.2;obtain⟨x1,x2,x3,x4⟩:=h.cells;obtain⟨A,c,rfl⟩:=au h.s;unfold pp at KA;have KA:=xh KA;have KO:=xh (λ(W:World) (F:List Nat) (hW:PQ W I F q.cq n K)=>Dt hW (by omega));have HT:=xh h;have H0:=xh h0;clear h h0;go_enter func57,ntmps57;go_wp2_with fail;refine KA.o.mono ?_;rintro e w1 ⟨rfl,hp⟩;obtain⟨F1,T1,o1,f1⟩:=HT.o.tree hp;have T1:=xh T1;have O1:=xh (And.intro o1 f1);clear hp o1 f1 x1 x2 x3 x4
 obtain⟨x1,x2,x3,x4⟩:=T1.o.cells;have KO1:=KO.o w1 F1 T1.o.t.2;rw[H0.o]at KO1;unfold pp at KO1;have KO1:=xh KO1;go_wp2_with fail;refine KO1.o.mono ?_;rintro e w2 ⟨v2,rfl,F2,o2,f2,P2,y2,y3⟩;obtain⟨nF,rfl,htb,T2⟩:=y3 rfl;clear y2 y3;have B2:=xh (T1.o.b.only o2 T1.o.wF);have S2:=T1.o.s.only o2 (T1.o.t.2.Ga T1.o.s);have hwt:wb∉nF::F2:=λhm=>(an.1 hm).elim (λe=>by have:=T1.o.b.lt;omega) (T2.2.iV B2.o)
 have hws:∀g∈ai (.slice A o.length c),g≠wb:=Bm S2 B2.o (by decide);obtain⟨z,hz⟩:∃z,w2.heap.size=z:=⟨_,rfl⟩;have hbz:=B2.o.lt;have pF:=S2.lt;have W5:=((((ag.refl [wb] w2).setCell (p:=⟨wb,2,none⟩) (λ_=>by simp) (tp nF)).setCell (p:=⟨wb,3,none⟩) (λ_=>by simp) (.pointer (some ⟨z,0,none⟩)))).alloc (.cells #[.slice A o.length c] 45);have M5:=aJ.new ((w2.setCell ⟨wb,2,none⟩ (tp nF)).setCell ⟨wb,3,none⟩ (.pointer (some ⟨z,0,none⟩))) 45 #[.slice A o.length c]
 have hzz:((w2.setCell ⟨wb,2,none⟩ (tp nF)).setCell ⟨wb,3,none⟩ (.pointer (some ⟨z,0,none⟩))).heap.size=z:=by rw[<-hz];simp[World.setCell]
 rw[hzz]at M5;have B5:=(((B2.o.bE 2 (tp nF)).bE 3 (.pointer (some ⟨z,0,none⟩))).alloc (.cells #[.slice A o.length c] 45));have H5:=xh (show TW _ wb nF z I F2 (.slice A o.length c) (.slice A o.length c) q.cq.kG.1 n (K+2) o o from
  ⟨B5,⟨M5,S2.only W5 (λg hg hm=>hws g hg (aQ.1 hm)),HT.o.no⟩,S2.only W5 (λg hg hm=>hws g hg (aQ.1 hm)),T2.only W5 (λg hg hm=>hwt (aQ.1 hm▸hg)),HT.o.no⟩)
 have O5:=xh (show ag (wb::F) w _ from((O1.o.1.mono (S':=wb::F) (λx hx _=>ax _ hx)).aO o2 (λx hx dH=>ax _ ((O1.o.2 x hx).elim id (λh=>by omega)))).trans (W5.mono (λx hx _=>by simp at hx;simp[hx])));have F5:=xh (show ∀g∈z::nF::F2,g∈F\/w.heap.size<=g from λg hg=>by
  have h1:=O1.o.1.size;have h2:=o2.size;simp only[an]at hg
  rcases hg with rfl|rfl|hg
  .right;omega
  .right;omega
  .exact(f2 g hg).elim (O1.o.2 g) (λh=>by right;omega))
 have y4:=B2.o.ab (i:=4) rfl;have y2:=B2.o.ab (i:=2) rfl;have y3:=B2.o.ab (i:=3) rfl;have z2:=B2.o.frozen 2 (by simp);have z3:=B2.o.frozen 3 (by simp);clear o2 f2 P2 T2 hwt hws pF W5 M5 B5 hzz S2 htb x1 x2 x3 x4;subst hz;have hbn:¬wb=w2.heap.size:=by omega
 unfold tp at *;go_wp2_with fail;go_ret;exact aE ⟨nF,_,F2,H5.o,O5.o,F5.o⟩
end Sh
namespace Sh
open Go.RowKit Pk Dk Pg
section
variable{q:QS}{l o:List PR}{mm k:Nat}
theorem TI.setM(h:TI q l o mm k)(key value:ByteArray)(hn:k<100):
  ((q.iQ key value).2=11/\TJ (q.iQ key value).1 o mm (k+1))\/((q.iQ key value).2=(if 32<key.size\/1024<value.size then 4 else 0)/\TI (q.iQ key value).1 (Oy l key value) o mm (k+1)):=by
 unfold Oy
 by_cases hb:32<key.size\/1024<value.size
 .rw[if_pos hb,if_pos hb];have e:q.iQ key value=(q,4):=by unfold QS.iQ;rw[if_pos (by omega)]
  rw[e];exact .inr ⟨rfl,h.le (by omega)⟩
 .rw[if_neg hb,if_neg hb];obtain⟨a,b,_⟩:=rC key l h.sorted.1;rw[a,b]
  rcases h.set key value (by omega) (by omega) hn with⟨x,y⟩|⟨x,y⟩
  .exact .inl ⟨x,y.le (by omega)⟩
  .exact .inr ⟨x,y⟩
theorem TI.delM(h:TI q l o mm k)(key:ByteArray):
  ((q.jj key).2=11/\TJ (q.jj key).1 o mm k)\/((q.jj key).2=(if tJ l key=true then 0 else 9)/\TI (q.jj key).1 (Jj l key) o mm k):=by
 obtain⟨a,b,c,_⟩:=rC key l h.sorted.1;unfold Jj
 rcases h.del key with⟨x,y⟩|⟨x,y,z⟩|⟨x,y,z⟩
 .exact .inl ⟨x,y⟩
 .right;have hb:¬tJ l key=true:=λhb=>c.1 hb y;rw[if_neg hb,if_neg hb];exact⟨x,z⟩
 .right;have hb:tJ l key=true:=c.2 y;rw[if_pos hb]at b;rw[if_pos hb,if_pos hb,a,b];exact⟨x,z⟩
theorem TI.clearM(h:TI q l o mm k)(fr az:ByteArray):
  ((q.ia fr az).2.2=11/\TJ (q.ia fr az).1 o mm k)\/((q.ia fr az).2=((l.length:Int)-(po fr az l).length,0)/\TI (q.ia fr az).1 (po fr az l) o mm k):=by
 rw[Rl,out_eq];exact h.clear fr az
theorem TI.getM(h:TI q l o mm k)(key:ByteArray):TI (q.nz key).1 l o mm k/\((q.nz key).2.2=11\/(q.nz key).2=qF l key):=by
 obtain⟨a,b,c,d⟩:=rC key l h.sorted.1;rw[d];exact h.get key
theorem TI.Wt(h:TI q l o mm k)(fr az:ByteArray)(n:Int):TI (q.iY fr az n).1 l o mm k/\((q.iY fr az n).2.2=11\/(q.iY fr az n).2=(iZ fr az n l,0)):=by
 rw[FZ];exact h.scan fr az n
theorem TI.lastM(h:TI q l o mm k)(hk:k<=1000000)(fr az:ByteArray):TI (q.lH fr az).1 l o mm k/\((q.lH fr az).2.2=11\/(q.lH fr az).2=match (iZ fr az 1099511627776 l).getLast? with|none=>((⟨#[]⟩,⟨#[]⟩),9)|some x=>(x,0)):=by
 rw[Jg fr az l (ar h.sorted.2 hk) (by omega)];exact h.last fr az
theorem TI.wholeM(h:TI q l o mm k)(hk:k<=1000000):TI (q.iY ⟨#[]⟩ ⟨#[]⟩ 1099511627776).1 l o mm k/\((q.iY ⟨#[]⟩ ⟨#[]⟩ 1099511627776).2.2=11\/(q.iY ⟨#[]⟩ ⟨#[]⟩ 1099511627776).2=(l,0)):=by
 have:=h.Wt ⟨#[]⟩ ⟨#[]⟩ 1099511627776
 rwa [Jg _ _ l (ar h.sorted.2 hk) (by omega),uT]at this
end
end Sh
end Go.Proofs.YtmonobkginiajaaGreat
