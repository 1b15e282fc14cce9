/- packed. -/
import Derived.Test.YtmonobkginiajaaGreatC17
set_option linter.all false
set_option maxRecDepth 100000
set_option maxHeartbeats 8000000
namespace Go.Proofs.YtmonobkginiajaaGreat.Sh
open Go.RowKit Pk Dk Pg
open Nd (E ax aV aF aJ cu bn aM bF)
attribute [local go_sem ↓] Go.wp_at_zero Go.wp_at_succ
variable{key:ByteArray}{w:World}{tb n K:Nat}{I:Ix}{F:List Nat}
def QS.j8(q:QS)(x:E):QS×ByteArray×Int:=if x.aY<0 then(q,x.val,0)else((q.cZ x.aY).1,⟨(q.cZ x.aY).2.2.1.toArray⟩,qL (q.cZ x.aY).2.2.2)
def QS.mK(q:QS)(x:E):QS×Int:=if x.aY<0 then(q,0)else((q.lG x.aY).1,qL (q.lG x.aY).2)
def QS.fM(q:QS)(key value:ByteArray):QS×E×Int:=if value.size<=40 then(q,⟨key,value,-1⟩,0)else((q.lH value.data.toList).1,⟨key,⟨#[]⟩,(q.lH value.data.toList).2.1⟩,(q.lH value.data.toList).2.2)
def pW(s:Step):Prop:=cu s.l s.leaf/\s.l.length<=57/\(s.leaf=false->s.at_<s.l.length)
theorem yR(key:ByteArray):∀(m:Nat) (q:QS) (p:Int) (out:List Step),(kt key m q p out).2.2=0->∃pre x,(kt key m q p out).2.1=out++(pre++[x])/\x.leaf=true/\(∀s∈pre,s.leaf=false)/\(∀s∈pre++[x],pW s)/\pre.length<m
 |0,_,_,_,h=>absurd h (by show(14:Int)≠0;decide)
 |m+1,q,p,out,h=>by
  have hl:=mw q p;unfold kt at h ⊢
  split at h
  .rename_i h1;exact absurd h h1
  .rename_i h1;have hm:=vp (q:=q) (p:=p) (by simpa using h1);rw[if_neg h1]
   split at h
   .rename_i h2;rw[if_pos h2];refine⟨[],⟨p,true,(q.bW p).2.2.1,0⟩,rfl,rfl,by simp,λs hs=>?_,by simp⟩;simp at hs;subst hs;rw[h2]at hm;exact⟨hm,hl,λh=>by cases h⟩
   .rename_i h2;rw[if_neg h2]
    split at h
    .exact absurd h (by show(14:Int)≠0;decide)
    .rename_i h3;rw[if_neg h3];obtain⟨pre,x,e1,e2,e3,e4,e5⟩:=yR key m _ _ _ h;have h2:(q.bW p).2.1=false:=by simpa using h2
     refine⟨⟨p,false,(q.bW p).2.2.1,bn (q.bW p).2.2.1 key⟩::pre,x,?_,e2,λs hs=>?_,λs hs=>?_,by simp;omega⟩
     .rw[e1];simp
     .rcases aC.1 hs with rfl|hs
      .rfl
      .exact e3 s hs
     .rcases aC.1 hs with rfl|hs
      .rw[h2]at hm;exact⟨hm,hl,λ_=>vo h3 key⟩
      .exact e4 s hs
theorem IQ{q:QS}(h:(q.eP key).2.2=0):∃pre x,(q.eP key).2.1=pre++[x]/\x.leaf=true/\(∀s∈pre,s.leaf=false)/\(∀s∈pre++[x],pW s)/\pre.length<16:=by
 obtain⟨pre,x,e1,e2⟩:=yR key 16 q 0 [] h;exact⟨pre,x,e1,e2⟩
theorem TQ.drew{q:QS}(h:TQ w tb I F q n K):TQ w.drew tb I F q n K:=⟨h.1.drew,h.2.drew⟩
theorem Cd{q:QS}(h:TQ w tb I F q n K)(hK:K<=999999999900)(x:E):
  Calls Tryz.prog 62 #[tp tb,x.agg] w λe w'=>e=.returned (.tuple #[.string (q.j8 x).2.1,.int .i64 (q.j8 x).2.2])/\PQ w' I F (q.j8 x).1 n (K+5)/\ag F w w':=by
 have O0:=xh (ae (Below.refl w.heap.size w) (.cells #[.string x.key,.string x.val,.int .i64 x.aY] 111));have B0:=xh (aD.new w 111 #[.string x.key,.string x.val,.int .i64 x.aY]);have T0:=xh (h.below O0.o);have x1:=B0.o.ab (i:=1) rfl;have x2:=B0.o.ab (i:=2) rfl;have p0:=T0.o.1.ab (i:=0) rfl;have S0:=xh (And.intro p0 x2);have NB:=xh (show w.heap.size∉F from λhm=>by have:=h.2.lt _ hm;omega)
 have KW:=xh (λ(W:World) (hW:TQ W tb I F q n K)=>Ib hW.2 hK x.aY);have KB:=xh tr;unfold QS.j8;generalize q.cZ x.aY=R at *;obtain⟨q1,l1,b1,e1⟩:=R;dsimp only at *;clear h;unfold tp E.agg at *;unfold pp at KW p0 S0
 by_cases hf:x.aY<0
 .rw[if_pos hf];go_enter Tryz.func62,Tryz.ntmps62;go_wp2_with fail;go_ret2;exact⟨by first|rfl|simp,T0.o.2.le (by omega),.aj O0.o⟩
 .rw[if_neg hf];go_enter Tryz.func62,Tryz.ntmps62;go_wp2_with fail;clear p0 x1 x2;refine wp_region_held_drew (S:=λW=>W.cell? ⟨tb,0,none⟩=some (.pointer (some ⟨I.pb,0,none⟩))/\W.cell? ⟨w.heap.size,2,none⟩=some (.int .i64 x.aY)) (by kernel_rfl) (S0.o) (λaw=>?_);refine dq [(0,14),(1,15),(2,16),(3,17),(4,18),(5,19)] ?_
  iterate 6 refine za ?_
  refine zd 6 20 λK hK=>?_;go_simp
  go_at_call 111
  refine(KW.o _ (T0.o.drew)).mono ?_;rintro e w2 ⟨rfl,P2,o2⟩;have P2:=xh P2;have O2:=xh ((ag.aj O0.o).drew.trans o2);have S2:=xh (And.intro ((T0.o.drew.next o2 P2.o).1.ab (i:=0) rfl) ((B0.o.drew.only o2 NB.o).ab (i:=2) rfl));clear o2;go_simp;refine zh hK (S2.o) (λaw=>?_);refine dq [(7,13),(8,21),(9,22),(10,6),(11,7)] ?_
  iterate 5 refine za ?_
  refine wpAnyH_done (by kernel_rfl) ?_ _;go_wp2_with fail;refine(KB.o _ _).mono ?_;rintro e w3 ⟨rfl,rfl⟩;go_wp2_with fail;go_ret2;exact⟨by first|rfl|simp,P2.o,O2.o⟩
theorem EP{q:QS}(h:TQ w tb I F q n K)(hK:K<=999999999900)(x:E):
  Calls Tryz.prog 71 #[tp tb,x.agg] w λe w'=>e=.returned (.int .i64 (q.mK x).2)/\PQ w' I F (q.mK x).1 n (K+5)/\ag F w w':=by
 have O0:=xh (ae (Below.refl w.heap.size w) (.cells #[.string x.key,.string x.val,.int .i64 x.aY] 111));have B0:=xh (aD.new w 111 #[.string x.key,.string x.val,.int .i64 x.aY]);have T0:=xh (h.below O0.o);have x1:=B0.o.ab (i:=1) rfl;have x2:=B0.o.ab (i:=2) rfl;have p0:=T0.o.1.ab (i:=0) rfl;have S0:=xh (And.intro p0 x2);have NB:=xh (show w.heap.size∉F from λhm=>by have:=h.2.lt _ hm;omega)
 have KW:=xh (λ(W:World) (hW:TQ W tb I F q n K)=>Ep hW.2 hK x.aY);have KB:=xh tr;unfold QS.mK;generalize q.lG x.aY=R at *;obtain⟨q1,e1⟩:=R;dsimp only at *;clear h;unfold tp E.agg at *;unfold pp at KW p0 S0
 by_cases hf:x.aY<0
 .rw[if_pos hf];go_enter Tryz.func71,Tryz.ntmps71;go_wp2_with fail;go_ret;exact⟨by first|rfl|simp,T0.o.2.le (by omega),.aj O0.o⟩
 .rw[if_neg hf];go_enter Tryz.func71,Tryz.ntmps71;go_wp2_with fail;clear p0 x1 x2;refine wp_region_held_drew (S:=λW=>W.cell? ⟨tb,0,none⟩=some (.pointer (some ⟨I.pb,0,none⟩))/\W.cell? ⟨w.heap.size,2,none⟩=some (.int .i64 x.aY)) (by kernel_rfl) (S0.o) (λaw=>?_);refine dq [(0,8),(1,9),(2,10),(3,11),(4,12),(5,13)] ?_
  iterate 6 refine za ?_
  refine zd 6 14 λK hK=>?_;go_simp
  go_at_call 123
  refine(KW.o _ (T0.o.drew)).mono ?_;rintro e w2 ⟨rfl,P2,o2⟩;have P2:=xh P2;have O2:=xh ((ag.aj O0.o).drew.trans o2);have S2:=xh (And.intro ((T0.o.drew.next o2 P2.o).1.ab (i:=0) rfl) ((B0.o.drew.only o2 NB.o).ab (i:=2) rfl));clear o2;go_simp;refine zh hK (S2.o) (λaw=>?_);refine zd 7 15 λK hK=>?_;go_simp
  go_at_call 112
  refine(KB.o _ _).mono ?_;rintro e w3 ⟨rfl,rfl⟩;go_simp;refine zh hK (S2.o) (λaw=>?_);refine dq [(8,4)] ?_
  iterate 1 refine za ?_
  refine wpAnyH_done (by kernel_rfl) ?_ _;go_wp2_with fail;go_ret;exact⟨by first|rfl|simp,P2.o,O2.o⟩
theorem storeE{g:Nat}{a b a' b':ByteArray}{c c':Int}(B:aD w g 111 #[.string a,.string b,.int .i64 c]):
  aD (((w.setCell ⟨g,0,none⟩ (.string a')).setCell ⟨g,1,none⟩ (.string b')).setCell ⟨g,2,none⟩ (.int .i64 c')) g 111 #[.string a',.string b',.int .i64 c']/\ag [g] w (((w.setCell ⟨g,0,none⟩ (.string a')).setCell ⟨g,1,none⟩ (.string b')).setCell ⟨g,2,none⟩ (.int .i64 c'))/\
   w.cell? ⟨g,0,none⟩=some (.string a)/\w.cell? ⟨g,1,none⟩=some (.string b)/\w.cell? ⟨g,2,none⟩=some (.int .i64 c)/\w.frozen? ⟨g,0,none⟩=false/\w.frozen? ⟨g,1,none⟩=false/\w.frozen? ⟨g,2,none⟩=false:=
 ⟨((B.bu 0 _).bu 1 _).bu 2 _,(((ag.refl _ _).setCell (by simp) _).setCell (by simp) _).setCell (by simp) _,B.ab rfl,B.ab rfl,B.ab rfl,B.frozen 0 (by simp),B.frozen 1 (by simp),B.frozen 2 (by simp)⟩
theorem vq{q:QS}(h:TQ w tb I F q n K)(hK:K<=999999999900)(key value:ByteArray)(hv:value.size<=1024):
  Calls Tryz.prog 73 #[tp tb,.string key,.string value] w λe w'=>e=.returned (.tuple #[(q.fM key value).2.1.agg,.int .i64 (q.fM key value).2.2])/\PT w w' I F (q.fM key value).1 n (K+5):=by
 have O0:=xh (ae (Below.refl w.heap.size w) (.cells #[.string ⟨#[]⟩,.string ⟨#[]⟩,.int .i64 0] 111));have B0:=xh (aD.new w 111 #[.string ⟨#[]⟩,.string ⟨#[]⟩,.int .i64 0]);have T0:=xh (h.below O0.o);have p0:=T0.o.1.ab (i:=0) rfl;have NB:=xh (show w.heap.size∉F from λhm=>by have:=h.2.lt _ hm;omega);have KW:=xh (Ig T0.o.2 value hv hK);have HH:=xh h;unfold QS.fM;generalize q.lH value.data.toList=R at *;obtain⟨q1,l1,e1⟩:=R
 dsimp only at *;clear h;unfold tp E.agg at *;unfold pp at KW p0
 by_cases hs:value.size<=40
 .rw[if_pos hs];have hsI:(value.size:Int)<=40:=by omega
  have B2:=xh (aD.new w 111 #[.string key,.string value,.int .i64 (-1)]);have o2:=xh (ae (Below.refl w.heap.size w) (.cells #[.string key,.string value,.int .i64 (-1)] 111));go_enter Tryz.func73,Tryz.ntmps73;go_wp2_with fail;exact bodyPost_ret (Nd.kr rfl rfl B2.o) rfl ⟨rfl,.self ((HH.o.2.below o2.o).le (by omega)) (.aj o2.o)⟩
 .rw[if_neg hs];have hsI:¬(value.size:Int)<=40:=by omega
  go_enter Tryz.func73,Tryz.ntmps73;go_wp2_with fail;refine KW.o.mono ?_;rintro e w1 ⟨rfl,F1,P1,o1,f1⟩;have H1:=xh (And.intro P1 (And.intro o1 f1));have NB1:=xh (show w.heap.size∉F1 from λhm=>(f1 _ hm).elim NB.o (λh=>by simp at h;omega));obtain⟨B2,o2,c0,c1,c2,z0,z1,z2⟩:=storeE (a':=key) (b':=⟨#[]⟩) (c':=l1) (B0.o.only o1 NB.o);have B2:=xh B2;have o2:=xh o2;clear P1 o1 f1 p0;go_wp2_with fail
  exact bodyPost_ret (Nd.kr rfl rfl B2.o) rfl ⟨rfl,F1,H1.o.1.aY o2.o NB1.o,jo (((ag.aj (S:=w.heap.size::F) O0.o).trans (jq H1.o.2.1)).trans (jr o2.o)) (ak _),λg hg=>(H1.o.2.2 g hg).imp id (λh=>by simp at h;omega)⟩
theorem aH.last{b:Nat}{v:Value}{L:List SM}(h:aH w b v L){pre:List Step}{x:Step}(e:L.map SM.s=pre++[x]):∃Lp A c g cc,L=Lp++[⟨x,A,c⟩]/\Lp.map SM.s=pre/\v=.slice (some ⟨g,0,none⟩) (pre.length+1) cc/\b<=g/\pre.length+1<=cc/\cc<=maxLen/\
  (∀j,j<4->w.cell? ⟨g,pre.length*4+j,none⟩=(SM.cells ⟨x,A,c⟩)[j]?)/\(∀j,j<4->w.frozen? ⟨g,pre.length*4+j,none⟩=false)/\aQ w 111 3 (.slice A x.l.length c) x.l.length (ax x.l)/\(∀g∈ah (.slice A x.l.length c),b<=g):=by
 obtain⟨Lp,y,rfl⟩:∃Lp y,L=Lp++[y]:=by
  rcases vF L with h0|⟨Lp,y,h0⟩
  .rw[h0]at e;simp at e
  .exact⟨Lp,y,by simpa using h0⟩
 rw[eh,eW,mP]at e;obtain⟨e1,e2⟩:=List.append_inj' e rfl;simp only[List.cons.injEq,and_true]at e2;obtain⟨s,A,c⟩:=y;dsimp only at e2;subst e2;have hlen:Lp.length=pre.length:=by rw[<-e1,j0]
 have hS:=h.s;rw[aU,il,vJ,hlen,bt]at hS;obtain⟨g,cc,rest,rfl,B,hc,hr⟩:=hS.form (by omega) (by omega);have hm:cc<=maxLen:=by obtain⟨_,_,_,_,h⟩:=hS.oO;exact h
 have hx:=h.e ⟨s,A,c⟩ (by simp);have mS:((Lp++[(⟨s,A,c⟩:SM)]).flatMap SM.cells).length=pre.length*4+4:=by rw[di,aU];simp;omega
 refine⟨Lp,A,c,g,cc,rfl,e1,rfl,h.f g (by simp[ah]),hc,hm,λj hj=>?_,λj hj=>B.frozen _ (by simp;rw[<-List.length_flatMap]at *;simp[di]at *;omega),hx.1,hx.2⟩;rw[B.cell,cW,bx (by rw[mS];omega)];exact my (by rw[<-hlen,dF (ak _),eB];rfl) j hj
theorem yS{l:List E}(h:bF l key=true):∃e,l[aM l key]?=some e:=by
 unfold bF at h
 cases hx:l[aM l key]? with
 |none=>rw[hx]at h;cases h
 |some e=>exact⟨e,rfl⟩
def jH(l:List Step):Step:=l.getLastD ⟨0,false,[],0⟩
def QS.fQ(q:QS)(key:ByteArray):QS×ByteArray×Int:=
 if(q.eP key).2.2≠0 then((q.eP key).1,⟨#[]⟩,(q.eP key).2.2)
 else if bF (jH (q.eP key).2.1).l key=true then(q.eP key).1.j8 ((jH (q.eP key).2.1).l.getD (aM (jH (q.eP key).2.1).l key) Nd.E.zero)
 else((q.eP key).1,⟨#[]⟩,9)
theorem ER{q:QS}(h:TQ w tb I F q n K)(hK:K<=999999999000)(key:ByteArray):
  Calls Tryz.prog 20 #[tp tb,.string key] w λe w'=>e=.returned (.tuple #[.string (q.fQ key).2.1,.int .i64 (q.fQ key).2.2])/\PQ w' I F (q.fQ key).1 n (K+21)/\ag F w w':=by
 have KW:=xh (yQ h (by omega) key);have HT:=xh h;have KV:=xh (λ(W:World) (qj:QS) (hW:TQ W tb I F qj n (K+16)) (x:E)=>Cd hW (by omega) x);have ef:=IQ (q:=q) (key:=key);unfold QS.fQ;generalize q.eP key=R at *;obtain⟨q1,steps,er⟩:=R;dsimp only at *;clear h;unfold tp at *
 by_cases he:er=0
 .subst he;obtain⟨pre,x,rfl,xk,hnl,qK,hlen⟩:=ef rfl;rw[if_neg (by simp),show jH (pre++[x])=x from by unfold jH;simp];obtain⟨hm,hl57,_⟩:=qK x (by simp);have hm:=xh hm;clear ef hnl qK xk;obtain⟨RR,cd⟩:∃RR,(if bF x.l key=true then q1.j8 (x.l.getD (aM x.l key) Nd.E.zero)else(q1,⟨#[]⟩,9))=RR:=⟨_,rfl⟩;rw[cd];have ic:=xh cd;clear cd;go_enter Tryz.func20,Tryz.ntmps20;go_wp2_with fail;refine KW.o.mono ?_;rintro e w1 ⟨v,L,rfl,SA,qM,P1,o1⟩
  obtain⟨Lp,A,c,g,cc,rfl,oA,rfl,hbg,FD,xx,gS,hfz,S1,f1⟩:=SA.last qM;have T1:=xh (HT.o.next o1 P1);have o1:=xh o1;have S1:=xh S1;have x1:w1.cell? ⟨g,pre.length*4+1,none⟩=some (.bool x.leaf):=gS 1 (by omega);have x2:w1.cell? ⟨g,pre.length*4+1+1,none⟩=some (.slice A x.l.length c):=gS 2 (by omega);have s1:IntKind.i64.wrap (((pre.length+1:Nat):Int)-1)=(pre.length:Int):=by rw[show((pre.length+1:Nat):Int)-1=(pre.length:Int) by omega];exact IntWalk.i64_in _ (by omega)
  have s2:(pre.length:Int)<((pre.length+1:Nat):Int):=by omega
  have lk:=ae (Below.refl w1.heap.size w1) (.cells #[.bool x.leaf,.slice A x.l.length c] 118);have B2:=xh (aD.new w1 118 #[.bool x.leaf,.slice A x.l.length c]);have y0:=B2.o.ab (i:=0) rfl;have y1:=B2.o.ab (i:=1) rfl;have S2:=xh (S1.o.below lk);have KF:=xh (Nd.vi x.leaf A x.l.length c x.l key (Nd.aQ.ax S2.o).2 (by omega) hm.o);have HAL:=xh lk;unfold aV at KF;clear SA qM P1 oA gS hfz f1 lk;go_wp2_with fail
  refine KF.o.mono ?_;rintro e w3 ⟨rfl,dR⟩;have O3:=xh (ao HAL.o dR);have T3:=xh (T1.o.below O3.o);have z1:=(B2.o.below dR B2.o.lt).ab (i:=1) rfl;have S3:=xh (S2.o.below dR);clear x1 x2 y0 y1 dR
  by_cases hh:bF x.l key=true
  .obtain⟨ex,hex⟩:=yS hh;have hfx:x.l.getD (aM x.l key) Nd.E.zero=ex:=by rw[ig,hex];rfl
   have cd:=ic.o;rw[if_pos hh,hfx]at cd;subst cd;generalize bF x.l key=hb at *;subst hh;have nu:aM x.l key<x.l.length:=(aR.1 hex).1;generalize aM x.l key=at_ at *;obtain⟨ad,IP,nf⟩:=(Nd.aQ.ax S3.o).2.2 at_ ex hex;obtain⟨ga,ca,resta,hva,_⟩:=S3.o.form (by omega) (by omega);injection hva with e1 e2 e3
   subst e1 e3;injection IP with IP
   subst IP;rw[Nd.gU,bt]at nf;have u0:=nf.c0;have u1:=nf.c1;have u2:=nf.c2;dsimp only at u1 u2;have K3:=xh (KV.o w3 q1 T3.o ex);unfold E.agg at K3;have hflI:(at_:Int)<(x.l.length:Int):=by omega
   clear nf hex hfx;go_wp2_with fail;refine K3.o.mono ?_;rintro e w4 ⟨rfl,P4,o4⟩;have P4:=xh P4;have O4:=xh ((o1.o.trans (.aj O3.o)).trans o4);clear o4 u0 u1 u2 z1;go_wp2_with fail;go_ret2;exact⟨by first|rfl|simp,P4.o,O4.o⟩
  .have hh2:bF x.l key=false:=by simpa using hh
   have cd:=ic.o;rw[if_neg hh]at cd;subst cd;generalize bF x.l key=hb at *;subst hh2;clear hh;go_wp2_with fail;go_ret2;exact⟨by first|rfl|simp,T3.o.2.le (by omega),o1.o.trans (.aj O3.o)⟩
 .rw[if_pos he];have hq:(er != 0)=true:=by rw[bne_iff_ne];exact he
  have lp:(er==0)=false:=by rw[beq_eq_false_iff_ne];exact he
  clear ef;go_enter Tryz.func20,Tryz.ntmps20;go_wp2_with fail;refine KW.o.mono ?_;rintro e w1 ⟨v,L,rfl,SA,qM,P1,o1⟩;have P1:=xh P1;have o1:=xh o1;clear SA qM;go_wp2_with fail;go_ret2;exact⟨by first|rfl|simp,P1.o.le (by omega),o1.o⟩
end Go.Proofs.YtmonobkginiajaaGreat.Sh
namespace Go.Proofs.YtmonobkginiajaaGreat.Sh
open Go.RowKit Pk Dk Pg
open Nd (E ax aV aF aJ cu bn aM bF bg)
attribute [local go_sem ↓] Go.wp_at_zero Go.wp_at_succ
variable{w w':World}{I:Ix}{F:List Nat}{n K K0 tb:Nat}
def keyOf(l:List E):ByteArray:=(l.headD Nd.E.zero).key
def QS.tx(q:QS)(leaf:Bool)(la lb:List E):QS×Int:=
 if(q.cO leaf la).2.2≠0 then((q.cO leaf la).1,(q.cO leaf la).2.2)
 else if((q.cO leaf la).1.cO leaf lb).2.2≠0 then(((q.cO leaf la).1.cO leaf lb).1,((q.cO leaf la).1.cO leaf lb).2.2)
 else((q.cO leaf la).1.cO leaf lb).1.cA 0 false [⟨⟨#[]⟩,⟨#[]⟩,(q.cO leaf la).2.1⟩,⟨keyOf lb,⟨#[]⟩,((q.cO leaf la).1.cO leaf lb).2.1⟩]
theorem PT.Fs{q q0:QS}{A:Option Addr}{m c:Nat}{l:List E}(h:PT w w' I F q n K)(P:PQ w I F q0 n K0)(S:aQ w 111 3 (.slice A m c) m (ax l)):aQ w' 111 3 (.slice A m c) m (ax l):=by
 obtain⟨F',_,o,_⟩:=h;exact S.only o (λg hg=>by
  obtain⟨cs,B⟩:=rl S g hg;exact P.jC B (by decide) (by decide) (by decide) (by decide) (by decide) (by decide) (by decide) (by decide) (by decide))
theorem PT.tq{q q0:QS}(T:TQ w tb I F q0 n K0)(h:PT w w' I F q n K):∃F',TQ w' tb I F' q n K/\ag F w w'/\∀g∈F',g∈F\/w.heap.size<=g:=by
 obtain⟨F',P,o,f⟩:=h;exact⟨F',⟨T.1.only o T.ne,P⟩,o,f⟩
theorem ES{q:QS}(h:TQ w tb I F q n K)(hK:K<=999999999900)(leaf:Bool)(A1:Option Addr)(m1 c1:Nat)(la:List E)(S1:aQ w 111 3 (.slice A1 m1 c1) m1 (ax la))(A2:Option Addr)(m2 c2:Nat)(lb:List E)(S2:aQ w 111 3 (.slice A2 m2 c2) m2 (ax lb))(hm1:m1<=1000)(hm2:m2<=1000)(h0:0<m2):
  Calls Tryz.prog 130 #[tp tb,aV leaf A1 m1 c1,aV leaf A2 m2 c2] w λe w'=>e=.returned (.int .i64 (q.tx leaf la lb).2)/\PT w w' I F (q.tx leaf la lb).1 n (K+3):=by
 have xz:=ae (ae (Below.refl w.heap.size w) (.cells #[.bool leaf,.slice A1 m1 c1] 118)) (.cells #[.bool leaf,.slice A2 m2 c2] 118);have O0:=xh xz;have B1:=xh ((aD.new w 118 #[.bool leaf,.slice A1 m1 c1]).alloc (.cells #[.bool leaf,.slice A2 m2 c2] 118));have B2:=aD.new (w.alloc (.cells #[.bool leaf,.slice A1 m1 c1] 118)) 118 #[.bool leaf,.slice A2 m2 c2];rw[uh]at B2;have B2:=xh B2
 have H0:=xh (And.intro (h.below xz) (And.intro (S1.below xz) (S2.below xz)));have x0:=B1.o.ab (i:=0) rfl;have x1:=B1.o.ab (i:=1) rfl;have KM1:=xh (pV H0.o.1 (by omega) leaf A1 m1 c1 la H0.o.2.1 hm1);have KM2:=xh (λ(W:World) (F':List Nat) (qj:QS) (hW:TQ W tb I F' qj n (K+1)) (S:aQ W 111 3 (.slice A2 m2 c2) m2 (ax lb))=>pV hW (by omega) leaf A2 m2 c2 lb S hm2)
 have KW:=xh (λ(W:World) (F':List Nat) (qj:QS) (hW:TQ W tb I F' qj n (K+2)) (g:Nat) (l:List E) (S:aQ W 111 3 (.slice (some ⟨g,0,none⟩) 2 2) 2 (ax l))=>tu hW (by omega) 0 false (some ⟨g,0,none⟩) 2 2 l S (by omega));have HL:=xh (show w.heap.size∉F/\w.heap.size+1∉F from⟨λhm=>by have:=h.2.lt _ hm;omega,λhm=>by have:=h.2.lt _ hm;omega⟩);obtain⟨eb,rb,rfl⟩:∃e r,lb=e::r:=by
  have:=S2.1;rw[jg]at this
  cases lb with
  |nil=>simp at this;omega
  |cons e r=>exact⟨e,r,rfl⟩
 obtain⟨RR,cd⟩:∃RR,q.tx leaf la (eb::rb)=RR:=⟨_,rfl⟩;rw[cd];unfold QS.tx keyOf at cd;generalize q.cO leaf la=R1 at *;obtain⟨q1,l1,e1⟩:=R1;dsimp only[List.headD_cons]at *;have ic:=xh cd;clear h S1 S2 cd xz;unfold tp aV at *;go_enter Tryz.func130,Tryz.ntmps130;go_wp2_with fail;refine KM1.o.mono ?_;rintro e w1 ⟨rfl,P1⟩;have S21:=xh (P1.Fs H0.o.1.2 H0.o.2.2);obtain⟨F1,T1,o1,f1⟩:=P1.tq H0.o.1;have B21:=xh (B2.o.only o1 HL.o.2)
 have H1:=xh (show TQ w1 tb I F1 q1 n (K+1)/\ag F w w1/\(∀g∈F1,g∈F\/w.heap.size<=g)/\w.heap.size+1∉F1 from
  ⟨T1,(ag.aj O0.o).trans o1,λg hg=>(f1 g hg).imp id (λh=>by simp at h;omega),λhm=>(f1 _ hm).elim HL.o.2 (λh=>by rw[uh,uh]at h;omega)⟩)
 clear P1 T1 o1 f1 x0 x1
 by_cases he1:e1=0
 .subst he1;have y0:=B21.o.ab (i:=0) rfl;have y1:=B21.o.ab (i:=1) rfl;have K2:=xh (KM2.o w1 F1 q1 H1.o.1 S21.o);have cd:=ic.o;rw[if_neg (by simp)]at cd;generalize q1.cO leaf (eb::rb)=R2 at *;obtain⟨q2,l2,e2⟩:=R2;dsimp only at *;have ic:=xh cd;clear cd;go_wp2_with fail;refine K2.o.mono ?_;rintro e w2 ⟨rfl,P2⟩;have S22:=xh (P2.Fs H1.o.1.2 S21.o);obtain⟨F2,T2,o2,f2⟩:=P2.tq H1.o.1;have B22:=xh (B21.o.only o2 H1.o.2.2.2)
  have H2:=xh (show TQ w2 tb I F2 q2 n (K+2)/\ag F w w2/\(∀g∈F2,g∈F\/w.heap.size<=g)from
   ⟨T2,H1.o.2.1.bw o2 (λg hg eT=>(H1.o.2.2.1 g hg).elim id (λh=>by omega)),λg hg=>(f2 g hg).elim (H1.o.2.2.1 g) (λh=>by have:=H1.o.2.1.size;omega)⟩)
  clear P2 T2 o2 f2 y0 y1
  by_cases C5:e2=0
  .subst C5;have cd:=ic.o;rw[if_neg (by simp)]at cd;obtain⟨g2,wE,IU,nP,BB2,_,_⟩:=S22.o.form h0 (by omega);simp only[Value.slice.injEq,true_and]at nP;obtain⟨rfl,rfl⟩:=nP;have z1:=B22.o.ab (i:=1) rfl;have k0:w2.cell? ⟨g2,0,none⟩=some (.string eb.key):=BB2.ab rfl;have lk:=ae (Below.refl w2.heap.size w2) (.cells #[.string ⟨#[]⟩,.string ⟨#[]⟩,.int .i64 l1,.string eb.key,.string ⟨#[]⟩,.int .i64 l2] 111)
   have SN:aQ (w2.alloc (.cells #[.string ⟨#[]⟩,.string ⟨#[]⟩,.int .i64 l1,.string eb.key,.string ⟨#[]⟩,.int .i64 l2] 111)) 111 3 (.slice (some ⟨w2.heap.size,0,none⟩) 2 2) 2 (ax [⟨⟨#[]⟩,⟨#[]⟩,l1⟩,⟨eb.key,⟨#[]⟩,l2⟩]):=
    ⟨rfl,.inr ⟨w2.heap.size,2,[],rfl,aD.new w2 _ _,rfl,by unfold maxLen;omega⟩⟩
   have K3:=xh (KW.o _ F2 q2 (H2.o.1.below lk) w2.heap.size _ SN);have h0I:(0:Int)<(m2:Int):=by omega
   have HAL:=xh lk;clear BB2 lk SN;rw[cd]at K3;clear cd;go_wp2_with fail;refine K3.o.mono ?_;rintro e w3 ⟨rfl,P3,o3⟩;have H3:=xh (show PT w w3 I F RR.1 n (K+3)from⟨F2,P3,(H2.o.2.1.trans (.aj HAL.o)).bw o3 (λg hg eT=>(H2.o.2.2 g hg).elim id (λh=>by omega)),H2.o.2.2⟩);clear P3 o3 z1 k0;go_wp2_with fail;go_ret;exact⟨by first|rfl|simp,H3.o⟩
  .have cd:=ic.o;rw[if_pos C5]at cd;subst cd;have hq:(e2 != 0)=true:=by rw[bne_iff_ne];exact C5
   have lp:(e2==0)=false:=by rw[beq_eq_false_iff_ne];exact C5
   go_wp2_with fail;go_ret;exact⟨by first|rfl|simp,F2,H2.o.1.2.le (by omega),H2.o.2.1,H2.o.2.2⟩
 .have cd:=ic.o;rw[if_pos he1]at cd;subst cd;have hq:(e1 != 0)=true:=by rw[bne_iff_ne];exact he1
  have lp:(e1==0)=false:=by rw[beq_eq_false_iff_ne];exact he1
  go_wp2_with fail;go_ret;exact⟨by first|rfl|simp,F1,H1.o.1.2.le (by omega),H1.o.2.1,H1.o.2.2.1⟩
variable{g m cc b n K:Nat}{l:List E}{w W W':World}{F F':List Nat}{I:Ix}{q:QS}
section
variable{w w':World}{b:Nat}{v:Value}{L:List SM}{I:Ix}{F S:List Nat}{q:QS}{n K:Nat}
theorem aH.off(h:aH w b v L)(P:PQ w I F q n K):(∀g∈ah v,g∉F)/\∀x∈L,∀g∈ah x.v,g∉F:=
 ⟨λg hg=>by
  obtain⟨cs,B⟩:=rl h.s g hg;exact P.jC B (by decide) (by decide) (by decide) (by decide) (by decide) (by decide) (by decide) (by decide) (by decide),λx hx g hg=>by
  obtain⟨cs,B⟩:=rl (h.e x hx).1 g hg;exact P.jC B (by decide) (by decide) (by decide) (by decide) (by decide) (by decide) (by decide) (by decide) (by decide)⟩
theorem aH.vr(h:aH w b v L)(P:PQ w I F q n K)(o:ag F w w'):aH w' b v L:=
 ⟨h.s.only o (h.off P).1,h.f,λx hx=>⟨(h.e x hx).1.only o ((h.off P).2 x hx),(h.e x hx).2⟩,h.d⟩
theorem aH.cell(h:aH w b (.slice (some ⟨g,0,none⟩) m cc) L){k:Nat}{Z:SM}(hz:L[k]?=some Z)(i:Nat)(hi:i<4):w.cell? ⟨g,k*4+i,none⟩=Z.cells[i]?:=by
 obtain⟨rest,B,_⟩:=h.s.oO;have hk:=(aR.1 hz).1;rw[B.cell,cW,bx (by rw[di];omega)];exact my hz i hi
theorem aH.tree{tb:Nat}{cs:Array Value}(h:aH w b v L)(B:aD w tb 130 cs):tb∉ah v/\∀x∈L,tb∉ah x.v:=
 ⟨cy h.s B (by decide),λx hx=>cy (h.e x hx).1 B (by decide)⟩
theorem aH.pop{X:SM}(h:aH w b (.slice (some ⟨g,0,none⟩) m cc) (L++[X])):aH w b (.slice (some ⟨g,0,none⟩) L.length cc) L:=by
 obtain⟨rest,B,h1,_,h2⟩:=h.s.oO;rw[oR,cN]at B;have hl:(L.flatMap SM.cells).length+(([X]:List SM).flatMap SM.cells++rest).length=cc*4:=by
  rw[oR,aU]at h1;rw[aU];omega
 refine⟨⟨by rw[di],.inr ⟨g,cc,_,rfl,B,hl,h2⟩⟩,λx hx=>h.f x (by simpa [ah]using hx),λx hx=>h.e x (bX _ hx),(da.1 h.d).1⟩
theorem aH.put{Lp Ls:List SM}{Y:SM}(h:aH w b (.slice (some ⟨g,0,none⟩) m cc) (Lp++Y::Ls))(l':List E){A':Option Addr}{c':Nat}(S':aQ w' 111 3 (.slice A' l'.length c') l'.length (ax l'))(o:ag (ah Y.v) w w')
 (f:∀x∈ah (.slice A' l'.length c'),x∈ah Y.v\/w.heap.size<=x)(hbw:b<=w.heap.size):
  aH (w'.setCell ⟨g,Lp.length*4+2,none⟩ (.slice A' l'.length c')) b (.slice (some ⟨g,0,none⟩) m cc) (Lp++⟨{Y.s with l:=l'},A',c'⟩::Ls)/\w'.cell? ⟨g,Lp.length*4+2,none⟩=some Y.v/\w'.frozen? ⟨g,Lp.length*4+2,none⟩=false:=by
 obtain⟨rest,B,h1,hm,h2⟩:=h.s.oO;have hY:=h.e Y (by simp);have hgY:g∉ah Y.v:=λhg=>fH hY.1 h.s (by decide) g hg (by simp[ah]);have B':=B.only o hgY;have hlen:(Lp++Y::Ls).length=(Lp++(⟨{Y.s with l:=l'},A',c'⟩:SM)::Ls).length:=by simp
 have nu:(Lp++Y::Ls).flatMap SM.cells=Lp.flatMap SM.cells++(Y.cells++Ls.flatMap SM.cells):=by rw[oR,ie]
 have wy:(((Lp++Y::Ls).flatMap SM.cells++rest).set (Lp.length*4+2) (.slice A' l'.length c'))=(Lp++(⟨{Y.s with l:=l'},A',c'⟩:SM)::Ls).flatMap SM.cells++rest:=by
  rw[nu,cN,qR _ _ (by rw[di];omega),di,show Lp.length*4+2-Lp.length*4=2 by omega,oR,ie];simp only[cN];rfl
 have hix:Lp.length*4+2<((Lp++Y::Ls).flatMap SM.cells++rest).toArray.size:=by
  have h4:Y.cells.length=4:=rfl;rw[nu];simp only[iA,aU,di,h4];omega
 have BS:=B'.bu (Lp.length*4+2) (.slice A' l'.length c');rw[nE,wy]at BS;have sd:∀Z∈Lp++Ls,∀x∈ah Z.v,x∉ah Y.v:=λZ hZ x hx hy=>by
  have hd:=da.1 h.d
  rcases aS.1 hZ with hZ|hZ
  .exact hd.2.2 Z hZ Y (by simp) x hx hy
  .exact(du.1 hd.2.1).1 Z hZ x hy hx
 have lt:∀Z∈Lp++Ls,∀x∈ah Z.v,x<w.heap.size:=λZ hZ=>(h.e Z (by rcases aS.1 hZ with hZ|hZ<;>simp[hZ])).1.lt;have sn:∀Z∈Lp++Ls,∀x∈ah Z.v,x∉ah (.slice A' l'.length c'):=λZ hZ x hx hy=>by
  rcases f x hy with h3|h3
  .exact sd Z hZ x hx h3
  .have:=lt Z hZ x hx;omega
 have og:ag [g] w' (w'.setCell ⟨g,Lp.length*4+2,none⟩ (.slice A' l'.length c')):=(ag.refl _ _).setCell (by simp) _;have xL:∀Z∈Lp++Ls,aQ (w'.setCell ⟨g,Lp.length*4+2,none⟩ (.slice A' l'.length c')) 111 3 Z.v Z.s.l.length (ax Z.s.l)/\∀x∈ah Z.v,b<=x:=λZ hZ=>by
  have hz:=h.e Z (by rcases aS.1 hZ with hZ|hZ<;>simp[hZ]);have s1:=hz.1.only o (sd Z hZ);exact⟨s1.only og (λx hx hg=>cy s1 B' (by decide) (by rw[<-cg.1 hg];exact hx)),hz.2⟩
 refine⟨⟨⟨?_,?_⟩,λx hx=>h.f x (by simpa [ah]using hx),λZ hZ=>?_,?_⟩,?_,B'.frozen _ hix⟩
 .rw[<-hlen,di,<-hlen]
 .rw[<-hlen,hm];refine .inr ⟨g,cc,rest,rfl,BS,?_,h2⟩;rw[di]at h1 ⊢;rw[<-hlen];exact h1
 .rcases aS.1 hZ with hZ|hZ
  .exact xL Z (bX _ hZ)
  .rcases aC.1 hZ with rfl|hZ
   .exact⟨S'.only og (λx hx hg=>cy S' B' (by decide) (by rw[<-cg.1 hg];exact hx)),λx hx=>(f x hx).elim (hY.2 x) (λh=>by omega)⟩
   .exact xL Z (bV _ hZ)
 .have hd:=da.1 h.d;rw[da];refine⟨hd.1,du.2 ⟨λZ hZ x hx hy=>sn Z (bV _ hZ) x hy hx,(du.1 hd.2.1).2⟩,λZ hZ W hW=>?_⟩
  rcases aC.1 hW with rfl|hW
  .exact sn Z (bX _ hZ)
  .exact hd.2.2 Z hZ W (bY _ hW)
 .refine B'.ab ?_;rw[nu,cW,cN,dF (by rw[di];omega),di,show Lp.length*4+2-Lp.length*4=2 by omega];rfl
end
def eg:Nat->List Step->QS->QS×Int
 |0,_,q=>(q,0)
 |_+1,[],q=>(q,0)
 |m+1,x::up,q=>
  if(q.cA x.an x.leaf x.l).2≠11\/(bA x.leaf x.l).2=0 then q.cA x.an x.leaf x.l
  else match up with
   |[]=>(q.cA x.an x.leaf x.l).1.tx x.leaf (x.l.take (bg x.l)) (x.l.drop (bg x.l))
   |y::up=>
    if((q.cA x.an x.leaf x.l).1.cO x.leaf (x.l.drop (bg x.l))).2.2≠0 then(((q.cA x.an x.leaf x.l).1.cO x.leaf (x.l.drop (bg x.l))).1,((q.cA x.an x.leaf x.l).1.cO x.leaf (x.l.drop (bg x.l))).2.2)
    else if(((q.cA x.an x.leaf x.l).1.cO x.leaf (x.l.drop (bg x.l))).1.cA x.an x.leaf (x.l.take (bg x.l))).2≠0 then((q.cA x.an x.leaf x.l).1.cO x.leaf (x.l.drop (bg x.l))).1.cA x.an x.leaf (x.l.take (bg x.l))
    else eg m ({y with l:=y.l.insertIdx (y.at_+1) ⟨keyOf (x.l.drop (bg x.l)),⟨#[]⟩,((q.cA x.an x.leaf x.l).1.cO x.leaf (x.l.drop (bg x.l))).2.1⟩}::up)
     (((q.cA x.an x.leaf x.l).1.cO x.leaf (x.l.drop (bg x.l))).1.cA x.an x.leaf (x.l.take (bg x.l))).1
def yT(l:List E):Prop:=l.length<=90/\∀e∈l,e.key.size<=32/\e.val.size<=40
theorem yU(h:yT l):Nd.ai l<=100000:=by
 obtain⟨h1,h2⟩:=h;have:∀l:List E,(∀e∈l,e.key.size<=32/\e.val.size<=40)->Nd.ai l<=79*l.length:=λl h=>by
  induction l with
  |nil=>simp[Nd.ai]
  |cons e l ih=>
   have h1:=h e (by simp);have h3:=ih (λx hx=>h x (by simp[hx]));unfold Nd.ai at *;simp only[eW,iB,il];omega
 have:=this l h2;omega
theorem IV{leaf:Bool}(h:(bA leaf l).2≠0)(h2:(bA leaf l).2≠2)(hl:yT l):2<=l.length:=by
 unfold bA aJ at h h2
 split at h2
 .rename_i hm;rw[if_pos hm]at h
  split at h2
  .rename_i hr;rw[if_pos hr]at h;exact absurd rfl h
  .rename_i hr
   rcases l with _|⟨e,_|⟨e2,r⟩⟩
   .exfalso;apply hr
    cases leaf<;>decide
   .exfalso;apply hr;have hh:=hl.2 e (by simp);rw[Nd.te];have:Nd.ai (blank leaf [e])<=79:=by
     have h0:(⟨#[]⟩:ByteArray).size=0:=rfl
     cases leaf
     .show Nd.ai [{e with key:=⟨#[]⟩}]<=79;simp only[Nd.ai,eW,mP,iB,List.sum_nil,h0];omega
     .show Nd.ai [e]<=79;simp only[Nd.ai,eW,mP,iB,List.sum_nil];omega
    omega
   .simp
 .exact absurd rfl h2
def PB(b:Nat)(w w':World)(I:Ix)(F:List Nat)(q:QS)(n K:Nat):Prop:= ∃F' S,PQ w' I F' q n K/\ag S w w'/\(∀g∈S,g∈F\/b<=g)/\∀g∈F',g∈F\/b<=g
def OB(b:Nat)(w W:World)(F F':List Nat):Prop:= ∃S,ag S w W/\(∀g∈S,g∈F\/b<=g)/\∀g∈F',g∈F\/b<=g
theorem OB.refl(b:Nat)(w:World)(F:List Nat):OB b w w F F:=⟨[],ag.refl _ _,by simp,λ_ h=> .inl h⟩
theorem OB.step{F'':List Nat}(h:OB b w W F F')(hb:b<=w.heap.size)(o:ag F' W W')(f:∀g∈F'',g∈F'\/W.heap.size<=g):OB b w W' F F'':=by
 obtain⟨S,a1,a2,a3⟩:=h;refine⟨S++F',(a1.mono (λg hg _=>bX _ hg)).bw o (λg hg _=>bV _ hg),λg hg=>(aS.1 hg).elim (a2 g) (a3 g),λg hg=>(f g hg).elim (a3 g) (λh=> .inr (by have:=a1.size;omega))⟩
theorem OB.own{S:List Nat}(h:OB b w W F F')(o:ag S W W')(f:∀g∈S,b<=g):OB b w W' F F':=by
 obtain⟨T,a1,a2,a3⟩:=h;exact⟨T++S,(a1.mono (λg hg _=>bX _ hg)).bw o (λg hg _=>bV _ hg),λg hg=>(aS.1 hg).elim (a2 g) (λh=> .inr (f g h)),a3⟩
theorem OB.below(h:OB b w W F F')(hb:Below W.heap.size W W'):OB b w W' F F':=h.own (S:=[]) (.aj hb) (by simp)
theorem OB.pb(h:OB b w W F F')(P:PQ W I F' q n K):PB b w W I F q n K:=by
 obtain⟨S,a1,a2,a3⟩:=h;exact⟨F',S,P,a1,a2,a3⟩
theorem OB.size(h:OB b w W F F'):w.heap.size<=W.heap.size:=by
 obtain⟨S,a1,_⟩:=h;exact a1.size
theorem OB.trans(h:OB b w W F F')(p:PB b W W' I F' q n K):PB b w W' I F q n K:=by
 obtain⟨S,a1,a2,a3⟩:=h;obtain⟨F2,S2,P,b1,b2,b3⟩:=p;refine⟨F2,S++S2,P,(a1.mono (λg hg _=>bX _ hg)).bw b1 (λg hg _=>bV _ hg),λg hg=>(aS.1 hg).elim (a2 g) (λh=>(b2 g h).elim (a3 g) .inr),λg hg=>(b3 g hg).elim (a3 g) .inr⟩
theorem PB.le{K':Nat}(h:PB b w W I F q n K)(hk:K<=K'):PB b w W I F q n K':=by
 obtain⟨F',S,P,r⟩:=h;exact⟨F',S,P.le hk,r⟩
structure Fit(s:Step):Prop where
 l:yT s.l
 n:s.l.length<=80
 a:s.at_<s.l.length
theorem gw:∀(m:Nat) {w:World} {tb:Nat} {I:Ix} {F:List Nat} {q:QS} {n Kz b:Nat} {v:Value} {L:List SM} (pre:List Step) (x:Step),pre.length+1<=m->TQ w tb I F q n Kz->Kz+4*m<=999999999900->aH w b v L->b<=w.heap.size->L.map SM.s=pre++[x]->(∀s∈pre,Fit s)->yT x.l->pre.length<=16->
  Calls Tryz.prog 75 #[tp tb,v] w λe w'=>e=.returned (.int .i64 (eg m (x::pre.reverse) q).2)/\PB b w w' I F (eg m (x::pre.reverse) q).1 n (Kz+4*m)
 |0,_,_,_,_,_,_,_,_,_,_,_,_,h,_,_,_,_,_,_,_,_=>absurd h (by omega)
 |m+1,w,tb,I,F,q,n,Kz,b,v,L,pre,x,hpm,h,hKz,SA,hb,qM,oX,hlx,hp16=>by
  obtain⟨Lp,A,c,g,cc,hL,oA,rfl,hbg,FD,xx,gS,hfz,S1,f1⟩:=SA.last qM;have HL:=xh hL;have S1:=xh S1;have HK:=xh hKz;have AQ:w.cell? ⟨g,pre.length*4,none⟩=some (.int .i64 x.an):=gS 0 (by omega);have hx1:w.cell? ⟨g,pre.length*4+1,none⟩=some (.bool x.leaf):=gS 1 (by omega);have hx2:w.cell? ⟨g,pre.length*4+2,none⟩=some (.slice A x.l.length c):=gS 2 (by omega);have hx3:w.cell? ⟨g,pre.length*4+3,none⟩=some (.int .i64 (x.at_:Nat)):=gS 3 (by omega)
  have s1:IntKind.i64.wrap (((pre.length+1:Nat):Int)-1)=(pre.length:Int):=by rw[show((pre.length+1:Nat):Int)-1=(pre.length:Int) by omega];exact IntWalk.i64_in _ (by omega)
  have s2:(pre.length:Int)<((pre.length+1:Nat):Int):=by omega
  have lk:=ae (Below.refl w.heap.size w) (.cells #[.int .i64 x.an,.bool x.leaf,.slice A x.l.length c,.int .i64 (x.at_:Nat)] 120);have BS:=xh (aD.new w 120 #[.int .i64 x.an,.bool x.leaf,.slice A x.l.length c,.int .i64 (x.at_:Nat)]);have y0:=BS.o.ab (i:=0) rfl;have y1:=BS.o.ab (i:=1) rfl;have y2:=BS.o.ab (i:=2) rfl
  have H1:=xh (show TQ _ tb I F q n Kz/\aH _ b (.slice (some ⟨g,0,none⟩) (pre.length+1) cc) L/\aQ _ 111 3 (.slice A x.l.length c) x.l.length (ax x.l)/\OB b w _ F F from⟨h.below lk,SA.below lk,S1.o.below lk,(OB.refl b w F).below lk⟩)
  have KW:=xh (λ(W:World) (F':List Nat) (qj:QS) (Kj:Nat) (hW:TQ W tb I F' qj n Kj) (hk:Kj<=999999999900) (A:Option Addr) (mm c:Nat) (l:List E) (S:aQ W 111 3 (.slice A mm c) mm (ax l)) (hm:mm<=1000)=>tu hW (by omega) x.an x.leaf A mm c l S hm);have tm:=xh oX;have HPM:=xh hpm;have ng:=xh hp16;have HPRE:=xh oA;have HLX:=xh hlx;have hln:=hlx.1;obtain⟨RR,cd⟩:∃RR,eg (m+1) (x::pre.reverse) q=RR:=⟨_,rfl⟩;rw[cd];unfold eg at cd
  have ic:=xh cd;clear cd h SA qM oX oA hlx gS hfz f1 hL lk;have K1:=xh (KW.o _ F q Kz H1.o.1 (by omega) A x.l.length c x.l H1.o.2.2.1 (by omega));have hwr:(q.cA x.an x.leaf x.l).2=11->(bA x.leaf x.l).2≠0->2<=x.l.length:=λh1 h2=>IV h2 (λh3=>by unfold QS.cA at h1;rw[if_pos h2,h3]at h1;exact absurd h1 (by show(2:Int)≠11;decide)) HLX.o;generalize q.cA x.an x.leaf x.l=R at *;obtain⟨q1,e1⟩:=R;dsimp only at *;have HWR:=xh hwr
  clear hwr;unfold tp aV at *;go_enter Tryz.func75,Tryz.ntmps75;go_wp2_with fail;refine K1.o.mono ?_;rintro e w2 ⟨rfl,P2,o2⟩;have B2:=xh (BS.o.only o2 (H1.o.1.2.jC BS.o (by decide) (by decide) (by decide) (by decide) (by decide) (by decide) (by decide) (by decide) (by decide)));have H2:=xh (show TQ w2 tb I F q1 n (Kz+1)/\aH w2 b (.slice (some ⟨g,0,none⟩) (pre.length+1) cc) L/\aQ w2 111 3 (.slice A x.l.length c) x.l.length (ax x.l)/\OB b w w2 F F from
   ⟨H1.o.1.next o2 P2,H1.o.2.1.vr H1.o.1.2 o2,PT.Fs (.self P2 o2) H1.o.1.2 H1.o.2.2.1,H1.o.2.2.2.step hb o2 (λg hg=> .inl hg)⟩)
  clear P2 o2 y0 y1 y2 AQ hx1 hx2 hx3;have z0:=B2.o.ab (i:=0) rfl;have z1:=B2.o.ab (i:=1) rfl;have z2:=B2.o.ab (i:=2) rfl
  by_cases he:e1=11
  .subst he;obtain⟨bb,xR⟩:∃bb,bb=decide ((bA x.leaf x.l).2=0):=⟨_,rfl⟩;have KF:=xh (EL (w:=w2) x.leaf A x.l.length c x.l H2.o.2.2.1 (by omega) bb xR);unfold aV at KF;have HBB:=xh xR;clear xR;go_wp2_with fail;refine KF.o.mono ?_;rintro e w3 ⟨rfl,dR⟩;have B3:=xh (B2.o.below dR B2.o.lt)
   have H3:=xh (show TQ w3 tb I F q1 n (Kz+1)/\aH w3 b (.slice (some ⟨g,0,none⟩) (pre.length+1) cc) L/\aQ w3 111 3 (.slice A x.l.length c) x.l.length (ax x.l)/\OB b w w3 F F from⟨H2.o.1.below dR,H2.o.2.1.below dR,H2.o.2.2.1.below dR,H2.o.2.2.2.below dR⟩);clear dR z0 z1 z2;have z0:=B3.o.ab (i:=0) rfl;have z1:=B3.o.ab (i:=1) rfl;have z2:=B3.o.ab (i:=2) rfl
   cases bb
   .have nu:(bA x.leaf x.l).2≠0:=by have:=HBB.o;simpa using this.symm
    have h2l:=HWR.o (by trivial) nu;have HLT3:=xh (show ∀Z∈L,∀g∈ah Z.v,g<w3.heap.size from λZ hZ=>(H3.o.2.1.e Z hZ).1.lt);have KH:=xh (Nd.BO (w:=w3) x.leaf A x.l.length c x.l H3.o.2.2.1 h2l (by omega) (yU HLX.o));unfold aV at KH;have cd:=ic.o;rw[if_neg (by simp[nu])]at cd;have ic:=xh cd;clear cd HWR;go_wp2_with fail;refine KH.o.mono ?_;rintro e w4 ⟨⟨t,A1,c1,A2,c2,rfl,C9,SL1,SL2,DU⟩,fw⟩;obtain rfl:bg x.l=t:=Nd.CY C9
    have HF2:=xh DU;clear DU;have hb12:1<=bg x.l/\bg x.l<x.l.length:=⟨C9.1,C9.2.1⟩;clear C9;have lk:=ae (ae (Below.refl w4.heap.size w4) (.cells #[.bool x.leaf,.slice A1 (bg x.l) c1] 118)) (.cells #[.bool x.leaf,.slice A2 (x.l.length-bg x.l) c2] 118);have nt:=ao fw lk;have BA:=xh ((aD.new w4 118 #[.bool x.leaf,.slice A1 (bg x.l) c1]).alloc (.cells #[.bool x.leaf,.slice A2 (x.l.length-bg x.l) c2] 118))
    have bB:=aD.new (w4.alloc (.cells #[.bool x.leaf,.slice A1 (bg x.l) c1] 118)) 118 #[.bool x.leaf,.slice A2 (x.l.length-bg x.l) c2];rw[uh]at bB;have BB:=xh bB;have B5:=xh (B3.o.below nt B3.o.lt)
    have H5:=xh (show TQ _ tb I F q1 n (Kz+1)/\aH _ b (.slice (some ⟨g,0,none⟩) (pre.length+1) cc) L/\OB b w _ F F/\aQ _ 111 3 (.slice A1 (bg x.l) c1) (bg x.l) (ax (x.l.take (bg x.l)))/\aQ _ 111 3 (.slice A2 (x.l.length-bg x.l) c2) (x.l.length-bg x.l) (ax (x.l.drop (bg x.l)))from
     ⟨H3.o.1.below nt,H3.o.2.1.below nt,H3.o.2.2.2.below nt,SL1.below lk,SL2.below lk⟩)
    have u0:=BA.o.ab (i:=0) rfl;have u1:=BA.o.ab (i:=1) rfl;have v0:=BB.o.ab (i:=0) rfl;have v1:=BB.o.ab (i:=1) rfl;clear z0 z1 z2 bB fw nt lk SL1 SL2 H3 B3;generalize bg x.l=hf at *
    rcases vF pre with rfl|⟨ev,y,hpe⟩
    .have KG:=xh (ES H5.o.1 (by omega) x.leaf A1 hf c1 (x.l.take hf) H5.o.2.2.2.1 A2 (x.l.length-hf) c2 (x.l.drop hf) H5.o.2.2.2.2 (by omega) (by omega) (by omega));have cd:=ic.o;dsimp only[List.reverse_nil]at cd;rw[cd]at KG;unfold aV at KG;clear cd;go_wp2_with fail;refine KG.o.mono ?_;rintro e w6 ⟨rfl,P6⟩;have P6:=xh P6;clear u0 u1 v0 v1;go_wp2_with fail;go_ret;refine⟨by first|rfl|simp,?_⟩;obtain⟨F6,P,o,f⟩:=P6.o
     exact((H5.o.2.2.1.step hb o f).pb P).le (by omega)
    .obtain rfl:pre=ev++[y]:=by simpa using hpe
     clear hpe;have Fu:(ev++[y]).length=ev.length+1:=by simp
     have hne1:¬(((ev.length+1+1:Nat):Int)=1):=by omega
     have KM:=xh (pV H5.o.1 (by omega) x.leaf A2 (x.l.length-hf) c2 (x.l.drop hf) H5.o.2.2.2.2 (by omega));have cd:=ic.o;rw[List.reverse_append,List.reverse_singleton,nF]at cd;dsimp only at cd;generalize q1.cO x.leaf (x.l.drop hf)=R2 at *;obtain⟨q2,l2,e2⟩:=R2;dsimp only at *;have ic:=xh cd;unfold aV at KM;clear cd;go_wp2_with fail;refine KM.o.mono ?_;rintro e w6 ⟨rfl,P6⟩;have SA6:=P6.Fs H5.o.1.2 H5.o.2.2.2.1
     have SB6:=P6.Fs H5.o.1.2 H5.o.2.2.2.2;obtain⟨F6,T6,o6,f6⟩:=P6.tq H5.o.1;have A6:=xh (BA.o.only o6 (H5.o.1.2.jC BA.o (by decide) (by decide) (by decide) (by decide) (by decide) (by decide) (by decide) (by decide) (by decide)));have B6:=xh (BB.o.only o6 (H5.o.1.2.jC BB.o (by decide) (by decide) (by decide) (by decide) (by decide) (by decide) (by decide) (by decide) (by decide)))
     have D6:=xh (B5.o.only o6 (H5.o.1.2.jC B5.o (by decide) (by decide) (by decide) (by decide) (by decide) (by decide) (by decide) (by decide) (by decide)));have H6:=xh (show TQ w6 tb I F6 q2 n (Kz+2)/\aH w6 b (.slice (some ⟨g,0,none⟩) ((ev++[y]).length+1) cc) L/\OB b w w6 F F6/\aQ w6 111 3 (.slice A1 hf c1) hf (ax (x.l.take hf))/\aQ w6 111 3 (.slice A2 (x.l.length-hf) c2) (x.l.length-hf) (ax (x.l.drop hf))from
      ⟨T6,H5.o.2.1.vr H5.o.1.2 o6,H5.o.2.2.1.step hb o6 f6,SA6,SB6⟩)
     clear P6 SA6 SB6 T6 o6 f6 u0 u1 v0 v1 BA BB B5
     by_cases C5:e2=0
     .subst C5;have cd:=ic.o;rw[if_neg (by simp)]at cd;have K7:=xh (KW.o w6 F6 q2 (Kz+2) H6.o.1 (by omega) A1 hf c1 (x.l.take hf) H6.o.2.2.2.1 (by omega));generalize q2.cA x.an x.leaf (x.l.take hf)=R3 at *;obtain⟨q3,e3⟩:=R3;dsimp only at *;have ic:=xh cd;have z0:=D6.o.ab (i:=0) rfl;have u0:=A6.o.ab (i:=0) rfl;have u1:=A6.o.ab (i:=1) rfl;clear cd;go_wp2_with fail;refine K7.o.mono ?_;rintro e w7 ⟨rfl,P7,o7⟩
      have B7:=xh (B6.o.only o7 (H6.o.1.2.jC B6.o (by decide) (by decide) (by decide) (by decide) (by decide) (by decide) (by decide) (by decide) (by decide)));have H7:=xh (show TQ w7 tb I F6 q3 n (Kz+3)/\aH w7 b (.slice (some ⟨g,0,none⟩) ((ev++[y]).length+1) cc) L/\OB b w w7 F F6/\aQ w7 111 3 (.slice A2 (x.l.length-hf) c2) (x.l.length-hf) (ax (x.l.drop hf))from
       ⟨H6.o.1.next o7 P7,H6.o.2.1.vr H6.o.1.2 o7,H6.o.2.2.1.step hb o7 (λg hg=> .inl hg),PT.Fs (.self P7 o7) H6.o.1.2 H6.o.2.2.2.2⟩)
      clear P7 o7 z0 u0 u1 A6 B6 D6
      by_cases Da:e3=0
      .subst Da;obtain⟨yV,AY,cY,rfl,hLp'⟩:∃yV AY cY,Lp=yV++[(⟨y,AY,cY⟩:SM)]/\yV.map SM.s=ev:=by
        have:=HPRE.o
        rcases vF Lp with h0|⟨yV,Y,h0⟩
        .rw[h0]at this;simp at this
        .have h0:Lp=yV++[Y]:=by simpa using h0
         rw[h0,eh]at this;obtain⟨a1,a2⟩:=List.append_inj' this rfl;obtain⟨ys,AY,cY⟩:=Y;simp at a2;subst a2;exact⟨yV,AY,cY,h0,a1⟩
       have hLL:yV.length=ev.length:=by rw[<-hLp',j0]
       have ug:=xh hLL;have HMP:=xh hLp';have hHL:=HL.o;rw[cN,nF]at hHL;have hfy:=tm.o y (by simp);have hya:=hfy.a;have hyn:=hfy.n;have HFY:=xh hfy;obtain⟨eb,rb,Ic⟩:∃eb rb,x.l.drop hf=eb::rb:=by
        cases hd:x.l.drop hf with
        |nil=>have:=congrArg List.length hd;rw[dg]at this;simp at this;omega
        |cons e r=>exact⟨e,r,rfl⟩
       obtain⟨g2,wE,IU,nP,BB2,_,_⟩:=H7.o.2.2.2.form (by omega) (by omega);simp only[Value.slice.injEq,true_and]at nP;obtain⟨rfl,rfl⟩:=nP;rw[Ic]at BB2;have cd:=ic.o;rw[if_neg (by simp),Ic]at cd;have ic:=xh cd
       have H8:=xh (show TQ w7.drew tb I F6 q3 n (Kz+3)/\aH w7.drew b (.slice (some ⟨g,0,none⟩) ((ev++[y]).length+1) cc) (yV++⟨y,AY,cY⟩::[⟨x,A,c⟩])/\OB b w w7.drew F F6/\aD w7.drew (w4.heap.size+1) 118 #[.bool x.leaf,.slice (some ⟨g2,0,none⟩) (x.l.length-hf) c2]/\aD w7.drew g2 111 (ax (eb::rb)++IU).toArray from
        ⟨H7.o.1.drew,by have:=H7.o.2.1;rw[hHL]at this;exact this.below (Below.refl _ _).drew,H7.o.2.2.1.below (Below.refl _ _).drew,B7.o.drew,BB2.drew⟩)
       have HB8:=xh (show b<=w7.drew.heap.size from by have:=H7.o.2.2.1.size;show b<=w7.heap.size;omega);have HNY:=xh (show g2∉ah (.slice AY y.l.length cY)from λhm=>by have h1:=HF2.o g2 (by simp[ah]);have h2:=HLT3.o ⟨y,AY,cY⟩ (by rw[hHL];simp) g2 hm;omega);generalize w4.heap.size+1=gB at *;have s3:IntKind.i64.wrap (((ev.length+1+1:Nat):Int)-2)=(ev.length:Int):=by rw[show((ev.length+1+1:Nat):Int)-2=(ev.length:Int) by omega];exact IntWalk.i64_in _ (by omega)
       have s4:(ev.length:Int)<((ev.length+1+1:Nat):Int):=by omega
       have s5:IntKind.i64.wrap ((y.at_:Int)+1)=((y.at_+1:Nat):Int):=by rw[show(y.at_:Int)+1=((y.at_+1:Nat):Int) by omega];exact IntWalk.i64_in _ (by omega)
       have s7:0<x.l.length-hf:=by omega
       have s6:(0:Int)<((x.l.length-hf:Nat):Int):=by omega
       have HDR:=xh Ic;clear BB2 Ic cd H7 hHL hLp' hLL hfy;go_wp2_with fail;obtain⟨w8,zI⟩:∃w8,w7.drew=w8:=⟨_,rfl⟩;rw[zI]at H8 HB8;have HS:=xh (show ∀W,Below w8.heap.size w8 W->(λW=>W.cell? ⟨g,ev.length*4+3,none⟩=some (.int .i64 (y.at_:Nat))/\W.cell? ⟨gB,1,none⟩=some (.slice (some ⟨g2,0,none⟩) (x.l.length-hf) c2)/\W.cell? ⟨g2,0,none⟩=some (.string eb.key)) W from λW hb=>by
        have h1:=(H8.o.2.1.below hb).cell (k:=yV.length) (Z:=⟨y,AY,cY⟩) (by rw[dF (ak _),eB];rfl) 3 (by omega);rw[ug.o]at h1;exact⟨h1,(H8.o.2.2.2.1.below hb H8.o.2.2.2.1.lt).ab (i:=1) rfl,(H8.o.2.2.2.2.below hb H8.o.2.2.2.2.lt).ab (i:=0) rfl⟩)
       have KS8:=xh (HS.o w8 (Below.refl _ _));have x8:w8.cell? ⟨g,ev.length*4+2,none⟩=some (.slice AY y.l.length cY):=by
        have h1:=H8.o.2.1.cell (k:=yV.length) (Z:=⟨y,AY,cY⟩) (by rw[dF (ak _),eB];rfl) 2 (by omega);rw[ug.o]at h1;exact h1
       obtain⟨w9,IW⟩:∃w9,w8.alloc (.cells #[.string eb.key,.string ⟨#[]⟩,.int .i64 l2] 111)=w9:=⟨_,rfl⟩;have fR:Below w8.heap.size w8 w9:=by rw[<-IW];exact ae (Below.refl _ _) _
       have BN9:aD w9 w8.heap.size 111 #[.string eb.key,.string ⟨#[]⟩,.int .i64 l2]:=by rw[<-IW];exact aD.new _ _ _
       have BZ9:w9.frozen? ⟨w8.heap.size,3,none⟩=false:=by rw[<-IW];exact World.frozen?_alloc_at (w:=w8) _ _ w8.heap.size 3 rfl
       have FG:=xh (HS.o w9 fR);have x9:w9.cell? ⟨g,ev.length*4+2,none⟩=some (.slice AY y.l.length cY):=(fR.cell (p:=⟨g,ev.length*4+2,none⟩) (db x8)).trans x8;have H9:=xh (show TQ w9 tb I F6 q3 n (Kz+3)/\aH w9 b (.slice (some ⟨g,0,none⟩) ((ev++[y]).length+1) cc) (yV++⟨y,AY,cY⟩::[⟨x,A,c⟩])/\OB b w w9 F F6/\aD w9 gB 118 #[.bool x.leaf,.slice (some ⟨g2,0,none⟩) (x.l.length-hf) c2]/\aD w9 g2 111 (ax (eb::rb)++IU).toArray from
        ⟨H8.o.1.below fR,H8.o.2.1.below fR,H8.o.2.2.1.below fR,H8.o.2.2.2.1.below fR H8.o.2.2.2.1.lt,H8.o.2.2.2.2.below fR H8.o.2.2.2.2.lt⟩)
       have HB9:=xh (show b<=w9.heap.size from au HB8.o fR.size);have qz:=xh (show(y.l.insertIdx (y.at_+1) (⟨eb.key,⟨#[]⟩,l2⟩:E)).length=y.l.length+1 from by rw[rC,if_pos (by omega)]);have SY:=H9.o.2.1.e ⟨y,AY,cY⟩ (by simp)
       have KI:=xh (Nd.lP (w:=w9) SY.1 ⟨eb.key,⟨#[]⟩,l2⟩ (g2:=w8.heap.size) (cc:=1) BN9 (show y.l.length<=100000 by omega) (λhm=>by have:=(H8.o.2.1.e ⟨y,AY,cY⟩ (by simp)).1.lt _ hm;omega) (y.at_+1) (show y.at_+1<=y.l.length by omega) BZ9)
       have AK:=xh (show ∀W,ag (ah (.slice AY y.l.length cY)) w9 W->(λW=>W.cell? ⟨g,ev.length*4+3,none⟩=some (.int .i64 (y.at_:Nat))/\W.cell? ⟨gB,1,none⟩=some (.slice (some ⟨g2,0,none⟩) (x.l.length-hf) c2)/\W.cell? ⟨g2,0,none⟩=some (.string eb.key)) W from λW o=>by
        have hgY:g∉ah (.slice AY y.l.length cY):=λhm=>fH SY.1 H9.o.2.1.s (by decide) g hm (by simp[ah]);obtain⟨k1,k2,k3⟩:=FG.o;exact⟨(o.cell (p:=⟨g,ev.length*4+3,none⟩) (db k1) hgY).trans k1,(H9.o.2.2.2.1.only o (cy SY.1 H9.o.2.2.2.1 (by decide))).ab (i:=1) rfl,(H9.o.2.2.2.2.only o HNY.o).ab (i:=0) rfl⟩)
       clear SY BN9 BZ9 fR;refine wp_region_held_drew (S:=λW=>W.cell? ⟨g,ev.length*4+3,none⟩=some (.int .i64 (y.at_:Nat))/\W.cell? ⟨gB,1,none⟩=some (.slice (some ⟨g2,0,none⟩) (x.l.length-hf) c2)/\W.cell? ⟨g2,0,none⟩=some (.string eb.key)) (by kernel_rfl) (by rw[zI];exact KS8.o) (λaw=>?_);rw[zI];clear zI;refine dq [(0,67),(1,68),(2,69),(3,70),(4,71),(6,73),(7,74),(8,75),(9,76),(10,77),(11,78),(12,79),(13,80),(14,81),(15,82),(16,83),(17,84)] ?_
       iterate 17 refine za ?_
       refine wpAnyH_ready (rs:=[5,18]) (by kernel_rfl) (by simp) ?_;refine AllReadyH.cons (o:=⟨some 72,_,_,_,_,_⟩) rfl (λK hK=>?_) (AllReadyH.cons (o:=⟨some 85,_,_,_,_,_⟩) rfl (λK hK=>?_) AllReadyH.nil)
       .skip
        go_simp;refine zh hK (KS8.o) (λaw=>?_);refine zd 18 85 λK hK=>?_;go_simp;refine zh hK (FG.o) (λaw=>?_);refine zd 19 86 λK hK=>?_;go_simp
        go_at_call 74
        refine KI.o.mono ?_;rintro e jf ⟨A',c',rfl,oo,j9,f10⟩;have oo:=xh oo;have j9:=xh j9;have f10:=xh f10;have tA:=xh (AK.o jf j9.o);go_simp;refine zh hK (tA.o) (λaw=>?_);refine dq [(20,87),(21,88),(22,89)] ?_
        iterate 3 refine za ?_
        refine zf 23 λK hK=>?_;go_simp;obtain⟨SP,sx,sz⟩:=H9.o.2.1.put (y.l.insertIdx (y.at_+1) ⟨eb.key,⟨#[]⟩,l2⟩) (A':=A') (c':=c') (by rw[qz.o];exact oo.o) j9.o (by rw[qz.o];exact f10.o) HB9.o;rw[ug.o]at SP sx sz;rw[qz.o]at SP;have SP:=xh SP;have sx:jf.cell? ⟨g,ev.length*4+2,none⟩=some (.slice AY y.l.length cY):=sx
        have oq:=xh (show ag (g::ah (.slice AY y.l.length cY)) w9 (jf.setCell ⟨g,ev.length*4+2,none⟩ (.slice A' (y.l.length+1) c'))from(j9.o.mono (λx hx _=>bY _ hx)).setCell (by simp) _);have ET:=(H9.o.2.1.e ⟨y,AY,cY⟩ (by simp)).1;have EU:=SP.o.cell (k:=yV.length) (Z:=⟨{y with l:=y.l.insertIdx (y.at_+1) ⟨eb.key,⟨#[]⟩,l2⟩},A',c'⟩) (by rw[dF (ak _),eB];rfl) 3 (by omega);rw[ug.o]at EU
        have tC:=xh (And.intro EU (And.intro (((H9.o.2.2.2.1.only j9.o (cy ET H9.o.2.2.2.1 (by decide))).aY (p:=⟨g,ev.length*4+2,none⟩) (λe=>cy H9.o.2.1.s H9.o.2.2.2.1 (by decide) (by simp[ah];exact e)) (.slice A' (y.l.length+1) c')).ab (i:=1) rfl) (((H9.o.2.2.2.2.only j9.o HNY.o).aY (p:=⟨g,ev.length*4+2,none⟩) (λe=>cy H9.o.2.1.s H9.o.2.2.2.2 (by decide) (by simp[ah];exact e)) (.slice A' (y.l.length+1) c')).ab (i:=0) rfl)))
        clear ET EU;go_simp;refine zh hK (tC.o) (λaw=>?_);refine wpAnyH_done (by kernel_rfl) ?_ _;go_wp2_with fail;have hT:TQ (jf.setCell ⟨g,ev.length*4+1+1,none⟩ (.slice A' (y.l.length+1) c')) tb I F6 q3 n (Kz+3):=by
         have ke:=H9.o.2.1.off H9.o.1.2;have tD:=H9.o.2.1.tree H9.o.1.1;exact H9.o.1.only oq.o (λz hz hm=>by
          rcases aC.1 hz with h1|h1<;>rcases aC.1 hm with h2|h2
          .exact tD.1 (by rw[<-h1,h2];simp[ah])
          .exact tD.2 ⟨y,AY,cY⟩ (by simp) (by rw[<-h1];exact h2)
          .exact ke.1 z (by rw[h2];simp[ah]) h1
          .exact ke.2 ⟨y,AY,cY⟩ (by simp) z h2 h1)
        have hO:OB b w (jf.setCell ⟨g,ev.length*4+1+1,none⟩ (.slice A' (y.l.length+1) c')) F F6:=H9.o.2.2.1.own oq.o (λz hz=>by
         rcases aC.1 hz with h2|h2
         .rw[h2];exact H9.o.2.1.f g (by simp[ah])
         .exact(H9.o.2.1.e ⟨y,AY,cY⟩ (by simp)).2 z h2)
        have yW:b<=(jf.setCell ⟨g,ev.length*4+1+1,none⟩ (.slice A' (y.l.length+1) c')).heap.size:=au HB9.o oq.o.size;have SQ:aH (jf.setCell ⟨g,ev.length*4+1+1,none⟩ (.slice A' (y.l.length+1) c')) b (.slice (some ⟨g,0,none⟩) (ev.length+1) cc) (yV++[(⟨{y with l:=y.l.insertIdx (y.at_+1) ⟨eb.key,⟨#[]⟩,l2⟩},A',c'⟩:SM)]):=by
         have h2:=aH.pop (L:=yV++[(⟨{y with l:=y.l.insertIdx (y.at_+1) ⟨eb.key,⟨#[]⟩,l2⟩},A',c'⟩:SM)]) (X:=⟨x,A,c⟩) (by rw[cN,nF];exact SP.o);rw[aU,lu,ug.o]at h2;exact h2
        have tE:=ic.o;subst tE;have hLX:=HLX.o;have IY:eb∈x.l:=nC (i:=hf) (by rw[HDR.o];simp);have KR:=gw m ev {y with l:=y.l.insertIdx (y.at_+1) ⟨eb.key,⟨#[]⟩,l2⟩} (by have:=HPM.o;rw[aU,lu]at this;omega) hT (by have:=HK.o;omega) SQ yW (by rw[eh,HMP.o];rfl) (λs hs=>tm.o s (by simp[hs]))
         ⟨by have:=HFY.o.n;show(y.l.insertIdx (y.at_+1) _).length<=90;rw[qz.o];omega,λe he=>by
          rcases(oV (by omega)).1 he with rfl|he
          .exact⟨(hLX.2 eb IY).1,by show(⟨#[]⟩:ByteArray).size<=40;decide⟩
          .exact HFY.o.l.2 e he⟩ (by have:=ng.o;rw[aU,lu]at this;omega)
        refine KR.mono ?_;rintro e w12 ⟨rfl,tF⟩;have tF:=xh tF;have HO:=xh hO;clear hT hO yW SQ hLX IY KR;go_wp2_with fail;go_ret;exact⟨by first|rfl|simp[keyOf],(HO.o.trans tF.o).le (by omega)⟩
       .skip
        go_simp;refine zh hK (FG.o) (λaw=>?_);refine zd 5 72 λK hK=>?_;go_simp;refine zh hK (FG.o) (λaw=>?_);refine zd 19 86 λK hK=>?_;go_simp
        go_at_call 74
        refine KI.o.mono ?_;rintro e jf ⟨A',c',rfl,oo,j9,f10⟩;have oo:=xh oo;have j9:=xh j9;have f10:=xh f10;have tA:=xh (AK.o jf j9.o);go_simp;refine zh hK (tA.o) (λaw=>?_);refine dq [(20,87),(21,88),(22,89)] ?_
        iterate 3 refine za ?_
        refine zf 23 λK hK=>?_;go_simp;obtain⟨SP,sx,sz⟩:=H9.o.2.1.put (y.l.insertIdx (y.at_+1) ⟨eb.key,⟨#[]⟩,l2⟩) (A':=A') (c':=c') (by rw[qz.o];exact oo.o) j9.o (by rw[qz.o];exact f10.o) HB9.o;rw[ug.o]at SP sx sz;rw[qz.o]at SP;have SP:=xh SP;have sx:jf.cell? ⟨g,ev.length*4+2,none⟩=some (.slice AY y.l.length cY):=sx
        have oq:=xh (show ag (g::ah (.slice AY y.l.length cY)) w9 (jf.setCell ⟨g,ev.length*4+2,none⟩ (.slice A' (y.l.length+1) c'))from(j9.o.mono (λx hx _=>bY _ hx)).setCell (by simp) _);have ET:=(H9.o.2.1.e ⟨y,AY,cY⟩ (by simp)).1;have EU:=SP.o.cell (k:=yV.length) (Z:=⟨{y with l:=y.l.insertIdx (y.at_+1) ⟨eb.key,⟨#[]⟩,l2⟩},A',c'⟩) (by rw[dF (ak _),eB];rfl) 3 (by omega);rw[ug.o]at EU
        have tC:=xh (And.intro EU (And.intro (((H9.o.2.2.2.1.only j9.o (cy ET H9.o.2.2.2.1 (by decide))).aY (p:=⟨g,ev.length*4+2,none⟩) (λe=>cy H9.o.2.1.s H9.o.2.2.2.1 (by decide) (by simp[ah];exact e)) (.slice A' (y.l.length+1) c')).ab (i:=1) rfl) (((H9.o.2.2.2.2.only j9.o HNY.o).aY (p:=⟨g,ev.length*4+2,none⟩) (λe=>cy H9.o.2.1.s H9.o.2.2.2.2 (by decide) (by simp[ah];exact e)) (.slice A' (y.l.length+1) c')).ab (i:=0) rfl)))
        clear ET EU;go_simp;refine zh hK (tC.o) (λaw=>?_);refine wpAnyH_done (by kernel_rfl) ?_ _;go_wp2_with fail;have hT:TQ (jf.setCell ⟨g,ev.length*4+1+1,none⟩ (.slice A' (y.l.length+1) c')) tb I F6 q3 n (Kz+3):=by
         have ke:=H9.o.2.1.off H9.o.1.2;have tD:=H9.o.2.1.tree H9.o.1.1;exact H9.o.1.only oq.o (λz hz hm=>by
          rcases aC.1 hz with h1|h1<;>rcases aC.1 hm with h2|h2
          .exact tD.1 (by rw[<-h1,h2];simp[ah])
          .exact tD.2 ⟨y,AY,cY⟩ (by simp) (by rw[<-h1];exact h2)
          .exact ke.1 z (by rw[h2];simp[ah]) h1
          .exact ke.2 ⟨y,AY,cY⟩ (by simp) z h2 h1)
        have hO:OB b w (jf.setCell ⟨g,ev.length*4+1+1,none⟩ (.slice A' (y.l.length+1) c')) F F6:=H9.o.2.2.1.own oq.o (λz hz=>by
         rcases aC.1 hz with h2|h2
         .rw[h2];exact H9.o.2.1.f g (by simp[ah])
         .exact(H9.o.2.1.e ⟨y,AY,cY⟩ (by simp)).2 z h2)
        have yW:b<=(jf.setCell ⟨g,ev.length*4+1+1,none⟩ (.slice A' (y.l.length+1) c')).heap.size:=au HB9.o oq.o.size;have SQ:aH (jf.setCell ⟨g,ev.length*4+1+1,none⟩ (.slice A' (y.l.length+1) c')) b (.slice (some ⟨g,0,none⟩) (ev.length+1) cc) (yV++[(⟨{y with l:=y.l.insertIdx (y.at_+1) ⟨eb.key,⟨#[]⟩,l2⟩},A',c'⟩:SM)]):=by
         have h2:=aH.pop (L:=yV++[(⟨{y with l:=y.l.insertIdx (y.at_+1) ⟨eb.key,⟨#[]⟩,l2⟩},A',c'⟩:SM)]) (X:=⟨x,A,c⟩) (by rw[cN,nF];exact SP.o);rw[aU,lu,ug.o]at h2;exact h2
        have tE:=ic.o;subst tE;have hLX:=HLX.o;have IY:eb∈x.l:=nC (i:=hf) (by rw[HDR.o];simp);have KR:=gw m ev {y with l:=y.l.insertIdx (y.at_+1) ⟨eb.key,⟨#[]⟩,l2⟩} (by have:=HPM.o;rw[aU,lu]at this;omega) hT (by have:=HK.o;omega) SQ yW (by rw[eh,HMP.o];rfl) (λs hs=>tm.o s (by simp[hs]))
         ⟨by have:=HFY.o.n;show(y.l.insertIdx (y.at_+1) _).length<=90;rw[qz.o];omega,λe he=>by
          rcases(oV (by omega)).1 he with rfl|he
          .exact⟨(hLX.2 eb IY).1,by show(⟨#[]⟩:ByteArray).size<=40;decide⟩
          .exact HFY.o.l.2 e he⟩ (by have:=ng.o;rw[aU,lu]at this;omega)
        refine KR.mono ?_;rintro e w12 ⟨rfl,tF⟩;have tF:=xh tF;have HO:=xh hO;clear hT hO yW SQ hLX IY KR;go_wp2_with fail;go_ret;exact⟨by first|rfl|simp[keyOf],(HO.o.trans tF.o).le (by omega)⟩
      .have cd:=ic.o;rw[if_pos Da]at cd;subst cd;have hq:(e3 != 0)=true:=by rw[bne_iff_ne];exact Da
       have lp:(e3==0)=false:=by rw[beq_eq_false_iff_ne];exact Da
       go_wp2_with fail;go_ret;exact⟨by first|rfl|simp,(H7.o.2.2.1.pb H7.o.1.2).le (by omega)⟩
     .have cd:=ic.o;rw[if_pos C5]at cd;subst cd;have hq:(e2 != 0)=true:=by rw[bne_iff_ne];exact C5
      have lp:(e2==0)=false:=by rw[beq_eq_false_iff_ne];exact C5
      go_wp2_with fail;go_ret;exact⟨by first|rfl|simp,(H6.o.2.2.1.pb H6.o.1.2).le (by omega)⟩
   .have nu:(bA x.leaf x.l).2=0:=by have:=HBB.o;simpa using this.symm
    have cd:=ic.o;rw[if_pos (.inr nu)]at cd;subst cd;go_wp2_with fail;go_ret;exact⟨by first|rfl|simp,(H3.o.2.2.2.pb H3.o.1.2).le (by omega)⟩
  .have hq:(e1 != 11)=true:=by rw[bne_iff_ne];exact he
   have lp:(e1==11)=false:=by rw[beq_eq_false_iff_ne];exact he
   have cd:=ic.o;rw[if_pos (.inl he)]at cd;subst cd;go_wp2_with fail;go_ret;exact⟨by first|rfl|simp,(H2.o.2.2.2.pb H2.o.1.2).le (by omega)⟩
end Go.Proofs.YtmonobkginiajaaGreat.Sh
