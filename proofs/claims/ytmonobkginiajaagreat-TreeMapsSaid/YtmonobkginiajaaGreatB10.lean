/- packed. -/
import Derived.Test.YtmonobkginiajaaGreatB9
set_option linter.all false
set_option maxRecDepth 100000
set_option maxHeartbeats 8000000
namespace Go.Proofs.YtmonobkginiajaaGreat
open Go.Proofs.Tryz
namespace Sh
open Go.RowKit Pk Dk Pg
open Nd (E aH bA aX bj dN bP bl cF bU)
attribute [local go_sem ↓] Go.wp_at_zero Go.wp_at_succ
variable{s:Step}{w:World}{I:Ix}{F:List Nat}{n:Nat}
theorem ru{l:List E}{leaf:Bool}(h:dN l leaf):∀e∈l,e.key.size<=32/\e.val.size<=40:=λe he=>by
 obtain⟨i,hi,rfl⟩:=yg.1 he;have:=(h i hi l[i] (aL hi)).1;exact⟨this.1,this.2.1⟩
theorem wD.light(h:wD s):Iz s.l:=⟨by have:=h.2.1;omega,ru h.1⟩
theorem wD.fit(h:wD s)(hl:s.leaf=false):Fit s:=⟨h.light,by have:=h.2.1;omega,h.2.2 hl⟩
theorem PB.pt{w':World}{q:QS}{K b:Nat}(hb:w.heap.size<=b)(h:PB b w w' I F q n K):PT w w' I F q n K:=by
 obtain⟨F',S,P,o,f,g⟩:=h;exact⟨F',P,o.mono (λx hx hl=>(f x hx).elim id (λh=>by omega)),λx hx=>(g x hx).imp id (λh=>by omega)⟩
theorem AE(q:QS)(key value:ByteArray):(q.jq key value).2.1.key=key/\(q.jq key value).2.1.val.size<=40:=by
 unfold QS.jq
 split
 .exact⟨rfl,by assumption⟩
 .exact⟨rfl,aY _⟩
def qx(l:List E)(key:ByteArray):List E:=if cF l key=true then l.eraseIdx (bl l key)else l
def QS.lE(q:QS)(l:List E)(key:ByteArray):QS×Int:=if cF l key=true then q.qv (l.getD (bl l key) Nd.E.zero)else(q,0)
def QS.Vo(q:QS)(key value:ByteArray)(x:Step)(i:Nat)(up:List Step):QS×Int:=
 if(q.jq key value).2.2≠0 then((q.jq key value).1,(q.jq key value).2.2)
 else gm (up.length+1) ({x with l:=x.l.insertIdx i (q.jq key value).2.1}::up) (q.jq key value).1
def QS.iQ(q:QS)(key value:ByteArray):QS×Int:=
 if 32<key.size\/1024<value.size then(q,4)
 else if(q.eM key).2.2≠0 then((q.eM key).1,(q.eM key).2.2)
 else if((q.eM key).1.lE (iX (q.eM key).2.1).l key).2≠0 then(q.eM key).1.lE (iX (q.eM key).2.1).l key
 else((q.eM key).1.lE (iX (q.eM key).2.1).l key).1.Vo key value {iX (q.eM key).2.1 with l:=qx (iX (q.eM key).2.1).l key} (bl (iX (q.eM key).2.1).l key) (q.eM key).2.1.dropLast.reverse
theorem AF{tb:Nat}{q:QS}{Kz:Nat}(h:TQ w tb I F q n Kz)(Vk:Kz<=999999999000)(key value:ByteArray)(xK:key.size<=100000)(Ce:value.size<=100000):
  Calls prog 25 #[tp tb,.string key,.string value] w λe w'=>e=.returned (.int .i64 (q.iQ key value).2)/\PT w w' I F (q.iQ key value).1 n (Kz+100):=by
 have KW:=xh (Ax h (by omega) key);have HT:=xh h;have HK:=xh Vk;have fu:=Mr (q:=q) (key:=key);unfold QS.iQ;generalize q.eM key=R at *;obtain⟨q1,steps,er⟩:=R;dsimp only at *;unfold tp at *
 by_cases hk32:key.size<=32
 .by_cases hv:value.size<=1024
  .rw[if_neg (by omega)];have s5:¬(32<(key.size:Int)):=by omega
   have s6:¬(1024<(value.size:Int)):=by omega
   by_cases he:er=0
   .subst he;obtain⟨pre,x,rfl,sJ,hnl,ny,hlen⟩:=fu rfl;rw[if_neg (by simp),show iX (pre++[x])=x from by unfold iX;simp,show(pre++[x]).dropLast=pre from by simp];have hxo:=ny x (by simp);obtain⟨hm,hl57,_⟩:=hxo;have HLX:=xh (ru hm);have hm:=xh hm;have oX:=xh (show ∀s∈pre,Fit s from λs hs=>(ny s (by simp[hs])).fit (hnl s hs));have sS:=xh hlen;clear fu hnl ny sJ h
    obtain⟨RR,bG⟩:∃RR,(if(q1.lE x.l key).2≠0 then q1.lE x.l key else(q1.lE x.l key).1.Vo key value {x with l:=qx x.l key} (bl x.l key) pre.reverse)=RR:=⟨_,rfl⟩;rw[bG];have eY:=xh bG;clear bG;go_enter func25,ntmps25;go_wp2_with fail;refine KW.o.mono ?_;rintro e w1 ⟨v,L,rfl,SA,nV,P1,o1⟩;have Vp:=SA.last nV;obtain⟨Lp,A,c,g,cc,rfl,lQ,rfl,hbg,Gl,tC,ic,Rv,S1,f1⟩:=Vp
    have H1:=xh (show TQ w1 tb I F q1 n (Kz+16)/\aR w1 w.heap.size (.slice (some ⟨g,0,none⟩) (pre.length+1) cc) (Lp++[⟨x,A,c⟩])/\OB w.heap.size w w1 F F/\w.heap.size<=w1.heap.size from⟨HT.o.next o1 P1,SA,(OB.refl w.heap.size w F).step (ak _) o1 (λ_ hg=> .inl hg),o1.size⟩);have mf:=xh (show Lp.length=pre.length from by rw[<-lQ,fo]);have Vl:=xh lQ;have S1:=xh S1;have x1:w1.cell? ⟨g,pre.length*4+1,none⟩=some (.bool x.leaf):=ic 1 (by omega)
    have x2:w1.cell? ⟨g,pre.length*4+1+1,none⟩=some (.slice A x.l.length c):=ic 2 (by omega);have s1:IntKind.i64.wrap (((pre.length+1:Nat):Int)-1)=(pre.length:Int):=by rw[show((pre.length+1:Nat):Int)-1=(pre.length:Int) by omega];exact IntWalk.i64_in _ (by omega)
    have s2:(pre.length:Int)<((pre.length+1:Nat):Int):=by omega
    have KF:=xh (Nd.wo x.leaf A x.l.length c x.l key (Nd.aT.aH S1.o).2 (by omega) hm.o);unfold bA at KF;clear SA nV P1 o1 lQ ic Rv f1;go_wp2_with fail;refine KF.o.mono ?_;rintro e w3 ⟨rfl,gh⟩;have O3:=xh gh
    have H3:=xh (show TQ w3 tb I F q1 n (Kz+16)/\aR w3 w.heap.size (.slice (some ⟨g,0,none⟩) (pre.length+1) cc) (Lp++[⟨x,A,c⟩])/\OB w.heap.size w w3 F F/\w.heap.size<=w3.heap.size from⟨H1.o.1.below O3.o,H1.o.2.1.below O3.o,H1.o.2.2.1.below O3.o,ar H1.o.2.2.2 O3.o.size⟩);have S3:=xh (S1.o.below gh);have u2:w3.cell? ⟨g,pre.length*4+1+1,none⟩=some (.slice A x.l.length c):=(O3.o.cell (p:=⟨g,pre.length*4+1+1,none⟩) (dX x2)).trans x2
    clear x1 x2 gh H1 S1 O3
    by_cases hh:cF x.l key=true
    .skip
     obtain⟨ex,hex⟩:=Ay hh;have hfx:x.l.getD (bl x.l key) Nd.E.zero=ex:=by rw[gH,hex];rfl
     have bG:=eY.o;unfold QS.lE qx at bG;rw[if_pos hh,if_pos hh,hfx]at bG;generalize cF x.l key=hb at *;subst hh;have qb:bl x.l key<x.l.length:=(aS.1 hex).1;generalize bl x.l key=at_ at *;obtain⟨ad,wC,fT⟩:=(Nd.aT.aH S3.o).2.2 at_ ex hex;obtain⟨ga,ca,xI,Bv,_⟩:=S3.o.form (by omega) (by omega);injection Bv with e1 ezz e3
     clear ezz;subst e1 e3;injection wC with wC
     subst wC;rw[Nd.fe,bg]at fT;have u3:=fT.c0;have u4:=fT.c1;have u5:=fT.c2;dsimp only at u4 u5;have KA:=xh (Dq H3.o.1 (by omega) ex);unfold E.agg tp at KA;have hflI:(at_:Int)<(x.l.length:Int):=by omega
     generalize q1.qv ex=R2 at *;obtain⟨q2,e2⟩:=R2;dsimp only at *;have eY:=xh bG;clear fT hex hfx bG;go_wp2_with fail;refine KA.o.mono ?_;rintro e w4 ⟨rfl,P4,o4⟩
     have H4:=xh (show TQ w4 tb I F q2 n (Kz+21)/\aR w4 w.heap.size (.slice (some ⟨g,0,none⟩) (pre.length+1) cc) (Lp++[⟨x,some ⟨ga,0,none⟩,c⟩])/\OB w.heap.size w w4 F F/\w.heap.size<=w4.heap.size from⟨H3.o.1.next o4 P4,H3.o.2.1.uJ H3.o.1.2 o4,H3.o.2.2.1.step (ak _) o4 (λ_ hg=> .inl hg),ar H3.o.2.2.2 o4.size⟩);clear P4 o4 u2 u3 u4 u5 S3
     by_cases rW:e2=0
     .subst rW;have bG:=eY.o;rw[if_neg (show ¬((0:Int)≠0) by simp)]at bG;have eY:=xh bG;have SX:=H4.o.2.1.e ⟨x,some ⟨ga,0,none⟩,c⟩ (by simp);have KD:=xh (Nd.qs SX.1 at_ qb (show x.l.length<=100000 by omega));have u2:=H4.o.2.1.cell (k:=Lp.length) (Z:=⟨x,some ⟨ga,0,none⟩,c⟩) (by rw[dW (ak _),fy];rfl) 2 (by omega);rw[mf.o]at u2
      replace u2:w4.cell? ⟨g,pre.length*4+1+1,none⟩=some (.slice (some ⟨ga,0,none⟩) x.l.length c):=u2
      have Bw:=xh (show(x.l.eraseIdx at_).length=x.l.length-1 from by rw[JQ qb]);have s7:IntKind.i64.wrap ((at_:Int)+1)=(at_:Int)+1:=IntWalk.i64_in _ (by omega);clear SX bG;go_wp2_with fail;refine KD.o.mono ?_;rintro e w5 ⟨rfl,S5,o5⟩;obtain⟨SP,sx,sz⟩:=H4.o.2.1.put (Lp:=Lp) (Ls:=[]) (x.l.eraseIdx at_) (A':=some ⟨ga,0,none⟩) (c':=c) (by rw[Bw.o];exact S5) o5 (λz hz=> .inl hz) H4.o.2.2.2;rw[mf.o]at SP sx sz;rw[Bw.o]at SP
      replace sx:w5.cell? ⟨g,pre.length*4+1+1,none⟩=some (.slice (some ⟨ga,0,none⟩) x.l.length c):=sx
      replace sz:w5.frozen? ⟨g,pre.length*4+1+1,none⟩=false:=sz
      have O5:ag (g::ai (.slice (some ⟨ga,0,none⟩) x.l.length c)) w4 (w5.setCell ⟨g,pre.length*4+1+1,none⟩ (.slice (some ⟨ga,0,none⟩) (x.l.length-1) c)):=(o5.mono (λx hx _=>ax _ hx)).setCell (by simp) _;have kr:=H4.o.2.1.off H4.o.1.2;have sU:=H4.o.2.1.tree H4.o.1.1
      have H5:=xh (show TQ (w5.setCell ⟨g,pre.length*4+1+1,none⟩ (.slice (some ⟨ga,0,none⟩) (x.l.length-1) c)) tb I F q2 n (Kz+21)/\aR (w5.setCell ⟨g,pre.length*4+1+1,none⟩ (.slice (some ⟨ga,0,none⟩) (x.l.length-1) c)) w.heap.size (.slice (some ⟨g,0,none⟩) (pre.length+1) cc) (Lp++[⟨{x with l:=x.l.eraseIdx at_},some ⟨ga,0,none⟩,c⟩])/\OB w.heap.size w (w5.setCell ⟨g,pre.length*4+1+1,none⟩ (.slice (some ⟨ga,0,none⟩) (x.l.length-1) c)) F F/\w.heap.size<=(w5.setCell ⟨g,pre.length*4+1+1,none⟩ (.slice (some ⟨ga,0,none⟩) (x.l.length-1) c)).heap.size from
       ⟨H4.o.1.only O5 (λz hz hm=>by
        rcases an.1 hz with h1|h1<;>rcases an.1 hm with h2|h2
        .exact sU.1 (by rw[<-h1,h2];simp[ai])
        .exact sU.2 ⟨x,some ⟨ga,0,none⟩,c⟩ (by simp) (by rw[<-h1];exact h2)
        .exact kr.1 z (by rw[h2];simp[ai]) h1
        .exact kr.2 ⟨x,some ⟨ga,0,none⟩,c⟩ (by simp) z h2 h1),SP,H4.o.2.2.1.own O5 (λz hz=>by
        rcases an.1 hz with h2|h2
        .rw[h2];exact H4.o.2.1.f g (by simp[ai])
        .exact(H4.o.2.1.e ⟨x,some ⟨ga,0,none⟩,c⟩ (by simp)).2 z h2),ar H4.o.2.2.2 O5.size⟩)
      clear SP S5 o5 O5 kr sU;have HLY:=xh (show ∀e∈x.l.eraseIdx at_,e.key.size<=32/\e.val.size<=40 from λe he=>HLX.o e (List.mem_of_mem_eraseIdx he));obtain⟨w6,N9⟩:∃w6,(w5.setCell ⟨g,pre.length*4+1+1,none⟩ (.slice (some ⟨ga,0,none⟩) (x.l.length-1) c))=w6:=⟨_,rfl⟩;rw[N9]at H5
      go_upto_region 13 with fail
      clear N9 sx sz u2;have bG:=eY.o;have hya:at_<=(x.l.eraseIdx at_).length:=by rw[Bw.o];omega
      have hyn:(x.l.eraseIdx at_).length<=57:=by rw[Bw.o];omega
      generalize hY:({x with l:=x.l.eraseIdx at_}:Step)=y at *;have hyl:y.l=x.l.eraseIdx at_:=by rw[<-hY]
      rw[<-hyl]at HLY hya hyn;generalize hAY:some (⟨ga,0,none⟩:Addr)=AY at H5;obtain⟨cY,rfl⟩:∃cY,cY=c:=⟨_,rfl⟩;have eY:=xh bG;clear hyl hY hAY bG;have KT:=xh (Dr H5.o.1 (by omega) key value hv);have nW:=AE q2 key value;have bG:=eY.o;unfold QS.Vo at bG;generalize q2.jq key value=R3 at *;obtain⟨q3,en,e3⟩:=R3;dsimp only at *;obtain⟨rfl,Mu⟩:=nW;have HEN:=xh (And.intro hk32 Mu);have eY:=xh bG;unfold E.agg tp at KT;clear bG Mu
      go_wp2_with fail;refine KT.o.mono ?_;rintro e w4 ⟨rfl,P4⟩;obtain⟨F4,T4,o4,f4⟩:=P4.tq H5.o.1;have H4:=xh (show TQ w4 tb I F4 q3 n (Kz+26)/\aR w4 w.heap.size (.slice (some ⟨g,0,none⟩) (pre.length+1) cc) (Lp++[⟨y,AY,cY⟩])/\OB w.heap.size w w4 F F4/\w.heap.size<=w4.heap.size from⟨T4,H5.o.2.1.uJ H5.o.1.2 o4,H5.o.2.2.1.step (ak _) o4 f4,ar H5.o.2.2.2 o4.size⟩);clear P4 o4 f4 T4
      by_cases N7:e3=0
      .subst N7;have bG:=eY.o;rw[if_neg (show ¬((0:Int)≠0) by simp)]at bG;rw[List.length_reverse]at bG;have eY:=xh bG;clear bG;obtain⟨w8,Cd⟩:∃w8,(w4.alloc (.cells #[.string en.key,.string en.val,.int .i64 en.aW] 111)).drew=w8:=⟨_,rfl⟩;have AG:Below w4.heap.size w4 w8:=by rw[<-Cd];exact(ae (Below.refl _ _) _).drew
       have Vq:aJ w8 w4.heap.size 111 #[.string en.key,.string en.val,.int .i64 en.aW]:=by rw[<-Cd];exact(aJ.new _ _ _).drew
       have H8:=xh (show TQ w8 tb I F4 q3 n (Kz+26)/\aR w8 w.heap.size (.slice (some ⟨g,0,none⟩) (pre.length+1) cc) (Lp++⟨y,AY,cY⟩::[])/\OB w.heap.size w w8 F F4/\w.heap.size<=w8.heap.size/\aJ w8 w4.heap.size 111 #[.string en.key,.string en.val,.int .i64 en.aW]from
        ⟨H4.o.1.below AG,H4.o.2.1.below AG,H4.o.2.2.1.below AG,ar H4.o.2.2.2 AG.size,Vq⟩)
       have QO:=xh (show(λW=>W.cell? ⟨w4.heap.size,0,none⟩=some (.string en.key)/\W.cell? ⟨w4.heap.size,1,none⟩=some (.string en.val)/\W.cell? ⟨w4.heap.size,2,none⟩=some (.int .i64 en.aW)) w8 from And.intro (Vq.ab (i:=0) rfl) (And.intro (Vq.ab (i:=1) rfl) (Vq.ab (i:=2) rfl)));have x8:w8.cell? ⟨g,pre.length*4+2,none⟩=some (.slice AY y.l.length cY):=by
        have h1:=H8.o.2.1.cell (k:=Lp.length) (Z:=⟨y,AY,cY⟩) (by rw[dW (ak _),fy];rfl) 2 (by omega);rw[mf.o]at h1;exact h1
       obtain⟨w9,Vm⟩:∃w9,w8.alloc (.cells #[.string en.key,.string en.val,.int .i64 en.aW] 111)=w9:=⟨_,rfl⟩;have jt:Below w8.heap.size w8 w9:=by rw[<-Vm];exact ae (Below.refl _ _) _
       have BN9:aJ w9 w8.heap.size 111 #[.string en.key,.string en.val,.int .i64 en.aW]:=by rw[<-Vm];exact aJ.new _ _ _
       have BZ9:w9.frozen? ⟨w8.heap.size,3,none⟩=false:=by rw[<-Vm];exact World.frozen?_alloc_at (w:=w8) _ _ w8.heap.size 3 rfl
       have Vr:=H8.o.2.2.2.2.below jt H8.o.2.2.2.2.lt;have N8:=xh (show(λW=>W.cell? ⟨w4.heap.size,0,none⟩=some (.string en.key)/\W.cell? ⟨w4.heap.size,1,none⟩=some (.string en.val)/\W.cell? ⟨w4.heap.size,2,none⟩=some (.int .i64 en.aW)) w9 from And.intro (Vr.ab (i:=0) rfl) (And.intro (Vr.ab (i:=1) rfl) (Vr.ab (i:=2) rfl)));have x9:w9.cell? ⟨g,pre.length*4+2,none⟩=some (.slice AY y.l.length cY):=(jt.cell (p:=⟨g,pre.length*4+2,none⟩) (dX x8)).trans x8
       have H9:=xh (show TQ w9 tb I F4 q3 n (Kz+26)/\aR w9 w.heap.size (.slice (some ⟨g,0,none⟩) (pre.length+1) cc) (Lp++⟨y,AY,cY⟩::[])/\OB w.heap.size w w9 F F4/\w.heap.size<=w9.heap.size/\aJ w9 w4.heap.size 111 #[.string en.key,.string en.val,.int .i64 en.aW]from
        ⟨H8.o.1.below jt,H8.o.2.1.below jt,H8.o.2.2.1.below jt,ar H8.o.2.2.2.1 jt.size,Vr⟩)
       have xJ:=xh (show(y.l.insertIdx at_ en).length=y.l.length+1 from by rw[yK,if_pos (by omega)]);have SY:=H9.o.2.1.e ⟨y,AY,cY⟩ (by simp);have KI:=xh (Nd.qt (w:=w9) SY.1 en (g2:=w8.heap.size) (cc:=1) BN9 (show y.l.length<=100000 by omega) (λhm=>by have:=(H8.o.2.1.e ⟨y,AY,cY⟩ (by simp)).1.lt _ hm;omega) at_ (show at_<=y.l.length by omega) BZ9)
       have Gk:=xh (show ∀W,ag (ai (.slice AY y.l.length cY)) w9 W->(λW=>W.cell? ⟨w4.heap.size,0,none⟩=some (.string en.key)/\W.cell? ⟨w4.heap.size,1,none⟩=some (.string en.val)/\W.cell? ⟨w4.heap.size,2,none⟩=some (.int .i64 en.aW)) W from λW o=>by
        have hB:=H9.o.2.2.2.2.only o (λhm=>by have:=(H4.o.2.1.e ⟨y,AY,cY⟩ (by simp)).1.lt _ hm;omega);exact⟨hB.ab (i:=0) rfl,hB.ab (i:=1) rfl,hB.ab (i:=2) rfl⟩)
       clear SY BN9 BZ9 jt Vq Vr AG;go_wp2_with fail;refine wp_region_held_drew (S:=λW=>W.cell? ⟨w4.heap.size,0,none⟩=some (.string en.key)/\W.cell? ⟨w4.heap.size,1,none⟩=some (.string en.val)/\W.cell? ⟨w4.heap.size,2,none⟩=some (.int .i64 en.aW)) (by kernel_rfl) (by rw[Cd];exact QO.o) (λah=>?_);rw[Cd];clear Cd;refine bM [(0,86),(1,87),(2,88),(3,89),(4,90),(6,92),(7,93)] ?_
       iterate 7 refine aG ?_
       refine wpAnyH_ready (rs:=[5,8]) (by kernel_rfl) (by simp) ?_;refine AllReadyH.cons (o:=⟨some 91,_,_,_,_,_⟩) rfl (λK hK=>?_) (AllReadyH.cons (o:=⟨some 94,_,_,_,_,_⟩) rfl (λK hK=>?_) AllReadyH.nil)
       .skip
        go_simp;refine aA hK (QO.o) (λah=>?_);refine bY 8 94 λK hK=>?_;go_simp;refine aA hK (N8.o) (λah=>?_);refine bY 9 95 λK hK=>?_;go_simp
        go_at_call 74
        refine KI.o.mono ?_;rintro e lY ⟨A',c',rfl,uF,nA,f10⟩;have uF:=xh uF;have nA:=xh nA;have f10:=xh f10;have AA:=xh (Gk.o lY nA.o);go_simp;refine aA hK (AA.o) (λah=>?_);refine bM [(10,96),(11,97),(12,98)] ?_
        iterate 3 refine aG ?_
        refine dv 13 λK hK=>?_;go_simp;obtain⟨SP,sx,sz⟩:=H9.o.2.1.put (y.l.insertIdx at_ en) (A':=A') (c':=c') (by rw[xJ.o];exact uF.o) nA.o (by rw[xJ.o];exact f10.o) H9.o.2.2.2.1;rw[mf.o]at SP sx sz;rw[xJ.o]at SP;have SP:=xh SP
        replace sx:lY.cell? ⟨g,pre.length*4+2,none⟩=some (.slice AY y.l.length cY):=sx
        have rL:=xh (show ag (g::ai (.slice AY y.l.length cY)) w9 (lY.setCell ⟨g,pre.length*4+2,none⟩ (.slice A' (y.l.length+1) c'))from(nA.o.mono (λx hx _=>ax _ hx)).setCell (by simp) _);have QP:=(H9.o.2.1.e ⟨y,AY,cY⟩ (by simp)).1
        have nW:=((H9.o.2.2.2.2.only nA.o (λhm=>by have:=(H4.o.2.1.e ⟨y,AY,cY⟩ (by simp)).1.lt _ hm;omega)).aW (p:=⟨g,pre.length*4+2,none⟩) (λe=>cU H9.o.2.1.s H9.o.2.2.2.2 (by decide) (by simp[ai];exact e)) (.slice A' (y.l.length+1) c'));have wE:=xh (And.intro (nW.ab (i:=0) rfl) (And.intro (nW.ab (i:=1) rfl) (nW.ab (i:=2) rfl)));clear QP nW;go_simp;refine aA hK (wE.o) (λah=>?_);refine wpAnyH_done (by kernel_rfl) ?_ _
        go_wp2_with fail;have hT:TQ (lY.setCell ⟨g,pre.length*4+1+1,none⟩ (.slice A' (y.l.length+1) c')) tb I F4 q3 n (Kz+26):=by
         have kr:=H9.o.2.1.off H9.o.1.2;have sU:=H9.o.2.1.tree H9.o.1.1;exact H9.o.1.only rL.o (λz hz hm=>by
          rcases an.1 hz with h1|h1<;>rcases an.1 hm with h2|h2
          .exact sU.1 (by rw[<-h1,h2];simp[ai])
          .exact sU.2 ⟨y,AY,cY⟩ (by simp) (by rw[<-h1];exact h2)
          .exact kr.1 z (by rw[h2];simp[ai]) h1
          .exact kr.2 ⟨y,AY,cY⟩ (by simp) z h2 h1)
        have hO:OB w.heap.size w (lY.setCell ⟨g,pre.length*4+1+1,none⟩ (.slice A' (y.l.length+1) c')) F F4:=H9.o.2.2.1.own rL.o (λz hz=>by
         rcases an.1 hz with h2|h2
         .rw[h2];exact H9.o.2.1.f g (by simp[ai])
         .exact(H9.o.2.1.e ⟨y,AY,cY⟩ (by simp)).2 z h2)
        have IC:w.heap.size<=(lY.setCell ⟨g,pre.length*4+1+1,none⟩ (.slice A' (y.l.length+1) c')).heap.size:=ar H9.o.2.2.2.1 rL.o.size;have SQ:aR (lY.setCell ⟨g,pre.length*4+1+1,none⟩ (.slice A' (y.l.length+1) c')) w.heap.size (.slice (some ⟨g,0,none⟩) (pre.length+1) cc) (Lp++[(⟨{y with l:=y.l.insertIdx at_ en},A',c'⟩:SM)]):=by
         exact SP.o
        have uK:=eY.o;subst uK;have KR:=jX (pre.length+1) pre {y with l:=y.l.insertIdx at_ en} (ak _) hT (by have:=HK.o;have:=sS.o;omega) SQ IC (by rw[dA,Vl.o];rfl) oX.o
         ⟨by show(y.l.insertIdx at_ _).length<=90;rw[xJ.o];omega,λe he=>by
          rcases(qK (by omega)).1 he with rfl|he
          .exact HEN.o
          .exact HLY.o e he⟩ (by have:=sS.o;omega)
        refine KR.mono ?_;rintro e w12 ⟨rfl,AB⟩;have AB:=xh AB;have HO:=xh hO;clear hT hO IC SQ KR;go_wp2_with fail;go_ret;exact aE (((HO.o.trans AB.o).pt (ak _)).le (by have:=sS.o;omega))
       .skip
        go_simp;refine aA hK (N8.o) (λah=>?_);refine bY 5 91 λK hK=>?_;go_simp;refine aA hK (N8.o) (λah=>?_);refine bY 9 95 λK hK=>?_;go_simp
        go_at_call 74
        refine KI.o.mono ?_;rintro e lY ⟨A',c',rfl,uF,nA,f10⟩;have uF:=xh uF;have nA:=xh nA;have f10:=xh f10;have AA:=xh (Gk.o lY nA.o);go_simp;refine aA hK (AA.o) (λah=>?_);refine bM [(10,96),(11,97),(12,98)] ?_
        iterate 3 refine aG ?_
        refine dv 13 λK hK=>?_;go_simp;obtain⟨SP,sx,sz⟩:=H9.o.2.1.put (y.l.insertIdx at_ en) (A':=A') (c':=c') (by rw[xJ.o];exact uF.o) nA.o (by rw[xJ.o];exact f10.o) H9.o.2.2.2.1;rw[mf.o]at SP sx sz;rw[xJ.o]at SP;have SP:=xh SP
        replace sx:lY.cell? ⟨g,pre.length*4+2,none⟩=some (.slice AY y.l.length cY):=sx
        have rL:=xh (show ag (g::ai (.slice AY y.l.length cY)) w9 (lY.setCell ⟨g,pre.length*4+2,none⟩ (.slice A' (y.l.length+1) c'))from(nA.o.mono (λx hx _=>ax _ hx)).setCell (by simp) _);have QP:=(H9.o.2.1.e ⟨y,AY,cY⟩ (by simp)).1
        have nW:=((H9.o.2.2.2.2.only nA.o (λhm=>by have:=(H4.o.2.1.e ⟨y,AY,cY⟩ (by simp)).1.lt _ hm;omega)).aW (p:=⟨g,pre.length*4+2,none⟩) (λe=>cU H9.o.2.1.s H9.o.2.2.2.2 (by decide) (by simp[ai];exact e)) (.slice A' (y.l.length+1) c'));have wE:=xh (And.intro (nW.ab (i:=0) rfl) (And.intro (nW.ab (i:=1) rfl) (nW.ab (i:=2) rfl)));clear QP nW;go_simp;refine aA hK (wE.o) (λah=>?_);refine wpAnyH_done (by kernel_rfl) ?_ _
        go_wp2_with fail;have hT:TQ (lY.setCell ⟨g,pre.length*4+1+1,none⟩ (.slice A' (y.l.length+1) c')) tb I F4 q3 n (Kz+26):=by
         have kr:=H9.o.2.1.off H9.o.1.2;have sU:=H9.o.2.1.tree H9.o.1.1;exact H9.o.1.only rL.o (λz hz hm=>by
          rcases an.1 hz with h1|h1<;>rcases an.1 hm with h2|h2
          .exact sU.1 (by rw[<-h1,h2];simp[ai])
          .exact sU.2 ⟨y,AY,cY⟩ (by simp) (by rw[<-h1];exact h2)
          .exact kr.1 z (by rw[h2];simp[ai]) h1
          .exact kr.2 ⟨y,AY,cY⟩ (by simp) z h2 h1)
        have hO:OB w.heap.size w (lY.setCell ⟨g,pre.length*4+1+1,none⟩ (.slice A' (y.l.length+1) c')) F F4:=H9.o.2.2.1.own rL.o (λz hz=>by
         rcases an.1 hz with h2|h2
         .rw[h2];exact H9.o.2.1.f g (by simp[ai])
         .exact(H9.o.2.1.e ⟨y,AY,cY⟩ (by simp)).2 z h2)
        have IC:w.heap.size<=(lY.setCell ⟨g,pre.length*4+1+1,none⟩ (.slice A' (y.l.length+1) c')).heap.size:=ar H9.o.2.2.2.1 rL.o.size;have SQ:aR (lY.setCell ⟨g,pre.length*4+1+1,none⟩ (.slice A' (y.l.length+1) c')) w.heap.size (.slice (some ⟨g,0,none⟩) (pre.length+1) cc) (Lp++[(⟨{y with l:=y.l.insertIdx at_ en},A',c'⟩:SM)]):=by
         exact SP.o
        have uK:=eY.o;subst uK;have KR:=jX (pre.length+1) pre {y with l:=y.l.insertIdx at_ en} (ak _) hT (by have:=HK.o;have:=sS.o;omega) SQ IC (by rw[dA,Vl.o];rfl) oX.o
         ⟨by show(y.l.insertIdx at_ _).length<=90;rw[xJ.o];omega,λe he=>by
          rcases(qK (by omega)).1 he with rfl|he
          .exact HEN.o
          .exact HLY.o e he⟩ (by have:=sS.o;omega)
        refine KR.mono ?_;rintro e w12 ⟨rfl,AB⟩;have AB:=xh AB;have HO:=xh hO;clear hT hO IC SQ KR;go_wp2_with fail;go_ret;exact aE (((HO.o.trans AB.o).pt (ak _)).le (by have:=sS.o;omega))
      .have bG:=eY.o;rw[if_pos N7]at bG;subst bG;have hq:(e3 != 0)=true:=by rw[bne_iff_ne];exact N7
       have kt:(e3==0)=false:=by rw[beq_eq_false_iff_ne];exact N7
       go_wp2_with fail;go_ret;exact aE ((((H4.o.2.2.1.below (ae (Below.refl _ _) _)).pb (H4.o.1.2.below (ae (Below.refl _ _) _))).pt (ak _)).le (by omega))
     .have bG:=eY.o;rw[if_pos rW]at bG;subst bG;have hq:(e2 != 0)=true:=by rw[bne_iff_ne];exact rW
      have kt:(e2==0)=false:=by rw[beq_eq_false_iff_ne];exact rW
      go_wp2_with fail;go_ret;exact aE (((H4.o.2.2.1.pb H4.o.1.2).pt (ak _)).le (by omega))
    .have hh2:cF x.l key=false:=by simpa using hh
     have bG:=eY.o;unfold QS.lE qx at bG;rw[if_neg hh,if_neg hh,if_neg (show ¬((0:Int)≠0) by simp)]at bG;generalize cF x.l key=hb at *;subst hh2;have hya:bl x.l key<=x.l.length:=oo;generalize bl x.l key=at_ at *;obtain⟨q2,rfl⟩:∃q2,q2=q1:=⟨_,rfl⟩;obtain⟨y,rfl⟩:∃y:Step,y=x:=⟨_,rfl⟩;obtain⟨AY,rfl⟩:∃AY,AY=A:=⟨_,rfl⟩;obtain⟨cY,rfl⟩:∃cY,cY=c:=⟨_,rfl⟩;have hyn:y.l.length<=57:=hl57;have HLY:=HLX;have eY:=xh bG
     have H5:=xh (show TQ w3 tb I F q2 n (Kz+21)/\aR w3 w.heap.size (.slice (some ⟨g,0,none⟩) (pre.length+1) cc) (Lp++[⟨y,AY,cY⟩])/\OB w.heap.size w w3 F F/\w.heap.size<=w3.heap.size from⟨H3.o.1.le (by omega),H3.o.2⟩);clear hh bG u2 H3 S3
     go_upto_region 13 with fail
     have KT:=xh (Dr H5.o.1 (by omega) key value hv);have nW:=AE q2 key value;have bG:=eY.o;unfold QS.Vo at bG;generalize q2.jq key value=R3 at *;obtain⟨q3,en,e3⟩:=R3;dsimp only at *;obtain⟨rfl,Mu⟩:=nW;have HEN:=xh (And.intro hk32 Mu);have eY:=xh bG;unfold E.agg tp at KT;clear bG Mu;go_wp2_with fail;refine KT.o.mono ?_;rintro e w4 ⟨rfl,P4⟩;obtain⟨F4,T4,o4,f4⟩:=P4.tq H5.o.1
     have H4:=xh (show TQ w4 tb I F4 q3 n (Kz+26)/\aR w4 w.heap.size (.slice (some ⟨g,0,none⟩) (pre.length+1) cc) (Lp++[⟨y,AY,cY⟩])/\OB w.heap.size w w4 F F4/\w.heap.size<=w4.heap.size from⟨T4,H5.o.2.1.uJ H5.o.1.2 o4,H5.o.2.2.1.step (ak _) o4 f4,ar H5.o.2.2.2 o4.size⟩);clear P4 o4 f4 T4
     by_cases N7:e3=0
     .subst N7;have bG:=eY.o;rw[if_neg (show ¬((0:Int)≠0) by simp)]at bG;rw[List.length_reverse]at bG;have eY:=xh bG;clear bG;obtain⟨w8,Cd⟩:∃w8,(w4.alloc (.cells #[.string en.key,.string en.val,.int .i64 en.aW] 111)).drew=w8:=⟨_,rfl⟩;have AG:Below w4.heap.size w4 w8:=by rw[<-Cd];exact(ae (Below.refl _ _) _).drew
      have Vq:aJ w8 w4.heap.size 111 #[.string en.key,.string en.val,.int .i64 en.aW]:=by rw[<-Cd];exact(aJ.new _ _ _).drew
      have H8:=xh (show TQ w8 tb I F4 q3 n (Kz+26)/\aR w8 w.heap.size (.slice (some ⟨g,0,none⟩) (pre.length+1) cc) (Lp++⟨y,AY,cY⟩::[])/\OB w.heap.size w w8 F F4/\w.heap.size<=w8.heap.size/\aJ w8 w4.heap.size 111 #[.string en.key,.string en.val,.int .i64 en.aW]from
       ⟨H4.o.1.below AG,H4.o.2.1.below AG,H4.o.2.2.1.below AG,ar H4.o.2.2.2 AG.size,Vq⟩)
      have QO:=xh (show(λW=>W.cell? ⟨w4.heap.size,0,none⟩=some (.string en.key)/\W.cell? ⟨w4.heap.size,1,none⟩=some (.string en.val)/\W.cell? ⟨w4.heap.size,2,none⟩=some (.int .i64 en.aW)) w8 from And.intro (Vq.ab (i:=0) rfl) (And.intro (Vq.ab (i:=1) rfl) (Vq.ab (i:=2) rfl)));have x8:w8.cell? ⟨g,pre.length*4+2,none⟩=some (.slice AY y.l.length cY):=by
       have h1:=H8.o.2.1.cell (k:=Lp.length) (Z:=⟨y,AY,cY⟩) (by rw[dW (ak _),fy];rfl) 2 (by omega);rw[mf.o]at h1;exact h1
      obtain⟨w9,Vm⟩:∃w9,w8.alloc (.cells #[.string en.key,.string en.val,.int .i64 en.aW] 111)=w9:=⟨_,rfl⟩;have jt:Below w8.heap.size w8 w9:=by rw[<-Vm];exact ae (Below.refl _ _) _
      have BN9:aJ w9 w8.heap.size 111 #[.string en.key,.string en.val,.int .i64 en.aW]:=by rw[<-Vm];exact aJ.new _ _ _
      have BZ9:w9.frozen? ⟨w8.heap.size,3,none⟩=false:=by rw[<-Vm];exact World.frozen?_alloc_at (w:=w8) _ _ w8.heap.size 3 rfl
      have Vr:=H8.o.2.2.2.2.below jt H8.o.2.2.2.2.lt;have N8:=xh (show(λW=>W.cell? ⟨w4.heap.size,0,none⟩=some (.string en.key)/\W.cell? ⟨w4.heap.size,1,none⟩=some (.string en.val)/\W.cell? ⟨w4.heap.size,2,none⟩=some (.int .i64 en.aW)) w9 from And.intro (Vr.ab (i:=0) rfl) (And.intro (Vr.ab (i:=1) rfl) (Vr.ab (i:=2) rfl)));have x9:w9.cell? ⟨g,pre.length*4+2,none⟩=some (.slice AY y.l.length cY):=(jt.cell (p:=⟨g,pre.length*4+2,none⟩) (dX x8)).trans x8
      have H9:=xh (show TQ w9 tb I F4 q3 n (Kz+26)/\aR w9 w.heap.size (.slice (some ⟨g,0,none⟩) (pre.length+1) cc) (Lp++⟨y,AY,cY⟩::[])/\OB w.heap.size w w9 F F4/\w.heap.size<=w9.heap.size/\aJ w9 w4.heap.size 111 #[.string en.key,.string en.val,.int .i64 en.aW]from
       ⟨H8.o.1.below jt,H8.o.2.1.below jt,H8.o.2.2.1.below jt,ar H8.o.2.2.2.1 jt.size,Vr⟩)
      have xJ:=xh (show(y.l.insertIdx at_ en).length=y.l.length+1 from by rw[yK,if_pos (by omega)]);have SY:=H9.o.2.1.e ⟨y,AY,cY⟩ (by simp);have KI:=xh (Nd.qt (w:=w9) SY.1 en (g2:=w8.heap.size) (cc:=1) BN9 (show y.l.length<=100000 by omega) (λhm=>by have:=(H8.o.2.1.e ⟨y,AY,cY⟩ (by simp)).1.lt _ hm;omega) at_ (show at_<=y.l.length by omega) BZ9)
      have Gk:=xh (show ∀W,ag (ai (.slice AY y.l.length cY)) w9 W->(λW=>W.cell? ⟨w4.heap.size,0,none⟩=some (.string en.key)/\W.cell? ⟨w4.heap.size,1,none⟩=some (.string en.val)/\W.cell? ⟨w4.heap.size,2,none⟩=some (.int .i64 en.aW)) W from λW o=>by
       have hB:=H9.o.2.2.2.2.only o (λhm=>by have:=(H4.o.2.1.e ⟨y,AY,cY⟩ (by simp)).1.lt _ hm;omega);exact⟨hB.ab (i:=0) rfl,hB.ab (i:=1) rfl,hB.ab (i:=2) rfl⟩)
      clear SY BN9 BZ9 jt Vq Vr AG;go_wp2_with fail;refine wp_region_held_drew (S:=λW=>W.cell? ⟨w4.heap.size,0,none⟩=some (.string en.key)/\W.cell? ⟨w4.heap.size,1,none⟩=some (.string en.val)/\W.cell? ⟨w4.heap.size,2,none⟩=some (.int .i64 en.aW)) (by kernel_rfl) (by rw[Cd];exact QO.o) (λah=>?_);rw[Cd];clear Cd;refine bM [(0,86),(1,87),(2,88),(3,89),(4,90),(6,92),(7,93)] ?_
      iterate 7 refine aG ?_
      refine wpAnyH_ready (rs:=[5,8]) (by kernel_rfl) (by simp) ?_;refine AllReadyH.cons (o:=⟨some 91,_,_,_,_,_⟩) rfl (λK hK=>?_) (AllReadyH.cons (o:=⟨some 94,_,_,_,_,_⟩) rfl (λK hK=>?_) AllReadyH.nil)
      .skip
       go_simp;refine aA hK (QO.o) (λah=>?_);refine bY 8 94 λK hK=>?_;go_simp;refine aA hK (N8.o) (λah=>?_);refine bY 9 95 λK hK=>?_;go_simp
       go_at_call 74
       refine KI.o.mono ?_;rintro e lY ⟨A',c',rfl,uF,nA,f10⟩;have uF:=xh uF;have nA:=xh nA;have f10:=xh f10;have AA:=xh (Gk.o lY nA.o);go_simp;refine aA hK (AA.o) (λah=>?_);refine bM [(10,96),(11,97),(12,98)] ?_
       iterate 3 refine aG ?_
       refine dv 13 λK hK=>?_;go_simp;obtain⟨SP,sx,sz⟩:=H9.o.2.1.put (y.l.insertIdx at_ en) (A':=A') (c':=c') (by rw[xJ.o];exact uF.o) nA.o (by rw[xJ.o];exact f10.o) H9.o.2.2.2.1;rw[mf.o]at SP sx sz;rw[xJ.o]at SP;have SP:=xh SP
       replace sx:lY.cell? ⟨g,pre.length*4+2,none⟩=some (.slice AY y.l.length cY):=sx
       have rL:=xh (show ag (g::ai (.slice AY y.l.length cY)) w9 (lY.setCell ⟨g,pre.length*4+2,none⟩ (.slice A' (y.l.length+1) c'))from(nA.o.mono (λx hx _=>ax _ hx)).setCell (by simp) _);have QP:=(H9.o.2.1.e ⟨y,AY,cY⟩ (by simp)).1
       have nW:=((H9.o.2.2.2.2.only nA.o (λhm=>by have:=(H4.o.2.1.e ⟨y,AY,cY⟩ (by simp)).1.lt _ hm;omega)).aW (p:=⟨g,pre.length*4+2,none⟩) (λe=>cU H9.o.2.1.s H9.o.2.2.2.2 (by decide) (by simp[ai];exact e)) (.slice A' (y.l.length+1) c'));have wE:=xh (And.intro (nW.ab (i:=0) rfl) (And.intro (nW.ab (i:=1) rfl) (nW.ab (i:=2) rfl)));clear QP nW;go_simp;refine aA hK (wE.o) (λah=>?_);refine wpAnyH_done (by kernel_rfl) ?_ _
       go_wp2_with fail;have hT:TQ (lY.setCell ⟨g,pre.length*4+1+1,none⟩ (.slice A' (y.l.length+1) c')) tb I F4 q3 n (Kz+26):=by
        have kr:=H9.o.2.1.off H9.o.1.2;have sU:=H9.o.2.1.tree H9.o.1.1;exact H9.o.1.only rL.o (λz hz hm=>by
         rcases an.1 hz with h1|h1<;>rcases an.1 hm with h2|h2
         .exact sU.1 (by rw[<-h1,h2];simp[ai])
         .exact sU.2 ⟨y,AY,cY⟩ (by simp) (by rw[<-h1];exact h2)
         .exact kr.1 z (by rw[h2];simp[ai]) h1
         .exact kr.2 ⟨y,AY,cY⟩ (by simp) z h2 h1)
       have hO:OB w.heap.size w (lY.setCell ⟨g,pre.length*4+1+1,none⟩ (.slice A' (y.l.length+1) c')) F F4:=H9.o.2.2.1.own rL.o (λz hz=>by
        rcases an.1 hz with h2|h2
        .rw[h2];exact H9.o.2.1.f g (by simp[ai])
        .exact(H9.o.2.1.e ⟨y,AY,cY⟩ (by simp)).2 z h2)
       have IC:w.heap.size<=(lY.setCell ⟨g,pre.length*4+1+1,none⟩ (.slice A' (y.l.length+1) c')).heap.size:=ar H9.o.2.2.2.1 rL.o.size;have SQ:aR (lY.setCell ⟨g,pre.length*4+1+1,none⟩ (.slice A' (y.l.length+1) c')) w.heap.size (.slice (some ⟨g,0,none⟩) (pre.length+1) cc) (Lp++[(⟨{y with l:=y.l.insertIdx at_ en},A',c'⟩:SM)]):=by
        exact SP.o
       have uK:=eY.o;subst uK;have KR:=jX (pre.length+1) pre {y with l:=y.l.insertIdx at_ en} (ak _) hT (by have:=HK.o;have:=sS.o;omega) SQ IC (by rw[dA,Vl.o];rfl) oX.o
        ⟨by show(y.l.insertIdx at_ _).length<=90;rw[xJ.o];omega,λe he=>by
         rcases(qK (by omega)).1 he with rfl|he
         .exact HEN.o
         .exact HLY.o e he⟩ (by have:=sS.o;omega)
       refine KR.mono ?_;rintro e w12 ⟨rfl,AB⟩;have AB:=xh AB;have HO:=xh hO;clear hT hO IC SQ KR;go_wp2_with fail;go_ret;exact aE (((HO.o.trans AB.o).pt (ak _)).le (by have:=sS.o;omega))
      .skip
       go_simp;refine aA hK (N8.o) (λah=>?_);refine bY 5 91 λK hK=>?_;go_simp;refine aA hK (N8.o) (λah=>?_);refine bY 9 95 λK hK=>?_;go_simp
       go_at_call 74
       refine KI.o.mono ?_;rintro e lY ⟨A',c',rfl,uF,nA,f10⟩;have uF:=xh uF;have nA:=xh nA;have f10:=xh f10;have AA:=xh (Gk.o lY nA.o);go_simp;refine aA hK (AA.o) (λah=>?_);refine bM [(10,96),(11,97),(12,98)] ?_
       iterate 3 refine aG ?_
       refine dv 13 λK hK=>?_;go_simp;obtain⟨SP,sx,sz⟩:=H9.o.2.1.put (y.l.insertIdx at_ en) (A':=A') (c':=c') (by rw[xJ.o];exact uF.o) nA.o (by rw[xJ.o];exact f10.o) H9.o.2.2.2.1;rw[mf.o]at SP sx sz;rw[xJ.o]at SP;have SP:=xh SP
       replace sx:lY.cell? ⟨g,pre.length*4+2,none⟩=some (.slice AY y.l.length cY):=sx
       have rL:=xh (show ag (g::ai (.slice AY y.l.length cY)) w9 (lY.setCell ⟨g,pre.length*4+2,none⟩ (.slice A' (y.l.length+1) c'))from(nA.o.mono (λx hx _=>ax _ hx)).setCell (by simp) _);have QP:=(H9.o.2.1.e ⟨y,AY,cY⟩ (by simp)).1
       have nW:=((H9.o.2.2.2.2.only nA.o (λhm=>by have:=(H4.o.2.1.e ⟨y,AY,cY⟩ (by simp)).1.lt _ hm;omega)).aW (p:=⟨g,pre.length*4+2,none⟩) (λe=>cU H9.o.2.1.s H9.o.2.2.2.2 (by decide) (by simp[ai];exact e)) (.slice A' (y.l.length+1) c'));have wE:=xh (And.intro (nW.ab (i:=0) rfl) (And.intro (nW.ab (i:=1) rfl) (nW.ab (i:=2) rfl)));clear QP nW;go_simp;refine aA hK (wE.o) (λah=>?_);refine wpAnyH_done (by kernel_rfl) ?_ _
       go_wp2_with fail;have hT:TQ (lY.setCell ⟨g,pre.length*4+1+1,none⟩ (.slice A' (y.l.length+1) c')) tb I F4 q3 n (Kz+26):=by
        have kr:=H9.o.2.1.off H9.o.1.2;have sU:=H9.o.2.1.tree H9.o.1.1;exact H9.o.1.only rL.o (λz hz hm=>by
         rcases an.1 hz with h1|h1<;>rcases an.1 hm with h2|h2
         .exact sU.1 (by rw[<-h1,h2];simp[ai])
         .exact sU.2 ⟨y,AY,cY⟩ (by simp) (by rw[<-h1];exact h2)
         .exact kr.1 z (by rw[h2];simp[ai]) h1
         .exact kr.2 ⟨y,AY,cY⟩ (by simp) z h2 h1)
       have hO:OB w.heap.size w (lY.setCell ⟨g,pre.length*4+1+1,none⟩ (.slice A' (y.l.length+1) c')) F F4:=H9.o.2.2.1.own rL.o (λz hz=>by
        rcases an.1 hz with h2|h2
        .rw[h2];exact H9.o.2.1.f g (by simp[ai])
        .exact(H9.o.2.1.e ⟨y,AY,cY⟩ (by simp)).2 z h2)
       have IC:w.heap.size<=(lY.setCell ⟨g,pre.length*4+1+1,none⟩ (.slice A' (y.l.length+1) c')).heap.size:=ar H9.o.2.2.2.1 rL.o.size;have SQ:aR (lY.setCell ⟨g,pre.length*4+1+1,none⟩ (.slice A' (y.l.length+1) c')) w.heap.size (.slice (some ⟨g,0,none⟩) (pre.length+1) cc) (Lp++[(⟨{y with l:=y.l.insertIdx at_ en},A',c'⟩:SM)]):=by
        exact SP.o
       have uK:=eY.o;subst uK;have KR:=jX (pre.length+1) pre {y with l:=y.l.insertIdx at_ en} (ak _) hT (by have:=HK.o;have:=sS.o;omega) SQ IC (by rw[dA,Vl.o];rfl) oX.o
        ⟨by show(y.l.insertIdx at_ _).length<=90;rw[xJ.o];omega,λe he=>by
         rcases(qK (by omega)).1 he with rfl|he
         .exact HEN.o
         .exact HLY.o e he⟩ (by have:=sS.o;omega)
       refine KR.mono ?_;rintro e w12 ⟨rfl,AB⟩;have AB:=xh AB;have HO:=xh hO;clear hT hO IC SQ KR;go_wp2_with fail;go_ret;exact aE (((HO.o.trans AB.o).pt (ak _)).le (by have:=sS.o;omega))
     .have bG:=eY.o;rw[if_pos N7]at bG;subst bG;have hq:(e3 != 0)=true:=by rw[bne_iff_ne];exact N7
      have kt:(e3==0)=false:=by rw[beq_eq_false_iff_ne];exact N7
      go_wp2_with fail;go_ret;exact aE ((((H4.o.2.2.1.below (ae (Below.refl _ _) _)).pb (H4.o.1.2.below (ae (Below.refl _ _) _))).pt (ak _)).le (by omega))
   .rw[if_pos he];have hq:(er != 0)=true:=by rw[bne_iff_ne];exact he
    have kt:(er==0)=false:=by rw[beq_eq_false_iff_ne];exact he
    clear fu;go_enter func25,ntmps25;go_wp2_with fail;refine KW.o.mono ?_;rintro e w1 ⟨v,L,rfl,SA,nV,P1,o1⟩;have P1:=xh P1;have o1:=xh o1;clear SA nV;go_wp2_with fail;go_ret;exact aE ((PT.self P1.o o1.o).le (by omega))
  .rw[if_pos (by omega)];have s6:1024<(value.size:Int):=by omega
   have s5:¬(32<(key.size:Int)):=by omega
   clear fu;go_enter func25,ntmps25;go_wp2_with fail;go_ret;exact aE ((PT.self HT.o.2 (ag.refl F w)).le (by omega))
 .rw[if_pos (by omega)];have s5:32<(key.size:Int):=by omega
  clear fu;go_enter func25,ntmps25;go_wp2_with fail;go_ret;exact aE ((PT.self HT.o.2 (ag.refl F w)).le (by omega))
variable{n K:Nat}{p:Int}
def QS.Vs(q:QS):Nat:=(List.range 512).countP λj=>decide ((q.vw (j:Nat)).2=0)
theorem cnt_le(q:QS):q.Vs<=512:=by
 have:=vd (p:=λj:Nat=>decide ((q.vw (j:Nat)).2=0)) (l:=List.range 512);rw[Eb]at this;exact this
theorem Wp.vw_lt{q:QS}(h:Wp q n K){j:Int}(h0:(q.vw j).2=0):0<=j/\j<512:=by
 refine⟨vw_pos h0,?_⟩;have hr:(q.a.aP j).2=0:=by
  rcases gQ q j with ho|⟨i,f,hi,rfl,hp⟩
  .rw[eE ho]at h0;exact h0
  .exact h.V.ex f (ay hi) hp
 have:=nN (uw.1 hr);have:=h.H.nl;omega
theorem Vt{q q':QS}(h:Wp q n K)(h0:(q.vw p).2=0)(hv:∀j,q'.vw j=if j=p then([],3)else q.vw j):q'.Vs+1=q.Vs:=by
 obtain⟨p1,p2⟩:=h.vw_lt h0;obtain⟨m,rfl⟩:∃m:Nat,p=(m:Int):=⟨p.toNat,by omega⟩;have hm:m<512:=by omega
 unfold QS.Vs;have key:∀N,m<N->((List.range N).countP λj=>decide ((q'.vw (j:Nat)).2=0))+1=(List.range N).countP λj=>decide ((q.vw (j:Nat)).2=0):=by
  intro N
  induction N with
  |zero=>intro h;omega
  |succ N ih=>
   intro hN;rw[Eg,r7,r7,JD,JD]
   by_cases e:m=N
   .subst e;have h1:decide ((q'.vw (m:Nat)).2=0)=false:=by rw[hv,if_pos rfl];decide
    rw[h1,h0];have h2:((List.range m).countP λj=>decide ((q'.vw (j:Nat)).2=0))=(List.range m).countP λj=>decide ((q.vw (j:Nat)).2=0):=by
     refine r8 (λj hj=>?_);have:=kR.1 hj;rw[hv,if_neg (by omega)]
    rw[h2];simp
   .have h1:q'.vw (N:Nat)=q.vw (N:Nat):=by rw[hv,if_neg (by omega)]
    rw[h1];have:=ih (by omega);omega
 exact key 512 hm
theorem Vu{q q':QS}(hv:∀j,q'.vw j=q.vw j):q'.Vs=q.Vs:=by
 unfold QS.Vs;simp only[hv]
def nB:Nat->QS->Bool->List E->QS×Int
 |0,q,_,_=>(q,0)
 |m+1,q,leaf,l=>
  if leaf=false/\l.length=1 then
   if(q.bJ (l.getD 0 Nd.E.zero).aW).2.2.2≠0 then((q.bJ (l.getD 0 Nd.E.zero).aW).1,(q.bJ (l.getD 0 Nd.E.zero).aW).2.2.2)
   else if((q.bJ (l.getD 0 Nd.E.zero).aW).1.aV (l.getD 0 Nd.E.zero).aW).2≠0 then(q.bJ (l.getD 0 Nd.E.zero).aW).1.aV (l.getD 0 Nd.E.zero).aW
   else nB m ((q.bJ (l.getD 0 Nd.E.zero).aW).1.aV (l.getD 0 Nd.E.zero).aW).1 (q.bJ (l.getD 0 Nd.E.zero).aW).2.1 (q.bJ (l.getD 0 Nd.E.zero).aW).2.2.1
  else if l=[]then q.db 0 true []else q.db 0 leaf l
def QS.sV(q:QS)(leaf:Bool)(l:List E):QS×Int:=nB 600 q leaf l
theorem Vv{q:QS}(h:Wp q n K)(p:Int):Wp (q.bJ p).1 n (K+1)/\(∀j,(q.bJ p).1.vw j=q.vw j):=by
 have hg:=(h.get p).1;have:(q.bJ p).1=(q.dK p).1:=by unfold QS.bJ;split<;>rfl
 rw[this];exact⟨hg.w,hg.v⟩
theorem Vx{q:QS}(h:Wp q n K)(h0:(q.aV p).2=0):(q.aV p).1.Vs+1=q.Vs:=by
 rcases(h.drop p).2 with⟨a,b,c⟩|⟨a,b,c⟩
 .exact Vt h a c
 .rw[h0]at b;exact absurd b (by decide)
theorem Mv{w:World}{tb:Nat}{I:Ix}{F:List Nat}{q:QS}{Kz:Nat}(h:TQ w tb I F q n Kz)(Vk:Kz<=999999990000)(leaf:Bool)(A:Option Addr)(m c:Nat)(l:List E)(S:aT w 111 3 (.slice A m c) m (aH l))(hm:m<=1000):
  Calls prog 133 #[tp tb,bA leaf A m c] w λe w'=>e=.returned (.int .i64 (q.sV leaf l).2)/\PQ w' I F (q.sV leaf l).1 n (Kz+601)/\ag F w w':=by
 have KR:=xh (λ(W:World) (qj:QS) (kj:Nat) (hW:TQ W tb I F qj n kj) (hk:kj<=999999999999) (p:Int)=>nS hW hk p);have KD:=xh (λ(W:World) (qj:QS) (kj:Nat) (hW:TQ W tb I F qj n kj) (p:Int)=>ra hW.2 p);have KW:=xh (λ(W:World) (qj:QS) (kj:Nat) (hW:TQ W tb I F qj n kj) (hk:kj<=999999999999) (leaf:Bool) (A:Option Addr) (m c:Nat) (l:List E) (S:aT W 111 3 (.slice A m c) m (aH l)) (hm:m<=1000)=>oY hW hk 0 leaf A m c l S hm)
 have US:l.length=m:=by have:=S.1;rw[Nd.aw]at this;omega
 obtain⟨R,hR⟩:∃R,q.sV leaf l=R:=⟨_,rfl⟩;rw[hR];unfold QS.sV at hR;have HR:=xh hR;have gV:=ae (Below.refl w.heap.size w) (.cells #[.bool leaf,.slice A m c] 118);have H0:=xh (show TQ _ tb I F q n (Kz+600-600)/\aT _ 111 3 (.slice A m c) m (aH l)/\aJ _ w.heap.size 118 #[.bool leaf,.slice A m c]/\ag F w _ from⟨h.below gV,S.below gV,aJ.new w 118 #[.bool leaf,.slice A m c],.aj gV⟩);have Ur:=xh (show q.Vs<600 from by have:=cnt_le q;omega)
 have HLM:=xh US;have HLEN:=xh (λ(qj:QS) (p:Int)=>mh qj p);clear h hR S gV US;unfold tp bA at *;go_enter func133,ntmps133;go_wp2_with fail
 go_loopg [5] 600 (λk pv wr=> ∃(qi:QS) (leaf:Bool) (A:Option Addr) (m c:Nat) (l:List E),k<=600/\m<=1000/\Hid (nB k qi leaf l=R)/\Hid (qi.Vs<k)/\Hid (l.length=m)/\Hid (TQ wr tb I F qi n (Kz+600-k)/\aT wr 111 3 (.slice A m c) m (aH l)/\aJ wr w.heap.size 118 #[.bool leaf,.slice A m c]/\ag F w wr))
 case atStart=>exact⟨q,leaf,A,m,c,l,by omega,hm,HR,Ur,HLM,H0⟩
 case round=>
  obtain⟨qi,lf,A,m,c,l,hk,hm,HR,Ur,HLM,H0⟩:=hrel;obtain⟨k',rfl⟩:∃k',gk=k'+1:=⟨gk-1,by have:=Ur.o;omega⟩;have B0:=xh H0.o.2.2.1;have x0:=B0.o.ab (i:=0) rfl;have x1:=B0.o.ab (i:=1) rfl
  by_cases hc:lf=false/\m=1
  .obtain⟨rfl,rfl⟩:=hc;obtain⟨ex,rfl⟩:∃ex,l=[ex]:=List.length_eq_one_iff.1 HLM.o;have bG:=HR.o;unfold nB at bG;rw[if_pos ⟨rfl,rfl⟩,show([ex]:List E).getD 0 Nd.E.zero=ex from rfl]at bG;obtain⟨ga,ca,xI,Bv,BA,_,_⟩:=H0.o.2.1.form (by omega) (by omega);injection Bv with e1 ezz e3
   clear ezz;subst e1 e3;have xf:wr.cell? ⟨ga,2,none⟩=some (.int .i64 ex.aW):=BA.ab rfl;have K1:=xh (KR.o wr qi (Kz+600-(k'+1)) H0.o.1 (by omega) ex.aW);have hv:=Vv H0.o.1.2.wp ex.aW;have QM:=HLEN.o qi ex.aW;generalize qi.bJ ex.aW=r at *;obtain⟨q1,QQ,l1,er⟩:=r;dsimp only at *;have HV:=xh hv;have eY:=xh bG;clear bG hv BA;go_wp2_with fail;refine K1.o.mono ?_;rintro e w2 ⟨A1,c1,rfl,S2,f2,P2,o2⟩
   have HA2:=ae (Below.refl w2.heap.size w2) (.cells #[.bool QQ,.slice A1 l1.length c1] 118);have B3:=xh (aJ.new w2 118 #[.bool QQ,.slice A1 l1.length c1]);have Oc:w.heap.size∉F:=H0.o.1.2.iV B0.o
   have H2:=xh (show TQ (w2.alloc (.cells #[.bool QQ,.slice A1 l1.length c1] 118)) tb I F q1 n (Kz+600-k')/\aT (w2.alloc (.cells #[.bool QQ,.slice A1 l1.length c1] 118)) 111 3 (.slice A1 l1.length c1) l1.length (aH l1)/\aJ (w2.alloc (.cells #[.bool QQ,.slice A1 l1.length c1] 118)) w.heap.size 118 #[.bool false,.slice (some ⟨ga,0,none⟩) 1 c]/\ag F w (w2.alloc (.cells #[.bool QQ,.slice A1 l1.length c1] 118))/\w.heap.size<w2.heap.size from
    ⟨((H0.o.1.next o2 P2).below HA2).le (by omega),S2.below HA2,(B0.o.only o2 Oc).below HA2 (B0.o.only o2 Oc).lt,(H0.o.2.2.2.trans o2).trans (.aj HA2),(B0.o.only o2 Oc).lt⟩)
   clear S2 f2 P2 o2 HA2 x0 x1 xf
   by_cases he:er=0
   .subst he;have bG:=eY.o;rw[if_neg (show ¬((0:Int)≠0) by simp)]at bG;have K2:=xh (KD.o _ q1 _ H2.o.1 ex.aW);have hcnt:=Vx (q:=q1) H2.o.1.2.wp (p:=ex.aW);generalize q1.aV ex.aW=R2 at *;obtain⟨q2,e2⟩:=R2;dsimp only at *;have HCD:=xh hcnt;have eY:=xh bG;clear bG hcnt;unfold pp at K2;have xt:=H2.o.1.1.ab (i:=0) rfl;unfold pp at xt;go_wp2_with fail;refine K2.o.mono ?_;rintro e w4 ⟨rfl,P4,o4⟩
    have hnf:w2.heap.size∉F:=H2.o.1.2.iV B3.o;have Oc:w.heap.size∉F:=H2.o.1.2.iV H2.o.2.2.1;have H4:=xh (show TQ w4 tb I F q2 n (Kz+600-k')/\aT w4 111 3 (.slice A1 l1.length c1) l1.length (aH l1)/\aJ w4 w.heap.size 118 #[.bool false,.slice (some ⟨ga,0,none⟩) 1 c]/\ag F w w4 from
     ⟨H2.o.1.next o4 P4,PT.Pc (.self P4 o4) H2.o.1.2 H2.o.2.1,H2.o.2.2.1.only o4 Oc,H2.o.2.2.2.1.trans o4⟩)
    have B4:=xh (B3.o.only o4 hnf);clear P4 o4 xt hnf Oc B3
    by_cases rW:e2=0
    .subst rW;have bG:=eY.o;rw[if_neg (show ¬((0:Int)≠0) by simp)]at bG;have eY:=xh bG;obtain⟨SB,so,z0,z1,zf0,zf1⟩:=FH (b':=QQ) (v':= .slice A1 l1.length c1) H4.o.2.2.1;have y0:=B4.o.ab (i:=0) rfl;have y1:=B4.o.ab (i:=1) rfl;have HTB:tb≠w.heap.size:=λe=>H4.o.1.1.k7 H4.o.2.2.1 (by decide) e;have Oc:w.heap.size∉F:=H4.o.1.2.iV H4.o.2.2.1
     have H5:=xh (show TQ ((w4.setCell ⟨w.heap.size,0,none⟩ (.bool QQ)).setCell ⟨w.heap.size,1,none⟩ (.slice A1 l1.length c1)) tb I F q2 n (Kz+600-k')/\aT ((w4.setCell ⟨w.heap.size,0,none⟩ (.bool QQ)).setCell ⟨w.heap.size,1,none⟩ (.slice A1 l1.length c1)) 111 3 (.slice A1 l1.length c1) l1.length (aH l1)/\aJ ((w4.setCell ⟨w.heap.size,0,none⟩ (.bool QQ)).setCell ⟨w.heap.size,1,none⟩ (.slice A1 l1.length c1)) w.heap.size 118 #[.bool QQ,.slice A1 l1.length c1]/\ag F w ((w4.setCell ⟨w.heap.size,0,none⟩ (.bool QQ)).setCell ⟨w.heap.size,1,none⟩ (.slice A1 l1.length c1))from
      ⟨H4.o.1.only so (λz hz hm=>by
       rw[aQ.1 hm]at hz
       rcases an.1 hz with h|h
       .exact HTB h.symm
       .exact Oc h),H4.o.2.1.only so (λz hz hm=>cU H4.o.2.1 H4.o.2.2.1 (by decide) (by rw[<-aQ.1 hm];exact hz)),SB,H4.o.2.2.2.aO so (λz hz dH=>by rw[aQ.1 hz]at dH;omega)⟩)
     clear SB so Oc HTB bG;go_wp2_with fail
     go_roundg k'
     case measure=>omega
     case rel=>exact⟨q2,QQ,A1,l1.length,c1,l1,by omega,by omega,eY,xh (by have h1:=HCD.o (by trivial);have h2:=Vu HV.o.2;have h3:=Ur.o;omega),xh rfl,H5⟩
    .have bG:=eY.o;rw[if_pos rW]at bG;subst bG;have hq:(e2 != 0)=true:=by rw[bne_iff_ne];exact rW
     have kt:(e2==0)=false:=by rw[beq_eq_false_iff_ne];exact rW
     go_wp2_with fail;go_ret;exact aE ⟨H4.o.1.2.le (by omega),H4.o.2.2.2⟩
   .have bG:=eY.o;rw[if_pos he]at bG;subst bG;have hq:(er != 0)=true:=by rw[bne_iff_ne];exact he
    have kt:(er==0)=false:=by rw[beq_eq_false_iff_ne];exact he
    go_wp2_with fail;go_ret;exact aE ⟨H2.o.1.2.le (by omega),H2.o.2.2.2.1⟩
  .have bG:=HR.o;unfold nB at bG;rw[if_neg (by rw[HLM.o];exact hc)]at bG
   by_cases Ck:m=0
   .subst Ck;have GK:l=[]:=D9.1 HLM.o;rw[if_pos GK]at bG;subst bG;obtain⟨SB,so,z0,z1,zf0,zf1⟩:=FH (b':=true) (v':= .slice none 0 0) H0.o.2.2.1;have HTB:tb≠w.heap.size:=λe=>H0.o.1.1.k7 H0.o.2.2.1 (by decide) e;have Oc:w.heap.size∉F:=H0.o.1.2.iV H0.o.2.2.1
    have H5:=xh (show TQ ((wr.setCell ⟨w.heap.size,0,none⟩ (.bool true)).setCell ⟨w.heap.size,1,none⟩ (.slice none 0 0)) tb I F qi n (Kz+600-(k'+1))/\ag F w ((wr.setCell ⟨w.heap.size,0,none⟩ (.bool true)).setCell ⟨w.heap.size,1,none⟩ (.slice none 0 0))from
      ⟨H0.o.1.only so (λz hz hm=>by
       rw[aQ.1 hm]at hz
       rcases an.1 hz with h|h
       .exact HTB h.symm
       .exact Oc h),H0.o.2.2.2.aO so (λz hz dH=>by rw[aQ.1 hz]at dH;omega)⟩)
    have K6:=xh (KW.o _ qi _ H5.o.1 (by omega) true none 0 0 [] (aT.nil _ _ _) (by omega));have y0:=SB.ab (i:=0) rfl;have y1:=SB.ab (i:=1) rfl;clear SB so Oc HTB GK
    cases lf
    .skip
     go_wp2_with fail;refine K6.o.mono ?_;rintro e w6 ⟨rfl,P6,o6⟩;go_wp2_with fail;go_ret;exact aE ⟨P6.le (by omega),H5.o.2.trans o6⟩
    .skip
     go_wp2_with fail;refine K6.o.mono ?_;rintro e w6 ⟨rfl,P6,o6⟩;go_wp2_with fail;go_ret;exact aE ⟨P6.le (by omega),H5.o.2.trans o6⟩
   .rw[if_neg (λe=>Ck (by rw[<-HLM.o,e];rfl))]at bG;subst bG;have K6:=xh (KW.o _ qi _ H0.o.1 (by omega) lf A m c l H0.o.2.1 hm);have hmI:((m:Nat):Int)≠0:=by omega
    cases lf
    .have hm1:((m:Nat):Int)≠1:=λe=>hc ⟨rfl,by omega⟩;have hm1':¬m=1:=by omega
     clear hc;go_wp2_with fail;refine K6.o.mono ?_;rintro e w6 ⟨rfl,P6,o6⟩;go_wp2_with fail;go_ret;exact aE ⟨P6.le (by omega),H0.o.2.2.2.trans o6⟩
    .clear hc;go_wp2_with fail;refine K6.o.mono ?_;rintro e w6 ⟨rfl,P6,o6⟩;go_wp2_with fail;go_ret;exact aE ⟨P6.le (by omega),H0.o.2.2.2.trans o6⟩
variable{w:World}{b tb n Kz:Nat}{I:Ix}{F:List Nat}
def gE:List Step->QS->QS×Int
 |[],q=>(q,0)
 |[x],q=>if x.leaf=true then q.db x.aq x.leaf x.l else q.sV x.leaf x.l
 |x::y::up,q=>
  if x.l=[]then
   if(q.aV x.aq).2≠0 then q.aV x.aq
   else gE ({y with l:=y.l.eraseIdx y.at_}::up) (q.aV x.aq).1
  else q.db x.aq x.leaf x.l
 termination_by l=>l.length
theorem xL(x:Step)(q:QS):gE [x] q=if x.leaf=true then q.db x.aq x.leaf x.l else q.sV x.leaf x.l:=by
 unfold gE;rfl
theorem xM(x y:Step)(up:List Step)(q:QS):gE (x::y::up) q=if x.l=[]then
   if(q.aV x.aq).2≠0 then q.aV x.aq
   else gE ({y with l:=y.l.eraseIdx y.at_}::up) (q.aV x.aq).1
  else q.db x.aq x.leaf x.l:=by
 conv=>lhs;unfold gE
theorem aR.uL{g m cc:Nat}{Lp:List SM}{Z:SM}{k:Nat}(h:aR w b (.slice (some ⟨g,0,none⟩) m cc) (Lp++[Z]))(hp:Lp.length=k)(i:Nat)(hi:i<4):w.cell? ⟨g,k*4+i,none⟩=Z.cells[i]?:=by
 have h1:=h.cell (k:=Lp.length) (Z:=Z) (by rw[dW (ak _),fy];rfl) i hi;rw[hp]at h1;exact h1
theorem Vy(A:Option Addr)(m c m' c':Nat):ai (.slice A m c)=ai (.slice A m' c'):=by cases A<;>rfl
theorem ID{q:QS}{v:Value}{L:List SM}(pre:List Step)(x:Step)(h:TQ w tb I F q n Kz)(Vk:Kz<=999999980000)(SA:aR w b v L)(hb:b<=w.heap.size)(nV:L.map SM.s=pre++[x])(rH:∀s∈pre,s.at_<s.l.length/\s.l.length<=1000)(Gs:x.l.length<=1000)(hp16:pre.length<=16):
  Calls prog 76 #[tp tb,v] w λe w'=>e=.returned (.int .i64 (gE (x::pre.reverse) q).2)/\PB b w w' I F (gE (x::pre.reverse) q).1 n (Kz+601):=by
 obtain⟨Lp,A,c,g,cc,rfl,lQ,rfl,hbg,Gl,tC,ic,Rv,S1,f1⟩:=SA.last nV;have KD:=xh (λ(W:World) (qj:QS) (hW:TQ W tb I F qj n Kz) (p:Int)=>ra hW.2 p);have KW:=xh (λ(W:World) (qj:QS) (kj:Nat) (hW:TQ W tb I F qj n kj) (hk:kj<=999999999999) (p:Int) (leaf:Bool) (A:Option Addr) (m c:Nat) (l:List E) (S:aT W 111 3 (.slice A m c) m (aH l)) (hm:m<=1000)=>oY hW hk p leaf A m c l S hm)
 have KL:=xh (λ(W:World) (qj:QS) (hW:TQ W tb I F qj n Kz) (leaf:Bool) (A:Option Addr) (m c:Nat) (l:List E) (S:aT W 111 3 (.slice A m c) m (aH l)) (hm:m<=1000)=>Mv hW (by omega) leaf A m c l S hm);obtain⟨R,hR⟩:∃R,gE (x::pre.reverse) q=R:=⟨_,rfl⟩;rw[hR];have HR:=xh hR;have HM:=xh lQ;have oX:=xh rH;have HXL:=xh Gs
 have HA:=xh (show aR w b (.slice (some ⟨g,0,none⟩) (pre.length+1) cc) (Lp++[⟨x,A,c⟩])/\TQ w tb I F q n Kz/\OB b w w F F/\b<=w.heap.size from⟨SA,h,OB.refl _ _ _,hb⟩);clear h SA nV rH Gs hR ic Rv S1 f1 lQ;unfold tp bA at *;go_enter func76,ntmps76;go_wp2_with fail
 go_loopw [1] (λsv wr=> ∃(pre:List Step) (x:Step) (Lp:List SM) (A:Option Addr) (c:Nat) (qi:QS),pre.length<=16/\pre.length+1<=cc/\sv=.slice (some ⟨g,0,none⟩) (pre.length+1) cc/\Hid (Lp.map SM.s=pre)/\Hid (gE (x::pre.reverse) qi=R)/\Hid (∀s∈pre,s.at_<s.l.length/\s.l.length<=1000)/\Hid (x.l.length<=1000)/\Hid (aR wr b (.slice (some ⟨g,0,none⟩) (pre.length+1) cc) (Lp++[⟨x,A,c⟩])/\TQ wr tb I F qi n Kz/\OB b w wr F F/\b<=wr.heap.size)) (λsv _=>N1 sv)
 case atStart=>exact⟨pre,x,Lp,A,c,q,hp16,Gl,rfl,HM,HR,oX,HXL,HA⟩
 case round=>
  obtain⟨pre,x,Lp,A,c,qi,hp16,Gl,rfl,HM,HR,oX,HXL,HA⟩:=hrel;have mf:=xh (show Lp.length=pre.length from by rw[<-HM.o,fo]);obtain⟨xp,xf,xl,xa⟩:=x;dsimp only at HXL;have c0:wr.cell? ⟨g,pre.length*4,none⟩=some (.int .i64 xp):=HA.o.1.uL mf.o 0 (by omega);have c1:wr.cell? ⟨g,pre.length*4+1,none⟩=some (.bool xf):=HA.o.1.uL mf.o 1 (by omega);have c2:wr.cell? ⟨g,pre.length*4+1+1,none⟩=some (.slice A xl.length c):=HA.o.1.uL mf.o 2 (by omega)
  have c3:wr.cell? ⟨g,pre.length*4+3,none⟩=some (.int .i64 (xa:Nat)):=HA.o.1.uL mf.o 3 (by omega)
  rcases sk pre with rfl|⟨dQ,y,hpe⟩
  .have bG:=HR.o;rw[List.reverse_nil,xL]at bG;rw[show([]:List Step).length=0 from rfl,qS]at c0 c1 c2 c3;rw[bg]at c1 c2 c3
   cases xf
   .rw[if_neg (by simp)]at bG;subst bG;have gV:=ae (Below.refl wr.heap.size wr) (.cells #[.int .i64 xp,.bool false,.slice A xl.length c,.int .i64 (xa:Nat)] 120);have BS:=xh (aJ.new wr 120 #[.int .i64 xp,.bool false,.slice A xl.length c,.int .i64 (xa:Nat)]);have y0:=BS.o.ab (i:=0) rfl;have y1:=BS.o.ab (i:=1) rfl;have y2:=BS.o.ab (i:=2) rfl
    have H1:=xh (show TQ _ tb I F qi n Kz/\aT _ 111 3 (.slice A xl.length c) xl.length (aH xl)/\OB b w _ F F from⟨HA.o.2.1.below gV,(HA.o.1.e ⟨⟨xp,false,xl,xa⟩,A,c⟩ (by simp)).1.below gV,HA.o.2.2.1.below gV⟩);clear gV;have K1:=xh (KL.o _ qi H1.o.1 false A xl.length c xl H1.o.2.1 HXL.o);unfold bA at K1;go_wp2_with fail;refine K1.o.mono ?_;rintro e w6 ⟨rfl,P6,o6⟩;have P6:=xh P6;have o6:=xh o6;clear y0 y1 y2;go_wp2_with fail;go_ret
    exact aE (((H1.o.2.2.step hb o6.o (λ_ hg=> .inl hg)).pb P6.o).le (by omega))
   .rw[if_pos rfl]at bG;subst bG;have gV:=ae (Below.refl wr.heap.size wr) (.cells #[.int .i64 xp,.bool true,.slice A xl.length c,.int .i64 (xa:Nat)] 120);have BS:=xh (aJ.new wr 120 #[.int .i64 xp,.bool true,.slice A xl.length c,.int .i64 (xa:Nat)]);have y0:=BS.o.ab (i:=0) rfl;have y1:=BS.o.ab (i:=1) rfl;have y2:=BS.o.ab (i:=2) rfl
    have H1:=xh (show TQ _ tb I F qi n Kz/\aT _ 111 3 (.slice A xl.length c) xl.length (aH xl)/\OB b w _ F F from⟨HA.o.2.1.below gV,(HA.o.1.e ⟨⟨xp,true,xl,xa⟩,A,c⟩ (by simp)).1.below gV,HA.o.2.2.1.below gV⟩);clear gV;have K1:=xh (KW.o _ qi Kz H1.o.1 (by omega) xp true A xl.length c xl H1.o.2.1 HXL.o);go_wp2_with fail;refine K1.o.mono ?_;rintro e w6 ⟨rfl,P6,o6⟩;have P6:=xh P6;have o6:=xh o6;clear y0 y1 y2;go_wp2_with fail;go_ret
    exact aE (((H1.o.2.2.step hb o6.o (λ_ hg=> .inl hg)).pb P6.o).le (by omega))
  .obtain rfl:pre=dQ++[y]:=by simpa using hpe
   clear hpe;have x6:(dQ++[y]).length=dQ.length+1:=by simp
   generalize (dQ++[y]).length=k at *;have s1:IntKind.i64.wrap (((k+1:Nat):Int)-1)=(k:Int):=by rw[show((k+1:Nat):Int)-1=(k:Int) by omega];exact IntWalk.i64_in _ (by omega)
   have s2:(k:Int)<((k+1:Nat):Int):=by omega
   have s3:(1:Int)<((k+1:Nat):Int):=by omega
   have s4:IntKind.i64.wrap (k:Int)=(k:Int):=IntWalk.i64_in _ (by omega);have s5:(k:Int)<(k:Int)+1/\0<=(k:Int):=by omega
   have s6:IntKind.i64.wrap ((k:Int)-1)=(dQ.length:Int):=by rw[show(k:Int)-1=(dQ.length:Int) by omega];exact IntWalk.i64_in _ (by omega)
   have s7:(dQ.length:Int)<(k:Int):=by omega
   have HK2:=xh x6;clear x6;have bG:=HR.o;rw[List.reverse_append,List.reverse_singleton,qO,xM]at bG;dsimp only at bG
   by_cases ET:xl.length=0
   .have hxn:xl=[]:=D9.1 ET;subst hxn;rw[if_pos rfl]at bG;have KD2:=xh (KD.o _ qi HA.o.2.1.drew xp);have HS1:=xh (show(λW=>W.cell? ⟨tb,0,none⟩=some (.pointer (some ⟨I.pb,0,none⟩))/\W.cell? ⟨g,k*4,none⟩=some (.int .i64 xp)) wr.drew from⟨HA.o.2.1.drew.1.ab (i:=0) rfl,(HA.o.1.below (Below.refl _ _).drew).uL mf.o 0 (by omega)⟩);generalize qi.aV xp=R2 at *;obtain⟨qd,ed⟩:=R2;dsimp only at *;have eY:=xh bG
    obtain⟨tG,AY,cY,rfl,Mt⟩:∃tG AY cY,Lp=tG++[(⟨y,AY,cY⟩:SM)]/\tG.map SM.s=dQ:=by
     have:=HM.o
     rcases sk Lp with h0|⟨tG,Y,h0⟩
     .rw[h0]at this;simp at this
     .have h0:Lp=tG++[Y]:=by simpa using h0
      rw[h0,dA]at this;obtain⟨a1,a2⟩:=JB this rfl;obtain⟨ys,AY,cY⟩:=Y;simp at a2;subst a2;exact⟨tG,AY,cY,h0,a1⟩
    have HPL':=xh (show tG.length=dQ.length from by rw[<-Mt,fo]);have Vl:=xh Mt;have hfy:=oX.o y (by simp);have hya:=hfy.1;have hyn:=hfy.2;have Bs:(0:Int)<=(k:Int)/\(k:Int)<=(cc:Int):=by omega
    clear bG hfy Mt ET;unfold pp at *;go_wp2_with fail;refine wp_region_held_drew (S:=λW=>W.cell? ⟨tb,0,none⟩=some (.pointer (some ⟨I.pb,0,none⟩))/\W.cell? ⟨g,k*4,none⟩=some (.int .i64 xp)) (by kernel_rfl) (HS1.o) (λah=>?_);refine bM [(0,23),(1,24),(2,25),(3,26),(4,27),(5,28),(6,29),(7,30),(8,31),(9,32),(10,33)] ?_
    iterate 11 refine aG ?_
    refine bY 11 34 λK hK=>?_;go_simp
    go_at_call 132
    refine KD2.o.mono ?_;rintro e w2 ⟨rfl,P2,o2⟩;have o2:=xh o2;have P2:=xh P2;have Gk:=xh (show(λW=>W.cell? ⟨tb,0,none⟩=some (.pointer (some ⟨I.pb,0,none⟩))/\W.cell? ⟨g,k*4,none⟩=some (.int .i64 xp)) w2 from⟨(HA.o.2.1.drew.next o2.o P2.o).1.ab (i:=0) rfl,((HA.o.1.below (Below.refl _ _).drew).uJ HA.o.2.1.drew.2 o2.o).uL mf.o 0 (by omega)⟩);go_simp;refine aA hK (Gk.o) (λah=>?_);refine bM [(12,5)] ?_
    iterate 1 refine aG ?_
    refine wpAnyH_done (by kernel_rfl) ?_ _;have SA2:=(HA.o.1.below (Below.refl _ _).drew).uJ HA.o.2.1.drew.2 o2.o;have hpop:=SA2.pop;rw[mf.o]at hpop;have H2:=xh (show TQ w2 tb I F qd n Kz/\aR w2 b (.slice (some ⟨g,0,none⟩) k cc) (tG++⟨y,AY,cY⟩::[])/\OB b w w2 F F/\b<=w2.heap.size from
     ⟨HA.o.2.1.drew.next o2.o P2.o,hpop,(HA.o.2.2.1.below (Below.refl _ _).drew).step hb o2.o (λ_ hg=> .inl hg),ar HA.o.2.2.2 o2.o.size⟩)
    clear SA2 hpop P2 o2 Gk c0 c1 c2 c3
    by_cases he:ed=0
    .subst he;have bG:=eY.o;rw[if_neg (show ¬((0:Int)≠0) by simp)]at bG;have eY:=xh bG;obtain⟨w8,Cd⟩:∃w8,w2.drew=w8:=⟨_,rfl⟩;have xZ:Below w2.heap.size w2 w8:=by rw[<-Cd];exact(Below.refl _ _).drew
     have H8:=xh (show TQ w8 tb I F qd n Kz/\aR w8 b (.slice (some ⟨g,0,none⟩) k cc) (tG++⟨y,AY,cY⟩::[])/\OB b w w8 F F/\b<=w8.heap.size from
      ⟨H2.o.1.below xZ,H2.o.2.1.below xZ,H2.o.2.2.1.below xZ,ar H2.o.2.2.2 xZ.size⟩)
     have QO:=xh (show(λW=>W.cell? ⟨g,dQ.length*4+3,none⟩=some (.int .i64 (y.at_:Nat))) w8 from H8.o.2.1.uL HPL'.o 3 (by omega));have x8:w8.cell? ⟨g,dQ.length*4+2,none⟩=some (.slice AY y.l.length cY):=H8.o.2.1.uL HPL'.o 2 (by omega);have SY:=H8.o.2.1.e ⟨y,AY,cY⟩ (by simp);have KDE:=xh (Nd.qs SY.1 y.at_ hya (show y.l.length<=100000 by omega));have Bw:=xh (show(y.l.eraseIdx y.at_).length=y.l.length-1 from by rw[JQ hya])
     have s8:IntKind.i64.wrap ((y.at_:Int)+1)=(y.at_:Int)+1:=IntWalk.i64_in _ (by omega);have HS9:=xh (show ∀W,ag (ai (.slice AY y.l.length cY)) w8 W->(λW=>W.cell? ⟨g,dQ.length*4+3,none⟩=some (.int .i64 (y.at_:Nat))) W from λW o=>by
      have hgY:g∉ai (.slice AY y.l.length cY):=λhm=>ig SY.1 H8.o.2.1.s (by decide) g hm (by simp[ai]);exact(o.cell (p:=⟨g,dQ.length*4+3,none⟩) (dX QO.o) hgY).trans QO.o)
     clear SY xZ bG;go_wp2_with fail;refine wp_region_held_drew (S:=λW=>W.cell? ⟨g,dQ.length*4+3,none⟩=some (.int .i64 (y.at_:Nat))) (by kernel_rfl) (by rw[Cd];exact QO.o) (λah=>?_);rw[Cd];clear Cd;refine bM [(0,48),(1,49),(2,50),(3,51),(4,52),(6,54),(7,55),(8,56),(9,57),(10,58),(11,59),(12,60),(13,61),(14,62)] ?_
     iterate 14 refine aG ?_
     refine bY 5 53 λK hK=>?_;go_simp;refine aA hK (QO.o) (λah=>?_);refine bY 15 63 λK hK=>?_;go_simp
     go_at_call 72
     refine KDE.o.mono ?_;rintro e w9 ⟨rfl,S9,o9⟩;have S9:=xh S9;have o9:=xh o9;have N8:=xh (HS9.o w9 o9.o);go_simp;refine aA hK (N8.o) (λah=>?_);refine bM [(16,64),(17,65),(18,66)] ?_
     iterate 3 refine aG ?_
     refine dv 19 λK hK=>?_;go_simp;obtain⟨SP,sx,sz⟩:=H8.o.2.1.put (Lp:=tG) (Ls:=[]) (y.l.eraseIdx y.at_) (A':=AY) (c':=cY) (by rw[Bw.o];exact S9.o) o9.o (λz hz=> .inl ((Vy AY _ _ _ _)▸hz)) H8.o.2.2.2;rw[HPL'.o]at SP sx sz;rw[Bw.o]at SP;have SP:=xh SP
     replace sx:w9.cell? ⟨g,dQ.length*4+2,none⟩=some (.slice AY y.l.length cY):=sx
     have rL:=xh (show ag (g::ai (.slice AY y.l.length cY)) w8 (w9.setCell ⟨g,dQ.length*4+2,none⟩ (.slice AY (y.l.length-1) cY))from(o9.o.mono (λx hx _=>ax _ hx)).setCell (by simp) _);have wE:=xh (show(λW=>W.cell? ⟨g,dQ.length*4+3,none⟩=some (.int .i64 (y.at_:Nat))) (w9.setCell ⟨g,dQ.length*4+2,none⟩ (.slice AY (y.l.length-1) cY))from SP.o.uL HPL'.o 3 (by omega));go_simp;refine aA hK (wE.o) (λah=>?_)
     refine wpAnyH_done (by kernel_rfl) ?_ _;have kr:=H8.o.2.1.off H8.o.1.2;have sU:=H8.o.2.1.tree H8.o.1.1
     have HN:=xh (show aR (w9.setCell ⟨g,dQ.length*4+2,none⟩ (.slice AY (y.l.length-1) cY)) b (.slice (some ⟨g,0,none⟩) k cc) (tG++[⟨{y with l:=y.l.eraseIdx y.at_},AY,cY⟩])/\TQ (w9.setCell ⟨g,dQ.length*4+2,none⟩ (.slice AY (y.l.length-1) cY)) tb I F qd n Kz/\OB b w (w9.setCell ⟨g,dQ.length*4+2,none⟩ (.slice AY (y.l.length-1) cY)) F F/\b<=(w9.setCell ⟨g,dQ.length*4+2,none⟩ (.slice AY (y.l.length-1) cY)).heap.size from
      ⟨SP.o,H8.o.1.only rL.o (λz hz hm=>by
       rcases an.1 hz with h1|h1<;>rcases an.1 hm with h2|h2
       .exact sU.1 (by rw[<-h1,h2];simp[ai])
       .exact sU.2 ⟨y,AY,cY⟩ (by simp) (by rw[<-h1];exact h2)
       .exact kr.1 z (by rw[h2];simp[ai]) h1
       .exact kr.2 ⟨y,AY,cY⟩ (by simp) z h2 h1),H8.o.2.2.1.own rL.o (λz hz=>by
       rcases an.1 hz with h2|h2
       .rw[h2];exact H8.o.2.1.f g (by simp[ai])
       .exact(H8.o.2.1.e ⟨y,AY,cY⟩ (by simp)).2 z h2),ar H8.o.2.2.2 rL.o.size⟩)
     clear kr sU;go_wp2_with fail;go_roundw
     case rel=>exact⟨dQ,{y with l:=y.l.eraseIdx y.at_},tG,AY,cY,qd,by have:=HK2.o;omega,by have:=HK2.o;omega,by rw[HK2.o],Vl,eY,xh (λs hs=>oX.o s (by simp[hs])),xh (show(y.l.eraseIdx y.at_).length<=1000 from by rw[Bw.o];omega),by rw[<-HK2.o];exact HN⟩
     case measure=>(have:=HK2.o;simp only[N1];omega)
    .have bG:=eY.o;rw[if_pos he]at bG;subst bG;have hq:(ed != 0)=true:=by rw[bne_iff_ne];exact he
     have kt:(ed==0)=false:=by rw[beq_eq_false_iff_ne];exact he
     go_wp2_with fail;go_ret;exact aE ((H2.o.2.2.1.pb H2.o.1.2).le (by omega))
   .rw[if_neg (λe=>ET (by rw[e];rfl))]at bG;subst bG;have hx1:((xl.length:Nat):Int)≠0:=by omega
    have Rw:(((xl.length:Nat):Int)==0)=false:=by rw[beq_eq_false_iff_ne];exact hx1
    have gV:=ae (Below.refl wr.heap.size wr) (.cells #[.int .i64 xp,.bool xf,.slice A xl.length c,.int .i64 (xa:Nat)] 120);have BS:=xh (aJ.new wr 120 #[.int .i64 xp,.bool xf,.slice A xl.length c,.int .i64 (xa:Nat)]);have y0:=BS.o.ab (i:=0) rfl;have y1:=BS.o.ab (i:=1) rfl;have y2:=BS.o.ab (i:=2) rfl
    have H1:=xh (show TQ _ tb I F qi n Kz/\aT _ 111 3 (.slice A xl.length c) xl.length (aH xl)/\OB b w _ F F from⟨HA.o.2.1.below gV,(HA.o.1.e ⟨⟨xp,xf,xl,xa⟩,A,c⟩ (by simp)).1.below gV,HA.o.2.2.1.below gV⟩);clear gV;have K1:=xh (KW.o _ qi Kz H1.o.1 (by omega) xp xf A xl.length c xl H1.o.2.1 HXL.o);go_wp2_with fail;refine K1.o.mono ?_;rintro e w6 ⟨rfl,P6,o6⟩;have P6:=xh P6;have o6:=xh o6;clear y0 y1 y2;go_wp2_with fail;go_ret
    exact aE (((H1.o.2.2.step hb o6.o (λ_ hg=> .inl hg)).pb P6.o).le (by omega))
def QS.jj(q:QS)(key:ByteArray):QS×Int:=
 if(q.eM key).2.2≠0 then((q.eM key).1,(q.eM key).2.2)
 else if cF (iX (q.eM key).2.1).l key=false then((q.eM key).1,9)
 else if((q.eM key).1.lE (iX (q.eM key).2.1).l key).2≠0 then(q.eM key).1.lE (iX (q.eM key).2.1).l key
 else gE ({iX (q.eM key).2.1 with l:=qx (iX (q.eM key).2.1).l key}::(q.eM key).2.1.dropLast.reverse) ((q.eM key).1.lE (iX (q.eM key).2.1).l key).1
theorem AH{q:QS}(h:TQ w tb I F q n Kz)(Vk:Kz<=999999970000)(key:ByteArray):
  Calls prog 26 #[tp tb,.string key] w λe w'=>e=.returned (.int .i64 (q.jj key).2)/\PT w w' I F (q.jj key).1 n (Kz+700):=by
 have KW:=xh (Ax h (by omega) key);have HT:=xh h;have fu:=Mr (q:=q) (key:=key);unfold QS.jj;generalize q.eM key=R at *;obtain⟨q1,steps,er⟩:=R;dsimp only at *;unfold tp at *
 by_cases he:er=0
 .subst he;obtain⟨pre,x,rfl,sJ,hnl,ny,hlen⟩:=fu rfl;rw[if_neg (by simp),show iX (pre++[x])=x from by unfold iX;simp,show(pre++[x]).dropLast=pre from by simp];have hxo:=ny x (by simp);obtain⟨hm,hl57,_⟩:=hxo;have hm:=xh hm;have oX:=xh (show ∀s∈pre,Fit s from λs hs=>(ny s (by simp[hs])).fit (hnl s hs));clear fu hnl ny sJ h
  obtain⟨RR,bG⟩:∃RR,(if cF x.l key=false then(q1,9)else if(q1.lE x.l key).2≠0 then q1.lE x.l key else gE ({x with l:=qx x.l key}::pre.reverse) (q1.lE x.l key).1)=RR:=⟨_,rfl⟩;rw[bG];have eY:=xh bG;clear bG;go_enter func26,ntmps26;go_wp2_with fail;refine KW.o.mono ?_;rintro e w1 ⟨v,L,rfl,SA,nV,P1,o1⟩;have Vp:=SA.last nV;obtain⟨Lp,A,c,g,cc,rfl,lQ,rfl,hbg,Gl,tC,ic,Rv,S1,f1⟩:=Vp
  have H1:=xh (show TQ w1 tb I F q1 n (Kz+16)/\aR w1 w.heap.size (.slice (some ⟨g,0,none⟩) (pre.length+1) cc) (Lp++[⟨x,A,c⟩])/\OB w.heap.size w w1 F F/\w.heap.size<=w1.heap.size from⟨HT.o.next o1 P1,SA,(OB.refl w.heap.size w F).step (ak _) o1 (λ_ hg=> .inl hg),o1.size⟩);have mf:=xh (show Lp.length=pre.length from by rw[<-lQ,fo]);have Vl:=xh lQ;have S1:=xh S1;have x1:w1.cell? ⟨g,pre.length*4+1,none⟩=some (.bool x.leaf):=ic 1 (by omega)
  have x2:w1.cell? ⟨g,pre.length*4+1+1,none⟩=some (.slice A x.l.length c):=ic 2 (by omega);have s1:IntKind.i64.wrap (((pre.length+1:Nat):Int)-1)=(pre.length:Int):=by rw[show((pre.length+1:Nat):Int)-1=(pre.length:Int) by omega];exact IntWalk.i64_in _ (by omega)
  have s2:(pre.length:Int)<((pre.length+1:Nat):Int):=by omega
  have KF:=xh (Nd.wo x.leaf A x.l.length c x.l key (Nd.aT.aH S1.o).2 (by omega) hm.o);unfold bA at KF;clear SA nV P1 o1 lQ ic Rv f1;go_wp2_with fail;refine KF.o.mono ?_;rintro e w3 ⟨rfl,gh⟩;have O3:=xh gh
  have H3:=xh (show TQ w3 tb I F q1 n (Kz+16)/\aR w3 w.heap.size (.slice (some ⟨g,0,none⟩) (pre.length+1) cc) (Lp++[⟨x,A,c⟩])/\OB w.heap.size w w3 F F/\w.heap.size<=w3.heap.size from⟨H1.o.1.below O3.o,H1.o.2.1.below O3.o,H1.o.2.2.1.below O3.o,ar H1.o.2.2.2 O3.o.size⟩);have S3:=xh (S1.o.below gh);have u2:w3.cell? ⟨g,pre.length*4+1+1,none⟩=some (.slice A x.l.length c):=(O3.o.cell (p:=⟨g,pre.length*4+1+1,none⟩) (dX x2)).trans x2
  clear x1 x2 gh H1 S1 O3
  by_cases hh:cF x.l key=true
  .have bG:=eY.o;rw[if_neg (by rw[hh];simp)]at bG;have eY:=xh bG;clear bG;obtain⟨ex,hex⟩:=Ay hh;have hfx:x.l.getD (bl x.l key) Nd.E.zero=ex:=by rw[gH,hex];rfl
   have bG:=eY.o;unfold QS.lE qx at bG;rw[if_pos hh,if_pos hh,hfx]at bG;generalize cF x.l key=hb at *;subst hh;have qb:bl x.l key<x.l.length:=(aS.1 hex).1;generalize bl x.l key=at_ at *;obtain⟨ad,wC,fT⟩:=(Nd.aT.aH S3.o).2.2 at_ ex hex;obtain⟨ga,ca,xI,Bv,_⟩:=S3.o.form (by omega) (by omega);injection Bv with e1 ezz e3
   clear ezz;subst e1 e3;injection wC with wC
   subst wC;rw[Nd.fe,bg]at fT;have u3:=fT.c0;have u4:=fT.c1;have u5:=fT.c2;dsimp only at u4 u5;have KA:=xh (Dq H3.o.1 (by omega) ex);unfold E.agg tp at KA;have hflI:(at_:Int)<(x.l.length:Int):=by omega
   generalize q1.qv ex=R2 at *;obtain⟨q2,e2⟩:=R2;dsimp only at *;have eY:=xh bG;clear fT hex hfx bG;go_wp2_with fail;refine KA.o.mono ?_;rintro e w4 ⟨rfl,P4,o4⟩
   have H4:=xh (show TQ w4 tb I F q2 n (Kz+21)/\aR w4 w.heap.size (.slice (some ⟨g,0,none⟩) (pre.length+1) cc) (Lp++[⟨x,some ⟨ga,0,none⟩,c⟩])/\OB w.heap.size w w4 F F/\w.heap.size<=w4.heap.size from⟨H3.o.1.next o4 P4,H3.o.2.1.uJ H3.o.1.2 o4,H3.o.2.2.1.step (ak _) o4 (λ_ hg=> .inl hg),ar H3.o.2.2.2 o4.size⟩);clear P4 o4 u2 u3 u4 u5 S3
   by_cases rW:e2=0
   .subst rW;have bG:=eY.o;rw[if_neg (show ¬((0:Int)≠0) by simp)]at bG;have eY:=xh bG;have SX:=H4.o.2.1.e ⟨x,some ⟨ga,0,none⟩,c⟩ (by simp);have KD:=xh (Nd.qs SX.1 at_ qb (show x.l.length<=100000 by omega));have u2:=H4.o.2.1.cell (k:=Lp.length) (Z:=⟨x,some ⟨ga,0,none⟩,c⟩) (by rw[dW (ak _),fy];rfl) 2 (by omega);rw[mf.o]at u2
    replace u2:w4.cell? ⟨g,pre.length*4+1+1,none⟩=some (.slice (some ⟨ga,0,none⟩) x.l.length c):=u2
    have Bw:=xh (show(x.l.eraseIdx at_).length=x.l.length-1 from by rw[JQ qb]);have s7:IntKind.i64.wrap ((at_:Int)+1)=(at_:Int)+1:=IntWalk.i64_in _ (by omega);clear SX bG;go_wp2_with fail;refine KD.o.mono ?_;rintro e w5 ⟨rfl,S5,o5⟩;obtain⟨SP,sx,sz⟩:=H4.o.2.1.put (Lp:=Lp) (Ls:=[]) (x.l.eraseIdx at_) (A':=some ⟨ga,0,none⟩) (c':=c) (by rw[Bw.o];exact S5) o5 (λz hz=> .inl hz) H4.o.2.2.2;rw[mf.o]at SP sx sz;rw[Bw.o]at SP
    replace sx:w5.cell? ⟨g,pre.length*4+1+1,none⟩=some (.slice (some ⟨ga,0,none⟩) x.l.length c):=sx
    replace sz:w5.frozen? ⟨g,pre.length*4+1+1,none⟩=false:=sz
    have O5:ag (g::ai (.slice (some ⟨ga,0,none⟩) x.l.length c)) w4 (w5.setCell ⟨g,pre.length*4+1+1,none⟩ (.slice (some ⟨ga,0,none⟩) (x.l.length-1) c)):=(o5.mono (λx hx _=>ax _ hx)).setCell (by simp) _;have kr:=H4.o.2.1.off H4.o.1.2;have sU:=H4.o.2.1.tree H4.o.1.1
    have H5:=xh (show TQ (w5.setCell ⟨g,pre.length*4+1+1,none⟩ (.slice (some ⟨ga,0,none⟩) (x.l.length-1) c)) tb I F q2 n (Kz+21)/\aR (w5.setCell ⟨g,pre.length*4+1+1,none⟩ (.slice (some ⟨ga,0,none⟩) (x.l.length-1) c)) w.heap.size (.slice (some ⟨g,0,none⟩) (pre.length+1) cc) (Lp++[⟨{x with l:=x.l.eraseIdx at_},some ⟨ga,0,none⟩,c⟩])/\OB w.heap.size w (w5.setCell ⟨g,pre.length*4+1+1,none⟩ (.slice (some ⟨ga,0,none⟩) (x.l.length-1) c)) F F/\w.heap.size<=(w5.setCell ⟨g,pre.length*4+1+1,none⟩ (.slice (some ⟨ga,0,none⟩) (x.l.length-1) c)).heap.size from
     ⟨H4.o.1.only O5 (λz hz hm=>by
      rcases an.1 hz with h1|h1<;>rcases an.1 hm with h2|h2
      .exact sU.1 (by rw[<-h1,h2];simp[ai])
      .exact sU.2 ⟨x,some ⟨ga,0,none⟩,c⟩ (by simp) (by rw[<-h1];exact h2)
      .exact kr.1 z (by rw[h2];simp[ai]) h1
      .exact kr.2 ⟨x,some ⟨ga,0,none⟩,c⟩ (by simp) z h2 h1),SP,H4.o.2.2.1.own O5 (λz hz=>by
      rcases an.1 hz with h2|h2
      .rw[h2];exact H4.o.2.1.f g (by simp[ai])
      .exact(H4.o.2.1.e ⟨x,some ⟨ga,0,none⟩,c⟩ (by simp)).2 z h2),ar H4.o.2.2.2 O5.size⟩)
    clear SP S5 o5 O5 kr sU;obtain⟨w6,N9⟩:∃w6,(w5.setCell ⟨g,pre.length*4+1+1,none⟩ (.slice (some ⟨ga,0,none⟩) (x.l.length-1) c))=w6:=⟨_,rfl⟩;rw[N9]at H5;have uK:=eY.o;have KSH:=xh (ID (b:=w.heap.size) pre {x with l:=x.l.eraseIdx at_} H5.o.1 (by omega) H5.o.2.1 H5.o.2.2.2 (by rw[dA,Vl.o];rfl) (λs hs=>⟨(oX.o s hs).a,by have:=(oX.o s hs).n;omega⟩) (by show(x.l.eraseIdx at_).length<=1000;rw[Bw.o];omega) (by omega))
    rw[uK]at KSH;unfold tp at KSH;clear uK;go_wp2_with fail;refine KSH.o.mono ?_;rintro e w7 ⟨rfl,P7⟩;have P7:=xh P7;clear N9 sx sz u2;go_wp2_with fail;go_ret;exact aE (((H5.o.2.2.1.trans P7.o).pt (ak _)).le (by omega))
   .have bG:=eY.o;rw[if_pos rW]at bG;subst bG;have hq:(e2 != 0)=true:=by rw[bne_iff_ne];exact rW
    have kt:(e2==0)=false:=by rw[beq_eq_false_iff_ne];exact rW
    go_wp2_with fail;go_ret;exact aE (((H4.o.2.2.1.pb H4.o.1.2).pt (ak _)).le (by omega))
  .have hh2:cF x.l key=false:=by simpa using hh
   have bG:=eY.o;rw[if_pos hh2]at bG;subst bG;generalize cF x.l key=hb at *;subst hh2;clear hh;go_wp2_with fail;go_ret;exact aE (((H3.o.2.2.1.pb H3.o.1.2).pt (ak _)).le (by omega))
 .rw[if_pos he];have hq:(er != 0)=true:=by rw[bne_iff_ne];exact he
  have kt:(er==0)=false:=by rw[beq_eq_false_iff_ne];exact he
  clear fu;go_enter func26,ntmps26;go_wp2_with fail;refine KW.o.mono ?_;rintro e w1 ⟨v,L,rfl,SA,nV,P1,o1⟩;have P1:=xh P1;have o1:=xh o1;clear SA nV;go_wp2_with fail;go_ret;exact aE ((PT.self P1.o o1.o).le (by omega))
def jY:List UInt8:=(bj true []).1
def QS.xN(q:QS):QS×Int:=if q.a.lr.length=0 then((q.bV jY).1,(q.bV jY).2.2)else(q,0)
def QS.kG(q:QS):QS×Int:=if q.xN.2≠0 then q.xN else((q.xN.1.bJ 0).1,(q.xN.1.bJ 0).2.2.2)
def Opened(w w':World)(I:Ix)(F:List Nat)(q:QS)(e:Int)(n K:Nat)(v:Value):Prop:=
 ∃F',ag F w w'/\(∀g∈F',g∈F\/w.heap.size<=g)/\PQ w' I F' q n K/\(e≠0->v=.pointer none)/\(e=0->∃tb,v=tp tb/\w.heap.size<=tb/\TQ w' tb I F' q n K)
theorem Dt{w:World}{I:Ix}{F:List Nat}{q:QS}{n K:Nat}(h:PQ w I F q n K)(hK:K<=999999999000):
  Calls prog 24 #[pp I.pb] w λe w'=> ∃v,e=.returned (.tuple #[v,.int .i64 q.kG.2])/\Opened w w' I F q.kG.1 q.kG.2 n (K+2) v:=by
 have gV:=ae (Below.refl w.heap.size w) (.cells #[pp I.pb] 130);obtain⟨wT,hwT⟩:∃wT,w.heap.size=wT:=⟨_,rfl⟩;have HWT:=xh hwT;have BT:=aJ.new w 130 #[pp I.pb];rw[hwT]at BT;have H1:=xh (show TQ _ wT I F q n K/\ag F w _ from⟨⟨BT,h.below gV⟩,.aj gV⟩);have K1:=xh (LP H1.o.1.2);have K2:=xh (LQ H1.o.1.2);unfold QS.kG QS.xN;unfold pp sp at *
 by_cases h0:q.a.lr.length=0
 .rw[if_pos h0];rw[h0]at K2;have K3:=xh (λ(W:World)=>Nd.Aq (w:=W) true none 0 0 [] ⟨rfl,λk e he=>by simp at he⟩ (by omega));have hl:=Nd.xG true [];have hleaf:bj true []=(jY,0):=by unfold jY;decide
  rw[hleaf]at K3 hl;dsimp only at K3 hl;have KN:=xh (λ(W:World) (hW:PQ W I F q n K)=>zM hW (by omega) ⟨jY.toArray⟩ (by show jY.toArray.size<=232;simp;exact hl));have HLB:=xh (show(⟨jY.toArray⟩:ByteArray).data.toList=jY from by simp);rw[HLB.o]at KN;generalize q.bV jY=R at *;obtain⟨q1,p1,e1⟩:=R;dsimp only at *;unfold bA at K3;unfold pp at KN;obtain⟨RR,bG⟩:∃RR,(if e1≠0 then(q1,e1)else((q1.bJ 0).1,(q1.bJ 0).2.2.2))=RR:=⟨_,rfl⟩;rw[bG]
  have eY:=xh bG;clear bG;go_enter func24,ntmps24;go_wp2_with fail;refine K1.o.mono ?_;rintro e w2 ⟨rfl,rfl⟩;go_wp2_with fail;refine K2.o.mono ?_;rintro e w3 ⟨A3,c3,rfl,S3,gh⟩;have H3:=xh (show TQ w3 wT I F q n K/\ag F w w3 from⟨H1.o.1.below gh,H1.o.2.trans (.aj gh)⟩);clear S3 gh;go_wp2_with fail;refine(K3.o w3).mono ?_;rintro e w4 ⟨rfl,jw⟩
  have H4:=xh (show TQ w4 wT I F q n K/\ag F w w4 from⟨H3.o.1.below jw,H3.o.2.trans (.aj jw)⟩);clear jw;go_wp2_with fail;refine(KN.o w4 H4.o.1.2).mono ?_;rintro e w5 ⟨rfl,P5⟩;obtain⟨F1,T5,o5,f5⟩:=P5.tq H4.o.1;have HT:=xh (show TQ w5 wT I F1 q1 n (K+1)/\ag F w w5/\(∀g∈F1,g∈F\/w.heap.size<=g)from⟨T5,H4.o.2.trans o5,λg hg=>(f5 g hg).imp id (λh=>ar H4.o.2.size h)⟩);clear P5 T5 o5 f5
  by_cases Ju:e1=0
  .subst Ju;have bG:=eY.o;rw[if_neg (show ¬((0:Int)≠0) by simp)]at bG;have K9:=xh (nS HT.o.1 (by omega) 0);have hlen:=mh q1 0;generalize q1.bJ 0=r at *;obtain⟨q2,lf,l,er⟩:=r;dsimp only at *;subst bG;unfold tp bA at K9;go_wp2_with fail;refine K9.o.mono ?_;rintro e w9 ⟨A9,c9,rfl,S9,f9,P9,o9⟩;have jt:=ae (Below.refl w9.heap.size w9) (.cells #[.bool lf,.slice A9 l.length c9] 118)
   have H9:=xh (show TQ _ wT I F1 q2 n (K+2)/\ag F w _/\(∀g∈F1,g∈F\/w.heap.size<=g)from⟨(HT.o.1.next o9 P9).below jt,(HT.o.2.1.aO o9 (λg hg dH=>(HT.o.2.2 g hg).elim id (λh=>by omega))).trans (.aj jt),HT.o.2.2⟩);clear S9 f9 P9 o9 jt
   by_cases he:er=0
   .subst he;go_wp2_with fail;go_ret2;exact⟨_,by first|rfl|simp,F1,H9.o.2.1,H9.o.2.2,H9.o.1.2,λh=>absurd rfl h,λ_=>⟨wT,by unfold tp;first|rfl|simp[HWT.o],by rw[<-HWT.o];exact ak _,H9.o.1⟩⟩
   .have hq:(er != 0)=true:=by rw[bne_iff_ne];exact he
    have kt:(er==0)=false:=by rw[beq_eq_false_iff_ne];exact he
    go_wp2_with fail;go_ret2;exact⟨_,by first|rfl|simp,F1,H9.o.2.1,H9.o.2.2,H9.o.1.2,λ_=>rfl,λh=>absurd h he⟩
  .have bG:=eY.o;rw[if_pos Ju]at bG;subst bG;have hq:(e1 != 0)=true:=by rw[bne_iff_ne];exact Ju
   have kt:(e1==0)=false:=by rw[beq_eq_false_iff_ne];exact Ju
   go_wp2_with fail;go_ret2;exact⟨_,by first|rfl|simp,F1,HT.o.2.1,HT.o.2.2,HT.o.1.2.le (by omega),λ_=>rfl,λh=>absurd h Ju⟩
 .rw[if_neg h0,if_neg (show ¬((0:Int)≠0) by simp)];dsimp only;have h0I:((q.a.lr.length:Nat):Int)≠0:=by omega
  generalize q.a.lr.length=np at *;obtain⟨RR,bG⟩:∃RR,((q.bJ 0).1,(q.bJ 0).2.2.2)=RR:=⟨_,rfl⟩;rw[show(q.bJ 0).1=RR.1 from by rw[<-bG],show(q.bJ 0).2.2.2=RR.2 from by rw[<-bG]];have eY:=xh bG;clear bG;go_enter func24,ntmps24;go_wp2_with fail;refine K1.o.mono ?_;rintro e w2 ⟨rfl,rfl⟩;go_wp2_with fail;refine K2.o.mono ?_;rintro e w3 ⟨A3,c3,rfl,S3,gh⟩
  have HT:=xh (show TQ w3 wT I F q n (K+1)/\ag F w w3/\(∀g∈F,g∈F\/w.heap.size<=g)from⟨(H1.o.1.below gh).le (by omega),H1.o.2.trans (.aj gh),λg hg=> .inl hg⟩);clear S3 gh;have bG:=eY.o;have K9:=xh (nS HT.o.1 (by omega) 0);have hlen:=mh q 0;generalize q.bJ 0=r at *;obtain⟨q2,lf,l,er⟩:=r;dsimp only at *;subst bG;unfold tp bA at K9;go_wp2_with fail;refine K9.o.mono ?_;rintro e w9 ⟨A9,c9,rfl,S9,f9,P9,o9⟩
  have jt:=ae (Below.refl w9.heap.size w9) (.cells #[.bool lf,.slice A9 l.length c9] 118);have H9:=xh (show TQ _ wT I F q2 n (K+2)/\ag F w _/\(∀g∈F,g∈F\/w.heap.size<=g)from⟨(HT.o.1.next o9 P9).below jt,(HT.o.2.1.aO o9 (λg hg dH=>(HT.o.2.2 g hg).elim id (λh=>by omega))).trans (.aj jt),HT.o.2.2⟩);clear S9 f9 P9 o9 jt
  by_cases he:er=0
  .subst he;go_wp2_with fail;go_ret2;exact⟨_,by first|rfl|simp,F,H9.o.2.1,H9.o.2.2,H9.o.1.2,λh=>absurd rfl h,λ_=>⟨wT,by unfold tp;first|rfl|simp[HWT.o],by rw[<-HWT.o];exact ak _,H9.o.1⟩⟩
  .have hq:(er != 0)=true:=by rw[bne_iff_ne];exact he
   have kt:(er==0)=false:=by rw[beq_eq_false_iff_ne];exact he
   go_wp2_with fail;go_ret2;exact⟨_,by first|rfl|simp,F,H9.o.2.1,H9.o.2.2,H9.o.1.2,λ_=>rfl,λh=>absurd h he⟩
structure Wk(σ:Type) where
 q:QS
 seen:Nat
 s:σ
 more:Bool
 e:Int
section
variable{σ:Type}
def mH(fr:ByteArray)(leaf:Bool)(first i:Nat)(x:E):Bool:=decide (i<first) || (leaf && Op.bytesLess x.key.toList fr.toList)
def lF(az:ByteArray)(leaf:Bool)(i:Nat)(x:E):Bool:= !(az.toList==[]) && !Op.bytesLess x.key.toList az.toList && (leaf || decide (0<i))
def iF(rec:QS->Nat->σ->Int->Wk σ)(step:E->σ->σ×Bool)(fr az:ByteArray)(leaf:Bool)(first:Nat):Nat->List E->QS->Nat->σ->Wk σ
 |_,[],q,seen,s=>⟨q,seen,s,true,0⟩
 |i,x::l,q,seen,s=>
  if mH fr leaf first i x=true then iF rec step fr az leaf first (i+1) l q seen s
  else if lF az leaf i x=true then⟨q,seen,s,false,0⟩
  else if leaf=true then
   if(step x s).2=true then iF rec step fr az leaf first (i+1) l q seen (step x s).1
   else⟨q,seen,(step x s).1,false,0⟩
  else
   if(rec q seen s x.aW).more=true/\(rec q seen s x.aW).e=0 then iF rec step fr az leaf first (i+1) l (rec q seen s x.aW).q (rec q seen s x.aW).seen (rec q seen s x.aW).s
   else rec q seen s x.aW
def fQ(step:E->σ->σ×Bool)(fr az:ByteArray):Nat->QS->Nat->σ->Int->Wk σ
 |0,q,seen,s,_=>⟨q,seen+1,s,false,14⟩
 |d+1,q,seen,s,p=>
  if 512<seen+1 then⟨q,seen+1,s,false,14⟩
  else if(q.bJ p).2.2.2≠0 then⟨(q.bJ p).1,seen+1,s,false,(q.bJ p).2.2.2⟩
  else iF (fQ step fr az d) step fr az (q.bJ p).2.1 (if(q.bJ p).2.1=true then 0 else bP (q.bJ p).2.2.1 fr) 0 (q.bJ p).2.2.1 (q.bJ p).1 (seen+1) s
def QS.ev(q:QS)(step:E->σ->σ×Bool)(fr az:ByteArray)(s:σ):Wk σ:=fQ step fr az 16 q 0 s 0
structure Vis(fn:Nat)(eF:Array Value)(step:E->σ->σ×Bool)(ja:σ->Nat)(Inv:World->σ->List Nat->Prop):Prop where
 call:∀(W:World) (s:σ) (G:List Nat) (x:E),Inv W s G->ja s<=100000->x.key.size<=32->Calls prog fn (#[x.agg]++eF) W λe w'=>e=.returned (.bool (step x s).2)/\∃G',Inv w' (step x s).1 G'/\ag G W w'/\∀g∈G',g∈G\/W.heap.size<=g
 pD:∀(W w':World) (s:σ) (G S:List Nat),Inv W s G->ag S W w'->(∀g∈G,g∉S)->Inv w' s G
 lt:∀(W:World) (s:σ) (G:List Nat),Inv W s G->∀g∈G,g<W.heap.size
 ent:∀(args:Array Value) (W:World),Sem.run prog (callFunc fn args) W=Result.ok (.enter fn args) W
 one:∀(x:E) (s:σ),ja (step x s).1<=ja s+1
end
structure Ev where
 sB:Nat
 tB:Nat
 fB:Nat
 oB:Nat
 dB:Nat
 kB:Nat
def Ev.l(v:Ev):List Nat:=[v.sB,v.tB,v.fB,v.oB,v.dB,v.kB]
def Ev.eF(v:Ev):Array Value:= #[.pointer (some ⟨v.sB,0,none⟩),.pointer (some ⟨v.tB,0,none⟩),.pointer (some ⟨v.fB,0,none⟩),.pointer (some ⟨v.oB,0,none⟩),.pointer (some ⟨v.dB,0,none⟩),.pointer (some ⟨v.kB,0,none⟩)]
structure rN(w:World)(v:Ev)(tb:Nat)(fr az:ByteArray)(fn:Nat)(eF:Array Value)(seen:Nat):Prop where
 s:aJ w v.sB 3 #[.int .i64 (seen:Nat)]
 t:aJ w v.tB 35 #[tp tb]
 f:aJ w v.fB 9 #[.string fr]
 o:aJ w v.oB 9 #[.string az]
 d:aJ w v.dB 112 #[.func (.func fn) #[] eF]
 k:aJ w v.kB 191 #[.func (.func 109) #[] v.eF]
section
variable{w w':World}{v:Ev}{tb:Nat}{fr az:ByteArray}{fn:Nat}{eF:Array Value}{seen:Nat}{S:List Nat}
theorem rN.only(h:rN w v tb fr az fn eF seen)(o:ag S w w')(hd:∀g∈v.l,g∉S):rN w' v tb fr az fn eF seen:=
 ⟨h.s.only o (hd _ (by simp[Ev.l])),h.t.only o (hd _ (by simp[Ev.l])),h.f.only o (hd _ (by simp[Ev.l])),h.o.only o (hd _ (by simp[Ev.l])),h.d.only o (hd _ (by simp[Ev.l])),h.k.only o (hd _ (by simp[Ev.l]))⟩
theorem rN.below(h:rN w v tb fr az fn eF seen)(hb:Below w.heap.size w w'):rN w' v tb fr az fn eF seen:=h.only (S:=[]) (.aj hb) (by simp)
theorem rN.lt(h:rN w v tb fr az fn eF seen):∀g∈v.l,g<w.heap.size:=λg hg=>by
 simp only[Ev.l,an,gX,or_false]at hg
 rcases hg with rfl|rfl|rfl|rfl|rfl|rfl
 .exact h.s.lt
 .exact h.t.lt
 .exact h.f.lt
 .exact h.o.lt
 .exact h.d.lt
 .exact h.k.lt
theorem rN.up(h:rN w v tb fr az fn eF seen):rN (w.setCell ⟨v.sB,0,none⟩ (.int .i64 ((seen+1:Nat):Int))) v tb fr az fn eF (seen+1):=
 ⟨h.s.bE 0 _,h.t.aW (λe=>h.s.k7 h.t (by decide) e.symm) _,h.f.aW (λe=>h.s.k7 h.f (by decide) e.symm) _,h.o.aW (λe=>h.s.k7 h.o (by decide) e.symm) _,h.d.aW (λe=>h.s.k7 h.d (by decide) e.symm) _,h.k.aW (λe=>h.s.k7 h.k (by decide) e.symm) _⟩
end
def WP{σ:Type}(w w':World)(v:Ev)(tb:Nat)(I:Ix)(F G:List Nat)(n K:Nat)(fr az:ByteArray)(fn:Nat)(eF:Array Value)(ja:σ->Nat)(Inv:World->σ->List Nat->Prop)(R:Wk σ):Prop:=
 ∃G',TQ w' tb I F R.q n (K+R.seen)/\rN w' v tb fr az fn eF R.seen/\Inv w' R.s G'/\ag (v.sB::(F++G)) w w'/\(∀g∈G',g∈G\/w.heap.size<=g)/\ja R.s<=57*R.seen/\R.seen<=513/\(R.e=0->R.seen<=512)
structure LW{σ:Type}(w wr:World)(v:Ev)(tb:Nat)(I:Ix)(F G:List Nat)(n K:Nat)(fr az:ByteArray)(fn:Nat)(eF:Array Value)(ja:σ->Nat)(Inv:World->σ->List Nat->Prop)(q:QS)(sn bd:Nat)(s:σ)(Gi:List Nat)(leaf:Bool)(A:Option Addr)(c Du:Nat)(l:List E):Prop where
 t:TQ wr tb I F q n (K+sn)
 e:rN wr v tb fr az fn eF sn
 i:Inv wr s Gi
 o:ag (v.sB::(F++G)) w wr
 g:∀g∈Gi,g∈G\/w.heap.size<=g
 m:ja s<=bd
 s:aT wr 111 3 (.slice A l.length c) l.length (aH l)
 b:aJ wr Du 118 #[.bool leaf,.slice A l.length c]
 d:∀g∈tb::(v.l++(F++Du::ai (.slice A l.length c))),g∉Gi
 x:∀g∈Du::ai (.slice A l.length c),g∉F/\g≠v.sB/\w.heap.size<=g
 y:∀g∈v.l,g∉F/\g≠tb
section
variable{σ:Type}{w wr w':World}{v:Ev}{tb:Nat}{I:Ix}{F G:List Nat}{n K:Nat}{fr az:ByteArray}{fn:Nat}{eF:Array Value}{ja:σ->Nat}{Inv:World->σ->List Nat->Prop}{q:QS}{sn bd:Nat}{s:σ}{Gi:List Nat}{leaf:Bool}{A:Option Addr}{c Du:Nat}{l:List E}{step:E->σ->σ×Bool}
theorem LW.lt(h:LW w wr v tb I F G n K fr az fn eF ja Inv q sn bd s Gi leaf A c Du l):∀g∈tb::(v.l++(F++Du::ai (.slice A l.length c))),g<wr.heap.size:=λg hg=>by
 simp only[an,aC]at hg
 rcases hg with e|hg|hg|e|hg
 .exact h.t.lt g (by simp[e])
 .exact h.e.lt g hg
 .exact h.t.lt g (by simp[hg])
 .rw[e];exact h.b.lt
 .exact h.s.lt g hg
theorem LW.below(V:Vis fn eF step ja Inv)(h:LW w wr v tb I F G n K fr az fn eF ja Inv q sn bd s Gi leaf A c Du l)(hb:Below wr.heap.size wr w'):LW w w' v tb I F G n K fr az fn eF ja Inv q sn bd s Gi leaf A c Du l:=
 ⟨h.t.below hb,h.e.below hb,V.pD _ _ _ _ [] h.i (.aj hb) (by simp),h.o.trans (.aj hb),h.g,h.m,h.s.below hb,h.b.below hb h.b.lt,h.d,h.x,h.y⟩
theorem LW.vis{G':List Nat}{s':σ}{bd':Nat}(h:LW w wr v tb I F G n K fr az fn eF ja Inv q sn bd s Gi leaf A c Du l)(hI:Inv w' s' G')(o:ag Gi wr w')(f:∀g∈G',g∈Gi\/wr.heap.size<=g)(hm:ja s'<=bd'):LW w w' v tb I F G n K fr az fn eF ja Inv q sn bd' s' G' leaf A c Du l:=
 ⟨h.t.only o (λg hg=>h.d g (by simp only[an,aC]at hg ⊢;rcases hg with e|e<;>simp[e])),h.e.only o (λg hg=>h.d g (by simp[hg])),hI,h.o.aO o (λg hg dH=>(h.g g hg).elim (λe=>by simp[e]) (λe=>by omega)),λg hg=>(f g hg).elim (h.g g) (λe=> .inr (by have:=h.o.size;omega)),hm,
  h.s.only o (λg hg=>h.d g (by simp[hg])),h.b.only o (h.d _ (by simp)),λg hg hG=>(f g hG).elim (h.d g hg) (λe=>by have:=h.lt g hg;omega),h.x,h.y⟩
theorem LW.deep{R:Wk σ}(h:LW w wr v tb I F G n K fr az fn eF ja Inv q sn bd s Gi leaf A c Du l)(hw:WP wr w' v tb I F Gi n K fr az fn eF ja Inv R):∃G',LW w w' v tb I F G n K fr az fn eF ja Inv R.q R.seen (57*R.seen) R.s G' leaf A c Du l/\R.seen<=513/\(R.e=0->R.seen<=512):=by
 obtain⟨G',a1,a2,a3,a4,a5,a6,a7,a8⟩:=hw;have ne:∀g∈Du::ai (.slice A l.length c),g∉v.sB::(F++Gi):=λg hg hm=>by
  rcases an.1 hm with e|hm
  .exact(h.x g hg).2.1 e
  .rcases aC.1 hm with hm|hm
   .exact(h.x g hg).1 hm
   .exact h.d g (by simp only[an,aC]at hg ⊢;rcases hg with e|e<;>simp[e]) hm
 refine⟨G',⟨a1,a2,a3,h.o.aO a4 (λg hg dH=>?_),λg hg=>(a5 g hg).elim (h.g g) (λe=> .inr (by have:=h.o.size;omega)),a6,h.s.only a4 (λg hg=>ne g (by simp[hg])),h.b.only a4 (ne _ (by simp)),λg hg hG=>(a5 g hG).elim (h.d g hg) (λe=>by have:=h.lt g hg;omega),h.x,h.y⟩,a7,a8⟩
 rcases an.1 hg with e|hg
 .simp[e]
 .rcases aC.1 hg with hg|hg
  .simp[hg]
  .exact(h.g g hg).elim (λe=>by simp[e]) (λe=>by omega)
theorem LW.wp(h:LW w wr v tb I F G n K fr az fn eF ja Inv q sn bd s Gi leaf A c Du l)(hb:bd<=57*sn)(h1:sn<=513)(more:Bool)(er:Int)(h2:er=0->sn<=512):WP w wr v tb I F G n K fr az fn eF ja Inv ⟨q,sn,s,more,er⟩:=
 ⟨Gi,h.t,h.e,h.i,h.o,h.g,ar h.m hb,h1,h2⟩
end
end Sh
namespace Sh
open Go.RowKit Pk Dk Pg
variable{p j:Int}{a:St}
abbrev Vw:=Int->List UInt8×Int
def jP(v:Vw)(p:Int)(b:List UInt8):Vw:=λj=>if j=p then(b,0)else v j
def FI(v:Vw)(p:Int):Vw:=λj=>if j=p then([],3)else v j
theorem Dv(v:Vw)(p:Int)(b:List UInt8):jP v p b p=(b,0):=if_pos rfl
theorem l5(v:Vw)(b:List UInt8)(h:j≠p):jP v p b j=v j:=if_neg h
theorem Dw(v:Vw)(p:Int):FI v p p=([],3):=if_pos rfl
theorem FJ(v:Vw)(h:j≠p):FI v p j=v j:=if_neg h
def QS.ja(q:QS):Nat×List (Option (List UInt8))×Nat:=(q.a.now.length,q.a.bX,q.a.many)
theorem QR(a:St)(l:Int)(p:List UInt8):(a.aD l p).1.now.length=a.now.length/\(a.aD l p).1.bX=a.bX/\(a.aD l p).1.many=a.many:=by
 unfold St.aD
 split
 .exact⟨rfl,rfl,rfl⟩
 .split
  .exact⟨rfl,rfl,rfl⟩
  .split
   .exact⟨rfl,rfl,rfl⟩
   .exact⟨by show(a.now.set _ _).length=_;rw[bW],rfl,rfl⟩
theorem QT{l:Int}{p:List UInt8}(h:(a.aD l p).2=11):a.free=0:=by
 unfold St.aD at h
 split at h
 .exact absurd h (by simp)
 .split at h
  .exact absurd h (by simp)
  .split at h
   .rename_i h1;exact h1.2
   .exact absurd h (by simp)
theorem qy(q:QS)(k:Nat):(q.bT k).1.ja=q.ja:=by
 unfold QS.bT
 split
 .obtain⟨a,b,c⟩:=QR q.a (jO q.l k).aq (jO q.l k).fS.data.toList
  split<;>exact kV a (kV b c)
 .rfl
theorem IE{q:QS}{k:Nat}(h:(q.bT k).2=11):q.a.free=0:=by
 unfold QS.bT at h
 split at h
 .split at h
  .exact absurd h (by simp)
  .exact QT h
 .exact absurd h (by simp)
theorem sW(q:QS):q.aN.1.ja=q.ja:=by
 unfold QS.ja;rw[(jA q).1]
theorem uM(q:QS)(p:Int):(q.bh p).1.ja=q.ja:=by
 unfold QS.bh
 split
 .rfl
 .split
  .rfl
  .split
   .exact sW q
   .split
    .rw[qy];exact sW q
    .exact(qy _ _).trans (sW q)
theorem IF{q:QS}(h:(q.bh p).2.2=11):q.a.free=0:=by
 unfold QS.bh at h
 split at h
 .exact absurd h (by simp)
 .split at h
  .rename_i h1;have h:(q.a.aP p).2=11:=h;unfold St.aP at h
   split at h
   .exact absurd h (by simp)
   .exact absurd h (by simp)
  .split at h
   .exact absurd h (by simp)
   .split at h
    .have:=IE h;rw[(jA q).1]at this;exact this
    .exact absurd h (by simp)
theorem Od(q:QS)(p:Int):(q.iI p).1.ja=q.ja:=by
 unfold QS.iI
 split<;>rfl
theorem Vz(q:QS)(p:Int)(b:ByteArray):(q.fK p b).1.ja=q.ja:=by
 unfold QS.fK
 split
 .rfl
 .split<;>rfl
theorem get_mes(q:QS)(p:Int):(q.dK p).1.ja=q.ja:=by
 unfold QS.dK
 split
 .exact uM q p
 .rw[Od];exact uM q p
theorem get_f11{q:QS}(h:(q.dK p).2.2=11):q.a.free=0:=by
 unfold QS.dK at h
 split at h
 .exact IF h
 .exact absurd h (by simp)
theorem Oe(q:QS)(p:Int)(b:ByteArray):(q.dM p b).1.ja=q.ja:=by
 unfold QS.dM
 split
 .rfl
 .split
  .exact uM q p
  .rw[Od,Vz];exact uM q p
theorem put_f11{q:QS}{b:ByteArray}(h:(q.dM p b).2=11):q.a.free=0:=by
 unfold QS.dM at h
 split at h
 .exact absurd h (by simp)
 .split at h
  .exact IF h
  .exact absurd h (by simp)
theorem QU(q:QS)(i:Int):(q.eU i).1.ja=q.ja:=by
 unfold QS.eU
 split
 .rfl
 .split
  .rfl
  .split
   .rfl
   .split
    .exact qy q _
    .exact qy q _
theorem IG(q:QS)(p:Int):(q.aV p).1.ja=q.ja:=by
 have h:(q.a.aV p).1.now.length=q.a.now.length/\(q.a.aV p).1.bX=q.a.bX/\(q.a.aV p).1.many=q.a.many:=by
  unfold St.aV
  split
  .exact⟨by show(q.a.now.set _ _).length=_;rw[bW],rfl,rfl⟩
  .exact⟨rfl,rfl,rfl⟩
 obtain⟨a,b,c⟩:=h;unfold QS.aV
 split
 .rfl
 .split
  .exact kV a (kV b c)
  .split<;>exact kV a (kV b c)
theorem new_mes(q:QS)(p:List UInt8):(q.bV p).1.a.now.length<=q.a.now.length+1/\(q.bV p).1.a.bX=q.a.bX/\(q.bV p).1.a.many=q.a.many:=by
 show(q.a.bV p).1.now.length<=_/\(q.a.bV p).1.bX=_/\(q.a.bV p).1.many=_;unfold St.bV
 split
 .exact⟨Nat.le_succ _,rfl,rfl⟩
 .split
  .exact⟨Nat.le_succ _,rfl,rfl⟩
  .refine⟨?_,rfl,rfl⟩;show(oP q.a.now _ _).length<=_;unfold oP
   split
   .simp
   .rw[bW];omega
theorem VC(a:St):a.slot<=a.now.length:=by unfold St.slot;exact oo
theorem new_f11{q:QS}{p:List UInt8}(h:(q.bV p).2.2=11):512<=q.a.now.length\/q.a.free=0:=by
 have h:(q.a.bV p).2.2=11:=h;unfold St.bV at h
 split at h
 .exact absurd h (by simp)
 .split at h
  .rename_i h1;exact h1.imp (λh=>ar h (VC q.a)) id
  .exact absurd h (by simp)
theorem II{u:Nat}(h:a.now.length+a.kept<=u)(hu:u<a.many):a.free≠0:=by
 have:a.fresh<=a.now.length:=vd;unfold St.free;omega
structure Rd(q:QS)(v o:Vw)(u m:Nat):Prop where
 w:∃n K,Wp q n K
 v:∀j,q.vw j=v j
 o:∀j,q.ov j=o j
 u:q.a.now.length+q.a.kept<=u
 m:m<=q.a.many
section
variable{q:QS}{v o:Vw}{u m:Nat}
theorem uN{q q':QS}(h:q'.ja=q.ja):q'.a.now.length+q'.a.kept=q.a.now.length+q.a.kept/\q'.a.many=q.a.many/\q'.a.bX=q.a.bX:=by
 have h1:q'.a.now.length=q.a.now.length:=congrArg Prod.fst h;have h2:q'.a.bX=q.a.bX:=congrArg (λx=>x.2.1) h;have h3:q'.a.many=q.a.many:=congrArg (λx=>x.2.2) h;refine⟨?_,h3,h2⟩;unfold St.kept;rw[h1,h2]
theorem Rd.step(h:Rd q v o u m){q':QS}{v':Int->List UInt8×Int}(hm:q'.ja=q.ja)(hw:∃n K,Wp q' n K)(hv:∀j,q'.vw j=v' j):Rd q' v' o u m:=by
 obtain⟨a,b,c⟩:=uN hm;exact⟨hw,hv,λj=>(Hn c j).trans (h.o j),by rw[a];exact h.u,by rw[b];exact h.m⟩
theorem Rd.free(h:Rd q v o u m)(h0:q.a.free=0):m<=u:=by
 rcases eR u m with h1|h1
 .exact absurd h0 (II h.u (tQ h1 h.m))
 .exact h1
theorem Rd.get(h:Rd q v o u m)(p:Int):Rd (q.dK p).1 v o u m/\
  (((v p).2=0/\(q.dK p).2=(⟨(v p).1.toArray⟩,0))\/(v p=([],3)/\(q.dK p).2=(⟨#[]⟩,3))\/((q.dK p).2=(⟨#[]⟩,11)/\m<=u)):=by
 obtain⟨n,K,w⟩:=h.w;obtain⟨a,b⟩:=w.get p;refine⟨h.step (get_mes q p) ⟨n,_,a.w⟩ (λj=>(a.v j).trans (h.v j)),?_⟩;rw[h.v]at b
 rcases b with b|b|⟨b,c⟩
 .exact .inl b
 .exact .inr (.inl b)
 .exact .inr (.inr ⟨c,h.free (get_f11 (p:=p) (by rw[c]))⟩)
theorem Rd.put(h:Rd q v o u m)(p:Int)(b:ByteArray)(hb:b.size=232)(h0:(v p).2=0):
  ((q.dM p b).2=0/\Rd (q.dM p b).1 (jP v p b.data.toList) o u m)\/((q.dM p b).2=11/\Rd (q.dM p b).1 v o u m/\m<=u):=by
 obtain⟨n,K,w⟩:=h.w;obtain⟨a,c⟩:=w.put p b (by omega)
 rcases c with⟨c1,c2,c3⟩|⟨c1,c2,c3⟩|⟨c1,c2,c3⟩
 .refine .inl ⟨c2,h.step (Oe q p b) ⟨n,_,a.w⟩ (λj=>?_)⟩;rw[c3,ux hb];unfold jP
  split
  .rfl
  .exact h.v j
 .rw[h.v]at c1;rw[c1]at h0;exact absurd h0 (by decide)
 .exact .inr ⟨c2,h.step (Oe q p b) ⟨n,_,a.w⟩ (λj=>(c3 j).trans (h.v j)),h.free (put_f11 c2)⟩
theorem Rd.new(h:Rd q v o u m)(p:ByteArray)(hb:p.size<=232):
  (∃l:Nat,(q.bV p.data.toList).2=(((l:Nat):Int),0)/\l<=511/\v (l:Nat)=([],3)/\Rd (q.bV p.data.toList).1 (jP v (l:Nat) (eP p.data.toList 232)) o (u+1) m)\/
  ((q.bV p.data.toList).2=(0,11)/\Rd (q.bV p.data.toList).1 v o (u+1) m/\(m<=u\/512<=u)):=by
 obtain⟨n,K,w⟩:=h.w;obtain⟨a,c⟩:=w.new p hb;obtain⟨m1,m2,m3⟩:=new_mes q p.data.toList;have hk:(q.bV p.data.toList).1.a.now.length+(q.bV p.data.toList).1.a.kept<=u+1:=by
  have:=h.u;have hk:(q.bV p.data.toList).1.a.kept=q.a.kept:=by unfold St.kept;rw[m2]
  omega
 rcases c with⟨l,c1,c2,c3,c4⟩|⟨c1,c2⟩
 .refine .inl ⟨l,c1,c2,by rw[<-h.v];exact c3,⟨n,_,a.w⟩,λj=>?_,λj=>(Hn m2 j).trans (h.o j),hk,by rw[m3];exact h.m⟩;rw[c4];unfold jP
  split
  .rfl
  .exact h.v j
 .refine .inr ⟨c1,⟨⟨n,_,a.w⟩,λj=>(c2 j).trans (h.v j),λj=>(Hn m2 j).trans (h.o j),hk,by rw[m3];exact h.m⟩,?_⟩
  rcases new_f11 (q:=q) (p:=p.data.toList) (by rw[c1])with h1|h1
  .have:=h.u;right;omega
  .exact .inl (h.free h1)
theorem Rd.drop(h:Rd q v o u m)(p:Int)(h0:(v p).2=0):(q.aV p).2=0/\Rd (q.aV p).1 (FI v p) o u m:=by
 obtain⟨n,K,w⟩:=h.w;obtain⟨a,c⟩:=w.drop p
 rcases c with⟨c1,c2,c3⟩|⟨c1,c2,c3⟩
 .refine⟨c2,h.step (IG q p) ⟨n,_,a.w⟩ (λj=>?_)⟩;rw[c3];unfold FI
  split
  .rfl
  .exact h.v j
 .rw[h.v]at c1;rw[c1]at h0;exact absurd h0 (by simp)
theorem Rd.xr(h:Rd q v o u m)(i:Int):Rd (q.eU i).1 v o u m/\((q.eU i).2=0\/(q.eU i).2=3\/(q.eU i).2=11):=by
 obtain⟨n,K,w⟩:=h.w;obtain⟨a,c⟩:=w.xr i;exact⟨h.step (QU q i) ⟨n,_,a.w⟩ (λj=>(a.v j).trans (h.v j)),c⟩
theorem Rd.lt(h:Rd q v o u m)(h0:(v j).2=0):0<=j/\j<512:=by
 obtain⟨n,K,w⟩:=h.w;exact w.vw_lt (by rw[h.v];exact h0)
theorem Rd.err(h:Rd q v o u m)(j:Int):(v j).2=0\/v j=([],3):=by
 rw[<-h.v];exact Fo q j
theorem Rd.le(h:Rd q v o u m){u':Nat}(hu:u<=u'):Rd q v o u' m:=⟨h.w,h.v,h.o,ar h.u hu,h.m⟩
end
open Nd (E aX bj dN bP bl cF bU ao)
variable{leaf:Bool}{l:List E}{v:Vw}{p:Int}
def iG(v:Vw)(p:Int):Bool×List E×Int:=
 if(v p).2≠0 then(false,[],yf (v p).2)else((aX (v p).1).1,(aX (v p).1).2.1,yf (aX (v p).1).2.2)
theorem nX(leaf:Bool)(l:List E):(dN (blank leaf l) leaf/\ao (blank leaf l)<=223/\(bH leaf l).2=0/\(bH leaf l).1.length=232/\aX (bH leaf l).1=(leaf,blank leaf l,0))\/
  (dN (blank leaf l) leaf/\223<ao (blank leaf l)/\bH leaf l=([],11))\/(¬dN (blank leaf l) leaf/\bH leaf l=([],2)):=by
 unfold bH
 by_cases hm:dN (blank leaf l) leaf
 .have hb:=Nd.Ak leaf (blank leaf l)
  by_cases hr:ao (blank leaf l)<=223
  .left;have h0:(bj leaf (blank leaf l)).2=0:=by
    unfold bj;rw[if_pos ((Nd.lD _ _).2 hm),if_pos (by rw[hb];omega)]
   refine⟨hm,hr,h0,?_,Nd.Ir h0⟩;unfold bj;rw[if_pos ((Nd.lD _ _).2 hm),if_pos (by rw[hb];omega)];exact(Nd.wj _ (by rw[hb];omega)).1.len
  .right;left;refine⟨hm,by omega,?_⟩;unfold bj;rw[if_pos ((Nd.lD _ _).2 hm),if_neg (by rw[hb];omega)]
 .right;right;refine⟨hm,?_⟩;unfold bj;rw[if_neg (λh=>hm ((Nd.lD _ _).1 h))]
theorem AJ(h:(bH leaf l).2=0):dN (blank leaf l) leaf/\ao (blank leaf l)<=223/\(bH leaf l).1.length=232/\aX (bH leaf l).1=(leaf,blank leaf l,0):=by
 rcases nX leaf l with⟨a,b,c,d,e⟩|⟨a,b,c⟩|⟨a,c⟩
 .exact⟨a,b,d,e⟩
 .rw[c]at h;exact absurd h (by decide)
 .rw[c]at h;exact absurd h (by decide)
theorem gq(h:(bH leaf l).2=0)(p j:Int):iG (jP v p (bH leaf l).1) j=if j=p then(leaf,blank leaf l,0)else iG v j:=by
 unfold iG jP
 by_cases e:j=p
 .rw[if_pos e,if_pos e,(AJ h).2.2.2];rfl
 .rw[if_neg e,if_neg e]
theorem wG{v':Vw}(h:v' p=v p):iG v' p=iG v p:=by
 unfold iG;rw[h]
theorem mI(h:(iG v p).2.2=0):(v p).2=0:=by
 unfold iG at h
 split at h
 .rename_i h1;exact absurd (rp.1 h) h1
 .rename_i h1;omega
theorem oZ(h:(iG v p).2.2=0):dN (iG v p).2.1 (iG v p).1:=by
 have h0:=mI h;unfold iG at h ⊢;rw[if_neg (by omega)]at h ⊢;have h1:=rp.1 h;exact Nd.xH h1
section
variable{q:QS}{v o:Vw}{u m:Nat}
theorem Rd.read(h:Rd q v o u m)(p:Int):Rd (q.bJ p).1 v o u m/\((q.bJ p).2=iG v p\/((q.bJ p).2=(false,[],11)/\m<=u)):=by
 obtain⟨a,b⟩:=h.get p;unfold QS.bJ iG
 rcases b with⟨b1,b2⟩|⟨b1,b2⟩|⟨b1,b2⟩
 .rw[b2,if_neg (by simp),if_neg (by omega)];exact⟨a,.inl rfl⟩
 .rw[b2,b1,if_pos (by simp),if_pos (by simp)];exact⟨a,.inl rfl⟩
 .rw[b1,if_pos (by simp)];exact⟨a,.inr ⟨rfl,b2⟩⟩
theorem Rd.write(h:Rd q v o u m)(h0:(v p).2=0)(hl:(bH leaf l).2=0):
  ((q.db p leaf l).2=0/\Rd (q.db p leaf l).1 (jP v p (bH leaf l).1) o u m)\/((q.db p leaf l).2=11/\Rd (q.db p leaf l).1 v o u m/\m<=u):=by
 unfold QS.db;rw[if_neg (by omega)];exact h.put p ⟨(bH leaf l).1.toArray⟩ (by show(bH leaf l).1.toArray.size=_;rw[lS];exact(AJ hl).2.2.1) h0
theorem QV(q:QS)(p:Int)(hl:(bH leaf l).2≠0):q.db p leaf l=(q,(bH leaf l).2):=by
 unfold QS.db;rw[if_pos hl]
theorem Rd.make(h:Rd q v o u m)(hl:(bH leaf l).2=0):
  (∃k:Nat,(q.eB leaf l).2=(((k:Nat):Int),0)/\k<=511/\v (k:Nat)=([],3)/\Rd (q.eB leaf l).1 (jP v (k:Nat) (bH leaf l).1) o (u+1) m)\/
  ((q.eB leaf l).2=(0,11)/\Rd (q.eB leaf l).1 v o (u+1) m/\(m<=u\/512<=u)):=by
 unfold QS.eB;rw[if_neg (by omega)];have hn:=h.new ⟨(bH leaf l).1.toArray⟩ (by show(bH leaf l).1.toArray.size<=_;rw[lS,(AJ hl).2.2.1];exact ak _);have e:eP (bH leaf l).1 232=(bH leaf l).1:=by
  have:=ux (b:=⟨(bH leaf l).1.toArray⟩) (by show(bH leaf l).1.toArray.size=_;rw[lS];exact(AJ hl).2.2.1);exact this
 have hd:(⟨(bH leaf l).1.toArray⟩:ByteArray).data.toList=(bH leaf l).1:=rfl;rw[hd,e]at hn;exact hn
end
open Nd (E aX bj dN bP bl cF bU ao du)
variable{a b c:ByteArray}{v v':Vw}{h:Nat}{l:List E}{leaf:Bool}{p:Int}{y:Step}
theorem AK{α β:Type}{f g:α->List β}:∀{l:List α},(∀a∈l,f a=g a)->l.flatMap f=l.flatMap g
 |[],_=>rfl
 |a::l,h=>by rw[gW,gW,h a (by simp),AK λx hx=>h x (by simp[hx])]
def kc(a b:ByteArray):Int:=Nd.cb a.data.toList b.data.toList
abbrev fR(a b:ByteArray):Prop:=kc a b<0
abbrev nY(a b:ByteArray):Prop:=kc a b<=0
theorem Of :kc a b=0↔a=b:=by
 unfold kc;rw[Nd.UX];exact⟨λh=>mr (rP.1 h),λh=>by rw[h]⟩
theorem Mw(a b:ByteArray):kc b a= -kc a b:=Nd.FC _ _
theorem ij(h:fR a b)(k:fR b c):fR a c:=Nd.qp _ _ _ h k
theorem sX(h:fR a b):nY a b:=Int.le_of_lt h
theorem ry(h:nY a b):fR a b\/a=b:=by
 rcases Int.lt_or_eq_of_le h with h|h
 .exact .inl h
 .exact .inr (Of.1 h)
theorem gr(h:fR a b)(k:nY b c):fR a c:=by
 rcases ry k with k|rfl
 .exact ij h k
 .exact h
theorem jk(h:nY a b)(k:fR b c):fR a c:=by
 rcases ry h with h|rfl
 .exact ij h k
 .exact k
theorem nZ(h:nY a b)(k:nY b c):nY a c:=by
 rcases ry h with h|rfl
 .exact sX (gr h k)
 .exact k
theorem Og(a:ByteArray):nY a a:=Int.le_of_eq (Of.2 rfl)
theorem iH(h:fR a a):False:=by
 have:=Of.2 (rfl:a=a);omega
theorem wH(h:fR a b)(k:nY b a):False:=iH (gr h k)
theorem mJ(h:¬fR a b):nY b a:=by
 have:=Mw a b;omega
theorem wI(a:ByteArray):nY ⟨#[]⟩ a:=by
 show Nd.cb [] a.data.toList<=0
 cases a.data.toList<;>simp[Nd.cb,Lib.compareBytes]
abbrev NT:=Nat×Int×List E
def aM(v:Vw):Nat->Int->List NT
 |0,p=>[(0,p,(iG v p).2.1)]
 |h+1,p=>(h+1,p,(iG v p).2.1)::(iG v p).2.1.flatMap λe=>aM v h e.aW
def bw(v:Vw)(h:Nat)(l:List E):List NT:=l.flatMap λe=>aM v h e.aW
def bZ(ns:List NT):List E:=ns.flatMap λn=>if n.1=0 then n.2.2 else []
def bC(ns:List NT):List Int:=ns.map λn=>n.2.1
def gF(v:Vw)(h:Nat)(p:Int):List E:=bZ (aM v h p)
@[simp] theorem entsT_nil:bZ []=[]:=rfl
@[simp] theorem dV(a b:List NT):bZ (a++b)=bZ a++bZ b:=by simp[bZ]
theorem sY(n:NT)(a:List NT):bZ (n::a)=(if n.1=0 then n.2.2 else [])++bZ a:=rfl
@[simp] theorem Mx(p:Int)(l:List E)(a:List NT):bZ ((0,p,l)::a)=l++bZ a:=rfl
@[simp] theorem kN(h:Nat)(p:Int)(l:List E)(a:List NT):bZ ((h+1,p,l)::a)=bZ a:=by rw[sY];simp
@[simp] theorem pgsT_nil:bC []=[]:=rfl
@[simp] theorem df(a b:List NT):bC (a++b)=bC a++bC b:=by simp[bC]
@[simp] theorem dg(n:NT)(a:List NT):bC (n::a)=n.2.1::bC a:=rfl
@[simp] theorem QW(v:Vw)(h:Nat):bw v h []=[]:=rfl
@[simp] theorem fM(v:Vw)(h:Nat)(e:E)(l:List E):bw v h (e::l)=aM v h e.aW++bw v h l:=rfl
@[simp] theorem gS(v:Vw)(h:Nat)(a b:List E):bw v h (a++b)=bw v h a++bw v h b:=by simp[bw]
theorem dG{x:E}:x∈bZ (bw v h l)↔ ∃e∈l,x∈gF v h e.aW:=by
 induction l with
 |nil=>simp
 |cons e l ih=>simp[ih,gF]
structure sZ(C:Int->Prop)(en:Int->List E)(l:List E):Prop where
 ne:l≠[]
 c:∀e∈l,C e.aW/\en e.aW≠[]
 lo:l.Pairwise λc e=> ∀x∈en c.aW,fR x.key e.key
 hi:∀e∈l.tail,∀x∈en e.aW,nY e.key x.key
def mi(v:Vw):Nat->Int->Prop
 |0,p=>iG v p=(true,(iG v p).2.1,0)/\ao (iG v p).2.1<=223
 |h+1,p=>iG v p=(false,(iG v p).2.1,0)/\ao (iG v p).2.1<=223/\blank false (iG v p).2.1=(iG v p).2.1/\sZ (mi v h) (gF v h) (iG v p).2.1
def fU(v:Vw)(h:Nat)(l:List E):Prop:=(∀e∈l,du e (decide (h=0)))/\match h with
 |0=>l.Pairwise λc e=>fR c.key e.key
 |h+1=>sZ (mi v h) (gF v h) l
def cI(v:Vw)(h:Nat)(l:List E):List NT:=match h with
 |0=>[]
 |h+1=>bw v h l
def gx(v:Vw)(h:Nat)(l:List E):List E:=match h with
 |0=>l
 |h+1=>bZ (bw v h l)
theorem pf(v:Vw)(h:Nat)(p:Int):aM v h p=(h,p,(iG v p).2.1)::cI v h (iG v p).2.1:=by cases h<;>rfl
theorem FK(v:Vw)(h:Nat)(p:Int):gF v h p=gx v h (iG v p).2.1:=by
 cases h with
 |zero=>simp[gF,aM,gx]
 |succ h=>exact kN _ _ _ _
theorem mj(h:dN l leaf):∀e∈l,du e leaf:=λe he=>by
 obtain⟨i,hi,rfl⟩:=oq he;exact(h i hi _ (aL hi)).1
theorem IJ(h:dN l leaf):l.Pairwise λc e=>fR c.key e.key:=by
 rw[yi];intro i j hi hj hij;exact Nd.Mn h i (j-i-1) (aL hi) (by rw[show i+1+(j-i-1)=j by omega];exact aL hj)
theorem My(h:∀e∈l,du e leaf)(hp:l.Pairwise λc e=>fR c.key e.key):dN l leaf:=by
 intro i hi e he;refine⟨h e (ay he),λh0 p hpe=>?_⟩;rw[yi]at hp;have h1:=hp (i-1) i (by omega) hi (by omega);rw[aL (by omega)]at he hpe;injection he with he
 injection hpe with hpe
 rw[he,hpe]at h1;rw[Nd.UY,decide_eq_false_iff_not];have h2:=Mw p.key e.key;have h1:kc p.key e.key<0:=h1;show ¬kc e.key p.key<=0;omega
theorem pair_ne{C:Int->Prop}{en:Int->List E}(h:sZ C en l):l.tail.Pairwise λc e=>fR c.key e.key:=by
 obtain⟨ne,c,lo,hi⟩:=h
 cases l with
 |nil=>exact List.Pairwise.nil
 |cons e l=>
  rw[j8]at hi ⊢;rw[ef]at lo;refine List.Pairwise.imp_of_mem ?_ lo.2;intro a b ha hb hab;obtain⟨x,hx⟩:=vf _ (c a (ax _ ha)).2;exact jk (hi a ha x hx) (hab x hx)
theorem in_may{C:Int->Prop}{en:Int->List E}(h:sZ C en l)(hr:∀e∈l,du e false):dN (blank false l) false:=by
 have hp:=pair_ne h;obtain⟨ne,c,lo,hi⟩:=h
 cases l with
 |nil=>exact absurd rfl ne
 |cons e l=>
  have hb:blank false (e::l)={e with key:=⟨#[]⟩}::l:=rfl;rw[hb];refine My (λx hx=>?_) ?_
  .rcases an.1 hx with rfl|hx
   .obtain⟨a,b,cc⟩:=hr e (fY ..);exact⟨aY _,b,cc⟩
   .exact hr x (ax _ hx)
  .rw[ef]at lo ⊢;refine⟨λx hx=>?_,hp⟩;obtain⟨y,hy⟩:=vf _ (c e (fY ..)).2;exact jk (wI y.key) (lo.1 x hx y hy)
theorem VD{C:Int->Prop}{en:Int->List E} :sZ C en (blank false l)↔sZ C en l:=by
 cases l with
 |nil=>exact Iff.rfl
 |cons e l=>
  have hb:blank false (e::l)={e with key:=⟨#[]⟩}::l:=rfl;rw[hb]
  constructor
  .rintro⟨ne,c,lo,hi⟩;refine⟨by simp,λx hx=>?_,?_,hi⟩
   .rcases an.1 hx with rfl|hx
    .exact c {x with key:=⟨#[]⟩} (fY ..)
    .exact c x (ax _ hx)
   .rw[ef]at lo ⊢;exact lo
  .rintro⟨ne,c,lo,hi⟩;refine⟨by simp,λx hx=>?_,?_,hi⟩
   .rcases an.1 hx with rfl|hx
    .exact c e (fY ..)
    .exact c x (ax _ hx)
   .rw[ef]at lo ⊢;exact lo
theorem AL(v:Vw)(h:Nat)(leaf:Bool)(l:List E):bw v h (blank leaf l)=bw v h l:=by
 cases leaf<;>cases l<;>rfl
theorem kO(l:List E):blank true l=l:=by cases l<;>rfl
theorem n7(leaf:Bool):blank leaf []=[]:=by cases leaf<;>rfl
theorem dF(leaf:Bool)(l:List E):ao (blank leaf l)<=ao l:=by
 cases leaf
 .cases l with
  |nil=>exact ak _
  |cons e l=>show ao ({e with key:=⟨#[]⟩}::l)<=_;unfold ao;simp;exact aY _
 .rw[kO];exact ak _
theorem IK(k:fU v h l):dN (blank (decide (h=0)) l) (decide (h=0)):=by
 cases h with
 |zero=>exact(kO l).symm▸My k.1 k.2
 |succ h=>exact in_may k.2 k.1
theorem FL(k:mi v h p):iG v p=(decide (h=0),(iG v p).2.1,0)/\ao (iG v p).2.1<=223/\fU v h (iG v p).2.1:=by
 cases h with
 |zero=>
  have hm:=oZ (v:=v) (p:=p) (by rw[k.1]);rw[k.1]at hm;exact⟨k.1,k.2,mj hm,IJ hm⟩
 |succ h=>
  have hm:=oZ (v:=v) (p:=p) (by rw[k.1]);rw[k.1]at hm;exact⟨k.1,k.2.1,mj hm,k.2.2.2⟩
theorem list_ok(k:iG v p=(decide (h=0),l,0))(hb:ao l<=223)(hk:blank (decide (h=0)) l=l)(hl:fU v h l):mi v h p:=by
 cases h with
 |zero=>exact⟨by rw[k];rfl,by rw[k];exact hb⟩
 |succ h=>exact⟨by rw[k];rfl,by rw[k];exact hb,by rw[k];exact hk,by rw[k];exact hl.2⟩
theorem xO :∀(h:Nat) (p:Int),(∀j∈bC (aM v h p),v' j=v j)->aM v' h p=aM v h p/\(mi v h p->mi v' h p)
 |0,p,hj=>by
  have e:=wG (hj p (by simp[aM]));exact⟨by unfold aM;rw[e],λh=>by unfold mi at h ⊢;rw[e];exact h⟩
 |h+1,p,hj=>by
  have e:=wG (hj p (by simp[aM]));have hk:∀c∈(iG v p).2.1,aM v' h c.aW=aM v h c.aW/\(mi v h c.aW->mi v' h c.aW):=λc hc=>xO h c.aW λj hjm=>hj j (by
   unfold aM;rw[dg];refine ax _ ?_;simp only[bC,dC,mU]at hjm ⊢;obtain⟨n,hn,rfl⟩:=hjm;exact⟨n,⟨c,hc,hn⟩,rfl⟩)
  have hf:((iG v p).2.1.flatMap λe=>aM v' h e.aW)=(iG v p).2.1.flatMap λe=>aM v h e.aW:=AK λc hc=>(hk c hc).1;refine⟨?_,?_⟩
  .unfold aM;rw[e,hf]
  .unfold mi;rw[e];rintro⟨a,b,bk,d⟩;refine⟨a,b,bk,d.ne,λx hx=>⟨(hk x hx).2 (d.c x hx).1,by unfold gF;rw[(hk x hx).1];exact(d.c x hx).2⟩,?_,λx hx y hy=>?_⟩
   .refine List.Pairwise.imp_of_mem ?_ d.lo;intro x y hx hy hxy z hz;unfold gF at hz;rw[(hk x hx).1]at hz;exact hxy z hz
   .unfold gF at hy;rw[(hk x (tM hx)).1]at hy;exact d.hi x hx y hy
theorem hJ(hj:∀j∈bC (bw v h l),v' j=v j):bw v' h l=bw v h l/\∀e∈l,aM v' h e.aW=aM v h e.aW/\(mi v h e.aW->mi v' h e.aW):=by
 have hk:∀c∈l,aM v' h c.aW=aM v h c.aW/\(mi v h c.aW->mi v' h c.aW):=λc hc=>xO h c.aW λj hjm=>hj j (by
  unfold bw;simp only[bC,dC,mU]at hjm ⊢;obtain⟨n,hn,rfl⟩:=hjm;exact⟨n,⟨c,hc,hn⟩,rfl⟩)
 exact⟨AK λc hc=>(hk c hc).1,hk⟩
theorem VE(hk:∀e∈l,aM v' h e.aW=aM v h e.aW/\(mi v h e.aW->mi v' h e.aW))(d:sZ (mi v h) (gF v h) l):sZ (mi v' h) (gF v' h) l:=by
 refine⟨d.ne,λx hx=>⟨(hk x hx).2 (d.c x hx).1,by unfold gF;rw[(hk x hx).1];exact(d.c x hx).2⟩,?_,λx hx y hy=>?_⟩
 .refine List.Pairwise.imp_of_mem ?_ d.lo;intro x y hx hy hxy z hz;unfold gF at hz;rw[(hk x hx).1]at hz;exact hxy z hz
 .unfold gF at hy;rw[(hk x (tM hx)).1]at hy;exact d.hi x hx y hy
theorem kP(hj:∀j∈bC (cI v h l),v' j=v j):cI v' h l=cI v h l/\gx v' h l=gx v h l/\(fU v h l->fU v' h l):=by
 cases h with
 |zero=>exact⟨rfl,rfl,id⟩
 |succ h=>
  obtain⟨a,b⟩:=hJ (h:=h) (l:=l) hj;exact⟨a,by show bZ _=bZ _;rw[a],λk=>⟨k.1,VE b k.2⟩⟩
structure VF(v:Vw)(h:Nat)(y:Step)(p:Int)(a:List E)(c:E)(b:List E):Prop where
 leaf:y.leaf=false
 nd:iG v y.aq=(false,y.l,0)
 by_:ao y.l<=223
 bk:blank false y.l=y.l
 l:y.l=a++c::b
 at_:y.at_=a.length
 aW:c.aW=p
 ch:∀e∈a++b,mi v h e.aW/\gF v h e.aW≠[]
 lo:(a++b).Pairwise λc e=> ∀x∈gF v h c.aW,fR x.key e.key
 la:∀e∈a,∀x∈gF v h e.aW,fR x.key c.key
 ha:∀e∈a.tail,∀x∈gF v h e.aW,nY e.key x.key
 hb:∀e∈b,∀x∈gF v h e.aW,nY e.key x.key
 hc:a≠[]->∀e∈b,fR c.key e.key
def FM:List Step->ByteArray->Prop
 |[],_=>True
 |y::up,k=>(0<y.at_->nY (y.l.getD y.at_ Nd.E.zero).key k)/\(∀e∈y.l.drop (y.at_+1),fR k e.key)/\FM up k
def pA(v:Vw):List Step->Nat->Int->Prop
 |[],_,p=>p=0
 |y::up,h,p=>(∃a c b,VF v h y p a c b/\∀e∈a++b,∀x∈gF v h e.aW,FM up x.key)/\pA v up (h+1) y.aq
def ft(v:Vw):List Step->Nat->List NT
 |[],_=>[]
 |y::up,h=>ft v up (h+1)++(h+1,y.aq,y.l)::bw v h (y.l.take y.at_)
def dn(v:Vw):List Step->Nat->List NT
 |[],_=>[]
 |y::up,h=>bw v h (y.l.drop (y.at_+1))++dn v up (h+1)
theorem dq(v:Vw)(h:Nat):ft v [] h=[]:=rfl
theorem cL(v:Vw)(h:Nat):dn v [] h=[]:=rfl
theorem dh(v:Vw)(y:Step)(up:List Step)(h:Nat):ft v (y::up) h=ft v up (h+1)++(h+1,y.aq,y.l)::bw v h (y.l.take y.at_):=rfl
theorem cK(v:Vw)(y:Step)(up:List Step)(h:Nat):dn v (y::up) h=bw v h (y.l.drop (y.at_+1))++dn v up (h+1):=rfl
theorem k6{a:List E}{c:E}{b:List E}(f:VF v h y p a c b):y.l.take y.at_=a/\y.l.drop (y.at_+1)=b/\y.l.getD y.at_ Nd.E.zero=c:=by
 rw[f.l,f.at_];refine⟨qP,?_,?_⟩
 .rw[show a++c::b=(a++[c])++b by simp,List.drop_left' (by simp)]
 .simp[gH]
theorem mK{a:List E}{c:E}{b:List E}(f:VF v h y p a c b)(up:List Step)(k:ByteArray):FM (y::up) k↔(a≠[]->nY c.key k)/\(∀e∈b,fR k e.key)/\FM up k:=by
 obtain⟨h1,h2,h3⟩:=k6 f;show((0<y.at_->nY (y.l.getD y.at_ Nd.E.zero).key k)/\(∀e∈y.l.drop (y.at_+1),fR k e.key)/\FM up k)↔_;rw[h2,h3,f.at_];refine and_congr_left λ_=>?_
 constructor
 .exact λhh hn=>hh (tL.2 hn)
 .exact λhh hn=>hh (tL.1 hn)
theorem fr_in{a:List E}{c:E}{b:List E}(f:VF v h y p a c b)(hp:mi v h p)(hn:gF v h p≠[])(hh:∀x∈gF v h p,(a≠[]->nY c.key x.key)/\∀e∈b,fR x.key e.key):mi v (h+1) y.aq:=by
 unfold mi;rw[f.nd];refine⟨rfl,f.by_,f.bk,by rw[f.l];simp,λe he=>?_,?_,λe he=>?_⟩
 .rw[f.l]at he
  rcases aC.1 he with he|he
  .exact f.ch e (cd _ he)
  .rcases an.1 he with rfl|he
   .rw[f.aW];exact⟨hp,hn⟩
   .exact f.ch e (bK _ he)
 .show y.l.Pairwise _;have:=f.lo;rw[dR]at this;rw[f.l,dR,ef];refine⟨this.1,⟨λe he x hx=>?_,this.2.1⟩,λe he e' ye x hx=>?_⟩
  .rw[f.aW]at hx;exact(hh x hx).2 e he
  .rcases an.1 ye with rfl|ye
   .exact f.la e he x hx
   .exact this.2.2 e he e' ye x hx
 .have he:e∈y.l.tail:=he;rw[f.l]at he
  cases ha:a with
  |nil=>
   rw[ha]at he;exact f.hb e he
  |cons z a'=>
   have ff:a≠[]:=by rw[ha];simp
   have hha:=f.ha;rw[ha]at he hha;rw[lI,j8]at he;rw[j8]at hha
   rcases aC.1 he with he|he
   .exact hha e he
   .rcases an.1 he with rfl|he
    .intro x hx;rw[f.aW]at hx;exact(hh x hx).1 ff
    .exact f.hb e he
theorem plug :∀(up:List Step) (h:Nat) (p:Int),pA v up h p->mi v h p->(up≠[]->gF v h p≠[])->(∀x∈gF v h p,FM up x.key)->
  mi v (h+up.length) 0/\aM v (h+up.length) 0=ft v up h++(aM v h p++dn v up h)
 |[],h,p,hH,ho,hn,hi=>by
  have e:p=0:=hH;subst e;exact⟨ho,by simp[dq,cL]⟩
 |y::up,h,p,hH,ho,hn,hi=>by
  obtain⟨⟨a,c,b,f,hs⟩,hU⟩:=hH;have NI:=λx hx=>(mK f up x.key).1 (hi x hx);have hn:=hn (by simp);have o1:=fr_in f ho hn (λx hx=>⟨(NI x hx).1,(NI x hx).2.1⟩);obtain⟨t1,t2,t3⟩:=k6 f;have e1:aM v (h+1) y.aq=(h+1,y.aq,y.l)::(bw v h a++(aM v h p++bw v h b)):=by
   rw[pf,f.nd];show _::bw v h y.l=_;rw[f.l,gS,fM,f.aW,<-f.l]
  have KK:∀x∈gF v (h+1) y.aq,x∈gF v h p\/∃e∈a++b,x∈gF v h e.aW:=λx hx=>by
   unfold gF at hx;rw[e1,kN,dV,dV]at hx
   rcases aC.1 hx with hx|hx
   .obtain⟨e,he,hx⟩:=dG.1 hx;exact .inr ⟨e,cd _ he,hx⟩
   .rcases aC.1 hx with hx|hx
    .exact .inl hx
    .obtain⟨e,he,hx⟩:=dG.1 hx;exact .inr ⟨e,bK _ he,hx⟩
  have ff:gF v (h+1) y.aq≠[]:=λh0=>by
   unfold gF at h0;rw[e1,kN,dV,dV,JA,JA]at h0;exact hn h0.2.1
  obtain⟨r1,r2⟩:=plug up (h+1) y.aq hU o1 (λ_=>ff) (λx hx=>by
   rcases KK x hx with hx|⟨e,he,hx⟩
   .exact(NI x hx).2.2
   .exact hs e he x hx)
  have hl:h+(y::up).length=h+1+up.length:=by simp;omega
  rw[hl];refine⟨r1,?_⟩;rw[r2,e1];simp only[dh,cK,dq,cL];rw[t1,t2];simp
variable{l:List E}{v:Vw}{p:Int}{key:ByteArray}
theorem VG(e:E)(k:ByteArray):Nd.rM e k=kc e.key k:=rfl
theorem AM(hp:l.Pairwise λc e=>fR c.key e.key)(key:ByteArray):∃a b,l=a++b/\bl l key=a.length/\(∀e∈a,fR e.key key)/\
  ((cF l key=true/\∃c b',b=c::b'/\c.key=key/\∀e∈b',fR key e.key)\/(cF l key=false/\∀e∈b,fR key e.key)):=by
 have hle:bl l key<=l.length:=oo;have dH:∀e∈l.take (bl l key),fR e.key key:=λe he=>by
  obtain⟨j,hj,rfl⟩:=oq he;rw[bm]at hj;have hj2:j<l.findIdx λe=>decide (0<=Nd.rM e key):=by unfold bl at hj;omega
  have:=Ed hj2;have:=of_decide_eq_false this;rw[JO];rw[VG]at this;show kc _ _<0;omega
 refine⟨l.take (bl l key),l.drop (bl l key),(kT _ _).symm,by rw[bm];omega,dH,?_⟩
 rcases eR (bl l key) l.length with hf|hf
 .have he:=sg hf;have h0:0<=kc l[bl l key].key key:=by
   have:=pL (w:=show(l.findIdx λe=>decide (0<=Nd.rM e key))<l.length from hf);exact of_decide_eq_true this
  rw[he];have hp2:(l.drop (bl l key)).Pairwise λc e=>fR c.key e.key:=hp.sublist (List.drop_sublist _ _);rw[he,ef]at hp2;unfold cF;rw[aL hf];dsimp only;rw[VG]
  by_cases hz:kc l[bl l key].key key=0
  .left;have hk:=Of.1 hz;refine⟨by rw[decide_eq_true hz],_,_,rfl,hk,λe he=>?_⟩;rw[<-hk];exact hp2.1 e he
  .right;have hn:=Mw l[bl l key].key key;have h1:fR key l[bl l key].key:=by show kc _ _<0;omega
   refine⟨by rw[decide_eq_false hz],λe he=>?_⟩
   rcases an.1 he with rfl|he
   .exact h1
   .exact ij h1 (hp2.1 e he)
 .right;rw[lJ hf];refine⟨?_,by simp⟩;unfold cF;rw[gu hf]
theorem IL(hp:l.Pairwise λc e=>fR c.key e.key)(hn:l≠[])(key:ByteArray):∃a c b,l=a++c::b/\bP l key=a.length/\(a≠[]->nY c.key key)/\∀e∈b,fR key e.key:=by
 obtain⟨a,b,hl,hf,ha,hb⟩:=AM hp key;unfold bP
 rcases hb with⟨h1,c,b',rfl,hc,hb'⟩|⟨h1,hb⟩
 .rw[if_pos h1];exact⟨a,c,b',hl,hf,λ_=>by rw[hc];exact Og _,hb'⟩
 .rw[if_neg (by rw[h1];simp),hf]
  rcases sk a with rfl|⟨a',c,rfl⟩
  .cases b with
   |nil=>exact absurd hl hn
   |cons c b'=>exact⟨[],c,b',hl,rfl,λh=>absurd rfl h,λe he=>hb e (ax _ he)⟩
  .refine⟨a',c,b,by rw[hl];simp,by simp,λ_=>sX (ha c (by simp)),hb⟩
theorem fr_of{h:Nat}{a b:List E}{c:E}(hd:iG v p=(false,l,0))(hb:ao l<=223)(hk:blank false l=l)(d:sZ (mi v h) (gF v h) l)(hl:l=a++c::b)(hp:l.Pairwise λc e=>fR c.key e.key):
  VF v h ⟨p,false,l,a.length⟩ c.aW a c b:=by
 have Js:=d.lo;have Qz:=d.hi;have hc:=d.c;rw[hl,dR,ef]at Js hp;refine⟨rfl,hd,hb,hk,hl,rfl,rfl,λe he=>?_,?_,λe he x hx=>Js.2.2 e he c (fY ..) x hx,λe he x hx=>?_,λe he x hx=>?_,λ_ e he=>hp.2.1.1 e he⟩
 .rw[hl]at hc
  rcases aC.1 he with he|he
  .exact hc e (cd _ he)
  .exact hc e (bK _ (ax _ he))
 .rw[dR];exact⟨Js.1,Js.2.1.2,λx hx y hy=>Js.2.2 x hx y (ax _ hy)⟩
 .rw[hl]at Qz
  cases a with
  |nil=>exact absurd he (by simp)
  |cons z a'=>exact Qz e (cd _ he) x hx
 .rw[hl]at Qz
  cases a with
  |nil=>exact Qz e he x hx
  |cons z a'=>exact Qz e (bK _ (ax _ he)) x hx
theorem ph{leaf:Bool}(h:iG v p=(leaf,l,0)):l.Pairwise λc e=>fR c.key e.key:=by
 have:=IJ (oZ (v:=v) (p:=p) (by rw[h]));rw[h]at this;exact this
structure WayV(v:Vw)(key:ByteArray)(up:List Step)(x:Step):Prop where
 hole:pA v up 0 x.aq
 ok:mi v 0 x.aq
 leaf:x.leaf=true
 nd:iG v x.aq=(true,x.l,0)
 key:FM up key
 ne:up≠[]->x.l≠[]
 VH:∀e∈x.l,FM up e.key
section
variable{v:Vw}{o:Vw}{mm:Nat}
theorem IM(key:ByteArray):∀(h m:Nat) (q:QS) (p:Int) (out up:List Step) (u:Nat),h<m->Rd q v o u mm->mi v h p->pA v up h p->FM up key->(up≠[]->gF v h p≠[])->(∀x∈gF v h p,FM up x.key)->
  Rd (nU key m q p out).1 v o u mm/\(((nU key m q p out).2.2=11/\mm<=u)\/((nU key m q p out).2.2=0/\∃mid x,(nU key m q p out).2.1=out++(mid++[x])/\mid.length=h/\WayV v key (mid.reverse++up) x))
 |h,0,q,p,out,up,u,hm,hR,hO,hH,hK,hN,hI=>absurd hm (by omega)
 |h,m+1,q,p,out,up,u,hm,hR,hO,hH,hK,hN,hI=>by
  obtain⟨r1,r2⟩:=hR.read p;unfold nU
  rcases r2 with r2|⟨r2,r3⟩
  .cases h with
   |zero=>
    have hO':=hO;obtain⟨o1,o2⟩:=hO;rw[r2,o1,if_neg (by simp),if_pos rfl];refine⟨r1,.inr ⟨rfl,[],⟨p,true,(iG v p).2.1,0⟩,by simp,rfl,hH,hO',rfl,o1,hK,λff=>?_,λe he=>?_⟩⟩
    .have:=hN ff;rw[FK]at this;exact this
    .refine hI e ?_;rw[FK];exact he
   |succ h=>
    obtain⟨o1,o2,o4,o3⟩:=hO;obtain⟨l,hl⟩:∃l,(iG v p).2.1=l:=⟨_,rfl⟩;have nW:gF v (h+1) p=bZ (bw v h l):=by rw[FK,hl];rfl
    rw[hl]at o1 o2 o3 o4;have hp:=ph o1;obtain⟨a,c,b,e1,e2,e3,e4⟩:=IL hp o3.ne key;rw[r2,o1,if_neg (by simp),if_neg (by simp),if_neg o3.ne];dsimp only;have f:=fr_of o1 o2 o4 o3 e1 hp;rw[e2];have hc:l.getD a.length Nd.E.zero=c:=by rw[e1];simp[gH]
    rw[hc];have pH:∀e∈l,∀x∈gF v h e.aW,FM up x.key:=λe he x hx=>hI x (by rw[nW];exact dG.2 ⟨e,he,hx⟩);have tC:c∈l:=by rw[e1];simp
    have hs1:∀x∈gF v h c.aW,a≠[]->nY c.key x.key:=λx hx ff=>by
     have Qz:=o3.hi;rw[e1]at Qz
     cases a with
     |nil=>exact absurd rfl ff
     |cons z a'=>exact Qz c (by simp) x hx
    have hs2:∀x∈gF v h c.aW,∀e∈b,fR x.key e.key:=λx hx e he=>by
     have Js:=o3.lo;rw[e1,dR,ef]at Js;exact Js.2.1.1 e he x hx
    obtain⟨i1,i2⟩:=IM key h m (q.bJ p).1 c.aW (out++[⟨p,false,l,a.length⟩]) (⟨p,false,l,a.length⟩::up) u (by omega) r1 (o3.c c tC).1
     ⟨⟨a,c,b,f,λe he x hx=>pH e (by rw[e1];rcases aC.1 he with he|he<;>simp[he]) x hx⟩,hH⟩ ((mK f up key).2 ⟨e3,e4,hK⟩) (λ_=>(o3.c c tC).2)
     (λx hx=>(mK f up x.key).2 ⟨hs1 x hx,hs2 x hx,pH c tC x hx⟩)
    .refine⟨i1,i2.imp id ?_⟩;rintro⟨j1,mid,x,j2,j3,j4⟩;refine⟨j1,⟨p,false,l,a.length⟩::mid,x,by rw[j2];simp,by simp[j3],?_⟩;rw[List.reverse_cons,cr];exact j4
  .rw[r2,if_pos (by simp)];exact⟨r1,.inl ⟨rfl,r3⟩⟩
theorem FN{q:QS}{u H:Nat}(hR:Rd q v o u mm)(hO:mi v H 0)(hH:H<=15)(key:ByteArray):
  Rd (q.eM key).1 v o u mm/\(((q.eM key).2.2=11/\mm<=u)\/((q.eM key).2.2=0/\∃up x,(q.eM key).2.1=up.reverse++[x]/\up.length=H/\WayV v key up x)):=by
 obtain⟨a,b⟩:=IM key H 16 q 0 [] [] u (by omega) hR hO rfl trivial (λh=>absurd rfl h) (λ_ _=>trivial);refine⟨a,b.imp id ?_⟩;rintro⟨b1,mid,x,b2,b3,b4⟩;rw[iJ]at b4;exact⟨b1,mid.reverse,x,by rw[List.reverse_reverse];exact b2,by simp[b3],b4⟩
end
theorem VI :∀{up:List Step} {h:Nat} {p:Int},pA v up h p->FM up key->∀x∈bZ (ft v up h),fR x.key key
 |[],_,_,_,_,x,hx=>absurd hx (by simp[dq])
 |y::up,h,p,hH,hK,x,hx=>by
  obtain⟨⟨a,c,b,f,hs⟩,hU⟩:=hH;obtain⟨k1,k2,k3⟩:=(mK f up key).1 hK;simp only[dh]at hx;rw[(k6 f).1,dV,kN]at hx
  rcases aC.1 hx with hx|hx
  .exact VI hU k3 x hx
  .obtain⟨e,he,hx⟩:=dG.1 hx;exact gr (f.la e he x hx) (k1 (λh0=>by rw[h0]at he;simp at he))
theorem Oh :∀{up:List Step} {h:Nat} {p:Int},pA v up h p->FM up key->∀x∈bZ (dn v up h),fR key x.key
 |[],_,_,_,_,x,hx=>absurd hx (by simp[cL])
 |y::up,h,p,hH,hK,x,hx=>by
  obtain⟨⟨a,c,b,f,hs⟩,hU⟩:=hH;obtain⟨k1,k2,k3⟩:=(mK f up key).1 hK;simp only[cK]at hx;rw[(k6 f).2.1,dV]at hx
  rcases aC.1 hx with hx|hx
  .obtain⟨e,he,hx⟩:=dG.1 hx;exact gr (k2 e he) (f.hb e he x hx)
  .exact Oh hU k3 x hx
theorem AN{up:List Step}{x:Step}(k:WayV v key up x):mi v up.length 0/\aM v up.length 0=ft v up 0++(0,x.aq,x.l)::dn v up 0/\
  (∀e∈bZ (ft v up 0),fR e.key key)/\(∀e∈bZ (dn v up 0),fR key e.key)/\gF v up.length 0=bZ (ft v up 0)++(x.l++bZ (dn v up 0)):=by
 have hl:gF v 0 x.aq=x.l:=by rw[FK,k.nd];rfl
 obtain⟨a,b⟩:=plug up 0 x.aq k.hole k.ok (by rw[hl];exact k.ne) (by rw[hl];exact k.VH);rw[bg]at a b;have e:aM v 0 x.aq=[(0,x.aq,x.l)]:=by unfold aM;rw[k.nd]
 rw[e]at b;refine⟨a,b,VI k.hole k.key,Oh k.hole k.key,?_⟩;unfold gF;rw[b,dV,qO,Mx]
variable{l la lb:List E}{v:Vw}{h:Nat}
theorem IP(l:List E):∀j,∃t nu,Nd.rk l j t nu
 |0=>⟨1,-1,.inl ⟨rfl,rfl,rfl⟩⟩
 |j+1=>by
  obtain⟨t,nu,h⟩:=IP l j
  by_cases h1:nu<0\/Nd.ky l (j+1)<nu
  .exact⟨_,_,Nd.Dh h rfl h1⟩
  .exact⟨_,_,Nd.Di h rfl (λh2=>h1 (.inl h2)) (λh2=>h1 (.inr h2))⟩
theorem best_ex(l:List E)(m:Nat)(h:2<=m):∃t,Nd.wh l m t:=by
 obtain⟨t,nu,h1⟩:=IP l (m-1)
 rcases h1 with⟨h1,_⟩|⟨h1,h2,_⟩
 .omega
 .rw[show m-1+1=m by omega]at h2;exact⟨t,h2⟩
theorem eI(a b:List E):ao (a++b)=ao a+ao b:=by simp[ao]
theorem eG(e:E)(b:List E):ao (e::b)=e.key.size+e.val.size+7+ao b:=by simp[ao]
theorem QX(hc:∀e∈l,Nd.cost e<=79)(hT:223<ao l)(hT2:ao l<=302):
  ∃la lb,l=la++lb/\l.take (bU l)=la/\l.drop (bU l)=lb/\la≠[]/\lb≠[]/\ao la<=223/\ao lb<=223/\(ao la-151)+(ao lb-151)+73<=ao l-151:=by
 have hn:2<=l.length:=by
  match l,hc,hT with
  |[],_,hT=>exact absurd hT (by simp[ao])
  |[e],hc,hT=>
   have:=hc e (by simp);unfold Nd.cost at this;rw[eG]at hT;have:ao []=0:=rfl;omega
  |_::_::_,_,_=>simp
 obtain⟨t,hB⟩:=best_ex l l.length hn;have ht:=Nd.NZ hB;obtain⟨f1,f2⟩:=Nd.QF hc hn hT2 hB;obtain⟨i,h1,h2,h3⟩:=Nd.Dj l hc hn;have h4:=hB.2.2.1 i h1 h2;have h5:=Nd.xF l t;have hb:=hB.2.1;have ha:=hB.1;refine⟨l.take t,l.drop t,(kT _ _).symm,by rw[ht],by rw[ht],λh=>?_,λh=>?_,f1,f2,?_⟩
 .have:=congrArg List.length h;rw[bm]at this;have:min t l.length=0:=this;omega
 .have:=congrArg List.length h;rw[cO]at this;have:l.length-t=0:=this;omega
 .have h6:Nd.ky l t<=79:=Int.le_trans h4 h3;simp only[Nd.ky]at h6;omega
theorem VJ{C:Int->Prop}{en:Int->List E}(d:sZ C en (la++lb))(ha:la≠[])(hb:lb≠[]):sZ C en la/\sZ C en lb/\
  (∀e∈la,∀x∈en e.aW,fR x.key (keyOf lb))/\∀e∈lb,∀x∈en e.aW,nY (keyOf lb) x.key:=by
 obtain⟨ne,c,lo,hi⟩:=d
 cases la with
 |nil=>exact absurd rfl ha
 |cons a la=>
  cases lb with
  |nil=>exact absurd rfl hb
  |cons b lb=>
   have hk:keyOf (b::lb)=b.key:=rfl;rw[hk];rw[dR]at lo;rw[lI,j8]at hi;have ue:=hi b (by simp);refine⟨⟨ha,λe he=>c e (cd _ he),lo.1,λe he=>hi e (cd _ he)⟩,⟨hb,λe he=>c e (bK _ he),lo.2.1,λe he=>hi e (bK _ (ax _ he))⟩,λe he=>lo.2.2 e he b (by simp),λe he x hx=>?_⟩
   rcases an.1 he with rfl|he
   .exact ue x hx
   .obtain⟨y,hy⟩:=vf _ (c b (by simp)).2;have h1:=(ef.1 lo.2.1).1 e he y hy;exact nZ (sX (jk (ue y hy) h1)) (hi e (by simp[he]) x hx)
theorem wJ(v:Vw)(h:Nat)(a b:List E):gx v h (a++b)=gx v h a++gx v h b:=by
 cases h with
 |zero=>rfl
 |succ h=>show bZ _=bZ _++bZ _;rw[gS,dV]
theorem mo(v:Vw)(h:Nat)(a b:List E):cI v h (a++b)=cI v h a++cI v h b:=by
 cases h with
 |zero=>rfl
 |succ h=>exact gS _ _ _ _
theorem mq(k:fU v h l)(hn:l≠[]):gx v h l≠[]:=by
 cases h with
 |zero=>exact hn
 |succ h=>
  cases l with
  |nil=>exact absurd rfl hn
  |cons e l=>
   intro h0;have h0:bZ (bw v h (e::l))=[]:=h0;rw[fM,dV,JA]at h0;exact(k.2.c e (by simp)).2 h0.1
theorem ta(k:fU v h (la++lb))(ha:la≠[])(hb:lb≠[]):fU v h la/\fU v h lb/\(∀x∈gx v h la,fR x.key (keyOf lb))/\(∀x∈gx v h lb,nY (keyOf lb) x.key)/\(keyOf lb).size<=32:=by
 have hr:=k.1;have xK:(keyOf lb).size<=32:=by
  cases lb with
  |nil=>exact absurd rfl hb
  |cons b lb=>exact(hr b (by simp)).1
 cases h with
 |zero=>
  have hp:(la++lb).Pairwise λc e=>fR c.key e.key:=k.2;rw[dR]at hp;refine⟨⟨λe he=>hr e (cd _ he),hp.1⟩,⟨λe he=>hr e (bK _ he),hp.2.1⟩,λx hx=>?_,λx hx=>?_,xK⟩
  .cases lb with
   |nil=>exact absurd rfl hb
   |cons b lb=>exact hp.2.2 x hx b (by simp)
  .cases lb with
   |nil=>exact absurd rfl hb
   |cons b lb=>
    rcases an.1 hx with rfl|hx
    .exact Og _
    .exact sX ((ef.1 hp.2.1).1 x hx)
 |succ h=>
  obtain⟨p1,p2,p3,p4⟩:=VJ k.2 ha hb;refine⟨⟨λe he=>hr e (cd _ he),p1⟩,⟨λe he=>hr e (bK _ he),p2⟩,λx hx=>?_,λx hx=>?_,xK⟩
  .obtain⟨e,he,hx⟩:=dG.1 hx;exact p3 e he x hx
  .obtain⟨e,he,hx⟩:=dG.1 hx;exact p4 e he x hx
theorem Mz(k:fU v h l):fU v h (blank (decide (h=0)) l):=by
 cases h with
 |zero=>exact(kO l).symm▸k
 |succ h=>
  refine⟨λe he=>?_,VD.2 k.2⟩;have he:e∈blank false l:=he
  cases l with
  |nil=>exact absurd he (by simp[blank])
  |cons c l=>
   have hb:blank false (c::l)={c with key:=⟨#[]⟩}::l:=rfl;rw[hb]at he
   rcases an.1 he with rfl|he
   .obtain⟨a,b,cc⟩:=k.1 c (by simp);exact⟨aY _,b,cc⟩
   .exact k.1 e (by simp[he])
theorem IQ(v:Vw)(h:Nat)(l:List E):cI v h (blank (decide (h=0)) l)=cI v h l:=by
 cases h with
 |zero=>rfl
 |succ h=>exact AL _ _ _ _
theorem IU(v:Vw)(h:Nat)(l:List E):gx v h (blank (decide (h=0)) l)=gx v h l:=by
 cases h with
 |zero=>exact kO l
 |succ h=>show bZ _=bZ _;exact congrArg bZ (AL _ _ _ _)
theorem MA(leaf:Bool)(l:List E):blank leaf (blank leaf l)=blank leaf l:=by cases leaf<;>cases l<;>rfl
theorem uO{p:Int}(k:fU v h l)(hb:ao (blank (decide (h=0)) l)<=223)(hd:iG v p=(decide (h=0),blank (decide (h=0)) l,0)):
  mi v h p/\aM v h p=(h,p,blank (decide (h=0)) l)::cI v h l/\gF v h p=gx v h l:=by
 refine⟨list_ok hd hb (MA _ _) (Mz k),?_,?_⟩
 .rw[pf,hd,IQ]
 .rw[FK,hd,IU]
theorem uP(k:fU v h l)(hb:ao (blank (decide (h=0)) l)<=223):(bH (decide (h=0)) l).2=0:=by
 rcases nX (decide (h=0)) l with h1|h1|h1
 .exact h1.2.2.1
 .omega
 .exact absurd (IK k) h1.1
theorem MB(k:fU v h l)(hb:223<ao (blank (decide (h=0)) l)):bH (decide (h=0)) l=([],11):=by
 rcases nX (decide (h=0)) l with h1|h1|h1
 .omega
 .exact h1.2.2
 .exact absurd (IK k) h1.1
theorem FP :∀(h:Nat) (p:Int),mi v h p->∀j∈bC (aM v h p),(v j).2=0
 |0,p,ho,j,hj=>by
  have:j=p:=by simpa [aM]using hj
  subst this;exact mI (by rw[ho.1])
 |h+1,p,ho,j,hj=>by
  unfold aM at hj;rw[dg]at hj
  rcases an.1 hj with rfl|hj
  .exact mI (by rw[ho.1])
  .simp only[bC,dC,mU]at hj;obtain⟨n,⟨c,hc,hn⟩,rfl⟩:=hj;exact FP h c.aW (ho.2.2.2.c c hc).1 _ (dC.2 ⟨n,hn,rfl⟩)
theorem wK(hc:∀e∈l,mi v h e.aW):∀j∈bC (bw v h l),(v j).2=0:=λj hj=>by
 unfold bw at hj;simp only[bC,dC,mU]at hj;obtain⟨n,⟨c,hc',hn⟩,rfl⟩:=hj;exact FP h c.aW (hc c hc') _ (dC.2 ⟨n,hn,rfl⟩)
theorem Dx(k:fU v h l):∀j∈bC (cI v h l),(v j).2=0:=by
 cases h with
 |zero=>intro j hj;exact absurd hj (by simp[cI])
 |succ h=>exact wK λe he=>(k.2.c e he).1
theorem Dy :∀(up:List Step) (h:Nat) (p:Int),pA v up h p->(∀j∈bC (ft v up h),(v j).2=0)/\∀j∈bC (dn v up h),(v j).2=0
 |[],h,p,_=>⟨λj hj=>absurd hj (by simp[dq]),λj hj=>absurd hj (by simp[cL])⟩
 |y::up,h,p,hH=>by
  obtain⟨⟨a,c,b,f,hs⟩,hU⟩:=hH;obtain⟨i1,i2⟩:=Dy up (h+1) y.aq hU;obtain⟨t1,t2,t3⟩:=k6 f;simp only[dh,cK,dq,cL];rw[t1,t2];refine⟨λj hj=>?_,λj hj=>?_⟩
  .rw[df,dg]at hj
   rcases aC.1 hj with hj|hj
   .exact i1 j hj
   .rcases an.1 hj with rfl|hj
    .exact mI (by rw[f.nd])
    .exact wK (λe he=>(f.ch e (cd _ he)).1) j hj
  .rw[df]at hj
   rcases aC.1 hj with hj|hj
   .exact wK (λe he=>(f.ch e (bK _ he)).1) j hj
   .exact i2 j hj
theorem hX{v':Vw}:∀(up:List Step) (h:Nat) (p:Int),pA v up h p->(∀j∈bC (ft v up h),v' j=v j)->(∀j∈bC (dn v up h),v' j=v j)->pA v' up h p/\ft v' up h=ft v up h/\dn v' up h=dn v up h
 |[],h,p,hH,_,_=>⟨hH,rfl,rfl⟩
 |y::up,h,p,hH,h1,h2=>by
  obtain⟨⟨a,c,b,f,hs⟩,hU⟩:=hH;obtain⟨t1,t2,t3⟩:=k6 f;simp only[dh]at h1;simp only[cK]at h2;rw[t1,df,dg]at h1;rw[t2,df]at h2;obtain⟨i1,i2,i3⟩:=hX up (h+1) y.aq hU (λj hj=>h1 j (cd _ hj)) (λj hj=>h2 j (bK _ hj));obtain⟨ka,kb⟩:=hJ (v:=v) (v':=v') (h:=h) (l:=a) (λj hj=>h1 j (bK _ (ax _ hj)))
  obtain⟨la,lb⟩:=hJ (v:=v) (v':=v') (h:=h) (l:=b) (λj hj=>h2 j (cd _ hj));have hk:∀e∈a++b,aM v' h e.aW=aM v h e.aW/\(mi v h e.aW->mi v' h e.aW):=λe he=>(aC.1 he).elim (kb e) (lb e);have he:∀e∈a++b,gF v' h e.aW=gF v h e.aW:=λe hm=>by unfold gF;rw[(hk e hm).1]
  have hna:∀e∈a,gF v' h e.aW=gF v h e.aW:=λe hm=>he e (cd _ hm);have Oc:∀e∈b,gF v' h e.aW=gF v h e.aW:=λe hm=>he e (bK _ hm);have hny:iG v' y.aq=iG v y.aq:=wG (h1 _ (bK _ (fY ..)))
  refine⟨⟨⟨a,c,b,⟨f.leaf,by rw[hny];exact f.nd,f.by_,f.bk,f.l,f.at_,f.aW,λe hm=>⟨(hk e hm).2 (f.ch e hm).1,by rw[he e hm];exact(f.ch e hm).2⟩,?_,λe hm x hx=>f.la e hm x (by rw[<-hna e hm];exact hx),λe hm x hx=>f.ha e hm x (by rw[<-hna e (tM hm)];exact hx),λe hm x hx=>f.hb e hm x (by rw[<-Oc e hm];exact hx),f.hc⟩,λe hm x hx=>hs e hm x (by rw[<-he e hm];exact hx)⟩,i1⟩,?_,?_⟩
  .refine List.Pairwise.imp_of_mem ?_ f.lo;intro x y hx hy hxy z hz;rw[he x hx]at hz;exact hxy z hz
  .simp only[dh,dq];rw[t1,i2,ka]
  .simp only[cK,cL];rw[t2,i3,la]
def eC(wt:Nat->Nat)(ns:List NT):Nat:=(ns.map λn=>wt n.1*(ao n.2.2-151)).sum
@[simp] theorem VK(wt:Nat->Nat):eC wt []=0:=rfl
@[simp] theorem jE(wt:Nat->Nat)(a b:List NT):eC wt (a++b)=eC wt a+eC wt b:=by simp[eC]
@[simp] theorem eJ(wt:Nat->Nat)(n:NT)(a:List NT):eC wt (n::a)=wt n.1*(ao n.2.2-151)+eC wt a:=by simp[eC]
def MD(wt:Nat->Nat)(c:Nat):Prop:= ∀i,39*wt (i+1)+c<=73*wt i
theorem ME(a:List E)(c n:E)(b:List E):(a++c::b).insertIdx (a.length+1) n=a++c::n::b:=by
 induction a with
 |nil=>rfl
 |cons x a ih=>rw[lI,fI,JP,ih];rfl
theorem wL(a:List E)(c:E)(b:List E):(a++c::b).eraseIdx a.length=a++b:=by
 induction a with
 |nil=>rfl
 |cons x a ih=>rw[lI,fI,List.eraseIdx_cons_succ,ih];rfl
end Sh
end Go.Proofs.YtmonobkginiajaaGreat
