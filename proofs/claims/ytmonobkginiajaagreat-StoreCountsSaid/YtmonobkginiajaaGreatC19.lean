/- packed. -/
import Derived.Test.YtmonobkginiajaaGreatC18
import Derived.Deep.LoopGhost
set_option linter.all false
set_option maxRecDepth 100000
set_option maxHeartbeats 8000000
namespace Go.Proofs.YtmonobkginiajaaGreat.Sh
open Go.RowKit Pk Dk Pg
open Nd (E ax aV aF aJ cu bn aM bF bg)
attribute [local go_sem ↓] Go.wp_at_zero Go.wp_at_succ
variable{s:Step}{w:World}{I:Ix}{F:List Nat}{n:Nat}
theorem vu{l:List E}{leaf:Bool}(h:cu l leaf):∀e∈l,e.key.size<=32/\e.val.size<=40:=λe he=>by
 obtain⟨i,hi,rfl⟩:=List.mem_iff_getElem.1 he;have:=(h i hi l[i] (aN hi)).1;exact⟨this.1,this.2.1⟩
theorem pW.light(h:pW s):yT s.l:=⟨by have:=h.2.1;omega,vu h.1⟩
theorem pW.fit(h:pW s)(hl:s.leaf=false):Fit s:=⟨h.light,by have:=h.2.1;omega,h.2.2 hl⟩
theorem PB.pt{w':World}{q:QS}{K b:Nat}(hb:w.heap.size<=b)(h:PB b w w' I F q n K):PT w w' I F q n K:=by
 obtain⟨F',S,P,o,f,g⟩:=h;exact⟨F',P,o.mono (λx hx hl=>(f x hx).elim id (λh=>by omega)),λx hx=>(g x hx).imp id (λh=>by omega)⟩
theorem tG(q:QS)(key value:ByteArray):(q.fM key value).2.1.key=key/\(q.fM key value).2.1.val.size<=40:=by
 unfold QS.fM
 split
 .exact⟨rfl,by assumption⟩
 .exact⟨rfl,bm _⟩
def vv(l:List E)(key:ByteArray):List E:=if bF l key=true then l.eraseIdx (aM l key)else l
def QS.oC(q:QS)(l:List E)(key:ByteArray):QS×Int:=if bF l key=true then q.mK (l.getD (aM l key) Nd.E.zero)else(q,0)
def QS.IZ(q:QS)(key value:ByteArray)(x:Step)(i:Nat)(up:List Step):QS×Int:=
 if(q.fM key value).2.2≠0 then((q.fM key value).1,(q.fM key value).2.2)
 else eg (up.length+1) ({x with l:=x.l.insertIdx i (q.fM key value).2.1}::up) (q.fM key value).1
def QS.fP(q:QS)(key value:ByteArray):QS×Int:=
 if 32<key.size\/1024<value.size then(q,4)
 else if(q.eP key).2.2≠0 then((q.eP key).1,(q.eP key).2.2)
 else if((q.eP key).1.oC (jH (q.eP key).2.1).l key).2≠0 then(q.eP key).1.oC (jH (q.eP key).2.1).l key
 else((q.eP key).1.oC (jH (q.eP key).2.1).l key).1.IZ key value {jH (q.eP key).2.1 with l:=vv (jH (q.eP key).2.1).l key} (aM (jH (q.eP key).2.1).l key) (q.eP key).2.1.dropLast.reverse
theorem I0{tb:Nat}{q:QS}{Kz:Nat}(h:TQ w tb I F q n Kz)(hKz:Kz<=999999999000)(key value:ByteArray)(hks:key.size<=100000)(hvs:value.size<=100000):
  Calls Tryz.prog 25 #[tp tb,.string key,.string value] w λe w'=>e=.returned (.int .i64 (q.fP key value).2)/\PT w w' I F (q.fP key value).1 n (Kz+100):=by
 have KW:=xh (yQ h (by omega) key);have HT:=xh h;have HK:=xh hKz;have ef:=IQ (q:=q) (key:=key);unfold QS.fP;generalize q.eP key=R at *;obtain⟨q1,steps,er⟩:=R;dsimp only at *;unfold tp at *
 by_cases hk32:key.size<=32
 .by_cases hv:value.size<=1024
  .rw[if_neg (by omega)];have s5:¬(32<(key.size:Int)):=by omega
   have s6:¬(1024<(value.size:Int)):=by omega
   by_cases he:er=0
   .subst he;obtain⟨pre,x,rfl,xk,hnl,qK,hlen⟩:=ef rfl;rw[if_neg (by simp),show jH (pre++[x])=x from by unfold jH;simp,show(pre++[x]).dropLast=pre from by simp];have hxo:=qK x (by simp);obtain⟨hm,hl57,_⟩:=hxo;have HLX:=xh (vu hm);have hm:=xh hm;have tm:=xh (show ∀s∈pre,Fit s from λs hs=>(qK s (by simp[hs])).fit (hnl s hs));have ng:=xh hlen;clear ef hnl qK xk h
    obtain⟨RR,cd⟩:∃RR,(if(q1.oC x.l key).2≠0 then q1.oC x.l key else(q1.oC x.l key).1.IZ key value {x with l:=vv x.l key} (aM x.l key) pre.reverse)=RR:=⟨_,rfl⟩;rw[cd];have ic:=xh cd;clear cd;go_enter Tryz.func25,Tryz.ntmps25;go_wp2_with fail;refine KW.o.mono ?_;rintro e w1 ⟨v,L,rfl,SA,qM,P1,o1⟩;have hlast:=SA.last qM;obtain⟨Lp,A,c,g,cc,rfl,oA,rfl,hbg,FD,xx,gS,hfz,S1,f1⟩:=hlast
    have H1:=xh (show TQ w1 tb I F q1 n (Kz+16)/\aH w1 w.heap.size (.slice (some ⟨g,0,none⟩) (pre.length+1) cc) (Lp++[⟨x,A,c⟩])/\OB w.heap.size w w1 F F/\w.heap.size<=w1.heap.size from⟨HT.o.next o1 P1,SA,(OB.refl w.heap.size w F).step (ak _) o1 (λ_ hg=> .inl hg),o1.size⟩);have ug:=xh (show Lp.length=pre.length from by rw[<-oA,j0]);have HMP:=xh oA;have S1:=xh S1;have x1:w1.cell? ⟨g,pre.length*4+1,none⟩=some (.bool x.leaf):=gS 1 (by omega)
    have x2:w1.cell? ⟨g,pre.length*4+1+1,none⟩=some (.slice A x.l.length c):=gS 2 (by omega);have s1:IntKind.i64.wrap (((pre.length+1:Nat):Int)-1)=(pre.length:Int):=by rw[show((pre.length+1:Nat):Int)-1=(pre.length:Int) by omega];exact IntWalk.i64_in _ (by omega)
    have s2:(pre.length:Int)<((pre.length+1:Nat):Int):=by omega
    have KF:=xh (Nd.vi x.leaf A x.l.length c x.l key (Nd.aQ.ax S1.o).2 (by omega) hm.o);unfold aV at KF;clear SA qM P1 o1 oA gS hfz f1;go_wp2_with fail;refine KF.o.mono ?_;rintro e w3 ⟨rfl,dR⟩;have O3:=xh dR
    have H3:=xh (show TQ w3 tb I F q1 n (Kz+16)/\aH w3 w.heap.size (.slice (some ⟨g,0,none⟩) (pre.length+1) cc) (Lp++[⟨x,A,c⟩])/\OB w.heap.size w w3 F F/\w.heap.size<=w3.heap.size from⟨H1.o.1.below O3.o,H1.o.2.1.below O3.o,H1.o.2.2.1.below O3.o,au H1.o.2.2.2 O3.o.size⟩);have S3:=xh (S1.o.below dR);have u2:w3.cell? ⟨g,pre.length*4+1+1,none⟩=some (.slice A x.l.length c):=(O3.o.cell (p:=⟨g,pre.length*4+1+1,none⟩) (db x2)).trans x2
    clear x1 x2 dR H1 S1 O3
    by_cases hh:bF x.l key=true
    .skip
     obtain⟨ex,hex⟩:=yS hh;have hfx:x.l.getD (aM x.l key) Nd.E.zero=ex:=by rw[ig,hex];rfl
     have cd:=ic.o;unfold QS.oC vv at cd;rw[if_pos hh,if_pos hh,hfx]at cd;generalize bF x.l key=hb at *;subst hh;have nu:aM x.l key<x.l.length:=(aR.1 hex).1;generalize aM x.l key=at_ at *;obtain⟨ad,IP,nf⟩:=(Nd.aQ.ax S3.o).2.2 at_ ex hex;obtain⟨ga,ca,resta,hva,_⟩:=S3.o.form (by omega) (by omega);injection hva with e1 ezz e3
     clear ezz;subst e1 e3;injection IP with IP
     subst IP;rw[Nd.gU,bt]at nf;have u3:=nf.c0;have u4:=nf.c1;have u5:=nf.c2;dsimp only at u4 u5;have KA:=xh (EP H3.o.1 (by omega) ex);unfold E.agg tp at KA;have hflI:(at_:Int)<(x.l.length:Int):=by omega
     generalize q1.mK ex=R2 at *;obtain⟨q2,e2⟩:=R2;dsimp only at *;have ic:=xh cd;clear nf hex hfx cd;go_wp2_with fail;refine KA.o.mono ?_;rintro e w4 ⟨rfl,P4,o4⟩
     have H4:=xh (show TQ w4 tb I F q2 n (Kz+21)/\aH w4 w.heap.size (.slice (some ⟨g,0,none⟩) (pre.length+1) cc) (Lp++[⟨x,some ⟨ga,0,none⟩,c⟩])/\OB w.heap.size w w4 F F/\w.heap.size<=w4.heap.size from⟨H3.o.1.next o4 P4,H3.o.2.1.vr H3.o.1.2 o4,H3.o.2.2.1.step (ak _) o4 (λ_ hg=> .inl hg),au H3.o.2.2.2 o4.size⟩);clear P4 o4 u2 u3 u4 u5 S3
     by_cases C5:e2=0
     .subst C5;have cd:=ic.o;rw[if_neg (show ¬((0:Int)≠0) by simp)]at cd;have ic:=xh cd;have SX:=H4.o.2.1.e ⟨x,some ⟨ga,0,none⟩,c⟩ (by simp);have KD:=xh (Nd.yL SX.1 at_ nu (show x.l.length<=100000 by omega));have u2:=H4.o.2.1.cell (k:=Lp.length) (Z:=⟨x,some ⟨ga,0,none⟩,c⟩) (by rw[dF (ak _),eB];rfl) 2 (by omega);rw[ug.o]at u2
      replace u2:w4.cell? ⟨g,pre.length*4+1+1,none⟩=some (.slice (some ⟨ga,0,none⟩) x.l.length c):=u2
      have CZ:=xh (show(x.l.eraseIdx at_).length=x.l.length-1 from by rw[List.length_eraseIdx_of_lt nu]);have s7:IntKind.i64.wrap ((at_:Int)+1)=(at_:Int)+1:=IntWalk.i64_in _ (by omega);clear SX cd;go_wp2_with fail;refine KD.o.mono ?_;rintro e w5 ⟨rfl,S5,o5⟩;obtain⟨SP,sx,sz⟩:=H4.o.2.1.put (Lp:=Lp) (Ls:=[]) (x.l.eraseIdx at_) (A':=some ⟨ga,0,none⟩) (c':=c) (by rw[CZ.o];exact S5) o5 (λz hz=> .inl hz) H4.o.2.2.2;rw[ug.o]at SP sx sz;rw[CZ.o]at SP
      replace sx:w5.cell? ⟨g,pre.length*4+1+1,none⟩=some (.slice (some ⟨ga,0,none⟩) x.l.length c):=sx
      replace sz:w5.frozen? ⟨g,pre.length*4+1+1,none⟩=false:=sz
      have O5:ag (g::ah (.slice (some ⟨ga,0,none⟩) x.l.length c)) w4 (w5.setCell ⟨g,pre.length*4+1+1,none⟩ (.slice (some ⟨ga,0,none⟩) (x.l.length-1) c)):=(o5.mono (λx hx _=>bY _ hx)).setCell (by simp) _;have ke:=H4.o.2.1.off H4.o.1.2;have tD:=H4.o.2.1.tree H4.o.1.1
      have H5:=xh (show TQ (w5.setCell ⟨g,pre.length*4+1+1,none⟩ (.slice (some ⟨ga,0,none⟩) (x.l.length-1) c)) tb I F q2 n (Kz+21)/\aH (w5.setCell ⟨g,pre.length*4+1+1,none⟩ (.slice (some ⟨ga,0,none⟩) (x.l.length-1) c)) w.heap.size (.slice (some ⟨g,0,none⟩) (pre.length+1) cc) (Lp++[⟨{x with l:=x.l.eraseIdx at_},some ⟨ga,0,none⟩,c⟩])/\OB w.heap.size w (w5.setCell ⟨g,pre.length*4+1+1,none⟩ (.slice (some ⟨ga,0,none⟩) (x.l.length-1) c)) F F/\w.heap.size<=(w5.setCell ⟨g,pre.length*4+1+1,none⟩ (.slice (some ⟨ga,0,none⟩) (x.l.length-1) c)).heap.size from
       ⟨H4.o.1.only O5 (λz hz hm=>by
        rcases aC.1 hz with h1|h1<;>rcases aC.1 hm with h2|h2
        .exact tD.1 (by rw[<-h1,h2];simp[ah])
        .exact tD.2 ⟨x,some ⟨ga,0,none⟩,c⟩ (by simp) (by rw[<-h1];exact h2)
        .exact ke.1 z (by rw[h2];simp[ah]) h1
        .exact ke.2 ⟨x,some ⟨ga,0,none⟩,c⟩ (by simp) z h2 h1),SP,H4.o.2.2.1.own O5 (λz hz=>by
        rcases aC.1 hz with h2|h2
        .rw[h2];exact H4.o.2.1.f g (by simp[ah])
        .exact(H4.o.2.1.e ⟨x,some ⟨ga,0,none⟩,c⟩ (by simp)).2 z h2),au H4.o.2.2.2 O5.size⟩)
      clear SP S5 o5 O5 ke tD;have HLY:=xh (show ∀e∈x.l.eraseIdx at_,e.key.size<=32/\e.val.size<=40 from λe he=>HLX.o e (List.mem_of_mem_eraseIdx he));obtain⟨w6,hw6⟩:∃w6,(w5.setCell ⟨g,pre.length*4+1+1,none⟩ (.slice (some ⟨ga,0,none⟩) (x.l.length-1) c))=w6:=⟨_,rfl⟩;rw[hw6]at H5
      go_upto_region 13 with fail
      clear hw6 sx sz u2;have cd:=ic.o;have hya:at_<=(x.l.eraseIdx at_).length:=by rw[CZ.o];omega
      have hyn:(x.l.eraseIdx at_).length<=57:=by rw[CZ.o];omega
      generalize hY:({x with l:=x.l.eraseIdx at_}:Step)=y at *;have hyl:y.l=x.l.eraseIdx at_:=by rw[<-hY]
      rw[<-hyl]at HLY hya hyn;generalize hAY:some (⟨ga,0,none⟩:Addr)=AY at H5;obtain⟨cY,rfl⟩:∃cY,cY=c:=⟨_,rfl⟩;have ic:=xh cd;clear hyl hY hAY cd;have KT:=xh (vq H5.o.1 (by omega) key value hv);have oE:=tG q2 key value;have cd:=ic.o;unfold QS.IZ at cd;generalize q2.fM key value=R3 at *;obtain⟨q3,en,e3⟩:=R3;dsimp only at *;obtain⟨rfl,Ce⟩:=oE;have HEN:=xh (And.intro hk32 Ce);have ic:=xh cd;unfold E.agg tp at KT;clear cd Ce
      go_wp2_with fail;refine KT.o.mono ?_;rintro e w4 ⟨rfl,P4⟩;obtain⟨F4,T4,o4,f4⟩:=P4.tq H5.o.1;have H4:=xh (show TQ w4 tb I F4 q3 n (Kz+26)/\aH w4 w.heap.size (.slice (some ⟨g,0,none⟩) (pre.length+1) cc) (Lp++[⟨y,AY,cY⟩])/\OB w.heap.size w w4 F F4/\w.heap.size<=w4.heap.size from⟨T4,H5.o.2.1.vr H5.o.1.2 o4,H5.o.2.2.1.step (ak _) o4 f4,au H5.o.2.2.2 o4.size⟩);clear P4 o4 f4 T4
      by_cases Da:e3=0
      .subst Da;have cd:=ic.o;rw[if_neg (show ¬((0:Int)≠0) by simp)]at cd;rw[List.length_reverse]at cd;have ic:=xh cd;clear cd;obtain⟨w8,zI⟩:∃w8,(w4.alloc (.cells #[.string en.key,.string en.val,.int .i64 en.aY] 111)).drew=w8:=⟨_,rfl⟩;have tI:Below w4.heap.size w4 w8:=by rw[<-zI];exact(ae (Below.refl _ _) _).drew
       have I1:aD w8 w4.heap.size 111 #[.string en.key,.string en.val,.int .i64 en.aY]:=by rw[<-zI];exact(aD.new _ _ _).drew
       have H8:=xh (show TQ w8 tb I F4 q3 n (Kz+26)/\aH w8 w.heap.size (.slice (some ⟨g,0,none⟩) (pre.length+1) cc) (Lp++⟨y,AY,cY⟩::[])/\OB w.heap.size w w8 F F4/\w.heap.size<=w8.heap.size/\aD w8 w4.heap.size 111 #[.string en.key,.string en.val,.int .i64 en.aY]from
        ⟨H4.o.1.below tI,H4.o.2.1.below tI,H4.o.2.2.1.below tI,au H4.o.2.2.2 tI.size,I1⟩)
       have KS8:=xh (show(λW=>W.cell? ⟨w4.heap.size,0,none⟩=some (.string en.key)/\W.cell? ⟨w4.heap.size,1,none⟩=some (.string en.val)/\W.cell? ⟨w4.heap.size,2,none⟩=some (.int .i64 en.aY)) w8 from And.intro (I1.ab (i:=0) rfl) (And.intro (I1.ab (i:=1) rfl) (I1.ab (i:=2) rfl)));have x8:w8.cell? ⟨g,pre.length*4+2,none⟩=some (.slice AY y.l.length cY):=by
        have h1:=H8.o.2.1.cell (k:=Lp.length) (Z:=⟨y,AY,cY⟩) (by rw[dF (ak _),eB];rfl) 2 (by omega);rw[ug.o]at h1;exact h1
       obtain⟨w9,IW⟩:∃w9,w8.alloc (.cells #[.string en.key,.string en.val,.int .i64 en.aY] 111)=w9:=⟨_,rfl⟩;have fR:Below w8.heap.size w8 w9:=by rw[<-IW];exact ae (Below.refl _ _) _
       have BN9:aD w9 w8.heap.size 111 #[.string en.key,.string en.val,.int .i64 en.aY]:=by rw[<-IW];exact aD.new _ _ _
       have BZ9:w9.frozen? ⟨w8.heap.size,3,none⟩=false:=by rw[<-IW];exact World.frozen?_alloc_at (w:=w8) _ _ w8.heap.size 3 rfl
       have I2:=H8.o.2.2.2.2.below fR H8.o.2.2.2.2.lt;have FG:=xh (show(λW=>W.cell? ⟨w4.heap.size,0,none⟩=some (.string en.key)/\W.cell? ⟨w4.heap.size,1,none⟩=some (.string en.val)/\W.cell? ⟨w4.heap.size,2,none⟩=some (.int .i64 en.aY)) w9 from And.intro (I2.ab (i:=0) rfl) (And.intro (I2.ab (i:=1) rfl) (I2.ab (i:=2) rfl)));have x9:w9.cell? ⟨g,pre.length*4+2,none⟩=some (.slice AY y.l.length cY):=(fR.cell (p:=⟨g,pre.length*4+2,none⟩) (db x8)).trans x8
       have H9:=xh (show TQ w9 tb I F4 q3 n (Kz+26)/\aH w9 w.heap.size (.slice (some ⟨g,0,none⟩) (pre.length+1) cc) (Lp++⟨y,AY,cY⟩::[])/\OB w.heap.size w w9 F F4/\w.heap.size<=w9.heap.size/\aD w9 w4.heap.size 111 #[.string en.key,.string en.val,.int .i64 en.aY]from
        ⟨H8.o.1.below fR,H8.o.2.1.below fR,H8.o.2.2.1.below fR,au H8.o.2.2.2.1 fR.size,I2⟩)
       have qz:=xh (show(y.l.insertIdx at_ en).length=y.l.length+1 from by rw[rC,if_pos (by omega)]);have SY:=H9.o.2.1.e ⟨y,AY,cY⟩ (by simp);have KI:=xh (Nd.lP (w:=w9) SY.1 en (g2:=w8.heap.size) (cc:=1) BN9 (show y.l.length<=100000 by omega) (λhm=>by have:=(H8.o.2.1.e ⟨y,AY,cY⟩ (by simp)).1.lt _ hm;omega) at_ (show at_<=y.l.length by omega) BZ9)
       have AK:=xh (show ∀W,ag (ah (.slice AY y.l.length cY)) w9 W->(λW=>W.cell? ⟨w4.heap.size,0,none⟩=some (.string en.key)/\W.cell? ⟨w4.heap.size,1,none⟩=some (.string en.val)/\W.cell? ⟨w4.heap.size,2,none⟩=some (.int .i64 en.aY)) W from λW o=>by
        have hB:=H9.o.2.2.2.2.only o (λhm=>by have:=(H4.o.2.1.e ⟨y,AY,cY⟩ (by simp)).1.lt _ hm;omega);exact⟨hB.ab (i:=0) rfl,hB.ab (i:=1) rfl,hB.ab (i:=2) rfl⟩)
       clear SY BN9 BZ9 fR I1 I2 tI;go_wp2_with fail;refine wp_region_held_drew (S:=λW=>W.cell? ⟨w4.heap.size,0,none⟩=some (.string en.key)/\W.cell? ⟨w4.heap.size,1,none⟩=some (.string en.val)/\W.cell? ⟨w4.heap.size,2,none⟩=some (.int .i64 en.aY)) (by kernel_rfl) (by rw[zI];exact KS8.o) (λaw=>?_);rw[zI];clear zI;refine dq [(0,86),(1,87),(2,88),(3,89),(4,90),(6,92),(7,93)] ?_
       iterate 7 refine za ?_
       refine wpAnyH_ready (rs:=[5,8]) (by kernel_rfl) (by simp) ?_;refine AllReadyH.cons (o:=⟨some 91,_,_,_,_,_⟩) rfl (λK hK=>?_) (AllReadyH.cons (o:=⟨some 94,_,_,_,_,_⟩) rfl (λK hK=>?_) AllReadyH.nil)
       .skip
        go_simp;refine zh hK (KS8.o) (λaw=>?_);refine zd 8 94 λK hK=>?_;go_simp;refine zh hK (FG.o) (λaw=>?_);refine zd 9 95 λK hK=>?_;go_simp
        go_at_call 74
        refine KI.o.mono ?_;rintro e jf ⟨A',c',rfl,oo,j9,f10⟩;have oo:=xh oo;have j9:=xh j9;have f10:=xh f10;have tA:=xh (AK.o jf j9.o);go_simp;refine zh hK (tA.o) (λaw=>?_);refine dq [(10,96),(11,97),(12,98)] ?_
        iterate 3 refine za ?_
        refine zf 13 λK hK=>?_;go_simp;obtain⟨SP,sx,sz⟩:=H9.o.2.1.put (y.l.insertIdx at_ en) (A':=A') (c':=c') (by rw[qz.o];exact oo.o) j9.o (by rw[qz.o];exact f10.o) H9.o.2.2.2.1;rw[ug.o]at SP sx sz;rw[qz.o]at SP;have SP:=xh SP
        replace sx:jf.cell? ⟨g,pre.length*4+2,none⟩=some (.slice AY y.l.length cY):=sx
        have oq:=xh (show ag (g::ah (.slice AY y.l.length cY)) w9 (jf.setCell ⟨g,pre.length*4+2,none⟩ (.slice A' (y.l.length+1) c'))from(j9.o.mono (λx hx _=>bY _ hx)).setCell (by simp) _);have ET:=(H9.o.2.1.e ⟨y,AY,cY⟩ (by simp)).1
        have oE:=((H9.o.2.2.2.2.only j9.o (λhm=>by have:=(H4.o.2.1.e ⟨y,AY,cY⟩ (by simp)).1.lt _ hm;omega)).aY (p:=⟨g,pre.length*4+2,none⟩) (λe=>cy H9.o.2.1.s H9.o.2.2.2.2 (by decide) (by simp[ah];exact e)) (.slice A' (y.l.length+1) c'));have tC:=xh (And.intro (oE.ab (i:=0) rfl) (And.intro (oE.ab (i:=1) rfl) (oE.ab (i:=2) rfl)));clear ET oE;go_simp;refine zh hK (tC.o) (λaw=>?_);refine wpAnyH_done (by kernel_rfl) ?_ _
        go_wp2_with fail;have hT:TQ (jf.setCell ⟨g,pre.length*4+1+1,none⟩ (.slice A' (y.l.length+1) c')) tb I F4 q3 n (Kz+26):=by
         have ke:=H9.o.2.1.off H9.o.1.2;have tD:=H9.o.2.1.tree H9.o.1.1;exact H9.o.1.only oq.o (λz hz hm=>by
          rcases aC.1 hz with h1|h1<;>rcases aC.1 hm with h2|h2
          .exact tD.1 (by rw[<-h1,h2];simp[ah])
          .exact tD.2 ⟨y,AY,cY⟩ (by simp) (by rw[<-h1];exact h2)
          .exact ke.1 z (by rw[h2];simp[ah]) h1
          .exact ke.2 ⟨y,AY,cY⟩ (by simp) z h2 h1)
        have hO:OB w.heap.size w (jf.setCell ⟨g,pre.length*4+1+1,none⟩ (.slice A' (y.l.length+1) c')) F F4:=H9.o.2.2.1.own oq.o (λz hz=>by
         rcases aC.1 hz with h2|h2
         .rw[h2];exact H9.o.2.1.f g (by simp[ah])
         .exact(H9.o.2.1.e ⟨y,AY,cY⟩ (by simp)).2 z h2)
        have yW:w.heap.size<=(jf.setCell ⟨g,pre.length*4+1+1,none⟩ (.slice A' (y.l.length+1) c')).heap.size:=au H9.o.2.2.2.1 oq.o.size;have SQ:aH (jf.setCell ⟨g,pre.length*4+1+1,none⟩ (.slice A' (y.l.length+1) c')) w.heap.size (.slice (some ⟨g,0,none⟩) (pre.length+1) cc) (Lp++[(⟨{y with l:=y.l.insertIdx at_ en},A',c'⟩:SM)]):=by
         exact SP.o
        have tE:=ic.o;subst tE;have KR:=gw (pre.length+1) pre {y with l:=y.l.insertIdx at_ en} (ak _) hT (by have:=HK.o;have:=ng.o;omega) SQ yW (by rw[eh,HMP.o];rfl) tm.o
         ⟨by show(y.l.insertIdx at_ _).length<=90;rw[qz.o];omega,λe he=>by
          rcases(oV (by omega)).1 he with rfl|he
          .exact HEN.o
          .exact HLY.o e he⟩ (by have:=ng.o;omega)
        refine KR.mono ?_;rintro e w12 ⟨rfl,tF⟩;have tF:=xh tF;have HO:=xh hO;clear hT hO yW SQ KR;go_wp2_with fail;go_ret;exact⟨by first|rfl|simp,((HO.o.trans tF.o).pt (ak _)).le (by have:=ng.o;omega)⟩
       .skip
        go_simp;refine zh hK (FG.o) (λaw=>?_);refine zd 5 91 λK hK=>?_;go_simp;refine zh hK (FG.o) (λaw=>?_);refine zd 9 95 λK hK=>?_;go_simp
        go_at_call 74
        refine KI.o.mono ?_;rintro e jf ⟨A',c',rfl,oo,j9,f10⟩;have oo:=xh oo;have j9:=xh j9;have f10:=xh f10;have tA:=xh (AK.o jf j9.o);go_simp;refine zh hK (tA.o) (λaw=>?_);refine dq [(10,96),(11,97),(12,98)] ?_
        iterate 3 refine za ?_
        refine zf 13 λK hK=>?_;go_simp;obtain⟨SP,sx,sz⟩:=H9.o.2.1.put (y.l.insertIdx at_ en) (A':=A') (c':=c') (by rw[qz.o];exact oo.o) j9.o (by rw[qz.o];exact f10.o) H9.o.2.2.2.1;rw[ug.o]at SP sx sz;rw[qz.o]at SP;have SP:=xh SP
        replace sx:jf.cell? ⟨g,pre.length*4+2,none⟩=some (.slice AY y.l.length cY):=sx
        have oq:=xh (show ag (g::ah (.slice AY y.l.length cY)) w9 (jf.setCell ⟨g,pre.length*4+2,none⟩ (.slice A' (y.l.length+1) c'))from(j9.o.mono (λx hx _=>bY _ hx)).setCell (by simp) _);have ET:=(H9.o.2.1.e ⟨y,AY,cY⟩ (by simp)).1
        have oE:=((H9.o.2.2.2.2.only j9.o (λhm=>by have:=(H4.o.2.1.e ⟨y,AY,cY⟩ (by simp)).1.lt _ hm;omega)).aY (p:=⟨g,pre.length*4+2,none⟩) (λe=>cy H9.o.2.1.s H9.o.2.2.2.2 (by decide) (by simp[ah];exact e)) (.slice A' (y.l.length+1) c'));have tC:=xh (And.intro (oE.ab (i:=0) rfl) (And.intro (oE.ab (i:=1) rfl) (oE.ab (i:=2) rfl)));clear ET oE;go_simp;refine zh hK (tC.o) (λaw=>?_);refine wpAnyH_done (by kernel_rfl) ?_ _
        go_wp2_with fail;have hT:TQ (jf.setCell ⟨g,pre.length*4+1+1,none⟩ (.slice A' (y.l.length+1) c')) tb I F4 q3 n (Kz+26):=by
         have ke:=H9.o.2.1.off H9.o.1.2;have tD:=H9.o.2.1.tree H9.o.1.1;exact H9.o.1.only oq.o (λz hz hm=>by
          rcases aC.1 hz with h1|h1<;>rcases aC.1 hm with h2|h2
          .exact tD.1 (by rw[<-h1,h2];simp[ah])
          .exact tD.2 ⟨y,AY,cY⟩ (by simp) (by rw[<-h1];exact h2)
          .exact ke.1 z (by rw[h2];simp[ah]) h1
          .exact ke.2 ⟨y,AY,cY⟩ (by simp) z h2 h1)
        have hO:OB w.heap.size w (jf.setCell ⟨g,pre.length*4+1+1,none⟩ (.slice A' (y.l.length+1) c')) F F4:=H9.o.2.2.1.own oq.o (λz hz=>by
         rcases aC.1 hz with h2|h2
         .rw[h2];exact H9.o.2.1.f g (by simp[ah])
         .exact(H9.o.2.1.e ⟨y,AY,cY⟩ (by simp)).2 z h2)
        have yW:w.heap.size<=(jf.setCell ⟨g,pre.length*4+1+1,none⟩ (.slice A' (y.l.length+1) c')).heap.size:=au H9.o.2.2.2.1 oq.o.size;have SQ:aH (jf.setCell ⟨g,pre.length*4+1+1,none⟩ (.slice A' (y.l.length+1) c')) w.heap.size (.slice (some ⟨g,0,none⟩) (pre.length+1) cc) (Lp++[(⟨{y with l:=y.l.insertIdx at_ en},A',c'⟩:SM)]):=by
         exact SP.o
        have tE:=ic.o;subst tE;have KR:=gw (pre.length+1) pre {y with l:=y.l.insertIdx at_ en} (ak _) hT (by have:=HK.o;have:=ng.o;omega) SQ yW (by rw[eh,HMP.o];rfl) tm.o
         ⟨by show(y.l.insertIdx at_ _).length<=90;rw[qz.o];omega,λe he=>by
          rcases(oV (by omega)).1 he with rfl|he
          .exact HEN.o
          .exact HLY.o e he⟩ (by have:=ng.o;omega)
        refine KR.mono ?_;rintro e w12 ⟨rfl,tF⟩;have tF:=xh tF;have HO:=xh hO;clear hT hO yW SQ KR;go_wp2_with fail;go_ret;exact⟨by first|rfl|simp,((HO.o.trans tF.o).pt (ak _)).le (by have:=ng.o;omega)⟩
      .have cd:=ic.o;rw[if_pos Da]at cd;subst cd;have hq:(e3 != 0)=true:=by rw[bne_iff_ne];exact Da
       have lp:(e3==0)=false:=by rw[beq_eq_false_iff_ne];exact Da
       go_wp2_with fail;go_ret;exact⟨by first|rfl|simp,(((H4.o.2.2.1.below (ae (Below.refl _ _) _)).pb (H4.o.1.2.below (ae (Below.refl _ _) _))).pt (ak _)).le (by omega)⟩
     .have cd:=ic.o;rw[if_pos C5]at cd;subst cd;have hq:(e2 != 0)=true:=by rw[bne_iff_ne];exact C5
      have lp:(e2==0)=false:=by rw[beq_eq_false_iff_ne];exact C5
      go_wp2_with fail;go_ret;exact⟨by first|rfl|simp,((H4.o.2.2.1.pb H4.o.1.2).pt (ak _)).le (by omega)⟩
    .have hh2:bF x.l key=false:=by simpa using hh
     have cd:=ic.o;unfold QS.oC vv at cd;rw[if_neg hh,if_neg hh,if_neg (show ¬((0:Int)≠0) by simp)]at cd;generalize bF x.l key=hb at *;subst hh2;have hya:aM x.l key<=x.l.length:=kz;generalize aM x.l key=at_ at *;obtain⟨q2,rfl⟩:∃q2,q2=q1:=⟨_,rfl⟩;obtain⟨y,rfl⟩:∃y:Step,y=x:=⟨_,rfl⟩;obtain⟨AY,rfl⟩:∃AY,AY=A:=⟨_,rfl⟩;obtain⟨cY,rfl⟩:∃cY,cY=c:=⟨_,rfl⟩;have hyn:y.l.length<=57:=hl57;have HLY:=HLX;have ic:=xh cd
     have H5:=xh (show TQ w3 tb I F q2 n (Kz+21)/\aH w3 w.heap.size (.slice (some ⟨g,0,none⟩) (pre.length+1) cc) (Lp++[⟨y,AY,cY⟩])/\OB w.heap.size w w3 F F/\w.heap.size<=w3.heap.size from⟨H3.o.1.le (by omega),H3.o.2⟩);clear hh cd u2 H3 S3
     go_upto_region 13 with fail
     have KT:=xh (vq H5.o.1 (by omega) key value hv);have oE:=tG q2 key value;have cd:=ic.o;unfold QS.IZ at cd;generalize q2.fM key value=R3 at *;obtain⟨q3,en,e3⟩:=R3;dsimp only at *;obtain⟨rfl,Ce⟩:=oE;have HEN:=xh (And.intro hk32 Ce);have ic:=xh cd;unfold E.agg tp at KT;clear cd Ce;go_wp2_with fail;refine KT.o.mono ?_;rintro e w4 ⟨rfl,P4⟩;obtain⟨F4,T4,o4,f4⟩:=P4.tq H5.o.1
     have H4:=xh (show TQ w4 tb I F4 q3 n (Kz+26)/\aH w4 w.heap.size (.slice (some ⟨g,0,none⟩) (pre.length+1) cc) (Lp++[⟨y,AY,cY⟩])/\OB w.heap.size w w4 F F4/\w.heap.size<=w4.heap.size from⟨T4,H5.o.2.1.vr H5.o.1.2 o4,H5.o.2.2.1.step (ak _) o4 f4,au H5.o.2.2.2 o4.size⟩);clear P4 o4 f4 T4
     by_cases Da:e3=0
     .subst Da;have cd:=ic.o;rw[if_neg (show ¬((0:Int)≠0) by simp)]at cd;rw[List.length_reverse]at cd;have ic:=xh cd;clear cd;obtain⟨w8,zI⟩:∃w8,(w4.alloc (.cells #[.string en.key,.string en.val,.int .i64 en.aY] 111)).drew=w8:=⟨_,rfl⟩;have tI:Below w4.heap.size w4 w8:=by rw[<-zI];exact(ae (Below.refl _ _) _).drew
      have I1:aD w8 w4.heap.size 111 #[.string en.key,.string en.val,.int .i64 en.aY]:=by rw[<-zI];exact(aD.new _ _ _).drew
      have H8:=xh (show TQ w8 tb I F4 q3 n (Kz+26)/\aH w8 w.heap.size (.slice (some ⟨g,0,none⟩) (pre.length+1) cc) (Lp++⟨y,AY,cY⟩::[])/\OB w.heap.size w w8 F F4/\w.heap.size<=w8.heap.size/\aD w8 w4.heap.size 111 #[.string en.key,.string en.val,.int .i64 en.aY]from
       ⟨H4.o.1.below tI,H4.o.2.1.below tI,H4.o.2.2.1.below tI,au H4.o.2.2.2 tI.size,I1⟩)
      have KS8:=xh (show(λW=>W.cell? ⟨w4.heap.size,0,none⟩=some (.string en.key)/\W.cell? ⟨w4.heap.size,1,none⟩=some (.string en.val)/\W.cell? ⟨w4.heap.size,2,none⟩=some (.int .i64 en.aY)) w8 from And.intro (I1.ab (i:=0) rfl) (And.intro (I1.ab (i:=1) rfl) (I1.ab (i:=2) rfl)));have x8:w8.cell? ⟨g,pre.length*4+2,none⟩=some (.slice AY y.l.length cY):=by
       have h1:=H8.o.2.1.cell (k:=Lp.length) (Z:=⟨y,AY,cY⟩) (by rw[dF (ak _),eB];rfl) 2 (by omega);rw[ug.o]at h1;exact h1
      obtain⟨w9,IW⟩:∃w9,w8.alloc (.cells #[.string en.key,.string en.val,.int .i64 en.aY] 111)=w9:=⟨_,rfl⟩;have fR:Below w8.heap.size w8 w9:=by rw[<-IW];exact ae (Below.refl _ _) _
      have BN9:aD w9 w8.heap.size 111 #[.string en.key,.string en.val,.int .i64 en.aY]:=by rw[<-IW];exact aD.new _ _ _
      have BZ9:w9.frozen? ⟨w8.heap.size,3,none⟩=false:=by rw[<-IW];exact World.frozen?_alloc_at (w:=w8) _ _ w8.heap.size 3 rfl
      have I2:=H8.o.2.2.2.2.below fR H8.o.2.2.2.2.lt;have FG:=xh (show(λW=>W.cell? ⟨w4.heap.size,0,none⟩=some (.string en.key)/\W.cell? ⟨w4.heap.size,1,none⟩=some (.string en.val)/\W.cell? ⟨w4.heap.size,2,none⟩=some (.int .i64 en.aY)) w9 from And.intro (I2.ab (i:=0) rfl) (And.intro (I2.ab (i:=1) rfl) (I2.ab (i:=2) rfl)));have x9:w9.cell? ⟨g,pre.length*4+2,none⟩=some (.slice AY y.l.length cY):=(fR.cell (p:=⟨g,pre.length*4+2,none⟩) (db x8)).trans x8
      have H9:=xh (show TQ w9 tb I F4 q3 n (Kz+26)/\aH w9 w.heap.size (.slice (some ⟨g,0,none⟩) (pre.length+1) cc) (Lp++⟨y,AY,cY⟩::[])/\OB w.heap.size w w9 F F4/\w.heap.size<=w9.heap.size/\aD w9 w4.heap.size 111 #[.string en.key,.string en.val,.int .i64 en.aY]from
       ⟨H8.o.1.below fR,H8.o.2.1.below fR,H8.o.2.2.1.below fR,au H8.o.2.2.2.1 fR.size,I2⟩)
      have qz:=xh (show(y.l.insertIdx at_ en).length=y.l.length+1 from by rw[rC,if_pos (by omega)]);have SY:=H9.o.2.1.e ⟨y,AY,cY⟩ (by simp);have KI:=xh (Nd.lP (w:=w9) SY.1 en (g2:=w8.heap.size) (cc:=1) BN9 (show y.l.length<=100000 by omega) (λhm=>by have:=(H8.o.2.1.e ⟨y,AY,cY⟩ (by simp)).1.lt _ hm;omega) at_ (show at_<=y.l.length by omega) BZ9)
      have AK:=xh (show ∀W,ag (ah (.slice AY y.l.length cY)) w9 W->(λW=>W.cell? ⟨w4.heap.size,0,none⟩=some (.string en.key)/\W.cell? ⟨w4.heap.size,1,none⟩=some (.string en.val)/\W.cell? ⟨w4.heap.size,2,none⟩=some (.int .i64 en.aY)) W from λW o=>by
       have hB:=H9.o.2.2.2.2.only o (λhm=>by have:=(H4.o.2.1.e ⟨y,AY,cY⟩ (by simp)).1.lt _ hm;omega);exact⟨hB.ab (i:=0) rfl,hB.ab (i:=1) rfl,hB.ab (i:=2) rfl⟩)
      clear SY BN9 BZ9 fR I1 I2 tI;go_wp2_with fail;refine wp_region_held_drew (S:=λW=>W.cell? ⟨w4.heap.size,0,none⟩=some (.string en.key)/\W.cell? ⟨w4.heap.size,1,none⟩=some (.string en.val)/\W.cell? ⟨w4.heap.size,2,none⟩=some (.int .i64 en.aY)) (by kernel_rfl) (by rw[zI];exact KS8.o) (λaw=>?_);rw[zI];clear zI;refine dq [(0,86),(1,87),(2,88),(3,89),(4,90),(6,92),(7,93)] ?_
      iterate 7 refine za ?_
      refine wpAnyH_ready (rs:=[5,8]) (by kernel_rfl) (by simp) ?_;refine AllReadyH.cons (o:=⟨some 91,_,_,_,_,_⟩) rfl (λK hK=>?_) (AllReadyH.cons (o:=⟨some 94,_,_,_,_,_⟩) rfl (λK hK=>?_) AllReadyH.nil)
      .skip
       go_simp;refine zh hK (KS8.o) (λaw=>?_);refine zd 8 94 λK hK=>?_;go_simp;refine zh hK (FG.o) (λaw=>?_);refine zd 9 95 λK hK=>?_;go_simp
       go_at_call 74
       refine KI.o.mono ?_;rintro e jf ⟨A',c',rfl,oo,j9,f10⟩;have oo:=xh oo;have j9:=xh j9;have f10:=xh f10;have tA:=xh (AK.o jf j9.o);go_simp;refine zh hK (tA.o) (λaw=>?_);refine dq [(10,96),(11,97),(12,98)] ?_
       iterate 3 refine za ?_
       refine zf 13 λK hK=>?_;go_simp;obtain⟨SP,sx,sz⟩:=H9.o.2.1.put (y.l.insertIdx at_ en) (A':=A') (c':=c') (by rw[qz.o];exact oo.o) j9.o (by rw[qz.o];exact f10.o) H9.o.2.2.2.1;rw[ug.o]at SP sx sz;rw[qz.o]at SP;have SP:=xh SP
       replace sx:jf.cell? ⟨g,pre.length*4+2,none⟩=some (.slice AY y.l.length cY):=sx
       have oq:=xh (show ag (g::ah (.slice AY y.l.length cY)) w9 (jf.setCell ⟨g,pre.length*4+2,none⟩ (.slice A' (y.l.length+1) c'))from(j9.o.mono (λx hx _=>bY _ hx)).setCell (by simp) _);have ET:=(H9.o.2.1.e ⟨y,AY,cY⟩ (by simp)).1
       have oE:=((H9.o.2.2.2.2.only j9.o (λhm=>by have:=(H4.o.2.1.e ⟨y,AY,cY⟩ (by simp)).1.lt _ hm;omega)).aY (p:=⟨g,pre.length*4+2,none⟩) (λe=>cy H9.o.2.1.s H9.o.2.2.2.2 (by decide) (by simp[ah];exact e)) (.slice A' (y.l.length+1) c'));have tC:=xh (And.intro (oE.ab (i:=0) rfl) (And.intro (oE.ab (i:=1) rfl) (oE.ab (i:=2) rfl)));clear ET oE;go_simp;refine zh hK (tC.o) (λaw=>?_);refine wpAnyH_done (by kernel_rfl) ?_ _
       go_wp2_with fail;have hT:TQ (jf.setCell ⟨g,pre.length*4+1+1,none⟩ (.slice A' (y.l.length+1) c')) tb I F4 q3 n (Kz+26):=by
        have ke:=H9.o.2.1.off H9.o.1.2;have tD:=H9.o.2.1.tree H9.o.1.1;exact H9.o.1.only oq.o (λz hz hm=>by
         rcases aC.1 hz with h1|h1<;>rcases aC.1 hm with h2|h2
         .exact tD.1 (by rw[<-h1,h2];simp[ah])
         .exact tD.2 ⟨y,AY,cY⟩ (by simp) (by rw[<-h1];exact h2)
         .exact ke.1 z (by rw[h2];simp[ah]) h1
         .exact ke.2 ⟨y,AY,cY⟩ (by simp) z h2 h1)
       have hO:OB w.heap.size w (jf.setCell ⟨g,pre.length*4+1+1,none⟩ (.slice A' (y.l.length+1) c')) F F4:=H9.o.2.2.1.own oq.o (λz hz=>by
        rcases aC.1 hz with h2|h2
        .rw[h2];exact H9.o.2.1.f g (by simp[ah])
        .exact(H9.o.2.1.e ⟨y,AY,cY⟩ (by simp)).2 z h2)
       have yW:w.heap.size<=(jf.setCell ⟨g,pre.length*4+1+1,none⟩ (.slice A' (y.l.length+1) c')).heap.size:=au H9.o.2.2.2.1 oq.o.size;have SQ:aH (jf.setCell ⟨g,pre.length*4+1+1,none⟩ (.slice A' (y.l.length+1) c')) w.heap.size (.slice (some ⟨g,0,none⟩) (pre.length+1) cc) (Lp++[(⟨{y with l:=y.l.insertIdx at_ en},A',c'⟩:SM)]):=by
        exact SP.o
       have tE:=ic.o;subst tE;have KR:=gw (pre.length+1) pre {y with l:=y.l.insertIdx at_ en} (ak _) hT (by have:=HK.o;have:=ng.o;omega) SQ yW (by rw[eh,HMP.o];rfl) tm.o
        ⟨by show(y.l.insertIdx at_ _).length<=90;rw[qz.o];omega,λe he=>by
         rcases(oV (by omega)).1 he with rfl|he
         .exact HEN.o
         .exact HLY.o e he⟩ (by have:=ng.o;omega)
       refine KR.mono ?_;rintro e w12 ⟨rfl,tF⟩;have tF:=xh tF;have HO:=xh hO;clear hT hO yW SQ KR;go_wp2_with fail;go_ret;exact⟨by first|rfl|simp,((HO.o.trans tF.o).pt (ak _)).le (by have:=ng.o;omega)⟩
      .skip
       go_simp;refine zh hK (FG.o) (λaw=>?_);refine zd 5 91 λK hK=>?_;go_simp;refine zh hK (FG.o) (λaw=>?_);refine zd 9 95 λK hK=>?_;go_simp
       go_at_call 74
       refine KI.o.mono ?_;rintro e jf ⟨A',c',rfl,oo,j9,f10⟩;have oo:=xh oo;have j9:=xh j9;have f10:=xh f10;have tA:=xh (AK.o jf j9.o);go_simp;refine zh hK (tA.o) (λaw=>?_);refine dq [(10,96),(11,97),(12,98)] ?_
       iterate 3 refine za ?_
       refine zf 13 λK hK=>?_;go_simp;obtain⟨SP,sx,sz⟩:=H9.o.2.1.put (y.l.insertIdx at_ en) (A':=A') (c':=c') (by rw[qz.o];exact oo.o) j9.o (by rw[qz.o];exact f10.o) H9.o.2.2.2.1;rw[ug.o]at SP sx sz;rw[qz.o]at SP;have SP:=xh SP
       replace sx:jf.cell? ⟨g,pre.length*4+2,none⟩=some (.slice AY y.l.length cY):=sx
       have oq:=xh (show ag (g::ah (.slice AY y.l.length cY)) w9 (jf.setCell ⟨g,pre.length*4+2,none⟩ (.slice A' (y.l.length+1) c'))from(j9.o.mono (λx hx _=>bY _ hx)).setCell (by simp) _);have ET:=(H9.o.2.1.e ⟨y,AY,cY⟩ (by simp)).1
       have oE:=((H9.o.2.2.2.2.only j9.o (λhm=>by have:=(H4.o.2.1.e ⟨y,AY,cY⟩ (by simp)).1.lt _ hm;omega)).aY (p:=⟨g,pre.length*4+2,none⟩) (λe=>cy H9.o.2.1.s H9.o.2.2.2.2 (by decide) (by simp[ah];exact e)) (.slice A' (y.l.length+1) c'));have tC:=xh (And.intro (oE.ab (i:=0) rfl) (And.intro (oE.ab (i:=1) rfl) (oE.ab (i:=2) rfl)));clear ET oE;go_simp;refine zh hK (tC.o) (λaw=>?_);refine wpAnyH_done (by kernel_rfl) ?_ _
       go_wp2_with fail;have hT:TQ (jf.setCell ⟨g,pre.length*4+1+1,none⟩ (.slice A' (y.l.length+1) c')) tb I F4 q3 n (Kz+26):=by
        have ke:=H9.o.2.1.off H9.o.1.2;have tD:=H9.o.2.1.tree H9.o.1.1;exact H9.o.1.only oq.o (λz hz hm=>by
         rcases aC.1 hz with h1|h1<;>rcases aC.1 hm with h2|h2
         .exact tD.1 (by rw[<-h1,h2];simp[ah])
         .exact tD.2 ⟨y,AY,cY⟩ (by simp) (by rw[<-h1];exact h2)
         .exact ke.1 z (by rw[h2];simp[ah]) h1
         .exact ke.2 ⟨y,AY,cY⟩ (by simp) z h2 h1)
       have hO:OB w.heap.size w (jf.setCell ⟨g,pre.length*4+1+1,none⟩ (.slice A' (y.l.length+1) c')) F F4:=H9.o.2.2.1.own oq.o (λz hz=>by
        rcases aC.1 hz with h2|h2
        .rw[h2];exact H9.o.2.1.f g (by simp[ah])
        .exact(H9.o.2.1.e ⟨y,AY,cY⟩ (by simp)).2 z h2)
       have yW:w.heap.size<=(jf.setCell ⟨g,pre.length*4+1+1,none⟩ (.slice A' (y.l.length+1) c')).heap.size:=au H9.o.2.2.2.1 oq.o.size;have SQ:aH (jf.setCell ⟨g,pre.length*4+1+1,none⟩ (.slice A' (y.l.length+1) c')) w.heap.size (.slice (some ⟨g,0,none⟩) (pre.length+1) cc) (Lp++[(⟨{y with l:=y.l.insertIdx at_ en},A',c'⟩:SM)]):=by
        exact SP.o
       have tE:=ic.o;subst tE;have KR:=gw (pre.length+1) pre {y with l:=y.l.insertIdx at_ en} (ak _) hT (by have:=HK.o;have:=ng.o;omega) SQ yW (by rw[eh,HMP.o];rfl) tm.o
        ⟨by show(y.l.insertIdx at_ _).length<=90;rw[qz.o];omega,λe he=>by
         rcases(oV (by omega)).1 he with rfl|he
         .exact HEN.o
         .exact HLY.o e he⟩ (by have:=ng.o;omega)
       refine KR.mono ?_;rintro e w12 ⟨rfl,tF⟩;have tF:=xh tF;have HO:=xh hO;clear hT hO yW SQ KR;go_wp2_with fail;go_ret;exact⟨by first|rfl|simp,((HO.o.trans tF.o).pt (ak _)).le (by have:=ng.o;omega)⟩
     .have cd:=ic.o;rw[if_pos Da]at cd;subst cd;have hq:(e3 != 0)=true:=by rw[bne_iff_ne];exact Da
      have lp:(e3==0)=false:=by rw[beq_eq_false_iff_ne];exact Da
      go_wp2_with fail;go_ret;exact⟨by first|rfl|simp,(((H4.o.2.2.1.below (ae (Below.refl _ _) _)).pb (H4.o.1.2.below (ae (Below.refl _ _) _))).pt (ak _)).le (by omega)⟩
   .rw[if_pos he];have hq:(er != 0)=true:=by rw[bne_iff_ne];exact he
    have lp:(er==0)=false:=by rw[beq_eq_false_iff_ne];exact he
    clear ef;go_enter Tryz.func25,Tryz.ntmps25;go_wp2_with fail;refine KW.o.mono ?_;rintro e w1 ⟨v,L,rfl,SA,qM,P1,o1⟩;have P1:=xh P1;have o1:=xh o1;clear SA qM;go_wp2_with fail;go_ret;exact⟨by first|rfl|simp,(PT.self P1.o o1.o).le (by omega)⟩
  .rw[if_pos (by omega)];have s6:1024<(value.size:Int):=by omega
   have s5:¬(32<(key.size:Int)):=by omega
   clear ef;go_enter Tryz.func25,Tryz.ntmps25;go_wp2_with fail;go_ret;exact⟨by first|rfl|simp,(PT.self HT.o.2 (ag.refl F w)).le (by omega)⟩
 .rw[if_pos (by omega)];have s5:32<(key.size:Int):=by omega
  clear ef;go_enter Tryz.func25,Tryz.ntmps25;go_wp2_with fail;go_ret;exact⟨by first|rfl|simp,(PT.self HT.o.2 (ag.refl F w)).le (by omega)⟩
theorem Wp.vw_lt{q:QS}{n K:Nat}(h:Wp q n K){j:Int}(h0:(q.vw j).2=0):0<=j/\j<512:=by
 refine⟨vw_pos h0,?_⟩;have hr:(q.a.aA j).2=0:=by
  rcases fD q j with ho|⟨i,f,hi,rfl,hp⟩
  .rw[dH ho]at h0;exact h0
  .exact h.V.ex f (az hi) hp
 have:=mc (rk.1 hr);have:=h.H.nl;omega
def gx:List UInt8:=(aJ true []).1
def QS.tJ(q:QS):QS×Int:=if q.a.gP.length=0 then((q.bh gx).1,(q.bh gx).2.2)else(q,0)
def QS.ll(q:QS):QS×Int:=if q.tJ.2≠0 then q.tJ else((q.tJ.1.bW 0).1,(q.tJ.1.bW 0).2.2.2)
def Opened(w w':World)(I:Ix)(F:List Nat)(q:QS)(e:Int)(n K:Nat)(v:Value):Prop:=
 ∃F',ag F w w'/\(∀g∈F',g∈F\/w.heap.size<=g)/\PQ w' I F' q n K/\(e≠0->v=.pointer none)/\(e=0->∃tb,v=tp tb/\w.heap.size<=tb/\TQ w' tb I F' q n K)
theorem EV{w:World}{I:Ix}{F:List Nat}{q:QS}{n K:Nat}(h:PQ w I F q n K)(hK:K<=999999999000):
  Calls Tryz.prog 24 #[pp I.pb] w λe w'=> ∃v,e=.returned (.tuple #[v,.int .i64 q.ll.2])/\Opened w w' I F q.ll.1 q.ll.2 n (K+2) v:=by
 have lk:=ae (Below.refl w.heap.size w) (.cells #[pp I.pb] 130);obtain⟨wT,hwT⟩:∃wT,w.heap.size=wT:=⟨_,rfl⟩;have HWT:=xh hwT;have BT:=aD.new w 130 #[pp I.pb];rw[hwT]at BT;have H1:=xh (show TQ _ wT I F q n K/\ag F w _ from⟨⟨BT,h.below lk⟩,.aj lk⟩);have K1:=xh (sA H1.o.1.2);have K2:=xh (sC H1.o.1.2);unfold QS.ll QS.tJ;unfold pp sp at *
 by_cases h0:q.a.gP.length=0
 .rw[if_pos h0];rw[h0]at K2;have K3:=xh (λ(W:World)=>Nd.th (w:=W) true none 0 0 [] ⟨rfl,λk e he=>by simp at he⟩ (by omega));have hl:=Nd.qx true [];have hleaf:aJ true []=(gx,0):=by unfold gx;decide
  rw[hleaf]at K3 hl;dsimp only at K3 hl;have KN:=xh (λ(W:World) (hW:PQ W I F q n K)=>sy hW (by omega) ⟨gx.toArray⟩ (by show gx.toArray.size<=232;simp;exact hl));have HLB:=xh (show(⟨gx.toArray⟩:ByteArray).data.toList=gx from by simp);rw[HLB.o]at KN;generalize q.bh gx=R at *;obtain⟨q1,p1,e1⟩:=R;dsimp only at *;unfold aV at K3;unfold pp at KN;obtain⟨RR,cd⟩:∃RR,(if e1≠0 then(q1,e1)else((q1.bW 0).1,(q1.bW 0).2.2.2))=RR:=⟨_,rfl⟩;rw[cd]
  have ic:=xh cd;clear cd;go_enter Tryz.func24,Tryz.ntmps24;go_wp2_with fail;refine K1.o.mono ?_;rintro e w2 ⟨rfl,rfl⟩;go_wp2_with fail;refine K2.o.mono ?_;rintro e w3 ⟨A3,c3,rfl,S3,dR⟩;have H3:=xh (show TQ w3 wT I F q n K/\ag F w w3 from⟨H1.o.1.below dR,H1.o.2.trans (.aj dR)⟩);clear S3 dR;go_wp2_with fail;refine(K3.o w3).mono ?_;rintro e w4 ⟨rfl,fw⟩
  have H4:=xh (show TQ w4 wT I F q n K/\ag F w w4 from⟨H3.o.1.below fw,H3.o.2.trans (.aj fw)⟩);clear fw;go_wp2_with fail;refine(KN.o w4 H4.o.1.2).mono ?_;rintro e w5 ⟨rfl,P5⟩;obtain⟨F1,T5,o5,f5⟩:=P5.tq H4.o.1;have HT:=xh (show TQ w5 wT I F1 q1 n (K+1)/\ag F w w5/\(∀g∈F1,g∈F\/w.heap.size<=g)from⟨T5,H4.o.2.trans o5,λg hg=>(f5 g hg).imp id (λh=>au H4.o.2.size h)⟩);clear P5 T5 o5 f5
  by_cases he1:e1=0
  .subst he1;have cd:=ic.o;rw[if_neg (show ¬((0:Int)≠0) by simp)]at cd;have K9:=xh (pU HT.o.1 (by omega) 0);have hlen:=mw q1 0;generalize q1.bW 0=r at *;obtain⟨q2,lf,l,er⟩:=r;dsimp only at *;subst cd;unfold tp aV at K9;go_wp2_with fail;refine K9.o.mono ?_;rintro e w9 ⟨A9,c9,rfl,S9,f9,P9,o9⟩;have fR:=ae (Below.refl w9.heap.size w9) (.cells #[.bool lf,.slice A9 l.length c9] 118)
   have H9:=xh (show TQ _ wT I F1 q2 n (K+2)/\ag F w _/\(∀g∈F1,g∈F\/w.heap.size<=g)from⟨(HT.o.1.next o9 P9).below fR,(HT.o.2.1.bw o9 (λg hg eT=>(HT.o.2.2 g hg).elim id (λh=>by omega))).trans (.aj fR),HT.o.2.2⟩);clear S9 f9 P9 o9 fR
   by_cases he:er=0
   .subst he;go_wp2_with fail;go_ret2;exact⟨_,by first|rfl|simp,F1,H9.o.2.1,H9.o.2.2,H9.o.1.2,λh=>absurd rfl h,λ_=>⟨wT,by unfold tp;first|rfl|simp[HWT.o],by rw[<-HWT.o];exact ak _,H9.o.1⟩⟩
   .have hq:(er != 0)=true:=by rw[bne_iff_ne];exact he
    have lp:(er==0)=false:=by rw[beq_eq_false_iff_ne];exact he
    go_wp2_with fail;go_ret2;exact⟨_,by first|rfl|simp,F1,H9.o.2.1,H9.o.2.2,H9.o.1.2,λ_=>rfl,λh=>absurd h he⟩
  .have cd:=ic.o;rw[if_pos he1]at cd;subst cd;have hq:(e1 != 0)=true:=by rw[bne_iff_ne];exact he1
   have lp:(e1==0)=false:=by rw[beq_eq_false_iff_ne];exact he1
   go_wp2_with fail;go_ret2;exact⟨_,by first|rfl|simp,F1,HT.o.2.1,HT.o.2.2,HT.o.1.2.le (by omega),λ_=>rfl,λh=>absurd h he1⟩
 .rw[if_neg h0,if_neg (show ¬((0:Int)≠0) by simp)];dsimp only;have h0I:((q.a.gP.length:Nat):Int)≠0:=by omega
  generalize q.a.gP.length=np at *;obtain⟨RR,cd⟩:∃RR,((q.bW 0).1,(q.bW 0).2.2.2)=RR:=⟨_,rfl⟩;rw[show(q.bW 0).1=RR.1 from by rw[<-cd],show(q.bW 0).2.2.2=RR.2 from by rw[<-cd]];have ic:=xh cd;clear cd;go_enter Tryz.func24,Tryz.ntmps24;go_wp2_with fail;refine K1.o.mono ?_;rintro e w2 ⟨rfl,rfl⟩;go_wp2_with fail;refine K2.o.mono ?_;rintro e w3 ⟨A3,c3,rfl,S3,dR⟩
  have HT:=xh (show TQ w3 wT I F q n (K+1)/\ag F w w3/\(∀g∈F,g∈F\/w.heap.size<=g)from⟨(H1.o.1.below dR).le (by omega),H1.o.2.trans (.aj dR),λg hg=> .inl hg⟩);clear S3 dR;have cd:=ic.o;have K9:=xh (pU HT.o.1 (by omega) 0);have hlen:=mw q 0;generalize q.bW 0=r at *;obtain⟨q2,lf,l,er⟩:=r;dsimp only at *;subst cd;unfold tp aV at K9;go_wp2_with fail;refine K9.o.mono ?_;rintro e w9 ⟨A9,c9,rfl,S9,f9,P9,o9⟩
  have fR:=ae (Below.refl w9.heap.size w9) (.cells #[.bool lf,.slice A9 l.length c9] 118);have H9:=xh (show TQ _ wT I F q2 n (K+2)/\ag F w _/\(∀g∈F,g∈F\/w.heap.size<=g)from⟨(HT.o.1.next o9 P9).below fR,(HT.o.2.1.bw o9 (λg hg eT=>(HT.o.2.2 g hg).elim id (λh=>by omega))).trans (.aj fR),HT.o.2.2⟩);clear S9 f9 P9 o9 fR
  by_cases he:er=0
  .subst he;go_wp2_with fail;go_ret2;exact⟨_,by first|rfl|simp,F,H9.o.2.1,H9.o.2.2,H9.o.1.2,λh=>absurd rfl h,λ_=>⟨wT,by unfold tp;first|rfl|simp[HWT.o],by rw[<-HWT.o];exact ak _,H9.o.1⟩⟩
  .have hq:(er != 0)=true:=by rw[bne_iff_ne];exact he
   have lp:(er==0)=false:=by rw[beq_eq_false_iff_ne];exact he
   go_wp2_with fail;go_ret2;exact⟨_,by first|rfl|simp,F,H9.o.2.1,H9.o.2.2,H9.o.1.2,λ_=>rfl,λh=>absurd h he⟩
section
variable{σ:Type}
end
structure Ev where
 sB:Nat
 tB:Nat
 fB:Nat
 oB:Nat
 dB:Nat
 kB:Nat
def Ev.l(v:Ev):List Nat:=[v.sB,v.tB,v.fB,v.oB,v.dB,v.kB]
section
variable{w w':World}{v:Ev}{tb:Nat}{fr til:ByteArray}{fn:Nat}{caps:Array Value}{seen:Nat}{S:List Nat}
end
section
variable{σ:Type}{w wr w':World}{v:Ev}{tb:Nat}{I:Ix}{F G:List Nat}{n K:Nat}{fr til:ByteArray}{fn:Nat}{caps:Array Value}{tX:σ->Nat}{Inv:World->σ->List Nat->Prop}{q:QS}{sn bd:Nat}{s:σ}{Gi:List Nat}{leaf:Bool}{A:Option Addr}{c b12:Nat}{l:List E}{step:E->σ->σ×Bool}
end
end Go.Proofs.YtmonobkginiajaaGreat.Sh
namespace Go.Proofs.YtmonobkginiajaaGreat.Sh
open Go.RowKit Pk Dk Pg
variable{p j:Int}{a:St}
abbrev Vw:=Int->List UInt8×Int
def jh(v:Vw)(p:Int)(b:List UInt8):Vw:=λj=>if j=p then(b,0)else v j
def I3(v:Vw)(p:Int):Vw:=λj=>if j=p then([],3)else v j
theorem vx(v:Vw)(p:Int)(b:List UInt8):jh v p b p=(b,0):=if_pos rfl
theorem ji(v:Vw)(b:List UInt8)(h:j≠p):jh v p b j=v j:=if_neg h
theorem del1_ne(v:Vw)(h:j≠p):I3 v p j=v j:=if_neg h
def QS.tX(q:QS):Nat×List (Option (List UInt8))×Nat:=(q.a.now.length,q.a.bM,q.a.many)
theorem EW(a:St)(l:Int)(p:List UInt8):(a.ar l p).1.now.length=a.now.length/\(a.ar l p).1.bM=a.bM/\(a.ar l p).1.many=a.many:=by
 unfold St.ar
 split
 .exact⟨rfl,rfl,rfl⟩
 .split
  .exact⟨rfl,rfl,rfl⟩
  .split
   .exact⟨rfl,rfl,rfl⟩
   .exact⟨by show(a.now.set _ _).length=_;rw[bH],rfl,rfl⟩
theorem EY{l:Int}{p:List UInt8}(h:(a.ar l p).2=11):a.free=0:=by
 unfold St.ar at h
 split at h
 .exact absurd h (by simp)
 .split at h
  .exact absurd h (by simp)
  .split at h
   .rename_i h1;exact h1.2
   .exact absurd h (by simp)
theorem yX(q:QS)(k:Nat):(q.bG k).1.tX=q.tX:=by
 unfold QS.bG
 split
 .obtain⟨a,b,c⟩:=EW q.a (ia q.l k).an (ia q.l k).eC.data.toList
  split<;>exact ja a (ja b c)
 .rfl
theorem I4{q:QS}{k:Nat}(h:(q.bG k).2=11):q.a.free=0:=by
 unfold QS.bG at h
 split at h
 .split at h
  .exact absurd h (by simp)
  .exact EY h
 .exact absurd h (by simp)
theorem nh(q:QS):q.ay.1.tX=q.tX:=by
 unfold QS.tX;rw[(fS q).1]
theorem oF(q:QS)(p:Int):(q.aK p).1.tX=q.tX:=by
 unfold QS.aK
 split
 .rfl
 .split
  .rfl
  .split
   .exact nh q
   .split
    .rw[yX];exact nh q
    .exact(yX _ _).trans (nh q)
theorem yY{q:QS}(h:(q.aK p).2.2=11):q.a.free=0:=by
 unfold QS.aK at h
 split at h
 .exact absurd h (by simp)
 .split at h
  .rename_i h1;have h:(q.a.aA p).2=11:=h;unfold St.aA at h
   split at h
   .exact absurd h (by simp)
   .exact absurd h (by simp)
  .split at h
   .exact absurd h (by simp)
   .split at h
    .have:=I4 h;rw[(fS q).1]at this;exact this
    .exact absurd h (by simp)
theorem Db(q:QS)(p:Int):(q.fm p).1.tX=q.tX:=by
 unfold QS.fm
 split<;>rfl
theorem I5(q:QS)(p:Int)(b:ByteArray):(q.dX p b).1.tX=q.tX:=by
 unfold QS.dX
 split
 .rfl
 .split<;>rfl
theorem get_mes(q:QS)(p:Int):(q.cC p).1.tX=q.tX:=by
 unfold QS.cC
 split
 .exact oF q p
 .rw[Db];exact oF q p
theorem get_f11{q:QS}(h:(q.cC p).2.2=11):q.a.free=0:=by
 unfold QS.cC at h
 split at h
 .exact yY h
 .exact absurd h (by simp)
theorem Dc(q:QS)(p:Int)(b:ByteArray):(q.ct p b).1.tX=q.tX:=by
 unfold QS.ct
 split
 .rfl
 .split
  .exact oF q p
  .rw[Db,I5];exact oF q p
theorem put_f11{q:QS}{b:ByteArray}(h:(q.ct p b).2=11):q.a.free=0:=by
 unfold QS.ct at h
 split at h
 .exact absurd h (by simp)
 .split at h
  .exact yY h
  .exact absurd h (by simp)
theorem yZ(q:QS)(p:Int):(q.aI p).1.tX=q.tX:=by
 have h:(q.a.aI p).1.now.length=q.a.now.length/\(q.a.aI p).1.bM=q.a.bM/\(q.a.aI p).1.many=q.a.many:=by
  unfold St.aI
  split
  .exact⟨by show(q.a.now.set _ _).length=_;rw[bH],rfl,rfl⟩
  .exact⟨rfl,rfl,rfl⟩
 obtain⟨a,b,c⟩:=h;unfold QS.aI
 split
 .rfl
 .split
  .exact ja a (ja b c)
  .split<;>exact ja a (ja b c)
theorem new_mes(q:QS)(p:List UInt8):(q.bh p).1.a.now.length<=q.a.now.length+1/\(q.bh p).1.a.bM=q.a.bM/\(q.bh p).1.a.many=q.a.many:=by
 show(q.a.bh p).1.now.length<=_/\(q.a.bh p).1.bM=_/\(q.a.bh p).1.many=_;unfold St.bh
 split
 .exact⟨Nat.le_succ _,rfl,rfl⟩
 .split
  .exact⟨Nat.le_succ _,rfl,rfl⟩
  .refine⟨?_,rfl,rfl⟩;show(kR q.a.now _ _).length<=_;unfold kR
   split
   .simp
   .rw[bH];omega
theorem I6(a:St):a.slot<=a.now.length:=by unfold St.slot;exact kz
theorem new_f11{q:QS}{p:List UInt8}(h:(q.bh p).2.2=11):512<=q.a.now.length\/q.a.free=0:=by
 have h:(q.a.bh p).2.2=11:=h;unfold St.bh at h
 split at h
 .exact absurd h (by simp)
 .split at h
  .rename_i h1;exact h1.imp (λh=>au h (I6 q.a)) id
  .exact absurd h (by simp)
theorem I7{u:Nat}(h:a.now.length+a.kept<=u)(hu:u<a.many):a.free≠0:=by
 have:a.fresh<=a.now.length:=List.countP_le_length;unfold St.free;omega
structure Rd(q:QS)(v o:Vw)(u m:Nat):Prop where
 w:∃n K,Wp q n K
 v:∀j,q.vw j=v j
 o:∀j,q.ov j=o j
 u:q.a.now.length+q.a.kept<=u
 m:m<=q.a.many
section
variable{q:QS}{v o:Vw}{u m:Nat}
theorem I8{q q':QS}(h:q'.tX=q.tX):q'.a.now.length+q'.a.kept=q.a.now.length+q.a.kept/\q'.a.many=q.a.many/\q'.a.bM=q.a.bM:=by
 have h1:q'.a.now.length=q.a.now.length:=congrArg Prod.fst h;have h2:q'.a.bM=q.a.bM:=congrArg (λx=>x.2.1) h;have h3:q'.a.many=q.a.many:=congrArg (λx=>x.2.2) h;refine⟨?_,h3,h2⟩;unfold St.kept;rw[h1,h2]
theorem Rd.step(h:Rd q v o u m){q':QS}{v':Int->List UInt8×Int}(hm:q'.tX=q.tX)(hw:∃n K,Wp q' n K)(hv:∀j,q'.vw j=v' j):Rd q' v' o u m:=by
 obtain⟨a,b,c⟩:=I8 hm;exact⟨hw,hv,λj=>(Hv c j).trans (h.o j),by rw[a];exact h.u,by rw[b];exact h.m⟩
theorem Rd.free(h:Rd q v o u m)(h0:q.a.free=0):m<=u:=by
 rcases dZ u m with h1|h1
 .exact absurd h0 (I7 h.u (nI h1 h.m))
 .exact h1
theorem Rd.get(h:Rd q v o u m)(p:Int):Rd (q.cC p).1 v o u m/\
  (((v p).2=0/\(q.cC p).2=(⟨(v p).1.toArray⟩,0))\/(v p=([],3)/\(q.cC p).2=(⟨#[]⟩,3))\/((q.cC p).2=(⟨#[]⟩,11)/\m<=u)):=by
 obtain⟨n,K,w⟩:=h.w;obtain⟨a,b⟩:=w.get p;refine⟨h.step (get_mes q p) ⟨n,_,a.w⟩ (λj=>(a.v j).trans (h.v j)),?_⟩;rw[h.v]at b
 rcases b with b|b|⟨b,c⟩
 .exact .inl b
 .exact .inr (.inl b)
 .exact .inr (.inr ⟨c,h.free (get_f11 (p:=p) (by rw[c]))⟩)
theorem Rd.put(h:Rd q v o u m)(p:Int)(b:ByteArray)(hb:b.size=232)(h0:(v p).2=0):
  ((q.ct p b).2=0/\Rd (q.ct p b).1 (jh v p b.data.toList) o u m)\/((q.ct p b).2=11/\Rd (q.ct p b).1 v o u m/\m<=u):=by
 obtain⟨n,K,w⟩:=h.w;obtain⟨a,c⟩:=w.put p b (by omega)
 rcases c with⟨c1,c2,c3⟩|⟨c1,c2,c3⟩|⟨c1,c2,c3⟩
 .refine .inl ⟨c2,h.step (Dc q p b) ⟨n,_,a.w⟩ (λj=>?_)⟩;rw[c3,nY hb];unfold jh
  split
  .rfl
  .exact h.v j
 .rw[h.v]at c1;rw[c1]at h0;exact absurd h0 (by decide)
 .exact .inr ⟨c2,h.step (Dc q p b) ⟨n,_,a.w⟩ (λj=>(c3 j).trans (h.v j)),h.free (put_f11 c2)⟩
theorem Rd.new(h:Rd q v o u m)(p:ByteArray)(hb:p.size<=232):
  (∃l:Nat,(q.bh p.data.toList).2=(((l:Nat):Int),0)/\l<=511/\v (l:Nat)=([],3)/\Rd (q.bh p.data.toList).1 (jh v (l:Nat) (dh p.data.toList 232)) o (u+1) m)\/
  ((q.bh p.data.toList).2=(0,11)/\Rd (q.bh p.data.toList).1 v o (u+1) m/\(m<=u\/512<=u)):=by
 obtain⟨n,K,w⟩:=h.w;obtain⟨a,c⟩:=w.new p hb;obtain⟨m1,m2,m3⟩:=new_mes q p.data.toList;have hk:(q.bh p.data.toList).1.a.now.length+(q.bh p.data.toList).1.a.kept<=u+1:=by
  have:=h.u;have hk:(q.bh p.data.toList).1.a.kept=q.a.kept:=by unfold St.kept;rw[m2]
  omega
 rcases c with⟨l,c1,c2,c3,c4⟩|⟨c1,c2⟩
 .refine .inl ⟨l,c1,c2,by rw[<-h.v];exact c3,⟨n,_,a.w⟩,λj=>?_,λj=>(Hv m2 j).trans (h.o j),hk,by rw[m3];exact h.m⟩;rw[c4];unfold jh
  split
  .rfl
  .exact h.v j
 .refine .inr ⟨c1,⟨⟨n,_,a.w⟩,λj=>(c2 j).trans (h.v j),λj=>(Hv m2 j).trans (h.o j),hk,by rw[m3];exact h.m⟩,?_⟩
  rcases new_f11 (q:=q) (p:=p.data.toList) (by rw[c1])with h1|h1
  .have:=h.u;right;omega
  .exact .inl (h.free h1)
theorem Rd.drop(h:Rd q v o u m)(p:Int)(h0:(v p).2=0):(q.aI p).2=0/\Rd (q.aI p).1 (I3 v p) o u m:=by
 obtain⟨n,K,w⟩:=h.w;obtain⟨a,c⟩:=w.drop p
 rcases c with⟨c1,c2,c3⟩|⟨c1,c2,c3⟩
 .refine⟨c2,h.step (yZ q p) ⟨n,_,a.w⟩ (λj=>?_)⟩;rw[c3];unfold I3
  split
  .rfl
  .exact h.v j
 .rw[h.v]at c1;rw[c1]at h0;exact absurd h0 (by simp)
theorem Rd.lt(h:Rd q v o u m)(h0:(v j).2=0):0<=j/\j<512:=by
 obtain⟨n,K,w⟩:=h.w;exact w.vw_lt (by rw[h.v];exact h0)
theorem Rd.err(h:Rd q v o u m)(j:Int):(v j).2=0\/v j=([],3):=by
 rw[<-h.v];exact wX q j
theorem Rd.le(h:Rd q v o u m){u':Nat}(hu:u<=u'):Rd q v o u' m:=⟨h.w,h.v,h.o,au h.u hu,h.m⟩
end
end Go.Proofs.YtmonobkginiajaaGreat.Sh
namespace Go.Proofs.YtmonobkginiajaaGreat.Sh
open Go.RowKit Pk Dk Pg
open Nd (E aF aJ cu bn aM bF bg ai)
variable{leaf:Bool}{l:List E}{v:Vw}{p:Int}
def gX(v:Vw)(p:Int):Bool×List E×Int:=
 if(v p).2≠0 then(false,[],qL (v p).2)else((aF (v p).1).1,(aF (v p).1).2.1,qL (aF (v p).1).2.2)
theorem ku(leaf:Bool)(l:List E):(cu (blank leaf l) leaf/\ai (blank leaf l)<=223/\(bA leaf l).2=0/\(bA leaf l).1.length=232/\aF (bA leaf l).1=(leaf,blank leaf l,0))\/
  (cu (blank leaf l) leaf/\223<ai (blank leaf l)/\bA leaf l=([],11))\/(¬cu (blank leaf l) leaf/\bA leaf l=([],2)):=by
 unfold bA
 by_cases hm:cu (blank leaf l) leaf
 .have hb:=Nd.te leaf (blank leaf l)
  by_cases hr:ai (blank leaf l)<=223
  .left;have h0:(aJ leaf (blank leaf l)).2=0:=by
    unfold aJ;rw[if_pos ((Nd.iR _ _).2 hm),if_pos (by rw[hb];omega)]
   refine⟨hm,hr,h0,?_,Nd.yJ h0⟩;unfold aJ;rw[if_pos ((Nd.iR _ _).2 hm),if_pos (by rw[hb];omega)];exact(Nd.pR _ (by rw[hb];omega)).1.len
  .right;left;refine⟨hm,by omega,?_⟩;unfold aJ;rw[if_pos ((Nd.iR _ _).2 hm),if_neg (by rw[hb];omega)]
 .right;right;refine⟨hm,?_⟩;unfold aJ;rw[if_neg (λh=>hm ((Nd.iR _ _).1 h))]
theorem tK(h:(bA leaf l).2=0):cu (blank leaf l) leaf/\ai (blank leaf l)<=223/\(bA leaf l).1.length=232/\aF (bA leaf l).1=(leaf,blank leaf l,0):=by
 rcases ku leaf l with⟨a,b,c,d,e⟩|⟨a,b,c⟩|⟨a,c⟩
 .exact⟨a,b,d,e⟩
 .rw[c]at h;exact absurd h (by decide)
 .rw[c]at h;exact absurd h (by decide)
theorem gV(h:(bA leaf l).2=0)(p j:Int):gX (jh v p (bA leaf l).1) j=if j=p then(leaf,blank leaf l,0)else gX v j:=by
 unfold gX jh
 by_cases e:j=p
 .rw[if_pos e,if_pos e,(tK h).2.2.2];rfl
 .rw[if_neg e,if_neg e]
theorem pX{v':Vw}(h:v' p=v p):gX v' p=gX v p:=by
 unfold gX;rw[h]
theorem lQ(h:(gX v p).2.2=0):(v p).2=0:=by
 unfold gX at h
 split at h
 .rename_i h1;exact absurd (mx.1 h) h1
 .rename_i h1;omega
theorem oG(h:(gX v p).2.2=0):cu (gX v p).2.1 (gX v p).1:=by
 have h0:=lQ h;unfold gX at h ⊢;rw[if_neg (by omega)]at h ⊢;have h1:=mx.1 h;exact Nd.qy h1
section
variable{q:QS}{v o:Vw}{u m:Nat}
theorem Rd.read(h:Rd q v o u m)(p:Int):Rd (q.bW p).1 v o u m/\((q.bW p).2=gX v p\/((q.bW p).2=(false,[],11)/\m<=u)):=by
 obtain⟨a,b⟩:=h.get p;unfold QS.bW gX
 rcases b with⟨b1,b2⟩|⟨b1,b2⟩|⟨b1,b2⟩
 .rw[b2,if_neg (by simp),if_neg (by omega)];exact⟨a,.inl rfl⟩
 .rw[b2,b1,if_pos (by simp),if_pos (by simp)];exact⟨a,.inl rfl⟩
 .rw[b1,if_pos (by simp)];exact⟨a,.inr ⟨rfl,b2⟩⟩
theorem Rd.write(h:Rd q v o u m)(h0:(v p).2=0)(hl:(bA leaf l).2=0):
  ((q.cA p leaf l).2=0/\Rd (q.cA p leaf l).1 (jh v p (bA leaf l).1) o u m)\/((q.cA p leaf l).2=11/\Rd (q.cA p leaf l).1 v o u m/\m<=u):=by
 unfold QS.cA;rw[if_neg (by omega)];exact h.put p ⟨(bA leaf l).1.toArray⟩ (by show(bA leaf l).1.toArray.size=_;rw[iA];exact(tK hl).2.2.1) h0
theorem E3(q:QS)(p:Int)(hl:(bA leaf l).2≠0):q.cA p leaf l=(q,(bA leaf l).2):=by
 unfold QS.cA;rw[if_pos hl]
theorem Rd.make(h:Rd q v o u m)(hl:(bA leaf l).2=0):
  (∃k:Nat,(q.cO leaf l).2=(((k:Nat):Int),0)/\k<=511/\v (k:Nat)=([],3)/\Rd (q.cO leaf l).1 (jh v (k:Nat) (bA leaf l).1) o (u+1) m)\/
  ((q.cO leaf l).2=(0,11)/\Rd (q.cO leaf l).1 v o (u+1) m/\(m<=u\/512<=u)):=by
 unfold QS.cO;rw[if_neg (by omega)];have hn:=h.new ⟨(bA leaf l).1.toArray⟩ (by show(bA leaf l).1.toArray.size<=_;rw[iA,(tK hl).2.2.1];exact ak _);have e:dh (bA leaf l).1 232=(bA leaf l).1:=by
  have:=nY (b:=⟨(bA leaf l).1.toArray⟩) (by show(bA leaf l).1.toArray.size=_;rw[iA];exact(tK hl).2.2.1);exact this
 have hd:(⟨(bA leaf l).1.toArray⟩:ByteArray).data.toList=(bA leaf l).1:=rfl;rw[hd,e]at hn;exact hn
end
end Go.Proofs.YtmonobkginiajaaGreat.Sh
