/- packed. -/
import Derived.Test.YtmonobkginiajaaGreatN18
import Derived.Deep.LoopGhost
import Derived.Laws.EntriesVeiled
set_option linter.all false
set_option maxRecDepth 100000
set_option maxHeartbeats 8000000
namespace Go.Proofs.YtmonobkginiajaaGreat.Sh
open Go.RowKit Pk Dk Pg
open Nd (E ax aV aF aK cu bm aM bG bg)
attribute [local go_sem ↓] Go.wp_at_zero Go.wp_at_succ
variable{s:Step}{w:World}{I:Ix}{F:List Nat}{n:Nat}
theorem vB{l:List E}{leaf:Bool}(h:cu l leaf):∀e∈l,e.key.size<=32/\e.val.size<=40:=λe he=>by
 obtain⟨i,hi,rfl⟩:=List.mem_iff_getElem.1 he;have:=(h i hi l[i] (aN hi)).1;exact⟨this.1,this.2.1⟩
theorem pZ.light(h:pZ s):yY s.l:=⟨by have:=h.2.1;omega,vB h.1⟩
theorem pZ.fit(h:pZ s)(hl:s.leaf=false):Fit s:=⟨h.light,by have:=h.2.1;omega,h.2.2 hl⟩
theorem PB.pt{w':World}{q:QS}{K b:Nat}(hb:w.heap.size<=b)(h:PB b w w' I F q n K):PT w w' I F q n K:=by
 obtain⟨F',S,P,o,f,g⟩:=h;exact⟨F',P,o.mono (λx hx hl=>(f x hx).elim id (λh=>by omega)),λx hx=>(g x hx).imp id (λh=>by omega)⟩
theorem tJ(q:QS)(key value:ByteArray):(q.fL key value).2.1.key=key/\(q.fL key value).2.1.val.size<=40:=by
 unfold QS.fL
 split
 .exact⟨rfl,by assumption⟩
 .exact⟨rfl,bq _⟩
def vC(l:List E)(key:ByteArray):List E:=if bG l key=true then l.eraseIdx (aM l key)else l
def QS.oH(q:QS)(l:List E)(key:ByteArray):QS×Int:=if bG l key=true then q.mQ (l.getD (aM l key) Nd.E.zero)else(q,0)
def QS.Jj(q:QS)(key value:ByteArray)(x:Step)(i:Nat)(up:List Step):QS×Int:=
 if(q.fL key value).2.2≠0 then((q.fL key value).1,(q.fL key value).2.2)
 else eg (up.length+1) ({x with l:=x.l.insertIdx i (q.fL key value).2.1}::up) (q.fL key value).1
def QS.fO(q:QS)(key value:ByteArray):QS×Int:=
 if 32<key.size\/1024<value.size then(q,4)
 else if(q.eO key).2.2≠0 then((q.eO key).1,(q.eO key).2.2)
 else if((q.eO key).1.oH (jH (q.eO key).2.1).l key).2≠0 then(q.eO key).1.oH (jH (q.eO key).2.1).l key
 else((q.eO key).1.oH (jH (q.eO key).2.1).l key).1.Jj key value {jH (q.eO key).2.1 with l:=vC (jH (q.eO key).2.1).l key} (aM (jH (q.eO key).2.1).l key) (q.eO key).2.1.dropLast.reverse
theorem Jk{tb:Nat}{q:QS}{Kz:Nat}(h:TQ w tb I F q n Kz)(hKz:Kz<=999999999000)(key value:ByteArray)(hks:key.size<=100000)(hvs:value.size<=100000):
  Calls Tryz.prog 25 #[tp tb,.string key,.string value] w λe w'=>e=.returned (.int .i64 (q.fO key value).2)/\PT w w' I F (q.fO key value).1 n (Kz+100):=by
 have KW:=xh (yV h (by omega) key);have HT:=xh h;have HK:=xh hKz;have ef:=Jd (q:=q) (key:=key);unfold QS.fO;generalize q.eO key=R at *;obtain⟨q1,steps,er⟩:=R;dsimp only at *;unfold tp at *
 by_cases hk32:key.size<=32
 .by_cases hv:value.size<=1024
  .rw[if_neg (by omega)];have s5:¬(32<(key.size:Int)):=by omega
   have s6:¬(1024<(value.size:Int)):=by omega
   by_cases he:er=0
   .subst he;obtain⟨pre,x,rfl,xq,hnl,uk,hlen⟩:=ef rfl;rw[if_neg (by simp),show jH (pre++[x])=x from by unfold jH;simp,show(pre++[x]).dropLast=pre from by simp];have hxo:=uk x (by simp);obtain⟨hm,hl57,_⟩:=hxo;have HLX:=xh (vB hm);have hm:=xh hm;have tu:=xh (show ∀s∈pre,Fit s from λs hs=>(uk s (by simp[hs])).fit (hnl s hs));have nr:=xh hlen;clear ef hnl uk xq h
    obtain⟨RR,cd⟩:∃RR,(if(q1.oH x.l key).2≠0 then q1.oH x.l key else(q1.oH x.l key).1.Jj key value {x with l:=vC x.l key} (aM x.l key) pre.reverse)=RR:=⟨_,rfl⟩;rw[cd];have ic:=xh cd;clear cd;go_enter Tryz.func25,Tryz.ntmps25;go_wp2_with fail;refine KW.o.mono ?_;rintro e w1 ⟨v,L,rfl,SA,qO,P1,o1⟩;have hlast:=SA.last qO;obtain⟨Lp,A,c,g,cc,rfl,oG,rfl,hbg,FW,xD,gS,hfz,S1,f1⟩:=hlast
    have H1:=xh (show TQ w1 tb I F q1 n (Kz+16)/\aH w1 w.heap.size (.slice (some ⟨g,0,none⟩) (pre.length+1) cc) (Lp++[⟨x,A,c⟩])/\OB w.heap.size w w1 F F/\w.heap.size<=w1.heap.size from⟨HT.o.next o1 P1,SA,(OB.refl w.heap.size w F).step (ak _) o1 (λ_ hg=> .inl hg),o1.size⟩);have uo:=xh (show Lp.length=pre.length from by rw[<-oG,j0]);have HMP:=xh oG;have S1:=xh S1;have x1:w1.cell? ⟨g,pre.length*4+1,none⟩=some (.bool x.leaf):=gS 1 (by omega)
    have x2:w1.cell? ⟨g,pre.length*4+1+1,none⟩=some (.slice A x.l.length c):=gS 2 (by omega);have s1:IntKind.i64.wrap (((pre.length+1:Nat):Int)-1)=(pre.length:Int):=by rw[show((pre.length+1:Nat):Int)-1=(pre.length:Int) by omega];exact IntWalk.i64_in _ (by omega)
    have s2:(pre.length:Int)<((pre.length+1:Nat):Int):=by omega
    have KF:=xh (Nd.vq x.leaf A x.l.length c x.l key (Nd.aQ.ax S1.o).2 (by omega) hm.o);unfold aV at KF;clear SA qO P1 o1 oG gS hfz f1;go_wp2_with fail;refine KF.o.mono ?_;rintro e w3 ⟨rfl,dN⟩;have O3:=xh dN
    have H3:=xh (show TQ w3 tb I F q1 n (Kz+16)/\aH w3 w.heap.size (.slice (some ⟨g,0,none⟩) (pre.length+1) cc) (Lp++[⟨x,A,c⟩])/\OB w.heap.size w w3 F F/\w.heap.size<=w3.heap.size from⟨H1.o.1.below O3.o,H1.o.2.1.below O3.o,H1.o.2.2.1.below O3.o,au H1.o.2.2.2 O3.o.size⟩);have S3:=xh (S1.o.below dN);have u2:w3.cell? ⟨g,pre.length*4+1+1,none⟩=some (.slice A x.l.length c):=(O3.o.cell (p:=⟨g,pre.length*4+1+1,none⟩) (db x2)).trans x2
    clear x1 x2 dN H1 S1 O3
    by_cases hh:bG x.l key=true
    .skip
     obtain⟨ex,hex⟩:=yX hh;have hfx:x.l.getD (aM x.l key) Nd.E.zero=ex:=by rw[ig,hex];rfl
     have cd:=ic.o;unfold QS.oH vC at cd;rw[if_pos hh,if_pos hh,hfx]at cd;generalize bG x.l key=hb at *;subst hh;have nD:aM x.l key<x.l.length:=(aR.1 hex).1;generalize aM x.l key=at_ at *;obtain⟨ad,Jc,nn⟩:=(Nd.aQ.ax S3.o).2.2 at_ ex hex;obtain⟨ga,ca,resta,hva,_⟩:=S3.o.form (by omega) (by omega);injection hva with e1 ezz e3
     clear ezz;subst e1 e3;injection Jc with Jc
     subst Jc;rw[Nd.gU,bu]at nn;have u3:=nn.c0;have u4:=nn.c1;have u5:=nn.c2;dsimp only at u4 u5;have KA:=xh (E9 H3.o.1 (by omega) ex);unfold E.agg tp at KA;have hflI:(at_:Int)<(x.l.length:Int):=by omega
     generalize q1.mQ ex=R2 at *;obtain⟨q2,e2⟩:=R2;dsimp only at *;have ic:=xh cd;clear nn hex hfx cd;go_wp2_with fail;refine KA.o.mono ?_;rintro e w4 ⟨rfl,P4,o4⟩
     have H4:=xh (show TQ w4 tb I F q2 n (Kz+21)/\aH w4 w.heap.size (.slice (some ⟨g,0,none⟩) (pre.length+1) cc) (Lp++[⟨x,some ⟨ga,0,none⟩,c⟩])/\OB w.heap.size w w4 F F/\w.heap.size<=w4.heap.size from⟨H3.o.1.next o4 P4,H3.o.2.1.vA H3.o.1.2 o4,H3.o.2.2.1.step (ak _) o4 (λ_ hg=> .inl hg),au H3.o.2.2.2 o4.size⟩);clear P4 o4 u2 u3 u4 u5 S3
     by_cases Dn:e2=0
     .subst Dn;have cd:=ic.o;rw[if_neg (show ¬((0:Int)≠0) by simp)]at cd;have ic:=xh cd;have SX:=H4.o.2.1.e ⟨x,some ⟨ga,0,none⟩,c⟩ (by simp);have KD:=xh (Nd.yQ SX.1 at_ nD (show x.l.length<=100000 by omega));have u2:=H4.o.2.1.cell (k:=Lp.length) (Z:=⟨x,some ⟨ga,0,none⟩,c⟩) (by rw[dF (ak _),eB];rfl) 2 (by omega);rw[uo.o]at u2
      replace u2:w4.cell? ⟨g,pre.length*4+1+1,none⟩=some (.slice (some ⟨ga,0,none⟩) x.l.length c):=u2
      have Dm:=xh (show(x.l.eraseIdx at_).length=x.l.length-1 from by rw[List.length_eraseIdx_of_lt nD]);have s7:IntKind.i64.wrap ((at_:Int)+1)=(at_:Int)+1:=IntWalk.i64_in _ (by omega);clear SX cd;go_wp2_with fail;refine KD.o.mono ?_;rintro e w5 ⟨rfl,S5,o5⟩;obtain⟨SP,sx,sz⟩:=H4.o.2.1.put (Lp:=Lp) (Ls:=[]) (x.l.eraseIdx at_) (A':=some ⟨ga,0,none⟩) (c':=c) (by rw[Dm.o];exact S5) o5 (λz hz=> .inl hz) H4.o.2.2.2;rw[uo.o]at SP sx sz;rw[Dm.o]at SP
      replace sx:w5.cell? ⟨g,pre.length*4+1+1,none⟩=some (.slice (some ⟨ga,0,none⟩) x.l.length c):=sx
      replace sz:w5.frozen? ⟨g,pre.length*4+1+1,none⟩=false:=sz
      have O5:ag (g::ah (.slice (some ⟨ga,0,none⟩) x.l.length c)) w4 (w5.setCell ⟨g,pre.length*4+1+1,none⟩ (.slice (some ⟨ga,0,none⟩) (x.l.length-1) c)):=(o5.mono (λx hx _=>bY _ hx)).setCell (by simp) _;have ke:=H4.o.2.1.off H4.o.1.2;have ur:=H4.o.2.1.tree H4.o.1.1
      have H5:=xh (show TQ (w5.setCell ⟨g,pre.length*4+1+1,none⟩ (.slice (some ⟨ga,0,none⟩) (x.l.length-1) c)) tb I F q2 n (Kz+21)/\aH (w5.setCell ⟨g,pre.length*4+1+1,none⟩ (.slice (some ⟨ga,0,none⟩) (x.l.length-1) c)) w.heap.size (.slice (some ⟨g,0,none⟩) (pre.length+1) cc) (Lp++[⟨{x with l:=x.l.eraseIdx at_},some ⟨ga,0,none⟩,c⟩])/\OB w.heap.size w (w5.setCell ⟨g,pre.length*4+1+1,none⟩ (.slice (some ⟨ga,0,none⟩) (x.l.length-1) c)) F F/\w.heap.size<=(w5.setCell ⟨g,pre.length*4+1+1,none⟩ (.slice (some ⟨ga,0,none⟩) (x.l.length-1) c)).heap.size from
       ⟨H4.o.1.only O5 (λz hz hm=>by
        rcases aD.1 hz with h1|h1<;>rcases aD.1 hm with h2|h2
        .exact ur.1 (by rw[<-h1,h2];simp[ah])
        .exact ur.2 ⟨x,some ⟨ga,0,none⟩,c⟩ (by simp) (by rw[<-h1];exact h2)
        .exact ke.1 z (by rw[h2];simp[ah]) h1
        .exact ke.2 ⟨x,some ⟨ga,0,none⟩,c⟩ (by simp) z h2 h1),SP,H4.o.2.2.1.own O5 (λz hz=>by
        rcases aD.1 hz with h2|h2
        .rw[h2];exact H4.o.2.1.f g (by simp[ah])
        .exact(H4.o.2.1.e ⟨x,some ⟨ga,0,none⟩,c⟩ (by simp)).2 z h2),au H4.o.2.2.2 O5.size⟩)
      clear SP S5 o5 O5 ke ur;have HLY:=xh (show ∀e∈x.l.eraseIdx at_,e.key.size<=32/\e.val.size<=40 from λe he=>HLX.o e (List.mem_of_mem_eraseIdx he));obtain⟨w6,hw6⟩:∃w6,(w5.setCell ⟨g,pre.length*4+1+1,none⟩ (.slice (some ⟨ga,0,none⟩) (x.l.length-1) c))=w6:=⟨_,rfl⟩;rw[hw6]at H5
      go_upto_region 13 with fail
      clear hw6 sx sz u2;have cd:=ic.o;have hya:at_<=(x.l.eraseIdx at_).length:=by rw[Dm.o];omega
      have hyn:(x.l.eraseIdx at_).length<=57:=by rw[Dm.o];omega
      generalize hY:({x with l:=x.l.eraseIdx at_}:Step)=y at *;have hyl:y.l=x.l.eraseIdx at_:=by rw[<-hY]
      rw[<-hyl]at HLY hya hyn;generalize hAY:some (⟨ga,0,none⟩:Addr)=AY at H5;obtain⟨cY,rfl⟩:∃cY,cY=c:=⟨_,rfl⟩;have ic:=xh cd;clear hyl hY hAY cd;have KT:=xh (vz H5.o.1 (by omega) key value hv);have oI:=tJ q2 key value;have cd:=ic.o;unfold QS.Jj at cd;generalize q2.fL key value=R3 at *;obtain⟨q3,en,e3⟩:=R3;dsimp only at *;obtain⟨rfl,Cp⟩:=oI;have HEN:=xh (And.intro hk32 Cp);have ic:=xh cd;unfold E.agg tp at KT;clear cd Cp
      go_wp2_with fail;refine KT.o.mono ?_;rintro e w4 ⟨rfl,P4⟩;obtain⟨F4,T4,o4,f4⟩:=P4.tq H5.o.1;have H4:=xh (show TQ w4 tb I F4 q3 n (Kz+26)/\aH w4 w.heap.size (.slice (some ⟨g,0,none⟩) (pre.length+1) cc) (Lp++[⟨y,AY,cY⟩])/\OB w.heap.size w w4 F F4/\w.heap.size<=w4.heap.size from⟨T4,H5.o.2.1.vA H5.o.1.2 o4,H5.o.2.2.1.step (ak _) o4 f4,au H5.o.2.2.2 o4.size⟩);clear P4 o4 f4 T4
      by_cases Dq:e3=0
      .subst Dq;have cd:=ic.o;rw[if_neg (show ¬((0:Int)≠0) by simp)]at cd;rw[List.length_reverse]at cd;have ic:=xh cd;clear cd;obtain⟨w8,zT⟩:∃w8,(w4.alloc (.cells #[.string en.key,.string en.val,.int .i64 en.aY] 111)).drew=w8:=⟨_,rfl⟩;have tK:Below w4.heap.size w4 w8:=by rw[<-zT];exact(ae (Below.refl _ _) _).drew
       have Jl:az w8 w4.heap.size 111 #[.string en.key,.string en.val,.int .i64 en.aY]:=by rw[<-zT];exact(az.new _ _ _).drew
       have H8:=xh (show TQ w8 tb I F4 q3 n (Kz+26)/\aH w8 w.heap.size (.slice (some ⟨g,0,none⟩) (pre.length+1) cc) (Lp++⟨y,AY,cY⟩::[])/\OB w.heap.size w w8 F F4/\w.heap.size<=w8.heap.size/\az w8 w4.heap.size 111 #[.string en.key,.string en.val,.int .i64 en.aY]from
        ⟨H4.o.1.below tK,H4.o.2.1.below tK,H4.o.2.2.1.below tK,au H4.o.2.2.2 tK.size,Jl⟩)
       have KS8:=xh (show(λW=>W.cell? ⟨w4.heap.size,0,none⟩=some (.string en.key)/\W.cell? ⟨w4.heap.size,1,none⟩=some (.string en.val)/\W.cell? ⟨w4.heap.size,2,none⟩=some (.int .i64 en.aY)) w8 from And.intro (Jl.ab (i:=0) rfl) (And.intro (Jl.ab (i:=1) rfl) (Jl.ab (i:=2) rfl)));have x8:w8.cell? ⟨g,pre.length*4+2,none⟩=some (.slice AY y.l.length cY):=by
        have h1:=H8.o.2.1.cell (k:=Lp.length) (Z:=⟨y,AY,cY⟩) (by rw[dF (ak _),eB];rfl) 2 (by omega);rw[uo.o]at h1;exact h1
       obtain⟨w9,Jh⟩:∃w9,w8.alloc (.cells #[.string en.key,.string en.val,.int .i64 en.aY] 111)=w9:=⟨_,rfl⟩;have fQ:Below w8.heap.size w8 w9:=by rw[<-Jh];exact ae (Below.refl _ _) _
       have BN9:az w9 w8.heap.size 111 #[.string en.key,.string en.val,.int .i64 en.aY]:=by rw[<-Jh];exact az.new _ _ _
       have BZ9:w9.frozen? ⟨w8.heap.size,3,none⟩=false:=by rw[<-Jh];exact World.frozen?_alloc_at (w:=w8) _ _ w8.heap.size 3 rfl
       have Jm:=H8.o.2.2.2.2.below fQ H8.o.2.2.2.2.lt;have F0:=xh (show(λW=>W.cell? ⟨w4.heap.size,0,none⟩=some (.string en.key)/\W.cell? ⟨w4.heap.size,1,none⟩=some (.string en.val)/\W.cell? ⟨w4.heap.size,2,none⟩=some (.int .i64 en.aY)) w9 from And.intro (Jm.ab (i:=0) rfl) (And.intro (Jm.ab (i:=1) rfl) (Jm.ab (i:=2) rfl)));have x9:w9.cell? ⟨g,pre.length*4+2,none⟩=some (.slice AY y.l.length cY):=(fQ.cell (p:=⟨g,pre.length*4+2,none⟩) (db x8)).trans x8
       have H9:=xh (show TQ w9 tb I F4 q3 n (Kz+26)/\aH w9 w.heap.size (.slice (some ⟨g,0,none⟩) (pre.length+1) cc) (Lp++⟨y,AY,cY⟩::[])/\OB w.heap.size w w9 F F4/\w.heap.size<=w9.heap.size/\az w9 w4.heap.size 111 #[.string en.key,.string en.val,.int .i64 en.aY]from
        ⟨H8.o.1.below fQ,H8.o.2.1.below fQ,H8.o.2.2.1.below fQ,au H8.o.2.2.2.1 fQ.size,Jm⟩)
       have qC:=xh (show(y.l.insertIdx at_ en).length=y.l.length+1 from by rw[rD,if_pos (by omega)]);have SY:=H9.o.2.1.e ⟨y,AY,cY⟩ (by simp);have KI:=xh (Nd.lS (w:=w9) SY.1 en (g2:=w8.heap.size) (cc:=1) BN9 (show y.l.length<=100000 by omega) (λhm=>by have:=(H8.o.2.1.e ⟨y,AY,cY⟩ (by simp)).1.lt _ hm;omega) at_ (show at_<=y.l.length by omega) BZ9)
       have AW:=xh (show ∀W,ag (ah (.slice AY y.l.length cY)) w9 W->(λW=>W.cell? ⟨w4.heap.size,0,none⟩=some (.string en.key)/\W.cell? ⟨w4.heap.size,1,none⟩=some (.string en.val)/\W.cell? ⟨w4.heap.size,2,none⟩=some (.int .i64 en.aY)) W from λW o=>by
        have hB:=H9.o.2.2.2.2.only o (λhm=>by have:=(H4.o.2.1.e ⟨y,AY,cY⟩ (by simp)).1.lt _ hm;omega);exact⟨hB.ab (i:=0) rfl,hB.ab (i:=1) rfl,hB.ab (i:=2) rfl⟩)
       clear SY BN9 BZ9 fQ Jl Jm tK;go_wp2_with fail;refine wp_region_held_drew (S:=λW=>W.cell? ⟨w4.heap.size,0,none⟩=some (.string en.key)/\W.cell? ⟨w4.heap.size,1,none⟩=some (.string en.val)/\W.cell? ⟨w4.heap.size,2,none⟩=some (.int .i64 en.aY)) (by kernel_rfl) (by rw[zT];exact KS8.o) (λaw=>?_);rw[zT];clear zT;refine dq [(0,86),(1,87),(2,88),(3,89),(4,90),(6,92),(7,93)] ?_
       iterate 7 refine za ?_
       refine wpAnyH_ready (rs:=[5,8]) (by kernel_rfl) (by simp) ?_;refine AllReadyH.cons (o:=⟨some 91,_,_,_,_,_⟩) rfl (λK hK=>?_) (AllReadyH.cons (o:=⟨some 94,_,_,_,_,_⟩) rfl (λK hK=>?_) AllReadyH.nil)
       .skip
        go_simp;refine zh hK (KS8.o) (λaw=>?_);refine zd 8 94 λK hK=>?_;go_simp;refine zh hK (F0.o) (λaw=>?_);refine zd 9 95 λK hK=>?_;go_simp
        go_at_call 74
        refine KI.o.mono ?_;rintro e iZ ⟨A',c',rfl,oA,j9,f10⟩;have oA:=xh oA;have j9:=xh j9;have f10:=xh f10;have tF:=xh (AW.o iZ j9.o);go_simp;refine zh hK (tF.o) (λaw=>?_);refine dq [(10,96),(11,97),(12,98)] ?_
        iterate 3 refine za ?_
        refine zf 13 λK hK=>?_;go_simp;obtain⟨SP,sx,sz⟩:=H9.o.2.1.put (y.l.insertIdx at_ en) (A':=A') (c':=c') (by rw[qC.o];exact oA.o) j9.o (by rw[qC.o];exact f10.o) H9.o.2.2.2.1;rw[uo.o]at SP sx sz;rw[qC.o]at SP;have SP:=xh SP
        replace sx:iZ.cell? ⟨g,pre.length*4+2,none⟩=some (.slice AY y.l.length cY):=sx
        have nm:=xh (show ag (g::ah (.slice AY y.l.length cY)) w9 (iZ.setCell ⟨g,pre.length*4+2,none⟩ (.slice A' (y.l.length+1) c'))from(j9.o.mono (λx hx _=>bY _ hx)).setCell (by simp) _);have Ff:=(H9.o.2.1.e ⟨y,AY,cY⟩ (by simp)).1
        have oI:=((H9.o.2.2.2.2.only j9.o (λhm=>by have:=(H4.o.2.1.e ⟨y,AY,cY⟩ (by simp)).1.lt _ hm;omega)).aY (p:=⟨g,pre.length*4+2,none⟩) (λe=>cy H9.o.2.1.s H9.o.2.2.2.2 (by decide) (by simp[ah];exact e)) (.slice A' (y.l.length+1) c'));have tG:=xh (And.intro (oI.ab (i:=0) rfl) (And.intro (oI.ab (i:=1) rfl) (oI.ab (i:=2) rfl)));clear Ff oI;go_simp;refine zh hK (tG.o) (λaw=>?_);refine wpAnyH_done (by kernel_rfl) ?_ _
        go_wp2_with fail;have hT:TQ (iZ.setCell ⟨g,pre.length*4+1+1,none⟩ (.slice A' (y.l.length+1) c')) tb I F4 q3 n (Kz+26):=by
         have ke:=H9.o.2.1.off H9.o.1.2;have ur:=H9.o.2.1.tree H9.o.1.1;exact H9.o.1.only nm.o (λz hz hm=>by
          rcases aD.1 hz with h1|h1<;>rcases aD.1 hm with h2|h2
          .exact ur.1 (by rw[<-h1,h2];simp[ah])
          .exact ur.2 ⟨y,AY,cY⟩ (by simp) (by rw[<-h1];exact h2)
          .exact ke.1 z (by rw[h2];simp[ah]) h1
          .exact ke.2 ⟨y,AY,cY⟩ (by simp) z h2 h1)
        have hO:OB w.heap.size w (iZ.setCell ⟨g,pre.length*4+1+1,none⟩ (.slice A' (y.l.length+1) c')) F F4:=H9.o.2.2.1.own nm.o (λz hz=>by
         rcases aD.1 hz with h2|h2
         .rw[h2];exact H9.o.2.1.f g (by simp[ah])
         .exact(H9.o.2.1.e ⟨y,AY,cY⟩ (by simp)).2 z h2)
        have y8:w.heap.size<=(iZ.setCell ⟨g,pre.length*4+1+1,none⟩ (.slice A' (y.l.length+1) c')).heap.size:=au H9.o.2.2.2.1 nm.o.size;have SQ:aH (iZ.setCell ⟨g,pre.length*4+1+1,none⟩ (.slice A' (y.l.length+1) c')) w.heap.size (.slice (some ⟨g,0,none⟩) (pre.length+1) cc) (Lp++[(⟨{y with l:=y.l.insertIdx at_ en},A',c'⟩:SM)]):=by
         exact SP.o
        have tI:=ic.o;subst tI;have KR:=gw (pre.length+1) pre {y with l:=y.l.insertIdx at_ en} (ak _) hT (by have:=HK.o;have:=nr.o;omega) SQ y8 (by rw[eh,HMP.o];rfl) tu.o
         ⟨by show(y.l.insertIdx at_ _).length<=90;rw[qC.o];omega,λe he=>by
          rcases(oY (by omega)).1 he with rfl|he
          .exact HEN.o
          .exact HLY.o e he⟩ (by have:=nr.o;omega)
        refine KR.mono ?_;rintro e w12 ⟨rfl,qD⟩;have qD:=xh qD;have HO:=xh hO;clear hT hO y8 SQ KR;go_wp2_with fail;go_ret;exact⟨by first|rfl|simp,((HO.o.trans qD.o).pt (ak _)).le (by have:=nr.o;omega)⟩
       .skip
        go_simp;refine zh hK (F0.o) (λaw=>?_);refine zd 5 91 λK hK=>?_;go_simp;refine zh hK (F0.o) (λaw=>?_);refine zd 9 95 λK hK=>?_;go_simp
        go_at_call 74
        refine KI.o.mono ?_;rintro e iZ ⟨A',c',rfl,oA,j9,f10⟩;have oA:=xh oA;have j9:=xh j9;have f10:=xh f10;have tF:=xh (AW.o iZ j9.o);go_simp;refine zh hK (tF.o) (λaw=>?_);refine dq [(10,96),(11,97),(12,98)] ?_
        iterate 3 refine za ?_
        refine zf 13 λK hK=>?_;go_simp;obtain⟨SP,sx,sz⟩:=H9.o.2.1.put (y.l.insertIdx at_ en) (A':=A') (c':=c') (by rw[qC.o];exact oA.o) j9.o (by rw[qC.o];exact f10.o) H9.o.2.2.2.1;rw[uo.o]at SP sx sz;rw[qC.o]at SP;have SP:=xh SP
        replace sx:iZ.cell? ⟨g,pre.length*4+2,none⟩=some (.slice AY y.l.length cY):=sx
        have nm:=xh (show ag (g::ah (.slice AY y.l.length cY)) w9 (iZ.setCell ⟨g,pre.length*4+2,none⟩ (.slice A' (y.l.length+1) c'))from(j9.o.mono (λx hx _=>bY _ hx)).setCell (by simp) _);have Ff:=(H9.o.2.1.e ⟨y,AY,cY⟩ (by simp)).1
        have oI:=((H9.o.2.2.2.2.only j9.o (λhm=>by have:=(H4.o.2.1.e ⟨y,AY,cY⟩ (by simp)).1.lt _ hm;omega)).aY (p:=⟨g,pre.length*4+2,none⟩) (λe=>cy H9.o.2.1.s H9.o.2.2.2.2 (by decide) (by simp[ah];exact e)) (.slice A' (y.l.length+1) c'));have tG:=xh (And.intro (oI.ab (i:=0) rfl) (And.intro (oI.ab (i:=1) rfl) (oI.ab (i:=2) rfl)));clear Ff oI;go_simp;refine zh hK (tG.o) (λaw=>?_);refine wpAnyH_done (by kernel_rfl) ?_ _
        go_wp2_with fail;have hT:TQ (iZ.setCell ⟨g,pre.length*4+1+1,none⟩ (.slice A' (y.l.length+1) c')) tb I F4 q3 n (Kz+26):=by
         have ke:=H9.o.2.1.off H9.o.1.2;have ur:=H9.o.2.1.tree H9.o.1.1;exact H9.o.1.only nm.o (λz hz hm=>by
          rcases aD.1 hz with h1|h1<;>rcases aD.1 hm with h2|h2
          .exact ur.1 (by rw[<-h1,h2];simp[ah])
          .exact ur.2 ⟨y,AY,cY⟩ (by simp) (by rw[<-h1];exact h2)
          .exact ke.1 z (by rw[h2];simp[ah]) h1
          .exact ke.2 ⟨y,AY,cY⟩ (by simp) z h2 h1)
        have hO:OB w.heap.size w (iZ.setCell ⟨g,pre.length*4+1+1,none⟩ (.slice A' (y.l.length+1) c')) F F4:=H9.o.2.2.1.own nm.o (λz hz=>by
         rcases aD.1 hz with h2|h2
         .rw[h2];exact H9.o.2.1.f g (by simp[ah])
         .exact(H9.o.2.1.e ⟨y,AY,cY⟩ (by simp)).2 z h2)
        have y8:w.heap.size<=(iZ.setCell ⟨g,pre.length*4+1+1,none⟩ (.slice A' (y.l.length+1) c')).heap.size:=au H9.o.2.2.2.1 nm.o.size;have SQ:aH (iZ.setCell ⟨g,pre.length*4+1+1,none⟩ (.slice A' (y.l.length+1) c')) w.heap.size (.slice (some ⟨g,0,none⟩) (pre.length+1) cc) (Lp++[(⟨{y with l:=y.l.insertIdx at_ en},A',c'⟩:SM)]):=by
         exact SP.o
        have tI:=ic.o;subst tI;have KR:=gw (pre.length+1) pre {y with l:=y.l.insertIdx at_ en} (ak _) hT (by have:=HK.o;have:=nr.o;omega) SQ y8 (by rw[eh,HMP.o];rfl) tu.o
         ⟨by show(y.l.insertIdx at_ _).length<=90;rw[qC.o];omega,λe he=>by
          rcases(oY (by omega)).1 he with rfl|he
          .exact HEN.o
          .exact HLY.o e he⟩ (by have:=nr.o;omega)
        refine KR.mono ?_;rintro e w12 ⟨rfl,qD⟩;have qD:=xh qD;have HO:=xh hO;clear hT hO y8 SQ KR;go_wp2_with fail;go_ret;exact⟨by first|rfl|simp,((HO.o.trans qD.o).pt (ak _)).le (by have:=nr.o;omega)⟩
      .have cd:=ic.o;rw[if_pos Dq]at cd;subst cd;have hq:(e3 != 0)=true:=by rw[bne_iff_ne];exact Dq
       have lr:(e3==0)=false:=by rw[beq_eq_false_iff_ne];exact Dq
       go_wp2_with fail;go_ret;exact⟨by first|rfl|simp,(((H4.o.2.2.1.below (ae (Below.refl _ _) _)).pb (H4.o.1.2.below (ae (Below.refl _ _) _))).pt (ak _)).le (by omega)⟩
     .have cd:=ic.o;rw[if_pos Dn]at cd;subst cd;have hq:(e2 != 0)=true:=by rw[bne_iff_ne];exact Dn
      have lr:(e2==0)=false:=by rw[beq_eq_false_iff_ne];exact Dn
      go_wp2_with fail;go_ret;exact⟨by first|rfl|simp,((H4.o.2.2.1.pb H4.o.1.2).pt (ak _)).le (by omega)⟩
    .have hh2:bG x.l key=false:=by simpa using hh
     have cd:=ic.o;unfold QS.oH vC at cd;rw[if_neg hh,if_neg hh,if_neg (show ¬((0:Int)≠0) by simp)]at cd;generalize bG x.l key=hb at *;subst hh2;have hya:aM x.l key<=x.l.length:=kC;generalize aM x.l key=at_ at *;obtain⟨q2,rfl⟩:∃q2,q2=q1:=⟨_,rfl⟩;obtain⟨y,rfl⟩:∃y:Step,y=x:=⟨_,rfl⟩;obtain⟨AY,rfl⟩:∃AY,AY=A:=⟨_,rfl⟩;obtain⟨cY,rfl⟩:∃cY,cY=c:=⟨_,rfl⟩;have hyn:y.l.length<=57:=hl57;have HLY:=HLX;have ic:=xh cd
     have H5:=xh (show TQ w3 tb I F q2 n (Kz+21)/\aH w3 w.heap.size (.slice (some ⟨g,0,none⟩) (pre.length+1) cc) (Lp++[⟨y,AY,cY⟩])/\OB w.heap.size w w3 F F/\w.heap.size<=w3.heap.size from⟨H3.o.1.le (by omega),H3.o.2⟩);clear hh cd u2 H3 S3
     go_upto_region 13 with fail
     have KT:=xh (vz H5.o.1 (by omega) key value hv);have oI:=tJ q2 key value;have cd:=ic.o;unfold QS.Jj at cd;generalize q2.fL key value=R3 at *;obtain⟨q3,en,e3⟩:=R3;dsimp only at *;obtain⟨rfl,Cp⟩:=oI;have HEN:=xh (And.intro hk32 Cp);have ic:=xh cd;unfold E.agg tp at KT;clear cd Cp;go_wp2_with fail;refine KT.o.mono ?_;rintro e w4 ⟨rfl,P4⟩;obtain⟨F4,T4,o4,f4⟩:=P4.tq H5.o.1
     have H4:=xh (show TQ w4 tb I F4 q3 n (Kz+26)/\aH w4 w.heap.size (.slice (some ⟨g,0,none⟩) (pre.length+1) cc) (Lp++[⟨y,AY,cY⟩])/\OB w.heap.size w w4 F F4/\w.heap.size<=w4.heap.size from⟨T4,H5.o.2.1.vA H5.o.1.2 o4,H5.o.2.2.1.step (ak _) o4 f4,au H5.o.2.2.2 o4.size⟩);clear P4 o4 f4 T4
     by_cases Dq:e3=0
     .subst Dq;have cd:=ic.o;rw[if_neg (show ¬((0:Int)≠0) by simp)]at cd;rw[List.length_reverse]at cd;have ic:=xh cd;clear cd;obtain⟨w8,zT⟩:∃w8,(w4.alloc (.cells #[.string en.key,.string en.val,.int .i64 en.aY] 111)).drew=w8:=⟨_,rfl⟩;have tK:Below w4.heap.size w4 w8:=by rw[<-zT];exact(ae (Below.refl _ _) _).drew
      have Jl:az w8 w4.heap.size 111 #[.string en.key,.string en.val,.int .i64 en.aY]:=by rw[<-zT];exact(az.new _ _ _).drew
      have H8:=xh (show TQ w8 tb I F4 q3 n (Kz+26)/\aH w8 w.heap.size (.slice (some ⟨g,0,none⟩) (pre.length+1) cc) (Lp++⟨y,AY,cY⟩::[])/\OB w.heap.size w w8 F F4/\w.heap.size<=w8.heap.size/\az w8 w4.heap.size 111 #[.string en.key,.string en.val,.int .i64 en.aY]from
       ⟨H4.o.1.below tK,H4.o.2.1.below tK,H4.o.2.2.1.below tK,au H4.o.2.2.2 tK.size,Jl⟩)
      have KS8:=xh (show(λW=>W.cell? ⟨w4.heap.size,0,none⟩=some (.string en.key)/\W.cell? ⟨w4.heap.size,1,none⟩=some (.string en.val)/\W.cell? ⟨w4.heap.size,2,none⟩=some (.int .i64 en.aY)) w8 from And.intro (Jl.ab (i:=0) rfl) (And.intro (Jl.ab (i:=1) rfl) (Jl.ab (i:=2) rfl)));have x8:w8.cell? ⟨g,pre.length*4+2,none⟩=some (.slice AY y.l.length cY):=by
       have h1:=H8.o.2.1.cell (k:=Lp.length) (Z:=⟨y,AY,cY⟩) (by rw[dF (ak _),eB];rfl) 2 (by omega);rw[uo.o]at h1;exact h1
      obtain⟨w9,Jh⟩:∃w9,w8.alloc (.cells #[.string en.key,.string en.val,.int .i64 en.aY] 111)=w9:=⟨_,rfl⟩;have fQ:Below w8.heap.size w8 w9:=by rw[<-Jh];exact ae (Below.refl _ _) _
      have BN9:az w9 w8.heap.size 111 #[.string en.key,.string en.val,.int .i64 en.aY]:=by rw[<-Jh];exact az.new _ _ _
      have BZ9:w9.frozen? ⟨w8.heap.size,3,none⟩=false:=by rw[<-Jh];exact World.frozen?_alloc_at (w:=w8) _ _ w8.heap.size 3 rfl
      have Jm:=H8.o.2.2.2.2.below fQ H8.o.2.2.2.2.lt;have F0:=xh (show(λW=>W.cell? ⟨w4.heap.size,0,none⟩=some (.string en.key)/\W.cell? ⟨w4.heap.size,1,none⟩=some (.string en.val)/\W.cell? ⟨w4.heap.size,2,none⟩=some (.int .i64 en.aY)) w9 from And.intro (Jm.ab (i:=0) rfl) (And.intro (Jm.ab (i:=1) rfl) (Jm.ab (i:=2) rfl)));have x9:w9.cell? ⟨g,pre.length*4+2,none⟩=some (.slice AY y.l.length cY):=(fQ.cell (p:=⟨g,pre.length*4+2,none⟩) (db x8)).trans x8
      have H9:=xh (show TQ w9 tb I F4 q3 n (Kz+26)/\aH w9 w.heap.size (.slice (some ⟨g,0,none⟩) (pre.length+1) cc) (Lp++⟨y,AY,cY⟩::[])/\OB w.heap.size w w9 F F4/\w.heap.size<=w9.heap.size/\az w9 w4.heap.size 111 #[.string en.key,.string en.val,.int .i64 en.aY]from
       ⟨H8.o.1.below fQ,H8.o.2.1.below fQ,H8.o.2.2.1.below fQ,au H8.o.2.2.2.1 fQ.size,Jm⟩)
      have qC:=xh (show(y.l.insertIdx at_ en).length=y.l.length+1 from by rw[rD,if_pos (by omega)]);have SY:=H9.o.2.1.e ⟨y,AY,cY⟩ (by simp);have KI:=xh (Nd.lS (w:=w9) SY.1 en (g2:=w8.heap.size) (cc:=1) BN9 (show y.l.length<=100000 by omega) (λhm=>by have:=(H8.o.2.1.e ⟨y,AY,cY⟩ (by simp)).1.lt _ hm;omega) at_ (show at_<=y.l.length by omega) BZ9)
      have AW:=xh (show ∀W,ag (ah (.slice AY y.l.length cY)) w9 W->(λW=>W.cell? ⟨w4.heap.size,0,none⟩=some (.string en.key)/\W.cell? ⟨w4.heap.size,1,none⟩=some (.string en.val)/\W.cell? ⟨w4.heap.size,2,none⟩=some (.int .i64 en.aY)) W from λW o=>by
       have hB:=H9.o.2.2.2.2.only o (λhm=>by have:=(H4.o.2.1.e ⟨y,AY,cY⟩ (by simp)).1.lt _ hm;omega);exact⟨hB.ab (i:=0) rfl,hB.ab (i:=1) rfl,hB.ab (i:=2) rfl⟩)
      clear SY BN9 BZ9 fQ Jl Jm tK;go_wp2_with fail;refine wp_region_held_drew (S:=λW=>W.cell? ⟨w4.heap.size,0,none⟩=some (.string en.key)/\W.cell? ⟨w4.heap.size,1,none⟩=some (.string en.val)/\W.cell? ⟨w4.heap.size,2,none⟩=some (.int .i64 en.aY)) (by kernel_rfl) (by rw[zT];exact KS8.o) (λaw=>?_);rw[zT];clear zT;refine dq [(0,86),(1,87),(2,88),(3,89),(4,90),(6,92),(7,93)] ?_
      iterate 7 refine za ?_
      refine wpAnyH_ready (rs:=[5,8]) (by kernel_rfl) (by simp) ?_;refine AllReadyH.cons (o:=⟨some 91,_,_,_,_,_⟩) rfl (λK hK=>?_) (AllReadyH.cons (o:=⟨some 94,_,_,_,_,_⟩) rfl (λK hK=>?_) AllReadyH.nil)
      .skip
       go_simp;refine zh hK (KS8.o) (λaw=>?_);refine zd 8 94 λK hK=>?_;go_simp;refine zh hK (F0.o) (λaw=>?_);refine zd 9 95 λK hK=>?_;go_simp
       go_at_call 74
       refine KI.o.mono ?_;rintro e iZ ⟨A',c',rfl,oA,j9,f10⟩;have oA:=xh oA;have j9:=xh j9;have f10:=xh f10;have tF:=xh (AW.o iZ j9.o);go_simp;refine zh hK (tF.o) (λaw=>?_);refine dq [(10,96),(11,97),(12,98)] ?_
       iterate 3 refine za ?_
       refine zf 13 λK hK=>?_;go_simp;obtain⟨SP,sx,sz⟩:=H9.o.2.1.put (y.l.insertIdx at_ en) (A':=A') (c':=c') (by rw[qC.o];exact oA.o) j9.o (by rw[qC.o];exact f10.o) H9.o.2.2.2.1;rw[uo.o]at SP sx sz;rw[qC.o]at SP;have SP:=xh SP
       replace sx:iZ.cell? ⟨g,pre.length*4+2,none⟩=some (.slice AY y.l.length cY):=sx
       have nm:=xh (show ag (g::ah (.slice AY y.l.length cY)) w9 (iZ.setCell ⟨g,pre.length*4+2,none⟩ (.slice A' (y.l.length+1) c'))from(j9.o.mono (λx hx _=>bY _ hx)).setCell (by simp) _);have Ff:=(H9.o.2.1.e ⟨y,AY,cY⟩ (by simp)).1
       have oI:=((H9.o.2.2.2.2.only j9.o (λhm=>by have:=(H4.o.2.1.e ⟨y,AY,cY⟩ (by simp)).1.lt _ hm;omega)).aY (p:=⟨g,pre.length*4+2,none⟩) (λe=>cy H9.o.2.1.s H9.o.2.2.2.2 (by decide) (by simp[ah];exact e)) (.slice A' (y.l.length+1) c'));have tG:=xh (And.intro (oI.ab (i:=0) rfl) (And.intro (oI.ab (i:=1) rfl) (oI.ab (i:=2) rfl)));clear Ff oI;go_simp;refine zh hK (tG.o) (λaw=>?_);refine wpAnyH_done (by kernel_rfl) ?_ _
       go_wp2_with fail;have hT:TQ (iZ.setCell ⟨g,pre.length*4+1+1,none⟩ (.slice A' (y.l.length+1) c')) tb I F4 q3 n (Kz+26):=by
        have ke:=H9.o.2.1.off H9.o.1.2;have ur:=H9.o.2.1.tree H9.o.1.1;exact H9.o.1.only nm.o (λz hz hm=>by
         rcases aD.1 hz with h1|h1<;>rcases aD.1 hm with h2|h2
         .exact ur.1 (by rw[<-h1,h2];simp[ah])
         .exact ur.2 ⟨y,AY,cY⟩ (by simp) (by rw[<-h1];exact h2)
         .exact ke.1 z (by rw[h2];simp[ah]) h1
         .exact ke.2 ⟨y,AY,cY⟩ (by simp) z h2 h1)
       have hO:OB w.heap.size w (iZ.setCell ⟨g,pre.length*4+1+1,none⟩ (.slice A' (y.l.length+1) c')) F F4:=H9.o.2.2.1.own nm.o (λz hz=>by
        rcases aD.1 hz with h2|h2
        .rw[h2];exact H9.o.2.1.f g (by simp[ah])
        .exact(H9.o.2.1.e ⟨y,AY,cY⟩ (by simp)).2 z h2)
       have y8:w.heap.size<=(iZ.setCell ⟨g,pre.length*4+1+1,none⟩ (.slice A' (y.l.length+1) c')).heap.size:=au H9.o.2.2.2.1 nm.o.size;have SQ:aH (iZ.setCell ⟨g,pre.length*4+1+1,none⟩ (.slice A' (y.l.length+1) c')) w.heap.size (.slice (some ⟨g,0,none⟩) (pre.length+1) cc) (Lp++[(⟨{y with l:=y.l.insertIdx at_ en},A',c'⟩:SM)]):=by
        exact SP.o
       have tI:=ic.o;subst tI;have KR:=gw (pre.length+1) pre {y with l:=y.l.insertIdx at_ en} (ak _) hT (by have:=HK.o;have:=nr.o;omega) SQ y8 (by rw[eh,HMP.o];rfl) tu.o
        ⟨by show(y.l.insertIdx at_ _).length<=90;rw[qC.o];omega,λe he=>by
         rcases(oY (by omega)).1 he with rfl|he
         .exact HEN.o
         .exact HLY.o e he⟩ (by have:=nr.o;omega)
       refine KR.mono ?_;rintro e w12 ⟨rfl,qD⟩;have qD:=xh qD;have HO:=xh hO;clear hT hO y8 SQ KR;go_wp2_with fail;go_ret;exact⟨by first|rfl|simp,((HO.o.trans qD.o).pt (ak _)).le (by have:=nr.o;omega)⟩
      .skip
       go_simp;refine zh hK (F0.o) (λaw=>?_);refine zd 5 91 λK hK=>?_;go_simp;refine zh hK (F0.o) (λaw=>?_);refine zd 9 95 λK hK=>?_;go_simp
       go_at_call 74
       refine KI.o.mono ?_;rintro e iZ ⟨A',c',rfl,oA,j9,f10⟩;have oA:=xh oA;have j9:=xh j9;have f10:=xh f10;have tF:=xh (AW.o iZ j9.o);go_simp;refine zh hK (tF.o) (λaw=>?_);refine dq [(10,96),(11,97),(12,98)] ?_
       iterate 3 refine za ?_
       refine zf 13 λK hK=>?_;go_simp;obtain⟨SP,sx,sz⟩:=H9.o.2.1.put (y.l.insertIdx at_ en) (A':=A') (c':=c') (by rw[qC.o];exact oA.o) j9.o (by rw[qC.o];exact f10.o) H9.o.2.2.2.1;rw[uo.o]at SP sx sz;rw[qC.o]at SP;have SP:=xh SP
       replace sx:iZ.cell? ⟨g,pre.length*4+2,none⟩=some (.slice AY y.l.length cY):=sx
       have nm:=xh (show ag (g::ah (.slice AY y.l.length cY)) w9 (iZ.setCell ⟨g,pre.length*4+2,none⟩ (.slice A' (y.l.length+1) c'))from(j9.o.mono (λx hx _=>bY _ hx)).setCell (by simp) _);have Ff:=(H9.o.2.1.e ⟨y,AY,cY⟩ (by simp)).1
       have oI:=((H9.o.2.2.2.2.only j9.o (λhm=>by have:=(H4.o.2.1.e ⟨y,AY,cY⟩ (by simp)).1.lt _ hm;omega)).aY (p:=⟨g,pre.length*4+2,none⟩) (λe=>cy H9.o.2.1.s H9.o.2.2.2.2 (by decide) (by simp[ah];exact e)) (.slice A' (y.l.length+1) c'));have tG:=xh (And.intro (oI.ab (i:=0) rfl) (And.intro (oI.ab (i:=1) rfl) (oI.ab (i:=2) rfl)));clear Ff oI;go_simp;refine zh hK (tG.o) (λaw=>?_);refine wpAnyH_done (by kernel_rfl) ?_ _
       go_wp2_with fail;have hT:TQ (iZ.setCell ⟨g,pre.length*4+1+1,none⟩ (.slice A' (y.l.length+1) c')) tb I F4 q3 n (Kz+26):=by
        have ke:=H9.o.2.1.off H9.o.1.2;have ur:=H9.o.2.1.tree H9.o.1.1;exact H9.o.1.only nm.o (λz hz hm=>by
         rcases aD.1 hz with h1|h1<;>rcases aD.1 hm with h2|h2
         .exact ur.1 (by rw[<-h1,h2];simp[ah])
         .exact ur.2 ⟨y,AY,cY⟩ (by simp) (by rw[<-h1];exact h2)
         .exact ke.1 z (by rw[h2];simp[ah]) h1
         .exact ke.2 ⟨y,AY,cY⟩ (by simp) z h2 h1)
       have hO:OB w.heap.size w (iZ.setCell ⟨g,pre.length*4+1+1,none⟩ (.slice A' (y.l.length+1) c')) F F4:=H9.o.2.2.1.own nm.o (λz hz=>by
        rcases aD.1 hz with h2|h2
        .rw[h2];exact H9.o.2.1.f g (by simp[ah])
        .exact(H9.o.2.1.e ⟨y,AY,cY⟩ (by simp)).2 z h2)
       have y8:w.heap.size<=(iZ.setCell ⟨g,pre.length*4+1+1,none⟩ (.slice A' (y.l.length+1) c')).heap.size:=au H9.o.2.2.2.1 nm.o.size;have SQ:aH (iZ.setCell ⟨g,pre.length*4+1+1,none⟩ (.slice A' (y.l.length+1) c')) w.heap.size (.slice (some ⟨g,0,none⟩) (pre.length+1) cc) (Lp++[(⟨{y with l:=y.l.insertIdx at_ en},A',c'⟩:SM)]):=by
        exact SP.o
       have tI:=ic.o;subst tI;have KR:=gw (pre.length+1) pre {y with l:=y.l.insertIdx at_ en} (ak _) hT (by have:=HK.o;have:=nr.o;omega) SQ y8 (by rw[eh,HMP.o];rfl) tu.o
        ⟨by show(y.l.insertIdx at_ _).length<=90;rw[qC.o];omega,λe he=>by
         rcases(oY (by omega)).1 he with rfl|he
         .exact HEN.o
         .exact HLY.o e he⟩ (by have:=nr.o;omega)
       refine KR.mono ?_;rintro e w12 ⟨rfl,qD⟩;have qD:=xh qD;have HO:=xh hO;clear hT hO y8 SQ KR;go_wp2_with fail;go_ret;exact⟨by first|rfl|simp,((HO.o.trans qD.o).pt (ak _)).le (by have:=nr.o;omega)⟩
     .have cd:=ic.o;rw[if_pos Dq]at cd;subst cd;have hq:(e3 != 0)=true:=by rw[bne_iff_ne];exact Dq
      have lr:(e3==0)=false:=by rw[beq_eq_false_iff_ne];exact Dq
      go_wp2_with fail;go_ret;exact⟨by first|rfl|simp,(((H4.o.2.2.1.below (ae (Below.refl _ _) _)).pb (H4.o.1.2.below (ae (Below.refl _ _) _))).pt (ak _)).le (by omega)⟩
   .rw[if_pos he];have hq:(er != 0)=true:=by rw[bne_iff_ne];exact he
    have lr:(er==0)=false:=by rw[beq_eq_false_iff_ne];exact he
    clear ef;go_enter Tryz.func25,Tryz.ntmps25;go_wp2_with fail;refine KW.o.mono ?_;rintro e w1 ⟨v,L,rfl,SA,qO,P1,o1⟩;have P1:=xh P1;have o1:=xh o1;clear SA qO;go_wp2_with fail;go_ret;exact⟨by first|rfl|simp,(PT.self P1.o o1.o).le (by omega)⟩
  .rw[if_pos (by omega)];have s6:1024<(value.size:Int):=by omega
   have s5:¬(32<(key.size:Int)):=by omega
   clear ef;go_enter Tryz.func25,Tryz.ntmps25;go_wp2_with fail;go_ret;exact⟨by first|rfl|simp,(PT.self HT.o.2 (ag.refl F w)).le (by omega)⟩
 .rw[if_pos (by omega)];have s5:32<(key.size:Int):=by omega
  clear ef;go_enter Tryz.func25,Tryz.ntmps25;go_wp2_with fail;go_ret;exact⟨by first|rfl|simp,(PT.self HT.o.2 (ag.refl F w)).le (by omega)⟩
theorem Wp.vw_lt{q:QS}{n K:Nat}(h:Wp q n K){j:Int}(h0:(q.vw j).2=0):0<=j/\j<512:=by
 refine⟨vw_pos h0,?_⟩;have hr:(q.a.aC j).2=0:=by
  rcases fC q j with ho|⟨i,f,hi,rfl,hp⟩
  .rw[dH ho]at h0;exact h0
  .exact h.V.ex f (aA hi) hp
 have:=mh (rl.1 hr);have:=h.H.nl;omega
def gx:List UInt8:=(aK true []).1
def QS.tL(q:QS):QS×Int:=if q.a.gP.length=0 then((q.bh gx).1,(q.bh gx).2.2)else(q,0)
def QS.ln(q:QS):QS×Int:=if q.tL.2≠0 then q.tL else((q.tL.1.bW 0).1,(q.tL.1.bW 0).2.2.2)
def Opened(w w':World)(I:Ix)(F:List Nat)(q:QS)(e:Int)(n K:Nat)(v:Value):Prop:=
 ∃F',ag F w w'/\(∀g∈F',g∈F\/w.heap.size<=g)/\PQ w' I F' q n K/\(e≠0->v=.pointer none)/\(e=0->∃tb,v=tp tb/\w.heap.size<=tb/\TQ w' tb I F' q n K)
theorem Fh{w:World}{I:Ix}{F:List Nat}{q:QS}{n K:Nat}(h:PQ w I F q n K)(hK:K<=999999999000):
  Calls Tryz.prog 24 #[pp I.pb] w λe w'=> ∃v,e=.returned (.tuple #[v,.int .i64 q.ln.2])/\Opened w w' I F q.ln.1 q.ln.2 n (K+2) v:=by
 have kh:=ae (Below.refl w.heap.size w) (.cells #[pp I.pb] 130);obtain⟨wT,hwT⟩:∃wT,w.heap.size=wT:=⟨_,rfl⟩;have HWT:=xh hwT;have BT:=az.new w 130 #[pp I.pb];rw[hwT]at BT;have H1:=xh (show TQ _ wT I F q n K/\ag F w _ from⟨⟨BT,h.below kh⟩,.aj kh⟩);have K1:=xh (sE H1.o.1.2);have K2:=xh (sF H1.o.1.2);unfold QS.ln QS.tL;unfold pp sp at *
 by_cases h0:q.a.gP.length=0
 .rw[if_pos h0];rw[h0]at K2;have K3:=xh (λ(W:World)=>Nd.tt (w:=W) true none 0 0 [] ⟨rfl,λk e he=>by simp at he⟩ (by omega));have hl:=Nd.qA true [];have hleaf:aK true []=(gx,0):=by unfold gx;decide
  rw[hleaf]at K3 hl;dsimp only at K3 hl;have KN:=xh (λ(W:World) (hW:PQ W I F q n K)=>sD hW (by omega) ⟨gx.toArray⟩ (by show gx.toArray.size<=232;simp;exact hl));have HLB:=xh (show(⟨gx.toArray⟩:ByteArray).data.toList=gx from by simp);rw[HLB.o]at KN;generalize q.bh gx=R at *;obtain⟨q1,p1,e1⟩:=R;dsimp only at *;unfold aV at K3;unfold pp at KN;obtain⟨RR,cd⟩:∃RR,(if e1≠0 then(q1,e1)else((q1.bW 0).1,(q1.bW 0).2.2.2))=RR:=⟨_,rfl⟩;rw[cd]
  have ic:=xh cd;clear cd;go_enter Tryz.func24,Tryz.ntmps24;go_wp2_with fail;refine K1.o.mono ?_;rintro e w2 ⟨rfl,rfl⟩;go_wp2_with fail;refine K2.o.mono ?_;rintro e w3 ⟨A3,c3,rfl,S3,dN⟩;have H3:=xh (show TQ w3 wT I F q n K/\ag F w w3 from⟨H1.o.1.below dN,H1.o.2.trans (.aj dN)⟩);clear S3 dN;go_wp2_with fail;refine(K3.o w3).mono ?_;rintro e w4 ⟨rfl,eV⟩
  have H4:=xh (show TQ w4 wT I F q n K/\ag F w w4 from⟨H3.o.1.below eV,H3.o.2.trans (.aj eV)⟩);clear eV;go_wp2_with fail;refine(KN.o w4 H4.o.1.2).mono ?_;rintro e w5 ⟨rfl,P5⟩;obtain⟨F1,T5,o5,f5⟩:=P5.tq H4.o.1;have HT:=xh (show TQ w5 wT I F1 q1 n (K+1)/\ag F w w5/\(∀g∈F1,g∈F\/w.heap.size<=g)from⟨T5,H4.o.2.trans o5,λg hg=>(f5 g hg).imp id (λh=>au H4.o.2.size h)⟩);clear P5 T5 o5 f5
  by_cases he1:e1=0
  .subst he1;have cd:=ic.o;rw[if_neg (show ¬((0:Int)≠0) by simp)]at cd;have K9:=xh (pX HT.o.1 (by omega) 0);have hlen:=mz q1 0;generalize q1.bW 0=r at *;obtain⟨q2,lf,l,er⟩:=r;dsimp only at *;subst cd;unfold tp aV at K9;go_wp2_with fail;refine K9.o.mono ?_;rintro e w9 ⟨A9,c9,rfl,S9,f9,P9,o9⟩;have fQ:=ae (Below.refl w9.heap.size w9) (.cells #[.bool lf,.slice A9 l.length c9] 118)
   have H9:=xh (show TQ _ wT I F1 q2 n (K+2)/\ag F w _/\(∀g∈F1,g∈F\/w.heap.size<=g)from⟨(HT.o.1.next o9 P9).below fQ,(HT.o.2.1.bw o9 (λg hg eT=>(HT.o.2.2 g hg).elim id (λh=>by omega))).trans (.aj fQ),HT.o.2.2⟩);clear S9 f9 P9 o9 fQ
   by_cases he:er=0
   .subst he;go_wp2_with fail;go_ret2;exact⟨_,by first|rfl|simp,F1,H9.o.2.1,H9.o.2.2,H9.o.1.2,λh=>absurd rfl h,λ_=>⟨wT,by unfold tp;first|rfl|simp[HWT.o],by rw[<-HWT.o];exact ak _,H9.o.1⟩⟩
   .have hq:(er != 0)=true:=by rw[bne_iff_ne];exact he
    have lr:(er==0)=false:=by rw[beq_eq_false_iff_ne];exact he
    go_wp2_with fail;go_ret2;exact⟨_,by first|rfl|simp,F1,H9.o.2.1,H9.o.2.2,H9.o.1.2,λ_=>rfl,λh=>absurd h he⟩
  .have cd:=ic.o;rw[if_pos he1]at cd;subst cd;have hq:(e1 != 0)=true:=by rw[bne_iff_ne];exact he1
   have lr:(e1==0)=false:=by rw[beq_eq_false_iff_ne];exact he1
   go_wp2_with fail;go_ret2;exact⟨_,by first|rfl|simp,F1,HT.o.2.1,HT.o.2.2,HT.o.1.2.le (by omega),λ_=>rfl,λh=>absurd h he1⟩
 .rw[if_neg h0,if_neg (show ¬((0:Int)≠0) by simp)];dsimp only;have h0I:((q.a.gP.length:Nat):Int)≠0:=by omega
  generalize q.a.gP.length=np at *;obtain⟨RR,cd⟩:∃RR,((q.bW 0).1,(q.bW 0).2.2.2)=RR:=⟨_,rfl⟩;rw[show(q.bW 0).1=RR.1 from by rw[<-cd],show(q.bW 0).2.2.2=RR.2 from by rw[<-cd]];have ic:=xh cd;clear cd;go_enter Tryz.func24,Tryz.ntmps24;go_wp2_with fail;refine K1.o.mono ?_;rintro e w2 ⟨rfl,rfl⟩;go_wp2_with fail;refine K2.o.mono ?_;rintro e w3 ⟨A3,c3,rfl,S3,dN⟩
  have HT:=xh (show TQ w3 wT I F q n (K+1)/\ag F w w3/\(∀g∈F,g∈F\/w.heap.size<=g)from⟨(H1.o.1.below dN).le (by omega),H1.o.2.trans (.aj dN),λg hg=> .inl hg⟩);clear S3 dN;have cd:=ic.o;have K9:=xh (pX HT.o.1 (by omega) 0);have hlen:=mz q 0;generalize q.bW 0=r at *;obtain⟨q2,lf,l,er⟩:=r;dsimp only at *;subst cd;unfold tp aV at K9;go_wp2_with fail;refine K9.o.mono ?_;rintro e w9 ⟨A9,c9,rfl,S9,f9,P9,o9⟩
  have fQ:=ae (Below.refl w9.heap.size w9) (.cells #[.bool lf,.slice A9 l.length c9] 118);have H9:=xh (show TQ _ wT I F q2 n (K+2)/\ag F w _/\(∀g∈F,g∈F\/w.heap.size<=g)from⟨(HT.o.1.next o9 P9).below fQ,(HT.o.2.1.bw o9 (λg hg eT=>(HT.o.2.2 g hg).elim id (λh=>by omega))).trans (.aj fQ),HT.o.2.2⟩);clear S9 f9 P9 o9 fQ
  by_cases he:er=0
  .subst he;go_wp2_with fail;go_ret2;exact⟨_,by first|rfl|simp,F,H9.o.2.1,H9.o.2.2,H9.o.1.2,λh=>absurd rfl h,λ_=>⟨wT,by unfold tp;first|rfl|simp[HWT.o],by rw[<-HWT.o];exact ak _,H9.o.1⟩⟩
  .have hq:(er != 0)=true:=by rw[bne_iff_ne];exact he
   have lr:(er==0)=false:=by rw[beq_eq_false_iff_ne];exact he
   go_wp2_with fail;go_ret2;exact⟨_,by first|rfl|simp,F,H9.o.2.1,H9.o.2.2,H9.o.1.2,λ_=>rfl,λh=>absurd h he⟩
section
variable{σ:Type}
end
structure Ev where
 sB:Nat
 tB:Nat
 fB:Nat
 oB:Nat
 dB:Nat
 kB:Nat
def Ev.l(v:Ev):List Nat:=[v.sB,v.tB,v.fB,v.oB,v.dB,v.kB]
section
variable{w w':World}{v:Ev}{tb:Nat}{fr Jn:ByteArray}{fn:Nat}{caps:Array Value}{seen:Nat}{S:List Nat}
end
section
variable{σ:Type}{w wr w':World}{v:Ev}{tb:Nat}{I:Ix}{F G:List Nat}{n K:Nat}{fr Jn:ByteArray}{fn:Nat}{caps:Array Value}{tZ:σ->Nat}{Inv:World->σ->List Nat->Prop}{q:QS}{sn bd:Nat}{s:σ}{Gi:List Nat}{leaf:Bool}{A:Option Addr}{c b12:Nat}{l:List E}{step:E->σ->σ×Bool}
end
end Go.Proofs.YtmonobkginiajaaGreat.Sh
namespace Go.Proofs.YtmonobkginiajaaGreat.Sh
open Go.RowKit Pk Dk Pg
open Nd (E ax aV aF aK cu bm aM bG)
attribute [local go_sem ↓] Go.wp_at_zero Go.wp_at_succ aW
def lp(b:Nat):Value:= .pointer (some ⟨b,0,none⟩)
abbrev PR:=ByteArray×ByteArray
variable{w:World}{g:Nat}{a b:ByteArray}
def prV(x:PR):Value:= .agg #[.string x.1,.string x.2]
theorem Jo{fn:Func}{p u:Tmp}{tmps:Array Value}(h:fn.results= #[.cell p 42,.tmp u])(hp:tmps.getD p undef=.pointer (some ⟨g,0,none⟩))(B:az w g 42 #[.string a,.string b]):
  (results fn tmps).run Tryz.prog w=.ok (.tuple #[prV (a,b),tmps.getD u undef]) w:=by
 have c0:=B.ab (i:=0) rfl;have c1:=B.ab (i:=1) rfl;rw[results_cell_tmp h,hp];clear h hp B;unfold prV;go_simp
theorem jz{a' b':ByteArray}(B:az w g 42 #[.string a,.string b]):
  az ((w.setCell ⟨g,0,none⟩ (.string a')).setCell ⟨g,1,none⟩ (.string b')) g 42 #[.string a',.string b']/\ag [g] w ((w.setCell ⟨g,0,none⟩ (.string a')).setCell ⟨g,1,none⟩ (.string b'))/\
   w.cell? ⟨g,0,none⟩=some (.string a)/\w.cell? ⟨g,1,none⟩=some (.string b)/\w.frozen? ⟨g,0,none⟩=false/\w.frozen? ⟨g,1,none⟩=false:=
 ⟨(B.bt 0 _).bt 1 _,((ag.refl _ _).setCell (by simp) _).setCell (by simp) _,B.ab rfl,B.ab rfl,B.frozen 0 (by simp),B.frozen 1 (by simp)⟩
end Go.Proofs.YtmonobkginiajaaGreat.Sh
namespace Go.Proofs.YtmonobkginiajaaGreat.Sh
open Go.RowKit Pk Dk Pg
attribute [local go_sem ↓] Go.wp_at_zero Go.wp_at_succ
theorem kx(a b:Int)(v:Value)(w:World):Calls Tryz.prog 95 #[.pointer none,.agg #[.int .i64 a,.int .i64 b],v] w λe w'=>e=.returned (.int .i64 1)/\Below w.heap.size w w':=by
 have O0:=xh (ae (Below.refl w.heap.size w) (.cells #[.int .i64 a,.int .i64 b] 177));go_enter Tryz.func95,Tryz.ntmps95;go_wp2_with fail;go_ret;exact⟨by first|rfl|simp,O0.o⟩
theorem y9(sp lp:Int)(r:ByteArray)(w:World):Calls Tryz.prog 42 #[.pointer none,.int .i64 sp,.int .i64 lp,.string r] w λe w'=>e=.returned (.tuple #[.string ⟨#[]⟩,.int .i64 1])/\Below w.heap.size w w':=by
 have KM:=xh (λ(W:World) (v:Value)=>kx sp lp v W);obtain⟨z,hz⟩:∃z,w.heap.size=z:=⟨_,rfl⟩;have aI:=ae (Below.refl w.heap.size w) (.cells #[.int .i64 sp,.int .i64 lp] 177);have p0:=az.new w 177 #[.int .i64 sp,.int .i64 lp];have bA:=ae aI (.cells #[.string r] 9);rw[hz]at p0;have x0:=p0.ab (i:=0) rfl;have x1:=p0.ab (i:=1) rfl;have HB:=xh bA;clear aI bA p0;go_enter Tryz.func42,Tryz.ntmps42;go_wp2_with fail;refine(KM.o _ _).mono ?_
 rintro e w4 ⟨rfl,hb⟩;have O4:=xh (ao HB.o hb);clear hb x0 x1;go_wp2_with fail;go_ret2;exact⟨by first|rfl|simp,O4.o⟩
theorem Jp(sp lp:Int)(r v:ByteArray)(w:World):Calls Tryz.prog 46 #[.pointer none,.int .i64 sp,.int .i64 lp,.string r,.string v] w λe w'=>e=.returned (.int .i64 1)/\Below w.heap.size w w':=by
 have KM:=xh (λ(W:World) (v:Value)=>kx sp lp v W);obtain⟨z,hz⟩:∃z,w.heap.size=z:=⟨_,rfl⟩;have aI:=ae (Below.refl w.heap.size w) (.cells #[.int .i64 sp,.int .i64 lp] 177);have p0:=az.new w 177 #[.int .i64 sp,.int .i64 lp];have bA:=ae aI (.cells #[.string r] 9);rw[hz]at p0;have x0:=p0.ab (i:=0) rfl;have x1:=p0.ab (i:=1) rfl;have HB:=xh bA;clear aI bA p0;go_enter Tryz.func46,Tryz.ntmps46;go_wp2_with fail;refine(KM.o _ _).mono ?_
 rintro e w4 ⟨rfl,hb⟩;have O4:=xh (ao HB.o hb);clear hb x0 x1;go_wp2_with fail;go_ret;exact⟨by first|rfl|simp,O4.o⟩
theorem Jq(sp lp:Int)(r:ByteArray)(w:World):Calls Tryz.prog 47 #[.pointer none,.int .i64 sp,.int .i64 lp,.string r] w λe w'=>e=.returned (.int .i64 1)/\Below w.heap.size w w':=by
 have KM:=xh (λ(W:World) (v:Value)=>kx sp lp v W);obtain⟨z,hz⟩:∃z,w.heap.size=z:=⟨_,rfl⟩;have aI:=ae (Below.refl w.heap.size w) (.cells #[.int .i64 sp,.int .i64 lp] 177);have p0:=az.new w 177 #[.int .i64 sp,.int .i64 lp];have bA:=ae aI (.cells #[.string r] 9);rw[hz]at p0;have x0:=p0.ab (i:=0) rfl;have x1:=p0.ab (i:=1) rfl;have HB:=xh bA;clear aI bA p0;go_enter Tryz.func47,Tryz.ntmps47;go_wp2_with fail;refine(KM.o _ _).mono ?_
 rintro e w4 ⟨rfl,hb⟩;have O4:=xh (ao HB.o hb);clear hb x0 x1;go_wp2_with fail;go_ret;exact⟨by first|rfl|simp,O4.o⟩
theorem Fi(sp lp:Int)(r t:ByteArray)(m:Int)(w:World):Calls Tryz.prog 41 #[.pointer none,.int .i64 sp,.int .i64 lp,.string r,.string t,.int .i64 m] w λe w'=>e=.returned (.tuple #[.slice none 0 0,.int .i64 1])/\Below w.heap.size w w':=by
 have KM:=xh (λ(W:World) (v:Value)=>kx sp lp v W);obtain⟨z,hz⟩:∃z,w.heap.size=z:=⟨_,rfl⟩;have aI:=ae (Below.refl w.heap.size w) (.cells #[.int .i64 sp,.int .i64 lp] 177);have p0:=az.new w 177 #[.int .i64 sp,.int .i64 lp];have bA:=ae aI (.cells #[.string r,.string t] 9);rw[hz]at p0;have x0:=p0.ab (i:=0) rfl;have x1:=p0.ab (i:=1) rfl;have HB:=xh bA;clear aI bA p0;go_enter Tryz.func41,Tryz.ntmps41;go_wp2_with fail
 refine(KM.o _ _).mono ?_;rintro e w4 ⟨rfl,hb⟩;have O4:=xh (ao HB.o hb);clear hb x0 x1;go_wp2_with fail;go_ret2;exact⟨by first|rfl|simp,O4.o⟩
theorem Cq(sp lp:Int)(r t:ByteArray)(w:World):Calls Tryz.prog 44 #[.pointer none,.int .i64 sp,.int .i64 lp,.string r,.string t] w λe w'=>e=.returned (.tuple #[.int .i64 0,.int .i64 1])/\Below w.heap.size w w':=by
 have KM:=xh (λ(W:World) (v:Value)=>kx sp lp v W);obtain⟨z,hz⟩:∃z,w.heap.size=z:=⟨_,rfl⟩;have aI:=ae (Below.refl w.heap.size w) (.cells #[.int .i64 sp,.int .i64 lp] 177);have p0:=az.new w 177 #[.int .i64 sp,.int .i64 lp];have bA:=ae aI (.cells #[.string r,.string t] 9);rw[hz]at p0;have x0:=p0.ab (i:=0) rfl;have x1:=p0.ab (i:=1) rfl;have HB:=xh bA;clear aI bA p0;go_enter Tryz.func44,Tryz.ntmps44;go_wp2_with fail
 refine(KM.o _ _).mono ?_;rintro e w4 ⟨rfl,hb⟩;have O4:=xh (ao HB.o hb);clear hb x0 x1;go_wp2_with fail;go_ret2;exact⟨by first|rfl|simp,O4.o⟩
theorem Fj(sp lp:Int)(r t:ByteArray)(w:World):Calls Tryz.prog 43 #[.pointer none,.int .i64 sp,.int .i64 lp,.string r,.string t] w λe w'=>e=.returned (.tuple #[prV (⟨#[]⟩,⟨#[]⟩),.int .i64 1])/\Below w.heap.size w w':=by
 have KM:=xh (λ(W:World) (v:Value)=>kx sp lp v W);obtain⟨z,hz⟩:∃z,w.heap.size=z:=⟨_,rfl⟩;have uh:=ae (Below.refl w.heap.size w) (.cells #[.string ⟨#[]⟩,.string ⟨#[]⟩] 42);have c0:=az.new w 42 #[.string ⟨#[]⟩,.string ⟨#[]⟩];have aI:=ae uh (.cells #[.int .i64 sp,.int .i64 lp] 177);have c1:=c0.alloc (.cells #[.int .i64 sp,.int .i64 lp] 177);have p0:=az.new (w.alloc (.cells #[.string ⟨#[]⟩,.string ⟨#[]⟩] 42)) 177 #[.int .i64 sp,.int .i64 lp]
 have bA:=ae aI (.cells #[.string r,.string t] 9);have c2:=c1.alloc (.cells #[.string r,.string t] 9);have p1:=p0.alloc (.cells #[.string r,.string t] 9);rw[tC,hz]at p0 p1;rw[hz]at c2;have x0:=p0.ab (i:=0) rfl;have x1:=p0.ab (i:=1) rfl;have HB:=xh bA;have C2:=xh c2;clear c0 c1 c2 p1;clear uh;clear aI bA p0;go_enter Tryz.func43,Tryz.ntmps43;go_wp2_with fail;refine(KM.o _ _).mono ?_;rintro e w4 ⟨rfl,hb⟩;have C4:=C2.o.below hb C2.o.lt
 have O4:=ao HB.o hb;obtain⟨B2,o2,k0,k1,z0,z1⟩:=jz (a':=⟨#[]⟩) (b':=⟨#[]⟩) C4;have HZ:=xh hz;have H2:=xh (And.intro B2 (And.intro o2 O4));clear B2 o2 O4 C4 hb x0 x1;go_wp2_with fail;exact bodyPost_ret (Jo rfl rfl H2.o.1) rfl ⟨rfl,((ag.aj (S:=[z]) H2.o.2.2).trans H2.o.2.1).aE (ak _) (λg hg=>by simp at hg;have:=HZ.o;omega)⟩
theorem oJ(r:ByteArray)(w:World):Calls Tryz.prog 38 #[.pointer none,.string r] w λe w'=>e=.returned (.tuple #[.int .i64 0,.int .i64 1])/\Below w.heap.size w w':=by
 have KC:=xh (y9 7 0 r w);go_enter Tryz.func38,Tryz.ntmps38;go_wp2_with fail;refine KC.o.mono ?_;rintro e w1 ⟨rfl,hb⟩;have HB:=xh hb;clear hb;go_wp2_with fail;go_ret2;exact⟨by first|rfl|simp,HB.o⟩
theorem Jr(r:ByteArray)(m:Int)(w:World):Calls Tryz.prog 37 #[.pointer none,.string r,.int .i64 m] w λe w'=>e=.returned (.tuple #[.int .i64 0,.int .i64 1])/\Below w.heap.size w w':=by
 have KC:=xh (oJ r w);go_enter Tryz.func37,Tryz.ntmps37;go_wp2_with fail;refine KC.o.mono ?_;rintro e w1 ⟨rfl,hb⟩;have HB:=xh hb;clear hb;go_wp2_with fail;go_ret2;exact⟨by first|rfl|simp,HB.o⟩
theorem Fk(w:World):Calls Tryz.prog 48 #[.pointer none] w λe w'=>e=.returned (.pointer none)/\Below w.heap.size w w':=by
 go_enter Tryz.func48,Tryz.ntmps48;go_wp2_with fail;go_ret;exact⟨by first|rfl|simp,Below.refl _ _⟩
theorem Cr(w:World):Calls Tryz.prog 49 #[.pointer none] w λe w'=>e=.returned (.bool false)/\Below w.heap.size w w':=by
 go_enter Tryz.func49,Tryz.ntmps49;go_wp2_with fail;go_ret;exact⟨by first|rfl|simp,Below.refl _ _⟩
theorem Fl(w:World):Calls Tryz.prog 45 #[.pointer none] w λe w'=>e=.returned (.tuple #[.pointer none,.int .i64 1])/\Below w.heap.size w w':=by
 go_enter Tryz.func45,Tryz.ntmps45;go_wp2_with fail;go_ret2;exact⟨by first|rfl|simp,Below.refl _ _⟩
end Go.Proofs.YtmonobkginiajaaGreat.Sh
namespace Go.Proofs.YtmonobkginiajaaGreat.Sh
open Go.RowKit Pk Dk Pg
variable{p j:Int}{a:St}
abbrev Vw:=Int->List UInt8×Int
def jg(v:Vw)(p:Int)(b:List UInt8):Vw:=λj=>if j=p then(b,0)else v j
def Js(v:Vw)(p:Int):Vw:=λj=>if j=p then([],3)else v j
theorem vD(v:Vw)(p:Int)(b:List UInt8):jg v p b p=(b,0):=if_pos rfl
theorem jh(v:Vw)(b:List UInt8)(h:j≠p):jg v p b j=v j:=if_neg h
theorem del1_ne(v:Vw)(h:j≠p):Js v p j=v j:=if_neg h
def QS.tZ(q:QS):Nat×List (Option (List UInt8))×Nat:=(q.a.now.length,q.a.bM,q.a.many)
theorem Fo(a:St)(l:Int)(p:List UInt8):(a.ar l p).1.now.length=a.now.length/\(a.ar l p).1.bM=a.bM/\(a.ar l p).1.many=a.many:=by
 unfold St.ar
 split
 .exact⟨rfl,rfl,rfl⟩
 .split
  .exact⟨rfl,rfl,rfl⟩
  .split
   .exact⟨rfl,rfl,rfl⟩
   .exact⟨by show(a.now.set _ _).length=_;rw[bI],rfl,rfl⟩
theorem Fp{l:Int}{p:List UInt8}(h:(a.ar l p).2=11):a.free=0:=by
 unfold St.ar at h
 split at h
 .exact absurd h (by simp)
 .split at h
  .exact absurd h (by simp)
  .split at h
   .rename_i h1;exact h1.2
   .exact absurd h (by simp)
theorem ze(q:QS)(k:Nat):(q.bH k).1.tZ=q.tZ:=by
 unfold QS.bH
 split
 .obtain⟨a,b,c⟩:=Fo q.a (ia q.l k).an (ia q.l k).eC.data.toList
  split<;>exact ja a (ja b c)
 .rfl
theorem Jt{q:QS}{k:Nat}(h:(q.bH k).2=11):q.a.free=0:=by
 unfold QS.bH at h
 split at h
 .split at h
  .exact absurd h (by simp)
  .exact Fp h
 .exact absurd h (by simp)
theorem nt(q:QS):q.ay.1.tZ=q.tZ:=by
 unfold QS.tZ;rw[(fR q).1]
theorem oK(q:QS)(p:Int):(q.aL p).1.tZ=q.tZ:=by
 unfold QS.aL
 split
 .rfl
 .split
  .rfl
  .split
   .exact nt q
   .split
    .rw[ze];exact nt q
    .exact(ze _ _).trans (nt q)
theorem zi{q:QS}(h:(q.aL p).2.2=11):q.a.free=0:=by
 unfold QS.aL at h
 split at h
 .exact absurd h (by simp)
 .split at h
  .rename_i h1;have h:(q.a.aC p).2=11:=h;unfold St.aC at h
   split at h
   .exact absurd h (by simp)
   .exact absurd h (by simp)
  .split at h
   .exact absurd h (by simp)
   .split at h
    .have:=Jt h;rw[(fR q).1]at this;exact this
    .exact absurd h (by simp)
theorem Dr(q:QS)(p:Int):(q.fo p).1.tZ=q.tZ:=by
 unfold QS.fo
 split<;>rfl
theorem Ju(q:QS)(p:Int)(b:ByteArray):(q.dX p b).1.tZ=q.tZ:=by
 unfold QS.dX
 split
 .rfl
 .split<;>rfl
theorem get_mes(q:QS)(p:Int):(q.cC p).1.tZ=q.tZ:=by
 unfold QS.cC
 split
 .exact oK q p
 .rw[Dr];exact oK q p
theorem get_f11{q:QS}(h:(q.cC p).2.2=11):q.a.free=0:=by
 unfold QS.cC at h
 split at h
 .exact zi h
 .exact absurd h (by simp)
theorem Ds(q:QS)(p:Int)(b:ByteArray):(q.ct p b).1.tZ=q.tZ:=by
 unfold QS.ct
 split
 .rfl
 .split
  .exact oK q p
  .rw[Dr,Ju];exact oK q p
theorem put_f11{q:QS}{b:ByteArray}(h:(q.ct p b).2=11):q.a.free=0:=by
 unfold QS.ct at h
 split at h
 .exact absurd h (by simp)
 .split at h
  .exact zi h
  .exact absurd h (by simp)
theorem zj(q:QS)(p:Int):(q.aJ p).1.tZ=q.tZ:=by
 have h:(q.a.aJ p).1.now.length=q.a.now.length/\(q.a.aJ p).1.bM=q.a.bM/\(q.a.aJ p).1.many=q.a.many:=by
  unfold St.aJ
  split
  .exact⟨by show(q.a.now.set _ _).length=_;rw[bI],rfl,rfl⟩
  .exact⟨rfl,rfl,rfl⟩
 obtain⟨a,b,c⟩:=h;unfold QS.aJ
 split
 .rfl
 .split
  .exact ja a (ja b c)
  .split<;>exact ja a (ja b c)
theorem new_mes(q:QS)(p:List UInt8):(q.bh p).1.a.now.length<=q.a.now.length+1/\(q.bh p).1.a.bM=q.a.bM/\(q.bh p).1.a.many=q.a.many:=by
 show(q.a.bh p).1.now.length<=_/\(q.a.bh p).1.bM=_/\(q.a.bh p).1.many=_;unfold St.bh
 split
 .exact⟨Nat.le_succ _,rfl,rfl⟩
 .split
  .exact⟨Nat.le_succ _,rfl,rfl⟩
  .refine⟨?_,rfl,rfl⟩;show(kS q.a.now _ _).length<=_;unfold kS
   split
   .simp
   .rw[bI];omega
theorem Jv(a:St):a.slot<=a.now.length:=by unfold St.slot;exact kC
theorem new_f11{q:QS}{p:List UInt8}(h:(q.bh p).2.2=11):512<=q.a.now.length\/q.a.free=0:=by
 have h:(q.a.bh p).2.2=11:=h;unfold St.bh at h
 split at h
 .exact absurd h (by simp)
 .split at h
  .rename_i h1;exact h1.imp (λh=>au h (Jv q.a)) id
  .exact absurd h (by simp)
theorem Jw{u:Nat}(h:a.now.length+a.kept<=u)(hu:u<a.many):a.free≠0:=by
 have:a.fresh<=a.now.length:=List.countP_le_length;unfold St.free;omega
structure Rd(q:QS)(v o:Vw)(u m:Nat):Prop where
 w:∃n K,Wp q n K
 v:∀j,q.vw j=v j
 o:∀j,q.ov j=o j
 u:q.a.now.length+q.a.kept<=u
 m:m<=q.a.many
section
variable{q:QS}{v o:Vw}{u m:Nat}
theorem Jx{q q':QS}(h:q'.tZ=q.tZ):q'.a.now.length+q'.a.kept=q.a.now.length+q.a.kept/\q'.a.many=q.a.many/\q'.a.bM=q.a.bM:=by
 have h1:q'.a.now.length=q.a.now.length:=congrArg Prod.fst h;have h2:q'.a.bM=q.a.bM:=congrArg (λx=>x.2.1) h;have h3:q'.a.many=q.a.many:=congrArg (λx=>x.2.2) h;refine⟨?_,h3,h2⟩;unfold St.kept;rw[h1,h2]
theorem Rd.step(h:Rd q v o u m){q':QS}{v':Int->List UInt8×Int}(hm:q'.tZ=q.tZ)(hw:∃n K,Wp q' n K)(hv:∀j,q'.vw j=v' j):Rd q' v' o u m:=by
 obtain⟨a,b,c⟩:=Jx hm;exact⟨hw,hv,λj=>(Ir c j).trans (h.o j),by rw[a];exact h.u,by rw[b];exact h.m⟩
theorem Rd.free(h:Rd q v o u m)(h0:q.a.free=0):m<=u:=by
 rcases dZ u m with h1|h1
 .exact absurd h0 (Jw h.u (nM h1 h.m))
 .exact h1
theorem Rd.get(h:Rd q v o u m)(p:Int):Rd (q.cC p).1 v o u m/\
  (((v p).2=0/\(q.cC p).2=(⟨(v p).1.toArray⟩,0))\/(v p=([],3)/\(q.cC p).2=(⟨#[]⟩,3))\/((q.cC p).2=(⟨#[]⟩,11)/\m<=u)):=by
 obtain⟨n,K,w⟩:=h.w;obtain⟨a,b⟩:=w.get p;refine⟨h.step (get_mes q p) ⟨n,_,a.w⟩ (λj=>(a.v j).trans (h.v j)),?_⟩;rw[h.v]at b
 rcases b with b|b|⟨b,c⟩
 .exact .inl b
 .exact .inr (.inl b)
 .exact .inr (.inr ⟨c,h.free (get_f11 (p:=p) (by rw[c]))⟩)
theorem Rd.put(h:Rd q v o u m)(p:Int)(b:ByteArray)(hb:b.size=232)(h0:(v p).2=0):
  ((q.ct p b).2=0/\Rd (q.ct p b).1 (jg v p b.data.toList) o u m)\/((q.ct p b).2=11/\Rd (q.ct p b).1 v o u m/\m<=u):=by
 obtain⟨n,K,w⟩:=h.w;obtain⟨a,c⟩:=w.put p b (by omega)
 rcases c with⟨c1,c2,c3⟩|⟨c1,c2,c3⟩|⟨c1,c2,c3⟩
 .refine .inl ⟨c2,h.step (Ds q p b) ⟨n,_,a.w⟩ (λj=>?_)⟩;rw[c3,n9 hb];unfold jg
  split
  .rfl
  .exact h.v j
 .rw[h.v]at c1;rw[c1]at h0;exact absurd h0 (by decide)
 .exact .inr ⟨c2,h.step (Ds q p b) ⟨n,_,a.w⟩ (λj=>(c3 j).trans (h.v j)),h.free (put_f11 c2)⟩
theorem Rd.new(h:Rd q v o u m)(p:ByteArray)(hb:p.size<=232):
  (∃l:Nat,(q.bh p.data.toList).2=(((l:Nat):Int),0)/\l<=511/\v (l:Nat)=([],3)/\Rd (q.bh p.data.toList).1 (jg v (l:Nat) (dh p.data.toList 232)) o (u+1) m)\/
  ((q.bh p.data.toList).2=(0,11)/\Rd (q.bh p.data.toList).1 v o (u+1) m/\(m<=u\/512<=u)):=by
 obtain⟨n,K,w⟩:=h.w;obtain⟨a,c⟩:=w.new p hb;obtain⟨m1,m2,m3⟩:=new_mes q p.data.toList;have hk:(q.bh p.data.toList).1.a.now.length+(q.bh p.data.toList).1.a.kept<=u+1:=by
  have:=h.u;have hk:(q.bh p.data.toList).1.a.kept=q.a.kept:=by unfold St.kept;rw[m2]
  omega
 rcases c with⟨l,c1,c2,c3,c4⟩|⟨c1,c2⟩
 .refine .inl ⟨l,c1,c2,by rw[<-h.v];exact c3,⟨n,_,a.w⟩,λj=>?_,λj=>(Ir m2 j).trans (h.o j),hk,by rw[m3];exact h.m⟩;rw[c4];unfold jg
  split
  .rfl
  .exact h.v j
 .refine .inr ⟨c1,⟨⟨n,_,a.w⟩,λj=>(c2 j).trans (h.v j),λj=>(Ir m2 j).trans (h.o j),hk,by rw[m3];exact h.m⟩,?_⟩
  rcases new_f11 (q:=q) (p:=p.data.toList) (by rw[c1])with h1|h1
  .have:=h.u;right;omega
  .exact .inl (h.free h1)
theorem Rd.drop(h:Rd q v o u m)(p:Int)(h0:(v p).2=0):(q.aJ p).2=0/\Rd (q.aJ p).1 (Js v p) o u m:=by
 obtain⟨n,K,w⟩:=h.w;obtain⟨a,c⟩:=w.drop p
 rcases c with⟨c1,c2,c3⟩|⟨c1,c2,c3⟩
 .refine⟨c2,h.step (zj q p) ⟨n,_,a.w⟩ (λj=>?_)⟩;rw[c3];unfold Js
  split
  .rfl
  .exact h.v j
 .rw[h.v]at c1;rw[c1]at h0;exact absurd h0 (by simp)
theorem Rd.lt(h:Rd q v o u m)(h0:(v j).2=0):0<=j/\j<512:=by
 obtain⟨n,K,w⟩:=h.w;exact w.vw_lt (by rw[h.v];exact h0)
theorem Rd.err(h:Rd q v o u m)(j:Int):(v j).2=0\/v j=([],3):=by
 rw[<-h.v];exact xe q j
theorem Rd.le(h:Rd q v o u m){u':Nat}(hu:u<=u'):Rd q v o u' m:=⟨h.w,h.v,h.o,au h.u hu,h.m⟩
end
end Go.Proofs.YtmonobkginiajaaGreat.Sh
