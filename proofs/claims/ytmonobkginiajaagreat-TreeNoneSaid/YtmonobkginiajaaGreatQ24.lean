/- packed. -/
import Derived.Test.YtmonobkginiajaaGreatQ23
import Derived.Deep.LoopGhost
set_option linter.all false
set_option maxRecDepth 100000
set_option maxHeartbeats 8000000
namespace Go.Proofs.YtmonobkginiajaaGreat.Sh
open Go.RowKit Pk Dk Pg
open Nd (E aw aT aF aJ cM bg aK bI bj)
attribute [local go_sem ↓] Go.wp_at_zero Go.wp_at_succ
theorem m8 {l:List E} {leaf:Bool} (h:cM l leaf): ∀e∈l,e.key.size≤32∧e.val.size≤40:=fun e he=>by
 obtain ⟨i,hi,rfl⟩:=List.mem_iff_getElem.1 he;have:=(h i hi l[i] (List.getElem?_eq_getElem hi)).1;exact ⟨this.1,this.2.1⟩
theorem qV.light {s:Step} (h:qV s):AW s.l:=⟨by have:=h.2.1; omega,m8 h.1⟩
theorem qV.fit {s:Step} (h:qV s) (hl:s.leaf=false):Fit s:=⟨h.light,by have:=h.2.1; omega,h.2.2 hl⟩
theorem PB.pt {w w':World} {I:Ix} {F:List Nat} {q:QS} {n K b:Nat} (hb:w.heap.size≤b) (h:PB b w w' I F q n K):PT w w' I F q n K:=by
 obtain ⟨F',S,P,o,f,g⟩:=h;exact ⟨F',P,o.mono (fun x hx hl=>(f x hx).elim id (fun h=>by omega)),fun x hx=>(g x hx).imp id (fun h=>by omega)⟩
theorem uS (q:QS) (key value:ByteArray):(q.gm key value).2.1.key=key∧(q.gm key value).2.1.val.size≤40:=by
 unfold QS.gm
 split
 ·exact ⟨rfl,by assumption⟩
 ·exact ⟨rfl,Nat.zero_le _⟩
def mr (l:List E) (key:ByteArray):List E:=if bI l key=true then l.eraseIdx (aK l key) else l
def QS.iY (q:QS) (l:List E) (key:ByteArray):QS×Int:=if bI l key=true then q.mq (l.getD (aK l key) Nd.E.zero) else (q,0)
def QS.Ma (q:QS) (key value:ByteArray) (x:Step) (i:Nat) (up:List Step):QS×Int:=
 if (q.gm key value).2.2≠0 then ((q.gm key value).1,(q.gm key value).2.2)
 else eF (up.length+1) ({x with l:=x.l.insertIdx i (q.gm key value).2.1}::up) (q.gm key value).1
def QS.jj (q:QS) (key value:ByteArray):QS×Int:=
 if 32<key.size∨1024<value.size then (q,4)
 else if (q.dq key).2.2≠0 then ((q.dq key).1,(q.dq key).2.2)
 else if ((q.dq key).1.iY (fT (q.dq key).2.1).l key).2≠0 then (q.dq key).1.iY (fT (q.dq key).2.1).l key
 else ((q.dq key).1.iY (fT (q.dq key).2.1).l key).1.Ma key value {fT (q.dq key).2.1 with l:=mr (fT (q.dq key).2.1).l key} (aK (fT (q.dq key).2.1).l key) (q.dq key).2.1.dropLast.reverse
theorem Bc {w:World} {tb:Nat} {I:Ix} {F:List Nat} {q:QS} {n Kz:Nat} (h:TQ w tb I F q n Kz) (LS:Kz≤999999999000) (key value:ByteArray) (hks:key.size≤100000) (hvs:value.size≤100000):
  Calls Tryz.prog 25 #[tp tb,.string key,.string value] w fun e w'=>e= .returned (.int .i64 (q.jj key value).2)∧PT w w' I F (q.jj key value).1 n (Kz+100):=by
 have KW:=xh (uL h (by omega) key);have HT:=xh h;have HK:=xh LS;have dS:=D8 (q:=q) (key:=key);unfold QS.jj;generalize q.dq key=R at *;obtain ⟨q1,steps,er⟩:=R;dsimp only at *;unfold tp at *
 by_cases hk32:key.size≤32
 ·by_cases hv:value.size≤1024
  ·rw [if_neg (by omega)];have s5: ¬(32<(key.size:Int)):=by omega
   have s6: ¬(1024<(value.size:Int)):=by omega
   by_cases he:er=0
   ·subst he;obtain ⟨pre,x,rfl,nS,hnl,mf,hlen⟩:=dS rfl;rw [if_neg (by simp),show fT (pre++[x])=x from by unfold fT; simp,show (pre++[x]).dropLast=pre from by simp];have hxo:=mf x (by simp);obtain ⟨hm,hl57,_⟩:=hxo;have HLX:=xh (m8 hm);have hm:=xh hm;have ln:=xh (show ∀s∈pre,Fit s from fun s hs=>(mf s (by simp [hs])).fit (hnl s hs));have n9:=xh hlen;clear dS hnl mf nS h
    obtain ⟨RR,bf⟩: ∃RR,(if (q1.iY x.l key).2≠0 then q1.iY x.l key else (q1.iY x.l key).1.Ma key value {x with l:=mr x.l key} (aK x.l key) pre.reverse)=RR:=⟨_,rfl⟩;rw [bf];have eh:=xh bf;clear bf;go_enter Tryz.func25,Tryz.ntmps25;go_wp2_with fail;refine KW.out.mono ?_;rintro e w1 ⟨v,L,rfl,SA,kH,P1,o1⟩;have Mb:=SA.last kH;obtain ⟨Lp,A,c,g,cc,rfl,ji,rfl,hbg,Cc,rl,fi,IY,S1,f1⟩:=Mb
    have H1:=xh (show TQ w1 tb I F q1 n (Kz+16)∧aC w1 w.heap.size (.slice (some ⟨g,0,none⟩) (pre.length+1) cc) (Lp++[⟨x,A,c⟩])∧OB w.heap.size w w1 F F∧w.heap.size≤w1.heap.size from ⟨HT.out.next o1 P1,SA,(OB.refl w.heap.size w F).step (Nat.le_refl _) o1 (fun _ hg=> .inl hg),o1.size⟩);have nF:=xh (show Lp.length=pre.length from by rw [←ji,List.length_map]);have LX:=xh ji;have S1:=xh S1;have x1:w1.cell? ⟨g,pre.length*4+1,none⟩=some (.bool x.leaf):=fi 1 (by omega)
    have x2:w1.cell? ⟨g,pre.length*4+1+1,none⟩=some (.slice A x.l.length c):=fi 2 (by omega);have s1:IntKind.i64.wrap (((pre.length+1:Nat):Int)-1)=(pre.length:Int):=by rw [show ((pre.length+1:Nat):Int)-1=(pre.length:Int) by omega]; exact IntWalk.i64_in _ (by omega)
    have s2:(pre.length:Int)<((pre.length+1:Nat):Int):=by omega
    have KF:=xh (Nd.qP x.leaf A x.l.length c x.l key (Nd.aG.aw S1.out).2 (by omega) hm.out);unfold aT at KF;clear SA kH P1 o1 ji fi IY f1;go_wp2_with fail;refine KF.out.mono ?_;rintro e w3 ⟨rfl,eG⟩;have O3:=xh eG
    have H3:=xh (show TQ w3 tb I F q1 n (Kz+16)∧aC w3 w.heap.size (.slice (some ⟨g,0,none⟩) (pre.length+1) cc) (Lp++[⟨x,A,c⟩])∧OB w.heap.size w w3 F F∧w.heap.size≤w3.heap.size from ⟨H1.out.1.below O3.out,H1.out.2.1.below O3.out,H1.out.2.2.1.below O3.out,Nat.le_trans H1.out.2.2.2 O3.out.size⟩);have S3:=xh (S1.out.below eG);have u2:w3.cell? ⟨g,pre.length*4+1+1,none⟩=some (.slice A x.l.length c):=(O3.out.cell (p:=⟨g,pre.length*4+1+1,none⟩) (da x2)).trans x2
    clear x1 x2 eG H1 S1 O3
    by_cases hh:bI x.l key=true
    ·skip
     obtain ⟨ex,hex⟩:=uO hh;have hfx:x.l.getD (aK x.l key) Nd.E.zero=ex:=by rw [List.getD_eq_getElem?_getD,hex]; rfl
     have bf:=eh.out;unfold QS.iY mr at bf;rw [if_pos hh,if_pos hh,hfx] at bf;generalize bI x.l key=hb at *;subst hh;have lY:aK x.l key<x.l.length:=(List.getElem?_eq_some_iff.1 hex).1;generalize aK x.l key=at_ at *;obtain ⟨ad,qU,eM⟩:=(Nd.aG.aw S3.out).2.2 at_ ex hex;obtain ⟨ga,ca,uM,wO,_⟩:=S3.out.form (by omega) (by omega);injection wO with e1 ezz e3
     clear ezz;subst e1 e3;injection qU with qU
     subst qU;rw [Nd.eX,Nat.zero_add] at eM;have u3:=eM.c0;have u4:=eM.c1;have u5:=eM.c2;dsimp only at u4 u5;have KA:=xh (xy H3.out.1 (by omega) ex);unfold E.agg tp at KA;have hflI:(at_:Int)<(x.l.length:Int):=by omega
     generalize q1.mq ex=R2 at *;obtain ⟨q2,e2⟩:=R2;dsimp only at *;have eh:=xh bf;clear eM hex hfx bf;go_wp2_with fail;refine KA.out.mono ?_;rintro e w4 ⟨rfl,P4,o4⟩
     have H4:=xh (show TQ w4 tb I F q2 n (Kz+21)∧aC w4 w.heap.size (.slice (some ⟨g,0,none⟩) (pre.length+1) cc) (Lp++[⟨x,some ⟨ga,0,none⟩,c⟩])∧OB w.heap.size w w4 F F∧w.heap.size≤w4.heap.size from ⟨H3.out.1.next o4 P4,H3.out.2.1.pL H3.out.1.2 o4,H3.out.2.2.1.step (Nat.le_refl _) o4 (fun _ hg=> .inl hg),Nat.le_trans H3.out.2.2.2 o4.size⟩);clear P4 o4 u2 u3 u4 u5 S3
     by_cases sE:e2=0
     ·subst sE;have bf:=eh.out;rw [if_neg (show ¬((0:Int)≠0) by simp)] at bf;have eh:=xh bf;have SX:=H4.out.2.1.e ⟨x,some ⟨ga,0,none⟩,c⟩ (by simp);have KD:=xh (Nd.mi SX.1 at_ lY (show x.l.length≤100000 by omega));have u2:=H4.out.2.1.cell (k:=Lp.length) (Z:=⟨x,some ⟨ga,0,none⟩,c⟩) (by rw [List.getElem?_append_right (Nat.le_refl _),Nat.sub_self]; rfl) 2 (by omega);rw [nF.out] at u2
      replace u2:w4.cell? ⟨g,pre.length*4+1+1,none⟩=some (.slice (some ⟨ga,0,none⟩) x.l.length c):=u2
      have vE:=xh (show (x.l.eraseIdx at_).length=x.l.length-1 from by rw [List.length_eraseIdx_of_lt lY]);have s7:IntKind.i64.wrap ((at_:Int)+1)=(at_:Int)+1:=IntWalk.i64_in _ (by omega);clear SX bf;go_wp2_with fail;refine KD.out.mono ?_;rintro e w5 ⟨rfl,S5,o5⟩;obtain ⟨SP,sx,sz⟩:=H4.out.2.1.put (Lp:=Lp) (Ls:=[]) (x.l.eraseIdx at_) (A':=some ⟨ga,0,none⟩) (c':=c) (by rw [vE.out]; exact S5) o5 (fun z hz=> .inl hz) H4.out.2.2.2;rw [nF.out] at SP sx sz;rw [vE.out] at SP
      replace sx:w5.cell? ⟨g,pre.length*4+1+1,none⟩=some (.slice (some ⟨ga,0,none⟩) x.l.length c):=sx
      replace sz:w5.frozen? ⟨g,pre.length*4+1+1,none⟩=false:=sz
      have O5:ag (g::ah (.slice (some ⟨ga,0,none⟩) x.l.length c)) w4 (w5.setCell ⟨g,pre.length*4+1+1,none⟩ (.slice (some ⟨ga,0,none⟩) (x.l.length-1) c)):=(o5.mono (fun x hx _=>List.mem_cons_of_mem _ hx)).setCell (by simp) _;have ik:=H4.out.2.1.off H4.out.1.2;have pM:=H4.out.2.1.tree H4.out.1.1
      have H5:=xh (show TQ (w5.setCell ⟨g,pre.length*4+1+1,none⟩ (.slice (some ⟨ga,0,none⟩) (x.l.length-1) c)) tb I F q2 n (Kz+21)∧aC (w5.setCell ⟨g,pre.length*4+1+1,none⟩ (.slice (some ⟨ga,0,none⟩) (x.l.length-1) c)) w.heap.size (.slice (some ⟨g,0,none⟩) (pre.length+1) cc) (Lp++[⟨{x with l:=x.l.eraseIdx at_},some ⟨ga,0,none⟩,c⟩])∧OB w.heap.size w (w5.setCell ⟨g,pre.length*4+1+1,none⟩ (.slice (some ⟨ga,0,none⟩) (x.l.length-1) c)) F F∧w.heap.size≤(w5.setCell ⟨g,pre.length*4+1+1,none⟩ (.slice (some ⟨ga,0,none⟩) (x.l.length-1) c)).heap.size from
       ⟨H4.out.1.only O5 (fun z hz hm=>by
        rcases List.mem_cons.1 hz with h1 | h1<;>rcases List.mem_cons.1 hm with h2 | h2
        ·exact pM.1 (by rw [←h1,h2]; simp [ah])
        ·exact pM.2 ⟨x,some ⟨ga,0,none⟩,c⟩ (by simp) (by rw [←h1]; exact h2)
        ·exact ik.1 z (by rw [h2]; simp [ah]) h1
        ·exact ik.2 ⟨x,some ⟨ga,0,none⟩,c⟩ (by simp) z h2 h1),SP,H4.out.2.2.1.own O5 (fun z hz=>by
        rcases List.mem_cons.1 hz with h2 | h2
        ·rw [h2]; exact H4.out.2.1.f g (by simp [ah])
        ·exact (H4.out.2.1.e ⟨x,some ⟨ga,0,none⟩,c⟩ (by simp)).2 z h2),Nat.le_trans H4.out.2.2.2 O5.size⟩)
      clear SP S5 o5 O5 ik pM;have HLY:=xh (show ∀e∈x.l.eraseIdx at_,e.key.size≤32∧e.val.size≤40 from fun e he=>HLX.out e (List.mem_of_mem_eraseIdx he));obtain ⟨w6,Ft⟩: ∃w6,(w5.setCell ⟨g,pre.length*4+1+1,none⟩ (.slice (some ⟨ga,0,none⟩) (x.l.length-1) c))=w6:=⟨_,rfl⟩;rw [Ft] at H5
      go_upto_region 13 with fail
      clear Ft sx sz u2;have bf:=eh.out;have hya:at_≤(x.l.eraseIdx at_).length:=by rw [vE.out]; omega
      have hyn:(x.l.eraseIdx at_).length≤57:=by rw [vE.out]; omega
      generalize hY:({x with l:=x.l.eraseIdx at_}:Step)=y at *;have hyl:y.l=x.l.eraseIdx at_:=by rw [←hY]
      rw [←hyl] at HLY hya hyn;generalize hAY:some (⟨ga,0,none⟩:Addr)=AY at H5;obtain ⟨cY,rfl⟩: ∃cY,cY=c:=⟨_,rfl⟩;have eh:=xh bf;clear hyl hY hAY bf;have KT:=xh (xA H5.out.1 (by omega) key value hv);have kI:=uS q2 key value;have bf:=eh.out;unfold QS.Ma at bf;generalize q2.gm key value=R3 at *;obtain ⟨q3,en,e3⟩:=R3;dsimp only at *;obtain ⟨rfl,Ea⟩:=kI;have HEN:=xh (And.intro hk32 Ea);have eh:=xh bf;unfold E.agg tp at KT;clear bf Ea
      go_wp2_with fail;refine KT.out.mono ?_;rintro e w4 ⟨rfl,P4⟩;obtain ⟨F4,T4,o4,f4⟩:=P4.tq H5.out.1;have H4:=xh (show TQ w4 tb I F4 q3 n (Kz+26)∧aC w4 w.heap.size (.slice (some ⟨g,0,none⟩) (pre.length+1) cc) (Lp++[⟨y,AY,cY⟩])∧OB w.heap.size w w4 F F4∧w.heap.size≤w4.heap.size from ⟨T4,H5.out.2.1.pL H5.out.1.2 o4,H5.out.2.2.1.step (Nat.le_refl _) o4 f4,Nat.le_trans H5.out.2.2.2 o4.size⟩);clear P4 o4 f4 T4
      by_cases Fq:e3=0
      ·subst Fq;have bf:=eh.out;rw [if_neg (show ¬((0:Int)≠0) by simp)] at bf;rw [List.length_reverse] at bf;have eh:=xh bf;clear bf;obtain ⟨w8,vX⟩: ∃w8,(w4.alloc (.cells #[.string en.key,.string en.val,.int .i64 en.aH] 111)).drew=w8:=⟨_,rfl⟩;have uT:Below w4.heap.size w4 w8:=by rw [←vX]; exact (ae (Below.refl _ _) _).drew
       have Mc:ax w8 w4.heap.size 111 #[.string en.key,.string en.val,.int .i64 en.aH]:=by rw [←vX]; exact (ax.new _ _ _).drew
       have H8:=xh (show TQ w8 tb I F4 q3 n (Kz+26)∧aC w8 w.heap.size (.slice (some ⟨g,0,none⟩) (pre.length+1) cc) (Lp++⟨y,AY,cY⟩::[])∧OB w.heap.size w w8 F F4∧w.heap.size≤w8.heap.size∧ax w8 w4.heap.size 111 #[.string en.key,.string en.val,.int .i64 en.aH] from
        ⟨H4.out.1.below uT,H4.out.2.1.below uT,H4.out.2.2.1.below uT,Nat.le_trans H4.out.2.2.2 uT.size,Mc⟩)
       have Hn:=xh (show (fun W=>W.cell? ⟨w4.heap.size,0,none⟩=some (.string en.key)∧W.cell? ⟨w4.heap.size,1,none⟩=some (.string en.val)∧W.cell? ⟨w4.heap.size,2,none⟩=some (.int .i64 en.aH)) w8 from And.intro (Mc.ab (i:=0) rfl) (And.intro (Mc.ab (i:=1) rfl) (Mc.ab (i:=2) rfl)));have x8:w8.cell? ⟨g,pre.length*4+2,none⟩=some (.slice AY y.l.length cY):=by
        have h1:=H8.out.2.1.cell (k:=Lp.length) (Z:=⟨y,AY,cY⟩) (by rw [List.getElem?_append_right (Nat.le_refl _),Nat.sub_self]; rfl) 2 (by omega);rw [nF.out] at h1;exact h1
       obtain ⟨w9,LY⟩: ∃w9,w8.alloc (.cells #[.string en.key,.string en.val,.int .i64 en.aH] 111)=w9:=⟨_,rfl⟩;have gv:Below w8.heap.size w8 w9:=by rw [←LY]; exact ae (Below.refl _ _) _
       have BN9:ax w9 w8.heap.size 111 #[.string en.key,.string en.val,.int .i64 en.aH]:=by rw [←LY]; exact ax.new _ _ _
       have BZ9:w9.frozen? ⟨w8.heap.size,3,none⟩=false:=by rw [←LY]; exact World.frozen?_alloc_at (w:=w8) _ _ w8.heap.size 3 rfl
       have Md:=H8.out.2.2.2.2.below gv H8.out.2.2.2.2.lt;have Fs:=xh (show (fun W=>W.cell? ⟨w4.heap.size,0,none⟩=some (.string en.key)∧W.cell? ⟨w4.heap.size,1,none⟩=some (.string en.val)∧W.cell? ⟨w4.heap.size,2,none⟩=some (.int .i64 en.aH)) w9 from And.intro (Md.ab (i:=0) rfl) (And.intro (Md.ab (i:=1) rfl) (Md.ab (i:=2) rfl)));have x9:w9.cell? ⟨g,pre.length*4+2,none⟩=some (.slice AY y.l.length cY):=(gv.cell (p:=⟨g,pre.length*4+2,none⟩) (da x8)).trans x8
       have H9:=xh (show TQ w9 tb I F4 q3 n (Kz+26)∧aC w9 w.heap.size (.slice (some ⟨g,0,none⟩) (pre.length+1) cc) (Lp++⟨y,AY,cY⟩::[])∧OB w.heap.size w w9 F F4∧w.heap.size≤w9.heap.size∧ax w9 w4.heap.size 111 #[.string en.key,.string en.val,.int .i64 en.aH] from
        ⟨H8.out.1.below gv,H8.out.2.1.below gv,H8.out.2.2.1.below gv,Nat.le_trans H8.out.2.2.2.1 gv.size,Md⟩)
       have rM:=xh (show (y.l.insertIdx at_ en).length=y.l.length+1 from by rw [List.length_insertIdx,if_pos (by omega)]);have SY:=H9.out.2.1.e ⟨y,AY,cY⟩ (by simp);have KI:=xh (Nd.mj (w:=w9) SY.1 en (g2:=w8.heap.size) (cc:=1) BN9 (show y.l.length≤100000 by omega) (fun hm=>by have:=(H8.out.2.1.e ⟨y,AY,cY⟩ (by simp)).1.lt _ hm; omega) at_ (show at_≤y.l.length by omega) BZ9)
       have zf:=xh (show ∀W,ag (ah (.slice AY y.l.length cY)) w9 W→(fun W=>W.cell? ⟨w4.heap.size,0,none⟩=some (.string en.key)∧W.cell? ⟨w4.heap.size,1,none⟩=some (.string en.val)∧W.cell? ⟨w4.heap.size,2,none⟩=some (.int .i64 en.aH)) W from fun W o=>by
        have hB:=H9.out.2.2.2.2.only o (fun hm=>by have:=(H4.out.2.1.e ⟨y,AY,cY⟩ (by simp)).1.lt _ hm; omega);exact ⟨hB.ab (i:=0) rfl,hB.ab (i:=1) rfl,hB.ab (i:=2) rfl⟩)
       clear SY BN9 BZ9 gv Mc Md uT;go_wp2_with fail;refine wp_region_held_drew (S:=fun W=>W.cell? ⟨w4.heap.size,0,none⟩=some (.string en.key)∧W.cell? ⟨w4.heap.size,1,none⟩=some (.string en.val)∧W.cell? ⟨w4.heap.size,2,none⟩=some (.int .i64 en.aH)) (by kernel_rfl) (by rw [vX]; exact Hn.out) (fun aj=>?_);rw [vX];clear vX;refine bR [(0,86),(1,87),(2,88),(3,89),(4,90),(6,92),(7,93)] ?_
       iterate 7 (refine zt ?_; try simp only [Act.put,pa,pb,pc])
       refine bS ?_;refine wpAnyH_ready (rs:=[5,8]) (by kernel_rfl) (by simp) ?_;refine AllReadyH.cons (o:=⟨some 91,_,_,_,_,_⟩) rfl (fun K hK=>?_) (AllReadyH.cons (o:=⟨some 94,_,_,_,_,_⟩) rfl (fun K hK=>?_) AllReadyH.nil)
       ·skip
        go_simp;refine hK.out _ _ (Hn.out) (fun aj=>?_)
        try simp only [Act.put,pa,pb,pc]
        refine cA (i:=8) (o:=⟨some 94,_,_,_,_,_⟩) fun K hK=>?_;go_simp;refine hK.out _ _ (Fs.out) (fun aj=>?_)
        try simp only [Act.put,pa,pb,pc]
        refine cA (i:=9) (o:=⟨some 95,_,_,_,_,_⟩) fun K hK=>?_;go_simp
        go_at_call 74
        refine KI.out.mono ?_;rintro e jo ⟨A',c',rfl,pH,kk,f10⟩;have pH:=xh pH;have kk:=xh kk;have f10:=xh f10;have uQ:=xh (zf.out jo kk.out);go_simp;refine hK.out _ _ (uQ.out) (fun aj=>?_)
        try simp only [Act.put,pa,pb,pc]
        refine bR [(10,96),(11,97),(12,98)] ?_
        iterate 3 (refine zt ?_; try simp only [Act.put,pa,pb,pc])
        refine bS ?_;refine cA (i:=13) (o:=⟨none,_,_,_,_,_⟩) fun K hK=>?_;go_simp;obtain ⟨SP,sx,sz⟩:=H9.out.2.1.put (y.l.insertIdx at_ en) (A':=A') (c':=c') (by rw [rM.out]; exact pH.out) kk.out (by rw [rM.out]; exact f10.out) H9.out.2.2.2.1;rw [nF.out] at SP sx sz;rw [rM.out] at SP;have SP:=xh SP
        replace sx:jo.cell? ⟨g,pre.length*4+2,none⟩=some (.slice AY y.l.length cY):=sx
        have nt:=xh (show ag (g::ah (.slice AY y.l.length cY)) w9 (jo.setCell ⟨g,pre.length*4+2,none⟩ (.slice A' (y.l.length+1) c')) from (kk.out.mono (fun x hx _=>List.mem_cons_of_mem _ hx)).setCell (by simp) _);have Ho:=(H9.out.2.1.e ⟨y,AY,cY⟩ (by simp)).1
        have kI:=((H9.out.2.2.2.2.only kk.out (fun hm=>by have:=(H4.out.2.1.e ⟨y,AY,cY⟩ (by simp)).1.lt _ hm; omega)).aH (p:=⟨g,pre.length*4+2,none⟩) (fun e=>cv H9.out.2.1.s H9.out.2.2.2.2 (by decide) (by simp [ah]; exact e)) (.slice A' (y.l.length+1) c'));have qX:=xh (And.intro (kI.ab (i:=0) rfl) (And.intro (kI.ab (i:=1) rfl) (kI.ab (i:=2) rfl)));clear Ho kI;go_simp;refine hK.out _ _ (qX.out) (fun aj=>?_)
        try simp only [Act.put,pa,pb,pc]
        refine wpAnyH_done (by kernel_rfl) ?_ _;go_wp2_with fail;have hT:TQ (jo.setCell ⟨g,pre.length*4+1+1,none⟩ (.slice A' (y.l.length+1) c')) tb I F4 q3 n (Kz+26):=by
         have ik:=H9.out.2.1.off H9.out.1.2;have pM:=H9.out.2.1.tree H9.out.1.1;exact H9.out.1.only nt.out (fun z hz hm=>by
          rcases List.mem_cons.1 hz with h1 | h1<;>rcases List.mem_cons.1 hm with h2 | h2
          ·exact pM.1 (by rw [←h1,h2]; simp [ah])
          ·exact pM.2 ⟨y,AY,cY⟩ (by simp) (by rw [←h1]; exact h2)
          ·exact ik.1 z (by rw [h2]; simp [ah]) h1
          ·exact ik.2 ⟨y,AY,cY⟩ (by simp) z h2 h1)
        have hO:OB w.heap.size w (jo.setCell ⟨g,pre.length*4+1+1,none⟩ (.slice A' (y.l.length+1) c')) F F4:=H9.out.2.2.1.own nt.out (fun z hz=>by
         rcases List.mem_cons.1 hz with h2 | h2
         ·rw [h2]; exact H9.out.2.1.f g (by simp [ah])
         ·exact (H9.out.2.1.e ⟨y,AY,cY⟩ (by simp)).2 z h2)
        have Bb:w.heap.size≤(jo.setCell ⟨g,pre.length*4+1+1,none⟩ (.slice A' (y.l.length+1) c')).heap.size:=Nat.le_trans H9.out.2.2.2.1 nt.out.size;have SQ:aC (jo.setCell ⟨g,pre.length*4+1+1,none⟩ (.slice A' (y.l.length+1) c')) w.heap.size (.slice (some ⟨g,0,none⟩) (pre.length+1) cc) (Lp++[(⟨{y with l:=y.l.insertIdx at_ en},A',c'⟩:SM)]):=by
         exact SP.out
        have pN:=eh.out;subst pN;have KR:=gX (pre.length+1) pre {y with l:=y.l.insertIdx at_ en} (Nat.le_refl _) hT (by have:=HK.out; have:=n9.out; omega) SQ Bb (by rw [List.map_append,LX.out]; rfl) ln.out
         ⟨by show (y.l.insertIdx at_ _).length≤90; rw [rM.out]; omega,fun e he=>by
          rcases (List.mem_insertIdx (by omega)).1 he with rfl | he
          ·exact HEN.out
          ·exact HLY.out e he⟩ (by have:=n9.out; omega)
        refine KR.mono ?_;rintro e w12 ⟨rfl,uR⟩;have uR:=xh uR;have HO:=xh hO;clear hT hO Bb SQ KR;go_wp2_with fail;go_ret;exact ⟨by first | rfl | simp,((HO.out.trans uR.out).pt (Nat.le_refl _)).le (by have:=n9.out; omega)⟩
       ·skip
        go_simp;refine hK.out _ _ (Fs.out) (fun aj=>?_)
        try simp only [Act.put,pa,pb,pc]
        refine cA (i:=5) (o:=⟨some 91,_,_,_,_,_⟩) fun K hK=>?_;go_simp;refine hK.out _ _ (Fs.out) (fun aj=>?_)
        try simp only [Act.put,pa,pb,pc]
        refine cA (i:=9) (o:=⟨some 95,_,_,_,_,_⟩) fun K hK=>?_;go_simp
        go_at_call 74
        refine KI.out.mono ?_;rintro e jo ⟨A',c',rfl,pH,kk,f10⟩;have pH:=xh pH;have kk:=xh kk;have f10:=xh f10;have uQ:=xh (zf.out jo kk.out);go_simp;refine hK.out _ _ (uQ.out) (fun aj=>?_)
        try simp only [Act.put,pa,pb,pc]
        refine bR [(10,96),(11,97),(12,98)] ?_
        iterate 3 (refine zt ?_; try simp only [Act.put,pa,pb,pc])
        refine bS ?_;refine cA (i:=13) (o:=⟨none,_,_,_,_,_⟩) fun K hK=>?_;go_simp;obtain ⟨SP,sx,sz⟩:=H9.out.2.1.put (y.l.insertIdx at_ en) (A':=A') (c':=c') (by rw [rM.out]; exact pH.out) kk.out (by rw [rM.out]; exact f10.out) H9.out.2.2.2.1;rw [nF.out] at SP sx sz;rw [rM.out] at SP;have SP:=xh SP
        replace sx:jo.cell? ⟨g,pre.length*4+2,none⟩=some (.slice AY y.l.length cY):=sx
        have nt:=xh (show ag (g::ah (.slice AY y.l.length cY)) w9 (jo.setCell ⟨g,pre.length*4+2,none⟩ (.slice A' (y.l.length+1) c')) from (kk.out.mono (fun x hx _=>List.mem_cons_of_mem _ hx)).setCell (by simp) _);have Ho:=(H9.out.2.1.e ⟨y,AY,cY⟩ (by simp)).1
        have kI:=((H9.out.2.2.2.2.only kk.out (fun hm=>by have:=(H4.out.2.1.e ⟨y,AY,cY⟩ (by simp)).1.lt _ hm; omega)).aH (p:=⟨g,pre.length*4+2,none⟩) (fun e=>cv H9.out.2.1.s H9.out.2.2.2.2 (by decide) (by simp [ah]; exact e)) (.slice A' (y.l.length+1) c'));have qX:=xh (And.intro (kI.ab (i:=0) rfl) (And.intro (kI.ab (i:=1) rfl) (kI.ab (i:=2) rfl)));clear Ho kI;go_simp;refine hK.out _ _ (qX.out) (fun aj=>?_)
        try simp only [Act.put,pa,pb,pc]
        refine wpAnyH_done (by kernel_rfl) ?_ _;go_wp2_with fail;have hT:TQ (jo.setCell ⟨g,pre.length*4+1+1,none⟩ (.slice A' (y.l.length+1) c')) tb I F4 q3 n (Kz+26):=by
         have ik:=H9.out.2.1.off H9.out.1.2;have pM:=H9.out.2.1.tree H9.out.1.1;exact H9.out.1.only nt.out (fun z hz hm=>by
          rcases List.mem_cons.1 hz with h1 | h1<;>rcases List.mem_cons.1 hm with h2 | h2
          ·exact pM.1 (by rw [←h1,h2]; simp [ah])
          ·exact pM.2 ⟨y,AY,cY⟩ (by simp) (by rw [←h1]; exact h2)
          ·exact ik.1 z (by rw [h2]; simp [ah]) h1
          ·exact ik.2 ⟨y,AY,cY⟩ (by simp) z h2 h1)
        have hO:OB w.heap.size w (jo.setCell ⟨g,pre.length*4+1+1,none⟩ (.slice A' (y.l.length+1) c')) F F4:=H9.out.2.2.1.own nt.out (fun z hz=>by
         rcases List.mem_cons.1 hz with h2 | h2
         ·rw [h2]; exact H9.out.2.1.f g (by simp [ah])
         ·exact (H9.out.2.1.e ⟨y,AY,cY⟩ (by simp)).2 z h2)
        have Bb:w.heap.size≤(jo.setCell ⟨g,pre.length*4+1+1,none⟩ (.slice A' (y.l.length+1) c')).heap.size:=Nat.le_trans H9.out.2.2.2.1 nt.out.size;have SQ:aC (jo.setCell ⟨g,pre.length*4+1+1,none⟩ (.slice A' (y.l.length+1) c')) w.heap.size (.slice (some ⟨g,0,none⟩) (pre.length+1) cc) (Lp++[(⟨{y with l:=y.l.insertIdx at_ en},A',c'⟩:SM)]):=by
         exact SP.out
        have pN:=eh.out;subst pN;have KR:=gX (pre.length+1) pre {y with l:=y.l.insertIdx at_ en} (Nat.le_refl _) hT (by have:=HK.out; have:=n9.out; omega) SQ Bb (by rw [List.map_append,LX.out]; rfl) ln.out
         ⟨by show (y.l.insertIdx at_ _).length≤90; rw [rM.out]; omega,fun e he=>by
          rcases (List.mem_insertIdx (by omega)).1 he with rfl | he
          ·exact HEN.out
          ·exact HLY.out e he⟩ (by have:=n9.out; omega)
        refine KR.mono ?_;rintro e w12 ⟨rfl,uR⟩;have uR:=xh uR;have HO:=xh hO;clear hT hO Bb SQ KR;go_wp2_with fail;go_ret;exact ⟨by first | rfl | simp,((HO.out.trans uR.out).pt (Nat.le_refl _)).le (by have:=n9.out; omega)⟩
      ·have bf:=eh.out;rw [if_pos Fq] at bf;subst bf;have hq:(e3 != 0)=true:=by rw [bne_iff_ne]; exact Fq
       have jm:(e3==0)=false:=by rw [beq_eq_false_iff_ne]; exact Fq
       go_wp2_with fail;go_ret;exact ⟨by first | rfl | simp,(((H4.out.2.2.1.below (ae (Below.refl _ _) _)).pb (H4.out.1.2.below (ae (Below.refl _ _) _))).pt (Nat.le_refl _)).le (by omega)⟩
     ·have bf:=eh.out;rw [if_pos sE] at bf;subst bf;have hq:(e2 != 0)=true:=by rw [bne_iff_ne]; exact sE
      have jm:(e2==0)=false:=by rw [beq_eq_false_iff_ne]; exact sE
      go_wp2_with fail;go_ret;exact ⟨by first | rfl | simp,((H4.out.2.2.1.pb H4.out.1.2).pt (Nat.le_refl _)).le (by omega)⟩
    ·have hh2:bI x.l key=false:=by simpa using hh
     have bf:=eh.out;unfold QS.iY mr at bf;rw [if_neg hh,if_neg hh,if_neg (show ¬((0:Int)≠0) by simp)] at bf;generalize bI x.l key=hb at *;subst hh2;have hya:aK x.l key≤x.l.length:=List.findIdx_le_length;generalize aK x.l key=at_ at *;obtain ⟨q2,rfl⟩: ∃q2,q2=q1:=⟨_,rfl⟩;obtain ⟨y,rfl⟩: ∃y:Step,y=x:=⟨_,rfl⟩;obtain ⟨AY,rfl⟩: ∃AY,AY=A:=⟨_,rfl⟩;obtain ⟨cY,rfl⟩: ∃cY,cY=c:=⟨_,rfl⟩;have hyn:y.l.length≤57:=hl57;have HLY:=HLX;have eh:=xh bf
     have H5:=xh (show TQ w3 tb I F q2 n (Kz+21)∧aC w3 w.heap.size (.slice (some ⟨g,0,none⟩) (pre.length+1) cc) (Lp++[⟨y,AY,cY⟩])∧OB w.heap.size w w3 F F∧w.heap.size≤w3.heap.size from ⟨H3.out.1.le (by omega),H3.out.2⟩);clear hh bf u2 H3 S3
     go_upto_region 13 with fail
     have KT:=xh (xA H5.out.1 (by omega) key value hv);have kI:=uS q2 key value;have bf:=eh.out;unfold QS.Ma at bf;generalize q2.gm key value=R3 at *;obtain ⟨q3,en,e3⟩:=R3;dsimp only at *;obtain ⟨rfl,Ea⟩:=kI;have HEN:=xh (And.intro hk32 Ea);have eh:=xh bf;unfold E.agg tp at KT;clear bf Ea;go_wp2_with fail;refine KT.out.mono ?_;rintro e w4 ⟨rfl,P4⟩;obtain ⟨F4,T4,o4,f4⟩:=P4.tq H5.out.1
     have H4:=xh (show TQ w4 tb I F4 q3 n (Kz+26)∧aC w4 w.heap.size (.slice (some ⟨g,0,none⟩) (pre.length+1) cc) (Lp++[⟨y,AY,cY⟩])∧OB w.heap.size w w4 F F4∧w.heap.size≤w4.heap.size from ⟨T4,H5.out.2.1.pL H5.out.1.2 o4,H5.out.2.2.1.step (Nat.le_refl _) o4 f4,Nat.le_trans H5.out.2.2.2 o4.size⟩);clear P4 o4 f4 T4
     by_cases Fq:e3=0
     ·subst Fq;have bf:=eh.out;rw [if_neg (show ¬((0:Int)≠0) by simp)] at bf;rw [List.length_reverse] at bf;have eh:=xh bf;clear bf;obtain ⟨w8,vX⟩: ∃w8,(w4.alloc (.cells #[.string en.key,.string en.val,.int .i64 en.aH] 111)).drew=w8:=⟨_,rfl⟩;have uT:Below w4.heap.size w4 w8:=by rw [←vX]; exact (ae (Below.refl _ _) _).drew
      have Mc:ax w8 w4.heap.size 111 #[.string en.key,.string en.val,.int .i64 en.aH]:=by rw [←vX]; exact (ax.new _ _ _).drew
      have H8:=xh (show TQ w8 tb I F4 q3 n (Kz+26)∧aC w8 w.heap.size (.slice (some ⟨g,0,none⟩) (pre.length+1) cc) (Lp++⟨y,AY,cY⟩::[])∧OB w.heap.size w w8 F F4∧w.heap.size≤w8.heap.size∧ax w8 w4.heap.size 111 #[.string en.key,.string en.val,.int .i64 en.aH] from
       ⟨H4.out.1.below uT,H4.out.2.1.below uT,H4.out.2.2.1.below uT,Nat.le_trans H4.out.2.2.2 uT.size,Mc⟩)
      have Hn:=xh (show (fun W=>W.cell? ⟨w4.heap.size,0,none⟩=some (.string en.key)∧W.cell? ⟨w4.heap.size,1,none⟩=some (.string en.val)∧W.cell? ⟨w4.heap.size,2,none⟩=some (.int .i64 en.aH)) w8 from And.intro (Mc.ab (i:=0) rfl) (And.intro (Mc.ab (i:=1) rfl) (Mc.ab (i:=2) rfl)));have x8:w8.cell? ⟨g,pre.length*4+2,none⟩=some (.slice AY y.l.length cY):=by
       have h1:=H8.out.2.1.cell (k:=Lp.length) (Z:=⟨y,AY,cY⟩) (by rw [List.getElem?_append_right (Nat.le_refl _),Nat.sub_self]; rfl) 2 (by omega);rw [nF.out] at h1;exact h1
      obtain ⟨w9,LY⟩: ∃w9,w8.alloc (.cells #[.string en.key,.string en.val,.int .i64 en.aH] 111)=w9:=⟨_,rfl⟩;have gv:Below w8.heap.size w8 w9:=by rw [←LY]; exact ae (Below.refl _ _) _
      have BN9:ax w9 w8.heap.size 111 #[.string en.key,.string en.val,.int .i64 en.aH]:=by rw [←LY]; exact ax.new _ _ _
      have BZ9:w9.frozen? ⟨w8.heap.size,3,none⟩=false:=by rw [←LY]; exact World.frozen?_alloc_at (w:=w8) _ _ w8.heap.size 3 rfl
      have Md:=H8.out.2.2.2.2.below gv H8.out.2.2.2.2.lt;have Fs:=xh (show (fun W=>W.cell? ⟨w4.heap.size,0,none⟩=some (.string en.key)∧W.cell? ⟨w4.heap.size,1,none⟩=some (.string en.val)∧W.cell? ⟨w4.heap.size,2,none⟩=some (.int .i64 en.aH)) w9 from And.intro (Md.ab (i:=0) rfl) (And.intro (Md.ab (i:=1) rfl) (Md.ab (i:=2) rfl)));have x9:w9.cell? ⟨g,pre.length*4+2,none⟩=some (.slice AY y.l.length cY):=(gv.cell (p:=⟨g,pre.length*4+2,none⟩) (da x8)).trans x8
      have H9:=xh (show TQ w9 tb I F4 q3 n (Kz+26)∧aC w9 w.heap.size (.slice (some ⟨g,0,none⟩) (pre.length+1) cc) (Lp++⟨y,AY,cY⟩::[])∧OB w.heap.size w w9 F F4∧w.heap.size≤w9.heap.size∧ax w9 w4.heap.size 111 #[.string en.key,.string en.val,.int .i64 en.aH] from
       ⟨H8.out.1.below gv,H8.out.2.1.below gv,H8.out.2.2.1.below gv,Nat.le_trans H8.out.2.2.2.1 gv.size,Md⟩)
      have rM:=xh (show (y.l.insertIdx at_ en).length=y.l.length+1 from by rw [List.length_insertIdx,if_pos (by omega)]);have SY:=H9.out.2.1.e ⟨y,AY,cY⟩ (by simp);have KI:=xh (Nd.mj (w:=w9) SY.1 en (g2:=w8.heap.size) (cc:=1) BN9 (show y.l.length≤100000 by omega) (fun hm=>by have:=(H8.out.2.1.e ⟨y,AY,cY⟩ (by simp)).1.lt _ hm; omega) at_ (show at_≤y.l.length by omega) BZ9)
      have zf:=xh (show ∀W,ag (ah (.slice AY y.l.length cY)) w9 W→(fun W=>W.cell? ⟨w4.heap.size,0,none⟩=some (.string en.key)∧W.cell? ⟨w4.heap.size,1,none⟩=some (.string en.val)∧W.cell? ⟨w4.heap.size,2,none⟩=some (.int .i64 en.aH)) W from fun W o=>by
       have hB:=H9.out.2.2.2.2.only o (fun hm=>by have:=(H4.out.2.1.e ⟨y,AY,cY⟩ (by simp)).1.lt _ hm; omega);exact ⟨hB.ab (i:=0) rfl,hB.ab (i:=1) rfl,hB.ab (i:=2) rfl⟩)
      clear SY BN9 BZ9 gv Mc Md uT;go_wp2_with fail;refine wp_region_held_drew (S:=fun W=>W.cell? ⟨w4.heap.size,0,none⟩=some (.string en.key)∧W.cell? ⟨w4.heap.size,1,none⟩=some (.string en.val)∧W.cell? ⟨w4.heap.size,2,none⟩=some (.int .i64 en.aH)) (by kernel_rfl) (by rw [vX]; exact Hn.out) (fun aj=>?_);rw [vX];clear vX;refine bR [(0,86),(1,87),(2,88),(3,89),(4,90),(6,92),(7,93)] ?_
      iterate 7 (refine zt ?_; try simp only [Act.put,pa,pb,pc])
      refine bS ?_;refine wpAnyH_ready (rs:=[5,8]) (by kernel_rfl) (by simp) ?_;refine AllReadyH.cons (o:=⟨some 91,_,_,_,_,_⟩) rfl (fun K hK=>?_) (AllReadyH.cons (o:=⟨some 94,_,_,_,_,_⟩) rfl (fun K hK=>?_) AllReadyH.nil)
      ·skip
       go_simp;refine hK.out _ _ (Hn.out) (fun aj=>?_)
       try simp only [Act.put,pa,pb,pc]
       refine cA (i:=8) (o:=⟨some 94,_,_,_,_,_⟩) fun K hK=>?_;go_simp;refine hK.out _ _ (Fs.out) (fun aj=>?_)
       try simp only [Act.put,pa,pb,pc]
       refine cA (i:=9) (o:=⟨some 95,_,_,_,_,_⟩) fun K hK=>?_;go_simp
       go_at_call 74
       refine KI.out.mono ?_;rintro e jo ⟨A',c',rfl,pH,kk,f10⟩;have pH:=xh pH;have kk:=xh kk;have f10:=xh f10;have uQ:=xh (zf.out jo kk.out);go_simp;refine hK.out _ _ (uQ.out) (fun aj=>?_)
       try simp only [Act.put,pa,pb,pc]
       refine bR [(10,96),(11,97),(12,98)] ?_
       iterate 3 (refine zt ?_; try simp only [Act.put,pa,pb,pc])
       refine bS ?_;refine cA (i:=13) (o:=⟨none,_,_,_,_,_⟩) fun K hK=>?_;go_simp;obtain ⟨SP,sx,sz⟩:=H9.out.2.1.put (y.l.insertIdx at_ en) (A':=A') (c':=c') (by rw [rM.out]; exact pH.out) kk.out (by rw [rM.out]; exact f10.out) H9.out.2.2.2.1;rw [nF.out] at SP sx sz;rw [rM.out] at SP;have SP:=xh SP
       replace sx:jo.cell? ⟨g,pre.length*4+2,none⟩=some (.slice AY y.l.length cY):=sx
       have nt:=xh (show ag (g::ah (.slice AY y.l.length cY)) w9 (jo.setCell ⟨g,pre.length*4+2,none⟩ (.slice A' (y.l.length+1) c')) from (kk.out.mono (fun x hx _=>List.mem_cons_of_mem _ hx)).setCell (by simp) _);have Ho:=(H9.out.2.1.e ⟨y,AY,cY⟩ (by simp)).1
       have kI:=((H9.out.2.2.2.2.only kk.out (fun hm=>by have:=(H4.out.2.1.e ⟨y,AY,cY⟩ (by simp)).1.lt _ hm; omega)).aH (p:=⟨g,pre.length*4+2,none⟩) (fun e=>cv H9.out.2.1.s H9.out.2.2.2.2 (by decide) (by simp [ah]; exact e)) (.slice A' (y.l.length+1) c'));have qX:=xh (And.intro (kI.ab (i:=0) rfl) (And.intro (kI.ab (i:=1) rfl) (kI.ab (i:=2) rfl)));clear Ho kI;go_simp;refine hK.out _ _ (qX.out) (fun aj=>?_)
       try simp only [Act.put,pa,pb,pc]
       refine wpAnyH_done (by kernel_rfl) ?_ _;go_wp2_with fail;have hT:TQ (jo.setCell ⟨g,pre.length*4+1+1,none⟩ (.slice A' (y.l.length+1) c')) tb I F4 q3 n (Kz+26):=by
        have ik:=H9.out.2.1.off H9.out.1.2;have pM:=H9.out.2.1.tree H9.out.1.1;exact H9.out.1.only nt.out (fun z hz hm=>by
         rcases List.mem_cons.1 hz with h1 | h1<;>rcases List.mem_cons.1 hm with h2 | h2
         ·exact pM.1 (by rw [←h1,h2]; simp [ah])
         ·exact pM.2 ⟨y,AY,cY⟩ (by simp) (by rw [←h1]; exact h2)
         ·exact ik.1 z (by rw [h2]; simp [ah]) h1
         ·exact ik.2 ⟨y,AY,cY⟩ (by simp) z h2 h1)
       have hO:OB w.heap.size w (jo.setCell ⟨g,pre.length*4+1+1,none⟩ (.slice A' (y.l.length+1) c')) F F4:=H9.out.2.2.1.own nt.out (fun z hz=>by
        rcases List.mem_cons.1 hz with h2 | h2
        ·rw [h2]; exact H9.out.2.1.f g (by simp [ah])
        ·exact (H9.out.2.1.e ⟨y,AY,cY⟩ (by simp)).2 z h2)
       have Bb:w.heap.size≤(jo.setCell ⟨g,pre.length*4+1+1,none⟩ (.slice A' (y.l.length+1) c')).heap.size:=Nat.le_trans H9.out.2.2.2.1 nt.out.size;have SQ:aC (jo.setCell ⟨g,pre.length*4+1+1,none⟩ (.slice A' (y.l.length+1) c')) w.heap.size (.slice (some ⟨g,0,none⟩) (pre.length+1) cc) (Lp++[(⟨{y with l:=y.l.insertIdx at_ en},A',c'⟩:SM)]):=by
        exact SP.out
       have pN:=eh.out;subst pN;have KR:=gX (pre.length+1) pre {y with l:=y.l.insertIdx at_ en} (Nat.le_refl _) hT (by have:=HK.out; have:=n9.out; omega) SQ Bb (by rw [List.map_append,LX.out]; rfl) ln.out
        ⟨by show (y.l.insertIdx at_ _).length≤90; rw [rM.out]; omega,fun e he=>by
         rcases (List.mem_insertIdx (by omega)).1 he with rfl | he
         ·exact HEN.out
         ·exact HLY.out e he⟩ (by have:=n9.out; omega)
       refine KR.mono ?_;rintro e w12 ⟨rfl,uR⟩;have uR:=xh uR;have HO:=xh hO;clear hT hO Bb SQ KR;go_wp2_with fail;go_ret;exact ⟨by first | rfl | simp,((HO.out.trans uR.out).pt (Nat.le_refl _)).le (by have:=n9.out; omega)⟩
      ·skip
       go_simp;refine hK.out _ _ (Fs.out) (fun aj=>?_)
       try simp only [Act.put,pa,pb,pc]
       refine cA (i:=5) (o:=⟨some 91,_,_,_,_,_⟩) fun K hK=>?_;go_simp;refine hK.out _ _ (Fs.out) (fun aj=>?_)
       try simp only [Act.put,pa,pb,pc]
       refine cA (i:=9) (o:=⟨some 95,_,_,_,_,_⟩) fun K hK=>?_;go_simp
       go_at_call 74
       refine KI.out.mono ?_;rintro e jo ⟨A',c',rfl,pH,kk,f10⟩;have pH:=xh pH;have kk:=xh kk;have f10:=xh f10;have uQ:=xh (zf.out jo kk.out);go_simp;refine hK.out _ _ (uQ.out) (fun aj=>?_)
       try simp only [Act.put,pa,pb,pc]
       refine bR [(10,96),(11,97),(12,98)] ?_
       iterate 3 (refine zt ?_; try simp only [Act.put,pa,pb,pc])
       refine bS ?_;refine cA (i:=13) (o:=⟨none,_,_,_,_,_⟩) fun K hK=>?_;go_simp;obtain ⟨SP,sx,sz⟩:=H9.out.2.1.put (y.l.insertIdx at_ en) (A':=A') (c':=c') (by rw [rM.out]; exact pH.out) kk.out (by rw [rM.out]; exact f10.out) H9.out.2.2.2.1;rw [nF.out] at SP sx sz;rw [rM.out] at SP;have SP:=xh SP
       replace sx:jo.cell? ⟨g,pre.length*4+2,none⟩=some (.slice AY y.l.length cY):=sx
       have nt:=xh (show ag (g::ah (.slice AY y.l.length cY)) w9 (jo.setCell ⟨g,pre.length*4+2,none⟩ (.slice A' (y.l.length+1) c')) from (kk.out.mono (fun x hx _=>List.mem_cons_of_mem _ hx)).setCell (by simp) _);have Ho:=(H9.out.2.1.e ⟨y,AY,cY⟩ (by simp)).1
       have kI:=((H9.out.2.2.2.2.only kk.out (fun hm=>by have:=(H4.out.2.1.e ⟨y,AY,cY⟩ (by simp)).1.lt _ hm; omega)).aH (p:=⟨g,pre.length*4+2,none⟩) (fun e=>cv H9.out.2.1.s H9.out.2.2.2.2 (by decide) (by simp [ah]; exact e)) (.slice A' (y.l.length+1) c'));have qX:=xh (And.intro (kI.ab (i:=0) rfl) (And.intro (kI.ab (i:=1) rfl) (kI.ab (i:=2) rfl)));clear Ho kI;go_simp;refine hK.out _ _ (qX.out) (fun aj=>?_)
       try simp only [Act.put,pa,pb,pc]
       refine wpAnyH_done (by kernel_rfl) ?_ _;go_wp2_with fail;have hT:TQ (jo.setCell ⟨g,pre.length*4+1+1,none⟩ (.slice A' (y.l.length+1) c')) tb I F4 q3 n (Kz+26):=by
        have ik:=H9.out.2.1.off H9.out.1.2;have pM:=H9.out.2.1.tree H9.out.1.1;exact H9.out.1.only nt.out (fun z hz hm=>by
         rcases List.mem_cons.1 hz with h1 | h1<;>rcases List.mem_cons.1 hm with h2 | h2
         ·exact pM.1 (by rw [←h1,h2]; simp [ah])
         ·exact pM.2 ⟨y,AY,cY⟩ (by simp) (by rw [←h1]; exact h2)
         ·exact ik.1 z (by rw [h2]; simp [ah]) h1
         ·exact ik.2 ⟨y,AY,cY⟩ (by simp) z h2 h1)
       have hO:OB w.heap.size w (jo.setCell ⟨g,pre.length*4+1+1,none⟩ (.slice A' (y.l.length+1) c')) F F4:=H9.out.2.2.1.own nt.out (fun z hz=>by
        rcases List.mem_cons.1 hz with h2 | h2
        ·rw [h2]; exact H9.out.2.1.f g (by simp [ah])
        ·exact (H9.out.2.1.e ⟨y,AY,cY⟩ (by simp)).2 z h2)
       have Bb:w.heap.size≤(jo.setCell ⟨g,pre.length*4+1+1,none⟩ (.slice A' (y.l.length+1) c')).heap.size:=Nat.le_trans H9.out.2.2.2.1 nt.out.size;have SQ:aC (jo.setCell ⟨g,pre.length*4+1+1,none⟩ (.slice A' (y.l.length+1) c')) w.heap.size (.slice (some ⟨g,0,none⟩) (pre.length+1) cc) (Lp++[(⟨{y with l:=y.l.insertIdx at_ en},A',c'⟩:SM)]):=by
        exact SP.out
       have pN:=eh.out;subst pN;have KR:=gX (pre.length+1) pre {y with l:=y.l.insertIdx at_ en} (Nat.le_refl _) hT (by have:=HK.out; have:=n9.out; omega) SQ Bb (by rw [List.map_append,LX.out]; rfl) ln.out
        ⟨by show (y.l.insertIdx at_ _).length≤90; rw [rM.out]; omega,fun e he=>by
         rcases (List.mem_insertIdx (by omega)).1 he with rfl | he
         ·exact HEN.out
         ·exact HLY.out e he⟩ (by have:=n9.out; omega)
       refine KR.mono ?_;rintro e w12 ⟨rfl,uR⟩;have uR:=xh uR;have HO:=xh hO;clear hT hO Bb SQ KR;go_wp2_with fail;go_ret;exact ⟨by first | rfl | simp,((HO.out.trans uR.out).pt (Nat.le_refl _)).le (by have:=n9.out; omega)⟩
     ·have bf:=eh.out;rw [if_pos Fq] at bf;subst bf;have hq:(e3 != 0)=true:=by rw [bne_iff_ne]; exact Fq
      have jm:(e3==0)=false:=by rw [beq_eq_false_iff_ne]; exact Fq
      go_wp2_with fail;go_ret;exact ⟨by first | rfl | simp,(((H4.out.2.2.1.below (ae (Below.refl _ _) _)).pb (H4.out.1.2.below (ae (Below.refl _ _) _))).pt (Nat.le_refl _)).le (by omega)⟩
   ·rw [if_pos he];have hq:(er != 0)=true:=by rw [bne_iff_ne]; exact he
    have jm:(er==0)=false:=by rw [beq_eq_false_iff_ne]; exact he
    clear dS;go_enter Tryz.func25,Tryz.ntmps25;go_wp2_with fail;refine KW.out.mono ?_;rintro e w1 ⟨v,L,rfl,SA,kH,P1,o1⟩;have P1:=xh P1;have o1:=xh o1;clear SA kH;go_wp2_with fail;go_ret;exact ⟨by first | rfl | simp,(PT.self P1.out o1.out).le (by omega)⟩
  ·rw [if_pos (by omega)];have s6:1024<(value.size:Int):=by omega
   have s5: ¬(32<(key.size:Int)):=by omega
   clear dS;go_enter Tryz.func25,Tryz.ntmps25;go_wp2_with fail;go_ret;exact ⟨by first | rfl | simp,(PT.self HT.out.2 (ag.refl F w)).le (by omega)⟩
 ·rw [if_pos (by omega)];have s5:32<(key.size:Int):=by omega
  clear dS;go_enter Tryz.func25,Tryz.ntmps25;go_wp2_with fail;go_ret;exact ⟨by first | rfl | simp,(PT.self HT.out.2 (ag.refl F w)).le (by omega)⟩
end Go.Proofs.YtmonobkginiajaaGreat.Sh
namespace Go.Proofs.YtmonobkginiajaaGreat.Sh
open Go.RowKit Pk Dk Pg
open Nd (E aw aT aF aJ cM bg aK bI bj)
attribute [local go_sem ↓] Go.wp_at_zero Go.wp_at_succ
def QS.Me (q:QS):Nat:=(List.range 512).countP fun j=>decide ((q.vw (j:Nat)).2=0)
theorem cnt_le (q:QS):q.Me≤512:=by
 have:=List.countP_le_length (p:=fun j:Nat=>decide ((q.vw (j:Nat)).2=0)) (l:=List.range 512);rw [List.length_range] at this;exact this
theorem Wp.vw_lt {q:QS} {n K:Nat} (h:Wp q n K) {j:Int} (h0:(q.vw j).2=0):0≤j∧j<512:=by
 refine ⟨vw_pos h0,?_⟩;have hr:(q.a.aD j).2=0:=by
  rcases ff q j with ho | ⟨i,f,hi,rfl,hp⟩
  ·rw [dK ho] at h0; exact h0
  ·exact h.V.ex f (List.mem_of_getElem? hi) hp
 have:=mM (sy.1 hr);have:=h.H.nl;omega
theorem Mf {q q':QS} {n K:Nat} (h:Wp q n K) {p:Int} (h0:(q.vw p).2=0) (hv: ∀j,q'.vw j=if j=p then ([],3) else q.vw j):q'.Me+1=q.Me:=by
 obtain ⟨p1,p2⟩:=h.vw_lt h0;obtain ⟨m,rfl⟩: ∃m:Nat,p=(m:Int):=⟨p.toNat,by omega⟩;have hm:m<512:=by omega
 unfold QS.Me;have key: ∀N,m<N→((List.range N).countP fun j=>decide ((q'.vw (j:Nat)).2=0))+1=(List.range N).countP fun j=>decide ((q.vw (j:Nat)).2=0):=by
  intro N
  induction N with
  | zero=>intro h; omega
  | succ N ih=>
   intro hN;rw [List.range_succ,List.countP_append,List.countP_append,List.countP_singleton,List.countP_singleton]
   by_cases e:m=N
   ·subst e;have h1:decide ((q'.vw (m:Nat)).2=0)=false:=by rw [hv,if_pos rfl]; decide
    rw [h1,h0];have h2:((List.range m).countP fun j=>decide ((q'.vw (j:Nat)).2=0))=(List.range m).countP fun j=>decide ((q.vw (j:Nat)).2=0):=by
     refine List.countP_congr (fun j hj=>?_);have:=List.mem_range.1 hj;rw [hv,if_neg (by omega)]
    rw [h2];simp
   ·have h1:q'.vw (N:Nat)=q.vw (N:Nat):=by rw [hv,if_neg (by omega)]
    rw [h1];have:=ih (by omega);omega
 exact key 512 hm
theorem Mg {q q':QS} (hv: ∀j,q'.vw j=q.vw j):q'.Me=q.Me:=by
 unfold QS.Me;simp only [hv]
def kl:Nat→QS→Bool→List E→QS×Int
 | 0,q,_,_=>(q,0)
 | m+1,q,leaf,l=>
  if leaf=false∧l.length=1 then
   if (q.bl (l.getD 0 Nd.E.zero).aH).2.2.2≠0 then ((q.bl (l.getD 0 Nd.E.zero).aH).1,(q.bl (l.getD 0 Nd.E.zero).aH).2.2.2)
   else if ((q.bl (l.getD 0 Nd.E.zero).aH).1.aE (l.getD 0 Nd.E.zero).aH).2≠0 then (q.bl (l.getD 0 Nd.E.zero).aH).1.aE (l.getD 0 Nd.E.zero).aH
   else kl m ((q.bl (l.getD 0 Nd.E.zero).aH).1.aE (l.getD 0 Nd.E.zero).aH).1 (q.bl (l.getD 0 Nd.E.zero).aH).2.1 (q.bl (l.getD 0 Nd.E.zero).aH).2.2.1
  else if l=[] then q.cg 0 true [] else q.cg 0 leaf l
def QS.oe (q:QS) (leaf:Bool) (l:List E):QS×Int:=kl 600 q leaf l
theorem Mh {q:QS} {n K:Nat} (h:Wp q n K) (p:Int):Wp (q.bl p).1 n (K+1)∧(∀j,(q.bl p).1.vw j=q.vw j):=by
 have hg:=(h.get p).1;have:(q.bl p).1=(q.cO p).1:=by unfold QS.bl; split<;>rfl
 rw [this];exact ⟨hg.w,hg.v⟩
theorem Mi {q:QS} {n K:Nat} (h:Wp q n K) {p:Int} (h0:(q.aE p).2=0):(q.aE p).1.Me+1=q.Me:=by
 rcases (h.drop p).2 with ⟨a,b,c⟩ | ⟨a,b,c⟩
 ·exact Mf h a c
 ·rw [h0] at b; exact absurd b (by decide)
theorem Eb {w:World} {tb:Nat} {I:Ix} {F:List Nat} {q:QS} {n Kz:Nat} (h:TQ w tb I F q n Kz) (LS:Kz≤999999990000) (leaf:Bool) (A:Option Addr) (m c:Nat) (l:List E) (S:aG w 111 3 (.slice A m c) m (aw l)) (hm:m≤1000):
  Calls Tryz.prog 133 #[tp tb,aT leaf A m c] w fun e w'=>e= .returned (.int .i64 (q.oe leaf l).2)∧PQ w' I F (q.oe leaf l).1 n (Kz+601)∧ag F w w':=by
 have KR:=xh (fun (W:World) (qj:QS) (kj:Nat) (hW:TQ W tb I F qj n kj) (hk:kj≤999999999999) (p:Int)=>kF hW hk p);have KD:=xh (fun (W:World) (qj:QS) (kj:Nat) (hW:TQ W tb I F qj n kj) (p:Int)=>mO hW.2 p);have KW:=xh (fun (W:World) (qj:QS) (kj:Nat) (hW:TQ W tb I F qj n kj) (hk:kj≤999999999999) (leaf:Bool) (A:Option Addr) (m c:Nat) (l:List E) (S:aG W 111 3 (.slice A m c) m (aw l)) (hm:m≤1000)=>lr hW hk 0 leaf A m c l S hm)
 have hlm:l.length=m:=by have:=S.1; rw [Nd.an] at this; omega
 obtain ⟨R,hR⟩: ∃R,q.oe leaf l=R:=⟨_,rfl⟩;rw [hR];unfold QS.oe at hR;have HR:=xh hR;have fj:=ae (Below.refl w.heap.size w) (.cells #[.bool leaf,.slice A m c] 118);have H0:=xh (show TQ _ tb I F q n (Kz+600-600)∧aG _ 111 3 (.slice A m c) m (aw l)∧ax _ w.heap.size 118 #[.bool leaf,.slice A m c]∧ag F w _ from ⟨h.below fj,S.below fj,ax.new w 118 #[.bool leaf,.slice A m c],.ak fj⟩);have KK:=xh (show q.Me<600 from by have:=cnt_le q; omega)
 have HLM:=xh hlm;have HLEN:=xh (fun (qj:QS) (p:Int)=>jA qj p);clear h hR S fj hlm;unfold tp aT at *;go_enter Tryz.func133,Tryz.ntmps133;go_wp2_with fail
 go_loopg [5] 600 (fun k pv wr=> ∃(qi:QS) (leaf:Bool) (A:Option Addr) (m c:Nat) (l:List E),k≤600∧m≤1000∧Hid (kl k qi leaf l=R)∧Hid (qi.Me<k)∧Hid (l.length=m)∧Hid (TQ wr tb I F qi n (Kz+600-k)∧aG wr 111 3 (.slice A m c) m (aw l)∧ax wr w.heap.size 118 #[.bool leaf,.slice A m c]∧ag F w wr))
 case atStart=>exact ⟨q,leaf,A,m,c,l,by omega,hm,HR,KK,HLM,H0⟩
 case round=>
  obtain ⟨qi,lf,A,m,c,l,hk,hm,HR,KK,HLM,H0⟩:=hrel;obtain ⟨k',rfl⟩: ∃k',gk=k'+1:=⟨gk-1,by have:=KK.out; omega⟩;have B0:=xh H0.out.2.2.1;have x0:=B0.out.ab (i:=0) rfl;have x1:=B0.out.ab (i:=1) rfl
  by_cases hc:lf=false∧m=1
  ·obtain ⟨rfl,rfl⟩:=hc;obtain ⟨ex,rfl⟩: ∃ex,l=[ex]:=List.length_eq_one_iff.1 HLM.out;have bf:=HR.out;unfold kl at bf;rw [if_pos ⟨rfl,rfl⟩,show ([ex]:List E).getD 0 Nd.E.zero=ex from rfl] at bf;obtain ⟨ga,ca,uM,wO,BA,_,_⟩:=H0.out.2.1.form (by omega) (by omega);injection wO with e1 ezz e3
   clear ezz;subst e1 e3;have xf:wr.cell? ⟨ga,2,none⟩=some (.int .i64 ex.aH):=BA.ab rfl;have K1:=xh (KR.out wr qi (Kz+600-(k'+1)) H0.out.1 (by omega) ex.aH);have hv:=Mh H0.out.1.2.wp ex.aH;have hl1:=HLEN.out qi ex.aH;generalize qi.bl ex.aH=r at *;obtain ⟨q1,Hp,l1,er⟩:=r;dsimp only at *;have HV:=xh hv;have eh:=xh bf;clear bf hv BA;go_wp2_with fail;refine K1.out.mono ?_;rintro e w2 ⟨A1,c1,rfl,S2,f2,P2,o2⟩
   have HA2:=ae (Below.refl w2.heap.size w2) (.cells #[.bool Hp,.slice A1 l1.length c1] 118);have B3:=xh (ax.new w2 118 #[.bool Hp,.slice A1 l1.length c1]);have Fu:w.heap.size∉F:=fun hF=>H0.out.1.2.iR B0.out (by decide) (by decide) (by decide) (by decide) (by decide) (by decide) (by decide) (by decide) (by decide) hF
   have H2:=xh (show TQ (w2.alloc (.cells #[.bool Hp,.slice A1 l1.length c1] 118)) tb I F q1 n (Kz+600-k')∧aG (w2.alloc (.cells #[.bool Hp,.slice A1 l1.length c1] 118)) 111 3 (.slice A1 l1.length c1) l1.length (aw l1)∧ax (w2.alloc (.cells #[.bool Hp,.slice A1 l1.length c1] 118)) w.heap.size 118 #[.bool false,.slice (some ⟨ga,0,none⟩) 1 c]∧ag F w (w2.alloc (.cells #[.bool Hp,.slice A1 l1.length c1] 118))∧w.heap.size<w2.heap.size from
    ⟨((H0.out.1.next o2 P2).below HA2).le (by omega),S2.below HA2,(B0.out.only o2 Fu).below HA2 (B0.out.only o2 Fu).lt,(H0.out.2.2.2.trans o2).trans (.ak HA2),(B0.out.only o2 Fu).lt⟩)
   clear S2 f2 P2 o2 HA2 x0 x1 xf
   by_cases he:er=0
   ·subst he;have bf:=eh.out;rw [if_neg (show ¬((0:Int)≠0) by simp)] at bf;have K2:=xh (KD.out _ q1 _ H2.out.1 ex.aH);have hcnt:=Mi (q:=q1) H2.out.1.2.wp (p:=ex.aH);generalize q1.aE ex.aH=R2 at *;obtain ⟨q2,e2⟩:=R2;dsimp only at *;have HCD:=xh hcnt;have eh:=xh bf;clear bf hcnt;unfold pp at K2;have xt:=H2.out.1.1.ab (i:=0) rfl;unfold pp at xt;go_wp2_with fail;refine K2.out.mono ?_;rintro e w4 ⟨rfl,P4,o4⟩
    have hnf:w2.heap.size∉F:=fun hF=>H2.out.1.2.iR B3.out (by decide) (by decide) (by decide) (by decide) (by decide) (by decide) (by decide) (by decide) (by decide) hF;have Fu:w.heap.size∉F:=fun hF=>H2.out.1.2.iR H2.out.2.2.1 (by decide) (by decide) (by decide) (by decide) (by decide) (by decide) (by decide) (by decide) (by decide) hF
    have H4:=xh (show TQ w4 tb I F q2 n (Kz+600-k')∧aG w4 111 3 (.slice A1 l1.length c1) l1.length (aw l1)∧ax w4 w.heap.size 118 #[.bool false,.slice (some ⟨ga,0,none⟩) 1 c]∧ag F w w4 from
     ⟨H2.out.1.next o4 P4,PT.FZ (.self P4 o4) H2.out.1.2 H2.out.2.1,H2.out.2.2.1.only o4 Fu,H2.out.2.2.2.1.trans o4⟩)
    have B4:=xh (B3.out.only o4 hnf);clear P4 o4 xt hnf Fu B3
    by_cases sE:e2=0
    ·subst sE;have bf:=eh.out;rw [if_neg (show ¬((0:Int)≠0) by simp)] at bf;have eh:=xh bf;obtain ⟨SB,so,z0,z1,zf0,zf1⟩:=yT (b':=Hp) (v':= .slice A1 l1.length c1) H4.out.2.2.1;have y0:=B4.out.ab (i:=0) rfl;have y1:=B4.out.ab (i:=1) rfl;have HTB:tb≠w.heap.size:=fun e=>H4.out.1.1.jF H4.out.2.2.1 (by decide) e
     have Fu:w.heap.size∉F:=fun hF=>H4.out.1.2.iR H4.out.2.2.1 (by decide) (by decide) (by decide) (by decide) (by decide) (by decide) (by decide) (by decide) (by decide) hF
     have H5:=xh (show TQ ((w4.setCell ⟨w.heap.size,0,none⟩ (.bool Hp)).setCell ⟨w.heap.size,1,none⟩ (.slice A1 l1.length c1)) tb I F q2 n (Kz+600-k')∧aG ((w4.setCell ⟨w.heap.size,0,none⟩ (.bool Hp)).setCell ⟨w.heap.size,1,none⟩ (.slice A1 l1.length c1)) 111 3 (.slice A1 l1.length c1) l1.length (aw l1)∧ax ((w4.setCell ⟨w.heap.size,0,none⟩ (.bool Hp)).setCell ⟨w.heap.size,1,none⟩ (.slice A1 l1.length c1)) w.heap.size 118 #[.bool Hp,.slice A1 l1.length c1]∧ag F w ((w4.setCell ⟨w.heap.size,0,none⟩ (.bool Hp)).setCell ⟨w.heap.size,1,none⟩ (.slice A1 l1.length c1)) from
      ⟨H4.out.1.only so (fun z hz hm=>by
       rw [List.mem_singleton.1 hm] at hz
       rcases List.mem_cons.1 hz with h | h
       ·exact HTB h.symm
       ·exact Fu h),H4.out.2.1.only so (fun z hz hm=>cv H4.out.2.1 H4.out.2.2.1 (by decide) (by rw [←List.mem_singleton.1 hm]; exact hz)),SB,H4.out.2.2.2.aS so (fun z hz dL=>by rw [List.mem_singleton.1 hz] at dL; omega)⟩)
     clear SB so Fu HTB bf;go_wp2_with fail
     go_roundg k'
     case measure=>omega
     case rel=>exact ⟨q2,Hp,A1,l1.length,c1,l1,by omega,by omega,eh,xh (by have h1:=HCD.out (by trivial); have h2:=Mg HV.out.2; have h3:=KK.out; omega),xh rfl,H5⟩
    ·have bf:=eh.out;rw [if_pos sE] at bf;subst bf;have hq:(e2 != 0)=true:=by rw [bne_iff_ne]; exact sE
     have jm:(e2==0)=false:=by rw [beq_eq_false_iff_ne]; exact sE
     go_wp2_with fail;go_ret;exact ⟨by first | rfl | simp,H4.out.1.2.le (by omega),H4.out.2.2.2⟩
   ·have bf:=eh.out;rw [if_pos he] at bf;subst bf;have hq:(er != 0)=true:=by rw [bne_iff_ne]; exact he
    have jm:(er==0)=false:=by rw [beq_eq_false_iff_ne]; exact he
    go_wp2_with fail;go_ret;exact ⟨by first | rfl | simp,H2.out.1.2.le (by omega),H2.out.2.2.2.1⟩
  ·have bf:=HR.out;unfold kl at bf;rw [if_neg (by rw [HLM.out]; exact hc)] at bf
   by_cases hm0:m=0
   ·subst hm0;have EJ:l=[]:=List.length_eq_zero_iff.1 HLM.out;rw [if_pos EJ] at bf;subst bf;obtain ⟨SB,so,z0,z1,zf0,zf1⟩:=yT (b':=true) (v':= .slice none 0 0) H0.out.2.2.1;have HTB:tb≠w.heap.size:=fun e=>H0.out.1.1.jF H0.out.2.2.1 (by decide) e;have Fu:w.heap.size∉F:=fun hF=>H0.out.1.2.iR H0.out.2.2.1 (by decide) (by decide) (by decide) (by decide) (by decide) (by decide) (by decide) (by decide) (by decide) hF
    have H5:=xh (show TQ ((wr.setCell ⟨w.heap.size,0,none⟩ (.bool true)).setCell ⟨w.heap.size,1,none⟩ (.slice none 0 0)) tb I F qi n (Kz+600-(k'+1))∧ag F w ((wr.setCell ⟨w.heap.size,0,none⟩ (.bool true)).setCell ⟨w.heap.size,1,none⟩ (.slice none 0 0)) from
      ⟨H0.out.1.only so (fun z hz hm=>by
       rw [List.mem_singleton.1 hm] at hz
       rcases List.mem_cons.1 hz with h | h
       ·exact HTB h.symm
       ·exact Fu h),H0.out.2.2.2.aS so (fun z hz dL=>by rw [List.mem_singleton.1 hz] at dL; omega)⟩)
    have K6:=xh (KW.out _ qi _ H5.out.1 (by omega) true none 0 0 [] (aG.nil _ _ _) (by omega));have y0:=SB.ab (i:=0) rfl;have y1:=SB.ab (i:=1) rfl;clear SB so Fu HTB EJ
    cases lf
    ·skip
     go_wp2_with fail;refine K6.out.mono ?_;rintro e w6 ⟨rfl,P6,o6⟩;go_wp2_with fail;go_ret;exact ⟨by first | rfl | simp,P6.le (by omega),H5.out.2.trans o6⟩
    ·skip
     go_wp2_with fail;refine K6.out.mono ?_;rintro e w6 ⟨rfl,P6,o6⟩;go_wp2_with fail;go_ret;exact ⟨by first | rfl | simp,P6.le (by omega),H5.out.2.trans o6⟩
   ·rw [if_neg (fun e=>hm0 (by rw [←HLM.out,e]; rfl))] at bf;subst bf;have K6:=xh (KW.out _ qi _ H0.out.1 (by omega) lf A m c l H0.out.2.1 hm);have hmI:((m:Nat):Int)≠0:=by omega
    cases lf
    ·have hm1:((m:Nat):Int)≠1:=fun e=>hc ⟨rfl,by omega⟩;have hm1': ¬m=1:=by omega
     clear hc;go_wp2_with fail;refine K6.out.mono ?_;rintro e w6 ⟨rfl,P6,o6⟩;go_wp2_with fail;go_ret;exact ⟨by first | rfl | simp,P6.le (by omega),H0.out.2.2.2.trans o6⟩
    ·clear hc;go_wp2_with fail;refine K6.out.mono ?_;rintro e w6 ⟨rfl,P6,o6⟩;go_wp2_with fail;go_ret;exact ⟨by first | rfl | simp,P6.le (by omega),H0.out.2.2.2.trans o6⟩
end Go.Proofs.YtmonobkginiajaaGreat.Sh
