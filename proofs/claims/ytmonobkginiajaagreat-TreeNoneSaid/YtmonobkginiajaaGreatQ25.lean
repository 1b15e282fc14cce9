/- packed. -/
import Derived.Test.YtmonobkginiajaaGreatQ24
set_option linter.all false
set_option maxRecDepth 100000
set_option maxHeartbeats 8000000
namespace Go.Proofs.YtmonobkginiajaaGreat.Sh
open Go.RowKit Pk Dk Pg
open Nd (E aw aT aF aJ cM bg aK bI bj)
attribute [local go_sem ↓] Go.wp_at_zero Go.wp_at_succ
def eO:List Step→QS→QS×Int
 | [],q=>(q,0)
 | [x],q=>if x.leaf=true then q.cg x.al x.leaf x.l else q.oe x.leaf x.l
 | x::y::up,q=>
  if x.l=[] then
   if (q.aE x.al).2≠0 then q.aE x.al
   else eO ({y with l:=y.l.eraseIdx y.at_}::up) (q.aE x.al).1
  else q.cg x.al x.leaf x.l
 termination_by l=>l.length
theorem rN (x:Step) (q:QS):eO [x] q=if x.leaf=true then q.cg x.al x.leaf x.l else q.oe x.leaf x.l:=by
 unfold eO; rfl
theorem rO (x y:Step) (up:List Step) (q:QS):eO (x::y::up) q=if x.l=[] then
   if (q.aE x.al).2≠0 then q.aE x.al
   else eO ({y with l:=y.l.eraseIdx y.at_}::up) (q.aE x.al).1
  else q.cg x.al x.leaf x.l:=by
 conv=>lhs; unfold eO
theorem aC.pO {w:World} {b g m cc:Nat} {Lp:List SM} {Z:SM} {k:Nat} (h:aC w b (.slice (some ⟨g,0,none⟩) m cc) (Lp++[Z])) (hp:Lp.length=k) (i:Nat) (hi:i<4):w.cell? ⟨g,k*4+i,none⟩=Z.cells[i]?:=by
 have h1:=h.cell (k:=Lp.length) (Z:=Z) (by rw [List.getElem?_append_right (Nat.le_refl _),Nat.sub_self]; rfl) i hi;rw [hp] at h1;exact h1
theorem Mj (A:Option Addr) (m c m' c':Nat):ah (.slice A m c)=ah (.slice A m' c'):=by cases A<;>rfl
theorem Bd {w:World} {tb:Nat} {I:Ix} {F:List Nat} {q:QS} {n Kz b:Nat} {v:Value} {L:List SM} (pre:List Step) (x:Step) (h:TQ w tb I F q n Kz) (LS:Kz≤999999980000) (SA:aC w b v L) (hb:b≤w.heap.size) (kH:L.map SM.s=pre++[x]) (nh: ∀s∈pre,s.at_<s.l.length∧s.l.length≤1000) (ET:x.l.length≤1000) (hp16:pre.length≤16):
  Calls Tryz.prog 76 #[tp tb,v] w fun e w'=>e= .returned (.int .i64 (eO (x::pre.reverse) q).2)∧PB b w w' I F (eO (x::pre.reverse) q).1 n (Kz+601):=by
 obtain ⟨Lp,A,c,g,cc,rfl,ji,rfl,hbg,Cc,rl,fi,IY,S1,f1⟩:=SA.last kH;have KD:=xh (fun (W:World) (qj:QS) (hW:TQ W tb I F qj n Kz) (p:Int)=>mO hW.2 p);have KW:=xh (fun (W:World) (qj:QS) (kj:Nat) (hW:TQ W tb I F qj n kj) (hk:kj≤999999999999) (p:Int) (leaf:Bool) (A:Option Addr) (m c:Nat) (l:List E) (S:aG W 111 3 (.slice A m c) m (aw l)) (hm:m≤1000)=>lr hW hk p leaf A m c l S hm)
 have KL:=xh (fun (W:World) (qj:QS) (hW:TQ W tb I F qj n Kz) (leaf:Bool) (A:Option Addr) (m c:Nat) (l:List E) (S:aG W 111 3 (.slice A m c) m (aw l)) (hm:m≤1000)=>Eb hW (by omega) leaf A m c l S hm);obtain ⟨R,hR⟩: ∃R,eO (x::pre.reverse) q=R:=⟨_,rfl⟩;rw [hR];have HR:=xh hR;have HM:=xh ji;have ln:=xh nh;have HXL:=xh ET
 have HA:=xh (show aC w b (.slice (some ⟨g,0,none⟩) (pre.length+1) cc) (Lp++[⟨x,A,c⟩])∧TQ w tb I F q n Kz∧OB b w w F F∧b≤w.heap.size from ⟨SA,h,OB.refl _ _ _,hb⟩);clear h SA kH nh ET hR fi IY S1 f1 ji;unfold tp aT at *;go_enter Tryz.func76,Tryz.ntmps76;go_wp2_with fail
 go_loopw [1] (fun sv wr=> ∃(pre:List Step) (x:Step) (Lp:List SM) (A:Option Addr) (c:Nat) (qi:QS),pre.length≤16∧pre.length+1≤cc∧sv= .slice (some ⟨g,0,none⟩) (pre.length+1) cc∧Hid (Lp.map SM.s=pre)∧Hid (eO (x::pre.reverse) qi=R)∧Hid (∀s∈pre,s.at_<s.l.length∧s.l.length≤1000)∧Hid (x.l.length≤1000)∧Hid (aC wr b (.slice (some ⟨g,0,none⟩) (pre.length+1) cc) (Lp++[⟨x,A,c⟩])∧TQ wr tb I F qi n Kz∧OB b w wr F F∧b≤wr.heap.size)) (fun sv _=>Fo sv)
 case atStart=>exact ⟨pre,x,Lp,A,c,q,hp16,Cc,rfl,HM,HR,ln,HXL,HA⟩
 case round=>
  obtain ⟨pre,x,Lp,A,c,qi,hp16,Cc,rfl,HM,HR,ln,HXL,HA⟩:=hrel;have nF:=xh (show Lp.length=pre.length from by rw [←HM.out,List.length_map]);obtain ⟨xp,xf,xl,xa⟩:=x;dsimp only at HXL;have c0:wr.cell? ⟨g,pre.length*4,none⟩=some (.int .i64 xp):=HA.out.1.pO nF.out 0 (by omega);have c1:wr.cell? ⟨g,pre.length*4+1,none⟩=some (.bool xf):=HA.out.1.pO nF.out 1 (by omega);have c2:wr.cell? ⟨g,pre.length*4+1+1,none⟩=some (.slice A xl.length c):=HA.out.1.pO nF.out 2 (by omega)
  have c3:wr.cell? ⟨g,pre.length*4+3,none⟩=some (.int .i64 (xa:Nat)):=HA.out.1.pO nF.out 3 (by omega)
  rcases List.eq_nil_or_concat pre with rfl | ⟨cP,y,hpe⟩
  ·have bf:=HR.out;rw [List.reverse_nil,rN] at bf;rw [show ([]:List Step).length=0 from rfl,Nat.zero_mul] at c0 c1 c2 c3;rw [Nat.zero_add] at c1 c2 c3
   cases xf
   ·rw [if_neg (by simp)] at bf;subst bf;have fj:=ae (Below.refl wr.heap.size wr) (.cells #[.int .i64 xp,.bool false,.slice A xl.length c,.int .i64 (xa:Nat)] 120);have BS:=xh (ax.new wr 120 #[.int .i64 xp,.bool false,.slice A xl.length c,.int .i64 (xa:Nat)]);have y0:=BS.out.ab (i:=0) rfl;have y1:=BS.out.ab (i:=1) rfl;have y2:=BS.out.ab (i:=2) rfl
    have H1:=xh (show TQ _ tb I F qi n Kz∧aG _ 111 3 (.slice A xl.length c) xl.length (aw xl)∧OB b w _ F F from ⟨HA.out.2.1.below fj,(HA.out.1.e ⟨⟨xp,false,xl,xa⟩,A,c⟩ (by simp)).1.below fj,HA.out.2.2.1.below fj⟩);clear fj;have K1:=xh (KL.out _ qi H1.out.1 false A xl.length c xl H1.out.2.1 HXL.out);unfold aT at K1;go_wp2_with fail;refine K1.out.mono ?_;rintro e w6 ⟨rfl,P6,o6⟩;have P6:=xh P6;have o6:=xh o6;clear y0 y1 y2;go_wp2_with fail;go_ret
    exact ⟨by first | rfl | simp,((H1.out.2.2.step hb o6.out (fun _ hg=> .inl hg)).pb P6.out).le (by omega)⟩
   ·rw [if_pos rfl] at bf;subst bf;have fj:=ae (Below.refl wr.heap.size wr) (.cells #[.int .i64 xp,.bool true,.slice A xl.length c,.int .i64 (xa:Nat)] 120);have BS:=xh (ax.new wr 120 #[.int .i64 xp,.bool true,.slice A xl.length c,.int .i64 (xa:Nat)]);have y0:=BS.out.ab (i:=0) rfl;have y1:=BS.out.ab (i:=1) rfl;have y2:=BS.out.ab (i:=2) rfl
    have H1:=xh (show TQ _ tb I F qi n Kz∧aG _ 111 3 (.slice A xl.length c) xl.length (aw xl)∧OB b w _ F F from ⟨HA.out.2.1.below fj,(HA.out.1.e ⟨⟨xp,true,xl,xa⟩,A,c⟩ (by simp)).1.below fj,HA.out.2.2.1.below fj⟩);clear fj;have K1:=xh (KW.out _ qi Kz H1.out.1 (by omega) xp true A xl.length c xl H1.out.2.1 HXL.out);go_wp2_with fail;refine K1.out.mono ?_;rintro e w6 ⟨rfl,P6,o6⟩;have P6:=xh P6;have o6:=xh o6;clear y0 y1 y2;go_wp2_with fail;go_ret
    exact ⟨by first | rfl | simp,((H1.out.2.2.step hb o6.out (fun _ hg=> .inl hg)).pb P6.out).le (by omega)⟩
  ·obtain rfl:pre=cP++[y]:=by simpa using hpe
   clear hpe;have rW:(cP++[y]).length=cP.length+1:=by simp
   generalize (cP++[y]).length=k at *;have s1:IntKind.i64.wrap (((k+1:Nat):Int)-1)=(k:Int):=by rw [show ((k+1:Nat):Int)-1=(k:Int) by omega]; exact IntWalk.i64_in _ (by omega)
   have s2:(k:Int)<((k+1:Nat):Int):=by omega
   have s3:(1:Int)<((k+1:Nat):Int):=by omega
   have s4:IntKind.i64.wrap (k:Int)=(k:Int):=IntWalk.i64_in _ (by omega);have s5:(k:Int)<(k:Int)+1∧0≤(k:Int):=by omega
   have s6:IntKind.i64.wrap ((k:Int)-1)=(cP.length:Int):=by rw [show (k:Int)-1=(cP.length:Int) by omega]; exact IntWalk.i64_in _ (by omega)
   have s7:(cP.length:Int)<(k:Int):=by omega
   have HK2:=xh rW;clear rW;have bf:=HR.out;rw [List.reverse_append,List.reverse_singleton,List.singleton_append,rO] at bf;dsimp only at bf
   by_cases yp:xl.length=0
   ·have hxn:xl=[]:=List.length_eq_zero_iff.1 yp;subst hxn;rw [if_pos rfl] at bf;have KD2:=xh (KD.out _ qi HA.out.2.1.drew xp);have HS1:=xh (show (fun W=>W.cell? ⟨tb,0,none⟩=some (.pointer (some ⟨I.pb,0,none⟩))∧W.cell? ⟨g,k*4,none⟩=some (.int .i64 xp)) wr.drew from ⟨HA.out.2.1.drew.1.ab (i:=0) rfl,(HA.out.1.below (Below.refl _ _).drew).pO nF.out 0 (by omega)⟩);generalize qi.aE xp=R2 at *;obtain ⟨qd,ed⟩:=R2;dsimp only at *;have eh:=xh bf
    obtain ⟨oH,AY,cY,rfl,D9⟩: ∃oH AY cY,Lp=oH++[(⟨y,AY,cY⟩:SM)]∧oH.map SM.s=cP:=by
     have:=HM.out
     rcases List.eq_nil_or_concat Lp with h0 | ⟨oH,Y,h0⟩
     ·rw [h0] at this; simp at this
     ·have h0:Lp=oH++[Y]:=by simpa using h0
      rw [h0,List.map_append] at this;obtain ⟨a1,a2⟩:=List.append_inj' this rfl;obtain ⟨ys,AY,cY⟩:=Y;simp at a2;subst a2;exact ⟨oH,AY,cY,h0,a1⟩
    have HPL':=xh (show oH.length=cP.length from by rw [←D9,List.length_map]);have LX:=xh D9;have hfy:=ln.out y (by simp);have hya:=hfy.1;have hyn:=hfy.2;have vB:(0:Int)≤(k:Int)∧(k:Int)≤(cc:Int):=by omega
    clear bf hfy D9 yp;unfold pp at *;go_wp2_with fail;refine wp_region_held_drew (S:=fun W=>W.cell? ⟨tb,0,none⟩=some (.pointer (some ⟨I.pb,0,none⟩))∧W.cell? ⟨g,k*4,none⟩=some (.int .i64 xp)) (by kernel_rfl) (HS1.out) (fun aj=>?_);refine bR [(0,23),(1,24),(2,25),(3,26),(4,27),(5,28),(6,29),(7,30),(8,31),(9,32),(10,33)] ?_
    iterate 11 (refine zt ?_; try simp only [Act.put,pa,pb,pc])
    refine bS ?_;refine cA (i:=11) (o:=⟨some 34,_,_,_,_,_⟩) fun K hK=>?_;go_simp
    go_at_call 132
    refine KD2.out.mono ?_;rintro e w2 ⟨rfl,P2,o2⟩;have o2:=xh o2;have P2:=xh P2;have zf:=xh (show (fun W=>W.cell? ⟨tb,0,none⟩=some (.pointer (some ⟨I.pb,0,none⟩))∧W.cell? ⟨g,k*4,none⟩=some (.int .i64 xp)) w2 from ⟨(HA.out.2.1.drew.next o2.out P2.out).1.ab (i:=0) rfl,((HA.out.1.below (Below.refl _ _).drew).pL HA.out.2.1.drew.2 o2.out).pO nF.out 0 (by omega)⟩);go_simp;refine hK.out _ _ (zf.out) (fun aj=>?_)
    try simp only [Act.put,pa,pb,pc]
    refine bR [(12,5)] ?_
    iterate 1 (refine zt ?_; try simp only [Act.put,pa,pb,pc])
    refine bS ?_;refine wpAnyH_done (by kernel_rfl) ?_ _;have SA2:=(HA.out.1.below (Below.refl _ _).drew).pL HA.out.2.1.drew.2 o2.out;have hpop:=SA2.pop;rw [nF.out] at hpop;have H2:=xh (show TQ w2 tb I F qd n Kz∧aC w2 b (.slice (some ⟨g,0,none⟩) k cc) (oH++⟨y,AY,cY⟩::[])∧OB b w w2 F F∧b≤w2.heap.size from
     ⟨HA.out.2.1.drew.next o2.out P2.out,hpop,(HA.out.2.2.1.below (Below.refl _ _).drew).step hb o2.out (fun _ hg=> .inl hg),Nat.le_trans HA.out.2.2.2 o2.out.size⟩)
    clear SA2 hpop P2 o2 zf c0 c1 c2 c3
    by_cases he:ed=0
    ·subst he;have bf:=eh.out;rw [if_neg (show ¬((0:Int)≠0) by simp)] at bf;have eh:=xh bf;obtain ⟨w8,vX⟩: ∃w8,w2.drew=w8:=⟨_,rfl⟩;have za:Below w2.heap.size w2 w8:=by rw [←vX]; exact (Below.refl _ _).drew
     have H8:=xh (show TQ w8 tb I F qd n Kz∧aC w8 b (.slice (some ⟨g,0,none⟩) k cc) (oH++⟨y,AY,cY⟩::[])∧OB b w w8 F F∧b≤w8.heap.size from
      ⟨H2.out.1.below za,H2.out.2.1.below za,H2.out.2.2.1.below za,Nat.le_trans H2.out.2.2.2 za.size⟩)
     have Hn:=xh (show (fun W=>W.cell? ⟨g,cP.length*4+3,none⟩=some (.int .i64 (y.at_:Nat))) w8 from H8.out.2.1.pO HPL'.out 3 (by omega));have x8:w8.cell? ⟨g,cP.length*4+2,none⟩=some (.slice AY y.l.length cY):=H8.out.2.1.pO HPL'.out 2 (by omega);have SY:=H8.out.2.1.e ⟨y,AY,cY⟩ (by simp);have KDE:=xh (Nd.mi SY.1 y.at_ hya (show y.l.length≤100000 by omega));have vE:=xh (show (y.l.eraseIdx y.at_).length=y.l.length-1 from by rw [List.length_eraseIdx_of_lt hya])
     have s8:IntKind.i64.wrap ((y.at_:Int)+1)=(y.at_:Int)+1:=IntWalk.i64_in _ (by omega);have HS9:=xh (show ∀W,ag (ah (.slice AY y.l.length cY)) w8 W→(fun W=>W.cell? ⟨g,cP.length*4+3,none⟩=some (.int .i64 (y.at_:Nat))) W from fun W o=>by
      have hgY:g∉ah (.slice AY y.l.length cY):=fun hm=>fo SY.1 H8.out.2.1.s (by decide) g hm (by simp [ah]);exact (o.cell (p:=⟨g,cP.length*4+3,none⟩) (da Hn.out) hgY).trans Hn.out)
     clear SY za bf;go_wp2_with fail;refine wp_region_held_drew (S:=fun W=>W.cell? ⟨g,cP.length*4+3,none⟩=some (.int .i64 (y.at_:Nat))) (by kernel_rfl) (by rw [vX]; exact Hn.out) (fun aj=>?_);rw [vX];clear vX;refine bR [(0,48),(1,49),(2,50),(3,51),(4,52),(6,54),(7,55),(8,56),(9,57),(10,58),(11,59),(12,60),(13,61),(14,62)] ?_
     iterate 14 (refine zt ?_; try simp only [Act.put,pa,pb,pc])
     refine bS ?_;refine cA (i:=5) (o:=⟨some 53,_,_,_,_,_⟩) fun K hK=>?_;go_simp;refine hK.out _ _ (Hn.out) (fun aj=>?_)
     try simp only [Act.put,pa,pb,pc]
     refine cA (i:=15) (o:=⟨some 63,_,_,_,_,_⟩) fun K hK=>?_;go_simp
     go_at_call 72
     refine KDE.out.mono ?_;rintro e w9 ⟨rfl,S9,o9⟩;have S9:=xh S9;have o9:=xh o9;have Fs:=xh (HS9.out w9 o9.out);go_simp;refine hK.out _ _ (Fs.out) (fun aj=>?_)
     try simp only [Act.put,pa,pb,pc]
     refine bR [(16,64),(17,65),(18,66)] ?_
     iterate 3 (refine zt ?_; try simp only [Act.put,pa,pb,pc])
     refine bS ?_;refine cA (i:=19) (o:=⟨none,_,_,_,_,_⟩) fun K hK=>?_;go_simp;obtain ⟨SP,sx,sz⟩:=H8.out.2.1.put (Lp:=oH) (Ls:=[]) (y.l.eraseIdx y.at_) (A':=AY) (c':=cY) (by rw [vE.out]; exact S9.out) o9.out (fun z hz=> .inl ((Mj AY _ _ _ _)▸hz)) H8.out.2.2.2;rw [HPL'.out] at SP sx sz;rw [vE.out] at SP;have SP:=xh SP
     replace sx:w9.cell? ⟨g,cP.length*4+2,none⟩=some (.slice AY y.l.length cY):=sx
     have nt:=xh (show ag (g::ah (.slice AY y.l.length cY)) w8 (w9.setCell ⟨g,cP.length*4+2,none⟩ (.slice AY (y.l.length-1) cY)) from (o9.out.mono (fun x hx _=>List.mem_cons_of_mem _ hx)).setCell (by simp) _);have qX:=xh (show (fun W=>W.cell? ⟨g,cP.length*4+3,none⟩=some (.int .i64 (y.at_:Nat))) (w9.setCell ⟨g,cP.length*4+2,none⟩ (.slice AY (y.l.length-1) cY)) from SP.out.pO HPL'.out 3 (by omega));go_simp;refine hK.out _ _ (qX.out) (fun aj=>?_)
     try simp only [Act.put,pa,pb,pc]
     refine wpAnyH_done (by kernel_rfl) ?_ _;have ik:=H8.out.2.1.off H8.out.1.2;have pM:=H8.out.2.1.tree H8.out.1.1
     have HN:=xh (show aC (w9.setCell ⟨g,cP.length*4+2,none⟩ (.slice AY (y.l.length-1) cY)) b (.slice (some ⟨g,0,none⟩) k cc) (oH++[⟨{y with l:=y.l.eraseIdx y.at_},AY,cY⟩])∧TQ (w9.setCell ⟨g,cP.length*4+2,none⟩ (.slice AY (y.l.length-1) cY)) tb I F qd n Kz∧OB b w (w9.setCell ⟨g,cP.length*4+2,none⟩ (.slice AY (y.l.length-1) cY)) F F∧b≤(w9.setCell ⟨g,cP.length*4+2,none⟩ (.slice AY (y.l.length-1) cY)).heap.size from
      ⟨SP.out,H8.out.1.only nt.out (fun z hz hm=>by
       rcases List.mem_cons.1 hz with h1 | h1<;>rcases List.mem_cons.1 hm with h2 | h2
       ·exact pM.1 (by rw [←h1,h2]; simp [ah])
       ·exact pM.2 ⟨y,AY,cY⟩ (by simp) (by rw [←h1]; exact h2)
       ·exact ik.1 z (by rw [h2]; simp [ah]) h1
       ·exact ik.2 ⟨y,AY,cY⟩ (by simp) z h2 h1),H8.out.2.2.1.own nt.out (fun z hz=>by
       rcases List.mem_cons.1 hz with h2 | h2
       ·rw [h2]; exact H8.out.2.1.f g (by simp [ah])
       ·exact (H8.out.2.1.e ⟨y,AY,cY⟩ (by simp)).2 z h2),Nat.le_trans H8.out.2.2.2 nt.out.size⟩)
     clear ik pM;go_wp2_with fail;go_roundw
     case rel=>exact ⟨cP,{y with l:=y.l.eraseIdx y.at_},oH,AY,cY,qd,by have:=HK2.out; omega,by have:=HK2.out; omega,by rw [HK2.out],LX,eh,xh (fun s hs=>ln.out s (by simp [hs])),xh (show (y.l.eraseIdx y.at_).length≤1000 from by rw [vE.out]; omega),by rw [←HK2.out]; exact HN⟩
     case measure=>(have:=HK2.out; simp only [Fo]; omega)
    ·have bf:=eh.out;rw [if_pos he] at bf;subst bf;have hq:(ed != 0)=true:=by rw [bne_iff_ne]; exact he
     have jm:(ed==0)=false:=by rw [beq_eq_false_iff_ne]; exact he
     go_wp2_with fail;go_ret;exact ⟨by first | rfl | simp,(H2.out.2.2.1.pb H2.out.1.2).le (by omega)⟩
   ·rw [if_neg (fun e=>yp (by rw [e]; rfl))] at bf;subst bf;have hx1:((xl.length:Nat):Int)≠0:=by omega
    have hx2:(((xl.length:Nat):Int)==0)=false:=by rw [beq_eq_false_iff_ne]; exact hx1
    have fj:=ae (Below.refl wr.heap.size wr) (.cells #[.int .i64 xp,.bool xf,.slice A xl.length c,.int .i64 (xa:Nat)] 120);have BS:=xh (ax.new wr 120 #[.int .i64 xp,.bool xf,.slice A xl.length c,.int .i64 (xa:Nat)]);have y0:=BS.out.ab (i:=0) rfl;have y1:=BS.out.ab (i:=1) rfl;have y2:=BS.out.ab (i:=2) rfl
    have H1:=xh (show TQ _ tb I F qi n Kz∧aG _ 111 3 (.slice A xl.length c) xl.length (aw xl)∧OB b w _ F F from ⟨HA.out.2.1.below fj,(HA.out.1.e ⟨⟨xp,xf,xl,xa⟩,A,c⟩ (by simp)).1.below fj,HA.out.2.2.1.below fj⟩);clear fj;have K1:=xh (KW.out _ qi Kz H1.out.1 (by omega) xp xf A xl.length c xl H1.out.2.1 HXL.out);go_wp2_with fail;refine K1.out.mono ?_;rintro e w6 ⟨rfl,P6,o6⟩;have P6:=xh P6;have o6:=xh o6;clear y0 y1 y2;go_wp2_with fail;go_ret
    exact ⟨by first | rfl | simp,((H1.out.2.2.step hb o6.out (fun _ hg=> .inl hg)).pb P6.out).le (by omega)⟩
def QS.mu (q:QS) (key:ByteArray):QS×Int:=
 if (q.dq key).2.2≠0 then ((q.dq key).1,(q.dq key).2.2)
 else if bI (fT (q.dq key).2.1).l key=false then ((q.dq key).1,9)
 else if ((q.dq key).1.iY (fT (q.dq key).2.1).l key).2≠0 then (q.dq key).1.iY (fT (q.dq key).2.1).l key
 else eO ({fT (q.dq key).2.1 with l:=mr (fT (q.dq key).2.1).l key}::(q.dq key).2.1.dropLast.reverse) ((q.dq key).1.iY (fT (q.dq key).2.1).l key).1
theorem Mk {w:World} {tb:Nat} {I:Ix} {F:List Nat} {q:QS} {n Kz:Nat} (h:TQ w tb I F q n Kz) (LS:Kz≤999999970000) (key:ByteArray):
  Calls Tryz.prog 26 #[tp tb,.string key] w fun e w'=>e= .returned (.int .i64 (q.mu key).2)∧PT w w' I F (q.mu key).1 n (Kz+700):=by
 have KW:=xh (uL h (by omega) key);have HT:=xh h;have dS:=D8 (q:=q) (key:=key);unfold QS.mu;generalize q.dq key=R at *;obtain ⟨q1,steps,er⟩:=R;dsimp only at *;unfold tp at *
 by_cases he:er=0
 ·subst he;obtain ⟨pre,x,rfl,nS,hnl,mf,hlen⟩:=dS rfl;rw [if_neg (by simp),show fT (pre++[x])=x from by unfold fT; simp,show (pre++[x]).dropLast=pre from by simp];have hxo:=mf x (by simp);obtain ⟨hm,hl57,_⟩:=hxo;have hm:=xh hm;have ln:=xh (show ∀s∈pre,Fit s from fun s hs=>(mf s (by simp [hs])).fit (hnl s hs));clear dS hnl mf nS h
  obtain ⟨RR,bf⟩: ∃RR,(if bI x.l key=false then (q1,9) else if (q1.iY x.l key).2≠0 then q1.iY x.l key else eO ({x with l:=mr x.l key}::pre.reverse) (q1.iY x.l key).1)=RR:=⟨_,rfl⟩;rw [bf];have eh:=xh bf;clear bf;go_enter Tryz.func26,Tryz.ntmps26;go_wp2_with fail;refine KW.out.mono ?_;rintro e w1 ⟨v,L,rfl,SA,kH,P1,o1⟩;have Mb:=SA.last kH;obtain ⟨Lp,A,c,g,cc,rfl,ji,rfl,hbg,Cc,rl,fi,IY,S1,f1⟩:=Mb
  have H1:=xh (show TQ w1 tb I F q1 n (Kz+16)∧aC w1 w.heap.size (.slice (some ⟨g,0,none⟩) (pre.length+1) cc) (Lp++[⟨x,A,c⟩])∧OB w.heap.size w w1 F F∧w.heap.size≤w1.heap.size from ⟨HT.out.next o1 P1,SA,(OB.refl w.heap.size w F).step (Nat.le_refl _) o1 (fun _ hg=> .inl hg),o1.size⟩);have nF:=xh (show Lp.length=pre.length from by rw [←ji,List.length_map]);have LX:=xh ji;have S1:=xh S1;have x1:w1.cell? ⟨g,pre.length*4+1,none⟩=some (.bool x.leaf):=fi 1 (by omega)
  have x2:w1.cell? ⟨g,pre.length*4+1+1,none⟩=some (.slice A x.l.length c):=fi 2 (by omega);have s1:IntKind.i64.wrap (((pre.length+1:Nat):Int)-1)=(pre.length:Int):=by rw [show ((pre.length+1:Nat):Int)-1=(pre.length:Int) by omega]; exact IntWalk.i64_in _ (by omega)
  have s2:(pre.length:Int)<((pre.length+1:Nat):Int):=by omega
  have KF:=xh (Nd.qP x.leaf A x.l.length c x.l key (Nd.aG.aw S1.out).2 (by omega) hm.out);unfold aT at KF;clear SA kH P1 o1 ji fi IY f1;go_wp2_with fail;refine KF.out.mono ?_;rintro e w3 ⟨rfl,eG⟩;have O3:=xh eG
  have H3:=xh (show TQ w3 tb I F q1 n (Kz+16)∧aC w3 w.heap.size (.slice (some ⟨g,0,none⟩) (pre.length+1) cc) (Lp++[⟨x,A,c⟩])∧OB w.heap.size w w3 F F∧w.heap.size≤w3.heap.size from ⟨H1.out.1.below O3.out,H1.out.2.1.below O3.out,H1.out.2.2.1.below O3.out,Nat.le_trans H1.out.2.2.2 O3.out.size⟩);have S3:=xh (S1.out.below eG);have u2:w3.cell? ⟨g,pre.length*4+1+1,none⟩=some (.slice A x.l.length c):=(O3.out.cell (p:=⟨g,pre.length*4+1+1,none⟩) (da x2)).trans x2
  clear x1 x2 eG H1 S1 O3
  by_cases hh:bI x.l key=true
  ·have bf:=eh.out;rw [if_neg (by rw [hh]; simp)] at bf;have eh:=xh bf;clear bf;obtain ⟨ex,hex⟩:=uO hh;have hfx:x.l.getD (aK x.l key) Nd.E.zero=ex:=by rw [List.getD_eq_getElem?_getD,hex]; rfl
   have bf:=eh.out;unfold QS.iY mr at bf;rw [if_pos hh,if_pos hh,hfx] at bf;generalize bI x.l key=hb at *;subst hh;have lY:aK x.l key<x.l.length:=(List.getElem?_eq_some_iff.1 hex).1;generalize aK x.l key=at_ at *;obtain ⟨ad,qU,eM⟩:=(Nd.aG.aw S3.out).2.2 at_ ex hex;obtain ⟨ga,ca,uM,wO,_⟩:=S3.out.form (by omega) (by omega);injection wO with e1 ezz e3
   clear ezz;subst e1 e3;injection qU with qU
   subst qU;rw [Nd.eX,Nat.zero_add] at eM;have u3:=eM.c0;have u4:=eM.c1;have u5:=eM.c2;dsimp only at u4 u5;have KA:=xh (xy H3.out.1 (by omega) ex);unfold E.agg tp at KA;have hflI:(at_:Int)<(x.l.length:Int):=by omega
   generalize q1.mq ex=R2 at *;obtain ⟨q2,e2⟩:=R2;dsimp only at *;have eh:=xh bf;clear eM hex hfx bf;go_wp2_with fail;refine KA.out.mono ?_;rintro e w4 ⟨rfl,P4,o4⟩
   have H4:=xh (show TQ w4 tb I F q2 n (Kz+21)∧aC w4 w.heap.size (.slice (some ⟨g,0,none⟩) (pre.length+1) cc) (Lp++[⟨x,some ⟨ga,0,none⟩,c⟩])∧OB w.heap.size w w4 F F∧w.heap.size≤w4.heap.size from ⟨H3.out.1.next o4 P4,H3.out.2.1.pL H3.out.1.2 o4,H3.out.2.2.1.step (Nat.le_refl _) o4 (fun _ hg=> .inl hg),Nat.le_trans H3.out.2.2.2 o4.size⟩);clear P4 o4 u2 u3 u4 u5 S3
   by_cases sE:e2=0
   ·subst sE;have bf:=eh.out;rw [if_neg (show ¬((0:Int)≠0) by simp)] at bf;have eh:=xh bf;have SX:=H4.out.2.1.e ⟨x,some ⟨ga,0,none⟩,c⟩ (by simp);have KD:=xh (Nd.mi SX.1 at_ lY (show x.l.length≤100000 by omega));have u2:=H4.out.2.1.cell (k:=Lp.length) (Z:=⟨x,some ⟨ga,0,none⟩,c⟩) (by rw [List.getElem?_append_right (Nat.le_refl _),Nat.sub_self]; rfl) 2 (by omega);rw [nF.out] at u2
    replace u2:w4.cell? ⟨g,pre.length*4+1+1,none⟩=some (.slice (some ⟨ga,0,none⟩) x.l.length c):=u2
    have vE:=xh (show (x.l.eraseIdx at_).length=x.l.length-1 from by rw [List.length_eraseIdx_of_lt lY]);have s7:IntKind.i64.wrap ((at_:Int)+1)=(at_:Int)+1:=IntWalk.i64_in _ (by omega);clear SX bf;go_wp2_with fail;refine KD.out.mono ?_;rintro e w5 ⟨rfl,S5,o5⟩;obtain ⟨SP,sx,sz⟩:=H4.out.2.1.put (Lp:=Lp) (Ls:=[]) (x.l.eraseIdx at_) (A':=some ⟨ga,0,none⟩) (c':=c) (by rw [vE.out]; exact S5) o5 (fun z hz=> .inl hz) H4.out.2.2.2;rw [nF.out] at SP sx sz;rw [vE.out] at SP
    replace sx:w5.cell? ⟨g,pre.length*4+1+1,none⟩=some (.slice (some ⟨ga,0,none⟩) x.l.length c):=sx
    replace sz:w5.frozen? ⟨g,pre.length*4+1+1,none⟩=false:=sz
    have O5:ag (g::ah (.slice (some ⟨ga,0,none⟩) x.l.length c)) w4 (w5.setCell ⟨g,pre.length*4+1+1,none⟩ (.slice (some ⟨ga,0,none⟩) (x.l.length-1) c)):=(o5.mono (fun x hx _=>List.mem_cons_of_mem _ hx)).setCell (by simp) _;have ik:=H4.out.2.1.off H4.out.1.2;have pM:=H4.out.2.1.tree H4.out.1.1
    have H5:=xh (show TQ (w5.setCell ⟨g,pre.length*4+1+1,none⟩ (.slice (some ⟨ga,0,none⟩) (x.l.length-1) c)) tb I F q2 n (Kz+21)∧aC (w5.setCell ⟨g,pre.length*4+1+1,none⟩ (.slice (some ⟨ga,0,none⟩) (x.l.length-1) c)) w.heap.size (.slice (some ⟨g,0,none⟩) (pre.length+1) cc) (Lp++[⟨{x with l:=x.l.eraseIdx at_},some ⟨ga,0,none⟩,c⟩])∧OB w.heap.size w (w5.setCell ⟨g,pre.length*4+1+1,none⟩ (.slice (some ⟨ga,0,none⟩) (x.l.length-1) c)) F F∧w.heap.size≤(w5.setCell ⟨g,pre.length*4+1+1,none⟩ (.slice (some ⟨ga,0,none⟩) (x.l.length-1) c)).heap.size from
     ⟨H4.out.1.only O5 (fun z hz hm=>by
      rcases List.mem_cons.1 hz with h1 | h1<;>rcases List.mem_cons.1 hm with h2 | h2
      ·exact pM.1 (by rw [←h1,h2]; simp [ah])
      ·exact pM.2 ⟨x,some ⟨ga,0,none⟩,c⟩ (by simp) (by rw [←h1]; exact h2)
      ·exact ik.1 z (by rw [h2]; simp [ah]) h1
      ·exact ik.2 ⟨x,some ⟨ga,0,none⟩,c⟩ (by simp) z h2 h1),SP,H4.out.2.2.1.own O5 (fun z hz=>by
      rcases List.mem_cons.1 hz with h2 | h2
      ·rw [h2]; exact H4.out.2.1.f g (by simp [ah])
      ·exact (H4.out.2.1.e ⟨x,some ⟨ga,0,none⟩,c⟩ (by simp)).2 z h2),Nat.le_trans H4.out.2.2.2 O5.size⟩)
    clear SP S5 o5 O5 ik pM;obtain ⟨w6,Ft⟩: ∃w6,(w5.setCell ⟨g,pre.length*4+1+1,none⟩ (.slice (some ⟨ga,0,none⟩) (x.l.length-1) c))=w6:=⟨_,rfl⟩;rw [Ft] at H5;have pN:=eh.out;have KSH:=xh (Bd (b:=w.heap.size) pre {x with l:=x.l.eraseIdx at_} H5.out.1 (by omega) H5.out.2.1 H5.out.2.2.2 (by rw [List.map_append,LX.out]; rfl) (fun s hs=>⟨(ln.out s hs).a,by have:=(ln.out s hs).n; omega⟩) (by show (x.l.eraseIdx at_).length≤1000; rw [vE.out]; omega) (by omega))
    rw [pN] at KSH;unfold tp at KSH;clear pN;go_wp2_with fail;refine KSH.out.mono ?_;rintro e w7 ⟨rfl,P7⟩;have P7:=xh P7;clear Ft sx sz u2;go_wp2_with fail;go_ret;exact ⟨by first | rfl | simp,((H5.out.2.2.1.trans P7.out).pt (Nat.le_refl _)).le (by omega)⟩
   ·have bf:=eh.out;rw [if_pos sE] at bf;subst bf;have hq:(e2 != 0)=true:=by rw [bne_iff_ne]; exact sE
    have jm:(e2==0)=false:=by rw [beq_eq_false_iff_ne]; exact sE
    go_wp2_with fail;go_ret;exact ⟨by first | rfl | simp,((H4.out.2.2.1.pb H4.out.1.2).pt (Nat.le_refl _)).le (by omega)⟩
  ·have hh2:bI x.l key=false:=by simpa using hh
   have bf:=eh.out;rw [if_pos hh2] at bf;subst bf;generalize bI x.l key=hb at *;subst hh2;clear hh;go_wp2_with fail;go_ret;exact ⟨by first | rfl | simp,((H3.out.2.2.1.pb H3.out.1.2).pt (Nat.le_refl _)).le (by omega)⟩
 ·rw [if_pos he];have hq:(er != 0)=true:=by rw [bne_iff_ne]; exact he
  have jm:(er==0)=false:=by rw [beq_eq_false_iff_ne]; exact he
  clear dS;go_enter Tryz.func26,Tryz.ntmps26;go_wp2_with fail;refine KW.out.mono ?_;rintro e w1 ⟨v,L,rfl,SA,kH,P1,o1⟩;have P1:=xh P1;have o1:=xh o1;clear SA kH;go_wp2_with fail;go_ret;exact ⟨by first | rfl | simp,(PT.self P1.out o1.out).le (by omega)⟩
end Go.Proofs.YtmonobkginiajaaGreat.Sh
namespace Go.Proofs.YtmonobkginiajaaGreat.Sh
open Go.RowKit Pk Dk Pg
open Nd (E aw aT aF aJ cM bg aK bI bj)
attribute [local go_sem ↓] Go.wp_at_zero Go.wp_at_succ
def gY:List UInt8:=(aJ true []).1
def QS.uU (q:QS):QS×Int:=if q.a.jL.length=0 then ((q.bm gY).1,(q.bm gY).2.2) else (q,0)
def QS.nG (q:QS):QS×Int:=if q.uU.2≠0 then q.uU else ((q.uU.1.bl 0).1,(q.uU.1.bl 0).2.2.2)
def Opened (w w':World) (I:Ix) (F:List Nat) (q:QS) (e:Int) (n K:Nat) (v:Value):Prop:=
 ∃F',ag F w w'∧(∀g∈F',g∈F∨w.heap.size≤g)∧PQ w' I F' q n K∧(e≠0→v= .pointer none)∧(e=0→ ∃tb,v=tp tb∧w.heap.size≤tb∧TQ w' tb I F' q n K)
theorem Hr {w:World} {I:Ix} {F:List Nat} {q:QS} {n K:Nat} (h:PQ w I F q n K) (hK:K≤999999999000):
  Calls Tryz.prog 24 #[pp I.pb] w fun e w'=> ∃v,e= .returned (.tuple #[v,.int .i64 q.nG.2])∧Opened w w' I F q.nG.1 q.nG.2 n (K+2) v:=by
 have fj:=ae (Below.refl w.heap.size w) (.cells #[pp I.pb] 130);obtain ⟨wT,hwT⟩: ∃wT,w.heap.size=wT:=⟨_,rfl⟩;have HWT:=xh hwT;have BT:=ax.new w 130 #[pp I.pb];rw [hwT] at BT;have H1:=xh (show TQ _ wT I F q n K∧ag F w _ from ⟨⟨BT,h.below fj⟩,.ak fj⟩);have K1:=xh (DB H1.out.1.2);have K2:=xh (DE H1.out.1.2);unfold QS.nG QS.uU;unfold pp sp at *
 by_cases h0:q.a.jL.length=0
 ·rw [if_pos h0];rw [h0] at K2;have K3:=xh (fun (W:World)=>Nd.uG (w:=W) true none 0 0 [] ⟨rfl,fun k e he=>by simp at he⟩ (by omega));have hl:=Nd.rK true [];have hleaf:aJ true []=(gY,0):=by unfold gY; decide
  rw [hleaf] at K3 hl;dsimp only at K3 hl;have KN:=xh (fun (W:World) (hW:PQ W I F q n K)=>uc hW (by omega) ⟨gY.toArray⟩ (by show gY.toArray.size≤232; simp; exact hl));have HLB:=xh (show (⟨gY.toArray⟩:ByteArray).data.toList=gY from by simp);rw [HLB.out] at KN;generalize q.bm gY=R at *;obtain ⟨q1,p1,e1⟩:=R;dsimp only at *;unfold aT at K3;unfold pp at KN;obtain ⟨RR,bf⟩: ∃RR,(if e1≠0 then (q1,e1) else ((q1.bl 0).1,(q1.bl 0).2.2.2))=RR:=⟨_,rfl⟩;rw [bf]
  have eh:=xh bf;clear bf;go_enter Tryz.func24,Tryz.ntmps24;go_wp2_with fail;refine K1.out.mono ?_;rintro e w2 ⟨rfl,rfl⟩;go_wp2_with fail;refine K2.out.mono ?_;rintro e w3 ⟨A3,c3,rfl,S3,eG⟩;have H3:=xh (show TQ w3 wT I F q n K∧ag F w w3 from ⟨H1.out.1.below eG,H1.out.2.trans (.ak eG)⟩);clear S3 eG;go_wp2_with fail;refine (K3.out w3).mono ?_;rintro e w4 ⟨rfl,fM⟩
  have H4:=xh (show TQ w4 wT I F q n K∧ag F w w4 from ⟨H3.out.1.below fM,H3.out.2.trans (.ak fM)⟩);clear fM;go_wp2_with fail;refine (KN.out w4 H4.out.1.2).mono ?_;rintro e w5 ⟨rfl,P5⟩;obtain ⟨F1,T5,o5,f5⟩:=P5.tq H4.out.1;have HT:=xh (show TQ w5 wT I F1 q1 n (K+1)∧ag F w w5∧(∀g∈F1,g∈F∨w.heap.size≤g) from ⟨T5,H4.out.2.trans o5,fun g hg=>(f5 g hg).imp id (fun h=>Nat.le_trans H4.out.2.size h)⟩);clear P5 T5 o5 f5
  by_cases he1:e1=0
  ·subst he1;have bf:=eh.out;rw [if_neg (show ¬((0:Int)≠0) by simp)] at bf;have K9:=xh (kF HT.out.1 (by omega) 0);have hlen:=jA q1 0;generalize q1.bl 0=r at *;obtain ⟨q2,lf,l,er⟩:=r;dsimp only at *;subst bf;unfold tp aT at K9;go_wp2_with fail;refine K9.out.mono ?_;rintro e w9 ⟨A9,c9,rfl,S9,f9,P9,o9⟩;have gv:=ae (Below.refl w9.heap.size w9) (.cells #[.bool lf,.slice A9 l.length c9] 118)
   have H9:=xh (show TQ _ wT I F1 q2 n (K+2)∧ag F w _∧(∀g∈F1,g∈F∨w.heap.size≤g) from ⟨(HT.out.1.next o9 P9).below gv,(HT.out.2.1.aS o9 (fun g hg dL=>(HT.out.2.2 g hg).elim id (fun h=>by omega))).trans (.ak gv),HT.out.2.2⟩);clear S9 f9 P9 o9 gv
   by_cases he:er=0
   ·subst he;go_wp2_with fail;go_ret2;exact ⟨_,by first | rfl | simp,F1,H9.out.2.1,H9.out.2.2,H9.out.1.2,fun h=>absurd rfl h,fun _=>⟨wT,by unfold tp; first | rfl | simp [HWT.out],by rw [←HWT.out]; exact Nat.le_refl _,H9.out.1⟩⟩
   ·have hq:(er != 0)=true:=by rw [bne_iff_ne]; exact he
    have jm:(er==0)=false:=by rw [beq_eq_false_iff_ne]; exact he
    go_wp2_with fail;go_ret2;exact ⟨_,by first | rfl | simp,F1,H9.out.2.1,H9.out.2.2,H9.out.1.2,fun _=>rfl,fun h=>absurd h he⟩
  ·have bf:=eh.out;rw [if_pos he1] at bf;subst bf;have hq:(e1 != 0)=true:=by rw [bne_iff_ne]; exact he1
   have jm:(e1==0)=false:=by rw [beq_eq_false_iff_ne]; exact he1
   go_wp2_with fail;go_ret2;exact ⟨_,by first | rfl | simp,F1,HT.out.2.1,HT.out.2.2,HT.out.1.2.le (by omega),fun _=>rfl,fun h=>absurd h he1⟩
 ·rw [if_neg h0,if_neg (show ¬((0:Int)≠0) by simp)];dsimp only;have h0I:((q.a.jL.length:Nat):Int)≠0:=by omega
  generalize q.a.jL.length=np at *;obtain ⟨RR,bf⟩: ∃RR,((q.bl 0).1,(q.bl 0).2.2.2)=RR:=⟨_,rfl⟩;rw [show (q.bl 0).1=RR.1 from by rw [←bf],show (q.bl 0).2.2.2=RR.2 from by rw [←bf]];have eh:=xh bf;clear bf;go_enter Tryz.func24,Tryz.ntmps24;go_wp2_with fail;refine K1.out.mono ?_;rintro e w2 ⟨rfl,rfl⟩;go_wp2_with fail;refine K2.out.mono ?_;rintro e w3 ⟨A3,c3,rfl,S3,eG⟩
  have HT:=xh (show TQ w3 wT I F q n (K+1)∧ag F w w3∧(∀g∈F,g∈F∨w.heap.size≤g) from ⟨(H1.out.1.below eG).le (by omega),H1.out.2.trans (.ak eG),fun g hg=> .inl hg⟩);clear S3 eG;have bf:=eh.out;have K9:=xh (kF HT.out.1 (by omega) 0);have hlen:=jA q 0;generalize q.bl 0=r at *;obtain ⟨q2,lf,l,er⟩:=r;dsimp only at *;subst bf;unfold tp aT at K9;go_wp2_with fail;refine K9.out.mono ?_;rintro e w9 ⟨A9,c9,rfl,S9,f9,P9,o9⟩
  have gv:=ae (Below.refl w9.heap.size w9) (.cells #[.bool lf,.slice A9 l.length c9] 118);have H9:=xh (show TQ _ wT I F q2 n (K+2)∧ag F w _∧(∀g∈F,g∈F∨w.heap.size≤g) from ⟨(HT.out.1.next o9 P9).below gv,(HT.out.2.1.aS o9 (fun g hg dL=>(HT.out.2.2 g hg).elim id (fun h=>by omega))).trans (.ak gv),HT.out.2.2⟩);clear S9 f9 P9 o9 gv
  by_cases he:er=0
  ·subst he;go_wp2_with fail;go_ret2;exact ⟨_,by first | rfl | simp,F,H9.out.2.1,H9.out.2.2,H9.out.1.2,fun h=>absurd rfl h,fun _=>⟨wT,by unfold tp; first | rfl | simp [HWT.out],by rw [←HWT.out]; exact Nat.le_refl _,H9.out.1⟩⟩
  ·have hq:(er != 0)=true:=by rw [bne_iff_ne]; exact he
   have jm:(er==0)=false:=by rw [beq_eq_false_iff_ne]; exact he
   go_wp2_with fail;go_ret2;exact ⟨_,by first | rfl | simp,F,H9.out.2.1,H9.out.2.2,H9.out.1.2,fun _=>rfl,fun h=>absurd h he⟩
end Go.Proofs.YtmonobkginiajaaGreat.Sh
namespace Go.Proofs.YtmonobkginiajaaGreat.Sh
open Go.RowKit Pk Dk Pg
open Nd (E aw aT aF aJ cM bg aK bI bj)
attribute [local go_sem ↓] Go.wp_at_zero Go.wp_at_succ
structure Wk (σ:Type) where
 q:QS
 seen:Nat
 s:σ
 more:Bool
 e:Int
section
variable {σ:Type}
def jR (fr:ByteArray) (leaf:Bool) (first i:Nat) (x:E):Bool:=decide (i<first) || (leaf && Op.bytesLess x.key.toList fr.toList)
def iZ (aW:ByteArray) (leaf:Bool) (i:Nat) (x:E):Bool:= !(aW.toList==[]) && !Op.bytesLess x.key.toList aW.toList && (leaf || decide (0<i))
def fG (rec:QS→Nat→σ→Int→Wk σ) (step:E→σ→σ×Bool) (fr aW:ByteArray) (leaf:Bool) (first:Nat):Nat→List E→QS→Nat→σ→Wk σ
 | _,[],q,seen,s=>⟨q,seen,s,true,0⟩
 | i,x::l,q,seen,s=>
  if jR fr leaf first i x=true then fG rec step fr aW leaf first (i+1) l q seen s
  else if iZ aW leaf i x=true then ⟨q,seen,s,false,0⟩
  else if leaf=true then
   if (step x s).2=true then fG rec step fr aW leaf first (i+1) l q seen (step x s).1
   else ⟨q,seen,(step x s).1,false,0⟩
  else
   if (rec q seen s x.aH).more=true∧(rec q seen s x.aH).e=0 then fG rec step fr aW leaf first (i+1) l (rec q seen s x.aH).q (rec q seen s x.aH).seen (rec q seen s x.aH).s
   else rec q seen s x.aH
def eo (step:E→σ→σ×Bool) (fr aW:ByteArray):Nat→QS→Nat→σ→Int→Wk σ
 | 0,q,seen,s,_=>⟨q,seen+1,s,false,14⟩
 | d+1,q,seen,s,p=>
  if 512<seen+1 then ⟨q,seen+1,s,false,14⟩
  else if (q.bl p).2.2.2≠0 then ⟨(q.bl p).1,seen+1,s,false,(q.bl p).2.2.2⟩
  else fG (eo step fr aW d) step fr aW (q.bl p).2.1 (if (q.bl p).2.1=true then 0 else bg (q.bl p).2.2.1 fr) 0 (q.bl p).2.2.1 (q.bl p).1 (seen+1) s
def QS.ja (q:QS) (step:E→σ→σ×Bool) (fr aW:ByteArray) (s:σ):Wk σ:=eo step fr aW 16 q 0 s 0
structure Vis (fn:Nat) (cG:Array Value) (step:E→σ→σ×Bool) (gq:σ→Nat) (Inv:World→σ→List Nat→Prop):Prop where
 call: ∀(W:World) (s:σ) (G:List Nat) (x:E),Inv W s G→gq s≤100000→x.key.size≤32→Calls Tryz.prog fn (#[x.agg]++cG) W fun e w'=>e= .returned (.bool (step x s).2)∧ ∃G',Inv w' (step x s).1 G'∧ag G W w'∧ ∀g∈G',g∈G∨W.heap.size≤g
 ni: ∀(W w':World) (s:σ) (G S:List Nat),Inv W s G→ag S W w'→(∀g∈G,g∉S)→Inv w' s G
 lt: ∀(W:World) (s:σ) (G:List Nat),Inv W s G→ ∀g∈G,g<W.heap.size
 ent: ∀(args:Array Value) (W:World),Sem.run Tryz.prog (callFunc fn args) W=Result.ok (.enter fn args) W
 one: ∀(x:E) (s:σ),gq (step x s).1≤gq s+1
end
structure Ev where
 sB:Nat
 tB:Nat
 fB:Nat
 oB:Nat
 dB:Nat
 kB:Nat
def Ev.l (v:Ev):List Nat:=[v.sB,v.tB,v.fB,v.oB,v.dB,v.kB]
def Ev.cG (v:Ev):Array Value:= #[.pointer (some ⟨v.sB,0,none⟩),.pointer (some ⟨v.tB,0,none⟩),.pointer (some ⟨v.fB,0,none⟩),.pointer (some ⟨v.oB,0,none⟩),.pointer (some ⟨v.dB,0,none⟩),.pointer (some ⟨v.kB,0,none⟩)]
structure ny (w:World) (v:Ev) (tb:Nat) (fr aW:ByteArray) (fn:Nat) (cG:Array Value) (seen:Nat):Prop where
 s:ax w v.sB 3 #[.int .i64 (seen:Nat)]
 t:ax w v.tB 35 #[tp tb]
 f:ax w v.fB 9 #[.string fr]
 o:ax w v.oB 9 #[.string aW]
 d:ax w v.dB 112 #[.func (.func fn) #[] cG]
 k:ax w v.kB 191 #[.func (.func 109) #[] v.cG]
section
variable {w w':World} {v:Ev} {tb:Nat} {fr aW:ByteArray} {fn:Nat} {cG:Array Value} {seen:Nat} {S:List Nat}
theorem ny.only (h:ny w v tb fr aW fn cG seen) (o:ag S w w') (hd: ∀g∈v.l,g∉S):ny w' v tb fr aW fn cG seen:=
 ⟨h.s.only o (hd _ (by simp [Ev.l])),h.t.only o (hd _ (by simp [Ev.l])),h.f.only o (hd _ (by simp [Ev.l])),h.o.only o (hd _ (by simp [Ev.l])),h.d.only o (hd _ (by simp [Ev.l])),h.k.only o (hd _ (by simp [Ev.l]))⟩
theorem ny.below (h:ny w v tb fr aW fn cG seen) (hb:Below w.heap.size w w'):ny w' v tb fr aW fn cG seen:=h.only (S:=[]) (.ak hb) (by simp)
theorem ny.lt (h:ny w v tb fr aW fn cG seen): ∀g∈v.l,g<w.heap.size:=fun g hg=>by
 simp only [Ev.l,List.mem_cons,List.not_mem_nil,or_false] at hg
 rcases hg with rfl | rfl | rfl | rfl | rfl | rfl
 ·exact h.s.lt
 ·exact h.t.lt
 ·exact h.f.lt
 ·exact h.o.lt
 ·exact h.d.lt
 ·exact h.k.lt
theorem ny.up (h:ny w v tb fr aW fn cG seen):ny (w.setCell ⟨v.sB,0,none⟩ (.int .i64 ((seen+1:Nat):Int))) v tb fr aW fn cG (seen+1):=
 ⟨h.s.bq 0 _,h.t.aH (fun e=>h.s.jF h.t (by decide) e.symm) _,h.f.aH (fun e=>h.s.jF h.f (by decide) e.symm) _,h.o.aH (fun e=>h.s.jF h.o (by decide) e.symm) _,h.d.aH (fun e=>h.s.jF h.d (by decide) e.symm) _,h.k.aH (fun e=>h.s.jF h.k (by decide) e.symm) _⟩
end
def WP {σ:Type} (w w':World) (v:Ev) (tb:Nat) (I:Ix) (F G:List Nat) (n K:Nat) (fr aW:ByteArray) (fn:Nat) (cG:Array Value) (gq:σ→Nat) (Inv:World→σ→List Nat→Prop) (R:Wk σ):Prop:=
 ∃G',TQ w' tb I F R.q n (K+R.seen)∧ny w' v tb fr aW fn cG R.seen∧Inv w' R.s G'∧ag (v.sB::(F++G)) w w'∧(∀g∈G',g∈G∨w.heap.size≤g)∧gq R.s≤57*R.seen∧R.seen≤513∧(R.e=0→R.seen≤512)
structure LW {σ:Type} (w wr:World) (v:Ev) (tb:Nat) (I:Ix) (F G:List Nat) (n K:Nat) (fr aW:ByteArray) (fn:Nat) (cG:Array Value) (gq:σ→Nat) (Inv:World→σ→List Nat→Prop) (q:QS) (sn bd:Nat) (s:σ) (Gi:List Nat) (leaf:Bool) (A:Option Addr) (c xB:Nat) (l:List E):Prop where
 t:TQ wr tb I F q n (K+sn)
 e:ny wr v tb fr aW fn cG sn
 i:Inv wr s Gi
 o:ag (v.sB::(F++G)) w wr
 g: ∀g∈Gi,g∈G∨w.heap.size≤g
 m:gq s≤bd
 s:aG wr 111 3 (.slice A l.length c) l.length (aw l)
 b:ax wr xB 118 #[.bool leaf,.slice A l.length c]
 d: ∀g∈tb::(v.l++(F++xB::ah (.slice A l.length c))),g∉Gi
 x: ∀g∈xB::ah (.slice A l.length c),g∉F∧g≠v.sB∧w.heap.size≤g
 y: ∀g∈v.l,g∉F∧g≠tb
section
variable {σ:Type} {w wr w':World} {v:Ev} {tb:Nat} {I:Ix} {F G:List Nat} {n K:Nat} {fr aW:ByteArray} {fn:Nat} {cG:Array Value} {gq:σ→Nat} {Inv:World→σ→List Nat→Prop} {q:QS} {sn bd:Nat} {s:σ} {Gi:List Nat} {leaf:Bool} {A:Option Addr} {c xB:Nat} {l:List E} {step:E→σ→σ×Bool}
theorem LW.lt (h:LW w wr v tb I F G n K fr aW fn cG gq Inv q sn bd s Gi leaf A c xB l): ∀g∈tb::(v.l++(F++xB::ah (.slice A l.length c))),g<wr.heap.size:=fun g hg=>by
 simp only [List.mem_cons,List.mem_append] at hg
 rcases hg with e | hg | hg | e | hg
 ·exact h.t.lt g (by simp [e])
 ·exact h.e.lt g hg
 ·exact h.t.lt g (by simp [hg])
 ·rw [e]; exact h.b.lt
 ·exact h.s.lt g hg
theorem LW.below (V:Vis fn cG step gq Inv) (h:LW w wr v tb I F G n K fr aW fn cG gq Inv q sn bd s Gi leaf A c xB l) (hb:Below wr.heap.size wr w'):LW w w' v tb I F G n K fr aW fn cG gq Inv q sn bd s Gi leaf A c xB l:=
 ⟨h.t.below hb,h.e.below hb,V.ni _ _ _ _ [] h.i (.ak hb) (by simp),h.o.trans (.ak hb),h.g,h.m,h.s.below hb,h.b.below hb h.b.lt,h.d,h.x,h.y⟩
theorem LW.vis {G':List Nat} {s':σ} {bd':Nat} (h:LW w wr v tb I F G n K fr aW fn cG gq Inv q sn bd s Gi leaf A c xB l) (hI:Inv w' s' G') (o:ag Gi wr w') (f: ∀g∈G',g∈Gi∨wr.heap.size≤g) (hm:gq s'≤bd'):LW w w' v tb I F G n K fr aW fn cG gq Inv q sn bd' s' G' leaf A c xB l:=
 ⟨h.t.only o (fun g hg=>h.d g (by simp only [List.mem_cons,List.mem_append] at hg ⊢; rcases hg with e | e<;>simp [e])),h.e.only o (fun g hg=>h.d g (by simp [hg])),hI,h.o.aS o (fun g hg dL=>(h.g g hg).elim (fun e=>by simp [e]) (fun e=>by omega)),fun g hg=>(f g hg).elim (h.g g) (fun e=> .inr (by have:=h.o.size; omega)),hm,
  h.s.only o (fun g hg=>h.d g (by simp [hg])),h.b.only o (h.d _ (by simp)),fun g hg hG=>(f g hG).elim (h.d g hg) (fun e=>by have:=h.lt g hg; omega),h.x,h.y⟩
theorem LW.deep {R:Wk σ} (h:LW w wr v tb I F G n K fr aW fn cG gq Inv q sn bd s Gi leaf A c xB l) (hw:WP wr w' v tb I F Gi n K fr aW fn cG gq Inv R): ∃G',LW w w' v tb I F G n K fr aW fn cG gq Inv R.q R.seen (57*R.seen) R.s G' leaf A c xB l∧R.seen≤513∧(R.e=0→R.seen≤512):=by
 obtain ⟨G',a1,a2,a3,a4,a5,a6,a7,a8⟩:=hw;have ne: ∀g∈xB::ah (.slice A l.length c),g∉v.sB::(F++Gi):=fun g hg hm=>by
  rcases List.mem_cons.1 hm with e | hm
  ·exact (h.x g hg).2.1 e
  ·rcases List.mem_append.1 hm with hm | hm
   ·exact (h.x g hg).1 hm
   ·exact h.d g (by simp only [List.mem_cons,List.mem_append] at hg ⊢; rcases hg with e | e<;>simp [e]) hm
 refine ⟨G',⟨a1,a2,a3,h.o.aS a4 (fun g hg dL=>?_),fun g hg=>(a5 g hg).elim (h.g g) (fun e=> .inr (by have:=h.o.size; omega)),a6,h.s.only a4 (fun g hg=>ne g (by simp [hg])),h.b.only a4 (ne _ (by simp)),fun g hg hG=>(a5 g hG).elim (h.d g hg) (fun e=>by have:=h.lt g hg; omega),h.x,h.y⟩,a7,a8⟩
 rcases List.mem_cons.1 hg with e | hg
 ·simp [e]
 ·rcases List.mem_append.1 hg with hg | hg
  ·simp [hg]
  ·exact (h.g g hg).elim (fun e=>by simp [e]) (fun e=>by omega)
theorem LW.wp (h:LW w wr v tb I F G n K fr aW fn cG gq Inv q sn bd s Gi leaf A c xB l) (hb:bd≤57*sn) (h1:sn≤513) (more:Bool) (er:Int) (h2:er=0→sn≤512):WP w wr v tb I F G n K fr aW fn cG gq Inv ⟨q,sn,s,more,er⟩:=
 ⟨Gi,h.t,h.e,h.i,h.o,h.g,Nat.le_trans h.m hb,h1,h2⟩
end
end Go.Proofs.YtmonobkginiajaaGreat.Sh
