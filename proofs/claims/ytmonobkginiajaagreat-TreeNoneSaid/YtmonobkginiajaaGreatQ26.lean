/- packed. -/
import Derived.Test.YtmonobkginiajaaGreatQ25
import Derived.Laws.EntriesVeiled
set_option linter.all false
set_option maxRecDepth 100000
set_option maxHeartbeats 8000000
namespace Go.Proofs.YtmonobkginiajaaGreat.Sh
open Go.RowKit Pk Dk Pg
open Nd (E aw aT aF aJ cM bg aK bI bj)
attribute [local go_sem ↓] Go.wp_at_zero Go.wp_at_succ
def Ec {σ:Type} (fn:Nat) (cG:Array Value) (step:E→σ→σ×Bool) (gq:σ→Nat) (Inv:World→σ→List Nat→Prop) (v:Ev) (tb:Nat) (I:Ix) (F:List Nat) (n Kz:Nat) (fr aW:ByteArray) (d:Nat):Prop:=
 ∀(w:World) (q:QS) (seen:Nat) (s:σ) (G:List Nat) (p:Int),seen≤512→TQ w tb I F q n (Kz+seen)→ny w v tb fr aW fn cG seen→Inv w s G→(∀g∈tb::(v.l++F),g∉G)→(∀g∈v.l,g∉F∧g≠tb)→gq s≤57*seen→
  Calls Tryz.prog 109 (#[.int .i64 p,.int .i64 (d:Nat)]++v.cG) w fun e w'=>e= .returned (.tuple #[.bool (eo step fr aW d q seen s p).more,.int .i64 (eo step fr aW d q seen s p).e])∧WP w w' v tb I F G n Kz fr aW fn cG gq Inv (eo step fr aW d q seen s p)
theorem Be {σ:Type} {fn:Nat} {cG:Array Value} {step:E→σ→σ×Bool} {gq:σ→Nat} {Inv:World→σ→List Nat→Prop} (V:Vis fn cG step gq Inv) {v:Ev} {tb:Nat} {I:Ix} {F:List Nat} {n Kz:Nat} (fr aW:ByteArray) (LS:Kz≤999999990000) (d:Nat) (hd:d≤16) (IH: ∀d',d=d'+1→Ec fn cG step gq Inv v tb I F n Kz fr aW d'):Ec fn cG step gq Inv v tb I F n Kz fr aW d:=by
  intro w q seen s G p hseen h hv hI hD hvF hmes;have IH:=xh IH;have KR:=xh (fun (W:World) (hW:TQ W tb I F q n (Kz+seen))=>kF hW (by omega) p);have hsB:v.sB∉F∧v.sB≠tb:=hvF _ (by simp [Ev.l]);have hs1:IntKind.i64.wrap ((seen:Int)+1)=(seen:Int)+1:=IntWalk.i64_in _ (by omega);have x0:=hv.s.ab (i:=0) rfl;have xz:=hv.s.frozen 0 (by simp);obtain ⟨w1,vF⟩: ∃w1,w.setCell ⟨v.sB,0,none⟩ (.int .i64 ((seen:Int)+1))=w1:=⟨_,rfl⟩
  have o1:ag [v.sB] w w1:=by rw [←vF]; exact (ag.refl _ _).setCell (by simp) _
  have H1:=xh (show TQ w1 tb I F q n (Kz+seen)∧ny w1 v tb fr aW fn cG (seen+1)∧Inv w1 s G∧ag (v.sB::(F++G)) w w1 from
   ⟨h.only o1 (fun g hg hm=>by
    rw [List.mem_singleton.1 hm] at hg
    rcases List.mem_cons.1 hg with e | e
    ·exact hsB.2 e
    ·exact hsB.1 e),by rw [←vF]; exact hv.up,V.ni _ _ _ _ _ hI o1 (fun g hg hm=>hD v.sB (by simp [Ev.l]) (by rw [←List.mem_singleton.1 hm]; exact hg)),o1.mono (fun g hg _=>by rw [List.mem_singleton.1 hg]; exact List.mem_cons_self ..)⟩)
  have x1:=H1.out.2.1.s.ab (i:=0) rfl;have x2:=H1.out.2.1.t.ab (i:=0) rfl;have x3:=H1.out.2.1.f.ab (i:=0) rfl;obtain ⟨R,hR⟩: ∃R,eo step fr aW d q seen s p=R:=⟨_,rfl⟩;rw [hR];have HR:=xh hR;have HD:=xh hD;have HVF:=xh hvF;have HV:=xh V;clear h hv hI hD hvF hsB hR o1 V;unfold tp aT at *;unfold Ev.cG
  rw [show (#[Value.int .i64 p,.int .i64 (d:Nat)]++ #[Value.pointer (some ⟨v.sB,0,none⟩),.pointer (some ⟨v.tB,0,none⟩),.pointer (some ⟨v.fB,0,none⟩),.pointer (some ⟨v.oB,0,none⟩),.pointer (some ⟨v.dB,0,none⟩),.pointer (some ⟨v.kB,0,none⟩)]:Array Value)= #[Value.int .i64 p,.int .i64 (d:Nat),Value.pointer (some ⟨v.sB,0,none⟩),.pointer (some ⟨v.tB,0,none⟩),.pointer (some ⟨v.fB,0,none⟩),.pointer (some ⟨v.oB,0,none⟩),.pointer (some ⟨v.dB,0,none⟩),.pointer (some ⟨v.kB,0,none⟩)] from rfl]
  by_cases hd0:d=0
  ·subst hd0;have bf:=HR.out;unfold eo at bf;subst bf;go_enter Tryz.func109,Tryz.ntmps109;go_wp2_with fail;go_ret2;exact ⟨by first | rfl | simp,G,H1.out.1.le (by show Kz+seen≤Kz+(seen+1); omega),H1.out.2.1,H1.out.2.2.1,H1.out.2.2.2,fun _ h=> .inl h,by have:=hmes; show gq s≤57*(seen+1); omega,by show seen+1≤513; omega,fun h=>absurd h (by show ¬((14:Int)=0); decide)⟩
  ·obtain ⟨d',rfl⟩: ∃d',d=d'+1:=⟨d-1,by omega⟩;have bf:=HR.out;unfold eo at bf;have hdI: ¬((d':Int)+1=0):=by omega
   by_cases hs5:512<seen+1
   ·rw [if_pos hs5] at bf;subst bf;have hsI:(512:Int)<(seen:Int)+1:=by omega
    go_enter Tryz.func109,Tryz.ntmps109;go_wp2_with fail;go_ret2;exact ⟨by first | rfl | simp,G,H1.out.1.le (by show Kz+seen≤Kz+(seen+1); omega),H1.out.2.1,H1.out.2.2.1,H1.out.2.2.2,fun _ h=> .inl h,by have:=hmes; show gq s≤57*(seen+1); omega,by show seen+1≤513; omega,fun h=>absurd h (by show ¬((14:Int)=0); decide)⟩
   ·rw [if_neg hs5] at bf;have hsI: ¬((512:Int)<(seen:Int)+1):=by omega
    have mo:=qT (q:=q) (p:=p);have hlen:=jA q p;have eh:=xh bf;have K1:=xh (KR.out w1 H1.out.1);clear bf;generalize q.bl p=r at *;obtain ⟨q1,leaf,l,er⟩:=r;dsimp only at *;go_enter Tryz.func109,Tryz.ntmps109;go_wp2_with fail;refine K1.out.mono ?_;rintro e w2 ⟨A,c,rfl,S2,f2,P2,o2⟩;have fj:=ae (Below.refl w2.heap.size w2) (.cells #[.bool leaf,.slice A l.length c] 118);obtain ⟨xB,hb12⟩: ∃xB,w2.heap.size=xB:=⟨_,rfl⟩;have HB12:=xh hb12
    have BN:=ax.new w2 118 #[.bool leaf,.slice A l.length c];rw [hb12] at BN;have H3:=xh (show LW w (w2.alloc (.cells #[.bool leaf,.slice A l.length c] 118)) v tb I F G n Kz fr aW fn cG gq Inv q1 (seen+1) (57*seen) s G leaf A c xB l from
     ⟨(H1.out.1.next o2 P2).below fj,(H1.out.2.1.only o2 (fun g hg=>(HVF.out g hg).1)).below fj,HV.out.ni _ _ _ _ [] (HV.out.ni _ _ _ _ F H1.out.2.2.1 o2 (fun g hg hF=>HD.out g (by simp [hF]) hg)) (.ak fj) (by simp),(H1.out.2.2.2.aS o2 (fun g hg _=>by simp [hg])).trans (.ak fj),fun _ h=> .inl h,hmes,S2.below fj,BN,
      fun g hg hG=>by
       have dL:=HV.out.lt _ _ _ H1.out.2.2.1 g hG;have h12:=o2.size;simp only [List.mem_cons,List.mem_append] at hg
       rcases hg with e | hg | hg | e | hg
       ·exact HD.out g (by simp [e]) hG
       ·exact HD.out g (by simp [hg]) hG
       ·exact HD.out g (by simp [hg]) hG
       ·omega
       ·have:=f2 g hg; omega,fun g hg=>by
       have h12:=o2.size;have IL:=H1.out.2.2.2.size;have BR:w1.heap.size≤g:=by
        rcases List.mem_cons.1 hg with e | hg
        ·omega
        ·exact f2 g hg
       refine ⟨fun hF=>?_,fun e=>?_,by omega⟩
       ·have:=H1.out.1.lt g (by simp [hF]); omega
       ·have:=H1.out.2.1.s.lt; omega,HVF.out⟩)
    clear S2 f2 P2 o2 fj BN x0 x1 x2 x3 xz
    by_cases he:er=0
    ·subst he;have HM:=xh (mo rfl);have bf:=eh.out;rw [if_neg (show ¬((0:Int)≠0) by simp)] at bf
     cases leaf
     ·rw [if_neg (show ¬(false=true) by simp)] at bf;have eh:=xh bf;have HL:=xh hlen;have KB:=xh (Nd.uH false A l.length c l fr (Nd.aG.aw H3.out.s).2 (by omega) HM.out);unfold aT at KB;have y0:=H3.out.b.ab (i:=0) rfl;have y1:=H3.out.b.ab (i:=1) rfl;have y3:=H3.out.e.f.ab (i:=0) rfl;have hfs:bg l fr≤l.length:=by
       rcases Nat.eq_zero_or_pos l.length with h0 | h0
       ·have:l=[]:=List.length_eq_zero_iff.1 h0;subst this; exact Nat.le_of_eq (by unfold bg aK; split<;>rfl)
       ·exact Nat.le_of_lt (qS (fun e=>by rw [e] at h0; simp at h0) fr)
      generalize bg l fr=fs at *;clear bf;go_wp2_with fail;refine KB.out.mono ?_;rintro e w4 ⟨rfl,fM⟩;have H4:=xh (H3.out.below HV.out fM);clear y0 y1 y3 fM;have y0:=H4.out.b.ab (i:=0) rfl;have y1:=H4.out.b.ab (i:=1) rfl;have hs4:IntKind.i64.wrap (d':Int)=(d':Int):=IntWalk.i64_in _ (by omega);have hs6:IntKind.i64.wrap ((d':Int)+1-1)=(d':Int):=by rw [show (d':Int)+1-1=(d':Int) by omega]; exact hs4
      go_wp2_with fail
      go_loopw [45] (fun iv wr=> ∃(i:Nat) (qi:QS) (sn:Nat) (si:σ) (Gi:List Nat),i≤l.length∧iv= .int .i64 (i:Nat)∧sn≤512∧Hid (fG (eo step fr aW d') step fr aW false fs i (l.drop i) qi sn si=R)∧Hid (LW w wr v tb I F G n Kz fr aW fn cG gq Inv qi sn (57*sn) si Gi false A c xB l)) (fun iv _=>l.length-(intOf iv).toNat)
      case atStart=>exact ⟨0,q1,seen+1,s,G,Nat.zero_le _,rfl,by omega,eh,xh {H4.out with m:=by have:=H4.out.m; omega}⟩
      case round=>
       clear y0 y1;obtain ⟨i,qi,sn,si,Gi,hi,rfl,hsn,HE,HW⟩:=hrel
       by_cases hil:i<l.length
       ·skip
        have hilI:(i:Int)<(l.length:Int):=by omega
        obtain ⟨x,hx⟩: ∃x,l[i]?=some x:=⟨_,List.getElem?_eq_getElem hil⟩;have hE:=HE.out;rw [List.drop_eq_getElem_cons hil,show l[i]=x from by have:=List.getElem?_eq_getElem hil; rw [hx] at this; injection this with h; exact h.symm] at hE;unfold fG at hE;have hxk:x.key.size≤32:=(m8 HM.out x (List.mem_of_getElem? hx)).1;have SL:=HW.out.s;obtain ⟨ad,qU,eM⟩:=(Nd.aG.aw SL).2.2 i x hx;obtain ⟨ga,ca,uM,wO,_⟩:=SL.form (by omega) (by omega);injection wO with e1 ezz e3
        clear ezz;subst e1 e3;injection qU with qU
        subst qU;rw [Nd.eX,Nat.zero_add] at eM;have fj:=ae (Below.refl wr.heap.size wr) (.cells #[.string x.key,.string x.val,.int .i64 x.aH] 111);have HA:=xh fj;have BX:=ax.new wr 111 #[.string x.key,.string x.val,.int .i64 x.aH];have u0:=eM.c0;have u1:=eM.c1;have u2:=eM.c2;dsimp only at u1 u2;have z0:=BX.ab (i:=0) rfl;have z1:=BX.ab (i:=1) rfl;have z2:=BX.ab (i:=2) rfl;have km:=xh (HW.out.below HV.out fj)
        have n0:=km.out.b.ab (i:=0) rfl;have m3:=km.out.e.f.ab (i:=0) rfl;have m4:=km.out.e.o.ab (i:=0) rfl;have m5:=km.out.e.d.ab (i:=0) rfl;have m6:=km.out.e.k.ab (i:=0) rfl;have y8: ¬((i:Int)<0):=by omega
        have HE:=xh hE;clear eM SL BX hE hx fj;unfold Ev.cG at m6
        by_cases su:i<fs
        ·have hE:=HE.out;rw [if_pos (show jR fr false fs i x=true from by unfold jR; simp [su])] at hE;have HE:=xh hE;have hbI:(i:Int)<(fs:Int):=by omega
         clear hE su;go_wp2_with fail;go_roundw
         case rel=>exact ⟨i+1,qi,sn,si,Gi,by omega,rfl,hsn,HE,km⟩
         case measure=>simp [intOf]; omega
        ·have hbI: ¬((i:Int)<(fs:Int)):=by omega
         have hE:=HE.out;rw [if_neg (show ¬jR fr false fs i x=true from by unfold jR; simp [su])] at hE;have HE:=xh hE;clear su hE
         by_cases ht:(aW.toList==[])=true
         ·have hE:=HE.out;rw [if_neg (show ¬iZ aW false i x=true from by unfold iZ; rw [ht]; simp),if_neg (show ¬(false=true) by simp)] at hE;have ht1:aW.toList=[]:=by simpa using ht
          have HE:=xh hE;clear hE;have IQ:=km.out.m;have KI:=IH.out d' rfl _ qi sn si Gi x.aH hsn km.out.t km.out.e km.out.i (fun g hg=>km.out.d g (by simp only [List.mem_cons,List.mem_append] at hg ⊢; rcases hg with e | e | e<;>simp [e])) km.out.y IQ;unfold Ev.cG at KI
          rw [show (#[Value.int .i64 x.aH,.int .i64 (d':Nat)]++ #[Value.pointer (some ⟨v.sB,0,none⟩),.pointer (some ⟨v.tB,0,none⟩),.pointer (some ⟨v.fB,0,none⟩),.pointer (some ⟨v.oB,0,none⟩),.pointer (some ⟨v.dB,0,none⟩),.pointer (some ⟨v.kB,0,none⟩)]:Array Value)= #[Value.int .i64 x.aH,.int .i64 (d':Nat),Value.pointer (some ⟨v.sB,0,none⟩),.pointer (some ⟨v.tB,0,none⟩),.pointer (some ⟨v.fB,0,none⟩),.pointer (some ⟨v.oB,0,none⟩),.pointer (some ⟨v.dB,0,none⟩),.pointer (some ⟨v.kB,0,none⟩)] from rfl] at KI
          generalize eo step fr aW d' qi sn si x.aH=RW at *;obtain ⟨qw,sw,ssw,mw,ew⟩:=RW;dsimp only at *;have KI:=xh KI;clear IQ;go_wp2_with fail;refine KI.out.mono ?_;rintro e w7 ⟨rfl,hWP⟩;obtain ⟨G',L7,Bf,Bg⟩:=km.out.deep hWP;have H7:=xh L7;have H8:=xh (And.intro Bf Bg);clear L7 Bf Bg hWP u0 u1 u2 z0 z1 z2 n0 m3 m4 m5 m6;have hE:=HE.out
          cases mw
          ·rw [if_neg (by simp)] at hE;subst hE;go_wp2_with fail;go_ret2;exact ⟨by first | rfl | simp,H7.out.wp (Nat.le_refl _) H8.out.1 _ _ H8.out.2⟩
          ·by_cases Fv:ew=0
           ·subst Fv;rw [if_pos ⟨rfl,rfl⟩] at hE;have HE:=xh hE;clear hE;go_wp2_with fail;go_roundw
            case rel=>exact ⟨i+1,qw,sw,ssw,G',by omega,rfl,H8.out.2 (by trivial),HE,H7⟩
            case measure=>simp [intOf]; omega
           ·rw [if_neg (fun h=>Fv h.2)] at hE;subst hE;have hq:(ew != 0)=true:=by rw [bne_iff_ne]; exact Fv
            have jm:(ew==0)=false:=by rw [beq_eq_false_iff_ne]; exact Fv
            go_wp2_with fail;go_ret2;exact ⟨by first | rfl | simp,H7.out.wp (Nat.le_refl _) H8.out.1 _ _ H8.out.2⟩
         ·have ht2:(aW.toList==[])=false:=by simpa using ht
          have ht1: ¬aW.toList=[]:=by simpa using ht
          clear ht
          by_cases Ml:Op.bytesLess x.key.toList aW.toList=true
          ·have hE:=HE.out;rw [if_neg (show ¬iZ aW false i x=true from by unfold iZ; rw [Ml]; simp),if_neg (show ¬(false=true) by simp)] at hE;have HE:=xh hE;clear hE;have IQ:=km.out.m;have KI:=IH.out d' rfl _ qi sn si Gi x.aH hsn km.out.t km.out.e km.out.i (fun g hg=>km.out.d g (by simp only [List.mem_cons,List.mem_append] at hg ⊢; rcases hg with e | e | e<;>simp [e])) km.out.y IQ;unfold Ev.cG at KI
           rw [show (#[Value.int .i64 x.aH,.int .i64 (d':Nat)]++ #[Value.pointer (some ⟨v.sB,0,none⟩),.pointer (some ⟨v.tB,0,none⟩),.pointer (some ⟨v.fB,0,none⟩),.pointer (some ⟨v.oB,0,none⟩),.pointer (some ⟨v.dB,0,none⟩),.pointer (some ⟨v.kB,0,none⟩)]:Array Value)= #[Value.int .i64 x.aH,.int .i64 (d':Nat),Value.pointer (some ⟨v.sB,0,none⟩),.pointer (some ⟨v.tB,0,none⟩),.pointer (some ⟨v.fB,0,none⟩),.pointer (some ⟨v.oB,0,none⟩),.pointer (some ⟨v.dB,0,none⟩),.pointer (some ⟨v.kB,0,none⟩)] from rfl] at KI
           generalize eo step fr aW d' qi sn si x.aH=RW at *;obtain ⟨qw,sw,ssw,mw,ew⟩:=RW;dsimp only at *;have KI:=xh KI;clear IQ;go_wp2_with fail;refine KI.out.mono ?_;rintro e w7 ⟨rfl,hWP⟩;obtain ⟨G',L7,Bf,Bg⟩:=km.out.deep hWP;have H7:=xh L7;have H8:=xh (And.intro Bf Bg);clear L7 Bf Bg hWP u0 u1 u2 z0 z1 z2 n0 m3 m4 m5 m6;have hE:=HE.out
           cases mw
           ·rw [if_neg (by simp)] at hE;subst hE;go_wp2_with fail;go_ret2;exact ⟨by first | rfl | simp,H7.out.wp (Nat.le_refl _) H8.out.1 _ _ H8.out.2⟩
           ·by_cases Fv:ew=0
            ·subst Fv;rw [if_pos ⟨rfl,rfl⟩] at hE;have HE:=xh hE;clear hE;go_wp2_with fail;go_roundw
             case rel=>exact ⟨i+1,qw,sw,ssw,G',by omega,rfl,H8.out.2 (by trivial),HE,H7⟩
             case measure=>simp [intOf]; omega
            ·rw [if_neg (fun h=>Fv h.2)] at hE;subst hE;have hq:(ew != 0)=true:=by rw [bne_iff_ne]; exact Fv
             have jm:(ew==0)=false:=by rw [beq_eq_false_iff_ne]; exact Fv
             go_wp2_with fail;go_ret2;exact ⟨by first | rfl | simp,H7.out.wp (Nat.le_refl _) H8.out.1 _ _ H8.out.2⟩
          ·have eG:Op.bytesLess x.key.toList aW.toList=false:=by simpa using Ml
           by_cases hip:0<i
           ·have hE:=HE.out;rw [if_pos (show iZ aW false i x=true from by unfold iZ; rw [eG,ht2]; simp [hip])] at hE;subst hE;have hipI:(0:Int)<(i:Int):=by omega
            clear Ml;go_wp2_with fail;go_ret2;exact ⟨by first | rfl | simp,km.out.wp (Nat.le_refl _) (by omega) _ _ (fun _=>hsn)⟩
           ·have hE:=HE.out;rw [if_neg (show ¬iZ aW false i x=true from by unfold iZ; rw [eG,ht2]; simp [hip]),if_neg (show ¬(false=true) by simp)] at hE;have HE:=xh hE;have hipI: ¬((0:Int)<(i:Int)):=by omega
            clear hE Ml;have IQ:=km.out.m;have KI:=IH.out d' rfl _ qi sn si Gi x.aH hsn km.out.t km.out.e km.out.i (fun g hg=>km.out.d g (by simp only [List.mem_cons,List.mem_append] at hg ⊢; rcases hg with e | e | e<;>simp [e])) km.out.y IQ;unfold Ev.cG at KI
            rw [show (#[Value.int .i64 x.aH,.int .i64 (d':Nat)]++ #[Value.pointer (some ⟨v.sB,0,none⟩),.pointer (some ⟨v.tB,0,none⟩),.pointer (some ⟨v.fB,0,none⟩),.pointer (some ⟨v.oB,0,none⟩),.pointer (some ⟨v.dB,0,none⟩),.pointer (some ⟨v.kB,0,none⟩)]:Array Value)= #[Value.int .i64 x.aH,.int .i64 (d':Nat),Value.pointer (some ⟨v.sB,0,none⟩),.pointer (some ⟨v.tB,0,none⟩),.pointer (some ⟨v.fB,0,none⟩),.pointer (some ⟨v.oB,0,none⟩),.pointer (some ⟨v.dB,0,none⟩),.pointer (some ⟨v.kB,0,none⟩)] from rfl] at KI
            generalize eo step fr aW d' qi sn si x.aH=RW at *;obtain ⟨qw,sw,ssw,mw,ew⟩:=RW;dsimp only at *;have KI:=xh KI;clear IQ;go_wp2_with fail;refine KI.out.mono ?_;rintro e w7 ⟨rfl,hWP⟩;obtain ⟨G',L7,Bf,Bg⟩:=km.out.deep hWP;have H7:=xh L7;have H8:=xh (And.intro Bf Bg);clear L7 Bf Bg hWP u0 u1 u2 z0 z1 z2 n0 m3 m4 m5 m6;have hE:=HE.out
            cases mw
            ·rw [if_neg (by simp)] at hE;subst hE;go_wp2_with fail;go_ret2;exact ⟨by first | rfl | simp,H7.out.wp (Nat.le_refl _) H8.out.1 _ _ H8.out.2⟩
            ·by_cases Fv:ew=0
             ·subst Fv;rw [if_pos ⟨rfl,rfl⟩] at hE;have HE:=xh hE;clear hE;go_wp2_with fail;go_roundw
              case rel=>exact ⟨i+1,qw,sw,ssw,G',by omega,rfl,H8.out.2 (by trivial),HE,H7⟩
              case measure=>simp [intOf]; omega
             ·rw [if_neg (fun h=>Fv h.2)] at hE;subst hE;have hq:(ew != 0)=true:=by rw [bne_iff_ne]; exact Fv
              have jm:(ew==0)=false:=by rw [beq_eq_false_iff_ne]; exact Fv
              go_wp2_with fail;go_ret2;exact ⟨by first | rfl | simp,H7.out.wp (Nat.le_refl _) H8.out.1 _ _ H8.out.2⟩
       ·obtain rfl:i=l.length:=by omega
        have hE:=HE.out;rw [List.drop_length] at hE;unfold fG at hE;subst hE;go_wp2_with fail;go_ret2;exact ⟨by first | rfl | simp,HW.out.wp (Nat.le_refl _) (by omega) _ _ (fun _=>hsn)⟩
     ·rw [if_pos rfl] at bf;have eh:=xh bf;have y0:=H3.out.b.ab (i:=0) rfl;have y1:=H3.out.b.ab (i:=1) rfl;have HL:=xh hlen;clear bf;go_wp2_with fail
      go_loopw [45] (fun iv wr=> ∃(i:Nat) (si:σ) (Gi:List Nat),i≤l.length∧iv= .int .i64 (i:Nat)∧Hid (fG (eo step fr aW d') step fr aW true 0 i (l.drop i) q1 (seen+1) si=R)∧Hid (LW w wr v tb I F G n Kz fr aW fn cG gq Inv q1 (seen+1) (57*seen+i) si Gi true A c xB l)) (fun iv _=>l.length-(intOf iv).toNat)
      case atStart=>exact ⟨0,s,G,Nat.zero_le _,rfl,eh,H3⟩
      case round=>
       clear y0 y1;obtain ⟨i,si,Gi,hi,rfl,HE,HW⟩:=hrel
       by_cases hil:i<l.length
       ·skip
        have hilI:(i:Int)<(l.length:Int):=by omega
        obtain ⟨x,hx⟩: ∃x,l[i]?=some x:=⟨_,List.getElem?_eq_getElem hil⟩;have hE:=HE.out;rw [List.drop_eq_getElem_cons hil,show l[i]=x from by have:=List.getElem?_eq_getElem hil; rw [hx] at this; injection this with h; exact h.symm] at hE;unfold fG at hE;have hxk:x.key.size≤32:=(m8 HM.out x (List.mem_of_getElem? hx)).1;have SL:=HW.out.s;obtain ⟨ad,qU,eM⟩:=(Nd.aG.aw SL).2.2 i x hx;obtain ⟨ga,ca,uM,wO,_⟩:=SL.form (by omega) (by omega);injection wO with e1 ezz e3
        clear ezz;subst e1 e3;injection qU with qU
        subst qU;rw [Nd.eX,Nat.zero_add] at eM;have fj:=ae (Below.refl wr.heap.size wr) (.cells #[.string x.key,.string x.val,.int .i64 x.aH] 111);have HA:=xh fj;have BX:=ax.new wr 111 #[.string x.key,.string x.val,.int .i64 x.aH];have u0:=eM.c0;have u1:=eM.c1;have u2:=eM.c2;dsimp only at u1 u2;have z0:=BX.ab (i:=0) rfl;have z1:=BX.ab (i:=1) rfl;have z2:=BX.ab (i:=2) rfl;have km:=xh (HW.out.below HV.out fj)
        have n0:=km.out.b.ab (i:=0) rfl;have m3:=km.out.e.f.ab (i:=0) rfl;have m4:=km.out.e.o.ab (i:=0) rfl;have m5:=km.out.e.d.ab (i:=0) rfl;have m6:=km.out.e.k.ab (i:=0) rfl;have y8: ¬((i:Int)<0):=by omega
        have HE:=xh hE;clear eM SL BX hE hx fj
        by_cases su:Op.bytesLess x.key.toList fr.toList=true
        ·have hE:=HE.out;rw [if_pos (show jR fr true 0 i x=true from by unfold jR; rw [su]; simp)] at hE;have HE:=xh hE;have HW:=xh (HW.out.below HV.out HA.out);clear hE;go_wp2_with fail;go_roundw
         case rel=>exact ⟨i+1,si,Gi,by omega,rfl,HE,xh {HW.out with m:=by have:=HW.out.m; omega}⟩
         case measure=>simp [intOf]; omega
        ·have bT:Op.bytesLess x.key.toList fr.toList=false:=by simpa using su
         have hE:=HE.out;rw [if_neg (show ¬jR fr true 0 i x=true from by unfold jR; rw [bT]; simp)] at hE;have HE:=xh hE;clear su hE
         by_cases ht:(aW.toList==[])=true
         ·have hE:=HE.out;rw [if_neg (show ¬iZ aW true i x=true from by unfold iZ; rw [ht]; simp)] at hE;have ht1:aW.toList=[]:=by simpa using ht
          have HE:=xh hE;clear hE;have KC:=HV.out.call _ si Gi x km.out.i (by have:=km.out.m; omega) hxk;have h1s:=HV.out.one x si;have hE:=HE.out;rw [if_pos (show (true=true) from rfl)] at hE;generalize step x si=RS at *;obtain ⟨s2,b2⟩:=RS;dsimp only at *;have KC:=xh KC;have HS:=xh h1s;have HE:=xh hE;unfold E.agg at KC;clear hE h1s;go_wp2_with fail;rw [HV.out.ent,Oper.upon_enter];refine KC.out.mono ?_;rintro e w7 ⟨rfl,G',hI7,o7,f7⟩
          have H7:=xh (km.out.vis hI7 o7 f7 (bd':=57*seen+(i+1)) (by have:=km.out.m; have:=HS.out; omega));clear hI7 o7 f7 u0 u1 u2 z0 z1 z2 n0 m3 m4 m5 m6;have hE:=HE.out
          cases b2
          ·rw [if_neg (show ¬(false=true) by simp)] at hE;subst hE;go_wp2_with fail;go_ret2;exact ⟨by first | rfl | simp,H7.out.wp (by omega) (by omega) _ _ (fun _=>by omega)⟩
          ·rw [if_pos (show (true=true) from rfl)] at hE;have HE:=xh hE;clear hE;go_wp2_with fail;go_roundw
           case rel=>exact ⟨i+1,s2,G',by omega,rfl,HE,H7⟩
           case measure=>simp [intOf]; omega
         ·have ht2:(aW.toList==[])=false:=by simpa using ht
          have ht1: ¬aW.toList=[]:=by simpa using ht
          clear ht
          by_cases Ml:Op.bytesLess x.key.toList aW.toList=true
          ·have hE:=HE.out;rw [if_neg (show ¬iZ aW true i x=true from by unfold iZ; rw [Ml]; simp)] at hE;have HE:=xh hE;clear hE;have KC:=HV.out.call _ si Gi x km.out.i (by have:=km.out.m; omega) hxk;have h1s:=HV.out.one x si;have hE:=HE.out;rw [if_pos (show (true=true) from rfl)] at hE;generalize step x si=RS at *;obtain ⟨s2,b2⟩:=RS;dsimp only at *;have KC:=xh KC;have HS:=xh h1s;have HE:=xh hE;unfold E.agg at KC;clear hE h1s;go_wp2_with fail
           rw [HV.out.ent,Oper.upon_enter];refine KC.out.mono ?_;rintro e w7 ⟨rfl,G',hI7,o7,f7⟩;have H7:=xh (km.out.vis hI7 o7 f7 (bd':=57*seen+(i+1)) (by have:=km.out.m; have:=HS.out; omega));clear hI7 o7 f7 u0 u1 u2 z0 z1 z2 n0 m3 m4 m5 m6;have hE:=HE.out
           cases b2
           ·rw [if_neg (show ¬(false=true) by simp)] at hE;subst hE;go_wp2_with fail;go_ret2;exact ⟨by first | rfl | simp,H7.out.wp (by omega) (by omega) _ _ (fun _=>by omega)⟩
           ·rw [if_pos (show (true=true) from rfl)] at hE;have HE:=xh hE;clear hE;go_wp2_with fail;go_roundw
            case rel=>exact ⟨i+1,s2,G',by omega,rfl,HE,H7⟩
            case measure=>simp [intOf]; omega
          ·have eG:Op.bytesLess x.key.toList aW.toList=false:=by simpa using Ml
           have hE:=HE.out;rw [if_pos (show iZ aW true i x=true from by unfold iZ; rw [eG,ht2]; simp)] at hE;subst hE;have HW:=xh (HW.out.below HV.out HA.out);clear Ml;go_wp2_with fail;go_ret2;exact ⟨by first | rfl | simp,HW.out.wp (by omega) (by omega) _ _ (fun _=>by omega)⟩
       ·obtain rfl:i=l.length:=by omega
        have hE:=HE.out;rw [List.drop_length] at hE;unfold fG at hE;subst hE;go_wp2_with fail;go_ret2;exact ⟨by first | rfl | simp,HW.out.wp (by omega) (by omega) _ _ (fun _=>by omega)⟩
    ·have bf:=eh.out;rw [if_pos he] at bf;subst bf;have hq:(er != 0)=true:=by rw [bne_iff_ne]; exact he
     have jm:(er==0)=false:=by rw [beq_eq_false_iff_ne]; exact he
     go_wp2_with fail;go_ret2;exact ⟨by first | rfl | simp,H3.out.wp (by omega) (by omega) _ _ (fun h=>absurd h he)⟩
theorem xC {σ:Type} {fn:Nat} {cG:Array Value} {step:E→σ→σ×Bool} {gq:σ→Nat} {Inv:World→σ→List Nat→Prop} (V:Vis fn cG step gq Inv) {v:Ev} {tb:Nat} {I:Ix} {F:List Nat} {n Kz:Nat} (fr aW:ByteArray) (LS:Kz≤999999990000): ∀d,d≤16→Ec fn cG step gq Inv v tb I F n Kz fr aW d
 | 0,h=>Be V fr aW LS 0 h (fun d' e=>absurd e (by omega))
 | d+1,h=>Be V fr aW LS (d+1) h (fun d' e=>by
  obtain rfl:d'=d:=by omega
  exact xC V fr aW LS d' (by omega))
end Go.Proofs.YtmonobkginiajaaGreat.Sh
namespace Go.Proofs.YtmonobkginiajaaGreat.Sh
open Go.RowKit Pk Dk Pg
open Nd (E aw aT aF aJ cM bg aK bI bj)
attribute [local go_sem ↓] Go.wp_at_zero Go.wp_at_succ
theorem Hs {σ:Type} {fn:Nat} {cG:Array Value} {step:E→σ→σ×Bool} {gq:σ→Nat} {Inv:World→σ→List Nat→Prop} (V:Vis fn cG step gq Inv) {w:World} {tb:Nat} {I:Ix} {F G:List Nat} {q:QS} {n K:Nat} {s:σ} (h:TQ w tb I F q n K) (hK:K≤999999990000) (fr aW:ByteArray) (hI:Inv w s G) (hD: ∀g∈tb::F,g∉G) (hm:gq s=0):
  Calls Tryz.prog 60 #[tp tb,.string fr,.string aW,.func (.func fn) #[] cG] w fun e w'=>e= .returned (.int .i64 (q.ja step fr aW s).e)∧ ∃G',TQ w' tb I F (q.ja step fr aW s).q n (K+513)∧Inv w' (q.ja step fr aW s).s G'∧ag (F++G) w w'∧(∀g∈G',g∈G∨w.heap.size≤g)∧gq (q.ja step fr aW s).s≤57*513∧(∀g∈tb::F,g∉G'):=by
 have hmf: ∀(fn:Fn) (first cap:Array Value) (w:World),(Instr.makeFunc fn first cap).run Tryz.prog w= .ok (.func fn first cap) w:=fun _ _ _ _=>rfl;unfold tp at *;obtain ⟨z,hz⟩: ∃z,w.heap.size=z:=⟨_,rfl⟩;have W0:=Below.refl w.heap.size w;obtain ⟨w1,vF⟩: ∃w1,w.alloc (.cells #[.pointer (some ⟨tb,0,none⟩)] 35)=w1:=⟨_,rfl⟩;have s1:w1.heap.size=z+1:=by rw [←vF,lu,hz]
 have uV:ax w1 (z) 35 #[.pointer (some ⟨tb,0,none⟩)]:=by rw [←vF,←hz]; exact ax.new _ _ _
 have W1:=ao W0 (ae (Below.refl w.heap.size w) (.cells #[.pointer (some ⟨tb,0,none⟩)] 35));rw [vF] at W1;obtain ⟨w2,sX⟩: ∃w2,w1.alloc (.cells #[.string fr] 9)=w2:=⟨_,rfl⟩;have s2:w2.heap.size=z+1+1:=by rw [←sX,lu,s1]
 have Bh:ax w2 (z+1) 9 #[.string fr]:=by rw [←sX,←s1]; exact ax.new _ _ _
 have oh:=uV.alloc (.cells #[.string fr] 9);rw [sX] at oh;have W2:=ao W1 (ae (Below.refl w1.heap.size w1) (.cells #[.string fr] 9));rw [sX] at W2;obtain ⟨w3,zb⟩: ∃w3,w2.alloc (.cells #[.string aW] 9)=w3:=⟨_,rfl⟩;have s3:w3.heap.size=z+1+1+1:=by rw [←zb,lu,s2]
 have Ht:ax w3 (z+1+1) 9 #[.string aW]:=by rw [←zb,←s2]; exact ax.new _ _ _
 have uW:=oh.alloc (.cells #[.string aW] 9);rw [zb] at uW;have r7:=Bh.alloc (.cells #[.string aW] 9);rw [zb] at r7;have W3:=ao W2 (ae (Below.refl w2.heap.size w2) (.cells #[.string aW] 9));rw [zb] at W3;obtain ⟨w4,IM⟩: ∃w4,w3.alloc (.cells #[.func (.func fn) #[] cG] 112)=w4:=⟨_,rfl⟩;have s4:w4.heap.size=z+1+1+1+1:=by rw [←IM,lu,s3]
 have c3_4:ax w4 (z+1+1+1) 112 #[.func (.func fn) #[] cG]:=by rw [←IM,←s3]; exact ax.new _ _ _
 have Ed:=uW.alloc (.cells #[.func (.func fn) #[] cG] 112);rw [IM] at Ed;have c1_4:=r7.alloc (.cells #[.func (.func fn) #[] cG] 112);rw [IM] at c1_4;have c2_4:=Ht.alloc (.cells #[.func (.func fn) #[] cG] 112);rw [IM] at c2_4;have W4:=ao W3 (ae (Below.refl w3.heap.size w3) (.cells #[.func (.func fn) #[] cG] 112));rw [IM] at W4;obtain ⟨w5,hw5⟩: ∃w5,w4.alloc (.cells #[.int .i64 0] 3)=w5:=⟨_,rfl⟩;have s5:w5.heap.size=z+1+1+1+1+1:=by rw [←hw5,lu,s4]
 have c4_5:ax w5 (z+1+1+1+1) 3 #[.int .i64 (0:Nat)]:=by rw [←hw5,←s4]; exact ax.new _ _ _
 have c0_5:=Ed.alloc (.cells #[.int .i64 0] 3);rw [hw5] at c0_5;have c1_5:=c1_4.alloc (.cells #[.int .i64 0] 3);rw [hw5] at c1_5;have c2_5:=c2_4.alloc (.cells #[.int .i64 0] 3);rw [hw5] at c2_5;have c3_5:=c3_4.alloc (.cells #[.int .i64 0] 3);rw [hw5] at c3_5;have W5:=ao W4 (ae (Below.refl w4.heap.size w4) (.cells #[.int .i64 0] 3));rw [hw5] at W5;obtain ⟨w6,Ft⟩: ∃w6,w5.alloc (.cells #[.nilFunc] 191)=w6:=⟨_,rfl⟩;have s6:w6.heap.size=z+1+1+1+1+1+1:=by rw [←Ft,lu,s5]
 have Mm:ax w6 (z+1+1+1+1+1) 191 #[.nilFunc]:=by rw [←Ft,←s5]; exact ax.new _ _ _
 have c0_6:=c0_5.alloc (.cells #[.nilFunc] 191);rw [Ft] at c0_6;have c1_6:=c1_5.alloc (.cells #[.nilFunc] 191);rw [Ft] at c1_6;have c2_6:=c2_5.alloc (.cells #[.nilFunc] 191);rw [Ft] at c2_6;have c3_6:=c3_5.alloc (.cells #[.nilFunc] 191);rw [Ft] at c3_6;have c4_6:=c4_5.alloc (.cells #[.nilFunc] 191);rw [Ft] at c4_6;have W6:=ao W5 (ae (Below.refl w5.heap.size w5) (.cells #[.nilFunc] 191));rw [Ft] at W6;obtain ⟨v,hv⟩: ∃v:Ev,v=⟨z+1+1+1+1,z,z+1,z+1+1,z+1+1+1,z+1+1+1+1+1⟩:=⟨_,rfl⟩
 have x0:=Ed.ab (i:=0) rfl;have x5:w6.cell? ⟨z+1+1+1+1+1,0,none⟩=some .nilFunc:=Mm.ab (i:=0) rfl;have f5:=Mm.frozen 0 (by simp);obtain ⟨w7,hw7⟩: ∃w7,w6.setCell ⟨z+1+1+1+1+1,0,none⟩ (.func (.func 109) #[] #[.pointer (some ⟨z+1+1+1+1,0,none⟩),.pointer (some ⟨z,0,none⟩),.pointer (some ⟨z+1,0,none⟩),.pointer (some ⟨z+1+1,0,none⟩),.pointer (some ⟨z+1+1+1,0,none⟩),.pointer (some ⟨z+1+1+1+1+1,0,none⟩)])=w7:=⟨_,rfl⟩
 have x7:w7.cell? ⟨z+1+1+1+1+1,0,none⟩=some (.func (.func 109) #[] #[.pointer (some ⟨z+1+1+1+1,0,none⟩),.pointer (some ⟨z,0,none⟩),.pointer (some ⟨z+1,0,none⟩),.pointer (some ⟨z+1+1,0,none⟩),.pointer (some ⟨z+1+1+1,0,none⟩),.pointer (some ⟨z+1+1+1+1+1,0,none⟩)]):=by rw [←hw7]; exact (Mm.bq 0 _).ab (i:=0) rfl
 have o7:ag [z+1+1+1+1+1] w6 w7:=by rw [←hw7]; exact (ag.refl _ _).setCell (by simp) _
 have E7:ny w7 v tb fr aW fn cG 0:=by
  rw [hv] at *;exact ⟨c4_6.only o7 (by simp<;>omega),c0_6.only o7 (by simp<;>omega),c1_6.only o7 (by simp<;>omega),c2_6.only o7 (by simp<;>omega),c3_6.only o7 (by simp<;>omega),by rw [←hw7]; exact Mm.bq 0 _⟩
 have T7:TQ w7 tb I F q n (K+0):=(h.below W6).only o7 (fun g hg hm=>by have:=h.lt g hg; rw [List.mem_singleton.1 hm] at this; omega);have I7:Inv w7 s G:=V.ni _ _ _ _ _ (V.ni _ _ _ _ [] hI (.ak W6) (by simp)) o7 (fun g hg hm=>by have:=V.lt _ _ _ hI g hg; rw [List.mem_singleton.1 hm] at this; omega);have hvl: ∀g∈v.l,z≤g:=fun g hg=>by rw [hv] at hg; simp [Ev.l] at hg; omega
 have KW:=xC V (v:=v) (tb:=tb) (I:=I) (F:=F) (n:=n) fr aW hK 16 (Nat.le_refl _) w7 q 0 s G 0 (by omega) T7 E7 I7 (fun g hg hG=>by
  simp only [List.mem_cons,List.mem_append] at hg
  rcases hg with e | hg | hg
  ·exact hD g (by simp [e]) hG
  ·have:=hvl g hg; have:=V.lt _ _ _ hI g hG; omega
  ·exact hD g (by simp [hg]) hG) (fun g hg=>⟨fun hF=>by have:=hvl g hg; have:=h.lt g (by simp [hF]); omega,fun e=>by have:=hvl g hg; have:=h.lt g (by simp [e]); omega⟩) (by omega)
 have HW6:=xh W6;have KW:Calls Tryz.prog 109 #[Value.int .i64 0,.int .i64 16,.pointer (some ⟨z+1+1+1+1,0,none⟩),.pointer (some ⟨z,0,none⟩),.pointer (some ⟨z+1,0,none⟩),.pointer (some ⟨z+1+1,0,none⟩),.pointer (some ⟨z+1+1+1,0,none⟩),.pointer (some ⟨z+1+1+1+1+1,0,none⟩)] w7 (fun e w'=>e= .returned (.tuple #[.bool (q.ja step fr aW s).more,.int .i64 (q.ja step fr aW s).e])∧WP w7 w' v tb I F G n K fr aW fn cG gq Inv (q.ja step fr aW s)):=by rw [hv] at KW ⊢; exact KW
 have KW:=xh KW;have HV:=xh hvl;have hv:=xh hv;have o7:=xh o7;have nB:=xh (fun g hg=>h.lt g hg);have HZ:=xh hz;clear uV oh uW c0_5 c0_6 Bh r7 c1_4 c1_5 c1_6 Ht c2_4 c2_5 c2_6 c3_4 c3_5 c3_6 c4_5 c4_6 Mm W0 W1 W2 W3 W4 W5 W6 s1 s2 s3 s4 s5 s6 T7 I7 hvl;subst vF sX zb IM hw5;go_enter Tryz.func60,Tryz.ntmps60;go_wp2_with fail;refine KW.out.mono ?_;rintro e w8 ⟨rfl,G',a1,a2,a3,a4,a5,a6,a7,a8⟩
 have H8:=xh (And.intro a1 (And.intro a3 (And.intro a4 (And.intro a5 (And.intro a6 a7)))));clear a1 a2 a3 a4 a5 a6 a7 a8;go_wp2_with fail;go_ret;have hD:=hD;obtain ⟨b1,b3,b4,b5,b6,b7⟩:=H8.out;have o6:=ag.ak (S:=F++G) HW6.out;have o8:=o6.aS o7.out (fun x hx dL=>by rw [List.mem_singleton.1 hx] at dL; have:=HZ.out; omega);have o9:=o8.aS b4 (fun x hx dL=>by
  rcases List.mem_cons.1 hx with rfl | hx
  ·have:=HV.out v.sB (by simp [Ev.l]); have:=HZ.out; omega
  ·exact hx)
 exact ⟨rfl,G',b1.le (by omega),b3,o9,fun g hg=>(b5 g hg).imp id (fun hl=>Nat.le_trans o8.size hl),by omega,fun g hg hG=>by
  rcases b5 g hG with h1 | h1
  ·exact hD g hg h1
  ·have:=nB.out g hg; have:=o8.size; omega⟩
end Go.Proofs.YtmonobkginiajaaGreat.Sh
namespace Go.Proofs.YtmonobkginiajaaGreat.Sh
open Go.RowKit Pk Dk Pg
open Nd (E aw aT aF aJ cM bg aK bI)
attribute [local go_sem ↓] Go.wp_at_zero Go.wp_at_succ aX
theorem Hu {P:Program} {f:FuncId} {fn:Func} (hf:P.funcs[f]?=some fn) (hname:(fn.name== "runtime.NumGoroutine")=false) (hb:fn.body.isNone=false) (args:Array Value) (w:World):Sem.run P (callFunc f args) w= .ok (.enter f args) w:=by
 have h1:fn.name≠ "runtime.NumGoroutine" :=by simpa using hname
 have h2:fn.body≠none:=fun h=>by rw [h] at hb; cases hb
 simp [callFunc,hf,h1,h2]
def lp (b:Nat):Value:= .pointer (some ⟨b,0,none⟩)
def jS (n:Int) (x:E) (s:List E):List E×Bool:=((if (s.length:Int)<n then s++[x] else s),decide (((if (s.length:Int)<n then s++[x] else s).length:Int)<n))
def mx (lb nb:Nat) (n:Int) (w:World) (s:List E) (G:List Nat):Prop:=
 ∃A c,G=lb::nb::ah (.slice A s.length c)∧ax w lb 108 #[.slice A s.length c]∧ax w nb 3 #[.int .i64 n]∧aG w 111 3 (.slice A s.length c) s.length (aw s)∧lb≠nb
theorem mx.lt {lb nb:Nat} {n:Int} {w:World} {s:List E} {G:List Nat} (h:mx lb nb n w s G): ∀g∈G,g<w.heap.size:=fun g hg=>by
 obtain ⟨A,c,rfl,h1,h2,h3,h4⟩:=h
 rcases List.mem_cons.1 hg with rfl | hg
 ·exact h1.lt
 ·rcases List.mem_cons.1 hg with rfl | hg
  ·exact h2.lt
  ·exact h3.lt g hg
theorem mx.only {lb nb:Nat} {n:Int} {w w':World} {s:List E} {G S:List Nat} (h:mx lb nb n w s G) (o:ag S w w') (hs: ∀g∈G,g∉S):mx lb nb n w' s G:=by
 obtain ⟨A,c,rfl,h1,h2,h3,h4⟩:=h;exact ⟨A,c,rfl,h1.only o (hs _ (by simp)),h2.only o (hs _ (by simp)),h3.only o (fun g hg=>hs g (by simp [hg])),h4⟩
theorem Ee:(Tryz.prog.info? 111).map (fun i=>(i.zero,i.size,i.bytes))=some (some (.agg #[.string .empty,.string .empty,.int .i64 0]),3,40):=by kernel_rfl
theorem Hv {w:World} {lb nb:Nat} {n:Int} {s:List E} {G:List Nat} (x:E) (h:mx lb nb n w s G) (hs:s.length≤100000):
  Calls Tryz.prog 61 #[x.agg,lp lb,lp nb] w fun e w'=>e= .returned (.bool (jS n x s).2)∧ ∃G',mx lb nb n w' (jS n x s).1 G'∧ag G w w'∧ ∀g∈G',g∈G∨w.heap.size≤g:=by
 obtain ⟨A,c,rfl,B1,B2,S1,eg⟩:=h;obtain ⟨z,hz⟩: ∃z,w.heap.size=z:=⟨_,rfl⟩;obtain ⟨k,hk⟩: ∃k,s.length=k:=⟨_,rfl⟩;rw [hk] at hs B1 S1 ⊢;have hb:=ae (Below.refl w.heap.size w) (.cells #[.string x.key,.string x.val,.int .i64 x.aH] 111);have l1:=B1.lt;have l2:=B2.lt;have l3:=S1.lt;have C1:=B1.below hb l1;have C2:=B2.below hb l2;have CS:=S1.below hb;have B3:=ax.new w 111 #[.string x.key,.string x.val,.int .i64 x.aH];have vD:=cv CS C1 (by decide);have Kc:=cv CS C2 (by decide)
 have c1:=C1.ab (i:=0) rfl;have c2:=C2.ab (i:=0) rfl;have d0:=B3.ab (i:=0) rfl;have d1:=B3.ab (i:=1) rfl;have d2:=B3.ab (i:=2) rfl;have HB:=xh hb;unfold jS;rw [hk]
 by_cases hn:(k:Int)<n
 ·rw [if_pos hn];obtain ⟨v',w3,ea,S3,oa,fa⟩:=Nd.n8 CS 108 108 _ 40 Tryz.underlying108 Ee rfl x (by unfold maxLen; omega) (by omega);have f1:=(C1.only oa vD).frozen 0 (by simp);have x1:=(C1.only oa vD).ab (i:=0) rfl;have y2:=(C2.only oa Kc).ab (i:=0) rfl;have hlen:(s++[x]).length=k+1:=by simp [hk]
  obtain ⟨A3,c3,hv3⟩:=aq S3;subst hv3;have eM:aw s++E.cells x=aw (s++[x]):=by rw [Nd.eE]; simp [aw,E.cells]
  rw [eM] at S3;have D1:=(C1.only oa vD).bq 0 (.slice A3 (k+1) c3);have D2:=(C2.only oa Kc).aH (p:=⟨lb,0,none⟩) (fun e=>eg e.symm) (.slice A3 (k+1) c3);have D3:=S3.only (S:=[lb]) ((ag.refl _ _).setCell (by simp) _:ag [lb] w3 (w3.setCell ⟨lb,0,none⟩ (.slice A3 (k+1) c3))) (fun g hg hm=>by
   rw [List.mem_singleton.1 hm] at hg;exact cv S3 (C1.only oa vD) (by decide) hg)
  have o3:ag (lb::nb::ah (.slice A k c)) w (w3.setCell ⟨lb,0,none⟩ (.slice A3 (k+1) c3)):=((ag.ak HB.out).aS oa (fun g hg _=>by simp [hg])).setCell (by simp) _;have fr3: ∀g∈lb::nb::ah (.slice A3 (k+1) c3),g∈lb::nb::ah (.slice A k c)∨w.heap.size≤g:=fun g hg=>by
   rcases List.mem_cons.1 hg with rfl | hg
   ·exact .inl (by simp)
   ·rcases List.mem_cons.1 hg with rfl | hg
    ·exact .inl (by simp)
    ·rcases fa g hg with h | h
     ·exact .inl (by simp [h])
     ·exact .inr (by have:=HB.out.size; omega)
  have z1:=D1.ab (i:=0) rfl;have z2:=D2.ab (i:=0) rfl;have H9:=xh (show mx lb nb n (w3.setCell ⟨lb,0,none⟩ (.slice A3 (k+1) c3)) (s++[x]) (lb::nb::ah (.slice A3 (k+1) c3))∧ag (lb::nb::ah (.slice A k c)) w (w3.setCell ⟨lb,0,none⟩ (.slice A3 (k+1) c3))∧ ∀g∈lb::nb::ah (.slice A3 (k+1) c3),g∈lb::nb::ah (.slice A k c)∨w.heap.size≤g from
   ⟨⟨A3,c3,by rw [hlen],by rw [hlen]; exact D1,D2,by rw [hlen]; exact D3,eg⟩,o3,fr3⟩)
  have hlI:((s++[x]).length:Int)=(k:Int)+1:=by rw [hlen]; omega
  have HLI:=xh hlI;rw [lu,hz] at ea;have EA:=xh ea;clear ea S3 oa fa D1 D2 D3 o3 fr3 hlen hlI eM vD Kc C1 C2 CS B3 B1 B2 S1 hb l1 l2 l3 hs hk;unfold lp E.agg at *;go_enter Tryz.func61,Tryz.ntmps61;go_wp2_with fail;rw [EA.out];go_wp2_with fail;go_ret;refine ⟨?_,_,H9.out.1,H9.out.2.1,H9.out.2.2⟩;rw [HLI.out];rfl
 ·rw [if_neg hn];have H9:=xh (show mx lb nb n (w.alloc (.cells #[.string x.key,.string x.val,.int .i64 x.aH] 111)) s (lb::nb::ah (.slice A k c)) from ⟨A,c,by rw [hk],by rw [hk]; exact C1,C2,by rw [hk]; exact CS,eg⟩);have HK:=xh hk;have HN:=xh hn;have HS:=xh hb.size;clear vD Kc C1 C2 CS B3 B1 B2 S1 hb l1 l2 l3 hs hk;unfold lp E.agg at *;go_enter Tryz.func61,Tryz.ntmps61;go_wp2_with fail;go_ret
  exact ⟨by rw [HK.out,decide_eq_false (Int.not_lt.2 HN.out)]; first | rfl | simp,_,H9.out,.ak HB.out,fun g hg=> .inl (by simpa using hg)⟩
theorem Mn (lb nb:Nat) (n:Int):Vis 61 #[lp lb,lp nb] (jS n) List.length (mx lb nb n) where
 call:=fun W s G x h hs _=>Hv x h hs
 ni:=fun W w' s G S h o hs=>h.only o hs
 lt:=fun W s G h=>h.lt
 ent:=fun args W=>Hu Tryz.func61 (by kernel_rfl) (by kernel_rfl) args W
 one:=fun x s=>by unfold jS; split<;>simp
end Go.Proofs.YtmonobkginiajaaGreat.Sh
namespace Go.Proofs.YtmonobkginiajaaGreat.Sh
open Go.RowKit Pk Dk Pg
open Nd (E aw aT aF aJ cM bg aK bI)
attribute [local go_sem ↓] Go.wp_at_zero Go.wp_at_succ aX
abbrev PR:=ByteArray×ByteArray
def xD (l:List PR):List Value:=l.flatMap fun x=>[.string x.1,.string x.2]
theorem iC: ∀l:List PR,(xD l).length=l.length*2
 | []=>rfl
 | x::l=>by unfold xD; rw [List.flatMap_cons,List.length_append]; have:=iC l; unfold xD at this; rw [this]; simp; omega
theorem prc_app (a b:List PR):xD (a++b)=xD a++xD b:=by simp [xD]
def lE:List E→QS→List PR→QS×List PR×Int
 | [],q,out=>(q,out,0)
 | x::l,q,out=>if (q.fS x).2.2≠0 then ((q.fS x).1,[],(q.fS x).2.2) else lE l (q.fS x).1 (out++[(x.key,(q.fS x).2.1)])
def QS.my (q:QS) (fr aW:ByteArray) (n:Int):QS×List PR×Int:=
 if (q.ja (jS n) fr aW []).e≠0 then ((q.ja (jS n) fr aW []).q,[],(q.ja (jS n) fr aW []).e) else lE (q.ja (jS n) fr aW []).s (q.ja (jS n) fr aW []).q []
theorem Ef:(Tryz.prog.info? 42).map (fun i=>(i.zero,i.size,i.bytes))=some (some (.agg #[.string .empty,.string .empty]),2,32):=by kernel_rfl
theorem Hw {w:World} {v:Value} {m:Nat} {L:List Value} (S:aG w 42 2 v m L) (a b:ByteArray) (hm:m≤1000000):
  ∃v' w',dI Tryz.prog 30 30 (w.alloc (.cells #[.string a,.string b] 42)) v (.slice (some ⟨w.heap.size,0,none⟩) 1 1)= .ok v' w'∧aG w' 42 2 v' (m+1) (L++[.string a,.string b])∧ag (ah v) w w'∧(∀g∈ah v',g∈ah v∨w.heap.size≤g):=by
 obtain ⟨i0,hi,iL,gM,iw⟩:=info_parts Ef;obtain ⟨v',w',h1,h2,h3,h4⟩:=cN (P:=Tryz.prog) (S.alloc (.cells #[.string a,.string b] 42)) 30 30 i0 _ 32 Tryz.underlying30 hi iL gM iw rfl (by omega)
  ⟨w.heap.size,0,none⟩ 1 1 [.string a,.string b] rfl (aV (ax.new w 42 #[.string a,.string b]) 0 _ (by simp)) (by simp; exact ⟨rfl,rfl⟩) (by unfold maxLen; omega) (by omega)
 exact ⟨v',w',h1,h2,((ag.refl _ _).alloc _).aS h3 (fun x hx _=>hx),fun g hg=>(h4 g hg).imp id (fun h=>by simp at h; omega)⟩
theorem Hx {w:World} {tb:Nat} {I:Ix} {F:List Nat} {q:QS} {n K:Nat} (h:TQ w tb I F q n K) (hK:K≤999999000000) (fr aW:ByteArray) (m:Int):
  Calls Tryz.prog 17 #[tp tb,.string fr,.string aW,.int .i64 m] w fun e w'=> ∃v,e= .returned (.tuple #[v,.int .i64 (q.my fr aW m).2.2])∧aG w' 42 2 v (q.my fr aW m).2.1.length (xD (q.my fr aW m).2.1)∧PQ w' I F (q.my fr aW m).1 n (K+300000)∧ag F w w'∧(∀g∈ah v,w.heap.size≤g):=by
 have hmf: ∀(fn:Fn) (first cap:Array Value) (w:World),(Instr.makeFunc fn first cap).run Tryz.prog w= .ok (.func fn first cap) w:=fun _ _ _ _=>rfl;obtain ⟨z,hz⟩: ∃z,w.heap.size=z:=⟨_,rfl⟩;have W0:=Below.refl w.heap.size w;obtain ⟨w1,vF⟩: ∃w1,w.alloc (.cells #[.int .i64 m] 3)=w1:=⟨_,rfl⟩;have s1:w1.heap.size=z+1:=by rw [←vF,lu,hz]
 have uV:ax w1 z 3 #[.int .i64 m]:=by rw [←vF,←hz]; exact ax.new _ _ _
 have W1:=ao W0 (ae (Below.refl w.heap.size w) (.cells #[.int .i64 m] 3));rw [vF] at W1;obtain ⟨w2,sX⟩: ∃w2,w1.alloc (.cells #[.slice none 0 0] 108)=w2:=⟨_,rfl⟩;have s2:w2.heap.size=z+1+1:=by rw [←sX,lu,s1]
 have Bh:ax w2 (z+1) 108 #[.slice none 0 0]:=by rw [←sX,←s1]; exact ax.new _ _ _
 have oh:=uV.alloc (.cells #[.slice none 0 0] 108);rw [sX] at oh;have W2:=ao W1 (ae (Below.refl w1.heap.size w1) (.cells #[.slice none 0 0] 108));rw [sX] at W2;have hI:mx (z+1) z m w2 [] [z+1,z]:=⟨none,0,rfl,Bh,oh,aG.nil _ _ _,by omega⟩;have dL:=h.lt;have KE:=Hs (Mn (z+1) z m) (h.below W2) (by omega) fr aW hI (fun g hg hm=>by have:=dL g hg; simp at hm; omega) rfl
 have KV:=xh (fun (W:World) (qj:QS) (kj:Nat) (hW:TQ W tb I F qj n kj) (hk:kj≤999999999900) (x:E)=>uN hW hk x);unfold QS.my;obtain ⟨R,hR⟩: ∃R,q.ja (jS m) fr aW []=R:=⟨_,rfl⟩;rw [hR] at KE ⊢;obtain ⟨RR,bf⟩: ∃RR,(if R.e≠0 then (R.q,([]:List PR),R.e) else lE R.s R.q [])=RR:=⟨_,rfl⟩;rw [bf];have eh:=xh bf;have KE:=xh KE;have rB:=xh W2;have HZ:=xh hz;have nB:=xh dL;have HNE:=xh h.ne;clear uV Bh oh W0 W1 W2 s1 s2 hI dL h bf hR
 subst vF sX;unfold tp lp at *;go_enter Tryz.func17,Tryz.ntmps17;go_wp2_with fail;refine KE.out.mono ?_;rintro e w3 ⟨rfl,G,a1,a2,a3,a4,a5,a6⟩;obtain ⟨A,c,hG,b1,b2,b3,b4⟩:=a2;obtain ⟨l,hl⟩: ∃l,R.s=l:=⟨_,rfl⟩;obtain ⟨er,Cb⟩: ∃er,R.e=er:=⟨_,rfl⟩;obtain ⟨k,hk⟩: ∃k,l.length=k:=⟨_,rfl⟩;rw [hl] at b1 b3 hG a5 eh;rw [hk] at b1 b3 hG a5;rw [Cb] at eh ⊢
 have o3:ag F w w3:=(ag.ak (S:=F) rB.out).aS a3 (fun g hg hl=>(List.mem_append.1 hg).elim id (fun hg=>by have:=HZ.out; simp at hg; omega));have hG3: ∀g∈G,w.heap.size≤g:=fun g hg=>(a4 g hg).elim (fun h=>by have:=HZ.out; simp at h; omega) (fun h=>Nat.le_trans rB.out.size h);have zb:=o3.size
 by_cases he:er=0
 ·subst he;have hrr:lE l R.q []=RR:=by have:=eh.out; rw [if_neg (by simp)] at this; exact this
  have eh:=xh hrr;have H3:=xh (show TQ w3 tb I F R.q n (K+513)∧aG w3 111 3 (.slice A k c) k (aw l)∧ag F w w3∧(∀g∈tb::F,g∉ah (.slice A k c))∧(∀g∈ah (.slice A k c),w.heap.size≤g)∧k≤57*513 from
   ⟨a1,b3,o3,fun g hg hm=>a6 g hg (by rw [hG]; simp [hm]),fun g hg=>hG3 g (by rw [hG]; simp [hg]),a5⟩)
  have x1:=b1.ab (i:=0) rfl;have hlen:=H3.out.2.2.2.2.2;have HKL:=xh hk;clear hk a1 a3 a4 a5 a6 b1 b2 b3 b4 o3 hG3 hrr hl Cb;go_wp2_with fail
  go_loopw [12,27] (fun ov iv wr=> ∃(i:Nat) (qi:QS) (out:List PR),i≤k∧iv= .int .i64 (i:Nat)∧aG wr 42 2 ov i (xD out)∧Hid (lE (l.drop i) qi out=RR∧out.length=i)∧Hid (TQ wr tb I F qi n (K+513+5*i)∧aG wr 111 3 (.slice A k c) k (aw l)∧ag F w wr∧(∀g∈ah ov,w.heap.size≤g∧g∉ah (.slice A k c)))) (fun _ iv _=>k-(intOf iv).toNat)
  case atStart=>exact ⟨0,R.q,[],by omega,rfl,aG.nil _ _ _,xh ⟨eh.out,rfl⟩,xh ⟨H3.out.1,H3.out.2.1,H3.out.2.2.1,by simp [ah]⟩⟩
  case round=>
   obtain ⟨i,qi,out,hi,rfl,S1,HV,HA⟩:=hrel;obtain ⟨VA,vc,rfl⟩:=aq S1
   by_cases tM:i<k
   ·have hikI:(i:Int)<(k:Int):=by omega
    obtain ⟨x,hx⟩: ∃x,l[i]?=some x:=⟨_,List.getElem?_eq_getElem (by rw [HKL.out]; exact tM)⟩;obtain ⟨ga,ca,uM,wO,BA,hca1,hca2⟩:=HA.out.2.1.form (by omega) (by omega);have SE:=(Nd.aG.aw HA.out.2.1).2;obtain ⟨ad,qU,eM⟩:=SE.2 i x hx;injection wO with e1 e2 e3
    subst e1 e3;injection qU with qU
    subst qU;rw [Nd.eX,Nat.zero_add] at eM;have xc0:=eM.c0;have xc1:=eM.c1;have xc2:=eM.c2;dsimp only at xc0 xc1 xc2;have hgal:=BA.lt;obtain ⟨zr,hzr⟩: ∃zr,wr.heap.size=zr:=⟨_,rfl⟩;have B0:=ax.new wr 111 #[.string .empty,.string .empty,.int .i64 0];have D1:=ax.new wr 111 #[.string x.key,.string x.val,.int .i64 x.aH];have fM:=ae (Below.refl wr.heap.size wr) (.cells #[.string x.key,.string x.val,.int .i64 x.aH] 111);rw [hzr] at B0 D1;have y0:=B0.ab (i:=0) rfl
    have y1:=B0.ab (i:=1) rfl;have y2:=B0.ab (i:=2) rfl;have f0:=B0.frozen 0 (by simp);have f1:=B0.frozen 1 (by simp);have f2:=B0.frozen 2 (by simp);have KX:=xh (KV.out (wr.alloc (.cells #[.string x.key,.string x.val,.int .i64 x.aH] 111)) qi (K+513+5*i) (HA.out.1.below fM) (by omega) x);have v0:=D1.ab (i:=0) rfl;have v1:=D1.ab (i:=1) rfl;have v2:=D1.ab (i:=2) rfl;have D1:=xh D1;have H4:=xh fM;have HX:=xh hx;have HZR:=xh hzr
    clear fM B0 BA SE eM hx hca2;obtain ⟨RV,hRV⟩: ∃RV,qi.fS x=RV:=⟨_,rfl⟩;rw [hRV] at KX;have Fc:l.drop i=x::l.drop (i+1):=by rw [←List.getElem_cons_drop (h:=by rw [HKL.out]; exact tM)]; congr 1; have:=HX.out; rw [List.getElem?_eq_getElem (by rw [HKL.out]; exact tM)] at this; injection this
    have Bi:=HV.out.1;rw [Fc] at Bi;unfold lE at Bi;rw [hRV] at Bi;have HVAL:=xh Bi;have HRV:=xh hRV;clear Bi Fc hRV;unfold E.agg at *;go_wp2_with fail;refine KX.out.mono ?_;rintro e w5 ⟨rfl,p1,p2⟩;have hzF: ∀g∈F,g<w.heap.size:=fun g hg=>nB.out g (List.mem_cons_of_mem _ hg);have hwz:w.heap.size≤zr:=by rw [←HZR.out]; exact HA.out.2.2.1.size
    have o45:ag F w w5:=(HA.out.2.2.1.trans (ag.ak H4.out)).trans p2;have D5:=D1.out.only p2 (fun hm=>by have:=hzF _ hm; omega);have v0:=D5.ab (i:=0) rfl;obtain ⟨q5,b5,e5⟩:=RV;dsimp only at *
    by_cases he5:e5=0
    ·subst he5;have h9:=HVAL.out;rw [if_neg (by simp)] at h9;have hov: ∀g∈ah (.slice VA i vc),w.heap.size≤g:=fun g hg=>(HA.out.2.2.2 g hg).1;have S5:=(S1.below H4.out).only p2 (fun g hg hm=>by have:=hov g hg; have:=hzF g hm; omega);have E5:=(HA.out.2.1.below H4.out).only p2 (fun g hg hm=>H3.out.2.2.2.1 g (List.mem_cons_of_mem _ hm) hg);obtain ⟨v',w7,ea,S7,ow,fa⟩:=Hw S5 x.key b5 (by omega)
     have T7:TQ w7 tb I F q5 n (K+513+5*(i+1)):=(((HA.out.1.below H4.out).next p2 p1).only ow (fun g hg hm=>by have:=hov g hm; have:=nB.out g hg; omega)).le (by omega);have E7:=E5.only ow (fun g hg hm=>(HA.out.2.2.2 g hm).2 hg);have hwr5:wr.heap.size≤w5.heap.size:=Nat.le_trans H4.out.size p2.size;have hel: ∀g∈ah (.slice (some ⟨ga,0,none⟩) k c),g<wr.heap.size:=HA.out.2.1.lt
     have H7:=xh (show TQ w7 tb I F q5 n (K+513+5*(i+1))∧aG w7 111 3 (.slice (some ⟨ga,0,none⟩) k c) k (aw l)∧ag F w w7∧(∀g∈ah v',w.heap.size≤g∧g∉ah (.slice (some ⟨ga,0,none⟩) k c)) from
      ⟨T7,E7,o45.aS ow (fun g hg dL=>by have:=hov g hg; omega),fun g hg=>(fa g hg).elim (HA.out.2.2.2 g) (fun h=>⟨by have:=o45.size; omega,fun hm=>by have:=hel g hm; omega⟩)⟩)
     obtain ⟨V7,c7,rfl⟩:=aq S7;have hpr:xD out++[Value.string x.key,Value.string b5]=xD (out++[(x.key,b5)]):=by rw [prc_app]; rfl
     rw [hpr] at S7;have H9:=xh (And.intro S7 (And.intro h9 (show (out++[(x.key,b5)]).length=i+1 by rw [List.length_append,HV.out.2]; rfl)));have EA:=xh ea;clear ea S7 ow fa T7 E7 hwr5 hel h9 hpr S5 E5 hov p1 o45 p2 D5 hzF hwz;go_wp2_with fail;rw [EA.out];go_wp2_with fail;go_roundw
     case rel=>exact ⟨i+1,q5,out++[(x.key,b5)],by omega,by first | rfl | simp,H9.out.1,xh H9.out.2,H7⟩
     case measure=>simp [intOf]; omega
    ·have h9:=HVAL.out;rw [if_pos he5] at h9;have hq:(e5 != 0)=true:=by rw [bne_iff_ne]; exact he5
     have jm:(e5==0)=false:=by rw [beq_eq_false_iff_ne]; exact he5
     have H9:=xh (And.intro h9 (And.intro p1 o45));clear h9 p1 o45 p2 D5 hzF hwz;go_wp2_with fail;go_ret2;obtain ⟨h9,h10,Ba⟩:=H9.out;subst h9;exact ⟨.slice none 0 0,by first | rfl | simp,aG.nil _ _ _,h10.le (by omega),Ba,by simp [ah]⟩
   ·have hikI: ¬(i:Int)<(k:Int):=by omega
    have EJ:l.drop i=[]:=List.drop_eq_nil_of_le (by rw [HKL.out]; omega);have h9:=HV.out.1;rw [EJ] at h9;have HV9:=xh h9;have HO:=xh HV.out.2;have S1:=xh S1;clear h9 EJ;go_wp2_with fail;go_ret2;have h9:=HV9.out;subst h9;exact ⟨_,by first | rfl | simp [lE],by show aG _ _ 2 _ out.length _; rw [HO.out]; exact S1.out,HA.out.1.2.le (by omega),HA.out.2.2.1,fun g hg=>by have:=(HA.out.2.2.2 g hg).1; first | exact this | (have:=HZ.out; omega)⟩
 ·have hrr:(R.q,([]:List PR),er)=RR:=by have:=eh.out; rw [if_pos he] at this; exact this
  have hq:(er != 0)=true:=by rw [bne_iff_ne]; exact he
  have jm:(er==0)=false:=by rw [beq_eq_false_iff_ne]; exact he
  have H3:=xh (And.intro a1 o3);have eh:=xh hrr;clear a1 a3 a4 a5 a6 b1 b2 b3 b4 o3 hG3 hrr hl Cb;go_wp2_with fail;go_ret2;have h9:=eh.out;subst h9;exact ⟨.slice none 0 0,by first | rfl | simp,aG.nil _ _ _,H3.out.1.2.le (by omega),H3.out.2,by simp [ah]⟩
end Go.Proofs.YtmonobkginiajaaGreat.Sh
namespace Go.Proofs.YtmonobkginiajaaGreat.Sh
open Go.RowKit Pk Dk Pg
open Nd (E aw aT aF aJ cM bg aK bI)
attribute [local go_sem ↓] Go.wp_at_zero Go.wp_at_succ aX
def prV (x:PR):Value:= .agg #[.string x.1,.string x.2]
theorem Mo {fn:Func} {p u:Tmp} {w:World} {g:Nat} {a b:ByteArray} {tmps:Array Value} (h:fn.results= #[.cell p 42,.tmp u]) (hp:tmps.getD p undef= .pointer (some ⟨g,0,none⟩)) (B:ax w g 42 #[.string a,.string b]):
  (results fn tmps).run Tryz.prog w= .ok (.tuple #[prV (a,b),tmps.getD u undef]) w:=by
 have c0:=B.ab (i:=0) rfl;have c1:=B.ab (i:=1) rfl;rw [results_cell_tmp h,hp];clear h hp B;unfold prV;go_simp
theorem jG {w:World} {g:Nat} {a b a' b':ByteArray} (B:ax w g 42 #[.string a,.string b]):
  ax ((w.setCell ⟨g,0,none⟩ (.string a')).setCell ⟨g,1,none⟩ (.string b')) g 42 #[.string a',.string b']∧ag [g] w ((w.setCell ⟨g,0,none⟩ (.string a')).setCell ⟨g,1,none⟩ (.string b'))∧
   w.cell? ⟨g,0,none⟩=some (.string a)∧w.cell? ⟨g,1,none⟩=some (.string b)∧w.frozen? ⟨g,0,none⟩=false∧w.frozen? ⟨g,1,none⟩=false:=
 ⟨(B.bq 0 _).bq 1 _,((ag.refl _ _).setCell (by simp) _).setCell (by simp) _,B.ab rfl,B.ab rfl,B.frozen 0 (by simp),B.frozen 1 (by simp)⟩
end Go.Proofs.YtmonobkginiajaaGreat.Sh
namespace Go.Proofs.YtmonobkginiajaaGreat.Sh
open Go.RowKit Pk Dk Pg
attribute [local go_sem ↓] Go.wp_at_zero Go.wp_at_succ
theorem uX (key:ByteArray) (w:World):Calls Tryz.prog 63 #[.pointer none,.string key] w fun e w'=>e= .returned (.tuple #[.slice none 0 0,.int .i64 1])∧Below w.heap.size w w':=by
 go_enter Tryz.func63,Tryz.ntmps63;go_wp2_with fail
 go_step3
 go_wp2_with fail;rw [Exit.noGoto_ret];go_ret2;exact ⟨by first | rfl | simp,Below.refl _ _⟩
theorem Mp (key:ByteArray) (w:World):Calls Tryz.prog 20 #[.pointer none,.string key] w fun e w'=>e= .returned (.tuple #[.string ⟨#[]⟩,.int .i64 1])∧Below w.heap.size w w':=by
 have KW:=xh (uX key w);go_enter Tryz.func20,Tryz.ntmps20;go_wp2_with fail;refine KW.out.mono ?_;rintro e w1 ⟨rfl,hb⟩;have HB:=xh hb;clear hb;go_wp2_with fail;go_ret2;exact ⟨by first | rfl | simp,HB.out⟩
theorem Mq (key value:ByteArray) (w:World):Calls Tryz.prog 25 #[.pointer none,.string key,.string value] w fun e w'=>e= .returned (.int .i64 1)∧Below w.heap.size w w':=by
 have KW:=xh (uX key w);go_enter Tryz.func25,Tryz.ntmps25;go_wp2_with fail;refine KW.out.mono ?_;rintro e w1 ⟨rfl,hb⟩;have HB:=xh hb;clear hb;go_wp2_with fail;go_ret;exact ⟨by first | rfl | simp,HB.out⟩
theorem Mr (key:ByteArray) (w:World):Calls Tryz.prog 26 #[.pointer none,.string key] w fun e w'=>e= .returned (.int .i64 1)∧Below w.heap.size w w':=by
 have KW:=xh (uX key w);go_enter Tryz.func26,Tryz.ntmps26;go_wp2_with fail;refine KW.out.mono ?_;rintro e w1 ⟨rfl,hb⟩;have HB:=xh hb;clear hb;go_wp2_with fail;go_ret;exact ⟨by first | rfl | simp,HB.out⟩
theorem qY (fr aW:ByteArray) (fn:Nat) (cG:Array Value) (w:World):Calls Tryz.prog 60 #[.pointer none,.string fr,.string aW,.func (.func fn) #[] cG] w fun e w'=>e= .returned (.int .i64 1)∧Below w.heap.size w w':=by
 obtain ⟨z,hz⟩: ∃z,w.heap.size=z:=⟨_,rfl⟩;have W0:=Below.refl w.heap.size w;obtain ⟨w1,vF⟩: ∃w1,w.alloc (.cells #[.pointer none] 35)=w1:=⟨_,rfl⟩;have s1:w1.heap.size=z+1:=by rw [←vF,lu,hz]
 have uV:ax w1 (z) 35 #[.pointer none]:=by rw [←vF,←hz]; exact ax.new _ _ _
 have W1:=ao W0 (ae (Below.refl w.heap.size w) (.cells #[.pointer none] 35));rw [vF] at W1;obtain ⟨w2,sX⟩: ∃w2,w1.alloc (.cells #[.string fr] 9)=w2:=⟨_,rfl⟩;have oh:=uV.alloc (.cells #[.string fr] 9);rw [sX] at oh;have W2:=ao W1 (ae (Below.refl w1.heap.size w1) (.cells #[.string fr] 9));rw [sX] at W2;obtain ⟨w3,zb⟩: ∃w3,w2.alloc (.cells #[.string aW] 9)=w3:=⟨_,rfl⟩;have uW:=oh.alloc (.cells #[.string aW] 9);rw [zb] at uW
 have W3:=ao W2 (ae (Below.refl w2.heap.size w2) (.cells #[.string aW] 9));rw [zb] at W3;obtain ⟨w4,IM⟩: ∃w4,w3.alloc (.cells #[.func (.func fn) #[] cG] 112)=w4:=⟨_,rfl⟩;have Ed:=uW.alloc (.cells #[.func (.func fn) #[] cG] 112);rw [IM] at Ed;have W4:=ao W3 (ae (Below.refl w3.heap.size w3) (.cells #[.func (.func fn) #[] cG] 112));rw [IM] at W4;have x0:=Ed.ab (i:=0) rfl;have HB:=xh W4;clear uV oh uW Ed W0 W1 W2 W3 W4 s1;subst vF sX zb
 go_enter Tryz.func60,Tryz.ntmps60;go_wp2_with fail;go_ret;exact ⟨by first | rfl | simp,by rw [IM] at *; exact HB.out⟩
theorem Hy (fr aW:ByteArray) (m:Int) (w:World):Calls Tryz.prog 17 #[.pointer none,.string fr,.string aW,.int .i64 m] w fun e w'=>e= .returned (.tuple #[.slice none 0 0,.int .i64 1])∧Below w.heap.size w w':=by
 have hmf: ∀(fn:Fn) (first cap:Array Value) (w:World),(Instr.makeFunc fn first cap).run Tryz.prog w= .ok (.func fn first cap) w:=fun _ _ _ _=>rfl;have KE:=xh (fun (W:World) (fn:Nat) (cG:Array Value)=>qY fr aW fn cG W);go_enter Tryz.func17,Tryz.ntmps17;go_wp2_with fail;refine (KE.out _ _ _).mono ?_;rintro e w4 ⟨rfl,hb⟩;have HB:=xh ((ae (ae (Below.refl w.heap.size w) (.cells #[.int .i64 m] 3)) (.cells #[.slice none 0 0] 108)).trans (hb.mono (by simp; omega)))
 clear hb;go_wp2_with fail;go_ret2;exact ⟨by first | rfl | simp,HB.out⟩
theorem Eg (fr aW:ByteArray) (w:World):Calls Tryz.prog 22 #[.pointer none,.string fr,.string aW] w fun e w'=>e= .returned (.tuple #[.int .i64 0,.int .i64 1])∧Below w.heap.size w w':=by
 have hmf: ∀(fn:Fn) (first cap:Array Value) (w:World),(Instr.makeFunc fn first cap).run Tryz.prog w= .ok (.func fn first cap) w:=fun _ _ _ _=>rfl;have KE:=xh (fun (W:World) (fn:Nat) (cG:Array Value)=>qY fr aW fn cG W);go_enter Tryz.func22,Tryz.ntmps22;go_wp2_with fail;refine (KE.out _ _ _).mono ?_;rintro e w4 ⟨rfl,hb⟩;have HB:=xh ((ae (Below.refl w.heap.size w) (.cells #[.slice none 0 0] 123)).trans (hb.mono (by simp)));clear hb;go_wp2_with fail;go_ret2
 exact ⟨by first | rfl | simp,HB.out⟩
theorem Hz (fr aW:ByteArray) (w:World):Calls Tryz.prog 21 #[.pointer none,.string fr,.string aW] w fun e w'=>e= .returned (.tuple #[prV (⟨#[]⟩,⟨#[]⟩),.int .i64 1])∧Below w.heap.size w w':=by
 have hmf: ∀(fn:Fn) (first cap:Array Value) (w:World),(Instr.makeFunc fn first cap).run Tryz.prog w= .ok (.func fn first cap) w:=fun _ _ _ _=>rfl;have KE:=xh (fun (W:World) (fn:Nat) (cG:Array Value)=>qY fr aW fn cG W);obtain ⟨z,hz⟩: ∃z,w.heap.size=z:=⟨_,rfl⟩;have W0:=Below.refl w.heap.size w;obtain ⟨w1,vF⟩: ∃w1,w.alloc (.cells #[.string ⟨#[]⟩,.string ⟨#[]⟩] 42)=w1:=⟨_,rfl⟩;have s1:w1.heap.size=z+1:=by rw [←vF,lu,hz]
 have uV:ax w1 z 42 #[.string ⟨#[]⟩,.string ⟨#[]⟩]:=by rw [←vF,←hz]; exact ax.new _ _ _
 have W1:=ao W0 (ae (Below.refl w.heap.size w) (.cells #[.string ⟨#[]⟩,.string ⟨#[]⟩] 42));rw [vF] at W1;obtain ⟨w2,sX⟩: ∃w2,w1.alloc (.cells #[.string ⟨#[]⟩,.string ⟨#[]⟩,.int .i64 0] 111)=w2:=⟨_,rfl⟩;have s2:w2.heap.size=z+1+1:=by rw [←sX,lu,s1]
 have Bh:ax w2 (z+1) 111 #[.string ⟨#[]⟩,.string ⟨#[]⟩,.int .i64 0]:=by rw [←sX,←s1]; exact ax.new _ _ _
 have oh:=uV.alloc (.cells #[.string ⟨#[]⟩,.string ⟨#[]⟩,.int .i64 0] 111);rw [sX] at oh;have W2:=ao W1 (ae (Below.refl w1.heap.size w1) (.cells #[.string ⟨#[]⟩,.string ⟨#[]⟩,.int .i64 0] 111));rw [sX] at W2;obtain ⟨w3,zb⟩: ∃w3,w2.alloc (.cells #[.bool false] 4)=w3:=⟨_,rfl⟩;have Ht:ax w3 (z+1+1) 4 #[.bool false]:=by rw [←zb,←s2]; exact ax.new _ _ _
 have uW:=oh.alloc (.cells #[.bool false] 4);rw [zb] at uW;have r7:=Bh.alloc (.cells #[.bool false] 4);rw [zb] at r7;have W3:=ao W2 (ae (Below.refl w2.heap.size w2) (.cells #[.bool false] 4));rw [zb] at W3;have y0:=r7.ab (i:=0) rfl;have y1:=r7.ab (i:=1) rfl;have y2:=r7.ab (i:=2) rfl;have y3:=Ht.ab (i:=0) rfl;have f0:=r7.frozen 0 (by simp);have f1:=r7.frozen 1 (by simp);have f2:=r7.frozen 2 (by simp)
 have f3:=Ht.frozen 0 (by simp);have C0:=xh uW;have HW3:=xh W3;have HZ:=xh hz;clear uV Bh oh uW r7 Ht W0 W1 W2 W3 s1 s2;subst vF sX zb;go_enter Tryz.func21,Tryz.ntmps21;go_wp2_with fail;refine (KE.out _ _ _).mono ?_;rintro e w4 ⟨rfl,hb⟩;have C4:=C0.out.below hb C0.out.lt;have O4:=ao HW3.out hb;obtain ⟨B2,o2,k0,k1,z0,z1⟩:=jG (a':=⟨#[]⟩) (b':=⟨#[]⟩) C4;have H2:=xh (And.intro B2 (And.intro o2 O4));clear B2 o2 O4 C4 hb y0 y1 y2 y3 f0 f1 f2 f3
 go_wp2_with fail;exact bodyPost_ret (Mo rfl rfl H2.out.1) rfl ⟨rfl,((ag.ak (S:=[z]) H2.out.2.2).trans H2.out.2.1).ay (Nat.le_refl _) (fun g hg=>by simp at hg; have:=HZ.out; omega)⟩
theorem Eh (w:World):Calls Tryz.prog 23 #[.pointer none] w fun e w'=>e= .returned (.tuple #[.int .i64 0,.int .i64 0,.int .i64 0,.int .i64 0,.int .i64 1])∧w=w':=by
 go_enter Tryz.func23,Tryz.ntmps23;go_wp2_with fail;refine bodyPost_ret (v:= .tuple #[.int .i64 0,.int .i64 0,.int .i64 0,.int .i64 0,.int .i64 1]) ?_ rfl ⟨rfl,rfl⟩;simp [results,Tryz.results23,go_sem]
theorem Ia (w:World):Calls Tryz.prog 24 #[.pointer none] w fun e w'=>e= .returned (.tuple #[.pointer none,.int .i64 1])∧w=w':=by
 go_enter Tryz.func24,Tryz.ntmps24;go_wp2_with fail;go_ret2;exact ⟨by first | rfl | simp,rfl⟩
end Go.Proofs.YtmonobkginiajaaGreat.Sh
