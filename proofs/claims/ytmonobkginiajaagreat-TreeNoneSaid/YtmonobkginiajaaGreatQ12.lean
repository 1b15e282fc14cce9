/- packed. -/
import Derived.Test.YtmonobkginiajaaGreatQ10
import Derived.Deep.Cut
set_option linter.all false
set_option maxRecDepth 100000
set_option maxHeartbeats 8000000
namespace Go.Proofs.YtmonobkginiajaaGreat.Sh
open Go.RowKit Pk Dk Pg
attribute [local go_sem ↓] Go.wp_at_zero Go.wp_at_succ aX
structure CW (x:X) (n:Nat) (w0 w:World) (x':X) (c':C):Prop where
 a:At w x' n c'
 o:ag x.fp w0 w
 f:x'.fp=x.fp
theorem CW.below {x x':X} {n:Nat} {w0 w w':World} {c':C} (h:CW x n w0 w x' c') (hb:Below w.heap.size w w'):CW x n w0 w' x' c':=⟨h.a.below hb,h.o.trans (.ak hb),h.f⟩
theorem CW.brk {x x':X} {n:Nat} {w0 w:World} {c':C} (h:CW x n w0 w x' c'):CW x n w0 (w.setCell ⟨x'.b,7,none⟩ (.bool true)) x' {c' with broken:=true}:=by
 have o2:=(ag.refl [x'.b] w).setCell (p:=⟨x'.b,7,none⟩) (by simp) (.bool true);have A:=h.a;obtain ⟨n1,n2,n3,n4⟩:=A.Da A.hb;have ns: ∀{v:Value} {k:Nat} {l:List Value},Sl w 3 v k l→ ∀g∈bA v,g∉[x'.b]:=fun S g hg hm=>n4 S (by rw [←List.mem_singleton.1 hm]; exact hg)
 exact ⟨⟨A.hb.bq 7 _,A.hd.only o2 (fun g hg hm=>n3 (by rw [←List.mem_singleton.1 hm]; exact hg)),A.hm.only o2 (fun hm=>n1 (List.mem_singleton.1 hm).symm) (fun hm=>n2 (List.mem_singleton.1 hm).symm),A.ht.only o2 (ns A.ht),A.ho.only o2 (ns A.ho),A.hp.only o2 (fun g hg hm=>A.hp.aH A.hb (by decide) (by decide) (by rw [←List.mem_singleton.1 hm]; exact hg)),A.n1,A.n2,A.n3,A.n4,A.n5,A.n6,A.tl⟩,h.o.trans (o2.mono (fun g hg _=>by rw [←h.f]; simp at hg; subst hg; simp [X.fp])),h.f⟩
theorem CW.post {x:X} {v:Value} {n:Nat} {w0 w:World} {c':C} (h:CW x n w0 w {x with tv:=v} c'):zG w0 w x n c':=⟨{x with tv:=v},rfl,rfl,h.a,h.o,fun g hg=> .inl (by rw [h.f] at hg; exact hg)⟩
theorem wp_cutB {P:Program} {s:Code} {id:Nat} {K:Act→World→Prop} {Q':Exit→Act→World→Prop} {a:Act} {w:World} (R:Act→World→Prop) (rest: ∀a' w',R a' w'→K a' w')
  (first: ∀K':Act→World→Prop,(∀a' w',R a' w'→K' a' w')→s.wp P (Exit.inBlock id (Exit.then K' Q')) a w):s.wp P (Exit.inBlock id (Exit.then K Q')) a w:=by
 refine wp_mono (first R (fun _ _ q=>q)) ?_;intro e a' w' hq
 cases e with
 | normal=>exact rest _ _ hq
 | exit id'=>
  have hq:if id'=id then Exit.then R Q' Exit.normal a' w' else Exit.then R Q' (Exit.exit id') a' w':=hq
  show if id'=id then Exit.then K Q' Exit.normal a' w' else Exit.then K Q' (Exit.exit id') a' w'
  by_cases h:id'=id
  ·rw [if_pos h] at hq ⊢;exact rest _ _ hq
  ·rw [if_neg h] at hq ⊢;exact hq
 | goto l=>exact hq
 | ret=>exact hq
 | panic ch=>exact hq
 | outgrown=>exact hq
theorem Aa {w:World} {x:X} {n:Nat} {c:C} (h:At w x n c) (hbr:c.broken=false) (y9:0≤c.ep) (hb: ∀y∈c.table,y≤1023) (vB:c.slot=0∨c.slot=1) (hc:c.d.calls≤3999999999999999900) (ha:c.d.aP≤9223372036854775807) (hol:c.parts.length≤5)
  (hr:bP c.bz.table.length≤(Fm.eJ c.m 0).length→c.ep<1099511627776→Rt.eQ (c.ep+1) (c.bz.table.length:Nat) (Rt.cD ((takeN c.m (bP c.bz.table.length)).2.map Int.toNat))∧Rt.cD ((takeN c.m (bP c.bz.table.length)).2.map Int.toNat)=(takeN c.m (bP c.bz.table.length)).2):
  Calls Tryz.prog 100 #[sp x.b] w fun e w'=>e= .returned (.int .i64 (c.aA n).2)∧zG w w' x n (c.aA n).1:=by
 have KW:=fZ h;rw [show c.dX=0 from by unfold C.dX; rw [hbr]; rfl] at KW;have KW:=xh KW;obtain ⟨R,hR⟩: ∃R,c.aA n=R:=⟨_,rfl⟩;rw [hR];have tl:=h.tl;have nB:=xh h.lt;obtain ⟨TA,tc,oG,htc⟩:=h.ht.val;have hx:x={x with tv:= .slice TA c.table.length tc}:=by rw [←oG]
 have HA:=xh (show At w {x with tv:= .slice TA c.table.length tc} n {c with table:=c.table.take c.table.length} from by rw [List.take_length,←hx]; exact h);have HV:=xh oG;obtain ⟨T,hT⟩: ∃T,ir c.table c.table.length=T:=⟨_,rfl⟩;have BU:T≤c.table.length:=by rw [←hT]; exact tG _ _
 have htf:c.bz={c with table:=c.table.take T}:=by unfold C.bz; rw [hT]
 have htl:c.bz.table.length=T:=by rw [htf]; show (c.table.take T).length=T; rw [List.length_take]; omega
 have HT:=xh hT;unfold C.aA at hR;rw [htl] at hR hr;rw [htf] at hR;have HR:=xh hR;clear hR hT htf htl hx oG hbr h;unfold sp at *;go_enter Tryz.func100,Tryz.ntmps100;go_wp2_with fail;refine KW.out.mono ?_;rintro e w1 ⟨rfl,rfl⟩;go_wp2_with fail
 refine wp_cutB (fun a wx=>(∃u11 u12 u13 u14 u15 u16 u17 u18 u19 u20 u21 u22 u23 u24 u25 u26 u27 u28 u29 u30 u31 u32 u33 u34 u35 u36 u37 u38 u39 u40 u41 u42 u43 u44 u45 u46 u47 u48 u49 u50:Value,a=⟨#[.pointer (some ⟨x.b,0,none⟩),undef,.int .i64 0,.int .i64 0,undef,undef,undef,undef,undef,undef,undef,u11,u12,u13,u14,u15,u16,u17,u18,u19,u20,u21,u22,u23,u24,u25,u26,u27,u28,u29,u30,u31,u32,u33,u34,u35,u36,u37,u38,u39,u40,u41,u42,u43,u44,u45,u46,u47,u48,u49,u50,undef,undef,undef,undef,undef,undef,undef,undef,undef,undef,undef,undef,undef,undef,undef,undef,undef,undef,undef,undef,undef,undef,undef,undef,undef,undef,undef,undef,undef,undef,undef,undef,undef,undef,undef,undef,undef,undef,undef,undef,undef,undef,undef,undef,undef,undef,undef,undef,undef,undef,undef,undef,undef,undef,undef,undef,undef,undef,undef,undef,undef,undef,undef,undef,undef,undef,undef,undef,undef,undef,undef,undef,undef,undef,undef,undef,undef,undef,undef,undef,undef,undef,undef,undef,undef,undef,undef,undef,undef,undef,undef,undef,undef,undef],[]⟩)∧Hid (CW x n w wx {x with tv:= .slice TA T tc} {c with table:=c.table.take T})) ?_ ?_
 rotate_left
 ·intro K9 hK9
  go_loopw [19] (fun _ wr=> ∃k:Nat,k≤c.table.length∧Hid (ir c.table k=T)∧Hid (At wr {x with tv:= .slice TA k tc} n {c with table:=c.table.take k}∧ag [x.b] w wr)) (fun _ wr=>EW wr x.b)
  case atStart=>exact ⟨c.table.length,Nat.le_refl _,HT,xh ⟨HA.out,ag.refl _ _⟩⟩
  case round=>
   obtain ⟨k,hk,HK,HB⟩:=hrel;have f2:=HB.out.1.f2;have gw:(c.table.take k).length=k:=by rw [List.length_take]; omega
   have hcs:(k≠0∧c.table.getD (k-1) 0<0)∨k=T∧(k=0∨ ¬c.table.getD (k-1) 0<0):=by
    have:=HK.out
    cases k with
    | zero=>exact .inr ⟨this,.inl rfl⟩
    | succ k=>
     rw [jM] at this
     split at this
     ·rename_i h; exact .inl ⟨by omega,h⟩
     ·rename_i h; exact .inr ⟨this,.inr h⟩
   rcases hcs with ⟨II,yr⟩ | ⟨hkT,II⟩
   ·obtain ⟨j,rfl⟩: ∃j,k=j+1:=⟨k-1,by omega⟩;rw [Nat.add_sub_cancel] at yr;obtain ⟨g,cp,hv,ck⟩:=HB.out.1.tk j (by show j<(c.table.take (j+1)).length; omega);rw [show ({c with table:=c.table.take (j+1)}:C).table.getD j 0=c.table.getD j 0 from by show (c.table.take (j+1)).getD j 0=_; simp [List.getD]] at ck;have hv:(Value.slice TA (j+1) tc)= .slice (some ⟨g,0,none⟩) (c.table.take (j+1)).length cp:=hv;rw [gw] at hv;injection hv with e1 e2 e3
    subst e1 e3;clear e2;have f2:wr.cell? ⟨x.b,2,none⟩=some (.slice (some ⟨g,0,none⟩) (j+1) tc):=f2;have HK2:=xh (show ir c.table j=T from by have:=HK.out; rw [jM,if_pos yr] at this; exact this);have e4:IntKind.i64.wrap ((j:Int)+1-1)=(j:Int):=by rw [Int.add_sub_cancel]; exact IntWalk.i64_in _ (by omega)
    have e5:IntKind.i64.wrap (j:Int)=(j:Int):=IntWalk.i64_in _ (by omega);have e6:(0:Int)<(j:Int)+1:=by omega
    have e7:(j:Int)<(j:Int)+1:=by omega
    generalize c.table.getD j 0=pv at *;go_wp2_with fail;go_quiet (fail);have z2:=HB.out.1.fz 2 (by omega);have z2:wr.frozen? ⟨x.b,2,none⟩=false:=z2;have HN:=xh (show ∀m,At ((wr.drewN m).setCell ⟨x.b,2,none⟩ (.slice (some ⟨g,0,none⟩) j tc)) {x with tv:= .slice (some ⟨g,0,none⟩) j tc} n {c with table:=c.table.take j}∧ag [x.b] w ((wr.drewN m).setCell ⟨x.b,2,none⟩ (.slice (some ⟨g,0,none⟩) j tc)) from fun m=>by
     have A1:=HB.out.1.drewN m;have jY: ∀y∈bA (.slice (some ⟨g,0,none⟩) j tc),y∈bA (.slice (some ⟨g,0,none⟩) (j+1) tc):=fun y hy=>hy;have S:=A1.ht;have S:Sl (wr.drewN m) 3 (.slice (some ⟨g,0,none⟩) (j+1) tc) (j+1) (cw (c.table.take (j+1))):=by have S2:=S; rw [show ({c with table:=c.table.take (j+1)}:C).table.length=j+1 from gw] at S2; exact S2
     have S3:=S.cut rfl j (by omega);have e:(cw (c.table.take (j+1))).take j=cw (c.table.take j):=by unfold cw; rw [←List.map_take,List.take_take,Nat.min_eq_left (by omega)]
     rw [e] at S3;have hl:(c.table.take j).length=j:=by rw [List.length_take]; omega
     have S4:Sl (wr.drewN m) 3 (.slice (some ⟨g,0,none⟩) j tc) (c.table.take j).length (cw (c.table.take j)):=by rw [hl]; exact S3
     obtain ⟨_,_,A2,o2⟩:=A1.newT S4 (fun hg=>A1.n1 (jY _ hg)) (fun y hy=>A1.n4 y (jY y hy)) (fun y hy=>A1.n5 y (jY y hy)) (by omega);exact ⟨A2,(HB.out.2.drewN m).trans o2⟩)
    have HM:=xh (show ∀m,EW ((wr.drewN m).setCell ⟨x.b,2,none⟩ (.slice (some ⟨g,0,none⟩) j tc)) x.b<EW wr x.b from fun m=>by
     have c2:((wr.drewN m).setCell ⟨x.b,2,none⟩ (.slice (some ⟨g,0,none⟩) j tc)).cell? ⟨x.b,2,none⟩=some (.slice (some ⟨g,0,none⟩) j tc):=(HN.out m).1.f2;unfold EW;rw [c2,f2];show j<j+1;omega)
    go_wp2_with fail
    go_region
    go_wp2_with fail;go_roundw
    case rel=>exact ⟨j,by omega,HK2,xh (HN.out _)⟩
    case measure=>exact HM.out _
   ·rcases Nat.eq_zero_or_pos k with hz | hpos
    ·subst hz;subst hkT;go_wp2_with fail;go_quiet (fail);go_wp2_with fail;exact ⟨⟨_,_,_,_,_,_,_,_,_,_,_,_,_,_,_,_,_,_,_,_,_,_,_,_,_,_,_,_,_,_,_,_,_,_,_,_,_,_,_,_,rfl⟩,xh ⟨HB.out.1.drewN _,(HB.out.2.drewN _).mono (fun g hg _=>by simp at hg; subst hg; simp [X.fp]),by unfold X.fp; rw [HV.out]; rw [tI _ _ c.table.length tc]⟩⟩
    ·obtain ⟨jz,rfl⟩: ∃jz,k=jz+1:=⟨k-1,by omega⟩;subst hkT
     rcases II with II | II
     ·omega
     rw [Nat.add_sub_cancel] at II;obtain ⟨gz,cp,EK,ck⟩:=HB.out.1.tk jz (by show jz<(c.table.take (jz+1)).length; omega);rw [show ({c with table:=c.table.take (jz+1)}:C).table.getD jz 0=c.table.getD jz 0 from by show (c.table.take (jz+1)).getD jz 0=_; simp [List.getD]] at ck;have hv:(Value.slice TA (jz+1) tc)= .slice (some ⟨gz,0,none⟩) (c.table.take (jz+1)).length cp:=EK;clear EK;rw [gw] at hv;injection hv with e1 e2 e3
     subst e1 e3;clear e2;have f2:wr.cell? ⟨x.b,2,none⟩=some (.slice (some ⟨gz,0,none⟩) (jz+1) tc):=f2;have e4:IntKind.i64.wrap ((jz:Int)+1-1)=(jz:Int):=by rw [Int.add_sub_cancel]; exact IntWalk.i64_in _ (by omega)
     have e5:IntKind.i64.wrap (jz:Int)=(jz:Int):=IntWalk.i64_in _ (by omega);have e6:(0:Int)<(jz:Int)+1:=by omega
     have e7:(jz:Int)<(jz:Int)+1:=by omega
     have hdv:decide (c.table.getD jz 0<0)=false:=by rw [decide_eq_false_iff_not]; exact II
     generalize c.table.getD jz 0=pv at *;go_wp2_with fail;go_quiet (fail);go_wp2_with fail;exact ⟨⟨_,_,_,_,_,_,_,_,_,_,_,_,_,_,_,_,_,_,_,_,_,_,_,_,_,_,_,_,_,_,_,_,_,_,_,_,_,_,_,_,rfl⟩,xh ⟨HB.out.1.drewN _,(HB.out.2.drewN _).mono (fun g hg _=>by simp at hg; subst hg; simp [X.fp]),by unfold X.fp; rw [HV.out]; rw [tI _ _ c.table.length tc]⟩⟩
 ·rintro a9 wc ⟨⟨u11,u12,u13,u14,u15,u16,u17,u18,u19,u20,u21,u22,u23,u24,u25,u26,u27,u28,u29,u30,u31,u32,u33,u34,u35,u36,u37,u38,u39,u40,u41,u42,u43,u44,u45,u46,u47,u48,u49,u50,rfl⟩,C0⟩;have gw:(c.table.take T).length=T:=by rw [List.length_take]; omega
  have hk:T≤c.table.length:=BU;have hfp:({x with tv:= .slice TA T tc}:X).fp=x.fp:=by
   unfold X.fp;rw [HV.out,tI TA T c.table.length tc]
  have KND:=xh (fun (W:World)=>Rt.tg ((T:Nat):Int) (by omega) W);rw [EY] at KND;have KFR:=xh (fun (W:World) (hW:At W {x with tv:= .slice TA T tc} n {c with table:=c.table.take T})=>Fm.Jw hW.hm);rw [show ({c with table:=c.table.take T}:C).m=c.m from rfl] at KFR;unfold Fm.mp at KFR;have f1:=C0.out.a.f1;have f2:=C0.out.a.f2;have f5:=C0.out.a.f5;have f2:wc.cell? ⟨x.b,2,none⟩=some (.slice TA (c.table.take T).length tc):=by rw [gw]; exact f2
  have f1:wc.cell? ⟨x.b,1,none⟩=some (.pointer (some ⟨x.mb,0,none⟩)):=f1;rw [gw] at f2;go_wp2_with fail;refine (KND.out _).mono ?_;rintro e v1 ⟨rfl,aM⟩;have C1:=xh (C0.out.below aM);have g1:v1.cell? ⟨x.b,1,none⟩=some (.pointer (some ⟨x.mb,0,none⟩)):=C1.out.a.f1;clear aM f1 f2 f5;go_wp2_with fail;refine (KFR.out _ C1.out.a).mono ?_;rintro e v2 ⟨rfl,bT⟩;have C2:=xh (C1.out.below bT);have f5:=C2.out.a.f5;have f5:v2.cell? ⟨x.b,5,none⟩=some (.int .i64 c.ep):=f5;clear bT g1
  by_cases ym:(Fm.eJ c.m 0).length<bP T
  ·have hI:((Fm.eJ c.m 0).length:Int)<((bP T:Nat):Int):=by omega
   have pW:=HR.out;rw [if_pos ym] at pW;subst pW;generalize bP T=nd at *;go_wp2_with fail;go_ret;exact ⟨by first | rfl | simp,C2.out.post⟩
  have hI: ¬((Fm.eJ c.m 0).length:Int)<((bP T:Nat):Int):=by omega
  by_cases hee:1099511627776≤c.ep
  ·have pW:=HR.out;rw [if_neg ym,if_pos hee] at pW;subst pW;generalize bP T=nd at *;go_wp2_with fail;go_ret;exact ⟨by first | rfl | simp,C2.out.post⟩
  have pW:=HR.out;rw [if_neg ym,if_neg hee] at pW;obtain ⟨hrr,hnn⟩:=hr (by omega) (by omega);have hkl2:T≤512:=by omega
  have hnd5:bP T≤5:=by unfold bP; omega
  have hm1024:=C2.out.a.hm.hl;have HR3:=xh pW;clear pW ym hr;obtain ⟨nd,wg⟩: ∃nd,bP T=nd:=⟨_,rfl⟩;rw [wg] at hI hrr hnn HR3 hnd5 ⊢;clear wg;have vD:decide (((Fm.eJ c.m 0).length:Int)<(nd:Int))=false:=by rw [decide_eq_false_iff_not]; exact hI
  have hd3:decide ((Fm.eJ c.m 0).length<nd)=false:=by rw [decide_eq_false_iff_not]; omega
  have Kc:decide ((1099511627776:Int)≤c.ep)=false:=by rw [decide_eq_false_iff_not]; omega
  have PNL:=xh (fun i=>mK c.m i);go_wp2_with fail
  go_loopw [5,6,7,72] (fun pv _ _ iv wq=> ∃i:Nat,i≤nd∧iv= .int .i64 i∧aG wq 3 1 pv i (cw (takeN c.m i).2)∧Hid (CW x n w wq {x with tv:= .slice TA T tc} {c with table:=c.table.take T,m:=(takeN c.m i).1}∧ ∀g∈ah pv,w.heap.size≤g)) (fun _ _ _ iv _=>nd-(intOf iv).toNat)
  case atStart=>exact ⟨0,Nat.zero_le _,rfl,aG.nil _ _ _,xh ⟨C2.out,by simp [ah]⟩⟩
  case round=>
   obtain ⟨i,hi,rfl,S,HC⟩:=hrel;obtain ⟨VA,vc,rfl⟩:=aq S
   by_cases h':i<nd
   ·have hiI:(i:Int)<(nd:Int):=by omega
    have g1:wr.cell? ⟨x.b,1,none⟩=some (.pointer (some ⟨x.mb,0,none⟩)):=HC.out.1.a.f1;have KT:=xh (Fm.oO HC.out.1.a.hm);have HM:=xh (fun (W:World) (mm:Fm.cR W x.mb x.mg (Fm.bV (takeN c.m i).1).1) (ow:ag [x.mg] wr W)=>HC.out.1.a.map mm ow);have HTK:=xh (show takeN c.m (i+1)=((Fm.bV (takeN c.m i).1).1,(takeN c.m i).2++[(Fm.bV (takeN c.m i).1).2.1]) from rfl);rw [show ({c with table:=c.table.take T,m:=(takeN c.m i).1}:C).m=(takeN c.m i).1 from rfl] at KT
    generalize Fm.bV (takeN c.m i).1=tf at *;obtain ⟨tm,tid,te⟩:=tf;dsimp only at KT;unfold Fm.mp at KT;go_wp2_with fail;refine KT.out.mono ?_;rintro e v3 ⟨rfl,mm,ow⟩;have A3:=HM.out _ mm ow;have s3:=S.only ow (fun g hg hm=>by have:=HC.out.2 g hg; have:=nB.out x.mg (by simp [X.fp]); simp at hm; omega);obtain ⟨v',w4,ea,S4,ow4,fr4⟩:=cd (P:=Tryz.prog) s3 60 60 (.int .i64 0) 8 Tryz.underlying60 gh rfl (.int .i64 tid) rfl (by unfold maxLen; omega) (by omega)
    obtain ⟨V4,c4,rfl⟩:=aq S4;have H4:=xh (show aG w4 3 1 (.slice V4 (i+1) c4) (i+1) (cw (takeN c.m (i+1)).2)∧CW x n w w4 {x with tv:= .slice TA T tc} {c with table:=c.table.take T,m:=(takeN c.m (i+1)).1}∧ ∀g∈ah (.slice V4 (i+1) c4),w.heap.size≤g from by
     rw [HTK.out];refine ⟨by rw [eB]; exact S4,⟨A3.only ow4 (fun g hF hg=>by have:=HC.out.2 g hg; have:=nB.out g (by rw [hfp] at hF; exact hF); omega),(HC.out.1.o.trans (ow.mono (fun g hg _=>oV x g hg))).aS ow4 (fun g hg dL=>by have:=HC.out.2 g hg; omega),hfp⟩,fun g hg=>(fr4 g hg).elim (HC.out.2 g) (fun h=>by have:=HC.out.1.o.size; have:=ow.size; omega)⟩)
    have EA:=xh ea;clear ea S4 ow4 fr4 s3 A3 mm ow S g1;go_wp2_with fail;rw [EA.out];go_wp2_with fail;go_roundw
    case rel=>exact ⟨i+1,by omega,by go_num,H4.out.1,xh H4.out.2⟩
    case measure=>simp [intOf]; omega
   ·obtain rfl:i=nd:=by omega
    have rW:(Rt.cD ((takeN c.m i).2.map Int.toNat)).length=i:=by rw [hnn]; exact PNL.out i
    have hown:bA (.slice VA i vc)=[]∨bA (.slice VA i vc)=ah (.slice VA i vc):=by
     cases VA with
     | none=>exact .inl rfl
     | some a=>unfold bA ah; by_cases h0:vc=0<;>simp [h0]
    have jY: ∀g∈bA (.slice VA i vc),w.heap.size≤g:=fun g hg=>by
     rcases hown with h | h
     ·rw [h] at hg; simp at hg
     ·rw [h] at hg; exact HC.out.2 g hg
    have hic:i≤vc:=by
     obtain ⟨A',c',e,hle⟩:=(Sl.pY S).val;injection e with _ _ e3
     omega
    have SP:Sl wr 3 (.slice VA i vc) i (cw (Rt.cD ((takeN c.m i).2.map Int.toNat))):=by rw [hnn]; exact Sl.pY S
    have KL:=sg HC.out.1.a ((takeN c.m i).2.map Int.toNat) SP hic (fun g hg hF=>by have:=jY g hg; have:=nB.out g (by rw [hfp] at hF; exact hF); omega) (show Rt.eQ (c.ep+1) ((c.table.take T).length:Nat) _ from by rw [gw]; exact hrr) (fun y hy=>hb y (List.mem_of_mem_take hy)) vB hc ha;have HR4:=HR3.out;have KL:=xh KL;generalize nS:({c with table:=c.table.take T,m:=(takeN c.m i).1}:C).aY n ((takeN c.m i).2.map Int.toNat)=lf at *;obtain ⟨ld,le⟩:=lf;dsimp only at KL HR4
    by_cases hle:le=0
    ·subst hle;rw [if_neg (by simp)] at HR4;subst HR4;clear nS;obtain ⟨PA,pc,hpv,hpcc⟩:=HC.out.1.a.hp.val;have hpv:x.pv= .slice PA c.parts.length pc:=hpv;have HPV:=xh hpv;unfold sp at KL;go_wp2_with fail;refine KL.out.mono ?_;rintro e v3 ⟨rfl,A3,o3⟩;have C3:=xh (show CW x n w v3 {x with tv:= .slice TA T tc} {c with table:=c.table.take T,m:=bH (takeN c.m i).1 (c.parts.take 0),d:=ld} from ⟨by rw [List.take_zero]; exact A3,HC.out.1.o.trans (o3.mono (fun g hg _=>zE x g hg)),hfp⟩)
     have SP3:=xh (show Sl v3 3 (.slice VA i vc) i (cw (takeN c.m i).2) from (Sl.pY S).only o3 (fun g hg hF=>by have:=jY g hg; have:=nB.out g (zE x g hF); omega));have q4:v3.cell? ⟨x.b,4,none⟩=some (.slice PA c.parts.length pc):=by rw [←HPV.out]; exact C3.out.a.f4
     clear A3 o3 hpv;go_wp2_with fail
     go_loopw [10,101] (fun _ iv wr=> ∃j:Nat,j≤c.parts.length∧iv= .int .i64 j∧Hid (CW x n w wr {x with tv:= .slice TA T tc} {c with table:=c.table.take T,m:=bH (takeN c.m i).1 (c.parts.take j),d:=ld})∧Hid (Sl wr 3 (.slice VA i vc) i (cw (takeN c.m i).2))) (fun _ iv _=>c.parts.length-(intOf iv).toNat)
     case atStart=>exact ⟨0,Nat.zero_le _,rfl,C3,SP3⟩
     case round=>
      obtain ⟨j,hj,rfl,HC4,SP4⟩:=hrel
      by_cases h':j<c.parts.length
      ·have hjI:(j:Int)<(c.parts.length:Int):=by omega
       obtain ⟨g,cp,rest,hv,⟨_,B⟩,_,_⟩:=HC4.out.a.hp.form (by show 0<c.parts.length; omega);have hv:x.pv= .slice (some ⟨g,0,none⟩) c.parts.length cp:=hv;rw [HPV.out] at hv;injection hv with e1 e2 e3
       subst e1 e3;clear e2;have cj:wr.cell? ⟨g,j,none⟩=some (.int .i64 (c.parts.getD j 0)):=B.ab (by rw [List.getElem?_toArray,List.getElem?_append_left (by simpa using h'),lR _ _ h']);have g1:wr.cell? ⟨x.b,1,none⟩=some (.pointer (some ⟨x.mb,0,none⟩)):=HC4.out.a.f1;have hlv:bH (takeN c.m i).1 (c.parts.take (j+1))=(Fm.cF (bH (takeN c.m i).1 (c.parts.take j)) (c.parts.getD j 0)).1:=by
        rw [List.take_succ_eq_append_getElem h',yu];simp [bH,List.getD,List.getElem?_eq_getElem h']
       have KLV:=xh (Fm.mF HC4.out.a.hm (c.parts.getD j 0));rw [show ({c with table:=c.table.take T,m:=bH (takeN c.m i).1 (c.parts.take j),d:=ld}:C).m=bH (takeN c.m i).1 (c.parts.take j) from rfl,←hlv] at KLV;have HM:=xh (fun (W:World) (mm:Fm.cR W x.mb x.mg (bH (takeN c.m i).1 (c.parts.take (j+1)))) (ow:ag [x.mg] wr W)=>HC4.out.a.map mm ow);generalize (Fm.cF (bH (takeN c.m i).1 (c.parts.take j)) (c.parts.getD j 0)).2=lq at *
       generalize c.parts.getD j 0=pj at *;unfold Fm.mp at KLV;clear hlv B;go_wp2_with fail;refine KLV.out.mono ?_;rintro e v4 ⟨rfl,mm,ow⟩;have C5:=xh (show CW x n w v4 {x with tv:= .slice TA T tc} {c with table:=c.table.take T,m:=bH (takeN c.m i).1 (c.parts.take (j+1)),d:=ld} from ⟨HM.out _ mm ow,HC4.out.o.trans (ow.mono (fun g hg _=>oV x g hg)),hfp⟩);have SP5:=xh (SP4.out.only ow (fun g hg hm=>by have:=jY g hg; have:=nB.out x.mg (by simp [X.fp]); simp at hm; omega))
       clear mm ow;go_wp2_with fail;go_roundw
       case rel=>exact ⟨j+1,by omega,by go_num,C5,SP5⟩
       case measure=>simp [intOf]; omega
      ·obtain rfl:j=c.parts.length:=by omega
       have g1:wr.cell? ⟨x.b,1,none⟩=some (.pointer (some ⟨x.mb,0,none⟩)):=HC4.out.a.f1;rw [List.take_length] at HC4;have KCM:=xh (Fm.Cx HC4.out.a.hm);rw [show ({c with table:=c.table.take T,m:=bH (takeN c.m i).1 c.parts,d:=ld}:C).m=bH (takeN c.m i).1 c.parts from rfl] at KCM;have HM:=xh (fun (W:World) (mm:Fm.cR W x.mb x.mg (Fm.iP 0 1 (bH (takeN c.m i).1 c.parts))) (ow:ag [x.mg] wr W)=>HC4.out.a.map mm ow);unfold Fm.mp at KCM;go_wp2_with fail
       refine KCM.out.mono ?_;rintro e v6 ⟨rfl,mm,ow⟩;have C6:=xh (show CW x n w v6 {x with tv:= .slice TA T tc} {c with table:=c.table.take T,m:=Fm.iP 0 1 (bH (takeN c.m i).1 c.parts),d:=ld} from ⟨HM.out _ mm ow,HC4.out.o.trans (ow.mono (fun g hg _=>oV x g hg)),hfp⟩);have SP6:=xh (SP4.out.only ow (fun g hg hm=>by have:=jY g hg; have:=nB.out x.mg (by simp [X.fp]); simp at hm; omega))
       have KC:=xh (fun (W:World) (hW:At W {x with tv:= .slice TA T tc} n {c with table:=c.table.take T,m:=Fm.iP 0 1 (bH (takeN c.m i).1 c.parts),d:=ld})=>JX (v:= .slice TA T tc) hW.ht (by show (c.table.take T).length≤100000; omega));have e8:IntKind.i64.wrap (c.ep+1)=c.ep+1:=IntWalk.i64_in _ (by omega);have e9:IntKind.i64.wrap (1-c.slot)=1-c.slot:=IntWalk.i64_in _ (by omega);have d2:v6.cell? ⟨x.b,2,none⟩=some (.slice TA T tc):=C6.out.a.f2
       have d5:v6.cell? ⟨x.b,5,none⟩=some (.int .i64 c.ep):=C6.out.a.f5;have d6:v6.cell? ⟨x.b,6,none⟩=some (.int .i64 c.slot):=C6.out.a.f6;have Kd:=xh (show ∀v7 vo,Sl v7 3 vo (c.table.take T).length (cw (c.table.take T))→Below v6.drew.heap.size v6.drew v7→(∀g∈bA vo,v6.drew.heap.size≤g)→
         zG w ((((v7.setCell ⟨x.b,3,none⟩ vo).setCell ⟨x.b,4,none⟩ (.slice VA i vc)).setCell ⟨x.b,5,none⟩ (.int .i64 (c.ep+1))).setCell ⟨x.b,6,none⟩ (.int .i64 (1-c.slot))) x n
          {c with table:=c.table.take T,m:=Fm.iP 0 1 (bH (takeN c.m i).1 c.parts),d:=ld,bE:=c.table.take T,parts:=(takeN c.m i).2,ep:=c.ep+1,slot:=1-c.slot} from fun v7 vo S7 fY lI=>by
        have A7:=C6.out.a.drew.below fY;have SP7:Sl v7 3 (.slice VA i vc) (takeN c.m i).2.length (cw (takeN c.m i).2):=by rw [PNL.out]; exact SP6.out.drew.below fY
        have hfpl: ∀g∈({x with tv:= .slice TA T tc}:X).fp,g<w.heap.size:=fun g hg=>nB.out g (by rw [hfp] at hg; exact hg);have hws:w.heap.size≤v6.drew.heap.size:=C6.out.o.size;obtain ⟨A8,o8⟩:=A7.newC S7 SP7 (fun g hg hF=>by have:=lI g hg; have:=hfpl g hF; omega) (fun g hg hF=>by have:=jY g hg; have:=hfpl g hF; omega) (fun g hg hp=>by have:=lI g hg; have:g<v6.drew.heap.size:=SP6.out.lt g hp; omega) (c.ep+1) (1-c.slot)
        refine ⟨{x with tv:= .slice TA T tc,ov:=vo,pv:= .slice VA i vc},rfl,rfl,A8,((C6.out.o.drew).trans (.ak fY)).trans (o8.mono (fun g hg _=>by simp at hg; subst hg; simp [X.fp])),fun g hg=>?_⟩;have nA:g∈({x with tv:= .slice TA T tc}:X).fp∨g∈bA vo∨g∈bA (.slice VA i vc):=by
         simp only [X.fp,List.mem_cons,List.mem_append] at hg ⊢
         rcases hg with hg | hg | hg | ((hg | hg) | hg) | hg
         ·exact .inl (.inl hg)
         ·exact .inl (.inr (.inl hg))
         ·exact .inl (.inr (.inr (.inl hg)))
         ·exact .inl (.inr (.inr (.inr (.inl (.inl (.inl hg))))))
         ·exact .inl (.inr (.inr (.inr (.inl (.inl (.inr hg))))))
         ·exact .inr (.inl hg)
         ·exact .inr (.inr hg)
        rcases nA with h | h | h
        ·exact .inl (by rw [hfp] at h; exact h)
        ·exact .inr (Nat.le_trans hws (lI g h))
        ·exact .inr (jY g h))
       clear mm ow g1;go_wp2_with fail;refine wp_region_held_drew (S:=fun _=>True) (by kernel_rfl) (trivial) (fun aj=>?_);refine bR [(0,117),(1,118),(2,119),(3,120),(4,121),(5,122),(6,123),(9,126),(10,127),(11,128),(12,129),(15,132),(16,133),(17,134)] ?_
       iterate 14 (refine zt ?_; try simp only [Act.put,pa,pb,pc])
       refine bS ?_;refine wpAnyH_ready (rs:=[7,13,18]) (by kernel_rfl) (by simp) ?_;refine AllReadyH.cons (o:=⟨some 124,_,_,_,_,_⟩) rfl (fun K hK=>?_) (AllReadyH.cons (o:=⟨some 130,_,_,_,_,_⟩) rfl (fun K hK=>?_) (AllReadyH.cons (o:=⟨some 135,_,_,_,_,_⟩) rfl (fun K hK=>?_) AllReadyH.nil))
       ·skip
        go_simp;have gd:=d2;go_simp;clear gd;refine hK.out _ _ (trivial) (fun aj=>?_)
        try simp only [Act.put,pa,pb,pc]
        refine wpAnyH_ready (rs:=[8,13,18]) (by kernel_rfl) (by simp) ?_;refine AllReadyH.cons (o:=⟨some 125,_,_,_,_,_⟩) rfl (fun K hK=>?_) (AllReadyH.cons (o:=⟨some 130,_,_,_,_,_⟩) rfl (fun K hK=>?_) (AllReadyH.cons (o:=⟨some 135,_,_,_,_,_⟩) rfl (fun K hK=>?_) AllReadyH.nil))
        ·skip
         go_simp
         go_at_call 85
         refine (KC.out _ C6.out.a.drew).mono ?_;rintro e v7 ⟨vo,rfl,S7,fY,lI⟩;have A7:=xh (C6.out.a.drew.below fY);have PX:=xh (Kd.out v7 vo S7 fY lI);obtain ⟨V7,c7,rfl,_⟩:=S7.val;have h5:v7.cell? ⟨x.b,5,none⟩=some (.int .i64 c.ep):=A7.out.f5;have h6:v7.cell? ⟨x.b,6,none⟩=some (.int .i64 c.slot):=A7.out.f6;have h3:=A7.out.hb.ab (i:=3) rfl;have h4:=A7.out.hb.ab (i:=4) rfl;have z3:v7.frozen? ⟨x.b,3,none⟩=false:=A7.out.fz 3 (by omega)
         have z4:v7.frozen? ⟨x.b,4,none⟩=false:=A7.out.fz 4 (by omega);have z5:v7.frozen? ⟨x.b,5,none⟩=false:=A7.out.fz 5 (by omega);have z6:v7.frozen? ⟨x.b,6,none⟩=false:=A7.out.fz 6 (by omega);have h3:v7.cell? ⟨x.b,3,none⟩=some x.ov:=h3;have h4:v7.cell? ⟨x.b,4,none⟩=some x.pv:=h4;clear S7 fY lI;go_simp;refine hK.out _ _ (trivial) (fun aj=>?_)
         try simp only [Act.put,pa,pb,pc]
         refine wpAnyH_ready (rs:=[13,18]) (by kernel_rfl) (by simp) ?_;refine AllReadyH.cons (o:=⟨some 130,_,_,_,_,_⟩) rfl (fun K hK=>?_) (AllReadyH.cons (o:=⟨some 135,_,_,_,_,_⟩) rfl (fun K hK=>?_) AllReadyH.nil)
         ·skip
          go_simp;have gd:=h5;go_simp;clear gd;refine hK.out _ _ (trivial) (fun aj=>?_)
          try simp only [Act.put,pa,pb,pc]
          refine bR [(14,131)] ?_
          iterate 1 (refine zt ?_; try simp only [Act.put,pa,pb,pc])
          refine bS ?_;refine cA (i:=18) (o:=⟨some 135,_,_,_,_,_⟩) fun K hK=>?_;go_simp;have gd:=h6;go_simp;clear gd;refine hK.out _ _ (trivial) (fun aj=>?_)
          try simp only [Act.put,pa,pb,pc]
          refine bR [(19,136),(20,137),(21,138)] ?_
          iterate 3 (refine zt ?_; try simp only [Act.put,pa,pb,pc])
          refine bS ?_;refine cA (i:=22) (o:=⟨none,_,_,_,_,_⟩) fun K hK=>?_;go_simp;refine hK.out _ _ (trivial) (fun aj=>?_)
          try simp only [Act.put,pa,pb,pc]
          refine bR [(23,139),(24,140)] ?_
          iterate 2 (refine zt ?_; try simp only [Act.put,pa,pb,pc])
          refine bS ?_;refine cA (i:=25) (o:=⟨none,_,_,_,_,_⟩) fun K hK=>?_;go_simp;refine hK.out _ _ (trivial) (fun aj=>?_)
          try simp only [Act.put,pa,pb,pc]
          refine bR [(26,141),(27,142)] ?_
          iterate 2 (refine zt ?_; try simp only [Act.put,pa,pb,pc])
          refine bS ?_;refine cA (i:=28) (o:=⟨none,_,_,_,_,_⟩) fun K hK=>?_;go_simp;refine hK.out _ _ (trivial) (fun aj=>?_)
          try simp only [Act.put,pa,pb,pc]
          refine bR [(29,143),(30,144)] ?_
          iterate 2 (refine zt ?_; try simp only [Act.put,pa,pb,pc])
          refine bS ?_;refine cA (i:=31) (o:=⟨none,_,_,_,_,_⟩) fun K hK=>?_;go_simp;refine hK.out _ _ (trivial) (fun aj=>?_)
          try simp only [Act.put,pa,pb,pc]
          refine wpAnyH_done (by kernel_rfl) ?_ _;go_wp2_with fail;go_ret
          first
           | exact ⟨by first | rfl | simp,PX.out⟩
           | exact ⟨by first | rfl | simp,by have q:=PX.out; rw [gw] at q; exact q⟩
         ·skip
          go_simp;have gd:=h6;go_simp;clear gd;refine hK.out _ _ (trivial) (fun aj=>?_)
          try simp only [Act.put,pa,pb,pc]
          refine bR [(19,136)] ?_
          iterate 1 (refine zt ?_; try simp only [Act.put,pa,pb,pc])
          refine bS ?_;refine cA (i:=13) (o:=⟨some 130,_,_,_,_,_⟩) fun K hK=>?_;go_simp;have gd:=h5;go_simp;clear gd;refine hK.out _ _ (trivial) (fun aj=>?_)
          try simp only [Act.put,pa,pb,pc]
          refine bR [(14,131),(20,137),(21,138)] ?_
          iterate 3 (refine zt ?_; try simp only [Act.put,pa,pb,pc])
          refine bS ?_;refine cA (i:=22) (o:=⟨none,_,_,_,_,_⟩) fun K hK=>?_;go_simp;refine hK.out _ _ (trivial) (fun aj=>?_)
          try simp only [Act.put,pa,pb,pc]
          refine bR [(23,139),(24,140)] ?_
          iterate 2 (refine zt ?_; try simp only [Act.put,pa,pb,pc])
          refine bS ?_;refine cA (i:=25) (o:=⟨none,_,_,_,_,_⟩) fun K hK=>?_;go_simp;refine hK.out _ _ (trivial) (fun aj=>?_)
          try simp only [Act.put,pa,pb,pc]
          refine bR [(26,141),(27,142)] ?_
          iterate 2 (refine zt ?_; try simp only [Act.put,pa,pb,pc])
          refine bS ?_;refine cA (i:=28) (o:=⟨none,_,_,_,_,_⟩) fun K hK=>?_;go_simp;refine hK.out _ _ (trivial) (fun aj=>?_)
          try simp only [Act.put,pa,pb,pc]
          refine bR [(29,143),(30,144)] ?_
          iterate 2 (refine zt ?_; try simp only [Act.put,pa,pb,pc])
          refine bS ?_;refine cA (i:=31) (o:=⟨none,_,_,_,_,_⟩) fun K hK=>?_;go_simp;refine hK.out _ _ (trivial) (fun aj=>?_)
          try simp only [Act.put,pa,pb,pc]
          refine wpAnyH_done (by kernel_rfl) ?_ _;go_wp2_with fail;go_ret
          first
           | exact ⟨by first | rfl | simp,PX.out⟩
           | exact ⟨by first | rfl | simp,by have q:=PX.out; rw [gw] at q; exact q⟩
        ·skip
         go_simp;have gd:=d5;go_simp;clear gd;refine hK.out _ _ (trivial) (fun aj=>?_)
         try simp only [Act.put,pa,pb,pc]
         refine bR [(14,131)] ?_
         iterate 1 (refine zt ?_; try simp only [Act.put,pa,pb,pc])
         refine bS ?_;refine wpAnyH_ready (rs:=[8,18]) (by kernel_rfl) (by simp) ?_;refine AllReadyH.cons (o:=⟨some 125,_,_,_,_,_⟩) rfl (fun K hK=>?_) (AllReadyH.cons (o:=⟨some 135,_,_,_,_,_⟩) rfl (fun K hK=>?_) AllReadyH.nil)
         ·skip
          go_simp
          go_at_call 85
          refine (KC.out _ C6.out.a.drew).mono ?_;rintro e v7 ⟨vo,rfl,S7,fY,lI⟩;have A7:=xh (C6.out.a.drew.below fY);have PX:=xh (Kd.out v7 vo S7 fY lI);obtain ⟨V7,c7,rfl,_⟩:=S7.val;have h5:v7.cell? ⟨x.b,5,none⟩=some (.int .i64 c.ep):=A7.out.f5;have h6:v7.cell? ⟨x.b,6,none⟩=some (.int .i64 c.slot):=A7.out.f6;have h3:=A7.out.hb.ab (i:=3) rfl;have h4:=A7.out.hb.ab (i:=4) rfl;have z3:v7.frozen? ⟨x.b,3,none⟩=false:=A7.out.fz 3 (by omega)
          have z4:v7.frozen? ⟨x.b,4,none⟩=false:=A7.out.fz 4 (by omega);have z5:v7.frozen? ⟨x.b,5,none⟩=false:=A7.out.fz 5 (by omega);have z6:v7.frozen? ⟨x.b,6,none⟩=false:=A7.out.fz 6 (by omega);have h3:v7.cell? ⟨x.b,3,none⟩=some x.ov:=h3;have h4:v7.cell? ⟨x.b,4,none⟩=some x.pv:=h4;clear S7 fY lI;go_simp;refine hK.out _ _ (trivial) (fun aj=>?_)
          try simp only [Act.put,pa,pb,pc]
          refine cA (i:=18) (o:=⟨some 135,_,_,_,_,_⟩) fun K hK=>?_;go_simp;have gd:=h6;go_simp;clear gd;refine hK.out _ _ (trivial) (fun aj=>?_)
          try simp only [Act.put,pa,pb,pc]
          refine bR [(19,136),(20,137),(21,138)] ?_
          iterate 3 (refine zt ?_; try simp only [Act.put,pa,pb,pc])
          refine bS ?_;refine cA (i:=22) (o:=⟨none,_,_,_,_,_⟩) fun K hK=>?_;go_simp;refine hK.out _ _ (trivial) (fun aj=>?_)
          try simp only [Act.put,pa,pb,pc]
          refine bR [(23,139),(24,140)] ?_
          iterate 2 (refine zt ?_; try simp only [Act.put,pa,pb,pc])
          refine bS ?_;refine cA (i:=25) (o:=⟨none,_,_,_,_,_⟩) fun K hK=>?_;go_simp;refine hK.out _ _ (trivial) (fun aj=>?_)
          try simp only [Act.put,pa,pb,pc]
          refine bR [(26,141),(27,142)] ?_
          iterate 2 (refine zt ?_; try simp only [Act.put,pa,pb,pc])
          refine bS ?_;refine cA (i:=28) (o:=⟨none,_,_,_,_,_⟩) fun K hK=>?_;go_simp;refine hK.out _ _ (trivial) (fun aj=>?_)
          try simp only [Act.put,pa,pb,pc]
          refine bR [(29,143),(30,144)] ?_
          iterate 2 (refine zt ?_; try simp only [Act.put,pa,pb,pc])
          refine bS ?_;refine cA (i:=31) (o:=⟨none,_,_,_,_,_⟩) fun K hK=>?_;go_simp;refine hK.out _ _ (trivial) (fun aj=>?_)
          try simp only [Act.put,pa,pb,pc]
          refine wpAnyH_done (by kernel_rfl) ?_ _;go_wp2_with fail;go_ret
          first
           | exact ⟨by first | rfl | simp,PX.out⟩
           | exact ⟨by first | rfl | simp,by have q:=PX.out; rw [gw] at q; exact q⟩
         ·skip
          go_simp;have gd:=d6;go_simp;clear gd;refine hK.out _ _ (trivial) (fun aj=>?_)
          try simp only [Act.put,pa,pb,pc]
          refine bR [(19,136)] ?_
          iterate 1 (refine zt ?_; try simp only [Act.put,pa,pb,pc])
          refine bS ?_;refine cA (i:=8) (o:=⟨some 125,_,_,_,_,_⟩) fun K hK=>?_;go_simp
          go_at_call 85
          refine (KC.out _ C6.out.a.drew).mono ?_;rintro e v7 ⟨vo,rfl,S7,fY,lI⟩;have A7:=xh (C6.out.a.drew.below fY);have PX:=xh (Kd.out v7 vo S7 fY lI);obtain ⟨V7,c7,rfl,_⟩:=S7.val;have h5:v7.cell? ⟨x.b,5,none⟩=some (.int .i64 c.ep):=A7.out.f5;have h6:v7.cell? ⟨x.b,6,none⟩=some (.int .i64 c.slot):=A7.out.f6;have h3:=A7.out.hb.ab (i:=3) rfl;have h4:=A7.out.hb.ab (i:=4) rfl;have z3:v7.frozen? ⟨x.b,3,none⟩=false:=A7.out.fz 3 (by omega)
          have z4:v7.frozen? ⟨x.b,4,none⟩=false:=A7.out.fz 4 (by omega);have z5:v7.frozen? ⟨x.b,5,none⟩=false:=A7.out.fz 5 (by omega);have z6:v7.frozen? ⟨x.b,6,none⟩=false:=A7.out.fz 6 (by omega);have h3:v7.cell? ⟨x.b,3,none⟩=some x.ov:=h3;have h4:v7.cell? ⟨x.b,4,none⟩=some x.pv:=h4;clear S7 fY lI;go_simp;refine hK.out _ _ (trivial) (fun aj=>?_)
          try simp only [Act.put,pa,pb,pc]
          refine bR [(20,137),(21,138)] ?_
          iterate 2 (refine zt ?_; try simp only [Act.put,pa,pb,pc])
          refine bS ?_;refine cA (i:=22) (o:=⟨none,_,_,_,_,_⟩) fun K hK=>?_;go_simp;refine hK.out _ _ (trivial) (fun aj=>?_)
          try simp only [Act.put,pa,pb,pc]
          refine bR [(23,139),(24,140)] ?_
          iterate 2 (refine zt ?_; try simp only [Act.put,pa,pb,pc])
          refine bS ?_;refine cA (i:=25) (o:=⟨none,_,_,_,_,_⟩) fun K hK=>?_;go_simp;refine hK.out _ _ (trivial) (fun aj=>?_)
          try simp only [Act.put,pa,pb,pc]
          refine bR [(26,141),(27,142)] ?_
          iterate 2 (refine zt ?_; try simp only [Act.put,pa,pb,pc])
          refine bS ?_;refine cA (i:=28) (o:=⟨none,_,_,_,_,_⟩) fun K hK=>?_;go_simp;refine hK.out _ _ (trivial) (fun aj=>?_)
          try simp only [Act.put,pa,pb,pc]
          refine bR [(29,143),(30,144)] ?_
          iterate 2 (refine zt ?_; try simp only [Act.put,pa,pb,pc])
          refine bS ?_;refine cA (i:=31) (o:=⟨none,_,_,_,_,_⟩) fun K hK=>?_;go_simp;refine hK.out _ _ (trivial) (fun aj=>?_)
          try simp only [Act.put,pa,pb,pc]
          refine wpAnyH_done (by kernel_rfl) ?_ _;go_wp2_with fail;go_ret
          first
           | exact ⟨by first | rfl | simp,PX.out⟩
           | exact ⟨by first | rfl | simp,by have q:=PX.out; rw [gw] at q; exact q⟩
        ·skip
         go_simp;have gd:=d6;go_simp;clear gd;refine hK.out _ _ (trivial) (fun aj=>?_)
         try simp only [Act.put,pa,pb,pc]
         refine bR [(19,136)] ?_
         iterate 1 (refine zt ?_; try simp only [Act.put,pa,pb,pc])
         refine bS ?_;refine wpAnyH_ready (rs:=[8,13]) (by kernel_rfl) (by simp) ?_;refine AllReadyH.cons (o:=⟨some 125,_,_,_,_,_⟩) rfl (fun K hK=>?_) (AllReadyH.cons (o:=⟨some 130,_,_,_,_,_⟩) rfl (fun K hK=>?_) AllReadyH.nil)
         ·skip
          go_simp
          go_at_call 85
          refine (KC.out _ C6.out.a.drew).mono ?_;rintro e v7 ⟨vo,rfl,S7,fY,lI⟩;have A7:=xh (C6.out.a.drew.below fY);have PX:=xh (Kd.out v7 vo S7 fY lI);obtain ⟨V7,c7,rfl,_⟩:=S7.val;have h5:v7.cell? ⟨x.b,5,none⟩=some (.int .i64 c.ep):=A7.out.f5;have h6:v7.cell? ⟨x.b,6,none⟩=some (.int .i64 c.slot):=A7.out.f6;have h3:=A7.out.hb.ab (i:=3) rfl;have h4:=A7.out.hb.ab (i:=4) rfl;have z3:v7.frozen? ⟨x.b,3,none⟩=false:=A7.out.fz 3 (by omega)
          have z4:v7.frozen? ⟨x.b,4,none⟩=false:=A7.out.fz 4 (by omega);have z5:v7.frozen? ⟨x.b,5,none⟩=false:=A7.out.fz 5 (by omega);have z6:v7.frozen? ⟨x.b,6,none⟩=false:=A7.out.fz 6 (by omega);have h3:v7.cell? ⟨x.b,3,none⟩=some x.ov:=h3;have h4:v7.cell? ⟨x.b,4,none⟩=some x.pv:=h4;clear S7 fY lI;go_simp;refine hK.out _ _ (trivial) (fun aj=>?_)
          try simp only [Act.put,pa,pb,pc]
          refine cA (i:=13) (o:=⟨some 130,_,_,_,_,_⟩) fun K hK=>?_;go_simp;have gd:=h5;go_simp;clear gd;refine hK.out _ _ (trivial) (fun aj=>?_)
          try simp only [Act.put,pa,pb,pc]
          refine bR [(14,131),(20,137),(21,138)] ?_
          iterate 3 (refine zt ?_; try simp only [Act.put,pa,pb,pc])
          refine bS ?_;refine cA (i:=22) (o:=⟨none,_,_,_,_,_⟩) fun K hK=>?_;go_simp;refine hK.out _ _ (trivial) (fun aj=>?_)
          try simp only [Act.put,pa,pb,pc]
          refine bR [(23,139),(24,140)] ?_
          iterate 2 (refine zt ?_; try simp only [Act.put,pa,pb,pc])
          refine bS ?_;refine cA (i:=25) (o:=⟨none,_,_,_,_,_⟩) fun K hK=>?_;go_simp;refine hK.out _ _ (trivial) (fun aj=>?_)
          try simp only [Act.put,pa,pb,pc]
          refine bR [(26,141),(27,142)] ?_
          iterate 2 (refine zt ?_; try simp only [Act.put,pa,pb,pc])
          refine bS ?_;refine cA (i:=28) (o:=⟨none,_,_,_,_,_⟩) fun K hK=>?_;go_simp;refine hK.out _ _ (trivial) (fun aj=>?_)
          try simp only [Act.put,pa,pb,pc]
          refine bR [(29,143),(30,144)] ?_
          iterate 2 (refine zt ?_; try simp only [Act.put,pa,pb,pc])
          refine bS ?_;refine cA (i:=31) (o:=⟨none,_,_,_,_,_⟩) fun K hK=>?_;go_simp;refine hK.out _ _ (trivial) (fun aj=>?_)
          try simp only [Act.put,pa,pb,pc]
          refine wpAnyH_done (by kernel_rfl) ?_ _;go_wp2_with fail;go_ret
          first
           | exact ⟨by first | rfl | simp,PX.out⟩
           | exact ⟨by first | rfl | simp,by have q:=PX.out; rw [gw] at q; exact q⟩
         ·skip
          go_simp;have gd:=d5;go_simp;clear gd;refine hK.out _ _ (trivial) (fun aj=>?_)
          try simp only [Act.put,pa,pb,pc]
          refine bR [(14,131)] ?_
          iterate 1 (refine zt ?_; try simp only [Act.put,pa,pb,pc])
          refine bS ?_;refine cA (i:=8) (o:=⟨some 125,_,_,_,_,_⟩) fun K hK=>?_;go_simp
          go_at_call 85
          refine (KC.out _ C6.out.a.drew).mono ?_;rintro e v7 ⟨vo,rfl,S7,fY,lI⟩;have A7:=xh (C6.out.a.drew.below fY);have PX:=xh (Kd.out v7 vo S7 fY lI);obtain ⟨V7,c7,rfl,_⟩:=S7.val;have h5:v7.cell? ⟨x.b,5,none⟩=some (.int .i64 c.ep):=A7.out.f5;have h6:v7.cell? ⟨x.b,6,none⟩=some (.int .i64 c.slot):=A7.out.f6;have h3:=A7.out.hb.ab (i:=3) rfl;have h4:=A7.out.hb.ab (i:=4) rfl;have z3:v7.frozen? ⟨x.b,3,none⟩=false:=A7.out.fz 3 (by omega)
          have z4:v7.frozen? ⟨x.b,4,none⟩=false:=A7.out.fz 4 (by omega);have z5:v7.frozen? ⟨x.b,5,none⟩=false:=A7.out.fz 5 (by omega);have z6:v7.frozen? ⟨x.b,6,none⟩=false:=A7.out.fz 6 (by omega);have h3:v7.cell? ⟨x.b,3,none⟩=some x.ov:=h3;have h4:v7.cell? ⟨x.b,4,none⟩=some x.pv:=h4;clear S7 fY lI;go_simp;refine hK.out _ _ (trivial) (fun aj=>?_)
          try simp only [Act.put,pa,pb,pc]
          refine bR [(20,137),(21,138)] ?_
          iterate 2 (refine zt ?_; try simp only [Act.put,pa,pb,pc])
          refine bS ?_;refine cA (i:=22) (o:=⟨none,_,_,_,_,_⟩) fun K hK=>?_;go_simp;refine hK.out _ _ (trivial) (fun aj=>?_)
          try simp only [Act.put,pa,pb,pc]
          refine bR [(23,139),(24,140)] ?_
          iterate 2 (refine zt ?_; try simp only [Act.put,pa,pb,pc])
          refine bS ?_;refine cA (i:=25) (o:=⟨none,_,_,_,_,_⟩) fun K hK=>?_;go_simp;refine hK.out _ _ (trivial) (fun aj=>?_)
          try simp only [Act.put,pa,pb,pc]
          refine bR [(26,141),(27,142)] ?_
          iterate 2 (refine zt ?_; try simp only [Act.put,pa,pb,pc])
          refine bS ?_;refine cA (i:=28) (o:=⟨none,_,_,_,_,_⟩) fun K hK=>?_;go_simp;refine hK.out _ _ (trivial) (fun aj=>?_)
          try simp only [Act.put,pa,pb,pc]
          refine bR [(29,143),(30,144)] ?_
          iterate 2 (refine zt ?_; try simp only [Act.put,pa,pb,pc])
          refine bS ?_;refine cA (i:=31) (o:=⟨none,_,_,_,_,_⟩) fun K hK=>?_;go_simp;refine hK.out _ _ (trivial) (fun aj=>?_)
          try simp only [Act.put,pa,pb,pc]
          refine wpAnyH_done (by kernel_rfl) ?_ _;go_wp2_with fail;go_ret
          first
           | exact ⟨by first | rfl | simp,PX.out⟩
           | exact ⟨by first | rfl | simp,by have q:=PX.out; rw [gw] at q; exact q⟩
       ·skip
        go_simp;have gd:=d5;go_simp;clear gd;refine hK.out _ _ (trivial) (fun aj=>?_)
        try simp only [Act.put,pa,pb,pc]
        refine bR [(14,131)] ?_
        iterate 1 (refine zt ?_; try simp only [Act.put,pa,pb,pc])
        refine bS ?_;refine wpAnyH_ready (rs:=[7,18]) (by kernel_rfl) (by simp) ?_;refine AllReadyH.cons (o:=⟨some 124,_,_,_,_,_⟩) rfl (fun K hK=>?_) (AllReadyH.cons (o:=⟨some 135,_,_,_,_,_⟩) rfl (fun K hK=>?_) AllReadyH.nil)
        ·skip
         go_simp;have gd:=d2;go_simp;clear gd;refine hK.out _ _ (trivial) (fun aj=>?_)
         try simp only [Act.put,pa,pb,pc]
         refine wpAnyH_ready (rs:=[8,18]) (by kernel_rfl) (by simp) ?_;refine AllReadyH.cons (o:=⟨some 125,_,_,_,_,_⟩) rfl (fun K hK=>?_) (AllReadyH.cons (o:=⟨some 135,_,_,_,_,_⟩) rfl (fun K hK=>?_) AllReadyH.nil)
         ·skip
          go_simp
          go_at_call 85
          refine (KC.out _ C6.out.a.drew).mono ?_;rintro e v7 ⟨vo,rfl,S7,fY,lI⟩;have A7:=xh (C6.out.a.drew.below fY);have PX:=xh (Kd.out v7 vo S7 fY lI);obtain ⟨V7,c7,rfl,_⟩:=S7.val;have h5:v7.cell? ⟨x.b,5,none⟩=some (.int .i64 c.ep):=A7.out.f5;have h6:v7.cell? ⟨x.b,6,none⟩=some (.int .i64 c.slot):=A7.out.f6;have h3:=A7.out.hb.ab (i:=3) rfl;have h4:=A7.out.hb.ab (i:=4) rfl;have z3:v7.frozen? ⟨x.b,3,none⟩=false:=A7.out.fz 3 (by omega)
          have z4:v7.frozen? ⟨x.b,4,none⟩=false:=A7.out.fz 4 (by omega);have z5:v7.frozen? ⟨x.b,5,none⟩=false:=A7.out.fz 5 (by omega);have z6:v7.frozen? ⟨x.b,6,none⟩=false:=A7.out.fz 6 (by omega);have h3:v7.cell? ⟨x.b,3,none⟩=some x.ov:=h3;have h4:v7.cell? ⟨x.b,4,none⟩=some x.pv:=h4;clear S7 fY lI;go_simp;refine hK.out _ _ (trivial) (fun aj=>?_)
          try simp only [Act.put,pa,pb,pc]
          refine cA (i:=18) (o:=⟨some 135,_,_,_,_,_⟩) fun K hK=>?_;go_simp;have gd:=h6;go_simp;clear gd;refine hK.out _ _ (trivial) (fun aj=>?_)
          try simp only [Act.put,pa,pb,pc]
          refine bR [(19,136),(20,137),(21,138)] ?_
          iterate 3 (refine zt ?_; try simp only [Act.put,pa,pb,pc])
          refine bS ?_;refine cA (i:=22) (o:=⟨none,_,_,_,_,_⟩) fun K hK=>?_;go_simp;refine hK.out _ _ (trivial) (fun aj=>?_)
          try simp only [Act.put,pa,pb,pc]
          refine bR [(23,139),(24,140)] ?_
          iterate 2 (refine zt ?_; try simp only [Act.put,pa,pb,pc])
          refine bS ?_;refine cA (i:=25) (o:=⟨none,_,_,_,_,_⟩) fun K hK=>?_;go_simp;refine hK.out _ _ (trivial) (fun aj=>?_)
          try simp only [Act.put,pa,pb,pc]
          refine bR [(26,141),(27,142)] ?_
          iterate 2 (refine zt ?_; try simp only [Act.put,pa,pb,pc])
          refine bS ?_;refine cA (i:=28) (o:=⟨none,_,_,_,_,_⟩) fun K hK=>?_;go_simp;refine hK.out _ _ (trivial) (fun aj=>?_)
          try simp only [Act.put,pa,pb,pc]
          refine bR [(29,143),(30,144)] ?_
          iterate 2 (refine zt ?_; try simp only [Act.put,pa,pb,pc])
          refine bS ?_;refine cA (i:=31) (o:=⟨none,_,_,_,_,_⟩) fun K hK=>?_;go_simp;refine hK.out _ _ (trivial) (fun aj=>?_)
          try simp only [Act.put,pa,pb,pc]
          refine wpAnyH_done (by kernel_rfl) ?_ _;go_wp2_with fail;go_ret
          first
           | exact ⟨by first | rfl | simp,PX.out⟩
           | exact ⟨by first | rfl | simp,by have q:=PX.out; rw [gw] at q; exact q⟩
         ·skip
          go_simp;have gd:=d6;go_simp;clear gd;refine hK.out _ _ (trivial) (fun aj=>?_)
          try simp only [Act.put,pa,pb,pc]
          refine bR [(19,136)] ?_
          iterate 1 (refine zt ?_; try simp only [Act.put,pa,pb,pc])
          refine bS ?_;refine cA (i:=8) (o:=⟨some 125,_,_,_,_,_⟩) fun K hK=>?_;go_simp
          go_at_call 85
          refine (KC.out _ C6.out.a.drew).mono ?_;rintro e v7 ⟨vo,rfl,S7,fY,lI⟩;have A7:=xh (C6.out.a.drew.below fY);have PX:=xh (Kd.out v7 vo S7 fY lI);obtain ⟨V7,c7,rfl,_⟩:=S7.val;have h5:v7.cell? ⟨x.b,5,none⟩=some (.int .i64 c.ep):=A7.out.f5;have h6:v7.cell? ⟨x.b,6,none⟩=some (.int .i64 c.slot):=A7.out.f6;have h3:=A7.out.hb.ab (i:=3) rfl;have h4:=A7.out.hb.ab (i:=4) rfl;have z3:v7.frozen? ⟨x.b,3,none⟩=false:=A7.out.fz 3 (by omega)
          have z4:v7.frozen? ⟨x.b,4,none⟩=false:=A7.out.fz 4 (by omega);have z5:v7.frozen? ⟨x.b,5,none⟩=false:=A7.out.fz 5 (by omega);have z6:v7.frozen? ⟨x.b,6,none⟩=false:=A7.out.fz 6 (by omega);have h3:v7.cell? ⟨x.b,3,none⟩=some x.ov:=h3;have h4:v7.cell? ⟨x.b,4,none⟩=some x.pv:=h4;clear S7 fY lI;go_simp;refine hK.out _ _ (trivial) (fun aj=>?_)
          try simp only [Act.put,pa,pb,pc]
          refine bR [(20,137),(21,138)] ?_
          iterate 2 (refine zt ?_; try simp only [Act.put,pa,pb,pc])
          refine bS ?_;refine cA (i:=22) (o:=⟨none,_,_,_,_,_⟩) fun K hK=>?_;go_simp;refine hK.out _ _ (trivial) (fun aj=>?_)
          try simp only [Act.put,pa,pb,pc]
          refine bR [(23,139),(24,140)] ?_
          iterate 2 (refine zt ?_; try simp only [Act.put,pa,pb,pc])
          refine bS ?_;refine cA (i:=25) (o:=⟨none,_,_,_,_,_⟩) fun K hK=>?_;go_simp;refine hK.out _ _ (trivial) (fun aj=>?_)
          try simp only [Act.put,pa,pb,pc]
          refine bR [(26,141),(27,142)] ?_
          iterate 2 (refine zt ?_; try simp only [Act.put,pa,pb,pc])
          refine bS ?_;refine cA (i:=28) (o:=⟨none,_,_,_,_,_⟩) fun K hK=>?_;go_simp;refine hK.out _ _ (trivial) (fun aj=>?_)
          try simp only [Act.put,pa,pb,pc]
          refine bR [(29,143),(30,144)] ?_
          iterate 2 (refine zt ?_; try simp only [Act.put,pa,pb,pc])
          refine bS ?_;refine cA (i:=31) (o:=⟨none,_,_,_,_,_⟩) fun K hK=>?_;go_simp;refine hK.out _ _ (trivial) (fun aj=>?_)
          try simp only [Act.put,pa,pb,pc]
          refine wpAnyH_done (by kernel_rfl) ?_ _;go_wp2_with fail;go_ret
          first
           | exact ⟨by first | rfl | simp,PX.out⟩
           | exact ⟨by first | rfl | simp,by have q:=PX.out; rw [gw] at q; exact q⟩
        ·skip
         go_simp;have gd:=d6;go_simp;clear gd;refine hK.out _ _ (trivial) (fun aj=>?_)
         try simp only [Act.put,pa,pb,pc]
         refine bR [(19,136)] ?_
         iterate 1 (refine zt ?_; try simp only [Act.put,pa,pb,pc])
         refine bS ?_;refine cA (i:=7) (o:=⟨some 124,_,_,_,_,_⟩) fun K hK=>?_;go_simp;have gd:=d2;go_simp;clear gd;refine hK.out _ _ (trivial) (fun aj=>?_)
         try simp only [Act.put,pa,pb,pc]
         refine cA (i:=8) (o:=⟨some 125,_,_,_,_,_⟩) fun K hK=>?_;go_simp
         go_at_call 85
         refine (KC.out _ C6.out.a.drew).mono ?_;rintro e v7 ⟨vo,rfl,S7,fY,lI⟩;have A7:=xh (C6.out.a.drew.below fY);have PX:=xh (Kd.out v7 vo S7 fY lI);obtain ⟨V7,c7,rfl,_⟩:=S7.val;have h5:v7.cell? ⟨x.b,5,none⟩=some (.int .i64 c.ep):=A7.out.f5;have h6:v7.cell? ⟨x.b,6,none⟩=some (.int .i64 c.slot):=A7.out.f6;have h3:=A7.out.hb.ab (i:=3) rfl;have h4:=A7.out.hb.ab (i:=4) rfl;have z3:v7.frozen? ⟨x.b,3,none⟩=false:=A7.out.fz 3 (by omega)
         have z4:v7.frozen? ⟨x.b,4,none⟩=false:=A7.out.fz 4 (by omega);have z5:v7.frozen? ⟨x.b,5,none⟩=false:=A7.out.fz 5 (by omega);have z6:v7.frozen? ⟨x.b,6,none⟩=false:=A7.out.fz 6 (by omega);have h3:v7.cell? ⟨x.b,3,none⟩=some x.ov:=h3;have h4:v7.cell? ⟨x.b,4,none⟩=some x.pv:=h4;clear S7 fY lI;go_simp;refine hK.out _ _ (trivial) (fun aj=>?_)
         try simp only [Act.put,pa,pb,pc]
         refine bR [(20,137),(21,138)] ?_
         iterate 2 (refine zt ?_; try simp only [Act.put,pa,pb,pc])
         refine bS ?_;refine cA (i:=22) (o:=⟨none,_,_,_,_,_⟩) fun K hK=>?_;go_simp;refine hK.out _ _ (trivial) (fun aj=>?_)
         try simp only [Act.put,pa,pb,pc]
         refine bR [(23,139),(24,140)] ?_
         iterate 2 (refine zt ?_; try simp only [Act.put,pa,pb,pc])
         refine bS ?_;refine cA (i:=25) (o:=⟨none,_,_,_,_,_⟩) fun K hK=>?_;go_simp;refine hK.out _ _ (trivial) (fun aj=>?_)
         try simp only [Act.put,pa,pb,pc]
         refine bR [(26,141),(27,142)] ?_
         iterate 2 (refine zt ?_; try simp only [Act.put,pa,pb,pc])
         refine bS ?_;refine cA (i:=28) (o:=⟨none,_,_,_,_,_⟩) fun K hK=>?_;go_simp;refine hK.out _ _ (trivial) (fun aj=>?_)
         try simp only [Act.put,pa,pb,pc]
         refine bR [(29,143),(30,144)] ?_
         iterate 2 (refine zt ?_; try simp only [Act.put,pa,pb,pc])
         refine bS ?_;refine cA (i:=31) (o:=⟨none,_,_,_,_,_⟩) fun K hK=>?_;go_simp;refine hK.out _ _ (trivial) (fun aj=>?_)
         try simp only [Act.put,pa,pb,pc]
         refine wpAnyH_done (by kernel_rfl) ?_ _;go_wp2_with fail;go_ret
         first
          | exact ⟨by first | rfl | simp,PX.out⟩
          | exact ⟨by first | rfl | simp,by have q:=PX.out; rw [gw] at q; exact q⟩
       ·skip
        go_simp;have gd:=d6;go_simp;clear gd;refine hK.out _ _ (trivial) (fun aj=>?_)
        try simp only [Act.put,pa,pb,pc]
        refine bR [(19,136)] ?_
        iterate 1 (refine zt ?_; try simp only [Act.put,pa,pb,pc])
        refine bS ?_;refine wpAnyH_ready (rs:=[7,13]) (by kernel_rfl) (by simp) ?_;refine AllReadyH.cons (o:=⟨some 124,_,_,_,_,_⟩) rfl (fun K hK=>?_) (AllReadyH.cons (o:=⟨some 130,_,_,_,_,_⟩) rfl (fun K hK=>?_) AllReadyH.nil)
        ·skip
         go_simp;have gd:=d2;go_simp;clear gd;refine hK.out _ _ (trivial) (fun aj=>?_)
         try simp only [Act.put,pa,pb,pc]
         refine wpAnyH_ready (rs:=[8,13]) (by kernel_rfl) (by simp) ?_;refine AllReadyH.cons (o:=⟨some 125,_,_,_,_,_⟩) rfl (fun K hK=>?_) (AllReadyH.cons (o:=⟨some 130,_,_,_,_,_⟩) rfl (fun K hK=>?_) AllReadyH.nil)
         ·skip
          go_simp
          go_at_call 85
          refine (KC.out _ C6.out.a.drew).mono ?_;rintro e v7 ⟨vo,rfl,S7,fY,lI⟩;have A7:=xh (C6.out.a.drew.below fY);have PX:=xh (Kd.out v7 vo S7 fY lI);obtain ⟨V7,c7,rfl,_⟩:=S7.val;have h5:v7.cell? ⟨x.b,5,none⟩=some (.int .i64 c.ep):=A7.out.f5;have h6:v7.cell? ⟨x.b,6,none⟩=some (.int .i64 c.slot):=A7.out.f6;have h3:=A7.out.hb.ab (i:=3) rfl;have h4:=A7.out.hb.ab (i:=4) rfl;have z3:v7.frozen? ⟨x.b,3,none⟩=false:=A7.out.fz 3 (by omega)
          have z4:v7.frozen? ⟨x.b,4,none⟩=false:=A7.out.fz 4 (by omega);have z5:v7.frozen? ⟨x.b,5,none⟩=false:=A7.out.fz 5 (by omega);have z6:v7.frozen? ⟨x.b,6,none⟩=false:=A7.out.fz 6 (by omega);have h3:v7.cell? ⟨x.b,3,none⟩=some x.ov:=h3;have h4:v7.cell? ⟨x.b,4,none⟩=some x.pv:=h4;clear S7 fY lI;go_simp;refine hK.out _ _ (trivial) (fun aj=>?_)
          try simp only [Act.put,pa,pb,pc]
          refine cA (i:=13) (o:=⟨some 130,_,_,_,_,_⟩) fun K hK=>?_;go_simp;have gd:=h5;go_simp;clear gd;refine hK.out _ _ (trivial) (fun aj=>?_)
          try simp only [Act.put,pa,pb,pc]
          refine bR [(14,131),(20,137),(21,138)] ?_
          iterate 3 (refine zt ?_; try simp only [Act.put,pa,pb,pc])
          refine bS ?_;refine cA (i:=22) (o:=⟨none,_,_,_,_,_⟩) fun K hK=>?_;go_simp;refine hK.out _ _ (trivial) (fun aj=>?_)
          try simp only [Act.put,pa,pb,pc]
          refine bR [(23,139),(24,140)] ?_
          iterate 2 (refine zt ?_; try simp only [Act.put,pa,pb,pc])
          refine bS ?_;refine cA (i:=25) (o:=⟨none,_,_,_,_,_⟩) fun K hK=>?_;go_simp;refine hK.out _ _ (trivial) (fun aj=>?_)
          try simp only [Act.put,pa,pb,pc]
          refine bR [(26,141),(27,142)] ?_
          iterate 2 (refine zt ?_; try simp only [Act.put,pa,pb,pc])
          refine bS ?_;refine cA (i:=28) (o:=⟨none,_,_,_,_,_⟩) fun K hK=>?_;go_simp;refine hK.out _ _ (trivial) (fun aj=>?_)
          try simp only [Act.put,pa,pb,pc]
          refine bR [(29,143),(30,144)] ?_
          iterate 2 (refine zt ?_; try simp only [Act.put,pa,pb,pc])
          refine bS ?_;refine cA (i:=31) (o:=⟨none,_,_,_,_,_⟩) fun K hK=>?_;go_simp;refine hK.out _ _ (trivial) (fun aj=>?_)
          try simp only [Act.put,pa,pb,pc]
          refine wpAnyH_done (by kernel_rfl) ?_ _;go_wp2_with fail;go_ret
          first
           | exact ⟨by first | rfl | simp,PX.out⟩
           | exact ⟨by first | rfl | simp,by have q:=PX.out; rw [gw] at q; exact q⟩
         ·skip
          go_simp;have gd:=d5;go_simp;clear gd;refine hK.out _ _ (trivial) (fun aj=>?_)
          try simp only [Act.put,pa,pb,pc]
          refine bR [(14,131)] ?_
          iterate 1 (refine zt ?_; try simp only [Act.put,pa,pb,pc])
          refine bS ?_;refine cA (i:=8) (o:=⟨some 125,_,_,_,_,_⟩) fun K hK=>?_;go_simp
          go_at_call 85
          refine (KC.out _ C6.out.a.drew).mono ?_;rintro e v7 ⟨vo,rfl,S7,fY,lI⟩;have A7:=xh (C6.out.a.drew.below fY);have PX:=xh (Kd.out v7 vo S7 fY lI);obtain ⟨V7,c7,rfl,_⟩:=S7.val;have h5:v7.cell? ⟨x.b,5,none⟩=some (.int .i64 c.ep):=A7.out.f5;have h6:v7.cell? ⟨x.b,6,none⟩=some (.int .i64 c.slot):=A7.out.f6;have h3:=A7.out.hb.ab (i:=3) rfl;have h4:=A7.out.hb.ab (i:=4) rfl;have z3:v7.frozen? ⟨x.b,3,none⟩=false:=A7.out.fz 3 (by omega)
          have z4:v7.frozen? ⟨x.b,4,none⟩=false:=A7.out.fz 4 (by omega);have z5:v7.frozen? ⟨x.b,5,none⟩=false:=A7.out.fz 5 (by omega);have z6:v7.frozen? ⟨x.b,6,none⟩=false:=A7.out.fz 6 (by omega);have h3:v7.cell? ⟨x.b,3,none⟩=some x.ov:=h3;have h4:v7.cell? ⟨x.b,4,none⟩=some x.pv:=h4;clear S7 fY lI;go_simp;refine hK.out _ _ (trivial) (fun aj=>?_)
          try simp only [Act.put,pa,pb,pc]
          refine bR [(20,137),(21,138)] ?_
          iterate 2 (refine zt ?_; try simp only [Act.put,pa,pb,pc])
          refine bS ?_;refine cA (i:=22) (o:=⟨none,_,_,_,_,_⟩) fun K hK=>?_;go_simp;refine hK.out _ _ (trivial) (fun aj=>?_)
          try simp only [Act.put,pa,pb,pc]
          refine bR [(23,139),(24,140)] ?_
          iterate 2 (refine zt ?_; try simp only [Act.put,pa,pb,pc])
          refine bS ?_;refine cA (i:=25) (o:=⟨none,_,_,_,_,_⟩) fun K hK=>?_;go_simp;refine hK.out _ _ (trivial) (fun aj=>?_)
          try simp only [Act.put,pa,pb,pc]
          refine bR [(26,141),(27,142)] ?_
          iterate 2 (refine zt ?_; try simp only [Act.put,pa,pb,pc])
          refine bS ?_;refine cA (i:=28) (o:=⟨none,_,_,_,_,_⟩) fun K hK=>?_;go_simp;refine hK.out _ _ (trivial) (fun aj=>?_)
          try simp only [Act.put,pa,pb,pc]
          refine bR [(29,143),(30,144)] ?_
          iterate 2 (refine zt ?_; try simp only [Act.put,pa,pb,pc])
          refine bS ?_;refine cA (i:=31) (o:=⟨none,_,_,_,_,_⟩) fun K hK=>?_;go_simp;refine hK.out _ _ (trivial) (fun aj=>?_)
          try simp only [Act.put,pa,pb,pc]
          refine wpAnyH_done (by kernel_rfl) ?_ _;go_wp2_with fail;go_ret
          first
           | exact ⟨by first | rfl | simp,PX.out⟩
           | exact ⟨by first | rfl | simp,by have q:=PX.out; rw [gw] at q; exact q⟩
        ·skip
         go_simp;have gd:=d5;go_simp;clear gd;refine hK.out _ _ (trivial) (fun aj=>?_)
         try simp only [Act.put,pa,pb,pc]
         refine bR [(14,131)] ?_
         iterate 1 (refine zt ?_; try simp only [Act.put,pa,pb,pc])
         refine bS ?_;refine cA (i:=7) (o:=⟨some 124,_,_,_,_,_⟩) fun K hK=>?_;go_simp;have gd:=d2;go_simp;clear gd;refine hK.out _ _ (trivial) (fun aj=>?_)
         try simp only [Act.put,pa,pb,pc]
         refine cA (i:=8) (o:=⟨some 125,_,_,_,_,_⟩) fun K hK=>?_;go_simp
         go_at_call 85
         refine (KC.out _ C6.out.a.drew).mono ?_;rintro e v7 ⟨vo,rfl,S7,fY,lI⟩;have A7:=xh (C6.out.a.drew.below fY);have PX:=xh (Kd.out v7 vo S7 fY lI);obtain ⟨V7,c7,rfl,_⟩:=S7.val;have h5:v7.cell? ⟨x.b,5,none⟩=some (.int .i64 c.ep):=A7.out.f5;have h6:v7.cell? ⟨x.b,6,none⟩=some (.int .i64 c.slot):=A7.out.f6;have h3:=A7.out.hb.ab (i:=3) rfl;have h4:=A7.out.hb.ab (i:=4) rfl;have z3:v7.frozen? ⟨x.b,3,none⟩=false:=A7.out.fz 3 (by omega)
         have z4:v7.frozen? ⟨x.b,4,none⟩=false:=A7.out.fz 4 (by omega);have z5:v7.frozen? ⟨x.b,5,none⟩=false:=A7.out.fz 5 (by omega);have z6:v7.frozen? ⟨x.b,6,none⟩=false:=A7.out.fz 6 (by omega);have h3:v7.cell? ⟨x.b,3,none⟩=some x.ov:=h3;have h4:v7.cell? ⟨x.b,4,none⟩=some x.pv:=h4;clear S7 fY lI;go_simp;refine hK.out _ _ (trivial) (fun aj=>?_)
         try simp only [Act.put,pa,pb,pc]
         refine bR [(20,137),(21,138)] ?_
         iterate 2 (refine zt ?_; try simp only [Act.put,pa,pb,pc])
         refine bS ?_;refine cA (i:=22) (o:=⟨none,_,_,_,_,_⟩) fun K hK=>?_;go_simp;refine hK.out _ _ (trivial) (fun aj=>?_)
         try simp only [Act.put,pa,pb,pc]
         refine bR [(23,139),(24,140)] ?_
         iterate 2 (refine zt ?_; try simp only [Act.put,pa,pb,pc])
         refine bS ?_;refine cA (i:=25) (o:=⟨none,_,_,_,_,_⟩) fun K hK=>?_;go_simp;refine hK.out _ _ (trivial) (fun aj=>?_)
         try simp only [Act.put,pa,pb,pc]
         refine bR [(26,141),(27,142)] ?_
         iterate 2 (refine zt ?_; try simp only [Act.put,pa,pb,pc])
         refine bS ?_;refine cA (i:=28) (o:=⟨none,_,_,_,_,_⟩) fun K hK=>?_;go_simp;refine hK.out _ _ (trivial) (fun aj=>?_)
         try simp only [Act.put,pa,pb,pc]
         refine bR [(29,143),(30,144)] ?_
         iterate 2 (refine zt ?_; try simp only [Act.put,pa,pb,pc])
         refine bS ?_;refine cA (i:=31) (o:=⟨none,_,_,_,_,_⟩) fun K hK=>?_;go_simp;refine hK.out _ _ (trivial) (fun aj=>?_)
         try simp only [Act.put,pa,pb,pc]
         refine wpAnyH_done (by kernel_rfl) ?_ _;go_wp2_with fail;go_ret
         first
          | exact ⟨by first | rfl | simp,PX.out⟩
          | exact ⟨by first | rfl | simp,by have q:=PX.out; rw [gw] at q; exact q⟩
    ·rw [if_pos hle] at HR4;subst HR4;have hq:(le != 0)=true:=by rw [bne_iff_ne]; exact hle
     have jm:(le==0)=false:=by rw [beq_eq_false_iff_ne]; exact hle
     clear nS;unfold sp at KL;go_wp2_with fail;refine KL.out.mono ?_;rintro e v3 ⟨rfl,A3,o3⟩;have C3:=xh (show CW x n w v3 {x with tv:= .slice TA T tc} {c with table:=c.table.take T,m:=(takeN c.m i).1,d:=ld} from ⟨A3,HC.out.1.o.trans (o3.mono (fun g hg _=>zE x g hg)),hfp⟩);have q7:=C3.out.a.hb.ab (i:=7) rfl;have z7:=C3.out.a.fz 7 (by omega);have q7:v3.cell? ⟨x.b,7,none⟩=some (.bool c.broken):=q7;have z7:v3.frozen? ⟨x.b,7,none⟩=false:=z7;have R7:=xh (C3.out.brk);clear A3 o3
     go_wp2_with fail;go_ret;exact ⟨by first | rfl | simp,R7.out.post⟩
end Go.Proofs.YtmonobkginiajaaGreat.Sh
