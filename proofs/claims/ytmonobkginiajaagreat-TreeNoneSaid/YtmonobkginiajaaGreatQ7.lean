/- packed. -/
import Derived.Test.YtmonobkginiajaaGreatQ4
import Derived.Test.YtmonobkginiajaaGreatQ5
import Derived.Test.YtmonobkginiajaaGreatQ6
import Derived.Test.YtmonobkginiajaaGreatQ1
import Derived.Deep.RegionHeld3
set_option linter.all false
set_option maxRecDepth 100000
set_option maxHeartbeats 8000000
namespace Go.Proofs.YtmonobkginiajaaGreat.Sh
open Go.RowKit Pk Dk Pg
attribute [local go_sem ↓] Go.wp_at_zero Go.wp_at_succ
structure C where
 d:D
 m:List Int
 table:List Int
 bE:List Int
 parts:List Int
 ep:Int
 slot:Int
 broken:Bool
structure X where
 b:Nat
 L:Dk.Loc
 mb:Nat
 mg:Nat
 tv:Value
 ov:Value
 pv:Value
def X.fp (x:X):List Nat:=x.b::x.mb::x.mg::(x.L.fp++bA x.tv++bA x.ov++bA x.pv)
def cw (l:List Int):List Value:=l.map (Value.int .i64)
@[simp] theorem nvs'_length (l:List Int):(cw l).length=l.length:=by simp [cw]
theorem lR (l:List Int) (k:Nat) (h:k<l.length):(cw l)[k]?=some (.int .i64 (l.getD k 0)):=by simp [cw,List.getElem?_eq_getElem h]
theorem JB (l:List Int): ∀u∈cw l,u.oneCell'=true:=by
 intro u hu;obtain ⟨x,_,rfl⟩:=List.mem_map.1 hu;rfl
theorem JC (l:List Int) (k:Nat) (x:Int):(cw l).set k (.int .i64 x)=cw (l.set k x):=by simp [cw,List.map_set]
theorem eB (l m:List Int):cw (l++m)=cw l++cw m:=by simp [cw]
def yg (x:X) (c:C):Array Value:= #[dp x.L.b,Fm.mp x.mb,x.tv,x.ov,x.pv,.int .i64 c.ep,.int .i64 c.slot,.bool c.broken]
def Pl (w:World) (v:Value) (n:Nat) (l:List Value):Prop:=Sl w 3 v n l∨(l.length=n∧ ∃g cap rest,v= .slice (some ⟨g,0,none⟩) n cap∧n≤cap∧0<cap∧ax w g 231 (l++rest).toArray)
section
variable {w w':World} {v:Value} {n:Nat} {l:List Value} {S:List Nat}
theorem Pl.only (h:Pl w v n l) (ho:ag S w w') (hd: ∀g∈bA v,g∉S):Pl w' v n l:=by
 rcases h with h | ⟨hl,g,cap,rest,rfl,h1,h2,B⟩
 ·exact .inl (h.only ho hd)
 ·exact .inr ⟨hl,g,cap,rest,rfl,h1,h2,B.only ho (hd g (by simp [bA]; omega))⟩
theorem Pl.own (h:Pl w v n l): ∀g∈bA v,∃t cs,(t=3∨t=231)∧ax w g t cs:=by
 intro g hg
 rcases h with S | ⟨hl,g',cap,rest,rfl,h1,h2,B⟩
 ·rcases S.2 with ⟨A,rfl,_⟩ | ⟨g',cap,rest,rfl,h0,B,_⟩
  ·cases A<;>simp [bA] at hg
  ·simp [bA] at hg;rw [hg.2];exact ⟨_,_,.inl rfl,B⟩
 ·simp [bA] at hg;rw [hg.2];exact ⟨_,_,.inr rfl,B⟩
theorem Pl.lt (h:Pl w v n l): ∀g∈bA v,g<w.heap.size:=fun g hg=>by
 obtain ⟨t,cs,_,B⟩:=h.own g hg;exact B.lt
theorem Pl.val (h:Pl w v n l): ∃A c,v= .slice A n c∧n≤c:=by
 rcases h with h | ⟨hl,g,cap,rest,rfl,h1,h2,B⟩
 ·exact h.val
 ·exact ⟨_,cap,rfl,h1⟩
theorem Pl.form (h:Pl w v n l) (hn:0<n): ∃g cap rest,v= .slice (some ⟨g,0,none⟩) n cap∧(∃t,ax w g t (l++rest).toArray)∧n≤cap∧l.length=n:=by
 rcases h with h | ⟨hl,g,cap,rest,rfl,h1,h2,B⟩
 ·obtain ⟨g,cap,rest,h1,h2,h3,h4⟩:=h.form hn;exact ⟨g,cap,rest,h1,⟨_,h2⟩,h3,h.1⟩
 ·exact ⟨g,cap,rest,rfl,⟨_,B⟩,h1,hl⟩
theorem Pl.aH (h:Pl w v n l) {b:Nat} {t:TypeId} {cs:Array Value} (B:ax w b t cs) (h1:t≠3) (h2:t≠231):b∉bA v:=fun hb=>by
 obtain ⟨t',cs',ht,B'⟩:=h.own b hb
 rcases ht with rfl | rfl
 ·exact B.jF B' h1 rfl
 ·exact B.jF B' h2 rfl
end
structure At (w:World) (x:X) (n:Nat) (c:C):Prop where
 hb:ax w x.b 146 (yg x c)
 hd:aI w x.L n c.d
 hm:Fm.cR w x.mb x.mg c.m
 ht:Sl w 3 x.tv c.table.length (cw c.table)
 ho:Sl w 3 x.ov c.bE.length (cw c.bE)
 hp:Pl w x.pv c.parts.length (cw c.parts)
 n1:x.mg∉bA x.tv
 n2:x.mg∉bA x.ov
 n3:x.mg∉bA x.pv
 n4: ∀g∈bA x.tv,g∉bA x.ov
 n5: ∀g∈bA x.tv,g∉bA x.pv
 n6: ∀g∈bA x.ov,g∉bA x.pv
 tl:c.table.length≤512
section
variable {w w':World} {x:X} {n:Nat} {c:C} {S:List Nat}
theorem At.only (h:At w x n c) (ho:ag S w w') (hd: ∀g∈x.fp,g∉S):At w' x n c:=
 ⟨h.hb.only ho (hd _ (by simp [X.fp])),h.hd.only ho (fun g hg=>hd g (by simp [X.fp,hg])),h.hm.only ho (hd _ (by simp [X.fp])) (hd _ (by simp [X.fp])),
  h.ht.only ho (fun g hg=>hd g (by simp [X.fp,hg])),h.ho.only ho (fun g hg=>hd g (by simp [X.fp,hg])),h.hp.only ho (fun g hg=>hd g (by simp [X.fp,hg])),h.n1,h.n2,h.n3,h.n4,h.n5,h.n6,h.tl⟩
theorem At.below (h:At w x n c) (hb:Below w.heap.size w w'):At w' x n c:=h.only (S:=[]) (.ak hb) (by simp)
theorem At.drew (h:At w x n c):At w.drew x n c:=h.below ((Below.refl _ _).drew)
theorem At.drewN (h:At w x n c) (k:Nat):At (w.drewN k) x n c:=h.below (cQ (Below.refl _ _) k)
theorem At.lt (h:At w x n c): ∀g∈x.fp,g<w.heap.size:=by
 intro g hg;simp only [X.fp,List.mem_cons,List.mem_append] at hg
 rcases hg with rfl | rfl | rfl | ((hg | hg) | hg) | hg
 ·exact h.hb.lt
 ·exact h.hm.hb.lt
 ·exact h.hm.hg.lt
 ·exact h.hd.lt g hg
 ·exact h.ht.lt g hg
 ·exact h.ho.lt g hg
 ·exact h.hp.lt g hg
theorem At.f0 (h:At w x n c):w.cell? ⟨x.b,0,none⟩=some (dp x.L.b):=h.hb.ab rfl
theorem At.f1 (h:At w x n c):w.cell? ⟨x.b,1,none⟩=some (Fm.mp x.mb):=h.hb.ab rfl
theorem At.f2 (h:At w x n c):w.cell? ⟨x.b,2,none⟩=some x.tv:=h.hb.ab rfl
theorem At.f4 (h:At w x n c):w.cell? ⟨x.b,4,none⟩=some x.pv:=h.hb.ab rfl
theorem At.f5 (h:At w x n c):w.cell? ⟨x.b,5,none⟩=some (.int .i64 c.ep):=h.hb.ab rfl
theorem At.f6 (h:At w x n c):w.cell? ⟨x.b,6,none⟩=some (.int .i64 c.slot):=h.hb.ab rfl
theorem At.f7 (h:At w x n c):w.cell? ⟨x.b,7,none⟩=some (.bool c.broken):=h.hb.ab rfl
theorem At.fz (h:At w x n c) (i:Nat) (hi:i<8):w.frozen? ⟨x.b,i,none⟩=false:=h.hb.frozen i (by simpa [yg] using hi)
theorem At.tk (h:At w x n c) (k:Nat) (hk:k<c.table.length): ∃g cp,x.tv= .slice (some ⟨g,0,none⟩) c.table.length cp∧w.cell? ⟨g,k,none⟩=some (.int .i64 (c.table.getD k 0)):=by
 obtain ⟨g,cp,rest,hv,B,_,_⟩:=h.ht.form (by omega);refine ⟨g,cp,hv,B.ab ?_⟩;rw [List.getElem?_toArray,List.getElem?_append_left (by simpa using hk),lR _ _ hk]
theorem At.vO (h:At w x n c) {d':D} (hd:aI w' x.L n d') (ho:ag x.L.fp w w'):At w' x n {c with d:=d'}:=by
 have ne: ∀g∈x.L.fp,∀{t:TypeId} {cs:Array Value} {b:Nat},ax w b t cs→t≠149→t≠152→t≠4→b∉x.L.fp:=by
  intro g hg t cs b B h1 h2 h3 hm;simp only [Loc.fp,List.mem_cons,List.not_mem_nil,or_false] at hm
  rcases hm with rfl | rfl | rfl | rfl
  ·exact h1 (B.inj h.hd.hb).1
  ·exact h2 (B.inj h.hd.hN).1
  ·exact h2 (B.inj h.hd.hO).1
  ·exact h3 (B.inj h.hd.hL).1
 have nb: ∀{t:TypeId} {cs:Array Value} {b:Nat},ax w b t cs→t≠149→t≠152→t≠4→b∉x.L.fp:=fun B h1 h2 h3=>ne x.L.b (by simp [Loc.fp]) B h1 h2 h3;have ns: ∀{v:Value} {k:Nat} {l:List Value},Sl w 3 v k l→ ∀g∈bA v,g∉x.L.fp:=by
  intro v k l S g hg
  rcases S.2 with ⟨A,rfl,_⟩ | ⟨g',cap,rest,rfl,h0,B,_⟩
  ·cases A<;>simp [bA] at hg
  ·simp [bA] at hg;rw [hg.2];exact nb B (by decide) (by decide) (by decide)
 have np: ∀g∈bA x.pv,g∉x.L.fp:=fun g hg=>by
  obtain ⟨t,cs,ht,B⟩:=h.hp.own g hg
  rcases ht with rfl | rfl
  ·exact nb B (by decide) (by decide) (by decide)
  ·exact nb B (by decide) (by decide) (by decide)
 exact ⟨h.hb.only ho (nb h.hb (by decide) (by decide) (by decide)),hd,h.hm.only ho (nb h.hm.hb (by decide) (by decide) (by decide)) (nb h.hm.hg (by decide) (by decide) (by decide)),h.ht.only ho (ns h.ht),h.ho.only ho (ns h.ho),h.hp.only ho np,h.n1,h.n2,h.n3,h.n4,h.n5,h.n6,h.tl⟩
theorem At.map (h:At w x n c) {m':List Int} (hm:Fm.cR w' x.mb x.mg m') (ho:ag [x.mg] w w'):At w' x n {c with m:=m'}:=by
 have nb: ∀{t:TypeId} {cs:Array Value} {b:Nat},ax w b t cs→t≠3→b∉[x.mg]:=by
  intro t cs b B h1 hm;simp at hm;subst hm;exact h1 (B.inj h.hm.hg).1
 refine ⟨h.hb.only ho (nb h.hb (by decide)),h.hd.only ho ?_,hm,h.ht.only ho ?_,h.ho.only ho ?_,h.hp.only ho ?_,h.n1,h.n2,h.n3,h.n4,h.n5,h.n6,h.tl⟩
 ·intro g hg;simp only [Loc.fp,List.mem_cons,List.not_mem_nil,or_false] at hg
  rcases hg with rfl | rfl | rfl | rfl
  ·exact nb h.hd.hb (by decide)
  ·exact nb h.hd.hN (by decide)
  ·exact nb h.hd.hO (by decide)
  ·exact nb h.hd.hL (by decide)
 ·intro g hg hm; simp at hm; subst hm; exact h.n1 hg
 ·intro g hg hm; simp at hm; subst hm; exact h.n2 hg
 ·intro g hg hm; simp at hm; subst hm; exact h.n3 hg
end
def sp (b:Nat):Value:= .pointer (some ⟨b,0,none⟩)
def dJ (n:Nat):Nat:=min (bC n) 1024
def C.dX (c:C):Int:=if c.broken then 13 else 0
def C.nm (c:C) (l:Int):Bool:=decide (0≤l) && decide (l<c.table.length) && decide (0≤c.table.getD l.toNat 0)
def C.gI (c:C) (l:Int):Int:=if c.broken then 13 else if c.nm l then 0 else 3
theorem Gq {w:World} {L:Dk.Loc} {n:Nat} {d:D} (h:aI w L n d):
  Calls Tryz.prog 82 #[dp L.b] w fun e w'=>e= .returned (.int .i64 (dJ n:Nat))∧w=w':=by
 have K:=xh (kr h);have hm:((bC n:Nat):Int)≤1024:=by have:=h.ok.small; unfold bC; omega
 have HP:=xh (show ((dJ n:Nat):Int)=((bC n:Nat):Int) from by unfold dJ; omega);generalize bC n=mn at *;unfold dp at *;go_enter Tryz.func82,Tryz.ntmps82;go_wp2_with fail;refine K.out.mono ?_;rintro e w1 ⟨rfl,rfl⟩;go_wp2_with fail
 all_goals
  go_ret;refine ⟨?_,rfl⟩;rw [HP.out]
  first | (simp; done) | (simp; omega)
theorem fZ {w:World} {x:X} {n:Nat} {c:C} (h:At w x n c):
  Calls Tryz.prog 148 #[sp x.b] w fun e w'=>e= .returned (.int .i64 c.dX)∧w=w':=by
 have f7:=h.f7;unfold sp C.dX;clear h
 cases hb:c.broken
 all_goals
  rw [hb] at f7;clear hb;go_enter Tryz.func148,Tryz.ntmps148;go_wp2_with fail;go_ret;exact ⟨by first | rfl | simp,rfl⟩
end Go.Proofs.YtmonobkginiajaaGreat.Sh
namespace Go.Proofs.YtmonobkginiajaaGreat.Sh
open Go.RowKit Pk Dk Pg
attribute [local go_sem ↓] Go.wp_at_zero Go.wp_at_succ
theorem lO {w:World} {x:X} {n:Nat} {c:C} (h:At w x n c) (l:Int):
  Calls Tryz.prog 191 #[sp x.b,.int .i64 l] w fun e w'=>e= .returned (.int .i64 (c.gI l))∧w=w':=by
 have K:=fZ h;have f2:=h.f2;obtain ⟨TA,tc,oG,htc⟩:=h.ht.val;rw [oG] at f2;have HR:=xh (show ∀r,c.gI l=r→c.gI l=r from fun r h=>h);have tl:=h.tl
 by_cases hb:c.broken=true
 ·have hw:c.dX=13:=by unfold C.dX; rw [if_pos hb]
  have HA:=xh (show c.gI l=13 from by unfold C.gI; rw [if_pos hb]);rw [hw] at K;have K:=xh K;clear h hb hw;generalize c.gI l=r at *;unfold sp at *;go_enter Tryz.func191,Tryz.ntmps191;go_wp2_with fail;refine K.out.mono ?_;rintro e w1 ⟨rfl,rfl⟩;go_wp2_with fail;go_ret;exact ⟨by rw [HA.out]; first | rfl | simp,rfl⟩
 ·have hw:c.dX=0:=by unfold C.dX; rw [if_neg hb]
  rw [hw] at K;have K:=xh K
  by_cases h1:l<0
  ·have HA:=xh (show c.gI l=3 from by unfold C.gI C.nm; rw [if_neg hb]; simp; omega);clear h hb hw;generalize c.gI l=r at *;unfold sp at *;go_enter Tryz.func191,Tryz.ntmps191;go_wp2_with fail;refine K.out.mono ?_;rintro e w1 ⟨rfl,rfl⟩;go_wp2_with fail;go_ret;exact ⟨by rw [HA.out]; first | rfl | simp,rfl⟩
  ·obtain ⟨k,rfl⟩:=Int.eq_ofNat_of_zero_le (show 0≤l by omega)
   by_cases h2:k<c.table.length
   ·obtain ⟨g,cp,hv,hk⟩:=h.tk k h2;rw [hv] at oG;injection oG with ht1 ht2 ht3
    subst ht1 ht3;obtain ⟨v,EK⟩: ∃v,c.table.getD k 0=v:=⟨_,rfl⟩;rw [EK] at hk;have h2I: ¬(c.table.length:Int)≤(k:Int):=by omega
    have h2J:(k:Int)<(c.table.length:Int):=by omega
    by_cases h3:v<0
    ·have ht:c.table.getD ((k:Nat):Int).toNat 0=v:=by rw [show ((k:Nat):Int).toNat=k from by omega]; exact EK
     have HA:=xh (show c.gI k=3 from by unfold C.gI C.nm; rw [if_neg hb,ht,if_neg (by simp only [Bool.and_eq_true,decide_eq_true_eq]; omega)]);clear ht;clear h hb hw hv EK;generalize c.gI k=r at *;generalize c.table.length=tn at *;unfold sp at *;go_enter Tryz.func191,Tryz.ntmps191;go_wp2_with fail;refine K.out.mono ?_;rintro e w1 ⟨rfl,rfl⟩;go_wp2_with fail;go_ret;exact ⟨by rw [HA.out]; first | rfl | simp,rfl⟩
    ·have HA:=xh (show c.gI k=0 from by
      have ht:c.table.getD ((k:Nat):Int).toNat 0=v:=by rw [show ((k:Nat):Int).toNat=k from by omega]; exact EK
      have hh:c.nm k=true:=by unfold C.nm; rw [ht]; simp only [Bool.and_eq_true,decide_eq_true_eq]; omega
      unfold C.gI; rw [if_neg hb,if_pos hh])
     clear h hb hw hv EK;generalize c.gI k=r at *;generalize c.table.length=tn at *;unfold sp at *;go_enter Tryz.func191,Tryz.ntmps191;go_wp2_with fail;refine K.out.mono ?_;rintro e w1 ⟨rfl,rfl⟩;go_wp2_with fail;go_ret;exact ⟨by rw [HA.out]; first | rfl | simp,rfl⟩
   ·have HA:=xh (show c.gI k=3 from by unfold C.gI C.nm; rw [if_neg hb]; simp; omega);have h2I:(c.table.length:Int)≤(k:Int):=by omega
    clear h hb hw;generalize c.gI k=r at *;generalize c.table.length=tn at *;unfold sp at *;go_enter Tryz.func191,Tryz.ntmps191;go_wp2_with fail;refine K.out.mono ?_;rintro e w1 ⟨rfl,rfl⟩;go_wp2_with fail;go_ret;exact ⟨by rw [HA.out]; first | rfl | simp,rfl⟩
theorem fX {w:World} {x:X} {n:Nat} {c:C} (h:At w x n c) (id kind:Int) (s:ByteArray) (hid:id≤9223372036854775807) (y9:0≤c.ep∧c.ep≤1099511627776) (hc:c.d.calls≤3999999999999999990) (hr:c.d.aP≤9223372036854775807):
  Calls Tryz.prog 193 #[sp x.b,.int .i64 id,.int .i64 kind,.string s] w fun e w'=>e= .returned (.int .i64 (aO c.d n id (c.ep+1) kind s.data.toList).2)∧At w' x n {c with d:=(aO c.d n id (c.ep+1) kind s.data.toList).1}∧ag x.L.fp w w':=by
 have KPW:=Cq (w:=w.drew) h.hd.drew id (c.ep+1) kind s hid hc hr;have HD:=xh (fun (w':World) (hd:aI w' x.L n (aO c.d n id (c.ep+1) kind s.data.toList).1) (ho:ag x.L.fp w.drew w')=>At.vO h.drew hd ho);have f0:=h.f0;have f5:=h.f5;have q1:IntKind.i64.wrap (c.ep+1)=c.ep+1:=IntWalk.i64_in _ (by omega);have HK:=xh (show w.drew.cell? ⟨x.b,0,none⟩=some (dp x.L.b)∧w.drew.cell? ⟨x.b,5,none⟩=some (.int .i64 c.ep) from ⟨f0,f5⟩)
 have HP:=xh (show ∀w',ag x.L.fp w.drew w'→(w'.cell? ⟨x.b,0,none⟩=some (dp x.L.b)∧w'.cell? ⟨x.b,5,none⟩=some (.int .i64 c.ep)) from fun w' ho=>by
  have B:=h.hb.drew.only ho (fun hm=>by
   simp only [Loc.fp,List.mem_cons,List.not_mem_nil,or_false] at hm
   rcases hm with hm | hm | hm | hm
   ·exact h.hb.jF h.hd.hb (by decide) hm
   ·exact h.hb.jF h.hd.hN (by decide) hm
   ·exact h.hb.jF h.hd.hO (by decide) hm
   ·exact h.hb.jF h.hd.hL (by decide) hm)
  exact ⟨B.ab (i:=0) rfl,B.ab (i:=5) rfl⟩)
 clear h;generalize (aO c.d n id (c.ep+1) kind s.data.toList).2=er at *;generalize (aO c.d n id (c.ep+1) kind s.data.toList).1=d2 at *;generalize c.ep=ep at *;unfold sp dp gl at *;have KPW:=xh KPW;go_enter Tryz.func193,Tryz.ntmps193;go_wp2_with fail;refine wp_region_held_drew (S:=fun W'=>W'.cell? ⟨x.b,0,none⟩=some (.pointer (some ⟨x.L.b,0,none⟩))∧W'.cell? ⟨x.b,5,none⟩=some (.int .i64 ep)) (by kernel_rfl) (HK.out) (fun aj=>?_)
 refine bR [(0,9),(1,10),(2,11),(3,12),(4,13),(5,14),(6,15),(7,16),(8,17),(9,18),(10,19),(11,20),(12,21)] ?_
 iterate 13 (refine zt ?_; try simp only [Act.put,pa,pb,pc])
 refine bS ?_;refine cA (i:=13) (o:=⟨some 22,_,_,_,_,_⟩) fun K hK=>?_;go_simp
 go_at_call 225
 refine KPW.out.mono ?_;rintro e w1 ⟨rfl,dd,ow⟩;have DV:=xh dd;have OW:=xh ow;clear dd ow;go_simp;refine hK.out _ _ (HP.out _ OW.out) (fun aj=>?_)
 try simp only [Act.put,pa,pb,pc]
 refine bR [(14,8)] ?_
 iterate 1 (refine zt ?_; try simp only [Act.put,pa,pb,pc])
 refine bS ?_;refine wpAnyH_done (by kernel_rfl) ?_ _;go_wp2_with fail;go_ret;exact ⟨by first | rfl | simp,HD.out _ DV.out OW.out,(ag.refl _ w).drew.trans OW.out⟩
def C.bu (c:C) (n:Nat) (p:List UInt8):C×Int×Int:=
 if (Fm.bV c.m).2.2≠0 then ({c with m:=(Fm.bV c.m).1},0,(Fm.bV c.m).2.2)
 else if (aO c.d n (Fm.bV c.m).2.1 (c.ep+1) 2 p).2≠0 then ({c with m:=(Fm.cF (Fm.bV c.m).1 (Fm.bV c.m).2.1).1,d:=(aO c.d n (Fm.bV c.m).2.1 (c.ep+1) 2 p).1},0,(aO c.d n (Fm.bV c.m).2.1 (c.ep+1) 2 p).2)
 else ({c with m:=(Fm.bV c.m).1,d:=(aO c.d n (Fm.bV c.m).2.1 (c.ep+1) 2 p).1},(Fm.bV c.m).2.1,0)
theorem JD (m:List Int) (h:m.length≤1024):(Fm.bV m).2.1≤1024∧0≤(Fm.bV m).2.1:=by
 unfold Fm.bV
 split
 ·exact ⟨by show (Fm.cm m 0:Int)≤_; omega,by show (0:Int)≤(Fm.cm m 0:Int); omega⟩
 ·exact ⟨by show (0:Int)≤_; omega,by show (0:Int)≤0; omega⟩
theorem oV (x:X): ∀g∈[x.mg],g∈x.fp:=by intro g hg; simp at hg; subst hg; simp [X.fp]
theorem zE (x:X): ∀g∈x.L.fp,g∈x.fp:=by intro g hg; simp [X.fp,hg]
theorem mH {w:World} {x:X} {n:Nat} {c:C} (h:At w x n c) (s:ByteArray) (y9:0≤c.ep∧c.ep≤1099511627776) (hc:c.d.calls≤3999999999999999990) (hr:c.d.aP≤9223372036854775807):
  Calls Tryz.prog 166 #[sp x.b,.string s] w fun e w'=>e= .returned (.tuple #[.int .i64 (c.bu n s.data.toList).2.1,.int .i64 (c.bu n s.data.toList).2.2])∧At w' x n (c.bu n s.data.toList).1∧ag x.fp w w':=by
 have KT:=Fm.oO h.hm;have HT:=xh (fun (w':World) (hm:Fm.cR w' x.mb x.mg (Fm.bV c.m).1) (ho:ag [x.mg] w w')=>At.map h hm ho);have nj:c.m.length≤1024:=h.hm.hl;have hid:=JD c.m nj;have f1:=h.f1;obtain ⟨R,hR⟩: ∃R,c.bu n s.data.toList=R:=⟨_,rfl⟩;rw [hR];unfold C.bu at hR
 by_cases h1:(Fm.bV c.m).2.2=0
 ·rw [if_neg (by simpa using h1)] at hR;rw [h1] at KT;generalize (Fm.bV c.m).2.1=id at *;generalize (Fm.bV c.m).1=m1 at *;have KP:=xh (fun (w':World) (hh:At w' x n {c with m:=m1})=>fX hh id 2 s (by omega) y9 hc hr);dsimp only at KP
  by_cases h2:(aO c.d n id (c.ep+1) 2 s.data.toList).2=0
  ·rw [if_neg (by simpa using h2)] at hR;rw [h2] at KP;subst hR;generalize (aO c.d n id (c.ep+1) 2 s.data.toList).1=d1 at *;have KT:=xh KT;clear h h1 h2;unfold sp Fm.mp at *;go_enter Tryz.func166,Tryz.ntmps166;go_wp2_with fail;refine KT.out.mono ?_;rintro e w1 ⟨rfl,mm,ow⟩;have A1:=xh (HT.out _ mm ow);have O1:=xh ow;clear mm ow;go_wp2_with fail;refine (KP.out _ A1.out).mono ?_;rintro e w2 ⟨rfl,aa,ow⟩;have A2:=xh aa
   have O2:=xh ((O1.out.mono (fun g hg _=>oV x g hg)).trans (ow.mono (fun g hg _=>zE x g hg)));clear aa ow;go_wp2_with fail;go_ret2;exact ⟨by first | rfl | simp,A2.out,O2.out⟩
  ·rw [if_pos h2] at hR;subst hR;have hq:((aO c.d n id (c.ep+1) 2 s.data.toList).2 != 0)=true:=by rw [bne_iff_ne]; exact h2
   generalize (aO c.d n id (c.ep+1) 2 s.data.toList).1=d1 at *;generalize (aO c.d n id (c.ep+1) 2 s.data.toList).2=er at *;have KT:=xh KT;clear h h1 h2;unfold sp Fm.mp at *;go_enter Tryz.func166,Tryz.ntmps166;go_wp2_with fail;refine KT.out.mono ?_;rintro e w1 ⟨rfl,mm,ow⟩;have A1:=xh (HT.out _ mm ow);have O1:=xh ow;clear mm ow;go_wp2_with fail;refine (KP.out _ A1.out).mono ?_;rintro e w2 ⟨rfl,aa,ow⟩;have A2:=xh aa
   have O2:=xh ((O1.out.mono (fun g hg _=>oV x g hg)).trans (ow.mono (fun g hg _=>zE x g hg)));have f1':=aa.f1;have KL:=Fm.mF aa.hm id;dsimp only at KL;have KL:=xh KL;unfold Fm.mp at *;clear aa ow;go_wp2_with fail;refine KL.out.mono ?_;rintro e w3 ⟨rfl,mm,ow⟩;have A3:=xh (A2.out.map mm ow);have O3:=xh (O2.out.trans (ow.mono (fun g hg _=>oV x g hg)));clear mm ow;go_wp2_with fail;go_ret2;exact ⟨by first | rfl | simp,A3.out,O3.out⟩
 ·rw [if_pos h1] at hR;subst hR;have hq:((Fm.bV c.m).2.2 != 0)=true:=by rw [bne_iff_ne]; exact h1
  generalize (Fm.bV c.m).2.1=id at *;generalize (Fm.bV c.m).2.2=er at *;generalize (Fm.bV c.m).1=m1 at *;have KT:=xh KT;clear h h1;unfold sp Fm.mp at *;go_enter Tryz.func166,Tryz.ntmps166;go_wp2_with fail;refine KT.out.mono ?_;rintro e w1 ⟨rfl,mm,ow⟩;have A1:=xh (HT.out _ mm ow);have O1:=xh (ow.mono (S':=x.fp) (fun g hg _=>oV x g hg));clear mm ow;go_wp2_with fail;go_ret2;exact ⟨by first | rfl | simp,A1.out,O1.out⟩
end Go.Proofs.YtmonobkginiajaaGreat.Sh
namespace Go.Proofs.YtmonobkginiajaaGreat.Sh
open Go.RowKit Pk Dk Pg
attribute [local go_sem ↓] Go.wp_at_zero Go.wp_at_succ
section
variable {w w':World} {x:X} {n:Nat} {c:C}
theorem qg {v:Value} {k:Nat} {l:List Value} (S:Sl w 3 v k l): ∀g∈bA v,∃cs,ax w g 3 cs:=by
 intro g hg
 rcases S.2 with ⟨A,rfl,_⟩ | ⟨g',cap,rest,rfl,h0,B,_⟩
 ·cases A<;>simp [bA] at hg
 ·simp [bA] at hg;rw [hg.2];exact ⟨_,B⟩
theorem At.yh (h:At w x n c) {v:Value} {k:Nat} {l:List Value} (S:Sl w 3 v k l):x.b∉bA v∧x.mb∉bA v∧ ∀g∈x.L.fp,g∉bA v:=by
 refine ⟨fun hg=>?_,fun hg=>?_,fun g hgL hg=>?_⟩
 ·obtain ⟨cs,B⟩:=qg S _ hg;exact h.hb.jF B (by decide) rfl
 ·obtain ⟨cs,B⟩:=qg S _ hg;exact h.hm.hb.jF B (by decide) rfl
 ·obtain ⟨cs,B⟩:=qg S _ hg;simp only [Loc.fp,List.mem_cons,List.not_mem_nil,or_false] at hgL
  rcases hgL with rfl | rfl | rfl | rfl
  ·exact h.hd.hb.jF B (by decide) rfl
  ·exact h.hd.hN.jF B (by decide) rfl
  ·exact h.hd.hO.jF B (by decide) rfl
  ·exact h.hd.hL.jF B (by decide) rfl
theorem At.jj (h:At w x n c) (k:Nat) (hk:k<c.table.length) (u:Int): ∃g cp,x.tv= .slice (some ⟨g,0,none⟩) c.table.length cp∧w.cell? ⟨g,k,none⟩=some (.int .i64 (c.table.getD k 0))∧w.frozen? ⟨g,k,none⟩=false∧
  At (w.setCell ⟨g,k,none⟩ (.int .i64 u)) x n {c with table:=c.table.set k u}∧ag x.fp w (w.setCell ⟨g,k,none⟩ (.int .i64 u)):=by
 obtain ⟨g,cp,hv,S,hg,z,ow⟩:=h.ht.bq k hk (.int .i64 u);obtain ⟨g',cp',ID,ck⟩:=h.tk k hk;rw [hv] at ID;injection ID with e1 e2 e3
 injection e1 with e1
 injection e1 with e1
 subst e1;have ne:=h.yh h.ht;rw [hg] at ne;refine ⟨g,cp,hv,ck,z,⟨h.hb.only ow ne.1,h.hd.only ow ne.2.2,h.hm.only ow ne.2.1 (by rw [←hg]; exact h.n1),?_,h.ho.only ow (fun y hy hm=>h.n4 y (by rw [hg]; exact hm) hy),h.hp.only ow (fun y hy hm=>h.n5 y (by rw [hg]; exact hm) hy),h.n1,h.n2,h.n3,h.n4,h.n5,h.n6,by show (c.table.set k u).length≤512; rw [List.length_set]; exact h.tl⟩,ow.mono (fun y hy _=>by
  have:y∈bA x.tv:=by rw [hg]; exact hy
  simp [X.fp,this])⟩
 show Sl _ _ x.tv (c.table.set k u).length (cw (c.table.set k u));rw [List.length_set,←JC];exact S
theorem At.addT (h:At w x n c) (u:Int) {v':Value} (S:Sl w' 3 v' (c.table.length+1) (cw (c.table++[u]))) (ow:ag (bA x.tv) w w') (fr: ∀g∈bA v',g∈bA x.tv∨w.heap.size≤g) (hl:c.table.length+1≤512):
  w'.cell? ⟨x.b,2,none⟩=some x.tv∧w'.frozen? ⟨x.b,2,none⟩=false∧At (w'.setCell ⟨x.b,2,none⟩ v') {x with tv:=v'} n {c with table:=c.table++[u]}∧ag x.fp w (w'.setCell ⟨x.b,2,none⟩ v')∧ ∀g∈({x with tv:=v'}:X).fp,g∈x.fp∨w.heap.size≤g:=by
 have ne:=h.yh h.ht;have B1:=h.hb.only ow ne.1;have B2:ax (w'.setCell ⟨x.b,2,none⟩ v') x.b 146 #[dp x.L.b,Fm.mp x.mb,v',x.ov,x.pv,.int .i64 c.ep,.int .i64 c.slot,.bool c.broken]:=B1.bq 2 v';have o2:=(ag.refl [x.b] w').setCell (p:=⟨x.b,2,none⟩) (by simp) v';have D1:=h.hd.only ow ne.2.2;have M1:=h.hm.only ow ne.2.1 h.n1;have O1:=h.ho.only ow (fun y hy hm=>h.n4 y hm hy);have P1:=h.hp.only ow (fun y hy hm=>h.n5 y hm hy)
 have hbn: ∀{t:TypeId} {cs:Array Value} {b:Nat},ax w' b t cs→t≠146→b∉[x.b]:=by
  intro t cs b B eg hm;simp at hm;subst hm;exact eg (B.inj B1).1
 have hs: ∀{v:Value} {k:Nat} {l:List Value},Sl w' 3 v k l→ ∀g∈bA v,g∉[x.b]:=fun S g hg=>by
  obtain ⟨cs,B⟩:=qg S g hg;exact hbn B (by decide)
 refine ⟨B1.ab rfl,B1.frozen 2 (by simp [yg]),⟨B2,D1.only o2 ?_,M1.only o2 (hbn M1.hb (by decide)) (hbn M1.hg (by decide)),?_,O1.only o2 (hs O1),P1.only o2 (fun g hg hm=>P1.aH B1 (by decide) (by decide) (by rw [←List.mem_singleton.1 hm]; exact hg)),?_,h.n2,h.n3,?_,?_,h.n6,by show (c.table++[u]).length≤512; rw [List.length_append]; exact hl⟩,?_,?_⟩
 ·intro g hg;simp only [Loc.fp,List.mem_cons,List.not_mem_nil,or_false] at hg
  rcases hg with rfl | rfl | rfl | rfl
  ·exact hbn D1.hb (by decide)
  ·exact hbn D1.hN (by decide)
  ·exact hbn D1.hO (by decide)
  ·exact hbn D1.hL (by decide)
 ·show Sl _ _ v' (c.table++[u]).length _;rw [List.length_append];exact S.only o2 (hs S)
 ·exact fun hg=>(fr x.mg hg).elim h.n1 (fun BR=>by have:=h.hm.hg.lt; omega)
 ·exact fun g hg ho=>(fr g hg).elim (fun h1=>h.n4 g h1 ho) (fun BR=>by have:=h.ho.lt g ho; omega)
 ·exact fun g hg ho=>(fr g hg).elim (fun h1=>h.n5 g h1 ho) (fun BR=>by have:=h.hp.lt g ho; omega)
 ·exact (ow.mono (fun g hg _=>by simp [X.fp,hg])).trans (o2.mono (fun g hg _=>by simp at hg; subst hg; simp [X.fp]))
 ·intro g hg;simp only [X.fp,List.mem_cons,List.mem_append] at hg ⊢
  rcases hg with hg | hg | hg | ((hg | hg) | hg) | hg
  ·exact .inl (.inl hg)
  ·exact .inl (.inr (.inl hg))
  ·exact .inl (.inr (.inr (.inl hg)))
  ·exact .inl (.inr (.inr (.inr (.inl (.inl (.inl hg))))))
  ·exact (fr g hg).imp (fun h1=> .inr (.inr (.inr (.inl (.inl (.inr h1)))))) id
  ·exact .inl (.inr (.inr (.inr (.inl (.inr hg)))))
  ·exact .inl (.inr (.inr (.inr (.inr hg))))
end
theorem JE {w:World} {v:Value} {l:List Int} (S:Sl w 3 v l.length (cw l)) (hl:l.length≤1000000) (k:Int):
  Calls Tryz.prog 165 #[v,.int .i64 k] w fun e w'=>e= .returned (.int .i64 (Fm.iy l k))∧w=w':=by
 by_cases h0:0<l.length
 ·obtain ⟨g,cap,rest,rfl,B,hc,_⟩:=S.form h0;exact Fm.mG g l.length cap l rfl hl k w (fun j hj=>B.ab (by rw [List.getElem?_toArray,List.getElem?_append_left (by simpa using hj),lR _ _ hj]))
 ·have hn:l=[]:=List.eq_nil_of_length_eq_zero (by omega);subst hn;obtain ⟨A,c,rfl,_⟩:=S.val;have e1:Fm.iy [] k= -1:=rfl;rw [e1];clear S;simp only [List.length_nil];go_enter Tryz.func165,Tryz.ntmps165;go_wp2_with fail
  go_loopw [8] (fun iv wr=>iv= .int .i64 0∧wr=w) (fun _ _=>0)
  case atStart=>exact ⟨rfl,rfl⟩
  case round=>
   obtain ⟨rfl,rfl⟩:=hrel;go_wp2_with fail;go_ret;exact ⟨by first | rfl | simp,rfl⟩
def fP (t:List Int):Nat:=Fm.cm t (-1)
theorem th (t:List Int):fP t≤t.length:=by unfold fP Fm.cm; exact List.findIdx_le_length
theorem zF (t:List Int):Fm.iy t (-1)=if fP t<t.length then (fP t:Int) else -1:=rfl
end Go.Proofs.YtmonobkginiajaaGreat.Sh
namespace Go.Proofs.YtmonobkginiajaaGreat.Sh
open Go.RowKit Pk Dk Pg
attribute [local go_sem ↓] Go.wp_at_zero Go.wp_at_succ aX
theorem gh:(Tryz.prog.info? 3).map (fun i=>(i.zero,i.size,i.bytes))=some (some (.int .i64 0),1,8):=by kernel_rfl
def nO (t:List Int) (l:Nat) (u:Int):List Int:=if l=t.length then t++[u] else t.set l u
def C.bm (c:C) (n:Nat) (p:List UInt8):C×Int×Int:=
 if c.broken=true then (c,0,13)
 else if 232<p.length then (c,0,4)
 else if 512≤fP c.table then (c,0,11)
 else if (c.bu n p).2.2≠0 then ((c.bu n p).1,0,(c.bu n p).2.2)
 else ({(c.bu n p).1 with table:=nO c.table (fP c.table) (c.bu n p).2.1},fP c.table,0)
theorem jk (c:C) (n:Nat) (p:List UInt8):(c.bu n p).1.table=c.table∧(c.bu n p).1.bE=c.bE∧(c.bu n p).1.parts=c.parts∧(c.bu n p).1.ep=c.ep∧(c.bu n p).1.slot=c.slot∧(c.bu n p).1.broken=c.broken:=by
 unfold C.bu
 split
 ·exact ⟨rfl,rfl,rfl,rfl,rfl,rfl⟩
 ·split<;>exact ⟨rfl,rfl,rfl,rfl,rfl,rfl⟩
def zG (w w':World) (x:X) (n:Nat) (c':C):Prop:= ∃x',x'.b=x.b∧x'.L=x.L∧At w' x' n c'∧ag x.fp w w'∧ ∀g∈x'.fp,g∈x.fp∨w.heap.size≤g
theorem zG.self {w w':World} {x:X} {n:Nat} {c':C} (h:At w' x n c') (ho:ag x.fp w w'):zG w w' x n c':=⟨x,rfl,rfl,h,ho,fun _ hg=> .inl hg⟩
theorem new_any {w:World} {x:X} {n:Nat} {c:C} (h:At w x n c) (s:ByteArray) (hs:s.size≤9223372036854775807) (y9:0≤c.ep∧c.ep≤1099511627776) (hc:c.d.calls≤3999999999999999990) (hr:c.d.aP≤9223372036854775807):
  Calls Tryz.prog 120 #[sp x.b,.string s] w fun e w'=>e= .returned (.tuple #[.int .i64 (c.bm n s.data.toList).2.1,.int .i64 (c.bm n s.data.toList).2.2])∧zG w w' x n (c.bm n s.data.toList).1:=by
 have KW:=fZ h;have hl:s.data.toList.length=s.size:=by simp
 obtain ⟨R,hR⟩: ∃R,c.bm n s.data.toList=R:=⟨_,rfl⟩;rw [hR];unfold C.bm at hR;rw [hl] at hR;have HH:=xh h
 by_cases h1:c.broken=true
 ·rw [if_pos h1] at hR;subst hR;rw [show c.dX=13 from by unfold C.dX; rw [if_pos h1]] at KW;have KW:=xh KW;clear h h1;unfold sp at *;go_enter Tryz.func120,Tryz.ntmps120;go_wp2_with fail;refine KW.out.mono ?_;rintro e w1 ⟨rfl,rfl⟩;go_wp2_with fail;go_ret2;exact ⟨by first | rfl | simp,.self HH.out (ag.refl _ _)⟩
 rw [if_neg h1] at hR;rw [show c.dX=0 from by unfold C.dX; rw [if_neg h1]] at KW;have KW:=xh KW;have KI:=JE h.ht (by have:=h.tl; omega) (-1);rw [zF] at KI;have vB:=th c.table;have f2:=h.f2;have tl:=h.tl;obtain ⟨TA,tc,oG,htc⟩:=h.ht.val;obtain ⟨l,JF⟩: ∃l,fP c.table=l:=⟨_,rfl⟩;rw [JF] at KI hR vB
 by_cases h2:232<s.size
 ·rw [if_pos h2] at hR;subst hR;have h2I:(232:Int)<(s.size:Int):=by omega
  by_cases h3:l<c.table.length
  ·rw [if_pos h3] at KI;have KI:=xh KI;have h3I: ¬(l:Int)<0:=by omega
   clear h h1 h2 oG;unfold sp at *;go_enter Tryz.func120,Tryz.ntmps120;go_wp2_with fail;refine KW.out.mono ?_;rintro e w1 ⟨rfl,rfl⟩;go_wp2_with fail;refine KI.out.mono ?_;rintro e w1 ⟨rfl,rfl⟩;go_wp2_with fail;go_ret2;exact ⟨by first | rfl | simp,.self HH.out (ag.refl _ _)⟩
  ·rw [if_neg h3] at KI;have KI:=xh KI;clear h h1 h2;rw [oG] at f2 KI;unfold sp at *;go_enter Tryz.func120,Tryz.ntmps120;go_wp2_with fail;refine KW.out.mono ?_;rintro e w1 ⟨rfl,rfl⟩;go_wp2_with fail;refine KI.out.mono ?_;rintro e w1 ⟨rfl,rfl⟩;go_wp2_with fail;go_ret2;exact ⟨by first | rfl | simp,.self HH.out (ag.refl _ _)⟩
 rw [if_neg h2] at hR;have h2I: ¬(232:Int)<(s.size:Int):=by omega
 by_cases h4:512≤l
 ·rw [if_pos h4] at hR;subst hR;have h3: ¬l<c.table.length:=by omega
  have h4I:(512:Int)≤(c.table.length:Int):=by omega
  rw [if_neg h3] at KI;have KI:=xh KI;clear h h1 h2;rw [oG] at f2 KI;unfold sp at *;go_enter Tryz.func120,Tryz.ntmps120;go_wp2_with fail;refine KW.out.mono ?_;rintro e w1 ⟨rfl,rfl⟩;go_wp2_with fail;refine KI.out.mono ?_;rintro e w1 ⟨rfl,rfl⟩;go_wp2_with fail;go_ret2;exact ⟨by first | rfl | simp,.self HH.out (ag.refl _ _)⟩
 rw [if_neg h4] at hR;have KF:=mH h s y9 hc hr;have hft:=jk c n s.data.toList;generalize hF:c.bu n s.data.toList=F at *;obtain ⟨c1,id,er⟩:=F;dsimp only at KF hft hR;have KF:=xh KF
 by_cases h5:er=0
 ·rw [if_neg (by simpa using h5)] at hR;subst h5;have h4I: ¬(512:Int)≤(l:Int):=by omega
  by_cases h3:l<c.table.length
  ·rw [if_pos h3] at KI;have KI:=xh KI;have h3I: ¬(l:Int)<0:=by omega
   have h3J:((l:Int)==(c.table.length:Int))=false:=by rw [beq_eq_false_iff_ne]; omega
   have nN:nO c.table l id=c.table.set l id:=by unfold nO; rw [if_neg (by omega)]
   rw [nN] at hR;subst hR;have HFT:=xh hft;clear h h1 h2 hF nN hft oG;unfold sp at *;go_enter Tryz.func120,Tryz.ntmps120;go_wp2_with fail;refine KW.out.mono ?_;rintro e w1 ⟨rfl,rfl⟩;go_wp2_with fail;refine KI.out.mono ?_;rintro e w1 ⟨rfl,rfl⟩;go_wp2_with fail;refine KF.out.mono ?_;rintro e w1 ⟨rfl,aa,ow⟩;have f2':=aa.f2;obtain ⟨g,cp,hv,ck,z,A2,o2⟩:=aa.jj l (by rw [HFT.out.1]; exact h3) id;rw [hv,HFT.out.1] at f2'
   have AX:=xh (show At (w1.setCell ⟨g,l,none⟩ (.int .i64 id)) x n {c1 with table:=c.table.set l id} from by rw [←HFT.out.1]; exact A2);have OX:=xh (ow.trans o2);generalize c1.table.getD l 0=ov at ck;clear aa ow A2 o2 hv;clear f2;generalize c.table.length=tn at *;go_wp2_with fail;go_ret2;exact ⟨by first | rfl | simp,.self AX.out OX.out⟩
  ·obtain rfl:l=c.table.length:=by omega
   rw [if_neg h3] at KI;have nN:nO c.table c.table.length id=c.table++[id]:=by unfold nO; rw [if_pos rfl]
   rw [nN] at hR;subst hR;have HFT:=xh hft;have HTV:=xh oG;rw [oG] at f2 KI;have KI:=xh KI;clear h h1 h2 hF nN hft oG JF vB h3 h4;generalize htn:c.table.length=tn at *;have HTN:=xh htn;clear htn;unfold sp at *;go_enter Tryz.func120,Tryz.ntmps120;go_wp2_with fail;refine KW.out.mono ?_;rintro e w1 ⟨rfl,rfl⟩;go_wp2_with fail;refine KI.out.mono ?_;rintro e w1 ⟨rfl,rfl⟩;go_wp2_with fail;refine KF.out.mono ?_;rintro e w1 ⟨rfl,aa,ow⟩;have f2':=aa.f2;have St:=aa.ht
   rw [HFT.out.1,HTN.out] at St;obtain ⟨v',w2,ea,S2,IE,EL⟩:=Ci (P:=Tryz.prog) St 60 60 (.int .i64 0) 8 Tryz.underlying60 gh rfl (.int .i64 id) rfl (by unfold maxLen; omega) (by omega);rw [show cw c.table++[Value.int .i64 id]=cw (c.table++[id]) from by rw [eB]; rfl] at S2;obtain ⟨gg,fu,rr,rfl,BB,_,_⟩:=S2.form (by omega)
   have w2c:w2.cell? ⟨gg,tn,none⟩=some (.int .i64 id):=BB.ab (by rw [←HTN.out,List.getElem?_toArray,List.getElem?_append_left (by simp),eB,List.getElem?_append_right (by simp)]; simp [cw]);have w2z:w2.frozen? ⟨gg,tn,none⟩=false:=BB.frozen _ (by have:=HTN.out; simp; omega);have hlt1:((tn:Nat):Int)<((tn+1:Nat):Int):=by omega
   have hlt2:tn<tn+1:=by omega
   have hadd:=aa.addT id (by rw [HFT.out.1,HTN.out]; exact S2) IE EL (by rw [HFT.out.1,HTN.out]; omega);obtain ⟨g2,z2,A3,o3,fr3⟩:=hadd;rw [HFT.out.1] at A3;obtain ⟨g,cp,hv,ck,z,A4,o4⟩:=A3.jj tn (by show _<(c.table++[id]).length; have:=HTN.out; simp; omega) id;have yi:(c.table++[id]).set tn id=c.table++[id]:=by
    rw [←HTN.out,List.set_append_right _ _ (Nat.le_refl _),Nat.sub_self]; rfl
   have A4:At ((w2.setCell ⟨x.b,2,none⟩ (.slice (some ⟨gg,0,none⟩) (tn+1) fu)).setCell ⟨g,tn,none⟩ (.int .i64 id)) {x with tv:= .slice (some ⟨gg,0,none⟩) (tn+1) fu} n {c1 with table:=c.table++[id]}:=by
    have:=A4;dsimp only at this;rw [yi] at this;exact this
   dsimp only at hv;injection hv with lz nz hv3
   injection lz with lz
   injection lz with lz
   clear nz;subst lz hv3;have eg:x.b≠gg:=BB.jF (aa.hb.only IE (aa.yh aa.ht).1) (by decide) |>.symm;have hne2:gg≠x.b:=eg.symm;have f2'':(w2.setCell ⟨x.b,2,none⟩ (.slice (some ⟨gg,0,none⟩) (tn+1) fu)).cell? ⟨x.b,2,none⟩=some (.slice (some ⟨gg,0,none⟩) (tn+1) fu):=A3.f2;rw [HTV.out] at f2' g2 ea;have EA:=xh ea;have AX:=xh A4;have OX:=xh ((ow.trans o3).aS o4 (fun g hg dL=>(fr3 g hg).elim (fun h=>h) (fun h=>by have:=ow.size; omega)))
   have FX:=xh (show ∀g'∈({x with tv:= .slice (some ⟨gg,0,none⟩) (tn+1) fu}:X).fp,g'∈x.fp∨w.heap.size≤g' from fun g' hg=>(fr3 g' hg).imp (fun h=>h) (fun h=>Nat.le_trans ow.size h));generalize (c.table++[id]).getD tn 0=ov at ck;clear aa ow A3 A4 o3 o4 IE EL St S2 ea yi fr3 BB;go_wp2_with fail;rw [EA.out];go_wp2_with fail;go_ret2;exact ⟨by first | rfl | simp,{x with tv:= .slice (some ⟨gg,0,none⟩) (tn+1) fu},rfl,rfl,AX.out,OX.out,FX.out⟩
 ·rw [if_pos h5] at hR;subst hR;have hq:(er != 0)=true:=by rw [bne_iff_ne]; exact h5
  have h4I: ¬(512:Int)≤(l:Int):=by omega
  by_cases h3:l<c.table.length
  ·rw [if_pos h3] at KI;have KI:=xh KI;have h3I: ¬(l:Int)<0:=by omega
   clear h h1 h2 hF oG;unfold sp at *;go_enter Tryz.func120,Tryz.ntmps120;go_wp2_with fail;refine KW.out.mono ?_;rintro e w1 ⟨rfl,rfl⟩;go_wp2_with fail;refine KI.out.mono ?_;rintro e w1 ⟨rfl,rfl⟩;go_wp2_with fail;refine KF.out.mono ?_;rintro e w1 ⟨rfl,aa,ow⟩;have AX:=xh aa;have OX:=xh ow;clear aa ow;go_wp2_with fail;go_ret2;exact ⟨by first | rfl | simp,.self AX.out OX.out⟩
  ·rw [if_neg h3] at KI;have hlI: ¬(512:Int)≤(c.table.length:Int):=by omega
   have KI:=xh KI;clear h h1 h2 hF;rw [oG] at f2 KI;unfold sp at *;go_enter Tryz.func120,Tryz.ntmps120;go_wp2_with fail;refine KW.out.mono ?_;rintro e w1 ⟨rfl,rfl⟩;go_wp2_with fail;refine KI.out.mono ?_;rintro e w1 ⟨rfl,rfl⟩;go_wp2_with fail;refine KF.out.mono ?_;rintro e w1 ⟨rfl,aa,ow⟩;have AX:=xh aa;have OX:=xh ow;clear aa ow;go_wp2_with fail;go_ret2;exact ⟨by first | rfl | simp,.self AX.out OX.out⟩
end Go.Proofs.YtmonobkginiajaaGreat.Sh
namespace Go.Proofs.YtmonobkginiajaaGreat.Sh
open Go.RowKit Pk Dk Pg
attribute [local go_sem ↓] Go.wp_at_zero Go.wp_at_succ
def CA (e:Int):Int:=if e=13 then 13 else 14
theorem bad_any (e:Int) (w:World):
  Calls Tryz.prog 140 #[.int .i64 e] w fun r w'=>r= .returned (.int .i64 (CA e))∧w=w':=by
 have HB:=xh (rfl:CA e=CA e);obtain ⟨b,hb⟩: ∃b,CA e=b:=⟨_,rfl⟩;rw [hb];unfold CA at hb
 by_cases h:e=13
 ·rw [if_pos h] at hb;subst hb h;go_enter Tryz.func140,Tryz.ntmps140;go_wp2_with fail;go_ret;exact ⟨by first | rfl | simp,rfl⟩
 ·rw [if_neg h] at hb;subst hb;have hq:(e==13)=false:=by rw [beq_eq_false_iff_ne]; exact h
  go_enter Tryz.func140,Tryz.ntmps140;go_wp2_with fail;go_ret;exact ⟨by first | rfl | simp,rfl⟩
def C.aE (c:C) (l:Int):C×Int:=
 if c.gI l≠0 then (c,c.gI l) else ({c with m:=(Fm.cF c.m (c.table.getD l.toNat 0)).1,table:=c.table.set l.toNat (-1)},0)
def C.aD (c:C) (n:Nat) (l:Int):List UInt8×Int:=
 if c.gI l≠0 then ([],c.gI l)
 else if (aQ c.d n (c.table.getD l.toNat 0)).2≠0 then ([],CA (aQ c.d n (c.table.getD l.toNat 0)).2)
 else ((aQ c.d n (c.table.getD l.toNat 0)).1.s,0)
theorem CB {c:C} {l:Int} (h:c.gI l=0):c.broken=false∧0≤l∧l<c.table.length∧0≤c.table.getD l.toNat 0:=by
 unfold C.gI at h
 split at h
 ·simp at h
 ·rename_i hb
  split at h
  ·rename_i hh;unfold C.nm at hh;simp only [Bool.and_eq_true,decide_eq_true_eq] at hh;exact ⟨by simpa using hb,hh.1.1,hh.1.2,hh.2⟩
  ·simp at h
theorem zH {w:World} {x:X} {n:Nat} {c:C} (h:At w x n c) (l:Int):
  Calls Tryz.prog 179 #[sp x.b,.int .i64 l] w fun e w'=>e= .returned (.int .i64 (c.aE l).2)∧At w' x n (c.aE l).1∧ag x.fp w w':=by
 have KA:=lO h l;have HH:=xh h;obtain ⟨R,hR⟩: ∃R,c.aE l=R:=⟨_,rfl⟩;rw [hR];unfold C.aE at hR
 by_cases h1:c.gI l=0
 ·rw [if_neg (by simpa using h1)] at hR;obtain ⟨_,h2,h3,h4⟩:=CB h1;rw [h1] at KA;obtain ⟨k,rfl⟩:=Int.eq_ofNat_of_zero_le h2;have hk:k<c.table.length:=by omega
  rw [show ((k:Nat):Int).toNat=k from by omega] at hR h4;obtain ⟨g,cp,hv,ck⟩:=h.tk k hk;have f1:=h.f1;have f2:=h.f2;rw [hv] at f2;have KL:=Fm.mF h.hm.drew (c.table.getD k 0);have HM:=xh (fun (w':World) (m':List Int) (mm:Fm.cR w' x.mb x.mg m') (ow:ag [x.mg] w.drew w')=>At.map h.drew mm ow);have hg:g∈bA x.tv:=by rw [hv]; simp [bA]; have:=(h.ht.val); obtain ⟨A,cc,e1,e2⟩:=this; rw [hv] at e1; injection e1 with _ _ e3; omega
  have HP:=xh (show ∀w',ag [x.mg] w.drew w'→(w'.cell? ⟨x.b,1,none⟩=some (Fm.mp x.mb)∧w'.cell? ⟨x.b,2,none⟩=some (.slice (some ⟨g,0,none⟩) c.table.length cp)∧w'.cell? ⟨g,k,none⟩=some (.int .i64 (c.table.getD k 0))) from fun w' ho=>by
   have B:=h.hb.drew.only ho (fun hm=>by simp at hm; exact h.hb.jF h.hm.hg (by decide) hm);have T:=h.ht.drew.only ho (fun y hy hm=>by simp at hm; subst hm; exact h.n1 hy);obtain ⟨g',cp',rest,ID,BB,_,_⟩:=T.form (by omega);rw [hv] at ID;injection ID with e1 e2 e3
   injection e1 with e1
   injection e1 with e1
   subst e1;refine ⟨B.ab (i:=1) rfl,?_,BB.ab (by rw [List.getElem?_toArray,List.getElem?_append_left (by simpa using hk),lR _ _ hk])⟩;rw [←hv]; exact B.ab (i:=2) rfl)
  have HK:=xh (show w.drew.cell? ⟨x.b,1,none⟩=some (Fm.mp x.mb)∧w.drew.cell? ⟨x.b,2,none⟩=some (.slice (some ⟨g,0,none⟩) c.table.length cp)∧w.drew.cell? ⟨g,k,none⟩=some (.int .i64 (c.table.getD k 0)) from ⟨f1,f2,ck⟩);have HKL:=xh hk
  have HX:=xh (show ∀w' m',At w' x n {c with m:=m'}→w'.cell? ⟨g,k,none⟩=some (.int .i64 (c.table.getD k 0))∧w'.frozen? ⟨g,k,none⟩=false∧At (w'.setCell ⟨g,k,none⟩ (.int .i64 (-1))) x n {c with m:=m',table:=c.table.set k (-1)}∧ag x.fp w' (w'.setCell ⟨g,k,none⟩ (.int .i64 (-1))) from fun w' m' hh=>by
   obtain ⟨g',cp',ID,ck',z',A',o'⟩:=hh.jj k hk (-1);rw [hv] at ID;injection ID with e1 e2 e3
   injection e1 with e1
   injection e1 with e1
   subst e1;exact ⟨ck',z',A',o'⟩)
  have IF:(k:Int)<(c.table.length:Int):=by omega
  subst hR;generalize c.table.getD k 0=pid at *;generalize (Fm.cF c.m pid).2=le at *;generalize (Fm.cF c.m pid).1=m2 at *;have HQ:=xh hv;clear h h1 f1 f2 ck hv hg h4;generalize c.table.length=tn at *;have KA:=xh KA;unfold sp Fm.mp at *;have KL:=xh KL;go_enter Tryz.func179,Tryz.ntmps179;go_wp2_with fail;refine KA.out.mono ?_;rintro e w1 ⟨rfl,rfl⟩;go_wp2_with fail
  refine wp_region_held_drew (S:=fun W'=>W'.cell? ⟨x.b,1,none⟩=some (.pointer (some ⟨x.mb,0,none⟩))∧W'.cell? ⟨x.b,2,none⟩=some (.slice (some ⟨g,0,none⟩) tn cp)∧W'.cell? ⟨g,k,none⟩=some (.int .i64 pid)) (by kernel_rfl) (HK.out) (fun aj=>?_);refine bR [(0,12),(1,13),(2,14),(3,15),(4,16),(5,17),(6,18),(7,19),(8,20),(9,21),(10,22)] ?_
  iterate 11 (refine zt ?_; try simp only [Act.put,pa,pb,pc])
  refine bS ?_;refine cA (i:=11) (o:=⟨some 23,_,_,_,_,_⟩) fun K hK=>?_;go_simp
  go_at_call 153
  refine KL.out.mono ?_;rintro e w1 ⟨rfl,mm,ow⟩;have A1:=xh (HM.out _ _ mm ow);have OW:=xh ow;have HX1:=xh (HX.out _ _ A1.out);have f2x:=(HP.out _ ow).2.1;have ckx:=HX1.out.1;have zkx:=HX1.out.2.1;have OX:=xh (((ag.refl _ w).drew.trans (ow.mono (S':=x.fp) (fun g hg _=>oV x g hg))).trans HX1.out.2.2.2);clear mm ow;go_simp;refine hK.out _ _ (HP.out _ OW.out) (fun aj=>?_)
  try simp only [Act.put,pa,pb,pc]
  refine wpAnyH_done (by kernel_rfl) ?_ _;go_wp2_with fail;go_ret;exact ⟨by first | rfl | simp,HX1.out.2.2.1,OX.out⟩
 ·rw [if_pos h1] at hR;subst hR;have hq:(c.gI l != 0)=true:=by rw [bne_iff_ne]; exact h1
  have KA:=xh KA;generalize c.gI l=er at *;clear h h1;unfold sp at *;go_enter Tryz.func179,Tryz.ntmps179;go_wp2_with fail;refine KA.out.mono ?_;rintro e w1 ⟨rfl,rfl⟩;go_wp2_with fail;go_ret;exact ⟨by first | rfl | simp,HH.out,ag.refl _ _⟩
end Go.Proofs.YtmonobkginiajaaGreat.Sh
namespace Go.Proofs.YtmonobkginiajaaGreat.Sh
open Go.RowKit Pk Dk Pg
attribute [local go_sem ↓] Go.wp_at_zero Go.wp_at_succ
theorem kq {w:World} {x:X} {n:Nat} {c:C} (h:At w x n c) (l:Int):
  Calls Tryz.prog 228 #[sp x.b,.int .i64 l] w fun e w'=>e= .returned (.tuple #[.string ⟨(c.aD n l).1.toArray⟩,.int .i64 (c.aD n l).2])∧Below w.heap.size w w':=by
 have KA:=lO h l;obtain ⟨R,hR⟩: ∃R,c.aD n l=R:=⟨_,rfl⟩;rw [hR];unfold C.aD at hR
 by_cases h1:c.gI l=0
 ·rw [if_neg (by simpa using h1)] at hR;obtain ⟨_,h2,h3,h4⟩:=CB h1;rw [h1] at KA;obtain ⟨k,rfl⟩:=Int.eq_ofNat_of_zero_le h2;have hk:k<c.table.length:=by omega
  rw [show ((k:Nat):Int).toNat=k from by omega] at hR h4;obtain ⟨g,cp,hv,ck⟩:=h.tk k hk;have IF:(k:Int)<(c.table.length:Int):=by omega
  have HK:=xh (show ∀W',Below w.heap.size w W'→(W'.cell? ⟨x.b,0,none⟩=some (.pointer (some ⟨x.L.b,0,none⟩))∧W'.cell? ⟨x.b,2,none⟩=some (.slice (some ⟨g,0,none⟩) c.table.length cp)∧W'.cell? ⟨g,k,none⟩=some (.int .i64 (c.table.getD k 0))) from fun W' hb=>by
   have h':=h.below hb;obtain ⟨g',cp',ID,ck'⟩:=h'.tk k hk;have e:=hv;rw [ID] at e;injection e with e1 e2 e3
   injection e1 with e1
   injection e1 with e1
   subst e1;exact ⟨h'.f0,by rw [←hv]; exact h'.f2,ck'⟩)
  have OD:=xh (show Below w.heap.size w w.drew from (Below.refl _ _).drew);have KR:=fun (W:World) (hb:Below w.heap.size w W)=>Gn (h.hd.below hb) (c.table.getD k 0);obtain ⟨P,hP⟩: ∃P,aQ c.d n (c.table.getD k 0)=P:=⟨_,rfl⟩;rw [hP] at KR hR;obtain ⟨⟨rid,rep,rkd,rs⟩,er⟩:=P;have KB:=xh (fun w=>bad_any er w);unfold PG.val gl at KR;dsimp only at KR hR;generalize c.table.getD k 0=pid at *;generalize c.table.length=tn at *;unfold dp at KR;have KR:=xh KR;have KA:=xh KA
  clear h h1 hv hP h4 ck;unfold sp at *
  by_cases h5:er=0
  ·rw [if_neg (by simpa using h5)] at hR;subst hR h5;go_enter Tryz.func228,Tryz.ntmps228;go_wp2_with fail;refine KA.out.mono ?_;rintro e w1 ⟨rfl,rfl⟩;go_wp2_with fail;refine wp_region_held_drew (S:=fun W'=>W'.cell? ⟨x.b,0,none⟩=some (.pointer (some ⟨x.L.b,0,none⟩))∧W'.cell? ⟨x.b,2,none⟩=some (.slice (some ⟨g,0,none⟩) tn cp)∧W'.cell? ⟨g,k,none⟩=some (.int .i64 pid)) (by kernel_rfl) (HK.out _ OD.out) (fun aj=>?_)
   refine bR [(0,16),(1,17),(2,18),(3,19),(4,20),(5,21),(6,22),(7,23),(8,24),(9,25),(10,26)] ?_
   iterate 11 (refine zt ?_; try simp only [Act.put,pa,pb,pc])
   refine bS ?_;refine wpAnyH_ready (rs:=[11,15]) (by kernel_rfl) (by simp) ?_;refine AllReadyH.cons (o:=⟨some 27,_,_,_,_,_⟩) rfl (fun K hK=>?_) (AllReadyH.cons (o:=⟨some 7,_,_,_,_,_⟩) rfl (fun K hK=>?_) AllReadyH.nil)
   ·skip
    go_simp
    go_at_call 139
    refine (KR.out _ OD.out).mono ?_;rintro e v1 ⟨rfl,lz⟩;have P1:=xh (ao OD.out lz);clear lz;go_simp;refine hK.out _ _ (HK.out _ P1.out) (fun aj=>?_)
    try simp only [Act.put,pa,pb,pc]
    refine bR [(12,15),(13,28),(14,29)] ?_
    iterate 3 (refine zt ?_; try simp only [Act.put,pa,pb,pc])
    refine bS ?_;refine cA (i:=15) (o:=⟨some 7,_,_,_,_,_⟩) fun K hK=>?_;go_simp;have P2:=xh (ae P1.out (.cells fw 162));refine hK.out _ _ (HK.out _ P2.out) (fun aj=>?_)
    try simp only [Act.put,pa,pb,pc]
    refine cA (i:=16) (o:=⟨none,_,_,_,_,_⟩) fun K hK=>?_;go_simp;have P3:=xh (ae P1.out (.cells #[.int .i64 rid,.int .i64 rep,.int .i64 rkd,.string ⟨rs.toArray⟩] 162));have BX:=xh (ax.new v1 162 #[.int .i64 rid,.int .i64 rep,.int .i64 rkd,.string ⟨rs.toArray⟩]);refine hK.out _ _ (HK.out _ P3.out) (fun aj=>?_)
    try simp only [Act.put,pa,pb,pc]
    refine bR [(17,8)] ?_
    iterate 1 (refine zt ?_; try simp only [Act.put,pa,pb,pc])
    refine bS ?_;refine wpAnyH_done (by kernel_rfl) ?_ _;have y3:=BX.out.ab (i:=3) rfl;go_wp2_with fail;go_ret2;exact ⟨by first | rfl | simp,P3.out⟩
   ·skip
    go_simp;have P1:=xh (ae OD.out (.cells fw 162));have BX0:=xh (show ax (w.drew.alloc (.cells fw 162)) w.heap.size 162 fw from ax.new w.drew 162 fw);refine hK.out _ _ (HK.out _ P1.out) (fun aj=>?_)
    try simp only [Act.put,pa,pb,pc]
    refine cA (i:=11) (o:=⟨some 27,_,_,_,_,_⟩) fun K hK=>?_;go_simp
    go_at_call 139
    refine (KR.out _ P1.out).mono ?_;rintro e v1 ⟨rfl,lz⟩;have P2:=xh (ao P1.out lz);have yj:=xh (BX0.out.below lz BX0.out.lt);clear lz;have z0:=yj.out.frozen 0 (by simp);have z1:=yj.out.frozen 1 (by simp);have z2:=yj.out.frozen 2 (by simp);have z3:=yj.out.frozen 3 (by simp);have c0:=yj.out.ab (i:=0) rfl;have c1:=yj.out.ab (i:=1) rfl;have c2:=yj.out.ab (i:=2) rfl;have c3:=yj.out.ab (i:=3) rfl;go_simp
    refine hK.out _ _ (HK.out _ P2.out) (fun aj=>?_)
    try simp only [Act.put,pa,pb,pc]
    refine bR [(12,15),(13,28),(14,29)] ?_
    iterate 3 (refine zt ?_; try simp only [Act.put,pa,pb,pc])
    refine bS ?_;refine cA (i:=16) (o:=⟨none,_,_,_,_,_⟩) fun K hK=>?_;go_simp;have P3:=xh (dO P2.out (Nat.le_refl _) rid rep rkd ⟨rs.toArray⟩);have BX:=xh (jG yj.out rfl rid rep rkd ⟨rs.toArray⟩);refine hK.out _ _ (HK.out _ P3.out) (fun aj=>?_)
    try simp only [Act.put,pa,pb,pc]
    refine bR [(17,8)] ?_
    iterate 1 (refine zt ?_; try simp only [Act.put,pa,pb,pc])
    refine bS ?_;refine wpAnyH_done (by kernel_rfl) ?_ _;have y3:=BX.out.ab (i:=3) rfl;go_wp2_with fail;go_ret2;exact ⟨by first | rfl | simp,P3.out⟩
  ·rw [if_pos h5] at hR;have hq:(er != 0)=true:=by rw [bne_iff_ne]; exact h5
   subst hR;clear h5;generalize CA er=be at *;go_enter Tryz.func228,Tryz.ntmps228;go_wp2_with fail;refine KA.out.mono ?_;rintro e w1 ⟨rfl,rfl⟩;go_wp2_with fail;refine wp_region_held_drew (S:=fun W'=>W'.cell? ⟨x.b,0,none⟩=some (.pointer (some ⟨x.L.b,0,none⟩))∧W'.cell? ⟨x.b,2,none⟩=some (.slice (some ⟨g,0,none⟩) tn cp)∧W'.cell? ⟨g,k,none⟩=some (.int .i64 pid)) (by kernel_rfl) (HK.out _ OD.out) (fun aj=>?_)
   refine bR [(0,16),(1,17),(2,18),(3,19),(4,20),(5,21),(6,22),(7,23),(8,24),(9,25),(10,26)] ?_
   iterate 11 (refine zt ?_; try simp only [Act.put,pa,pb,pc])
   refine bS ?_;refine wpAnyH_ready (rs:=[11,15]) (by kernel_rfl) (by simp) ?_;refine AllReadyH.cons (o:=⟨some 27,_,_,_,_,_⟩) rfl (fun K hK=>?_) (AllReadyH.cons (o:=⟨some 7,_,_,_,_,_⟩) rfl (fun K hK=>?_) AllReadyH.nil)
   ·skip
    go_simp
    go_at_call 139
    refine (KR.out _ OD.out).mono ?_;rintro e v1 ⟨rfl,lz⟩;have P1:=xh (ao OD.out lz);clear lz;go_simp;refine hK.out _ _ (HK.out _ P1.out) (fun aj=>?_)
    try simp only [Act.put,pa,pb,pc]
    refine bR [(12,15),(13,28),(14,29)] ?_
    iterate 3 (refine zt ?_; try simp only [Act.put,pa,pb,pc])
    refine bS ?_;refine cA (i:=15) (o:=⟨some 7,_,_,_,_,_⟩) fun K hK=>?_;go_simp;have P2:=xh (ae P1.out (.cells fw 162));refine hK.out _ _ (HK.out _ P2.out) (fun aj=>?_)
    try simp only [Act.put,pa,pb,pc]
    refine cA (i:=16) (o:=⟨none,_,_,_,_,_⟩) fun K hK=>?_;go_simp;have P3:=xh (ae P1.out (.cells #[.int .i64 rid,.int .i64 rep,.int .i64 rkd,.string ⟨rs.toArray⟩] 162));have BX:=xh (ax.new v1 162 #[.int .i64 rid,.int .i64 rep,.int .i64 rkd,.string ⟨rs.toArray⟩]);refine hK.out _ _ (HK.out _ P3.out) (fun aj=>?_)
    try simp only [Act.put,pa,pb,pc]
    refine bR [(17,8)] ?_
    iterate 1 (refine zt ?_; try simp only [Act.put,pa,pb,pc])
    refine bS ?_;refine wpAnyH_done (by kernel_rfl) ?_ _;go_wp2_with fail;refine (KB.out _).mono ?_;rintro e wz ⟨rfl,rfl⟩;go_wp2_with fail;go_ret2;exact ⟨by first | rfl | simp,P3.out⟩
   ·skip
    go_simp;have P1:=xh (ae OD.out (.cells fw 162));have BX0:=xh (show ax (w.drew.alloc (.cells fw 162)) w.heap.size 162 fw from ax.new w.drew 162 fw);refine hK.out _ _ (HK.out _ P1.out) (fun aj=>?_)
    try simp only [Act.put,pa,pb,pc]
    refine cA (i:=11) (o:=⟨some 27,_,_,_,_,_⟩) fun K hK=>?_;go_simp
    go_at_call 139
    refine (KR.out _ P1.out).mono ?_;rintro e v1 ⟨rfl,lz⟩;have P2:=xh (ao P1.out lz);have yj:=xh (BX0.out.below lz BX0.out.lt);clear lz;have z0:=yj.out.frozen 0 (by simp);have z1:=yj.out.frozen 1 (by simp);have z2:=yj.out.frozen 2 (by simp);have z3:=yj.out.frozen 3 (by simp);have c0:=yj.out.ab (i:=0) rfl;have c1:=yj.out.ab (i:=1) rfl;have c2:=yj.out.ab (i:=2) rfl;have c3:=yj.out.ab (i:=3) rfl;go_simp
    refine hK.out _ _ (HK.out _ P2.out) (fun aj=>?_)
    try simp only [Act.put,pa,pb,pc]
    refine bR [(12,15),(13,28),(14,29)] ?_
    iterate 3 (refine zt ?_; try simp only [Act.put,pa,pb,pc])
    refine bS ?_;refine cA (i:=16) (o:=⟨none,_,_,_,_,_⟩) fun K hK=>?_;go_simp;have P3:=xh (dO P2.out (Nat.le_refl _) rid rep rkd ⟨rs.toArray⟩);have BX:=xh (jG yj.out rfl rid rep rkd ⟨rs.toArray⟩);refine hK.out _ _ (HK.out _ P3.out) (fun aj=>?_)
    try simp only [Act.put,pa,pb,pc]
    refine bR [(17,8)] ?_
    iterate 1 (refine zt ?_; try simp only [Act.put,pa,pb,pc])
    refine bS ?_;refine wpAnyH_done (by kernel_rfl) ?_ _;go_wp2_with fail;refine (KB.out _).mono ?_;rintro e wz ⟨rfl,rfl⟩;go_wp2_with fail;go_ret2;exact ⟨by first | rfl | simp,P3.out⟩
 ·rw [if_pos h1] at hR;subst hR;have hq:(c.gI l != 0)=true:=by rw [bne_iff_ne]; exact h1
  have KA:=xh KA;generalize c.gI l=er at *;clear h h1;unfold sp at *;go_enter Tryz.func228,Tryz.ntmps228;go_wp2_with fail;refine KA.out.mono ?_;rintro e w1 ⟨rfl,rfl⟩;go_wp2_with fail;go_ret2;exact ⟨by first | rfl | simp,Below.refl _ _⟩
end Go.Proofs.YtmonobkginiajaaGreat.Sh
namespace Go.Proofs.YtmonobkginiajaaGreat.Sh
open Go.RowKit Pk Dk Pg
attribute [local go_sem ↓] Go.wp_at_zero Go.wp_at_succ aX
def rY (t:List Int):Nat→List Int
 | 0=>[]
 | k+1=>rY t k++if 0≤t.getD k 0 then [(k:Int)] else []
theorem JG (t:List Int): ∀k,(rY t k).length≤k
 | 0=>Nat.le_refl _
 | k+1=>by
  have:=JG t k;unfold rY;rw [List.length_append]
  split<;>simp<;>omega
theorem CC {w:World} {x:X} {n:Nat} {c:C} (h:At w x n c):
  Calls Tryz.prog 29 #[sp x.b] w fun e w'=> ∃A cc,e= .returned (.slice A (rY c.table c.table.length).length cc)∧aG w' 3 1 (.slice A (rY c.table c.table.length).length cc) (rY c.table c.table.length).length (cw (rY c.table c.table.length))∧Below w.heap.size w w':=by
 have f2:=h.f2;have tl:=h.tl;obtain ⟨TA,tc,oG,htc⟩:=h.ht.val;rw [oG] at f2;have HT:=xh (fun (k:Nat) (hk:k<c.table.length) (W:World) (hb:Below w.heap.size w W)=>(h.below hb).tk k hk);have HV:=xh oG;obtain ⟨t,ht⟩: ∃t,c.table=t:=⟨_,rfl⟩;rw [ht] at f2 tl htc HT HV ⊢;obtain ⟨tn,htn⟩: ∃tn,t.length=tn:=⟨_,rfl⟩;rw [htn] at f2 tl htc HT HV ⊢;clear h oG ht htn;unfold sp at *;go_enter Tryz.func29,Tryz.ntmps29;go_wp2_with fail
 go_loopw [3,14] (fun bv iv wr=> ∃k:Nat,k≤tn∧iv= .int .i64 k∧aG wr 3 1 bv (rY t k).length (cw (rY t k))∧Hid (Below w.heap.size w wr)∧Hid (∀g∈ah bv,w.heap.size≤g)) (fun _ iv _=>tn-(intOf iv).toNat)
 case atStart=>exact ⟨0,Nat.zero_le _,rfl,aG.nil _ _ _,xh (Below.refl _ _),xh (by simp [ah])⟩
 case round=>
  obtain ⟨k,hk,rfl,S,O,F⟩:=hrel;have hle:=JG t k;obtain ⟨VA,vc,rfl⟩:=aq S
  by_cases h':k<tn
  ·have IF:(k:Int)<(tn:Int):=by omega
   obtain ⟨g,cp,hv,ck⟩:=HT.out k h' wr O.out;rw [HV.out] at hv;injection hv with e1 e2 e3
   subst e1 e3;obtain ⟨u,hu⟩: ∃u,t.getD k 0=u:=⟨_,rfl⟩;rw [hu] at ck
   by_cases hpos:0≤u
   ·have wH:rY t (k+1)=rY t k++[(k:Int)]:=by
     show rY t k++_=_;rw [hu,if_pos hpos]
    obtain ⟨v',w2,ea,S2,ow,fr⟩:=cd (P:=Tryz.prog) S 60 60 (.int .i64 0) 8 Tryz.underlying60 gh rfl (.int .i64 (k:Int)) rfl (by unfold maxLen; omega) (by omega);obtain ⟨V2,fu,rfl⟩:=aq S2;have hlen:(rY t (k+1)).length=(rY t k).length+1:=by rw [wH]; simp
    have EA:=xh ea;have SX:=xh (show aG w2 3 1 (.slice V2 ((rY t k).length+1) fu) (rY t (k+1)).length (cw (rY t (k+1))) from by
     rw [hlen,wH,eB]; exact S2)
    have OX:=xh (O.out.trans (ow.ay O.out.size F.out));have FX:=xh (show ∀g'∈ah (.slice V2 ((rY t k).length+1) fu),w.heap.size≤g' from fun g' hg=>(fr g' hg).elim (F.out g') (fun h=>Nat.le_trans O.out.size h));clear ea S2 ow fr S wH hlen hu;generalize (rY t k).length=pl at *;go_wp2_with fail;rw [EA.out];go_wp2_with fail;go_roundw
    case rel=>exact ⟨k+1,by omega,by go_num,SX.out,OX,FX⟩
    case measure=>simp [intOf]; omega
   ·have wH:rY t (k+1)=rY t k:=by
     show rY t k++_=_;rw [hu,if_neg hpos,List.append_nil]
    have SX:=xh S;have HN:=xh wH;clear S wH hu;go_wp2_with fail;go_roundw
    case rel=>exact ⟨k+1,by omega,by go_num,by rw [HN.out]; exact SX.out,O,F⟩
    case measure=>simp [intOf]; omega
  ·obtain rfl:k=tn:=by omega
   have SX:=xh S;clear S;go_wp2_with fail;go_ret;exact ⟨_,_,by first | rfl | simp,SX.out,O.out⟩
end Go.Proofs.YtmonobkginiajaaGreat.Sh
namespace Go.Proofs.YtmonobkginiajaaGreat.Sh
open Go.RowKit Pk Dk Pg
attribute [local go_sem ↓] Go.wp_at_zero Go.wp_at_succ
def dU:List UInt8:=Rt.dF 1 0 []
def EM (d:D) (n:Nat):D:=(((d.ar n 0 dU).1.ar n 1 []).1.db).1
def de (d:D) (n:Nat):C:={d:=EM d n,m:=List.replicate (dJ n) 0,table:=[],bE:=[],parts:=[],ep:=1,slot:=0,broken:=false}
theorem kt {d:D} (hd:d.down=false) (ha:d.aP=0):d.db.2=0∧d.db.1.down=false∧d.db.1.aP=0∧d.db.1.now=d.now:=by
 obtain ⟨c1,c2,c3⟩:=rm d ha;unfold D.db;rw [if_neg (by simp [hd]),if_pos c1];exact ⟨rfl,c3.trans hd,c2,wE d⟩
theorem JH:Rt.eQ 1 ((0:Nat):Int) (Rt.cD []):=by
 refine ⟨by omega,by omega,by omega,by omega,by decide,?_⟩;intro i x hx;simp [Rt.cD] at hx
theorem CD {w:World} {L:Dk.Loc} {n:Nat} {d:D} (h:aI w L n d) (hp:1≤dJ n) (hd:d.down=false) (ha:d.aP=0) (hc:d.calls≤1000):
  Calls Tryz.prog 53 #[dp L.b] w fun e w'=> ∃x,x.L=L∧e= .returned (.tuple #[sp x.b,.int .i64 0])∧At w' x n (de d n)∧ag L.fp w w'∧ ∀g∈x.fp,g∈L.fp∨w.heap.size≤g:=by
 have hn:=h.ok.small;have I0:6≤n:=by unfold dJ bC at hp; omega
 have IG:=h.ok.calls;have EP:dJ n≤1024:=by unfold dJ; omega
 have w1f:=fO (n:=n) (k:=0) hd ha (by omega) dU;have w2f:=fO (n:=n) (k:=1) w1f.2.1 w1f.2.2 (by omega) [];have sf:=kt w2f.2.1 w2f.2.2;have b1:=gf d n ((0:Nat):Int) dU (by omega);have b2:=gf (d.ar n ((0:Nat):Int) dU).1 n ((1:Nat):Int) [] b1.2;have KP:=xh (fun w' (hb:Below w.heap.size w w')=>Gq (h.below hb));have KN:=xh (fun w=>Fm.xZ (dJ n) w EP)
 have KR:=xh (fun w=>Rt.zC (w:=w) 1 0 none 0 0 [] ⟨rfl,fun k x hx=>by simp [Rt.cD] at hx⟩ (Nat.le_refl _) JH);have HD:=xh h;have nB:=xh (fun g hg=>h.lt g hg);have O1:=xh (ae (Below.refl w.heap.size w) (.cells #[dp L.b,.pointer none,.slice none 0 0,.slice none 0 0,.slice none 0 0,.int .i64 1,.int .i64 0,.bool false] 146))
 have B1:=xh (ax.new w 146 #[dp L.b,.pointer none,.slice none 0 0,.slice none 0 0,.slice none 0 0,.int .i64 1,.int .i64 0,.bool false]);have hpz:((dJ n:Nat):Int)≠0:=by omega
 have hpq:(((dJ n:Nat):Int)==0)=false:=by rw [beq_eq_false_iff_ne]; exact hpz
 have KP0:=KP.out w (Below.refl _ _);have e1:(⟨dU.toArray⟩:ByteArray).data.toList=dU:=by simp
 have e2:(⟨#[]⟩:ByteArray).data.toList=([]:List UInt8):=by simp
 have c1:=gf d n 0 dU (by omega);have c2:=gf (d.ar n 0 dU).1 n 1 [] c1.2;have v1:(d.ar n 0 dU).2=0:=w1f.1;have v2:((d.ar n 0 dU).1.ar n 1 []).2=0:=w2f.1;have v3:((d.ar n 0 dU).1.ar n 1 []).1.db.2=0:=sf.1;have KW1:=xh (fun (W:World) (hW:aI W L n d)=>ix hW 0 ⟨dU.toArray⟩ (by omega) (by omega));have KW2:=xh (fun (W:World) (hW:aI W L n (d.ar n 0 dU).1)=>ix hW 1 ⟨#[]⟩ (by omega) (by omega))
 have KS:=xh (fun (W:World) (hW:aI W L n ((d.ar n 0 dU).1.ar n 1 []).1)=>sS hW (by omega) (by omega));rw [e1,v1] at KW1;rw [e2,v2] at KW2;rw [v3] at KS;have HFD:EM d n=((d.ar n 0 dU).1.ar n 1 []).1.db.1:=rfl;have KR:=xh (show ∀w:World,Calls Tryz.prog 102 #[.agg #[.int .i64 1,.int .i64 0,.slice none 0 0]] w fun e w'=>e= .returned (.tuple #[.string ⟨dU.toArray⟩,.int .i64 0])∧Below w.heap.size w w' from KR.out)
 have hfc:de d n={d:=EM d n,m:=List.replicate (dJ n) 0,table:=[],bE:=[],parts:=[],ep:=1,slot:=0,broken:=false}:=rfl;rw [hfc];clear hfc;generalize EM d n=dz at *;generalize ((d.ar n 0 dU).1.ar n 1 []).1.db.1=dy at *;subst HFD;generalize ((d.ar n 0 dU).1.ar n 1 []).1=dx at *;generalize (d.ar n 0 dU).1=dw at *;generalize dU=rt at *;clear w1f w2f sf b1 b2 c1 c2 v1 v2 v3 e1 e2;generalize dJ n=pn at *;unfold dp Fm.mp Rt.wG at *
 have KP0:=xh KP0;clear h hpz;go_enter Tryz.func53,Tryz.ntmps53;go_wp2_with fail;refine KP0.out.mono ?_;rintro e w1 ⟨rfl,rfl⟩;go_wp2_with fail;refine (KP.out _ O1.out).mono ?_;rintro e w1 ⟨rfl,rfl⟩;go_wp2_with fail;refine (KN.out _).mono ?_;rintro e w2 ⟨mb,mg,rfl,mm,bT,h1,h2⟩;have B2:=xh (B1.out.below bT B1.out.lt);have O2:=xh (ao O1.out bT);have O3:=xh (Below.setCell O2.out (p:=⟨w.heap.size,1,none⟩) (Nat.le_refl _) (.pointer (some ⟨mb,0,none⟩)))
 have n1:w.heap.size≠mg:=by have:=h2; simp only [World.size_alloc] at this; omega
 have n2:w.heap.size≠mb:=by have:=h1; simp only [World.size_alloc] at this; omega
 have g1:w.heap.size≤mb:=by have:=h1; simp only [World.size_alloc] at this; omega
 have g2:w.heap.size≤mg:=by have:=h2; simp only [World.size_alloc] at this; omega
 have M3:=xh (mm.only (S:=[w.heap.size]) ((ag.refl _ w2).setCell (p:=⟨w.heap.size,1,none⟩) (by simp) (.pointer (some ⟨mb,0,none⟩))) (by simpa using n2.symm) (by simpa using n1.symm));have B3:=xh (B2.out.bq 1 (.pointer (some ⟨mb,0,none⟩)));have q0:=B2.out.ab (i:=1) rfl;have q1:=B2.out.frozen 1 (by simp);clear bT h1 h2 mm;go_wp2_with fail;generalize w2.setCell ⟨w.heap.size,1,none⟩ (.pointer (some ⟨mb,0,none⟩))=w3 at *;clear q0 q1;refine (KR.out _).mono ?_
 rintro e w4 ⟨rfl,fM⟩;have O4:=xh (ao O3.out fM);have M4:=xh (M3.out.below fM);have B4:=xh (B3.out.below fM B3.out.lt);have U4:=xh (ae (Below.refl w4.heap.size w4) (.cells #[.string ⟨rt.toArray⟩,.string ⟨#[]⟩] 9));have T4:=xh (ax.new w4 9 #[.string ⟨rt.toArray⟩,.string ⟨#[]⟩]);have nT:w4.heap.size∉L.fp:=fun hg=>by have:=nB.out _ hg; have:=O4.out.size; omega
 have nT:=xh nT;have H5:=xh (HD.out.below (ao O4.out U4.out));have t0:=T4.out.ab (i:=0) rfl;clear fM;go_wp2_with fail;refine wp_loop_rounds 3 ?_;rw [rounds_succ];go_wp2_with fail;refine (KW1.out _ H5.out).mono ?_;rintro e w6 ⟨rfl,H6,O6⟩;have T6:=xh (T4.out.only O6 nT.out);have t1:=T6.out.ab (i:=1) rfl;have H6:=xh H6;have O6:=xh O6;clear t0;go_wp2_with fail;rw [rounds_succ];go_wp2_with fail;refine (KW2.out _ H6.out).mono ?_;rintro e w7 ⟨rfl,H7,O7⟩
 have H7:=xh H7;have O7:=xh O7;clear t1;go_wp2_with fail;rw [rounds_succ];go_wp2_with fail;refine (KS.out _ H7.out).mono ?_;rintro e w8 ⟨rfl,H8,O8⟩;have H8:=xh H8;have O8:=xh O8;go_wp2_with fail;go_ret2;have nb: ∀g,w.heap.size≤g→g∉L.fp:=fun g hg hm=>by have:=nB.out _ hm; omega
 have O5:=ao O4.out U4.out;have A5:ag L.fp w _:=ag.ak O5;have A8:=((A5.trans O6.out).trans O7.out).trans O8.out;have A58:=((O6.out).trans O7.out).trans O8.out;refine ⟨⟨w.heap.size,L,mb,mg,.slice none 0 0,.slice none 0 0,.slice none 0 0⟩,rfl,by first | rfl | simp [sp],⟨?_,H8.out,?_,Sl.nil _ _,Sl.nil _ _,.inl (Sl.nil _ _),by simp [bA],by simp [bA],by simp [bA],by simp [bA],by simp [bA],by simp [bA],by simp⟩,A8,?_⟩
 ·exact (((B4.out.below U4.out B4.out.lt).only A58 (nb _ (Nat.le_refl _))))
 ·exact ((M4.out.below U4.out).only A58 (nb _ g1) (nb _ g2))
 ·intro g hg;simp only [X.fp,List.mem_cons,List.mem_append] at hg
  rcases hg with rfl | rfl | rfl | ((hg | hg) | hg) | hg
  ·exact .inr (Nat.le_refl _)
  ·exact .inr g1
  ·exact .inr g2
  ·exact .inl hg
  ·simp [bA] at hg
  ·simp [bA] at hg
  ·simp [bA] at hg
theorem cv {w:World} {e t:TypeId} {k:Nat} {v:Value} {n b:Nat} {l:List Value} {cs:Array Value} (h:aG w e k v n l) (B:ax w b t cs) (eg:t≠e):b∉ah v:=by
 rcases h.2 with ⟨rfl,_⟩ | ⟨g,cap,rest,rfl,BB,_⟩
 ·simp [ah]
 ·simp only [ah,List.mem_singleton];exact B.jF BB eg
end Go.Proofs.YtmonobkginiajaaGreat.Sh
