/- packed. -/
import Derived.Test.YtmonobkginiajaaGreatQ9
import Derived.Test.YtmonobkginiajaaGreatQ10
import Derived.Test.YtmonobkginiajaaGreatQ4
import Derived.Test.YtmonobkginiajaaGreatQ3
set_option linter.all false
set_option maxRecDepth 100000
set_option maxHeartbeats 8000000
namespace Go.Proofs.YtmonobkginiajaaGreat.Sh
open Go.RowKit Pk Dk Pg
theorem J3 (a b:Int) (l:List Int) (i:Nat) (hi:i<l.length):(Fm.iP a b l).getD i 0=Fm.kX a b (l.getD i 0):=by
 unfold Fm.iP;simp only [List.getD,List.getElem?_map,List.getElem?_eq_getElem hi,Option.map_some,Option.getD_some]
theorem tK {c:C} {n:Nat} (g:Good c n) {k:Nat} (hk:k<c.m.length) (p:List UInt8) (hp:p.length≤232):
  (aO c.d n k (c.ep+1) 2 p).2=0∧ ∀d',d'=(aO c.d n k (c.ep+1) 2 p).1→d'.down=false∧d'.aP=0∧d'.Ok n∧d'.calls≤c.d.calls+4∧aQ d' n k=(⟨k,c.ep+1,2,dA p 232⟩,0)∧
   ∀x:Int,0≤x→x<c.m.length→x≠k→aQ d' n x=aQ c.d n x:=by
 have e:=g.ep;obtain ⟨h1,h2,h3,h4,h5⟩:=jI g.ok g.up g.arm k (c.ep+1) 2 p (gR g hk) (by rw [kR]; omega) hp;refine ⟨h1,fun d' hd=>?_⟩;subst hd;refine ⟨h2,h3,nP g.ok _ _ _ _,(mD _ _ _ _ _ _ (by rw [g.arm]; omega)).1,h4,fun x hx hx1 eg=>?_⟩;have:=h5 x.toNat (gR g (by omega)) (by omega)
 rwa [show ((x.toNat:Nat):Int)=x by omega] at this
theorem Db {c:C} {n:Nat} (g:Good c n) {x:Nat} (hx:x<c.m.length) (ht:(x:Int)∈c.table):Fm.bu c.m (x:Int)=decide ((x:Int)∉c.bE):=by
 unfold Fm.bu;rw [show Fm.vL c.m (x:Int)=true from by unfold Fm.vL; simp; omega,show ((x:Nat):Int).toNat=x by omega,g.md x hx];unfold bW;rw [if_neg (fun h=>(g.dt _ h).1 ht)]
 by_cases ho:(x:Int)∈c.bE
 ·simp [ho,ht]
 ·simp [ho,ht]
theorem rA {α β:Type} (f f':α→β) (t:List α) (k:Nat) (u:α) (v:β) (hu:f' u=v) (h: ∀i x,t[i]?=some x→i≠k→f' x=f x):(t.set k u).map f'=(t.map f).set k v:=by
 apply List.ext_getElem?;intro i;rw [List.getElem?_map,List.getElem?_set,List.getElem?_set,List.getElem?_map,List.length_map]
 by_cases e:k=i
 ·subst e;rw [if_pos rfl,if_pos rfl]
  by_cases hl:k<t.length
  ·rw [if_pos hl,if_pos hl,Option.map_some,hu]
  ·rw [if_neg hl,if_neg hl]; rfl
 ·rw [if_neg e,if_neg e]
  cases hx:t[i]? with
  | none=>rfl
  | some x=>rw [Option.map_some,Option.map_some,h i x hx (fun h=>e h.symm)]
theorem Dc {c:C} {n:Nat} (g:Good c n) (l:Int) (p:List UInt8):
  Good (c.ar n l p).1 n∧(c.ar n l p).1.bn n=((c.bn n).ar l p).1∧(c.ar n l p).2=((c.bn n).ar l p).2∧(c.ar n l p).1.d.calls≤c.d.calls+4:=by
 obtain ⟨h1,h2⟩:=ss g l;unfold C.ar St.ar;rw [if_neg (by rw [g.br]; simp),tC g]
 by_cases hp:232<p.length
 ·rw [if_pos hp,if_pos hp];exact ⟨g,rfl,rfl,by show c.d.calls≤_; omega⟩
 rw [if_neg hp,if_neg hp]
 by_cases hh:c.nm l=true
 ·obtain ⟨k,x,rfl,hk,hx,e⟩:=h2 hh;have ET:x<c.m.length:=by omega
  have hxt:=List.mem_of_getElem? hk;have e2:c.table.getD ((k:Nat):Int).toNat 0=(x:Int):=by rw [show ((k:Nat):Int).toNat=k by omega]; simp [List.getD,hk]
  rw [if_pos hh,if_neg (show ¬(0:Int)≠0 by simp),if_neg (show ¬ ¬((c.bn n).at ((k:Nat):Int)).isSome=true by rw [h1.1 hh]; simp),e2,e,show ((k:Nat):Int).toNat=k by omega];have vB:c.cy n (x:Int)=some (decide ((x:Int)∉c.bE),(aQ c.d n x).1.s):=by unfold C.cy; rw [if_neg (by omega)]
  rw [vB,Db g ET hxt];have y9:=g.ep
  by_cases ho:(x:Int)∈c.bE
  ·rw [if_neg (show ¬decide ((x:Int)∉c.bE)=true by simp [ho])]
   by_cases hf:(c.bn n).free=0
   ·have ym:c.bu n p=(c,0,11):=by unfold C.bu; rw [qk g hf,if_pos (by simp)]
    rw [ym];dsimp only;rw [if_pos (show (11:Int)≠0 by decide),if_pos (show (dZ (some (decide ((x:Int)∉c.bE),(aQ c.d n x).1.s))=false∧(c.bn n).free=0) from ⟨by simp [dZ,ho],hf⟩)];exact ⟨g,rfl,rfl,by show c.d.calls≤_; omega⟩
   ·rw [if_neg (show ¬(dZ (some (decide ((x:Int)∉c.bE),(aQ c.d n x).1.s))=false∧(c.bn n).free=0) from fun h=>hf h.2)];obtain ⟨j,hj,h0,ht⟩:=qh g hf;obtain ⟨z1,z2,z3⟩:=zL h0;obtain ⟨W0,W⟩:=tK g hj p (by omega);have ym:c.bu n p=({c with m:=c.m.set j 2,d:=(aO c.d n j (c.ep+1) 2 p).1},(j:Int),0):=by
     unfold C.bu;rw [ht,if_neg (by simp),if_neg (by rw [W0]; simp)]
    rw [ym];dsimp only;rw [if_neg (show ¬(0:Int)≠0 by simp)];obtain ⟨w1,w2,w3,w4,w5,w6⟩:=W _ rfl;generalize (aO c.d n j (c.ep+1) 2 p).1=d' at *;have hjx:j≠x:=fun e=>z3 (by rw [e]; exact hxt);have hlv:(Fm.cF (c.m.set j 2) (x:Int)).1=(c.m.set j 2).set x 3:=by
     unfold Fm.cF;rw [show Fm.vL (c.m.set j 2) (x:Int)=true from by unfold Fm.vL; simp; omega,if_pos rfl,show ((x:Nat):Int).toNat=x by omega,gS _ _ _ _ ET,if_neg hjx,g.md x ET];unfold bW;rw [if_neg (fun h=>(g.dt _ h).1 hxt),if_pos ho,if_pos hxt];simp
    dsimp only;rw [hlv];have mt: ∀y:Int,0≤y→(y∈c.table.set k (j:Int)↔y=j∨(y∈c.table∧y≠x)):=by
     intro y hy
     constructor
     ·intro hm;obtain ⟨i,hi⟩:=List.getElem?_of_mem hm;rw [List.getElem?_set] at hi
      by_cases e3:k=i
      ·rw [if_pos e3] at hi
       split at hi
       ·injection hi with hi; exact .inl hi.symm
       ·cases hi
      ·rw [if_neg e3] at hi;exact .inr ⟨List.mem_of_getElem? hi,fun e4=>e3 (g.tj k i y (by rw [e4]; exact hk) hi hy)⟩
     ·rintro (rfl | ⟨hm,eg⟩)
      ·have gw:k<c.table.length:=(List.getElem?_eq_some_iff.1 hk).1;exact List.mem_of_getElem? (show (c.table.set k (j:Int))[k]?=some (j:Int) by rw [List.getElem?_set_self gw])
      ·obtain ⟨i,hi⟩:=List.getElem?_of_mem hm;have:(c.table.set k (j:Int))[i]?=some y:=by
        rw [List.getElem?_set,if_neg (fun e3=>eg (by subst e3; rw [hk] at hi; injection hi with hi; exact hi.symm))];exact hi
       exact List.mem_of_getElem? this
    have hrd: ∀y∈c.table,0≤y→aQ d' n y=aQ c.d n y:=fun y hy h0=>by
     have:=g.ti y hy;exact w6 y h0 (by omega) (fun e3=>z3 (by rw [←e3]; exact hy))
    have J4: ∀y∈c.bE,0≤y→aQ d' n y=aQ c.d n y:=fun y hy h0=>by
     have:=g.oi y hy;exact w6 y h0 (by omega) (fun e3=>z2 (by rw [←e3]; exact hy))
    have yr: ∀y:Int,y<0→y∈c.table.set k (j:Int)→y∈c.table:=fun y hy hm=>by
     rcases List.mem_or_eq_of_mem_set hm with h | h
     ·exact h
     ·omega
    refine ⟨⟨w1,w2,g.br,w3,by show ((c.m.set j 2).set x 3).length=_; rw [List.length_set,List.length_set]; exact g.ml,g.ep,g.sl,?_,?_,?_,?_,g.oj,g.pj,?_,g.pl,?_,?_,?_,?_⟩,?_,rfl,w4⟩
    ·intro y hy;show y= -1∨0≤y∧y<(((c.m.set j 2).set x 3).length:Int);rw [List.length_set,List.length_set]
     by_cases h0:0≤y
     ·rcases (mt y h0).1 hy with rfl | ⟨h,_⟩
      ·omega
      ·exact g.ti y h
     ·exact g.ti y (yr y (by omega) hy)
    ·intro y hy;show y= -1∨0≤y∧y<(((c.m.set j 2).set x 3).length:Int);rw [List.length_set,List.length_set];exact g.oi y hy
    ·intro y hy;show 0≤y∧y<(((c.m.set j 2).set x 3).length:Int);rw [List.length_set,List.length_set];exact g.pi y hy
    ·exact g.tj.bq k _ (.inr z3)
    ·intro y hy;refine ⟨fun hm=>?_,(g.dt y hy).2⟩
     rcases (mt y (g.pi y hy).1).1 hm with rfl | ⟨h,_⟩
     ·exact z1 hy
     ·exact (g.dt y hy).1 h
    ·intro i y hi hy hyo;have hi:(c.table.set k (j:Int))[i]?=some y:=hi;rw [List.getElem?_set] at hi
     split at hi
     ·split at hi
      ·injection hi with hi
       subst hi;exact absurd hyo z2
      ·cases hi
     ·exact g.sm i y hi hy hyo
    ·intro i hi;have hi:i<c.m.length:=by simpa using hi
     show ((c.m.set j 2).set x 3).getD i 0=bW _ (i:Int);rw [gS _ _ _ _ (by rw [List.length_set]; exact hi),gS _ _ _ _ hi];have hk2:bW {c with d:=d',m:=(c.m.set j 2).set x 3,table:=c.table.set k (j:Int)} (i:Int)=if (i:Int)∈c.parts then 1 else if (i:Int)∈c.bE then (if (i:Int)∈c.table.set k (j:Int) then 1 else 3) else if (i:Int)∈c.table.set k (j:Int) then 2 else 0:=rfl
     rw [hk2];simp only [mt (i:Int) (by omega)]
     by_cases ei:x=i
     ·subst ei;rw [if_pos rfl,if_neg (fun h=>(g.dt _ h).1 hxt),if_pos ho,if_neg (by omega)]
     ·rw [if_neg ei]
      by_cases ej:j=i
      ·subst ej;rw [if_pos rfl,if_neg z1,if_neg z2,if_pos (.inl rfl)]
      ·rw [if_neg ej,g.md i hi];unfold bW;have:((i:Int)=(j:Int)∨(i:Int)∈c.table∧(i:Int)≠(x:Int))↔(i:Int)∈c.table:=by
        constructor
        ·rintro (h | h)
         ·omega
         ·exact h.1
        ·exact fun h=> .inr ⟨h,by omega⟩
       simp only [this]
    ·intro y hy h0
     rcases (mt y h0).1 hy with rfl | ⟨h,_⟩
     ·exact ⟨c.ep+1,_,by omega,Int.le_refl _,lS p (by omega),w5⟩
     ·obtain ⟨q,s,q1,q2,q3,q4⟩:=g.rt y h h0;exact ⟨q,s,q1,q2,q3,(hrd y h h0).trans q4⟩
    ·intro y hy h0;obtain ⟨q,s,q1,q2,q3,q4⟩:=g.ro y hy h0;exact ⟨q,s,q1,q2,q3,(J4 y hy h0).trans q4⟩
    ·unfold C.bn;simp only [List.length_set,St.mk.injEq,true_and,and_true];refine ⟨?_,?_⟩
     ·refine rA _ _ _ _ _ _ ?_ (fun i y hi _=>?_)
      ·unfold C.cy;rw [if_neg (by omega)];simp only [w5];simp [z2]
      ·unfold C.cy
       by_cases h:y<0
       ·rw [if_pos h,if_pos h]
       ·rw [if_neg h,if_neg h];simp only [hrd y (List.mem_of_getElem? hi) (by omega)]
     ·refine List.map_congr_left (fun y hy=>?_)
      by_cases h:y<0
      ·rw [if_pos h,if_pos h]
      ·rw [if_neg h,if_neg h];simp only [J4 y hy (by omega)]
  ·rw [if_pos (show decide ((x:Int)∉c.bE)=true by simp [ho]),if_neg (show ¬(dZ (some (decide ((x:Int)∉c.bE),(aQ c.d n x).1.s))=false∧(c.bn n).free=0) by simp [dZ,ho])];obtain ⟨W0,W⟩:=tK g ET p (by omega);rw [W0];obtain ⟨w1,w2,w3,w4,w5,w6⟩:=W _ rfl;generalize (aO c.d n x (c.ep+1) 2 p).1=d' at *;have J4: ∀y∈c.bE,0≤y→aQ d' n y=aQ c.d n y:=fun y hy h0=>by
    have:=g.oi y hy;exact w6 y h0 (by omega) (fun e3=>ho (by rw [←e3]; exact hy))
   have hrd: ∀y∈c.table,0≤y→y≠x→aQ d' n y=aQ c.d n y:=fun y hy h0 eg=>by
    have:=g.ti y hy;exact w6 y h0 (by omega) eg
   refine ⟨⟨w1,w2,g.br,w3,g.ml,g.ep,g.sl,g.ti,g.oi,g.pi,g.tj,g.oj,g.pj,g.dt,g.pl,g.sm,g.md,fun y hy h0=>?_,fun y hy h0=>?_⟩,?_,rfl,w4⟩
   ·by_cases ey:y=x
    ·subst ey;exact ⟨c.ep+1,_,by omega,Int.le_refl _,lS p (by omega),w5⟩
    ·obtain ⟨q,s,q1,q2,q3,q4⟩:=g.rt y hy h0;exact ⟨q,s,q1,q2,q3,(hrd y hy h0 ey).trans q4⟩
   ·obtain ⟨q,s,q1,q2,q3,q4⟩:=g.ro y hy h0;exact ⟨q,s,q1,q2,q3,(J4 y hy h0).trans q4⟩
   ·unfold C.bn;simp only [St.mk.injEq,true_and,and_true];refine ⟨?_,?_⟩
    ·have:=rA (c.cy n) (C.cy {c with d:=d'} n) c.table k (x:Int) (some (true,dA p 232)) (by
      unfold C.cy;rw [if_neg (by omega)];simp only [w5];simp [ho]) (fun i y hi eg=>by
      unfold C.cy
      by_cases h:y<0
      ·rw [if_pos h,if_pos h]
      ·rw [if_neg h,if_neg h];simp only [hrd y (List.mem_of_getElem? hi) (by omega) (fun ey=>eg (g.tj i k y hi (by rw [ey]; exact hk) (by omega)))])
     rw [←this]
     congr 1
     apply List.ext_getElem?;intro i;rw [List.getElem?_set]
     by_cases e3:k=i
     ·subst e3;rw [if_pos rfl,if_pos (List.getElem?_eq_some_iff.1 hk).1,hk]
     ·rw [if_neg e3]
    ·refine List.map_congr_left (fun y hy=>?_)
     by_cases h:y<0
     ·rw [if_pos h,if_pos h]
     ·rw [if_neg h,if_neg h];simp only [J4 y hy (by omega)]
 ·rw [if_neg hh,if_pos (show (3:Int)≠0 by decide)];have:((c.bn n).at l)=none:=by
   cases h:(c.bn n).at l with
   | none=>rfl
   | some v=>exact absurd (h1.2 (by rw [h]; rfl)) hh
  rw [this,if_pos (show ¬(none:Option (Bool×List UInt8)).isSome=true by simp)];exact ⟨g,rfl,rfl,by show c.d.calls≤_; omega⟩
end Go.Proofs.YtmonobkginiajaaGreat.Sh
namespace Go.Proofs.YtmonobkginiajaaGreat.Sh
open Go.RowKit Pk Dk Pg
theorem Gz (l:List Bool) (k:Nat) (x:Bool) (i:Nat):(l.set k x).getD i false=if k=i∧k<l.length then x else l.getD i false:=by
 simp only [List.getD,List.getElem?_set]
 by_cases h:k=i
 ·subst h
  by_cases h2:k<l.length
  ·simp [h2]
  ·simp [h2]
 ·simp [h]
def Calm (n:Nat) (P:Nat→Prop) (d d':D):Prop:= ∀j,j<n→P j→sec d'.now j=sec d.now j∧(d.loose.getD j false=false→d'.loose.getD j false=false)
theorem Calm.refl {n:Nat} {P:Nat→Prop} (d:D):Calm n P d d:=fun _ _ _=>⟨rfl,id⟩
theorem Calm.trans {n:Nat} {P:Nat→Prop} {a b c:D} (h:Calm n P a b) (k:Calm n P b c):Calm n P a c:=fun j hj hp=>by
 obtain ⟨h1,h2⟩:=h j hj hp;obtain ⟨k1,k2⟩:=k j hj hp;exact ⟨k1.trans h1,fun e=>k2 (h2 e)⟩
theorem Dd (d:D):d.bQ.1.now=d.now∧d.bQ.1.loose=d.loose∧d.bQ.1.bE=d.bE:=by
 unfold D.bQ
 split
 ·exact ⟨rfl,rfl,rfl⟩
 ·split<;>exact ⟨rfl,rfl,rfl⟩
theorem De (d:D) (k j:Nat) (h:k≠j):(d.fy k).loose.getD j false=d.loose.getD j false:=by
 unfold D.fy
 split
 ·rfl
 ·show (d.loose.set k true).getD j false=_;rw [Gz,if_neg (fun e=>h e.1)]
theorem Df {d:D} {n:Nat} {P:Nat→Prop} (dS:d.Ok n) (k:Int) (s:List UInt8) (hP: ∀j:Nat,(j:Int)=k→ ¬P j):Calm n P d (d.ar n k s).1:=by
 intro j hj hp;unfold D.ar
 by_cases h0:d.gI n k=0
 ·rw [if_pos h0];have hk:0≤k∧k<n:=by
   unfold D.gI at h0
   split at h0
   ·cases h0
   ·split at h0
    ·assumption
    ·cases h0
  have eg:k.toNat≠j:=fun e=>hP j (by omega) hp;obtain ⟨c1,c2,_⟩:=Dd (d.cL k.toNat s);rw [c1,c2];refine ⟨?_,fun e=>?_⟩
  ·show sec (eH d.now k.toNat (ia s)) j=_;rw [Ez dS.now (by omega) (ib s) hj,if_neg eg]
  ·show (d.fy k.toNat).loose.getD j false=false;rw [De _ _ _ eg]; exact e
 ·rw [if_neg h0];exact ⟨rfl,id⟩
theorem E3 {d:D} {n:Nat} {P:Nat→Prop} (dS:d.Ok n) (k:Nat) (b:List UInt8) (hP: ∀j,k≤j→j<k+4→ ¬P j): ∀i,i≤4→Calm n P d (w4 d n k b i).1
 | 0,_=> .refl d
 | i+1,hi=>by
  have ih:=E3 dS k b hP i (by omega);unfold w4
  split
  ·exact ih.trans (Df (sV dS k b i) _ _ (fun j e=>hP j (by omega) (by omega)))
  ·exact ih
theorem lX {d:D} {n:Nat} {P:Nat→Prop} (dS:d.Ok n) (id ep kd:Int) (s:List UInt8) (hP: ∀j:Nat,2+4*id.toNat≤j→j<2+4*id.toNat+4→ ¬P j):Calm n P d (aO d n id ep kd s).1:=by
 unfold aO
 split
 ·exact .refl d
 ·split
  ·exact .refl d
  ·exact E3 dS _ _ hP 4 (Nat.le_refl _)
theorem GA (n j:Nat):(List.replicate n false).getD j false=false:=by
 simp only [List.getD,List.getElem?_replicate]
 split<;>rfl
theorem nQ {d:D} (h:d.db.2=0) (j:Nat):d.db.1.loose.getD j false=false:=by
 unfold D.db at h ⊢
 by_cases hd:d.down=true
 ·rw [if_pos hd] at h; cases h
 rw [if_neg hd] at h ⊢
 by_cases hc:d.bQ.2=0
 ·rw [if_pos hc]; exact GA _ _
 ·rw [if_neg hc] at h; exact absurd h hc
theorem qt {d d':D} {n:Nat} (hd:d'.down=d.down) (x:Nat) (hx:x<bC n) (h: ∀j,2+4*x≤j→j<2+4*x+4→sec d'.now j=sec d.now j):aQ d' n x=aQ d n x:=by
 have e:(d'.now.drop (64*(2+4*x))).take 256=(d.now.drop (64*(2+4*x))).take 256:=by
  rw [js,js,h _ (by omega) (by omega),h _ (by omega) (by omega),h _ (by omega) (by omega),h _ (by omega) (by omega)]
 unfold aQ;rw [hd,show ((x:Nat):Int).toNat=x by omega,e]
def arm (u:D) (a:Int):D:={u with aP:=a}
end Go.Proofs.YtmonobkginiajaaGreat.Sh
namespace Go.Proofs.YtmonobkginiajaaGreat.Sh
open Go.RowKit Pk Dk Pg
def upD (d:D):D:={d with down:=false}
theorem upD_eq {d:D} (h:d.down=false):upD d=d:=by unfold upD; rw [←h]
def Kept (parts bE:List Int) (j:Nat):Prop:=j<2∨ ∃x:Nat,((x:Int)∈parts∨(x:Int)∈bE)∧2+4*x≤j∧j<2+4*x+4
structure gu (d:D) (n:Nat) (ep slot:Int) (bE parts:List Int):Prop where
 n2:2≤n
 ro:Rt.eQ ep (bE.length:Nat) parts
 sl:slot=0∨slot=1
 rt:sec d.now slot.toNat=Rt.dF ep bE.length (parts.map Int.toNat)
 ot:Rt.goodR (sec d.now (1-slot).toNat)→Rt.lU (sec d.now (1-slot).toNat)<ep
 pp: ∀(i:Nat) (x:Int),parts[i]?=some x→ ∃q,0≤q∧q≤ep∧aQ (upD d) n x=(⟨x,q,1,dA (Rt.fC (Rt.eC bE i)) 232⟩,0)
 lo: ∀j,j<n→Kept parts bE j→d.loose.getD j false=false
def Twin (d:D) (slot ep:Int):Prop:=(sec d.now (1-slot).toNat).take 8=(sec d.now (1-slot).toNat).drop 56∧Rt.lU (sec d.now (1-slot).toNat)<ep
theorem J5 {d:D} {n:Nat} {x:Int} (h:(aQ d n x).2=0):0≤x∧x<bC n:=by
 unfold aQ at h
 by_cases hx:x<0∨(bC n:Int)≤x
 ·rw [if_pos hx] at h; exact absurd h (by decide)
 ·omega
theorem yw {n x:Nat} (hx:x<bC n):2+4*x+4≤n:=by unfold bC at hx; omega
theorem gu.calm {d d':D} {n:Nat} {ep slot:Int} {bE parts:List Int} (R:gu d n ep slot bE parts) (h:Calm n (Kept parts bE) d d'):gu d' n ep slot bE parts:=by
 have n2:=R.n2;have hs:=R.sl;have e1:=(h slot.toNat (by omega) (.inl (by omega))).1;have e2:=(h (1-slot).toNat (by omega) (.inl (by omega))).1;refine ⟨R.n2,R.ro,R.sl,e1.trans R.rt,by rw [e2]; exact R.ot,fun i x hx=>?_,fun j hj hk=>(h j hj hk).2 (R.lo j hj hk)⟩;obtain ⟨q,q0,q1,q2⟩:=R.pp i x hx;obtain ⟨h0,h1⟩:=J5 (by rw [q2]);refine ⟨q,q0,q1,?_⟩;rw [←q2]
 have:=qt (d:=upD d) (d':=upD d') (n:=n) rfl x.toNat (by omega) (fun j a b=>(h j (by have:=yw (show x.toNat<bC n by omega); omega) (.inr ⟨x.toNat,.inl (by rw [show ((x.toNat:Nat):Int)=x by omega]; exact List.mem_of_getElem? hx),a,b⟩)).1)
 rwa [show ((x.toNat:Nat):Int)=x by omega] at this
theorem zT {parts bE:List Int} {k:Nat} (h1:(k:Int)∉parts) (h2:(k:Int)∉bE) (j:Nat) (a:2+4*k≤j) (b:j<2+4*k+4): ¬Kept parts bE j:=by
 rintro (h | ⟨x,h,c,e⟩)
 ·omega
 ·obtain rfl:x=k:=by omega
  exact h.elim h1 h2
def C.on (c:C) (d:D):C:={c with d:=d}
theorem zU {c:C} {n:Nat} (g:Good c n) (d0:D) (p:List UInt8) (dS:d0.Ok n):Calm n (Kept c.parts c.bE) d0 ((c.on d0).bu n p).1.d:=by
 by_cases hf:(c.bn n).free=0
 ·unfold C.bu;have e2:Fm.bV (c.on d0).m=Fm.bV c.m:=rfl;rw [e2,qk g hf,if_pos (by simp)];exact .refl d0
 ·obtain ⟨k,hk,h0,e⟩:=qh g hf;obtain ⟨z1,z2,z3⟩:=zL h0;have this:Calm n (Kept c.parts c.bE) d0 (aO (c.on d0).d n ((k:Nat):Int) ((c.on d0).ep+1) 2 p).1:=lX dS ((k:Nat):Int) (c.ep+1) 2 p (fun j a b=>zT z1 z2 j (by omega) (by omega));unfold C.bu;have e2:Fm.bV (c.on d0).m=Fm.bV c.m:=rfl;rw [e2,e,if_neg (by simp)]
  split
  ·exact this
  ·exact this
theorem new_on {c:C} {n:Nat} (g:Good c n) (d0:D) (p:List UInt8) (dS:d0.Ok n):Calm n (Kept c.parts c.bE) d0 ((c.on d0).bm n p).1.d:=by
 have:=zU g d0 p dS;unfold C.bm;rw [if_neg (show ¬(c.on d0).broken=true by show ¬c.broken=true; rw [g.br]; simp)]
 split
 ·exact .refl d0
 ·split
  ·exact .refl d0
  ·split
   ·exact this
   ·exact this
theorem GB {c:C} {n:Nat} (g:Good c n) {x:Int} (h:Fm.bu c.m x=true): ∃k:Nat,x=k∧k<c.m.length∧(k:Int)∉c.parts∧(k:Int)∉c.bE:=by
 unfold Fm.bu Fm.vL at h;simp only [Bool.and_eq_true,decide_eq_true_eq,beq_iff_eq] at h;obtain ⟨⟨h0,h1⟩,h2⟩:=h;refine ⟨x.toNat,by omega,by omega,?_⟩;rw [g.md _ (by omega)] at h2;unfold bW at h2
 split at h2
 ·omega
 ·split at h2
  ·split at h2<;>omega
  ·exact ⟨by assumption,by assumption⟩
theorem J6 {c:C} {n:Nat} (g:Good c n) (d0:D) (l:Int) (p:List UInt8) (dS:d0.Ok n):Calm n (Kept c.parts c.bE) d0 ((c.on d0).ar n l p).1.d:=by
 have:=zU g d0 p dS;unfold C.ar;rw [if_neg (show ¬(c.on d0).broken=true by show ¬c.broken=true; rw [g.br]; simp)]
 split
 ·exact .refl d0
 ·split
  ·exact .refl d0
  ·split
   ·rename_i hf;obtain ⟨k,e,hk,z1,z2⟩:=GB g hf;show Calm n _ d0 (aO d0 n _ _ _ _).1;exact lX dS _ _ _ _ (fun j a b=>by
     have e:((c.on d0).table.getD l.toNat 0).toNat=k:=by omega
     rw [e] at a b;exact zT z1 z2 j a b)
   ·split
    ·exact this
    ·exact this
theorem Dg {c:C} {n:Nat} (g:Good c n) (R:gu c.d n c.ep c.slot c.bE c.parts) (p:List UInt8):gu (c.bm n p).1.d n c.ep c.slot c.bE c.parts:=R.calm (new_on g c.d p g.ok)
theorem yx {c:C} {n:Nat} (g:Good c n) (R:gu c.d n c.ep c.slot c.bE c.parts) (l:Int) (p:List UInt8):gu (c.ar n l p).1.d n c.ep c.slot c.bE c.parts:=R.calm (J6 g c.d l p g.ok)
theorem Dh (c:C) (n:Nat) (p:List UInt8):(c.bm n p).1.bE=c.bE∧(c.bm n p).1.parts=c.parts∧(c.bm n p).1.ep=c.ep∧(c.bm n p).1.slot=c.slot∧(c.bm n p).1.broken=c.broken:=by
 obtain ⟨f1,f2,f3,f4,f5,f6⟩:=jk c n p;unfold C.bm
 split
 ·exact ⟨rfl,rfl,rfl,rfl,rfl⟩
 ·split
  ·exact ⟨rfl,rfl,rfl,rfl,rfl⟩
  ·split
   ·exact ⟨rfl,rfl,rfl,rfl,rfl⟩
   ·split
    ·exact ⟨f2,f3,f4,f5,f6⟩
    ·exact ⟨f2,f3,f4,f5,f6⟩
theorem yy (c:C) (n:Nat) (l:Int) (p:List UInt8):(c.ar n l p).1.bE=c.bE∧(c.ar n l p).1.parts=c.parts∧(c.ar n l p).1.ep=c.ep∧(c.ar n l p).1.slot=c.slot∧(c.ar n l p).1.broken=c.broken:=by
 obtain ⟨f1,f2,f3,f4,f5,f6⟩:=jk c n p;unfold C.ar
 split
 ·exact ⟨rfl,rfl,rfl,rfl,rfl⟩
 ·split
  ·exact ⟨rfl,rfl,rfl,rfl,rfl⟩
  ·split
   ·exact ⟨rfl,rfl,rfl,rfl,rfl⟩
   ·split
    ·exact ⟨rfl,rfl,rfl,rfl,rfl⟩
    ·split
     ·exact ⟨f2,f3,f4,f5,f6⟩
     ·exact ⟨f2,f3,f4,f5,f6⟩
end Go.Proofs.YtmonobkginiajaaGreat.Sh
namespace Go.Proofs.YtmonobkginiajaaGreat.Sh
open Go.RowKit Pk Dk Pg
theorem Di {m:List Int} (h: ∃i,i<m.length∧m.getD i 0=0):Fm.cm m 0<m.length∧m.getD (Fm.cm m 0) 0=0:=by
 obtain ⟨i,hi,h0⟩:=h;have dL:Fm.cm m 0<m.length:=by
  unfold Fm.cm;rw [List.findIdx_lt_length];refine ⟨m[i],List.getElem_mem hi,?_⟩;simp [List.getD,List.getElem?_eq_getElem hi] at h0;simp [h0]
 refine ⟨dL,?_⟩;have:=List.findIdx_getElem (p:=(· ==(0:Int))) (xs:=m) (w:=dL);simp [List.getD];unfold Fm.cm at dL ⊢;rw [List.getElem?_eq_getElem dL];simpa using this
theorem tL (m:List Int): ∀k,k≤(Fm.eJ m 0).length→(takeN m k).1.length=m.length∧(takeN m k).2.Nodup∧(∀x∈(takeN m k).2,∃i:Nat,x=i∧i<m.length∧m.getD i 0=0)∧ ∀i:Nat,i<m.length→(takeN m k).1.getD i 0=if (i:Int)∈(takeN m k).2 then 2 else m.getD i 0
 | 0,_=>⟨rfl,List.nodup_nil,by simp [takeN],fun i hi=>by simp [takeN]⟩
 | k+1,h=>by
  obtain ⟨h1,h2,h3,h4⟩:=tL m k (by omega);have hl:=mK m k;have hz: ∃i,i<(takeN m k).1.length∧(takeN m k).1.getD i 0=0:=by
   by_cases hh: ∃i,i<(takeN m k).1.length∧(takeN m k).1.getD i 0=0
   ·exact hh
   ·have:=oX (Fm.eJ m 0) (takeN m k).2 (gP m 0) (fun x hx=>by
     obtain ⟨i,rfl,hi,h0⟩:=ez.1 hx
     by_cases hm:(i:Int)∈(takeN m k).2
     ·exact hm
     ·exact absurd ⟨i,by rw [h1]; exact hi,by rw [h4 i hi,if_neg hm]; exact h0⟩ hh)
    omega
  obtain ⟨f1,f2⟩:=Di hz;obtain ⟨F,hF⟩: ∃F,Fm.cm (takeN m k).1 0=F:=⟨_,rfl⟩;rw [hF] at f1 f2;have e:Fm.bV (takeN m k).1=((takeN m k).1.set F 2,((F:Nat):Int),0):=by unfold Fm.bV; rw [hF,if_pos f1]
  have e1:(takeN m (k+1)).1=(takeN m k).1.set F 2:=by show (Fm.bV _).1=_; rw [e]
  have e2:(takeN m (k+1)).2=(takeN m k).2++[((F:Nat):Int)]:=by show _++[(Fm.bV _).2.1]=_; rw [e]
  have hFm:F<m.length:=by rw [←h1]; exact f1
  have hFn:((F:Nat):Int)∉(takeN m k).2:=fun hm=>by
   rw [h4 F hFm,if_pos hm] at f2;omega
  have hF0:m.getD F 0=0:=by
   rw [h4 F hFm,if_neg hFn] at f2;exact f2
  rw [e1,e2];refine ⟨by rw [List.length_set]; exact h1,?_,fun x hx=>?_,fun i hi=>?_⟩
  ·rw [List.nodup_append];refine ⟨h2,by simp,fun a ha b hb e=>?_⟩;rw [List.mem_singleton.1 hb] at e;exact hFn (by rw [←e]; exact ha)
  ·rcases List.mem_append.1 hx with hx | hx
   ·exact h3 x hx
   ·exact ⟨F,List.mem_singleton.1 hx,hFm,hF0⟩
  ·rw [gS _ _ _ _ (by omega)]
   by_cases e:F=i
   ·subst e;rw [if_pos rfl,if_pos (List.mem_append_right _ (List.mem_singleton.2 rfl))]
   ·rw [if_neg e,h4 i hi];have:((i:Int)∈(takeN m k).2++[((F:Nat):Int)])↔(i:Int)∈(takeN m k).2:=by
     rw [List.mem_append,List.mem_singleton];exact ⟨fun h=>h.elim id (fun h=>by omega),.inl⟩
    simp only [this]
theorem ki: ∀(L:List Int) (m:List Int),L.Nodup→(∀x∈L,∃i:Nat,x=i∧i<m.length∧m.getD i 0=1)→(bH m L).length=m.length∧ ∀i:Nat,i<m.length→(bH m L).getD i 0=if (i:Int)∈L then 3 else m.getD i 0
 | [],m,_,_=>⟨rfl,fun i hi=>by simp [bH]⟩
 | x::L,m,hn,h=>by
  obtain ⟨n1,n2⟩:=List.nodup_cons.1 hn;obtain ⟨k,rfl,hk,h1⟩:=h x (List.mem_cons_self ..);have e:(Fm.cF m ((k:Nat):Int)).1=m.set k 3:=by
   unfold Fm.cF;rw [show Fm.vL m ((k:Nat):Int)=true from by unfold Fm.vL; simp; omega,if_pos rfl,show ((k:Nat):Int).toNat=k by omega,h1,if_neg (by decide),if_pos rfl]
  obtain ⟨r1,r2⟩:=ki L (m.set k 3) n2 (fun y hy=>by
   obtain ⟨i,rfl,hi,h0⟩:=h y (List.mem_cons_of_mem _ hy);exact ⟨i,rfl,by rw [List.length_set]; exact hi,by rw [gS _ _ _ _ hi,if_neg (fun e=>n1 (by rw [e]; exact hy))]; exact h0⟩)
  rw [List.length_set] at r1 r2;show (bH (Fm.cF m ((k:Nat):Int)).1 L).length=_∧ ∀i:Nat,i<m.length→(bH (Fm.cF m ((k:Nat):Int)).1 L).getD i 0=_;rw [e];refine ⟨r1,fun i hi=>?_⟩;rw [r2 i hi,gS _ _ _ _ hi]
  by_cases tM:k=i
  ·subst tM;rw [if_pos (List.mem_cons_self ..),if_neg n1,if_pos rfl]
  ·rw [if_neg tM];have:((i:Int)∈((k:Nat):Int)::L)↔(i:Int)∈L:=by
    rw [List.mem_cons];exact ⟨fun h=>h.elim (fun h=>by omega) id,.inr⟩
   simp only [this]
theorem qu (t:List Int): ∀k i,ir t k≤i→i<k→t.getD i 0<0
 | 0,i,_,h=>by omega
 | k+1,i,h,hi=>by
  rw [jM] at h
  split at h
  ·by_cases e:i=k
   ·subst e; assumption
   ·exact qu t k i h (by omega)
  ·omega
theorem zV {t:List Int} {x:Int} (h0:0≤x):x∈t.take (ir t t.length)↔x∈t:=by
 refine ⟨List.mem_of_mem_take,fun h=>?_⟩;obtain ⟨i,hi⟩:=List.getElem?_of_mem h;have hl:=(List.getElem?_eq_some_iff.1 hi).1;have dL:i<ir t t.length:=by
  refine Nat.lt_of_not_le (fun hle=>?_);have:=qu t t.length i hle hl;simp only [List.getD,hi,Option.getD_some] at this;omega
 have:(t.take (ir t t.length))[i]?=some x:=by rw [List.getElem?_take_of_lt dL]; exact hi
 exact List.mem_of_getElem? this
theorem ph {α:Type} {t:List α} {k i:Nat} {x:α} (h:(t.take k)[i]?=some x):t[i]?=some x:=by
 have hl:=(List.getElem?_eq_some_iff.1 h).1;rw [List.length_take] at hl;rw [List.getElem?_take_of_lt (by omega)] at h;exact h
def St.pad (b:St) (k:Nat):St:={b with now:=b.now++List.replicate k none}
theorem GC (c:C) {x:Int} (h0:0≤x):bW c.bz x=bW c x:=by
 unfold bW;show (if x∈c.parts then 1 else if x∈c.bE then (if x∈c.table.take _ then 1 else 3) else if x∈c.table.take _ then 2 else 0:Int)=_;simp only [zV h0]
theorem wK {c:C} {n:Nat} (g:Good c n):Good c.bz n∧c.bn n=(c.bz.bn n).pad (c.table.length-ir c.table c.table.length):=by
 have hle:=tG c.table c.table.length;refine ⟨⟨g.up,g.arm,g.br,g.ok,g.ml,g.ep,g.sl,fun x hx=>g.ti x (List.mem_of_mem_take hx),g.oi,g.pi,fun i j x hi hj=>g.tj i j x (ph hi) (ph hj),g.oj,g.pj,fun x hx=>⟨fun h=>(g.dt x hx).1 (List.mem_of_mem_take h),(g.dt x hx).2⟩,g.pl,fun i x hi=>g.sm i x (ph hi),fun i hi=>?_,fun x hx=>g.rt x (List.mem_of_mem_take hx),g.ro⟩,?_⟩
 ·rw [GC c (by omega)]; exact g.md i hi
 ·unfold C.bn St.pad;simp only [St.mk.injEq,true_and];refine ⟨rfl,?_,rfl,rfl⟩;have e:c.table=c.bz.table++c.table.drop (ir c.table c.table.length):=(List.take_append_drop _ _).symm;have e2:(c.table.drop (ir c.table c.table.length)).map (c.cy n)=List.replicate (c.table.length-ir c.table c.table.length) none:=by
   rw [List.eq_replicate_iff];refine ⟨by simp,fun b hb=>?_⟩;obtain ⟨x,hx,rfl⟩:=List.mem_map.1 hb;obtain ⟨i,hi⟩:=List.getElem?_of_mem hx;rw [List.getElem?_drop] at hi;have hl:=(List.getElem?_eq_some_iff.1 hi).1;have:=qu c.table c.table.length _ (Nat.le_add_right _ i) hl;simp only [List.getD,hi,Option.getD_some] at this;unfold C.cy;rw [if_pos this]
  have e3:c.table.map (c.cy n)=c.bz.table.map (c.cy n)++(c.table.drop (ir c.table c.table.length)).map (c.cy n):=by
   rw [←List.map_append,←e]
  rw [e3,e2];rfl
theorem part_le (l:List Int) (i:Nat):(Rt.fC (Rt.eC l i)).length≤232:=by
 unfold Rt.fC;rw [Rt.zN,List.length_map,Rt.lV];omega
theorem qv: ∀{l:List Int} {i j:Nat} {x:Int},l.Nodup→l[i]?=some x→l[j]?=some x→i=j
 | [],i,j,x,_,hi,_=>by simp at hi
 | y::l,0,0,x,_,_,_=>rfl
 | y::l,0,j+1,x,h,hi,hj=>by
  have hj:l[j]?=some x:=by simpa using hj
  have hi:y=x:=by simpa using hi
  subst hi;exact absurd (List.mem_of_getElem? hj) (List.nodup_cons.1 h).1
 | y::l,i+1,0,x,h,hi,hj=>by
  have hi:l[i]?=some x:=by simpa using hi
  have hj:y=x:=by simpa using hj
  subst hj;exact absurd (List.mem_of_getElem? hi) (List.nodup_cons.1 h).1
 | y::l,i+1,j+1,x,h,hi,hj=>by
  have:=qv (l:=l) (i:=i) (j:=j) (x:=x) (List.nodup_cons.1 h).2 (by simpa using hi) (by simpa using hj);omega
def InP (P:List Int) (j:Nat):Prop:= ∃x:Nat,(x:Int)∈P∧2+4*x≤j∧j<2+4*x+4
theorem wL {c:C} {n:Nat} (hd:c.d.down=false) (ha:c.d.aP=0) (dS:c.d.Ok n) {P:List Int} (hP:P.Nodup) (hr: ∀x∈P,∃k:Nat,x=k∧k<bC n) (he:0≤c.ep∧c.ep<1099511627776): ∀i,i≤P.length→
  (c.eR n P i).2=0∧(c.eR n P i).1.down=false∧(c.eR n P i).1.aP=0∧(c.eR n P i).1.Ok n∧(c.eR n P i).1.calls≤c.d.calls+4*i∧
   (∀(j:Nat) (x:Int),j<i→P[j]?=some x→aQ (c.eR n P i).1 n x=(⟨x,c.ep+1,1,dA (Rt.fC (Rt.eC c.table j)) 232⟩,0))∧Calm n (fun j=> ¬InP P j) c.d (c.eR n P i).1
 | 0,_=>⟨rfl,hd,ha,dS,by show c.d.calls≤_; omega,fun j x hj=>by omega,.refl _⟩
 | i+1,hi=>by
  obtain ⟨h1,h2,h3,h4,h5,h6,h7⟩:=wL hd ha dS hP hr he i (by omega);obtain ⟨x,hx⟩: ∃x,P[i]?=some x:=⟨_,List.getElem?_eq_getElem (by omega)⟩;have hxm:=List.mem_of_getElem? hx;obtain ⟨k,rfl,hk⟩:=hr x hxm;have eD:P.getD i 0=((k:Nat):Int):=by simp [List.getD,hx]
  rw [qs,if_neg (by rw [h1]; decide),eD];obtain ⟨w1,w2,w3,w4,w5⟩:=jI h4 h2 h3 k (c.ep+1) 1 (Rt.fC (Rt.eC c.table i)) hk (by rw [kR]; omega) (part_le _ _);have hb:=(mD (c.eR n P i).1 n ((k:Nat):Int) (c.ep+1) 1 (Rt.fC (Rt.eC c.table i)) (by rw [h3]; omega)).1;refine ⟨w1,w2,w3,nP h4 _ _ _ _,by omega,fun j y hj hy=>?_,h7.trans (lX h4 _ _ _ _ (fun j a b hn=>hn ⟨k,hxm,by omega,by omega⟩))⟩
  by_cases e:j=i
  ·subst e;rw [hx] at hy;injection hy with hy
   subst hy;exact w4
  ·obtain ⟨k',rfl,hk'⟩:=hr y (List.mem_of_getElem? hy);rw [w5 k' hk' (fun e2=>e (by
    subst e2;exact qv hP hy hx))]
   exact h6 j _ (by omega) hy
theorem fill64 {b:List UInt8} (h:b.length=64):ia b=b:=qe b h
theorem GF {c:C} {n:Nat} (hd:c.d.down=false) (ha:c.d.aP=0) (dS:c.d.Ok n) {P:List Nat} (hP:(Rt.cD P).Nodup) (hr: ∀x∈Rt.cD P,∃k:Nat,x=k∧k<bC n) (he:0≤c.ep∧c.ep<1099511627776) (hn:2≤n) (hs:c.slot=0∨c.slot=1) (h5:P.length≤5):
  (c.aY n P).2=0∧(c.aY n P).1.down=false∧(c.aY n P).1.aP=0∧(c.aY n P).1.Ok n∧(c.aY n P).1.calls≤c.d.calls+4*P.length+3∧
   (∀(j:Nat) (x:Int),(Rt.cD P)[j]?=some x→aQ (c.aY n P).1 n x=(⟨x,c.ep+1,1,dA (Rt.fC (Rt.eC c.table j)) 232⟩,0))∧
   (∀x:Nat,x<bC n→(x:Int)∉Rt.cD P→aQ (c.aY n P).1 n x=aQ c.d n x)∧
   sec (c.aY n P).1.now c.slot.toNat=sec c.d.now c.slot.toNat∧sec (c.aY n P).1.now (1-c.slot).toNat=Rt.dF (c.ep+1) c.table.length P∧ ∀j,(c.aY n P).1.loose.getD j false=false:=by
 obtain ⟨h1,h2,h3,h4,h6,h7,h8⟩:=wL hd ha dS hP hr he (Rt.cD P).length (Nat.le_refl _);have eL:(Rt.cD P).length=P.length:=by simp [Rt.cD]
 rw [eL] at h1 h2 h3 h4 h6 h7 h8;obtain ⟨d1,vD⟩: ∃d1,(c.eR n (Rt.cD P) P.length)=(d1,0):=⟨_,by rw [←h1]⟩;unfold C.aY;rw [vD] at h1 h2 h3 h4 h6 h7 h8 ⊢;dsimp only at h1 h2 h3 h4 h6 h7 h8 ⊢;obtain ⟨s1,s2,s3,s4⟩:=kt h2 h3;have s5:=(tF d1 (by rw [h3]; omega)).1;have s6:d1.db.1.Ok n:=h4.sync;have s7:=nQ s1;rw [if_neg (by decide),if_neg (by rw [s1]; decide)];generalize d1.db.1=d2 at *;have hsn:(1-c.slot).toNat<n:=by omega
 have hsI:(1-c.slot:Int)=(((1-c.slot).toNat:Nat):Int):=by omega
 rw [hsI];rw [show ((((1-c.slot).toNat:Nat):Int)).toNat=(1-c.slot).toNat by omega];obtain ⟨s,hsd⟩: ∃s,s=(1-c.slot).toNat:=⟨_,rfl⟩;rw [←hsd] at hsn ⊢;have Dj:=Rt.oZ (c.ep+1) c.table.length P h5;obtain ⟨w1,w2,w3⟩:=fO (n:=n) s2 s3 hsn (Rt.dF (c.ep+1) c.table.length P);have w4:=mE s6 s hsn _ w1;have w5:=(gf d2 n s (Rt.dF (c.ep+1) c.table.length P) (by rw [s3]; omega)).1;have w6:=s6.write (s:Int) (Rt.dF (c.ep+1) c.table.length P)
 rw [if_neg (by rw [w1]; decide)];generalize (d2.ar n (s:Int) (Rt.dF (c.ep+1) c.table.length P)).1=d3 at *;obtain ⟨v1,v2,v3,v4⟩:=kt w2 w3;have v5:=(tF d3 (by rw [w3]; omega)).1;have v6:=w6.sync;have v7:=nQ v1;have hpage: ∀x:Nat,x<bC n→aQ d3.db.1 n x=aQ d1 n x:=fun x hx=>qt (by rw [v2,h2]) x hx (fun j a b=>by
  have:=yw hx;rw [v4,w4 j (by omega),if_neg (by omega),s4])
 refine ⟨v1,v2,v3,v6,by omega,fun j x hx=>?_,fun x hx hn=>?_,?_,?_,v7⟩
 ·obtain ⟨k,rfl,hk⟩:=hr x (List.mem_of_getElem? hx);rw [hpage k hk];exact h7 j _ (by have:=(List.getElem?_eq_some_iff.1 hx).1; omega) hx
 ·rw [hpage x hx];exact qt (by rw [h2,hd]) x hx (fun j a b=>(h8 j (by have:=yw hx; omega) (fun ⟨y,hy,c1,c2⟩=>hn (by
   obtain rfl:y=x:=by omega
   exact hy))).1)
 ·rw [v4,w4 _ (by omega),if_neg (by omega),s4];exact (h8 _ (by omega) (fun ⟨y,hy,c1,c2⟩=>by omega)).1
 ·rw [v4,w4 _ (by omega),if_pos rfl,fill64 Dj]
end Go.Proofs.YtmonobkginiajaaGreat.Sh
namespace Go.Proofs.YtmonobkginiajaaGreat.Sh
open Go.RowKit Pk Dk Pg
theorem wM {P:List Int} (h: ∀x∈P,0≤x):Rt.cD (P.map Int.toNat)=P:=by
 unfold Rt.cD;rw [List.map_map];exact (List.map_congr_left (fun x hx=>by have:=h x hx; exact Int.toNat_of_nonneg this)).trans (List.map_id _)
theorem zW (c:C) (n:Nat): ∀k,k≤c.table.length→gU (c.bn n).now k=ir c.table k
 | 0,_=>rfl
 | k+1,h=>by
  unfold gU;rw [jM,zW c n k (by omega)];have e:((c.bn n).now[k]?).getD none=c.cy n (c.table.getD k 0):=by
   unfold C.bn;rw [List.getElem?_map];simp only [List.getD];rw [List.getElem?_eq_getElem (by omega)];rfl
  rw [e];unfold C.cy
  by_cases hx:c.table.getD k 0<0
  ·rw [if_pos hx,if_pos hx,if_neg (by simp)]
  ·rw [if_neg hx,if_neg hx,if_pos (by simp)]
theorem tN (c:C) (n:Nat):(c.bn n).cX=c.bz.table.map (fun x=>if x<0 then none else some (aQ c.d n x).1.s):=by
 unfold St.cX;have hl:(c.bn n).now.length=c.table.length:=by unfold C.bn; simp
 rw [hl,zW c n _ (Nat.le_refl _)];show ((c.table.map (c.cy n)).take _).map _=(c.table.take _).map _;rw [←List.map_take,List.map_map];refine List.map_congr_left (fun x _=>?_);simp only [Function.comp,C.cy]
 split<;>rfl
theorem wN {P:List Int} (h:P.Nodup):vC P:=fun _ _ _ hi hj _=>qv h hi hj
theorem qx {P:List Int} (h:vC P) (h0: ∀x∈P,0≤x):P.Nodup:=by
 have:=gQ h
 rwa [show ids P=P from List.filter_eq_self.2 (fun x hx=>by simpa using h0 x hx)] at this
theorem J7 {ep:Int} {k:Nat} {P:List Int} (he:0≤ep∧ep<1099511627776) (hk:k≤512) (hl:P.length=bP k) (hn:P.Nodup) (hr: ∀x∈P,0≤x∧x≤1023):Rt.eQ (ep+1) (k:Nat) P:=by
 refine ⟨by omega,by omega,by omega,by omega,by rw [hl,EY],fun i x hx=>?_⟩;obtain ⟨h0,h1⟩:=hr x (List.mem_of_getElem? hx);refine ⟨h0,h1,fun hm=>?_⟩;obtain ⟨j,hj⟩:=List.getElem?_of_mem hm;have hji:=(List.getElem?_eq_some_iff.1 hj).1;rw [List.length_take] at hji;have:=wN hn j i x (ph hj) hx h0;omega
theorem k6 {c:C} {n:Nat} (g:Good c n) (tl:c.table.length≤512) (hf:bP c.bz.table.length≤(Fm.eJ c.m 0).length):
  ∃mT P,takeN c.m (bP c.bz.table.length)=(mT,P)∧mT.length=c.m.length∧P.Nodup∧P.length=bP c.bz.table.length∧(∀x∈P,∃i:Nat,x=i∧i<c.m.length∧i≤1023∧x∉c.parts∧x∉c.bE∧x∉c.table)∧
   (∀i:Nat,i<c.m.length→mT.getD i 0=if (i:Int)∈P then 2 else bW c i)∧Rt.cD (P.map Int.toNat)=P∧Rt.eQ (c.ep+1) (c.bz.table.length:Nat) P:=by
 obtain ⟨h1,h2,h3,h4⟩:=tL c.m _ hf;have hl:=mK c.m (bP c.bz.table.length);have hm:c.m.length≤1024:=by rw [g.ml]; unfold dJ; omega
 have hb: ∀x∈(takeN c.m (bP c.bz.table.length)).2,∃i:Nat,x=i∧i<c.m.length∧i≤1023∧x∉c.parts∧x∉c.bE∧x∉c.table:=fun x hx=>by
  obtain ⟨i,rfl,hi,h0⟩:=h3 x hx;rw [g.md i hi] at h0;obtain ⟨z1,z2,z3⟩:=zL h0;exact ⟨i,rfl,hi,by omega,z1,z2,z3⟩
 have h0: ∀x∈(takeN c.m (bP c.bz.table.length)).2,0≤x∧x≤1023:=fun x hx=>by
  obtain ⟨i,rfl,hi,IJ,_⟩:=hb x hx;omega
 have ht:c.bz.table.length≤512:=by
  show (c.table.take _).length≤512;rw [List.length_take]; omega
 have y9:=g.ep;exact ⟨_,_,rfl,h1,h2,hl,hb,fun i hi=>by rw [h4 i hi,g.md i hi],wM (fun x hx=>(h0 x hx).1),J7 (by omega) ht hl h2 h0⟩
theorem nR {d:D} {n:Nat} {ep slot:Int} {bE parts:List Int} (R:gu d n ep slot bE parts):Rt.cD (parts.map Int.toNat)=parts:=wM (fun x hx=>by
 obtain ⟨i,hi⟩:=List.getElem?_of_mem hx;exact (R.ro.2.2.2.2.2 i x hi).1)
theorem qy {ep:Int} {k:Nat} {P:List Int} (hr:Rt.eQ ep (k:Nat) P) (hP:Rt.cD (P.map Int.toNat)=P):(Rt.dF ep k (P.map Int.toNat)).take 8=(Rt.dF ep k (P.map Int.toNat)).drop 56∧Rt.lU (Rt.dF ep k (P.map Int.toNat))=ep:=by
 have h5:(P.map Int.toNat).length≤5:=by have:=Rt.iz hr; simpa using this
 exact ⟨by rw [Rt.tE,Rt.CU _ _ _ h5],(Rt.JV ep k _ (by rw [hP]; exact hr)).1⟩
def C.tO (c:C) (d:D) (mT P:List Int):C:={c.bz with m:=Fm.iP 0 1 (bH mT c.parts),d:=d,bE:=c.bz.table,parts:=P,ep:=c.ep+1,slot:=1-c.slot}
theorem zX {c:C} {n:Nat} (g:Good c n) (hf:(c.bn n).free<bP (c.bn n).cX.length):c.aA n=(c.bz,11):=by
 unfold C.aA;rw [(jK g).1,if_pos (by rw [tN] at hf; simpa using hf)]
theorem GG {c:C} {n:Nat} (g:Good c n) (R:gu c.d n c.ep c.slot c.bE c.parts) (he:c.ep<1099511627775) (tl:c.table.length≤512) {mT P:List Int} (hT:takeN c.m (bP c.bz.table.length)=(mT,P)) (hf:bP c.bz.table.length≤(Fm.eJ c.m 0).length)
  {d':D} (hd:d'=(({c.bz with m:=mT}:C).aY n (P.map Int.toNat)).1):
  (({c.bz with m:=mT}:C).aY n (P.map Int.toNat)).2=0∧Good (c.tO d' mT P) n∧gu d' n (c.ep+1) (1-c.slot) c.bz.table P∧Twin d' (1-c.slot) (c.ep+1)∧d'.calls≤c.d.calls+30∧
   (c.tO d' mT P).bn n={c.bn n with now:=je (c.bn n).cX,bE:=(c.bn n).cX,ep:=(c.bn n).ep+1}:=by
 obtain ⟨mT',P',e,t1,t2,t3,t4,t5,t6,t7⟩:=k6 g tl hf;rw [hT] at e;obtain ⟨rfl,rfl⟩:mT=mT'∧P=P':=⟨congrArg Prod.fst e,congrArg Prod.snd e⟩;clear e;have y9:=g.ep;have n2:=R.n2;have h5:P.length≤5:=Rt.iz t7;obtain ⟨f1,f2,f3,f4,f5,f6,f7,f8,f9,f10⟩:=GF (c:={c.bz with m:=mT}) (n:=n) (P:=P.map Int.toNat) g.up g.arm g.ok (by rw [t6]; exact t2) (fun x hx=>by
  rw [t6] at hx;obtain ⟨i,e,hi,_⟩:=t4 x hx;exact ⟨i,e,gR g hi⟩) (show 0≤c.ep∧c.ep<1099511627776 by omega) n2 g.sl (by rw [List.length_map]; exact h5)
 rw [←hd] at f2 f3 f4 f5 f6 f7 f8 f9 f10;rw [t6] at f6 f7;rw [List.length_map] at f5;refine ⟨f1,?_,?_,?_,by have:d'.calls≤c.d.calls+4*P.length+3:=f5; omega,?_⟩
 ·have gt:=(wK g).1;have hsame: ∀x:Int,x∈c.table→0≤x→aQ d' n x=aQ c.d n x:=fun x hx h0=>by
   have hti:=g.ti x hx;have:=f7 x.toNat (gR g (by omega)) (fun hm=>by
    rw [show ((x.toNat:Nat):Int)=x by omega] at hm;obtain ⟨_,_,_,_,_,_,h⟩:=t4 x hm;exact h hx)
   rwa [show ((x.toNat:Nat):Int)=x by omega] at this
  obtain ⟨v1,v2⟩:=ki c.parts mT (qx g.pj (fun x hx=>(g.pi x hx).1)) (fun x hx=>by
   have:=g.pi x hx;refine ⟨x.toNat,by omega,by omega,?_⟩;rw [t5 x.toNat (by omega),show ((x.toNat:Nat):Int)=x by omega,if_neg (fun hm=>by
    obtain ⟨_,_,_,_,h,_⟩:=t4 x hm;exact h hx)]
   unfold bW;rw [if_pos hx])
  have nj:(c.tO d' mT P).m.length=c.m.length:=by
   show (Fm.iP 0 1 (bH mT c.parts)).length=_;rw [Fm.oU,v1,t1]
  refine ⟨f2,f3,g.br,f4,nj.trans g.ml,(by show 1≤c.ep+1∧c.ep+1<1099511627776; omega),(by show 1-c.slot=0∨1-c.slot=1; have:=g.sl; omega),by rw [nj]; exact gt.ti,by rw [nj]; exact gt.ti,fun x hx=>?_,gt.tj,gt.tj,wN t2,fun x hx=>?_,t3,fun i x hi _ _=>hi,fun i hi=>?_,fun x hx h0=>?_,fun x hx h0=>?_⟩
  ·obtain ⟨i,rfl,hi,_⟩:=t4 x hx;rw [nj]; omega
  ·obtain ⟨_,_,_,_,_,_,h⟩:=t4 x hx;exact ⟨fun hm=>h (List.mem_of_mem_take hm),fun hm=>h (List.mem_of_mem_take hm)⟩
  ·rw [nj] at hi;show (Fm.iP 0 1 (bH mT c.parts)).getD i 0=_;rw [J3 _ _ _ _ (by omega),v2 i (by omega),t5 i hi];have hk:bW (c.tO d' mT P) i=if (i:Int)∈P then 1 else if (i:Int)∈c.bz.table then 1 else 0:=by
    show (if (i:Int)∈P then 1 else if (i:Int)∈c.bz.table then (if (i:Int)∈c.bz.table then 1 else 3) else if (i:Int)∈c.bz.table then 2 else 0:Int)=_
    by_cases h1:(i:Int)∈P
    ·rw [if_pos h1,if_pos h1]
    ·by_cases h2:(i:Int)∈c.bz.table
     ·simp only [h1,h2,if_true,if_false]
     ·simp only [h1,h2,if_false]
   rw [hk];have hmt:(i:Int)∈c.bz.table↔(i:Int)∈c.table:=zV (by omega);simp only [hmt]
   by_cases hp:(i:Int)∈c.parts
   ·rw [if_pos hp,if_neg (fun hm=>by
     obtain ⟨_,_,_,_,h,_⟩:=t4 _ hm;exact h hp),if_neg (g.dt _ hp).1]
    rfl
   ·rw [if_neg hp]
    by_cases hP:(i:Int)∈P
    ·rw [if_pos hP,if_pos hP]; rfl
    ·rw [if_neg hP,if_neg hP];unfold bW;rw [if_neg hp]
     by_cases h1:(i:Int)∈c.bE<;>by_cases h2:(i:Int)∈c.table<;>simp only [h1,h2,if_true,if_false]<;>rfl
  ·have hx:=List.mem_of_mem_take hx;obtain ⟨q,s,q1,q2,q3,q4⟩:=g.rt x hx h0;exact ⟨q,s,q1,by show q≤c.ep+1+1; omega,q3,(hsame x hx h0).trans q4⟩
  ·have hx:=List.mem_of_mem_take hx;obtain ⟨q,s,q1,q2,q3,q4⟩:=g.rt x hx h0;exact ⟨q,s,q1,q2,q3,(hsame x hx h0).trans q4⟩
 ·refine ⟨n2,t7,by have:=g.sl; omega,f9,fun _=>?_,fun i x hx=>?_,fun j _ _=>f10 j⟩
  ·rw [show (1-(1-c.slot)).toNat=c.slot.toNat by congr 1; omega];show Rt.lU (sec d'.now c.slot.toNat)<_;have f8':sec d'.now c.slot.toNat=sec c.d.now c.slot.toNat:=f8;rw [f8',R.rt,(qy R.ro (nR R)).2];omega
  ·refine ⟨c.ep+1,by omega,Int.le_refl _,?_⟩;rw [upD_eq f2];exact f6 i x hx
 ·unfold Twin;rw [show (1-(1-c.slot)).toNat=c.slot.toNat by congr 1; omega];have f8':sec d'.now c.slot.toNat=sec c.d.now c.slot.toNat:=f8;rw [f8',R.rt,(qy R.ro (nR R)).2];exact ⟨(qy R.ro (nR R)).1,by omega⟩
 ·obtain ⟨v1,_⟩:=ki c.parts mT (qx g.pj (fun x hx=>(g.pi x hx).1)) (fun x hx=>by
   have:=g.pi x hx;refine ⟨x.toNat,by omega,by omega,?_⟩;rw [t5 x.toNat (by omega),show ((x.toNat:Nat):Int)=x by omega,if_neg (fun hm=>by
    obtain ⟨_,_,_,_,h,_⟩:=t4 x hm;exact h hx)]
   unfold bW;rw [if_pos hx])
  have nj:(c.tO d' mT P).m.length=c.m.length:=by
   show (Fm.iP 0 1 (bH mT c.parts)).length=_;rw [Fm.oU,v1,t1]
  have hs: ∀x∈c.bz.table,¬x<0→(aQ d' n x).1.s=(aQ c.d n x).1.s:=fun x hx h0=>by
   have hx:=List.mem_of_mem_take hx;have hti:=g.ti x hx;have:=f7 x.toNat (gR g (by omega)) (fun hm=>by
    rw [show ((x.toNat:Nat):Int)=x by omega] at hm;obtain ⟨_,_,_,_,_,_,h⟩:=t4 x hm;exact h hx)
   rw [show ((x.toNat:Nat):Int)=x by omega] at this;rw [this];rfl
  rw [tN];unfold C.bn;rw [nj];simp only [St.mk.injEq,true_and];refine ⟨?_,?_,rfl⟩
  ·show c.bz.table.map (C.cy (c.tO d' mT P) n)=je (c.bz.table.map _);unfold je;rw [List.map_map];refine List.map_congr_left (fun x hx=>?_);unfold C.cy;simp only [Function.comp]
   by_cases h:x<0
   ·rw [if_pos h,if_pos h]; rfl
   ·rw [if_neg h,if_neg h];show some (decide (x∉c.bz.table),(aQ d' n x).1.s)=some (false,(aQ c.d n x).1.s);rw [hs x hx h];simp [hx]
  ·show c.bz.table.map _=c.bz.table.map _;refine List.map_congr_left (fun x hx=>?_)
   by_cases h:x<0
   ·rw [if_pos h,if_pos h]
   ·rw [if_neg h,if_neg h];show some (aQ d' n x).1.s=_;rw [hs x hx h]
theorem zY {c:C} {n:Nat} (g:Good c n) (R:gu c.d n c.ep c.slot c.bE c.parts) (he:c.ep<1099511627775) (tl:c.table.length≤512) (hf: ¬(c.bn n).free<bP (c.bn n).cX.length):
  ∃c',c.aA n=(c',0)∧Good c' n∧gu c'.d n c'.ep c'.slot c'.bE c'.parts∧Twin c'.d c'.slot c'.ep∧c'.d.calls≤c.d.calls+30∧c'.bn n={c.bn n with now:=je (c.bn n).cX,bE:=(c.bn n).cX,ep:=(c.bn n).ep+1}∧c'.table=c.bz.table∧c'.ep=c.ep+1:=by
 have vQ: ¬(Fm.eJ c.m 0).length<bP c.bz.table.length:=by rw [(jK g).1]; rw [tN] at hf; simpa using hf
 obtain ⟨mT,P,hT,_⟩:=k6 g tl (by omega);obtain ⟨h1,h2,h3,h4,h5,h6⟩:=GG g R he tl hT (by omega) rfl;refine ⟨c.tO _ mT P,?_,h2,h3,h4,h5,h6,rfl,rfl⟩;unfold C.aA;rw [if_neg vQ,if_neg (by omega),hT];dsimp only;rw [if_neg (by rw [h1]; decide)];rfl
end Go.Proofs.YtmonobkginiajaaGreat.Sh
namespace Go.Proofs.YtmonobkginiajaaGreat.Sh
open Go.RowKit Pk Dk Pg
theorem pk (b:St):b.pad 0=b:=by unfold St.pad; simp
theorem pad_pad (b:St) (j k:Nat):(b.pad j).pad k=b.pad (j+k):=by unfold St.pad; simp [List.append_assoc,List.replicate_append_replicate]
theorem po {α:Type} (l:List (Option α)) (k i:Nat):((l++List.replicate k none)[i]?).getD none=(l[i]?).getD none:=by
 by_cases h:i<l.length
 ·rw [List.getElem?_append_left h]
 ·rw [List.getElem?_append_right (by omega),List.getElem?_eq_none (l:=l) (by omega),List.getElem?_replicate]
  split<;>rfl
theorem Dl (b:St) (k:Nat) (l:Int):(b.pad k).at l=b.at l:=by
 unfold St.at;show (if 0≤l then ((b.now++List.replicate k none)[l.toNat]?).getD none else none)=_;rw [po]
theorem GH (b:St) (k:Nat):(b.pad k).fresh=b.fresh:=by
 unfold St.fresh;show (b.now++List.replicate k none).countP dZ=_;rw [List.countP_append,List.countP_replicate];simp [dZ]
theorem J8 (b:St) (k:Nat):(b.pad k).kept=b.kept:=rfl
theorem tP (b:St) (k:Nat):(b.pad k).free=b.free:=by
 unfold St.free;rw [GH,J8];rfl
theorem J9 (b:St) (k:Nat):(b.pad k).slot=b.slot:=by
 unfold St.slot;show (b.now++List.replicate k none).findIdx Option.isNone=_;rw [List.findIdx_append]
 split
 ·rfl
 ·rename_i h;have h1:b.now.findIdx Option.isNone=b.now.length:=by
   have:=List.findIdx_le_length (xs:=b.now) (p:=Option.isNone);omega
  cases k with
  | zero=>simp [h1]
  | succ k=>simp [List.replicate_succ,List.findIdx_cons,h1]
theorem yz {α:Type} (l:List (Option α)) (k i:Nat) (u:Option α) (h:i<l.length):(l++List.replicate k none).set i u=l.set i u++List.replicate k none:=List.set_append_left _ _ h
theorem pad_new (b:St) (k:Nat) (p:List UInt8): ∃k',(b.pad k).bm p=((b.bm p).1.pad k',(b.bm p).2):=by
 unfold St.bm;rw [J9,tP]
 by_cases h1:232<p.length
 ·rw [if_pos h1,if_pos h1]; exact ⟨k,rfl⟩
 rw [if_neg h1,if_neg h1]
 by_cases h2:512≤b.slot∨b.free=0
 ·rw [if_pos h2,if_pos h2]; exact ⟨k,rfl⟩
 rw [if_neg h2,if_neg h2];have hs:b.slot≤b.now.length:=List.findIdx_le_length
 by_cases h3:b.slot=b.now.length
 ·cases k with
  | zero=>exact ⟨0,by rw [pk,pk]⟩
  | succ k=>
   refine ⟨k,?_⟩;unfold St.pad;simp only [Prod.mk.injEq,St.mk.injEq,true_and,and_true];unfold kY;rw [if_neg (by simp; omega),if_pos h3,h3,List.set_append_right _ _ (Nat.le_refl _),Nat.sub_self,List.replicate_succ];simp
 ·refine ⟨k,?_⟩;unfold St.pad;simp only [Prod.mk.injEq,St.mk.injEq,true_and,and_true];unfold kY;rw [if_neg (by simp; omega),if_neg h3,yz _ _ _ _ (by omega)]
theorem tQ {b:St} {l:Int} (h:(b.at l).isSome=true):0≤l∧l.toNat<b.now.length:=by
 unfold St.at at h
 by_cases h0:0≤l
 ·rw [if_pos h0] at h;refine ⟨h0,Nat.lt_of_not_le (fun hle=>?_)⟩;rw [List.getElem?_eq_none hle] at h;simp at h
 ·rw [if_neg h0] at h; simp at h
theorem GI (b:St) (k:Nat) (l:Int) (p:List UInt8):(b.pad k).ar l p=((b.ar l p).1.pad k,(b.ar l p).2):=by
 unfold St.ar;rw [Dl,tP]
 by_cases h1:232<p.length
 ·rw [if_pos h1,if_pos h1]
 rw [if_neg h1,if_neg h1]
 by_cases h2: ¬(b.at l).isSome=true
 ·rw [if_pos h2,if_pos h2]
 rw [if_neg h2,if_neg h2]
 by_cases h3:dZ (b.at l)=false∧b.free=0
 ·rw [if_pos h3,if_pos h3]
 rw [if_neg h3,if_neg h3];unfold St.pad;simp only [Prod.mk.injEq,St.mk.injEq,true_and,and_true];exact yz _ _ _ _ (tQ (Decidable.not_not.1 h2)).2
theorem Ka (b:St) (k:Nat) (l:Int):(b.pad k).aE l=((b.aE l).1.pad k,(b.aE l).2):=by
 unfold St.aE;rw [Dl]
 by_cases h2:(b.at l).isSome=true
 ·rw [if_pos h2,if_pos h2];unfold St.pad;simp only [Prod.mk.injEq,St.mk.injEq,true_and,and_true];exact yz _ _ _ _ (tQ h2).2
 ·rw [if_neg h2,if_neg h2]
theorem Dm (l:List nn) (k:Nat):gU l (k+1)=if ((l[k]?).getD none).isSome then k+1 else gU l k:=rfl
theorem GJ {α:Type} (f:List (Option (Bool×List UInt8))→α) (l:List nn) (k:Nat):gU (l++List.replicate k none) (l.length+k)=gU l l.length:=by
 have h1: ∀j,j≤l.length→gU (l++List.replicate k none) j=gU l j:=by
  intro j
  induction j with
  | zero=>intro _; rfl
  | succ j ih=>
   intro hj;unfold gU;rw [po,ih (by omega)]
 have h2: ∀j,gU (l++List.replicate k none) (l.length+j)=gU (l++List.replicate k none) l.length:=by
  intro j
  induction j with
  | zero=>rfl
  | succ j ih=>
   rw [show l.length+(j+1)=(l.length+j)+1 by omega,Dm,po,List.getElem?_eq_none (by omega),if_neg (by simp)];exact ih
 rw [h2,h1 _ (Nat.le_refl _)]
theorem Kb (b:St) (k:Nat):(b.pad k).cX=b.cX:=by
 unfold St.cX;show ((b.now++List.replicate k none).take (gU (b.now++List.replicate k none) (b.now++List.replicate k none).length)).map _=_;have hl:(b.now++List.replicate k (none:nn)).length=b.now.length+k:=by simp
 have h2:=GJ (fun x=>x) b.now k;rw [hl,h2];have:=zS b.now b.now.length;rw [List.take_append_of_le_length this]
end Go.Proofs.YtmonobkginiajaaGreat.Sh
namespace Go.Proofs.YtmonobkginiajaaGreat.Sh
open Go.RowKit Pk Dk Pg
theorem GK (l:List nn) (k:Nat):qm l (k+1)=qm l k++if ((l[k]?).getD none).isSome then [(k:Int)] else []:=rfl
theorem pad_pgs (l:List nn) (k:Nat):qm (l++List.replicate k none) (l.length+k)=qm l l.length:=by
 have h1: ∀j,j≤l.length→qm (l++List.replicate k none) j=qm l j:=by
  intro j
  induction j with
  | zero=>intro _; rfl
  | succ j ih=>
   intro hj;unfold qm;rw [po,ih (by omega)]
 have h2: ∀j,qm (l++List.replicate k none) (l.length+j)=qm (l++List.replicate k none) l.length:=by
  intro j
  induction j with
  | zero=>rfl
  | succ j ih=>
   rw [show l.length+(j+1)=(l.length+j)+1 by omega,GK,po,List.getElem?_eq_none (by omega),ih];simp
 rw [h2,h1 _ (Nat.le_refl _)]
theorem zZ {c:C} {n:Nat} (g:Good c n): ∀k,k≤c.bE.length→yv (c.bn n).now (je (c.bn n).bE) k=(c.bE.take k).countP (fun x=>decide (0≤x) && decide (x∉c.table))
 | 0,_=>rfl
 | k+1,h=>by
  have ih:=zZ g k (by omega);obtain ⟨x,hx⟩: ∃x,c.bE[k]?=some x:=⟨_,List.getElem?_eq_getElem (by omega)⟩;have hxk:c.bE[k]=x:=(List.getElem?_eq_some_iff.1 hx).2;unfold yv;rw [ih,List.take_succ_eq_append_getElem (by omega),List.countP_append,hxk,List.countP_singleton]
  congr 1
  have e1:((je (c.bn n).bE)[k]?).getD none=if x<0 then none else some (false,(aQ c.d n x).1.s):=by
   unfold je C.bn;simp only [List.getElem?_map,hx,Option.map_some,Option.getD_some]
   split<;>rfl
  have e2:((c.bn n).now[k]?).getD none=((c.table[k]?).map (c.cy n)).getD none:=by
   unfold C.bn;rw [List.getElem?_map]
  have key:J2 (c.bn n).now (je (c.bn n).bE) k=(decide (0≤x) && decide (x∉c.table)):=by
   unfold J2;rw [e1,e2]
   by_cases h0:x<0
   ·rw [if_pos h0]; simp; omega
   ·rw [if_neg h0];simp only [Option.isSome_some,Bool.true_and];rw [show decide (0≤x)=true by simpa using (show 0≤x by omega),Bool.true_and]
    by_cases ht:x∈c.table
    ·obtain ⟨j,hj⟩:=List.getElem?_of_mem ht;have:=g.sm j x hj (by omega) (List.mem_of_getElem? hx);have hjk:=g.oj j k x this hx (by omega);subst hjk;rw [hj];simp [C.cy,h0,dZ,List.mem_of_getElem? hx,ht]
    ·simp only [ht,not_false_eq_true,decide_true]
     cases hk:c.table[k]? with
     | none=>simp
     | some y=>
      by_cases hy:y<0
      ·simp [C.cy,hy]
      ·by_cases hyo:y∈c.bE
       ·have:=g.sm k y hk (by omega) hyo;rw [hx] at this;injection this with this
        subst this;exact absurd (List.mem_of_getElem? hk) ht
       ·simp [C.cy,hy,dZ,hyo]
  rw [key]
theorem counts {c:C} {n:Nat} (g:Good c n):(Fm.eJ c.m 0).length=(c.bn n).free∧(Fm.eJ c.m 2).length=(c.bn n).fresh∧(Fm.eJ c.m 1).length+(Fm.eJ c.m 3).length=(c.bn n).kept∧(Fm.eJ c.m 3).length=(c.bn n).leaving:=by
 have hp:c.parts.Nodup:=qx g.pj (fun x hx=>(g.pi x hx).1);refine ⟨(jK g).1,?_,?_,?_⟩
 ·have hFl:((ids c.table).filter (fun x=>decide (x∉c.bE))).length=(c.bn n).fresh:=by
   unfold St.fresh C.bn ids;rw [List.filter_filter,←List.countP_eq_length_filter,List.countP_map];apply List.countP_congr;intro x hx;simp only [Function.comp,C.cy]
   by_cases h:x<0
   ·rw [if_pos h]; simp [dZ]; omega
   ·rw [if_neg h]; simp [dZ]; omega
  rw [←hFl];refine oY (gP _ _) ((gQ g.tj).sublist List.filter_sublist) (fun x=>?_);rw [ez,List.mem_filter,iH]
  constructor
  ·rintro ⟨i,rfl,hi,h0⟩;rw [g.md i hi] at h0;unfold bW at h0
   split at h0
   ·omega
   ·split at h0
    ·split at h0<;>omega
    ·split at h0
     ·exact ⟨⟨by assumption,by omega⟩,by simpa⟩
     ·omega
  ·rintro ⟨⟨ht,h0⟩,ho⟩;have ho:x∉c.bE:=by simpa using ho
   have:=g.ti x ht;refine ⟨x.toNat,by omega,by omega,?_⟩;rw [g.md _ (by omega),show ((x.toNat:Nat):Int)=x by omega];unfold bW;rw [if_neg (fun h=>(g.dt x h).1 ht),if_neg ho,if_pos ht]
 ·have hKl:(c.parts++ids c.bE).length=(c.bn n).kept:=by
   unfold St.kept C.bn ids;rw [List.length_append,g.pl,←List.countP_eq_length_filter,List.countP_map,List.length_map];have:c.bE.countP (fun x=>decide (0≤x))=c.bE.countP (Option.isSome ∘ fun x=>if x<0 then none else some (aQ c.d n x).1.s):=by
    apply List.countP_congr;intro x hx;simp only [Function.comp]
    by_cases h:x<0
    ·rw [if_pos h]; simp; omega
    ·rw [if_neg h]; simp; omega
   omega
  rw [←hKl,←List.length_append];refine oY ?_ ?_ (fun x=>?_)
  ·rw [List.nodup_append];refine ⟨gP _ _,gP _ _,fun a ha b hb e=>?_⟩;subst e;obtain ⟨i,rfl,hi,h0⟩:=ez.1 ha;obtain ⟨j,e,hj,h1⟩:=ez.1 hb;obtain rfl:i=j:=by omega
   omega
  ·rw [List.nodup_append];refine ⟨hp,gQ g.oj,fun a ha b hb e=>?_⟩;subst e;exact (g.dt a ha).2 (iH.1 hb).1
  ·rw [List.mem_append,List.mem_append,ez,ez,iH]
   constructor
   ·rintro (⟨i,rfl,hi,h0⟩ | ⟨i,rfl,hi,h0⟩)
    ·rw [g.md i hi] at h0;unfold bW at h0
     by_cases h1:(i:Int)∈c.parts
     ·exact .inl h1
     ·rw [if_neg h1] at h0
      by_cases h2:(i:Int)∈c.bE
      ·exact .inr ⟨h2,by omega⟩
      ·rw [if_neg h2] at h0
       split at h0<;>omega
    ·rw [g.md i hi] at h0;unfold bW at h0
     by_cases h1:(i:Int)∈c.parts
     ·exact .inl h1
     ·rw [if_neg h1] at h0
      by_cases h2:(i:Int)∈c.bE
      ·exact .inr ⟨h2,by omega⟩
      ·rw [if_neg h2] at h0
       split at h0<;>omega
   ·rintro (h1 | ⟨h1,h0⟩)
    ·have:=g.pi x h1;refine .inl ⟨x.toNat,by omega,by omega,?_⟩;rw [g.md _ (by omega),show ((x.toNat:Nat):Int)=x by omega];unfold bW;rw [if_pos h1]
    ·have:=g.oi x h1
     by_cases ht:x∈c.table
     ·refine .inl ⟨x.toNat,by omega,by omega,?_⟩;rw [g.md _ (by omega),show ((x.toNat:Nat):Int)=x by omega];unfold bW;rw [if_neg (fun h=>(g.dt x h).2 h1),if_pos h1,if_pos ht]
     ·refine .inr ⟨x.toNat,by omega,by omega,?_⟩;rw [g.md _ (by omega),show ((x.toNat:Nat):Int)=x by omega];unfold bW;rw [if_neg (fun h=>(g.dt x h).2 h1),if_pos h1,if_neg ht]
 ·have hl:(c.bn n).leaving=((ids c.bE).filter (fun x=>decide (x∉c.table))).length:=by
   have hol:(c.bn n).bE.length=c.bE.length:=by unfold C.bn; simp
   unfold St.leaving;rw [hol,zZ g _ (Nat.le_refl _),List.take_length];unfold ids;rw [List.filter_filter,←List.countP_eq_length_filter];apply List.countP_congr;intro x _;simp [and_comm]
  rw [hl];refine oY (gP _ _) ((gQ g.oj).sublist List.filter_sublist) (fun x=>?_);rw [ez,List.mem_filter,iH]
  constructor
  ·rintro ⟨i,rfl,hi,h0⟩;rw [g.md i hi] at h0;unfold bW at h0
   split at h0
   ·omega
   ·split at h0
    ·split at h0
     ·omega
     ·exact ⟨⟨by assumption,by omega⟩,by simpa⟩
    ·split at h0<;>omega
  ·rintro ⟨⟨ht,h0⟩,ho⟩;have ho:x∉c.table:=by simpa using ho
   have:=g.oi x ht;refine ⟨x.toNat,by omega,by omega,?_⟩;rw [g.md _ (by omega),show ((x.toNat:Nat):Int)=x by omega];unfold bW;rw [if_neg (fun h=>(g.dt x h).2 ht),if_pos ht,if_neg ho]
end Go.Proofs.YtmonobkginiajaaGreat.Sh
