/- packed. -/
import Derived.Test.YtmonobkginiajaaGreatQ7
import Derived.Test.YtmonobkginiajaaGreatQ6
import Derived.Deep.QuietTactic
import Derived.Defers
import Derived.Recover
set_option linter.all false
set_option maxRecDepth 100000
set_option maxHeartbeats 8000000
namespace Go.Proofs.YtmonobkginiajaaGreat.Sh
open Go.RowKit Pk Dk Pg
theorem oX: ∀(L M:List Int),L.Nodup→(∀x∈L,x∈M)→L.length≤M.length
 | [],_,_,_=>Nat.zero_le _
 | x::L,M,hn,hs=>by
  obtain ⟨h1,h2⟩:=List.nodup_cons.1 hn;have hx:x∈M:=hs x (List.mem_cons_self ..);have:=oX L (M.erase x) h2 (fun y hy=>(List.mem_erase_of_ne (fun e:y=x=>h1 (by rw [←e]; exact hy))).2 (hs y (List.mem_cons_of_mem _ hy)));rw [List.length_erase_of_mem hx] at this;have:0<M.length:=List.length_pos_of_mem hx;simp; omega
theorem oY {L M:List Int} (hl:L.Nodup) (hm:M.Nodup) (h: ∀x,x∈L↔x∈M):L.length=M.length:=
 Nat.le_antisymm (oX L M hl (fun x hx=>(h x).1 hx)) (oX M L hm (fun x hx=>(h x).2 hx))
theorem tx (l:List Int) (k:Int) (n:Nat) (x:Int):x∈Fm.eV l k n↔ ∃i:Nat,x=i∧i<n∧l.getD i 0=k:=by
 induction n with
 | zero=>simp [Fm.eV]
 | succ n ih=>
  simp only [Fm.eV,List.mem_append,ih]
  constructor
  ·rintro (⟨i,e,h,g⟩ | h)
   ·exact ⟨i,e,by omega,g⟩
   ·by_cases hk:l.getD n 0=k
    ·rw [if_pos hk] at h;exact ⟨n,by simpa using h,by omega,hk⟩
    ·rw [if_neg hk] at h;simp at h
  ·rintro ⟨i,e,h,g⟩
   rcases Nat.lt_succ_iff_lt_or_eq.1 h with h | rfl
   ·exact .inl ⟨i,e,h,g⟩
   ·rw [if_pos g]; exact .inr (by simpa using e)
theorem ez {l:List Int} {k:Int} {x:Int}:x∈Fm.eJ l k↔ ∃i:Nat,x=i∧i<l.length∧l.getD i 0=k:=tx l k l.length x
theorem yo (l:List Int) (k:Int) (n:Nat):(Fm.eV l k n).Nodup:=by
 induction n with
 | zero=>exact List.nodup_nil
 | succ n ih=>
  simp only [Fm.eV]
  split
  ·rw [List.nodup_append];refine ⟨ih,by simp,fun a ha b hb e=>?_⟩;obtain ⟨i,e1,h,_⟩:=(tx l k n a).1 ha;simp at hb;omega
  ·simpa using ih
theorem gP (l:List Int) (k:Int):(Fm.eJ l k).Nodup:=yo l k l.length
def upto:Nat→List Int
 | 0=>[]
 | n+1=>upto n++[(n:Int)]
theorem rq: ∀n,(upto n).length=n
 | 0=>rfl
 | n+1=>by simp [upto,rq n]
theorem zJ (n:Nat) (x:Int):x∈upto n↔0≤x∧x<n:=by
 induction n with
 | zero=>simp [upto]; try omega
 | succ n ih=>simp only [upto,List.mem_append,ih,List.mem_singleton]; omega
theorem CO (n:Nat):(upto n).Nodup:=by
 induction n with
 | zero=>exact List.nodup_nil
 | succ n ih=>
  simp only [upto];rw [List.nodup_append];refine ⟨ih,by simp,fun a ha b hb e=>?_⟩;have:=(zJ n a).1 ha;simp at hb;omega
def vC (t:List Int):Prop:= ∀(i j:Nat) (x:Int),t[i]?=some x→t[j]?=some x→0≤x→i=j
def ids (t:List Int):List Int:=t.filter (fun x=>decide (0≤x))
theorem iH {t:List Int} {x:Int}:x∈ids t↔x∈t∧0≤x:=by simp [ids]
theorem vC.tail {x:Int} {t:List Int} (h:vC (x::t)):vC t:=fun i j y hi hj h0=>by
 have:=h (i+1) (j+1) y (by simpa using hi) (by simpa using hj) h0;omega
theorem gQ: ∀{t:List Int},vC t→(ids t).Nodup
 | [],_=>List.nodup_nil
 | x::t,h=>by
  have ih:=gQ h.tail;unfold ids at ih ⊢;rw [List.filter_cons]
  split
  ·rename_i hx;rw [List.nodup_cons];refine ⟨fun hm=>?_,ih⟩;obtain ⟨hm,_⟩:=iH.1 hm;obtain ⟨k,hk⟩:=List.getElem?_of_mem hm;have:=h 0 (k+1) x rfl (by simpa using hk) (by simpa using hx);omega
  ·exact ih
theorem vC.bq {t:List Int} (h:vC t) (k:Nat) (u:Int) (hu:u<0∨u∉t):vC (t.set k u):=by
 intro i j x hi hj h0;rw [List.getElem?_set] at hi hj
 by_cases e1:k=i<;>by_cases e2:k=j
 ·omega
 ·rw [if_pos e1] at hi;rw [if_neg e2] at hj
  split at hi
  ·injection hi with hi
   subst hi
   rcases hu with hu | hu
   ·omega
   ·exact absurd (List.mem_of_getElem? hj) hu
  ·cases hi
 ·rw [if_neg e1] at hi;rw [if_pos e2] at hj
  split at hj
  ·injection hj with hj
   subst hj
   rcases hu with hu | hu
   ·omega
   ·exact absurd (List.mem_of_getElem? hi) hu
  ·cases hj
 ·rw [if_neg e1] at hi;rw [if_neg e2] at hj;exact h i j x hi hj h0
theorem vC.app {t:List Int} (h:vC t) (u:Int) (hu:u<0∨u∉t):vC (t++[u]):=by
 intro i j x hi hj h0;have key: ∀i,(t++[u])[i]?=some x→(t[i]?=some x)∨(i=t.length∧x=u):=by
  intro i hi
  rcases Nat.lt_trichotomy i t.length with hl | rfl | hl
  ·rw [List.getElem?_append_left hl] at hi; exact .inl hi
  ·rw [List.getElem?_append_right (Nat.le_refl _)] at hi;simp at hi;exact .inr ⟨rfl,hi.symm⟩
  ·rw [List.getElem?_append_right (by omega),List.getElem?_eq_none (by simp; omega)] at hi; cases hi
 rcases key i hi with a | ⟨a,b⟩<;>rcases key j hj with c | ⟨c,d⟩
 ·exact h i j x a c h0
 ·subst d
  rcases hu with hu | hu
  ·omega
  ·exact absurd (List.mem_of_getElem? a) hu
 ·subst b
  rcases hu with hu | hu
  ·omega
  ·exact absurd (List.mem_of_getElem? c) hu
 ·omega
theorem zK {t:List Int} {k:Nat} {u x:Int} (h:vC t) (hk:t[k]?=some u) (v:Int) (h0:0≤x) (hv:v<0) (hu:0≤u):x∈t.set k v↔x∈t∧x≠u:=by
 constructor
 ·intro hx;obtain ⟨i,hi⟩:=List.getElem?_of_mem hx;rw [List.getElem?_set] at hi
  by_cases e:k=i
  ·rw [if_pos e] at hi
   split at hi
   ·injection hi with hi; omega
   ·cases hi
  ·rw [if_neg e] at hi;refine ⟨List.mem_of_getElem? hi,fun e2=>e ?_⟩;subst e2;exact h k i x hk hi h0
 ·rintro ⟨hx,eg⟩;obtain ⟨i,hi⟩:=List.getElem?_of_mem hx;have:(t.set k v)[i]?=some x:=by
   rw [List.getElem?_set,if_neg (fun e=>eg (by subst e; rw [hk] at hi; injection hi with hi; exact hi.symm))];exact hi
  exact List.mem_of_getElem? this
end Go.Proofs.YtmonobkginiajaaGreat.Sh
namespace Go.Proofs.YtmonobkginiajaaGreat.Sh
open Go.RowKit Pk Dk Pg
structure St where
 many:Nat
 now:List (Option (Bool×List UInt8))
 bE:List (Option (List UInt8))
 ep:Int
def dZ:Option (Bool×List UInt8)→Bool
 | some (b,_)=>b
 | none=>false
def bP (k:Nat):Nat:=(k+115) / 116
def St.fresh (a:St):Nat:=a.now.countP dZ
def St.kept (a:St):Nat:=a.bE.countP Option.isSome+bP a.bE.length
def St.free (a:St):Nat:=a.many-a.kept-a.fresh
def St.slot (a:St):Nat:=a.now.findIdx Option.isNone
def kY {α:Type} (t:List α) (l:Nat) (u:α):List α:=if l=t.length then t++[u] else t.set l u
def St.at (a:St) (l:Int):Option (Bool×List UInt8):=if 0≤l then (a.now[l.toNat]?).getD none else none
def St.bm (a:St) (p:List UInt8):St×Int×Int:=
 if 232<p.length then (a,0,4)
 else if 512≤a.slot∨a.free=0 then (a,0,11)
 else ({a with now:=kY a.now a.slot (some (true,dA p 232))},(a.slot:Nat),0)
def St.aE (a:St) (l:Int):St×Int:=if (a.at l).isSome=true then ({a with now:=a.now.set l.toNat none},0) else (a,3)
def St.aD (a:St) (l:Int):List UInt8×Int:=match a.at l with
 | some (_,b)=>(b,0)
 | none=>([],3)
def JN (d:D) (n:Nat) (x ep:Int):Prop:= ∃q s,0≤q∧q≤ep∧s.length=232∧aQ d n x=(⟨x,q,2,s⟩,0)
def bW (c:C) (x:Int):Int:=if x∈c.parts then 1 else if x∈c.bE then (if x∈c.table then 1 else 3) else if x∈c.table then 2 else 0
structure Good (c:C) (n:Nat):Prop where
 up:c.d.down=false
 arm:c.d.aP=0
 br:c.broken=false
 ok:c.d.Ok n
 ml:c.m.length=dJ n
 ep:1≤c.ep∧c.ep<1099511627776
 sl:c.slot=0∨c.slot=1
 ti: ∀x∈c.table,x= -1∨(0≤x∧x<c.m.length)
 oi: ∀x∈c.bE,x= -1∨(0≤x∧x<c.m.length)
 pi: ∀x∈c.parts,0≤x∧x<c.m.length
 tj:vC c.table
 oj:vC c.bE
 pj:vC c.parts
 dt: ∀x∈c.parts,x∉c.table∧x∉c.bE
 pl:c.parts.length=bP c.bE.length
 sm: ∀(i:Nat) (x:Int),c.table[i]?=some x→0≤x→x∈c.bE→c.bE[i]?=some x
 md: ∀i:Nat,i<c.m.length→c.m.getD i 0=bW c i
 rt: ∀x∈c.table,0≤x→JN c.d n x (c.ep+1)
 ro: ∀x∈c.bE,0≤x→JN c.d n x c.ep
def C.cy (c:C) (n:Nat) (x:Int):Option (Bool×List UInt8):=if x<0 then none else some (decide (x∉c.bE),(aQ c.d n x).1.s)
def C.bn (c:C) (n:Nat):St:={many:=c.m.length,now:=c.table.map (c.cy n),bE:=c.bE.map fun x=>if x<0 then none else some (aQ c.d n x).1.s,ep:=c.ep}
theorem jK {c:C} {n:Nat} (g:Good c n):(Fm.eJ c.m 0).length=(c.bn n).free∧(c.bn n).fresh+(c.bn n).kept≤c.m.length:=by
 obtain ⟨F,hF⟩: ∃F,F=(ids c.table).filter (fun x=>decide (x∉c.bE)):=⟨_,rfl⟩;have hFl:F.length=(c.bn n).fresh:=by
  rw [hF];unfold St.fresh C.bn ids;rw [List.filter_filter,←List.countP_eq_length_filter,List.countP_map];apply List.countP_congr;intro x hx;simp only [Function.comp,C.cy]
  by_cases h:x<0
  ·rw [if_pos h]; simp [dZ]; omega
  ·rw [if_neg h]; simp [dZ]; omega
 have hKl:(c.parts++ids c.bE).length=(c.bn n).kept:=by
  unfold St.kept C.bn ids;rw [List.length_append,g.pl,←List.countP_eq_length_filter,List.countP_map,List.length_map];have:c.bE.countP (fun x=>decide (0≤x))=c.bE.countP (Option.isSome ∘ fun x=>if x<0 then none else some (aQ c.d n x).1.s):=by
   apply List.countP_congr;intro x hx;simp only [Function.comp]
   by_cases h:x<0
   ·rw [if_pos h]; simp; omega
   ·rw [if_neg h]; simp; omega
  omega
 have hmF: ∀x,x∈F↔x∈c.table∧0≤x∧x∉c.bE:=by
  intro x;rw [hF,List.mem_filter,iH];simp [and_assoc]
 have wg:(Fm.eJ c.m 0++F++(c.parts++ids c.bE)).Nodup:=by
  rw [List.nodup_append,List.nodup_append,List.nodup_append];have hp:c.parts.Nodup:=by
   have:=gQ g.pj
   rwa [show ids c.parts=c.parts from List.filter_eq_self.2 (fun x hx=>by simpa using (g.pi x hx).1)] at this
  refine ⟨⟨gP _ _,?_,?_⟩,⟨hp,gQ g.oj,?_⟩,?_⟩
  ·rw [hF]; exact (gQ g.tj).sublist List.filter_sublist
  ·intro x hx y hy e;subst e;obtain ⟨i,rfl,hi,h0⟩:=ez.1 hx;rw [g.md i hi] at h0;obtain ⟨h1,h2,h3⟩:=(hmF _).1 hy;unfold bW at h0;rw [if_neg h3,if_pos h1] at h0
   split at h0<;>omega
  ·intro x hx y hy e;subst e;exact (g.dt x hx).2 (iH.1 hy).1
  ·intro x hx y hy e;subst e
   rcases List.mem_append.1 hx with hx | hx
   ·obtain ⟨i,rfl,hi,h0⟩:=ez.1 hx;rw [g.md i hi] at h0;unfold bW at h0
    rcases List.mem_append.1 hy with hy | hy
    ·rw [if_pos hy] at h0; omega
    ·rw [if_pos (iH.1 hy).1] at h0
     split at h0
     ·omega
     ·split at h0<;>omega
   ·obtain ⟨h1,h2,h3⟩:=(hmF _).1 hx
    rcases List.mem_append.1 hy with hy | hy
    ·exact (g.dt x hy).1 h1
    ·exact h3 (iH.1 hy).1
 have hlen:=oY wg (CO c.m.length) (fun x=>by
  rw [zJ,List.mem_append,List.mem_append,List.mem_append,ez,hmF,iH]
  constructor
  ·rintro ((⟨i,rfl,hi,_⟩ | ⟨h1,h2,_⟩) | (h | ⟨h1,h2⟩))
   ·omega
   ·have:=g.ti x h1; omega
   ·exact g.pi x h
   ·have:=g.oi x h1; omega
  ·rintro ⟨h0,h1⟩
   by_cases a1:x∈c.parts
   ·exact .inr (.inl a1)
   by_cases a2:x∈c.bE
   ·exact .inr (.inr ⟨a2,h0⟩)
   by_cases a3:x∈c.table
   ·exact .inl (.inr ⟨a3,h0,a2⟩)
   refine .inl (.inl ⟨x.toNat,by omega,by omega,?_⟩);rw [g.md _ (by omega),show ((x.toNat:Nat):Int)=x by omega];unfold bW;rw [if_neg a1,if_neg a2,if_neg a3])
 rw [rq,List.length_append,List.length_append,hKl,hFl] at hlen;refine ⟨?_,by omega⟩;unfold St.free;show _=c.m.length-_-_;omega
end Go.Proofs.YtmonobkginiajaaGreat.Sh
namespace Go.Proofs.YtmonobkginiajaaGreat.Sh
open Go.RowKit Pk Dk Pg
theorem ru {α β:Type} (f:α→β) (p:β→Bool) (q:α→Bool): ∀(t:List α),(∀x∈t,p (f x)=q x)→(t.map f).findIdx p=t.findIdx q
 | [],_=>rfl
 | x::t,h=>by
  have h0:=h x (List.mem_cons_self ..);have ih:=ru f p q t (fun y hy=>h y (List.mem_cons_of_mem _ hy));rw [List.map_cons,List.findIdx_cons,List.findIdx_cons,h0,ih]
theorem JO {t:List Int} (h:fP t<t.length):t[fP t]?=some (-1):=by
 unfold fP Fm.cm at h ⊢;have:=List.findIdx_getElem (p:=(· ==(-1:Int))) (xs:=t) (w:=h);rw [List.getElem?_eq_getElem h];simpa using this
theorem ku {α:Type} (t:List α) (l:Nat) (u:α) (hl:l≤t.length) (i:Nat):(kY t l u)[i]?=if i=l then some u else t[i]?:=by
 unfold kY
 by_cases h:l=t.length
 ·rw [if_pos h];subst h
  rcases Nat.lt_trichotomy i t.length with h1 | rfl | h1
  ·rw [if_neg (by omega),List.getElem?_append_left h1]
  ·rw [if_pos rfl,List.getElem?_append_right (Nat.le_refl _)]; simp
  ·rw [if_neg (by omega),List.getElem?_append_right (by omega),List.getElem?_eq_none (by simp; omega),List.getElem?_eq_none (by omega)]
 ·rw [if_neg h,List.getElem?_set]
  by_cases e:l=i
  ·subst e; rw [if_pos rfl,if_pos (by omega),if_pos rfl]
  ·rw [if_neg e,if_neg (by omega)]
theorem sr (t:List Int) (l:Nat) (u:Int):nO t l u=kY t l u:=rfl
theorem JP {t:List Int} {u x:Int} (h0:0≤x):x∈nO t (fP t) u↔x=u∨x∈t:=by
 rw [sr];have hl:=th t
 constructor
 ·intro hx;obtain ⟨i,hi⟩:=List.getElem?_of_mem hx;rw [ku t _ u hl] at hi
  split at hi
  ·injection hi with hi; exact .inl hi.symm
  ·exact .inr (List.mem_of_getElem? hi)
 ·rintro (rfl | hx)
  ·have:=ku t _ x hl (fP t);rw [if_pos rfl] at this;exact List.mem_of_getElem? this
  ·obtain ⟨i,hi⟩:=List.getElem?_of_mem hx;have:=ku t _ u hl i;rw [if_neg] at this
   ·exact List.mem_of_getElem? (this.trans hi)
   ·rintro rfl;have dL:fP t<t.length:=(List.getElem?_eq_some_iff.1 hi).1;rw [JO dL] at hi;injection hi with hi
    omega
theorem vC.nO {t:List Int} (h:vC t) (l:Nat) (u:Int) (hu:u∉t):vC (nO t l u):=by
 unfold Sh.nO
 split
 ·exact h.app u (.inr hu)
 ·exact h.bq l u (.inr hu)
theorem JQ {α β:Type} (f:α→β) (t:List α) (l:Nat) (u:α):(kY t l u).map f=kY (t.map f) l (f u):=by
 unfold kY;rw [List.length_map]
 split
 ·simp
 ·rw [List.map_set]
theorem CQ {α β:Type} (f g:α→β) (t:List α) (l:Nat) (u:β) (h: ∀x∈t,f x=g x):kY (t.map f) l u=kY (t.map g) l u:=by
 rw [List.map_congr_left h]
theorem JR {c:C} {n:Nat} (g:Good c n):(c.bn n).slot=fP c.table:=by
 unfold St.slot C.bn fP Fm.cm;refine ru _ _ _ _ (fun x hx=>?_);unfold C.cy
 rcases g.ti x hx with rfl | ⟨h0,_⟩
 ·simp
 ·rw [if_neg (by omega)];simp; omega
theorem qh {c:C} {n:Nat} (g:Good c n) (hf:(c.bn n).free≠0): ∃k:Nat,k<c.m.length∧bW c k=0∧Fm.bV c.m=(c.m.set k 2,((k:Nat):Int),0):=by
 have hl:=(jK g).1;obtain ⟨x,hx⟩: ∃x,x∈Fm.eJ c.m 0:=by
  cases h:Fm.eJ c.m 0 with
  | nil=>rw [h] at hl; simp at hl; omega
  | cons x l=>exact ⟨x,List.mem_cons_self ..⟩
 obtain ⟨i,rfl,hi,h0⟩:=ez.1 hx;have dL:Fm.cm c.m 0<c.m.length:=by
  unfold Fm.cm;rw [List.findIdx_lt_length];refine ⟨c.m[i],List.getElem_mem hi,?_⟩;simp [List.getD,List.getElem?_eq_getElem hi] at h0;simp [h0]
 refine ⟨Fm.cm c.m 0,dL,?_,by unfold Fm.bV; rw [if_pos dL]⟩;rw [←g.md _ dL];have:=List.findIdx_getElem (p:=(· ==(0:Int))) (xs:=c.m) (w:=dL);simp [List.getD];unfold Fm.cm at dL ⊢;rw [List.getElem?_eq_getElem dL];simpa using this
theorem qk {c:C} {n:Nat} (g:Good c n) (hf:(c.bn n).free=0):Fm.bV c.m=(c.m,0,11):=by
 have hl:=(jK g).1;rw [hf] at hl;unfold Fm.bV;rw [if_neg];intro dL;have:=List.findIdx_getElem (p:=(· ==(0:Int))) (xs:=c.m) (w:=dL);have hm:((Fm.cm c.m 0:Nat):Int)∈Fm.eJ c.m 0:=ez.2 ⟨_,rfl,dL,by
  simp [List.getD];unfold Fm.cm at dL ⊢;rw [List.getElem?_eq_getElem dL];simpa using this⟩
 rw [List.eq_nil_of_length_eq_zero hl] at hm;simp at hm
theorem zL {c:C} {x:Int} (h:bW c x=0):x∉c.parts∧x∉c.bE∧x∉c.table:=by
 unfold bW at h
 split at h
 ·omega
 ·split at h
  ·split at h<;>omega
  ·split at h
   ·omega
   ·exact ⟨by assumption,by assumption,by assumption⟩
theorem gR {c:C} {n:Nat} (g:Good c n) {k:Nat} (h:k<c.m.length):k<bC n:=by
 have:=g.ml;unfold dJ at this;omega
theorem nP {d:D} {n:Nat} (h:d.Ok n) (id ep kd:Int) (s:List UInt8):(aO d n id ep kd s).1.Ok n:=by
 unfold aO
 split
 ·exact h
 ·split
  ·exact h
  ·exact sV h _ _ _
theorem tA {c:C} {n:Nat} (g:Good c n) {k:Nat} (hk:k<c.m.length) (h0:bW c k=0) (p:List UInt8) (hp:p.length≤232):
  (aO c.d n k (c.ep+1) 2 p).2=0∧ ∀d',d'=(aO c.d n k (c.ep+1) 2 p).1→d'.down=false∧d'.aP=0∧d'.Ok n∧d'.calls≤c.d.calls+4∧aQ d' n k=(⟨k,c.ep+1,2,dA p 232⟩,0)∧
   (∀x∈c.table,0≤x→aQ d' n x=aQ c.d n x)∧ ∀x∈c.bE,0≤x→aQ d' n x=aQ c.d n x:=by
 have e:=g.ep;obtain ⟨h1,h2,h3,h4,h5⟩:=jI g.ok g.up g.arm k (c.ep+1) 2 p (gR g hk) (by rw [kR]; omega) hp;obtain ⟨z1,z2,z3⟩:=zL h0;refine ⟨h1,fun d' hd=>?_⟩;subst hd;refine ⟨h2,h3,nP g.ok _ _ _ _,(mD _ _ _ _ _ _ (by rw [g.arm]; omega)).1,h4,fun x hx yp=>?_,fun x hx yp=>?_⟩
 ·have:=g.ti x hx;have:=h5 x.toNat (gR g (by omega)) (fun e=>z3 (by rw [←e]; rwa [show ((x.toNat:Nat):Int)=x by omega]))
  rwa [show ((x.toNat:Nat):Int)=x by omega] at this
 ·have:=g.oi x hx;have:=h5 x.toNat (gR g (by omega)) (fun e=>z2 (by rw [←e]; rwa [show ((x.toNat:Nat):Int)=x by omega]))
  rwa [show ((x.toNat:Nat):Int)=x by omega] at this
theorem lS (p:List UInt8) (h:p.length≤232):(dA p 232).length=232:=by unfold dA; simp; omega
theorem gS (l:List Int) (k:Nat) (x:Int) (i:Nat) (hi:i<l.length):(l.set k x).getD i 0=if k=i then x else l.getD i 0:=by
 simp only [List.getD,List.getElem?_set]
 by_cases h:k=i
 ·subst h; simp [hi]
 ·simp [h]
theorem new_ok {c:C} {n:Nat} (g:Good c n) {k:Nat} (hk:k<c.m.length) (h0:bW c k=0) (p:List UInt8) (hp:p.length≤232) {d':D} (hd:d'=(aO c.d n k (c.ep+1) 2 p).1) {c':C} (hc:c'={c with m:=c.m.set k 2,d:=d',table:=nO c.table (fP c.table) k}):
  Good c' n∧c'.bn n={c.bn n with now:=kY (c.bn n).now (fP c.table) (some (true,dA p 232))}:=by
 obtain ⟨_,W⟩:=tA g hk h0 p hp;obtain ⟨w1,w2,w3,w4,w5,w6,w7⟩:=W d' hd;obtain ⟨z1,z2,z3⟩:=zL h0;have y9:=g.ep;have mt: ∀x,0≤x→(x∈c'.table↔x=k∨x∈c.table):=fun x hx=>by subst hc; exact JP hx
 have vB:=th c.table;have JS: ∀x:Int,0≤x→bW c' x=if x=k then 2 else bW c x:=by
  intro x hx;unfold bW
  by_cases e:x=k
  ·rw [if_pos e];subst e;rw [if_neg (by subst hc; exact z1),if_neg (by subst hc; exact z2),if_pos ((mt _ hx).2 (.inl rfl))]
  ·rw [if_neg e];have:(x∈c'.table)↔x∈c.table:=(mt x hx).trans ⟨fun h=>h.resolve_left e,.inr⟩;rw [show c'.parts=c.parts from by rw [hc],show c'.bE=c.bE from by rw [hc]];simp only [this]
 refine ⟨⟨by rw [hc]; exact w1,by rw [hc]; exact w2,by rw [hc]; exact g.br,by rw [hc]; exact w3,?_,by rw [hc]; exact g.ep,by rw [hc]; exact g.sl,?_,?_,?_,?_,by rw [hc]; exact g.oj,by rw [hc]; exact g.pj,?_,by rw [hc]; exact g.pl,?_,?_,?_,?_⟩,?_⟩
 ·rw [hc]; show (c.m.set k 2).length=_; rw [List.length_set]; exact g.ml
 ·intro x hx;have nj:c'.m.length=c.m.length:=by rw [hc]; show (c.m.set k 2).length=_; rw [List.length_set]
  rw [nj]
  by_cases h:0≤x
  ·rcases (mt x h).1 hx with rfl | hx
   ·omega
   ·exact g.ti x hx
  ·obtain ⟨i,hi⟩:=List.getElem?_of_mem hx;rw [hc] at hi;have hi:(nO c.table (fP c.table) k)[i]?=some x:=hi;rw [sr,ku _ _ _ vB] at hi
   split at hi
   ·injection hi with hi; omega
   ·exact g.ti x (List.mem_of_getElem? hi)
 ·intro x hx;rw [hc] at hx ⊢;show _∨_∧x<((c.m.set k 2).length:Int);rw [List.length_set]; exact g.oi x hx
 ·intro x hx;rw [hc] at hx ⊢;show _∧x<((c.m.set k 2).length:Int);rw [List.length_set]; exact g.pi x hx
 ·rw [hc]; exact g.tj.nO _ _ z3
 ·intro x hx;have h:=g.dt x (by rw [hc] at hx; exact hx);have yp:=(g.pi x (by rw [hc] at hx; exact hx)).1;refine ⟨fun h1=>?_,by rw [hc]; exact h.2⟩
  rcases (mt x yp).1 h1 with rfl | h1
  ·rw [hc] at hx; exact z1 hx
  ·exact h.1 h1
 ·intro i x hi hx ho;rw [hc] at hi ho ⊢;have hi:(nO c.table (fP c.table) k)[i]?=some x:=hi;rw [sr,ku _ _ _ vB] at hi
  split at hi
  ·injection hi with hi
   subst hi;exact absurd ho z2
  ·exact g.sm i x hi hx ho
 ·intro i hi;have hi:i<c.m.length:=by rw [hc] at hi; simpa using hi
  rw [JS i (by omega),←g.md i hi,hc];show (c.m.set k 2).getD i 0=_;rw [gS _ _ _ _ hi]
  by_cases e:k=i
  ·rw [if_pos e,if_pos (by omega)]
  ·rw [if_neg e,if_neg (by omega)]
 ·intro x hx yp
  rcases (mt x yp).1 hx with rfl | hx
  ·rw [hc]; exact ⟨c.ep+1,_,by omega,Int.le_refl _,lS p hp,w5⟩
  ·obtain ⟨q,s,q1,q2,q3,q4⟩:=g.rt x hx yp;rw [hc];exact ⟨q,s,q1,q2,q3,(w6 x hx yp).trans q4⟩
 ·intro x hx yp;rw [hc] at hx ⊢;obtain ⟨q,s,q1,q2,q3,q4⟩:=g.ro x hx yp;exact ⟨q,s,q1,q2,q3,(w7 x hx yp).trans q4⟩
 ·rw [hc];unfold C.bn;simp only [List.length_set,St.mk.injEq,true_and,and_true];refine ⟨?_,?_⟩
  ·rw [sr,JQ];have e1:C.cy {c with m:=c.m.set k 2,d:=d',table:=kY c.table (fP c.table) k} n (k:Int)=some (true,dA p 232):=by
    unfold C.cy;rw [if_neg (by omega)];simp only [w5];simp [z2]
   rw [e1];refine CQ _ _ _ _ _ (fun x hx=>?_);unfold C.cy
   by_cases h:x<0
   ·rw [if_pos h,if_pos h]
   ·rw [if_neg h,if_neg h];simp only [w6 x hx (by omega)]
  ·refine List.map_congr_left (fun x hx=>?_)
   by_cases h:x<0
   ·rw [if_pos h,if_pos h]
   ·rw [if_neg h,if_neg h];simp only [w7 x hx (by omega)]
theorem JT {c:C} {n:Nat} (g:Good c n) (p:List UInt8):
  Good (c.bm n p).1 n∧(c.bm n p).1.bn n=((c.bn n).bm p).1∧(c.bm n p).2=((c.bn n).bm p).2∧(c.bm n p).1.d.calls≤c.d.calls+4∧(c.bm n p).1.bE=c.bE∧(c.bm n p).1.parts=c.parts:=by
 unfold C.bm St.bm;rw [if_neg (by rw [g.br]; simp),JR g]
 by_cases h1:232<p.length
 ·rw [if_pos h1,if_pos h1];exact ⟨g,rfl,rfl,by show c.d.calls≤_; omega,rfl,rfl⟩
 rw [if_neg h1,if_neg h1]
 by_cases h2:512≤fP c.table
 ·rw [if_pos h2,if_pos (.inl h2)];exact ⟨g,rfl,rfl,by show c.d.calls≤_; omega,rfl,rfl⟩
 rw [if_neg h2]
 by_cases h3:(c.bn n).free=0
 ·have ht:=qk g h3;have hf:c.bu n p=(c,0,11):=by
   unfold C.bu;rw [ht,if_pos (by simp)]
  rw [hf,if_pos (by simp),if_pos (.inr h3)];exact ⟨g,rfl,rfl,by show c.d.calls≤_; omega,rfl,rfl⟩
 ·obtain ⟨k,hk,h0,ht⟩:=qh g h3;obtain ⟨W0,W⟩:=tA g hk h0 p (by omega);have hf:c.bu n p=({c with m:=c.m.set k 2,d:=(aO c.d n k (c.ep+1) 2 p).1},(k:Int),0):=by
   unfold C.bu;rw [ht,if_neg (by simp),if_neg (by rw [W0]; simp)]
  rw [hf,if_neg (by simp),if_neg (by omega)];obtain ⟨G,e⟩:=new_ok g hk h0 p (by omega) rfl (c':={c with m:=c.m.set k 2,d:=(aO c.d n k (c.ep+1) 2 p).1,table:=nO c.table (fP c.table) k}) rfl;exact ⟨G,e,rfl,(W _ rfl).2.2.2.1,rfl,rfl⟩
end Go.Proofs.YtmonobkginiajaaGreat.Sh
namespace Go.Proofs.YtmonobkginiajaaGreat.Sh
open Go.RowKit Pk Dk Pg
theorem abs_at {c:C} {n:Nat} (l:Int):(c.bn n).at l=if 0≤l then ((c.table[l.toNat]?).map (c.cy n)).getD none else none:=by
 unfold St.at C.bn;simp only [List.getElem?_map]
theorem ss {c:C} {n:Nat} (g:Good c n) (l:Int):(c.nm l=true↔((c.bn n).at l).isSome=true)∧(c.nm l=true→ ∃k x:Nat,l=k∧c.table[k]?=some (x:Int)∧(x:Int)<c.m.length∧(c.bn n).at l=c.cy n x):=by
 rw [abs_at];have key:c.nm l=true↔0≤l∧ ∃x,c.table[l.toNat]?=some x∧0≤x:=by
  unfold C.nm;simp only [Bool.and_eq_true,decide_eq_true_eq]
  constructor
  ·rintro ⟨⟨h1,h2⟩,h3⟩;refine ⟨h1,c.table.getD l.toNat 0,?_,h3⟩;rw [List.getElem?_eq_getElem (by omega)];simp [List.getD,List.getElem?_eq_getElem (show l.toNat<c.table.length by omega)]
  ·rintro ⟨h1,x,h2,h3⟩;have hl:l.toNat<c.table.length:=(List.getElem?_eq_some_iff.1 h2).1;refine ⟨⟨h1,by omega⟩,?_⟩;simp [List.getD,h2]; exact h3
 rw [key]
 constructor
 ·constructor
  ·rintro ⟨h1,x,h2,h3⟩;rw [if_pos h1,h2];simp [C.cy]; omega
  ·intro h
   by_cases h1:0≤l
   ·rw [if_pos h1] at h;refine ⟨h1,?_⟩
    cases h2:c.table[l.toNat]? with
    | none=>rw [h2] at h; simp at h
    | some x=>
     refine ⟨x,rfl,?_⟩;rw [h2] at h;simp [C.cy] at h;omega
   ·rw [if_neg h1] at h; simp at h
 ·rintro ⟨h1,x,h2,h3⟩;have:=g.ti x (List.mem_of_getElem? h2);obtain ⟨xn,rfl⟩:=Int.eq_ofNat_of_zero_le h3;refine ⟨l.toNat,xn,by omega,h2,by omega,?_⟩;rw [if_pos h1,h2]; rfl
theorem tC {c:C} {n:Nat} (g:Good c n) (l:Int):c.gI l=if c.nm l=true then 0 else 3:=by
 unfold C.gI;rw [if_neg (by rw [g.br]; simp)]
theorem ql {c:C} {n:Nat} (g:Good c n) (l:Int):c.aD n l=(c.bn n).aD l:=by
 obtain ⟨h1,h2⟩:=ss g l;unfold C.aD St.aD;rw [tC g]
 by_cases hh:c.nm l=true
 ·obtain ⟨k,x,rfl,hk,hx,e⟩:=h2 hh;rw [if_pos hh,if_neg (by simp),e];obtain ⟨q,s,q1,q2,q3,q4⟩:=g.rt x (List.mem_of_getElem? hk) (by omega);have e2:c.table.getD ((k:Nat):Int).toNat 0=(x:Int):=by rw [show ((k:Nat):Int).toNat=k by omega]; simp [List.getD,hk]
  rw [e2,q4,if_neg (by simp)];unfold C.cy;rw [if_neg (by omega),q4]
 ·rw [if_neg hh,if_pos (by simp)];have:((c.bn n).at l)=none:=by
   cases h:(c.bn n).at l with
   | none=>rfl
   | some v=>exact absurd (h1.2 (by rw [h]; rfl)) hh
  rw [this]
theorem zM {c:C} {n:Nat} (g:Good c n) {l:Int} (h:((c.bn n).aD l).2=0):((c.bn n).aD l).1.length=232:=by
 obtain ⟨h1,h2⟩:=ss g l
 by_cases hh:c.nm l=true
 ·obtain ⟨k,x,rfl,hk,hx,e⟩:=h2 hh;obtain ⟨q,s,q1,q2,q3,q4⟩:=g.rt x (List.mem_of_getElem? hk) (by omega);unfold St.aD;rw [e];unfold C.cy;rw [if_neg (by omega),q4];exact q3
 ·have:((c.bn n).at l)=none:=by
   cases h:(c.bn n).at l with
   | none=>rfl
   | some v=>exact absurd (h1.2 (by rw [h]; rfl)) hh
  unfold St.aD at h;rw [this] at h;simp at h
theorem Gw {c:C} {n:Nat} (g:Good c n) (l:Int):
  Good (c.aE l).1 n∧(c.aE l).1.bn n=((c.bn n).aE l).1∧(c.aE l).2=((c.bn n).aE l).2∧(c.aE l).1.d=c.d∧(c.aE l).1.bE=c.bE∧(c.aE l).1.parts=c.parts:=by
 obtain ⟨h1,h2⟩:=ss g l;unfold C.aE St.aE;rw [tC g]
 by_cases hh:c.nm l=true
 ·obtain ⟨k,x,rfl,hk,hx,e⟩:=h2 hh;have e2:c.table.getD ((k:Nat):Int).toNat 0=(x:Int):=by rw [show ((k:Nat):Int).toNat=k by omega]; simp [List.getD,hk]
  have hxt:=List.mem_of_getElem? hk;have hxp:(x:Int)∉c.parts:=fun h=>(g.dt _ h).1 hxt;rw [if_pos hh,if_neg (by simp),if_pos (h1.1 hh),e2,show ((k:Nat):Int).toNat=k by omega];have ET:x<c.m.length:=by omega
  have nA:Fm.vL c.m (x:Int)=true:=by unfold Fm.vL; simp; omega
  have hkx:=g.md x ET;obtain ⟨u,hu,hu2⟩: ∃u,(Fm.cF c.m (x:Int)).1=c.m.set x u∧u=if (x:Int)∈c.bE then 3 else 0:=by
   unfold Fm.cF;rw [if_pos nA,show ((x:Nat):Int).toNat=x by omega,hkx];unfold bW;rw [if_neg hxp]
   by_cases ho:(x:Int)∈c.bE
   ·rw [if_pos ho,if_pos hxt,if_neg (by omega),if_pos rfl];exact ⟨3,rfl,by rw [if_pos ho]⟩
   ·rw [if_neg ho,if_pos hxt,if_pos rfl];exact ⟨0,rfl,by rw [if_neg ho]⟩
  obtain ⟨c',hc⟩: ∃c':C,c'={c with m:=(Fm.cF c.m (x:Int)).1,table:=c.table.set k (-1)}:=⟨_,rfl⟩;have nj:c'.m.length=c.m.length:=by rw [hc]; show (Fm.cF c.m (x:Int)).1.length=_; rw [hu,List.length_set]
  have mt: ∀z,0≤z→(z∈c'.table↔z∈c.table∧z≠x):=fun z hz=>by rw [hc]; exact zK g.tj hk (-1) hz (by omega) (by omega)
  have jY: ∀z∈c'.table,0≤z→z∈c.table:=fun z hz h0=>((mt z h0).1 hz).1;have JS: ∀z:Int,0≤z→bW c' z=if z=x then u else bW c z:=by
   intro z hz;unfold bW;have e3:c'.parts=c.parts:=by rw [hc]
   have e4:c'.bE=c.bE:=by rw [hc]
   rw [e3,e4]
   by_cases e:z=x
   ·rw [if_pos e];subst e;rw [if_neg hxp,hu2];have:(x:Int)∉c'.table:=fun h=>((mt _ hz).1 h).2 rfl;simp only [this,if_false]
   ·rw [if_neg e];have:(z∈c'.table)↔z∈c.table:=(mt z hz).trans ⟨fun h=>h.1,fun h=>⟨h,e⟩⟩;simp only [this]
  show Good {c with m:=(Fm.cF c.m (x:Int)).1,table:=c.table.set k (-1)} n∧_;refine ⟨?_,?_,rfl,rfl,rfl,rfl⟩
  ·rw [←hc];refine ⟨by rw [hc]; exact g.up,by rw [hc]; exact g.arm,by rw [hc]; exact g.br,by rw [hc]; exact g.ok,nj.trans g.ml,by rw [hc]; exact g.ep,by rw [hc]; exact g.sl,?_,by rw [nj,hc]; exact g.oi,by rw [nj,hc]; exact g.pi,by rw [hc]; exact g.tj.bq k (-1) (.inl (by omega)),by rw [hc]; exact g.oj,by rw [hc]; exact g.pj,?_,by rw [hc]; exact g.pl,?_,?_,?_,by rw [hc]; exact g.ro⟩
   ·intro z hz;rw [nj]
    by_cases h0:0≤z
    ·exact g.ti z (jY z hz h0)
    ·rw [hc] at hz
     rcases List.mem_or_eq_of_mem_set hz with hz | rfl
     ·exact g.ti z hz
     ·exact .inl rfl
   ·intro z hz;have hz':z∈c.parts:=by rw [hc] at hz; exact hz
    exact ⟨fun h=>(g.dt z hz').1 (jY z h (g.pi z hz').1),by rw [hc]; exact (g.dt z hz').2⟩
   ·intro i z hi hz ho;rw [hc] at hi ho ⊢;have hi:(c.table.set k (-1))[i]?=some z:=hi;rw [List.getElem?_set] at hi
    split at hi
    ·split at hi
     ·injection hi with hi; omega
     ·cases hi
    ·exact g.sm i z hi hz ho
   ·intro i hi;rw [nj] at hi;rw [JS i (by omega),←g.md i hi];have:c'.m=c.m.set x u:=by rw [hc]; exact hu
    rw [this,gS _ _ _ _ hi]
    by_cases e:x=i
    ·rw [if_pos e,if_pos (by omega)]
    ·rw [if_neg e,if_neg (by omega)]
   ·intro z hz h0;rw [hc];rw [hc] at hz;exact g.rt z (jY z (by rw [hc]; exact hz) h0) h0
  ·unfold C.bn;simp only [hu,List.length_set,St.mk.injEq,true_and,and_true];rw [List.map_set];rfl
 ·have:((c.bn n).at l)=none:=by
   cases h:(c.bn n).at l with
   | none=>rfl
   | some v=>exact absurd (h1.2 (by rw [h]; rfl)) hh
  rw [if_neg hh,if_pos (by simp),this,if_neg (by simp)];exact ⟨g,rfl,rfl,rfl,rfl,rfl⟩
def qm (t:List (Option (Bool×List UInt8))):Nat→List Int
 | 0=>[]
 | k+1=>qm t k++if ((t[k]?).getD none).isSome then [(k:Int)] else []
theorem EU {c:C} {n:Nat}: ∀k,k≤c.table.length→rY c.table k=qm (c.bn n).now k
 | 0,_=>rfl
 | k+1,h=>by
  unfold rY qm;rw [EU k (by omega)]
  congr 1
  unfold C.bn;simp only [List.getElem?_map,List.getElem?_eq_getElem (show k<c.table.length by omega),List.getD,Option.map_some,Option.getD_some,C.cy]
  by_cases h0:c.table[k]<0
  ·rw [if_pos h0,if_neg (by omega)]; rfl
  ·rw [if_neg h0,if_pos (by omega)]; rfl
def St.jL (a:St):List Int:=qm a.now a.now.length
theorem slot_le (a:St):a.slot≤a.now.length:=List.findIdx_le_length
theorem Gx (a:St):a.at (a.slot:Nat)=none:=by
 unfold St.at;rw [if_pos (by omega),show (((a.slot:Nat):Int)).toNat=a.slot by omega]
 rcases Nat.lt_or_ge a.slot a.now.length with h | h
 ·have:=List.findIdx_getElem (p:=Option.isNone) (xs:=a.now) (w:=h);unfold St.slot at h ⊢;rw [List.getElem?_eq_getElem h];simpa using this
 ·rw [List.getElem?_eq_none h]; rfl
end Go.Proofs.YtmonobkginiajaaGreat.Sh
namespace Go.Proofs.YtmonobkginiajaaGreat.Sh
open Go.RowKit Pk Dk Pg
theorem Gy (d:D) (h:d.aP≤9223372036854775807):d.db.1.calls≤d.calls+1∧d.db.1.aP≤9223372036854775807:=by
 have:=qc d h;unfold D.db
 split
 ·exact ⟨by show d.calls≤_; omega,h⟩
 ·split
  ·exact ⟨by show d.bQ.1.calls≤_; omega,this.2⟩
  ·exact ⟨by omega,this.2⟩
theorem CR (n:Nat) (h1:1≤dJ n) (hn:n≤4096) (dS:(de (D.zero n) n).d.Ok n):Good (de (D.zero n) n) n∧(de (D.zero n) n).bn n={many:=dJ n,now:=[],bE:=[],ep:=1}∧(de (D.zero n) n).d.calls≤10:=by
 have hk:2≤n:=by unfold dJ bC at h1; omega
 have z:(D.zero n).down=false∧(D.zero n).aP=0∧(D.zero n).calls=0:=⟨rfl,rfl,rfl⟩;obtain ⟨w1,w2,w3⟩:=fO (d:=D.zero n) (n:=n) (k:=0) z.1 z.2.1 (by omega) dU;obtain ⟨v1,v2,v3⟩:=fO (d:=((D.zero n).ar n (0:Nat) dU).1) (n:=n) (k:=1) w2 w3 (by omega) [];obtain ⟨s1,s2,s3,_⟩:=kt v2 v3;have c1:=gf (D.zero n) n 0 dU (by show (0:Int)≤_; omega);have c2:=gf ((D.zero n).ar n 0 dU).1 n 1 [] c1.2;have hc:(de (D.zero n) n).d.calls≤10:=by
  show (((D.zero n).ar n 0 dU).1.ar n 1 []).1.db.1.calls≤10;have c3:=(Gy ((((D.zero n).ar n 0 dU).1.ar n 1 []).1) c2.2).1;have:=c1.1;have:=c2.1;omega
 refine ⟨⟨s2,s3,rfl,dS,by simp [de],by simp [de],.inl rfl,by simp [de],by simp [de],by simp [de],by simp [de,vC],by simp [de,vC],by simp [de,vC],by simp [de],by simp [de,bP],by simp [de],?_,by simp [de],by simp [de]⟩,?_,hc⟩
 ·intro i hi;simp [de] at hi;unfold bW de;simp [List.getD,hi]
 ·unfold C.bn de;simp
def St.start (jL:Nat):St:={many:=jL,now:=[],bE:=[],ep:=1}
end Go.Proofs.YtmonobkginiajaaGreat.Sh
namespace Go.Proofs.YtmonobkginiajaaGreat.Rt
open Go.RowKit Pk
attribute [local go_sem ↓] Go.wp_at_zero Go.wp_at_succ
def bh (b:List UInt8) (k:Nat):Nat:=(b.getD k 0).toNat*256+(b.getD (k+1) 0).toNat
end Go.Proofs.YtmonobkginiajaaGreat.Rt
namespace Go.Proofs.YtmonobkginiajaaGreat.Rt
open Go.RowKit Pk
theorem yb (N:Nat) (h:N<18446744073709551616):lH (p7 N)=N:=by
 have e:p7 N=[UInt8.ofNat (N / 72057594037927936),UInt8.ofNat (N / 281474976710656),UInt8.ofNat (N / 1099511627776),UInt8.ofNat (N / 4294967296),UInt8.ofNat (N / 16777216),UInt8.ofNat (N / 65536),UInt8.ofNat (N / 256),UInt8.ofNat (N / 1)]:=rfl;rw [e];simp only [lH,List.foldl_cons,List.foldl_nil,UInt8.toNat_ofNat'];omega
theorem ie (ep:Int):(dR ep).length=8:=by unfold dR p7; rw [kQ]
theorem CT (ep:Int) (h0:0≤ep) (h1:ep≤1099511627776):(lH (dR ep):Int)-9223372036854775808=ep:=by
 unfold dR;rw [yb _ (by omega)];omega
theorem zN (l:List Nat):(l.flatMap dD).length=2*l.length:=by
 induction l with
 | nil=>rfl
 | cons a l ih=>rw [List.flatMap_cons,List.length_append,ih]; simp [dD]; omega
theorem lT (lg:Nat) (l:List Nat) (h:l.length≤5):(kh lg l).length=44:=by
 unfold kh;simp only [List.length_append,zN,List.length_replicate];simp [dD]; omega
theorem ry (m:List UInt8):(gx.aY m).length=m.length+4:=by unfold gx.aY; simp [gx.gi]
theorem drop2 (a:Nat) (r:List UInt8):(dD a++r).drop 2=r:=rfl
theorem drop4 (a b:Nat) (r:List UInt8):(dD a++(dD b++r)).drop 4=r:=rfl
theorem qo (n:Nat) (h:n<65536) (r:List UInt8):bh (dD n++r) 0=n:=by
 unfold bh dD;simp only [List.cons_append,List.nil_append,List.getD_cons_zero,List.getD_cons_succ,UInt8.toNat_ofNat'];omega
theorem tD (b:List UInt8) (j k:Nat):bh b (j+k)=bh (b.drop j) k:=by
 unfold bh;simp only [List.getD_eq_getElem?_getD,List.getElem?_drop,Nat.add_assoc]
theorem JU (l:List Nat) (r:List UInt8) (i:Nat) (h:i<l.length) (hs: ∀x∈l,x<65536):bh (l.flatMap dD++r) (2*i)=l[i]:=by
 induction l generalizing i with
 | nil=>simp at h
 | cons a l ih=>
  cases i with
  | zero=>
   rw [List.flatMap_cons,List.append_assoc,Nat.mul_zero,qo a (hs a (by simp))]; rfl
  | succ i=>
   rw [show 2*(i+1)=2+2*i by omega,tD];have hd:((a::l).flatMap dD++r).drop 2=l.flatMap dD++r:=by rw [List.flatMap_cons]; rfl
   rw [hd,ih i (by simpa using h) (fun x hx=>hs x (List.mem_cons_of_mem _ hx))];rfl
def lU (v:List UInt8):Int:=(lH (v.take 8):Int)-9223372036854775808
def yq (v:List UInt8):List UInt8:=(v.drop 12).take 44
def decP (v:List UInt8):List Nat:=(List.range (bh (yq v) 2)).map fun i=>bh (yq v) (4+2*i)
def goodR (v:List UInt8):Prop:=bh (yq v) 2≤5∧eQ (lU v) (bh (yq v) 0:Nat) (cD (decP v))∧dF (lU v) (bh (yq v) 0) (decP v)=v
theorem tE (ep:Int) (lg:Nat) (l:List Nat):(dF ep lg l).take 8=dR ep:=by
 unfold dF;rw [List.append_assoc,List.take_append_of_le_length (by rw [ie]; exact Nat.le_refl _),List.take_of_length_le (by rw [ie]; exact Nat.le_refl _)]
theorem rz (ep:Int) (lg:Nat) (l:List Nat):(dF ep lg l).drop 8=gx.aY (kh lg l)++dR ep:=by
 unfold dF;rw [List.append_assoc,List.drop_append_of_le_length (by rw [ie]; exact Nat.le_refl _),List.drop_of_length_le (by rw [ie]; exact Nat.le_refl _),List.nil_append]
theorem CU (ep:Int) (lg:Nat) (l:List Nat) (h:l.length≤5):(dF ep lg l).drop 56=dR ep:=by
 have h2:(gx.aY (kh lg l)).length=48:=by rw [ry,lT _ _ h]
 rw [show 56=8+48 by rfl,←List.drop_drop,rz,List.drop_append_of_le_length (by omega),List.drop_of_length_le (by omega),List.nil_append]
theorem oZ (ep:Int) (lg:Nat) (l:List Nat) (h:l.length≤5):(dF ep lg l).length=64:=by
 unfold dF;simp only [List.length_append,ie,ry,lT _ _ h]
theorem qp (ep:Int) (lg:Nat) (l:List Nat) (h:l.length≤5):yq (dF ep lg l)=kh lg l:=by
 unfold yq;rw [show 12=8+4 by rfl,←List.drop_drop,rz];unfold gx.aY;have hm:=lT lg l h;have hf: ∀n,(gx.gi n).length=4:=fun n=>by simp [gx.gi]
 rw [List.append_assoc,List.drop_append_of_le_length (by rw [hf]; exact Nat.le_refl _),List.drop_of_length_le (by rw [hf]; exact Nat.le_refl _),List.nil_append,List.take_append_of_le_length (by omega),List.take_of_length_le (by omega)]
theorem JV (ep:Int) (lg:Nat) (l:List Nat) (hr:eQ ep lg (cD l)):lU (dF ep lg l)=ep∧bh (yq (dF ep lg l)) 0=lg∧bh (yq (dF ep lg l)) 2=l.length∧decP (dF ep lg l)=l:=by
 have h5:l.length≤5:=by have:=iz hr; simpa [cD] using this
 have y9:=hr.1;have hlg:lg≤512:=by have:=hr.2.2.2.1; omega
 have hs: ∀x∈l++List.replicate (5-l.length) 0,x<65536:=by
  intro x hx
  rcases List.mem_append.1 hx with hx | hx
  ·obtain ⟨i,hi,rfl⟩:=List.getElem_of_mem hx;have h1:=hr.2.2.2.2.2 i ((l[i]:Nat):Int) (by simp [cD]; exact ⟨l[i],List.getElem?_eq_getElem hi,rfl⟩);omega
  ·have:=List.eq_of_mem_replicate hx; omega
 have h2:bh (kh lg l) 2=l.length:=by
  unfold kh;rw [show (2:Nat)=2+0 by rfl,tD,List.append_assoc,List.append_assoc,drop2];exact qo _ (by omega) _
 have h4: ∀i,i<l.length→bh (kh lg l) (4+2*i)=l.getD i 0:=by
  intro i hi;unfold kh;rw [tD,List.append_assoc,List.append_assoc,drop4];rw [JU _ _ i (by rw [List.length_append]; omega) hs,List.getElem_append_left hi,List.getD_eq_getElem?_getD,List.getElem?_eq_getElem hi]; rfl
 refine ⟨?_,?_,?_,?_⟩
 ·unfold lU; rw [tE]; exact CT ep (by omega) hr.2.1
 ·rw [qp _ _ _ h5];unfold kh;rw [List.append_assoc,List.append_assoc];exact qo lg (by omega) _
 ·rw [qp _ _ _ h5,h2]
 ·unfold decP;rw [qp _ _ _ h5,h2];apply List.ext_getElem (by simp);intro i h1 h3;simp only [List.length_map,List.length_range] at h1;rw [List.getElem_map,List.getElem_range,h4 i h1,List.getD_eq_getElem?_getD,List.getElem?_eq_getElem h1]; rfl
end Go.Proofs.YtmonobkginiajaaGreat.Rt
namespace Go.Proofs.YtmonobkginiajaaGreat.Rt
open Go.RowKit Pk
attribute [local go_sem ↓] Go.wp_at_zero Go.wp_at_succ
def pe (x:Int):Nat:=(max x (-1)+1).toNat
def fC (l:List Int):List UInt8:=(l.map pe).flatMap dD
def eC (l:List Int) (p:Nat):List Int:=(l.drop (116*p)).take 116
theorem lV (l:List Int) (p:Nat):(eC l p).length=min 116 (l.length-116*p):=by simp [eC]
theorem JW (l:List Int) (p i:Nat) (h:i<116):(eC l p)[i]?=l[116*p+i]?:=by
 unfold eC;rw [List.getElem?_take,if_pos h,List.getElem?_drop]
theorem wI {w:World} {ad:Addr} {n m p i:Nat} {l:List Int} (h:gr w (some ad) n l) (hm1:m≤116) (IC:116*p+m≤n) (hi:i<m):
  ∃x,w.cell? ((ad.add (p*116)).add i)=some (.int .i64 x)∧(eC l p).take (i+1)=(eC l p).take i++[x]∧fC ((eC l p).take (i+1))=fC ((eC l p).take i)++dD (pe x)∧x∈eC l p:=by
 obtain ⟨ad',x,e,hx,ck⟩:=h.at (116*p+i) (by omega)
 cases e
 have hl:=h.1;have hg:(eC l p)[i]?=some x:=by rw [JW _ _ _ (by omega)]; exact hx
 obtain ⟨dL,BR⟩:=List.getElem?_eq_some_iff.1 hg;have ht:(eC l p).take (i+1)=(eC l p).take i++[x]:=by rw [List.take_succ_eq_append_getElem dL,BR]
 refine ⟨x,?_,ht,?_,List.mem_of_getElem? hg⟩
 ·rw [Cd,show p*116+i=116*p+i by omega]; exact ck
 ·rw [ht]; unfold fC; rw [List.map_append,List.flatMap_append]; simp
theorem zO {w:World} (A:Option Addr) (n c:Nat) (l:List Int) (h:gr w A n l) (hn:n≤1000000) (FO:n≤c) (p:Nat) (hp:116*p<n):
  Calls Tryz.prog 198 #[.slice A n c,.int .i64 (p:Nat)] w fun e w'=>(((∃x∈eC l p,1023<x)∧e= .returned (.tuple #[.string ⟨#[]⟩,.int .i64 2]))∨((∀x∈eC l p,x≤1023)∧e= .returned (.tuple #[.string ⟨(fC (eC l p)).toArray⟩,.int .i64 0])))∧Below w.heap.size w w':=by
 have hneed:(p:Int)<iQ n:=by unfold iQ; omega
 have h1: ¬(p:Int)<0:=by omega
 have h2: ¬(p:Int)≥iQ n:=by omega
 have h2b: ¬iQ n≤(p:Int):=by omega
 have KN:=xh (tg (n:Int) (by omega) w);have HL:=xh h.1;have HI:=xh h;obtain ⟨ad,x0,rfl,_,_⟩:=h.at 0 (by omega);obtain ⟨m,hm⟩: ∃m,m=min 116 (n-116*p):=⟨_,rfl⟩;have HM:=xh hm;have hm1:m≤116:=by omega
 have IC:116*p+m≤n:=by omega
 clear h hm;generalize iQ n=nd at *;have e1:IntKind.i64.wrap ((p:Int)*116)=(p:Int)*116:=IntWalk.i64_in _ (by omega);have e2:IntKind.i64.wrap ((p:Int)+1)=(p:Int)+1:=IntWalk.i64_in _ (by omega);have e3:IntKind.i64.wrap (((p:Int)+1)*116)=((p:Int)+1)*116:=IntWalk.i64_in _ (by omega);go_enter Tryz.func198,Tryz.ntmps198;go_wp2_with fail;refine KN.out.mono ?_;rintro e w1 ⟨rfl,aM⟩;have O1:=xh aM;clear aM KN;go_wp2_with fail
 ·rw [show n-p*116=m from by have:=HM.out; omega]
  go_loopw [6,29] (fun bv iv wr=> ∃i:Nat,i≤m∧iv= .int .i64 i∧aG wr 5 1 bv (2*i) (cI (fC ((eC l p).take i)))∧Hid (∀x∈(eC l p).take i,x≤1023)∧Below w.heap.size w wr∧Hid (∀g∈ah bv,w.heap.size≤g)) (fun _ iv _=>m-(intOf iv).toNat)
  case atStart=>exact ⟨0,Nat.zero_le _,rfl,aG.nil _ _ _,xh (by simp),O1.out,xh (by simp [ah])⟩
  case round=>
   obtain ⟨i,hi,rfl,S,GD,O,F⟩:=hrel
   by_cases h':i<m
   ·obtain ⟨x,ck,ht,hp2,CY⟩:=wI (HI.out.below O) hm1 IC h';have OO:=xh O;have HT:=xh ht;have HP:=xh hp2;have HX:=xh CY;clear O ht hp2 CY;have hiI:(i:Int)<(m:Int):=by omega
    by_cases hx:1023<x
    ·go_wp2_with fail;go_ret2;exact ⟨.inl ⟨⟨x,HX.out,hx⟩,rfl⟩,OO.out⟩
    ·obtain ⟨BA,bc,rfl⟩:=aq S;have KT:=xh (dG _ (2*i) _ S (pe x) (by unfold pe; omega) (by omega));have G2:=xh (show ∀y∈(eC l p).take (i+1),y≤1023 from by
      rw [HT.out]; intro y hy
      rcases List.mem_append.1 hy with hy | hy
      ·exact GD.out y hy
      ·simp at hy; omega)
     clear S
     by_cases yr:x< -1
     ·rw [show ((pe x:Nat):Int)=0 from by unfold pe; omega] at KT;go_wp2_with fail;refine KT.out.mono ?_;rintro e w2 ⟨⟨v2,rfl,S2,fr⟩,ow⟩;rw [←HP.out] at S2;have S2:=xh S2;have O2:=xh (OO.out.trans (ow.ay OO.out.size F.out));have F2:=xh (show ∀g∈ah v2,w.heap.size≤g from fun g hg=>(fr g hg).elim (F.out g) (fun h=>Nat.le_trans OO.out.size h));clear fr ow;go_wp2_with fail;go_roundw
      case rel=>exact ⟨i+1,by omega,by go_num,S2.out,G2,O2.out,F2⟩
      case measure=>simp [intOf]; omega
     ·rw [show ((pe x:Nat):Int)=x+1 from by unfold pe; omega] at KT;go_wp2_with fail;refine KT.out.mono ?_;rintro e w2 ⟨⟨v2,rfl,S2,fr⟩,ow⟩;rw [←HP.out] at S2;have S2:=xh S2;have O2:=xh (OO.out.trans (ow.ay OO.out.size F.out));have F2:=xh (show ∀g∈ah v2,w.heap.size≤g from fun g hg=>(fr g hg).elim (F.out g) (fun h=>Nat.le_trans OO.out.size h));clear fr ow;go_wp2_with fail;go_roundw
      case rel=>exact ⟨i+1,by omega,by go_num,S2.out,G2,O2.out,F2⟩
      case measure=>simp [intOf]; omega
   ·obtain rfl:i=m:=by omega
    have yt:(eC l p).take i=eC l p:=List.take_of_length_le (by rw [lV,HL.out]; have:=HM.out; omega);rw [yt] at S;have G2:=xh (show ∀y∈eC l p,y≤1023 from by have:=GD.out; rwa [yt] at this);obtain ⟨g,cap,rest,rfl,B,hc,_⟩:=S.form (by have:=HM.out; omega) (by omega)
    have ST:=xh (bs (P:=Tryz.prog) wr 150 9 5 Tryz.underlying150 Tryz.underlying5 Tryz.underlying9 ⟨g,0,none⟩ (2*i) cap (fC (eC l p)) (by have:=S.1; simpa using this) (aV B 0 _ (by intro j u hu; rw [Nat.zero_add]; exact List.getElem?_append_left (List.getElem?_eq_some_iff.1 hu).1▸hu)));have OO:=xh O;clear O S B yt;go_wp2_with fail;rw [ST.out];go_wp2_with fail;go_ret2;exact ⟨.inr ⟨G2.out,rfl⟩,OO.out⟩
 ·rw [show ((((p:Int)+1)*116).toNat-p*116)=m from by have:=HM.out; omega]
  go_loopw [6,29] (fun bv iv wr=> ∃i:Nat,i≤m∧iv= .int .i64 i∧aG wr 5 1 bv (2*i) (cI (fC ((eC l p).take i)))∧Hid (∀x∈(eC l p).take i,x≤1023)∧Below w.heap.size w wr∧Hid (∀g∈ah bv,w.heap.size≤g)) (fun _ iv _=>m-(intOf iv).toNat)
  case atStart=>exact ⟨0,Nat.zero_le _,rfl,aG.nil _ _ _,xh (by simp),O1.out,xh (by simp [ah])⟩
  case round=>
   obtain ⟨i,hi,rfl,S,GD,O,F⟩:=hrel
   by_cases h':i<m
   ·obtain ⟨x,ck,ht,hp2,CY⟩:=wI (HI.out.below O) hm1 IC h';have OO:=xh O;have HT:=xh ht;have HP:=xh hp2;have HX:=xh CY;clear O ht hp2 CY;have hiI:(i:Int)<(m:Int):=by omega
    by_cases hx:1023<x
    ·go_wp2_with fail;go_ret2;exact ⟨.inl ⟨⟨x,HX.out,hx⟩,rfl⟩,OO.out⟩
    ·obtain ⟨BA,bc,rfl⟩:=aq S;have KT:=xh (dG _ (2*i) _ S (pe x) (by unfold pe; omega) (by omega));have G2:=xh (show ∀y∈(eC l p).take (i+1),y≤1023 from by
      rw [HT.out]; intro y hy
      rcases List.mem_append.1 hy with hy | hy
      ·exact GD.out y hy
      ·simp at hy; omega)
     clear S
     by_cases yr:x< -1
     ·rw [show ((pe x:Nat):Int)=0 from by unfold pe; omega] at KT;go_wp2_with fail;refine KT.out.mono ?_;rintro e w2 ⟨⟨v2,rfl,S2,fr⟩,ow⟩;rw [←HP.out] at S2;have S2:=xh S2;have O2:=xh (OO.out.trans (ow.ay OO.out.size F.out));have F2:=xh (show ∀g∈ah v2,w.heap.size≤g from fun g hg=>(fr g hg).elim (F.out g) (fun h=>Nat.le_trans OO.out.size h));clear fr ow;go_wp2_with fail;go_roundw
      case rel=>exact ⟨i+1,by omega,by go_num,S2.out,G2,O2.out,F2⟩
      case measure=>simp [intOf]; omega
     ·rw [show ((pe x:Nat):Int)=x+1 from by unfold pe; omega] at KT;go_wp2_with fail;refine KT.out.mono ?_;rintro e w2 ⟨⟨v2,rfl,S2,fr⟩,ow⟩;rw [←HP.out] at S2;have S2:=xh S2;have O2:=xh (OO.out.trans (ow.ay OO.out.size F.out));have F2:=xh (show ∀g∈ah v2,w.heap.size≤g from fun g hg=>(fr g hg).elim (F.out g) (fun h=>Nat.le_trans OO.out.size h));clear fr ow;go_wp2_with fail;go_roundw
      case rel=>exact ⟨i+1,by omega,by go_num,S2.out,G2,O2.out,F2⟩
      case measure=>simp [intOf]; omega
   ·obtain rfl:i=m:=by omega
    have yt:(eC l p).take i=eC l p:=List.take_of_length_le (by rw [lV,HL.out]; have:=HM.out; omega);rw [yt] at S;have G2:=xh (show ∀y∈eC l p,y≤1023 from by have:=GD.out; rwa [yt] at this);obtain ⟨g,cap,rest,rfl,B,hc,_⟩:=S.form (by have:=HM.out; omega) (by omega)
    have ST:=xh (bs (P:=Tryz.prog) wr 150 9 5 Tryz.underlying150 Tryz.underlying5 Tryz.underlying9 ⟨g,0,none⟩ (2*i) cap (fC (eC l p)) (by have:=S.1; simpa using this) (aV B 0 _ (by intro j u hu; rw [Nat.zero_add]; exact List.getElem?_append_left (List.getElem?_eq_some_iff.1 hu).1▸hu)));have OO:=xh O;clear O S B yt;go_wp2_with fail;rw [ST.out];go_wp2_with fail;go_ret2;exact ⟨.inr ⟨G2.out,rfl⟩,OO.out⟩
end Go.Proofs.YtmonobkginiajaaGreat.Rt
namespace Go.Proofs.YtmonobkginiajaaGreat.Rt
open Go.RowKit Pk
attribute [local go_sem ↓] Go.wp_at_zero Go.wp_at_succ aX
def nvs (l:List Int):List Value:=l.map (Value.int .i64)
@[simp] theorem nvs_length (l:List Int):(nvs l).length=l.length:=by simp [nvs]
def cO (T:List UInt8) (m:Nat):List Int:=(List.range m).map fun j=>(bh T (2*j):Int)-1
@[simp] theorem getF_length (T:List UInt8) (m:Nat):(cO T m).length=m:=by simp [cO]
end Go.Proofs.YtmonobkginiajaaGreat.Rt
namespace Go.Proofs.YtmonobkginiajaaGreat.Sh
open Go.RowKit Pk Dk Pg
attribute [local go_sem ↓] Go.wp_at_zero Go.wp_at_succ aX
theorem JX {w:World} {v:Value} {l:List Int} (S:Sl w 3 v l.length (cw l)) (hl:l.length≤100000):
  Calls Tryz.prog 85 #[v] w fun e w'=> ∃v',e= .returned v'∧Sl w' 3 v' l.length (cw l)∧Below w.heap.size w w'∧ ∀g∈bA v',w.heap.size≤g:=by
 obtain ⟨A,c,rfl,hc⟩:=S.val;have O0:=ae (Below.refl w.heap.size w) (.cells #[] 3);have E0:Sl (w.alloc (.cells #[] 3)) 3 (.slice (some ⟨w.heap.size,0,none⟩) 0 0) 0 (cw []):=⟨rfl,.inl ⟨_,rfl,rfl⟩⟩;have HN: ∀j u,(cw l)[j]?=some u→ ∃a,A=some a∧(w.alloc (.cells #[] 3)).cell? (a.add j)=some u:=by
  intro j u hu;have hj:j<l.length:=by have:=(List.getElem?_eq_some_iff.1 hu).1; simpa using this
  obtain ⟨g,cap,rest,hv,B,_,_⟩:=(S.alloc (.cells #[] 3)).form (by omega);injection hv with e1 e2 e3
  subst e1;exact ⟨_,rfl,aV B 0 _ (by intro i v hi; rw [Nat.zero_add]; exact List.getElem?_append_left (List.getElem?_eq_some_iff.1 hi).1▸hi) j u hu⟩
 obtain ⟨v1,w1,ea,S1,o1,f1⟩:=wi (P:=Tryz.prog) E0 60 60 (.int .i64 0) 8 Tryz.underlying60 gh rfl A l.length c (cw l) (by simp) HN (JB l) (by unfold maxLen; omega) (by omega);rw [Nat.zero_add,←eB,List.nil_append] at S1
 have H1:=xh (show Sl w1 3 v1 l.length (cw l)∧Below w.heap.size w w1∧ ∀g∈bA v1,w.heap.size≤g from ⟨S1,O0.trans (o1.ay (by simp) (fun x hx=>by simp [bA] at hx)),fun g hg=>(f1 g hg).elim (fun h=>by simp [bA] at h) (fun h=>by simp at h; omega)⟩);have EA:=xh ea;have HS:=xh S;clear ea S1 o1 f1 HN E0 O0
 cases A with
 | none=>
  have HE:=Lib.run_eql_slice_nil (P:=Tryz.prog) w 60 3 none 0 0 0 0 Tryz.underlying60;have h0:l.length=0:=by
   rcases S.2 with ⟨A',e,h0⟩ | ⟨g,cap,rest,e,_⟩
   ·exact h0
   ·cases e
  have IG:c=0:=by
   rcases S.2 with ⟨A',e,_⟩ | ⟨g,cap,rest,e,_⟩
   ·injection e
   ·cases e
  subst IG;have EJ:l=[]:=List.eq_nil_of_length_eq_zero h0;subst EJ;clear S;go_enter Tryz.func85,Tryz.ntmps85;go_wp2_with fail;go_ret;exact ⟨.slice none 0 0,by first | rfl | simp,Sl.nil _ _,Below.refl _ _,by simp [bA]⟩
 | some a=>
  have HE:=Lib.run_eql_slice_nil (P:=Tryz.prog) w 60 3 (some a) l.length c 0 0 Tryz.underlying60;clear S;go_enter Tryz.func85,Tryz.ntmps85;go_wp2_with fail;rw [EA.out];go_wp2_with fail;go_ret;exact ⟨v1,by first | rfl | simp,H1.out⟩
def C.ar (c:C) (n:Nat) (l:Int) (p:List UInt8):C×Int:=
 if c.broken=true then (c,13)
 else if 232<p.length then (c,4)
 else if c.gI l≠0 then (c,c.gI l)
 else if Fm.bu c.m (c.table.getD l.toNat 0)=true then ({c with d:=(aO c.d n (c.table.getD l.toNat 0) (c.ep+1) 2 p).1},(aO c.d n (c.table.getD l.toNat 0) (c.ep+1) 2 p).2)
 else if (c.bu n p).2.2≠0 then ((c.bu n p).1,(c.bu n p).2.2)
 else ({(c.bu n p).1 with m:=(Fm.cF (c.bu n p).1.m (c.table.getD l.toNat 0)).1,table:=c.table.set l.toNat (c.bu n p).2.1},0)
theorem CZ {w:World} {x:X} {n:Nat} {c:C} (h:At w x n c) (l:Int) (s:ByteArray) (hs:s.size≤9223372036854775807) (y9:0≤c.ep∧c.ep≤1099511627776) (hc:c.d.calls≤3999999999999999990) (hr:c.d.aP≤9223372036854775807) (ht: ∀k,c.table.getD k 0≤1024):
  Calls Tryz.prog 147 #[sp x.b,.int .i64 l,.string s] w fun e w'=>e= .returned (.int .i64 (c.ar n l s.data.toList).2)∧At w' x n (c.ar n l s.data.toList).1∧ag x.fp w w':=by
 have KW:=fZ h;have hl:s.data.toList.length=s.size:=by simp
 obtain ⟨R,hR⟩: ∃R,c.ar n l s.data.toList=R:=⟨_,rfl⟩;rw [hR];unfold C.ar at hR;rw [hl] at hR;have HH:=xh h
 by_cases h1:c.broken=true
 ·rw [if_pos h1] at hR;subst hR;rw [show c.dX=13 from by unfold C.dX; rw [if_pos h1]] at KW;have KW:=xh KW;clear h h1;unfold sp at *;go_enter Tryz.func147,Tryz.ntmps147;go_wp2_with fail;refine KW.out.mono ?_;rintro e w1 ⟨rfl,rfl⟩;go_wp2_with fail;go_ret;exact ⟨by first | rfl | simp,HH.out,ag.refl _ _⟩
 rw [if_neg h1] at hR;rw [show c.dX=0 from by unfold C.dX; rw [if_neg h1]] at KW;have KW:=xh KW
 by_cases h2:232<s.size
 ·rw [if_pos h2] at hR;subst hR;have h2I:(232:Int)<(s.size:Int):=by omega
  clear h h1 h2;unfold sp at *;go_enter Tryz.func147,Tryz.ntmps147;go_wp2_with fail;refine KW.out.mono ?_;rintro e w1 ⟨rfl,rfl⟩;go_wp2_with fail;go_ret;exact ⟨by first | rfl | simp,HH.out,ag.refl _ _⟩
 rw [if_neg h2] at hR;have h2I: ¬(232:Int)<(s.size:Int):=by omega
 have KA:=lO h l
 by_cases h3:c.gI l=0
 ·rw [if_neg (by simpa using h3)] at hR;obtain ⟨_,h5,h6,h7⟩:=CB h3;rw [h3] at KA;have KA:=xh KA;obtain ⟨k,rfl⟩:=Int.eq_ofNat_of_zero_le h5;have hk:k<c.table.length:=by omega
  rw [show ((k:Nat):Int).toNat=k from by omega] at hR h7;obtain ⟨g,cp,hv,ck⟩:=h.tk k hk;have f1:=h.f1;have f2:=h.f2;rw [hv] at f2;have IF:(k:Int)<(c.table.length:Int):=by omega
  have HR:=xh hR;have hid:c.table.getD k 0≤9223372036854775807:=by have:=ht k; omega
  have KF:=xh (fun (m:Nat)=>Fm.mH (h.drewN m).hm (c.table.getD k 0));have KP:=xh (fun (m:Nat)=>fX (h.drewN m) (c.table.getD k 0) 2 s hid y9 hc hr);have KN:=xh (fun (m:Nat)=>mH (h.drewN m) s y9 hc hr);have HD:=xh (fun (m:Nat)=>h.drewN m);obtain ⟨pid,JY⟩: ∃pid,c.table.getD k 0=pid:=⟨_,rfl⟩;rw [JY] at ck KF KP hR HR;have g1:=h.f1
  by_cases hf:Fm.bu c.m pid=true
  ·rw [if_pos hf] at hR;subst hR;rw [hf] at KF;clear h h1 h2 h3 hv hf HR JY hid;generalize c.table.length=tn at *;unfold Fm.mp at *;unfold sp at *;go_enter Tryz.func147,Tryz.ntmps147;go_wp2_with fail;refine KW.out.mono ?_;rintro e w1 ⟨rfl,rfl⟩;go_wp2_with fail;refine KA.out.mono ?_;rintro e w1 ⟨rfl,rfl⟩;go_wp2_with fail;go_quiet ((go_at_call 192; exact sN (KF.out _)));go_wp2_with fail;refine (KP.out nq).mono ?_;rintro e w2 ⟨rfl,A2,o2⟩;have A2:=xh A2
   have o2:=xh (((ag.refl x.fp w).drewN nq).trans (o2.mono (fun g hg _=>zE x g hg)));go_wp2_with fail;go_ret;exact ⟨by first | rfl | simp,A2.out,o2.out⟩
  ·have vQ:Fm.bu c.m pid=false:=by cases hb:Fm.bu c.m pid with | true=>exact absurd hb hf | false=>rfl
   rw [if_neg hf] at hR;rw [vQ] at KF;have FT:=jk c n s.data.toList;obtain ⟨c1,Cc⟩: ∃c1,c.bu n s.data.toList=c1:=⟨_,rfl⟩;rw [Cc] at KN hR FT;obtain ⟨C1,id1,e1⟩:=c1;dsimp only at KN hR FT
   by_cases he:e1=0
   ·subst he;rw [if_neg (by simp)] at hR;subst hR;have HT:=xh FT.1;have hpid2:=xh (show C1.table.getD k 0=pid by rw [HT.out]; exact JY);have hk2:=xh (show k<C1.table.length by rw [HT.out]; exact hk);have HX:=xh (show ∀w1,At w1 x n C1→ ∀cp',x.tv= .slice (some ⟨g,0,none⟩) c.table.length cp'→(w1.cell? ⟨x.b,1,none⟩=some (Fm.mp x.mb)∧w1.cell? ⟨x.b,2,none⟩=some (.slice (some ⟨g,0,none⟩) c.table.length cp')∧w1.cell? ⟨g,k,none⟩=some (.int .i64 pid)) from fun w1 A1 cp' e=>by
     obtain ⟨g2,cp2,e2,ck2⟩:=A1.tk k hk2.out;rw [e] at e2;injection e2 with e3 e4 e5
     injection e3 with e3
     injection e3 with e3
     subst e3;rw [hpid2.out] at ck2;exact ⟨A1.f1,by rw [←e]; exact A1.f2,ck2⟩)
    have HS:=xh (show ∀w2,At w2 x n {C1 with m:=(Fm.cF C1.m pid).1}→ ∀cp',x.tv= .slice (some ⟨g,0,none⟩) c.table.length cp'→(w2.cell? ⟨g,k,none⟩=some (.int .i64 pid)∧w2.frozen? ⟨g,k,none⟩=false∧At (w2.setCell ⟨g,k,none⟩ (.int .i64 id1)) x n {C1 with m:=(Fm.cF C1.m pid).1,table:=c.table.set k id1}∧ag x.fp w2 (w2.setCell ⟨g,k,none⟩ (.int .i64 id1))) from fun w2 A2 cp' e=>by
     obtain ⟨g2,cp2,e2,ck2,z2,A3,o3⟩:=A2.jj k hk2.out id1;rw [e] at e2;injection e2 with e3 e4 e5
     injection e3 with e3
     injection e3 with e3
     subst e3;rw [show ({C1 with m:=(Fm.cF C1.m pid).1}:C).table.getD k 0=pid from hpid2.out] at ck2;rw [show ({C1 with m:=(Fm.cF C1.m pid).1}:C).table=c.table from HT.out] at A3;exact ⟨ck2,z2,A3,o3⟩)
    have HV:=xh hv;have KL:=xh (fun (W:World) (hW:At W x n C1)=>Fm.mF hW.hm pid);have HM:=xh (fun (W W':World) (hW:At W x n C1) (mm:Fm.cR W' x.mb x.mg (Fm.cF C1.m pid).1) (ow:ag [x.mg] W W')=>hW.map mm ow);clear h h1 h2 h3 hv hf vQ HR JY hid FT Cc;generalize c.table.length=tn at *;generalize (Fm.cF C1.m pid).2=le at *;unfold Fm.mp at *;unfold sp at *;go_enter Tryz.func147,Tryz.ntmps147;go_wp2_with fail;refine KW.out.mono ?_;rintro e w1 ⟨rfl,rfl⟩
    go_wp2_with fail;refine KA.out.mono ?_;rintro e w1 ⟨rfl,rfl⟩;go_wp2_with fail;go_quiet ((go_at_call 192; exact sN (KF.out _)));go_wp2_with fail;refine (KN.out nq).mono ?_;rintro e w1 ⟨rfl,A1,o1⟩;have A1:=xh A1;have o1:=xh (((ag.refl x.fp w).drewN nq).trans o1);clear f1 f2 ck;have A1d:=xh A1.out.drew;have HK:=xh (HX.out _ A1d.out cp HV.out);go_wp2_with fail
    refine wp_region_held_drew (S:=fun W'=>W'.cell? ⟨x.b,1,none⟩=some (.pointer (some ⟨x.mb,0,none⟩))∧W'.cell? ⟨x.b,2,none⟩=some (.slice (some ⟨g,0,none⟩) tn cp)∧W'.cell? ⟨g,k,none⟩=some (.int .i64 pid)) (by kernel_rfl) (HK.out) (fun aj=>?_);refine bR [(0,56),(1,57),(2,58),(3,59),(4,60),(5,61),(6,62),(7,63),(8,64),(9,65),(10,66)] ?_
    iterate 11 (refine zt ?_; try simp only [Act.put,pa,pb,pc])
    refine bS ?_;refine cA (i:=11) (o:=⟨some 67,_,_,_,_,_⟩) fun K hK=>?_;go_simp
    go_at_call 153
    refine (KL.out _ A1d.out).mono ?_;rintro e w2 ⟨rfl,mm,ow⟩;have A2:=xh (HM.out _ _ A1d.out mm ow);have zf:=xh (HS.out w2 A2.out cp HV.out);have q1:=A2.out.f1;have q2:=A2.out.f2;rw [HV.out] at q2;unfold Fm.mp at q1;have OX:=xh (((o1.out.drew).trans (ow.mono (fun g hg _=>oV x g hg))).trans zf.out.2.2.2);have z2:=zf.out.2.1;have ck2:=zf.out.1;clear mm ow;go_simp;refine hK.out _ _ (⟨q1,q2,ck2⟩) (fun aj=>?_)
    try simp only [Act.put,pa,pb,pc]
    refine wpAnyH_done (by kernel_rfl) ?_ _;go_wp2_with fail;go_ret;exact ⟨by first | rfl | simp,zf.out.2.2.1,OX.out⟩
   ·rw [if_pos he] at hR;subst hR;have hq:(e1 != 0)=true:=by rw [bne_iff_ne]; exact he
    have jm:(e1==0)=false:=by rw [beq_eq_false_iff_ne]; exact he
    clear h h1 h2 h3 hv hf vQ HR JY hid FT Cc;generalize c.table.length=tn at *;unfold Fm.mp at *;unfold sp at *;go_enter Tryz.func147,Tryz.ntmps147;go_wp2_with fail;refine KW.out.mono ?_;rintro e w1 ⟨rfl,rfl⟩;go_wp2_with fail;refine KA.out.mono ?_;rintro e w1 ⟨rfl,rfl⟩;go_wp2_with fail;go_quiet ((go_at_call 192; exact sN (KF.out _)));go_wp2_with fail;refine (KN.out nq).mono ?_;rintro e w1 ⟨rfl,A1,o1⟩;have A1:=xh A1;have o1:=xh (((ag.refl x.fp w).drewN nq).trans o1)
    go_wp2_with fail;go_ret;exact ⟨by first | rfl | simp,A1.out,o1.out⟩
 ·rw [if_pos h3] at hR;subst hR;have KA:=xh KA;have hq:(c.gI l != 0)=true:=by rw [bne_iff_ne]; exact h3
  have jm:(c.gI l==0)=false:=by rw [beq_eq_false_iff_ne]; exact h3
  generalize c.gI l=ea at *;clear h h1 h2 h3;unfold sp at *;go_enter Tryz.func147,Tryz.ntmps147;go_wp2_with fail;refine KW.out.mono ?_;rintro e w1 ⟨rfl,rfl⟩;go_wp2_with fail;refine KA.out.mono ?_;rintro e w1 ⟨rfl,rfl⟩;go_wp2_with fail;go_ret;exact ⟨by first | rfl | simp,HH.out,ag.refl _ _⟩
end Go.Proofs.YtmonobkginiajaaGreat.Sh
namespace Go.Proofs.YtmonobkginiajaaGreat.Sh
open Go.RowKit Pk Dk Pg
attribute [local go_sem ↓] Go.wp_at_zero Go.wp_at_succ
def JZ (e:Int):List PanicEntry:=[{v:= .iface 31 (.int .i64 e),recovered:=false}]
theorem kZ (w:World):Calls Tryz.prog 199 #[.int .i64 0] w fun e w'=>e= .returned (.tuple #[])∧w=w':=by
 go_enter Tryz.func199,Tryz.ntmps199;go_wp2_with fail
 go_end0
 exact ⟨rfl,rfl⟩
theorem pf (e0:Int) (he:e0≠0) (w:World):Calls Tryz.prog 199 #[.int .i64 e0] w fun e w'=>e= .panicked (JZ e0)∧w=w':=by
 have hq:(e0 != 0)=true:=by rw [bne_iff_ne]; exact he
 have jm:(e0==0)=false:=by rw [beq_eq_false_iff_ne]; exact he
 unfold JZ;go_enter Tryz.func199,Tryz.ntmps199;go_wp2_with fail;exact ⟨rfl,rfl,rfl⟩
theorem zP (w:World):(Instr.typeAssert .nilIface 20 31 true).run Tryz.prog w= .ok (.tuple #[.int .i64 0,.bool false]) w:=by kernel_rfl
theorem zQ (w:World) (e:Int):(Instr.typeAssert (.iface 31 (.int .i64 e)) 20 31 true).run Tryz.prog w= .ok (.tuple #[.int .i64 e,.bool true]) w:=by kernel_rfl
theorem C9 (p:Addr) (w:World):
  CallsD Tryz.prog 196 #[.pointer (some p)] .returning w fun e u' w'=>e= .returned (.tuple #[])∧u'= .returning∧w'=w:=by
 have ha:=zP w;refine callsD_of_wpS Tryz.func196 rfl fun c₀ cs hu=>?_;apply wpS_seq;apply wpS_region;simp [wpOpsS,go_sem,recoverD,hu,Tryz.ntmps196,Exit.thenS,ha];apply wpS_seq;apply wpS_region;simp [wpOpsS,go_sem,Exit.thenS];refine wpS_cond (t:=false) (by simp [Act.eval,Array.replicate]) ?_;simp only [Bool.false_eq_true,if_false];refine wpS_of_wp (wp_skip ?_)
 cases c₀
 simp_all [bodyPostS,results,Tryz.results196]
theorem gF (p:Addr) (x e0:Int) (older:List PanicEntry) (w:World) (hc:w.cell? p=some (.int .i64 x)) (hz:w.frozen? p=false):
  CallsD Tryz.prog 196 #[.pointer (some p)] (.panicking ({v:= .iface 31 (.int .i64 e0),recovered:=false}::older)) w fun e u' w'=>
   e= .returned (.tuple #[])∧u'= .panicking ({v:= .iface 31 (.int .i64 e0),recovered:=true}::older)∧w'=w.setCell p (.int .i64 e0):=by
 have ha:=zQ w e0;refine callsD_of_wpS Tryz.func196 rfl fun c₀ cs hu=>?_;apply wpS_seq;apply wpS_region;simp [wpOpsS,go_sem,recoverD,hu,Tryz.ntmps196,Exit.thenS,ha];apply wpS_seq;apply wpS_region;simp [wpOpsS,go_sem,Exit.thenS];refine wpS_cond (t:=true) (by simp [Act.eval,Array.replicate]) ?_;simp only [if_true];apply wpS_region;simp [wpOpsS,go_sem,hc,hz,bodyPostS,results,Tryz.results196]
theorem J0 {w:World} {x:X} {n:Nat} {c:C} (h:At w x n c) {q:Nat} (hq:w.cell? ⟨q,0,none⟩=some (sp x.b)) (i:Nat) (hi:116*i<c.table.length) (hb: ∀y∈c.table,y≤1023):
  Calls Tryz.prog 197 #[.int .i64 (i:Nat),.pointer (some ⟨q,0,none⟩)] w fun e w'=>e= .returned (.string ⟨(Rt.fC (Rt.eC c.table i)).toArray⟩)∧Below w.heap.size w w':=by
 have f2:=h.f2;obtain ⟨A,cc,hv,hcc⟩:=h.ht.val;have tl:=h.tl;have KP:=Rt.zO (w:=w) A c.table.length cc c.table ⟨rfl,fun k y hy=>by
  have hk:k<c.table.length:=(List.getElem?_eq_some_iff.1 hy).1;obtain ⟨g,cp,nz,ck⟩:=h.tk k hk;rw [hv] at nz;injection nz with e1 e2 e3
  refine ⟨_,e1,?_⟩;rw [show (⟨g,0,none⟩:Addr).add k=⟨g,k,none⟩ from by unfold Addr.add; split<;>simp_all,ck]
  congr 2
  simp [List.getD,hy]⟩ (by omega) hcc i hi
 have KP:=xh (KP.mono fun e w' hh=>(show e= .returned (.tuple #[.string ⟨(Rt.fC (Rt.eC c.table i)).toArray⟩,.int .i64 0])∧Below w.heap.size w w' from by
  obtain ⟨h1 | h1,h2⟩:=hh
  ·obtain ⟨⟨y,hy,dL⟩,_⟩:=h1;have:=hb y (List.mem_of_mem_drop (List.mem_of_mem_take hy));omega
  ·exact ⟨h1.2,h2⟩))
 rw [hv] at f2;clear h hv;unfold sp at *;go_enter Tryz.func197,Tryz.ntmps197;go_wp2_with fail;refine KP.out.mono ?_;rintro e w1 ⟨rfl,aM⟩;have H1:=xh aM;clear aM;go_wp2_with fail;go_ret;exact ⟨by first | rfl | simp,H1.out⟩
end Go.Proofs.YtmonobkginiajaaGreat.Sh
