/- packed. -/
import Derived.Test.YtmonobkginiajaaGreatQ13
import Derived.Test.YtmonobkginiajaaGreatQ7
import Derived.Shelf.Sort.Plain
import Derived.Shelf.Slices.In.SortNone
import Derived.Sort.OwnSortedInts
set_option linter.all false
set_option maxRecDepth 100000
set_option maxHeartbeats 8000000
namespace Go.Proofs.YtmonobkginiajaaGreat.Sh
open Go.RowKit Pk Dk Pg
theorem mM {a:St} {l:Int} (h:(a.at l).isSome=true):0≤l∧l.toNat<a.now.length:=by
 unfold St.at at h
 by_cases h0:0≤l
 ·rw [if_pos h0] at h;refine ⟨h0,?_⟩
  by_cases hl:l.toNat<a.now.length
  ·exact hl
  ·rw [List.getElem?_eq_none (by omega)] at h
   cases h
 ·rw [if_neg h0] at h; cases h
theorem sy {a:St} {l:Int}:(a.aD l).2=0↔(a.at l).isSome=true:=by
 unfold St.aD
 cases h:a.at l with
 | none=>simp
 | some u=>simp
theorem jI {a:St} {l:Int} {p:List UInt8} (h:(a.ar l p).2=0) (j:Int):(a.ar l p).1.aD j=if j=l then (dA p 232,0) else a.aD j:=by
 unfold St.ar at h ⊢
 by_cases h1:232<p.length
 ·rw [if_pos h1] at h; exact absurd h (by show (4:Int)≠0; decide)
 rw [if_neg h1] at h ⊢
 by_cases h2: ¬(a.at l).isSome=true
 ·rw [if_pos h2] at h; exact absurd h (by show (3:Int)≠0; decide)
 rw [if_neg h2] at h ⊢
 by_cases h3:dZ (a.at l)=false∧a.free=0
 ·rw [if_pos h3] at h; exact absurd h (by show (11:Int)≠0; decide)
 rw [if_neg h3];obtain ⟨l0,l1⟩:=mM (Classical.not_not.1 h2);have hat:St.at {a with now:=a.now.set l.toNat (some (true,dA p 232))} j=if j=l then some (true,dA p 232) else a.at j:=by
  unfold St.at
  by_cases hj:j=l
  ·subst hj;rw [if_pos l0,if_pos rfl];show ((a.now.set j.toNat _)[j.toNat]?).getD none=_;rw [List.getElem?_set_self l1];rfl
  ·rw [if_neg hj]
   by_cases h0:0≤j
   ·rw [if_pos h0,if_pos h0];show ((a.now.set l.toNat _)[j.toNat]?).getD none=_;rw [List.getElem?_set_ne (by omega)]
   ·rw [if_neg h0,if_neg h0]
 show St.aD {a with now:=a.now.set l.toNat (some (true,dA p 232))} j=_;unfold St.aD;rw [hat]
 by_cases hj:j=l
 ·rw [if_pos hj,if_pos hj]
 ·rw [if_neg hj,if_neg hj]
def QS.vw (q:QS) (j:Int):List UInt8×Int:=if 0≤findF q.l j then ((hJ q.l (findF q.l j).toNat).et.data.toList,0) else q.a.aD j
structure Vi (q:QS):Prop where
 un: ∀(i j:Nat) (f h:Fr),q.l[i]?=some f→q.l[j]?=some h→f.al=h.al→0≤f.al→i=j
 cl: ∀f∈q.l,0≤f.al→f.bG=false→q.a.aD f.al=(f.et.data.toList,0)
 ex: ∀f∈q.l,0≤f.al→(q.a.aD f.al).2=0
 em: ∀f∈q.l,f.al<0→f.bG=false
 fl: ∀f∈q.l,0≤f.al→f.et.size=232
theorem yD {l:List Fr} {k:Nat} {f:Fr} (hf:l[k]?=some f) (h0:0≤f.al) (un: ∀(j:Nat) (h:Fr),l[j]?=some h→h.al=f.al→j=k):findF l f.al=k:=by
 unfold findF;rw [if_neg (by omega)];exact sq hf (by simp) (fun j a hj hja=>by
  simp only [decide_eq_false_iff_not];intro e;have:=un j a hja e;omega)
theorem Kq {l:List Fr} {j:Int} (h:j<0∨ ∀f∈l,f.al≠j):findF l j= -1:=by
 unfold findF
 by_cases h0:j<0
 ·rw [if_pos h0]
 ·rw [if_neg h0];exact tr (fun i a hi=>by
   simp only [decide_eq_false_iff_not];exact h.resolve_left h0 a (List.mem_of_getElem? hi))
theorem dK {q:QS} {j:Int} (h:j<0∨ ∀f∈q.l,f.al≠j):q.vw j=q.a.aD j:=by
 unfold QS.vw;rw [Kq h,if_neg (by omega)]
theorem Vi.gC {q:QS} (V:Vi q) {k:Nat} {f:Fr} (hf:q.l[k]?=some f) (h0:0≤f.al):q.vw f.al=(f.et.data.toList,0):=by
 unfold QS.vw;rw [yD hf h0 (fun j h hj e=>V.un j k h f hj hf e (by omega)),if_pos (by omega),show ((k:Nat):Int).toNat=k by omega,k7 hf]
theorem ff (q:QS) (j:Int):(j<0∨ ∀f∈q.l,f.al≠j)∨ ∃(k:Nat) (f:Fr),q.l[k]?=some f∧f.al=j∧0≤j:=by
 by_cases h0:j<0
 ·exact .inl (.inl h0)
 by_cases h: ∃f∈q.l,f.al=j
 ·obtain ⟨f,hf,e⟩:=h;obtain ⟨k,hk⟩:=List.mem_iff_getElem?.1 hf;exact .inr ⟨k,f,hk,e,by omega⟩
 ·exact .inl (.inr (fun f hf e=>h ⟨f,hf,e⟩))
def pd (f:Fr):Int×ByteArray×Bool:=(f.al,f.et,f.bG)
theorem yE {l l':List Fr} (e:l'.map pd=l.map pd) {k:Nat} {f:Fr} (hf:l[k]?=some f): ∃f',l'[k]?=some f'∧f'.al=f.al∧f'.et=f.et∧f'.bG=f.bG:=by
 have:(l'.map pd)[k]?=(l.map pd)[k]?:=by rw [e]
 rw [List.getElem?_map,List.getElem?_map,hf] at this
 cases h':l'[k]? with
 | none=>rw [h'] at this; cases this
 | some f'=>
  rw [h'] at this;have:pd f'=pd f:=by simpa using this
  exact ⟨f',rfl,congrArg Prod.fst this,congrArg (fun x=>x.2.1) this,congrArg (fun x=>x.2.2) this⟩
theorem tW {l l':List Fr} (e:l'.map pd=l.map pd) {f:Fr} (hf:f∈l): ∃f'∈l',f'.al=f.al∧f'.et=f.et∧f'.bG=f.bG:=by
 obtain ⟨k,hk⟩:=List.mem_iff_getElem?.1 hf;obtain ⟨f',h1,h2⟩:=yE e hk;exact ⟨f',List.mem_of_getElem? h1,h2⟩
theorem Vi.pd {q q':QS} (V:Vi q) (ea:q'.a=q.a) (e:q'.l.map Sh.pd=q.l.map Sh.pd):Vi q'∧ ∀j,q'.vw j=q.vw j:=by
 have V':Vi q':=by
  refine ⟨fun i j f h hf hh ep h0=>?_,fun f hf h0 hd=>?_,fun f hf h0=>?_,fun f hf h0=>?_,fun f hf h0=>?_⟩
  ·obtain ⟨f',a1,a2,_⟩:=yE e.symm hf;obtain ⟨h',b1,b2,_⟩:=yE e.symm hh;exact V.un i j f' h' a1 b1 (by omega) (by omega)
  ·obtain ⟨f',a1,a2,a3,a4⟩:=tW e.symm hf;rw [ea,←a2,←a3];exact V.cl f' a1 (by omega) (by rw [a4]; exact hd)
  ·obtain ⟨f',a1,a2,_⟩:=tW e.symm hf;rw [ea,←a2];exact V.ex f' a1 (by omega)
  ·obtain ⟨f',a1,a2,_,a4⟩:=tW e.symm hf;rw [←a4];exact V.em f' a1 (by omega)
  ·obtain ⟨f',a1,a2,a3,_⟩:=tW e.symm hf;rw [←a3];exact V.fl f' a1 (by omega)
 refine ⟨V',fun j=>?_⟩
 rcases ff q j with h | ⟨k,f,hf,rfl,h0⟩
 ·rw [dK h,dK (h.imp id (fun h f hf=>by
   obtain ⟨f',a1,a2,_⟩:=tW e.symm hf;rw [←a2]; exact h f' a1)),ea]
 ·obtain ⟨f',a1,a2,a3,_⟩:=yE e hf;rw [V.gC hf h0,←a2,V'.gC a1 (by omega),a3]
theorem mem_set {l:List Fr} {k:Nat} {g f:Fr} (h:f∈l.set k g):f=g∨ ∃i,i≠k∧l[i]?=some f:=by
 obtain ⟨i,hi⟩:=List.mem_iff_getElem?.1 h
 by_cases tM:i=k
 ·subst tM;rw [List.getElem?_set] at hi
  split at hi
  ·split at hi
   ·injection hi with hi; exact .inl hi.symm
   ·cases hi
  ·rename_i h; exact absurd rfl h
 ·rw [List.getElem?_set_ne (by omega)] at hi;exact .inr ⟨i,tM,hi⟩
theorem pz {b:ByteArray} (h:b.size=232):dA b.data.toList 232=b.data.toList:=by
 have hl:b.data.toList.length=b.size:=by simp
 unfold dA;rw [hl,h];simp
theorem Vi.wrote {q:QS} (V:Vi q) {k:Nat} {f:Fr} (hf:q.l[k]?=some f) (h0:0≤f.al) (hw:(q.a.ar f.al f.et.data.toList).2=0):
  Vi {q with a:=(q.a.ar f.al f.et.data.toList).1,l:=q.l.set k {f with bG:=false}}∧ ∀j,QS.vw {q with a:=(q.a.ar f.al f.et.data.toList).1,l:=q.l.set k {f with bG:=false}} j=q.vw j:=by
 have hr:=jI hw;have hp:=pz (V.fl f (List.mem_of_getElem? hf) h0);have hk:=(List.getElem?_eq_some_iff.1 hf).1;have ne: ∀(i:Nat) (h:Fr),i≠k→q.l[i]?=some h→h.al≠f.al:=fun i h hi hh e=>hi (V.un i k h f hh hf e (by omega));have V':Vi {q with a:=(q.a.ar f.al f.et.data.toList).1,l:=q.l.set k {f with bG:=false}}:=by
  refine ⟨fun i j g h hg hh ep IK=>?_,fun g hg IK hd=>?_,fun g hg IK=>?_,fun g hg IK=>?_,fun g hg IK=>?_⟩
  ·have gt: ∀(i:Nat) (g:Fr),(q.l.set k {f with bG:=false})[i]?=some g→ ∃g',q.l[i]?=some g'∧g'.al=g.al:=fun i g hg=>by
    by_cases tM:i=k
    ·subst tM;rw [List.getElem?_set_self hk] at hg;injection hg with hg
     exact ⟨f,hf,by rw [←hg]⟩
    ·rw [List.getElem?_set_ne (by omega)] at hg;exact ⟨g,hg,rfl⟩
   obtain ⟨g',a1,a2⟩:=gt i g hg;obtain ⟨h',b1,b2⟩:=gt j h hh;exact V.un i j g' h' a1 b1 (by omega) (by omega)
  ·show (q.a.ar f.al f.et.data.toList).1.aD g.al=_
   rcases mem_set hg with rfl | ⟨i,hi,Kr⟩
   ·rw [hr,if_pos rfl,hp]
   ·rw [hr,if_neg (ne i g hi Kr)];exact V.cl g (List.mem_of_getElem? Kr) IK hd
  ·show ((q.a.ar f.al f.et.data.toList).1.aD g.al).2=0
   rcases mem_set hg with rfl | ⟨i,hi,Kr⟩
   ·rw [hr,if_pos rfl]
   ·rw [hr,if_neg (ne i g hi Kr)];exact V.ex g (List.mem_of_getElem? Kr) IK
  ·rcases mem_set hg with rfl | ⟨i,hi,Kr⟩
   ·rfl
   ·exact V.em g (List.mem_of_getElem? Kr) IK
  ·rcases mem_set hg with rfl | ⟨i,hi,Kr⟩
   ·exact V.fl f (List.mem_of_getElem? hf) h0
   ·exact V.fl g (List.mem_of_getElem? Kr) IK
 refine ⟨V',fun j=>?_⟩
 rcases ff q j with h | ⟨i,g,hg,rfl,IK⟩
 ·rw [dK h,dK (h.imp id (fun h g hg=>by
   rcases mem_set hg with rfl | ⟨i,hi,Kr⟩
   ·exact h f (List.mem_of_getElem? hf)
   ·exact h g (List.mem_of_getElem? Kr)))]
  show (q.a.ar f.al f.et.data.toList).1.aD j=_;rw [hr,if_neg];intro e
  rcases h with h | h
  ·omega
  ·exact h f (List.mem_of_getElem? hf) e.symm
 ·rw [V.gC hg IK]
  by_cases tM:i=k
  ·subst tM;have:g=f:=by rw [hg] at hf; injection hf
   subst this;exact V'.gC (k:=i) (f:={g with bG:=false}) (by show (q.l.set i _)[i]?=_; rw [List.getElem?_set_self hk]) IK
  ·exact V'.gC (k:=i) (f:=g) (by show (q.l.set k _)[i]?=_; rw [List.getElem?_set_ne (by omega)]; exact hg) IK
theorem Vi.swap {q:QS} (V:Vi q) {k:Nat} {f:Fr} (hf:q.l[k]?=some f) (hd:f.bG=false) (g:Fr) (hg:g=Fr.nil∨(0≤g.al∧g.bG=false∧(∀h∈q.l,h.al≠g.al)∧q.a.aD g.al=(g.et.data.toList,0)∧g.et.size=232)):
  Vi {q with l:=q.l.set k g}∧ ∀j,QS.vw {q with l:=q.l.set k g} j=q.vw j:=by
 have hk:=(List.getElem?_eq_some_iff.1 hf).1;have hgp:g.al<0∨0≤g.al:=by omega
 have gn:g.al<0→g=Fr.nil:=fun h=>hg.resolve_right (fun h'=>by omega);have gp:0≤g.al→g.bG=false∧(∀h∈q.l,h.al≠g.al)∧q.a.aD g.al=(g.et.data.toList,0)∧g.et.size=232:=fun h=>by
  rcases hg with rfl | hg
  ·exact absurd h (by decide)
  ·exact hg.2
 have V':Vi {q with l:=q.l.set k g}:=by
  refine ⟨fun i j f1 h1 nV hh1 ep h0=>?_,fun f1 nV h0 vD=>?_,fun f1 nV h0=>?_,fun f1 nV h0=>?_,fun f1 nV h0=>?_⟩
  ·have gt: ∀(i:Nat) (x:Fr),(q.l.set k g)[i]?=some x→(i=k∧x=g)∨(i≠k∧q.l[i]?=some x):=fun i x hx=>by
    by_cases tM:i=k
    ·subst tM;rw [List.getElem?_set_self hk] at hx;injection hx with hx
     exact .inl ⟨rfl,hx.symm⟩
    ·rw [List.getElem?_set_ne (by omega)] at hx;exact .inr ⟨tM,hx⟩
   rcases gt i f1 nV with ⟨rfl,rfl⟩ | ⟨hi,kN⟩
   ·rcases gt j h1 hh1 with ⟨rfl,rfl⟩ | ⟨hj,hj'⟩
    ·rfl
    ·exact absurd ep.symm ((gp h0).2.1 h1 (List.mem_of_getElem? hj'))
   ·rcases gt j h1 hh1 with ⟨rfl,rfl⟩ | ⟨hj,hj'⟩
    ·exact absurd ep ((gp (by omega)).2.1 f1 (List.mem_of_getElem? kN))
    ·exact V.un i j f1 h1 kN hj' ep h0
  ·rcases mem_set nV with rfl | ⟨i,hi,kN⟩
   ·exact (gp h0).2.2.1
   ·exact V.cl f1 (List.mem_of_getElem? kN) h0 vD
  ·show (q.a.aD f1.al).2=0
   rcases mem_set nV with rfl | ⟨i,hi,kN⟩
   ·rw [(gp h0).2.2.1]
   ·exact V.ex f1 (List.mem_of_getElem? kN) h0
  ·rcases mem_set nV with rfl | ⟨i,hi,kN⟩
   ·rw [gn h0]; rfl
   ·exact V.em f1 (List.mem_of_getElem? kN) h0
  ·rcases mem_set nV with rfl | ⟨i,hi,kN⟩
   ·exact (gp h0).2.2.2
   ·exact V.fl f1 (List.mem_of_getElem? kN) h0
 refine ⟨V',fun j=>?_⟩
 by_cases hjg:0≤g.al∧g.al=j
 ·obtain ⟨h0,rfl⟩:=hjg;rw [V'.gC (k:=k) (f:=g) (by show (q.l.set k g)[k]?=_; rw [List.getElem?_set_self hk]) h0,dK (.inr (gp h0).2.1)];exact (gp h0).2.2.1.symm
 rcases ff q j with h | ⟨i,f1,nV,rfl,h0⟩
 ·rw [dK h,dK (q:={q with l:=q.l.set k g})]
  by_cases hj:j<0
  ·exact .inl hj
  ·refine .inr (fun f1 nV=>?_)
   rcases mem_set nV with rfl | ⟨i,hi,kN⟩
   ·intro e; exact hjg ⟨by omega,e⟩
   ·exact h.resolve_left hj f1 (List.mem_of_getElem? kN)
 ·rw [V.gC nV h0]
  by_cases tM:i=k
  ·subst tM;have:f1=f:=by rw [nV] at hf; injection hf
   subst this;rw [dK (q:={q with l:=q.l.set i g}) (.inr (fun x hx=>by
    rcases mem_set hx with rfl | ⟨i',hi,kN⟩
    ·intro e; exact hjg ⟨by omega,e⟩
    ·intro e; exact hi (V.un i' i x f1 kN nV e (by omega))))]
   exact V.cl f1 (List.mem_of_getElem? nV) h0 hd
  ·exact V'.gC (k:=i) (f:=f1) (by show (q.l.set k g)[i]?=_; rw [List.getElem?_set_ne (by omega)]; exact nV) h0
end Go.Proofs.YtmonobkginiajaaGreat.Sh
namespace Go.Proofs.YtmonobkginiajaaGreat.Sh
open Go.RowKit Pk Dk Pg
theorem Ks (m:Nat) (s:QS):s.gZ (m+1)=if 0<(hJ s.l s.hand).held then s.turn.gZ m else if (hJ s.l s.hand).used=true then QS.gZ m {s.turn with l:=s.l.set s.hand {hJ s.l s.hand with used:=false}} else (s.turn,(s.hand:Int)):=rfl
theorem tX {l:List Fr} {p:Int} (h:findF l p= -1) (h0:0≤p): ∀f∈l,f.al≠p:=by
 intro f hf e;unfold findF at h;rw [if_neg (by omega)] at h;unfold zI at h
 split at h
 ·omega
 ·rename_i hn;exact hn (List.findIdx_lt_length.2 ⟨f,hf,by simpa using e⟩)
theorem Kt {q:QS} {n K:Nat} (H:Hq q n K) (p:Int) (b:ByteArray) (hb:b.size≤232) (h0:(q.aL p).2.2=0):((q.aL p).1.dY p b).2=0:=by
 have key: ∀(q':QS) (k:Nat) (f:Fr),findF q'.l p=k→q'.l[k]?=some f→f.held≠0→(q'.dY p b).2=0:=fun q' k f e hf hn=>by
  unfold QS.dY QS.fA;rw [if_neg (by omega),e,if_neg (by omega),show ((k:Nat):Int).toNat=k by omega,hf];dsimp only;rw [if_neg hn]
 have hit: ∀(l:List Fr) (k:Nat) (f:Fr),l[k]?=some f→f.al=p→0≤p→(∀(j:Nat) (a:Fr),j<k→l[j]?=some a→a.al≠p)→findF l p=k:=fun l k f hf e h0 ha=>by
  unfold findF;rw [if_neg (by omega)];exact sq hf (by simpa using e) (fun j a hj hja=>by simpa using ha j a hj hja)
 unfold QS.aL at h0 ⊢
 rcases fe q.l p with e | ⟨k,f,e,hk,he,hp⟩
 ·rw [e,if_neg (by omega)] at h0 ⊢
  by_cases hr:(q.a.aD p).2≠0
  ·rw [if_pos hr] at h0; exact absurd h0 hr
  rw [if_neg hr] at h0 ⊢;have hp:0≤p:=by
   by_cases hp:0≤p
   ·exact hp
   ·exfalso;apply hr;unfold St.aD St.at;rw [if_neg hp];decide
  obtain ⟨v1,v3⟩:=H.Kn;have va:=gy q
  by_cases hv:q.aB.2<0
  ·rw [if_pos hv] at h0; exact absurd h0 (by show (12:Int)≠0; decide)
  rw [if_neg hv] at h0 ⊢
  rcases v3 with v3 | ⟨k,v3,gw⟩
  ·omega
  rw [v3,show ((k:Nat):Int).toNat=k by omega] at h0 ⊢
  by_cases bT:(q.aB.1.bF k).2≠0
  ·rw [if_pos bT] at h0; exact absurd h0 bT
  rw [if_neg bT];have Jx: ∀f∈q.l,f.al≠p:=tX e hp;have jL:(q.aB.1.bF k).1.l.map Fr.al=q.l.map Fr.al:=by
   have sp: ∀(m:Nat) (s:QS),s.hand<s.l.length→(s.gZ m).1.l.map Fr.al=s.l.map Fr.al:=by
    intro m
    induction m with
    | zero=>intro s _; rfl
    | succ m ih=>
     intro s hs;rw [Ks];have ht:s.turn.hand<s.turn.l.length:=Nat.mod_lt _ (by show 0<s.l.length; omega)
     split
     ·exact ih s.turn ht
     ·split
      ·have hx:=ih {s.turn with l:=s.l.set s.hand {hJ s.l s.hand with used:=false}} (by show s.turn.hand<(s.l.set _ _).length; rw [List.length_set]; exact ht);rw [hx];show (s.l.set s.hand _).map Fr.al=_;rw [List.map_set];apply List.ext_getElem?;intro i;rw [List.getElem?_set]
       split
       ·rename_i hi;subst hi;rw [if_pos (by simpa using hs),List.getElem?_map,jl hs];rfl
       ·rfl
      ·rfl
   have bp:(q.aB.1.bF k).1.l.map Fr.al=q.aB.1.l.map Fr.al:=by
    have hkv:k<q.aB.1.l.length:=by omega
    unfold QS.bF
    split
    ·split
     ·show (q.aB.1.l.set k _).map Fr.al=_;rw [List.map_set];apply List.ext_getElem?;intro i;rw [List.getElem?_set]
      split
      ·rename_i hi;subst hi;rw [if_pos (by simpa using hkv),List.getElem?_map,jl hkv];rfl
      ·rfl
     ·rfl
    ·rfl
   rw [bp];unfold QS.aB
   split
   ·rfl
   ·exact sp _ q H.lh
  have su:=(tU (k:=k) v1.f (by omega)).2;refine key _ k ⟨p,⟨(q.a.aD p).1.toArray⟩,1,false,true⟩ (hit _ k ⟨p,⟨(q.a.aD p).1.toArray⟩,1,false,true⟩ (by rw [List.getElem?_set_self (by omega)]) rfl hp (fun j a hj hja=>?_)) (by rw [List.getElem?_set_self (by omega)]) (by show (1:Int)≠0; decide);rw [List.getElem?_set_ne (by omega)] at hja;have hm:a.al∈q.l.map Fr.al:=by rw [←jL]; exact List.mem_map_of_mem (List.mem_of_getElem? hja)
  obtain ⟨f',hf',e'⟩:=List.mem_map.1 hm;rw [←e'];exact Jx f' hf'
 ·rw [e,if_pos (by omega),show ((k:Nat):Int).toNat=k by omega,k7 hk];have gw:k<q.l.length:=(List.getElem?_eq_some_iff.1 hk).1;have hfb:=H.f f (List.mem_of_getElem? hk);refine key _ k {f with held:=f.held+1,used:=true} (hit _ k {f with held:=f.held+1,used:=true} (by rw [List.getElem?_set_self gw]) he hp (fun j a hj hja=>?_)) (by rw [List.getElem?_set_self gw]) (by show f.held+1≠0; omega);rw [List.getElem?_set_ne (by omega)] at hja;intro ea;have:findF q.l p=j∨findF q.l p<k:=by
   right;unfold findF;rw [if_neg (by omega)];unfold zI;have hj2:=(List.getElem?_eq_some_iff.1 hja);obtain ⟨hjl,hje⟩:=hj2;have hle:q.l.findIdx (fun f=>decide (f.al=p))≤j:=by
    by_cases h:q.l.findIdx (fun f=>decide (f.al=p))≤j
    ·exact h
    ·have:=List.not_of_lt_findIdx (p:=fun f=>decide (f.al=p)) (xs:=q.l) (i:=j) (by omega);rw [hje] at this;simp [ea] at this
   rw [if_pos (by omega)];omega
  omega
def Du (f:Fr):Int×ByteArray×Bool×Int:=(f.al,f.et,f.bG,f.held)
theorem pdh_pd {l l':List Fr} (e:l'.map Du=l.map Du):l'.map Sh.pd=l.map Sh.pd:=by
 have h: ∀l:List Fr,l.map Sh.pd=(l.map Du).map (fun x=>(x.1,x.2.1,x.2.2.1)):=fun l=>by rw [List.map_map]; rfl
 rw [h,h,e]
theorem Ai {l l':List Fr} (e:l'.map Du=l.map Du) (h: ∀f∈l,f.held=0): ∀f∈l',f.held=0:=fun f hf=>by
 have:Du f∈l.map Du:=by rw [←e]; exact List.mem_map_of_mem hf
 obtain ⟨f',h1,h2⟩:=List.mem_map.1 this;have h3:f'.held=f.held:=congrArg (fun x=>x.2.2.2) h2;rw [←h3];exact h f' h1
theorem Dv (s:QS) (hl:s.hand<s.l.length) (hh: ∀f∈s.l,f.held=0): ∀m,s.l.countP Fr.used<m→ ∃k:Nat,(s.gZ m).2=k∧k<s.l.length∧(s.gZ m).1.l.map Du=s.l.map Du:=by
 intro m
 induction m generalizing s with
 | zero=>intro h; omega
 | succ m ih=>
  intro hm;have hf:=jl hl;have h0:=hh _ (List.mem_of_getElem? hf);have ht:(s.hand+1) % s.l.length<s.l.length:=Nat.mod_lt _ (by omega);rw [Ks,if_neg (by omega)]
  by_cases hu:(hJ s.l s.hand).used=true
  ·rw [if_pos hu];have yi:(s.l.set s.hand {hJ s.l s.hand with used:=false}).map Du=s.l.map Du:=ig s.l Du s.hand hf rfl;have hlen:(s.l.set s.hand {hJ s.l s.hand with used:=false}).length=s.l.length:=List.length_set ..;have hc:(s.l.set s.hand {hJ s.l s.hand with used:=false}).countP Fr.used<s.l.countP Fr.used:=by
    rw [List.countP_set hl];have e:s.l[s.hand]=hJ s.l s.hand:=by unfold hJ; rw [List.getElem?_eq_getElem hl]; rfl
    have hp:0<s.l.countP Fr.used:=List.countP_pos_iff.2 ⟨_,List.getElem_mem hl,by rw [e]; exact hu⟩;rw [e];simp [hu];omega
   obtain ⟨k,h1,h2,h3⟩:=ih {s.turn with l:=s.l.set s.hand {hJ s.l s.hand with used:=false}} (by rw [hlen]; exact ht)
    (fun f vQ=>(List.mem_or_eq_of_mem_set vQ).elim (hh f) (fun e=>by rw [e]; exact h0)) (by show List.countP _ (s.l.set _ _)<m; omega)
   rw [hlen] at h2;exact ⟨k,h1,h2,h3.trans yi⟩
  ·rw [if_neg hu];exact ⟨s.hand,rfl,hl,rfl⟩
theorem yF (s:QS) (hl:s.hand<s.l.length) (hh: ∀f∈s.l,f.held=0): ∃k:Nat,s.aB.2=k∧k<s.l.length∧s.aB.1.l.map Du=s.l.map Du:=by
 unfold QS.aB
 rcases yn (fun f=>decide (f.al<0)) s.l with e | ⟨k,f,e,hf,_⟩
 ·rw [e,if_neg (by omega)];exact Dv s hl hh _ (by have:=List.countP_le_length (p:=Fr.used) (l:=s.l); omega)
 ·rw [e,if_pos (by omega)];exact ⟨k,rfl,(List.getElem?_eq_some_iff.1 hf).1,rfl⟩
theorem Zc.len {c:C} {n:Nat} {a:St} {K:Nat} (z:Zc c n a K) {l:Int} (h:(a.aD l).2=0):(a.aD l).1.length=232:=by
 have hr:=z.read l;rw [ql z.g] at hr;rw [←hr] at h ⊢;exact zM z.g h
theorem ba_eta (b:ByteArray):(⟨b.data.toList.toArray⟩:ByteArray)=b:=by simp
theorem Aj {q:QS} (V:Vi q) {p:Int} {k:Nat} {f:Fr} (hf:q.l[k]?=some f) (he:f.al=p) (h0:0≤p) (h1:f.held=1) (hN: ∀(i:Nat) (h:Fr),i≠k→q.l[i]?=some h→h.held=0):
  (q.fI p).1.a=q.a∧Vi (q.fI p).1∧(∀j,(q.fI p).1.vw j=q.vw j)∧ ∀f∈(q.fI p).1.l,f.held=0:=by
 have gw:=(List.getElem?_eq_some_iff.1 hf).1;have e:findF q.l p=k:=by rw [←he]; exact yD hf (by omega) (fun j h hj ej=>V.un j k h f hj hf ej (by omega))
 have hE:(q.fI p).1={q with l:=q.l.set k {f with held:=f.held-1}}:=by
  unfold QS.fI QS.fA;rw [e,if_neg (by omega),show ((k:Nat):Int).toNat=k by omega,hf];dsimp only;rw [if_neg (by omega)]
 rw [hE];obtain ⟨V1,w1⟩:=V.pd (q':={q with l:=q.l.set k {f with held:=f.held-1}}) rfl (ig q.l Sh.pd k hf rfl);refine ⟨rfl,V1,w1,fun g hg=>?_⟩
 rcases mem_set hg with rfl | ⟨i,hi,kN⟩
 ·show f.held-1=0;omega
 ·exact hN i g hi kN
theorem tY {q:QS} (N: ∀f∈q.l,f.held=0):q.pw=0:=by
 unfold QS.pw;rw [List.countP_eq_zero];intro f hf;rw [N f hf];decide
theorem Vi.setp {q:QS} (V:Vi q) {k:Nat} {f:Fr} (hf:q.l[k]?=some f) (h0:0≤f.al) (g:Fr) (ep:g.al=f.al) (hd:g.bG=true) (hs:g.et.size=232):
  Vi {q with l:=q.l.set k g}∧ ∀j,QS.vw {q with l:=q.l.set k g} j=if j=f.al then (g.et.data.toList,0) else q.vw j:=by
 have hk:=(List.getElem?_eq_some_iff.1 hf).1;have gt: ∀(i:Nat) (x:Fr),(q.l.set k g)[i]?=some x→ ∃x',q.l[i]?=some x'∧x'.al=x.al:=fun i x hx=>by
  by_cases tM:i=k
  ·subst tM;rw [List.getElem?_set_self hk] at hx;injection hx with hx
   exact ⟨f,hf,by rw [←hx,ep]⟩
  ·rw [List.getElem?_set_ne (by omega)] at hx;exact ⟨x,hx,rfl⟩
 have V':Vi {q with l:=q.l.set k g}:=by
  refine ⟨fun i j f1 h1 nV hh1 e1 IL=>?_,fun f1 nV IL vD=>?_,fun f1 nV IL=>?_,fun f1 nV IL=>?_,fun f1 nV IL=>?_⟩
  ·obtain ⟨f',a1,a2⟩:=gt i f1 nV;obtain ⟨h',b1,b2⟩:=gt j h1 hh1;exact V.un i j f' h' a1 b1 (by omega) (by omega)
  ·rcases mem_set nV with rfl | ⟨i,hi,kN⟩
   ·rw [hd] at vD; cases vD
   ·exact V.cl f1 (List.mem_of_getElem? kN) IL vD
  ·show (q.a.aD f1.al).2=0
   rcases mem_set nV with rfl | ⟨i,hi,kN⟩
   ·rw [ep]; exact V.ex f (List.mem_of_getElem? hf) h0
   ·exact V.ex f1 (List.mem_of_getElem? kN) IL
  ·rcases mem_set nV with rfl | ⟨i,hi,kN⟩
   ·omega
   ·exact V.em f1 (List.mem_of_getElem? kN) IL
  ·rcases mem_set nV with rfl | ⟨i,hi,kN⟩
   ·exact hs
   ·exact V.fl f1 (List.mem_of_getElem? kN) IL
 refine ⟨V',fun j=>?_⟩
 by_cases hj:j=f.al
 ·subst hj;rw [if_pos rfl,←ep];exact V'.gC (k:=k) (f:=g) (by show (q.l.set k g)[k]?=_; rw [List.getElem?_set_self hk]) (by omega)
 ·rw [if_neg hj]
  rcases ff q j with h | ⟨i,f1,nV,rfl,IL⟩
  ·rw [dK h,dK (q:={q with l:=q.l.set k g}) (h.imp id (fun h x hx=>by
    rcases mem_set hx with rfl | ⟨i,hi,kN⟩
    ·rw [ep]; exact h f (List.mem_of_getElem? hf)
    ·exact h x (List.mem_of_getElem? kN)))]
  ·rw [V.gC nV IL];refine V'.gC (k:=i) (f:=f1) ?_ IL;have tM:i≠k:=fun e=>by
    subst e;have:f1=f:=by rw [nV] at hf; injection hf
    exact hj (by rw [this])
   show (q.l.set k g)[i]?=_;rw [List.getElem?_set_ne (by omega)];exact nV
theorem tZ (l:List nn): ∀(k i:Nat),gU l k≤i→i<k→(l[i]?).getD none=none
 | 0,i,_,h=>absurd h (Nat.not_lt_zero i)
 | k+1,i,h1,h2=>by
  unfold gU at h1
  by_cases h:((l[k]?).getD none).isSome=true
  ·rw [if_pos h] at h1; omega
  ·rw [if_neg h] at h1
   by_cases hk:i=k
   ·subst hk;simpa using h
   ·exact tZ l k i h1 (by omega)
theorem next_at (a:St) (j:Int):({a with now:=je a.cX,bE:=a.cX,ep:=a.ep+1}:St).at j=unfr (a.at j):=by
 unfold St.at
 by_cases h0:0≤j
 ·rw [if_pos h0,if_pos h0];show ((je a.cX)[j.toNat]?).getD none=_;rw [J1,List.getElem?_map,List.getElem?_take]
  by_cases h:j.toNat<gU a.now a.now.length
  ·rw [if_pos h]
   cases hx:a.now[j.toNat]? with
   | none=>rfl
   | some u=>rfl
  ·rw [if_neg h]
   by_cases hl:j.toNat<a.now.length
   ·rw [tZ a.now a.now.length j.toNat (by omega) hl];rfl
   ·rw [List.getElem?_eq_none (by omega)];rfl
 ·rw [if_neg h0,if_neg h0];rfl
theorem j6 (a:St) (j:Int):a.aA.1.aD j=a.aD j∧((a.aA.1.at j).isSome=(a.at j).isSome):=by
 unfold St.aA
 split
 ·exact ⟨rfl,rfl⟩
 ·unfold St.aD;show (match St.at {a with now:=je a.cX,bE:=a.cX,ep:=a.ep+1} j with | some (_,b)=>(b,(0:Int)) | none=>([],3))=_∧(St.at {a with now:=je a.cX,bE:=a.cX,ep:=a.ep+1} j).isSome=_;rw [next_at]
  cases a.at j with
  | none=>exact ⟨rfl,rfl⟩
  | some u=>exact ⟨rfl,rfl⟩
theorem Vi.jN {q:QS} (V:Vi q):Vi {q with a:=q.a.aA.1}∧ ∀j,QS.vw {q with a:=q.a.aA.1} j=q.vw j:=by
 refine ⟨⟨V.un,fun f hf h0 hd=>?_,fun f hf h0=>?_,V.em,V.fl⟩,fun j=>?_⟩
 ·show q.a.aA.1.aD f.al=_;rw [(j6 q.a _).1];exact V.cl f hf h0 hd
 ·show (q.a.aA.1.aD f.al).2=0;rw [(j6 q.a _).1];exact V.ex f hf h0
 ·unfold QS.vw;show (if 0≤findF q.l j then _ else q.a.aA.1.aD j)=_;rw [(j6 q.a j).1]
theorem Ku {q:QS} (V:Vi q) {k:Nat} (hk:k<q.l.length):
  ((q.bF k).2=0∧(q.bF k).1.a.bE=q.a.bE∧Vi (q.bF k).1∧(∀j,(q.bF k).1.vw j=q.vw j)∧ ∃f,(q.bF k).1.l[k]?=some f∧f.bG=false∧(q.bF k).1.l.map Fr.held=q.l.map Fr.held∧(q.bF k).1.l.map Fr.al=q.l.map Fr.al)∨q.bF k=(q,11):=by
 have hf:=jl hk;unfold QS.bF
 by_cases hd:(hJ q.l k).bG=true
 ·have h0:0≤(hJ q.l k).al:=by
   by_cases h:0≤(hJ q.l k).al
   ·exact h
   ·have:=V.em _ (List.mem_of_getElem? hf) (by omega);rw [hd] at this; cases this
  rw [if_pos hd];have hx:=V.ex _ (List.mem_of_getElem? hf) h0;have hl:=V.fl _ (List.mem_of_getElem? hf) h0;have hw:(q.a.ar (hJ q.l k).al (hJ q.l k).et.data.toList).2=0∧(q.a.ar (hJ q.l k).al (hJ q.l k).et.data.toList).1.bE=q.a.bE∨q.a.ar (hJ q.l k).al (hJ q.l k).et.data.toList=(q.a,11):=by
   unfold St.ar;rw [if_neg (by simp [hl]),if_neg (by rw [sy] at hx; simp [hx])]
   split
   ·exact .inr rfl
   ·exact .inl ⟨rfl,rfl⟩
  rcases hw with ⟨hw,ho⟩ | hw
  ·rw [if_pos hw];obtain ⟨V',hv⟩:=V.wrote hf h0 hw;exact .inl ⟨rfl,ho,V',hv,{hJ q.l k with bG:=false},by show (q.l.set k _)[k]?=_; rw [List.getElem?_set_self hk],rfl,ig q.l Fr.held k hf rfl,ig q.l Fr.al k hf rfl⟩
  ·rw [hw,if_neg (by simp)];exact .inr rfl
 ·rw [if_neg hd];exact .inl ⟨rfl,rfl,V,fun j=>rfl,_,hf,by simpa using hd,rfl,rfl⟩
theorem back_d {q:QS} {k:Nat} (hk:k<q.l.length) (h0:(q.bF k).2=0) {i:Nat} {f:Fr} (hf:(q.bF k).1.l[i]?=some f) (hd:f.bG=true):i≠k∧q.l[i]?=some f:=by
 have hk2:=jl hk;unfold QS.bF at h0 hf
 by_cases h1:(hJ q.l k).bG=true
 ·rw [if_pos h1] at h0 hf
  by_cases h2:(q.a.ar (hJ q.l k).al (hJ q.l k).et.data.toList).2=0
  ·rw [if_pos h2] at hf;have hf:(q.l.set k {hJ q.l k with bG:=false})[i]?=some f:=hf
   by_cases e:i=k
   ·subst e;rw [List.getElem?_set_self hk] at hf;injection hf with hf
    subst hf
    cases hd
   ·rw [List.getElem?_set_ne (by omega)] at hf;exact ⟨e,hf⟩
  ·rw [if_neg h2] at h0;exact absurd h0 h2
 ·rw [if_neg h1] at hf;have hf:q.l[i]?=some f:=hf;refine ⟨fun e=>?_,hf⟩;subst e;rw [hk2] at hf;injection hf with hf
  rw [hf] at h1;exact h1 hd
theorem Kv {q:QS} {n K:Nat} (H:Hq q n K) (V:Vi q) (N: ∀f∈q.l,f.held=0) (p:Int):
  (q.aL p).1.a.bE=q.a.bE∧Vi (q.aL p).1∧(∀j,(q.aL p).1.vw j=q.vw j)∧
  (((q.vw p).2=0∧(q.aL p).2=(⟨(q.vw p).1.toArray⟩,0)∧ ∃(k:Nat) (f:Fr),(q.aL p).1.l[k]?=some f∧f.al=p∧0≤p∧f.held=1∧ ∀(i:Nat) (h:Fr),i≠k→(q.aL p).1.l[i]?=some h→h.held=0)∨
   ((q.vw p).2=3∧(q.aL p).2=(⟨#[]⟩,3)∧ ∀f∈(q.aL p).1.l,f.held=0)∨((q.vw p).2=0∧(q.aL p).2=(⟨#[]⟩,11)∧ ∀f∈(q.aL p).1.l,f.held=0)):=by
 obtain ⟨c,z⟩:=H.z
 rcases fe q.l p with e | ⟨k,f,e,hk,he,vR⟩
 ·have Jx:p<0∨ ∀f∈q.l,f.al≠p:=by
   by_cases h0:p<0
   ·exact .inl h0
   ·exact .inr (tX e (by omega))
  have hvw:=dK (q:=q) Jx
  by_cases hr:(q.a.aD p).2≠0
  ·have hE:q.aL p=(q,⟨#[]⟩,(q.a.aD p).2):=by
    unfold QS.aL;rw [e,if_neg (by omega),if_pos hr]
   have h3:(q.a.aD p).2=3:=by
    unfold St.aD at hr ⊢
    split
    ·rename_i h; rw [h] at hr; exact absurd rfl hr
    ·rfl
   rw [hE];exact ⟨rfl,V,fun j=>rfl,.inr (.inl ⟨by rw [hvw]; exact h3,by rw [h3],N⟩)⟩
  have vS:(q.a.aD p).2=0:=by simpa using hr
  obtain ⟨k,v1,v2,v3⟩:=yF q H.lh N;have va:=gy q;obtain ⟨V1,w1⟩:=V.pd (q':=q.aB.1) va.1 (pdh_pd v3);have hkv:k<q.aB.1.l.length:=by omega
  rcases Ku V1 hkv with ⟨b1,b2,b3,b4,f,b5,b6,b7,b8⟩ | hb
  ·have hE:q.aL p=({(q.aB.1.bF k).1 with l:=(q.aB.1.bF k).1.l.set k ⟨p,⟨(q.a.aD p).1.toArray⟩,1,false,true⟩},⟨(q.a.aD p).1.toArray⟩,0):=by
    unfold QS.aL;rw [e,if_neg (by omega),if_neg hr,v1,if_neg (by omega),show ((k:Nat):Int).toNat=k by omega,if_neg (by rw [b1]; simp)]
   have vR:0≤p:=Ah vS;have hpg: ∀h∈(q.aB.1.bF k).1.l,h.al≠p:=fun h hh=>by
    have:h.al∈q.l.map Fr.al:=by
     have e1:q.aB.1.l.map Fr.al=q.l.map Fr.al:=by
      have hx: ∀l:List Fr,l.map Fr.al=(l.map Du).map (fun x=>x.1):=fun l=>by rw [List.map_map]; rfl
      rw [hx,hx,v3]
     rw [←e1,←b8];exact List.mem_map_of_mem hh
    obtain ⟨f',h1,h2⟩:=List.mem_map.1 this;rw [←h2];exact Jx.resolve_left (by omega) f' h1
   have hrd:(q.aB.1.bF k).1.a.aD p=q.a.aD p:=by
    have h1:=(b4 p).trans (w1 p);rw [dK (q:=(q.aB.1.bF k).1) (.inr hpg),hvw] at h1;exact h1
   have hsw:=b3.swap b5 b6 ⟨p,⟨(q.a.aD p).1.toArray⟩,1,false,true⟩ (.inr ⟨vR,rfl,hpg,by
    show (q.aB.1.bF k).1.a.aD p=((q.a.aD p).1,0);rw [hrd];exact Prod.ext rfl vS,by show (q.a.aD p).1.toArray.size=232; simpa using z.len vS⟩)
   rw [hE];refine ⟨by show (q.aB.1.bF k).1.a.bE=_; rw [b2,va.1],hsw.1,fun j=>((hsw.2 j).trans (b4 j)).trans (w1 j),.inl ⟨by rw [hvw]; exact vS,by rw [hvw],k,⟨p,⟨(q.a.aD p).1.toArray⟩,1,false,true⟩,?_,rfl,vR,rfl,fun i h hi hh=>?_⟩⟩
   ·show (List.set _ _ _)[k]?=_;rw [List.getElem?_set_self (List.getElem?_eq_some_iff.1 b5).1]
   ·have hh:(List.set (q.aB.1.bF k).1.l k _)[i]?=some h:=hh;rw [List.getElem?_set_ne (by omega)] at hh;have h3:h.held∈q.aB.1.l.map Fr.held:=by rw [←b7]; exact List.mem_map_of_mem (List.mem_of_getElem? hh)
    obtain ⟨f',h4,h5⟩:=List.mem_map.1 h3;rw [←h5];exact Ai v3 N f' h4
  ·have hE:q.aL p=(q.aB.1,⟨#[]⟩,11):=by
    unfold QS.aL;rw [e,if_neg (by omega),if_neg hr,v1,if_neg (by omega),show ((k:Nat):Int).toNat=k by omega,hb,if_pos (by simp)]
   rw [hE];exact ⟨by show q.aB.1.a.bE=_; rw [va.1],V1,w1,.inr (.inr ⟨by rw [hvw]; exact vS,rfl,Ai v3 N⟩)⟩
 ·have gw:=(List.getElem?_eq_some_iff.1 hk).1;have hE:q.aL p=({q with l:=q.l.set k {f with held:=f.held+1,used:=true}},f.et,0):=by
   unfold QS.aL;rw [e,if_pos (by omega),show ((k:Nat):Int).toNat=k by omega,k7 hk]
  have hvw:q.vw p=(f.et.data.toList,0):=by rw [←he]; exact V.gC hk (by omega)
  obtain ⟨V1,w1⟩:=V.pd (q':={q with l:=q.l.set k {f with held:=f.held+1,used:=true}}) rfl (ig q.l Sh.pd k hk rfl);rw [hE];refine ⟨rfl,V1,w1,.inl ⟨by rw [hvw],by rw [hvw,ba_eta],k,{f with held:=f.held+1,used:=true},?_,he,vR,?_,fun i h hi hh=>?_⟩⟩
  ·show (q.l.set k _)[k]?=_;rw [List.getElem?_set_self gw]
  ·have:=N f (List.mem_of_getElem? hk);show f.held+1=1;omega
  ·have hh:(q.l.set k _)[i]?=some h:=hh;rw [List.getElem?_set_ne (by omega)] at hh;exact N h (List.mem_of_getElem? hh)
structure Wp (q:QS) (n K:Nat):Prop where
 H:Hq q n K
 V:Vi q
 N: ∀f∈q.l,f.held=0
structure Nx (q q':QS) (n K:Nat):Prop where
 w:Wp q' n K
 o:q'.a.bE=q.a.bE
structure Nv (q q':QS) (n K:Nat):Prop extends Nx q q' n K where
 v: ∀j,q'.vw j=q.vw j
section
variable {q:QS} {n K:Nat}
theorem Wp.more (h:Wp q n K) {K':Nat} (hk:K≤K'):Wp q n K':=⟨h.H.more hk,h.V,h.N⟩
theorem Nv.self (h:Wp q n K):Nv q q n K:=⟨⟨h,rfl⟩,fun _=>rfl⟩
theorem yG (q:QS) (j:Int):(q.vw j).2=0∨q.vw j=([],3):=by
 unfold QS.vw
 split
 ·exact .inl rfl
 ·unfold St.aD
  split
  ·exact .inl rfl
  ·exact .inr rfl
theorem Wp.len (h:Wp q n K) {j:Int} (h0:(q.vw j).2=0):(q.vw j).1.length=232:=by
 obtain ⟨c,z⟩:=h.H.z
 rcases ff q j with ho | ⟨k,f,hk,rfl,hp⟩
 ·rw [dK ho] at h0 ⊢;exact z.len h0
 ·rw [h.V.gC hk hp];have:=h.V.fl f (List.mem_of_getElem? hk) hp;simpa using this
theorem vw_pos {j:Int} (h0:(q.vw j).2=0):0≤j:=by
 unfold QS.vw at h0
 split at h0
 ·rcases fe q.l j with e | ⟨_,_,_,_,_,h⟩
  ·omega
  ·exact h
 ·exact Ah h0
theorem Wp.get (h:Wp q n K) (p:Int):Nv q (q.cO p).1 n (K+1)∧
  (((q.vw p).2=0∧(q.cO p).2=(⟨(q.vw p).1.toArray⟩,0))∨(q.vw p=([],3)∧(q.cO p).2=(⟨#[]⟩,3))∨((q.vw p).2=0∧(q.cO p).2=(⟨#[]⟩,11))):=by
 obtain ⟨h1,h2,h3,h4⟩:=Kv h.H h.V h.N p;have HH:=h.H.get p;unfold QS.cO at HH ⊢
 rcases h4 with ⟨e0,e1,k,f,hf,he,vR,hh,hN⟩ | ⟨e0,e1,e2⟩ | ⟨e0,e1,e2⟩
 ·rw [e1,if_neg (by simp)] at HH;rw [e1,if_neg (by simp)];obtain ⟨l1,l2,l3,l4⟩:=Aj h2 hf he vR hh hN;exact ⟨⟨⟨⟨HH,l2,l4⟩,by rw [l1]; exact h1⟩,fun j=>(l3 j).trans (h3 j)⟩,.inl ⟨e0,rfl⟩⟩
 ·rw [e1,if_pos (by simp)] at HH;rw [e1,if_pos (by simp)];exact ⟨⟨⟨⟨HH,h2,e2⟩,h1⟩,h3⟩,.inr (.inl ⟨(yG q p).resolve_left (by omega),rfl⟩)⟩
 ·rw [e1,if_pos (by simp)] at HH;rw [e1,if_pos (by simp)];exact ⟨⟨⟨⟨HH,h2,e2⟩,h1⟩,h3⟩,.inr (.inr ⟨e0,rfl⟩)⟩
theorem Wp.put (h:Wp q n K) (p:Int) (b:ByteArray) (hb:b.size≤232):Nx q (q.cL p b).1 n (K+1)∧
  (((q.vw p).2=0∧(q.cL p b).2=0∧ ∀j,(q.cL p b).1.vw j=if j=p then (dA b.data.toList 232,0) else q.vw j)∨(q.vw p=([],3)∧(q.cL p b).2=3∧ ∀j,(q.cL p b).1.vw j=q.vw j)∨((q.vw p).2=0∧(q.cL p b).2=11∧ ∀j,(q.cL p b).1.vw j=q.vw j)):=by
 obtain ⟨h1,h2,h3,h4⟩:=Kv h.H h.V h.N p;have HH:=h.H.put_ p b;unfold QS.cL at HH ⊢;rw [if_neg (by omega)] at HH ⊢
 rcases h4 with ⟨e0,e1,k,f,hf,he,vR,hh,hN⟩ | ⟨e0,e1,e2⟩ | ⟨e0,e1,e2⟩
 ·rw [e1,if_neg (by simp)] at HH ⊢;have gw:=(List.getElem?_eq_some_iff.1 hf).1;have e:findF (q.aL p).1.l p=k:=by
   have e:=yD hf (by omega) (fun j h hj ej=>h2.un j k h f hj hf ej (by omega));rw [he] at e;exact e
  have hE:((q.aL p).1.dY p b).1={(q.aL p).1 with l:=(q.aL p).1.l.set k {f with et:=nC b,bG:=true,used:=true}}:=by
   unfold QS.dY QS.fA;rw [if_neg (by omega),e,if_neg (by omega),show ((k:Nat):Int).toNat=k by omega,hf];dsimp only;rw [if_neg (by omega)]
  have yi:=h2.setp hf (by omega) {f with et:=nC b,bG:=true,used:=true} rfl rfl (tT (by omega));have hlet:=Aj (q:=((q.aL p).1.dY p b).1) (by rw [hE]; exact yi.1) (p:=p) (k:=k) (f:={f with et:=nC b,bG:=true,used:=true}) (by rw [hE]; show (List.set _ _ _)[k]?=_; rw [List.getElem?_set_self gw]) he vR hh (fun i h hi hx=>by
   rw [hE] at hx;have hx:(List.set (q.aL p).1.l k _)[i]?=some h:=hx;rw [List.getElem?_set_ne (by omega)] at hx;exact hN i h hi hx)
  obtain ⟨l1,l2,l3,l4⟩:=hlet;refine ⟨⟨⟨HH,l2,l4⟩,by rw [l1,hE]; exact h1⟩,.inl ⟨e0,rfl,fun j=>?_⟩⟩;rw [l3 j,hE,yi.2 j,he]
  by_cases hj:j=p
  ·rw [if_pos hj,if_pos hj];rfl
  ·rw [if_neg hj,if_neg hj];exact h3 j
 ·rw [e1,if_pos (by simp)] at HH ⊢;exact ⟨⟨⟨HH,h2,e2⟩,h1⟩,.inr (.inl ⟨(yG q p).resolve_left (by omega),rfl,h3⟩)⟩
 ·rw [e1,if_pos (by simp)] at HH ⊢;exact ⟨⟨⟨HH,h2,e2⟩,h1⟩,.inr (.inr ⟨e0,rfl,h3⟩)⟩
theorem Wp.tV (h:Wp q n K): ∀i,i≤q.l.length→Nv q (q.aN i).1 n (K+i)∧((q.aN i).2=0∨(q.aN i).2=11)∧(q.aN i).1.l.length=q.l.length
 | 0,_=>⟨.self h,.inl rfl,rfl⟩
 | i+1,hi=>by
  obtain ⟨h1,h2,h3⟩:=h.tV i (by omega);have HH:=(h.H.tV (i+1) hi).1;rw [py] at HH ⊢
  rcases h2 with h2 | h2
  ·rw [if_neg (by rw [h2]; simp)] at HH ⊢
   rcases Ku h1.w.V (k:=i) (by omega) with ⟨b1,b2,b3,b4,f,b5,b6,b7,b8⟩ | hb
   ·refine ⟨⟨⟨⟨HH,b3,fun g hg=>?_⟩,by rw [b2]; exact h1.o⟩,fun j=>(b4 j).trans (h1.v j)⟩,.inl b1,?_⟩
    ·have h6:g.held∈(q.aN i).1.l.map Fr.held:=by rw [←b7]; exact List.mem_map_of_mem hg
     obtain ⟨f',h7,h8⟩:=List.mem_map.1 h6;rw [←h8];exact h1.w.N f' h7
    ·have:=congrArg List.length b8;simp only [List.length_map] at this;omega
   ·rw [hb] at HH ⊢;exact ⟨⟨⟨⟨HH,h1.w.V,h1.w.N⟩,h1.o⟩,h1.v⟩,.inr rfl,h3⟩
  ·rw [if_pos (by rw [h2]; simp)] at HH ⊢;exact ⟨⟨⟨⟨HH,h1.w.V,h1.w.N⟩,h1.o⟩,h1.v⟩,.inr h2,h3⟩
theorem Wp.E6 (h:Wp q n K): ∀i,i≤q.l.length→(q.aN i).2=0→ ∀(j:Nat) (f:Fr),(q.aN i).1.l[j]?=some f→f.bG=true→i≤j
 | 0,_,_,_,_,_,_=>Nat.zero_le _
 | i+1,hi,h0,j,f,hf,hd=>by
  rw [py] at h0 hf
  by_cases h2:(q.aN i).2=0
  ·rw [if_neg (by rw [h2]; simp)] at h0 hf;obtain ⟨a1,a2⟩:=back_d (by rw [(h.tV i (by omega)).2.2]; omega) h0 hf hd;have:=h.E6 i (by omega) h2 j f a2 hd;omega
  ·rw [if_pos h2] at h0;exact absurd h0 h2
def QS.ov (q:QS) (j:Int):List UInt8×Int:=({q.a with now:=je q.a.bE}:St).aD j
theorem Ak {q q':QS} (h:q'.a.bE=q.a.bE) (j:Int):q'.ov j=q.ov j:=by
 unfold QS.ov St.aD St.at;rw [h]
theorem Wp.jN (h:Wp q n K) (hK:K≤999999999000):Wp q.aA.1 n (K+40)∧(∀j,q.aA.1.vw j=q.vw j)∧
  ((q.aA.2=0∧ ∀j,q.aA.1.ov j=q.vw j)∨(q.aA.2=11∧ ∀j,q.aA.1.ov j=q.ov j)):=by
 obtain ⟨h1,h2,h3⟩:=h.tV q.l.length (Nat.le_refl _);have l2:=h.H.l2;have HH:=h.H.jN hK;unfold QS.aA at HH ⊢;rw [if_neg (by rw [tY h.N]; omega)] at HH ⊢
 rcases h2 with h2 | h2
 ·rw [if_neg (by rw [h2]; simp)] at HH ⊢;obtain ⟨c1,c2⟩:=h1.w.V.jN;refine ⟨⟨HH,c1,h1.w.N⟩,fun j=>(c2 j).trans (h1.v j),?_⟩;have GR:=h.E6 _ (Nat.le_refl _) h2;generalize hb:(q.aN q.l.length).1=r at *
  by_cases hf:r.a.free<bP r.a.cX.length
  ·right;have e:r.a.aA=(r.a,11):=by unfold St.aA; rw [if_pos hf]
   rw [e];exact ⟨rfl,fun j=>Ak h1.o j⟩
  ·left;have e:r.a.aA=({r.a with now:=je r.a.cX,bE:=r.a.cX,ep:=r.a.ep+1},0):=by unfold St.aA; rw [if_neg hf]
   refine ⟨by rw [e],fun j=>?_⟩;have e2:QS.ov {r with a:=r.a.aA.1} j=r.a.aA.1.aD j:=by
    rw [e];rfl
   show QS.ov {r with a:=r.a.aA.1} j=_;rw [e2,(j6 r.a j).1,←h1.v j]
   rcases ff r j with ho | ⟨k,f,hk,rfl,hp⟩
   ·rw [dK ho]
   ·rw [h1.w.V.gC hk hp];refine h1.w.V.cl f (List.mem_of_getElem? hk) hp ?_
    by_cases hd:f.bG=true
    ·have:=GR k f hk hd;have:=(List.getElem?_eq_some_iff.1 hk).1;omega
    ·simpa using hd
 ·rw [if_pos (by rw [h2]; simp)] at HH ⊢;exact ⟨(⟨HH,h1.w.V,h1.w.N⟩),h1.v,.inr ⟨h2,fun j=>Ak h1.o j⟩⟩
theorem at_put' {a:St} (v:Option (Bool×List UInt8)) (q:Int):({a with now:=kY a.now a.slot v}:St).at q=if q=(a.slot:Nat) then v else a.at q:=by
 unfold St.at
 by_cases h0:0≤q
 ·rw [if_pos h0];show ((kY a.now a.slot v)[q.toNat]?).getD none=_;rw [ku _ _ _ (slot_le a)]
  by_cases e:q=(a.slot:Nat)
  ·rw [if_pos e,if_pos (by omega)]; rfl
  ·rw [if_neg e,if_neg (by omega),if_pos h0]
 ·rw [if_neg h0,if_neg (by omega),if_neg h0]
theorem vw_new {a:St} {p:List UInt8} (h:(a.bm p).2.2=0): ∃l:Nat,(a.bm p).2.1=l∧l≤511∧a.at (l:Nat)=none∧ ∀j,(a.bm p).1.aD j=if j=(l:Nat) then (dA p 232,0) else a.aD j:=by
 unfold St.bm at h ⊢
 split at h
 ·exact absurd h (by show (4:Int)≠0; decide)
 ·rename_i h1;rw [if_neg h1]
  split at h
  ·exact absurd h (by show (11:Int)≠0; decide)
  ·rename_i h2;rw [if_neg h2];refine ⟨a.slot,rfl,by omega,Gx a,fun j=>?_⟩;unfold St.aD;rw [at_put']
   by_cases e:j=(a.slot:Nat)
   ·rw [if_pos e,if_pos e]
   ·rw [if_neg e,if_neg e]
theorem Wp.new (h:Wp q n K) (p:ByteArray) (hb:p.size≤232):Nx q (q.bm p.data.toList).1 n (K+1)∧
  ((∃l:Nat,(q.bm p.data.toList).2=(((l:Nat):Int),0)∧l≤511∧q.vw (l:Nat)=([],3)∧ ∀j,(q.bm p.data.toList).1.vw j=if j=(l:Nat) then (dA p.data.toList 232,0) else q.vw j)∨((q.bm p.data.toList).2=(0,11)∧ ∀j,(q.bm p.data.toList).1.vw j=q.vw j)):=by
 have HH:=h.H.new p.data.toList;unfold QS.bm at HH ⊢
 by_cases h0:(q.a.bm p.data.toList).2.2=0
 ·obtain ⟨l,e1,e2,e3,e4⟩:=vw_new h0;have hr: ∀f∈q.l,0≤f.al→f.al≠(l:Nat):=fun f hf h0 e=>by
   have:=h.V.ex f hf h0;unfold St.aD at this;rw [e,e3] at this;exact absurd this (by show (3:Int)≠0; decide)
  have hl:q.vw (l:Nat)=([],3):=by
   rw [dK (.inr fun f hf e=>hr f hf (by omega) e)];unfold St.aD;rw [e3]
  have V':Vi {q with a:=(q.a.bm p.data.toList).1}:=⟨h.V.un,fun f hf h0 hd=>by show (q.a.bm _).1.aD _=_; rw [e4,if_neg (hr f hf h0)]; exact h.V.cl f hf h0 hd,fun f hf h0=>by show ((q.a.bm _).1.aD _).2=_; rw [e4,if_neg (hr f hf h0)]; exact h.V.ex f hf h0,h.V.em,h.V.fl⟩;refine ⟨⟨⟨HH,V',h.N⟩,?_⟩,.inl ⟨l,Prod.ext e1 h0,e2,hl,fun j=>?_⟩⟩
  ·show (q.a.bm _).1.bE=_;unfold St.bm
   split
   ·rfl
   ·split<;>rfl
  ·rcases ff q j with ho | ⟨k,f,hk,rfl,hp⟩
   ·rw [dK (q:={q with a:=(q.a.bm p.data.toList).1}) ho,dK ho];exact e4 j
   ·rw [if_neg (hr f (List.mem_of_getElem? hk) hp),h.V.gC hk hp];exact V'.gC hk hp
 ·have e:q.a.bm p.data.toList=(q.a,0,11):=by
   unfold St.bm at h0 ⊢;have hl: ¬232<p.data.toList.length:=by simp; omega
   rw [if_neg hl] at h0 ⊢
   split
   ·rfl
   ·rename_i h1;rw [if_neg h1] at h0;exact absurd rfl h0
  rw [e] at HH ⊢;exact ⟨⟨⟨HH,h.V,h.N⟩,rfl⟩,.inr ⟨rfl,fun _=>rfl⟩⟩
theorem GS {a:St} {l:Int} (h:(a.at l).isSome=true) (j:Int):(a.aE l).1.aD j=if j=l then ([],3) else a.aD j:=by
 obtain ⟨h0,h1⟩:=mM h;have hat:(a.aE l).1.at j=if j=l then none else a.at j:=by
  unfold St.aE;rw [if_pos h];unfold St.at
  by_cases hj:0≤j
  ·rw [if_pos hj,if_pos hj];show ((a.now.set l.toNat none)[j.toNat]?).getD none=_
   by_cases e:j=l
   ·subst e;rw [if_pos rfl,List.getElem?_set_self h1];rfl
   ·rw [if_neg e,List.getElem?_set_ne (by omega)]
  ·rw [if_neg hj,if_neg (by omega),if_neg hj]
 unfold St.aD;rw [hat]
 by_cases e:j=l
 ·rw [if_pos e,if_pos e]
 ·rw [if_neg e,if_neg e]
theorem Wp.drop (h:Wp q n K) (p:Int):Nx q (q.aE p).1 n K∧
  (((q.vw p).2=0∧(q.aE p).2=0∧ ∀j,(q.aE p).1.vw j=if j=p then ([],3) else q.vw j)∨(q.vw p=([],3)∧(q.aE p).2=3∧ ∀j,(q.aE p).1.vw j=q.vw j)):=by
 have HH:=h.H.drop p;have hold:(q.a.aE p).1.bE=q.a.bE:=by unfold St.aE; split<;>rfl
 unfold QS.aE at HH ⊢;have hnh: ¬(0≤findF q.l p∧0<(hJ q.l (findF q.l p).toNat).held):=fun ⟨h1,h2⟩=>by
  rcases fe q.l p with e | ⟨k,f,e,hk,_,_⟩
  ·omega
  ·rw [e,show ((k:Nat):Int).toNat=k by omega,k7 hk,h.N f (List.mem_of_getElem? hk)] at h2;omega
 rw [if_neg hnh] at HH ⊢
 by_cases hx:(q.a.at p).isSome=true
 ·have e0:(q.a.aE p).2=0:=by unfold St.aE; rw [if_pos hx]
  have hr:=GS hx;rw [if_neg (by rw [e0]; simp)] at HH ⊢
  rcases fe q.l p with e | ⟨k,f,e,hk,he,vR⟩
  ·rw [e,if_neg (by omega)] at HH ⊢;have vR:=(mM hx).1;have Jx:=tX e vR;have hv:q.vw p=q.a.aD p:=dK (.inr Jx);have V':Vi {q with a:=(q.a.aE p).1}:=⟨h.V.un,fun f hf h0 hd=>by show (q.a.aE p).1.aD _=_; rw [hr,if_neg (Jx f hf)]; exact h.V.cl f hf h0 hd,fun f hf h0=>by show ((q.a.aE p).1.aD _).2=_; rw [hr,if_neg (Jx f hf)]; exact h.V.ex f hf h0,h.V.em,h.V.fl⟩;refine ⟨⟨⟨HH,V',h.N⟩,hold⟩,.inl ⟨by rw [hv]; exact sy.2 hx,rfl,fun j=>?_⟩⟩
   rcases ff q j with ho | ⟨i,f,hi,rfl,hp⟩
   ·rw [dK (q:={q with a:=(q.a.aE p).1}) ho,dK ho];exact hr j
   ·rw [if_neg (Jx f (List.mem_of_getElem? hi)),h.V.gC hi hp];exact V'.gC hi hp
  ·rw [e,if_pos (by omega),show ((k:Nat):Int).toNat=k by omega] at HH ⊢;have gw:=(List.getElem?_eq_some_iff.1 hk).1;have hv:q.vw p=(f.et.data.toList,0):=by rw [←he]; exact h.V.gC hk (by omega)
   have ne: ∀(i:Nat) (g:Fr),i≠k→q.l[i]?=some g→0≤g.al→g.al≠p:=fun i g hi hg h0 e=>hi (h.V.un i k g f hg hk (by omega) h0);have bE: ∀g∈q.l.set k Fr.nil,0≤g.al→g∈q.l∧g.al≠p:=fun g hg h0=>by
    rcases mem_set hg with rfl | ⟨i,hi,kN⟩
    ·exact absurd h0 (by show ¬(0:Int)≤ -1; omega)
    ·exact ⟨List.mem_of_getElem? kN,ne i g hi kN h0⟩
   have V':Vi {q with a:=(q.a.aE p).1,l:=q.l.set k Fr.nil}:=by
    refine ⟨fun i j f1 h1 hi hj ee h0=>?_,fun g hg h0 hd=>?_,fun g hg h0=>?_,fun g hg h0=>?_,fun g hg h0=>h.V.fl g (bE g hg h0).1 h0⟩
    ·have gt: ∀(i:Nat) (x:Fr),(q.l.set k Fr.nil)[i]?=some x→0≤x.al→q.l[i]?=some x:=fun i x hx h0=>by
      by_cases tM:i=k
      ·subst tM;rw [List.getElem?_set_self gw] at hx;injection hx with hx
       subst hx;exact absurd h0 (by show ¬(0:Int)≤ -1; omega)
      ·rw [List.getElem?_set_ne (by omega)] at hx;exact hx
     exact h.V.un i j f1 h1 (gt i f1 hi h0) (gt j h1 hj (by omega)) ee h0
    ·obtain ⟨o1,o2⟩:=bE g hg h0;show (q.a.aE p).1.aD _=_;rw [hr,if_neg o2];exact h.V.cl g o1 h0 hd
    ·obtain ⟨o1,o2⟩:=bE g hg h0;show ((q.a.aE p).1.aD _).2=_;rw [hr,if_neg o2];exact h.V.ex g o1 h0
    ·rcases mem_set hg with rfl | ⟨i,hi,kN⟩
     ·rfl
     ·exact h.V.em g (List.mem_of_getElem? kN) h0
   refine ⟨⟨⟨HH,V',fun g hg=>?_⟩,hold⟩,.inl ⟨by rw [hv],rfl,fun j=>?_⟩⟩
   ·rcases mem_set hg with rfl | ⟨i,hi,kN⟩
    ·rfl
    ·exact h.N g (List.mem_of_getElem? kN)
   ·by_cases hj:j=p
    ·subst hj;rw [if_pos rfl];rw [dK (q:={q with a:=(q.a.aE j).1,l:=q.l.set k Fr.nil}) (.inr fun g hg e=>(bE g hg (by omega)).2 e)];show (q.a.aE j).1.aD j=_;rw [hr,if_pos rfl]
    ·rw [if_neg hj]
     rcases ff q j with ho | ⟨i,g,hi,rfl,hp⟩
     ·have ho':j<0∨ ∀g∈q.l.set k Fr.nil,g.al≠j:=by
       by_cases hj0:j<0
       ·exact .inl hj0
       ·refine .inr fun g hg=>?_
        rcases mem_set hg with rfl | ⟨i,hi,kN⟩
        ·show (-1:Int)≠j; omega
        ·exact ho.resolve_left hj0 g (List.mem_of_getElem? kN)
      rw [dK ho,dK (q:={q with a:=(q.a.aE p).1,l:=q.l.set k Fr.nil}) ho'];show (q.a.aE p).1.aD j=_;rw [hr,if_neg hj]
     ·rw [h.V.gC hi hp];refine V'.gC (k:=i) ?_ hp;show (q.l.set k Fr.nil)[i]?=_;rw [List.getElem?_set_ne]
      ·exact hi
      ·rintro rfl;rw [hk] at hi;injection hi with hi
       subst hi;exact hj he
 ·have hx2:(q.a.aE p)=(q.a,3):=by unfold St.aE; rw [if_neg hx]
  have hr3:(q.a.aD p).2≠0:=fun h=>hx (sy.1 h);rw [hx2,if_pos (by simp)] at HH ⊢;refine ⟨⟨⟨HH,h.V,h.N⟩,rfl⟩,.inr ⟨?_,rfl,fun _=>rfl⟩⟩;refine (yG q p).resolve_left (fun h0=>?_)
  rcases ff q p with ho | ⟨i,g,hi,rfl,hp⟩
  ·rw [dK ho] at h0;exact hr3 h0
  ·exact hr3 (h.V.ex g (List.mem_of_getElem? hi) hp)
end
end Go.Proofs.YtmonobkginiajaaGreat.Sh
namespace Go.Proofs.YtmonobkginiajaaGreat.Sh
open Go.RowKit Go.Sort Go.Shelf
def Al:Go.Shelf.Ren:=⟨fun | 189=>190 | 125=>224 | 257=>223 | 128=>240 | 129=>241 | 294=>231 | 295=>232 | 296=>233 | 297=>234 | 298=>235 | 299=>236 | 216=>237 | 300=>238 | 301=>239 | 328=>246 | 329=>247 | 330=>248 | 331=>249 | 332=>250 | 215=>251 | 343=>254 | n=>n,fun | 28=>60 | 3=>3 | 46=>201 | 0=>0 | 51=>259 | 53=>222 | 4=>4 | 183=>288 | 182=>287 | 131=>121 | 5=>5 | 9=>9 | 218=>298 | 222=>128 | 228=>305 | 229=>306 | n=>n,fun | n=>n⟩
theorem E9:Go.Proofs.Lays.n189 Tryz.prog Al:={
 mixed:=by kernel_rfl
 f125:=Tryz.func224.trans (congrArg some (by kernel_rfl))
 f128:=Tryz.func240.trans (congrArg some (by kernel_rfl))
 f129:=Tryz.func241.trans (congrArg some (by kernel_rfl))
 f189:=Tryz.func190.trans (congrArg some (by kernel_rfl))
 f215:=Tryz.func251.trans (congrArg some (by kernel_rfl))
 f216:=Tryz.func237.trans (congrArg some (by kernel_rfl))
 f257:=Tryz.func223.trans (congrArg some (by kernel_rfl))
 f294:=Tryz.func231.trans (congrArg some (by kernel_rfl))
 f295:=Tryz.func232.trans (congrArg some (by kernel_rfl))
 f296:=Tryz.func233.trans (congrArg some (by kernel_rfl))
 f297:=Tryz.func234.trans (congrArg some (by kernel_rfl))
 f298:=Tryz.func235.trans (congrArg some (by kernel_rfl))
 f299:=Tryz.func236.trans (congrArg some (by kernel_rfl))
 f300:=Tryz.func238.trans (congrArg some (by kernel_rfl))
 f301:=Tryz.func239.trans (congrArg some (by kernel_rfl))
 f328:=Tryz.func246.trans (congrArg some (by kernel_rfl))
 f329:=Tryz.func247.trans (congrArg some (by kernel_rfl))
 f330:=Tryz.func248.trans (congrArg some (by kernel_rfl))
 f331:=Tryz.func249.trans (congrArg some (by kernel_rfl))
 f332:=Tryz.func250.trans (congrArg some (by kernel_rfl))
 f343:=Tryz.func254.trans (congrArg some (by kernel_rfl))
 t0:=Tryz.underlying0
 a0:=Tryz.isAgg0
 z0:=Tryz.sizeOf0
 v0:=Tryz.zeroValue0
 t3:=Tryz.underlying3
 a3:=Tryz.isAgg3
 z3:=Tryz.sizeOf3
 v3:=Tryz.zeroValue3
 t4:=Tryz.underlying4
 a4:=Tryz.isAgg4
 z4:=Tryz.sizeOf4
 v4:=Tryz.zeroValue4
 t5:=Tryz.underlying5
 a5:=Tryz.isAgg5
 z5:=Tryz.sizeOf5
 v5:=Tryz.zeroValue5
 t9:=Tryz.underlying9
 a9:=Tryz.isAgg9
 z9:=Tryz.sizeOf9
 v9:=Tryz.zeroValue9
 t28:=Tryz.underlying60
 a28:=Tryz.isAgg60
 z28:=Tryz.sizeOf60
 v28:=Tryz.zeroValue60
 t46:=Tryz.underlying201
 a46:=Tryz.isAgg201
 z46:=Tryz.sizeOf201
 v46:=Tryz.zeroValue201
 t51:=Tryz.underlying259
 a51:=Tryz.isAgg259
 z51:=Tryz.sizeOf259
 v51:=Tryz.zeroValue259
 t53:=Tryz.underlying222
 a53:=Tryz.isAgg222
 z53:=Tryz.sizeOf222
 v53:=Tryz.zeroValue222
 t131:=Tryz.underlying121
 a131:=Tryz.isAgg121
 z131:=Tryz.sizeOf121
 v131:=Tryz.zeroValue121
 t182:=Tryz.underlying287
 a182:=Tryz.isAgg287
 z182:=Tryz.sizeOf287
 v182:=Tryz.zeroValue287
 t183:=Tryz.underlying288
 a183:=Tryz.isAgg288
 z183:=Tryz.sizeOf288
 v183:=Tryz.zeroValue288
 t218:=Tryz.underlying298
 a218:=Tryz.isAgg298
 z218:=Tryz.sizeOf298
 v218:=Tryz.zeroValue298
 t222:=Tryz.underlying128
 a222:=Tryz.isAgg128
 z222:=Tryz.sizeOf128
 v222:=Tryz.zeroValue128
 t228:=Tryz.underlying305
 a228:=Tryz.isAgg305
 z228:=Tryz.sizeOf305
 v228:=Tryz.zeroValue305
 t229:=Tryz.underlying306
 a229:=Tryz.isAgg306
 z229:=Tryz.sizeOf306
 v229:=Tryz.zeroValue306}
def ua (l:List Int):List Int:=l.mergeSort fun x y=>decide (x≤y)
theorem mN (l:List Int):(ua l).length=l.length:=by unfold ua; simp
theorem Kw (g cap:Nat) (zs:List Int) (w:World) (hH:Holds (Value.int .i64) w g 0 zs.toArray) (hblk:g<w.heap.size) (lK:zs.length<4611686018427387904):
  Calls Tryz.prog 190 #[.slice (some ⟨g,0,none⟩) zs.length cap] w fun e w'=>e= .returned (.tuple #[])∧ ∃n os,w'=grow (putRow (Value.int .i64) (Sort.ahead w n) g 0 (ua zs).toArray) os:=
 Any.slices_Sort_int E9 g 0 cap zs w hH hblk lK
theorem GU (p:Option Addr) (cap:Nat) (w:World):
  Calls Tryz.prog 190 #[.slice p 0 cap] w fun e w'=>e= .returned (.tuple #[])∧w'=w:=
 Any.slices_Sort_int_none E9 p cap w
theorem Am {w:World} {g n:Nat} {os:Array Obj} (d:Array Int):ag [g] w (grow (putRow (Value.int .i64) (Sort.ahead w n) g 0 d) os):=by
 refine ⟨rfl,rfl,rfl,by simp,fun k hk eg=>?_⟩;rw [heap_grow_old _ _ (by simpa using hk)];have:g≠k:=fun e=>eg (by simp [e]);simp [putRow,mapBlock,Sort.ahead,Array.getElem?_modify,this]
theorem yH (ts:List Int) (cur rest:List Value) (h:ts.length=cur.length):putCells (Value.int .i64) 0 ts.toArray (cur++rest).toArray=(ts.map (Value.int .i64)++rest).toArray:=by
 apply Array.ext_getElem?;intro j;unfold putCells;rw [Array.getElem?_mapIdx,List.getElem?_toArray,List.getElem?_toArray]
 by_cases hc:j<ts.length
 ·rw [List.getElem?_append_left (by omega),List.getElem?_append_left (by simpa using hc),List.getElem?_map,List.getElem?_eq_getElem hc,List.getElem?_eq_getElem (show j<cur.length by omega)];simp [hc]
 ·rw [List.getElem?_append_right (by omega),List.getElem?_append_right (by simp; omega),List.length_map,h]
  cases rest[j-cur.length]? with
  | none=>rfl
  | some x=>
   simp only [Option.map_some];rw [if_neg (by simp; omega)]
theorem Kx {w:World} {v:Value} {l:List Int} (S:aG w 3 1 v l.length (cw l)) (hl:l.length≤1000000):
  Calls Tryz.prog 190 #[v] w fun e w'=>e= .returned (.tuple #[])∧aG w' 3 1 v l.length (cw (ua l))∧ag (ah v) w w':=by
 rcases S.2 with ⟨rfl,h0⟩ | ⟨g,cap,rest,rfl,B,hc,hm⟩
 ·rw [h0];have EJ:l=[]:=List.length_eq_zero_iff.1 h0;subst EJ;refine (GU none 0 w).mono ?_;rintro e w' ⟨rfl,rfl⟩;exact ⟨rfl,by simpa [ua,cw] using aG.nil w' 3 1,ag.refl _ _⟩
 ·obtain ⟨lo,hi,hb,hf⟩:=B;have hB:ax w g 3 (cw l++rest).toArray:=⟨lo,hi,hb,hf⟩;have hn:(cw l).length=l.length:=by unfold cw; simp
  have hH:Holds (Value.int .i64) w g 0 l.toArray:=by
   intro j hj;have hj':j<l.length:=by simpa using hj
   refine ⟨?_,?_⟩
   ·rw [Nat.zero_add];refine hB.ab ?_;rw [List.getElem?_toArray,List.getElem?_append_left (by rw [hn]; exact hj')];simp [cw,hj']
   ·rw [Nat.zero_add];exact hB.frozen j (by simp [hn]; omega)
  refine (Kw g cap l w hH (Array.getElem?_eq_some_iff.1 hb).1 (by omega)).mono ?_;rintro e w' ⟨rfl,n,os,rfl⟩;refine ⟨rfl,⟨by unfold cw; simp [mN],.inr ⟨g,cap,rest,rfl,⟨lo,hi,?_,?_⟩,by unfold cw at hc ⊢; simpa [mN] using hc,hm⟩⟩,?_⟩
  ·rw [heap_sortedI _ hb,yH _ _ _ (by rw [hn,mN])];rfl
  ·simpa [cw,mN] using hf
  ·simpa [ah] using Am (w:=w) (g:=g) (n:=n) (os:=os) (ua l).toArray
end Go.Proofs.YtmonobkginiajaaGreat.Sh
