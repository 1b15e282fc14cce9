/- packed. -/
import Derived.Test.YtmonobkginiajaaGreatQ25
set_option linter.all false
set_option maxRecDepth 100000
set_option maxHeartbeats 8000000
namespace Go.Proofs.YtmonobkginiajaaGreat.Sh
open Go.RowKit Pk Dk Pg
abbrev Vw:=Int→List UInt8×Int
def gK (v:Vw) (p:Int) (b:List UInt8):Vw:=fun j=>if j=p then (b,0) else v j
def yU (v:Vw) (p:Int):Vw:=fun j=>if j=p then ([],3) else v j
theorem xE (v:Vw) (p:Int) (b:List UInt8):gK v p b p=(b,0):=if_pos rfl
theorem jr (v:Vw) {p j:Int} (b:List UInt8) (h:j≠p):gK v p b j=v j:=if_neg h
theorem xF (v:Vw) (p:Int):yU v p p=([],3):=if_pos rfl
theorem yV (v:Vw) {p j:Int} (h:j≠p):yU v p j=v j:=if_neg h
def QS.gq (q:QS):Nat×List (Option (List UInt8))×Nat:=(q.a.now.length,q.a.bE,q.a.many)
theorem Ib (a:St) (l:Int) (p:List UInt8):(a.ar l p).1.now.length=a.now.length∧(a.ar l p).1.bE=a.bE∧(a.ar l p).1.many=a.many:=by
 unfold St.ar
 split
 ·exact ⟨rfl,rfl,rfl⟩
 ·split
  ·exact ⟨rfl,rfl,rfl⟩
  ·split
   ·exact ⟨rfl,rfl,rfl⟩
   ·exact ⟨by show (a.now.set _ _).length=_; rw [List.length_set],rfl,rfl⟩
theorem Ic {a:St} {l:Int} {p:List UInt8} (h:(a.ar l p).2=11):a.free=0:=by
 unfold St.ar at h
 split at h
 ·exact absurd h (by simp)
 ·split at h
  ·exact absurd h (by simp)
  ·split at h
   ·rename_i h1;exact h1.2
   ·exact absurd h (by simp)
theorem uY (q:QS) (k:Nat):(q.bF k).1.gq=q.gq:=by
 unfold QS.bF
 split
 ·obtain ⟨a,b,c⟩:=Ib q.a (hJ q.l k).al (hJ q.l k).et.data.toList
  split<;>exact Prod.ext a (Prod.ext b c)
 ·rfl
theorem Bj {q:QS} {k:Nat} (h:(q.bF k).2=11):q.a.free=0:=by
 unfold QS.bF at h
 split at h
 ·split at h
  ·exact absurd h (by simp)
  ·exact Ic h
 ·exact absurd h (by simp)
theorem om (q:QS):q.aB.1.gq=q.gq:=by
 unfold QS.gq;rw [(gy q).1]
theorem pP (q:QS) (p:Int):(q.aL p).1.gq=q.gq:=by
 unfold QS.aL
 split
 ·rfl
 ·split
  ·rfl
  ·split
   ·exact om q
   ·split
    ·rw [uY]; exact om q
    ·exact (uY _ _).trans (om q)
theorem Bk {q:QS} {p:Int} (h:(q.aL p).2.2=11):q.a.free=0:=by
 unfold QS.aL at h
 split at h
 ·exact absurd h (by simp)
 ·split at h
  ·rename_i h1;have h:(q.a.aD p).2=11:=h;unfold St.aD at h
   split at h
   ·exact absurd h (by simp)
   ·exact absurd h (by simp)
  ·split at h
   ·exact absurd h (by simp)
   ·split at h
    ·have:=Bj h;rw [(gy q).1] at this;exact this
    ·exact absurd h (by simp)
theorem Fw (q:QS) (p:Int):(q.fI p).1.gq=q.gq:=by
 unfold QS.fI
 split<;>rfl
theorem Mt (q:QS) (p:Int) (b:ByteArray):(q.dY p b).1.gq=q.gq:=by
 unfold QS.dY
 split
 ·rfl
 ·split<;>rfl
theorem get_mes (q:QS) (p:Int):(q.cO p).1.gq=q.gq:=by
 unfold QS.cO
 split
 ·exact pP q p
 ·rw [Fw]; exact pP q p
theorem get_f11 {q:QS} {p:Int} (h:(q.cO p).2.2=11):q.a.free=0:=by
 unfold QS.cO at h
 split at h
 ·exact Bk h
 ·exact absurd h (by simp)
theorem Fx (q:QS) (p:Int) (b:ByteArray):(q.cL p b).1.gq=q.gq:=by
 unfold QS.cL
 split
 ·rfl
 ·split
  ·exact pP q p
  ·rw [Fw,Mt]; exact pP q p
theorem put_f11 {q:QS} {p:Int} {b:ByteArray} (h:(q.cL p b).2=11):q.a.free=0:=by
 unfold QS.cL at h
 split at h
 ·exact absurd h (by simp)
 ·split at h
  ·exact Bk h
  ·exact absurd h (by simp)
theorem Bl (q:QS) (p:Int):(q.aE p).1.gq=q.gq:=by
 have h:(q.a.aE p).1.now.length=q.a.now.length∧(q.a.aE p).1.bE=q.a.bE∧(q.a.aE p).1.many=q.a.many:=by
  unfold St.aE
  split
  ·exact ⟨by show (q.a.now.set _ _).length=_; rw [List.length_set],rfl,rfl⟩
  ·exact ⟨rfl,rfl,rfl⟩
 obtain ⟨a,b,c⟩:=h;unfold QS.aE
 split
 ·rfl
 ·split
  ·exact Prod.ext a (Prod.ext b c)
  ·split<;>exact Prod.ext a (Prod.ext b c)
theorem new_mes (q:QS) (p:List UInt8):(q.bm p).1.a.now.length≤q.a.now.length+1∧(q.bm p).1.a.bE=q.a.bE∧(q.bm p).1.a.many=q.a.many:=by
 show (q.a.bm p).1.now.length≤_∧(q.a.bm p).1.bE=_∧(q.a.bm p).1.many=_;unfold St.bm
 split
 ·exact ⟨Nat.le_succ _,rfl,rfl⟩
 ·split
  ·exact ⟨Nat.le_succ _,rfl,rfl⟩
  ·refine ⟨?_,rfl,rfl⟩;show (kY q.a.now _ _).length≤_;unfold kY
   split
   ·simp
   ·rw [List.length_set]; omega
theorem Mu (a:St):a.slot≤a.now.length:=by unfold St.slot; exact List.findIdx_le_length
theorem new_f11 {q:QS} {p:List UInt8} (h:(q.bm p).2.2=11):512≤q.a.now.length∨q.a.free=0:=by
 have h:(q.a.bm p).2.2=11:=h;unfold St.bm at h
 split at h
 ·exact absurd h (by simp)
 ·split at h
  ·rename_i h1;exact h1.imp (fun h=>Nat.le_trans h (Mu q.a)) id
  ·exact absurd h (by simp)
theorem Bm {a:St} {u:Nat} (h:a.now.length+a.kept≤u) (hu:u<a.many):a.free≠0:=by
 have:a.fresh≤a.now.length:=List.countP_le_length;unfold St.free;omega
structure Rd (q:QS) (v o:Vw) (u m:Nat):Prop where
 w: ∃n K,Wp q n K
 v: ∀j,q.vw j=v j
 o: ∀j,q.ov j=o j
 u:q.a.now.length+q.a.kept≤u
 m:m≤q.a.many
section
variable {q:QS} {v o:Vw} {u m:Nat}
theorem pQ {q q':QS} (h:q'.gq=q.gq):q'.a.now.length+q'.a.kept=q.a.now.length+q.a.kept∧q'.a.many=q.a.many∧q'.a.bE=q.a.bE:=by
 have h1:q'.a.now.length=q.a.now.length:=congrArg Prod.fst h;have h2:q'.a.bE=q.a.bE:=congrArg (fun x=>x.2.1) h;have h3:q'.a.many=q.a.many:=congrArg (fun x=>x.2.2) h;refine ⟨?_,h3,h2⟩;unfold St.kept;rw [h1,h2]
theorem Rd.step (h:Rd q v o u m) {q':QS} {v':Int→List UInt8×Int} (hm:q'.gq=q.gq) (hw: ∃n K,Wp q' n K) (hv: ∀j,q'.vw j=v' j):Rd q' v' o u m:=by
 obtain ⟨a,b,c⟩:=pQ hm;exact ⟨hw,hv,fun j=>(Ak c j).trans (h.o j),by rw [a]; exact h.u,by rw [b]; exact h.m⟩
theorem Rd.free (h:Rd q v o u m) (h0:q.a.free=0):m≤u:=by
 rcases Nat.lt_or_ge u m with h1 | h1
 ·exact absurd h0 (Bm h.u (Nat.lt_of_lt_of_le h1 h.m))
 ·exact h1
theorem Rd.get (h:Rd q v o u m) (p:Int):Rd (q.cO p).1 v o u m∧
  (((v p).2=0∧(q.cO p).2=(⟨(v p).1.toArray⟩,0))∨(v p=([],3)∧(q.cO p).2=(⟨#[]⟩,3))∨((q.cO p).2=(⟨#[]⟩,11)∧m≤u)):=by
 obtain ⟨n,K,w⟩:=h.w;obtain ⟨a,b⟩:=w.get p;refine ⟨h.step (get_mes q p) ⟨n,_,a.w⟩ (fun j=>(a.v j).trans (h.v j)),?_⟩;rw [h.v] at b
 rcases b with b | b | ⟨b,c⟩
 ·exact .inl b
 ·exact .inr (.inl b)
 ·exact .inr (.inr ⟨c,h.free (get_f11 (p:=p) (by rw [c]))⟩)
theorem Rd.put (h:Rd q v o u m) (p:Int) (b:ByteArray) (hb:b.size=232) (h0:(v p).2=0):
  ((q.cL p b).2=0∧Rd (q.cL p b).1 (gK v p b.data.toList) o u m)∨((q.cL p b).2=11∧Rd (q.cL p b).1 v o u m∧m≤u):=by
 obtain ⟨n,K,w⟩:=h.w;obtain ⟨a,c⟩:=w.put p b (by omega)
 rcases c with ⟨c1,c2,c3⟩ | ⟨c1,c2,c3⟩ | ⟨c1,c2,c3⟩
 ·refine .inl ⟨c2,h.step (Fx q p b) ⟨n,_,a.w⟩ (fun j=>?_)⟩;rw [c3,pz hb];unfold gK
  split
  ·rfl
  ·exact h.v j
 ·rw [h.v] at c1;rw [c1] at h0;exact absurd h0 (by decide)
 ·exact .inr ⟨c2,h.step (Fx q p b) ⟨n,_,a.w⟩ (fun j=>(c3 j).trans (h.v j)),h.free (put_f11 c2)⟩
theorem Rd.new (h:Rd q v o u m) (p:ByteArray) (hb:p.size≤232):
  (∃l:Nat,(q.bm p.data.toList).2=(((l:Nat):Int),0)∧l≤511∧v (l:Nat)=([],3)∧Rd (q.bm p.data.toList).1 (gK v (l:Nat) (dA p.data.toList 232)) o (u+1) m)∨
  ((q.bm p.data.toList).2=(0,11)∧Rd (q.bm p.data.toList).1 v o (u+1) m∧(m≤u∨512≤u)):=by
 obtain ⟨n,K,w⟩:=h.w;obtain ⟨a,c⟩:=w.new p hb;obtain ⟨m1,m2,m3⟩:=new_mes q p.data.toList;have hk:(q.bm p.data.toList).1.a.now.length+(q.bm p.data.toList).1.a.kept≤u+1:=by
  have:=h.u;have hk:(q.bm p.data.toList).1.a.kept=q.a.kept:=by unfold St.kept; rw [m2]
  omega
 rcases c with ⟨l,c1,c2,c3,c4⟩ | ⟨c1,c2⟩
 ·refine .inl ⟨l,c1,c2,by rw [←h.v]; exact c3,⟨n,_,a.w⟩,fun j=>?_,fun j=>(Ak m2 j).trans (h.o j),hk,by rw [m3]; exact h.m⟩;rw [c4];unfold gK
  split
  ·rfl
  ·exact h.v j
 ·refine .inr ⟨c1,⟨⟨n,_,a.w⟩,fun j=>(c2 j).trans (h.v j),fun j=>(Ak m2 j).trans (h.o j),hk,by rw [m3]; exact h.m⟩,?_⟩
  rcases new_f11 (q:=q) (p:=p.data.toList) (by rw [c1]) with h1 | h1
  ·have:=h.u; right; omega
  ·exact .inl (h.free h1)
theorem Rd.drop (h:Rd q v o u m) (p:Int) (h0:(v p).2=0):(q.aE p).2=0∧Rd (q.aE p).1 (yU v p) o u m:=by
 obtain ⟨n,K,w⟩:=h.w;obtain ⟨a,c⟩:=w.drop p
 rcases c with ⟨c1,c2,c3⟩ | ⟨c1,c2,c3⟩
 ·refine ⟨c2,h.step (Bl q p) ⟨n,_,a.w⟩ (fun j=>?_)⟩;rw [c3];unfold yU
  split
  ·rfl
  ·exact h.v j
 ·rw [h.v] at c1;rw [c1] at h0;exact absurd h0 (by simp)
theorem Rd.lt (h:Rd q v o u m) {j:Int} (h0:(v j).2=0):0≤j∧j<512:=by
 obtain ⟨n,K,w⟩:=h.w;exact w.vw_lt (by rw [h.v]; exact h0)
theorem Rd.err (h:Rd q v o u m) (j:Int):(v j).2=0∨v j=([],3):=by
 rw [←h.v];exact yG q j
theorem Rd.le (h:Rd q v o u m) {u':Nat} (hu:u≤u'):Rd q v o u' m:=⟨h.w,h.v,h.o,Nat.le_trans h.u hu,h.m⟩
end
end Go.Proofs.YtmonobkginiajaaGreat.Sh
namespace Go.Proofs.YtmonobkginiajaaGreat.Sh
open Go.RowKit Pk Dk Pg
open Nd (E aF aJ cM bg aK bI bj ai)
def fV (v:Vw) (p:Int):Bool×List E×Int:=
 if (v p).2≠0 then (false,[],r5 (v p).2) else ((aF (v p).1).1,(aF (v p).1).2.1,r5 (aF (v p).1).2.2)
theorem kJ (leaf:Bool) (l:List E):(cM (blank leaf l) leaf∧ai (blank leaf l)≤223∧(aY leaf l).2=0∧(aY leaf l).1.length=232∧aF (aY leaf l).1=(leaf,blank leaf l,0))∨
  (cM (blank leaf l) leaf∧223<ai (blank leaf l)∧aY leaf l=([],11))∨(¬cM (blank leaf l) leaf∧aY leaf l=([],2)):=by
 unfold aY
 by_cases hm:cM (blank leaf l) leaf
 ·have hb:=Nd.uD leaf (blank leaf l)
  by_cases hr:ai (blank leaf l)≤223
  ·left;have h0:(aJ leaf (blank leaf l)).2=0:=by
    unfold aJ;rw [if_pos ((Nd.iX _ _).2 hm),if_pos (by rw [hb]; omega)]
   refine ⟨hm,hr,h0,?_,Nd.AN h0⟩;unfold aJ;rw [if_pos ((Nd.iX _ _).2 hm),if_pos (by rw [hb]; omega)];exact (Nd.qN _ (by rw [hb]; omega)).1.len
  ·right; left;refine ⟨hm,by omega,?_⟩;unfold aJ;rw [if_pos ((Nd.iX _ _).2 hm),if_neg (by rw [hb]; omega)]
 ·right; right;refine ⟨hm,?_⟩;unfold aJ;rw [if_neg (fun h=>hm ((Nd.iX _ _).1 h))]
theorem uZ {leaf:Bool} {l:List E} (h:(aY leaf l).2=0):cM (blank leaf l) leaf∧ai (blank leaf l)≤223∧(aY leaf l).1.length=232∧aF (aY leaf l).1=(leaf,blank leaf l,0):=by
 rcases kJ leaf l with ⟨a,b,c,d,e⟩ | ⟨a,b,c⟩ | ⟨a,c⟩
 ·exact ⟨a,b,d,e⟩
 ·rw [c] at h; exact absurd h (by decide)
 ·rw [c] at h; exact absurd h (by decide)
theorem eP {v:Vw} {leaf:Bool} {l:List E} (h:(aY leaf l).2=0) (p j:Int):fV (gK v p (aY leaf l).1) j=if j=p then (leaf,blank leaf l,0) else fV v j:=by
 unfold fV gK
 by_cases e:j=p
 ·rw [if_pos e,if_pos e,(uZ h).2.2.2];rfl
 ·rw [if_neg e,if_neg e]
theorem qZ {v v':Vw} {p:Int} (h:v' p=v p):fV v' p=fV v p:=by
 unfold fV;rw [h]
theorem jT {v:Vw} {p:Int} (h:(fV v p).2.2=0):(v p).2=0:=by
 unfold fV at h
 split at h
 ·rename_i h1;exact absurd (mZ.1 h) h1
 ·rename_i h1;omega
theorem ly {v:Vw} {p:Int} (h:(fV v p).2.2=0):cM (fV v p).2.1 (fV v p).1:=by
 have h0:=jT h;unfold fV at h ⊢;rw [if_neg (by omega)] at h ⊢;have h1:=mZ.1 h;exact Nd.rL h1
section
variable {q:QS} {v o:Vw} {u m:Nat}
theorem Rd.read (h:Rd q v o u m) (p:Int):Rd (q.bl p).1 v o u m∧((q.bl p).2=fV v p∨((q.bl p).2=(false,[],11)∧m≤u)):=by
 obtain ⟨a,b⟩:=h.get p;unfold QS.bl fV
 rcases b with ⟨b1,b2⟩ | ⟨b1,b2⟩ | ⟨b1,b2⟩
 ·rw [b2,if_neg (by simp),if_neg (by omega)];exact ⟨a,.inl rfl⟩
 ·rw [b2,b1,if_pos (by simp),if_pos (by simp)];exact ⟨a,.inl rfl⟩
 ·rw [b1,if_pos (by simp)];exact ⟨a,.inr ⟨rfl,b2⟩⟩
theorem Rd.write (h:Rd q v o u m) {p:Int} (h0:(v p).2=0) {leaf:Bool} {l:List E} (hl:(aY leaf l).2=0):
  ((q.cg p leaf l).2=0∧Rd (q.cg p leaf l).1 (gK v p (aY leaf l).1) o u m)∨((q.cg p leaf l).2=11∧Rd (q.cg p leaf l).1 v o u m∧m≤u):=by
 unfold QS.cg;rw [if_neg (by omega)];exact h.put p ⟨(aY leaf l).1.toArray⟩ (by show (aY leaf l).1.toArray.size=_; rw [List.size_toArray]; exact (uZ hl).2.2.1) h0
theorem Ie (q:QS) (p:Int) {leaf:Bool} {l:List E} (hl:(aY leaf l).2≠0):q.cg p leaf l=(q,(aY leaf l).2):=by
 unfold QS.cg;rw [if_pos hl]
theorem Rd.make (h:Rd q v o u m) {leaf:Bool} {l:List E} (hl:(aY leaf l).2=0):
  (∃k:Nat,(q.dh leaf l).2=(((k:Nat):Int),0)∧k≤511∧v (k:Nat)=([],3)∧Rd (q.dh leaf l).1 (gK v (k:Nat) (aY leaf l).1) o (u+1) m)∨
  ((q.dh leaf l).2=(0,11)∧Rd (q.dh leaf l).1 v o (u+1) m∧(m≤u∨512≤u)):=by
 unfold QS.dh;rw [if_neg (by omega)];have hn:=h.new ⟨(aY leaf l).1.toArray⟩ (by show (aY leaf l).1.toArray.size≤_; rw [List.size_toArray,(uZ hl).2.2.1]; exact Nat.le_refl _);have e:dA (aY leaf l).1 232=(aY leaf l).1:=by
  have:=pz (b:=⟨(aY leaf l).1.toArray⟩) (by show (aY leaf l).1.toArray.size=_; rw [List.size_toArray]; exact (uZ hl).2.2.1);exact this
 have hd:(⟨(aY leaf l).1.toArray⟩:ByteArray).data.toList=(aY leaf l).1:=rfl;rw [hd,e] at hn;exact hn
end
end Go.Proofs.YtmonobkginiajaaGreat.Sh
namespace Go.Proofs.YtmonobkginiajaaGreat.Sh
open Go.RowKit Pk Dk Pg
open Nd (E aF aJ cM bg aK bI bj ai cE)
theorem vd {α β:Type} {f g:α→List β}: ∀{l:List α},(∀a∈l,f a=g a)→l.flatMap f=l.flatMap g
 | [],_=>rfl
 | a::l,h=>by rw [List.flatMap_cons,List.flatMap_cons,h a (by simp),vd fun x hx=>h x (by simp [hx])]
def kc (a b:ByteArray):Int:=Nd.cb a.data.toList b.data.toList
abbrev fW (a b:ByteArray):Prop:=kc a b<0
abbrev mz (a b:ByteArray):Prop:=kc a b≤0
theorem Fy {a b:ByteArray}:kc a b=0↔a=b:=by
 unfold kc;rw [Nd.LC];exact ⟨fun h=>ByteArray.ext (Array.toList_inj.1 h),fun h=>by rw [h]⟩
theorem Ei (a b:ByteArray):kc b a= -kc a b:=Nd.DY _ _
theorem jB {a b c:ByteArray} (h:fW a b) (k:fW b c):fW a c:=Nd.mh _ _ _ h k
theorem oo {a b:ByteArray} (h:fW a b):mz a b:=Int.le_of_lt h
theorem q8 {a b:ByteArray} (h:mz a b):fW a b∨a=b:=by
 rcases Int.lt_or_eq_of_le h with h | h
 ·exact .inl h
 ·exact .inr (Fy.1 h)
theorem eY {a b c:ByteArray} (h:fW a b) (k:mz b c):fW a c:=by
 rcases q8 k with k | rfl
 ·exact jB h k
 ·exact h
theorem il {a b c:ByteArray} (h:mz a b) (k:fW b c):fW a c:=by
 rcases q8 h with h | rfl
 ·exact jB h k
 ·exact k
theorem kK {a b c:ByteArray} (h:mz a b) (k:mz b c):mz a c:=by
 rcases q8 h with h | rfl
 ·exact oo (eY h k)
 ·exact k
theorem Fz (a:ByteArray):mz a a:=Int.le_of_eq (Fy.2 rfl)
theorem sF {a:ByteArray} (h:fW a a):False:=by
 have:=Fy.2 (rfl:a=a);omega
theorem q9 {a b:ByteArray} (h:fW a b) (k:mz b a):False:=sF (eY h k)
theorem oq {a b:ByteArray} (h: ¬fW a b):mz b a:=by
 have:=Ei a b;omega
theorem xG (a:ByteArray):mz ⟨#[]⟩ a:=by
 show Nd.cb [] a.data.toList≤0
 cases a.data.toList<;>simp [Nd.cb,Lib.compareBytes]
abbrev NT:=Nat×Int×List E
def az (v:Vw):Nat→Int→List NT
 | 0,p=>[(0,p,(fV v p).2.1)]
 | h+1,p=>(h+1,p,(fV v p).2.1)::(fV v p).2.1.flatMap fun e=>az v h e.aH
def aR (v:Vw) (h:Nat) (l:List E):List NT:=l.flatMap fun e=>az v h e.aH
def bt (ns:List NT):List E:=ns.flatMap fun n=>if n.1=0 then n.2.2 else []
def aU (ns:List NT):List Int:=ns.map fun n=>n.2.1
def eU (v:Vw) (h:Nat) (p:Int):List E:=bt (az v h p)
@[simp] theorem entsT_nil:bt []=[]:=rfl
@[simp] theorem df (a b:List NT):bt (a++b)=bt a++bt b:=by simp [bt]
theorem ou (n:NT) (a:List NT):bt (n::a)=(if n.1=0 then n.2.2 else [])++bt a:=rfl
@[simp] theorem Ej (p:Int) (l:List E) (a:List NT):bt ((0,p,l)::a)=l++bt a:=rfl
@[simp] theorem iD (h:Nat) (p:Int) (l:List E) (a:List NT):bt ((h+1,p,l)::a)=bt a:=by rw [ou]; simp
@[simp] theorem pgsT_nil:aU []=[]:=rfl
@[simp] theorem cq (a b:List NT):aU (a++b)=aU a++aU b:=by simp [aU]
@[simp] theorem cr (n:NT) (a:List NT):aU (n::a)=n.2.1::aU a:=rfl
@[simp] theorem Ig (v:Vw) (h:Nat):aR v h []=[]:=rfl
@[simp] theorem eI (v:Vw) (h:Nat) (e:E) (l:List E):aR v h (e::l)=az v h e.aH++aR v h l:=rfl
@[simp] theorem eT (v:Vw) (h:Nat) (a b:List E):aR v h (a++b)=aR v h a++aR v h b:=by simp [aR]
theorem cW {v:Vw} {h:Nat} {l:List E} {x:E}:x∈bt (aR v h l)↔ ∃e∈l,x∈eU v h e.aH:=by
 induction l with
 | nil=>simp
 | cons e l ih=>simp [ih,eU]
structure ox (C:Int→Prop) (en:Int→List E) (l:List E):Prop where
 ne:l≠[]
 c: ∀e∈l,C e.aH∧en e.aH≠[]
 lo:l.Pairwise fun c e=> ∀x∈en c.aH,fW x.key e.key
 hi: ∀e∈l.tail,∀x∈en e.aH,mz e.key x.key
def jX (v:Vw):Nat→Int→Prop
 | 0,p=>fV v p=(true,(fV v p).2.1,0)∧ai (fV v p).2.1≤223
 | h+1,p=>fV v p=(false,(fV v p).2.1,0)∧ai (fV v p).2.1≤223∧blank false (fV v p).2.1=(fV v p).2.1∧ox (jX v h) (eU v h) (fV v p).2.1
def eu (v:Vw) (h:Nat) (l:List E):Prop:=(∀e∈l,cE e (decide (h=0)))∧match h with
 | 0=>l.Pairwise fun c e=>fW c.key e.key
 | h+1=>ox (jX v h) (eU v h) l
def bJ (v:Vw) (h:Nat) (l:List E):List NT:=match h with
 | 0=>[]
 | h+1=>aR v h l
def eK (v:Vw) (h:Nat) (l:List E):List E:=match h with
 | 0=>l
 | h+1=>bt (aR v h l)
theorem m9 (v:Vw) (h:Nat) (p:Int):az v h p=(h,p,(fV v p).2.1)::bJ v h (fV v p).2.1:=by cases h<;>rfl
theorem Ek (v:Vw) (h:Nat) (p:Int):eU v h p=eK v h (fV v p).2.1:=by
 cases h with
 | zero=>simp [eU,az,eK]
 | succ h=>exact iD _ _ _ _
theorem jC {l:List E} {leaf:Bool} (h:cM l leaf): ∀e∈l,cE e leaf:=fun e he=>by
 obtain ⟨i,hi,rfl⟩:=List.getElem_of_mem he;exact (h i hi _ (List.getElem?_eq_getElem hi)).1
theorem Bn {l:List E} {leaf:Bool} (h:cM l leaf):l.Pairwise fun c e=>fW c.key e.key:=by
 rw [List.pairwise_iff_getElem];intro i j hi hj hij;exact Nd.D0 h i (j-i-1) (List.getElem?_eq_getElem hi) (by rw [show i+1+(j-i-1)=j by omega]; exact List.getElem?_eq_getElem hj)
theorem El {l:List E} {leaf:Bool} (h: ∀e∈l,cE e leaf) (hp:l.Pairwise fun c e=>fW c.key e.key):cM l leaf:=by
 intro i hi e he;refine ⟨h e (List.mem_of_getElem? he),fun h0 p hpe=>?_⟩;rw [List.pairwise_iff_getElem] at hp;have h1:=hp (i-1) i (by omega) hi (by omega);rw [List.getElem?_eq_getElem (by omega)] at he hpe;injection he with he
 injection hpe with hpe
 rw [he,hpe] at h1;rw [Nd.LG,decide_eq_false_iff_not];have h2:=Ei p.key e.key;have h1:kc p.key e.key<0:=h1;show ¬kc e.key p.key≤0;omega
theorem pair_ne {C:Int→Prop} {en:Int→List E} {l:List E} (h:ox C en l):l.tail.Pairwise fun c e=>fW c.key e.key:=by
 obtain ⟨ne,c,lo,hi⟩:=h
 cases l with
 | nil=>exact List.Pairwise.nil
 | cons e l=>
  rw [List.tail_cons] at hi ⊢;rw [List.pairwise_cons] at lo;refine List.Pairwise.imp_of_mem ?_ lo.2;intro a b ha hb hab;obtain ⟨x,hx⟩:=List.exists_mem_of_ne_nil _ (c a (List.mem_cons_of_mem _ ha)).2;exact il (hi a ha x hx) (hab x hx)
theorem in_may {C:Int→Prop} {en:Int→List E} {l:List E} (h:ox C en l) (hr: ∀e∈l,cE e false):cM (blank false l) false:=by
 have hp:=pair_ne h;obtain ⟨ne,c,lo,hi⟩:=h
 cases l with
 | nil=>exact absurd rfl ne
 | cons e l=>
  have hb:blank false (e::l)={e with key:=⟨#[]⟩}::l:=rfl;rw [hb];refine El (fun x hx=>?_) ?_
  ·rcases List.mem_cons.1 hx with rfl | hx
   ·obtain ⟨a,b,cc⟩:=hr e (List.mem_cons_self ..);exact ⟨Nat.zero_le _,b,cc⟩
   ·exact hr x (List.mem_cons_of_mem _ hx)
  ·rw [List.pairwise_cons] at lo ⊢;refine ⟨fun x hx=>?_,hp⟩;obtain ⟨y,hy⟩:=List.exists_mem_of_ne_nil _ (c e (List.mem_cons_self ..)).2;exact il (xG y.key) (lo.1 x hx y hy)
theorem Mv {C:Int→Prop} {en:Int→List E} {l:List E}:ox C en (blank false l)↔ox C en l:=by
 cases l with
 | nil=>exact Iff.rfl
 | cons e l=>
  have hb:blank false (e::l)={e with key:=⟨#[]⟩}::l:=rfl;rw [hb]
  constructor
  ·rintro ⟨ne,c,lo,hi⟩;refine ⟨by simp,fun x hx=>?_,?_,hi⟩
   ·rcases List.mem_cons.1 hx with rfl | hx
    ·exact c {x with key:=⟨#[]⟩} (List.mem_cons_self ..)
    ·exact c x (List.mem_cons_of_mem _ hx)
   ·rw [List.pairwise_cons] at lo ⊢;exact lo
  ·rintro ⟨ne,c,lo,hi⟩;refine ⟨by simp,fun x hx=>?_,?_,hi⟩
   ·rcases List.mem_cons.1 hx with rfl | hx
    ·exact c e (List.mem_cons_self ..)
    ·exact c x (List.mem_cons_of_mem _ hx)
   ·rw [List.pairwise_cons] at lo ⊢;exact lo
theorem ve (v:Vw) (h:Nat) (leaf:Bool) (l:List E):aR v h (blank leaf l)=aR v h l:=by
 cases leaf<;>cases l<;>rfl
theorem iE (l:List E):blank true l=l:=by cases l<;>rfl
theorem kL (leaf:Bool):blank leaf []=[]:=by cases leaf<;>rfl
theorem cH (leaf:Bool) (l:List E):ai (blank leaf l)≤ai l:=by
 cases leaf
 ·cases l with
  | nil=>exact Nat.le_refl _
  | cons e l=>show ai ({e with key:=⟨#[]⟩}::l)≤_; unfold ai; simp; exact Nat.zero_le _
 ·rw [iE]; exact Nat.le_refl _
theorem Bo {v:Vw} {h:Nat} {l:List E} (k:eu v h l):cM (blank (decide (h=0)) l) (decide (h=0)):=by
 cases h with
 | zero=>exact (iE l).symm▸El k.1 k.2
 | succ h=>exact in_may k.2 k.1
theorem FA {v:Vw} {h:Nat} {p:Int} (k:jX v h p):fV v p=(decide (h=0),(fV v p).2.1,0)∧ai (fV v p).2.1≤223∧eu v h (fV v p).2.1:=by
 cases h with
 | zero=>
  have hm:=ly (v:=v) (p:=p) (by rw [k.1]);rw [k.1] at hm;exact ⟨k.1,k.2,jC hm,Bn hm⟩
 | succ h=>
  have hm:=ly (v:=v) (p:=p) (by rw [k.1]);rw [k.1] at hm;exact ⟨k.1,k.2.1,jC hm,k.2.2.2⟩
theorem list_ok {v:Vw} {h:Nat} {p:Int} {l:List E} (k:fV v p=(decide (h=0),l,0)) (hb:ai l≤223) (hk:blank (decide (h=0)) l=l) (hl:eu v h l):jX v h p:=by
 cases h with
 | zero=>exact ⟨by rw [k]; rfl,by rw [k]; exact hb⟩
 | succ h=>exact ⟨by rw [k]; rfl,by rw [k]; exact hb,by rw [k]; exact hk,by rw [k]; exact hl.2⟩
theorem rP {v v':Vw}: ∀(h:Nat) (p:Int),(∀j∈aU (az v h p),v' j=v j)→az v' h p=az v h p∧(jX v h p→jX v' h p)
 | 0,p,hj=>by
  have e:=qZ (hj p (by simp [az]));exact ⟨by unfold az; rw [e],fun h=>by unfold jX at h ⊢; rw [e]; exact h⟩
 | h+1,p,hj=>by
  have e:=qZ (hj p (by simp [az]));have hk: ∀c∈(fV v p).2.1,az v' h c.aH=az v h c.aH∧(jX v h c.aH→jX v' h c.aH):=fun c hc=>rP h c.aH fun j hjm=>hj j (by
   unfold az;rw [cr];refine List.mem_cons_of_mem _ ?_;simp only [aU,List.mem_map,List.mem_flatMap] at hjm ⊢;obtain ⟨n,hn,rfl⟩:=hjm;exact ⟨n,⟨c,hc,hn⟩,rfl⟩)
  have hf:((fV v p).2.1.flatMap fun e=>az v' h e.aH)=(fV v p).2.1.flatMap fun e=>az v h e.aH:=vd fun c hc=>(hk c hc).1;refine ⟨?_,?_⟩
  ·unfold az;rw [e,hf]
  ·unfold jX;rw [e];rintro ⟨a,b,bk,d⟩;refine ⟨a,b,bk,d.ne,fun x hx=>⟨(hk x hx).2 (d.c x hx).1,by unfold eU; rw [(hk x hx).1]; exact (d.c x hx).2⟩,?_,fun x hx y hy=>?_⟩
   ·refine List.Pairwise.imp_of_mem ?_ d.lo;intro x y hx hy hxy z hz;unfold eU at hz;rw [(hk x hx).1] at hz;exact hxy z hz
   ·unfold eU at hy;rw [(hk x (List.mem_of_mem_tail hx)).1] at hy;exact d.hi x hx y hy
theorem eZ {v v':Vw} {h:Nat} {l:List E} (hj: ∀j∈aU (aR v h l),v' j=v j):aR v' h l=aR v h l∧ ∀e∈l,az v' h e.aH=az v h e.aH∧(jX v h e.aH→jX v' h e.aH):=by
 have hk: ∀c∈l,az v' h c.aH=az v h c.aH∧(jX v h c.aH→jX v' h c.aH):=fun c hc=>rP h c.aH fun j hjm=>hj j (by
  unfold aR;simp only [aU,List.mem_map,List.mem_flatMap] at hjm ⊢;obtain ⟨n,hn,rfl⟩:=hjm;exact ⟨n,⟨c,hc,hn⟩,rfl⟩)
 exact ⟨vd fun c hc=>(hk c hc).1,hk⟩
theorem Mw {v v':Vw} {h:Nat} {l:List E} (hk: ∀e∈l,az v' h e.aH=az v h e.aH∧(jX v h e.aH→jX v' h e.aH)) (d:ox (jX v h) (eU v h) l):ox (jX v' h) (eU v' h) l:=by
 refine ⟨d.ne,fun x hx=>⟨(hk x hx).2 (d.c x hx).1,by unfold eU; rw [(hk x hx).1]; exact (d.c x hx).2⟩,?_,fun x hx y hy=>?_⟩
 ·refine List.Pairwise.imp_of_mem ?_ d.lo;intro x y hx hy hxy z hz;unfold eU at hz;rw [(hk x hx).1] at hz;exact hxy z hz
 ·unfold eU at hy;rw [(hk x (List.mem_of_mem_tail hx)).1] at hy;exact d.hi x hx y hy
theorem iF {v v':Vw} {h:Nat} {l:List E} (hj: ∀j∈aU (bJ v h l),v' j=v j):bJ v' h l=bJ v h l∧eK v' h l=eK v h l∧(eu v h l→eu v' h l):=by
 cases h with
 | zero=>exact ⟨rfl,rfl,id⟩
 | succ h=>
  obtain ⟨a,b⟩:=eZ (h:=h) (l:=l) hj;exact ⟨a,by show bt _=bt _; rw [a],fun k=>⟨k.1,Mw b k.2⟩⟩
structure Mx (v:Vw) (h:Nat) (y:Step) (p:Int) (a:List E) (c:E) (b:List E):Prop where
 leaf:y.leaf=false
 nd:fV v y.al=(false,y.l,0)
 by_:ai y.l≤223
 bk:blank false y.l=y.l
 l:y.l=a++c::b
 at_:y.at_=a.length
 aH:c.aH=p
 ch: ∀e∈a++b,jX v h e.aH∧eU v h e.aH≠[]
 lo:(a++b).Pairwise fun c e=> ∀x∈eU v h c.aH,fW x.key e.key
 la: ∀e∈a,∀x∈eU v h e.aH,fW x.key c.key
 ha: ∀e∈a.tail,∀x∈eU v h e.aH,mz e.key x.key
 hb: ∀e∈b,∀x∈eU v h e.aH,mz e.key x.key
 hc:a≠[]→ ∀e∈b,fW c.key e.key
def yW:List Step→ByteArray→Prop
 | [],_=>True
 | y::up,k=>(0<y.at_→mz (y.l.getD y.at_ Nd.E.zero).key k)∧(∀e∈y.l.drop (y.at_+1),fW k e.key)∧yW up k
def lF (v:Vw):List Step→Nat→Int→Prop
 | [],_,p=>p=0
 | y::up,h,p=>(∃a c b,Mx v h y p a c b∧ ∀e∈a++b,∀x∈eU v h e.aH,yW up x.key)∧lF v up (h+1) y.al
def dN (v:Vw):List Step→Nat→List NT
 | [],_=>[]
 | y::up,h=>dN v up (h+1)++(h+1,y.al,y.l)::aR v h (y.l.take y.at_)
def cB (v:Vw):List Step→Nat→List NT
 | [],_=>[]
 | y::up,h=>aR v h (y.l.drop (y.at_+1))++cB v up (h+1)
theorem cC (v:Vw) (h:Nat):dN v [] h=[]:=rfl
theorem bM (v:Vw) (h:Nat):cB v [] h=[]:=rfl
theorem ct (v:Vw) (y:Step) (up:List Step) (h:Nat):dN v (y::up) h=dN v up (h+1)++(h+1,y.al,y.l)::aR v h (y.l.take y.at_):=rfl
theorem bK (v:Vw) (y:Step) (up:List Step) (h:Nat):cB v (y::up) h=aR v h (y.l.drop (y.at_+1))++cB v up (h+1):=rfl
theorem iK {v:Vw} {h:Nat} {y:Step} {p:Int} {a:List E} {c:E} {b:List E} (f:Mx v h y p a c b):y.l.take y.at_=a∧y.l.drop (y.at_+1)=b∧y.l.getD y.at_ Nd.E.zero=c:=by
 rw [f.l,f.at_];refine ⟨List.take_left,?_,?_⟩
 ·rw [show a++c::b=(a++[c])++b by simp];rw [List.drop_left' (by simp)]
 ·simp [List.getD_eq_getElem?_getD]
theorem jU {v:Vw} {h:Nat} {y:Step} {p:Int} {a:List E} {c:E} {b:List E} (f:Mx v h y p a c b) (up:List Step) (k:ByteArray):yW (y::up) k↔(a≠[]→mz c.key k)∧(∀e∈b,fW k e.key)∧yW up k:=by
 obtain ⟨h1,h2,h3⟩:=iK f;show ((0<y.at_→mz (y.l.getD y.at_ Nd.E.zero).key k)∧(∀e∈y.l.drop (y.at_+1),fW k e.key)∧yW up k)↔_;rw [h2,h3,f.at_];refine and_congr_left fun _=>?_
 constructor
 ·exact fun hh hn=>hh (List.length_pos_iff.2 hn)
 ·exact fun hh hn=>hh (List.length_pos_iff.1 hn)
theorem fr_in {v:Vw} {h:Nat} {y:Step} {p:Int} {a:List E} {c:E} {b:List E} (f:Mx v h y p a c b) (hp:jX v h p) (hn:eU v h p≠[]) (hh: ∀x∈eU v h p,(a≠[]→mz c.key x.key)∧ ∀e∈b,fW x.key e.key):jX v (h+1) y.al:=by
 unfold jX;rw [f.nd];refine ⟨rfl,f.by_,f.bk,by rw [f.l]; simp,fun e he=>?_,?_,fun e he=>?_⟩
 ·rw [f.l] at he
  rcases List.mem_append.1 he with he | he
  ·exact f.ch e (List.mem_append_left _ he)
  ·rcases List.mem_cons.1 he with rfl | he
   ·rw [f.aH]; exact ⟨hp,hn⟩
   ·exact f.ch e (List.mem_append_right _ he)
 ·show y.l.Pairwise _;have:=f.lo;rw [List.pairwise_append] at this;rw [f.l,List.pairwise_append,List.pairwise_cons];refine ⟨this.1,⟨fun e he x hx=>?_,this.2.1⟩,fun e he e' rZ x hx=>?_⟩
  ·rw [f.aH] at hx;exact (hh x hx).2 e he
  ·rcases List.mem_cons.1 rZ with rfl | rZ
   ·exact f.la e he x hx
   ·exact this.2.2 e he e' rZ x hx
 ·have he:e∈y.l.tail:=he;rw [f.l] at he
  cases ha:a with
  | nil=>
   rw [ha] at he;exact f.hb e he
  | cons z a'=>
   have eg:a≠[]:=by rw [ha]; simp
   have hha:=f.ha;rw [ha] at he hha;rw [List.cons_append,List.tail_cons] at he;rw [List.tail_cons] at hha
   rcases List.mem_append.1 he with he | he
   ·exact hha e he
   ·rcases List.mem_cons.1 he with rfl | he
    ·intro x hx;rw [f.aH] at hx;exact (hh x hx).1 eg
    ·exact f.hb e he
theorem plug {v:Vw}: ∀(up:List Step) (h:Nat) (p:Int),lF v up h p→jX v h p→(up≠[]→eU v h p≠[])→(∀x∈eU v h p,yW up x.key)→
  jX v (h+up.length) 0∧az v (h+up.length) 0=dN v up h++(az v h p++cB v up h)
 | [],h,p,hH,ho,hn,hi=>by
  have e:p=0:=hH;subst e;exact ⟨ho,by simp [cC,bM]⟩
 | y::up,h,p,hH,ho,hn,hi=>by
  obtain ⟨⟨a,c,b,f,hs⟩,hU⟩:=hH;have IJ:=fun x hx=>(jU f up x.key).1 (hi x hx);have hn:=hn (by simp);have o1:=fr_in f ho hn (fun x hx=>⟨(IJ x hx).1,(IJ x hx).2.1⟩);obtain ⟨t1,t2,t3⟩:=iK f;have e1:az v (h+1) y.al=(h+1,y.al,y.l)::(aR v h a++(az v h p++aR v h b)):=by
   rw [m9,f.nd];show _::aR v h y.l=_;rw [f.l,eT,eI,f.aH,←f.l]
  have CY: ∀x∈eU v (h+1) y.al,x∈eU v h p∨ ∃e∈a++b,x∈eU v h e.aH:=fun x hx=>by
   unfold eU at hx;rw [e1,iD,df,df] at hx
   rcases List.mem_append.1 hx with hx | hx
   ·obtain ⟨e,he,hx⟩:=cW.1 hx;exact .inr ⟨e,List.mem_append_left _ he,hx⟩
   ·rcases List.mem_append.1 hx with hx | hx
    ·exact .inl hx
    ·obtain ⟨e,he,hx⟩:=cW.1 hx;exact .inr ⟨e,List.mem_append_right _ he,hx⟩
  have eg:eU v (h+1) y.al≠[]:=fun h0=>by
   unfold eU at h0;rw [e1,iD,df,df,List.append_eq_nil_iff,List.append_eq_nil_iff] at h0;exact hn h0.2.1
  obtain ⟨r1,r2⟩:=plug up (h+1) y.al hU o1 (fun _=>eg) (fun x hx=>by
   rcases CY x hx with hx | ⟨e,he,hx⟩
   ·exact (IJ x hx).2.2
   ·exact hs e he x hx)
  have hl:h+(y::up).length=h+1+up.length:=by simp; omega
  rw [hl];refine ⟨r1,?_⟩;rw [r2,e1];simp only [ct,bK,cC,bM];rw [t1,t2];simp
end Go.Proofs.YtmonobkginiajaaGreat.Sh
namespace Go.Proofs.YtmonobkginiajaaGreat.Sh
open Go.RowKit Pk Dk Pg
open Nd (E aF aJ cM bg aK bI bj ai cE)
theorem My (e:E) (k:ByteArray):Nd.nu e k=kc e.key k:=rfl
theorem vf {l:List E} (hp:l.Pairwise fun c e=>fW c.key e.key) (key:ByteArray): ∃a b,l=a++b∧aK l key=a.length∧(∀e∈a,fW e.key key)∧
  ((bI l key=true∧ ∃c b',b=c::b'∧c.key=key∧ ∀e∈b',fW key e.key)∨(bI l key=false∧ ∀e∈b,fW key e.key)):=by
 have hle:aK l key≤l.length:=List.findIdx_le_length;have dL: ∀e∈l.take (aK l key),fW e.key key:=fun e he=>by
  obtain ⟨j,hj,rfl⟩:=List.getElem_of_mem he;rw [List.length_take] at hj;have hj2:j<l.findIdx fun e=>decide (0≤Nd.nu e key):=by unfold aK at hj; omega
  have:=List.not_of_lt_findIdx hj2;have:=of_decide_eq_false this;rw [List.getElem_take];rw [My] at this;show kc _ _<0;omega
 refine ⟨l.take (aK l key),l.drop (aK l key),(List.take_append_drop _ _).symm,by rw [List.length_take]; omega,dL,?_⟩
 rcases Nat.lt_or_ge (aK l key) l.length with hf | hf
 ·have he:=List.drop_eq_getElem_cons hf;have h0:0≤kc l[aK l key].key key:=by
   have:=List.findIdx_getElem (w:=show (l.findIdx fun e=>decide (0≤Nd.nu e key))<l.length from hf);exact of_decide_eq_true this
  rw [he];have hp2:(l.drop (aK l key)).Pairwise fun c e=>fW c.key e.key:=hp.sublist (List.drop_sublist _ _);rw [he,List.pairwise_cons] at hp2;unfold bI;rw [List.getElem?_eq_getElem hf];dsimp only;rw [My]
  by_cases hz:kc l[aK l key].key key=0
  ·left;have hk:=Fy.1 hz;refine ⟨by rw [decide_eq_true hz],_,_,rfl,hk,fun e he=>?_⟩;rw [←hk];exact hp2.1 e he
  ·right;have hn:=Ei l[aK l key].key key;have h1:fW key l[aK l key].key:=by show kc _ _<0; omega
   refine ⟨by rw [decide_eq_false hz],fun e he=>?_⟩
   rcases List.mem_cons.1 he with rfl | he
   ·exact h1
   ·exact jB h1 (hp2.1 e he)
 ·right;rw [List.drop_eq_nil_of_le hf];refine ⟨?_,by simp⟩;unfold bI;rw [List.getElem?_eq_none hf]
theorem Bp {l:List E} (hp:l.Pairwise fun c e=>fW c.key e.key) (hn:l≠[]) (key:ByteArray): ∃a c b,l=a++c::b∧bg l key=a.length∧(a≠[]→mz c.key key)∧ ∀e∈b,fW key e.key:=by
 obtain ⟨a,b,hl,hf,ha,hb⟩:=vf hp key;unfold bg
 rcases hb with ⟨h1,c,b',rfl,hc,hb'⟩ | ⟨h1,hb⟩
 ·rw [if_pos h1];exact ⟨a,c,b',hl,hf,fun _=>by rw [hc]; exact Fz _,hb'⟩
 ·rw [if_neg (by rw [h1]; simp),hf]
  rcases List.eq_nil_or_concat a with rfl | ⟨a',c,rfl⟩
  ·cases b with
   | nil=>exact absurd hl hn
   | cons c b'=>exact ⟨[],c,b',hl,rfl,fun h=>absurd rfl h,fun e he=>hb e (List.mem_cons_of_mem _ he)⟩
  ·refine ⟨a',c,b,by rw [hl]; simp,by simp,fun _=>oo (ha c (by simp)),hb⟩
theorem fr_of {v:Vw} {h:Nat} {p:Int} {l a b:List E} {c:E} (hd:fV v p=(false,l,0)) (hb:ai l≤223) (hk:blank false l=l) (d:ox (jX v h) (eU v h) l) (hl:l=a++c::b) (hp:l.Pairwise fun c e=>fW c.key e.key):
  Mx v h ⟨p,false,l,a.length⟩ c.aH a c b:=by
 have Ca:=d.lo;have G8:=d.hi;have hc:=d.c;rw [hl,List.pairwise_append,List.pairwise_cons] at Ca hp;refine ⟨rfl,hd,hb,hk,hl,rfl,rfl,fun e he=>?_,?_,fun e he x hx=>Ca.2.2 e he c (List.mem_cons_self ..) x hx,fun e he x hx=>?_,fun e he x hx=>?_,fun _ e he=>hp.2.1.1 e he⟩
 ·rw [hl] at hc
  rcases List.mem_append.1 he with he | he
  ·exact hc e (List.mem_append_left _ he)
  ·exact hc e (List.mem_append_right _ (List.mem_cons_of_mem _ he))
 ·rw [List.pairwise_append];exact ⟨Ca.1,Ca.2.1.2,fun x hx y hy=>Ca.2.2 x hx y (List.mem_cons_of_mem _ hy)⟩
 ·rw [hl] at G8
  cases a with
  | nil=>exact absurd he (by simp)
  | cons z a'=>exact G8 e (List.mem_append_left _ he) x hx
 ·rw [hl] at G8
  cases a with
  | nil=>exact G8 e he x hx
  | cons z a'=>exact G8 e (List.mem_append_right _ (List.mem_cons_of_mem _ he)) x hx
theorem nc {v:Vw} {p:Int} {leaf:Bool} {l:List E} (h:fV v p=(leaf,l,0)):l.Pairwise fun c e=>fW c.key e.key:=by
 have:=Bn (ly (v:=v) (p:=p) (by rw [h]));rw [h] at this;exact this
structure WayV (v:Vw) (key:ByteArray) (up:List Step) (x:Step):Prop where
 hole:lF v up 0 x.al
 ok:jX v 0 x.al
 leaf:x.leaf=true
 nd:fV v x.al=(true,x.l,0)
 key:yW up key
 ne:up≠[]→x.l≠[]
 Mz: ∀e∈x.l,yW up e.key
section
variable {v:Vw} {o:Vw} {mm:Nat}
theorem Bq (key:ByteArray): ∀(h m:Nat) (q:QS) (p:Int) (out up:List Step) (u:Nat),h<m→Rd q v o u mm→jX v h p→lF v up h p→yW up key→(up≠[]→eU v h p≠[])→(∀x∈eU v h p,yW up x.key)→
  Rd (kG key m q p out).1 v o u mm∧(((kG key m q p out).2.2=11∧mm≤u)∨((kG key m q p out).2.2=0∧ ∃mid x,(kG key m q p out).2.1=out++(mid++[x])∧mid.length=h∧WayV v key (mid.reverse++up) x))
 | h,0,q,p,out,up,u,hm,hR,hO,hH,hK,hN,hI=>absurd hm (by omega)
 | h,m+1,q,p,out,up,u,hm,hR,hO,hH,hK,hN,hI=>by
  obtain ⟨r1,r2⟩:=hR.read p;unfold kG
  rcases r2 with r2 | ⟨r2,r3⟩
  ·cases h with
   | zero=>
    have hO':=hO;obtain ⟨o1,o2⟩:=hO;rw [r2,o1,if_neg (by simp),if_pos rfl];refine ⟨r1,.inr ⟨rfl,[],⟨p,true,(fV v p).2.1,0⟩,by simp,rfl,hH,hO',rfl,o1,hK,fun eg=>?_,fun e he=>?_⟩⟩
    ·have:=hN eg;rw [Ek] at this;exact this
    ·refine hI e ?_;rw [Ek];exact he
   | succ h=>
    obtain ⟨o1,o2,o4,o3⟩:=hO;obtain ⟨l,hl⟩: ∃l,(fV v p).2.1=l:=⟨_,rfl⟩;have kI:eU v (h+1) p=bt (aR v h l):=by rw [Ek,hl]; rfl
    rw [hl] at o1 o2 o3 o4;have hp:=nc o1;obtain ⟨a,c,b,e1,e2,e3,e4⟩:=Bp hp o3.ne key;rw [r2,o1,if_neg (by simp),if_neg (by simp),if_neg o3.ne];dsimp only;have f:=fr_of o1 o2 o4 o3 e1 hp;rw [e2];have hc:l.getD a.length Nd.E.zero=c:=by rw [e1]; simp [List.getD_eq_getElem?_getD]
    rw [hc];have nA: ∀e∈l,∀x∈eU v h e.aH,yW up x.key:=fun e he x hx=>hI x (by rw [kI]; exact cW.2 ⟨e,he,hx⟩);have rl:c∈l:=by rw [e1]; simp
    have hs1: ∀x∈eU v h c.aH,a≠[]→mz c.key x.key:=fun x hx eg=>by
     have G8:=o3.hi;rw [e1] at G8
     cases a with
     | nil=>exact absurd rfl eg
     | cons z a'=>exact G8 c (by simp) x hx
    have hs2: ∀x∈eU v h c.aH,∀e∈b,fW x.key e.key:=fun x hx e he=>by
     have Ca:=o3.lo;rw [e1,List.pairwise_append,List.pairwise_cons] at Ca;exact Ca.2.1.1 e he x hx
    obtain ⟨i1,i2⟩:=Bq key h m (q.bl p).1 c.aH (out++[⟨p,false,l,a.length⟩]) (⟨p,false,l,a.length⟩::up) u (by omega) r1 (o3.c c rl).1
     ⟨⟨a,c,b,f,fun e he x hx=>nA e (by rw [e1]; rcases List.mem_append.1 he with he | he<;>simp [he]) x hx⟩,hH⟩ ((jU f up key).2 ⟨e3,e4,hK⟩) (fun _=>(o3.c c rl).2)
     (fun x hx=>(jU f up x.key).2 ⟨hs1 x hx,hs2 x hx,nA c rl x hx⟩)
    ·refine ⟨i1,i2.imp id ?_⟩;rintro ⟨j1,mid,x,j2,j3,j4⟩;refine ⟨j1,⟨p,false,l,a.length⟩::mid,x,by rw [j2]; simp,by simp [j3],?_⟩;rw [List.reverse_cons,List.append_assoc];exact j4
  ·rw [r2,if_pos (by simp)];exact ⟨r1,.inl ⟨rfl,r3⟩⟩
theorem yX {q:QS} {u H:Nat} (hR:Rd q v o u mm) (hO:jX v H 0) (hH:H≤15) (key:ByteArray):
  Rd (q.dq key).1 v o u mm∧(((q.dq key).2.2=11∧mm≤u)∨((q.dq key).2.2=0∧ ∃up x,(q.dq key).2.1=up.reverse++[x]∧up.length=H∧WayV v key up x)):=by
 obtain ⟨a,b⟩:=Bq key H 16 q 0 [] [] u (by omega) hR hO rfl trivial (fun h=>absurd rfl h) (fun _ _=>trivial);refine ⟨a,b.imp id ?_⟩;rintro ⟨b1,mid,x,b2,b3,b4⟩;rw [List.append_nil] at b4;exact ⟨b1,mid.reverse,x,by rw [List.reverse_reverse]; exact b2,by simp [b3],b4⟩
end
theorem MA {v:Vw} {key:ByteArray}: ∀{up:List Step} {h:Nat} {p:Int},lF v up h p→yW up key→ ∀x∈bt (dN v up h),fW x.key key
 | [],_,_,_,_,x,hx=>absurd hx (by simp [cC])
 | y::up,h,p,hH,hK,x,hx=>by
  obtain ⟨⟨a,c,b,f,hs⟩,hU⟩:=hH;obtain ⟨k1,k2,k3⟩:=(jU f up key).1 hK;simp only [ct] at hx;rw [(iK f).1,df,iD] at hx
  rcases List.mem_append.1 hx with hx | hx
  ·exact MA hU k3 x hx
  ·obtain ⟨e,he,hx⟩:=cW.1 hx;exact eY (f.la e he x hx) (k1 (fun h0=>by rw [h0] at he; simp at he))
theorem FC {v:Vw} {key:ByteArray}: ∀{up:List Step} {h:Nat} {p:Int},lF v up h p→yW up key→ ∀x∈bt (cB v up h),fW key x.key
 | [],_,_,_,_,x,hx=>absurd hx (by simp [bM])
 | y::up,h,p,hH,hK,x,hx=>by
  obtain ⟨⟨a,c,b,f,hs⟩,hU⟩:=hH;obtain ⟨k1,k2,k3⟩:=(jU f up key).1 hK;simp only [bK] at hx;rw [(iK f).2.1,df] at hx
  rcases List.mem_append.1 hx with hx | hx
  ·obtain ⟨e,he,hx⟩:=cW.1 hx;exact eY (k2 e he) (f.hb e he x hx)
  ·exact FC hU k3 x hx
theorem vg {v:Vw} {key:ByteArray} {up:List Step} {x:Step} (k:WayV v key up x):jX v up.length 0∧az v up.length 0=dN v up 0++(0,x.al,x.l)::cB v up 0∧
  (∀e∈bt (dN v up 0),fW e.key key)∧(∀e∈bt (cB v up 0),fW key e.key)∧eU v up.length 0=bt (dN v up 0)++(x.l++bt (cB v up 0)):=by
 have hl:eU v 0 x.al=x.l:=by rw [Ek,k.nd]; rfl
 obtain ⟨a,b⟩:=plug up 0 x.al k.hole k.ok (by rw [hl]; exact k.ne) (by rw [hl]; exact k.Mz);rw [Nat.zero_add] at a b;have e:az v 0 x.al=[(0,x.al,x.l)]:=by unfold az; rw [k.nd]
 rw [e] at b;refine ⟨a,b,MA k.hole k.key,FC k.hole k.key,?_⟩;unfold eU;rw [b,df,List.singleton_append,Ej]
end Go.Proofs.YtmonobkginiajaaGreat.Sh
namespace Go.Proofs.YtmonobkginiajaaGreat.Sh
open Go.RowKit Pk Dk Pg
open Nd (E aF aJ cM bg aK bI bj ai cE)
theorem Br (l:List E): ∀j,∃t jZ,Nd.mV l j t jZ
 | 0=>⟨1,-1,.inl ⟨rfl,rfl,rfl⟩⟩
 | j+1=>by
  obtain ⟨t,jZ,h⟩:=Br l j
  by_cases h1:jZ<0∨Nd.im l (j+1)<jZ
  ·exact ⟨_,_,Nd.xm h rfl h1⟩
  ·exact ⟨_,_,Nd.xo h rfl (fun h2=>h1 (.inl h2)) (fun h2=>h1 (.inr h2))⟩
theorem best_ex (l:List E) (m:Nat) (h:2≤m): ∃t,Nd.qL l m t:=by
 obtain ⟨t,jZ,h1⟩:=Br l (m-1)
 rcases h1 with ⟨h1,_⟩ | ⟨h1,h2,_⟩
 ·omega
 ·rw [show m-1+1=m by omega] at h2;exact ⟨t,h2⟩
theorem dk (a b:List E):ai (a++b)=ai a+ai b:=by simp [ai]
theorem di (e:E) (b:List E):ai (e::b)=e.key.size+e.val.size+7+ai b:=by simp [ai]
theorem Ih {l:List E} (hc: ∀e∈l,Nd.cost e≤79) (hT:223<ai l) (hT2:ai l≤302):
  ∃la lb,l=la++lb∧l.take (bj l)=la∧l.drop (bj l)=lb∧la≠[]∧lb≠[]∧ai la≤223∧ai lb≤223∧(ai la-151)+(ai lb-151)+73≤ai l-151:=by
 have hn:2≤l.length:=by
  match l,hc,hT with
  | [],_,hT=>exact absurd hT (by simp [ai])
  | [e],hc,hT=>
   have:=hc e (by simp);unfold Nd.cost at this;rw [di] at hT;have:ai []=0:=rfl;omega
  | _::_::_,_,_=>simp
 obtain ⟨t,hB⟩:=best_ex l l.length hn;have ht:=Nd.Fl hB;obtain ⟨f1,f2⟩:=Nd.He hc hn hT2 hB;obtain ⟨i,h1,h2,h3⟩:=Nd.xq l hc hn;have h4:=hB.2.2.1 i h1 h2;have h5:=Nd.rJ l t;have hb:=hB.2.1;have ha:=hB.1;refine ⟨l.take t,l.drop t,(List.take_append_drop _ _).symm,by rw [ht],by rw [ht],fun h=>?_,fun h=>?_,f1,f2,?_⟩
 ·have:=congrArg List.length h;rw [List.length_take] at this;have:min t l.length=0:=this;omega
 ·have:=congrArg List.length h;rw [List.length_drop] at this;have:l.length-t=0:=this;omega
 ·have h6:Nd.im l t≤79:=Int.le_trans h4 h3;simp only [Nd.im] at h6;omega
theorem MB {C:Int→Prop} {en:Int→List E} {la lb:List E} (d:ox C en (la++lb)) (ha:la≠[]) (hb:lb≠[]):ox C en la∧ox C en lb∧
  (∀e∈la,∀x∈en e.aH,fW x.key (keyOf lb))∧ ∀e∈lb,∀x∈en e.aH,mz (keyOf lb) x.key:=by
 obtain ⟨ne,c,lo,hi⟩:=d
 cases la with
 | nil=>exact absurd rfl ha
 | cons a la=>
  cases lb with
  | nil=>exact absurd rfl hb
  | cons b lb=>
   have hk:keyOf (b::lb)=b.key:=rfl;rw [hk];rw [List.pairwise_append] at lo;rw [List.cons_append,List.tail_cons] at hi;have zD:=hi b (by simp);refine ⟨⟨ha,fun e he=>c e (List.mem_append_left _ he),lo.1,fun e he=>hi e (List.mem_append_left _ he)⟩,⟨hb,fun e he=>c e (List.mem_append_right _ he),lo.2.1,fun e he=>hi e (List.mem_append_right _ (List.mem_cons_of_mem _ he))⟩,fun e he=>lo.2.2 e he b (by simp),fun e he x hx=>?_⟩
   rcases List.mem_cons.1 he with rfl | he
   ·exact zD x hx
   ·obtain ⟨y,hy⟩:=List.exists_mem_of_ne_nil _ (c b (by simp)).2;have h1:=(List.pairwise_cons.1 lo.2.1).1 e he y hy;exact kK (oo (il (zD y hy) h1)) (hi e (by simp [he]) x hx)
theorem ra (v:Vw) (h:Nat) (a b:List E):eK v h (a++b)=eK v h a++eK v h b:=by
 cases h with
 | zero=>rfl
 | succ h=>show bt _=bt _++bt _; rw [eT,df]
theorem jD (v:Vw) (h:Nat) (a b:List E):bJ v h (a++b)=bJ v h a++bJ v h b:=by
 cases h with
 | zero=>rfl
 | succ h=>exact eT _ _ _ _
theorem jE {v:Vw} {h:Nat} {l:List E} (k:eu v h l) (hn:l≠[]):eK v h l≠[]:=by
 cases h with
 | zero=>exact hn
 | succ h=>
  cases l with
  | nil=>exact absurd rfl hn
  | cons e l=>
   intro h0;have h0:bt (aR v h (e::l))=[]:=h0;rw [eI,df,List.append_eq_nil_iff] at h0;exact (k.2.c e (by simp)).2 h0.1
theorem oy {v:Vw} {h:Nat} {la lb:List E} (k:eu v h (la++lb)) (ha:la≠[]) (hb:lb≠[]):eu v h la∧eu v h lb∧(∀x∈eK v h la,fW x.key (keyOf lb))∧(∀x∈eK v h lb,mz (keyOf lb) x.key)∧(keyOf lb).size≤32:=by
 have hr:=k.1;have hks:(keyOf lb).size≤32:=by
  cases lb with
  | nil=>exact absurd rfl hb
  | cons b lb=>exact (hr b (by simp)).1
 cases h with
 | zero=>
  have hp:(la++lb).Pairwise fun c e=>fW c.key e.key:=k.2;rw [List.pairwise_append] at hp;refine ⟨⟨fun e he=>hr e (List.mem_append_left _ he),hp.1⟩,⟨fun e he=>hr e (List.mem_append_right _ he),hp.2.1⟩,fun x hx=>?_,fun x hx=>?_,hks⟩
  ·cases lb with
   | nil=>exact absurd rfl hb
   | cons b lb=>exact hp.2.2 x hx b (by simp)
  ·cases lb with
   | nil=>exact absurd rfl hb
   | cons b lb=>
    rcases List.mem_cons.1 hx with rfl | hx
    ·exact Fz _
    ·exact oo ((List.pairwise_cons.1 hp.2.1).1 x hx)
 | succ h=>
  obtain ⟨p1,p2,p3,p4⟩:=MB k.2 ha hb;refine ⟨⟨fun e he=>hr e (List.mem_append_left _ he),p1⟩,⟨fun e he=>hr e (List.mem_append_right _ he),p2⟩,fun x hx=>?_,fun x hx=>?_,hks⟩
  ·obtain ⟨e,he,hx⟩:=cW.1 hx;exact p3 e he x hx
  ·obtain ⟨e,he,hx⟩:=cW.1 hx;exact p4 e he x hx
theorem Em {v:Vw} {h:Nat} {l:List E} (k:eu v h l):eu v h (blank (decide (h=0)) l):=by
 cases h with
 | zero=>exact (iE l).symm▸k
 | succ h=>
  refine ⟨fun e he=>?_,Mv.2 k.2⟩;have he:e∈blank false l:=he
  cases l with
  | nil=>exact absurd he (by simp [blank])
  | cons c l=>
   have hb:blank false (c::l)={c with key:=⟨#[]⟩}::l:=rfl;rw [hb] at he
   rcases List.mem_cons.1 he with rfl | he
   ·obtain ⟨a,b,cc⟩:=k.1 c (by simp);exact ⟨Nat.zero_le _,b,cc⟩
   ·exact k.1 e (by simp [he])
theorem Bs (v:Vw) (h:Nat) (l:List E):bJ v h (blank (decide (h=0)) l)=bJ v h l:=by
 cases h with
 | zero=>rfl
 | succ h=>exact ve _ _ _ _
theorem Bt (v:Vw) (h:Nat) (l:List E):eK v h (blank (decide (h=0)) l)=eK v h l:=by
 cases h with
 | zero=>exact iE l
 | succ h=>show bt _=bt _; exact congrArg bt (ve _ _ _ _)
theorem En (leaf:Bool) (l:List E):blank leaf (blank leaf l)=blank leaf l:=by cases leaf<;>cases l<;>rfl
theorem pR {v:Vw} {h:Nat} {p:Int} {l:List E} (k:eu v h l) (hb:ai (blank (decide (h=0)) l)≤223) (hd:fV v p=(decide (h=0),blank (decide (h=0)) l,0)):
  jX v h p∧az v h p=(h,p,blank (decide (h=0)) l)::bJ v h l∧eU v h p=eK v h l:=by
 refine ⟨list_ok hd hb (En _ _) (Em k),?_,?_⟩
 ·rw [m9,hd,Bs]
 ·rw [Ek,hd,Bt]
theorem pS {v:Vw} {h:Nat} {l:List E} (k:eu v h l) (hb:ai (blank (decide (h=0)) l)≤223):(aY (decide (h=0)) l).2=0:=by
 rcases kJ (decide (h=0)) l with h1 | h1 | h1
 ·exact h1.2.2.1
 ·omega
 ·exact absurd (Bo k) h1.1
theorem Eo {v:Vw} {h:Nat} {l:List E} (k:eu v h l) (hb:223<ai (blank (decide (h=0)) l)):aY (decide (h=0)) l=([],11):=by
 rcases kJ (decide (h=0)) l with h1 | h1 | h1
 ·omega
 ·exact h1.2.2
 ·exact absurd (Bo k) h1.1
theorem yY {v:Vw}: ∀(h:Nat) (p:Int),jX v h p→ ∀j∈aU (az v h p),(v j).2=0
 | 0,p,ho,j,hj=>by
  have:j=p:=by simpa [az] using hj
  subst this;exact jT (by rw [ho.1])
 | h+1,p,ho,j,hj=>by
  unfold az at hj;rw [cr] at hj
  rcases List.mem_cons.1 hj with rfl | hj
  ·exact jT (by rw [ho.1])
  ·simp only [aU,List.mem_map,List.mem_flatMap] at hj;obtain ⟨n,⟨c,hc,hn⟩,rfl⟩:=hj;exact yY h c.aH (ho.2.2.2.c c hc).1 _ (List.mem_map.2 ⟨n,hn,rfl⟩)
theorem re {v:Vw} {h:Nat} {l:List E} (hc: ∀e∈l,jX v h e.aH): ∀j∈aU (aR v h l),(v j).2=0:=fun j hj=>by
 unfold aR at hj;simp only [aU,List.mem_map,List.mem_flatMap] at hj;obtain ⟨n,⟨c,hc',hn⟩,rfl⟩:=hj;exact yY h c.aH (hc c hc') _ (List.mem_map.2 ⟨n,hn,rfl⟩)
theorem xH {v:Vw} {h:Nat} {l:List E} (k:eu v h l): ∀j∈aU (bJ v h l),(v j).2=0:=by
 cases h with
 | zero=>intro j hj; exact absurd hj (by simp [bJ])
 | succ h=>exact re fun e he=>(k.2.c e he).1
theorem xI {v:Vw}: ∀(up:List Step) (h:Nat) (p:Int),lF v up h p→(∀j∈aU (dN v up h),(v j).2=0)∧ ∀j∈aU (cB v up h),(v j).2=0
 | [],h,p,_=>⟨fun j hj=>absurd hj (by simp [cC]),fun j hj=>absurd hj (by simp [bM])⟩
 | y::up,h,p,hH=>by
  obtain ⟨⟨a,c,b,f,hs⟩,hU⟩:=hH;obtain ⟨i1,i2⟩:=xI up (h+1) y.al hU;obtain ⟨t1,t2,t3⟩:=iK f;simp only [ct,bK,cC,bM];rw [t1,t2];refine ⟨fun j hj=>?_,fun j hj=>?_⟩
  ·rw [cq,cr] at hj
   rcases List.mem_append.1 hj with hj | hj
   ·exact i1 j hj
   ·rcases List.mem_cons.1 hj with rfl | hj
    ·exact jT (by rw [f.nd])
    ·exact re (fun e he=>(f.ch e (List.mem_append_left _ he)).1) j hj
  ·rw [cq] at hj
   rcases List.mem_append.1 hj with hj | hj
   ·exact re (fun e he=>(f.ch e (List.mem_append_right _ he)).1) j hj
   ·exact i2 j hj
theorem fc {v v':Vw}: ∀(up:List Step) (h:Nat) (p:Int),lF v up h p→(∀j∈aU (dN v up h),v' j=v j)→(∀j∈aU (cB v up h),v' j=v j)→lF v' up h p∧dN v' up h=dN v up h∧cB v' up h=cB v up h
 | [],h,p,hH,_,_=>⟨hH,rfl,rfl⟩
 | y::up,h,p,hH,h1,h2=>by
  obtain ⟨⟨a,c,b,f,hs⟩,hU⟩:=hH;obtain ⟨t1,t2,t3⟩:=iK f;simp only [ct] at h1;simp only [bK] at h2;rw [t1,cq,cr] at h1;rw [t2,cq] at h2;obtain ⟨i1,i2,i3⟩:=fc up (h+1) y.al hU (fun j hj=>h1 j (List.mem_append_left _ hj)) (fun j hj=>h2 j (List.mem_append_right _ hj));obtain ⟨ka,kb⟩:=eZ (v:=v) (v':=v') (h:=h) (l:=a) (fun j hj=>h1 j (List.mem_append_right _ (List.mem_cons_of_mem _ hj)))
  obtain ⟨la,lb⟩:=eZ (v:=v) (v':=v') (h:=h) (l:=b) (fun j hj=>h2 j (List.mem_append_left _ hj));have hk: ∀e∈a++b,az v' h e.aH=az v h e.aH∧(jX v h e.aH→jX v' h e.aH):=fun e he=>(List.mem_append.1 he).elim (kb e) (lb e);have he: ∀e∈a++b,eU v' h e.aH=eU v h e.aH:=fun e hm=>by unfold eU; rw [(hk e hm).1]
  have hna: ∀e∈a,eU v' h e.aH=eU v h e.aH:=fun e hm=>he e (List.mem_append_left _ hm);have Fu: ∀e∈b,eU v' h e.aH=eU v h e.aH:=fun e hm=>he e (List.mem_append_right _ hm);have hny:fV v' y.al=fV v y.al:=qZ (h1 _ (List.mem_append_right _ (List.mem_cons_self ..)))
  refine ⟨⟨⟨a,c,b,⟨f.leaf,by rw [hny]; exact f.nd,f.by_,f.bk,f.l,f.at_,f.aH,fun e hm=>⟨(hk e hm).2 (f.ch e hm).1,by rw [he e hm]; exact (f.ch e hm).2⟩,?_,fun e hm x hx=>f.la e hm x (by rw [←hna e hm]; exact hx),fun e hm x hx=>f.ha e hm x (by rw [←hna e (List.mem_of_mem_tail hm)]; exact hx),fun e hm x hx=>f.hb e hm x (by rw [←Fu e hm]; exact hx),f.hc⟩,fun e hm x hx=>hs e hm x (by rw [←he e hm]; exact hx)⟩,i1⟩,?_,?_⟩
  ·refine List.Pairwise.imp_of_mem ?_ f.lo;intro x y hx hy hxy z hz;rw [he x hx] at hz;exact hxy z hz
  ·simp only [ct,cC];rw [t1,i2,ka]
  ·simp only [bK,bM];rw [t2,i3,la]
def dr (wt:Nat→Nat) (ns:List NT):Nat:=(ns.map fun n=>wt n.1*(ai n.2.2-151)).sum
@[simp] theorem MD (wt:Nat→Nat):dr wt []=0:=rfl
@[simp] theorem gE (wt:Nat→Nat) (a b:List NT):dr wt (a++b)=dr wt a+dr wt b:=by simp [dr]
@[simp] theorem dm (wt:Nat→Nat) (n:NT) (a:List NT):dr wt (n::a)=wt n.1*(ai n.2.2-151)+dr wt a:=by simp [dr]
def Ii (wt:Nat→Nat) (c:Nat):Prop:= ∀i,39*wt (i+1)+c≤73*wt i
theorem Ep (a:List E) (c n:E) (b:List E):(a++c::b).insertIdx (a.length+1) n=a++c::n::b:=by
 induction a with
 | nil=>rfl
 | cons x a ih=>rw [List.cons_append,List.length_cons,List.insertIdx_succ_cons,ih]; rfl
theorem rf (a:List E) (c:E) (b:List E):(a++c::b).eraseIdx a.length=a++b:=by
 induction a with
 | nil=>rfl
 | cons x a ih=>rw [List.cons_append,List.length_cons,List.eraseIdx_cons_succ,ih]; rfl
end Go.Proofs.YtmonobkginiajaaGreat.Sh
