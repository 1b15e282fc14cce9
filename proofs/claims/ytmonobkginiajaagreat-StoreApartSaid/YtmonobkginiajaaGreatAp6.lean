/- packed. -/
import Derived.Shelf.Sort.Plain
import Derived.Shelf.Slices.In.SortNone
import Derived.Sort.OwnSortedInts
import Derived.Test.YtmonobkginiajaaGreatAp5
set_option linter.all false
set_option maxRecDepth 100000
set_option maxHeartbeats 8000000
namespace Go.Proofs.YtmonobkginiajaaGreat
open Go.Proofs.Tryz
namespace Sh
open Go.RowKit Pk Dk Pg
section
variable{c:C}{n:Nat}{a:St}{K:Nat}
theorem Zc.full(z:Zc c n a K):Full a:=by
 intro l
 by_cases h:(a.aR l).2=0
 .have hr:=z.read l;rw[uL z.g]at hr;rw[<-hr]at h ⊢;exact Nat.le_of_eq (FI z.g h)
 .unfold St.aR at h ⊢
  cases ha:a.at l with
  |none=>exact bm _
  |some u=>rw[ha]at h;exact absurd rfl h
end
structure Hq(q:QS)(n K:Nat):Prop where
 z:∃c,Zc c n q.a K
 f:Fb q.l K
 l1:1<=q.l.length
 l2:q.l.length<=32
 lh:q.hand<q.l.length
 nl:q.a.now.length<=512
section
variable{q:QS}{n K:Nat}
theorem Hq.full(h:Hq q n K):Full q.a:=by
 obtain⟨c,z⟩:=h.z;exact z.full
theorem Hq.more(h:Hq q n K){K':Nat}(hk:K<=K'):Hq q n K':=by
 obtain⟨c,z⟩:=h.z;exact⟨⟨c,z.more hk⟩,h.f.more hk,h.l1,h.l2,h.lh,h.nl⟩
theorem Hq.Ej(h:Hq q n K){q':QS}{K':Nat}(ha:q'.a=q.a)(hk:K<=K')(hf:Fb q'.l K')(hl:q'.l.length=q.l.length)(hh:q'.hand<q.l.length):Hq q' n K':=by
 obtain⟨c,z⟩:=h.z;exact⟨⟨c,by rw[ha];exact z.more hk⟩,hf,by rw[hl];exact h.l1,by rw[hl];exact h.l2,by rw[hl];exact hh,by rw[ha];exact h.nl⟩
theorem BH(a:St)(l:Int)(p:List UInt8):(a.aG l p).1.now.length=a.now.length:=by
 unfold St.aG
 split
 .rfl
 .split
  .rfl
  .split
   .rfl
   .show(a.now.set _ _).length=_;rw[bU]
theorem Hq.RM(h:Hq q n K):Hq q.aL.1 n K/\(q.aL.2= -1\/∃k:Nat,q.aL.2=k/\k<q.l.length):=by
 obtain⟨v1,v2,v3⟩:=r8 q h.lh h.f;have va:=iY q;exact⟨h.Ej va.1 (aj _) v1 va.2 (by rw[<-va.2];exact v2),v3⟩
theorem NJ(q:QS)(k:Nat):(q.cA k).1.hand=q.hand:=by
 unfold QS.cA
 split
 .split<;>rfl
 .rfl
theorem RN(q:QS)(k:Nat):(q.cA k).1.a.now.length=q.a.now.length:=by
 unfold QS.cA
 split
 .split
  .exact BH _ _ _
  .exact BH _ _ _
 .rfl
theorem Hq.back(h:Hq q n K)(k:Nat)(hk:k<q.l.length):Hq (q.cA k).1 n (K+1):=by
 obtain⟨b1,b2⟩:=JE h.f hk;obtain⟨c,z⟩:=h.z;refine⟨?_,b1.more (by omega),by rw[b2];exact h.l1,by rw[b2];exact h.l2,by rw[b2,NJ];exact h.lh,by rw[RN];exact h.nl⟩;unfold QS.cA
 split
 .split
  .exact⟨_,(z.write _ _).1⟩
  .exact⟨_,(z.write _ _).1⟩
 .exact⟨c,z.more (by omega)⟩
theorem Hq.put(h:Hq q n K)(k:Nat){f:Fr}(hf:0<=f.held/\f.held<=K/\f.gh.size<=1000):Hq {q with l:=q.l.set k f} n K:=
 h.Ej rfl (aj _) (h.f.set k hf) bU h.lh
theorem Hq.hold(h:Hq q n K)(p:Int):Hq (q.bg p).1 n (K+1):=by
 unfold QS.bg
 rcases gJ q.l p with e|⟨k,f,e,hk,_,_⟩
 .rw[e,if_neg (by omega)]
  split
  .exact h.more (by omega)
  .obtain⟨v1,v3⟩:=h.RM;have va:=iY q
   split
   .exact v1.more (by omega)
   .rcases v3 with v3|⟨k,v3,hk⟩
    .omega
    .rw[v3,show((k:Nat):Int).toNat=k by omega];have hb:=v1.back k (by omega)
     split
     .exact hb
     .exact hb.put k ⟨by show(0:Int)<=1;omega,by show(1:Int)<=_;omega,RF (h.full p)⟩
 .rw[e,if_pos (by omega),show((k:Nat):Int).toNat=k by omega,oF hk];have hm:=h.f _ (aA hk);exact(h.more (by omega)).put k ⟨by show 0<=f.held+1;omega,by show f.held+1<=_;omega,hm.2.2⟩
theorem Hq.let_(h:Hq q n K)(p:Int):Hq (q.iq p).1 n K:=by
 obtain⟨a,b,c,d⟩:=let_l h.f p;exact h.Ej c (aj _) a b (by rw[d];exact h.lh)
theorem Hq.set(h:Hq q n K)(p:Int)(b:ByteArray):Hq (q.fD p b).1 n K:=by
 obtain⟨a,e,c,d⟩:=set_l h.f p b;exact h.Ej c (aj _) a e (by rw[d];exact h.lh)
theorem Hq.get(h:Hq q n K)(p:Int):Hq (q.dF p).1 n (K+1):=by
 unfold QS.dF
 split
 .exact h.hold p
 .exact(h.hold p).let_ p
theorem Hq.put_(h:Hq q n K)(p:Int)(b:ByteArray):Hq (q.dv p b).1 n (K+1):=by
 unfold QS.dv
 split
 .exact h.more (by omega)
 .split
  .exact h.hold p
  .exact((h.hold p).set p b).let_ p
theorem RP(a:St)(l:Int):(a.aS l).1.now.length=a.now.length:=by
 unfold St.aS
 split
 .show(a.now.set _ _).length=_;rw[bU]
 .rfl
theorem Hq.drop(h:Hq q n K)(p:Int):Hq (q.aS p).1 n K:=by
 obtain⟨c,z⟩:=h.z;have hd:Hq {q with a:=(q.a.aS p).1} n K:=⟨⟨_,(z.drop p).1⟩,h.f,h.l1,h.l2,h.lh,by show(q.a.aS p).1.now.length<=512;rw[RP];exact h.nl⟩;unfold QS.aS
 split
 .exact h
 .split
  .exact hd
  .split
   .exact hd.put _ Fb.nil
   .exact hd
theorem new_len(a:St)(p:List UInt8)(h:a.now.length<=512):(a.bP p).1.now.length<=512:=by
 unfold St.bP
 split
 .exact h
 .split
  .exact h
  .rename_i hs;show(oE a.now a.slot _).length<=512;unfold oE
   split
   .rw[aQ];simp;omega
   .rw[bU];exact h
theorem Hq.new(h:Hq q n K)(p:List UInt8):Hq (q.bP p).1 n (K+1):=by
 obtain⟨c,z⟩:=h.z;exact⟨⟨_,(z.new p).1⟩,h.f.more (by omega),h.l1,h.l2,h.lh,new_len _ _ h.nl⟩
end
theorem jT{α β:Type}(l:List α)(g:α->β)(k:Nat){a b:α}(h:l[k]?=some b)(e:g a=g b):(l.set k a).map g=l.map g:=by
 rw[qt];apply l5;intro i;rw[iw];have hk:=(aX.1 h).1
 split
 .rename_i hi;subst hi;rw[if_pos (by simpa using hk),kY,h,e];rfl
 .rfl
theorem FY{a:St}{p:Int}(h:(a.aR p).2=0):0<=p:=by
 by_cases hp:0<=p
 .exact hp
 .exfalso;unfold St.aR St.at at h;rw[if_neg hp]at h;exact absurd h (by decide)
variable{a:St}{l l':List Fr}{k:Nat}{f:Fr}{j:Int}
theorem qO{l:Int}(h:(a.at l).isSome=true):0<=l/\l.toNat<a.now.length:=by
 unfold St.at at h
 by_cases h0:0<=l
 .rw[if_pos h0]at h;refine⟨h0,?_⟩
  by_cases hl:l.toNat<a.now.length
  .exact hl
  .rw[gw (by omega)]at h
   cases h
 .rw[if_neg h0]at h;cases h
theorem xL{l:Int}:(a.aR l).2=0↔(a.at l).isSome=true:=by
 unfold St.aR
 cases h:a.at l with
 |none=>simp
 |some u=>simp
theorem oA{l:Int}{p:List UInt8}(h:(a.aG l p).2=0)(j:Int):(a.aG l p).1.aR j=if j=l then(eI p 232,0)else a.aR j:=by
 unfold St.aG at h ⊢
 by_cases h1:232<p.length
 .rw[if_pos h1]at h;exact absurd h (by show(4:Int)≠0;decide)
 rw[if_neg h1]at h ⊢
 by_cases h2:¬(a.at l).isSome=true
 .rw[if_pos h2]at h;exact absurd h (by show(3:Int)≠0;decide)
 rw[if_neg h2]at h ⊢
 by_cases h3:fH (a.at l)=false/\a.free=0
 .rw[if_pos h3]at h;exact absurd h (by show(11:Int)≠0;decide)
 rw[if_neg h3];obtain⟨l0,l1⟩:=qO (Classical.not_not.1 h2);have hat:St.at {a with now:=a.now.set l.toNat (some (true,eI p 232))} j=if j=l then some (true,eI p 232)else a.at j:=by
  unfold St.at
  by_cases hj:j=l
  .subst hj;rw[if_pos l0,if_pos rfl];show((a.now.set j.toNat _)[j.toNat]?).getD none=_;rw[dM l1];rfl
  .rw[if_neg hj]
   by_cases h0:0<=j
   .rw[if_pos h0,if_pos h0];show((a.now.set l.toNat _)[j.toNat]?).getD none=_;rw[gx (by omega)]
   .rw[if_neg h0,if_neg h0]
 show St.aR {a with now:=a.now.set l.toNat (some (true,eI p 232))} j=_;unfold St.aR;rw[hat]
 by_cases hj:j=l
 .rw[if_pos hj,if_pos hj]
 .rw[if_neg hj,if_neg hj]
def QS.vw(q:QS)(j:Int):List UInt8×Int:=if 0<=findF q.l j then((j6 q.l (findF q.l j).toNat).gh.data.toList,0)else q.a.aR j
structure Vi(q:QS):Prop where
 un:∀(i j:Nat) (f h:Fr),q.l[i]?=some f->q.l[j]?=some h->f.aw=h.aw->0<=f.aw->i=j
 cl:∀f∈q.l,0<=f.aw->f.cQ=false->q.a.aR f.aw=(f.gh.data.toList,0)
 ex:∀f∈q.l,0<=f.aw->(q.a.aR f.aw).2=0
 em:∀f∈q.l,f.aw<0->f.cQ=false
 fl:∀f∈q.l,0<=f.aw->f.gh.size=232
theorem Ek(hf:l[k]?=some f)(h0:0<=f.aw)(un:∀(j:Nat) (h:Fr),l[j]?=some h->h.aw=f.aw->j=k):findF l f.aw=k:=by
 unfold findF;rw[if_neg (by omega)];exact xI hf (by simp) (λj a hj hja=>by
  simp only[decide_eq_false_iff_not];intro e;have:=un j a hja e;omega)
theorem RQ(h:j<0\/∀f∈l,f.aw≠j):findF l j= -1:=by
 unfold findF
 by_cases h0:j<0
 .rw[if_pos h0]
 .rw[if_neg h0];exact yx (λi a hi=>by
   simp only[decide_eq_false_iff_not];exact h.resolve_left h0 a (aA hi))
theorem eZ{q:QS}(h:j<0\/∀f∈q.l,f.aw≠j):q.vw j=q.a.aR j:=by
 unfold QS.vw;rw[RQ h,if_neg (by omega)]
theorem Vi.jx{q:QS}(V:Vi q)(hf:q.l[k]?=some f)(h0:0<=f.aw):q.vw f.aw=(f.gh.data.toList,0):=by
 unfold QS.vw;rw[Ek hf h0 (λj h hj e=>V.un j k h f hj hf e (by omega)),if_pos (by omega),show((k:Nat):Int).toNat=k by omega,oF hf]
theorem iC(q:QS)(j:Int):(j<0\/∀f∈q.l,f.aw≠j)\/∃(k:Nat) (f:Fr),q.l[k]?=some f/\f.aw=j/\0<=j:=by
 by_cases h0:j<0
 .exact .inl (.inl h0)
 by_cases h:∃f∈q.l,f.aw=j
 .obtain⟨f,hf,e⟩:=h;obtain⟨k,hk⟩:=Df.1 hf;exact .inr ⟨k,f,hk,e,by omega⟩
 .exact .inl (.inr (λf hf e=>h ⟨f,hf,e⟩))
def pd(f:Fr):Int×ByteArray×Bool:=(f.aw,f.gh,f.cQ)
theorem El(e:l'.map pd=l.map pd)(hf:l[k]?=some f):∃f',l'[k]?=some f'/\f'.aw=f.aw/\f'.gh=f.gh/\f'.cQ=f.cQ:=by
 have:(l'.map pd)[k]?=(l.map pd)[k]?:=by rw[e]
 rw[kY,kY,hf]at this
 cases h':l'[k]? with
 |none=>rw[h']at this;cases this
 |some f'=>
  rw[h']at this;have:pd f'=pd f:=by simpa using this
  exact⟨f',rfl,congrArg Prod.fst this,congrArg (λx=>x.2.1) this,congrArg (λx=>x.2.2) this⟩
theorem yM(e:l'.map pd=l.map pd)(hf:f∈l):∃f'∈l',f'.aw=f.aw/\f'.gh=f.gh/\f'.cQ=f.cQ:=by
 obtain⟨k,hk⟩:=Df.1 hf;obtain⟨f',h1,h2⟩:=El e hk;exact⟨f',aA h1,h2⟩
theorem Vi.pd{q q':QS}(V:Vi q)(ea:q'.a=q.a)(e:q'.l.map Sh.pd=q.l.map Sh.pd):Vi q'/\∀j,q'.vw j=q.vw j:=by
 have V':Vi q':=by
  refine⟨λi j f h hf hh ep h0=>?_,λf hf h0 hd=>?_,λf hf h0=>?_,λf hf h0=>?_,λf hf h0=>?_⟩
  .obtain⟨f',a1,a2,_⟩:=El e.symm hf;obtain⟨h',b1,b2,_⟩:=El e.symm hh;exact V.un i j f' h' a1 b1 (by omega) (by omega)
  .obtain⟨f',a1,a2,a3,a4⟩:=yM e.symm hf;rw[ea,<-a2,<-a3];exact V.cl f' a1 (by omega) (by rw[a4];exact hd)
  .obtain⟨f',a1,a2,_⟩:=yM e.symm hf;rw[ea,<-a2];exact V.ex f' a1 (by omega)
  .obtain⟨f',a1,a2,_,a4⟩:=yM e.symm hf;rw[<-a4];exact V.em f' a1 (by omega)
  .obtain⟨f',a1,a2,a3,_⟩:=yM e.symm hf;rw[<-a3];exact V.fl f' a1 (by omega)
 refine⟨V',λj=>?_⟩
 rcases iC q j with h|⟨k,f,hf,rfl,h0⟩
 .rw[eZ h,eZ (h.imp id (λh f hf=>by
   obtain⟨f',a1,a2,_⟩:=yM e.symm hf;rw[<-a2];exact h f' a1)),ea]
 .obtain⟨f',a1,a2,a3,_⟩:=El e hf;rw[V.jx hf h0,<-a2,V'.jx a1 (by omega),a3]
theorem mem_set{g:Fr}(h:f∈l.set k g):f=g\/∃i,i≠k/\l[i]?=some f:=by
 obtain⟨i,hi⟩:=Df.1 h
 by_cases xe:i=k
 .subst xe;rw[iw]at hi
  split at hi
  .split at hi
   .injection hi with hi;exact .inl hi.symm
   .cases hi
  .rename_i h;exact absurd rfl h
 .rw[gx (by omega)]at hi;exact .inr ⟨i,xe,hi⟩
theorem tI{b:ByteArray}(h:b.size=232):eI b.data.toList 232=b.data.toList:=by
 have hl:b.data.toList.length=b.size:=by simp
 unfold eI;rw[hl,h];simp
theorem Vi.wrote{q:QS}(V:Vi q)(hf:q.l[k]?=some f)(h0:0<=f.aw)(hw:(q.a.aG f.aw f.gh.data.toList).2=0):
  Vi {q with a:=(q.a.aG f.aw f.gh.data.toList).1,l:=q.l.set k {f with cQ:=false}}/\∀j,QS.vw {q with a:=(q.a.aG f.aw f.gh.data.toList).1,l:=q.l.set k {f with cQ:=false}} j=q.vw j:=by
 have hr:=oA hw;have hp:=tI (V.fl f (aA hf) h0);have hk:=(aX.1 hf).1;have ne:∀(i:Nat) (h:Fr),i≠k->q.l[i]?=some h->h.aw≠f.aw:=λi h hi hh e=>hi (V.un i k h f hh hf e (by omega));have V':Vi {q with a:=(q.a.aG f.aw f.gh.data.toList).1,l:=q.l.set k {f with cQ:=false}}:=by
  refine⟨λi j g h hg hh ep PZ=>?_,λg hg PZ hd=>?_,λg hg PZ=>?_,λg hg PZ=>?_,λg hg PZ=>?_⟩
  .have gt:∀(i:Nat) (g:Fr),(q.l.set k {f with cQ:=false})[i]?=some g->∃g',q.l[i]?=some g'/\g'.aw=g.aw:=λi g hg=>by
    by_cases xe:i=k
    .subst xe;rw[dM hk]at hg;injection hg with hg
     exact⟨f,hf,by rw[<-hg]⟩
    .rw[gx (by omega)]at hg;exact⟨g,hg,rfl⟩
   obtain⟨g',a1,a2⟩:=gt i g hg;obtain⟨h',b1,b2⟩:=gt j h hh;exact V.un i j g' h' a1 b1 (by omega) (by omega)
  .show(q.a.aG f.aw f.gh.data.toList).1.aR g.aw=_
   rcases mem_set hg with rfl|⟨i,hi,RT⟩
   .rw[hr,if_pos rfl,hp]
   .rw[hr,if_neg (ne i g hi RT)];exact V.cl g (aA RT) PZ hd
  .show((q.a.aG f.aw f.gh.data.toList).1.aR g.aw).2=0
   rcases mem_set hg with rfl|⟨i,hi,RT⟩
   .rw[hr,if_pos rfl]
   .rw[hr,if_neg (ne i g hi RT)];exact V.ex g (aA RT) PZ
  .rcases mem_set hg with rfl|⟨i,hi,RT⟩
   .rfl
   .exact V.em g (aA RT) PZ
  .rcases mem_set hg with rfl|⟨i,hi,RT⟩
   .exact V.fl f (aA hf) h0
   .exact V.fl g (aA RT) PZ
 refine⟨V',λj=>?_⟩
 rcases iC q j with h|⟨i,g,hg,rfl,PZ⟩
 .rw[eZ h,eZ (h.imp id (λh g hg=>by
   rcases mem_set hg with rfl|⟨i,hi,RT⟩
   .exact h f (aA hf)
   .exact h g (aA RT)))]
  show(q.a.aG f.aw f.gh.data.toList).1.aR j=_;rw[hr,if_neg];intro e
  rcases h with h|h
  .omega
  .exact h f (aA hf) e.symm
 .rw[V.jx hg PZ]
  by_cases xe:i=k
  .subst xe;have:g=f:=by rw[hg]at hf;injection hf
   subst this;exact V'.jx (k:=i) (f:={g with cQ:=false}) (by show(q.l.set i _)[i]?=_;rw[dM hk]) PZ
  .exact V'.jx (k:=i) (f:=g) (by show(q.l.set k _)[i]?=_;rw[gx (by omega)];exact hg) PZ
theorem Vi.swap{q:QS}(V:Vi q)(hf:q.l[k]?=some f)(hd:f.cQ=false)(g:Fr)(hg:g=Fr.nil\/(0<=g.aw/\g.cQ=false/\(∀h∈q.l,h.aw≠g.aw)/\q.a.aR g.aw=(g.gh.data.toList,0)/\g.gh.size=232)):
  Vi {q with l:=q.l.set k g}/\∀j,QS.vw {q with l:=q.l.set k g} j=q.vw j:=by
 have hk:=(aX.1 hf).1;have hgp:g.aw<0\/0<=g.aw:=by omega
 have gn:g.aw<0->g=Fr.nil:=λh=>hg.resolve_right (λh'=>by omega);have gp:0<=g.aw->g.cQ=false/\(∀h∈q.l,h.aw≠g.aw)/\q.a.aR g.aw=(g.gh.data.toList,0)/\g.gh.size=232:=λh=>by
  rcases hg with rfl|hg
  .exact absurd h (by decide)
  .exact hg.2
 have V':Vi {q with l:=q.l.set k g}:=by
  refine⟨λi j f1 h1 r9 hh1 ep h0=>?_,λf1 r9 h0 AA=>?_,λf1 r9 h0=>?_,λf1 r9 h0=>?_,λf1 r9 h0=>?_⟩
  .have gt:∀(i:Nat) (x:Fr),(q.l.set k g)[i]?=some x->(i=k/\x=g)\/(i≠k/\q.l[i]?=some x):=λi x hx=>by
    by_cases xe:i=k
    .subst xe;rw[dM hk]at hx;injection hx with hx
     exact .inl ⟨rfl,hx.symm⟩
    .rw[gx (by omega)]at hx;exact .inr ⟨xe,hx⟩
   rcases gt i f1 r9 with⟨rfl,rfl⟩|⟨hi,n9⟩
   .rcases gt j h1 hh1 with⟨rfl,rfl⟩|⟨hj,hj'⟩
    .rfl
    .exact absurd ep.symm ((gp h0).2.1 h1 (aA hj'))
   .rcases gt j h1 hh1 with⟨rfl,rfl⟩|⟨hj,hj'⟩
    .exact absurd ep ((gp (by omega)).2.1 f1 (aA n9))
    .exact V.un i j f1 h1 n9 hj' ep h0
  .rcases mem_set r9 with rfl|⟨i,hi,n9⟩
   .exact(gp h0).2.2.1
   .exact V.cl f1 (aA n9) h0 AA
  .show(q.a.aR f1.aw).2=0
   rcases mem_set r9 with rfl|⟨i,hi,n9⟩
   .rw[(gp h0).2.2.1]
   .exact V.ex f1 (aA n9) h0
  .rcases mem_set r9 with rfl|⟨i,hi,n9⟩
   .rw[gn h0];rfl
   .exact V.em f1 (aA n9) h0
  .rcases mem_set r9 with rfl|⟨i,hi,n9⟩
   .exact(gp h0).2.2.2
   .exact V.fl f1 (aA n9) h0
 refine⟨V',λj=>?_⟩
 by_cases hjg:0<=g.aw/\g.aw=j
 .obtain⟨h0,rfl⟩:=hjg;rw[V'.jx (k:=k) (f:=g) (by show(q.l.set k g)[k]?=_;rw[dM hk]) h0,eZ (.inr (gp h0).2.1)];exact(gp h0).2.2.1.symm
 rcases iC q j with h|⟨i,f1,r9,rfl,h0⟩
 .rw[eZ h,eZ (q:={q with l:=q.l.set k g})]
  by_cases hj:j<0
  .exact .inl hj
  .refine .inr (λf1 r9=>?_)
   rcases mem_set r9 with rfl|⟨i,hi,n9⟩
   .intro e;exact hjg ⟨by omega,e⟩
   .exact h.resolve_left hj f1 (aA n9)
 .rw[V.jx r9 h0]
  by_cases xe:i=k
  .subst xe;have:f1=f:=by rw[r9]at hf;injection hf
   subst this;rw[eZ (q:={q with l:=q.l.set i g}) (.inr (λx hx=>by
    rcases mem_set hx with rfl|⟨i',hi,n9⟩
    .intro e;exact hjg ⟨by omega,e⟩
    .intro e;exact hi (V.un i' i x f1 n9 r9 e (by omega))))]
   exact V.cl f1 (aA r9) h0 hd
  .exact V'.jx (k:=i) (f:=f1) (by show(q.l.set k g)[i]?=_;rw[gx (by omega)];exact r9) h0
variable{l l':List Fr}{p j:Int}{n K k:Nat}{a:St}{f:Fr}
theorem RU(m:Nat)(s:QS):s.jH (m+1)=if 0<(j6 s.l s.hand).held then s.turn.jH m else if(j6 s.l s.hand).used=true then QS.jH m {s.turn with l:=s.l.set s.hand {j6 s.l s.hand with used:=false}}else(s.turn,(s.hand:Int)):=rfl
theorem yN(h:findF l p= -1)(h0:0<=p):∀f∈l,f.aw≠p:=by
 intro f hf e;unfold findF at h;rw[if_neg (by omega)]at h;unfold FE at h
 split at h
 .omega
 .rename_i hn;exact hn (List.findIdx_lt_length.2 ⟨f,hf,by simpa using e⟩)
theorem RY{q:QS}(H:Hq q n K)(p:Int)(b:ByteArray)(hb:b.size<=232)(h0:(q.bg p).2.2=0):((q.bg p).1.fD p b).2=0:=by
 have key:∀(q':QS) (k:Nat) (f:Fr),findF q'.l p=k->q'.l[k]?=some f->f.held≠0->(q'.fD p b).2=0:=λq' k f e hf hn=>by
  unfold QS.fD QS.ib;rw[if_neg (by omega),e,if_neg (by omega),show((k:Nat):Int).toNat=k by omega,hf];dsimp only;rw[if_neg hn]
 have hit:∀(l:List Fr) (k:Nat) (f:Fr),l[k]?=some f->f.aw=p->0<=p->(∀(j:Nat) (a:Fr),j<k->l[j]?=some a->a.aw≠p)->findF l p=k:=λl k f hf e h0 ha=>by
  unfold findF;rw[if_neg (by omega)];exact xI hf (by simpa using e) (λj a hj hja=>by simpa using ha j a hj hja)
 unfold QS.bg at h0 ⊢
 rcases gJ q.l p with e|⟨k,f,e,hk,he,hp⟩
 .rw[e,if_neg (by omega)]at h0 ⊢
  by_cases hr:(q.a.aR p).2≠0
  .rw[if_pos hr]at h0;exact absurd h0 hr
  rw[if_neg hr]at h0 ⊢;have hp:0<=p:=by
   by_cases hp:0<=p
   .exact hp
   .exfalso;apply hr;unfold St.aR St.at;rw[if_neg hp];decide
  obtain⟨v1,v3⟩:=H.RM;have va:=iY q
  by_cases hv:q.aL.2<0
  .rw[if_pos hv]at h0;exact absurd h0 (by show(12:Int)≠0;decide)
  rw[if_neg hv]at h0 ⊢
  rcases v3 with v3|⟨k,v3,nS⟩
  .omega
  rw[v3,show((k:Nat):Int).toNat=k by omega]at h0 ⊢
  by_cases bS:(q.aL.1.cA k).2≠0
  .rw[if_pos bS]at h0;exact absurd h0 bS
  rw[if_neg bS];have tC:∀f∈q.l,f.aw≠p:=yN e hp;have jS:(q.aL.1.cA k).1.l.map Fr.aw=q.l.map Fr.aw:=by
   have sp:∀(m:Nat) (s:QS),s.hand<s.l.length->(s.jH m).1.l.map Fr.aw=s.l.map Fr.aw:=by
    intro m
    induction m with
    |zero=>intro s _;rfl
    |succ m ih=>
     intro s hs;rw[RU];have ht:s.turn.hand<s.turn.l.length:=qD _ (by show 0<s.l.length;omega)
     split
     .exact ih s.turn ht
     .split
      .have hx:=ih {s.turn with l:=s.l.set s.hand {j6 s.l s.hand with used:=false}} (by show s.turn.hand<(s.l.set _ _).length;rw[bU];exact ht);rw[hx];show(s.l.set s.hand _).map Fr.aw=_;rw[qt];apply l5;intro i;rw[iw]
       split
       .rename_i hi;subst hi;rw[if_pos (by simpa using hs),kY,mO hs];rfl
       .rfl
      .rfl
   have bp:(q.aL.1.cA k).1.l.map Fr.aw=q.aL.1.l.map Fr.aw:=by
    have hkv:k<q.aL.1.l.length:=by omega
    unfold QS.cA
    split
    .split
     .show(q.aL.1.l.set k _).map Fr.aw=_;rw[qt];apply l5;intro i;rw[iw]
      split
      .rename_i hi;subst hi;rw[if_pos (by simpa using hkv),kY,mO hkv];rfl
      .rfl
     .rfl
    .rfl
   rw[bp];unfold QS.aL
   split
   .rfl
   .exact sp _ q H.lh
  have xd:=(JE (k:=k) v1.f (by omega)).2;refine key _ k ⟨p,⟨(q.a.aR p).1.toArray⟩,1,false,true⟩ (hit _ k ⟨p,⟨(q.a.aR p).1.toArray⟩,1,false,true⟩ (by rw[dM (by omega)]) rfl hp (λj a hj hja=>?_)) (by rw[dM (by omega)]) (by show(1:Int)≠0;decide);rw[gx (by omega)]at hja;have hm:a.aw∈q.l.map Fr.aw:=by rw[<-jS];exact lu (aA hja)
  obtain⟨f',hf',e'⟩:=cg.1 hm;rw[<-e'];exact tC f' hf'
 .rw[e,if_pos (by omega),show((k:Nat):Int).toNat=k by omega,oF hk];have nS:k<q.l.length:=(aX.1 hk).1;have hfb:=H.f f (aA hk);refine key _ k {f with held:=f.held+1,used:=true} (hit _ k {f with held:=f.held+1,used:=true} (by rw[dM nS]) he hp (λj a hj hja=>?_)) (by rw[dM nS]) (by show f.held+1≠0;omega);rw[gx (by omega)]at hja;intro ea;have:findF q.l p=j\/findF q.l p<k:=by
   right;unfold findF;rw[if_neg (by omega)];unfold FE;have hj2:=(aX.1 hja);obtain⟨hjl,hje⟩:=hj2;have hle:q.l.findIdx (λf=>decide (f.aw=p))<=j:=by
    by_cases h:q.l.findIdx (λf=>decide (f.aw=p))<=j
    .exact h
    .have:=Dh (p:=λf=>decide (f.aw=p)) (xs:=q.l) (i:=j) (by omega);rw[hje]at this;simp[ea]at this
   rw[if_pos (by omega)];omega
  omega
def JH(f:Fr):Int×ByteArray×Bool×Int:=(f.aw,f.gh,f.cQ,f.held)
theorem pdh_pd(e:l'.map JH=l.map JH):l'.map Sh.pd=l.map Sh.pd:=by
 have h:∀l:List Fr,l.map Sh.pd=(l.map JH).map (λx=>(x.1,x.2.1,x.2.2.1)):=λl=>by rw[jf];rfl
 rw[h,h,e]
theorem FZ(e:l'.map JH=l.map JH)(h:∀f∈l,f.held=0):∀f∈l',f.held=0:=λf hf=>by
 have:JH f∈l.map JH:=by rw[<-e];exact lu hf
 obtain⟨f',h1,h2⟩:=cg.1 this;have h3:f'.held=f.held:=congrArg (λx=>x.2.2.2) h2;rw[<-h3];exact h f' h1
theorem JI(s:QS)(hl:s.hand<s.l.length)(hh:∀f∈s.l,f.held=0):∀m,s.l.countP Fr.used<m->∃k:Nat,(s.jH m).2=k/\k<s.l.length/\(s.jH m).1.l.map JH=s.l.map JH:=by
 intro m
 induction m generalizing s with
 |zero=>intro h;omega
 |succ m ih=>
  intro hm;have hf:=mO hl;have h0:=hh _ (aA hf);have ht:(s.hand+1) % s.l.length<s.l.length:=qD _ (by omega);rw[RU,if_neg (by omega)]
  by_cases hu:(j6 s.l s.hand).used=true
  .rw[if_pos hu];have DP:(s.l.set s.hand {j6 s.l s.hand with used:=false}).map JH=s.l.map JH:=jT s.l JH s.hand hf rfl;have hlen:(s.l.set s.hand {j6 s.l s.hand with used:=false}).length=s.l.length:=bU ..;have hc:(s.l.set s.hand {j6 s.l s.hand with used:=false}).countP Fr.used<s.l.countP Fr.used:=by
    rw[List.countP_set hl];have e:s.l[s.hand]=j6 s.l s.hand:=by unfold j6;rw[aT hl];rfl
    have hp:0<s.l.countP Fr.used:=List.countP_pos_iff.2 ⟨_,j9 hl,by rw[e];exact hu⟩;rw[e];simp[hu];omega
   obtain⟨k,h1,h2,h3⟩:=ih {s.turn with l:=s.l.set s.hand {j6 s.l s.hand with used:=false}} (by rw[hlen];exact ht)
    (λf DW=>(xo DW).elim (hh f) (λe=>by rw[e];exact h0)) (by show List.countP _ (s.l.set _ _)<m;omega)
   rw[hlen]at h2;exact⟨k,h1,h2,h3.trans DP⟩
  .rw[if_neg hu];exact⟨s.hand,rfl,hl,rfl⟩
theorem Em(s:QS)(hl:s.hand<s.l.length)(hh:∀f∈s.l,f.held=0):∃k:Nat,s.aL.2=k/\k<s.l.length/\s.aL.1.l.map JH=s.l.map JH:=by
 unfold QS.aL
 rcases DU (λf=>decide (f.aw<0)) s.l with e|⟨k,f,e,hf,_⟩
 .rw[e,if_neg (by omega)];exact JI s hl hh _ (by have:=Ir (p:=Fr.used) (l:=s.l);omega)
 .rw[e,if_pos (by omega)];exact⟨k,rfl,(aX.1 hf).1,rfl⟩
theorem Zc.len{c:C}(z:Zc c n a K){l:Int}(h:(a.aR l).2=0):(a.aR l).1.length=232:=by
 have hr:=z.read l;rw[uL z.g]at hr;rw[<-hr]at h ⊢;exact FI z.g h
theorem ba_eta(b:ByteArray):(⟨b.data.toList.toArray⟩:ByteArray)=b:=by simp
theorem Ga{q:QS}(V:Vi q)(hf:q.l[k]?=some f)(he:f.aw=p)(h0:0<=p)(h1:f.held=1)(hN:∀(i:Nat) (h:Fr),i≠k->q.l[i]?=some h->h.held=0):
  (q.iq p).1.a=q.a/\Vi (q.iq p).1/\(∀j,(q.iq p).1.vw j=q.vw j)/\∀f∈(q.iq p).1.l,f.held=0:=by
 have nS:=(aX.1 hf).1;have e:findF q.l p=k:=by rw[<-he];exact Ek hf (by omega) (λj h hj ej=>V.un j k h f hj hf ej (by omega))
 have hE:(q.iq p).1={q with l:=q.l.set k {f with held:=f.held-1}}:=by
  unfold QS.iq QS.ib;rw[e,if_neg (by omega),show((k:Nat):Int).toNat=k by omega,hf];dsimp only;rw[if_neg (by omega)]
 rw[hE];obtain⟨V1,w1⟩:=V.pd (q':={q with l:=q.l.set k {f with held:=f.held-1}}) rfl (jT q.l Sh.pd k hf rfl);refine⟨rfl,V1,w1,λg hg=>?_⟩
 rcases mem_set hg with rfl|⟨i,hi,n9⟩
 .show f.held-1=0;omega
 .exact hN i g hi n9
theorem Vi.setp{q:QS}(V:Vi q)(hf:q.l[k]?=some f)(h0:0<=f.aw)(g:Fr)(ep:g.aw=f.aw)(hd:g.cQ=true)(hs:g.gh.size=232):
  Vi {q with l:=q.l.set k g}/\∀j,QS.vw {q with l:=q.l.set k g} j=if j=f.aw then(g.gh.data.toList,0)else q.vw j:=by
 have hk:=(aX.1 hf).1;have gt:∀(i:Nat) (x:Fr),(q.l.set k g)[i]?=some x->∃x',q.l[i]?=some x'/\x'.aw=x.aw:=λi x hx=>by
  by_cases xe:i=k
  .subst xe;rw[dM hk]at hx;injection hx with hx
   exact⟨f,hf,by rw[<-hx,ep]⟩
  .rw[gx (by omega)]at hx;exact⟨x,hx,rfl⟩
 have V':Vi {q with l:=q.l.set k g}:=by
  refine⟨λi j f1 h1 r9 hh1 e1 Qa=>?_,λf1 r9 Qa AA=>?_,λf1 r9 Qa=>?_,λf1 r9 Qa=>?_,λf1 r9 Qa=>?_⟩
  .obtain⟨f',a1,a2⟩:=gt i f1 r9;obtain⟨h',b1,b2⟩:=gt j h1 hh1;exact V.un i j f' h' a1 b1 (by omega) (by omega)
  .rcases mem_set r9 with rfl|⟨i,hi,n9⟩
   .rw[hd]at AA;cases AA
   .exact V.cl f1 (aA n9) Qa AA
  .show(q.a.aR f1.aw).2=0
   rcases mem_set r9 with rfl|⟨i,hi,n9⟩
   .rw[ep];exact V.ex f (aA hf) h0
   .exact V.ex f1 (aA n9) Qa
  .rcases mem_set r9 with rfl|⟨i,hi,n9⟩
   .omega
   .exact V.em f1 (aA n9) Qa
  .rcases mem_set r9 with rfl|⟨i,hi,n9⟩
   .exact hs
   .exact V.fl f1 (aA n9) Qa
 refine⟨V',λj=>?_⟩
 by_cases hj:j=f.aw
 .subst hj;rw[if_pos rfl,<-ep];exact V'.jx (k:=k) (f:=g) (by show(q.l.set k g)[k]?=_;rw[dM hk]) (by omega)
 .rw[if_neg hj]
  rcases iC q j with h|⟨i,f1,r9,rfl,Qa⟩
  .rw[eZ h,eZ (q:={q with l:=q.l.set k g}) (h.imp id (λh x hx=>by
    rcases mem_set hx with rfl|⟨i,hi,n9⟩
    .rw[ep];exact h f (aA hf)
    .exact h x (aA n9)))]
  .rw[V.jx r9 Qa];refine V'.jx (k:=i) (f:=f1) ?_ Qa;have xe:i≠k:=λe=>by
    subst e;have:f1=f:=by rw[r9]at hf;injection hf
    exact hj (by rw[this])
   show(q.l.set k g)[i]?=_;rw[gx (by omega)];exact r9
theorem back_v{q:QS}(V:Vi q)(hk:k<q.l.length):
  ((q.cA k).2=0/\(q.cA k).1.a.cG=q.a.cG/\Vi (q.cA k).1/\(∀j,(q.cA k).1.vw j=q.vw j)/\∃f,(q.cA k).1.l[k]?=some f/\f.cQ=false/\(q.cA k).1.l.map Fr.held=q.l.map Fr.held/\(q.cA k).1.l.map Fr.aw=q.l.map Fr.aw)\/q.cA k=(q,11):=by
 have hf:=mO hk;unfold QS.cA
 by_cases hd:(j6 q.l k).cQ=true
 .have h0:0<=(j6 q.l k).aw:=by
   by_cases h:0<=(j6 q.l k).aw
   .exact h
   .have:=V.em _ (aA hf) (by omega);rw[hd]at this;cases this
  rw[if_pos hd];have hx:=V.ex _ (aA hf) h0;have hl:=V.fl _ (aA hf) h0;have hw:(q.a.aG (j6 q.l k).aw (j6 q.l k).gh.data.toList).2=0/\(q.a.aG (j6 q.l k).aw (j6 q.l k).gh.data.toList).1.cG=q.a.cG\/q.a.aG (j6 q.l k).aw (j6 q.l k).gh.data.toList=(q.a,11):=by
   unfold St.aG;rw[if_neg (by simp[hl]),if_neg (by rw[xL]at hx;simp[hx])]
   split
   .exact .inr rfl
   .exact .inl ⟨rfl,rfl⟩
  rcases hw with⟨hw,ho⟩|hw
  .rw[if_pos hw];obtain⟨V',hv⟩:=V.wrote hf h0 hw;exact .inl ⟨rfl,ho,V',hv,{j6 q.l k with cQ:=false},by show(q.l.set k _)[k]?=_;rw[dM hk],rfl,jT q.l Fr.held k hf rfl,jT q.l Fr.aw k hf rfl⟩
  .rw[hw,if_neg (by simp)];exact .inr rfl
 .rw[if_neg hd];exact .inl ⟨rfl,rfl,V,λj=>rfl,_,hf,by simpa using hd,rfl,rfl⟩
theorem RZ{q:QS}(H:Hq q n K)(V:Vi q)(N:∀f∈q.l,f.held=0)(p:Int):
  (q.bg p).1.a.cG=q.a.cG/\Vi (q.bg p).1/\(∀j,(q.bg p).1.vw j=q.vw j)/\
  (((q.vw p).2=0/\(q.bg p).2=(⟨(q.vw p).1.toArray⟩,0)/\∃(k:Nat) (f:Fr),(q.bg p).1.l[k]?=some f/\f.aw=p/\0<=p/\f.held=1/\∀(i:Nat) (h:Fr),i≠k->(q.bg p).1.l[i]?=some h->h.held=0)\/
   ((q.vw p).2=3/\(q.bg p).2=(⟨#[]⟩,3)/\∀f∈(q.bg p).1.l,f.held=0)\/((q.vw p).2=0/\(q.bg p).2=(⟨#[]⟩,11)/\∀f∈(q.bg p).1.l,f.held=0)):=by
 obtain⟨c,z⟩:=H.z
 rcases gJ q.l p with e|⟨k,f,e,hk,he,AN⟩
 .have tC:p<0\/∀f∈q.l,f.aw≠p:=by
   by_cases h0:p<0
   .exact .inl h0
   .exact .inr (yN e (by omega))
  have hvw:=eZ (q:=q) tC
  by_cases hr:(q.a.aR p).2≠0
  .have hE:q.bg p=(q,⟨#[]⟩,(q.a.aR p).2):=by
    unfold QS.bg;rw[e,if_neg (by omega),if_pos hr]
   have h3:(q.a.aR p).2=3:=by
    unfold St.aR at hr ⊢
    split
    .rename_i h;rw[h]at hr;exact absurd rfl hr
    .rfl
   rw[hE];exact⟨rfl,V,λj=>rfl,.inr (.inl ⟨by rw[hvw];exact h3,by rw[h3],N⟩)⟩
  have AO:(q.a.aR p).2=0:=by simpa using hr
  obtain⟨k,v1,v2,v3⟩:=Em q H.lh N;have va:=iY q;obtain⟨V1,w1⟩:=V.pd (q':=q.aL.1) va.1 (pdh_pd v3);have hkv:k<q.aL.1.l.length:=by omega
  rcases back_v V1 hkv with⟨b1,b2,b3,b4,f,b5,b6,b7,b8⟩|hb
  .have hE:q.bg p=({(q.aL.1.cA k).1 with l:=(q.aL.1.cA k).1.l.set k ⟨p,⟨(q.a.aR p).1.toArray⟩,1,false,true⟩},⟨(q.a.aR p).1.toArray⟩,0):=by
    unfold QS.bg;rw[e,if_neg (by omega),if_neg hr,v1,if_neg (by omega),show((k:Nat):Int).toNat=k by omega,if_neg (by rw[b1];simp)]
   have AN:0<=p:=FY AO;have hpg:∀h∈(q.aL.1.cA k).1.l,h.aw≠p:=λh hh=>by
    have:h.aw∈q.l.map Fr.aw:=by
     have e1:q.aL.1.l.map Fr.aw=q.l.map Fr.aw:=by
      have hx:∀l:List Fr,l.map Fr.aw=(l.map JH).map (λx=>x.1):=λl=>by rw[jf];rfl
      rw[hx,hx,v3]
     rw[<-e1,<-b8];exact lu hh
    obtain⟨f',h1,h2⟩:=cg.1 this;rw[<-h2];exact tC.resolve_left (by omega) f' h1
   have hrd:(q.aL.1.cA k).1.a.aR p=q.a.aR p:=by
    have h1:=(b4 p).trans (w1 p);rw[eZ (q:=(q.aL.1.cA k).1) (.inr hpg),hvw]at h1;exact h1
   have hsw:=b3.swap b5 b6 ⟨p,⟨(q.a.aR p).1.toArray⟩,1,false,true⟩ (.inr ⟨AN,rfl,hpg,by
    show(q.aL.1.cA k).1.a.aR p=((q.a.aR p).1,0);rw[hrd];exact kG rfl AO,by show(q.a.aR p).1.toArray.size=232;simpa using z.len AO⟩)
   rw[hE];refine⟨by show(q.aL.1.cA k).1.a.cG=_;rw[b2,va.1],hsw.1,λj=>((hsw.2 j).trans (b4 j)).trans (w1 j),.inl ⟨by rw[hvw];exact AO,by rw[hvw],k,⟨p,⟨(q.a.aR p).1.toArray⟩,1,false,true⟩,?_,rfl,AN,rfl,λi h hi hh=>?_⟩⟩
   .show(List.set _ _ _)[k]?=_;rw[dM (aX.1 b5).1]
   .have hh:(List.set (q.aL.1.cA k).1.l k _)[i]?=some h:=hh;rw[gx (by omega)]at hh;have h3:h.held∈q.aL.1.l.map Fr.held:=by rw[<-b7];exact lu (aA hh)
    obtain⟨f',h4,h5⟩:=cg.1 h3;rw[<-h5];exact FZ v3 N f' h4
  .have hE:q.bg p=(q.aL.1,⟨#[]⟩,11):=by
    unfold QS.bg;rw[e,if_neg (by omega),if_neg hr,v1,if_neg (by omega),show((k:Nat):Int).toNat=k by omega,hb,if_pos (by simp)]
   rw[hE];exact⟨by show q.aL.1.a.cG=_;rw[va.1],V1,w1,.inr (.inr ⟨by rw[hvw];exact AO,rfl,FZ v3 N⟩)⟩
 .have nS:=(aX.1 hk).1;have hE:q.bg p=({q with l:=q.l.set k {f with held:=f.held+1,used:=true}},f.gh,0):=by
   unfold QS.bg;rw[e,if_pos (by omega),show((k:Nat):Int).toNat=k by omega,oF hk]
  have hvw:q.vw p=(f.gh.data.toList,0):=by rw[<-he];exact V.jx hk (by omega)
  obtain⟨V1,w1⟩:=V.pd (q':={q with l:=q.l.set k {f with held:=f.held+1,used:=true}}) rfl (jT q.l Sh.pd k hk rfl);rw[hE];refine⟨rfl,V1,w1,.inl ⟨by rw[hvw],by rw[hvw,ba_eta],k,{f with held:=f.held+1,used:=true},?_,he,AN,?_,λi h hi hh=>?_⟩⟩
  .show(q.l.set k _)[k]?=_;rw[dM nS]
  .have:=N f (aA hk);show f.held+1=1;omega
  .have hh:(q.l.set k _)[i]?=some h:=hh;rw[gx (by omega)]at hh;exact N h (aA hh)
structure Wp(q:QS)(n K:Nat):Prop where
 H:Hq q n K
 V:Vi q
 N:∀f∈q.l,f.held=0
structure Nx(q q':QS)(n K:Nat):Prop where
 w:Wp q' n K
 o:q'.a.cG=q.a.cG
structure Nv(q q':QS)(n K:Nat):Prop extends Nx q q' n K where
 v:∀j,q'.vw j=q.vw j
section
variable{q:QS}{n K:Nat}
theorem Wp.more(h:Wp q n K){K':Nat}(hk:K<=K'):Wp q n K':=⟨h.H.more hk,h.V,h.N⟩
theorem En(q:QS)(j:Int):(q.vw j).2=0\/q.vw j=([],3):=by
 unfold QS.vw
 split
 .exact .inl rfl
 .unfold St.aR
  split
  .exact .inl rfl
  .exact .inr rfl
theorem Wp.len(h:Wp q n K)(h0:(q.vw j).2=0):(q.vw j).1.length=232:=by
 obtain⟨c,z⟩:=h.H.z
 rcases iC q j with ho|⟨k,f,hk,rfl,hp⟩
 .rw[eZ ho]at h0 ⊢;exact z.len h0
 .rw[h.V.jx hk hp];have:=h.V.fl f (aA hk) hp;simpa using this
theorem vw_pos(h0:(q.vw j).2=0):0<=j:=by
 unfold QS.vw at h0
 split at h0
 .rcases gJ q.l j with e|⟨_,_,_,_,_,h⟩
  .omega
  .exact h
 .exact FY h0
theorem Wp.get(h:Wp q n K)(p:Int):Nv q (q.dF p).1 n (K+1)/\
  (((q.vw p).2=0/\(q.dF p).2=(⟨(q.vw p).1.toArray⟩,0))\/(q.vw p=([],3)/\(q.dF p).2=(⟨#[]⟩,3))\/((q.vw p).2=0/\(q.dF p).2=(⟨#[]⟩,11))):=by
 obtain⟨h1,h2,h3,h4⟩:=RZ h.H h.V h.N p;have HH:=h.H.get p;unfold QS.dF at HH ⊢
 rcases h4 with⟨e0,e1,k,f,hf,he,AN,hh,hN⟩|⟨e0,e1,e2⟩|⟨e0,e1,e2⟩
 .rw[e1,if_neg (by simp)]at HH;rw[e1,if_neg (by simp)];obtain⟨l1,l2,l3,l4⟩:=Ga h2 hf he AN hh hN;exact⟨⟨⟨⟨HH,l2,l4⟩,by rw[l1];exact h1⟩,λj=>(l3 j).trans (h3 j)⟩,.inl ⟨e0,rfl⟩⟩
 .rw[e1,if_pos (by simp)]at HH;rw[e1,if_pos (by simp)];exact⟨⟨⟨⟨HH,h2,e2⟩,h1⟩,h3⟩,.inr (.inl ⟨(En q p).resolve_left (by omega),rfl⟩)⟩
 .rw[e1,if_pos (by simp)]at HH;rw[e1,if_pos (by simp)];exact⟨⟨⟨⟨HH,h2,e2⟩,h1⟩,h3⟩,.inr (.inr ⟨e0,rfl⟩)⟩
theorem Wp.put(h:Wp q n K)(p:Int)(b:ByteArray)(hb:b.size<=232):Nx q (q.dv p b).1 n (K+1)/\
  (((q.vw p).2=0/\(q.dv p b).2=0/\∀j,(q.dv p b).1.vw j=if j=p then(eI b.data.toList 232,0)else q.vw j)\/(q.vw p=([],3)/\(q.dv p b).2=3/\∀j,(q.dv p b).1.vw j=q.vw j)\/((q.vw p).2=0/\(q.dv p b).2=11/\∀j,(q.dv p b).1.vw j=q.vw j)):=by
 obtain⟨h1,h2,h3,h4⟩:=RZ h.H h.V h.N p;have HH:=h.H.put_ p b;unfold QS.dv at HH ⊢;rw[if_neg (by omega)]at HH ⊢
 rcases h4 with⟨e0,e1,k,f,hf,he,AN,hh,hN⟩|⟨e0,e1,e2⟩|⟨e0,e1,e2⟩
 .rw[e1,if_neg (by simp)]at HH ⊢;have nS:=(aX.1 hf).1;have e:findF (q.bg p).1.l p=k:=by
   have e:=Ek hf (by omega) (λj h hj ej=>h2.un j k h f hj hf ej (by omega));rw[he]at e;exact e
  have hE:((q.bg p).1.fD p b).1={(q.bg p).1 with l:=(q.bg p).1.l.set k {f with gh:=rD b,cQ:=true,used:=true}}:=by
   unfold QS.fD QS.ib;rw[if_neg (by omega),e,if_neg (by omega),show((k:Nat):Int).toNat=k by omega,hf];dsimp only;rw[if_neg (by omega)]
  have DP:=h2.setp hf (by omega) {f with gh:=rD b,cQ:=true,used:=true} rfl rfl (yL (by omega));have hlet:=Ga (q:=((q.bg p).1.fD p b).1) (by rw[hE];exact DP.1) (p:=p) (k:=k) (f:={f with gh:=rD b,cQ:=true,used:=true}) (by rw[hE];show(List.set _ _ _)[k]?=_;rw[dM nS]) he AN hh (λi h hi hx=>by
   rw[hE]at hx;have hx:(List.set (q.bg p).1.l k _)[i]?=some h:=hx;rw[gx (by omega)]at hx;exact hN i h hi hx)
  obtain⟨l1,l2,l3,l4⟩:=hlet;refine⟨⟨⟨HH,l2,l4⟩,by rw[l1,hE];exact h1⟩,.inl ⟨e0,rfl,λj=>?_⟩⟩;rw[l3 j,hE,DP.2 j,he]
  by_cases hj:j=p
  .rw[if_pos hj,if_pos hj];rfl
  .rw[if_neg hj,if_neg hj];exact h3 j
 .rw[e1,if_pos (by simp)]at HH ⊢;exact⟨⟨⟨HH,h2,e2⟩,h1⟩,.inr (.inl ⟨(En q p).resolve_left (by omega),rfl,h3⟩)⟩
 .rw[e1,if_pos (by simp)]at HH ⊢;exact⟨⟨⟨HH,h2,e2⟩,h1⟩,.inr (.inr ⟨e0,rfl,h3⟩)⟩
def QS.ov(q:QS)(j:Int):List UInt8×Int:=({q.a with now:=Eb q.a.cG}:St).aR j
theorem R4{q q':QS}(h:q'.a.cG=q.a.cG)(j:Int):q'.ov j=q.ov j:=by
 unfold QS.ov St.aR St.at;rw[h]
theorem at_put'(v:Option (Bool×List UInt8))(q:Int):({a with now:=oE a.now a.slot v}:St).at q=if q=(a.slot:Nat)then v else a.at q:=by
 unfold St.at
 by_cases h0:0<=q
 .rw[if_pos h0];show((oE a.now a.slot v)[q.toNat]?).getD none=_;rw[nu _ _ _ (slot_le a)]
  by_cases e:q=(a.slot:Nat)
  .rw[if_pos e,if_pos (by omega)];rfl
  .rw[if_neg e,if_neg (by omega),if_pos h0]
 .rw[if_neg h0,if_neg (by omega),if_neg h0]
theorem vw_new{p:List UInt8}(h:(a.bP p).2.2=0):∃l:Nat,(a.bP p).2.1=l/\l<=511/\a.at (l:Nat)=none/\∀j,(a.bP p).1.aR j=if j=(l:Nat)then(eI p 232,0)else a.aR j:=by
 unfold St.bP at h ⊢
 split at h
 .exact absurd h (by show(4:Int)≠0;decide)
 .rename_i h1;rw[if_neg h1]
  split at h
  .exact absurd h (by show(11:Int)≠0;decide)
  .rename_i h2;rw[if_neg h2];refine⟨a.slot,rfl,by omega,Nq a,λj=>?_⟩;unfold St.aR;rw[at_put']
   by_cases e:j=(a.slot:Nat)
   .rw[if_pos e,if_pos e]
   .rw[if_neg e,if_neg e]
theorem Wp.new(h:Wp q n K)(p:ByteArray)(hb:p.size<=232):Nx q (q.bP p.data.toList).1 n (K+1)/\
  ((∃l:Nat,(q.bP p.data.toList).2=(((l:Nat):Int),0)/\l<=511/\q.vw (l:Nat)=([],3)/\∀j,(q.bP p.data.toList).1.vw j=if j=(l:Nat)then(eI p.data.toList 232,0)else q.vw j)\/((q.bP p.data.toList).2=(0,11)/\∀j,(q.bP p.data.toList).1.vw j=q.vw j)):=by
 have HH:=h.H.new p.data.toList;unfold QS.bP at HH ⊢
 by_cases h0:(q.a.bP p.data.toList).2.2=0
 .obtain⟨l,e1,e2,e3,e4⟩:=vw_new h0;have hr:∀f∈q.l,0<=f.aw->f.aw≠(l:Nat):=λf hf h0 e=>by
   have:=h.V.ex f hf h0;unfold St.aR at this;rw[e,e3]at this;exact absurd this (by show(3:Int)≠0;decide)
  have hl:q.vw (l:Nat)=([],3):=by
   rw[eZ (.inr λf hf e=>hr f hf (by omega) e)];unfold St.aR;rw[e3]
  have V':Vi {q with a:=(q.a.bP p.data.toList).1}:=⟨h.V.un,λf hf h0 hd=>by show(q.a.bP _).1.aR _=_;rw[e4,if_neg (hr f hf h0)];exact h.V.cl f hf h0 hd,λf hf h0=>by show((q.a.bP _).1.aR _).2=_;rw[e4,if_neg (hr f hf h0)];exact h.V.ex f hf h0,h.V.em,h.V.fl⟩;refine⟨⟨⟨HH,V',h.N⟩,?_⟩,.inl ⟨l,kG e1 h0,e2,hl,λj=>?_⟩⟩
  .show(q.a.bP _).1.cG=_;unfold St.bP
   split
   .rfl
   .split<;>rfl
  .rcases iC q j with ho|⟨k,f,hk,rfl,hp⟩
   .rw[eZ (q:={q with a:=(q.a.bP p.data.toList).1}) ho,eZ ho];exact e4 j
   .rw[if_neg (hr f (aA hk) hp),h.V.jx hk hp];exact V'.jx hk hp
 .have e:q.a.bP p.data.toList=(q.a,0,11):=by
   unfold St.bP at h0 ⊢;have hl:¬232<p.data.toList.length:=by simp;omega
   rw[if_neg hl]at h0 ⊢
   split
   .rfl
   .rename_i h1;rw[if_neg h1]at h0;exact absurd rfl h0
  rw[e]at HH ⊢;exact⟨⟨⟨HH,h.V,h.N⟩,rfl⟩,.inr ⟨rfl,λ_=>rfl⟩⟩
theorem NK{l:Int}(h:(a.at l).isSome=true)(j:Int):(a.aS l).1.aR j=if j=l then([],3)else a.aR j:=by
 obtain⟨h0,h1⟩:=qO h;have hat:(a.aS l).1.at j=if j=l then none else a.at j:=by
  unfold St.aS;rw[if_pos h];unfold St.at
  by_cases hj:0<=j
  .rw[if_pos hj,if_pos hj];show((a.now.set l.toNat none)[j.toNat]?).getD none=_
   by_cases e:j=l
   .subst e;rw[if_pos rfl,dM h1];rfl
   .rw[if_neg e,gx (by omega)]
  .rw[if_neg hj,if_neg (by omega),if_neg hj]
 unfold St.aR;rw[hat]
 by_cases e:j=l
 .rw[if_pos e,if_pos e]
 .rw[if_neg e,if_neg e]
theorem Wp.drop(h:Wp q n K)(p:Int):Nx q (q.aS p).1 n K/\
  (((q.vw p).2=0/\(q.aS p).2=0/\∀j,(q.aS p).1.vw j=if j=p then([],3)else q.vw j)\/(q.vw p=([],3)/\(q.aS p).2=3/\∀j,(q.aS p).1.vw j=q.vw j)):=by
 have HH:=h.H.drop p;have hold:(q.a.aS p).1.cG=q.a.cG:=by unfold St.aS;split<;>rfl
 unfold QS.aS at HH ⊢;have hnh:¬(0<=findF q.l p/\0<(j6 q.l (findF q.l p).toNat).held):=λ⟨h1,h2⟩=>by
  rcases gJ q.l p with e|⟨k,f,e,hk,_,_⟩
  .omega
  .rw[e,show((k:Nat):Int).toNat=k by omega,oF hk,h.N f (aA hk)]at h2;omega
 rw[if_neg hnh]at HH ⊢
 by_cases hx:(q.a.at p).isSome=true
 .have e0:(q.a.aS p).2=0:=by unfold St.aS;rw[if_pos hx]
  have hr:=NK hx;rw[if_neg (by rw[e0];simp)]at HH ⊢
  rcases gJ q.l p with e|⟨k,f,e,hk,he,AN⟩
  .rw[e,if_neg (by omega)]at HH ⊢;have AN:=(qO hx).1;have tC:=yN e AN;have hv:q.vw p=q.a.aR p:=eZ (.inr tC);have V':Vi {q with a:=(q.a.aS p).1}:=⟨h.V.un,λf hf h0 hd=>by show(q.a.aS p).1.aR _=_;rw[hr,if_neg (tC f hf)];exact h.V.cl f hf h0 hd,λf hf h0=>by show((q.a.aS p).1.aR _).2=_;rw[hr,if_neg (tC f hf)];exact h.V.ex f hf h0,h.V.em,h.V.fl⟩;refine⟨⟨⟨HH,V',h.N⟩,hold⟩,.inl ⟨by rw[hv];exact xL.2 hx,rfl,λj=>?_⟩⟩
   rcases iC q j with ho|⟨i,f,hi,rfl,hp⟩
   .rw[eZ (q:={q with a:=(q.a.aS p).1}) ho,eZ ho];exact hr j
   .rw[if_neg (tC f (aA hi)),h.V.jx hi hp];exact V'.jx hi hp
  .rw[e,if_pos (by omega),show((k:Nat):Int).toNat=k by omega]at HH ⊢;have nS:=(aX.1 hk).1;have hv:q.vw p=(f.gh.data.toList,0):=by rw[<-he];exact h.V.jx hk (by omega)
   have ne:∀(i:Nat) (g:Fr),i≠k->q.l[i]?=some g->0<=g.aw->g.aw≠p:=λi g hi hg h0 e=>hi (h.V.un i k g f hg hk (by omega) h0);have cG:∀g∈q.l.set k Fr.nil,0<=g.aw->g∈q.l/\g.aw≠p:=λg hg h0=>by
    rcases mem_set hg with rfl|⟨i,hi,n9⟩
    .exact absurd h0 (by show ¬(0:Int)<= -1;omega)
    .exact⟨aA n9,ne i g hi n9 h0⟩
   have V':Vi {q with a:=(q.a.aS p).1,l:=q.l.set k Fr.nil}:=by
    refine⟨λi j f1 h1 hi hj ee h0=>?_,λg hg h0 hd=>?_,λg hg h0=>?_,λg hg h0=>?_,λg hg h0=>h.V.fl g (cG g hg h0).1 h0⟩
    .have gt:∀(i:Nat) (x:Fr),(q.l.set k Fr.nil)[i]?=some x->0<=x.aw->q.l[i]?=some x:=λi x hx h0=>by
      by_cases xe:i=k
      .subst xe;rw[dM nS]at hx;injection hx with hx
       subst hx;exact absurd h0 (by show ¬(0:Int)<= -1;omega)
      .rw[gx (by omega)]at hx;exact hx
     exact h.V.un i j f1 h1 (gt i f1 hi h0) (gt j h1 hj (by omega)) ee h0
    .obtain⟨o1,o2⟩:=cG g hg h0;show(q.a.aS p).1.aR _=_;rw[hr,if_neg o2];exact h.V.cl g o1 h0 hd
    .obtain⟨o1,o2⟩:=cG g hg h0;show((q.a.aS p).1.aR _).2=_;rw[hr,if_neg o2];exact h.V.ex g o1 h0
    .rcases mem_set hg with rfl|⟨i,hi,n9⟩
     .rfl
     .exact h.V.em g (aA n9) h0
   refine⟨⟨⟨HH,V',λg hg=>?_⟩,hold⟩,.inl ⟨by rw[hv],rfl,λj=>?_⟩⟩
   .rcases mem_set hg with rfl|⟨i,hi,n9⟩
    .rfl
    .exact h.N g (aA n9)
   .by_cases hj:j=p
    .subst hj;rw[if_pos rfl,eZ (q:={q with a:=(q.a.aS j).1,l:=q.l.set k Fr.nil}) (.inr λg hg e=>(cG g hg (by omega)).2 e)];show(q.a.aS j).1.aR j=_;rw[hr,if_pos rfl]
    .rw[if_neg hj]
     rcases iC q j with ho|⟨i,g,hi,rfl,hp⟩
     .have ho':j<0\/∀g∈q.l.set k Fr.nil,g.aw≠j:=by
       by_cases hj0:j<0
       .exact .inl hj0
       .refine .inr λg hg=>?_
        rcases mem_set hg with rfl|⟨i,hi,n9⟩
        .show(-1:Int)≠j;omega
        .exact ho.resolve_left hj0 g (aA n9)
      rw[eZ ho,eZ (q:={q with a:=(q.a.aS p).1,l:=q.l.set k Fr.nil}) ho'];show(q.a.aS p).1.aR j=_;rw[hr,if_neg hj]
     .rw[h.V.jx hi hp];refine V'.jx (k:=i) ?_ hp;show(q.l.set k Fr.nil)[i]?=_;rw[gx]
      .exact hi
      .rintro rfl;rw[hk]at hi;injection hi with hi
       subst hi;exact hj he
 .have hx2:(q.a.aS p)=(q.a,3):=by unfold St.aS;rw[if_neg hx]
  have hr3:(q.a.aR p).2≠0:=λh=>hx (xL.1 h);rw[hx2,if_pos (by simp)]at HH ⊢;refine⟨⟨⟨HH,h.V,h.N⟩,rfl⟩,.inr ⟨?_,rfl,λ_=>rfl⟩⟩;refine(En q p).resolve_left (λh0=>?_)
  rcases iC q p with ho|⟨i,g,hi,rfl,hp⟩
  .rw[eZ ho]at h0;exact hr3 h0
  .exact hr3 (h.V.ex g (aA hi) hp)
end
open Go.RowKit Go.Sort Go.Shelf
attribute [local go_sem ↓] Go.wp_at_zero Go.wp_at_succ bq
end Sh
namespace Sh
open Go.RowKit Pk Dk Pg
attribute [local go_sem ↓] Go.wp_at_zero Go.wp_at_succ
variable{w:World}{y:Y}{n K:Nat}{q:QS}
def ZTo(w w':World)(y:Y)(n:Nat)(q:QS)(K:Nat):Prop:= ∃y',y'.pb=y.pb/\y'.x.b=y.x.b/\y'.x.L=y.x.L/\ZP w' y' n q K/\ag y.fp w w'/\∀g∈y'.fp,g∈y.fp\/w.heap.size<=g
theorem NL(h:ZP w y n q K)(hK:K<=1000000000000)(v:ByteArray)(hs:v.size<=9223372036854775807):
  Calls prog 69 #[pp y.pb,.string v] w λe w'=>e=.returned (.tuple #[.int .i64 (q.bP v.data.toList).2.1,.int .i64 (q.bP v.data.toList).2.2])/\ZTo w w' y n (q.bP v.data.toList).1 (K+1):=by
 obtain⟨c,A,z⟩:=h;have zn:=z.new v.data.toList;have hp:=Nj A v hs (z.ep0 hK) (by have:=(z.calls hK).1;show c.d.calls<=_;omega) (z.calls hK).2;rw[show(q.ps c).c=c from rfl,zn.2]at hp;refine hp.mono λe w' ⟨r,y',e1,_,_,e2,e3,B',o',f'⟩=>⟨r,y',e1,e2,e3,⟨_,B',zn.1⟩,o',f'⟩
theorem JJ(h:ZP w y n q K)(hb:Fb q.l K)(p:Int):
  Calls prog 132 #[pp y.pb,.int .i64 p] w λe w'=>e=.returned (.int .i64 (q.aS p).2)/\ZP w' y n (q.aS p).1 K/\ag y.fp w w':=by
 obtain⟨c,A,z⟩:=h;have zd:=z.drop p;unfold QS.aS
 rcases gJ q.l p with e|⟨k,f,e,hf,_,_⟩
 .rw[e,if_neg (by omega)];have hd:=Nn A p e;rw[show(q.ps c).c=c from rfl,zd.2]at hd
  by_cases h0:(q.a.aS p).2=0
  .rw[if_neg (by simpa using h0),if_neg (by omega)];refine hd.mono λe w' ⟨r,A',o⟩=>⟨by rw[r,h0],⟨_,A',zd.1⟩,o⟩
  .rw[if_pos h0];refine hd.mono λe w' ⟨r,A',o⟩=>⟨r,⟨_,A',zd.1⟩,o⟩
 .rw[e,show((k:Nat):Int).toNat=k by omega,oF hf];have hm:=hb f (aA hf)
  by_cases hh:0<f.held
  .rw[if_pos ⟨by omega,hh⟩];exact(Jn A p k e hf hh).mono λe w' ⟨r,b⟩=>⟨r,⟨c,A.below b,z⟩,.ai b⟩
  .rw[if_neg (λh=>hh h.2)];have hd:=Ri A p k e hf (by omega);rw[show(q.ps c).c=c from rfl,zd.2]at hd
   by_cases h0:(q.a.aS p).2=0
   .rw[if_neg (by simpa using h0),if_pos (by omega)];rw[if_pos h0]at hd;refine hd.mono λe w' ⟨r,A',o⟩=>⟨by rw[r,h0],⟨_,A',zd.1⟩,o⟩
   .rw[if_pos h0];rw[if_neg h0]at hd;refine hd.mono λe w' ⟨r,A',o⟩=>⟨r,⟨_,A',zd.1⟩,o⟩
end Sh
namespace Sh
open Go.RowKit Pk Dk Pg
variable{w:World}{n g K K':Nat}{t:TypeId}{cs:Array Value}{y:Y}{q:QS}
theorem At.alien2{x:X}{c:C}(h:At w x n c)(B:aE w g t cs)(h1:t≠146)(h2:t≠218)(h3:t≠3)(h4:t≠149)(h5:t≠152)(h6:t≠4)(h7:t≠231):g∉x.fp:=by
 intro hg;simp only[X.fp,ar,az]at hg;have hs:∀{v:Value} {k:Nat} {l:List Value},Sl w 3 v k l->g∉dr v:=λS hg=>by
  obtain⟨cs',B'⟩:=yv S _ hg;exact B.lI B' h3 rfl
 rcases hg with rfl|rfl|rfl|((hg|hg)|hg)|hg
 .exact B.lI h.hb h1 rfl
 .exact B.lI h.hm.hb h2 rfl
 .exact B.lI h.hm.hg h3 rfl
 .simp only[Loc.fp,ar,gC,or_false]at hg
  rcases hg with rfl|rfl|rfl|rfl
  .exact B.lI h.hd.hb h4 rfl
  .exact B.lI h.hd.hN h5 rfl
  .exact B.lI h.hd.hO h5 rfl
  .exact B.lI h.hd.hL h6 rfl
 .exact hs h.ht hg
 .exact hs h.ho hg
 .exact h.hp.aU B h3 h7 hg
theorem iJ.fR{s:PS}(h:iJ w y n s)(B:aE w g t cs)(ha:t≠143)(hb:t≠167)(h1:t≠146)(h2:t≠218)(h3:t≠3)(h4:t≠149)(h5:t≠152)(h6:t≠4)(h7:t≠231):g∉y.fp:=by
 intro hg;simp only[Y.fp,ar]at hg
 rcases hg with rfl|rfl|hg
 .exact B.lI h.hp ha rfl
 .exact cC h.hf B (by exact hb) (by simp[ah])
 .exact h.hs.alien2 B h1 h2 h3 h4 h5 h6 h7 hg
theorem R5(h:ZP w y n q K)(H:Hq q n K)(hK:K<=999999999999)(p:Int):
  Calls prog 121 #[pp y.pb,.int .i64 p] w λe w'=>e=.returned (.tuple #[.string (q.dF p).2.1,.int .i64 (q.dF p).2.2])/\ZP w' y n (q.dF p).1 (K+1)/\ag y.fp w w':=by
 unfold QS.dF
 by_cases h0:(q.bg p).2.2=0
 .rw[if_neg (by simpa using h0)];exact NH h H.f hK H.full p h0
 .rw[if_pos h0];exact RI h H.f hK p h0
theorem R6(h:ZP w y n q K)(H:Hq q n K)(hK:K<=999999999999)(p:Int)(b:ByteArray):
  Calls prog 176 #[pp y.pb,.int .i64 p,.string b] w λe w'=>e=.returned (.int .i64 (q.dv p b).2)/\ZP w' y n (q.dv p b).1 (K+1)/\ag y.fp w w':=by
 unfold QS.dv
 by_cases hb:232<b.size
 .rw[if_pos hb];exact(RK p b hb).mono λe w' ⟨r,o⟩=>⟨r,(h.below o).more (by omega),.ai o⟩
 rw[if_neg hb]
 by_cases h0:(q.bg p).2.2=0
 .rw[if_neg (by simpa using h0)];have hp:=NI h H.f hK H.full p b (by omega) h0;rw[RY H p b (by omega) h0]at hp;exact hp
 .rw[if_pos h0];exact RJ h H.f hK H.full p b (by omega) h0
structure Ix where
 pb:Nat
 sb:Nat
 L:Dk.Loc
def PQ(w:World)(I:Ix)(F:List Nat)(q:QS)(n K:Nat):Prop:= ∃y,y.pb=I.pb/\y.x.b=I.sb/\y.x.L=I.L/\y.fp=F/\ZP w y n q K/\Wp q n K
def PT(w w':World)(I:Ix)(F:List Nat)(q:QS)(n K:Nat):Prop:= ∃F',PQ w' I F' q n K/\ag F w w'/\∀g∈F',g∈F\/w.heap.size<=g
section
variable{w w':World}{I:Ix}{F S:List Nat}{q:QS}{n K:Nat}
theorem PQ.wp(h:PQ w I F q n K):Wp q n K:=by
 obtain⟨y,_,_,_,_,_,W⟩:=h;exact W
theorem PQ.only(h:PQ w I F q n K)(o:ag S w w')(hd:∀g∈F,g∉S):PQ w' I F q n K:=by
 obtain⟨y,e1,e2,e3,rfl,⟨c,A,z⟩,W⟩:=h;exact⟨y,e1,e2,e3,rfl,⟨c,A.only o hd,z⟩,W⟩
theorem PQ.below(h:PQ w I F q n K)(hb:Below w.heap.size w w'):PQ w' I F q n K:=h.only (S:=[]) (.ai hb) (by simp)
theorem PQ.drew(h:PQ w I F q n K):PQ w.drew I F q n K:=h.below (Below.refl _ _).drew
theorem PQ.lt(h:PQ w I F q n K):∀g∈F,g<w.heap.size:=by
 obtain⟨y,_,_,_,rfl,⟨c,A,z⟩,_⟩:=h;exact A.lt
theorem PQ.le(h:PQ w I F q n K)(hk:K<=K'):PQ w I F q n K':=by
 obtain⟨y,e1,e2,e3,e4,⟨c,A,z⟩,W⟩:=h;exact⟨y,e1,e2,e3,e4,⟨c,A,z.more hk⟩,W.more hk⟩
theorem PQ.aU{b:Nat}(h:PQ w I F q n K)(o:ag [b] w w')(hb:b∉F):PQ w' I F q n K:=h.only o (λg hg hm=>hb (by rw[<-aP.1 hm];exact hg))
theorem PQ.fR(h:PQ w I F q n K)(B:aE w g t cs)(ha:t≠143:=by decide)(hb:t≠167:=by decide)(h1:t≠146:=by decide)(h2:t≠218:=by decide)(h3:t≠3:=by decide)(h4:t≠149:=by decide)(h5:t≠152:=by decide)(h6:t≠4:=by decide)(h7:t≠231:=by decide):g∉F:=by
 obtain⟨y,_,_,_,rfl,⟨c,A,z⟩,_⟩:=h;exact A.fR B ha hb h1 h2 h3 h4 h5 h6 h7
theorem PT.self(h:PQ w' I F q n K)(o:ag F w w'):PT w w' I F q n K:=⟨F,h,o,λ_ hg=> .inl hg⟩
theorem PT.le(h:PT w w' I F q n K)(hk:K<=K'):PT w w' I F q n K':=by
 obtain⟨F',a,b⟩:=h;exact⟨F',a.le hk,b⟩
theorem ZTo.pt{q':QS}(h:ZTo w w' y n q' K')(W:Wp q' n K'):PT w w' ⟨y.pb,y.x.b,y.x.L⟩ y.fp q' n K':=by
 obtain⟨y',e1,e2,e3,z,o,f⟩:=h;exact⟨y'.fp,⟨y',e1,e2,e3,rfl,z,W⟩,o,f⟩
theorem tJ(h:PQ w I F q n K)(hK:K<=999999999999)(p:Int):
  Calls prog 121 #[pp I.pb,.int .i64 p] w λe w'=>e=.returned (.tuple #[.string (q.dF p).2.1,.int .i64 (q.dF p).2.2])/\PQ w' I F (q.dF p).1 n (K+1)/\ag F w w':=by
 obtain⟨y,e1,e2,e3,rfl,z,W⟩:=h;have hw:=(W.get p).1.w;rw[<-e1];exact(R5 z W.H hK p).mono λe w' ⟨r,z',o⟩=>⟨r,⟨y,e1,e2,e3,rfl,z',hw⟩,o⟩
theorem R7(h:PQ w I F q n K)(hK:K<=999999999999)(p:Int)(b:ByteArray)(hb:b.size<=232):
  Calls prog 176 #[pp I.pb,.int .i64 p,.string b] w λe w'=>e=.returned (.int .i64 (q.dv p b).2)/\PQ w' I F (q.dv p b).1 n (K+1)/\ag F w w':=by
 obtain⟨y,e1,e2,e3,rfl,z,W⟩:=h;have hw:=(W.put p b hb).1.w;rw[<-e1];exact(R6 z W.H hK p b).mono λe w' ⟨r,z',o⟩=>⟨r,⟨y,e1,e2,e3,rfl,z',hw⟩,o⟩
theorem yO(h:PQ w I F q n K)(hK:K<=1000000000000)(v:ByteArray)(hv:v.size<=232):
  Calls prog 69 #[pp I.pb,.string v] w λe w'=>e=.returned (.tuple #[.int .i64 (q.bP v.data.toList).2.1,.int .i64 (q.bP v.data.toList).2.2])/\PT w w' I F (q.bP v.data.toList).1 n (K+1):=by
 obtain⟨y,e1,e2,e3,rfl,z,W⟩:=h;have hw:=(W.new v hv).1.w;obtain⟨_,_,_⟩:=I;subst e1 e2 e3;exact(NL z hK v (by omega)).mono λe w' ⟨r,t⟩=>⟨r,t.pt hw⟩
theorem qP(h:PQ w I F q n K)(p:Int):
  Calls prog 132 #[pp I.pb,.int .i64 p] w λe w'=>e=.returned (.int .i64 (q.aS p).2)/\PQ w' I F (q.aS p).1 n K/\ag F w w':=by
 obtain⟨y,e1,e2,e3,rfl,z,W⟩:=h;have hw:=(W.drop p).1.w;rw[<-e1];exact(JJ z W.H.f p).mono λe w' ⟨r,z',o⟩=>⟨r,⟨y,e1,e2,e3,rfl,z',hw⟩,o⟩
theorem yP(h:PQ w I F q n K):Calls prog 28 #[pp I.pb] w λe w'=>e=.returned (sp I.sb)/\w=w':=by
 obtain⟨y,e1,e2,e3,rfl,⟨c,A,z⟩,W⟩:=h;rw[<-e1,<-e2];exact Jk A
theorem yQ(h:PQ w I F q n K):
  Calls prog 29 #[sp I.sb] w λe w'=> ∃A cc,e=.returned (.slice A q.a.jS.length cc)/\aK w' 3 1 (.slice A q.a.jS.length cc) q.a.jS.length (gI q.a.jS)/\Below w.heap.size w w':=by
 obtain⟨y,e1,e2,e3,rfl,⟨c,A,z⟩,W⟩:=h;rw[<-e2];obtain⟨k,e⟩:=z.e;have hp:wZ c.table c.table.length=q.a.jS:=by
  rw[LD (n:=n) _ (aj _),e];have:=pad_pgs (c.cH n).now k;unfold St.jS St.pad C.cH at *;simp only[aQ,fi,fM]at *;exact this.symm
 have:=Je A.hs;rw[show(q.ps c).c=c from rfl,hp]at this;exact this
end
attribute [local go_sem ↓] Go.wp_at_zero Go.wp_at_succ
variable{w w':World}{b n K g:Nat}{F:List Nat}{c:Int}{a:ByteArray}{I:Ix}
def gU(n:Int):Int:=max ((max n 0+227) / 228) 1
def pL(n:Nat):List UInt8:=[UInt8.ofNat (n / 256),UInt8.ofNat n]
def dR(v:List UInt8)(i:Nat):List UInt8:=(v.drop (228*i)).take 228
theorem BJ(n:Int)(h:n<=1000000)(w:World):
  Calls prog 172 #[.int .i64 n] w λe w'=>e=.returned (.int .i64 (gU n))/\w=w':=by
 unfold gU;obtain⟨m,hm⟩:=dL (show 0<=max n 0 by omega);rw[hm];have Ig:m<=1000000:=by omega
 have e1:IntKind.i64.wrap ((m:Int)+228)=(m:Int)+228:=IntWalk.i64_in _ (by omega);have e2:IntKind.i64.wrap ((m:Int)+228-1)=(m:Int)+227:=by rw[show(m:Int)+228-1=(m:Int)+227 by omega];exact IntWalk.i64_in _ (by omega)
 have e3:IntKind.i64.wrap (((m:Int)+227).tdiv 228)=((m:Int)+227) / 228:=by rw[Im (by omega)];exact IntWalk.i64_in _ (by omega)
 have e4:IntKind.i64.wrap ((m:Int)+227)=(m:Int)+227:=IntWalk.i64_in _ (by omega);go_enter func172,ntmps172;go_wp2_with fail
 all_goals
  go_ret;refine⟨?_,rfl⟩
  first|(simp;done)|(simp;omega)
theorem fo(n:Nat)(h:n<=60000)(w:World):
  Calls prog 173 #[.int .i64 (n:Nat)] w λe w'=>e=.returned (.string ⟨(pL n).toArray⟩)/\Below w.heap.size w w':=by
 have O0:=xh (ae (Below.refl w.heap.size w) (.cells #[.int .u8 ((n:Int) / 256),.int .u8 ((n:Int) % 256)] 5));have B0:=aE.new w 5 #[.int .u8 ((n:Int) / 256),.int .u8 ((n:Int) % 256)];have e1:IntKind.u8.wrap ((n:Int) / 256)=(n:Int) / 256:=IntWalk.u8_in _ (by omega);have hb:dh (pL n)=[.int .u8 ((n:Int) / 256),.int .u8 ((n:Int) % 256)]:=by
  unfold pL dh bv;simp only[eh,mG,gZ];rw[show((n / 256 % 2 ^ 8:Nat):Int)=(n:Int) / 256 by omega,show((n % 2 ^ 8:Nat):Int)=(n:Int) % 256 by omega]
 have HR:=xh (bZ (P:=prog) _ 150 9 5 underlying150 underlying5 underlying9 ⟨w.heap.size,0,none⟩ 2 2 (pL n) rfl (bn (l:=dh (pL n)) (by rw[hb];exact B0) 0 _ (by simp)));clear B0 hb;go_enter func173,ntmps173;go_wp2_with fail;rw[HR.o];go_wp2_with fail;go_ret;exact aC O0.o
theorem NM{q:Nat}(v:ByteArray)(hv:v.size<=1024)(hq:w.cell? ⟨q,0,none⟩=some (.string v))(i:Nat)(hi:228*i<=v.size):
  Calls prog 171 #[.int .i64 (i:Nat),.pointer (some ⟨q,0,none⟩)] w λe w'=>e=.returned (.string ⟨(dR v.data.toList i).toArray⟩)/\w=w':=by
 have e1:IntKind.i64.wrap ((i:Int)*228)=((228*i:Nat):Int):=by rw[show(i:Int)*228=((228*i:Nat):Int) by omega];exact IntWalk.i64_in _ (by omega)
 have e2:IntKind.i64.wrap ((i:Int)+1)=(i:Int)+1:=IntWalk.i64_in _ (by omega);have e3:IntKind.i64.wrap (((i:Int)+1)*228)=((228*i+228:Nat):Int):=by rw[show((i:Int)+1)*228=((228*i+228:Nat):Int) by omega];exact IntWalk.i64_in _ (by omega)
 have HP:=xh (show ∀b:Nat,(228*i+228<=v.size->b=228*i+228)->(v.size<228*i+228->b=v.size)->v.extract (228*i) b=⟨(dR v.data.toList i).toArray⟩from λb h1 h2=>by
  apply iS;apply nh.1;show(v.extract (228*i) b).data.toList=dR v.data.toList i;rw[exl'];unfold dR
  rcases eT v.size (228*i+228)with h|h
  .rw[h2 h,bY (by simp),bY (by simp;omega)]
  .rw[h1 h,show 228*i+228-228*i=228 by omega])
 go_enter func171,ntmps171;go_wp2_with fail
 all_goals
  go_ret;exact⟨by rw[HP.o _ (by omega) (by omega)];rfl,rfl⟩
def bT(l:List UInt8)(k:Nat):Nat:=(l.getD k 0).toNat*256+(l.getD (k+1) 0).toNat
theorem or8(a b:Nat)(ha:a<256)(hb:b<256):bits .or .i64 ((a:Int)*256) (b:Int)=((a*256+b:Nat):Int):=by
 rw[bits_join .i64 32 (by decide) (λn h0 h1=>IntWalk.i64_in n (by omega)) 8 _ _ (by omega) (by omega) (by omega) (by omega) (by omega) (by omega)];omega
theorem dq(s:ByteArray)(k:Nat)(h:k<s.size):s.data.toList.getD k 0=s[k]:=by
 have h2:k<s.data.toList.length:=by simpa using h
 simp only[List.getD,aT h2,n8,Array.getElem_toList];rfl
theorem lN(o:ag (b::F) w w')(hb:w.heap.size<=b):ag F w w':=o.mono (λx hx dV=>(ar.1 hx).elim (λe=>by omega) id)
theorem lO(o:ag F w w'):ag (b::F) w w':=o.mono (λ_ hx _=>bz _ hx)
theorem lP(o:ag [b] w w'):ag (b::F) w w':=o.mono (λ_ hx _=>by rw[aP.1 hx];exact gy ..)
def QS.e9(q:QS)(l:Int):QS×Int×List UInt8×Int:=
 if(q.dF l).2.2≠0 then((q.dF l).1,0,[],(q.dF l).2.2)else if 228<bT (q.dF l).2.1.data.toList 2 then((q.dF l).1,0,[],14)else((q.dF l).1,(bT (q.dF l).2.1.data.toList 0:Int)-1,((q.dF l).2.1.data.toList.drop 4).take (bT (q.dF l).2.1.data.toList 2),0)
theorem pM{q:QS}(h:Wp q n K){p:Int}(h0:(q.dF p).2.2=0):(q.dF p).2.1.size=232:=by
 rcases(h.get p).2 with⟨h1,h2⟩|⟨h1,h2⟩|⟨h1,h2⟩
 .rw[h2];show(q.vw p).1.toArray.size=232;simpa using h.len h1
 .rw[h2]at h0;exact absurd h0 (by decide)
 .rw[h2]at h0;exact absurd h0 (by decide)
def yR(n:Int)(s:ByteArray):Value:= .agg #[.int .i64 n,.string s]
theorem yS{fn:Func}{p u:Tmp}{tmps:Array Value}(h:fn.results= #[.cell p 262,.tmp u])(hp:tmps.getD p undef=.pointer (some ⟨g,0,none⟩))(B:aE w g 262 #[.int .i64 c,.string a]):
  (results fn tmps).run prog w=.ok (.tuple #[yR c a,tmps.getD u undef]) w:=by
 have c0:=B.ab (i:=0) rfl;have c1:=B.ab (i:=1) rfl;rw[results_cell_tmp h,hp];clear h hp B;unfold yR;go_simp
theorem JK{c':Int}{a':ByteArray}(B:aE w g 262 #[.int .i64 c,.string a]):
  aE ((w.setCell ⟨g,0,none⟩ (.int .i64 c')).setCell ⟨g,1,none⟩ (.string a')) g 262 #[.int .i64 c',.string a']/\ag [g] w ((w.setCell ⟨g,0,none⟩ (.int .i64 c')).setCell ⟨g,1,none⟩ (.string a'))/\
   w.cell? ⟨g,0,none⟩=some (.int .i64 c)/\w.cell? ⟨g,1,none⟩=some (.string a)/\w.frozen? ⟨g,0,none⟩=false/\w.frozen? ⟨g,1,none⟩=false:=
 ⟨(B.bG 0 _).bG 1 _,((ag.refl _ _).setCell (by simp) _).setCell (by simp) _,B.ab rfl,B.ab rfl,B.frozen 0 (by simp),B.frozen 1 (by simp)⟩
theorem NN{q:QS}(h:PQ w I F q n K)(hK:K<=999999999999)(p:Int)(he:(q.dF p).2.2≠0):
  Calls prog 204 #[pp I.pb,.int .i64 p] w λe w'=>e=.returned (.tuple #[yR 0 ⟨#[]⟩,.int .i64 (q.dF p).2.2])/\PQ w' I F (q.dF p).1 n (K+1)/\ag F w w':=by
 have O0:=xh (ae (Below.refl w.heap.size w) (.cells #[.int .i64 0,.string ⟨#[]⟩] 262));have B0:=xh (aE.new w 262 #[.int .i64 0,.string ⟨#[]⟩]);have NQ:=xh (show w.heap.size∉F from λhm=>by have:=h.lt _ hm;omega);have KG:=xh (tJ (h.below O0.o) hK p);have hq:((q.dF p).2.2 != 0)=true:=by rw[bne_iff_ne];exact he
 have ki:((q.dF p).2.2==0)=false:=by rw[beq_eq_false_iff_ne];exact he
 generalize q.dF p=R at *;obtain⟨q1,R1,R2⟩:=R;dsimp only at *;clear h he;unfold pp at *;go_enter func204,ntmps204;go_wp2_with fail;refine KG.o.mono ?_;rintro e w1 ⟨rfl,A1,o1⟩;have A1:=xh A1;have o1:=xh o1;obtain⟨B2,o2,c0,c1,z0,z1⟩:=JK (c':=0) (a':=⟨#[]⟩) (B0.o.only o1.o NQ.o);have B2:=xh B2;have o2:=xh o2;go_wp2_with fail
 exact bodyPost_ret (yS rfl rfl B2.o) rfl ⟨rfl,(A1.o).aU o2.o NQ.o,lN (((ag.ai (S:=w.heap.size::F) O0.o).trans (lO o1.o)).trans (lP o2.o)) (aj _)⟩
theorem JL{q:QS}(h:PQ w I F q n K)(hK:K<=999999999999)(p:Int)(he:(q.dF p).2.2=0)(H2:228<bT (q.dF p).2.1.data.toList 2):
  Calls prog 204 #[pp I.pb,.int .i64 p] w λe w'=>e=.returned (.tuple #[yR 0 ⟨#[]⟩,.int .i64 14])/\PQ w' I F (q.dF p).1 n (K+1)/\ag F w w':=by
 have O0:=xh (ae (Below.refl w.heap.size w) (.cells #[.int .i64 0,.string ⟨#[]⟩] 262));have B0:=xh (aE.new w 262 #[.int .i64 0,.string ⟨#[]⟩]);have NQ:=xh (show w.heap.size∉F from λhm=>by have:=h.lt _ hm;omega);have KG:=xh (tJ (h.below O0.o) hK p);have mM:=pM h.wp he;rw[he]at KG;generalize q.dF p=R at *;obtain⟨q1,s,R2⟩:=R;dsimp only at *;have b0:=s[0].toNat_lt;have b1:=s[1].toNat_lt;have b2:=s[2].toNat_lt;have b3:=s[3].toNat_lt
 have V0:=xh (show bits .or .i64 ((s[0].toNat:Int)*256) (s[1].toNat:Int)=((bT s.data.toList 0:Nat):Int)from by
  rw[or8 _ _ (by omega) (by omega)];unfold bT;rw[dq _ _ (by omega),dq _ _ (by omega)])
 have V2:=xh (show bits .or .i64 ((s[2].toNat:Int)*256) (s[3].toNat:Int)=((bT s.data.toList 2:Nat):Int)from by
  rw[or8 _ _ (by omega) (by omega)];unfold bT;rw[dq _ _ (by omega),dq _ _ (by omega)])
 have m0:bT s.data.toList 0<=65535:=by unfold bT;rw[dq _ _ (by omega),dq _ _ (by omega)];simp only[bh];omega
 have u0:IntKind.i64.wrap (s[0].toNat:Int)=(s[0].toNat:Int):=IntWalk.i64_in _ (by omega);have u1:IntKind.i64.wrap (s[1].toNat:Int)=(s[1].toNat:Int):=IntWalk.i64_in _ (by omega);have u2:IntKind.i64.wrap (s[2].toNat:Int)=(s[2].toNat:Int):=IntWalk.i64_in _ (by omega);have u3:IntKind.i64.wrap (s[3].toNat:Int)=(s[3].toNat:Int):=IntWalk.i64_in _ (by omega);have u4:IntKind.i64.wrap ((s[0].toNat:Int)*256)=(s[0].toNat:Int)*256:=IntWalk.i64_in _ (by omega)
 have u5:IntKind.i64.wrap ((s[2].toNat:Int)*256)=(s[2].toNat:Int)*256:=IntWalk.i64_in _ (by omega);generalize bT s.data.toList 2=m2 at *;generalize bT s.data.toList 0=m1 at *;clear h he;unfold pp at *;go_enter func204,ntmps204;go_wp2_with fail;refine KG.o.mono ?_;rintro e w1 ⟨rfl,A1,o1⟩;have A1:=xh A1;have o1:=xh o1;go_wp2_with fail;go_quiet (fail);rw[V0.o,V2.o];obtain⟨B2,o2,c0,c1,z0,z1⟩:=JK (c':=0) (a':=⟨#[]⟩) ((B0.o.only o1.o NQ.o).drewN nq)
 have B2:=xh B2;have o2:=xh (((ag.refl [w.heap.size] w1).drewN nq).trans o2);go_wp2_with fail;exact bodyPost_ret (yS rfl rfl B2.o) rfl ⟨rfl,(A1.o).aU o2.o NQ.o,lN (((ag.ai (S:=w.heap.size::F) O0.o).trans (lO o1.o)).trans (lP o2.o)) (aj _)⟩
theorem R8{q:QS}(h:PQ w I F q n K)(hK:K<=999999999999)(p:Int)(he:(q.dF p).2.2=0)(H2:bT (q.dF p).2.1.data.toList 2<=228):
  Calls prog 204 #[pp I.pb,.int .i64 p] w λe w'=>e=.returned (.tuple #[yR ((bT (q.dF p).2.1.data.toList 0:Int)-1) ⟨(((q.dF p).2.1.data.toList.drop 4).take (bT (q.dF p).2.1.data.toList 2)).toArray⟩,.int .i64 0])/\PQ w' I F (q.dF p).1 n (K+1)/\ag F w w':=by
 have O0:=xh (ae (Below.refl w.heap.size w) (.cells #[.int .i64 0,.string ⟨#[]⟩] 262));have B0:=xh (aE.new w 262 #[.int .i64 0,.string ⟨#[]⟩]);have NQ:=xh (show w.heap.size∉F from λhm=>by have:=h.lt _ hm;omega);have KG:=xh (tJ (h.below O0.o) hK p);have mM:=pM h.wp he;rw[he]at KG;generalize q.dF p=R at *;obtain⟨q1,s,R2⟩:=R;dsimp only at *;have b0:=s[0].toNat_lt;have b1:=s[1].toNat_lt;have b2:=s[2].toNat_lt;have b3:=s[3].toNat_lt
 have V0:=xh (show bits .or .i64 ((s[0].toNat:Int)*256) (s[1].toNat:Int)=((bT s.data.toList 0:Nat):Int)from by
  rw[or8 _ _ (by omega) (by omega)];unfold bT;rw[dq _ _ (by omega),dq _ _ (by omega)])
 have V2:=xh (show bits .or .i64 ((s[2].toNat:Int)*256) (s[3].toNat:Int)=((bT s.data.toList 2:Nat):Int)from by
  rw[or8 _ _ (by omega) (by omega)];unfold bT;rw[dq _ _ (by omega),dq _ _ (by omega)])
 have m0:bT s.data.toList 0<=65535:=by unfold bT;rw[dq _ _ (by omega),dq _ _ (by omega)];simp only[bh];omega
 have u0:IntKind.i64.wrap (s[0].toNat:Int)=(s[0].toNat:Int):=IntWalk.i64_in _ (by omega);have u1:IntKind.i64.wrap (s[1].toNat:Int)=(s[1].toNat:Int):=IntWalk.i64_in _ (by omega);have u2:IntKind.i64.wrap (s[2].toNat:Int)=(s[2].toNat:Int):=IntWalk.i64_in _ (by omega);have u3:IntKind.i64.wrap (s[3].toNat:Int)=(s[3].toNat:Int):=IntWalk.i64_in _ (by omega);have u4:IntKind.i64.wrap ((s[0].toNat:Int)*256)=(s[0].toNat:Int)*256:=IntWalk.i64_in _ (by omega)
 have u5:IntKind.i64.wrap ((s[2].toNat:Int)*256)=(s[2].toNat:Int)*256:=IntWalk.i64_in _ (by omega);have HX:=xh (show s.extract 4 (4+bT s.data.toList 2)=⟨((s.data.toList.drop 4).take (bT s.data.toList 2)).toArray⟩from by
  apply iS;apply nh.1;show(s.extract 4 (4+bT s.data.toList 2)).data.toList=(s.data.toList.drop 4).take (bT s.data.toList 2);rw[exl',show 4+bT s.data.toList 2-4=bT s.data.toList 2 by omega])
 generalize (⟨((s.data.toList.drop 4).take (bT s.data.toList 2)).toArray⟩:ByteArray)=P at *;generalize bT s.data.toList 2=m2 at *;generalize bT s.data.toList 0=m1 at *;have u6:IntKind.i64.wrap ((m1:Int)-1)=(m1:Int)-1:=IntWalk.i64_in _ (by omega);have u7:IntKind.i64.wrap (4+(m2:Int))=4+(m2:Int):=IntWalk.i64_in _ (by omega);have u8:(4+(m2:Int)).toNat=4+m2:=by omega
 clear h he;unfold pp at *;go_enter func204,ntmps204;go_wp2_with fail;refine KG.o.mono ?_;rintro e w1 ⟨rfl,A1,o1⟩;have A1:=xh A1;have o1:=xh o1;go_wp2_with fail;go_quiet (fail);rw[V0.o,V2.o];obtain⟨B2,o2,c0,c1,z0,z1⟩:=JK (c':=(m1:Int)-1) (a':=s.extract 4 (4+m2)) ((B0.o.only o1.o NQ.o).drewN nq);have B2:=xh B2;have o2:=xh (((ag.refl [w.heap.size] w1).drewN nq).trans o2);go_wp2_with fail
 exact bodyPost_ret (yS rfl rfl B2.o) rfl ⟨by rw[HX.o];rfl,(A1.o).aU o2.o NQ.o,lN (((ag.ai (S:=w.heap.size::F) O0.o).trans (lO o1.o)).trans (lP o2.o)) (aj _)⟩
theorem NR{q:QS}(h:PQ w I F q n K)(hK:K<=999999999999)(p:Int):
  Calls prog 204 #[pp I.pb,.int .i64 p] w λe w'=>e=.returned (.tuple #[yR (q.e9 p).2.1 ⟨(q.e9 p).2.2.1.toArray⟩,.int .i64 (q.e9 p).2.2.2])/\PQ w' I F (q.e9 p).1 n (K+1)/\ag F w w':=by
 unfold QS.e9
 by_cases h0:(q.dF p).2.2=0
 .rw[if_neg (by simpa using h0)]
  by_cases h1:228<bT (q.dF p).2.1.data.toList 2
  .rw[if_pos h1];exact JL h hK p h0 h1
  .rw[if_neg h1];exact R8 h hK p h0 (by omega)
 .rw[if_pos h0];exact NN h hK p h0
attribute [local go_sem ↓] bq uA
variable{w:World}{e:TypeId}{z n:Nat}{v:Value}{l:List Value}
def QS.oX:Nat->QS->Int->List Int->List UInt8->QS×List Int×List UInt8×Int
 |0,q,_,_,_=>(q,[],[],14)
 |m+1,q,at_,l,b=>
  if(q.e9 at_).2.2.2=3/\0<l.length then((q.e9 at_).1,[],[],14)
  else if(q.e9 at_).2.2.2≠0 then((q.e9 at_).1,[],[],(q.e9 at_).2.2.2)
  else if 1024<(b++(q.e9 at_).2.2.1).length then((q.e9 at_).1,[],[],14)
  else if(q.e9 at_).2.1<0 then((q.e9 at_).1,l++[at_],b++(q.e9 at_).2.2.1,0)
  else QS.oX m (q.e9 at_).1 (q.e9 at_).2.1 (l++[at_]) (b++(q.e9 at_).2.2.1)
def QS.eE(q:QS)(first:Int):QS×List Int×List UInt8×Int:=q.oX 5 first [] []
theorem R9(q:QS)(l:Int):(q.e9 l).2.1<=65534/\ -1<=(q.e9 l).2.1/\(q.e9 l).2.2.1.length<=228:=by
 unfold QS.e9
 split
 .exact⟨by show(0:Int)<=_;omega,by show(-1:Int)<=0;omega,by show 0<=228;omega⟩
 .split
  .exact⟨by show(0:Int)<=_;omega,by show(-1:Int)<=0;omega,by show 0<=228;omega⟩
  .refine⟨?_,?_,?_⟩
   .show(bT _ 0:Int)-1<=_;unfold bT;have:=(List.getD (q.dF l).2.1.data.toList 0 0).toNat_lt;have:=(List.getD (q.dF l).2.1.data.toList (0+1) 0).toNat_lt;omega
   .show -1<=(bT _ 0:Int)-1;omega
   .rw[bK];omega
theorem xM(h:aK w e z v n l):∀g∈ah v,∃cs,aE w g e cs:=by
 rcases h.2 with⟨rfl,_⟩|⟨g,cap,rest,rfl,B,_⟩
 .simp[ah]
 .intro x hx;simp only[ah,aP]at hx;exact⟨_,by rw[hx];exact B⟩
theorem gP{t:TypeId}{y m:Nat}{u:Value}{k:List Value}(h:aK w e z v n l)(h':aK w t y u m k)(eV:e≠t):∀g∈ah v,g∉ah u:=λg hg hu=>by
 obtain⟨cs,B⟩:=xM h g hg;exact cC h' B eV hu
theorem BL{I:Ix}{F:List Nat}{q:QS}{K:Nat}(h:PQ w I F q n K)(hK:K<=999999999900)(p:Int):
  Calls prog 160 #[pp I.pb,.int .i64 p] w λe w'=> ∃A m c,e=.returned (.tuple #[.slice A m c,.string ⟨(q.eE p).2.2.1.toArray⟩,.int .i64 (q.eE p).2.2.2])/\aK w' 3 1 (.slice A m c) (q.eE p).2.1.length (gI (q.eE p).2.1)/\PQ w' I F (q.eE p).1 n (K+5)/\ag F w w'/\∀g∈ah (.slice A m c),w.heap.size<=g:=by
 have KN:=xh (BJ 1024 (by omega));rw[show gU 1024=5 from rfl]at KN;have KR:=xh (λ(W:World) (qj:QS) (kj:Nat) (hW:PQ W I F qj n kj) (hk:kj<=999999999999) (y:Int)=>NR hW hk y);have sO:=xh h.lt;obtain⟨R,hR⟩:∃R,q.eE p=R:=⟨_,rfl⟩;rw[hR];have HQ:=xh h;unfold QS.eE at hR;have HR:=xh hR;clear h hR;unfold yR at KR;unfold pp at *;go_enter func160,ntmps160;go_wp2_with fail;refine(KN.o _).mono ?_;rintro e w1 ⟨rfl,rfl⟩;go_wp2_with fail
 go_loopw [7,8,9,16] (λlv bv av iv wr=> ∃(i:Nat) (l:List Int) (b:List UInt8) (at_:Int) (qi:QS),i<=5/\l.length=i/\iv=.int .i64 i/\av=.int .i64 at_/\b.length<=1024/\aK wr 3 1 lv i (gI l)/\aK wr 5 1 bv b.length (dh b)/\Hid (qi.oX (5-i) at_ l b=R)/\Hid (PQ wr I F qi n (K+i)/\ag F w wr/\(∀g∈ah lv,w.heap.size<=g)/\(∀g∈ah bv,w.heap.size<=g))) (λ_ _ _ iv _=>5-(intOf iv).toNat)
 case atStart=>exact⟨0,[],[],p,q,by omega,rfl,rfl,rfl,by simp,aK.nil _ _ _,aK.nil _ _ _,HR,xh ⟨HQ.o,ag.refl _ _,by simp[ah],by simp[ah]⟩⟩
 case round=>
  obtain⟨i,l,b,at_,qi,hi,hl,rfl,rfl,hb,S1,S2,HW,HA⟩:=hrel;obtain⟨VA,vc,rfl⟩:=ao S1;obtain⟨VB,vb,rfl⟩:=ao S2
  by_cases h5:i<5
  .have K1:=xh (KR.o wr qi (K+i) HA.o.1 (by omega) at_);obtain⟨bd1,bd2,bd3⟩:=R9 qi at_;have HW:=HW.o;rw[show 5-i=(5-(i+1))+1 by omega]at HW;unfold QS.oX at HW;rw[hl]at HW;generalize qi.e9 at_=r at *;obtain⟨qn,nx,pc,er⟩:=r;dsimp only at *
   by_cases he:er=0
   .subst he;rw[if_neg (by omega),if_neg (by simp)]at HW;have W2:=xh (show ∀w2,PQ w2 I F qn n (K+(i+1))->ag F wr w2->PQ (w2.alloc (.cells #[.int .i64 nx,.string ⟨pc.toArray⟩] 262)) I F qn n (K+(i+1))/\ag F w (w2.alloc (.cells #[.int .i64 nx,.string ⟨pc.toArray⟩] 262))/\
      aK (w2.alloc (.cells #[.int .i64 nx,.string ⟨pc.toArray⟩] 262)) 3 1 (.slice VA i vc) i (gI l)/\aK (w2.alloc (.cells #[.int .i64 nx,.string ⟨pc.toArray⟩] 262)) 5 1 (.slice VB b.length vb) b.length (dh b)/\aE (w2.alloc (.cells #[.int .i64 nx,.string ⟨pc.toArray⟩] 262)) w2.heap.size 262 #[.int .i64 nx,.string ⟨pc.toArray⟩]/\w2.heap.size∉ah (.slice VA i vc)/\w2.heap.size∉ah (.slice VB b.length vb)from λw2 A2 o2=>by
     obtain⟨a1,a2,a3,a4⟩:=HA.o;have U:=ae (Below.refl w2.heap.size w2) (.cells #[.int .i64 nx,.string ⟨pc.toArray⟩] 262);have s1:=S1.only o2 (λg hg hF=>by have:=sO.o g hF;have:=a3 g hg;omega);have s2:=S2.only o2 (λg hg hF=>by have:=sO.o g hF;have:=a4 g hg;omega);exact⟨A2.below U,(a2.trans o2).trans (.ai U),s1.below U,s2.below U,aE.new _ _ _,λhg=>by have:=s1.lt _ hg;omega,λhg=>by have:=s2.lt _ hg;omega⟩)
    by_cases hL:1024<(b++pc).length
    .rw[if_pos hL]at HW;subst HW;rw[aQ]at hL;go_wp2_with fail;refine K1.o.mono ?_;rintro e w2 ⟨rfl,A2,o2⟩;obtain⟨A3,o3,s1,s2,LK,n1,n2⟩:=W2.o w2 A2 o2;obtain⟨v',w4,ea,S4,ow,fr⟩:=cU (P:=prog) s1 60 60 (.int .i64 0) 8 underlying60 lM rfl (.int .i64 at_) rfl (by unfold maxLen;omega) (by omega);have s4:=s2.only ow (gP s2 s1 (by decide));have L4:=LK.only ow n1
     have A4:=A3.only ow (λg hF hg=>by have:=sO.o g hF;have:=HA.o.2.2.1 g hg;omega);obtain⟨u',w5,eb,S5,ov,fv⟩:=ix (P:=prog) s4 150 9 150 underlying150 underlying9 jG.dU ⟨pc.toArray⟩ (by show _+pc.toArray.size<=_;simp;omega);have S6:=S4.only ov (λg hg=>gP S4 s4 (by decide) g hg);have L6:=L4.only ov n2;have A6:=xh (A4.only ov (λg hF hg=>by have:=sO.o g hF;have:=HA.o.2.2.2 g hg;omega));have k1:=L4.ab (i:=1) rfl
     have k0:=L6.ab (i:=0) rfl;have O6:=xh (show ag F w w5 from((o3.aN ow (λg hg dV=>by have:=HA.o.2.2.1 g hg;omega)).aN ov (λg hg dV=>by have:=HA.o.2.2.2 g hg;omega)));have F4:=xh (show ∀g∈ah v',w.heap.size<=g from λg hg=>(fr g hg).elim (HA.o.2.2.1 g) (λh=>by have:=o3.size;omega));have F5:=xh (show ∀g∈ah u',w.heap.size<=g from λg hg=>(fv g hg).elim (HA.o.2.2.2 g) (λh=>by have:=o3.size;have:=ow.size;omega))
     obtain⟨V4,c4,rfl⟩:=ao S4;rw[show(⟨pc.toArray⟩:ByteArray).size=pc.length from by show pc.toArray.size=_;simp,show(⟨pc.toArray⟩:ByteArray).data.toList=pc from rfl,<-cw]at S5;obtain⟨V5,c5,rfl⟩:=ao S5;have SV:=xh (show aK w5 5 1 (.slice V5 (b.length+pc.length) c5) (b++pc).length (dh (b++pc))from by rw[aQ];exact S5);have CV:=xh (tr (P:=prog) S5.drew 150 9 underlying150 underlying5 underlying9)
     rw[World.size_alloc]at ea;have EA:=xh ea;have EB:=xh eb;clear ea eb ow ov fr fv S4 s4 L4 A4 L6 LK A3 A2 o2 o3 s1 s2 n1 n2;go_wp2_with fail;rw[EA.o];go_wp2_with fail;rw[EB.o];go_wp2_with fail
     go_ret3
     exact⟨none,0,0,by first|rfl|simp,aK.nil _ _ _,A6.o.le (by omega),O6.o,by simp[ah]⟩
    .rw[if_neg hL]at HW;have hL2:b.length+pc.length<=1024:=by rw[aQ]at hL;omega
     by_cases hn:nx<0
     .rw[if_pos hn]at HW;subst HW;go_wp2_with fail;refine K1.o.mono ?_;rintro e w2 ⟨rfl,A2,o2⟩;obtain⟨A3,o3,s1,s2,LK,n1,n2⟩:=W2.o w2 A2 o2;obtain⟨v',w4,ea,S4,ow,fr⟩:=cU (P:=prog) s1 60 60 (.int .i64 0) 8 underlying60 lM rfl (.int .i64 at_) rfl (by unfold maxLen;omega) (by omega);have s4:=s2.only ow (gP s2 s1 (by decide));have L4:=LK.only ow n1;have A4:=A3.only ow (λg hF hg=>by have:=sO.o g hF;have:=HA.o.2.2.1 g hg;omega)
      obtain⟨u',w5,eb,S5,ov,fv⟩:=ix (P:=prog) s4 150 9 150 underlying150 underlying9 jG.dU ⟨pc.toArray⟩ (by show _+pc.toArray.size<=_;simp;omega);have S6:=S4.only ov (λg hg=>gP S4 s4 (by decide) g hg);have L6:=L4.only ov n2;have A6:=xh (A4.only ov (λg hF hg=>by have:=sO.o g hF;have:=HA.o.2.2.2 g hg;omega));have k1:=L4.ab (i:=1) rfl;have k0:=L6.ab (i:=0) rfl
      have O6:=xh (show ag F w w5 from((o3.aN ow (λg hg dV=>by have:=HA.o.2.2.1 g hg;omega)).aN ov (λg hg dV=>by have:=HA.o.2.2.2 g hg;omega)));have F4:=xh (show ∀g∈ah v',w.heap.size<=g from λg hg=>(fr g hg).elim (HA.o.2.2.1 g) (λh=>by have:=o3.size;omega));have F5:=xh (show ∀g∈ah u',w.heap.size<=g from λg hg=>(fv g hg).elim (HA.o.2.2.2 g) (λh=>by have:=o3.size;have:=ow.size;omega));obtain⟨V4,c4,rfl⟩:=ao S4
      rw[show(⟨pc.toArray⟩:ByteArray).size=pc.length from by show pc.toArray.size=_;simp,show(⟨pc.toArray⟩:ByteArray).data.toList=pc from rfl,<-cw]at S5;obtain⟨V5,c5,rfl⟩:=ao S5;have SV:=xh (show aK w5 5 1 (.slice V5 (b.length+pc.length) c5) (b++pc).length (dh (b++pc))from by rw[aQ];exact S5);have CV:=xh (tr (P:=prog) S5.drew 150 9 underlying150 underlying5 underlying9);rw[World.size_alloc]at ea;have EA:=xh ea
      have EB:=xh eb;clear ea eb ow ov fr fv S4 s4 L4 A4 L6 LK A3 A2 o2 o3 s1 s2 n1 n2;go_wp2_with fail;rw[EA.o];go_wp2_with fail;rw[EB.o];go_wp2_with fail;have CV:=CV.o
      go_region
      go_wp2_with fail
      go_ret3
      exact⟨V4,i+1,c4,by first|rfl|simp,by rw[ju];first|exact S6.drew|(rw[aQ,hl];exact S6.drew),(A6.o.below ((Below.refl _ _).drew)).le (by omega),O6.o.drew,F4.o⟩
     .rw[if_neg hn]at HW;have HW:=xh HW;go_wp2_with fail;refine K1.o.mono ?_;rintro e w2 ⟨rfl,A2,o2⟩;obtain⟨A3,o3,s1,s2,LK,n1,n2⟩:=W2.o w2 A2 o2;obtain⟨v',w4,ea,S4,ow,fr⟩:=cU (P:=prog) s1 60 60 (.int .i64 0) 8 underlying60 lM rfl (.int .i64 at_) rfl (by unfold maxLen;omega) (by omega);have s4:=s2.only ow (gP s2 s1 (by decide));have L4:=LK.only ow n1;have A4:=A3.only ow (λg hF hg=>by have:=sO.o g hF;have:=HA.o.2.2.1 g hg;omega)
      obtain⟨u',w5,eb,S5,ov,fv⟩:=ix (P:=prog) s4 150 9 150 underlying150 underlying9 jG.dU ⟨pc.toArray⟩ (by show _+pc.toArray.size<=_;simp;omega);have S6:=S4.only ov (λg hg=>gP S4 s4 (by decide) g hg);have L6:=L4.only ov n2;have A6:=xh (A4.only ov (λg hF hg=>by have:=sO.o g hF;have:=HA.o.2.2.2 g hg;omega));have k1:=L4.ab (i:=1) rfl;have k0:=L6.ab (i:=0) rfl
      have O6:=xh (show ag F w w5 from((o3.aN ow (λg hg dV=>by have:=HA.o.2.2.1 g hg;omega)).aN ov (λg hg dV=>by have:=HA.o.2.2.2 g hg;omega)));have F4:=xh (show ∀g∈ah v',w.heap.size<=g from λg hg=>(fr g hg).elim (HA.o.2.2.1 g) (λh=>by have:=o3.size;omega));have F5:=xh (show ∀g∈ah u',w.heap.size<=g from λg hg=>(fv g hg).elim (HA.o.2.2.2 g) (λh=>by have:=o3.size;have:=ow.size;omega));obtain⟨V4,c4,rfl⟩:=ao S4
      rw[show(⟨pc.toArray⟩:ByteArray).size=pc.length from by show pc.toArray.size=_;simp,show(⟨pc.toArray⟩:ByteArray).data.toList=pc from rfl,<-cw]at S5;obtain⟨V5,c5,rfl⟩:=ao S5;have SV:=xh (show aK w5 5 1 (.slice V5 (b.length+pc.length) c5) (b++pc).length (dh (b++pc))from by rw[aQ];exact S5);have CV:=xh (tr (P:=prog) S5.drew 150 9 underlying150 underlying5 underlying9);rw[World.size_alloc]at ea;have EA:=xh ea
      have EB:=xh eb;clear ea eb ow ov fr fv S4 s4 L4 A4 L6 LK A3 A2 o2 o3 s1 s2 n1 n2;go_wp2_with fail;rw[EA.o];go_wp2_with fail;rw[EB.o];go_wp2_with fail;go_roundw
      case rel=>exact⟨i+1,l++[at_],b++pc,nx,qn,by omega,by simp[hl],by go_num,rfl,by rw[aQ];exact hL2,by rw[ju];exact S6,SV.o,HW,xh ⟨A6.o,O6.o,F4.o,F5.o⟩⟩
      case measure=>simp[intOf];omega
   .have hq:(er != 0)=true:=by rw[bne_iff_ne];exact he
    have ki:(er==0)=false:=by rw[beq_eq_false_iff_ne];exact he
    have W2:=xh (show ∀w2,PQ w2 I F qn n (K+(i+1))->ag F wr w2->PQ (w2.alloc (.cells #[.int .i64 nx,.string ⟨pc.toArray⟩] 262)) I F qn n (K+(i+1))/\ag F w (w2.alloc (.cells #[.int .i64 nx,.string ⟨pc.toArray⟩] 262))from λw2 A2 o2=>by
     obtain⟨a1,a2,a3,a4⟩:=HA.o;have U:=ae (Below.refl w2.heap.size w2) (.cells #[.int .i64 nx,.string ⟨pc.toArray⟩] 262);exact⟨A2.below U,(a2.trans o2).trans (.ai U)⟩)
    by_cases h3:er=3/\0<i
    .rw[if_pos h3]at HW;subst HW;obtain⟨rfl,h3⟩:=h3;go_wp2_with fail;refine K1.o.mono ?_;rintro e w2 ⟨rfl,A2,o2⟩;obtain⟨A3,o3⟩:=W2.o w2 A2 o2;have A3:=xh A3;have o3:=xh o3;clear A2 o2;go_wp2_with fail
     go_ret3
     exact⟨none,0,0,by first|rfl|simp,aK.nil _ _ _,A3.o.le (by omega),o3.o,by simp[ah]⟩
    .rw[if_neg h3,if_pos he]at HW;subst HW;have h33:er=3->¬0<i:=λe h=>h3 ⟨e,h⟩;have hq3:i=0\/((er==3)=false/\er≠3):=by
      by_cases e:er=3
      .exact .inl (by have:=h33 e;omega)
      .exact .inr ⟨by rw[beq_eq_false_iff_ne];exact e,e⟩
     rcases hq3 with E9|⟨hq3,hq4⟩
     all_goals
      clear h33 h3;go_wp2_with fail;refine K1.o.mono ?_;rintro e w2 ⟨rfl,A2,o2⟩;obtain⟨A3,o3⟩:=W2.o w2 A2 o2;have A3:=xh A3;have o3:=xh o3;clear A2 o2;go_wp2_with fail
      all_goals
       go_ret3
       exact⟨none,0,0,by first|rfl|simp,aK.nil _ _ _,A3.o.le (by omega),o3.o,by simp[ah]⟩
  .have HW:=HW.o;rw[show 5-i=0 by omega]at HW;unfold QS.oX at HW;subst HW;go_wp2_with fail
   go_ret3
   exact⟨none,0,0,by first|rfl|simp,aK.nil _ _ _,HA.o.1.le (by omega),HA.o.2.1,by simp[ah]⟩
end Sh
namespace Sh
open Go.RowKit Pk Dk Pg
attribute [local go_sem ↓] Go.wp_at_zero Go.wp_at_succ
variable{w:World}{I:Ix}{F:List Nat}{n K:Nat}
theorem Sc{q:QS}(h:PQ w I F q n K)(hK:K<=999999999900)(p:Int):
  Calls prog 111 #[pp I.pb,.int .i64 p] w λe w'=>e=.returned (.tuple #[.string ⟨(q.eE p).2.2.1.toArray⟩,.int .i64 (q.eE p).2.2.2])/\PQ w' I F (q.eE p).1 n (K+5)/\ag F w w':=by
 have KW:=xh (BL h hK p);generalize q.eE p=R at *;clear h;unfold pp at *;go_enter func111,ntmps111;go_wp2_with fail;refine KW.o.mono ?_;rintro e w1 ⟨A,m,c,rfl,S1,A1,o1,f1⟩;have S1:=xh S1;have A1:=xh A1;have o1:=xh o1;go_wp2_with fail;go_ret2;exact aC ⟨A1.o,o1.o⟩
def QS.tK(q:QS):List Int->QS×Int
 |[]=>(q,0)
 |p::l=>if(q.aS p).2≠0 then((q.aS p).1,(q.aS p).2)else(q.aS p).1.tK l
def QS.pN(q:QS)(p:Int):QS×Int:=if(q.eE p).2.2.2≠0 then((q.eE p).1,(q.eE p).2.2.2)else(q.eE p).1.tK (q.eE p).2.1
theorem BM:∀(m:Nat) (q:QS) (p:Int) (l:List Int) (b:List UInt8),(q.oX m p l b).2.1.length<=l.length+m
 |0,_,_,_,_=>by simp[QS.oX]
 |m+1,q,p,l,b=>by
  unfold QS.oX
  split
  .simp
  .split
   .simp
   .split
    .simp
    .split
     .simp<;>omega
     .have:=BM m (q.e9 p).1 (q.e9 p).2.1 (l++[p]) (b++(q.e9 p).2.2.1);simp only[aQ,ff,kz]at this;omega
theorem NU{q:QS}(h:PQ w I F q n K)(hK:K<=999999999900)(p:Int):
  Calls prog 123 #[pp I.pb,.int .i64 p] w λe w'=>e=.returned (.int .i64 (q.pN p).2)/\PQ w' I F (q.pN p).1 n (K+5)/\ag F w w':=by
 have KW:=xh (BL h hK p);have KD:=xh (λ(W:World) (b:QS) (hW:PQ W I F b n (K+5)) (y:Int)=>qP hW y);have sO:=xh h.lt;obtain⟨R,hR⟩:∃R,q.pN p=R:=⟨_,rfl⟩;rw[hR];unfold QS.pN at hR;have hlen:(q.eE p).2.1.length<=5:=BM 5 q p [] [];generalize q.eE p=Q at *;obtain⟨q1,L,B,E⟩:=Q;dsimp only at *;clear h;unfold pp at *
 by_cases h0:E=0
 .subst h0;rw[if_neg (by simp)]at hR;have HR:=xh hR;clear hR;go_enter func123,ntmps123;go_wp2_with fail;refine KW.o.mono ?_;rintro e w1 ⟨A,m,c,rfl,S1,A1,o1,f1⟩;obtain⟨A',c',e⟩:=ao S1;injection e with e1 e2 e3
  subst e1 e2 e3;have HL:=xh S1;have H1:=xh (And.intro A1 (And.intro o1 f1));clear S1 A1 o1 f1;go_wp2_with fail
  go_loopw [23] (λiv wr=> ∃(i:Nat) (b:QS),i<=L.length/\iv=.int .i64 i/\Hid (b.tK (L.drop i)=R)/\Hid (PQ wr I F b n (K+5)/\ag F w wr/\aK wr 3 1 (.slice A L.length c) L.length (gI L))) (λiv _=>L.length-(intOf iv).toNat)
  case atStart=>exact⟨0,q1,bm _,rfl,HR,xh ⟨H1.o.1,H1.o.2.1,HL.o⟩⟩
  case round=>
   obtain⟨i,b,hi,rfl,HW,HA⟩:=hrel
   by_cases h:i<L.length
   .obtain⟨x,hx⟩:∃x,L[i]?=some x:=⟨L[i],aT h⟩;have Gb:L.drop i=x::L.drop (i+1):=by
     rw[uo h]
     congr 1
     rw[aT h]at hx;injection hx
    obtain⟨g,cp,rest,hv,BB,_⟩:∃g cp rest,(Value.slice A L.length c)= .slice (some ⟨g,0,none⟩) L.length cp/\aE wr g 3 (gI L++rest).toArray/\True:=by
     rcases HA.o.2.2.2 with⟨h1,h2⟩|⟨g,cap,rest,h1,h2,_⟩
     .omega
     .exact⟨g,cap,rest,h1,h2,trivial⟩
    injection hv with e1 e2 e3
    subst e1 e3;have cx:wr.cell? ⟨g,i,none⟩=some (.int .i64 x):=BB.ab (by
     rw[cM,bD (by simpa using h)];simp[gI,hx])
    have vZ:=HW.o;rw[Gb]at vZ;unfold QS.tK at vZ;have K2:=xh (KD.o wr b HA.o.1 x);have hiI:(i:Int)<(L.length:Int):=by omega
    have hl5:(L.length:Int)<=5:=by have:=hlen;omega
    have HFR:=xh (show ∀g'∈ah (.slice (some ⟨g,0,none⟩) L.length c),g'∉F from λg' hg hF=>by have:=H1.o.2.2 g' hg;have:=sO.o g' hF;omega);generalize b.aS x=D at *;obtain⟨D1,D2⟩:=D;dsimp only at *
    by_cases hd:D2=0
    .subst hd;rw[if_neg (by simp)]at vZ;have vZ:=xh vZ;clear BB hx Gb;go_wp2_with fail;refine K2.o.mono ?_;rintro e w2 ⟨rfl,A2,o2⟩;have H2:=xh (show PQ w2 I F D1 n (K+5)/\ag F w w2/\aK w2 3 1 (.slice (some ⟨g,0,none⟩) L.length c) L.length (gI L)from⟨A2,HA.o.2.1.trans o2,HA.o.2.2.only o2 HFR.o⟩);clear A2 o2 cx;go_wp2_with fail;go_roundw
     case rel=>exact⟨i+1,D1,by omega,by go_num,vZ,H2⟩
     case measure=>simp[intOf];omega
    .rw[if_pos hd]at vZ;subst vZ;have hq:(D2 != 0)=true:=by rw[bne_iff_ne];exact hd
     have ki:(D2==0)=false:=by rw[beq_eq_false_iff_ne];exact hd
     clear BB hx Gb;go_wp2_with fail;refine K2.o.mono ?_;rintro e w2 ⟨rfl,A2,o2⟩;have H2:=xh (show PQ w2 I F D1 n (K+5)/\ag F w w2 from⟨A2,HA.o.2.1.trans o2⟩);clear A2 o2 cx;go_wp2_with fail;go_ret;exact aC ⟨H2.o.1,H2.o.2⟩
   .have vZ:=HW.o;rw[j8 (by omega)]at vZ;unfold QS.tK at vZ;subst vZ;obtain rfl:i=L.length:=by omega
    go_wp2_with fail;go_ret;exact aC ⟨HA.o.1,HA.o.2.1⟩
 .rw[if_pos h0]at hR;subst hR;have hq:(E != 0)=true:=by rw[bne_iff_ne];exact h0
  have ki:(E==0)=false:=by rw[beq_eq_false_iff_ne];exact h0
  go_enter func123,ntmps123;go_wp2_with fail;refine KW.o.mono ?_;rintro e w1 ⟨A,m,c,rfl,S1,A1,o1,f1⟩;have H1:=xh (And.intro A1 o1);clear S1 A1 o1 f1;go_wp2_with fail;go_ret;exact aC ⟨H1.o.1,H1.o.2⟩
attribute [local go_sem ↓] bq
def jU(v:List UInt8)(i:Nat)(next:Int):List UInt8:=pL (next+1).toNat++pL (dR v i).length++dR v i
def QS.mP(q:QS):List Int->QS
 |[]=>q
 |p::l=>(q.aS p).1.mP l
theorem QS.tL(q:QS)(p:Int)(l:List Int):q.mP (p::l)=(q.aS p).1.mP l:=rfl
def QS.se(v:List UInt8):Nat->QS->Int->List Int->QS×Int×Int
 |0,q,next,_=>(q,next,0)
 |i+1,q,next,made=>
  if(q.bP (jU v i next)).2.2≠0 then((q.bP (jU v i next)).1.mP made,0,(q.bP (jU v i next)).2.2)
  else QS.se v i (q.bP (jU v i next)).1 (q.bP (jU v i next)).2.1 (made++[(q.bP (jU v i next)).2.1])
def QS.pO(q:QS)(v:List UInt8):QS×Int×Int:=if 1024<v.length then(q,0,4)else QS.se v (gU v.length).toNat q (-1) []
theorem newF_bd(a:St)(p:List UInt8):0<=(a.bP p).2.1/\(a.bP p).2.1<=511:=by
 unfold St.bP
 split
 .exact⟨by show(0:Int)<=0;omega,by show(0:Int)<=511;omega⟩
 .split
  .exact⟨by show(0:Int)<=0;omega,by show(0:Int)<=511;omega⟩
  .exact⟨by show(0:Int)<=(a.slot:Nat);omega,by show((a.slot:Nat):Int)<=511;omega⟩
theorem Sd(q:QS)(p:List UInt8):0<=(q.bP p).2.1/\(q.bP p).2.1<=511:=newF_bd q.a p
theorem Se{q:QS}(h:PQ w I F q n K)(v:ByteArray)(hv:v.size<=1024)(hK:K<=999999999900):
  Calls prog 124 #[pp I.pb,.string v] w λe w'=>e=.returned (.tuple #[.int .i64 (q.pO v.data.toList).2.1,.int .i64 (q.pO v.data.toList).2.2])/\PT w w' I F (q.pO v.data.toList).1 n (K+5):=by
 have hvl:v.data.toList.length=v.size:=by simp
 obtain⟨R,hR⟩:∃R,q.pO v.data.toList=R:=⟨_,rfl⟩;rw[hR];unfold QS.pO at hR;rw[if_neg (by omega),hvl]at hR;have hn1:1<=gU v.size/\gU v.size<=5:=by unfold gU;omega
 have Qt:228*(gU v.size-1)<=v.size:=by unfold gU;omega
 have KN:=xh (BJ (v.size:Nat) (by omega));obtain⟨m,hm⟩:=dL (show 0<=gU v.size by omega);rw[hm]at hn1 Qt KN hR;rw[show((m:Nat):Int).toNat=m by omega]at hR;have HR:=xh hR;have O0:=xh (ae (Below.refl w.heap.size w) (.cells #[.string v] 9));have B0:=xh (aE.new w 9 #[.string v]);have q0:=B0.o.ab (i:=0) rfl;have HQ:=xh (h.below O0.o);have sO:=xh h.lt
 have KNEW:=xh (λ(W:World) (F':List Nat) (b:QS) (j:Nat) (hW:PQ W I F' b n j) (s:ByteArray) (hs:s.size<=232) (hj:j<=1000000000000)=>yO hW hj s hs);have KD:=xh (λ(W:World) (F':List Nat) (b:QS) (j:Nat) (hW:PQ W I F' b n j) (y:Int)=>qP hW y);have KP:=xh (λ(W:World) (hq:W.cell? ⟨w.heap.size,0,none⟩=some (.string v)) (i:Nat) (hi:228*i<=v.size)=>NM v hv hq i hi);have KT:=xh fo;have hm1:IntKind.i64.wrap ((m:Int)-1)=(m:Int)-1:=IntWalk.i64_in _ (by omega)
 clear h hR;unfold pp at *;go_enter func124,ntmps124;go_wp2_with fail;refine(KN.o _).mono ?_;rintro e w1 ⟨rfl,rfl⟩;go_wp2_with fail
 go_loopw [7,8,9] (λmv nv iv wr=> ∃(j:Nat) (b:QS) (nx:Nat) (made:List Int) (F':List Nat),j<=m/\iv=.int .i64 ((j:Int)-1)/\nv=.int .i64 ((nx:Int)-1)/\nx<=512/\made.length=m-j/\aK wr 3 1 mv made.length (gI made)/\Hid (QS.se v.data.toList j b ((nx:Int)-1) made=R)/\
   Hid (PQ wr I F' b n (K+(m-j))/\ag F w wr/\(∀g∈F',g∈F\/w.heap.size<=g)/\(∀g∈ah mv,w.heap.size<=g/\g∉F')/\aE wr w.heap.size 9 #[.string v]/\w.heap.size∉F')) (λ_ _ iv _=>(intOf iv+1).toNat)
 case atStart=>exact⟨m,q,0,[],F,aj _,rfl,rfl,by omega,by simp,aK.nil _ _ _,HR,xh ⟨by rw[show K+(m-m)=K by omega];exact HQ.o,.ai O0.o,λg hg=> .inl hg,by simp[ah],B0.o,λhF=>by have:=sO.o _ hF;omega⟩⟩
 case round=>
  obtain⟨j,b,nx,made,F',hj,rfl,rfl,hnx,wX,S,HW,HA⟩:=hrel;obtain⟨VM,vm,rfl⟩:=ao S
  by_cases h0:0<j
  .obtain⟨i,rfl⟩:∃i,j=i+1:=⟨j-1,by omega⟩;have hz:((i+1:Nat):Int)-1=(i:Nat):=by omega
   rw[hz];have q1:=HA.o.2.2.2.2.1.ab (i:=0) rfl;have Sf:228*i<=v.size:=by omega
   have K1:=xh (KP.o wr q1 i Sf);have Dy:(dR v.data.toList i).length<=228:=by unfold dR;rw[bK];omega
   have vZ:=HW.o;unfold QS.se at vZ;have hlk:jU v.data.toList i ((nx:Int)-1)=(((⟨(pL nx).toArray⟩:ByteArray)++⟨(pL (dR v.data.toList i).length).toArray⟩)++⟨(dR v.data.toList i).toArray⟩:ByteArray).data.toList:=by
    unfold jU;rw[show((nx:Int)-1+1).toNat=nx by omega];simp
   rw[hlk]at vZ;have hps:(⟨(dR v.data.toList i).toArray⟩:ByteArray).size=(dR v.data.toList i).length:=by show(dR v.data.toList i).toArray.size=_;simp
   have hts:∀x,(⟨(pL x).toArray⟩:ByteArray).size=2:=λx=>rfl;have hss:(((⟨(pL nx).toArray⟩:ByteArray)++⟨(pL (dR v.data.toList i).length).toArray⟩)++⟨(dR v.data.toList i).toArray⟩:ByteArray).size<=232:=by
    rw[xT,xT,hts,hts,hps];omega
   have K2:=xh (KT.o nx (by omega));have K3:=xh (KT.o (dR v.data.toList i).length (by omega));have K4:=xh (λ(W:World) (hW:PQ W I F' b n (K+(m-(i+1))))=>KNEW.o W F' b _ hW _ hss (by omega));have u1:IntKind.i64.wrap (nx:Int)=(nx:Int):=IntWalk.i64_in _ (by omega);have hbd:=Sd b ((((⟨(pL nx).toArray⟩:ByteArray)++⟨(pL (dR v.data.toList i).length).toArray⟩)++⟨(dR v.data.toList i).toArray⟩:ByteArray).data.toList);have t1:=hts nx
   have t2:=hts (dR v.data.toList i).length;generalize (⟨(pL nx).toArray⟩:ByteArray)=T1 at *;generalize (⟨(pL (dR v.data.toList i).length).toArray⟩:ByteArray)=T2 at *;generalize (⟨(dR v.data.toList i).toArray⟩:ByteArray)=PC at *;have z1:¬9223372036854775807<T1.size+T2.size:=by omega
   have z2:¬9223372036854775807<(T1++T2).size+PC.size:=by rw[xT];omega
   clear hlk hts hss;generalize b.bP (T1++T2++PC).data.toList=D at *;obtain⟨D1,D2,D3⟩:=D;dsimp only at *;have HS:=xh (show ∀w4 w5 F5,Below wr.heap.size wr w4->PQ w5 I F5 D1 n (K+(m-(i+1))+1)->ag F' w4 w5->(∀g∈F5,g∈F'\/w4.heap.size<=g)->
     PQ w5 I F5 D1 n (K+(m-(i+1))+1)/\ag F w w5/\(∀g∈F5,g∈F\/w.heap.size<=g)/\aK w5 3 1 (.slice VM made.length vm) made.length (gI made)/\(∀g∈ah (.slice VM made.length vm),w.heap.size<=g/\g∉F5)/\aE w5 w.heap.size 9 #[.string v]/\w.heap.size∉F5 from λw4 w5 F5 hb A5 o5 f5=>by
    obtain⟨a1,a2,a3,a4,a5,a6⟩:=HA.o;have s4:=S.below hb;have b4:=a5.below hb a5.lt;have hw4:w.heap.size<=w4.heap.size:=ay a2.size hb.size
    refine⟨A5,(a2.trans (.ai hb)).aN o5 (λg hg dV=>(a3 g hg).elim id (λh=>by omega)),λg hg=>(f5 g hg).elim (a3 g) (λh=> .inr (by omega)),s4.only o5 (λg hg=>(a4 g hg).2),λg hg=>⟨(a4 g hg).1,λhF=>(f5 g hF).elim (a4 g hg).2 (λh=>by have:=s4.lt g hg;omega)⟩,b4.only o5 a6,λhF=>(f5 _ hF).elim a6 (λh=>by have:=b4.lt;omega)⟩)
   by_cases hd:D3=0
   .subst hd;rw[if_neg (by simp)]at vZ;obtain⟨d2,rfl⟩:=dL hbd.1;have HW3:=xh vZ;clear vZ;go_wp2_with fail;refine K1.o.mono ?_;rintro e w2 ⟨rfl,rfl⟩;go_wp2_with fail;refine(K2.o _).mono ?_;rintro e w3 ⟨rfl,cZ⟩;have H3:=xh cZ;go_wp2_with fail;refine(K3.o _).mono ?_;rintro e w4 ⟨rfl,eM⟩;have H4:=xh (au H3.o eM);clear cZ eM;go_wp2_with fail;refine(K4.o _ (HA.o.1.below H4.o)).mono ?_;rintro e w5 ⟨rfl,F5,A5,o5,f5⟩
    have H5:=xh (HS.o w4 w5 F5 H4.o A5 o5 f5);clear A5 o5 f5;obtain⟨v',w6,ea,S6,ow,fr⟩:=cU (P:=prog) H5.o.2.2.2.1 60 60 (.int .i64 0) 8 underlying60 lM rfl (.int .i64 (d2:Nat)) rfl (by unfold maxLen;omega) (by omega);obtain⟨V6,c6,rfl⟩:=ao S6
    have H6:=xh (show aK w6 3 1 (.slice V6 (made.length+1) c6) (made++[(d2:Int)]).length (gI (made++[(d2:Int)]))/\PQ w6 I F5 D1 n (K+(m-i))/\ag F w w6/\(∀g∈F5,g∈F\/w.heap.size<=g)/\(∀g∈ah (.slice V6 (made.length+1) c6),w.heap.size<=g/\g∉F5)/\aE w6 w.heap.size 9 #[.string v]/\w.heap.size∉F5 from by
     obtain⟨a1,a2,a3,a4,a5,a6,a7⟩:=H5.o;refine⟨by rw[aQ,ju];exact S6,(a1.only ow (λg hF hg=>(a5 g hg).2 hF)).le (by omega),a2.aN ow (λg hg dV=>by have:=(a5 g hg).1;omega),a3,λg hg=>?_,a6.only ow (λhg=>cC a4 a6 (by decide) hg),a7⟩
     rcases fr g hg with h|h
     .exact a5 g h
     .exact⟨by have:=a2.size;omega,λhF=>by have:=a1.lt g hF;omega⟩)
    rw[wX]at ea;have EA:=xh ea;clear ea S6 ow fr;go_wp2_with fail;rw[EA.o];go_wp2_with fail;go_roundw
    case rel=>exact⟨i,D1,d2+1,made++[(d2:Int)],F5,by omega,by go_num,by simp,by omega,by rw[aQ,wX,mE];omega,by have:=H6.o.1;rw[wX]at this;exact this,by rw[show((d2+1:Nat):Int)-1=(d2:Nat) by omega];exact HW3,xh ⟨H6.o.2.1,H6.o.2.2.1,H6.o.2.2.2.1,by have:=H6.o.2.2.2.2.1;rw[wX]at this;exact this,H6.o.2.2.2.2.2.1,H6.o.2.2.2.2.2.2⟩⟩
    case measure=>simp[intOf]<;>omega
   .rw[if_pos hd]at vZ;subst vZ;have hq:(D3 != 0)=true:=by rw[bne_iff_ne];exact hd
    have ki:(D3==0)=false:=by rw[beq_eq_false_iff_ne];exact hd
    go_wp2_with fail;refine K1.o.mono ?_;rintro e w2 ⟨rfl,rfl⟩;go_wp2_with fail;refine(K2.o _).mono ?_;rintro e w3 ⟨rfl,cZ⟩;have H3:=xh cZ;go_wp2_with fail;refine(K3.o _).mono ?_;rintro e w4 ⟨rfl,eM⟩;have H4:=xh (au H3.o eM);clear cZ eM;go_wp2_with fail;refine(K4.o _ (HA.o.1.below H4.o)).mono ?_;rintro e w5 ⟨rfl,F5,A5,o5,f5⟩;have H5:=xh (HS.o w4 w5 F5 H4.o A5 o5 f5);clear A5 o5 f5;have hml2:(made.length:Int)<=5:=by omega
    have HM:=xh wX;rw[<-wX];clear wX;go_wp2_with fail
    go_loopw [52] (λtv wq=> ∃(t:Nat) (b':QS),t<=made.length/\tv=.int .i64 t/\Hid (b'.mP (made.drop t)=D1.mP made)/\Hid (PQ wq I F5 b' n (K+(m-(i+1))+1)/\ag F w wq/\aK wq 3 1 (.slice VM made.length vm) made.length (gI made))) (λtv _=>made.length-(intOf tv).toNat)
    case atStart=>exact⟨0,D1,bm _,rfl,xh rfl,xh ⟨H5.o.1,H5.o.2.1,H5.o.2.2.2.1⟩⟩
    case round=>
     obtain⟨t,b',ht,rfl,HT,HB⟩:=hrel
     by_cases dV:t<made.length
     .obtain⟨x,hx⟩:∃x,made[t]?=some x:=⟨made[t],aT dV⟩;have Gb:made.drop t=x::made.drop (t+1):=by
       rw[uo dV]
       congr 1
       rw[aT dV]at hx;injection hx
      obtain⟨g,cp,rest,PW,BB,_⟩:∃g cp rest,(Value.slice VM made.length vm)= .slice (some ⟨g,0,none⟩) made.length cp/\aE wr g 3 (gI made++rest).toArray/\True:=by
       rcases HB.o.2.2.2 with⟨h1,h2⟩|⟨g,cap,rest,h1,h2,_⟩
       .omega
       .exact⟨g,cap,rest,h1,h2,trivial⟩
      injection PW with e1 e2 e3
      subst e1 e3;have cx:wr.cell? ⟨g,t,none⟩=some (.int .i64 x):=BB.ab (by
       rw[cM,bD (by simpa using dV)];simp[gI,hx])
      have HT2:=HT.o;rw[Gb,QS.tL]at HT2;have HT3:=xh HT2;have K6:=xh (KD.o wr F5 b' _ HB.o.1 x);have htI:(t:Int)<(made.length:Int):=by omega
      clear BB hx Gb HT2;go_wp2_with fail;refine K6.o.mono ?_;rintro e w7 ⟨rfl,A7,o7⟩;have H7:=xh (show PQ w7 I F5 (b'.aS x).1 n (K+(m-(i+1))+1)/\ag F w w7/\aK w7 3 1 (.slice (some ⟨g,0,none⟩) made.length vm) made.length (gI made)from⟨A7,HB.o.2.1.aN o7 (λg hg dV=>(H5.o.2.2.1 g hg).elim id (λh=>by omega)),HB.o.2.2.only o7 (λg' hg=>(H5.o.2.2.2.2.1 g' hg).2)⟩);clear A7 o7 cx;go_wp2_with fail;go_roundw
      case rel=>exact⟨t+1,(b'.aS x).1,by omega,by go_num,HT3,H7⟩
      case measure=>simp[intOf];omega
     .have HT2:=HT.o;rw[j8 (by omega)]at HT2;have HT2:b'=D1.mP made:=HT2;subst HT2;obtain rfl:t=made.length:=by omega
      go_wp2_with fail;go_ret2;exact aC ⟨F5,HB.o.1.le (by omega),HB.o.2.1,H5.o.2.2.1⟩
  .obtain rfl:j=0:=by omega
   have vZ:=HW.o;unfold QS.se at vZ;subst vZ;go_wp2_with fail;go_ret2;exact aC ⟨F',HA.o.1.le (by omega),HA.o.2.1,HA.o.2.2.1⟩
end Sh
namespace Sl
open Go.RowKit
def fA(n:Nat):List UInt8:=[UInt8.ofNat (n / 256),UInt8.ofNat n]
def bT(b:List UInt8)(k:Nat):Nat:=(b.getD k 0).toNat*256+(b.getD (k+1) 0).toNat
abbrev Slot:=Nat×Nat
def slot(b:List UInt8)(i:Nat):Slot:=(bT b (4+4*i),bT b (6+4*i))
def bE(b:List UInt8):List Slot:=(List.range (bT b 0)).map (slot b)
def apart(x y:Slot):Bool:=decide (x.2=0) || (decide (y.2=0) || (decide (x.1+x.2<=y.1) || decide (y.1+y.2<=x.1)))
structure Fit(heap:Nat)(l:List Slot):Prop where
 pw:∀x∈l,heap<=x.1/\x.1+x.2<=232
 apart:l.Pairwise λx y=>Sl.apart x y=true
structure Sound(b:List UInt8):Prop where
 len:b.length=232
 heap:bT b 2<=232
 head:4+4*bT b 0<=bT b 2
 fit:Fit (bT b 2) (bE b)
def uP(l:List Slot):Nat:=(l.map Prod.snd).sum
def k9(b:List UInt8)(x:Slot):List UInt8:=(b.drop x.1).take x.2
def cI(b:List UInt8):List (List UInt8):=(bE b).map (k9 b)
theorem yT(b:List UInt8)(k:Nat):bT b k<65536:=by
 have h1:=(b.getD k 0).toNat_lt;have h2:=(b.getD (k+1) 0).toNat_lt;unfold bT;omega
theorem cJ(b:List UInt8):(bE b).length=bT b 0:=by simp[bE]
theorem BO(b:List UInt8)(i:Nat)(h:i<bT b 0):(bE b)[i]?=some (slot b i):=by simp[bE,h]
theorem oG(x y:Slot):apart x y=apart y x:=by
 unfold apart
 cases h1:decide (x.2=0)<;>cases h2:decide (y.2=0)<;>cases h3:decide (x.1+x.2<=y.1)<;>cases h4:decide (y.1+y.2<=x.1)<;>rfl
theorem qQ(x y:Slot):apart x y=true↔x.2=0\/y.2=0\/x.1+x.2<=y.1\/y.1+y.2<=x.1:=by simp[apart]
theorem Sg(x y:Slot):apart x y=false↔ ∃k,(x.1<=k/\k<x.1+x.2)/\(y.1<=k/\k<y.1+y.2):=by
 constructor
 .intro h;have:¬(x.2=0\/y.2=0\/x.1+x.2<=y.1\/y.1+y.2<=x.1):=by rw[<-qQ];simp[h]
  refine⟨max x.1 y.1,⟨by omega,by omega⟩,⟨by omega,by omega⟩⟩
 .rintro⟨k,h1,h2⟩
  cases h:apart x y
  .rfl
  .rw[qQ]at h;omega
def yU(l:List Slot)(x:Slot):Bool:=l.all λy=>apart x y
def Si(heap:Nat):List Slot->List Slot->Bool
 |_,[]=>true
 |p,x::l=>decide (heap<=x.1) && (decide (x.1+x.2<=232) && (yU p x && Si heap (p++[x]) l))
def JM(b:List UInt8):Bool:=decide (b.length=232) && (decide (bT b 2<=232) && (decide (4+4*bT b 0<=bT b 2) && Si (bT b 2) [] (bE b)))
theorem Fit.snoc{heap:Nat}{p:List Slot}{x:Slot}:Fit heap (p++[x])↔Fit heap p/\(heap<=x.1/\x.1+x.2<=232)/\∀y∈p,Sl.apart x y=true:=by
 constructor
 .rintro⟨h1,h2⟩;rw[dI]at h2;exact⟨⟨λy hy=>h1 y (by simp[hy]),h2.1⟩,h1 x (by simp),λy hy=>by rw[oG];exact h2.2.2 y hy x (by simp)⟩
 .rintro⟨⟨h1,h2⟩,h3,h4⟩;refine⟨λy hy=>?_,?_⟩
  .rcases az.1 hy with h|h
   .exact h1 y h
   .simp at h;subst h;exact h3
  .rw[dI];exact⟨h2,by simp,λy hy z hz=>by simp at hz;subst hz;rw[oG];exact h4 y hy⟩
theorem Fit.nil(heap:Nat):Fit heap []:=⟨λx h=>by simp at h,by simp⟩
theorem Sj(heap:Nat)(l:List Slot):∀p:List Slot,Fit heap p->(Si heap p l=true↔Fit heap (p++l)):=by
 induction l with
 |nil=>intro p h;simp[Si,h]
 |cons x l ih=>
  intro p h;have key:(heap<=x.1/\x.1+x.2<=232/\yU p x=true)↔Fit heap (p++[x]):=by
   rw[Fit.snoc];simp only[yU,nV];exact⟨λ⟨h1,h2,h3⟩=>⟨h,⟨h1,h2⟩,h3⟩,λ⟨_,⟨h1,h2⟩,h3⟩=>⟨h1,h2,h3⟩⟩
  simp only[Si,gH,decide_eq_true_eq]
  constructor
  .rintro⟨h1,h2,h3,h4⟩;have hf:=key.1 ⟨h1,h2,h3⟩;have:=(ih _ hf).1 h4;simpa using this
  .intro hf;have hp:Fit heap (p++[x]):=by
    refine⟨λy hy=>hf.pw y (by simp at hy ⊢;rcases hy with h|h<;>simp[h]),?_⟩;have:=hf.apart;rw[show p++x::l=(p++[x])++l by simp,dI]at this;exact this.1
   obtain⟨h1,h2,h3⟩:=key.2 hp;exact⟨h1,h2,h3,(ih _ hp).2 (by simpa using hf)⟩
theorem sg(b:List UInt8):JM b=true↔Sound b:=by
 have h:=Sj (bT b 2) (bE b) [] (Fit.nil _);rw[cX]at h;simp only[JM,gH,decide_eq_true_eq,h];exact⟨λ⟨h1,h2,h3,h4⟩=>⟨h1,h2,h3,h4⟩,λh=>⟨h.len,h.heap,h.head,h.fit⟩⟩
def bX(b:List UInt8):Int:=if b.length=232 then(if JM b then 0 else 14)else 6
theorem eu(b:List UInt8):bX b=0↔Sound b:=by
 rw[<-sg];unfold bX
 constructor
 .intro h
  split at h
  .split at h
   .assumption
   .cases h
  .cases h
 .intro h;have:=((sg b).1 h).len;rw[if_pos this,if_pos h]
def ic(b:List UInt8):Int:=228-((((bE b).map λx=>4+x.2).sum:Nat):Int)
def cover(l:List Slot)(k:Nat):Bool:=l.any λx=>decide (x.1<=k) && decide (k<x.1+x.2)
theorem count_range(a n m:Nat)(h:a+n<=m):((List.range m).countP λk=>decide (a<=k) && decide (k<a+n))=n:=by
 induction m generalizing n with
 |zero=>
  have:n=0:=by omega
  subst this;simp
 |succ m ih=>
  rw[Dl,xU]
  rcases eT (a+n) (m+1)with h1|h1
  .rw[ih n (by omega)];simp;omega
  .obtain rfl|hn:n=0\/0<n:=Dn n
   .have:(List.range m).countP (λk=>decide (a<=k) && decide (k<a+0))=0:=by
     rw[List.countP_eq_zero];intro k _;simp<;>omega
    rw[this];simp<;>omega
   .have e:(List.range m).countP (λk=>decide (a<=k) && decide (k<a+n))=(List.range m).countP (λk=>decide (a<=k) && decide (k<a+(n-1))):=by
     apply rM;intro k hk;have:=kA.1 hk;simp;omega
    rw[e,ih (n-1) (by omega)];simp;have:a<=m/\m<a+n:=by omega
    simp[this];omega
theorem Gc(l:List Slot)(heap:Nat)(h:Fit heap l):(List.range 232).countP (cover l)=uP l:=by
 induction l with
 |nil=>simp[cover,uP]
 |cons x l ih=>
  have hx:=h.pw x (by simp);have hp:=dJ.1 h.apart;have ht:Fit heap l:=⟨λy hy=>h.pw y (by simp[hy]),hp.2⟩;have e:(List.range 232).countP (cover (x::l))=(List.range 232).countP (λk=>decide (x.1<=k) && decide (k<x.1+x.2))+(List.range 232).countP (cover l):=by
   generalize List.range 232=r
   induction r with
   |nil=>rfl
   |cons k r ihr=>
    simp only[List.countP_cons,ihr];have hdis:¬((x.1<=k/\k<x.1+x.2)/\cover l k=true):=by
     rintro⟨h1,h2⟩;simp only[cover,List.any_eq_true,gH,decide_eq_true_eq]at h2;obtain⟨y,hy,h3⟩:=h2;have hn:=(Sg x y).2 ⟨k,h1,h3⟩;rw[hp.1 y hy]at hn;cases hn
    have ec:cover (x::l) k=((decide (x.1<=k) && decide (k<x.1+x.2)) || cover l k):=rfl;rw[ec]
    cases h1:(decide (x.1<=k) && decide (k<x.1+x.2))<;>cases h2:cover l k
    .simp
    .simp;omega
    .simp;omega
    .exfalso;apply hdis;simp at h1;exact⟨h1,h2⟩
  rw[e,count_range _ _ _ hx.2,ih ht];simp[uP]
theorem BR(l:List Slot)(heap:Nat)(h:Fit heap l)(hh:heap<=232):uP l<=232-heap:=by
 rw[<-Gc l heap h];have e:(List.range 232).countP (cover l)<=(List.range 232).countP (λk=>decide (heap<=k) && decide (k<heap+(232-heap))):=by
  apply List.countP_mono_left;intro k hk hc;simp only[cover,List.any_eq_true,gH,decide_eq_true_eq]at hc;obtain⟨y,hy,h3⟩:=hc;have:=h.pw y hy;have:=kA.1 hk;simp;omega
 have:=count_range heap (232-heap) 232 (by omega);omega
variable{F c b:List UInt8}{o:Nat}
def lay(F:List UInt8)(o:Nat)(c:List UInt8):List UInt8:=F.take o++c++F.drop (o+c.length)
theorem iz(h:o+c.length<=F.length):(lay F o c).length=F.length:=by
 simp[lay];omega
theorem tw(F:List UInt8)(o:Nat)(c:List UInt8):putAt (dh F) o (dh c)=dh (lay F o c):=by
 simp[putAt,lay,dh]
theorem ou(h:o+c.length<=F.length)(j:Nat):(lay F o c)[j]?=if o<=j/\j<o+c.length then c[j-o]? else F[j]?:=by
 unfold lay
 by_cases h1:j<o
 .rw[if_neg (by omega),cL,bD (by simp;omega),uv h1]
 .have e:(F.take o).length=o:=by simp;omega
  by_cases h2:j<o+c.length
  .rw[if_pos ⟨by omega,h2⟩,cL,dE (by omega),e,bD (by omega)]
  .rw[if_neg (by omega),dE (by simp;omega),iT]
   congr 1
   simp;omega
def l9(b:List UInt8)(k n:Nat):List UInt8:=(b.set k (UInt8.ofNat (n / 256))).set (k+1) (UInt8.ofNat n)
theorem eC(b:List UInt8)(k n:Nat):(l9 b k n).length=b.length:=by simp[l9]
theorem nA(b:List UInt8)(k n j:Nat)(h:j<k\/k+1<j):(l9 b k n)[j]?=b[j]?:=by
 unfold l9;rw[gx (by omega),gx (by omega)]
theorem at2_eq{k:Nat}(h0:b[k]?=c[k]?)(h1:b[k+1]?=c[k+1]?):bT b k=bT c k:=by
 simp only[bT,List.getD,h0,h1]
theorem eO(b:List UInt8)(k n j:Nat)(h:j+1<k\/k+1<j):bT (l9 b k n) j=bT b j:=
 at2_eq (nA b k n j (by omega)) (nA b k n (j+1) (by omega))
theorem tM(b:List UInt8)(k n:Nat)(h:k+1<b.length)(hn:n<65536):bT (l9 b k n) k=n:=by
 have e0:(l9 b k n)[k]?=some (UInt8.ofNat (n / 256)):=by
  unfold l9;rw[gx (by omega),dM (by omega)]
 have e1:(l9 b k n)[k+1]?=some (UInt8.ofNat n):=by
  unfold l9;rw[dM (by simpa using h)]
 simp only[bT,List.getD,e0,e1,n8,gZ];omega
def gD(b:List UInt8)(l:List Slot)(heap:Nat):Nat->List UInt8
 |0=>l9 (l9 b 0 l.length) 2 heap
 |i+1=>l9 (l9 (gD b l heap i) (4+4*i) (l.getD i (0,0)).1) (6+4*i) (l.getD i (0,0)).2
def j7(b:List UInt8)(l:List Slot)(heap:Nat):List UInt8:=gD b l heap l.length
theorem kI(b:List UInt8)(l:List Slot)(heap:Nat):∀i,(gD b l heap i).length=b.length
 |0=>by simp[gD,eC]
 |i+1=>by rw[gD,eC,eC];exact kI b l heap i
theorem yV(b:List UInt8)(l:List Slot)(heap:Nat)(j:Nat):∀i,4+4*i<=j->(gD b l heap i)[j]?=b[j]?
 |0,h=>by rw[gD,nA _ _ _ _ (by omega),nA _ _ _ _ (by omega)]
 |i+1,h=>by rw[gD,nA _ _ _ _ (by omega),nA _ _ _ _ (by omega)];exact yV b l heap j i (by omega)
theorem qR(b:List UInt8)(l:List Slot)(heap:Nat)(hb:b.length=232)(hh:heap<65536)(hl:l.length<65536)(hx:∀x∈l,x.1<65536/\x.2<65536):
  ∀i,i<=l.length->4+4*i<=232->bT (gD b l heap i) 0=l.length/\bT (gD b l heap i) 2=heap/\∀k,k<i->slot (gD b l heap i) k=l.getD k (0,0)
 |0,_,_=>by
  rw[gD];refine⟨?_,?_,λk hk=>absurd hk (by omega)⟩
  .rw[eO _ _ _ _ (by omega),tM _ _ _ (by omega) hl]
  .rw[tM _ _ _ (by rw[eC];omega) hh]
 |i+1,hi,h4=>by
  obtain⟨h0,h2,hs⟩:=qR b l heap hb hh hl hx i (by omega) (by omega);have hlen:=kI b l heap i;rw[gD];refine⟨?_,?_,λk hk=>?_⟩
  .rw[eO _ _ _ _ (by omega),eO _ _ _ _ (by omega)];exact h0
  .rw[eO _ _ _ _ (by omega),eO _ _ _ _ (by omega)];exact h2
  .unfold slot
   by_cases e:k=i
   .subst e;have hm:l.getD k (0,0)∈l:=by
     rw[List.getD,aT (by omega)];exact j9 _
    have:=hx _ hm;rw[eO _ _ _ _ (by omega),tM _ _ _ (by omega) this.1,tM _ _ _ (by rw[eC];omega) this.2]
   .rw[eO _ _ _ _ (by omega),eO _ _ _ _ (by omega),eO _ _ _ _ (by omega),eO _ _ _ _ (by omega)];exact hs k (by omega)
section
variable{b:List UInt8}{l:List Slot}{heap:Nat}
structure Laid(b:List UInt8)(l:List Slot)(heap:Nat):Prop where
 len:b.length=232
 hh:heap<=232
 head:4+4*l.length<=heap
 fit:Fit heap l
theorem Laid.small(h:Laid b l heap):∀x∈l,x.1<65536/\x.2<65536:=λx hx=>by
 have:=(h.fit.pw x hx).2;omega
theorem Laid.n0(h:Laid b l heap):bT (j7 b l heap) 0=l.length:=(qR b l heap h.len (by have:=h.hh;omega) (by have:=h.head;have:=h.hh;omega) h.small l.length (aj _) (by have:=h.head;have:=h.hh;omega)).1
theorem Laid.n2(h:Laid b l heap):bT (j7 b l heap) 2=heap:=(qR b l heap h.len (by have:=h.hh;omega) (by have:=h.head;have:=h.hh;omega) h.small l.length (aj _) (by have:=h.head;have:=h.hh;omega)).2.1
theorem Laid.sl(h:Laid b l heap):bE (j7 b l heap)=l:=by
 have hs:=(qR b l heap h.len (by have:=h.hh;omega) (by have:=h.head;have:=h.hh;omega) h.small l.length (aj _) (by have:=h.head;have:=h.hh;omega)).2.2;apply xZ
 .rw[cJ,h.n0]
 .intro i h1 h2;have:(bE (j7 b l heap))[i]=slot (j7 b l heap) i:=by simp[bE]
  rw[this,show slot (j7 b l heap) i=l.getD i (0,0)from hs i h2];simp[List.getD,aT h2]
theorem Laid.length(h:Laid b l heap):(j7 b l heap).length=232:=(kI b l heap l.length).trans h.len
theorem Laid.sound(h:Laid b l heap):Sound (j7 b l heap):=
 ⟨h.length,by rw[h.n2];exact h.hh,by rw[h.n2,h.n0];exact h.head,by rw[h.n2,h.sl];exact h.fit⟩
theorem Laid.rc(h:Laid b l heap):∀x∈l,k9 (j7 b l heap) x=k9 b x:=by
 intro x hx;have h1:=(h.fit.pw x hx).1;unfold k9
 congr 1
 apply l5;intro j;rw[iT,iT];exact yV b l heap _ _ (by have:=h.head;omega)
theorem Laid.rcs(h:Laid b l heap):cI (j7 b l heap)=l.map (k9 b):=by
 unfold cI;rw[h.sl];exact iK h.rc
theorem Gd(h:o+c.length<=F.length)(x:Slot)(hx:x.1+x.2<=o\/o+c.length<=x.1):k9 (lay F o c) x=k9 F x:=by
 unfold k9;apply l5;intro j
 by_cases hj:j<x.2
 .rw[uv hj,uv hj,iT,iT,ou h,if_neg (by omega)]
 .rw[gw (by simp;omega),gw (by simp;omega)]
theorem BU(h:o+c.length<=F.length):k9 (lay F o c) (o,c.length)=c:=by
 unfold k9;apply l5;intro j
 by_cases hj:j<c.length
 .rw[uv hj,iT,ou h,if_pos ⟨by omega,by omega⟩]
  congr 1;omega
 .rw[gw (by simp;omega),gw (by omega)]
end
structure ru where
 o:List UInt8
 to:List Slot
 heap:Nat
def BV:ru:=⟨List.replicate 232 0,[],232⟩
def ru.add(c:ru)(r:List UInt8):ru:=⟨lay c.o (c.heap-r.length) r,c.to++[(c.heap-r.length,r.length)],c.heap-r.length⟩
def rE(l:List (List UInt8)):ru:=l.foldl ru.add BV
structure ru.Ok(c:ru)(l:List (List UInt8)):Prop where
 len:c.o.length=232
 heap:c.heap+(l.map List.length).sum=232
 fit:Fit c.heap c.to
 cI:c.to.map (k9 c.o)=l
theorem Sk:BV.Ok []:=⟨fi,rfl,Fit.nil _,rfl⟩
theorem Fit.mono{heap heap':Nat}{l:List Slot}(h:Fit heap l)(hh:heap'<=heap):Fit heap' l:=⟨λx hx=>⟨ay hh (h.pw x hx).1,(h.pw x hx).2⟩,h.apart⟩
theorem ru.Ok.add{c:ru}{l:List (List UInt8)}(h:c.Ok l)(r:List UInt8)(hr:r.length<=c.heap):(c.add r).Ok (l++[r]):=by
 have h1:=h.heap;have h2:=h.len;refine⟨by show(lay _ _ _).length=232;rw[iz (by omega)];exact h.len,by show c.heap-r.length+_=232;simp;omega,?_,?_⟩
 .show Fit (c.heap-r.length) (c.to++[(c.heap-r.length,r.length)]);rw[Fit.snoc];refine⟨h.fit.mono (Nat.sub_le _ _),⟨aj _,by show c.heap-r.length+r.length<=232;omega⟩,λy hy=>?_⟩;have:=(h.fit.pw y hy).1;rw[qQ];exact .inr (.inr (.inl (by show c.heap-r.length+r.length<=y.1;omega)))
 .show(c.to++[(c.heap-r.length,r.length)]).map (k9 (lay c.o (c.heap-r.length) r))=l++[r];rw[cW,<-h.cI]
  congr 1
  .apply iK;intro y hy;have:=(h.fit.pw y hy).1;exact Gd (by omega) y (.inr (by omega))
  .simp only[eh,mG];rw[BU (by omega)]
theorem yW(l:List (List UInt8))(h:(l.map List.length).sum<=232):(rE l).Ok l:=by
 have key:∀(l m:List (List UInt8)) (c:ru),c.Ok m->((m++l).map List.length).sum<=232->(l.foldl ru.add c).Ok (m++l):=by
  intro l
  induction l with
  |nil=>intro m c h _;simpa using h
  |cons r l ih=>
   intro m c h hs;have h1:=h.heap;have:=ih (m++[r]) (c.add r) (h.add r (by simp at hs h1;omega)) (by simpa using hs);simpa using this
 have:=key l [] BV Sk (by simpa using h);rw[cX]at this;exact this
def gm(b:List UInt8):List UInt8:=j7 (rE (cI b)).o (rE (cI b)).to (rE (cI b)).heap
theorem we{x:Slot}(h:x.1+x.2<=b.length):(k9 b x).length=x.2:=by
 simp[k9];omega
theorem Sound.lens(h:Sound b):((cI b).map List.length)=(bE b).map Prod.snd:=by
 unfold cI;rw[jf];apply iK;intro x hx;exact we (by rw[h.len];exact(h.fit.pw x hx).2)
theorem Sound.sum(h:Sound b):((cI b).map List.length).sum<=232-bT b 2:=by
 rw[h.lens];exact BR _ _ h.fit h.heap
theorem ru.Ok.Sm{c:ru}{l:List (List UInt8)}(h:c.Ok l):c.to.length=l.length:=by rw[<-h.cI,fM]
theorem cE(b:List UInt8):(cI b).length=bT b 0:=by simp[cI,cJ]
theorem Sound.comp(h:Sound b):Laid (rE (cI b)).o (rE (cI b)).to (rE (cI b)).heap:=by
 have hs:=h.sum;have hh:=h.heap;have h4:=h.head;have hc:=yW (cI b) (by omega);have h1:=hc.heap;have h2:=hc.Sm;rw[cE]at h2;exact⟨hc.len,by omega,by omega,hc.fit⟩
theorem Sound.compact(h:Sound b):Sound (gm b)/\cI (gm b)=cI b/\bT (gm b) 2+((cI b).map List.length).sum=232/\bE (gm b)=(rE (cI b)).to:=by
 have hs:=h.sum;have hh:=h.heap;have hc:=yW (cI b) (by omega);have L:=h.comp;exact⟨L.sound,L.rcs.trans hc.cI,by unfold gm;rw[L.n2];exact hc.heap,L.sl⟩
theorem yX(h:Sound b):ic b=228-4*(bT b 0:Int)-(((cI b).map List.length).sum:Nat):=by
 rw[h.lens];have e:∀l:List Slot,(l.map λx=>4+x.2).sum=4*l.length+(l.map Prod.snd).sum:=by
  intro l
  induction l with
  |nil=>rfl
  |cons x l ih=>simp only[eh,kC,ih,ff];omega
 unfold ic;rw[e,cJ];omega
def iZ(l:List (List UInt8)):Int:=228-((l.map λr=>4+r.length).sum:Nat)
theorem LG(h:Sound b):ic b=iZ (cI b):=by
 rw[yX h];have e:∀l:List (List UInt8),(l.map λr=>4+r.length).sum=4*l.length+(l.map List.length).sum:=by
  intro l
  induction l with
  |nil=>rfl
  |cons x l ih=>simp only[eh,kC,ih,ff];omega
 unfold iZ;rw[e,cE];omega
def jy(b r:List UInt8):List UInt8:=if 4+4*(bT b 0+1)+r.length>bT b 2 then gm b else b
def sj(b:List UInt8)(i:Nat)(r:List UInt8):List UInt8:=
 j7 (lay (jy b r) (bT (jy b r) 2-r.length) r) ((bE (jy b r)).take i++(bT (jy b r) 2-r.length,r.length)::(bE (jy b r)).drop i) (bT (jy b r) 2-r.length)
theorem Sound.base(h:Sound b)(r:List UInt8)(hr:(r.length:Int)<=ic b-4):Sound (jy b r)/\cI (jy b r)=cI b/\bT (jy b r) 0=bT b 0/\4+4*(bT b 0+1)+r.length<=bT (jy b r) 2:=by
 unfold jy
 split
 .obtain⟨h1,h2,h3,_⟩:=h.compact;have e0:bT (gm b) 0=bT b 0:=by rw[<-cE,<-cE,h2]
  rw[yX h]at hr;exact⟨h1,h2,e0,by omega⟩
 .exact⟨h,rfl,rfl,by omega⟩
theorem Laid.insert(h:Sound b)(i:Nat)(r:List UInt8)(hr:4+4*(bT b 0+1)+r.length<=bT b 2)(hi:i<=bT b 0):
  Laid (lay b (bT b 2-r.length) r) ((bE b).take i++(bT b 2-r.length,r.length)::(bE b).drop i) (bT b 2-r.length):=by
 have h1:=h.heap;have h2:=h.len;have hl:=cJ b;refine⟨by rw[iz (by omega)];exact h2,by omega,by simp[hl];omega,?_,?_⟩
 .intro x hx;have hx:x∈(bE b).take i\/x=(bT b 2-r.length,r.length)\/x∈(bE b).drop i:=by simpa using hx
  rcases hx with hx|rfl|hx
  .have:=h.fit.pw x (sV hx);omega
  .exact⟨aj _,by show bT b 2-r.length+r.length<=232;omega⟩
  .have:=h.fit.pw x (sS hx);omega
 .have hp:=h.fit.apart;rw[<-mI i (bE b),dI]at hp;rw[dI,dJ];have hz:∀y∈bE b,apart (bT b 2-r.length,r.length) y=true:=by
   intro y hy;have:=(h.fit.pw y hy).1;rw[qQ];exact .inr (.inr (.inl (by show bT b 2-r.length+r.length<=y.1;omega)))
  refine⟨hp.1,⟨λy hy=>hz y (sS hy),hp.2.1⟩,λx hx y hy=>?_⟩
  rcases ar.1 hy with rfl|hy
  .rw[oG];exact hz x (sV hx)
  .exact hp.2.2 x hx y hy
theorem Sound.insert(h:Sound b)(i:Nat)(r:List UInt8)(hr:(r.length:Int)<=ic b-4)(hi:i<=bT b 0):
  Sound (sj b i r)/\cI (sj b i r)=(cI b).take i++r::(cI b).drop i:=by
 obtain⟨hs,he,h0,hh⟩:=h.base r hr;rw[<-h0]at hi hh;have L:=Laid.insert hs i r hh hi;refine⟨L.sound,?_⟩;have h2:=hs.len;have h3:=hs.heap;have key:∀x∈bE (jy b r),k9 (lay (jy b r) (bT (jy b r) 2-r.length) r) x=k9 (jy b r) x:=by
  intro x hx;have:=(hs.fit.pw x hx).1;exact Gd (by omega) x (.inr (by omega))
 unfold sj;rw[L.rcs,cW,eh,BU (by omega),<-he];unfold cI;rw[iK (λx hx=>key x (sV hx)),iK (λx hx=>key x (sS hx)),mH,List.map_drop]
def ld:List UInt8:=l9 (List.replicate 232 0) 2 232
theorem pP:Sound ld/\cI ld=[]/\bT ld 0=0/\bT ld 2=232:=by
 have e0:bT ld 0=0:=by decide
 have e2:bT ld 2=232:=by decide
 have es:bE ld=[]:=by unfold bE;rw[e0];rfl
 exact⟨⟨by unfold ld;rw[eC,fi],by omega,by omega,by rw[es];exact Fit.nil _⟩,by unfold cI;rw[es];rfl,e0,e2⟩
end Sl
end Go.Proofs.YtmonobkginiajaaGreat
