/- packed. -/
import Derived.Test.YtmonobkginiajaaGreatC10
import Derived.Test.YtmonobkginiajaaGreatC7
import Derived.Shelf.Sort.Plain
import Derived.Shelf.Slices.In.SortNone
import Derived.Sort.OwnSortedInts
set_option linter.all false
set_option maxRecDepth 100000
set_option maxHeartbeats 8000000
namespace Go.Proofs.YtmonobkginiajaaGreat.Sh
open Go.RowKit Pk Dk Pg
variable{a:St}{l l':List Fr}{k:Nat}{f:Fr}{j:Int}
theorem mc{l:Int}(h:(a.at l).isSome=true):0<=l/\l.toNat<a.now.length:=by
 unfold St.at at h
 by_cases h0:0<=l
 .rw[if_pos h0]at h;refine⟨h0,?_⟩
  by_cases hl:l.toNat<a.now.length
  .exact hl
  .rw[fo (by omega)]at h
   cases h
 .rw[if_neg h0]at h;cases h
theorem rk{l:Int}:(a.aA l).2=0↔(a.at l).isSome=true:=by
 unfold St.aA
 cases h:a.at l with
 |none=>simp
 |some u=>simp
theorem kP{l:Int}{p:List UInt8}(h:(a.ar l p).2=0)(j:Int):(a.ar l p).1.aA j=if j=l then(dh p 232,0)else a.aA j:=by
 unfold St.ar at h ⊢
 by_cases h1:232<p.length
 .rw[if_pos h1]at h;exact absurd h (by show(4:Int)≠0;decide)
 rw[if_neg h1]at h ⊢
 by_cases h2:¬(a.at l).isSome=true
 .rw[if_pos h2]at h;exact absurd h (by show(3:Int)≠0;decide)
 rw[if_neg h2]at h ⊢
 by_cases h3:ed (a.at l)=false/\a.free=0
 .rw[if_pos h3]at h;exact absurd h (by show(11:Int)≠0;decide)
 rw[if_neg h3];obtain⟨l0,l1⟩:=mc (Classical.not_not.1 h2);have hat:St.at {a with now:=a.now.set l.toNat (some (true,dh p 232))} j=if j=l then some (true,dh p 232)else a.at j:=by
  unfold St.at
  by_cases hj:j=l
  .subst hj;rw[if_pos l0,if_pos rfl];show((a.now.set j.toNat _)[j.toNat]?).getD none=_;rw[cD l1];rfl
  .rw[if_neg hj]
   by_cases h0:0<=j
   .rw[if_pos h0,if_pos h0];show((a.now.set l.toNat _)[j.toNat]?).getD none=_;rw[eL (by omega)]
   .rw[if_neg h0,if_neg h0]
 show St.aA {a with now:=a.now.set l.toNat (some (true,dh p 232))} j=_;unfold St.aA;rw[hat]
 by_cases hj:j=l
 .rw[if_pos hj,if_pos hj]
 .rw[if_neg hj,if_neg hj]
def QS.vw(q:QS)(j:Int):List UInt8×Int:=if 0<=findF q.l j then((ia q.l (findF q.l j).toNat).eC.data.toList,0)else q.a.aA j
structure Vi(q:QS):Prop where
 un:∀(i j:Nat) (f h:Fr),q.l[i]?=some f->q.l[j]?=some h->f.an=h.an->0<=f.an->i=j
 cl:∀f∈q.l,0<=f.an->f.bT=false->q.a.aA f.an=(f.eC.data.toList,0)
 ex:∀f∈q.l,0<=f.an->(q.a.aA f.an).2=0
 em:∀f∈q.l,f.an<0->f.bT=false
 fl:∀f∈q.l,0<=f.an->f.eC.size=232
theorem wU(hf:l[k]?=some f)(h0:0<=f.an)(un:∀(j:Nat) (h:Fr),l[j]?=some h->h.an=f.an->j=k):findF l f.an=k:=by
 unfold findF;rw[if_neg (by omega)];exact rh hf (by simp) (λj a hj hja=>by
  simp only[decide_eq_false_iff_not];intro e;have:=un j a hja e;omega)
theorem Ho(h:j<0\/∀f∈l,f.an≠j):findF l j= -1:=by
 unfold findF
 by_cases h0:j<0
 .rw[if_pos h0]
 .rw[if_neg h0];exact rZ (λi a hi=>by
   simp only[decide_eq_false_iff_not];exact h.resolve_left h0 a (az hi))
theorem dH{q:QS}(h:j<0\/∀f∈q.l,f.an≠j):q.vw j=q.a.aA j:=by
 unfold QS.vw;rw[Ho h,if_neg (by omega)]
theorem Vi.gr{q:QS}(V:Vi q)(hf:q.l[k]?=some f)(h0:0<=f.an):q.vw f.an=(f.eC.data.toList,0):=by
 unfold QS.vw;rw[wU hf h0 (λj h hj e=>V.un j k h f hj hf e (by omega)),if_pos (by omega),show((k:Nat):Int).toNat=k by omega,kS hf]
theorem fD(q:QS)(j:Int):(j<0\/∀f∈q.l,f.an≠j)\/∃(k:Nat) (f:Fr),q.l[k]?=some f/\f.an=j/\0<=j:=by
 by_cases h0:j<0
 .exact .inl (.inl h0)
 by_cases h:∃f∈q.l,f.an=j
 .obtain⟨f,hf,e⟩:=h;obtain⟨k,hk⟩:=zZ.1 hf;exact .inr ⟨k,f,hk,e,by omega⟩
 .exact .inl (.inr (λf hf e=>h ⟨f,hf,e⟩))
def pd(f:Fr):Int×ByteArray×Bool:=(f.an,f.eC,f.bT)
theorem wV(e:l'.map pd=l.map pd)(hf:l[k]?=some f):∃f',l'[k]?=some f'/\f'.an=f.an/\f'.eC=f.eC/\f'.bT=f.bT:=by
 have:(l'.map pd)[k]?=(l.map pd)[k]?:=by rw[e]
 rw[ij,ij,hf]at this
 cases h':l'[k]? with
 |none=>rw[h']at this;cases this
 |some f'=>
  rw[h']at this;have:pd f'=pd f:=by simpa using this
  exact⟨f',rfl,congrArg Prod.fst this,congrArg (λx=>x.2.1) this,congrArg (λx=>x.2.2) this⟩
theorem su(e:l'.map pd=l.map pd)(hf:f∈l):∃f'∈l',f'.an=f.an/\f'.eC=f.eC/\f'.bT=f.bT:=by
 obtain⟨k,hk⟩:=zZ.1 hf;obtain⟨f',h1,h2⟩:=wV e hk;exact⟨f',az h1,h2⟩
theorem Vi.pd{q q':QS}(V:Vi q)(ea:q'.a=q.a)(e:q'.l.map Sh.pd=q.l.map Sh.pd):Vi q'/\∀j,q'.vw j=q.vw j:=by
 have V':Vi q':=by
  refine⟨λi j f h hf hh ep h0=>?_,λf hf h0 hd=>?_,λf hf h0=>?_,λf hf h0=>?_,λf hf h0=>?_⟩
  .obtain⟨f',a1,a2,_⟩:=wV e.symm hf;obtain⟨h',b1,b2,_⟩:=wV e.symm hh;exact V.un i j f' h' a1 b1 (by omega) (by omega)
  .obtain⟨f',a1,a2,a3,a4⟩:=su e.symm hf;rw[ea,<-a2,<-a3];exact V.cl f' a1 (by omega) (by rw[a4];exact hd)
  .obtain⟨f',a1,a2,_⟩:=su e.symm hf;rw[ea,<-a2];exact V.ex f' a1 (by omega)
  .obtain⟨f',a1,a2,_,a4⟩:=su e.symm hf;rw[<-a4];exact V.em f' a1 (by omega)
  .obtain⟨f',a1,a2,a3,_⟩:=su e.symm hf;rw[<-a3];exact V.fl f' a1 (by omega)
 refine⟨V',λj=>?_⟩
 rcases fD q j with h|⟨k,f,hf,rfl,h0⟩
 .rw[dH h,dH (h.imp id (λh f hf=>by
   obtain⟨f',a1,a2,_⟩:=su e.symm hf;rw[<-a2];exact h f' a1)),ea]
 .obtain⟨f',a1,a2,a3,_⟩:=wV e hf;rw[V.gr hf h0,<-a2,V'.gr a1 (by omega),a3]
theorem mem_set{g:Fr}(h:f∈l.set k g):f=g\/∃i,i≠k/\l[i]?=some f:=by
 obtain⟨i,hi⟩:=zZ.1 h
 by_cases zG:i=k
 .subst zG;rw[fq]at hi
  split at hi
  .split at hi
   .injection hi with hi;exact .inl hi.symm
   .cases hi
  .rename_i h;exact absurd rfl h
 .rw[eL (by omega)]at hi;exact .inr ⟨i,zG,hi⟩
theorem nY{b:ByteArray}(h:b.size=232):dh b.data.toList 232=b.data.toList:=by
 have hl:b.data.toList.length=b.size:=by simp
 unfold dh;rw[hl,h];simp
theorem Vi.wrote{q:QS}(V:Vi q)(hf:q.l[k]?=some f)(h0:0<=f.an)(hw:(q.a.ar f.an f.eC.data.toList).2=0):
  Vi {q with a:=(q.a.ar f.an f.eC.data.toList).1,l:=q.l.set k {f with bT:=false}}/\∀j,QS.vw {q with a:=(q.a.ar f.an f.eC.data.toList).1,l:=q.l.set k {f with bT:=false}} j=q.vw j:=by
 have hr:=kP hw;have hp:=nY (V.fl f (az hf) h0);have hk:=(aR.1 hf).1;have ne:∀(i:Nat) (h:Fr),i≠k->q.l[i]?=some h->h.an≠f.an:=λi h hi hh e=>hi (V.un i k h f hh hf e (by omega));have V':Vi {q with a:=(q.a.ar f.an f.eC.data.toList).1,l:=q.l.set k {f with bT:=false}}:=by
  refine⟨λi j g h hg hh ep FE=>?_,λg hg FE hd=>?_,λg hg FE=>?_,λg hg FE=>?_,λg hg FE=>?_⟩
  .have gt:∀(i:Nat) (g:Fr),(q.l.set k {f with bT:=false})[i]?=some g->∃g',q.l[i]?=some g'/\g'.an=g.an:=λi g hg=>by
    by_cases zG:i=k
    .subst zG;rw[cD hk]at hg;injection hg with hg
     exact⟨f,hf,by rw[<-hg]⟩
    .rw[eL (by omega)]at hg;exact⟨g,hg,rfl⟩
   obtain⟨g',a1,a2⟩:=gt i g hg;obtain⟨h',b1,b2⟩:=gt j h hh;exact V.un i j g' h' a1 b1 (by omega) (by omega)
  .show(q.a.ar f.an f.eC.data.toList).1.aA g.an=_
   rcases mem_set hg with rfl|⟨i,hi,Hp⟩
   .rw[hr,if_pos rfl,hp]
   .rw[hr,if_neg (ne i g hi Hp)];exact V.cl g (az Hp) FE hd
  .show((q.a.ar f.an f.eC.data.toList).1.aA g.an).2=0
   rcases mem_set hg with rfl|⟨i,hi,Hp⟩
   .rw[hr,if_pos rfl]
   .rw[hr,if_neg (ne i g hi Hp)];exact V.ex g (az Hp) FE
  .rcases mem_set hg with rfl|⟨i,hi,Hp⟩
   .rfl
   .exact V.em g (az Hp) FE
  .rcases mem_set hg with rfl|⟨i,hi,Hp⟩
   .exact V.fl f (az hf) h0
   .exact V.fl g (az Hp) FE
 refine⟨V',λj=>?_⟩
 rcases fD q j with h|⟨i,g,hg,rfl,FE⟩
 .rw[dH h,dH (h.imp id (λh g hg=>by
   rcases mem_set hg with rfl|⟨i,hi,Hp⟩
   .exact h f (az hf)
   .exact h g (az Hp)))]
  show(q.a.ar f.an f.eC.data.toList).1.aA j=_;rw[hr,if_neg];intro e
  rcases h with h|h
  .omega
  .exact h f (az hf) e.symm
 .rw[V.gr hg FE]
  by_cases zG:i=k
  .subst zG;have:g=f:=by rw[hg]at hf;injection hf
   subst this;exact V'.gr (k:=i) (f:={g with bT:=false}) (by show(q.l.set i _)[i]?=_;rw[cD hk]) FE
  .exact V'.gr (k:=i) (f:=g) (by show(q.l.set k _)[i]?=_;rw[eL (by omega)];exact hg) FE
theorem Vi.swap{q:QS}(V:Vi q)(hf:q.l[k]?=some f)(hd:f.bT=false)(g:Fr)(hg:g=Fr.nil\/(0<=g.an/\g.bT=false/\(∀h∈q.l,h.an≠g.an)/\q.a.aA g.an=(g.eC.data.toList,0)/\g.eC.size=232)):
  Vi {q with l:=q.l.set k g}/\∀j,QS.vw {q with l:=q.l.set k g} j=q.vw j:=by
 have hk:=(aR.1 hf).1;have hgp:g.an<0\/0<=g.an:=by omega
 have gn:g.an<0->g=Fr.nil:=λh=>hg.resolve_right (λh'=>by omega);have gp:0<=g.an->g.bT=false/\(∀h∈q.l,h.an≠g.an)/\q.a.aA g.an=(g.eC.data.toList,0)/\g.eC.size=232:=λh=>by
  rcases hg with rfl|hg
  .exact absurd h (by decide)
  .exact hg.2
 have V':Vi {q with l:=q.l.set k g}:=by
  refine⟨λi j f1 h1 m5 hh1 ep h0=>?_,λf1 m5 h0 hd1=>?_,λf1 m5 h0=>?_,λf1 m5 h0=>?_,λf1 m5 h0=>?_⟩
  .have gt:∀(i:Nat) (x:Fr),(q.l.set k g)[i]?=some x->(i=k/\x=g)\/(i≠k/\q.l[i]?=some x):=λi x hx=>by
    by_cases zG:i=k
    .subst zG;rw[cD hk]at hx;injection hx with hx
     exact .inl ⟨rfl,hx.symm⟩
    .rw[eL (by omega)]at hx;exact .inr ⟨zG,hx⟩
   rcases gt i f1 m5 with⟨rfl,rfl⟩|⟨hi,kF⟩
   .rcases gt j h1 hh1 with⟨rfl,rfl⟩|⟨hj,hj'⟩
    .rfl
    .exact absurd ep.symm ((gp h0).2.1 h1 (az hj'))
   .rcases gt j h1 hh1 with⟨rfl,rfl⟩|⟨hj,hj'⟩
    .exact absurd ep ((gp (by omega)).2.1 f1 (az kF))
    .exact V.un i j f1 h1 kF hj' ep h0
  .rcases mem_set m5 with rfl|⟨i,hi,kF⟩
   .exact(gp h0).2.2.1
   .exact V.cl f1 (az kF) h0 hd1
  .show(q.a.aA f1.an).2=0
   rcases mem_set m5 with rfl|⟨i,hi,kF⟩
   .rw[(gp h0).2.2.1]
   .exact V.ex f1 (az kF) h0
  .rcases mem_set m5 with rfl|⟨i,hi,kF⟩
   .rw[gn h0];rfl
   .exact V.em f1 (az kF) h0
  .rcases mem_set m5 with rfl|⟨i,hi,kF⟩
   .exact(gp h0).2.2.2
   .exact V.fl f1 (az kF) h0
 refine⟨V',λj=>?_⟩
 by_cases hjg:0<=g.an/\g.an=j
 .obtain⟨h0,rfl⟩:=hjg;rw[V'.gr (k:=k) (f:=g) (by show(q.l.set k g)[k]?=_;rw[cD hk]) h0,dH (.inr (gp h0).2.1)];exact(gp h0).2.2.1.symm
 rcases fD q j with h|⟨i,f1,m5,rfl,h0⟩
 .rw[dH h,dH (q:={q with l:=q.l.set k g})]
  by_cases hj:j<0
  .exact .inl hj
  .refine .inr (λf1 m5=>?_)
   rcases mem_set m5 with rfl|⟨i,hi,kF⟩
   .intro e;exact hjg ⟨by omega,e⟩
   .exact h.resolve_left hj f1 (az kF)
 .rw[V.gr m5 h0]
  by_cases zG:i=k
  .subst zG;have:f1=f:=by rw[m5]at hf;injection hf
   subst this;rw[dH (q:={q with l:=q.l.set i g}) (.inr (λx hx=>by
    rcases mem_set hx with rfl|⟨i',hi,kF⟩
    .intro e;exact hjg ⟨by omega,e⟩
    .intro e;exact hi (V.un i' i x f1 kF m5 e (by omega))))]
   exact V.cl f1 (az m5) h0 hd
  .exact V'.gr (k:=i) (f:=f1) (by show(q.l.set k g)[i]?=_;rw[eL (by omega)];exact m5) h0
variable{l l':List Fr}{p j:Int}{n K k:Nat}{a:St}{f:Fr}
theorem Hr(m:Nat)(s:QS):s.gC (m+1)=if 0<(ia s.l s.hand).held then s.turn.gC m else if(ia s.l s.hand).used=true then QS.gC m {s.turn with l:=s.l.set s.hand {ia s.l s.hand with used:=false}}else(s.turn,(s.hand:Int)):=rfl
theorem sw(h:findF l p= -1)(h0:0<=p):∀f∈l,f.an≠p:=by
 intro f hf e;unfold findF at h;rw[if_neg (by omega)]at h;unfold xW at h
 split at h
 .omega
 .rename_i hn;exact hn (List.findIdx_lt_length.2 ⟨f,hf,by simpa using e⟩)
theorem Hs{q:QS}(H:Hq q n K)(p:Int)(b:ByteArray)(hb:b.size<=232)(h0:(q.aK p).2.2=0):((q.aK p).1.dX p b).2=0:=by
 have key:∀(q':QS) (k:Nat) (f:Fr),findF q'.l p=k->q'.l[k]?=some f->f.held≠0->(q'.dX p b).2=0:=λq' k f e hf hn=>by
  unfold QS.dX QS.fe;rw[if_neg (by omega),e,if_neg (by omega),show((k:Nat):Int).toNat=k by omega,hf];dsimp only;rw[if_neg hn]
 have hit:∀(l:List Fr) (k:Nat) (f:Fr),l[k]?=some f->f.an=p->0<=p->(∀(j:Nat) (a:Fr),j<k->l[j]?=some a->a.an≠p)->findF l p=k:=λl k f hf e h0 ha=>by
  unfold findF;rw[if_neg (by omega)];exact rh hf (by simpa using e) (λj a hj hja=>by simpa using ha j a hj hja)
 unfold QS.aK at h0 ⊢
 rcases eR q.l p with e|⟨k,f,e,hk,he,hp⟩
 .rw[e,if_neg (by omega)]at h0 ⊢
  by_cases hr:(q.a.aA p).2≠0
  .rw[if_pos hr]at h0;exact absurd h0 hr
  rw[if_neg hr]at h0 ⊢;have hp:0<=p:=by
   by_cases hp:0<=p
   .exact hp
   .exfalso;apply hr;unfold St.aA St.at;rw[if_neg hp];decide
  obtain⟨v1,v3⟩:=H.Hl;have va:=fS q
  by_cases hv:q.ay.2<0
  .rw[if_pos hv]at h0;exact absurd h0 (by show(12:Int)≠0;decide)
  rw[if_neg hv]at h0 ⊢
  rcases v3 with v3|⟨k,v3,kQ⟩
  .omega
  rw[v3,show((k:Nat):Int).toNat=k by omega]at h0 ⊢
  by_cases bK:(q.ay.1.bG k).2≠0
  .rw[if_pos bK]at h0;exact absurd h0 bK
  rw[if_neg bK];have Gx:∀f∈q.l,f.an≠p:=sw e hp;have gP:(q.ay.1.bG k).1.l.map Fr.an=q.l.map Fr.an:=by
   have sp:∀(m:Nat) (s:QS),s.hand<s.l.length->(s.gC m).1.l.map Fr.an=s.l.map Fr.an:=by
    intro m
    induction m with
    |zero=>intro s _;rfl
    |succ m ih=>
     intro s hs;rw[Hr];have ht:s.turn.hand<s.turn.l.length:=lX _ (by show 0<s.l.length;omega)
     split
     .exact ih s.turn ht
     .split
      .have hx:=ih {s.turn with l:=s.l.set s.hand {ia s.l s.hand with used:=false}} (by show s.turn.hand<(s.l.set _ _).length;rw[bH];exact ht);rw[hx];show(s.l.set s.hand _).map Fr.an=_;rw[oU];apply jZ;intro i;rw[fq]
       split
       .rename_i hi;subst hi;rw[if_pos (by simpa using hs),ij,jS hs];rfl
       .rfl
      .rfl
   have bp:(q.ay.1.bG k).1.l.map Fr.an=q.ay.1.l.map Fr.an:=by
    have hkv:k<q.ay.1.l.length:=by omega
    unfold QS.bG
    split
    .split
     .show(q.ay.1.l.set k _).map Fr.an=_;rw[oU];apply jZ;intro i;rw[fq]
      split
      .rename_i hi;subst hi;rw[if_pos (by simpa using hkv),ij,jS hkv];rfl
      .rfl
     .rfl
    .rfl
   rw[bp];unfold QS.ay
   split
   .rfl
   .exact sp _ q H.lh
  have Bi:=(Bj (k:=k) v1.f (by omega)).2;refine key _ k ⟨p,⟨(q.a.aA p).1.toArray⟩,1,false,true⟩ (hit _ k ⟨p,⟨(q.a.aA p).1.toArray⟩,1,false,true⟩ (by rw[cD (by omega)]) rfl hp (λj a hj hja=>?_)) (by rw[cD (by omega)]) (by show(1:Int)≠0;decide);rw[eL (by omega)]at hja;have hm:a.an∈q.l.map Fr.an:=by rw[<-gP];exact vK (az hja)
  obtain⟨f',hf',e'⟩:=eo.1 hm;rw[<-e'];exact Gx f' hf'
 .rw[e,if_pos (by omega),show((k:Nat):Int).toNat=k by omega,kS hk];have kQ:k<q.l.length:=(aR.1 hk).1;have hfb:=H.f f (az hk);refine key _ k {f with held:=f.held+1,used:=true} (hit _ k {f with held:=f.held+1,used:=true} (by rw[cD kQ]) he hp (λj a hj hja=>?_)) (by rw[cD kQ]) (by show f.held+1≠0;omega);rw[eL (by omega)]at hja;intro ea;have:findF q.l p=j\/findF q.l p<k:=by
   right;unfold findF;rw[if_neg (by omega)];unfold xW;have hj2:=(aR.1 hja);obtain⟨hjl,hje⟩:=hj2;have hle:q.l.findIdx (λf=>decide (f.an=p))<=j:=by
    by_cases h:q.l.findIdx (λf=>decide (f.an=p))<=j
    .exact h
    .have:=vN (p:=λf=>decide (f.an=p)) (xs:=q.l) (i:=j) (by omega);rw[hje]at this;simp[ea]at this
   rw[if_pos (by omega)];omega
  omega
def Bm(f:Fr):Int×ByteArray×Bool×Int:=(f.an,f.eC,f.bT,f.held)
theorem pdh_pd(e:l'.map Bm=l.map Bm):l'.map Sh.pd=l.map Sh.pd:=by
 have h:∀l:List Fr,l.map Sh.pd=(l.map Bm).map (λx=>(x.1,x.2.1,x.2.2.1)):=λl=>by rw[oT];rfl
 rw[h,h,e]
theorem yk(e:l'.map Bm=l.map Bm)(h:∀f∈l,f.held=0):∀f∈l',f.held=0:=λf hf=>by
 have:Bm f∈l.map Bm:=by rw[<-e];exact vK hf
 obtain⟨f',h1,h2⟩:=eo.1 this;have h3:f'.held=f.held:=congrArg (λx=>x.2.2.2) h2;rw[<-h3];exact h f' h1
theorem Bn(s:QS)(hl:s.hand<s.l.length)(hh:∀f∈s.l,f.held=0):∀m,s.l.countP Fr.used<m->∃k:Nat,(s.gC m).2=k/\k<s.l.length/\(s.gC m).1.l.map Bm=s.l.map Bm:=by
 intro m
 induction m generalizing s with
 |zero=>intro h;omega
 |succ m ih=>
  intro hm;have hf:=jS hl;have h0:=hh _ (az hf);have ht:(s.hand+1) % s.l.length<s.l.length:=lX _ (by omega);rw[Hr,if_neg (by omega)]
  by_cases hu:(ia s.l s.hand).used=true
  .rw[if_pos hu];have wy:(s.l.set s.hand {ia s.l s.hand with used:=false}).map Bm=s.l.map Bm:=gQ s.l Bm s.hand hf rfl;have hlen:(s.l.set s.hand {ia s.l s.hand with used:=false}).length=s.l.length:=bH ..;have hc:(s.l.set s.hand {ia s.l s.hand with used:=false}).countP Fr.used<s.l.countP Fr.used:=by
    rw[List.countP_set hl];have e:s.l[s.hand]=ia s.l s.hand:=by unfold ia;rw[aN hl];rfl
    have hp:0<s.l.countP Fr.used:=List.countP_pos_iff.2 ⟨_,ik hl,by rw[e];exact hu⟩;rw[e];simp[hu];omega
   obtain⟨k,h1,h2,h3⟩:=ih {s.turn with l:=s.l.set s.hand {ia s.l s.hand with used:=false}} (by rw[hlen];exact ht)
    (λf DU=>(qP DU).elim (hh f) (λe=>by rw[e];exact h0)) (by show List.countP _ (s.l.set _ _)<m;omega)
   rw[hlen]at h2;exact⟨k,h1,h2,h3.trans wy⟩
  .rw[if_neg hu];exact⟨s.hand,rfl,hl,rfl⟩
theorem wW(s:QS)(hl:s.hand<s.l.length)(hh:∀f∈s.l,f.held=0):∃k:Nat,s.ay.2=k/\k<s.l.length/\s.ay.1.l.map Bm=s.l.map Bm:=by
 unfold QS.ay
 rcases wG (λf=>decide (f.an<0)) s.l with e|⟨k,f,e,hf,_⟩
 .rw[e,if_neg (by omega)];exact Bn s hl hh _ (by have:=List.countP_le_length (p:=Fr.used) (l:=s.l);omega)
 .rw[e,if_pos (by omega)];exact⟨k,rfl,(aR.1 hf).1,rfl⟩
theorem Zc.len{c:C}(z:Zc c n a K){l:Int}(h:(a.aA l).2=0):(a.aA l).1.length=232:=by
 have hr:=z.read l;rw[pB z.g]at hr;rw[<-hr]at h ⊢;exact xZ z.g h
theorem ba_eta(b:ByteArray):(⟨b.data.toList.toArray⟩:ByteArray)=b:=by simp
theorem yl{q:QS}(V:Vi q)(hf:q.l[k]?=some f)(he:f.an=p)(h0:0<=p)(h1:f.held=1)(hN:∀(i:Nat) (h:Fr),i≠k->q.l[i]?=some h->h.held=0):
  (q.fm p).1.a=q.a/\Vi (q.fm p).1/\(∀j,(q.fm p).1.vw j=q.vw j)/\∀f∈(q.fm p).1.l,f.held=0:=by
 have kQ:=(aR.1 hf).1;have e:findF q.l p=k:=by rw[<-he];exact wU hf (by omega) (λj h hj ej=>V.un j k h f hj hf ej (by omega))
 have hE:(q.fm p).1={q with l:=q.l.set k {f with held:=f.held-1}}:=by
  unfold QS.fm QS.fe;rw[e,if_neg (by omega),show((k:Nat):Int).toNat=k by omega,hf];dsimp only;rw[if_neg (by omega)]
 rw[hE];obtain⟨V1,w1⟩:=V.pd (q':={q with l:=q.l.set k {f with held:=f.held-1}}) rfl (gQ q.l Sh.pd k hf rfl);refine⟨rfl,V1,w1,λg hg=>?_⟩
 rcases mem_set hg with rfl|⟨i,hi,kF⟩
 .show f.held-1=0;omega
 .exact hN i g hi kF
theorem Vi.setp{q:QS}(V:Vi q)(hf:q.l[k]?=some f)(h0:0<=f.an)(g:Fr)(ep:g.an=f.an)(hd:g.bT=true)(hs:g.eC.size=232):
  Vi {q with l:=q.l.set k g}/\∀j,QS.vw {q with l:=q.l.set k g} j=if j=f.an then(g.eC.data.toList,0)else q.vw j:=by
 have hk:=(aR.1 hf).1;have gt:∀(i:Nat) (x:Fr),(q.l.set k g)[i]?=some x->∃x',q.l[i]?=some x'/\x'.an=x.an:=λi x hx=>by
  by_cases zG:i=k
  .subst zG;rw[cD hk]at hx;injection hx with hx
   exact⟨f,hf,by rw[<-hx,ep]⟩
  .rw[eL (by omega)]at hx;exact⟨x,hx,rfl⟩
 have V':Vi {q with l:=q.l.set k g}:=by
  refine⟨λi j f1 h1 m5 hh1 e1 Ht=>?_,λf1 m5 Ht hd1=>?_,λf1 m5 Ht=>?_,λf1 m5 Ht=>?_,λf1 m5 Ht=>?_⟩
  .obtain⟨f',a1,a2⟩:=gt i f1 m5;obtain⟨h',b1,b2⟩:=gt j h1 hh1;exact V.un i j f' h' a1 b1 (by omega) (by omega)
  .rcases mem_set m5 with rfl|⟨i,hi,kF⟩
   .rw[hd]at hd1;cases hd1
   .exact V.cl f1 (az kF) Ht hd1
  .show(q.a.aA f1.an).2=0
   rcases mem_set m5 with rfl|⟨i,hi,kF⟩
   .rw[ep];exact V.ex f (az hf) h0
   .exact V.ex f1 (az kF) Ht
  .rcases mem_set m5 with rfl|⟨i,hi,kF⟩
   .omega
   .exact V.em f1 (az kF) Ht
  .rcases mem_set m5 with rfl|⟨i,hi,kF⟩
   .exact hs
   .exact V.fl f1 (az kF) Ht
 refine⟨V',λj=>?_⟩
 by_cases hj:j=f.an
 .subst hj;rw[if_pos rfl,<-ep];exact V'.gr (k:=k) (f:=g) (by show(q.l.set k g)[k]?=_;rw[cD hk]) (by omega)
 .rw[if_neg hj]
  rcases fD q j with h|⟨i,f1,m5,rfl,Ht⟩
  .rw[dH h,dH (q:={q with l:=q.l.set k g}) (h.imp id (λh x hx=>by
    rcases mem_set hx with rfl|⟨i,hi,kF⟩
    .rw[ep];exact h f (az hf)
    .exact h x (az kF)))]
  .rw[V.gr m5 Ht];refine V'.gr (k:=i) (f:=f1) ?_ Ht;have zG:i≠k:=λe=>by
    subst e;have:f1=f:=by rw[m5]at hf;injection hf
    exact hj (by rw[this])
   show(q.l.set k g)[i]?=_;rw[eL (by omega)];exact m5
theorem back_v{q:QS}(V:Vi q)(hk:k<q.l.length):
  ((q.bG k).2=0/\(q.bG k).1.a.bM=q.a.bM/\Vi (q.bG k).1/\(∀j,(q.bG k).1.vw j=q.vw j)/\∃f,(q.bG k).1.l[k]?=some f/\f.bT=false/\(q.bG k).1.l.map Fr.held=q.l.map Fr.held/\(q.bG k).1.l.map Fr.an=q.l.map Fr.an)\/q.bG k=(q,11):=by
 have hf:=jS hk;unfold QS.bG
 by_cases hd:(ia q.l k).bT=true
 .have h0:0<=(ia q.l k).an:=by
   by_cases h:0<=(ia q.l k).an
   .exact h
   .have:=V.em _ (az hf) (by omega);rw[hd]at this;cases this
  rw[if_pos hd];have hx:=V.ex _ (az hf) h0;have hl:=V.fl _ (az hf) h0;have hw:(q.a.ar (ia q.l k).an (ia q.l k).eC.data.toList).2=0/\(q.a.ar (ia q.l k).an (ia q.l k).eC.data.toList).1.bM=q.a.bM\/q.a.ar (ia q.l k).an (ia q.l k).eC.data.toList=(q.a,11):=by
   unfold St.ar;rw[if_neg (by simp[hl]),if_neg (by rw[rk]at hx;simp[hx])]
   split
   .exact .inr rfl
   .exact .inl ⟨rfl,rfl⟩
  rcases hw with⟨hw,ho⟩|hw
  .rw[if_pos hw];obtain⟨V',hv⟩:=V.wrote hf h0 hw;exact .inl ⟨rfl,ho,V',hv,{ia q.l k with bT:=false},by show(q.l.set k _)[k]?=_;rw[cD hk],rfl,gQ q.l Fr.held k hf rfl,gQ q.l Fr.an k hf rfl⟩
  .rw[hw,if_neg (by simp)];exact .inr rfl
 .rw[if_neg hd];exact .inl ⟨rfl,rfl,V,λj=>rfl,_,hf,by simpa using hd,rfl,rfl⟩
theorem Hu{q:QS}(H:Hq q n K)(V:Vi q)(N:∀f∈q.l,f.held=0)(p:Int):
  (q.aK p).1.a.bM=q.a.bM/\Vi (q.aK p).1/\(∀j,(q.aK p).1.vw j=q.vw j)/\
  (((q.vw p).2=0/\(q.aK p).2=(⟨(q.vw p).1.toArray⟩,0)/\∃(k:Nat) (f:Fr),(q.aK p).1.l[k]?=some f/\f.an=p/\0<=p/\f.held=1/\∀(i:Nat) (h:Fr),i≠k->(q.aK p).1.l[i]?=some h->h.held=0)\/
   ((q.vw p).2=3/\(q.aK p).2=(⟨#[]⟩,3)/\∀f∈(q.aK p).1.l,f.held=0)\/((q.vw p).2=0/\(q.aK p).2=(⟨#[]⟩,11)/\∀f∈(q.aK p).1.l,f.held=0)):=by
 obtain⟨c,z⟩:=H.z
 rcases eR q.l p with e|⟨k,f,e,hk,he,zH⟩
 .have Gx:p<0\/∀f∈q.l,f.an≠p:=by
   by_cases h0:p<0
   .exact .inl h0
   .exact .inr (sw e (by omega))
  have hvw:=dH (q:=q) Gx
  by_cases hr:(q.a.aA p).2≠0
  .have hE:q.aK p=(q,⟨#[]⟩,(q.a.aA p).2):=by
    unfold QS.aK;rw[e,if_neg (by omega),if_pos hr]
   have h3:(q.a.aA p).2=3:=by
    unfold St.aA at hr ⊢
    split
    .rename_i h;rw[h]at hr;exact absurd rfl hr
    .rfl
   rw[hE];exact⟨rfl,V,λj=>rfl,.inr (.inl ⟨by rw[hvw];exact h3,by rw[h3],N⟩)⟩
  have xy:(q.a.aA p).2=0:=by simpa using hr
  obtain⟨k,v1,v2,v3⟩:=wW q H.lh N;have va:=fS q;obtain⟨V1,w1⟩:=V.pd (q':=q.ay.1) va.1 (pdh_pd v3);have hkv:k<q.ay.1.l.length:=by omega
  rcases back_v V1 hkv with⟨b1,b2,b3,b4,f,b5,b6,b7,b8⟩|hb
  .have hE:q.aK p=({(q.ay.1.bG k).1 with l:=(q.ay.1.bG k).1.l.set k ⟨p,⟨(q.a.aA p).1.toArray⟩,1,false,true⟩},⟨(q.a.aA p).1.toArray⟩,0):=by
    unfold QS.aK;rw[e,if_neg (by omega),if_neg hr,v1,if_neg (by omega),show((k:Nat):Int).toNat=k by omega,if_neg (by rw[b1];simp)]
   have zH:0<=p:=yj xy;have hpg:∀h∈(q.ay.1.bG k).1.l,h.an≠p:=λh hh=>by
    have:h.an∈q.l.map Fr.an:=by
     have e1:q.ay.1.l.map Fr.an=q.l.map Fr.an:=by
      have hx:∀l:List Fr,l.map Fr.an=(l.map Bm).map (λx=>x.1):=λl=>by rw[oT];rfl
      rw[hx,hx,v3]
     rw[<-e1,<-b8];exact vK hh
    obtain⟨f',h1,h2⟩:=eo.1 this;rw[<-h2];exact Gx.resolve_left (by omega) f' h1
   have hrd:(q.ay.1.bG k).1.a.aA p=q.a.aA p:=by
    have h1:=(b4 p).trans (w1 p);rw[dH (q:=(q.ay.1.bG k).1) (.inr hpg),hvw]at h1;exact h1
   have hsw:=b3.swap b5 b6 ⟨p,⟨(q.a.aA p).1.toArray⟩,1,false,true⟩ (.inr ⟨zH,rfl,hpg,by
    show(q.ay.1.bG k).1.a.aA p=((q.a.aA p).1,0);rw[hrd];exact ja rfl xy,by show(q.a.aA p).1.toArray.size=232;simpa using z.len xy⟩)
   rw[hE];refine⟨by show(q.ay.1.bG k).1.a.bM=_;rw[b2,va.1],hsw.1,λj=>((hsw.2 j).trans (b4 j)).trans (w1 j),.inl ⟨by rw[hvw];exact xy,by rw[hvw],k,⟨p,⟨(q.a.aA p).1.toArray⟩,1,false,true⟩,?_,rfl,zH,rfl,λi h hi hh=>?_⟩⟩
   .show(List.set _ _ _)[k]?=_;rw[cD (aR.1 b5).1]
   .have hh:(List.set (q.ay.1.bG k).1.l k _)[i]?=some h:=hh;rw[eL (by omega)]at hh;have h3:h.held∈q.ay.1.l.map Fr.held:=by rw[<-b7];exact vK (az hh)
    obtain⟨f',h4,h5⟩:=eo.1 h3;rw[<-h5];exact yk v3 N f' h4
  .have hE:q.aK p=(q.ay.1,⟨#[]⟩,11):=by
    unfold QS.aK;rw[e,if_neg (by omega),if_neg hr,v1,if_neg (by omega),show((k:Nat):Int).toNat=k by omega,hb,if_pos (by simp)]
   rw[hE];exact⟨by show q.ay.1.a.bM=_;rw[va.1],V1,w1,.inr (.inr ⟨by rw[hvw];exact xy,rfl,yk v3 N⟩)⟩
 .have kQ:=(aR.1 hk).1;have hE:q.aK p=({q with l:=q.l.set k {f with held:=f.held+1,used:=true}},f.eC,0):=by
   unfold QS.aK;rw[e,if_pos (by omega),show((k:Nat):Int).toNat=k by omega,kS hk]
  have hvw:q.vw p=(f.eC.data.toList,0):=by rw[<-he];exact V.gr hk (by omega)
  obtain⟨V1,w1⟩:=V.pd (q':={q with l:=q.l.set k {f with held:=f.held+1,used:=true}}) rfl (gQ q.l Sh.pd k hk rfl);rw[hE];refine⟨rfl,V1,w1,.inl ⟨by rw[hvw],by rw[hvw,ba_eta],k,{f with held:=f.held+1,used:=true},?_,he,zH,?_,λi h hi hh=>?_⟩⟩
  .show(q.l.set k _)[k]?=_;rw[cD kQ]
  .have:=N f (az hk);show f.held+1=1;omega
  .have hh:(q.l.set k _)[i]?=some h:=hh;rw[eL (by omega)]at hh;exact N h (az hh)
structure Wp(q:QS)(n K:Nat):Prop where
 H:Hq q n K
 V:Vi q
 N:∀f∈q.l,f.held=0
structure Nx(q q':QS)(n K:Nat):Prop where
 w:Wp q' n K
 o:q'.a.bM=q.a.bM
structure Nv(q q':QS)(n K:Nat):Prop extends Nx q q' n K where
 v:∀j,q'.vw j=q.vw j
section
variable{q:QS}{n K:Nat}
theorem Wp.more(h:Wp q n K){K':Nat}(hk:K<=K'):Wp q n K':=⟨h.H.more hk,h.V,h.N⟩
theorem wX(q:QS)(j:Int):(q.vw j).2=0\/q.vw j=([],3):=by
 unfold QS.vw
 split
 .exact .inl rfl
 .unfold St.aA
  split
  .exact .inl rfl
  .exact .inr rfl
theorem Wp.len(h:Wp q n K)(h0:(q.vw j).2=0):(q.vw j).1.length=232:=by
 obtain⟨c,z⟩:=h.H.z
 rcases fD q j with ho|⟨k,f,hk,rfl,hp⟩
 .rw[dH ho]at h0 ⊢;exact z.len h0
 .rw[h.V.gr hk hp];have:=h.V.fl f (az hk) hp;simpa using this
theorem vw_pos(h0:(q.vw j).2=0):0<=j:=by
 unfold QS.vw at h0
 split at h0
 .rcases eR q.l j with e|⟨_,_,_,_,_,h⟩
  .omega
  .exact h
 .exact yj h0
theorem Wp.get(h:Wp q n K)(p:Int):Nv q (q.cC p).1 n (K+1)/\
  (((q.vw p).2=0/\(q.cC p).2=(⟨(q.vw p).1.toArray⟩,0))\/(q.vw p=([],3)/\(q.cC p).2=(⟨#[]⟩,3))\/((q.vw p).2=0/\(q.cC p).2=(⟨#[]⟩,11))):=by
 obtain⟨h1,h2,h3,h4⟩:=Hu h.H h.V h.N p;have HH:=h.H.get p;unfold QS.cC at HH ⊢
 rcases h4 with⟨e0,e1,k,f,hf,he,zH,hh,hN⟩|⟨e0,e1,e2⟩|⟨e0,e1,e2⟩
 .rw[e1,if_neg (by simp)]at HH;rw[e1,if_neg (by simp)];obtain⟨l1,l2,l3,l4⟩:=yl h2 hf he zH hh hN;exact⟨⟨⟨⟨HH,l2,l4⟩,by rw[l1];exact h1⟩,λj=>(l3 j).trans (h3 j)⟩,.inl ⟨e0,rfl⟩⟩
 .rw[e1,if_pos (by simp)]at HH;rw[e1,if_pos (by simp)];exact⟨⟨⟨⟨HH,h2,e2⟩,h1⟩,h3⟩,.inr (.inl ⟨(wX q p).resolve_left (by omega),rfl⟩)⟩
 .rw[e1,if_pos (by simp)]at HH;rw[e1,if_pos (by simp)];exact⟨⟨⟨⟨HH,h2,e2⟩,h1⟩,h3⟩,.inr (.inr ⟨e0,rfl⟩)⟩
theorem Wp.put(h:Wp q n K)(p:Int)(b:ByteArray)(hb:b.size<=232):Nx q (q.ct p b).1 n (K+1)/\
  (((q.vw p).2=0/\(q.ct p b).2=0/\∀j,(q.ct p b).1.vw j=if j=p then(dh b.data.toList 232,0)else q.vw j)\/(q.vw p=([],3)/\(q.ct p b).2=3/\∀j,(q.ct p b).1.vw j=q.vw j)\/((q.vw p).2=0/\(q.ct p b).2=11/\∀j,(q.ct p b).1.vw j=q.vw j)):=by
 obtain⟨h1,h2,h3,h4⟩:=Hu h.H h.V h.N p;have HH:=h.H.put_ p b;unfold QS.ct at HH ⊢;rw[if_neg (by omega)]at HH ⊢
 rcases h4 with⟨e0,e1,k,f,hf,he,zH,hh,hN⟩|⟨e0,e1,e2⟩|⟨e0,e1,e2⟩
 .rw[e1,if_neg (by simp)]at HH ⊢;have kQ:=(aR.1 hf).1;have e:findF (q.aK p).1.l p=k:=by
   have e:=wU hf (by omega) (λj h hj ej=>h2.un j k h f hj hf ej (by omega));rw[he]at e;exact e
  have hE:((q.aK p).1.dX p b).1={(q.aK p).1 with l:=(q.aK p).1.l.set k {f with eC:=mH b,bT:=true,used:=true}}:=by
   unfold QS.dX QS.fe;rw[if_neg (by omega),e,if_neg (by omega),show((k:Nat):Int).toNat=k by omega,hf];dsimp only;rw[if_neg (by omega)]
  have wy:=h2.setp hf (by omega) {f with eC:=mH b,bT:=true,used:=true} rfl rfl (ss (by omega));have hlet:=yl (q:=((q.aK p).1.dX p b).1) (by rw[hE];exact wy.1) (p:=p) (k:=k) (f:={f with eC:=mH b,bT:=true,used:=true}) (by rw[hE];show(List.set _ _ _)[k]?=_;rw[cD kQ]) he zH hh (λi h hi hx=>by
   rw[hE]at hx;have hx:(List.set (q.aK p).1.l k _)[i]?=some h:=hx;rw[eL (by omega)]at hx;exact hN i h hi hx)
  obtain⟨l1,l2,l3,l4⟩:=hlet;refine⟨⟨⟨HH,l2,l4⟩,by rw[l1,hE];exact h1⟩,.inl ⟨e0,rfl,λj=>?_⟩⟩;rw[l3 j,hE,wy.2 j,he]
  by_cases hj:j=p
  .rw[if_pos hj,if_pos hj];rfl
  .rw[if_neg hj,if_neg hj];exact h3 j
 .rw[e1,if_pos (by simp)]at HH ⊢;exact⟨⟨⟨HH,h2,e2⟩,h1⟩,.inr (.inl ⟨(wX q p).resolve_left (by omega),rfl,h3⟩)⟩
 .rw[e1,if_pos (by simp)]at HH ⊢;exact⟨⟨⟨HH,h2,e2⟩,h1⟩,.inr (.inr ⟨e0,rfl,h3⟩)⟩
def QS.ov(q:QS)(j:Int):List UInt8×Int:=({q.a with now:=wK q.a.bM}:St).aA j
theorem Hv{q q':QS}(h:q'.a.bM=q.a.bM)(j:Int):q'.ov j=q.ov j:=by
 unfold QS.ov St.aA St.at;rw[h]
theorem at_put'(v:Option (Bool×List UInt8))(q:Int):({a with now:=kR a.now a.slot v}:St).at q=if q=(a.slot:Nat)then v else a.at q:=by
 unfold St.at
 by_cases h0:0<=q
 .rw[if_pos h0];show((kR a.now a.slot v)[q.toNat]?).getD none=_;rw[km _ _ _ (slot_le a)]
  by_cases e:q=(a.slot:Nat)
  .rw[if_pos e,if_pos (by omega)];rfl
  .rw[if_neg e,if_neg (by omega),if_pos h0]
 .rw[if_neg h0,if_neg (by omega),if_neg h0]
theorem vw_new{p:List UInt8}(h:(a.bh p).2.2=0):∃l:Nat,(a.bh p).2.1=l/\l<=511/\a.at (l:Nat)=none/\∀j,(a.bh p).1.aA j=if j=(l:Nat)then(dh p 232,0)else a.aA j:=by
 unfold St.bh at h ⊢
 split at h
 .exact absurd h (by show(4:Int)≠0;decide)
 .rename_i h1;rw[if_neg h1]
  split at h
  .exact absurd h (by show(11:Int)≠0;decide)
  .rename_i h2;rw[if_neg h2];refine⟨a.slot,rfl,by omega,D0 a,λj=>?_⟩;unfold St.aA;rw[at_put']
   by_cases e:j=(a.slot:Nat)
   .rw[if_pos e,if_pos e]
   .rw[if_neg e,if_neg e]
theorem Wp.new(h:Wp q n K)(p:ByteArray)(hb:p.size<=232):Nx q (q.bh p.data.toList).1 n (K+1)/\
  ((∃l:Nat,(q.bh p.data.toList).2=(((l:Nat):Int),0)/\l<=511/\q.vw (l:Nat)=([],3)/\∀j,(q.bh p.data.toList).1.vw j=if j=(l:Nat)then(dh p.data.toList 232,0)else q.vw j)\/((q.bh p.data.toList).2=(0,11)/\∀j,(q.bh p.data.toList).1.vw j=q.vw j)):=by
 have HH:=h.H.new p.data.toList;unfold QS.bh at HH ⊢
 by_cases h0:(q.a.bh p.data.toList).2.2=0
 .obtain⟨l,e1,e2,e3,e4⟩:=vw_new h0;have hr:∀f∈q.l,0<=f.an->f.an≠(l:Nat):=λf hf h0 e=>by
   have:=h.V.ex f hf h0;unfold St.aA at this;rw[e,e3]at this;exact absurd this (by show(3:Int)≠0;decide)
  have hl:q.vw (l:Nat)=([],3):=by
   rw[dH (.inr λf hf e=>hr f hf (by omega) e)];unfold St.aA;rw[e3]
  have V':Vi {q with a:=(q.a.bh p.data.toList).1}:=⟨h.V.un,λf hf h0 hd=>by show(q.a.bh _).1.aA _=_;rw[e4,if_neg (hr f hf h0)];exact h.V.cl f hf h0 hd,λf hf h0=>by show((q.a.bh _).1.aA _).2=_;rw[e4,if_neg (hr f hf h0)];exact h.V.ex f hf h0,h.V.em,h.V.fl⟩;refine⟨⟨⟨HH,V',h.N⟩,?_⟩,.inl ⟨l,ja e1 h0,e2,hl,λj=>?_⟩⟩
  .show(q.a.bh _).1.bM=_;unfold St.bh
   split
   .rfl
   .split<;>rfl
  .rcases fD q j with ho|⟨k,f,hk,rfl,hp⟩
   .rw[dH (q:={q with a:=(q.a.bh p.data.toList).1}) ho,dH ho];exact e4 j
   .rw[if_neg (hr f (az hk) hp),h.V.gr hk hp];exact V'.gr hk hp
 .have e:q.a.bh p.data.toList=(q.a,0,11):=by
   unfold St.bh at h0 ⊢;have hl:¬232<p.data.toList.length:=by simp;omega
   rw[if_neg hl]at h0 ⊢
   split
   .rfl
   .rename_i h1;rw[if_neg h1]at h0;exact absurd rfl h0
  rw[e]at HH ⊢;exact⟨⟨⟨HH,h.V,h.N⟩,rfl⟩,.inr ⟨rfl,λ_=>rfl⟩⟩
theorem Ek{l:Int}(h:(a.at l).isSome=true)(j:Int):(a.aI l).1.aA j=if j=l then([],3)else a.aA j:=by
 obtain⟨h0,h1⟩:=mc h;have hat:(a.aI l).1.at j=if j=l then none else a.at j:=by
  unfold St.aI;rw[if_pos h];unfold St.at
  by_cases hj:0<=j
  .rw[if_pos hj,if_pos hj];show((a.now.set l.toNat none)[j.toNat]?).getD none=_
   by_cases e:j=l
   .subst e;rw[if_pos rfl,cD h1];rfl
   .rw[if_neg e,eL (by omega)]
  .rw[if_neg hj,if_neg (by omega),if_neg hj]
 unfold St.aA;rw[hat]
 by_cases e:j=l
 .rw[if_pos e,if_pos e]
 .rw[if_neg e,if_neg e]
theorem Wp.drop(h:Wp q n K)(p:Int):Nx q (q.aI p).1 n K/\
  (((q.vw p).2=0/\(q.aI p).2=0/\∀j,(q.aI p).1.vw j=if j=p then([],3)else q.vw j)\/(q.vw p=([],3)/\(q.aI p).2=3/\∀j,(q.aI p).1.vw j=q.vw j)):=by
 have HH:=h.H.drop p;have hold:(q.a.aI p).1.bM=q.a.bM:=by unfold St.aI;split<;>rfl
 unfold QS.aI at HH ⊢;have hnh:¬(0<=findF q.l p/\0<(ia q.l (findF q.l p).toNat).held):=λ⟨h1,h2⟩=>by
  rcases eR q.l p with e|⟨k,f,e,hk,_,_⟩
  .omega
  .rw[e,show((k:Nat):Int).toNat=k by omega,kS hk,h.N f (az hk)]at h2;omega
 rw[if_neg hnh]at HH ⊢
 by_cases hx:(q.a.at p).isSome=true
 .have e0:(q.a.aI p).2=0:=by unfold St.aI;rw[if_pos hx]
  have hr:=Ek hx;rw[if_neg (by rw[e0];simp)]at HH ⊢
  rcases eR q.l p with e|⟨k,f,e,hk,he,zH⟩
  .rw[e,if_neg (by omega)]at HH ⊢;have zH:=(mc hx).1;have Gx:=sw e zH;have hv:q.vw p=q.a.aA p:=dH (.inr Gx);have V':Vi {q with a:=(q.a.aI p).1}:=⟨h.V.un,λf hf h0 hd=>by show(q.a.aI p).1.aA _=_;rw[hr,if_neg (Gx f hf)];exact h.V.cl f hf h0 hd,λf hf h0=>by show((q.a.aI p).1.aA _).2=_;rw[hr,if_neg (Gx f hf)];exact h.V.ex f hf h0,h.V.em,h.V.fl⟩;refine⟨⟨⟨HH,V',h.N⟩,hold⟩,.inl ⟨by rw[hv];exact rk.2 hx,rfl,λj=>?_⟩⟩
   rcases fD q j with ho|⟨i,f,hi,rfl,hp⟩
   .rw[dH (q:={q with a:=(q.a.aI p).1}) ho,dH ho];exact hr j
   .rw[if_neg (Gx f (az hi)),h.V.gr hi hp];exact V'.gr hi hp
  .rw[e,if_pos (by omega),show((k:Nat):Int).toNat=k by omega]at HH ⊢;have kQ:=(aR.1 hk).1;have hv:q.vw p=(f.eC.data.toList,0):=by rw[<-he];exact h.V.gr hk (by omega)
   have ne:∀(i:Nat) (g:Fr),i≠k->q.l[i]?=some g->0<=g.an->g.an≠p:=λi g hi hg h0 e=>hi (h.V.un i k g f hg hk (by omega) h0);have bM:∀g∈q.l.set k Fr.nil,0<=g.an->g∈q.l/\g.an≠p:=λg hg h0=>by
    rcases mem_set hg with rfl|⟨i,hi,kF⟩
    .exact absurd h0 (by show ¬(0:Int)<= -1;omega)
    .exact⟨az kF,ne i g hi kF h0⟩
   have V':Vi {q with a:=(q.a.aI p).1,l:=q.l.set k Fr.nil}:=by
    refine⟨λi j f1 h1 hi hj ee h0=>?_,λg hg h0 hd=>?_,λg hg h0=>?_,λg hg h0=>?_,λg hg h0=>h.V.fl g (bM g hg h0).1 h0⟩
    .have gt:∀(i:Nat) (x:Fr),(q.l.set k Fr.nil)[i]?=some x->0<=x.an->q.l[i]?=some x:=λi x hx h0=>by
      by_cases zG:i=k
      .subst zG;rw[cD kQ]at hx;injection hx with hx
       subst hx;exact absurd h0 (by show ¬(0:Int)<= -1;omega)
      .rw[eL (by omega)]at hx;exact hx
     exact h.V.un i j f1 h1 (gt i f1 hi h0) (gt j h1 hj (by omega)) ee h0
    .obtain⟨o1,o2⟩:=bM g hg h0;show(q.a.aI p).1.aA _=_;rw[hr,if_neg o2];exact h.V.cl g o1 h0 hd
    .obtain⟨o1,o2⟩:=bM g hg h0;show((q.a.aI p).1.aA _).2=_;rw[hr,if_neg o2];exact h.V.ex g o1 h0
    .rcases mem_set hg with rfl|⟨i,hi,kF⟩
     .rfl
     .exact h.V.em g (az kF) h0
   refine⟨⟨⟨HH,V',λg hg=>?_⟩,hold⟩,.inl ⟨by rw[hv],rfl,λj=>?_⟩⟩
   .rcases mem_set hg with rfl|⟨i,hi,kF⟩
    .rfl
    .exact h.N g (az kF)
   .by_cases hj:j=p
    .subst hj;rw[if_pos rfl,dH (q:={q with a:=(q.a.aI j).1,l:=q.l.set k Fr.nil}) (.inr λg hg e=>(bM g hg (by omega)).2 e)];show(q.a.aI j).1.aA j=_;rw[hr,if_pos rfl]
    .rw[if_neg hj]
     rcases fD q j with ho|⟨i,g,hi,rfl,hp⟩
     .have ho':j<0\/∀g∈q.l.set k Fr.nil,g.an≠j:=by
       by_cases hj0:j<0
       .exact .inl hj0
       .refine .inr λg hg=>?_
        rcases mem_set hg with rfl|⟨i,hi,kF⟩
        .show(-1:Int)≠j;omega
        .exact ho.resolve_left hj0 g (az kF)
      rw[dH ho,dH (q:={q with a:=(q.a.aI p).1,l:=q.l.set k Fr.nil}) ho'];show(q.a.aI p).1.aA j=_;rw[hr,if_neg hj]
     .rw[h.V.gr hi hp];refine V'.gr (k:=i) ?_ hp;show(q.l.set k Fr.nil)[i]?=_;rw[eL]
      .exact hi
      .rintro rfl;rw[hk]at hi;injection hi with hi
       subst hi;exact hj he
 .have hx2:(q.a.aI p)=(q.a,3):=by unfold St.aI;rw[if_neg hx]
  have hr3:(q.a.aA p).2≠0:=λh=>hx (rk.1 h);rw[hx2,if_pos (by simp)]at HH ⊢;refine⟨⟨⟨HH,h.V,h.N⟩,rfl⟩,.inr ⟨?_,rfl,λ_=>rfl⟩⟩;refine(wX q p).resolve_left (λh0=>?_)
  rcases fD q p with ho|⟨i,g,hi,rfl,hp⟩
  .rw[dH ho]at h0;exact hr3 h0
  .exact hr3 (h.V.ex g (az hi) hp)
end
end Go.Proofs.YtmonobkginiajaaGreat.Sh
namespace Go.Proofs.YtmonobkginiajaaGreat.Sh
open Go.RowKit Go.Sort Go.Shelf
end Go.Proofs.YtmonobkginiajaaGreat.Sh
namespace Go.Proofs.YtmonobkginiajaaGreat.Sh
open Go.RowKit Pk Dk Pg
attribute [local go_sem ↓] Go.wp_at_zero Go.wp_at_succ aW
end Go.Proofs.YtmonobkginiajaaGreat.Sh
namespace Go.Proofs.YtmonobkginiajaaGreat.Sh
open Go.RowKit Pk Dk Pg
attribute [local go_sem ↓] Go.wp_at_zero Go.wp_at_succ
variable{w:World}{y:Y}{n K:Nat}{q:QS}
def ZTo(w w':World)(y:Y)(n:Nat)(q:QS)(K:Nat):Prop:= ∃y',y'.pb=y.pb/\y'.x.b=y.x.b/\y'.x.L=y.x.L/\ZP w' y' n q K/\ag y.fp w w'/\∀g∈y'.fp,g∈y.fp\/w.heap.size<=g
theorem El(h:ZP w y n q K)(hK:K<=1000000000000)(v:ByteArray)(hs:v.size<=9223372036854775807):
  Calls Tryz.prog 69 #[pp y.pb,.string v] w λe w'=>e=.returned (.tuple #[.int .i64 (q.bh v.data.toList).2.1,.int .i64 (q.bh v.data.toList).2.2])/\ZTo w w' y n (q.bh v.data.toList).1 (K+1):=by
 obtain⟨c,A,z⟩:=h;have zn:=z.new v.data.toList;have hp:=DS A v hs (z.ep0 hK) (by have:=(z.calls hK).1;show c.d.calls<=_;omega) (z.calls hK).2;rw[show(q.ps c).c=c from rfl,zn.2]at hp;refine hp.mono λe w' ⟨r,y',e1,_,_,e2,e3,B',o',f'⟩=>⟨r,y',e1,e2,e3,⟨_,B',zn.1⟩,o',f'⟩
theorem Bo(h:ZP w y n q K)(hb:Fb q.l K)(p:Int):
  Calls Tryz.prog 132 #[pp y.pb,.int .i64 p] w λe w'=>e=.returned (.int .i64 (q.aI p).2)/\ZP w' y n (q.aI p).1 K/\ag y.fp w w':=by
 obtain⟨c,A,z⟩:=h;have zd:=z.drop p;unfold QS.aI
 rcases eR q.l p with e|⟨k,f,e,hf,_,_⟩
 .rw[e,if_neg (by omega)];have hd:=DX A p e;rw[show(q.ps c).c=c from rfl,zd.2]at hd
  by_cases h0:(q.a.aI p).2=0
  .rw[if_neg (by simpa using h0),if_neg (by omega)];refine hd.mono λe w' ⟨r,A',o⟩=>⟨by rw[r,h0],⟨_,A',zd.1⟩,o⟩
  .rw[if_pos h0];refine hd.mono λe w' ⟨r,A',o⟩=>⟨r,⟨_,A',zd.1⟩,o⟩
 .rw[e,show((k:Nat):Int).toNat=k by omega,kS hf];have hm:=hb f (az hf)
  by_cases hh:0<f.held
  .rw[if_pos ⟨by omega,hh⟩];exact(AM A p k e hf hh).mono λe w' ⟨r,b⟩=>⟨r,⟨c,A.below b,z⟩,.aj b⟩
  .rw[if_neg (λh=>hh h.2)];have hd:=GQ A p k e hf (by omega);rw[show(q.ps c).c=c from rfl,zd.2]at hd
   by_cases h0:(q.a.aI p).2=0
   .rw[if_neg (by simpa using h0),if_pos (by omega)];rw[if_pos h0]at hd;refine hd.mono λe w' ⟨r,A',o⟩=>⟨by rw[r,h0],⟨_,A',zd.1⟩,o⟩
   .rw[if_pos h0];rw[if_neg h0]at hd;refine hd.mono λe w' ⟨r,A',o⟩=>⟨r,⟨_,A',zd.1⟩,o⟩
end Go.Proofs.YtmonobkginiajaaGreat.Sh
namespace Go.Proofs.YtmonobkginiajaaGreat.Sh
open Go.RowKit Pk Dk Pg
variable{w:World}{n g K K':Nat}{t:TypeId}{cs:Array Value}{y:Y}{q:QS}
theorem At.alien2{x:X}{c:C}(h:At w x n c)(B:aD w g t cs)(h1:t≠146)(h2:t≠218)(h3:t≠3)(h4:t≠149)(h5:t≠152)(h6:t≠4)(h7:t≠231):g∉x.fp:=by
 intro hg;simp only[X.fp,aC,aS]at hg;have hs:∀{v:Value} {k:Nat} {l:List Value},Sl w 3 v k l->g∉cq v:=λS hg=>by
  obtain⟨cs',B'⟩:=rX S _ hg;exact B.mB B' h3 rfl
 rcases hg with rfl|rfl|rfl|((hg|hg)|hg)|hg
 .exact B.mB h.hb h1 rfl
 .exact B.mB h.hm.hb h2 rfl
 .exact B.mB h.hm.hg h3 rfl
 .simp only[Loc.fp,aC,gH,or_false]at hg
  rcases hg with rfl|rfl|rfl|rfl
  .exact B.mB h.hd.hb h4 rfl
  .exact B.mB h.hd.hN h5 rfl
  .exact B.mB h.hd.hO h5 rfl
  .exact B.mB h.hd.hL h6 rfl
 .exact hs h.ht hg
 .exact hs h.ho hg
 .exact h.hp.aY B h3 h7 hg
theorem fG.jC{s:PS}(h:fG w y n s)(B:aD w g t cs)(ha:t≠143)(hb:t≠167)(h1:t≠146)(h2:t≠218)(h3:t≠3)(h4:t≠149)(h5:t≠152)(h6:t≠4)(h7:t≠231):g∉y.fp:=by
 intro hg;simp only[Y.fp,aC]at hg
 rcases hg with rfl|rfl|hg
 .exact B.mB h.hp ha rfl
 .exact cy h.hf B (by exact hb) (by simp[ah])
 .exact h.hs.alien2 B h1 h2 h3 h4 h5 h6 h7 hg
theorem Hw(h:ZP w y n q K)(H:Hq q n K)(hK:K<=999999999999)(p:Int):
  Calls Tryz.prog 121 #[pp y.pb,.int .i64 p] w λe w'=>e=.returned (.tuple #[.string (q.cC p).2.1,.int .i64 (q.cC p).2.2])/\ZP w' y n (q.cC p).1 (K+1)/\ag y.fp w w':=by
 unfold QS.cC
 by_cases h0:(q.aK p).2.2=0
 .rw[if_neg (by simpa using h0)];exact Eh h H.f hK H.full p h0
 .rw[if_pos h0];exact Hi h H.f hK p h0
theorem Hx(h:ZP w y n q K)(H:Hq q n K)(hK:K<=999999999999)(p:Int)(b:ByteArray):
  Calls Tryz.prog 176 #[pp y.pb,.int .i64 p,.string b] w λe w'=>e=.returned (.int .i64 (q.ct p b).2)/\ZP w' y n (q.ct p b).1 (K+1)/\ag y.fp w w':=by
 unfold QS.ct
 by_cases hb:232<b.size
 .rw[if_pos hb];exact(Hk p b hb).mono λe w' ⟨r,o⟩=>⟨r,(h.below o).more (by omega),.aj o⟩
 rw[if_neg hb]
 by_cases h0:(q.aK p).2.2=0
 .rw[if_neg (by simpa using h0)];have hp:=Ei h H.f hK H.full p b (by omega) h0;rw[Hs H p b (by omega) h0]at hp;exact hp
 .rw[if_pos h0];exact Hj h H.f hK H.full p b (by omega) h0
structure Ix where
 pb:Nat
 sb:Nat
 L:Dk.Loc
def PQ(w:World)(I:Ix)(F:List Nat)(q:QS)(n K:Nat):Prop:= ∃y,y.pb=I.pb/\y.x.b=I.sb/\y.x.L=I.L/\y.fp=F/\ZP w y n q K/\Wp q n K
def PT(w w':World)(I:Ix)(F:List Nat)(q:QS)(n K:Nat):Prop:= ∃F',PQ w' I F' q n K/\ag F w w'/\∀g∈F',g∈F\/w.heap.size<=g
section
variable{w w':World}{I:Ix}{F S:List Nat}{q:QS}{n K:Nat}
theorem PQ.wp(h:PQ w I F q n K):Wp q n K:=by
 obtain⟨y,_,_,_,_,_,W⟩:=h;exact W
theorem PQ.only(h:PQ w I F q n K)(o:ag S w w')(hd:∀g∈F,g∉S):PQ w' I F q n K:=by
 obtain⟨y,e1,e2,e3,rfl,⟨c,A,z⟩,W⟩:=h;exact⟨y,e1,e2,e3,rfl,⟨c,A.only o hd,z⟩,W⟩
theorem PQ.below(h:PQ w I F q n K)(hb:Below w.heap.size w w'):PQ w' I F q n K:=h.only (S:=[]) (.aj hb) (by simp)
theorem PQ.drew(h:PQ w I F q n K):PQ w.drew I F q n K:=h.below (Below.refl _ _).drew
theorem PQ.lt(h:PQ w I F q n K):∀g∈F,g<w.heap.size:=by
 obtain⟨y,_,_,_,rfl,⟨c,A,z⟩,_⟩:=h;exact A.lt
theorem PQ.le(h:PQ w I F q n K)(hk:K<=K'):PQ w I F q n K':=by
 obtain⟨y,e1,e2,e3,e4,⟨c,A,z⟩,W⟩:=h;exact⟨y,e1,e2,e3,e4,⟨c,A,z.more hk⟩,W.more hk⟩
theorem PQ.aY{b:Nat}(h:PQ w I F q n K)(o:ag [b] w w')(hb:b∉F):PQ w' I F q n K:=h.only o (λg hg hm=>hb (by rw[<-cg.1 hm];exact hg))
theorem PQ.jC(h:PQ w I F q n K)(B:aD w g t cs)(ha:t≠143)(hb:t≠167)(h1:t≠146)(h2:t≠218)(h3:t≠3)(h4:t≠149)(h5:t≠152)(h6:t≠4)(h7:t≠231):g∉F:=by
 obtain⟨y,_,_,_,rfl,⟨c,A,z⟩,_⟩:=h;exact A.jC B ha hb h1 h2 h3 h4 h5 h6 h7
theorem PT.self(h:PQ w' I F q n K)(o:ag F w w'):PT w w' I F q n K:=⟨F,h,o,λ_ hg=> .inl hg⟩
theorem PT.le(h:PT w w' I F q n K)(hk:K<=K'):PT w w' I F q n K':=by
 obtain⟨F',a,b⟩:=h;exact⟨F',a.le hk,b⟩
theorem ZTo.pt{q':QS}(h:ZTo w w' y n q' K')(W:Wp q' n K'):PT w w' ⟨y.pb,y.x.b,y.x.L⟩ y.fp q' n K':=by
 obtain⟨y',e1,e2,e3,z,o,f⟩:=h;exact⟨y'.fp,⟨y',e1,e2,e3,rfl,z,W⟩,o,f⟩
theorem nZ(h:PQ w I F q n K)(hK:K<=999999999999)(p:Int):
  Calls Tryz.prog 121 #[pp I.pb,.int .i64 p] w λe w'=>e=.returned (.tuple #[.string (q.cC p).2.1,.int .i64 (q.cC p).2.2])/\PQ w' I F (q.cC p).1 n (K+1)/\ag F w w':=by
 obtain⟨y,e1,e2,e3,rfl,z,W⟩:=h;have hw:=(W.get p).1.w;rw[<-e1];exact(Hw z W.H hK p).mono λe w' ⟨r,z',o⟩=>⟨r,⟨y,e1,e2,e3,rfl,z',hw⟩,o⟩
theorem Hy(h:PQ w I F q n K)(hK:K<=999999999999)(p:Int)(b:ByteArray)(hb:b.size<=232):
  Calls Tryz.prog 176 #[pp I.pb,.int .i64 p,.string b] w λe w'=>e=.returned (.int .i64 (q.ct p b).2)/\PQ w' I F (q.ct p b).1 n (K+1)/\ag F w w':=by
 obtain⟨y,e1,e2,e3,rfl,z,W⟩:=h;have hw:=(W.put p b hb).1.w;rw[<-e1];exact(Hx z W.H hK p b).mono λe w' ⟨r,z',o⟩=>⟨r,⟨y,e1,e2,e3,rfl,z',hw⟩,o⟩
theorem sy(h:PQ w I F q n K)(hK:K<=1000000000000)(v:ByteArray)(hv:v.size<=232):
  Calls Tryz.prog 69 #[pp I.pb,.string v] w λe w'=>e=.returned (.tuple #[.int .i64 (q.bh v.data.toList).2.1,.int .i64 (q.bh v.data.toList).2.2])/\PT w w' I F (q.bh v.data.toList).1 n (K+1):=by
 obtain⟨y,e1,e2,e3,rfl,z,W⟩:=h;have hw:=(W.new v hv).1.w;obtain⟨_,_,_⟩:=I;subst e1 e2 e3;exact(El z hK v (by omega)).mono λe w' ⟨r,t⟩=>⟨r,t.pt hw⟩
theorem uL(h:PQ w I F q n K)(p:Int):
  Calls Tryz.prog 132 #[pp I.pb,.int .i64 p] w λe w'=>e=.returned (.int .i64 (q.aI p).2)/\PQ w' I F (q.aI p).1 n K/\ag F w w':=by
 obtain⟨y,e1,e2,e3,rfl,z,W⟩:=h;have hw:=(W.drop p).1.w;rw[<-e1];exact(Bo z W.H.f p).mono λe w' ⟨r,z',o⟩=>⟨r,⟨y,e1,e2,e3,rfl,z',hw⟩,o⟩
theorem sA(h:PQ w I F q n K):Calls Tryz.prog 28 #[pp I.pb] w λe w'=>e=.returned (sp I.sb)/\w=w':=by
 obtain⟨y,e1,e2,e3,rfl,⟨c,A,z⟩,W⟩:=h;rw[<-e1,<-e2];exact AH A
theorem sC(h:PQ w I F q n K):
  Calls Tryz.prog 29 #[sp I.sb] w λe w'=> ∃A cc,e=.returned (.slice A q.a.gP.length cc)/\aQ w' 3 1 (.slice A q.a.gP.length cc) q.a.gP.length (eQ q.a.gP)/\Below w.heap.size w w':=by
 obtain⟨y,e1,e2,e3,rfl,⟨c,A,z⟩,W⟩:=h;rw[<-e2];obtain⟨k,e⟩:=z.e;have hp:qJ c.table c.table.length=q.a.gP:=by
  rw[CK (n:=n) _ (ak _),e];have:=pad_pgs (c.bP n).now k;unfold St.gP St.pad C.bP at *;simp only[aU,eM,j0]at *;exact this.symm
 have:=Az A.hs;rw[show(q.ps c).c=c from rfl,hp]at this;exact this
end
end Go.Proofs.YtmonobkginiajaaGreat.Sh
namespace Go.Proofs.YtmonobkginiajaaGreat.Sh
open Go.RowKit Pk Dk Pg
attribute [local go_sem ↓] Go.wp_at_zero Go.wp_at_succ
variable{w w':World}{b n K g:Nat}{F:List Nat}{c:Int}{a:ByteArray}{I:Ix}
def eX(n:Int):Int:=max ((max n 0+227) / 228) 1
def lF(n:Nat):List UInt8:=[UInt8.ofNat (n / 256),UInt8.ofNat n]
def cJ(v:List UInt8)(i:Nat):List UInt8:=(v.drop (228*i)).take 228
theorem uM(n:Int)(h:n<=1000000)(w:World):
  Calls Tryz.prog 172 #[.int .i64 n] w λe w'=>e=.returned (.int .i64 (eX n))/\w=w':=by
 unfold eX;obtain⟨m,hm⟩:=dn (show 0<=max n 0 by omega);rw[hm];have hm2:m<=1000000:=by omega
 have e1:IntKind.i64.wrap ((m:Int)+228)=(m:Int)+228:=IntWalk.i64_in _ (by omega);have e2:IntKind.i64.wrap ((m:Int)+228-1)=(m:Int)+227:=by rw[show(m:Int)+228-1=(m:Int)+227 by omega];exact IntWalk.i64_in _ (by omega)
 have e3:IntKind.i64.wrap (((m:Int)+227).tdiv 228)=((m:Int)+227) / 228:=by rw[zJ (by omega)];exact IntWalk.i64_in _ (by omega)
 have e4:IntKind.i64.wrap ((m:Int)+227)=(m:Int)+227:=IntWalk.i64_in _ (by omega);go_enter Tryz.func172,Tryz.ntmps172;go_wp2_with fail
 all_goals
  go_ret;refine⟨?_,rfl⟩
  first|(simp;done)|(simp;omega)
theorem dL(n:Nat)(h:n<=60000)(w:World):
  Calls Tryz.prog 173 #[.int .i64 (n:Nat)] w λe w'=>e=.returned (.string ⟨(lF n).toArray⟩)/\Below w.heap.size w w':=by
 have O0:=xh (ae (Below.refl w.heap.size w) (.cells #[.int .u8 ((n:Int) / 256),.int .u8 ((n:Int) % 256)] 5));have B0:=aD.new w 5 #[.int .u8 ((n:Int) / 256),.int .u8 ((n:Int) % 256)];have e1:IntKind.u8.wrap ((n:Int) / 256)=(n:Int) / 256:=IntWalk.u8_in _ (by omega);have hb:cf (lF n)=[.int .u8 ((n:Int) / 256),.int .u8 ((n:Int) % 256)]:=by
  unfold lF cf bv;simp only[eW,mP,fV];rw[show((n / 256 % 2 ^ 8:Nat):Int)=(n:Int) / 256 by omega,show((n % 2 ^ 8:Nat):Int)=(n:Int) % 256 by omega]
 have HR:=xh (bs (P:=Tryz.prog) _ 150 9 5 Tryz.underlying150 Tryz.underlying5 Tryz.underlying9 ⟨w.heap.size,0,none⟩ 2 2 (lF n) rfl (aZ (l:=cf (lF n)) (by rw[hb];exact B0) 0 _ (by simp)));clear B0 hb;go_enter Tryz.func173,Tryz.ntmps173;go_wp2_with fail;rw[HR.o];go_wp2_with fail;go_ret;exact⟨by first|rfl|simp,O0.o⟩
theorem Em{q:Nat}(v:ByteArray)(hv:v.size<=1024)(hq:w.cell? ⟨q,0,none⟩=some (.string v))(i:Nat)(hi:228*i<=v.size):
  Calls Tryz.prog 171 #[.int .i64 (i:Nat),.pointer (some ⟨q,0,none⟩)] w λe w'=>e=.returned (.string ⟨(cJ v.data.toList i).toArray⟩)/\w=w':=by
 have e1:IntKind.i64.wrap ((i:Int)*228)=((228*i:Nat):Int):=by rw[show(i:Int)*228=((228*i:Nat):Int) by omega];exact IntWalk.i64_in _ (by omega)
 have e2:IntKind.i64.wrap ((i:Int)+1)=(i:Int)+1:=IntWalk.i64_in _ (by omega);have e3:IntKind.i64.wrap (((i:Int)+1)*228)=((228*i+228:Nat):Int):=by rw[show((i:Int)+1)*228=((228*i+228:Nat):Int) by omega];exact IntWalk.i64_in _ (by omega)
 have HP:=xh (show ∀b:Nat,(228*i+228<=v.size->b=228*i+228)->(v.size<228*i+228->b=v.size)->v.extract (228*i) b=⟨(cJ v.data.toList i).toArray⟩from λb h1 h2=>by
  apply nA;apply nz.1;show(v.extract (228*i) b).data.toList=cJ v.data.toList i;rw[exl'];unfold cJ
  rcases dZ v.size (228*i+228)with h|h
  .rw[h2 h,bJ (by simp),bJ (by simp;omega)]
  .rw[h1 h,show 228*i+228-228*i=228 by omega])
 go_enter Tryz.func171,Tryz.ntmps171;go_wp2_with fail
 all_goals
  go_ret;exact⟨by rw[HP.o _ (by omega) (by omega)];rfl,rfl⟩
def bl(l:List UInt8)(k:Nat):Nat:=(l.getD k 0).toNat*256+(l.getD (k+1) 0).toNat
theorem or8(a b:Nat)(ha:a<256)(hb:b<256):bits .or .i64 ((a:Int)*256) (b:Int)=((a*256+b:Nat):Int):=by
 rw[bits_join .i64 32 (by decide) (λn h0 h1=>IntWalk.i64_in n (by omega)) 8 _ _ (by omega) (by omega) (by omega) (by omega) (by omega) (by omega)];omega
theorem cm(s:ByteArray)(k:Nat)(h:k<s.size):s.data.toList.getD k 0=s[k]:=by
 have h2:k<s.data.toList.length:=by simpa using h
 simp only[List.getD,aN h2,kE,Array.getElem_toList];rfl
theorem jo(o:ag (b::F) w w')(hb:w.heap.size<=b):ag F w w':=o.mono (λx hx eT=>(aC.1 hx).elim (λe=>by omega) id)
theorem jq(o:ag F w w'):ag (b::F) w w':=o.mono (λ_ hx _=>bY _ hx)
theorem jr(o:ag [b] w w'):ag (b::F) w w':=o.mono (λ_ hx _=>by rw[cg.1 hx];exact gG ..)
def QS.dI(q:QS)(l:Int):QS×Int×List UInt8×Int:=
 if(q.cC l).2.2≠0 then((q.cC l).1,0,[],(q.cC l).2.2)else if 228<bl (q.cC l).2.1.data.toList 2 then((q.cC l).1,0,[],14)else((q.cC l).1,(bl (q.cC l).2.1.data.toList 0:Int)-1,((q.cC l).2.1.data.toList.drop 4).take (bl (q.cC l).2.1.data.toList 2),0)
theorem sD{q:QS}(h:Wp q n K){p:Int}(h0:(q.cC p).2.2=0):(q.cC p).2.1.size=232:=by
 rcases(h.get p).2 with⟨h1,h2⟩|⟨h1,h2⟩|⟨h1,h2⟩
 .rw[h2];show(q.vw p).1.toArray.size=232;simpa using h.len h1
 .rw[h2]at h0;exact absurd h0 (by decide)
 .rw[h2]at h0;exact absurd h0 (by decide)
def sE(n:Int)(s:ByteArray):Value:= .agg #[.int .i64 n,.string s]
theorem sF{fn:Func}{p u:Tmp}{tmps:Array Value}(h:fn.results= #[.cell p 262,.tmp u])(hp:tmps.getD p undef=.pointer (some ⟨g,0,none⟩))(B:aD w g 262 #[.int .i64 c,.string a]):
  (results fn tmps).run Tryz.prog w=.ok (.tuple #[sE c a,tmps.getD u undef]) w:=by
 have c0:=B.ab (i:=0) rfl;have c1:=B.ab (i:=1) rfl;rw[results_cell_tmp h,hp];clear h hp B;unfold sE;go_simp
theorem Bp{c':Int}{a':ByteArray}(B:aD w g 262 #[.int .i64 c,.string a]):
  aD ((w.setCell ⟨g,0,none⟩ (.int .i64 c')).setCell ⟨g,1,none⟩ (.string a')) g 262 #[.int .i64 c',.string a']/\ag [g] w ((w.setCell ⟨g,0,none⟩ (.int .i64 c')).setCell ⟨g,1,none⟩ (.string a'))/\
   w.cell? ⟨g,0,none⟩=some (.int .i64 c)/\w.cell? ⟨g,1,none⟩=some (.string a)/\w.frozen? ⟨g,0,none⟩=false/\w.frozen? ⟨g,1,none⟩=false:=
 ⟨(B.bu 0 _).bu 1 _,((ag.refl _ _).setCell (by simp) _).setCell (by simp) _,B.ab rfl,B.ab rfl,B.frozen 0 (by simp),B.frozen 1 (by simp)⟩
theorem En{q:QS}(h:PQ w I F q n K)(hK:K<=999999999999)(p:Int)(he:(q.cC p).2.2≠0):
  Calls Tryz.prog 204 #[pp I.pb,.int .i64 p] w λe w'=>e=.returned (.tuple #[sE 0 ⟨#[]⟩,.int .i64 (q.cC p).2.2])/\PQ w' I F (q.cC p).1 n (K+1)/\ag F w w':=by
 have O0:=xh (ae (Below.refl w.heap.size w) (.cells #[.int .i64 0,.string ⟨#[]⟩] 262));have B0:=xh (aD.new w 262 #[.int .i64 0,.string ⟨#[]⟩]);have NQ:=xh (show w.heap.size∉F from λhm=>by have:=h.lt _ hm;omega);have KG:=xh (nZ (h.below O0.o) hK p);have hq:((q.cC p).2.2 != 0)=true:=by rw[bne_iff_ne];exact he
 have lp:((q.cC p).2.2==0)=false:=by rw[beq_eq_false_iff_ne];exact he
 generalize q.cC p=R at *;obtain⟨q1,R1,R2⟩:=R;dsimp only at *;clear h he;unfold pp at *;go_enter Tryz.func204,Tryz.ntmps204;go_wp2_with fail;refine KG.o.mono ?_;rintro e w1 ⟨rfl,A1,o1⟩;have A1:=xh A1;have o1:=xh o1;obtain⟨B2,o2,c0,c1,z0,z1⟩:=Bp (c':=0) (a':=⟨#[]⟩) (B0.o.only o1.o NQ.o);have B2:=xh B2;have o2:=xh o2;go_wp2_with fail
 exact bodyPost_ret (sF rfl rfl B2.o) rfl ⟨rfl,(A1.o).aY o2.o NQ.o,jo (((ag.aj (S:=w.heap.size::F) O0.o).trans (jq o1.o)).trans (jr o2.o)) (ak _)⟩
theorem Bq{q:QS}(h:PQ w I F q n K)(hK:K<=999999999999)(p:Int)(he:(q.cC p).2.2=0)(H2:228<bl (q.cC p).2.1.data.toList 2):
  Calls Tryz.prog 204 #[pp I.pb,.int .i64 p] w λe w'=>e=.returned (.tuple #[sE 0 ⟨#[]⟩,.int .i64 14])/\PQ w' I F (q.cC p).1 n (K+1)/\ag F w w':=by
 have O0:=xh (ae (Below.refl w.heap.size w) (.cells #[.int .i64 0,.string ⟨#[]⟩] 262));have B0:=xh (aD.new w 262 #[.int .i64 0,.string ⟨#[]⟩]);have NQ:=xh (show w.heap.size∉F from λhm=>by have:=h.lt _ hm;omega);have KG:=xh (nZ (h.below O0.o) hK p);have mS:=sD h.wp he;rw[he]at KG;generalize q.cC p=R at *;obtain⟨q1,s,R2⟩:=R;dsimp only at *;have b0:=s[0].toNat_lt;have b1:=s[1].toNat_lt;have b2:=s[2].toNat_lt;have b3:=s[3].toNat_lt
 have V0:=xh (show bits .or .i64 ((s[0].toNat:Int)*256) (s[1].toNat:Int)=((bl s.data.toList 0:Nat):Int)from by
  rw[or8 _ _ (by omega) (by omega)];unfold bl;rw[cm _ _ (by omega),cm _ _ (by omega)])
 have V2:=xh (show bits .or .i64 ((s[2].toNat:Int)*256) (s[3].toNat:Int)=((bl s.data.toList 2:Nat):Int)from by
  rw[or8 _ _ (by omega) (by omega)];unfold bl;rw[cm _ _ (by omega),cm _ _ (by omega)])
 have m0:bl s.data.toList 0<=65535:=by unfold bl;rw[cm _ _ (by omega),cm _ _ (by omega)];simp only[bt];omega
 have u0:IntKind.i64.wrap (s[0].toNat:Int)=(s[0].toNat:Int):=IntWalk.i64_in _ (by omega);have u1:IntKind.i64.wrap (s[1].toNat:Int)=(s[1].toNat:Int):=IntWalk.i64_in _ (by omega);have u2:IntKind.i64.wrap (s[2].toNat:Int)=(s[2].toNat:Int):=IntWalk.i64_in _ (by omega);have u3:IntKind.i64.wrap (s[3].toNat:Int)=(s[3].toNat:Int):=IntWalk.i64_in _ (by omega);have u4:IntKind.i64.wrap ((s[0].toNat:Int)*256)=(s[0].toNat:Int)*256:=IntWalk.i64_in _ (by omega)
 have u5:IntKind.i64.wrap ((s[2].toNat:Int)*256)=(s[2].toNat:Int)*256:=IntWalk.i64_in _ (by omega);generalize bl s.data.toList 2=m2 at *;generalize bl s.data.toList 0=m1 at *;clear h he;unfold pp at *;go_enter Tryz.func204,Tryz.ntmps204;go_wp2_with fail;refine KG.o.mono ?_;rintro e w1 ⟨rfl,A1,o1⟩;have A1:=xh A1;have o1:=xh o1;go_wp2_with fail;go_quiet (fail);rw[V0.o,V2.o];obtain⟨B2,o2,c0,c1,z0,z1⟩:=Bp (c':=0) (a':=⟨#[]⟩) ((B0.o.only o1.o NQ.o).drewN nq)
 have B2:=xh B2;have o2:=xh (((ag.refl [w.heap.size] w1).drewN nq).trans o2);go_wp2_with fail;exact bodyPost_ret (sF rfl rfl B2.o) rfl ⟨rfl,(A1.o).aY o2.o NQ.o,jo (((ag.aj (S:=w.heap.size::F) O0.o).trans (jq o1.o)).trans (jr o2.o)) (ak _)⟩
theorem Hz{q:QS}(h:PQ w I F q n K)(hK:K<=999999999999)(p:Int)(he:(q.cC p).2.2=0)(H2:bl (q.cC p).2.1.data.toList 2<=228):
  Calls Tryz.prog 204 #[pp I.pb,.int .i64 p] w λe w'=>e=.returned (.tuple #[sE ((bl (q.cC p).2.1.data.toList 0:Int)-1) ⟨(((q.cC p).2.1.data.toList.drop 4).take (bl (q.cC p).2.1.data.toList 2)).toArray⟩,.int .i64 0])/\PQ w' I F (q.cC p).1 n (K+1)/\ag F w w':=by
 have O0:=xh (ae (Below.refl w.heap.size w) (.cells #[.int .i64 0,.string ⟨#[]⟩] 262));have B0:=xh (aD.new w 262 #[.int .i64 0,.string ⟨#[]⟩]);have NQ:=xh (show w.heap.size∉F from λhm=>by have:=h.lt _ hm;omega);have KG:=xh (nZ (h.below O0.o) hK p);have mS:=sD h.wp he;rw[he]at KG;generalize q.cC p=R at *;obtain⟨q1,s,R2⟩:=R;dsimp only at *;have b0:=s[0].toNat_lt;have b1:=s[1].toNat_lt;have b2:=s[2].toNat_lt;have b3:=s[3].toNat_lt
 have V0:=xh (show bits .or .i64 ((s[0].toNat:Int)*256) (s[1].toNat:Int)=((bl s.data.toList 0:Nat):Int)from by
  rw[or8 _ _ (by omega) (by omega)];unfold bl;rw[cm _ _ (by omega),cm _ _ (by omega)])
 have V2:=xh (show bits .or .i64 ((s[2].toNat:Int)*256) (s[3].toNat:Int)=((bl s.data.toList 2:Nat):Int)from by
  rw[or8 _ _ (by omega) (by omega)];unfold bl;rw[cm _ _ (by omega),cm _ _ (by omega)])
 have m0:bl s.data.toList 0<=65535:=by unfold bl;rw[cm _ _ (by omega),cm _ _ (by omega)];simp only[bt];omega
 have u0:IntKind.i64.wrap (s[0].toNat:Int)=(s[0].toNat:Int):=IntWalk.i64_in _ (by omega);have u1:IntKind.i64.wrap (s[1].toNat:Int)=(s[1].toNat:Int):=IntWalk.i64_in _ (by omega);have u2:IntKind.i64.wrap (s[2].toNat:Int)=(s[2].toNat:Int):=IntWalk.i64_in _ (by omega);have u3:IntKind.i64.wrap (s[3].toNat:Int)=(s[3].toNat:Int):=IntWalk.i64_in _ (by omega);have u4:IntKind.i64.wrap ((s[0].toNat:Int)*256)=(s[0].toNat:Int)*256:=IntWalk.i64_in _ (by omega)
 have u5:IntKind.i64.wrap ((s[2].toNat:Int)*256)=(s[2].toNat:Int)*256:=IntWalk.i64_in _ (by omega);have HX:=xh (show s.extract 4 (4+bl s.data.toList 2)=⟨((s.data.toList.drop 4).take (bl s.data.toList 2)).toArray⟩from by
  apply nA;apply nz.1;show(s.extract 4 (4+bl s.data.toList 2)).data.toList=(s.data.toList.drop 4).take (bl s.data.toList 2);rw[exl',show 4+bl s.data.toList 2-4=bl s.data.toList 2 by omega])
 generalize (⟨((s.data.toList.drop 4).take (bl s.data.toList 2)).toArray⟩:ByteArray)=P at *;generalize bl s.data.toList 2=m2 at *;generalize bl s.data.toList 0=m1 at *;have u6:IntKind.i64.wrap ((m1:Int)-1)=(m1:Int)-1:=IntWalk.i64_in _ (by omega);have u7:IntKind.i64.wrap (4+(m2:Int))=4+(m2:Int):=IntWalk.i64_in _ (by omega);have u8:(4+(m2:Int)).toNat=4+m2:=by omega
 clear h he;unfold pp at *;go_enter Tryz.func204,Tryz.ntmps204;go_wp2_with fail;refine KG.o.mono ?_;rintro e w1 ⟨rfl,A1,o1⟩;have A1:=xh A1;have o1:=xh o1;go_wp2_with fail;go_quiet (fail);rw[V0.o,V2.o];obtain⟨B2,o2,c0,c1,z0,z1⟩:=Bp (c':=(m1:Int)-1) (a':=s.extract 4 (4+m2)) ((B0.o.only o1.o NQ.o).drewN nq);have B2:=xh B2;have o2:=xh (((ag.refl [w.heap.size] w1).drewN nq).trans o2);go_wp2_with fail
 exact bodyPost_ret (sF rfl rfl B2.o) rfl ⟨by rw[HX.o];rfl,(A1.o).aY o2.o NQ.o,jo (((ag.aj (S:=w.heap.size::F) O0.o).trans (jq o1.o)).trans (jr o2.o)) (ak _)⟩
theorem Eo{q:QS}(h:PQ w I F q n K)(hK:K<=999999999999)(p:Int):
  Calls Tryz.prog 204 #[pp I.pb,.int .i64 p] w λe w'=>e=.returned (.tuple #[sE (q.dI p).2.1 ⟨(q.dI p).2.2.1.toArray⟩,.int .i64 (q.dI p).2.2.2])/\PQ w' I F (q.dI p).1 n (K+1)/\ag F w w':=by
 unfold QS.dI
 by_cases h0:(q.cC p).2.2=0
 .rw[if_neg (by simpa using h0)]
  by_cases h1:228<bl (q.cC p).2.1.data.toList 2
  .rw[if_pos h1];exact Bq h hK p h0 h1
  .rw[if_neg h1];exact Hz h hK p h0 (by omega)
 .rw[if_pos h0];exact En h hK p h0
end Go.Proofs.YtmonobkginiajaaGreat.Sh
