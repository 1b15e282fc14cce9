/- packed. -/
import Derived.Test.YtmonobkginiajaaGreatC7
import Derived.Test.YtmonobkginiajaaGreatC6
import Derived.Deep.QuietTactic
import Derived.Defers
import Derived.Recover
import Derived.Test.YtmonobkginiajaaGreatC5
import Derived.Test.YtmonobkginiajaaGreatC4
set_option linter.all false
set_option maxRecDepth 100000
set_option maxHeartbeats 8000000
namespace Go.Proofs.YtmonobkginiajaaGreat.Sh
open Go.RowKit Pk Dk Pg
variable{x:Int}{t:List Int}
theorem r8:∀(L M:List Int),L.Nodup->(∀x∈L,x∈M)->L.length<=M.length
 |[],_,_,_=>bm _
 |x::L,M,hn,hs=>by
  obtain⟨h1,h2⟩:=kD.1 hn;have hx:x∈M:=hs x (gG ..);have:=r8 L (M.erase x) h2 (λy hy=>(List.mem_erase_of_ne (λe:y=x=>h1 (by rw[<-e];exact hy))).2 (hs y (bY _ hy)));rw[List.length_erase_of_mem hx]at this;have:0<M.length:=List.length_pos_of_mem hx;simp;omega
theorem nW{L M:List Int}(hl:L.Nodup)(hm:M.Nodup)(h:∀x,x∈L↔x∈M):L.length=M.length:=
 Nat.le_antisymm (r8 L M hl (λx hx=>(h x).1 hx)) (r8 M L hm (λx hx=>(h x).2 hx))
theorem r9(l:List Int)(k:Int)(n:Nat)(x:Int):x∈Fm.mX l k n↔ ∃i:Nat,x=i/\i<n/\l.getD i 0=k:=by
 induction n with
 |zero=>simp[Fm.mX]
 |succ n ih=>
  simp only[Fm.mX,aS,ih]
  constructor
  .rintro(⟨i,e,h,g⟩|h)
   .exact⟨i,e,by omega,g⟩
   .by_cases hk:l.getD n 0=k
    .rw[if_pos hk]at h;exact⟨n,by simpa using h,by omega,hk⟩
    .rw[if_neg hk]at h;simp at h
  .rintro⟨i,e,h,g⟩
   rcases lW.1 h with h|rfl
   .exact .inl ⟨i,e,h,g⟩
   .rw[if_pos g];exact .inr (by simpa using e)
theorem eE{l:List Int}{k:Int} :x∈Fm.k9 l k↔ ∃i:Nat,x=i/\i<l.length/\l.getD i 0=k:=r9 l k l.length x
theorem wH(l:List Int)(k:Int)(n:Nat):(Fm.mX l k n).Nodup:=by
 induction n with
 |zero=>exact lT
 |succ n ih=>
  simp only[Fm.mX]
  split
  .rw[fU];refine⟨ih,by simp,λa ha b hb e=>?_⟩;obtain⟨i,e1,h,_⟩:=(r9 l k n a).1 ha;simp at hb;omega
  .simpa using ih
theorem iL(l:List Int)(k:Int):(Fm.k9 l k).Nodup:=wH l k l.length
def upto:Nat->List Int
 |0=>[]
 |n+1=>upto n++[(n:Int)]
theorem qg:∀n,(upto n).length=n
 |0=>rfl
 |n+1=>by simp[upto,qg n]
theorem xX(n:Nat)(x:Int):x∈upto n↔0<=x/\x<n:=by
 induction n with
 |zero=>simp[upto];try omega
 |succ n ih=>simp only[upto,aS,ih,cg];omega
theorem AN(n:Nat):(upto n).Nodup:=by
 induction n with
 |zero=>exact lT
 |succ n ih=>
  simp only[upto];rw[fU];refine⟨ih,by simp,λa ha b hb e=>?_⟩;have:=(xX n a).1 ha;simp at hb;omega
def uc(t:List Int):Prop:= ∀(i j:Nat) (x:Int),t[i]?=some x->t[j]?=some x->0<=x->i=j
def ids(t:List Int):List Int:=t.filter (λx=>decide (0<=x))
theorem iF :x∈ids t↔x∈t/\0<=x:=by simp[ids]
theorem uc.tail(h:uc (x::t)):uc t:=λi j y hi hj h0=>by
 have:=h (i+1) (j+1) y (by simpa using hi) (by simpa using hj) h0;omega
theorem gq:∀{t:List Int},uc t->(ids t).Nodup
 |[],_=>lT
 |x::t,h=>by
  have ih:=gq h.tail;unfold ids at ih ⊢;rw[List.filter_cons]
  split
  .rename_i hx;rw[kD];refine⟨λhm=>?_,ih⟩;obtain⟨hm,_⟩:=iF.1 hm;obtain⟨k,hk⟩:=kA hm;have:=h 0 (k+1) x rfl (by simpa using hk) (by simpa using hx);omega
  .exact ih
theorem uc.bu(h:uc t)(k:Nat)(u:Int)(hu:u<0\/u∉t):uc (t.set k u):=by
 intro i j x hi hj h0;rw[fq]at hi hj
 by_cases e1:k=i<;>by_cases e2:k=j
 .omega
 .rw[if_pos e1]at hi;rw[if_neg e2]at hj
  split at hi
  .injection hi with hi
   subst hi
   rcases hu with hu|hu
   .omega
   .exact absurd (az hj) hu
  .cases hi
 .rw[if_neg e1]at hi;rw[if_pos e2]at hj
  split at hj
  .injection hj with hj
   subst hj
   rcases hu with hu|hu
   .omega
   .exact absurd (az hi) hu
  .cases hj
 .rw[if_neg e1]at hi;rw[if_neg e2]at hj;exact h i j x hi hj h0
theorem uc.app(h:uc t)(u:Int)(hu:u<0\/u∉t):uc (t++[u]):=by
 intro i j x hi hj h0;have key:∀i,(t++[u])[i]?=some x->(t[i]?=some x)\/(i=t.length/\x=u):=by
  intro i hi
  rcases Nat.lt_trichotomy i t.length with hl|rfl|hl
  .rw[bx hl]at hi;exact .inl hi
  .rw[dF (ak _)]at hi;simp at hi;exact .inr ⟨rfl,hi.symm⟩
  .rw[dF (by omega),fo (by simp;omega)]at hi;cases hi
 rcases key i hi with a|⟨a,b⟩<;>rcases key j hj with c|⟨c,d⟩
 .exact h i j x a c h0
 .subst d
  rcases hu with hu|hu
  .omega
  .exact absurd (az a) hu
 .subst b
  rcases hu with hu|hu
  .omega
  .exact absurd (az c) hu
 .omega
theorem xY{k:Nat}{u:Int}(h:uc t)(hk:t[k]?=some u)(v:Int)(h0:0<=x)(hv:v<0)(hu:0<=u):x∈t.set k v↔x∈t/\x≠u:=by
 constructor
 .intro hx;obtain⟨i,hi⟩:=kA hx;rw[fq]at hi
  by_cases e:k=i
  .rw[if_pos e]at hi
   split at hi
   .injection hi with hi;omega
   .cases hi
  .rw[if_neg e]at hi;refine⟨az hi,λe2=>e ?_⟩;subst e2;exact h k i x hk hi h0
 .rintro⟨hx,eG⟩;obtain⟨i,hi⟩:=kA hx;have:(t.set k v)[i]?=some x:=by
   rw[fq,if_neg (λe=>eG (by subst e;rw[hk]at hi;injection hi with hi;exact hi.symm))];exact hi
  exact az this
structure St where
 many:Nat
 now:List (Option (Bool×List UInt8))
 bM:List (Option (List UInt8))
 ep:Int
def ed:Option (Bool×List UInt8)->Bool
 |some (b,_)=>b
 |none=>false
def uI(k:Nat):Nat:=(k+115) / 116
def St.fresh(a:St):Nat:=a.now.countP ed
def St.kept(a:St):Nat:=a.bM.countP Option.isSome+uI a.bM.length
def St.free(a:St):Nat:=a.many-a.kept-a.fresh
def St.slot(a:St):Nat:=a.now.findIdx Option.isNone
def kR{α:Type}(t:List α)(l:Nat)(u:α):List α:=if l=t.length then t++[u]else t.set l u
def St.at(a:St)(l:Int):Option (Bool×List UInt8):=if 0<=l then(a.now[l.toNat]?).getD none else none
def St.bh(a:St)(p:List UInt8):St×Int×Int:=
 if 232<p.length then(a,0,4)
 else if 512<=a.slot\/a.free=0 then(a,0,11)
 else({a with now:=kR a.now a.slot (some (true,dh p 232))},(a.slot:Nat),0)
def St.aI(a:St)(l:Int):St×Int:=if(a.at l).isSome=true then({a with now:=a.now.set l.toNat none},0)else(a,3)
def St.aA(a:St)(l:Int):List UInt8×Int:=match a.at l with
 |some (_,b)=>(b,0)
 |none=>([],3)
def GR(d:D)(n:Nat)(x ep:Int):Prop:= ∃q s,0<=q/\q<=ep/\s.length=232/\bj d n x=(⟨x,q,2,s⟩,0)
def cI(c:C)(x:Int):Int:=if x∈c.parts then 1 else if x∈c.bM then(if x∈c.table then 1 else 3)else if x∈c.table then 2 else 0
structure Good(c:C)(n:Nat):Prop where
 up:c.d.down=false
 arm:c.d.aT=0
 br:c.broken=false
 ok:c.d.Ok n
 ml:c.m.length=dW n
 ep:1<=c.ep/\c.ep<1099511627776
 sl:c.slot=0\/c.slot=1
 ti:∀x∈c.table,x= -1\/(0<=x/\x<c.m.length)
 oi:∀x∈c.bM,x= -1\/(0<=x/\x<c.m.length)
 pi:∀x∈c.parts,0<=x/\x<c.m.length
 tj:uc c.table
 oj:uc c.bM
 pj:uc c.parts
 dt:∀x∈c.parts,x∉c.table/\x∉c.bM
 pl:c.parts.length=uI c.bM.length
 sm:∀(i:Nat) (x:Int),c.table[i]?=some x->0<=x->x∈c.bM->c.bM[i]?=some x
 md:∀i:Nat,i<c.m.length->c.m.getD i 0=cI c i
 rt:∀x∈c.table,0<=x->GR c.d n x (c.ep+1)
 ro:∀x∈c.bM,0<=x->GR c.d n x c.ep
def C.dr(c:C)(n:Nat)(x:Int):Option (Bool×List UInt8):=if x<0 then none else some (decide (x∉c.bM),(bj c.d n x).1.s)
def C.bP(c:C)(n:Nat):St:={many:=c.m.length,now:=c.table.map (c.dr n),bM:=c.bM.map λx=>if x<0 then none else some (bj c.d n x).1.s,ep:=c.ep}
theorem mZ{c:C}{n:Nat}(g:Good c n):(Fm.k9 c.m 0).length=(c.bP n).free/\(c.bP n).fresh+(c.bP n).kept<=c.m.length:=by
 obtain⟨F,hF⟩:∃F,F=(ids c.table).filter (λx=>decide (x∉c.bM)):=⟨_,rfl⟩;have hFl:F.length=(c.bP n).fresh:=by
  rw[hF];unfold St.fresh C.bP ids;rw[zQ,<-ry,vD];apply oQ;intro x hx;simp only[Function.comp,C.dr]
  by_cases h:x<0
  .rw[if_pos h];simp[ed];omega
  .rw[if_neg h];simp[ed];omega
 have hKl:(c.parts++ids c.bM).length=(c.bP n).kept:=by
  unfold St.kept C.bP ids;rw[aU,g.pl,<-ry,vD,j0];have:c.bM.countP (λx=>decide (0<=x))=c.bM.countP (Option.isSome ∘ λx=>if x<0 then none else some (bj c.d n x).1.s):=by
   apply oQ;intro x hx;simp only[Function.comp]
   by_cases h:x<0
   .rw[if_pos h];simp;omega
   .rw[if_neg h];simp;omega
  omega
 have hmF:∀x,x∈F↔x∈c.table/\0<=x/\x∉c.bM:=by
  intro x;rw[hF,zY,iF];simp[and_assoc]
 have Aa:(Fm.k9 c.m 0++F++(c.parts++ids c.bM)).Nodup:=by
  rw[fU,fU,fU];have hp:c.parts.Nodup:=by
   have:=gq g.pj
   rwa [show ids c.parts=c.parts from zP.2 (λx hx=>by simpa using (g.pi x hx).1)]at this
  refine⟨⟨iL _ _,?_,?_⟩,⟨hp,gq g.oj,?_⟩,?_⟩
  .rw[hF];exact(gq g.tj).sublist zR
  .intro x hx y hy e;subst e;obtain⟨i,rfl,hi,h0⟩:=eE.1 hx;rw[g.md i hi]at h0;obtain⟨h1,h2,h3⟩:=(hmF _).1 hy;unfold cI at h0;rw[if_neg h3,if_pos h1]at h0
   split at h0<;>omega
  .intro x hx y hy e;subst e;exact(g.dt x hx).2 (iF.1 hy).1
  .intro x hx y hy e;subst e
   rcases aS.1 hx with hx|hx
   .obtain⟨i,rfl,hi,h0⟩:=eE.1 hx;rw[g.md i hi]at h0;unfold cI at h0
    rcases aS.1 hy with hy|hy
    .rw[if_pos hy]at h0;omega
    .rw[if_pos (iF.1 hy).1]at h0
     split at h0
     .omega
     .split at h0<;>omega
   .obtain⟨h1,h2,h3⟩:=(hmF _).1 hx
    rcases aS.1 hy with hy|hy
    .exact(g.dt x hy).1 h1
    .exact h3 (iF.1 hy).1
 have hlen:=nW Aa (AN c.m.length) (λx=>by
  rw[xX,aS,aS,aS,eE,hmF,iF]
  constructor
  .rintro((⟨i,rfl,hi,_⟩|⟨h1,h2,_⟩)|(h|⟨h1,h2⟩))
   .omega
   .have:=g.ti x h1;omega
   .exact g.pi x h
   .have:=g.oi x h1;omega
  .rintro⟨h0,h1⟩
   by_cases a1:x∈c.parts
   .exact .inr (.inl a1)
   by_cases a2:x∈c.bM
   .exact .inr (.inr ⟨a2,h0⟩)
   by_cases a3:x∈c.table
   .exact .inl (.inr ⟨a3,h0,a2⟩)
   refine .inl (.inl ⟨x.toNat,by omega,by omega,?_⟩);rw[g.md _ (by omega),show((x.toNat:Nat):Int)=x by omega];unfold cI;rw[if_neg a1,if_neg a2,if_neg a3])
 rw[qg,aU,aU,hKl,hFl]at hlen;refine⟨?_,by omega⟩;unfold St.free;show _=c.m.length-_-_;omega
variable{t:List Int}{x:Int}{c:C}{n k:Nat}
theorem qh{α β:Type}(f:α->β)(p:β->Bool)(q:α->Bool):∀(t:List α),(∀x∈t,p (f x)=q x)->(t.map f).findIdx p=t.findIdx q
 |[],_=>rfl
 |x::t,h=>by
  have h0:=h x (gG ..);have ih:=qh f p q t (λy hy=>h y (bY _ hy));rw[eW,zS,zS,h0,ih]
theorem GS(h:fA t<t.length):t[fA t]?=some (-1):=by
 unfold fA Fm.cH at h ⊢;have:=mO (p:=(· ==(-1:Int))) (xs:=t) (w:=h);rw[aN h];simpa using this
theorem km{α:Type}(t:List α)(l:Nat)(u:α)(hl:l<=t.length)(i:Nat):(kR t l u)[i]?=if i=l then some u else t[i]?:=by
 unfold kR
 by_cases h:l=t.length
 .rw[if_pos h];subst h
  rcases Nat.lt_trichotomy i t.length with h1|rfl|h1
  .rw[if_neg (by omega),bx h1]
  .rw[if_pos rfl,dF (ak _)];simp
  .rw[if_neg (by omega),dF (by omega),fo (by simp;omega),fo (by omega)]
 .rw[if_neg h,fq]
  by_cases e:l=i
  .subst e;rw[if_pos rfl,if_pos (by omega),if_pos rfl]
  .rw[if_neg e,if_neg (by omega)]
theorem ri(t:List Int)(l:Nat)(u:Int):mY t l u=kR t l u:=rfl
theorem GU{u:Int}(h0:0<=x):x∈mY t (fA t) u↔x=u\/x∈t:=by
 rw[ri];have hl:=rY t
 constructor
 .intro hx;obtain⟨i,hi⟩:=kA hx;rw[km t _ u hl]at hi
  split at hi
  .injection hi with hi;exact .inl hi.symm
  .exact .inr (az hi)
 .rintro(rfl|hx)
  .have:=km t _ x hl (fA t);rw[if_pos rfl]at this;exact az this
  .obtain⟨i,hi⟩:=kA hx;have:=km t _ u hl i;rw[if_neg]at this
   .exact az (this.trans hi)
   .rintro rfl;have eT:fA t<t.length:=(aR.1 hi).1;rw[GS eT]at hi;injection hi with hi
    omega
theorem uc.mY(h:uc t)(l:Nat)(u:Int)(hu:u∉t):uc (mY t l u):=by
 unfold Sh.mY
 split
 .exact h.app u (.inr hu)
 .exact h.bu l u (.inr hu)
theorem GV{α β:Type}(f:α->β)(t:List α)(l:Nat)(u:α):(kR t l u).map f=kR (t.map f) l (f u):=by
 unfold kR;rw[j0]
 split
 .simp
 .rw[oU]
theorem AO{α β:Type}(f g:α->β)(t:List α)(l:Nat)(u:β)(h:∀x∈t,f x=g x):kR (t.map f) l u=kR (t.map g) l u:=by
 rw[jz h]
theorem GW(g:Good c n):(c.bP n).slot=fA c.table:=by
 unfold St.slot C.bP fA Fm.cH;refine qh _ _ _ _ (λx hx=>?_);unfold C.dr
 rcases g.ti x hx with rfl|⟨h0,_⟩
 .simp
 .rw[if_neg (by omega)];simp;omega
theorem pz(g:Good c n)(hf:(c.bP n).free≠0):∃k:Nat,k<c.m.length/\cI c k=0/\Fm.cr c.m=(c.m.set k 2,((k:Nat):Int),0):=by
 have hl:=(mZ g).1;obtain⟨x,hx⟩:∃x,x∈Fm.k9 c.m 0:=by
  cases h:Fm.k9 c.m 0 with
  |nil=>rw[h]at hl;simp at hl;omega
  |cons x l=>exact⟨x,gG ..⟩
 obtain⟨i,rfl,hi,h0⟩:=eE.1 hx;have eT:Fm.cH c.m 0<c.m.length:=by
  unfold Fm.cH;rw[List.findIdx_lt_length];refine⟨c.m[i],ik hi,?_⟩;simp[List.getD,aN hi]at h0;simp[h0]
 refine⟨Fm.cH c.m 0,eT,?_,by unfold Fm.cr;rw[if_pos eT]⟩;rw[<-g.md _ eT];have:=mO (p:=(· ==(0:Int))) (xs:=c.m) (w:=eT);simp[List.getD];unfold Fm.cH at eT ⊢;rw[aN eT];simpa using this
theorem pA(g:Good c n)(hf:(c.bP n).free=0):Fm.cr c.m=(c.m,0,11):=by
 have hl:=(mZ g).1;rw[hf]at hl;unfold Fm.cr;rw[if_neg];intro eT;have:=mO (p:=(· ==(0:Int))) (xs:=c.m) (w:=eT);have hm:((Fm.cH c.m 0:Nat):Int)∈Fm.k9 c.m 0:=eE.2 ⟨_,rfl,eT,by
  simp[List.getD];unfold Fm.cH at eT ⊢;rw[aN eT];simpa using this⟩
 rw[mN hl]at hm;simp at hm
theorem CJ(h:cI c x=0):x∉c.parts/\x∉c.bM/\x∉c.table:=by
 unfold cI at h
 split at h
 .omega
 .split at h
  .split at h<;>omega
  .split at h
   .omega
   .exact⟨by assumption,by assumption,by assumption⟩
theorem kn(g:Good c n)(h:k<c.m.length):k<bz n:=by
 have:=g.ml;unfold dW at this;omega
theorem se{d:D}(h:d.Ok n)(id ep kd:Int)(s:List UInt8):(aP d n id ep kd s).1.Ok n:=by
 unfold aP
 split
 .exact h
 .split
  .exact h
  .exact rQ h _ _ _
theorem sg(g:Good c n)(hk:k<c.m.length)(h0:cI c k=0)(p:List UInt8)(hp:p.length<=232):
  (aP c.d n k (c.ep+1) 2 p).2=0/\∀d',d'=(aP c.d n k (c.ep+1) 2 p).1->d'.down=false/\d'.aT=0/\d'.Ok n/\d'.calls<=c.d.calls+4/\bj d' n k=(⟨k,c.ep+1,2,dh p 232⟩,0)/\
   (∀x∈c.table,0<=x->bj d' n x=bj c.d n x)/\∀x∈c.bM,0<=x->bj d' n x=bj c.d n x:=by
 have e:=g.ep;obtain⟨h1,h2,h3,h4,h5⟩:=kP g.ok g.up g.arm k (c.ep+1) 2 p (kn g hk) (by rw[lZ];omega) hp;obtain⟨z1,z2,z3⟩:=CJ h0;refine⟨h1,λd' hd=>?_⟩;subst hd;refine⟨h2,h3,se g.ok _ _ _ _,(uz _ _ _ _ _ _ (by rw[g.arm];omega)).1,h4,λx hx AQ=>?_,λx hx AQ=>?_⟩
 .have:=g.ti x hx;have:=h5 x.toNat (kn g (by omega)) (λe=>z3 (by rw[<-e];rwa [show((x.toNat:Nat):Int)=x by omega]))
  rwa [show((x.toNat:Nat):Int)=x by omega]at this
 .have:=g.oi x hx;have:=h5 x.toNat (kn g (by omega)) (λe=>z2 (by rw[<-e];rwa [show((x.toNat:Nat):Int)=x by omega]))
  rwa [show((x.toNat:Nat):Int)=x by omega]at this
theorem lE(p:List UInt8)(h:p.length<=232):(dh p 232).length=232:=by unfold dh;simp;omega
theorem ko(l:List Int)(k:Nat)(x:Int)(i:Nat)(hi:i<l.length):(l.set k x).getD i 0=if k=i then x else l.getD i 0:=by
 simp only[List.getD,fq]
 by_cases h:k=i
 .subst h;simp[hi]
 .simp[h]
theorem new_ok{c:C}{n:Nat}(g:Good c n){k:Nat}(hk:k<c.m.length)(h0:cI c k=0)(p:List UInt8)(hp:p.length<=232){d':D}(hd:d'=(aP c.d n k (c.ep+1) 2 p).1){c':C}(hc:c'={c with m:=c.m.set k 2,d:=d',table:=mY c.table (fA c.table) k}):
  Good c' n/\c'.bP n={c.bP n with now:=kR (c.bP n).now (fA c.table) (some (true,dh p 232))}:=by
 obtain⟨_,W⟩:=sg g hk h0 p hp;obtain⟨w1,w2,w3,w4,w5,w6,w7⟩:=W d' hd;obtain⟨z1,z2,z3⟩:=CJ h0;have Dw:=g.ep;have mt:∀x,0<=x->(x∈c'.table↔x=k\/x∈c.table):=λx hx=>by subst hc;exact GU hx
 have xU:=rY c.table;have GX:∀x:Int,0<=x->cI c' x=if x=k then 2 else cI c x:=by
  intro x hx;unfold cI
  by_cases e:x=k
  .rw[if_pos e];subst e;rw[if_neg (by subst hc;exact z1),if_neg (by subst hc;exact z2),if_pos ((mt _ hx).2 (.inl rfl))]
  .rw[if_neg e];have:(x∈c'.table)↔x∈c.table:=(mt x hx).trans ⟨λh=>h.resolve_left e,.inr⟩;rw[show c'.parts=c.parts from by rw[hc],show c'.bM=c.bM from by rw[hc]];simp only[this]
 refine⟨⟨by rw[hc];exact w1,by rw[hc];exact w2,by rw[hc];exact g.br,by rw[hc];exact w3,?_,by rw[hc];exact g.ep,by rw[hc];exact g.sl,?_,?_,?_,?_,by rw[hc];exact g.oj,by rw[hc];exact g.pj,?_,by rw[hc];exact g.pl,?_,?_,?_,?_⟩,?_⟩
 .rw[hc];show(c.m.set k 2).length=_;rw[bH];exact g.ml
 .intro x hx;have qI:c'.m.length=c.m.length:=by rw[hc];show(c.m.set k 2).length=_;rw[bH]
  rw[qI]
  by_cases h:0<=x
  .rcases(mt x h).1 hx with rfl|hx
   .omega
   .exact g.ti x hx
  .obtain⟨i,hi⟩:=kA hx;rw[hc]at hi;have hi:(mY c.table (fA c.table) k)[i]?=some x:=hi;rw[ri,km _ _ _ xU]at hi
   split at hi
   .injection hi with hi;omega
   .exact g.ti x (az hi)
 .intro x hx;rw[hc]at hx ⊢;show _\/_/\x<((c.m.set k 2).length:Int);rw[bH];exact g.oi x hx
 .intro x hx;rw[hc]at hx ⊢;show _/\x<((c.m.set k 2).length:Int);rw[bH];exact g.pi x hx
 .rw[hc];exact g.tj.mY _ _ z3
 .intro x hx;have h:=g.dt x (by rw[hc]at hx;exact hx);have AQ:=(g.pi x (by rw[hc]at hx;exact hx)).1;refine⟨λh1=>?_,by rw[hc];exact h.2⟩
  rcases(mt x AQ).1 h1 with rfl|h1
  .rw[hc]at hx;exact z1 hx
  .exact h.1 h1
 .intro i x hi hx ho;rw[hc]at hi ho ⊢;have hi:(mY c.table (fA c.table) k)[i]?=some x:=hi;rw[ri,km _ _ _ xU]at hi
  split at hi
  .injection hi with hi
   subst hi;exact absurd ho z2
  .exact g.sm i x hi hx ho
 .intro i hi;have hi:i<c.m.length:=by rw[hc]at hi;simpa using hi
  rw[GX i (by omega),<-g.md i hi,hc];show(c.m.set k 2).getD i 0=_;rw[ko _ _ _ _ hi]
  by_cases e:k=i
  .rw[if_pos e,if_pos (by omega)]
  .rw[if_neg e,if_neg (by omega)]
 .intro x hx AQ
  rcases(mt x AQ).1 hx with rfl|hx
  .rw[hc];exact⟨c.ep+1,_,by omega,gE _,lE p hp,w5⟩
  .obtain⟨q,s,q1,q2,q3,q4⟩:=g.rt x hx AQ;rw[hc];exact⟨q,s,q1,q2,q3,(w6 x hx AQ).trans q4⟩
 .intro x hx AQ;rw[hc]at hx ⊢;obtain⟨q,s,q1,q2,q3,q4⟩:=g.ro x hx AQ;exact⟨q,s,q1,q2,q3,(w7 x hx AQ).trans q4⟩
 .rw[hc];unfold C.bP;simp only[bH,St.mk.injEq,true_and,and_true];refine⟨?_,?_⟩
  .rw[ri,GV];have e1:C.dr {c with m:=c.m.set k 2,d:=d',table:=kR c.table (fA c.table) k} n (k:Int)=some (true,dh p 232):=by
    unfold C.dr;rw[if_neg (by omega)];simp only[w5];simp[z2]
   rw[e1];refine AO _ _ _ _ _ (λx hx=>?_);unfold C.dr
   by_cases h:x<0
   .rw[if_pos h,if_pos h]
   .rw[if_neg h,if_neg h];simp only[w6 x hx (by omega)]
  .refine jz (λx hx=>?_)
   by_cases h:x<0
   .rw[if_pos h,if_pos h]
   .rw[if_neg h,if_neg h];simp only[w7 x hx (by omega)]
theorem GY(g:Good c n)(p:List UInt8):
  Good (c.bh n p).1 n/\(c.bh n p).1.bP n=((c.bP n).bh p).1/\(c.bh n p).2=((c.bP n).bh p).2/\(c.bh n p).1.d.calls<=c.d.calls+4/\(c.bh n p).1.bM=c.bM/\(c.bh n p).1.parts=c.parts:=by
 unfold C.bh St.bh;rw[if_neg (by rw[g.br];simp),GW g]
 by_cases h1:232<p.length
 .rw[if_pos h1,if_pos h1];exact⟨g,rfl,rfl,by show c.d.calls<=_;omega,rfl,rfl⟩
 rw[if_neg h1,if_neg h1]
 by_cases h2:512<=fA c.table
 .rw[if_pos h2,if_pos (.inl h2)];exact⟨g,rfl,rfl,by show c.d.calls<=_;omega,rfl,rfl⟩
 rw[if_neg h2]
 by_cases h3:(c.bP n).free=0
 .have ht:=pA g h3;have hf:c.bo n p=(c,0,11):=by
   unfold C.bo;rw[ht,if_pos (by simp)]
  rw[hf,if_pos (by simp),if_pos (.inr h3)];exact⟨g,rfl,rfl,by show c.d.calls<=_;omega,rfl,rfl⟩
 .obtain⟨k,hk,h0,ht⟩:=pz g h3;obtain⟨W0,W⟩:=sg g hk h0 p (by omega);have hf:c.bo n p=({c with m:=c.m.set k 2,d:=(aP c.d n k (c.ep+1) 2 p).1},(k:Int),0):=by
   unfold C.bo;rw[ht,if_neg (by simp),if_neg (by rw[W0];simp)]
  rw[hf,if_neg (by simp),if_neg (by omega)];obtain⟨G,e⟩:=new_ok g hk h0 p (by omega) rfl (c':={c with m:=c.m.set k 2,d:=(aP c.d n k (c.ep+1) 2 p).1,table:=mY c.table (fA c.table) k}) rfl;exact⟨G,e,rfl,(W _ rfl).2.2.2.1,rfl,rfl⟩
variable{c:C}{n:Nat}
theorem abs_at(l:Int):(c.bP n).at l=if 0<=l then((c.table[l.toNat]?).map (c.dr n)).getD none else none:=by
 unfold St.at C.bP;simp only[ij]
theorem rj(g:Good c n)(l:Int):(c.mC l=true↔((c.bP n).at l).isSome=true)/\(c.mC l=true->∃k x:Nat,l=k/\c.table[k]?=some (x:Int)/\(x:Int)<c.m.length/\(c.bP n).at l=c.dr n x):=by
 rw[abs_at];have key:c.mC l=true↔0<=l/\∃x,c.table[l.toNat]?=some x/\0<=x:=by
  unfold C.mC;simp only[jM,decide_eq_true_eq]
  constructor
  .rintro⟨⟨h1,h2⟩,h3⟩;refine⟨h1,c.table.getD l.toNat 0,?_,h3⟩;rw[aN (by omega)];simp[List.getD,aN (show l.toNat<c.table.length by omega)]
  .rintro⟨h1,x,h2,h3⟩;have hl:l.toNat<c.table.length:=(aR.1 h2).1;refine⟨⟨h1,by omega⟩,?_⟩;simp[List.getD,h2];exact h3
 rw[key]
 constructor
 .constructor
  .rintro⟨h1,x,h2,h3⟩;rw[if_pos h1,h2];simp[C.dr];omega
  .intro h
   by_cases h1:0<=l
   .rw[if_pos h1]at h;refine⟨h1,?_⟩
    cases h2:c.table[l.toNat]? with
    |none=>rw[h2]at h;simp at h
    |some x=>
     refine⟨x,rfl,?_⟩;rw[h2]at h;simp[C.dr]at h;omega
   .rw[if_neg h1]at h;simp at h
 .rintro⟨h1,x,h2,h3⟩;have:=g.ti x (az h2);obtain⟨xn,rfl⟩:=dn h3;refine⟨l.toNat,xn,by omega,h2,by omega,?_⟩;rw[if_pos h1,h2];rfl
theorem si(g:Good c n)(l:Int):c.gh l=if c.mC l=true then 0 else 3:=by
 unfold C.gh;rw[if_neg (by rw[g.br];simp)]
theorem pB(g:Good c n)(l:Int):c.aA n l=(c.bP n).aA l:=by
 obtain⟨h1,h2⟩:=rj g l;unfold C.aA St.aA;rw[si g]
 by_cases hh:c.mC l=true
 .obtain⟨k,x,rfl,hk,hx,e⟩:=h2 hh;rw[if_pos hh,if_neg (by simp),e];obtain⟨q,s,q1,q2,q3,q4⟩:=g.rt x (az hk) (by omega);have e2:c.table.getD ((k:Nat):Int).toNat 0=(x:Int):=by rw[show((k:Nat):Int).toNat=k by omega];simp[List.getD,hk]
  rw[e2,q4,if_neg (by simp)];unfold C.dr;rw[if_neg (by omega),q4]
 .rw[if_neg hh,if_pos (by simp)];have:((c.bP n).at l)=none:=by
   cases h:(c.bP n).at l with
   |none=>rfl
   |some v=>exact absurd (h1.2 (by rw[h];rfl)) hh
  rw[this]
theorem xZ(g:Good c n){l:Int}(h:((c.bP n).aA l).2=0):((c.bP n).aA l).1.length=232:=by
 obtain⟨h1,h2⟩:=rj g l
 by_cases hh:c.mC l=true
 .obtain⟨k,x,rfl,hk,hx,e⟩:=h2 hh;obtain⟨q,s,q1,q2,q3,q4⟩:=g.rt x (az hk) (by omega);unfold St.aA;rw[e];unfold C.dr;rw[if_neg (by omega),q4];exact q3
 .have:((c.bP n).at l)=none:=by
   cases h:(c.bP n).at l with
   |none=>rfl
   |some v=>exact absurd (h1.2 (by rw[h];rfl)) hh
  unfold St.aA at h;rw[this]at h;simp at h
theorem DY(g:Good c n)(l:Int):
  Good (c.aI l).1 n/\(c.aI l).1.bP n=((c.bP n).aI l).1/\(c.aI l).2=((c.bP n).aI l).2/\(c.aI l).1.d=c.d/\(c.aI l).1.bM=c.bM/\(c.aI l).1.parts=c.parts:=by
 obtain⟨h1,h2⟩:=rj g l;unfold C.aI St.aI;rw[si g]
 by_cases hh:c.mC l=true
 .obtain⟨k,x,rfl,hk,hx,e⟩:=h2 hh;have e2:c.table.getD ((k:Nat):Int).toNat 0=(x:Int):=by rw[show((k:Nat):Int).toNat=k by omega];simp[List.getD,hk]
  have hxt:=az hk;have hxp:(x:Int)∉c.parts:=λh=>(g.dt _ h).1 hxt;rw[if_pos hh,if_neg (by simp),if_pos (h1.1 hh),e2,show((k:Nat):Int).toNat=k by omega];have hxl:x<c.m.length:=by omega
  have qH:Fm.wm c.m (x:Int)=true:=by unfold Fm.wm;simp;omega
  have hkx:=g.md x hxl;obtain⟨u,hu,hu2⟩:∃u,(Fm.cX c.m (x:Int)).1=c.m.set x u/\u=if(x:Int)∈c.bM then 3 else 0:=by
   unfold Fm.cX;rw[if_pos qH,show((x:Nat):Int).toNat=x by omega,hkx];unfold cI;rw[if_neg hxp]
   by_cases ho:(x:Int)∈c.bM
   .rw[if_pos ho,if_pos hxt,if_neg (by omega),if_pos rfl];exact⟨3,rfl,by rw[if_pos ho]⟩
   .rw[if_neg ho,if_pos hxt,if_pos rfl];exact⟨0,rfl,by rw[if_neg ho]⟩
  obtain⟨c',hc⟩:∃c':C,c'={c with m:=(Fm.cX c.m (x:Int)).1,table:=c.table.set k (-1)}:=⟨_,rfl⟩;have qI:c'.m.length=c.m.length:=by rw[hc];show(Fm.cX c.m (x:Int)).1.length=_;rw[hu,bH]
  have mt:∀z,0<=z->(z∈c'.table↔z∈c.table/\z≠x):=λz hz=>by rw[hc];exact xY g.tj hk (-1) hz (by omega) (by omega)
  have x6:∀z∈c'.table,0<=z->z∈c.table:=λz hz h0=>((mt z h0).1 hz).1;have GX:∀z:Int,0<=z->cI c' z=if z=x then u else cI c z:=by
   intro z hz;unfold cI;have e3:c'.parts=c.parts:=by rw[hc]
   have e4:c'.bM=c.bM:=by rw[hc]
   rw[e3,e4]
   by_cases e:z=x
   .rw[if_pos e];subst e;rw[if_neg hxp,hu2];have:(x:Int)∉c'.table:=λh=>((mt _ hz).1 h).2 rfl;simp only[this,if_false]
   .rw[if_neg e];have:(z∈c'.table)↔z∈c.table:=(mt z hz).trans ⟨λh=>h.1,λh=>⟨h,e⟩⟩;simp only[this]
  show Good {c with m:=(Fm.cX c.m (x:Int)).1,table:=c.table.set k (-1)} n/\_;refine⟨?_,?_,rfl,rfl,rfl,rfl⟩
  .rw[<-hc];refine⟨by rw[hc];exact g.up,by rw[hc];exact g.arm,by rw[hc];exact g.br,by rw[hc];exact g.ok,qI.trans g.ml,by rw[hc];exact g.ep,by rw[hc];exact g.sl,?_,by rw[qI,hc];exact g.oi,by rw[qI,hc];exact g.pi,by rw[hc];exact g.tj.bu k (-1) (.inl (by omega)),by rw[hc];exact g.oj,by rw[hc];exact g.pj,?_,by rw[hc];exact g.pl,?_,?_,?_,by rw[hc];exact g.ro⟩
   .intro z hz;rw[qI]
    by_cases h0:0<=z
    .exact g.ti z (x6 z hz h0)
    .rw[hc]at hz
     rcases qP hz with hz|rfl
     .exact g.ti z hz
     .exact .inl rfl
   .intro z hz;have hz':z∈c.parts:=by rw[hc]at hz;exact hz
    exact⟨λh=>(g.dt z hz').1 (x6 z h (g.pi z hz').1),by rw[hc];exact(g.dt z hz').2⟩
   .intro i z hi hz ho;rw[hc]at hi ho ⊢;have hi:(c.table.set k (-1))[i]?=some z:=hi;rw[fq]at hi
    split at hi
    .split at hi
     .injection hi with hi;omega
     .cases hi
    .exact g.sm i z hi hz ho
   .intro i hi;rw[qI]at hi;rw[GX i (by omega),<-g.md i hi];have:c'.m=c.m.set x u:=by rw[hc];exact hu
    rw[this,ko _ _ _ _ hi]
    by_cases e:x=i
    .rw[if_pos e,if_pos (by omega)]
    .rw[if_neg e,if_neg (by omega)]
   .intro z hz h0;rw[hc];rw[hc]at hz;exact g.rt z (x6 z (by rw[hc];exact hz) h0) h0
  .unfold C.bP;simp only[hu,bH,St.mk.injEq,true_and,and_true];rw[oU];rfl
 .have:((c.bP n).at l)=none:=by
   cases h:(c.bP n).at l with
   |none=>rfl
   |some v=>exact absurd (h1.2 (by rw[h];rfl)) hh
  rw[if_neg hh,if_pos (by simp),this,if_neg (by simp)];exact⟨g,rfl,rfl,rfl,rfl,rfl⟩
def pC(t:List (Option (Bool×List UInt8))):Nat->List Int
 |0=>[]
 |k+1=>pC t k++if((t[k]?).getD none).isSome then [(k:Int)]else []
theorem CK :∀k,k<=c.table.length->qJ c.table k=pC (c.bP n).now k
 |0,_=>rfl
 |k+1,h=>by
  unfold qJ pC;rw[CK k (by omega)]
  congr 1
  unfold C.bP;simp only[ij,aN (show k<c.table.length by omega),List.getD,iZ,kE,C.dr]
  by_cases h0:c.table[k]<0
  .rw[if_pos h0,if_neg (by omega)];rfl
  .rw[if_neg h0,if_pos (by omega)];rfl
def St.gP(a:St):List Int:=pC a.now a.now.length
theorem slot_le(a:St):a.slot<=a.now.length:=kz
theorem D0(a:St):a.at (a.slot:Nat)=none:=by
 unfold St.at;rw[if_pos (by omega),show(((a.slot:Nat):Int)).toNat=a.slot by omega]
 rcases dZ a.slot a.now.length with h|h
 .have:=mO (p:=Option.isNone) (xs:=a.now) (w:=h);unfold St.slot at h ⊢;rw[aN h];simpa using this
 .rw[fo h];rfl
theorem D4(d:D)(h:d.aT<=9223372036854775807):d.eD.1.calls<=d.calls+1/\d.eD.1.aT<=9223372036854775807:=by
 have:=uy d h;unfold D.eD
 split
 .exact⟨by show d.calls<=_;omega,h⟩
 .split
  .exact⟨by show d.bE.1.calls<=_;omega,this.2⟩
  .exact⟨by omega,this.2⟩
theorem AR(n:Nat)(h1:1<=dW n)(hn:n<=4096)(ef:(cL (D.zero n) n).d.Ok n):Good (cL (D.zero n) n) n/\(cL (D.zero n) n).bP n={many:=dW n,now:=[],bM:=[],ep:=1}/\(cL (D.zero n) n).d.calls<=10:=by
 have hk:2<=n:=by unfold dW bz at h1;omega
 have z:(D.zero n).down=false/\(D.zero n).aT=0/\(D.zero n).calls=0:=⟨rfl,rfl,rfl⟩;obtain⟨w1,w2,w3⟩:=gi (d:=D.zero n) (n:=n) (k:=0) z.1 z.2.1 (by omega) dN;obtain⟨v1,v2,v3⟩:=gi (d:=((D.zero n).ar n (0:Nat) dN).1) (n:=n) (k:=1) w2 w3 (by omega) [];obtain⟨s1,s2,s3,_⟩:=py v2 v3;have c1:=im (D.zero n) n 0 dN (by show(0:Int)<=_;omega);have c2:=im ((D.zero n).ar n 0 dN).1 n 1 [] c1.2;have hc:(cL (D.zero n) n).d.calls<=10:=by
  show(((D.zero n).ar n 0 dN).1.ar n 1 []).1.eD.1.calls<=10;have c3:=(D4 ((((D.zero n).ar n 0 dN).1.ar n 1 []).1) c2.2).1;have:=c1.1;have:=c2.1;omega
 refine⟨⟨s2,s3,rfl,ef,by simp[cL],by simp[cL],.inl rfl,by simp[cL],by simp[cL],by simp[cL],by simp[cL,uc],by simp[cL,uc],by simp[cL,uc],by simp[cL],by simp[cL,uI],by simp[cL],?_,by simp[cL],by simp[cL]⟩,?_,hc⟩
 .intro i hi;simp[cL]at hi;unfold cI cL;simp[List.getD,hi]
 .unfold C.bP cL;simp
def St.start(gP:Nat):St:={many:=gP,now:=[],bM:=[],ep:=1}
end Go.Proofs.YtmonobkginiajaaGreat.Sh
namespace Go.Proofs.YtmonobkginiajaaGreat.Rt
open Go.RowKit Pk
attribute [local go_sem ↓] Go.wp_at_zero Go.wp_at_succ
def bl(b:List UInt8)(k:Nat):Nat:=(b.getD k 0).toNat*256+(b.getD (k+1) 0).toNat
end Go.Proofs.YtmonobkginiajaaGreat.Rt
namespace Go.Proofs.YtmonobkginiajaaGreat.Rt
open Go.RowKit Pk
theorem wI(ep:Int):(cF ep).length=8:=by unfold cF qF;rw[kI]
theorem GZ(l:List Nat):(l.flatMap dV).length=2*l.length:=by
 induction l with
 |nil=>rfl
 |cons a l ih=>rw[ie,aU,ih];simp[dV];omega
theorem x7(lg:Nat)(l:List Nat)(h:l.length<=5):(px lg l).length=44:=by
 unfold px;simp only[aU,GZ,eM];simp[dV];omega
theorem ya(m:List UInt8):(gD.bA m).length=m.length+4:=by unfold gD.bA;simp[gD.gk]
def sj(v:List UInt8):Int:=(k7 (v.take 8):Int)-9223372036854775808
def G3(v:List UInt8):List UInt8:=(v.drop 12).take 44
def decP(v:List UInt8):List Nat:=(List.range (bl (G3 v) 2)).map λi=>bl (G3 v) (4+2*i)
def goodR(v:List UInt8):Prop:=bl (G3 v) 2<=5/\iV (sj v) (bl (G3 v) 0:Nat) (nU (decP v))/\qe (sj v) (bl (G3 v) 0) (decP v)=v
theorem wJ(ep:Int)(lg:Nat)(l:List Nat)(h:l.length<=5):(qe ep lg l).length=64:=by
 unfold qe;simp only[aU,wI,ya,x7 _ _ h]
end Go.Proofs.YtmonobkginiajaaGreat.Rt
namespace Go.Proofs.YtmonobkginiajaaGreat.Rt
open Go.RowKit Pk
attribute [local go_sem ↓] Go.wp_at_zero Go.wp_at_succ
def num1(x:Int):Nat:=(max x (-1)+1).toNat
def partF(l:List Int):List UInt8:=(l.map num1).flatMap dV
def segF(l:List Int)(p:Nat):List Int:=(l.drop (116*p)).take 116
end Go.Proofs.YtmonobkginiajaaGreat.Rt
namespace Go.Proofs.YtmonobkginiajaaGreat.Rt
open Go.RowKit Pk
attribute [local go_sem ↓] Go.wp_at_zero Go.wp_at_succ aW
def nvs(l:List Int):List Value:=l.map (Value.int .i64)
@[simp] theorem nvs_length(l:List Int):(nvs l).length=l.length:=by simp[nvs]
def cC(T:List UInt8)(m:Nat):List Int:=(List.range m).map λj=>(bl T (2*j):Int)-1
@[simp] theorem getF_length(T:List UInt8)(m:Nat):(cC T m).length=m:=by simp[cC]
end Go.Proofs.YtmonobkginiajaaGreat.Rt
namespace Go.Proofs.YtmonobkginiajaaGreat.Sh
open Go.RowKit Pk Dk Pg
attribute [local go_sem ↓] Go.wp_at_zero Go.wp_at_succ aW
def C.ar(c:C)(n:Nat)(l:Int)(p:List UInt8):C×Int:=
 if c.broken=true then(c,13)
 else if 232<p.length then(c,4)
 else if c.gh l≠0 then(c,c.gh l)
 else if Fm.bo c.m (c.table.getD l.toNat 0)=true then({c with d:=(aP c.d n (c.table.getD l.toNat 0) (c.ep+1) 2 p).1},(aP c.d n (c.table.getD l.toNat 0) (c.ep+1) 2 p).2)
 else if(c.bo n p).2.2≠0 then((c.bo n p).1,(c.bo n p).2.2)
 else({(c.bo n p).1 with m:=(Fm.cX (c.bo n p).1.m (c.table.getD l.toNat 0)).1,table:=c.table.set l.toNat (c.bo n p).2.1},0)
theorem AS{w:World}{x:X}{n:Nat}{c:C}(h:At w x n c)(l:Int)(s:ByteArray)(hs:s.size<=9223372036854775807)(Dw:0<=c.ep/\c.ep<=1099511627776)(hc:c.d.calls<=3999999999999999990)(hr:c.d.aT<=9223372036854775807)(ht:∀k,c.table.getD k 0<=1024):
  Calls Tryz.prog 147 #[sp x.b,.int .i64 l,.string s] w λe w'=>e=.returned (.int .i64 (c.ar n l s.data.toList).2)/\At w' x n (c.ar n l s.data.toList).1/\ag x.fp w w':=by
 have KW:=gl h;have hl:s.data.toList.length=s.size:=by simp
 obtain⟨R,hR⟩:∃R,c.ar n l s.data.toList=R:=⟨_,rfl⟩;rw[hR];unfold C.ar at hR;rw[hl]at hR;have HH:=xh h
 by_cases h1:c.broken=true
 .rw[if_pos h1]at hR;subst hR;rw[show c.eu=13 from by unfold C.eu;rw[if_pos h1]]at KW;have KW:=xh KW;clear h h1;unfold sp at *;go_enter Tryz.func147,Tryz.ntmps147;go_wp2_with fail;refine KW.o.mono ?_;rintro e w1 ⟨rfl,rfl⟩;go_wp2_with fail;go_ret;exact⟨by first|rfl|simp,HH.o,ag.refl _ _⟩
 rw[if_neg h1]at hR;rw[show c.eu=0 from by unfold C.eu;rw[if_neg h1]]at KW;have KW:=xh KW
 by_cases h2:232<s.size
 .rw[if_pos h2]at hR;subst hR;have h2I:(232:Int)<(s.size:Int):=by omega
  clear h h1 h2;unfold sp at *;go_enter Tryz.func147,Tryz.ntmps147;go_wp2_with fail;refine KW.o.mono ?_;rintro e w1 ⟨rfl,rfl⟩;go_wp2_with fail;go_ret;exact⟨by first|rfl|simp,HH.o,ag.refl _ _⟩
 rw[if_neg h2]at hR;have h2I:¬(232:Int)<(s.size:Int):=by omega
 have KA:=lB h l
 by_cases h3:c.gh l=0
 .rw[if_neg (by simpa using h3)]at hR;obtain⟨_,h5,h6,h7⟩:=Ay h3;rw[h3]at KA;have KA:=xh KA;obtain⟨k,rfl⟩:=dn h5;have hk:k<c.table.length:=by omega
  rw[show((k:Nat):Int).toNat=k from by omega]at hR h7;obtain⟨g,cp,hv,ck⟩:=h.tk k hk;have f1:=h.f1;have f2:=h.f2;rw[hv]at f2;have FA:(k:Int)<(c.table.length:Int):=by omega
  have HR:=xh hR;have hid:c.table.getD k 0<=9223372036854775807:=by have:=ht k;omega
  have KF:=xh (λ(m:Nat)=>Fm.l7 (h.drewN m).hm (c.table.getD k 0));have KP:=xh (λ(m:Nat)=>fW (h.drewN m) (c.table.getD k 0) 2 s hid Dw hc hr);have KN:=xh (λ(m:Nat)=>l7 (h.drewN m) s Dw hc hr);have HD:=xh (λ(m:Nat)=>h.drewN m);obtain⟨pid,G4⟩:∃pid,c.table.getD k 0=pid:=⟨_,rfl⟩;rw[G4]at ck KF KP hR HR;have g1:=h.f1
  by_cases hf:Fm.bo c.m pid=true
  .rw[if_pos hf]at hR;subst hR;rw[hf]at KF;clear h h1 h2 h3 hv hf HR G4 hid;generalize c.table.length=tn at *;unfold Fm.mp at *;unfold sp at *;go_enter Tryz.func147,Tryz.ntmps147;go_wp2_with fail;refine KW.o.mono ?_;rintro e w1 ⟨rfl,rfl⟩;go_wp2_with fail;refine KA.o.mono ?_;rintro e w1 ⟨rfl,rfl⟩;go_wp2_with fail;go_quiet ((go_at_call 192;exact rJ (KF.o _)));go_wp2_with fail;refine(KP.o nq).mono ?_;rintro e w2 ⟨rfl,A2,o2⟩;have A2:=xh A2
   have o2:=xh (((ag.refl x.fp w).drewN nq).trans (o2.mono (λg hg _=>L_fp x g hg)));go_wp2_with fail;go_ret;exact⟨by first|rfl|simp,A2.o,o2.o⟩
  .have DU:Fm.bo c.m pid=false:=by cases hb:Fm.bo c.m pid with|true=>exact absurd hb hf|false=>rfl
   rw[if_neg hf]at hR;rw[DU]at KF;have FT:=jc c n s.data.toList;obtain⟨c1,FD⟩:∃c1,c.bo n s.data.toList=c1:=⟨_,rfl⟩;rw[FD]at KN hR FT;obtain⟨C1,id1,e1⟩:=c1;dsimp only at KN hR FT
   by_cases he:e1=0
   .subst he;rw[if_neg (by simp)]at hR;subst hR;have HT:=xh FT.1;have hpid2:=xh (show C1.table.getD k 0=pid by rw[HT.o];exact G4);have hk2:=xh (show k<C1.table.length by rw[HT.o];exact hk);have HX:=xh (show ∀w1,At w1 x n C1->∀cp',x.tv=.slice (some ⟨g,0,none⟩) c.table.length cp'->(w1.cell? ⟨x.b,1,none⟩=some (Fm.mp x.mb)/\w1.cell? ⟨x.b,2,none⟩=some (.slice (some ⟨g,0,none⟩) c.table.length cp')/\w1.cell? ⟨g,k,none⟩=some (.int .i64 pid))from λw1 A1 cp' e=>by
     obtain⟨g2,cp2,e2,ck2⟩:=A1.tk k hk2.o;rw[e]at e2;injection e2 with e3 e4 e5
     injection e3 with e3
     injection e3 with e3
     subst e3;rw[hpid2.o]at ck2;exact⟨A1.f1,by rw[<-e];exact A1.f2,ck2⟩)
    have HS:=xh (show ∀w2,At w2 x n {C1 with m:=(Fm.cX C1.m pid).1}->∀cp',x.tv=.slice (some ⟨g,0,none⟩) c.table.length cp'->(w2.cell? ⟨g,k,none⟩=some (.int .i64 pid)/\w2.frozen? ⟨g,k,none⟩=false/\At (w2.setCell ⟨g,k,none⟩ (.int .i64 id1)) x n {C1 with m:=(Fm.cX C1.m pid).1,table:=c.table.set k id1}/\ag x.fp w2 (w2.setCell ⟨g,k,none⟩ (.int .i64 id1)))from λw2 A2 cp' e=>by
     obtain⟨g2,cp2,e2,ck2,z2,A3,o3⟩:=A2.fP k hk2.o id1;rw[e]at e2;injection e2 with e3 e4 e5
     injection e3 with e3
     injection e3 with e3
     subst e3;rw[show({C1 with m:=(Fm.cX C1.m pid).1}:C).table.getD k 0=pid from hpid2.o]at ck2;rw[show({C1 with m:=(Fm.cX C1.m pid).1}:C).table=c.table from HT.o]at A3;exact⟨ck2,z2,A3,o3⟩)
    have HV:=xh hv;have KL:=xh (λ(W:World) (hW:At W x n C1)=>Fm.pr hW.hm pid);have HM:=xh (λ(W W':World) (hW:At W x n C1) (mm:Fm.dD W' x.mb x.mg (Fm.cX C1.m pid).1) (ow:ag [x.mg] W W')=>hW.map mm ow);clear h h1 h2 h3 hv hf DU HR G4 hid FT FD;generalize c.table.length=tn at *;generalize (Fm.cX C1.m pid).2=le at *;unfold Fm.mp at *;unfold sp at *;go_enter Tryz.func147,Tryz.ntmps147;go_wp2_with fail;refine KW.o.mono ?_;rintro e w1 ⟨rfl,rfl⟩
    go_wp2_with fail;refine KA.o.mono ?_;rintro e w1 ⟨rfl,rfl⟩;go_wp2_with fail;go_quiet ((go_at_call 192;exact rJ (KF.o _)));go_wp2_with fail;refine(KN.o nq).mono ?_;rintro e w1 ⟨rfl,A1,o1⟩;have A1:=xh A1;have o1:=xh (((ag.refl x.fp w).drewN nq).trans o1);clear f1 f2 ck;have A1d:=xh A1.o.drew;have HK:=xh (HX.o _ A1d.o cp HV.o);go_wp2_with fail
    refine wp_region_held_drew (S:=λW'=>W'.cell? ⟨x.b,1,none⟩=some (.pointer (some ⟨x.mb,0,none⟩))/\W'.cell? ⟨x.b,2,none⟩=some (.slice (some ⟨g,0,none⟩) tn cp)/\W'.cell? ⟨g,k,none⟩=some (.int .i64 pid)) (by kernel_rfl) (HK.o) (λaw=>?_);refine dq [(0,56),(1,57),(2,58),(3,59),(4,60),(5,61),(6,62),(7,63),(8,64),(9,65),(10,66)] ?_
    iterate 11 refine za ?_
    refine zd 11 67 λK hK=>?_;go_simp
    go_at_call 153
    refine(KL.o _ A1d.o).mono ?_;rintro e w2 ⟨rfl,mm,ow⟩;have A2:=xh (HM.o _ _ A1d.o mm ow);have AK:=xh (HS.o w2 A2.o cp HV.o);have q1:=A2.o.f1;have q2:=A2.o.f2;rw[HV.o]at q2;unfold Fm.mp at q1;have OX:=xh (((o1.o.drew).trans (ow.mono (λg hg _=>uG x g hg))).trans AK.o.2.2.2);have z2:=AK.o.2.1;have ck2:=AK.o.1;clear mm ow;go_simp;refine zh hK (⟨q1,q2,ck2⟩) (λaw=>?_);refine wpAnyH_done (by kernel_rfl) ?_ _;go_wp2_with fail;go_ret
    exact⟨by first|rfl|simp,AK.o.2.2.1,OX.o⟩
   .rw[if_pos he]at hR;subst hR;have hq:(e1 != 0)=true:=by rw[bne_iff_ne];exact he
    have lp:(e1==0)=false:=by rw[beq_eq_false_iff_ne];exact he
    clear h h1 h2 h3 hv hf DU HR G4 hid FT FD;generalize c.table.length=tn at *;unfold Fm.mp at *;unfold sp at *;go_enter Tryz.func147,Tryz.ntmps147;go_wp2_with fail;refine KW.o.mono ?_;rintro e w1 ⟨rfl,rfl⟩;go_wp2_with fail;refine KA.o.mono ?_;rintro e w1 ⟨rfl,rfl⟩;go_wp2_with fail;go_quiet ((go_at_call 192;exact rJ (KF.o _)));go_wp2_with fail;refine(KN.o nq).mono ?_;rintro e w1 ⟨rfl,A1,o1⟩;have A1:=xh A1;have o1:=xh (((ag.refl x.fp w).drewN nq).trans o1)
    go_wp2_with fail;go_ret;exact⟨by first|rfl|simp,A1.o,o1.o⟩
 .rw[if_pos h3]at hR;subst hR;have KA:=xh KA;have hq:(c.gh l != 0)=true:=by rw[bne_iff_ne];exact h3
  have lp:(c.gh l==0)=false:=by rw[beq_eq_false_iff_ne];exact h3
  generalize c.gh l=ea at *;clear h h1 h2 h3;unfold sp at *;go_enter Tryz.func147,Tryz.ntmps147;go_wp2_with fail;refine KW.o.mono ?_;rintro e w1 ⟨rfl,rfl⟩;go_wp2_with fail;refine KA.o.mono ?_;rintro e w1 ⟨rfl,rfl⟩;go_wp2_with fail;go_ret;exact⟨by first|rfl|simp,HH.o,ag.refl _ _⟩
end Go.Proofs.YtmonobkginiajaaGreat.Sh
namespace Go.Proofs.YtmonobkginiajaaGreat.Sh
open Go.RowKit Pk Dk Pg
attribute [local go_sem ↓] Go.wp_at_zero Go.wp_at_succ
section
variable{w0 w w':World}{x:X}{n:Nat}{c:C}{d:D}{v:Value}{parts:List Int}
end
section
variable{w w':World}{x:X}{n:Nat}{c:C}
end
end Go.Proofs.YtmonobkginiajaaGreat.Sh
namespace Go.Proofs.YtmonobkginiajaaGreat.Sh
open Go.RowKit Pk Dk Pg
end Go.Proofs.YtmonobkginiajaaGreat.Sh
namespace Go.Proofs.YtmonobkginiajaaGreat.Sh
open Go.RowKit Pk Dk Pg
attribute [local go_sem ↓] Go.wp_at_zero Go.wp_at_succ
abbrev yb:=Option (Bool×List UInt8)
def wK(l:List (Option (List UInt8))):List yb:=l.map λo=>o.map λb=>(false,b)
@[simp] theorem oldS_length(l:List (Option (List UInt8))):(wK l).length=l.length:=by simp[wK]
section
variable{w w':World}{b:Nat}{nv ov:Value}{a:St}{S:List Nat}
end
end Go.Proofs.YtmonobkginiajaaGreat.Sh
namespace Go.Proofs.YtmonobkginiajaaGreat.Sh
open Go.RowKit Pk Dk Pg
attribute [local go_sem ↓] Go.wp_at_zero Go.wp_at_succ aW
end Go.Proofs.YtmonobkginiajaaGreat.Sh
namespace Go.Proofs.YtmonobkginiajaaGreat.Sh
open Go.RowKit Pk Dk Pg
attribute [local go_sem ↓] Go.wp_at_zero Go.wp_at_succ
def St.ar(a:St)(l:Int)(p:List UInt8):St×Int:=
 if 232<p.length then(a,4)
 else if ¬(a.at l).isSome=true then(a,3)
 else if ed (a.at l)=false/\a.free=0 then(a,11)
 else({a with now:=a.now.set l.toNat (some (true,dh p 232))},0)
end Go.Proofs.YtmonobkginiajaaGreat.Sh
namespace Go.Proofs.YtmonobkginiajaaGreat.Sh
open Go.RowKit Pk Dk Pg
attribute [local go_sem ↓] Go.wp_at_zero Go.wp_at_succ aW
end Go.Proofs.YtmonobkginiajaaGreat.Sh
namespace Go.Proofs.YtmonobkginiajaaGreat.Sh
open Go.RowKit Pk Dk Pg
attribute [local go_sem ↓] Go.wp_at_zero Go.wp_at_succ
def G5(l:List yb)(o:List yb)(i:Nat):Bool:=((o[i]?).getD none).isSome && (!((l[i]?).getD none).isSome || ed ((l[i]?).getD none))
def wL(l:List yb)(o:List yb):Nat->Nat
 |0=>0
 |k+1=>wL l o k+if G5 l o k then 1 else 0
def St.leaving(a:St):Nat:=wL a.now (wK a.bM) a.bM.length
end Go.Proofs.YtmonobkginiajaaGreat.Sh
namespace Go.Proofs.YtmonobkginiajaaGreat.Sh
open Go.RowKit Pk Dk Pg
variable{c:C}{n:Nat}
theorem sk(g:Good c n){k:Nat}(hk:k<c.m.length)(p:List UInt8)(hp:p.length<=232):
  (aP c.d n k (c.ep+1) 2 p).2=0/\∀d',d'=(aP c.d n k (c.ep+1) 2 p).1->d'.down=false/\d'.aT=0/\d'.Ok n/\d'.calls<=c.d.calls+4/\bj d' n k=(⟨k,c.ep+1,2,dh p 232⟩,0)/\
   ∀x:Int,0<=x->x<c.m.length->x≠k->bj d' n x=bj c.d n x:=by
 have e:=g.ep;obtain⟨h1,h2,h3,h4,h5⟩:=kP g.ok g.up g.arm k (c.ep+1) 2 p (kn g hk) (by rw[lZ];omega) hp;refine⟨h1,λd' hd=>?_⟩;subst hd;refine⟨h2,h3,se g.ok _ _ _ _,(uz _ _ _ _ _ _ (by rw[g.arm];omega)).1,h4,λx hx hx1 eG=>?_⟩;have:=h5 x.toNat (kn g (by omega)) (by omega)
 rwa [show((x.toNat:Nat):Int)=x by omega]at this
theorem AU(g:Good c n){x:Nat}(hx:x<c.m.length)(ht:(x:Int)∈c.table):Fm.bo c.m (x:Int)=decide ((x:Int)∉c.bM):=by
 unfold Fm.bo;rw[show Fm.wm c.m (x:Int)=true from by unfold Fm.wm;simp;omega,show((x:Nat):Int).toNat=x by omega,g.md x hx];unfold cI;rw[if_neg (λh=>(g.dt _ h).1 ht)]
 by_cases ho:(x:Int)∈c.bM
 .simp[ho,ht]
 .simp[ho,ht]
theorem qk{α β:Type}(f f':α->β)(t:List α)(k:Nat)(u:α)(v:β)(hu:f' u=v)(h:∀i x,t[i]?=some x->i≠k->f' x=f x):(t.set k u).map f'=(t.map f).set k v:=by
 apply jZ;intro i;rw[ij,fq,fq,ij,j0]
 by_cases e:k=i
 .subst e;rw[if_pos rfl,if_pos rfl]
  by_cases hl:k<t.length
  .rw[if_pos hl,if_pos hl,iZ,hu]
  .rw[if_neg hl,if_neg hl];rfl
 .rw[if_neg e,if_neg e]
  cases hx:t[i]? with
  |none=>rfl
  |some x=>rw[iZ,iZ,h i x hx (λh=>e h.symm)]
theorem AV(g:Good c n)(l:Int)(p:List UInt8):
  Good (c.ar n l p).1 n/\(c.ar n l p).1.bP n=((c.bP n).ar l p).1/\(c.ar n l p).2=((c.bP n).ar l p).2/\(c.ar n l p).1.d.calls<=c.d.calls+4:=by
 obtain⟨h1,h2⟩:=rj g l;unfold C.ar St.ar;rw[if_neg (by rw[g.br];simp),si g]
 by_cases hp:232<p.length
 .rw[if_pos hp,if_pos hp];exact⟨g,rfl,rfl,by show c.d.calls<=_;omega⟩
 rw[if_neg hp,if_neg hp]
 by_cases hh:c.mC l=true
 .obtain⟨k,x,rfl,hk,hx,e⟩:=h2 hh;have hxl:x<c.m.length:=by omega
  have hxt:=az hk;have e2:c.table.getD ((k:Nat):Int).toNat 0=(x:Int):=by rw[show((k:Nat):Int).toNat=k by omega];simp[List.getD,hk]
  rw[if_pos hh,if_neg (show ¬(0:Int)≠0 by simp),if_neg (show ¬ ¬((c.bP n).at ((k:Nat):Int)).isSome=true by rw[h1.1 hh];simp),e2,e,show((k:Nat):Int).toNat=k by omega];have xU:c.dr n (x:Int)=some (decide ((x:Int)∉c.bM),(bj c.d n x).1.s):=by unfold C.dr;rw[if_neg (by omega)]
  rw[xU,AU g hxl hxt];have Dw:=g.ep
  by_cases ho:(x:Int)∈c.bM
  .rw[if_neg (show ¬decide ((x:Int)∉c.bM)=true by simp[ho])]
   by_cases hf:(c.bP n).free=0
   .have CI:c.bo n p=(c,0,11):=by unfold C.bo;rw[pA g hf,if_pos (by simp)]
    rw[CI];dsimp only;rw[if_pos (show(11:Int)≠0 by decide),if_pos (show(ed (some (decide ((x:Int)∉c.bM),(bj c.d n x).1.s))=false/\(c.bP n).free=0)from⟨by simp[ed,ho],hf⟩)];exact⟨g,rfl,rfl,by show c.d.calls<=_;omega⟩
   .rw[if_neg (show ¬(ed (some (decide ((x:Int)∉c.bM),(bj c.d n x).1.s))=false/\(c.bP n).free=0)from λh=>hf h.2)];obtain⟨j,hj,h0,ht⟩:=pz g hf;obtain⟨z1,z2,z3⟩:=CJ h0;obtain⟨W0,W⟩:=sk g hj p (by omega);have CI:c.bo n p=({c with m:=c.m.set j 2,d:=(aP c.d n j (c.ep+1) 2 p).1},(j:Int),0):=by
     unfold C.bo;rw[ht,if_neg (by simp),if_neg (by rw[W0];simp)]
    rw[CI];dsimp only;rw[if_neg (show ¬(0:Int)≠0 by simp)];obtain⟨w1,w2,w3,w4,w5,w6⟩:=W _ rfl;generalize (aP c.d n j (c.ep+1) 2 p).1=d' at *;have hjx:j≠x:=λe=>z3 (by rw[e];exact hxt);have hlv:(Fm.cX (c.m.set j 2) (x:Int)).1=(c.m.set j 2).set x 3:=by
     unfold Fm.cX;rw[show Fm.wm (c.m.set j 2) (x:Int)=true from by unfold Fm.wm;simp;omega,if_pos rfl,show((x:Nat):Int).toNat=x by omega,ko _ _ _ _ hxl,if_neg hjx,g.md x hxl];unfold cI;rw[if_neg (λh=>(g.dt _ h).1 hxt),if_pos ho,if_pos hxt];simp
    dsimp only;rw[hlv];have mt:∀y:Int,0<=y->(y∈c.table.set k (j:Int)↔y=j\/(y∈c.table/\y≠x)):=by
     intro y hy
     constructor
     .intro hm;obtain⟨i,hi⟩:=kA hm;rw[fq]at hi
      by_cases e3:k=i
      .rw[if_pos e3]at hi
       split at hi
       .injection hi with hi;exact .inl hi.symm
       .cases hi
      .rw[if_neg e3]at hi;exact .inr ⟨az hi,λe4=>e3 (g.tj k i y (by rw[e4];exact hk) hi hy)⟩
     .rintro(rfl|⟨hm,eG⟩)
      .have kQ:k<c.table.length:=(aR.1 hk).1;exact az (show(c.table.set k (j:Int))[k]?=some (j:Int) by rw[cD kQ])
      .obtain⟨i,hi⟩:=kA hm;have:(c.table.set k (j:Int))[i]?=some y:=by
        rw[fq,if_neg (λe3=>eG (by subst e3;rw[hk]at hi;injection hi with hi;exact hi.symm))];exact hi
       exact az this
    have hrd:∀y∈c.table,0<=y->bj d' n y=bj c.d n y:=λy hy h0=>by
     have:=g.ti y hy;exact w6 y h0 (by omega) (λe3=>z3 (by rw[<-e3];exact hy))
    have G6:∀y∈c.bM,0<=y->bj d' n y=bj c.d n y:=λy hy h0=>by
     have:=g.oi y hy;exact w6 y h0 (by omega) (λe3=>z2 (by rw[<-e3];exact hy))
    have hneg:∀y:Int,y<0->y∈c.table.set k (j:Int)->y∈c.table:=λy hy hm=>by
     rcases qP hm with h|h
     .exact h
     .omega
    refine⟨⟨w1,w2,g.br,w3,by show((c.m.set j 2).set x 3).length=_;rw[bH,bH];exact g.ml,g.ep,g.sl,?_,?_,?_,?_,g.oj,g.pj,?_,g.pl,?_,?_,?_,?_⟩,?_,rfl,w4⟩
    .intro y hy;show y= -1\/0<=y/\y<(((c.m.set j 2).set x 3).length:Int);rw[bH,bH]
     by_cases h0:0<=y
     .rcases(mt y h0).1 hy with rfl|⟨h,_⟩
      .omega
      .exact g.ti y h
     .exact g.ti y (hneg y (by omega) hy)
    .intro y hy;show y= -1\/0<=y/\y<(((c.m.set j 2).set x 3).length:Int);rw[bH,bH];exact g.oi y hy
    .intro y hy;show 0<=y/\y<(((c.m.set j 2).set x 3).length:Int);rw[bH,bH];exact g.pi y hy
    .exact g.tj.bu k _ (.inr z3)
    .intro y hy;refine⟨λhm=>?_,(g.dt y hy).2⟩
     rcases(mt y (g.pi y hy).1).1 hm with rfl|⟨h,_⟩
     .exact z1 hy
     .exact(g.dt y hy).1 h
    .intro i y hi hy hyo;have hi:(c.table.set k (j:Int))[i]?=some y:=hi;rw[fq]at hi
     split at hi
     .split at hi
      .injection hi with hi
       subst hi;exact absurd hyo z2
      .cases hi
     .exact g.sm i y hi hy hyo
    .intro i hi;have hi:i<c.m.length:=by simpa using hi
     show((c.m.set j 2).set x 3).getD i 0=cI _ (i:Int);rw[ko _ _ _ _ (by rw[bH];exact hi),ko _ _ _ _ hi];have hk2:cI {c with d:=d',m:=(c.m.set j 2).set x 3,table:=c.table.set k (j:Int)} (i:Int)=if(i:Int)∈c.parts then 1 else if(i:Int)∈c.bM then(if(i:Int)∈c.table.set k (j:Int)then 1 else 3)else if(i:Int)∈c.table.set k (j:Int)then 2 else 0:=rfl
     rw[hk2];simp only[mt (i:Int) (by omega)]
     by_cases ei:x=i
     .subst ei;rw[if_pos rfl,if_neg (λh=>(g.dt _ h).1 hxt),if_pos ho,if_neg (by omega)]
     .rw[if_neg ei]
      by_cases ej:j=i
      .subst ej;rw[if_pos rfl,if_neg z1,if_neg z2,if_pos (.inl rfl)]
      .rw[if_neg ej,g.md i hi];unfold cI;have:((i:Int)=(j:Int)\/(i:Int)∈c.table/\(i:Int)≠(x:Int))↔(i:Int)∈c.table:=by
        constructor
        .rintro(h|h)
         .omega
         .exact h.1
        .exact λh=> .inr ⟨h,by omega⟩
       simp only[this]
    .intro y hy h0
     rcases(mt y h0).1 hy with rfl|⟨h,_⟩
     .exact⟨c.ep+1,_,by omega,gE _,lE p (by omega),w5⟩
     .obtain⟨q,s,q1,q2,q3,q4⟩:=g.rt y h h0;exact⟨q,s,q1,q2,q3,(hrd y h h0).trans q4⟩
    .intro y hy h0;obtain⟨q,s,q1,q2,q3,q4⟩:=g.ro y hy h0;exact⟨q,s,q1,q2,q3,(G6 y hy h0).trans q4⟩
    .unfold C.bP;simp only[bH,St.mk.injEq,true_and,and_true];refine⟨?_,?_⟩
     .refine qk _ _ _ _ _ _ ?_ (λi y hi _=>?_)
      .unfold C.dr;rw[if_neg (by omega)];simp only[w5];simp[z2]
      .unfold C.dr
       by_cases h:y<0
       .rw[if_pos h,if_pos h]
       .rw[if_neg h,if_neg h];simp only[hrd y (az hi) (by omega)]
     .refine jz (λy hy=>?_)
      by_cases h:y<0
      .rw[if_pos h,if_pos h]
      .rw[if_neg h,if_neg h];simp only[G6 y hy (by omega)]
  .rw[if_pos (show decide ((x:Int)∉c.bM)=true by simp[ho]),if_neg (show ¬(ed (some (decide ((x:Int)∉c.bM),(bj c.d n x).1.s))=false/\(c.bP n).free=0) by simp[ed,ho])];obtain⟨W0,W⟩:=sk g hxl p (by omega);rw[W0];obtain⟨w1,w2,w3,w4,w5,w6⟩:=W _ rfl;generalize (aP c.d n x (c.ep+1) 2 p).1=d' at *;have G6:∀y∈c.bM,0<=y->bj d' n y=bj c.d n y:=λy hy h0=>by
    have:=g.oi y hy;exact w6 y h0 (by omega) (λe3=>ho (by rw[<-e3];exact hy))
   have hrd:∀y∈c.table,0<=y->y≠x->bj d' n y=bj c.d n y:=λy hy h0 eG=>by
    have:=g.ti y hy;exact w6 y h0 (by omega) eG
   refine⟨⟨w1,w2,g.br,w3,g.ml,g.ep,g.sl,g.ti,g.oi,g.pi,g.tj,g.oj,g.pj,g.dt,g.pl,g.sm,g.md,λy hy h0=>?_,λy hy h0=>?_⟩,?_,rfl,w4⟩
   .by_cases ey:y=x
    .subst ey;exact⟨c.ep+1,_,by omega,gE _,lE p (by omega),w5⟩
    .obtain⟨q,s,q1,q2,q3,q4⟩:=g.rt y hy h0;exact⟨q,s,q1,q2,q3,(hrd y hy h0 ey).trans q4⟩
   .obtain⟨q,s,q1,q2,q3,q4⟩:=g.ro y hy h0;exact⟨q,s,q1,q2,q3,(G6 y hy h0).trans q4⟩
   .unfold C.bP;simp only[St.mk.injEq,true_and,and_true];refine⟨?_,?_⟩
    .have:=qk (c.dr n) (C.dr {c with d:=d'} n) c.table k (x:Int) (some (true,dh p 232)) (by
      unfold C.dr;rw[if_neg (by omega)];simp only[w5];simp[ho]) (λi y hi eG=>by
      unfold C.dr
      by_cases h:y<0
      .rw[if_pos h,if_pos h]
      .rw[if_neg h,if_neg h];simp only[hrd y (az hi) (by omega) (λey=>eG (g.tj i k y hi (by rw[ey];exact hk) (by omega)))])
     rw[<-this]
     congr 1
     apply jZ;intro i;rw[fq]
     by_cases e3:k=i
     .subst e3;rw[if_pos rfl,if_pos (aR.1 hk).1,hk]
     .rw[if_neg e3]
    .refine jz (λy hy=>?_)
     by_cases h:y<0
     .rw[if_pos h,if_pos h]
     .rw[if_neg h,if_neg h];simp only[G6 y hy (by omega)]
 .rw[if_neg hh,if_pos (show(3:Int)≠0 by decide)];have:((c.bP n).at l)=none:=by
   cases h:(c.bP n).at l with
   |none=>rfl
   |some v=>exact absurd (h1.2 (by rw[h];rfl)) hh
  rw[this,if_pos (show ¬(none:Option (Bool×List UInt8)).isSome=true by simp)];exact⟨g,rfl,rfl,by show c.d.calls<=_;omega⟩
variable{n:Nat}{d:D}
theorem D7(l:List Bool)(k:Nat)(x:Bool)(i:Nat):(l.set k x).getD i false=if k=i/\k<l.length then x else l.getD i false:=by
 simp only[List.getD,fq]
 by_cases h:k=i
 .subst h
  by_cases h2:k<l.length
  .simp[h2]
  .simp[h2]
 .simp[h]
def Calm(n:Nat)(P:Nat->Prop)(d d':D):Prop:= ∀j,j<n->P j->sec d'.now j=sec d.now j/\(d.loose.getD j false=false->d'.loose.getD j false=false)
theorem Calm.refl{P:Nat->Prop}(d:D):Calm n P d d:=λ_ _ _=>⟨rfl,id⟩
theorem Calm.trans{P:Nat->Prop}{a b c:D}(h:Calm n P a b)(k:Calm n P b c):Calm n P a c:=λj hj hp=>by
 obtain⟨h1,h2⟩:=h j hj hp;obtain⟨k1,k2⟩:=k j hj hp;exact⟨k1.trans h1,λe=>k2 (h2 e)⟩
theorem AW(d:D):d.bE.1.now=d.now/\d.bE.1.loose=d.loose/\d.bE.1.bM=d.bM:=by
 unfold D.bE
 split
 .exact⟨rfl,rfl,rfl⟩
 .split<;>exact⟨rfl,rfl,rfl⟩
theorem A0(d:D)(k j:Nat)(h:k≠j):(d.fc k).loose.getD j false=d.loose.getD j false:=by
 unfold D.fc
 split
 .rfl
 .show(d.loose.set k true).getD j false=_;rw[D7,if_neg (λe=>h e.1)]
theorem Ba{P:Nat->Prop}(ef:d.Ok n)(k:Int)(s:List UInt8)(hP:∀j:Nat,(j:Int)=k->¬P j):Calm n P d (d.ar n k s).1:=by
 intro j hj hp;unfold D.ar
 by_cases h0:d.gh n k=0
 .rw[if_pos h0];have hk:0<=k/\k<n:=by
   unfold D.gh at h0
   split at h0
   .cases h0
   .split at h0
    .assumption
    .cases h0
  have eG:k.toNat≠j:=λe=>hP j (by omega) hp;obtain⟨c1,c2,_⟩:=AW (d.ct k.toNat s);rw[c1,c2];refine⟨?_,λe=>?_⟩
  .show sec (et d.now k.toNat (hX s)) j=_;rw[Cx ef.now (by omega) (gM s) hj,if_neg eG]
  .show(d.fc k.toNat).loose.getD j false=false;rw[A0 _ _ _ eG];exact e
 .rw[if_neg h0];exact⟨rfl,id⟩
theorem CM{P:Nat->Prop}(ef:d.Ok n)(k:Nat)(b:List UInt8)(hP:∀j,k<=j->j<k+4->¬P j):∀i,i<=4->Calm n P d (w4 d n k b i).1
 |0,_=> .refl d
 |i+1,hi=>by
  have ih:=CM ef k b hP i (by omega);unfold w4
  split
  .exact ih.trans (Ba (rQ ef k b i) _ _ (λj e=>hP j (by omega) (by omega)))
  .exact ih
theorem ql{P:Nat->Prop}(ef:d.Ok n)(id ep kd:Int)(s:List UInt8)(hP:∀j:Nat,2+4*id.toNat<=j->j<2+4*id.toNat+4->¬P j):Calm n P d (aP d n id ep kd s).1:=by
 unfold aP
 split
 .exact .refl d
 .split
  .exact .refl d
  .exact CM ef _ _ hP 4 (ak _)
theorem D8(n j:Nat):(List.replicate n false).getD j false=false:=by
 simp only[List.getD,vH]
 split<;>rfl
theorem Bb(h:d.eD.2=0)(j:Nat):d.eD.1.loose.getD j false=false:=by
 unfold D.eD at h ⊢
 by_cases hd:d.down=true
 .rw[if_pos hd]at h;cases h
 rw[if_neg hd]at h ⊢
 by_cases hc:d.bE.2=0
 .rw[if_pos hc];exact D8 _ _
 .rw[if_neg hc]at h;exact absurd h hc
theorem D9{d':D}(hd:d'.down=d.down)(x:Nat)(hx:x<bz n)(h:∀j,2+4*x<=j->j<2+4*x+4->sec d'.now j=sec d.now j):bj d' n x=bj d n x:=by
 have e:(d'.now.drop (64*(2+4*x))).take 256=(d.now.drop (64*(2+4*x))).take 256:=by
  rw[jm,jm,h _ (by omega) (by omega),h _ (by omega) (by omega),h _ (by omega) (by omega),h _ (by omega) (by omega)]
 unfold bj;rw[hd,show((x:Nat):Int).toNat=x by omega,e]
def arm(u:D)(a:Int):D:={u with aT:=a}
variable{d:D}{n:Nat}{x:Int}{bM parts:List Int}
def upD(d:D):D:={d with down:=false}
def Kept(parts bM:List Int)(j:Nat):Prop:=j<2\/∃x:Nat,((x:Int)∈parts\/(x:Int)∈bM)/\2+4*x<=j/\j<2+4*x+4
structure j6(d:D)(n:Nat)(ep slot:Int)(bM parts:List Int):Prop where
 n2:2<=n
 ro:Rt.iV ep (bM.length:Nat) parts
 sl:slot=0\/slot=1
 rt:sec d.now slot.toNat=Rt.qe ep bM.length (parts.map Int.toNat)
 ot:Rt.goodR (sec d.now (1-slot).toNat)->Rt.sj (sec d.now (1-slot).toNat)<ep
 pp:∀(i:Nat) (x:Int),parts[i]?=some x->∃q,0<=q/\q<=ep/\bj (upD d) n x=(⟨x,q,1,dh (Rt.partF (Rt.segF bM i)) 232⟩,0)
 lo:∀j,j<n->Kept parts bM j->d.loose.getD j false=false
def Twin(d:D)(slot ep:Int):Prop:=(sec d.now (1-slot).toNat).take 8=(sec d.now (1-slot).toNat).drop 56/\Rt.sj (sec d.now (1-slot).toNat)<ep
theorem G7(h:(bj d n x).2=0):0<=x/\x<bz n:=by
 unfold bj at h
 by_cases hx:x<0\/(bz n:Int)<=x
 .rw[if_pos hx]at h;exact absurd h (by decide)
 .omega
theorem many_le{x:Nat}(hx:x<bz n):2+4*x+4<=n:=by unfold bz at hx;omega
theorem j6.calm{d':D}{ep slot:Int}(R:j6 d n ep slot bM parts)(h:Calm n (Kept parts bM) d d'):j6 d' n ep slot bM parts:=by
 have n2:=R.n2;have hs:=R.sl;have e1:=(h slot.toNat (by omega) (.inl (by omega))).1;have e2:=(h (1-slot).toNat (by omega) (.inl (by omega))).1;refine⟨R.n2,R.ro,R.sl,e1.trans R.rt,by rw[e2];exact R.ot,λi x hx=>?_,λj hj hk=>(h j hj hk).2 (R.lo j hj hk)⟩;obtain⟨q,q0,q1,q2⟩:=R.pp i x hx;obtain⟨h0,h1⟩:=G7 (by rw[q2]);refine⟨q,q0,q1,?_⟩;rw[<-q2]
 have:=D9 (d:=upD d) (d':=upD d') (n:=n) rfl x.toNat (by omega) (λj a b=>(h j (by have:=many_le (show x.toNat<bz n by omega);omega) (.inr ⟨x.toNat,.inl (by rw[show((x.toNat:Nat):Int)=x by omega];exact az hx),a,b⟩)).1)
 rwa [show((x.toNat:Nat):Int)=x by omega]at this
theorem yc{k:Nat}(h1:(k:Int)∉parts)(h2:(k:Int)∉bM)(j:Nat)(a:2+4*k<=j)(b:j<2+4*k+4):¬Kept parts bM j:=by
 rintro(h|⟨x,h,c,e⟩)
 .omega
 .obtain rfl:x=k:=by omega
  exact h.elim h1 h2
def C.on(c:C)(d:D):C:={c with d:=d}
theorem yd{c:C}(g:Good c n)(d0:D)(p:List UInt8)(ef:d0.Ok n):Calm n (Kept c.parts c.bM) d0 ((c.on d0).bo n p).1.d:=by
 by_cases hf:(c.bP n).free=0
 .unfold C.bo;have e2:Fm.cr (c.on d0).m=Fm.cr c.m:=rfl;rw[e2,pA g hf,if_pos (by simp)];exact .refl d0
 .obtain⟨k,hk,h0,e⟩:=pz g hf;obtain⟨z1,z2,z3⟩:=CJ h0;have this:Calm n (Kept c.parts c.bM) d0 (aP (c.on d0).d n ((k:Nat):Int) ((c.on d0).ep+1) 2 p).1:=ql ef ((k:Nat):Int) (c.ep+1) 2 p (λj a b=>yc z1 z2 j (by omega) (by omega));unfold C.bo;have e2:Fm.cr (c.on d0).m=Fm.cr c.m:=rfl;rw[e2,e,if_neg (by simp)]
  split
  .exact this
  .exact this
theorem new_on{c:C}(g:Good c n)(d0:D)(p:List UInt8)(ef:d0.Ok n):Calm n (Kept c.parts c.bM) d0 ((c.on d0).bh n p).1.d:=by
 have:=yd g d0 p ef;unfold C.bh;rw[if_neg (show ¬(c.on d0).broken=true by show ¬c.broken=true;rw[g.br];simp)]
 split
 .exact .refl d0
 .split
  .exact .refl d0
  .split
   .exact this
   .exact this
theorem Ea{c:C}(g:Good c n)(h:Fm.bo c.m x=true):∃k:Nat,x=k/\k<c.m.length/\(k:Int)∉c.parts/\(k:Int)∉c.bM:=by
 unfold Fm.bo Fm.wm at h;simp only[jM,decide_eq_true_eq,beq_iff_eq]at h;obtain⟨⟨h0,h1⟩,h2⟩:=h;refine⟨x.toNat,by omega,by omega,?_⟩;rw[g.md _ (by omega)]at h2;unfold cI at h2
 split at h2
 .omega
 .split at h2
  .split at h2<;>omega
  .exact⟨by assumption,by assumption⟩
theorem G8{c:C}(g:Good c n)(d0:D)(l:Int)(p:List UInt8)(ef:d0.Ok n):Calm n (Kept c.parts c.bM) d0 ((c.on d0).ar n l p).1.d:=by
 have:=yd g d0 p ef;unfold C.ar;rw[if_neg (show ¬(c.on d0).broken=true by show ¬c.broken=true;rw[g.br];simp)]
 split
 .exact .refl d0
 .split
  .exact .refl d0
  .split
   .rename_i hf;obtain⟨k,e,hk,z1,z2⟩:=Ea g hf;show Calm n _ d0 (aP d0 n _ _ _ _).1;exact ql ef _ _ _ _ (λj a b=>by
     have e:((c.on d0).table.getD l.toNat 0).toNat=k:=by omega
     rw[e]at a b;exact yc z1 z2 j a b)
   .split
    .exact this
    .exact this
theorem Bc{c:C}(g:Good c n)(R:j6 c.d n c.ep c.slot c.bM c.parts)(p:List UInt8):j6 (c.bh n p).1.d n c.ep c.slot c.bM c.parts:=R.calm (new_on g c.d p g.ok)
theorem wM{c:C}(g:Good c n)(R:j6 c.d n c.ep c.slot c.bM c.parts)(l:Int)(p:List UInt8):j6 (c.ar n l p).1.d n c.ep c.slot c.bM c.parts:=R.calm (G8 g c.d l p g.ok)
theorem Bd(c:C)(n:Nat)(p:List UInt8):(c.bh n p).1.bM=c.bM/\(c.bh n p).1.parts=c.parts/\(c.bh n p).1.ep=c.ep/\(c.bh n p).1.slot=c.slot/\(c.bh n p).1.broken=c.broken:=by
 obtain⟨f1,f2,f3,f4,f5,f6⟩:=jc c n p;unfold C.bh
 split
 .exact⟨rfl,rfl,rfl,rfl,rfl⟩
 .split
  .exact⟨rfl,rfl,rfl,rfl,rfl⟩
  .split
   .exact⟨rfl,rfl,rfl,rfl,rfl⟩
   .split
    .exact⟨f2,f3,f4,f5,f6⟩
    .exact⟨f2,f3,f4,f5,f6⟩
theorem wN(c:C)(n:Nat)(l:Int)(p:List UInt8):(c.ar n l p).1.bM=c.bM/\(c.ar n l p).1.parts=c.parts/\(c.ar n l p).1.ep=c.ep/\(c.ar n l p).1.slot=c.slot/\(c.ar n l p).1.broken=c.broken:=by
 obtain⟨f1,f2,f3,f4,f5,f6⟩:=jc c n p;unfold C.ar
 split
 .exact⟨rfl,rfl,rfl,rfl,rfl⟩
 .split
  .exact⟨rfl,rfl,rfl,rfl,rfl⟩
  .split
   .exact⟨rfl,rfl,rfl,rfl,rfl⟩
   .split
    .exact⟨rfl,rfl,rfl,rfl,rfl⟩
    .split
     .exact⟨f2,f3,f4,f5,f6⟩
     .exact⟨f2,f3,f4,f5,f6⟩
def St.pad(b:St)(k:Nat):St:={b with now:=b.now++List.replicate k none}
theorem Eb{P:List Int}(h:uc P)(h0:∀x∈P,0<=x):P.Nodup:=by
 have:=gq h
 rwa [show ids P=P from zP.2 (λx hx=>by simpa using h0 x hx)]at this
end Go.Proofs.YtmonobkginiajaaGreat.Sh
