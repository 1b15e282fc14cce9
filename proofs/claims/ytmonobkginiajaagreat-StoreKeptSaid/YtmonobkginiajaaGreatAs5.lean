/- packed. -/
import Derived.Defers
import Derived.Recover
import Derived.Test.YtmonobkginiajaaGreatAs4
set_option linter.all false
set_option maxRecDepth 100000
set_option maxHeartbeats 8000000
namespace Go.Proofs.YtmonobkginiajaaGreat
open Go.Proofs.Tryz
open Value renaming string→U2,slice→U3,int→U5,pointer→U7,tuple→U8
open Ending renaming returned→BY
open IntKind renaming i64→By
open Obj renaming cells→WF
open Go renaming World→YB,Value→YO,Calls→eq
open UInt8 renaming ofNat→gn
namespace Sh
open Go.RowKit Pk Dk Pg
variable{x:Int}{t:List Int}
theorem vU:∀(L M:List Int),L.Nodup->(∀x∈L,x∈M)->L.length<=M.length
 |[],_,_,_=>aW _
 |x::L,M,hn,hs=>by
  obtain⟨h1,h2⟩:=gV.1 hn;have hx:x∈M:=hs x (gS ..);have:=vU L (M.erase x) h2 (λy hy=>(List.mem_erase_of_ne (λe:y=x=>h1 (by rw[<-e];exact hy))).2 (hs y (bK _ hy)));rw[QQ hx]at this;have:0<M.length:=List.length_pos_of_mem hx;simp;omega
theorem vV{L M:List Int}(hl:L.Nodup)(hm:M.Nodup)(h:∀x,x∈L↔x∈M):L.length=M.length:=
 Nat.le_antisymm (vU L M hl (λx hx=>(h x).1 hx)) (vU M L hm (λx hx=>(h x).2 hx))
theorem Bw(l:List Int)(k:Int)(n:Nat)(x:Int):x∈Fm.iL l k n↔ ∃i:Nat,x=i/\i<n/\l.getD i 0=k:=by
 induction n with
 |zero=>simp[Fm.iL]
 |succ n ih=>
  simp only[Fm.iL,ay,ih]
  constructor
  .rintro(⟨i,e,h,g⟩|h)
   .exact⟨i,e,by omega,g⟩
   .by_cases hk:l.getD n 0=k
    .rw[if_pos hk]at h;exact⟨n,by simpa using h,by omega,hk⟩
    .rw[if_neg hk]at h;simp at h
  .rintro⟨i,e,h,g⟩
   rcases qg.1 h with h|rfl
   .exact .inl ⟨i,e,h,g⟩
   .rw[if_pos g];exact .inr (by simpa using e)
theorem gP{l:List Int}{k:Int} :x∈Fm.ic l k↔ ∃i:Nat,x=i/\i<l.length/\l.getD i 0=k:=Bw l k l.length x
theorem Hy(l:List Int)(k:Int)(n:Nat):(Fm.iL l k n).Nodup:=by
 induction n with
 |zero=>exact qb
 |succ n ih=>
  simp only[Fm.iL]
  split
  .rw[gU];refine⟨ih,by simp,λa ha b hb e=>?_⟩;obtain⟨i,e1,h,_⟩:=(Bw l k n a).1 ha;simp at hb;omega
  .simpa using ih
theorem kC(l:List Int)(k:Int):(Fm.ic l k).Nodup:=Hy l k l.length
def upto:Nat->List Int
 |0=>[]
 |n+1=>upto n++[(n:Int)]
theorem yP:∀n,(upto n).length=n
 |0=>rfl
 |n+1=>by simp[upto,yP n]
theorem JN(n:Nat)(x:Int):x∈upto n↔0<=x/\x<n:=by
 induction n with
 |zero=>simp[upto]
 |succ n ih=>simp only[upto,ay,ih,az];omega
theorem Od(n:Nat):(upto n).Nodup:=by
 induction n with
 |zero=>exact qb
 |succ n ih=>
  simp only[upto];rw[gU];refine⟨ih,by simp,λa ha b hb e=>?_⟩;have:=(JN n a).1 ha;simp at hb;omega
def Eg(t:List Int):Prop:= ∀(i j:Nat) (x:Int),t[i]?=some x->t[j]?=some x->0<=x->i=j
def ids(t:List Int):List Int:=t.filter (λx=>decide (0<=x))
theorem mh :x∈ids t↔x∈t/\0<=x:=by simp[ids]
theorem Eg.tail(h:Eg (x::t)):Eg t:=λi j y hi hj h0=>by
 have:=h (i+1) (j+1) y (by simpa using hi) (by simpa using hj) h0;omega
theorem kD:∀{t:List Int},Eg t->(ids t).Nodup
 |[],_=>qb
 |x::t,h=>by
  have ih:=kD h.tail;unfold ids at ih ⊢;rw[gG]
  split
  .rename_i hx;rw[gV];refine⟨λhm=>?_,ih⟩;obtain⟨hm,_⟩:=mh.1 hm;obtain⟨k,hk⟩:=lK hm;have:=h 0 (k+1) x rfl (by simpa using hk) (by simpa using hx);omega
  .exact ih
theorem Eg.cw(h:Eg t)(k:Nat)(u:Int)(hu:u<0\/u∉t):Eg (t.set k u):=by
 intro i j x hi hj h0;rw[jj]at hi hj
 by_cases e1:k=i<;>by_cases e2:k=j
 .omega
 .rw[if_pos e1]at hi;rw[if_neg e2]at hj
  split at hi
  .injection hi with hi
   subst hi
   rcases hu with hu|hu
   .omega
   .exact absurd (aA hj) hu
  .cases hi
 .rw[if_neg e1]at hi;rw[if_pos e2]at hj
  split at hj
  .injection hj with hj
   subst hj
   rcases hu with hu|hu
   .omega
   .exact absurd (aA hi) hu
  .cases hj
 .rw[if_neg e1]at hi;rw[if_neg e2]at hj;exact h i j x hi hj h0
theorem Eg.app(h:Eg t)(u:Int)(hu:u<0\/u∉t):Eg (t++[u]):=by
 intro i j x hi hj h0;have key:∀i,(t++[u])[i]?=some x->(t[i]?=some x)\/(i=t.length/\x=u):=by
  intro i hi
  rcases Nat.lt_trichotomy i t.length with hl|rfl|hl
  .rw[bE hl]at hi;exact .inl hi
  .rw[dQ (ai _)]at hi;simp at hi;exact .inr ⟨rfl,hi.symm⟩
  .rw[dQ (by omega),gH (by simp;omega)]at hi;cases hi
 rcases key i hi with a|⟨a,b⟩<;>rcases key j hj with c|⟨c,d⟩
 .exact h i j x a c h0
 .subst d
  rcases hu with hu|hu
  .omega
  .exact absurd (aA a) hu
 .subst b
  rcases hu with hu|hu
  .omega
  .exact absurd (aA c) hu
 .omega
theorem JO{k:Nat}{u:Int}(h:Eg t)(hk:t[k]?=some u)(v:Int)(h0:0<=x)(hv:v<0)(hu:0<=u):x∈t.set k v↔x∈t/\x≠u:=by
 constructor
 .intro hx;obtain⟨i,hi⟩:=lK hx;rw[jj]at hi
  by_cases e:k=i
  .rw[if_pos e]at hi
   split at hi
   .injection hi with hi;omega
   .cases hi
  .rw[if_neg e]at hi;refine⟨aA hi,λe2=>e ?_⟩;subst e2;exact h k i x hk hi h0
 .rintro⟨hx,fF⟩;obtain⟨i,hi⟩:=lK hx;have:(t.set k v)[i]?=some x:=by
   rw[jj,if_neg (λe=>fF (by subst e;rw[hk]at hi;injection hi with hi;exact hi.symm))];exact hi
  exact aA this
structure St where
 many:Nat
 now:List (Option (Bool×pu))
 bj:List (Option (pu))
 ep:Int
def gw:Option (Bool×pu)->Bool
 |some (b,_)=>b
 |none=>false
def cU(k:Nat):Nat:=(k+115) / 116
def St.fresh(a:St):Nat:=a.now.countP gw
def St.kept(a:St):Nat:=a.bj.countP Option.isSome+cU a.bj.length
def St.free(a:St):Nat:=a.many-a.kept-a.fresh
def St.slot(a:St):Nat:=a.now.findIdx Option.isNone
def qz{α:Type}(t:List α)(l:Nat)(u:α):List α:=if l=t.length then t++[u]else t.set l u
def St.at(a:St)(l:Int):Option (Bool×pu):=if 0<=l then(a.now[l.toNat]?).getD none else none
def St.bZ(a:St)(p:pu):St×Int×Int:=
 if 232<p.length then(a,0,4)
 else if 512<=a.slot\/a.free=0 then(a,0,11)
 else({a with now:=qz a.now a.slot (some (true,ft p 232))},(a.slot:Nat),0)
def St.aV(a:St)(l:Int):St×Int:=if(a.at l).isSome=true then({a with now:=a.now.set l.toNat none},0)else(a,3)
def St.aP(a:St)(l:Int):pu×Int:=match a.at l with
 |some (_,b)=>(b,0)
 |none=>([],3)
def Xb(d:D)(n:Nat)(x ep:Int):Prop:= ∃q s,0<=q/\q<=ep/\s.length=232/\bw d n x=(⟨x,q,2,s⟩,0)
def cO(c:C)(x:Int):Int:=if x∈c.parts then 1 else if x∈c.bj then(if x∈c.table then 1 else 3)else if x∈c.table then 2 else 0
structure Good(c:C)(n:Nat):Prop where
 up:c.d.down=false
 arm:c.d.bu=0
 br:c.broken=false
 ok:c.d.Ok n
 ml:c.m.length=fU n
 ep:1<=c.ep/\c.ep<1099511627776
 sl:c.slot=0\/c.slot=1
 ti:∀x∈c.table,x= -1\/(0<=x/\x<c.m.length)
 oi:∀x∈c.bj,x= -1\/(0<=x/\x<c.m.length)
 pi:∀x∈c.parts,0<=x/\x<c.m.length
 tj:Eg c.table
 oj:Eg c.bj
 pj:Eg c.parts
 dt:∀x∈c.parts,x∉c.table/\x∉c.bj
 pl:c.parts.length=cU c.bj.length
 sm:∀(i:Nat) (x:Int),c.table[i]?=some x->0<=x->x∈c.bj->c.bj[i]?=some x
 md:∀i:Nat,i<c.m.length->c.m.getD i 0=cO c i
 rt:∀x∈c.table,0<=x->Xb c.d n x (c.ep+1)
 ro:∀x∈c.bj,0<=x->Xb c.d n x c.ep
def C.dh(c:C)(n:Nat)(x:Int):Option (Bool×pu):=if x<0 then none else some (decide (x∉c.bj),(bw c.d n x).1.s)
def C.bY(c:C)(n:Nat):St:={many:=c.m.length,now:=c.table.map (c.dh n),bj:=c.bj.map λx=>if x<0 then none else some (bw c.d n x).1.s,ep:=c.ep}
theorem nR{c:C}{n:Nat}(g:Good c n):(Fm.ic c.m 0).length=(c.bY n).free/\(c.bY n).fresh+(c.bY n).kept<=c.m.length:=by
 obtain⟨F,hF⟩:∃F,F=(ids c.table).filter (λx=>decide (x∉c.bj)):=⟨_,rfl⟩;have hFl:F.length=(c.bY n).fresh:=by
  rw[hF];unfold St.fresh C.bY ids;rw[oQ,<-AK,GJ];apply uu;intro x hx;simp only[Function.comp,C.dh]
  by_cases h:x<0
  .rw[if_pos h];simp[gw];omega
  .rw[if_neg h];simp[gw];omega
 have hKl:(c.parts++ids c.bj).length=(c.bY n).kept:=by
  unfold St.kept C.bY ids;rw[aT,g.pl,<-AK,GJ,bM];have:c.bj.countP (λx=>decide (0<=x))=c.bj.countP (Option.isSome ∘ λx=>if x<0 then none else some (bw c.d n x).1.s):=by
   apply uu;intro x hx;simp only[Function.comp]
   by_cases h:x<0
   .rw[if_pos h];simp;omega
   .rw[if_neg h];simp;omega
  omega
 have hmF:∀x,x∈F↔x∈c.table/\0<=x/\x∉c.bj:=by
  intro x;rw[hF,eA,mh];simp[and_assoc]
 have EK:(Fm.ic c.m 0++F++(c.parts++ids c.bj)).Nodup:=by
  rw[gU,gU,gU];have hp:c.parts.Nodup:=by
   have:=kD g.pj
   rwa [show ids c.parts=c.parts from xr.2 (λx hx=>by simpa using (g.pi x hx).1)]at this
  refine⟨⟨kC _ _,?_,?_⟩,⟨hp,kD g.oj,?_⟩,?_⟩
  .rw[hF];exact(kD g.tj).sublist GN
  .intro x hx y hy e;subst e;obtain⟨i,rfl,hi,h0⟩:=gP.1 hx;rw[g.md i hi]at h0;obtain⟨h1,h2,h3⟩:=(hmF _).1 hy;unfold cO at h0;rw[if_neg h3,if_pos h1]at h0
   split at h0<;>omega
  .intro x hx y hy e;subst e;exact(g.dt x hx).2 (mh.1 hy).1
  .intro x hx y hy e;subst e
   rcases ay.1 hx with hx|hx
   .obtain⟨i,rfl,hi,h0⟩:=gP.1 hx;rw[g.md i hi]at h0;unfold cO at h0
    rcases ay.1 hy with hy|hy
    .rw[if_pos hy]at h0;omega
    .rw[if_pos (mh.1 hy).1]at h0
     split at h0
     .omega
     .split at h0<;>omega
   .obtain⟨h1,h2,h3⟩:=(hmF _).1 hx
    rcases ay.1 hy with hy|hy
    .exact(g.dt x hy).1 h1
    .exact h3 (mh.1 hy).1
 have hlen:=vV EK (Od c.m.length) (λx=>by
  rw[JN,ay,ay,ay,gP,hmF,mh]
  constructor
  .rintro((⟨i,rfl,hi,_⟩|⟨h1,h2,_⟩)|(h|⟨h1,h2⟩))
   .omega
   .have:=g.ti x h1;omega
   .exact g.pi x h
   .have:=g.oi x h1;omega
  .rintro⟨h0,h1⟩
   by_cases a1:x∈c.parts
   .exact .inr (.inl a1)
   by_cases a2:x∈c.bj
   .exact .inr (.inr ⟨a2,h0⟩)
   by_cases a3:x∈c.table
   .exact .inl (.inr ⟨a3,h0,a2⟩)
   refine .inl (.inl ⟨x.toNat,by omega,by omega,?_⟩);rw[g.md _ (by omega),show((x.toNat:Nat):Int)=x by omega];unfold cO;rw[if_neg a1,if_neg a2,if_neg a3])
 rw[yP,aT,aT,hKl,hFl]at hlen;refine⟨?_,by omega⟩;unfold St.free;show _=c.m.length-_-_;omega
variable{t:List Int}{x:Int}{c:C}{n k:Nat}
theorem yQ{α β:Type}(f:α->β)(p:β->Bool)(q:α->Bool):∀(t:List α),(∀x∈t,p (f x)=q x)->(t.map f).findIdx p=t.findIdx q
 |[],_=>rfl
 |x::t,h=>by
  rw[fA,Nh,Nh,(h x (gS ..)),(yQ f p q t (λy hy=>h y (bK _ hy)))]
theorem Xc(h:jo t<t.length):t[jo t]?=some (-1):=by
 unfold jo Fm.dm at h ⊢;have:=rj (p:=(· ==(-1:Int))) (xs:=t) (w:=h);rw[aH h];simpa using this
theorem px{α:Type}(t:List α)(l:Nat)(u:α)(hl:l<=t.length)(i:Nat):(qz t l u)[i]?=if i=l then some u else t[i]?:=by
 unfold qz
 by_cases h:l=t.length
 .rw[if_pos h];subst h
  rcases Nat.lt_trichotomy i t.length with h1|rfl|h1
  .rw[gc,bE h1]
  .rw[if_pos rfl,dQ (ai _)];simp
  .rw[gc,dQ (by omega),gH (by simp;omega),gH (by omega)]
 .rw[if_neg h,jj]
  by_cases e:l=i
  .subst e;rw[if_pos rfl,g8,if_pos rfl]
  .rw[if_neg e,gc]
theorem Al(t:List Int)(l:Nat)(u:Int):uJ t l u=qz t l u:=rfl
theorem Xd{u:Int}(h0:0<=x):x∈uJ t (jo t) u↔x=u\/x∈t:=by
 rw[Al];have hl:=Bq t
 constructor
 .intro hx;obtain⟨i,hi⟩:=lK hx;rw[px t _ u hl]at hi
  split at hi
  .injection hi with hi;exact .inl hi.symm
  .exact .inr (aA hi)
 .rintro(rfl|hx)
  .have:=px t _ x hl (jo t);rw[if_pos rfl]at this;exact aA this
  .obtain⟨i,hi⟩:=lK hx;have:=px t _ u hl i;rw[if_neg]at this
   .exact aA (this.trans hi)
   .rintro rfl;rw[Xc ((aR.1 hi).1)]at hi;injection hi with hi
    omega
theorem Eg.uJ(h:Eg t)(l:Nat)(u:Int)(hu:u∉t):Eg (uJ t l u):=by
 unfold Sh.uJ
 split
 .exact h.app u (.inr hu)
 .exact h.cw l u (.inr hu)
theorem Xe{α β:Type}(f:α->β)(t:List α)(l:Nat)(u:α):(qz t l u).map f=qz (t.map f) l (f u):=by
 unfold qz;rw[bM]
 split
 .simp
 .rw[sI]
theorem Oe{α β:Type}(f g:α->β)(t:List α)(l:Nat)(u:β)(h:∀x∈t,f x=g x):qz (t.map f) l u=qz (t.map g) l u:=by
 rw[fW h]
theorem Xf(g:Good c n):(c.bY n).slot=jo c.table:=by
 unfold St.slot C.bY jo Fm.dm;refine yQ _ _ _ _ (λx hx=>?_);unfold C.dh
 rcases g.ti x hx with rfl|⟨h0,_⟩
 .simp
 .rw[gc];simp;omega
theorem xK(g:Good c n)(hf:(c.bY n).free≠0):∃k:Nat,k<c.m.length/\cO c k=0/\Fm.da c.m=(c.m.set k 2,((k:Nat):Int),0):=by
 have hl:=(nR g).1;obtain⟨x,hx⟩:∃x,x∈Fm.ic c.m 0:=by
  cases h:Fm.ic c.m 0 with
  |nil=>rw[h]at hl;simp at hl;omega
  |cons x l=>exact⟨x,gS ..⟩
 obtain⟨i,rfl,hi,h0⟩:=gP.1 hx;have ef:Fm.dm c.m 0<c.m.length:=by
  unfold Fm.dm;rw[Ni];refine⟨c.m[i],jS hi,?_⟩;simp[List.getD,aH hi]at h0;simp[h0]
 refine⟨Fm.dm c.m 0,ef,?_,by unfold Fm.da;rw[if_pos ef]⟩;rw[<-g.md _ ef];have:=rj (p:=(· ==(0:Int))) (xs:=c.m) (w:=ef);simp[List.getD];unfold Fm.dm at ef ⊢;rw[aH ef];simpa using this
theorem xL(g:Good c n)(hf:(c.bY n).free=0):Fm.da c.m=(c.m,0,11):=by
 have hl:=(nR g).1;rw[hf]at hl;unfold Fm.da;rw[if_neg];intro ef;have:=rj (p:=(· ==(0:Int))) (xs:=c.m) (w:=ef);have hm:((Fm.dm c.m 0:Nat):Int)∈Fm.ic c.m 0:=gP.2 ⟨_,rfl,ef,by
  simp[List.getD];unfold Fm.dm at ef ⊢;rw[aH ef];simpa using this⟩
 rw[oO hl]at hm;simp at hm
theorem JP(h:cO c x=0):x∉c.parts/\x∉c.bj/\x∉c.table:=by
 unfold cO at h
 split at h
 .omega
 .split at h
  .split at h<;>omega
  .split at h
   .omega
   .exact⟨by assumption,by assumption,by assumption⟩
theorem kE(g:Good c n)(h:k<c.m.length):k<cH n:=by
 have:=g.ml;unfold fU at this;omega
theorem uK{d:D}(h:d.Ok n)(id ep kd:Int)(s:pu):(bt d n id ep kd s).1.Ok n:=by
 unfold bt
 split
 .exact h
 .split
  .exact h
  .exact Bh h _ _ _
theorem Bx(g:Good c n)(hk:k<c.m.length)(h0:cO c k=0)(p:pu)(hp:p.length<=232):
  (bt c.d n k (c.ep+1) 2 p).2=0/\∀d',d'=(bt c.d n k (c.ep+1) 2 p).1->d'.down=false/\d'.bu=0/\d'.Ok n/\d'.calls<=c.d.calls+4/\bw d' n k=(⟨k,c.ep+1,2,ft p 232⟩,0)/\
   (∀x∈c.table,0<=x->bw d' n x=bw c.d n x)/\∀x∈c.bj,0<=x->bw d' n x=bw c.d n x:=by
 have e:=g.ep;obtain⟨h1,h2,h3,h4,h5⟩:=nP g.ok g.up g.arm k (c.ep+1) 2 p (kE g hk) (by rw[qs];omega) hp;obtain⟨z1,z2,z3⟩:=JP h0;refine⟨h1,λd' hd=>?_⟩;subst hd;refine⟨h2,h3,uK g.ok _ _ _ _,(sS _ _ _ _ _ _ (by rw[g.arm];omega)).1,h4,λx hx Hz=>?_,λx hx Hz=>?_⟩
 .have:=g.ti x hx;have:=h5 x.toNat (kE g (by omega)) (λe=>z3 (by rw[<-e];rwa [show((x.toNat:Nat):Int)=x by omega]))
  rwa [show((x.toNat:Nat):Int)=x by omega]at this
 .have:=g.oi x hx;have:=h5 x.toNat (kE g (by omega)) (λe=>z2 (by rw[<-e];rwa [show((x.toNat:Nat):Int)=x by omega]))
  rwa [show((x.toNat:Nat):Int)=x by omega]at this
theorem rD(p:pu)(h:p.length<=232):(ft p 232).length=232:=by unfold ft;simp;omega
theorem kF(l:List Int)(k:Nat)(x:Int)(i:Nat)(hi:i<l.length):(l.set k x).getD i 0=if k=i then x else l.getD i 0:=by
 simp only[List.getD,jj]
 by_cases h:k=i
 .subst h;simp[hi]
 .simp[h]
theorem new_ok{c:C}{n:Nat}(g:Good c n){k:Nat}(hk:k<c.m.length)(h0:cO c k=0)(p:pu)(hp:p.length<=232){d':D}(hd:d'=(bt c.d n k (c.ep+1) 2 p).1){c':C}(hc:c'={c with m:=c.m.set k 2,d:=d',table:=uJ c.table (jo c.table) k}):
  Good c' n/\c'.bY n={c.bY n with now:=qz (c.bY n).now (jo c.table) (some (true,ft p 232))}:=by
 obtain⟨_,W⟩:=Bx g hk h0 p hp;obtain⟨w1,w2,w3,w4,w5,w6,w7⟩:=W d' hd;obtain⟨z1,z2,z3⟩:=JP h0;have Jk:=g.ep;have mt:∀x,0<=x->(x∈c'.table↔x=k\/x∈c.table):=λx hx=>by subst hc;exact Xd hx
 have zL:=Bq c.table;have Xg:∀x:Int,0<=x->cO c' x=if x=k then 2 else cO c x:=by
  intro x hx;unfold cO
  by_cases e:x=k
  .rw[if_pos e];subst e;rw[if_neg (by subst hc;exact z1),if_neg (by subst hc;exact z2),if_pos ((mt _ hx).2 (.inl rfl))]
  .rw[if_neg e];have:(x∈c'.table)↔x∈c.table:=(mt x hx).trans ⟨λh=>h.resolve_left e,.inr⟩;rw[show c'.parts=c.parts from by rw[hc],show c'.bj=c.bj from by rw[hc]];simp only[this]
 refine⟨⟨by rw[hc];exact w1,by rw[hc];exact w2,by rw[hc];exact g.br,by rw[hc];exact w3,?_,by rw[hc];exact g.ep,by rw[hc];exact g.sl,?_,?_,?_,?_,by rw[hc];exact g.oj,by rw[hc];exact g.pj,?_,by rw[hc];exact g.pl,?_,?_,?_,?_⟩,?_⟩
 .rw[hc];show(c.m.set k 2).length=_;rw[bV];exact g.ml
 .intro x hx;have pX:c'.m.length=c.m.length:=by rw[hc];show(c.m.set k 2).length=_;rw[bV]
  rw[pX]
  by_cases h:0<=x
  .rcases(mt x h).1 hx with rfl|hx
   .omega
   .exact g.ti x hx
  .obtain⟨i,hi⟩:=lK hx;rw[hc]at hi;have hi:(uJ c.table (jo c.table) k)[i]?=some x:=hi;rw[Al,px _ _ _ zL]at hi
   split at hi
   .injection hi with hi;omega
   .exact g.ti x (aA hi)
 .intro x hx;rw[hc]at hx ⊢;show _\/_/\x<((c.m.set k 2).length:Int);rw[bV];exact g.oi x hx
 .intro x hx;rw[hc]at hx ⊢;show _/\x<((c.m.set k 2).length:Int);rw[bV];exact g.pi x hx
 .rw[hc];exact g.tj.uJ _ _ z3
 .intro x hx;have h:=g.dt x (by rw[hc]at hx;exact hx);have Hz:=(g.pi x (by rw[hc]at hx;exact hx)).1;refine⟨λh1=>?_,by rw[hc];exact h.2⟩
  rcases(mt x Hz).1 h1 with rfl|h1
  .rw[hc]at hx;exact z1 hx
  .exact h.1 h1
 .intro i x hi hx ho;rw[hc]at hi ho ⊢;have hi:(uJ c.table (jo c.table) k)[i]?=some x:=hi;rw[Al,px _ _ _ zL]at hi
  split at hi
  .injection hi with hi
   subst hi;exact absurd ho z2
  .exact g.sm i x hi hx ho
 .intro i hi;have hi:i<c.m.length:=by rw[hc]at hi;simpa using hi
  rw[Xg i (by omega),<-g.md i hi,hc];show(c.m.set k 2).getD i 0=_;rw[kF _ _ _ _ hi]
  by_cases e:k=i
  .rw[if_pos e,g8]
  .rw[if_neg e,gc]
 .intro x hx Hz
  rcases(mt x Hz).1 hx with rfl|hx
  .rw[hc];exact⟨c.ep+1,_,by omega,ki _,rD p hp,w5⟩
  .obtain⟨q,s,q1,q2,q3,q4⟩:=g.rt x hx Hz;rw[hc];exact⟨q,s,q1,q2,q3,(w6 x hx Hz).trans q4⟩
 .intro x hx Hz;rw[hc]at hx ⊢;obtain⟨q,s,q1,q2,q3,q4⟩:=g.ro x hx Hz;exact⟨q,s,q1,q2,q3,(w7 x hx Hz).trans q4⟩
 .rw[hc];unfold C.bY;simp only[bV,St.mk.injEq,true_and,and_true];refine⟨?_,?_⟩
  .rw[Al,Xe];have e1:C.dh {c with m:=c.m.set k 2,d:=d',table:=qz c.table (jo c.table) k} n (k:Int)=some (true,ft p 232):=by
    unfold C.dh;rw[gc];simp only[w5];simp[z2]
   rw[e1];refine Oe _ _ _ _ _ (λx hx=>?_);unfold C.dh
   by_cases h:x<0
   .rw[if_pos h,if_pos h]
   .rw[if_neg h,if_neg h];simp only[w6 x hx (by omega)]
  .refine fW (λx hx=>?_)
   by_cases h:x<0
   .rw[if_pos h,if_pos h]
   .rw[if_neg h,if_neg h];simp only[w7 x hx (by omega)]
theorem Xh(g:Good c n)(p:pu):
  Good (c.bZ n p).1 n/\(c.bZ n p).1.bY n=((c.bY n).bZ p).1/\(c.bZ n p).2=((c.bY n).bZ p).2/\(c.bZ n p).1.d.calls<=c.d.calls+4/\(c.bZ n p).1.bj=c.bj/\(c.bZ n p).1.parts=c.parts:=by
 unfold C.bZ St.bZ;rw[if_neg (by rw[g.br];simp),Xf g]
 by_cases h1:232<p.length
 .rw[if_pos h1,if_pos h1];exact⟨g,rfl,rfl,by show c.d.calls<=_;omega,rfl,rfl⟩
 rw[if_neg h1,if_neg h1]
 by_cases h2:512<=jo c.table
 .rw[if_pos h2,if_pos (.inl h2)];exact⟨g,rfl,rfl,by show c.d.calls<=_;omega,rfl,rfl⟩
 rw[if_neg h2]
 by_cases h3:(c.bY n).free=0
 .have ht:=xL g h3;have hf:c.cB n p=(c,0,11):=by
   unfold C.cB;rw[ht,i9]
  rw[hf,i9,if_pos (.inr h3)];exact⟨g,rfl,rfl,by show c.d.calls<=_;omega,rfl,rfl⟩
 .obtain⟨k,hk,h0,ht⟩:=xK g h3;obtain⟨W0,W⟩:=Bx g hk h0 p (by omega);have hf:c.cB n p=({c with m:=c.m.set k 2,d:=(bt c.d n k (c.ep+1) 2 p).1},(k:Int),0):=by
   unfold C.cB;rw[ht,i8,if_neg (by rw[W0];simp)]
  rw[hf,i8,gc];obtain⟨G,e⟩:=new_ok g hk h0 p (by omega) rfl (c':={c with m:=c.m.set k 2,d:=(bt c.d n k (c.ep+1) 2 p).1,table:=uJ c.table (jo c.table) k}) rfl;exact⟨G,e,rfl,(W _ rfl).2.2.2.1,rfl,rfl⟩
variable{c:C}{n:Nat}
theorem abs_at(l:Int):(c.bY n).at l=if 0<=l then((c.table[l.toNat]?).map (c.dh n)).getD none else none:=by
 unfold St.at C.bY;simp only[ir]
theorem Am(g:Good c n)(l:Int):(c.tZ l=true↔((c.bY n).at l).isSome=true)/\(c.tZ l=true->∃k x:Nat,l=k/\c.table[k]?=some (x:Int)/\(x:Int)<c.m.length/\(c.bY n).at l=c.dh n x):=by
 rw[abs_at];have key:c.tZ l=true↔0<=l/\∃x,c.table[l.toNat]?=some x/\0<=x:=by
  unfold C.tZ;simp only[iG,decide_eq_true_eq]
  constructor
  .rintro⟨⟨h1,h2⟩,h3⟩;refine⟨h1,c.table.getD l.toNat 0,?_,h3⟩;rw[aH (by omega)];simp[List.getD,aH (show l.toNat<c.table.length by omega)]
  .rintro⟨h1,x,h2,h3⟩;have hl:l.toNat<c.table.length:=(aR.1 h2).1;refine⟨⟨h1,by omega⟩,?_⟩;simp[List.getD,h2];exact h3
 rw[key]
 constructor
 .constructor
  .rintro⟨h1,x,h2,h3⟩;rw[if_pos h1,h2];simp[C.dh];omega
  .intro h
   by_cases h1:0<=l
   .rw[if_pos h1]at h;refine⟨h1,?_⟩
    cases h2:c.table[l.toNat]? with
    |none=>rw[h2]at h;simp at h
    |some x=>
     refine⟨x,rfl,?_⟩;rw[h2]at h;simp[C.dh]at h;omega
   .rw[if_neg h1]at h;simp at h
 .rintro⟨h1,x,h2,h3⟩;have:=g.ti x (aA h2);obtain⟨xn,rfl⟩:=dZ h3;refine⟨l.toNat,xn,by omega,h2,by omega,?_⟩;rw[if_pos h1,h2];rfl
theorem Bz(g:Good c n)(l:Int):c.kq l=if c.tZ l=true then 0 else 3:=by
 unfold C.kq;rw[if_neg (by rw[g.br];simp)]
theorem xM(g:Good c n)(l:Int):c.aP n l=(c.bY n).aP l:=by
 obtain⟨h1,h2⟩:=Am g l;unfold C.aP St.aP;rw[Bz g]
 by_cases hh:c.tZ l=true
 .obtain⟨k,x,rfl,hk,hx,e⟩:=h2 hh;rw[if_pos hh,i8,e];obtain⟨q,s,q1,q2,q3,q4⟩:=g.rt x (aA hk) (by omega);have e2:c.table.getD ((k:Nat):Int).toNat 0=(x:Int):=by rw[show((k:Nat):Int).toNat=k by omega];simp[List.getD,hk]
  rw[e2,q4,i8];unfold C.dh;rw[gc,q4]
 .rw[if_neg hh,i9];have:((c.bY n).at l)=none:=by
   cases h:(c.bY n).at l with
   |none=>rfl
   |some v=>exact absurd (h1.2 (by rw[h];rfl)) hh
  rw[this]
theorem JQ(g:Good c n){l:Int}(h:((c.bY n).aP l).2=0):((c.bY n).aP l).1.length=232:=by
 obtain⟨h1,h2⟩:=Am g l
 by_cases hh:c.tZ l=true
 .obtain⟨k,x,rfl,hk,hx,e⟩:=h2 hh;obtain⟨q,s,q1,q2,q3,q4⟩:=g.rt x (aA hk) (by omega);unfold St.aP;rw[e];unfold C.dh;rw[gc,q4];exact q3
 .have:((c.bY n).at l)=none:=by
   cases h:(c.bY n).at l with
   |none=>rfl
   |some v=>exact absurd (h1.2 (by rw[h];rfl)) hh
  unfold St.aP at h;rw[this]at h;simp at h
theorem Tt(g:Good c n)(l:Int):
  Good (c.aV l).1 n/\(c.aV l).1.bY n=((c.bY n).aV l).1/\(c.aV l).2=((c.bY n).aV l).2/\(c.aV l).1.d=c.d/\(c.aV l).1.bj=c.bj/\(c.aV l).1.parts=c.parts:=by
 obtain⟨h1,h2⟩:=Am g l;unfold C.aV St.aV;rw[Bz g]
 by_cases hh:c.tZ l=true
 .obtain⟨k,x,rfl,hk,hx,e⟩:=h2 hh;have e2:c.table.getD ((k:Nat):Int).toNat 0=(x:Int):=by rw[show((k:Nat):Int).toNat=k by omega];simp[List.getD,hk]
  have hxt:=aA hk;have hxp:(x:Int)∉c.parts:=λh=>(g.dt _ h).1 hxt;rw[if_pos hh,i8,if_pos (h1.1 hh),e2,show((k:Nat):Int).toNat=k by omega]
  obtain⟨u,hu,hu2⟩:∃u,(Fm.dS c.m (x:Int)).1=c.m.set x u/\u=if(x:Int)∈c.bj then 3 else 0:=by
   unfold Fm.dS;rw[if_pos (by unfold Fm.Er;simp;omega),show((x:Nat):Int).toNat=x by omega,(g.md x (by omega))];unfold cO;rw[if_neg hxp]
   by_cases ho:(x:Int)∈c.bj
   .rw[if_pos ho,if_pos hxt,gc,if_pos rfl];exact⟨3,rfl,by rw[if_pos ho]⟩
   .rw[if_neg ho,if_pos hxt,if_pos rfl];exact⟨0,rfl,by rw[if_neg ho]⟩
  obtain⟨c',hc⟩:∃c':C,c'={c with m:=(Fm.dS c.m (x:Int)).1,table:=c.table.set k (-1)}:=⟨_,rfl⟩;have pX:c'.m.length=c.m.length:=by rw[hc];show(Fm.dS c.m (x:Int)).1.length=_;rw[hu,bV]
  have mt:∀z,0<=z->(z∈c'.table↔z∈c.table/\z≠x):=λz hz=>by rw[hc];exact JO g.tj hk (-1) hz (by omega) (by omega)
  have nh:∀z∈c'.table,0<=z->z∈c.table:=λz hz h0=>((mt z h0).1 hz).1;have Xg:∀z:Int,0<=z->cO c' z=if z=x then u else cO c z:=by
   intro z hz;unfold cO;have e3:c'.parts=c.parts:=by rw[hc]
   have e4:c'.bj=c.bj:=by rw[hc]
   rw[e3,e4]
   by_cases e:z=x
   .rw[if_pos e];subst e;rw[if_neg hxp,hu2];have:(x:Int)∉c'.table:=λh=>((mt _ hz).1 h).2 rfl;simp only[this,if_false]
   .rw[if_neg e];have:(z∈c'.table)↔z∈c.table:=(mt z hz).trans ⟨λh=>h.1,λh=>⟨h,e⟩⟩;simp only[this]
  show Good {c with m:=(Fm.dS c.m (x:Int)).1,table:=c.table.set k (-1)} n/\_;refine⟨?_,?_,rfl,rfl,rfl,rfl⟩
  .rw[<-hc];refine⟨by rw[hc];exact g.up,by rw[hc];exact g.arm,by rw[hc];exact g.br,by rw[hc];exact g.ok,pX.trans g.ml,by rw[hc];exact g.ep,by rw[hc];exact g.sl,?_,by rw[pX,hc];exact g.oi,by rw[pX,hc];exact g.pi,by rw[hc];exact g.tj.cw k (-1) (.inl (by omega)),by rw[hc];exact g.oj,by rw[hc];exact g.pj,?_,by rw[hc];exact g.pl,?_,?_,?_,by rw[hc];exact g.ro⟩
   .intro z hz;rw[pX]
    by_cases h0:0<=z
    .exact g.ti z (nh z hz h0)
    .rw[hc]at hz
     rcases vz hz with hz|rfl
     .exact g.ti z hz
     .exact .inl rfl
   .intro z hz;have hz':z∈c.parts:=by rw[hc]at hz;exact hz
    exact⟨λh=>(g.dt z hz').1 (nh z h (g.pi z hz').1),by rw[hc];exact(g.dt z hz').2⟩
   .intro i z hi hz ho;rw[hc]at hi ho ⊢;have hi:(c.table.set k (-1))[i]?=some z:=hi;rw[jj]at hi
    split at hi
    .split at hi
     .injection hi with hi;omega
     .cases hi
    .exact g.sm i z hi hz ho
   .intro i hi;rw[pX]at hi;rw[Xg i (by omega),<-g.md i hi];have:c'.m=c.m.set x u:=by rw[hc];exact hu
    rw[this,kF _ _ _ _ hi]
    by_cases e:x=i
    .rw[if_pos e,g8]
    .rw[if_neg e,gc]
   .intro z hz h0;rw[hc];rw[hc]at hz;exact g.rt z (nh z (by rw[hc];exact hz) h0) h0
  .unfold C.bY;simp only[hu,bV,St.mk.injEq,true_and,and_true];rw[sI];rfl
 .have:((c.bY n).at l)=none:=by
   cases h:(c.bY n).at l with
   |none=>rfl
   |some v=>exact absurd (h1.2 (by rw[h];rfl)) hh
  rw[if_neg hh,i9,this,i8];exact⟨g,rfl,rfl,rfl,rfl,rfl⟩
def uL(t:List (Option (Bool×pu))):Nat->List Int
 |0=>[]
 |k+1=>uL t k++if((t[k]?).getD none).isSome then [(k:Int)]else []
theorem Q7 :∀k,k<=c.table.length->zM c.table k=uL (c.bY n).now k
 |0,_=>rfl
 |k+1,h=>by
  unfold zM uL;rw[Q7 k (by omega)]
  congr 1
  unfold C.bY;simp only[ir,aH (show k<c.table.length by omega),List.getD,mf,jB,C.dh]
  by_cases h0:c.table[k]<0
  .rw[if_pos h0,gc];rfl
  .rw[if_neg h0,g8];rfl
def St.je(a:St):List Int:=uL a.now a.now.length
theorem yR(t:List (Option (Bool×pu))):∀k,k<=t.length->(uL t k).length=(t.take k).countP Option.isSome
 |0,_=>rfl
 |k+1,h=>by
  unfold uL;rw[aT,yR t k (by omega),ik (by omega),ur,aH (by omega)];simp only[jB]
  cases t[k]<;>simp
theorem slot_le(a:St):a.slot<=a.now.length:=p8
theorem Tu(a:St):a.at (a.slot:Nat)=none:=by
 unfold St.at;rw[g8,show(((a.slot:Nat):Int)).toNat=a.slot by omega]
 rcases fC a.slot a.now.length with h|h
 .have:=rj (p:=Option.isNone) (xs:=a.now) (w:=h);unfold St.slot at h ⊢;rw[aH h];simpa using this
 .rw[gH h];rfl
theorem Tv(d:D)(h:d.bu<=9223372036854775807):d.eM.1.calls<=d.calls+1/\d.eM.1.bu<=9223372036854775807:=by
 have:=xE d h;unfold D.eM
 split
 .exact⟨by show d.calls<=_;omega,h⟩
 .split
  .exact⟨by show d.cW.1.calls<=_;omega,this.2⟩
  .exact⟨by omega,this.2⟩
theorem Of(n:Nat)(h1:1<=fU n)(hn:n<=4096)(gj:(eO (D.zero n) n).d.Ok n):Good (eO (D.zero n) n) n/\(eO (D.zero n) n).bY n={many:=fU n,now:=[],bj:=[],ep:=1}/\(eO (D.zero n) n).d.calls<=10:=by
 have hk:2<=n:=by unfold fU cH at h1;omega
 have z:(D.zero n).down=false/\(D.zero n).bu=0/\(D.zero n).calls=0:=⟨rfl,rfl,rfl⟩;obtain⟨w1,w2,w3⟩:=jm (d:=D.zero n) (n:=n) (k:=0) z.1 z.2.1 (by omega) gh;obtain⟨v1,v2,v3⟩:=jm (d:=((D.zero n).aG n (0:Nat) gh).1) (n:=n) (k:=1) w2 w3 (by omega) [];obtain⟨s1,s2,s3,_⟩:=po v2 v3;have c1:=jF (D.zero n) n 0 gh (by show(0:Int)<=_;omega);have c2:=jF ((D.zero n).aG n 0 gh).1 n 1 [] c1.2;have hc:(eO (D.zero n) n).d.calls<=10:=by
  show(((D.zero n).aG n 0 gh).1.aG n 1 []).1.eM.1.calls<=10;have c3:=(Tv ((((D.zero n).aG n 0 gh).1.aG n 1 []).1) c2.2).1;omega
 refine⟨⟨s2,s3,rfl,gj,by simp[eO],by simp[eO],.inl rfl,by simp[eO],by simp[eO],by simp[eO],by simp[eO,Eg],by simp[eO,Eg],by simp[eO,Eg],by simp[eO],by simp[eO,cU],by simp[eO],?_,by simp[eO],by simp[eO]⟩,?_,hc⟩
 .intro i hi;simp[eO]at hi;unfold cO eO;simp[List.getD,hi]
 .unfold C.bY eO;simp
def St.start(je:Nat):St:={many:=je,now:=[],bj:=[],ep:=1}
end Sh
namespace Rt
open Go.RowKit Pk
def cd(b:pu)(k:Nat):Nat:=(b.getD k 0).toNat*256+(b.getD (k+1) 0).toNat
end Rt
namespace Rt
open Go.RowKit Pk
theorem Hn(N:Nat)(h:N<18446744073709551616):mI (wY N)=N:=by
 have e:wY N=[gn (N / 72057594037927936),gn (N / 281474976710656),gn (N / 1099511627776),gn (N / 4294967296),gn (N / 16777216),gn (N / 65536),gn (N / 256),gn (N / 1)]:=rfl;rw[e];simp only[mI,AM,Nj,il];omega
theorem kX(ep:Int):(df ep).length=8:=by unfold df wY;rw[qo]
theorem Og(ep:Int)(h0:0<=ep)(h1:ep<=1099511627776):(mI (df ep):Int)-9223372036854775808=ep:=by
 unfold df;rw[Hn _ (by omega)];omega
theorem JR(l:List Nat):(l.flatMap fD).length=2*l.length:=by
 induction l with
 |nil=>rfl
 |cons a l ih=>rw[im,aT,ih];simp[fD];omega
theorem rE(lg:Nat)(l:List Nat)(h:l.length<=5):(oS lg l).length=44:=by
 unfold oS;simp only[aT,JR,eR];simp[fD];omega
theorem yS(m:pu):(ke.bT m).length=m.length+4:=by unfold ke.bT;simp[ke.jL]
theorem drop2(a:Nat)(r:pu):(fD a++r).drop 2=r:=rfl
theorem drop4(a b:Nat)(r:pu):(fD a++(fD b++r)).drop 4=r:=rfl
theorem xN(n:Nat)(h:n<65536)(r:pu):cd (fD n++r) 0=n:=by
 unfold cd fD;simp only[nL,cQ,List.getD_cons_zero,List.getD_cons_succ,il];omega
theorem BC(b:pu)(j k:Nat):cd b (j+k)=cd (b.drop j) k:=by
 unfold cd;simp only[iq,iK,Nat.add_assoc]
theorem Xi(l:List Nat)(r:pu)(i:Nat)(h:i<l.length)(hs:∀x∈l,x<65536):cd (l.flatMap fD++r) (2*i)=l[i]:=by
 induction l generalizing i with
 |nil=>simp at h
 |cons a l ih=>
  cases i with
  |zero=>
   rw[im,cK,vG,xN a (hs a (by simp))];rfl
  |succ i=>
   rw[show 2*(i+1)=2+2*i by omega,BC];have hd:((a::l).flatMap fD++r).drop 2=l.flatMap fD++r:=by rw[im];rfl
   rw[hd,ih i (by simpa using h) (λx hx=>hs x (bK _ hx))];rfl
def rF(v:pu):Int:=(mI (v.take 8):Int)-9223372036854775808
def Ia(v:pu):pu:=(v.drop 12).take 44
def decP(v:pu):List Nat:=(List.range (cd (Ia v) 2)).map λi=>cd (Ia v) (4+2*i)
def goodR(v:pu):Prop:=cd (Ia v) 2<=5/\jn (rF v) (cd (Ia v) 0:Nat) (dM (decP v))/\fH (rF v) (cd (Ia v) 0) (decP v)=v
theorem BF(ep:Int)(lg:Nat)(l:List Nat):(fH ep lg l).take 8=df ep:=by
 unfold fH;rw[cK,m8 (by rw[kX];exact ai _),cm (by rw[kX];exact ai _)]
theorem yT(ep:Int)(lg:Nat)(l:List Nat):(fH ep lg l).drop 8=ke.bT (oS lg l)++df ep:=by
 unfold fH;rw[cK,uv (by rw[kX];exact ai _),GK (by rw[kX];exact ai _),cQ]
theorem Oh(ep:Int)(lg:Nat)(l:List Nat)(h:l.length<=5):(fH ep lg l).drop 56=df ep:=by
 have h2:(ke.bT (oS lg l)).length=48:=by rw[yS,rE _ _ h]
 rw[show 56=8+48 by rfl,<-ji,yT,uv (by omega),GK (by omega),cQ]
theorem vW(ep:Int)(lg:Nat)(l:List Nat)(h:l.length<=5):(fH ep lg l).length=64:=by
 unfold fH;simp only[aT,kX,yS,rE _ _ h]
theorem xO(ep:Int)(lg:Nat)(l:List Nat)(h:l.length<=5):Ia (fH ep lg l)=oS lg l:=by
 unfold Ia;rw[show 12=8+4 by rfl,<-ji,yT];unfold ke.bT;have hm:=rE lg l h;have hf:∀n,(ke.jL n).length=4:=λn=>by simp[ke.jL]
 rw[cK,uv (by rw[hf];exact ai _),GK (by rw[hf];exact ai _),cQ,m8 (by omega),cm (by omega)]
theorem Xj(ep:Int)(lg:Nat)(l:List Nat)(hr:jn ep lg (dM l)):rF (fH ep lg l)=ep/\cd (Ia (fH ep lg l)) 0=lg/\cd (Ia (fH ep lg l)) 2=l.length/\decP (fH ep lg l)=l:=by
 have h5:l.length<=5:=by have:=lP hr;simpa [dM]using this
 have Jk:=hr.1;have hlg:lg<=512:=by have:=hr.2.2.2.1;omega
 have hs:∀x∈l++List.replicate (5-l.length) 0,x<65536:=by
  intro x hx
  rcases ay.1 hx with hx|hx
  .obtain⟨i,hi,rfl⟩:=p9 hx;have h1:=hr.2.2.2.2.2 i ((l[i]:Nat):Int) (by simp[dM];exact⟨l[i],aH hi,rfl⟩);omega
  .have:=oP hx;omega
 have h2:cd (oS lg l) 2=l.length:=by
  unfold oS;rw[show(2:Nat)=2+0 by rfl,BC,cK,cK,drop2];exact xN _ (by omega) _
 have h4:∀i,i<l.length->cd (oS lg l) (4+2*i)=l.getD i 0:=by
  intro i hi;unfold oS;rw[BC,cK,cK,drop4,Xi _ _ i (by rw[aT];omega) hs,List.getElem_append_left hi,iq,aH hi];rfl
 refine⟨?_,?_,?_,?_⟩
 .unfold rF;rw[BF];exact Og ep (by omega) hr.2.1
 .rw[xO _ _ _ h5];unfold oS;rw[cK,cK];exact xN lg (by omega) _
 .rw[xO _ _ _ h5,h2]
 .unfold decP;rw[xO _ _ _ h5,h2];apply xq (by simp);intro i h1 h3;simp only[bM,GS]at h1;rw[uB,AN,h4 i h1,iq,aH h1];rfl
variable{w:YB}
def JS(x:Int):Nat:=(max x (-1)+1).toNat
def jP(l:List Int):pu:=(l.map JS).flatMap fD
def ja(l:List Int)(p:Nat):List Int:=(l.drop (116*p)).take 116
theorem yU(l:List Int)(p:Nat):(ja l p).length=min 116 (l.length-116*p):=by simp[ja]
theorem Xk(l:List Int)(p i:Nat)(h:i<116):(ja l p)[i]?=l[116*p+i]?:=by
 unfold ja;rw[uA,if_pos h,iK]
theorem Tw{ad:Addr}{n m p i:Nat}{l:List Int}(h:jT w (some ad) n l)(BH:m<=116)(Bp:116*p+m<=n)(hi:i<m):
  ∃x,w.cell? ((ad.add (p*116)).add i)=some (U5 By x)/\(ja l p).take (i+1)=(ja l p).take i++[x]/\jP ((ja l p).take (i+1))=jP ((ja l p).take i)++fD (JS x)/\x∈ja l p:=by
 obtain⟨ad',x,e,hx,ck⟩:=h.at (116*p+i) (by omega)
 cases e
 have hg:(ja l p)[i]?=some x:=by rw[Xk _ _ _ (by omega)];exact hx
 obtain⟨ef,MN⟩:=aR.1 hg;have ht:(ja l p).take (i+1)=(ja l p).take i++[x]:=by rw[ik ef,MN]
 refine⟨x,?_,ht,?_,aA hg⟩
 .rw[Np,show p*116+i=116*p+i by omega];exact ck
 .rw[ht];unfold jP;rw[cX,uy];simp
theorem JT(A:Option Addr)(n c:Nat)(l:List Int)(h:jT w A n l)(hn:n<=1000000)(Ha:n<=c)(p:Nat)(hp:116*p<n):
  eq prog 198 #[U3 A n c,U5 By (p:Nat)] w λe w'=>(((∃x∈ja l p,1023<x)/\e=BY (U8 #[U2 ⟨#[]⟩,U5 By 2]))\/((∀x∈ja l p,x<=1023)/\e=BY (U8 #[U2 ⟨(jP (ja l p)).toArray⟩,U5 By 0])))/\i7 w w':=by
 have hneed:(p:Int)<oK n:=by unfold oK;omega
 have KN:=xh<|Bo (n:Int) (by omega) w;have HL:=xh h.1;have HI:=xh h;obtain⟨ad,x0,rfl,_,_⟩:=h.at 0 (by omega);obtain⟨m,hm⟩:∃m,m=min 116 (n-116*p):=⟨_,rfl⟩;have HM:=xh hm;have BH:m<=116:=by omega
 have Bp:116*p+m<=n:=by omega
 clear h hm;generalize oK n=nd at *;go_in;go_wp;go_call KN.o as e w1 ⟨rfl,aO⟩;have O1:=xh aO;go_wp2_with fail;rw[show n-p*116=m from by have:=HM.o;omega];rotate_left
 rw[show((((p:Int)+1)*116).toNat-p*116)=m from by have:=HM.o;omega]
 all_goals
  go_loopw [6,29] (λbv iv wr=> ∃i:Nat,i<=m/\iv=U5 By i/\aM wr 5 1 bv (2*i) (dR (jP ((ja l p).take i)))/\Hid (∀x∈(ja l p).take i,x<=1023)/\i7 w wr/\Hid (∀g∈ah bv,w.heap.size<=g)) (λ_ iv _=>m-(intOf iv).toNat)
  case atStart=>exact⟨0,aW _,rfl,aM.nil _ _ _,xh (by simp),O1.o,xh (by simp[ah])⟩
  case round=>
   obtain⟨i,hi,rfl,S,GD,O,F⟩:=hrel
   by_cases h':i<m
   .obtain⟨x,ck,ht,hp2,hmem⟩:=Tw (HI.o.below O) BH Bp h';have OO:=xh O;have HT:=xh ht;have HP:=xh hp2;have HX:=xh hmem;have hiI:(i:Int)<(m:Int):=by omega
    by_cases hx:1023<x
    .go_wp2;go_ret2;exact⟨.inl ⟨⟨x,HX.o,hx⟩,rfl⟩,OO.o⟩
    .obtain⟨BA,bc,rfl⟩:=ax S;have KT:=xh<|fO _ (2*i) _ S (JS x) (by unfold JS;omega) (by omega);have G2:=xh (show ∀y∈(ja l p).take (i+1),y<=1023 from by
      rw[HT.o];intro y hy
      rcases ay.1 hy with hy|hy
      .exact GD.o y hy
      .simp at hy;omega)
     by_cases JU:x< -1
     rw[show((JS x:Nat):Int)=0 from by unfold JS;omega]at KT;rotate_left;rw[show((JS x:Nat):Int)=x+1 from by unfold JS;omega]at KT
     all_goals
      go_wp;go_call KT.o as e w2 ⟨⟨v2,rfl,S2,fr⟩,ow⟩;rw[<-HP.o]at S2;have S2:=xh S2;have O2:=xh<|OO.o.trans (ow.aK OO.o.size F.o);have F2:=g9 (∀g∈ah v2,w.heap.size<=g) (λg hg=>(fr g hg).elim (F.o g) (λh=>aq OO.o.size h));go_wp2_with fail;go_roundw
      case rel=>exact⟨i+1,by omega,by go_num,S2.o,G2,O2.o,F2⟩
      case measure=>simp[intOf];omega
   .obtain rfl:i=m:=by omega
    have Xl:(ja l p).take i=ja l p:=cm (by rw[yU,HL.o];have:=HM.o;omega);rw[Xl]at S;have G2:=g9 (∀y∈ja l p,y<=1023) (by have:=GD.o;rwa [Xl]at this);obtain⟨g,cap,rest,rfl,B,hc,_⟩:=S.form (by have:=HM.o;omega) (by omega)
    have ST:=xh<|cu (P:=prog) wr 150 9 5 underlying150 underlying5 underlying9 ⟨g,0,none⟩ (2*i) cap (jP (ja l p)) (by have:=S.1;simpa using this) (bm B 0 _ (by intro j u hu;rw[bq];exact bE (aR.1 hu).1▸hu));have OO:=xh O;go_wp;rw[ST.o];go_wp2;go_ret2;exact⟨.inr ⟨G2.o,rfl⟩,OO.o⟩
attribute [local go_sem ↓] bA
def nvs(l:List Int):List YO:=l.map (Value.int By)
@[simp] theorem nvs_length(l:List Int):(nvs l).length=l.length:=by simp[nvs]
def dN(T:pu)(m:Nat):List Int:=(List.range m).map λj=>(cd T (2*j):Int)-1
@[simp] theorem getF_length(T:pu)(m:Nat):(dN T m).length=m:=by simp[dN]
end Rt
namespace Sh
open Go.RowKit Pk Dk Pg
attribute [local go_sem ↓] bA
variable{w:YB}
theorem JV{v:YO}{l:List Int}(S:Sl w 3 v l.length (dH l))(hl:l.length<=100000):
  eq prog 85 #[v] w λe w'=> ∃v',e=BY v'/\Sl w' 3 v' l.length (dH l)/\i7 w w'/\∀g∈cE v',w.heap.size<=g:=by
 obtain⟨A,c,rfl,hc⟩:=S.val;have E0:Sl (w.alloc (WF #[] 3)) 3 (U3 (lc w.heap.size) 0 0) 0 (dH []):=⟨rfl,.inl ⟨_,rfl,rfl⟩⟩;have HN:∀j u,(dH l)[j]?=some u->∃a,A=some a/\(w.alloc (WF #[] 3)).cell? (a.add j)=some u:=by
  intro j u hu;have hj:j<l.length:=by have:=(aR.1 hu).1;simpa using this
  obtain⟨g,cap,rest,hv,B,_,_⟩:=(S.alloc (WF #[] 3)).form (by omega);injection hv with e1 e2 e3
  subst e1;exact⟨_,rfl,bm B 0 _ (by intro i v hi;rw[bq];exact bE (aR.1 hi).1▸hi) j u hu⟩
 obtain⟨v1,w1,ea,S1,o1,f1⟩:=EP (P:=prog) E0 60 60 (U5 By 0) 8 underlying60 lQ rfl A l.length c (dH l) (by simp) HN (WQ l) (by unfold maxLen;omega) (by omega);rw[bq,<-gX,cQ]at S1
 have H1:=g9 (Sl w1 3 v1 l.length (dH l)/\i7 w w1/\∀g∈cE v1,w.heap.size<=g) ⟨S1,(i6 w (WF #[] 3)).trans (o1.aK (by simp) (λx hx=>by simp[cE]at hx)),λg hg=>(f1 g hg).elim (λh=>by simp[cE]at h) (λh=>by simp at h;omega)⟩;have EA:=xh ea;clear ea S1 o1 f1 HN E0
 cases A with
 |none=>
  have HE:=Lib.run_eql_slice_nil (P:=prog) w 60 3 none 0 0 0 0 underlying60;have h0:l.length=0:=by
   rcases S.2 with⟨A',e,h0⟩|⟨g,cap,rest,e,_⟩
   .exact h0
   .cases e
  have hc0:c=0:=by
   rcases S.2 with⟨A',e,_⟩|⟨g,cap,rest,e,_⟩
   .injection e
   .cases e
  subst hc0;have JE:l=[]:=oO h0;subst JE;go_in;go_wp2;go_ret;exact⟨U3 none 0 0,by first|rfl|simp,Sl.nil _ _,Below.refl _ _,by simp[cE]⟩
 |some a=>
  have HE:=Lib.run_eql_slice_nil (P:=prog) w 60 3 (some a) l.length c 0 0 underlying60;go_in;go_wp;rw[EA.o];go_wp2;go_ret;exact⟨v1,by first|rfl|simp,H1.o⟩
def C.aG(c:C)(n:Nat)(l:Int)(p:pu):C×Int:=
 if c.broken=true then(c,13)
 else if 232<p.length then(c,4)
 else if c.kq l≠0 then(c,c.kq l)
 else if Fm.cB c.m (c.table.getD l.toNat 0)=true then({c with d:=(bt c.d n (c.table.getD l.toNat 0) (c.ep+1) 2 p).1},(bt c.d n (c.table.getD l.toNat 0) (c.ep+1) 2 p).2)
 else if(c.cB n p).2.2≠0 then((c.cB n p).1,(c.cB n p).2.2)
 else({(c.cB n p).1 with m:=(Fm.dS (c.cB n p).1.m (c.table.getD l.toNat 0)).1,table:=c.table.set l.toNat (c.cB n p).2.1},0)
theorem Oi{x:X}{n:Nat}{c:C}(h:At w x n c)(l:Int)(s:rd)(hs:s.size<=9223372036854775807)(Jk:0<=c.ep/\c.ep<=1099511627776)(hc:c.d.calls<=3999999999999999990)(hr:c.d.bu<=9223372036854775807)(ht:∀k,c.table.getD k 0<=1024):
  eq prog 147 #[sp x.b,l,U2 s] w λe w'=>e=BY (U5 By (c.aG n l s.data.toList).2)/\At w' x n (c.aG n l s.data.toList).1/\ag x.fp w w':=by
 have KW:=jE h;have hl:s.data.toList.length=s.size:=by simp
 obtain⟨R,hR⟩:∃R,c.aG n l s.data.toList=R:=⟨_,rfl⟩;rw[hR];unfold C.aG at hR;rw[hl]at hR;have HH:=xh h
 by_cases h1:c.broken=true
 .rw[if_pos h1]at hR;subst hR;rw[show c.gl=13 from by unfold C.gl;rw[if_pos h1]]at KW;have KW:=xh KW;clear h h1;unfold sp at *;go_in;go_wp2_with fail;go_call KW.o as e w1 ⟨rfl,rfl⟩;go_wp2;go_ret;exact aI ⟨HH.o,ag.refl _ _⟩
 rw[if_neg h1]at hR;rw[show c.gl=0 from by unfold C.gl;rw[if_neg h1]]at KW;have KW:=xh KW
 by_cases h2:232<s.size
 .rw[if_pos h2]at hR;subst hR;have WS:(232:Int)<(s.size:Int):=by omega
  clear h h1 h2;unfold sp at *;go_in;go_wp2_with fail;go_call KW.o as e w1 ⟨rfl,rfl⟩;go_wp2;go_ret;exact aI ⟨HH.o,ag.refl _ _⟩
 rw[if_neg h2]at hR;have WS:¬(232:Int)<(s.size:Int):=by omega
 have KA:=ry h l
 by_cases h3:c.kq l=0
 .rw[if_neg (by simpa using h3)]at hR;obtain⟨_,h5,h6,h7⟩:=NX h3;rw[h3]at KA;have KA:=xh KA;obtain⟨k,rfl⟩:=dZ h5;have hk:k<c.table.length:=by omega
  rw[show((k:Nat):Int).toNat=k from by omega]at hR h7;obtain⟨g,cp,hv,ck⟩:=h.tk k hk;have f2:=h.f2;rw[hv]at f2
  have HR:=xh hR
  have KF:=xh (λ(m:Nat)=>Fm.sY (h.drewN m).hm (c.table.getD k 0));have KP:=xh (λ(m:Nat)=>jD (h.drewN m) (c.table.getD k 0) 2 s (by have:=ht k;omega) Jk hc hr);have KN:=xh (λ(m:Nat)=>sY (h.drewN m) s Jk hc hr);obtain⟨pid,Xm⟩:∃pid,c.table.getD k 0=pid:=⟨_,rfl⟩;rw[Xm]at ck KF KP hR HR;have g1:=h.f1
  by_cases hf:Fm.cB c.m pid=true
  .rw[if_pos hf]at hR;subst hR;rw[hf]at KF;clear h h1 h2 h3 hv hf HR Xm;generalize c.table.length=tn at *;unfold Fm.mp at *;unfold sp at *;go_in;go_wp2_with fail;go_call KW.o as e w1 ⟨rfl,rfl⟩;go_wp2_with fail;go_call KA.o as e w1 ⟨rfl,rfl⟩;go_wp2_with fail;go_quiet ((go_at_call 192;exact AV (KF.o _)));go_wp2_with fail;go_call (KP.o nq) as e w2 ⟨rfl,A2,o2⟩;have A2:=xh A2
   have o2:=xh<|((ag.refl x.fp w).drewN nq).trans (o2.mono (λg hg _=>JG x g hg));go_wp2;go_ret;exact aI ⟨A2.o,o2.o⟩
  .have Ak:Fm.cB c.m pid=false:=by cases hb:Fm.cB c.m pid with|true=>exact absurd hb hf|false=>rfl
   rw[if_neg hf]at hR;rw[Ak]at KF;have FT:=nc c n s.data.toList;obtain⟨c1,Ib⟩:∃c1,c.cB n s.data.toList=c1:=⟨_,rfl⟩;rw[Ib]at KN hR FT;obtain⟨C1,id1,e1⟩:=c1;dsimp only at KN hR FT
   by_cases he:e1=0
   .subst he;rw[i8]at hR;subst hR;have HT:=xh FT.1;have hpid2:=g9 (C1.table.getD k 0=pid) (by rw[HT.o];exact Xm);have hk2:=g9 (k<C1.table.length) (by rw[HT.o];exact hk);have HX:=xh (show ∀w1,At w1 x n C1->∀cp',x.tv=U3 (lc g) c.table.length cp'->(w1.cell? ⟨x.b,1,none⟩=some (Fm.mp x.mb)/\w1.cell? ⟨x.b,2,none⟩=some (U3 (lc g) c.table.length cp')/\w1.cell? ⟨g,k,none⟩=some (pid:li))from λw1 A1 cp' e=>by
     obtain⟨g2,cp2,e2,ck2⟩:=A1.tk k hk2.o;rw[e]at e2;injection e2 with e3 e4 e5
     injection e3 with e3
     injection e3 with e3
     subst e3;rw[hpid2.o]at ck2;exact⟨A1.f1,by rw[<-e];exact A1.f2,ck2⟩)
    have HS:=xh (show ∀w2,At w2 x n {C1 with m:=(Fm.dS C1.m pid).1}->∀cp',x.tv=U3 (lc g) c.table.length cp'->(w2.cell? ⟨g,k,none⟩=some (pid:li)/\w2.frozen? ⟨g,k,none⟩=false/\At (w2.setCell ⟨g,k,none⟩ id1) x n {C1 with m:=(Fm.dS C1.m pid).1,table:=c.table.set k id1}/\ag x.fp w2 (w2.setCell ⟨g,k,none⟩ id1))from λw2 A2 cp' e=>by
     obtain⟨g2,cp2,e2,ck2,z2,A3,o3⟩:=A2.gE k hk2.o id1;rw[e]at e2;injection e2 with e3 e4 e5
     injection e3 with e3
     injection e3 with e3
     subst e3;rw[show({C1 with m:=(Fm.dS C1.m pid).1}:C).table.getD k 0=pid from hpid2.o]at ck2;rw[show({C1 with m:=(Fm.dS C1.m pid).1}:C).table=c.table from HT.o]at A3;exact⟨ck2,z2,A3,o3⟩)
    have HV:=xh hv;have KL:=xh (λ(W:YB) (hW:At W x n C1)=>Fm.sV hW.hm pid);have HM:=xh (λ(W W':YB) (hW:At W x n C1) (mm:Fm.dU W' x.mb x.mg (Fm.dS C1.m pid).1) (ow:ag [x.mg] W W')=>hW.map mm ow);clear h h1 h2 h3 hv hf Ak HR Xm FT Ib;generalize c.table.length=tn at *;generalize (Fm.dS C1.m pid).2=le at *;unfold Fm.mp at *;unfold sp at *;go_in;go_wp2_with fail;go_call KW.o as e w1 ⟨rfl,rfl⟩
    go_wp2_with fail;go_call KA.o as e w1 ⟨rfl,rfl⟩;go_wp2_with fail;go_quiet ((go_at_call 192;exact AV (KF.o _)));go_wp2_with fail;go_call (KN.o nq) as e w1 ⟨rfl,A1,o1⟩;have A1:=xh A1;have o1:=xh<|((ag.refl x.fp w).drewN nq).trans o1;clear f2 ck;have A1d:=xh A1.o.drew;have HK:=xh<|HX.o _ A1d.o cp HV.o;go_wp2_with fail
    refine kw (λW'=>W'.cell? ⟨x.b,1,none⟩=some (lc x.mb:li)/\W'.cell? ⟨x.b,2,none⟩=some (U3 (lc g) tn cp)/\W'.cell? ⟨g,k,none⟩=some (pid:li)) (HK.o) (λau=>?_);refine dP [(0,56),(1,57),(2,58),(3,59),(4,60),(5,61),(6,62),(7,63),(8,64),(9,65),(10,66)] ?_
    iterate 11 refine bJ ?_
    refine dI 11 67 λK hK=>?_;go_simp
    go_at_call 153
    go_call (KL.o _ A1d.o) as e w2 ⟨rfl,mm,ow⟩;have A2:=xh<|HM.o _ _ A1d.o mm ow;have Bu:=xh<|HS.o w2 A2.o cp HV.o;have q1:=A2.o.f1;have q2:=A2.o.f2;rw[HV.o]at q2;unfold Fm.mp at q1;have OX:=xh<|((o1.o.drew).trans (ow.mono (λg hg _=>ue x g hg))).trans Bu.o.2.2.2;have z2:=Bu.o.2.1;have ck2:=Bu.o.1;clear mm ow;go_simp;refine bn hK (⟨q1,q2,ck2⟩) (λau=>?_);refine jp ?_ _;go_wp2;go_ret
    exact aI ⟨Bu.o.2.2.1,OX.o⟩
   .rw[if_pos he]at hR;subst hR;have hq:(e1 != 0)=true:=ls he
    have my:(e1==0)=false:=i4 he
    clear h h1 h2 h3 hv hf Ak HR Xm FT Ib;generalize c.table.length=tn at *;unfold Fm.mp at *;unfold sp at *;go_in;go_wp2_with fail;go_call KW.o as e w1 ⟨rfl,rfl⟩;go_wp2_with fail;go_call KA.o as e w1 ⟨rfl,rfl⟩;go_wp2_with fail;go_quiet ((go_at_call 192;exact AV (KF.o _)));go_wp2_with fail;go_call (KN.o nq) as e w1 ⟨rfl,A1,o1⟩;have A1:=xh A1;have o1:=xh<|((ag.refl x.fp w).drewN nq).trans o1
    go_wp2;go_ret;exact aI ⟨A1.o,o1.o⟩
 .rw[if_pos h3]at hR;subst hR;have KA:=xh KA;have hq:(c.kq l != 0)=true:=ls h3
  have my:(c.kq l==0)=false:=i4 h3
  generalize c.kq l=ea at *;clear h h1 h2 h3;unfold sp at *;go_in;go_wp2_with fail;go_call KW.o as e w1 ⟨rfl,rfl⟩;go_wp2_with fail;go_call KA.o as e w1 ⟨rfl,rfl⟩;go_wp2;go_ret;exact aI ⟨HH.o,ag.refl _ _⟩
end Sh
namespace Sh
open Go.RowKit Pk Dk Pg
def Xn(e:Int):List PanicEntry:=[{v:= .iface 31 (U5 By e),recovered:=false}]
theorem Ao(w:YB):eq prog 199 #[U5 By 0] w λe w'=>e=BY (U8 #[])/\w=w':=by
 go_in;go_wp
 go_end0
 exact⟨rfl,rfl⟩
theorem vX(e0:Int)(he:e0≠0)(w:YB):eq prog 199 #[e0] w λe w'=>e= .panicked (Xn e0)/\w=w':=by
 unfold Xn;go_in;go_wp;exact⟨rfl,rfl,rfl⟩
theorem JW(w:YB):(Instr.typeAssert .nilIface 20 31 true).run prog w=.ok (U8 #[U5 By 0,.bool false]) w:=by kernel_rfl
theorem JX(w:YB)(e:Int):(Instr.typeAssert (.iface 31 e) 20 31 true).run prog w=.ok (U8 #[e,.bool true]) w:=by kernel_rfl
theorem Oj(p:Addr)(w:YB):
  CallsD prog 196 #[U7 (some p)] .returning w λe u' w'=>e=BY (U8 #[])/\u'= .returning/\w'=w:=by
 refine callsD_of_wpS func196 rfl λc₀ cs hu=>?_;apply wpS_seq;apply wpS_region;simp[wpOpsS,go_sem,recoverD,hu,ntmps196,Exit.thenS,(JW w)];apply wpS_seq;apply wpS_region;simp[wpOpsS,go_sem,Exit.thenS];refine wpS_cond (t:=false) (by simp[Act.eval,Array.replicate]) ?_;simp only[mJ,if_false];refine wpS_of_wp (wp_skip ?_)
 cases c₀
 simp_all[bodyPostS,results,Tryz.results196]
theorem kg(p:Addr)(x e0:Int)(older:List PanicEntry)(w:YB)(hc:w.cell? p=some (x:li))(hz:w.frozen? p=false):
  CallsD prog 196 #[U7 (some p)] (.panicking ({v:= .iface 31 e0,recovered:=false}::older)) w λe u' w'=>
   e=BY (U8 #[])/\u'= .panicking ({v:= .iface 31 e0,recovered:=true}::older)/\w'=w.setCell p e0:=by
 refine callsD_of_wpS func196 rfl λc₀ cs hu=>?_;apply wpS_seq;apply wpS_region;simp[wpOpsS,go_sem,recoverD,hu,ntmps196,Exit.thenS,(JX w e0)];apply wpS_seq;apply wpS_region;simp[wpOpsS,go_sem,Exit.thenS];refine wpS_cond (t:=true) (by simp[Act.eval,Array.replicate]) ?_;simp only[if_true];apply wpS_region;simp[wpOpsS,go_sem,hc,hz,bodyPostS,results,Tryz.results196]
theorem Xo{w:YB}{x:X}{n:Nat}{c:C}(h:At w x n c){q:Nat}(hq:w.cell? (lc q)=some (sp x.b))(i:Nat)(hi:116*i<c.table.length)(hb:∀y∈c.table,y<=1023):
  eq prog 197 #[(i:Nat),lc q] w λe w'=>e=BY (U2 ⟨(Rt.jP (Rt.ja c.table i)).toArray⟩)/\i7 w w':=by
 have f2:=h.f2;obtain⟨A,cc,hv,hcc⟩:=h.ht.val;have tl:=h.tl;have KP:=Rt.JT (w:=w) A c.table.length cc c.table ⟨rfl,λk y hy=>by
  have hk:k<c.table.length:=(aR.1 hy).1;obtain⟨g,cp,re,ck⟩:=h.tk k hk;rw[hv]at re;injection re with e1 e2 e3
  refine⟨_,e1,?_⟩;rw[show(⟨g,0,none⟩:Addr).add k=⟨g,k,none⟩from by unfold Addr.add;split<;>simp_all,ck]
  congr 2
  simp[List.getD,hy]⟩ (by omega) hcc i hi
 have KP:=xh (KP.mono λe w' hh=>(show e=BY (U8 #[U2 ⟨(Rt.jP (Rt.ja c.table i)).toArray⟩,U5 By 0])/\i7 w w' from by
  obtain⟨h1|h1,h2⟩:=hh
  .obtain⟨⟨y,hy,ef⟩,_⟩:=h1;have:=hb y (qa (gv hy));omega
  .exact⟨h1.2,h2⟩))
 rw[hv]at f2;unfold sp at *;go_in;go_wp;go_call KP.o as e w1 ⟨rfl,aO⟩;have H1:=xh aO;go_wp2;go_ret;exact aI H1.o
variable{w:YB}{x:X}{n m cc:Nat}{A:Option Addr}
def C.iy(c:C)(n:Nat)(parts:List Int):Nat->D×Int
 |0=>(c.d,0)
 |i+1=>if(c.iy n parts i).2≠0 then c.iy n parts i else bt (c.iy n parts i).1 n (parts.getD i 0) (c.ep+1) 1 (Rt.jP (Rt.ja c.table i))
def C.bT(c:C)(n:Nat)(parts:List Nat):D×Int:=
 if(c.iy n (Rt.dM parts) parts.length).2≠0 then c.iy n (Rt.dM parts) parts.length
 else if(c.iy n (Rt.dM parts) parts.length).1.eM.2≠0 then(c.iy n (Rt.dM parts) parts.length).1.eM
 else if((c.iy n (Rt.dM parts) parts.length).1.eM.1.aG n (1-c.slot) (Rt.fH (c.ep+1) c.table.length parts)).2≠0 then(c.iy n (Rt.dM parts) parts.length).1.eM.1.aG n (1-c.slot) (Rt.fH (c.ep+1) c.table.length parts)
 else((c.iy n (Rt.dM parts) parts.length).1.eM.1.aG n (1-c.slot) (Rt.fH (c.ep+1) c.table.length parts)).1.eM
theorem Q8(c:C)(n:Nat)(parts:List Int)(h:c.d.bu<=9223372036854775807):∀i,(c.iy n parts i).1.calls<=c.d.calls+4*i/\(c.iy n parts i).1.bu<=9223372036854775807
 |0=>⟨by show c.d.calls<=_;omega,h⟩
 |i+1=>by
  have ih:=Q8 c n parts h i;unfold C.iy
  split
  .exact⟨by omega,ih.2⟩
  .have:=sS (c.iy n parts i).1 n (parts.getD i 0) (c.ep+1) 1 (Rt.jP (Rt.ja c.table i)) ih.2;exact⟨by omega,this.2⟩
theorem xP(c:C)(n:Nat)(parts:List Int)(i:Nat):c.iy n parts (i+1)=if(c.iy n parts i).2≠0 then c.iy n parts i else bt (c.iy n parts i).1 n (parts.getD i 0) (c.ep+1) 1 (Rt.jP (Rt.ja c.table i)):=rfl
theorem Ff(c:C)(n:Nat)(parts:List Int)(i:Nat)(h:(c.iy n parts i).2≠0):∀k,c.iy n parts (i+k)=c.iy n parts i
 |0=>rfl
 |k+1=>by
  rw[show i+(k+1)=(i+k)+1 by omega,xP,(Ff c n parts i h k),if_pos h]
structure py(w0 w:YB)(x:X)(n:Nat)(c:C)(d:D)(v:YO)(parts:List Int):Prop where
 at_:At w x n {c with d:=d}
 on:ag x.L.fp w0 w
 bx:aF w w0.heap.size 61 #[sp x.b]
 bo:aF w (w0.heap.size+1) 31 #[U5 By 0]
 ps:Sl w 3 v parts.length (dH parts)
 nf:∀g∈cE v,g∉x.L.fp
 lt2:∀g∈x.fp,g<w0.heap.size
section
variable{w0 w w':YB}{x:X}{n:Nat}{c:C}{d:D}{v:YO}{parts:List Int}
theorem py.lt(h:py w0 w x n c d v parts):∀g∈x.L.fp,g<w0.heap.size:=λg hg=>h.lt2 g (JG x g hg)
theorem py.below(h:py w0 w x n c d v parts)(hb:i7 w w'):py w0 w' x n c d v parts:=
 ⟨h.at_.below hb,h.on.trans (.aj hb),h.bx.below hb h.bx.lt,h.bo.below hb h.bo.lt,h.ps.below hb,h.nf,h.lt2⟩
theorem py.step{d':D}(h:py w0 w x n c d v parts)(A:At w' x n {c with d:=d'})(o:ag x.L.fp w w'):py w0 w' x n c d' v parts:=
 ⟨A,h.on.trans o,h.bx.only o (λhg=>by have:=h.lt _ hg;omega),h.bo.only o (λhg=>by have:=h.lt _ hg;omega),h.ps.only o (λg hg=>h.nf g hg),h.nf,h.lt2⟩
theorem py.o(h:py w0 w x n c d v parts)(u:YO):At (w.setCell ⟨w0.heap.size+1,0,none⟩ u) x n {c with d:=d}/\ag x.L.fp w0 (w.setCell ⟨w0.heap.size+1,0,none⟩ u)/\(w.setCell ⟨w0.heap.size+1,0,none⟩ u).cell? ⟨w0.heap.size+1,0,none⟩=some u:=
 ⟨h.at_.only ((ag.refl [w0.heap.size+1] w).setCell (p:=⟨w0.heap.size+1,0,none⟩) (by simp) u) (λg hg hm=>by have:=h.lt2 g hg;simp at hm;omega),h.on.setCell (λef=>by dsimp only at ef;omega) u,(h.bo.cw 0 u).ab rfl⟩
theorem py.part(h:py w0 w x n c d v parts)(i:Nat)(hi:i<parts.length):∃g cp,v=U3 (lc g) parts.length cp/\w.cell? ⟨g,i,none⟩=some (U5 By (parts.getD i 0)):=by
 obtain⟨g,cp,rest,hv,B,_,_⟩:=h.ps.form (by omega);refine⟨g,cp,hv,B.ab ?_⟩;rw[cN,bE (by simpa using hi),rB _ _ hi]
end
theorem BJ(d:D)(h:d.bu<=9223372036854775807):d.eM.1.calls<=d.calls+1/\d.eM.1.bu<=9223372036854775807:=by
 have:=xE d h;unfold D.eM
 split
 .exact⟨by show d.calls<=_;omega,h⟩
 .split
  .exact⟨by show d.cW.1.calls<=_;omega,this.2⟩
  .exact⟨by omega,this.2⟩
theorem rput_of{w0:YB}{c:C}{d:D}{parts:List Nat}(h:py w0 w x n c d (U3 A m cc) (Rt.dM parts))(vL:(Rt.dM parts).length=m)(hmc:m<=cc)(hr:Rt.jn (c.ep+1) (c.table.length:Nat) (Rt.dM parts)):
  eq prog 102 #[Rt.E9 (c.ep+1) (c.table.length:Nat) A m cc] w λe w'=>e=BY (U8 #[U2 ⟨(Rt.fH (c.ep+1) c.table.length parts).toArray⟩,U5 By 0])/\i7 w w':=by
 refine Rt.JF (c.ep+1) c.table.length A m cc parts ⟨vL,λk y hy=>?_⟩ hmc hr;obtain⟨g,cp,hv,ck⟩:=h.part k ((aR.1 hy).1);rw[vL]at hv;injection hv with e1 e2 e3
 refine⟨_,e1,?_⟩;rw[show(⟨g,0,none⟩:Addr).add k=⟨g,k,none⟩from by unfold Addr.add;split<;>simp_all,ck]
 congr 2
 simp[List.getD,hy]
theorem rG{P:Program}{fn:Func}{t t':Array YO}{R:Ending->YB->Prop}(h:∀w,(results fn t').run P w=(results fn t).run P w):∀(ds:List Deferred) (u:FrameMode) (w:YB),Leaves P fn t' R ds u w->Leaves P fn t R ds u w
 |[],.returning,w,⟨v,h1,h2⟩=>⟨v,by rw[<-h w];exact h1,h2⟩
 |[],.panicking _,_,h2=>h2
 |[],.run,_,h2=>h2
 |d::ds,u,w,⟨h1,fv,cap,f,args,h2,h3,h4⟩=>⟨h1,fv,cap,f,args,h2,h3,h4.mono λe u' w' hh=>by
   cases e with
   |returned v=>exact rG h ds (settle u') w' hh
   |panicked c=>exact rG h ds (raised u' c) w' hh
   |outgrown=>exact hh⟩
theorem di(d:Nat)(hd:d≠4){R:Ending->YB->Prop}{c:List PanicEntry}{a:Act}{v:YO}(h:bodyPostD prog Tryz.f152 R (.panic c) (a.put (some d) v) w):bodyPostD prog Tryz.f152 R (.panic c) a w:=by
 refine rG (λw=>?_) _ _ _ h;rw[eh rfl,eh rfl];simp only[Act.put];have:(a.tmps.setIfInBounds d v).getD 4 undef=a.tmps.getD 4 undef:=by
  rw[VT,VT,Array.getElem?_setIfInBounds_ne hd]
 rw[this]
theorem Ah{c:C}(h:At w x n c)(parts:List Nat)(S:Sl w 3 (U3 A m cc) m (dH (Rt.dM parts)))(hmc:m<=cc)(nf:∀g∈cE (U3 A m cc),g∉x.fp)
 (hr:Rt.jn (c.ep+1) (c.table.length:Nat) (Rt.dM parts))(hb:∀y∈c.table,y<=1023)(zL:c.slot=0\/c.slot=1)(hc:c.d.calls<=3999999999999999900)(ha:c.d.bu<=9223372036854775807):
  eq prog 152 #[sp x.b,U3 A m cc] w λe w'=>e=BY (U5 By (c.bT n parts).2)/\At w' x n {c with d:=(c.bT n parts).1}/\ag x.L.fp w w':=by
 have hmf:∀(fn:Fn) (first cap:Array YO) (w:YB),(Instr.makeFunc fn first cap).run prog w=.ok (.func fn first cap) w:=λ_ _ _ _=>rfl;have vL:(Rt.dM parts).length=m:=by have:=S.1;simpa using this
 have hpl2:parts.length=m:=by rw[<-vL];simp[Rt.dM]
 have hm5:m<=5:=by have:=Rt.lP hr;omega
 have tl:=h.tl;have Jk:1<=c.ep+1/\c.ep+1<=1099511627776:=⟨hr.1,hr.2.1⟩;have hneed:(m:Int)=Rt.oK (c.table.length:Nat):=by have:=hr.2.2.2.2.1;rw[vL]at this;exact this
 obtain⟨R,hR⟩:∃R,c.bT n parts=R:=⟨_,rfl⟩;rw[hR];unfold C.bT at hR;rw[hpl2]at hR;have HR:=xh hR;have U0:=ae (Below.refl w.heap.size w) (WF #[sp x.b] 61);have U1:=aC U0 (ae (Below.refl (w.alloc (WF #[sp x.b] 61)).heap.size _) (WF #[U5 By 0] 31));have L0:=xh (show py w ((w.alloc (WF #[sp x.b] 61)).alloc (WF #[U5 By 0] 31)) x n c c.d (U3 A m cc) (Rt.dM parts)from
  ⟨h.below U1,.aj U1,(aF.new w _ _).alloc _,by have:=aF.new (w.alloc (WF #[sp x.b] 61)) 31 #[U5 By 0];rw[World.size_alloc]at this;exact this,by rw[vL];exact S.below U1,λg hg hF=>nf g hg (JG x g hF),λg hg=>h.lt g hg⟩)
 have hlb:=xh (λi=>Q8 c n (Rt.dM parts) ha i);clear hR U0 U1 S nf h;unfold sp at *
 go_enter_defers func152,ntmps152
 go_wp2_with fail
 go_loopw [14] (λiv wr=> ∃i:Nat,i<=m/\iv=U5 By i/\Hid ((c.iy n (Rt.dM parts) i).2=0)/\Hid (py w wr x n c (c.iy n (Rt.dM parts) i).1 (U3 A m cc) (Rt.dM parts))) (λiv _=>m-(intOf iv).toNat)
 case atStart=>exact⟨0,aW _,rfl,xh rfl,L0⟩
 case round=>
  obtain⟨i,hi,rfl,HZ,HL⟩:=hrel;have bb:=hlb.o i
  by_cases h':i<m
  .obtain⟨g,cp,hv,ck⟩:=HL.o.part i (by omega);rw[vL]at hv;injection hv with e1 e2 e3
   subst e1 e3;clear e2;have hiI:(i:Int)<(m:Int):=by omega
   have Xl:116*i<c.table.length:=by unfold Rt.oK at hneed;omega
   have hsc:=xP c n (Rt.dM parts) i;rw[if_neg (by rw[HZ.o];simp)]at hsc;have hid:(Rt.dM parts).getD i 0<=9223372036854775807:=by
    have hm:i<(Rt.dM parts).length:=by omega
    have:=(hr.2.2.2.2.2 i _ (aH hm)).2.1;simp only[List.getD,aH hm,jB];omega
   have K2:=xh (λ(W:YB) (hW:py w W x n c (c.iy n (Rt.dM parts) i).1 (U3 (some ⟨g,0,none⟩) m cc) (Rt.dM parts))=>Xo hW.at_ (hW.bx.ab (i:=0) rfl) i Xl hb);have KP:=xh (λ(W:YB) (hW:At W x n {c with d:=(c.iy n (Rt.dM parts) i).1})=>jD hW ((Rt.dM parts).getD i 0) 1 ⟨(Rt.jP (Rt.ja c.table i)).toArray⟩ hid (by show 0<=c.ep/\c.ep<=1099511627776;omega) (by show(c.iy n (Rt.dM parts) i).1.calls<=3999999999999999990;omega) bb.2)
   rw[show({c with d:=(c.iy n (Rt.dM parts) i).1}:C).table=c.table from rfl]at K2;rw[show({c with d:=(c.iy n (Rt.dM parts) i).1}:C).d=(c.iy n (Rt.dM parts) i).1 from rfl,show({c with d:=(c.iy n (Rt.dM parts) i).1}:C).ep=c.ep from rfl,show(⟨(Rt.jP (Rt.ja c.table i)).toArray⟩:rd).data.toList=Rt.jP (Rt.ja c.table i)from rfl,<-hsc]at KP;generalize (⟨(Rt.jP (Rt.ja c.table i)).toArray⟩:rd)=PB at *
   obtain⟨er,vN⟩:∃er,(c.iy n (Rt.dM parts) (i+1)).2=er:=⟨_,rfl⟩;rw[vN]at KP;have HS:=xh vN;clear hsc vN bb;unfold sp at *;have hdc:(0:Int)<=(i:Int):=by omega
   generalize (Rt.dM parts).getD i 0=pid at *;go_wp2_with fail;have LD:=xh (HL.o.below ((Below.refl _ _).drew));have bD:=LD.o.bx.ab (i:=0) rfl;refine wp_region_held_drew (S:=λW'=>W'.cell? ⟨w.heap.size,0,none⟩=some (U7 (some ⟨x.b,0,none⟩))) (by kernel_rfl) (bD) (λau=>?_);refine km 0 19 (λ_ _ _ h=>di 19 (by decide) h) ?_;refine km 1 20 (λ_ _ _ h=>di 20 (by decide) h) ?_;refine km 2 21 (λ_ _ _ h=>di 21 (by decide) h) ?_
   refine km 3 22 (λ_ _ _ h=>di 22 (by decide) h) ?_;refine dI 4 23 λK hK=>?_;go_simp
   go_at_call 197
   refine(K2.o _ LD.o).mono ?_;rintro e w2 ⟨rfl,cf⟩;have L2:=xh (LD.o.below cf);have b2:=L2.o.bx.ab (i:=0) rfl;clear cf;go_simp;refine bn hK (b2) (λau=>?_);refine dI 5 24 λK hK=>?_;go_simp
   go_at_call 193
   refine(KP.o _ L2.o.at_).mono ?_;rintro e w3 ⟨rfl,A3,o3⟩;have L3:=xh (L2.o.step A3 o3);have b3:=L3.o.bx.ab (i:=0) rfl;clear A3 o3;go_simp;refine bn hK (b3) (λau=>?_);refine dI 6 25 λK hK=>?_;go_simp
   go_at_call 199
   by_cases he:er=0
   rotate_left
   .refine(vX er he _).mono ?_;rintro e w4 ⟨rfl,rfl⟩;dsimp only;have LZ:=L3;refine leaves_cons (f:=196) (args:= #[U7 (some ⟨w.heap.size+1,0,none⟩)]) (by simp) (by simp[go_sem]) ?_;refine(kg ⟨w.heap.size+1,0,none⟩ 0 er [] _ (LZ.o.bo.ab (i:=0) rfl) (LZ.o.bo.frozen 0 (by simp))).mono ?_;rintro e u' Sn ⟨rfl,rfl,rfl⟩;obtain⟨y1,y2,y3⟩:=LZ.o.o (U5 By er);refine⟨U5 By er,?_,?_⟩
    .rw[eh rfl];clear y1 y2;go_simp
    .have zN:=HR.o;rw[show m=(i+1)+(m-(i+1)) by omega,Ff c n _ (i+1) (by rw[HS.o];exact he),if_pos (by rw[HS.o];exact he)]at zN;subst zN;exact⟨by rw[HS.o],y1,y2⟩
   subst he;refine(Ao _).mono ?_;rintro e w4 ⟨rfl,rfl⟩;go_simp;refine bn hK (b3) (λau=>?_);refine wpAnyH_done (by kernel_rfl) ?_ _;go_wp2_with fail;go_roundw
   case rel=>exact⟨i+1,by omega,by go_num,HS,L3⟩
   case measure=>simp[intOf];omega
  .obtain rfl:i=m:=by omega
   have zN:=HR.o;rw[if_neg (by rw[HZ.o];simp)]at zN;obtain⟨TA,tc,yN,_⟩:=HL.o.at_.ht.val;have yN:x.tv=U3 TA c.table.length tc:=yN;obtain⟨d1,wZ⟩:∃d1,(c.iy n (Rt.dM parts) i).1=d1:=⟨_,rfl⟩;rw[wZ]at HL zN bb;have KS1:=xh (λ(W:YB) (hW:py w W x n c d1 (U3 A i cc) (Rt.dM parts))=>Bf hW.at_.hd (by show d1.calls<=_;omega) bb.2);have KI:=xh (λ(W:YB) (d:D) (hW:py w W x n c d (U3 A i cc) (Rt.dM parts))=>rput_of hW vL hmc hr)
   have e1:IntKind.i64.wrap (c.ep+1)=c.ep+1:=IntWalk.i64_in _ (by omega);have e2:IntKind.i64.wrap (1-c.slot)=1-c.slot:=IntWalk.i64_in _ (by omega);have b2:=BJ d1 bb.2;rw[show({c with d:=d1}:C).d=d1 from rfl]at KS1;have Wl:d1.calls<=3999999999999999930:=by omega
   clear wZ hlb bb HZ;generalize d1.eM=s1 at *;obtain⟨sd,se⟩:=s1;dsimp only at KS1 zN b2;have f0:=HL.o.bx.ab (i:=0) rfl;have g0:=HL.o.at_.f0;unfold sp dp at *;go_wp2_with fail;refine(KS1.o _ HL.o).mono ?_;rintro e v1 ⟨rfl,D1,o1⟩;have L1:=xh (HL.o.step (HL.o.at_.disk D1 o1) o1);clear D1 o1 f0 g0;go_wp2_with fail
   by_cases hse:se=0
   rotate_left
   .skip
    refine(vX se hse _).mono ?_;rintro e vm ⟨rfl,rfl⟩;dsimp only;have LZ:=L1;rw[if_pos (by exact hse)]at zN;refine leaves_cons (f:=196) (args:= #[U7 (some ⟨w.heap.size+1,0,none⟩)]) (by simp) (by simp[go_sem]) ?_;refine(kg ⟨w.heap.size+1,0,none⟩ 0 se [] _ (LZ.o.bo.ab (i:=0) rfl) (LZ.o.bo.frozen 0 (by simp))).mono ?_;rintro e u' Sn ⟨rfl,rfl,rfl⟩;obtain⟨y1,y2,y3⟩:=LZ.o.o (U5 By se);refine⟨U5 By se,?_,?_⟩
    .rw[eh rfl];clear y1 y2;go_simp
    .subst zN;exact⟨rfl,y1,y2⟩
   subst hse;rw[if_neg (by simp)]at zN;have KW:=xh (λ(W:YB) (hW:py w W x n c sd (U3 A i cc) (Rt.dM parts))=>lM hW.at_.hd (1-c.slot) ⟨(Rt.fH (c.ep+1) c.table.length parts).toArray⟩ (by show sd.calls<=_;omega) b2.2);rw[show({c with d:=sd}:C).d=sd from rfl,show(⟨(Rt.fH (c.ep+1) c.table.length parts).toArray⟩:rd).data.toList=Rt.fH (c.ep+1) c.table.length parts from rfl]at KW
   have b3:=jF sd n (1-c.slot) (Rt.fH (c.ep+1) c.table.length parts) b2.2;generalize sd.aG n (1-c.slot) (Rt.fH (c.ep+1) c.table.length parts)=s2 at *;generalize (⟨(Rt.fH (c.ep+1) c.table.length parts).toArray⟩:rd)=RB at *;obtain⟨wd,we⟩:=s2;dsimp only at KW zN b3;refine(Ao _).mono ?_;rintro e vm ⟨rfl,rfl⟩;have LV:=xh (L1.o.below ((Below.refl _ _).drew));have q0:=LV.o.bx.ab (i:=0) rfl;have q5:=LV.o.at_.f5;have q2:=LV.o.at_.f2;rw[yN]at q2
   go_wp2_with fail;refine wp_region_held_drew (S:=λW'=>W'.cell? ⟨w.heap.size,0,none⟩=some (U7 (some ⟨x.b,0,none⟩))/\W'.cell? ⟨x.b,5,none⟩=some (U5 By c.ep)/\W'.cell? ⟨x.b,2,none⟩=some (U3 TA c.table.length tc)) (by kernel_rfl) (⟨q0,q5,q2⟩) (λau=>?_);refine km 0 34 (λ_ _ _ h=>di 34 (by decide) h) ?_;refine km 1 35 (λ_ _ _ h=>di 35 (by decide) h) ?_;refine km 2 36 (λ_ _ _ h=>di 36 (by decide) h) ?_
   refine km 3 37 (λ_ _ _ h=>di 37 (by decide) h) ?_;refine km 4 38 (λ_ _ _ h=>di 38 (by decide) h) ?_;refine km 5 39 (λ_ _ _ h=>di 39 (by decide) h) ?_;refine km 6 40 (λ_ _ _ h=>di 40 (by decide) h) ?_;refine km 7 41 (λ_ _ _ h=>di 41 (by decide) h) ?_;refine km 8 42 (λ_ _ _ h=>di 42 (by decide) h) ?_;refine km 9 43 (λ_ _ _ h=>di 43 (by decide) h) ?_;refine km 10 44 (λ_ _ _ h=>di 44 (by decide) h) ?_
   refine km 11 45 (λ_ _ _ h=>di 45 (by decide) h) ?_;refine dI 12 46 λK hK=>?_;go_simp
   go_at_call 102
   refine(KI.o _ _ LV.o).mono ?_;rintro e v2 ⟨rfl,cf⟩;have L2:=xh (LV.o.below cf);have q0:=L2.o.bx.ab (i:=0) rfl;have q5:=L2.o.at_.f5;have q2:=L2.o.at_.f2;rw[yN]at q2;clear cf;go_simp;refine bn hK (⟨q0,q5,q2⟩) (λau=>?_);refine km 13 33 (λ_ _ _ h=>di 33 (by decide) h) ?_;refine km 14 47 (λ_ _ _ h=>di 47 (by decide) h) ?_;refine km 15 48 (λ_ _ _ h=>di 48 (by decide) h) ?_;refine km 16 8 (λ_ _ _ h=>di 8 (by decide) h) ?_
   refine km 17 9 (λ_ _ _ h=>di 9 (by decide) h) ?_;refine wpAnyH_done (by kernel_rfl) ?_ _;go_wp2_with fail;have LU:=xh (L2.o.below ((Below.refl _ _).drew));have r0:=LU.o.bx.ab (i:=0) rfl;have r1:=LU.o.at_.f0;have r6:=LU.o.at_.f6;clear q0 q5 q2;unfold dp at r1
   refine wp_region_held_drew (S:=λW'=>W'.cell? ⟨w.heap.size,0,none⟩=some (U7 (some ⟨x.b,0,none⟩))/\W'.cell? ⟨x.b,0,none⟩=some (U7 (some ⟨x.L.b,0,none⟩))/\W'.cell? ⟨x.b,6,none⟩=some (U5 By c.slot)) (by kernel_rfl) (⟨r0,r1,r6⟩) (λau=>?_);refine km 0 49 (λ_ _ _ h=>di 49 (by decide) h) ?_;refine km 1 50 (λ_ _ _ h=>di 50 (by decide) h) ?_;refine km 2 51 (λ_ _ _ h=>di 51 (by decide) h) ?_;refine km 3 52 (λ_ _ _ h=>di 52 (by decide) h) ?_
   refine km 4 53 (λ_ _ _ h=>di 53 (by decide) h) ?_;refine km 5 54 (λ_ _ _ h=>di 54 (by decide) h) ?_;refine km 6 55 (λ_ _ _ h=>di 55 (by decide) h) ?_;refine km 7 56 (λ_ _ _ h=>di 56 (by decide) h) ?_;refine km 8 57 (λ_ _ _ h=>di 57 (by decide) h) ?_;refine km 9 58 (λ_ _ _ h=>di 58 (by decide) h) ?_;refine dI 10 59 λK hK=>?_;go_simp
   go_at_call 103
   refine(KW.o _ LU.o).mono ?_;rintro e v3 ⟨rfl,D3,o3⟩;have L3:=xh (LU.o.step (LU.o.at_.disk D3 o3) o3);have r0:=L3.o.bx.ab (i:=0) rfl;have r1:=L3.o.at_.f0;have r6:=L3.o.at_.f6;unfold dp at r1;clear D3 o3;go_simp;refine bn hK (⟨r0,r1,r6⟩) (λau=>?_);refine dI 11 60 λK hK=>?_;go_simp
   go_at_call 199
   by_cases hwe:we=0
   rotate_left
   .refine(vX we hwe _).mono ?_;rintro e v4 ⟨rfl,rfl⟩;dsimp only;have LZ:=L3;rw[if_pos (by exact hwe)]at zN;refine leaves_cons (f:=196) (args:= #[U7 (some ⟨w.heap.size+1,0,none⟩)]) (by simp) (by simp[go_sem]) ?_;refine(kg ⟨w.heap.size+1,0,none⟩ 0 we [] _ (LZ.o.bo.ab (i:=0) rfl) (LZ.o.bo.frozen 0 (by simp))).mono ?_;rintro e u' Sn ⟨rfl,rfl,rfl⟩;obtain⟨y1,y2,y3⟩:=LZ.o.o (U5 By we);refine⟨U5 By we,?_,?_⟩
    .rw[eh rfl];clear y1 y2;go_simp
    .subst zN;exact⟨rfl,y1,y2⟩
   subst hwe;rw[if_neg (by simp)]at zN;refine(Ao _).mono ?_;rintro e v4 ⟨rfl,rfl⟩;go_simp;refine bn hK (⟨r0,r1,r6⟩) (λau=>?_);refine wpAnyH_done (by kernel_rfl) ?_ _;have KS2:=xh (λ(W:YB) (hW:py w W x n c wd (U3 A i cc) (Rt.dM parts))=>Bf hW.at_.hd (by show wd.calls<=_;omega) b3.2);rw[show({c with d:=wd}:C).d=wd from rfl]at KS2;generalize wd.eM=s3 at *;obtain⟨zd,ze⟩:=s3;dsimp only at KS2 zN;subst zN
   have f3:v3.cell? ⟨w.heap.size,0,none⟩=some (U7 (some ⟨x.b,0,none⟩)):=r0;have g3:v3.cell? ⟨x.b,0,none⟩=some (U7 (some ⟨x.L.b,0,none⟩)):=r1;clear r0 r1 r6;go_wp2_with fail;refine(KS2.o _ L3.o).mono ?_;rintro e v5 ⟨rfl,D5,o5⟩;have L5:=xh (L3.o.step (L3.o.at_.disk D5 o5) o5);clear D5 o5;go_wp2_with fail
   by_cases hze:ze=0
   .subst hze;refine(Ao _).mono ?_;rintro e vm ⟨rfl,rfl⟩;have o1:=L5.o.bo.ab (i:=0) rfl;have o2:=L5.o.bo.frozen 0 (by simp);go_wp2_with fail;refine leaves_cons (f:=196) (args:= #[U7 (some ⟨w.heap.size+1,0,none⟩)]) (by simp) (by simp[go_sem]) ?_;refine(Oj ⟨w.heap.size+1,0,none⟩ _).mono ?_;rintro e u' Sn ⟨rfl,rfl,rfl⟩;obtain⟨y1,y2,y3⟩:=L5.o.o (U5 By 0);refine⟨U5 By 0,?_,?_⟩
    .rw[eh rfl];clear y1 y2;go_simp
    .exact⟨rfl,y1,y2⟩
   .skip
    refine(vX ze hze _).mono ?_;rintro e vm ⟨rfl,rfl⟩;dsimp only;have LZ:=L5;refine leaves_cons (f:=196) (args:= #[U7 (some ⟨w.heap.size+1,0,none⟩)]) (by simp) (by simp[go_sem]) ?_;refine(kg ⟨w.heap.size+1,0,none⟩ 0 ze [] _ (LZ.o.bo.ab (i:=0) rfl) (LZ.o.bo.frozen 0 (by simp))).mono ?_;rintro e u' Sn ⟨rfl,rfl,rfl⟩;obtain⟨y1,y2,y3⟩:=LZ.o.o (U5 By ze);refine⟨U5 By ze,?_,?_⟩
    .rw[eh rfl];clear y1 y2;go_simp
    .exact⟨rfl,y1,y2⟩
section
variable{w w':YB}{x:X}{n:Nat}{c:C}
theorem At.Ol(h:At w x n c){g:Nat}{cs:Array YO}(B:aF w g 146 cs):g≠x.mb/\g≠x.mg/\g∉x.L.fp/\∀{v:YO} {k:Nat} {l:List YO},Sl w 3 v k l->g∉cE v:=by
 refine⟨λe=>by subst e;exact B.jJ h.hm.hb (by decide) rfl,λe=>by subst e;exact B.jJ h.hm.hg (by decide) rfl,λhg=>?_,λS hg=>?_⟩
 .simp only[Loc.fp,ar,ij,or_false]at hg
  rcases hg with rfl|rfl|rfl|rfl
  .exact B.jJ h.hd.hb (by decide) rfl
  .exact B.jJ h.hd.hN (by decide) rfl
  .exact B.jJ h.hd.hO (by decide) rfl
  .exact B.jJ h.hd.hL (by decide) rfl
 .obtain⟨cs',B'⟩:=xJ S _ hg;exact B.jJ B' (by decide) rfl
theorem At.newT(h:At w x n c){v':YO}{l:List Int}(S:Sl w 3 v' l.length (dH l))(hg:x.mg∉cE v')(ho:∀g∈cE v',g∉cE x.ov)(hp:∀g∈cE v',g∉cE x.pv)(hl:l.length<=512):
  w.cell? ⟨x.b,2,none⟩=some x.tv/\w.frozen? ⟨x.b,2,none⟩=false/\At (w.setCell ⟨x.b,2,none⟩ v') {x with tv:=v'} n {c with table:=l}/\ag [x.b] w (w.setCell ⟨x.b,2,none⟩ v'):=by
 have o2:=(ag.refl [x.b] w).setCell (p:=⟨x.b,2,none⟩) (by simp) v';obtain⟨n1,n2,n3,n4⟩:=h.Ol h.hb;have ns:∀{v:YO} {k:Nat} {l:List YO},Sl w 3 v k l->∀g∈cE v,g∉[x.b]:=λS g hg hm=>n4 S (by rw[<-az.1 hm];exact hg)
 exact⟨h.f2,h.fz 2 (by omega),⟨h.hb.cw 2 v',h.hd.only o2 (λg hg hm=>n3 (by rw[<-az.1 hm];exact hg)),h.hm.only o2 (λhm=>n1 (az.1 hm).symm) (λhm=>n2 (az.1 hm).symm),S.only o2 (ns S),h.ho.only o2 (ns h.ho),h.hp.only o2 (λg hg hm=>h.hp.aY h.hb (by decide) (by decide) (by rw[<-az.1 hm];exact hg)),hg,h.n2,h.n3,ho,hp,h.n6,hl⟩,o2⟩
theorem At.newC(h:At w x n c){vo vp:YO}{lo lp:List Int}(So:Sl w 3 vo lo.length (dH lo))(Sp:Sl w 3 vp lp.length (dH lp))(go:∀g∈cE vo,g∉x.fp)(gp:∀g∈cE vp,g∉x.fp)(op:∀g∈cE vo,g∉cE vp)(ep sl:Int):
  At ((((w.setCell ⟨x.b,3,none⟩ vo).setCell ⟨x.b,4,none⟩ vp).setCell ⟨x.b,5,none⟩ ep).setCell ⟨x.b,6,none⟩ sl) {x with ov:=vo,pv:=vp} n {c with bj:=lo,parts:=lp,ep:=ep,slot:=sl}/\
  ag [x.b] w ((((w.setCell ⟨x.b,3,none⟩ vo).setCell ⟨x.b,4,none⟩ vp).setCell ⟨x.b,5,none⟩ ep).setCell ⟨x.b,6,none⟩ sl):=by
 have o2:ag [x.b] w ((((w.setCell ⟨x.b,3,none⟩ vo).setCell ⟨x.b,4,none⟩ vp).setCell ⟨x.b,5,none⟩ ep).setCell ⟨x.b,6,none⟩ sl):=((((ag.refl [x.b] w).setCell (p:=⟨x.b,3,none⟩) (by simp) _).setCell (p:=⟨x.b,4,none⟩) (by simp) _).setCell (p:=⟨x.b,5,none⟩) (by simp) _).setCell (p:=⟨x.b,6,none⟩) (by simp) _;obtain⟨n1,n2,n3,n4⟩:=h.Ol h.hb
 have ns:∀{v:YO} {k:Nat} {l:List YO},Sl w 3 v k l->∀g∈cE v,g∉[x.b]:=λS g hg hm=>n4 S (by rw[<-az.1 hm];exact hg)
 exact⟨⟨(((h.hb.cw 3 vo).cw 4 vp).cw 5 _).cw 6 _,h.hd.only o2 (λg hg hm=>n3 (by rw[<-az.1 hm];exact hg)),h.hm.only o2 (λhm=>n1 (az.1 hm).symm) (λhm=>n2 (az.1 hm).symm),h.ht.only o2 (ns h.ht),So.only o2 (ns So),.inl (Sp.only o2 (ns Sp)),h.n1,λhg=>go _ hg (by simp[X.fp]),λhg=>gp _ hg (by simp[X.fp]),λg hg hm=>go g hm (by simp[X.fp,hg]),λg hg hm=>gp g hm (by simp[X.fp,hg]),op,h.tl⟩,o2⟩
end
def C.cq(c:C):C:={c with m:=Fm.jO 1 0 c.m,table:=c.bj}
theorem Om{w:YB}{x:X}{n:Nat}{c:C}(h:At w x n c)(hol:c.bj.length<=512):
  eq prog 101 #[sp x.b] w λe w'=>e=BY (.bool true)/\zK w w' x n c.cq:=by
 have f1:=h.f1;have KA:=xh<|Fm.xH h.hm;have HM:=xh (λ(W':YB) (mm:Fm.dU W' x.mb x.mg (Fm.jO 1 0 c.m)) (ow:ag [x.mg] w W')=>h.map mm ow);unfold sp Fm.mp at *;go_in;go_wp;go_call KA.o as e w1 ⟨rfl,mm,ow⟩;have A1:=xh<|HM.o _ mm ow;have O1:=xh ow;have f3:=A1.o.f3
 obtain⟨VA,vc,hv,_⟩:=A1.o.ho.val;have K2:=(xh (λ(W:YB) (c':C) (hW:At W x n c') (hl:c'.bj.length<=512)=>JV hW.ho (by omega))).o w1 _ A1.o hol;rw[hv]at K2 f3;have K2:=xh K2;go_wp2_with fail;go_call K2.o as e w2 ⟨v',rfl,S2,cf,Fc⟩;obtain⟨V2,c2,rfl,_⟩:=S2.val;obtain⟨q2,z2,A3,o3⟩:=(A1.o.below cf).newT S2 (λhg=>by have:=A1.o.hm.hg.lt;have:=Fc _ hg;omega) (λg hg ho=>by have:=A1.o.ho.lt g ho;have:=Fc g hg;omega) (λg hg ho=>by have:=A1.o.hp.lt g ho;have:=Fc g hg;omega) hol
 have R:=xh (show zK w (w2.setCell ⟨x.b,2,none⟩ (U3 V2 c.bj.length c2)) x n c.cq from
  ⟨{x with tv:=U3 V2 c.bj.length c2},rfl,rfl,A3,((O1.o.mono (λg hg _=>ue x g hg)).trans (.aj cf)).trans (o3.mono (λg hg _=>by simp at hg;subst hg;simp[X.fp])),λg hg=>by
   simp only[X.fp,ar,ay]at hg ⊢
   rcases hg with hg|hg|hg|((hg|hg)|hg)|hg
   .exact .inl (.inl hg)
   .exact .inl (.inr (.inl hg))
   .exact .inl (.inr (.inr (.inl hg)))
   .exact .inl (.inr (.inr (.inr (.inl (.inl (.inl hg))))))
   .exact .inr (by have:=Fc g hg;have:=O1.o.size;omega)
   .exact .inl (.inr (.inr (.inr (.inl (.inr hg)))))
   .exact .inl (.inr (.inr (.inr (.inr hg))))⟩)
 clear S2 cf Fc A3 o3;go_wp2;go_ret;exact aI R.o
end Sh
namespace Sh
open Go.RowKit Pk Dk Pg
def lG(t:List Int):Nat->Nat
 |0=>0
 |k+1=>if t.getD k 0<0 then lG t k else k+1
theorem nS(t:List Int)(k:Nat):lG t (k+1)=if t.getD k 0<0 then lG t k else k+1:=rfl
theorem BL(t:List Int):∀k,lG t k<=k
 |0=>ai _
 |k+1=>by
  rw[nS]
  split
  .have:=BL t k;omega
  .exact ai _
def takeN(m:List Int):Nat->List Int×List Int
 |0=>(m,[])
 |k+1=>((Fm.da (takeN m k).1).1,(takeN m k).2++[(Fm.da (takeN m k).1).2.1])
theorem ta(m:List Int):∀k,(takeN m k).2.length=k
 |0=>rfl
 |k+1=>by show((takeN m k).2++_).length=_;rw[aT,ta m k];rfl
def cI(m:List Int):List Int->List Int
 |[]=>m
 |p::l=>cI (Fm.dS m p).1 l
theorem Ic(m:List Int)(a b:List Int):cI m (a++b)=cI (cI m a) b:=by
 induction a generalizing m with
 |nil=>rfl
 |cons p l ih=>exact ih _
def C.cD(c:C):C:={c with table:=c.table.take (lG c.table c.table.length)}
def C.aQ(c:C)(n:Nat):C×Int:=
 if(Fm.ic c.m 0).length<cU c.cD.table.length then(c.cD,11)
 else if 1099511627776<=c.ep then(c.cD,3)
 else if(({c.cD with m:=(takeN c.m (cU c.cD.table.length)).1}:C).bT n ((takeN c.m (cU c.cD.table.length)).2.map Int.toNat)).2≠0 then
  ({c.cD with m:=(takeN c.m (cU c.cD.table.length)).1,d:=(({c.cD with m:=(takeN c.m (cU c.cD.table.length)).1}:C).bT n ((takeN c.m (cU c.cD.table.length)).2.map Int.toNat)).1,broken:=true},(({c.cD with m:=(takeN c.m (cU c.cD.table.length)).1}:C).bT n ((takeN c.m (cU c.cD.table.length)).2.map Int.toNat)).2)
 else({c.cD with m:=Fm.jO 0 1 (cI (takeN c.m (cU c.cD.table.length)).1 c.parts),d:=(({c.cD with m:=(takeN c.m (cU c.cD.table.length)).1}:C).bT n ((takeN c.m (cU c.cD.table.length)).2.map Int.toNat)).1,bj:=c.cD.table,parts:=(takeN c.m (cU c.cD.table.length)).2,ep:=c.ep+1,slot:=1-c.slot},0)
def Q9(w:YB)(b:Nat):Nat:=match w.cell? ⟨b,2,none⟩with
 |some (U3 _ n _)=>n
 |_=>0
theorem Rb(k:Nat):Rt.oK (k:Nat)=(cU k:Nat):=by unfold Rt.oK cU;omega
theorem Xp(A:Option Addr)(k m c:Nat):cE (U3 A k c)=cE (U3 A m c):=by cases A<;>rfl
abbrev ua:=Option (Bool×pu)
def jr(l:List (Option (pu))):List ua:=l.map λo=>o.map λb=>(false,b)
@[simp] theorem JY(l:List (Option (pu))):(jr l).length=l.length:=by simp[jr]
section
variable{w w':YB}{b:Nat}{nv ov:YO}{a:St}{S:List Nat}
end
attribute [local go_sem ↓] bA
end Sh
namespace Sh
open Go.RowKit Pk Dk Pg
def St.aG(a:St)(l:Int)(p:pu):St×Int:=
 if 232<p.length then(a,4)
 else if ¬(a.at l).isSome=true then(a,3)
 else if gw (a.at l)=false/\a.free=0 then(a,11)
 else({a with now:=a.now.set l.toNat (some (true,ft p 232))},0)
attribute [local go_sem ↓] bA
def kG(l:List ua):Nat->Nat
 |0=>0
 |k+1=>if((l[k]?).getD none).isSome then k+1 else kG l k
theorem JZ(l:List ua):∀k,kG l k<=k
 |0=>ai _
 |k+1=>by
  unfold kG
  split
  .exact ai _
  .have:=JZ l k;omega
def St.eJ(a:St):List (Option (pu)):=(a.now.take (kG a.now a.now.length)).map λo=>o.map Prod.snd
def unfr(o:ua):ua:=o.map λx=>(false,x.2)
theorem Xq(a:St):jr a.eJ=(a.now.take (kG a.now a.now.length)).map unfr:=by
 unfold jr St.eJ;rw[gR];apply fW;intro o _
 cases o<;>rfl
def St.aQ(a:St):St×Int:=if a.free<cU a.eJ.length then(a,11)else({a with now:=jr a.eJ,bj:=a.eJ,ep:=a.ep+1},0)
theorem BM(a:St):a.eJ.length<=a.now.length:=by
 unfold St.eJ;rw[bM,bC];omega
end Sh
namespace Sh
open Go.RowKit Pk Dk Pg
def Xr(l:List ua)(o:List ua)(i:Nat):Bool:=((o[i]?).getD none).isSome && (!((l[i]?).getD none).isSome || gw ((l[i]?).getD none))
def Ie(l:List ua)(o:List ua):Nat->Nat
 |0=>0
 |k+1=>Ie l o k+if Xr l o k then 1 else 0
def St.leaving(a:St):Nat:=Ie a.now (jr a.bj) a.bj.length
end Sh
end Go.Proofs.YtmonobkginiajaaGreat
