/- packed. -/
import Derived.Defers
import Derived.Recover
import Derived.Deep.Cut
import Derived.Test.YtmonobkginiajaaGreatAp4
set_option linter.all false
set_option maxRecDepth 100000
set_option maxHeartbeats 8000000
namespace Go.Proofs.YtmonobkginiajaaGreat
open Go.Proofs.Tryz
namespace Sh
open Go.RowKit Pk Dk Pg
variable{x:Int}{t:List Int}
theorem yB:∀(L M:List Int),L.Nodup->(∀x∈L,x∈M)->L.length<=M.length
 |[],_,_,_=>bm _
 |x::L,M,hn,hs=>by
  obtain⟨h1,h2⟩:=iL.1 hn;have hx:x∈M:=hs x (gy ..);have:=yB L (M.erase x) h2 (λy hy=>(List.mem_erase_of_ne (λe:y=x=>h1 (by rw[<-e];exact hy))).2 (hs y (bz _ hy)));rw[Qm hx]at this;have:0<M.length:=List.length_pos_of_mem hx;simp;omega
theorem tF{L M:List Int}(hl:L.Nodup)(hm:M.Nodup)(h:∀x,x∈L↔x∈M):L.length=M.length:=
 Nat.le_antisymm (yB L M hl (λx hx=>(h x).1 hx)) (yB M L hm (λx hx=>(h x).2 hx))
theorem yC(l:List Int)(k:Int)(n:Nat)(x:Int):x∈Fm.rY l k n↔ ∃i:Nat,x=i/\i<n/\l.getD i 0=k:=by
 induction n with
 |zero=>simp[Fm.rY]
 |succ n ih=>
  simp only[Fm.rY,az,ih]
  constructor
  .rintro(⟨i,e,h,g⟩|h)
   .exact⟨i,e,by omega,g⟩
   .by_cases hk:l.getD n 0=k
    .rw[if_pos hk]at h;exact⟨n,by simpa using h,by omega,hk⟩
    .rw[if_neg hk]at h;simp at h
  .rintro⟨i,e,h,g⟩
   rcases nZ.1 h with h|rfl
   .exact .inl ⟨i,e,h,g⟩
   .rw[if_pos g];exact .inr (by simpa using e)
theorem gl{l:List Int}{k:Int} :x∈Fm.oW l k↔ ∃i:Nat,x=i/\i<l.length/\l.getD i 0=k:=yC l k l.length x
theorem DY(l:List Int)(k:Int)(n:Nat):(Fm.rY l k n).Nodup:=by
 induction n with
 |zero=>exact qv
 |succ n ih=>
  simp only[Fm.rY]
  split
  .rw[gz];refine⟨ih,by simp,λa ha b hb e=>?_⟩;obtain⟨i,e1,h,_⟩:=(yC l k n a).1 ha;simp at hb;omega
  .simpa using ih
theorem kP(l:List Int)(k:Int):(Fm.oW l k).Nodup:=DY l k l.length
def upto:Nat->List Int
 |0=>[]
 |n+1=>upto n++[(n:Int)]
theorem vV:∀n,(upto n).length=n
 |0=>rfl
 |n+1=>by simp[upto,vV n]
theorem FG(n:Nat)(x:Int):x∈upto n↔0<=x/\x<n:=by
 induction n with
 |zero=>simp[upto];try omega
 |succ n ih=>simp only[upto,az,ih,aP];omega
theorem Jo(n:Nat):(upto n).Nodup:=by
 induction n with
 |zero=>exact qv
 |succ n ih=>
  simp only[upto];rw[gz];refine⟨ih,by simp,λa ha b hb e=>?_⟩;have:=(FG n a).1 ha;simp at hb;omega
def AM(t:List Int):Prop:= ∀(i j:Nat) (x:Int),t[i]?=some x->t[j]?=some x->0<=x->i=j
def ids(t:List Int):List Int:=t.filter (λx=>decide (0<=x))
theorem kH :x∈ids t↔x∈t/\0<=x:=by simp[ids]
theorem AM.tail(h:AM (x::t)):AM t:=λi j y hi hj h0=>by
 have:=h (i+1) (j+1) y (by simpa using hi) (by simpa using hj) h0;omega
theorem jw:∀{t:List Int},AM t->(ids t).Nodup
 |[],_=>qv
 |x::t,h=>by
  have ih:=jw h.tail;unfold ids at ih ⊢;rw[fL]
  split
  .rename_i hx;rw[iL];refine⟨λhm=>?_,ih⟩;obtain⟨hm,_⟩:=kH.1 hm;obtain⟨k,hk⟩:=nY hm;have:=h 0 (k+1) x rfl (by simpa using hk) (by simpa using hx);omega
  .exact ih
theorem AM.bG(h:AM t)(k:Nat)(u:Int)(hu:u<0\/u∉t):AM (t.set k u):=by
 intro i j x hi hj h0;rw[iw]at hi hj
 by_cases e1:k=i<;>by_cases e2:k=j
 .omega
 .rw[if_pos e1]at hi;rw[if_neg e2]at hj
  split at hi
  .injection hi with hi
   subst hi
   rcases hu with hu|hu
   .omega
   .exact absurd (aA hj) hu
  .cases hi
 .rw[if_neg e1]at hi;rw[if_pos e2]at hj
  split at hj
  .injection hj with hj
   subst hj
   rcases hu with hu|hu
   .omega
   .exact absurd (aA hi) hu
  .cases hj
 .rw[if_neg e1]at hi;rw[if_neg e2]at hj;exact h i j x hi hj h0
theorem AM.app(h:AM t)(u:Int)(hu:u<0\/u∉t):AM (t++[u]):=by
 intro i j x hi hj h0;have key:∀i,(t++[u])[i]?=some x->(t[i]?=some x)\/(i=t.length/\x=u):=by
  intro i hi
  rcases Nat.lt_trichotomy i t.length with hl|rfl|hl
  .rw[bD hl]at hi;exact .inl hi
  .rw[dE (aj _)]at hi;simp at hi;exact .inr ⟨rfl,hi.symm⟩
  .rw[dE (by omega),gw (by simp;omega)]at hi;cases hi
 rcases key i hi with a|⟨a,b⟩<;>rcases key j hj with c|⟨c,d⟩
 .exact h i j x a c h0
 .subst d
  rcases hu with hu|hu
  .omega
  .exact absurd (aA a) hu
 .subst b
  rcases hu with hu|hu
  .omega
  .exact absurd (aA c) hu
 .omega
theorem FH{k:Nat}{u:Int}(h:AM t)(hk:t[k]?=some u)(v:Int)(h0:0<=x)(hv:v<0)(hu:0<=u):x∈t.set k v↔x∈t/\x≠u:=by
 constructor
 .intro hx;obtain⟨i,hi⟩:=nY hx;rw[iw]at hi
  by_cases e:k=i
  .rw[if_pos e]at hi
   split at hi
   .injection hi with hi;omega
   .cases hi
  .rw[if_neg e]at hi;refine⟨aA hi,λe2=>e ?_⟩;subst e2;exact h k i x hk hi h0
 .rintro⟨hx,eV⟩;obtain⟨i,hi⟩:=nY hx;have:(t.set k v)[i]?=some x:=by
   rw[iw,if_neg (λe=>eV (by subst e;rw[hk]at hi;injection hi with hi;exact hi.symm))];exact hi
  exact aA this
structure St where
 many:Nat
 now:List (Option (Bool×List UInt8))
 cG:List (Option (List UInt8))
 ep:Int
def fH:Option (Bool×List UInt8)->Bool
 |some (b,_)=>b
 |none=>false
def BC(k:Nat):Nat:=(k+115) / 116
def St.fresh(a:St):Nat:=a.now.countP fH
def St.kept(a:St):Nat:=a.cG.countP Option.isSome+BC a.cG.length
def St.free(a:St):Nat:=a.many-a.kept-a.fresh
def St.slot(a:St):Nat:=a.now.findIdx Option.isNone
def oE{α:Type}(t:List α)(l:Nat)(u:α):List α:=if l=t.length then t++[u]else t.set l u
def St.at(a:St)(l:Int):Option (Bool×List UInt8):=if 0<=l then(a.now[l.toNat]?).getD none else none
def St.bP(a:St)(p:List UInt8):St×Int×Int:=
 if 232<p.length then(a,0,4)
 else if 512<=a.slot\/a.free=0 then(a,0,11)
 else({a with now:=oE a.now a.slot (some (true,eI p 232))},(a.slot:Nat),0)
def St.aS(a:St)(l:Int):St×Int:=if(a.at l).isSome=true then({a with now:=a.now.set l.toNat none},0)else(a,3)
def St.aR(a:St)(l:Int):List UInt8×Int:=match a.at l with
 |some (_,b)=>(b,0)
 |none=>([],3)
def Rj(d:D)(n:Nat)(x ep:Int):Prop:= ∃q s,0<=q/\q<=ep/\s.length=232/\bR d n x=(⟨x,q,2,s⟩,0)
def dQ(c:C)(x:Int):Int:=if x∈c.parts then 1 else if x∈c.cG then(if x∈c.table then 1 else 3)else if x∈c.table then 2 else 0
structure Good(c:C)(n:Nat):Prop where
 up:c.d.down=false
 arm:c.d.bA=0
 br:c.broken=false
 ok:c.d.Ok n
 ml:c.m.length=fC n
 ep:1<=c.ep/\c.ep<1099511627776
 sl:c.slot=0\/c.slot=1
 ti:∀x∈c.table,x= -1\/(0<=x/\x<c.m.length)
 oi:∀x∈c.cG,x= -1\/(0<=x/\x<c.m.length)
 pi:∀x∈c.parts,0<=x/\x<c.m.length
 tj:AM c.table
 oj:AM c.cG
 pj:AM c.parts
 dt:∀x∈c.parts,x∉c.table/\x∉c.cG
 pl:c.parts.length=BC c.cG.length
 sm:∀(i:Nat) (x:Int),c.table[i]?=some x->0<=x->x∈c.cG->c.cG[i]?=some x
 md:∀i:Nat,i<c.m.length->c.m.getD i 0=dQ c i
 rt:∀x∈c.table,0<=x->Rj c.d n x (c.ep+1)
 ro:∀x∈c.cG,0<=x->Rj c.d n x c.ep
def C.eR(c:C)(n:Nat)(x:Int):Option (Bool×List UInt8):=if x<0 then none else some (decide (x∉c.cG),(bR c.d n x).1.s)
def C.cH(c:C)(n:Nat):St:={many:=c.m.length,now:=c.table.map (c.eR n),cG:=c.cG.map λx=>if x<0 then none else some (bR c.d n x).1.s,ep:=c.ep}
theorem r7{c:C}{n:Nat}(g:Good c n):(Fm.oW c.m 0).length=(c.cH n).free/\(c.cH n).fresh+(c.cH n).kept<=c.m.length:=by
 obtain⟨F,hF⟩:∃F,F=(ids c.table).filter (λx=>decide (x∉c.cG)):=⟨_,rfl⟩;have hFl:F.length=(c.cH n).fresh:=by
  rw[hF];unfold St.fresh C.cH ids;rw[mV,<-xV,CY];apply rM;intro x hx;simp only[Function.comp,C.eR]
  by_cases h:x<0
  .rw[if_pos h];simp[fH];omega
  .rw[if_neg h];simp[fH];omega
 have hKl:(c.parts++ids c.cG).length=(c.cH n).kept:=by
  unfold St.kept C.cH ids;rw[aQ,g.pl,<-xV,CY,fM];have:c.cG.countP (λx=>decide (0<=x))=c.cG.countP (Option.isSome ∘ λx=>if x<0 then none else some (bR c.d n x).1.s):=by
   apply rM;intro x hx;simp only[Function.comp]
   by_cases h:x<0
   .rw[if_pos h];simp;omega
   .rw[if_neg h];simp;omega
  omega
 have hmF:∀x,x∈F↔x∈c.table/\0<=x/\x∉c.cG:=by
  intro x;rw[hF,dS,kH];simp[and_assoc]
 have AF:(Fm.oW c.m 0++F++(c.parts++ids c.cG)).Nodup:=by
  rw[gz,gz,gz];have hp:c.parts.Nodup:=by
   have:=jw g.pj
   rwa [show ids c.parts=c.parts from ur.2 (λx hx=>by simpa using (g.pi x hx).1)]at this
  refine⟨⟨kP _ _,?_,?_⟩,⟨hp,jw g.oj,?_⟩,?_⟩
  .rw[hF];exact(jw g.tj).sublist Da
  .intro x hx y hy e;subst e;obtain⟨i,rfl,hi,h0⟩:=gl.1 hx;rw[g.md i hi]at h0;obtain⟨h1,h2,h3⟩:=(hmF _).1 hy;unfold dQ at h0;rw[if_neg h3,if_pos h1]at h0
   split at h0<;>omega
  .intro x hx y hy e;subst e;exact(g.dt x hx).2 (kH.1 hy).1
  .intro x hx y hy e;subst e
   rcases az.1 hx with hx|hx
   .obtain⟨i,rfl,hi,h0⟩:=gl.1 hx;rw[g.md i hi]at h0;unfold dQ at h0
    rcases az.1 hy with hy|hy
    .rw[if_pos hy]at h0;omega
    .rw[if_pos (kH.1 hy).1]at h0
     split at h0
     .omega
     .split at h0<;>omega
   .obtain⟨h1,h2,h3⟩:=(hmF _).1 hx
    rcases az.1 hy with hy|hy
    .exact(g.dt x hy).1 h1
    .exact h3 (kH.1 hy).1
 have hlen:=tF AF (Jo c.m.length) (λx=>by
  rw[FG,az,az,az,gl,hmF,kH]
  constructor
  .rintro((⟨i,rfl,hi,_⟩|⟨h1,h2,_⟩)|(h|⟨h1,h2⟩))
   .omega
   .have:=g.ti x h1;omega
   .exact g.pi x h
   .have:=g.oi x h1;omega
  .rintro⟨h0,h1⟩
   by_cases a1:x∈c.parts
   .exact .inr (.inl a1)
   by_cases a2:x∈c.cG
   .exact .inr (.inr ⟨a2,h0⟩)
   by_cases a3:x∈c.table
   .exact .inl (.inr ⟨a3,h0,a2⟩)
   refine .inl (.inl ⟨x.toNat,by omega,by omega,?_⟩);rw[g.md _ (by omega),show((x.toNat:Nat):Int)=x by omega];unfold dQ;rw[if_neg a1,if_neg a2,if_neg a3])
 rw[vV,aQ,aQ,hKl,hFl]at hlen;refine⟨?_,by omega⟩;unfold St.free;show _=c.m.length-_-_;omega
variable{t:List Int}{x:Int}{c:C}{n k:Nat}
theorem vW{α β:Type}(f:α->β)(p:β->Bool)(q:α->Bool):∀(t:List α),(∀x∈t,p (f x)=q x)->(t.map f).findIdx p=t.findIdx q
 |[],_=>rfl
 |x::t,h=>by
  have h0:=h x (gy ..);have ih:=vW f p q t (λy hy=>h y (bz _ hy));rw[eh,Iz,Iz,h0,ih]
theorem Rk(h:iA t<t.length):t[iA t]?=some (-1):=by
 unfold iA Fm.dP at h ⊢;have:=rQ (p:=(· ==(-1:Int))) (xs:=t) (w:=h);rw[aT h];simpa using this
theorem nu{α:Type}(t:List α)(l:Nat)(u:α)(hl:l<=t.length)(i:Nat):(oE t l u)[i]?=if i=l then some u else t[i]?:=by
 unfold oE
 by_cases h:l=t.length
 .rw[if_pos h];subst h
  rcases Nat.lt_trichotomy i t.length with h1|rfl|h1
  .rw[if_neg (by omega),bD h1]
  .rw[if_pos rfl,dE (aj _)];simp
  .rw[if_neg (by omega),dE (by omega),gw (by simp;omega),gw (by omega)]
 .rw[if_neg h,iw]
  by_cases e:l=i
  .subst e;rw[if_pos rfl,if_pos (by omega),if_pos rfl]
  .rw[if_neg e,if_neg (by omega)]
theorem xJ(t:List Int)(l:Nat)(u:Int):rZ t l u=oE t l u:=rfl
theorem Rm{u:Int}(h0:0<=x):x∈rZ t (iA t) u↔x=u\/x∈t:=by
 rw[xJ];have hl:=yw t
 constructor
 .intro hx;obtain⟨i,hi⟩:=nY hx;rw[nu t _ u hl]at hi
  split at hi
  .injection hi with hi;exact .inl hi.symm
  .exact .inr (aA hi)
 .rintro(rfl|hx)
  .have:=nu t _ x hl (iA t);rw[if_pos rfl]at this;exact aA this
  .obtain⟨i,hi⟩:=nY hx;have:=nu t _ u hl i;rw[if_neg]at this
   .exact aA (this.trans hi)
   .rintro rfl;have dV:iA t<t.length:=(aX.1 hi).1;rw[Rk dV]at hi;injection hi with hi
    omega
theorem AM.rZ(h:AM t)(l:Nat)(u:Int)(hu:u∉t):AM (rZ t l u):=by
 unfold Sh.rZ
 split
 .exact h.app u (.inr hu)
 .exact h.bG l u (.inr hu)
theorem Rn{α β:Type}(f:α->β)(t:List α)(l:Nat)(u:α):(oE t l u).map f=oE (t.map f) l (f u):=by
 unfold oE;rw[fM]
 split
 .simp
 .rw[qt]
theorem Jp{α β:Type}(f g:α->β)(t:List α)(l:Nat)(u:β)(h:∀x∈t,f x=g x):oE (t.map f) l u=oE (t.map g) l u:=by
 rw[iK h]
theorem Ro(g:Good c n):(c.cH n).slot=iA c.table:=by
 unfold St.slot C.cH iA Fm.dP;refine vW _ _ _ _ (λx hx=>?_);unfold C.eR
 rcases g.ti x hx with rfl|⟨h0,_⟩
 .simp
 .rw[if_neg (by omega)];simp;omega
theorem uJ(g:Good c n)(hf:(c.cH n).free≠0):∃k:Nat,k<c.m.length/\dQ c k=0/\Fm.du c.m=(c.m.set k 2,((k:Nat):Int),0):=by
 have hl:=(r7 g).1;obtain⟨x,hx⟩:∃x,x∈Fm.oW c.m 0:=by
  cases h:Fm.oW c.m 0 with
  |nil=>rw[h]at hl;simp at hl;omega
  |cons x l=>exact⟨x,gy ..⟩
 obtain⟨i,rfl,hi,h0⟩:=gl.1 hx;have dV:Fm.dP c.m 0<c.m.length:=by
  unfold Fm.dP;rw[List.findIdx_lt_length];refine⟨c.m[i],j9 hi,?_⟩;simp[List.getD,aT hi]at h0;simp[h0]
 refine⟨Fm.dP c.m 0,dV,?_,by unfold Fm.du;rw[if_pos dV]⟩;rw[<-g.md _ dV];have:=rQ (p:=(· ==(0:Int))) (xs:=c.m) (w:=dV);simp[List.getD];unfold Fm.dP at dV ⊢;rw[aT dV];simpa using this
theorem uK(g:Good c n)(hf:(c.cH n).free=0):Fm.du c.m=(c.m,0,11):=by
 have hl:=(r7 g).1;rw[hf]at hl;unfold Fm.du;rw[if_neg];intro dV;have:=rQ (p:=(· ==(0:Int))) (xs:=c.m) (w:=dV);have hm:((Fm.dP c.m 0:Nat):Int)∈Fm.oW c.m 0:=gl.2 ⟨_,rfl,dV,by
  simp[List.getD];unfold Fm.dP at dV ⊢;rw[aT dV];simpa using this⟩
 rw[nW hl]at hm;simp at hm
theorem LC(h:dQ c x=0):x∉c.parts/\x∉c.cG/\x∉c.table:=by
 unfold dQ at h
 split at h
 .omega
 .split at h
  .split at h<;>omega
  .split at h
   .omega
   .exact⟨by assumption,by assumption,by assumption⟩
theorem ny(g:Good c n)(h:k<c.m.length):k<cq n:=by
 have:=g.ml;unfold fC at this;omega
theorem yD{d:D}(h:d.Ok n)(id ep kd:Int)(s:List UInt8):(bo d n id ep kd s).1.Ok n:=by
 unfold bo
 split
 .exact h
 .split
  .exact h
  .exact yo h _ _ _
theorem yE(g:Good c n)(hk:k<c.m.length)(h0:dQ c k=0)(p:List UInt8)(hp:p.length<=232):
  (bo c.d n k (c.ep+1) 2 p).2=0/\∀d',d'=(bo c.d n k (c.ep+1) 2 p).1->d'.down=false/\d'.bA=0/\d'.Ok n/\d'.calls<=c.d.calls+4/\bR d' n k=(⟨k,c.ep+1,2,eI p 232⟩,0)/\
   (∀x∈c.table,0<=x->bR d' n x=bR c.d n x)/\∀x∈c.cG,0<=x->bR d' n x=bR c.d n x:=by
 have e:=g.ep;obtain⟨h1,h2,h3,h4,h5⟩:=oA g.ok g.up g.arm k (c.ep+1) 2 p (ny g hk) (by rw[qH];omega) hp;obtain⟨z1,z2,z3⟩:=LC h0;refine⟨h1,λd' hd=>?_⟩;subst hd;refine⟨h2,h3,yD g.ok _ _ _ _,(Bq _ _ _ _ _ _ (by rw[g.arm];omega)).1,h4,λx hx D7=>?_,λx hx D7=>?_⟩
 .have:=g.ti x hx;have:=h5 x.toNat (ny g (by omega)) (λe=>z3 (by rw[<-e];rwa [show((x.toNat:Nat):Int)=x by omega]))
  rwa [show((x.toNat:Nat):Int)=x by omega]at this
 .have:=g.oi x hx;have:=h5 x.toNat (ny g (by omega)) (λe=>z2 (by rw[<-e];rwa [show((x.toNat:Nat):Int)=x by omega]))
  rwa [show((x.toNat:Nat):Int)=x by omega]at this
theorem pJ(p:List UInt8)(h:p.length<=232):(eI p 232).length=232:=by unfold eI;simp;omega
theorem nz(l:List Int)(k:Nat)(x:Int)(i:Nat)(hi:i<l.length):(l.set k x).getD i 0=if k=i then x else l.getD i 0:=by
 simp only[List.getD,iw]
 by_cases h:k=i
 .subst h;simp[hi]
 .simp[h]
theorem new_ok{c:C}{n:Nat}(g:Good c n){k:Nat}(hk:k<c.m.length)(h0:dQ c k=0)(p:List UInt8)(hp:p.length<=232){d':D}(hd:d'=(bo c.d n k (c.ep+1) 2 p).1){c':C}(hc:c'={c with m:=c.m.set k 2,d:=d',table:=rZ c.table (iA c.table) k}):
  Good c' n/\c'.cH n={c.cH n with now:=oE (c.cH n).now (iA c.table) (some (true,eI p 232))}:=by
 obtain⟨_,W⟩:=yE g hk h0 p hp;obtain⟨w1,w2,w3,w4,w5,w6,w7⟩:=W d' hd;obtain⟨z1,z2,z3⟩:=LC h0;have MM:=g.ep;have mt:∀x,0<=x->(x∈c'.table↔x=k\/x∈c.table):=λx hx=>by subst hc;exact Rm hx
 have AK:=yw c.table;have Rp:∀x:Int,0<=x->dQ c' x=if x=k then 2 else dQ c x:=by
  intro x hx;unfold dQ
  by_cases e:x=k
  .rw[if_pos e];subst e;rw[if_neg (by subst hc;exact z1),if_neg (by subst hc;exact z2),if_pos ((mt _ hx).2 (.inl rfl))]
  .rw[if_neg e];have:(x∈c'.table)↔x∈c.table:=(mt x hx).trans ⟨λh=>h.resolve_left e,.inr⟩;rw[show c'.parts=c.parts from by rw[hc],show c'.cG=c.cG from by rw[hc]];simp only[this]
 refine⟨⟨by rw[hc];exact w1,by rw[hc];exact w2,by rw[hc];exact g.br,by rw[hc];exact w3,?_,by rw[hc];exact g.ep,by rw[hc];exact g.sl,?_,?_,?_,?_,by rw[hc];exact g.oj,by rw[hc];exact g.pj,?_,by rw[hc];exact g.pl,?_,?_,?_,?_⟩,?_⟩
 .rw[hc];show(c.m.set k 2).length=_;rw[bU];exact g.ml
 .intro x hx;have wX:c'.m.length=c.m.length:=by rw[hc];show(c.m.set k 2).length=_;rw[bU]
  rw[wX]
  by_cases h:0<=x
  .rcases(mt x h).1 hx with rfl|hx
   .omega
   .exact g.ti x hx
  .obtain⟨i,hi⟩:=nY hx;rw[hc]at hi;have hi:(rZ c.table (iA c.table) k)[i]?=some x:=hi;rw[xJ,nu _ _ _ AK]at hi
   split at hi
   .injection hi with hi;omega
   .exact g.ti x (aA hi)
 .intro x hx;rw[hc]at hx ⊢;show _\/_/\x<((c.m.set k 2).length:Int);rw[bU];exact g.oi x hx
 .intro x hx;rw[hc]at hx ⊢;show _/\x<((c.m.set k 2).length:Int);rw[bU];exact g.pi x hx
 .rw[hc];exact g.tj.rZ _ _ z3
 .intro x hx;have h:=g.dt x (by rw[hc]at hx;exact hx);have D7:=(g.pi x (by rw[hc]at hx;exact hx)).1;refine⟨λh1=>?_,by rw[hc];exact h.2⟩
  rcases(mt x D7).1 h1 with rfl|h1
  .rw[hc]at hx;exact z1 hx
  .exact h.1 h1
 .intro i x hi hx ho;rw[hc]at hi ho ⊢;have hi:(rZ c.table (iA c.table) k)[i]?=some x:=hi;rw[xJ,nu _ _ _ AK]at hi
  split at hi
  .injection hi with hi
   subst hi;exact absurd ho z2
  .exact g.sm i x hi hx ho
 .intro i hi;have hi:i<c.m.length:=by rw[hc]at hi;simpa using hi
  rw[Rp i (by omega),<-g.md i hi,hc];show(c.m.set k 2).getD i 0=_;rw[nz _ _ _ _ hi]
  by_cases e:k=i
  .rw[if_pos e,if_pos (by omega)]
  .rw[if_neg e,if_neg (by omega)]
 .intro x hx D7
  rcases(mt x D7).1 hx with rfl|hx
  .rw[hc];exact⟨c.ep+1,_,by omega,jK _,pJ p hp,w5⟩
  .obtain⟨q,s,q1,q2,q3,q4⟩:=g.rt x hx D7;rw[hc];exact⟨q,s,q1,q2,q3,(w6 x hx D7).trans q4⟩
 .intro x hx D7;rw[hc]at hx ⊢;obtain⟨q,s,q1,q2,q3,q4⟩:=g.ro x hx D7;exact⟨q,s,q1,q2,q3,(w7 x hx D7).trans q4⟩
 .rw[hc];unfold C.cH;simp only[bU,St.mk.injEq,true_and,and_true];refine⟨?_,?_⟩
  .rw[xJ,Rn];have e1:C.eR {c with m:=c.m.set k 2,d:=d',table:=oE c.table (iA c.table) k} n (k:Int)=some (true,eI p 232):=by
    unfold C.eR;rw[if_neg (by omega)];simp only[w5];simp[z2]
   rw[e1];refine Jp _ _ _ _ _ (λx hx=>?_);unfold C.eR
   by_cases h:x<0
   .rw[if_pos h,if_pos h]
   .rw[if_neg h,if_neg h];simp only[w6 x hx (by omega)]
  .refine iK (λx hx=>?_)
   by_cases h:x<0
   .rw[if_pos h,if_pos h]
   .rw[if_neg h,if_neg h];simp only[w7 x hx (by omega)]
theorem Rq(g:Good c n)(p:List UInt8):
  Good (c.bP n p).1 n/\(c.bP n p).1.cH n=((c.cH n).bP p).1/\(c.bP n p).2=((c.cH n).bP p).2/\(c.bP n p).1.d.calls<=c.d.calls+4/\(c.bP n p).1.cG=c.cG/\(c.bP n p).1.parts=c.parts:=by
 unfold C.bP St.bP;rw[if_neg (by rw[g.br];simp),Ro g]
 by_cases h1:232<p.length
 .rw[if_pos h1,if_pos h1];exact⟨g,rfl,rfl,by show c.d.calls<=_;omega,rfl,rfl⟩
 rw[if_neg h1,if_neg h1]
 by_cases h2:512<=iA c.table
 .rw[if_pos h2,if_pos (.inl h2)];exact⟨g,rfl,rfl,by show c.d.calls<=_;omega,rfl,rfl⟩
 rw[if_neg h2]
 by_cases h3:(c.cH n).free=0
 .have ht:=uK g h3;have hf:c.bW n p=(c,0,11):=by
   unfold C.bW;rw[ht,if_pos (by simp)]
  rw[hf,if_pos (by simp),if_pos (.inr h3)];exact⟨g,rfl,rfl,by show c.d.calls<=_;omega,rfl,rfl⟩
 .obtain⟨k,hk,h0,ht⟩:=uJ g h3;obtain⟨W0,W⟩:=yE g hk h0 p (by omega);have hf:c.bW n p=({c with m:=c.m.set k 2,d:=(bo c.d n k (c.ep+1) 2 p).1},(k:Int),0):=by
   unfold C.bW;rw[ht,if_neg (by simp),if_neg (by rw[W0];simp)]
  rw[hf,if_neg (by simp),if_neg (by omega)];obtain⟨G,e⟩:=new_ok g hk h0 p (by omega) rfl (c':={c with m:=c.m.set k 2,d:=(bo c.d n k (c.ep+1) 2 p).1,table:=rZ c.table (iA c.table) k}) rfl;exact⟨G,e,rfl,(W _ rfl).2.2.2.1,rfl,rfl⟩
variable{c:C}{n:Nat}
theorem abs_at(l:Int):(c.cH n).at l=if 0<=l then((c.table[l.toNat]?).map (c.eR n)).getD none else none:=by
 unfold St.at C.cH;simp only[kY]
theorem xK(g:Good c n)(l:Int):(c.rq l=true↔((c.cH n).at l).isSome=true)/\(c.rq l=true->∃k x:Nat,l=k/\c.table[k]?=some (x:Int)/\(x:Int)<c.m.length/\(c.cH n).at l=c.eR n x):=by
 rw[abs_at];have key:c.rq l=true↔0<=l/\∃x,c.table[l.toNat]?=some x/\0<=x:=by
  unfold C.rq;simp only[gH,decide_eq_true_eq]
  constructor
  .rintro⟨⟨h1,h2⟩,h3⟩;refine⟨h1,c.table.getD l.toNat 0,?_,h3⟩;rw[aT (by omega)];simp[List.getD,aT (show l.toNat<c.table.length by omega)]
  .rintro⟨h1,x,h2,h3⟩;have hl:l.toNat<c.table.length:=(aX.1 h2).1;refine⟨⟨h1,by omega⟩,?_⟩;simp[List.getD,h2];exact h3
 rw[key]
 constructor
 .constructor
  .rintro⟨h1,x,h2,h3⟩;rw[if_pos h1,h2];simp[C.eR];omega
  .intro h
   by_cases h1:0<=l
   .rw[if_pos h1]at h;refine⟨h1,?_⟩
    cases h2:c.table[l.toNat]? with
    |none=>rw[h2]at h;simp at h
    |some x=>
     refine⟨x,rfl,?_⟩;rw[h2]at h;simp[C.eR]at h;omega
   .rw[if_neg h1]at h;simp at h
 .rintro⟨h1,x,h2,h3⟩;have:=g.ti x (aA h2);obtain⟨xn,rfl⟩:=dL h3;refine⟨l.toNat,xn,by omega,h2,by omega,?_⟩;rw[if_pos h1,h2];rfl
theorem yF(g:Good c n)(l:Int):c.jm l=if c.rq l=true then 0 else 3:=by
 unfold C.jm;rw[if_neg (by rw[g.br];simp)]
theorem uL(g:Good c n)(l:Int):c.aR n l=(c.cH n).aR l:=by
 obtain⟨h1,h2⟩:=xK g l;unfold C.aR St.aR;rw[yF g]
 by_cases hh:c.rq l=true
 .obtain⟨k,x,rfl,hk,hx,e⟩:=h2 hh;rw[if_pos hh,if_neg (by simp),e];obtain⟨q,s,q1,q2,q3,q4⟩:=g.rt x (aA hk) (by omega);have e2:c.table.getD ((k:Nat):Int).toNat 0=(x:Int):=by rw[show((k:Nat):Int).toNat=k by omega];simp[List.getD,hk]
  rw[e2,q4,if_neg (by simp)];unfold C.eR;rw[if_neg (by omega),q4]
 .rw[if_neg hh,if_pos (by simp)];have:((c.cH n).at l)=none:=by
   cases h:(c.cH n).at l with
   |none=>rfl
   |some v=>exact absurd (h1.2 (by rw[h];rfl)) hh
  rw[this]
theorem FI(g:Good c n){l:Int}(h:((c.cH n).aR l).2=0):((c.cH n).aR l).1.length=232:=by
 obtain⟨h1,h2⟩:=xK g l
 by_cases hh:c.rq l=true
 .obtain⟨k,x,rfl,hk,hx,e⟩:=h2 hh;obtain⟨q,s,q1,q2,q3,q4⟩:=g.rt x (aA hk) (by omega);unfold St.aR;rw[e];unfold C.eR;rw[if_neg (by omega),q4];exact q3
 .have:((c.cH n).at l)=none:=by
   cases h:(c.cH n).at l with
   |none=>rfl
   |some v=>exact absurd (h1.2 (by rw[h];rfl)) hh
  unfold St.aR at h;rw[this]at h;simp at h
theorem Np(g:Good c n)(l:Int):
  Good (c.aS l).1 n/\(c.aS l).1.cH n=((c.cH n).aS l).1/\(c.aS l).2=((c.cH n).aS l).2/\(c.aS l).1.d=c.d/\(c.aS l).1.cG=c.cG/\(c.aS l).1.parts=c.parts:=by
 obtain⟨h1,h2⟩:=xK g l;unfold C.aS St.aS;rw[yF g]
 by_cases hh:c.rq l=true
 .obtain⟨k,x,rfl,hk,hx,e⟩:=h2 hh;have e2:c.table.getD ((k:Nat):Int).toNat 0=(x:Int):=by rw[show((k:Nat):Int).toNat=k by omega];simp[List.getD,hk]
  have hxt:=aA hk;have hxp:(x:Int)∉c.parts:=λh=>(g.dt _ h).1 hxt;rw[if_pos hh,if_neg (by simp),if_pos (h1.1 hh),e2,show((k:Nat):Int).toNat=k by omega];have Ay:x<c.m.length:=by omega
  have sN:Fm.DL c.m (x:Int)=true:=by unfold Fm.DL;simp;omega
  have hkx:=g.md x Ay;obtain⟨u,hu,hu2⟩:∃u,(Fm.eD c.m (x:Int)).1=c.m.set x u/\u=if(x:Int)∈c.cG then 3 else 0:=by
   unfold Fm.eD;rw[if_pos sN,show((x:Nat):Int).toNat=x by omega,hkx];unfold dQ;rw[if_neg hxp]
   by_cases ho:(x:Int)∈c.cG
   .rw[if_pos ho,if_pos hxt,if_neg (by omega),if_pos rfl];exact⟨3,rfl,by rw[if_pos ho]⟩
   .rw[if_neg ho,if_pos hxt,if_pos rfl];exact⟨0,rfl,by rw[if_neg ho]⟩
  obtain⟨c',hc⟩:∃c':C,c'={c with m:=(Fm.eD c.m (x:Int)).1,table:=c.table.set k (-1)}:=⟨_,rfl⟩;have wX:c'.m.length=c.m.length:=by rw[hc];show(Fm.eD c.m (x:Int)).1.length=_;rw[hu,bU]
  have mt:∀z,0<=z->(z∈c'.table↔z∈c.table/\z≠x):=λz hz=>by rw[hc];exact FH g.tj hk (-1) hz (by omega) (by omega)
  have uM:∀z∈c'.table,0<=z->z∈c.table:=λz hz h0=>((mt z h0).1 hz).1;have Rp:∀z:Int,0<=z->dQ c' z=if z=x then u else dQ c z:=by
   intro z hz;unfold dQ;have e3:c'.parts=c.parts:=by rw[hc]
   have e4:c'.cG=c.cG:=by rw[hc]
   rw[e3,e4]
   by_cases e:z=x
   .rw[if_pos e];subst e;rw[if_neg hxp,hu2];have:(x:Int)∉c'.table:=λh=>((mt _ hz).1 h).2 rfl;simp only[this,if_false]
   .rw[if_neg e];have:(z∈c'.table)↔z∈c.table:=(mt z hz).trans ⟨λh=>h.1,λh=>⟨h,e⟩⟩;simp only[this]
  show Good {c with m:=(Fm.eD c.m (x:Int)).1,table:=c.table.set k (-1)} n/\_;refine⟨?_,?_,rfl,rfl,rfl,rfl⟩
  .rw[<-hc];refine⟨by rw[hc];exact g.up,by rw[hc];exact g.arm,by rw[hc];exact g.br,by rw[hc];exact g.ok,wX.trans g.ml,by rw[hc];exact g.ep,by rw[hc];exact g.sl,?_,by rw[wX,hc];exact g.oi,by rw[wX,hc];exact g.pi,by rw[hc];exact g.tj.bG k (-1) (.inl (by omega)),by rw[hc];exact g.oj,by rw[hc];exact g.pj,?_,by rw[hc];exact g.pl,?_,?_,?_,by rw[hc];exact g.ro⟩
   .intro z hz;rw[wX]
    by_cases h0:0<=z
    .exact g.ti z (uM z hz h0)
    .rw[hc]at hz
     rcases xo hz with hz|rfl
     .exact g.ti z hz
     .exact .inl rfl
   .intro z hz;have hz':z∈c.parts:=by rw[hc]at hz;exact hz
    exact⟨λh=>(g.dt z hz').1 (uM z h (g.pi z hz').1),by rw[hc];exact(g.dt z hz').2⟩
   .intro i z hi hz ho;rw[hc]at hi ho ⊢;have hi:(c.table.set k (-1))[i]?=some z:=hi;rw[iw]at hi
    split at hi
    .split at hi
     .injection hi with hi;omega
     .cases hi
    .exact g.sm i z hi hz ho
   .intro i hi;rw[wX]at hi;rw[Rp i (by omega),<-g.md i hi];have:c'.m=c.m.set x u:=by rw[hc];exact hu
    rw[this,nz _ _ _ _ hi]
    by_cases e:x=i
    .rw[if_pos e,if_pos (by omega)]
    .rw[if_neg e,if_neg (by omega)]
   .intro z hz h0;rw[hc];rw[hc]at hz;exact g.rt z (uM z (by rw[hc];exact hz) h0) h0
  .unfold C.cH;simp only[hu,bU,St.mk.injEq,true_and,and_true];rw[qt];rfl
 .have:((c.cH n).at l)=none:=by
   cases h:(c.cH n).at l with
   |none=>rfl
   |some v=>exact absurd (h1.2 (by rw[h];rfl)) hh
  rw[if_neg hh,if_pos (by simp),this,if_neg (by simp)];exact⟨g,rfl,rfl,rfl,rfl,rfl⟩
def uN(t:List (Option (Bool×List UInt8))):Nat->List Int
 |0=>[]
 |k+1=>uN t k++if((t[k]?).getD none).isSome then [(k:Int)]else []
theorem LD :∀k,k<=c.table.length->wZ c.table k=uN (c.cH n).now k
 |0,_=>rfl
 |k+1,h=>by
  unfold wZ uN;rw[LD k (by omega)]
  congr 1
  unfold C.cH;simp only[kY,aT (show k<c.table.length by omega),List.getD,mK,n8,C.eR]
  by_cases h0:c.table[k]<0
  .rw[if_pos h0,if_neg (by omega)];rfl
  .rw[if_neg h0,if_pos (by omega)];rfl
def St.jS(a:St):List Int:=uN a.now a.now.length
theorem slot_le(a:St):a.slot<=a.now.length:=nX
theorem Nq(a:St):a.at (a.slot:Nat)=none:=by
 unfold St.at;rw[if_pos (by omega),show(((a.slot:Nat):Int)).toNat=a.slot by omega]
 rcases eT a.slot a.now.length with h|h
 .have:=rQ (p:=Option.isNone) (xs:=a.now) (w:=h);unfold St.slot at h ⊢;rw[aT h];simpa using this
 .rw[gw h];rfl
theorem Nr(d:D)(h:d.bA<=9223372036854775807):d.gj.1.calls<=d.calls+1/\d.gj.1.bA<=9223372036854775807:=by
 have:=Bp d h;unfold D.gj
 split
 .exact⟨by show d.calls<=_;omega,h⟩
 .split
  .exact⟨by show d.cy.1.calls<=_;omega,this.2⟩
  .exact⟨by omega,this.2⟩
theorem Jq(n:Nat)(h1:1<=fC n)(hn:n<=4096)(fy:(dX (D.zero n) n).d.Ok n):Good (dX (D.zero n) n) n/\(dX (D.zero n) n).cH n={many:=fC n,now:=[],cG:=[],ep:=1}/\(dX (D.zero n) n).d.calls<=10:=by
 have hk:2<=n:=by unfold fC cq at h1;omega
 have z:(D.zero n).down=false/\(D.zero n).bA=0/\(D.zero n).calls=0:=⟨rfl,rfl,rfl⟩;obtain⟨w1,w2,w3⟩:=jn (d:=D.zero n) (n:=n) (k:=0) z.1 z.2.1 (by omega) ft;obtain⟨v1,v2,v3⟩:=jn (d:=((D.zero n).aG n (0:Nat) ft).1) (n:=n) (k:=1) w2 w3 (by omega) [];obtain⟨s1,s2,s3,_⟩:=uI v2 v3;have c1:=kg (D.zero n) n 0 ft (by show(0:Int)<=_;omega);have c2:=kg ((D.zero n).aG n 0 ft).1 n 1 [] c1.2;have hc:(dX (D.zero n) n).d.calls<=10:=by
  show(((D.zero n).aG n 0 ft).1.aG n 1 []).1.gj.1.calls<=10;have c3:=(Nr ((((D.zero n).aG n 0 ft).1.aG n 1 []).1) c2.2).1;have:=c1.1;have:=c2.1;omega
 refine⟨⟨s2,s3,rfl,fy,by simp[dX],by simp[dX],.inl rfl,by simp[dX],by simp[dX],by simp[dX],by simp[dX,AM],by simp[dX,AM],by simp[dX,AM],by simp[dX],by simp[dX,BC],by simp[dX],?_,by simp[dX],by simp[dX]⟩,?_,hc⟩
 .intro i hi;simp[dX]at hi;unfold dQ dX;simp[List.getD,hi]
 .unfold C.cH dX;simp
def St.start(jS:Nat):St:={many:=jS,now:=[],cG:=[],ep:=1}
end Sh
namespace Rt
open Go.RowKit Pk
attribute [local go_sem ↓] Go.wp_at_zero Go.wp_at_succ
def bT(b:List UInt8)(k:Nat):Nat:=(b.getD k 0).toNat*256+(b.getD (k+1) 0).toNat
end Rt
namespace Rt
open Go.RowKit Pk
theorem D8(ep:Int):(dj ep).length=8:=by unfold dj vP;rw[om]
theorem Rr(l:List Nat):(l.flatMap fA).length=2*l.length:=by
 induction l with
 |nil=>rfl
 |cons a l ih=>rw[gS,aQ,ih];simp[fA];omega
theorem FJ(lg:Nat)(l:List Nat)(h:l.length<=5):(uH lg l).length=44:=by
 unfold uH;simp only[aQ,Rr,fi];simp[fA];omega
theorem FK(m:List UInt8):(jG.cf m).length=m.length+4:=by unfold jG.cf;simp[jG.js]
def yG(v:List UInt8):Int:=(lJ (v.take 8):Int)-9223372036854775808
def Rs(v:List UInt8):List UInt8:=(v.drop 12).take 44
def decP(v:List UInt8):List Nat:=(List.range (bT (Rs v) 2)).map λi=>bT (Rs v) (4+2*i)
def goodR(v:List UInt8):Prop:=bT (Rs v) 2<=5/\k8 (yG v) (bT (Rs v) 0:Nat) (tD (decP v))/\vS (yG v) (bT (Rs v) 0) (decP v)=v
theorem D9(ep:Int)(lg:Nat)(l:List Nat)(h:l.length<=5):(vS ep lg l).length=64:=by
 unfold vS;simp only[aQ,D8,FK,FJ _ _ h]
attribute [local go_sem ↓] Go.wp_at_zero Go.wp_at_succ
def num1(x:Int):Nat:=(max x (-1)+1).toNat
def partF(l:List Int):List UInt8:=(l.map num1).flatMap fA
def segF(l:List Int)(p:Nat):List Int:=(l.drop (116*p)).take 116
attribute [local go_sem ↓] bq
def nvs(l:List Int):List Value:=l.map (Value.int .i64)
@[simp] theorem nvs_length(l:List Int):(nvs l).length=l.length:=by simp[nvs]
def dF(T:List UInt8)(m:Nat):List Int:=(List.range m).map λj=>(bT T (2*j):Int)-1
@[simp] theorem getF_length(T:List UInt8)(m:Nat):(dF T m).length=m:=by simp[dF]
end Rt
namespace Sh
open Go.RowKit Pk Dk Pg
attribute [local go_sem ↓] Go.wp_at_zero Go.wp_at_succ bq
def C.aG(c:C)(n:Nat)(l:Int)(p:List UInt8):C×Int:=
 if c.broken=true then(c,13)
 else if 232<p.length then(c,4)
 else if c.jm l≠0 then(c,c.jm l)
 else if Fm.bW c.m (c.table.getD l.toNat 0)=true then({c with d:=(bo c.d n (c.table.getD l.toNat 0) (c.ep+1) 2 p).1},(bo c.d n (c.table.getD l.toNat 0) (c.ep+1) 2 p).2)
 else if(c.bW n p).2.2≠0 then((c.bW n p).1,(c.bW n p).2.2)
 else({(c.bW n p).1 with m:=(Fm.eD (c.bW n p).1.m (c.table.getD l.toNat 0)).1,table:=c.table.set l.toNat (c.bW n p).2.1},0)
theorem Jr{w:World}{x:X}{n:Nat}{c:C}(h:At w x n c)(l:Int)(s:ByteArray)(hs:s.size<=9223372036854775807)(MM:0<=c.ep/\c.ep<=1099511627776)(hc:c.d.calls<=3999999999999999990)(hr:c.d.bA<=9223372036854775807)(ht:∀k,c.table.getD k 0<=1024):
  Calls prog 147 #[sp x.b,.int .i64 l,.string s] w λe w'=>e=.returned (.int .i64 (c.aG n l s.data.toList).2)/\At w' x n (c.aG n l s.data.toList).1/\ag x.fp w w':=by
 have KW:=jt h;have hl:s.data.toList.length=s.size:=by simp
 obtain⟨R,hR⟩:∃R,c.aG n l s.data.toList=R:=⟨_,rfl⟩;rw[hR];unfold C.aG at hR;rw[hl]at hR;have HH:=xh h
 by_cases h1:c.broken=true
 .rw[if_pos h1]at hR;subst hR;rw[show c.fY=13 from by unfold C.fY;rw[if_pos h1]]at KW;have KW:=xh KW;clear h h1;unfold sp at *;go_enter func147,ntmps147;go_wp2_with fail;refine KW.o.mono ?_;rintro e w1 ⟨rfl,rfl⟩;go_wp2_with fail;go_ret;exact aC ⟨HH.o,ag.refl _ _⟩
 rw[if_neg h1]at hR;rw[show c.fY=0 from by unfold C.fY;rw[if_neg h1]]at KW;have KW:=xh KW
 by_cases h2:232<s.size
 .rw[if_pos h2]at hR;subst hR;have h2I:(232:Int)<(s.size:Int):=by omega
  clear h h1 h2;unfold sp at *;go_enter func147,ntmps147;go_wp2_with fail;refine KW.o.mono ?_;rintro e w1 ⟨rfl,rfl⟩;go_wp2_with fail;go_ret;exact aC ⟨HH.o,ag.refl _ _⟩
 rw[if_neg h2]at hR;have h2I:¬(232:Int)<(s.size:Int):=by omega
 have KA:=pG h l
 by_cases h3:c.jm l=0
 .rw[if_neg (by simpa using h3)]at hR;obtain⟨_,h5,h6,h7⟩:=Jd h3;rw[h3]at KA;have KA:=xh KA;obtain⟨k,rfl⟩:=dL h5;have hk:k<c.table.length:=by omega
  rw[show((k:Nat):Int).toNat=k from by omega]at hR h7;obtain⟨g,cp,hv,ck⟩:=h.tk k hk;have f1:=h.f1;have f2:=h.f2;rw[hv]at f2;have Ly:(k:Int)<(c.table.length:Int):=by omega
  have HR:=xh hR;have hid:c.table.getD k 0<=9223372036854775807:=by have:=ht k;omega
  have KF:=xh (λ(m:Nat)=>Fm.qK (h.drewN m).hm (c.table.getD k 0));have KP:=xh (λ(m:Nat)=>jg (h.drewN m) (c.table.getD k 0) 2 s hid MM hc hr);have KN:=xh (λ(m:Nat)=>qK (h.drewN m) s MM hc hr);have HD:=xh (λ(m:Nat)=>h.drewN m);obtain⟨pid,Ru⟩:∃pid,c.table.getD k 0=pid:=⟨_,rfl⟩;rw[Ru]at ck KF KP hR HR;have g1:=h.f1
  by_cases hf:Fm.bW c.m pid=true
  .rw[if_pos hf]at hR;subst hR;rw[hf]at KF;clear h h1 h2 h3 hv hf HR Ru hid;generalize c.table.length=tn at *;unfold Fm.mp at *;unfold sp at *;go_enter func147,ntmps147;go_wp2_with fail;refine KW.o.mono ?_;rintro e w1 ⟨rfl,rfl⟩;go_wp2_with fail;refine KA.o.mono ?_;rintro e w1 ⟨rfl,rfl⟩;go_wp2_with fail;go_quiet ((go_at_call 192;exact yh (KF.o _)));go_wp2_with fail;refine(KP.o nq).mono ?_;rintro e w2 ⟨rfl,A2,o2⟩;have A2:=xh A2
   have o2:=xh (((ag.refl x.fp w).drewN nq).trans (o2.mono (λg hg _=>L_fp x g hg)));go_wp2_with fail;go_ret;exact aC ⟨A2.o,o2.o⟩
  .have DW:Fm.bW c.m pid=false:=by cases hb:Fm.bW c.m pid with|true=>exact absurd hb hf|false=>rfl
   rw[if_neg hf]at hR;rw[DW]at KF;have FT:=lA c n s.data.toList;obtain⟨c1,Ea⟩:∃c1,c.bW n s.data.toList=c1:=⟨_,rfl⟩;rw[Ea]at KN hR FT;obtain⟨C1,id1,e1⟩:=c1;dsimp only at KN hR FT
   by_cases he:e1=0
   .subst he;rw[if_neg (by simp)]at hR;subst hR;have HT:=xh FT.1;have hpid2:=xh (show C1.table.getD k 0=pid by rw[HT.o];exact Ru);have hk2:=xh (show k<C1.table.length by rw[HT.o];exact hk);have HX:=xh (show ∀w1,At w1 x n C1->∀cp',x.tv=.slice (some ⟨g,0,none⟩) c.table.length cp'->(w1.cell? ⟨x.b,1,none⟩=some (Fm.mp x.mb)/\w1.cell? ⟨x.b,2,none⟩=some (.slice (some ⟨g,0,none⟩) c.table.length cp')/\w1.cell? ⟨g,k,none⟩=some (.int .i64 pid))from λw1 A1 cp' e=>by
     obtain⟨g2,cp2,e2,ck2⟩:=A1.tk k hk2.o;rw[e]at e2;injection e2 with e3 e4 e5
     injection e3 with e3
     injection e3 with e3
     subst e3;rw[hpid2.o]at ck2;exact⟨A1.f1,by rw[<-e];exact A1.f2,ck2⟩)
    have HS:=xh (show ∀w2,At w2 x n {C1 with m:=(Fm.eD C1.m pid).1}->∀cp',x.tv=.slice (some ⟨g,0,none⟩) c.table.length cp'->(w2.cell? ⟨g,k,none⟩=some (.int .i64 pid)/\w2.frozen? ⟨g,k,none⟩=false/\At (w2.setCell ⟨g,k,none⟩ (.int .i64 id1)) x n {C1 with m:=(Fm.eD C1.m pid).1,table:=c.table.set k id1}/\ag x.fp w2 (w2.setCell ⟨g,k,none⟩ (.int .i64 id1)))from λw2 A2 cp' e=>by
     obtain⟨g2,cp2,e2,ck2,z2,A3,o3⟩:=A2.fQ k hk2.o id1;rw[e]at e2;injection e2 with e3 e4 e5
     injection e3 with e3
     injection e3 with e3
     subst e3;rw[show({C1 with m:=(Fm.eD C1.m pid).1}:C).table.getD k 0=pid from hpid2.o]at ck2;rw[show({C1 with m:=(Fm.eD C1.m pid).1}:C).table=c.table from HT.o]at A3;exact⟨ck2,z2,A3,o3⟩)
    have HV:=xh hv;have KL:=xh (λ(W:World) (hW:At W x n C1)=>Fm.uF hW.hm pid);have HM:=xh (λ(W W':World) (hW:At W x n C1) (mm:Fm.eX W' x.mb x.mg (Fm.eD C1.m pid).1) (ow:ag [x.mg] W W')=>hW.map mm ow);clear h h1 h2 h3 hv hf DW HR Ru hid FT Ea;generalize c.table.length=tn at *;generalize (Fm.eD C1.m pid).2=le at *;unfold Fm.mp at *;unfold sp at *;go_enter func147,ntmps147;go_wp2_with fail;refine KW.o.mono ?_;rintro e w1 ⟨rfl,rfl⟩
    go_wp2_with fail;refine KA.o.mono ?_;rintro e w1 ⟨rfl,rfl⟩;go_wp2_with fail;go_quiet ((go_at_call 192;exact yh (KF.o _)));go_wp2_with fail;refine(KN.o nq).mono ?_;rintro e w1 ⟨rfl,A1,o1⟩;have A1:=xh A1;have o1:=xh (((ag.refl x.fp w).drewN nq).trans o1);clear f1 f2 ck;have A1d:=xh A1.o.drew;have HK:=xh (HX.o _ A1d.o cp HV.o);go_wp2_with fail
    refine wp_region_held_drew (S:=λW'=>W'.cell? ⟨x.b,1,none⟩=some (.pointer (some ⟨x.mb,0,none⟩))/\W'.cell? ⟨x.b,2,none⟩=some (.slice (some ⟨g,0,none⟩) tn cp)/\W'.cell? ⟨g,k,none⟩=some (.int .i64 pid)) (by kernel_rfl) (HK.o) (λaq=>?_);refine cV [(0,56),(1,57),(2,58),(3,59),(4,60),(5,61),(6,62),(7,63),(8,64),(9,65),(10,66)] ?_
    iterate 11 refine bj ?_
    refine dn 11 67 λK hK=>?_;go_simp
    go_at_call 153
    refine(KL.o _ A1d.o).mono ?_;rintro e w2 ⟨rfl,mm,ow⟩;have A2:=xh (HM.o _ _ A1d.o mm ow);have vU:=xh (HS.o w2 A2.o cp HV.o);have q1:=A2.o.f1;have q2:=A2.o.f2;rw[HV.o]at q2;unfold Fm.mp at q1;have OX:=xh (((o1.o.drew).trans (ow.mono (λg hg _=>Bx x g hg))).trans vU.o.2.2.2);have z2:=vU.o.2.1;have ck2:=vU.o.1;clear mm ow;go_simp;refine aW hK (⟨q1,q2,ck2⟩) (λaq=>?_);refine wpAnyH_done (by kernel_rfl) ?_ _;go_wp2_with fail;go_ret
    exact aC ⟨vU.o.2.2.1,OX.o⟩
   .rw[if_pos he]at hR;subst hR;have hq:(e1 != 0)=true:=by rw[bne_iff_ne];exact he
    have ki:(e1==0)=false:=by rw[beq_eq_false_iff_ne];exact he
    clear h h1 h2 h3 hv hf DW HR Ru hid FT Ea;generalize c.table.length=tn at *;unfold Fm.mp at *;unfold sp at *;go_enter func147,ntmps147;go_wp2_with fail;refine KW.o.mono ?_;rintro e w1 ⟨rfl,rfl⟩;go_wp2_with fail;refine KA.o.mono ?_;rintro e w1 ⟨rfl,rfl⟩;go_wp2_with fail;go_quiet ((go_at_call 192;exact yh (KF.o _)));go_wp2_with fail;refine(KN.o nq).mono ?_;rintro e w1 ⟨rfl,A1,o1⟩;have A1:=xh A1;have o1:=xh (((ag.refl x.fp w).drewN nq).trans o1)
    go_wp2_with fail;go_ret;exact aC ⟨A1.o,o1.o⟩
 .rw[if_pos h3]at hR;subst hR;have KA:=xh KA;have hq:(c.jm l != 0)=true:=by rw[bne_iff_ne];exact h3
  have ki:(c.jm l==0)=false:=by rw[beq_eq_false_iff_ne];exact h3
  generalize c.jm l=ea at *;clear h h1 h2 h3;unfold sp at *;go_enter func147,ntmps147;go_wp2_with fail;refine KW.o.mono ?_;rintro e w1 ⟨rfl,rfl⟩;go_wp2_with fail;refine KA.o.mono ?_;rintro e w1 ⟨rfl,rfl⟩;go_wp2_with fail;go_ret;exact aC ⟨HH.o,ag.refl _ _⟩
end Sh
namespace Sh
open Go.RowKit Pk Dk Pg
attribute [local go_sem ↓] Go.wp_at_zero Go.wp_at_succ
section
variable{w0 w w':World}{x:X}{n:Nat}{c:C}{d:D}{v:Value}{parts:List Int}
end
section
variable{w w':World}{x:X}{n:Nat}{c:C}
end
end Sh
namespace Sh
open Go.RowKit Pk Dk Pg
attribute [local go_sem ↓] Go.wp_at_zero Go.wp_at_succ
abbrev FL:=Option (Bool×List UInt8)
def Eb(l:List (Option (List UInt8))):List FL:=l.map λo=>o.map λb=>(false,b)
@[simp] theorem oldS_length(l:List (Option (List UInt8))):(Eb l).length=l.length:=by simp[Eb]
section
variable{w w':World}{b:Nat}{nv ov:Value}{a:St}{S:List Nat}
end
attribute [local go_sem ↓] bq
end Sh
namespace Sh
open Go.RowKit Pk Dk Pg
attribute [local go_sem ↓] Go.wp_at_zero Go.wp_at_succ
def St.aG(a:St)(l:Int)(p:List UInt8):St×Int:=
 if 232<p.length then(a,4)
 else if ¬(a.at l).isSome=true then(a,3)
 else if fH (a.at l)=false/\a.free=0 then(a,11)
 else({a with now:=a.now.set l.toNat (some (true,eI p 232))},0)
attribute [local go_sem ↓] bq
end Sh
namespace Sh
open Go.RowKit Pk Dk Pg
attribute [local go_sem ↓] Go.wp_at_zero Go.wp_at_succ
def Rv(l:List FL)(o:List FL)(i:Nat):Bool:=((o[i]?).getD none).isSome && (!((l[i]?).getD none).isSome || fH ((l[i]?).getD none))
def Ec(l:List FL)(o:List FL):Nat->Nat
 |0=>0
 |k+1=>Ec l o k+if Rv l o k then 1 else 0
def St.leaving(a:St):Nat:=Ec a.now (Eb a.cG) a.cG.length
end Sh
namespace Sh
open Go.RowKit Pk Dk Pg
variable{c:C}{n:Nat}
theorem yH(g:Good c n){k:Nat}(hk:k<c.m.length)(p:List UInt8)(hp:p.length<=232):
  (bo c.d n k (c.ep+1) 2 p).2=0/\∀d',d'=(bo c.d n k (c.ep+1) 2 p).1->d'.down=false/\d'.bA=0/\d'.Ok n/\d'.calls<=c.d.calls+4/\bR d' n k=(⟨k,c.ep+1,2,eI p 232⟩,0)/\
   ∀x:Int,0<=x->x<c.m.length->x≠k->bR d' n x=bR c.d n x:=by
 have e:=g.ep;obtain⟨h1,h2,h3,h4,h5⟩:=oA g.ok g.up g.arm k (c.ep+1) 2 p (ny g hk) (by rw[qH];omega) hp;refine⟨h1,λd' hd=>?_⟩;subst hd;refine⟨h2,h3,yD g.ok _ _ _ _,(Bq _ _ _ _ _ _ (by rw[g.arm];omega)).1,h4,λx hx hx1 eV=>?_⟩;have:=h5 x.toNat (ny g (by omega)) (by omega)
 rwa [show((x.toNat:Nat):Int)=x by omega]at this
theorem Js(g:Good c n){x:Nat}(hx:x<c.m.length)(ht:(x:Int)∈c.table):Fm.bW c.m (x:Int)=decide ((x:Int)∉c.cG):=by
 unfold Fm.bW;rw[show Fm.DL c.m (x:Int)=true from by unfold Fm.DL;simp;omega,show((x:Nat):Int).toNat=x by omega,g.md x hx];unfold dQ;rw[if_neg (λh=>(g.dt _ h).1 ht)]
 by_cases ho:(x:Int)∈c.cG
 .simp[ho,ht]
 .simp[ho,ht]
theorem vX{α β:Type}(f f':α->β)(t:List α)(k:Nat)(u:α)(v:β)(hu:f' u=v)(h:∀i x,t[i]?=some x->i≠k->f' x=f x):(t.set k u).map f'=(t.map f).set k v:=by
 apply l5;intro i;rw[kY,iw,iw,kY,fM]
 by_cases e:k=i
 .subst e;rw[if_pos rfl,if_pos rfl]
  by_cases hl:k<t.length
  .rw[if_pos hl,if_pos hl,mK,hu]
  .rw[if_neg hl,if_neg hl];rfl
 .rw[if_neg e,if_neg e]
  cases hx:t[i]? with
  |none=>rfl
  |some x=>rw[mK,mK,h i x hx (λh=>e h.symm)]
theorem Jt(g:Good c n)(l:Int)(p:List UInt8):
  Good (c.aG n l p).1 n/\(c.aG n l p).1.cH n=((c.cH n).aG l p).1/\(c.aG n l p).2=((c.cH n).aG l p).2/\(c.aG n l p).1.d.calls<=c.d.calls+4:=by
 obtain⟨h1,h2⟩:=xK g l;unfold C.aG St.aG;rw[if_neg (by rw[g.br];simp),yF g]
 by_cases hp:232<p.length
 .rw[if_pos hp,if_pos hp];exact⟨g,rfl,rfl,by show c.d.calls<=_;omega⟩
 rw[if_neg hp,if_neg hp]
 by_cases hh:c.rq l=true
 .obtain⟨k,x,rfl,hk,hx,e⟩:=h2 hh;have Ay:x<c.m.length:=by omega
  have hxt:=aA hk;have e2:c.table.getD ((k:Nat):Int).toNat 0=(x:Int):=by rw[show((k:Nat):Int).toNat=k by omega];simp[List.getD,hk]
  rw[if_pos hh,if_neg (show ¬(0:Int)≠0 by simp),if_neg (show ¬ ¬((c.cH n).at ((k:Nat):Int)).isSome=true by rw[h1.1 hh];simp),e2,e,show((k:Nat):Int).toNat=k by omega];have AK:c.eR n (x:Int)=some (decide ((x:Int)∉c.cG),(bR c.d n x).1.s):=by unfold C.eR;rw[if_neg (by omega)]
  rw[AK,Js g Ay hxt];have MM:=g.ep
  by_cases ho:(x:Int)∈c.cG
  .rw[if_neg (show ¬decide ((x:Int)∉c.cG)=true by simp[ho])]
   by_cases hf:(c.cH n).free=0
   .have Ih:c.bW n p=(c,0,11):=by unfold C.bW;rw[uK g hf,if_pos (by simp)]
    rw[Ih];dsimp only;rw[if_pos (show(11:Int)≠0 by decide),if_pos (show(fH (some (decide ((x:Int)∉c.cG),(bR c.d n x).1.s))=false/\(c.cH n).free=0)from⟨by simp[fH,ho],hf⟩)];exact⟨g,rfl,rfl,by show c.d.calls<=_;omega⟩
   .rw[if_neg (show ¬(fH (some (decide ((x:Int)∉c.cG),(bR c.d n x).1.s))=false/\(c.cH n).free=0)from λh=>hf h.2)];obtain⟨j,hj,h0,ht⟩:=uJ g hf;obtain⟨z1,z2,z3⟩:=LC h0;obtain⟨W0,W⟩:=yH g hj p (by omega);have Ih:c.bW n p=({c with m:=c.m.set j 2,d:=(bo c.d n j (c.ep+1) 2 p).1},(j:Int),0):=by
     unfold C.bW;rw[ht,if_neg (by simp),if_neg (by rw[W0];simp)]
    rw[Ih];dsimp only;rw[if_neg (show ¬(0:Int)≠0 by simp)];obtain⟨w1,w2,w3,w4,w5,w6⟩:=W _ rfl;generalize (bo c.d n j (c.ep+1) 2 p).1=d' at *;have hjx:j≠x:=λe=>z3 (by rw[e];exact hxt);have hlv:(Fm.eD (c.m.set j 2) (x:Int)).1=(c.m.set j 2).set x 3:=by
     unfold Fm.eD;rw[show Fm.DL (c.m.set j 2) (x:Int)=true from by unfold Fm.DL;simp;omega,if_pos rfl,show((x:Nat):Int).toNat=x by omega,nz _ _ _ _ Ay,if_neg hjx,g.md x Ay];unfold dQ;rw[if_neg (λh=>(g.dt _ h).1 hxt),if_pos ho,if_pos hxt];simp
    dsimp only;rw[hlv];have mt:∀y:Int,0<=y->(y∈c.table.set k (j:Int)↔y=j\/(y∈c.table/\y≠x)):=by
     intro y hy
     constructor
     .intro hm;obtain⟨i,hi⟩:=nY hm;rw[iw]at hi
      by_cases e3:k=i
      .rw[if_pos e3]at hi
       split at hi
       .injection hi with hi;exact .inl hi.symm
       .cases hi
      .rw[if_neg e3]at hi;exact .inr ⟨aA hi,λe4=>e3 (g.tj k i y (by rw[e4];exact hk) hi hy)⟩
     .rintro(rfl|⟨hm,eV⟩)
      .have nS:k<c.table.length:=(aX.1 hk).1;exact aA (show(c.table.set k (j:Int))[k]?=some (j:Int) by rw[dM nS])
      .obtain⟨i,hi⟩:=nY hm;have:(c.table.set k (j:Int))[i]?=some y:=by
        rw[iw,if_neg (λe3=>eV (by subst e3;rw[hk]at hi;injection hi with hi;exact hi.symm))];exact hi
       exact aA this
    have hrd:∀y∈c.table,0<=y->bR d' n y=bR c.d n y:=λy hy h0=>by
     have:=g.ti y hy;exact w6 y h0 (by omega) (λe3=>z3 (by rw[<-e3];exact hy))
    have Rw:∀y∈c.cG,0<=y->bR d' n y=bR c.d n y:=λy hy h0=>by
     have:=g.oi y hy;exact w6 y h0 (by omega) (λe3=>z2 (by rw[<-e3];exact hy))
    have hneg:∀y:Int,y<0->y∈c.table.set k (j:Int)->y∈c.table:=λy hy hm=>by
     rcases xo hm with h|h
     .exact h
     .omega
    refine⟨⟨w1,w2,g.br,w3,by show((c.m.set j 2).set x 3).length=_;rw[bU,bU];exact g.ml,g.ep,g.sl,?_,?_,?_,?_,g.oj,g.pj,?_,g.pl,?_,?_,?_,?_⟩,?_,rfl,w4⟩
    .intro y hy;show y= -1\/0<=y/\y<(((c.m.set j 2).set x 3).length:Int);rw[bU,bU]
     by_cases h0:0<=y
     .rcases(mt y h0).1 hy with rfl|⟨h,_⟩
      .omega
      .exact g.ti y h
     .exact g.ti y (hneg y (by omega) hy)
    .intro y hy;show y= -1\/0<=y/\y<(((c.m.set j 2).set x 3).length:Int);rw[bU,bU];exact g.oi y hy
    .intro y hy;show 0<=y/\y<(((c.m.set j 2).set x 3).length:Int);rw[bU,bU];exact g.pi y hy
    .exact g.tj.bG k _ (.inr z3)
    .intro y hy;refine⟨λhm=>?_,(g.dt y hy).2⟩
     rcases(mt y (g.pi y hy).1).1 hm with rfl|⟨h,_⟩
     .exact z1 hy
     .exact(g.dt y hy).1 h
    .intro i y hi hy hyo;have hi:(c.table.set k (j:Int))[i]?=some y:=hi;rw[iw]at hi
     split at hi
     .split at hi
      .injection hi with hi
       subst hi;exact absurd hyo z2
      .cases hi
     .exact g.sm i y hi hy hyo
    .intro i hi;have hi:i<c.m.length:=by simpa using hi
     show((c.m.set j 2).set x 3).getD i 0=dQ _ (i:Int);rw[nz _ _ _ _ (by rw[bU];exact hi),nz _ _ _ _ hi];have hk2:dQ {c with d:=d',m:=(c.m.set j 2).set x 3,table:=c.table.set k (j:Int)} (i:Int)=if(i:Int)∈c.parts then 1 else if(i:Int)∈c.cG then(if(i:Int)∈c.table.set k (j:Int)then 1 else 3)else if(i:Int)∈c.table.set k (j:Int)then 2 else 0:=rfl
     rw[hk2];simp only[mt (i:Int) (by omega)]
     by_cases ei:x=i
     .subst ei;rw[if_pos rfl,if_neg (λh=>(g.dt _ h).1 hxt),if_pos ho,if_neg (by omega)]
     .rw[if_neg ei]
      by_cases ej:j=i
      .subst ej;rw[if_pos rfl,if_neg z1,if_neg z2,if_pos (.inl rfl)]
      .rw[if_neg ej,g.md i hi];unfold dQ;have:((i:Int)=(j:Int)\/(i:Int)∈c.table/\(i:Int)≠(x:Int))↔(i:Int)∈c.table:=by
        constructor
        .rintro(h|h)
         .omega
         .exact h.1
        .exact λh=> .inr ⟨h,by omega⟩
       simp only[this]
    .intro y hy h0
     rcases(mt y h0).1 hy with rfl|⟨h,_⟩
     .exact⟨c.ep+1,_,by omega,jK _,pJ p (by omega),w5⟩
     .obtain⟨q,s,q1,q2,q3,q4⟩:=g.rt y h h0;exact⟨q,s,q1,q2,q3,(hrd y h h0).trans q4⟩
    .intro y hy h0;obtain⟨q,s,q1,q2,q3,q4⟩:=g.ro y hy h0;exact⟨q,s,q1,q2,q3,(Rw y hy h0).trans q4⟩
    .unfold C.cH;simp only[bU,St.mk.injEq,true_and,and_true];refine⟨?_,?_⟩
     .refine vX _ _ _ _ _ _ ?_ (λi y hi _=>?_)
      .unfold C.eR;rw[if_neg (by omega)];simp only[w5];simp[z2]
      .unfold C.eR
       by_cases h:y<0
       .rw[if_pos h,if_pos h]
       .rw[if_neg h,if_neg h];simp only[hrd y (aA hi) (by omega)]
     .refine iK (λy hy=>?_)
      by_cases h:y<0
      .rw[if_pos h,if_pos h]
      .rw[if_neg h,if_neg h];simp only[Rw y hy (by omega)]
  .rw[if_pos (show decide ((x:Int)∉c.cG)=true by simp[ho]),if_neg (show ¬(fH (some (decide ((x:Int)∉c.cG),(bR c.d n x).1.s))=false/\(c.cH n).free=0) by simp[fH,ho])];obtain⟨W0,W⟩:=yH g Ay p (by omega);rw[W0];obtain⟨w1,w2,w3,w4,w5,w6⟩:=W _ rfl;generalize (bo c.d n x (c.ep+1) 2 p).1=d' at *;have Rw:∀y∈c.cG,0<=y->bR d' n y=bR c.d n y:=λy hy h0=>by
    have:=g.oi y hy;exact w6 y h0 (by omega) (λe3=>ho (by rw[<-e3];exact hy))
   have hrd:∀y∈c.table,0<=y->y≠x->bR d' n y=bR c.d n y:=λy hy h0 eV=>by
    have:=g.ti y hy;exact w6 y h0 (by omega) eV
   refine⟨⟨w1,w2,g.br,w3,g.ml,g.ep,g.sl,g.ti,g.oi,g.pi,g.tj,g.oj,g.pj,g.dt,g.pl,g.sm,g.md,λy hy h0=>?_,λy hy h0=>?_⟩,?_,rfl,w4⟩
   .by_cases ey:y=x
    .subst ey;exact⟨c.ep+1,_,by omega,jK _,pJ p (by omega),w5⟩
    .obtain⟨q,s,q1,q2,q3,q4⟩:=g.rt y hy h0;exact⟨q,s,q1,q2,q3,(hrd y hy h0 ey).trans q4⟩
   .obtain⟨q,s,q1,q2,q3,q4⟩:=g.ro y hy h0;exact⟨q,s,q1,q2,q3,(Rw y hy h0).trans q4⟩
   .unfold C.cH;simp only[St.mk.injEq,true_and,and_true];refine⟨?_,?_⟩
    .have:=vX (c.eR n) (C.eR {c with d:=d'} n) c.table k (x:Int) (some (true,eI p 232)) (by
      unfold C.eR;rw[if_neg (by omega)];simp only[w5];simp[ho]) (λi y hi eV=>by
      unfold C.eR
      by_cases h:y<0
      .rw[if_pos h,if_pos h]
      .rw[if_neg h,if_neg h];simp only[hrd y (aA hi) (by omega) (λey=>eV (g.tj i k y hi (by rw[ey];exact hk) (by omega)))])
     rw[<-this]
     congr 1
     apply l5;intro i;rw[iw]
     by_cases e3:k=i
     .subst e3;rw[if_pos rfl,if_pos (aX.1 hk).1,hk]
     .rw[if_neg e3]
    .refine iK (λy hy=>?_)
     by_cases h:y<0
     .rw[if_pos h,if_pos h]
     .rw[if_neg h,if_neg h];simp only[Rw y hy (by omega)]
 .rw[if_neg hh,if_pos (show(3:Int)≠0 by decide)];have:((c.cH n).at l)=none:=by
   cases h:(c.cH n).at l with
   |none=>rfl
   |some v=>exact absurd (h1.2 (by rw[h];rfl)) hh
  rw[this,if_pos (show ¬(none:Option (Bool×List UInt8)).isSome=true by simp)];exact⟨g,rfl,rfl,by show c.d.calls<=_;omega⟩
variable{n:Nat}{d:D}
theorem Ns(l:List Bool)(k:Nat)(x:Bool)(i:Nat):(l.set k x).getD i false=if k=i/\k<l.length then x else l.getD i false:=by
 simp only[List.getD,iw]
 by_cases h:k=i
 .subst h
  by_cases h2:k<l.length
  .simp[h2]
  .simp[h2]
 .simp[h]
def Calm(n:Nat)(P:Nat->Prop)(d d':D):Prop:= ∀j,j<n->P j->sec d'.now j=sec d.now j/\(d.loose.getD j false=false->d'.loose.getD j false=false)
theorem Calm.refl{P:Nat->Prop}(d:D):Calm n P d d:=λ_ _ _=>⟨rfl,id⟩
theorem Calm.trans{P:Nat->Prop}{a b c:D}(h:Calm n P a b)(k:Calm n P b c):Calm n P a c:=λj hj hp=>by
 obtain⟨h1,h2⟩:=h j hj hp;obtain⟨k1,k2⟩:=k j hj hp;exact⟨k1.trans h1,λe=>k2 (h2 e)⟩
theorem Ju(d:D):d.cy.1.now=d.now/\d.cy.1.loose=d.loose/\d.cy.1.cG=d.cG:=by
 unfold D.cy
 split
 .exact⟨rfl,rfl,rfl⟩
 .split<;>exact⟨rfl,rfl,rfl⟩
theorem Jv(d:D)(k j:Nat)(h:k≠j):(d.ia k).loose.getD j false=d.loose.getD j false:=by
 unfold D.ia
 split
 .rfl
 .show(d.loose.set k true).getD j false=_;rw[Ns,if_neg (λe=>h e.1)]
theorem Jw{P:Nat->Prop}(fy:d.Ok n)(k:Int)(s:List UInt8)(hP:∀j:Nat,(j:Int)=k->¬P j):Calm n P d (d.aG n k s).1:=by
 intro j hj hp;unfold D.aG
 by_cases h0:d.jm n k=0
 .rw[if_pos h0];have hk:0<=k/\k<n:=by
   unfold D.jm at h0
   split at h0
   .cases h0
   .split at h0
    .assumption
    .cases h0
  have eV:k.toNat≠j:=λe=>hP j (by omega) hp;obtain⟨c1,c2,_⟩:=Ju (d.dv k.toNat s);rw[c1,c2];refine⟨?_,λe=>?_⟩
  .show sec (fX d.now k.toNat (j5 s)) j=_;rw[Ln fy.now (by omega) (jQ s) hj,if_neg eV]
  .show(d.ia k.toNat).loose.getD j false=false;rw[Jv _ _ _ eV];exact e
 .rw[if_neg h0];exact⟨rfl,id⟩
theorem LF{P:Nat->Prop}(fy:d.Ok n)(k:Nat)(b:List UInt8)(hP:∀j,k<=j->j<k+4->¬P j):∀i,i<=4->Calm n P d (w4 d n k b i).1
 |0,_=> .refl d
 |i+1,hi=>by
  have ih:=LF fy k b hP i (by omega);unfold w4
  split
  .exact ih.trans (Jw (yo fy k b i) _ _ (λj e=>hP j (by omega) (by omega)))
  .exact ih
theorem vY{P:Nat->Prop}(fy:d.Ok n)(id ep kd:Int)(s:List UInt8)(hP:∀j:Nat,2+4*id.toNat<=j->j<2+4*id.toNat+4->¬P j):Calm n P d (bo d n id ep kd s).1:=by
 unfold bo
 split
 .exact .refl d
 .split
  .exact .refl d
  .exact LF fy _ _ hP 4 (aj _)
theorem Nt(n j:Nat):(List.replicate n false).getD j false=false:=by
 simp only[List.getD,Dc]
 split<;>rfl
theorem Jx(h:d.gj.2=0)(j:Nat):d.gj.1.loose.getD j false=false:=by
 unfold D.gj at h ⊢
 by_cases hd:d.down=true
 .rw[if_pos hd]at h;cases h
 rw[if_neg hd]at h ⊢
 by_cases hc:d.cy.2=0
 .rw[if_pos hc];exact Nt _ _
 .rw[if_neg hc]at h;exact absurd h hc
theorem Nu{d':D}(hd:d'.down=d.down)(x:Nat)(hx:x<cq n)(h:∀j,2+4*x<=j->j<2+4*x+4->sec d'.now j=sec d.now j):bR d' n x=bR d n x:=by
 have e:(d'.now.drop (64*(2+4*x))).take 256=(d.now.drop (64*(2+4*x))).take 256:=by
  rw[lL,lL,h _ (by omega) (by omega),h _ (by omega) (by omega),h _ (by omega) (by omega),h _ (by omega) (by omega)]
 unfold bR;rw[hd,show((x:Nat):Int).toNat=x by omega,e]
def arm(u:D)(a:Int):D:={u with bA:=a}
variable{d:D}{n:Nat}{x:Int}{cG parts:List Int}
def upD(d:D):D:={d with down:=false}
def Kept(parts cG:List Int)(j:Nat):Prop:=j<2\/∃x:Nat,((x:Int)∈parts\/(x:Int)∈cG)/\2+4*x<=j/\j<2+4*x+4
structure mZ(d:D)(n:Nat)(ep slot:Int)(cG parts:List Int):Prop where
 n2:2<=n
 ro:Rt.k8 ep (cG.length:Nat) parts
 sl:slot=0\/slot=1
 rt:sec d.now slot.toNat=Rt.vS ep cG.length (parts.map Int.toNat)
 ot:Rt.goodR (sec d.now (1-slot).toNat)->Rt.yG (sec d.now (1-slot).toNat)<ep
 pp:∀(i:Nat) (x:Int),parts[i]?=some x->∃q,0<=q/\q<=ep/\bR (upD d) n x=(⟨x,q,1,eI (Rt.partF (Rt.segF cG i)) 232⟩,0)
 lo:∀j,j<n->Kept parts cG j->d.loose.getD j false=false
def Twin(d:D)(slot ep:Int):Prop:=(sec d.now (1-slot).toNat).take 8=(sec d.now (1-slot).toNat).drop 56/\Rt.yG (sec d.now (1-slot).toNat)<ep
theorem Rx(h:(bR d n x).2=0):0<=x/\x<cq n:=by
 unfold bR at h
 by_cases hx:x<0\/(cq n:Int)<=x
 .rw[if_pos hx]at h;exact absurd h (by decide)
 .omega
theorem many_le{x:Nat}(hx:x<cq n):2+4*x+4<=n:=by unfold cq at hx;omega
theorem mZ.calm{d':D}{ep slot:Int}(R:mZ d n ep slot cG parts)(h:Calm n (Kept parts cG) d d'):mZ d' n ep slot cG parts:=by
 have n2:=R.n2;have hs:=R.sl;have e1:=(h slot.toNat (by omega) (.inl (by omega))).1;have e2:=(h (1-slot).toNat (by omega) (.inl (by omega))).1;refine⟨R.n2,R.ro,R.sl,e1.trans R.rt,by rw[e2];exact R.ot,λi x hx=>?_,λj hj hk=>(h j hj hk).2 (R.lo j hj hk)⟩;obtain⟨q,q0,q1,q2⟩:=R.pp i x hx;obtain⟨h0,h1⟩:=Rx (by rw[q2]);refine⟨q,q0,q1,?_⟩;rw[<-q2]
 have:=Nu (d:=upD d) (d':=upD d') (n:=n) rfl x.toNat (by omega) (λj a b=>(h j (by have:=many_le (show x.toNat<cq n by omega);omega) (.inr ⟨x.toNat,.inl (by rw[show((x.toNat:Nat):Int)=x by omega];exact aA hx),a,b⟩)).1)
 rwa [show((x.toNat:Nat):Int)=x by omega]at this
theorem FM{k:Nat}(h1:(k:Int)∉parts)(h2:(k:Int)∉cG)(j:Nat)(a:2+4*k<=j)(b:j<2+4*k+4):¬Kept parts cG j:=by
 rintro(h|⟨x,h,c,e⟩)
 .omega
 .obtain rfl:x=k:=by omega
  exact h.elim h1 h2
def C.on(c:C)(d:D):C:={c with d:=d}
theorem FN{c:C}(g:Good c n)(d0:D)(p:List UInt8)(fy:d0.Ok n):Calm n (Kept c.parts c.cG) d0 ((c.on d0).bW n p).1.d:=by
 by_cases hf:(c.cH n).free=0
 .unfold C.bW;have e2:Fm.du (c.on d0).m=Fm.du c.m:=rfl;rw[e2,uK g hf,if_pos (by simp)];exact .refl d0
 .obtain⟨k,hk,h0,e⟩:=uJ g hf;obtain⟨z1,z2,z3⟩:=LC h0;have this:Calm n (Kept c.parts c.cG) d0 (bo (c.on d0).d n ((k:Nat):Int) ((c.on d0).ep+1) 2 p).1:=vY fy ((k:Nat):Int) (c.ep+1) 2 p (λj a b=>FM z1 z2 j (by omega) (by omega));unfold C.bW;have e2:Fm.du (c.on d0).m=Fm.du c.m:=rfl;rw[e2,e,if_neg (by simp)]
  split
  .exact this
  .exact this
theorem new_on{c:C}(g:Good c n)(d0:D)(p:List UInt8)(fy:d0.Ok n):Calm n (Kept c.parts c.cG) d0 ((c.on d0).bP n p).1.d:=by
 have:=FN g d0 p fy;unfold C.bP;rw[if_neg (show ¬(c.on d0).broken=true by show ¬c.broken=true;rw[g.br];simp)]
 split
 .exact .refl d0
 .split
  .exact .refl d0
  .split
   .exact this
   .exact this
theorem Nw{c:C}(g:Good c n)(h:Fm.bW c.m x=true):∃k:Nat,x=k/\k<c.m.length/\(k:Int)∉c.parts/\(k:Int)∉c.cG:=by
 unfold Fm.bW Fm.DL at h;simp only[gH,decide_eq_true_eq,beq_iff_eq]at h;obtain⟨⟨h0,h1⟩,h2⟩:=h;refine⟨x.toNat,by omega,by omega,?_⟩;rw[g.md _ (by omega)]at h2;unfold dQ at h2
 split at h2
 .omega
 .split at h2
  .split at h2<;>omega
  .exact⟨by assumption,by assumption⟩
theorem Ry{c:C}(g:Good c n)(d0:D)(l:Int)(p:List UInt8)(fy:d0.Ok n):Calm n (Kept c.parts c.cG) d0 ((c.on d0).aG n l p).1.d:=by
 have:=FN g d0 p fy;unfold C.aG;rw[if_neg (show ¬(c.on d0).broken=true by show ¬c.broken=true;rw[g.br];simp)]
 split
 .exact .refl d0
 .split
  .exact .refl d0
  .split
   .rename_i hf;obtain⟨k,e,hk,z1,z2⟩:=Nw g hf;show Calm n _ d0 (bo d0 n _ _ _ _).1;exact vY fy _ _ _ _ (λj a b=>by
     have e:((c.on d0).table.getD l.toNat 0).toNat=k:=by omega
     rw[e]at a b;exact FM z1 z2 j a b)
   .split
    .exact this
    .exact this
theorem Jy{c:C}(g:Good c n)(R:mZ c.d n c.ep c.slot c.cG c.parts)(p:List UInt8):mZ (c.bP n p).1.d n c.ep c.slot c.cG c.parts:=R.calm (new_on g c.d p g.ok)
theorem Ed{c:C}(g:Good c n)(R:mZ c.d n c.ep c.slot c.cG c.parts)(l:Int)(p:List UInt8):mZ (c.aG n l p).1.d n c.ep c.slot c.cG c.parts:=R.calm (Ry g c.d l p g.ok)
theorem Jz(c:C)(n:Nat)(p:List UInt8):(c.bP n p).1.cG=c.cG/\(c.bP n p).1.parts=c.parts/\(c.bP n p).1.ep=c.ep/\(c.bP n p).1.slot=c.slot/\(c.bP n p).1.broken=c.broken:=by
 obtain⟨f1,f2,f3,f4,f5,f6⟩:=lA c n p;unfold C.bP
 split
 .exact⟨rfl,rfl,rfl,rfl,rfl⟩
 .split
  .exact⟨rfl,rfl,rfl,rfl,rfl⟩
  .split
   .exact⟨rfl,rfl,rfl,rfl,rfl⟩
   .split
    .exact⟨f2,f3,f4,f5,f6⟩
    .exact⟨f2,f3,f4,f5,f6⟩
theorem Ee(c:C)(n:Nat)(l:Int)(p:List UInt8):(c.aG n l p).1.cG=c.cG/\(c.aG n l p).1.parts=c.parts/\(c.aG n l p).1.ep=c.ep/\(c.aG n l p).1.slot=c.slot/\(c.aG n l p).1.broken=c.broken:=by
 obtain⟨f1,f2,f3,f4,f5,f6⟩:=lA c n p;unfold C.aG
 split
 .exact⟨rfl,rfl,rfl,rfl,rfl⟩
 .split
  .exact⟨rfl,rfl,rfl,rfl,rfl⟩
  .split
   .exact⟨rfl,rfl,rfl,rfl,rfl⟩
   .split
    .exact⟨rfl,rfl,rfl,rfl,rfl⟩
    .split
     .exact⟨f2,f3,f4,f5,f6⟩
     .exact⟨f2,f3,f4,f5,f6⟩
def St.pad(b:St)(k:Nat):St:={b with now:=b.now++List.replicate k none}
theorem Ny{P:List Int}(h:AM P)(h0:∀x∈P,0<=x):P.Nodup:=by
 have:=jw h
 rwa [show ids P=P from ur.2 (λx hx=>by simpa using h0 x hx)]at this
theorem yI(b:St):b.pad 0=b:=by unfold St.pad;simp
theorem Ef{α:Type}(l:List (Option α))(k i:Nat):((l++List.replicate k none)[i]?).getD none=(l[i]?).getD none:=by
 by_cases h:i<l.length
 .rw[bD h]
 .rw[dE (by omega),gw (l:=l) (by omega),Dc]
  split<;>rfl
theorem JA(b:St)(k:Nat)(l:Int):(b.pad k).at l=b.at l:=by
 unfold St.at;show(if 0<=l then((b.now++List.replicate k none)[l.toNat]?).getD none else none)=_;rw[Ef]
theorem Nz(b:St)(k:Nat):(b.pad k).fresh=b.fresh:=by
 unfold St.fresh;show(b.now++List.replicate k none).countP fH=_;rw[xU,List.countP_replicate];simp[fH]
theorem Rz(b:St)(k:Nat):(b.pad k).kept=b.kept:=rfl
theorem FP(b:St)(k:Nat):(b.pad k).free=b.free:=by
 unfold St.free;rw[Nz,Rz];rfl
theorem RA(b:St)(k:Nat):(b.pad k).slot=b.slot:=by
 unfold St.slot;show(b.now++List.replicate k none).findIdx Option.isNone=_;rw[List.findIdx_append]
 split
 .rfl
 .rename_i h;have h1:b.now.findIdx Option.isNone=b.now.length:=by
   have:=nX (xs:=b.now) (p:=Option.isNone);omega
  cases k with
  |zero=>simp[h1]
  |succ k=>simp[List.replicate_succ,Iz,h1]
theorem Eg{α:Type}(l:List (Option α))(k i:Nat)(u:Option α)(h:i<l.length):(l++List.replicate k none).set i u=l.set i u++List.replicate k none:=sZ _ _ h
theorem pad_new(b:St)(k:Nat)(p:List UInt8):∃k',(b.pad k).bP p=((b.bP p).1.pad k',(b.bP p).2):=by
 unfold St.bP;rw[RA,FP]
 by_cases h1:232<p.length
 .rw[if_pos h1,if_pos h1];exact⟨k,rfl⟩
 rw[if_neg h1,if_neg h1]
 by_cases h2:512<=b.slot\/b.free=0
 .rw[if_pos h2,if_pos h2];exact⟨k,rfl⟩
 rw[if_neg h2,if_neg h2];have hs:b.slot<=b.now.length:=nX
 by_cases h3:b.slot=b.now.length
 .cases k with
  |zero=>exact⟨0,by rw[yI,yI]⟩
  |succ k=>
   refine⟨k,?_⟩;unfold St.pad;simp only[Prod.mk.injEq,St.mk.injEq,true_and,and_true];unfold oE;rw[if_neg (by simp;omega),if_pos h3,h3,ta _ _ (aj _),eU,List.replicate_succ];simp
 .refine⟨k,?_⟩;unfold St.pad;simp only[Prod.mk.injEq,St.mk.injEq,true_and,and_true];unfold oE;rw[if_neg (by simp;omega),if_neg h3,Eg _ _ _ _ (by omega)]
theorem yJ{b:St}{l:Int}(h:(b.at l).isSome=true):0<=l/\l.toNat<b.now.length:=by
 unfold St.at at h
 by_cases h0:0<=l
 .rw[if_pos h0]at h;refine⟨h0,Nat.lt_of_not_le (λhle=>?_)⟩;rw[gw hle]at h;simp at h
 .rw[if_neg h0]at h;simp at h
theorem NA(b:St)(k:Nat)(l:Int)(p:List UInt8):(b.pad k).aG l p=((b.aG l p).1.pad k,(b.aG l p).2):=by
 unfold St.aG;rw[JA,FP]
 by_cases h1:232<p.length
 .rw[if_pos h1,if_pos h1]
 rw[if_neg h1,if_neg h1]
 by_cases h2:¬(b.at l).isSome=true
 .rw[if_pos h2,if_pos h2]
 rw[if_neg h2,if_neg h2]
 by_cases h3:fH (b.at l)=false/\b.free=0
 .rw[if_pos h3,if_pos h3]
 rw[if_neg h3,if_neg h3];unfold St.pad;simp only[Prod.mk.injEq,St.mk.injEq,true_and,and_true];exact Eg _ _ _ _ (yJ (Decidable.not_not.1 h2)).2
theorem RB(b:St)(k:Nat)(l:Int):(b.pad k).aS l=((b.aS l).1.pad k,(b.aS l).2):=by
 unfold St.aS;rw[JA]
 by_cases h2:(b.at l).isSome=true
 .rw[if_pos h2,if_pos h2];unfold St.pad;simp only[Prod.mk.injEq,St.mk.injEq,true_and,and_true];exact Eg _ _ _ _ (yJ h2).2
 .rw[if_neg h2,if_neg h2]
variable{c:C}{n:Nat}
theorem NC(l:List FL)(k:Nat):uN l (k+1)=uN l k++if((l[k]?).getD none).isSome then [(k:Int)]else []:=rfl
theorem pad_pgs(l:List FL)(k:Nat):uN (l++List.replicate k none) (l.length+k)=uN l l.length:=by
 have h1:∀j,j<=l.length->uN (l++List.replicate k none) j=uN l j:=by
  intro j
  induction j with
  |zero=>intro _;rfl
  |succ j ih=>
   intro hj;unfold uN;rw[Ef,ih (by omega)]
 have h2:∀j,uN (l++List.replicate k none) (l.length+j)=uN (l++List.replicate k none) l.length:=by
  intro j
  induction j with
  |zero=>rfl
  |succ j ih=>
   rw[show l.length+(j+1)=(l.length+j)+1 by omega,NC,Ef,gw (by omega),ih];simp
 rw[h2,h1 _ (aj _)]
theorem FQ(g:Good c n):∀k,k<=c.cG.length->Ec (c.cH n).now (Eb (c.cH n).cG) k=(c.cG.take k).countP (λx=>decide (0<=x) && decide (x∉c.table))
 |0,_=>rfl
 |k+1,h=>by
  have ih:=FQ g k (by omega);obtain⟨x,hx⟩:∃x,c.cG[k]?=some x:=⟨_,aT (by omega)⟩;have hxk:c.cG[k]=x:=(aX.1 hx).2;unfold Ec;rw[ih,jO (by omega),xU,hxk,Is]
  congr 1
  have e1:((Eb (c.cH n).cG)[k]?).getD none=if x<0 then none else some (false,(bR c.d n x).1.s):=by
   unfold Eb C.cH;simp only[kY,hx,mK,n8]
   split<;>rfl
  have e2:((c.cH n).now[k]?).getD none=((c.table[k]?).map (c.eR n)).getD none:=by
   unfold C.cH;rw[kY]
  have key:Rv (c.cH n).now (Eb (c.cH n).cG) k=(decide (0<=x) && decide (x∉c.table)):=by
   unfold Rv;rw[e1,e2]
   by_cases h0:x<0
   .rw[if_pos h0];simp;omega
   .rw[if_neg h0];simp only[Option.isSome_some,Ik];rw[show decide (0<=x)=true by simpa using (show 0<=x by omega),Ik]
    by_cases ht:x∈c.table
    .obtain⟨j,hj⟩:=nY ht;have:=g.sm j x hj (by omega) (aA hx);have hjk:=g.oj j k x this hx (by omega);subst hjk;rw[hj];simp[C.eR,h0,fH,aA hx,ht]
    .simp only[ht,not_false_eq_true,decide_true]
     cases hk:c.table[k]? with
     |none=>simp
     |some y=>
      by_cases hy:y<0
      .simp[C.eR,hy]
      .by_cases hyo:y∈c.cG
       .have:=g.sm k y hk (by omega) hyo;rw[hx]at this;injection this with this
        subst this;exact absurd (aA hk) ht
       .simp[C.eR,hy,fH,hyo]
  rw[key]
theorem counts(g:Good c n):(Fm.oW c.m 0).length=(c.cH n).free/\(Fm.oW c.m 2).length=(c.cH n).fresh/\(Fm.oW c.m 1).length+(Fm.oW c.m 3).length=(c.cH n).kept/\(Fm.oW c.m 3).length=(c.cH n).leaving:=by
 have hp:c.parts.Nodup:=Ny g.pj (λx hx=>(g.pi x hx).1);refine⟨(r7 g).1,?_,?_,?_⟩
 .have hFl:((ids c.table).filter (λx=>decide (x∉c.cG))).length=(c.cH n).fresh:=by
   unfold St.fresh C.cH ids;rw[mV,<-xV,CY];apply rM;intro x hx;simp only[Function.comp,C.eR]
   by_cases h:x<0
   .rw[if_pos h];simp[fH];omega
   .rw[if_neg h];simp[fH];omega
  rw[<-hFl];refine tF (kP _ _) ((jw g.tj).sublist Da) (λx=>?_);rw[gl,dS,kH]
  constructor
  .rintro⟨i,rfl,hi,h0⟩;rw[g.md i hi]at h0;unfold dQ at h0
   split at h0
   .omega
   .split at h0
    .split at h0<;>omega
    .split at h0
     .exact⟨⟨by assumption,by omega⟩,by simpa⟩
     .omega
  .rintro⟨⟨ht,h0⟩,ho⟩;have ho:x∉c.cG:=by simpa using ho
   have:=g.ti x ht;refine⟨x.toNat,by omega,by omega,?_⟩;rw[g.md _ (by omega),show((x.toNat:Nat):Int)=x by omega];unfold dQ;rw[if_neg (λh=>(g.dt x h).1 ht),if_neg ho,if_pos ht]
 .have hKl:(c.parts++ids c.cG).length=(c.cH n).kept:=by
   unfold St.kept C.cH ids;rw[aQ,g.pl,<-xV,CY,fM];have:c.cG.countP (λx=>decide (0<=x))=c.cG.countP (Option.isSome ∘ λx=>if x<0 then none else some (bR c.d n x).1.s):=by
    apply rM;intro x hx;simp only[Function.comp]
    by_cases h:x<0
    .rw[if_pos h];simp;omega
    .rw[if_neg h];simp;omega
   omega
  rw[<-hKl,<-aQ];refine tF ?_ ?_ (λx=>?_)
  .rw[gz];refine⟨kP _ _,kP _ _,λa ha b hb e=>?_⟩;subst e;obtain⟨i,rfl,hi,h0⟩:=gl.1 ha;obtain⟨j,e,hj,h1⟩:=gl.1 hb;obtain rfl:i=j:=by omega
   omega
  .rw[gz];refine⟨hp,jw g.oj,λa ha b hb e=>?_⟩;subst e;exact(g.dt a ha).2 (kH.1 hb).1
  .rw[az,az,gl,gl,kH]
   constructor
   .rintro(⟨i,rfl,hi,h0⟩|⟨i,rfl,hi,h0⟩)
    .rw[g.md i hi]at h0;unfold dQ at h0
     by_cases h1:(i:Int)∈c.parts
     .exact .inl h1
     .rw[if_neg h1]at h0
      by_cases h2:(i:Int)∈c.cG
      .exact .inr ⟨h2,by omega⟩
      .rw[if_neg h2]at h0
       split at h0<;>omega
    .rw[g.md i hi]at h0;unfold dQ at h0
     by_cases h1:(i:Int)∈c.parts
     .exact .inl h1
     .rw[if_neg h1]at h0
      by_cases h2:(i:Int)∈c.cG
      .exact .inr ⟨h2,by omega⟩
      .rw[if_neg h2]at h0
       split at h0<;>omega
   .rintro(h1|⟨h1,h0⟩)
    .have:=g.pi x h1;refine .inl ⟨x.toNat,by omega,by omega,?_⟩;rw[g.md _ (by omega),show((x.toNat:Nat):Int)=x by omega];unfold dQ;rw[if_pos h1]
    .have:=g.oi x h1
     by_cases ht:x∈c.table
     .refine .inl ⟨x.toNat,by omega,by omega,?_⟩;rw[g.md _ (by omega),show((x.toNat:Nat):Int)=x by omega];unfold dQ;rw[if_neg (λh=>(g.dt x h).2 h1),if_pos h1,if_pos ht]
     .refine .inr ⟨x.toNat,by omega,by omega,?_⟩;rw[g.md _ (by omega),show((x.toNat:Nat):Int)=x by omega];unfold dQ;rw[if_neg (λh=>(g.dt x h).2 h1),if_pos h1,if_neg ht]
 .have hl:(c.cH n).leaving=((ids c.cG).filter (λx=>decide (x∉c.table))).length:=by
   have hol:(c.cH n).cG.length=c.cG.length:=by unfold C.cH;simp
   unfold St.leaving;rw[hol,FQ g _ (aj _),gY];unfold ids;rw[mV,<-xV];apply rM;intro x _;simp[and_comm]
  rw[hl];refine tF (kP _ _) ((jw g.oj).sublist Da) (λx=>?_);rw[gl,dS,kH]
  constructor
  .rintro⟨i,rfl,hi,h0⟩;rw[g.md i hi]at h0;unfold dQ at h0
   split at h0
   .omega
   .split at h0
    .split at h0
     .omega
     .exact⟨⟨by assumption,by omega⟩,by simpa⟩
    .split at h0<;>omega
  .rintro⟨⟨ht,h0⟩,ho⟩;have ho:x∉c.table:=by simpa using ho
   have:=g.oi x ht;refine⟨x.toNat,by omega,by omega,?_⟩;rw[g.md _ (by omega),show((x.toNat:Nat):Int)=x by omega];unfold dQ;rw[if_neg (λh=>(g.dt x h).2 ht),if_pos ht,if_neg ho]
attribute [local go_sem ↓] Go.wp_at_zero Go.wp_at_succ bq
structure CW(x:X)(n:Nat)(w0 w:World)(x':X)(c':C):Prop where
 a:At w x' n c'
 o:ag x.fp w0 w
 f:x'.fp=x.fp
end Sh
namespace Sh
open Go.RowKit Pk Dk Pg
structure Zc(c:C)(n:Nat)(a:St)(K:Nat):Prop where
 g:Good c n
 R:mZ c.d n c.ep c.slot c.cG c.parts
 e:∃k,a=(c.cH n).pad k
 bc:c.d.calls<=40*K
 be:c.ep<=K
section
variable{c:C}{n:Nat}{a:St}{K:Nat}
theorem Zc.more(z:Zc c n a K){K':Nat}(h:K<=K'):Zc c n a K':=⟨z.g,z.R,z.e,by have:=z.bc;omega,by have:=z.be;omega⟩
theorem Zc.read(z:Zc c n a K)(l:Int):c.aR n l=a.aR l:=by
 obtain⟨k,e⟩:=z.e;rw[uL z.g,e];unfold St.aR;rw[JA]
theorem Zc.ep0(z:Zc c n a K)(hK:K<=1000000000000):0<=c.ep/\c.ep<=1099511627776:=by have:=z.g.ep;omega
theorem Zc.calls(z:Zc c n a K)(hK:K<=1000000000000):c.d.calls<=3999999999999999900/\c.d.bA<=9223372036854775807:=by
 have:=z.bc;have:=z.g.arm
 constructor<;>omega
theorem Zc.tab(z:Zc c n a K)(k:Nat):c.table.getD k 0<=1024:=by
 have hm:c.m.length<=1024:=by rw[z.g.ml];unfold fC;omega
 by_cases hk:k<c.table.length
 .simp only[List.getD,aT hk,n8];have:=z.g.ti _ (j9 hk);omega
 .simp only[List.getD];rw[gw (by omega)];show(0:Int)<=1024;omega
theorem Zc.new(z:Zc c n a K)(p:List UInt8):Zc (c.bP n p).1 n (a.bP p).1 (K+1)/\(c.bP n p).2=(a.bP p).2:=by
 obtain⟨k,ek⟩:=z.e;obtain⟨k',ep⟩:=pad_new (c.cH n) k p;rw[<-ek]at ep;obtain⟨g1,g2,g3,g4,g5,g6⟩:=Rq z.g p;have pK:=Jz c n p;exact⟨⟨g1,by rw[pK.1,pK.2.1,pK.2.2.1,pK.2.2.2.1];exact Jy z.g z.R _,⟨k',by rw[ep,g2]⟩,by have:=z.bc;omega,by rw[pK.2.2.1];have:=z.be;omega⟩,by rw[ep];exact g3⟩
theorem Zc.write(z:Zc c n a K)(l:Int)(p:List UInt8):Zc (c.aG n l p).1 n (a.aG l p).1 (K+1)/\(c.aG n l p).2=(a.aG l p).2:=by
 obtain⟨k,ek⟩:=z.e;have ep:=NA (c.cH n) k l p;rw[<-ek]at ep;obtain⟨g1,g2,g3,g4⟩:=Jt z.g l p;have pK:=Ee c n l p;exact⟨⟨g1,by rw[pK.1,pK.2.1,pK.2.2.1,pK.2.2.2.1];exact Ed z.g z.R _ _,⟨k,by rw[ep,g2]⟩,by have:=z.bc;omega,by rw[pK.2.2.1];have:=z.be;omega⟩,by rw[ep];exact g3⟩
theorem Zc.drop(z:Zc c n a K)(l:Int):Zc (c.aS l).1 n (a.aS l).1 K/\(c.aS l).2=(a.aS l).2:=by
 obtain⟨k,ek⟩:=z.e;have ep:=RB (c.cH n) k l;rw[<-ek]at ep;obtain⟨g1,g2,g3,g4,g5,g6⟩:=Np z.g l;have pK:(c.aS l).1.ep=c.ep/\(c.aS l).1.slot=c.slot:=by
  unfold C.aS
  split<;>exact⟨rfl,rfl⟩
 exact⟨⟨g1,by rw[g4,g5,g6,pK.1,pK.2];exact z.R,⟨k,by rw[ep,g2]⟩,by rw[g4];exact z.bc,by rw[pK.1];exact z.be⟩,by rw[ep];exact g3⟩
theorem Zc.cG(z:Zc c n a K):c.cG.length<=512:=by have:=z.R.ro.2.2.2.1;omega
end
section
variable{w:World}{x:X}{c:C}{n:Nat}{a:St}{K:Nat}
theorem JB(h:At w x n c)(z:Zc c n a K)(hK:K<=1000000000000)(l:Int)(s:ByteArray)(hs:s.size<=9223372036854775807):
  Calls prog 147 #[sp x.b,.int .i64 l,.string s] w λe w'=>e=.returned (.int .i64 (a.aG l s.data.toList).2)/\∃c',At w' x n c'/\Zc c' n (a.aG l s.data.toList).1 (K+1)/\ag x.fp w w':=by
 have zw:=z.write l s.data.toList;rw[<-zw.2];exact(Jr h l s hs (z.ep0 hK) (by have:=(z.calls hK).1;omega) (z.calls hK).2 z.tab).mono λe w' ⟨r,A,o⟩=>⟨r,_,A,zw.1,o⟩
theorem ND(h:At w x n c)(z:Zc c n a K)(l:Int):
  Calls prog 228 #[sp x.b,.int .i64 l] w λe w'=>e=.returned (.tuple #[.string ⟨(a.aR l).1.toArray⟩,.int .i64 (a.aR l).2])/\Below w.heap.size w w':=by
 rw[<-z.read l];exact Sh.ni h l
end
structure QS where
 a:St
 l:List Fr
 hand:Nat
def QS.ps(q:QS)(c:C):PS:=⟨c,q.l,q.hand⟩
def QS.turn(s:QS):QS:={s with hand:=(s.hand+1) % s.l.length}
def QS.jH:Nat->QS->QS×Int
 |0,s=>(s,-1)
 |m+1,s=>
  if 0<(j6 s.l s.hand).held then QS.jH m s.turn
  else if(j6 s.l s.hand).used=true then QS.jH m {s.turn with l:=s.l.set s.hand {j6 s.l s.hand with used:=false}}
  else(s.turn,(s.hand:Int))
def QS.aL(s:QS):QS×Int:=
 if 0<=FE (λf=>decide (f.aw<0)) s.l then(s,FE (λf=>decide (f.aw<0)) s.l)else s.jH (2*s.l.length+1)
def QS.cA(s:QS)(k:Nat):QS×Int:=
 if(j6 s.l k).cQ=true then
  if(s.a.aG (j6 s.l k).aw (j6 s.l k).gh.data.toList).2=0 then({s with a:=(s.a.aG (j6 s.l k).aw (j6 s.l k).gh.data.toList).1,l:=s.l.set k {j6 s.l k with cQ:=false}},0)
  else({s with a:=(s.a.aG (j6 s.l k).aw (j6 s.l k).gh.data.toList).1},(s.a.aG (j6 s.l k).aw (j6 s.l k).gh.data.toList).2)
 else(s,0)
def QS.bg(s:QS)(p:Int):QS×ByteArray×Int:=
 if 0<=findF s.l p then
  ({s with l:=s.l.set (findF s.l p).toNat {j6 s.l (findF s.l p).toNat with held:=(j6 s.l (findF s.l p).toNat).held+1,used:=true}},(j6 s.l (findF s.l p).toNat).gh,0)
 else if(s.a.aR p).2≠0 then(s,⟨#[]⟩,(s.a.aR p).2)
 else if s.aL.2<0 then(s.aL.1,⟨#[]⟩,12)
 else if(s.aL.1.cA s.aL.2.toNat).2≠0 then((s.aL.1.cA s.aL.2.toNat).1,⟨#[]⟩,(s.aL.1.cA s.aL.2.toNat).2)
 else({(s.aL.1.cA s.aL.2.toNat).1 with l:=(s.aL.1.cA s.aL.2.toNat).1.l.set s.aL.2.toNat ⟨p,⟨(s.a.aR p).1.toArray⟩,1,false,true⟩},⟨(s.a.aR p).1.toArray⟩,0)
def QS.ib(s:QS)(p:Int):Option (Nat×Fr):=
 if findF s.l p<0 then none else match s.l[(findF s.l p).toNat]? with
  |none=>none
  |some f=>if f.held=0 then none else some ((findF s.l p).toNat,f)
def QS.iq(s:QS)(p:Int):QS×Int:=match s.ib p with
 |none=>(s,16)
 |some (k,f)=>({s with l:=s.l.set k {f with held:=f.held-1}},0)
def rD(s:ByteArray):ByteArray:=⟨(eI s.data.toList 232).toArray⟩
def QS.fD(s:QS)(p:Int)(b:ByteArray):QS×Int:=
 if 232<b.size then(s,4)else match s.ib p with
 |none=>(s,16)
 |some (k,f)=>({s with l:=s.l.set k {f with gh:=rD b,cQ:=true,used:=true}},0)
def QS.dF(s:QS)(p:Int):QS×ByteArray×Int:=
 if(s.bg p).2.2≠0 then((s.bg p).1,⟨#[]⟩,(s.bg p).2.2)else(((s.bg p).1.iq p).1,(s.bg p).2.1,0)
def QS.dv(s:QS)(p:Int)(b:ByteArray):QS×Int:=
 if 232<b.size then(s,4)else if(s.bg p).2.2≠0 then((s.bg p).1,(s.bg p).2.2)else((((s.bg p).1.fD p b).1.iq p).1,0)
def QS.aS(s:QS)(p:Int):QS×Int:=
 if 0<=findF s.l p/\0<(j6 s.l (findF s.l p).toNat).held then(s,16)
 else if(s.a.aS p).2≠0 then({s with a:=(s.a.aS p).1},(s.a.aS p).2)
 else if 0<=findF s.l p then({s with a:=(s.a.aS p).1,l:=s.l.set (findF s.l p).toNat Fr.nil},0)
 else({s with a:=(s.a.aS p).1},0)
def QS.bP(s:QS)(p:List UInt8):QS×Int×Int:=({s with a:=(s.a.bP p).1},(s.a.bP p).2)
theorem Eh(c:C):∀(m:Nat) (q:QS),(q.ps c).jH m=((q.jH m).1.ps c,(q.jH m).2)
 |0,_=>rfl
 |m+1,q=>by
  unfold PS.jH QS.jH;show(if 0<(j6 q.l q.hand).held then _ else _)=_
  split
  .exact Eh c m q.turn
  .show(if(j6 q.l q.hand).used=true then _ else _)=_
   split
   .exact Eh c m {q.turn with l:=q.l.set q.hand {j6 q.l q.hand with used:=false}}
   .rfl
theorem uO(c:C)(q:QS):(q.ps c).aL=(q.aL.1.ps c,q.aL.2):=by
 unfold PS.aL QS.aL;show(if 0<=FE (λf=>decide (f.aw<0)) q.l then _ else _)=_
 split
 .rfl
 .exact Eh c _ q
theorem Ei(c:C)(q:QS)(p:Int):(q.ps c).ib p=q.ib p:=rfl
theorem let_ps(c:C)(q:QS)(p:Int):(q.ps c).iq p=((q.iq p).1.ps c,(q.iq p).2):=by
 unfold PS.iq QS.iq;rw[Ei]
 cases q.ib p with
 |none=>rfl
 |some kf=>rfl
theorem JC:∀(m:Nat) (q:QS),(q.jH m).1.a=q.a/\(q.jH m).1.l.length=q.l.length
 |0,_=>⟨rfl,rfl⟩
 |m+1,q=>by
  unfold QS.jH
  split
  .exact JC m q.turn
  .split
   .have h:=JC m {q.turn with l:=q.l.set q.hand {j6 q.l q.hand with used:=false}};exact⟨h.1,by rw[h.2,bU]⟩
   .exact⟨rfl,rfl⟩
theorem iY(q:QS):q.aL.1.a=q.a/\q.aL.1.l.length=q.l.length:=by
 unfold QS.aL
 split
 .exact⟨rfl,rfl⟩
 .exact JC _ q
attribute [local go_sem ↓] Go.wp_at_zero Go.wp_at_succ
variable{w:World}{y:Y}{n K K':Nat}{q:QS}{l:List Fr}{f:Fr}
def ZP(w:World)(y:Y)(n:Nat)(q:QS)(K:Nat):Prop:= ∃c,iJ w y n (q.ps c)/\Zc c n q.a K
theorem ZP.below{w':World}(h:ZP w y n q K)(hb:Below w.heap.size w w'):ZP w' y n q K:=by
 obtain⟨c,A,z⟩:=h;exact⟨c,A.below hb,z⟩
theorem ZP.more(h:ZP w y n q K)(hk:K<=K'):ZP w y n q K':=by
 obtain⟨c,A,z⟩:=h;exact⟨c,A,z.more hk⟩
theorem oF{k:Nat}(h:l[k]?=some f):j6 l k=f:=by unfold j6;rw[h];rfl
theorem JD{c:C}(h:iJ w y n (q.ps c))(z:Zc c n q.a K)(hK:K<=1000000000000)(k:Nat)(hf:q.l[k]?=some f)(hd:f.cQ=true)(hs:f.gh.size<=1000):
  Calls prog 99 #[pp y.pb,.int .i64 (k:Nat)] w λe w'=>e=.returned (.int .i64 (q.cA k).2)/\ZP w' y n (q.cA k).1 (K+1)/\ag y.fp w w':=by
 have hk:k<q.l.length:=(aX.1 hf).1;have p1:w.cell? ⟨y.pb,1,none⟩=some (.slice (some ⟨y.fg,0,none⟩) q.l.length y.cp):=h.p1;have l2:q.l.length<=32:=h.l2;have Ly:(k:Int)<(q.l.length:Int):=by omega
 obtain⟨c0,c1,c2,c3,c4⟩:=h.DT k f hf;rw[hd]at c3;have KW:=xh (λ(W:World) (A:iJ W y n (q.ps c))=>JB A.hs z hK f.aw f.gh (by omega));have HP:=xh (λ(w1 w2:World) (c':C) (A1:iJ w1 y n (q.ps c)) (A:At w2 y.x n c') (o:ag y.x.fp w1 w2)=>(show iJ w2 y n (q.ps c')/\ag y.fp w1 w2 from A1.same A o));have AD:=xh h.drew;have OD:=xh ((ag.refl y.fp w).drew);have HF:=xh hf;obtain⟨R,hR⟩:∃R,q.a.aG f.aw f.gh.data.toList=R:=⟨_,rfl⟩
 have hB:q.cA k=if R.2=0 then({q with a:=R.1,l:=q.l.set k {f with cQ:=false}},0)else({q with a:=R.1},R.2):=by
  unfold QS.cA;rw[oF hf,if_pos hd,hR]
 rw[hB];rw[hR]at KW;obtain⟨Ra,Re⟩:=R;dsimp only at KW ⊢;obtain⟨Q2,hQ⟩:∃Q2,(if Re=0 then(({q with a:=Ra,l:=q.l.set k {f with cQ:=false}}:QS),(0:Int))else({q with a:=Ra},Re))=Q2:=⟨_,rfl⟩;rw[hQ];have HQ:=xh hQ;clear hQ;have S0:=xh (show(λW'=>W'.cell? ⟨y.pb,0,none⟩=some (.pointer (some ⟨y.x.b,0,none⟩))/\W'.cell? ⟨y.fg,k*5,none⟩=some (.int .i64 f.aw)/\W'.cell? ⟨y.fg,k*5+1,none⟩=some (.string f.gh)) w.drew from⟨AD.o.p0,(AD.o.DT k f hf).1,(AD.o.DT k f hf).2.1⟩)
 clear h z hf hd hB hR c0 c1 c2 c4;unfold pp sp at *;go_enter func99,ntmps99;go_wp2_with fail;refine wp_region_held_drew (S:=λW'=>W'.cell? ⟨y.pb,0,none⟩=some (.pointer (some ⟨y.x.b,0,none⟩))/\W'.cell? ⟨y.fg,k*5,none⟩=some (.int .i64 f.aw)/\W'.cell? ⟨y.fg,k*5+1,none⟩=some (.string f.gh)) (by kernel_rfl) (S0.o) (λaq=>?_);refine cV [(0,18),(1,19),(2,20),(3,21),(4,22),(5,23),(6,24),(7,25),(8,26),(9,27),(10,28),(11,29)] ?_
 iterate 12 refine bj ?_
 refine dn 12 30 λK hK=>?_;go_simp
 go_at_call 147
 refine(KW.o _ AD.o).mono ?_;rintro e w5 ⟨rfl,c5,a5,z5,o5⟩;have P5:=HP.o w.drew w5 c5 AD.o a5 o5;have A5:=xh P5.1;have O5:=xh (OD.o.trans P5.2);have Z5:=xh z5;clear P5 a5 o5 z5;obtain⟨d0,d1,d2,d3,d4⟩:=A5.o.DT k f HF.o;have q0:=A5.o.p0;go_simp;refine aW hK (⟨q0,d0,d1⟩) (λaq=>?_);refine cV [(13,6)] ?_
 iterate 1 refine bj ?_
 refine wpAnyH_done (by kernel_rfl) ?_ _;have hfs:=HF.o
 by_cases he:Re=0
 .subst he;have HR:=xh (HQ.o.symm.trans (if_pos rfl));clear HQ;obtain⟨z0,B0,qq⟩:=A5.o.fD k 3 (by omega) {f with cQ:=false} (.bool false) HF.o rfl;have AZ:=xh B0;have OZ:=xh (O5.o.trans qq);clear B0 qq;go_wp2_with fail;go_ret;exact⟨by rw[HR.o];rfl,by rw[HR.o];exact⟨c5,AZ.o,Z5.o⟩,OZ.o⟩
 .have HR:=xh (HQ.o.symm.trans (if_neg he));clear HQ;have hq:(Re==0)=false:=by rw[beq_eq_false_iff_ne];exact he
  have ki:(Re != 0)=true:=by rw[bne_iff_ne];exact he
  go_wp2_with fail;go_ret;exact⟨by rw[HR.o];rfl,by rw[HR.o];exact⟨c5,A5.o,Z5.o⟩,O5.o⟩
theorem RC(h:ZP w y n q K)(hK:K<=1000000000000)(k:Nat)(hk:k<q.l.length)(hs:∀f∈q.l,f.gh.size<=1000):
  Calls prog 99 #[pp y.pb,.int .i64 (k:Nat)] w λe w'=>e=.returned (.int .i64 (q.cA k).2)/\ZP w' y n (q.cA k).1 (K+1)/\ag y.fp w w':=by
 obtain⟨c,A,z⟩:=h;have hf:=mO hk
 by_cases hd:(j6 q.l k).cQ=true
 .exact JD A z hK k hf hd (hs _ (aA hf))
 .unfold QS.cA;rw[if_neg hd];exact(Jm A k hf (by simpa using hd)).mono λe w' ⟨r,b⟩=>⟨r,⟨c,A.below b,z.more (by omega)⟩,.ai b⟩
theorem hold_go(h:ZP w y n q K)(hK:K<=1000000000000)(p:Int)(hk:findF q.l p= -1)(hr:(q.a.aR p).2=0)(k:Nat)(hv:q.aL.2=(k:Nat))(nS:k<q.l.length)(hs:∀f∈q.aL.1.l,f.gh.size<=1000):
  Calls prog 213 #[pp y.pb,.int .i64 p] w λe w'=>e=.returned (.tuple #[.string (q.bg p).2.1,.int .i64 (q.bg p).2.2])/\ZP w' y n (q.bg p).1 (K+1)/\ag y.fp w w':=by
 obtain⟨c,A,z⟩:=h;have KF:=xh (iB A p);rw[show(q.ps c).l=q.l from rfl,hk]at KF;have HB:=xh (λw' (hb:Below w.heap.size w w')=>A.below hb);have KR:=xh (λw' (hb:Below w.heap.size w w')=>ND (A.below hb).hs z p);have KV:=xh (λw' (hb:Below w.heap.size w w')=>yA (A.below hb));rw[uO]at KV;rw[hr]at KR;rw[hv]at KV;have hvl:=(iY q).2;have Az:=(iY q).1
 have hH:q.bg p=if(q.aL.1.cA k).2≠0 then((q.aL.1.cA k).1,⟨#[]⟩,(q.aL.1.cA k).2)else({(q.aL.1.cA k).1 with l:=(q.aL.1.cA k).1.l.set k ⟨p,⟨(q.a.aR p).1.toArray⟩,1,false,true⟩},⟨(q.a.aR p).1.toArray⟩,0):=by
  unfold QS.bg;rw[hk,if_neg (by omega),if_neg (by rw[hr];simp),hv,if_neg (by omega),show((k:Nat):Int).toNat=k by omega]
 rw[hH];clear hH;generalize (q.a.aR p).1=R at *;generalize q.aL.1=V at *;have KB:=xh (λw' (h:ZP w' y n V K)=>RC h hK k (by omega) hs);have xd:k<(V.cA k).1.l.length:=by
  unfold QS.cA
  split
  .split
   .show k<(V.l.set k _).length;rw[bU];omega
   .show k<V.l.length;omega
  .show k<V.l.length;omega
 generalize V.cA k=VB at *;obtain⟨B,be⟩:=VB;dsimp only at KB xd ⊢;obtain⟨Q2,hQ⟩:∃Q2,(if be≠0 then(B,(⟨#[]⟩:ByteArray),be)else(({B with l:=B.l.set k ⟨p,⟨R.toArray⟩,1,false,true⟩}:QS),⟨R.toArray⟩,0))=Q2:=⟨_,rfl⟩;rw[hQ];have HQ:=xh hQ;clear hQ;have HZ:=xh (show ∀W,iJ W y n (V.ps c)->ZP W y n V K from λW h=>⟨c,h,by rw[Az];exact z⟩);have hk0:¬(k:Int)<0:=by omega
 clear A z hk hv hvl Az hs hr;unfold pp sp at *;go_enter func213,ntmps213;go_wp2_with fail;refine KF.o.mono ?_;rintro e w1 ⟨rfl,aJ⟩;have O1:=xh aJ;have p0:=(HB.o w1 aJ).p0;clear aJ;go_wp2_with fail;refine(KR.o w1 O1.o).mono ?_;rintro e w2 ⟨rfl,bS⟩;have O2:=xh (au O1.o bS);clear bS p0;go_wp2_with fail;refine(KV.o w2 O2.o).mono ?_;rintro e w3 ⟨rfl,A3,o3⟩;have Z3:=xh (HZ.o w3 A3);have o3:=xh ((ag.ai (S:=y.fp) O2.o).trans o3)
 clear A3;go_wp2_with fail;refine(KB.o w3 Z3.o).mono ?_;rintro e w4 ⟨rfl,z4,o4⟩;obtain⟨c4,A4,Z4⟩:=z4;have A4:=xh A4;have Z4:=xh Z4;have o4:=xh (o3.o.trans o4)
 by_cases he:be=0
 .subst he;have HR:=xh (HQ.o.symm.trans (if_neg (by simp)));clear HQ;have p1:w4.cell? ⟨y.pb,1,none⟩=some (.slice (some ⟨y.fg,0,none⟩) B.l.length y.cp):=A4.o.p1;have l2:B.l.length<=32:=A4.o.l2;have Ly:(k:Int)<(B.l.length:Int):=by omega
  obtain⟨f,HF⟩:∃f,Hid (B.l[k]?=some f):=⟨_,xh (aT xd)⟩;obtain⟨c0,c1,c2,c3,c4'⟩:=A4.o.DT k f HF.o;obtain⟨z0,B0,q0⟩:=A4.o.fD k 0 (by omega) {f with aw:=p} (.int .i64 p) HF.o rfl;rw[kE]at z0 B0 q0;have g0:(B.l.set k {f with aw:=p})[k]?=some {f with aw:=p}:=by rw[dM xd]
  obtain⟨z1,B1,q1⟩:=B0.fD k 1 (by omega) {f with aw:=p,gh:=⟨R.toArray⟩} (.string ⟨R.toArray⟩) g0 rfl;simp only[jL]at B1;have g1:(B.l.set k {f with aw:=p,gh:=⟨R.toArray⟩})[k]?=some {f with aw:=p,gh:=⟨R.toArray⟩}:=by rw[dM xd]
  obtain⟨z2,B2,q2⟩:=B1.fD k 2 (by omega) {f with aw:=p,gh:=⟨R.toArray⟩,held:=1} (.int .i64 1) g1 rfl;simp only[jL]at B2;have g2:(B.l.set k {f with aw:=p,gh:=⟨R.toArray⟩,held:=1})[k]?=some {f with aw:=p,gh:=⟨R.toArray⟩,held:=1}:=by rw[dM xd]
  obtain⟨z3,B3,q3⟩:=B2.fD k 3 (by omega) {f with aw:=p,gh:=⟨R.toArray⟩,held:=1,cQ:=false} (.bool false) g2 rfl;simp only[jL]at B3;have g3:(B.l.set k {f with aw:=p,gh:=⟨R.toArray⟩,held:=1,cQ:=false})[k]?=some {f with aw:=p,gh:=⟨R.toArray⟩,held:=1,cQ:=false}:=by rw[dM xd]
  obtain⟨z4,B4,q4⟩:=B3.fD k 4 (by omega) ⟨p,⟨R.toArray⟩,1,false,true⟩ (.bool true) g3 rfl;simp only[jL]at B4;have AZ:=xh B4;have OZ:=xh (o4.o.trans ((((q0.trans q1).trans q2).trans q3).trans q4));clear B0 B1 B2 B3 B4 q0 q1 q2 q3 q4 g0 g1 g2 g3 xd;go_wp2_with fail;go_ret2;exact⟨by rw[HR.o];rfl,by rw[HR.o];exact⟨c4,AZ.o,Z4.o⟩,OZ.o⟩
 .have HR:=xh (HQ.o.symm.trans (if_pos he));clear HQ;have hq:(be==0)=false:=by rw[beq_eq_false_iff_ne];exact he
  have ki:(be != 0)=true:=by rw[bne_iff_ne];exact he
  clear xd;go_wp2_with fail;go_ret2;exact⟨by rw[HR.o];rfl,by rw[HR.o];exact⟨c4,A4.o,Z4.o⟩,o4.o⟩
def Fb(l:List Fr)(K:Nat):Prop:= ∀f∈l,0<=f.held/\f.held<=K/\f.gh.size<=1000
theorem Fb.set(h:Fb l K)(k:Nat)(hf:0<=f.held/\f.held<=K/\f.gh.size<=1000):Fb (l.set k f) K:=by
 intro g hg
 rcases xo hg with hg|rfl
 .exact h g hg
 .exact hf
theorem Fb.more(h:Fb l K)(hk:K<=K'):Fb l K':=λf hf=>by have:=h f hf;omega
theorem Fb.nil :0<=Fr.nil.held/\Fr.nil.held<=(K:Nat)/\Fr.nil.gh.size<=1000:=⟨jK _,by show(0:Int)<=_;omega,by decide⟩
theorem yK :∀(m:Nat) (s:QS),s.hand<s.l.length->Fb s.l K->Fb (s.jH m).1.l K/\(s.jH m).1.hand<(s.jH m).1.l.length/\((s.jH m).2= -1\/∃k:Nat,(s.jH m).2=k/\k<s.l.length)
 |0,_,hl,hc=>⟨hc,hl,.inl rfl⟩
 |m+1,s,hl,hc=>by
  unfold QS.jH;have hf:=mO hl;have hm:=hc _ (aA hf);have ht:(s.hand+1) % s.l.length<s.l.length:=qD _ (by omega)
  split
  .exact yK m s.turn ht hc
  .split
   .have:=yK m {s.turn with l:=s.l.set s.hand {j6 s.l s.hand with used:=false}} (by rw[bU];exact ht) (hc.set _ hm);rw[bU]at this;exact this
   .exact⟨hc,ht,.inr ⟨s.hand,rfl,hl⟩⟩
theorem r8(s:QS)(hl:s.hand<s.l.length)(hc:Fb s.l K):Fb s.aL.1.l K/\s.aL.1.hand<s.aL.1.l.length/\(s.aL.2= -1\/∃k:Nat,s.aL.2=k/\k<s.l.length):=by
 unfold QS.aL
 split
 .refine⟨hc,hl,?_⟩
  rcases DU (λf=>decide (f.aw<0)) s.l with e|⟨k,f,e,hf,_⟩
  .exact .inl e
  .exact .inr ⟨k,e,(aX.1 hf).1⟩
 .exact yK _ s hl hc
theorem qN(h:ZP w y n q K)(hb:Fb q.l K)(hK:K<=1000000000000)(p:Int):
  Calls prog 213 #[pp y.pb,.int .i64 p] w λe w'=>e=.returned (.tuple #[.string (q.bg p).2.1,.int .i64 (q.bg p).2.2])/\ZP w' y n (q.bg p).1 (K+1)/\ag y.fp w w':=by
 have h':=h;obtain⟨c,A,z⟩:=h
 rcases gJ q.l p with e|⟨k,f,e,hf,_,_⟩
 .by_cases hr:(q.a.aR p).2=0
  .obtain⟨v1,v2,v3⟩:=r8 q A.lh hb
   rcases v3 with v3|⟨k,v3,hk⟩
   .unfold QS.bg;rw[e,if_neg (by omega),if_neg (by rw[hr];simp),if_pos (by omega)];refine(Nl A p e (by rw[show(q.ps c).c=c from rfl,z.read];exact hr) (by rw[uO];show q.aL.2<0;omega)).mono λe w' ⟨r,A',o⟩=>⟨r,?_,o⟩;rw[uO]at A';exact⟨c,A',by rw[(iY q).1];exact z.more (by omega)⟩
   .exact hold_go h' hK p e hr k v3 hk (λf hf=>(v1 f hf).2.2)
  .unfold QS.bg;rw[e,if_neg (by omega),if_pos hr];have hb:=Rh A p e (by rw[show(q.ps c).c=c from rfl,z.read];exact hr);rw[show(q.ps c).c=c from rfl,z.read]at hb;exact hb.mono λe w' ⟨h1,h2⟩=>⟨h1,⟨c,A.below h2,z.more (by omega)⟩,.ai h2⟩
 .unfold QS.bg;rw[e,if_pos (by omega),show((k:Nat):Int).toNat=k from by omega,oF hf];exact(Rg A p k e hf (by have:=hb f (aA hf);omega)).mono λe w' ⟨r,A',o⟩=>⟨r,⟨c,A',z.more (by omega)⟩,o⟩
variable{w:World}{y:Y}{n K:Nat}{s:PS}{q:QS}
theorem dU:(prog.info? 5).map (λi=>(i.zero,i.size,i.bytes))=some (some (.int .u8 0),1,1):=by kernel_rfl
theorem RD(n:Nat)(h1:n<=140737488355328)(w:World):
  (Instr.makeSlice 150 (.int .i64 n) (.int .i64 n)).run prog w=.ok (.slice (some ⟨w.heap.size,0,none⟩) n n) (w.alloc (.cells (dh (List.replicate n 0)).toArray 5)):=by
 obtain⟨i0,hi,ke,iX,jF⟩:=info_parts dU;have h:=run_make (P:=prog) w 150 5 i0 (.int .u8 0) underlying150 hi ke .i64 .i64 n n (by omega) (jK _) (by rw[jF];omega) (by omega);rw[h,iX];have e:madeCells (Value.int .u8 0).cells (((n:Int).toNat)*1)=(dh (List.replicate n 0)).toArray:=by
  show madeCells #[Value.int .u8 0] (n*1)=_;rw[Nat.mul_one,gM];simp[dh,bv]
 rw[e];rfl
theorem full_eq(b:ByteArray):b++(⟨(List.replicate (232-b.size) (0:UInt8)).toArray⟩:ByteArray)=rD b:=by
 apply iS;unfold rD eI;rw[CU];simp
theorem yL{b:ByteArray}(h:b.size<=232):(rD b).size=232:=by
 have hl:b.data.toList.length=b.size:=by simp
 show(eI b.data.toList 232).toArray.size=232;unfold eI;simp;omega
theorem set_in(h:iJ w y n s)(p:Int)(b:ByteArray)(hb:b.size<=232){k:Nat}{f:Fr}(hh:s.ib p=some (k,f)):
  Calls prog 219 #[pp y.pb,.int .i64 p,.string b] w λe w'=>e=.returned (.int .i64 0)/\iJ w' y n {s with l:=s.l.set k {f with gh:=rD b,cQ:=true,used:=true}}/\ag y.fp w w':=by
 have KH:=xh (yy h p);rw[hh]at KH;obtain⟨hf,_,_⟩:=yz hh;have nS:k<s.l.length:=(aX.1 hf).1;have l2:=h.l2;have HF:=xh hf;have HA:=xh (λW (hb:Below w.heap.size w W)=>h.below hb);have hbI:¬(232:Int)<(b.size:Int):=by omega
 obtain⟨m,hm⟩:∃m,232-b.size=m:=⟨_,rfl⟩;have em:IntKind.i64.wrap (232-(b.size:Int))=(m:Int):=by rw[show(232:Int)-(b.size:Int)=(m:Int) by omega];exact IntWalk.i64_in _ (by omega)
 have hmk:=λW=>RD m (by omega) W;have HCV:=xh (λ(W:World)=>(bZ (P:=prog) (W.alloc (.cells (dh (List.replicate m 0)).toArray 5)) 150 9 5 underlying150 underlying5 underlying9 ⟨W.heap.size,0,none⟩ m m (List.replicate m 0) (by simp) (bn (aE.new W 5 (dh (List.replicate m 0)).toArray) 0 _ (by intro j u hu;rw[bh];simpa using hu))));obtain⟨FB,hFB⟩:∃FB,rD b=FB:=⟨_,rfl⟩;have HCAT:=xh (full_eq b);rw[hFB]at HCAT;rw[hFB]
 rw[hm]at HCAT;have hm0:(0:Int)<=(m:Int):=by omega
 have mM:¬9223372036854775807<b.size+(⟨(List.replicate m (0:UInt8)).toArray⟩:ByteArray).size:=by
  have:(⟨(List.replicate m (0:UInt8)).toArray⟩:ByteArray).size=m:=by show(List.replicate m (0:UInt8)).toArray.size=m;simp
  omega
 have Ig:m<=232:=by omega
 generalize (⟨(List.replicate m (0:UInt8)).toArray⟩:ByteArray)=ZZ at *;generalize (dh (List.replicate m (0:UInt8))).toArray=ZC at *;clear h hh hf hm hb hFB;unfold pp tE at *;go_enter func219,ntmps219;go_wp2_with fail;refine KH.o.mono ?_;rintro e w1 ⟨rfl,aJ⟩;have O1:=xh aJ;have A1:=xh (HA.o _ (ae aJ (.cells ZC 5)));have O1':=xh (ae aJ (.cells ZC 5));clear aJ;go_wp2_with fail;rw[HCV.o w1];clear hmk;generalize (w1.alloc (.cells ZC 5))=w2 at *
 have hcat:=HCAT.o;obtain⟨c0,c1,c2,c3,c4⟩:=A1.o.DT k f HF.o;obtain⟨z1,B1,q1⟩:=A1.o.fD k 1 (by omega) {f with gh:=FB} (.string (FB)) HF.o rfl;have g1:(s.l.set k {f with gh:=FB})[k]?=some {f with gh:=FB}:=by rw[dM nS]
 obtain⟨z2,B2,q2⟩:=B1.fD k 3 (by omega) {f with gh:=FB,cQ:=true} (.bool true) g1 rfl;simp only[jL]at B2;have g2:(s.l.set k {f with gh:=FB,cQ:=true})[k]?=some {f with gh:=FB,cQ:=true}:=by rw[dM nS]
 obtain⟨z3,B3,q3⟩:=B2.fD k 4 (by omega) {f with gh:=FB,cQ:=true,used:=true} (.bool true) g2 rfl;simp only[jL]at B3;have AZ:=xh B3;have OZ:=xh ((ag.ai (S:=y.fp) O1'.o).trans ((q1.trans q2).trans q3));clear B1 B2 B3 q1 q2 q3 g1 g2 nS;go_wp2_with fail;go_ret;exact aC ⟨AZ.o,OZ.o⟩
theorem set_out(h:iJ w y n s)(p:Int)(b:ByteArray)(hb:b.size<=232)(hh:s.ib p=none):
  Calls prog 219 #[pp y.pb,.int .i64 p,.string b] w λe w'=>e=.returned (.int .i64 16)/\Below w.heap.size w w':=by
 have KH:=xh (yy h p);rw[hh]at KH;have hbI:¬(232:Int)<(b.size:Int):=by omega
 clear h hh hb;unfold pp tE at *;go_enter func219,ntmps219;go_wp2_with fail;refine KH.o.mono ?_;rintro e w1 ⟨rfl,aJ⟩;have O1:=xh aJ;clear aJ;go_wp2_with fail;go_ret;exact aC O1.o
theorem set_big(w:World)(pb:Nat)(p:Int)(b:ByteArray)(hb:232<b.size):
  Calls prog 219 #[pp pb,.int .i64 p,.string b] w λe w'=>e=.returned (.int .i64 4)/\Below w.heap.size w w':=by
 have hbI:(232:Int)<(b.size:Int):=by omega
 have O1:=xh (Below.refl w.heap.size w);clear hb;unfold pp;go_enter func219,ntmps219;go_wp2_with fail;go_ret;exact aC O1.o
theorem RE(h:ZP w y n q K)(p:Int)(b:ByteArray):
  Calls prog 219 #[pp y.pb,.int .i64 p,.string b] w λe w'=>e=.returned (.int .i64 (q.fD p b).2)/\ZP w' y n (q.fD p b).1 K/\ag y.fp w w':=by
 obtain⟨c,A,z⟩:=h;unfold QS.fD
 by_cases hb:232<b.size
 .rw[if_pos hb];exact(set_big w y.pb p b hb).mono λe w' ⟨r,o⟩=>⟨r,⟨c,A.below o,z⟩,.ai o⟩
 .rw[if_neg hb]
  cases hh:q.ib p with
  |none=>exact(set_out A p b (by omega) (by rw[Ei,hh])).mono λe w' ⟨r,o⟩=>⟨r,⟨c,A.below o,z⟩,.ai o⟩
  |some kf=>exact(set_in A p b (by omega) (k:=kf.1) (f:=kf.2) (by rw[Ei,hh])).mono λe w' ⟨r,A',o⟩=>⟨r,⟨c,A',z⟩,o⟩
theorem FU(h:ZP w y n q K)(hb:Fb q.l K)(hK:K<=1000000000000)(p:Int):
  Calls prog 214 #[pp y.pb,.int .i64 p] w λe w'=>e=.returned (.int .i64 (q.iq p).2)/\ZP w' y n (q.iq p).1 K/\ag y.fp w w':=by
 obtain⟨c,A,z⟩:=h;have hl:=let_any A p (λf hf=>by have:=hb f hf;omega);rw[let_ps]at hl;refine hl.mono λe w' ⟨r,A',o⟩=>⟨r,⟨c,A',?_⟩,o⟩;have:(q.iq p).1.a=q.a:=by
  unfold QS.iq
  cases q.ib p with
  |none=>rfl
  |some kf=>rfl
 rw[this];exact z
variable{q:QS}{k K n g g3 g4 g5:Nat}{w:World}{y:Y}
theorem NG(b:ByteArray)(q:Nat)(w:World)(s0:ByteArray)(B:aE w q 9 #[.string s0]):
  Calls prog 168 #[.string b,.pointer (some ⟨q,0,none⟩)] w λe w'=>e=.returned (.int .i64 0)/\aE w' q 9 #[.string b]/\ag [q] w w':=by
 have q0:=B.ab (i:=0) rfl;have q1:=B.frozen 0 (by simp);have B1:=xh (show aE (w.setCell ⟨q,0,none⟩ (.string b)) q 9 #[.string b]from B.bG 0 (.string b));have O1:=xh ((ag.refl [q] w).setCell (p:=⟨q,0,none⟩) (by simp) (.string b));clear B;go_enter func168,ntmps168;go_wp2_with fail;go_ret;exact aC ⟨B1.o,O1.o⟩
theorem JE(h:Fb q.l K)(hk:k<q.l.length):Fb (q.cA k).1.l K/\(q.cA k).1.l.length=q.l.length:=by
 have hm:=h _ (aA (mO hk));unfold QS.cA
 split
 .split
  .exact⟨h.set _ hm,bU⟩
  .exact⟨h,rfl⟩
 .exact⟨h,rfl⟩
def Full(a:St):Prop:= ∀l,(a.aR l).1.length<=232
theorem RF{l:List UInt8}(h:l.length<=232):(⟨l.toArray⟩:ByteArray).size<=1000:=by
 show l.toArray.size<=1000;simp;omega
theorem RG(h:Fb q.l K)(hl:q.hand<q.l.length)(hf:Full q.a)(p:Int):Fb (q.bg p).1.l (K+1)/\(q.bg p).1.l.length=q.l.length:=by
 unfold QS.bg
 rcases gJ q.l p with e|⟨k,f,e,hk,_,_⟩
 .rw[e,if_neg (by omega)]
  split
  .exact⟨h.more (by omega),rfl⟩
  .obtain⟨v1,v2,v3⟩:=r8 q hl h;have va:=iY q
   split
   .exact⟨v1.more (by omega),va.2⟩
   .rcases v3 with v3|⟨k,v3,hk⟩
    .omega
    .rw[v3,show((k:Nat):Int).toNat=k by omega];obtain⟨b1,b2⟩:=JE (k:=k) v1 (by omega)
     split
     .exact⟨b1.more (by omega),by rw[b2,va.2]⟩
     .exact⟨(b1.more (by omega)).set _ ⟨by show(0:Int)<=1;omega,by show(1:Int)<=_;omega,RF (hf p)⟩,by show(List.set _ _ _).length=_;rw[bU,b2,va.2]⟩
 .rw[e,if_pos (by omega),show((k:Nat):Int).toNat=k by omega,oF hk];have hm:=h _ (aA hk);exact⟨(h.more (by omega)).set _ ⟨by show 0<=f.held+1;omega,by show f.held+1<=_;omega,hm.2.2⟩,bU⟩
theorem BF{p:Int}{f:Fr}(h:q.ib p=some (k,f)):q.l[k]?=some f/\f.held≠0/\findF q.l p=k:=by
 unfold QS.ib at h
 rcases gJ q.l p with e|⟨j,g,e,hg,_,_⟩
 .rw[e,if_pos (by omega)]at h;cases h
 .rw[e,if_neg (by omega),show((j:Nat):Int).toNat=j by omega,hg]at h;dsimp only at h
  split at h
  .cases h
  .rename_i eV;obtain⟨rfl,rfl⟩:j=k/\g=f:=by simpa using h
   exact⟨hg,eV,e⟩
theorem let_l(h:Fb q.l K)(p:Int):Fb (q.iq p).1.l K/\(q.iq p).1.l.length=q.l.length/\(q.iq p).1.a=q.a/\(q.iq p).1.hand=q.hand:=by
 unfold QS.iq
 cases hh:q.ib p with
 |none=>exact⟨h,rfl,rfl,rfl⟩
 |some kf=>
  obtain⟨k,f⟩:=kf;obtain⟨h1,h2,_⟩:=BF hh;have hm:=h _ (aA h1);exact⟨h.set k ⟨by show 0<=f.held-1;omega,by show f.held-1<=_;omega,hm.2.2⟩,bU,rfl,rfl⟩
theorem set_l(h:Fb q.l K)(p:Int)(b:ByteArray):Fb (q.fD p b).1.l K/\(q.fD p b).1.l.length=q.l.length/\(q.fD p b).1.a=q.a/\(q.fD p b).1.hand=q.hand:=by
 unfold QS.fD
 split
 .exact⟨h,rfl,rfl,rfl⟩
 .rename_i hb
  cases hh:q.ib p with
  |none=>exact⟨h,rfl,rfl,rfl⟩
  |some kf=>
   obtain⟨k,f⟩:=kf;obtain⟨h1,h2,_⟩:=BF hh;have hm:=h _ (aA h1);exact⟨h.set k ⟨hm.1,hm.2.1,by show(rD b).size<=_;rw[yL (by omega)];omega⟩,bU,rfl,rfl⟩
theorem JF(h:ZP w y n q K)(hb:Fb q.l K)(hK:K<=1000000000000)(p:Int)(he:(q.bg p).2.2≠0):
  Calls prog 167 #[pp y.pb,.int .i64 p,.func (Fn.func 168) #[] #[.pointer (some ⟨g,0,none⟩)]] w λe w'=>e=.returned (.int .i64 (q.bg p).2.2)/\ZP w' y n (q.bg p).1 (K+1)/\ag y.fp w w':=by
 have KH:=xh (qN h hb hK p);have hq:((q.bg p).2.2 != 0)=true:=by rw[bne_iff_ne];exact he
 have ki:((q.bg p).2.2==0)=false:=by rw[beq_eq_false_iff_ne];exact he
 generalize q.bg p=R at *;clear h hb;unfold pp at *;go_enter func167,ntmps167;go_wp2_with fail;refine KH.o.mono ?_;rintro e w1 ⟨rfl,A1,o1⟩;have A1:=xh A1;have o1:=xh o1;go_wp2_with fail;go_ret;exact aC ⟨A1.o,o1.o⟩
theorem JG(h:ZP w y n q K)(hb:Fb q.l K)(hK:K<=1000000000000)(p:Int)(he:(q.bg p).2.2≠0):
  Calls prog 167 #[pp y.pb,.int .i64 p,.func (Fn.func 218) #[] #[.pointer (some ⟨g3,0,none⟩),.pointer (some ⟨g4,0,none⟩),.pointer (some ⟨g5,0,none⟩)]] w λe w'=>e=.returned (.int .i64 (q.bg p).2.2)/\ZP w' y n (q.bg p).1 (K+1)/\ag y.fp w w':=by
 have KH:=xh (qN h hb hK p);have hq:((q.bg p).2.2 != 0)=true:=by rw[bne_iff_ne];exact he
 have ki:((q.bg p).2.2==0)=false:=by rw[beq_eq_false_iff_ne];exact he
 generalize q.bg p=R at *;clear h hb;unfold pp at *;go_enter func167,ntmps167;go_wp2_with fail;refine KH.o.mono ?_;rintro e w1 ⟨rfl,A1,o1⟩;have A1:=xh A1;have o1:=xh o1;go_wp2_with fail;go_ret;exact aC ⟨A1.o,o1.o⟩
theorem FV(h:ZP w y n q K)(hb:Fb q.l K)(hK:K<=999999999999)(hl:q.hand<q.l.length)(RH:Full q.a)(p:Int)(he:(q.bg p).2.2=0)(s0:ByteArray)(B:aE w g 9 #[.string s0])(hg:g∉y.fp):
  Calls prog 167 #[pp y.pb,.int .i64 p,.func (Fn.func 168) #[] #[.pointer (some ⟨g,0,none⟩)]] w λe w'=>e=.returned (.int .i64 0)/\ZP w' y n ((q.bg p).1.iq p).1 (K+1)/\ag (g::y.fp) w w'/\aE w' g 9 #[.string (q.bg p).2.1]:=by
 have KH:=xh (qN h hb (by omega) p);rw[he]at KH;have wY:=(RG hb hl RH p).1;generalize q.bg p=R at *;have KL:=xh (λw' (A:ZP w' y n R.1 (K+1))=>FU A wY (by omega) p);have HQ:=xh hg;have HB:=xh B;have HD:=xh (λ(w1 w2:World) (A:ZP w1 y n R.1 (K+1)) (o:ag [g] w1 w2)=>(show ZP w2 y n R.1 (K+1)from by
  obtain⟨c,A,z⟩:=A;exact⟨c,A.only o (λx hx hm=>hg (by rw[aP.1 hm]at hx;exact hx)),z⟩))
 clear h hb B wY he hg;unfold pp at *;go_enter func167,ntmps167;go_wp2_with fail;refine KH.o.mono ?_;rintro e w1 ⟨rfl,A1,o1⟩;have B1:=HB.o.only o1 HQ.o;have KG:=xh (NG R.2.1 g w1 s0 B1);have A1:=xh A1;have o1:=xh o1;clear B1;go_wp2_with fail;refine KG.o.mono ?_;rintro e w2 ⟨rfl,B2,o2⟩;have A2:=xh (HD.o _ _ A1.o o2);have B2:=xh B2
 have o2:=xh ((o1.o.mono (λx hx _=>bz g hx)).trans (o2.mono (λx hx _=>by rw[aP.1 hx];exact gy ..)));go_wp2_with fail;refine(KL.o _ A2.o).mono ?_;rintro e w3 ⟨rfl,A3,o3⟩;have A3:=xh A3;have B3:=xh (B2.o.only o3 HQ.o);have o3:=xh (o2.o.trans (o3.mono (λx hx _=>bz g hx)));go_wp2_with fail;go_ret;exact aC ⟨A3.o,o3.o,B3.o⟩
theorem tG(h:ZP w y n q K)(p:Int)(b u:ByteArray)(B3:aE w g3 34 #[pp y.pb])(B4:aE w g4 3 #[.int .i64 p])(B5:aE w g5 9 #[.string b]):
  Calls prog 218 #[.string u,.pointer (some ⟨g3,0,none⟩),.pointer (some ⟨g4,0,none⟩),.pointer (some ⟨g5,0,none⟩)] w λe w'=>e=.returned (.int .i64 (q.fD p b).2)/\ZP w' y n (q.fD p b).1 K/\ag y.fp w w':=by
 have KS:=xh (RE h p b);have c3:=B3.ab (i:=0) rfl;have c4:=B4.ab (i:=0) rfl;have c5:=B5.ab (i:=0) rfl;generalize q.fD p b=R at *;clear h B3 B4 B5;unfold pp at *;go_enter func218,ntmps218;go_wp2_with fail;refine KS.o.mono ?_;rintro e w1 ⟨rfl,A1,o1⟩;have A1:=xh A1;have o1:=xh o1;go_wp2_with fail;go_ret;exact aC ⟨A1.o,o1.o⟩
theorem FW(h:ZP w y n q K)(hb:Fb q.l K)(hK:K<=999999999999)(hl:q.hand<q.l.length)(RH:Full q.a)(p:Int)(he:(q.bg p).2.2=0)(b:ByteArray)(B3:aE w g3 34 #[pp y.pb])(B4:aE w g4 3 #[.int .i64 p])(B5:aE w g5 9 #[.string b])(h3:g3∉y.fp)(h4:g4∉y.fp)(h5:g5∉y.fp):
  Calls prog 167 #[pp y.pb,.int .i64 p,.func (Fn.func 218) #[] #[.pointer (some ⟨g3,0,none⟩),.pointer (some ⟨g4,0,none⟩),.pointer (some ⟨g5,0,none⟩)]] w λe w'=>e=.returned (.int .i64 ((q.bg p).1.fD p b).2)/\ZP w' y n (((q.bg p).1.fD p b).1.iq p).1 (K+1)/\ag y.fp w w':=by
 have KH:=xh (qN h hb (by omega) p);rw[he]at KH;have wY:=(RG hb hl RH p).1;have hbc:=(set_l wY p b).1;have KC:=xh (λ(w1:World) (A:ZP w1 y n (q.bg p).1 (K+1)) (u:ByteArray) (o:ag y.fp w w1)=>tG A p b u (B3.only o h3) (B4.only o h4) (B5.only o h5));generalize q.bg p=R at *;generalize R.1.fD p b=R2 at *;have KL:=xh (λw' (A:ZP w' y n R2.1 (K+1))=>FU A hbc (by omega) p);clear h hb B3 B4 B5 wY hbc he h3 h4 h5;unfold pp at *
 go_enter func167,ntmps167;go_wp2_with fail;refine KH.o.mono ?_;rintro e w1 ⟨rfl,A1,o1⟩;have KG:=xh (KC.o w1 A1 R.2.1 o1);have o1:=xh o1;clear A1;go_wp2_with fail;refine KG.o.mono ?_;rintro e w2 ⟨rfl,A2,o2⟩;have A2:=xh A2;have o2:=xh (o1.o.trans o2);go_wp2_with fail;refine(KL.o _ A2.o).mono ?_;rintro e w3 ⟨rfl,A3,o3⟩;have A3:=xh A3;have o3:=xh (o2.o.trans o3);go_wp2_with fail;go_ret;exact aC ⟨A3.o,o3.o⟩
theorem NH(h:ZP w y n q K)(hb:Fb q.l K)(hK:K<=999999999999)(RH:Full q.a)(p:Int)(he:(q.bg p).2.2=0):
  Calls prog 121 #[pp y.pb,.int .i64 p] w λe w'=>e=.returned (.tuple #[.string (q.bg p).2.1,.int .i64 0])/\ZP w' y n ((q.bg p).1.iq p).1 (K+1)/\ag y.fp w w':=by
 have O0:=xh (ae (Below.refl w.heap.size w) (.cells #[.string ⟨#[]⟩] 9));have B0:=xh (aE.new w 9 #[.string ⟨#[]⟩]);have NQ:=xh (show w.heap.size∉y.fp from λhm=>by
  obtain⟨c,A,z⟩:=h;have:=A.lt _ hm;omega)
 have KW:=xh (FV (h.below O0.o) hb hK (by obtain⟨c,A,z⟩:=h;exact A.lh) RH p he _ B0.o NQ.o);generalize (q.bg p).2.1=r at *;generalize ((q.bg p).1.iq p).1=S2 at *;clear h hb he RH;unfold pp at *;go_enter func121,ntmps121;go_wp2_with fail;refine KW.o.mono ?_;rintro e w1 ⟨rfl,A1,o1,B1⟩;have A1:=xh A1;have o1:=xh ((ag.ai (S:=w.heap.size::y.fp) O0.o).trans o1);have q0:=B1.ab (i:=0) rfl;clear B1;go_wp2_with fail;go_ret2
 exact aC ⟨A1.o,o1.o.mono (λg hg dV=>by simp at hg;rcases hg with rfl|hg;(· omega);exact hg)⟩
theorem RI(h:ZP w y n q K)(hb:Fb q.l K)(hK:K<=999999999999)(p:Int)(he:(q.bg p).2.2≠0):
  Calls prog 121 #[pp y.pb,.int .i64 p] w λe w'=>e=.returned (.tuple #[.string ⟨#[]⟩,.int .i64 (q.bg p).2.2])/\ZP w' y n (q.bg p).1 (K+1)/\ag y.fp w w':=by
 have O0:=xh (ae (Below.refl w.heap.size w) (.cells #[.string ⟨#[]⟩] 9));have B0:=xh (aE.new w 9 #[.string ⟨#[]⟩]);have NQ:=xh (show w.heap.size∉y.fp from λhm=>by
  obtain⟨c,A,z⟩:=h;have:=A.lt _ hm;omega)
 have KW:=xh (JF (g:=w.heap.size) (h.below O0.o) hb (by omega) p he);generalize (q.bg p)=R at *;clear h hb he;unfold pp at *;go_enter func121,ntmps121;go_wp2_with fail;refine KW.o.mono ?_;rintro e w1 ⟨rfl,A1,o1⟩;have B1:=B0.o.only o1 NQ.o;have A1:=xh A1;have o1:=xh ((ag.ai (S:=y.fp) O0.o).trans o1);have q0:=B1.ab (i:=0) rfl;clear B1;go_wp2_with fail;go_ret2;exact aC ⟨A1.o,o1.o⟩
theorem NI(h:ZP w y n q K)(hb:Fb q.l K)(hK:K<=999999999999)(RH:Full q.a)(p:Int)(b:ByteArray)(hs:b.size<=232)(he:(q.bg p).2.2=0):
  Calls prog 176 #[pp y.pb,.int .i64 p,.string b] w λe w'=>e=.returned (.int .i64 ((q.bg p).1.fD p b).2)/\ZP w' y n (((q.bg p).1.fD p b).1.iq p).1 (K+1)/\ag y.fp w w':=by
 obtain⟨g3,hg3⟩:∃g,w.heap.size=g:=⟨_,rfl⟩;have b3:=aE.new w 34 #[pp y.pb];have o3:=ae (Below.refl w.heap.size w) (.cells #[pp y.pb] 34);have e3:(w.alloc (.cells #[pp y.pb] 34)).heap.size=g3+1:=by rw[<-hg3];simp
 have b4:=aE.new (w.alloc (.cells #[pp y.pb] 34)) 3 #[.int .i64 p];have o4:=ae o3 (.cells #[.int .i64 p] 3);have k4:=ae (Below.refl (w.alloc (.cells #[pp y.pb] 34)).heap.size _) (.cells #[.int .i64 p] 3);have e4:((w.alloc (.cells #[pp y.pb] 34)).alloc (.cells #[.int .i64 p] 3)).heap.size=g3+2:=by rw[<-hg3];simp
 have b5:=aE.new ((w.alloc (.cells #[pp y.pb] 34)).alloc (.cells #[.int .i64 p] 3)) 9 #[.string b];have o5:=ae o4 (.cells #[.string b] 9);have k5:=ae (Below.refl ((w.alloc (.cells #[pp y.pb] 34)).alloc (.cells #[.int .i64 p] 3)).heap.size _) (.cells #[.string b] 9);have B3:=aE.below (aE.below b3 k4 b3.lt) k5 (aE.below b3 k4 b3.lt).lt;have B4:=aE.below b4 k5 b4.lt;rw[e3]at B4;rw[e4]at b5;rw[hg3]at B3;have OZ:=xh o5
 have NQ:=xh (show ∀g,w.heap.size<=g->g∉y.fp from λg hg hm=>by
  obtain⟨c,A,z⟩:=h;have:=A.lt _ hm;omega)
 have KW:=xh (FW (h.below OZ.o) hb hK (by obtain⟨c,A,z⟩:=h;exact A.lh) RH p he b B3 B4 b5 (NQ.o _ (by omega)) (NQ.o _ (by omega)) (NQ.o _ (by omega)));have cl:=B3.ab (i:=0) rfl;have c4:=B4.ab (i:=0) rfl;have c5:=b5.ab (i:=0) rfl;have hsI:¬(232:Int)<(b.size:Int):=by omega
 generalize ((q.bg p).1.fD p b).2=RR at *;generalize (((q.bg p).1.fD p b).1.iq p).1=SS at *;clear h hb he RH hs b3 b4 b5 B3 B4 o3 o4 o5 e3 e4 k4 k5;unfold pp at *;go_enter func176,ntmps176;go_wp2_with fail;refine KW.o.mono ?_;rintro e w1 ⟨rfl,A1,o1⟩;have A1:=xh A1;have o1:=xh ((ag.ai (S:=y.fp) OZ.o).trans o1);go_wp2_with fail;go_ret;exact aC ⟨A1.o,o1.o⟩
theorem RJ(h:ZP w y n q K)(hb:Fb q.l K)(hK:K<=999999999999)(RH:Full q.a)(p:Int)(b:ByteArray)(hs:b.size<=232)(he:(q.bg p).2.2≠0):
  Calls prog 176 #[pp y.pb,.int .i64 p,.string b] w λe w'=>e=.returned (.int .i64 (q.bg p).2.2)/\ZP w' y n (q.bg p).1 (K+1)/\ag y.fp w w':=by
 obtain⟨g3,hg3⟩:∃g,w.heap.size=g:=⟨_,rfl⟩;have b3:=aE.new w 34 #[pp y.pb];have o3:=ae (Below.refl w.heap.size w) (.cells #[pp y.pb] 34);have e3:(w.alloc (.cells #[pp y.pb] 34)).heap.size=g3+1:=by rw[<-hg3];simp
 have b4:=aE.new (w.alloc (.cells #[pp y.pb] 34)) 3 #[.int .i64 p];have o4:=ae o3 (.cells #[.int .i64 p] 3);have k4:=ae (Below.refl (w.alloc (.cells #[pp y.pb] 34)).heap.size _) (.cells #[.int .i64 p] 3);have e4:((w.alloc (.cells #[pp y.pb] 34)).alloc (.cells #[.int .i64 p] 3)).heap.size=g3+2:=by rw[<-hg3];simp
 have b5:=aE.new ((w.alloc (.cells #[pp y.pb] 34)).alloc (.cells #[.int .i64 p] 3)) 9 #[.string b];have o5:=ae o4 (.cells #[.string b] 9);have k5:=ae (Below.refl ((w.alloc (.cells #[pp y.pb] 34)).alloc (.cells #[.int .i64 p] 3)).heap.size _) (.cells #[.string b] 9);have B3:=aE.below (aE.below b3 k4 b3.lt) k5 (aE.below b3 k4 b3.lt).lt;have B4:=aE.below b4 k5 b4.lt;rw[e3]at B4;rw[e4]at b5;rw[hg3]at B3;have OZ:=xh o5
 have NQ:=xh (show ∀g,w.heap.size<=g->g∉y.fp from λg hg hm=>by
  obtain⟨c,A,z⟩:=h;have:=A.lt _ hm;omega)
 have KW:=xh (JG (g3:=g3) (g4:=g3+1) (g5:=g3+2) (h.below OZ.o) hb (by omega) p he);have cl:=B3.ab (i:=0) rfl;have c4:=B4.ab (i:=0) rfl;have c5:=b5.ab (i:=0) rfl;have hsI:¬(232:Int)<(b.size:Int):=by omega
 generalize (q.bg p).2.2=RR at *;generalize (q.bg p).1=SS at *;clear h hb he RH hs b3 b4 b5 B3 B4 o3 o4 o5 e3 e4 k4 k5;unfold pp at *;go_enter func176,ntmps176;go_wp2_with fail;refine KW.o.mono ?_;rintro e w1 ⟨rfl,A1,o1⟩;have A1:=xh A1;have o1:=xh ((ag.ai (S:=y.fp) OZ.o).trans o1);go_wp2_with fail;go_ret;exact aC ⟨A1.o,o1.o⟩
theorem RK(p:Int)(b:ByteArray)(hs:232<b.size):
  Calls prog 176 #[pp y.pb,.int .i64 p,.string b] w λe w'=>e=.returned (.int .i64 4)/\Below w.heap.size w w':=by
 have OZ:=xh (ae (ae (ae (Below.refl w.heap.size w) (.cells #[pp y.pb] 34)) (.cells #[.int .i64 p] 3)) (.cells #[.string b] 9));have hsI:(232:Int)<(b.size:Int):=by omega
 clear hs;unfold pp at *;go_enter func176,ntmps176;go_wp2_with fail;go_ret;exact aC OZ.o
end Sh
end Go.Proofs.YtmonobkginiajaaGreat
