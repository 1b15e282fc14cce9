/- packed. -/
import Derived.Test.YtmonobkginiajaaGreatCs15
set_option linter.all false
set_option maxRecDepth 100000
set_option maxHeartbeats 8000000
namespace Go.Proofs.YtmonobkginiajaaGreat
open Go.Proofs.Tryz
open Value renaming string→U7,slice→U3,int→U5,bool→WF,pointer→st,tuple→rg
open Ending renaming returned→fd
open IntKind renaming i64→U6
open Obj renaming cells→Pi
open Go renaming World→BY,Value→By,Calls→io
open List renaming replicate→it
open And renaming intro→rx
namespace Sh.Cn
open Go.RowKit Pk Dk Pg
open Nd (E aL bQ aJ aP dm bw aY cg aZ)
section
variable{b:C}{n:Nat}{q:QS}{s:Sh.QS}
def Dn.cW(h:Dn b n q.a)(l:Int):Dn b n (q.cW l).1.a:=by
 have hx:=h.get l;unfold QS.cW
 repeat' split
 all_goals exact hx
def dM.cW(h:dM b n q s)(l:Int):Tw b n (q.cW l) (s.cW l):=by
 unfold QS.cW Sh.QS.cW
 rcases h.get l with hx|⟨u,e⟩
 .refine .inl ?_
  repeat' split
  all_goals exact hx
 .rw[e]
  repeat' split
  all_goals exact .inr ⟨u,rfl⟩
def Dn.hJ:∀(m:Nat) {q:QS},Dn b n q.a->∀(p:Int) (l:List Int) (v:UV),Dn b n (q.hJ m p l v).1.a
 |0,_,h,_,_,_=>h
 |m+1,q,h,p,l,v=>by
  have hx:=h.cW p;unfold QS.hJ
  repeat' split
  all_goals first|exact hx|exact Dn.hJ m hx _ _ _
def dM.hJ:∀(m:Nat) {q:QS} {s:Sh.QS},dM b n q s->∀(p:Int) (l:List Int) (v:UV),Tw b n (q.hJ m p l v) (s.hJ m p l v)
 |0,_,_,h,_,_,_=> .inr ⟨h,rfl⟩
 |m+1,q,s,h,p,l,v=>by
  unfold QS.hJ Sh.QS.hJ
  rcases h.cW p with hx|⟨u,e⟩
  .refine .inl ?_
   repeat' split
   all_goals first|exact hx|exact Dn.hJ m hx _ _ _
  .rw[e]
   repeat' split
   all_goals first|exact .inr ⟨u,rfl⟩|exact dM.hJ m u _ _ _
def Dn.N3(h:Dn b n q.a)(p:Int):Dn b n (q.dA p).1.a:=Dn.hJ _ h _ _ _
def dM.N3(h:dM b n q s)(p:Int):Tw b n (q.dA p) (s.dA p):=dM.hJ _ h _ _ _
def Dn.je:∀(l:List Int) {q:QS},Dn b n q.a->Dn b n (q.je l).1.a
 |[],_,h=>h
 |p::l,q,h=>by
  have hx:=h.N2 p;unfold QS.je
  split
  .exact hx
  .exact Dn.je l hx
def dM.je:∀(l:List Int) {q:QS} {s:Sh.QS},dM b n q s->Tw b n (q.je l) (s.je l)
 |[],_,_,h=> .inr ⟨h,rfl⟩
 |p::l,q,s,h=>by
  unfold QS.je Sh.QS.je
  rcases h.drop p with hx|⟨u,e⟩
  .refine .inl ?_
   split
   .exact hx
   .exact Dn.je l hx
  .rw[e]
   split
   .exact .inr ⟨u,rfl⟩
   .exact dM.je l u
def Dn.cdrop(h:Dn b n q.a)(p:Int):Dn b n (q.jX p).1.a:=by
 have hx:=h.N3 p;unfold QS.jX
 split
 .exact hx
 .exact Dn.je _ hx
def dM.cdrop(h:dM b n q s)(p:Int):Tw b n (q.jX p) (s.jX p):=by
 unfold QS.jX Sh.QS.jX
 rcases h.N3 p with hx|⟨u,e⟩
 .refine .inl ?_
  split
  .exact hx
  .exact Dn.je _ hx
 .rw[e]
  split
  .exact .inr ⟨u,rfl⟩
  .exact dM.je _ u
def Dn.eU:∀(l:List Int) {q:QS},Dn b n q.a->Dn b n (q.eU l).a
 |[],_,h=>h
 |p::l,_,h=>Dn.eU l (h.N2 p)
def dM.eU:∀(l:List Int) {q:QS} {s:Sh.QS},dM b n q s->Dn b n (q.eU l).a\/dM b n (q.eU l) (s.eU l)
 |[],_,_,h=> .inr h
 |p::l,q,s,h=>by
  rcases h.drop p with hx|⟨u,e⟩
  .exact .inl (Dn.eU l hx)
  .exact dM.eU l u
def Dn.kS(v:UV):∀(i:Nat) {q:QS},Dn b n q.a->∀(x:Int) (m:List Int),Dn b n (QS.kS v i q x m).1.a
 |0,_,h,_,_=>h
 |i+1,q,h,x,m=>by
  have hx:=h.newq (iW v i x);unfold QS.kS
  split
  .exact Dn.eU _ hx
  .exact Dn.kS v i hx _ _
def dM.kS(v:UV):∀(i:Nat) {q:QS} {s:Sh.QS},dM b n q s->∀(x:Int) (m:List Int),Tw b n (QS.kS v i q x m) (Sh.QS.kS v i s x m)
 |0,_,_,h,_,_=> .inr ⟨h,rfl⟩
 |i+1,q,s,h,x,m=>by
  unfold QS.kS Sh.QS.kS
  rcases h.new (iW v i x)with hx|⟨u,e⟩
  .refine .inl ?_
   split
   .exact Dn.eU _ hx
   .exact Dn.kS v i hx _ _
  .rw[e]
   split
   .rcases u.eU m with hx|u2
    .exact .inl hx
    .exact .inr ⟨u2,rfl⟩
   .exact dM.kS v i u _ _
def Dn.cput(h:Dn b n q.a)(v:UV):Dn b n (q.kE v).1.a:=by
 unfold QS.kE
 split
 .exact h
 .exact Dn.kS _ _ h _ _
def dM.cput(h:dM b n q s)(v:UV):Tw b n (q.kE v) (s.kE v):=by
 unfold QS.kE Sh.QS.kE
 split
 .exact .inr ⟨h,rfl⟩
 .exact dM.kS _ _ h _ _
def Dn.aT(h:Dn b n q.a)(p:Int):Dn b n (q.aT p).1.a:=by
 have hx:=h.get p;unfold QS.aT
 split<;>exact hx
def dM.aT(h:dM b n q s)(p:Int):Tw b n (q.aT p) (s.aT p):=by
 unfold QS.aT Sh.QS.aT
 rcases h.get p with hx|⟨u,e⟩
 .refine .inl ?_
  split<;>exact hx
 .rw[e]
  split<;>exact .inr ⟨u,rfl⟩
def Dn.bg(h:Dn b n q.a)(p:Int)(f:Bool)(l:List E):Dn b n (q.bg p f l).1.a:=by
 unfold QS.bg
 split
 .exact h
 .exact h.put _ _
def dM.bg(h:dM b n q s)(p:Int)(f:Bool)(l:List E):Tw b n (q.bg p f l) (s.bg p f l):=by
 unfold QS.bg Sh.QS.bg
 split
 .exact .inr ⟨h,rfl⟩
 .exact h.put _ _
def Dn.cu(h:Dn b n q.a)(f:Bool)(l:List E):Dn b n (q.cu f l).1.a:=by
 unfold QS.cu
 split
 .exact h
 .exact h.newq _
def dM.cu(h:dM b n q s)(f:Bool)(l:List E):Tw b n (q.cu f l) (s.cu f l):=by
 unfold QS.cu Sh.QS.cu
 split
 .exact .inr ⟨h,rfl⟩
 .exact h.new _
def Dn.iG(key:Nm):∀(m:Nat) {q:QS},Dn b n q.a->∀(p:Int) (o:List Step),Dn b n (Cn.iG key m q p o).1.a
 |0,_,h,_,_=>h
 |m+1,q,h,p,o=>by
  have hx:=h.aT p;unfold Cn.iG
  repeat' split
  all_goals first|exact hx|exact Dn.iG key m hx _ _
def dM.iG(key:Nm):∀(m:Nat) {q:QS} {s:Sh.QS},dM b n q s->∀(p:Int) (o:List Step),Tw b n (Cn.iG key m q p o) (Sh.iG key m s p o)
 |0,_,_,h,_,_=> .inr ⟨h,rfl⟩
 |m+1,q,s,h,p,o=>by
  unfold Cn.iG Sh.iG
  rcases h.aT p with hx|⟨u,e⟩
  .refine .inl ?_
   repeat' split
   all_goals first|exact hx|exact Dn.iG key m hx _ _
  .rw[e]
   repeat' split
   all_goals first|exact .inr ⟨u,rfl⟩|exact dM.iG key m u _ _
def Dn.way(h:Dn b n q.a)(key:Nm):Dn b n (q.cI key).1.a:=Dn.iG key _ h _ _
def dM.way(h:dM b n q s)(key:Nm):Tw b n (q.cI key) (s.cI key):=dM.iG key _ h _ _
def Dn.cC(h:Dn b n q.a)(x:E):Dn b n (q.cC x).1.a:=by
 unfold QS.cC
 split
 .exact h
 .exact h.N3 _
def dM.cC(h:dM b n q s)(x:E):Tw b n (q.cC x) (s.cC x):=by
 unfold QS.cC Sh.QS.cC
 split
 .exact .inr ⟨h,rfl⟩
 .rcases h.N3 x.bh with hx|⟨u,e⟩
  .exact .inl hx
  .rw[e];exact .inr ⟨u,rfl⟩
def Dn.jY(h:Dn b n q.a)(x:E):Dn b n (q.jY x).1.a:=by
 unfold QS.jY
 split
 .exact h
 .exact h.cdrop _
def dM.jY(h:dM b n q s)(x:E):Tw b n (q.jY x) (s.jY x):=by
 unfold QS.jY Sh.QS.jY
 split
 .exact .inr ⟨h,rfl⟩
 .rcases h.cdrop x.bh with hx|⟨u,e⟩
  .exact .inl hx
  .rw[e];exact .inr ⟨u,rfl⟩
def Dn.fU(h:Dn b n q.a)(k v:Nm):Dn b n (q.fU k v).1.a:=by
 unfold QS.fU
 split
 .exact h
 .exact h.cput _
def dM.fU(h:dM b n q s)(k v:Nm):Tw b n (q.fU k v) (s.fU k v):=by
 unfold QS.fU Sh.QS.fU
 split
 .exact .inr ⟨h,rfl⟩
 .rcases h.cput v.pu with hx|⟨u,e⟩
  .exact .inl hx
  .rw[e];exact .inr ⟨u,rfl⟩
def Dn.gD(h:Dn b n q.a)(k:Nm):Dn b n (q.gD k).1.a:=by
 have hx:=h.way k;unfold QS.gD
 repeat' split
 all_goals first|exact hx|exact hx.cC _
def dM.gD(h:dM b n q s)(k:Nm):Tw b n (q.gD k) (s.gD k):=by
 unfold QS.gD Sh.QS.gD
 rcases h.way k with hx|⟨u,e⟩
 .refine .inl ?_
  repeat' split
  all_goals first|exact hx|exact hx.cC _
 .rw[e]
  repeat' split
  all_goals first|exact .inr ⟨u,rfl⟩|exact u.cC _
def Dn.hX(h:Dn b n q.a)(l:List E)(k:Nm):Dn b n (q.hX l k).1.a:=by
 unfold QS.hX
 split
 .exact h.jY _
 .exact h
def dM.hX(h:dM b n q s)(l:List E)(k:Nm):Tw b n (q.hX l k) (s.hX l k):=by
 unfold QS.hX Sh.QS.hX
 split
 .exact h.jY _
 .exact .inr ⟨h,rfl⟩
end
section
variable{b:C}{n:Nat}{q:QS}{s:Sh.QS}
def Dn.lk(h:Dn b n q.a)(f:Bool)(x y:List E):Dn b n (q.lk f x y).1.a:=by
 have h1:=h.cu f x;have h2:=h1.cu f y;unfold QS.lk
 repeat' split
 all_goals first|exact h1|exact h2|exact h2.bg _ _ _
def dM.lk(h:dM b n q s)(f:Bool)(x y:List E):Tw b n (q.lk f x y) (s.lk f x y):=by
 unfold QS.lk Sh.QS.lk
 rcases h.cu f x with h1|⟨u,e⟩
 .refine .inl ?_;have h2:=h1.cu f y
  repeat' split
  all_goals first|exact h1|exact h2|exact h2.bg _ _ _
 rw[e]
 by_cases c1:(s.cu f x).2.2≠0
 .rw[U8 c1,U8 c1];exact .inr ⟨u,rfl⟩
 rw[U9 c1,U9 c1]
 rcases u.cu f y with h2|⟨u2,e2⟩
 .refine .inl ?_
  split
  .exact h2
  .exact h2.bg _ _ _
 rw[e2]
 split
 .exact .inr ⟨u2,rfl⟩
 .exact u2.bg _ _ _
end
section
variable{b:C}{n:Nat}
def Dn.settle:∀(m:Nat) (l:List Step) {q:QS},Dn b n q.a->Dn b n (dX m l q).1.a
 |0,_,_,h=>h
 |_+1,[],_,h=>h
 |m+1,[x],q,h=>by
  have h1:=h.bg x.au x.leaf x.l;unfold dX
  split
  .exact h1
  .exact h1.lk _ _ _
 |m+1,x::y::up,q,h=>by
  have h1:=h.bg x.au x.leaf x.l;have h2:=h1.cu x.leaf (x.l.drop (aZ x.l));have h3:=h2.bg x.au x.leaf (x.l.take (aZ x.l));unfold dX
  split
  .exact h1
  .dsimp only
   split
   .exact h2
   .split
    .exact h3
    .exact Dn.settle m _ h3
def dM.settle:∀(m:Nat) (l:List Step) {q:QS} {s:Sh.QS},dM b n q s->Tw b n (dX m l q) (Sh.dX m l s)
 |0,_,_,_,h=> .inr ⟨h,rfl⟩
 |_+1,[],_,_,h=> .inr ⟨h,rfl⟩
 |m+1,[x],q,s,h=>by
  unfold dX Sh.dX
  rcases h.bg x.au x.leaf x.l with h1|⟨u,e⟩
  .refine .inl ?_
   split
   .exact h1
   .exact h1.lk _ _ _
  rw[e]
  split
  .exact .inr ⟨u,e⟩
  .exact u.lk _ _ _
 |m+1,x::y::up,q,s,h=>by
  unfold dX Sh.dX
  rcases h.bg x.au x.leaf x.l with h1|⟨u,e⟩
  .refine .inl ?_;have h2:=h1.cu x.leaf (x.l.drop (aZ x.l));have h3:=h2.bg x.au x.leaf (x.l.take (aZ x.l))
   split
   .exact h1
   .dsimp only
    split
    .exact h2
    .split
     .exact h3
     .exact Dn.settle m _ h3
  rw[e]
  by_cases c0:(s.bg x.au x.leaf x.l).2≠11\/(bM x.leaf x.l).2=0
  .rw[U8 c0,U8 c0];exact .inr ⟨u,e⟩
  rw[U9 c0,U9 c0];dsimp only
  rcases u.cu x.leaf (x.l.drop (aZ x.l))with h2|⟨u2,e2⟩
  .refine .inl ?_;have h3:=h2.bg x.au x.leaf (x.l.take (aZ x.l))
   split
   .exact h2
   .split
    .exact h3
    .exact Dn.settle m _ h3
  rw[e2]
  by_cases c1:((s.bg x.au x.leaf x.l).1.cu x.leaf (x.l.drop (aZ x.l))).2.2≠0
  .rw[U8 c1,U8 c1];exact .inr ⟨u2,rfl⟩
  rw[U9 c1,U9 c1]
  rcases u2.bg x.au x.leaf (x.l.take (aZ x.l))with h3|⟨u3,e3⟩
  .refine .inl ?_
   split
   .exact h3
   .exact Dn.settle m _ h3
  rw[e3]
  split
  .exact .inr ⟨u3,e3⟩
  .exact dM.settle m _ u3
variable{q:QS}{s:Sh.QS}
def Dn.rI(h:Dn b n q.a)(k v:Nm)(x:Step)(i:Nat)(up:List Step):Dn b n (q.rI k v x i up).1.a:=by
 have h1:=h.fU k v;unfold QS.rI
 split
 .exact h1
 .exact Dn.settle _ _ h1
def dM.rI(h:dM b n q s)(k v:Nm)(x:Step)(i:Nat)(up:List Step):Tw b n (q.rI k v x i up) (s.rI k v x i up):=by
 unfold QS.rI Sh.QS.rI
 rcases h.fU k v with h1|⟨u,e⟩
 .refine .inl ?_
  split
  .exact h1
  .exact Dn.settle _ _ h1
 rw[e]
 split
 .exact .inr ⟨u,rfl⟩
 .exact dM.settle _ _ u
def Dn.fC(h:Dn b n q.a)(k v:Nm):Dn b n (q.fC k v).1.a:=by
 have h1:=h.way k;have h2:=h1.hX (eF (q.cI k).2.1).l k;unfold QS.fC
 split
 .exact h
 .split
  .exact h1
  .split
   .exact h2
   .exact h2.rI _ _ _ _ _
def dM.fC(h:dM b n q s)(k v:Nm):Tw b n (q.fC k v) (s.fC k v):=by
 unfold QS.fC Sh.QS.fC
 by_cases c0:32<k.size\/1024<v.size
 .rw[U8 c0,U8 c0];exact .inr ⟨h,rfl⟩
 rw[U9 c0,U9 c0]
 rcases h.way k with h1|⟨u,e⟩
 .refine .inl ?_;have h2:=h1.hX (eF (q.cI k).2.1).l k
  split
  .exact h1
  .split
   .exact h2
   .exact h2.rI _ _ _ _ _
 rw[e]
 by_cases c1:(s.cI k).2.2≠0
 .rw[U8 c1,U8 c1];exact .inr ⟨u,rfl⟩
 rw[U9 c1,U9 c1]
 rcases u.hX (eF (s.cI k).2.1).l k with h2|⟨u2,e2⟩
 .refine .inl ?_
  split
  .exact h2
  .exact h2.rI _ _ _ _ _
 rw[e2]
 split
 .exact .inr ⟨u2,e2⟩
 .exact u2.rI _ _ _ _ _
end
section
variable{b:C}{n:Nat}
def Dn.fY:∀(m:Nat) {q:QS},Dn b n q.a->∀(f:Bool) (l:List E),Dn b n (Cn.fY m q f l).1.a
 |0,_,h,_,_=>h
 |m+1,q,h,f,l=>by
  have h1:=h.aT (l.getD 0 Nd.E.zero).bh;have h2:=h1.N2 (l.getD 0 Nd.E.zero).bh;unfold Cn.fY
  split
  .split
   .exact h1
   .split
    .exact h2
    .exact Dn.fY m h2 _ _
  .split
   .exact h.bg _ _ _
   .exact h.bg _ _ _
def dM.fY:∀(m:Nat) {q:QS} {s:Sh.QS},dM b n q s->∀(f:Bool) (l:List E),Tw b n (Cn.fY m q f l) (Sh.fY m s f l)
 |0,_,_,h,_,_=> .inr ⟨h,rfl⟩
 |m+1,q,s,h,f,l=>by
  unfold Cn.fY Sh.fY
  by_cases c0:f=false/\l.length=1
  .rw[U8 c0,U8 c0]
   rcases h.aT (l.getD 0 Nd.E.zero).bh with h1|⟨u,e⟩
   .refine .inl ?_;have h2:=h1.N2 (l.getD 0 Nd.E.zero).bh
    split
    .exact h1
    .split
     .exact h2
     .exact Dn.fY m h2 _ _
   rw[e]
   by_cases c1:(s.aT (l.getD 0 Nd.E.zero).bh).2.2.2≠0
   .rw[U8 c1,U8 c1];exact .inr ⟨u,rfl⟩
   rw[U9 c1,U9 c1]
   rcases u.drop (l.getD 0 Nd.E.zero).bh with h2|⟨u2,e2⟩
   .refine .inl ?_
    split
    .exact h2
    .exact Dn.fY m h2 _ _
   rw[e2]
   split
   .exact .inr ⟨u2,e2⟩
   .exact dM.fY m u2 _ _
  .rw[U9 c0,U9 c0]
   split
   .exact h.bg _ _ _
   .exact h.bg _ _ _
def Dn.lower{q:QS}(h:Dn b n q.a)(f:Bool)(l:List E):Dn b n (q.kx f l).1.a:=by
 unfold QS.kx;generalize 600=m;exact Dn.fY m h f l
def dM.lower{q:QS}{s:Sh.QS}(h:dM b n q s)(f:Bool)(l:List E):Tw b n (q.kx f l) (s.kx f l):=by
 unfold QS.kx Sh.QS.kx;generalize 600=m;exact dM.fY m h f l
def Dn.shrink:∀(k:Nat) (l:List Step),l.length<=k->∀{q:QS},Dn b n q.a->Dn b n (cU l q).1.a
 |_,[],_,q,h=>by unfold cU;exact h
 |_,[x],_,q,h=>by
  unfold cU
  split
  .exact h.bg _ _ _
  .exact Dn.lower h _ _
 |0,x::y::up,hk,_,_=>eq hk lw
 |k+1,x::y::up,hk,q,h=>by
  have h1:=h.N2 x.au;unfold cU
  split
  .split
   .exact h1
   .exact Dn.shrink k _ (by simp at hk ⊢;omega) h1
  .exact h.bg _ _ _
def dM.shrink:∀(k:Nat) (l:List Step),l.length<=k->∀{q:QS} {s:Sh.QS},dM b n q s->Tw b n (cU l q) (Sh.cU l s)
 |_,[],_,q,s,h=>by unfold cU Sh.cU;exact .inr ⟨h,rfl⟩
 |_,[x],_,q,s,h=>by
  unfold cU Sh.cU
  split
  .exact h.bg _ _ _
  .exact dM.lower h _ _
 |0,x::y::up,hk,_,_,_=>eq hk lw
 |k+1,x::y::up,hk,q,s,h=>by
  unfold cU Sh.cU
  split
  .rcases h.drop x.au with h1|⟨u,e⟩
   .refine .inl ?_
    split
    .exact h1
    .exact Dn.shrink k _ (by simp at hk ⊢;omega) h1
   rw[e]
   split
   .exact .inr ⟨u,e⟩
   .exact dM.shrink k _ (by simp at hk ⊢;omega) u
  .exact h.bg _ _ _
variable{q:QS}{s:Sh.QS}
def Dn.fR(h:Dn b n q.a)(k:Nm):Dn b n (q.fR k).1.a:=by
 have h1:=h.way k;have h2:=h1.hX (eF (q.cI k).2.1).l k;unfold QS.fR
 repeat' split
 all_goals first|exact h1|exact h2|exact Dn.shrink _ _ (ai _) h2
def dM.fR(h:dM b n q s)(k:Nm):Tw b n (q.fR k) (s.fR k):=by
 unfold QS.fR Sh.QS.fR
 rcases h.way k with h1|⟨u,e⟩
 .refine .inl ?_;have h2:=h1.hX (eF (q.cI k).2.1).l k
  repeat' split
  all_goals first|exact h1|exact h2|exact Dn.shrink _ _ (ai _) h2
 rw[e]
 by_cases c1:(s.cI k).2.2≠0
 .rw[U8 c1,U8 c1];exact .inr ⟨u,rfl⟩
 rw[U9 c1,U9 c1]
 by_cases c2:cg (eF (s.cI k).2.1).l k=false
 .rw[U8 c2,U8 c2];exact .inr ⟨u,rfl⟩
 rw[U9 c2,U9 c2]
 rcases u.hX (eF (s.cI k).2.1).l k with h2|⟨u2,e2⟩
 .refine .inl ?_
  split
  .exact h2
  .exact Dn.shrink _ _ (ai _) h2
 rw[e2]
 split
 .exact .inr ⟨u2,e2⟩
 .exact dM.shrink _ _ (ai _) u2
def Up.jW{a:St}{t:Sh.St}(h:Up b n a t):a.jW=t.jW:=by
 obtain⟨c,α,K,rfl,h0,hA,z,_⟩:=h;obtain⟨k,e⟩:=z.e;show yF c.table c.table.length=t.jW;rw[Tc (n:=n) _ (ai _),e];have:=pad_pgs (c.bU n).now k;unfold Sh.St.jW Sh.St.pad C.bU at *;simp only[bC,eG,eZ]at *;exact this.symm
def dM.dJ(h:dM b n q s):Tw b n q.dJ s.dJ:=by
 have hr:Tw b n q.kl s.kl:=by
  unfold QS.kl Sh.QS.kl;rw[h.a.jW]
  split
  .rcases h.new jZ with h1|⟨u,e⟩
   .exact .inl h1
   .exact .inr ⟨u,by rw[e]⟩
  .exact .inr ⟨h,rfl⟩
 unfold QS.dJ Sh.QS.dJ
 rcases hr with h1|⟨u,e⟩
 .refine .inl ?_
  split
  .exact h1
  .exact h1.aT _
 rw[e]
 split
 .exact .inr ⟨u,e⟩
 .rcases u.aT 0 with h1|⟨u2,e2⟩
  .exact .inl h1
  .exact .inr ⟨u2,by rw[e2]⟩
end
def TwK(b:C)(n:Nat){σ:Type}(r:Wk σ)(r':Sh.Wk σ):Prop:=Dn b n r.q.a\/(dM b n r.q r'.q/\r.seen=r'.seen/\r.s=r'.s/\r.more=r'.more/\r.e=r'.e)
section
variable{b:C}{n:Nat}{σ:Type}{step:E->σ->σ×Bool}{fr til:Nm}
def Dn.aL{rec:QS->Nat->σ->Int->Wk σ}(hd:∀q k v p,Dn b n q.a->Dn b n (rec q k v p).q.a)(leaf:Bool)(f:Nat):∀(l:List E) (i:Nat) (q:QS) (k:Nat) (v:σ),Dn b n q.a->Dn b n (fP rec step fr til leaf f i l q k v).q.a:=by
 intro l
 induction l with
 |nil=>intro i q k v h;exact h
 |cons x l ih=>
  intro i q k v h;unfold fP
  split
  .exact ih _ _ _ _ h
  .split
   .exact h
   .split
    .split
     .exact ih _ _ _ _ h
     .exact h
    .split
     .exact ih _ _ _ _ (hd _ _ _ _ h)
     .exact hd _ _ _ _ h
def dM.aL{rec:QS->Nat->σ->Int->Wk σ}{rec':Sh.QS->Nat->σ->Int->Sh.Wk σ}(hd:∀q k v p,Dn b n q.a->Dn b n (rec q k v p).q.a)(hu:∀q s k v p,dM b n q s->TwK b n (rec q k v p) (rec' s k v p))(leaf:Bool)(f:Nat):
  ∀(l:List E) (i:Nat) (q:QS) (s:Sh.QS) (k:Nat) (v:σ),dM b n q s->TwK b n (fP rec step fr til leaf f i l q k v) (Sh.fP rec' step fr til leaf f i l s k v):=by
 intro l
 induction l with
 |nil=>intro i q s k v h;exact .inr ⟨h,rfl,rfl,rfl,rfl⟩
 |cons x l ih=>
  intro i q s k v h;unfold fP Sh.fP
  by_cases c1:mO fr leaf f i x=true
  .rw[U8 c1,U8 c1];exact ih _ _ _ _ _ h
  rw[U9 c1,U9 c1]
  by_cases c2:lL til leaf i x=true
  .rw[U8 c2,U8 c2];exact .inr ⟨h,rfl,rfl,rfl,rfl⟩
  rw[U9 c2,U9 c2]
  by_cases c3:leaf=true
  .rw[U8 c3,U8 c3]
   by_cases c4:(step x v).2=true
   .rw[U8 c4,U8 c4];exact ih _ _ _ _ _ h
   .rw[U9 c4,U9 c4];exact .inr ⟨h,rfl,rfl,rfl,rfl⟩
  rw[U9 c3,U9 c3]
  rcases hu q s k v x.bh h with hx|⟨u,e1,e2,e3,e4⟩
  .refine .inl ?_
   split
   .exact Dn.aL hd _ _ _ _ _ _ _ hx
   .exact hx
  .rw[e3,e4]
   split
   .rw[e1,e2];exact ih _ _ _ _ _ u
   .exact .inr ⟨u,e1,e2,e3,e4⟩
def Dn.et:∀(d:Nat) (q:QS) (k:Nat) (v:σ) (p:Int),Dn b n q.a->Dn b n (Cn.et step fr til d q k v p).q.a
 |0,_,_,_,_,h=>h
 |d+1,q,k,v,p,h=>by
  unfold Cn.et
  split
  .exact h
  .split
   .exact h.aT _
   .exact Dn.aL (Dn.et d) _ _ _ _ _ _ _ (h.aT _)
def dM.et:∀(d:Nat) (q:QS) (s:Sh.QS) (k:Nat) (v:σ) (p:Int),dM b n q s->TwK b n (Cn.et step fr til d q k v p) (Sh.et step fr til d s k v p)
 |0,_,_,_,_,_,h=> .inr ⟨h,rfl,rfl,rfl,rfl⟩
 |d+1,q,s,k,v,p,h=>by
  unfold Cn.et Sh.et
  by_cases c1:512<k+1
  .rw[U8 c1,U8 c1];exact .inr ⟨h,rfl,rfl,rfl,rfl⟩
  rw[U9 c1,U9 c1]
  rcases h.aT p with hx|⟨u,e⟩
  .refine .inl ?_
   split
   .exact hx
   .exact Dn.aL (Dn.et d) _ _ _ _ _ _ _ hx
  rw[e]
  by_cases c2:(s.aT p).2.2.2≠0
  .rw[U8 c2,U8 c2];exact .inr ⟨u,rfl,rfl,rfl,rfl⟩
  rw[U9 c2,U9 c2];exact dM.aL (Dn.et d) (dM.et d) _ _ _ _ _ _ _ _ u
def Dn.each{q:QS}(h:Dn b n q.a)(v:σ):Dn b n (q.cD step fr til v).q.a:=Dn.et _ _ _ _ _ h
def dM.each{q:QS}{s:Sh.QS}(h:dM b n q s)(v:σ):TwK b n (q.cD step fr til v) (s.cD step fr til v):=dM.et _ _ _ _ _ _ h
end
section
variable{b:C}{n:Nat}
def Dn.gV:∀(l:List E) {q:QS},Dn b n q.a->∀o,Dn b n (Cn.gV l q o).1.a
 |[],_,h,_=>h
 |x::l,q,h,o=>by
  unfold Cn.gV
  split
  .exact h.cC _
  .exact Dn.gV l (h.cC _) _
def dM.gV:∀(l:List E) {q:QS} {s:Sh.QS},dM b n q s->∀o,Tw b n (Cn.gV l q o) (Sh.gV l s o)
 |[],_,_,h,_=> .inr ⟨h,rfl⟩
 |x::l,q,s,h,o=>by
  unfold Cn.gV Sh.gV
  rcases h.cC x with hx|⟨u,e⟩
  .refine .inl ?_
   split
   .exact hx
   .exact Dn.gV l hx _
  rw[e]
  split
  .exact .inr ⟨u,rfl⟩
  .exact dM.gV l u _
def Dn.gv:∀(l:List Nm) {q:QS},Dn b n q.a->Dn b n (Cn.gv l q).1.a
 |[],_,h=>h
 |x::l,q,h=>by
  unfold Cn.gv
  split
  .exact h.fR _
  .exact Dn.gv l (h.fR _)
def dM.gv:∀(l:List Nm) {q:QS} {s:Sh.QS},dM b n q s->Tw b n (Cn.gv l q) (Sh.gv l s)
 |[],_,_,h=> .inr ⟨h,rfl⟩
 |x::l,q,s,h=>by
  unfold Cn.gv Sh.gv
  rcases h.fR x with hx|⟨u,e⟩
  .refine .inl ?_
   split
   .exact hx
   .exact Dn.gv l hx
  rw[e]
  split
  .exact .inr ⟨u,rfl⟩
  .exact dM.gv l u
variable{q:QS}{s:Sh.QS}
def Dn.dL(h:Dn b n q.a)(fr til:Nm)(m:Int):Dn b n (q.dL fr til m).1.a:=by
 unfold QS.dL
 split
 .exact h.each _
 .exact Dn.gV _ (h.each _) _
def dM.dL(h:dM b n q s)(fr til:Nm)(m:Int):Tw b n (q.dL fr til m) (s.dL fr til m):=by
 unfold QS.dL Sh.QS.dL
 rcases h.each (step:=km m) (fr:=fr) (til:=til) []with hx|⟨u,e1,e2,e3,e4⟩
 .refine .inl ?_
  split
  .exact hx
  .exact Dn.gV _ hx _
 rw[e4,e2]
 split
 .exact .inr ⟨u,rfl⟩
 .exact dM.gV _ u _
def Dn.gj(h:Dn b n q.a)(fr til:Nm):Dn b n (q.gj fr til).1.a:=by
 have hx:=h.each (step:=gi) (fr:=fr) (til:=til) none;unfold QS.gj
 split
 .exact hx
 .split
  .exact hx
  .split
   .exact hx.cC _
   .exact hx.cC _
def dM.gj(h:dM b n q s)(fr til:Nm):Tw b n (q.gj fr til) (s.gj fr til):=by
 unfold QS.gj Sh.QS.gj
 rcases h.each (step:=gi) (fr:=fr) (til:=til) none with hx|⟨u,e1,e2,e3,e4⟩
 .refine .inl ?_
  split
  .exact hx
  .split
   .exact hx
   .split
    .exact hx.cC _
    .exact hx.cC _
 rw[e4,e2]
 by_cases c1:(s.cD gi fr til none).e≠0
 .rw[U8 c1,U8 c1];exact .inr ⟨u,rfl⟩
 rw[U9 c1,U9 c1]
 cases (s.cD gi fr til none).s with
 |none=>exact .inr ⟨u,rfl⟩
 |some x=>
  dsimp only
  rcases u.cC x with hx|⟨u2,e⟩
  .refine .inl ?_
   split<;>exact hx
  rw[e]
  split<;>exact .inr ⟨u2,rfl⟩
def dM.eR(h:dM b n q s)(fr til:Nm):Tw b n (q.eR fr til) (s.eR fr til):=by
 unfold QS.eR Sh.QS.eR
 rcases h.each (step:=dS) (fr:=fr) (til:=til) []with hx|⟨u,e1,e2,e3,e4⟩
 .refine .inl ?_
  split
  .exact hx
  .split
   .exact Dn.gv _ hx
   .exact Dn.gv _ hx
 rw[e4,e2]
 by_cases c1:(s.cD dS fr til []).e≠0
 .rw[U8 c1,U8 c1];exact .inr ⟨u,rfl⟩
 rw[U9 c1,U9 c1]
 rcases dM.gv (s.cD dS fr til []).s u with hx|⟨u2,e⟩
 .refine .inl ?_
  split<;>exact hx
 rw[e]
 split
 .exact .inr ⟨u2,rfl⟩
 .exact .inr ⟨u2,rfl⟩
end
variable{c:C}{n:Nat}{α:Int}
def WW(g:Good c n)(h0:0<=α)(p:UV)(hd:((c.aq α).bA n p).1.d.down=true):((c.aq α).bA n p).2.2≠0:=by
 rcases zS g h0 p with⟨_,_,h⟩|⟨α',_,_,h⟩
 .exact h
 .rw[h]at hd;have hd:(c.bA n p).1.d.down=true:=hd;exfalso;have hup:(c.bA n p).1.d.down=false:=by
   unfold C.bA
   split
   .exact g.up
   .split
    .exact(ud g.up g.arm _ _ _ _ _).1
    .exact(ud g.up g.arm _ _ _ _ _).1
  rw[hup]at hd
  cases hd
def zU(g:Good c n)(h0:0<=α)(l:Int)(p:UV)(hd:((c.aq α).ao n l p).1.d.down=true):((c.aq α).ao n l p).2≠0:=by
 have Ll:¬(c.aq α).d.down=true:=by show ¬c.d.down=true;rw[g.up];simp
 have hf:=WW g h0 p;unfold C.ao at hd ⊢
 split at hd
 .exact eq hd Ll
 .rename_i c1;rw[U9 c1]
  split at hd
  .exact eq hd Ll
  .rename_i c2;rw[U9 c2]
   split at hd
   .exact eq hd Ll
   .rename_i c3;rw[U9 c3]
    split at hd
    .rename_i c4;rw[U8 c4];have hd:(bq (arm c.d α) n (c.table.getD l.toNat 0) (c.ep+1) 2 p).1.down=true:=hd;show(bq (arm c.d α) n (c.table.getD l.toNat 0) (c.ep+1) 2 p).2≠0
     rcases qN g.up g.arm h0 n (c.table.getD l.toNat 0) (c.ep+1) 2 p with⟨_,_,h⟩|⟨α',_,_,h⟩
     .rw[h];decide
     .rw[h]at hd;have hd:(bq c.d n (c.table.getD l.toNat 0) (c.ep+1) 2 p).1.down=true:=hd;rw[(ud g.up g.arm _ _ _ _ _).1]at hd
      cases hd
    .rename_i c4;rw[U9 c4]
     split at hd
     .rename_i c5;rw[U8 c5];exact hf hd
     .rename_i c5;exact eq (hf hd) c5
section
variable{b:C}{n:Nat}{a:St}{t:Sh.St}
def Up.nd(h:Up b n a t):a.c.d.down=false:=by
 obtain⟨c,α,K,rfl,h0,hA,z,_⟩:=h;exact z.g.up
def Up.zU(h:Up b n a t)(l:Int)(p:UV)(hd:Dn b n (a.ao l p).1):(a.ao l p).2≠0:=by
 obtain⟨c,α,K,rfl,h0,hA,z,_⟩:=h;exact Cn.zU z.g h0 l p hd.d
def Up.can(h:Up b n a t)(tl:a.c.table.length<=512):Ny a.c:=by
 obtain⟨c,α,K,rfl,h0,hA,z,_⟩:=h;refine⟨z.g.br,λy hy=>?_,z.g.sl,Rt.jU z.R.ro,λhf he=>?_⟩
 .have hm:c.m.length<=1024:=by rw[z.g.ml];unfold cN;omega
  have:=z.g.ti y hy;omega
 .obtain⟨mT,P,e,_,_,_,_,_,t6,t7⟩:=nr z.g tl hf;rw[show(c.aq α).bf=c.bf.aq α from rfl];show Rt.gP (c.ep+1) (c.bf.table.length:Nat) (Rt.cy ((takeN c.m (cd c.bf.table.length)).2.map Int.toNat))/\Rt.cy ((takeN c.m (cd c.bf.table.length)).2.map Int.toNat)=(takeN c.m (cd c.bf.table.length)).2;rw[e];exact⟨by rw[t6];exact t7,t6⟩
variable{q:QS}{s:Sh.QS}
def dM.back_err(h:dM b n q s)(k:Nat)(hd:Dn b n (q.bl k).1.a):(q.bl k).2≠0:=by
 unfold QS.bl at hd ⊢
 split at hd
 .rename_i c1;rw[U8 c1]
  split at hd
  .rename_i c2;exact eq c2 (h.a.zU _ _ hd)
  .rename_i c2;rw[U9 c2];exact c2
 .have:=hd.d;rw[h.a.nd]at this
  cases this
def dM.lJ(h:dM b n q s):∀i,(Dn b n (q.aN i).1.a/\(q.aN i).2≠0)\/(dM b n (q.aN i).1 (s.aN i).1/\(q.aN i).2=(s.aN i).2)
 |0=> .inr ⟨h,rfl⟩
 |i+1=>by
  rw[lI,Sh.lI]
  rcases h.lJ i with⟨h1,h2⟩|⟨u,e⟩
  .rw[U8 h2];exact .inl ⟨h1,h2⟩
  .rw[e]
   by_cases c1:(s.aN i).2≠0
   .rw[U8 c1,U8 c1];exact .inr ⟨u,e⟩
   .rw[U9 c1,U9 c1]
    rcases u.back i with hx|⟨u2,e2⟩
    .exact .inl ⟨hx,u.back_err i hx⟩
    .exact .inr ⟨u2,e2⟩
def LeftQ(b:C)(n K:Nat)(a:St)(o o':List (Option (UV))):Prop:=1<=b.d.aq/\a.n=n/\a.c.d.down=true/\∃c,Left c n a.c.d/\c.ep<=K/\(c.bU n).aR=o/\(c.bU n).dW=o'
def back_ao(s:Sh.QS)(k:Nat):(s.bl k).1.a.aR=s.a.aR:=by
 have hw:∀l p,(s.a.ao l p).1.aR=s.a.aR:=λl p=>by
  unfold Sh.St.ao
  split
  .rfl
  .split
   .rfl
   .split<;>rfl
 unfold Sh.QS.bl
 split
 .split
  .exact hw _ _
  .exact hw _ _
 .rfl
def FJ(s:Sh.QS):∀i,(s.aN i).1.a.aR=s.a.aR
 |0=>rfl
 |i+1=>by
  rw[Sh.lI]
  split
  .exact FJ s i
  .exact(back_ao _ i).trans (FJ s i)
def dM.gZ(h:dM b n q s)(Bh:b.broken=false){K0:Nat}(hK:K0<=1000000000000)(bc:(q.aN q.l.length).1.a.c.d.calls<=40*K0)(he:(q.aN q.l.length).1.a.c.ep<=K0)(tl:(q.aN q.l.length).1.a.c.table.length<=512):
  Dn b n q.an.1.a\/(LeftQ b n K0 q.an.1.a s.a.aR s.an.1.a.aR/\s.an.2=0)\/(∃b',b'.d.aq=b.d.aq/\b'.broken=false/\dM b' n q.an.1 s.an.1)/\q.an.2=s.an.2:=by
 have hN:q.mI=s.mI:=by unfold QS.mI Sh.QS.mI;rw[h.l]
 have hb:=h.lJ q.l.length;unfold QS.an Sh.QS.an;rw[hN]
 by_cases c0:0<s.mI
 .rw[U8 c0,U8 c0];exact .inr (.inr ⟨⟨b,rfl,Bh,h⟩,rfl⟩)
 rw[U9 c0,U9 c0]
 rcases hb with⟨h1,h2⟩|⟨u,e⟩
 .rw[U8 h2];exact .inl h1
 rw[h.l]at u e he bc tl ⊢;rw[e]
 by_cases c1:(s.aN s.l.length).2≠0
 .rw[U8 c1,U8 c1];exact .inr (.inr ⟨⟨b,rfl,Bh,u⟩,e⟩)
 rw[U9 c1,U9 c1];refine .inr ?_;have Kw:=FJ s s.l.length;generalize (q.aN s.l.length).1=q1 at *;generalize (s.aN s.l.length).1=s1 at *;obtain⟨⟨c,α,K,ea,h0,hA,z,e1,e2,e3,e4,k,T⟩,ul,uh⟩:=u;rw[ea]at he bc tl;have be:c.ep<=K0:=he;have bc:c.d.calls<=40*K0:=bc;have he:c.ep<1099511627775:=ls
 have tl:c.table.length<=512:=tl;have hcom:q1.a.an=(⟨((c.aq α).an n).1,n⟩,((c.aq α).an n).2):=by rw[ea];rfl
 rw[hcom];obtain⟨kp,ek⟩:=z.e;have hs2:(1<=α/\((c.aq α).an n).1.d.down=true/\Left c n ((c.aq α).an n).1.d/\(c.an n).2=0)\/∃α',0<=α'/\α'<=α/\(c.aq α).an n=((c.an n).1.aq α',(c.an n).2):=by
  by_cases hf:(c.bU n).free<cd (c.bU n).dW.length
  .have Cc:(Fm.gY c.m 0).length<cd c.bf.table.length:=by rw[(lY z.g).1];rw[xm]at hf;simpa using hf
   refine .inr ⟨α,h0,dG _,?_⟩;unfold C.an;rw[show(c.aq α).m=c.m from rfl,show(c.aq α).bf=c.bf.aq α from rfl,show(c.bf.aq α).table=c.bf.table from rfl,U8 Cc,U8 Cc]
  .rcases Sm z.g z.R (T Bh) he tl h0 with⟨u1,u2,u3⟩|hx
   .exact .inl ⟨u1,u2,u3,by obtain⟨c',d1,_⟩:=sC z.g z.R he tl hf;rw[d1]⟩
   .exact .inr hx
 obtain⟨z1,z2⟩:=(show Sh.Zc c n s1.a K0 from {z with bc:=bc,be:=be}).gZ tl hK
 rcases hs2 with⟨u1,u2,u3,u4⟩|⟨α',u1,u2,u3⟩
 .have hz:s1.a.an.2=0:=by rw[<-z2];exact u4
  refine .inl ⟨⟨ls,rfl,u2,c,u3,be,by rw[<-Kw,ek];rfl,?_⟩,hz⟩;show(c.bU n).dW=s1.a.an.1.aR;unfold Sh.St.an at hz ⊢
  split at hz
  .exact eq hz (by show ¬(11:Int)=0;decide)
  .rename_i hh;rw[U9 hh];show _=s1.a.dW;rw[ek,L8]
 .have T1:Twin (c.an n).1.d (c.an n).1.slot (c.an n).1.ep:=by
   by_cases hf:(c.bU n).free<cd (c.bU n).dW.length
   .rw[Am z.g hf];exact T Bh
   .obtain⟨c',d1,_,_,d4,_⟩:=sC z.g z.R he tl hf;rw[d1];exact d4
  exact .inr ⟨⟨(c.an n).1.aq b.d.aq,rfl,z1.g.br,⟨⟨(c.an n).1,α',K0+1,by rw[u3],u1,by show α'<=b.d.aq;omega,z1,rfl,rfl,rfl,rfl,λ_ _ _=>⟨rfl,id⟩,λ_=>T1⟩,ul,uh⟩⟩,by show((c.aq α).an n).2=_;rw[u3];exact z2⟩
end
end Sh.Cn
namespace Sh
open Go.RowKit Pk Dk Pg
def open_any{w:BY}{L:Dk.Loc}{n:Nat}{d:D}(h:aX w L n d)(hd:d.down=false)(hn:2<=n):
  io prog 33 #[dp L.b] w (OpenR d n L w):=by
 have K0:=Dk.mG h ((0:Nat):Int);have K1:=Dk.mG h ((1:Nat):Int);rw[Dg d n 0 (by omega) hd]at K0;rw[Dg d n 1 (by omega) hd]at K1;have hs0:=ev h.ok.now (show 0<n by omega);have Kw:=ev h.ok.now (show 1<n by omega);have KN:=xh<|Rt.WQ ⟨(sec d.now 0).toArray⟩ ⟨(sec d.now 1).toArray⟩ (by show(sec d.now 0).toArray.size=64;simpa using hs0) (by show(sec d.now 1).toArray.size=64;simpa using Kw) w
 rw[show(⟨(sec d.now 0).toArray⟩:Nm).data.toList=sec d.now 0 from by simp,show(⟨(sec d.now 1).toArray⟩:Nm).data.toList=sec d.now 1 from by simp]at KN;have HD:=xh h;have rD:=xh h.lt;have KP:=xh (λ(W:BY) (hb:i7 w W)=>GV (h.below hb));have Kt:cN n<=1024:=by unfold cN;omega
 have KF:=xh (λW=>Fm.BO (cN n) W Kt);have KL:=xh (λ(W:BY) (x:X) (c:C) (lg:Nat) (hW:At W x n c) h1 h2 h3=>load_any (lg:=lg) hW h1 h2 h3);have KC:=xh (λ(W:BY) (x:X) (c:C) (hW:At W x n c) (id:Int)=>l6 hW id 2);have KCL:=xh (λ(W:BY) (v:By) (l:List Int) (S:Sl W 3 v l.length (di l)) (hl:l.length<=100000)=>DI S hl);have K0:=xh K0;have K1:=xh K1
 have HRAW:=g9 (∀t k,(pA d n t k).table=[]/\(pA d n t k).parts=Rt.cy (Rt.l5 t)/\(pA d n t k).m=it (cN n) 0/\(pA d n t k).d=d/\(pA d n t k).aR=[]/\(pA d n t k).ep=Rt.fi t/\(pA d n t k).slot=k/\(pA d n t k).broken=false) (λt k=>⟨rfl,rfl,rfl,rfl,rfl,rfl,rfl,rfl⟩);have HN0:=g9 (∀t k,wi (sec d.now 0) (sec d.now 1) t k=wi (sec d.now 0) (sec d.now 1) t k) (λ_ _=>rfl);unfold OpenR;generalize hu0:sec d.now 0=u0 at *
 generalize hu1:sec d.now 1=u1 at *;clear h hd hs0 Kw Kt hu0 hu1 HN0;generalize Kt:cN n=pn at *;unfold dp sp Fm.mp at *;go_in;go_wp2_with fail;go_call K0.o as e w1 ⟨rfl,rfl⟩;go_wp2_with fail;go_call K1.o as e w1 ⟨rfl,rfl⟩;go_wp2_with fail;go_call KN.o as e w1 ⟨hx,bu⟩
 rcases hx with⟨t,k,A,c,hk,rfl,HPa⟩|⟨g0,g1,rfl⟩
 .have HK:=g9 (wi u0 u1 t k) hk;have hr:Rt.gP (Rt.fi t) (Rt.bS (Rt.fc t) 0:Nat) (Rt.cy (Rt.l5 t)):=by
   rcases hk with⟨_,rfl,hg,_⟩|⟨_,rfl,hg,_⟩<;>exact hg.2.1
  obtain⟨g,rest,hg,rfl,rfl,B⟩:=HPa;have Zg:=decP_len t;obtain⟨Vv,ZD,YZ,hr4,hr5,hr6⟩:=hr;have hr5':(Rt.l5 t).length=cd (Rt.bS (Rt.fc t) 0):=by
   rw[Cg]at hr5;simp[Rt.cy]at hr5;omega
  obtain⟨R1,R2,R3,R4,R5,R6,R7,R8⟩:=HRAW.o t k;obtain⟨rc,hrc⟩:∃rc,pA d n t k=rc:=⟨_,rfl⟩;have GOAL:=xh (show ∀(e:Ending) (W':BY),(aX W' L n d/\ah L.fp w W'/\(((rc.mY n (Rt.bS (Rt.fc t) 0)).2≠0/\e=fd (rg #[st none,U5 U6 (rc.mY n (Rt.bS (Rt.fc t) 0)).2]))\/
     ((rc.mY n (Rt.bS (Rt.fc t) 0)).2=0/\∃x,x.L=L/\e=fd (rg #[st (some ⟨x.b,0,none⟩),U5 U6 0])/\At W' x n (rc.mY n (Rt.bS (Rt.fc t) 0)).1/\∀g∈x.fp,g∈L.fp\/w.heap.size<=g)))->(aX W' L n d/\ah L.fp w W'/\
  ((∃t k,wi u0 u1 t k/\
    ((((pA d n t k).mY n (Rt.bS (Rt.fc t) 0)).2≠0/\e=fd (rg #[st none,U5 U6 ((pA d n t k).mY n (Rt.bS (Rt.fc t) 0)).2]))\/
     (((pA d n t k).mY n (Rt.bS (Rt.fc t) 0)).2=0/\∃x,x.L=L/\e=fd (rg #[st (some ⟨x.b,0,none⟩),U5 U6 0])/\At W' x n ((pA d n t k).mY n (Rt.bS (Rt.fc t) 0)).1/\∀g∈x.fp,g∈L.fp\/w.heap.size<=g)))\/
   (¬Rt.fT u0/\¬Rt.fT u1/\e=fd (rg #[st none,U5 U6 14]))))from λe W' h=>⟨h.1,h.2.1,.inl ⟨t,k,HK.o,by rw[hrc];exact h.2.2⟩⟩)
  rw[hrc]at R1 R2 R3 R4 R5 R6 R7 R8;clear hrc hk;have tQ:rc.parts.length=cd (Rt.bS (Rt.fc t) 0):=by rw[R2];simpa [Rt.cy]using hr5'
  have vz:=R6;have hnv:di rc.parts=Rt.wV (Rt.l5 t):=by rw[R2];exact ivs_nat _
  have hnp:rc.parts.length=Rt.bS (Rt.fc t) 2:=by rw[R2];simpa [Rt.cy]using Zg
  rw[<-R6];generalize Rt.fi t=ep0 at *;generalize Rt.bS (Rt.fc t) 0=lg at *;generalize Rt.bS (Rt.fc t) 2=np at *;generalize Rt.l5 t=ps at *;rw[<-R7];have PL1:Pl w1 (U3 (some ⟨g,0,none⟩) np np) rc.parts.length (di rc.parts):=by
   rw[hnp]
   by_cases h0:np=0
   .exact .inl ⟨by simp[hnp],.inl ⟨_,by rw[h0],h0⟩⟩
   .exact .inr ⟨by simp[hnp],g,np,rest,rfl,ai _,by omega,by rw[hnv];exact B⟩
  have glt:g<w1.heap.size:=B.lt;unfold Rt.kk;have a2:=i6 w1 (Pi #[U5 U6 rc.ep,U5 U6 (lg:Int),U3 (some ⟨g,0,none⟩) np np] 155);have O2:=xh<|aE bu a2;have RB0:=aM.new w1 155 #[U5 U6 rc.ep,U5 U6 (lg:Int),U3 (some ⟨g,0,none⟩) np np];have c0:=RB0.bi 0;have c1:=RB0.bi 1;have c2:=RB0.bi 2;have PL2:=xh<|PL1.below a2;have RB:=xh RB0
  have GL:=g9 (g<(w1.alloc (Pi #[U5 U6 rc.ep,U5 U6 (lg:Int),U3 (some ⟨g,0,none⟩) np np] 155)).heap.size/\w.heap.size<=g) ⟨by simp;omega,by omega⟩;have HR:=g9 (rc.table=[]/\rc.m=it pn 0/\rc.d=d/\rc.aR=[]/\rc.broken=false/\rc.parts.length=cd lg/\lg<=512/\rc.parts.length=np) ⟨R1,R3,R4,R5,R8,tQ,by omega,hnp⟩;clear RB0 a2 bu PL1 B glt R1 R2 R3 R4 R5 R6 R7 R8 tQ vz hnv hnp Vv ZD YZ hr4 hr5 hr6 hr5' Zg HRAW hg;go_wp2_with fail
  generalize FU:(w1.alloc (Pi #[U5 U6 rc.ep,U5 U6 (lg:Int),U3 (some ⟨g,0,none⟩) np np] 155))=w2 at *;have pC:w2.heap.size=w1.heap.size+1:=by rw[<-FU];simp
  obtain⟨sb,hsb⟩:∃sb,w2.heap.size=sb:=⟨_,rfl⟩;rw[show w1.heap.size+1=sb by omega];clear FU;have SB:=xh<|aM.new w2 146 #[st (some ⟨L.b,0,none⟩),st none,U3 none 0 0,U3 none 0 0,U3 (some ⟨g,0,none⟩) np np,U5 U6 rc.ep,U5 U6 rc.slot,WF false];rw[hsb]at SB
  have b3:=i6 w2 (Pi #[st (some ⟨L.b,0,none⟩),st none,U3 none 0 0,U3 none 0 0,U3 (some ⟨g,0,none⟩) np np,U5 U6 rc.ep,U5 U6 rc.slot,WF false] 146);have O3:=xh<|aE O2.o b3;have PL3:=xh<|PL2.o.below b3;have RB3:=xh<|RB.o.below b3 RB.o.lt;have WS:=g9 (w.heap.size<=sb/\w1.heap.size<sb/\g<sb) ⟨by rw[<-hsb];exact O2.o.size,by rw[<-hsb];exact RB.o.lt,by rw[<-hsb];exact GL.o.1⟩
  generalize BU:(w2.alloc (Pi #[st (some ⟨L.b,0,none⟩),st none,U3 none 0 0,U3 none 0 0,U3 (some ⟨g,0,none⟩) np np,U5 U6 rc.ep,U5 U6 rc.slot,WF false] 146))=w3 at *;have HS3:=g9 (w3.heap.size=sb+1) (by rw[<-BU,<-hsb];simp);clear BU b3 c0 c1 c2 pC hsb;go_call (KP.o w3 O3.o) as e w4 ⟨rfl,rfl⟩;go_wp2_with fail;go_call (KF.o w3) as e w4 ⟨mb,mg,rfl,mm,iZ,h1,h2⟩;have SB4:=xh<|SB.o.below iZ SB.o.lt
  have RB4:=xh<|RB3.o.below iZ RB3.o.lt;have q0:=SB4.ap 1;have q1:=SB4.o.frozen 1 (by simp);have o5:=(ah.refl [sb] w4).setCell (p:=⟨sb,1,none⟩) (by simp) (st (some ⟨mb,0,none⟩));have g2:=GL.o;have hs3:=HS3.o;have ws:=WS.o;have PL5:=(PL3.o.below iZ).only o5 (λy hy hm=>by
   rw[aG.1 hm]at hy;simp[cB]at hy;omega)
  have M5:=mm.only o5 (by simp;omega) (by simp;omega);have D5:=(HD.o.below (aE O3.o iZ)).only o5 (λy hy hm=>by have:=rD.o y hy;simp at hm;omega);have X5:=xh (show OW w (w4.setCell ⟨sb,1,none⟩ (st (some ⟨mb,0,none⟩))) L ⟨sb,L,mb,mg,U3 none 0 0,U3 none 0 0,U3 (some ⟨g,0,none⟩) np np⟩ n rc from by
   obtain⟨r1,r3,r4,r5,r8,r9,r10,r11⟩:=HR.o;refine⟨⟨?_,by rw[r4];exact D5,by rw[r3];exact M5,by rw[r1];exact Sl.nil _ _,by rw[r5];exact Sl.nil _ _,PL5,by simp[cB],by simp[cB],?_,by simp[cB],by simp[cB],by simp[cB],by rw[r1];simp⟩,rfl,?_,?_⟩
   .have:=SB4.o.ct 1 (st (some ⟨mb,0,none⟩));unfold wW dp Fm.mp;rw[r8];exact this
   .intro hm;simp[cB]at hm;omega
   .exact .aj (Below.setCell (aE O3.o iZ) (p:=⟨sb,1,none⟩) ws.1 (st (some ⟨mb,0,none⟩)))
   .intro y hy;simp only[X.fp,ax,aK]at hy
    rcases hy with rfl|rfl|rfl|((hy|hy)|hy)|hy
    .exact .inr ws.1
    .exact .inr (by omega)
    .exact .inr (by omega)
    .exact .inl hy
    .simp[cB]at hy
    .simp[cB]at hy
    .simp[cB]at hy;exact .inr (by omega))
  have c1:=(RB4.o.bh (p:=⟨sb,1,none⟩) (by simp;omega) (st (some ⟨mb,0,none⟩))).ae (i:=1) rfl;clear mm iZ h1 h2 o5 PL5 M5 D5 g2 hs3 ws;go_wp2_with fail;generalize Px:w4.setCell ⟨sb,1,none⟩ (st (some ⟨mb,0,none⟩))=w5 at *;clear Px q0 q1;obtain⟨x1,hx1⟩:∃x1:X,x1=⟨sb,L,mb,mg,U3 none 0 0,U3 none 0 0,U3 (some ⟨g,0,none⟩) np np⟩:=⟨_,rfl⟩;rw[<-hx1]at X5;have hb:sb=x1.b:=by rw[hx1]
  rw[hb];have HB:=xh hb;clear hx1 hb c1;have KL2:=KL.o w5 x1 rc lg X5.o.a HR.o.1 HR.o.2.2.2.2.2.2.1 HR.o.2.2.2.2.2.1;obtain⟨Lr,hLr⟩:∃Lr,rc.eY n lg rc.parts.length=Lr:=⟨_,rfl⟩;have hop:rc.mY n lg=(if Lr.2≠0 then Lr else if(Lr.1.gJ n Lr.1.table.length).2≠0 then Lr.1.gJ n Lr.1.table.length else({(Lr.1.gJ n Lr.1.table.length).1 with aR:=Lr.1.table},0)):=by unfold C.mY;rw[hLr]
  have HF6:=rf rc n lg rc.parts.length;rw[hLr]at KL2 HF6;obtain⟨c6,er⟩:=Lr;dsimp only at KL2 hop HF6;have HD6:=g9 (c6.d=d) (HF6.1.trans HR.o.2.2.1);clear HF6;have KL2:=xh KL2;clear hLr
  by_cases nh:er=0
  .rw[U9 (by simpa using nh)]at hop;subst nh;go_call KL2.o as e w6 ⟨rfl,tv,LWx⟩;have X6:=xh<|X5.o.step (x':={x1 with tv:=tv}) LWx.a rfl LWx.o LWx.f;clear LWx;obtain⟨x2,Ou⟩:∃x2:X,x2={x1 with tv:=tv}:=⟨_,rfl⟩;have da:x1.b=x2.b:=by rw[Ou]
   rw[<-Ou]at X6;rw[da];have f2:=X6.o.a.f2;obtain⟨VT,tc,hvt,htc⟩:=X6.o.a.ht.val;rw[hvt]at f2;have HVT:=xh hvt;have HOP:=xh hop;have HSC:=xh<|rh c6 n;have QL:=xh<|FD c6 n;have HFI:=xh<|xX c6 n;obtain⟨tl,htl⟩:∃tl,c6.table.length=tl:=⟨_,rfl⟩;rw[htl]at f2 HVT HOP;have HTL:=xh htl;have htl5:tl<=512:=by rw[<-htl];exact X6.o.a.tl
   have H0:=g9 (At w6 x2 n (c6.gJ n 0).1/\ah x2.fp w6 w6) ⟨X6.o.a,ah.refl _ _⟩;have HZ:=xh (show(c6.gJ n 0).2=0 from rfl);clear hop hvt Ou da htl htc;go_wp2_with fail
   go_loopw [72] (λiv wr=> ∃i:Nat,i<=tl/\iv=U5 U6 i/\Hid (At wr x2 n (c6.gJ n i).1/\ah x2.fp w6 wr)/\Hid ((c6.gJ n i).2=0)) (λiv _=>tl-(intOf iv).toNat)
   case atStart=>exact⟨0,bG _,rfl,H0,HZ⟩
   case round=>
    obtain⟨i,hi,rfl,HC,HE⟩:=hrel
    by_cases h':i<tl
    .have Xc:(i:Int)<(tl:Int):=by omega
     obtain⟨m,hm⟩:=HFI.o i;have Kw:=HSC.o i;rw[U9 (by rw[HE.o];decide)]at Kw;have A:=HC.o.1;rw[hm]at A Kw;obtain⟨g6,cp6,hv6,ck⟩:=A.tk i (by show i<c6.table.length;have:=HTL.o;omega);rw[HVT.o]at hv6;injection hv6 with e1 e2 e3
     subst e1 e3;clear e2;dsimp only at ck;have HA:=xh A;have ru:=xh Kw;have HM:=xh hm;clear A Kw hm;generalize c6.table.getD i 0=pid at *;have ei:U6.wrap ((i:Int)+1)=((i+1:Nat):Int):=d9
     by_cases hp:pid<0
     .have yG:=g9 (c6.gJ n (i+1)=c6.gJ n i) (by rw[ru.o,U8 hp]);go_wp2;go_roundw
      case rel=>exact⟨i+1,by omega,by go_num,by rw[yG.o];exact HC,by rw[yG.o];exact HE⟩
      case measure=>simp[intOf];omega
     .rw[U9 hp]at ru;have KC2:=KC.o wr x2 _ HA.o pid;obtain⟨Rr,hRr⟩:∃Rr,({c6 with m:=m}:C).bH n pid 2=Rr:=⟨_,rfl⟩;rw[hRr]at KC2 ru;obtain⟨c7,⟨Bf,rep,vD,rs⟩,er⟩:=Rr;dsimp only at KC2 ru;unfold PG.val jw at KC2;dsimp only at KC2;have KC2:=xh KC2;clear hRr
      by_cases nh:er=0
      .subst nh;go_wp2_with fail;go_call KC2.o as e w7 ⟨rfl,A7,o7⟩;have a8:=i6 w7 (Pi #[U5 U6 Bf,U5 U6 rep,U5 U6 vD,U7 ⟨rs.toArray⟩] 162);have H8:=xh (show At (w7.alloc (Pi #[U5 U6 Bf,U5 U6 rep,U5 U6 vD,U7 ⟨rs.toArray⟩] 162)) x2 n (c6.gJ n (i+1)).1/\ah x2.fp w6 (w7.alloc (Pi #[U5 U6 Bf,U5 U6 rep,U5 U6 vD,U7 ⟨rs.toArray⟩] 162))from by
        rw[ru.o];exact⟨A7.below a8,(HC.o.2.trans o7).trans (.aj a8)⟩)
       have HE8:=xh (show(c6.gJ n (i+1)).2=0 from by rw[ru.o]);clear A7 o7 a8;go_wp2;go_roundw
       case rel=>exact⟨i+1,by omega,by go_num,H8,HE8⟩
       case measure=>simp[intOf];omega
      .have hq:(er != 0)=true:=lm nh
       have kP:(er==0)=false:=i4 nh
       have yG:=xh (show c6.gJ n tl=(c7,er)from by
        have:=QL.o (i+1) (by rw[ru.o];exact nh) (tl-(i+1));rw[show i+1+(tl-(i+1))=tl by omega]at this;rw[this,ru.o])
       have HER:=xh nh;clear nh;go_wp2_with fail;go_call KC2.o as e w7 ⟨rfl,A7,o7⟩;have a8:=i6 w7 (Pi #[U5 U6 Bf,U5 U6 rep,U5 U6 vD,U7 ⟨rs.toArray⟩] 162);have X8:=xh<|(X6.o.step A7 rfl (HC.o.2.trans o7) (λy hy=> .inl hy)).below a8;clear A7 o7 a8;go_wp2;go_ret2;have hd8:c7.d=d:=by
        have h7:c7=(c6.gJ n tl).1:=by rw[yG.o]
        obtain⟨m9,hm9⟩:=HFI.o tl;rw[h7,hm9];exact HD6.o
       refine GOAL.o _ _ ⟨by rw[<-hd8];have:=X8.o.a.hd;rwa [X8.o.l]at this,X8.o.o,.inl ?_⟩;rw[HOP.o,yG.o,U8 HER.o];exact⟨HER.o,by first|rfl|simp⟩
    .obtain rfl:i=tl:=by omega
     obtain⟨m,hm⟩:=HFI.o i;have A:=HC.o.1;rw[hm]at A;have ft:=A.f2;rw[HVT.o]at ft;have S0:=A.ht;rw[HVT.o]at S0;have KCL2:=xh<|KCL.o wr _ c6.table S0 (by have:=HTL.o;omega);have HA:=xh A;have HM:=xh hm;have yG:=g9 (c6.gJ n i=({c6 with m:=m},0)) (by rw[<-hm,<-HE.o]);clear A S0 hm;go_wp2_with fail;go_call KCL2.o as e w7 ⟨v',rfl,S7,oC,fr7⟩;obtain⟨V7,vc7,rfl,_⟩:=S7.val;have A7:=HA.o.below oC
     obtain⟨q3,z3,A8,o8⟩:=A7.newO S7 (λy hy hm=>by have:=HA.o.lt y hm;have:=fr7 y hy;omega);have X8:=xh<|X6.o.step (x':={x2 with ov:=U3 V7 c6.table.length vc7}) A8 rfl ((HC.o.2.trans (.aj oC)).trans (o8.mono (λy hy _=>by rw[aG.1 hy];simp[X.fp]))) (λy hy=>by
      have pC:=(HC.o.2).size;simp only[X.fp,ax,aK]at hy ⊢
      rcases hy with hy|hy|hy|((hy|hy)|hy)|hy
      .exact .inl (.inl hy)
      .exact .inl (.inr (.inl hy))
      .exact .inl (.inr (.inr (.inl hy)))
      .exact .inl (.inr (.inr (.inr (.inl (.inl (.inl hy))))))
      .exact .inl (.inr (.inr (.inr (.inl (.inl (.inr hy))))))
      .exact .inr (by have:=fr7 y hy;omega)
      .exact .inl (.inr (.inr (.inr (.inr hy)))))
     clear S7 oC fr7 A7 A8 o8;go_wp2;go_ret2;refine GOAL.o _ _ ⟨by have:=X8.o.a.hd;rw[X8.o.l]at this;rw[<-HD6.o];exact this,X8.o.o,.inr ?_⟩;rw[HOP.o,yG.o,i8];exact⟨rfl,_,X8.o.l,by first|rfl|simp,X8.o.a,X8.o.f⟩
  .rw[U8 nh]at hop;have hq:(er != 0)=true:=lm nh
   have kP:(er==0)=false:=i4 nh
   have HER:=xh nh;have HOP:=xh hop;clear nh hop;go_call KL2.o as e w6 ⟨rfl,tv,LWx⟩;have X6:=xh<|X5.o.step (x':={x1 with tv:=tv}) LWx.a rfl LWx.o LWx.f;clear LWx;go_wp2;go_ret2;have hd8:c6.d=d:=HD6.o;refine GOAL.o _ _ ⟨by rw[<-hd8];have:=X6.o.a.hd;rwa [X6.o.l]at this,X6.o.o,.inl ?_⟩;rw[HOP.o];exact⟨HER.o,by first|rfl|simp⟩
 .have G0:=xh g0;have G1:=xh g1;unfold Rt.kk;have a2:=i6 w1 (Pi #[U5 U6 0,U5 U6 0,U3 none 0 0] 155);have O2:=xh<|aE bu a2;clear bu a2 g0 g1;go_wp2;go_ret2;exact⟨HD.o.below O2.o,.aj O2.o,.inr ⟨G0.o,G1.o,by first|rfl|simp⟩⟩
end Sh
namespace Sh.Cn
open Go.RowKit Pk Dk Pg
def pB(C:Cr)(d:D):∀i,(D.bZ C d i).1.calls=d.calls
 |0=>rfl
 |i+1=>by
  simp only[D.bZ]
  split
  .exact pB C d i
  .exact pB C d i
def WX{D2:D}{n:Nat}{L:Dk.Loc}{w2 w3:BY}{e:Ending}{ep sl:Int}{aR parts:List Int}{o:List (Option (UV))}(OD:fF D2 n ep sl aR parts o)(hd:D2.down=false)(ha:D2.aq=0)(fN:D2.Ok n)(he:ep<1099511627776)(hr:OpenR D2 n L w2 e w3):
  ∃x1 c1,x1.L=L/\e=fd (rg #[sp x1.b,U5 U6 0])/\At w3 x1 n c1/\(∀g∈x1.fp,g∈L.fp\/w2.heap.size<=g)/\ah L.fp w2 w3/\Good c1 n/\fD c1.d n c1.ep c1.slot c1.aR c1.parts/\c1.d=D2/\c1.ep=ep/\c1.bU n={many:=cN n,now:=jy o,aR:=o,ep:=ep}:=by
 obtain⟨hD,hO,hr⟩:=hr
 rcases hr with⟨t,k,hN,hr⟩|⟨g0,g1,_⟩
 .obtain⟨c1,r1,r2,r3,r4,r5,r6,r7,r8⟩:=OD.opened hd ha fN he hN;rw[r1]at hr
  rcases hr with⟨fy,_⟩|⟨_,x1,hl,rfl,A1,f1⟩
  .exact eq rfl fy
  .exact⟨x1,c1,hl,rfl,A1,f1,hO,r7,by rw[r2,r3,r4,r5,r6];exact OD.r,r2,r3,r8⟩
 .rcases OD.r.sl with hs|hs
  .have:=OD.root.2.2.2;rw[hs]at this;exact eq this g0
  .have:=OD.root.2.2.2;rw[hs]at this;exact eq this g1
def Found(n:Nat)(d:D)(cr:Cr)(K:Nat)(o:List (Option (UV))):Prop:= ∃(ep sl:Int) (parts aR:List Int),ep<=K/\fF (d.kt cr n) n ep sl aR parts o
section
variable{b:C}{n:Nat}{a:St}{s:Sh.St}
def Up.found(h:Up b n a s){K:Nat}(hK:a.c.ep<=K)(cr:Cr):Found n a.c.d cr K s.aR:=by
 obtain⟨c,α,K1,rfl,h0,hA,z,_⟩:=h;obtain⟨k,e⟩:=z.e;exact⟨c.ep,c.slot,c.parts,c.aR,hK,by rw[e];exact(Ct z.g z.R).GG (xY c.d α) (nm z.g.ok h0) cr⟩
def Up.rebase(h:Up b n a s)(Bh:b.broken=false):∃c,Sh.Good c n/\fD c.d n c.ep c.slot c.aR c.parts/\c.ep=a.c.ep/\(c.bU n).aR=s.aR/\Up (c.aq b.d.aq) n a s:=by
 obtain⟨c,α,K1,rfl,h0,hA,z,_,_,_,_,_,T⟩:=h;obtain⟨k,e⟩:=z.e;exact⟨c,z.g,z.R,rfl,by rw[e];rfl,c,α,K1,rfl,h0,hA,z,rfl,rfl,rfl,rfl,λ_ _ _=>⟨rfl,id⟩,λ_=>T Bh⟩
def Dn.found{c:C}{A:Int}(g:Sh.Good c n)(R:fD c.d n c.ep c.slot c.aR c.parts)(h:Dn (c.aq A) n a){K:Nat}(hK:c.ep<=K)(cr:Cr):Found n a.c.d cr K (c.bU n).aR:=
 ⟨c.ep,c.slot,c.parts,c.aR,hK,(Ct g R).GG h.k h.ok cr⟩
end
def Sq{c:C}(h:c.d.aq=0):c.aq 0=c:=by
 unfold C.aq C.on arm;rw[<-h]
def oA(c:C)(n fr:Nat):QS:=⟨⟨c,n⟩,it fr Fr.nil,0⟩
def jt(c:C)(n fr:Nat):Sh.QS:=⟨c.bU n,it fr Fr.nil,0⟩
section
variable{c:C}{n fr K:Nat}
def good_zc(g:Sh.Good c n)(hl:c.aR.length<=512)(hc:c.d.calls<=40*K)(he:c.ep<=K):Zc c n ⟨c,n⟩ K:=by
 have hm:c.m.length<=1024:=by rw[g.ml];unfold cN;omega
 have key:∀(l:List Int),(∀x∈l,x= -1\/(0<=x/\x<c.m.length))->∀k,l.getD k 0<=1024:=λl h k=>by
  rcases fo k l.length with hk|hk
  .have hx:=h _ (jR hk);have:l.getD k 0=l[k]:=by simp[List.getD,aQ hk]
   rw[this];omega
  .have:l.getD k 0=0:=by simp[List.getD,fw hk]
   omega
 exact⟨rfl,by have:=g.ep;omega,hm,key _ g.ti,key _ g.oi,hl,by rw[g.arm];omega,hc,he⟩
def Oc{w:BY}{x:X}{pq:Nat}{v:By}(A:At w x n c)(B:aM w pq 143 #[sp x.b,v,U5 U6 0])(S:bm w 167 5 v fr (GY (it fr Fr.nil)))(h4:pq∉x.fp)(h5:∀g∈ak v,g∉x.fp)(f1:1<=fr)(f2:fr<=32)
  (gd:Sh.Good c n)(hl:c.aR.length<=512)(ht:c.table.length<=512)(hc:c.d.calls<=40*K)(he:c.ep<=K):∃F,PQ w ⟨pq,x.b,x.L⟩ F (oA c n fr) n K/\∀y∈F,y=pq\/y∈ak v\/y∈x.fp:=by
 obtain⟨g,cp,rest,rfl,BB,_⟩:=S.form ls ls;have z:=good_zc gd hl hc he;have el:(oA c n fr).l.length=fr:=eG ..;have H:Hq (oA c n fr) n K:=⟨⟨c,z⟩,λf hf=>by rw[jQ hf];exact Fb.nil,by rw[el];exact f1,by rw[el];exact f2,by rw[el];exact f1,ht⟩
 have W:Wp (oA c n fr) n K:=⟨H,λf hf=>by rw[jQ hf];rfl,λf hf h0=>by rw[jQ hf]at h0;exact eq h0 (by show ¬(0:Int)<= -1;omega)⟩;refine⟨_,⟨⟨x,pq,g,cp⟩,rfl,rfl,rfl,rfl,⟨c,?_,z⟩,W⟩,?_⟩
 .refine⟨?_,?_,A,h4,h5 g (by simp[ak]),H.l1,H.l2,H.lh⟩
  .show aM w pq _ #[_,U3 (lc g) (it fr Fr.nil).length cp,_];rw[eG];exact B
  .show bm w _ 5 (U3 (lc g) (it fr Fr.nil).length cp) (it fr Fr.nil).length _;rw[eG];exact S
 .intro y hy;simp only[Y.fp,ax]at hy
  rcases hy with rfl|rfl|hy
  .exact .inl rfl
  .exact .inr (.inl (by simp[ak]))
  .exact .inr (.inr hy)
def Od(gd:Sh.Good c n)(R:fD c.d n c.ep c.slot c.aR c.parts)(hc:c.d.calls<=40*K)(he:c.ep<=K):Sh.Zc c n (c.bU n) K:=⟨gd,R,⟨0,(sD _).symm⟩,hc,he⟩
def Oe(gd:Sh.Good c n)(R:fD c.d n c.ep c.slot c.aR c.parts)(fl:Bool)(T:fl=false->Twin c.d c.slot c.ep):dM {c with broken:=fl} n (oA c n fr) (jt c n fr):=by
 have z:=Od (K:=c.d.calls.toNat+c.ep.toNat) gd R ls ls;exact⟨⟨c,0,_,by show(⟨c,n⟩:St)=_;rw[Sq gd.arm],dG _,by show 0<=c.d.aq;rw[gd.arm];exact dG _,z,rfl,rfl,rfl,rfl,λ_ _ _=>⟨rfl,id⟩,T⟩,rfl,rfl⟩
def Of(gd:Sh.Good c n)(R:fD c.d n c.ep c.slot c.aR c.parts)(f1:1<=fr)(f2:fr<=32)(ht:c.table.length<=512)(hc:c.d.calls<=40*K)(he:c.ep<=K):Sh.Hq (jt c n fr) n K:=by
 have el:(jt c n fr).l.length=fr:=eG ..;exact⟨⟨c,Od gd R hc he⟩,λf hf=>by rw[jQ hf];exact Sh.Fb.nil,by rw[el];exact f1,by rw[el];exact f2,by rw[el];exact f1,by show(c.table.map (c.dv n)).length<=512;rw[eZ];exact ht⟩
def fresh_wp(H:Sh.Hq (jt c n fr) n K):Sh.Wp (jt c n fr) n K:=by
 have hn:∀f∈(jt c n fr).l,f=Fr.nil:=λf hf=>jQ hf;have hp:∀f∈(jt c n fr).l,¬0<=f.au:=λf hf=>by rw[hn f hf];show ¬(0:Int)<= -1;omega
 exact⟨H,⟨λi j f g hi hj e h0=>eq h0 (hp f (ay hi)),λf hf h0=>eq h0 (hp f hf),λf hf h0=>eq h0 (hp f hf),λf hf _=>by rw[hn f hf];rfl,λf hf h0=>eq h0 (hp f hf)⟩,λf hf=>by rw[hn f hf];rfl⟩
end
section
variable{b:C}{n K:Nat}{q:QS}{s:Sh.QS}
def Tw.up0{β:Type}{r:QS×β}{s:Sh.QS×β}(h:Tw b n r s)(h0:b.d.aq=0):dM b n r.1 s.1/\r.2=s.2:=h.resolve_left λd=>by
 have:=d.pos;omega
def dM.com(h:dM b n q s)(Bh:b.broken=false)(W:Wp q n K)(hK:K<=999999999000):((q.aN q.l.length).2=0->Ny (q.aN q.l.length).1.a.c)/\
  (Dn b n q.an.1.a\/(LeftQ b n (K+32) q.an.1.a s.a.aR s.an.1.a.aR/\s.an.2=0)\/(∃b',b'.d.aq=b.d.aq/\b'.broken=false/\dM b' n q.an.1 s.an.1)/\q.an.2=s.an.2):=by
 have Wb:=W.lJ q.l.length (ai _);have PU:=W.H.l2;obtain⟨cb,zb⟩:=Wb.H.z;have hcb:(q.aN q.l.length).1.a.c=cb:=by rw[zb.e]
 have bb:=zb.bc;have be:=zb.be;have bn:=Wb.H.nl;refine⟨λh0=>?_,h.gZ (K0:=K+32) Bh ls (by rw[hcb];omega) (by rw[hcb];omega) bn⟩
 rcases h.lJ q.l.length with⟨_,h1⟩|⟨u1,_⟩
 .exact eq h0 h1
 .exact u1.a.can bn
def dM.com0(h:dM b n q s)(Bh:b.broken=false)(h0:b.d.aq=0)(W:Wp q n K)(hK:K<=999999999000):((q.aN q.l.length).2=0->Ny (q.aN q.l.length).1.a.c)/\
  (∃b',dM b' n q.an.1 s.an.1/\b'.broken=false/\b'.d.aq=0)/\q.an.2=s.an.2:=by
 obtain⟨cc,hU⟩:=h.com Bh W hK;refine⟨cc,?_⟩
 rcases hU with d|⟨⟨h1,_⟩,_⟩|⟨⟨b',e1,e2,u⟩,e⟩
 .have:=d.pos;omega
 .omega
 .exact⟨⟨b',u,e2,by rw[e1];exact h0⟩,e⟩
def dM.wps(h:dM b n q s)(W:Wp q n K)(W0:∃n0 K0,Sh.Wp s n0 K0):Sh.Wp s n K:=by
 obtain⟨n0,K0,V0⟩:=W0;obtain⟨c,α,K1,ea,h0,hA,z,_⟩:=h.a;obtain⟨c',zc⟩:=W.H.z;have e1:c'=c.aq α:=by
  have:=zc.e;rw[ea]at this;injection this with this
  exact this.symm
 have hb:=zc.bc;have he:=zc.be;rw[e1]at hb he;have hb:c.d.calls<=40*K:=hb;have he:c.ep<=K:=he;exact⟨⟨⟨c,{z with bc:=hb,be:=he}⟩,by rw[<-h.l];exact W.H.f,by rw[<-h.l];exact W.H.l1,by rw[<-h.l];exact W.H.l2,by rw[<-h.l,<-h.h];exact W.H.lh,V0.H.nl⟩,V0.V,V0.N⟩
end
def FK(w:BY)(fr pg:Nat)(f1:1<=fr)(f2:fr<=32)(p1:4<=pg)(p2:pg<=1000):
  io prog 12 #[(fr:Nat),(pg:Nat)] w λe w'=> ∃wb tb mb I F q,e=fd (lp wb)/\aM w' wb 38 #[dp I.L.b,pp I.pb,tp tb,lp mb,U3 none 0 0]/\aM w' mb 45 #[U3 none 0 0]/\TQ w' tb I F q (2+4*pg) 50/\
   (∃b,dM b (2+4*pg) q (Sh.QS.begun fr pg)/\b.broken=false/\b.d.aq=0)/\Rd (Sh.QS.begun fr pg) yh yh 3 pg/\i7 w w'/\(∀g∈wb::mb::tb::F,w.heap.size<=g):=by
 have n1:cN (2+4*pg)=pg:=by unfold cN cJ;omega
 have e1:U6.wrap (4*(pg:Int))=4*(pg:Int):=d9;have e2:U6.wrap (2+4*(pg:Int))=((2+4*pg:Nat):Int):=by rw[show 2+4*(pg:Int)=((2+4*pg:Nat):Int) by omega];exact d9
 have KD:=xh<|BO (2+4*pg) w ls ls;have KF:=xh (λ(W:BY) (L:Dk.Loc) (hW:aX W L (2+4*pg) (D.zero (2+4*pg)))=>PW hW ls rfl rfl (by show(0:Int)<=1000;omega));have KP:=xh (λ(W:BY) (b:Nat)=>Lv (w:=W) b fr f1 f2)
 have HQ:=xh (show ∀(W:BY) (x:X) (pq:Nat) (v:By),At W x (2+4*pg) (eI (D.zero (2+4*pg)) (2+4*pg))->aM W pq 143 #[sp x.b,v,U5 U6 0]->bm W 167 5 v fr (GY (it fr Fr.nil))->(∀g∈x.fp,w.heap.size<=g)->w.heap.size<=pq->(∀g∈ak v,w.heap.size<=g)->pq∉x.fp->(∀g∈ak v,g∉x.fp)->
   ∃F,PQ W ⟨pq,x.b,x.L⟩ F (oA (eI (D.zero (2+4*pg)) (2+4*pg)) (2+4*pg) fr) (2+4*pg) 1/\(∀g∈F,w.heap.size<=g)/\Sh.Hq (Sh.QS.start fr pg) (2+4*pg) 1/\∃b,dM b (2+4*pg) (oA (eI (D.zero (2+4*pg)) (2+4*pg)) (2+4*pg) fr) (Sh.QS.start fr pg)/\b.broken=false/\b.d.aq=0 from λW x pq v A B S h1 h2 h3 h4 h5=>by
  obtain⟨gd,e,hc,hr,tw⟩:=Nk (2+4*pg) ls ls A.hd.ok;obtain⟨F,P,f⟩:=Oc (K:=1) A B S h4 h5 f1 f2 gd (by show 0<=512;omega) (by show 0<=512;omega) ls (by show(1:Int)<=(1:Nat);omega);have es:jt (eI (D.zero (2+4*pg)) (2+4*pg)) (2+4*pg) fr=Sh.QS.start fr pg:=by unfold jt Sh.QS.start;rw[e,n1]
  have U:=Oe (fr:=fr) gd hr false (λ_=>tw);have H:=Of (fr:=fr) gd hr (K:=1) f1 f2 (by show 0<=512;omega) ls (by show(1:Int)<=(1:Nat);omega);rw[es]at U H;exact⟨F,P,λy hy=>(f y hy).elim (λe=>e▸h2) (λh=>h.elim (h3 y) (h1 y)),H,_,U,rfl,gd.arm⟩)
 have HP4:=xh p1;clear f1 f2 p1;unfold dp pp sp tp lp at *;go_in;go_wp2_with fail;go_call KD.o as e w1 ⟨L,rfl,D1,bu,hL⟩;have O1:=xh bu;have D1:=xh D1;have HL:=xh hL;clear bu hL;go_wp2_with fail;go_call (KF.o w1 L D1.o) as e w2 ⟨x,hxL,rfl,A2,o2,fx⟩
 have H2:=g9 (At w2 x (2+4*pg) (eI (D.zero (2+4*pg)) (2+4*pg))/\i7 w w2/\∀g∈x.fp,w.heap.size<=g) ⟨A2,O1.o.trans (o2.bI O1.o.size HL.o),λg hg=>(fx g hg).elim (HL.o g) (λh=>by have:=O1.o.size;omega)⟩;have HXL:=xh hxL;clear A2 o2 fx hxL;go_wp2_with fail;go_call (KP.o w2 x.b) as e w3 ⟨pq,v,rfl,B3,S3,gK,hp3,hf3⟩
 obtain⟨F3,P3,f3,hq3,b3,u3,br3,ar3⟩:=HQ.o w3 x pq v (H2.o.1.below gK) B3 S3 H2.o.2.2 (by have:=H2.o.2.1.size;omega) (λg hg=>by have:=hf3 g hg;have:=H2.o.2.1.size;omega) (λhF=>by have:=H2.o.1.lt _ hF;omega) (λg hg hF=>by have:=H2.o.1.lt _ hF;have:=hf3 g hg;omega);have hb3':=aE H2.o.2.1 gK;have KO:=uL P3 ls;obtain⟨q1e,q1r,q1t⟩:=Ru hq3 (by have:=HP4.o;omega);obtain⟨u4,q1f⟩:=u3.dJ.up0 ar3;rw[q1f.trans q1e]at KO
 obtain⟨qo,hqo⟩:∃qo,(oA (eI (D.zero (2+4*pg)) (2+4*pg)) (2+4*pg) fr).dJ.1=qo:=⟨_,rfl⟩;rw[hqo]at KO u4;have U4:=xh<|rx u4 (rx br3 ar3);have KO:=xh KO;have H3:=g9 (i7 w w3/\(∀g∈F3,w.heap.size<=g)) ⟨hb3',f3⟩;have HR:=xh q1r;clear B3 S3 gK hp3 hf3 P3 f3 hq3 hb3' q1e q1r q1t q1f u3 u4 br3 ar3 hqo;unfold pp at KO;go_wp2_with fail;go_call KO.o as e w4 ⟨v4,rfl,F4,o4,f4,P4,z4,z5⟩;obtain⟨tb,rfl,htb,T4⟩:=z5 rfl
 obtain⟨cc,UC⟩:=U4.o.1.com0 U4.o.2.1 U4.o.2.2 T4.2.wp ls;have KC:=AO T4.2 ls cc;have rS:=HR.o.gZ ⟨_,_,U4.o.1.wps T4.2.wp HR.o.w,ls⟩;obtain⟨q2,kP⟩:∃q2,(Sh.QS.start fr pg).dJ.1.an=q2:=⟨_,rfl⟩;have hbq:Sh.QS.begun fr pg=q2.1:=by unfold Sh.QS.begun;rw[kP]
 rw[kP]at UC rS;obtain⟨qc,hqc⟩:∃qc,qo.an=qc:=⟨_,rfl⟩;rw[hqc]at KC UC;obtain⟨UC,hqe⟩:=UC;have HU:=xh UC;have HBQ:=xh hbq;have Oz:q2.2=0/\Rd q2.1 yh yh 3 pg:=by
  rcases rS with⟨c1,c2⟩|⟨c1,c2,c3⟩
  .exact⟨c1,c2.le ms⟩
  .have:cd 1=1:=ms
   have:=HP4.o;omega
 rw[hqe.trans Oz.1]at KC;have yN:=xh Oz.2;have KC:=xh KC;have H4:=g9 (ah F3 w3 w4/\(∀g∈F4,g∈F3\/w3.heap.size<=g)/\w3.heap.size<=tb/\TQ w4 tb ⟨pq,x.b,x.L⟩ F4 qo (2+4*pg) (1+2)) ⟨o4,f4,htb,T4⟩;clear rS Oz hqe UC cc o4 f4 P4 z4 htb T4 hbq;unfold pp at KC;unfold tp;go_wp2_with fail;go_call KC.o as e w5 ⟨rfl,F5,P5,o5,f5⟩;have B6:=aM.new w5 45 #[U3 none 0 0]
 have B7:=aM.new (w5.alloc (Pi #[U3 none 0 0] 45)) 38 #[lc L.b,lc pq,lc tb,lc w5.heap.size,U3 none 0 0];have ja:=ag (i6 w5 (Pi #[U3 none 0 0] 45)) (Pi #[lc L.b,lc pq,lc tb,lc w5.heap.size,U3 none 0 0] 38)
 have B6':=B6.alloc (Pi #[lc L.b,lc pq,lc tb,lc w5.heap.size,U3 none 0 0] 38);have s4:=H4.o.1.size;have s5:=o5.size;have s3:=H3.o.1.size;have f4':∀g∈F4,w.heap.size<=g:=λg hg=>(H4.o.2.1 g hg).elim (H3.o.2 g) (λh=>by omega);have f5':∀g∈F5,w.heap.size<=g:=λg hg=>(f5 g hg).elim (f4' g) (λh=>by omega)
 have oQ:i7 w w5:=(H3.o.1.trans (H4.o.1.bI s3 H3.o.2)).trans (o5.bI ls f4');have T5:TQ w5 tb ⟨pq,x.b,x.L⟩ F5 qc.1 (2+4*pg) 50:=⟨H4.o.2.2.2.1.only o5 H4.o.2.2.2.ne,P5.le ls⟩;have H9:=xh<|rx B7 (rx B6' (rx (T5.below ja) (rx (aE oQ ja) (show ∀g∈(w5.alloc (Pi #[U3 none 0 0] 45)).heap.size::w5.heap.size::tb::F5,w.heap.size<=g from λg hg=>by
  simp only[ax]at hg
  rcases hg with rfl|rfl|rfl|hg
  .simp;omega
  .omega
  .have:=H4.o.2.2.1;omega
  .exact f5' g hg))))
 have HLX:=HXL.o;clear B6 B7 B6' ja f4' f5' oQ T5 P5 o5 f5 s3 s4 s5;go_wp2;go_ret;rw[HBQ.o];refine⟨_,_,_,⟨pq,x.b,x.L⟩,F5,qc.1,by first|rfl|simp,?_,H9.o.2.1,H9.o.2.2.1,HU.o,yN.o,H9.o.2.2.2.1,H9.o.2.2.2.2⟩;have h9:=H9.o.1;show aM _ _ _ #[lc x.L.b,_,_,_,_];rw[HLX];exact h9
end Sh.Cn
namespace Sh.Cn
open Go.RowKit Pk Dk Pg
variable{k k' n K mm:Nat}{M1 M2 o l:List PR}{q:QS}
def CM(o:List (Option (UV)))(M:List PR)(k:Nat):Prop:= ∃v,TL v M k/\∀s:Sh.QS,s.a.aR=o->∀j,s.ov j=v j
def FM(n:Nat)(d:D)(K k:Nat)(M1 M2:List PR):Prop:= ∀cr,∃o M,Found n d cr K o/\CM o M k/\(M=M1\/M=M2)
def CM.le{o:List (Option (UV))}{M:List PR}(h:CM o M k)(hk:k<=k'):CM o M k':=by
 obtain⟨v,a,b⟩:=h;exact⟨v,a.le hk,b⟩
def FM.le{d:D}{K':Nat}(h:FM n d K k M1 M2)(hK:K<=K')(hk:k<=k'):FM n d K' k' M1 M2:=λcr=>by
 obtain⟨o,M,⟨ep,sl,p,ol,he,od⟩,c,e⟩:=h cr;exact⟨o,M,⟨ep,sl,p,ol,ls,od⟩,c.le hk,e⟩
def Og{s:Sh.QS}(h:TJ s o mm k):CM s.a.aR o k:=by
 obtain⟨v,vo,u,R,To⟩:=h;exact⟨vo,To,λs' hs j=>(Hd hs j).trans (R.o j)⟩
def LU(q:QS)(n:Nat)(l o:List PR)(mm k:Nat):Prop:= ∃b s,dM b n q s/\b.broken=false/\TI s l o mm k
def LG(q:QS)(n K k:Nat)(M1 M2:List PR):Prop:=q.a.n=n/\q.a.c.d.down=true/\q.a.c.d.Ok n/\FM n q.a.c.d K k M1 M2
def LU.le(h:LU q n l o mm k)(hk:k<=k'):LU q n l o mm k':=by
 obtain⟨b,s,u,e,t⟩:=h;exact⟨b,s,u,e,t.le hk⟩
def LU.fm(h:LU q n l o mm k)(hK:q.a.c.ep<=K):q.a.c.d.down=false/\q.a.c.d.Ok n/\FM n q.a.c.d K k o o:=by
 obtain⟨b,s,u,e,t⟩:=h;refine⟨u.a.nd,?_,λcr=>⟨_,o,u.a.found hK cr,Og t.j,.inl rfl⟩⟩;obtain⟨c,α,K1,ea,h0,hA,z,_⟩:=u.a;rw[ea];exact nm z.g.ok h0
def Dn.lg{c:C}{A:Int}(d:Dn (c.aq A) n q.a)(g:Sh.Good c n)(R:fD c.d n c.ep c.slot c.aR c.parts)(hC:CM (c.bU n).aR o k)(he:c.ep<=K):LG q n K k o M2:=
 ⟨d.en,d.d,d.ok,λcr=>⟨_,o,d.found g R he cr,hC,.inl rfl⟩⟩
def ti_wp{s:Sh.QS}(h:TI s l o mm k):∃n0 K0,Sh.Wp s n0 K0:=by
 obtain⟨v,vo,u,R,_⟩:=h;exact R.w
section
variable{q:QS}
def QD(h:q.a.c.d.down=true)(k:Nat):(q.bl k).1.a.c.d=q.a.c.d/\(q.bl k).1.a.n=q.a.n:=by
 unfold QS.bl
 split
 .split
  .exact⟨wk h _ _ _,rfl⟩
  .exact⟨wk h _ _ _,rfl⟩
 .exact⟨rfl,rfl⟩
def hold_d(h:q.a.c.d.down=true)(p:Int):(q.aU p).1.a.c.d=q.a.c.d/\(q.aU p).1.a.n=q.a.n:=by
 have hv:=(gG q).1;have hb:=λk=>QD (q:=q.az.1) (by rw[hv];exact h) k;rw[hv]at hb;unfold QS.aU
 split
 .exact⟨rfl,rfl⟩
 .split
  .exact⟨rfl,rfl⟩
  .split
   .show q.az.1.a.c.d=_/\q.az.1.a.n=_;rw[hv];exact⟨rfl,rfl⟩
   .split
    .exact hb _
    .exact hb _
def get_d(h:q.a.c.d.down=true)(p:Int):(q.cF p).1.a.c.d=q.a.c.d/\(q.cF p).1.a.n=q.a.n:=by
 unfold QS.cF
 split
 .exact hold_d h p
 .rw[N1];exact hold_d h p
def readN_d(h:q.a.c.d.down=true)(p:Int):(q.aT p).1.a.c.d=q.a.c.d/\(q.aT p).1.a.n=q.a.n:=by
 have:=get_d h p;unfold QS.aT
 split
 .exact this
 .exact this
def open_d(h:q.a.c.d.down=true):q.dJ.1.a.c.d=q.a.c.d/\q.dJ.1.a.n=q.a.n:=by
 have hr:q.kl.1.a.c.d=q.a.c.d/\q.kl.1.a.n=q.a.n:=by
  have hn:∀p,(q.bE p).1.a.c.d=q.a.c.d/\(q.bE p).1.a.n=q.a.n:=λp=>⟨NZ h _ _,rfl⟩;unfold QS.kl
  split
  .exact hn _
  .exact⟨rfl,rfl⟩
 unfold QS.dJ
 split
 .exact hr
 .obtain⟨a,b⟩:=readN_d (q:=q.kl.1) (by rw[hr.1];exact h) 0;exact⟨a.trans hr.1,b.trans hr.2⟩
end
def LG.open_(h:LG q n K k M1 M2):LG q.bt.dJ.1 n K k M1 M2:=by
 obtain⟨a,b,c,d⟩:=h;obtain⟨e1,e2⟩:=open_d (q:=q.bt) b;have e1:q.bt.dJ.1.a.c.d=q.a.c.d:=e1;exact⟨e2.trans a,by rw[e1];exact b,by rw[e1];exact c,by rw[e1];exact d⟩
def DoR(w w':BY)(wb mb tb:Nat)(I:Ix)(F:List Nat)(n K mm k:Nat)(M1 M2:List PR):Prop:=
 (∃tr AN F' WJ vo' q' l' o',TW w' wb tr AN I F' WJ vo' q' n K l' o'/\LU q' n l' o' mm k/\ah (wb::mb::F) w w'/\FrA (mb::tb::F) w.heap.size (AN::tr::F'))\/
 (∃F' q' v2 v3 v4,PQ w' I F' q' n K/\LG q' n K k M1 M2/\aM w' wb 38 #[dp I.L.b,pp I.pb,v2,v3,v4]/\ah (wb::mb::F) w w'/\FrA (mb::tb::F) w.heap.size F')
section
variable{w w':BY}{wb tb mb:Nat}{I:Ix}{F:List Nat}{vo:By}{q1:QS}{s1:Sh.QS}{n K mm k:Nat}{l' o M2:List PR}{B Bs:Prop}{c:C}{A:Int}
def FL(hD:(B/\qg w w' wb mb tb I F n K q1 vo o)\/(¬B/\ll w w' wb mb tb I F n K q1 vo l' o))(d:LG q1 n K k o M2):DoR w w' wb mb tb I F n K mm k o M2:=by
 right
 rcases hD with⟨_,⟨_,tr,AN,F',T,ho,f⟩|⟨_,F',mv,P,Bk,S,ho,f⟩⟩|⟨_,F',WJ,T,ho,f⟩
 .exact⟨F',_,_,_,_,T.t.2,d.open_,T.b,ho,λg hg=>f g (by simp[hg])⟩
 .exact⟨F',_,_,mv,vo,P,d.open_,Bk,ho,f⟩
 .exact⟨F',q1,_,_,_,T.t.2,d,T.b,ho,λg hg=>f g (by simp[hg])⟩
def zV(hD:(B/\qg w w' wb mb tb I F n K q1 vo o)\/(¬B/\ll w w' wb mb tb I F n K q1 vo l' o))(hT:Dn (c.aq A) n q1.a\/(dM (c.aq A) n q1 s1/\(B↔Bs)))(hP:(Bs/\TJ s1 o mm k)\/(¬Bs/\TI s1 l' o mm k))
 (g:Sh.Good c n)(R:fD c.d n c.ep c.slot c.aR c.parts)(hC:CM (c.bU n).aR o k)(he:c.ep<=K):DoR w w' wb mb tb I F n K mm k o M2:=by
 rcases hT with d|⟨u,hb⟩
 .exact FL hD (d.lg g R hC he)
 .rcases hP with⟨bu,J⟩|⟨bu,J⟩
  .obtain⟨x,y⟩:=J.back;have hD':=hD
   rcases hD with⟨_,hB⟩|⟨hn,_⟩
   .rcases u.abort.dJ with d|⟨u2,e⟩
    .right
     rcases hB with⟨_,tr,AN,F',T,ho,f⟩|⟨_,F',mv,P,Bk,S,ho,f⟩
     .exact⟨F',_,_,_,_,T.t.2,d.lg g R hC he,T.b,ho,λg hg=>f g (by simp[hg])⟩
     .exact⟨F',_,_,mv,vo,P,d.lg g R hC he,Bk,ho,f⟩
    .left
     rcases hB with⟨_,tr,AN,F',T,ho,f⟩|⟨h0,_⟩
     .exact⟨tr,AN,F',vo,vo,_,o,o,T,⟨c.aq A,_,u2,g.br,y⟩,ho,f⟩
     .exact eq (e.trans x) h0
   .exact eq (hb.2 bu) hn
  .rcases hD with⟨hB,_⟩|⟨_,F',WJ,T,ho,f⟩
   .exact eq (hb.1 hB) bu
   .exact .inl ⟨tb,mb,F',WJ,vo,q1,l',o,T,⟨_,s1,u,g.br,J⟩,ho,f⟩
end
def Tw.stb{b:C}{r:QS×Int}{s:Sh.QS×Int}(h:Tw b n r s):Dn b n r.1.a\/(dM b n r.1 s.1/\(nA r.2↔nA s.2)):=h.imp id λ⟨a,e⟩=>⟨a,by rw[e]⟩
def Cu{e:Int}(h:e≠11)(h2:e≠12):¬nA e:=λx=>x.elim h h2
section
variable{w:BY}{wb tb mb:Nat}{I:Ix}{F:List Nat}{vl vo:By}{q:QS}{n Kz mm k:Nat}{l o:List PR}
def LU.base(h:TW w wb tb mb I F vl vo q n Kz l o)(u:LU q n l o mm k):∃c A s,dM (c.aq A) n q s/\TI s l o mm k/\Sh.Good c n/\fD c.d n c.ep c.slot c.aR c.parts/\CM (c.bU n).aR o k/\c.ep<=Kz:=by
 obtain⟨b,s,up,hb,t⟩:=u;obtain⟨c,g,R,e1,e2,U⟩:=up.a.rebase hb;obtain⟨c',z⟩:=h.t.2.wp.H.z;have he:=z.be;have hc:q.a.c=c':=by rw[z.e]
 exact⟨c,b.d.aq,s,⟨U,up.l,up.h⟩,t,g,R,by rw[e2];exact Og t.j,by rw[e1,hc];exact he⟩
def live_set(h:TW w wb tb mb I F vl vo q n Kz l o)(u:LU q n l o mm k)(hk:k<100)(hK:Kz<=999900000000)(kd nn:Int)(key til val:Nm)(xM:key.size<=100000)(Gb:val.size<=100000)(wu:kd=0\/kd=1\/kd=2\/kd=3\/kd=4)(M2:List PR):
  io prog 15 #[lc wb,.agg (uG kd nn key til val)] w λe w'=> ∃β,e=fd (WF β)/\DoR w w' wb mb tb I F n (Kz+40000000) mm (k+1) o M2:=by
 obtain⟨c,A,s,up,t,g,R,hC,he⟩:=LU.base h u;refine(tdo_set h (by have:=t.sorted.2;omega) hK kd nn key til val xM Gb wu).mono λe w' ⟨β,r,D⟩=>⟨β,r,zV (Bs:=nA (s.fC key val).2) D (up.fC key val).stb ?_ g R (hC.le ls) ls⟩
 rcases t.setM key val hk with⟨x,y⟩|⟨x,y⟩
 .exact .inl ⟨.inl x,y⟩
 .refine .inr ⟨?_,y⟩;rw[x]
  split<;>exact Cu ms ms
def live_del(h:TW w wb tb mb I F vl vo q n Kz l o)(u:LU q n l o mm k)(hk:k<100)(hK:Kz<=999900000000)(kd nn:Int)(key til val:Nm)(xM:key.size<=100000)(Gb:val.size<=100000)(wu:kd=5\/kd=6)(M2:List PR):
  io prog 15 #[lc wb,.agg (uG kd nn key til val)] w λe w'=> ∃β,e=fd (WF β)/\DoR w w' wb mb tb I F n (Kz+40000000) mm (k+1) o M2:=by
 obtain⟨c,A,s,up,t,g,R,hC,he⟩:=LU.base h u;refine(tdo_del h (by have:=t.sorted.2;omega) hK kd nn key til val xM Gb wu).mono λe w' ⟨β,r,D⟩=>⟨β,r,zV (Bs:=nA (s.fR key).2) D (up.fR key).stb ?_ g R (hC.le ls) ls⟩
 rcases t.delM key with⟨x,y⟩|⟨x,y⟩
 .exact .inl ⟨.inl x,y.le ls⟩
 .refine .inr ⟨?_,y.le ls⟩;rw[x]
  split<;>exact Cu ms ms
def Sr(h:TW w wb tb mb I F vl vo q n Kz l o)(u:LU q n l o mm k)(hk:k<100)(hK:Kz<=999900000000)(kd nn:Int)(key til val:Nm)(xM:key.size<=100000)(Gb:val.size<=100000)(wu:kd=10)(M2:List PR):
  io prog 15 #[lc wb,.agg (uG kd nn key til val)] w λe w'=> ∃β,e=fd (WF β)/\DoR w w' wb mb tb I F n (Kz+40000000) mm (k+1) o M2:=by
 obtain⟨c,A,s,up,t,g,R,hC,he⟩:=LU.base h u;refine(WN h (by have:=t.sorted.2;omega) hK kd nn key til val xM Gb wu).mono λe w' ⟨β,r,D⟩=>⟨β,r,zV (s1:=(s.eR key til).1) (Bs:=nA (s.eR key til).2.2) D ((up.eR key til).imp id λ⟨a,e⟩=>⟨a,by rw[e]⟩) ?_ g R (hC.le ls) ls⟩
 rcases t.clearM key til with⟨x,y⟩|⟨x,y⟩
 .exact .inl ⟨.inl x,y.le ls⟩
 .refine .inr ⟨?_,y.le ls⟩;rw[x];exact Cu (e:=0) ms ms
def Ss(h:TW w wb tb mb I F vl vo q n Kz l o)(u:LU q n l o mm k)(hk:k<100)(hK:Kz<=999900000000)(kd nn:Int)(key til val:Nm)(xM:key.size<=100000)(Gb:val.size<=100000)(wu:kd=13)(M2:List PR):
  io prog 15 #[lc wb,.agg (uG kd nn key til val)] w λe w'=> ∃β,e=fd (WF β)/\DoR w w' wb mb tb I F n (Kz+40000000) mm (k+1) o M2:=by
 obtain⟨c,A,s,up,t,g,R,hC,he⟩:=LU.base h u;refine(WM h (by have:=t.sorted.2;omega) hK kd nn key til val xM Gb wu).mono λe w' ⟨β,r,D⟩=>⟨β,r,zV (Bs:=nA (s.dk nn).2) D (up.pR nn).stb ?_ g R (hC.le ls) ls⟩;obtain⟨x,y⟩:=t.pR nn;have x:=x.le (show k<=k+1 by omega)
 by_cases hs:nA (s.dk nn).2
 .exact .inl ⟨hs,x.j⟩
 .exact .inr ⟨hs,x⟩
def live_ask(h:TW w wb tb mb I F vl vo q n Kz l o)(u:LU q n l o mm k)(hk:k<100)(hK:Kz<=999900000000)(kd nn:Int)(key til val:Nm)(wu:¬kd=0/\¬kd=1/\¬kd=2/\¬kd=3/\¬kd=4/\¬kd=5/\¬kd=6/\¬kd=10/\¬kd=11/\¬kd=12/\¬kd=13)(M2:List PR):
  io prog 15 #[lc wb,.agg (uG kd nn key til val)] w λe w'=> ∃β,e=fd (WF β)/\DoR w w' wb mb tb I F n (Kz+40000000) mm (k+1) o M2:=by
 obtain⟨c,A,s,up,t,g,R,hC,he⟩:=LU.base h u;refine(tdo_ask h (by have:=t.sorted.2;omega) hK kd nn key til val wu).mono λe w' ⟨β,r,D⟩=>⟨β,r,zV (A:=A) (s1:=(((s.gD key).1.dL key til nn).1.gj key til).1) (Bs:=nA (s.gD key).2.2\/nA ((s.gD key).1.dL key til nn).2.2\/nA (((s.gD key).1.dL key til nn).1.gj key til).2.2) D ?_ ?_ g R (hC.le ls) ls⟩
 .unfold askQ AskB
  rcases up.gD key with d|⟨u1,x1⟩
  .exact .inl ((d.dL _ _ _).gj _ _)
  .rcases u1.dL key til nn with d|⟨u2,x2⟩
   .exact .inl (d.gj _ _)
   .rcases u2.gj key til with d|⟨u3,x3⟩
    .exact .inl d
    .exact .inr ⟨u3,by rw[x1,x2,x3]⟩
 .have x:=((((t.getM key).1.scanM key til nn).1.lastM ls key til).1).le (show k<=k+1 by omega)
  by_cases hs:nA (s.gD key).2.2\/nA ((s.gD key).1.dL key til nn).2.2\/nA (((s.gD key).1.dL key til nn).1.gj key til).2.2
  .exact .inl ⟨hs,x.j⟩
  .exact .inr ⟨hs,x⟩
def Oh(h:TW w wb tb mb I F vl vo q n Kz l o)(u:LU q n l o mm k)(hk:k<100)(hK:Kz<=999900000000)(kd nn:Int)(key til val:Nm)(xM:key.size<=100000)(Gb:val.size<=100000)(wu:kd=11):
  io prog 15 #[lc wb,.agg (uG kd nn key til val)] w λe w'=> ∃β,e=fd (WF β)/\DoR w w' wb mb tb I F n (Kz+40000000) mm (k+1) o l:=by
 obtain⟨c,A,s,up,t,g,R,hC,he⟩:=LU.base h u;have W:=h.t.2.wp;obtain⟨hcan,hU⟩:=up.com g.br W ls;have hti:=t.gZ ⟨n,Kz,up.wps W (ti_wp t),ls⟩;refine(Si h hcan (by have:=t.sorted.2;omega) hK kd nn key til val xM Gb wu).mono λe w' ⟨β,r,D⟩=>⟨β,r,?_⟩;have gone:∀d:LG q.an.1 n (Kz+40000000) (k+1) o l,DoR w w' wb mb tb I F n (Kz+40000000) mm (k+1) o l:=λd=>by
  rcases D with⟨_,F',T,ho,f⟩|D|⟨_,h1,D⟩
  .exact .inr ⟨F',_,_,_,_,T.t.2,d,T.b,ho,λg hg=>f g (by simp[hg])⟩
  .exact FL (B:=nA q.an.2) (l':=l) (.inl D) d
  .exact FL (B:=nA q.an.2) (.inr ⟨h1,D⟩) d
 rcases hU with d|⟨⟨_,e1,e2,c1,⟨e3,e4⟩,e5,e6,e7⟩,hz⟩|⟨⟨b',_,hb',u'⟩,hz⟩
 .exact gone (d.lg g R (hC.le ls) ls)
 .have hti':TI s.an.1 l l mm k:=by
   rcases hti with⟨_,x⟩|⟨x,_⟩
   .exact x
   .rw[hz]at x;exact eq x ms
  refine gone ⟨e1,e2,e3,λcr=>?_⟩
  rcases e4 cr with⟨sl,p,ol,od⟩|⟨sl,p,ol,od⟩
  .exact⟨_,o,⟨_,sl,p,ol,ls,od⟩,by rw[e6];exact(Og t.j).le ls,.inl rfl⟩
  .exact⟨_,l,⟨_,sl,p,ol,ls,od⟩,by rw[e7];exact(Og hti'.j).le ls,.inr rfl⟩
 .rcases hti with⟨x,y⟩|⟨x,y⟩
  .have hq:q.an.2=0:=hz.trans x
   rcases D with⟨_,F',T,ho,f⟩|⟨h1,_⟩|⟨h1,_⟩
   .exact .inl ⟨tb,mb,F',vl,vl,_,l,l,T,⟨b',_,u',hb',y.le ls⟩,ho,f⟩
   .rw[hq]at h1;exact eq h1 (Cu ms ms)
   .exact eq hq h1
  .have hq:q.an.2=11:=hz.trans x;obtain⟨c2,g2,R2,i1,i2,U2⟩:=u'.a.rebase hb';obtain⟨cc,zc⟩:=(W.gZ ls).H.z;have hcc:q.an.1.a.c=cc:=by rw[zc.e]
   have hbe:=zc.be
   rcases D with⟨h1,_⟩|D|⟨_,h1,_⟩
   .rw[hq]at h1;exact eq h1 ms
   .exact zV (B:=nA q.an.2) (Bs:=nA s.an.2) (l':=l) (.inl D) (.inr ⟨⟨U2,u'.l,u'.h⟩,by rw[hz]⟩) (.inl ⟨.inl x,y.le ls⟩) g2 R2 (by rw[i2];exact(Og y).le ls) (by rw[i1,hcc];omega)
   .exact eq (.inl hq) h1
def live_do(h:TW w wb tb mb I F vl vo q n Kz l o)(u:LU q n l o mm k)(hk:k<100)(hK:Kz<=999900000000)(kd nn:Int)(key til val:Nm)(xM:key.size<=100000)(Gb:val.size<=100000)(h12:kd≠12):
  io prog 15 #[lc wb,.agg (uG kd nn key til val)] w λe w'=> ∃β,e=fd (WF β)/\DoR w w' wb mb tb I F n (Kz+40000000) mm (k+1) o (if kd=11 then l else o):=by
 by_cases a11:kd=11
 .rw[U8 a11];exact Oh h u hk hK kd nn key til val xM Gb a11
 by_cases a0:kd=0\/kd=1\/kd=2\/kd=3\/kd=4
 .exact live_set h u hk hK kd nn key til val xM Gb a0 _
 by_cases a5:kd=5\/kd=6
 .exact live_del h u hk hK kd nn key til val xM Gb a5 _
 by_cases a10:kd=10
 .exact Sr h u hk hK kd nn key til val xM Gb a10 _
 by_cases a13:kd=13
 .exact Ss h u hk hK kd nn key til val xM Gb a13 _
 exact live_ask h u hk hK kd nn key til val ls _
end
end Sh.Cn
namespace Sh
open Go.RowKit Pk Dk Pg
def headL(s l:Nat):UV:=[UInt8.ofNat (65+s),UInt8.ofNat l]
def ry(s l:Nat):Nm:=⟨(headL s l).toArray⟩
def cntR(g:Nm×Int):Int×Int:=if g.2=9 then(0,0)else if g.2≠0 then(0,g.2)else((qD g.1.data.toList:Int)-9223372036854775808,0)
def FN(name:Nm):Nm:=ry 7 0++name
def QS.ic(q:QS)(name:Nm):QS×Int×Int:=((q.gD (FN name)).1,cntR (q.gD (FN name)).2)
def WY(n least:Int):Prop:=least<=n/\n<=1099511627776
instance(n least:Int):Decidable (WY n least):=by unfold WY;exact inferInstance
def QS.addF(q:QS)(name:Nm)(n:Int):QS×Int×Int:=
 if(q.ic name).2.2≠0 then((q.ic name).1,0,(q.ic name).2.2)
 else if ¬(WY n (-1099511627776)/\WY (q.ic name).2.1 0/\WY ((q.ic name).2.1+n) 0)then((q.ic name).1,0,3)
 else if((q.ic name).1.fC (FN name) ⟨(fM ((q.ic name).2.1+n)).toArray⟩).2≠0 then(((q.ic name).1.fC (FN name) ⟨(fM ((q.ic name).2.1+n)).toArray⟩).1,0,((q.ic name).1.fC (FN name) ⟨(fM ((q.ic name).2.1+n)).toArray⟩).2)
 else(((q.ic name).1.fC (FN name) ⟨(fM ((q.ic name).2.1+n)).toArray⟩).1,(q.ic name).2.1+n,0)
end Sh
namespace Sh
open Go.RowKit Pk Dk Pg
open Nd (E aw)
section
variable{o:Vw}{mm:Nat}
end
def QS.begun21:QS:=(QS.start 5 300).dJ.1
section
variable{w W W':BY}{sb tb:Nat}{I:Ix}{F:List Nat}{q q':QS}{n K K':Nat}
end
def aB:Nm:=⟨#[97]⟩
def nB:Nm:=⟨#[110]⟩
def xB:Nm:=⟨#[120]⟩
def ka1:Nm:=ry 0 1++aB
def ka2:Nm:=ry 0 2++aB
def s1:QS:=(QS.begun21.fC ka1 xB).1
def s2:QS:=(s1.gD ka1).1
def s3:QS:=(s2.gD ka2).1
def s4:QS:=(s3.addF nB 5).1
def s5:QS:=(s4.addF nB (-2)).1
def is8(g:Nm×Int):Prop:=g.2=0->g.1.size=8
instance(g:Nm×Int):Decidable (is8 g):=by unfold is8;exact inferInstance
end Sh
namespace Sh
open Go.RowKit Pk Dk Pg
open Nd (E aJ aP dm bw aY cg aZ)
section
variable{σ:Type}
end
attribute [local go_sem ↓] bP
abbrev Pt:=Int×Int×Nat
def ptc(l:List Pt):List By:=l.flatMap λx=>[U5 U6 x.1,U5 U6 x.2.1,lc x.2.2]
structure RX(w:BY)(xb:Nat)(A:Option Addr)(n c:Nat)(ps:List Pt):Prop where
 b:aM w xb 88 #[U3 A n c]
 s:bm w 103 3 (U3 A n c) n (ptc ps)
section
variable{w W:BY}{xb:Nat}{A:Option Addr}{n c:Nat}{ps:List Pt}{y:Pt}{ze pe:Option Nat}{ve:Option By}
end
end Sh
namespace Sh
open Go.RowKit Pk Dk Pg
def Uk{w:BY}{t t':TypeId}{sz:Nat}{v:By}{m:Nat}{L:List By}(S:bm w t sz v m L){b:Nat}{cs:Array By}(B:aM w b t' cs)(h:t'≠t):∀g∈ak v,g≠b:=by
 rcases S.2 with⟨rfl,_⟩|⟨g,cap,rest,rfl,BB,_⟩
 .intro g hg;simp[ak]at hg
 .intro g' hg;simp only[ak,aG]at hg;subst hg;exact λe=>h ((e▸BB).inj B).1.symm
abbrev De:=Pt×List PR
structure DX(w:BY)(z xb:Nat)(L:List De):Prop where
 x:∃A n c,RX w xb A n c (L.map λe=>e.1)
 m:∀e∈L,∃v,Mp w e.1.2.2 v e.2
 nd:(L.map λe=>e.1.2.2).Nodup
 ku:∀e∈L,∀e'∈L,e.1.1=e'.1.1->e.1.2.1=e'.1.2.1->e=e'
 k:L.length<=10000
 f:z<=xb/\∀e∈L,z<=e.1.2.2
section
variable{w w':BY}{z xb:Nat}{L:List De}{I:Ix}{F:List Nat}{q:QS}{n K:Nat}
def Oi(L:List De)(mb:Nat)(l:List PR):List De:=L.map λe=>if e.1.2.2=mb then(e.1,l)else e
def Oj(L:List De)(mb:Nat)(l:List PR):(Oi L mb l).map (λe=>e.1)=L.map λe=>e.1:=by
 unfold Oi;rw[iQ];apply gm;intro e _;show(if e.1.2.2=mb then(e.1,l)else e).1=e.1
 split<;>rfl
def updL_mb(L:List De)(mb:Nat)(l:List PR):(Oi L mb l).map (λe=>e.1.2.2)=L.map λe=>e.1.2.2:=by
 have:=congrArg (List.map λp:Pt=>p.2.2) (Oj L mb l);rw[iQ,iQ]at this;exact this
def DX.map(h:DX w z xb L){mb:Nat}{v':By}{l l':List PR}{sp lp:Int}(he:((sp,lp,mb),l)∈L)(o:ah [mb] w w')(M:Mp w' mb v' l'):DX w' z xb (Oi L mb l'):=by
 obtain⟨A,n,c,X⟩:=h.x;obtain⟨v0,M0⟩:=h.m _ he;refine⟨⟨A,n,c,?_,?_⟩,λe hm=>?_,by rw[updL_mb];exact h.nd,?_,by unfold Oi;rw[eZ];exact h.k,h.f.1,λe hm=>?_⟩
 .exact X.b.only o (λhx=>(X.b.mx M0.b ms) (aG.1 hx))
 .rw[Oj];exact X.s.only o (λg hg hx=>Uk X.s M0.b ms g hg (aG.1 hx))
 .unfold Oi at hm;obtain⟨e0,h0,rfl⟩:=dq.1 hm
  by_cases hmb:e0.1.2.2=mb
  .rw[U8 hmb];exact⟨v',by show Mp w' e0.1.2.2 v' l';rw[hmb];exact M⟩
  .rw[U9 hmb];obtain⟨v,M1⟩:=h.m e0 h0;exact⟨v,M1.b.only o (by simpa using hmb),M1.s.only o (λg hg hx=>Uk M1.s M0.b ms g hg (aG.1 hx)),M1.n⟩
 .intro e hm e' hm' h1 h2;unfold Oi at hm hm';obtain⟨e0,h0,rfl⟩:=dq.1 hm;obtain⟨e1,h3,rfl⟩:=dq.1 hm';have k0:(if e0.1.2.2=mb then(e0.1,l')else e0).1=e0.1:=by split<;>rfl
  have k1:(if e1.1.2.2=mb then(e1.1,l')else e1).1=e1.1:=by split<;>rfl
  rw[k0,k1]at h1 h2;rw[h.ku e0 h0 e1 h3 h1 h2]
 .unfold Oi at hm;obtain⟨e0,h0,rfl⟩:=dq.1 hm;have k0:(if e0.1.2.2=mb then(e0.1,l')else e0).1=e0.1:=by split<;>rfl
  rw[k0];exact h.f.2 e0 h0
end
end Sh
namespace Sh
open Go.RowKit Pk Dk Pg
def KeyAt(k:Nm)(s l:Nat)(r:Nm):Prop:=s<=7/\l<=5/\r.size<=30/\k=ry s l++r
def rj(M:List PR):Prop:= ∀x∈M,∃s l r,KeyAt x.1 s l r
open Nd (E aJ aP dm bw aY cg aZ)
section
variable{σ:Type}{P:σ->Prop}{jP:σ->Nat}{step:E->σ->σ×Bool}{fr til:Nm}
end
variable{M:List PR}
section
variable{M:List PR}{s l s' l':Nat}(hs:s<=7)(hl:l<=5)(hs':s'<=7)(hl':l'<=5)
include hs hl hs' hl'
end
section
variable{M:List PR}{s l:Nat}(hs:s<=7)(hl:l<=5)(hM:rj M)
include hs hl hM
end
def SI(q:QS)(M:List PR)(k:Nat):Prop:= ∃v o u H Mt,Rd q v o u 300/\Tree v H Mt/\kV Mt=M/\H<=15/\fj Wo (aS v H 0)<=k*2588672/\34*u+fj (λ_=>1) (aS v H 0)<=34+283*k/\M.length<=k/\rj M/\∀x∈M,x.2.size<=1024
def SI.start{q:QS}{o:Vw}(R:Rd q yh o 1 300):SI q [] 0:=
 ⟨yh,o,1,0,[],R,T9,rfl,ls,by have:=T0_pot;omega,by have:=pot0;omega,ai _,λx hx=>(by simp at hx),λx hx=>(by simp at hx)⟩
section
variable{q:QS}{M:List PR}{k:Nat}(h:SI q M k)
include h
end
variable{q:QS}
def rz(q:QS):Prop:= ∀f∈q.l,f.cH=false
def Km(h:rz q)(k:Nat):(il q.l k).cH=false:=by
 unfold il
 cases hx:q.l[k]? with
 |none=>rfl
 |some f=>exact h f (ay hx)
def Cv{q':QS}(h:rz q){k:Nat}{f:Fr}(e:q'.l=q.l.set k f)(hf:f.cH=false):rz q':=λg hg=>by
 rw[e]at hg;exact(oJ hg).elim (h g) (λe=>by rw[e];exact hf)
def Ol(h:rz q):rz q.turn:=h
def FP:∀(m:Nat) {q:QS},rz q->rz (q.gC m).1
 |0,_,h=>h
 |m+1,q,h=>by
  rw[yW]
  split
  .exact FP m (Ol h)
  .split
   .exact FP m (Cv h rfl (Km h _))
   .exact Ol h
def wo(h:rz q):rz q.az.1:=by
 unfold QS.az
 split
 .exact h
 .exact FP _ h
def back_cln(h:rz q)(k:Nat):q.bl k=(q,0):=by
 unfold QS.bl;rw[Km h k,i8]
def hold_cln(h:rz q)(p:Int):rz (q.aU p).1/\(q.aU p).2.2≠11:=by
 unfold QS.aU
 split
 .exact⟨Cv h rfl (Km h _),by show(0:Int)≠11;decide⟩
 .split
  .refine⟨h,?_⟩;show(q.a.aO p).2≠11;unfold St.aO
   split
   .show(0:Int)≠11;decide
   .show(3:Int)≠11;decide
  .split
   .exact⟨wo h,by show(12:Int)≠11;decide⟩
   .rw[back_cln (wo h)]
    split
    .rename_i h0;exact eq rfl h0
    .exact⟨Cv (wo h) rfl rfl,by show(0:Int)≠11;decide⟩
def let_cln(h:rz q)(p:Int):rz (q.fG p).1:=by
 unfold QS.fG QS.eX
 split
 .exact h
 .rename_i k f hk
  split at hk
  .cases hk
  .split at hk
   .cases hk
   .rename_i f' hf
    split at hk
    .cases hk
    .injection hk with hk
     injection hk with h1 h2
     subst h1 h2;exact Cv h rfl (show f'.cH=false from h f' (ay hf))
def Ul(h:rz q)(p:Int):rz (q.cF p).1/\(q.cF p).2.2≠11:=by
 obtain⟨a,b⟩:=hold_cln h p;unfold QS.cF
 split
 .exact⟨a,b⟩
 .exact⟨let_cln a p,by show(0:Int)≠11;decide⟩
def Su{e:Int}(h:e≠11):rH e≠11:=by
 unfold rH
 split
 .decide
 .exact h
def WZ(h:rz q)(p:Int):rz (q.cW p).1/\(q.cW p).2.2.2≠11:=by
 obtain⟨a,b⟩:=Ul h p;unfold QS.cW
 split
 .exact⟨a,b⟩
 .split
  .exact⟨a,by show(14:Int)≠11;decide⟩
  .exact⟨a,by show(0:Int)≠11;decide⟩
def II:∀(m:Nat) {q:QS} (_:rz q) (p:Int) (l:List Int) (b:UV),rz (q.hJ m p l b).1/\(q.hJ m p l b).2.2.2≠11
 |0,_,h,_,_,_=>⟨h,by show(14:Int)≠11;decide⟩
 |m+1,q,h,p,l,b=>by
  obtain⟨a,c⟩:=WZ h p;unfold QS.hJ
  split
  .exact⟨a,by show(14:Int)≠11;decide⟩
  .split
   .exact⟨a,c⟩
   .split
    .exact⟨a,by show(14:Int)≠11;decide⟩
    .split
     .exact⟨a,by show(0:Int)≠11;decide⟩
     .exact II m a _ _ _
def W7(h:rz q)(x:E):rz (q.cC x).1/\(q.cC x).2.2≠11:=by
 unfold QS.cC
 split
 .exact⟨h,by show(0:Int)≠11;decide⟩
 .obtain⟨a,b⟩:=II 5 h x.bh [] [];exact⟨a,Su b⟩
def get_11(b:UV):(aJ b).2.2≠11:=by
 unfold aJ
 split
 .rename_i h;show Sl.bH b≠11;unfold Sl.bH
  repeat' split
  all_goals decide
 .split
  .show(0:Int)≠11;decide
  .show(14:Int)≠11;decide
def IJ(h:rz q)(p:Int):rz (q.aT p).1/\(q.aT p).2.2.2≠11:=by
 obtain⟨a,b⟩:=Ul h p;unfold QS.aT
 split
 .exact⟨a,Su b⟩
 .exact⟨a,Su (get_11 _)⟩
section
variable{σ:Type}
def xZ(rec:QS->Nat->σ->Int->Wk σ)(step:E->σ->σ×Bool)(fr til:Nm)(leaf:Bool)(first:Nat)(hr:∀q n s p,rz q->rz (rec q n s p).q/\(rec q n s p).e≠11):∀(l:List E) (i:Nat) (q:QS) (seen:Nat) (s:σ),rz q->rz (fP rec step fr til leaf first i l q seen s).q/\(fP rec step fr til leaf first i l q seen s).e≠11
 |[],_,_,_,_,h=>⟨h,by show(0:Int)≠11;decide⟩
 |x::l,i,q,seen,s,h=>by
  unfold fP
  split
  .exact xZ rec step fr til leaf first hr l _ _ _ _ h
  .split
   .exact⟨h,by show(0:Int)≠11;decide⟩
   .split
    .split
     .exact xZ rec step fr til leaf first hr l _ _ _ _ h
     .exact⟨h,by show(0:Int)≠11;decide⟩
    .split
     .exact xZ rec step fr til leaf first hr l _ _ _ _ (hr _ _ _ _ h).1
     .exact hr _ _ _ _ h
def IK(step:E->σ->σ×Bool)(fr til:Nm):∀(d:Nat) (q:QS) (seen:Nat) (s:σ) (p:Int),rz q->rz (et step fr til d q seen s p).q/\(et step fr til d q seen s p).e≠11
 |0,_,_,_,_,h=>⟨h,by show(14:Int)≠11;decide⟩
 |d+1,q,seen,s,p,h=>by
  unfold et
  split
  .exact⟨h,by show(14:Int)≠11;decide⟩
  .obtain⟨a,b⟩:=IJ h p
   split
   .exact⟨a,b⟩
   .exact xZ _ step fr til _ _ (IK step fr til d) _ _ _ _ _ a
end
def Om:∀(l:List E) (q:QS) (out:List PR),rz q->rz (gV l q out).1/\(gV l q out).2.2≠11
 |[],_,_,h=>⟨h,by show(0:Int)≠11;decide⟩
 |x::l,q,out,h=>by
  obtain⟨a,b⟩:=W7 h x;unfold gV
  split
  .exact⟨a,b⟩
  .exact Om l _ _ a
def scan_cln(h:rz q)(fr til:Nm)(n:Int):rz (q.dL fr til n).1/\(q.dL fr til n).2.2≠11:=by
 obtain⟨a,b⟩:=IK (km n) fr til 16 q 0 [] 0 h;unfold QS.dL
 split
 .exact⟨a,b⟩
 .exact Om _ _ _ a
def W8(q:QS):rz q.bt:=λf hf=>by rw[show f=Fr.nil from jQ hf];rfl
def open_cln(h:rz q)(hp:q.a.jW.length≠0):rz q.dJ.1:=by
 unfold QS.dJ QS.kl;rw[U9 hp,i8];exact(IJ h 0).1
def Bk(q:QS)(M:List PR):Prop:=rz q/\∃v u H Mt,Rd q v v u 0/\Tree v H Mt/\kV Mt=M/\H<=15/\M.length<=30/\rj M
open Go.RowKit Go.ChangeShapes Go.WideShapes Go.Deep Pk Dk Pg
variable{w w':BY}{n:Nat}
instance:Inhabited Tac:=⟨⟨0,0,.empty,.empty,.empty⟩⟩
structure On(w:BY)(ad:Addr)(a:Tac):Prop where
 c0:w.cell? ad=some (U5 U6 a.kd)
 c1:w.cell? ⟨ad.block,ad.off+1,none⟩=some (U5 U6 a.n)
 c2:w.cell? ⟨ad.block,ad.off+2,none⟩=some (U7 a.key)
 c3:w.cell? ⟨ad.block,ad.off+3,none⟩=some (U7 a.til)
 c4:w.cell? ⟨ad.block,ad.off+4,none⟩=some (U7 a.val)
def FQ(w:BY)(A:Option Addr)(n:Nat)(F:Nat->Tac):Prop:= ∀k,k<n->∃ad,A=some ad/\On w (ad.add (k*5)) (F k)
def On.below{ad:Addr}{a:Tac}(h:On w ad a)(hb:i7 w w'):On w' ad a:=by
 have dP:=dU h.c0;have e:∀j:Nat,w'.cell? ⟨ad.block,ad.off+j,none⟩=w.cell? ⟨ad.block,ad.off+j,none⟩:=λj=>hb.cell (p:=⟨ad.block,ad.off+j,none⟩) dP;exact⟨(hb.cell dP).trans h.c0,(e 1).trans h.c1,(e 2).trans h.c2,(e 3).trans h.c3,(e 4).trans h.c4⟩
def FQ.below{A:Option Addr}{F:Nat->Tac}(h:FQ w A n F)(hb:i7 w w'):FQ w' A n F:=by
 intro k hk;obtain⟨ad,e,h1⟩:=h k hk;exact⟨ad,e,h1.below hb⟩
def add_att(a:Addr)(i j:Nat)(hj:0<j):(a.add i).add j=⟨(a.add i).block,(a.add i).off+j,none⟩:=by
 rw[Addr.add,ge]
def W9(a:Addr):a.add 0=a:=by simp[Addr.add]
def Sv{α:Type}[Inhabited α]{p:Nat->α->Prop}(h:∀k,k<n->∃x,p k x):∃F:Nat->α,∀k,k<n->p k (F k):=by
 refine⟨λk=>if hk:k<n then Classical.choose (h k hk)else default,λk hk=>?_⟩;show p k (if hk:k<n then Classical.choose (h k hk)else default);rw[dif_pos hk];exact Classical.choose_spec (h k hk)
def tacts_of{H:Type}{enc:TypeId×By->H}{base:Nat}{v:By}{d:DataW H}{ps:List MemPlace}(fN:Value.okWide prog w .any base 22 v)(h:DataW.Trod enc prog w 0 (λ_=>true) true 22 v d ps):
  ∃(A:Option Addr) (n c:Nat) (F:Nat->Tac),v=U3 A n c/\n<=9223372036854775807/\FQ w A n F:=by
 obtain⟨a0,len,cap,rfl⟩:=Go.WideShapes.okWide_slice underlying22 fN;obtain⟨fuel,hf⟩:=h;have hce:prog.cellsOf 28=5:=pm
 rcases open_slice underlying22 hf with⟨Ov,_⟩|⟨a,len',Ky,m,n,D,Pl,Ov,_,hl,hm,hmm,_,py⟩
 .simp[Value.cells]at Ov;obtain⟨rfl,rfl,rfl⟩:=Ov;exact⟨none,0,0,λ_=>default,rfl,bG _,λk hk=>eq hk ls⟩
 .simp[Value.cells]at Ov;obtain⟨rfl,rfl,rfl⟩:=Ov;simp at hmm;have each:∀k,k<len->∃x:Tac,On w (a.add (k*5)) x:=by
   intro k hk;obtain⟨cs',Ov,Kk⟩:=py k ls;rw[hce]at Ov;obtain⟨_,_,Rj⟩:=World.cells?_some Ov;obtain⟨y,rfl,_⟩:=Wr underlying28 pm rfl rfl rfl rfl rfl pm pm pm pm pm underlying3 underlying3 underlying9 underlying9 underlying9 Kk;have g0:=Rj 0 ls;have g1:=Rj 1 ls;have g2:=Rj 2 ls;have g3:=Rj 3 ls;have g4:=Rj 4 ls
   rw[W9]at g0;rw[add_att _ _ _ ls]at g1 g2 g3 g4;exact⟨y,g0,g1,g2,g3,g4⟩
  obtain⟨F,hF⟩:=Sv (p:=λk x=>On w (a.add (k*5)) x) each;exact⟨some a,len,cap,F,rfl,by unfold maxLen at hm;omega,λk hk=>⟨a,rfl,hF k hk⟩⟩
def Oo(kd nn:Int)(key til val:Nm)(w:BY)(b:Bool)(hb:b=decide (key.size<200/\til.size<200/\val.size<3000)):io prog 14 #[.agg #[kd,nn,U7 key,U7 til,U7 val]] w λe w'=>e=fd (WF b)/\i7 w w':=by
 have B0:=xh<|aM.new w 28 (uG kd nn key til val);have O0:=xh<|i6 w (Pi (uG kd nn key til val) 28);have y2:=B0.ap 2;have y3:=B0.ap 3;have y4:=B0.ap 4;unfold uG at *
 by_cases h1:key.size<200
 .have h1I:(key.size:Int)<200:=ls
  by_cases h2:til.size<200
  .have h2I:(til.size:Int)<200:=ls
   by_cases h3:val.size<3000
   .have h3I:(val.size:Int)<3000:=ls
    rw[ww ⟨h1,h2,h3⟩]at hb;subst hb;clear h1 h2 h3;go_in;go_wp2;go_ret;exact bz O0.o
   .have h3I:¬(val.size:Int)<3000:=ls
    rw[wn (λh=>h3 h.2.2)]at hb;subst hb;clear h1 h2 h3;go_in;go_wp2;go_ret;exact bz O0.o
  .have h2I:¬(til.size:Int)<200:=ls
   rw[wn (λh=>h2 h.2.1)]at hb;subst hb;clear h1 h2;go_in;go_wp2;go_ret;exact bz O0.o
 .have h1I:¬(key.size:Int)<200:=ls
  rw[wn (λh=>h1 h.1)]at hb;subst hb;clear h1;go_in;go_wp2;go_ret;exact bz O0.o
end Sh
namespace Sh.Cn
open Go.RowKit Pk Dk Pg
structure Um(w W:BY)(wb mb tb:Nat)(I:Ix)(F:List Nat)(q:QS)(n K:Nat)(aR:By):Prop where
 b:aM W wb 38 #[dp I.L.b,pp I.pb,tp tb,lp mb,aR]
 t:TQ W tb I F q n K
 o:i7 w W
 f:∀g∈wb::mb::tb::F,w.heap.size<=g
section
variable{w W W':BY}{wb mb tb:Nat}{I:Ix}{F:List Nat}{q q':QS}{n K K':Nat}{aR:By}
def Um.nw(h:Um w W wb mb tb I F q n K aR):wb∉F:=h.t.2.jL h.b
def Um.pq(h:Um w W wb mb tb I F q n K aR)(P:PQ W' I F q' n K')(o:ah F W W'):Um w W' wb mb tb I F q' n K' aR:=
 ⟨h.b.only o h.nw,h.t.next o P,h.o.trans (o.bI h.o.size (λg hg=>h.f g (by simp[hg]))),h.f⟩
def Um.pt(h:Um w W wb mb tb I F q n K aR)(p:PT W W' I F q' n K'):∃F',Um w W' wb mb tb I F' q' n K' aR:=by
 obtain⟨F',P,o,f⟩:=p;refine⟨F',h.b.only o h.nw,⟨h.t.1.only o h.t.ne,P⟩,h.o.trans (o.bI h.o.size (λg hg=>h.f g (by simp[hg]))),λg hg=>?_⟩;have hs:=h.o.size;simp only[ax]at hg
 rcases hg with rfl|rfl|rfl|hg
 .exact h.f _ lw
 .exact h.f _ lw
 .exact h.f _ lw
 .exact(f g hg).elim (λh1=>h.f g (by simp[h1])) (λh1=>by omega)
def Um.below(h:Um w W wb mb tb I F q n K aR)(hb:i7 W W'):Um w W' wb mb tb I F q n K aR:=
 ⟨h.b.below hb h.b.lt,h.t.below hb,aE h.o hb,h.f⟩
end
def Oq(w:BY):io prog 13 #[] w λe w'=>e=fd (WF true)/\i7 w w':=by
 have KB:=xh<|FK w 4 60 ls ls ls ls;go_in;go_wp2_with fail;go_call KB.o as e w1 ⟨wb,tb,mb,I,F,q0,rfl,B1,BM,T1,⟨b0,u0,br0,ar0⟩,R1,O1,f1⟩;obtain⟨g1,g2,g3,g4,g5⟩:=Ns R1;obtain⟨u1,g1'⟩:=(u0.fC kB k1).up0 ar0;obtain⟨u2,g2'⟩:=(u1.fC kA k2).up0 ar0;obtain⟨u3,g3'⟩:=(u2.dL zJ zJ 9).up0 ar0;obtain⟨u4,g4'⟩:=(u3.gD kA).up0 ar0;obtain⟨_,g5'⟩:=(u4.fR kC).up0 ar0
 replace g1:=g1'.trans g1
 replace g2:=g2'.trans g2
 replace g3:=g3'.trans g3
 replace g4:=g4'.trans g4
 replace g5:=g5'.trans g5
 clear u0 u1 u2 u3 u4 br0 ar0 g1' g2' g3' g4' g5';obtain⟨cq1,h1⟩:∃x,(q0.fC kB k1).1=x:=⟨_,rfl⟩;rw[h1]at g2 g3 g4 g5;obtain⟨cq2,h2⟩:∃x,(cq1.fC kA k2).1=x:=⟨_,rfl⟩;rw[h2]at g3 g4 g5;obtain⟨cq3,h3⟩:∃x,(cq2.dL zJ zJ 9).1=x:=⟨_,rfl⟩;rw[h3]at g4 g5;obtain⟨cq4,h4⟩:∃x,(cq3.gD kA).1=x:=⟨_,rfl⟩;rw[h4]at g5;have A1:Um w w1 wb mb tb I F q0 242 50 (U3 none 0 0):=⟨B1,T1,O1,f1⟩;have x1:=B1.bi 2;have K1:=Fu T1 ls kB k1 ms ms
 rw[g1,h1]at K1;have K1:=xh K1;have K2:=xh (λ(W:BY) (F:List Nat) (hW:TQ W tb I F cq1 242 150)=>Fu hW ls kA k2 ms ms);have K3:=xh (λ(W:BY) (F:List Nat) (hW:TQ W tb I F cq2 242 250)=>zQ hW ls zJ zJ 9);have K4:=xh (λ(W:BY) (F:List Nat) (hW:TQ W tb I F cq3 242 300250)=>IB hW ls kA);have K5:=xh (λ(W:BY) (F:List Nat) (hW:TQ W tb I F cq4 242 300271)=>Fv hW ls kC)
 rw[g2,h2]at K2;rw[g3,h3]at K3;rw[g4,h4]at K4;rw[g5]at K5;have A1:=xh A1;clear B1 BM T1 R1 O1 f1 g1 g2 g3 g4 g5 h1 h2 h3 h4;unfold tp kA kB kC k1 k2 zJ at *;unfold lp;go_wp2_with fail;go_call K1.o as e w2 ⟨rfl,p2⟩;obtain⟨F2,A2⟩:=A1.o.pt p2;have x2:=A2.b.bi 2;have K2:=xh<|K2.o w2 F2 A2.t;have A2:=xh A2;clear p2 x1;unfold tp at x2;go_wp2_with fail;go_call K2.o as e w3 ⟨rfl,p3⟩;obtain⟨F3,A3⟩:=A2.o.pt p3
 have x3:=A3.b.bi 2;have K3:=xh<|K3.o w3 F3 A3.t;have A3:=xh A3;clear p3 x2;unfold tp at x3;go_wp2_with fail;go_call K3.o as e w4 ⟨v,rfl,S4,P4,o4,f4⟩;have A4:Um w w4 wb mb tb I F3 cq3 242 300250 (U3 none 0 0):=A3.o.pq P4 o4;have x4:=A4.b.bi 2;have K4:=xh<|K4.o w4 F3 A4.t;have A4:=xh A4;have S4:=xh<|rx S4 f4;clear P4 o4 f4 x3;unfold tp at x4;go_wp2_with fail;go_call K4.o as e w5 ⟨rfl,P5,o5⟩
 have A5:Um w w5 wb mb tb I F3 cq4 242 300271 (U3 none 0 0):=A4.o.pq P5 o5;have S5:bm w5 42 2 v 2 (kL [(⟨#[97]⟩,⟨#[50]⟩),(⟨#[98]⟩,⟨#[49]⟩)]):=S4.o.1.only o5 (λg hg hm=>by have h1:=S4.o.2 g hg;have h2:=A3.o.t.2.lt g hm;omega);obtain⟨VA,vc,rfl⟩:=aI S5;have ja:=i6 w5 (Pi #[U7 ⟨#[97]⟩,U7 ⟨#[50]⟩,U7 ⟨#[98]⟩,U7 ⟨#[49]⟩] 42)
 have SB:bm (w5.alloc (Pi #[U7 ⟨#[97]⟩,U7 ⟨#[50]⟩,U7 ⟨#[98]⟩,U7 ⟨#[49]⟩] 42)) 42 2 (U3 (lc w5.heap.size) 2 2) 2 (kL [(⟨#[97]⟩,⟨#[50]⟩),(⟨#[98]⟩,⟨#[49]⟩)]):=⟨rfl,.inr ⟨w5.heap.size,2,[],rfl,aM.new _ _ _,rfl,ms⟩⟩;have KS:=xh<|xT (S5.below ja) SB ls ls true lw;have A6:=xh<|A5.below ja;clear P5 o5 S5 SB ja A5 x4;go_wp2_with fail;go_call KS.o as e w7 ⟨rfl,oC⟩;have A7:=A6.o.below oC
 have x7:=A7.b.bi 2;have K5:=xh<|K5.o w7 F3 A7.t;have A7:=xh A7;clear oC;unfold tp at x7;go_wp2_with fail;go_call K5.o as e w8 ⟨rfl,p8⟩;obtain⟨F8,A8⟩:=A7.o.pt p8;have A8:=xh A8;clear p8 x7;go_wp2;go_ret;exact bz A8.o.o
end Sh.Cn
namespace Dk
open Go.RowKit
attribute [local go_sem ↓] BJ BL tU
def Kn(w:BY)(g o k:Nat)(hk:k<64):
  (Instr.sliceAt 152 (st (some ⟨g,o,none⟩)) (some (k:li)) none none).run prog w=.ok (U3 (some ⟨g,o+k,none⟩) (64-k) (64-k)) w:=by
 obtain⟨i,hi,hs⟩:∃i,prog.info? 5=some i/\i.size=1:=by
  have:=m8
  cases hq:prog.info? 5 with
  |none=>rw[hq]at this;cases this
  |some i=>rw[hq]at this;exact⟨i,rfl,by simpa using this⟩
 have hb:=λw=>run_sliceBound (P:=prog) (w:=w) U6 (k:Int) 64 .sliceB ls ls;have h64:¬64=k:=ls
 have ea:(⟨g,o,none⟩:Addr).add k=⟨g,o+k,none⟩:=by unfold Addr.add;split<;>simp_all
 simp[Instr.sliceAt,run_underlying zZ,Instr.sliceBounds,Instr.sureAddr,sizeOf,typeInfo,hi,hs,hb,h64,ea,Result.andThen]
def Xa{w:BY}{L:Loc}{n:Nat}{d:D}(h:aX w L n d)(C:Cr)(hC:C.At w)(hm:C.m<=9223372036854775807)(hap:∀ad,C.A=some ad->0<C.m->ad.block∉L.fp):
  io prog 32 #[dp L.b,C.val] w λe w'=>e=fd (U5 U6 0)/\aX w' L n (d.kt C n)/\ah L.fp w w':=by
 have hn:=h.ok.small;have O0:=xh<|(i5 w).alloc (ai _) (Pi #[U3 C.A C.m C.c,C.uO,C.bytes] 67);have B0:=xh<|aM.new w 67 #[U3 C.A C.m C.c,C.uO,C.bytes];have D0:=xh<|h.below O0.o;have C0:=xh<|hC.below O0.o;have dP:=xh h.lt;have Kq:=xh<|h.ok.bZ C;have HCR:=xh<|h.ok.GG C;have f2:=D0.o.f2;have HAP:=xh hap;clear h hC hap;unfold dp Cr.val
 go_in;go_wp2_with fail;generalize w.alloc (Pi #[U3 C.A C.m C.c,C.uO,C.bytes] 67)=W at *;generalize hx:w.heap.size=x at *;have SD:=xh hx;clear hx f2
 go_loopw [6,7,8,9,18] (λjv _ _ _ iv wr=> ∃i:Nat,i<=n/\iv=U5 U6 i/\jv=U5 U6 (D.bZ C d i).2/\aX wr L n (D.bZ C d i).1/\aM wr x 67 #[U3 C.A C.m C.c,C.uO,C.bytes]/\C.At wr/\ah L.fp W wr) (λ_ _ _ _ iv _=>n-(intOf iv).toNat)
 case atStart=>exact⟨0,ls,rfl,rfl,D0.o,B0.o,C0.o,ah.refl _ _⟩
 case round=>
  obtain⟨i,hi,rfl,rfl,hD,hB,hCw,hO⟩:=hrel
  by_cases h:i<n
  .have f0:=hD.f0;have f1:=hD.f1;have f2:=hD.f2;have hjl:=(Kq.o i ls).2;have hxN:x≠L.gN:=by have:=dP.o L.gN (by simp[Loc.fp]);have:=SD.o;omega
   have hxL:x≠L.gL:=by have:=dP.o L.gL (by simp[Loc.fp]);have:=SD.o;omega
   have cl:wr.cell? ⟨L.gL,i,none⟩=some (WF ((D.bZ C d i).1.loose.getD i false)):=hD.hL.ae (by rw[dr,yx _ _ (by rw[hD.ok.loose];exact h)]);have HS:=g9 (D.bZ C d (i+1)=if(D.bZ C d i).1.loose.getD i false then((D.bZ C d i).1.kD C (D.bZ C d i).2 i,(D.bZ C d i).2+1)else D.bZ C d i) rfl;generalize D.bZ C d i=T at *;obtain⟨d1,j⟩:=T;simp only at hD hjl cl HS
   cases hl:d1.loose.getD i false
   .rw[hl]at cl;have HS:=g9 (D.bZ C d (i+1)=(d1,j)) (by rw[HS.o,hl];rfl);have HD:=xh hD;clear hl f0 f1 hD;go_wp2;go_roundw
    case rel=>exact⟨i+1,ls,by go_num,by rw[HS.o],by rw[HS.o];exact HD.o,hB,hCw,hO⟩
    case measure=>simp[intOf];omega
   .rw[hl]at cl;have HS:=g9 (D.bZ C d (i+1)=(d1.kD C j i,j+1)) (by rw[HS.o,hl];rfl);have KL:=xh<|CT C hCw hm hB j ls;have hle:=C.BR j;clear hl;have HK64:=xh<|fo (C.kW j) 64
    rcases HK64.o with hlt64|hge64
    .obtain⟨k,hk⟩:∃k,C.kW j=k:=⟨_,rfl⟩;rw[hk]at KL hle hlt64;have Ca:=λ(g o:Nat) (w':BY)=>Kn w' g o k ls;obtain⟨w2,ec,D2,o2⟩:=GJ hD.drew C j i h (i*64+k) (i*64+k) (.inl ⟨ls,ls,ls⟩) (64-k) ls;have cl2:w2.cell? ⟨L.gL,i,none⟩=some (WF true):=(o2.cell (dU cl) (by simp;exact hD.LN)).trans cl
     have fl2:w2.frozen? ⟨L.gL,i,none⟩=false:=(o2.frozen (dU cl) (by simp;exact hD.LN)).trans (hD.hL.frozen i (by simp;rw[hD.ok.loose];exact h));have f22:w2.cell? ⟨L.b,2,none⟩=some (U3 (lc L.gL) n n):=D2.f2;have D3:=xh<|D2.GI i false;have B2:=xh<|(hB.drew.only o2 (by simp;exact hxN)).bh (p:=⟨L.gL,i,none⟩) (by exact hxL) (WF false)
     have o3:ah L.fp wr (w2.setCell ⟨L.gL,i,none⟩ (WF false)):=(⟨o2.os,o2.tape,o2.output,o2.size,λb hb hn=>o2.block b hb (by simp[Loc.fp]at hn ⊢;exact hn.2.1)⟩:ah L.fp wr w2).setCell (by simp[Loc.fp]) _;have C3:=xh<|hCw.only o3 HAP.o;have O3:=xh<|hO.trans o3;have HD:=xh hD;clear D2 o2 o3 hB hCw hO hD HK64;clear hk;go_wp2_with fail;go_call KL.o as e w1 ⟨rfl,rfl⟩;go_wp2_with fail
     go_region
     all_goals go_wp2_with fail
     all_goals go_roundw
     case rel=>exact⟨i+1,ls,by go_num,by rw[HS.o];go_num,by rw[HS.o];exact D3.o,B2.o,C3.o,O3.o⟩
     case measure=>simp[intOf];omega
    .have Vd:C.kW j=64:=ls
     have HKV:=xh Vd;rw[Vd]at KL;obtain⟨w2,ec,D2,o2⟩:=GJ hD.drew C j i h (i*64) (i*64) (.inr ⟨Vd,rfl,rfl⟩) 0 ls;have cl2:w2.cell? ⟨L.gL,i,none⟩=some (WF true):=(o2.cell (dU cl) (by simp;exact hD.LN)).trans cl;have fl2:w2.frozen? ⟨L.gL,i,none⟩=false:=(o2.frozen (dU cl) (by simp;exact hD.LN)).trans (hD.hL.frozen i (by simp;rw[hD.ok.loose];exact h));have f22:w2.cell? ⟨L.b,2,none⟩=some (U3 (lc L.gL) n n):=D2.f2
     have D3:=xh<|D2.GI i false;have B2:=xh<|(hB.drew.only o2 (by simp;exact hxN)).bh (p:=⟨L.gL,i,none⟩) (by exact hxL) (WF false);have o3:ah L.fp wr (w2.setCell ⟨L.gL,i,none⟩ (WF false)):=(⟨o2.os,o2.tape,o2.output,o2.size,λb hb hn=>o2.block b hb (by simp[Loc.fp]at hn ⊢;exact hn.2.1)⟩:ah L.fp wr w2).setCell (by simp[Loc.fp]) _;have C3:=xh<|hCw.only o3 HAP.o;have O3:=xh<|hO.trans o3;have HD:=xh hD;clear D2 o2 o3 hB hCw hO hD HK64
     clear Vd hle hge64 HKV;go_wp2_with fail;go_call KL.o as e w1 ⟨rfl,rfl⟩;go_wp2_with fail
     go_region
     all_goals go_wp2_with fail
     all_goals go_roundw
     case rel=>exact⟨i+1,ls,by go_num,by rw[HS.o];go_num,by rw[HS.o];exact D3.o,B2.o,C3.o,O3.o⟩
     case measure=>simp[intOf];omega
  .have pI:i=n:=ls
   subst pI;have f3:=hD.f3;have f5:=hD.f5;have z3:=hD.fz 3 ls;have z5:=hD.fz 5 ls;have HD:=xh hD;go_wp2;go_ret;have o1:ah [L.b] wr ((wr.setCell ⟨L.b,5,none⟩ (WF false)).setCell ⟨L.b,3,none⟩ (U5 U6 0)):=((ah.refl _ _).setCell lw _).setCell lw _
   exact⟨rfl,HD.o.head (d':=d.kt C i) ((HD.o.hb.ct 5 (WF false)).ct 3 (U5 U6 0)) o1 rfl rfl rfl HCR.o,((ah.aj (by rw[SD.o];exact O0.o)).trans hO).trans (o1.mono (by simp[Loc.fp]))⟩
end Dk
end Go.Proofs.YtmonobkginiajaaGreat
