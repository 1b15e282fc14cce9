/- packed. -/
import Derived.Deep.Cut
import Derived.Deep.CutRange
import Derived.Test.YtmonobkginiajaaGreatAs5
set_option linter.all false
set_option maxRecDepth 100000
set_option maxHeartbeats 8000000
namespace Go.Proofs.YtmonobkginiajaaGreat
open Go.Proofs.Tryz
open Value renaming slice→U3
open Go renaming World→YB
open List renaming replicate→fd
namespace Sh
open Go.RowKit Pk Dk Pg
variable{c:C}{n:Nat}
theorem J0(a b:Int)(l:List Int)(i:Nat)(hi:i<l.length):(Fm.jO a b l).getD i 0=Fm.oJ a b (l.getD i 0):=by
 unfold Fm.jO;simp only[List.getD,ir,aH hi,mf,jB]
theorem On(g:Good c n):Good c.cq n/\c.cq.bY n={c.bY n with now:=jr (c.bY n).bj}/\c.cq.d=c.d:=by
 have pX:c.cq.m.length=c.m.length:=by unfold C.cq Fm.jO;simp
 have hk:∀x,cO c.cq x=if x∈c.parts then 1 else if x∈c.bj then 1 else 0:=by
  intro x;unfold cO C.cq
  by_cases h1:x∈c.parts
  .simp[h1]
  .by_cases h2:x∈c.bj
   .simp[h1,h2]
   .simp[h1,h2]
 refine⟨⟨g.up,g.arm,g.br,g.ok,pX.trans g.ml,g.ep,g.sl,by rw[pX];exact g.oi,by rw[pX];exact g.oi,by rw[pX];exact g.pi,g.oj,g.oj,g.pj,λx hx=>⟨(g.dt x hx).2,(g.dt x hx).2⟩,g.pl,λi x hi _ _=>hi,λi hi=>?_,λx hx h0=>?_,g.ro⟩,?_,rfl⟩
 .rw[pX]at hi;rw[hk,show c.cq.m=Fm.jO 1 0 c.m from rfl,J0 _ _ _ _ hi,g.md i hi];unfold cO Fm.oJ
  by_cases h1:(i:Int)∈c.parts
  .simp[h1]
  .by_cases h2:(i:Int)∈c.bj
   .by_cases h3:(i:Int)∈c.table<;>simp[h1,h2,h3]
   .by_cases h3:(i:Int)∈c.table<;>simp[h1,h2,h3]
 .obtain⟨q,s,q1,q2,q3,q4⟩:=g.ro x hx h0;exact⟨q,s,q1,by show q<=c.ep+1;omega,q3,q4⟩
 .unfold C.bY;rw[pX];simp only[St.mk.injEq,true_and];refine⟨?_,rfl,rfl⟩;show c.bj.map (C.dh c.cq n)=jr (c.bj.map _);unfold jr;rw[gR];refine fW (λx hx=>?_);unfold C.dh;simp only[Function.comp]
  by_cases h:x<0
  .rw[if_pos h,if_pos h];rfl
  .rw[if_neg h,if_neg h];show some (decide (x∉c.bj),_)=some (false,_);simp[hx];rfl
theorem BO(g:Good c n){k:Nat}(hk:k<c.m.length)(p:pu)(hp:p.length<=232):
  (bt c.d n k (c.ep+1) 2 p).2=0/\∀d',d'=(bt c.d n k (c.ep+1) 2 p).1->d'.down=false/\d'.bu=0/\d'.Ok n/\d'.calls<=c.d.calls+4/\bw d' n k=(⟨k,c.ep+1,2,ft p 232⟩,0)/\
   ∀x:Int,0<=x->x<c.m.length->x≠k->bw d' n x=bw c.d n x:=by
 have e:=g.ep;obtain⟨h1,h2,h3,h4,h5⟩:=nP g.ok g.up g.arm k (c.ep+1) 2 p (kE g hk) (by rw[qs];omega) hp;refine⟨h1,λd' hd=>?_⟩;subst hd;refine⟨h2,h3,uK g.ok _ _ _ _,(sS _ _ _ _ _ _ (by rw[g.arm];omega)).1,h4,λx hx hx1 fF=>?_⟩;have:=h5 x.toNat (kE g (by omega)) (by omega)
 rwa [show((x.toNat:Nat):Int)=x by omega]at this
theorem Oo(g:Good c n){x:Nat}(hx:x<c.m.length)(ht:(x:Int)∈c.table):Fm.cB c.m (x:Int)=decide ((x:Int)∉c.bj):=by
 unfold Fm.cB;rw[show Fm.Er c.m (x:Int)=true from by unfold Fm.Er;simp;omega,show((x:Nat):Int).toNat=x by omega,g.md x hx];unfold cO;rw[if_neg (λh=>(g.dt _ h).1 ht)]
 by_cases ho:(x:Int)∈c.bj
 .simp[ho,ht]
 .simp[ho,ht]
theorem yV{α β:Type}(f f':α->β)(t:List α)(k:Nat)(u:α)(v:β)(hu:f' u=v)(h:∀i x,t[i]?=some x->i≠k->f' x=f x):(t.set k u).map f'=(t.map f).set k v:=by
 apply nM;intro i;rw[ir,jj,jj,ir,bM]
 by_cases e:k=i
 .subst e;rw[if_pos rfl,if_pos rfl]
  by_cases hl:k<t.length
  .rw[if_pos hl,if_pos hl,mf,hu]
  .rw[if_neg hl,if_neg hl];rfl
 .rw[if_neg e,if_neg e]
  cases hx:t[i]? with
  |none=>rfl
  |some x=>rw[mf,mf,h i x hx (λh=>e h.symm)]
theorem Oq(g:Good c n)(l:Int)(p:pu):
  Good (c.aG n l p).1 n/\(c.aG n l p).1.bY n=((c.bY n).aG l p).1/\(c.aG n l p).2=((c.bY n).aG l p).2/\(c.aG n l p).1.d.calls<=c.d.calls+4:=by
 obtain⟨h1,h2⟩:=Am g l;unfold C.aG St.aG;rw[if_neg (by rw[g.br];simp),Bz g]
 by_cases hp:232<p.length
 .rw[if_pos hp,if_pos hp];exact⟨g,rfl,rfl,by show c.d.calls<=_;omega⟩
 rw[if_neg hp,if_neg hp]
 by_cases hh:c.tZ l=true
 .obtain⟨k,x,rfl,hk,hx,e⟩:=h2 hh;have EM:x<c.m.length:=by omega
  have hxt:=aA hk;have e2:c.table.getD ((k:Nat):Int).toNat 0=(x:Int):=by rw[show((k:Nat):Int).toNat=k by omega];simp[List.getD,hk]
  rw[if_pos hh,if_neg (show ¬(0:Int)≠0 by simp),if_neg (show ¬ ¬((c.bY n).at ((k:Nat):Int)).isSome=true by rw[h1.1 hh];simp),e2,e,show((k:Nat):Int).toNat=k by omega];have zL:c.dh n (x:Int)=some (decide ((x:Int)∉c.bj),(bw c.d n x).1.s):=by unfold C.dh;rw[gc]
  rw[zL,Oo g EM hxt];have Jk:=g.ep
  by_cases ho:(x:Int)∈c.bj
  .rw[if_neg (show ¬decide ((x:Int)∉c.bj)=true by simp[ho])]
   by_cases hf:(c.bY n).free=0
   .have JM:c.cB n p=(c,0,11):=by unfold C.cB;rw[xL g hf,i9]
    rw[JM];dsimp only;rw[if_pos (show(11:Int)≠0 by decide),if_pos (show(gw (some (decide ((x:Int)∉c.bj),(bw c.d n x).1.s))=false/\(c.bY n).free=0)from⟨by simp[gw,ho],hf⟩)];exact⟨g,rfl,rfl,by show c.d.calls<=_;omega⟩
   .rw[if_neg (show ¬(gw (some (decide ((x:Int)∉c.bj),(bw c.d n x).1.s))=false/\(c.bY n).free=0)from λh=>hf h.2)];obtain⟨j,hj,h0,ht⟩:=xK g hf;obtain⟨z1,z2,z3⟩:=JP h0;obtain⟨W0,W⟩:=BO g hj p (by omega);have JM:c.cB n p=({c with m:=c.m.set j 2,d:=(bt c.d n j (c.ep+1) 2 p).1},(j:Int),0):=by
     unfold C.cB;rw[ht,i8,if_neg (by rw[W0];simp)]
    rw[JM];dsimp only;rw[if_neg (show ¬(0:Int)≠0 by simp)];obtain⟨w1,w2,w3,w4,w5,w6⟩:=W _ rfl;generalize (bt c.d n j (c.ep+1) 2 p).1=d' at *;have hjx:j≠x:=λe=>z3 (by rw[e];exact hxt);have hlv:(Fm.dS (c.m.set j 2) (x:Int)).1=(c.m.set j 2).set x 3:=by
     unfold Fm.dS;rw[show Fm.Er (c.m.set j 2) (x:Int)=true from by unfold Fm.Er;simp;omega,if_pos rfl,show((x:Nat):Int).toNat=x by omega,kF _ _ _ _ EM,if_neg hjx,g.md x EM];unfold cO;rw[if_neg (λh=>(g.dt _ h).1 hxt),if_pos ho,if_pos hxt];simp
    dsimp only;rw[hlv];have mt:∀y:Int,0<=y->(y∈c.table.set k (j:Int)↔y=j\/(y∈c.table/\y≠x)):=by
     intro y hy
     constructor
     .intro hm;obtain⟨i,hi⟩:=lK hm;rw[jj]at hi
      by_cases e3:k=i
      .rw[if_pos e3]at hi
       split at hi
       .injection hi with hi;exact .inl hi.symm
       .cases hi
      .rw[if_neg e3]at hi;exact .inr ⟨aA hi,λe4=>e3 (g.tj k i y (by rw[e4];exact hk) hi hy)⟩
     .rintro(rfl|⟨hm,fF⟩)
      .have lO:k<c.table.length:=(aR.1 hk).1;exact aA (show(c.table.set k (j:Int))[k]?=some (j:Int) by rw[eu lO])
      .obtain⟨i,hi⟩:=lK hm;have:(c.table.set k (j:Int))[i]?=some y:=by
        rw[jj,if_neg (λe3=>fF (by subst e3;rw[hk]at hi;injection hi with hi;exact hi.symm))];exact hi
       exact aA this
    have hrd:∀y∈c.table,0<=y->bw d' n y=bw c.d n y:=λy hy h0=>by
     have:=g.ti y hy;exact w6 y h0 (by omega) (λe3=>z3 (by rw[<-e3];exact hy))
    have Xs:∀y∈c.bj,0<=y->bw d' n y=bw c.d n y:=λy hy h0=>by
     have:=g.oi y hy;exact w6 y h0 (by omega) (λe3=>z2 (by rw[<-e3];exact hy))
    have JU:∀y:Int,y<0->y∈c.table.set k (j:Int)->y∈c.table:=λy hy hm=>by
     rcases vz hm with h|h
     .exact h
     .omega
    refine⟨⟨w1,w2,g.br,w3,by show((c.m.set j 2).set x 3).length=_;rw[bV,bV];exact g.ml,g.ep,g.sl,?_,?_,?_,?_,g.oj,g.pj,?_,g.pl,?_,?_,?_,?_⟩,?_,rfl,w4⟩
    .intro y hy;show y= -1\/0<=y/\y<(((c.m.set j 2).set x 3).length:Int);rw[bV,bV]
     by_cases h0:0<=y
     .rcases(mt y h0).1 hy with rfl|⟨h,_⟩
      .omega
      .exact g.ti y h
     .exact g.ti y (JU y (by omega) hy)
    .intro y hy;show y= -1\/0<=y/\y<(((c.m.set j 2).set x 3).length:Int);rw[bV,bV];exact g.oi y hy
    .intro y hy;show 0<=y/\y<(((c.m.set j 2).set x 3).length:Int);rw[bV,bV];exact g.pi y hy
    .exact g.tj.cw k _ (.inr z3)
    .intro y hy;refine⟨λhm=>?_,(g.dt y hy).2⟩
     rcases(mt y (g.pi y hy).1).1 hm with rfl|⟨h,_⟩
     .exact z1 hy
     .exact(g.dt y hy).1 h
    .intro i y hi hy hyo;have hi:(c.table.set k (j:Int))[i]?=some y:=hi;rw[jj]at hi
     split at hi
     .split at hi
      .injection hi with hi
       subst hi;exact absurd hyo z2
      .cases hi
     .exact g.sm i y hi hy hyo
    .intro i hi;have hi:i<c.m.length:=by simpa using hi
     show((c.m.set j 2).set x 3).getD i 0=cO _ (i:Int);rw[kF _ _ _ _ (by rw[bV];exact hi),kF _ _ _ _ hi];have hk2:cO {c with d:=d',m:=(c.m.set j 2).set x 3,table:=c.table.set k (j:Int)} (i:Int)=if(i:Int)∈c.parts then 1 else if(i:Int)∈c.bj then(if(i:Int)∈c.table.set k (j:Int)then 1 else 3)else if(i:Int)∈c.table.set k (j:Int)then 2 else 0:=rfl
     rw[hk2];simp only[mt (i:Int) (by omega)]
     by_cases ei:x=i
     .subst ei;rw[if_pos rfl,if_neg (λh=>(g.dt _ h).1 hxt),if_pos ho,gc]
     .rw[if_neg ei]
      by_cases ej:j=i
      .subst ej;rw[if_pos rfl,if_neg z1,if_neg z2,if_pos (.inl rfl)]
      .rw[if_neg ej,g.md i hi];unfold cO;have:((i:Int)=(j:Int)\/(i:Int)∈c.table/\(i:Int)≠(x:Int))↔(i:Int)∈c.table:=by
        constructor
        .rintro(h|h)
         .omega
         .exact h.1
        .exact λh=> .inr ⟨h,by omega⟩
       simp only[this]
    .intro y hy h0
     rcases(mt y h0).1 hy with rfl|⟨h,_⟩
     .exact⟨c.ep+1,_,by omega,ki _,rD p (by omega),w5⟩
     .obtain⟨q,s,q1,q2,q3,q4⟩:=g.rt y h h0;exact⟨q,s,q1,q2,q3,(hrd y h h0).trans q4⟩
    .intro y hy h0;obtain⟨q,s,q1,q2,q3,q4⟩:=g.ro y hy h0;exact⟨q,s,q1,q2,q3,(Xs y hy h0).trans q4⟩
    .unfold C.bY;simp only[bV,St.mk.injEq,true_and,and_true];refine⟨?_,?_⟩
     .refine yV _ _ _ _ _ _ ?_ (λi y hi _=>?_)
      .unfold C.dh;rw[gc];simp only[w5];simp[z2]
      .unfold C.dh
       by_cases h:y<0
       .rw[if_pos h,if_pos h]
       .rw[if_neg h,if_neg h];simp only[hrd y (aA hi) (by omega)]
     .refine fW (λy hy=>?_)
      by_cases h:y<0
      .rw[if_pos h,if_pos h]
      .rw[if_neg h,if_neg h];simp only[Xs y hy (by omega)]
  .rw[if_pos (show decide ((x:Int)∉c.bj)=true by simp[ho]),if_neg (show ¬(gw (some (decide ((x:Int)∉c.bj),(bw c.d n x).1.s))=false/\(c.bY n).free=0) by simp[gw,ho])];obtain⟨W0,W⟩:=BO g EM p (by omega);rw[W0];obtain⟨w1,w2,w3,w4,w5,w6⟩:=W _ rfl;generalize (bt c.d n x (c.ep+1) 2 p).1=d' at *;have Xs:∀y∈c.bj,0<=y->bw d' n y=bw c.d n y:=λy hy h0=>by
    have:=g.oi y hy;exact w6 y h0 (by omega) (λe3=>ho (by rw[<-e3];exact hy))
   have hrd:∀y∈c.table,0<=y->y≠x->bw d' n y=bw c.d n y:=λy hy h0 fF=>by
    have:=g.ti y hy;exact w6 y h0 (by omega) fF
   refine⟨⟨w1,w2,g.br,w3,g.ml,g.ep,g.sl,g.ti,g.oi,g.pi,g.tj,g.oj,g.pj,g.dt,g.pl,g.sm,g.md,λy hy h0=>?_,λy hy h0=>?_⟩,?_,rfl,w4⟩
   .by_cases ey:y=x
    .subst ey;exact⟨c.ep+1,_,by omega,ki _,rD p (by omega),w5⟩
    .obtain⟨q,s,q1,q2,q3,q4⟩:=g.rt y hy h0;exact⟨q,s,q1,q2,q3,(hrd y hy h0 ey).trans q4⟩
   .obtain⟨q,s,q1,q2,q3,q4⟩:=g.ro y hy h0;exact⟨q,s,q1,q2,q3,(Xs y hy h0).trans q4⟩
   .unfold C.bY;simp only[St.mk.injEq,true_and,and_true];refine⟨?_,?_⟩
    .have:=yV (c.dh n) (C.dh {c with d:=d'} n) c.table k (x:Int) (some (true,ft p 232)) (by
      unfold C.dh;rw[gc];simp only[w5];simp[ho]) (λi y hi fF=>by
      unfold C.dh
      by_cases h:y<0
      .rw[if_pos h,if_pos h]
      .rw[if_neg h,if_neg h];simp only[hrd y (aA hi) (by omega) (λey=>fF (g.tj i k y hi (by rw[ey];exact hk) (by omega)))])
     rw[<-this]
     congr 1
     apply nM;intro i;rw[jj]
     by_cases e3:k=i
     .subst e3;rw[if_pos rfl,if_pos (aR.1 hk).1,hk]
     .rw[if_neg e3]
    .refine fW (λy hy=>?_)
     by_cases h:y<0
     .rw[if_pos h,if_pos h]
     .rw[if_neg h,if_neg h];simp only[Xs y hy (by omega)]
 .rw[if_neg hh,if_pos (show(3:Int)≠0 by decide)];have:((c.bY n).at l)=none:=by
   cases h:(c.bY n).at l with
   |none=>rfl
   |some v=>exact absurd (h1.2 (by rw[h];rfl)) hh
  rw[this,if_pos (show ¬(none:Option (Bool×pu)).isSome=true by simp)];exact⟨g,rfl,rfl,by show c.d.calls<=_;omega⟩
variable{n:Nat}{d:D}
theorem Tx(l:List Bool)(k:Nat)(x:Bool)(i:Nat):(l.set k x).getD i false=if k=i/\k<l.length then x else l.getD i false:=by
 simp only[List.getD,jj]
 by_cases h:k=i
 .subst h
  by_cases h2:k<l.length
  .simp[h2]
  .simp[h2]
 .simp[h]
def Calm(n:Nat)(P:Nat->Prop)(d d':D):Prop:= ∀j,j<n->P j->sec d'.now j=sec d.now j/\(d.loose.getD j false=false->d'.loose.getD j false=false)
theorem Calm.refl{P:Nat->Prop}(d:D):Calm n P d d:=λ_ _ _=>⟨rfl,id⟩
theorem Calm.trans{P:Nat->Prop}{a b c:D}(h:Calm n P a b)(k:Calm n P b c):Calm n P a c:=λj hj hp=>by
 obtain⟨h1,h2⟩:=h j hj hp;obtain⟨k1,k2⟩:=k j hj hp;exact⟨k1.trans h1,λe=>k2 (h2 e)⟩
theorem Ot(d:D):d.cW.1.now=d.now/\d.cW.1.loose=d.loose/\d.cW.1.bj=d.bj:=by
 unfold D.cW
 split
 .exact⟨rfl,rfl,rfl⟩
 .split<;>exact⟨rfl,rfl,rfl⟩
theorem Ou(d:D)(k j:Nat)(h:k≠j):(d.jc k).loose.getD j false=d.loose.getD j false:=by
 unfold D.jc
 split
 .rfl
 .show(d.loose.set k true).getD j false=_;rw[Tx,if_neg (λe=>h e.1)]
theorem Ov{P:Nat->Prop}(gj:d.Ok n)(k:Int)(s:pu)(hP:∀j:Nat,(j:Int)=k->¬P j):Calm n P d (d.aG n k s).1:=by
 intro j hj hp;unfold D.aG
 by_cases h0:d.kq n k=0
 .rw[if_pos h0];have hk:0<=k/\k<n:=by
   unfold D.kq at h0
   split at h0
   .cases h0
   .split at h0
    .assumption
    .cases h0
  have fF:k.toNat≠j:=λe=>hP j (by omega) hp;obtain⟨c1,c2,_⟩:=Ot (d.eg k.toNat s);rw[c1,c2];refine⟨?_,λe=>?_⟩
  .show sec (ia d.now k.toNat (kU s)) j=_;rw[QU gj.now (by omega) (kV s) hj,if_neg fF]
  .show(d.jc k.toNat).loose.getD j false=false;rw[Ou _ _ _ fF];exact e
 .rw[if_neg h0];exact⟨rfl,id⟩
theorem Rc{P:Nat->Prop}(gj:d.Ok n)(k:Nat)(b:pu)(hP:∀j,k<=j->j<k+4->¬P j):∀i,i<=4->Calm n P d (w4 d n k b i).1
 |0,_=> .refl d
 |i+1,hi=>by
  have ih:=Rc gj k b hP i (by omega);unfold w4
  split
  .exact ih.trans (Ov (Bh gj k b i) _ _ (λj e=>hP j (by omega) (by omega)))
  .exact ih
theorem rH{P:Nat->Prop}(gj:d.Ok n)(id ep kd:Int)(s:pu)(hP:∀j:Nat,2+4*id.toNat<=j->j<2+4*id.toNat+4->¬P j):Calm n P d (bt d n id ep kd s).1:=by
 unfold bt
 split
 .exact .refl d
 .split
  .exact .refl d
  .exact Rc gj _ _ hP 4 (ai _)
theorem Ty(n j:Nat):(fd n false).getD j false=false:=by
 simp only[List.getD,GO]
 split<;>rfl
theorem uM(h:d.eM.2=0)(j:Nat):d.eM.1.loose.getD j false=false:=by
 unfold D.eM at h ⊢
 by_cases hd:d.down=true
 .rw[if_pos hd]at h;cases h
 rw[if_neg hd]at h ⊢
 by_cases hc:d.cW.2=0
 .rw[if_pos hc];exact Ty _ _
 .rw[if_neg hc]at h;exact absurd h hc
theorem xQ{d':D}(hd:d'.down=d.down)(x:Nat)(hx:x<cH n)(h:∀j,2+4*x<=j->j<2+4*x+4->sec d'.now j=sec d.now j):bw d' n x=bw d n x:=by
 have e:(d'.now.drop (64*(2+4*x))).take 256=(d.now.drop (64*(2+4*x))).take 256:=by
  rw[nz,nz,h _ (by omega) (by omega),h _ (by omega) (by omega),h _ (by omega) (by omega),h _ (by omega) (by omega)]
 unfold bw;rw[hd,show((x:Nat):Int).toNat=x by omega,e]
def arm(u:D)(a:Int):D:={u with bu:=a}
variable{d:D}{n:Nat}{x:Int}{bj parts:List Int}
def upD(d:D):D:={d with down:=false}
theorem upD_eq(h:d.down=false):upD d=d:=by unfold upD;rw[<-h]
def Kept(parts bj:List Int)(j:Nat):Prop:=j<2\/∃x:Nat,((x:Int)∈parts\/(x:Int)∈bj)/\2+4*x<=j/\j<2+4*x+4
structure js(d:D)(n:Nat)(ep slot:Int)(bj parts:List Int):Prop where
 n2:2<=n
 ro:Rt.jn ep (bj.length:Nat) parts
 sl:slot=0\/slot=1
 rt:sec d.now slot.toNat=Rt.fH ep bj.length (parts.map Int.toNat)
 ot:Rt.goodR (sec d.now (1-slot).toNat)->Rt.rF (sec d.now (1-slot).toNat)<ep
 pp:∀(i:Nat) (x:Int),parts[i]?=some x->∃q,0<=q/\q<=ep/\bw (upD d) n x=(⟨x,q,1,ft (Rt.jP (Rt.ja bj i)) 232⟩,0)
 lo:∀j,j<n->Kept parts bj j->d.loose.getD j false=false
def Twin(d:D)(slot ep:Int):Prop:=(sec d.now (1-slot).toNat).take 8=(sec d.now (1-slot).toNat).drop 56/\Rt.rF (sec d.now (1-slot).toNat)<ep
theorem Xt(h:(bw d n x).2=0):0<=x/\x<cH n:=by
 unfold bw at h
 by_cases hx:x<0\/(cH n:Int)<=x
 .rw[if_pos hx]at h;exact absurd h (by decide)
 .omega
theorem Ig{x:Nat}(hx:x<cH n):2+4*x+4<=n:=by unfold cH at hx;omega
theorem js.calm{d':D}{ep slot:Int}(R:js d n ep slot bj parts)(h:Calm n (Kept parts bj) d d'):js d' n ep slot bj parts:=by
 have n2:=R.n2;have hs:=R.sl;refine⟨R.n2,R.ro,R.sl,((h slot.toNat (by omega) (.inl (by omega))).1).trans R.rt,by rw[((h (1-slot).toNat (by omega) (.inl (by omega))).1)];exact R.ot,λi x hx=>?_,λj hj hk=>(h j hj hk).2 (R.lo j hj hk)⟩;obtain⟨q,q0,q1,q2⟩:=R.pp i x hx;obtain⟨h0,h1⟩:=Xt (by rw[q2]);refine⟨q,q0,q1,?_⟩;rw[<-q2]
 have:=xQ (d:=upD d) (d':=upD d') (n:=n) rfl x.toNat (by omega) (λj a b=>(h j (by have:=Ig (show x.toNat<cH n by omega);omega) (.inr ⟨x.toNat,.inl (by rw[show((x.toNat:Nat):Int)=x by omega];exact aA hx),a,b⟩)).1)
 rwa [show((x.toNat:Nat):Int)=x by omega]at this
theorem J1{k:Nat}(h1:(k:Int)∉parts)(h2:(k:Int)∉bj)(j:Nat)(a:2+4*k<=j)(b:j<2+4*k+4):¬Kept parts bj j:=by
 rintro(h|⟨x,h,c,e⟩)
 .omega
 .obtain rfl:x=k:=by omega
  exact h.elim h1 h2
def C.on(c:C)(d:D):C:={c with d:=d}
theorem J2{c:C}(g:Good c n)(d0:D)(p:pu)(gj:d0.Ok n):Calm n (Kept c.parts c.bj) d0 ((c.on d0).cB n p).1.d:=by
 by_cases hf:(c.bY n).free=0
 .unfold C.cB;have e2:Fm.da (c.on d0).m=Fm.da c.m:=rfl;rw[e2,xL g hf,i9];exact .refl d0
 .obtain⟨k,hk,h0,e⟩:=xK g hf;obtain⟨z1,z2,z3⟩:=JP h0;have this:Calm n (Kept c.parts c.bj) d0 (bt (c.on d0).d n ((k:Nat):Int) ((c.on d0).ep+1) 2 p).1:=rH gj ((k:Nat):Int) (c.ep+1) 2 p (λj a b=>J1 z1 z2 j (by omega) (by omega));unfold C.cB;have e2:Fm.da (c.on d0).m=Fm.da c.m:=rfl;rw[e2,e,i8]
  split
  .exact this
  .exact this
theorem new_on{c:C}(g:Good c n)(d0:D)(p:pu)(gj:d0.Ok n):Calm n (Kept c.parts c.bj) d0 ((c.on d0).bZ n p).1.d:=by
 have:=J2 g d0 p gj;unfold C.bZ;rw[if_neg (show ¬(c.on d0).broken=true by show ¬c.broken=true;rw[g.br];simp)]
 split
 .exact .refl d0
 .split
  .exact .refl d0
  .split
   .exact this
   .exact this
theorem Tz{c:C}(g:Good c n)(h:Fm.cB c.m x=true):∃k:Nat,x=k/\k<c.m.length/\(k:Int)∉c.parts/\(k:Int)∉c.bj:=by
 unfold Fm.cB Fm.Er at h;simp only[iG,decide_eq_true_eq,beq_iff_eq]at h;obtain⟨⟨h0,h1⟩,h2⟩:=h;refine⟨x.toNat,by omega,by omega,?_⟩;rw[g.md _ (by omega)]at h2;unfold cO at h2
 split at h2
 .omega
 .split at h2
  .split at h2<;>omega
  .exact⟨by assumption,by assumption⟩
theorem Xu{c:C}(g:Good c n)(d0:D)(l:Int)(p:pu)(gj:d0.Ok n):Calm n (Kept c.parts c.bj) d0 ((c.on d0).aG n l p).1.d:=by
 have:=J2 g d0 p gj;unfold C.aG;rw[if_neg (show ¬(c.on d0).broken=true by show ¬c.broken=true;rw[g.br];simp)]
 split
 .exact .refl d0
 .split
  .exact .refl d0
  .split
   .rename_i hf;obtain⟨k,e,hk,z1,z2⟩:=Tz g hf;show Calm n _ d0 (bt d0 n _ _ _ _).1;exact rH gj _ _ _ _ (λj a b=>by
     have e:((c.on d0).table.getD l.toNat 0).toNat=k:=by omega
     rw[e]at a b;exact J1 z1 z2 j a b)
   .split
    .exact this
    .exact this
theorem Ow{c:C}(g:Good c n)(R:js c.d n c.ep c.slot c.bj c.parts)(p:pu):js (c.bZ n p).1.d n c.ep c.slot c.bj c.parts:=R.calm (new_on g c.d p g.ok)
theorem Ih{c:C}(g:Good c n)(R:js c.d n c.ep c.slot c.bj c.parts)(l:Int)(p:pu):js (c.aG n l p).1.d n c.ep c.slot c.bj c.parts:=R.calm (Xu g c.d l p g.ok)
theorem Ox(c:C)(n:Nat)(p:pu):(c.bZ n p).1.bj=c.bj/\(c.bZ n p).1.parts=c.parts/\(c.bZ n p).1.ep=c.ep/\(c.bZ n p).1.slot=c.slot/\(c.bZ n p).1.broken=c.broken:=by
 obtain⟨f1,f2,f3,f4,f5,f6⟩:=nc c n p;unfold C.bZ
 split
 .exact⟨rfl,rfl,rfl,rfl,rfl⟩
 .split
  .exact⟨rfl,rfl,rfl,rfl,rfl⟩
  .split
   .exact⟨rfl,rfl,rfl,rfl,rfl⟩
   .split
    .exact⟨f2,f3,f4,f5,f6⟩
    .exact⟨f2,f3,f4,f5,f6⟩
theorem Ii(c:C)(n:Nat)(l:Int)(p:pu):(c.aG n l p).1.bj=c.bj/\(c.aG n l p).1.parts=c.parts/\(c.aG n l p).1.ep=c.ep/\(c.aG n l p).1.slot=c.slot/\(c.aG n l p).1.broken=c.broken:=by
 obtain⟨f1,f2,f3,f4,f5,f6⟩:=nc c n p;unfold C.aG
 split
 .exact⟨rfl,rfl,rfl,rfl,rfl⟩
 .split
  .exact⟨rfl,rfl,rfl,rfl,rfl⟩
  .split
   .exact⟨rfl,rfl,rfl,rfl,rfl⟩
   .split
    .exact⟨rfl,rfl,rfl,rfl,rfl⟩
    .split
     .exact⟨f2,f3,f4,f5,f6⟩
     .exact⟨f2,f3,f4,f5,f6⟩
variable{x:Int}{c:C}{n:Nat}
theorem Oy{m:List Int}(h:∃i,i<m.length/\m.getD i 0=0):Fm.dm m 0<m.length/\m.getD (Fm.dm m 0) 0=0:=by
 obtain⟨i,hi,h0⟩:=h;have ef:Fm.dm m 0<m.length:=by
  unfold Fm.dm;rw[Ni];refine⟨m[i],jS hi,?_⟩;simp[List.getD,aH hi]at h0;simp[h0]
 refine⟨ef,?_⟩;have:=rj (p:=(· ==(0:Int))) (xs:=m) (w:=ef);simp[List.getD];unfold Fm.dm at ef ⊢;rw[aH ef];simpa using this
theorem BR(m:List Int):∀k,k<=(Fm.ic m 0).length->(takeN m k).1.length=m.length/\(takeN m k).2.Nodup/\(∀x∈(takeN m k).2,∃i:Nat,x=i/\i<m.length/\m.getD i 0=0)/\∀i:Nat,i<m.length->(takeN m k).1.getD i 0=if(i:Int)∈(takeN m k).2 then 2 else m.getD i 0
 |0,_=>⟨rfl,qb,by simp[takeN],λi hi=>by simp[takeN]⟩
 |k+1,h=>by
  obtain⟨h1,h2,h3,h4⟩:=BR m k (by omega);have hl:=ta m k;have hz:∃i,i<(takeN m k).1.length/\(takeN m k).1.getD i 0=0:=by
   by_cases hh:∃i,i<(takeN m k).1.length/\(takeN m k).1.getD i 0=0
   .exact hh
   .have:=vU (Fm.ic m 0) (takeN m k).2 (kC m 0) (λx hx=>by
     obtain⟨i,rfl,hi,h0⟩:=gP.1 hx
     by_cases hm:(i:Int)∈(takeN m k).2
     .exact hm
     .exact absurd ⟨i,by rw[h1];exact hi,by rw[h4 i hi,if_neg hm];exact h0⟩ hh)
    omega
  obtain⟨f1,f2⟩:=Oy hz;obtain⟨F,hF⟩:∃F,Fm.dm (takeN m k).1 0=F:=⟨_,rfl⟩;rw[hF]at f1 f2;have e:Fm.da (takeN m k).1=((takeN m k).1.set F 2,((F:Nat):Int),0):=by unfold Fm.da;rw[hF,if_pos f1]
  have e1:(takeN m (k+1)).1=(takeN m k).1.set F 2:=by show(Fm.da _).1=_;rw[e]
  have e2:(takeN m (k+1)).2=(takeN m k).2++[((F:Nat):Int)]:=by show _++[(Fm.da _).2.1]=_;rw[e]
  have hFm:F<m.length:=by rw[<-h1];exact f1
  have hFn:((F:Nat):Int)∉(takeN m k).2:=λhm=>by
   rw[h4 F hFm,if_pos hm]at f2;omega
  have hF0:m.getD F 0=0:=by
   rw[h4 F hFm,if_neg hFn]at f2;exact f2
  rw[e1,e2];refine⟨by rw[bV];exact h1,?_,λx hx=>?_,λi hi=>?_⟩
  .rw[gU];refine⟨h2,by simp,λa ha b hb e=>?_⟩;rw[az.1 hb]at e;exact hFn (by rw[<-e];exact ha)
  .rcases ay.1 hx with hx|hx
   .exact h3 x hx
   .exact⟨F,az.1 hx,hFm,hF0⟩
  .rw[kF _ _ _ _ (by omega)]
   by_cases e:F=i
   .subst e;rw[if_pos rfl,if_pos (bP _ (az.2 rfl))]
   .rw[if_neg e,h4 i hi];have:((i:Int)∈(takeN m k).2++[((F:Nat):Int)])↔(i:Int)∈(takeN m k).2:=by
     rw[ay,az];exact⟨λh=>h.elim id (λh=>by omega),.inl⟩
    simp only[this]
theorem oT:∀(L:List Int) (m:List Int),L.Nodup->(∀x∈L,∃i:Nat,x=i/\i<m.length/\m.getD i 0=1)->(cI m L).length=m.length/\∀i:Nat,i<m.length->(cI m L).getD i 0=if(i:Int)∈L then 3 else m.getD i 0
 |[],m,_,_=>⟨rfl,λi hi=>by simp[cI]⟩
 |x::L,m,hn,h=>by
  obtain⟨n1,n2⟩:=gV.1 hn;obtain⟨k,rfl,hk,h1⟩:=h x (gS ..);have e:(Fm.dS m ((k:Nat):Int)).1=m.set k 3:=by
   unfold Fm.dS;rw[show Fm.Er m ((k:Nat):Int)=true from by unfold Fm.Er;simp;omega,if_pos rfl,show((k:Nat):Int).toNat=k by omega,h1,if_neg (by decide),if_pos rfl]
  obtain⟨r1,r2⟩:=oT L (m.set k 3) n2 (λy hy=>by
   obtain⟨i,rfl,hi,h0⟩:=h y (bK _ hy);exact⟨i,rfl,by rw[bV];exact hi,by rw[kF _ _ _ _ hi,if_neg (λe=>n1 (by rw[e];exact hy))];exact h0⟩)
  rw[bV]at r1 r2;show(cI (Fm.dS m ((k:Nat):Int)).1 L).length=_/\∀i:Nat,i<m.length->(cI (Fm.dS m ((k:Nat):Int)).1 L).getD i 0=_;rw[e];refine⟨r1,λi hi=>?_⟩;rw[r2 i hi,kF _ _ _ _ hi]
  by_cases xd:k=i
  .subst xd;rw[if_pos (gS ..),if_neg n1,if_pos rfl]
  .rw[if_neg xd];have:((i:Int)∈((k:Nat):Int)::L)↔(i:Int)∈L:=by
    rw[ar];exact⟨λh=>h.elim (λh=>by omega) id,.inr⟩
   simp only[this]
theorem xR(t:List Int):∀k i,lG t k<=i->i<k->t.getD i 0<0
 |0,i,_,h=>by omega
 |k+1,i,h,hi=>by
  rw[nS]at h
  split at h
  .by_cases e:i=k
   .subst e;assumption
   .exact xR t k i h (by omega)
  .omega
theorem J3{t:List Int}(h0:0<=x):x∈t.take (lG t t.length)↔x∈t:=by
 refine⟨gv,λh=>?_⟩;obtain⟨i,hi⟩:=lK h;have ef:i<lG t t.length:=by
  refine Nat.lt_of_not_le (λhle=>?_);have:=xR t t.length i hle ((aR.1 hi).1);simp only[List.getD,hi,jB]at this;omega
 have:(t.take (lG t t.length))[i]?=some x:=by rw[rl ef];exact hi
 exact aA this
theorem vY{α:Type}{t:List α}{k i:Nat}{x:α}(h:(t.take k)[i]?=some x):t[i]?=some x:=by
 have hl:=(aR.1 h).1;rw[bC]at hl;rw[rl (by omega)]at h;exact h
def St.pad(b:St)(k:Nat):St:={b with now:=b.now++fd k none}
theorem TB(c:C)(h0:0<=x):cO c.cD x=cO c x:=by
 unfold cO;show(if x∈c.parts then 1 else if x∈c.bj then(if x∈c.table.take _ then 1 else 3)else if x∈c.table.take _ then 2 else 0:Int)=_;simp only[J3 h0]
theorem Fg(g:Good c n):Good c.cD n/\c.bY n=(c.cD.bY n).pad (c.table.length-lG c.table c.table.length):=by
 refine⟨⟨g.up,g.arm,g.br,g.ok,g.ml,g.ep,g.sl,λx hx=>g.ti x (gv hx),g.oi,g.pi,λi j x hi hj=>g.tj i j x (vY hi) (vY hj),g.oj,g.pj,λx hx=>⟨λh=>(g.dt x hx).1 (gv h),(g.dt x hx).2⟩,g.pl,λi x hi=>g.sm i x (vY hi),λi hi=>?_,λx hx=>g.rt x (gv hx),g.ro⟩,?_⟩
 .rw[TB c (by omega)];exact g.md i hi
 .unfold C.bY St.pad;simp only[St.mk.injEq,true_and];refine⟨rfl,?_,rfl,rfl⟩;have e:c.table=c.cD.table++c.table.drop (lG c.table c.table.length):=(m7 _ _).symm;have e2:(c.table.drop (lG c.table c.table.length)).map (c.dh n)=fd (c.table.length-lG c.table c.table.length) none:=by
   rw[List.eq_replicate_iff];refine⟨by simp,λb hb=>?_⟩;obtain⟨x,hx,rfl⟩:=cr.1 hb;obtain⟨i,hi⟩:=lK hx;rw[iK]at hi;have:=xR c.table c.table.length _ (G5 _ i) ((aR.1 hi).1);simp only[List.getD,hi,jB]at this;unfold C.dh;rw[if_pos this]
  have e3:c.table.map (c.dh n)=c.cD.table.map (c.dh n)++(c.table.drop (lG c.table c.table.length)).map (c.dh n):=by
   rw[<-cX,<-e]
  rw[e3,e2];rfl
theorem part_le(l:List Int)(i:Nat):(Rt.jP (Rt.ja l i)).length<=232:=by
 unfold Rt.jP;rw[Rt.JR,bM,Rt.yU];omega
theorem xS:∀{l:List Int} {i j:Nat} {x:Int},l.Nodup->l[i]?=some x->l[j]?=some x->i=j
 |[],i,j,x,_,hi,_=>by simp at hi
 |y::l,0,0,x,_,_,_=>rfl
 |y::l,0,j+1,x,h,hi,hj=>by
  have hj:l[j]?=some x:=by simpa using hj
  have hi:y=x:=by simpa using hi
  subst hi;exact absurd (aA hj) (gV.1 h).1
 |y::l,i+1,0,x,h,hi,hj=>by
  have hi:l[i]?=some x:=by simpa using hi
  have hj:y=x:=by simpa using hj
  subst hj;exact absurd (aA hi) (gV.1 h).1
 |y::l,i+1,j+1,x,h,hi,hj=>by
  have:=xS (l:=l) (i:=i) (j:=j) (x:=x) (gV.1 h).2 (by simpa using hi) (by simpa using hj);omega
def InP(P:List Int)(j:Nat):Prop:= ∃x:Nat,(x:Int)∈P/\2+4*x<=j/\j<2+4*x+4
theorem Fh(hd:c.d.down=false)(ha:c.d.bu=0)(gj:c.d.Ok n){P:List Int}(hP:P.Nodup)(hr:∀x∈P,∃k:Nat,x=k/\k<cH n)(he:0<=c.ep/\c.ep<1099511627776):∀i,i<=P.length->
  (c.iy n P i).2=0/\(c.iy n P i).1.down=false/\(c.iy n P i).1.bu=0/\(c.iy n P i).1.Ok n/\(c.iy n P i).1.calls<=c.d.calls+4*i/\
   (∀(j:Nat) (x:Int),j<i->P[j]?=some x->bw (c.iy n P i).1 n x=(⟨x,c.ep+1,1,ft (Rt.jP (Rt.ja c.table j)) 232⟩,0))/\Calm n (λj=> ¬InP P j) c.d (c.iy n P i).1
 |0,_=>⟨rfl,hd,ha,gj,by show c.d.calls<=_;omega,λj x hj=>by omega,.refl _⟩
 |i+1,hi=>by
  obtain⟨h1,h2,h3,h4,h5,h6,h7⟩:=Fh hd ha gj hP hr he i (by omega);obtain⟨x,hx⟩:∃x,P[i]?=some x:=⟨_,aH (by omega)⟩;have hxm:=aA hx;obtain⟨k,rfl,hk⟩:=hr x hxm;have eD:P.getD i 0=((k:Nat):Int):=by simp[List.getD,hx]
  rw[xP,if_neg (by rw[h1];decide),eD];obtain⟨w1,w2,w3,w4,w5⟩:=nP h4 h2 h3 k (c.ep+1) 1 (Rt.jP (Rt.ja c.table i)) hk (by rw[qs];omega) (part_le _ _);have hb:=(sS (c.iy n P i).1 n ((k:Nat):Int) (c.ep+1) 1 (Rt.jP (Rt.ja c.table i)) (by rw[h3];omega)).1;refine⟨w1,w2,w3,uK h4 _ _ _ _,by omega,λj y hj hy=>?_,h7.trans (rH h4 _ _ _ _ (λj a b hn=>hn ⟨k,hxm,by omega,by omega⟩))⟩
  by_cases e:j=i
  .subst e;rw[hx]at hy;injection hy with hy
   subst hy;exact w4
  .obtain⟨k',rfl,hk'⟩:=hr y (aA hy);rw[w5 k' hk' (λe2=>e (by
    subst e2;exact xS hP hy hx))]
   exact h6 j _ (by omega) hy
theorem fill64{b:pu}(h:b.length=64):kU b=b:=xG b h
theorem TC(hd:c.d.down=false)(ha:c.d.bu=0)(gj:c.d.Ok n){P:List Nat}(hP:(Rt.dM P).Nodup)(hr:∀x∈Rt.dM P,∃k:Nat,x=k/\k<cH n)(he:0<=c.ep/\c.ep<1099511627776)(hn:2<=n)(hs:c.slot=0\/c.slot=1)(h5:P.length<=5):
  (c.bT n P).2=0/\(c.bT n P).1.down=false/\(c.bT n P).1.bu=0/\(c.bT n P).1.Ok n/\(c.bT n P).1.calls<=c.d.calls+4*P.length+3/\
   (∀(j:Nat) (x:Int),(Rt.dM P)[j]?=some x->bw (c.bT n P).1 n x=(⟨x,c.ep+1,1,ft (Rt.jP (Rt.ja c.table j)) 232⟩,0))/\
   (∀x:Nat,x<cH n->(x:Int)∉Rt.dM P->bw (c.bT n P).1 n x=bw c.d n x)/\
   sec (c.bT n P).1.now c.slot.toNat=sec c.d.now c.slot.toNat/\sec (c.bT n P).1.now (1-c.slot).toNat=Rt.fH (c.ep+1) c.table.length P/\∀j,(c.bT n P).1.loose.getD j false=false:=by
 obtain⟨h1,h2,h3,h4,h6,h7,h8⟩:=Fh hd ha gj hP hr he (Rt.dM P).length (ai _);have eL:(Rt.dM P).length=P.length:=by simp[Rt.dM]
 rw[eL]at h1 h2 h3 h4 h6 h7 h8;obtain⟨d1,wZ⟩:∃d1,(c.iy n (Rt.dM P) P.length)=(d1,0):=⟨_,by rw[<-h1]⟩;unfold C.bT;rw[wZ]at h1 h2 h3 h4 h6 h7 h8 ⊢;dsimp only at h1 h2 h3 h4 h6 h7 h8 ⊢;obtain⟨s1,s2,s3,s4⟩:=po h2 h3;have s5:=(BJ d1 (by rw[h3];omega)).1;have s6:d1.eM.1.Ok n:=h4.sync;rw[if_neg (by decide),if_neg (by rw[s1];decide)];generalize d1.eM.1=d2 at *;have Xv:(1-c.slot).toNat<n:=by omega
 have Wo:(1-c.slot:Int)=(((1-c.slot).toNat:Nat):Int):=by omega
 rw[Wo,show((((1-c.slot).toNat:Nat):Int)).toNat=(1-c.slot).toNat by omega];obtain⟨s,hsd⟩:∃s,s=(1-c.slot).toNat:=⟨_,rfl⟩;rw[<-hsd]at Xv ⊢;obtain⟨w1,w2,w3⟩:=jm (n:=n) s2 s3 Xv (Rt.fH (c.ep+1) c.table.length P);have w4:=sU s6 s Xv _ w1;have w5:=(jF d2 n s (Rt.fH (c.ep+1) c.table.length P) (by rw[s3];omega)).1;have w6:=s6.write (s:Int) (Rt.fH (c.ep+1) c.table.length P)
 rw[if_neg (by rw[w1];decide)];generalize (d2.aG n (s:Int) (Rt.fH (c.ep+1) c.table.length P)).1=d3 at *;obtain⟨v1,v2,v3,v4⟩:=po w2 w3;have v5:=(BJ d3 (by rw[w3];omega)).1;have hpage:∀x:Nat,x<cH n->bw d3.eM.1 n x=bw d1 n x:=λx hx=>xQ (by rw[v2,h2]) x hx (λj a b=>by
  have:=Ig hx;rw[v4,w4 j (by omega),gc,s4])
 refine⟨v1,v2,v3,w6.sync,by omega,λj x hx=>?_,λx hx hn=>?_,?_,?_,(uM v1)⟩
 .obtain⟨k,rfl,hk⟩:=hr x (aA hx);rw[hpage k hk];exact h7 j _ (by have:=(aR.1 hx).1;omega) hx
 .rw[hpage x hx];exact xQ (by rw[h2,hd]) x hx (λj a b=>(h8 j (by have:=Ig hx;omega) (λ⟨y,hy,c1,c2⟩=>hn (by
   obtain rfl:y=x:=by omega
   exact hy))).1)
 .rw[v4,w4 _ (by omega),gc,s4];exact(h8 _ (by omega) (λ⟨y,hy,c1,c2⟩=>by omega)).1
 .rw[v4,w4 _ (by omega),if_pos rfl,fill64 (Rt.vW (c.ep+1) c.table.length P h5)]
variable{P:List Int}{ep:Int}{k n:Nat}
theorem Fk(h:∀x∈P,0<=x):Rt.dM (P.map Int.toNat)=P:=by
 unfold Rt.dM;rw[gR];exact(fW (λx hx=>by have:=h x hx;exact uq this)).trans (List.map_id _)
theorem J4(c:C)(n:Nat):∀k,k<=c.table.length->kG (c.bY n).now k=lG c.table k
 |0,_=>rfl
 |k+1,h=>by
  unfold kG;rw[nS,J4 c n k (by omega)];have e:((c.bY n).now[k]?).getD none=c.dh n (c.table.getD k 0):=by
   unfold C.bY;rw[ir];simp only[List.getD];rw[aH (by omega)];rfl
  rw[e];unfold C.dh
  by_cases hx:c.table.getD k 0<0
  .rw[if_pos hx,if_pos hx,i8]
  .rw[if_neg hx,if_neg hx,i9]
theorem BU(c:C)(n:Nat):(c.bY n).eJ=c.cD.table.map (λx=>if x<0 then none else some (bw c.d n x).1.s):=by
 unfold St.eJ;have hl:(c.bY n).now.length=c.table.length:=by unfold C.bY;simp
 rw[hl,J4 c n _ (ai _)];show((c.table.map (c.dh n)).take _).map _=(c.table.take _).map _;rw[<-l6,gR];refine fW (λx _=>?_);simp only[Function.comp,C.dh]
 split<;>rfl
theorem Fl(h:P.Nodup):Eg P:=λ_ _ _ hi hj _=>xS h hi hj
theorem xT(h:Eg P)(h0:∀x∈P,0<=x):P.Nodup:=by
 have:=kD h
 rwa [show ids P=P from xr.2 (λx hx=>by simpa using h0 x hx)]at this
theorem Xw(he:0<=ep/\ep<1099511627776)(hk:k<=512)(hl:P.length=cU k)(hn:P.Nodup)(hr:∀x∈P,0<=x/\x<=1023):Rt.jn (ep+1) (k:Nat) P:=by
 refine⟨by omega,by omega,by omega,by omega,by rw[hl,Rb],λi x hx=>?_⟩;obtain⟨h0,h1⟩:=hr x (aA hx);refine⟨h0,h1,λhm=>?_⟩;obtain⟨j,hj⟩:=lK hm;have Ti:=(aR.1 hj).1;rw[bC]at Ti;have:=Fl hn j i x (vY hj) hx h0;omega
theorem qA{c:C}(g:Good c n)(tl:c.table.length<=512)(hf:cU c.cD.table.length<=(Fm.ic c.m 0).length):
  ∃mT P,takeN c.m (cU c.cD.table.length)=(mT,P)/\mT.length=c.m.length/\P.Nodup/\P.length=cU c.cD.table.length/\(∀x∈P,∃i:Nat,x=i/\i<c.m.length/\i<=1023/\x∉c.parts/\x∉c.bj/\x∉c.table)/\
   (∀i:Nat,i<c.m.length->mT.getD i 0=if(i:Int)∈P then 2 else cO c i)/\Rt.dM (P.map Int.toNat)=P/\Rt.jn (c.ep+1) (c.cD.table.length:Nat) P:=by
 obtain⟨h1,h2,h3,h4⟩:=BR c.m _ hf;have hl:=ta c.m (cU c.cD.table.length);have hm:c.m.length<=1024:=by rw[g.ml];unfold fU;omega
 have hb:∀x∈(takeN c.m (cU c.cD.table.length)).2,∃i:Nat,x=i/\i<c.m.length/\i<=1023/\x∉c.parts/\x∉c.bj/\x∉c.table:=λx hx=>by
  obtain⟨i,rfl,hi,h0⟩:=h3 x hx;rw[g.md i hi]at h0;obtain⟨z1,z2,z3⟩:=JP h0;exact⟨i,rfl,hi,by omega,z1,z2,z3⟩
 have h0:∀x∈(takeN c.m (cU c.cD.table.length)).2,0<=x/\x<=1023:=λx hx=>by
  obtain⟨i,rfl,hi,VG,_⟩:=hb x hx;omega
 have ht:c.cD.table.length<=512:=by
  show(c.table.take _).length<=512;rw[bC];omega
 have Jk:=g.ep;exact⟨_,_,rfl,h1,h2,hl,hb,λi hi=>by rw[h4 i hi,g.md i hi],Fk (λx hx=>(h0 x hx).1),Xw (by omega) ht hl h2 h0⟩
theorem uN{d:D}{slot:Int}{bj parts:List Int}(R:js d n ep slot bj parts):Rt.dM (parts.map Int.toNat)=parts:=Fk (λx hx=>by
 obtain⟨i,hi⟩:=lK hx;exact(R.ro.2.2.2.2.2 i x hi).1)
theorem xU(hr:Rt.jn ep (k:Nat) P)(hP:Rt.dM (P.map Int.toNat)=P):(Rt.fH ep k (P.map Int.toNat)).take 8=(Rt.fH ep k (P.map Int.toNat)).drop 56/\Rt.rF (Rt.fH ep k (P.map Int.toNat))=ep:=by
 exact⟨by rw[Rt.BF,Rt.Oh _ _ _ (by have:=Rt.lP hr;simpa using this)],(Rt.Xj ep k _ (by rw[hP];exact hr)).1⟩
def C.BV(c:C)(d:D)(mT P:List Int):C:={c.cD with m:=Fm.jO 0 1 (cI mT c.parts),d:=d,bj:=c.cD.table,parts:=P,ep:=c.ep+1,slot:=1-c.slot}
theorem J5{c:C}(g:Good c n)(hf:(c.bY n).free<cU (c.bY n).eJ.length):c.aQ n=(c.cD,11):=by
 unfold C.aQ;rw[(nR g).1,if_pos (by rw[BU]at hf;simpa using hf)]
theorem TE{c:C}(g:Good c n)(R:js c.d n c.ep c.slot c.bj c.parts)(he:c.ep<1099511627775)(tl:c.table.length<=512){mT:List Int}(hT:takeN c.m (cU c.cD.table.length)=(mT,P))(hf:cU c.cD.table.length<=(Fm.ic c.m 0).length)
 {d':D}(hd:d'=(({c.cD with m:=mT}:C).bT n (P.map Int.toNat)).1):
  (({c.cD with m:=mT}:C).bT n (P.map Int.toNat)).2=0/\Good (c.BV d' mT P) n/\js d' n (c.ep+1) (1-c.slot) c.cD.table P/\Twin d' (1-c.slot) (c.ep+1)/\d'.calls<=c.d.calls+30/\
   (c.BV d' mT P).bY n={c.bY n with now:=jr (c.bY n).eJ,bj:=(c.bY n).eJ,ep:=(c.bY n).ep+1}:=by
 obtain⟨mT',P',e,t1,t2,t3,t4,t5,t6,t7⟩:=qA g tl hf;rw[hT]at e;obtain⟨rfl,rfl⟩:mT=mT'/\P=P':=⟨congrArg Prod.fst e,congrArg Prod.snd e⟩;have Jk:=g.ep;have n2:=R.n2;have h5:P.length<=5:=Rt.lP t7;obtain⟨f1,f2,f3,f4,f5,f6,f7,f8,f9,f10⟩:=TC (c:={c.cD with m:=mT}) (n:=n) (P:=P.map Int.toNat) g.up g.arm g.ok (by rw[t6];exact t2) (λx hx=>by
  rw[t6]at hx;obtain⟨i,e,hi,_⟩:=t4 x hx;exact⟨i,e,kE g hi⟩) (show 0<=c.ep/\c.ep<1099511627776 by omega) n2 g.sl (by rw[bM];exact h5)
 rw[<-hd]at f2 f3 f4 f5 f6 f7 f8 f9 f10;rw[t6]at f6 f7;rw[bM]at f5;refine⟨f1,?_,?_,?_,by have:d'.calls<=c.d.calls+4*P.length+3:=f5;omega,?_⟩
 .have gt:=(Fg g).1;have hsame:∀x:Int,x∈c.table->0<=x->bw d' n x=bw c.d n x:=λx hx h0=>by
   have hti:=g.ti x hx;have:=f7 x.toNat (kE g (by omega)) (λhm=>by
    rw[show((x.toNat:Nat):Int)=x by omega]at hm;obtain⟨_,_,_,_,_,_,h⟩:=t4 x hm;exact h hx)
   rwa [show((x.toNat:Nat):Int)=x by omega]at this
  obtain⟨v1,v2⟩:=oT c.parts mT (xT g.pj (λx hx=>(g.pi x hx).1)) (λx hx=>by
   have:=g.pi x hx;refine⟨x.toNat,by omega,by omega,?_⟩;rw[t5 x.toNat (by omega),show((x.toNat:Nat):Int)=x by omega,if_neg (λhm=>by
    obtain⟨_,_,_,_,h,_⟩:=t4 x hm;exact h hx)]
   unfold cO;rw[if_pos hx])
  have pX:(c.BV d' mT P).m.length=c.m.length:=by
   show(Fm.jO 0 1 (cI mT c.parts)).length=_;rw[Fm.vQ,v1,t1]
  refine⟨f2,f3,g.br,f4,pX.trans g.ml,(by show 1<=c.ep+1/\c.ep+1<1099511627776;omega),(by show 1-c.slot=0\/1-c.slot=1;have:=g.sl;omega),by rw[pX];exact gt.ti,by rw[pX];exact gt.ti,λx hx=>?_,gt.tj,gt.tj,Fl t2,λx hx=>?_,t3,λi x hi _ _=>hi,λi hi=>?_,λx hx h0=>?_,λx hx h0=>?_⟩
  .obtain⟨i,rfl,hi,_⟩:=t4 x hx;rw[pX];omega
  .obtain⟨_,_,_,_,_,_,h⟩:=t4 x hx;exact⟨λhm=>h (gv hm),λhm=>h (gv hm)⟩
  .rw[pX]at hi;show(Fm.jO 0 1 (cI mT c.parts)).getD i 0=_;rw[J0 _ _ _ _ (by omega),v2 i (by omega),t5 i hi];have hk:cO (c.BV d' mT P) i=if(i:Int)∈P then 1 else if(i:Int)∈c.cD.table then 1 else 0:=by
    show(if(i:Int)∈P then 1 else if(i:Int)∈c.cD.table then(if(i:Int)∈c.cD.table then 1 else 3)else if(i:Int)∈c.cD.table then 2 else 0:Int)=_
    by_cases h1:(i:Int)∈P
    .rw[if_pos h1,if_pos h1]
    .by_cases h2:(i:Int)∈c.cD.table
     .simp only[h1,h2,if_true,if_false]
     .simp only[h1,h2,if_false]
   rw[hk];have hmt:(i:Int)∈c.cD.table↔(i:Int)∈c.table:=J3 (by omega);simp only[hmt]
   by_cases hp:(i:Int)∈c.parts
   .rw[if_pos hp,if_neg (λhm=>by
     obtain⟨_,_,_,_,h,_⟩:=t4 _ hm;exact h hp),if_neg (g.dt _ hp).1]
    rfl
   .rw[if_neg hp]
    by_cases hP:(i:Int)∈P
    .rw[if_pos hP,if_pos hP];rfl
    .rw[if_neg hP,if_neg hP];unfold cO;rw[if_neg hp]
     by_cases h1:(i:Int)∈c.bj<;>by_cases h2:(i:Int)∈c.table<;>simp only[h1,h2,if_true,if_false]<;>rfl
  .have hx:=gv hx;obtain⟨q,s,q1,q2,q3,q4⟩:=g.rt x hx h0;exact⟨q,s,q1,by show q<=c.ep+1+1;omega,q3,(hsame x hx h0).trans q4⟩
  .have hx:=gv hx;obtain⟨q,s,q1,q2,q3,q4⟩:=g.rt x hx h0;exact⟨q,s,q1,q2,q3,(hsame x hx h0).trans q4⟩
 .refine⟨n2,t7,by have:=g.sl;omega,f9,λ_=>?_,λi x hx=>?_,λj _ _=>f10 j⟩
  .rw[show(1-(1-c.slot)).toNat=c.slot.toNat by congr 1;omega];show Rt.rF (sec d'.now c.slot.toNat)<_;have f8':sec d'.now c.slot.toNat=sec c.d.now c.slot.toNat:=f8;rw[f8',R.rt,(xU R.ro (uN R)).2];omega
  .refine⟨c.ep+1,by omega,ki _,?_⟩;rw[upD_eq f2];exact f6 i x hx
 .unfold Twin;rw[show(1-(1-c.slot)).toNat=c.slot.toNat by congr 1;omega];have f8':sec d'.now c.slot.toNat=sec c.d.now c.slot.toNat:=f8;rw[f8',R.rt,(xU R.ro (uN R)).2];exact⟨(xU R.ro (uN R)).1,by omega⟩
 .obtain⟨v1,_⟩:=oT c.parts mT (xT g.pj (λx hx=>(g.pi x hx).1)) (λx hx=>by
   have:=g.pi x hx;refine⟨x.toNat,by omega,by omega,?_⟩;rw[t5 x.toNat (by omega),show((x.toNat:Nat):Int)=x by omega,if_neg (λhm=>by
    obtain⟨_,_,_,_,h,_⟩:=t4 x hm;exact h hx)]
   unfold cO;rw[if_pos hx])
  have pX:(c.BV d' mT P).m.length=c.m.length:=by
   show(Fm.jO 0 1 (cI mT c.parts)).length=_;rw[Fm.vQ,v1,t1]
  have hs:∀x∈c.cD.table,¬x<0->(bw d' n x).1.s=(bw c.d n x).1.s:=λx hx h0=>by
   have hx:=gv hx;have hti:=g.ti x hx;have:=f7 x.toNat (kE g (by omega)) (λhm=>by
    rw[show((x.toNat:Nat):Int)=x by omega]at hm;obtain⟨_,_,_,_,_,_,h⟩:=t4 x hm;exact h hx)
   rw[show((x.toNat:Nat):Int)=x by omega]at this;rw[this];rfl
  rw[BU];unfold C.bY;rw[pX];simp only[St.mk.injEq,true_and];refine⟨?_,?_,rfl⟩
  .show c.cD.table.map (C.dh (c.BV d' mT P) n)=jr (c.cD.table.map _);unfold jr;rw[gR];refine fW (λx hx=>?_);unfold C.dh;simp only[Function.comp]
   by_cases h:x<0
   .rw[if_pos h,if_pos h];rfl
   .rw[if_neg h,if_neg h];show some (decide (x∉c.cD.table),(bw d' n x).1.s)=some (false,(bw c.d n x).1.s);rw[hs x hx h];simp[hx]
  .show c.cD.table.map _=c.cD.table.map _;refine fW (λx hx=>?_)
   by_cases h:x<0
   .rw[if_pos h,if_pos h]
   .rw[if_neg h,if_neg h];show some (bw d' n x).1.s=_;rw[hs x hx h]
theorem J6{c:C}(g:Good c n)(R:js c.d n c.ep c.slot c.bj c.parts)(he:c.ep<1099511627775)(tl:c.table.length<=512)(hf:¬(c.bY n).free<cU (c.bY n).eJ.length):
  ∃c',c.aQ n=(c',0)/\Good c' n/\js c'.d n c'.ep c'.slot c'.bj c'.parts/\Twin c'.d c'.slot c'.ep/\c'.d.calls<=c.d.calls+30/\c'.bY n={c.bY n with now:=jr (c.bY n).eJ,bj:=(c.bY n).eJ,ep:=(c.bY n).ep+1}/\c'.table=c.cD.table/\c'.ep=c.ep+1:=by
 have Ak:¬(Fm.ic c.m 0).length<cU c.cD.table.length:=by rw[(nR g).1];rw[BU]at hf;simpa using hf
 obtain⟨mT,P,hT,_⟩:=qA g tl (by omega);obtain⟨h1,h2,h3,h4,h5,h6⟩:=TE g R he tl hT (by omega) rfl;refine⟨c.BV _ mT P,?_,h2,h3,h4,h5,h6,rfl,rfl⟩;unfold C.aQ;rw[if_neg Ak,gc,hT];rw[if_neg (by rw[h1];decide)];rfl
theorem rI(b:St):b.pad 0=b:=by unfold St.pad;simp
theorem pad_pad(b:St)(j k:Nat):(b.pad j).pad k=b.pad (j+k):=by unfold St.pad;simp[cK,List.replicate_append_replicate]
theorem vZ{α:Type}(l:List (Option α))(k i:Nat):((l++fd k none)[i]?).getD none=(l[i]?).getD none:=by
 by_cases h:i<l.length
 .rw[bE h]
 .rw[dQ (by omega),gH (l:=l) (by omega),GO]
  split<;>rfl
theorem Oz(b:St)(k:Nat)(l:Int):(b.pad k).at l=b.at l:=by
 unfold St.at;show(if 0<=l then((b.now++fd k none)[l.toNat]?).getD none else none)=_;rw[vZ]
theorem TF(b:St)(k:Nat):(b.pad k).fresh=b.fresh:=by
 unfold St.fresh;show(b.now++fd k none).countP gw=_;rw[ur,List.countP_replicate];simp[gw]
theorem Xx(b:St)(k:Nat):(b.pad k).kept=b.kept:=rfl
theorem Ca(b:St)(k:Nat):(b.pad k).free=b.free:=by
 unfold St.free;rw[TF,Xx];rfl
theorem Xy(b:St)(k:Nat):(b.pad k).slot=b.slot:=by
 unfold St.slot;show(b.now++fd k none).findIdx Option.isNone=_;rw[List.findIdx_append]
 split
 .rfl
 .rename_i h;have h1:b.now.findIdx Option.isNone=b.now.length:=by
   have:=p8 (xs:=b.now) (p:=Option.isNone);omega
  cases k with
  |zero=>simp[h1]
  |succ k=>simp[List.replicate_succ,Nh,h1]
theorem Ij{α:Type}(l:List (Option α))(k i:Nat)(u:Option α)(h:i<l.length):(l++fd k none).set i u=l.set i u++fd k none:=vC _ _ h
theorem pad_new(b:St)(k:Nat)(p:pu):∃k',(b.pad k).bZ p=((b.bZ p).1.pad k',(b.bZ p).2):=by
 unfold St.bZ;rw[Xy,Ca]
 by_cases h1:232<p.length
 .rw[if_pos h1,if_pos h1];exact⟨k,rfl⟩
 rw[if_neg h1,if_neg h1]
 by_cases h2:512<=b.slot\/b.free=0
 .rw[if_pos h2,if_pos h2];exact⟨k,rfl⟩
 rw[if_neg h2,if_neg h2];have hs:b.slot<=b.now.length:=p8
 by_cases h3:b.slot=b.now.length
 .cases k with
  |zero=>exact⟨0,by rw[rI,rI]⟩
  |succ k=>
   refine⟨k,?_⟩;unfold St.pad;simp only[Prod.mk.injEq,St.mk.injEq,true_and,and_true];unfold qz;rw[if_neg (by simp;omega),if_pos h3,h3,qc _ _ (ai _),fM,List.replicate_succ];simp
 .refine⟨k,?_⟩;unfold St.pad;simp only[Prod.mk.injEq,St.mk.injEq,true_and,and_true];unfold qz;rw[if_neg (by simp;omega),if_neg h3,Ij _ _ _ _ (by omega)]
theorem Cb{b:St}{l:Int}(h:(b.at l).isSome=true):0<=l/\l.toNat<b.now.length:=by
 unfold St.at at h
 by_cases h0:0<=l
 .rw[if_pos h0]at h;refine⟨h0,Nat.lt_of_not_le (λhle=>?_)⟩;rw[gH hle]at h;simp at h
 .rw[if_neg h0]at h;simp at h
theorem TG(b:St)(k:Nat)(l:Int)(p:pu):(b.pad k).aG l p=((b.aG l p).1.pad k,(b.aG l p).2):=by
 unfold St.aG;rw[Oz,Ca]
 by_cases h1:232<p.length
 .rw[if_pos h1,if_pos h1]
 rw[if_neg h1,if_neg h1]
 by_cases h2:¬(b.at l).isSome=true
 .rw[if_pos h2,if_pos h2]
 rw[if_neg h2,if_neg h2]
 by_cases h3:gw (b.at l)=false/\b.free=0
 .rw[if_pos h3,if_pos h3]
 rw[if_neg h3,if_neg h3];unfold St.pad;simp only[Prod.mk.injEq,St.mk.injEq,true_and,and_true];exact Ij _ _ _ _ (Cb (Decidable.not_not.1 h2)).2
theorem Xz(b:St)(k:Nat)(l:Int):(b.pad k).aV l=((b.aV l).1.pad k,(b.aV l).2):=by
 unfold St.aV;rw[Oz]
 by_cases h2:(b.at l).isSome=true
 .rw[if_pos h2,if_pos h2];unfold St.pad;simp only[Prod.mk.injEq,St.mk.injEq,true_and,and_true];exact Ij _ _ _ _ (Cb h2).2
 .rw[if_neg h2,if_neg h2]
theorem OE(l:List ua)(k:Nat):kG l (k+1)=if((l[k]?).getD none).isSome then k+1 else kG l k:=rfl
theorem TH{α:Type}(f:List (Option (Bool×pu))->α)(l:List ua)(k:Nat):kG (l++fd k none) (l.length+k)=kG l l.length:=by
 have h1:∀j,j<=l.length->kG (l++fd k none) j=kG l j:=by
  intro j
  induction j with
  |zero=>intro _;rfl
  |succ j ih=>
   intro hj;unfold kG;rw[vZ,ih (by omega)]
 have h2:∀j,kG (l++fd k none) (l.length+j)=kG (l++fd k none) l.length:=by
  intro j
  induction j with
  |zero=>rfl
  |succ j ih=>
   rw[show l.length+(j+1)=(l.length+j)+1 by omega,OE,vZ,gH (by omega),i8];exact ih
 rw[h2,h1 _ (ai _)]
theorem XA(b:St)(k:Nat):(b.pad k).eJ=b.eJ:=by
 unfold St.eJ;show((b.now++fd k none).take (kG (b.now++fd k none) (b.now++fd k none).length)).map _=_;have hl:(b.now++fd k (none:ua)).length=b.now.length+k:=by simp
 rw[hl,(TH (λx=>x) b.now k)];have:=JZ b.now b.now.length;rw[m8 this]
variable{c:C}{n:Nat}
theorem TK(l:List ua)(k:Nat):uL l (k+1)=uL l k++if((l[k]?).getD none).isSome then [(k:Int)]else []:=rfl
theorem pad_pgs(l:List ua)(k:Nat):uL (l++fd k none) (l.length+k)=uL l l.length:=by
 have h1:∀j,j<=l.length->uL (l++fd k none) j=uL l j:=by
  intro j
  induction j with
  |zero=>intro _;rfl
  |succ j ih=>
   intro hj;unfold uL;rw[vZ,ih (by omega)]
 have h2:∀j,uL (l++fd k none) (l.length+j)=uL (l++fd k none) l.length:=by
  intro j
  induction j with
  |zero=>rfl
  |succ j ih=>
   rw[show l.length+(j+1)=(l.length+j)+1 by omega,TK,vZ,gH (by omega),ih];simp
 rw[h2,h1 _ (ai _)]
open Go.RowKit
variable{i d n:Nat}{v:Value}{w:YB}{rs:List Nat}
section
variable{P:Program}{ops:Array Oper}{Q:Exit->Act->YB->Prop}{md:Region.Mode}{S:YB->Prop}{L:List Nat}
def OG(P:Program)(md:Region.Mode)(ops:Array Oper)(Q:Exit->Act->YB->Prop)(S:YB->Prop)(L:List Nat):Nat->Array Bool->Act->YB->Prop
 |0,c,a,w=>Region.ready md ops c=[]/\Q .normal a w
 |n+1,c,a,w=>(Region.ready md ops c=[]->Q .normal a w)/\∀i∈Region.ready md ops c,wpOp P ops Q i (λa' w'=>(i∉L->S w->S w')/\OG P md ops Q S L n (c.setIfInBounds i true) a' w') a w
theorem Rf:∀(n:Nat) (c:Array Bool) (a:Act) (w:YB),OG P md ops Q S L n c a w->wpAny P md ops Q n c a w
 |0,_,_,_,h=>h
 |n+1,_,_,_,h=>⟨h.1,λi hi=>wpOp_mono (λa' w' x=>Rf n _ a' w' x.2) (h.2 i hi)⟩
def Ik(md:Region.Mode)(ops:Array Oper)(L i:Nat):Bool:=match ops[L]? with|some o=>o.after.any λe=>Region.binds md e && e.on==i|none=>false
theorem OH{L:Nat}(h:Ik md ops L i=true):∃o e,ops[L]?=some o/\e∈o.after/\Region.binds md e=true/\e.on=i:=by
 unfold Ik at h
 cases ho:ops[L]? with
 |none=>rw[ho]at h;cases h
 |some o=>
  rw[ho]at h;rw[Array.any_eq_true']at h;obtain⟨e,he,hb⟩:=h;rw[iG,beq_iff_eq]at hb;exact⟨o,e,rfl,he,hb.1,hb.2⟩
theorem xV{oi:Oper}(hi:ops[i]?=some oi)(hsel:∀(j:Nat) (o:Oper) cs b,ops[j]?=some o->o.op≠ .select cs b)
 (hQ:∀c a w,Q (.panic c) (a.put oi.dst v) w->Q (.panic c) a w){S2:YB->Prop}(hL:(∀w,S2 w)\/(S2=S/\∀k∈L,Ik md ops k i=true)):∀(n:Nat) (c:Array Bool) (a:Act) (w:YB),
  (∀j oj,ops[j]?=some oj->j≠i->c.getD j true=false->(∀e∈oj.after,Region.binds md e=true->e.on≠i)->oi.apart ops oj=true)->
  i∈Region.ready md ops c->YieldsIf P ops S2 oi v a->S2 w->OG P md ops Q S L n (c.setIfInBounds i true) (a.put oi.dst v) w->OG P md ops Q S L (n+1) c a w
 |0,c,a,w,_,hr,hy,hS,H=>by
  refine⟨λh=>(by rw[h]at hr;cases hr),λj hj=>?_⟩
  by_cases Ti:j=i
  .subst Ti;exact hy.wpOp hi hS ⟨λ_ h=>h,H⟩
  .have:=ready_mono hj Ti;rw[H.1]at this
   cases this
 |n+1,c,a,w,hfree,hr,hy,hS,H=>by
  refine⟨λh=>(by rw[h]at hr;cases hr),λj hj=>?_⟩
  by_cases Ti:j=i
  .subst Ti;exact hy.wpOp hi hS ⟨λ_ h=>h,H⟩
  .obtain⟨hun,oj,hoj,jU⟩:=mem_ready.1 hj;have hnot:∀e∈oj.after,Region.binds md e=true->e.on≠i:=λe he hb heq=>by
    have h1:=jU e he hb;have h0:=(mem_ready.1 hr).1;rw[heq]at h1
    rcases fC i c.size with h'|h'
    .simp[h']at h0 h1;rw[h0]at h1;cases h1
    .simp[VU h']at h1
   refine wpOp_mono (λa' w' x=>?_) (wpOp_putIf hoj (hfree j oj hoj Ti hun hnot) (λcs b=>hsel i oi cs b hi) (λcs b=>hsel j oj cs b hoj) hQ hy (H.2 j (ready_mono hj Ti)));obtain⟨x1,x2,x3⟩:=x;have h2:S2 w':=by
    rcases hL with h|⟨rfl,h⟩
    .exact h w'
    .refine x2 (λhm=>?_) hS;obtain⟨o,x,x1,x2,x3,x4⟩:=OH (h j hm);rw[hoj]at x1;injection x1 with x1
     subst x1;exact hnot x x2 x3 x4
   refine⟨x2,xV hi hsel hQ hL n _ a' w' (λk ok hk hki hu tY=>hfree k ok hk hki ?_ tY) (ready_mono hr (Ne.symm Ti)) x1 h2 ?_⟩
   .by_cases hjk:j=k
    .subst hjk;exact hun
    .rw[getD_set_ne true hjk]at hu;exact hu
   .rw[Array.setIfInBounds_comm _ _ Ti];exact x3
theorem gY{l:List (Nat×Nat)}{x1 x2 x3 x4 x5}{c:Array Bool}{a a':Act}(h:Vu l (OG P md ops Q S L n (c.setIfInBounds i true) a' w))
 (hi:ops[i]?=some ⟨some d,x1,x2,x3,x4,x5⟩:=by rfl)
 (hb:(Region.noSelect ops && (Region.free md ops c i && ((Region.ready md ops c).contains i && (Region.wanted ⟨some d,x1,x2,x3,x4,x5⟩ (yielded ops a.tmps) && L.all λk=>Ik md ops k i))))=true:=by kernel_rfl)
 (hQ:∀c a w,Q (.panic c) (a.put (some d) v) w->Q (.panic c) a w:=by exact λ_ _ _ h=>h)(hS:S w:=by assumption)
 (y:∀w,S w->(execOp a.eval ⟨some d,x1,x2,x3,x4,x5⟩).run P w=.ok (.value v) w:=by intro w hS;(try dsimp only at hS);go_simp;try with_reducible rfl)
 (ha:a.put (some d) v=a':=by simp only[Act.put,pa,pb,pc];exact rfl):Vu ((i,d)::l) (OG P md ops Q S L (n+1) c a w):=by
 subst ha;simp only[iG]at hb;obtain⟨b1,b2,b3,b4,b5⟩:=hb;exact xV hi (Region.noSelect_spec b1) hQ (.inr ⟨rfl,λk hk=>oN.1 b5 k hk⟩) n c a w (Region.free_spec hi b2) (by simpa using b3) (.inl ⟨b4,y⟩) hS h
theorem mz{l:List (Nat×Nat)}{x1 x2 x3 x4 x5}{c:Array Bool}{a a':Act}(h:Vu l (OG P md ops Q S L n (c.setIfInBounds i true) a' w))
 (hi:ops[i]?=some ⟨some d,x1,x2,x3,x4,x5⟩:=by rfl)
 (hb:(Region.noSelect ops && (Region.free md ops c i && ((Region.ready md ops c).contains i && Region.wanted ⟨some d,x1,x2,x3,x4,x5⟩ (yielded ops a.tmps))))=true:=by kernel_rfl)
 (hQ:∀c a w,Q (.panic c) (a.put (some d) v) w->Q (.panic c) a w:=by exact λ_ _ _ h=>h)
 (y:∀w,(execOp a.eval ⟨some d,x1,x2,x3,x4,x5⟩).run P w=.ok (.value v) w:=by intro w;go_simp;try with_reducible rfl)
 (ha:a.put (some d) v=a':=by simp only[Act.put,pa,pb,pc];exact rfl):Vu ((i,d)::l) (OG P md ops Q S L (n+1) c a w):=by
 subst ha;simp only[iG]at hb;obtain⟨b1,b2,b3,b4⟩:=hb;exact xV (S2:=λ_=>True) hi (Region.noSelect_spec b1) hQ (.inl λ_=>trivial) n c a w (Region.free_spec hi b2) (by simpa using b3) (.inl ⟨b4,λw _=>y w⟩) trivial h
def iz(P:Program)(md:Region.Mode)(ops:Array Oper)(Q:Exit->Act->YB->Prop)(S:YB->Prop)(L:List Nat)(n:Nat)(c:Array Bool)(a:Act)(w:YB)(rs:List Nat):Prop:=
 ∀i∈rs,wpOp P ops Q i (λa' w'=>(i∉L->S w->S w')/\OG P md ops Q S L n (c.setIfInBounds i true) a' w') a w
theorem iz.nil{c:Array Bool}{a:Act} :iz P md ops Q S L n c a w []:=λ_ h=>by cases h
theorem iz.cons{c:Array Bool}{a:Act}{o:Oper} 
 (h:∀K':Act->YB->Prop,Shut (∀a w,(i∉L->S w)->((i∉L->S w)->OG P md ops Q S L n (c.setIfInBounds i true) a w)->K' a w)->if Region.wanted o (yielded ops a.tmps)=true then Oper.wp P o a w K' Q else K' (a.put o.dst undef) w)
 (hs:iz P md ops Q S L n c a w rs)(ho:ops[i]?=some o:=by rfl):iz P md ops Q S L n c a w (i::rs):=λj hj=>by
 rcases ar.1 hj with rfl|hj
 .exact wpOp_step ho (λK' hK=>h K' (λa w hS hW=>hK a w ⟨λhn _=>hS hn,hW hS⟩))
 .exact hs j hj
theorem pz{c:Array Bool}{a:Act}(hr:Region.ready md ops c=rs)(fF:rs≠[])(h:iz P md ops Q S L n c a w rs):OG P md ops Q S L (n+1) c a w:=⟨λh0=>absurd (hr▸h0) fF,hr▸h⟩
theorem cJ{c:Array Bool}{a:Act}(i:Nat){o:Oper}
 (h:∀K':Act->YB->Prop,Shut (∀a w,(i∉L->S w)->((i∉L->S w)->OG P md ops Q S L n (c.setIfInBounds i true) a w)->K' a w)->if Region.wanted o (yielded ops a.tmps)=true then Oper.wp P o a w K' Q else K' (a.put o.dst undef) w)
 (hr:Region.ready md ops c=[i]:=by kernel_rfl)(ho:ops[i]?=some o:=by rfl):OG P md ops Q S L (n+1) c a w:=pz hr (by simp) (iz.cons h iz.nil ho)
theorem nU{c:Array Bool}{a:Act}(hr:Region.ready md ops c=[])(h:Q .normal a w):∀n,OG P md ops Q S L n c a w
 |0=>⟨hr,h⟩
 |_+1=>⟨λ_=>h,by rw[hr];simp⟩
theorem nV{id:Nat}{a:Act}(L:List Nat)(hm:P.follows .mixedOrders=true)(hS:S w.drew)
 (h:S w.drew->OG P .any ops Q S L ops.size (Array.replicate ops.size false) a w.drew):(Code.region id ops true).wp P Q a w:=wp_region_any hm (Rf _ _ _ _ (h hS))
end
attribute [local go_sem ↓] bA
variable{x x':X}{n:Nat}{w0 w:YB}{c':C}
structure CW(x:X)(n:Nat)(w0 w:YB)(x':X)(c':C):Prop where
 a:At w x' n c'
 o:ag x.fp w0 w
 f:x'.fp=x.fp
theorem CW.below{w':YB}(h:CW x n w0 w x' c')(hb:i7 w w'):CW x n w0 w' x' c':=⟨h.a.below hb,h.o.trans (.aj hb),h.f⟩
theorem CW.brk(h:CW x n w0 w x' c'):CW x n w0 (w.setCell ⟨x'.b,7,none⟩ (.bool true)) x' {c' with broken:=true}:=by
 have o2:=(ag.refl [x'.b] w).setCell (p:=⟨x'.b,7,none⟩) (by simp) (.bool true);have A:=h.a;obtain⟨n1,n2,n3,n4⟩:=A.Ol A.hb;have ns:∀{v:Value} {k:Nat} {l:List Value},Sl w 3 v k l->∀g∈cE v,g∉[x'.b]:=λS g hg hm=>n4 S (by rw[<-az.1 hm];exact hg)
 exact⟨⟨A.hb.cw 7 _,A.hd.only o2 (λg hg hm=>n3 (by rw[<-az.1 hm];exact hg)),A.hm.only o2 (λhm=>n1 (az.1 hm).symm) (λhm=>n2 (az.1 hm).symm),A.ht.only o2 (ns A.ht),A.ho.only o2 (ns A.ho),A.hp.only o2 (λg hg hm=>A.hp.aY A.hb (by decide) (by decide) (by rw[<-az.1 hm];exact hg)),A.n1,A.n2,A.n3,A.n4,A.n5,A.n6,A.tl⟩,h.o.trans (o2.mono (λg hg _=>by rw[<-h.f];simp at hg;subst hg;simp[X.fp])),h.f⟩
theorem CW.post{x:X}{v:Value}{n:Nat}{w0 w:YB}{c':C}(h:CW x n w0 w {x with tv:=v} c'):zK w0 w x n c':=⟨{x with tv:=v},rfl,rfl,h.a,h.o,λg hg=> .inl (by rw[h.f]at hg;exact hg)⟩
theorem J8{c:C}(h:At w x n c)(hbr:c.broken=false)(Jk:0<=c.ep)(hb:∀y∈c.table,y<=1023)(zL:c.slot=0\/c.slot=1)(hc:c.d.calls<=3999999999999999900)(ha:c.d.bu<=9223372036854775807)(hol:c.parts.length<=5)
 (hr:cU c.cD.table.length<=(Fm.ic c.m 0).length->c.ep<1099511627776->Rt.jn (c.ep+1) (c.cD.table.length:Nat) (Rt.dM ((takeN c.m (cU c.cD.table.length)).2.map Int.toNat))/\Rt.dM ((takeN c.m (cU c.cD.table.length)).2.map Int.toNat)=(takeN c.m (cU c.cD.table.length)).2):
  Calls prog 100 #[sp x.b] w λe w'=>e=.returned (.int .i64 (c.aQ n).2)/\zK w w' x n (c.aQ n).1:=by
 have KW:=jE h;rw[show c.gl=0 from by unfold C.gl;rw[hbr];rfl]at KW;have KW:=xh KW;obtain⟨R,hR⟩:∃R,c.aQ n=R:=⟨_,rfl⟩;rw[hR];have tl:=h.tl;have rC:=xh h.lt;obtain⟨TA,tc,yN,htc⟩:=h.ht.val;have hx:x={x with tv:=U3 TA c.table.length tc}:=by rw[<-yN]
 have HA:=g9 (At w {x with tv:=U3 TA c.table.length tc} n {c with table:=c.table.take c.table.length}) (by rw[fX,<-hx];exact h);have HV:=xh yN;obtain⟨T,hT⟩:∃T,lG c.table c.table.length=T:=⟨_,rfl⟩;have MP:T<=c.table.length:=by rw[<-hT];exact BL _ _
 have htf:c.cD={c with table:=c.table.take T}:=by unfold C.cD;rw[hT]
 have htl:c.cD.table.length=T:=by rw[htf];show(c.table.take T).length=T;rw[bC];omega
 have HT:=xh hT;unfold C.aQ at hR;rw[htl]at hR hr;rw[htf]at hR;have HR:=xh hR;clear hR hT htf htl hx yN hbr h;unfold sp at *;go_in;go_wp;go_call KW.o as e w1 ⟨rfl,rfl⟩
 go_upto_if 14 with(fail)
 iterate 5 (first|go_values|go_skip|go_guarded|go_step|go_upon|go_back)
 go_cut []from 16 to 50 (λwx=>Hid (At wx {x with tv:=U3 TA T tc} n {c with table:=c.table.take T}/\ag [x.b] w wx))
 case first=>
  go_wp
  go_loopw [19] (λ_ wr=> ∃k:Nat,k<=c.table.length/\Hid (lG c.table k=T)/\Hid (At wr {x with tv:=U3 TA k tc} n {c with table:=c.table.take k}/\ag [x.b] w wr)) (λ_ wr=>Q9 wr x.b)
  case atStart=>exact⟨c.table.length,ai _,HT,xh ⟨HA.o,ag.refl _ _⟩⟩
  case round=>
   obtain⟨k,hk,HK,HB⟩:=hrel;have f2:=HB.o.1.f2;have lO:(c.table.take k).length=k:=by rw[bC];omega
   have Wl:(k≠0/\c.table.getD (k-1) 0<0)\/k=T/\(k=0\/¬c.table.getD (k-1) 0<0):=by
    have:=HK.o
    cases k with
    |zero=>exact .inr ⟨this,.inl rfl⟩
    |succ k=>
     rw[nS]at this
     split at this
     .rename_i h;exact .inl ⟨by omega,h⟩
     .rename_i h;exact .inr ⟨this,.inr h⟩
   rcases Wl with⟨VF,JU⟩|⟨hkT,VF⟩
   .obtain⟨j,rfl⟩:∃j,k=j+1:=⟨k-1,by omega⟩;rw[qf]at JU;obtain⟨g,cp,hv,ck⟩:=HB.o.1.tk j (by show j<(c.table.take (j+1)).length;omega);rw[show({c with table:=c.table.take (j+1)}:C).table.getD j 0=c.table.getD j 0 from by show(c.table.take (j+1)).getD j 0=_;simp[List.getD]]at ck;have hv:(Value.slice TA (j+1) tc)=U3 (lc g) (c.table.take (j+1)).length cp:=hv;rw[lO]at hv;injection hv with e1 e2 e3
    subst e1 e3;clear e2;have f2:wr.cell? ⟨x.b,2,none⟩=some (U3 (lc g) (j+1) tc):=f2;have HK2:=g9 (lG c.table j=T) (by have:=HK.o;rw[nS,if_pos JU]at this;exact this);have e4:IntKind.i64.wrap ((j:Int)+1-1)=(j:Int):=by rw[GI];exact dl
    have e5:IntKind.i64.wrap (j:Int)=(j:Int):=dl;have e6:(0:Int)<(j:Int)+1:=by omega
    have e7:(j:Int)<(j:Int)+1:=by omega
    generalize c.table.getD j 0=pv at *;go_wp;go_quiet (fail);have z2:=HB.o.1.fz 2 (by omega);have z2:wr.frozen? ⟨x.b,2,none⟩=false:=z2;have HN:=xh (show ∀m,At ((wr.drewN m).setCell ⟨x.b,2,none⟩ (U3 (lc g) j tc)) {x with tv:=U3 (lc g) j tc} n {c with table:=c.table.take j}/\ag [x.b] w ((wr.drewN m).setCell ⟨x.b,2,none⟩ (U3 (lc g) j tc))from λm=>by
     have A1:=HB.o.1.drewN m;have nh:∀y∈cE (U3 (lc g) j tc),y∈cE (U3 (lc g) (j+1) tc):=λy hy=>hy;have S:=A1.ht;have S:Sl (wr.drewN m) 3 (U3 (lc g) (j+1) tc) (j+1) (dH (c.table.take (j+1))):=by have S2:=S;rw[show({c with table:=c.table.take (j+1)}:C).table.length=j+1 from lO]at S2;exact S2
     have S3:=S.cut rfl j (by omega);have e:(dH (c.table.take (j+1))).take j=dH (c.table.take j):=by unfold dH;rw[<-l6,List.take_take,sM (by omega)]
     rw[e]at S3;have hl:(c.table.take j).length=j:=by rw[bC];omega
     have S4:Sl (wr.drewN m) 3 (U3 (lc g) j tc) (c.table.take j).length (dH (c.table.take j)):=by rw[hl];exact S3
     obtain⟨_,_,A2,o2⟩:=A1.newT S4 (λhg=>A1.n1 (nh _ hg)) (λy hy=>A1.n4 y (nh y hy)) (λy hy=>A1.n5 y (nh y hy)) (by omega);exact⟨A2,(HB.o.2.drewN m).trans o2⟩)
    have HM:=xh (show ∀m,Q9 ((wr.drewN m).setCell ⟨x.b,2,none⟩ (U3 (lc g) j tc)) x.b<Q9 wr x.b from λm=>by
     have c2:((wr.drewN m).setCell ⟨x.b,2,none⟩ (U3 (lc g) j tc)).cell? ⟨x.b,2,none⟩=some (U3 (lc g) j tc):=(HN.o m).1.f2;unfold Q9;rw[c2,f2];show j<j+1;omega)
    go_wp
    go_region
    go_wp;go_roundw
    case rel=>exact⟨j,by omega,HK2,xh (HN.o _)⟩
    case measure=>exact HM.o _
   .rcases zY k with hz|hpos
    .subst hz;subst hkT;go_wp;go_quiet (fail);go_wp;go_meet;exact xh ⟨HB.o.1.drewN nq,HB.o.2.drewN nq⟩
    .obtain⟨jz,rfl⟩:∃jz,k=jz+1:=⟨k-1,by omega⟩;subst hkT
     rcases VF with VF|VF
     .omega
     rw[qf]at VF;obtain⟨gz,cp,Q3,ck⟩:=HB.o.1.tk jz (by show jz<(c.table.take (jz+1)).length;omega);rw[show({c with table:=c.table.take (jz+1)}:C).table.getD jz 0=c.table.getD jz 0 from by show(c.table.take (jz+1)).getD jz 0=_;simp[List.getD]]at ck;have hv:(Value.slice TA (jz+1) tc)=U3 (lc gz) (c.table.take (jz+1)).length cp:=Q3;clear Q3;rw[lO]at hv;injection hv with e1 e2 e3
     subst e1 e3;clear e2;have f2:wr.cell? ⟨x.b,2,none⟩=some (U3 (lc gz) (jz+1) tc):=f2;have e4:IntKind.i64.wrap ((jz:Int)+1-1)=(jz:Int):=by rw[GI];exact dl
     have e5:IntKind.i64.wrap (jz:Int)=(jz:Int):=dl;have e6:(0:Int)<(jz:Int)+1:=by omega
     have e7:(jz:Int)<(jz:Int)+1:=by omega
     generalize c.table.getD jz 0=pv at *;go_wp2_with fail;go_quiet (fail);go_wp2_with fail;go_meet;exact xh ⟨HB.o.1.drewN nq,HB.o.2.drewN nq⟩
 case rest=>
  have HB:=xh hcut.o;clear hcut;have lO:(c.table.take T).length=T:=by rw[bC];omega
  have hfp:({x with tv:=U3 TA T tc}:X).fp=x.fp:=by
   unfold X.fp;rw[HV.o,Xp TA T c.table.length tc]
  have KND:=xh (λ(W:YB)=>Rt.Bo ((T:Nat):Int) (by omega) W);rw[Rb]at KND;have KFR:=xh (λ(W:YB) (hW:At W {x with tv:=U3 TA T tc} n {c with table:=c.table.take T})=>Fm.WL hW.hm);rw[show({c with table:=c.table.take T}:C).m=c.m from rfl]at KFR;unfold Fm.mp at KFR;have hk:T<=c.table.length:=MP
  have C0:=g9 (CW x n w wc {x with tv:=U3 TA T tc} {c with table:=c.table.take T}) ⟨HB.o.1,HB.o.2.mono (λg hg _=>by simp at hg;subst hg;simp[X.fp]),hfp⟩;have f1:=C0.o.a.f1;have f2:=C0.o.a.f2;have f5:=C0.o.a.f5;have f2:wc.cell? ⟨x.b,2,none⟩=some (U3 TA (c.table.take T).length tc):=by rw[lO];exact f2
  have f1:wc.cell? ⟨x.b,1,none⟩=some (lc x.mb:li):=f1;rw[lO]at f2;go_wp2_with fail;go_call (KND.o _) as e v1 ⟨rfl,aO⟩;have C1:=xh<|C0.o.below aO;have g1:v1.cell? ⟨x.b,1,none⟩=some (lc x.mb:li):=C1.o.a.f1;clear aO f1 f2 f5;go_wp2_with fail;go_call (KFR.o _ C1.o.a) as e v2 ⟨rfl,cf⟩;have C2:=xh<|C1.o.below cf;have f5:=C2.o.a.f5;have f5:v2.cell? ⟨x.b,5,none⟩=some (c.ep:li):=f5;clear cf g1
  by_cases JM:(Fm.ic c.m 0).length<cU T
  .have hI:((Fm.ic c.m 0).length:Int)<((cU T:Nat):Int):=by omega
   have zN:=HR.o;rw[if_pos JM]at zN;subst zN;generalize cU T=nd at *;go_wp2;go_ret;exact aI C2.o.post
  have hI:¬((Fm.ic c.m 0).length:Int)<((cU T:Nat):Int):=by omega
  by_cases hee:1099511627776<=c.ep
  .have zN:=HR.o;rw[if_neg JM,if_pos hee]at zN;subst zN;generalize cU T=nd at *;go_wp2;go_ret;exact aI C2.o.post
  have zN:=HR.o;rw[if_neg JM,if_neg hee]at zN;obtain⟨kO,hnn⟩:=hr (by omega) (by omega)
  have hnd5:cU T<=5:=by unfold cU;omega
  have HR3:=xh zN;clear zN JM hr;obtain⟨nd,EK⟩:∃nd,cU T=nd:=⟨_,rfl⟩;rw[EK]at hI kO hnn HR3 hnd5 ⊢;clear EK
  have hd3:decide ((Fm.ic c.m 0).length<nd)=false:=by rw[decide_eq_false_iff_not];omega
  have XB:decide ((1099511627776:Int)<=c.ep)=false:=by rw[decide_eq_false_iff_not];omega
  have PNL:=xh (λi=>ta c.m i);go_wp2_with fail
  go_loopw [5,6,7,72] (λpv _ _ iv wq=> ∃i:Nat,i<=nd/\iv=.int .i64 i/\aM wq 3 1 pv i (dH (takeN c.m i).2)/\Hid (CW x n w wq {x with tv:=U3 TA T tc} {c with table:=c.table.take T,m:=(takeN c.m i).1}/\∀g∈ah pv,w.heap.size<=g)) (λ_ _ _ iv _=>nd-(intOf iv).toNat)
  case atStart=>exact⟨0,aW _,rfl,aM.nil _ _ _,xh ⟨C2.o,by simp[ah]⟩⟩
  case round=>
   obtain⟨i,hi,rfl,S,HC⟩:=hrel;obtain⟨VA,vc,rfl⟩:=ax S
   by_cases h':i<nd
   .have hiI:(i:Int)<(nd:Int):=by omega
    have g1:wr.cell? ⟨x.b,1,none⟩=some (lc x.mb:li):=HC.o.1.a.f1;have KT:=xh<|Fm.vI HC.o.1.a.hm;have HM:=xh (λ(W:YB) (mm:Fm.dU W x.mb x.mg (Fm.da (takeN c.m i).1).1) (ow:ag [x.mg] wr W)=>HC.o.1.a.map mm ow);have HTK:=g9 (takeN c.m (i+1)=((Fm.da (takeN c.m i).1).1,(takeN c.m i).2++[(Fm.da (takeN c.m i).1).2.1])) rfl;rw[show({c with table:=c.table.take T,m:=(takeN c.m i).1}:C).m=(takeN c.m i).1 from rfl]at KT
    generalize Fm.da (takeN c.m i).1=tf at *;obtain⟨tm,tid,te⟩:=tf;dsimp only at KT;unfold Fm.mp at KT;go_wp2_with fail;go_call KT.o as e v3 ⟨rfl,mm,ow⟩;have A3:=HM.o _ mm ow;have s3:=S.only ow (λg hg hm=>by have:=HC.o.2 g hg;have:=rC.o x.mg (by simp[X.fp]);simp at hm;omega);obtain⟨v',w4,ea,S4,ow4,fr4⟩:=dG (P:=prog) s3 60 60 (.int .i64 0) 8 underlying60 lQ rfl tid rfl (by unfold maxLen;omega) (by omega)
    obtain⟨V4,c4,rfl⟩:=ax S4;have H4:=xh (show aM w4 3 1 (U3 V4 (i+1) c4) (i+1) (dH (takeN c.m (i+1)).2)/\CW x n w w4 {x with tv:=U3 TA T tc} {c with table:=c.table.take T,m:=(takeN c.m (i+1)).1}/\∀g∈ah (U3 V4 (i+1) c4),w.heap.size<=g from by
     rw[HTK.o];refine⟨by rw[gX];exact S4,⟨A3.only ow4 (λg hF hg=>by have:=HC.o.2 g hg;have:=rC.o g (by rw[hfp]at hF;exact hF);omega),(HC.o.1.o.trans (ow.mono (λg hg _=>ue x g hg))).aU ow4 (λg hg ef=>by have:=HC.o.2 g hg;omega),hfp⟩,λg hg=>(fr4 g hg).elim (HC.o.2 g) (λh=>by have:=HC.o.1.o.size;have:=ow.size;omega)⟩)
    have EA:=xh ea;clear ea S4 ow4 fr4 s3 A3 mm ow S g1;go_wp2_with fail;rw[EA.o];go_wp2_with fail;go_roundw
    case rel=>exact⟨i+1,by omega,by go_num,H4.o.1,xh H4.o.2⟩
    case measure=>simp[intOf];omega
   .obtain rfl:i=nd:=by omega
    have vL:(Rt.dM ((takeN c.m i).2.map Int.toNat)).length=i:=by rw[hnn];exact PNL.o i
    have hown:cE (U3 VA i vc)=[]\/cE (U3 VA i vc)=ah (U3 VA i vc):=by
     cases VA with
     |none=>exact .inl rfl
     |some a=>unfold cE ah;by_cases h0:vc=0<;>simp[h0]
    have nh:∀g∈cE (U3 VA i vc),w.heap.size<=g:=λg hg=>by
     rcases hown with h|h
     .rw[h]at hg;simp at hg
     .rw[h]at hg;exact HC.o.2 g hg
    have hic:i<=vc:=by
     obtain⟨A',c',e,hle⟩:=(Sl.xw S).val;injection e with _ _ e3
     omega
    have SP:Sl wr 3 (U3 VA i vc) i (dH (Rt.dM ((takeN c.m i).2.map Int.toNat))):=by rw[hnn];exact Sl.xw S
    have KL:=Ah HC.o.1.a ((takeN c.m i).2.map Int.toNat) SP hic (λg hg hF=>by have:=nh g hg;have:=rC.o g (by rw[hfp]at hF;exact hF);omega) (show Rt.jn (c.ep+1) ((c.table.take T).length:Nat) _ from by rw[lO];exact kO) (λy hy=>hb y (gv hy)) zL hc ha;have HR4:=HR3.o;have KL:=xh KL;generalize rJ:({c with table:=c.table.take T,m:=(takeN c.m i).1}:C).bT n ((takeN c.m i).2.map Int.toNat)=lf at *;obtain⟨ld,le⟩:=lf;dsimp only at KL HR4
    by_cases hle:le=0
    .subst hle;rw[i8]at HR4;subst HR4;clear rJ;obtain⟨PA,pqc,hpv,hpcc⟩:=HC.o.1.a.hp.val;have hpv:x.pv=U3 PA c.parts.length pqc:=hpv;have HPV:=xh hpv;unfold sp at KL;go_wp2_with fail;go_call KL.o as e v3 ⟨rfl,A3,o3⟩
     have C3:=g9 (CW x n w v3 {x with tv:=U3 TA T tc} {c with table:=c.table.take T,m:=cI (takeN c.m i).1 (c.parts.take 0),d:=ld}) ⟨by rw[jA];exact A3,HC.o.1.o.trans (o3.mono (λg hg _=>JG x g hg)),hfp⟩;have SP3:=g9 (Sl v3 3 (U3 VA i vc) i (dH (takeN c.m i).2)) ((Sl.xw S).only o3 (λg hg hF=>by have:=nh g hg;have:=rC.o g (JG x g hF);omega))
     have q4:v3.cell? ⟨x.b,4,none⟩=some (U3 PA c.parts.length pqc):=by rw[<-HPV.o];exact C3.o.a.f4
     clear A3 o3 hpv;go_wp2_with fail
     go_loopw [10,101] (λ_ iv wr=> ∃j:Nat,j<=c.parts.length/\iv=.int .i64 j/\Hid (CW x n w wr {x with tv:=U3 TA T tc} {c with table:=c.table.take T,m:=cI (takeN c.m i).1 (c.parts.take j),d:=ld})/\Hid (Sl wr 3 (U3 VA i vc) i (dH (takeN c.m i).2))) (λ_ iv _=>c.parts.length-(intOf iv).toNat)
     case atStart=>exact⟨0,aW _,rfl,C3,SP3⟩
     case round=>
      obtain⟨j,hj,rfl,HC4,SP4⟩:=hrel
      by_cases h':j<c.parts.length
      .have hjI:(j:Int)<(c.parts.length:Int):=by omega
       obtain⟨g,cp,rest,hv,⟨_,B⟩,_,_⟩:=HC4.o.a.hp.form (by show 0<c.parts.length;omega);have hv:x.pv=U3 (lc g) c.parts.length cp:=hv;rw[HPV.o]at hv;injection hv with e1 e2 e3
       subst e1 e3;clear e2;have cj:wr.cell? ⟨g,j,none⟩=some (.int .i64 (c.parts.getD j 0)):=B.ab (by rw[cN,bE (by simpa using h'),rB _ _ h']);have g1:wr.cell? ⟨x.b,1,none⟩=some (lc x.mb:li):=HC4.o.a.f1;have hlv:cI (takeN c.m i).1 (c.parts.take (j+1))=(Fm.dS (cI (takeN c.m i).1 (c.parts.take j)) (c.parts.getD j 0)).1:=by
        rw[ik h',Ic];simp[cI,List.getD,aH h']
       have KLV:=xh<|Fm.sV HC4.o.a.hm (c.parts.getD j 0);rw[show({c with table:=c.table.take T,m:=cI (takeN c.m i).1 (c.parts.take j),d:=ld}:C).m=cI (takeN c.m i).1 (c.parts.take j)from rfl,<-hlv]at KLV;have HM:=xh (λ(W:YB) (mm:Fm.dU W x.mb x.mg (cI (takeN c.m i).1 (c.parts.take (j+1)))) (ow:ag [x.mg] wr W)=>HC4.o.a.map mm ow);generalize (Fm.dS (cI (takeN c.m i).1 (c.parts.take j)) (c.parts.getD j 0)).2=lq at *
       generalize c.parts.getD j 0=pj at *;unfold Fm.mp at KLV;clear hlv B;go_wp2_with fail;go_call KLV.o as e v4 ⟨rfl,mm,ow⟩;have C5:=g9 (CW x n w v4 {x with tv:=U3 TA T tc} {c with table:=c.table.take T,m:=cI (takeN c.m i).1 (c.parts.take (j+1)),d:=ld}) ⟨HM.o _ mm ow,HC4.o.o.trans (ow.mono (λg hg _=>ue x g hg)),hfp⟩;have SP5:=xh<|SP4.o.only ow (λg hg hm=>by have:=nh g hg;have:=rC.o x.mg (by simp[X.fp]);simp at hm;omega)
       clear mm ow;go_wp2_with fail;go_roundw
       case rel=>exact⟨j+1,by omega,by go_num,C5,SP5⟩
       case measure=>simp[intOf];omega
      .obtain rfl:j=c.parts.length:=by omega
       have g1:wr.cell? ⟨x.b,1,none⟩=some (lc x.mb:li):=HC4.o.a.f1;rw[fX]at HC4;have KCM:=xh<|Fm.uI HC4.o.a.hm;rw[show({c with table:=c.table.take T,m:=cI (takeN c.m i).1 c.parts,d:=ld}:C).m=cI (takeN c.m i).1 c.parts from rfl]at KCM;have HM:=xh (λ(W:YB) (mm:Fm.dU W x.mb x.mg (Fm.jO 0 1 (cI (takeN c.m i).1 c.parts))) (ow:ag [x.mg] wr W)=>HC4.o.a.map mm ow);unfold Fm.mp at KCM;go_wp2_with fail
       go_call KCM.o as e v6 ⟨rfl,mm,ow⟩;have C6:=g9 (CW x n w v6 {x with tv:=U3 TA T tc} {c with table:=c.table.take T,m:=Fm.jO 0 1 (cI (takeN c.m i).1 c.parts),d:=ld}) ⟨HM.o _ mm ow,HC4.o.o.trans (ow.mono (λg hg _=>ue x g hg)),hfp⟩;have SP6:=xh<|SP4.o.only ow (λg hg hm=>by have:=nh g hg;have:=rC.o x.mg (by simp[X.fp]);simp at hm;omega)
       have KC:=xh (λ(W:YB) (hW:At W {x with tv:=U3 TA T tc} n {c with table:=c.table.take T,m:=Fm.jO 0 1 (cI (takeN c.m i).1 c.parts),d:=ld})=>JV (v:=U3 TA T tc) hW.ht (by show(c.table.take T).length<=100000;omega));have e8:IntKind.i64.wrap (c.ep+1)=c.ep+1:=dl;have e9:IntKind.i64.wrap (1-c.slot)=1-c.slot:=dl;have d2:v6.cell? ⟨x.b,2,none⟩=some (U3 TA T tc):=C6.o.a.f2
       have HNC:=xh (show ∀v7 vo,Sl v7 3 vo (c.table.take T).length (dH (c.table.take T))->i7 v6.drew v7->(∀g∈cE vo,v6.drew.heap.size<=g)->
         zK w ((((v7.setCell ⟨x.b,3,none⟩ vo).setCell ⟨x.b,4,none⟩ (U3 VA i vc)).setCell ⟨x.b,5,none⟩ (.int .i64 (c.ep+1))).setCell ⟨x.b,6,none⟩ (.int .i64 (1-c.slot))) x n
          {c with table:=c.table.take T,m:=Fm.jO 0 1 (cI (takeN c.m i).1 c.parts),d:=ld,bj:=c.table.take T,parts:=(takeN c.m i).2,ep:=c.ep+1,slot:=1-c.slot}from λv7 vo S7 tW fr7=>by
        have A7:=C6.o.a.drew.below tW;have SP7:Sl v7 3 (U3 VA i vc) (takeN c.m i).2.length (dH (takeN c.m i).2):=by rw[PNL.o];exact SP6.o.drew.below tW
        have hfpl:∀g∈({x with tv:=U3 TA T tc}:X).fp,g<w.heap.size:=λg hg=>rC.o g (by rw[hfp]at hg;exact hg);have hws:w.heap.size<=v6.drew.heap.size:=C6.o.o.size;obtain⟨A8,o8⟩:=A7.newC S7 SP7 (λg hg hF=>by have:=fr7 g hg;have:=hfpl g hF;omega) (λg hg hF=>by have:=nh g hg;have:=hfpl g hF;omega) (λg hg hp=>by have:=fr7 g hg;have:g<v6.drew.heap.size:=SP6.o.lt g hp;omega) (c.ep+1) (1-c.slot)
        refine⟨{x with tv:=U3 TA T tc,ov:=vo,pv:=U3 VA i vc},rfl,rfl,A8,((C6.o.o.drew).trans (.aj tW)).trans (o8.mono (λg hg _=>by simp at hg;subst hg;simp[X.fp])),λg hg=>?_⟩;have sW:g∈({x with tv:=U3 TA T tc}:X).fp\/g∈cE vo\/g∈cE (U3 VA i vc):=by
         simp only[X.fp,ar,ay]at hg ⊢
         rcases hg with hg|hg|hg|((hg|hg)|hg)|hg
         .exact .inl (.inl hg)
         .exact .inl (.inr (.inl hg))
         .exact .inl (.inr (.inr (.inl hg)))
         .exact .inl (.inr (.inr (.inr (.inl (.inl (.inl hg))))))
         .exact .inl (.inr (.inr (.inr (.inl (.inl (.inr hg))))))
         .exact .inr (.inl hg)
         .exact .inr (.inr hg)
        rcases sW with h|h|h
        .exact .inl (by rw[hfp]at h;exact h)
        .exact .inr (aq hws (fr7 g h))
        .exact .inr (nh g h))
       clear mm ow g1;go_wp2_with fail;refine nV (S:=λW=>W.cell? ⟨x.b,2,none⟩=some (U3 TA T tc)/\W.cell? ⟨x.b,5,none⟩=some (c.ep:li)/\W.cell? ⟨x.b,6,none⟩=some (c.slot:li)) [22,25,28,31] (by kernel_rfl) ⟨d2,C6.o.a.f5,C6.o.a.f6⟩ (λau=>?_);refine dP [(0,117),(1,118),(2,119),(3,120),(4,121),(5,122),(6,123)] ?_
       iterate 7 refine mz ?_
       refine dP [(7,124)] ?_
       iterate 1 refine gY ?_
       refine dP [(9,126),(10,127),(11,128),(12,129)] ?_
       iterate 4 refine mz ?_
       refine dP [(13,130)] ?_
       iterate 1 refine gY ?_
       refine dP [(14,131),(15,132),(16,133),(17,134)] ?_
       iterate 4 refine mz ?_
       refine dP [(18,135)] ?_
       iterate 1 refine gY ?_
       refine dP [(19,136)] ?_
       iterate 1 refine mz ?_
       refine cJ 8 λK hK=>?_;go_simp
       go_at_call 85
       go_call (KC.o _ C6.o.a.drew) as e v7 ⟨vo,rfl,S7,tW,fr7⟩;have A7:=xh<|C6.o.a.drew.below tW;have PX:=xh<|HNC.o v7 vo S7 tW fr7;obtain⟨V7,c7,rfl,_⟩:=S7.val;have h6:v7.cell? ⟨x.b,6,none⟩=some (c.slot:li):=A7.o.f6;have h3:=A7.o.hb.bi 3;have h4:=A7.o.hb.bi 4
       have z3:v7.frozen? ⟨x.b,3,none⟩=false:=A7.o.fz 3 (by omega);have z4:v7.frozen? ⟨x.b,4,none⟩=false:=A7.o.fz 4 (by omega);have z5:v7.frozen? ⟨x.b,5,none⟩=false:=A7.o.fz 5 (by omega);have z6:v7.frozen? ⟨x.b,6,none⟩=false:=A7.o.fz 6 (by omega);have h3:v7.cell? ⟨x.b,3,none⟩=some x.ov:=h3;have h4:v7.cell? ⟨x.b,4,none⟩=some x.pv:=h4;clear S7 tW fr7;go_simp;refine bn hK (λ_=>⟨A7.o.f2,A7.o.f5,h6⟩) (λau=>?_);refine dP [(20,137),(21,138)] ?_
       iterate 2 refine mz ?_
       refine cJ 22 λK hK=>?_;go_simp;refine bn hK (λh=>absurd (by simp) h) (λ_=>?_);refine dP [(23,139),(24,140)] ?_
       iterate 2 refine mz ?_
       refine cJ 25 λK hK=>?_;go_simp;refine bn hK (λh=>absurd (by simp) h) (λ_=>?_);refine dP [(26,141),(27,142)] ?_
       iterate 2 refine mz ?_
       refine cJ 28 λK hK=>?_;go_simp;refine bn hK (λh=>absurd (by simp) h) (λ_=>?_);refine dP [(29,143),(30,144)] ?_
       iterate 2 refine mz ?_
       refine cJ 31 λK hK=>?_;go_simp;refine bn hK (λh=>absurd (by simp) h) (λ_=>?_);refine nU (by kernel_rfl) ?_ _;go_wp2;go_ret
       first
        |exact aI PX.o
        |exact aI (by have q:=PX.o;rw[lO]at q;exact q)
    .rw[if_pos hle]at HR4;subst HR4;have hq:(le != 0)=true:=ls hle
     have my:(le==0)=false:=i4 hle
     clear rJ;unfold sp at KL;go_wp2_with fail;go_call KL.o as e v3 ⟨rfl,A3,o3⟩;have C3:=g9 (CW x n w v3 {x with tv:=U3 TA T tc} {c with table:=c.table.take T,m:=(takeN c.m i).1,d:=ld}) ⟨A3,HC.o.1.o.trans (o3.mono (λg hg _=>JG x g hg)),hfp⟩;have q7:=C3.o.a.hb.bi 7;have z7:=C3.o.a.fz 7 (by omega);have q7:v3.cell? ⟨x.b,7,none⟩=some (.bool c.broken):=q7;have z7:v3.frozen? ⟨x.b,7,none⟩=false:=z7;have R7:=xh<|C3.o.brk
     go_wp2;go_ret;exact aI R7.o.post
end Sh
end Go.Proofs.YtmonobkginiajaaGreat
