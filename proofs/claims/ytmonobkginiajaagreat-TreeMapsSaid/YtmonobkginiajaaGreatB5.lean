/- packed. -/
import Derived.Deep.Cut
import Derived.Test.YtmonobkginiajaaGreatB4
set_option linter.all false
set_option maxRecDepth 100000
set_option maxHeartbeats 8000000
namespace Go.Proofs.YtmonobkginiajaaGreat
open Go.Proofs.Tryz
namespace Sh
open Go.RowKit Pk Dk Pg
variable{c:C}{n:Nat}
theorem G7(a b:Int)(l:List Int)(i:Nat)(hi:i<l.length):(Fm.jo a b l).getD i 0=Fm.mY a b (l.getD i 0):=by
 unfold Fm.jo;simp only[List.getD,jr,aL hi,kU,jc]
theorem Lb(g:Good c n):Good c.cq n/\c.cq.bR n={c.bR n with now:=iT (c.bR n).bX}/\c.cq.d=c.d:=by
 have oh:c.cq.m.length=c.m.length:=by unfold C.cq Fm.jo;simp
 have hk:∀x,cJ c.cq x=if x∈c.parts then 1 else if x∈c.bX then 1 else 0:=by
  intro x;unfold cJ C.cq
  by_cases h1:x∈c.parts
  .simp[h1]
  .by_cases h2:x∈c.bX
   .simp[h1,h2]
   .simp[h1,h2]
 refine⟨⟨g.up,g.arm,g.br,g.ok,oh.trans g.ml,g.ep,g.sl,by rw[oh];exact g.oi,by rw[oh];exact g.oi,by rw[oh];exact g.pi,g.oj,g.oj,g.pj,λx hx=>⟨(g.dt x hx).2,(g.dt x hx).2⟩,g.pl,λi x hi _ _=>hi,λi hi=>?_,λx hx h0=>?_,g.ro⟩,?_,rfl⟩
 .rw[oh]at hi;rw[hk,show c.cq.m=Fm.jo 1 0 c.m from rfl,G7 _ _ _ _ hi,g.md i hi];unfold cJ Fm.mY
  by_cases h1:(i:Int)∈c.parts
  .simp[h1]
  .by_cases h2:(i:Int)∈c.bX
   .by_cases h3:(i:Int)∈c.table<;>simp[h1,h2,h3]
   .by_cases h3:(i:Int)∈c.table<;>simp[h1,h2,h3]
 .obtain⟨q,s,q1,q2,q3,q4⟩:=g.ro x hx h0;exact⟨q,s,q1,by show q<=c.ep+1;omega,q3,q4⟩
 .unfold C.bR;rw[oh];simp only[St.mk.injEq,true_and];refine⟨?_,rfl,rfl⟩;show c.bX.map (C.cX c.cq n)=iT (c.bX.map _);unfold iT;rw[j6];refine gy (λx hx=>?_);unfold C.cX;simp only[Function.comp]
  by_cases h:x<0
  .rw[if_pos h,if_pos h];rfl
  .rw[if_neg h,if_neg h];show some (decide (x∉c.bX),_)=some (false,_);simp[hx];rfl
theorem zv(g:Good c n){k:Nat}(hk:k<c.m.length)(p:List UInt8)(hp:p.length<=232):
  (bs c.d n k (c.ep+1) 2 p).2=0/\∀d',d'=(bs c.d n k (c.ep+1) 2 p).1->d'.down=false/\d'.bt=0/\d'.Ok n/\d'.calls<=c.d.calls+4/\bu d' n k=(⟨k,c.ep+1,2,eP p 232⟩,0)/\
   ∀x:Int,0<=x->x<c.m.length->x≠k->bu d' n x=bu c.d n x:=by
 have e:=g.ep;obtain⟨h1,h2,h3,h4,h5⟩:=mz g.ok g.up g.arm k (c.ep+1) 2 p (jS g hk) (by rw[oI];omega) hp;refine⟨h1,λd' hd=>?_⟩;subst hd;refine⟨h2,h3,sF g.ok _ _ _ _,(qT _ _ _ _ _ _ (by rw[g.arm];omega)).1,h4,λx hx hx1 ff=>?_⟩;have:=h5 x.toNat (jS g (by omega)) (by omega)
 rwa [show((x.toNat:Nat):Int)=x by omega]at this
theorem Lc(g:Good c n){x:Nat}(hx:x<c.m.length)(ht:(x:Int)∈c.table):Fm.ct c.m (x:Int)=decide ((x:Int)∉c.bX):=by
 unfold Fm.ct;rw[show Fm.BF c.m (x:Int)=true from by unfold Fm.BF;simp;omega,show((x:Nat):Int).toNat=x by omega,g.md x hx];unfold cJ;rw[if_neg (λh=>(g.dt _ h).1 ht)]
 by_cases ho:(x:Int)∈c.bX
 .simp[ho,ht]
 .simp[ho,ht]
theorem xq{α β:Type}(f f':α->β)(t:List α)(k:Nat)(u:α)(v:β)(hu:f' u=v)(h:∀i x,t[i]?=some x->i≠k->f' x=f x):(t.set k u).map f'=(t.map f).set k v:=by
 apply mu;intro i;rw[jr,iL,iL,jr,fo]
 by_cases e:k=i
 .subst e;rw[if_pos rfl,if_pos rfl]
  by_cases hl:k<t.length
  .rw[if_pos hl,if_pos hl,kU,hu]
  .rw[if_neg hl,if_neg hl];rfl
 .rw[if_neg e,if_neg e]
  cases hx:t[i]? with
  |none=>rfl
  |some x=>rw[kU,kU,h i x hx (λh=>e h.symm)]
theorem Ld(g:Good c n)(l:Int)(p:List UInt8):
  Good (c.aD n l p).1 n/\(c.aD n l p).1.bR n=((c.bR n).aD l p).1/\(c.aD n l p).2=((c.bR n).aD l p).2/\(c.aD n l p).1.d.calls<=c.d.calls+4:=by
 obtain⟨h1,h2⟩:=yA g l;unfold C.aD St.aD;rw[if_neg (by rw[g.br];simp),zj g]
 by_cases hp:232<p.length
 .rw[if_pos hp,if_pos hp];exact⟨g,rfl,rfl,by show c.d.calls<=_;omega⟩
 rw[if_neg hp,if_neg hp]
 by_cases hh:c.rI l=true
 .obtain⟨k,x,rfl,hk,hx,e⟩:=h2 hh;have Gs:x<c.m.length:=by omega
  have hxt:=ay hk;have e2:c.table.getD ((k:Nat):Int).toNat 0=(x:Int):=by rw[show((k:Nat):Int).toNat=k by omega];simp[List.getD,hk]
  rw[if_pos hh,if_neg (show ¬(0:Int)≠0 by simp),if_neg (show ¬ ¬((c.bR n).at ((k:Nat):Int)).isSome=true by rw[h1.1 hh];simp),e2,e,show((k:Nat):Int).toNat=k by omega];have Bs:c.cX n (x:Int)=some (decide ((x:Int)∉c.bX),(bu c.d n x).1.s):=by unfold C.cX;rw[if_neg (by omega)]
  rw[Bs,Lc g Gs hxt];have Gf:=g.ep
  by_cases ho:(x:Int)∈c.bX
  .rw[if_neg (show ¬decide ((x:Int)∉c.bX)=true by simp[ho])]
   by_cases hf:(c.bR n).free=0
   .have yd:c.ct n p=(c,0,11):=by unfold C.ct;rw[vE g hf,if_pos (by simp)]
    rw[yd];dsimp only;rw[if_pos (show(11:Int)≠0 by decide),if_pos (show(fO (some (decide ((x:Int)∉c.bX),(bu c.d n x).1.s))=false/\(c.bR n).free=0)from⟨by simp[fO,ho],hf⟩)];exact⟨g,rfl,rfl,by show c.d.calls<=_;omega⟩
   .rw[if_neg (show ¬(fO (some (decide ((x:Int)∉c.bX),(bu c.d n x).1.s))=false/\(c.bR n).free=0)from λh=>hf h.2)];obtain⟨j,hj,h0,ht⟩:=vD g hf;obtain⟨z1,z2,z3⟩:=GV h0;obtain⟨W0,W⟩:=zv g hj p (by omega);have yd:c.ct n p=({c with m:=c.m.set j 2,d:=(bs c.d n j (c.ep+1) 2 p).1},(j:Int),0):=by
     unfold C.ct;rw[ht,if_neg (by simp),if_neg (by rw[W0];simp)]
    rw[yd];dsimp only;rw[if_neg (show ¬(0:Int)≠0 by simp)];obtain⟨w1,w2,w3,w4,w5,w6⟩:=W _ rfl;generalize (bs c.d n j (c.ep+1) 2 p).1=d' at *;have hjx:j≠x:=λe=>z3 (by rw[e];exact hxt);have hlv:(Fm.dD (c.m.set j 2) (x:Int)).1=(c.m.set j 2).set x 3:=by
     unfold Fm.dD;rw[show Fm.BF (c.m.set j 2) (x:Int)=true from by unfold Fm.BF;simp;omega,if_pos rfl,show((x:Nat):Int).toNat=x by omega,jT _ _ _ _ Gs,if_neg hjx,g.md x Gs];unfold cJ;rw[if_neg (λh=>(g.dt _ h).1 hxt),if_pos ho,if_pos hxt];simp
    dsimp only;rw[hlv];have mt:∀y:Int,0<=y->(y∈c.table.set k (j:Int)↔y=j\/(y∈c.table/\y≠x)):=by
     intro y hy
     constructor
     .intro hm;obtain⟨i,hi⟩:=kH hm;rw[iL]at hi
      by_cases e3:k=i
      .rw[if_pos e3]at hi
       split at hi
       .injection hi with hi;exact .inl hi.symm
       .cases hi
      .rw[if_neg e3]at hi;exact .inr ⟨ay hi,λe4=>e3 (g.tj k i y (by rw[e4];exact hk) hi hy)⟩
     .rintro(rfl|⟨hm,ff⟩)
      .have jx:k<c.table.length:=(aS.1 hk).1;exact ay (show(c.table.set k (j:Int))[k]?=some (j:Int) by rw[dO jx])
      .obtain⟨i,hi⟩:=kH hm;have:(c.table.set k (j:Int))[i]?=some y:=by
        rw[iL,if_neg (λe3=>ff (by subst e3;rw[hk]at hi;injection hi with hi;exact hi.symm))];exact hi
       exact ay this
    have hrd:∀y∈c.table,0<=y->bu d' n y=bu c.d n y:=λy hy h0=>by
     have:=g.ti y hy;exact w6 y h0 (by omega) (λe3=>z3 (by rw[<-e3];exact hy))
    have TG:∀y∈c.bX,0<=y->bu d' n y=bu c.d n y:=λy hy h0=>by
     have:=g.oi y hy;exact w6 y h0 (by omega) (λe3=>z2 (by rw[<-e3];exact hy))
    have EV:∀y:Int,y<0->y∈c.table.set k (j:Int)->y∈c.table:=λy hy hm=>by
     rcases yh hm with h|h
     .exact h
     .omega
    refine⟨⟨w1,w2,g.br,w3,by show((c.m.set j 2).set x 3).length=_;rw[bW,bW];exact g.ml,g.ep,g.sl,?_,?_,?_,?_,g.oj,g.pj,?_,g.pl,?_,?_,?_,?_⟩,?_,rfl,w4⟩
    .intro y hy;show y= -1\/0<=y/\y<(((c.m.set j 2).set x 3).length:Int);rw[bW,bW]
     by_cases h0:0<=y
     .rcases(mt y h0).1 hy with rfl|⟨h,_⟩
      .omega
      .exact g.ti y h
     .exact g.ti y (EV y (by omega) hy)
    .intro y hy;show y= -1\/0<=y/\y<(((c.m.set j 2).set x 3).length:Int);rw[bW,bW];exact g.oi y hy
    .intro y hy;show 0<=y/\y<(((c.m.set j 2).set x 3).length:Int);rw[bW,bW];exact g.pi y hy
    .exact g.tj.bE k _ (.inr z3)
    .intro y hy;refine⟨λhm=>?_,(g.dt y hy).2⟩
     rcases(mt y (g.pi y hy).1).1 hm with rfl|⟨h,_⟩
     .exact z1 hy
     .exact(g.dt y hy).1 h
    .intro i y hi hy hyo;have hi:(c.table.set k (j:Int))[i]?=some y:=hi;rw[iL]at hi
     split at hi
     .split at hi
      .injection hi with hi
       subst hi;exact absurd hyo z2
      .cases hi
     .exact g.sm i y hi hy hyo
    .intro i hi;have hi:i<c.m.length:=by simpa using hi
     show((c.m.set j 2).set x 3).getD i 0=cJ _ (i:Int);rw[jT _ _ _ _ (by rw[bW];exact hi),jT _ _ _ _ hi];have hk2:cJ {c with d:=d',m:=(c.m.set j 2).set x 3,table:=c.table.set k (j:Int)} (i:Int)=if(i:Int)∈c.parts then 1 else if(i:Int)∈c.bX then(if(i:Int)∈c.table.set k (j:Int)then 1 else 3)else if(i:Int)∈c.table.set k (j:Int)then 2 else 0:=rfl
     rw[hk2];simp only[mt (i:Int) (by omega)]
     by_cases ei:x=i
     .subst ei;rw[if_pos rfl,if_neg (λh=>(g.dt _ h).1 hxt),if_pos ho,if_neg (by omega)]
     .rw[if_neg ei]
      by_cases ej:j=i
      .subst ej;rw[if_pos rfl,if_neg z1,if_neg z2,if_pos (.inl rfl)]
      .rw[if_neg ej,g.md i hi];unfold cJ;have:((i:Int)=(j:Int)\/(i:Int)∈c.table/\(i:Int)≠(x:Int))↔(i:Int)∈c.table:=by
        constructor
        .rintro(h|h)
         .omega
         .exact h.1
        .exact λh=> .inr ⟨h,by omega⟩
       simp only[this]
    .intro y hy h0
     rcases(mt y h0).1 hy with rfl|⟨h,_⟩
     .exact⟨c.ep+1,_,by omega,jI _,pV p (by omega),w5⟩
     .obtain⟨q,s,q1,q2,q3,q4⟩:=g.rt y h h0;exact⟨q,s,q1,q2,q3,(hrd y h h0).trans q4⟩
    .intro y hy h0;obtain⟨q,s,q1,q2,q3,q4⟩:=g.ro y hy h0;exact⟨q,s,q1,q2,q3,(TG y hy h0).trans q4⟩
    .unfold C.bR;simp only[bW,St.mk.injEq,true_and,and_true];refine⟨?_,?_⟩
     .refine xq _ _ _ _ _ _ ?_ (λi y hi _=>?_)
      .unfold C.cX;rw[if_neg (by omega)];simp only[w5];simp[z2]
      .unfold C.cX
       by_cases h:y<0
       .rw[if_pos h,if_pos h]
       .rw[if_neg h,if_neg h];simp only[hrd y (ay hi) (by omega)]
     .refine gy (λy hy=>?_)
      by_cases h:y<0
      .rw[if_pos h,if_pos h]
      .rw[if_neg h,if_neg h];simp only[TG y hy (by omega)]
  .rw[if_pos (show decide ((x:Int)∉c.bX)=true by simp[ho]),if_neg (show ¬(fO (some (decide ((x:Int)∉c.bX),(bu c.d n x).1.s))=false/\(c.bR n).free=0) by simp[fO,ho])];obtain⟨W0,W⟩:=zv g Gs p (by omega);rw[W0];obtain⟨w1,w2,w3,w4,w5,w6⟩:=W _ rfl;generalize (bs c.d n x (c.ep+1) 2 p).1=d' at *;have TG:∀y∈c.bX,0<=y->bu d' n y=bu c.d n y:=λy hy h0=>by
    have:=g.oi y hy;exact w6 y h0 (by omega) (λe3=>ho (by rw[<-e3];exact hy))
   have hrd:∀y∈c.table,0<=y->y≠x->bu d' n y=bu c.d n y:=λy hy h0 ff=>by
    have:=g.ti y hy;exact w6 y h0 (by omega) ff
   refine⟨⟨w1,w2,g.br,w3,g.ml,g.ep,g.sl,g.ti,g.oi,g.pi,g.tj,g.oj,g.pj,g.dt,g.pl,g.sm,g.md,λy hy h0=>?_,λy hy h0=>?_⟩,?_,rfl,w4⟩
   .by_cases ey:y=x
    .subst ey;exact⟨c.ep+1,_,by omega,jI _,pV p (by omega),w5⟩
    .obtain⟨q,s,q1,q2,q3,q4⟩:=g.rt y hy h0;exact⟨q,s,q1,q2,q3,(hrd y hy h0 ey).trans q4⟩
   .obtain⟨q,s,q1,q2,q3,q4⟩:=g.ro y hy h0;exact⟨q,s,q1,q2,q3,(TG y hy h0).trans q4⟩
   .unfold C.bR;simp only[St.mk.injEq,true_and,and_true];refine⟨?_,?_⟩
    .have:=xq (c.cX n) (C.cX {c with d:=d'} n) c.table k (x:Int) (some (true,eP p 232)) (by
      unfold C.cX;rw[if_neg (by omega)];simp only[w5];simp[ho]) (λi y hi ff=>by
      unfold C.cX
      by_cases h:y<0
      .rw[if_pos h,if_pos h]
      .rw[if_neg h,if_neg h];simp only[hrd y (ay hi) (by omega) (λey=>ff (g.tj i k y hi (by rw[ey];exact hk) (by omega)))])
     rw[<-this]
     congr 1
     apply mu;intro i;rw[iL]
     by_cases e3:k=i
     .subst e3;rw[if_pos rfl,if_pos (aS.1 hk).1,hk]
     .rw[if_neg e3]
    .refine gy (λy hy=>?_)
     by_cases h:y<0
     .rw[if_pos h,if_pos h]
     .rw[if_neg h,if_neg h];simp only[TG y hy (by omega)]
 .rw[if_neg hh,if_pos (show(3:Int)≠0 by decide)];have:((c.bR n).at l)=none:=by
   cases h:(c.bR n).at l with
   |none=>rfl
   |some v=>exact absurd (h1.2 (by rw[h];rfl)) hh
  rw[this,if_pos (show ¬(none:Option (Bool×List UInt8)).isSome=true by simp)];exact⟨g,rfl,rfl,by show c.d.calls<=_;omega⟩
variable{n:Nat}{d:D}
theorem PU(l:List Bool)(k:Nat)(x:Bool)(i:Nat):(l.set k x).getD i false=if k=i/\k<l.length then x else l.getD i false:=by
 simp only[List.getD,iL]
 by_cases h:k=i
 .subst h
  by_cases h2:k<l.length
  .simp[h2]
  .simp[h2]
 .simp[h]
def Calm(n:Nat)(P:Nat->Prop)(d d':D):Prop:= ∀j,j<n->P j->sec d'.now j=sec d.now j/\(d.loose.getD j false=false->d'.loose.getD j false=false)
theorem Calm.refl{P:Nat->Prop}(d:D):Calm n P d d:=λ_ _ _=>⟨rfl,id⟩
theorem Calm.trans{P:Nat->Prop}{a b c:D}(h:Calm n P a b)(k:Calm n P b c):Calm n P a c:=λj hj hp=>by
 obtain⟨h1,h2⟩:=h j hj hp;obtain⟨k1,k2⟩:=k j hj hp;exact⟨k1.trans h1,λe=>k2 (h2 e)⟩
theorem Le(d:D):d.cN.1.now=d.now/\d.cN.1.loose=d.loose/\d.cN.1.bX=d.bX:=by
 unfold D.cN
 split
 .exact⟨rfl,rfl,rfl⟩
 .split<;>exact⟨rfl,rfl,rfl⟩
theorem Lf(d:D)(k j:Nat)(h:k≠j):(d.iz k).loose.getD j false=d.loose.getD j false:=by
 unfold D.iz
 split
 .rfl
 .show(d.loose.set k true).getD j false=_;rw[PU,if_neg (λe=>h e.1)]
theorem Lg{P:Nat->Prop}(fu:d.Ok n)(k:Int)(s:List UInt8)(hP:∀j:Nat,(j:Int)=k->¬P j):Calm n P d (d.aD n k s).1:=by
 intro j hj hp;unfold D.aD
 by_cases h0:d.jM n k=0
 .rw[if_pos h0];have hk:0<=k/\k<n:=by
   unfold D.jM at h0
   split at h0
   .cases h0
   .split at h0
    .assumption
    .cases h0
  have ff:k.toNat≠j:=λe=>hP j (by omega) hp;obtain⟨c1,c2,_⟩:=Le (d.dM k.toNat s);rw[c1,c2];refine⟨?_,λe=>?_⟩
  .show sec (gv d.now k.toNat (ki s)) j=_;rw[Nk fu.now (by omega) (kk s) hj,if_neg ff]
  .show(d.iz k.toNat).loose.getD j false=false;rw[Lf _ _ _ ff];exact e
 .rw[if_neg h0];exact⟨rfl,id⟩
theorem NH{P:Nat->Prop}(fu:d.Ok n)(k:Nat)(b:List UInt8)(hP:∀j,k<=j->j<k+4->¬P j):∀i,i<=4->Calm n P d (w4 d n k b i).1
 |0,_=> .refl d
 |i+1,hi=>by
  have ih:=NH fu k b hP i (by omega);unfold w4
  split
  .exact ih.trans (Lg (yX fu k b i) _ _ (λj e=>hP j (by omega) (by omega)))
  .exact ih
theorem p7{P:Nat->Prop}(fu:d.Ok n)(id ep kd:Int)(s:List UInt8)(hP:∀j:Nat,2+4*id.toNat<=j->j<2+4*id.toNat+4->¬P j):Calm n P d (bs d n id ep kd s).1:=by
 unfold bs
 split
 .exact .refl d
 .split
  .exact .refl d
  .exact NH fu _ _ hP 4 (ak _)
theorem PV(n j:Nat):(List.replicate n false).getD j false=false:=by
 simp only[List.getD,D8]
 split<;>rfl
theorem sH(h:d.et.2=0)(j:Nat):d.et.1.loose.getD j false=false:=by
 unfold D.et at h ⊢
 by_cases hd:d.down=true
 .rw[if_pos hd]at h;cases h
 rw[if_neg hd]at h ⊢
 by_cases hc:d.cN.2=0
 .rw[if_pos hc];exact PV _ _
 .rw[if_neg hc]at h;exact absurd h hc
theorem vJ{d':D}(hd:d'.down=d.down)(x:Nat)(hx:x<cB n)(h:∀j,2+4*x<=j->j<2+4*x+4->sec d'.now j=sec d.now j):bu d' n x=bu d n x:=by
 have e:(d'.now.drop (64*(2+4*x))).take 256=(d.now.drop (64*(2+4*x))).take 256:=by
  rw[l6,l6,h _ (by omega) (by omega),h _ (by omega) (by omega),h _ (by omega) (by omega),h _ (by omega) (by omega)]
 unfold bu;rw[hd,show((x:Nat):Int).toNat=x by omega,e]
def arm(u:D)(a:Int):D:={u with bt:=a}
variable{d:D}{n:Nat}{x:Int}{bX parts:List Int}
def upD(d:D):D:={d with down:=false}
theorem upD_eq(h:d.down=false):upD d=d:=by unfold upD;rw[<-h]
def Kept(parts bX:List Int)(j:Nat):Prop:=j<2\/∃x:Nat,((x:Int)∈parts\/(x:Int)∈bX)/\2+4*x<=j/\j<2+4*x+4
structure iU(d:D)(n:Nat)(ep slot:Int)(bX parts:List Int):Prop where
 n2:2<=n
 ro:Rt.gK ep (bX.length:Nat) parts
 sl:slot=0\/slot=1
 rt:sec d.now slot.toNat=Rt.eX ep bX.length (parts.map Int.toNat)
 ot:Rt.goodR (sec d.now (1-slot).toNat)->Rt.pX (sec d.now (1-slot).toNat)<ep
 pp:∀(i:Nat) (x:Int),parts[i]?=some x->∃q,0<=q/\q<=ep/\bu (upD d) n x=(⟨x,q,1,eP (Rt.iB (Rt.gj bX i)) 232⟩,0)
 lo:∀j,j<n->Kept parts bX j->d.loose.getD j false=false
def Twin(d:D)(slot ep:Int):Prop:=(sec d.now (1-slot).toNat).take 8=(sec d.now (1-slot).toNat).drop 56/\Rt.pX (sec d.now (1-slot).toNat)<ep
theorem TH(h:(bu d n x).2=0):0<=x/\x<cB n:=by
 unfold bu at h
 by_cases hx:x<0\/(cB n:Int)<=x
 .rw[if_pos hx]at h;exact absurd h (by decide)
 .omega
theorem E4{x:Nat}(hx:x<cB n):2+4*x+4<=n:=by unfold cB at hx;omega
theorem iU.calm{d':D}{ep slot:Int}(R:iU d n ep slot bX parts)(h:Calm n (Kept parts bX) d d'):iU d' n ep slot bX parts:=by
 have n2:=R.n2;have hs:=R.sl;have e1:=(h slot.toNat (by omega) (.inl (by omega))).1;have e2:=(h (1-slot).toNat (by omega) (.inl (by omega))).1;refine⟨R.n2,R.ro,R.sl,e1.trans R.rt,by rw[e2];exact R.ot,λi x hx=>?_,λj hj hk=>(h j hj hk).2 (R.lo j hj hk)⟩;obtain⟨q,q0,q1,q2⟩:=R.pp i x hx;obtain⟨h0,h1⟩:=TH (by rw[q2]);refine⟨q,q0,q1,?_⟩;rw[<-q2]
 have:=vJ (d:=upD d) (d':=upD d') (n:=n) rfl x.toNat (by omega) (λj a b=>(h j (by have:=E4 (show x.toNat<cB n by omega);omega) (.inr ⟨x.toNat,.inl (by rw[show((x.toNat:Nat):Int)=x by omega];exact ay hx),a,b⟩)).1)
 rwa [show((x.toNat:Nat):Int)=x by omega]at this
theorem G8{k:Nat}(h1:(k:Int)∉parts)(h2:(k:Int)∉bX)(j:Nat)(a:2+4*k<=j)(b:j<2+4*k+4):¬Kept parts bX j:=by
 rintro(h|⟨x,h,c,e⟩)
 .omega
 .obtain rfl:x=k:=by omega
  exact h.elim h1 h2
def C.on(c:C)(d:D):C:={c with d:=d}
theorem G9{c:C}(g:Good c n)(d0:D)(p:List UInt8)(fu:d0.Ok n):Calm n (Kept c.parts c.bX) d0 ((c.on d0).ct n p).1.d:=by
 by_cases hf:(c.bR n).free=0
 .unfold C.ct;have e2:Fm.cR (c.on d0).m=Fm.cR c.m:=rfl;rw[e2,vE g hf,if_pos (by simp)];exact .refl d0
 .obtain⟨k,hk,h0,e⟩:=vD g hf;obtain⟨z1,z2,z3⟩:=GV h0;have this:Calm n (Kept c.parts c.bX) d0 (bs (c.on d0).d n ((k:Nat):Int) ((c.on d0).ep+1) 2 p).1:=p7 fu ((k:Nat):Int) (c.ep+1) 2 p (λj a b=>G8 z1 z2 j (by omega) (by omega));unfold C.ct;have e2:Fm.cR (c.on d0).m=Fm.cR c.m:=rfl;rw[e2,e,if_neg (by simp)]
  split
  .exact this
  .exact this
theorem new_on{c:C}(g:Good c n)(d0:D)(p:List UInt8)(fu:d0.Ok n):Calm n (Kept c.parts c.bX) d0 ((c.on d0).bV n p).1.d:=by
 have:=G9 g d0 p fu;unfold C.bV;rw[if_neg (show ¬(c.on d0).broken=true by show ¬c.broken=true;rw[g.br];simp)]
 split
 .exact .refl d0
 .split
  .exact .refl d0
  .split
   .exact this
   .exact this
theorem PW{c:C}(g:Good c n)(h:Fm.ct c.m x=true):∃k:Nat,x=k/\k<c.m.length/\(k:Int)∉c.parts/\(k:Int)∉c.bX:=by
 unfold Fm.ct Fm.BF at h;simp only[im,decide_eq_true_eq,beq_iff_eq]at h;obtain⟨⟨h0,h1⟩,h2⟩:=h;refine⟨x.toNat,by omega,by omega,?_⟩;rw[g.md _ (by omega)]at h2;unfold cJ at h2
 split at h2
 .omega
 .split at h2
  .split at h2<;>omega
  .exact⟨by assumption,by assumption⟩
theorem TK{c:C}(g:Good c n)(d0:D)(l:Int)(p:List UInt8)(fu:d0.Ok n):Calm n (Kept c.parts c.bX) d0 ((c.on d0).aD n l p).1.d:=by
 have:=G9 g d0 p fu;unfold C.aD;rw[if_neg (show ¬(c.on d0).broken=true by show ¬c.broken=true;rw[g.br];simp)]
 split
 .exact .refl d0
 .split
  .exact .refl d0
  .split
   .rename_i hf;obtain⟨k,e,hk,z1,z2⟩:=PW g hf;show Calm n _ d0 (bs d0 n _ _ _ _).1;exact p7 fu _ _ _ _ (λj a b=>by
     have e:((c.on d0).table.getD l.toNat 0).toNat=k:=by omega
     rw[e]at a b;exact G8 z1 z2 j a b)
   .split
    .exact this
    .exact this
theorem Lh{c:C}(g:Good c n)(R:iU c.d n c.ep c.slot c.bX c.parts)(p:List UInt8):iU (c.bV n p).1.d n c.ep c.slot c.bX c.parts:=R.calm (new_on g c.d p g.ok)
theorem E6{c:C}(g:Good c n)(R:iU c.d n c.ep c.slot c.bX c.parts)(l:Int)(p:List UInt8):iU (c.aD n l p).1.d n c.ep c.slot c.bX c.parts:=R.calm (TK g c.d l p g.ok)
theorem Li(c:C)(n:Nat)(p:List UInt8):(c.bV n p).1.bX=c.bX/\(c.bV n p).1.parts=c.parts/\(c.bV n p).1.ep=c.ep/\(c.bV n p).1.slot=c.slot/\(c.bV n p).1.broken=c.broken:=by
 obtain⟨f1,f2,f3,f4,f5,f6⟩:=lV c n p;unfold C.bV
 split
 .exact⟨rfl,rfl,rfl,rfl,rfl⟩
 .split
  .exact⟨rfl,rfl,rfl,rfl,rfl⟩
  .split
   .exact⟨rfl,rfl,rfl,rfl,rfl⟩
   .split
    .exact⟨f2,f3,f4,f5,f6⟩
    .exact⟨f2,f3,f4,f5,f6⟩
theorem E9(c:C)(n:Nat)(l:Int)(p:List UInt8):(c.aD n l p).1.bX=c.bX/\(c.aD n l p).1.parts=c.parts/\(c.aD n l p).1.ep=c.ep/\(c.aD n l p).1.slot=c.slot/\(c.aD n l p).1.broken=c.broken:=by
 obtain⟨f1,f2,f3,f4,f5,f6⟩:=lV c n p;unfold C.aD
 split
 .exact⟨rfl,rfl,rfl,rfl,rfl⟩
 .split
  .exact⟨rfl,rfl,rfl,rfl,rfl⟩
  .split
   .exact⟨rfl,rfl,rfl,rfl,rfl⟩
   .split
    .exact⟨rfl,rfl,rfl,rfl,rfl⟩
    .split
     .exact⟨f2,f3,f4,f5,f6⟩
     .exact⟨f2,f3,f4,f5,f6⟩
variable{x:Int}{c:C}{n:Nat}
theorem Lj{m:List Int}(h:∃i,i<m.length/\m.getD i 0=0):Fm.de m 0<m.length/\m.getD (Fm.de m 0) 0=0:=by
 obtain⟨i,hi,h0⟩:=h;have dH:Fm.de m 0<m.length:=by
  unfold Fm.de;rw[JK];refine⟨m[i],jJ hi,?_⟩;simp[List.getD,aL hi]at h0;simp[h0]
 refine⟨dH,?_⟩;have:=pL (p:=(· ==(0:Int))) (xs:=m) (w:=dH);simp[List.getD];unfold Fm.de at dH ⊢;rw[aL dH];simpa using this
theorem zx(m:List Int):∀k,k<=(Fm.gw m 0).length->(takeN m k).1.length=m.length/\(takeN m k).2.Nodup/\(∀x∈(takeN m k).2,∃i:Nat,x=i/\i<m.length/\m.getD i 0=0)/\∀i:Nat,i<m.length->(takeN m k).1.getD i 0=if(i:Int)∈(takeN m k).2 then 2 else m.getD i 0
 |0,_=>⟨rfl,ou,by simp[takeN],λi hi=>by simp[takeN]⟩
 |k+1,h=>by
  obtain⟨h1,h2,h3,h4⟩:=zx m k (by omega);have hl:=qZ m k;have hz:∃i,i<(takeN m k).1.length/\(takeN m k).1.getD i 0=0:=by
   by_cases hh:∃i,i<(takeN m k).1.length/\(takeN m k).1.getD i 0=0
   .exact hh
   .have:=uh (Fm.gw m 0) (takeN m k).2 (jQ m 0) (λx hx=>by
     obtain⟨i,rfl,hi,h0⟩:=fX.1 hx
     by_cases hm:(i:Int)∈(takeN m k).2
     .exact hm
     .exact absurd ⟨i,by rw[h1];exact hi,by rw[h4 i hi,if_neg hm];exact h0⟩ hh)
    omega
  obtain⟨f1,f2⟩:=Lj hz;obtain⟨F,hF⟩:∃F,Fm.de (takeN m k).1 0=F:=⟨_,rfl⟩;rw[hF]at f1 f2;have e:Fm.cR (takeN m k).1=((takeN m k).1.set F 2,((F:Nat):Int),0):=by unfold Fm.cR;rw[hF,if_pos f1]
  have e1:(takeN m (k+1)).1=(takeN m k).1.set F 2:=by show(Fm.cR _).1=_;rw[e]
  have e2:(takeN m (k+1)).2=(takeN m k).2++[((F:Nat):Int)]:=by show _++[(Fm.cR _).2.1]=_;rw[e]
  have hFm:F<m.length:=by rw[<-h1];exact f1
  have hFn:((F:Nat):Int)∉(takeN m k).2:=λhm=>by
   rw[h4 F hFm,if_pos hm]at f2;omega
  have hF0:m.getD F 0=0:=by
   rw[h4 F hFm,if_neg hFn]at f2;exact f2
  rw[e1,e2];refine⟨by rw[bW];exact h1,?_,λx hx=>?_,λi hi=>?_⟩
  .rw[iu];refine⟨h2,by simp,λa ha b hb e=>?_⟩;rw[aQ.1 hb]at e;exact hFn (by rw[<-e];exact ha)
  .rcases aC.1 hx with hx|hx
   .exact h3 x hx
   .exact⟨F,aQ.1 hx,hFm,hF0⟩
  .rw[jT _ _ _ _ (by omega)]
   by_cases e:F=i
   .subst e;rw[if_pos rfl,if_pos (bK _ (aQ.2 rfl))]
   .rw[if_neg e,h4 i hi];have:((i:Int)∈(takeN m k).2++[((F:Nat):Int)])↔(i:Int)∈(takeN m k).2:=by
     rw[aC,aQ];exact⟨λh=>h.elim id (λh=>by omega),.inl⟩
    simp only[this]
theorem nr:∀(L:List Int) (m:List Int),L.Nodup->(∀x∈L,∃i:Nat,x=i/\i<m.length/\m.getD i 0=1)->(cE m L).length=m.length/\∀i:Nat,i<m.length->(cE m L).getD i 0=if(i:Int)∈L then 3 else m.getD i 0
 |[],m,_,_=>⟨rfl,λi hi=>by simp[cE]⟩
 |x::L,m,hn,h=>by
  obtain⟨n1,n2⟩:=gf.1 hn;obtain⟨k,rfl,hk,h1⟩:=h x (fY ..);have e:(Fm.dD m ((k:Nat):Int)).1=m.set k 3:=by
   unfold Fm.dD;rw[show Fm.BF m ((k:Nat):Int)=true from by unfold Fm.BF;simp;omega,if_pos rfl,show((k:Nat):Int).toNat=k by omega,h1,if_neg (by decide),if_pos rfl]
  obtain⟨r1,r2⟩:=nr L (m.set k 3) n2 (λy hy=>by
   obtain⟨i,rfl,hi,h0⟩:=h y (ax _ hy);exact⟨i,rfl,by rw[bW];exact hi,by rw[jT _ _ _ _ hi,if_neg (λe=>n1 (by rw[e];exact hy))];exact h0⟩)
  rw[bW]at r1 r2;show(cE (Fm.dD m ((k:Nat):Int)).1 L).length=_/\∀i:Nat,i<m.length->(cE (Fm.dD m ((k:Nat):Int)).1 L).getD i 0=_;rw[e];refine⟨r1,λi hi=>?_⟩;rw[r2 i hi,jT _ _ _ _ hi]
  by_cases uY:k=i
  .subst uY;rw[if_pos (fY ..),if_neg n1,if_pos rfl]
  .rw[if_neg uY];have:((i:Int)∈((k:Nat):Int)::L)↔(i:Int)∈L:=by
    rw[an];exact⟨λh=>h.elim (λh=>by omega) id,.inr⟩
   simp only[this]
theorem vK(t:List Int):∀k i,kE t k<=i->i<k->t.getD i 0<0
 |0,i,_,h=>by omega
 |k+1,i,h,hi=>by
  rw[mC]at h
  split at h
  .by_cases e:i=k
   .subst e;assumption
   .exact vK t k i h (by omega)
  .omega
theorem Ha{t:List Int}(h0:0<=x):x∈t.take (kE t t.length)↔x∈t:=by
 refine⟨fZ,λh=>?_⟩;obtain⟨i,hi⟩:=kH h;have hl:=(aS.1 hi).1;have dH:i<kE t t.length:=by
  refine Nat.lt_of_not_le (λhle=>?_);have:=vK t t.length i hle hl;simp only[List.getD,hi,jc]at this;omega
 have:(t.take (kE t t.length))[i]?=some x:=by rw[pN dH];exact hi
 exact ay this
theorem uo{α:Type}{t:List α}{k i:Nat}{x:α}(h:(t.take k)[i]?=some x):t[i]?=some x:=by
 have hl:=(aS.1 h).1;rw[bm]at hl;rw[pN (by omega)]at h;exact h
def St.pad(b:St)(k:Nat):St:={b with now:=b.now++List.replicate k none}
theorem PY(c:C)(h0:0<=x):cJ c.cv x=cJ c x:=by
 unfold cJ;show(if x∈c.parts then 1 else if x∈c.bX then(if x∈c.table.take _ then 1 else 3)else if x∈c.table.take _ then 2 else 0:Int)=_;simp only[Ha h0]
theorem CE(g:Good c n):Good c.cv n/\c.bR n=(c.cv.bR n).pad (c.table.length-kE c.table c.table.length):=by
 have hle:=zp c.table c.table.length;refine⟨⟨g.up,g.arm,g.br,g.ok,g.ml,g.ep,g.sl,λx hx=>g.ti x (fZ hx),g.oi,g.pi,λi j x hi hj=>g.tj i j x (uo hi) (uo hj),g.oj,g.pj,λx hx=>⟨λh=>(g.dt x hx).1 (fZ h),(g.dt x hx).2⟩,g.pl,λi x hi=>g.sm i x (uo hi),λi hi=>?_,λx hx=>g.rt x (fZ hx),g.ro⟩,?_⟩
 .rw[PY c (by omega)];exact g.md i hi
 .unfold C.bR St.pad;simp only[St.mk.injEq,true_and];refine⟨rfl,?_,rfl,rfl⟩;have e:c.table=c.cv.table++c.table.drop (kE c.table c.table.length):=(kT _ _).symm;have e2:(c.table.drop (kE c.table c.table.length)).map (c.cX n)=List.replicate (c.table.length-kE c.table c.table.length) none:=by
   rw[List.eq_replicate_iff];refine⟨by simp,λb hb=>?_⟩;obtain⟨x,hx,rfl⟩:=dC.1 hb;obtain⟨i,hi⟩:=kH hx;rw[gI]at hi;have hl:=(aS.1 hi).1;have:=vK c.table c.table.length _ (Ei _ i) hl;simp only[List.getD,hi,jc]at this;unfold C.cX;rw[if_pos this]
  have e3:c.table.map (c.cX n)=c.cv.table.map (c.cX n)++(c.table.drop (kE c.table c.table.length)).map (c.cX n):=by
   rw[<-dA,<-e]
  rw[e3,e2];rfl
theorem part_le(l:List Int)(i:Nat):(Rt.iB (Rt.gj l i)).length<=232:=by
 unfold Rt.iB;rw[Rt.GX,fo,Rt.pY];omega
theorem vL:∀{l:List Int} {i j:Nat} {x:Int},l.Nodup->l[i]?=some x->l[j]?=some x->i=j
 |[],i,j,x,_,hi,_=>by simp at hi
 |y::l,0,0,x,_,_,_=>rfl
 |y::l,0,j+1,x,h,hi,hj=>by
  have hj:l[j]?=some x:=by simpa using hj
  have hi:y=x:=by simpa using hi
  subst hi;exact absurd (ay hj) (gf.1 h).1
 |y::l,i+1,0,x,h,hi,hj=>by
  have hi:l[i]?=some x:=by simpa using hi
  have hj:y=x:=by simpa using hj
  subst hj;exact absurd (ay hi) (gf.1 h).1
 |y::l,i+1,j+1,x,h,hi,hj=>by
  have:=vL (l:=l) (i:=i) (j:=j) (x:=x) (gf.1 h).2 (by simpa using hi) (by simpa using hj);omega
def InP(P:List Int)(j:Nat):Prop:= ∃x:Nat,(x:Int)∈P/\2+4*x<=j/\j<2+4*x+4
theorem CF(hd:c.d.down=false)(ha:c.d.bt=0)(fu:c.d.Ok n){P:List Int}(hP:P.Nodup)(hr:∀x∈P,∃k:Nat,x=k/\k<cB n)(he:0<=c.ep/\c.ep<1099511627776):∀i,i<=P.length->
  (c.gP n P i).2=0/\(c.gP n P i).1.down=false/\(c.gP n P i).1.bt=0/\(c.gP n P i).1.Ok n/\(c.gP n P i).1.calls<=c.d.calls+4*i/\
   (∀(j:Nat) (x:Int),j<i->P[j]?=some x->bu (c.gP n P i).1 n x=(⟨x,c.ep+1,1,eP (Rt.iB (Rt.gj c.table j)) 232⟩,0))/\Calm n (λj=> ¬InP P j) c.d (c.gP n P i).1
 |0,_=>⟨rfl,hd,ha,fu,by show c.d.calls<=_;omega,λj x hj=>by omega,.refl _⟩
 |i+1,hi=>by
  obtain⟨h1,h2,h3,h4,h5,h6,h7⟩:=CF hd ha fu hP hr he i (by omega);obtain⟨x,hx⟩:∃x,P[i]?=some x:=⟨_,aL (by omega)⟩;have hxm:=ay hx;obtain⟨k,rfl,hk⟩:=hr x hxm;have eD:P.getD i 0=((k:Nat):Int):=by simp[List.getD,hx]
  rw[vI,if_neg (by rw[h1];decide),eD];obtain⟨w1,w2,w3,w4,w5⟩:=mz h4 h2 h3 k (c.ep+1) 1 (Rt.iB (Rt.gj c.table i)) hk (by rw[oI];omega) (part_le _ _);have hb:=(qT (c.gP n P i).1 n ((k:Nat):Int) (c.ep+1) 1 (Rt.iB (Rt.gj c.table i)) (by rw[h3];omega)).1;refine⟨w1,w2,w3,sF h4 _ _ _ _,by omega,λj y hj hy=>?_,h7.trans (p7 h4 _ _ _ _ (λj a b hn=>hn ⟨k,hxm,by omega,by omega⟩))⟩
  by_cases e:j=i
  .subst e;rw[hx]at hy;injection hy with hy
   subst hy;exact w4
  .obtain⟨k',rfl,hk'⟩:=hr y (ay hy);rw[w5 k' hk' (λe2=>e (by
    subst e2;exact vL hP hy hx))]
   exact h6 j _ (by omega) hy
theorem fill64{b:List UInt8}(h:b.length=64):ki b=b:=vA b h
theorem PZ(hd:c.d.down=false)(ha:c.d.bt=0)(fu:c.d.Ok n){P:List Nat}(hP:(Rt.dr P).Nodup)(hr:∀x∈Rt.dr P,∃k:Nat,x=k/\k<cB n)(he:0<=c.ep/\c.ep<1099511627776)(hn:2<=n)(hs:c.slot=0\/c.slot=1)(h5:P.length<=5):
  (c.bH n P).2=0/\(c.bH n P).1.down=false/\(c.bH n P).1.bt=0/\(c.bH n P).1.Ok n/\(c.bH n P).1.calls<=c.d.calls+4*P.length+3/\
   (∀(j:Nat) (x:Int),(Rt.dr P)[j]?=some x->bu (c.bH n P).1 n x=(⟨x,c.ep+1,1,eP (Rt.iB (Rt.gj c.table j)) 232⟩,0))/\
   (∀x:Nat,x<cB n->(x:Int)∉Rt.dr P->bu (c.bH n P).1 n x=bu c.d n x)/\
   sec (c.bH n P).1.now c.slot.toNat=sec c.d.now c.slot.toNat/\sec (c.bH n P).1.now (1-c.slot).toNat=Rt.eX (c.ep+1) c.table.length P/\∀j,(c.bH n P).1.loose.getD j false=false:=by
 obtain⟨h1,h2,h3,h4,h6,h7,h8⟩:=CF hd ha fu hP hr he (Rt.dr P).length (ak _);have eL:(Rt.dr P).length=P.length:=by simp[Rt.dr]
 rw[eL]at h1 h2 h3 h4 h6 h7 h8;obtain⟨d1,uX⟩:∃d1,(c.gP n (Rt.dr P) P.length)=(d1,0):=⟨_,by rw[<-h1]⟩;unfold C.bH;rw[uX]at h1 h2 h3 h4 h6 h7 h8 ⊢;dsimp only at h1 h2 h3 h4 h6 h7 h8 ⊢;obtain⟨s1,s2,s3,s4⟩:=nK h2 h3;have s5:=(zo d1 (by rw[h3];omega)).1;have s6:d1.et.1.Ok n:=h4.sync;have s7:=sH s1;rw[if_neg (by decide),if_neg (by rw[s1];decide)];generalize d1.et.1=d2 at *;have P8:(1-c.slot).toNat<n:=by omega
 have hsI:(1-c.slot:Int)=(((1-c.slot).toNat:Nat):Int):=by omega
 rw[hsI,show((((1-c.slot).toNat:Nat):Int)).toNat=(1-c.slot).toNat by omega];obtain⟨s,hsd⟩:∃s,s=(1-c.slot).toNat:=⟨_,rfl⟩;rw[<-hsd]at P8 ⊢;have Lk:=Rt.uj (c.ep+1) c.table.length P h5;obtain⟨w1,w2,w3⟩:=iP (n:=n) s2 s3 P8 (Rt.eX (c.ep+1) c.table.length P);have w4:=qU s6 s P8 _ w1;have w5:=(jh d2 n s (Rt.eX (c.ep+1) c.table.length P) (by rw[s3];omega)).1;have w6:=s6.write (s:Int) (Rt.eX (c.ep+1) c.table.length P)
 rw[if_neg (by rw[w1];decide)];generalize (d2.aD n (s:Int) (Rt.eX (c.ep+1) c.table.length P)).1=d3 at *;obtain⟨v1,v2,v3,v4⟩:=nK w2 w3;have v5:=(zo d3 (by rw[w3];omega)).1;have v6:=w6.sync;have v7:=sH v1;have hpage:∀x:Nat,x<cB n->bu d3.et.1 n x=bu d1 n x:=λx hx=>vJ (by rw[v2,h2]) x hx (λj a b=>by
  have:=E4 hx;rw[v4,w4 j (by omega),if_neg (by omega),s4])
 refine⟨v1,v2,v3,v6,by omega,λj x hx=>?_,λx hx hn=>?_,?_,?_,v7⟩
 .obtain⟨k,rfl,hk⟩:=hr x (ay hx);rw[hpage k hk];exact h7 j _ (by have:=(aS.1 hx).1;omega) hx
 .rw[hpage x hx];exact vJ (by rw[h2,hd]) x hx (λj a b=>(h8 j (by have:=E4 hx;omega) (λ⟨y,hy,c1,c2⟩=>hn (by
   obtain rfl:y=x:=by omega
   exact hy))).1)
 .rw[v4,w4 _ (by omega),if_neg (by omega),s4];exact(h8 _ (by omega) (λ⟨y,hy,c1,c2⟩=>by omega)).1
 .rw[v4,w4 _ (by omega),if_pos rfl,fill64 Lk]
variable{P:List Int}{ep:Int}{k n:Nat}
theorem CG(h:∀x∈P,0<=x):Rt.dr (P.map Int.toNat)=P:=by
 unfold Rt.dr;rw[j6];exact(gy (λx hx=>by have:=h x hx;exact Int.toNat_of_nonneg this)).trans (List.map_id _)
theorem Hb(c:C)(n:Nat):∀k,k<=c.table.length->jU (c.bR n).now k=kE c.table k
 |0,_=>rfl
 |k+1,h=>by
  unfold jU;rw[mC,Hb c n k (by omega)];have e:((c.bR n).now[k]?).getD none=c.cX n (c.table.getD k 0):=by
   unfold C.bR;rw[jr];simp only[List.getD];rw[aL (by omega)];rfl
  rw[e];unfold C.cX
  by_cases hx:c.table.getD k 0<0
  .rw[if_pos hx,if_pos hx,if_neg (by simp)]
  .rw[if_neg hx,if_neg hx,if_pos (by simp)]
theorem zy(c:C)(n:Nat):(c.bR n).eg=c.cv.table.map (λx=>if x<0 then none else some (bu c.d n x).1.s):=by
 unfold St.eg;have hl:(c.bR n).now.length=c.table.length:=by unfold C.bR;simp
 rw[hl,Hb c n _ (ak _)];show((c.table.map (c.cX n)).take _).map _=(c.table.take _).map _;rw[<-lR,j6];refine gy (λx _=>?_);simp only[Function.comp,C.cX]
 split<;>rfl
theorem CH(h:P.Nodup):Bu P:=λ_ _ _ hi hj _=>vL h hi hj
theorem vM(h:Bu P)(h0:∀x∈P,0<=x):P.Nodup:=by
 have:=jR h
 rwa [show ids P=P from vh.2 (λx hx=>by simpa using h0 x hx)]at this
theorem TM(he:0<=ep/\ep<1099511627776)(hk:k<=512)(hl:P.length=cM k)(hn:P.Nodup)(hr:∀x∈P,0<=x/\x<=1023):Rt.gK (ep+1) (k:Nat) P:=by
 refine⟨by omega,by omega,by omega,by omega,by rw[hl,NG],λi x hx=>?_⟩;obtain⟨h0,h1⟩:=hr x (ay hx);refine⟨h0,h1,λhm=>?_⟩;obtain⟨j,hj⟩:=kH hm;have Px:=(aS.1 hj).1;rw[bm]at Px;have:=CH hn j i x (uo hj) hx h0;omega
theorem oR{c:C}(g:Good c n)(tl:c.table.length<=512)(hf:cM c.cv.table.length<=(Fm.gw c.m 0).length):
  ∃mT P,takeN c.m (cM c.cv.table.length)=(mT,P)/\mT.length=c.m.length/\P.Nodup/\P.length=cM c.cv.table.length/\(∀x∈P,∃i:Nat,x=i/\i<c.m.length/\i<=1023/\x∉c.parts/\x∉c.bX/\x∉c.table)/\
   (∀i:Nat,i<c.m.length->mT.getD i 0=if(i:Int)∈P then 2 else cJ c i)/\Rt.dr (P.map Int.toNat)=P/\Rt.gK (c.ep+1) (c.cv.table.length:Nat) P:=by
 obtain⟨h1,h2,h3,h4⟩:=zx c.m _ hf;have hl:=qZ c.m (cM c.cv.table.length);have hm:c.m.length<=1024:=by rw[g.ml];unfold fi;omega
 have hb:∀x∈(takeN c.m (cM c.cv.table.length)).2,∃i:Nat,x=i/\i<c.m.length/\i<=1023/\x∉c.parts/\x∉c.bX/\x∉c.table:=λx hx=>by
  obtain⟨i,rfl,hi,h0⟩:=h3 x hx;rw[g.md i hi]at h0;obtain⟨z1,z2,z3⟩:=GV h0;exact⟨i,rfl,hi,by omega,z1,z2,z3⟩
 have h0:∀x∈(takeN c.m (cM c.cv.table.length)).2,0<=x/\x<=1023:=λx hx=>by
  obtain⟨i,rfl,hi,NI,_⟩:=hb x hx;omega
 have ht:c.cv.table.length<=512:=by
  show(c.table.take _).length<=512;rw[bm];omega
 have Gf:=g.ep;exact⟨_,_,rfl,h1,h2,hl,hb,λi hi=>by rw[h4 i hi,g.md i hi],CG (λx hx=>(h0 x hx).1),TM (by omega) ht hl h2 h0⟩
theorem sI{d:D}{slot:Int}{bX parts:List Int}(R:iU d n ep slot bX parts):Rt.dr (parts.map Int.toNat)=parts:=CG (λx hx=>by
 obtain⟨i,hi⟩:=kH hx;exact(R.ro.2.2.2.2.2 i x hi).1)
theorem vN(hr:Rt.gK ep (k:Nat) P)(hP:Rt.dr (P.map Int.toNat)=P):(Rt.eX ep k (P.map Int.toNat)).take 8=(Rt.eX ep k (P.map Int.toNat)).drop 56/\Rt.pX (Rt.eX ep k (P.map Int.toNat))=ep:=by
 have h5:(P.map Int.toNat).length<=5:=by have:=Rt.kK hr;simpa using this
 exact⟨by rw[Rt.zm,Rt.Ky _ _ _ h5],(Rt.Ty ep k _ (by rw[hP];exact hr)).1⟩
def C.zz(c:C)(d:D)(mT P:List Int):C:={c.cv with m:=Fm.jo 0 1 (cE mT c.parts),d:=d,bX:=c.cv.table,parts:=P,ep:=c.ep+1,slot:=1-c.slot}
theorem Hc{c:C}(g:Good c n)(hf:(c.bR n).free<cM (c.bR n).eg.length):c.aK n=(c.cv,11):=by
 unfold C.aK;rw[(mB g).1,if_pos (by rw[zy]at hf;simpa using hf)]
theorem Qa{c:C}(g:Good c n)(R:iU c.d n c.ep c.slot c.bX c.parts)(he:c.ep<1099511627775)(tl:c.table.length<=512){mT:List Int}(hT:takeN c.m (cM c.cv.table.length)=(mT,P))(hf:cM c.cv.table.length<=(Fm.gw c.m 0).length)
 {d':D}(hd:d'=(({c.cv with m:=mT}:C).bH n (P.map Int.toNat)).1):
  (({c.cv with m:=mT}:C).bH n (P.map Int.toNat)).2=0/\Good (c.zz d' mT P) n/\iU d' n (c.ep+1) (1-c.slot) c.cv.table P/\Twin d' (1-c.slot) (c.ep+1)/\d'.calls<=c.d.calls+30/\
   (c.zz d' mT P).bR n={c.bR n with now:=iT (c.bR n).eg,bX:=(c.bR n).eg,ep:=(c.bR n).ep+1}:=by
 obtain⟨mT',P',e,t1,t2,t3,t4,t5,t6,t7⟩:=oR g tl hf;rw[hT]at e;obtain⟨rfl,rfl⟩:mT=mT'/\P=P':=⟨congrArg Prod.fst e,congrArg Prod.snd e⟩;clear e;have Gf:=g.ep;have n2:=R.n2;have h5:P.length<=5:=Rt.kK t7;obtain⟨f1,f2,f3,f4,f5,f6,f7,f8,f9,f10⟩:=PZ (c:={c.cv with m:=mT}) (n:=n) (P:=P.map Int.toNat) g.up g.arm g.ok (by rw[t6];exact t2) (λx hx=>by
  rw[t6]at hx;obtain⟨i,e,hi,_⟩:=t4 x hx;exact⟨i,e,jS g hi⟩) (show 0<=c.ep/\c.ep<1099511627776 by omega) n2 g.sl (by rw[fo];exact h5)
 rw[<-hd]at f2 f3 f4 f5 f6 f7 f8 f9 f10;rw[t6]at f6 f7;rw[fo]at f5;refine⟨f1,?_,?_,?_,by have:d'.calls<=c.d.calls+4*P.length+3:=f5;omega,?_⟩
 .have gt:=(CE g).1;have hsame:∀x:Int,x∈c.table->0<=x->bu d' n x=bu c.d n x:=λx hx h0=>by
   have hti:=g.ti x hx;have:=f7 x.toNat (jS g (by omega)) (λhm=>by
    rw[show((x.toNat:Nat):Int)=x by omega]at hm;obtain⟨_,_,_,_,_,_,h⟩:=t4 x hm;exact h hx)
   rwa [show((x.toNat:Nat):Int)=x by omega]at this
  obtain⟨v1,v2⟩:=nr c.parts mT (vM g.pj (λx hx=>(g.pi x hx).1)) (λx hx=>by
   have:=g.pi x hx;refine⟨x.toNat,by omega,by omega,?_⟩;rw[t5 x.toNat (by omega),show((x.toNat:Nat):Int)=x by omega,if_neg (λhm=>by
    obtain⟨_,_,_,_,h,_⟩:=t4 x hm;exact h hx)]
   unfold cJ;rw[if_pos hx])
  have oh:(c.zz d' mT P).m.length=c.m.length:=by
   show(Fm.jo 0 1 (cE mT c.parts)).length=_;rw[Fm.ud,v1,t1]
  refine⟨f2,f3,g.br,f4,oh.trans g.ml,(by show 1<=c.ep+1/\c.ep+1<1099511627776;omega),(by show 1-c.slot=0\/1-c.slot=1;have:=g.sl;omega),by rw[oh];exact gt.ti,by rw[oh];exact gt.ti,λx hx=>?_,gt.tj,gt.tj,CH t2,λx hx=>?_,t3,λi x hi _ _=>hi,λi hi=>?_,λx hx h0=>?_,λx hx h0=>?_⟩
  .obtain⟨i,rfl,hi,_⟩:=t4 x hx;rw[oh];omega
  .obtain⟨_,_,_,_,_,_,h⟩:=t4 x hx;exact⟨λhm=>h (fZ hm),λhm=>h (fZ hm)⟩
  .rw[oh]at hi;show(Fm.jo 0 1 (cE mT c.parts)).getD i 0=_;rw[G7 _ _ _ _ (by omega),v2 i (by omega),t5 i hi];have hk:cJ (c.zz d' mT P) i=if(i:Int)∈P then 1 else if(i:Int)∈c.cv.table then 1 else 0:=by
    show(if(i:Int)∈P then 1 else if(i:Int)∈c.cv.table then(if(i:Int)∈c.cv.table then 1 else 3)else if(i:Int)∈c.cv.table then 2 else 0:Int)=_
    by_cases h1:(i:Int)∈P
    .rw[if_pos h1,if_pos h1]
    .by_cases h2:(i:Int)∈c.cv.table
     .simp only[h1,h2,if_true,if_false]
     .simp only[h1,h2,if_false]
   rw[hk];have hmt:(i:Int)∈c.cv.table↔(i:Int)∈c.table:=Ha (by omega);simp only[hmt]
   by_cases hp:(i:Int)∈c.parts
   .rw[if_pos hp,if_neg (λhm=>by
     obtain⟨_,_,_,_,h,_⟩:=t4 _ hm;exact h hp),if_neg (g.dt _ hp).1]
    rfl
   .rw[if_neg hp]
    by_cases hP:(i:Int)∈P
    .rw[if_pos hP,if_pos hP];rfl
    .rw[if_neg hP,if_neg hP];unfold cJ;rw[if_neg hp]
     by_cases h1:(i:Int)∈c.bX<;>by_cases h2:(i:Int)∈c.table<;>simp only[h1,h2,if_true,if_false]<;>rfl
  .have hx:=fZ hx;obtain⟨q,s,q1,q2,q3,q4⟩:=g.rt x hx h0;exact⟨q,s,q1,by show q<=c.ep+1+1;omega,q3,(hsame x hx h0).trans q4⟩
  .have hx:=fZ hx;obtain⟨q,s,q1,q2,q3,q4⟩:=g.rt x hx h0;exact⟨q,s,q1,q2,q3,(hsame x hx h0).trans q4⟩
 .refine⟨n2,t7,by have:=g.sl;omega,f9,λ_=>?_,λi x hx=>?_,λj _ _=>f10 j⟩
  .rw[show(1-(1-c.slot)).toNat=c.slot.toNat by congr 1;omega];show Rt.pX (sec d'.now c.slot.toNat)<_;have f8':sec d'.now c.slot.toNat=sec c.d.now c.slot.toNat:=f8;rw[f8',R.rt,(vN R.ro (sI R)).2];omega
  .refine⟨c.ep+1,by omega,jI _,?_⟩;rw[upD_eq f2];exact f6 i x hx
 .unfold Twin;rw[show(1-(1-c.slot)).toNat=c.slot.toNat by congr 1;omega];have f8':sec d'.now c.slot.toNat=sec c.d.now c.slot.toNat:=f8;rw[f8',R.rt,(vN R.ro (sI R)).2];exact⟨(vN R.ro (sI R)).1,by omega⟩
 .obtain⟨v1,_⟩:=nr c.parts mT (vM g.pj (λx hx=>(g.pi x hx).1)) (λx hx=>by
   have:=g.pi x hx;refine⟨x.toNat,by omega,by omega,?_⟩;rw[t5 x.toNat (by omega),show((x.toNat:Nat):Int)=x by omega,if_neg (λhm=>by
    obtain⟨_,_,_,_,h,_⟩:=t4 x hm;exact h hx)]
   unfold cJ;rw[if_pos hx])
  have oh:(c.zz d' mT P).m.length=c.m.length:=by
   show(Fm.jo 0 1 (cE mT c.parts)).length=_;rw[Fm.ud,v1,t1]
  have hs:∀x∈c.cv.table,¬x<0->(bu d' n x).1.s=(bu c.d n x).1.s:=λx hx h0=>by
   have hx:=fZ hx;have hti:=g.ti x hx;have:=f7 x.toNat (jS g (by omega)) (λhm=>by
    rw[show((x.toNat:Nat):Int)=x by omega]at hm;obtain⟨_,_,_,_,_,_,h⟩:=t4 x hm;exact h hx)
   rw[show((x.toNat:Nat):Int)=x by omega]at this;rw[this];rfl
  rw[zy];unfold C.bR;rw[oh];simp only[St.mk.injEq,true_and];refine⟨?_,?_,rfl⟩
  .show c.cv.table.map (C.cX (c.zz d' mT P) n)=iT (c.cv.table.map _);unfold iT;rw[j6];refine gy (λx hx=>?_);unfold C.cX;simp only[Function.comp]
   by_cases h:x<0
   .rw[if_pos h,if_pos h];rfl
   .rw[if_neg h,if_neg h];show some (decide (x∉c.cv.table),(bu d' n x).1.s)=some (false,(bu c.d n x).1.s);rw[hs x hx h];simp[hx]
  .show c.cv.table.map _=c.cv.table.map _;refine gy (λx hx=>?_)
   by_cases h:x<0
   .rw[if_pos h,if_pos h]
   .rw[if_neg h,if_neg h];show some (bu d' n x).1.s=_;rw[hs x hx h]
theorem Hd{c:C}(g:Good c n)(R:iU c.d n c.ep c.slot c.bX c.parts)(he:c.ep<1099511627775)(tl:c.table.length<=512)(hf:¬(c.bR n).free<cM (c.bR n).eg.length):
  ∃c',c.aK n=(c',0)/\Good c' n/\iU c'.d n c'.ep c'.slot c'.bX c'.parts/\Twin c'.d c'.slot c'.ep/\c'.d.calls<=c.d.calls+30/\c'.bR n={c.bR n with now:=iT (c.bR n).eg,bX:=(c.bR n).eg,ep:=(c.bR n).ep+1}/\c'.table=c.cv.table/\c'.ep=c.ep+1:=by
 have BO:¬(Fm.gw c.m 0).length<cM c.cv.table.length:=by rw[(mB g).1];rw[zy]at hf;simpa using hf
 obtain⟨mT,P,hT,_⟩:=oR g tl (by omega);obtain⟨h1,h2,h3,h4,h5,h6⟩:=Qa g R he tl hT (by omega) rfl;refine⟨c.zz _ mT P,?_,h2,h3,h4,h5,h6,rfl,rfl⟩;unfold C.aK;rw[if_neg BO,if_neg (by omega),hT];dsimp only;rw[if_neg (by rw[h1];decide)];rfl
theorem p9(b:St):b.pad 0=b:=by unfold St.pad;simp
theorem pad_pad(b:St)(j k:Nat):(b.pad j).pad k=b.pad (j+k):=by unfold St.pad;simp[cr,List.replicate_append_replicate]
theorem uq{α:Type}(l:List (Option α))(k i:Nat):((l++List.replicate k none)[i]?).getD none=(l[i]?).getD none:=by
 by_cases h:i<l.length
 .rw[bF h]
 .rw[dW (by omega),gu (l:=l) (by omega),D8]
  split<;>rfl
theorem Ll(b:St)(k:Nat)(l:Int):(b.pad k).at l=b.at l:=by
 unfold St.at;show(if 0<=l then((b.now++List.replicate k none)[l.toNat]?).getD none else none)=_;rw[uq]
theorem Qb(b:St)(k:Nat):(b.pad k).fresh=b.fresh:=by
 unfold St.fresh;show(b.now++List.replicate k none).countP fO=_;rw[r7,List.countP_replicate];simp[fO]
theorem TN(b:St)(k:Nat):(b.pad k).kept=b.kept:=rfl
theorem zA(b:St)(k:Nat):(b.pad k).free=b.free:=by
 unfold St.free;rw[Qb,TN];rfl
theorem TO(b:St)(k:Nat):(b.pad k).slot=b.slot:=by
 unfold St.slot;show(b.now++List.replicate k none).findIdx Option.isNone=_;rw[List.findIdx_append]
 split
 .rfl
 .rename_i h;have h1:b.now.findIdx Option.isNone=b.now.length:=by
   have:=oo (xs:=b.now) (p:=Option.isNone);omega
  cases k with
  |zero=>simp[h1]
  |succ k=>simp[List.replicate_succ,JJ,h1]
theorem Fc{α:Type}(l:List (Option α))(k i:Nat)(u:Option α)(h:i<l.length):(l++List.replicate k none).set i u=l.set i u++List.replicate k none:=yk _ _ h
theorem pad_new(b:St)(k:Nat)(p:List UInt8):∃k',(b.pad k).bV p=((b.bV p).1.pad k',(b.bV p).2):=by
 unfold St.bV;rw[TO,zA]
 by_cases h1:232<p.length
 .rw[if_pos h1,if_pos h1];exact⟨k,rfl⟩
 rw[if_neg h1,if_neg h1]
 by_cases h2:512<=b.slot\/b.free=0
 .rw[if_pos h2,if_pos h2];exact⟨k,rfl⟩
 rw[if_neg h2,if_neg h2];have hs:b.slot<=b.now.length:=oo
 by_cases h3:b.slot=b.now.length
 .cases k with
  |zero=>exact⟨0,by rw[p9,p9]⟩
  |succ k=>
   refine⟨k,?_⟩;unfold St.pad;simp only[Prod.mk.injEq,St.mk.injEq,true_and,and_true];unfold oP;rw[if_neg (by simp;omega),if_pos h3,h3,qN _ _ (ak _),fy,List.replicate_succ];simp
 .refine⟨k,?_⟩;unfold St.pad;simp only[Prod.mk.injEq,St.mk.injEq,true_and,and_true];unfold oP;rw[if_neg (by simp;omega),if_neg h3,Fc _ _ _ _ (by omega)]
theorem zB{b:St}{l:Int}(h:(b.at l).isSome=true):0<=l/\l.toNat<b.now.length:=by
 unfold St.at at h
 by_cases h0:0<=l
 .rw[if_pos h0]at h;refine⟨h0,Nat.lt_of_not_le (λhle=>?_)⟩;rw[gu hle]at h;simp at h
 .rw[if_neg h0]at h;simp at h
theorem Qc(b:St)(k:Nat)(l:Int)(p:List UInt8):(b.pad k).aD l p=((b.aD l p).1.pad k,(b.aD l p).2):=by
 unfold St.aD;rw[Ll,zA]
 by_cases h1:232<p.length
 .rw[if_pos h1,if_pos h1]
 rw[if_neg h1,if_neg h1]
 by_cases h2:¬(b.at l).isSome=true
 .rw[if_pos h2,if_pos h2]
 rw[if_neg h2,if_neg h2]
 by_cases h3:fO (b.at l)=false/\b.free=0
 .rw[if_pos h3,if_pos h3]
 rw[if_neg h3,if_neg h3];unfold St.pad;simp only[Prod.mk.injEq,St.mk.injEq,true_and,and_true];exact Fc _ _ _ _ (zB (Decidable.not_not.1 h2)).2
theorem TR(b:St)(k:Nat)(l:Int):(b.pad k).aV l=((b.aV l).1.pad k,(b.aV l).2):=by
 unfold St.aV;rw[Ll]
 by_cases h2:(b.at l).isSome=true
 .rw[if_pos h2,if_pos h2];unfold St.pad;simp only[Prod.mk.injEq,St.mk.injEq,true_and,and_true];exact Fc _ _ _ _ (zB h2).2
 .rw[if_neg h2,if_neg h2]
theorem Ln(l:List rJ)(k:Nat):jU l (k+1)=if((l[k]?).getD none).isSome then k+1 else jU l k:=rfl
theorem Qd{α:Type}(f:List (Option (Bool×List UInt8))->α)(l:List rJ)(k:Nat):jU (l++List.replicate k none) (l.length+k)=jU l l.length:=by
 have h1:∀j,j<=l.length->jU (l++List.replicate k none) j=jU l j:=by
  intro j
  induction j with
  |zero=>intro _;rfl
  |succ j ih=>
   intro hj;unfold jU;rw[uq,ih (by omega)]
 have h2:∀j,jU (l++List.replicate k none) (l.length+j)=jU (l++List.replicate k none) l.length:=by
  intro j
  induction j with
  |zero=>rfl
  |succ j ih=>
   rw[show l.length+(j+1)=(l.length+j)+1 by omega,Ln,uq,gu (by omega),if_neg (by simp)];exact ih
 rw[h2,h1 _ (ak _)]
theorem TU(b:St)(k:Nat):(b.pad k).eg=b.eg:=by
 unfold St.eg;show((b.now++List.replicate k none).take (jU (b.now++List.replicate k none) (b.now++List.replicate k none).length)).map _=_;have hl:(b.now++List.replicate k (none:rJ)).length=b.now.length+k:=by simp
 have h2:=Qd (λx=>x) b.now k;rw[hl,h2];have:=G6 b.now b.now.length;rw[lT this]
variable{c:C}{n:Nat}
theorem Qe(l:List rJ)(k:Nat):sG l (k+1)=sG l k++if((l[k]?).getD none).isSome then [(k:Int)]else []:=rfl
theorem pad_pgs(l:List rJ)(k:Nat):sG (l++List.replicate k none) (l.length+k)=sG l l.length:=by
 have h1:∀j,j<=l.length->sG (l++List.replicate k none) j=sG l j:=by
  intro j
  induction j with
  |zero=>intro _;rfl
  |succ j ih=>
   intro hj;unfold sG;rw[uq,ih (by omega)]
 have h2:∀j,sG (l++List.replicate k none) (l.length+j)=sG (l++List.replicate k none) l.length:=by
  intro j
  induction j with
  |zero=>rfl
  |succ j ih=>
   rw[show l.length+(j+1)=(l.length+j)+1 by omega,Qe,uq,gu (by omega),ih];simp
 rw[h2,h1 _ (ak _)]
theorem He(g:Good c n):∀k,k<=c.bX.length->E3 (c.bR n).now (iT (c.bR n).bX) k=(c.bX.take k).countP (λx=>decide (0<=x) && decide (x∉c.table))
 |0,_=>rfl
 |k+1,h=>by
  have ih:=He g k (by omega);obtain⟨x,hx⟩:∃x,c.bX[k]?=some x:=⟨_,aL (by omega)⟩;have hxk:c.bX[k]=x:=(aS.1 hx).2;unfold E3;rw[ih,gC (by omega),r7,hxk,JD]
  congr 1
  have e1:((iT (c.bR n).bX)[k]?).getD none=if x<0 then none else some (false,(bu c.d n x).1.s):=by
   unfold iT C.bR;simp only[jr,hx,kU,jc]
   split<;>rfl
  have e2:((c.bR n).now[k]?).getD none=((c.table[k]?).map (c.cX n)).getD none:=by
   unfold C.bR;rw[jr]
  have key:TF (c.bR n).now (iT (c.bR n).bX) k=(decide (0<=x) && decide (x∉c.table)):=by
   unfold TF;rw[e1,e2]
   by_cases h0:x<0
   .rw[if_pos h0];simp;omega
   .rw[if_neg h0];simp only[Option.isSome_some,Jw];rw[show decide (0<=x)=true by simpa using (show 0<=x by omega),Jw]
    by_cases ht:x∈c.table
    .obtain⟨j,hj⟩:=kH ht;have:=g.sm j x hj (by omega) (ay hx);have hjk:=g.oj j k x this hx (by omega);subst hjk;rw[hj];simp[C.cX,h0,fO,ay hx,ht]
    .simp only[ht,not_false_eq_true,decide_true]
     cases hk:c.table[k]? with
     |none=>simp
     |some y=>
      by_cases hy:y<0
      .simp[C.cX,hy]
      .by_cases hyo:y∈c.bX
       .have:=g.sm k y hk (by omega) hyo;rw[hx]at this;injection this with this
        subst this;exact absurd (ay hk) ht
       .simp[C.cX,hy,fO,hyo]
  rw[key]
theorem counts(g:Good c n):(Fm.gw c.m 0).length=(c.bR n).free/\(Fm.gw c.m 2).length=(c.bR n).fresh/\(Fm.gw c.m 1).length+(Fm.gw c.m 3).length=(c.bR n).kept/\(Fm.gw c.m 3).length=(c.bR n).leaving:=by
 have hp:c.parts.Nodup:=vM g.pj (λx hx=>(g.pi x hx).1);refine⟨(mB g).1,?_,?_,?_⟩
 .have hFl:((ids c.table).filter (λx=>decide (x∉c.bX))).length=(c.bR n).fresh:=by
   unfold St.fresh C.bR ids;rw[D4,<-yG,DW];apply r8;intro x hx;simp only[Function.comp,C.cX]
   by_cases h:x<0
   .rw[if_pos h];simp[fO];omega
   .rw[if_neg h];simp[fO];omega
  rw[<-hFl];refine ui (jQ _ _) ((jR g.tj).sublist D7) (λx=>?_);rw[fX,ir,kW]
  constructor
  .rintro⟨i,rfl,hi,h0⟩;rw[g.md i hi]at h0;unfold cJ at h0
   split at h0
   .omega
   .split at h0
    .split at h0<;>omega
    .split at h0
     .exact⟨⟨by assumption,by omega⟩,by simpa⟩
     .omega
  .rintro⟨⟨ht,h0⟩,ho⟩;have ho:x∉c.bX:=by simpa using ho
   have:=g.ti x ht;refine⟨x.toNat,by omega,by omega,?_⟩;rw[g.md _ (by omega),show((x.toNat:Nat):Int)=x by omega];unfold cJ;rw[if_neg (λh=>(g.dt x h).1 ht),if_neg ho,if_pos ht]
 .have hKl:(c.parts++ids c.bX).length=(c.bR n).kept:=by
   unfold St.kept C.bR ids;rw[aU,g.pl,<-yG,DW,fo];have:c.bX.countP (λx=>decide (0<=x))=c.bX.countP (Option.isSome ∘ λx=>if x<0 then none else some (bu c.d n x).1.s):=by
    apply r8;intro x hx;simp only[Function.comp]
    by_cases h:x<0
    .rw[if_pos h];simp;omega
    .rw[if_neg h];simp;omega
   omega
  rw[<-hKl,<-aU];refine ui ?_ ?_ (λx=>?_)
  .rw[iu];refine⟨jQ _ _,jQ _ _,λa ha b hb e=>?_⟩;subst e;obtain⟨i,rfl,hi,h0⟩:=fX.1 ha;obtain⟨j,e,hj,h1⟩:=fX.1 hb;obtain rfl:i=j:=by omega
   omega
  .rw[iu];refine⟨hp,jR g.oj,λa ha b hb e=>?_⟩;subst e;exact(g.dt a ha).2 (kW.1 hb).1
  .rw[aC,aC,fX,fX,kW]
   constructor
   .rintro(⟨i,rfl,hi,h0⟩|⟨i,rfl,hi,h0⟩)
    .rw[g.md i hi]at h0;unfold cJ at h0
     by_cases h1:(i:Int)∈c.parts
     .exact .inl h1
     .rw[if_neg h1]at h0
      by_cases h2:(i:Int)∈c.bX
      .exact .inr ⟨h2,by omega⟩
      .rw[if_neg h2]at h0
       split at h0<;>omega
    .rw[g.md i hi]at h0;unfold cJ at h0
     by_cases h1:(i:Int)∈c.parts
     .exact .inl h1
     .rw[if_neg h1]at h0
      by_cases h2:(i:Int)∈c.bX
      .exact .inr ⟨h2,by omega⟩
      .rw[if_neg h2]at h0
       split at h0<;>omega
   .rintro(h1|⟨h1,h0⟩)
    .have:=g.pi x h1;refine .inl ⟨x.toNat,by omega,by omega,?_⟩;rw[g.md _ (by omega),show((x.toNat:Nat):Int)=x by omega];unfold cJ;rw[if_pos h1]
    .have:=g.oi x h1
     by_cases ht:x∈c.table
     .refine .inl ⟨x.toNat,by omega,by omega,?_⟩;rw[g.md _ (by omega),show((x.toNat:Nat):Int)=x by omega];unfold cJ;rw[if_neg (λh=>(g.dt x h).2 h1),if_pos h1,if_pos ht]
     .refine .inr ⟨x.toNat,by omega,by omega,?_⟩;rw[g.md _ (by omega),show((x.toNat:Nat):Int)=x by omega];unfold cJ;rw[if_neg (λh=>(g.dt x h).2 h1),if_pos h1,if_neg ht]
 .have hl:(c.bR n).leaving=((ids c.bX).filter (λx=>decide (x∉c.table))).length:=by
   have hol:(c.bR n).bX.length=c.bX.length:=by unfold C.bR;simp
   unfold St.leaving;rw[hol,He g _ (ak _),fw];unfold ids;rw[D4,<-yG];apply r8;intro x _;simp[and_comm]
  rw[hl];refine ui (jQ _ _) ((jR g.oj).sublist D7) (λx=>?_);rw[fX,ir,kW]
  constructor
  .rintro⟨i,rfl,hi,h0⟩;rw[g.md i hi]at h0;unfold cJ at h0
   split at h0
   .omega
   .split at h0
    .split at h0
     .omega
     .exact⟨⟨by assumption,by omega⟩,by simpa⟩
    .split at h0<;>omega
  .rintro⟨⟨ht,h0⟩,ho⟩;have ho:x∉c.table:=by simpa using ho
   have:=g.oi x ht;refine⟨x.toNat,by omega,by omega,?_⟩;rw[g.md _ (by omega),show((x.toNat:Nat):Int)=x by omega];unfold cJ;rw[if_neg (λh=>(g.dt x h).2 ht),if_pos ht,if_neg ho]
attribute [local go_sem ↓] Go.wp_at_zero Go.wp_at_succ bz
variable{x x':X}{n:Nat}{w0 w:World}{c':C}
structure CW(x:X)(n:Nat)(w0 w:World)(x':X)(c':C):Prop where
 a:At w x' n c'
 o:ag x.fp w0 w
 f:x'.fp=x.fp
theorem CW.below{w':World}(h:CW x n w0 w x' c')(hb:Below w.heap.size w w'):CW x n w0 w' x' c':=⟨h.a.below hb,h.o.trans (.aj hb),h.f⟩
theorem CW.brk(h:CW x n w0 w x' c'):CW x n w0 (w.setCell ⟨x'.b,7,none⟩ (.bool true)) x' {c' with broken:=true}:=by
 have o2:=(ag.refl [x'.b] w).setCell (p:=⟨x'.b,7,none⟩) (by simp) (.bool true);have A:=h.a;obtain⟨n1,n2,n3,n4⟩:=A.K8 A.hb;have ns:∀{v:Value} {k:Nat} {l:List Value},Sl w 3 v k l->∀g∈cw v,g∉[x'.b]:=λS g hg hm=>n4 S (by rw[<-aQ.1 hm];exact hg)
 exact⟨⟨A.hb.bE 7 _,A.hd.only o2 (λg hg hm=>n3 (by rw[<-aQ.1 hm];exact hg)),A.hm.only o2 (λhm=>n1 (aQ.1 hm).symm) (λhm=>n2 (aQ.1 hm).symm),A.ht.only o2 (ns A.ht),A.ho.only o2 (ns A.ho),A.hp.only o2 (λg hg hm=>A.hp.aW A.hb (by decide) (by decide) (by rw[<-aQ.1 hm];exact hg)),A.n1,A.n2,A.n3,A.n4,A.n5,A.n6,A.tl⟩,h.o.trans (o2.mono (λg hg _=>by rw[<-h.f];simp at hg;subst hg;simp[X.fp])),h.f⟩
theorem CW.post{x:X}{v:Value}{n:Nat}{w0 w:World}{c':C}(h:CW x n w0 w {x with tv:=v} c'):yb w0 w x n c':=⟨{x with tv:=v},rfl,rfl,h.a,h.o,λg hg=> .inl (by rw[h.f]at hg;exact hg)⟩
theorem wp_cutB{P:Program}{s:Code}{id:Nat}{K:Act->World->Prop}{Q':Exit->Act->World->Prop}{a:Act}(R:Act->World->Prop)(rest:∀a' w',R a' w'->K a' w')
 (first:∀K':Act->World->Prop,(∀a' w',R a' w'->K' a' w')->s.wp P (Exit.inBlock id (Exit.then K' Q')) a w):s.wp P (Exit.inBlock id (Exit.then K Q')) a w:=by
 refine wp_mono (first R (λ_ _ q=>q)) ?_;intro e a' w' hq
 cases e with
 |normal=>exact rest _ _ hq
 |exit id'=>
  have hq:if id'=id then Exit.then R Q' Exit.normal a' w' else Exit.then R Q' (Exit.exit id') a' w':=hq
  show if id'=id then Exit.then K Q' Exit.normal a' w' else Exit.then K Q' (Exit.exit id') a' w'
  by_cases h:id'=id
  .rw[if_pos h]at hq ⊢;exact rest _ _ hq
  .rw[if_neg h]at hq ⊢;exact hq
 |goto l=>exact hq
 |ret=>exact hq
 |panic ch=>exact hq
 |outgrown=>exact hq
theorem Hf{c:C}(h:At w x n c)(hbr:c.broken=false)(Gf:0<=c.ep)(hb:∀y∈c.table,y<=1023)(Bs:c.slot=0\/c.slot=1)(hc:c.d.calls<=3999999999999999900)(ha:c.d.bt<=9223372036854775807)(hol:c.parts.length<=5)
 (hr:cM c.cv.table.length<=(Fm.gw c.m 0).length->c.ep<1099511627776->Rt.gK (c.ep+1) (c.cv.table.length:Nat) (Rt.dr ((takeN c.m (cM c.cv.table.length)).2.map Int.toNat))/\Rt.dr ((takeN c.m (cM c.cv.table.length)).2.map Int.toNat)=(takeN c.m (cM c.cv.table.length)).2):
  Calls prog 100 #[sp x.b] w λe w'=>e=.returned (.int .i64 (c.aK n).2)/\yb w w' x n (c.aK n).1:=by
 have KW:=jg h;rw[show c.fJ=0 from by unfold C.fJ;rw[hbr];rfl]at KW;have KW:=xh KW;obtain⟨R,hR⟩:∃R,c.aK n=R:=⟨_,rfl⟩;rw[hR];have tl:=h.tl;have oO:=xh h.lt;obtain⟨TA,tc,tF,htc⟩:=h.ht.val;have hx:x={x with tv:= .slice TA c.table.length tc}:=by rw[<-tF]
 have HA:=xh (show At w {x with tv:= .slice TA c.table.length tc} n {c with table:=c.table.take c.table.length}from by rw[fw,<-hx];exact h);have HV:=xh tF;obtain⟨T,hT⟩:∃T,kE c.table c.table.length=T:=⟨_,rfl⟩;have Jq:T<=c.table.length:=by rw[<-hT];exact zp _ _
 have htf:c.cv={c with table:=c.table.take T}:=by unfold C.cv;rw[hT]
 have htl:c.cv.table.length=T:=by rw[htf];show(c.table.take T).length=T;rw[bm];omega
 have HT:=xh hT;unfold C.aK at hR;rw[htl]at hR hr;rw[htf]at hR;have HR:=xh hR;clear hR hT htf htl hx tF hbr h;unfold sp at *;go_enter func100,ntmps100;go_wp2_with fail;refine KW.o.mono ?_;rintro e w1 ⟨rfl,rfl⟩;go_wp2_with fail
 refine wp_cutB (λa wx=>(∃u11 u12 u13 u14 u15 u16 u17 u18 u19 u20 u21 u22 u23 u24 u25 u26 u27 u28 u29 u30 u31 u32 u33 u34 u35 u36 u37 u38 u39 u40 u41 u42 u43 u44 u45 u46 u47 u48 u49 u50:Value,a=⟨#[.pointer (some ⟨x.b,0,none⟩),undef,.int .i64 0,.int .i64 0,undef,undef,undef,undef,undef,undef,undef,u11,u12,u13,u14,u15,u16,u17,u18,u19,u20,u21,u22,u23,u24,u25,u26,u27,u28,u29,u30,u31,u32,u33,u34,u35,u36,u37,u38,u39,u40,u41,u42,u43,u44,u45,u46,u47,u48,u49,u50,undef,undef,undef,undef,undef,undef,undef,undef,undef,undef,undef,undef,undef,undef,undef,undef,undef,undef,undef,undef,undef,undef,undef,undef,undef,undef,undef,undef,undef,undef,undef,undef,undef,undef,undef,undef,undef,undef,undef,undef,undef,undef,undef,undef,undef,undef,undef,undef,undef,undef,undef,undef,undef,undef,undef,undef,undef,undef,undef,undef,undef,undef,undef,undef,undef,undef,undef,undef,undef,undef,undef,undef,undef,undef,undef,undef,undef,undef,undef,undef,undef,undef,undef,undef,undef,undef,undef,undef,undef,undef,undef,undef,undef,undef],[]⟩)/\Hid (CW x n w wx {x with tv:= .slice TA T tc} {c with table:=c.table.take T})) ?_ ?_
 rotate_left
 .intro K9 hK9
  go_loopw [19] (λ_ wr=> ∃k:Nat,k<=c.table.length/\Hid (kE c.table k=T)/\Hid (At wr {x with tv:= .slice TA k tc} n {c with table:=c.table.take k}/\ag [x.b] w wr)) (λ_ wr=>ND wr x.b)
  case atStart=>exact⟨c.table.length,ak _,HT,xh ⟨HA.o,ag.refl _ _⟩⟩
  case round=>
   obtain⟨k,hk,HK,HB⟩:=hrel;have f2:=HB.o.1.f2;have jx:(c.table.take k).length=k:=by rw[bm];omega
   have Jp:(k≠0/\c.table.getD (k-1) 0<0)\/k=T/\(k=0\/¬c.table.getD (k-1) 0<0):=by
    have:=HK.o
    cases k with
    |zero=>exact .inr ⟨this,.inl rfl⟩
    |succ k=>
     rw[mC]at this
     split at this
     .rename_i h;exact .inl ⟨by omega,h⟩
     .rename_i h;exact .inr ⟨this,.inr h⟩
   rcases Jp with⟨PF,EV⟩|⟨hkT,PF⟩
   .obtain⟨j,rfl⟩:∃j,k=j+1:=⟨k-1,by omega⟩;rw[oy]at EV;obtain⟨g,cp,hv,ck⟩:=HB.o.1.tk j (by show j<(c.table.take (j+1)).length;omega);rw[show({c with table:=c.table.take (j+1)}:C).table.getD j 0=c.table.getD j 0 from by show(c.table.take (j+1)).getD j 0=_;simp[List.getD]]at ck;have hv:(Value.slice TA (j+1) tc)= .slice (some ⟨g,0,none⟩) (c.table.take (j+1)).length cp:=hv;rw[jx]at hv;injection hv with e1 e2 e3
    subst e1 e3;clear e2;have f2:wr.cell? ⟨x.b,2,none⟩=some (.slice (some ⟨g,0,none⟩) (j+1) tc):=f2;have HK2:=xh (show kE c.table j=T from by have:=HK.o;rw[mC,if_pos EV]at this;exact this);have e4:IntKind.i64.wrap ((j:Int)+1-1)=(j:Int):=by rw[DU];exact IntWalk.i64_in _ (by omega)
    have e5:IntKind.i64.wrap (j:Int)=(j:Int):=IntWalk.i64_in _ (by omega);have e6:(0:Int)<(j:Int)+1:=by omega
    have e7:(j:Int)<(j:Int)+1:=by omega
    generalize c.table.getD j 0=pv at *;go_wp2_with fail;go_quiet (fail);have z2:=HB.o.1.fz 2 (by omega);have z2:wr.frozen? ⟨x.b,2,none⟩=false:=z2;have HN:=xh (show ∀m,At ((wr.drewN m).setCell ⟨x.b,2,none⟩ (.slice (some ⟨g,0,none⟩) j tc)) {x with tv:= .slice (some ⟨g,0,none⟩) j tc} n {c with table:=c.table.take j}/\ag [x.b] w ((wr.drewN m).setCell ⟨x.b,2,none⟩ (.slice (some ⟨g,0,none⟩) j tc))from λm=>by
     have A1:=HB.o.1.drewN m;have lW:∀y∈cw (.slice (some ⟨g,0,none⟩) j tc),y∈cw (.slice (some ⟨g,0,none⟩) (j+1) tc):=λy hy=>hy;have S:=A1.ht;have S:Sl (wr.drewN m) 3 (.slice (some ⟨g,0,none⟩) (j+1) tc) (j+1) (dm (c.table.take (j+1))):=by have S2:=S;rw[show({c with table:=c.table.take (j+1)}:C).table.length=j+1 from jx]at S2;exact S2
     have S3:=S.cut rfl j (by omega);have e:(dm (c.table.take (j+1))).take j=dm (c.table.take j):=by unfold dm;rw[<-lR,List.take_take,oC (by omega)]
     rw[e]at S3;have hl:(c.table.take j).length=j:=by rw[bm];omega
     have S4:Sl (wr.drewN m) 3 (.slice (some ⟨g,0,none⟩) j tc) (c.table.take j).length (dm (c.table.take j)):=by rw[hl];exact S3
     obtain⟨_,_,A2,o2⟩:=A1.newT S4 (λhg=>A1.n1 (lW _ hg)) (λy hy=>A1.n4 y (lW y hy)) (λy hy=>A1.n5 y (lW y hy)) (by omega);exact⟨A2,(HB.o.2.drewN m).trans o2⟩)
    have HM:=xh (show ∀m,ND ((wr.drewN m).setCell ⟨x.b,2,none⟩ (.slice (some ⟨g,0,none⟩) j tc)) x.b<ND wr x.b from λm=>by
     have c2:((wr.drewN m).setCell ⟨x.b,2,none⟩ (.slice (some ⟨g,0,none⟩) j tc)).cell? ⟨x.b,2,none⟩=some (.slice (some ⟨g,0,none⟩) j tc):=(HN.o m).1.f2;unfold ND;rw[c2,f2];show j<j+1;omega)
    go_wp2_with fail
    go_region
    go_wp2_with fail;go_roundw
    case rel=>exact⟨j,by omega,HK2,xh (HN.o _)⟩
    case measure=>exact HM.o _
   .rcases yn k with hz|hpos
    .subst hz;subst hkT;go_wp2_with fail;go_quiet (fail);go_wp2_with fail;exact⟨⟨_,_,_,_,_,_,_,_,_,_,_,_,_,_,_,_,_,_,_,_,_,_,_,_,_,_,_,_,_,_,_,_,_,_,_,_,_,_,_,_,rfl⟩,xh ⟨HB.o.1.drewN _,(HB.o.2.drewN _).mono (λg hg _=>by simp at hg;subst hg;simp[X.fp]),by unfold X.fp;rw[HV.o];rw[zq _ _ c.table.length tc]⟩⟩
    .obtain⟨jz,rfl⟩:∃jz,k=jz+1:=⟨k-1,by omega⟩;subst hkT
     rcases PF with PF|PF
     .omega
     rw[oy]at PF;obtain⟨gz,cp,Nu,ck⟩:=HB.o.1.tk jz (by show jz<(c.table.take (jz+1)).length;omega);rw[show({c with table:=c.table.take (jz+1)}:C).table.getD jz 0=c.table.getD jz 0 from by show(c.table.take (jz+1)).getD jz 0=_;simp[List.getD]]at ck;have hv:(Value.slice TA (jz+1) tc)= .slice (some ⟨gz,0,none⟩) (c.table.take (jz+1)).length cp:=Nu;clear Nu;rw[jx]at hv;injection hv with e1 e2 e3
     subst e1 e3;clear e2;have f2:wr.cell? ⟨x.b,2,none⟩=some (.slice (some ⟨gz,0,none⟩) (jz+1) tc):=f2;have e4:IntKind.i64.wrap ((jz:Int)+1-1)=(jz:Int):=by rw[DU];exact IntWalk.i64_in _ (by omega)
     have e5:IntKind.i64.wrap (jz:Int)=(jz:Int):=IntWalk.i64_in _ (by omega);have e6:(0:Int)<(jz:Int)+1:=by omega
     have e7:(jz:Int)<(jz:Int)+1:=by omega
     have hdv:decide (c.table.getD jz 0<0)=false:=by rw[decide_eq_false_iff_not];exact PF
     generalize c.table.getD jz 0=pv at *;go_wp2_with fail;go_quiet (fail);go_wp2_with fail;exact⟨⟨_,_,_,_,_,_,_,_,_,_,_,_,_,_,_,_,_,_,_,_,_,_,_,_,_,_,_,_,_,_,_,_,_,_,_,_,_,_,_,_,rfl⟩,xh ⟨HB.o.1.drewN _,(HB.o.2.drewN _).mono (λg hg _=>by simp at hg;subst hg;simp[X.fp]),by unfold X.fp;rw[HV.o];rw[zq _ _ c.table.length tc]⟩⟩
 .rintro a9 wc ⟨⟨u11,u12,u13,u14,u15,u16,u17,u18,u19,u20,u21,u22,u23,u24,u25,u26,u27,u28,u29,u30,u31,u32,u33,u34,u35,u36,u37,u38,u39,u40,u41,u42,u43,u44,u45,u46,u47,u48,u49,u50,rfl⟩,C0⟩;have jx:(c.table.take T).length=T:=by rw[bm];omega
  have hk:T<=c.table.length:=Jq;have hfp:({x with tv:= .slice TA T tc}:X).fp=x.fp:=by
   unfold X.fp;rw[HV.o,zq TA T c.table.length tc]
  have KND:=xh (λ(W:World)=>Rt.y8 ((T:Nat):Int) (by omega) W);rw[NG]at KND;have KFR:=xh (λ(W:World) (hW:At W {x with tv:= .slice TA T tc} n {c with table:=c.table.take T})=>Fm.SU hW.hm);rw[show({c with table:=c.table.take T}:C).m=c.m from rfl]at KFR;unfold Fm.mp at KFR;have f1:=C0.o.a.f1;have f2:=C0.o.a.f2;have f5:=C0.o.a.f5;have f2:wc.cell? ⟨x.b,2,none⟩=some (.slice TA (c.table.take T).length tc):=by rw[jx];exact f2
  have f1:wc.cell? ⟨x.b,1,none⟩=some (.pointer (some ⟨x.mb,0,none⟩)):=f1;rw[jx]at f2;go_wp2_with fail;refine(KND.o _).mono ?_;rintro e v1 ⟨rfl,bf⟩;have C1:=xh (C0.o.below bf);have g1:v1.cell? ⟨x.b,1,none⟩=some (.pointer (some ⟨x.mb,0,none⟩)):=C1.o.a.f1;clear bf f1 f2 f5;go_wp2_with fail;refine(KFR.o _ C1.o.a).mono ?_;rintro e v2 ⟨rfl,cA⟩;have C2:=xh (C1.o.below cA);have f5:=C2.o.a.f5;have f5:v2.cell? ⟨x.b,5,none⟩=some (.int .i64 c.ep):=f5;clear cA g1
  by_cases yd:(Fm.gw c.m 0).length<cM T
  .have hI:((Fm.gw c.m 0).length:Int)<((cM T:Nat):Int):=by omega
   have uW:=HR.o;rw[if_pos yd]at uW;subst uW;generalize cM T=nd at *;go_wp2_with fail;go_ret;exact aE C2.o.post
  have hI:¬((Fm.gw c.m 0).length:Int)<((cM T:Nat):Int):=by omega
  by_cases hee:1099511627776<=c.ep
  .have uW:=HR.o;rw[if_neg yd,if_pos hee]at uW;subst uW;generalize cM T=nd at *;go_wp2_with fail;go_ret;exact aE C2.o.post
  have uW:=HR.o;rw[if_neg yd,if_neg hee]at uW;obtain⟨qa,hnn⟩:=hr (by omega) (by omega);have hkl2:T<=512:=by omega
  have hnd5:cM T<=5:=by unfold cM;omega
  have hm1024:=C2.o.a.hm.hl;have HR3:=xh uW;clear uW yd hr;obtain⟨nd,xX⟩:∃nd,cM T=nd:=⟨_,rfl⟩;rw[xX]at hI qa hnn HR3 hnd5 ⊢;clear xX;have uX:decide (((Fm.gw c.m 0).length:Int)<(nd:Int))=false:=by rw[decide_eq_false_iff_not];exact hI
  have hd3:decide ((Fm.gw c.m 0).length<nd)=false:=by rw[decide_eq_false_iff_not];omega
  have TV:decide ((1099511627776:Int)<=c.ep)=false:=by rw[decide_eq_false_iff_not];omega
  have PNL:=xh (λi=>qZ c.m i);go_wp2_with fail
  go_loopw [5,6,7,72] (λpv _ _ iv wq=> ∃i:Nat,i<=nd/\iv=.int .i64 i/\aT wq 3 1 pv i (dm (takeN c.m i).2)/\Hid (CW x n w wq {x with tv:= .slice TA T tc} {c with table:=c.table.take T,m:=(takeN c.m i).1}/\∀g∈ai pv,w.heap.size<=g)) (λ_ _ _ iv _=>nd-(intOf iv).toNat)
  case atStart=>exact⟨0,aY _,rfl,aT.nil _ _ _,xh ⟨C2.o,by simp[ai]⟩⟩
  case round=>
   obtain⟨i,hi,rfl,S,HC⟩:=hrel;obtain⟨VA,vc,rfl⟩:=au S
   by_cases h':i<nd
   .have hiI:(i:Int)<(nd:Int):=by omega
    have g1:wr.cell? ⟨x.b,1,none⟩=some (.pointer (some ⟨x.mb,0,none⟩)):=HC.o.1.a.f1;have KT:=xh (Fm.tX HC.o.1.a.hm);have HM:=xh (λ(W:World) (mm:Fm.dE W x.mb x.mg (Fm.cR (takeN c.m i).1).1) (ow:ag [x.mg] wr W)=>HC.o.1.a.map mm ow);have HTK:=xh (show takeN c.m (i+1)=((Fm.cR (takeN c.m i).1).1,(takeN c.m i).2++[(Fm.cR (takeN c.m i).1).2.1])from rfl);rw[show({c with table:=c.table.take T,m:=(takeN c.m i).1}:C).m=(takeN c.m i).1 from rfl]at KT
    generalize Fm.cR (takeN c.m i).1=tf at *;obtain⟨tm,tid,te⟩:=tf;dsimp only at KT;unfold Fm.mp at KT;go_wp2_with fail;refine KT.o.mono ?_;rintro e v3 ⟨rfl,mm,ow⟩;have A3:=HM.o _ mm ow;have s3:=S.only ow (λg hg hm=>by have:=HC.o.2 g hg;have:=oO.o x.mg (by simp[X.fp]);simp at hm;omega);obtain⟨v',w4,ea,S4,ow4,fr4⟩:=cQ (P:=prog) s3 60 60 (.int .i64 0) 8 underlying60 ji rfl (.int .i64 tid) rfl (by unfold maxLen;omega) (by omega)
    obtain⟨V4,c4,rfl⟩:=au S4;have H4:=xh (show aT w4 3 1 (.slice V4 (i+1) c4) (i+1) (dm (takeN c.m (i+1)).2)/\CW x n w w4 {x with tv:= .slice TA T tc} {c with table:=c.table.take T,m:=(takeN c.m (i+1)).1}/\∀g∈ai (.slice V4 (i+1) c4),w.heap.size<=g from by
     rw[HTK.o];refine⟨by rw[gi];exact S4,⟨A3.only ow4 (λg hF hg=>by have:=HC.o.2 g hg;have:=oO.o g (by rw[hfp]at hF;exact hF);omega),(HC.o.1.o.trans (ow.mono (λg hg _=>rQ x g hg))).aO ow4 (λg hg dH=>by have:=HC.o.2 g hg;omega),hfp⟩,λg hg=>(fr4 g hg).elim (HC.o.2 g) (λh=>by have:=HC.o.1.o.size;have:=ow.size;omega)⟩)
    have EA:=xh ea;clear ea S4 ow4 fr4 s3 A3 mm ow S g1;go_wp2_with fail;rw[EA.o];go_wp2_with fail;go_roundw
    case rel=>exact⟨i+1,by omega,by go_num,H4.o.1,xh H4.o.2⟩
    case measure=>simp[intOf];omega
   .obtain rfl:i=nd:=by omega
    have x6:(Rt.dr ((takeN c.m i).2.map Int.toNat)).length=i:=by rw[hnn];exact PNL.o i
    have hown:cw (.slice VA i vc)=[]\/cw (.slice VA i vc)=ai (.slice VA i vc):=by
     cases VA with
     |none=>exact .inl rfl
     |some a=>unfold cw ai;by_cases h0:vc=0<;>simp[h0]
    have lW:∀g∈cw (.slice VA i vc),w.heap.size<=g:=λg hg=>by
     rcases hown with h|h
     .rw[h]at hg;simp at hg
     .rw[h]at hg;exact HC.o.2 g hg
    have hic:i<=vc:=by
     obtain⟨A',c',e,hle⟩:=(Sl.vk S).val;injection e with _ _ e3
     omega
    have SP:Sl wr 3 (.slice VA i vc) i (dm (Rt.dr ((takeN c.m i).2.map Int.toNat))):=by rw[hnn];exact Sl.vk S
    have KL:=yv HC.o.1.a ((takeN c.m i).2.map Int.toNat) SP hic (λg hg hF=>by have:=lW g hg;have:=oO.o g (by rw[hfp]at hF;exact hF);omega) (show Rt.gK (c.ep+1) ((c.table.take T).length:Nat) _ from by rw[jx];exact qa) (λy hy=>hb y (fZ hy)) Bs hc ha;have HR4:=HR3.o;have KL:=xh KL;generalize sJ:({c with table:=c.table.take T,m:=(takeN c.m i).1}:C).bH n ((takeN c.m i).2.map Int.toNat)=lf at *;obtain⟨ld,le⟩:=lf;dsimp only at KL HR4
    by_cases hle:le=0
    .subst hle;rw[if_neg (by simp)]at HR4;subst HR4;clear sJ;obtain⟨PA,pc,hpv,hpcc⟩:=HC.o.1.a.hp.val;have hpv:x.pv=.slice PA c.parts.length pc:=hpv;have HPV:=xh hpv;unfold sp at KL;go_wp2_with fail;refine KL.o.mono ?_;rintro e v3 ⟨rfl,A3,o3⟩;have C3:=xh (show CW x n w v3 {x with tv:= .slice TA T tc} {c with table:=c.table.take T,m:=cE (takeN c.m i).1 (c.parts.take 0),d:=ld}from⟨by rw[jb];exact A3,HC.o.1.o.trans (o3.mono (λg hg _=>GM x g hg)),hfp⟩)
     have SP3:=xh (show Sl v3 3 (.slice VA i vc) i (dm (takeN c.m i).2)from(Sl.vk S).only o3 (λg hg hF=>by have:=lW g hg;have:=oO.o g (GM x g hF);omega));have q4:v3.cell? ⟨x.b,4,none⟩=some (.slice PA c.parts.length pc):=by rw[<-HPV.o];exact C3.o.a.f4
     clear A3 o3 hpv;go_wp2_with fail
     go_loopw [10,101] (λ_ iv wr=> ∃j:Nat,j<=c.parts.length/\iv=.int .i64 j/\Hid (CW x n w wr {x with tv:= .slice TA T tc} {c with table:=c.table.take T,m:=cE (takeN c.m i).1 (c.parts.take j),d:=ld})/\Hid (Sl wr 3 (.slice VA i vc) i (dm (takeN c.m i).2))) (λ_ iv _=>c.parts.length-(intOf iv).toNat)
     case atStart=>exact⟨0,aY _,rfl,C3,SP3⟩
     case round=>
      obtain⟨j,hj,rfl,HC4,SP4⟩:=hrel
      by_cases h':j<c.parts.length
      .have hjI:(j:Int)<(c.parts.length:Int):=by omega
       obtain⟨g,cp,rest,hv,⟨_,B⟩,_,_⟩:=HC4.o.a.hp.form (by show 0<c.parts.length;omega);have hv:x.pv=.slice (some ⟨g,0,none⟩) c.parts.length cp:=hv;rw[HPV.o]at hv;injection hv with e1 e2 e3
       subst e1 e3;clear e2;have cj:wr.cell? ⟨g,j,none⟩=some (.int .i64 (c.parts.getD j 0)):=B.ab (by rw[dj,bF (by simpa using h'),pU _ _ h']);have g1:wr.cell? ⟨x.b,1,none⟩=some (.pointer (some ⟨x.mb,0,none⟩)):=HC4.o.a.f1;have hlv:cE (takeN c.m i).1 (c.parts.take (j+1))=(Fm.dD (cE (takeN c.m i).1 (c.parts.take j)) (c.parts.getD j 0)).1:=by
        rw[gC h',EY];simp[cE,List.getD,aL h']
       have KLV:=xh (Fm.qV HC4.o.a.hm (c.parts.getD j 0));rw[show({c with table:=c.table.take T,m:=cE (takeN c.m i).1 (c.parts.take j),d:=ld}:C).m=cE (takeN c.m i).1 (c.parts.take j)from rfl,<-hlv]at KLV;have HM:=xh (λ(W:World) (mm:Fm.dE W x.mb x.mg (cE (takeN c.m i).1 (c.parts.take (j+1)))) (ow:ag [x.mg] wr W)=>HC4.o.a.map mm ow);generalize (Fm.dD (cE (takeN c.m i).1 (c.parts.take j)) (c.parts.getD j 0)).2=lq at *
       generalize c.parts.getD j 0=pj at *;unfold Fm.mp at KLV;clear hlv B;go_wp2_with fail;refine KLV.o.mono ?_;rintro e v4 ⟨rfl,mm,ow⟩;have C5:=xh (show CW x n w v4 {x with tv:= .slice TA T tc} {c with table:=c.table.take T,m:=cE (takeN c.m i).1 (c.parts.take (j+1)),d:=ld}from⟨HM.o _ mm ow,HC4.o.o.trans (ow.mono (λg hg _=>rQ x g hg)),hfp⟩);have SP5:=xh (SP4.o.only ow (λg hg hm=>by have:=lW g hg;have:=oO.o x.mg (by simp[X.fp]);simp at hm;omega))
       clear mm ow;go_wp2_with fail;go_roundw
       case rel=>exact⟨j+1,by omega,by go_num,C5,SP5⟩
       case measure=>simp[intOf];omega
      .obtain rfl:j=c.parts.length:=by omega
       have g1:wr.cell? ⟨x.b,1,none⟩=some (.pointer (some ⟨x.mb,0,none⟩)):=HC4.o.a.f1;rw[fw]at HC4;have KCM:=xh (Fm.Ka HC4.o.a.hm);rw[show({c with table:=c.table.take T,m:=cE (takeN c.m i).1 c.parts,d:=ld}:C).m=cE (takeN c.m i).1 c.parts from rfl]at KCM;have HM:=xh (λ(W:World) (mm:Fm.dE W x.mb x.mg (Fm.jo 0 1 (cE (takeN c.m i).1 c.parts))) (ow:ag [x.mg] wr W)=>HC4.o.a.map mm ow);unfold Fm.mp at KCM;go_wp2_with fail
       refine KCM.o.mono ?_;rintro e v6 ⟨rfl,mm,ow⟩;have C6:=xh (show CW x n w v6 {x with tv:= .slice TA T tc} {c with table:=c.table.take T,m:=Fm.jo 0 1 (cE (takeN c.m i).1 c.parts),d:=ld}from⟨HM.o _ mm ow,HC4.o.o.trans (ow.mono (λg hg _=>rQ x g hg)),hfp⟩);have SP6:=xh (SP4.o.only ow (λg hg hm=>by have:=lW g hg;have:=oO.o x.mg (by simp[X.fp]);simp at hm;omega))
       have KC:=xh (λ(W:World) (hW:At W {x with tv:= .slice TA T tc} n {c with table:=c.table.take T,m:=Fm.jo 0 1 (cE (takeN c.m i).1 c.parts),d:=ld})=>GZ (v:= .slice TA T tc) hW.ht (by show(c.table.take T).length<=100000;omega));have e8:IntKind.i64.wrap (c.ep+1)=c.ep+1:=IntWalk.i64_in _ (by omega);have e9:IntKind.i64.wrap (1-c.slot)=1-c.slot:=IntWalk.i64_in _ (by omega);have d2:v6.cell? ⟨x.b,2,none⟩=some (.slice TA T tc):=C6.o.a.f2
       have d5:v6.cell? ⟨x.b,5,none⟩=some (.int .i64 c.ep):=C6.o.a.f5;have d6:v6.cell? ⟨x.b,6,none⟩=some (.int .i64 c.slot):=C6.o.a.f6;have TX:=xh (show ∀v7 vo,Sl v7 3 vo (c.table.take T).length (dm (c.table.take T))->Below v6.drew.heap.size v6.drew v7->(∀g∈cw vo,v6.drew.heap.size<=g)->
         yb w ((((v7.setCell ⟨x.b,3,none⟩ vo).setCell ⟨x.b,4,none⟩ (.slice VA i vc)).setCell ⟨x.b,5,none⟩ (.int .i64 (c.ep+1))).setCell ⟨x.b,6,none⟩ (.int .i64 (1-c.slot))) x n
          {c with table:=c.table.take T,m:=Fm.jo 0 1 (cE (takeN c.m i).1 c.parts),d:=ld,bX:=c.table.take T,parts:=(takeN c.m i).2,ep:=c.ep+1,slot:=1-c.slot}from λv7 vo S7 gD pI=>by
        have A7:=C6.o.a.drew.below gD;have SP7:Sl v7 3 (.slice VA i vc) (takeN c.m i).2.length (dm (takeN c.m i).2):=by rw[PNL.o];exact SP6.o.drew.below gD
        have hfpl:∀g∈({x with tv:= .slice TA T tc}:X).fp,g<w.heap.size:=λg hg=>oO.o g (by rw[hfp]at hg;exact hg);have hws:w.heap.size<=v6.drew.heap.size:=C6.o.o.size;obtain⟨A8,o8⟩:=A7.newC S7 SP7 (λg hg hF=>by have:=pI g hg;have:=hfpl g hF;omega) (λg hg hF=>by have:=lW g hg;have:=hfpl g hF;omega) (λg hg hp=>by have:=pI g hg;have:g<v6.drew.heap.size:=SP6.o.lt g hp;omega) (c.ep+1) (1-c.slot)
        refine⟨{x with tv:= .slice TA T tc,ov:=vo,pv:= .slice VA i vc},rfl,rfl,A8,((C6.o.o.drew).trans (.aj gD)).trans (o8.mono (λg hg _=>by simp at hg;subst hg;simp[X.fp])),λg hg=>?_⟩;have pH:g∈({x with tv:= .slice TA T tc}:X).fp\/g∈cw vo\/g∈cw (.slice VA i vc):=by
         simp only[X.fp,an,aC]at hg ⊢
         rcases hg with hg|hg|hg|((hg|hg)|hg)|hg
         .exact .inl (.inl hg)
         .exact .inl (.inr (.inl hg))
         .exact .inl (.inr (.inr (.inl hg)))
         .exact .inl (.inr (.inr (.inr (.inl (.inl (.inl hg))))))
         .exact .inl (.inr (.inr (.inr (.inl (.inl (.inr hg))))))
         .exact .inr (.inl hg)
         .exact .inr (.inr hg)
        rcases pH with h|h|h
        .exact .inl (by rw[hfp]at h;exact h)
        .exact .inr (ar hws (pI g h))
        .exact .inr (lW g h))
       clear mm ow g1;go_wp2_with fail;refine wp_region_held_drew (S:=λ_=>True) (by kernel_rfl) (trivial) (λah=>?_);refine bM [(0,117),(1,118),(2,119),(3,120),(4,121),(5,122),(6,123),(9,126),(10,127),(11,128),(12,129),(15,132),(16,133),(17,134)] ?_
       iterate 14 refine aG ?_
       refine wpAnyH_ready (rs:=[7,13,18]) (by kernel_rfl) (by simp) ?_;refine AllReadyH.cons (o:=⟨some 124,_,_,_,_,_⟩) rfl (λK hK=>?_) (AllReadyH.cons (o:=⟨some 130,_,_,_,_,_⟩) rfl (λK hK=>?_) (AllReadyH.cons (o:=⟨some 135,_,_,_,_,_⟩) rfl (λK hK=>?_) AllReadyH.nil))
       .skip
        go_simp;have gd:=d2;go_simp;clear gd;refine aA hK (trivial) (λah=>?_);refine wpAnyH_ready (rs:=[8,13,18]) (by kernel_rfl) (by simp) ?_;refine AllReadyH.cons (o:=⟨some 125,_,_,_,_,_⟩) rfl (λK hK=>?_) (AllReadyH.cons (o:=⟨some 130,_,_,_,_,_⟩) rfl (λK hK=>?_) (AllReadyH.cons (o:=⟨some 135,_,_,_,_,_⟩) rfl (λK hK=>?_) AllReadyH.nil))
        .skip
         go_simp
         go_at_call 85
         refine(KC.o _ C6.o.a.drew).mono ?_;rintro e v7 ⟨vo,rfl,S7,gD,pI⟩;have A7:=xh (C6.o.a.drew.below gD);have PX:=xh (TX.o v7 vo S7 gD pI);obtain⟨V7,c7,rfl,_⟩:=S7.val;have h5:v7.cell? ⟨x.b,5,none⟩=some (.int .i64 c.ep):=A7.o.f5;have h6:v7.cell? ⟨x.b,6,none⟩=some (.int .i64 c.slot):=A7.o.f6;have h3:=A7.o.hb.ab (i:=3) rfl;have h4:=A7.o.hb.ab (i:=4) rfl;have z3:v7.frozen? ⟨x.b,3,none⟩=false:=A7.o.fz 3 (by omega)
         have z4:v7.frozen? ⟨x.b,4,none⟩=false:=A7.o.fz 4 (by omega);have z5:v7.frozen? ⟨x.b,5,none⟩=false:=A7.o.fz 5 (by omega);have z6:v7.frozen? ⟨x.b,6,none⟩=false:=A7.o.fz 6 (by omega);have h3:v7.cell? ⟨x.b,3,none⟩=some x.ov:=h3;have h4:v7.cell? ⟨x.b,4,none⟩=some x.pv:=h4;clear S7 gD pI;go_simp;refine aA hK (trivial) (λah=>?_);refine wpAnyH_ready (rs:=[13,18]) (by kernel_rfl) (by simp) ?_
         refine AllReadyH.cons (o:=⟨some 130,_,_,_,_,_⟩) rfl (λK hK=>?_) (AllReadyH.cons (o:=⟨some 135,_,_,_,_,_⟩) rfl (λK hK=>?_) AllReadyH.nil)
         .skip
          go_simp;have gd:=h5;go_simp;clear gd;refine aA hK (trivial) (λah=>?_);refine bM [(14,131)] ?_
          iterate 1 refine aG ?_
          refine bY 18 135 λK hK=>?_;go_simp;have gd:=h6;go_simp;clear gd;refine aA hK (trivial) (λah=>?_);refine bM [(19,136),(20,137),(21,138)] ?_
          iterate 3 refine aG ?_
          refine dv 22 λK hK=>?_;go_simp;refine aA hK (trivial) (λah=>?_);refine bM [(23,139),(24,140)] ?_
          iterate 2 refine aG ?_
          refine dv 25 λK hK=>?_;go_simp;refine aA hK (trivial) (λah=>?_);refine bM [(26,141),(27,142)] ?_
          iterate 2 refine aG ?_
          refine dv 28 λK hK=>?_;go_simp;refine aA hK (trivial) (λah=>?_);refine bM [(29,143),(30,144)] ?_
          iterate 2 refine aG ?_
          refine dv 31 λK hK=>?_;go_simp;refine aA hK (trivial) (λah=>?_);refine wpAnyH_done (by kernel_rfl) ?_ _;go_wp2_with fail;go_ret
          first
           |exact aE PX.o
           |exact aE (by have q:=PX.o;rw[jx]at q;exact q)
         .skip
          go_simp;have gd:=h6;go_simp;clear gd;refine aA hK (trivial) (λah=>?_);refine bM [(19,136)] ?_
          iterate 1 refine aG ?_
          refine bY 13 130 λK hK=>?_;go_simp;have gd:=h5;go_simp;clear gd;refine aA hK (trivial) (λah=>?_);refine bM [(14,131),(20,137),(21,138)] ?_
          iterate 3 refine aG ?_
          refine dv 22 λK hK=>?_;go_simp;refine aA hK (trivial) (λah=>?_);refine bM [(23,139),(24,140)] ?_
          iterate 2 refine aG ?_
          refine dv 25 λK hK=>?_;go_simp;refine aA hK (trivial) (λah=>?_);refine bM [(26,141),(27,142)] ?_
          iterate 2 refine aG ?_
          refine dv 28 λK hK=>?_;go_simp;refine aA hK (trivial) (λah=>?_);refine bM [(29,143),(30,144)] ?_
          iterate 2 refine aG ?_
          refine dv 31 λK hK=>?_;go_simp;refine aA hK (trivial) (λah=>?_);refine wpAnyH_done (by kernel_rfl) ?_ _;go_wp2_with fail;go_ret
          first
           |exact aE PX.o
           |exact aE (by have q:=PX.o;rw[jx]at q;exact q)
        .skip
         go_simp;have gd:=d5;go_simp;clear gd;refine aA hK (trivial) (λah=>?_);refine bM [(14,131)] ?_
         iterate 1 refine aG ?_
         refine wpAnyH_ready (rs:=[8,18]) (by kernel_rfl) (by simp) ?_;refine AllReadyH.cons (o:=⟨some 125,_,_,_,_,_⟩) rfl (λK hK=>?_) (AllReadyH.cons (o:=⟨some 135,_,_,_,_,_⟩) rfl (λK hK=>?_) AllReadyH.nil)
         .skip
          go_simp
          go_at_call 85
          refine(KC.o _ C6.o.a.drew).mono ?_;rintro e v7 ⟨vo,rfl,S7,gD,pI⟩;have A7:=xh (C6.o.a.drew.below gD);have PX:=xh (TX.o v7 vo S7 gD pI);obtain⟨V7,c7,rfl,_⟩:=S7.val;have h5:v7.cell? ⟨x.b,5,none⟩=some (.int .i64 c.ep):=A7.o.f5;have h6:v7.cell? ⟨x.b,6,none⟩=some (.int .i64 c.slot):=A7.o.f6;have h3:=A7.o.hb.ab (i:=3) rfl;have h4:=A7.o.hb.ab (i:=4) rfl;have z3:v7.frozen? ⟨x.b,3,none⟩=false:=A7.o.fz 3 (by omega)
          have z4:v7.frozen? ⟨x.b,4,none⟩=false:=A7.o.fz 4 (by omega);have z5:v7.frozen? ⟨x.b,5,none⟩=false:=A7.o.fz 5 (by omega);have z6:v7.frozen? ⟨x.b,6,none⟩=false:=A7.o.fz 6 (by omega);have h3:v7.cell? ⟨x.b,3,none⟩=some x.ov:=h3;have h4:v7.cell? ⟨x.b,4,none⟩=some x.pv:=h4;clear S7 gD pI;go_simp;refine aA hK (trivial) (λah=>?_);refine bY 18 135 λK hK=>?_;go_simp;have gd:=h6;go_simp;clear gd;refine aA hK (trivial) (λah=>?_)
          refine bM [(19,136),(20,137),(21,138)] ?_
          iterate 3 refine aG ?_
          refine dv 22 λK hK=>?_;go_simp;refine aA hK (trivial) (λah=>?_);refine bM [(23,139),(24,140)] ?_
          iterate 2 refine aG ?_
          refine dv 25 λK hK=>?_;go_simp;refine aA hK (trivial) (λah=>?_);refine bM [(26,141),(27,142)] ?_
          iterate 2 refine aG ?_
          refine dv 28 λK hK=>?_;go_simp;refine aA hK (trivial) (λah=>?_);refine bM [(29,143),(30,144)] ?_
          iterate 2 refine aG ?_
          refine dv 31 λK hK=>?_;go_simp;refine aA hK (trivial) (λah=>?_);refine wpAnyH_done (by kernel_rfl) ?_ _;go_wp2_with fail;go_ret
          first
           |exact aE PX.o
           |exact aE (by have q:=PX.o;rw[jx]at q;exact q)
         .skip
          go_simp;have gd:=d6;go_simp;clear gd;refine aA hK (trivial) (λah=>?_);refine bM [(19,136)] ?_
          iterate 1 refine aG ?_
          refine bY 8 125 λK hK=>?_;go_simp
          go_at_call 85
          refine(KC.o _ C6.o.a.drew).mono ?_;rintro e v7 ⟨vo,rfl,S7,gD,pI⟩;have A7:=xh (C6.o.a.drew.below gD);have PX:=xh (TX.o v7 vo S7 gD pI);obtain⟨V7,c7,rfl,_⟩:=S7.val;have h5:v7.cell? ⟨x.b,5,none⟩=some (.int .i64 c.ep):=A7.o.f5;have h6:v7.cell? ⟨x.b,6,none⟩=some (.int .i64 c.slot):=A7.o.f6;have h3:=A7.o.hb.ab (i:=3) rfl;have h4:=A7.o.hb.ab (i:=4) rfl;have z3:v7.frozen? ⟨x.b,3,none⟩=false:=A7.o.fz 3 (by omega)
          have z4:v7.frozen? ⟨x.b,4,none⟩=false:=A7.o.fz 4 (by omega);have z5:v7.frozen? ⟨x.b,5,none⟩=false:=A7.o.fz 5 (by omega);have z6:v7.frozen? ⟨x.b,6,none⟩=false:=A7.o.fz 6 (by omega);have h3:v7.cell? ⟨x.b,3,none⟩=some x.ov:=h3;have h4:v7.cell? ⟨x.b,4,none⟩=some x.pv:=h4;clear S7 gD pI;go_simp;refine aA hK (trivial) (λah=>?_);refine bM [(20,137),(21,138)] ?_
          iterate 2 refine aG ?_
          refine dv 22 λK hK=>?_;go_simp;refine aA hK (trivial) (λah=>?_);refine bM [(23,139),(24,140)] ?_
          iterate 2 refine aG ?_
          refine dv 25 λK hK=>?_;go_simp;refine aA hK (trivial) (λah=>?_);refine bM [(26,141),(27,142)] ?_
          iterate 2 refine aG ?_
          refine dv 28 λK hK=>?_;go_simp;refine aA hK (trivial) (λah=>?_);refine bM [(29,143),(30,144)] ?_
          iterate 2 refine aG ?_
          refine dv 31 λK hK=>?_;go_simp;refine aA hK (trivial) (λah=>?_);refine wpAnyH_done (by kernel_rfl) ?_ _;go_wp2_with fail;go_ret
          first
           |exact aE PX.o
           |exact aE (by have q:=PX.o;rw[jx]at q;exact q)
        .skip
         go_simp;have gd:=d6;go_simp;clear gd;refine aA hK (trivial) (λah=>?_);refine bM [(19,136)] ?_
         iterate 1 refine aG ?_
         refine wpAnyH_ready (rs:=[8,13]) (by kernel_rfl) (by simp) ?_;refine AllReadyH.cons (o:=⟨some 125,_,_,_,_,_⟩) rfl (λK hK=>?_) (AllReadyH.cons (o:=⟨some 130,_,_,_,_,_⟩) rfl (λK hK=>?_) AllReadyH.nil)
         .skip
          go_simp
          go_at_call 85
          refine(KC.o _ C6.o.a.drew).mono ?_;rintro e v7 ⟨vo,rfl,S7,gD,pI⟩;have A7:=xh (C6.o.a.drew.below gD);have PX:=xh (TX.o v7 vo S7 gD pI);obtain⟨V7,c7,rfl,_⟩:=S7.val;have h5:v7.cell? ⟨x.b,5,none⟩=some (.int .i64 c.ep):=A7.o.f5;have h6:v7.cell? ⟨x.b,6,none⟩=some (.int .i64 c.slot):=A7.o.f6;have h3:=A7.o.hb.ab (i:=3) rfl;have h4:=A7.o.hb.ab (i:=4) rfl;have z3:v7.frozen? ⟨x.b,3,none⟩=false:=A7.o.fz 3 (by omega)
          have z4:v7.frozen? ⟨x.b,4,none⟩=false:=A7.o.fz 4 (by omega);have z5:v7.frozen? ⟨x.b,5,none⟩=false:=A7.o.fz 5 (by omega);have z6:v7.frozen? ⟨x.b,6,none⟩=false:=A7.o.fz 6 (by omega);have h3:v7.cell? ⟨x.b,3,none⟩=some x.ov:=h3;have h4:v7.cell? ⟨x.b,4,none⟩=some x.pv:=h4;clear S7 gD pI;go_simp;refine aA hK (trivial) (λah=>?_);refine bY 13 130 λK hK=>?_;go_simp;have gd:=h5;go_simp;clear gd;refine aA hK (trivial) (λah=>?_)
          refine bM [(14,131),(20,137),(21,138)] ?_
          iterate 3 refine aG ?_
          refine dv 22 λK hK=>?_;go_simp;refine aA hK (trivial) (λah=>?_);refine bM [(23,139),(24,140)] ?_
          iterate 2 refine aG ?_
          refine dv 25 λK hK=>?_;go_simp;refine aA hK (trivial) (λah=>?_);refine bM [(26,141),(27,142)] ?_
          iterate 2 refine aG ?_
          refine dv 28 λK hK=>?_;go_simp;refine aA hK (trivial) (λah=>?_);refine bM [(29,143),(30,144)] ?_
          iterate 2 refine aG ?_
          refine dv 31 λK hK=>?_;go_simp;refine aA hK (trivial) (λah=>?_);refine wpAnyH_done (by kernel_rfl) ?_ _;go_wp2_with fail;go_ret
          first
           |exact aE PX.o
           |exact aE (by have q:=PX.o;rw[jx]at q;exact q)
         .skip
          go_simp;have gd:=d5;go_simp;clear gd;refine aA hK (trivial) (λah=>?_);refine bM [(14,131)] ?_
          iterate 1 refine aG ?_
          refine bY 8 125 λK hK=>?_;go_simp
          go_at_call 85
          refine(KC.o _ C6.o.a.drew).mono ?_;rintro e v7 ⟨vo,rfl,S7,gD,pI⟩;have A7:=xh (C6.o.a.drew.below gD);have PX:=xh (TX.o v7 vo S7 gD pI);obtain⟨V7,c7,rfl,_⟩:=S7.val;have h5:v7.cell? ⟨x.b,5,none⟩=some (.int .i64 c.ep):=A7.o.f5;have h6:v7.cell? ⟨x.b,6,none⟩=some (.int .i64 c.slot):=A7.o.f6;have h3:=A7.o.hb.ab (i:=3) rfl;have h4:=A7.o.hb.ab (i:=4) rfl;have z3:v7.frozen? ⟨x.b,3,none⟩=false:=A7.o.fz 3 (by omega)
          have z4:v7.frozen? ⟨x.b,4,none⟩=false:=A7.o.fz 4 (by omega);have z5:v7.frozen? ⟨x.b,5,none⟩=false:=A7.o.fz 5 (by omega);have z6:v7.frozen? ⟨x.b,6,none⟩=false:=A7.o.fz 6 (by omega);have h3:v7.cell? ⟨x.b,3,none⟩=some x.ov:=h3;have h4:v7.cell? ⟨x.b,4,none⟩=some x.pv:=h4;clear S7 gD pI;go_simp;refine aA hK (trivial) (λah=>?_);refine bM [(20,137),(21,138)] ?_
          iterate 2 refine aG ?_
          refine dv 22 λK hK=>?_;go_simp;refine aA hK (trivial) (λah=>?_);refine bM [(23,139),(24,140)] ?_
          iterate 2 refine aG ?_
          refine dv 25 λK hK=>?_;go_simp;refine aA hK (trivial) (λah=>?_);refine bM [(26,141),(27,142)] ?_
          iterate 2 refine aG ?_
          refine dv 28 λK hK=>?_;go_simp;refine aA hK (trivial) (λah=>?_);refine bM [(29,143),(30,144)] ?_
          iterate 2 refine aG ?_
          refine dv 31 λK hK=>?_;go_simp;refine aA hK (trivial) (λah=>?_);refine wpAnyH_done (by kernel_rfl) ?_ _;go_wp2_with fail;go_ret
          first
           |exact aE PX.o
           |exact aE (by have q:=PX.o;rw[jx]at q;exact q)
       .skip
        go_simp;have gd:=d5;go_simp;clear gd;refine aA hK (trivial) (λah=>?_);refine bM [(14,131)] ?_
        iterate 1 refine aG ?_
        refine wpAnyH_ready (rs:=[7,18]) (by kernel_rfl) (by simp) ?_;refine AllReadyH.cons (o:=⟨some 124,_,_,_,_,_⟩) rfl (λK hK=>?_) (AllReadyH.cons (o:=⟨some 135,_,_,_,_,_⟩) rfl (λK hK=>?_) AllReadyH.nil)
        .skip
         go_simp;have gd:=d2;go_simp;clear gd;refine aA hK (trivial) (λah=>?_);refine wpAnyH_ready (rs:=[8,18]) (by kernel_rfl) (by simp) ?_;refine AllReadyH.cons (o:=⟨some 125,_,_,_,_,_⟩) rfl (λK hK=>?_) (AllReadyH.cons (o:=⟨some 135,_,_,_,_,_⟩) rfl (λK hK=>?_) AllReadyH.nil)
         .skip
          go_simp
          go_at_call 85
          refine(KC.o _ C6.o.a.drew).mono ?_;rintro e v7 ⟨vo,rfl,S7,gD,pI⟩;have A7:=xh (C6.o.a.drew.below gD);have PX:=xh (TX.o v7 vo S7 gD pI);obtain⟨V7,c7,rfl,_⟩:=S7.val;have h5:v7.cell? ⟨x.b,5,none⟩=some (.int .i64 c.ep):=A7.o.f5;have h6:v7.cell? ⟨x.b,6,none⟩=some (.int .i64 c.slot):=A7.o.f6;have h3:=A7.o.hb.ab (i:=3) rfl;have h4:=A7.o.hb.ab (i:=4) rfl;have z3:v7.frozen? ⟨x.b,3,none⟩=false:=A7.o.fz 3 (by omega)
          have z4:v7.frozen? ⟨x.b,4,none⟩=false:=A7.o.fz 4 (by omega);have z5:v7.frozen? ⟨x.b,5,none⟩=false:=A7.o.fz 5 (by omega);have z6:v7.frozen? ⟨x.b,6,none⟩=false:=A7.o.fz 6 (by omega);have h3:v7.cell? ⟨x.b,3,none⟩=some x.ov:=h3;have h4:v7.cell? ⟨x.b,4,none⟩=some x.pv:=h4;clear S7 gD pI;go_simp;refine aA hK (trivial) (λah=>?_);refine bY 18 135 λK hK=>?_;go_simp;have gd:=h6;go_simp;clear gd;refine aA hK (trivial) (λah=>?_)
          refine bM [(19,136),(20,137),(21,138)] ?_
          iterate 3 refine aG ?_
          refine dv 22 λK hK=>?_;go_simp;refine aA hK (trivial) (λah=>?_);refine bM [(23,139),(24,140)] ?_
          iterate 2 refine aG ?_
          refine dv 25 λK hK=>?_;go_simp;refine aA hK (trivial) (λah=>?_);refine bM [(26,141),(27,142)] ?_
          iterate 2 refine aG ?_
          refine dv 28 λK hK=>?_;go_simp;refine aA hK (trivial) (λah=>?_);refine bM [(29,143),(30,144)] ?_
          iterate 2 refine aG ?_
          refine dv 31 λK hK=>?_;go_simp;refine aA hK (trivial) (λah=>?_);refine wpAnyH_done (by kernel_rfl) ?_ _;go_wp2_with fail;go_ret
          first
           |exact aE PX.o
           |exact aE (by have q:=PX.o;rw[jx]at q;exact q)
         .skip
          go_simp;have gd:=d6;go_simp;clear gd;refine aA hK (trivial) (λah=>?_);refine bM [(19,136)] ?_
          iterate 1 refine aG ?_
          refine bY 8 125 λK hK=>?_;go_simp
          go_at_call 85
          refine(KC.o _ C6.o.a.drew).mono ?_;rintro e v7 ⟨vo,rfl,S7,gD,pI⟩;have A7:=xh (C6.o.a.drew.below gD);have PX:=xh (TX.o v7 vo S7 gD pI);obtain⟨V7,c7,rfl,_⟩:=S7.val;have h5:v7.cell? ⟨x.b,5,none⟩=some (.int .i64 c.ep):=A7.o.f5;have h6:v7.cell? ⟨x.b,6,none⟩=some (.int .i64 c.slot):=A7.o.f6;have h3:=A7.o.hb.ab (i:=3) rfl;have h4:=A7.o.hb.ab (i:=4) rfl;have z3:v7.frozen? ⟨x.b,3,none⟩=false:=A7.o.fz 3 (by omega)
          have z4:v7.frozen? ⟨x.b,4,none⟩=false:=A7.o.fz 4 (by omega);have z5:v7.frozen? ⟨x.b,5,none⟩=false:=A7.o.fz 5 (by omega);have z6:v7.frozen? ⟨x.b,6,none⟩=false:=A7.o.fz 6 (by omega);have h3:v7.cell? ⟨x.b,3,none⟩=some x.ov:=h3;have h4:v7.cell? ⟨x.b,4,none⟩=some x.pv:=h4;clear S7 gD pI;go_simp;refine aA hK (trivial) (λah=>?_);refine bM [(20,137),(21,138)] ?_
          iterate 2 refine aG ?_
          refine dv 22 λK hK=>?_;go_simp;refine aA hK (trivial) (λah=>?_);refine bM [(23,139),(24,140)] ?_
          iterate 2 refine aG ?_
          refine dv 25 λK hK=>?_;go_simp;refine aA hK (trivial) (λah=>?_);refine bM [(26,141),(27,142)] ?_
          iterate 2 refine aG ?_
          refine dv 28 λK hK=>?_;go_simp;refine aA hK (trivial) (λah=>?_);refine bM [(29,143),(30,144)] ?_
          iterate 2 refine aG ?_
          refine dv 31 λK hK=>?_;go_simp;refine aA hK (trivial) (λah=>?_);refine wpAnyH_done (by kernel_rfl) ?_ _;go_wp2_with fail;go_ret
          first
           |exact aE PX.o
           |exact aE (by have q:=PX.o;rw[jx]at q;exact q)
        .skip
         go_simp;have gd:=d6;go_simp;clear gd;refine aA hK (trivial) (λah=>?_);refine bM [(19,136)] ?_
         iterate 1 refine aG ?_
         refine bY 7 124 λK hK=>?_;go_simp;have gd:=d2;go_simp;clear gd;refine aA hK (trivial) (λah=>?_);refine bY 8 125 λK hK=>?_;go_simp
         go_at_call 85
         refine(KC.o _ C6.o.a.drew).mono ?_;rintro e v7 ⟨vo,rfl,S7,gD,pI⟩;have A7:=xh (C6.o.a.drew.below gD);have PX:=xh (TX.o v7 vo S7 gD pI);obtain⟨V7,c7,rfl,_⟩:=S7.val;have h5:v7.cell? ⟨x.b,5,none⟩=some (.int .i64 c.ep):=A7.o.f5;have h6:v7.cell? ⟨x.b,6,none⟩=some (.int .i64 c.slot):=A7.o.f6;have h3:=A7.o.hb.ab (i:=3) rfl;have h4:=A7.o.hb.ab (i:=4) rfl;have z3:v7.frozen? ⟨x.b,3,none⟩=false:=A7.o.fz 3 (by omega)
         have z4:v7.frozen? ⟨x.b,4,none⟩=false:=A7.o.fz 4 (by omega);have z5:v7.frozen? ⟨x.b,5,none⟩=false:=A7.o.fz 5 (by omega);have z6:v7.frozen? ⟨x.b,6,none⟩=false:=A7.o.fz 6 (by omega);have h3:v7.cell? ⟨x.b,3,none⟩=some x.ov:=h3;have h4:v7.cell? ⟨x.b,4,none⟩=some x.pv:=h4;clear S7 gD pI;go_simp;refine aA hK (trivial) (λah=>?_);refine bM [(20,137),(21,138)] ?_
         iterate 2 refine aG ?_
         refine dv 22 λK hK=>?_;go_simp;refine aA hK (trivial) (λah=>?_);refine bM [(23,139),(24,140)] ?_
         iterate 2 refine aG ?_
         refine dv 25 λK hK=>?_;go_simp;refine aA hK (trivial) (λah=>?_);refine bM [(26,141),(27,142)] ?_
         iterate 2 refine aG ?_
         refine dv 28 λK hK=>?_;go_simp;refine aA hK (trivial) (λah=>?_);refine bM [(29,143),(30,144)] ?_
         iterate 2 refine aG ?_
         refine dv 31 λK hK=>?_;go_simp;refine aA hK (trivial) (λah=>?_);refine wpAnyH_done (by kernel_rfl) ?_ _;go_wp2_with fail;go_ret
         first
          |exact aE PX.o
          |exact aE (by have q:=PX.o;rw[jx]at q;exact q)
       .skip
        go_simp;have gd:=d6;go_simp;clear gd;refine aA hK (trivial) (λah=>?_);refine bM [(19,136)] ?_
        iterate 1 refine aG ?_
        refine wpAnyH_ready (rs:=[7,13]) (by kernel_rfl) (by simp) ?_;refine AllReadyH.cons (o:=⟨some 124,_,_,_,_,_⟩) rfl (λK hK=>?_) (AllReadyH.cons (o:=⟨some 130,_,_,_,_,_⟩) rfl (λK hK=>?_) AllReadyH.nil)
        .skip
         go_simp;have gd:=d2;go_simp;clear gd;refine aA hK (trivial) (λah=>?_);refine wpAnyH_ready (rs:=[8,13]) (by kernel_rfl) (by simp) ?_;refine AllReadyH.cons (o:=⟨some 125,_,_,_,_,_⟩) rfl (λK hK=>?_) (AllReadyH.cons (o:=⟨some 130,_,_,_,_,_⟩) rfl (λK hK=>?_) AllReadyH.nil)
         .skip
          go_simp
          go_at_call 85
          refine(KC.o _ C6.o.a.drew).mono ?_;rintro e v7 ⟨vo,rfl,S7,gD,pI⟩;have A7:=xh (C6.o.a.drew.below gD);have PX:=xh (TX.o v7 vo S7 gD pI);obtain⟨V7,c7,rfl,_⟩:=S7.val;have h5:v7.cell? ⟨x.b,5,none⟩=some (.int .i64 c.ep):=A7.o.f5;have h6:v7.cell? ⟨x.b,6,none⟩=some (.int .i64 c.slot):=A7.o.f6;have h3:=A7.o.hb.ab (i:=3) rfl;have h4:=A7.o.hb.ab (i:=4) rfl;have z3:v7.frozen? ⟨x.b,3,none⟩=false:=A7.o.fz 3 (by omega)
          have z4:v7.frozen? ⟨x.b,4,none⟩=false:=A7.o.fz 4 (by omega);have z5:v7.frozen? ⟨x.b,5,none⟩=false:=A7.o.fz 5 (by omega);have z6:v7.frozen? ⟨x.b,6,none⟩=false:=A7.o.fz 6 (by omega);have h3:v7.cell? ⟨x.b,3,none⟩=some x.ov:=h3;have h4:v7.cell? ⟨x.b,4,none⟩=some x.pv:=h4;clear S7 gD pI;go_simp;refine aA hK (trivial) (λah=>?_);refine bY 13 130 λK hK=>?_;go_simp;have gd:=h5;go_simp;clear gd;refine aA hK (trivial) (λah=>?_)
          refine bM [(14,131),(20,137),(21,138)] ?_
          iterate 3 refine aG ?_
          refine dv 22 λK hK=>?_;go_simp;refine aA hK (trivial) (λah=>?_);refine bM [(23,139),(24,140)] ?_
          iterate 2 refine aG ?_
          refine dv 25 λK hK=>?_;go_simp;refine aA hK (trivial) (λah=>?_);refine bM [(26,141),(27,142)] ?_
          iterate 2 refine aG ?_
          refine dv 28 λK hK=>?_;go_simp;refine aA hK (trivial) (λah=>?_);refine bM [(29,143),(30,144)] ?_
          iterate 2 refine aG ?_
          refine dv 31 λK hK=>?_;go_simp;refine aA hK (trivial) (λah=>?_);refine wpAnyH_done (by kernel_rfl) ?_ _;go_wp2_with fail;go_ret
          first
           |exact aE PX.o
           |exact aE (by have q:=PX.o;rw[jx]at q;exact q)
         .skip
          go_simp;have gd:=d5;go_simp;clear gd;refine aA hK (trivial) (λah=>?_);refine bM [(14,131)] ?_
          iterate 1 refine aG ?_
          refine bY 8 125 λK hK=>?_;go_simp
          go_at_call 85
          refine(KC.o _ C6.o.a.drew).mono ?_;rintro e v7 ⟨vo,rfl,S7,gD,pI⟩;have A7:=xh (C6.o.a.drew.below gD);have PX:=xh (TX.o v7 vo S7 gD pI);obtain⟨V7,c7,rfl,_⟩:=S7.val;have h5:v7.cell? ⟨x.b,5,none⟩=some (.int .i64 c.ep):=A7.o.f5;have h6:v7.cell? ⟨x.b,6,none⟩=some (.int .i64 c.slot):=A7.o.f6;have h3:=A7.o.hb.ab (i:=3) rfl;have h4:=A7.o.hb.ab (i:=4) rfl;have z3:v7.frozen? ⟨x.b,3,none⟩=false:=A7.o.fz 3 (by omega)
          have z4:v7.frozen? ⟨x.b,4,none⟩=false:=A7.o.fz 4 (by omega);have z5:v7.frozen? ⟨x.b,5,none⟩=false:=A7.o.fz 5 (by omega);have z6:v7.frozen? ⟨x.b,6,none⟩=false:=A7.o.fz 6 (by omega);have h3:v7.cell? ⟨x.b,3,none⟩=some x.ov:=h3;have h4:v7.cell? ⟨x.b,4,none⟩=some x.pv:=h4;clear S7 gD pI;go_simp;refine aA hK (trivial) (λah=>?_);refine bM [(20,137),(21,138)] ?_
          iterate 2 refine aG ?_
          refine dv 22 λK hK=>?_;go_simp;refine aA hK (trivial) (λah=>?_);refine bM [(23,139),(24,140)] ?_
          iterate 2 refine aG ?_
          refine dv 25 λK hK=>?_;go_simp;refine aA hK (trivial) (λah=>?_);refine bM [(26,141),(27,142)] ?_
          iterate 2 refine aG ?_
          refine dv 28 λK hK=>?_;go_simp;refine aA hK (trivial) (λah=>?_);refine bM [(29,143),(30,144)] ?_
          iterate 2 refine aG ?_
          refine dv 31 λK hK=>?_;go_simp;refine aA hK (trivial) (λah=>?_);refine wpAnyH_done (by kernel_rfl) ?_ _;go_wp2_with fail;go_ret
          first
           |exact aE PX.o
           |exact aE (by have q:=PX.o;rw[jx]at q;exact q)
        .skip
         go_simp;have gd:=d5;go_simp;clear gd;refine aA hK (trivial) (λah=>?_);refine bM [(14,131)] ?_
         iterate 1 refine aG ?_
         refine bY 7 124 λK hK=>?_;go_simp;have gd:=d2;go_simp;clear gd;refine aA hK (trivial) (λah=>?_);refine bY 8 125 λK hK=>?_;go_simp
         go_at_call 85
         refine(KC.o _ C6.o.a.drew).mono ?_;rintro e v7 ⟨vo,rfl,S7,gD,pI⟩;have A7:=xh (C6.o.a.drew.below gD);have PX:=xh (TX.o v7 vo S7 gD pI);obtain⟨V7,c7,rfl,_⟩:=S7.val;have h5:v7.cell? ⟨x.b,5,none⟩=some (.int .i64 c.ep):=A7.o.f5;have h6:v7.cell? ⟨x.b,6,none⟩=some (.int .i64 c.slot):=A7.o.f6;have h3:=A7.o.hb.ab (i:=3) rfl;have h4:=A7.o.hb.ab (i:=4) rfl;have z3:v7.frozen? ⟨x.b,3,none⟩=false:=A7.o.fz 3 (by omega)
         have z4:v7.frozen? ⟨x.b,4,none⟩=false:=A7.o.fz 4 (by omega);have z5:v7.frozen? ⟨x.b,5,none⟩=false:=A7.o.fz 5 (by omega);have z6:v7.frozen? ⟨x.b,6,none⟩=false:=A7.o.fz 6 (by omega);have h3:v7.cell? ⟨x.b,3,none⟩=some x.ov:=h3;have h4:v7.cell? ⟨x.b,4,none⟩=some x.pv:=h4;clear S7 gD pI;go_simp;refine aA hK (trivial) (λah=>?_);refine bM [(20,137),(21,138)] ?_
         iterate 2 refine aG ?_
         refine dv 22 λK hK=>?_;go_simp;refine aA hK (trivial) (λah=>?_);refine bM [(23,139),(24,140)] ?_
         iterate 2 refine aG ?_
         refine dv 25 λK hK=>?_;go_simp;refine aA hK (trivial) (λah=>?_);refine bM [(26,141),(27,142)] ?_
         iterate 2 refine aG ?_
         refine dv 28 λK hK=>?_;go_simp;refine aA hK (trivial) (λah=>?_);refine bM [(29,143),(30,144)] ?_
         iterate 2 refine aG ?_
         refine dv 31 λK hK=>?_;go_simp;refine aA hK (trivial) (λah=>?_);refine wpAnyH_done (by kernel_rfl) ?_ _;go_wp2_with fail;go_ret
         first
          |exact aE PX.o
          |exact aE (by have q:=PX.o;rw[jx]at q;exact q)
    .rw[if_pos hle]at HR4;subst HR4;have hq:(le != 0)=true:=by rw[bne_iff_ne];exact hle
     have kt:(le==0)=false:=by rw[beq_eq_false_iff_ne];exact hle
     clear sJ;unfold sp at KL;go_wp2_with fail;refine KL.o.mono ?_;rintro e v3 ⟨rfl,A3,o3⟩;have C3:=xh (show CW x n w v3 {x with tv:= .slice TA T tc} {c with table:=c.table.take T,m:=(takeN c.m i).1,d:=ld}from⟨A3,HC.o.1.o.trans (o3.mono (λg hg _=>GM x g hg)),hfp⟩);have q7:=C3.o.a.hb.ab (i:=7) rfl;have z7:=C3.o.a.fz 7 (by omega);have q7:v3.cell? ⟨x.b,7,none⟩=some (.bool c.broken):=q7;have z7:v3.frozen? ⟨x.b,7,none⟩=false:=z7;have R7:=xh (C3.o.brk);clear A3 o3
     go_wp2_with fail;go_ret;exact aE R7.o.post
end Sh
end Go.Proofs.YtmonobkginiajaaGreat
