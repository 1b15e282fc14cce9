/- packed. -/
import Derived.Test.YtmonobkginiajaaGreatC9
import Derived.Deep.Cut
import Derived.Test.YtmonobkginiajaaGreatC8
set_option linter.all false
set_option maxRecDepth 100000
set_option maxHeartbeats 8000000
namespace Go.Proofs.YtmonobkginiajaaGreat.Sh
open Go.RowKit Pk Dk Pg
theorem so(b:St):b.pad 0=b:=by unfold St.pad;simp
theorem wO{α:Type}(l:List (Option α))(k i:Nat):((l++List.replicate k none)[i]?).getD none=(l[i]?).getD none:=by
 by_cases h:i<l.length
 .rw[bx h]
 .rw[dF (by omega),fo (l:=l) (by omega),vH]
  split<;>rfl
theorem Be(b:St)(k:Nat)(l:Int):(b.pad k).at l=b.at l:=by
 unfold St.at;show(if 0<=l then((b.now++List.replicate k none)[l.toNat]?).getD none else none)=_;rw[wO]
theorem Ec(b:St)(k:Nat):(b.pad k).fresh=b.fresh:=by
 unfold St.fresh;show(b.now++List.replicate k none).countP ed=_;rw[zL,List.countP_replicate];simp[ed]
theorem G9(b:St)(k:Nat):(b.pad k).kept=b.kept:=rfl
theorem ye(b:St)(k:Nat):(b.pad k).free=b.free:=by
 unfold St.free;rw[Ec,G9];rfl
theorem Ha(b:St)(k:Nat):(b.pad k).slot=b.slot:=by
 unfold St.slot;show(b.now++List.replicate k none).findIdx Option.isNone=_;rw[List.findIdx_append]
 split
 .rfl
 .rename_i h;have h1:b.now.findIdx Option.isNone=b.now.length:=by
   have:=kz (xs:=b.now) (p:=Option.isNone);omega
  cases k with
  |zero=>simp[h1]
  |succ k=>simp[List.replicate_succ,zS,h1]
theorem wP{α:Type}(l:List (Option α))(k i:Nat)(u:Option α)(h:i<l.length):(l++List.replicate k none).set i u=l.set i u++List.replicate k none:=qQ _ _ h
theorem pad_new(b:St)(k:Nat)(p:List UInt8):∃k',(b.pad k).bh p=((b.bh p).1.pad k',(b.bh p).2):=by
 unfold St.bh;rw[Ha,ye]
 by_cases h1:232<p.length
 .rw[if_pos h1,if_pos h1];exact⟨k,rfl⟩
 rw[if_neg h1,if_neg h1]
 by_cases h2:512<=b.slot\/b.free=0
 .rw[if_pos h2,if_pos h2];exact⟨k,rfl⟩
 rw[if_neg h2,if_neg h2];have hs:b.slot<=b.now.length:=kz
 by_cases h3:b.slot=b.now.length
 .cases k with
  |zero=>exact⟨0,by rw[so,so]⟩
  |succ k=>
   refine⟨k,?_⟩;unfold St.pad;simp only[Prod.mk.injEq,St.mk.injEq,true_and,and_true];unfold kR;rw[if_neg (by simp;omega),if_pos h3,h3,qR _ _ (ak _),eB,List.replicate_succ];simp
 .refine⟨k,?_⟩;unfold St.pad;simp only[Prod.mk.injEq,St.mk.injEq,true_and,and_true];unfold kR;rw[if_neg (by simp;omega),if_neg h3,wP _ _ _ _ (by omega)]
theorem sq{b:St}{l:Int}(h:(b.at l).isSome=true):0<=l/\l.toNat<b.now.length:=by
 unfold St.at at h
 by_cases h0:0<=l
 .rw[if_pos h0]at h;refine⟨h0,Nat.lt_of_not_le (λhle=>?_)⟩;rw[fo hle]at h;simp at h
 .rw[if_neg h0]at h;simp at h
theorem Ed(b:St)(k:Nat)(l:Int)(p:List UInt8):(b.pad k).ar l p=((b.ar l p).1.pad k,(b.ar l p).2):=by
 unfold St.ar;rw[Be,ye]
 by_cases h1:232<p.length
 .rw[if_pos h1,if_pos h1]
 rw[if_neg h1,if_neg h1]
 by_cases h2:¬(b.at l).isSome=true
 .rw[if_pos h2,if_pos h2]
 rw[if_neg h2,if_neg h2]
 by_cases h3:ed (b.at l)=false/\b.free=0
 .rw[if_pos h3,if_pos h3]
 rw[if_neg h3,if_neg h3];unfold St.pad;simp only[Prod.mk.injEq,St.mk.injEq,true_and,and_true];exact wP _ _ _ _ (sq (Decidable.not_not.1 h2)).2
theorem Hb(b:St)(k:Nat)(l:Int):(b.pad k).aI l=((b.aI l).1.pad k,(b.aI l).2):=by
 unfold St.aI;rw[Be]
 by_cases h2:(b.at l).isSome=true
 .rw[if_pos h2,if_pos h2];unfold St.pad;simp only[Prod.mk.injEq,St.mk.injEq,true_and,and_true];exact wP _ _ _ _ (sq h2).2
 .rw[if_neg h2,if_neg h2]
variable{c:C}{n:Nat}
theorem Ee(l:List yb)(k:Nat):pC l (k+1)=pC l k++if((l[k]?).getD none).isSome then [(k:Int)]else []:=rfl
theorem pad_pgs(l:List yb)(k:Nat):pC (l++List.replicate k none) (l.length+k)=pC l l.length:=by
 have h1:∀j,j<=l.length->pC (l++List.replicate k none) j=pC l j:=by
  intro j
  induction j with
  |zero=>intro _;rfl
  |succ j ih=>
   intro hj;unfold pC;rw[wO,ih (by omega)]
 have h2:∀j,pC (l++List.replicate k none) (l.length+j)=pC (l++List.replicate k none) l.length:=by
  intro j
  induction j with
  |zero=>rfl
  |succ j ih=>
   rw[show l.length+(j+1)=(l.length+j)+1 by omega,Ee,wO,fo (by omega),ih];simp
 rw[h2,h1 _ (ak _)]
theorem yf(g:Good c n):∀k,k<=c.bM.length->wL (c.bP n).now (wK (c.bP n).bM) k=(c.bM.take k).countP (λx=>decide (0<=x) && decide (x∉c.table))
 |0,_=>rfl
 |k+1,h=>by
  have ih:=yf g k (by omega);obtain⟨x,hx⟩:∃x,c.bM[k]?=some x:=⟨_,aN (by omega)⟩;have hxk:c.bM[k]=x:=(aR.1 hx).2;unfold wL;rw[ih,iD (by omega),zL,hxk,List.countP_singleton]
  congr 1
  have e1:((wK (c.bP n).bM)[k]?).getD none=if x<0 then none else some (false,(bj c.d n x).1.s):=by
   unfold wK C.bP;simp only[ij,hx,iZ,kE]
   split<;>rfl
  have e2:((c.bP n).now[k]?).getD none=((c.table[k]?).map (c.dr n)).getD none:=by
   unfold C.bP;rw[ij]
  have key:G5 (c.bP n).now (wK (c.bP n).bM) k=(decide (0<=x) && decide (x∉c.table)):=by
   unfold G5;rw[e1,e2]
   by_cases h0:x<0
   .rw[if_pos h0];simp;omega
   .rw[if_neg h0];simp only[Option.isSome_some,FJ];rw[show decide (0<=x)=true by simpa using (show 0<=x by omega),FJ]
    by_cases ht:x∈c.table
    .obtain⟨j,hj⟩:=kA ht;have:=g.sm j x hj (by omega) (az hx);have hjk:=g.oj j k x this hx (by omega);subst hjk;rw[hj];simp[C.dr,h0,ed,az hx,ht]
    .simp only[ht,not_false_eq_true,decide_true]
     cases hk:c.table[k]? with
     |none=>simp
     |some y=>
      by_cases hy:y<0
      .simp[C.dr,hy]
      .by_cases hyo:y∈c.bM
       .have:=g.sm k y hk (by omega) hyo;rw[hx]at this;injection this with this
        subst this;exact absurd (az hk) ht
       .simp[C.dr,hy,ed,hyo]
  rw[key]
theorem counts(g:Good c n):(Fm.k9 c.m 0).length=(c.bP n).free/\(Fm.k9 c.m 2).length=(c.bP n).fresh/\(Fm.k9 c.m 1).length+(Fm.k9 c.m 3).length=(c.bP n).kept/\(Fm.k9 c.m 3).length=(c.bP n).leaving:=by
 have hp:c.parts.Nodup:=Eb g.pj (λx hx=>(g.pi x hx).1);refine⟨(mZ g).1,?_,?_,?_⟩
 .have hFl:((ids c.table).filter (λx=>decide (x∉c.bM))).length=(c.bP n).fresh:=by
   unfold St.fresh C.bP ids;rw[zQ,<-ry,vD];apply oQ;intro x hx;simp only[Function.comp,C.dr]
   by_cases h:x<0
   .rw[if_pos h];simp[ed];omega
   .rw[if_neg h];simp[ed];omega
  rw[<-hFl];refine nW (iL _ _) ((gq g.tj).sublist zR) (λx=>?_);rw[eE,zY,iF]
  constructor
  .rintro⟨i,rfl,hi,h0⟩;rw[g.md i hi]at h0;unfold cI at h0
   split at h0
   .omega
   .split at h0
    .split at h0<;>omega
    .split at h0
     .exact⟨⟨by assumption,by omega⟩,by simpa⟩
     .omega
  .rintro⟨⟨ht,h0⟩,ho⟩;have ho:x∉c.bM:=by simpa using ho
   have:=g.ti x ht;refine⟨x.toNat,by omega,by omega,?_⟩;rw[g.md _ (by omega),show((x.toNat:Nat):Int)=x by omega];unfold cI;rw[if_neg (λh=>(g.dt x h).1 ht),if_neg ho,if_pos ht]
 .have hKl:(c.parts++ids c.bM).length=(c.bP n).kept:=by
   unfold St.kept C.bP ids;rw[aU,g.pl,<-ry,vD,j0];have:c.bM.countP (λx=>decide (0<=x))=c.bM.countP (Option.isSome ∘ λx=>if x<0 then none else some (bj c.d n x).1.s):=by
    apply oQ;intro x hx;simp only[Function.comp]
    by_cases h:x<0
    .rw[if_pos h];simp;omega
    .rw[if_neg h];simp;omega
   omega
  rw[<-hKl,<-aU];refine nW ?_ ?_ (λx=>?_)
  .rw[fU];refine⟨iL _ _,iL _ _,λa ha b hb e=>?_⟩;subst e;obtain⟨i,rfl,hi,h0⟩:=eE.1 ha;obtain⟨j,e,hj,h1⟩:=eE.1 hb;obtain rfl:i=j:=by omega
   omega
  .rw[fU];refine⟨hp,gq g.oj,λa ha b hb e=>?_⟩;subst e;exact(g.dt a ha).2 (iF.1 hb).1
  .rw[aS,aS,eE,eE,iF]
   constructor
   .rintro(⟨i,rfl,hi,h0⟩|⟨i,rfl,hi,h0⟩)
    .rw[g.md i hi]at h0;unfold cI at h0
     by_cases h1:(i:Int)∈c.parts
     .exact .inl h1
     .rw[if_neg h1]at h0
      by_cases h2:(i:Int)∈c.bM
      .exact .inr ⟨h2,by omega⟩
      .rw[if_neg h2]at h0
       split at h0<;>omega
    .rw[g.md i hi]at h0;unfold cI at h0
     by_cases h1:(i:Int)∈c.parts
     .exact .inl h1
     .rw[if_neg h1]at h0
      by_cases h2:(i:Int)∈c.bM
      .exact .inr ⟨h2,by omega⟩
      .rw[if_neg h2]at h0
       split at h0<;>omega
   .rintro(h1|⟨h1,h0⟩)
    .have:=g.pi x h1;refine .inl ⟨x.toNat,by omega,by omega,?_⟩;rw[g.md _ (by omega),show((x.toNat:Nat):Int)=x by omega];unfold cI;rw[if_pos h1]
    .have:=g.oi x h1
     by_cases ht:x∈c.table
     .refine .inl ⟨x.toNat,by omega,by omega,?_⟩;rw[g.md _ (by omega),show((x.toNat:Nat):Int)=x by omega];unfold cI;rw[if_neg (λh=>(g.dt x h).2 h1),if_pos h1,if_pos ht]
     .refine .inr ⟨x.toNat,by omega,by omega,?_⟩;rw[g.md _ (by omega),show((x.toNat:Nat):Int)=x by omega];unfold cI;rw[if_neg (λh=>(g.dt x h).2 h1),if_pos h1,if_neg ht]
 .have hl:(c.bP n).leaving=((ids c.bM).filter (λx=>decide (x∉c.table))).length:=by
   have hol:(c.bP n).bM.length=c.bM.length:=by unfold C.bP;simp
   unfold St.leaving;rw[hol,yf g _ (ak _),jO];unfold ids;rw[zQ,<-ry];apply oQ;intro x _;simp[and_comm]
  rw[hl];refine nW (iL _ _) ((gq g.oj).sublist zR) (λx=>?_);rw[eE,zY,iF]
  constructor
  .rintro⟨i,rfl,hi,h0⟩;rw[g.md i hi]at h0;unfold cI at h0
   split at h0
   .omega
   .split at h0
    .split at h0
     .omega
     .exact⟨⟨by assumption,by omega⟩,by simpa⟩
    .split at h0<;>omega
  .rintro⟨⟨ht,h0⟩,ho⟩;have ho:x∉c.table:=by simpa using ho
   have:=g.oi x ht;refine⟨x.toNat,by omega,by omega,?_⟩;rw[g.md _ (by omega),show((x.toNat:Nat):Int)=x by omega];unfold cI;rw[if_neg (λh=>(g.dt x h).2 ht),if_pos ht,if_neg ho]
end Go.Proofs.YtmonobkginiajaaGreat.Sh
namespace Go.Proofs.YtmonobkginiajaaGreat.Sh
open Go.RowKit Pk Dk Pg
attribute [local go_sem ↓] Go.wp_at_zero Go.wp_at_succ aW
structure CW(x:X)(n:Nat)(w0 w:World)(x':X)(c':C):Prop where
 a:At w x' n c'
 o:ag x.fp w0 w
 f:x'.fp=x.fp
end Go.Proofs.YtmonobkginiajaaGreat.Sh
namespace Go.Proofs.YtmonobkginiajaaGreat.Sh
open Go.RowKit Pk Dk Pg
structure Zc(c:C)(n:Nat)(a:St)(K:Nat):Prop where
 g:Good c n
 R:j6 c.d n c.ep c.slot c.bM c.parts
 e:∃k,a=(c.bP n).pad k
 bc:c.d.calls<=40*K
 be:c.ep<=K
section
variable{c:C}{n:Nat}{a:St}{K:Nat}
theorem Zc.more(z:Zc c n a K){K':Nat}(h:K<=K'):Zc c n a K':=⟨z.g,z.R,z.e,by have:=z.bc;omega,by have:=z.be;omega⟩
theorem Zc.read(z:Zc c n a K)(l:Int):c.aA n l=a.aA l:=by
 obtain⟨k,e⟩:=z.e;rw[pB z.g,e];unfold St.aA;rw[Be]
theorem Zc.ep0(z:Zc c n a K)(hK:K<=1000000000000):0<=c.ep/\c.ep<=1099511627776:=by have:=z.g.ep;omega
theorem Zc.calls(z:Zc c n a K)(hK:K<=1000000000000):c.d.calls<=3999999999999999900/\c.d.aT<=9223372036854775807:=by
 have:=z.bc;have:=z.g.arm
 constructor<;>omega
theorem Zc.tab(z:Zc c n a K)(k:Nat):c.table.getD k 0<=1024:=by
 have hm:c.m.length<=1024:=by rw[z.g.ml];unfold dW;omega
 by_cases hk:k<c.table.length
 .simp only[List.getD,aN hk,kE];have:=z.g.ti _ (ik hk);omega
 .simp only[List.getD];rw[fo (by omega)];show(0:Int)<=1024;omega
theorem Zc.new(z:Zc c n a K)(p:List UInt8):Zc (c.bh n p).1 n (a.bh p).1 (K+1)/\(c.bh n p).2=(a.bh p).2:=by
 obtain⟨k,ek⟩:=z.e;obtain⟨k',ep⟩:=pad_new (c.bP n) k p;rw[<-ek]at ep;obtain⟨g1,g2,g3,g4,g5,g6⟩:=GY z.g p;have nu:=Bd c n p;exact⟨⟨g1,by rw[nu.1,nu.2.1,nu.2.2.1,nu.2.2.2.1];exact Bc z.g z.R _,⟨k',by rw[ep,g2]⟩,by have:=z.bc;omega,by rw[nu.2.2.1];have:=z.be;omega⟩,by rw[ep];exact g3⟩
theorem Zc.write(z:Zc c n a K)(l:Int)(p:List UInt8):Zc (c.ar n l p).1 n (a.ar l p).1 (K+1)/\(c.ar n l p).2=(a.ar l p).2:=by
 obtain⟨k,ek⟩:=z.e;have ep:=Ed (c.bP n) k l p;rw[<-ek]at ep;obtain⟨g1,g2,g3,g4⟩:=AV z.g l p;have nu:=wN c n l p;exact⟨⟨g1,by rw[nu.1,nu.2.1,nu.2.2.1,nu.2.2.2.1];exact wM z.g z.R _ _,⟨k,by rw[ep,g2]⟩,by have:=z.bc;omega,by rw[nu.2.2.1];have:=z.be;omega⟩,by rw[ep];exact g3⟩
theorem Zc.drop(z:Zc c n a K)(l:Int):Zc (c.aI l).1 n (a.aI l).1 K/\(c.aI l).2=(a.aI l).2:=by
 obtain⟨k,ek⟩:=z.e;have ep:=Hb (c.bP n) k l;rw[<-ek]at ep;obtain⟨g1,g2,g3,g4,g5,g6⟩:=DY z.g l;have nu:(c.aI l).1.ep=c.ep/\(c.aI l).1.slot=c.slot:=by
  unfold C.aI
  split<;>exact⟨rfl,rfl⟩
 exact⟨⟨g1,by rw[g4,g5,g6,nu.1,nu.2];exact z.R,⟨k,by rw[ep,g2]⟩,by rw[g4];exact z.bc,by rw[nu.1];exact z.be⟩,by rw[ep];exact g3⟩
theorem Zc.bM(z:Zc c n a K):c.bM.length<=512:=by have:=z.R.ro.2.2.2.1;omega
end
section
variable{w:World}{x:X}{c:C}{n:Nat}{a:St}{K:Nat}
theorem Bf(h:At w x n c)(z:Zc c n a K)(hK:K<=1000000000000)(l:Int)(s:ByteArray)(hs:s.size<=9223372036854775807):
  Calls Tryz.prog 147 #[sp x.b,.int .i64 l,.string s] w λe w'=>e=.returned (.int .i64 (a.ar l s.data.toList).2)/\∃c',At w' x n c'/\Zc c' n (a.ar l s.data.toList).1 (K+1)/\ag x.fp w w':=by
 have zw:=z.write l s.data.toList;rw[<-zw.2];exact(AS h l s hs (z.ep0 hK) (by have:=(z.calls hK).1;omega) (z.calls hK).2 z.tab).mono λe w' ⟨r,A,o⟩=>⟨r,_,A,zw.1,o⟩
theorem Ef(h:At w x n c)(z:Zc c n a K)(l:Int):
  Calls Tryz.prog 228 #[sp x.b,.int .i64 l] w λe w'=>e=.returned (.tuple #[.string ⟨(a.aA l).1.toArray⟩,.int .i64 (a.aA l).2])/\Below w.heap.size w w':=by
 rw[<-z.read l];exact Sh.kh h l
end
structure QS where
 a:St
 l:List Fr
 hand:Nat
def QS.ps(q:QS)(c:C):PS:=⟨c,q.l,q.hand⟩
def QS.turn(s:QS):QS:={s with hand:=(s.hand+1) % s.l.length}
def QS.gC:Nat->QS->QS×Int
 |0,s=>(s,-1)
 |m+1,s=>
  if 0<(ia s.l s.hand).held then QS.gC m s.turn
  else if(ia s.l s.hand).used=true then QS.gC m {s.turn with l:=s.l.set s.hand {ia s.l s.hand with used:=false}}
  else(s.turn,(s.hand:Int))
def QS.ay(s:QS):QS×Int:=
 if 0<=xW (λf=>decide (f.an<0)) s.l then(s,xW (λf=>decide (f.an<0)) s.l)else s.gC (2*s.l.length+1)
def QS.bG(s:QS)(k:Nat):QS×Int:=
 if(ia s.l k).bT=true then
  if(s.a.ar (ia s.l k).an (ia s.l k).eC.data.toList).2=0 then({s with a:=(s.a.ar (ia s.l k).an (ia s.l k).eC.data.toList).1,l:=s.l.set k {ia s.l k with bT:=false}},0)
  else({s with a:=(s.a.ar (ia s.l k).an (ia s.l k).eC.data.toList).1},(s.a.ar (ia s.l k).an (ia s.l k).eC.data.toList).2)
 else(s,0)
def QS.aK(s:QS)(p:Int):QS×ByteArray×Int:=
 if 0<=findF s.l p then
  ({s with l:=s.l.set (findF s.l p).toNat {ia s.l (findF s.l p).toNat with held:=(ia s.l (findF s.l p).toNat).held+1,used:=true}},(ia s.l (findF s.l p).toNat).eC,0)
 else if(s.a.aA p).2≠0 then(s,⟨#[]⟩,(s.a.aA p).2)
 else if s.ay.2<0 then(s.ay.1,⟨#[]⟩,12)
 else if(s.ay.1.bG s.ay.2.toNat).2≠0 then((s.ay.1.bG s.ay.2.toNat).1,⟨#[]⟩,(s.ay.1.bG s.ay.2.toNat).2)
 else({(s.ay.1.bG s.ay.2.toNat).1 with l:=(s.ay.1.bG s.ay.2.toNat).1.l.set s.ay.2.toNat ⟨p,⟨(s.a.aA p).1.toArray⟩,1,false,true⟩},⟨(s.a.aA p).1.toArray⟩,0)
def QS.fe(s:QS)(p:Int):Option (Nat×Fr):=
 if findF s.l p<0 then none else match s.l[(findF s.l p).toNat]? with
  |none=>none
  |some f=>if f.held=0 then none else some ((findF s.l p).toNat,f)
def QS.fm(s:QS)(p:Int):QS×Int:=match s.fe p with
 |none=>(s,16)
 |some (k,f)=>({s with l:=s.l.set k {f with held:=f.held-1}},0)
def mH(s:ByteArray):ByteArray:=⟨(dh s.data.toList 232).toArray⟩
def QS.dX(s:QS)(p:Int)(b:ByteArray):QS×Int:=
 if 232<b.size then(s,4)else match s.fe p with
 |none=>(s,16)
 |some (k,f)=>({s with l:=s.l.set k {f with eC:=mH b,bT:=true,used:=true}},0)
def QS.cC(s:QS)(p:Int):QS×ByteArray×Int:=
 if(s.aK p).2.2≠0 then((s.aK p).1,⟨#[]⟩,(s.aK p).2.2)else(((s.aK p).1.fm p).1,(s.aK p).2.1,0)
def QS.ct(s:QS)(p:Int)(b:ByteArray):QS×Int:=
 if 232<b.size then(s,4)else if(s.aK p).2.2≠0 then((s.aK p).1,(s.aK p).2.2)else((((s.aK p).1.dX p b).1.fm p).1,0)
def QS.aI(s:QS)(p:Int):QS×Int:=
 if 0<=findF s.l p/\0<(ia s.l (findF s.l p).toNat).held then(s,16)
 else if(s.a.aI p).2≠0 then({s with a:=(s.a.aI p).1},(s.a.aI p).2)
 else if 0<=findF s.l p then({s with a:=(s.a.aI p).1,l:=s.l.set (findF s.l p).toNat Fr.nil},0)
 else({s with a:=(s.a.aI p).1},0)
def QS.bh(s:QS)(p:List UInt8):QS×Int×Int:=({s with a:=(s.a.bh p).1},(s.a.bh p).2)
theorem wQ(c:C):∀(m:Nat) (q:QS),(q.ps c).gC m=((q.gC m).1.ps c,(q.gC m).2)
 |0,_=>rfl
 |m+1,q=>by
  unfold PS.gC QS.gC;show(if 0<(ia q.l q.hand).held then _ else _)=_
  split
  .exact wQ c m q.turn
  .show(if(ia q.l q.hand).used=true then _ else _)=_
   split
   .exact wQ c m {q.turn with l:=q.l.set q.hand {ia q.l q.hand with used:=false}}
   .rfl
theorem pD(c:C)(q:QS):(q.ps c).ay=(q.ay.1.ps c,q.ay.2):=by
 unfold PS.ay QS.ay;show(if 0<=xW (λf=>decide (f.an<0)) q.l then _ else _)=_
 split
 .rfl
 .exact wQ c _ q
theorem wR(c:C)(q:QS)(p:Int):(q.ps c).fe p=q.fe p:=rfl
theorem let_ps(c:C)(q:QS)(p:Int):(q.ps c).fm p=((q.fm p).1.ps c,(q.fm p).2):=by
 unfold PS.fm QS.fm;rw[wR]
 cases q.fe p with
 |none=>rfl
 |some kf=>rfl
theorem Bg:∀(m:Nat) (q:QS),(q.gC m).1.a=q.a/\(q.gC m).1.l.length=q.l.length
 |0,_=>⟨rfl,rfl⟩
 |m+1,q=>by
  unfold QS.gC
  split
  .exact Bg m q.turn
  .split
   .have h:=Bg m {q.turn with l:=q.l.set q.hand {ia q.l q.hand with used:=false}};exact⟨h.1,by rw[h.2,bH]⟩
   .exact⟨rfl,rfl⟩
theorem fS(q:QS):q.ay.1.a=q.a/\q.ay.1.l.length=q.l.length:=by
 unfold QS.ay
 split
 .exact⟨rfl,rfl⟩
 .exact Bg _ q
end Go.Proofs.YtmonobkginiajaaGreat.Sh
namespace Go.Proofs.YtmonobkginiajaaGreat.Sh
open Go.RowKit Pk Dk Pg
attribute [local go_sem ↓] Go.wp_at_zero Go.wp_at_succ
variable{w:World}{y:Y}{n K K':Nat}{q:QS}{l:List Fr}{f:Fr}
def ZP(w:World)(y:Y)(n:Nat)(q:QS)(K:Nat):Prop:= ∃c,fG w y n (q.ps c)/\Zc c n q.a K
theorem ZP.below{w':World}(h:ZP w y n q K)(hb:Below w.heap.size w w'):ZP w' y n q K:=by
 obtain⟨c,A,z⟩:=h;exact⟨c,A.below hb,z⟩
theorem ZP.more(h:ZP w y n q K)(hk:K<=K'):ZP w y n q K':=by
 obtain⟨c,A,z⟩:=h;exact⟨c,A,z.more hk⟩
theorem kS{k:Nat}(h:l[k]?=some f):ia l k=f:=by unfold ia;rw[h];rfl
theorem Bh{c:C}(h:fG w y n (q.ps c))(z:Zc c n q.a K)(hK:K<=1000000000000)(k:Nat)(hf:q.l[k]?=some f)(hd:f.bT=true)(hs:f.eC.size<=1000):
  Calls Tryz.prog 99 #[pp y.pb,.int .i64 (k:Nat)] w λe w'=>e=.returned (.int .i64 (q.bG k).2)/\ZP w' y n (q.bG k).1 (K+1)/\ag y.fp w w':=by
 have hk:k<q.l.length:=(aR.1 hf).1;have p1:w.cell? ⟨y.pb,1,none⟩=some (.slice (some ⟨y.fg,0,none⟩) q.l.length y.cp):=h.p1;have l2:q.l.length<=32:=h.l2;have FA:(k:Int)<(q.l.length:Int):=by omega
 obtain⟨c0,c1,c2,c3,c4⟩:=h.wF k f hf;rw[hd]at c3;have KW:=xh (λ(W:World) (A:fG W y n (q.ps c))=>Bf A.hs z hK f.an f.eC (by omega));have HP:=xh (λ(w1 w2:World) (c':C) (A1:fG w1 y n (q.ps c)) (A:At w2 y.x n c') (o:ag y.x.fp w1 w2)=>(show fG w2 y n (q.ps c')/\ag y.fp w1 w2 from A1.same A o));have AD:=xh h.drew;have OD:=xh ((ag.refl y.fp w).drew);have HF:=xh hf;obtain⟨R,hR⟩:∃R,q.a.ar f.an f.eC.data.toList=R:=⟨_,rfl⟩
 have hB:q.bG k=if R.2=0 then({q with a:=R.1,l:=q.l.set k {f with bT:=false}},0)else({q with a:=R.1},R.2):=by
  unfold QS.bG;rw[kS hf,if_pos hd,hR]
 rw[hB];rw[hR]at KW;obtain⟨Ra,Re⟩:=R;dsimp only at KW ⊢;obtain⟨Q2,hQ⟩:∃Q2,(if Re=0 then(({q with a:=Ra,l:=q.l.set k {f with bT:=false}}:QS),(0:Int))else({q with a:=Ra},Re))=Q2:=⟨_,rfl⟩;rw[hQ];have HQ:=xh hQ;clear hQ;have S0:=xh (show(λW'=>W'.cell? ⟨y.pb,0,none⟩=some (.pointer (some ⟨y.x.b,0,none⟩))/\W'.cell? ⟨y.fg,k*5,none⟩=some (.int .i64 f.an)/\W'.cell? ⟨y.fg,k*5+1,none⟩=some (.string f.eC)) w.drew from⟨AD.o.p0,(AD.o.wF k f hf).1,(AD.o.wF k f hf).2.1⟩)
 clear h z hf hd hB hR c0 c1 c2 c4;unfold pp sp at *;go_enter Tryz.func99,Tryz.ntmps99;go_wp2_with fail;refine wp_region_held_drew (S:=λW'=>W'.cell? ⟨y.pb,0,none⟩=some (.pointer (some ⟨y.x.b,0,none⟩))/\W'.cell? ⟨y.fg,k*5,none⟩=some (.int .i64 f.an)/\W'.cell? ⟨y.fg,k*5+1,none⟩=some (.string f.eC)) (by kernel_rfl) (S0.o) (λaw=>?_);refine dq [(0,18),(1,19),(2,20),(3,21),(4,22),(5,23),(6,24),(7,25),(8,26),(9,27),(10,28),(11,29)] ?_
 iterate 12 refine za ?_
 refine zd 12 30 λK hK=>?_;go_simp
 go_at_call 147
 refine(KW.o _ AD.o).mono ?_;rintro e w5 ⟨rfl,c5,a5,z5,o5⟩;have P5:=HP.o w.drew w5 c5 AD.o a5 o5;have A5:=xh P5.1;have O5:=xh (OD.o.trans P5.2);have Z5:=xh z5;clear P5 a5 o5 z5;obtain⟨d0,d1,d2,d3,d4⟩:=A5.o.wF k f HF.o;have q0:=A5.o.p0;go_simp;refine zh hK (⟨q0,d0,d1⟩) (λaw=>?_);refine dq [(13,6)] ?_
 iterate 1 refine za ?_
 refine wpAnyH_done (by kernel_rfl) ?_ _;have hfs:=HF.o
 by_cases he:Re=0
 .subst he;have HR:=xh (HQ.o.symm.trans (if_pos rfl));clear HQ;obtain⟨z0,B0,qq⟩:=A5.o.dX k 3 (by omega) {f with bT:=false} (.bool false) HF.o rfl;have AZ:=xh B0;have OZ:=xh (O5.o.trans qq);clear B0 qq;go_wp2_with fail;go_ret;exact⟨by rw[HR.o];rfl,by rw[HR.o];exact⟨c5,AZ.o,Z5.o⟩,OZ.o⟩
 .have HR:=xh (HQ.o.symm.trans (if_neg he));clear HQ;have hq:(Re==0)=false:=by rw[beq_eq_false_iff_ne];exact he
  have lp:(Re != 0)=true:=by rw[bne_iff_ne];exact he
  go_wp2_with fail;go_ret;exact⟨by rw[HR.o];rfl,by rw[HR.o];exact⟨c5,A5.o,Z5.o⟩,O5.o⟩
theorem Hc(h:ZP w y n q K)(hK:K<=1000000000000)(k:Nat)(hk:k<q.l.length)(hs:∀f∈q.l,f.eC.size<=1000):
  Calls Tryz.prog 99 #[pp y.pb,.int .i64 (k:Nat)] w λe w'=>e=.returned (.int .i64 (q.bG k).2)/\ZP w' y n (q.bG k).1 (K+1)/\ag y.fp w w':=by
 obtain⟨c,A,z⟩:=h;have hf:=jS hk
 by_cases hd:(ia q.l k).bT=true
 .exact Bh A z hK k hf hd (hs _ (az hf))
 .unfold QS.bG;rw[if_neg hd];exact(AL A k hf (by simpa using hd)).mono λe w' ⟨r,b⟩=>⟨r,⟨c,A.below b,z.more (by omega)⟩,.aj b⟩
theorem hold_go(h:ZP w y n q K)(hK:K<=1000000000000)(p:Int)(hk:findF q.l p= -1)(hr:(q.a.aA p).2=0)(k:Nat)(hv:q.ay.2=(k:Nat))(kQ:k<q.l.length)(hs:∀f∈q.ay.1.l,f.eC.size<=1000):
  Calls Tryz.prog 213 #[pp y.pb,.int .i64 p] w λe w'=>e=.returned (.tuple #[.string (q.aK p).2.1,.int .i64 (q.aK p).2.2])/\ZP w' y n (q.aK p).1 (K+1)/\ag y.fp w w':=by
 obtain⟨c,A,z⟩:=h;have KF:=xh (fC A p);rw[show(q.ps c).l=q.l from rfl,hk]at KF;have HB:=xh (λw' (hb:Below w.heap.size w w')=>A.below hb);have KR:=xh (λw' (hb:Below w.heap.size w w')=>Ef (A.below hb).hs z p);have KV:=xh (λw' (hb:Below w.heap.size w w')=>r7 (A.below hb));rw[pD]at KV;rw[hr]at KR;rw[hv]at KV;have hvl:=(fS q).2;have hva:=(fS q).1
 have hH:q.aK p=if(q.ay.1.bG k).2≠0 then((q.ay.1.bG k).1,⟨#[]⟩,(q.ay.1.bG k).2)else({(q.ay.1.bG k).1 with l:=(q.ay.1.bG k).1.l.set k ⟨p,⟨(q.a.aA p).1.toArray⟩,1,false,true⟩},⟨(q.a.aA p).1.toArray⟩,0):=by
  unfold QS.aK;rw[hk,if_neg (by omega),if_neg (by rw[hr];simp),hv,if_neg (by omega),show((k:Nat):Int).toNat=k by omega]
 rw[hH];clear hH;generalize (q.a.aA p).1=R at *;generalize q.ay.1=V at *;have KB:=xh (λw' (h:ZP w' y n V K)=>Hc h hK k (by omega) hs);have Bi:k<(V.bG k).1.l.length:=by
  unfold QS.bG
  split
  .split
   .show k<(V.l.set k _).length;rw[bH];omega
   .show k<V.l.length;omega
  .show k<V.l.length;omega
 generalize V.bG k=VB at *;obtain⟨B,be⟩:=VB;dsimp only at KB Bi ⊢;obtain⟨Q2,hQ⟩:∃Q2,(if be≠0 then(B,(⟨#[]⟩:ByteArray),be)else(({B with l:=B.l.set k ⟨p,⟨R.toArray⟩,1,false,true⟩}:QS),⟨R.toArray⟩,0))=Q2:=⟨_,rfl⟩;rw[hQ];have HQ:=xh hQ;clear hQ;have HZ:=xh (show ∀W,fG W y n (V.ps c)->ZP W y n V K from λW h=>⟨c,h,by rw[hva];exact z⟩);have hk0:¬(k:Int)<0:=by omega
 clear A z hk hv hvl hva hs hr;unfold pp sp at *;go_enter Tryz.func213,Tryz.ntmps213;go_wp2_with fail;refine KF.o.mono ?_;rintro e w1 ⟨rfl,aL⟩;have O1:=xh aL;have p0:=(HB.o w1 aL).p0;clear aL;go_wp2_with fail;refine(KR.o w1 O1.o).mono ?_;rintro e w2 ⟨rfl,bK⟩;have O2:=xh (ao O1.o bK);clear bK p0;go_wp2_with fail;refine(KV.o w2 O2.o).mono ?_;rintro e w3 ⟨rfl,A3,o3⟩;have Z3:=xh (HZ.o w3 A3);have o3:=xh ((ag.aj (S:=y.fp) O2.o).trans o3)
 clear A3;go_wp2_with fail;refine(KB.o w3 Z3.o).mono ?_;rintro e w4 ⟨rfl,z4,o4⟩;obtain⟨c4,A4,Z4⟩:=z4;have A4:=xh A4;have Z4:=xh Z4;have o4:=xh (o3.o.trans o4)
 by_cases he:be=0
 .subst he;have HR:=xh (HQ.o.symm.trans (if_neg (by simp)));clear HQ;have p1:w4.cell? ⟨y.pb,1,none⟩=some (.slice (some ⟨y.fg,0,none⟩) B.l.length y.cp):=A4.o.p1;have l2:B.l.length<=32:=A4.o.l2;have FA:(k:Int)<(B.l.length:Int):=by omega
  obtain⟨f,HF⟩:∃f,Hid (B.l[k]?=some f):=⟨_,xh (aN Bi)⟩;obtain⟨c0,c1,c2,c3,c4'⟩:=A4.o.wF k f HF.o;obtain⟨z0,B0,q0⟩:=A4.o.dX k 0 (by omega) {f with an:=p} (.int .i64 p) HF.o rfl;rw[iE]at z0 B0 q0;have g0:(B.l.set k {f with an:=p})[k]?=some {f with an:=p}:=by rw[cD Bi]
  obtain⟨z1,B1,q1⟩:=B0.dX k 1 (by omega) {f with an:=p,eC:=⟨R.toArray⟩} (.string ⟨R.toArray⟩) g0 rfl;simp only[gI]at B1;have g1:(B.l.set k {f with an:=p,eC:=⟨R.toArray⟩})[k]?=some {f with an:=p,eC:=⟨R.toArray⟩}:=by rw[cD Bi]
  obtain⟨z2,B2,q2⟩:=B1.dX k 2 (by omega) {f with an:=p,eC:=⟨R.toArray⟩,held:=1} (.int .i64 1) g1 rfl;simp only[gI]at B2;have g2:(B.l.set k {f with an:=p,eC:=⟨R.toArray⟩,held:=1})[k]?=some {f with an:=p,eC:=⟨R.toArray⟩,held:=1}:=by rw[cD Bi]
  obtain⟨z3,B3,q3⟩:=B2.dX k 3 (by omega) {f with an:=p,eC:=⟨R.toArray⟩,held:=1,bT:=false} (.bool false) g2 rfl;simp only[gI]at B3;have g3:(B.l.set k {f with an:=p,eC:=⟨R.toArray⟩,held:=1,bT:=false})[k]?=some {f with an:=p,eC:=⟨R.toArray⟩,held:=1,bT:=false}:=by rw[cD Bi]
  obtain⟨z4,B4,q4⟩:=B3.dX k 4 (by omega) ⟨p,⟨R.toArray⟩,1,false,true⟩ (.bool true) g3 rfl;simp only[gI]at B4;have AZ:=xh B4;have OZ:=xh (o4.o.trans ((((q0.trans q1).trans q2).trans q3).trans q4));clear B0 B1 B2 B3 B4 q0 q1 q2 q3 q4 g0 g1 g2 g3 Bi;go_wp2_with fail;go_ret2;exact⟨by rw[HR.o];rfl,by rw[HR.o];exact⟨c4,AZ.o,Z4.o⟩,OZ.o⟩
 .have HR:=xh (HQ.o.symm.trans (if_pos he));clear HQ;have hq:(be==0)=false:=by rw[beq_eq_false_iff_ne];exact he
  have lp:(be != 0)=true:=by rw[bne_iff_ne];exact he
  clear Bi;go_wp2_with fail;go_ret2;exact⟨by rw[HR.o];rfl,by rw[HR.o];exact⟨c4,A4.o,Z4.o⟩,o4.o⟩
def Fb(l:List Fr)(K:Nat):Prop:= ∀f∈l,0<=f.held/\f.held<=K/\f.eC.size<=1000
theorem Fb.set(h:Fb l K)(k:Nat)(hf:0<=f.held/\f.held<=K/\f.eC.size<=1000):Fb (l.set k f) K:=by
 intro g hg
 rcases qP hg with hg|rfl
 .exact h g hg
 .exact hf
theorem Fb.more(h:Fb l K)(hk:K<=K'):Fb l K':=λf hf=>by have:=h f hf;omega
theorem Fb.nil :0<=Fr.nil.held/\Fr.nil.held<=(K:Nat)/\Fr.nil.eC.size<=1000:=⟨gE _,by show(0:Int)<=_;omega,by decide⟩
theorem sr :∀(m:Nat) (s:QS),s.hand<s.l.length->Fb s.l K->Fb (s.gC m).1.l K/\(s.gC m).1.hand<(s.gC m).1.l.length/\((s.gC m).2= -1\/∃k:Nat,(s.gC m).2=k/\k<s.l.length)
 |0,_,hl,hc=>⟨hc,hl,.inl rfl⟩
 |m+1,s,hl,hc=>by
  unfold QS.gC;have hf:=jS hl;have hm:=hc _ (az hf);have ht:(s.hand+1) % s.l.length<s.l.length:=lX _ (by omega)
  split
  .exact sr m s.turn ht hc
  .split
   .have:=sr m {s.turn with l:=s.l.set s.hand {ia s.l s.hand with used:=false}} (by rw[bH];exact ht) (hc.set _ hm);rw[bH]at this;exact this
   .exact⟨hc,ht,.inr ⟨s.hand,rfl,hl⟩⟩
theorem m4(s:QS)(hl:s.hand<s.l.length)(hc:Fb s.l K):Fb s.ay.1.l K/\s.ay.1.hand<s.ay.1.l.length/\(s.ay.2= -1\/∃k:Nat,s.ay.2=k/\k<s.l.length):=by
 unfold QS.ay
 split
 .refine⟨hc,hl,?_⟩
  rcases wG (λf=>decide (f.an<0)) s.l with e|⟨k,f,e,hf,_⟩
  .exact .inl e
  .exact .inr ⟨k,e,(aR.1 hf).1⟩
 .exact sr _ s hl hc
theorem ma(h:ZP w y n q K)(hb:Fb q.l K)(hK:K<=1000000000000)(p:Int):
  Calls Tryz.prog 213 #[pp y.pb,.int .i64 p] w λe w'=>e=.returned (.tuple #[.string (q.aK p).2.1,.int .i64 (q.aK p).2.2])/\ZP w' y n (q.aK p).1 (K+1)/\ag y.fp w w':=by
 have h':=h;obtain⟨c,A,z⟩:=h
 rcases eR q.l p with e|⟨k,f,e,hf,_,_⟩
 .by_cases hr:(q.a.aA p).2=0
  .obtain⟨v1,v2,v3⟩:=m4 q A.lh hb
   rcases v3 with v3|⟨k,v3,hk⟩
   .unfold QS.aK;rw[e,if_neg (by omega),if_neg (by rw[hr];simp),if_pos (by omega)];refine(DW A p e (by rw[show(q.ps c).c=c from rfl,z.read];exact hr) (by rw[pD];show q.ay.2<0;omega)).mono λe w' ⟨r,A',o⟩=>⟨r,?_,o⟩;rw[pD]at A';exact⟨c,A',by rw[(fS q).1];exact z.more (by omega)⟩
   .exact hold_go h' hK p e hr k v3 hk (λf hf=>(v1 f hf).2.2)
  .unfold QS.aK;rw[e,if_neg (by omega),if_pos hr];have hb:=GO A p e (by rw[show(q.ps c).c=c from rfl,z.read];exact hr);rw[show(q.ps c).c=c from rfl,z.read]at hb;exact hb.mono λe w' ⟨h1,h2⟩=>⟨h1,⟨c,A.below h2,z.more (by omega)⟩,.aj h2⟩
 .unfold QS.aK;rw[e,if_pos (by omega),show((k:Nat):Int).toNat=k from by omega,kS hf];exact(GN A p k e hf (by have:=hb f (az hf);omega)).mono λe w' ⟨r,A',o⟩=>⟨r,⟨c,A',z.more (by omega)⟩,o⟩
variable{w:World}{y:Y}{n K:Nat}{s:PS}{q:QS}
theorem cM:(Tryz.prog.info? 5).map (λi=>(i.zero,i.size,i.bytes))=some (some (.int .u8 0),1,1):=by kernel_rfl
theorem Hd(n:Nat)(h1:n<=140737488355328)(w:World):
  (Instr.makeSlice 150 (.int .i64 n) (.int .i64 n)).run Tryz.prog w=.ok (.slice (some ⟨w.heap.size,0,none⟩) n n) (w.alloc (.cells (cf (List.replicate n 0)).toArray 5)):=by
 obtain⟨i0,hi,jb,gW,iS⟩:=info_parts cM;have h:=run_make (P:=Tryz.prog) w 150 5 i0 (.int .u8 0) Tryz.underlying150 hi jb .i64 .i64 n n (by omega) (gE _) (by rw[iS];omega) (by omega);rw[h,gW];have e:madeCells (Value.int .u8 0).cells (((n:Int).toNat)*1)=(cf (List.replicate n 0)).toArray:=by
  show madeCells #[Value.int .u8 0] (n*1)=_;rw[qX,eU];simp[cf,bv]
 rw[e];rfl
theorem full_eq(b:ByteArray):b++(⟨(List.replicate (232-b.size) (0:UInt8)).toArray⟩:ByteArray)=mH b:=by
 apply nA;unfold mH dh;rw[ByteArray.data_append];simp
theorem ss{b:ByteArray}(h:b.size<=232):(mH b).size=232:=by
 have hl:b.data.toList.length=b.size:=by simp
 show(dh b.data.toList 232).toArray.size=232;unfold dh;simp;omega
theorem set_in(h:fG w y n s)(p:Int)(b:ByteArray)(hb:b.size<=232){k:Nat}{f:Fr}(hh:s.fe p=some (k,f)):
  Calls Tryz.prog 219 #[pp y.pb,.int .i64 p,.string b] w λe w'=>e=.returned (.int .i64 0)/\fG w' y n {s with l:=s.l.set k {f with eC:=mH b,bT:=true,used:=true}}/\ag y.fp w w':=by
 have KH:=xh (r5 h p);rw[hh]at KH;obtain⟨hf,_,_⟩:=r6 hh;have kQ:k<s.l.length:=(aR.1 hf).1;have l2:=h.l2;have HF:=xh hf;have HA:=xh (λW (hb:Below w.heap.size w W)=>h.below hb);have hbI:¬(232:Int)<(b.size:Int):=by omega
 obtain⟨m,hm⟩:∃m,232-b.size=m:=⟨_,rfl⟩;have em:IntKind.i64.wrap (232-(b.size:Int))=(m:Int):=by rw[show(232:Int)-(b.size:Int)=(m:Int) by omega];exact IntWalk.i64_in _ (by omega)
 have hmk:=λW=>Hd m (by omega) W;have HCV:=xh (λ(W:World)=>(bs (P:=Tryz.prog) (W.alloc (.cells (cf (List.replicate m 0)).toArray 5)) 150 9 5 Tryz.underlying150 Tryz.underlying5 Tryz.underlying9 ⟨W.heap.size,0,none⟩ m m (List.replicate m 0) (by simp) (aZ (aD.new W 5 (cf (List.replicate m 0)).toArray) 0 _ (by intro j u hu;rw[bt];simpa using hu))));obtain⟨FB,hFB⟩:∃FB,mH b=FB:=⟨_,rfl⟩;have HCAT:=xh (full_eq b);rw[hFB]at HCAT;rw[hFB]
 rw[hm]at HCAT;have hm0:(0:Int)<=(m:Int):=by omega
 have mS:¬9223372036854775807<b.size+(⟨(List.replicate m (0:UInt8)).toArray⟩:ByteArray).size:=by
  have:(⟨(List.replicate m (0:UInt8)).toArray⟩:ByteArray).size=m:=by show(List.replicate m (0:UInt8)).toArray.size=m;simp
  omega
 have hm2:m<=232:=by omega
 generalize (⟨(List.replicate m (0:UInt8)).toArray⟩:ByteArray)=ZZ at *;generalize (cf (List.replicate m (0:UInt8))).toArray=ZC at *;clear h hh hf hm hb hFB;unfold pp nV at *;go_enter Tryz.func219,Tryz.ntmps219;go_wp2_with fail;refine KH.o.mono ?_;rintro e w1 ⟨rfl,aL⟩;have O1:=xh aL;have A1:=xh (HA.o _ (ae aL (.cells ZC 5)));have O1':=xh (ae aL (.cells ZC 5));clear aL;go_wp2_with fail;rw[HCV.o w1];clear hmk;generalize (w1.alloc (.cells ZC 5))=w2 at *
 have hcat:=HCAT.o;obtain⟨c0,c1,c2,c3,c4⟩:=A1.o.wF k f HF.o;obtain⟨z1,B1,q1⟩:=A1.o.dX k 1 (by omega) {f with eC:=FB} (.string (FB)) HF.o rfl;have g1:(s.l.set k {f with eC:=FB})[k]?=some {f with eC:=FB}:=by rw[cD kQ]
 obtain⟨z2,B2,q2⟩:=B1.dX k 3 (by omega) {f with eC:=FB,bT:=true} (.bool true) g1 rfl;simp only[gI]at B2;have g2:(s.l.set k {f with eC:=FB,bT:=true})[k]?=some {f with eC:=FB,bT:=true}:=by rw[cD kQ]
 obtain⟨z3,B3,q3⟩:=B2.dX k 4 (by omega) {f with eC:=FB,bT:=true,used:=true} (.bool true) g2 rfl;simp only[gI]at B3;have AZ:=xh B3;have OZ:=xh ((ag.aj (S:=y.fp) O1'.o).trans ((q1.trans q2).trans q3));clear B1 B2 B3 q1 q2 q3 g1 g2 kQ;go_wp2_with fail;go_ret;exact⟨by first|rfl|simp,AZ.o,OZ.o⟩
theorem set_out(h:fG w y n s)(p:Int)(b:ByteArray)(hb:b.size<=232)(hh:s.fe p=none):
  Calls Tryz.prog 219 #[pp y.pb,.int .i64 p,.string b] w λe w'=>e=.returned (.int .i64 16)/\Below w.heap.size w w':=by
 have KH:=xh (r5 h p);rw[hh]at KH;have hbI:¬(232:Int)<(b.size:Int):=by omega
 clear h hh hb;unfold pp nV at *;go_enter Tryz.func219,Tryz.ntmps219;go_wp2_with fail;refine KH.o.mono ?_;rintro e w1 ⟨rfl,aL⟩;have O1:=xh aL;clear aL;go_wp2_with fail;go_ret;exact⟨by first|rfl|simp,O1.o⟩
theorem set_big(w:World)(pb:Nat)(p:Int)(b:ByteArray)(hb:232<b.size):
  Calls Tryz.prog 219 #[pp pb,.int .i64 p,.string b] w λe w'=>e=.returned (.int .i64 4)/\Below w.heap.size w w':=by
 have hbI:(232:Int)<(b.size:Int):=by omega
 have O1:=xh (Below.refl w.heap.size w);clear hb;unfold pp;go_enter Tryz.func219,Tryz.ntmps219;go_wp2_with fail;go_ret;exact⟨by first|rfl|simp,O1.o⟩
theorem He(h:ZP w y n q K)(p:Int)(b:ByteArray):
  Calls Tryz.prog 219 #[pp y.pb,.int .i64 p,.string b] w λe w'=>e=.returned (.int .i64 (q.dX p b).2)/\ZP w' y n (q.dX p b).1 K/\ag y.fp w w':=by
 obtain⟨c,A,z⟩:=h;unfold QS.dX
 by_cases hb:232<b.size
 .rw[if_pos hb];exact(set_big w y.pb p b hb).mono λe w' ⟨r,o⟩=>⟨r,⟨c,A.below o,z⟩,.aj o⟩
 .rw[if_neg hb]
  cases hh:q.fe p with
  |none=>exact(set_out A p b (by omega) (by rw[wR,hh])).mono λe w' ⟨r,o⟩=>⟨r,⟨c,A.below o,z⟩,.aj o⟩
  |some kf=>exact(set_in A p b (by omega) (k:=kf.1) (f:=kf.2) (by rw[wR,hh])).mono λe w' ⟨r,A',o⟩=>⟨r,⟨c,A',z⟩,o⟩
theorem yg(h:ZP w y n q K)(hb:Fb q.l K)(hK:K<=1000000000000)(p:Int):
  Calls Tryz.prog 214 #[pp y.pb,.int .i64 p] w λe w'=>e=.returned (.int .i64 (q.fm p).2)/\ZP w' y n (q.fm p).1 K/\ag y.fp w w':=by
 obtain⟨c,A,z⟩:=h;have hl:=let_any A p (λf hf=>by have:=hb f hf;omega);rw[let_ps]at hl;refine hl.mono λe w' ⟨r,A',o⟩=>⟨r,⟨c,A',?_⟩,o⟩;have:(q.fm p).1.a=q.a:=by
  unfold QS.fm
  cases q.fe p with
  |none=>rfl
  |some kf=>rfl
 rw[this];exact z
variable{q:QS}{k K n g g3 g4 g5:Nat}{w:World}{y:Y}
theorem Eg(b:ByteArray)(q:Nat)(w:World)(s0:ByteArray)(B:aD w q 9 #[.string s0]):
  Calls Tryz.prog 168 #[.string b,.pointer (some ⟨q,0,none⟩)] w λe w'=>e=.returned (.int .i64 0)/\aD w' q 9 #[.string b]/\ag [q] w w':=by
 have q0:=B.ab (i:=0) rfl;have q1:=B.frozen 0 (by simp);have B1:=xh (show aD (w.setCell ⟨q,0,none⟩ (.string b)) q 9 #[.string b]from B.bu 0 (.string b));have O1:=xh ((ag.refl [q] w).setCell (p:=⟨q,0,none⟩) (by simp) (.string b));clear B;go_enter Tryz.func168,Tryz.ntmps168;go_wp2_with fail;go_ret;exact⟨by first|rfl|simp,B1.o,O1.o⟩
theorem Bj(h:Fb q.l K)(hk:k<q.l.length):Fb (q.bG k).1.l K/\(q.bG k).1.l.length=q.l.length:=by
 have hm:=h _ (az (jS hk));unfold QS.bG
 split
 .split
  .exact⟨h.set _ hm,bH⟩
  .exact⟨h,rfl⟩
 .exact⟨h,rfl⟩
def Full(a:St):Prop:= ∀l,(a.aA l).1.length<=232
theorem Hf{l:List UInt8}(h:l.length<=232):(⟨l.toArray⟩:ByteArray).size<=1000:=by
 show l.toArray.size<=1000;simp;omega
theorem Hg(h:Fb q.l K)(hl:q.hand<q.l.length)(hf:Full q.a)(p:Int):Fb (q.aK p).1.l (K+1)/\(q.aK p).1.l.length=q.l.length:=by
 unfold QS.aK
 rcases eR q.l p with e|⟨k,f,e,hk,_,_⟩
 .rw[e,if_neg (by omega)]
  split
  .exact⟨h.more (by omega),rfl⟩
  .obtain⟨v1,v2,v3⟩:=m4 q hl h;have va:=fS q
   split
   .exact⟨v1.more (by omega),va.2⟩
   .rcases v3 with v3|⟨k,v3,hk⟩
    .omega
    .rw[v3,show((k:Nat):Int).toNat=k by omega];obtain⟨b1,b2⟩:=Bj (k:=k) v1 (by omega)
     split
     .exact⟨b1.more (by omega),by rw[b2,va.2]⟩
     .exact⟨(b1.more (by omega)).set _ ⟨by show(0:Int)<=1;omega,by show(1:Int)<=_;omega,Hf (hf p)⟩,by show(List.set _ _ _).length=_;rw[bH,b2,va.2]⟩
 .rw[e,if_pos (by omega),show((k:Nat):Int).toNat=k by omega,kS hk];have hm:=h _ (az hk);exact⟨(h.more (by omega)).set _ ⟨by show 0<=f.held+1;omega,by show f.held+1<=_;omega,hm.2.2⟩,bH⟩
theorem uJ{p:Int}{f:Fr}(h:q.fe p=some (k,f)):q.l[k]?=some f/\f.held≠0/\findF q.l p=k:=by
 unfold QS.fe at h
 rcases eR q.l p with e|⟨j,g,e,hg,_,_⟩
 .rw[e,if_pos (by omega)]at h;cases h
 .rw[e,if_neg (by omega),show((j:Nat):Int).toNat=j by omega,hg]at h;dsimp only at h
  split at h
  .cases h
  .rename_i eG;obtain⟨rfl,rfl⟩:j=k/\g=f:=by simpa using h
   exact⟨hg,eG,e⟩
theorem let_l(h:Fb q.l K)(p:Int):Fb (q.fm p).1.l K/\(q.fm p).1.l.length=q.l.length/\(q.fm p).1.a=q.a/\(q.fm p).1.hand=q.hand:=by
 unfold QS.fm
 cases hh:q.fe p with
 |none=>exact⟨h,rfl,rfl,rfl⟩
 |some kf=>
  obtain⟨k,f⟩:=kf;obtain⟨h1,h2,_⟩:=uJ hh;have hm:=h _ (az h1);exact⟨h.set k ⟨by show 0<=f.held-1;omega,by show f.held-1<=_;omega,hm.2.2⟩,bH,rfl,rfl⟩
theorem set_l(h:Fb q.l K)(p:Int)(b:ByteArray):Fb (q.dX p b).1.l K/\(q.dX p b).1.l.length=q.l.length/\(q.dX p b).1.a=q.a/\(q.dX p b).1.hand=q.hand:=by
 unfold QS.dX
 split
 .exact⟨h,rfl,rfl,rfl⟩
 .rename_i hb
  cases hh:q.fe p with
  |none=>exact⟨h,rfl,rfl,rfl⟩
  |some kf=>
   obtain⟨k,f⟩:=kf;obtain⟨h1,h2,_⟩:=uJ hh;have hm:=h _ (az h1);exact⟨h.set k ⟨hm.1,hm.2.1,by show(mH b).size<=_;rw[ss (by omega)];omega⟩,bH,rfl,rfl⟩
theorem Bk(h:ZP w y n q K)(hb:Fb q.l K)(hK:K<=1000000000000)(p:Int)(he:(q.aK p).2.2≠0):
  Calls Tryz.prog 167 #[pp y.pb,.int .i64 p,.func (Fn.func 168) #[] #[.pointer (some ⟨g,0,none⟩)]] w λe w'=>e=.returned (.int .i64 (q.aK p).2.2)/\ZP w' y n (q.aK p).1 (K+1)/\ag y.fp w w':=by
 have KH:=xh (ma h hb hK p);have hq:((q.aK p).2.2 != 0)=true:=by rw[bne_iff_ne];exact he
 have lp:((q.aK p).2.2==0)=false:=by rw[beq_eq_false_iff_ne];exact he
 generalize q.aK p=R at *;clear h hb;unfold pp at *;go_enter Tryz.func167,Tryz.ntmps167;go_wp2_with fail;refine KH.o.mono ?_;rintro e w1 ⟨rfl,A1,o1⟩;have A1:=xh A1;have o1:=xh o1;go_wp2_with fail;go_ret;exact⟨by first|rfl|simp,A1.o,o1.o⟩
theorem Bl(h:ZP w y n q K)(hb:Fb q.l K)(hK:K<=1000000000000)(p:Int)(he:(q.aK p).2.2≠0):
  Calls Tryz.prog 167 #[pp y.pb,.int .i64 p,.func (Fn.func 218) #[] #[.pointer (some ⟨g3,0,none⟩),.pointer (some ⟨g4,0,none⟩),.pointer (some ⟨g5,0,none⟩)]] w λe w'=>e=.returned (.int .i64 (q.aK p).2.2)/\ZP w' y n (q.aK p).1 (K+1)/\ag y.fp w w':=by
 have KH:=xh (ma h hb hK p);have hq:((q.aK p).2.2 != 0)=true:=by rw[bne_iff_ne];exact he
 have lp:((q.aK p).2.2==0)=false:=by rw[beq_eq_false_iff_ne];exact he
 generalize q.aK p=R at *;clear h hb;unfold pp at *;go_enter Tryz.func167,Tryz.ntmps167;go_wp2_with fail;refine KH.o.mono ?_;rintro e w1 ⟨rfl,A1,o1⟩;have A1:=xh A1;have o1:=xh o1;go_wp2_with fail;go_ret;exact⟨by first|rfl|simp,A1.o,o1.o⟩
theorem yh(h:ZP w y n q K)(hb:Fb q.l K)(hK:K<=999999999999)(hl:q.hand<q.l.length)(Hh:Full q.a)(p:Int)(he:(q.aK p).2.2=0)(s0:ByteArray)(B:aD w g 9 #[.string s0])(hg:g∉y.fp):
  Calls Tryz.prog 167 #[pp y.pb,.int .i64 p,.func (Fn.func 168) #[] #[.pointer (some ⟨g,0,none⟩)]] w λe w'=>e=.returned (.int .i64 0)/\ZP w' y n ((q.aK p).1.fm p).1 (K+1)/\ag (g::y.fp) w w'/\aD w' g 9 #[.string (q.aK p).2.1]:=by
 have KH:=xh (ma h hb (by omega) p);rw[he]at KH;have xR:=(Hg hb hl Hh p).1;generalize q.aK p=R at *;have KL:=xh (λw' (A:ZP w' y n R.1 (K+1))=>yg A xR (by omega) p);have HQ:=xh hg;have HB:=xh B;have HD:=xh (λ(w1 w2:World) (A:ZP w1 y n R.1 (K+1)) (o:ag [g] w1 w2)=>(show ZP w2 y n R.1 (K+1)from by
  obtain⟨c,A,z⟩:=A;exact⟨c,A.only o (λx hx hm=>hg (by rw[cg.1 hm]at hx;exact hx)),z⟩))
 clear h hb B xR he hg;unfold pp at *;go_enter Tryz.func167,Tryz.ntmps167;go_wp2_with fail;refine KH.o.mono ?_;rintro e w1 ⟨rfl,A1,o1⟩;have B1:=HB.o.only o1 HQ.o;have KG:=xh (Eg R.2.1 g w1 s0 B1);have A1:=xh A1;have o1:=xh o1;clear B1;go_wp2_with fail;refine KG.o.mono ?_;rintro e w2 ⟨rfl,B2,o2⟩;have A2:=xh (HD.o _ _ A1.o o2);have B2:=xh B2
 have o2:=xh ((o1.o.mono (λx hx _=>bY g hx)).trans (o2.mono (λx hx _=>by rw[cg.1 hx];exact gG ..)));go_wp2_with fail;refine(KL.o _ A2.o).mono ?_;rintro e w3 ⟨rfl,A3,o3⟩;have A3:=xh A3;have B3:=xh (B2.o.only o3 HQ.o);have o3:=xh (o2.o.trans (o3.mono (λx hx _=>bY g hx)));go_wp2_with fail;go_ret;exact⟨by first|rfl|simp,A3.o,o3.o,B3.o⟩
theorem nX(h:ZP w y n q K)(p:Int)(b u:ByteArray)(B3:aD w g3 34 #[pp y.pb])(B4:aD w g4 3 #[.int .i64 p])(B5:aD w g5 9 #[.string b]):
  Calls Tryz.prog 218 #[.string u,.pointer (some ⟨g3,0,none⟩),.pointer (some ⟨g4,0,none⟩),.pointer (some ⟨g5,0,none⟩)] w λe w'=>e=.returned (.int .i64 (q.dX p b).2)/\ZP w' y n (q.dX p b).1 K/\ag y.fp w w':=by
 have KS:=xh (He h p b);have c3:=B3.ab (i:=0) rfl;have c4:=B4.ab (i:=0) rfl;have c5:=B5.ab (i:=0) rfl;generalize q.dX p b=R at *;clear h B3 B4 B5;unfold pp at *;go_enter Tryz.func218,Tryz.ntmps218;go_wp2_with fail;refine KS.o.mono ?_;rintro e w1 ⟨rfl,A1,o1⟩;have A1:=xh A1;have o1:=xh o1;go_wp2_with fail;go_ret;exact⟨by first|rfl|simp,A1.o,o1.o⟩
theorem yi(h:ZP w y n q K)(hb:Fb q.l K)(hK:K<=999999999999)(hl:q.hand<q.l.length)(Hh:Full q.a)(p:Int)(he:(q.aK p).2.2=0)(b:ByteArray)(B3:aD w g3 34 #[pp y.pb])(B4:aD w g4 3 #[.int .i64 p])(B5:aD w g5 9 #[.string b])(h3:g3∉y.fp)(h4:g4∉y.fp)(h5:g5∉y.fp):
  Calls Tryz.prog 167 #[pp y.pb,.int .i64 p,.func (Fn.func 218) #[] #[.pointer (some ⟨g3,0,none⟩),.pointer (some ⟨g4,0,none⟩),.pointer (some ⟨g5,0,none⟩)]] w λe w'=>e=.returned (.int .i64 ((q.aK p).1.dX p b).2)/\ZP w' y n (((q.aK p).1.dX p b).1.fm p).1 (K+1)/\ag y.fp w w':=by
 have KH:=xh (ma h hb (by omega) p);rw[he]at KH;have xR:=(Hg hb hl Hh p).1;have hbc:=(set_l xR p b).1;have KC:=xh (λ(w1:World) (A:ZP w1 y n (q.aK p).1 (K+1)) (u:ByteArray) (o:ag y.fp w w1)=>nX A p b u (B3.only o h3) (B4.only o h4) (B5.only o h5));generalize q.aK p=R at *;generalize R.1.dX p b=R2 at *;have KL:=xh (λw' (A:ZP w' y n R2.1 (K+1))=>yg A hbc (by omega) p);clear h hb B3 B4 B5 xR hbc he h3 h4 h5;unfold pp at *
 go_enter Tryz.func167,Tryz.ntmps167;go_wp2_with fail;refine KH.o.mono ?_;rintro e w1 ⟨rfl,A1,o1⟩;have KG:=xh (KC.o w1 A1 R.2.1 o1);have o1:=xh o1;clear A1;go_wp2_with fail;refine KG.o.mono ?_;rintro e w2 ⟨rfl,A2,o2⟩;have A2:=xh A2;have o2:=xh (o1.o.trans o2);go_wp2_with fail;refine(KL.o _ A2.o).mono ?_;rintro e w3 ⟨rfl,A3,o3⟩;have A3:=xh A3;have o3:=xh (o2.o.trans o3);go_wp2_with fail;go_ret;exact⟨by first|rfl|simp,A3.o,o3.o⟩
theorem Eh(h:ZP w y n q K)(hb:Fb q.l K)(hK:K<=999999999999)(Hh:Full q.a)(p:Int)(he:(q.aK p).2.2=0):
  Calls Tryz.prog 121 #[pp y.pb,.int .i64 p] w λe w'=>e=.returned (.tuple #[.string (q.aK p).2.1,.int .i64 0])/\ZP w' y n ((q.aK p).1.fm p).1 (K+1)/\ag y.fp w w':=by
 have O0:=xh (ae (Below.refl w.heap.size w) (.cells #[.string ⟨#[]⟩] 9));have B0:=xh (aD.new w 9 #[.string ⟨#[]⟩]);have NQ:=xh (show w.heap.size∉y.fp from λhm=>by
  obtain⟨c,A,z⟩:=h;have:=A.lt _ hm;omega)
 have KW:=xh (yh (h.below O0.o) hb hK (by obtain⟨c,A,z⟩:=h;exact A.lh) Hh p he _ B0.o NQ.o);generalize (q.aK p).2.1=r at *;generalize ((q.aK p).1.fm p).1=S2 at *;clear h hb he Hh;unfold pp at *;go_enter Tryz.func121,Tryz.ntmps121;go_wp2_with fail;refine KW.o.mono ?_;rintro e w1 ⟨rfl,A1,o1,B1⟩;have A1:=xh A1;have o1:=xh ((ag.aj (S:=w.heap.size::y.fp) O0.o).trans o1);have q0:=B1.ab (i:=0) rfl;clear B1;go_wp2_with fail;go_ret2
 exact⟨by first|rfl|simp,A1.o,o1.o.mono (λg hg eT=>by simp at hg;rcases hg with rfl|hg;(· omega);exact hg)⟩
theorem Hi(h:ZP w y n q K)(hb:Fb q.l K)(hK:K<=999999999999)(p:Int)(he:(q.aK p).2.2≠0):
  Calls Tryz.prog 121 #[pp y.pb,.int .i64 p] w λe w'=>e=.returned (.tuple #[.string ⟨#[]⟩,.int .i64 (q.aK p).2.2])/\ZP w' y n (q.aK p).1 (K+1)/\ag y.fp w w':=by
 have O0:=xh (ae (Below.refl w.heap.size w) (.cells #[.string ⟨#[]⟩] 9));have B0:=xh (aD.new w 9 #[.string ⟨#[]⟩]);have NQ:=xh (show w.heap.size∉y.fp from λhm=>by
  obtain⟨c,A,z⟩:=h;have:=A.lt _ hm;omega)
 have KW:=xh (Bk (g:=w.heap.size) (h.below O0.o) hb (by omega) p he);generalize (q.aK p)=R at *;clear h hb he;unfold pp at *;go_enter Tryz.func121,Tryz.ntmps121;go_wp2_with fail;refine KW.o.mono ?_;rintro e w1 ⟨rfl,A1,o1⟩;have B1:=B0.o.only o1 NQ.o;have A1:=xh A1;have o1:=xh ((ag.aj (S:=y.fp) O0.o).trans o1);have q0:=B1.ab (i:=0) rfl;clear B1;go_wp2_with fail;go_ret2;exact⟨by first|rfl|simp,A1.o,o1.o⟩
theorem Ei(h:ZP w y n q K)(hb:Fb q.l K)(hK:K<=999999999999)(Hh:Full q.a)(p:Int)(b:ByteArray)(hs:b.size<=232)(he:(q.aK p).2.2=0):
  Calls Tryz.prog 176 #[pp y.pb,.int .i64 p,.string b] w λe w'=>e=.returned (.int .i64 ((q.aK p).1.dX p b).2)/\ZP w' y n (((q.aK p).1.dX p b).1.fm p).1 (K+1)/\ag y.fp w w':=by
 obtain⟨g3,hg3⟩:∃g,w.heap.size=g:=⟨_,rfl⟩;have b3:=aD.new w 34 #[pp y.pb];have o3:=ae (Below.refl w.heap.size w) (.cells #[pp y.pb] 34);have e3:(w.alloc (.cells #[pp y.pb] 34)).heap.size=g3+1:=by rw[<-hg3];simp
 have b4:=aD.new (w.alloc (.cells #[pp y.pb] 34)) 3 #[.int .i64 p];have o4:=ae o3 (.cells #[.int .i64 p] 3);have k4:=ae (Below.refl (w.alloc (.cells #[pp y.pb] 34)).heap.size _) (.cells #[.int .i64 p] 3);have e4:((w.alloc (.cells #[pp y.pb] 34)).alloc (.cells #[.int .i64 p] 3)).heap.size=g3+2:=by rw[<-hg3];simp
 have b5:=aD.new ((w.alloc (.cells #[pp y.pb] 34)).alloc (.cells #[.int .i64 p] 3)) 9 #[.string b];have o5:=ae o4 (.cells #[.string b] 9);have k5:=ae (Below.refl ((w.alloc (.cells #[pp y.pb] 34)).alloc (.cells #[.int .i64 p] 3)).heap.size _) (.cells #[.string b] 9);have B3:=aD.below (aD.below b3 k4 b3.lt) k5 (aD.below b3 k4 b3.lt).lt;have B4:=aD.below b4 k5 b4.lt;rw[e3]at B4;rw[e4]at b5;rw[hg3]at B3;have OZ:=xh o5
 have NQ:=xh (show ∀g,w.heap.size<=g->g∉y.fp from λg hg hm=>by
  obtain⟨c,A,z⟩:=h;have:=A.lt _ hm;omega)
 have KW:=xh (yi (h.below OZ.o) hb hK (by obtain⟨c,A,z⟩:=h;exact A.lh) Hh p he b B3 B4 b5 (NQ.o _ (by omega)) (NQ.o _ (by omega)) (NQ.o _ (by omega)));have cl:=B3.ab (i:=0) rfl;have c4:=B4.ab (i:=0) rfl;have c5:=b5.ab (i:=0) rfl;have hsI:¬(232:Int)<(b.size:Int):=by omega
 generalize ((q.aK p).1.dX p b).2=RR at *;generalize (((q.aK p).1.dX p b).1.fm p).1=SS at *;clear h hb he Hh hs b3 b4 b5 B3 B4 o3 o4 o5 e3 e4 k4 k5;unfold pp at *;go_enter Tryz.func176,Tryz.ntmps176;go_wp2_with fail;refine KW.o.mono ?_;rintro e w1 ⟨rfl,A1,o1⟩;have A1:=xh A1;have o1:=xh ((ag.aj (S:=y.fp) OZ.o).trans o1);go_wp2_with fail;go_ret;exact⟨by first|rfl|simp,A1.o,o1.o⟩
theorem Hj(h:ZP w y n q K)(hb:Fb q.l K)(hK:K<=999999999999)(Hh:Full q.a)(p:Int)(b:ByteArray)(hs:b.size<=232)(he:(q.aK p).2.2≠0):
  Calls Tryz.prog 176 #[pp y.pb,.int .i64 p,.string b] w λe w'=>e=.returned (.int .i64 (q.aK p).2.2)/\ZP w' y n (q.aK p).1 (K+1)/\ag y.fp w w':=by
 obtain⟨g3,hg3⟩:∃g,w.heap.size=g:=⟨_,rfl⟩;have b3:=aD.new w 34 #[pp y.pb];have o3:=ae (Below.refl w.heap.size w) (.cells #[pp y.pb] 34);have e3:(w.alloc (.cells #[pp y.pb] 34)).heap.size=g3+1:=by rw[<-hg3];simp
 have b4:=aD.new (w.alloc (.cells #[pp y.pb] 34)) 3 #[.int .i64 p];have o4:=ae o3 (.cells #[.int .i64 p] 3);have k4:=ae (Below.refl (w.alloc (.cells #[pp y.pb] 34)).heap.size _) (.cells #[.int .i64 p] 3);have e4:((w.alloc (.cells #[pp y.pb] 34)).alloc (.cells #[.int .i64 p] 3)).heap.size=g3+2:=by rw[<-hg3];simp
 have b5:=aD.new ((w.alloc (.cells #[pp y.pb] 34)).alloc (.cells #[.int .i64 p] 3)) 9 #[.string b];have o5:=ae o4 (.cells #[.string b] 9);have k5:=ae (Below.refl ((w.alloc (.cells #[pp y.pb] 34)).alloc (.cells #[.int .i64 p] 3)).heap.size _) (.cells #[.string b] 9);have B3:=aD.below (aD.below b3 k4 b3.lt) k5 (aD.below b3 k4 b3.lt).lt;have B4:=aD.below b4 k5 b4.lt;rw[e3]at B4;rw[e4]at b5;rw[hg3]at B3;have OZ:=xh o5
 have NQ:=xh (show ∀g,w.heap.size<=g->g∉y.fp from λg hg hm=>by
  obtain⟨c,A,z⟩:=h;have:=A.lt _ hm;omega)
 have KW:=xh (Bl (g3:=g3) (g4:=g3+1) (g5:=g3+2) (h.below OZ.o) hb (by omega) p he);have cl:=B3.ab (i:=0) rfl;have c4:=B4.ab (i:=0) rfl;have c5:=b5.ab (i:=0) rfl;have hsI:¬(232:Int)<(b.size:Int):=by omega
 generalize (q.aK p).2.2=RR at *;generalize (q.aK p).1=SS at *;clear h hb he Hh hs b3 b4 b5 B3 B4 o3 o4 o5 e3 e4 k4 k5;unfold pp at *;go_enter Tryz.func176,Tryz.ntmps176;go_wp2_with fail;refine KW.o.mono ?_;rintro e w1 ⟨rfl,A1,o1⟩;have A1:=xh A1;have o1:=xh ((ag.aj (S:=y.fp) OZ.o).trans o1);go_wp2_with fail;go_ret;exact⟨by first|rfl|simp,A1.o,o1.o⟩
theorem Hk(p:Int)(b:ByteArray)(hs:232<b.size):
  Calls Tryz.prog 176 #[pp y.pb,.int .i64 p,.string b] w λe w'=>e=.returned (.int .i64 4)/\Below w.heap.size w w':=by
 have OZ:=xh (ae (ae (ae (Below.refl w.heap.size w) (.cells #[pp y.pb] 34)) (.cells #[.int .i64 p] 3)) (.cells #[.string b] 9));have hsI:(232:Int)<(b.size:Int):=by omega
 clear hs;unfold pp at *;go_enter Tryz.func176,Tryz.ntmps176;go_wp2_with fail;go_ret;exact⟨by first|rfl|simp,OZ.o⟩
end Go.Proofs.YtmonobkginiajaaGreat.Sh
namespace Go.Proofs.YtmonobkginiajaaGreat.Sh
open Go.RowKit Pk Dk Pg
section
variable{c:C}{n:Nat}{a:St}{K:Nat}
theorem Zc.full(z:Zc c n a K):Full a:=by
 intro l
 by_cases h:(a.aA l).2=0
 .have hr:=z.read l;rw[pB z.g]at hr;rw[<-hr]at h ⊢;exact Nat.le_of_eq (xZ z.g h)
 .unfold St.aA at h ⊢
  cases ha:a.at l with
  |none=>exact bm _
  |some u=>rw[ha]at h;exact absurd rfl h
end
structure Hq(q:QS)(n K:Nat):Prop where
 z:∃c,Zc c n q.a K
 f:Fb q.l K
 l1:1<=q.l.length
 l2:q.l.length<=32
 lh:q.hand<q.l.length
 nl:q.a.now.length<=512
section
variable{q:QS}{n K:Nat}
theorem Hq.full(h:Hq q n K):Full q.a:=by
 obtain⟨c,z⟩:=h.z;exact z.full
theorem Hq.more(h:Hq q n K){K':Nat}(hk:K<=K'):Hq q n K':=by
 obtain⟨c,z⟩:=h.z;exact⟨⟨c,z.more hk⟩,h.f.more hk,h.l1,h.l2,h.lh,h.nl⟩
theorem Hq.wS(h:Hq q n K){q':QS}{K':Nat}(ha:q'.a=q.a)(hk:K<=K')(hf:Fb q'.l K')(hl:q'.l.length=q.l.length)(hh:q'.hand<q.l.length):Hq q' n K':=by
 obtain⟨c,z⟩:=h.z;exact⟨⟨c,by rw[ha];exact z.more hk⟩,hf,by rw[hl];exact h.l1,by rw[hl];exact h.l2,by rw[hl];exact hh,by rw[ha];exact h.nl⟩
theorem uK(a:St)(l:Int)(p:List UInt8):(a.ar l p).1.now.length=a.now.length:=by
 unfold St.ar
 split
 .rfl
 .split
  .rfl
  .split
   .rfl
   .show(a.now.set _ _).length=_;rw[bH]
theorem Hq.Hl(h:Hq q n K):Hq q.ay.1 n K/\(q.ay.2= -1\/∃k:Nat,q.ay.2=k/\k<q.l.length):=by
 obtain⟨v1,v2,v3⟩:=m4 q h.lh h.f;have va:=fS q;exact⟨h.wS va.1 (ak _) v1 va.2 (by rw[<-va.2];exact v2),v3⟩
theorem Ej(q:QS)(k:Nat):(q.bG k).1.hand=q.hand:=by
 unfold QS.bG
 split
 .split<;>rfl
 .rfl
theorem Hm(q:QS)(k:Nat):(q.bG k).1.a.now.length=q.a.now.length:=by
 unfold QS.bG
 split
 .split
  .exact uK _ _ _
  .exact uK _ _ _
 .rfl
theorem Hq.back(h:Hq q n K)(k:Nat)(hk:k<q.l.length):Hq (q.bG k).1 n (K+1):=by
 obtain⟨b1,b2⟩:=Bj h.f hk;obtain⟨c,z⟩:=h.z;refine⟨?_,b1.more (by omega),by rw[b2];exact h.l1,by rw[b2];exact h.l2,by rw[b2,Ej];exact h.lh,by rw[Hm];exact h.nl⟩;unfold QS.bG
 split
 .split
  .exact⟨_,(z.write _ _).1⟩
  .exact⟨_,(z.write _ _).1⟩
 .exact⟨c,z.more (by omega)⟩
theorem Hq.put(h:Hq q n K)(k:Nat){f:Fr}(hf:0<=f.held/\f.held<=K/\f.eC.size<=1000):Hq {q with l:=q.l.set k f} n K:=
 h.wS rfl (ak _) (h.f.set k hf) bH h.lh
theorem Hq.hold(h:Hq q n K)(p:Int):Hq (q.aK p).1 n (K+1):=by
 unfold QS.aK
 rcases eR q.l p with e|⟨k,f,e,hk,_,_⟩
 .rw[e,if_neg (by omega)]
  split
  .exact h.more (by omega)
  .obtain⟨v1,v3⟩:=h.Hl;have va:=fS q
   split
   .exact v1.more (by omega)
   .rcases v3 with v3|⟨k,v3,hk⟩
    .omega
    .rw[v3,show((k:Nat):Int).toNat=k by omega];have hb:=v1.back k (by omega)
     split
     .exact hb
     .exact hb.put k ⟨by show(0:Int)<=1;omega,by show(1:Int)<=_;omega,Hf (h.full p)⟩
 .rw[e,if_pos (by omega),show((k:Nat):Int).toNat=k by omega,kS hk];have hm:=h.f _ (az hk);exact(h.more (by omega)).put k ⟨by show 0<=f.held+1;omega,by show f.held+1<=_;omega,hm.2.2⟩
theorem Hq.let_(h:Hq q n K)(p:Int):Hq (q.fm p).1 n K:=by
 obtain⟨a,b,c,d⟩:=let_l h.f p;exact h.wS c (ak _) a b (by rw[d];exact h.lh)
theorem Hq.set(h:Hq q n K)(p:Int)(b:ByteArray):Hq (q.dX p b).1 n K:=by
 obtain⟨a,e,c,d⟩:=set_l h.f p b;exact h.wS c (ak _) a e (by rw[d];exact h.lh)
theorem Hq.get(h:Hq q n K)(p:Int):Hq (q.cC p).1 n (K+1):=by
 unfold QS.cC
 split
 .exact h.hold p
 .exact(h.hold p).let_ p
theorem Hq.put_(h:Hq q n K)(p:Int)(b:ByteArray):Hq (q.ct p b).1 n (K+1):=by
 unfold QS.ct
 split
 .exact h.more (by omega)
 .split
  .exact h.hold p
  .exact((h.hold p).set p b).let_ p
theorem Hn(a:St)(l:Int):(a.aI l).1.now.length=a.now.length:=by
 unfold St.aI
 split
 .show(a.now.set _ _).length=_;rw[bH]
 .rfl
theorem Hq.drop(h:Hq q n K)(p:Int):Hq (q.aI p).1 n K:=by
 obtain⟨c,z⟩:=h.z;have hd:Hq {q with a:=(q.a.aI p).1} n K:=⟨⟨_,(z.drop p).1⟩,h.f,h.l1,h.l2,h.lh,by show(q.a.aI p).1.now.length<=512;rw[Hn];exact h.nl⟩;unfold QS.aI
 split
 .exact h
 .split
  .exact hd
  .split
   .exact hd.put _ Fb.nil
   .exact hd
theorem new_len(a:St)(p:List UInt8)(h:a.now.length<=512):(a.bh p).1.now.length<=512:=by
 unfold St.bh
 split
 .exact h
 .split
  .exact h
  .rename_i hs;show(kR a.now a.slot _).length<=512;unfold kR
   split
   .rw[aU];simp;omega
   .rw[bH];exact h
theorem Hq.new(h:Hq q n K)(p:List UInt8):Hq (q.bh p).1 n (K+1):=by
 obtain⟨c,z⟩:=h.z;exact⟨⟨_,(z.new p).1⟩,h.f.more (by omega),h.l1,h.l2,h.lh,new_len _ _ h.nl⟩
end
theorem gQ{α β:Type}(l:List α)(g:α->β)(k:Nat){a b:α}(h:l[k]?=some b)(e:g a=g b):(l.set k a).map g=l.map g:=by
 rw[oU];apply jZ;intro i;rw[fq];have hk:=(aR.1 h).1
 split
 .rename_i hi;subst hi;rw[if_pos (by simpa using hk),ij,h,e];rfl
 .rfl
theorem yj{a:St}{p:Int}(h:(a.aA p).2=0):0<=p:=by
 by_cases hp:0<=p
 .exact hp
 .exfalso;unfold St.aA St.at at h;rw[if_neg hp]at h;exact absurd h (by decide)
end Go.Proofs.YtmonobkginiajaaGreat.Sh
