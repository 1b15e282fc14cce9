/- packed. -/
import Derived.Test.YtmonobkginiajaaGreatBs11
set_option linter.all false
set_option maxRecDepth 100000
set_option maxHeartbeats 8000000
namespace Go.Proofs.YtmonobkginiajaaGreat
open Go.Proofs.Tryz
namespace Sh
open Go.RowKit Pk Dk Pg
open Nd (E aN aW dL bA aY cq bF ak cW)
variable{a b c:ByteArray}{v v':Vw}{h:Nat}{l:List E}{leaf:Bool}{p:Int}{y:Step}
theorem Ba{α β:Type}{f g:α->List β}:∀{l:List α},(∀a∈l,f a=g a)->l.flatMap f=l.flatMap g
 |[],_=>rfl
 |a::l,h=>by rw[gJ,gJ,h a (by simp),Ba λx hx=>h x (by simp[hx])]
def kc(a b:ByteArray):Int:=Nd.cb a.data.toList b.data.toList
abbrev gq(a b:ByteArray):Prop:=kc a b<0
abbrev oT(a b:ByteArray):Prop:=kc a b<=0
theorem Ox :kc a b=0↔a=b:=by
 unfold kc;rw[Nd.Vx];exact⟨λh=>mo (rS.1 h),λh=>by rw[h]⟩
theorem MK(a b:ByteArray):kc b a= -kc a b:=Nd.FM _ _
theorem iU(h:gq a b)(k:gq b c):gq a c:=Nd.qo _ _ _ h k
theorem ta(h:gq a b):oT a b:=Int.le_of_lt h
theorem rC(h:oT a b):gq a b\/a=b:=by
 rcases Int.lt_or_eq_of_le h with h|h
 .exact .inl h
 .exact .inr (Ox.1 h)
theorem gi(h:gq a b)(k:oT b c):gq a c:=by
 rcases rC k with k|rfl
 .exact iU h k
 .exact h
theorem iV(h:oT a b)(k:gq b c):gq a c:=by
 rcases rC h with h|rfl
 .exact iU h k
 .exact k
theorem nS(h:oT a b)(k:oT b c):oT a c:=by
 rcases rC h with h|rfl
 .exact ta (gi h k)
 .exact k
theorem Oy(a:ByteArray):oT a a:=Int.le_of_eq (Ox.2 rfl)
theorem jw(h:gq a a):False:=by
 have:=Ox.2 (rfl:a=a);omega
theorem wG(h:gq a b)(k:oT b a):False:=jw (gi h k)
theorem mI(h:¬gq a b):oT b a:=by
 have:=MK a b;omega
theorem DI(a:ByteArray):oT ⟨#[]⟩ a:=by
 show Nd.cb [] a.data.toList<=0
 cases a.data.toList<;>simp[Nd.cb,Lib.compareBytes]
abbrev NT:=Nat×Int×List E
def ao(v:Vw):Nat->Int->List NT
 |0,p=>[(0,p,(gm v p).2.1)]
 |h+1,p=>(h+1,p,(gm v p).2.1)::(gm v p).2.1.flatMap λe=>ao v h e.aQ
def aU(v:Vw)(h:Nat)(l:List E):List NT:=l.flatMap λe=>ao v h e.aQ
def bV(ns:List NT):List E:=ns.flatMap λn=>if n.1=0 then n.2.2 else []
def bt(ns:List NT):List Int:=ns.map λn=>n.2.1
def fA(v:Vw)(h:Nat)(p:Int):List E:=bV (ao v h p)
@[simp] theorem entsT_nil:bV []=[]:=rfl
@[simp] theorem dA(a b:List NT):bV (a++b)=bV a++bV b:=by simp[bV]
theorem td(n:NT)(a:List NT):bV (n::a)=(if n.1=0 then n.2.2 else [])++bV a:=rfl
@[simp] theorem ML(p:Int)(l:List E)(a:List NT):bV ((0,p,l)::a)=l++bV a:=rfl
@[simp] theorem kN(h:Nat)(p:Int)(l:List E)(a:List NT):bV ((h+1,p,l)::a)=bV a:=by rw[td];simp
@[simp] theorem pgsT_nil:bt []=[]:=rfl
@[simp] theorem cX(a b:List NT):bt (a++b)=bt a++bt b:=by simp[bt]
@[simp] theorem da(n:NT)(a:List NT):bt (n::a)=n.2.1::bt a:=rfl
@[simp] theorem Rh(v:Vw)(h:Nat):aU v h []=[]:=rfl
@[simp] theorem cO(v:Vw)(h:Nat)(e:E)(l:List E):aU v h (e::l)=ao v h e.aQ++aU v h l:=rfl
@[simp] theorem gG(v:Vw)(h:Nat)(a b:List E):aU v h (a++b)=aU v h a++aU v h b:=by simp[aU]
theorem db{x:E}:x∈bV (aU v h l)↔ ∃e∈l,x∈fA v h e.aQ:=by
 induction l with
 |nil=>simp
 |cons e l ih=>simp[ih,fA]
structure tg(C:Int->Prop)(en:Int->List E)(l:List E):Prop where
 ne:l≠[]
 c:∀e∈l,C e.aQ/\en e.aQ≠[]
 lo:l.Pairwise λc e=> ∀x∈en c.aQ,gq x.key e.key
 hi:∀e∈l.tail,∀x∈en e.aQ,oT e.key x.key
def jP(v:Vw):Nat->Int->Prop
 |0,p=>gm v p=(true,(gm v p).2.1,0)/\ak (gm v p).2.1<=223
 |h+1,p=>gm v p=(false,(gm v p).2.1,0)/\ak (gm v p).2.1<=223/\blank false (gm v p).2.1=(gm v p).2.1/\tg (jP v h) (fA v h) (gm v p).2.1
def fQ(v:Vw)(h:Nat)(l:List E):Prop:=(∀e∈l,cW e (decide (h=0)))/\match h with
 |0=>l.Pairwise λc e=>gq c.key e.key
 |h+1=>tg (jP v h) (fA v h) l
def cw(v:Vw)(h:Nat)(l:List E):List NT:=match h with
 |0=>[]
 |h+1=>aU v h l
def gw(v:Vw)(h:Nat)(l:List E):List E:=match h with
 |0=>l
 |h+1=>bV (aU v h l)
theorem iw(v:Vw)(h:Nat)(p:Int):ao v h p=(h,p,(gm v p).2.1)::cw v h (gm v p).2.1:=by cases h<;>rfl
theorem wH(v:Vw)(h:Nat)(p:Int):fA v h p=gw v h (gm v p).2.1:=by
 cases h with
 |zero=>simp[fA,ao,gw]
 |succ h=>exact kN _ _ _ _
theorem mh(h:dL l leaf):∀e∈l,cW e leaf:=λe he=>by
 obtain⟨i,hi,rfl⟩:=n8 he;exact(h i hi _ (aG hi)).1
theorem I4(h:dL l leaf):l.Pairwise λc e=>gq c.key e.key:=by
 rw[Er];intro i j hi hj hij;exact Nd.Mu h i (j-i-1) (aG hi) (by rw[show i+1+(j-i-1)=j by omega];exact aG hj)
theorem MM(h:∀e∈l,cW e leaf)(hp:l.Pairwise λc e=>gq c.key e.key):dL l leaf:=by
 intro i hi e he;refine⟨h e (ay he),λh0 p hpe=>?_⟩;rw[Er]at hp;have h1:=hp (i-1) i (by omega) hi (by omega);rw[aG (by omega)]at he hpe;injection he with he
 injection hpe with hpe
 rw[he,hpe]at h1;rw[Nd.Vy,decide_eq_false_iff_not];have h2:=MK p.key e.key;have h1:kc p.key e.key<0:=h1;show ¬kc e.key p.key<=0;omega
theorem pair_ne{C:Int->Prop}{en:Int->List E}(h:tg C en l):l.tail.Pairwise λc e=>gq c.key e.key:=by
 obtain⟨ne,c,lo,hi⟩:=h
 cases l with
 |nil=>exact List.Pairwise.nil
 |cons e l=>
  rw[kV]at hi ⊢;rw[dW]at lo;refine List.Pairwise.imp_of_mem ?_ lo.2;intro a b ha hb hab;obtain⟨x,hx⟩:=pF _ (c a (aw _ ha)).2;exact iV (hi a ha x hx) (hab x hx)
theorem in_may{C:Int->Prop}{en:Int->List E}(h:tg C en l)(hr:∀e∈l,cW e false):dL (blank false l) false:=by
 have hp:=pair_ne h;obtain⟨ne,c,lo,hi⟩:=h
 cases l with
 |nil=>exact absurd rfl ne
 |cons e l=>
  have hb:blank false (e::l)={e with key:=⟨#[]⟩}::l:=rfl;rw[hb];refine MM (λx hx=>?_) ?_
  .rcases aj.1 hx with rfl|hx
   .obtain⟨a,b,cc⟩:=hr e (fK ..);exact⟨bf _,b,cc⟩
   .exact hr x (aw _ hx)
  .rw[dW]at lo ⊢;refine⟨λx hx=>?_,hp⟩;obtain⟨y,hy⟩:=pF _ (c e (fK ..)).2;exact iV (DI y.key) (lo.1 x hx y hy)
theorem Wb{C:Int->Prop}{en:Int->List E} :tg C en (blank false l)↔tg C en l:=by
 cases l with
 |nil=>exact Iff.rfl
 |cons e l=>
  have hb:blank false (e::l)={e with key:=⟨#[]⟩}::l:=rfl;rw[hb]
  constructor
  .rintro⟨ne,c,lo,hi⟩;refine⟨by simp,λx hx=>?_,?_,hi⟩
   .rcases aj.1 hx with rfl|hx
    .exact c {x with key:=⟨#[]⟩} (fK ..)
    .exact c x (aw _ hx)
   .rw[dW]at lo ⊢;exact lo
  .rintro⟨ne,c,lo,hi⟩;refine⟨by simp,λx hx=>?_,?_,hi⟩
   .rcases aj.1 hx with rfl|hx
    .exact c e (fK ..)
    .exact c x (aw _ hx)
   .rw[dW]at lo ⊢;exact lo
theorem Bb(v:Vw)(h:Nat)(leaf:Bool)(l:List E):aU v h (blank leaf l)=aU v h l:=by
 cases leaf<;>cases l<;>rfl
theorem kO(l:List E):blank true l=l:=by cases l<;>rfl
theorem nU(leaf:Bool):blank leaf []=[]:=by cases leaf<;>rfl
theorem dG(leaf:Bool)(l:List E):ak (blank leaf l)<=ak l:=by
 cases leaf
 .cases l with
  |nil=>exact Nat.le_refl _
  |cons e l=>show ak ({e with key:=⟨#[]⟩}::l)<=_;unfold ak;simp;exact bf _
 .rw[kO];exact Nat.le_refl _
theorem I5(k:fQ v h l):dL (blank (decide (h=0)) l) (decide (h=0)):=by
 cases h with
 |zero=>exact(kO l).symm▸MM k.1 k.2
 |succ h=>exact in_may k.2 k.1
theorem Ga(k:jP v h p):gm v p=(decide (h=0),(gm v p).2.1,0)/\ak (gm v p).2.1<=223/\fQ v h (gm v p).2.1:=by
 cases h with
 |zero=>
  have hm:=oS (v:=v) (p:=p) (by rw[k.1]);rw[k.1]at hm;exact⟨k.1,k.2,mh hm,I4 hm⟩
 |succ h=>
  have hm:=oS (v:=v) (p:=p) (by rw[k.1]);rw[k.1]at hm;exact⟨k.1,k.2.1,mh hm,k.2.2.2⟩
theorem list_ok(k:gm v p=(decide (h=0),l,0))(hb:ak l<=223)(hk:blank (decide (h=0)) l=l)(hl:fQ v h l):jP v h p:=by
 cases h with
 |zero=>exact⟨by rw[k];rfl,by rw[k];exact hb⟩
 |succ h=>exact⟨by rw[k];rfl,by rw[k];exact hb,by rw[k];exact hk,by rw[k];exact hl.2⟩
theorem xU :∀(h:Nat) (p:Int),(∀j∈bt (ao v h p),v' j=v j)->ao v' h p=ao v h p/\(jP v h p->jP v' h p)
 |0,p,hj=>by
  have e:=wE (hj p (by simp[ao]));exact⟨by unfold ao;rw[e],λh=>by unfold jP at h ⊢;rw[e];exact h⟩
 |h+1,p,hj=>by
  have e:=wE (hj p (by simp[ao]));have hk:∀c∈(gm v p).2.1,ao v' h c.aQ=ao v h c.aQ/\(jP v h c.aQ->jP v' h c.aQ):=λc hc=>xU h c.aQ λj hjm=>hj j (by
   unfold ao;rw[da];refine aw _ ?_;simp only[bt,dm,mO]at hjm ⊢;obtain⟨n,hn,rfl⟩:=hjm;exact⟨n,⟨c,hc,hn⟩,rfl⟩)
  have hf:((gm v p).2.1.flatMap λe=>ao v' h e.aQ)=(gm v p).2.1.flatMap λe=>ao v h e.aQ:=Ba λc hc=>(hk c hc).1;refine⟨?_,?_⟩
  .unfold ao;rw[e,hf]
  .unfold jP;rw[e];rintro⟨a,b,bk,d⟩;refine⟨a,b,bk,d.ne,λx hx=>⟨(hk x hx).2 (d.c x hx).1,by unfold fA;rw[(hk x hx).1];exact(d.c x hx).2⟩,?_,λx hx y hy=>?_⟩
   .refine List.Pairwise.imp_of_mem ?_ d.lo;intro x y hx hy hxy z hz;unfold fA at hz;rw[(hk x hx).1]at hz;exact hxy z hz
   .unfold fA at hy;rw[(hk x (tJ hx)).1]at hy;exact d.hi x hx y hy
theorem gS(hj:∀j∈bt (aU v h l),v' j=v j):aU v' h l=aU v h l/\∀e∈l,ao v' h e.aQ=ao v h e.aQ/\(jP v h e.aQ->jP v' h e.aQ):=by
 have hk:∀c∈l,ao v' h c.aQ=ao v h c.aQ/\(jP v h c.aQ->jP v' h c.aQ):=λc hc=>xU h c.aQ λj hjm=>hj j (by
  unfold aU;simp only[bt,dm,mO]at hjm ⊢;obtain⟨n,hn,rfl⟩:=hjm;exact⟨n,⟨c,hc,hn⟩,rfl⟩)
 exact⟨Ba λc hc=>(hk c hc).1,hk⟩
theorem Wc(hk:∀e∈l,ao v' h e.aQ=ao v h e.aQ/\(jP v h e.aQ->jP v' h e.aQ))(d:tg (jP v h) (fA v h) l):tg (jP v' h) (fA v' h) l:=by
 refine⟨d.ne,λx hx=>⟨(hk x hx).2 (d.c x hx).1,by unfold fA;rw[(hk x hx).1];exact(d.c x hx).2⟩,?_,λx hx y hy=>?_⟩
 .refine List.Pairwise.imp_of_mem ?_ d.lo;intro x y hx hy hxy z hz;unfold fA at hz;rw[(hk x hx).1]at hz;exact hxy z hz
 .unfold fA at hy;rw[(hk x (tJ hx)).1]at hy;exact d.hi x hx y hy
theorem kP(hj:∀j∈bt (cw v h l),v' j=v j):cw v' h l=cw v h l/\gw v' h l=gw v h l/\(fQ v h l->fQ v' h l):=by
 cases h with
 |zero=>exact⟨rfl,rfl,id⟩
 |succ h=>
  obtain⟨a,b⟩:=gS (h:=h) (l:=l) hj;exact⟨a,by show bV _=bV _;rw[a],λk=>⟨k.1,Wc b k.2⟩⟩
structure Wd(v:Vw)(h:Nat)(y:Step)(p:Int)(a:List E)(c:E)(b:List E):Prop where
 leaf:y.leaf=false
 nd:gm v y.an=(false,y.l,0)
 by_:ak y.l<=223
 bk:blank false y.l=y.l
 l:y.l=a++c::b
 at_:y.at_=a.length
 aQ:c.aQ=p
 ch:∀e∈a++b,jP v h e.aQ/\fA v h e.aQ≠[]
 lo:(a++b).Pairwise λc e=> ∀x∈fA v h c.aQ,gq x.key e.key
 la:∀e∈a,∀x∈fA v h e.aQ,gq x.key c.key
 ha:∀e∈a.tail,∀x∈fA v h e.aQ,oT e.key x.key
 hb:∀e∈b,∀x∈fA v h e.aQ,oT e.key x.key
 hc:a≠[]->∀e∈b,gq c.key e.key
def Gb:List Step->ByteArray->Prop
 |[],_=>True
 |y::up,k=>(0<y.at_->oT (y.l.getD y.at_ Nd.E.zero).key k)/\(∀e∈y.l.drop (y.at_+1),gq k e.key)/\Gb up k
def pf(v:Vw):List Step->Nat->Int->Prop
 |[],_,p=>p=0
 |y::up,h,p=>(∃a c b,Wd v h y p a c b/\∀e∈a++b,∀x∈fA v h e.aQ,Gb up x.key)/\pf v up (h+1) y.an
def ft(v:Vw):List Step->Nat->List NT
 |[],_=>[]
 |y::up,h=>ft v up (h+1)++(h+1,y.an,y.l)::aU v h (y.l.take y.at_)
def dq(v:Vw):List Step->Nat->List NT
 |[],_=>[]
 |y::up,h=>aU v h (y.l.drop (y.at_+1))++dq v up (h+1)
theorem dr(v:Vw)(h:Nat):ft v [] h=[]:=rfl
theorem cE(v:Vw)(h:Nat):dq v [] h=[]:=rfl
theorem de(v:Vw)(y:Step)(up:List Step)(h:Nat):ft v (y::up) h=ft v up (h+1)++(h+1,y.an,y.l)::aU v h (y.l.take y.at_):=rfl
theorem cD(v:Vw)(y:Step)(up:List Step)(h:Nat):dq v (y::up) h=aU v h (y.l.drop (y.at_+1))++dq v up (h+1):=rfl
theorem lj{a:List E}{c:E}{b:List E}(f:Wd v h y p a c b):y.l.take y.at_=a/\y.l.drop (y.at_+1)=b/\y.l.getD y.at_ Nd.E.zero=c:=by
 rw[f.l,f.at_];refine⟨qO,?_,?_⟩
 .rw[show a++c::b=(a++[c])++b by simp,List.drop_left' (by simp)]
 .simp[ib]
theorem mJ{a:List E}{c:E}{b:List E}(f:Wd v h y p a c b)(up:List Step)(k:ByteArray):Gb (y::up) k↔(a≠[]->oT c.key k)/\(∀e∈b,gq k e.key)/\Gb up k:=by
 obtain⟨h1,h2,h3⟩:=lj f;show((0<y.at_->oT (y.l.getD y.at_ Nd.E.zero).key k)/\(∀e∈y.l.drop (y.at_+1),gq k e.key)/\Gb up k)↔_;rw[h2,h3,f.at_];refine and_congr_left λ_=>?_
 constructor
 .exact λhh hn=>hh (vg.2 hn)
 .exact λhh hn=>hh (vg.1 hn)
theorem fr_in{a:List E}{c:E}{b:List E}(f:Wd v h y p a c b)(hp:jP v h p)(hn:fA v h p≠[])(hh:∀x∈fA v h p,(a≠[]->oT c.key x.key)/\∀e∈b,gq x.key e.key):jP v (h+1) y.an:=by
 unfold jP;rw[f.nd];refine⟨rfl,f.by_,f.bk,by rw[f.l];simp,λe he=>?_,?_,λe he=>?_⟩
 .rw[f.l]at he
  rcases aB.1 he with he|he
  .exact f.ch e (bT _ he)
  .rcases aj.1 he with rfl|he
   .rw[f.aQ];exact⟨hp,hn⟩
   .exact f.ch e (bC _ he)
 .show y.l.Pairwise _;have:=f.lo;rw[dO]at this;rw[f.l,dO,dW];refine⟨this.1,⟨λe he x hx=>?_,this.2.1⟩,λe he e' yl x hx=>?_⟩
  .rw[f.aQ]at hx;exact(hh x hx).2 e he
  .rcases aj.1 yl with rfl|yl
   .exact f.la e he x hx
   .exact this.2.2 e he e' yl x hx
 .have he:e∈y.l.tail:=he;rw[f.l]at he
  cases ha:a with
  |nil=>
   rw[ha]at he;exact f.hb e he
  |cons z a'=>
   have fc:a≠[]:=by rw[ha];simp
   have hha:=f.ha;rw[ha]at he hha;rw[m8,kV]at he;rw[kV]at hha
   rcases aB.1 he with he|he
   .exact hha e he
   .rcases aj.1 he with rfl|he
    .intro x hx;rw[f.aQ]at hx;exact(hh x hx).1 fc
    .exact f.hb e he
theorem plug :∀(up:List Step) (h:Nat) (p:Int),pf v up h p->jP v h p->(up≠[]->fA v h p≠[])->(∀x∈fA v h p,Gb up x.key)->
  jP v (h+up.length) 0/\ao v (h+up.length) 0=ft v up h++(ao v h p++dq v up h)
 |[],h,p,hH,ho,hn,hi=>by
  have e:p=0:=hH;subst e;exact⟨ho,by simp[dr,cE]⟩
 |y::up,h,p,hH,ho,hn,hi=>by
  obtain⟨⟨a,c,b,f,hs⟩,hU⟩:=hH;have N4:=λx hx=>(mJ f up x.key).1 (hi x hx);have hn:=hn (by simp);have o1:=fr_in f ho hn (λx hx=>⟨(N4 x hx).1,(N4 x hx).2.1⟩);obtain⟨t1,t2,t3⟩:=lj f;have e1:ao v (h+1) y.an=(h+1,y.an,y.l)::(aU v h a++(ao v h p++aU v h b)):=by
   rw[iw,f.nd];show _::aU v h y.l=_;rw[f.l,gG,cO,f.aQ,<-f.l]
  have hmem:∀x∈fA v (h+1) y.an,x∈fA v h p\/∃e∈a++b,x∈fA v h e.aQ:=λx hx=>by
   unfold fA at hx;rw[e1,kN,dA,dA]at hx
   rcases aB.1 hx with hx|hx
   .obtain⟨e,he,hx⟩:=db.1 hx;exact .inr ⟨e,bT _ he,hx⟩
   .rcases aB.1 hx with hx|hx
    .exact .inl hx
    .obtain⟨e,he,hx⟩:=db.1 hx;exact .inr ⟨e,bC _ he,hx⟩
  have fc:fA v (h+1) y.an≠[]:=λh0=>by
   unfold fA at h0;rw[e1,kN,dA,dA,JK,JK]at h0;exact hn h0.2.1
  obtain⟨r1,r2⟩:=plug up (h+1) y.an hU o1 (λ_=>fc) (λx hx=>by
   rcases hmem x hx with hx|⟨e,he,hx⟩
   .exact(N4 x hx).2.2
   .exact hs e he x hx)
  have hl:h+(y::up).length=h+1+up.length:=by simp;omega
  rw[hl];refine⟨r1,?_⟩;rw[r2,e1];simp only[de,cD,dr,cE];rw[t1,t2];simp
variable{l:List E}{v:Vw}{p:Int}{key:ByteArray}
theorem We(e:E)(k:ByteArray):Nd.rP e k=kc e.key k:=rfl
theorem Bc(hp:l.Pairwise λc e=>gq c.key e.key)(key:ByteArray):∃a b,l=a++b/\aY l key=a.length/\(∀e∈a,gq e.key key)/\
  ((cq l key=true/\∃c b',b=c::b'/\c.key=key/\∀e∈b',gq key e.key)\/(cq l key=false/\∀e∈b,gq key e.key)):=by
 have hle:aY l key<=l.length:=n7;have dP:∀e∈l.take (aY l key),gq e.key key:=λe he=>by
  obtain⟨j,hj,rfl⟩:=n8 he;rw[bK]at hj;have hj2:j<l.findIdx λe=>decide (0<=Nd.rP e key):=by unfold aY at hj;omega
  have:=Ep hj2;have:=of_decide_eq_false this;rw[List.getElem_take];rw[We]at this;show kc _ _<0;omega
 refine⟨l.take (aY l key),l.drop (aY l key),(kW _ _).symm,by rw[bK];omega,dP,?_⟩
 rcases dX (aY l key) l.length with hf|hf
 .have he:=nZ hf;have h0:0<=kc l[aY l key].key key:=by
   have:=pG (w:=show(l.findIdx λe=>decide (0<=Nd.rP e key))<l.length from hf);exact of_decide_eq_true this
  rw[he];have hp2:(l.drop (aY l key)).Pairwise λc e=>gq c.key e.key:=hp.sublist (List.drop_sublist _ _);rw[he,dW]at hp2;unfold cq;rw[aG hf];dsimp only;rw[We]
  by_cases hz:kc l[aY l key].key key=0
  .left;have hk:=Ox.1 hz;refine⟨by rw[decide_eq_true hz],_,_,rfl,hk,λe he=>?_⟩;rw[<-hk];exact hp2.1 e he
  .right;have hn:=MK l[aY l key].key key;have h1:gq key l[aY l key].key:=by show kc _ _<0;omega
   refine⟨by rw[decide_eq_false hz],λe he=>?_⟩
   rcases aj.1 he with rfl|he
   .exact h1
   .exact iU h1 (hp2.1 e he)
 .right;rw[lK hf];refine⟨?_,by simp⟩;unfold cq;rw[fG hf]
theorem I6(hp:l.Pairwise λc e=>gq c.key e.key)(hn:l≠[])(key:ByteArray):∃a c b,l=a++c::b/\bA l key=a.length/\(a≠[]->oT c.key key)/\∀e∈b,gq key e.key:=by
 obtain⟨a,b,hl,hf,ha,hb⟩:=Bc hp key;unfold bA
 rcases hb with⟨h1,c,b',rfl,hc,hb'⟩|⟨h1,hb⟩
 .rw[if_pos h1];exact⟨a,c,b',hl,hf,λ_=>by rw[hc];exact Oy _,hb'⟩
 .rw[if_neg (by rw[h1];simp),hf]
  rcases ss a with rfl|⟨a',c,rfl⟩
  .cases b with
   |nil=>exact absurd hl hn
   |cons c b'=>exact⟨[],c,b',hl,rfl,λh=>absurd rfl h,λe he=>hb e (aw _ he)⟩
  .refine⟨a',c,b,by rw[hl];simp,by simp,λ_=>ta (ha c (by simp)),hb⟩
theorem fr_of{h:Nat}{a b:List E}{c:E}(hd:gm v p=(false,l,0))(hb:ak l<=223)(hk:blank false l=l)(d:tg (jP v h) (fA v h) l)(hl:l=a++c::b)(hp:l.Pairwise λc e=>gq c.key e.key):
  Wd v h ⟨p,false,l,a.length⟩ c.aQ a c b:=by
 have JE:=d.lo;have QO:=d.hi;have hc:=d.c;rw[hl,dO,dW]at JE hp;refine⟨rfl,hd,hb,hk,hl,rfl,rfl,λe he=>?_,?_,λe he x hx=>JE.2.2 e he c (fK ..) x hx,λe he x hx=>?_,λe he x hx=>?_,λ_ e he=>hp.2.1.1 e he⟩
 .rw[hl]at hc
  rcases aB.1 he with he|he
  .exact hc e (bT _ he)
  .exact hc e (bC _ (aw _ he))
 .rw[dO];exact⟨JE.1,JE.2.1.2,λx hx y hy=>JE.2.2 x hx y (aw _ hy)⟩
 .rw[hl]at QO
  cases a with
  |nil=>exact absurd he (by simp)
  |cons z a'=>exact QO e (bT _ he) x hx
 .rw[hl]at QO
  cases a with
  |nil=>exact QO e he x hx
  |cons z a'=>exact QO e (bC _ (aw _ he)) x hx
theorem oU{leaf:Bool}(h:gm v p=(leaf,l,0)):l.Pairwise λc e=>gq c.key e.key:=by
 have:=I4 (oS (v:=v) (p:=p) (by rw[h]));rw[h]at this;exact this
structure WayV(v:Vw)(key:ByteArray)(up:List Step)(x:Step):Prop where
 hole:pf v up 0 x.an
 ok:jP v 0 x.an
 leaf:x.leaf=true
 nd:gm v x.an=(true,x.l,0)
 key:Gb up key
 ne:up≠[]->x.l≠[]
 Wf:∀e∈x.l,Gb up e.key
section
variable{v:Vw}{o:Vw}{mm:Nat}
theorem I8(key:ByteArray):∀(h m:Nat) (q:QS) (p:Int) (out up:List Step) (u:Nat),h<m->Rd q v o u mm->jP v h p->pf v up h p->Gb up key->(up≠[]->fA v h p≠[])->(∀x∈fA v h p,Gb up x.key)->
  Rd (nN key m q p out).1 v o u mm/\(((nN key m q p out).2.2=11/\mm<=u)\/((nN key m q p out).2.2=0/\∃mid x,(nN key m q p out).2.1=out++(mid++[x])/\mid.length=h/\WayV v key (mid.reverse++up) x))
 |h,0,q,p,out,up,u,hm,hR,hO,hH,hK,hN,hI=>absurd hm (by omega)
 |h,m+1,q,p,out,up,u,hm,hR,hO,hH,hK,hN,hI=>by
  obtain⟨r1,r2⟩:=hR.read p;unfold nN
  rcases r2 with r2|⟨r2,r3⟩
  .cases h with
   |zero=>
    have hO':=hO;obtain⟨o1,o2⟩:=hO;rw[r2,o1,if_neg (by simp),if_pos rfl];refine⟨r1,.inr ⟨rfl,[],⟨p,true,(gm v p).2.1,0⟩,by simp,rfl,hH,hO',rfl,o1,hK,λfc=>?_,λe he=>?_⟩⟩
    .have:=hN fc;rw[wH]at this;exact this
    .refine hI e ?_;rw[wH];exact he
   |succ h=>
    obtain⟨o1,o2,o4,o3⟩:=hO;obtain⟨l,hl⟩:∃l,(gm v p).2.1=l:=⟨_,rfl⟩;have rA:fA v (h+1) p=bV (aU v h l):=by rw[wH,hl];rfl
    rw[hl]at o1 o2 o3 o4;have hp:=oU o1;obtain⟨a,c,b,e1,e2,e3,e4⟩:=I6 hp o3.ne key;rw[r2,o1,if_neg (by simp),if_neg (by simp),if_neg o3.ne];dsimp only;have f:=fr_of o1 o2 o4 o3 e1 hp;rw[e2];have hc:l.getD a.length Nd.E.zero=c:=by rw[e1];simp[ib]
    rw[hc];have rV:∀e∈l,∀x∈fA v h e.aQ,Gb up x.key:=λe he x hx=>hI x (by rw[rA];exact db.2 ⟨e,he,hx⟩);have uQ:c∈l:=by rw[e1];simp
    have hs1:∀x∈fA v h c.aQ,a≠[]->oT c.key x.key:=λx hx fc=>by
     have QO:=o3.hi;rw[e1]at QO
     cases a with
     |nil=>exact absurd rfl fc
     |cons z a'=>exact QO c (by simp) x hx
    have hs2:∀x∈fA v h c.aQ,∀e∈b,gq x.key e.key:=λx hx e he=>by
     have JE:=o3.lo;rw[e1,dO,dW]at JE;exact JE.2.1.1 e he x hx
    obtain⟨i1,i2⟩:=I8 key h m (q.bh p).1 c.aQ (out++[⟨p,false,l,a.length⟩]) (⟨p,false,l,a.length⟩::up) u (by omega) r1 (o3.c c uQ).1
     ⟨⟨a,c,b,f,λe he x hx=>rV e (by rw[e1];rcases aB.1 he with he|he<;>simp[he]) x hx⟩,hH⟩ ((mJ f up key).2 ⟨e3,e4,hK⟩) (λ_=>(o3.c c uQ).2)
     (λx hx=>(mJ f up x.key).2 ⟨hs1 x hx,hs2 x hx,rV c uQ x hx⟩)
    .refine⟨i1,i2.imp id ?_⟩;rintro⟨j1,mid,x,j2,j3,j4⟩;refine⟨j1,⟨p,false,l,a.length⟩::mid,x,by rw[j2];simp,by simp[j3],?_⟩;rw[List.reverse_cons,cy];exact j4
  .rw[r2,if_pos (by simp)];exact⟨r1,.inl ⟨rfl,r3⟩⟩
theorem Gc{q:QS}{u H:Nat}(hR:Rd q v o u mm)(hO:jP v H 0)(hH:H<=15)(key:ByteArray):
  Rd (q.eJ key).1 v o u mm/\(((q.eJ key).2.2=11/\mm<=u)\/((q.eJ key).2.2=0/\∃up x,(q.eJ key).2.1=up.reverse++[x]/\up.length=H/\WayV v key up x)):=by
 obtain⟨a,b⟩:=I8 key H 16 q 0 [] [] u (by omega) hR hO rfl trivial (λh=>absurd rfl h) (λ_ _=>trivial);refine⟨a,b.imp id ?_⟩;rintro⟨b1,mid,x,b2,b3,b4⟩;rw[jh]at b4;exact⟨b1,mid.reverse,x,by rw[List.reverse_reverse];exact b2,by simp[b3],b4⟩
end
theorem Wg :∀{up:List Step} {h:Nat} {p:Int},pf v up h p->Gb up key->∀x∈bV (ft v up h),gq x.key key
 |[],_,_,_,_,x,hx=>absurd hx (by simp[dr])
 |y::up,h,p,hH,hK,x,hx=>by
  obtain⟨⟨a,c,b,f,hs⟩,hU⟩:=hH;obtain⟨k1,k2,k3⟩:=(mJ f up key).1 hK;simp only[de]at hx;rw[(lj f).1,dA,kN]at hx
  rcases aB.1 hx with hx|hx
  .exact Wg hU k3 x hx
  .obtain⟨e,he,hx⟩:=db.1 hx;exact gi (f.la e he x hx) (k1 (λh0=>by rw[h0]at he;simp at he))
theorem Oz :∀{up:List Step} {h:Nat} {p:Int},pf v up h p->Gb up key->∀x∈bV (dq v up h),gq key x.key
 |[],_,_,_,_,x,hx=>absurd hx (by simp[cE])
 |y::up,h,p,hH,hK,x,hx=>by
  obtain⟨⟨a,c,b,f,hs⟩,hU⟩:=hH;obtain⟨k1,k2,k3⟩:=(mJ f up key).1 hK;simp only[cD]at hx;rw[(lj f).2.1,dA]at hx
  rcases aB.1 hx with hx|hx
  .obtain⟨e,he,hx⟩:=db.1 hx;exact gi (k2 e he) (f.hb e he x hx)
  .exact Oz hU k3 x hx
theorem Bd{up:List Step}{x:Step}(k:WayV v key up x):jP v up.length 0/\ao v up.length 0=ft v up 0++(0,x.an,x.l)::dq v up 0/\
  (∀e∈bV (ft v up 0),gq e.key key)/\(∀e∈bV (dq v up 0),gq key e.key)/\fA v up.length 0=bV (ft v up 0)++(x.l++bV (dq v up 0)):=by
 have hl:fA v 0 x.an=x.l:=by rw[wH,k.nd];rfl
 obtain⟨a,b⟩:=plug up 0 x.an k.hole k.ok (by rw[hl];exact k.ne) (by rw[hl];exact k.Wf);rw[bl]at a b;have e:ao v 0 x.an=[(0,x.an,x.l)]:=by unfold ao;rw[k.nd]
 rw[e]at b;refine⟨a,b,Wg k.hole k.key,Oz k.hole k.key,?_⟩;unfold fA;rw[b,dA,tL,ML]
variable{l la lb:List E}{v:Vw}{h:Nat}
theorem I9(l:List E):∀j,∃t nt,Nd.rl l j t nt
 |0=>⟨1,-1,.inl ⟨rfl,rfl,rfl⟩⟩
 |j+1=>by
  obtain⟨t,nt,h⟩:=I9 l j
  by_cases h1:nt<0\/Nd.kJ l (j+1)<nt
  .exact⟨_,_,Nd.Dr h rfl h1⟩
  .exact⟨_,_,Nd.Ds h rfl (λh2=>h1 (.inl h2)) (λh2=>h1 (.inr h2))⟩
theorem best_ex(l:List E)(m:Nat)(h:2<=m):∃t,Nd.wi l m t:=by
 obtain⟨t,nt,h1⟩:=I9 l (m-1)
 rcases h1 with⟨h1,_⟩|⟨h1,h2,_⟩
 .omega
 .rw[show m-1+1=m by omega]at h2;exact⟨t,h2⟩
theorem eH(a b:List E):ak (a++b)=ak a+ak b:=by simp[ak]
theorem eG(e:E)(b:List E):ak (e::b)=e.key.size+e.val.size+7+ak b:=by simp[ak]
def mN(h:Nat):Nat:=if h=0 then 151 else 131
def yO(h:Nat):Nat:=if h=0 then 73 else 92
theorem Ri(h:Nat)(hc:∀e∈l,Nd.cost e<=if h=0 then 79 else 39)(hT:223<ak l)(hT2:ak l<=302):
  ∃la lb,l=la++lb/\l.take (bF l)=la/\l.drop (bF l)=lb/\la≠[]/\lb≠[]/\ak la<=223/\ak lb<=223/\(ak la-mN h)+(ak lb-mN h)+yO h<=ak l-mN h:=by
 have hc2:∀e∈l,Nd.cost e<=79:=λe he=>aq (hc e he) (by split<;>omega);have hn:2<=l.length:=by
  match l,hc2,hT with
  |[],_,hT=>exact absurd hT (by simp[ak])
  |[e],hc,hT=>
   have:=hc e (by simp);unfold Nd.cost at this;rw[eG]at hT;have:ak []=0:=rfl;omega
  |_::_::_,_,_=>simp
 obtain⟨t,hB⟩:=best_ex l l.length hn;have ht:=Nd.Om hB;obtain⟨f1,f2⟩:=Nd.QT hc2 hn hT2 hB;obtain⟨i,h1,h2,h3⟩:=Nd.Dt l hc hn;have h4:=hB.2.2.1 i h1 h2;have h5:=Nd.xJ l t;have hb:=hB.2.1;have ha:=hB.1;refine⟨l.take t,l.drop t,(kW _ _).symm,by rw[ht],by rw[ht],λh=>?_,λh=>?_,f1,f2,?_⟩
 .have:=congrArg List.length h;rw[bK]at this;have:min t l.length=0:=this;omega
 .have:=congrArg List.length h;rw[dY]at this;have:l.length-t=0:=this;omega
 .have h6:=Int.le_trans h4 h3;simp only[Nd.kJ]at h6;unfold mN yO
  by_cases h0:h=0
  .rw[if_pos h0]at h6 ⊢;rw[if_pos h0];omega
  .rw[if_neg h0]at h6 ⊢;rw[if_neg h0];omega
theorem Wh{C:Int->Prop}{en:Int->List E}(d:tg C en (la++lb))(ha:la≠[])(hb:lb≠[]):tg C en la/\tg C en lb/\
  (∀e∈la,∀x∈en e.aQ,gq x.key (keyOf lb))/\∀e∈lb,∀x∈en e.aQ,oT (keyOf lb) x.key:=by
 obtain⟨ne,c,lo,hi⟩:=d
 cases la with
 |nil=>exact absurd rfl ha
 |cons a la=>
  cases lb with
  |nil=>exact absurd rfl hb
  |cons b lb=>
   have hk:keyOf (b::lb)=b.key:=rfl;rw[hk];rw[dO]at lo;rw[m8,kV]at hi;have yg:=hi b (by simp);refine⟨⟨ha,λe he=>c e (bT _ he),lo.1,λe he=>hi e (bT _ he)⟩,⟨hb,λe he=>c e (bC _ he),lo.2.1,λe he=>hi e (bC _ (aw _ he))⟩,λe he=>lo.2.2 e he b (by simp),λe he x hx=>?_⟩
   rcases aj.1 he with rfl|he
   .exact yg x hx
   .obtain⟨y,hy⟩:=pF _ (c b (by simp)).2;have h1:=(dW.1 lo.2.1).1 e he y hy;exact nS (ta (iV (yg y hy) h1)) (hi e (by simp[he]) x hx)
theorem wI(v:Vw)(h:Nat)(a b:List E):gw v h (a++b)=gw v h a++gw v h b:=by
 cases h with
 |zero=>rfl
 |succ h=>show bV _=bV _++bV _;rw[gG,dA]
theorem mi(v:Vw)(h:Nat)(a b:List E):cw v h (a++b)=cw v h a++cw v h b:=by
 cases h with
 |zero=>rfl
 |succ h=>exact gG _ _ _ _
theorem mj(k:fQ v h l)(hn:l≠[]):gw v h l≠[]:=by
 cases h with
 |zero=>exact hn
 |succ h=>
  cases l with
  |nil=>exact absurd rfl hn
  |cons e l=>
   intro h0;have h0:bV (aU v h (e::l))=[]:=h0;rw[cO,dA,JK]at h0;exact(k.2.c e (by simp)).2 h0.1
theorem th(k:fQ v h (la++lb))(ha:la≠[])(hb:lb≠[]):fQ v h la/\fQ v h lb/\(∀x∈gw v h la,gq x.key (keyOf lb))/\(∀x∈gw v h lb,oT (keyOf lb) x.key)/\(keyOf lb).size<=32:=by
 have hr:=k.1;have xP:(keyOf lb).size<=32:=by
  cases lb with
  |nil=>exact absurd rfl hb
  |cons b lb=>exact(hr b (by simp)).1
 cases h with
 |zero=>
  have hp:(la++lb).Pairwise λc e=>gq c.key e.key:=k.2;rw[dO]at hp;refine⟨⟨λe he=>hr e (bT _ he),hp.1⟩,⟨λe he=>hr e (bC _ he),hp.2.1⟩,λx hx=>?_,λx hx=>?_,xP⟩
  .cases lb with
   |nil=>exact absurd rfl hb
   |cons b lb=>exact hp.2.2 x hx b (by simp)
  .cases lb with
   |nil=>exact absurd rfl hb
   |cons b lb=>
    rcases aj.1 hx with rfl|hx
    .exact Oy _
    .exact ta ((dW.1 hp.2.1).1 x hx)
 |succ h=>
  obtain⟨p1,p2,p3,p4⟩:=Wh k.2 ha hb;refine⟨⟨λe he=>hr e (bT _ he),p1⟩,⟨λe he=>hr e (bC _ he),p2⟩,λx hx=>?_,λx hx=>?_,xP⟩
  .obtain⟨e,he,hx⟩:=db.1 hx;exact p3 e he x hx
  .obtain⟨e,he,hx⟩:=db.1 hx;exact p4 e he x hx
theorem MN(k:fQ v h l):fQ v h (blank (decide (h=0)) l):=by
 cases h with
 |zero=>exact(kO l).symm▸k
 |succ h=>
  refine⟨λe he=>?_,Wb.2 k.2⟩;have he:e∈blank false l:=he
  cases l with
  |nil=>exact absurd he (by simp[blank])
  |cons c l=>
   have hb:blank false (c::l)={c with key:=⟨#[]⟩}::l:=rfl;rw[hb]at he
   rcases aj.1 he with rfl|he
   .obtain⟨a,b,cc⟩:=k.1 c (by simp);exact⟨bf _,b,cc⟩
   .exact k.1 e (by simp[he])
theorem Ja(v:Vw)(h:Nat)(l:List E):cw v h (blank (decide (h=0)) l)=cw v h l:=by
 cases h with
 |zero=>rfl
 |succ h=>exact Bb _ _ _ _
theorem Jb(v:Vw)(h:Nat)(l:List E):gw v h (blank (decide (h=0)) l)=gw v h l:=by
 cases h with
 |zero=>exact kO l
 |succ h=>show bV _=bV _;exact congrArg bV (Bb _ _ _ _)
theorem MO(leaf:Bool)(l:List E):blank leaf (blank leaf l)=blank leaf l:=by cases leaf<;>cases l<;>rfl
theorem uF{p:Int}(k:fQ v h l)(hb:ak (blank (decide (h=0)) l)<=223)(hd:gm v p=(decide (h=0),blank (decide (h=0)) l,0)):
  jP v h p/\ao v h p=(h,p,blank (decide (h=0)) l)::cw v h l/\fA v h p=gw v h l:=by
 refine⟨list_ok hd hb (MO _ _) (MN k),?_,?_⟩
 .rw[iw,hd,Ja]
 .rw[wH,hd,Jb]
theorem uG(k:fQ v h l)(hb:ak (blank (decide (h=0)) l)<=223):(bH (decide (h=0)) l).2=0:=by
 rcases nR (decide (h=0)) l with h1|h1|h1
 .exact h1.2.2.1
 .omega
 .exact absurd (I5 k) h1.1
theorem MP(k:fQ v h l)(hb:223<ak (blank (decide (h=0)) l)):bH (decide (h=0)) l=([],11):=by
 rcases nR (decide (h=0)) l with h1|h1|h1
 .omega
 .exact h1.2.2
 .exact absurd (I5 k) h1.1
theorem Gd :∀(h:Nat) (p:Int),jP v h p->∀j∈bt (ao v h p),(v j).2=0
 |0,p,ho,j,hj=>by
  have:j=p:=by simpa [ao]using hj
  subst this;exact mH (by rw[ho.1])
 |h+1,p,ho,j,hj=>by
  unfold ao at hj;rw[da]at hj
  rcases aj.1 hj with rfl|hj
  .exact mH (by rw[ho.1])
  .simp only[bt,dm,mO]at hj;obtain⟨n,⟨c,hc,hn⟩,rfl⟩:=hj;exact Gd h c.aQ (ho.2.2.2.c c hc).1 _ (dm.2 ⟨n,hn,rfl⟩)
theorem wJ(hc:∀e∈l,jP v h e.aQ):∀j∈bt (aU v h l),(v j).2=0:=λj hj=>by
 unfold aU at hj;simp only[bt,dm,mO]at hj;obtain⟨n,⟨c,hc',hn⟩,rfl⟩:=hj;exact Gd h c.aQ (hc c hc') _ (dm.2 ⟨n,hn,rfl⟩)
theorem DJ(k:fQ v h l):∀j∈bt (cw v h l),(v j).2=0:=by
 cases h with
 |zero=>intro j hj;exact absurd hj (by simp[cw])
 |succ h=>exact wJ λe he=>(k.2.c e he).1
theorem DK :∀(up:List Step) (h:Nat) (p:Int),pf v up h p->(∀j∈bt (ft v up h),(v j).2=0)/\∀j∈bt (dq v up h),(v j).2=0
 |[],h,p,_=>⟨λj hj=>absurd hj (by simp[dr]),λj hj=>absurd hj (by simp[cE])⟩
 |y::up,h,p,hH=>by
  obtain⟨⟨a,c,b,f,hs⟩,hU⟩:=hH;obtain⟨i1,i2⟩:=DK up (h+1) y.an hU;obtain⟨t1,t2,t3⟩:=lj f;simp only[de,cD,dr,cE];rw[t1,t2];refine⟨λj hj=>?_,λj hj=>?_⟩
  .rw[cX,da]at hj
   rcases aB.1 hj with hj|hj
   .exact i1 j hj
   .rcases aj.1 hj with rfl|hj
    .exact mH (by rw[f.nd])
    .exact wJ (λe he=>(f.ch e (bT _ he)).1) j hj
  .rw[cX]at hj
   rcases aB.1 hj with hj|hj
   .exact wJ (λe he=>(f.ch e (bC _ he)).1) j hj
   .exact i2 j hj
theorem gU{v':Vw}:∀(up:List Step) (h:Nat) (p:Int),pf v up h p->(∀j∈bt (ft v up h),v' j=v j)->(∀j∈bt (dq v up h),v' j=v j)->pf v' up h p/\ft v' up h=ft v up h/\dq v' up h=dq v up h
 |[],h,p,hH,_,_=>⟨hH,rfl,rfl⟩
 |y::up,h,p,hH,h1,h2=>by
  obtain⟨⟨a,c,b,f,hs⟩,hU⟩:=hH;obtain⟨t1,t2,t3⟩:=lj f;simp only[de]at h1;simp only[cD]at h2;rw[t1,cX,da]at h1;rw[t2,cX]at h2;obtain⟨i1,i2,i3⟩:=gU up (h+1) y.an hU (λj hj=>h1 j (bT _ hj)) (λj hj=>h2 j (bC _ hj));obtain⟨ka,kb⟩:=gS (v:=v) (v':=v') (h:=h) (l:=a) (λj hj=>h1 j (bC _ (aw _ hj)))
  obtain⟨la,lb⟩:=gS (v:=v) (v':=v') (h:=h) (l:=b) (λj hj=>h2 j (bT _ hj));have hk:∀e∈a++b,ao v' h e.aQ=ao v h e.aQ/\(jP v h e.aQ->jP v' h e.aQ):=λe he=>(aB.1 he).elim (kb e) (lb e);have he:∀e∈a++b,fA v' h e.aQ=fA v h e.aQ:=λe hm=>by unfold fA;rw[(hk e hm).1]
  have hna:∀e∈a,fA v' h e.aQ=fA v h e.aQ:=λe hm=>he e (bT _ hm);have Oq:∀e∈b,fA v' h e.aQ=fA v h e.aQ:=λe hm=>he e (bC _ hm);have hny:gm v' y.an=gm v y.an:=wE (h1 _ (bC _ (fK ..)))
  refine⟨⟨⟨a,c,b,⟨f.leaf,by rw[hny];exact f.nd,f.by_,f.bk,f.l,f.at_,f.aQ,λe hm=>⟨(hk e hm).2 (f.ch e hm).1,by rw[he e hm];exact(f.ch e hm).2⟩,?_,λe hm x hx=>f.la e hm x (by rw[<-hna e hm];exact hx),λe hm x hx=>f.ha e hm x (by rw[<-hna e (tJ hm)];exact hx),λe hm x hx=>f.hb e hm x (by rw[<-Oq e hm];exact hx),f.hc⟩,λe hm x hx=>hs e hm x (by rw[<-he e hm];exact hx)⟩,i1⟩,?_,?_⟩
  .refine List.Pairwise.imp_of_mem ?_ f.lo;intro x y hx hy hxy z hz;rw[he x hx]at hz;exact hxy z hz
  .simp only[de,dr];rw[t1,i2,ka]
  .simp only[cD,cE];rw[t2,i3,la]
def dQ(wt:Nat->Nat)(ns:List NT):Nat:=(ns.map λn=>wt n.1*(ak n.2.2-mN n.1)).sum
@[simp] theorem Wi(wt:Nat->Nat):dQ wt []=0:=rfl
@[simp] theorem jn(wt:Nat->Nat)(a b:List NT):dQ wt (a++b)=dQ wt a+dQ wt b:=by simp[dQ]
@[simp] theorem eI(wt:Nat->Nat)(n:NT)(a:List NT):dQ wt (n::a)=wt n.1*(ak n.2.2-mN n.1)+dQ wt a:=by simp[dQ]
def Jc(wt:Nat->Nat)(c:Nat):Prop:= ∀i,39*wt (i+1)+c<=yO i*wt i
theorem MQ(a:List E)(c n:E)(b:List E):(a++c::b).insertIdx (a.length+1) n=a++c::n::b:=by
 induction a with
 |nil=>rfl
 |cons x a ih=>rw[m8,fo,JW,ih];rfl
theorem wK(a:List E)(c:E)(b:List E):(a++c::b).eraseIdx a.length=a++b:=by
 induction a with
 |nil=>rfl
 |cons x a ih=>rw[m8,fo,List.eraseIdx_cons_succ,ih];rfl
variable{v v':Vw}{h:Nat}{x:Step}{up:List Step}
structure Cp(v:Vw)(h:Nat)(x:Step)(up:List Step):Prop where
 hole:pf v up h x.an
 leaf:x.leaf=decide (h=0)
 here:(v x.an).2=0
 ok:fQ v h x.l
 ne:x.l≠[]
 bk:blank x.leaf x.l=x.l
 Wf:∀e∈gw v h x.l,Gb up e.key
 BR:(bt (ft v up h)++x.an::(bt (cw v h x.l)++bt (dq v up h))).Nodup
 sz:ak x.l<=302
def dg(v:Vw)(h:Nat)(x:Step)(up:List Step):List NT:=ft v up h++(h,x.an,x.l)::(cw v h x.l++dq v up h)
structure Grown(v v':Vw)(H H':Nat)(ns:List NT)(new:List Int):Prop where
 ok:jP v' H' 0
 en:fA v' H' 0=bV ns
 pg:(bt (ao v' H' 0)).Perm (bt ns++new)
 fresh:∀j∈new,v j=([],3)
 BR:new.Nodup
 o:∀j,j∉bt ns->j∉new->v' j=v j
 Gv:∀wt c,Jc wt c->dQ wt (ao v' H' 0)+c*new.length<=dQ wt ns+(if H'=H then 0 else c*2-yO H*wt H)
 h:H'=H\/(H'=H+1/\∀wt c,Jc wt c->yO H*wt H<=dQ wt ns)
theorem fF(v:Vw)(h:Nat)(x:Step)(up:List Step):bt (dg v h x up)=bt (ft v up h)++x.an::(bt (cw v h x.l)++bt (dq v up h)):=by
 unfold dg;simp
theorem kQ(v:Vw)(h:Nat)(x:Step)(up:List Step):bV (dg v h x up)=bV (ft v up h)++(gw v h x.l++bV (dq v up h)):=by
 unfold dg
 cases h with
 |zero=>simp[cw,gw]
 |succ h=>simp[cw,gw]
theorem Cp.cost(P:Cp v h x up):∀e∈x.l,Nd.cost e<=if h=0 then 79 else 39:=λe he=>by
 obtain⟨a,b,c,d,f⟩:=P.ok.1 e he;unfold Nd.cost
 by_cases h0:h=0
 .rw[if_pos h0];omega
 .rw[if_neg h0];rw[decide_eq_false h0,if_neg (by simp)]at c
  rcases f with f|f<;>omega
theorem Cp.nin(P:Cp v h x up):(∀j∈bt (ft v up h),j≠x.an)/\(∀j∈bt (cw v h x.l),j≠x.an)/\∀j∈bt (dq v up h),j≠x.an:=by
 have:=P.BR;rw[ik,fu]at this;obtain⟨_,⟨a,_⟩,b⟩:=this;refine⟨λj hj e=>b j hj x.an (by simp) e,λj hj e=>a (by rw[<-e];exact bT _ hj),λj hj e=>a (by rw[<-e];exact bC _ hj)⟩
theorem Be(hole:pf v up h x.an)(ok:fQ v h x.l)(ne:up≠[]->x.l≠[])(Wf:∀e∈gw v h x.l,Gb up e.key)
 (BR:(bt (ft v up h)++x.an::(bt (cw v h x.l)++bt (dq v up h))).Nodup)(hb:ak (blank (decide (h=0)) x.l)<=223)(hd:gm v' x.an=(decide (h=0),blank (decide (h=0)) x.l,0))(hv:∀j,j≠x.an->v' j=v j):
  jP v' (h+up.length) 0/\ao v' (h+up.length) 0=ft v up h++(h,x.an,blank (decide (h=0)) x.l)::(cw v h x.l++dq v up h)/\fA v' (h+up.length) 0=bV (dg v h x up):=by
 have hn:=BR;rw[ik,fu]at hn;obtain⟨_,⟨na,_⟩,nb⟩:=hn;obtain⟨c1,c2,c3⟩:=gU up h x.an hole (λj hj=>hv j (λe=>nb j hj x.an (by simp) e)) (λj hj=>hv j (λe=>na (by rw[<-e];exact bC _ hj)));obtain⟨l1,l2,l3⟩:=kP (v:=v) (v':=v') (h:=h) (l:=x.l) (λj hj=>hv j (λe=>na (by rw[<-e];exact bT _ hj)));obtain⟨k1,k2,k3⟩:=uF (l3 ok) hb hd
 obtain⟨p1,p2⟩:=plug up h x.an c1 k1 (λfc=>by rw[k3,l2];exact mj ok (ne fc)) (λe he=>by rw[k3,l2]at he;exact Wf e he);rw[c2,c3,k2,l1,m8]at p2;refine⟨p1,p2,?_⟩;unfold fA;rw[p2,kQ]
 cases h with
 |zero=>simp[cw,gw,kO]
 |succ h=>simp[cw,gw]
theorem Rj(P:Cp v h x up)(hb:ak x.l<=223)(hd:gm v' x.an=(decide (h=0),x.l,0))(hv:∀j,j≠x.an->v' j=v j):
  Grown v v' (h+up.length) (h+up.length) (dg v h x up) []:=by
 have hbk:=P.bk;rw[P.leaf]at hbk;obtain⟨p1,p2,p3⟩:=Be P.hole P.ok (λ_=>P.ne) P.Wf P.BR (by rw[hbk];exact hb) (by rw[hbk];exact hd) hv;rw[hbk]at p2;have e:ao v' (h+up.length) 0=dg v h x up:=p2;refine⟨p1,p3,by rw[e,jh],by simp,mP,λj hj _=>hv j (λej=>hj (by rw[fF,ej];simp)),λwt c _=>by rw[e,if_pos rfl];simp,.inl rfl⟩
theorem MU{l:List Int}{k:Int}(h:l.Nodup)(hk:k∉l):(l++[k]).Nodup:=by
 rw[ik];exact⟨h,by simp,λa ha b hb e=>hk (by rw[<-aI.1 hb,<-e];exact ha)⟩
theorem Rk{a b:List E}{c n:E}(h:blank false (a++c::b)=a++c::b):blank false (a++c::n::b)=a++c::n::b:=by
 cases a with
 |nil=>
  have h:({c with key:=⟨#[]⟩}:E)::b=c::b:=h;injection h with h1 h2
  show({c with key:=⟨#[]⟩}:E)::n::b=_;rw[h1];rfl
 |cons z a=>
  have h:({z with key:=⟨#[]⟩}:E)::(a++c::b)=z::(a++c::b):=h;injection h with h1 h2
  show({z with key:=⟨#[]⟩}:E)::(a++c::n::b)=_;rw[h1];rfl
theorem pend_up{v2:Vw}{y:Step}(P:Cp v h x (y::up)){la lb:List E}(hl:x.l=la++lb)(ha:la≠[])(hb:lb≠[])(ba:ak la<=223)(bb:ak lb<=223)(hs:(ak la-mN h)+(ak lb-mN h)+yO h<=ak x.l-mN h)
 {k:Nat}(hk:k<=511)(hvk:v (k:Nat)=([],3))(uS:gm v2 x.an=(decide (h=0),blank (decide (h=0)) la,0))(Qt:gm v2 (k:Nat)=(decide (h=0),blank (decide (h=0)) lb,0))(hv:∀j,j≠x.an->j≠(k:Nat)->v2 j=v j)(h2:(v2 x.an).2=0/\(v2 (k:Nat)).2=0):
  Cp v2 (h+1) {y with l:=y.l.insertIdx (y.at_+1) ⟨keyOf lb,⟨#[]⟩,(k:Nat)⟩} up/\
  ∀{v':Vw} {H':Nat} {new:List Int},Grown v2 v' (h+1+up.length) H' (dg v2 (h+1) {y with l:=y.l.insertIdx (y.at_+1) ⟨keyOf lb,⟨#[]⟩,(k:Nat)⟩} up) new->Grown v v' (h+(y::up).length) H' (dg v h x (y::up)) ((k:Nat)::new):=by
 obtain⟨⟨a,c,b,f,hsib⟩,hU⟩:=P.hole;obtain⟨t1,t2,t3⟩:=lj f;obtain⟨n1,n2,n3⟩:=P.nin;obtain⟨hh1,hh2⟩:=DK (y::up) h x.an P.hole;have hlk:=DJ P.ok;have nk:∀j,(v j).2=0->j≠(k:Nat):=λj hj e=>by rw[e,hvk]at hj;exact absurd hj (by decide)
 have lS:∀j∈bt (ft v (y::up) h),v2 j=v j:=λj hj=>hv j (n1 j hj) (nk j (hh1 j hj));have uH:∀j∈bt (dq v (y::up) h),v2 j=v j:=λj hj=>hv j (n3 j hj) (nk j (hh2 j hj));have Jd:∀j∈bt (cw v h x.l),v2 j=v j:=λj hj=>hv j (n2 j hj) (nk j (hlk j hj));obtain⟨H2,e1,e2⟩:=gU (y::up) h x.an P.hole lS uH;have fT:=P.ok;rw[hl]at fT Jd;rw[mi,cX]at Jd;obtain⟨sa,sb,s1,s2,s3⟩:=th fT ha hb
 obtain⟨ka1,ka2,ka3⟩:=kP (v:=v) (v':=v2) (h:=h) (l:=la) (λj hj=>Jd j (bT _ hj));obtain⟨kb1,kb2,kb3⟩:=kP (v:=v) (v':=v2) (h:=h) (l:=lb) (λj hj=>Jd j (bC _ hj));obtain⟨oa1,oa2,oa3⟩:=uF (ka3 sa) (aq (dG _ _) ba) uS;obtain⟨ob1,ob2,ob3⟩:=uF (kb3 sb) (aq (dG _ _) bb) Qt;rw[ka1]at oa2;rw[kb1]at ob2;rw[ka2]at oa3;rw[kb2]at ob3;obtain⟨⟨a',c',b',f2,Wj⟩,hU2⟩:=H2
 have pZ:a'=a/\c'=c/\b'=b:=by
  have q1:=(lj f2);exact⟨by rw[<-q1.1,t1],by rw[<-q1.2.2,t3],by rw[<-q1.2.1,t2]⟩
 obtain⟨rfl,rfl,rfl⟩:=pZ;obtain⟨n,hn⟩:∃n:E,n=⟨keyOf lb,⟨#[]⟩,(k:Nat)⟩:=⟨_,rfl⟩;have hnf:n.aQ=(k:Nat):=by rw[hn]
 have hnk:n.key=keyOf lb:=by rw[hn]
 rw[<-hn];have hins:y.l.insertIdx (y.at_+1) n=a'++c'::n::b':=by rw[f.l,f.at_,MQ]
 rw[hins];have hinP:=P.Wf;rw[hl,wI]at hinP;have inA:∀e∈gw v h la,(a'≠[]->oT c'.key e.key)/\(∀z∈b',gq e.key z.key)/\Gb up e.key:=λe he=>(mJ f up e.key).1 (hinP e (bT _ he));have inB:∀e∈gw v h lb,(a'≠[]->oT c'.key e.key)/\(∀z∈b',gq e.key z.key)/\Gb up e.key:=λe he=>(mJ f up e.key).1 (hinP e (bC _ he));have neA:=mj sa ha;have neB:=mj sb hb;have enc:fA v2 h c'.aQ=gw v h la:=by rw[f.aQ,oa3]
 have enn:fA v2 h n.aQ=gw v h lb:=by rw[hnf,ob3]
 have nO:=mh (oS (v:=v) (p:=y.an) (by rw[f.nd]));rw[f.nd]at nO;have nO:∀e∈a'++c'::b',cW e false:=by rw[<-f.l];exact nO
 have flo:=f2.lo;rw[dO]at flo;have hin2:tg (jP v2 h) (fA v2 h) (a'++c'::n::b'):=by
  refine⟨by simp,λe he=>?_,?_,λe he=>?_⟩
  .rcases aB.1 he with he|he
   .exact f2.ch e (bT _ he)
   .rcases aj.1 he with rfl|he
    .exact⟨by rw[f.aQ];exact oa1,by rw[enc];exact neA⟩
    .rcases aj.1 he with rfl|he
     .exact⟨by rw[hnf];exact ob1,by rw[enn];exact neB⟩
     .exact f2.ch e (bC _ he)
  .rw[dO,dW,dW];refine⟨flo.1,⟨λe he x hx=>?_,λe he x hx=>?_,flo.2.1⟩,λe he e' yl x hx=>?_⟩
   .rw[enc]at hx
    rcases aj.1 he with rfl|he
    .rw[hnk];exact s1 x hx
    .exact(inA x hx).2.1 e he
   .rw[enn]at hx;exact(inB x hx).2.1 e he
   .rcases aj.1 yl with rfl|yl
    .exact f2.la e he x hx
    .rcases aj.1 yl with rfl|yl
     .rw[hnk];obtain⟨z,hz⟩:=pF _ neA;exact iU (gi (f2.la e he x hx) ((inA z hz).1 (λh0=>by rw[h0]at he;simp at he))) (s1 z hz)
     .exact flo.2.2 e he e' yl x hx
  .have hmid:∀e∈n::b',∀x∈fA v2 h e.aQ,oT e.key x.key:=λe he x hx=>by
    rcases aj.1 he with rfl|he
    .rw[enn]at hx;rw[hnk];exact s2 x hx
    .exact f2.hb e he x hx
   cases ha':a' with
   |nil=>
    rw[ha']at he;exact hmid e he
   |cons z a2=>
    have fc:a'≠[]:=by rw[ha'];simp
    have hha:=f2.ha;rw[ha']at he hha;rw[m8,kV]at he;rw[kV]at hha
    rcases aB.1 he with he|he
    .exact hha e he
    .rcases aj.1 he with rfl|he
     .intro x hx;rw[enc]at hx;exact(inA x hx).1 fc
     .exact hmid e he
 have xV:aU v2 h (a'++c'::n::b')=aU v h a'++((h,x.an,blank (decide (h=0)) la)::cw v h la++((h,((k:Nat):Int),blank (decide (h=0)) lb)::cw v h lb++aU v h b')):=by
  rw[gG,cO,cO,f.aQ,hnf,oa2,ob2];have q1:aU v2 h a'=aU v h a':=(gS (λj hj=>lS j (by simp only[de,dr];rw[t1,cX,da];exact bC _ (aw _ hj)))).1;have q2:aU v2 h b'=aU v h b':=(gS (λj hj=>uH j (by simp only[cD,cE];rw[t2,cX];exact bT _ hj))).1;rw[q1,q2]
 have Bf:ft v2 up (h+1)=ft v up (h+1):=by
  exact(gU up (h+1) y.an hU (λj hj=>lS j (by simp only[de,dr];rw[cX];exact bT _ hj)) (λj hj=>uH j (by simp only[cD,cE];rw[cX];exact bC _ hj))).2.1
 have tr:dq v2 up (h+1)=dq v up (h+1):=by
  exact(gU up (h+1) y.an hU (λj hj=>lS j (by simp only[de,dr];rw[cX];exact bT _ hj)) (λj hj=>uH j (by simp only[cD,cE];rw[cX];exact bC _ hj))).2.2
 have hold:bt (dg v h x (y::up))=bt (ft v up (h+1))++(y.an::bt (aU v h a'))++x.an::((bt (cw v h la)++bt (cw v h lb))++(bt (aU v h b')++bt (dq v up (h+1)))):=by
  rw[fF,hl,mi,cX];simp only[de,cD,dr,cE];rw[t1,t2];simp
 have Rl:bt (dg v2 (h+1) {y with l:=a'++c'::n::b'} up)=bt (ft v up (h+1))++y.an::(bt (aU v h a')++(x.an::bt (cw v h la)++(((k:Nat):Int)::bt (cw v h lb)++bt (aU v h b')))++bt (dq v up (h+1))):=by
  rw[fF];show bt (ft v2 up (h+1))++y.an::(bt (aU v2 h (a'++c'::n::b'))++bt (dq v2 up (h+1)))=_;rw[xV,Bf,tr];simp
 have r9:(bt (dg v2 (h+1) {y with l:=a'++c'::n::b'} up)).Perm (bt (dg v h x (y::up))++[((k:Nat):Int)]):=by
  rw[Rl,hold,Et];intro j;simp only[JO,JP,List.count_nil];omega
 have hknin:((k:Nat):Int)∉bt (dg v h x (y::up)):=λhm=>by
  rw[fF]at hm
  rcases aB.1 hm with hm|hm
  .exact nk _ (hh1 _ hm) rfl
  .rcases aj.1 hm with hm|hm
   .exact nk _ P.here hm.symm
   .rcases aB.1 hm with hm|hm
    .exact nk _ (hlk _ hm) rfl
    .exact nk _ (hh2 _ hm) rfl
 have Je:=P.BR;rw[<-fF]at Je;have hnod:(bt (dg v2 (h+1) {y with l:=a'++c'::n::b'} up)).Nodup:=r9.nodup_iff.2 (MU Je hknin);have hcostn:n.key.size+n.val.size+7<=39:=by rw[hn];show(keyOf lb).size+0+7<=39;omega
 have hby:=f.by_;rw[f.l,eH,eG]at hby;have J2:ak (a'++c'::n::b')<=ak y.l+39:=by
  rw[f.l,eH,eH,eG,eG,eG];omega
 refine⟨⟨hU2,?_,?_,⟨λe he=>?_,hin2⟩,by simp,?_,λe he=>?_,?_,?_⟩,λ{v' H' new} G=>?_⟩
 .show y.leaf=decide (h+1=0);rw[f.leaf];rfl
 .exact mH (by show(gm v2 y.an).2.2=0;rw[f2.nd])
 .rcases aB.1 he with he|he
  .exact nO e (bT _ he)
  .rcases aj.1 he with rfl|he
   .exact nO _ (by simp)
   .rcases aj.1 he with rfl|he
    .rw[hn];exact⟨s3,bf _,by show(if(decide (h+1=0))=true then(-1:Int)else 0)<=((k:Nat):Int);split<;>omega,by show((k:Nat):Int)<512;omega,.inr rfl⟩
    .exact nO e (bC _ (aw _ he))
 .show blank y.leaf _=_;rw[f.leaf];exact Rk (by rw[<-f.l];exact f.bk)
 .have he:e∈bV (aU v2 h (a'++c'::n::b')):=he;obtain⟨z,hz,hx⟩:=db.1 he;have sib:∀z∈a'++b',e∈fA v2 h z.aQ->Gb up e.key:=λz hz hx=>Wj z hz e hx
  rcases aB.1 hz with hz|hz
  .exact sib z (bT _ hz) hx
  .rcases aj.1 hz with rfl|hz
   .rw[enc]at hx;exact(inA e hx).2.2
   .rcases aj.1 hz with rfl|hz
    .rw[enn]at hx;exact(inB e hx).2.2
    .exact sib z (bC _ hz) hx
 .rw[<-fF];exact hnod
 .have:=f.by_;show ak (a'++c'::n::b')<=302;omega
 .have Wl:∀wt c,Jc wt c->dQ wt (dg v2 (h+1) {y with l:=a'++c'::n::b'} up)+c<=dQ wt (dg v h x (y::up)):=λwt c hw=>by
   have h1:=hw h;have h2:=dG (decide (h=0)) la;have h3:=dG (decide (h=0)) lb;have e3:dQ wt (dg v2 (h+1) {y with l:=a'++c'::n::b'} up)=dQ wt (ft v up (h+1))+(wt (h+1)*(ak (a'++c'::n::b')-mN (h+1))+(dQ wt (aU v h a')+((wt h*(ak (blank (decide (h=0)) la)-mN h)+dQ wt (cw v h la))+((wt h*(ak (blank (decide (h=0)) lb)-mN h)+dQ wt (cw v h lb))+dQ wt (aU v h b')))+dQ wt (dq v up (h+1)))):=by
    unfold dg;show dQ wt (ft v2 up (h+1)++(h+1,y.an,a'++c'::n::b')::(aU v2 h (a'++c'::n::b')++dq v2 up (h+1)))=_;rw[xV,Bf,tr];simp only[jn,eI]
   have e4:dQ wt (dg v h x (y::up))=(dQ wt (ft v up (h+1))+(wt (h+1)*(ak y.l-mN (h+1))+dQ wt (aU v h a')))+(wt h*(ak x.l-mN h)+((dQ wt (cw v h la)+dQ wt (cw v h lb))+(dQ wt (aU v h b')+dQ wt (dq v up (h+1))))):=by
    unfold dg;simp only[de,cD,dr,cE];rw[t1,t2];simp only[jn,eI];rw[show cw v h x.l=cw v h la++cw v h lb by rw[hl,mi]];simp only[jn]
   have m1:wt (h+1)*(ak (a'++c'::n::b')-mN (h+1))<=wt (h+1)*(ak y.l-mN (h+1))+wt (h+1)*39:=by
    rw[<-om];exact lW _ (by omega)
   have m2:wt h*(ak (blank (decide (h=0)) la)-mN h)+wt h*(ak (blank (decide (h=0)) lb)-mN h)+yO h*wt h<=wt h*(ak x.l-mN h):=by
    rw[mQ (yO h),<-om,<-om];exact lW _ (by omega)
   rw[e3,e4];omega
  have hHl:h+(y::up).length=h+1+up.length:=by simp;omega
  have hmemP:∀j,j∈bt (dg v2 (h+1) {y with l:=a'++c'::n::b'} up)↔j∈bt (dg v h x (y::up))\/j=(k:Nat):=λj=>by rw[r9.mem_iff];simp
  have hxin:x.an∈bt (dg v h x (y::up)):=by rw[fF];simp
  rw[hHl];refine⟨G.ok,?_,?_,λj hj=>?_,?_,λj h1 h3=>?_,λwt c hw=>?_,?_⟩
  .rw[G.en,kQ,kQ];show bV (ft v2 up (h+1))++(bV (aU v2 h (a'++c'::n::b'))++bV (dq v2 up (h+1)))=_;rw[gG,cO,cO,dA,dA,dA];have q1:aU v2 h a'=aU v h a':=(gS (λj hj=>lS j (by simp only[de,dr];rw[t1,cX,da];exact bC _ (aw _ hj)))).1
   have q2:aU v2 h b'=aU v h b':=(gS (λj hj=>uH j (by simp only[cD,cE];rw[t2,cX];exact bT _ hj))).1;have q3:bV (ao v2 h c'.aQ)=gw v h la:=enc;have q4:bV (ao v2 h n.aQ)=gw v h lb:=enn;rw[q1,q2,q3,q4,Bf,tr,hl,wI];simp only[de,cD,dr,cE];rw[t1,t2];simp
  .refine G.pg.trans ?_;refine(r9.append_right new).trans ?_;simp
  .rcases aj.1 hj with rfl|hj
   .exact hvk
   .have:=G.fresh j hj;rw[hv j]at this
    .exact this
    .intro e;rw[e]at this;rw[this]at h2;exact absurd h2.1 (by decide)
    .intro e;rw[e]at this;rw[this]at h2;exact absurd h2.2 (by decide)
  .rw[fu];refine⟨λhm=>?_,G.BR⟩;have:=G.fresh _ hm;rw[this]at h2;exact absurd h2.2 (by decide)
  .rw[aj,not_or]at h3;rw[G.o j (by rw[hmemP];rintro(h5|h5);exact h1 h5;exact h3.1 h5) h3.2];exact hv j (λe=>h1 (by rw[e];exact hxin)) h3.1
  .have p1:=G.Gv wt c hw;have p2:=Wl wt c hw;rw[fo,Nat.mul_succ];omega
  .refine G.h.imp id (λ⟨h5,h6⟩=>⟨h5,λwt c hw=>?_⟩);have p1:=h6 wt c hw;have p2:=Wl wt c hw;omega
theorem grow_ok{v v3:Vw}{h:Nat}{x:Step}(P:Cp v h x []){la lb:List E}(hl:x.l=la++lb)(ha:la≠[])(hb:lb≠[])(ba:ak la<=223)(bb:ak lb<=223)(hs:(ak la-mN h)+(ak lb-mN h)+yO h<=ak x.l-mN h)
  {k1 k2:Nat}(hk1:k1<=511)(hk2:k2<=511)(po:v (k1:Nat)=([],3))(pB:v (k2:Nat)=([],3))(fc:k1≠k2)
  (uS:gm v3 (k1:Nat)=(decide (h=0),blank (decide (h=0)) la,0))(Qt:gm v3 (k2:Nat)=(decide (h=0),blank (decide (h=0)) lb,0))
  (hd0:gm v3 0=(false,[⟨⟨#[]⟩,⟨#[]⟩,(k1:Nat)⟩,⟨keyOf lb,⟨#[]⟩,(k2:Nat)⟩],0))(hv:∀j:Int,j≠0->j≠(k1:Nat)->j≠(k2:Nat)->v3 j=v j):
  Grown v v3 h (h+1) (dg v h x []) [(k1:Nat),(k2:Nat)]:=by
 have Ci:x.an=0:=P.hole;have hlk:=DJ P.ok;have hkin:=P.nin.2.1;have fT:=P.ok;rw[hl]at fT;obtain⟨sa,sb,s1,s2,s3⟩:=th fT ha hb;have nk1:∀j,(v j).2=0->j≠(k1:Nat):=λj hj e=>by rw[e,po]at hj;exact absurd hj (by decide)
 have nk2:∀j,(v j).2=0->j≠(k2:Nat):=λj hj e=>by rw[e,pB]at hj;exact absurd hj (by decide)
 have Jd:∀j∈bt (cw v h x.l),v3 j=v j:=λj hj=>hv j (by rw[<-Ci];exact hkin j hj) (nk1 j (hlk j hj)) (nk2 j (hlk j hj));rw[hl,mi,cX]at Jd;obtain⟨ka1,ka2,ka3⟩:=kP (v:=v) (v':=v3) (h:=h) (l:=la) (λj hj=>Jd j (bT _ hj));obtain⟨kb1,kb2,kb3⟩:=kP (v:=v) (v':=v3) (h:=h) (l:=lb) (λj hj=>Jd j (bC _ hj));obtain⟨oa1,oa2,oa3⟩:=uF (ka3 sa) (aq (dG _ _) ba) uS
 obtain⟨ob1,ob2,ob3⟩:=uF (kb3 sb) (aq (dG _ _) bb) Qt;rw[ka1]at oa2;rw[kb1]at ob2;rw[ka2]at oa3;rw[kb2]at ob3;have neA:=mj sa ha;have neB:=mj sb hb;have rV:tg (jP v3 h) (fA v3 h) [⟨⟨#[]⟩,⟨#[]⟩,(k1:Nat)⟩,⟨keyOf lb,⟨#[]⟩,(k2:Nat)⟩]:=by
  refine⟨by simp,λe he=>?_,?_,λe he=>?_⟩
  .simp only[aj,gP,or_false]at he
   rcases he with rfl|rfl
   .exact⟨oa1,by show fA v3 h _≠[];rw[oa3];exact neA⟩
   .exact⟨ob1,by show fA v3 h _≠[];rw[ob3];exact neB⟩
  .rw[dW];refine⟨λe he y hy=>?_,Es _ _⟩;rw[aI.1 he];have hy:y∈fA v3 h (k1:Nat):=hy;rw[oa3]at hy;exact s1 y hy
  .have he:e∈[(⟨keyOf lb,⟨#[]⟩,(k2:Nat)⟩:E)]:=he;rw[aI.1 he];intro y hy;have hy:y∈fA v3 h (k2:Nat):=hy;rw[ob3]at hy;exact s2 y hy
 have hbyt:ak [(⟨⟨#[]⟩,⟨#[]⟩,(k1:Nat)⟩:E),⟨keyOf lb,⟨#[]⟩,(k2:Nat)⟩]<=46:=by
  rw[eG,eG];show 0+0+7+((keyOf lb).size+0+7+0)<=46;omega
 have hO:jP v3 (h+1) 0:=⟨by rw[hd0],by rw[hd0];exact aq hbyt (by decide),by rw[hd0];rfl,by rw[hd0];exact rV⟩;have OE:ao v3 (h+1) 0=(h+1,0,[⟨⟨#[]⟩,⟨#[]⟩,(k1:Nat)⟩,⟨keyOf lb,⟨#[]⟩,(k2:Nat)⟩])::(((h,((k1:Nat):Int),blank (decide (h=0)) la)::cw v h la)++((h,((k2:Nat):Int),blank (decide (h=0)) lb)::cw v h lb)):=by
  rw[iw,hd0];show _::aU v3 h _=_;rw[cO,cO,Rh,jh,<-oa2,<-ob2]
 have NR:dg v h x []=(h,0,x.l)::cw v h x.l:=by unfold dg;simp only[de,cD,dr,cE];rw[Ci];simp
 refine⟨hO,?_,?_,λj hj=>?_,?_,λj h1 h2=>?_,λwt c hw=>?_,.inr ⟨rfl,λwt c hw=>?_⟩⟩
 .unfold fA;rw[OE,kN,dA,<-oa2,<-ob2,kQ];simp only[de,cD,dr,cE];rw[hl,wI];show fA v3 h _++fA v3 h _=_;rw[oa3,ob3];simp
 .rw[OE,NR,hl,mi,Et];intro j;simp only[da,cX,JO,JP,List.count_nil];omega
 .simp only[aj,gP,or_false]at hj
  rcases hj with rfl|rfl
  .exact po
  .exact pB
 .rw[fu];refine⟨λhm=>?_,by simp⟩;have:=aI.1 hm;omega
 .rw[NR]at h1;simp only[da,aj,not_or,gP,or_false]at h1 h2;exact hv j h1.1 h2.1 h2.2
 .have h1:=hw h;have h2:=dG (decide (h=0)) la;have h3:=dG (decide (h=0)) lb;rw[OE,NR,hl,mi,if_neg (by omega)];simp only[eI,jn];rw[<-hl];have m2:wt h*(ak (blank (decide (h=0)) la)-mN h)+wt h*(ak (blank (decide (h=0)) lb)-mN h)+yO h*wt h<=wt h*(ak x.l-mN h):=by
   rw[mQ (yO h),<-om,<-om];exact lW _ (by omega)
  have m3:wt (h+1)*(ak [(⟨⟨#[]⟩,⟨#[]⟩,(k1:Nat)⟩:E),⟨keyOf lb,⟨#[]⟩,(k2:Nat)⟩]-mN (h+1))=0:=by
   rw[Nat.sub_eq_zero_of_le (aq hbyt (by unfold mN;split<;>omega)),tP]
  rw[m3];show _+c*2<=_;omega
 .rw[NR,eI];show yO h*wt h<=wt h*(ak x.l-mN h)+_;have:yO h*wt h<=wt h*(ak x.l-mN h):=by rw[mQ];exact lW _ (by omega)
  omega
section
variable{o:Vw}{mm:Nat}
theorem xW:∀(m:Nat) (up:List Step) (h:Nat) (x:Step) (q:QS) (v:Vw) (u:Nat),up.length<m->Cp v h x up->Rd q v o u mm->
  ((gf m (x::up) q).2=11/\∃v' u',Rd (gf m (x::up) q).1 v' o u' mm/\u'<=u+up.length+2/\(mm<=u'\/512<=u'))\/
  ((gf m (x::up) q).2=0/\∃v' new H',Rd (gf m (x::up) q).1 v' o (u+new.length) mm/\Grown v v' (h+up.length) H' (dg v h x up) new)
 |0,up,h,x,q,v,u,hm,P,R=>absurd hm (by omega)
 |m+1,up,h,x,q,v,u,hm,P,R=>by
  have hbk:=P.bk;have sN:=P.leaf;rw[sN]at hbk
  by_cases hT:ak x.l<=223
  .have qB:=uG P.ok (by rw[hbk];exact hT);rw[<-sN]at qB;have e:gf (m+1) (x::up) q=q.cN x.an x.leaf x.l:=by
    unfold gf;rw[if_pos (.inr qB)]
   rw[e]
   rcases R.write P.here qB with⟨w1,w2⟩|⟨w1,w2,w3⟩
   .refine .inr ⟨w1,_,[],_,w2,Rj P hT ?_ (λj hj=>?_)⟩
    .rw[gh qB,if_pos rfl,sN,hbk]
    .unfold jj;rw[if_neg hj]
   .exact .inl ⟨w1,_,u,w2,by omega,.inl w3⟩
  .have IQ:=MP P.ok (by rw[hbk];omega);rw[<-sN]at IQ;have ew:q.cN x.an x.leaf x.l=(q,11):=by rw[Rg q x.an (by rw[IQ];decide),IQ]
   obtain⟨la,lb,e1,e2,e3,ha,hb,ba,bb,hs⟩:=Ri h P.cost (by omega) P.sz;have fT:=P.ok;rw[e1]at fT;obtain⟨sa,sb,s1,s2,s3⟩:=th fT ha hb;have la0:(bH x.leaf la).2=0:=by rw[sN];exact uG sa (aq (dG _ _) ba)
   have lb0:(bH x.leaf lb).2=0:=by rw[sN];exact uG sb (aq (dG _ _) bb)
   cases up with
   |nil=>
    have Ci:x.an=0:=P.hole;have e:gf (m+1) [x] q=q.AQ x.leaf la lb:=by
     unfold gf;rw[ew,if_neg (by rw[IQ];simp)];dsimp only;rw[e2,e3]
    rw[e];unfold QS.AQ
    rcases R.make la0 with⟨k1,a1,a2,a3,a4⟩|⟨a1,a2,a3⟩
    .rw[a1,if_neg (by simp)];dsimp only
     rcases a4.make lb0 with⟨k2,b1,b2,b3,b4⟩|⟨b1,b2,b3⟩
     .rw[b1,if_neg (by simp)];dsimp only;have fc:k1≠k2:=λe=>by
       unfold jj at b3;rw[e,if_pos rfl]at b3;exact absurd (congrArg Prod.snd b3) (by show ¬(0:Int)=3;decide)
      have pB:v (k2:Nat)=([],3):=by
       unfold jj at b3;rw[if_neg (by omega)]at b3;exact b3
      have NL:(v 0).2=0:=by have h0:=P.here;rw[Ci]at h0;exact h0
      have h0k1:(0:Int)≠(k1:Nat):=λe=>by rw[<-e]at a3;rw[a3]at NL;exact absurd NL (by simp)
      have h0k2:(0:Int)≠(k2:Nat):=λe=>by rw[<-e]at pB;rw[pB]at NL;exact absurd NL (by simp)
      have hL:(bH false [⟨⟨#[]⟩,⟨#[]⟩,(k1:Nat)⟩,⟨keyOf lb,⟨#[]⟩,(k2:Nat)⟩]).2=0:=by
       rcases nR false [⟨⟨#[]⟩,⟨#[]⟩,(k1:Nat)⟩,⟨keyOf lb,⟨#[]⟩,(k2:Nat)⟩]with h1|h1|h1
       .exact h1.2.2.1
       .have h2:=h1.2.1;have h3:blank false [(⟨⟨#[]⟩,⟨#[]⟩,(k1:Nat)⟩:E),⟨keyOf lb,⟨#[]⟩,(k2:Nat)⟩]=[⟨⟨#[]⟩,⟨#[]⟩,(k1:Nat)⟩,⟨keyOf lb,⟨#[]⟩,(k2:Nat)⟩]:=rfl;rw[h3,eG,eG]at h2;have h4:0+0+7+((keyOf lb).size+0+7+0)>223:=h2;omega
       .exfalso;refine h1.1 ?_;show dL [(⟨⟨#[]⟩,⟨#[]⟩,(k1:Nat)⟩:E),⟨keyOf lb,⟨#[]⟩,(k2:Nat)⟩] false;refine MM (λz hz=>?_) ?_
        .simp only[aj,gP,or_false]at hz
         rcases hz with rfl|rfl
         .exact⟨bf _,bf _,by show(if false=true then(-1:Int)else 0)<=((k1:Nat):Int);rw[if_neg (by simp)];omega,by show((k1:Nat):Int)<512;omega,.inr rfl⟩
         .exact⟨s3,bf _,by show(if false=true then(-1:Int)else 0)<=((k2:Nat):Int);rw[if_neg (by simp)];omega,by show((k2:Nat):Int)<512;omega,.inr rfl⟩
        .rw[dW];refine⟨λz hz=>?_,Es _ _⟩;rw[aI.1 hz];obtain⟨y,hy⟩:=pF _ (mj sa ha);exact iV (DI y.key) (s1 y hy)
      have ku:(jj (jj v (k1:Nat) (bH x.leaf la).1) (k2:Nat) (bH x.leaf lb).1 0).2=0:=by
       rw[l5 _ _ h0k2,l5 _ _ h0k1];exact NL
      rcases b4.write ku hL with⟨c1,c2⟩|⟨c1,c2,c3⟩
      .refine .inr ⟨c1,_,[(k1:Nat),(k2:Nat)],h+1,c2,?_⟩;refine grow_ok P e1 ha hb ba bb hs a2 b2 a3 pB fc ?_ ?_ ?_ (λj j1 j2 j3=>?_)
       .rw[gh hL,if_neg (λe=>h0k1 e.symm),gh lb0,if_neg (by omega),gh la0,if_pos rfl,sN]
       .rw[gh hL,if_neg (λe=>h0k2 e.symm),gh lb0,if_pos rfl,sN]
       .rw[gh hL,if_pos rfl];rfl
       .rw[l5 _ _ j1,l5 _ _ j3,l5 _ _ j2]
      .exact .inl ⟨c1,_,_,c2,by simp,.inl c3⟩
     .rw[b1,if_pos (by simp)];exact .inl ⟨rfl,_,u+1+1,b2,by simp,b3.imp (λh=>by omega) (λh=>by omega)⟩
    .rw[a1,if_pos (by simp)];exact .inl ⟨rfl,_,u+1,a2,by omega,a3.imp (λh=>by omega) (λh=>by omega)⟩
   |cons y up=>
    have e:gf (m+1) (x::y::up) q=if(q.eC x.leaf lb).2.2≠0 then((q.eC x.leaf lb).1,(q.eC x.leaf lb).2.2)
      else if((q.eC x.leaf lb).1.cN x.an x.leaf la).2≠0 then(q.eC x.leaf lb).1.cN x.an x.leaf la
      else gf m ({y with l:=y.l.insertIdx (y.at_+1) ⟨keyOf lb,⟨#[]⟩,(q.eC x.leaf lb).2.1⟩}::up) ((q.eC x.leaf lb).1.cN x.an x.leaf la).1:=by
     rw[gf,ew,if_neg (by rw[IQ];simp)];dsimp only;rw[e2,e3]
    rw[e]
    rcases R.make lb0 with⟨k,a1,a2,a3,a4⟩|⟨a1,a2,a3⟩
    .rw[a1,if_neg (by simp)];dsimp only;have hxk:x.an≠(k:Nat):=λe=>by have h0:=P.here;rw[e,a3]at h0;exact absurd h0 (by decide)
     have hz:(jj v (k:Nat) (bH x.leaf lb).1 x.an).2=0:=by
      unfold jj;rw[if_neg hxk];exact P.here
     rcases a4.write hz la0 with⟨c1,c2⟩|⟨c1,c2,c3⟩
     .rw[if_neg (by rw[c1];simp)];obtain⟨P2,hG⟩:=pend_up (v2:=jj (jj v (k:Nat) (bH x.leaf lb).1) x.an (bH x.leaf la).1) P e1 ha hb ba bb hs a2 a3 (by rw[gh la0,if_pos rfl,sN]) (by rw[gh la0,if_neg (λe=>hxk e.symm),gh lb0,if_pos rfl,sN])
       (λj j1 j2=>by unfold jj;rw[if_neg j1,if_neg j2]) ⟨by unfold jj;rw[if_pos rfl],by unfold jj;rw[if_neg (λe=>hxk e.symm),if_pos rfl]⟩
      rcases xW m up (h+1) _ _ _ (u+1) (by simp at hm;omega) P2 c2 with⟨d1,v',u',d2,d3,d4⟩|⟨d1,v',new,H',d2,d3⟩
      .exact .inl ⟨d1,v',u',d2,by simp;omega,d4⟩
      .refine .inr ⟨d1,v',(k:Nat)::new,H',?_,hG d3⟩;rw[fo,show u+(new.length+1)=u+1+new.length by omega];exact d2
     .rw[if_pos (by rw[c1];simp)];exact .inl ⟨c1,_,_,c2,by omega,.inl c3⟩
    .rw[a1,if_pos (by simp)];exact .inl ⟨rfl,_,u+1,a2,by omega,a3.imp (λh=>by omega) (λh=>by omega)⟩
end
open Nd (E)
variable{v v':Vw}{q:QS}{u:Nat}{L:List Int}{e:E}{val:ByteArray}
def Rn(v:Vw)(l:Int):Int×List UInt8×Int:=
 if(v l).2≠0 then(0,[],(v l).2)else if 228<bS ((v l).1.take 232) 2 then(0,[],14)else((bS ((v l).1.take 232) 0:Int)-1,(((v l).1.take 232).drop 4).take (bS ((v l).1.take 232) 2),0)
def JG(v:Vw):Int->List Int->List UInt8->Prop
 |p,[],b=>p= -1/\b=[]
 |p,q::L,b=>p=q/\∃nx pc b',Rn v q=(nx,pc,0)/\b=pc++b'/\JG v nx L b'
theorem rdC_ok{q nx:Int}{pc:List UInt8}(h:Rn v q=(nx,pc,0)):(v q).2=0:=by
 unfold Rn at h
 by_cases h0:(v q).2=0
 .exact h0
 .rw[if_pos h0,Prod.mk.injEq,Prod.mk.injEq]at h;exact absurd h.2.2 h0
theorem Ro{q:Int}(h:v' q=v q):Rn v' q=Rn v q:=by unfold Rn;rw[h]
theorem JG.here :∀{L:List Int} {p:Int} {b:List UInt8},JG v p L b->∀q∈L,(v q).2=0
 |[],_,_,_=>by simp
 |q::L,p,b,h=>by
  obtain⟨rfl,nx,pc,b',h1,h2,h3⟩:=h;intro x hx
  rcases aj.1 hx with rfl|hx
  .exact rdC_ok h1
  .exact h3.here x hx
theorem JG.congr :∀{L:List Int} {p:Int} {b:List UInt8},JG v p L b->(∀q∈L,v' q=v q)->JG v' p L b
 |[],_,_,h,_=>h
 |q::L,p,b,h,e=>by
  obtain⟨rfl,nx,pc,b',h1,h2,h3⟩:=h;exact⟨rfl,nx,pc,b',by rw[Ro (e p (fK ..))];exact h1,h2,h3.congr (λx hx=>e x (aw _ hx))⟩
section
variable{o:Vw}{mm:Nat}
theorem JG.neg(R:Rd q v o u mm){p:Int}{b:List UInt8}(h:JG v p L b):p<0↔L=[]:=by
 cases L with
 |nil=>obtain⟨rfl,rfl⟩:=h;exact⟨λ_=>rfl,λ_=>by omega⟩
 |cons q L=>
  have:=R.lt (h.here q (fK ..));obtain⟨rfl,_⟩:=h;exact⟨λh=>by omega,λh=>absurd h (by simp)⟩
theorem Rd.dV(R:Rd q v o u mm)(p:Int):Rd (q.dV p).1 v o u mm/\((q.dV p).2=Rn v p\/((q.dV p).2=(0,[],11)/\mm<=u)):=by
 obtain⟨a,b⟩:=R.get p;unfold QS.dV Rn
 rcases b with⟨b1,b2⟩|⟨b1,b2⟩|⟨b1,b2⟩
 .rw[b2,if_neg (show ¬((⟨((v p).1.take 232).toArray⟩:ByteArray),(0:Int)).2≠0 by simp),if_neg (show ¬(v p).2≠0 by omega)]
  by_cases hx:228<bS ((v p).1.take 232) 2
  .have hx2:228<bS (⟨((v p).1.take 232).toArray⟩:ByteArray).data.toList 2:=hx;rw[if_pos hx2,if_pos hx];exact⟨a,.inl rfl⟩
  .have hx2:¬228<bS (⟨((v p).1.take 232).toArray⟩:ByteArray).data.toList 2:=hx;rw[if_neg hx2,if_neg hx];exact⟨a,.inl rfl⟩
 .rw[b2,b1,if_pos (by simp),if_pos (by simp)];exact⟨a,.inl rfl⟩
 .rw[b1,if_pos (by simp)];exact⟨a,.inr ⟨rfl,b2⟩⟩
theorem tt:∀{L:List Int} {p:Int} {b:List UInt8} (m:Nat) (l:List Int) (acc:List UInt8) (q:QS) (v:Vw) (u:Nat),Rd q v o u mm->JG v p L b->L≠[]->L.length<=m->(acc++b).length<=1024->
  Rd (q.mB m p l acc).1 v o u mm/\((q.mB m p l acc).2=(l++L,acc++b,0)\/((q.mB m p l acc).2=([],[],11)/\mm<=u))
 |[],_,_,_,_,_,_,_,_,_,_,h,_,_=>absurd rfl h
 |c::L,p,b,0,_,_,_,_,_,_,_,_,h,_=>by simp at h
 |c::L,p,b,m+1,l,acc,q,v,u,R,h,_,hm,hb=>by
  obtain⟨rfl,nx,pc,b',h1,rfl,h3⟩:=h;obtain⟨r1,r2⟩:=R.dV p;unfold QS.mB
  rcases r2 with r2|⟨r2,r3⟩
  .rw[h1]at r2;rw[r2];dsimp only;rw[if_neg (by omega),if_neg (by omega),if_neg (by simp at hb ⊢;omega)];have zG:=h3.neg R
   by_cases hn:nx<0
   .have hL:=zG.1 hn;subst hL;obtain⟨_,rfl⟩:=h3;rw[if_pos hn,jh];exact⟨r1,.inl rfl⟩
   .have hL:L≠[]:=λe=>hn (zG.2 e);rw[if_neg hn];obtain⟨i1,i2⟩:=tt m (l++[p]) (acc++pc) (q.dV p).1 v u r1 h3 hL (by simpa using hm) (by simpa [cy]using hb);refine⟨i1,i2.imp (λe=>?_) id⟩;rw[e];simp
  .rw[r2];dsimp only;rw[if_neg (by omega),if_pos (by omega)];exact⟨r1,.inr ⟨rfl,r3⟩⟩
def mK(v:Vw)(L:List Int):Vw:=λj=>if j∈L then([],3)else v j
theorem Bg(v:Vw):mK v []=v:=by funext j;simp[mK]
theorem Bh:∀(L:List Int) (q:QS) (v:Vw) (u:Nat),Rd q v o u mm->L.Nodup->(∀j∈L,(v j).2=0)->(q.um L).2=0/\Rd (q.um L).1 (mK v L) o u mm
 |[],q,v,u,R,_,_=>by rw[Bg];exact⟨rfl,R⟩
 |p::L,q,v,u,R,hn,hh=>by
  rw[fu]at hn;obtain⟨a,b⟩:=R.drop p (hh p (by simp));unfold QS.um;rw[if_neg (by rw[a];simp)];obtain⟨c,d⟩:=Bh L (q.aR p).1 _ u b hn.2 (λj hj=>by
   have fc:j≠p:=λe=>hn.1 (by rw[<-e];exact hj);rw[F0 v fc];exact hh j (by simp[hj]))
  refine⟨c,?_⟩;have e:mK (Co v p) L=mK v (p::L):=by
   funext j
   unfold mK Co
   by_cases h1:j∈L
   .rw[if_pos h1,if_pos (by simp[h1])]
   .rw[if_neg h1]
    by_cases h2:j=p
    .rw[if_pos h2,if_pos (by simp[h2])]
    .rw[if_neg h2,if_neg (by simp[h1,h2])]
  rw[<-e];exact d
theorem Rd.dropAny(R:Rd q v o u mm)(p:Int):∃v',Rd (q.aR p).1 v' o u mm:=by
 rcases R.err p with h|h
 .exact⟨_,(R.drop p h).2⟩
 .obtain⟨n,K,w⟩:=R.w;obtain⟨a,c⟩:=w.drop p
  rcases c with⟨c1,c2,c3⟩|⟨c1,c2,c3⟩
  .rw[R.v]at c1;have c1:(v p).2=0:=c1;rw[h]at c1;exact absurd c1 (by decide)
  .exact⟨v,R.step (I1 q p) ⟨n,_,a.w⟩ (λj=>(c3 j).trans (R.v j)) (λj hj=>R.t j (VY q p j hj))⟩
theorem xX:∀(L:List Int) (q:QS) (v:Vw) (u:Nat),Rd q v o u mm->∃v',Rd (q.mY L) v' o u mm
 |[],q,v,u,R=>⟨v,R⟩
 |p::L,q,v,u,R=>by
  obtain⟨v1,R1⟩:=R.dropAny p;rw[QS.uo];exact xX L _ _ _ R1
theorem link_rd(next:Nat)(v:List UInt8)(i:Nat)(hn:next<60000):(j9 v i ((next:Int)-1)).length<=232/\bS (eO (j9 v i ((next:Int)-1)) 232) 0=next/\bS (eO (j9 v i ((next:Int)-1)) 232) 2=(dU v i).length/\((eO (j9 v i ((next:Int)-1)) 232).drop 4).take (dU v i).length=dU v i:=by
 have hp:(dU v i).length<=228:=by unfold dU;rw[bK];omega
 unfold j9 eO;rw[show((next:Int)-1+1).toNat=next by omega];generalize dU v i=pc at *;unfold p7 bS;refine⟨by simp;omega,?_,?_,?_⟩
 .simp;omega
 .simp;omega
 .simp
theorem Rp(v:List UInt8)(i:Nat):(dU v i).length<=228:=by unfold dU;rw[bK];omega
theorem MV(v:List UInt8)(i:Nat):v.drop (228*i)=dU v i++v.drop (228*(i+1)):=by
 unfold dU;rw[show 228*(i+1)=228*i+228 by omega,<-ix,kW]
theorem DL(val:List UInt8):∀(i:Nat) (q:QS) (v:Vw) (u:Nat) (next:Int) (made:List Int) (L:List Int),Rd q v o u mm->JG v next L (val.drop (228*i))-> -1<=next->next<=511->
  ((QS.sQ val i q next made).2.2=11/\∃v' u',Rd (QS.sQ val i q next made).1 v' o u' mm/\u'<=u+i/\(mm<=u'\/512<=u'))\/
  ((QS.sQ val i q next made).2.2=0/\ -1<=(QS.sQ val i q next made).2.1/\(QS.sQ val i q next made).2.1<=511/\∃v' new,Rd (QS.sQ val i q next made).1 v' o (u+new.length) mm/\JG v' (QS.sQ val i q next made).2.1 (new++L) val/\new.length=i/\(∀j∈new,v j=([],3))/\new.Nodup/\∀j,j∉new->v' j=v j)
 |0,q,v,u,next,made,L,R,hc,h1,h2=>by
  right;exact⟨rfl,h1,h2,v,[],R,hc,rfl,by simp,mP,λ_ _=>rfl⟩
 |i+1,q,v,u,next,made,L,R,hc,h1,h2=>by
  obtain⟨nx,rfl⟩:∃nx:Nat,next=(nx:Int)-1:=⟨(next+1).toNat,by omega⟩;obtain⟨k1,k2,k3,k4⟩:=link_rd nx val i (by omega);unfold QS.sQ;have hn:=R.new ⟨(j9 val i ((nx:Int)-1)).toArray⟩ (by show(j9 val i _).toArray.size<=232;rw[lV];exact k1);have hd:(⟨(j9 val i ((nx:Int)-1)).toArray⟩:ByteArray).data.toList=j9 val i ((nx:Int)-1):=rfl;rw[hd]at hn
  rcases hn with⟨k,a1,a2,a3,a4⟩|⟨a1,a2,a3⟩
  .rw[if_neg (by rw[a1];simp),show(q.bJ (j9 val i ((nx:Int)-1))).2.1=((k:Nat):Int)from by rw[a1]];have hch:JG (jj v (k:Nat) (eO (j9 val i ((nx:Int)-1)) 232)) (k:Nat) ((k:Nat)::L) (val.drop (228*i)):=by
    refine⟨rfl,(nx:Int)-1,dU val i,val.drop (228*(i+1)),?_,MV val i,hc.congr (λx hx=>?_)⟩
    .unfold Rn;have uR:=Rp val i;rw[DG,if_neg (by simp)];dsimp only;rw[cr (qP (lz _ k1)),k3,if_neg (by omega),k2,k4]
    .have Fh:=hc.here x hx;have fc:x≠((k:Nat):Int):=λe=>by rw[e,a3]at Fh;exact absurd Fh (by decide)
     exact l5 v _ fc
   rcases DL val i _ _ (u+1) ((k:Nat):Int) (made++[((k:Nat):Int)]) ((k:Nat)::L) a4 hch (by omega) (by omega)with⟨b1,v',u',b2,b3,b4⟩|⟨b1,b2,b3,v',new,b4,b5,b6,b7,b8,b9⟩
   .exact .inl ⟨b1,v',u',b2,by omega,b4⟩
   .refine .inr ⟨b1,b2,b3,v',new++[((k:Nat):Int)],by rw[aO,tG,show u+(new.length+1)=u+1+new.length by omega];exact b4,by rw[cy];exact b5,by simp[b6],λj hj=>?_,?_,λj hj=>?_⟩
    .rcases aB.1 hj with hj|hj
     .have h3:=b7 j hj
      by_cases e:j=((k:Nat):Int)
      .rw[e];exact a3
      .rw[l5 v _ e]at h3;exact h3
     .rw[aI.1 hj];exact a3
    .rw[ik];refine⟨b8,by simp,λx hx y hy e=>?_⟩;rw[aI.1 hy]at e;have h3:=b7 x hx;rw[e,DG]at h3;exact absurd (congrArg Prod.snd h3) (by show ¬(0:Int)=3;decide)
    .rw[aB,not_or]at hj;rw[b9 j hj.1,l5 v _ (λe=>hj.2 (by simp[e]))]
  .rw[if_pos (by rw[a1];simp)];left;obtain⟨v1,R1⟩:=xX made _ _ _ a2;exact⟨by show(q.bJ _).2.2=11;rw[a1],v1,u+1,R1,by omega,a3.imp (λh=>by omega) (λh=>by omega)⟩
def Jf(v:Vw)(e:E)(val:ByteArray)(L:List Int):Prop:=
 (e.aQ= -1/\e.val=val/\L=[]/\val.size<=40)\/(0<=e.aQ/\e.aQ<=511/\e.val.size=0/\L≠[]/\L.length=(eF val.size).toNat/\40<val.size/\val.size<=1024/\JG v e.aQ L val.data.toList/\L.Nodup)
theorem uI{n:Nat}(h:n<=1024):1<=(eF n).toNat/\(eF n).toNat<=5/\n<=228*(eF n).toNat:=by
 unfold eF;omega
theorem Jf.congr(h:Jf v e val L)(hv:∀j∈L,v' j=v j):Jf v' e val L:=by
 rcases h with h|⟨a,b,z,c,d,f,g,i,j⟩
 .exact .inl h
 .exact .inr ⟨a,b,z,c,d,f,g,i.congr hv,j⟩
theorem Jf.here(h:Jf v e val L):∀j∈L,(v j).2=0:=by
 rcases h with⟨_,_,h,_⟩|⟨a,b,z,c,d,f,g,i,j⟩
 .rw[h];simp
 .exact i.here
theorem Jf.nodup(h:Jf v e val L):L.Nodup:=by
 rcases h with⟨_,_,h,_⟩|⟨a,b,z,c,d,f,g,i,j⟩
 .rw[h];exact mP
 .exact j
theorem tu(R:Rd q v o u mm)(h:Jf v e val L):
  Rd (q.fI e).1 v o u mm/\((q.fI e).2=(val,0)\/((q.fI e).2.2=11/\mm<=u)):=by
 unfold QS.fI
 rcases h with⟨a,b,c,d⟩|⟨a,b,z,c,d,f,g,i,j⟩
 .rw[if_pos (by omega)];exact⟨R,.inl (by rw[b])⟩
 .rw[if_neg (by omega)];have hn:=uI g;have hs:val.data.toList.length=val.size:=by simp
  obtain⟨w1,w2⟩:=tt 5 [] [] q v u R i c (by omega) (by rw[cI,hs];exact g);refine⟨w1,?_⟩;unfold QS.cH
  rcases w2 with w2|⟨w2,w3⟩
  .left;rw[w2];rfl
  .right;rw[w2];exact⟨rfl,w3⟩
theorem DM(R:Rd q v o u mm)(h:Jf v e val L):
  ((q.qs e).2=0/\Rd (q.qs e).1 (mK v L) o u mm)\/((q.qs e).2=11/\Rd (q.qs e).1 v o u mm/\mm<=u):=by
 unfold QS.qs
 rcases h with⟨a,b,c,d⟩|⟨a,b,z,c,d,f,g,i,j⟩
 .rw[if_pos (by omega),c,Bg];exact .inl ⟨rfl,R⟩
 .rw[if_neg (by omega)];have hn:=uI g;have hs:val.data.toList.length=val.size:=by simp
  obtain⟨w1,w2⟩:=tt 5 [] [] q v u R i c (by omega) (by rw[cI,hs];exact g);unfold QS.p9;have w1:Rd (q.cH e.aQ).1 v o u mm:=w1
  rcases w2 with w2|⟨w2,w3⟩
  .have w2:(q.cH e.aQ).2=([]++L,[]++val.data.toList,0):=w2;rw[w2,if_neg (by simp)];obtain⟨d1,d2⟩:=Bh L (q.cH e.aQ).1 v u w1 j i.here;left;refine⟨?_,d2⟩;show pz ((q.cH e.aQ).1.um L).2=0;rw[d1];decide
  .have w2:(q.cH e.aQ).2=([],[],11):=w2;rw[w2,if_pos (by simp)];exact .inr ⟨(by decide:pz 11=11),w1,w3⟩
theorem Rq(R:Rd q v o u mm)(key val:ByteArray)(hv:val.size<=1024):
  ((q.jm key val).2.2=11/\∃v' u',Rd (q.jm key val).1 v' o u' mm/\u'<=u+5/\(mm<=u'\/512<=u'))\/
  ((q.jm key val).2.2=0/\∃v' L,Rd (q.jm key val).1 v' o (u+L.length) mm/\Jf v' (q.jm key val).2.1 val L/\(q.jm key val).2.1.key=key/\(∀j∈L,v j=([],3))/\∀j,j∉L->v' j=v j):=by
 unfold QS.jm
 by_cases h:val.size<=40
 .rw[if_pos h];exact .inr ⟨rfl,v,[],R,.inl ⟨rfl,rfl,rfl,h⟩,rfl,by simp,λ_ _=>rfl⟩
 .rw[if_neg h];have hn:=uI hv;have hs:val.data.toList.length=val.size:=by simp
  have he:q.qa val.data.toList=QS.sQ val.data.toList (eF val.size).toNat q (-1) []:=by
   unfold QS.qa;rw[if_neg (by omega),hs]
  rw[he]
  rcases DL val.data.toList (eF val.size).toNat q v u (-1) [] [] R ⟨rfl,lK (by omega)⟩ (by omega) (by omega)with⟨a1,v',u',a2,a3,a4⟩|⟨a1,a2,a3,v',new,a4,a5,a6,a7,a8,a9⟩
  .exact .inl ⟨a1,v',u',a2,by omega,a4⟩
  .rw[jh]at a5;have fc:new≠[]:=λe=>by rw[e]at a6;simp at a6;omega
   have hp:¬(QS.sQ val.data.toList (eF val.size).toNat q (-1) []).2.1<0:=λh=>fc ((a5.neg a4).1 h);exact .inr ⟨a1,v',new,a4,.inr ⟨Int.not_lt.1 hp,a3,rfl,fc,a6,by omega,hv,a5,a8⟩,rfl,a7,a9⟩
end
variable{v:Vw}{H:Nat}{key:ByteArray}{up:List Step}{x:Step}
abbrev MT:=E×ByteArray×List Int
def iW(M:List MT):List Int:=M.flatMap λm=>m.2.2
def jx(M:List MT):List (ByteArray×ByteArray):=M.map λm=>(m.1.key,m.2.1)
@[simp] theorem eX(a b:List MT):iW (a++b)=iW a++iW b:=by simp[iW]
@[simp] theorem OG:iW []=[]:=rfl
@[simp] theorem jo(m:MT)(b:List MT):iW (m::b)=m.2.2++iW b:=rfl
@[simp] theorem OH(a b:List MT):jx (a++b)=jx a++jx b:=by simp[jx]
@[simp] theorem prs_nil:jx []=[]:=rfl
@[simp] theorem Jg(m:MT)(b:List MT):jx (m::b)=(m.1.key,m.2.1)::jx b:=rfl
structure Tree(v:Vw)(H:Nat)(M:List MT):Prop where
 ok:jP v H 0
 en:M.map (λm=>m.1)=fA v H 0
 va:∀m∈M,Jf v m.1 m.2.1 m.2.2
 BR:(bt (ao v H 0)++iW M).Nodup
 all:∀j,(v j).2=0->j∈bt (ao v H 0)++iW M
structure MW(l:List (ByteArray×ByteArray))(key:ByteArray)(A C B:List (ByteArray×ByteArray)):Prop where
 e:l=A++(C++B)
 a:∀x∈A,gq x.1 key
 b:∀x∈B,gq key x.1
 c:C=[]\/∃y,C=[(key,y)]
structure Dec(v:Vw)(key:ByteArray)(up:List Step)(x:Step)(M M1 MC M2:List MT)(a b:List E):Prop where
 n:aY x.l key=a.length
 l:x.l=a++(MC.map (λm=>m.1)++b)
 m:M=M1++(MC++M2)
 m1:M1.map (λm=>m.1)=bV (ft v up 0)++a
 m2:M2.map (λm=>m.1)=b++bV (dq v up 0)
 k1:∀m∈M1,gq m.1.key key
 k2:∀m∈M2,gq key m.1.key
 c:(MC=[]/\cq x.l key=false)\/∃m,MC=[m]/\m.1.key=key/\cq x.l key=true
theorem Bi{M:List MT}(T:Tree v H M)(W:WayV v key up x)(hl:up.length=H):∃M1 MC M2 a b,Dec v key up x M M1 MC M2 a b:=by
 obtain⟨p1,p2,p3,p4,p5⟩:=Bd W;rw[hl]at p5;have rA:=T.en;rw[p5]at rA;obtain⟨a,b,h1,h2,h3,h4⟩:=Bc (oU W.nd) key;have main:∀(c b':List E),b=c++b'->(∀e∈b',gq key e.key)->∃M1 MC M2,M=M1++(MC++M2)/\M1.map (λm=>m.1)=bV (ft v up 0)++a/\MC.map (λm=>m.1)=c/\M2.map (λm=>m.1)=b'++bV (dq v up 0)/\(∀m∈M1,gq m.1.key key)/\(∀m∈M2,gq key m.1.key):=λc b' hb hb'=>by
  have hen2:M.map (λm=>m.1)=(bV (ft v up 0)++a)++(c++(b'++bV (dq v up 0))):=by rw[rA,h1,hb];simp
  obtain⟨M1,MR,e1,e2,e3⟩:=Eo.1 hen2;obtain⟨MC,M2,e4,e5,e6⟩:=Eo.1 e3;refine⟨M1,MC,M2,by rw[e1,e4],e2,e5,e6,λm hm=>?_,λm hm=>?_⟩
  .have:m.1∈bV (ft v up 0)++a:=by rw[<-e2];exact dm.2 ⟨m,hm,rfl⟩
   rcases aB.1 this with h|h
   .exact p3 _ h
   .exact h3 _ h
  .have:m.1∈b'++bV (dq v up 0):=by rw[<-e6];exact dm.2 ⟨m,hm,rfl⟩
   rcases aB.1 this with h|h
   .exact hb' _ h
   .exact p4 _ h
 rcases h4 with⟨h4,c,b',hb,hc,hb'⟩|⟨h4,hb⟩
 .obtain⟨M1,MC,M2,e1,e2,e3,e4,e5,e6⟩:=main [c] b' (by rw[hb];rfl) hb';have hMC:∃m,MC=[m]/\m.1=c:=by
   match MC,e3 with
   |[m],e3=>exact⟨m,rfl,by simpa using e3⟩
   |[],e3=>exact absurd e3 (by simp)
   |_::_::_,e3=>exact absurd e3 (by simp)
  obtain⟨m,rfl,rfl⟩:=hMC;exact⟨M1,[m],M2,a,b',h2,by rw[h1,hb];simp,e1,e2,e4,e5,e6,.inr ⟨m,rfl,hc,h4⟩⟩
 .obtain⟨M1,MC,M2,e1,e2,e3,e4,e5,e6⟩:=main [] b rfl hb;have hMC:MC=[]:=List.map_eq_nil_iff.1 e3;subst hMC;exact⟨M1,[],M2,a,b,h2,by rw[h1];simp,e1,e2,e4,e5,e6,.inl ⟨rfl,h4⟩⟩
theorem Dec.Wm{M M1 MC M2:List MT}{a b:List E}(d:Dec v key up x M M1 MC M2 a b):MW (jx M) key (jx M1) (jx MC) (jx M2):=by
 refine⟨by rw[d.m];simp,λy hy=>?_,λy hy=>?_,?_⟩
 .obtain⟨m,hm,rfl⟩:=dm.1 hy;exact d.k1 m hm
 .obtain⟨m,hm,rfl⟩:=dm.1 hy;exact d.k2 m hm
 .rcases d.c with⟨h,_⟩|⟨m,h,hk,_⟩
  .rw[h];exact .inl rfl
  .rw[h];exact .inr ⟨m.2.1,by rw[<-hk];rfl⟩
section
variable{o:Vw}{mm:Nat}
def Jh(C:List (ByteArray×ByteArray)):ByteArray×Int:=match C with
 |[]=>(⟨#[]⟩,9)
 |x::_=>(x.2,0)
theorem Bj(up:List Step)(x:Step):iJ (up.reverse++[x])=x:=by unfold iJ;simp
theorem Wn{q:QS}{u:Nat}{M:List MT}(R:Rd q v o u mm)(T:Tree v H M)(hH:H<=15)(key:ByteArray):
  Rd (q.nu key).1 v o u mm/\(((q.nu key).2.2=11/\mm<=u)\/∃A C B,MW (jx M) key A C B/\(q.nu key).2=Jh C):=by
 obtain⟨r1,r2⟩:=Gc R T.ok hH key;unfold QS.nu
 rcases r2 with⟨r2,r3⟩|⟨r2,up,x,r3,r4,W⟩
 .rw[if_pos (by rw[r2];simp)];exact⟨r1,.inl ⟨r2,r3⟩⟩
 .rw[if_neg (by rw[r2];simp),r3,Bj];obtain⟨M1,MC,M2,a,b,d⟩:=Bi T W r4;have hp:=d.Wm
  rcases d.c with⟨h1,h2⟩|⟨m,h1,hk,h2⟩
  .rw[if_neg (by rw[h2];simp)];refine⟨r1,.inr ⟨_,_,_,hp,?_⟩⟩;rw[h1];rfl
  .rw[if_pos h2];have hx:x.l.getD (aY x.l key) Nd.E.zero=m.1:=by rw[d.n,d.l,h1];simp[ib]
   rw[hx];obtain⟨g1,g2⟩:=tu r1 (T.va m (by rw[d.m,h1];simp));refine⟨g1,g2.symm.imp id (λg2=>⟨_,_,_,hp,?_⟩)⟩;rw[g2,h1];rfl
end
variable{M:List MT}{v:Vw}{H:Nat}
theorem Rr(a:List E)(n:E)(b:List E):(a++b).insertIdx a.length n=a++n::b:=by
 induction a with
 |nil=>rfl
 |cons x a ih=>rw[m8,fo,JW,ih];rfl
theorem dM{α:Type}{a b:List α}:(a++b).Nodup↔a.Nodup/\b.Nodup/\∀x∈a,x∉b:=by
 rw[ik];exact⟨λ⟨h1,h2,h3⟩=>⟨h1,h2,λx hx hb=>h3 x hx x hb rfl⟩,λ⟨h1,h2,h3⟩=>⟨h1,h2,λx hx y hy e=>h3 x hx (by rw[e];exact hy)⟩⟩
theorem uJ{j:Int}:j∈iW M↔ ∃m∈M,j∈m.2.2:=mO
theorem Tree.Bk(T:Tree v H M):∀j∈iW M,(v j).2=0:=λj hj=>by
 obtain⟨m,hm,hj⟩:=uJ.1 hj;exact(T.va m hm).here j hj
theorem Tree.xY(T:Tree v H M):∀j∈bt (ao v H 0),(v j).2=0:=Gd H 0 T.ok
structure SetP(v v':Vw)(H:Nat)(M:List MT)(key value:ByteArray)(H':Nat)(M':List MT)(new:Nat)(A C B:List (ByteArray×ByteArray))(h c:Nat):Prop where
 t:Tree v' H' M'
 d:MW (jx M) key A C B
 m:jx M'=A++(key,value)::B
 kp:∃L:List Int,L.length=c/\∀j∈iW M',j∈L\/(j∈iW M/\v' j=v j)
 len:(ao v' H' 0).length=(ao v H 0).length+h
 n:new=c+h
 c:c<=5/\(value.size<=40->c=0)
 Gv:∀wt c,Jc wt c->dQ wt (ao v' H' 0)+c*h<=dQ wt (ao v H 0)+wt 0*(key.size+(if value.size<=40 then value.size else 0)+7)+(if H'=H then 0 else c*2-yO H*wt H)
 h:H'=H\/(H'=H+1/\∀wt c,Jc wt c->yO H*wt H<=dQ wt (ao v H 0)+wt 0*(key.size+(if value.size<=40 then value.size else 0)+7))
section
variable{o:Vw}{mm:Nat}
theorem Wo{q:QS}{u:Nat}(R:Rd q v o u mm)(T:Tree v H M)(hH:H<=15)(key value:ByteArray)(hk:key.size<=32)(hv:value.size<=1024):
  ((q.iD key value).2=11/\∃v' u',Rd (q.iD key value).1 v' o u' mm/\u'<=u+H+8/\(mm<=u'\/512<=u'))\/
  ((q.iD key value).2=0/\∃v' H' M' new A C B h c,Rd (q.iD key value).1 v' o (u+new) mm/\SetP v v' H M key value H' M' new A C B h c):=by
 obtain⟨r1,r2⟩:=Gc R T.ok hH key;unfold QS.iD;rw[if_neg (by omega)]
 rcases r2 with⟨r2,r3⟩|⟨r2,up,x,r3,r4,W⟩
 .rw[if_pos (by rw[r2];simp)];exact .inl ⟨r2,v,u,r1,by omega,.inl r3⟩
 rw[if_neg (by rw[r2];simp),r3,Bj,show(up.reverse++[x]).dropLast.reverse=up by simp];obtain⟨p1,p2,p3,p4,p5⟩:=Bd W;rw[r4]at p1 p2 p5;obtain⟨M1,MC,M2,a,b,d⟩:=Bi T W r4;have qC:bt (ao v H 0)=bt (ft v up 0)++x.an::bt (dq v up 0):=by rw[p2,cX,da]
 have Rs:=dM.1 T.BR;have haw:qu x.l key=a++b:=by
  unfold qu
  rcases d.c with⟨h1,h2⟩|⟨m,h1,hkk,h2⟩
  .rw[if_neg (by rw[h2];simp),d.l,h1];rfl
  .rw[if_pos h2,d.n,d.l,h1];exact wK a m.1 b
 have hdnod:(iW MC).Nodup:=by
  have:=Rs.2.1;rw[d.m,eX,eX]at this;exact(dM.1 (dM.1 this).2.1).1
 have Cj:(((q.eJ key).1.lG x.l key).2=0/\Rd ((q.eJ key).1.lG x.l key).1 (mK v (iW MC)) o u mm)\/(((q.eJ key).1.lG x.l key).2=11/\Rd ((q.eJ key).1.lG x.l key).1 v o u mm/\mm<=u):=by
  unfold QS.lG
  rcases d.c with⟨h1,h2⟩|⟨m,h1,hkk,h2⟩
  .rw[if_neg (by rw[h2];simp),h1,OG,Bg];exact .inl ⟨rfl,r1⟩
  .rw[if_pos h2];have hx:x.l.getD (aY x.l key) Nd.E.zero=m.1:=by rw[d.n,d.l,h1];simp[ib]
   rw[hx,h1,jo,OG,jh];exact DM r1 (T.va m (by rw[d.m,h1];simp))
 rw[haw,d.n]
 rcases Cj.symm with⟨o1,o2,o3⟩|⟨o1,o2⟩
 .rw[if_pos (by rw[o1];simp)];exact .inl ⟨o1,v,u,o2,by omega,.inl o3⟩
 rw[if_neg (by rw[o1];simp)];unfold QS.layT
 rcases Rq o2 key value hv with⟨s1,v',u',s2,s3,s4⟩|⟨s1,v2,L,s2,s3,s4,s5,s6⟩
 .rw[if_pos (by rw[s1];simp)];exact .inl ⟨s1,v',u',s2,by omega,s4⟩
 rw[if_neg (by rw[s1];simp)];obtain⟨n,hn⟩:∃n,(((q.eJ key).1.lG x.l key).1.jm key value).2.1=n:=⟨_,rfl⟩;rw[hn]at s3 s4 ⊢;have hLl:L.length<=5/\(value.size<=40->L.length=0):=by
  rcases s3 with⟨_,_,h,_⟩|⟨_,_,_,_,h,h40,h2,_⟩
  .rw[h];simp
  .have:=uI h2;exact⟨by omega,λh=>by omega⟩
 have pB:∀j,(v j).2=0->j∉iW MC->v2 j=v j:=λj hj hm=>by
  have h1:mK v (iW MC) j=v j:=by unfold mK;rw[if_neg hm]
  rw[s6 j (λhL=>?_),h1];have:=s5 j hL;rw[h1]at this;rw[this]at hj;exact absurd hj (by decide)
 have hMCin:∀j∈iW MC,j∈iW M:=λj hj=>by rw[d.m,eX,eX];simp[hj]
 have hnd2:∀j∈bt (ao v H 0),v2 j=v j:=λj hj=>pB j (T.xY j hj) (λhm=>Rs.2.2 j hj (hMCin j hm));obtain⟨c1,c2,c3⟩:=gU (v':=v2) up 0 x.an W.hole (λj hj=>hnd2 j (by rw[qC];simp[hj])) (λj hj=>hnd2 j (by rw[qC];simp[hj]));have lY:∀e∈a++b,e∈x.l:=λe he=>by rw[d.l];rcases aB.1 he with h|h<;>simp[h]
 have sg:=mh (oS (v:=v) (p:=x.an) (by rw[W.nd]));rw[W.nd]at sg;have sg:∀e∈x.l,cW e true:=sg;have hbx:ak x.l<=223:=by have:=W.ok.2;rw[W.nd]at this;exact this
 have hbab:ak (a++b)<=ak x.l:=by rw[d.l,eH,eH,eH];omega
 have hrn:cW n true/\n.val.size=(if value.size<=40 then value.size else 0):=by
  rcases s3 with⟨h1,h2,_,h4⟩|⟨h1,h2,h3,h4,h5,h40,h6,_⟩
  .refine⟨⟨by rw[s4];exact hk,by rw[h2];exact h4,by rw[h1];decide,by rw[h1];decide,.inl (by rw[h1];decide)⟩,by rw[if_pos h4,h2]⟩
  .exact⟨⟨by rw[s4];exact hk,by rw[h3];decide,by rw[if_pos rfl];omega,by omega,.inr h3⟩,by rw[if_neg (by omega),h3]⟩
 obtain⟨hrn,hvn⟩:=hrn;have Sc:n.key.size+n.val.size+7=key.size+(if value.size<=40 then value.size else 0)+7:=by rw[s4,hvn]
 have hcn79:n.key.size+n.val.size+7<=79:=by have h1:=hrn.1;have h2:=hrn.2.1;omega
 have hbn:ak (a++n::b)=ak (a++b)+(n.key.size+n.val.size+7):=by rw[eH,eH,eG];omega
 have hins:(a++b).insertIdx a.length n=a++n::b:=Rr a n b;rw[hins];have OJ:∀e∈a,gq e.key key:=λe he=>by
  have:e∈M1.map (λm=>m.1):=by rw[d.m1];exact bC _ he
  obtain⟨m,hm,rfl⟩:=dm.1 this;exact d.k1 m hm
 have hlb:∀e∈b,gq key e.key:=λe he=>by
  have:e∈M2.map (λm=>m.1):=by rw[d.m2];exact bT _ he
  obtain⟨m,hm,rfl⟩:=dm.1 this;exact d.k2 m hm
 have hpw:=oU W.nd;rw[d.l,dO,dO]at hpw;have P:Cp v2 0 ⟨x.an,x.leaf,a++n::b,x.at_⟩ up:=by
  refine⟨c1,W.leaf,?_,⟨λe he=>?_,?_⟩,by simp,?_,λe he=>?_,?_,?_⟩
  .show(v2 x.an).2=0;have rV:x.an∈bt (ao v H 0):=by rw[qC];simp
   rw[hnd2 _ rV];exact T.xY _ rV
  .show cW e true
   rcases aB.1 he with he|he
   .exact sg e (lY e (bT _ he))
   .rcases aj.1 he with rfl|he
    .exact hrn
    .exact sg e (lY e (bC _ he))
  .show(a++n::b).Pairwise λc e=>gq c.key e.key;rw[dO,dW];refine⟨hpw.1,⟨λe he=>by rw[s4];exact hlb e he,hpw.2.1.2.1⟩,λe he e' yl=>?_⟩
   rcases aj.1 yl with rfl|yl
   .rw[s4];exact OJ e he
   .exact hpw.2.2 e he e' (bC _ yl)
  .show blank x.leaf _=_;rw[W.leaf];exact kO _
  .have he:e∈a++n::b:=he
   rcases aB.1 he with he|he
   .exact W.Wf e (lY e (bT _ he))
   .rcases aj.1 he with rfl|he
    .rw[s4];exact W.key
    .exact W.Wf e (lY e (bC _ he))
  .show(bt (ft v2 up 0)++x.an::([]++bt (dq v2 up 0))).Nodup;rw[c2,c3,cI,<-qC];exact Rs.1
  .show ak (a++n::b)<=302;omega
 have NR:dg v2 0 ⟨x.an,x.leaf,a++n::b,x.at_⟩ up=ft v up 0++(0,x.an,a++n::b)::dq v up 0:=by
  unfold dg;rw[c2,c3];rfl
 have Ru:bt (dg v2 0 ⟨x.an,x.leaf,a++n::b,x.at_⟩ up)=bt (ao v H 0):=by rw[NR,qC,cX,da]
 have Wl:∀wt:Nat->Nat,dQ wt (dg v2 0 ⟨x.an,x.leaf,a++n::b,x.at_⟩ up)<=dQ wt (ao v H 0)+wt 0*(n.key.size+n.val.size+7):=λwt=>by
  rw[NR,p2];simp only[jn,eI];have:wt 0*(ak (a++n::b)-mN 0)<=wt 0*(ak x.l-mN 0)+wt 0*(n.key.size+n.val.size+7):=by
   rw[<-om];exact lW _ (by omega)
  omega
 rcases xW (up.length+1) up 0 ⟨x.an,x.leaf,a++n::b,x.at_⟩ _ v2 (u+L.length) (by omega) P s2 with⟨t1,v',u',t2,t3,t4⟩|⟨t1,v3,new,H',t2,G⟩
 .exact .inl ⟨t1,v',u',t2,by omega,t4⟩
 refine .inr ⟨t1,v3,H',M1++(n,value,L)::M2,L.length+new.length,jx M1,jx MC,jx M2,new.length,L.length,by rw[<-Ex];exact t2,?_⟩;have hMn:=Rs.2.1;rw[d.m,eX,eX]at hMn;have Ge:=dM.1 hMn;have Wq:=dM.1 Ge.2.1;have xZ:∀j,j∈iW M1\/j∈iW M2->j∈iW M/\j∉iW MC:=λj hj=>by
  refine⟨by rw[d.m,eX,eX];rcases hj with h|h<;>simp[h],λhc=>?_⟩
  rcases hj with h|h
  .exact Ge.2.2 j h (bT _ hc)
  .exact Wq.2.2 j hc h
 have hLv:∀j,(v j).2=0->j∉iW MC->j∉L:=λj hj hm hL=>by
  have:=s5 j hL;unfold mK at this;rw[if_neg hm]at this;rw[this]at hj;exact absurd hj (by decide)
 have hL2:∀j∈L,(v2 j).2=0:=s3.here;have Ji:∀j,(v2 j).2=0->j∉new:=λj hj hm=>by rw[G.fresh j hm]at hj;exact absurd hj (by decide)
 have Wr:∀j,j∈iW M1\/j∈iW M2->v3 j=v j/\(v2 j).2=0/\j∉bt (ao v H 0):=λj hj=>by
  obtain⟨h1,h2⟩:=xZ j hj;have h3:=T.Bk j h1;have h4:=pB j h3 h2;have h5:j∉bt (ao v H 0):=λh=>Rs.2.2 j h h1;refine⟨?_,by rw[h4];exact h3,h5⟩;rw[G.o j (by rw[Ru];exact h5) (Ji j (by rw[h4];exact h3)),h4]
 have hPL:∀j∈bt (ao v H 0),j∉L:=λj hj=>hLv j (T.xY j hj) (λhm=>Rs.2.2 j hj (hMCin j hm));have hL3:∀j∈L,v3 j=v2 j:=λj hj=>G.o j (by rw[Ru];exact λh=>hPL j h hj) (Ji j (hL2 j hj));have hP2:∀j∈bt (ao v H 0),(v2 j).2=0:=λj hj=>by rw[hnd2 j hj];exact T.xY j hj
 have rA:M1.map (λm=>m.1)=bV (ft v up 0)++a:=d.m1;refine⟨⟨G.ok,?_,λm hm=>?_,?_,λj hj=>?_⟩,d.Wm,?_,⟨L,rfl,λj hj=>?_⟩,?_,by omega,hLl,λwt c hw=>?_,?_⟩
 .rw[G.en,NR,ez,fJ,d.m1,d.m2];simp
 .rcases aB.1 hm with hm|hm
  .exact(T.va m (by rw[d.m];simp[hm])).congr (λj hj=>(Wr j (.inl (uJ.2 ⟨m,hm,hj⟩))).1)
  .rcases aj.1 hm with rfl|hm
   .exact s3.congr hL3
   .exact(T.va m (by rw[d.m];simp[hm])).congr (λj hj=>(Wr j (.inr (uJ.2 ⟨m,hm,hj⟩))).1)
 .have r9:(bt (ao v3 H' 0)++iW (M1++(n,value,L)::M2)).Perm ((bt (ao v H 0)++new)++(iW M1++(L++iW M2))):=by
   rw[eX,jo,<-Ru];exact G.pg.append_right _
  rw[r9.nodup_iff,dM];refine⟨dM.2 ⟨Rs.1,G.BR,λj hj=>Ji j (hP2 j hj)⟩,dM.2 ⟨Ge.1,dM.2 ⟨s3.nodup,Wq.2.1,λj hj hm=>?_⟩,λj hj hm=>?_⟩,λj hj hm=>?_⟩
  .obtain⟨h1,h2⟩:=xZ j (.inr hm);exact hLv j (T.Bk j h1) h2 hj
  .rcases aB.1 hm with hm|hm
   .obtain⟨h1,h2⟩:=xZ j (.inl hj);exact hLv j (T.Bk j h1) h2 hm
   .exact Ge.2.2 j hj (bC _ hm)
  .have CH:j∈L\/(j∈iW M1\/j∈iW M2):=by
    rcases aB.1 hm with hm|hm
    .exact .inr (.inl hm)
    .rcases aB.1 hm with hm|hm
     .exact .inl hm
     .exact .inr (.inr hm)
   rcases aB.1 hj with hj|hj
   .rcases CH with h|h
    .exact hPL j hj h
    .exact(Wr j h).2.2 hj
   .rcases CH with h|h
    .exact Ji j (hL2 j h) hj
    .exact Ji j (Wr j h).2.1 hj
 .rw[aB,eX,jo,aB,aB]
  by_cases h1:j∈bt (ao v H 0)
  .exact .inl (G.pg.mem_iff.2 (by rw[Ru];exact bT _ h1))
  .by_cases h2:j∈new
   .exact .inl (G.pg.mem_iff.2 (bC _ h2))
   .rw[G.o j (by rw[Ru];exact h1) h2]at hj
    by_cases h3:j∈L
    .exact .inr (.inr (.inl h3))
    .rw[s6 j h3]at hj;unfold mK at hj
     by_cases h4:j∈iW MC
     .rw[if_pos h4]at hj;exact absurd hj (by decide)
     .rw[if_neg h4]at hj;have:=T.all j hj;rw[d.m,eX,eX]at this;simp only[aB]at this
      rcases this with h|h|h|h
      .exact absurd h h1
      .exact .inr (.inl h)
      .exact absurd h h4
      .exact .inr (.inr (.inr h))
 .rw[OH,Jg,s4]
 .rw[eX,jo,aB,aB]at hj
  rcases hj with hj|hj|hj
  .exact .inr ⟨(xZ j (.inl hj)).1,(Wr j (.inl hj)).1⟩
  .exact .inl hj
  .exact .inr ⟨(xZ j (.inr hj)).1,(Wr j (.inr hj)).1⟩
 .have:=G.pg.length_eq;rw[Ru,aO]at this;simp only[bt,eM]at this;omega
 .have g:=G.Gv wt c hw;have g2:=Wl wt;rw[Sc]at g2;rw[bl,r4]at g;omega
 .have hl:0+up.length=H:=by omega
  rcases G.h with g|⟨g1,g2⟩
  .exact .inl (by rw[g,hl])
  .refine .inr ⟨by rw[g1,hl],λwt c hw=>?_⟩;have g3:=g2 wt c hw;rw[hl]at g3;have g4:=Wl wt;rw[Sc]at g4;omega
end
variable{v:Vw}{h:Nat}{l:List E}
structure Bl(v v':Vw)(H H':Nat)(ns:List NT)(gone:List Int):Prop where
 ok:jP v' H' 0
 en:fA v' H' 0=bV ns
 pg:(bt (ao v' H' 0)++gone).Perm (bt ns)
 del:∀j∈gone,(v' j).2≠0
 o:∀j,j∉bt ns->v' j=v j
 Gv:∀wt,dQ wt (ao v' H' 0)<=dQ wt ns
 h:H'<=H
theorem qD(k:l≠[]->fQ v h l)(hb:ak (blank (decide (h=0)) l)<=223):(bH (decide (h=0)) l).2=0:=by
 by_cases hl:l=[]
 .subst hl
  rcases nR (decide (h=0)) []with h1|h1|h1
  .exact h1.2.2.1
  .have h2:=h1.2.1;rw[nU]at h2;exact absurd h2 (by simp[ak])
  .refine absurd ?_ h1.1;rw[nU];intro i hi;exact absurd hi (by simp)
 .exact uG (k hl) hb
section
variable{o:Vw}{mm:Nat}
theorem wL{v':Vw}(k:l≠[]->fQ v h l)(hb:ak (blank (decide (h=0)) l)<=223)(hh:l≠[]\/h=0)(hd:gm v' 0=(decide (h=0),blank (decide (h=0)) l,0))(hv:∀j,j≠0->v' j=v j)(hn:(0::bt (cw v h l)).Nodup):
  Bl v v' h h ((h,0,l)::cw v h l) []:=by
 have ok:fQ v h l:=by
  by_cases hl:l=[]
  .rcases hh with hh|hh
   .exact absurd hl hh
   .subst hl hh;exact⟨by simp,List.Pairwise.nil⟩
  .exact k hl
 obtain⟨p1,p2,p3⟩:=Be (v:=v) (v':=v') (h:=h) (x:=⟨0,decide (h=0),l,0⟩) (up:=[]) rfl ok (λh=>absurd rfl h) (λ_ _=>trivial) (by simpa [dr,cE]using hn) hb hd hv;have p1:jP v' h 0:=p1;have p2:ao v' h 0=(h,0,blank (decide (h=0)) l)::(cw v h l++[]):=p2;rw[jh]at p2;have p3:fA v' h 0=_:=p3;refine⟨p1,?_,?_,by simp,λj hj=>hv j (λe=>hj (by simp[e])),λwt=>?_,Nat.le_refl _⟩
 .rw[p3];unfold dg;simp only[de,cD,dr,cE];simp
 .rw[p2];simp
 .rw[p2,eI,eI];dsimp only;have:wt h*(ak (blank (decide (h=0)) l)-mN h)<=wt h*(ak l-mN h):=lW _ (by have:=dG (decide (h=0)) l;omega);omega
theorem Bm:∀(h m:Nat) (l:List E) (q:QS) (v:Vw) (u:Nat),h<m->Rd q v o u mm->(v 0).2=0->(l≠[]->fQ v h l)->ak (blank (decide (h=0)) l)<=223->(0::bt (cw v h l)).Nodup->
  ((ny m q (decide (h=0)) l).2=11/\mm<=u/\∃v',Rd (ny m q (decide (h=0)) l).1 v' o u mm)\/
  ((ny m q (decide (h=0)) l).2=0/\∃v' H' gone,Rd (ny m q (decide (h=0)) l).1 v' o u mm/\Bl v v' h H' ((h,0,l)::cw v h l) gone)
 |h,0,_,_,_,_,hm,_,_,_,_,_=>absurd hm (by omega)
 |h,m+1,l,q,v,u,hm,R,h0,k,hb,hn=>by
  unfold ny
  by_cases hs:decide (h=0)=false/\l.length=1
  .rw[if_pos hs];obtain⟨h',rfl⟩:∃h',h=h'+1:=⟨h-1,by have:=hs.1;simp at this;omega⟩;obtain⟨c,rfl⟩:∃c,l=[c]:=by
    match l,hs.2 with
    |[c],_=>exact⟨c,rfl⟩
   have ok:=k (by simp);have hc:=ok.2.c c (by simp);obtain⟨d1,d2,d3⟩:=Ga hc.1;have MX:[c].getD 0 Nd.E.zero=c:=rfl;rw[MX];obtain⟨r1,r2⟩:=R.read c.aQ
   rcases r2 with r2|⟨r2,r3⟩
   .rw[r2,d1,if_neg (by simp)];have hhere:(v c.aQ).2=0:=mH (by rw[d1]);obtain⟨e1,e2⟩:=r1.drop c.aQ hhere;rw[if_neg (by rw[e1];simp)];dsimp only;have xV:cw v (h'+1) [c]=(h',c.aQ,(gm v c.aQ).2.1)::cw v h' (gm v c.aQ).2.1:=by
     show ao v h' c.aQ++[]=_;rw[jh,iw]
    rw[xV,da]at hn;have hn':=fu.1 hn;have RU:=fu.1 hn'.2;have hcne:(0:Int)≠c.aQ:=λe=>hn'.1 (by show(0:Int)∈_;rw[e];simp);have hvd:∀j,j≠c.aQ->Co v c.aQ j=v j:=λj hj=>F0 v hj;obtain⟨g1,g2,g3⟩:=kP (v:=v) (v':=Co v c.aQ) (h:=h') (l:=(gm v c.aQ).2.1) (λj hj=>hvd j (λe=>RU.1 (show c.aQ∈bt (cw v h' (gm v c.aQ).2.1)from e▸hj)))
    rcases Bm h' m (gm v c.aQ).2.1 _ _ u (by omega) e2 (by rw[hvd 0 hcne];exact h0) (λ_=>g3 d3) (aq (dG _ _) d2) (by rw[g1];exact fu.2 ⟨λhm=>hn'.1 (aw _ hm),RU.2⟩)with⟨i1,i2,i3⟩|⟨i1,v',H',gone,i2,S⟩
    .exact .inl ⟨i1,i2,i3⟩
    .refine .inr ⟨i1,v',H',c.aQ::gone,i2,S.ok,?_,?_,λj hj=>?_,λj hj=>?_,λwt=>?_,by have:=S.h;omega⟩
     .rw[S.en,g1,xV,kN,td,td]
     .rw[xV,da,da];have:=S.pg;rw[g1,da]at this;refine(List.perm_middle.trans (this.cons _)).trans ?_;exact List.Perm.swap _ _ _
     .rcases aj.1 hj with rfl|hj
      .rw[S.o c.aQ (by rw[g1,da];intro hm;rcases aj.1 hm with hm|hm;exact hcne hm.symm;exact RU.1 hm),DH];decide
      .exact S.del j hj
     .rw[xV,da,da]at hj;simp only[aj,not_or]at hj;rw[S.o j (by rw[g1,da];simp only[aj,not_or];exact⟨hj.1,hj.2.2⟩)];exact hvd j hj.2.1
     .have:=S.Gv wt;rw[g1,eI]at this;rw[xV,eI,eI];show _<=_+(wt h'*(ak (gm v c.aQ).2.1-mN h')+_);have h3:dQ wt (ao v' H' 0)<=wt h'*(ak (gm v c.aQ).2.1-mN h')+dQ wt (cw v h' (gm v c.aQ).2.1):=this;omega
   .rw[r2,if_pos (by simp)];exact .inl ⟨rfl,r3,v,r1⟩
  .rw[if_neg hs]
   by_cases hl:l=[]
   .subst hl;rw[if_pos rfl];have hk:cw v h []=[]:=by cases h<;>rfl
    have qB:(bH true []).2=0:=qD (v:=v) (h:=0) (λh=>absurd rfl h) (by rw[nU];decide)
    rcases R.write h0 qB with⟨w1,w2⟩|⟨w1,w2,w3⟩
    .right;have S:=wL (v:=v) (v':=jj v 0 (bH true []).1) (h:=0) (l:=[]) (λh=>absurd rfl h) (by rw[nU];decide) (.inr rfl) (by rw[gh qB,if_pos rfl];rfl) (λj hj=>by unfold jj;rw[if_neg hj]) (by simp[cw]);refine⟨w1,_,0,[],w2,S.ok,?_,?_,by simp,λj hj=>?_,λwt=>?_,bf _⟩
     .rw[S.en,hk]
      cases h<;>simp[cw]
     .rw[hk];exact S.pg
     .rw[hk]at hj;exact S.o j hj
     .have:=S.Gv wt;rw[hk,eI];have e:dQ wt ((0,0,[])::cw v 0 [])=0:=by show wt 0*(0-mN 0)+0=0;simp
      rw[e]at this;omega
    .exact .inl ⟨w1,w3,v,w2⟩
   .rw[if_neg hl];have qB:=qD k hb
    rcases R.write h0 qB with⟨w1,w2⟩|⟨w1,w2,w3⟩
    .exact .inr ⟨w1,_,h,[],w2,wL k hb (.inl hl) (by rw[gh qB,if_pos rfl]) (λj hj=>by unfold jj;rw[if_neg hj]) hn⟩
    .exact .inl ⟨w1,w3,v,w2⟩
structure OM(v:Vw)(h:Nat)(x:Step)(up:List Step):Prop where
 hole:pf v up h x.an
 leaf:x.leaf=decide (h=0)
 here:(v x.an).2=0
 ok:x.l≠[]->fQ v h x.l
 Wf:∀e∈gw v h x.l,Gb up e.key
 BR:(bt (ft v up h)++x.an::(bt (cw v h x.l)++bt (dq v up h))).Nodup
 sz:ak x.l<=223
theorem Rv{v1:Vw}{x y:Step}{up:List Step}(P:OM v h x (y::up))(hl:x.l=[])(hv:∀j,j≠x.an->v1 j=v j)(hd:(v1 x.an).2≠0):
  OM v1 (h+1) {y with l:=y.l.eraseIdx y.at_} up/\
  ∀{v':Vw} {H':Nat} {gone:List Int},Bl v1 v' (h+1+up.length) H' (dg v1 (h+1) {y with l:=y.l.eraseIdx y.at_} up) gone->Bl v v' (h+(y::up).length) H' (dg v h x (y::up)) (x.an::gone):=by
 obtain⟨⟨a,c,b,f,hsib⟩,hU⟩:=P.hole;obtain⟨t1,t2,t3⟩:=lj f;have hn:=P.BR;rw[ik,fu]at hn;obtain⟨_,⟨na,_⟩,nb⟩:=hn;have lS:∀j∈bt (ft v (y::up) h),v1 j=v j:=λj hj=>hv j (λe=>nb j hj x.an (by simp) e);have uH:∀j∈bt (dq v (y::up) h),v1 j=v j:=λj hj=>hv j (λe=>na (by rw[<-e];exact bC _ hj));obtain⟨H2,e1,e2⟩:=gU (y::up) h x.an P.hole lS uH;obtain⟨⟨a',c',b',f2,Wj⟩,hU2⟩:=H2
 have pZ:a'=a/\c'=c/\b'=b:=by
  have q1:=(lj f2);exact⟨by rw[<-q1.1,t1],by rw[<-q1.2.2,t3],by rw[<-q1.2.1,t2]⟩
 obtain⟨rfl,rfl,rfl⟩:=pZ;have hera:y.l.eraseIdx y.at_=a'++b':=by rw[f.l,f.at_,wK]
 rw[hera];have q1:aU v1 h a'=aU v h a':=(gS (λj hj=>lS j (by simp only[de,dr];rw[t1,cX,da];exact bC _ (aw _ hj)))).1;have q2:aU v1 h b'=aU v h b':=(gS (λj hj=>uH j (by simp only[cD,cE];rw[t2,cX];exact bT _ hj))).1
 have hU3:=gU up (h+1) y.an hU (λj hj=>lS j (by simp only[de,dr];rw[cX];exact bT _ hj)) (λj hj=>uH j (by simp only[cD,cE];rw[cX];exact bC _ hj));have Bf:=hU3.2.1;have tr:=hU3.2.2;have nO:=mh (oS (v:=v) (p:=y.an) (by rw[f.nd]));rw[f.nd]at nO;have nO:∀e∈a'++c'::b',cW e false:=by rw[<-f.l];exact nO
 have hby:=f.by_;rw[f.l,eH,eG]at hby;have hkp:cw v h []=[]:=by cases h<;>rfl
 have hold:bt (dg v h x (y::up))=bt (ft v up (h+1))++(y.an::bt (aU v h a'))++x.an::(bt (aU v h b')++bt (dq v up (h+1))):=by
  rw[fF,hl,hkp];simp only[de,cD,dr,cE];rw[t1,t2];simp
 have Rl:bt (dg v1 (h+1) {y with l:=a'++b'} up)=bt (ft v up (h+1))++y.an::((bt (aU v h a')++bt (aU v h b'))++bt (dq v up (h+1))):=by
  rw[fF];show bt (ft v1 up (h+1))++y.an::(bt (aU v1 h (a'++b'))++bt (dq v1 up (h+1)))=_;rw[gG,cX,q1,q2,Bf,tr]
 have r9:(x.an::bt (dg v1 (h+1) {y with l:=a'++b'} up)).Perm (bt (dg v h x (y::up))):=by
  rw[Rl,hold,Et];intro j;simp only[JO,JP];omega
 have Je:=P.BR;rw[<-fF]at Je;have hnod1:=r9.nodup_iff.2 Je;have hnod:=(fu.1 hnod1);refine⟨⟨hU2,?_,?_,λfc=>⟨λe he=>?_,?_⟩,λe he=>?_,?_,?_⟩,λ{v' H' gone} S=>?_⟩
 .show y.leaf=decide (h+1=0);rw[f.leaf];rfl
 .exact mH (by show(gm v1 y.an).2.2=0;rw[f2.nd])
 .have he:e∈a'++b':=he;exact nO e (by rcases aB.1 he with h|h<;>simp[h])
 .show tg (jP v1 h) (fA v1 h) (a'++b');refine⟨fc,f2.ch,f2.lo,λe he=>?_⟩
  cases ha':a' with
  |nil=>
   rw[ha']at he;exact f2.hb e (tJ he)
  |cons z a2=>
   have hha:=f2.ha;rw[ha']at he hha;rw[m8,kV]at he
   rcases aB.1 he with he|he
   .exact hha e he
   .exact f2.hb e he
 .have he:e∈bV (aU v1 h (a'++b')):=he;obtain⟨z,hz,hx⟩:=db.1 he;exact Wj z hz e hx
 .rw[<-fF];exact hnod.2
 .show ak (a'++b')<=223;rw[eH];omega
 .have hHl:h+(y::up).length=h+1+up.length:=by simp;omega
  rw[hHl];refine⟨S.ok,?_,?_,λj hj=>?_,λj hj=>?_,λwt=>?_,S.h⟩
  .rw[S.en,kQ,kQ];show bV (ft v1 up (h+1))++(bV (aU v1 h (a'++b'))++bV (dq v1 up (h+1)))=_;rw[gG,dA,q1,q2,Bf,tr,hl];simp only[de,cD,dr,cE];rw[t1,t2];have:gw v h []=[]:=by cases h<;>rfl
   rw[this];simp
  .refine(List.perm_middle.trans (S.pg.cons _)).trans r9
  .rcases aj.1 hj with rfl|hj
   .rw[S.o _ hnod.1];exact hd
   .exact S.del j hj
  .rw[S.o j (λhm=>hj (r9.mem_iff.1 (aw _ hm)))];exact hv j (λe=>hj (r9.mem_iff.1 (by rw[e];simp)))
  .have h1:=S.Gv wt;have e3:dQ wt (dg v1 (h+1) {y with l:=a'++b'} up)=dQ wt (ft v up (h+1))+(wt (h+1)*(ak (a'++b')-mN (h+1))+((dQ wt (aU v h a')+dQ wt (aU v h b'))+dQ wt (dq v up (h+1)))):=by
    unfold dg;show dQ wt (ft v1 up (h+1)++(h+1,y.an,a'++b')::(aU v1 h (a'++b')++dq v1 up (h+1)))=_;rw[gG,q1,q2,Bf,tr];simp only[jn,eI]
   have e4:dQ wt (dg v h x (y::up))=(dQ wt (ft v up (h+1))+(wt (h+1)*(ak y.l-mN (h+1))+dQ wt (aU v h a')))+(wt h*(ak x.l-mN h)+(dQ wt (aU v h b')+dQ wt (dq v up (h+1)))):=by
    unfold dg;simp only[de,cD,dr,cE];rw[t1,t2,hl,hkp];simp only[jn,eI,Wi,cI]
   have m1:wt (h+1)*(ak (a'++b')-mN (h+1))<=wt (h+1)*(ak y.l-mN (h+1)):=lW _ (by rw[f.l,eH,eH,eG];omega);rw[e3]at h1;rw[e4];omega
theorem x6:∀(up:List Step) (h:Nat) (x:Step) (q:QS) (v:Vw) (u:Nat),h+up.length<=15->Rd q v o u mm->OM v h x up->
  ((gC (x::up) q).2=11/\mm<=u/\∃v',Rd (gC (x::up) q).1 v' o u mm)\/
  ((gC (x::up) q).2=0/\∃v' H' gone,Rd (gC (x::up) q).1 v' o u mm/\Bl v v' (h+up.length) H' (dg v h x up) gone)
 |[],h,x,q,v,u,hh,R,P=>by
  have Ci:x.an=0:=P.hole;have hb:ak (blank (decide (h=0)) x.l)<=223:=aq (dG _ _) P.sz;have hn:(0::bt (cw v h x.l)).Nodup:=by have:=P.BR;rw[Ci]at this;simpa [dr,cE]using this
  have OE:dg v h x []=(h,0,x.l)::cw v h x.l:=by unfold dg;simp only[de,cD,dr,cE];rw[Ci];simp
  have h0:(v 0).2=0:=by have h1:=P.here;rw[Ci]at h1;exact h1
  rw[xR,OE]
  by_cases sN:x.leaf=true
  .rw[if_pos sN];have hz:h=0:=by rw[P.leaf]at sN;exact of_decide_eq_true sN
   subst hz;have qB:=qD (h:=0) P.ok hb;have qB:(bH x.leaf x.l).2=0:=by rw[sN];exact qB
   rw[Ci]
   rcases R.write h0 qB with⟨w1,w2⟩|⟨w1,w2,w3⟩
   .refine .inr ⟨w1,_,0,[],w2,wL P.ok hb (.inr rfl) ?_ (λj hj=>by unfold jj;rw[if_neg hj]) hn⟩;rw[gh qB,if_pos rfl,sN];rfl
   .exact .inl ⟨w1,w3,v,w2⟩
  .rw[if_neg sN];unfold QS.sY;rw[P.leaf];have hlen:h+([]:List Step).length=h:=rfl;rw[hlen]at hh ⊢;exact Bm h 600 x.l q v u (by omega) R h0 P.ok hb hn
 |y::up,h,x,q,v,u,hh,R,P=>by
  rw[xS]
  by_cases hl:x.l=[]
  .rw[if_pos hl];obtain⟨e1,e2⟩:=R.drop x.an P.here;rw[if_neg (by rw[e1];simp)];obtain⟨P2,hS⟩:=Rv (v1:=Co v x.an) P hl (λj hj=>F0 v hj) (by rw[DH];decide)
   rcases x6 up (h+1) {y with l:=y.l.eraseIdx y.at_} _ _ u (by simp at hh;omega) e2 P2 with i|⟨i1,v',H',gone,i2,S⟩
   .exact .inl i
   .exact .inr ⟨i1,v',H',_,i2,hS S⟩
  .rw[if_neg hl];have hb:ak (blank (decide (h=0)) x.l)<=223:=aq (dG _ _) P.sz;have qB:=qD P.ok hb;have hlay':(bH x.leaf x.l).2=0:=by rw[P.leaf];exact qB
   rcases R.write P.here hlay' with⟨w1,w2⟩|⟨w1,w2,w3⟩
   .obtain⟨p1,p2,p3⟩:=Be (v':=jj v x.an (bH x.leaf x.l).1) P.hole (P.ok hl) (λ_=>hl) P.Wf P.BR hb (by rw[gh hlay',if_pos rfl,P.leaf]) (λj hj=>by unfold jj;rw[if_neg hj]);refine .inr ⟨w1,_,h+(y::up).length,[],w2,p1,p3,?_,by simp,λj hj=>?_,λwt=>?_,Nat.le_refl _⟩
    .rw[p2,fF];simp
    .unfold jj;rw[if_neg (λe=>hj (by rw[fF,e];simp))]
    .rw[p2];unfold dg;simp only[jn,eI];have:wt h*(ak (blank (decide (h=0)) x.l)-mN h)<=wt h*(ak x.l-mN h):=lW _ (by have:=dG (decide (h=0)) x.l;omega);omega
   .exact .inl ⟨w1,w3,v,w2⟩
end
structure DelP(v v':Vw)(H:Nat)(M:List MT)(key:ByteArray)(H':Nat)(M':List MT)(A B:List (ByteArray×ByteArray))(y:ByteArray):Prop where
 t:Tree v' H' M'
 d:MW (jx M) key A [(key,y)] B
 m:jx M'=A++B
 Gv:∀wt,dQ wt (ao v' H' 0)<=dQ wt (ao v H 0)
 h:H'<=H
 kp:∀j∈iW M',j∈iW M/\v' j=v j
 len:(ao v' H' 0).length<=(ao v H 0).length
section
variable{o:Vw}{mm:Nat}
theorem Jj{q:QS}{v:Vw}{u H:Nat}{M:List MT}(R:Rd q v o u mm)(T:Tree v H M)(hH:H<=15)(key:ByteArray):
  ((q.iT key).2=11/\mm<=u/\∃v',Rd (q.iT key).1 v' o u mm)\/
  ((q.iT key).2=9/\Rd (q.iT key).1 v o u mm/\∃A B,MW (jx M) key A [] B)\/
  ((q.iT key).2=0/\∃v' H' M' A B y,Rd (q.iT key).1 v' o u mm/\DelP v v' H M key H' M' A B y):=by
 obtain⟨r1,r2⟩:=Gc R T.ok hH key;unfold QS.iT
 rcases r2 with⟨r2,r3⟩|⟨r2,up,x,r3,r4,W⟩
 .rw[if_pos (by rw[r2];simp)];exact .inl ⟨r2,r3,v,r1⟩
 rw[if_neg (by rw[r2];simp),r3,Bj,show(up.reverse++[x]).dropLast.reverse=up by simp];obtain⟨p1,p2,p3,p4,p5⟩:=Bd W;rw[r4]at p1 p2 p5;obtain⟨M1,MC,M2,a,b,d⟩:=Bi T W r4;have hdp:=d.Wm
 rcases d.c with⟨h1,h2⟩|⟨m,h1,hkk,h2⟩
 .rw[if_pos h2];rw[h1]at hdp;exact .inr (.inl ⟨rfl,r1,_,_,hdp⟩)
 rw[if_neg (by rw[h2];simp)];rw[h1]at hdp;have hdl:x.l=a++m.1::b:=by rw[d.l,h1];rfl
 have hdm:M=M1++m::M2:=by rw[d.m,h1];rfl
 have qC:bt (ao v H 0)=bt (ft v up 0)++x.an::bt (dq v up 0):=by rw[p2,cX,da]
 have Rs:=dM.1 T.BR;have haw:qu x.l key=a++b:=by
  unfold qu;rw[if_pos h2,d.n,hdl];exact wK a m.1 b
 have xu:=T.va m (by rw[hdm];simp);have Cj:(((q.eJ key).1.lG x.l key).2=0/\Rd ((q.eJ key).1.lG x.l key).1 (mK v m.2.2) o u mm)\/(((q.eJ key).1.lG x.l key).2=11/\Rd ((q.eJ key).1.lG x.l key).1 v o u mm/\mm<=u):=by
  unfold QS.lG;rw[if_pos h2];have hx:x.l.getD (aY x.l key) Nd.E.zero=m.1:=by rw[d.n,hdl];simp[ib]
  rw[hx];exact DM r1 xu
 rw[haw]
 rcases Cj.symm with⟨o1,o2,o3⟩|⟨o1,o2⟩
 .rw[if_pos (by rw[o1];simp)];exact .inl ⟨o1,o3,v,o2⟩
 rw[if_neg (by rw[o1];simp)];have hMn:=Rs.2.1;rw[hdm,eX,jo]at hMn;have Ge:=dM.1 hMn;have Wq:=dM.1 Ge.2.1;have hmin:∀j∈m.2.2,j∈iW M:=λj hj=>by rw[hdm,eX,jo];simp[hj]
 have po:∀j,j∉m.2.2->mK v m.2.2 j=v j:=λj hj=>if_neg hj;have hnd1:∀j∈bt (ao v H 0),mK v m.2.2 j=v j:=λj hj=>po j (λhm=>Rs.2.2 j hj (hmin j hm));obtain⟨c1,c2,c3⟩:=gU (v':=mK v m.2.2) up 0 x.an W.hole (λj hj=>hnd1 j (by rw[qC];simp[hj])) (λj hj=>hnd1 j (by rw[qC];simp[hj]));have lY:∀e∈a++b,e∈x.l:=λe he=>by rw[hdl];rcases aB.1 he with h|h<;>simp[h]
 have sg:=mh (oS (v:=v) (p:=x.an) (by rw[W.nd]));rw[W.nd]at sg;have sg:∀e∈x.l,cW e true:=sg;have hbx:ak x.l<=223:=by have:=W.ok.2;rw[W.nd]at this;exact this
 have hpw:=oU W.nd;rw[hdl,dO,dW]at hpw;have P:OM (mK v m.2.2) 0 ⟨x.an,x.leaf,a++b,x.at_⟩ up:=by
  refine⟨c1,W.leaf,?_,λ_=>⟨λe he=>sg e (lY e he),?_⟩,λe he=>?_,?_,?_⟩
  .show(mK v m.2.2 x.an).2=0;have rV:x.an∈bt (ao v H 0):=by rw[qC];simp
   rw[hnd1 _ rV];exact T.xY _ rV
  .show(a++b).Pairwise λc e=>gq c.key e.key;rw[dO];exact⟨hpw.1,hpw.2.1.2,λe he e' yl=>hpw.2.2 e he e' (aw _ yl)⟩
  .exact W.Wf e (lY e he)
  .show(bt (ft (mK v m.2.2) up 0)++x.an::([]++bt (dq (mK v m.2.2) up 0))).Nodup;rw[c2,c3,cI,<-qC];exact Rs.1
  .show ak (a++b)<=223;rw[hdl,eH,eG]at hbx;rw[eH];omega
 have NR:dg (mK v m.2.2) 0 ⟨x.an,x.leaf,a++b,x.at_⟩ up=ft v up 0++(0,x.an,a++b)::dq v up 0:=by
  unfold dg;rw[c2,c3];rfl
 have Ru:bt (dg (mK v m.2.2) 0 ⟨x.an,x.leaf,a++b,x.at_⟩ up)=bt (ao v H 0):=by rw[NR,qC,cX,da]
 rcases x6 up 0 ⟨x.an,x.leaf,a++b,x.at_⟩ _ _ u (by omega) o2 P with i|⟨i1,v2,H',gone,i2,S⟩
 .exact .inl i
 refine .inr (.inr ⟨i1,v2,H',M1++M2,jx M1,jx M2,m.2.1,i2,?_⟩);have xZ:∀j,j∈iW M1\/j∈iW M2->j∈iW M/\j∉m.2.2:=λj hj=>by
  refine⟨by rw[hdm,eX,jo];rcases hj with h|h<;>simp[h],λhc=>?_⟩
  rcases hj with h|h
  .exact Ge.2.2 j h (bT _ hc)
  .exact Wq.2.2 j hc h
 have Wr:∀j,j∈iW M1\/j∈iW M2->v2 j=v j/\j∉bt (ao v H 0):=λj hj=>by
  obtain⟨h3,h4⟩:=xZ j hj;have h5:j∉bt (ao v H 0):=λh=>Rs.2.2 j h h3;exact⟨by rw[S.o j (by rw[Ru];exact h5),po j h4],h5⟩
 have hSn:(bt (ao v2 H' 0)++gone).Nodup:=S.pg.nodup_iff.2 (by rw[Ru];exact Rs.1);have hSin:∀j,j∈bt (ao v2 H' 0)->j∈bt (ao v H 0):=λj hj=>by rw[<-Ru];exact S.pg.mem_iff.1 (bT _ hj)
 refine⟨⟨S.ok,?_,λz hz=>?_,?_,λj hj=>?_⟩,?_,by rw[OH],λwt=>?_,by have:=S.h;omega,λj hj=>?_,?_⟩
 .rw[S.en,NR,ez,d.m1,d.m2];simp
 .rcases aB.1 hz with hz|hz
  .exact(T.va z (by rw[hdm];simp[hz])).congr (λj hj=>(Wr j (.inl (uJ.2 ⟨z,hz,hj⟩))).1)
  .exact(T.va z (by rw[hdm];simp[hz])).congr (λj hj=>(Wr j (.inr (uJ.2 ⟨z,hz,hj⟩))).1)
 .rw[eX,dM];refine⟨(dM.1 hSn).1,dM.2 ⟨Ge.1,Wq.2.1,λj hj hm=>Ge.2.2 j hj (bC _ hm)⟩,λj hj hm=>?_⟩;exact(Wr j (aB.1 hm)).2 (hSin j hj)
 .rw[eX]
  by_cases h3:j∈bt (ao v H 0)
  .rw[<-Ru]at h3
   rcases aB.1 (S.pg.mem_iff.2 h3)with h4|h4
   .exact bT _ h4
   .exact absurd hj (S.del j h4)
  .rw[S.o j (by rw[Ru];exact h3)]at hj
   by_cases h4:j∈m.2.2
   .unfold mK at hj;rw[if_pos h4]at hj;exact absurd hj (by simp)
   .rw[po j h4]at hj;have:=T.all j hj;rw[hdm,eX,jo]at this;simp only[aB]at this ⊢
    rcases this with h|h|h|h
    .exact absurd h h3
    .exact .inr (.inl h)
    .exact absurd h h4
    .exact .inr (.inr h)
 .have e:((key,m.2.1):ByteArray×ByteArray)=(m.1.key,m.2.1):=by rw[hkk]
  rw[e];exact hdp
 .have h5:=S.Gv wt;rw[NR,jn,eI]at h5;rw[p2,jn,eI];dsimp only at h5 ⊢;have:wt 0*(ak (a++b)-mN 0)<=wt 0*(ak x.l-mN 0):=lW _ (by rw[hdl,eH,eH,eG];omega);omega
 .rw[eX]at hj;have hj:=aB.1 hj;exact⟨(xZ j hj).1,(Wr j hj).1⟩
 .have:=S.pg.length_eq;rw[Ru,aO]at this;simp only[bt,eM]at this;omega
end
end Sh
end Go.Proofs.YtmonobkginiajaaGreat
