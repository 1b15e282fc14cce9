/- packed. -/
import Derived.Test.YtmonobkginiajaaGreatC19
set_option linter.all false
set_option maxRecDepth 100000
set_option maxHeartbeats 8000000
namespace Go.Proofs.YtmonobkginiajaaGreat.Sh
open Go.RowKit Pk Dk Pg
open Nd (E aF aJ cu bn aM bF bg ai cn)
variable{a b c:ByteArray}{v v':Vw}{h:Nat}{l:List E}{leaf:Bool}{p:Int}{y:Step}
theorem tL{α β:Type}{f g:α->List β}:∀{l:List α},(∀a∈l,f a=g a)->l.flatMap f=l.flatMap g
 |[],_=>rfl
 |a::l,h=>by rw[ie,ie,h a (by simp),tL λx hx=>h x (by simp[hx])]
def kc(a b:ByteArray):Int:=Nd.cb a.data.toList b.data.toList
abbrev gY(a b:ByteArray):Prop:=kc a b<0
abbrev tM(a b:ByteArray):Prop:=kc a b<=0
theorem Dd :kc a b=0↔a=b:=by
 unfold kc;rw[Nd.IF];exact⟨λh=>nA (nz.1 h),λh=>by rw[h]⟩
theorem I9(a b:ByteArray):kc b a= -kc a b:=Nd.BU _ _
theorem iw(h:gY a b)(k:gY b c):gY a c:=Nd.lO _ _ _ h k
theorem xl(h:gY a b):tM a b:=Int.le_of_lt h
theorem pY(h:tM a b):gY a b\/a=b:=by
 rcases Int.lt_or_eq_of_le h with h|h
 .exact .inl h
 .exact .inr (Dd.1 h)
theorem jj(h:gY a b)(k:tM b c):gY a c:=by
 rcases pY k with k|rfl
 .exact iw h k
 .exact h
theorem jk(h:tM a b)(k:gY b c):gY a c:=by
 rcases pY h with h|rfl
 .exact iw h k
 .exact k
theorem E4(h:tM a b)(k:tM b c):tM a c:=by
 rcases pY h with h|rfl
 .exact xl (jj h k)
 .exact k
theorem De(a:ByteArray):tM a a:=Int.le_of_eq (Dd.2 rfl)
theorem rp(h:gY a a):False:=by
 have:=Dd.2 (rfl:a=a);omega
theorem vy(a:ByteArray):tM ⟨#[]⟩ a:=by
 show Nd.cb [] a.data.toList<=0
 cases a.data.toList<;>simp[Nd.cb,Lib.compareBytes]
abbrev NT:=Nat×Int×List E
def aO(v:Vw):Nat->Int->List NT
 |0,p=>[(0,p,(gX v p).2.1)]
 |h+1,p=>(h+1,p,(gX v p).2.1)::(gX v p).2.1.flatMap λe=>aO v h e.aY
def bS(v:Vw)(h:Nat)(l:List E):List NT:=l.flatMap λe=>aO v h e.aY
def bU(ns:List NT):List E:=ns.flatMap λn=>if n.1=0 then n.2.2 else []
def bC(ns:List NT):List Int:=ns.map λn=>n.2.1
def fN(v:Vw)(h:Nat)(p:Int):List E:=bU (aO v h p)
@[simp] theorem entsT_nil:bU []=[]:=rfl
@[simp] theorem dU(a b:List NT):bU (a++b)=bU a++bU b:=by simp[bU]
theorem Cf(n:NT)(a:List NT):bU (n::a)=(if n.1=0 then n.2.2 else [])++bU a:=rfl
@[simp] theorem Cg(p:Int)(l:List E)(a:List NT):bU ((0,p,l)::a)=l++bU a:=rfl
@[simp] theorem jI(h:Nat)(p:Int)(l:List E)(a:List NT):bU ((h+1,p,l)::a)=bU a:=by rw[Cf];simp
@[simp] theorem pgsT_nil:bC []=[]:=rfl
@[simp] theorem de(a b:List NT):bC (a++b)=bC a++bC b:=by simp[bC]
@[simp] theorem eV(n:NT)(a:List NT):bC (n::a)=n.2.1::bC a:=rfl
@[simp] theorem E5(v:Vw)(h:Nat):bS v h []=[]:=rfl
@[simp] theorem fF(v:Vw)(h:Nat)(e:E)(l:List E):bS v h (e::l)=aO v h e.aY++bS v h l:=rfl
@[simp] theorem kv(v:Vw)(h:Nat)(a b:List E):bS v h (a++b)=bS v h a++bS v h b:=by simp[bS]
theorem dO{x:E}:x∈bU (bS v h l)↔ ∃e∈l,x∈fN v h e.aY:=by
 induction l with
 |nil=>simp
 |cons e l ih=>simp[ih,fN]
structure oH(C:Int->Prop)(en:Int->List E)(l:List E):Prop where
 ne:l≠[]
 c:∀e∈l,C e.aY/\en e.aY≠[]
 lo:l.Pairwise λc e=> ∀x∈en c.aY,gY x.key e.key
 hi:∀e∈l.tail,∀x∈en e.aY,tM e.key x.key
def ky(v:Vw):Nat->Int->Prop
 |0,p=>gX v p=(true,(gX v p).2.1,0)/\ai (gX v p).2.1<=223
 |h+1,p=>gX v p=(false,(gX v p).2.1,0)/\ai (gX v p).2.1<=223/\blank false (gX v p).2.1=(gX v p).2.1/\oH (ky v h) (fN v h) (gX v p).2.1
def eZ(v:Vw)(h:Nat)(l:List E):Prop:=(∀e∈l,cn e (decide (h=0)))/\match h with
 |0=>l.Pairwise λc e=>gY c.key e.key
 |h+1=>oH (ky v h) (fN v h) l
def cP(v:Vw)(h:Nat)(l:List E):List NT:=match h with
 |0=>[]
 |h+1=>bS v h l
def eJ(v:Vw)(h:Nat)(l:List E):List E:=match h with
 |0=>l
 |h+1=>bU (bS v h l)
theorem xm(v:Vw)(h:Nat)(p:Int):aO v h p=(h,p,(gX v p).2.1)::cP v h (gX v p).2.1:=by cases h<;>rfl
theorem Ja(v:Vw)(h:Nat)(p:Int):fN v h p=eJ v h (gX v p).2.1:=by
 cases h with
 |zero=>simp[fN,aO,eJ]
 |succ h=>exact jI _ _ _ _
theorem mz(h:cu l leaf):∀e∈l,cn e leaf:=λe he=>by
 obtain⟨i,hi,rfl⟩:=lr he;exact(h i hi _ (aN hi)).1
theorem y5(h:cu l leaf):l.Pairwise λc e=>gY c.key e.key:=by
 rw[vO];intro i j hi hj hij;exact Nd.BV h i (j-i-1) (aN hi) (by rw[show i+1+(j-i-1)=j by omega];exact aN hj)
theorem Ch(h:∀e∈l,cn e leaf)(hp:l.Pairwise λc e=>gY c.key e.key):cu l leaf:=by
 intro i hi e he;refine⟨h e (az he),λh0 p hpe=>?_⟩;rw[vO]at hp;have h1:=hp (i-1) i (by omega) hi (by omega);rw[aN (by omega)]at he hpe;injection he with he
 injection hpe with hpe
 rw[he,hpe]at h1;rw[Nd.IG,decide_eq_false_iff_not];have h2:=I9 p.key e.key;have h1:kc p.key e.key<0:=h1;show ¬kc e.key p.key<=0;omega
theorem pair_ne{C:Int->Prop}{en:Int->List E}(h:oH C en l):l.tail.Pairwise λc e=>gY c.key e.key:=by
 obtain⟨ne,c,lo,hi⟩:=h
 cases l with
 |nil=>exact List.Pairwise.nil
 |cons e l=>
  rw[iC]at hi ⊢;rw[du]at lo;refine List.Pairwise.imp_of_mem ?_ lo.2;intro a b ha hb hab;obtain⟨x,hx⟩:=rA _ (c a (bY _ ha)).2;exact jk (hi a ha x hx) (hab x hx)
theorem in_may{C:Int->Prop}{en:Int->List E}(h:oH C en l)(hr:∀e∈l,cn e false):cu (blank false l) false:=by
 have hp:=pair_ne h;obtain⟨ne,c,lo,hi⟩:=h
 cases l with
 |nil=>exact absurd rfl ne
 |cons e l=>
  have hb:blank false (e::l)={e with key:=⟨#[]⟩}::l:=rfl;rw[hb];refine Ch (λx hx=>?_) ?_
  .rcases aC.1 hx with rfl|hx
   .obtain⟨a,b,cc⟩:=hr e (gG ..);exact⟨bm _,b,cc⟩
   .exact hr x (bY _ hx)
  .rw[du]at lo ⊢;refine⟨λx hx=>?_,hp⟩;obtain⟨y,hy⟩:=rA _ (c e (gG ..)).2;exact jk (vy y.key) (lo.1 x hx y hy)
theorem Jb{C:Int->Prop}{en:Int->List E} :oH C en (blank false l)↔oH C en l:=by
 cases l with
 |nil=>exact Iff.rfl
 |cons e l=>
  have hb:blank false (e::l)={e with key:=⟨#[]⟩}::l:=rfl;rw[hb]
  constructor
  .rintro⟨ne,c,lo,hi⟩;refine⟨by simp,λx hx=>?_,?_,hi⟩
   .rcases aC.1 hx with rfl|hx
    .exact c {x with key:=⟨#[]⟩} (gG ..)
    .exact c x (bY _ hx)
   .rw[du]at lo ⊢;exact lo
  .rintro⟨ne,c,lo,hi⟩;refine⟨by simp,λx hx=>?_,?_,hi⟩
   .rcases aC.1 hx with rfl|hx
    .exact c e (gG ..)
    .exact c x (bY _ hx)
   .rw[du]at lo ⊢;exact lo
theorem tN(v:Vw)(h:Nat)(leaf:Bool)(l:List E):bS v h (blank leaf l)=bS v h l:=by
 cases leaf<;>cases l<;>rfl
theorem ix(l:List E):blank true l=l:=by cases l<;>rfl
theorem pZ(leaf:Bool):blank leaf []=[]:=by cases leaf<;>rfl
theorem dP(leaf:Bool)(l:List E):ai (blank leaf l)<=ai l:=by
 cases leaf
 .cases l with
  |nil=>exact ak _
  |cons e l=>show ai ({e with key:=⟨#[]⟩}::l)<=_;unfold ai;simp;exact bm _
 .rw[ix];exact ak _
theorem y6(k:eZ v h l):cu (blank (decide (h=0)) l) (decide (h=0)):=by
 cases h with
 |zero=>exact(ix l).symm▸Ch k.1 k.2
 |succ h=>exact in_may k.2 k.1
theorem ok_list(k:ky v h p):gX v p=(decide (h=0),(gX v p).2.1,0)/\ai (gX v p).2.1<=223/\eZ v h (gX v p).2.1:=by
 cases h with
 |zero=>
  have hm:=oG (v:=v) (p:=p) (by rw[k.1]);rw[k.1]at hm;exact⟨k.1,k.2,mz hm,y5 hm⟩
 |succ h=>
  have hm:=oG (v:=v) (p:=p) (by rw[k.1]);rw[k.1]at hm;exact⟨k.1,k.2.1,mz hm,k.2.2.2⟩
theorem list_ok(k:gX v p=(decide (h=0),l,0))(hb:ai l<=223)(hk:blank (decide (h=0)) l=l)(hl:eZ v h l):ky v h p:=by
 cases h with
 |zero=>exact⟨by rw[k];rfl,by rw[k];exact hb⟩
 |succ h=>exact⟨by rw[k];rfl,by rw[k];exact hb,by rw[k];exact hk,by rw[k];exact hl.2⟩
theorem qA :∀(h:Nat) (p:Int),(∀j∈bC (aO v h p),v' j=v j)->aO v' h p=aO v h p/\(ky v h p->ky v' h p)
 |0,p,hj=>by
  have e:=pX (hj p (by simp[aO]));exact⟨by unfold aO;rw[e],λh=>by unfold ky at h ⊢;rw[e];exact h⟩
 |h+1,p,hj=>by
  have e:=pX (hj p (by simp[aO]));have hk:∀c∈(gX v p).2.1,aO v' h c.aY=aO v h c.aY/\(ky v h c.aY->ky v' h c.aY):=λc hc=>qA h c.aY λj hjm=>hj j (by
   unfold aO;rw[eV];refine bY _ ?_;simp only[bC,eo,mQ]at hjm ⊢;obtain⟨n,hn,rfl⟩:=hjm;exact⟨n,⟨c,hc,hn⟩,rfl⟩)
  have hf:((gX v p).2.1.flatMap λe=>aO v' h e.aY)=(gX v p).2.1.flatMap λe=>aO v h e.aY:=tL λc hc=>(hk c hc).1;refine⟨?_,?_⟩
  .unfold aO;rw[e,hf]
  .unfold ky;rw[e];rintro⟨a,b,bk,d⟩;refine⟨a,b,bk,d.ne,λx hx=>⟨(hk x hx).2 (d.c x hx).1,by unfold fN;rw[(hk x hx).1];exact(d.c x hx).2⟩,?_,λx hx y hy=>?_⟩
   .refine List.Pairwise.imp_of_mem ?_ d.lo;intro x y hx hy hxy z hz;unfold fN at hz;rw[(hk x hx).1]at hz;exact hxy z hz
   .unfold fN at hy;rw[(hk x (vL hx)).1]at hy;exact d.hi x hx y hy
theorem gj(hj:∀j∈bC (bS v h l),v' j=v j):bS v' h l=bS v h l/\∀e∈l,aO v' h e.aY=aO v h e.aY/\(ky v h e.aY->ky v' h e.aY):=by
 have hk:∀c∈l,aO v' h c.aY=aO v h c.aY/\(ky v h c.aY->ky v' h c.aY):=λc hc=>qA h c.aY λj hjm=>hj j (by
  unfold bS;simp only[bC,eo,mQ]at hjm ⊢;obtain⟨n,hn,rfl⟩:=hjm;exact⟨n,⟨c,hc,hn⟩,rfl⟩)
 exact⟨tL λc hc=>(hk c hc).1,hk⟩
theorem Jc(hk:∀e∈l,aO v' h e.aY=aO v h e.aY/\(ky v h e.aY->ky v' h e.aY))(d:oH (ky v h) (fN v h) l):oH (ky v' h) (fN v' h) l:=by
 refine⟨d.ne,λx hx=>⟨(hk x hx).2 (d.c x hx).1,by unfold fN;rw[(hk x hx).1];exact(d.c x hx).2⟩,?_,λx hx y hy=>?_⟩
 .refine List.Pairwise.imp_of_mem ?_ d.lo;intro x y hx hy hxy z hz;unfold fN at hz;rw[(hk x hx).1]at hz;exact hxy z hz
 .unfold fN at hy;rw[(hk x (vL hx)).1]at hy;exact d.hi x hx y hy
theorem jJ(hj:∀j∈bC (cP v h l),v' j=v j):cP v' h l=cP v h l/\eJ v' h l=eJ v h l/\(eZ v h l->eZ v' h l):=by
 cases h with
 |zero=>exact⟨rfl,rfl,id⟩
 |succ h=>
  obtain⟨a,b⟩:=gj (h:=h) (l:=l) hj;exact⟨a,by show bU _=bU _;rw[a],λk=>⟨k.1,Jc b k.2⟩⟩
structure Jd(v:Vw)(h:Nat)(y:Step)(p:Int)(a:List E)(c:E)(b:List E):Prop where
 leaf:y.leaf=false
 nd:gX v y.an=(false,y.l,0)
 by_:ai y.l<=223
 bk:blank false y.l=y.l
 l:y.l=a++c::b
 at_:y.at_=a.length
 aY:c.aY=p
 ch:∀e∈a++b,ky v h e.aY/\fN v h e.aY≠[]
 lo:(a++b).Pairwise λc e=> ∀x∈fN v h c.aY,gY x.key e.key
 la:∀e∈a,∀x∈fN v h e.aY,gY x.key c.key
 ha:∀e∈a.tail,∀x∈fN v h e.aY,tM e.key x.key
 hb:∀e∈b,∀x∈fN v h e.aY,tM e.key x.key
 hc:a≠[]->∀e∈b,gY c.key e.key
def xA:List Step->ByteArray->Prop
 |[],_=>True
 |y::up,k=>(0<y.at_->tM (y.l.getD y.at_ Nd.E.zero).key k)/\(∀e∈y.l.drop (y.at_+1),gY k e.key)/\xA up k
def lR(v:Vw):List Step->Nat->Int->Prop
 |[],_,p=>p=0
 |y::up,h,p=>(∃a c b,Jd v h y p a c b/\∀e∈a++b,∀x∈fN v h e.aY,xA up x.key)/\lR v up (h+1) y.an
def eS(v:Vw):List Step->Nat->List NT
 |[],_=>[]
 |y::up,h=>eS v up (h+1)++(h+1,y.an,y.l)::bS v h (y.l.take y.at_)
def df(v:Vw):List Step->Nat->List NT
 |[],_=>[]
 |y::up,h=>bS v h (y.l.drop (y.at_+1))++df v up (h+1)
theorem dY(v:Vw)(h:Nat):eS v [] h=[]:=rfl
theorem dj(v:Vw)(h:Nat):df v [] h=[]:=rfl
theorem dE(v:Vw)(y:Step)(up:List Step)(h:Nat):eS v (y::up) h=eS v up (h+1)++(h+1,y.an,y.l)::bS v h (y.l.take y.at_):=rfl
theorem cR(v:Vw)(y:Step)(up:List Step)(h:Nat):df v (y::up) h=bS v h (y.l.drop (y.at_+1))++df v up (h+1):=rfl
theorem jX{a:List E}{c:E}{b:List E}(f:Jd v h y p a c b):y.l.take y.at_=a/\y.l.drop (y.at_+1)=b/\y.l.getD y.at_ Nd.E.zero=c:=by
 rw[f.l,f.at_];refine⟨lV,?_,?_⟩
 .rw[show a++c::b=(a++[c])++b by simp,List.drop_left' (by simp)]
 .simp[ig]
theorem jK{a:List E}{c:E}{b:List E}(f:Jd v h y p a c b)(up:List Step)(k:ByteArray):xA (y::up) k↔(a≠[]->tM c.key k)/\(∀e∈b,gY k e.key)/\xA up k:=by
 obtain⟨h1,h2,h3⟩:=jX f;show((0<y.at_->tM (y.l.getD y.at_ Nd.E.zero).key k)/\(∀e∈y.l.drop (y.at_+1),gY k e.key)/\xA up k)↔_;rw[h2,h3,f.at_];refine and_congr_left λ_=>?_
 constructor
 .exact λhh hn=>hh (rD.2 hn)
 .exact λhh hn=>hh (rD.1 hn)
theorem fr_in{a:List E}{c:E}{b:List E}(f:Jd v h y p a c b)(hp:ky v h p)(hn:fN v h p≠[])(hh:∀x∈fN v h p,(a≠[]->tM c.key x.key)/\∀e∈b,gY x.key e.key):ky v (h+1) y.an:=by
 unfold ky;rw[f.nd];refine⟨rfl,f.by_,f.bk,by rw[f.l];simp,λe he=>?_,?_,λe he=>?_⟩
 .rw[f.l]at he
  rcases aS.1 he with he|he
  .exact f.ch e (bX _ he)
  .rcases aC.1 he with rfl|he
   .rw[f.aY];exact⟨hp,hn⟩
   .exact f.ch e (bV _ he)
 .show y.l.Pairwise _;have:=f.lo;rw[da]at this;rw[f.l,da,du];refine⟨this.1,⟨λe he x hx=>?_,this.2.1⟩,λe he e' sR x hx=>?_⟩
  .rw[f.aY]at hx;exact(hh x hx).2 e he
  .rcases aC.1 sR with rfl|sR
   .exact f.la e he x hx
   .exact this.2.2 e he e' sR x hx
 .have he:e∈y.l.tail:=he;rw[f.l]at he
  cases ha:a with
  |nil=>
   rw[ha]at he;exact f.hb e he
  |cons z a'=>
   have eG:a≠[]:=by rw[ha];simp
   have hha:=f.ha;rw[ha]at he hha;rw[mL,iC]at he;rw[iC]at hha
   rcases aS.1 he with he|he
   .exact hha e he
   .rcases aC.1 he with rfl|he
    .intro x hx;rw[f.aY]at hx;exact(hh x hx).1 eG
    .exact f.hb e he
theorem plug :∀(up:List Step) (h:Nat) (p:Int),lR v up h p->ky v h p->(up≠[]->fN v h p≠[])->(∀x∈fN v h p,xA up x.key)->
  ky v (h+up.length) 0/\aO v (h+up.length) 0=eS v up h++(aO v h p++df v up h)
 |[],h,p,hH,ho,hn,hi=>by
  have e:p=0:=hH;subst e;exact⟨ho,by simp[dY,dj]⟩
 |y::up,h,p,hH,ho,hn,hi=>by
  obtain⟨⟨a,c,b,f,hs⟩,hU⟩:=hH;have Ih:=λx hx=>(jK f up x.key).1 (hi x hx);have hn:=hn (by simp);have o1:=fr_in f ho hn (λx hx=>⟨(Ih x hx).1,(Ih x hx).2.1⟩);obtain⟨t1,t2,t3⟩:=jX f;have e1:aO v (h+1) y.an=(h+1,y.an,y.l)::(bS v h a++(aO v h p++bS v h b)):=by
   rw[xm,f.nd];show _::bS v h y.l=_;rw[f.l,kv,fF,f.aY,<-f.l]
  have hmem:∀x∈fN v (h+1) y.an,x∈fN v h p\/∃e∈a++b,x∈fN v h e.aY:=λx hx=>by
   unfold fN at hx;rw[e1,jI,dU,dU]at hx
   rcases aS.1 hx with hx|hx
   .obtain⟨e,he,hx⟩:=dO.1 hx;exact .inr ⟨e,bX _ he,hx⟩
   .rcases aS.1 hx with hx|hx
    .exact .inl hx
    .obtain⟨e,he,hx⟩:=dO.1 hx;exact .inr ⟨e,bV _ he,hx⟩
  have eG:fN v (h+1) y.an≠[]:=λh0=>by
   unfold fN at h0;rw[e1,jI,dU,dU,zK,zK]at h0;exact hn h0.2.1
  obtain⟨r1,r2⟩:=plug up (h+1) y.an hU o1 (λ_=>eG) (λx hx=>by
   rcases hmem x hx with hx|⟨e,he,hx⟩
   .exact(Ih x hx).2.2
   .exact hs e he x hx)
  have hl:h+(y::up).length=h+1+up.length:=by simp;omega
  rw[hl];refine⟨r1,?_⟩;rw[r2,e1];simp only[dE,cR,dY,dj];rw[t1,t2];simp
variable{l:List E}{v:Vw}{p:Int}{key:ByteArray}
theorem Je(e:E)(k:ByteArray):Nd.mE e k=kc e.key k:=rfl
theorem tO(hp:l.Pairwise λc e=>gY c.key e.key)(key:ByteArray):∃a b,l=a++b/\aM l key=a.length/\(∀e∈a,gY e.key key)/\
  ((bF l key=true/\∃c b',b=c::b'/\c.key=key/\∀e∈b',gY key e.key)\/(bF l key=false/\∀e∈b,gY key e.key)):=by
 have hle:aM l key<=l.length:=kz;have eT:∀e∈l.take (aM l key),gY e.key key:=λe he=>by
  obtain⟨j,hj,rfl⟩:=lr he;rw[cE]at hj;have hj2:j<l.findIdx λe=>decide (0<=Nd.mE e key):=by unfold aM at hj;omega
  have:=vN hj2;have:=of_decide_eq_false this;rw[List.getElem_take];rw[Je]at this;show kc _ _<0;omega
 refine⟨l.take (aM l key),l.drop (aM l key),(jN _ _).symm,by rw[cE];omega,eT,?_⟩
 rcases dZ (aM l key) l.length with hf|hf
 .have he:=zM hf;have h0:0<=kc l[aM l key].key key:=by
   have:=mO (w:=show(l.findIdx λe=>decide (0<=Nd.mE e key))<l.length from hf);exact of_decide_eq_true this
  rw[he];have hp2:(l.drop (aM l key)).Pairwise λc e=>gY c.key e.key:=hp.sublist (List.drop_sublist _ _);rw[he,du]at hp2;unfold bF;rw[aN hf];dsimp only;rw[Je]
  by_cases hz:kc l[aM l key].key key=0
  .left;have hk:=Dd.1 hz;refine⟨by rw[decide_eq_true hz],_,_,rfl,hk,λe he=>?_⟩;rw[<-hk];exact hp2.1 e he
  .right;have hn:=I9 l[aM l key].key key;have h1:gY key l[aM l key].key:=by show kc _ _<0;omega
   refine⟨by rw[decide_eq_false hz],λe he=>?_⟩
   rcases aC.1 he with rfl|he
   .exact h1
   .exact iw h1 (hp2.1 e he)
 .right;rw[jY hf];refine⟨?_,by simp⟩;unfold bF;rw[fo hf]
theorem Jf(hp:l.Pairwise λc e=>gY c.key e.key)(hn:l≠[])(key:ByteArray):∃a c b,l=a++c::b/\bn l key=a.length/\(a≠[]->tM c.key key)/\∀e∈b,gY key e.key:=by
 obtain⟨a,b,hl,hf,ha,hb⟩:=tO hp key;unfold bn
 rcases hb with⟨h1,c,b',rfl,hc,hb'⟩|⟨h1,hb⟩
 .rw[if_pos h1];exact⟨a,c,b',hl,hf,λ_=>by rw[hc];exact De _,hb'⟩
 .rw[if_neg (by rw[h1];simp),hf]
  rcases vF a with rfl|⟨a',c,rfl⟩
  .cases b with
   |nil=>exact absurd hl hn
   |cons c b'=>exact⟨[],c,b',hl,rfl,λh=>absurd rfl h,λe he=>hb e (bY _ he)⟩
  .refine⟨a',c,b,by rw[hl];simp,by simp,λ_=>xl (ha c (by simp)),hb⟩
theorem fr_of{h:Nat}{a b:List E}{c:E}(hd:gX v p=(false,l,0))(hb:ai l<=223)(hk:blank false l=l)(d:oH (ky v h) (fN v h) l)(hl:l=a++c::b)(hp:l.Pairwise λc e=>gY c.key e.key):
  Jd v h ⟨p,false,l,a.length⟩ c.aY a c b:=by
 have Fw:=d.lo;have hhi:=d.hi;have hc:=d.c;rw[hl,da,du]at Fw hp;refine⟨rfl,hd,hb,hk,hl,rfl,rfl,λe he=>?_,?_,λe he x hx=>Fw.2.2 e he c (gG ..) x hx,λe he x hx=>?_,λe he x hx=>?_,λ_ e he=>hp.2.1.1 e he⟩
 .rw[hl]at hc
  rcases aS.1 he with he|he
  .exact hc e (bX _ he)
  .exact hc e (bV _ (bY _ he))
 .rw[da];exact⟨Fw.1,Fw.2.1.2,λx hx y hy=>Fw.2.2 x hx y (bY _ hy)⟩
 .rw[hl]at hhi
  cases a with
  |nil=>exact absurd he (by simp)
  |cons z a'=>exact hhi e (bX _ he) x hx
 .rw[hl]at hhi
  cases a with
  |nil=>exact hhi e he x hx
  |cons z a'=>exact hhi e (bV _ (bY _ he)) x hx
theorem xo{leaf:Bool}(h:gX v p=(leaf,l,0)):l.Pairwise λc e=>gY c.key e.key:=by
 have:=y5 (oG (v:=v) (p:=p) (by rw[h]));rw[h]at this;exact this
structure WayV(v:Vw)(key:ByteArray)(up:List Step)(x:Step):Prop where
 hole:lR v up 0 x.an
 ok:ky v 0 x.an
 leaf:x.leaf=true
 nd:gX v x.an=(true,x.l,0)
 key:xA up key
 ne:up≠[]->x.l≠[]
 inh:∀e∈x.l,xA up e.key
section
variable{v:Vw}{o:Vw}{mm:Nat}
theorem y7(key:ByteArray):∀(h m:Nat) (q:QS) (p:Int) (out up:List Step) (u:Nat),h<m->Rd q v o u mm->ky v h p->lR v up h p->xA up key->(up≠[]->fN v h p≠[])->(∀x∈fN v h p,xA up x.key)->
  Rd (kt key m q p out).1 v o u mm/\(((kt key m q p out).2.2=11/\mm<=u)\/((kt key m q p out).2.2=0/\∃mid x,(kt key m q p out).2.1=out++(mid++[x])/\mid.length=h/\WayV v key (mid.reverse++up) x))
 |h,0,q,p,out,up,u,hm,hR,hO,hH,hK,hN,hI=>absurd hm (by omega)
 |h,m+1,q,p,out,up,u,hm,hR,hO,hH,hK,hN,hI=>by
  obtain⟨r1,r2⟩:=hR.read p;unfold kt
  rcases r2 with r2|⟨r2,r3⟩
  .cases h with
   |zero=>
    have hO':=hO;obtain⟨o1,o2⟩:=hO;rw[r2,o1,if_neg (by simp),if_pos rfl];refine⟨r1,.inr ⟨rfl,[],⟨p,true,(gX v p).2.1,0⟩,by simp,rfl,hH,hO',rfl,o1,hK,λeG=>?_,λe he=>?_⟩⟩
    .have:=hN eG;rw[Ja]at this;exact this
    .refine hI e ?_;rw[Ja];exact he
   |succ h=>
    obtain⟨o1,o2,o4,o3⟩:=hO;obtain⟨l,hl⟩:∃l,(gX v p).2.1=l:=⟨_,rfl⟩;have oE:fN v (h+1) p=bU (bS v h l):=by rw[Ja,hl];rfl
    rw[hl]at o1 o2 o3 o4;have hp:=xo o1;obtain⟨a,c,b,e1,e2,e3,e4⟩:=Jf hp o3.ne key;rw[r2,o1,if_neg (by simp),if_neg (by simp),if_neg o3.ne];dsimp only;have f:=fr_of o1 o2 o4 o3 e1 hp;rw[e2];have hc:l.getD a.length Nd.E.zero=c:=by rw[e1];simp[ig]
    rw[hc];have qH:∀e∈l,∀x∈fN v h e.aY,xA up x.key:=λe he x hx=>hI x (by rw[oE];exact dO.2 ⟨e,he,hx⟩);have xx:c∈l:=by rw[e1];simp
    have hs1:∀x∈fN v h c.aY,a≠[]->tM c.key x.key:=λx hx eG=>by
     have hhi:=o3.hi;rw[e1]at hhi
     cases a with
     |nil=>exact absurd rfl eG
     |cons z a'=>exact hhi c (by simp) x hx
    have hs2:∀x∈fN v h c.aY,∀e∈b,gY x.key e.key:=λx hx e he=>by
     have Fw:=o3.lo;rw[e1,da,du]at Fw;exact Fw.2.1.1 e he x hx
    obtain⟨i1,i2⟩:=y7 key h m (q.bW p).1 c.aY (out++[⟨p,false,l,a.length⟩]) (⟨p,false,l,a.length⟩::up) u (by omega) r1 (o3.c c xx).1
     ⟨⟨a,c,b,f,λe he x hx=>qH e (by rw[e1];rcases aS.1 he with he|he<;>simp[he]) x hx⟩,hH⟩ ((jK f up key).2 ⟨e3,e4,hK⟩) (λ_=>(o3.c c xx).2)
     (λx hx=>(jK f up x.key).2 ⟨hs1 x hx,hs2 x hx,qH c xx x hx⟩)
    .refine⟨i1,i2.imp id ?_⟩;rintro⟨j1,mid,x,j2,j3,j4⟩;refine⟨j1,⟨p,false,l,a.length⟩::mid,x,by rw[j2];simp,by simp[j3],?_⟩;rw[List.reverse_cons,cN];exact j4
  .rw[r2,if_pos (by simp)];exact⟨r1,.inl ⟨rfl,r3⟩⟩
theorem Df{q:QS}{u H:Nat}(hR:Rd q v o u mm)(hO:ky v H 0)(hH:H<=15)(key:ByteArray):
  Rd (q.eP key).1 v o u mm/\(((q.eP key).2.2=11/\mm<=u)\/((q.eP key).2.2=0/\∃up x,(q.eP key).2.1=up.reverse++[x]/\up.length=H/\WayV v key up x)):=by
 obtain⟨a,b⟩:=y7 key H 16 q 0 [] [] u (by omega) hR hO rfl trivial (λh=>absurd rfl h) (λ_ _=>trivial);refine⟨a,b.imp id ?_⟩;rintro⟨b1,mid,x,b2,b3,b4⟩;rw[jy]at b4;exact⟨b1,mid.reverse,x,by rw[List.reverse_reverse];exact b2,by simp[b3],b4⟩
end
theorem Jg :∀{up:List Step} {h:Nat} {p:Int},lR v up h p->xA up key->∀x∈bU (eS v up h),gY x.key key
 |[],_,_,_,_,x,hx=>absurd hx (by simp[dY])
 |y::up,h,p,hH,hK,x,hx=>by
  obtain⟨⟨a,c,b,f,hs⟩,hU⟩:=hH;obtain⟨k1,k2,k3⟩:=(jK f up key).1 hK;simp only[dE]at hx;rw[(jX f).1,dU,jI]at hx
  rcases aS.1 hx with hx|hx
  .exact Jg hU k3 x hx
  .obtain⟨e,he,hx⟩:=dO.1 hx;exact jj (f.la e he x hx) (k1 (λh0=>by rw[h0]at he;simp at he))
theorem Dg :∀{up:List Step} {h:Nat} {p:Int},lR v up h p->xA up key->∀x∈bU (df v up h),gY key x.key
 |[],_,_,_,_,x,hx=>absurd hx (by simp[dj])
 |y::up,h,p,hH,hK,x,hx=>by
  obtain⟨⟨a,c,b,f,hs⟩,hU⟩:=hH;obtain⟨k1,k2,k3⟩:=(jK f up key).1 hK;simp only[cR]at hx;rw[(jX f).2.1,dU]at hx
  rcases aS.1 hx with hx|hx
  .obtain⟨e,he,hx⟩:=dO.1 hx;exact jj (k2 e he) (f.hb e he x hx)
  .exact Dg hU k3 x hx
theorem y8{up:List Step}{x:Step}(k:WayV v key up x):ky v up.length 0/\aO v up.length 0=eS v up 0++(0,x.an,x.l)::df v up 0/\
  (∀e∈bU (eS v up 0),gY e.key key)/\(∀e∈bU (df v up 0),gY key e.key)/\fN v up.length 0=bU (eS v up 0)++(x.l++bU (df v up 0)):=by
 have hl:fN v 0 x.an=x.l:=by rw[Ja,k.nd];rfl
 obtain⟨a,b⟩:=plug up 0 x.an k.hole k.ok (by rw[hl];exact k.ne) (by rw[hl];exact k.inh);rw[bt]at a b;have e:aO v 0 x.an=[(0,x.an,x.l)]:=by unfold aO;rw[k.nd]
 rw[e]at b;refine⟨a,b,Jg k.hole k.key,Dg k.hole k.key,?_⟩;unfold fN;rw[b,dU,nF,Cg]
variable{l la lb:List E}{v:Vw}{h:Nat}
theorem y9(l:List E):∀j,∃t j7,Nd.mo l j t j7
 |0=>⟨1,-1,.inl ⟨rfl,rfl,rfl⟩⟩
 |j+1=>by
  obtain⟨t,j7,h⟩:=y9 l j
  by_cases h1:j7<0\/Nd.gZ l (j+1)<j7
  .exact⟨_,_,Nd.ve h rfl h1⟩
  .exact⟨_,_,Nd.vf h rfl (λh2=>h1 (.inl h2)) (λh2=>h1 (.inr h2))⟩
theorem best_ex(l:List E)(m:Nat)(h:2<=m):∃t,Nd.pP l m t:=by
 obtain⟨t,j7,h1⟩:=y9 l (m-1)
 rcases h1 with⟨h1,_⟩|⟨h1,h2,_⟩
 .omega
 .rw[show m-1+1=m by omega]at h2;exact⟨t,h2⟩
theorem gy(a b:List E):ai (a++b)=ai a+ai b:=by simp[ai]
theorem ez(e:E)(b:List E):ai (e::b)=e.key.size+e.val.size+7+ai b:=by simp[ai]
theorem E6(hc:∀e∈l,Nd.cost e<=79)(hT:223<ai l)(hT2:ai l<=302):
  ∃la lb,l=la++lb/\l.take (bg l)=la/\l.drop (bg l)=lb/\la≠[]/\lb≠[]/\ai la<=223/\ai lb<=223/\(ai la-151)+(ai lb-151)+73<=ai l-151:=by
 have hn:2<=l.length:=by
  match l,hc,hT with
  |[],_,hT=>exact absurd hT (by simp[ai])
  |[e],hc,hT=>
   have:=hc e (by simp);unfold Nd.cost at this;rw[ez]at hT;have:ai []=0:=rfl;omega
  |_::_::_,_,_=>simp
 obtain⟨t,hB⟩:=best_ex l l.length hn;have ht:=Nd.CY hB;obtain⟨f1,f2⟩:=Nd.EG hc hn hT2 hB;obtain⟨i,h1,h2,h3⟩:=Nd.vg l hc hn;have h4:=hB.2.2.1 i h1 h2;have h5:=Nd.qw l t;have hb:=hB.2.1;have ha:=hB.1;refine⟨l.take t,l.drop t,(jN _ _).symm,by rw[ht],by rw[ht],λh=>?_,λh=>?_,f1,f2,?_⟩
 .have:=congrArg List.length h;rw[cE]at this;have:min t l.length=0:=this;omega
 .have:=congrArg List.length h;rw[dg]at this;have:l.length-t=0:=this;omega
 .have h6:Nd.gZ l t<=79:=Int.le_trans h4 h3;simp only[Nd.gZ]at h6;omega
theorem Jh{C:Int->Prop}{en:Int->List E}(d:oH C en (la++lb))(ha:la≠[])(hb:lb≠[]):oH C en la/\oH C en lb/\
  (∀e∈la,∀x∈en e.aY,gY x.key (keyOf lb))/\∀e∈lb,∀x∈en e.aY,tM (keyOf lb) x.key:=by
 obtain⟨ne,c,lo,hi⟩:=d
 cases la with
 |nil=>exact absurd rfl ha
 |cons a la=>
  cases lb with
  |nil=>exact absurd rfl hb
  |cons b lb=>
   have hk:keyOf (b::lb)=b.key:=rfl;rw[hk];rw[da]at lo;rw[mL,iC]at hi;have xR:=hi b (by simp);refine⟨⟨ha,λe he=>c e (bX _ he),lo.1,λe he=>hi e (bX _ he)⟩,⟨hb,λe he=>c e (bV _ he),lo.2.1,λe he=>hi e (bV _ (bY _ he))⟩,λe he=>lo.2.2 e he b (by simp),λe he x hx=>?_⟩
   rcases aC.1 he with rfl|he
   .exact xR x hx
   .obtain⟨y,hy⟩:=rA _ (c b (by simp)).2;have h1:=(du.1 lo.2.1).1 e he y hy;exact E4 (xl (jk (xR y hy) h1)) (hi e (by simp[he]) x hx)
theorem p8(v:Vw)(h:Nat)(a b:List E):eJ v h (a++b)=eJ v h a++eJ v h b:=by
 cases h with
 |zero=>rfl
 |succ h=>show bU _=bU _++bU _;rw[kv,dU]
theorem ju(v:Vw)(h:Nat)(a b:List E):cP v h (a++b)=cP v h a++cP v h b:=by
 cases h with
 |zero=>rfl
 |succ h=>exact kv _ _ _ _
theorem jw(k:eZ v h l)(hn:l≠[]):eJ v h l≠[]:=by
 cases h with
 |zero=>exact hn
 |succ h=>
  cases l with
  |nil=>exact absurd rfl hn
  |cons e l=>
   intro h0;have h0:bU (bS v h (e::l))=[]:=h0;rw[fF,dU,zK]at h0;exact(k.2.c e (by simp)).2 h0.1
theorem ni(k:eZ v h (la++lb))(ha:la≠[])(hb:lb≠[]):eZ v h la/\eZ v h lb/\(∀x∈eJ v h la,gY x.key (keyOf lb))/\(∀x∈eJ v h lb,tM (keyOf lb) x.key)/\(keyOf lb).size<=32:=by
 have hr:=k.1;have hks:(keyOf lb).size<=32:=by
  cases lb with
  |nil=>exact absurd rfl hb
  |cons b lb=>exact(hr b (by simp)).1
 cases h with
 |zero=>
  have hp:(la++lb).Pairwise λc e=>gY c.key e.key:=k.2;rw[da]at hp;refine⟨⟨λe he=>hr e (bX _ he),hp.1⟩,⟨λe he=>hr e (bV _ he),hp.2.1⟩,λx hx=>?_,λx hx=>?_,hks⟩
  .cases lb with
   |nil=>exact absurd rfl hb
   |cons b lb=>exact hp.2.2 x hx b (by simp)
  .cases lb with
   |nil=>exact absurd rfl hb
   |cons b lb=>
    rcases aC.1 hx with rfl|hx
    .exact De _
    .exact xl ((du.1 hp.2.1).1 x hx)
 |succ h=>
  obtain⟨p1,p2,p3,p4⟩:=Jh k.2 ha hb;refine⟨⟨λe he=>hr e (bX _ he),p1⟩,⟨λe he=>hr e (bV _ he),p2⟩,λx hx=>?_,λx hx=>?_,hks⟩
  .obtain⟨e,he,hx⟩:=dO.1 hx;exact p3 e he x hx
  .obtain⟨e,he,hx⟩:=dO.1 hx;exact p4 e he x hx
theorem Ci(k:eZ v h l):eZ v h (blank (decide (h=0)) l):=by
 cases h with
 |zero=>exact(ix l).symm▸k
 |succ h=>
  refine⟨λe he=>?_,Jb.2 k.2⟩;have he:e∈blank false l:=he
  cases l with
  |nil=>exact absurd he (by simp[blank])
  |cons c l=>
   have hb:blank false (c::l)={c with key:=⟨#[]⟩}::l:=rfl;rw[hb]at he
   rcases aC.1 he with rfl|he
   .obtain⟨a,b,cc⟩:=k.1 c (by simp);exact⟨bm _,b,cc⟩
   .exact k.1 e (by simp[he])
theorem ze(v:Vw)(h:Nat)(l:List E):cP v h (blank (decide (h=0)) l)=cP v h l:=by
 cases h with
 |zero=>rfl
 |succ h=>exact tN _ _ _ _
theorem zi(v:Vw)(h:Nat)(l:List E):eJ v h (blank (decide (h=0)) l)=eJ v h l:=by
 cases h with
 |zero=>exact ix l
 |succ h=>show bU _=bU _;exact congrArg bU (tN _ _ _ _)
theorem Cj(leaf:Bool)(l:List E):blank leaf (blank leaf l)=blank leaf l:=by cases leaf<;>cases l<;>rfl
theorem oI{p:Int}(k:eZ v h l)(hb:ai (blank (decide (h=0)) l)<=223)(hd:gX v p=(decide (h=0),blank (decide (h=0)) l,0)):
  ky v h p/\aO v h p=(h,p,blank (decide (h=0)) l)::cP v h l/\fN v h p=eJ v h l:=by
 refine⟨list_ok hd hb (Cj _ _) (Ci k),?_,?_⟩
 .rw[xm,hd,ze]
 .rw[Ja,hd,zi]
theorem oJ(k:eZ v h l)(hb:ai (blank (decide (h=0)) l)<=223):(bA (decide (h=0)) l).2=0:=by
 rcases ku (decide (h=0)) l with h1|h1|h1
 .exact h1.2.2.1
 .omega
 .exact absurd (y6 k) h1.1
theorem Ck(k:eZ v h l)(hb:223<ai (blank (decide (h=0)) l)):bA (decide (h=0)) l=([],11):=by
 rcases ku (decide (h=0)) l with h1|h1|h1
 .omega
 .exact h1.2.2
 .exact absurd (y6 k) h1.1
theorem xp :∀(h:Nat) (p:Int),ky v h p->∀j∈bC (aO v h p),(v j).2=0
 |0,p,ho,j,hj=>by
  have:j=p:=by simpa [aO]using hj
  subst this;exact lQ (by rw[ho.1])
 |h+1,p,ho,j,hj=>by
  unfold aO at hj;rw[eV]at hj
  rcases aC.1 hj with rfl|hj
  .exact lQ (by rw[ho.1])
  .simp only[bC,eo,mQ]at hj;obtain⟨n,⟨c,hc,hn⟩,rfl⟩:=hj;exact xp h c.aY (ho.2.2.2.c c hc).1 _ (eo.2 ⟨n,hn,rfl⟩)
theorem p9(hc:∀e∈l,ky v h e.aY):∀j∈bC (bS v h l),(v j).2=0:=λj hj=>by
 unfold bS at hj;simp only[bC,eo,mQ]at hj;obtain⟨n,⟨c,hc',hn⟩,rfl⟩:=hj;exact xp h c.aY (hc c hc') _ (eo.2 ⟨n,hn,rfl⟩)
theorem vz(k:eZ v h l):∀j∈bC (cP v h l),(v j).2=0:=by
 cases h with
 |zero=>intro j hj;exact absurd hj (by simp[cP])
 |succ h=>exact p9 λe he=>(k.2.c e he).1
theorem vA :∀(up:List Step) (h:Nat) (p:Int),lR v up h p->(∀j∈bC (eS v up h),(v j).2=0)/\∀j∈bC (df v up h),(v j).2=0
 |[],h,p,_=>⟨λj hj=>absurd hj (by simp[dY]),λj hj=>absurd hj (by simp[dj])⟩
 |y::up,h,p,hH=>by
  obtain⟨⟨a,c,b,f,hs⟩,hU⟩:=hH;obtain⟨i1,i2⟩:=vA up (h+1) y.an hU;obtain⟨t1,t2,t3⟩:=jX f;simp only[dE,cR,dY,dj];rw[t1,t2];refine⟨λj hj=>?_,λj hj=>?_⟩
  .rw[de,eV]at hj
   rcases aS.1 hj with hj|hj
   .exact i1 j hj
   .rcases aC.1 hj with rfl|hj
    .exact lQ (by rw[f.nd])
    .exact p9 (λe he=>(f.ch e (bX _ he)).1) j hj
  .rw[de]at hj
   rcases aS.1 hj with hj|hj
   .exact p9 (λe he=>(f.ch e (bV _ he)).1) j hj
   .exact i2 j hj
theorem iy{v':Vw}:∀(up:List Step) (h:Nat) (p:Int),lR v up h p->(∀j∈bC (eS v up h),v' j=v j)->(∀j∈bC (df v up h),v' j=v j)->lR v' up h p/\eS v' up h=eS v up h/\df v' up h=df v up h
 |[],h,p,hH,_,_=>⟨hH,rfl,rfl⟩
 |y::up,h,p,hH,h1,h2=>by
  obtain⟨⟨a,c,b,f,hs⟩,hU⟩:=hH;obtain⟨t1,t2,t3⟩:=jX f;simp only[dE]at h1;simp only[cR]at h2;rw[t1,de,eV]at h1;rw[t2,de]at h2;obtain⟨i1,i2,i3⟩:=iy up (h+1) y.an hU (λj hj=>h1 j (bX _ hj)) (λj hj=>h2 j (bV _ hj));obtain⟨ka,kb⟩:=gj (v:=v) (v':=v') (h:=h) (l:=a) (λj hj=>h1 j (bV _ (bY _ hj)))
  obtain⟨la,lb⟩:=gj (v:=v) (v':=v') (h:=h) (l:=b) (λj hj=>h2 j (bX _ hj));have hk:∀e∈a++b,aO v' h e.aY=aO v h e.aY/\(ky v h e.aY->ky v' h e.aY):=λe he=>(aS.1 he).elim (kb e) (lb e);have he:∀e∈a++b,fN v' h e.aY=fN v h e.aY:=λe hm=>by unfold fN;rw[(hk e hm).1]
  have hna:∀e∈a,fN v' h e.aY=fN v h e.aY:=λe hm=>he e (bX _ hm);have hnb:∀e∈b,fN v' h e.aY=fN v h e.aY:=λe hm=>he e (bV _ hm);have hny:gX v' y.an=gX v y.an:=pX (h1 _ (bV _ (gG ..)))
  refine⟨⟨⟨a,c,b,⟨f.leaf,by rw[hny];exact f.nd,f.by_,f.bk,f.l,f.at_,f.aY,λe hm=>⟨(hk e hm).2 (f.ch e hm).1,by rw[he e hm];exact(f.ch e hm).2⟩,?_,λe hm x hx=>f.la e hm x (by rw[<-hna e hm];exact hx),λe hm x hx=>f.ha e hm x (by rw[<-hna e (vL hm)];exact hx),λe hm x hx=>f.hb e hm x (by rw[<-hnb e hm];exact hx),f.hc⟩,λe hm x hx=>hs e hm x (by rw[<-he e hm];exact hx)⟩,i1⟩,?_,?_⟩
  .refine List.Pairwise.imp_of_mem ?_ f.lo;intro x y hx hy hxy z hz;rw[he x hx]at hz;exact hxy z hz
  .simp only[dE,dY];rw[t1,i2,ka]
  .simp only[cR,dj];rw[t2,i3,la]
def fI(wt:Nat->Nat)(ns:List NT):Nat:=(ns.map λn=>wt n.1*(ai n.2.2-151)).sum
@[simp] theorem Ji(wt:Nat->Nat):fI wt []=0:=rfl
@[simp] theorem lS(wt:Nat->Nat)(a b:List NT):fI wt (a++b)=fI wt a+fI wt b:=by simp[fI]
@[simp] theorem jx(wt:Nat->Nat)(n:NT)(a:List NT):fI wt (n::a)=wt n.1*(ai n.2.2-151)+fI wt a:=by simp[fI]
def E7(wt:Nat->Nat)(c:Nat):Prop:= ∀i,39*wt (i+1)+c<=73*wt i
theorem Cl(a:List E)(c n:E)(b:List E):(a++c::b).insertIdx (a.length+1) n=a++c::n::b:=by
 induction a with
 |nil=>rfl
 |cons x a ih=>rw[mL,il,zX,ih];rfl
theorem E9(a:List E)(c:E)(b:List E):(a++c::b).eraseIdx a.length=a++b:=by
 induction a with
 |nil=>rfl
 |cons x a ih=>rw[mL,il,List.eraseIdx_cons_succ,ih];rfl
variable{v v':Vw}{h:Nat}{x:Step}{up:List Step}
structure uj(v:Vw)(h:Nat)(x:Step)(up:List Step):Prop where
 hole:lR v up h x.an
 leaf:x.leaf=decide (h=0)
 here:(v x.an).2=0
 ok:eZ v h x.l
 ne:x.l≠[]
 bk:blank x.leaf x.l=x.l
 inh:∀e∈eJ v h x.l,xA up e.key
 nod:(bC (eS v up h)++x.an::(bC (cP v h x.l)++bC (df v up h))).Nodup
 sz:ai x.l<=302
def dQ(v:Vw)(h:Nat)(x:Step)(up:List Step):List NT:=eS v up h++(h,x.an,x.l)::(cP v h x.l++df v up h)
structure Grown(v v':Vw)(H H':Nat)(ns:List NT)(new:List Int):Prop where
 ok:ky v' H' 0
 en:fN v' H' 0=bU ns
 pg:(bC (aO v' H' 0)).Perm (bC ns++new)
 fresh:∀j∈new,v j=([],3)
 nod:new.Nodup
 o:∀j,j∉bC ns->j∉new->v' j=v j
 pot:∀wt c,E7 wt c->fI wt (aO v' H' 0)+c*new.length<=fI wt ns+(if H'=H then 0 else c)
 h:H'=H\/(H'=H+1/\∀wt c,E7 wt c->73*wt H<=fI wt ns)
theorem iz(v:Vw)(h:Nat)(x:Step)(up:List Step):bC (dQ v h x up)=bC (eS v up h)++x.an::(bC (cP v h x.l)++bC (df v up h)):=by
 unfold dQ;simp
theorem kZ(v:Vw)(h:Nat)(x:Step)(up:List Step):bU (dQ v h x up)=bU (eS v up h)++(eJ v h x.l++bU (df v up h)):=by
 unfold dQ
 cases h with
 |zero=>simp[cP,eJ]
 |succ h=>simp[cP,eJ]
theorem uj.cost(P:uj v h x up):∀e∈x.l,Nd.cost e<=79:=λe he=>by
 obtain⟨a,b,c⟩:=P.ok.1 e he;unfold Nd.cost;omega
theorem uj.nin(P:uj v h x up):(∀j∈bC (eS v up h),j≠x.an)/\(∀j∈bC (cP v h x.l),j≠x.an)/\∀j∈bC (df v up h),j≠x.an:=by
 have:=P.nod;rw[fU,kD]at this;obtain⟨_,⟨a,_⟩,b⟩:=this;refine⟨λj hj e=>b j hj x.an (by simp) e,λj hj e=>a (by rw[<-e];exact bX _ hj),λj hj e=>a (by rw[<-e];exact bV _ hj)⟩
theorem Jj(hole:lR v up h x.an)(ok:eZ v h x.l)(ne:up≠[]->x.l≠[])(inh:∀e∈eJ v h x.l,xA up e.key)
 (nod:(bC (eS v up h)++x.an::(bC (cP v h x.l)++bC (df v up h))).Nodup)(hb:ai (blank (decide (h=0)) x.l)<=223)(hd:gX v' x.an=(decide (h=0),blank (decide (h=0)) x.l,0))(hv:∀j,j≠x.an->v' j=v j):
  ky v' (h+up.length) 0/\aO v' (h+up.length) 0=eS v up h++(h,x.an,blank (decide (h=0)) x.l)::(cP v h x.l++df v up h)/\fN v' (h+up.length) 0=bU (dQ v h x up):=by
 have hn:=nod;rw[fU,kD]at hn;obtain⟨_,⟨na,_⟩,nb⟩:=hn;obtain⟨c1,c2,c3⟩:=iy up h x.an hole (λj hj=>hv j (λe=>nb j hj x.an (by simp) e)) (λj hj=>hv j (λe=>na (by rw[<-e];exact bV _ hj)));obtain⟨l1,l2,l3⟩:=jJ (v:=v) (v':=v') (h:=h) (l:=x.l) (λj hj=>hv j (λe=>na (by rw[<-e];exact bX _ hj)));obtain⟨k1,k2,k3⟩:=oI (l3 ok) hb hd
 obtain⟨p1,p2⟩:=plug up h x.an c1 k1 (λeG=>by rw[k3,l2];exact jw ok (ne eG)) (λe he=>by rw[k3,l2]at he;exact inh e he);rw[c2,c3,k2,l1,mL]at p2;refine⟨p1,p2,?_⟩;unfold fN;rw[p2,kZ]
 cases h with
 |zero=>simp[cP,eJ,ix]
 |succ h=>simp[cP,eJ]
theorem Fc(P:uj v h x up)(hb:ai x.l<=223)(hd:gX v' x.an=(decide (h=0),x.l,0))(hv:∀j,j≠x.an->v' j=v j):
  Grown v v' (h+up.length) (h+up.length) (dQ v h x up) []:=by
 have hbk:=P.bk;rw[P.leaf]at hbk;obtain⟨p1,p2,p3⟩:=Jj P.hole P.ok (λ_=>P.ne) P.inh P.nod (by rw[hbk];exact hb) (by rw[hbk];exact hd) hv;rw[hbk]at p2;have e:aO v' (h+up.length) 0=dQ v h x up:=p2;refine⟨p1,p3,by rw[e,jy],by simp,lT,λj hj _=>hv j (λej=>hj (by rw[iz,ej];simp)),λwt c _=>by rw[e,if_pos rfl];simp,.inl rfl⟩
theorem Cm{l:List Int}{k:Int}(h:l.Nodup)(hk:k∉l):(l++[k]).Nodup:=by
 rw[fU];exact⟨h,by simp,λa ha b hb e=>hk (by rw[<-cg.1 hb,<-e];exact ha)⟩
theorem Fe{a b:List E}{c n:E}(h:blank false (a++c::b)=a++c::b):blank false (a++c::n::b)=a++c::n::b:=by
 cases a with
 |nil=>
  have h:({c with key:=⟨#[]⟩}:E)::b=c::b:=h;injection h with h1 h2
  show({c with key:=⟨#[]⟩}:E)::n::b=_;rw[h1];rfl
 |cons z a=>
  have h:({z with key:=⟨#[]⟩}:E)::(a++c::b)=z::(a++c::b):=h;injection h with h1 h2
  show({z with key:=⟨#[]⟩}:E)::(a++c::n::b)=_;rw[h1];rfl
theorem pend_up{v2:Vw}{y:Step}(P:uj v h x (y::up)){la lb:List E}(hl:x.l=la++lb)(ha:la≠[])(hb:lb≠[])(ba:ai la<=223)(bb:ai lb<=223)(hs:(ai la-151)+(ai lb-151)+73<=ai x.l-151)
 {k:Nat}(hk:k<=511)(hvk:v (k:Nat)=([],3))(hd1:gX v2 x.an=(decide (h=0),blank (decide (h=0)) la,0))(hd2:gX v2 (k:Nat)=(decide (h=0),blank (decide (h=0)) lb,0))(hv:∀j,j≠x.an->j≠(k:Nat)->v2 j=v j)(h2:(v2 x.an).2=0/\(v2 (k:Nat)).2=0):
  uj v2 (h+1) {y with l:=y.l.insertIdx (y.at_+1) ⟨keyOf lb,⟨#[]⟩,(k:Nat)⟩} up/\
  ∀{v':Vw} {H':Nat} {new:List Int},Grown v2 v' (h+1+up.length) H' (dQ v2 (h+1) {y with l:=y.l.insertIdx (y.at_+1) ⟨keyOf lb,⟨#[]⟩,(k:Nat)⟩} up) new->Grown v v' (h+(y::up).length) H' (dQ v h x (y::up)) ((k:Nat)::new):=by
 obtain⟨⟨a,c,b,f,hsib⟩,hU⟩:=P.hole;obtain⟨t1,t2,t3⟩:=jX f;obtain⟨n1,n2,n3⟩:=P.nin;obtain⟨hh1,hh2⟩:=vA (y::up) h x.an P.hole;have hlk:=vz P.ok;have nk:∀j,(v j).2=0->j≠(k:Nat):=λj hj e=>by rw[e,hvk]at hj;exact absurd hj (by decide)
 have oA:∀j∈bC (eS v (y::up) h),v2 j=v j:=λj hj=>hv j (n1 j hj) (nk j (hh1 j hj));have zj:∀j∈bC (df v (y::up) h),v2 j=v j:=λj hj=>hv j (n3 j hj) (nk j (hh2 j hj));have zk:∀j∈bC (cP v h x.l),v2 j=v j:=λj hj=>hv j (n2 j hj) (nk j (hlk j hj));obtain⟨H2,e1,e2⟩:=iy (y::up) h x.an P.hole oA zj;have ef:=P.ok;rw[hl]at ef zk;rw[ju,de]at zk;obtain⟨sa,sb,s1,s2,s3⟩:=ni ef ha hb
 obtain⟨xq,ka2,ka3⟩:=jJ (v:=v) (v':=v2) (h:=h) (l:=la) (λj hj=>zk j (bX _ hj));obtain⟨kb1,kb2,kb3⟩:=jJ (v:=v) (v':=v2) (h:=h) (l:=lb) (λj hj=>zk j (bV _ hj));obtain⟨oa1,oa2,oa3⟩:=oI (ka3 sa) (au (dP _ _) ba) hd1;obtain⟨ob1,ob2,ob3⟩:=oI (kb3 sb) (au (dP _ _) bb) hd2;rw[xq]at oa2;rw[kb1]at ob2;rw[ka2]at oa3;rw[kb2]at ob3;obtain⟨⟨a',c',b',f2,hsib2⟩,hU2⟩:=H2
 have nu:a'=a/\c'=c/\b'=b:=by
  have q1:=(jX f2);exact⟨by rw[<-q1.1,t1],by rw[<-q1.2.2,t3],by rw[<-q1.2.1,t2]⟩
 obtain⟨rfl,rfl,rfl⟩:=nu;obtain⟨n,hn⟩:∃n:E,n=⟨keyOf lb,⟨#[]⟩,(k:Nat)⟩:=⟨_,rfl⟩;have hnf:n.aY=(k:Nat):=by rw[hn]
 have hnk:n.key=keyOf lb:=by rw[hn]
 rw[<-hn];have hins:y.l.insertIdx (y.at_+1) n=a'++c'::n::b':=by rw[f.l,f.at_,Cl]
 rw[hins];have hinP:=P.inh;rw[hl,p8]at hinP;have inA:∀e∈eJ v h la,(a'≠[]->tM c'.key e.key)/\(∀z∈b',gY e.key z.key)/\xA up e.key:=λe he=>(jK f up e.key).1 (hinP e (bX _ he));have inB:∀e∈eJ v h lb,(a'≠[]->tM c'.key e.key)/\(∀z∈b',gY e.key z.key)/\xA up e.key:=λe he=>(jK f up e.key).1 (hinP e (bV _ he));have neA:=jw sa ha;have neB:=jw sb hb;have enc:fN v2 h c'.aY=eJ v h la:=by rw[f.aY,oa3]
 have enn:fN v2 h n.aY=eJ v h lb:=by rw[hnf,ob3]
 have ui:=mz (oG (v:=v) (p:=y.an) (by rw[f.nd]));rw[f.nd]at ui;have ui:∀e∈a'++c'::b',cn e false:=by rw[<-f.l];exact ui
 have flo:=f2.lo;rw[da]at flo;have hin2:oH (ky v2 h) (fN v2 h) (a'++c'::n::b'):=by
  refine⟨by simp,λe he=>?_,?_,λe he=>?_⟩
  .rcases aS.1 he with he|he
   .exact f2.ch e (bX _ he)
   .rcases aC.1 he with rfl|he
    .exact⟨by rw[f.aY];exact oa1,by rw[enc];exact neA⟩
    .rcases aC.1 he with rfl|he
     .exact⟨by rw[hnf];exact ob1,by rw[enn];exact neB⟩
     .exact f2.ch e (bV _ he)
  .rw[da,du,du];refine⟨flo.1,⟨λe he x hx=>?_,λe he x hx=>?_,flo.2.1⟩,λe he e' sR x hx=>?_⟩
   .rw[enc]at hx
    rcases aC.1 he with rfl|he
    .rw[hnk];exact s1 x hx
    .exact(inA x hx).2.1 e he
   .rw[enn]at hx;exact(inB x hx).2.1 e he
   .rcases aC.1 sR with rfl|sR
    .exact f2.la e he x hx
    .rcases aC.1 sR with rfl|sR
     .rw[hnk];obtain⟨z,hz⟩:=rA _ neA;exact iw (jj (f2.la e he x hx) ((inA z hz).1 (λh0=>by rw[h0]at he;simp at he))) (s1 z hz)
     .exact flo.2.2 e he e' sR x hx
  .have hmid:∀e∈n::b',∀x∈fN v2 h e.aY,tM e.key x.key:=λe he x hx=>by
    rcases aC.1 he with rfl|he
    .rw[enn]at hx;rw[hnk];exact s2 x hx
    .exact f2.hb e he x hx
   cases ha':a' with
   |nil=>
    rw[ha']at he;exact hmid e he
   |cons z a2=>
    have eG:a'≠[]:=by rw[ha'];simp
    have hha:=f2.ha;rw[ha']at he hha;rw[mL,iC]at he;rw[iC]at hha
    rcases aS.1 he with he|he
    .exact hha e he
    .rcases aC.1 he with rfl|he
     .intro x hx;rw[enc]at hx;exact(inA x hx).1 eG
     .exact hmid e he
 have hkids:bS v2 h (a'++c'::n::b')=bS v h a'++((h,x.an,blank (decide (h=0)) la)::cP v h la++((h,((k:Nat):Int),blank (decide (h=0)) lb)::cP v h lb++bS v h b')):=by
  rw[kv,fF,fF,f.aY,hnf,oa2,ob2];have q1:bS v2 h a'=bS v h a':=(gj (λj hj=>oA j (by simp only[dE,dY];rw[t1,de,eV];exact bV _ (bY _ hj)))).1;have q2:bS v2 h b'=bS v h b':=(gj (λj hj=>zj j (by simp only[cR,dj];rw[t2,de];exact bX _ hj))).1;rw[q1,q2]
 have Jk:eS v2 up (h+1)=eS v up (h+1):=by
  exact(iy up (h+1) y.an hU (λj hj=>oA j (by simp only[dE,dY];rw[de];exact bX _ hj)) (λj hj=>zj j (by simp only[cR,dj];rw[de];exact bV _ hj))).2.1
 have Co:df v2 up (h+1)=df v up (h+1):=by
  exact(iy up (h+1) y.an hU (λj hj=>oA j (by simp only[dE,dY];rw[de];exact bX _ hj)) (λj hj=>zj j (by simp only[cR,dj];rw[de];exact bV _ hj))).2.2
 have hold:bC (dQ v h x (y::up))=bC (eS v up (h+1))++(y.an::bC (bS v h a'))++x.an::((bC (cP v h la)++bC (cP v h lb))++(bC (bS v h b')++bC (df v up (h+1)))):=by
  rw[iz,hl,ju,de];simp only[dE,cR,dY,dj];rw[t1,t2];simp
 have hnew:bC (dQ v2 (h+1) {y with l:=a'++c'::n::b'} up)=bC (eS v up (h+1))++y.an::(bC (bS v h a')++(x.an::bC (cP v h la)++(((k:Nat):Int)::bC (cP v h lb)++bC (bS v h b')))++bC (df v up (h+1))):=by
  rw[iz];show bC (eS v2 up (h+1))++y.an::(bC (bS v2 h (a'++c'::n::b'))++bC (df v2 up (h+1)))=_;rw[hkids,Jk,Co];simp
 have zm:(bC (dQ v2 (h+1) {y with l:=a'++c'::n::b'} up)).Perm (bC (dQ v h x (y::up))++[((k:Nat):Int)]):=by
  rw[hnew,hold,List.perm_iff_count];intro j;simp only[List.count_append,List.count_cons,List.count_nil];omega
 have hknin:((k:Nat):Int)∉bC (dQ v h x (y::up)):=λhm=>by
  rw[iz]at hm
  rcases aS.1 hm with hm|hm
  .exact nk _ (hh1 _ hm) rfl
  .rcases aC.1 hm with hm|hm
   .exact nk _ P.here hm.symm
   .rcases aS.1 hm with hm|hm
    .exact nk _ (hlk _ hm) rfl
    .exact nk _ (hh2 _ hm) rfl
 have hnod0:=P.nod;rw[<-iz]at hnod0;have hnod:(bC (dQ v2 (h+1) {y with l:=a'++c'::n::b'} up)).Nodup:=zm.nodup_iff.2 (Cm hnod0 hknin);have hcostn:n.key.size+n.val.size+7<=39:=by rw[hn];show(keyOf lb).size+0+7<=39;omega
 have hby:=f.by_;rw[f.l,gy,ez]at hby;have Af:ai (a'++c'::n::b')<=ai y.l+39:=by
  rw[f.l,gy,gy,ez,ez,ez];omega
 refine⟨⟨hU2,?_,?_,⟨λe he=>?_,hin2⟩,by simp,?_,λe he=>?_,?_,?_⟩,λ{v' H' new} G=>?_⟩
 .show y.leaf=decide (h+1=0);rw[f.leaf];rfl
 .exact lQ (by show(gX v2 y.an).2.2=0;rw[f2.nd])
 .rcases aS.1 he with he|he
  .exact ui e (bX _ he)
  .rcases aC.1 he with rfl|he
   .exact ui _ (by simp)
   .rcases aC.1 he with rfl|he
    .rw[hn];exact⟨s3,bm _,by show(if(decide (h+1=0))=true then(-1:Int)else 0)<=((k:Nat):Int);split<;>omega,by show((k:Nat):Int)<512;omega,.inr rfl⟩
    .exact ui e (bV _ (bY _ he))
 .show blank y.leaf _=_;rw[f.leaf];exact Fe (by rw[<-f.l];exact f.bk)
 .have he:e∈bU (bS v2 h (a'++c'::n::b')):=he;obtain⟨z,hz,hx⟩:=dO.1 he;have sib:∀z∈a'++b',e∈fN v2 h z.aY->xA up e.key:=λz hz hx=>hsib2 z hz e hx
  rcases aS.1 hz with hz|hz
  .exact sib z (bX _ hz) hx
  .rcases aC.1 hz with rfl|hz
   .rw[enc]at hx;exact(inA e hx).2.2
   .rcases aC.1 hz with rfl|hz
    .rw[enn]at hx;exact(inB e hx).2.2
    .exact sib z (bV _ hz) hx
 .rw[<-iz];exact hnod
 .have:=f.by_;show ai (a'++c'::n::b')<=302;omega
 .have Jl:∀wt c,E7 wt c->fI wt (dQ v2 (h+1) {y with l:=a'++c'::n::b'} up)+c<=fI wt (dQ v h x (y::up)):=λwt c hw=>by
   have h1:=hw h;have h2:=dP (decide (h=0)) la;have h3:=dP (decide (h=0)) lb;have e3:fI wt (dQ v2 (h+1) {y with l:=a'++c'::n::b'} up)=fI wt (eS v up (h+1))+(wt (h+1)*(ai (a'++c'::n::b')-151)+(fI wt (bS v h a')+((wt h*(ai (blank (decide (h=0)) la)-151)+fI wt (cP v h la))+((wt h*(ai (blank (decide (h=0)) lb)-151)+fI wt (cP v h lb))+fI wt (bS v h b')))+fI wt (df v up (h+1)))):=by
    unfold dQ;show fI wt (eS v2 up (h+1)++(h+1,y.an,a'++c'::n::b')::(bS v2 h (a'++c'::n::b')++df v2 up (h+1)))=_;rw[hkids,Jk,Co];simp only[lS,jx]
   have e4:fI wt (dQ v h x (y::up))=(fI wt (eS v up (h+1))+(wt (h+1)*(ai y.l-151)+fI wt (bS v h a')))+(wt h*(ai x.l-151)+((fI wt (cP v h la)+fI wt (cP v h lb))+(fI wt (bS v h b')+fI wt (df v up (h+1))))):=by
    unfold dQ;simp only[dE,cR,dY,dj];rw[t1,t2];simp only[lS,jx];rw[show cP v h x.l=cP v h la++cP v h lb by rw[hl,ju]];simp only[lS]
   have m1:wt (h+1)*(ai (a'++c'::n::b')-151)<=wt (h+1)*(ai y.l-151)+wt (h+1)*39:=by
    rw[<-lY];exact nJ _ (by omega)
   have m2:wt h*(ai (blank (decide (h=0)) la)-151)+wt h*(ai (blank (decide (h=0)) lb)-151)+wt h*73<=wt h*(ai x.l-151):=by
    rw[<-lY,<-lY];exact nJ _ (by omega)
   rw[e3,e4];omega
  have hHl:h+(y::up).length=h+1+up.length:=by simp;omega
  have hmemP:∀j,j∈bC (dQ v2 (h+1) {y with l:=a'++c'::n::b'} up)↔j∈bC (dQ v h x (y::up))\/j=(k:Nat):=λj=>by rw[zm.mem_iff];simp
  have hxin:x.an∈bC (dQ v h x (y::up)):=by rw[iz];simp
  rw[hHl];refine⟨G.ok,?_,?_,λj hj=>?_,?_,λj h1 h3=>?_,λwt c hw=>?_,?_⟩
  .rw[G.en,kZ,kZ];show bU (eS v2 up (h+1))++(bU (bS v2 h (a'++c'::n::b'))++bU (df v2 up (h+1)))=_;rw[kv,fF,fF,dU,dU,dU];have q1:bS v2 h a'=bS v h a':=(gj (λj hj=>oA j (by simp only[dE,dY];rw[t1,de,eV];exact bV _ (bY _ hj)))).1
   have q2:bS v2 h b'=bS v h b':=(gj (λj hj=>zj j (by simp only[cR,dj];rw[t2,de];exact bX _ hj))).1;have q3:bU (aO v2 h c'.aY)=eJ v h la:=enc;have q4:bU (aO v2 h n.aY)=eJ v h lb:=enn;rw[q1,q2,q3,q4,Jk,Co,hl,p8];simp only[dE,cR,dY,dj];rw[t1,t2];simp
  .refine G.pg.trans ?_;refine(zm.append_right new).trans ?_;simp
  .rcases aC.1 hj with rfl|hj
   .exact hvk
   .have:=G.fresh j hj;rw[hv j]at this
    .exact this
    .intro e;rw[e]at this;rw[this]at h2;exact absurd h2.1 (by decide)
    .intro e;rw[e]at this;rw[this]at h2;exact absurd h2.2 (by decide)
  .rw[kD];refine⟨λhm=>?_,G.nod⟩;have:=G.fresh _ hm;rw[this]at h2;exact absurd h2.2 (by decide)
  .rw[aC,not_or]at h3;rw[G.o j (by rw[hmemP];rintro(h5|h5);exact h1 h5;exact h3.1 h5) h3.2];exact hv j (λe=>h1 (by rw[e];exact hxin)) h3.1
  .have p1:=G.pot wt c hw;have p2:=Jl wt c hw;rw[il,Nat.mul_succ];omega
  .refine G.h.imp id (λ⟨h5,h6⟩=>⟨h5,λwt c hw=>?_⟩);have p1:=h6 wt c hw;have p2:=Jl wt c hw;omega
theorem grow_ok{v v3:Vw}{h:Nat}{x:Step}(P:uj v h x []){la lb:List E}(hl:x.l=la++lb)(ha:la≠[])(hb:lb≠[])(ba:ai la<=223)(bb:ai lb<=223)(hs:(ai la-151)+(ai lb-151)+73<=ai x.l-151)
  {k1 k2:Nat}(hk1:k1<=511)(hk2:k2<=511)(l5:v (k1:Nat)=([],3))(nP:v (k2:Nat)=([],3))(eG:k1≠k2)
  (hd1:gX v3 (k1:Nat)=(decide (h=0),blank (decide (h=0)) la,0))(hd2:gX v3 (k2:Nat)=(decide (h=0),blank (decide (h=0)) lb,0))
  (hd0:gX v3 0=(false,[⟨⟨#[]⟩,⟨#[]⟩,(k1:Nat)⟩,⟨keyOf lb,⟨#[]⟩,(k2:Nat)⟩],0))(hv:∀j:Int,j≠0->j≠(k1:Nat)->j≠(k2:Nat)->v3 j=v j):
  Grown v v3 h (h+1) (dQ v h x []) [(k1:Nat),(k2:Nat)]:=by
 have zH:x.an=0:=P.hole;have hlk:=vz P.ok;have hkin:=P.nin.2.1;have ef:=P.ok;rw[hl]at ef;obtain⟨sa,sb,s1,s2,s3⟩:=ni ef ha hb;have nk1:∀j,(v j).2=0->j≠(k1:Nat):=λj hj e=>by rw[e,l5]at hj;exact absurd hj (by decide)
 have nk2:∀j,(v j).2=0->j≠(k2:Nat):=λj hj e=>by rw[e,nP]at hj;exact absurd hj (by decide)
 have zk:∀j∈bC (cP v h x.l),v3 j=v j:=λj hj=>hv j (by rw[<-zH];exact hkin j hj) (nk1 j (hlk j hj)) (nk2 j (hlk j hj));rw[hl,ju,de]at zk;obtain⟨xq,ka2,ka3⟩:=jJ (v:=v) (v':=v3) (h:=h) (l:=la) (λj hj=>zk j (bX _ hj));obtain⟨kb1,kb2,kb3⟩:=jJ (v:=v) (v':=v3) (h:=h) (l:=lb) (λj hj=>zk j (bV _ hj));obtain⟨oa1,oa2,oa3⟩:=oI (ka3 sa) (au (dP _ _) ba) hd1
 obtain⟨ob1,ob2,ob3⟩:=oI (kb3 sb) (au (dP _ _) bb) hd2;rw[xq]at oa2;rw[kb1]at ob2;rw[ka2]at oa3;rw[kb2]at ob3;have neA:=jw sa ha;have neB:=jw sb hb;have qH:oH (ky v3 h) (fN v3 h) [⟨⟨#[]⟩,⟨#[]⟩,(k1:Nat)⟩,⟨keyOf lb,⟨#[]⟩,(k2:Nat)⟩]:=by
  refine⟨by simp,λe he=>?_,?_,λe he=>?_⟩
  .simp only[aC,gH,or_false]at he
   rcases he with rfl|rfl
   .exact⟨oa1,by show fN v3 h _≠[];rw[oa3];exact neA⟩
   .exact⟨ob1,by show fN v3 h _≠[];rw[ob3];exact neB⟩
  .rw[du];refine⟨λe he y hy=>?_,vP _ _⟩;rw[cg.1 he];have hy:y∈fN v3 h (k1:Nat):=hy;rw[oa3]at hy;exact s1 y hy
  .have he:e∈[(⟨keyOf lb,⟨#[]⟩,(k2:Nat)⟩:E)]:=he;rw[cg.1 he];intro y hy;have hy:y∈fN v3 h (k2:Nat):=hy;rw[ob3]at hy;exact s2 y hy
 have hbyt:ai [(⟨⟨#[]⟩,⟨#[]⟩,(k1:Nat)⟩:E),⟨keyOf lb,⟨#[]⟩,(k2:Nat)⟩]<=46:=by
  rw[ez,ez];show 0+0+7+((keyOf lb).size+0+7+0)<=46;omega
 have hO:ky v3 (h+1) 0:=⟨by rw[hd0],by rw[hd0];exact au hbyt (by decide),by rw[hd0];rfl,by rw[hd0];exact qH⟩;have hns:aO v3 (h+1) 0=(h+1,0,[⟨⟨#[]⟩,⟨#[]⟩,(k1:Nat)⟩,⟨keyOf lb,⟨#[]⟩,(k2:Nat)⟩])::(((h,((k1:Nat):Int),blank (decide (h=0)) la)::cP v h la)++((h,((k2:Nat):Int),blank (decide (h=0)) lb)::cP v h lb)):=by
  rw[xm,hd0];show _::bS v3 h _=_;rw[fF,fF,E5,jy,<-oa2,<-ob2]
 have hpn:dQ v h x []=(h,0,x.l)::cP v h x.l:=by unfold dQ;simp only[dE,cR,dY,dj];rw[zH];simp
 refine⟨hO,?_,?_,λj hj=>?_,?_,λj h1 h2=>?_,λwt c hw=>?_,.inr ⟨rfl,λwt c hw=>?_⟩⟩
 .unfold fN;rw[hns,jI,dU,<-oa2,<-ob2,kZ];simp only[dE,cR,dY,dj];rw[hl,p8];show fN v3 h _++fN v3 h _=_;rw[oa3,ob3];simp
 .rw[hns,hpn,hl,ju,List.perm_iff_count];intro j;simp only[eV,de,List.count_append,List.count_cons,List.count_nil];omega
 .simp only[aC,gH,or_false]at hj
  rcases hj with rfl|rfl
  .exact l5
  .exact nP
 .rw[kD];refine⟨λhm=>?_,by simp⟩;have:=cg.1 hm;omega
 .rw[hpn]at h1;simp only[eV,aC,not_or,gH,or_false]at h1 h2;exact hv j h1.1 h2.1 h2.2
 .have h1:=hw h;have h2:=dP (decide (h=0)) la;have h3:=dP (decide (h=0)) lb;rw[hns,hpn,hl,ju,if_neg (by omega)];simp only[jx,lS];rw[<-hl];have m2:wt h*(ai (blank (decide (h=0)) la)-151)+wt h*(ai (blank (decide (h=0)) lb)-151)+wt h*73<=wt h*(ai x.l-151):=by
   rw[<-lY,<-lY];exact nJ _ (by omega)
  have m3:wt (h+1)*(ai [(⟨⟨#[]⟩,⟨#[]⟩,(k1:Nat)⟩:E),⟨keyOf lb,⟨#[]⟩,(k2:Nat)⟩]-151)=0:=by
   rw[Nat.sub_eq_zero_of_le (au hbyt (by decide)),qY]
  rw[m3];show _+c*2<=_;omega
 .rw[hpn,jx];show 73*wt h<=wt h*(ai x.l-151)+_;have:wt h*73<=wt h*(ai x.l-151):=nJ _ (by omega);omega
section
variable{o:Vw}{mm:Nat}
theorem qB:∀(m:Nat) (up:List Step) (h:Nat) (x:Step) (q:QS) (v:Vw) (u:Nat),up.length<m->uj v h x up->Rd q v o u mm->
  ((eg m (x::up) q).2=11/\∃v' u',Rd (eg m (x::up) q).1 v' o u' mm/\u'<=u+up.length+2/\(mm<=u'\/512<=u'))\/
  ((eg m (x::up) q).2=0/\∃v' new H',Rd (eg m (x::up) q).1 v' o (u+new.length) mm/\Grown v v' (h+up.length) H' (dQ v h x up) new)
 |0,up,h,x,q,v,u,hm,P,R=>absurd hm (by omega)
 |m+1,up,h,x,q,v,u,hm,P,R=>by
  have hbk:=P.bk;have xk:=P.leaf;rw[xk]at hbk
  by_cases hT:ai x.l<=223
  .have hlay:=oJ P.ok (by rw[hbk];exact hT);rw[<-xk]at hlay;have e:eg (m+1) (x::up) q=q.cA x.an x.leaf x.l:=by
    unfold eg;rw[if_pos (.inr hlay)]
   rw[e]
   rcases R.write P.here hlay with⟨w1,w2⟩|⟨w1,w2,w3⟩
   .refine .inr ⟨w1,_,[],_,w2,Fc P hT ?_ (λj hj=>?_)⟩
    .rw[gV hlay,if_pos rfl,xk,hbk]
    .unfold jh;rw[if_neg hj]
   .exact .inl ⟨w1,_,u,w2,by omega,.inl w3⟩
  .have EU:=Ck P.ok (by rw[hbk];omega);rw[<-xk]at EU;have ew:q.cA x.an x.leaf x.l=(q,11):=by rw[E3 q x.an (by rw[EU];decide),EU]
   obtain⟨la,lb,e1,e2,e3,ha,hb,ba,bb,hs⟩:=E6 P.cost (by omega) P.sz;have ef:=P.ok;rw[e1]at ef;obtain⟨sa,sb,s1,s2,s3⟩:=ni ef ha hb;have la0:(bA x.leaf la).2=0:=by rw[xk];exact oJ sa (au (dP _ _) ba)
   have lb0:(bA x.leaf lb).2=0:=by rw[xk];exact oJ sb (au (dP _ _) bb)
   cases up with
   |nil=>
    have zH:x.an=0:=P.hole;have e:eg (m+1) [x] q=q.tx x.leaf la lb:=by
     unfold eg;rw[ew,if_neg (by rw[EU];simp)];dsimp only;rw[e2,e3]
    rw[e];unfold QS.tx
    rcases R.make la0 with⟨k1,a1,a2,a3,a4⟩|⟨a1,a2,a3⟩
    .rw[a1,if_neg (by simp)];dsimp only
     rcases a4.make lb0 with⟨k2,b1,b2,b3,b4⟩|⟨b1,b2,b3⟩
     .rw[b1,if_neg (by simp)];dsimp only;have eG:k1≠k2:=λe=>by
       unfold jh at b3;rw[e,if_pos rfl]at b3;exact absurd (congrArg Prod.snd b3) (by show ¬(0:Int)=3;decide)
      have nP:v (k2:Nat)=([],3):=by
       unfold jh at b3;rw[if_neg (by omega)]at b3;exact b3
      have GF:(v 0).2=0:=by have h0:=P.here;rw[zH]at h0;exact h0
      have h0k1:(0:Int)≠(k1:Nat):=λe=>by rw[<-e]at a3;rw[a3]at GF;exact absurd GF (by simp)
      have h0k2:(0:Int)≠(k2:Nat):=λe=>by rw[<-e]at nP;rw[nP]at GF;exact absurd GF (by simp)
      have hL:(bA false [⟨⟨#[]⟩,⟨#[]⟩,(k1:Nat)⟩,⟨keyOf lb,⟨#[]⟩,(k2:Nat)⟩]).2=0:=by
       rcases ku false [⟨⟨#[]⟩,⟨#[]⟩,(k1:Nat)⟩,⟨keyOf lb,⟨#[]⟩,(k2:Nat)⟩]with h1|h1|h1
       .exact h1.2.2.1
       .have h2:=h1.2.1;have h3:blank false [(⟨⟨#[]⟩,⟨#[]⟩,(k1:Nat)⟩:E),⟨keyOf lb,⟨#[]⟩,(k2:Nat)⟩]=[⟨⟨#[]⟩,⟨#[]⟩,(k1:Nat)⟩,⟨keyOf lb,⟨#[]⟩,(k2:Nat)⟩]:=rfl;rw[h3,ez,ez]at h2;have h4:0+0+7+((keyOf lb).size+0+7+0)>223:=h2;omega
       .exfalso;refine h1.1 ?_;show cu [(⟨⟨#[]⟩,⟨#[]⟩,(k1:Nat)⟩:E),⟨keyOf lb,⟨#[]⟩,(k2:Nat)⟩] false;refine Ch (λz hz=>?_) ?_
        .simp only[aC,gH,or_false]at hz
         rcases hz with rfl|rfl
         .exact⟨bm _,bm _,by show(if false=true then(-1:Int)else 0)<=((k1:Nat):Int);rw[if_neg (by simp)];omega,by show((k1:Nat):Int)<512;omega,.inr rfl⟩
         .exact⟨s3,bm _,by show(if false=true then(-1:Int)else 0)<=((k2:Nat):Int);rw[if_neg (by simp)];omega,by show((k2:Nat):Int)<512;omega,.inr rfl⟩
        .rw[du];refine⟨λz hz=>?_,vP _ _⟩;rw[cg.1 hz];obtain⟨y,hy⟩:=rA _ (jw sa ha);exact jk (vy y.key) (s1 y hy)
      have jb:(jh (jh v (k1:Nat) (bA x.leaf la).1) (k2:Nat) (bA x.leaf lb).1 0).2=0:=by
       rw[ji _ _ h0k2,ji _ _ h0k1];exact GF
      rcases b4.write jb hL with⟨c1,c2⟩|⟨c1,c2,c3⟩
      .refine .inr ⟨c1,_,[(k1:Nat),(k2:Nat)],h+1,c2,?_⟩;refine grow_ok P e1 ha hb ba bb hs a2 b2 a3 nP eG ?_ ?_ ?_ (λj j1 j2 j3=>?_)
       .rw[gV hL,if_neg (λe=>h0k1 e.symm),gV lb0,if_neg (by omega),gV la0,if_pos rfl,xk]
       .rw[gV hL,if_neg (λe=>h0k2 e.symm),gV lb0,if_pos rfl,xk]
       .rw[gV hL,if_pos rfl];rfl
       .rw[ji _ _ j1,ji _ _ j3,ji _ _ j2]
      .exact .inl ⟨c1,_,_,c2,by simp,.inl c3⟩
     .rw[b1,if_pos (by simp)];exact .inl ⟨rfl,_,u+1+1,b2,by simp,b3.imp (λh=>by omega) (λh=>by omega)⟩
    .rw[a1,if_pos (by simp)];exact .inl ⟨rfl,_,u+1,a2,by omega,a3.imp (λh=>by omega) (λh=>by omega)⟩
   |cons y up=>
    have e:eg (m+1) (x::y::up) q=if(q.cO x.leaf lb).2.2≠0 then((q.cO x.leaf lb).1,(q.cO x.leaf lb).2.2)
      else if((q.cO x.leaf lb).1.cA x.an x.leaf la).2≠0 then(q.cO x.leaf lb).1.cA x.an x.leaf la
      else eg m ({y with l:=y.l.insertIdx (y.at_+1) ⟨keyOf lb,⟨#[]⟩,(q.cO x.leaf lb).2.1⟩}::up) ((q.cO x.leaf lb).1.cA x.an x.leaf la).1:=by
     rw[eg,ew,if_neg (by rw[EU];simp)];dsimp only;rw[e2,e3]
    rw[e]
    rcases R.make lb0 with⟨k,a1,a2,a3,a4⟩|⟨a1,a2,a3⟩
    .rw[a1,if_neg (by simp)];dsimp only;have hxk:x.an≠(k:Nat):=λe=>by have h0:=P.here;rw[e,a3]at h0;exact absurd h0 (by decide)
     have hz:(jh v (k:Nat) (bA x.leaf lb).1 x.an).2=0:=by
      unfold jh;rw[if_neg hxk];exact P.here
     rcases a4.write hz la0 with⟨c1,c2⟩|⟨c1,c2,c3⟩
     .rw[if_neg (by rw[c1];simp)];obtain⟨P2,hG⟩:=pend_up (v2:=jh (jh v (k:Nat) (bA x.leaf lb).1) x.an (bA x.leaf la).1) P e1 ha hb ba bb hs a2 a3 (by rw[gV la0,if_pos rfl,xk]) (by rw[gV la0,if_neg (λe=>hxk e.symm),gV lb0,if_pos rfl,xk])
       (λj j1 j2=>by unfold jh;rw[if_neg j1,if_neg j2]) ⟨by unfold jh;rw[if_pos rfl],by unfold jh;rw[if_neg (λe=>hxk e.symm),if_pos rfl]⟩
      rcases qB m up (h+1) _ _ _ (u+1) (by simp at hm;omega) P2 c2 with⟨d1,v',u',d2,d3,d4⟩|⟨d1,v',new,H',d2,d3⟩
      .exact .inl ⟨d1,v',u',d2,by simp;omega,d4⟩
      .refine .inr ⟨d1,v',(k:Nat)::new,H',?_,hG d3⟩;rw[il,show u+(new.length+1)=u+1+new.length by omega];exact d2
     .rw[if_pos (by rw[c1];simp)];exact .inl ⟨c1,_,_,c2,by omega,.inl c3⟩
    .rw[a1,if_pos (by simp)];exact .inl ⟨rfl,_,u+1,a2,by omega,a3.imp (λh=>by omega) (λh=>by omega)⟩
end
end Go.Proofs.YtmonobkginiajaaGreat.Sh
