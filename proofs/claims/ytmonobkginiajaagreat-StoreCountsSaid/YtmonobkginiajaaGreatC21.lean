/- packed. -/
import Derived.Test.YtmonobkginiajaaGreatC19
import Derived.Test.YtmonobkginiajaaGreatC20
import Derived.Laws.EntriesVeiled
import Derived.WalkMore
import Derived.Test.YtmonobkginiajaaGreatC2
import Derived.Test.YtmonobkginiajaaGreatC9
set_option linter.all false
set_option maxRecDepth 100000
set_option maxHeartbeats 8000000
namespace Go.Proofs.YtmonobkginiajaaGreat.Sh
open Go.RowKit Pk Dk Pg
open Nd (E)
variable{v v':Vw}{q:QS}{u:Nat}{L:List Int}{e:E}{val:ByteArray}
def rdC(v:Vw)(l:Int):Int×List UInt8×Int:=
 if(v l).2≠0 then(0,[],(v l).2)else if 228<bl (v l).1 2 then(0,[],14)else((bl (v l).1 0:Int)-1,((v l).1.drop 4).take (bl (v l).1 2),0)
def Ff(v:Vw):Int->List Int->List UInt8->Prop
 |p,[],b=>p= -1/\b=[]
 |p,q::L,b=>p=q/\∃nx pc b',rdC v q=(nx,pc,0)/\b=pc++b'/\Ff v nx L b'
theorem rdC_ok{q nx:Int}{pc:List UInt8}(h:rdC v q=(nx,pc,0)):(v q).2=0:=by
 unfold rdC at h
 by_cases h0:(v q).2=0
 .exact h0
 .rw[if_pos h0,Prod.mk.injEq,Prod.mk.injEq]at h;exact absurd h.2.2 h0
theorem Fg{q:Int}(h:v' q=v q):rdC v' q=rdC v q:=by unfold rdC;rw[h]
theorem Ff.here :∀{L:List Int} {p:Int} {b:List UInt8},Ff v p L b->∀q∈L,(v q).2=0
 |[],_,_,_=>by simp
 |q::L,p,b,h=>by
  obtain⟨rfl,nx,pc,b',h1,h2,h3⟩:=h;intro x hx
  rcases aC.1 hx with rfl|hx
  .exact rdC_ok h1
  .exact h3.here x hx
theorem Ff.congr :∀{L:List Int} {p:Int} {b:List UInt8},Ff v p L b->(∀q∈L,v' q=v q)->Ff v' p L b
 |[],_,_,h,_=>h
 |q::L,p,b,h,e=>by
  obtain⟨rfl,nx,pc,b',h1,h2,h3⟩:=h;exact⟨rfl,nx,pc,b',by rw[Fg (e p (gG ..))];exact h1,h2,h3.congr (λx hx=>e x (bY _ hx))⟩
section
variable{o:Vw}{mm:Nat}
theorem Ff.neg(R:Rd q v o u mm){p:Int}{b:List UInt8}(h:Ff v p L b):p<0↔L=[]:=by
 cases L with
 |nil=>obtain⟨rfl,rfl⟩:=h;exact⟨λ_=>rfl,λ_=>by omega⟩
 |cons q L=>
  have:=R.lt (h.here q (gG ..));obtain⟨rfl,_⟩:=h;exact⟨λh=>by omega,λh=>absurd h (by simp)⟩
theorem Rd.dI(R:Rd q v o u mm)(p:Int):Rd (q.dI p).1 v o u mm/\((q.dI p).2=rdC v p\/((q.dI p).2=(0,[],11)/\mm<=u)):=by
 obtain⟨a,b⟩:=R.get p;unfold QS.dI rdC
 rcases b with⟨b1,b2⟩|⟨b1,b2⟩|⟨b1,b2⟩
 .rw[b2,if_neg (show ¬((⟨(v p).1.toArray⟩:ByteArray),(0:Int)).2≠0 by simp),if_neg (show ¬(v p).2≠0 by omega)]
  by_cases hx:228<bl (v p).1 2
  .have hx2:228<bl (⟨(v p).1.toArray⟩:ByteArray).data.toList 2:=hx;rw[if_pos hx2,if_pos hx];exact⟨a,.inl rfl⟩
  .have hx2:¬228<bl (⟨(v p).1.toArray⟩:ByteArray).data.toList 2:=hx;rw[if_neg hx2,if_neg hx];exact⟨a,.inl rfl⟩
 .rw[b2,b1,if_pos (by simp),if_pos (by simp)];exact⟨a,.inl rfl⟩
 .rw[b1,if_pos (by simp)];exact⟨a,.inr ⟨rfl,b2⟩⟩
theorem nj:∀{L:List Int} {p:Int} {b:List UInt8} (m:Nat) (l:List Int) (acc:List UInt8) (q:QS) (v:Vw) (u:Nat),Rd q v o u mm->Ff v p L b->L≠[]->L.length<=m->(acc++b).length<=1024->
  Rd (q.lj m p l acc).1 v o u mm/\((q.lj m p l acc).2=(l++L,acc++b,0)\/((q.lj m p l acc).2=([],[],11)/\mm<=u))
 |[],_,_,_,_,_,_,_,_,_,_,h,_,_=>absurd rfl h
 |c::L,p,b,0,_,_,_,_,_,_,_,_,h,_=>by simp at h
 |c::L,p,b,m+1,l,acc,q,v,u,R,h,_,hm,hb=>by
  obtain⟨rfl,nx,pc,b',h1,rfl,h3⟩:=h;obtain⟨r1,r2⟩:=R.dI p;unfold QS.lj
  rcases r2 with r2|⟨r2,r3⟩
  .rw[h1]at r2;rw[r2];dsimp only;rw[if_neg (by omega),if_neg (by omega),if_neg (by simp at hb ⊢;omega)];have hneg:=h3.neg R
   by_cases hn:nx<0
   .have hL:=hneg.1 hn;subst hL;obtain⟨_,rfl⟩:=h3;rw[if_pos hn,jy];exact⟨r1,.inl rfl⟩
   .have hL:L≠[]:=λe=>hn (hneg.2 e);rw[if_neg hn];obtain⟨i1,i2⟩:=nj m (l++[p]) (acc++pc) (q.dI p).1 v u r1 h3 hL (by simpa using hm) (by simpa [cN]using hb);refine⟨i1,i2.imp (λe=>?_) id⟩;rw[e];simp
  .rw[r2];dsimp only;rw[if_neg (by omega),if_pos (by omega)];exact⟨r1,.inr ⟨rfl,r3⟩⟩
def qN(v:Vw)(L:List Int):Vw:=λj=>if j∈L then([],3)else v j
theorem tP(v:Vw):qN v []=v:=by funext j;simp[qN]
theorem tQ:∀(L:List Int) (q:QS) (v:Vw) (u:Nat),Rd q v o u mm->L.Nodup->(∀j∈L,(v j).2=0)->(q.n7 L).2=0/\Rd (q.n7 L).1 (qN v L) o u mm
 |[],q,v,u,R,_,_=>by rw[tP];exact⟨rfl,R⟩
 |p::L,q,v,u,R,hn,hh=>by
  rw[kD]at hn;obtain⟨a,b⟩:=R.drop p (hh p (by simp));unfold QS.n7;rw[if_neg (by rw[a];simp)];obtain⟨c,d⟩:=tQ L (q.aI p).1 _ u b hn.2 (λj hj=>by
   have eG:j≠p:=λe=>hn.1 (by rw[<-e];exact hj);rw[del1_ne v eG];exact hh j (by simp[hj]))
  refine⟨c,?_⟩;have e:qN (I3 v p) L=qN v (p::L):=by
   funext j
   unfold qN I3
   by_cases h1:j∈L
   .rw[if_pos h1,if_pos (by simp[h1])]
   .rw[if_neg h1]
    by_cases h2:j=p
    .rw[if_pos h2,if_pos (by simp[h2])]
    .rw[if_neg h2,if_neg (by simp[h1,h2])]
  rw[<-e];exact d
theorem Rd.dropAny(R:Rd q v o u mm)(p:Int):∃v',Rd (q.aI p).1 v' o u mm:=by
 rcases R.err p with h|h
 .exact⟨_,(R.drop p h).2⟩
 .obtain⟨n,K,w⟩:=R.w;obtain⟨a,c⟩:=w.drop p
  rcases c with⟨c1,c2,c3⟩|⟨c1,c2,c3⟩
  .rw[R.v,h]at c1;exact absurd c1 (by decide)
  .exact⟨v,R.step (yZ q p) ⟨n,_,a.w⟩ (λj=>(c3 j).trans (R.v j))⟩
theorem qC:∀(L:List Int) (q:QS) (v:Vw) (u:Nat),Rd q v o u mm->∃v',Rd (q.jT L) v' o u mm
 |[],q,v,u,R=>⟨v,R⟩
 |p::L,q,v,u,R=>by
  obtain⟨v1,R1⟩:=R.dropAny p;rw[QS.n8];exact qC L _ _ _ R1
theorem link_rd(next:Nat)(v:List UInt8)(i:Nat)(hn:next<60000):(gR v i ((next:Int)-1)).length<=232/\bl (dh (gR v i ((next:Int)-1)) 232) 0=next/\bl (dh (gR v i ((next:Int)-1)) 232) 2=(cJ v i).length/\((dh (gR v i ((next:Int)-1)) 232).drop 4).take (cJ v i).length=cJ v i:=by
 have hp:(cJ v i).length<=228:=by unfold cJ;rw[cE];omega
 unfold gR dh;rw[show((next:Int)-1+1).toNat=next by omega];generalize cJ v i=pc at *;unfold lF bl;refine⟨by simp;omega,?_,?_,?_⟩
 .simp;omega
 .simp;omega
 .simp
theorem Fh(v:List UInt8)(i:Nat):(cJ v i).length<=228:=by unfold cJ;rw[cE];omega
theorem Cp(v:List UInt8)(i:Nat):v.drop (228*i)=cJ v i++v.drop (228*(i+1)):=by
 unfold cJ;rw[show 228*(i+1)=228*i+228 by omega,<-fY,jN]
theorem vB(val:List UInt8):∀(i:Nat) (q:QS) (v:Vw) (u:Nat) (next:Int) (made:List Int) (L:List Int),Rd q v o u mm->Ff v next L (val.drop (228*i))-> -1<=next->next<=511->
  ((QS.m6 val i q next made).2.2=11/\∃v' u',Rd (QS.m6 val i q next made).1 v' o u' mm/\u'<=u+i/\(mm<=u'\/512<=u'))\/
  ((QS.m6 val i q next made).2.2=0/\ -1<=(QS.m6 val i q next made).2.1/\(QS.m6 val i q next made).2.1<=511/\∃v' new,Rd (QS.m6 val i q next made).1 v' o (u+new.length) mm/\Ff v' (QS.m6 val i q next made).2.1 (new++L) val/\new.length=i/\(∀j∈new,v j=([],3))/\new.Nodup/\∀j,j∉new->v' j=v j)
 |0,q,v,u,next,made,L,R,hc,h1,h2=>by
  right;exact⟨rfl,h1,h2,v,[],R,hc,rfl,by simp,lT,λ_ _=>rfl⟩
 |i+1,q,v,u,next,made,L,R,hc,h1,h2=>by
  obtain⟨nx,rfl⟩:∃nx:Nat,next=(nx:Int)-1:=⟨(next+1).toNat,by omega⟩;obtain⟨k1,k2,k3,k4⟩:=link_rd nx val i (by omega);unfold QS.m6;have hn:=R.new ⟨(gR val i ((nx:Int)-1)).toArray⟩ (by show(gR val i _).toArray.size<=232;rw[iA];exact k1);have hd:(⟨(gR val i ((nx:Int)-1)).toArray⟩:ByteArray).data.toList=gR val i ((nx:Int)-1):=rfl;rw[hd]at hn
  rcases hn with⟨k,a1,a2,a3,a4⟩|⟨a1,a2,a3⟩
  .rw[if_neg (by rw[a1];simp),show(q.bh (gR val i ((nx:Int)-1))).2.1=((k:Nat):Int)from by rw[a1]];have hch:Ff (jh v (k:Nat) (dh (gR val i ((nx:Int)-1)) 232)) (k:Nat) ((k:Nat)::L) (val.drop (228*i)):=by
    refine⟨rfl,(nx:Int)-1,cJ val i,val.drop (228*(i+1)),?_,Cp val i,hc.congr (λx hx=>?_)⟩
    .unfold rdC;have Fu:=Fh val i;rw[vx,if_neg (by simp)];dsimp only;rw[k3,if_neg (by omega),k2,k4]
    .have AQ:=hc.here x hx;have eG:x≠((k:Nat):Int):=λe=>by rw[e,a3]at AQ;exact absurd AQ (by decide)
     exact ji v _ eG
   rcases vB val i _ _ (u+1) ((k:Nat):Int) (made++[((k:Nat):Int)]) ((k:Nat)::L) a4 hch (by omega) (by omega)with⟨b1,v',u',b2,b3,b4⟩|⟨b1,b2,b3,v',new,b4,b5,b6,b7,b8,b9⟩
   .exact .inl ⟨b1,v',u',b2,by omega,b4⟩
   .refine .inr ⟨b1,b2,b3,v',new++[((k:Nat):Int)],by rw[aU,lu,show u+(new.length+1)=u+1+new.length by omega];exact b4,by rw[cN];exact b5,by simp[b6],λj hj=>?_,?_,λj hj=>?_⟩
    .rcases aS.1 hj with hj|hj
     .have h3:=b7 j hj
      by_cases e:j=((k:Nat):Int)
      .rw[e];exact a3
      .rw[ji v _ e]at h3;exact h3
     .rw[cg.1 hj];exact a3
    .rw[fU];refine⟨b8,by simp,λx hx y hy e=>?_⟩;rw[cg.1 hy]at e;have h3:=b7 x hx;rw[e,vx]at h3;exact absurd (congrArg Prod.snd h3) (by show ¬(0:Int)=3;decide)
    .rw[aS,not_or]at hj;rw[b9 j hj.1,ji v _ (λe=>hj.2 (by simp[e]))]
  .rw[if_pos (by rw[a1];simp)];left;obtain⟨v1,R1⟩:=qC made _ _ _ a2;exact⟨by show(q.bh _).2.2=11;rw[a1],v1,u+1,R1,by omega,a3.imp (λh=>by omega) (λh=>by omega)⟩
def Jm(v:Vw)(e:E)(val:ByteArray)(L:List Int):Prop:=
 (e.aY= -1/\e.val=val/\L=[]/\val.size<=40)\/(0<=e.aY/\e.aY<=511/\e.val.size=0/\L≠[]/\L.length=(eX val.size).toNat/\40<val.size/\val.size<=1024/\Ff v e.aY L val.data.toList/\L.Nodup)
theorem rq{n:Nat}(h:n<=1024):1<=(eX n).toNat/\(eX n).toNat<=5/\n<=228*(eX n).toNat:=by
 unfold eX;omega
theorem Jm.congr(h:Jm v e val L)(hv:∀j∈L,v' j=v j):Jm v' e val L:=by
 rcases h with h|⟨a,b,z,c,d,f,g,i,j⟩
 .exact .inl h
 .exact .inr ⟨a,b,z,c,d,f,g,i.congr hv,j⟩
theorem Jm.here(h:Jm v e val L):∀j∈L,(v j).2=0:=by
 rcases h with⟨_,_,h,_⟩|⟨a,b,z,c,d,f,g,i,j⟩
 .rw[h];simp
 .exact i.here
theorem Jm.nodup(h:Jm v e val L):L.Nodup:=by
 rcases h with⟨_,_,h,_⟩|⟨a,b,z,c,d,f,g,i,j⟩
 .rw[h];exact lT
 .exact j
theorem Cq(R:Rd q v o u mm)(h:Jm v e val L):
  Rd (q.j8 e).1 v o u mm/\((q.j8 e).2=(val,0)\/((q.j8 e).2.2=11/\mm<=u)):=by
 unfold QS.j8
 rcases h with⟨a,b,c,d⟩|⟨a,b,z,c,d,f,g,i,j⟩
 .rw[if_pos (by omega)];exact⟨R,.inl (by rw[b])⟩
 .rw[if_neg (by omega)];have hn:=rq g;have hs:val.data.toList.length=val.size:=by simp
  obtain⟨w1,w2⟩:=nj 5 [] [] q v u R i c (by omega) (by rw[eA,hs];exact g);refine⟨w1,?_⟩;unfold QS.cZ
  rcases w2 with w2|⟨w2,w3⟩
  .left;rw[w2];rfl
  .right;rw[w2];exact⟨rfl,w3⟩
theorem Fi(R:Rd q v o u mm)(h:Jm v e val L):
  ((q.mK e).2=0/\Rd (q.mK e).1 (qN v L) o u mm)\/((q.mK e).2=11/\Rd (q.mK e).1 v o u mm/\mm<=u):=by
 unfold QS.mK
 rcases h with⟨a,b,c,d⟩|⟨a,b,z,c,d,f,g,i,j⟩
 .rw[if_pos (by omega),c,tP];exact .inl ⟨rfl,R⟩
 .rw[if_neg (by omega)];have hn:=rq g;have hs:val.data.toList.length=val.size:=by simp
  obtain⟨w1,w2⟩:=nj 5 [] [] q v u R i c (by omega) (by rw[eA,hs];exact g);unfold QS.lG;have w1:Rd (q.cZ e.aY).1 v o u mm:=w1
  rcases w2 with w2|⟨w2,w3⟩
  .have w2:(q.cZ e.aY).2=([]++L,[]++val.data.toList,0):=w2;rw[w2,if_neg (by simp)];obtain⟨d1,d2⟩:=tQ L (q.cZ e.aY).1 v u w1 j i.here;left;refine⟨?_,d2⟩;show qL ((q.cZ e.aY).1.n7 L).2=0;rw[d1];decide
  .have w2:(q.cZ e.aY).2=([],[],11):=w2;rw[w2,if_pos (by simp)];exact .inr ⟨(by decide:qL 11=11),w1,w3⟩
theorem Fj(R:Rd q v o u mm)(key val:ByteArray)(hv:val.size<=1024):
  ((q.fM key val).2.2=11/\∃v' u',Rd (q.fM key val).1 v' o u' mm/\u'<=u+5/\(mm<=u'\/512<=u'))\/
  ((q.fM key val).2.2=0/\∃v' L,Rd (q.fM key val).1 v' o (u+L.length) mm/\Jm v' (q.fM key val).2.1 val L/\(q.fM key val).2.1.key=key/\(∀j∈L,v j=([],3))/\∀j,j∉L->v' j=v j):=by
 unfold QS.fM
 by_cases h:val.size<=40
 .rw[if_pos h];exact .inr ⟨rfl,v,[],R,.inl ⟨rfl,rfl,rfl,h⟩,rfl,by simp,λ_ _=>rfl⟩
 .rw[if_neg h];have hn:=rq hv;have hs:val.data.toList.length=val.size:=by simp
  have he:q.lH val.data.toList=QS.m6 val.data.toList (eX val.size).toNat q (-1) []:=by
   unfold QS.lH;rw[if_neg (by omega),hs]
  rw[he]
  rcases vB val.data.toList (eX val.size).toNat q v u (-1) [] [] R ⟨rfl,jY (by omega)⟩ (by omega) (by omega)with⟨a1,v',u',a2,a3,a4⟩|⟨a1,a2,a3,v',new,a4,a5,a6,a7,a8,a9⟩
  .exact .inl ⟨a1,v',u',a2,by omega,a4⟩
  .rw[jy]at a5;have eG:new≠[]:=λe=>by rw[e]at a6;simp at a6;omega
   have hp:¬(QS.m6 val.data.toList (eX val.size).toNat q (-1) []).2.1<0:=λh=>eG ((a5.neg a4).1 h);exact .inr ⟨a1,v',new,a4,.inr ⟨Int.not_lt.1 hp,a3,rfl,eG,a6,by omega,hv,a5,a8⟩,rfl,a7,a9⟩
end
end Go.Proofs.YtmonobkginiajaaGreat.Sh
namespace Go.Proofs.YtmonobkginiajaaGreat.Sh
open Go.RowKit Pk Dk Pg
open Nd (E aF aJ cu bn aM bF bg ai cn)
variable{v:Vw}{H:Nat}{key:ByteArray}{up:List Step}{x:Step}
abbrev MT:=E×ByteArray×List Int
def ny(M:List MT):List Int:=M.flatMap λm=>m.2.2
def mF(M:List MT):List (ByteArray×ByteArray):=M.map λm=>(m.1.key,m.2.1)
@[simp] theorem fX(a b:List MT):ny (a++b)=ny a++ny b:=by simp[ny]
@[simp] theorem Dh:ny []=[]:=rfl
@[simp] theorem tR(m:MT)(b:List MT):ny (m::b)=m.2.2++ny b:=rfl
@[simp] theorem prs_app(a b:List MT):mF (a++b)=mF a++mF b:=by simp[mF]
@[simp] theorem prs_nil:mF []=[]:=rfl
@[simp] theorem Jn(m:MT)(b:List MT):mF (m::b)=(m.1.key,m.2.1)::mF b:=rfl
structure Tree(v:Vw)(H:Nat)(M:List MT):Prop where
 ok:ky v H 0
 en:M.map (λm=>m.1)=fN v H 0
 va:∀m∈M,Jm v m.1 m.2.1 m.2.2
 nod:(bC (aO v H 0)++ny M).Nodup
 all:∀j,(v j).2=0->j∈bC (aO v H 0)++ny M
structure Jo(l:List (ByteArray×ByteArray))(key:ByteArray)(A C B:List (ByteArray×ByteArray)):Prop where
 e:l=A++(C++B)
 a:∀x∈A,gY x.1 key
 b:∀x∈B,gY key x.1
 c:C=[]\/∃y,C=[(key,y)]
structure Dec(v:Vw)(key:ByteArray)(up:List Step)(x:Step)(M M1 MC M2:List MT)(a b:List E):Prop where
 n:aM x.l key=a.length
 l:x.l=a++(MC.map (λm=>m.1)++b)
 m:M=M1++(MC++M2)
 m1:M1.map (λm=>m.1)=bU (eS v up 0)++a
 m2:M2.map (λm=>m.1)=b++bU (df v up 0)
 k1:∀m∈M1,gY m.1.key key
 k2:∀m∈M2,gY key m.1.key
 c:(MC=[]/\bF x.l key=false)\/∃m,MC=[m]/\m.1.key=key/\bF x.l key=true
theorem zo{M:List MT}(T:Tree v H M)(W:WayV v key up x)(hl:up.length=H):∃M1 MC M2 a b,Dec v key up x M M1 MC M2 a b:=by
 obtain⟨p1,p2,p3,p4,p5⟩:=y8 W;rw[hl]at p5;have oE:=T.en;rw[p5]at oE;obtain⟨a,b,h1,h2,h3,h4⟩:=tO (xo W.nd) key;have main:∀(c b':List E),b=c++b'->(∀e∈b',gY key e.key)->∃M1 MC M2,M=M1++(MC++M2)/\M1.map (λm=>m.1)=bU (eS v up 0)++a/\MC.map (λm=>m.1)=c/\M2.map (λm=>m.1)=b'++bU (df v up 0)/\(∀m∈M1,gY m.1.key key)/\(∀m∈M2,gY key m.1.key):=λc b' hb hb'=>by
  have Ce:M.map (λm=>m.1)=(bU (eS v up 0)++a)++(c++(b'++bU (df v up 0))):=by rw[oE,h1,hb];simp
  obtain⟨M1,MR,e1,e2,e3⟩:=List.map_eq_append_iff.1 Ce;obtain⟨MC,M2,e4,e5,e6⟩:=List.map_eq_append_iff.1 e3;refine⟨M1,MC,M2,by rw[e1,e4],e2,e5,e6,λm hm=>?_,λm hm=>?_⟩
  .have:m.1∈bU (eS v up 0)++a:=by rw[<-e2];exact eo.2 ⟨m,hm,rfl⟩
   rcases aS.1 this with h|h
   .exact p3 _ h
   .exact h3 _ h
  .have:m.1∈b'++bU (df v up 0):=by rw[<-e6];exact eo.2 ⟨m,hm,rfl⟩
   rcases aS.1 this with h|h
   .exact hb' _ h
   .exact p4 _ h
 rcases h4 with⟨h4,c,b',hb,hc,hb'⟩|⟨h4,hb⟩
 .obtain⟨M1,MC,M2,e1,e2,e3,e4,e5,e6⟩:=main [c] b' (by rw[hb];rfl) hb';have hMC:∃m,MC=[m]/\m.1=c:=by
   match MC,e3 with
   |[m],e3=>exact⟨m,rfl,by simpa using e3⟩
   |[],e3=>exact absurd e3 (by simp)
   |_::_::_,e3=>exact absurd e3 (by simp)
  obtain⟨m,rfl,rfl⟩:=hMC;exact⟨M1,[m],M2,a,b',h2,by rw[h1,hb];simp,e1,e2,e4,e5,e6,.inr ⟨m,rfl,hc,h4⟩⟩
 .obtain⟨M1,MC,M2,e1,e2,e3,e4,e5,e6⟩:=main [] b rfl hb;have hMC:MC=[]:=List.map_eq_nil_iff.1 e3;subst hMC;exact⟨M1,[],M2,a,b,h2,by rw[h1];simp,e1,e2,e4,e5,e6,.inl ⟨rfl,h4⟩⟩
theorem Dec.pairs{M M1 MC M2:List MT}{a b:List E}(d:Dec v key up x M M1 MC M2 a b):Jo (mF M) key (mF M1) (mF MC) (mF M2):=by
 refine⟨by rw[d.m];simp,λy hy=>?_,λy hy=>?_,?_⟩
 .obtain⟨m,hm,rfl⟩:=eo.1 hy;exact d.k1 m hm
 .obtain⟨m,hm,rfl⟩:=eo.1 hy;exact d.k2 m hm
 .rcases d.c with⟨h,_⟩|⟨m,h,hk,_⟩
  .rw[h];exact .inl rfl
  .rw[h];exact .inr ⟨m.2.1,by rw[<-hk];rfl⟩
section
variable{o:Vw}{mm:Nat}
def mgetF(C:List (ByteArray×ByteArray)):ByteArray×Int:=match C with
 |[]=>(⟨#[]⟩,9)
 |x::_=>(x.2,0)
theorem zp(up:List Step)(x:Step):jH (up.reverse++[x])=x:=by unfold jH;simp
theorem Jp{q:QS}{u:Nat}{M:List MT}(R:Rd q v o u mm)(T:Tree v H M)(hH:H<=15)(key:ByteArray):
  Rd (q.fQ key).1 v o u mm/\(((q.fQ key).2.2=11/\mm<=u)\/∃A C B,Jo (mF M) key A C B/\(q.fQ key).2=mgetF C):=by
 obtain⟨r1,r2⟩:=Df R T.ok hH key;unfold QS.fQ
 rcases r2 with⟨r2,r3⟩|⟨r2,up,x,r3,r4,W⟩
 .rw[if_pos (by rw[r2];simp)];exact⟨r1,.inl ⟨r2,r3⟩⟩
 .rw[if_neg (by rw[r2];simp),r3,zp];obtain⟨M1,MC,M2,a,b,d⟩:=zo T W r4;have hp:=d.pairs
  rcases d.c with⟨h1,h2⟩|⟨m,h1,hk,h2⟩
  .rw[if_neg (by rw[h2];simp)];refine⟨r1,.inr ⟨_,_,_,hp,?_⟩⟩;rw[h1];rfl
  .rw[if_pos h2];have hx:x.l.getD (aM x.l key) Nd.E.zero=m.1:=by rw[d.n,d.l,h1];simp[ig]
   rw[hx];obtain⟨g1,g2⟩:=Cq r1 (T.va m (by rw[d.m,h1];simp));refine⟨g1,g2.symm.imp id (λg2=>⟨_,_,_,hp,?_⟩)⟩;rw[g2,h1];rfl
end
variable{M:List MT}{v:Vw}{H:Nat}
theorem Fk(a:List E)(n:E)(b:List E):(a++b).insertIdx a.length n=a++n::b:=by
 induction a with
 |nil=>rfl
 |cons x a ih=>rw[mL,il,zX,ih];rfl
theorem fJ{α:Type}{a b:List α}:(a++b).Nodup↔a.Nodup/\b.Nodup/\∀x∈a,x∉b:=by
 rw[fU];exact⟨λ⟨h1,h2,h3⟩=>⟨h1,h2,λx hx hb=>h3 x hx x hb rfl⟩,λ⟨h1,h2,h3⟩=>⟨h1,h2,λx hx y hy e=>h3 x hx (by rw[e];exact hy)⟩⟩
theorem xr{j:Int}:j∈ny M↔ ∃m∈M,j∈m.2.2:=mQ
theorem Tree.Jq(T:Tree v H M):∀j∈ny M,(v j).2=0:=λj hj=>by
 obtain⟨m,hm,hj⟩:=xr.1 hj;exact(T.va m hm).here j hj
theorem Tree.Di(T:Tree v H M):∀j∈bC (aO v H 0),(v j).2=0:=xp H 0 T.ok
structure SetP(v v':Vw)(H:Nat)(M:List MT)(key value:ByteArray)(H':Nat)(M':List MT)(new:Nat)(A C B:List (ByteArray×ByteArray))(h c:Nat):Prop where
 t:Tree v' H' M'
 d:Jo (mF M) key A C B
 m:mF M'=A++(key,value)::B
 n:new=c+h
 c:c<=5/\(value.size<=40->c=0)
 pot:∀wt c,E7 wt c->fI wt (aO v' H' 0)+c*h<=fI wt (aO v H 0)+wt 0*(key.size+(if value.size<=40 then value.size else 0)+7)+(if H'=H then 0 else c)
 h:H'=H\/(H'=H+1/\∀wt c,E7 wt c->73*wt H<=fI wt (aO v H 0)+wt 0*(key.size+(if value.size<=40 then value.size else 0)+7))
section
variable{o:Vw}{mm:Nat}
theorem Jr{q:QS}{u:Nat}(R:Rd q v o u mm)(T:Tree v H M)(hH:H<=15)(key value:ByteArray)(hk:key.size<=32)(hv:value.size<=1024):
  ((q.fP key value).2=11/\∃v' u',Rd (q.fP key value).1 v' o u' mm/\u'<=u+H+8/\(mm<=u'\/512<=u'))\/
  ((q.fP key value).2=0/\∃v' H' M' new A C B h c,Rd (q.fP key value).1 v' o (u+new) mm/\SetP v v' H M key value H' M' new A C B h c):=by
 obtain⟨r1,r2⟩:=Df R T.ok hH key;unfold QS.fP;rw[if_neg (by omega)]
 rcases r2 with⟨r2,r3⟩|⟨r2,up,x,r3,r4,W⟩
 .rw[if_pos (by rw[r2];simp)];exact .inl ⟨r2,v,u,r1,by omega,.inl r3⟩
 rw[if_neg (by rw[r2];simp),r3,zp,show(up.reverse++[x]).dropLast.reverse=up by simp];obtain⟨p1,p2,p3,p4,p5⟩:=y8 W;rw[r4]at p1 p2 p5;obtain⟨M1,MC,M2,a,b,d⟩:=zo T W r4;have zq:bC (aO v H 0)=bC (eS v up 0)++x.an::bC (df v up 0):=by rw[p2,de,eV]
 have hTn:=fJ.1 T.nod;have haw:vv x.l key=a++b:=by
  unfold vv
  rcases d.c with⟨h1,h2⟩|⟨m,h1,hkk,h2⟩
  .rw[if_neg (by rw[h2];simp),d.l,h1];rfl
  .rw[if_pos h2,d.n,d.l,h1];exact E9 a m.1 b
 have hdnod:(ny MC).Nodup:=by
  have:=hTn.2.1;rw[d.m,fX,fX]at this;exact(fJ.1 (fJ.1 this).2.1).1
 have yw:(((q.eP key).1.oC x.l key).2=0/\Rd ((q.eP key).1.oC x.l key).1 (qN v (ny MC)) o u mm)\/(((q.eP key).1.oC x.l key).2=11/\Rd ((q.eP key).1.oC x.l key).1 v o u mm/\mm<=u):=by
  unfold QS.oC
  rcases d.c with⟨h1,h2⟩|⟨m,h1,hkk,h2⟩
  .rw[if_neg (by rw[h2];simp),h1,Dh,tP];exact .inl ⟨rfl,r1⟩
  .rw[if_pos h2];have hx:x.l.getD (aM x.l key) Nd.E.zero=m.1:=by rw[d.n,d.l,h1];simp[ig]
   rw[hx,h1,tR,Dh,jy];exact Fi r1 (T.va m (by rw[d.m,h1];simp))
 rw[haw,d.n]
 rcases yw.symm with⟨o1,o2,o3⟩|⟨o1,o2⟩
 .rw[if_pos (by rw[o1];simp)];exact .inl ⟨o1,v,u,o2,by omega,.inl o3⟩
 rw[if_neg (by rw[o1];simp)];unfold QS.IZ
 rcases Fj o2 key value hv with⟨s1,v',u',s2,s3,s4⟩|⟨s1,v2,L,s2,s3,s4,s5,s6⟩
 .rw[if_pos (by rw[s1];simp)];exact .inl ⟨s1,v',u',s2,by omega,s4⟩
 rw[if_neg (by rw[s1];simp)];obtain⟨n,hn⟩:∃n,(((q.eP key).1.oC x.l key).1.fM key value).2.1=n:=⟨_,rfl⟩;rw[hn]at s3 s4 ⊢;have hLl:L.length<=5/\(value.size<=40->L.length=0):=by
  rcases s3 with⟨_,_,h,_⟩|⟨_,_,_,_,h,h40,h2,_⟩
  .rw[h];simp
  .have:=rq h2;exact⟨by omega,λh=>by omega⟩
 have nP:∀j,(v j).2=0->j∉ny MC->v2 j=v j:=λj hj hm=>by
  have h1:qN v (ny MC) j=v j:=by unfold qN;rw[if_neg hm]
  rw[s6 j (λhL=>?_),h1];have:=s5 j hL;rw[h1]at this;rw[this]at hj;exact absurd hj (by decide)
 have hMCin:∀j∈ny MC,j∈ny M:=λj hj=>by rw[d.m,fX,fX];simp[hj]
 have hnd2:∀j∈bC (aO v H 0),v2 j=v j:=λj hj=>nP j (T.Di j hj) (λhm=>hTn.2.2 j hj (hMCin j hm));obtain⟨c1,c2,c3⟩:=iy (v':=v2) up 0 x.an W.hole (λj hj=>hnd2 j (by rw[zq];simp[hj])) (λj hj=>hnd2 j (by rw[zq];simp[hj]));have x6:∀e∈a++b,e∈x.l:=λe he=>by rw[d.l];rcases aS.1 he with h|h<;>simp[h]
 have zr:=mz (oG (v:=v) (p:=x.an) (by rw[W.nd]));rw[W.nd]at zr;have zr:∀e∈x.l,cn e true:=zr;have hbx:ai x.l<=223:=by have:=W.ok.2;rw[W.nd]at this;exact this
 have hbab:ai (a++b)<=ai x.l:=by rw[d.l,gy,gy,gy];omega
 have hrn:cn n true/\n.val.size=(if value.size<=40 then value.size else 0):=by
  rcases s3 with⟨h1,h2,_,h4⟩|⟨h1,h2,h3,h4,h5,h40,h6,_⟩
  .refine⟨⟨by rw[s4];exact hk,by rw[h2];exact h4,by rw[h1];decide,by rw[h1];decide,.inl (by rw[h1];decide)⟩,by rw[if_pos h4,h2]⟩
  .exact⟨⟨by rw[s4];exact hk,by rw[h3];decide,by rw[if_pos rfl];omega,by omega,.inr h3⟩,by rw[if_neg (by omega),h3]⟩
 obtain⟨hrn,hvn⟩:=hrn;have hcn:n.key.size+n.val.size+7=key.size+(if value.size<=40 then value.size else 0)+7:=by rw[s4,hvn]
 have hcn79:n.key.size+n.val.size+7<=79:=by have h1:=hrn.1;have h2:=hrn.2.1;omega
 have hbn:ai (a++n::b)=ai (a++b)+(n.key.size+n.val.size+7):=by rw[gy,gy,ez];omega
 have hins:(a++b).insertIdx a.length n=a++n::b:=Fk a n b;rw[hins];have hla:∀e∈a,gY e.key key:=λe he=>by
  have:e∈M1.map (λm=>m.1):=by rw[d.m1];exact bV _ he
  obtain⟨m,hm,rfl⟩:=eo.1 this;exact d.k1 m hm
 have hlb:∀e∈b,gY key e.key:=λe he=>by
  have:e∈M2.map (λm=>m.1):=by rw[d.m2];exact bX _ he
  obtain⟨m,hm,rfl⟩:=eo.1 this;exact d.k2 m hm
 have hpw:=xo W.nd;rw[d.l,da,da]at hpw;have P:uj v2 0 ⟨x.an,x.leaf,a++n::b,x.at_⟩ up:=by
  refine⟨c1,W.leaf,?_,⟨λe he=>?_,?_⟩,by simp,?_,λe he=>?_,?_,?_⟩
  .show(v2 x.an).2=0;have qH:x.an∈bC (aO v H 0):=by rw[zq];simp
   rw[hnd2 _ qH];exact T.Di _ qH
  .show cn e true
   rcases aS.1 he with he|he
   .exact zr e (x6 e (bX _ he))
   .rcases aC.1 he with rfl|he
    .exact hrn
    .exact zr e (x6 e (bV _ he))
  .show(a++n::b).Pairwise λc e=>gY c.key e.key;rw[da,du];refine⟨hpw.1,⟨λe he=>by rw[s4];exact hlb e he,hpw.2.1.2.1⟩,λe he e' sR=>?_⟩
   rcases aC.1 sR with rfl|sR
   .rw[s4];exact hla e he
   .exact hpw.2.2 e he e' (bV _ sR)
  .show blank x.leaf _=_;rw[W.leaf];exact ix _
  .have he:e∈a++n::b:=he
   rcases aS.1 he with he|he
   .exact W.inh e (x6 e (bX _ he))
   .rcases aC.1 he with rfl|he
    .rw[s4];exact W.key
    .exact W.inh e (x6 e (bV _ he))
  .show(bC (eS v2 up 0)++x.an::([]++bC (df v2 up 0))).Nodup;rw[c2,c3,eA,<-zq];exact hTn.1
  .show ai (a++n::b)<=302;omega
 have hpn:dQ v2 0 ⟨x.an,x.leaf,a++n::b,x.at_⟩ up=eS v up 0++(0,x.an,a++n::b)::df v up 0:=by
  unfold dQ;rw[c2,c3];rfl
 have hpp:bC (dQ v2 0 ⟨x.an,x.leaf,a++n::b,x.at_⟩ up)=bC (aO v H 0):=by rw[hpn,zq,de,eV]
 have Jl:∀wt:Nat->Nat,fI wt (dQ v2 0 ⟨x.an,x.leaf,a++n::b,x.at_⟩ up)<=fI wt (aO v H 0)+wt 0*(n.key.size+n.val.size+7):=λwt=>by
  rw[hpn,p2];simp only[lS,jx];have:wt 0*(ai (a++n::b)-151)<=wt 0*(ai x.l-151)+wt 0*(n.key.size+n.val.size+7):=by
   rw[<-lY];exact nJ _ (by omega)
  omega
 rcases qB (up.length+1) up 0 ⟨x.an,x.leaf,a++n::b,x.at_⟩ _ v2 (u+L.length) (by omega) P s2 with⟨t1,v',u',t2,t3,t4⟩|⟨t1,v3,new,H',t2,G⟩
 .exact .inl ⟨t1,v',u',t2,by omega,t4⟩
 refine .inr ⟨t1,v3,H',M1++(n,value,L)::M2,L.length+new.length,mF M1,mF MC,mF M2,new.length,L.length,by rw[<-Nat.add_assoc];exact t2,?_⟩;have hMn:=hTn.2.1;rw[d.m,fX,fX]at hMn;have hMn1:=fJ.1 hMn;have hMn2:=fJ.1 hMn1.2.1;have Js:∀j,j∈ny M1\/j∈ny M2->j∈ny M/\j∉ny MC:=λj hj=>by
  refine⟨by rw[d.m,fX,fX];rcases hj with h|h<;>simp[h],λhc=>?_⟩
  rcases hj with h|h
  .exact hMn1.2.2 j h (bX _ hc)
  .exact hMn2.2.2 j hc h
 have hLv:∀j,(v j).2=0->j∉ny MC->j∉L:=λj hj hm hL=>by
  have:=s5 j hL;unfold qN at this;rw[if_neg hm]at this;rw[this]at hj;exact absurd hj (by decide)
 have hL2:∀j∈L,(v2 j).2=0:=s3.here;have zu:∀j,(v2 j).2=0->j∉new:=λj hj hm=>by rw[G.fresh j hm]at hj;exact absurd hj (by decide)
 have hM3:∀j,j∈ny M1\/j∈ny M2->v3 j=v j/\(v2 j).2=0/\j∉bC (aO v H 0):=λj hj=>by
  obtain⟨h1,h2⟩:=Js j hj;have h3:=T.Jq j h1;have h4:=nP j h3 h2;have h5:j∉bC (aO v H 0):=λh=>hTn.2.2 j h h1;refine⟨?_,by rw[h4];exact h3,h5⟩;rw[G.o j (by rw[hpp];exact h5) (zu j (by rw[h4];exact h3)),h4]
 have hPL:∀j∈bC (aO v H 0),j∉L:=λj hj=>hLv j (T.Di j hj) (λhm=>hTn.2.2 j hj (hMCin j hm));have hL3:∀j∈L,v3 j=v2 j:=λj hj=>G.o j (by rw[hpp];exact λh=>hPL j h hj) (zu j (hL2 j hj));have hP2:∀j∈bC (aO v H 0),(v2 j).2=0:=λj hj=>by rw[hnd2 j hj];exact T.Di j hj
 have oE:M1.map (λm=>m.1)=bU (eS v up 0)++a:=d.m1;refine⟨⟨G.ok,?_,λm hm=>?_,?_,λj hj=>?_⟩,d.pairs,?_,by omega,hLl,λwt c hw=>?_,?_⟩
 .rw[G.en,hpn,eh,eW,d.m1,d.m2];simp
 .rcases aS.1 hm with hm|hm
  .exact(T.va m (by rw[d.m];simp[hm])).congr (λj hj=>(hM3 j (.inl (xr.2 ⟨m,hm,hj⟩))).1)
  .rcases aC.1 hm with rfl|hm
   .exact s3.congr hL3
   .exact(T.va m (by rw[d.m];simp[hm])).congr (λj hj=>(hM3 j (.inr (xr.2 ⟨m,hm,hj⟩))).1)
 .have zm:(bC (aO v3 H' 0)++ny (M1++(n,value,L)::M2)).Perm ((bC (aO v H 0)++new)++(ny M1++(L++ny M2))):=by
   rw[fX,tR,<-hpp];exact G.pg.append_right _
  rw[zm.nodup_iff,fJ];refine⟨fJ.2 ⟨hTn.1,G.nod,λj hj=>zu j (hP2 j hj)⟩,fJ.2 ⟨hMn1.1,fJ.2 ⟨s3.nodup,hMn2.2.1,λj hj hm=>?_⟩,λj hj hm=>?_⟩,λj hj hm=>?_⟩
  .obtain⟨h1,h2⟩:=Js j (.inr hm);exact hLv j (T.Jq j h1) h2 hj
  .rcases aS.1 hm with hm|hm
   .obtain⟨h1,h2⟩:=Js j (.inl hj);exact hLv j (T.Jq j h1) h2 hm
   .exact hMn1.2.2 j hj (bV _ hm)
  .have uB:j∈L\/(j∈ny M1\/j∈ny M2):=by
    rcases aS.1 hm with hm|hm
    .exact .inr (.inl hm)
    .rcases aS.1 hm with hm|hm
     .exact .inl hm
     .exact .inr (.inr hm)
   rcases aS.1 hj with hj|hj
   .rcases uB with h|h
    .exact hPL j hj h
    .exact(hM3 j h).2.2 hj
   .rcases uB with h|h
    .exact zu j (hL2 j h) hj
    .exact zu j (hM3 j h).2.1 hj
 .rw[aS,fX,tR,aS,aS]
  by_cases h1:j∈bC (aO v H 0)
  .exact .inl (G.pg.mem_iff.2 (by rw[hpp];exact bX _ h1))
  .by_cases h2:j∈new
   .exact .inl (G.pg.mem_iff.2 (bV _ h2))
   .rw[G.o j (by rw[hpp];exact h1) h2]at hj
    by_cases h3:j∈L
    .exact .inr (.inr (.inl h3))
    .rw[s6 j h3]at hj;unfold qN at hj
     by_cases h4:j∈ny MC
     .rw[if_pos h4]at hj;exact absurd hj (by decide)
     .rw[if_neg h4]at hj;have:=T.all j hj;rw[d.m,fX,fX]at this;simp only[aS]at this
      rcases this with h|h|h|h
      .exact absurd h h1
      .exact .inr (.inl h)
      .exact absurd h h4
      .exact .inr (.inr (.inr h))
 .rw[prs_app,Jn,s4]
 .have g:=G.pot wt c hw;have g2:=Jl wt;rw[hcn]at g2;rw[bt,r4]at g;omega
 .have hl:0+up.length=H:=by omega
  rcases G.h with g|⟨g1,g2⟩
  .exact .inl (by rw[g,hl])
  .refine .inr ⟨by rw[g1,hl],λwt c hw=>?_⟩;have g3:=g2 wt c hw;rw[hl]at g3;have g4:=Jl wt;rw[hcn]at g4;omega
end
theorem Jt{v:Vw}{h:Nat}{l:List E}(k:l≠[]->eZ v h l)(hb:ai (blank (decide (h=0)) l)<=223):(bA (decide (h=0)) l).2=0:=by
 by_cases hl:l=[]
 .subst hl
  rcases ku (decide (h=0)) []with h1|h1|h1
  .exact h1.2.2.1
  .have h2:=h1.2.1;rw[pZ]at h2;exact absurd h2 (by simp[ai])
  .refine absurd ?_ h1.1;rw[pZ];intro i hi;exact absurd hi (by simp)
 .exact oJ (k hl) hb
section
variable{o:Vw}{mm:Nat}
end
section
variable{o:Vw}{mm:Nat}
end
section
variable{σ:Type}{o:Vw}{mm:Nat}{v:Vw}(step:E->σ->σ×Bool)(fr til:ByteArray)
end
end Go.Proofs.YtmonobkginiajaaGreat.Sh
namespace Go.Proofs.YtmonobkginiajaaGreat.Sh
open Go.RowKit Pk Dk Pg
open Nd (E ax aV aF aJ cu bn aM bF bg)
attribute [local go_sem ↓] Go.wp_at_zero Go.wp_at_succ
end Go.Proofs.YtmonobkginiajaaGreat.Sh
namespace Go.Proofs.YtmonobkginiajaaGreat.Sh
open Go.RowKit Pk Dk Pg
open Nd (E ax aV aF aJ cu bn aM bF)
attribute [local go_sem ↓] Go.wp_at_zero Go.wp_at_succ aW
abbrev PR:=ByteArray×ByteArray
end Go.Proofs.YtmonobkginiajaaGreat.Sh
namespace Go.Proofs.YtmonobkginiajaaGreat.Sh
open Go.RowKit Pk Dk Pg
open Nd (E aF aJ cu bn aM bF bg ai cn)
section
variable{o:Vw}{mm:Nat}
end
section
variable{q:QS}{v o:Vw}{u m:Nat}
end
variable{q:QS}{v:Vw}{u H:Nat}{M:List MT}
def Ju(l:List PR)(key:ByteArray):List PR:=l.filter λx=>decide (gY x.1 key)
def eqF(l:List PR)(key:ByteArray):List PR:=l.filter λx=>decide (x.1=key)
def zv(l:List PR)(key:ByteArray):List PR:=l.filter λx=>decide (gY key x.1)
theorem filter_all{α:Type}{p:α->Bool}{l:List α}(h:∀x∈l,p x=true):l.filter p=l:=zP.2 h
theorem filter_none{α:Type}{p:α->Bool}{l:List α}(h:∀x∈l,p x=false):l.filter p=[]:=List.filter_eq_nil_iff.2 λx hx=>by rw[h x hx];simp
theorem nm{a b:ByteArray}(h:gY a b):a≠b:=λe=>rp (by rwa [e]at h)
theorem Jo.parts{l:List PR}{key:ByteArray}{A C B:List PR}(d:Jo l key A C B):A=Ju l key/\C=eqF l key/\B=zv l key:=by
 have hC:∀x∈C,x.1=key:=λx hx=>by
  rcases d.c with h|⟨y,h⟩
  .rw[h]at hx;simp at hx
  .rw[h]at hx;rw[cg.1 hx]
 unfold Ju eqF zv;rw[d.e];simp only[List.filter_append];refine⟨?_,?_,?_⟩
 .rw[filter_all (l:=A) (λx hx=>decide_eq_true (d.a x hx)),filter_none (l:=C) (λx hx=>decide_eq_false (λh=>nm h (hC x hx))),filter_none (l:=B) (λx hx=>decide_eq_false (λh=>rp (iw h (d.b x hx))))];simp
 .rw[filter_none (l:=A) (λx hx=>decide_eq_false (nm (d.a x hx))),filter_all (l:=C) (λx hx=>decide_eq_true (hC x hx)),filter_none (l:=B) (λx hx=>decide_eq_false (λh=>nm (d.b x hx) h.symm))];simp
 .rw[filter_none (l:=A) (λx hx=>decide_eq_false (λh=>rp (iw h (d.a x hx)))),filter_none (l:=C) (λx hx=>decide_eq_false (λh=>nm h (hC x hx).symm)),filter_all (l:=B) (λx hx=>decide_eq_true (d.b x hx))];simp
def Jv(l:List PR)(key value:ByteArray):List PR:=Ju l key++(key,value)::zv l key
theorem wt1:E7 (λ_=>1) 34:=λ_=>by show 39*1+34<=73*1;omega
section
variable{o:Vw}{mm:Nat}
theorem Fl(R:Rd q v o u mm)(T:Tree v H M)(hH:H<=15)(key value:ByteArray)(hk:key.size<=32)(hv:value.size<=1024):
  ((q.fP key value).2=11/\∃v' u',Rd (q.fP key value).1 v' o u' mm/\u'<=u+H+8/\(mm<=u'\/512<=u'))\/
  ((q.fP key value).2=0/\∃v' H' M' new A C B h c,Rd (q.fP key value).1 v' o (u+new) mm/\SetP v v' H M key value H' M' new A C B h c/\mF M'=Jv (mF M) key value):=by
 refine(Jr R T hH key value hk hv).imp id ?_;rintro⟨h1,v',H',M',new,A,C,B,h,c,h2,h3⟩;obtain⟨d1,d2,d3⟩:=h3.d.parts;exact⟨h1,v',H',M',new,A,C,B,h,c,h2,h3,by rw[h3.m,d1,d3];rfl⟩
theorem nn(R:Rd q v o u mm)(T:Tree v H M)(hH:H<=15)(key:ByteArray):
  Rd (q.fQ key).1 v o u mm/\(((q.fQ key).2.2=11/\mm<=u)\/(q.fQ key).2=mgetF (eqF (mF M) key)):=by
 obtain⟨a,b⟩:=Jp R T hH key;refine⟨a,b.imp id ?_⟩;rintro⟨A,C,B,d,e⟩;rw[e,d.parts.2.1]
end
end Go.Proofs.YtmonobkginiajaaGreat.Sh
namespace Go.Proofs.YtmonobkginiajaaGreat.Sh
open Go.RowKit Pk Dk Pg
attribute [local go_sem ↓] Go.wp_at_zero Go.wp_at_succ
variable{w:World}{n sb tb Kz:Nat}{I:Ix}{F:List Nat}{q:QS}{fr:Bool}
def zx(s l:Nat):List UInt8:=[UInt8.ofNat (65+s),UInt8.ofNat l]
def gz(s l:Nat):ByteArray:=⟨(zx s l).toArray⟩
theorem vC(s l:Nat)(hs:s<=7)(hl:l<=6)(w:World):
  Calls Tryz.prog 97 #[.agg #[.int .i64 (s:Nat),.int .i64 (l:Nat)]] w λe w'=>e=.returned (.string (gz s l))/\Below w.heap.size w w':=by
 have xz:=ae (Below.refl w.heap.size w) (.cells #[.int .i64 (s:Nat),.int .i64 (l:Nat)] 177);have P0:=aD.new w 177 #[.int .i64 (s:Nat),.int .i64 (l:Nat)];have x0:=P0.ab (i:=0) rfl;have x1:=P0.ab (i:=1) rfl;obtain⟨w1,Jw⟩:∃w1,w.alloc (.cells #[.int .i64 (s:Nat),.int .i64 (l:Nat)] 177)=w1:=⟨_,rfl⟩;rw[Jw]at xz x0 x1;have O0:=xh (ao xz (ae (Below.refl w1.heap.size w1) (.cells #[.int .u8 (65+(s:Int)),.int .u8 (l:Nat)] 5)))
 have B0:=aD.new w1 5 #[.int .u8 (65+(s:Int)),.int .u8 (l:Nat)];have e1:IntKind.u8.wrap (65+(s:Int))=65+(s:Int):=IntWalk.u8_in _ (by omega);have e2:IntKind.u8.wrap (l:Int)=(l:Int):=IntWalk.u8_in _ (by omega);have e3:IntKind.i64.wrap (65+(s:Int))=65+(s:Int):=IntWalk.i64_in _ (by omega);have hb:cf (zx s l)=[.int .u8 (65+(s:Int)),.int .u8 (l:Nat)]:=by
  unfold zx cf bv;simp only[eW,mP,fV];rw[show(((65+s) % 2 ^ 8:Nat):Int)=65+(s:Int) by omega,show((l % 2 ^ 8:Nat):Int)=(l:Int) by omega]
 have HR:=xh (bs (P:=Tryz.prog) _ 150 9 5 Tryz.underlying150 Tryz.underlying5 Tryz.underlying9 ⟨w1.heap.size,0,none⟩ 2 2 (zx s l) rfl (aZ (l:=cf (zx s l)) (by rw[hb];exact B0) 0 _ (by simp)));have hs1:w1.heap.size=w.heap.size+1:=by rw[<-Jw,uh]
 rw[hs1]at HR;clear B0 hb xz P0;subst Jw;go_enter Tryz.func97,Tryz.ntmps97;go_wp2_with fail;rw[HR.o];go_wp2_with fail;go_ret;exact⟨by first|rfl|simp,O0.o⟩
def Fo(l:List ByteArray):List Value:=l.map Value.string
theorem Dj(sb:Nat)(s l:Int)(hs:0<=s/\s<=7)(hl:0<=l/\l<6){A:Option Addr}{c:Nat}{rs:List ByteArray}(S:aQ w 9 1 (.slice A n c) n (Fo rs))(hn:n<=100)(hr:∀r∈rs,r.size<=30):
  Calls Tryz.prog 95 #[.pointer (some ⟨sb,0,none⟩),.agg #[.int .i64 s,.int .i64 l],.slice A n c] w λe w'=>e=.returned (.int .i64 0)/\Below w.heap.size w w':=by
 have xz:=ae (Below.refl w.heap.size w) (.cells #[.int .i64 s,.int .i64 l] 177);have P0:=aD.new w 177 #[.int .i64 s,.int .i64 l];have x0:=P0.ab (i:=0) rfl;have x1:=P0.ab (i:=1) rfl;have S1:=S.below xz;have mG:rs.length=n:=by have:=S.1;simp[Fo]at this;omega
 have HL:=xh mG;have H0:=xh (And.intro S1 xz);obtain⟨hs1,hs2⟩:=hs;obtain⟨hl1,Fy⟩:=hl;have n1:¬s<0:=by omega
 have n2:¬7<s:=by omega
 have n3:¬l<0:=by omega
 have n4:¬6<=l:=by omega
 clear S S1 xz P0 mG;go_enter Tryz.func95,Tryz.ntmps95;go_wp2_with fail
 go_loopw [33] (λiv wr=> ∃i:Nat,i<=n/\iv=.int .i64 (i:Nat)/\Below (w.alloc (.cells #[.int .i64 s,.int .i64 l] 177)).heap.size (w.alloc (.cells #[.int .i64 s,.int .i64 l] 177)) wr) (λiv _=>n-(intOf iv).toNat)
 case atStart=>exact⟨0,bm _,rfl,Below.refl _ _⟩
 case round=>
  obtain⟨i,hi,rfl,O⟩:=hrel
  by_cases h:i<n
  .have hI:(i:Int)<(n:Int):=by omega
   have S2:=H0.o.1.below O;obtain⟨g,cap,rest,hv,B,hc,xt⟩:=S2.form (by omega) (by omega);injection hv with e1 e2 e3
   subst e1 e3;obtain⟨r,hx⟩:∃r,rs[i]?=some r:=⟨_,aN (by rw[HL.o];exact h)⟩;have kX:=hr r (az hx);have hrI:¬(30:Int)<(r.size:Int):=by omega
   have xc:wr.cell? ⟨g,i,none⟩=some (.string r):=B.ab (by
    rw[cW,bx (by simp[Fo];rw[HL.o];exact h)];simp[Fo,hx])
   have HO:=xh O;clear S2 B xt O hx;go_wp2_with fail;go_roundw
   case rel=>exact⟨i+1,by omega,by go_num,HO.o⟩
   case measure=>simp[intOf];omega
  .have hI:¬(i:Int)<(n:Int):=by omega
   have HO:=xh (ao H0.o.2 O);clear O;go_wp2_with fail;go_ret;exact⟨by first|rfl|simp,HO.o⟩
theorem qa(s l:Nat)(r:ByteArray):(gz s l++r).size=2+r.size:=by rw[xD];rfl
theorem zy(B:aD w sb 182 #[tp tb,pp I.pb,.bool fr])(T:TQ w tb I F q n Kz)(hK:Kz<=999999000000)(s l:Nat)(hs:s<=7)(hl:l<6)(r v:ByteArray)(hr:r.size<=30)(hv:v.size<=100000):
  Calls Tryz.prog 46 #[.pointer (some ⟨sb,0,none⟩),.int .i64 (s:Nat),.int .i64 (l:Nat),.string r,.string v] w λe w'=>e=.returned (.int .i64 (q.fP (gz s l++r) v).2)/\PT w w' I F (q.fP (gz s l++r) v).1 n (Kz+100):=by
 obtain⟨z,hz⟩:∃z,w.heap.size=z:=⟨_,rfl⟩;have aL:=ae (Below.refl w.heap.size w) (.cells #[.int .i64 (s:Nat),.int .i64 (l:Nat)] 177);have P0:=aD.new w 177 #[.int .i64 (s:Nat),.int .i64 (l:Nat)];obtain⟨w1,Jw⟩:∃w1,w.alloc (.cells #[.int .i64 (s:Nat),.int .i64 (l:Nat)] 177)=w1:=⟨_,rfl⟩;rw[Jw]at aL P0;rw[hz]at P0;have hs1:w1.heap.size=z+1:=by rw[<-Jw,uh,hz]
 have SR:aQ (w1.alloc (.cells #[.string r] 9)) 9 1 (.slice (some ⟨w1.heap.size,0,none⟩) 1 1) 1 (Fo [r]):=⟨rfl,.inr ⟨w1.heap.size,1,[],rfl,aD.new _ _ _,rfl,by decide⟩⟩;have bK:=ao aL (ae (Below.refl w1.heap.size w1) (.cells #[.string r] 9));have P2:=P0.alloc (.cells #[.string r] 9);have KM:=xh (Dj (w:=w1.alloc (.cells #[.string r] 9)) sb (s:Nat) (l:Nat) ⟨by omega,by omega⟩ ⟨by omega,by omega⟩ SR (by omega) (by simpa using hr));rw[hs1]at KM
 have KH:=xh (λ(W:World)=>vC s l hs (by omega) W);have KT:=xh (λ(W:World) (hW:TQ W tb I F q n Kz)=>I0 hW (by omega) (gz s l++r) v (by rw[qa];omega) hv);have x0:=P0.ab (i:=0) rfl;have x1:=P0.ab (i:=1) rfl;have NB:=xh (T.2.jC B (by decide) (by decide) (by decide) (by decide) (by decide) (by decide) (by decide) (by decide) (by decide));have hcat:¬9223372036854775807<(gz s l).size+r.size:=by show ¬9223372036854775807<2+r.size;omega
 have NZ:=xh (show z∉F from λhm=>by have:=T.2.lt _ hm;omega);have H0:=xh (And.intro B (And.intro T (And.intro P2 bK)));clear B T P0 P2 SR aL bK;subst Jw;unfold tp at KT;go_enter Tryz.func46,Tryz.ntmps46;go_wp2_with fail;refine KM.o.mono ?_;rintro e w3 ⟨rfl,dR⟩;have T3:=xh ((H0.o.2.1.below H0.o.2.2.2).below dR);have B3:=xh ((H0.o.1.below H0.o.2.2.2 H0.o.1.lt).below dR (H0.o.1.below H0.o.2.2.2 H0.o.1.lt).lt)
 have P3:=xh (H0.o.2.2.1.below dR H0.o.2.2.1.lt);have O3:=xh (ao H0.o.2.2.2 dR);have S0:=xh (show w3.drew.cell? ⟨sb,0,none⟩=some (.pointer (some ⟨tb,0,none⟩))/\w3.drew.cell? ⟨z,0,none⟩=some (.int .i64 (s:Nat))/\w3.drew.cell? ⟨z,1,none⟩=some (.int .i64 (l:Nat))from⟨B3.o.ab (i:=0) rfl,P3.o.ab (i:=0) rfl,P3.o.ab (i:=1) rfl⟩);clear dR x0 x1;go_wp2_with fail
 refine wp_region_held_drew (S:=λW=>W.cell? ⟨sb,0,none⟩=some (.pointer (some ⟨tb,0,none⟩))/\W.cell? ⟨z,0,none⟩=some (.int .i64 (s:Nat))/\W.cell? ⟨z,1,none⟩=some (.int .i64 (l:Nat))) (by kernel_rfl) (S0.o) (λaw=>?_);refine dq [(0,24),(1,25),(2,26),(3,27),(4,28),(6,30),(8,32)] ?_
 iterate 7 refine za ?_
 refine zd 5 29 λK hK=>?_;go_simp
 go_at_call 97
 refine(KH.o _).mono ?_;rintro e w4 ⟨rfl,fw⟩;have T4:=xh (T3.o.drew.below fw);have B4:=xh (B3.o.drew.below fw B3.o.drew.lt);have P4:=xh (P3.o.drew.below fw P3.o.drew.lt);have O4:=xh (ao (cB O3.o 1) fw)
 have S4:=xh (show w4.cell? ⟨sb,0,none⟩=some (.pointer (some ⟨tb,0,none⟩))/\w4.cell? ⟨z,0,none⟩=some (.int .i64 (s:Nat))/\w4.cell? ⟨z,1,none⟩=some (.int .i64 (l:Nat))from⟨B4.o.ab (i:=0) rfl,P4.o.ab (i:=0) rfl,P4.o.ab (i:=1) rfl⟩);clear fw;go_simp;refine zh hK (S4.o) (λaw=>?_);refine dq [(7,31)] ?_
 iterate 1 refine za ?_
 refine zd 9 33 λK hK=>?_;go_simp
 go_at_call 25
 refine(KT.o w4 T4.o).mono ?_;rintro e w5 ⟨rfl,F5,p5,o5,f5⟩;have S5:=xh (show w5.cell? ⟨sb,0,none⟩=some (.pointer (some ⟨tb,0,none⟩))/\w5.cell? ⟨z,0,none⟩=some (.int .i64 (s:Nat))/\w5.cell? ⟨z,1,none⟩=some (.int .i64 (l:Nat))from⟨(B4.o.only o5 NB.o).ab (i:=0) rfl,(P4.o.only o5 NZ.o).ab (i:=0) rfl,(P4.o.only o5 NZ.o).ab (i:=1) rfl⟩)
 have H5:=xh (show PT w w5 I F (q.fP (gz s l++r) v).1 n (Kz+100)from⟨F5,p5,(ag.aj O4.o).trans o5,λg hg=>(f5 g hg).imp id (λh=>au O4.o.size h)⟩);clear o5;go_simp;refine zh hK (S5.o) (λaw=>?_);refine dq [(10,10)] ?_
 iterate 1 refine za ?_
 refine wpAnyH_done (by kernel_rfl) ?_ _;go_wp2_with fail;go_ret;exact⟨by first|rfl|simp,H5.o⟩
theorem tT(B:aD w sb 182 #[tp tb,pp I.pb,.bool fr])(T:TQ w tb I F q n Kz)(hK:Kz<=999999000000)(s l:Nat)(hs:s<=7)(hl:l<6)(r:ByteArray)(hr:r.size<=30):
  Calls Tryz.prog 42 #[.pointer (some ⟨sb,0,none⟩),.int .i64 (s:Nat),.int .i64 (l:Nat),.string r] w λe w'=>e=.returned (.tuple #[.string (q.fQ (gz s l++r)).2.1,.int .i64 (q.fQ (gz s l++r)).2.2])/\PQ w' I F (q.fQ (gz s l++r)).1 n (Kz+21)/\ag F w w':=by
 obtain⟨z,hz⟩:∃z,w.heap.size=z:=⟨_,rfl⟩;have aL:=ae (Below.refl w.heap.size w) (.cells #[.int .i64 (s:Nat),.int .i64 (l:Nat)] 177);have P0:=aD.new w 177 #[.int .i64 (s:Nat),.int .i64 (l:Nat)];obtain⟨w1,Jw⟩:∃w1,w.alloc (.cells #[.int .i64 (s:Nat),.int .i64 (l:Nat)] 177)=w1:=⟨_,rfl⟩;rw[Jw]at aL P0;rw[hz]at P0;have hs1:w1.heap.size=z+1:=by rw[<-Jw,uh,hz]
 have SR:aQ (w1.alloc (.cells #[.string r] 9)) 9 1 (.slice (some ⟨w1.heap.size,0,none⟩) 1 1) 1 (Fo [r]):=⟨rfl,.inr ⟨w1.heap.size,1,[],rfl,aD.new _ _ _,rfl,by decide⟩⟩;have bK:=ao aL (ae (Below.refl w1.heap.size w1) (.cells #[.string r] 9));have P2:=P0.alloc (.cells #[.string r] 9);have KM:=xh (Dj (w:=w1.alloc (.cells #[.string r] 9)) sb (s:Nat) (l:Nat) ⟨by omega,by omega⟩ ⟨by omega,by omega⟩ SR (by omega) (by simpa using hr));rw[hs1]at KM
 have KH:=xh (λ(W:World)=>vC s l hs (by omega) W);have KT:=xh (λ(W:World) (hW:TQ W tb I F q n Kz)=>ER hW (by omega) (gz s l++r));have x0:=P0.ab (i:=0) rfl;have x1:=P0.ab (i:=1) rfl;have NB:=xh (T.2.jC B (by decide) (by decide) (by decide) (by decide) (by decide) (by decide) (by decide) (by decide) (by decide));have hcat:¬9223372036854775807<(gz s l).size+r.size:=by show ¬9223372036854775807<2+r.size;omega
 have NZ:=xh (show z∉F from λhm=>by have:=T.2.lt _ hm;omega);have H0:=xh (And.intro B (And.intro T (And.intro P2 bK)));clear B T P0 P2 SR aL bK;subst Jw;unfold tp at KT;go_enter Tryz.func42,Tryz.ntmps42;go_wp2_with fail;refine KM.o.mono ?_;rintro e w3 ⟨rfl,dR⟩;have T3:=xh ((H0.o.2.1.below H0.o.2.2.2).below dR);have B3:=xh ((H0.o.1.below H0.o.2.2.2 H0.o.1.lt).below dR (H0.o.1.below H0.o.2.2.2 H0.o.1.lt).lt)
 have P3:=xh (H0.o.2.2.1.below dR H0.o.2.2.1.lt);have O3:=xh (ao H0.o.2.2.2 dR);have S0:=xh (show w3.drew.cell? ⟨sb,0,none⟩=some (.pointer (some ⟨tb,0,none⟩))/\w3.drew.cell? ⟨z,0,none⟩=some (.int .i64 (s:Nat))/\w3.drew.cell? ⟨z,1,none⟩=some (.int .i64 (l:Nat))from⟨B3.o.ab (i:=0) rfl,P3.o.ab (i:=0) rfl,P3.o.ab (i:=1) rfl⟩);clear dR x0 x1;go_wp2_with fail
 refine wp_region_held_drew (S:=λW=>W.cell? ⟨sb,0,none⟩=some (.pointer (some ⟨tb,0,none⟩))/\W.cell? ⟨z,0,none⟩=some (.int .i64 (s:Nat))/\W.cell? ⟨z,1,none⟩=some (.int .i64 (l:Nat))) (by kernel_rfl) (S0.o) (λaw=>?_);refine dq [(0,23),(1,24),(2,25),(3,26),(4,27),(6,29)] ?_
 iterate 6 refine za ?_
 refine zd 5 28 λK hK=>?_;go_simp
 go_at_call 97
 refine(KH.o _).mono ?_;rintro e w4 ⟨rfl,fw⟩;have T4:=xh (T3.o.drew.below fw);have B4:=xh (B3.o.drew.below fw B3.o.drew.lt);have P4:=xh (P3.o.drew.below fw P3.o.drew.lt);have O4:=xh (ao (cB O3.o 1) fw)
 have S4:=xh (show w4.cell? ⟨sb,0,none⟩=some (.pointer (some ⟨tb,0,none⟩))/\w4.cell? ⟨z,0,none⟩=some (.int .i64 (s:Nat))/\w4.cell? ⟨z,1,none⟩=some (.int .i64 (l:Nat))from⟨B4.o.ab (i:=0) rfl,P4.o.ab (i:=0) rfl,P4.o.ab (i:=1) rfl⟩);clear fw;go_simp;refine zh hK (S4.o) (λaw=>?_);refine dq [(7,30)] ?_
 iterate 1 refine za ?_
 refine zd 8 31 λK hK=>?_;go_simp
 go_at_call 20
 refine(KT.o w4 T4.o).mono ?_;rintro e w5 ⟨rfl,p5,o5⟩;have S5:=xh (show w5.cell? ⟨sb,0,none⟩=some (.pointer (some ⟨tb,0,none⟩))/\w5.cell? ⟨z,0,none⟩=some (.int .i64 (s:Nat))/\w5.cell? ⟨z,1,none⟩=some (.int .i64 (l:Nat))from⟨(B4.o.only o5 NB.o).ab (i:=0) rfl,(P4.o.only o5 NZ.o).ab (i:=0) rfl,(P4.o.only o5 NZ.o).ab (i:=1) rfl⟩);have H5:=xh (show PQ w5 I F (q.fQ (gz s l++r)).1 n (Kz+21)/\ag F w w5 from⟨p5,(ag.aj O4.o).trans o5⟩)
 clear o5;go_simp;refine zh hK (S5.o) (λaw=>?_);refine dq [(9,32),(10,33),(11,8),(12,9)] ?_
 iterate 4 refine za ?_
 refine wpAnyH_done (by kernel_rfl) ?_ _;go_wp2_with fail;go_ret2;exact⟨by first|rfl|simp,H5.o⟩
variable{w:World}{sb tb n K:Nat}{I:Ix}{F:List Nat}{fr:Bool}
def xu(g:ByteArray×Int):Int×Int:=if g.2=9 then(0,0)else if g.2≠0 then(0,g.2)else((k7 g.1.data.toList:Int)-9223372036854775808,0)
def eH(name:ByteArray):ByteArray:=gz 7 0++name
def QS.cw(q:QS)(name:ByteArray):QS×Int×Int:=((q.fQ (eH name)).1,xu (q.fQ (eH name)).2)
def kx(n least:Int):Prop:=least<=n/\n<=1099511627776
instance(n least:Int):Decidable (kx n least):=by unfold kx;exact inferInstance
def QS.oK(q:QS)(name:ByteArray)(n:Int):QS×Int×Int:=
 if(q.cw name).2.2≠0 then((q.cw name).1,0,(q.cw name).2.2)
 else if ¬(kx n (-1099511627776)/\kx (q.cw name).2.1 0/\kx ((q.cw name).2.1+n) 0)then((q.cw name).1,0,3)
 else if((q.cw name).1.fP (eH name) ⟨(cF ((q.cw name).2.1+n)).toArray⟩).2≠0 then(((q.cw name).1.fP (eH name) ⟨(cF ((q.cw name).2.1+n)).toArray⟩).1,0,((q.cw name).1.fP (eH name) ⟨(cF ((q.cw name).2.1+n)).toArray⟩).2)
 else(((q.cw name).1.fP (eH name) ⟨(cF ((q.cw name).2.1+n)).toArray⟩).1,(q.cw name).2.1+n,0)
theorem oL{q:QS}(B:aD w sb 182 #[tp tb,pp I.pb,.bool fr])(T:TQ w tb I F q n K)(hK:K<=999999000000)(r:ByteArray)(hr:r.size<=30)(h8:(q.fQ (eH r)).2.2=0->(q.fQ (eH r)).2.1.size=8):
  Calls Tryz.prog 38 #[.pointer (some ⟨sb,0,none⟩),.string r] w λe w'=>e=.returned (.tuple #[.int .i64 (q.cw r).2.1,.int .i64 (q.cw r).2.2])/\PQ w' I F (q.cw r).1 n (K+21)/\ag F w w':=by
 have KG:=tT B T hK 7 0 (by omega) (by omega) r hr;unfold QS.cw;rw[show gz 7 0++r=eH r from rfl]at KG;obtain⟨R,hR⟩:∃R,q.fQ (eH r)=R:=⟨_,rfl⟩;rw[hR]at KG h8 ⊢;obtain⟨q1,b,e1⟩:=R;dsimp only at KG h8 ⊢;have KG:=xh KG;clear hR B T
 by_cases h9:e1=9
 .subst h9;go_enter Tryz.func38,Tryz.ntmps38;go_wp2_with fail;refine KG.o.mono ?_;rintro e w1 ⟨rfl,H1⟩;have H1:=xh H1;go_wp2_with fail;go_ret2;exact⟨by first|rfl|simp[xu],H1.o⟩
 .by_cases h0:e1=0
  .subst h0;have hs:=h8 rfl;have KR:=xh (λ(W:World)=>oZ b 0 W (by omega) (by omega));have hex:b.extract 0 (0+8)=b:=by
    apply nA;apply nz.1;rw[exl'];have hl:b.data.toList.length=8:=by simpa using hs
    simp[bJ,hl]
   rw[hex]at KR;have hsI:((b.size:Nat):Int)=8:=by omega
   have hc:xu (b,0)=((k7 b.data.toList:Int)-9223372036854775808,0):=by unfold xu;rw[if_neg (by simp),if_neg (by simp)]
   rw[hc];dsimp only;generalize (k7 b.data.toList:Int)-9223372036854775808=cv at *;have mS:¬(8:Int)<((b.size:Nat):Int):=by omega
   clear h8 hex hc hsI h9;go_enter Tryz.func38,Tryz.ntmps38;go_wp2_with fail;refine KG.o.mono ?_;rintro e w1 ⟨rfl,H1⟩;have H1:=xh H1;go_wp2_with fail;refine(KR.o _).mono ?_;rintro e w2 ⟨rfl,hb⟩;have H2:=xh (show PQ w2 I F q1 n (K+21)/\ag F w w2 from⟨H1.o.1.below hb,H1.o.2.trans (.aj hb)⟩);clear hb;go_wp2_with fail;go_ret2;exact⟨by first|rfl|simp,H2.o⟩
  .have hc:xu (b,e1)=(0,e1):=by unfold xu;rw[if_neg h9,if_pos h0]
   rw[hc];dsimp only;have q9:(e1==9)=false:=by rw[beq_eq_false_iff_ne];exact h9
   have hq:(e1 != 0)=true:=by rw[bne_iff_ne];exact h0
   have lp:(e1==0)=false:=by rw[beq_eq_false_iff_ne];exact h0
   clear h8 hc;go_enter Tryz.func38,Tryz.ntmps38;go_wp2_with fail;refine KG.o.mono ?_;rintro e w1 ⟨rfl,H1⟩;have H1:=xh H1;go_wp2_with fail;go_ret2;exact⟨by first|rfl|simp,H1.o⟩
theorem Fp(n least:Int)(w:World):Calls Tryz.prog 87 #[.int .i64 n,.int .i64 least] w λe w'=>e=.returned (.bool (decide (kx n least)))/\w=w':=by
 by_cases h1:least<=n
 .by_cases h2:n<=1099511627776
  .rw[decide_eq_true (p:=kx n least) ⟨h1,h2⟩];go_enter Tryz.func87,Tryz.ntmps87;go_wp2_with fail;go_ret;exact⟨by first|rfl|simp,rfl⟩
  .rw[decide_eq_false (p:=kx n least) (λh=>h2 h.2)];go_enter Tryz.func87,Tryz.ntmps87;go_wp2_with fail;go_ret;exact⟨by first|rfl|simp,rfl⟩
 .rw[decide_eq_false (p:=kx n least) (λh=>h1 h.1)];go_enter Tryz.func87,Tryz.ntmps87;go_wp2_with fail;go_ret;exact⟨by first|rfl|simp,rfl⟩
theorem PT.pre{w1 w2:World}{q:QS}(o:ag F w w1)(h:PT w1 w2 I F q n K):PT w w2 I F q n K:=by
 obtain⟨F',a,o2,f⟩:=h;exact⟨F',a,o.trans o2,λg hg=>(f g hg).imp id (λh=>au o.size h)⟩
theorem oM{q:QS}(B:aD w sb 182 #[tp tb,pp I.pb,.bool fr])(T:TQ w tb I F q n K)(hK:K<=999998000000)(r:ByteArray)(hr:r.size<=30)(h8:(q.fQ (eH r)).2.2=0->(q.fQ (eH r)).2.1.size=8)(m:Int):
  Calls Tryz.prog 37 #[.pointer (some ⟨sb,0,none⟩),.string r,.int .i64 m] w λe w'=>e=.returned (.tuple #[.int .i64 (q.oK r m).2.1,.int .i64 (q.oK r m).2.2])/\PT w w' I F (q.oK r m).1 n (K+200):=by
 have KC:=oL B T (by omega) r hr h8;have KM:=xh Fp;have KI:=xh I_any;have KS:=xh (λ(W:World) (qj:QS) (kj:Nat) (B':aD W sb 182 #[tp tb,pp I.pb,.bool fr]) (hW:TQ W tb I F qj n kj) (hk:kj<=999999000000) (v:ByteArray) (hv:v.size<=100000)=>zy B' hW hk 7 0 (by omega) (by omega) r v hr hv);have HB:=xh B;have HT:=xh T;have NB:=xh (T.2.jC B (by decide) (by decide) (by decide) (by decide) (by decide) (by decide) (by decide) (by decide) (by decide))
 obtain⟨RR,cd⟩:∃RR,q.oK r m=RR:=⟨_,rfl⟩;rw[cd];unfold QS.oK at cd;obtain⟨R,hR⟩:∃R,q.cw r=R:=⟨_,rfl⟩;rw[hR]at KC cd;obtain⟨q1,cv,e1⟩:=R;dsimp only at KC cd;have KC:=xh KC;have ic:=xh cd;clear cd hR B T h8;unfold tp pp at *
 by_cases he:e1=0
 .subst he;have xt:=ic.o;rw[if_neg (by simp)]at xt
  by_cases hA:kx m (-1099511627776)
  .have dA:=decide_eq_true hA;have a1:=hA.1;have a2:=hA.2
   by_cases hB:kx cv 0
   .have dB:=decide_eq_true hB;have b1:=hB.1;have b2:=hB.2
    by_cases hC:kx (cv+m) 0
    .rw[if_neg (λh=>h ⟨hA,hB,hC⟩)]at xt;have dC:=decide_eq_true hC;have c1:=hC.1;have c2:=hC.2;have HV:=xh xt;have HP:=xh (show(⟨(cF (cv+m)).toArray⟩:ByteArray).size<=100000 by rw[show(⟨(cF (cv+m)).toArray⟩:ByteArray).size=(cF (cv+m)).length from rfl,Pg.dv];decide);clear xt hA hB hC;go_enter Tryz.func37,Tryz.ntmps37;go_wp2_with fail;refine KC.o.mono ?_;rintro e w1 ⟨rfl,H1⟩;have H1:=xh H1;go_wp2_with fail;refine(KM.o _ _ _).mono ?_
     rintro e _ ⟨rfl,rfl⟩;rw[dA];go_wp2_with fail;refine(KM.o _ _ _).mono ?_;rintro e _ ⟨rfl,rfl⟩;rw[dB];go_wp2_with fail;refine(KM.o _ _ _).mono ?_;rintro e _ ⟨rfl,rfl⟩;rw[dC];go_wp2_with fail;refine(KI.o _ c1 c2 _).mono ?_;rintro e w2 ⟨rfl,hb⟩
     have H2:=xh (And.intro ((HB.o.only H1.o.2 (by simpa using NB.o)).below hb (HB.o.only H1.o.2 (by simpa using NB.o)).lt) (And.intro (show TQ w2 tb I F q1 n (K+21)from⟨(HT.o.1.only H1.o.2 (by simpa using HT.o.ne)).below hb (HT.o.1.only H1.o.2 (by simpa using HT.o.ne)).lt,H1.o.1.below hb⟩) (show ag F w w2 from H1.o.2.trans (.aj hb))));clear hb;go_wp2_with fail;refine(KS.o _ q1 (K+21) H2.o.1 H2.o.2.1 (by omega) _ HP.o).mono ?_
     rintro e w3 ⟨rfl,H3⟩;have H3:=xh (PT.pre H2.o.2.2 H3);have HV:Hid ((if(q1.fP (eH r) ⟨(cF (cv+m)).toArray⟩).2≠0 then((q1.fP (eH r) ⟨(cF (cv+m)).toArray⟩).1,(0:Int),(q1.fP (eH r) ⟨(cF (cv+m)).toArray⟩).2)else((q1.fP (eH r) ⟨(cF (cv+m)).toArray⟩).1,cv+m,(0:Int)))=RR):=HV;rw[show gz 7 0++r=eH r from rfl]at H3 ⊢;obtain⟨R2,hR2⟩:∃R2,q1.fP (eH r) ⟨(cF (cv+m)).toArray⟩=R2:=⟨_,rfl⟩;rw[hR2]at H3 HV ⊢;obtain⟨q2,e2⟩:=R2;clear hR2 HP
     have hv:=HV.o;dsimp only at hv H3;clear HV
     by_cases h2:e2=0
     .subst h2;rw[if_neg (by simp)]at hv;have HV:=xh hv;clear hv;go_wp2_with fail;go_ret2;have h9:=HV.o;subst h9;exact⟨by first|rfl|simp,H3.o.le (by omega)⟩
     .have hq:(e2 != 0)=true:=by rw[bne_iff_ne];exact h2
      have lp:(e2==0)=false:=by rw[beq_eq_false_iff_ne];exact h2
      rw[if_pos h2]at hv;have HV:=xh hv;clear hv;go_wp2_with fail;go_ret2;have h9:=HV.o;subst h9;exact⟨by first|rfl|simp,H3.o.le (by omega)⟩
    .rw[if_pos (λh=>hC h.2.2)]at xt;have dC:=decide_eq_false hC;have HV:=xh xt;clear xt hA hB hC;go_enter Tryz.func37,Tryz.ntmps37;go_wp2_with fail;refine KC.o.mono ?_;rintro e w1 ⟨rfl,H1⟩;have H1:=xh H1;go_wp2_with fail;refine(KM.o _ _ _).mono ?_;rintro e _ ⟨rfl,rfl⟩;rw[dA];go_wp2_with fail;refine(KM.o _ _ _).mono ?_;rintro e _ ⟨rfl,rfl⟩;rw[dB];go_wp2_with fail;refine(KM.o _ _ _).mono ?_;rintro e _ ⟨rfl,rfl⟩;rw[dC];go_wp2_with fail;go_ret2;have h9:=HV.o
     subst h9;exact⟨by first|rfl|simp,.self (H1.o.1.le (by omega)) H1.o.2⟩
   .rw[if_pos (λh=>hB h.2.1)]at xt;have dB:=decide_eq_false hB;have HV:=xh xt;clear xt hA hB;go_enter Tryz.func37,Tryz.ntmps37;go_wp2_with fail;refine KC.o.mono ?_;rintro e w1 ⟨rfl,H1⟩;have H1:=xh H1;go_wp2_with fail;refine(KM.o _ _ _).mono ?_;rintro e _ ⟨rfl,rfl⟩;rw[dA];go_wp2_with fail;refine(KM.o _ _ _).mono ?_;rintro e _ ⟨rfl,rfl⟩;rw[dB];go_wp2_with fail;go_ret2;have h9:=HV.o;subst h9;exact⟨by first|rfl|simp,.self (H1.o.1.le (by omega)) H1.o.2⟩
  .rw[if_pos (λh=>hA h.1)]at xt;have dA:=decide_eq_false hA;have HV:=xh xt;clear xt hA;go_enter Tryz.func37,Tryz.ntmps37;go_wp2_with fail;refine KC.o.mono ?_;rintro e w1 ⟨rfl,H1⟩;have H1:=xh H1;go_wp2_with fail;refine(KM.o _ _ _).mono ?_;rintro e _ ⟨rfl,rfl⟩;rw[dA];go_wp2_with fail;go_ret2;have h9:=HV.o;subst h9;exact⟨by first|rfl|simp,.self (H1.o.1.le (by omega)) H1.o.2⟩
 .have hq:(e1 != 0)=true:=by rw[bne_iff_ne];exact he
  have lp:(e1==0)=false:=by rw[beq_eq_false_iff_ne];exact he
  have xt:=ic.o;rw[if_pos he]at xt;have HV:=xh xt;clear xt;go_enter Tryz.func37,Tryz.ntmps37;go_wp2_with fail;refine KC.o.mono ?_;rintro e w1 ⟨rfl,H1⟩;have H1:=xh H1;go_wp2_with fail;go_ret2;have h9:=HV.o;subst h9;exact⟨by first|rfl|simp,.self (H1.o.1.le (by omega)) H1.o.2⟩
end Go.Proofs.YtmonobkginiajaaGreat.Sh
namespace Go.Proofs.YtmonobkginiajaaGreat.Sh
open Go.RowKit Pk Dk Pg
open Nd (E ai)
variable{v:Vw}{M:List MT}
def tU(l:List PR):Nat:=(l.map λx=>x.1.size+x.2.size+7).sum
theorem Jx(a b:List PR):tU (a++b)=tU a+tU b:=by simp[tU]
theorem Cr(T:Tree v 0 M)(hs:∀x∈mF M,x.2.size<=40):fI (λ_=>1) (aO v 0 0)=tU (mF M)-151:=by
 have h1:fN v 0 0=(gX v 0).2.1:=by unfold fN aO;simp
 have h2:ai (gX v 0).2.1=tU (mF M):=by
  rw[<-h1,<-T.en];unfold ai tU mF;rw[oT,oT]
  congr 1
  refine jz λm hm=>?_;have h40:m.2.1.size<=40:=hs (m.1.key,m.2.1) (eo.2 ⟨m,hm,rfl⟩);show m.1.key.size+m.1.val.size+7=m.1.key.size+m.2.1.size+7
  rcases T.va m hm with⟨_,h,_,_⟩|⟨_,_,_,_,_,h,_⟩
  .rw[h]
  .omega
 unfold aO;rw[jx,Ji,h2];show 1*_+0=_;omega
section
variable{o:Vw}{mm:Nat}
theorem zz{q:QS}{u:Nat}(R:Rd q v o u mm)(T:Tree v 0 M)(hs:∀x∈mF M,x.2.size<=40)(hb:tU (mF M)<=151)(key value:ByteArray)(hk:key.size<=32)(hv:value.size<=20)(hu:u+8<mm)(hu2:u+8<512):
  (q.fP key value).2=0/\∃v' M',Rd (q.fP key value).1 v' o (u+1) mm/\Tree v' 0 M'/\mF M'=Jv (mF M) key value:=by
 have hp:=Cr T hs
 rcases Fl R T (by omega) key value hk (by omega)with⟨a,v',u',b,c,d⟩|⟨a,v',H',M',new,A,C,B,h,c,b,S,hm⟩
 .omega
 .have p:=S.pot (λ_=>1) 34 wt1;rw[if_pos (by omega)]at p;have hh:H'=0:=by
   rcases S.h with e|⟨e,f⟩
   .exact e
   .have:=f (λ_=>1) 34 wt1;rw[if_pos (by omega)]at this;omega
  subst hh;rw[if_pos rfl]at p;have hn:=S.n;have hc:=S.c.2 (by omega);exact⟨a,v',M',b.le (by omega),S.t,hm⟩
end
def xv(n:Int):ByteArray:=⟨(cF n).toArray⟩
theorem mA(n:Int):(xv n).size=8:=by show(cF n).toArray.size=8;rw[iA];exact dv n
theorem Jy{n:Int}(h:kx n 0):xu (xv n,0)=(n,0):=by
 unfold xu;rw[if_neg (by simp),if_neg (by simp)];have:k7 (xv n).data.toList=k7 (cF n):=rfl;dsimp only;rw[this,pk n h.1 (by have:=h.2;omega)]
structure Cn(B:List PR)(k:ByteArray)(o:Vw)(q:QS)(n:Int)(u mm:Nat)(v:Vw)(M:List MT):Prop where
 r:Rd q v o u mm
 t:Tree v 0 M
 p:(mF M=B/\n=0)\/mF M=B++[(k,xv n)]
 b:∀x∈B,gY x.1 k/\x.2.size<=40
 s:tU B<=100
 n:kx n 0
section
variable{B:List PR}{name:ByteArray}{o:Vw}{q:QS}{n:Int}{u mm:Nat}{v:Vw}{M:List MT}
theorem Dl{B C:List PR}{k:ByteArray}(hb:∀x∈B,gY x.1 k)(hc:∀x∈C,x.1=k):Ju (B++C) k=B/\eqF (B++C) k=C/\zv (B++C) k=[]:=by
 unfold Ju eqF zv;simp only[List.filter_append];refine⟨?_,?_,?_⟩
 .rw[filter_all (l:=B) (λx hx=>decide_eq_true (hb x hx)),filter_none (l:=C) (λx hx=>decide_eq_false (λh=>nm h (hc x hx)))];simp
 .rw[filter_none (l:=B) (λx hx=>decide_eq_false (nm (hb x hx))),filter_all (l:=C) (λx hx=>decide_eq_true (hc x hx))];simp
 .rw[filter_none (l:=B) (λx hx=>decide_eq_false (λh=>rp (iw h (hb x hx)))),filter_none (l:=C) (λx hx=>decide_eq_false (λh=>nm h (hc x hx).symm))];simp
theorem Cn.parts(h:Cn B (eH name) o q n u mm v M):∃C,mF M=B++C/\(∀x∈C,x.1=eH name)/\(∀x∈C,x.2.size<=40)/\tU C<=name.size+17/\((C=[]/\n=0)\/C=[(eH name,xv n)]):=by
 have hz:(eH name).size=2+name.size:=qa 7 0 name
 rcases h.p with⟨h1,h2⟩|h1
 .exact⟨[],by simpa using h1,by simp,by simp,by simp[tU],.inl ⟨rfl,h2⟩⟩
 .refine⟨_,h1,by simp,λx hx=>?_,?_,.inr rfl⟩
  .rw[cg.1 hx];show(xv n).size<=40;rw[mA];omega
  .show(eH name).size+(xv n).size+7+0<=_;rw[mA,hz];omega
theorem Cn.get(h:Cn B (eH name) o q n u mm v M)(hu:u<mm):(q.cw name).2=(n,0)/\Cn B (eH name) o (q.cw name).1 n u mm v M/\((q.fQ (eH name)).2.2=0->(q.fQ (eH name)).2.1.size=8):=by
 obtain⟨C,c1,c2,c3,c4,c5⟩:=h.parts;obtain⟨g1,g2⟩:=nn h.r h.t (by omega) (eH name);rw[c1,(Dl (λx hx=>(h.b x hx).1) c2).2.1]at g2;refine⟨?_,⟨g1,h.t,h.p,h.b,h.s,h.n⟩,?_⟩
 .rcases g2 with⟨_,g2⟩|g2
  .omega
  .show xu (q.fQ (eH name)).2=_;rw[g2]
   rcases c5 with⟨c5,c6⟩|c5
   .rw[c5,c6];rfl
   .rw[c5];exact Jy h.n
 .rcases g2 with⟨_,g2⟩|g2
  .omega
  .rw[g2]
   rcases c5 with⟨c5,c6⟩|c5
   .rw[c5];intro h0;exact absurd h0 (by show ¬(9:Int)=0;decide)
   .rw[c5];intro _;exact mA n
theorem Cn.add(h:Cn B (eH name) o q n u mm v M)(hr:name.size<=30)(hu:u+8<mm)(hu2:u+8<512)(m:Int):
  if kx m (-1099511627776)/\kx (n+m) 0 then(q.oK name m).2=(n+m,0)/\∃v' M',Cn B (eH name) o (q.oK name m).1 (n+m) (u+1) mm v' M' else(q.oK name m).2=(0,3)/\Cn B (eH name) o (q.oK name m).1 n u mm v M:=by
 obtain⟨a,b,_⟩:=h.get (by omega);have hz:(eH name).size=2+name.size:=qa 7 0 name;unfold QS.oK;rw[a];dsimp only;rw[if_neg (show ¬((0:Int)≠0) by simp)]
 split
 .rename_i hm;rw[if_neg (λhn=>hn ⟨hm.1,h.n,hm.2⟩)];obtain⟨C,c1,c2,c3,c4,c5⟩:=b.parts;have hs:=mA (n+m);have hbs:=b.s;obtain⟨s1,v',M',s2,s3,s4⟩:=zz b.r b.t (λx hx=>by rw[c1]at hx;exact(aS.1 hx).elim (λh1=>(b.b x h1).2) (c3 x)) (by rw[c1,Jx];omega) (eH name) (xv (n+m)) (by omega) (by omega) hu hu2;rw[show(⟨(cF (n+m)).toArray⟩:ByteArray)=xv (n+m)from rfl,if_neg (by rw[s1];simp)];refine⟨rfl,v',M',s2,s3,.inr ?_,h.b,h.s,hm.2⟩
  obtain⟨l1,l2,l3⟩:=Dl (λx hx=>(h.b x hx).1) c2;rw[s4,c1];unfold Jv;rw[l1,l3]
 .rename_i hm;rw[if_pos (λhn=>hm ⟨hn.1,hn.2.2⟩)];exact⟨rfl,b⟩
end
end Go.Proofs.YtmonobkginiajaaGreat.Sh
