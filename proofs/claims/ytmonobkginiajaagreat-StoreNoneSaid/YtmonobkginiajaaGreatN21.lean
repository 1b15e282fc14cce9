/- packed. -/
import Derived.Test.YtmonobkginiajaaGreatN20
import Derived.Test.YtmonobkginiajaaGreatN19
import Derived.WalkMore
import Derived.Test.YtmonobkginiajaaGreatN2
import Derived.Test.YtmonobkginiajaaGreatN9
set_option linter.all false
set_option maxRecDepth 100000
set_option maxHeartbeats 8000000
namespace Go.Proofs.YtmonobkginiajaaGreat.Sh
open Go.RowKit Pk Dk Pg
open Nd (E)
variable{v v':Vw}{q:QS}{u:Nat}{L:List Int}{e:E}{val:ByteArray}
def rdC(v:Vw)(l:Int):Int×List UInt8×Int:=
 if(v l).2≠0 then(0,[],(v l).2)else if 228<bl (v l).1 2 then(0,[],14)else((bl (v l).1 0:Int)-1,((v l).1.drop 4).take (bl (v l).1 2),0)
def Fz(v:Vw):Int->List Int->List UInt8->Prop
 |p,[],b=>p= -1/\b=[]
 |p,q::L,b=>p=q/\∃nx pc b',rdC v q=(nx,pc,0)/\b=pc++b'/\Fz v nx L b'
theorem rdC_ok{q nx:Int}{pc:List UInt8}(h:rdC v q=(nx,pc,0)):(v q).2=0:=by
 unfold rdC at h
 by_cases h0:(v q).2=0
 .exact h0
 .rw[if_pos h0,Prod.mk.injEq,Prod.mk.injEq]at h;exact absurd h.2.2 h0
theorem FA{q:Int}(h:v' q=v q):rdC v' q=rdC v q:=by unfold rdC;rw[h]
theorem Fz.here :∀{L:List Int} {p:Int} {b:List UInt8},Fz v p L b->∀q∈L,(v q).2=0
 |[],_,_,_=>by simp
 |q::L,p,b,h=>by
  obtain⟨rfl,nx,pc,b',h1,h2,h3⟩:=h;intro x hx
  rcases aD.1 hx with rfl|hx
  .exact rdC_ok h1
  .exact h3.here x hx
theorem Fz.congr :∀{L:List Int} {p:Int} {b:List UInt8},Fz v p L b->(∀q∈L,v' q=v q)->Fz v' p L b
 |[],_,_,h,_=>h
 |q::L,p,b,h,e=>by
  obtain⟨rfl,nx,pc,b',h1,h2,h3⟩:=h;exact⟨rfl,nx,pc,b',by rw[FA (e p (gG ..))];exact h1,h2,h3.congr (λx hx=>e x (bY _ hx))⟩
section
variable{o:Vw}{mm:Nat}
theorem Fz.neg(R:Rd q v o u mm){p:Int}{b:List UInt8}(h:Fz v p L b):p<0↔L=[]:=by
 cases L with
 |nil=>obtain⟨rfl,rfl⟩:=h;exact⟨λ_=>rfl,λ_=>by omega⟩
 |cons q L=>
  have:=R.lt (h.here q (gG ..));obtain⟨rfl,_⟩:=h;exact⟨λh=>by omega,λh=>absurd h (by simp)⟩
theorem Rd.dI(R:Rd q v o u mm)(p:Int):Rd (q.dI p).1 v o u mm/\((q.dI p).2=rdC v p\/((q.dI p).2=(0,[],11)/\mm<=u)):=by
 obtain⟨a,b⟩:=R.get p;unfold QS.dI rdC
 rcases b with⟨b1,b2⟩|⟨b1,b2⟩|⟨b1,b2⟩
 .rw[b2,if_neg (show ¬((⟨(v p).1.toArray⟩:ByteArray),(0:Int)).2≠0 by simp),if_neg (show ¬(v p).2≠0 by omega)]
  by_cases hx:228<bl (v p).1 2
  .have hx2:228<bl (⟨(v p).1.toArray⟩:ByteArray).data.toList 2:=hx;rw[if_pos hx2,if_pos hx];exact⟨a,.inl rfl⟩
  .have hx2:¬228<bl (⟨(v p).1.toArray⟩:ByteArray).data.toList 2:=hx;rw[if_neg hx2,if_neg hx];exact⟨a,.inl rfl⟩
 .rw[b2,b1,if_pos (by simp),if_pos (by simp)];exact⟨a,.inl rfl⟩
 .rw[b1,if_pos (by simp)];exact⟨a,.inr ⟨rfl,b2⟩⟩
theorem ny:∀{L:List Int} {p:Int} {b:List UInt8} (m:Nat) (l:List Int) (acc:List UInt8) (q:QS) (v:Vw) (u:Nat),Rd q v o u mm->Fz v p L b->L≠[]->L.length<=m->(acc++b).length<=1024->
  Rd (q.ll m p l acc).1 v o u mm/\((q.ll m p l acc).2=(l++L,acc++b,0)\/((q.ll m p l acc).2=([],[],11)/\mm<=u))
 |[],_,_,_,_,_,_,_,_,_,_,h,_,_=>absurd rfl h
 |c::L,p,b,0,_,_,_,_,_,_,_,_,h,_=>by simp at h
 |c::L,p,b,m+1,l,acc,q,v,u,R,h,_,hm,hb=>by
  obtain⟨rfl,nx,pc,b',h1,rfl,h3⟩:=h;obtain⟨r1,r2⟩:=R.dI p;unfold QS.ll
  rcases r2 with r2|⟨r2,r3⟩
  .rw[h1]at r2;rw[r2];dsimp only;rw[if_neg (by omega),if_neg (by omega),if_neg (by simp at hb ⊢;omega)];have hneg:=h3.neg R
   by_cases hn:nx<0
   .have hL:=hneg.1 hn;subst hL;obtain⟨_,rfl⟩:=h3;rw[if_pos hn,jx];exact⟨r1,.inl rfl⟩
   .have hL:L≠[]:=λe=>hn (hneg.2 e);rw[if_neg hn];obtain⟨i1,i2⟩:=ny m (l++[p]) (acc++pc) (q.dI p).1 v u r1 h3 hL (by simpa using hm) (by simpa [cN]using hb);refine⟨i1,i2.imp (λe=>?_) id⟩;rw[e];simp
  .rw[r2];dsimp only;rw[if_neg (by omega),if_pos (by omega)];exact⟨r1,.inr ⟨rfl,r3⟩⟩
def qP(v:Vw)(L:List Int):Vw:=λj=>if j∈L then([],3)else v j
theorem tR(v:Vw):qP v []=v:=by funext j;simp[qP]
theorem tT:∀(L:List Int) (q:QS) (v:Vw) (u:Nat),Rd q v o u mm->L.Nodup->(∀j∈L,(v j).2=0)->(q.oh L).2=0/\Rd (q.oh L).1 (qP v L) o u mm
 |[],q,v,u,R,_,_=>by rw[tR];exact⟨rfl,R⟩
 |p::L,q,v,u,R,hn,hh=>by
  rw[kF]at hn;obtain⟨a,b⟩:=R.drop p (hh p (by simp));unfold QS.oh;rw[if_neg (by rw[a];simp)];obtain⟨c,d⟩:=tT L (q.aJ p).1 _ u b hn.2 (λj hj=>by
   have eG:j≠p:=λe=>hn.1 (by rw[<-e];exact hj);rw[del1_ne v eG];exact hh j (by simp[hj]))
  refine⟨c,?_⟩;have e:qP (Js v p) L=qP v (p::L):=by
   funext j
   unfold qP Js
   by_cases h1:j∈L
   .rw[if_pos h1,if_pos (by simp[h1])]
   .rw[if_neg h1]
    by_cases h2:j=p
    .rw[if_pos h2,if_pos (by simp[h2])]
    .rw[if_neg h2,if_neg (by simp[h1,h2])]
  rw[<-e];exact d
theorem Rd.dropAny(R:Rd q v o u mm)(p:Int):∃v',Rd (q.aJ p).1 v' o u mm:=by
 rcases R.err p with h|h
 .exact⟨_,(R.drop p h).2⟩
 .obtain⟨n,K,w⟩:=R.w;obtain⟨a,c⟩:=w.drop p
  rcases c with⟨c1,c2,c3⟩|⟨c1,c2,c3⟩
  .rw[R.v,h]at c1;exact absurd c1 (by decide)
  .exact⟨v,R.step (zj q p) ⟨n,_,a.w⟩ (λj=>(c3 j).trans (R.v j))⟩
theorem qG:∀(L:List Int) (q:QS) (v:Vw) (u:Nat),Rd q v o u mm->∃v',Rd (q.jT L) v' o u mm
 |[],q,v,u,R=>⟨v,R⟩
 |p::L,q,v,u,R=>by
  obtain⟨v1,R1⟩:=R.dropAny p;rw[QS.om];exact qG L _ _ _ R1
theorem link_rd(next:Nat)(v:List UInt8)(i:Nat)(hn:next<60000):(gR v i ((next:Int)-1)).length<=232/\bl (dh (gR v i ((next:Int)-1)) 232) 0=next/\bl (dh (gR v i ((next:Int)-1)) 232) 2=(cJ v i).length/\((dh (gR v i ((next:Int)-1)) 232).drop 4).take (cJ v i).length=cJ v i:=by
 have hp:(cJ v i).length<=228:=by unfold cJ;rw[cE];omega
 unfold gR dh;rw[show((next:Int)-1+1).toNat=next by omega];generalize cJ v i=pc at *;unfold lI bl;refine⟨by simp;omega,?_,?_,?_⟩
 .simp;omega
 .simp;omega
 .simp
theorem FC(v:List UInt8)(i:Nat):(cJ v i).length<=228:=by unfold cJ;rw[cE];omega
theorem CB(v:List UInt8)(i:Nat):v.drop (228*i)=cJ v i++v.drop (228*(i+1)):=by
 unfold cJ;rw[show 228*(i+1)=228*i+228 by omega,<-fY,jM]
theorem vH(val:List UInt8):∀(i:Nat) (q:QS) (v:Vw) (u:Nat) (next:Int) (made:List Int) (L:List Int),Rd q v o u mm->Fz v next L (val.drop (228*i))-> -1<=next->next<=511->
  ((QS.nf val i q next made).2.2=11/\∃v' u',Rd (QS.nf val i q next made).1 v' o u' mm/\u'<=u+i/\(mm<=u'\/512<=u'))\/
  ((QS.nf val i q next made).2.2=0/\ -1<=(QS.nf val i q next made).2.1/\(QS.nf val i q next made).2.1<=511/\∃v' new,Rd (QS.nf val i q next made).1 v' o (u+new.length) mm/\Fz v' (QS.nf val i q next made).2.1 (new++L) val/\new.length=i/\(∀j∈new,v j=([],3))/\new.Nodup/\∀j,j∉new->v' j=v j)
 |0,q,v,u,next,made,L,R,hc,h1,h2=>by
  right;exact⟨rfl,h1,h2,v,[],R,hc,rfl,by simp,lW,λ_ _=>rfl⟩
 |i+1,q,v,u,next,made,L,R,hc,h1,h2=>by
  obtain⟨nx,rfl⟩:∃nx:Nat,next=(nx:Int)-1:=⟨(next+1).toNat,by omega⟩;obtain⟨k1,k2,k3,k4⟩:=link_rd nx val i (by omega);unfold QS.nf;have hn:=R.new ⟨(gR val i ((nx:Int)-1)).toArray⟩ (by show(gR val i _).toArray.size<=232;rw[iz];exact k1);have hd:(⟨(gR val i ((nx:Int)-1)).toArray⟩:ByteArray).data.toList=gR val i ((nx:Int)-1):=rfl;rw[hd]at hn
  rcases hn with⟨k,a1,a2,a3,a4⟩|⟨a1,a2,a3⟩
  .rw[if_neg (by rw[a1];simp),show(q.bh (gR val i ((nx:Int)-1))).2.1=((k:Nat):Int)from by rw[a1]];have hch:Fz (jg v (k:Nat) (dh (gR val i ((nx:Int)-1)) 232)) (k:Nat) ((k:Nat)::L) (val.drop (228*i)):=by
    refine⟨rfl,(nx:Int)-1,cJ val i,val.drop (228*(i+1)),?_,CB val i,hc.congr (λx hx=>?_)⟩
    .unfold rdC;have FN:=FC val i;rw[vD,if_neg (by simp)];dsimp only;rw[k3,if_neg (by omega),k2,k4]
    .have Bd:=hc.here x hx;have eG:x≠((k:Nat):Int):=λe=>by rw[e,a3]at Bd;exact absurd Bd (by decide)
     exact jh v _ eG
   rcases vH val i _ _ (u+1) ((k:Nat):Int) (made++[((k:Nat):Int)]) ((k:Nat)::L) a4 hch (by omega) (by omega)with⟨b1,v',u',b2,b3,b4⟩|⟨b1,b2,b3,v',new,b4,b5,b6,b7,b8,b9⟩
   .exact .inl ⟨b1,v',u',b2,by omega,b4⟩
   .refine .inr ⟨b1,b2,b3,v',new++[((k:Nat):Int)],by rw[aU,lz,show u+(new.length+1)=u+1+new.length by omega];exact b4,by rw[cN];exact b5,by simp[b6],λj hj=>?_,?_,λj hj=>?_⟩
    .rcases aS.1 hj with hj|hj
     .have h3:=b7 j hj
      by_cases e:j=((k:Nat):Int)
      .rw[e];exact a3
      .rw[jh v _ e]at h3;exact h3
     .rw[cg.1 hj];exact a3
    .rw[fT];refine⟨b8,by simp,λx hx y hy e=>?_⟩;rw[cg.1 hy]at e;have h3:=b7 x hx;rw[e,vD]at h3;exact absurd (congrArg Prod.snd h3) (by show ¬(0:Int)=3;decide)
    .rw[aS,not_or]at hj;rw[b9 j hj.1,jh v _ (λe=>hj.2 (by simp[e]))]
  .rw[if_pos (by rw[a1];simp)];left;obtain⟨v1,R1⟩:=qG made _ _ _ a2;exact⟨by show(q.bh _).2.2=11;rw[a1],v1,u+1,R1,by omega,a3.imp (λh=>by omega) (λh=>by omega)⟩
def JL(v:Vw)(e:E)(val:ByteArray)(L:List Int):Prop:=
 (e.aY= -1/\e.val=val/\L=[]/\val.size<=40)\/(0<=e.aY/\e.aY<=511/\e.val.size=0/\L≠[]/\L.length=(eY val.size).toNat/\40<val.size/\val.size<=1024/\Fz v e.aY L val.data.toList/\L.Nodup)
theorem ru{n:Nat}(h:n<=1024):1<=(eY n).toNat/\(eY n).toNat<=5/\n<=228*(eY n).toNat:=by
 unfold eY;omega
theorem JL.congr(h:JL v e val L)(hv:∀j∈L,v' j=v j):JL v' e val L:=by
 rcases h with h|⟨a,b,z,c,d,f,g,i,j⟩
 .exact .inl h
 .exact .inr ⟨a,b,z,c,d,f,g,i.congr hv,j⟩
theorem JL.here(h:JL v e val L):∀j∈L,(v j).2=0:=by
 rcases h with⟨_,_,h,_⟩|⟨a,b,z,c,d,f,g,i,j⟩
 .rw[h];simp
 .exact i.here
theorem JL.nodup(h:JL v e val L):L.Nodup:=by
 rcases h with⟨_,_,h,_⟩|⟨a,b,z,c,d,f,g,i,j⟩
 .rw[h];exact lW
 .exact j
theorem CC(R:Rd q v o u mm)(h:JL v e val L):
  Rd (q.j8 e).1 v o u mm/\((q.j8 e).2=(val,0)\/((q.j8 e).2.2=11/\mm<=u)):=by
 unfold QS.j8
 rcases h with⟨a,b,c,d⟩|⟨a,b,z,c,d,f,g,i,j⟩
 .rw[if_pos (by omega)];exact⟨R,.inl (by rw[b])⟩
 .rw[if_neg (by omega)];have hn:=ru g;have hs:val.data.toList.length=val.size:=by simp
  obtain⟨w1,w2⟩:=ny 5 [] [] q v u R i c (by omega) (by rw[eA,hs];exact g);refine⟨w1,?_⟩;unfold QS.cZ
  rcases w2 with w2|⟨w2,w3⟩
  .left;rw[w2];rfl
  .right;rw[w2];exact⟨rfl,w3⟩
theorem FD(R:Rd q v o u mm)(h:JL v e val L):
  ((q.mQ e).2=0/\Rd (q.mQ e).1 (qP v L) o u mm)\/((q.mQ e).2=11/\Rd (q.mQ e).1 v o u mm/\mm<=u):=by
 unfold QS.mQ
 rcases h with⟨a,b,c,d⟩|⟨a,b,z,c,d,f,g,i,j⟩
 .rw[if_pos (by omega),c,tR];exact .inl ⟨rfl,R⟩
 .rw[if_neg (by omega)];have hn:=ru g;have hs:val.data.toList.length=val.size:=by simp
  obtain⟨w1,w2⟩:=ny 5 [] [] q v u R i c (by omega) (by rw[eA,hs];exact g);unfold QS.lJ;have w1:Rd (q.cZ e.aY).1 v o u mm:=w1
  rcases w2 with w2|⟨w2,w3⟩
  .have w2:(q.cZ e.aY).2=([]++L,[]++val.data.toList,0):=w2;rw[w2,if_neg (by simp)];obtain⟨d1,d2⟩:=tT L (q.cZ e.aY).1 v u w1 j i.here;left;refine⟨?_,d2⟩;show qN ((q.cZ e.aY).1.oh L).2=0;rw[d1];decide
  .have w2:(q.cZ e.aY).2=([],[],11):=w2;rw[w2,if_pos (by simp)];exact .inr ⟨(by decide:qN 11=11),w1,w3⟩
theorem FE(R:Rd q v o u mm)(key val:ByteArray)(hv:val.size<=1024):
  ((q.fL key val).2.2=11/\∃v' u',Rd (q.fL key val).1 v' o u' mm/\u'<=u+5/\(mm<=u'\/512<=u'))\/
  ((q.fL key val).2.2=0/\∃v' L,Rd (q.fL key val).1 v' o (u+L.length) mm/\JL v' (q.fL key val).2.1 val L/\(q.fL key val).2.1.key=key/\(∀j∈L,v j=([],3))/\∀j,j∉L->v' j=v j):=by
 unfold QS.fL
 by_cases h:val.size<=40
 .rw[if_pos h];exact .inr ⟨rfl,v,[],R,.inl ⟨rfl,rfl,rfl,h⟩,rfl,by simp,λ_ _=>rfl⟩
 .rw[if_neg h];have hn:=ru hv;have hs:val.data.toList.length=val.size:=by simp
  have he:q.lK val.data.toList=QS.nf val.data.toList (eY val.size).toNat q (-1) []:=by
   unfold QS.lK;rw[if_neg (by omega),hs]
  rw[he]
  rcases vH val.data.toList (eY val.size).toNat q v u (-1) [] [] R ⟨rfl,jY (by omega)⟩ (by omega) (by omega)with⟨a1,v',u',a2,a3,a4⟩|⟨a1,a2,a3,v',new,a4,a5,a6,a7,a8,a9⟩
  .exact .inl ⟨a1,v',u',a2,by omega,a4⟩
  .rw[jx]at a5;have eG:new≠[]:=λe=>by rw[e]at a6;simp at a6;omega
   have hp:¬(QS.nf val.data.toList (eY val.size).toNat q (-1) []).2.1<0:=λh=>eG ((a5.neg a4).1 h);exact .inr ⟨a1,v',new,a4,.inr ⟨Int.not_lt.1 hp,a3,rfl,eG,a6,by omega,hv,a5,a8⟩,rfl,a7,a9⟩
end
end Go.Proofs.YtmonobkginiajaaGreat.Sh
namespace Go.Proofs.YtmonobkginiajaaGreat.Sh
open Go.RowKit Pk Dk Pg
open Nd (E aF aK cu bm aM bG bg ai cn)
variable{v:Vw}{H:Nat}{key:ByteArray}{up:List Step}{x:Step}
abbrev MT:=E×ByteArray×List Int
def nE(M:List MT):List Int:=M.flatMap λm=>m.2.2
def mI(M:List MT):List (ByteArray×ByteArray):=M.map λm=>(m.1.key,m.2.1)
@[simp] theorem fX(a b:List MT):nE (a++b)=nE a++nE b:=by simp[nE]
@[simp] theorem Dx:nE []=[]:=rfl
@[simp] theorem tU(m:MT)(b:List MT):nE (m::b)=m.2.2++nE b:=rfl
@[simp] theorem prs_app(a b:List MT):mI (a++b)=mI a++mI b:=by simp[mI]
@[simp] theorem prs_nil:mI []=[]:=rfl
@[simp] theorem JM(m:MT)(b:List MT):mI (m::b)=(m.1.key,m.2.1)::mI b:=rfl
structure Tree(v:Vw)(H:Nat)(M:List MT):Prop where
 ok:kA v H 0
 en:M.map (λm=>m.1)=fM v H 0
 va:∀m∈M,JL v m.1 m.2.1 m.2.2
 nod:(bD (aO v H 0)++nE M).Nodup
 all:∀j,(v j).2=0->j∈bD (aO v H 0)++nE M
structure JN(l:List (ByteArray×ByteArray))(key:ByteArray)(A C B:List (ByteArray×ByteArray)):Prop where
 e:l=A++(C++B)
 a:∀x∈A,gY x.1 key
 b:∀x∈B,gY key x.1
 c:C=[]\/∃y,C=[(key,y)]
structure Dec(v:Vw)(key:ByteArray)(up:List Step)(x:Step)(M M1 MC M2:List MT)(a b:List E):Prop where
 n:aM x.l key=a.length
 l:x.l=a++(MC.map (λm=>m.1)++b)
 m:M=M1++(MC++M2)
 m1:M1.map (λm=>m.1)=bU (eS v up 0)++a
 m2:M2.map (λm=>m.1)=b++bU (df v up 0)
 k1:∀m∈M1,gY m.1.key key
 k2:∀m∈M2,gY key m.1.key
 c:(MC=[]/\bG x.l key=false)\/∃m,MC=[m]/\m.1.key=key/\bG x.l key=true
theorem zA{M:List MT}(T:Tree v H M)(W:WayV v key up x)(hl:up.length=H):∃M1 MC M2 a b,Dec v key up x M M1 MC M2 a b:=by
 obtain⟨p1,p2,p3,p4,p5⟩:=zq W;rw[hl]at p5;have oI:=T.en;rw[p5]at oI;obtain⟨a,b,h1,h2,h3,h4⟩:=tQ (xu W.nd) key;have main:∀(c b':List E),b=c++b'->(∀e∈b',gY key e.key)->∃M1 MC M2,M=M1++(MC++M2)/\M1.map (λm=>m.1)=bU (eS v up 0)++a/\MC.map (λm=>m.1)=c/\M2.map (λm=>m.1)=b'++bU (df v up 0)/\(∀m∈M1,gY m.1.key key)/\(∀m∈M2,gY key m.1.key):=λc b' hb hb'=>by
  have Cp:M.map (λm=>m.1)=(bU (eS v up 0)++a)++(c++(b'++bU (df v up 0))):=by rw[oI,h1,hb];simp
  obtain⟨M1,MR,e1,e2,e3⟩:=List.map_eq_append_iff.1 Cp;obtain⟨MC,M2,e4,e5,e6⟩:=List.map_eq_append_iff.1 e3;refine⟨M1,MC,M2,by rw[e1,e4],e2,e5,e6,λm hm=>?_,λm hm=>?_⟩
  .have:m.1∈bU (eS v up 0)++a:=by rw[<-e2];exact eo.2 ⟨m,hm,rfl⟩
   rcases aS.1 this with h|h
   .exact p3 _ h
   .exact h3 _ h
  .have:m.1∈b'++bU (df v up 0):=by rw[<-e6];exact eo.2 ⟨m,hm,rfl⟩
   rcases aS.1 this with h|h
   .exact hb' _ h
   .exact p4 _ h
 rcases h4 with⟨h4,c,b',hb,hc,hb'⟩|⟨h4,hb⟩
 .obtain⟨M1,MC,M2,e1,e2,e3,e4,e5,e6⟩:=main [c] b' (by rw[hb];rfl) hb';have hMC:∃m,MC=[m]/\m.1=c:=by
   match MC,e3 with
   |[m],e3=>exact⟨m,rfl,by simpa using e3⟩
   |[],e3=>exact absurd e3 (by simp)
   |_::_::_,e3=>exact absurd e3 (by simp)
  obtain⟨m,rfl,rfl⟩:=hMC;exact⟨M1,[m],M2,a,b',h2,by rw[h1,hb];simp,e1,e2,e4,e5,e6,.inr ⟨m,rfl,hc,h4⟩⟩
 .obtain⟨M1,MC,M2,e1,e2,e3,e4,e5,e6⟩:=main [] b rfl hb;have hMC:MC=[]:=List.map_eq_nil_iff.1 e3;subst hMC;exact⟨M1,[],M2,a,b,h2,by rw[h1];simp,e1,e2,e4,e5,e6,.inl ⟨rfl,h4⟩⟩
theorem Dec.pairs{M M1 MC M2:List MT}{a b:List E}(d:Dec v key up x M M1 MC M2 a b):JN (mI M) key (mI M1) (mI MC) (mI M2):=by
 refine⟨by rw[d.m];simp,λy hy=>?_,λy hy=>?_,?_⟩
 .obtain⟨m,hm,rfl⟩:=eo.1 hy;exact d.k1 m hm
 .obtain⟨m,hm,rfl⟩:=eo.1 hy;exact d.k2 m hm
 .rcases d.c with⟨h,_⟩|⟨m,h,hk,_⟩
  .rw[h];exact .inl rfl
  .rw[h];exact .inr ⟨m.2.1,by rw[<-hk];rfl⟩
section
variable{o:Vw}{mm:Nat}
def mgetF(C:List (ByteArray×ByteArray)):ByteArray×Int:=match C with
 |[]=>(⟨#[]⟩,9)
 |x::_=>(x.2,0)
theorem zB(up:List Step)(x:Step):jH (up.reverse++[x])=x:=by unfold jH;simp
theorem JO{q:QS}{u:Nat}{M:List MT}(R:Rd q v o u mm)(T:Tree v H M)(hH:H<=15)(key:ByteArray):
  Rd (q.fP key).1 v o u mm/\(((q.fP key).2.2=11/\mm<=u)\/∃A C B,JN (mI M) key A C B/\(q.fP key).2=mgetF C):=by
 obtain⟨r1,r2⟩:=Dv R T.ok hH key;unfold QS.fP
 rcases r2 with⟨r2,r3⟩|⟨r2,up,x,r3,r4,W⟩
 .rw[if_pos (by rw[r2];simp)];exact⟨r1,.inl ⟨r2,r3⟩⟩
 .rw[if_neg (by rw[r2];simp),r3,zB];obtain⟨M1,MC,M2,a,b,d⟩:=zA T W r4;have hp:=d.pairs
  rcases d.c with⟨h1,h2⟩|⟨m,h1,hk,h2⟩
  .rw[if_neg (by rw[h2];simp)];refine⟨r1,.inr ⟨_,_,_,hp,?_⟩⟩;rw[h1];rfl
  .rw[if_pos h2];have hx:x.l.getD (aM x.l key) Nd.E.zero=m.1:=by rw[d.n,d.l,h1];simp[ig]
   rw[hx];obtain⟨g1,g2⟩:=CC r1 (T.va m (by rw[d.m,h1];simp));refine⟨g1,g2.symm.imp id (λg2=>⟨_,_,_,hp,?_⟩)⟩;rw[g2,h1];rfl
end
variable{M:List MT}{v:Vw}{H:Nat}
theorem FF(a:List E)(n:E)(b:List E):(a++b).insertIdx a.length n=a++n::b:=by
 induction a with
 |nil=>rfl
 |cons x a ih=>rw[mR,ik,Ai,ih];rfl
theorem fI{α:Type}{a b:List α}:(a++b).Nodup↔a.Nodup/\b.Nodup/\∀x∈a,x∉b:=by
 rw[fT];exact⟨λ⟨h1,h2,h3⟩=>⟨h1,h2,λx hx hb=>h3 x hx x hb rfl⟩,λ⟨h1,h2,h3⟩=>⟨h1,h2,λx hx y hy e=>h3 x hx (by rw[e];exact hy)⟩⟩
theorem xx{j:Int}:j∈nE M↔ ∃m∈M,j∈m.2.2:=mW
theorem Tree.JP(T:Tree v H M):∀j∈nE M,(v j).2=0:=λj hj=>by
 obtain⟨m,hm,hj⟩:=xx.1 hj;exact(T.va m hm).here j hj
theorem Tree.Dy(T:Tree v H M):∀j∈bD (aO v H 0),(v j).2=0:=xv H 0 T.ok
structure SetP(v v':Vw)(H:Nat)(M:List MT)(key value:ByteArray)(H':Nat)(M':List MT)(new:Nat)(A C B:List (ByteArray×ByteArray))(h c:Nat):Prop where
 t:Tree v' H' M'
 d:JN (mI M) key A C B
 m:mI M'=A++(key,value)::B
 n:new=c+h
 c:c<=5/\(value.size<=40->c=0)
 pot:∀wt c,Fv wt c->fH wt (aO v' H' 0)+c*h<=fH wt (aO v H 0)+wt 0*(key.size+(if value.size<=40 then value.size else 0)+7)+(if H'=H then 0 else c)
 h:H'=H\/(H'=H+1/\∀wt c,Fv wt c->73*wt H<=fH wt (aO v H 0)+wt 0*(key.size+(if value.size<=40 then value.size else 0)+7))
section
variable{o:Vw}{mm:Nat}
theorem JQ{q:QS}{u:Nat}(R:Rd q v o u mm)(T:Tree v H M)(hH:H<=15)(key value:ByteArray)(hk:key.size<=32)(hv:value.size<=1024):
  ((q.fO key value).2=11/\∃v' u',Rd (q.fO key value).1 v' o u' mm/\u'<=u+H+8/\(mm<=u'\/512<=u'))\/
  ((q.fO key value).2=0/\∃v' H' M' new A C B h c,Rd (q.fO key value).1 v' o (u+new) mm/\SetP v v' H M key value H' M' new A C B h c):=by
 obtain⟨r1,r2⟩:=Dv R T.ok hH key;unfold QS.fO;rw[if_neg (by omega)]
 rcases r2 with⟨r2,r3⟩|⟨r2,up,x,r3,r4,W⟩
 .rw[if_pos (by rw[r2];simp)];exact .inl ⟨r2,v,u,r1,by omega,.inl r3⟩
 rw[if_neg (by rw[r2];simp),r3,zB,show(up.reverse++[x]).dropLast.reverse=up by simp];obtain⟨p1,p2,p3,p4,p5⟩:=zq W;rw[r4]at p1 p2 p5;obtain⟨M1,MC,M2,a,b,d⟩:=zA T W r4;have zC:bD (aO v H 0)=bD (eS v up 0)++x.an::bD (df v up 0):=by rw[p2,de,eW]
 have hTn:=fI.1 T.nod;have haw:vC x.l key=a++b:=by
  unfold vC
  rcases d.c with⟨h1,h2⟩|⟨m,h1,hkk,h2⟩
  .rw[if_neg (by rw[h2];simp),d.l,h1];rfl
  .rw[if_pos h2,d.n,d.l,h1];exact Fw a m.1 b
 have hdnod:(nE MC).Nodup:=by
  have:=hTn.2.1;rw[d.m,fX,fX]at this;exact(fI.1 (fI.1 this).2.1).1
 have yB:(((q.eO key).1.oH x.l key).2=0/\Rd ((q.eO key).1.oH x.l key).1 (qP v (nE MC)) o u mm)\/(((q.eO key).1.oH x.l key).2=11/\Rd ((q.eO key).1.oH x.l key).1 v o u mm/\mm<=u):=by
  unfold QS.oH
  rcases d.c with⟨h1,h2⟩|⟨m,h1,hkk,h2⟩
  .rw[if_neg (by rw[h2];simp),h1,Dx,tR];exact .inl ⟨rfl,r1⟩
  .rw[if_pos h2];have hx:x.l.getD (aM x.l key) Nd.E.zero=m.1:=by rw[d.n,d.l,h1];simp[ig]
   rw[hx,h1,tU,Dx,jx];exact FD r1 (T.va m (by rw[d.m,h1];simp))
 rw[haw,d.n]
 rcases yB.symm with⟨o1,o2,o3⟩|⟨o1,o2⟩
 .rw[if_pos (by rw[o1];simp)];exact .inl ⟨o1,v,u,o2,by omega,.inl o3⟩
 rw[if_neg (by rw[o1];simp)];unfold QS.Jj
 rcases FE o2 key value hv with⟨s1,v',u',s2,s3,s4⟩|⟨s1,v2,L,s2,s3,s4,s5,s6⟩
 .rw[if_pos (by rw[s1];simp)];exact .inl ⟨s1,v',u',s2,by omega,s4⟩
 rw[if_neg (by rw[s1];simp)];obtain⟨n,hn⟩:∃n,(((q.eO key).1.oH x.l key).1.fL key value).2.1=n:=⟨_,rfl⟩;rw[hn]at s3 s4 ⊢;have hLl:L.length<=5/\(value.size<=40->L.length=0):=by
  rcases s3 with⟨_,_,h,_⟩|⟨_,_,_,_,h,h40,h2,_⟩
  .rw[h];simp
  .have:=ru h2;exact⟨by omega,λh=>by omega⟩
 have nU:∀j,(v j).2=0->j∉nE MC->v2 j=v j:=λj hj hm=>by
  have h1:qP v (nE MC) j=v j:=by unfold qP;rw[if_neg hm]
  rw[s6 j (λhL=>?_),h1];have:=s5 j hL;rw[h1]at this;rw[this]at hj;exact absurd hj (by decide)
 have hMCin:∀j∈nE MC,j∈nE M:=λj hj=>by rw[d.m,fX,fX];simp[hj]
 have hnd2:∀j∈bD (aO v H 0),v2 j=v j:=λj hj=>nU j (T.Dy j hj) (λhm=>hTn.2.2 j hj (hMCin j hm));obtain⟨c1,c2,c3⟩:=ix (v':=v2) up 0 x.an W.hole (λj hj=>hnd2 j (by rw[zC];simp[hj])) (λj hj=>hnd2 j (by rw[zC];simp[hj]));have yd:∀e∈a++b,e∈x.l:=λe he=>by rw[d.l];rcases aS.1 he with h|h<;>simp[h]
 have zD:=mC (oL (v:=v) (p:=x.an) (by rw[W.nd]));rw[W.nd]at zD;have zD:∀e∈x.l,cn e true:=zD;have hbx:ai x.l<=223:=by have:=W.ok.2;rw[W.nd]at this;exact this
 have hbab:ai (a++b)<=ai x.l:=by rw[d.l,gy,gy,gy];omega
 have hrn:cn n true/\n.val.size=(if value.size<=40 then value.size else 0):=by
  rcases s3 with⟨h1,h2,_,h4⟩|⟨h1,h2,h3,h4,h5,h40,h6,_⟩
  .refine⟨⟨by rw[s4];exact hk,by rw[h2];exact h4,by rw[h1];decide,by rw[h1];decide,.inl (by rw[h1];decide)⟩,by rw[if_pos h4,h2]⟩
  .exact⟨⟨by rw[s4];exact hk,by rw[h3];decide,by rw[if_pos rfl];omega,by omega,.inr h3⟩,by rw[if_neg (by omega),h3]⟩
 obtain⟨hrn,hvn⟩:=hrn;have hcn:n.key.size+n.val.size+7=key.size+(if value.size<=40 then value.size else 0)+7:=by rw[s4,hvn]
 have hcn79:n.key.size+n.val.size+7<=79:=by have h1:=hrn.1;have h2:=hrn.2.1;omega
 have hbn:ai (a++n::b)=ai (a++b)+(n.key.size+n.val.size+7):=by rw[gy,gy,ez];omega
 have hins:(a++b).insertIdx a.length n=a++n::b:=FF a n b;rw[hins];have hla:∀e∈a,gY e.key key:=λe he=>by
  have:e∈M1.map (λm=>m.1):=by rw[d.m1];exact bV _ he
  obtain⟨m,hm,rfl⟩:=eo.1 this;exact d.k1 m hm
 have hlb:∀e∈b,gY key e.key:=λe he=>by
  have:e∈M2.map (λm=>m.1):=by rw[d.m2];exact bX _ he
  obtain⟨m,hm,rfl⟩:=eo.1 this;exact d.k2 m hm
 have hpw:=xu W.nd;rw[d.l,da,da]at hpw;have P:uu v2 0 ⟨x.an,x.leaf,a++n::b,x.at_⟩ up:=by
  refine⟨c1,W.leaf,?_,⟨λe he=>?_,?_⟩,by simp,?_,λe he=>?_,?_,?_⟩
  .show(v2 x.an).2=0;have qK:x.an∈bD (aO v H 0):=by rw[zC];simp
   rw[hnd2 _ qK];exact T.Dy _ qK
  .show cn e true
   rcases aS.1 he with he|he
   .exact zD e (yd e (bX _ he))
   .rcases aD.1 he with rfl|he
    .exact hrn
    .exact zD e (yd e (bV _ he))
  .show(a++n::b).Pairwise λc e=>gY c.key e.key;rw[da,du];refine⟨hpw.1,⟨λe he=>by rw[s4];exact hlb e he,hpw.2.1.2.1⟩,λe he e' sV=>?_⟩
   rcases aD.1 sV with rfl|sV
   .rw[s4];exact hla e he
   .exact hpw.2.2 e he e' (bV _ sV)
  .show blank x.leaf _=_;rw[W.leaf];exact iw _
  .have he:e∈a++n::b:=he
   rcases aS.1 he with he|he
   .exact W.inh e (yd e (bX _ he))
   .rcases aD.1 he with rfl|he
    .rw[s4];exact W.key
    .exact W.inh e (yd e (bV _ he))
  .show(bD (eS v2 up 0)++x.an::([]++bD (df v2 up 0))).Nodup;rw[c2,c3,eA,<-zC];exact hTn.1
  .show ai (a++n::b)<=302;omega
 have hpn:dR v2 0 ⟨x.an,x.leaf,a++n::b,x.at_⟩ up=eS v up 0++(0,x.an,a++n::b)::df v up 0:=by
  unfold dR;rw[c2,c3];rfl
 have hpp:bD (dR v2 0 ⟨x.an,x.leaf,a++n::b,x.at_⟩ up)=bD (aO v H 0):=by rw[hpn,zC,de,eW]
 have JK:∀wt:Nat->Nat,fH wt (dR v2 0 ⟨x.an,x.leaf,a++n::b,x.at_⟩ up)<=fH wt (aO v H 0)+wt 0*(n.key.size+n.val.size+7):=λwt=>by
  rw[hpn,p2];simp only[lV,jw];have:wt 0*(ai (a++n::b)-151)<=wt 0*(ai x.l-151)+wt 0*(n.key.size+n.val.size+7):=by
   rw[<-l6];exact nN _ (by omega)
  omega
 rcases qF (up.length+1) up 0 ⟨x.an,x.leaf,a++n::b,x.at_⟩ _ v2 (u+L.length) (by omega) P s2 with⟨t1,v',u',t2,t3,t4⟩|⟨t1,v3,new,H',t2,G⟩
 .exact .inl ⟨t1,v',u',t2,by omega,t4⟩
 refine .inr ⟨t1,v3,H',M1++(n,value,L)::M2,L.length+new.length,mI M1,mI MC,mI M2,new.length,L.length,by rw[<-Nat.add_assoc];exact t2,?_⟩;have hMn:=hTn.2.1;rw[d.m,fX,fX]at hMn;have hMn1:=fI.1 hMn;have hMn2:=fI.1 hMn1.2.1;have JR:∀j,j∈nE M1\/j∈nE M2->j∈nE M/\j∉nE MC:=λj hj=>by
  refine⟨by rw[d.m,fX,fX];rcases hj with h|h<;>simp[h],λhc=>?_⟩
  rcases hj with h|h
  .exact hMn1.2.2 j h (bX _ hc)
  .exact hMn2.2.2 j hc h
 have hLv:∀j,(v j).2=0->j∉nE MC->j∉L:=λj hj hm hL=>by
  have:=s5 j hL;unfold qP at this;rw[if_neg hm]at this;rw[this]at hj;exact absurd hj (by decide)
 have hL2:∀j∈L,(v2 j).2=0:=s3.here;have zE:∀j,(v2 j).2=0->j∉new:=λj hj hm=>by rw[G.fresh j hm]at hj;exact absurd hj (by decide)
 have hM3:∀j,j∈nE M1\/j∈nE M2->v3 j=v j/\(v2 j).2=0/\j∉bD (aO v H 0):=λj hj=>by
  obtain⟨h1,h2⟩:=JR j hj;have h3:=T.JP j h1;have h4:=nU j h3 h2;have h5:j∉bD (aO v H 0):=λh=>hTn.2.2 j h h1;refine⟨?_,by rw[h4];exact h3,h5⟩;rw[G.o j (by rw[hpp];exact h5) (zE j (by rw[h4];exact h3)),h4]
 have hPL:∀j∈bD (aO v H 0),j∉L:=λj hj=>hLv j (T.Dy j hj) (λhm=>hTn.2.2 j hj (hMCin j hm));have hL3:∀j∈L,v3 j=v2 j:=λj hj=>G.o j (by rw[hpp];exact λh=>hPL j h hj) (zE j (hL2 j hj));have hP2:∀j∈bD (aO v H 0),(v2 j).2=0:=λj hj=>by rw[hnd2 j hj];exact T.Dy j hj
 have oI:M1.map (λm=>m.1)=bU (eS v up 0)++a:=d.m1;refine⟨⟨G.ok,?_,λm hm=>?_,?_,λj hj=>?_⟩,d.pairs,?_,by omega,hLl,λwt c hw=>?_,?_⟩
 .rw[G.en,hpn,eh,eX,d.m1,d.m2];simp
 .rcases aS.1 hm with hm|hm
  .exact(T.va m (by rw[d.m];simp[hm])).congr (λj hj=>(hM3 j (.inl (xx.2 ⟨m,hm,hj⟩))).1)
  .rcases aD.1 hm with rfl|hm
   .exact s3.congr hL3
   .exact(T.va m (by rw[d.m];simp[hm])).congr (λj hj=>(hM3 j (.inr (xx.2 ⟨m,hm,hj⟩))).1)
 .have zz:(bD (aO v3 H' 0)++nE (M1++(n,value,L)::M2)).Perm ((bD (aO v H 0)++new)++(nE M1++(L++nE M2))):=by
   rw[fX,tU,<-hpp];exact G.pg.append_right _
  rw[zz.nodup_iff,fI];refine⟨fI.2 ⟨hTn.1,G.nod,λj hj=>zE j (hP2 j hj)⟩,fI.2 ⟨hMn1.1,fI.2 ⟨s3.nodup,hMn2.2.1,λj hj hm=>?_⟩,λj hj hm=>?_⟩,λj hj hm=>?_⟩
  .obtain⟨h1,h2⟩:=JR j (.inr hm);exact hLv j (T.JP j h1) h2 hj
  .rcases aS.1 hm with hm|hm
   .obtain⟨h1,h2⟩:=JR j (.inl hj);exact hLv j (T.JP j h1) h2 hm
   .exact hMn1.2.2 j hj (bV _ hm)
  .have uH:j∈L\/(j∈nE M1\/j∈nE M2):=by
    rcases aS.1 hm with hm|hm
    .exact .inr (.inl hm)
    .rcases aS.1 hm with hm|hm
     .exact .inl hm
     .exact .inr (.inr hm)
   rcases aS.1 hj with hj|hj
   .rcases uH with h|h
    .exact hPL j hj h
    .exact(hM3 j h).2.2 hj
   .rcases uH with h|h
    .exact zE j (hL2 j h) hj
    .exact zE j (hM3 j h).2.1 hj
 .rw[aS,fX,tU,aS,aS]
  by_cases h1:j∈bD (aO v H 0)
  .exact .inl (G.pg.mem_iff.2 (by rw[hpp];exact bX _ h1))
  .by_cases h2:j∈new
   .exact .inl (G.pg.mem_iff.2 (bV _ h2))
   .rw[G.o j (by rw[hpp];exact h1) h2]at hj
    by_cases h3:j∈L
    .exact .inr (.inr (.inl h3))
    .rw[s6 j h3]at hj;unfold qP at hj
     by_cases h4:j∈nE MC
     .rw[if_pos h4]at hj;exact absurd hj (by decide)
     .rw[if_neg h4]at hj;have:=T.all j hj;rw[d.m,fX,fX]at this;simp only[aS]at this
      rcases this with h|h|h|h
      .exact absurd h h1
      .exact .inr (.inl h)
      .exact absurd h h4
      .exact .inr (.inr (.inr h))
 .rw[prs_app,JM,s4]
 .have g:=G.pot wt c hw;have g2:=JK wt;rw[hcn]at g2;rw[bu,r4]at g;omega
 .have hl:0+up.length=H:=by omega
  rcases G.h with g|⟨g1,g2⟩
  .exact .inl (by rw[g,hl])
  .refine .inr ⟨by rw[g1,hl],λwt c hw=>?_⟩;have g3:=g2 wt c hw;rw[hl]at g3;have g4:=JK wt;rw[hcn]at g4;omega
end
theorem JS{v:Vw}{h:Nat}{l:List E}(k:l≠[]->e9 v h l)(hb:ai (blank (decide (h=0)) l)<=223):(bC (decide (h=0)) l).2=0:=by
 by_cases hl:l=[]
 .subst hl
  rcases ky (decide (h=0)) []with h1|h1|h1
  .exact h1.2.2.1
  .have h2:=h1.2.1;rw[qa]at h2;exact absurd h2 (by simp[ai])
  .refine absurd ?_ h1.1;rw[qa];intro i hi;exact absurd hi (by simp)
 .exact oO (k hl) hb
section
variable{o:Vw}{mm:Nat}
end
section
variable{o:Vw}{mm:Nat}
end
section
variable{σ:Type}{o:Vw}{mm:Nat}{v:Vw}(step:E->σ->σ×Bool)(fr Jn:ByteArray)
end
section
variable{o:Vw}{mm:Nat}
end
section
variable{q:QS}{v o:Vw}{u m:Nat}
end
variable{q:QS}{v:Vw}{u H:Nat}{M:List MT}
def JT(l:List PR)(key:ByteArray):List PR:=l.filter λx=>decide (gY x.1 key)
def eqF(l:List PR)(key:ByteArray):List PR:=l.filter λx=>decide (x.1=key)
def zF(l:List PR)(key:ByteArray):List PR:=l.filter λx=>decide (gY key x.1)
theorem filter_all{α:Type}{p:α->Bool}{l:List α}(h:∀x∈l,p x=true):l.filter p=l:=zZ.2 h
theorem filter_none{α:Type}{p:α->Bool}{l:List α}(h:∀x∈l,p x=false):l.filter p=[]:=List.filter_eq_nil_iff.2 λx hx=>by rw[h x hx];simp
theorem nz{a b:ByteArray}(h:gY a b):a≠b:=λe=>rq (by rwa [e]at h)
theorem JN.parts{l:List PR}{key:ByteArray}{A C B:List PR}(d:JN l key A C B):A=JT l key/\C=eqF l key/\B=zF l key:=by
 have hC:∀x∈C,x.1=key:=λx hx=>by
  rcases d.c with h|⟨y,h⟩
  .rw[h]at hx;simp at hx
  .rw[h]at hx;rw[cg.1 hx]
 unfold JT eqF zF;rw[d.e];simp only[List.filter_append];refine⟨?_,?_,?_⟩
 .rw[filter_all (l:=A) (λx hx=>decide_eq_true (d.a x hx)),filter_none (l:=C) (λx hx=>decide_eq_false (λh=>nz h (hC x hx))),filter_none (l:=B) (λx hx=>decide_eq_false (λh=>rq (iu h (d.b x hx))))];simp
 .rw[filter_none (l:=A) (λx hx=>decide_eq_false (nz (d.a x hx))),filter_all (l:=C) (λx hx=>decide_eq_true (hC x hx)),filter_none (l:=B) (λx hx=>decide_eq_false (λh=>nz (d.b x hx) h.symm))];simp
 .rw[filter_none (l:=A) (λx hx=>decide_eq_false (λh=>rq (iu h (d.a x hx)))),filter_none (l:=C) (λx hx=>decide_eq_false (λh=>nz h (hC x hx).symm)),filter_all (l:=B) (λx hx=>decide_eq_true (d.b x hx))];simp
def JU(l:List PR)(key value:ByteArray):List PR:=JT l key++(key,value)::zF l key
theorem wt1:Fv (λ_=>1) 34:=λ_=>by show 39*1+34<=73*1;omega
section
variable{o:Vw}{mm:Nat}
theorem FG(R:Rd q v o u mm)(T:Tree v H M)(hH:H<=15)(key value:ByteArray)(hk:key.size<=32)(hv:value.size<=1024):
  ((q.fO key value).2=11/\∃v' u',Rd (q.fO key value).1 v' o u' mm/\u'<=u+H+8/\(mm<=u'\/512<=u'))\/
  ((q.fO key value).2=0/\∃v' H' M' new A C B h c,Rd (q.fO key value).1 v' o (u+new) mm/\SetP v v' H M key value H' M' new A C B h c/\mI M'=JU (mI M) key value):=by
 refine(JQ R T hH key value hk hv).imp id ?_;rintro⟨h1,v',H',M',new,A,C,B,h,c,h2,h3⟩;obtain⟨d1,d2,d3⟩:=h3.d.parts;exact⟨h1,v',H',M',new,A,C,B,h,c,h2,h3,by rw[h3.m,d1,d3];rfl⟩
theorem nA(R:Rd q v o u mm)(T:Tree v H M)(hH:H<=15)(key:ByteArray):
  Rd (q.fP key).1 v o u mm/\(((q.fP key).2.2=11/\mm<=u)\/(q.fP key).2=mgetF (eqF (mI M) key)):=by
 obtain⟨a,b⟩:=JO R T hH key;refine⟨a,b.imp id ?_⟩;rintro⟨A,C,B,d,e⟩;rw[e,d.parts.2.1]
end
end Go.Proofs.YtmonobkginiajaaGreat.Sh
namespace Go.Proofs.YtmonobkginiajaaGreat.Sh
open Go.RowKit Pk Dk Pg
attribute [local go_sem ↓] Go.wp_at_zero Go.wp_at_succ
variable{w:World}{n sb tb Kz:Nat}{I:Ix}{F:List Nat}{q:QS}{fr:Bool}
def zG(s l:Nat):List UInt8:=[UInt8.ofNat (65+s),UInt8.ofNat l]
def gz(s l:Nat):ByteArray:=⟨(zG s l).toArray⟩
theorem vI(s l:Nat)(hs:s<=7)(hl:l<=6)(w:World):
  Calls Tryz.prog 97 #[.agg #[.int .i64 (s:Nat),.int .i64 (l:Nat)]] w λe w'=>e=.returned (.string (gz s l))/\Below w.heap.size w w':=by
 have uh:=ae (Below.refl w.heap.size w) (.cells #[.int .i64 (s:Nat),.int .i64 (l:Nat)] 177);have P0:=az.new w 177 #[.int .i64 (s:Nat),.int .i64 (l:Nat)];have x0:=P0.ab (i:=0) rfl;have x1:=P0.ab (i:=1) rfl;obtain⟨w1,JV⟩:∃w1,w.alloc (.cells #[.int .i64 (s:Nat),.int .i64 (l:Nat)] 177)=w1:=⟨_,rfl⟩;rw[JV]at uh x0 x1;have O0:=xh (ao uh (ae (Below.refl w1.heap.size w1) (.cells #[.int .u8 (65+(s:Int)),.int .u8 (l:Nat)] 5)))
 have B0:=az.new w1 5 #[.int .u8 (65+(s:Int)),.int .u8 (l:Nat)];have e1:IntKind.u8.wrap (65+(s:Int))=65+(s:Int):=IntWalk.u8_in _ (by omega);have e2:IntKind.u8.wrap (l:Int)=(l:Int):=IntWalk.u8_in _ (by omega);have e3:IntKind.i64.wrap (65+(s:Int))=65+(s:Int):=IntWalk.i64_in _ (by omega);have hb:cf (zG s l)=[.int .u8 (65+(s:Int)),.int .u8 (l:Nat)]:=by
  unfold zG cf bv;simp only[eX,mV,fV];rw[show(((65+s) % 2 ^ 8:Nat):Int)=65+(s:Int) by omega,show((l % 2 ^ 8:Nat):Int)=(l:Int) by omega]
 have HR:=xh (bs (P:=Tryz.prog) _ 150 9 5 Tryz.underlying150 Tryz.underlying5 Tryz.underlying9 ⟨w1.heap.size,0,none⟩ 2 2 (zG s l) rfl (aZ (l:=cf (zG s l)) (by rw[hb];exact B0) 0 _ (by simp)));have hs1:w1.heap.size=w.heap.size+1:=by rw[<-JV,tC]
 rw[hs1]at HR;clear B0 hb uh P0;subst JV;go_enter Tryz.func97,Tryz.ntmps97;go_wp2_with fail;rw[HR.o];go_wp2_with fail;go_ret;exact⟨by first|rfl|simp,O0.o⟩
def FH(l:List ByteArray):List Value:=l.map Value.string
theorem Dz(sb:Nat)(s l:Int)(hs:0<=s/\s<=7)(hl:0<=l/\l<6){A:Option Addr}{c:Nat}{rs:List ByteArray}(S:aQ w 9 1 (.slice A n c) n (FH rs))(hn:n<=100)(hr:∀r∈rs,r.size<=30):
  Calls Tryz.prog 95 #[.pointer (some ⟨sb,0,none⟩),.agg #[.int .i64 s,.int .i64 l],.slice A n c] w λe w'=>e=.returned (.int .i64 0)/\Below w.heap.size w w':=by
 have uh:=ae (Below.refl w.heap.size w) (.cells #[.int .i64 s,.int .i64 l] 177);have P0:=az.new w 177 #[.int .i64 s,.int .i64 l];have x0:=P0.ab (i:=0) rfl;have x1:=P0.ab (i:=1) rfl;have S1:=S.below uh;have mM:rs.length=n:=by have:=S.1;simp[FH]at this;omega
 have HL:=xh mM;have H0:=xh (And.intro S1 uh);obtain⟨hs1,hs2⟩:=hs;obtain⟨hl1,hl2⟩:=hl;have n1:¬s<0:=by omega
 have n2:¬7<s:=by omega
 have n3:¬l<0:=by omega
 have n4:¬6<=l:=by omega
 clear S S1 uh P0 mM;go_enter Tryz.func95,Tryz.ntmps95;go_wp2_with fail
 go_loopw [33] (λiv wr=> ∃i:Nat,i<=n/\iv=.int .i64 (i:Nat)/\Below (w.alloc (.cells #[.int .i64 s,.int .i64 l] 177)).heap.size (w.alloc (.cells #[.int .i64 s,.int .i64 l] 177)) wr) (λiv _=>n-(intOf iv).toNat)
 case atStart=>exact⟨0,bq _,rfl,Below.refl _ _⟩
 case round=>
  obtain⟨i,hi,rfl,O⟩:=hrel
  by_cases h:i<n
  .have hI:(i:Int)<(n:Int):=by omega
   have S2:=H0.o.1.below O;obtain⟨g,cap,rest,hv,B,hc,xy⟩:=S2.form (by omega) (by omega);injection hv with e1 e2 e3
   subst e1 e3;obtain⟨r,hx⟩:∃r,rs[i]?=some r:=⟨_,aN (by rw[HL.o];exact h)⟩;have kY:=hr r (aA hx);have hrI:¬(30:Int)<(r.size:Int):=by omega
   have xc:wr.cell? ⟨g,i,none⟩=some (.string r):=B.ab (by
    rw[cW,bx (by simp[FH];rw[HL.o];exact h)];simp[FH,hx])
   have HO:=xh O;clear S2 B xy O hx;go_wp2_with fail;go_roundw
   case rel=>exact⟨i+1,by omega,by go_num,HO.o⟩
   case measure=>simp[intOf];omega
  .have hI:¬(i:Int)<(n:Int):=by omega
   have HO:=xh (ao H0.o.2 O);clear O;go_wp2_with fail;go_ret;exact⟨by first|rfl|simp,HO.o⟩
theorem qd(s l:Nat)(r:ByteArray):(gz s l++r).size=2+r.size:=by rw[xH];rfl
theorem zH(B:az w sb 182 #[tp tb,pp I.pb,.bool fr])(T:TQ w tb I F q n Kz)(hK:Kz<=999999000000)(s l:Nat)(hs:s<=7)(hl:l<6)(r v:ByteArray)(hr:r.size<=30)(hv:v.size<=100000):
  Calls Tryz.prog 46 #[.pointer (some ⟨sb,0,none⟩),.int .i64 (s:Nat),.int .i64 (l:Nat),.string r,.string v] w λe w'=>e=.returned (.int .i64 (q.fO (gz s l++r) v).2)/\PT w w' I F (q.fO (gz s l++r) v).1 n (Kz+100):=by
 obtain⟨z,hz⟩:∃z,w.heap.size=z:=⟨_,rfl⟩;have aI:=ae (Below.refl w.heap.size w) (.cells #[.int .i64 (s:Nat),.int .i64 (l:Nat)] 177);have P0:=az.new w 177 #[.int .i64 (s:Nat),.int .i64 (l:Nat)];obtain⟨w1,JV⟩:∃w1,w.alloc (.cells #[.int .i64 (s:Nat),.int .i64 (l:Nat)] 177)=w1:=⟨_,rfl⟩;rw[JV]at aI P0;rw[hz]at P0;have hs1:w1.heap.size=z+1:=by rw[<-JV,tC,hz]
 have SR:aQ (w1.alloc (.cells #[.string r] 9)) 9 1 (.slice (some ⟨w1.heap.size,0,none⟩) 1 1) 1 (FH [r]):=⟨rfl,.inr ⟨w1.heap.size,1,[],rfl,az.new _ _ _,rfl,by decide⟩⟩;have bA:=ao aI (ae (Below.refl w1.heap.size w1) (.cells #[.string r] 9));have P2:=P0.alloc (.cells #[.string r] 9);have KM:=xh (Dz (w:=w1.alloc (.cells #[.string r] 9)) sb (s:Nat) (l:Nat) ⟨by omega,by omega⟩ ⟨by omega,by omega⟩ SR (by omega) (by simpa using hr));rw[hs1]at KM
 have KH:=xh (λ(W:World)=>vI s l hs (by omega) W);have KT:=xh (λ(W:World) (hW:TQ W tb I F q n Kz)=>Jk hW (by omega) (gz s l++r) v (by rw[qd];omega) hv);have x0:=P0.ab (i:=0) rfl;have x1:=P0.ab (i:=1) rfl;have NB:=xh (T.2.jC B (by decide) (by decide) (by decide) (by decide) (by decide) (by decide) (by decide) (by decide) (by decide));have hcat:¬9223372036854775807<(gz s l).size+r.size:=by show ¬9223372036854775807<2+r.size;omega
 have NZ:=xh (show z∉F from λhm=>by have:=T.2.lt _ hm;omega);have H0:=xh (And.intro B (And.intro T (And.intro P2 bA)));clear B T P0 P2 SR aI bA;subst JV;unfold tp at KT;go_enter Tryz.func46,Tryz.ntmps46;go_wp2_with fail;refine KM.o.mono ?_;rintro e w3 ⟨rfl,dN⟩;have T3:=xh ((H0.o.2.1.below H0.o.2.2.2).below dN);have B3:=xh ((H0.o.1.below H0.o.2.2.2 H0.o.1.lt).below dN (H0.o.1.below H0.o.2.2.2 H0.o.1.lt).lt)
 have P3:=xh (H0.o.2.2.1.below dN H0.o.2.2.1.lt);have O3:=xh (ao H0.o.2.2.2 dN);have S0:=xh (show w3.drew.cell? ⟨sb,0,none⟩=some (.pointer (some ⟨tb,0,none⟩))/\w3.drew.cell? ⟨z,0,none⟩=some (.int .i64 (s:Nat))/\w3.drew.cell? ⟨z,1,none⟩=some (.int .i64 (l:Nat))from⟨B3.o.ab (i:=0) rfl,P3.o.ab (i:=0) rfl,P3.o.ab (i:=1) rfl⟩);clear dN x0 x1;go_wp2_with fail
 refine wp_region_held_drew (S:=λW=>W.cell? ⟨sb,0,none⟩=some (.pointer (some ⟨tb,0,none⟩))/\W.cell? ⟨z,0,none⟩=some (.int .i64 (s:Nat))/\W.cell? ⟨z,1,none⟩=some (.int .i64 (l:Nat))) (by kernel_rfl) (S0.o) (λaw=>?_);refine dq [(0,24),(1,25),(2,26),(3,27),(4,28),(6,30),(8,32)] ?_
 iterate 7 refine za ?_
 refine zd 5 29 λK hK=>?_;go_simp
 go_at_call 97
 refine(KH.o _).mono ?_;rintro e w4 ⟨rfl,eV⟩;have T4:=xh (T3.o.drew.below eV);have B4:=xh (B3.o.drew.below eV B3.o.drew.lt);have P4:=xh (P3.o.drew.below eV P3.o.drew.lt);have O4:=xh (ao (cB O3.o 1) eV)
 have S4:=xh (show w4.cell? ⟨sb,0,none⟩=some (.pointer (some ⟨tb,0,none⟩))/\w4.cell? ⟨z,0,none⟩=some (.int .i64 (s:Nat))/\w4.cell? ⟨z,1,none⟩=some (.int .i64 (l:Nat))from⟨B4.o.ab (i:=0) rfl,P4.o.ab (i:=0) rfl,P4.o.ab (i:=1) rfl⟩);clear eV;go_simp;refine zh hK (S4.o) (λaw=>?_);refine dq [(7,31)] ?_
 iterate 1 refine za ?_
 refine zd 9 33 λK hK=>?_;go_simp
 go_at_call 25
 refine(KT.o w4 T4.o).mono ?_;rintro e w5 ⟨rfl,F5,p5,o5,f5⟩;have S5:=xh (show w5.cell? ⟨sb,0,none⟩=some (.pointer (some ⟨tb,0,none⟩))/\w5.cell? ⟨z,0,none⟩=some (.int .i64 (s:Nat))/\w5.cell? ⟨z,1,none⟩=some (.int .i64 (l:Nat))from⟨(B4.o.only o5 NB.o).ab (i:=0) rfl,(P4.o.only o5 NZ.o).ab (i:=0) rfl,(P4.o.only o5 NZ.o).ab (i:=1) rfl⟩)
 have H5:=xh (show PT w w5 I F (q.fO (gz s l++r) v).1 n (Kz+100)from⟨F5,p5,(ag.aj O4.o).trans o5,λg hg=>(f5 g hg).imp id (λh=>au O4.o.size h)⟩);clear o5;go_simp;refine zh hK (S5.o) (λaw=>?_);refine dq [(10,10)] ?_
 iterate 1 refine za ?_
 refine wpAnyH_done (by kernel_rfl) ?_ _;go_wp2_with fail;go_ret;exact⟨by first|rfl|simp,H5.o⟩
theorem tV(B:az w sb 182 #[tp tb,pp I.pb,.bool fr])(T:TQ w tb I F q n Kz)(hK:Kz<=999999000000)(s l:Nat)(hs:s<=7)(hl:l<6)(r:ByteArray)(hr:r.size<=30):
  Calls Tryz.prog 42 #[.pointer (some ⟨sb,0,none⟩),.int .i64 (s:Nat),.int .i64 (l:Nat),.string r] w λe w'=>e=.returned (.tuple #[.string (q.fP (gz s l++r)).2.1,.int .i64 (q.fP (gz s l++r)).2.2])/\PQ w' I F (q.fP (gz s l++r)).1 n (Kz+21)/\ag F w w':=by
 obtain⟨z,hz⟩:∃z,w.heap.size=z:=⟨_,rfl⟩;have aI:=ae (Below.refl w.heap.size w) (.cells #[.int .i64 (s:Nat),.int .i64 (l:Nat)] 177);have P0:=az.new w 177 #[.int .i64 (s:Nat),.int .i64 (l:Nat)];obtain⟨w1,JV⟩:∃w1,w.alloc (.cells #[.int .i64 (s:Nat),.int .i64 (l:Nat)] 177)=w1:=⟨_,rfl⟩;rw[JV]at aI P0;rw[hz]at P0;have hs1:w1.heap.size=z+1:=by rw[<-JV,tC,hz]
 have SR:aQ (w1.alloc (.cells #[.string r] 9)) 9 1 (.slice (some ⟨w1.heap.size,0,none⟩) 1 1) 1 (FH [r]):=⟨rfl,.inr ⟨w1.heap.size,1,[],rfl,az.new _ _ _,rfl,by decide⟩⟩;have bA:=ao aI (ae (Below.refl w1.heap.size w1) (.cells #[.string r] 9));have P2:=P0.alloc (.cells #[.string r] 9);have KM:=xh (Dz (w:=w1.alloc (.cells #[.string r] 9)) sb (s:Nat) (l:Nat) ⟨by omega,by omega⟩ ⟨by omega,by omega⟩ SR (by omega) (by simpa using hr));rw[hs1]at KM
 have KH:=xh (λ(W:World)=>vI s l hs (by omega) W);have KT:=xh (λ(W:World) (hW:TQ W tb I F q n Kz)=>Fc hW (by omega) (gz s l++r));have x0:=P0.ab (i:=0) rfl;have x1:=P0.ab (i:=1) rfl;have NB:=xh (T.2.jC B (by decide) (by decide) (by decide) (by decide) (by decide) (by decide) (by decide) (by decide) (by decide));have hcat:¬9223372036854775807<(gz s l).size+r.size:=by show ¬9223372036854775807<2+r.size;omega
 have NZ:=xh (show z∉F from λhm=>by have:=T.2.lt _ hm;omega);have H0:=xh (And.intro B (And.intro T (And.intro P2 bA)));clear B T P0 P2 SR aI bA;subst JV;unfold tp at KT;go_enter Tryz.func42,Tryz.ntmps42;go_wp2_with fail;refine KM.o.mono ?_;rintro e w3 ⟨rfl,dN⟩;have T3:=xh ((H0.o.2.1.below H0.o.2.2.2).below dN);have B3:=xh ((H0.o.1.below H0.o.2.2.2 H0.o.1.lt).below dN (H0.o.1.below H0.o.2.2.2 H0.o.1.lt).lt)
 have P3:=xh (H0.o.2.2.1.below dN H0.o.2.2.1.lt);have O3:=xh (ao H0.o.2.2.2 dN);have S0:=xh (show w3.drew.cell? ⟨sb,0,none⟩=some (.pointer (some ⟨tb,0,none⟩))/\w3.drew.cell? ⟨z,0,none⟩=some (.int .i64 (s:Nat))/\w3.drew.cell? ⟨z,1,none⟩=some (.int .i64 (l:Nat))from⟨B3.o.ab (i:=0) rfl,P3.o.ab (i:=0) rfl,P3.o.ab (i:=1) rfl⟩);clear dN x0 x1;go_wp2_with fail
 refine wp_region_held_drew (S:=λW=>W.cell? ⟨sb,0,none⟩=some (.pointer (some ⟨tb,0,none⟩))/\W.cell? ⟨z,0,none⟩=some (.int .i64 (s:Nat))/\W.cell? ⟨z,1,none⟩=some (.int .i64 (l:Nat))) (by kernel_rfl) (S0.o) (λaw=>?_);refine dq [(0,23),(1,24),(2,25),(3,26),(4,27),(6,29)] ?_
 iterate 6 refine za ?_
 refine zd 5 28 λK hK=>?_;go_simp
 go_at_call 97
 refine(KH.o _).mono ?_;rintro e w4 ⟨rfl,eV⟩;have T4:=xh (T3.o.drew.below eV);have B4:=xh (B3.o.drew.below eV B3.o.drew.lt);have P4:=xh (P3.o.drew.below eV P3.o.drew.lt);have O4:=xh (ao (cB O3.o 1) eV)
 have S4:=xh (show w4.cell? ⟨sb,0,none⟩=some (.pointer (some ⟨tb,0,none⟩))/\w4.cell? ⟨z,0,none⟩=some (.int .i64 (s:Nat))/\w4.cell? ⟨z,1,none⟩=some (.int .i64 (l:Nat))from⟨B4.o.ab (i:=0) rfl,P4.o.ab (i:=0) rfl,P4.o.ab (i:=1) rfl⟩);clear eV;go_simp;refine zh hK (S4.o) (λaw=>?_);refine dq [(7,30)] ?_
 iterate 1 refine za ?_
 refine zd 8 31 λK hK=>?_;go_simp
 go_at_call 20
 refine(KT.o w4 T4.o).mono ?_;rintro e w5 ⟨rfl,p5,o5⟩;have S5:=xh (show w5.cell? ⟨sb,0,none⟩=some (.pointer (some ⟨tb,0,none⟩))/\w5.cell? ⟨z,0,none⟩=some (.int .i64 (s:Nat))/\w5.cell? ⟨z,1,none⟩=some (.int .i64 (l:Nat))from⟨(B4.o.only o5 NB.o).ab (i:=0) rfl,(P4.o.only o5 NZ.o).ab (i:=0) rfl,(P4.o.only o5 NZ.o).ab (i:=1) rfl⟩);have H5:=xh (show PQ w5 I F (q.fP (gz s l++r)).1 n (Kz+21)/\ag F w w5 from⟨p5,(ag.aj O4.o).trans o5⟩)
 clear o5;go_simp;refine zh hK (S5.o) (λaw=>?_);refine dq [(9,32),(10,33),(11,8),(12,9)] ?_
 iterate 4 refine za ?_
 refine wpAnyH_done (by kernel_rfl) ?_ _;go_wp2_with fail;go_ret2;exact⟨by first|rfl|simp,H5.o⟩
variable{w:World}{sb tb n K:Nat}{I:Ix}{F:List Nat}{fr:Bool}
def xz(g:ByteArray×Int):Int×Int:=if g.2=9 then(0,0)else if g.2≠0 then(0,g.2)else((k9 g.1.data.toList:Int)-9223372036854775808,0)
def eP(name:ByteArray):ByteArray:=gz 7 0++name
def QS.cw(q:QS)(name:ByteArray):QS×Int×Int:=((q.fP (eP name)).1,xz (q.fP (eP name)).2)
def mJ(n least:Int):Prop:=least<=n/\n<=1099511627776
instance(n least:Int):Decidable (mJ n least):=by unfold mJ;exact inferInstance
def QS.oP(q:QS)(name:ByteArray)(n:Int):QS×Int×Int:=
 if(q.cw name).2.2≠0 then((q.cw name).1,0,(q.cw name).2.2)
 else if ¬(mJ n (-1099511627776)/\mJ (q.cw name).2.1 0/\mJ ((q.cw name).2.1+n) 0)then((q.cw name).1,0,3)
 else if((q.cw name).1.fO (eP name) ⟨(cF ((q.cw name).2.1+n)).toArray⟩).2≠0 then(((q.cw name).1.fO (eP name) ⟨(cF ((q.cw name).2.1+n)).toArray⟩).1,0,((q.cw name).1.fO (eP name) ⟨(cF ((q.cw name).2.1+n)).toArray⟩).2)
 else(((q.cw name).1.fO (eP name) ⟨(cF ((q.cw name).2.1+n)).toArray⟩).1,(q.cw name).2.1+n,0)
theorem xA{q:QS}(B:az w sb 182 #[tp tb,pp I.pb,.bool fr])(T:TQ w tb I F q n K)(hK:K<=999999000000)(r:ByteArray)(hr:r.size<=30)(h8:(q.fP (eP r)).2.2=0->(q.fP (eP r)).2.1.size=8):
  Calls Tryz.prog 38 #[.pointer (some ⟨sb,0,none⟩),.string r] w λe w'=>e=.returned (.tuple #[.int .i64 (q.cw r).2.1,.int .i64 (q.cw r).2.2])/\PQ w' I F (q.cw r).1 n (K+21)/\ag F w w':=by
 have KG:=tV B T hK 7 0 (by omega) (by omega) r hr;unfold QS.cw;rw[show gz 7 0++r=eP r from rfl]at KG;obtain⟨R,hR⟩:∃R,q.fP (eP r)=R:=⟨_,rfl⟩;rw[hR]at KG h8 ⊢;obtain⟨q1,b,e1⟩:=R;dsimp only at KG h8 ⊢;have KG:=xh KG;clear hR B T
 by_cases h9:e1=9
 .subst h9;go_enter Tryz.func38,Tryz.ntmps38;go_wp2_with fail;refine KG.o.mono ?_;rintro e w1 ⟨rfl,H1⟩;have H1:=xh H1;go_wp2_with fail;go_ret2;exact⟨by first|rfl|simp[xz],H1.o⟩
 .by_cases h0:e1=0
  .subst h0;have hs:=h8 rfl;have KR:=xh (λ(W:World)=>ph b 0 W (by omega) (by omega));have hex:b.extract 0 (0+8)=b:=by
    apply nF;apply mK.1;rw[exl'];have hl:b.data.toList.length=8:=by simpa using hs
    simp[bK,hl]
   rw[hex]at KR;have hsI:((b.size:Nat):Int)=8:=by omega
   have hc:xz (b,0)=((k9 b.data.toList:Int)-9223372036854775808,0):=by unfold xz;rw[if_neg (by simp),if_neg (by simp)]
   rw[hc];dsimp only;generalize (k9 b.data.toList:Int)-9223372036854775808=cv at *;have mL:¬(8:Int)<((b.size:Nat):Int):=by omega
   clear h8 hex hc hsI h9;go_enter Tryz.func38,Tryz.ntmps38;go_wp2_with fail;refine KG.o.mono ?_;rintro e w1 ⟨rfl,H1⟩;have H1:=xh H1;go_wp2_with fail;refine(KR.o _).mono ?_;rintro e w2 ⟨rfl,hb⟩;have H2:=xh (show PQ w2 I F q1 n (K+21)/\ag F w w2 from⟨H1.o.1.below hb,H1.o.2.trans (.aj hb)⟩);clear hb;go_wp2_with fail;go_ret2;exact⟨by first|rfl|simp,H2.o⟩
  .have hc:xz (b,e1)=(0,e1):=by unfold xz;rw[if_neg h9,if_pos h0]
   rw[hc];dsimp only;have q9:(e1==9)=false:=by rw[beq_eq_false_iff_ne];exact h9
   have hq:(e1 != 0)=true:=by rw[bne_iff_ne];exact h0
   have lr:(e1==0)=false:=by rw[beq_eq_false_iff_ne];exact h0
   clear h8 hc;go_enter Tryz.func38,Tryz.ntmps38;go_wp2_with fail;refine KG.o.mono ?_;rintro e w1 ⟨rfl,H1⟩;have H1:=xh H1;go_wp2_with fail;go_ret2;exact⟨by first|rfl|simp,H1.o⟩
theorem FI(n least:Int)(w:World):Calls Tryz.prog 87 #[.int .i64 n,.int .i64 least] w λe w'=>e=.returned (.bool (decide (mJ n least)))/\w=w':=by
 by_cases h1:least<=n
 .by_cases h2:n<=1099511627776
  .rw[decide_eq_true (p:=mJ n least) ⟨h1,h2⟩];go_enter Tryz.func87,Tryz.ntmps87;go_wp2_with fail;go_ret;exact⟨by first|rfl|simp,rfl⟩
  .rw[decide_eq_false (p:=mJ n least) (λh=>h2 h.2)];go_enter Tryz.func87,Tryz.ntmps87;go_wp2_with fail;go_ret;exact⟨by first|rfl|simp,rfl⟩
 .rw[decide_eq_false (p:=mJ n least) (λh=>h1 h.1)];go_enter Tryz.func87,Tryz.ntmps87;go_wp2_with fail;go_ret;exact⟨by first|rfl|simp,rfl⟩
theorem PT.pre{w1 w2:World}{q:QS}(o:ag F w w1)(h:PT w1 w2 I F q n K):PT w w2 I F q n K:=by
 obtain⟨F',a,o2,f⟩:=h;exact⟨F',a,o.trans o2,λg hg=>(f g hg).imp id (λh=>au o.size h)⟩
theorem zI{q:QS}(B:az w sb 182 #[tp tb,pp I.pb,.bool fr])(T:TQ w tb I F q n K)(hK:K<=999998000000)(r:ByteArray)(hr:r.size<=30)(h8:(q.fP (eP r)).2.2=0->(q.fP (eP r)).2.1.size=8)(m:Int):
  Calls Tryz.prog 37 #[.pointer (some ⟨sb,0,none⟩),.string r,.int .i64 m] w λe w'=>e=.returned (.tuple #[.int .i64 (q.oP r m).2.1,.int .i64 (q.oP r m).2.2])/\PT w w' I F (q.oP r m).1 n (K+200):=by
 have KC:=xA B T (by omega) r hr h8;have KM:=xh FI;have KI:=xh I_any;have KS:=xh (λ(W:World) (qj:QS) (kj:Nat) (B':az W sb 182 #[tp tb,pp I.pb,.bool fr]) (hW:TQ W tb I F qj n kj) (hk:kj<=999999000000) (v:ByteArray) (hv:v.size<=100000)=>zH B' hW hk 7 0 (by omega) (by omega) r v hr hv);have HB:=xh B;have HT:=xh T;have NB:=xh (T.2.jC B (by decide) (by decide) (by decide) (by decide) (by decide) (by decide) (by decide) (by decide) (by decide))
 obtain⟨RR,cd⟩:∃RR,q.oP r m=RR:=⟨_,rfl⟩;rw[cd];unfold QS.oP at cd;obtain⟨R,hR⟩:∃R,q.cw r=R:=⟨_,rfl⟩;rw[hR]at KC cd;obtain⟨q1,cv,e1⟩:=R;dsimp only at KC cd;have KC:=xh KC;have ic:=xh cd;clear cd hR B T h8;unfold tp pp at *
 by_cases he:e1=0
 .subst he;have xy:=ic.o;rw[if_neg (by simp)]at xy
  by_cases hA:mJ m (-1099511627776)
  .have dA:=decide_eq_true hA;have a1:=hA.1;have a2:=hA.2
   by_cases hB:mJ cv 0
   .have dB:=decide_eq_true hB;have b1:=hB.1;have b2:=hB.2
    by_cases hC:mJ (cv+m) 0
    .rw[if_neg (λh=>h ⟨hA,hB,hC⟩)]at xy;have dC:=decide_eq_true hC;have c1:=hC.1;have c2:=hC.2;have HV:=xh xy;have HP:=xh (show(⟨(cF (cv+m)).toArray⟩:ByteArray).size<=100000 by rw[show(⟨(cF (cv+m)).toArray⟩:ByteArray).size=(cF (cv+m)).length from rfl,Pg.dv];decide);clear xy hA hB hC;go_enter Tryz.func37,Tryz.ntmps37;go_wp2_with fail;refine KC.o.mono ?_;rintro e w1 ⟨rfl,H1⟩;have H1:=xh H1;go_wp2_with fail;refine(KM.o _ _ _).mono ?_
     rintro e _ ⟨rfl,rfl⟩;rw[dA];go_wp2_with fail;refine(KM.o _ _ _).mono ?_;rintro e _ ⟨rfl,rfl⟩;rw[dB];go_wp2_with fail;refine(KM.o _ _ _).mono ?_;rintro e _ ⟨rfl,rfl⟩;rw[dC];go_wp2_with fail;refine(KI.o _ c1 c2 _).mono ?_;rintro e w2 ⟨rfl,hb⟩
     have H2:=xh (And.intro ((HB.o.only H1.o.2 (by simpa using NB.o)).below hb (HB.o.only H1.o.2 (by simpa using NB.o)).lt) (And.intro (show TQ w2 tb I F q1 n (K+21)from⟨(HT.o.1.only H1.o.2 (by simpa using HT.o.ne)).below hb (HT.o.1.only H1.o.2 (by simpa using HT.o.ne)).lt,H1.o.1.below hb⟩) (show ag F w w2 from H1.o.2.trans (.aj hb))));clear hb;go_wp2_with fail;refine(KS.o _ q1 (K+21) H2.o.1 H2.o.2.1 (by omega) _ HP.o).mono ?_
     rintro e w3 ⟨rfl,H3⟩;have H3:=xh (PT.pre H2.o.2.2 H3);have HV:Hid ((if(q1.fO (eP r) ⟨(cF (cv+m)).toArray⟩).2≠0 then((q1.fO (eP r) ⟨(cF (cv+m)).toArray⟩).1,(0:Int),(q1.fO (eP r) ⟨(cF (cv+m)).toArray⟩).2)else((q1.fO (eP r) ⟨(cF (cv+m)).toArray⟩).1,cv+m,(0:Int)))=RR):=HV;rw[show gz 7 0++r=eP r from rfl]at H3 ⊢;obtain⟨R2,hR2⟩:∃R2,q1.fO (eP r) ⟨(cF (cv+m)).toArray⟩=R2:=⟨_,rfl⟩;rw[hR2]at H3 HV ⊢;obtain⟨q2,e2⟩:=R2;clear hR2 HP
     have hv:=HV.o;dsimp only at hv H3;clear HV
     by_cases h2:e2=0
     .subst h2;rw[if_neg (by simp)]at hv;have HV:=xh hv;clear hv;go_wp2_with fail;go_ret2;have h9:=HV.o;subst h9;exact⟨by first|rfl|simp,H3.o.le (by omega)⟩
     .have hq:(e2 != 0)=true:=by rw[bne_iff_ne];exact h2
      have lr:(e2==0)=false:=by rw[beq_eq_false_iff_ne];exact h2
      rw[if_pos h2]at hv;have HV:=xh hv;clear hv;go_wp2_with fail;go_ret2;have h9:=HV.o;subst h9;exact⟨by first|rfl|simp,H3.o.le (by omega)⟩
    .rw[if_pos (λh=>hC h.2.2)]at xy;have dC:=decide_eq_false hC;have HV:=xh xy;clear xy hA hB hC;go_enter Tryz.func37,Tryz.ntmps37;go_wp2_with fail;refine KC.o.mono ?_;rintro e w1 ⟨rfl,H1⟩;have H1:=xh H1;go_wp2_with fail;refine(KM.o _ _ _).mono ?_;rintro e _ ⟨rfl,rfl⟩;rw[dA];go_wp2_with fail;refine(KM.o _ _ _).mono ?_;rintro e _ ⟨rfl,rfl⟩;rw[dB];go_wp2_with fail;refine(KM.o _ _ _).mono ?_;rintro e _ ⟨rfl,rfl⟩;rw[dC];go_wp2_with fail;go_ret2;have h9:=HV.o
     subst h9;exact⟨by first|rfl|simp,.self (H1.o.1.le (by omega)) H1.o.2⟩
   .rw[if_pos (λh=>hB h.2.1)]at xy;have dB:=decide_eq_false hB;have HV:=xh xy;clear xy hA hB;go_enter Tryz.func37,Tryz.ntmps37;go_wp2_with fail;refine KC.o.mono ?_;rintro e w1 ⟨rfl,H1⟩;have H1:=xh H1;go_wp2_with fail;refine(KM.o _ _ _).mono ?_;rintro e _ ⟨rfl,rfl⟩;rw[dA];go_wp2_with fail;refine(KM.o _ _ _).mono ?_;rintro e _ ⟨rfl,rfl⟩;rw[dB];go_wp2_with fail;go_ret2;have h9:=HV.o;subst h9;exact⟨by first|rfl|simp,.self (H1.o.1.le (by omega)) H1.o.2⟩
  .rw[if_pos (λh=>hA h.1)]at xy;have dA:=decide_eq_false hA;have HV:=xh xy;clear xy hA;go_enter Tryz.func37,Tryz.ntmps37;go_wp2_with fail;refine KC.o.mono ?_;rintro e w1 ⟨rfl,H1⟩;have H1:=xh H1;go_wp2_with fail;refine(KM.o _ _ _).mono ?_;rintro e _ ⟨rfl,rfl⟩;rw[dA];go_wp2_with fail;go_ret2;have h9:=HV.o;subst h9;exact⟨by first|rfl|simp,.self (H1.o.1.le (by omega)) H1.o.2⟩
 .have hq:(e1 != 0)=true:=by rw[bne_iff_ne];exact he
  have lr:(e1==0)=false:=by rw[beq_eq_false_iff_ne];exact he
  have xy:=ic.o;rw[if_pos he]at xy;have HV:=xh xy;clear xy;go_enter Tryz.func37,Tryz.ntmps37;go_wp2_with fail;refine KC.o.mono ?_;rintro e w1 ⟨rfl,H1⟩;have H1:=xh H1;go_wp2_with fail;go_ret2;have h9:=HV.o;subst h9;exact⟨by first|rfl|simp,.self (H1.o.1.le (by omega)) H1.o.2⟩
end Go.Proofs.YtmonobkginiajaaGreat.Sh
namespace Go.Proofs.YtmonobkginiajaaGreat.Sh
open Go.RowKit Pk Dk Pg
open Nd (E ai)
variable{v:Vw}{M:List MT}
def tW(l:List PR):Nat:=(l.map λx=>x.1.size+x.2.size+7).sum
theorem JW(a b:List PR):tW (a++b)=tW a+tW b:=by simp[tW]
theorem CD(T:Tree v 0 M)(hs:∀x∈mI M,x.2.size<=40):fH (λ_=>1) (aO v 0 0)=tW (mI M)-151:=by
 have h1:fM v 0 0=(gX v 0).2.1:=by unfold fM aO;simp
 have h2:ai (gX v 0).2.1=tW (mI M):=by
  rw[<-h1,<-T.en];unfold ai tW mI;rw[oW,oW]
  congr 1
  refine jy λm hm=>?_;have h40:m.2.1.size<=40:=hs (m.1.key,m.2.1) (eo.2 ⟨m,hm,rfl⟩);show m.1.key.size+m.1.val.size+7=m.1.key.size+m.2.1.size+7
  rcases T.va m hm with⟨_,h,_,_⟩|⟨_,_,_,_,_,h,_⟩
  .rw[h]
  .omega
 unfold aO;rw[jw,JH,h2];show 1*_+0=_;omega
section
variable{o:Vw}{mm:Nat}
theorem zJ{q:QS}{u:Nat}(R:Rd q v o u mm)(T:Tree v 0 M)(hs:∀x∈mI M,x.2.size<=40)(hb:tW (mI M)<=151)(key value:ByteArray)(hk:key.size<=32)(hv:value.size<=20)(hu:u+8<mm)(hu2:u+8<512):
  (q.fO key value).2=0/\∃v' M',Rd (q.fO key value).1 v' o (u+1) mm/\Tree v' 0 M'/\mI M'=JU (mI M) key value:=by
 have hp:=CD T hs
 rcases FG R T (by omega) key value hk (by omega)with⟨a,v',u',b,c,d⟩|⟨a,v',H',M',new,A,C,B,h,c,b,S,hm⟩
 .omega
 .have p:=S.pot (λ_=>1) 34 wt1;rw[if_pos (by omega)]at p;have hh:H'=0:=by
   rcases S.h with e|⟨e,f⟩
   .exact e
   .have:=f (λ_=>1) 34 wt1;rw[if_pos (by omega)]at this;omega
  subst hh;rw[if_pos rfl]at p;have hn:=S.n;have hc:=S.c.2 (by omega);exact⟨a,v',M',b.le (by omega),S.t,hm⟩
end
def xC(n:Int):ByteArray:=⟨(cF n).toArray⟩
theorem mD(n:Int):(xC n).size=8:=by show(cF n).toArray.size=8;rw[iz];exact dv n
theorem JX{n:Int}(h:mJ n 0):xz (xC n,0)=(n,0):=by
 unfold xz;rw[if_neg (by simp),if_neg (by simp)];have:k9 (xC n).data.toList=k9 (cF n):=rfl;dsimp only;rw[this,pw n h.1 (by have:=h.2;omega)]
structure Cn(B:List PR)(k:ByteArray)(o:Vw)(q:QS)(n:Int)(u mm:Nat)(v:Vw)(M:List MT):Prop where
 r:Rd q v o u mm
 t:Tree v 0 M
 p:(mI M=B/\n=0)\/mI M=B++[(k,xC n)]
 b:∀x∈B,gY x.1 k/\x.2.size<=40
 s:tW B<=100
 n:mJ n 0
section
variable{B:List PR}{name:ByteArray}{o:Vw}{q:QS}{n:Int}{u mm:Nat}{v:Vw}{M:List MT}
theorem DB{B C:List PR}{k:ByteArray}(hb:∀x∈B,gY x.1 k)(hc:∀x∈C,x.1=k):JT (B++C) k=B/\eqF (B++C) k=C/\zF (B++C) k=[]:=by
 unfold JT eqF zF;simp only[List.filter_append];refine⟨?_,?_,?_⟩
 .rw[filter_all (l:=B) (λx hx=>decide_eq_true (hb x hx)),filter_none (l:=C) (λx hx=>decide_eq_false (λh=>nz h (hc x hx)))];simp
 .rw[filter_none (l:=B) (λx hx=>decide_eq_false (nz (hb x hx))),filter_all (l:=C) (λx hx=>decide_eq_true (hc x hx))];simp
 .rw[filter_none (l:=B) (λx hx=>decide_eq_false (λh=>rq (iu h (hb x hx)))),filter_none (l:=C) (λx hx=>decide_eq_false (λh=>nz h (hc x hx).symm))];simp
theorem Cn.parts(h:Cn B (eP name) o q n u mm v M):∃C,mI M=B++C/\(∀x∈C,x.1=eP name)/\(∀x∈C,x.2.size<=40)/\tW C<=name.size+17/\((C=[]/\n=0)\/C=[(eP name,xC n)]):=by
 have hz:(eP name).size=2+name.size:=qd 7 0 name
 rcases h.p with⟨h1,h2⟩|h1
 .exact⟨[],by simpa using h1,by simp,by simp,by simp[tW],.inl ⟨rfl,h2⟩⟩
 .refine⟨_,h1,by simp,λx hx=>?_,?_,.inr rfl⟩
  .rw[cg.1 hx];show(xC n).size<=40;rw[mD];omega
  .show(eP name).size+(xC n).size+7+0<=_;rw[mD,hz];omega
theorem Cn.get(h:Cn B (eP name) o q n u mm v M)(hu:u<mm):(q.cw name).2=(n,0)/\Cn B (eP name) o (q.cw name).1 n u mm v M/\((q.fP (eP name)).2.2=0->(q.fP (eP name)).2.1.size=8):=by
 obtain⟨C,c1,c2,c3,c4,c5⟩:=h.parts;obtain⟨g1,g2⟩:=nA h.r h.t (by omega) (eP name);rw[c1,(DB (λx hx=>(h.b x hx).1) c2).2.1]at g2;refine⟨?_,⟨g1,h.t,h.p,h.b,h.s,h.n⟩,?_⟩
 .rcases g2 with⟨_,g2⟩|g2
  .omega
  .show xz (q.fP (eP name)).2=_;rw[g2]
   rcases c5 with⟨c5,c6⟩|c5
   .rw[c5,c6];rfl
   .rw[c5];exact JX h.n
 .rcases g2 with⟨_,g2⟩|g2
  .omega
  .rw[g2]
   rcases c5 with⟨c5,c6⟩|c5
   .rw[c5];intro h0;exact absurd h0 (by show ¬(9:Int)=0;decide)
   .rw[c5];intro _;exact mD n
theorem Cn.add(h:Cn B (eP name) o q n u mm v M)(hr:name.size<=30)(hu:u+8<mm)(hu2:u+8<512)(m:Int):
  if mJ m (-1099511627776)/\mJ (n+m) 0 then(q.oP name m).2=(n+m,0)/\∃v' M',Cn B (eP name) o (q.oP name m).1 (n+m) (u+1) mm v' M' else(q.oP name m).2=(0,3)/\Cn B (eP name) o (q.oP name m).1 n u mm v M:=by
 obtain⟨a,b,_⟩:=h.get (by omega);have hz:(eP name).size=2+name.size:=qd 7 0 name;unfold QS.oP;rw[a];dsimp only;rw[if_neg (show ¬((0:Int)≠0) by simp)]
 split
 .rename_i hm;rw[if_neg (λhn=>hn ⟨hm.1,h.n,hm.2⟩)];obtain⟨C,c1,c2,c3,c4,c5⟩:=b.parts;have hs:=mD (n+m);have hbs:=b.s;obtain⟨s1,v',M',s2,s3,s4⟩:=zJ b.r b.t (λx hx=>by rw[c1]at hx;exact(aS.1 hx).elim (λh1=>(b.b x h1).2) (c3 x)) (by rw[c1,JW];omega) (eP name) (xC (n+m)) (by omega) (by omega) hu hu2;rw[show(⟨(cF (n+m)).toArray⟩:ByteArray)=xC (n+m)from rfl,if_neg (by rw[s1];simp)];refine⟨rfl,v',M',s2,s3,.inr ?_,h.b,h.s,hm.2⟩
  obtain⟨l1,l2,l3⟩:=DB (λx hx=>(h.b x hx).1) c2;rw[s4,c1];unfold JU;rw[l1,l3]
 .rename_i hm;rw[if_pos (λhn=>hm ⟨hn.1,hn.2.2⟩)];exact⟨rfl,b⟩
end
end Go.Proofs.YtmonobkginiajaaGreat.Sh
