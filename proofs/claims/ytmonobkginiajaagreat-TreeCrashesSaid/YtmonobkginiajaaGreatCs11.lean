/- packed. -/
import Derived.Test.YtmonobkginiajaaGreatCs10
set_option linter.all false
set_option maxRecDepth 100000
set_option maxHeartbeats 8000000
namespace Go.Proofs.YtmonobkginiajaaGreat
open Go.Proofs.Tryz
open Value renaming string→U7,slice→U3,int→U5,bool→WF,tuple→rg
open Ending renaming returned→fd
open IntKind renaming i64→U6
open Obj renaming cells→Pi
open Go renaming World→BY,Value→By,Calls→io,maxLen→sh
open List renaming replicate→it
namespace Sh
open Go.RowKit Pk Dk Pg
open Nd (E aJ aP dm bw aY cg aZ aw eh)
def uD(q:QS):∀i,(q.aN i).1.jP=q.jP
 |0=>rfl
 |i+1=>by
  rw[lI]
  split
  .exact uD q i
  .rw[sU];exact uD q i
def Im(q:QS):∀i,(q.aN i).2=11->∃q':QS,q'.jP=q.jP/\q'.a.free=0
 |0,h=>eq h (by show ¬(0:Int)=11;decide)
 |i+1,h=>by
  rw[lI]at h
  split at h
  .exact Im q i h
  .exact⟨(q.aN i).1,uD q i,MN h⟩
def Io{a b:Nat}(h:a<=b):cd a<=cd b:=by unfold cd;omega
section
variable{q:QS}{v o:Vw}{u m:Nat}
def Rd.gZ(h:Rd q v o u m)(hK:∃n K,Wp q n K/\K<=999999999000):
  (q.an.2=0/\Rd q.an.1 v v (u+u+cd u) m)\/(q.an.2=11/\Rd q.an.1 v o u m/\m<u+cd u+1):=by
 obtain⟨n,K,w,hk⟩:=hK;obtain⟨c1,c2,c3⟩:=w.gZ hk;have hb:=uD q q.l.length;obtain⟨e1,e2,e3⟩:=xK hb;have pC:q.an.1.a.many=q.a.many/\((q.an.2=0->q.an.1.a.now.length+q.an.1.a.kept<=u+u+cd u)/\(q.an.2=11->q.an.1.jP=q.jP/\m<u+cd u+1)):=by
  have hu:=h.u;have hm:=h.m;unfold QS.an;rw[U9 (by rw[D4 w.N];omega)]
  by_cases Bh:(q.aN q.l.length).2=0
  .rw[U9 (by rw[Bh];simp)];unfold St.an
   by_cases hf:(q.aN q.l.length).1.a.free<cd (q.aN q.l.length).1.a.dW.length
   .rw[U8 hf];refine⟨e2,λh0=>eq h0 (by show ¬(11:Int)=0;decide),λ_=>⟨hb,?_⟩⟩;have h1:=DK (q.aN q.l.length).1.a;have h2:=Io (a:=(q.aN q.l.length).1.a.dW.length) (b:=u) ls;have h3:(q.aN q.l.length).1.a.fresh<=(q.aN q.l.length).1.a.now.length:=yk;unfold St.free at hf;omega
   .rw[U9 hf];refine⟨e2,λ_=>?_,λh0=>eq h0 (by show ¬(0:Int)=11;decide)⟩;have h1:=DK (q.aN q.l.length).1.a;have h2:=Io (a:=(q.aN q.l.length).1.a.dW.length) (b:=u) ls;show(jy (q.aN q.l.length).1.a.dW).length+((q.aN q.l.length).1.a.dW.countP Option.isSome+cd (q.aN q.l.length).1.a.dW.length)<=_;have h3:(q.aN q.l.length).1.a.dW.countP Option.isSome<=(q.aN q.l.length).1.a.dW.length:=yk
    rw[Ak];omega
  .rw[U8 (by exact Bh)];refine⟨e2,λh0=>eq h0 Bh,λCm=>⟨hb,?_⟩⟩;obtain⟨q',f1,f2⟩:=Im q _ Cm;obtain⟨g1,g2,g3⟩:=xK f1;have:=MQ (a:=q'.a) (u:=u) ls
   rcases fo u q'.a.many with h9|h9
   .exact eq f2 (this h9)
   .omega
 obtain⟨s1,s2,s3⟩:=pC
 rcases c3 with⟨c3,c4⟩|⟨c3,c4⟩
 .exact .inl ⟨c3,⟨⟨n,_,c1⟩,λj=>(c2 j).trans (h.v j),λj=>(c4 j).trans (h.v j),s2 c3,by rw[s1];exact h.m⟩⟩
 .obtain⟨s4,s5⟩:=s3 c3;obtain⟨g1,g2,g3⟩:=xK s4;exact .inr ⟨c3,⟨⟨n,_,c1⟩,λj=>(c2 j).trans (h.v j),λj=>(c4 j).trans (h.o j),by rw[g1];exact h.u,by rw[s1];exact h.m⟩,s5⟩
def Rd.abort(h:Rd q v o u m):∃u',Rd q.bt o o u' m:=by
 obtain⟨n,K,w⟩:=h.w;obtain⟨a1,a2,a3⟩:=w.abort;exact⟨_,⟨n,K,a1⟩,λj=>(a2 j).trans (h.o j),λj=>(a3 j).trans (h.o j),ai _,h.m⟩
def Rn(q:QS)(hl:1<=q.l.length)(p:Int):(q.bt.aU p).2.2≠11:=by
 have hn:∀f∈q.bt.l,f=Fr.nil:=λf hf=>jQ hf;have hlen:q.bt.l.length=q.l.length:=eG;have hf0:findF q.bt.l p= -1:=by
  rcases gF q.bt.l p with e|⟨k,f,e,hk,he,hp⟩
  .exact e
  .rw[hn f (ay hk)]at he;exact eq he (by show ¬(-1:Int)=p;omega)
 intro h;unfold QS.aU at h;rw[U9 (by rw[hf0];omega)]at h
 split at h
 .rename_i h1;have h:(q.bt.a.aO p).2=11:=h;unfold St.aO at h
  split at h
  .exact eq h lw
  .exact eq h lw
 .split at h
  .exact eq h lw
  .split at h
   .have h:(q.bt.az.1.bl q.bt.az.2.toNat).2=11:=h;have h0:q.bt.l[0]?=some Fr.nil:=by
     rw[aQ ls];exact congrArg some (hn _ (jR _))
    have hix:Gl (λf=>decide (f.au<0)) q.bt.l=((0:Nat):Int):=wX h0 ms (λj a hj _=>eq hj ls);have hv:q.bt.az=(q.bt,((0:Nat):Int)):=by
     unfold QS.az;rw[hix,g8]
    rw[hv]at h;have hb:q.bt.bl 0=(q.bt,0):=by
     unfold QS.bl;rw[nY h0,U9 ms]
    have h:(q.bt.bl 0).2=11:=h;rw[hb]at h;exact eq h lw
   .exact eq h lw
def Ro(h:Rd q v o u m)(p:Int):(q.bt.aT p).2=jO o p:=by
 obtain⟨u',R⟩:=h.abort;obtain⟨n,K,w⟩:=h.w;obtain⟨a,b⟩:=R.get p;have fy:(q.bt.cF p).2.2≠11:=λe=>by
  unfold QS.cF at e
  split at e
  .exact Rn q w.H.l1 p e
  .exact eq e lw
 unfold QS.aT jO
 rcases b with⟨b1,b2⟩|⟨b1,b2⟩|⟨b1,b2⟩
 .rw[b2,i8,ge]
 .rw[b2,b1,i9,i9]
 .exact eq (by rw[b1]) fy
def Nj(w:∃n K,Wp q n K){j:Int}(h0:(q.vw j).2=0):q.a.jW.length≠0:=by
 obtain⟨n,K,w⟩:=w;have h1:(q.a.aO j).2=0:=by
  rcases jA q j with ho|⟨k,f,hk,rfl,hp⟩
  .rw[fQ ho]at h0;exact h0
  .exact w.V.ex f (ay hk) hp
 have h2:=xu.1 h1;obtain⟨h3,h4⟩:=pS h2;unfold St.at at h2;rw[U8 h3]at h2;unfold St.jW;rw[Ai _ _ (ai _),ig];intro hz;rw[OU]at hz
 cases hx:q.a.now[j.toNat]? with
 |none=>rw[hx]at h2;cases h2
 |some x=>
  rw[hx]at h2;exact hz x (ay hx) h2
def E9{H:Nat}{M:List MT}(R:Rd q v o u m)(T:Tree o H M):∃u',Rd q.bt.dJ.1 o o u' m/\q.bt.dJ.2=0:=by
 obtain⟨u',R'⟩:=R.abort;have h0:(o 0).2=0:=T.AK 0 (by rw[oX];simp);have hp:=Nj R'.w (j:=0) (by rw[R'.v];exact h0);unfold QS.dJ QS.kl;rw[U9 hp,i8];refine⟨u',(R'.read 0).1,?_⟩;show(q.bt.aT 0).2.2.2=0;rw[Ro R,(JV T.ok).1]
end
variable{q:QS}{v:Vw}{u H:Nat}{M:List MT}
def J6(l:List PR)(key:Nm):List PR:=l.filter λx=>decide (iK x.1 key)
def Iq(l:List PR)(key:Nm):List PR:=l.filter λx=>decide (x.1=key)
def td(l:List PR)(key:Nm):List PR:=l.filter λx=>decide (iK key x.1)
def filter_all{α:Type}{p:α->Bool}{l:List α}(h:∀x∈l,p x=true):l.filter p=l:=yp.2 h
def filter_none{α:Type}{p:α->Bool}{l:List α}(h:∀x∈l,p x=false):l.filter p=[]:=Pd.2 λx hx=>by rw[h x hx];simp
def vY{a b:Nm}(h:iK a b):a≠b:=λe=>kK (by rwa [e]at h)
def Ri.parts{l:List PR}{key:Nm}{A C B:List PR}(d:Ri l key A C B):A=J6 l key/\C=Iq l key/\B=td l key:=by
 have hC:∀x∈C,x.1=key:=λx hx=>by
  rcases d.c with h|⟨y,h⟩
  .rw[h]at hx;simp at hx
  .rw[h]at hx;rw[aG.1 hx]
 unfold J6 Iq td;rw[d.e];simp only[yo];refine⟨?_,?_,?_⟩
 .rw[filter_all (l:=A) (λx hx=>ww (d.a x hx)),filter_none (l:=C) (λx hx=>wn (λh=>vY h (hC x hx))),filter_none (l:=B) (λx hx=>wn (λh=>kK (kg h (d.b x hx))))];simp
 .rw[filter_none (l:=A) (λx hx=>wn (vY (d.a x hx))),filter_all (l:=C) (λx hx=>ww (hC x hx)),filter_none (l:=B) (λx hx=>wn (λh=>vY (d.b x hx) h.symm))];simp
 .rw[filter_none (l:=A) (λx hx=>wn (λh=>kK (kg h (d.a x hx)))),filter_none (l:=C) (λx hx=>wn (λh=>vY h (hC x hx).symm)),filter_all (l:=B) (λx hx=>ww (d.b x hx))];simp
def xS(l:List PR)(key value:Nm):List PR:=J6 l key++(key,value)::td l key
def TZ(l:List PR)(key:Nm):List PR:=J6 l key++td l key
def wt1:Rc (λ_=>1) 34:=λ_=>by show 39*1+34<=73*1;omega
section
variable{o:Vw}{mm:Nat}
def zI(R:Rd q v o u mm)(T:Tree v H M)(hH:H<=15)(key value:Nm)(hk:key.size<=32)(hv:value.size<=1024):
  ((q.fC key value).2=11/\∃v' u',Rd (q.fC key value).1 v' o u' mm/\u'<=u+H+8/\(mm<=u'\/512<=u'))\/
  ((q.fC key value).2=0/\∃v' H' M' new A C B h c,Rd (q.fC key value).1 v' o (u+new) mm/\SetP v v' H M key value H' M' new A C B h c/\kV M'=xS (kV M) key value):=by
 refine(Z6 R T hH key value hk hv).imp id ?_;rintro⟨h1,v',H',M',new,A,C,B,h,c,h2,h3⟩;obtain⟨d1,d2,d3⟩:=h3.d.parts;exact⟨h1,v',H',M',new,A,C,B,h,c,h2,h3,by rw[h3.m,d1,d3];rfl⟩
def Ir(R:Rd q v o u mm)(T:Tree v 0 M)(key value:Nm)(hk:key.size<=32)(hv:value.size<=40)(hu:u+8<mm)(hu2:u+8<512){P:Nat}(hP:fj (λ_=>1) (aS v 0 0)<=P)(hP2:P+key.size+value.size+7<34):
  (q.fC key value).2=0/\∃v' M',Rd (q.fC key value).1 v' o u mm/\Tree v' 0 M'/\kV M'=xS (kV M) key value/\fj (λ_=>1) (aS v' 0 0)<=P+key.size+value.size+7:=by
 rcases zI R T (by omega) key value hk (by omega)with⟨a,v',u',b,c,d⟩|⟨a,v',H',M',new,A,C,B,h,c,b,S,hm⟩
 .omega
 .have p:=S.JZ (λ_=>1) 34 wt1;rw[U8 hv]at p;have hh:H'=0:=by
   rcases S.h with e|⟨e,f⟩
   .exact e
   .have:=f (λ_=>1) 34 wt1;rw[U8 hv]at this;omega
  subst hh;rw[U8 rfl]at p;have hn:=S.n;have hc:=S.c.2 hv;have h0:h=0:=by omega
  have hn0:new=0:=by omega
  rw[hn0]at b;exact⟨a,v',M',b,S.t,hm,by omega⟩
def Fc(R:Rd q v o u mm)(T:Tree v H M)(hH:H<=15)(key:Nm):
  Rd (q.gD key).1 v o u mm/\(((q.gD key).2.2=11/\mm<=u)\/(q.gD key).2=Nf (Iq (kV M) key)):=by
 obtain⟨a,b⟩:=Z1 R T hH key;refine⟨a,b.imp id ?_⟩;rintro⟨A,C,B,d,e⟩;rw[e,d.parts.2.1]
def Is(R:Rd q v o u mm)(T:Tree v H M)(hH:H<=15)(key:Nm):
  ((q.fR key).2=11/\mm<=u/\∃v',Rd (q.fR key).1 v' o u mm)\/
  ((q.fR key).2=9/\Rd (q.fR key).1 v o u mm/\Iq (kV M) key=[])\/
  ((q.fR key).2=0/\Iq (kV M) key≠[]/\∃v' H' M',Rd (q.fR key).1 v' o u mm/\Tree v' H' M'/\kV M'=TZ (kV M) key/\(∀wt,fj wt (aS v' H' 0)<=fj wt (aS v H 0))/\H'<=H):=by
 refine(Ni R T hH key).imp id (Or.imp ?_ ?_)
 .rintro⟨a,b,A,B,d⟩;exact⟨a,b,d.parts.2.1.symm⟩
 .rintro⟨a,v',H',M',A,B,y,b,d⟩;obtain⟨d1,d2,d3⟩:=d.d.parts;exact⟨a,by rw[<-d2];simp,v',H',M',b,d.t,by rw[d.m,d1,d3];rfl,d.JZ,d.h⟩
end
attribute [local go_sem ↓] bP
variable{w:BY}{mb:Nat}{v:By}{l:List PR}
structure Mp(w:BY)(mb:Nat)(v:By)(l:List PR):Prop where
 b:aM w mb 45 #[v]
 s:bm w 42 2 v l.length (kL l)
 n:l.length<=1000000
def Mp.below{w':BY}(h:Mp w mb v l)(hb:i7 w w'):Mp w' mb v l:=⟨h.b.below hb h.b.lt,h.s.below hb,h.n⟩
def rq:List PR->Nm->Nat
 |[],_=>0
 |x::l,k=>if iK x.1 k then rq l k+1 else 0
def Rq(k:Nm):∀l:List PR,rq l k<=l.length
 |[]=>ai _
 |x::l=>by unfold rq;split;(have:=Rq k l;simp;omega);exact bG _
def atN_lt(k:Nm):∀(l:List PR) (i:Nat),i<rq l k->∃x,l[i]?=some x/\iK x.1 k
 |[],i=>λh=>eq h (by unfold rq;omega)
 |x::l,i=>λh=>by
  unfold rq at h
  split at h
  .rename_i hx
   cases i with
   |zero=>exact⟨x,rfl,hx⟩
   |succ i=>exact atN_lt k l i ls
  .omega
def atN_at(k:Nm):∀(l:List PR),rq l k<l.length->∃x,l[rq l k]?=some x/\¬iK x.1 k
 |[]=>λh=>eq h lw
 |x::l=>λh=>by
  unfold rq at h ⊢
  split at h
  .rename_i hx;rw[U8 hx];exact atN_at k l (by simp at h;omega)
  .rename_i hx;rw[U9 hx];exact⟨x,rfl,hx⟩
def wB(l:List PR)(k:Nm):Bool:=match l[rq l k]? with|some x=>decide (x.1=k)|none=>false
def J7(a b:Nm):Op.bytesLess a.toList b.toList=decide (iK a b):=by rw[cM,cM,Nd.TD];rfl
def str_eq(a b:Nm):(a.toList==b.toList)=decide (a=b):=by
 rw[cM,cM]
 by_cases h:a=b
 .subst h;simp
 .rw[wn h];simp only[beq_eq_false_iff_ne];intro e;exact h (mP (rk.1 e))
def prc_at(l:List PR)(i:Nat)(x:PR)(h:l[i]?=some x):(kL l)[i*2]?=some (U7 x.1)/\(kL l)[i*2+1]?=some (U7 x.2):=by
 induction l generalizing i with
 |nil=>simp at h
 |cons y l ih=>
  have e:kL (y::l)=U7 y.1::U7 y.2::kL l:=rfl;rw[e]
  cases i with
  |zero=>simp at h;subst h;exact⟨rfl,rfl⟩
  |succ i=>
   have:=ih i (by simpa using h);rw[show(i+1)*2=i*2+1+1 by omega];simpa using this
def Mp.at(h:Mp w mb v l)(i:Nat)(x:PR)(hx:l[i]?=some x):∃g c,v=U3 (lc g) l.length c/\w.cell? ⟨g,i*2,none⟩=some (U7 x.1)/\w.cell? ⟨g,i*2+1,none⟩=some (U7 x.2):=by
 have hi:=(aW.1 hx).1;obtain⟨g,c,rest,e,B,_⟩:=h.s.form ls ls;obtain⟨h1,h2⟩:=prc_at l i x hx;refine⟨g,c,e,?_,?_⟩
 .rw[B.cell,dr,bX (aW.1 h1).1];exact h1
 .rw[B.cell,dr,bX (aW.1 h2).1];exact h2
def AM(key fr til:Nm)(w:BY):io prog 106 #[U7 key,U7 fr,U7 til] w λe w'=>e=fd (WF (FZ fr til key))/\w=w':=by
 have c1:Op.bytesLess key.toList fr.toList= !decide (q8 fr key):=by
  rw[J7];have h:=Nd.JM fr.data.toList key.data.toList
  by_cases hk:q8 fr key
  .rw[ww hk,wn (by show ¬Nd.cb _ _<0;have:Nd.cb fr.data.toList key.data.toList<=0:=hk;omega)];rfl
  .rw[wn hk,ww (by show Nd.cb _ _<0;have:¬Nd.cb fr.data.toList key.data.toList<=0:=hk;omega)];rfl
 have c2:=J7 key til;have c3:til.toList.isEmpty=decide (til.size=0):=by
  rw[cM]
  by_cases h:til.size=0
  .rw[ww h,show til=⟨#[]⟩from mP (zal0q h)];rfl
  .rw[wn h]
   cases hl:til.data.toList with
   |nil=>exact eq (show til.data.toList.length=0 by rw[hl];rfl) h
   |cons a b=>rfl
 unfold FZ;generalize decide (q8 fr key)=a at *;generalize decide (iK key til)=b at *;generalize decide (til.size=0)=d at *
 cases a<;>cases b<;>cases d
 all_goals
  go_in;go_wp2;go_ret;exact bz (by first|rfl|trivial)
def J8(h:Mp w mb v l)(key:Nm):
  io prog 105 #[lc mb,U7 key] w λe w'=>e=fd (rg #[(rq l key:Nat),WF (wB l key)])/\i7 w w':=by
 obtain⟨A,c,rfl⟩:=aI h.s;have x0:=h.b.bi 0;have hn:=h.n;have HM:=xh h;have HLE:=xh<|Rq key l;have rD:=xh<|atN_lt key l;have HAT:=xh<|atN_at key l;obtain⟨ln,oF⟩:∃ln,l.length=ln:=⟨_,rfl⟩;have Bc:=xh oF;obtain⟨at_,hat⟩:∃a,rq l key=a:=⟨_,rfl⟩;have HATE:=xh hat;rw[hat]at HLE rD HAT ⊢;rw[oF]at HLE HAT x0 hn;have O0:=xh<|i5 w;obtain⟨bb,Bd⟩:∃bb,wB l key=bb:=⟨_,rfl⟩;have HBB:=xh Bd;rw[Bd]
 clear h oF hat Bd;go_in;go_wp2_with fail
 go_loopw [6] (λiv wr=> ∃i:Nat,i<=at_/\iv=U5 U6 i/\wr=w) (λiv _=>ln-(intOf iv).toNat)
 case atStart=>exact⟨0,bG _,rfl,rfl⟩
 case round=>
  obtain⟨i,hi,rfl,rfl⟩:=hrel;have hle:=HLE.o
  by_cases h1:i<ln
  .have h1I:(i:Int)<(ln:Int):=ls
   have ei:U6.wrap ((i:Int)+1)=((i+1:Nat):Int):=d9
   by_cases h2:i<at_
   .obtain⟨x,hx,hk⟩:=rD.o i h2;obtain⟨g,c',hv,d0,_⟩:=HM.o.at i x hx;injection hv with rB rl Kp
    subst rB;have c1:=(J7 x.1 key).trans (ww hk);clear rl Kp hx hk;go_wp2;go_roundw
    case rel=>exact⟨i+1,ls,by go_num,by trivial⟩
    case measure=>simp[intOf];omega
   .obtain rfl:i=at_:=ls
    obtain⟨x,hx,hk⟩:=HAT.o h1;obtain⟨g,c',hv,d0,_⟩:=HM.o.at i x hx;injection hv with rB rl Kp
    subst rB;have c1:=(J7 x.1 key).trans (wn (by first|exact hk|exact Int.not_lt.2 hk));have c2:=str_eq x.1 key;have da:bb=decide (x.1=key):=by rw[<-HBB.o];unfold wB;rw[HATE.o,hx]
    rw[<-da]at c2;clear rl Kp hx hk da;have S0:=g9 (wr.drew.cell? (lc mb)=some (U3 (lc g) ln c)/\wr.drew.cell? ⟨g,i*2,none⟩=some (U7 x.1)) ⟨x0,d0⟩;go_wp2;refine kw (λW=>W.cell? (lc mb)=some (U3 (lc g) ln c)/\W.cell? ⟨g,i*2,none⟩=some (U7 x.1)) (S0.o) (λaC=>?_)
    refine dj [(0,28),(1,29),(2,30),(3,31),(4,32),(5,33),(6,34),(7,35),(8,36),(9,37),(10,38),(11,39),(12,40),(13,41),(14,42),(15,43),(16,44),(17,45),(18,46),(19,47),(20,4),(21,5)] ?_
    iterate 22 refine bJ ?_
    refine jp ?_ _;go_wp2;go_ret2;exact bz O0.o.drew
  .obtain rfl:i=at_:=ls
   have h1I:¬(i:Int)<(ln:Int):=ls
   have da:bb=false:=by
    rw[<-HBB.o];unfold wB;rw[HATE.o,fw (by have:=Bc.o;omega)]
   have QR:=xh da;clear da;have S0:=g9 (wr.drew.cell? (lc mb)=some (U3 A ln c)) x0;go_wp2;refine kw (λW=>W.cell? (lc mb)=some (U3 A ln c)) (S0.o) (λaC=>?_);refine dj [(0,28),(1,29),(2,30),(3,31),(4,32),(5,33),(6,34),(7,35),(8,36)] ?_
   iterate 9 refine bJ ?_
   refine bK 9 37 ?_;refine bK 10 38 ?_;refine bK 11 39 ?_;refine bK 12 40 ?_;refine bK 13 41 ?_;refine bK 14 42 ?_;refine bK 15 43 ?_;refine bK 16 44 ?_;refine bK 17 45 ?_;refine bK 18 46 ?_;refine dj [(19,47),(20,4),(21,5)] ?_
   iterate 3 refine bJ ?_
   refine jp ?_ _;go_wp2;go_ret2;rw[QR.o];exact bz O0.o.drew
variable{w:BY}{mb:Nat}{v:By}{l:List PR}
def vf(l:List PR)(key:Nm):Nm×Int:=if wB l key=true then(((l[rq l key]?).getD (⟨#[]⟩,⟨#[]⟩)).2,0)else(⟨#[]⟩,9)
def kn(fr til:Nm)(n:Int)(l:List PR):List PR:=l.foldl (λo x=>if FZ fr til x.1=true/\(o.length:Int)<n then o++[x]else o) []
def oG(fr til:Nm)(l:List PR):List PR:=l.filter λx=> !FZ fr til x.1
def Fe(fr til:Nm)(n:Int)(l:List PR)(i:Nat)(x:PR)(h:l[i]?=some x):kn fr til n (l.take (i+1))=if FZ fr til x.1=true/\((kn fr til n (l.take i)).length:Int)<n then kn fr til n (l.take i)++[x]else kn fr til n (l.take i):=by
 unfold kn;rw[wH,h,List.foldl_append];rfl
def uE(fr til:Nm)(n:Int)(l:List PR):∀i,(kn fr til n (l.take i)).length<=i
 |0=>by simp[kn]
 |i+1=>by
  have ih:=uE fr til n l i
  cases h:l[i]? with
  |none=>
   have e:l.take (i+1)=l.take i:=by rw[wH,h];simp
   rw[e];omega
  |some x=>
   rw[Fe fr til n l i x h]
   split
   .rw[bC];simp;omega
   .omega
def Wn(fr til:Nm)(l:List PR)(i:Nat)(x:PR)(h:l[i]?=some x):oG fr til (l.take (i+1))=if FZ fr til x.1=true then oG fr til (l.take i)else oG fr til (l.take i)++[x]:=by
 unfold oG;rw[wH,h,yo]
 cases hx:FZ fr til x.1<;>simp[hx]
def outP_len(fr til:Nm)(l:List PR)(i:Nat):(oG fr til (l.take i)).length<=i:=by
 unfold oG;exact aD (I0 _ _) (by rw[bY];omega)
def mget_any(h:Mp w mb v l)(key:Nm):
  io prog 107 #[lc mb,U7 key] w λe w'=>e=fd (rg #[U7 (vf l key).1,U5 U6 (vf l key).2])/\i7 w w':=by
 have KA:=xh<|J8 h key;unfold vf
 cases hb:wB l key with
 |false=>
  rw[hb]at KA;rw[i8];clear h hb;go_in;go_wp2_with fail;go_call KA.o as e w1 ⟨rfl,bu⟩;have O1:=xh bu;clear bu;go_wp2;go_ret2;exact bz O1.o
 |true=>
  rw[hb]at KA;rw[U8 rfl];obtain⟨x,hx⟩:∃x,l[rq l key]?=some x:=by
   cases hx:l[rq l key]? with
   |none=>unfold wB at hb;rw[hx]at hb;cases hb
   |some x=>exact⟨x,rfl⟩
  rw[hx];have dP:=(aW.1 hx).1;have hn:=h.n;have HM:=xh h;have HX:=xh hx;obtain⟨k,hk⟩:∃k,rq l key=k:=⟨_,rfl⟩;obtain⟨ln,oF⟩:∃ln,l.length=ln:=⟨_,rfl⟩;have Bc:=xh oF;rw[hk]at KA HX dP;rw[oF]at dP hn;have hltI:(k:Int)<(ln:Int):=ls
  dsimp only[Option.getD];clear h hb hx hk oF;go_in;go_wp2_with fail;go_call KA.o as e w1 ⟨rfl,bu⟩;have O1:=xh bu;have M1:=HM.o.below bu;have x0:=M1.b.bi 0;obtain⟨g,c,rfl,d0,d1⟩:=M1.at k x HX.o;rw[Bc.o]at x0;clear bu M1;go_wp2;go_ret2;exact bz O1.o
def It(h:Mp w mb v l)(fr til:Nm)(n:Int):
  io prog 108 #[lc mb,U7 fr,U7 til,n] w λe w'=> ∃v',e=fd v'/\bm w' 42 2 v' (kn fr til n l).length (kL (kn fr til n l))/\i7 w w'/\(∀g∈ak v',w.heap.size<=g):=by
 obtain⟨A,c,rfl⟩:=aI h.s;have hn:=h.n;have HM:=xh h;obtain⟨ln,oF⟩:∃ln,l.length=ln:=⟨_,rfl⟩;have Bc:=xh oF;rw[oF]at hn;have x0:=h.b.bi 0;rw[oF]at x0;have KW:=xh AM;have HSU:=xh<|Fe fr til n l;have Xl:=xh<|uE fr til n l;have HF:=g9 (kn fr til n l=kn fr til n (l.take ln)) (by rw[<-oF,ig]);have HO0:=g9 (kn fr til n (l.take 0)=[]) rfl;clear h oF
 go_in;go_wp2_with fail
 go_loopw [9,10] (λov iv wr=> ∃(i:Nat) (out:List PR),i<=ln/\iv=U5 U6 i/\Hid (kn fr til n (l.take i)=out)/\bm wr 42 2 ov out.length (kL out)/\Hid (i7 w wr)/\Hid (∀g∈ak ov,w.heap.size<=g)) (λ_ iv _=>ln-(intOf iv).toNat)
 case atStart=>exact⟨0,[],bG _,rfl,HO0,bm.nil _ _ _,xh (Below.refl _ _),xh (by simp[ak])⟩
 case round=>
  obtain⟨i,out,hi,rfl,HO,S,O,FO⟩:=hrel;clear x0;have x0:=(HM.o.below O.o).b.ae (i:=0) rfl;rw[Bc.o]at x0;obtain⟨VO,co,rfl⟩:=aI S;have hol:=Xl.o i;rw[HO.o]at hol
  by_cases h1:i<ln
  .have h1I:(i:Int)<(ln:Int):=ls
   obtain⟨x,HX⟩:∃x,Hid (l[i]?=some x):=⟨_,xh (aQ (by rw[Bc.o];exact h1))⟩;obtain⟨g,c',hv,d0,d1⟩:=(HM.o.below O.o).at i x HX.o;injection hv with rB rl Kp
   subst rB;clear rl Kp;have ei:U6.wrap ((i:Int)+1)=((i+1:Nat):Int):=d9;have hs:=HSU.o i x HX.o;rw[HO.o]at hs
   by_cases h2:FZ fr til x.1=true
   .by_cases h3:(out.length:Int)<n
    .rw[U8 ⟨h2,h3⟩]at hs;have HO7:=xh hs;have Lu:=xh<|KW.o x.1 fr til wr;rw[h2]at Lu;clear hs h2;go_wp2_with fail;go_call Lu.o as e _ ⟨rfl,rfl⟩;obtain⟨v',w7,ea,S7,o7,f7⟩:=zH S x.1 x.2 ls;obtain⟨V7,c7,rfl⟩:=aI S7;have hpr:kL out++[Value.string x.1,Value.string x.2]=kL (out++[x]):=by rw[uC];rfl
     rw[hpr]at S7;have S7:=g9 (bm w7 42 2 (U3 V7 (out.length+1) c7) (out++[x]).length (kL (out++[x]))) (by rw[bC];exact S7);have O7:=xh<|O.o.trans (o7.bI O.o.size FO.o);have F7:=g9 (∀g'∈ak (U3 V7 (out.length+1) c7),w.heap.size<=g') (λg' hg=>(f7 g' hg).elim (FO.o g') (λh=>aD O.o.size h));have EA:=xh ea;clear ea o7 f7 hpr S;generalize out.length=ol at *;go_wp2_with fail;rw[EA.o];go_wp2_with fail
     go_roundw
     case rel=>exact⟨i+1,out++[x],ls,by go_num,HO7,S7.o,O7,F7⟩
     case measure=>simp[intOf];omega
    .rw[U9 (λh=>h3 h.2)]at hs;have HO7:=xh hs;have Lu:=xh<|KW.o x.1 fr til wr;rw[h2]at Lu;have S7:=xh S;clear hs h2 S;go_wp2_with fail;go_call Lu.o as e _ ⟨rfl,rfl⟩;go_wp2;go_roundw
     case rel=>exact⟨i+1,out,ls,by go_num,HO7,S7.o,O,FO⟩
     case measure=>simp[intOf];omega
   .rw[U9 (λh=>h2 h.1)]at hs;have HO7:=xh hs;have Lu:=xh<|KW.o x.1 fr til wr;rw[Xt]at h2;rw[h2]at Lu;have S7:=xh S;clear hs h2 S;go_wp2_with fail;go_call Lu.o as e _ ⟨rfl,rfl⟩;go_wp2;go_roundw
    case rel=>exact⟨i+1,out,ls,by go_num,HO7,S7.o,O,FO⟩
    case measure=>simp[intOf];omega
  .have h1I:¬(i:Int)<(ln:Int):=ls
   obtain rfl:i=ln:=ls
   have S7:=xh S;have hf:=HF.o;rw[HO.o]at hf;have HF7:=xh hf;clear S hf;go_wp2;go_ret;rw[HF7.o];exact⟨_,by first|rfl|simp,S7.o,O.o,FO.o⟩
def Rs(h:Mp w mb v l)(fr til:Nm):
  io prog 56 #[lc mb,U7 fr,U7 til] w λe w'=>e=fd (U5 U6 ((l.length:Int)-(oG fr til l).length))/\∃v',Mp w' mb v' (oG fr til l)/\ah [mb] w w'/\(∀g∈ak v',w.heap.size<=g):=by
 obtain⟨A,c,rfl⟩:=aI h.s;have hn:=h.n;have HM:=xh h;obtain⟨ln,oF⟩:∃ln,l.length=ln:=⟨_,rfl⟩;have Bc:=xh oF;rw[oF]at hn;have x0:=h.b.bi 0;rw[oF]at x0;have KW:=xh AM;have HMB:=xh h.b.lt;have HSU:=xh<|Wn fr til l;have Xl:=xh<|outP_len fr til l;have HF:=g9 (oG fr til l=oG fr til (l.take ln)) (by rw[<-oF,ig]);have HO0:=g9 (oG fr til (l.take 0)=[]) rfl;clear h oF
 go_in;go_wp2_with fail
 go_loopw [7,8] (λov iv wr=> ∃(i:Nat) (out:List PR),i<=ln/\iv=U5 U6 i/\Hid (oG fr til (l.take i)=out)/\bm wr 42 2 ov out.length (kL out)/\Hid (i7 w wr)/\Hid (∀g∈ak ov,w.heap.size<=g)) (λ_ iv _=>ln-(intOf iv).toNat)
 case atStart=>exact⟨0,[],bG _,rfl,HO0,bm.nil _ _ _,xh (Below.refl _ _),xh (by simp[ak])⟩
 case round=>
  obtain⟨i,out,hi,rfl,HO,S,O,FO⟩:=hrel;clear x0;have BB:=(HM.o.below O.o).b;have x0:=BB.bi 0;have f0:=BB.frozen 0 lw;rw[Bc.o]at x0;obtain⟨VO,co,rfl⟩:=aI S;have hol:=Xl.o i;rw[HO.o]at hol
  by_cases h1:i<ln
  .have h1I:(i:Int)<(ln:Int):=ls
   clear f0 BB;obtain⟨x,HX⟩:∃x,Hid (l[i]?=some x):=⟨_,xh (aQ (by rw[Bc.o];exact h1))⟩;obtain⟨g,c',hv,d0,d1⟩:=(HM.o.below O.o).at i x HX.o;injection hv with rB rl Kp
   subst rB;clear rl Kp;have ei:U6.wrap ((i:Int)+1)=((i+1:Nat):Int):=d9;have hs:=HSU.o i x HX.o;rw[HO.o]at hs
   by_cases h2:FZ fr til x.1=true
   .rw[U8 h2]at hs;have HO7:=xh hs;have Lu:=xh<|KW.o x.1 fr til wr;rw[h2]at Lu;have S7:=xh S;clear hs h2 S;go_wp2_with fail;go_call Lu.o as e _ ⟨rfl,rfl⟩;go_wp2;go_roundw
    case rel=>exact⟨i+1,out,ls,by go_num,HO7,S7.o,O,FO⟩
    case measure=>simp[intOf];omega
   .rw[U9 h2]at hs;have HO7:=xh hs;have Lu:=xh<|KW.o x.1 fr til wr;rw[Xt]at h2;rw[h2]at Lu;clear hs h2;go_wp2_with fail;go_call Lu.o as e _ ⟨rfl,rfl⟩;obtain⟨v',w7,ea,S7,o7,f7⟩:=zH S x.1 x.2 ls;obtain⟨V7,c7,rfl⟩:=aI S7;have hpr:kL out++[Value.string x.1,Value.string x.2]=kL (out++[x]):=by rw[uC];rfl
    rw[hpr]at S7;have S7:=g9 (bm w7 42 2 (U3 V7 (out.length+1) c7) (out++[x]).length (kL (out++[x]))) (by rw[bC];exact S7);have O7:=xh<|O.o.trans (o7.bI O.o.size FO.o);have F7:=g9 (∀g'∈ak (U3 V7 (out.length+1) c7),w.heap.size<=g') (λg' hg=>(f7 g' hg).elim (FO.o g') (λh=>aD O.o.size h));have EA:=xh ea;clear ea o7 f7 hpr S;generalize out.length=ol at *;go_wp2_with fail;rw[EA.o];go_wp2_with fail
    go_roundw
    case rel=>exact⟨i+1,out++[x],ls,by go_num,HO7,S7.o,O7,F7⟩
    case measure=>simp[intOf];omega
  .have h1I:¬(i:Int)<(ln:Int):=ls
   obtain rfl:i=ln:=ls
   have hf:=HF.o;rw[HO.o]at hf;have e1:U6.wrap ((i:Int)-(out.length:Int))=(i:Int)-(out.length:Int):=d9;have fy:=eg S BB ms;have o1:ah [mb] wr (wr.setCell ⟨mb,0,none⟩ (U3 VO out.length co)):=(ah.refl _ _).setCell lw _;have M7:=g9 (Mp (wr.setCell ⟨mb,0,none⟩ (U3 VO out.length co)) mb (U3 VO out.length co) out) ⟨BB.ct 0 _,S.only o1 (λg hg hm=>fy (by rw[<-aG.1 hm];exact hg)),ls⟩
   have O7:=xh<|(ah.aj (S:=[mb]) O.o).trans o1;have HF7:=xh hf;clear S hf fy o1 BB;obtain⟨ol,hol2⟩:∃ol,out.length=ol:=⟨_,rfl⟩;have HOL:=xh hol2;rw[hol2]at e1 M7 O7 FO ⊢;clear hol2 hol;go_wp2;go_ret;rw[HF7.o,Bc.o,HOL.o];exact bz ⟨_,M7.o,O7.o,FO.o⟩
end Sh
namespace Sh
open Go.RowKit Pk Dk Pg
open Nd (E aL bQ aJ aP dm bw aY cg)
variable{fr pg n K:Nat}
def zeros64b:kz []=it 64 0:=by unfold kz;simp
def Gu(n:Nat)(h1:2<=n)(hn:n<=4096):fD (eI (D.zero n) n).d n 1 0 [] []/\Twin (eI (D.zero n) n).d 0 1:=by
 have z:(D.zero n).down=false/\(D.zero n).aq=0:=⟨rfl,rfl⟩;have ok0:=qH n hn;obtain⟨w1,w2,w3⟩:=jk (d:=D.zero n) (n:=n) (k:=0) z.1 z.2 ls gU;have ok1:=ok0.write ((0:Nat):Int) gU;have n1:=pH ok0 0 ls gU w1;obtain⟨v1,v2,v3⟩:=jk (d:=((D.zero n).ao n ((0:Nat):Int) gU).1) (n:=n) (k:=1) w2 w3 ls [];have n2:=pH ok1 1 ls [] v1;obtain⟨s1,s2,s3,s4⟩:=lX v2 v3
 have hd:(eI (D.zero n) n).d=((((D.zero n).ao n ((0:Nat):Int) gU).1.ao n ((1:Nat):Int) []).1.cX).1:=rfl;have e0:sec (eI (D.zero n) n).d.now 0=gU:=by
  rw[hd,s4,n2 0 ls,ge,n1 0 ls,U8 rfl];exact yC _ (Rt.nj 1 0 [] lw)
 have e1:sec (eI (D.zero n) n).d.now 1=it 64 0:=by
  rw[hd,s4,n2 1 ls,U8 rfl,zeros64b]
 have hdec:Rt.fi (it 64 0)<1:=by decide+kernel
 refine⟨⟨h1,Yl,.inl rfl,e0,λ_=>?_,λi x hx=>by simp at hx,λj _ _=>by rw[hd];exact qM s1 j⟩,?_⟩
 .show Rt.fi (sec (eI (D.zero n) n).d.now 1)<1;rw[e1];exact hdec
 .unfold Twin;show(sec (eI (D.zero n) n).d.now 1).take 8=(sec (eI (D.zero n) n).d.now 1).drop 56/\Rt.fi (sec (eI (D.zero n) n).d.now 1)<1;rw[e1];exact⟨lw,hdec⟩
def Nk(n:Nat)(h1:1<=cN n)(hn:n<=4096)(fN:(eI (D.zero n) n).d.Ok n):Good (eI (D.zero n) n) n/\(eI (D.zero n) n).bU n=St.start (cN n)/\(eI (D.zero n) n).d.calls<=10/\fD (eI (D.zero n) n).d n 1 0 [] []/\Twin (eI (D.zero n) n).d 0 1:=by
 obtain⟨g,e,hc⟩:=Qi n h1 hn fN;have hr:=Gu n (by unfold cN cJ at h1;omega) hn;exact⟨g,e,hc,hr⟩
def QS.start(fr pg:Nat):QS:=⟨St.start pg,it fr Fr.nil,0⟩
def vZ:Vw:=λ_=>([],3)
def yh:Vw:=kU vZ 0 (bM true []).1
def start_vi(fr pg:Nat):Vi (QS.start fr pg):=by
 have hn:∀f∈(QS.start fr pg).l,f=Fr.nil:=λf hf=>jQ hf;have hp:∀f∈(QS.start fr pg).l,¬0<=f.au:=λf hf=>by rw[hn f hf];show ¬(0:Int)<= -1;omega
 exact⟨λi j f g hi hj e h0=>eq h0 (hp f (ay hi)),λf hf h0=>eq h0 (hp f hf),λf hf h0=>eq h0 (hp f hf),λf hf _=>by rw[hn f hf];rfl,λf hf h0=>eq h0 (hp f hf)⟩
def start_wp(H:Hq (QS.start fr pg) n K):Wp (QS.start fr pg) n K:=⟨H,start_vi fr pg,λf hf=>by rw[jQ hf];rfl⟩
def Ff(pg:Nat)(j:Int):(St.start pg).aO j=([],3):=by
 unfold St.aO;have:(St.start pg).at j=none:=by unfold St.at St.start;split<;>simp
 rw[this]
def start_rd(H:Hq (QS.start fr pg) n K):Rd (QS.start fr pg) vZ vZ 0 pg:=by
 refine⟨⟨n,K,start_wp H⟩,λj=>?_,λj=>?_,?_,ai _⟩
 .rcases jA (QS.start fr pg) j with ho|⟨k,f,hk,rfl,hp⟩
  .rw[fQ ho];exact Ff pg j
  .rw[show f=Fr.nil from jQ (ay hk)]at hp;exact eq hp (by show ¬(0:Int)<= -1;omega)
 .show({(St.start pg)with now:=jy (St.start pg).aR}:St).aO j=_;exact Ff pg j
 .show 0+(0+cd 0)<=0;decide
def lay0:(bM true []).2=0:=sY (v:=vZ) (h:=0) (λh=>eq rfl h) (by rw[p9];decide)
def Fg:jZ=(bM true []).1:=rfl
def T9:Tree yh 0 []:=by
 have Gx:∀j,jO yh j=if j=0 then(true,[],0)else jO vZ j:=λj=>by unfold yh;rw[iH lay0];rfl
 have hns:aS yh 0 0=[(0,0,[])]:=by unfold aS;rw[Gx 0,U8 rfl]
 refine⟨⟨by rw[Gx 0,U8 rfl],by rw[Gx 0,U8 rfl];decide⟩,by unfold iT;rw[hns];rfl,lw,by rw[hns];simp,λj hj=>?_⟩;rw[hns]
 by_cases h0:j=0
 .simp[h0]
 .unfold yh at hj;rw[nz _ _ h0]at hj;exact eq hj (by show ¬(3:Int)=0;decide)
def Ru(H:Hq (QS.start fr pg) n K)(hp:2<=pg):(QS.start fr pg).dJ.2=0/\Rd (QS.start fr pg).dJ.1 yh vZ 1 pg/\Tree yh 0 []:=by
 have R:=start_rd H;have hlen:=(EG lay0).2.2.1;have hT:=T9;have J3:((QS.start fr pg).bE jZ).2=(0,0):=by
  show((St.start pg).bE jZ).2=_;unfold St.bE;have hs:(St.start pg).slot=0:=rfl;have hf:(St.start pg).free≠0:=by
   show pg-(0+cd 0)-0≠0;have:cd 0=0:=ms
   omega
  rw[U9 (by rw[Fg,hlen];omega),U9 (by rw[hs];omega)];exact mu (by rw[hs];rfl) rfl
 have hn:=R.new ⟨jZ.toArray⟩ (by show jZ.toArray.size<=232;rw[mh,Fg,hlen];exact ai _);have hd:(⟨jZ.toArray⟩:Nm).data.toList=jZ:=rfl;rw[hd]at hn;rw[J3]at hn;have he:ff jZ 232=(bM true []).1:=by
  rw[Fg];exact xw (b:=⟨(bM true []).1.toArray⟩) (by show(bM true []).1.toArray.size=_;rw[mh];exact hlen)
 rcases hn with⟨l,a1,a2,a3,a4⟩|⟨a1,_⟩
 .have hl:((l:Nat):Int)=0:=(congrArg Prod.fst a1).symm;rw[hl,he]at a4;have hpg:(QS.start fr pg).a.jW.length=0:=rfl;have Nl:(QS.start fr pg).kl=(((QS.start fr pg).bE jZ).1,0):=by
   unfold QS.kl;rw[U8 hpg,J3]
  unfold QS.dJ;rw[Nl,i8];have a4:Rd ((QS.start fr pg).bE jZ).1 yh vZ 1 pg:=a4;obtain⟨b1,b2⟩:=a4.read 0;refine⟨?_,b1,hT⟩;show(((QS.start fr pg).bE jZ).1.aT 0).2.2.2=0
  rcases b2 with b2|⟨b2,b3⟩
  .rw[b2,(JV hT.ok).1]
  .omega
 .exact eq (congrArg Prod.snd a1) (by show ¬(0:Int)=11;decide)
def QS.begun(fr pg:Nat):QS:=(QS.start fr pg).dJ.1.an.1
end Sh
namespace Sh
open Go.RowKit Pk Dk Pg
variable{k':Nat}
def Wo(i:Nat):Nat:=if i<=15 then 3 ^ i*2 ^ (15-i)else 0
def J9:Rc Wo 0:=λi=>by
 unfold Wo
 by_cases h:i+1<=15
 .rw[U8 h,g8,show 15-i=(15-(i+1))+1 by omega,Nat.pow_succ,Nat.pow_succ];generalize 3 ^ i=a;generalize 2 ^ (15-(i+1))=b;have e1:a*3*b=3*(a*b):=by rw[tL a 3,Jd]
  have e2:a*(b*2)=2*(a*b):=by rw[<-Jd,tL]
  omega
 .rw[U9 h];omega
def Ua:Wo 0=32768:=by decide+kernel
def wtD_15:Wo 15=14348907:=by decide+kernel
def TL(v:Vw)(l:List PR)(k:Nat):Prop:= ∃H M,Tree v H M/\kV M=l/\H<=15/\fj Wo (aS v H 0)<=k*2588672/\l.length<=k/\∀x∈l,x.1.size<=32
def TL.le{v:Vw}{l:List PR}{k:Nat}(h:TL v l k)(hk:k<=k'):TL v l k':=by
 obtain⟨H,M,a,b,c,d,e⟩:=h;exact⟨H,M,a,b,c,aD d (Nat.mul_le_mul_right _ hk),ls,e.2⟩
def TI(q:QS)(l o:List PR)(mm k:Nat):Prop:= ∃v vo u,Rd q v vo u mm/\TL v l k/\TL vo o k
def TJ(q:QS)(o:List PR)(mm k:Nat):Prop:= ∃v vo u,Rd q v vo u mm/\TL vo o k
def filt2{α:Type}{p r:α->Bool}(h:∀x,p x=true->r x=false):∀l:List α,(l.filter p).length+(l.filter r).length<=l.length
 |[]=>ai _
 |x::l=>by
  have ih:=filt2 h l;rw[lu,lu]
  by_cases hp:p x=true
  .rw[U8 hp,h x hp,i8];simp only[jh];omega
  .rw[U9 hp]
   split<;>simp only[jh]<;>omega
def Fh(l:List PR)(key:Nm):(J6 l key).length+(td l key).length<=l.length:=filt2 (λx hx=>wn λh=>kK (kg (of_decide_eq_true hx) h)) l
section
variable{q:QS}{l o:List PR}{mm k:Nat}
def TI.j(h:TI q l o mm k):TJ q o mm k:=by
 obtain⟨v,vo,u,R,_,To⟩:=h;exact⟨v,vo,u,R,To⟩
def TJ.le(h:TJ q o mm k)(hk:k<=k'):TJ q o mm k':=by
 obtain⟨v,vo,u,R,To⟩:=h;exact⟨v,vo,u,R,To.le hk⟩
def TI.le(h:TI q l o mm k)(hk:k<=k'):TI q l o mm k':=by
 obtain⟨v,vo,u,R,Tl,To⟩:=h;exact⟨v,vo,u,R,Tl.le hk,To.le hk⟩
def TI.set(h:TI q l o mm k)(key value:Nm)(hk:key.size<=32)(hv:value.size<=1024)(hn:k<100):
  ((q.fC key value).2=11/\TJ (q.fC key value).1 o mm k)\/((q.fC key value).2=0/\TI (q.fC key value).1 (xS l key value) o mm (k+1)):=by
 obtain⟨v,vo,u,R,⟨H,M,T,rfl,hH,hp,hl⟩,To⟩:=h;have Xo:=hl.1
 rcases zI R T hH key value hk hv with⟨a,v',u',b,_⟩|⟨a,v',H',M',new,A,C,B,hh,c,b,S,hm⟩
 .exact .inl ⟨a,v',vo,u',b,To⟩
 .have hx:(if value.size<=40 then value.size else 0)<=40:=by split<;>omega
  have p1:=S.JZ Wo 0 J9;rw[Ua,qA,show(if H'=H then 0 else 0)=0 by split<;>rfl]at p1;refine .inr ⟨a,v',vo,u+new,b,⟨H',M',S.t,hm,?_,ls,?_,?_⟩,To.le ls⟩
  .rcases S.h with e|⟨e,f⟩
   .omega
   .by_cases h15:H=15
    .have p2:=f Wo 0 J9;rw[h15,wtD_15,Ua]at p2;rw[h15]at hp;omega
    .omega
  .have:=Fh (kV M) key;unfold xS;simp only[bC,jh];omega
  .intro x hx;unfold xS at hx
   rcases aK.1 hx with hx|hx
   .exact hl.2 x (iB.1 hx).1
   .rcases ax.1 hx with rfl|hx
    .exact hk
    .exact hl.2 x (iB.1 hx).1
def TI.del(h:TI q l o mm k)(key:Nm):
  ((q.fR key).2=11/\TJ (q.fR key).1 o mm k)\/((q.fR key).2=9/\Iq l key=[]/\TI (q.fR key).1 l o mm k)\/((q.fR key).2=0/\Iq l key≠[]/\TI (q.fR key).1 (TZ l key) o mm k):=by
 obtain⟨v,vo,u,R,⟨H,M,T,rfl,hH,hp,hl⟩,To⟩:=h;have Xo:=hl.1
 rcases Is R T hH key with⟨a,_,v',b⟩|⟨a,b,c⟩|⟨a,c,v',H',M',b,t,m,p,hh⟩
 .exact .inl ⟨a,v',vo,u,b,To⟩
 .exact .inr (.inl ⟨a,c,v,vo,u,b,⟨H,M,T,rfl,hH,hp,hl⟩,To⟩)
 .refine .inr (.inr ⟨a,c,v',vo,u,b,⟨H',M',t,m,ls,aD (p Wo) hp,?_,λx hx=>?_⟩,To⟩)
  .have:=Fh (kV M) key;unfold TZ;rw[bC];omega
  .unfold TZ at hx;exact(aK.1 hx).elim (λh=>hl.2 x (iB.1 h).1) (λh=>hl.2 x (iB.1 h).1)
def TI.clear(h:TI q l o mm k)(fr til:Nm):
  ((q.eR fr til).2.2=11/\TJ (q.eR fr til).1 o mm k)\/((q.eR fr til).2=((((l.filter (yg fr til)).length:Nat):Int),0)/\TI (q.eR fr til).1 (l.filter λx=> !yg fr til x) o mm k):=by
 obtain⟨v,vo,u,R,⟨H,M,T,rfl,hH,hp,hl⟩,To⟩:=h;have Xo:=hl.1
 rcases Rm R T hH fr til with⟨a,_,v',b⟩|⟨a,v',H',M',b,P⟩
 .exact .inl ⟨a,v',vo,u,b,To⟩
 .exact .inr ⟨a,v',vo,u,b,⟨H',M',P.t,P.m,aD P.h hH,aD (P.JZ Wo) hp,aD (I0 ..) hl.1,λx hx=>hl.2 x (iB.1 hx).1⟩,To⟩
def TI.gZ(h:TI q l o mm k)(hK:∃n K,Wp q n K/\K<=999999999000):(q.an.2=0/\TI q.an.1 l l mm k)\/(q.an.2=11/\TJ q.an.1 o mm k):=by
 obtain⟨v,vo,u,R,Tl,To⟩:=h
 rcases R.gZ hK with⟨a,b⟩|⟨a,b,_⟩
 .exact .inl ⟨a,v,v,_,b,Tl,Tl⟩
 .exact .inr ⟨a,v,vo,u,b,To⟩
def TI.pR(h:TI q l o mm k)(i:Int):TI (q.dk i).1 l o mm k/\((q.dk i).2=0\/(q.dk i).2=3\/(q.dk i).2=11):=by
 obtain⟨v,vo,u,R,Tl,To⟩:=h;obtain⟨a,b⟩:=R.pR i;exact⟨⟨v,vo,u,a,Tl,To⟩,b⟩
def TI.get(h:TI q l o mm k)(key:Nm):TI (q.gD key).1 l o mm k/\((q.gD key).2.2=11\/(q.gD key).2=Nf (Iq l key)):=by
 obtain⟨v,vo,u,R,⟨H,M,T,rfl,hH,hp,hl⟩,To⟩:=h;have Xo:=hl.1;obtain⟨a,b⟩:=Fc R T hH key;exact⟨⟨v,vo,u,a,⟨H,M,T,rfl,hH,hp,hl⟩,To⟩,b.imp (·.1) id⟩
def TI.scan(h:TI q l o mm k)(fr til:Nm)(n:Int):TI (q.dL fr til n).1 l o mm k/\((q.dL fr til n).2.2=11\/(q.dL fr til n).2=((l.filter (yg fr til)).take n.toNat,0)):=by
 obtain⟨v,vo,u,R,⟨H,M,T,rfl,hH,hp,hl⟩,To⟩:=h;have Xo:=hl.1;obtain⟨a,b⟩:=Ik R T hH fr til n;exact⟨⟨v,vo,u,a,⟨H,M,T,rfl,hH,hp,hl⟩,To⟩,b.imp (·.1) id⟩
def TI.last(h:TI q l o mm k)(fr til:Nm):TI (q.gj fr til).1 l o mm k/\((q.gj fr til).2.2=11\/(q.gj fr til).2=match (l.filter (yg fr til)).getLast? with|none=>((⟨#[]⟩,⟨#[]⟩),9)|some x=>(x,0)):=by
 obtain⟨v,vo,u,R,⟨H,M,T,rfl,hH,hp,hl⟩,To⟩:=h;have Xo:=hl.1;obtain⟨a,b⟩:=Wm R T hH fr til;exact⟨⟨v,vo,u,a,⟨H,M,T,rfl,hH,hp,hl⟩,To⟩,b.imp (·.1) id⟩
def TJ.back(h:TJ q o mm k):q.bt.dJ.2=0/\TI q.bt.dJ.1 o o mm k:=by
 obtain⟨v,vo,u,R,To⟩:=h;obtain⟨H,M,T,e,hH,hp,hl⟩:=To;obtain⟨u',a,b⟩:=E9 R T;exact⟨b,vo,vo,u',a,⟨H,M,T,e,hH,hp,hl⟩,⟨H,M,T,e,hH,hp,hl⟩⟩
def TI.sorted(h:TI q l o mm k):l.Pairwise (λa b=>iK a.1 b.1)/\l.length<=k:=by
 obtain⟨v,vo,u,R,⟨H,M,T,rfl,hH,hp,hl⟩,To⟩:=h;have Xo:=hl.1;exact⟨T.keys,hl.1⟩
end
def T0_pot:fj Wo (aS yh 0 0)<=0:=by
 have Gx:jO yh 0=(true,[],0):=by unfold yh;rw[iH lay0,U8 rfl];rfl
 unfold aS;rw[Gx];decide
def TI.start{q:QS}{mm u:Nat}(R:Rd q yh yh u mm)(hT:Tree yh 0 []):TI q [] [] mm 0:=by
 have t:TL yh [] 0:=⟨0,[],hT,rfl,ls,by have:=T0_pot;omega,lw,lw⟩;exact⟨yh,yh,u,R,t,t⟩
def uF(key:Nm):∀l:List PR,l.Pairwise (λa b=>iK a.1 b.1)->
  l.take (rq l key)=J6 l key/\l.drop (if wB l key=true then rq l key+1 else rq l key)=td l key/\(wB l key=true↔Iq l key≠[])/\vf l key=Nf (Iq l key)
 |[],_=>⟨rfl,by simp[td],by simp[wB,Iq],by simp[vf,wB,Iq,Nf]⟩
 |x::l,hs=>by
  obtain⟨h1,h2⟩:=eT.1 hs
  by_cases hx:iK x.1 key
  .obtain⟨a,b,c,d⟩:=uF key l h2;have e1:rq (x::l) key=rq l key+1:=by show(if iK x.1 key then _ else _)=_;rw[U8 hx]
   have e2:wB (x::l) key=wB l key:=by unfold wB;rw[e1,yq]
   have e3:Iq (x::l) key=Iq l key:=by unfold Iq;rw[lu,U9 (by simpa using vY hx)]
   refine⟨?_,?_,by rw[e2,e3];exact c,?_⟩
   .rw[e1,oK,a];unfold J6;rw[lu,U8 (by simpa using hx)]
   .have e4:(if wB l key=true then rq l key+1+1 else rq l key+1)=(if wB l key=true then rq l key+1 else rq l key)+1:=by split<;>rfl
    rw[e2,e1,e4,CA,b];unfold td;rw[lu,U9 (by simpa using λh=>kK (kg hx h))]
   .rw[e3,<-d];unfold vf;rw[e2,e1,yq]
  .have e1:rq (x::l) key=0:=by show(if iK x.1 key then _ else _)=_;rw[U9 hx]
   have hy:∀y∈l,iK key y.1:=λy hy=>kh (oo hx) (h1 y hy);have e2:wB (x::l) key=decide (x.1=key):=by unfold wB;rw[e1];rfl
   have l1:J6 (x::l) key=[]:=by
    unfold J6;refine filter_none λy hm=>wn ?_
    rcases ax.1 hm with rfl|hm
    .exact hx
    .exact λh=>kK (kg h (hy y hm))
   have l2:td l key=l:=filter_all λy hm=>ww (hy y hm);have l3:Iq l key=[]:=filter_none λy hm=>wn λe=>vY (hy y hm) e.symm;refine⟨by rw[e1,l1];rfl,?_⟩
   by_cases hk:x.1=key
   .have e3:Iq (x::l) key=[x]:=by
     have l3':=l3;unfold Iq at l3' ⊢;rw[lu,U8 (by simpa using hk),l3']
    rw[e1,e2,e3,ww hk,U8 rfl];refine⟨?_,lw,?_⟩
    .show l=_;unfold td;rw[lu,U9 (by simpa using λh=>vY h hk.symm)];exact l2.symm
    .unfold vf;rw[e2,ww hk,U8 rfl,e1];rfl
   .have hkx:iK key x.1:=(uB (oo hx)).resolve_right λe=>hk e.symm;have e3:Iq (x::l) key=[]:=by
     have l3':=l3;unfold Iq at l3' ⊢;rw[lu,U9 (by simpa using hk),l3']
    rw[e1,e2,e3,wn hk,i8];refine⟨?_,lw,?_⟩
    .show x::l=_;have l2':=l2;unfold td at l2' ⊢;rw[lu,U8 (by simpa using hkx),l2']
    .unfold vf;rw[e2,wn hk,i8];rfl
def Ub(fr til:Nm)(n:Int)(l:List PR):kn fr til n l=(l.filter (yg fr til)).take n.toNat:=by
 have h:∀(l o:List PR),l.foldl (λo x=>if FZ fr til x.1=true/\(o.length:Int)<n then o++[x]else o) o=o++(l.filter (yg fr til)).take (n-(o.length:Nat)).toNat:=by
  intro l
  induction l with
  |nil=>intro o;simp
  |cons x l ih=>
   intro o;rw[CD,ih,lu];have hi:yg fr til x=FZ fr til x.1:=rfl
   by_cases h1:FZ fr til x.1=true
   .rw[hi,U8 h1]
    by_cases h2:(o.length:Int)<n
    .rw[U8 ⟨h1,h2⟩,cV,bC]
     congr 1
     rw[show(n-((o.length:Nat):Int)).toNat=(n-((o.length+[x].length:Nat):Int)).toNat+1 by simp;omega];rfl
    .rw[U9 (λh=>h2 h.2),show(n-((o.length:Nat):Int)).toNat=0 by omega];simp
   .rw[hi,U9 (λh=>h1 h.1),U9 h1]
 unfold kn;rw[h l []];simp
def out_eq(fr til:Nm)(l:List PR):oG fr til l=l.filter (λx=> !yg fr til x):=rfl
def Wq(fr til:Nm)(l:List PR):(l.length:Int)-(oG fr til l).length=((l.filter (yg fr til)).length:Nat):=by
 have h:∀l:List PR,(oG fr til l).length+(l.filter (yg fr til)).length=l.length:=by
  intro l
  induction l with
  |nil=>rfl
  |cons x l ih=>
   unfold oG at ih ⊢;have hi:yg fr til x=FZ fr til x.1:=rfl;rw[lu,lu,hi]
   cases FZ fr til x.1<;>simp<;>omega
 have:=h l;omega
def Nn(fr til:Nm)(l:List PR)(hl:l.length<=1000000){n:Int}(hn:1000000<=n):kn fr til n l=l.filter (yg fr til):=by
 rw[Ub,cR];have:=I0 (yg fr til) l;omega
def Ka(l:List PR):l.filter (yg ⟨#[]⟩ ⟨#[]⟩)=l:=by
 refine filter_all λx _=>?_;unfold yg FZ;rw[ww (zy x.1)];rfl
attribute [local go_sem ↓] bP
variable{w:BY}{v:By}{n mb c:Nat}{l:List PR}{A V:Option Addr}
def tg{l:List By}(S:bm w 42 2 v n l)(B:Option Addr)(m c:Nat)(lx:List By)(hl:lx.length=m*2)
 (hs:m=0\/∃a,B=some a/\∀j u,lx[j]?=some u->w.cell? (a.add j)=some u)(h1:∀u∈lx,u.oneCell'=true)(hn:n+m<=4000000):
  ∃v' w',eM prog 30 30 w v (U3 B m c)= .ok v' w'/\bm w' 42 2 v' (n+m) (l++lx)/\ah (ak v) w w'/\(∀g∈ak v',g∈ak v\/w.heap.size<=g):=by
 obtain⟨i0,hi,lC,kH,lM⟩:=info_parts E4;have ht:prog.underlying 30=some (.slice 42):=underlying30
 cases B with
 |some a=>
  have hs':∀j u,lx[j]?=some u->w.cell? (a.add j)=some u:=by
   rcases hs with rfl|⟨a',e,h⟩
   .intro j u hj;have:lx=[]:=pf ls;rw[this]at hj;simp at hj
   .injection e with e;subst e;exact h
  exact eu (P:=prog) S 30 30 i0 _ 32 ht hi lC kH lM rfl ls a m c lx hl hs' h1 (by unfold sh;omega) ls
 |none=>
  have hm:m=0:=hs.elim id λ⟨a,e,_⟩=>by cases e
  subst hm;have hlx:lx=[]:=pf ls;subst hlx;refine⟨v,w,?_,by rw[kM];exact S,ah.refl _ _,λx hx=> .inl hx⟩;unfold eM
  rcases S.2 with⟨rfl,h0⟩|⟨g,cap,rest,rfl,BB,hc,hm⟩
  .simp[Builtin.append_,run_underlying ht,sizeOf,typeInfo,hi,Builtin.lenOf,Builtin.firstCells]
  .have hl:=S.1;have Kx:n<=cap:=ls
   simp[Builtin.append_,run_underlying ht,sizeOf,typeInfo,hi,Builtin.lenOf,Builtin.firstCells,Kx,storeCells]
def Mp.len(h:Mp w mb (U3 A n c) l):l.length=n:=by
 obtain⟨A',c',e⟩:=aI h.s;injection e with _ e _
 exact e.symm
def Cq(l:List PR):∀u∈kL l,u.oneCell'=true:=λu hu=>by
 unfold kL at hu;obtain⟨x,_,hx⟩:=oI.1 hu;simp only[ax,iD,or_false]at hx
 rcases hx with rfl|rfl<;>rfl
def Np(l:List PR)(i:Nat):kL (l.take i)=(kL l).take (i*2):=by
 induction l generalizing i with
 |nil=>simp[kL]
 |cons x l ih=>
  cases i with
  |zero=>simp[kL]
  |succ i=>
   have:=ih i;unfold kL at this ⊢;rw[oK,jg,jg,this,show(i+1)*2=i*2+1+1 by omega];rfl
def Nq(l:List PR)(i:Nat):kL (l.drop i)=(kL l).drop (i*2):=by
 induction l generalizing i with
 |nil=>simp[kL]
 |cons x l ih=>
  cases i with
  |zero=>simp
  |succ i=>
   have:=ih i;unfold kL at this ⊢;rw[CA,jg,this,show(i+1)*2=i*2+1+1 by omega];rfl
def Iu(l:List PR)(key value:Nm):List PR:=if 32<key.size\/1024<value.size then l else l.take (rq l key)++(key,value)::l.drop (if wB l key=true then rq l key+1 else rq l key)
def Iv(l:List PR)(key:Nm):List PR:=if wB l key=true then l.take (rq l key)++l.drop (rq l key+1)else l
def mdel_any(h:Mp w mb v l)(key:Nm):
  io prog 55 #[lc mb,U7 key] w λe w'=>e=fd (U5 U6 (if wB l key=true then 0 else 9))/\∃v',Mp w' mb v' (Iv l key)/\ah [mb] w w':=by
 have KA:=xh<|J8 h key;unfold Iv
 cases hb:wB l key with
 |false=>
  rw[hb]at KA;rw[i8,i8];have HM:=xh h;clear h hb;go_in;go_wp2_with fail;go_call KA.o as e w1 ⟨rfl,bu⟩;have O1:=xh bu;clear bu;go_wp2;go_ret;exact bz ⟨v,HM.o.below O1.o,.aj O1.o⟩
 |true=>
  rw[hb]at KA;rw[U8 rfl,U8 rfl];obtain⟨x,hx⟩:∃x,l[rq l key]?=some x:=by
   cases hx:l[rq l key]? with
   |none=>unfold wB at hb;rw[hx]at hb;cases hb
   |some x=>exact⟨x,rfl⟩
  obtain⟨k,hk⟩:∃k,rq l key=k:=⟨_,rfl⟩;rw[hk]at KA hx ⊢;have dP:=(aW.1 hx).1;have hn:=h.n;obtain⟨g,c,hv,_,_⟩:=h.at k x hx;subst hv;have HM:=xh h;obtain⟨rest,BB,hc,_,rS⟩:=h.s.ya;rw[fe]at hc;obtain⟨ln,oF⟩:∃ln,l.length=ln:=⟨_,rfl⟩;have Bc:=xh oF;rw[oF]at dP hn hc;have Bg:ln<=c:=ls
  have s1:k<=c:=ls
  have s2:(k:Int)<=(c:Int):=ls
  have s3:(k:Int)+1<=(ln:Int):=ls
  have s4:(ln:Int)<=(c:Int):=ls
  have s5:(k:Int)+1<=(c:Int):=ls
  have s6:(0:Int)<=(k:Int)+1:=ls
  have s7:((k:Int)+1).toNat=k+1:=ls
  have s8:U6.wrap ((k:Int)+1)=(k:Int)+1:=d9;have s9:k+1<=ln:=dP;have s10:k+1<=c:=ls
  rw[oF]at HM;have HHL:=xh dP;have HHC:=xh Bg;have HHN:=xh hn;have BB:=xh BB
  replace hc:=xh hc
  have T1:=xh (show(l.take k).length=k from by rw[bY,oF];omega);have T2:=xh (show(l.drop (k+1)).length=ln-(k+1)from by rw[ef,oF]);clear h hb hx hk oF;obtain⟨b9,hb9⟩:∃b:Prop,b=(c=k+1):=⟨_,rfl⟩;go_in;go_wp2_with fail;go_call KA.o as e w1 ⟨rfl,bu⟩;have O1:=xh bu;have x0:=(HM.o.below bu).b.ae (i:=0) rfl;clear bu;go_wp2_with fail
  have HR:=g9 (∃B':Option Addr,∃m',(if c=k+1 then some (⟨g,0,none⟩:Addr)else some ⟨g,(k+1)*2,none⟩)=B'/\True) ⟨_,0,rfl,trivial⟩;refine vH (S:=λW=>W.cell? (lc mb)=some (U3 (lc g) ln c)) [19] pm (x0) (λaC=>?_);refine dj [(0,15),(2,17),(3,18),(4,19),(5,20),(6,21),(7,22),(9,24),(10,25),(11,26),(12,27),(13,28),(14,29),(15,30)] ?_
  iterate 14 refine nX ?_
  refine iq 1 λK hK=>?_;go_simp;have hh:=O1.o.size;have N0:=aM.new w1 42 #[];have S0:bm (w1.alloc (Pi #[] 42)).drew 42 2 (U3 (lc w1.heap.size) 0 0) 0 []:=⟨rfl,.inr ⟨w1.heap.size,0,[],rfl,N0.drew,rfl,by unfold sh;omega⟩⟩;have B1:=xh<|((BB.o.below O1.o BB.o.lt).alloc (Pi #[] 42)).drew;have M1:=xh<|(((HM.o.below O1.o).b).alloc (Pi #[] 42)).drew;have OA:=xh<|((ah.aj (S:=[mb]) O1.o).alloc (Pi #[] 42)).drew
  have y0:=M1.ap 0;obtain⟨v2,w2,ea,S2,o2,f2⟩:=tg S0 (some ⟨g,0,none⟩) k c (kL (l.take k)) (by rw[fe,T1.o])
   (.inr ⟨_,rfl,bT B1.o 0 _ (λj u hj=>by
    rw[Np,rP]at hj
    split at hj
    .rw[bV,bX (aW.1 hj).1];exact hj
    .cases hj)⟩) (Cq _) (by have:=HHL.o;have:=HHN.o;omega)
  rw[bV,dD]at S2;obtain⟨V2,c2,rfl⟩:=aI S2;have hg2:g∉ak (U3 (lc w1.heap.size) 0 0):=by
   have:=(BB.o.below O1.o BB.o.lt).lt;simp[ak];omega
  have Lk:mb∉ak (U3 (lc w1.heap.size) 0 0):=by
   have:=(HM.o.below O1.o).b.lt;simp[ak];omega
  have B2:=xh<|B1.o.only o2 hg2;have M2:=xh<|M1.o.only o2 Lk;have O2:=xh<|OA.o.bj o2 (λx hx dP=>by have:=O1.o.size;simp[ak]at hx;omega);have hgB:=BB.o.lt;have hmB:=HM.o.b.lt;have F2:=g9 (∀x∈ak (U3 V2 k c2),w.heap.size<=x) (λx hx=>(f2 x hx).elim (λh=>by simp[ak]at h;omega) (λh=>by have e:(w1.alloc (Pi #[] 42)).drew.heap.size=w1.heap.size+1:=lw;omega));have EA:=xh ea;have y2:=M2.ap 0
  obtain⟨v3,w3,ea3,S3,o3,f3⟩:=tg S2 (if c=k+1 then some ⟨g,0,none⟩else some ⟨g,(k+1)*2,none⟩) (ln-(k+1)) (c-(k+1)) (kL (l.drop (k+1))) (by rw[fe,T2.o])
   (by
    by_cases Ku:c=k+1
    .left;have:=HHL.o;have:=HHC.o;omega
    .right;rw[U9 Ku];refine⟨_,rfl,bT B2.o _ _ (λj u hj=>?_)⟩;rw[Nq,iu]at hj;rw[bX (aW.1 hj).1];exact hj) (Cq _) (by have:=HHL.o;have:=HHN.o;omega)
  obtain⟨m3,hm3⟩:∃m3,(l.take k++l.drop (k+1)).length=m3:=⟨_,rfl⟩;rw[show k+(ln-(k+1))=(l.take k++l.drop (k+1)).length by rw[bC,T1.o,T2.o],<-uC,hm3]at S3;have HM3:=xh hm3;clear hm3;obtain⟨V3,c3,rfl⟩:=aI S3;have hm3:mb∉ak (U3 V2 k c2):=λh=>by have:=F2.o _ h;omega
  have M3:=xh<|M2.o.only o3 hm3;have O3:=xh<|O2.o.bj o3 (λx hx dP=>by have:=F2.o _ hx;omega);have EA3:=xh ea3;have S3:=xh S3;have F3:=g9 (∀x∈ak (U3 V3 m3 c3),w.heap.size<=x) (λx hx=>(f3 x hx).elim (F2.o x) (λh=>by have:=O2.o.size;omega));have y3:=M3.ap 0;have z3:=M3.o.frozen 0 lw;clear ea ea3 S2 S0 N0 o2 o3 f2 f3 hg2 Lk hm3 hgB hmB hh;refine cq hK (λ_=>y0) (λaC=>?_)
  refine iq 8 λK hK=>?_;go_simp;rw[EA.o];go_simp;refine cq hK (λ_=>y2) (λaC=>?_);refine iq 16 λK hK=>?_;go_simp;rw[EA3.o];go_simp;refine cq hK (λ_=>y3) (λaC=>?_);refine iq 17 λK hK=>?_;go_simp;refine cq hK (λ_=>y3) (λaC=>?_);refine dj [(18,33)] ?_
  iterate 1 refine nX ?_
  refine iq 19 λK hK=>?_;go_simp;refine cq hK (λh=>eq lw h) (λaC=>?_);refine DS pm ?_ _;generalize (if c=k+1 then some (⟨g,0,none⟩:Addr)else some ⟨g,(k+1)*2,none⟩)=B9;have MF:=xh<|M3.o.ct 0 (U3 V3 m3 c3);have OF:=xh<|O3.o.setCell (p:=⟨mb,0,none⟩) (λ_=>by simp) (U3 V3 m3 c3)
  have SF:=xh<|S3.o.only (S:=[mb]) ((ah.refl _ _).setCell (p:=⟨mb,0,none⟩) (λ_=>by simp) (U3 V3 m3 c3)) (λx hx hm=>by have:=F3.o x hx;have:=HM.o.b.lt;simp at hm;omega);go_wp2;go_ret;have HN:=HM.o.n;exact bz ⟨_,⟨MF.o,by rw[HM3.o];exact SF.o,by rw[bC,T1.o,T2.o];have:=HHL.o;have:=HHN.o;omega⟩,OF.o⟩
structure MS(w W:BY)(mb:Nat)(A:Option Addr)(ln c:Nat)(l:List PR)(key value:Nm)(k:Nat)(ze pe:Option Nat)(ve:Option By):Prop where
 h:Mp W mb (U3 A ln c) l
 o:ah [mb] w W
 s:∀g∈ak (U3 A ln c),g<w.heap.size
 b:mb<w.heap.size
 z:∀b,ze=some b->bm W 42 2 (U3 (lc b) 0 0) 0 []/\w.heap.size<=b/\∀p,pe=some p->b≠p
 p:∀p,pe=some p->aM W p 42 #[U7 key,U7 value]/\w.heap.size<=p
 v:∀V,ve=some V->bm W 42 2 V k (kL (l.take k))/\∀g∈ak V,w.heap.size<=g
section
variable{w W:BY}{mb:Nat}{A:Option Addr}{ln c:Nat}{l:List PR}{key value:Nm}{k:Nat}{ze pe:Option Nat}{ve:Option By}
def MS.m0(H:MS w W mb A ln c l key value k ze pe ve):W.cell? (lc mb)=some (U3 A ln c):=H.h.b.bi 0
def MS.below(H:MS w W mb A ln c l key value k ze pe ve){W':BY}(hb:i7 W W'):MS w W' mb A ln c l key value k ze pe ve:=
 ⟨H.h.below hb,H.o.trans (.aj hb),H.s,H.b,λb h=>⟨(H.z b h).1.below hb,(H.z b h).2⟩,λp h=>⟨(H.p p h).1.below hb (H.p p h).1.lt,(H.p p h).2⟩,λV h=>⟨(H.v V h).1.below hb,(H.v V h).2⟩⟩
def MS.drew(H:MS w W mb A ln c l key value k ze pe ve):MS w W.drew mb A ln c l key value k ze pe ve:=H.below (Below.refl _ _).drew
def MS.zero(H:MS w W mb A ln c l key value k none pe ve):MS w (W.alloc (Pi #[] 42)) mb A ln c l key value k (some W.heap.size) pe ve:=by
 have H':=H.below (i6 _ (Pi #[] 42));refine⟨H'.h,H'.o,H'.s,H'.b,λb hb=>?_,H'.p,H'.v⟩;injection hb with hb
 subst hb;exact⟨⟨rfl,.inr ⟨_,0,[],rfl,aM.new W _ #[],rfl,by unfold sh;omega⟩⟩,H.o.size,λp hp e=>by have:=(H.p p hp).1.lt;omega⟩
def MS.one(H:MS w W mb A ln c l key value k ze none ve):MS w (W.alloc (Pi #[U7 key,U7 value] 42)) mb A ln c l key value k ze (some W.heap.size) ve:=by
 have H':=H.below (i6 _ (Pi #[U7 key,U7 value] 42));refine⟨H'.h,H'.o,H'.s,H'.b,λb hb=>⟨(H'.z b hb).1,(H'.z b hb).2.1,λp hp e=>?_⟩,λp hp=>?_,H'.v⟩
 .injection hp with hp
  have:=(H.z b hb).1.lt b (by simp[ak]);omega
 .injection hp with hp
  subst hp;exact⟨aM.new W _ _,H.o.size⟩
def MS.app{b:Nat}(H:MS w W mb A ln c l key value k (some b) pe none)(hk:k<=ln)(hn:ln<=1000000):
  ∃V c2 W',eM prog 30 30 W (U3 (lc b) 0 0) (U3 A k c)= .ok (U3 V k c2) W'/\MS w W' mb A ln c l key value k none pe (some (U3 V k c2)):=by
 obtain⟨S0,hb,OH⟩:=H.z b rfl;have hl:l.length=ln:=by have:=H.h.s.1;rw[fe]at this;have:=H.h.len;omega
 have ht:(l.take k).length=k:=by rw[bY];omega
 obtain⟨v2,w2,ea,S2,o2,f2⟩:=tg S0 A k c (kL (l.take k)) (by rw[fe,ht]) (by
  rcases H.h.s.2 with⟨hv,h0⟩|⟨g,cap,rest,hv,B,_⟩
  .left;omega
  .right;simp only[Value.slice.injEq]at hv;refine⟨_,hv.1,bT B 0 _ (λj u hj=>?_)⟩;rw[Np,rP]at hj
   split at hj
   .rw[bV,bX (aW.1 hj).1];exact hj
   .cases hj) (Cq _) ls
 rw[bV,dD]at S2;obtain⟨V2,c2,rfl⟩:=aI S2;have hd:∀x∈ak (U3 (lc b) 0 0),x=b:=λx hx=>by simpa [ak]using hx
 have hs:∀g∈ak (U3 A ln c),g∉ak (U3 (lc b) 0 0):=λg hg hx=>by have:=hd g hx;have:=H.s g hg;omega
 refine⟨V2,c2,w2,ea,⟨⟨H.h.b.only o2 (λhx=>by have:=hd _ hx;have:=H.b;omega),H.h.s.only o2 hs,H.h.n⟩,H.o.bj o2 (λx hx dP=>by have:=hd x hx;omega),H.s,H.b,(λ_ h=>by cases h),λp hp=>⟨(H.p p hp).1.only o2 (λhx=>OH p hp (hd p hx).symm),(H.p p hp).2⟩,λV hV=>?_⟩⟩;injection hV with hV
 subst hV;exact⟨S2,λg hg=>(f2 g hg).elim (λh=>by have:=hd g h;omega) (λh=>aD H.o.size h)⟩
def MS.app2{c2 p:Nat}(H:MS w W mb A ln c l key value k none (some p) (some (U3 V k c2)))(hk:k<=1000000):
  ∃V' c' W',eM prog 30 30 W (U3 V k c2) (U3 (lc p) 1 1)= .ok (U3 V' (k+1) c') W'/\Mp W' mb (U3 A ln c) l/\ah [mb] w W'/\bm W' 42 2 (U3 V' (k+1) c') (k+1) (kL (l.take k++[(key,value)]))/\∀g∈ak (U3 V' (k+1) c'),w.heap.size<=g:=by
 obtain⟨S2,f2⟩:=H.v _ rfl;obtain⟨v3,w3,ea,S3,o3,f3⟩:=tg S2 (some ⟨p,0,none⟩) 1 1 [U7 key,U7 value] rfl (.inr ⟨_,rfl,bT (H.p p rfl).1 0 _ (λj u hj=>by rw[bV];exact hj)⟩) (by simp;exact⟨rfl,rfl⟩) ls;obtain⟨V3,c3,rfl⟩:=aI S3
 refine⟨V3,c3,w3,ea,⟨H.h.b.only o3 (λhx=>by have:=f2 _ hx;have:=H.b;omega),H.h.s.only o3 (λg hg hx=>by have:=f2 g hx;have:=H.s g hg;omega),H.h.n⟩,H.o.bj o3 (λx hx dP=>by have:=f2 x hx;omega),?_,λg hg=>(f3 g hg).elim (f2 g) (λh=>aD H.o.size h)⟩;rw[uC];exact S3
end
def ms_app3{W:BY}{ln:Nat}{k c':Nat}{L:List PR}(M:Mp W mb (U3 A ln c) l)(S:bm W 42 2 (U3 V k c') k (kL L))(f:∀g∈ak (U3 V k c'),w.heap.size<=g)(o:ah [mb] w W)
 (hs:∀g∈ak (U3 A ln c),g<w.heap.size)(hb:mb<w.heap.size)(e:Nat)(he:e<=ln)(hn:ln<=1000000)(hk:k<=1000001)(B:Option Addr)(hB:e<c->∀g,A=some ⟨g,0,none⟩->B=some ⟨g,e*2,none⟩):
  ∃V' m c2 W',eM prog 30 30 W (U3 V k c') (U3 B (ln-e) (c-e))= .ok (U3 V' m c2) W'/\Mp W' mb (U3 A ln c) l/\ah [mb] w W'/\bm W' 42 2 (U3 V' m c2) (L++l.drop e).length (kL (L++l.drop e))/\∀g∈ak (U3 V' m c2),w.heap.size<=g:=by
 have hl:l.length=ln:=M.len;have hL:L.length=k:=by have:=S.1;rw[fe]at this;omega
 obtain⟨v3,w3,ea,S3,o3,f3⟩:=tg S B (ln-e) (c-e) (kL (l.drop e)) (by rw[fe,ef,hl]) (by
  rcases M.s.2 with⟨hv,h0⟩|⟨g,cap,rest,hv,BB,hc,_⟩
  .left;omega
  .simp only[Value.slice.injEq]at hv;obtain⟨h1,_,h3⟩:=hv;rw[fe]at hc
   by_cases hec:e<c
   .right;refine⟨_,hB hec g h1,bT BB _ _ (λj u hj=>?_)⟩;rw[Nq,iu]at hj;rw[bX (aW.1 hj).1];exact hj
   .left;omega) (Cq _) ls
 obtain⟨V3,c3,rfl⟩:=aI S3;refine⟨V3,_,c3,w3,ea,⟨M.b.only o3 (λhx=>by have:=f _ hx;omega),M.s.only o3 (λg hg hx=>by have:=f g hx;have:=hs g hg;omega),M.n⟩,o.bj o3 (λx hx dP=>by have:=f x hx;omega),?_,λg hg=>(f3 g hg).elim (f g) (λh=>aD o.size h)⟩;rw[uC,show(L++l.drop e).length=k+(ln-e) by rw[bC,hL,ef,hl]];exact S3
def mset_any(h:Mp w mb v l)(key value:Nm)(hl:l.length<1000000)(h1:key.size<=1000000)(h2:value.size<=1000000):
  io prog 54 #[lc mb,U7 key,U7 value] w λe w'=>e=fd (U5 U6 (if 32<key.size\/1024<value.size then 4 else 0))/\∃v',Mp w' mb v' (Iu l key value)/\ah [mb] w w':=by
 unfold Iu;have HM:=xh h
 by_cases hk:32<key.size
 .rw[U8 (.inl hk),U8 (.inl hk)];have Oy:(32:Int)<(key.size:Int):=ls
  clear h;go_in;go_wp2;go_ret
  first|exact bz ⟨v,HM.o,ah.refl _ _⟩|exact bz ⟨⟨v,HM.o⟩,ah.refl _ _⟩
 have Oy:¬(32:Int)<(key.size:Int):=ls
 by_cases hv:1024<value.size
 .rw[U8 (.inr hv),U8 (.inr hv)];have hvI:(1024:Int)<(value.size:Int):=ls
  clear h;go_in;go_wp2;go_ret
  first|exact bz ⟨v,HM.o,ah.refl _ _⟩|exact bz ⟨⟨v,HM.o⟩,ah.refl _ _⟩
 have hvI:¬(1024:Int)<(value.size:Int):=ls
 rw[ge,ge];have KA:=xh<|J8 h key;obtain⟨A,c,rfl⟩:=aI h.s;have hle:=Rq key l;have hlen:=h.len;obtain⟨ln,oF⟩:∃ln,l.length=ln:=⟨_,rfl⟩;rw[oF]at hle hl HM;have Bc:=xh oF;have hcc:ln<=c:=by
  rcases h.s.2 with⟨hv,h0⟩|⟨g,cap,rest,hv,_,hc,_⟩
  .omega
  .simp only[Value.slice.injEq]at hv;rw[fe]at hc;omega
 obtain⟨ee,he⟩:∃ee,(if wB l key=true then rq l key+1 else rq l key)=ee:=⟨_,rfl⟩;have hel:ee<=ln:=by
  rw[<-he]
  split
  .rename_i hb;unfold wB at hb
   cases hx:l[rq l key]? with
   |none=>rw[hx]at hb;cases hb
   |some x=>have:=(aW.1 hx).1;omega
  .exact hle
 rw[he];obtain⟨k,hk'⟩:∃k,rq l key=k:=⟨_,rfl⟩;rw[hk']at KA hle he ⊢;have s1:k<=c:=ls
 have s2:(k:Int)<=(c:Int):=ls
 have s3:(ee:Int)<=(ln:Int):=ls
 have s4:(ln:Int)<=(c:Int):=ls
 have s5:(ee:Int)<=(c:Int):=ls
 have s9:ee<=ln:=hel;have s10:ee<=c:=ls
 have HH:=g9 (k<=ln/\ee<=ln/\ln<1000000) ⟨hle,hel,hl⟩;have HHC:=xh hcc;have Xl:=xh h.s.lt;have HBL:=xh h.b.lt;rw[oF]at Xl;have HKE:=g9 (k<=ee) (by rw[<-he];split<;>omega);generalize wB l key=b at *;have HE:=xh (show(b=false->k=ee)/\(b=true->k+1=ee)from⟨λh=>by rw[<-he,h,i8],λh=>by rw[<-he,U8 h]⟩);have s8:U6.wrap ((k:Int)+1)=(k:Int)+1:=d9;clear h he hk' oF hlen hle hel hcc hl hk hv
 go_in;go_wp2_with fail;go_call KA.o as e w1 ⟨rfl,bu⟩;have H0:=g9 (MS w w1 mb A ln c l key value k none none none) ⟨HM.o.below bu,.aj bu,Xl.o,HBL.o,(λ_ h=>by cases h),(λ_ h=>by cases h),(λ_ h=>by cases h)⟩;clear bu
 go_upto_if 25 with(fail)
 go_cut [9]from 26 to 27 (λv9 wx=>v9=U5 U6 (ee:Int)/\w1=wx)
 case first=>
  cases b
  .obtain rfl:=HE.o.1 rfl;go_wp2;go_meet
   case rel=>exact⟨rfl,rfl⟩
  .obtain rfl:=HE.o.2 rfl;go_wp2;go_meet
   case rel=>exact⟨by push_cast;rfl,rfl⟩
 obtain⟨rfl,rfl⟩:=hcut;go_wp2_with fail;refine vH (S:=λW=>W.cell? (lc mb)=some (U3 A ln c)) [23] pm (H0.o.drew.m0) (λaC=>?_);refine dj [(0,28),(2,30),(3,31),(4,32),(5,33),(6,34),(7,35),(9,37),(10,38),(11,39),(14,42),(15,43),(16,44),(17,45),(18,46),(19,47)] ?_
 iterate 16 refine nX ?_
 refine yT (rs:=[1,12]) pm lw ?_;refine lH.cons (λK hK=>?_) (lH.cons (λK hK=>?_) lH.nil);have H1:=xh H0.o.zero;go_simp;refine cq hK (λ_=>H1.o.drew.m0) (λaC=>?_);refine yT (rs:=[8,12]) pm lw ?_;refine lH.cons (λK hK=>?_) (lH.cons (λK hK=>?_) lH.nil);obtain⟨V2,c2,w2,ea,hq⟩:=H1.o.drew.app HH.o.1 (by have:=HH.o;omega)
 try simp only[ny]at ea
 have H2:=xh hq;clear hq;go_simp;clear ea;refine cq hK (λ_=>H2.o.m0) (λaC=>?_);refine iq 12 λK hK=>?_;have H3:=xh H2.o.one;go_simp;refine cq hK (λ_=>H3.o.m0) (λaC=>?_);rotate_left;have H2:=xh H1.o.one;go_simp;refine cq hK (λ_=>H2.o.drew.m0) (λaC=>?_);refine iq 8 λK hK=>?_;obtain⟨V2,c2,w2,ea,hq⟩:=H2.o.drew.app HH.o.1 (by have:=HH.o;omega)
 try simp only[ny]at ea
 have H3:=xh hq;clear hq;go_simp;clear ea;refine cq hK (λ_=>H3.o.m0) (λaC=>?_);rotate_left;have H1:=xh H0.o.one;go_simp;refine cq hK (λ_=>H1.o.drew.m0) (λaC=>?_);refine iq 1 λK hK=>?_;have H2:=xh H1.o.zero;go_simp;refine cq hK (λ_=>H2.o.drew.m0) (λaC=>?_);refine iq 8 λK hK=>?_;obtain⟨V2,c2,w2,ea,hq⟩:=H2.o.drew.app HH.o.1 (by have:=HH.o;omega)
 try simp only[ny]at ea
 have H3:=xh hq;clear hq;go_simp;clear ea;refine cq hK (λ_=>H3.o.m0) (λaC=>?_);rotate_left
 all_goals
  obtain⟨V3,c3,w3,ea3,M3,o3,S3,f3⟩:=H3.o.app2 (by have:=HH.o;omega)
  try simp only[ny]at ea3
  have y3:=M3.b.bi 0;obtain⟨V4,m4,c4,w4,ea4,M4,o4,S4,f4⟩:=ms_app3 M3 S3 f3 o3 Xl.o HBL.o ee HH.o.2.1 (by have:=HH.o;omega) (by have:=HH.o;omega) (if c=ee then A else Option.map (λx=>x.add (ee*2)) A) (λhc g hg=>by rw[ge,hg];exact congrArg some (show(⟨g,0,none⟩:Addr).add (ee*2)=_ from by rw[Nd.jq,bV]));have y4:=M4.b.bi 0;have z4:=M4.b.frozen 0 lw;have M4:=xh M4;have o4:=xh o4;have S4:=xh S4
  have f4:=xh f4;clear M3 S3 f3 o3;refine iq 13 λK hK=>?_;go_simp;refine cq hK (λ_=>y3) (λaC=>?_);refine iq 20 λK hK=>?_;go_simp;refine cq hK (λ_=>y4) (λaC=>?_);refine iq 21 λK hK=>?_;go_simp;refine cq hK (λ_=>y4) (λaC=>?_);refine dj [(22,50)] ?_
  iterate 1 refine nX ?_
  refine iq 23 λK hK=>?_;go_simp;refine cq hK (λh=>eq lw h) (λaC=>?_);refine DS pm ?_ _;have MF:=xh<|M4.o.b.ct 0 (U3 V4 m4 c4);have OF:=xh<|o4.o.setCell (p:=⟨mb,0,none⟩) (λ_=>by simp) (U3 V4 m4 c4);have SF:=xh<|S4.o.only (S:=[mb]) ((ah.refl _ _).setCell (p:=⟨mb,0,none⟩) (λ_=>by simp) (U3 V4 m4 c4)) (λx hx hm=>by have:=f4.o x hx;have:=HBL.o;simp at hm;omega)
  generalize (if c=ee then A else Option.map (λx=>x.add (ee*2)) A)=B9;go_wp2;go_ret;have HN:=HM.o.n;have hq:=And.intro MF.o (And.intro SF.o OF.o);rw[cV]at hq;exact bz ⟨_,⟨hq.1,hq.2.1,by simp only[bC,bY,ef,jh,CG,Bc.o];have:=HH.o;have:=HKE.o;omega⟩,hq.2.2⟩
end Sh
namespace Sh
open Go.RowKit Pk Dk Pg
def qa{w:BY}{v:By}{m:Nat}{L:List By}(S:bm w 42 2 v m L){b:Nat}{t:TypeId}{cs:Array By}(B:aM w b t cs)(h:t≠42):∀g∈ak v,g≠b:=by
 rcases S.2 with⟨rfl,_⟩|⟨g,cap,rest,rfl,BB,_⟩
 .intro g hg;simp[ak]at hg
 .intro g' hg;simp only[ak,aG]at hg;subst hg;exact λe=>h ((e▸BB).inj B).1.symm
section
variable{w w':BY}{wb tb mb:Nat}{I:Ix}{F S:List Nat}{vl vo:By}{q q':QS}{n K K':Nat}{l o:List PR}
end
def th(e:Int)(w:BY):io prog 18 #[e] w λr w'=>r=fd (WF (decide (e=11) || decide (e=12)))/\w=w':=by
 go_in;go_wp2_with fail
 all_goals
  go_ret;exact⟨by first|rfl|simp_all,rfl⟩
end Sh
namespace Sh
open Go.RowKit Pk Dk Pg
section
variable{q:QS}{l o:List PR}{mm k:Nat}
def TI.setM(h:TI q l o mm k)(key value:Nm)(hn:k<100):
  ((q.fC key value).2=11/\TJ (q.fC key value).1 o mm (k+1))\/((q.fC key value).2=(if 32<key.size\/1024<value.size then 4 else 0)/\TI (q.fC key value).1 (Iu l key value) o mm (k+1)):=by
 unfold Iu
 by_cases hb:32<key.size\/1024<value.size
 .rw[U8 hb,U8 hb];have e:q.fC key value=(q,4):=by unfold QS.fC;rw[g8]
  rw[e];exact .inr ⟨rfl,h.le ls⟩
 .rw[U9 hb,U9 hb];obtain⟨a,b,_⟩:=uF key l h.sorted.1;rw[a,b]
  rcases h.set key value ls ls hn with⟨x,y⟩|⟨x,y⟩
  .exact .inl ⟨x,y.le ls⟩
  .exact .inr ⟨x,y⟩
def TI.delM(h:TI q l o mm k)(key:Nm):
  ((q.fR key).2=11/\TJ (q.fR key).1 o mm k)\/((q.fR key).2=(if wB l key=true then 0 else 9)/\TI (q.fR key).1 (Iv l key) o mm k):=by
 obtain⟨a,b,c,_⟩:=uF key l h.sorted.1;unfold Iv
 rcases h.del key with⟨x,y⟩|⟨x,y,z⟩|⟨x,y,z⟩
 .exact .inl ⟨x,y⟩
 .right;have hb:¬wB l key=true:=λhb=>c.1 hb y;rw[U9 hb,U9 hb];exact⟨x,z⟩
 .right;have hb:wB l key=true:=c.2 y;rw[U8 hb]at b;rw[U8 hb,U8 hb,a,b];exact⟨x,z⟩
def TI.clearM(h:TI q l o mm k)(fr til:Nm):
  ((q.eR fr til).2.2=11/\TJ (q.eR fr til).1 o mm k)\/((q.eR fr til).2=((l.length:Int)-(oG fr til l).length,0)/\TI (q.eR fr til).1 (oG fr til l) o mm k):=by
 rw[Wq,out_eq];exact h.clear fr til
def TI.getM(h:TI q l o mm k)(key:Nm):TI (q.gD key).1 l o mm k/\((q.gD key).2.2=11\/(q.gD key).2=vf l key):=by
 obtain⟨a,b,c,d⟩:=uF key l h.sorted.1;rw[d];exact h.get key
def TI.scanM(h:TI q l o mm k)(fr til:Nm)(n:Int):TI (q.dL fr til n).1 l o mm k/\((q.dL fr til n).2.2=11\/(q.dL fr til n).2=(kn fr til n l,0)):=by
 rw[Ub];exact h.scan fr til n
def TI.lastM(h:TI q l o mm k)(hk:k<=1000000)(fr til:Nm):TI (q.gj fr til).1 l o mm k/\((q.gj fr til).2.2=11\/(q.gj fr til).2=match (kn fr til 1099511627776 l).getLast? with|none=>((⟨#[]⟩,⟨#[]⟩),9)|some x=>(x,0)):=by
 rw[Nn fr til l (aD h.sorted.2 hk) ls];exact h.last fr til
def TI.wholeM(h:TI q l o mm k)(hk:k<=1000000):TI (q.dL ⟨#[]⟩ ⟨#[]⟩ 1099511627776).1 l o mm k/\((q.dL ⟨#[]⟩ ⟨#[]⟩ 1099511627776).2.2=11\/(q.dL ⟨#[]⟩ ⟨#[]⟩ 1099511627776).2=(l,0)):=by
 have:=h.scanM ⟨#[]⟩ ⟨#[]⟩ 1099511627776
 rwa [Nn _ _ l (aD h.sorted.2 hk) ls,Ka]at this
end
variable{w:BY}{A A':Option Addr}{n c n' c':Nat}{l l':List PR}
def Uc{a b:Nm}(h:a≠b):(a.toList==b.toList)=false:=by
 apply beq_eq_false_iff_ne.2;intro e;rw[cM,cM]at e;exact h (mP (rk.1 e))
def Ud:∀{l:List PR} {i:Nat} {x:PR},l[i]?=some x->(kL l)[i*2]?=some (U7 x.1)/\(kL l)[i*2+1]?=some (U7 x.2)
 |[],_,_,h=>by simp at h
 |y::l,0,x,h=>by
  simp only[CE,Option.some.injEq]at h;subst h;exact⟨rfl,rfl⟩
 |y::l,i+1,x,h=>by
  rw[yq]at h;have:=Ud h;have e:kL (y::l)=[U7 y.1,U7 y.2]++kL l:=rfl;rw[e,eC (by simp;omega),eC (by simp;omega),show(i+1)*2-[Value.string y.1,Value.string y.2].length=i*2 by simp;omega,show(i+1)*2+1-[Value.string y.1,Value.string y.2].length=i*2+1 by simp;omega];exact this
def bm.pr(S:bm w 42 2 (U3 A n c) n (kL l)){i:Nat}(hi:i<n):∃g x,A=some ⟨g,0,none⟩/\l[i]?=some x/\n<=c/\c<=sh/\w.cell? ⟨g,i*2,none⟩=some (U7 x.1)/\w.cell? ⟨g,i*2+1,none⟩=some (U7 x.2):=by
 have hl:l.length=n:=by have:=S.1;rw[fe]at this;omega
 obtain⟨g,cap,rest,hv,B,hc,hr⟩:=S.form ls ls;injection hv with e1 e2 e3
 subst e1;obtain⟨x,hx⟩:∃x,l[i]?=some x:=⟨_,aQ ls⟩;obtain⟨p1,p2⟩:=Ud hx;have rS:c<=sh:=by obtain⟨_,_,_,_,h⟩:=S.ya;exact h
 refine⟨g,x,rfl,hx,ls,rS,?_,?_⟩
 .exact B.ae (by rw[dr,bX (by rw[fe];omega)];exact p1)
 .exact B.ae (by rw[dr,bX (by rw[fe];omega)];exact p2)
def p_ne(k v k' v':Nm):(k=k'/\v=v')\/(k≠k')\/(k=k'/\v≠v'):=by
 by_cases h1:k=k'
 .by_cases h2:v=v'
  .exact .inl ⟨h1,h2⟩
  .exact .inr (.inr ⟨h1,h2⟩)
 .exact .inr (.inl h1)
def Nr(S:bm w 42 2 (U3 A n c) n (kL l))(S':bm w 42 2 (U3 A' n' c') n' (kL l'))(hn:n<=9223372036854775807)(hn':n'<=9223372036854775807)(b:Bool)(hb:b=true↔l=l'):
  io prog 19 #[U3 A n c,U3 A' n' c'] w λr w'=>r=fd (WF b)/\i7 w w':=by
 have hl:l.length=n:=by have:=S.1;rw[fe]at this;omega
 have hl':l'.length=n':=by have:=S'.1;rw[fe]at this;omega
 have HL:=xh hl;have HL':=xh hl';have H0:=xh S;have H1:=xh S';have HB:=xh hb;clear S S' hb hl hl'
 by_cases hnn:n=n'
 .subst hnn;go_in;go_wp2_with fail
  go_loopw [5] (λiv wr=> ∃i:Nat,i<=n/\iv=U5 U6 i/\Hid (∀j:Nat,j<i->l[j]?=l'[j]?)/\i7 w wr) (λiv _=>n-(intOf iv).toNat)
  case atStart=>exact⟨0,bG _,rfl,xh (λj h=>eq h (lA _)),Below.refl _ _⟩
  case round=>
   obtain⟨i,hi,rfl,EQ,O⟩:=hrel
   by_cases h:i<n
   .obtain⟨g,x,rfl,hx,q1,q2,a0,a1⟩:=bm.pr (H0.o.below O) h;obtain⟨g',x',rfl,SD,q1',q2',b0,b1⟩:=bm.pr (H1.o.below O) h;have OO:=xh O;have HE:=xh<|And.intro hx SD;have hii:(i:Int)<(n:Int):=ls
    clear O hx SD;obtain⟨k,v⟩:=x;obtain⟨k',v'⟩:=x';dsimp only at *
    rcases p_ne k v k' v' with⟨rfl,rfl⟩|hd|⟨rfl,hd⟩
    .have HQ:=xh (show ∀j:Nat,j<i+1->l[j]?=l'[j]? from λj hj=>by
      rcases oL.1 hj with h1|rfl
      .exact EQ.o j h1
      .rw[HE.o.1,HE.o.2])
     go_wp2_with fail;go_quiet (fail);go_wp2;go_roundw
     case rel=>exact⟨i+1,ls,by go_num,HQ,dC OO.o _⟩
     case measure=>simp[intOf];omega
    all_goals
     have HD:=xh (show l≠l' from λhx=>by
      have h1:=HE.o.1;rw[hx,HE.o.2]at h1;simp only[Option.some.injEq,Prod.mk.injEq]at h1
      first|exact hd h1.1.symm|exact hd h1.2.symm)
     have YS:=Uc hd;have hd3:=Uc (λe=>hd e.symm);go_wp2_with fail;go_quiet (fail);go_wp2;go_ret;have hbf:b=false:=by
      cases b
      .rfl
      .exact eq (HB.o.1 rfl) HD.o
     exact⟨by rw[hbf];rfl,dC OO.o _⟩
   .have hii:¬(i:Int)<(n:Int):=ls
    have e:i=n:=ls
    subst e;have hbt:b=true:=HB.o.2 (lr λj=>by
     rcases fo j i with h1|h1
     .exact EQ.o j h1
     .rw[fw (by rw[HL.o];exact h1),fw (by rw[HL'.o];exact h1)])
    have HBT:=xh hbt;have OO:=xh O;clear hbt O;go_wp2;go_ret;exact⟨by rw[HBT.o];rfl,OO.o⟩
 .have hbf:b=false:=by
   cases b
   .rfl
   .have:=HB.o.1 rfl;rw[this,HL'.o]at HL;exact eq HL.o.symm hnn
  have hnI:(n:Int)≠(n':Int):=ls
  have hq:((n:Int) != (n':Int))=true:=lm hnI
  have kP:((n:Int)==(n':Int))=false:=by rw[beq_eq_false_iff_ne];exact hnI
  have HBT:=xh hbf;clear hbf;go_in;go_wp2;go_ret;exact⟨by rw[HBT.o];rfl,Below.refl _ _⟩
def xT(S:bm w 42 2 (U3 A n c) n (kL l))(S':bm w 42 2 (U3 A' n' c') n' (kL l'))(hn:n<=1000000)(hn':n'<=1000000)(b:Bool)(hb:b=true↔l=l'):
  io prog 19 #[U3 A n c,U3 A' n' c'] w λr w'=>r=fd (WF b)/\i7 w w':=
 Nr S S' ls ls b hb
def kA:Nm:=⟨#[97]⟩
def kB:Nm:=⟨#[98]⟩
def kC:Nm:=⟨#[99]⟩
def k1:Nm:=⟨#[49]⟩
def k2:Nm:=⟨#[50]⟩
def zJ:Nm:=⟨#[]⟩
def aq1:QS:=((QS.begun 4 60).fC kB k1).1
def aq2:QS:=(aq1.fC kA k2).1
def aq3:QS:=(aq2.dL zJ zJ 9).1
def aq4:QS:=(aq3.gD kA).1
def pot0:fj (λ_=>1) (aS yh 0 0)<=0:=by
 have Gx:jO yh 0=(true,[],0):=by unfold yh;rw[iH lay0,U8 rfl];rfl
 unfold aS;rw[Gx];decide
def Ns(R:Rd (QS.begun 4 60) yh yh 3 60):((QS.begun 4 60).fC kB k1).2=0/\(aq1.fC kA k2).2=0/\(aq2.dL zJ zJ 9).2=([(kA,k2),(kB,k1)],0)/\(aq3.gD kA).2=(k2,0)/\(aq4.fR kC).2=9:=by
 obtain⟨a1,v1,M1,a2,a3,a4,a5⟩:=Ir R T9 kB k1 ms ms ms ms pot0 ms;have e1:kV M1=[(kB,k1)]:=by rw[a4];decide
 obtain⟨b1,v2,M2,b2,b3,b4,b5⟩:=Ir a2 a3 kA k2 ms ms ms ms a5 ms;have e2:kV M2=[(kA,k2),(kB,k1)]:=by rw[b4,e1];decide
 obtain⟨c1,c2⟩:=Ik b2 b3 ls zJ zJ 9;obtain⟨d1,d2⟩:=Fc c1 b3 ls kA;have f:=Is d1 b3 ls kC;refine⟨a1,b1,?_,?_,?_⟩
 .rcases c2 with⟨c2,c3⟩|c2
  .omega
  .rw[show aq2=(aq1.fC kA k2).1 from rfl];refine c2.trans ?_;rw[e2];decide
 .rcases d2 with⟨d2,d3⟩|d2
  .omega
  .refine Eq.trans d2 ?_;rw[e2];decide
 .rcases f with⟨f1,f2,_⟩|⟨f1,_⟩|⟨f1,f2,_⟩
  .omega
  .exact f1
  .exfalso;rw[e2]at f2;exact f2 ms
section
variable{w W W':BY}{wb mb tb:Nat}{I:Ix}{F:List Nat}{q q':QS}{n K K':Nat}{aR:By}
end
open Go.RowKit Go.ChangeShapes Go.WideShapes Go.Deep Pk Dk Pg
structure Tac where
 kd:Int
 n:Int
 key:Nm
 til:Nm
 val:Nm
def Tac.ok(x:Tac):Prop:=x.key.size<=sh/\x.til.size<=sh/\x.val.size<=sh/\ -9223372036854775808<=x.kd/\x.kd<=9223372036854775807/\ -9223372036854775808<=x.n/\x.n<=9223372036854775807
def Wr{H:Type}{enc:TypeId×By->H}{P:Program}{w:BY}{t:TypeId}{f0 f1 f2 f3 f4:Field}{fuel:Nat}{cs:List By}{x:DataW H×List MemPlace}
  (hs:P.underlying t=some (.struct #[f0,f1,f2,f3,f4]))(hC:P.cellsOf t=5)(o0:f0.offset=0)(o1:f1.offset=1)(o2:f2.offset=2)(o3:f3.offset=3)(o4:f4.offset=4)(k0:P.cellsOf f0.type=1)(k1:P.cellsOf f1.type=1)(k2:P.cellsOf f2.type=1)(k3:P.cellsOf f3.type=1)(k4:P.cellsOf f4.type=1)
  (u0:P.underlying f0.type=some (.int U6))(u1:P.underlying f1.type=some (.int U6))(u2:P.underlying f2.type=some .string)(u3:P.underlying f3.type=some .string)(u4:P.underlying f4.type=some .string)
  (h:DataW.trod enc P w 0 (λ_=>true) true fuel t cs=some x):∃y:Tac,cs=[U5 U6 y.kd,U5 U6 y.n,U7 y.key,U7 y.til,U7 y.val]/\y.ok:=by
 obtain⟨xs,n,_,_,hl,OE,hf⟩:=DataW.trod_struct hs h;obtain⟨c0,c1,c2,c3,c4,rfl⟩:∃a b c d e,cs=[a,b,c,d,e]:=by
  match cs,hl.trans hC with
  |[a,b,c,d,e],_=>exact⟨a,b,c,d,e,rfl⟩
 obtain⟨y0,y1,y2,y3,y4,rfl⟩:∃y0 y1 y2 y3 y4,xs=[y0,y1,y2,y3,y4]:=by
  match xs,OE with
  |[a,b,c,d,e],_=>exact⟨a,b,c,d,e,rfl⟩
 have g0:=hf 0 f0 rfl;have g1:=hf 1 f1 rfl;have g2:=hf 2 f2 rfl;have g3:=hf 3 f3 rfl;have g4:=hf 4 f4 rfl;rw[o0,k0]at g0;rw[o1,k1]at g1;rw[o2,k2]at g2;rw[o3,k3]at g3;rw[o4,k4]at g4;simp only[CB,CA,oK,jK]at g0 g1 g2 g3 g4;obtain⟨r0,Kv,-,wf0⟩:=DataW.trod_int u0 (x:=y0) (by simpa using g0);obtain⟨r1,Vv,-,wf1⟩:=DataW.trod_int u1 (x:=y1) (by simpa using g1);obtain⟨r2,ZD,-,s2⟩:=DataW.trod_string u2 (x:=y2) (by simpa using g2)
 obtain⟨r3,YZ,-,s3⟩:=DataW.trod_string u3 (x:=y3) (by simpa using g3);obtain⟨r4,hr4,-,s4⟩:=DataW.trod_string u4 (x:=y4) (by simpa using g4);simp only[List.cons.injEq,and_true]at Kv Vv ZD YZ hr4;subst Kv Vv ZD YZ hr4;have b0:=Go.bounds_i64 wf0;have b1:=Go.bounds_i64 wf1;exact⟨⟨r0,r1,r2,r3,r4⟩,rfl,s2,s3,s4,by show -9223372036854775808<=r0;omega,by show r0<=9223372036854775807;omega,by show -9223372036854775808<=r1;omega,by show r1<=9223372036854775807;omega⟩
def FrA(A:List Nat)(z:Nat)(B:List Nat):Prop:= ∀g∈B,g∈A\/z<=g
abbrev uG(kd n:Int)(key til val:Nm):Array By:= #[U5 U6 kd,U5 U6 n,U7 key,U7 til,U7 val]
section
variable{w w':BY}{wb tb mb:Nat}{I:Ix}{F S:List Nat}{vl vo:By}{q q':QS}{n K K':Nat}{l o:List PR}
def ah.only_new{w w1 w':BY}{p:Nat}{S:List Nat}(ho:ah [p] w1 w')(o:ah S w w1)(h:w.heap.size<=p):ah S w w':=o.bj ho (λx hx hl=>by have:=aG.1 hx;omega)
def fZ(e:Int)(h:e≠11)(h2:e≠12)(w:BY):io prog 18 #[e] w λr w'=>r=fd (WF false)/\w=w':=by
 have:=th e w
 rwa [wn h,wn h2]at this
end
variable{F F1:List Nat}{z:Nat}
section
variable{w:BY}{wb tb mb:Nat}{I:Ix}{F:List Nat}{vl vo:By}{q:QS}{n Kz mm k:Nat}{l o:List PR}
def fr_back{tr AN w1:Nat}{F':List Nat}(f1:∀g∈F1,g∈F\/z<=g)(hz:z<=w1)(f2:∀g∈AN::tr::F',g∈F1\/w1<=g):FrA (mb::tb::F) z (AN::tr::F'):=λg hg=>(f2 g hg).elim (λh=>(f1 g h).elim (λh=> .inl (aH _ (aH _ h))) .inr) (λh=> .inr (aD hz h))
def oY(f1:∀g∈F1,g∈F\/z<=g):FrA (mb::tb::F) z (mb::tb::F1):=λg hg=>by
 simp only[ax]at hg
 rcases hg with rfl|rfl|hg
 .exact .inl lw
 .exact .inl lw
 .exact(f1 g hg).elim (λh=> .inl (aH _ (aH _ h))) .inr
end
end Sh
namespace Sh.Cn
open Go.RowKit Pk Dk Pg
variable{l:List Int}{i:Nat}{u:Int}
structure St where
 c:C
 n:Nat
def St.aO(a:St)(l:Int):UV×Int:=a.c.aO a.n l
def St.ao(a:St)(l:Int)(p:UV):St×Int:=(⟨(a.c.ao a.n l p).1,a.n⟩,(a.c.ao a.n l p).2)
def St.bE(a:St)(p:UV):St×Int×Int:=(⟨(a.c.bE a.n p).1,a.n⟩,(a.c.bE a.n p).2)
def St.aF(a:St)(l:Int):St×Int:=(⟨(a.c.aF l).1,a.n⟩,(a.c.aF l).2)
def St.an(a:St):St×Int:=(⟨(a.c.an a.n).1,a.n⟩,(a.c.an a.n).2)
def St.bt(a:St):St:=⟨a.c.bt,a.n⟩
def St.jW(a:St):List Int:=yF a.c.table a.c.table.length
def Ws(e:Int):Gk e≠0:=by unfold Gk;split<;>omega
def uH{d:D}{n:Nat}{x:Int}(h:(aV d n x).2=0):(aV d n x).1.s.length=232:=by
 unfold aV at h ⊢
 split at h
 .exact eq h (by show ¬(3:Int)=0;decide)
 .rename_i h1
  split at h
  .exact eq h (by show ¬(13:Int)=0;decide)
  .rename_i h2
   split at h
   .rename_i h3;exact eq h h3
   .rename_i h3
    split at h
    .exact eq h (by show ¬(14:Int)=0;decide)
    .rename_i h4;rw[U9 h1,U9 h2,U9 h3,U9 h4];generalize ((d.now.drop (64*(2+4*x.toNat))).take 256)=b at *;have h3:(jx b).2=0:=Classical.not_not.1 h3;show(jx b).1.s.length=232;unfold jx at h3 ⊢
     split at h3
     .exact eq h3 (by show ¬(6:Int)=0;decide)
     .rename_i k1
      split at h3
      .exact eq h3 (by show ¬(14:Int)=0;decide)
      .rename_i k2
       split at h3
       .rename_i k3;rw[U9 k1,U9 k2,U8 k3];show(b.drop 24).length=232;rw[ef];omega
       .exact eq h3 (by show ¬(14:Int)=0;decide)
structure Zc(c:C)(n:Nat)(a:St)(K:Nat):Prop where
 e:a=⟨c,n⟩
 ep:0<=c.ep
 ml:c.m.length<=1024
 tb:∀k,c.table.getD k 0<=1024
 ob:∀k,c.aR.getD k 0<=1024
 ol:c.aR.length<=512
 ar:c.d.aq<=9223372036854775807
 bc:c.d.calls<=40*K
 be:c.ep<=K
def tu(h:∀k,l.getD k 0<=1024)(hu:u<=1024)(k:Nat):(l.set i u).getD k 0<=1024:=by
 simp only[List.getD,kq]
 split
 .split
  .exact hu
  .show(0:Int)<=1024;omega
 .exact h k
def put_le(h:∀k,l.getD k 0<=1024)(hu:u<=1024)(k:Nat):(qJ l i u).getD k 0<=1024:=by
 unfold qJ
 split
 .simp only[List.getD]
  rcases Bv k l.length with h1|h1|h1
  .rw[bX h1];exact h k
  .rw[h1,eC (ai _)];simpa using hu
  .rw[fw (by simp;omega)];show(0:Int)<=1024;omega
 .exact tu h hu k
def take_len(m:List Int):(Fm.cP m).1.length=m.length:=by unfold Fm.cP;split<;>simp
def uI(m:List Int)(p:Int):(Fm.du m p).1.length=m.length:=by unfold Fm.du;split<;>(try split)<;>(try split)<;>simp
section
variable{c:C}{n:Nat}{a:St}{K:Nat}
def Zc.more(z:Zc c n a K){K':Nat}(h:K<=K'):Zc c n a K':={z with bc:=by have:=z.bc;omega,be:=by have:=z.be;omega}
def Zc.read(z:Zc c n a K)(l:Int):c.aO n l=a.aO l:=by rw[z.e];rfl
def Zc.ep0(z:Zc c n a K)(hK:K<=1000000000000):0<=c.ep/\c.ep<=1099511627776:=by have:=z.ep;have:=z.be;omega
def Zc.calls(z:Zc c n a K)(hK:K<=1000000000000):c.d.calls<=3999999999999999900/\c.d.aq<=9223372036854775807:=by
 have:=z.bc;exact⟨ls,z.ar⟩
def Zc.tab(z:Zc c n a K)(k:Nat):c.table.getD k 0<=1024:=z.tb k
def Nt(c:C)(n:Nat)(p:UV)(hm:c.m.length<=1024)(ha:c.d.aq<=9223372036854775807):(c.bA n p).1.m.length=c.m.length/\(c.bA n p).2.1<=1024/\(c.bA n p).1.d.calls<=c.d.calls+4/\(c.bA n p).1.d.aq<=9223372036854775807:=by
 have h1:(Fm.cP c.m).1.length=c.m.length:=take_len c.m;have h2:=(Dm c.m hm).1;have h3:=nC c.d n (Fm.cP c.m).2.1 (c.ep+1) 2 p ha;unfold C.bA
 split
 .exact⟨h1,by show(0:Int)<=1024;omega,by show c.d.calls<=_;omega,ha⟩
 .split
  .exact⟨by show(Fm.du (Fm.cP c.m).1 _).1.length=_;rw[uI,h1],by show(0:Int)<=1024;omega,h3.1,h3.2⟩
  .exact⟨h1,h2,h3.1,h3.2⟩
def Zc.new(z:Zc c n a K)(p:UV):Zc (c.bE n p).1 n (a.bE p).1 (K+1)/\(c.bE n p).2=(a.bE p).2:=by
 obtain⟨f1,f2,f3,f4⟩:=Nt c n p z.ml z.ar;obtain⟨g1,g2,g3,g4,g5,g6⟩:=gQ c n p;have hbc:=z.bc;have hbe:=z.be;have he:=z.e;subst he;refine⟨?_,rfl⟩;have key:Zc (c.bA n p).1 n ⟨(c.bA n p).1,n⟩ (K+1):=⟨rfl,by rw[g4];exact z.ep,by rw[f1];exact z.ml,by rw[g1];exact z.tb,by rw[g2];exact z.ob,by rw[g2];exact z.ol,f4,ls,by rw[g4];omega⟩;show Zc (c.bE n p).1 n ⟨(c.bE n p).1,n⟩ (K+1);unfold C.bE
 split
 .exact z.more ls
 .split
  .exact z.more ls
  .split
   .exact z.more ls
   .split
    .exact key
    .exact {key with e:=rfl,tb:=put_le z.tb f2}
def Zc.write(z:Zc c n a K)(l:Int)(p:UV):Zc (c.ao n l p).1 n (a.ao l p).1 (K+1)/\(c.ao n l p).2=(a.ao l p).2:=by
 obtain⟨f1,f2,f3,f4⟩:=Nt c n p z.ml z.ar;obtain⟨g1,g2,g3,g4,g5,g6⟩:=gQ c n p;have hbc:=z.bc;have hbe:=z.be;have he:=z.e;subst he;refine⟨?_,rfl⟩;have key:Zc (c.bA n p).1 n ⟨(c.bA n p).1,n⟩ (K+1):=⟨rfl,by rw[g4];exact z.ep,by rw[f1];exact z.ml,by rw[g1];exact z.tb,by rw[g2];exact z.ob,by rw[g2];exact z.ol,f4,by omega,by rw[g4];omega⟩;show Zc (c.ao n l p).1 n ⟨(c.ao n l p).1,n⟩ (K+1);unfold C.ao
 split
 .exact z.more (by omega)
 .split
  .exact z.more (by omega)
  .split
   .exact z.more (by omega)
   .split
    .have h3:=nC c.d n (c.table.getD l.toNat 0) (c.ep+1) 2 p z.ar;exact {z.more (K':=K+1) (by omega)with e:=rfl,ar:=h3.2,bc:=by have:=h3.1;show(bq c.d n (c.table.getD l.toNat 0) (c.ep+1) 2 p).1.calls<=_;omega}
    .split
     .exact key
     .exact {key with e:=rfl,ml:=by show(Fm.du _ _).1.length<=_;rw[uI,f1];exact z.ml,tb:=tu z.tb f2}
def Zc.drop(z:Zc c n a K)(l:Int):Zc (c.aF l).1 n (a.aF l).1 K/\(c.aF l).2=(a.aF l).2:=by
 have he:=z.e;subst he;refine⟨?_,rfl⟩;show Zc (c.aF l).1 n ⟨(c.aF l).1,n⟩ K;unfold C.aF
 split
 .exact z
 .exact {z with e:=rfl,ml:=by show(Fm.du _ _).1.length<=_;rw[uI];exact z.ml,tb:=tu z.tb ls}
def Nu(x y:Int)(m:List Int):(Fm.iV x y m).length=m.length:=by simp[Fm.iV]
def Zc.abort(z:Zc c n a K):Zc c.bt n a.bt K:=by
 have he:=z.e;subst he;exact {z with e:=rfl,ml:=by show(Fm.iV _ _ _).length<=_;rw[Nu];exact z.ml,tb:=z.ob}
def Zc.aR(z:Zc c n a K):c.aR.length<=512:=z.ol
def lay_bd(c:C)(n:Nat)(P:List Nat)(h:c.d.aq<=9223372036854775807):(c.bM n P).1.calls<=c.d.calls+4*P.length+3/\(c.bM n P).1.aq<=9223372036854775807:=by
 obtain⟨h1,h2⟩:=Jv c n (Rt.cy P) h P.length;obtain⟨s1,s2⟩:=ss _ h2;obtain⟨r1,r2⟩:=jD _ n (1-c.slot) (Rt.eV (c.ep+1) c.table.length P) s2;obtain⟨v1,v2⟩:=ss _ r2;unfold C.bM
 split
 .exact⟨ls,h2⟩
 .split
  .exact⟨ls,s2⟩
  .split
   .exact⟨ls,r2⟩
   .exact⟨ls,v2⟩
def Fk(m:List Int):∀k,(takeN m k).1.length=m.length
 |0=>rfl
 |k+1=>by show(Fm.cP _).1.length=_;rw[take_len,Fk m k]
def Nw(m:List Int)(l:List Int):(cO m l).length=m.length:=by
 induction l generalizing m with
 |nil=>rfl
 |cons p l ih=>show(cO (Fm.du m p).1 l).length=_;rw[ih,uI]
def Kb(h:∀k,l.getD k 0<=1024)(j k:Nat):(l.take j).getD k 0<=1024:=by
 have:=h k;simp only[List.getD,rP]at this ⊢
 split
 .exact this
 .show(0:Int)<=1024;omega
def Zc.gZ(z:Zc c n a K)(tl:c.table.length<=512):Zc (c.an n).1 n a.an.1 (K+1)/\(c.an n).2=a.an.2:=by
 have he:=z.e;subst he;refine⟨?_,rfl⟩;show Zc (c.an n).1 n ⟨(c.an n).1,n⟩ (K+1);have tt:c.bf.table.length<=512:=by show(c.table.take _).length<=512;rw[bY];omega
 have tb:∀k,c.bf.table.getD k 0<=1024:=Kb z.tb _;have kT:Zc c.bf n ⟨c.bf,n⟩ (K+1):={z.more (K':=K+1) (by omega)with e:=rfl,tb:=tb};have hk:cd c.bf.table.length<=5:=by unfold cd;omega
 have hb:=lay_bd ({c.bf with m:=(takeN c.m (cd c.bf.table.length)).1}:C) n ((takeN c.m (cd c.bf.table.length)).2.map Int.toNat) z.ar;rw[eZ,pM]at hb;have h1:(({c.bf with m:=(takeN c.m (cd c.bf.table.length)).1}:C).bM n ((takeN c.m (cd c.bf.table.length)).2.map Int.toNat)).1.calls<=c.d.calls+4*(cd c.bf.table.length:Nat)+3:=hb.1;have h2:=hb.2;have hbc:=z.bc;have hbe:=z.be;unfold C.an
 generalize (({c.bf with m:=(takeN c.m (cd c.bf.table.length)).1}:C).bM n ((takeN c.m (cd c.bf.table.length)).2.map Int.toNat))=r at *
 split
 .exact kT
 .split
  .exact kT
  .split
   .exact {kT with e:=rfl,ml:=by show(takeN _ _).1.length<=_;rw[Fk];exact z.ml,ar:=h2,bc:=by show r.1.calls<=_;omega}
   .exact {kT with e:=rfl,ep:=by show 0<=c.ep+1;have:=z.ep;omega,ml:=by show(Fm.iV _ _ _).length<=_;rw[Nu,Nw,Fk];exact z.ml,ob:=tb,ol:=tt,ar:=h2,bc:=by show r.1.calls<=_;omega,be:=by show c.ep+1<=_;omega}
def Zc.len(z:Zc c n a K){l:Int}(h:(a.aO l).2=0):(a.aO l).1.length=232:=by
 rw[<-z.read]at h ⊢;unfold C.aO at h ⊢
 split at h
 .rename_i h1;exact eq h h1
 .rename_i h1;rw[U9 h1]
  split at h
  .rename_i h2;exact eq h (Ws _)
  .rename_i h2;rw[U9 h2];exact uH (by simpa using h2)
end
section
variable{w:BY}{x:X}{c:C}{n:Nat}{a:St}{K:Nat}
def Rv(h:At w x n c)(z:Zc c n a K)(hK:K<=1000000000000)(l:Int)(s:Nm)(hs:s.size<=9223372036854775807):
  io prog 147 #[sp x.b,l,U7 s] w λe w'=>e=fd (U5 U6 (a.ao l s.data.toList).2)/\∃c',At w' x n c'/\Zc c' n (a.ao l s.data.toList).1 (K+1)/\ah x.fp w w':=by
 have zw:=z.write l s.pu;rw[<-zw.2];exact(Qk h l s hs (z.ep0 hK) (by have:=(z.calls hK).1;omega) (z.calls hK).2 z.tab).mono λe w' ⟨r,A,o⟩=>⟨r,_,A,zw.1,o⟩
def Wt(h:At w x n c)(z:Zc c n a K)(l:Int):
  io prog 228 #[sp x.b,l] w λe w'=>e=fd (rg #[U7 ⟨(a.aO l).1.toArray⟩,U5 U6 (a.aO l).2])/\i7 w w':=by
 rw[<-z.read l];exact Sh.mG h l
def Rw(h:At w x n c)(z:Zc c n a K):
  io prog 101 #[sp x.b] w λe w'=>e=fd (WF true)/\∃c',Be w w' x n c'/\Zc c' n a.bt K:=
 (Qm h z.aR).mono λe w' ⟨r,p⟩=>⟨r,_,p,z.abort⟩
def Ny(c:C):Prop:=c.broken=false/\(∀y∈c.table,y<=1023)/\(c.slot=0\/c.slot=1)/\c.parts.length<=5/\(cd c.bf.table.length<=(Fm.gY c.m 0).length->c.ep<1099511627776->Rt.gP (c.ep+1) (c.bf.table.length:Nat) (Rt.cy ((takeN c.m (cd c.bf.table.length)).2.map Int.toNat))/\Rt.cy ((takeN c.m (cd c.bf.table.length)).2.map Int.toNat)=(takeN c.m (cd c.bf.table.length)).2)
def Nz(h:At w x n c)(z:Zc c n a K)(hK:K<=1000000000000)(cc:Ny a.c):
  io prog 100 #[sp x.b] w λe w'=>e=fd a.an.2/\∃c',Be w w' x n c'/\Zc c' n a.an.1 (K+1):=by
 have zc:=z.gZ h.tl;rw[<-zc.2];rw[z.e]at cc;exact(Mb h cc.1 (z.ep0 hK).1 cc.2.1 cc.2.2.1 (z.calls hK).1 (z.calls hK).2 cc.2.2.2.1 cc.2.2.2.2).mono λe w' ⟨r,p⟩=>⟨r,_,p,zc.1⟩
end
structure QS where
 a:St
 l:List Fr
 hand:Nat
def QS.ps(q:QS)(c:C):PS:=⟨c,q.l,q.hand⟩
def QS.turn(s:QS):QS:={s with hand:=(s.hand+1) % s.l.length}
def QS.gC:Nat->QS->QS×Int
 |0,s=>(s,-1)
 |m+1,s=>
  if 0<(il s.l s.hand).held then QS.gC m s.turn
  else if(il s.l s.hand).used=true then QS.gC m {s.turn with l:=s.l.set s.hand {il s.l s.hand with used:=false}}
  else(s.turn,(s.hand:Int))
def QS.az(s:QS):QS×Int:=
 if 0<=Gl (λf=>decide (f.au<0)) s.l then(s,Gl (λf=>decide (f.au<0)) s.l)else s.gC (2*s.l.length+1)
def QS.bl(s:QS)(k:Nat):QS×Int:=
 if(il s.l k).cH=true then
  if(s.a.ao (il s.l k).au (il s.l k).fS.data.toList).2=0 then({s with a:=(s.a.ao (il s.l k).au (il s.l k).fS.data.toList).1,l:=s.l.set k {il s.l k with cH:=false}},0)
  else({s with a:=(s.a.ao (il s.l k).au (il s.l k).fS.data.toList).1},(s.a.ao (il s.l k).au (il s.l k).fS.data.toList).2)
 else(s,0)
def QS.aU(s:QS)(p:Int):QS×Nm×Int:=
 if 0<=findF s.l p then
  ({s with l:=s.l.set (findF s.l p).toNat {il s.l (findF s.l p).toNat with held:=(il s.l (findF s.l p).toNat).held+1,used:=true}},(il s.l (findF s.l p).toNat).fS,0)
 else if(s.a.aO p).2≠0 then(s,⟨#[]⟩,(s.a.aO p).2)
 else if s.az.2<0 then(s.az.1,⟨#[]⟩,12)
 else if(s.az.1.bl s.az.2.toNat).2≠0 then((s.az.1.bl s.az.2.toNat).1,⟨#[]⟩,(s.az.1.bl s.az.2.toNat).2)
 else({(s.az.1.bl s.az.2.toNat).1 with l:=(s.az.1.bl s.az.2.toNat).1.l.set s.az.2.toNat ⟨p,⟨(s.a.aO p).1.toArray⟩,1,false,true⟩},⟨(s.a.aO p).1.toArray⟩,0)
def QS.eX(s:QS)(p:Int):Option (Nat×Fr):=
 if findF s.l p<0 then none else match s.l[(findF s.l p).toNat]? with
  |none=>none
  |some f=>if f.held=0 then none else some ((findF s.l p).toNat,f)
def QS.fG(s:QS)(p:Int):QS×Int:=match s.eX p with
 |none=>(s,16)
 |some (k,f)=>({s with l:=s.l.set k {f with held:=f.held-1}},0)
def QS.eP(s:QS)(p:Int)(b:Nm):QS×Int:=
 if 232<b.size then(s,4)else match s.eX p with
 |none=>(s,16)
 |some (k,f)=>({s with l:=s.l.set k {f with fS:=mX b,cH:=true,used:=true}},0)
def QS.cF(s:QS)(p:Int):QS×Nm×Int:=
 if(s.aU p).2.2≠0 then((s.aU p).1,⟨#[]⟩,(s.aU p).2.2)else(((s.aU p).1.fG p).1,(s.aU p).2.1,0)
def QS.dh(s:QS)(p:Int)(b:Nm):QS×Int:=
 if 232<b.size then(s,4)else if(s.aU p).2.2≠0 then((s.aU p).1,(s.aU p).2.2)else((((s.aU p).1.eP p b).1.fG p).1,0)
def QS.aF(s:QS)(p:Int):QS×Int:=
 if 0<=findF s.l p/\0<(il s.l (findF s.l p).toNat).held then(s,16)
 else if(s.a.aF p).2≠0 then({s with a:=(s.a.aF p).1},(s.a.aF p).2)
 else if 0<=findF s.l p then({s with a:=(s.a.aF p).1,l:=s.l.set (findF s.l p).toNat Fr.nil},0)
 else({s with a:=(s.a.aF p).1},0)
def QS.dk(s:QS)(i:Int):QS×Int:=
 if i<0\/(s.l.length:Int)<=i then(s,3)
 else if(il s.l i.toNat).au<0 then(s,0)
 else if 0<(il s.l i.toNat).held then(s,16)
 else if(s.bl i.toNat).2≠0 then s.bl i.toNat
 else({(s.bl i.toNat).1 with l:=(s.bl i.toNat).1.l.set i.toNat Fr.nil},0)
def QS.mI(s:QS):Nat:=s.l.countP λf=>decide (0<f.held)
def QS.aN(s:QS):Nat->QS×Int
 |0=>(s,0)
 |k+1=>if(s.aN k).2≠0 then s.aN k else(s.aN k).1.bl k
def QS.an(s:QS):QS×Int:=
 if 0<s.mI then(s,16)
 else if(s.aN s.l.length).2≠0 then s.aN s.l.length
 else({(s.aN s.l.length).1 with a:=(s.aN s.l.length).1.a.an.1},(s.aN s.l.length).1.a.an.2)
def QS.bt(s:QS):QS:={s with a:=s.a.bt,l:=it s.l.length Fr.nil}
def QS.bE(s:QS)(p:UV):QS×Int×Int:=({s with a:=(s.a.bE p).1},(s.a.bE p).2)
def Kc(c:C):∀(m:Nat) (q:QS),(q.ps c).gC m=((q.gC m).1.ps c,(q.gC m).2)
 |0,_=>rfl
 |m+1,q=>by
  unfold PS.gC QS.gC;show(if 0<(il q.l q.hand).held then _ else _)=_
  split
  .exact Kc c m q.turn
  .show(if(il q.l q.hand).used=true then _ else _)=_
   split
   .exact Kc c m {q.turn with l:=q.l.set q.hand {il q.l q.hand with used:=false}}
   .rfl
def zK(c:C)(q:QS):(q.ps c).az=(q.az.1.ps c,q.az.2):=by
 unfold PS.az QS.az;show(if 0<=Gl (λf=>decide (f.au<0)) q.l then _ else _)=_
 split
 .rfl
 .exact Kc c _ q
def Kd(c:C)(q:QS)(p:Int):(q.ps c).eX p=q.eX p:=rfl
def let_ps(c:C)(q:QS)(p:Int):(q.ps c).fG p=((q.fG p).1.ps c,(q.fG p).2):=by
 unfold PS.fG QS.fG;rw[Kd]
 cases q.eX p with
 |none=>rfl
 |some kf=>rfl
def vJ:∀(m:Nat) (q:QS),(q.gC m).1.a=q.a/\(q.gC m).1.l.length=q.l.length
 |0,_=>⟨rfl,rfl⟩
 |m+1,q=>by
  unfold QS.gC
  split
  .exact vJ m q.turn
  .split
   .have h:=vJ m {q.turn with l:=q.l.set q.hand {il q.l q.hand with used:=false}};exact⟨h.1,by rw[h.2,bR]⟩
   .exact⟨rfl,rfl⟩
def gG(q:QS):q.az.1.a=q.a/\q.az.1.l.length=q.l.length:=by
 unfold QS.az
 split
 .exact⟨rfl,rfl⟩
 .exact vJ _ q
variable{w:BY}{y:Y}{n K K':Nat}{q:QS}{f:Fr}{l:List Fr}
def ZP(w:BY)(y:Y)(n:Nat)(q:QS)(K:Nat):Prop:= ∃c,ju w y n (q.ps c)/\Zc c n q.a K
def ZP.below{w':BY}(h:ZP w y n q K)(hb:i7 w w'):ZP w' y n q K:=by
 obtain⟨c,A,z⟩:=h;exact⟨c,A.below hb,z⟩
def ZP.more(h:ZP w y n q K)(hk:K<=K'):ZP w y n q K':=by
 obtain⟨c,A,z⟩:=h;exact⟨c,A,z.more hk⟩
def Rx{c:C}(h:ju w y n (q.ps c))(z:Zc c n q.a K)(hK:K<=1000000000000)(k:Nat)(hf:q.l[k]?=some f)(hd:f.cH=true)(hs:f.fS.size<=1000):
  io prog 99 #[pp y.pb,(k:Nat)] w λe w'=>e=fd (U5 U6 (q.bl k).2)/\ZP w' y n (q.bl k).1 (K+1)/\ah y.fp w w':=by
 have hk:k<q.l.length:=(aW.1 hf).1;have p1:w.cell? ⟨y.pb,1,none⟩=some (U3 (lc y.fg) q.l.length y.cp):=h.p1;have l2:q.l.length<=32:=h.l2;have Oy:(k:Int)<(q.l.length:Int):=ls
 obtain⟨c0,c1,c2,c3,c4⟩:=h.Cb k f hf;rw[hd]at c3;have KW:=xh (λ(W:BY) (A:ju W y n (q.ps c))=>Rv A.hs z hK f.au f.fS ls);have HP:=xh (λ(w1 w2:BY) (c':C) (A1:ju w1 y n (q.ps c)) (A:At w2 y.x n c') (o:ah y.x.fp w1 w2)=>(show ju w2 y n (q.ps c')/\ah y.fp w1 w2 from A1.same A o));have AD:=xh h.drew;have OD:=xh<|(ah.refl y.fp w).drew;have HF:=xh hf;obtain⟨R,hR⟩:∃R,q.a.ao f.au f.fS.pu=R:=⟨_,rfl⟩
 have hB:q.bl k=if R.2=0 then({q with a:=R.1,l:=q.l.set k {f with cH:=false}},0)else({q with a:=R.1},R.2):=by
  unfold QS.bl;rw[nY hf,U8 hd,hR]
 rw[hB];rw[hR]at KW;obtain⟨Ra,Re⟩:=R;dsimp only at KW ⊢;obtain⟨Q2,hQ⟩:∃Q2,(if Re=0 then(({q with a:=Ra,l:=q.l.set k {f with cH:=false}}:QS),(0:Int))else({q with a:=Ra},Re))=Q2:=⟨_,rfl⟩;rw[hQ];have HQ:=xh hQ;clear hQ;have S0:=xh (show(λW'=>W'.cell? (lc y.pb)=some (lc y.x.b:li)/\W'.cell? ⟨y.fg,k*5,none⟩=some (f.au:li)/\W'.cell? ⟨y.fg,k*5+1,none⟩=some (U7 f.fS)) w.drew from⟨AD.o.p0,(AD.o.Cb k f hf).1,(AD.o.Cb k f hf).2.1⟩)
 clear h z hf hd hB hR c0 c1 c2 c4;unfold pp sp at *;go_in;go_wp2;refine kw (λW'=>W'.cell? (lc y.pb)=some (lc y.x.b:li)/\W'.cell? ⟨y.fg,k*5,none⟩=some (f.au:li)/\W'.cell? ⟨y.fg,k*5+1,none⟩=some (U7 f.fS)) (S0.o) (λaC=>?_);refine dj [(0,18),(1,19),(2,20),(3,21),(4,22),(5,23),(6,24),(7,25),(8,26),(9,27),(10,28),(11,29)] ?_
 iterate 12 refine bJ ?_
 refine dV 12 30 λK hK=>?_;go_simp
 go_at_call 147
 go_call (KW.o _ AD.o) as e w5 ⟨rfl,c5,a5,z5,o5⟩;have P5:=HP.o w.drew w5 c5 AD.o a5 o5;have A5:=xh P5.1;have O5:=xh<|OD.o.trans P5.2;have Z5:=xh z5;clear P5 a5 o5 z5;obtain⟨d0,d1,d2,d3,d4⟩:=A5.o.Cb k f HF.o;have q0:=A5.o.p0;go_simp;refine cq hK (⟨q0,d0,d1⟩) (λaC=>?_);refine dj [(13,6)] ?_
 iterate 1 refine bJ ?_
 refine jp ?_ _;have hfs:=HF.o
 by_cases he:Re=0
 .subst he;have HR:=xh<|HQ.o.symm.trans (U8 rfl);clear HQ;obtain⟨z0,B0,qq⟩:=A5.o.eP k 3 ls {f with cH:=false} (WF false) HF.o rfl;have AZ:=xh B0;have OZ:=xh<|O5.o.trans qq;clear B0 qq;go_wp2;go_ret;exact⟨by rw[HR.o];rfl,by rw[HR.o];exact⟨c5,AZ.o,Z5.o⟩,OZ.o⟩
 .have HR:=xh<|HQ.o.symm.trans (U9 he);clear HQ;have hq:(Re==0)=false:=i4 he
  have kP:(Re != 0)=true:=lm he
  go_wp2;go_ret;exact⟨by rw[HR.o];rfl,by rw[HR.o];exact⟨c5,A5.o,Z5.o⟩,O5.o⟩
def Fl(h:ZP w y n q K)(hK:K<=1000000000000)(k:Nat)(hk:k<q.l.length)(hs:∀f∈q.l,f.fS.size<=1000):
  io prog 99 #[pp y.pb,(k:Nat)] w λe w'=>e=fd (U5 U6 (q.bl k).2)/\ZP w' y n (q.bl k).1 (K+1)/\ah y.fp w w':=by
 obtain⟨c,A,z⟩:=h;have hf:=j8 hk
 by_cases hd:(il q.l k).cH=true
 .exact Rx A z hK k hf hd (hs _ (ay hf))
 .unfold QS.bl;rw[U9 hd];exact(Qc A k hf (by simpa using hd)).mono λe w' ⟨r,b⟩=>⟨r,⟨c,A.below b,z.more ls⟩,.aj b⟩
def hold_go(h:ZP w y n q K)(hK:K<=1000000000000)(p:Int)(hk:findF q.l p= -1)(hr:(q.a.aO p).2=0)(k:Nat)(hv:q.az.2=(k:Nat))(lQ:k<q.l.length)(hs:∀f∈q.az.1.l,f.fS.size<=1000):
  io prog 213 #[pp y.pb,p] w λe w'=>e=fd (rg #[U7 (q.aU p).2.1,U5 U6 (q.aU p).2.2])/\ZP w' y n (q.aU p).1 (K+1)/\ah y.fp w w':=by
 obtain⟨c,A,z⟩:=h;have KF:=xh<|jV A p;rw[show(q.ps c).l=q.l from rfl,hk]at KF;have HB:=xh (λw' (hb:i7 w w')=>A.below hb);have KR:=xh (λw' (hb:i7 w w')=>Wt (A.below hb).hs z p);have KV:=xh (λw' (hb:i7 w w')=>Du (A.below hb));rw[zK]at KV;rw[hr]at KR;rw[hv]at KV;have hvl:=(gG q).2;have FY:=(gG q).1
 have hH:q.aU p=if(q.az.1.bl k).2≠0 then((q.az.1.bl k).1,⟨#[]⟩,(q.az.1.bl k).2)else({(q.az.1.bl k).1 with l:=(q.az.1.bl k).1.l.set k ⟨p,⟨(q.a.aO p).1.toArray⟩,1,false,true⟩},⟨(q.a.aO p).1.toArray⟩,0):=by
  unfold QS.aU;rw[hk,ge,U9 (by rw[hr];simp),hv,ge,show((k:Nat):Int).toNat=k by omega]
 rw[hH];clear hH;generalize (q.a.aO p).1=R at *;generalize q.az.1=V at *;have KB:=xh (λw' (h:ZP w' y n V K)=>Fl h hK k ls hs);have uY:k<(V.bl k).1.l.length:=by
  unfold QS.bl
  split
  .split
   .show k<(V.l.set k _).length;rw[bR];omega
   .show k<V.l.length;omega
  .show k<V.l.length;omega
 generalize V.bl k=VB at *;obtain⟨B,be⟩:=VB;dsimp only at KB uY ⊢;obtain⟨Q2,hQ⟩:∃Q2,(if be≠0 then(B,(⟨#[]⟩:Nm),be)else(({B with l:=B.l.set k ⟨p,⟨R.toArray⟩,1,false,true⟩}:QS),⟨R.toArray⟩,0))=Q2:=⟨_,rfl⟩;rw[hQ];have HQ:=xh hQ;clear hQ;have HZ:=g9 (∀W,ju W y n (V.ps c)->ZP W y n V K) (λW h=>⟨c,h,by rw[FY];exact z⟩);have UO:¬(k:Int)<0:=ls
 clear A z hk hv hvl FY hs hr;unfold pp sp at *;go_in;go_wp2_with fail;go_call KF.o as e w1 ⟨rfl,bu⟩;have O1:=xh bu;have p0:=(HB.o w1 bu).p0;clear bu;go_wp2_with fail;go_call (KR.o w1 O1.o) as e w2 ⟨rfl,da⟩;have O2:=xh<|aE O1.o da;clear da p0;go_wp2_with fail;go_call (KV.o w2 O2.o) as e w3 ⟨rfl,A3,o3⟩;have Z3:=xh<|HZ.o w3 A3;have o3:=xh<|(ah.aj (S:=y.fp) O2.o).trans o3
 clear A3;go_wp2_with fail;go_call (KB.o w3 Z3.o) as e w4 ⟨rfl,z4,o4⟩;obtain⟨c4,A4,Z4⟩:=z4;have A4:=xh A4;have Z4:=xh Z4;have o4:=xh<|o3.o.trans o4
 by_cases he:be=0
 .subst he;have HR:=xh<|HQ.o.symm.trans (i8);clear HQ;have p1:w4.cell? ⟨y.pb,1,none⟩=some (U3 (lc y.fg) B.l.length y.cp):=A4.o.p1;have l2:B.l.length<=32:=A4.o.l2;have Oy:(k:Int)<(B.l.length:Int):=ls
  obtain⟨f,HF⟩:∃f,Hid (B.l[k]?=some f):=⟨_,xh (aQ uY)⟩;obtain⟨c0,c1,c2,c3,c4'⟩:=A4.o.Cb k f HF.o;obtain⟨z0,B0,q0⟩:=A4.o.eP k 0 ls {f with au:=p} p HF.o rfl;rw[mq]at z0 B0 q0;have g0:(B.l.set k {f with au:=p})[k]?=some {f with au:=p}:=by rw[eK uY]
  obtain⟨z1,B1,q1⟩:=B0.eP k 1 ls {f with au:=p,fS:=⟨R.toArray⟩} (U7 ⟨R.toArray⟩) g0 rfl;simp only[ly]at B1;have g1:(B.l.set k {f with au:=p,fS:=⟨R.toArray⟩})[k]?=some {f with au:=p,fS:=⟨R.toArray⟩}:=by rw[eK uY]
  obtain⟨z2,B2,q2⟩:=B1.eP k 2 ls {f with au:=p,fS:=⟨R.toArray⟩,held:=1} (U5 U6 1) g1 rfl;simp only[ly]at B2;have g2:(B.l.set k {f with au:=p,fS:=⟨R.toArray⟩,held:=1})[k]?=some {f with au:=p,fS:=⟨R.toArray⟩,held:=1}:=by rw[eK uY]
  obtain⟨z3,B3,q3⟩:=B2.eP k 3 ls {f with au:=p,fS:=⟨R.toArray⟩,held:=1,cH:=false} (WF false) g2 rfl;simp only[ly]at B3;have g3:(B.l.set k {f with au:=p,fS:=⟨R.toArray⟩,held:=1,cH:=false})[k]?=some {f with au:=p,fS:=⟨R.toArray⟩,held:=1,cH:=false}:=by rw[eK uY]
  obtain⟨z4,B4,q4⟩:=B3.eP k 4 ls ⟨p,⟨R.toArray⟩,1,false,true⟩ (WF true) g3 rfl;simp only[ly]at B4;have AZ:=xh B4;have OZ:=xh<|o4.o.trans ((((q0.trans q1).trans q2).trans q3).trans q4);clear B0 B1 B2 B3 B4 q0 q1 q2 q3 q4 g0 g1 g2 g3 uY;go_wp2;go_ret2;exact⟨by rw[HR.o];rfl,by rw[HR.o];exact⟨c4,AZ.o,Z4.o⟩,OZ.o⟩
 .have HR:=xh<|HQ.o.symm.trans (U8 he);clear HQ;have hq:(be==0)=false:=i4 he
  have kP:(be != 0)=true:=lm he
  clear uY;go_wp2;go_ret2;exact⟨by rw[HR.o];rfl,by rw[HR.o];exact⟨c4,A4.o,Z4.o⟩,o4.o⟩
def Fb(l:List Fr)(K:Nat):Prop:= ∀f∈l,0<=f.held/\f.held<=K/\f.fS.size<=1000
def Fb.set(h:Fb l K)(k:Nat)(hf:0<=f.held/\f.held<=K/\f.fS.size<=1000):Fb (l.set k f) K:=by
 intro g hg
 rcases oJ hg with hg|rfl
 .exact h g hg
 .exact hf
def Fb.more(h:Fb l K)(hk:K<=K'):Fb l K':=λf hf=>by have:=h f hf;omega
def Fb.nil :0<=Fr.nil.held/\Fr.nil.held<=(K:Nat)/\Fr.nil.fS.size<=1000:=⟨dG _,by show(0:Int)<=_;omega,ms⟩
def nZ :∀(m:Nat) (s:QS),s.hand<s.l.length->Fb s.l K->Fb (s.gC m).1.l K/\(s.gC m).1.hand<(s.gC m).1.l.length/\((s.gC m).2= -1\/∃k:Nat,(s.gC m).2=k/\k<s.l.length)
 |0,_,hl,hc=>⟨hc,hl,.inl rfl⟩
 |m+1,s,hl,hc=>by
  unfold QS.gC;have hf:=j8 hl;have hm:=hc _ (ay hf);have ht:(s.hand+1) % s.l.length<s.l.length:=qz _ ls
  split
  .exact nZ m s.turn ht hc
  .split
   .have:=nZ m {s.turn with l:=s.l.set s.hand {il s.l s.hand with used:=false}} (by rw[bR];exact ht) (hc.set _ hm);rw[bR]at this;exact this
   .exact⟨hc,ht,.inr ⟨s.hand,rfl,hl⟩⟩
def n7(s:QS)(hl:s.hand<s.l.length)(hc:Fb s.l K):Fb s.az.1.l K/\s.az.1.hand<s.az.1.l.length/\(s.az.2= -1\/∃k:Nat,s.az.2=k/\k<s.l.length):=by
 unfold QS.az
 split
 .refine⟨hc,hl,?_⟩
  rcases Dr (λf=>decide (f.au<0)) s.l with e|⟨k,f,e,hf,_⟩
  .exact .inl e
  .exact .inr ⟨k,e,(aW.1 hf).1⟩
 .exact nZ _ s hl hc
def uJ(h:ZP w y n q K)(hb:Fb q.l K)(hK:K<=1000000000000)(p:Int):
  io prog 213 #[pp y.pb,p] w λe w'=>e=fd (rg #[U7 (q.aU p).2.1,U5 U6 (q.aU p).2.2])/\ZP w' y n (q.aU p).1 (K+1)/\ah y.fp w w':=by
 have h':=h;obtain⟨c,A,z⟩:=h
 rcases gF q.l p with e|⟨k,f,e,hf,_,_⟩
 .by_cases hr:(q.a.aO p).2=0
  .obtain⟨v1,v2,v3⟩:=n7 q A.lh hb
   rcases v3 with v3|⟨k,v3,hk⟩
   .unfold QS.aU;rw[e,ge,U9 (by rw[hr];simp),g8];refine(UR A p e (by rw[show(q.ps c).c=c from rfl,z.read];exact hr) (by rw[zK];show q.az.2<0;omega)).mono λe w' ⟨r,A',o⟩=>⟨r,?_,o⟩;rw[zK]at A';exact⟨c,A',by rw[(gG q).1];exact z.more ls⟩
   .exact hold_go h' hK p e hr k v3 hk (λf hf=>(v1 f hf).2.2)
  .unfold QS.aU;rw[e,ge,U8 hr];have hb:=Yo A p e (by rw[show(q.ps c).c=c from rfl,z.read];exact hr);rw[show(q.ps c).c=c from rfl,z.read]at hb;exact hb.mono λe w' ⟨h1,h2⟩=>⟨h1,⟨c,A.below h2,z.more ls⟩,.aj h2⟩
 .unfold QS.aU;rw[e,g8,show((k:Nat):Int).toNat=k from by omega,nY hf];exact(Yn A p k e hf (by have:=hb f (ay hf);omega)).mono λe w' ⟨r,A',o⟩=>⟨r,⟨c,A',z.more ls⟩,o⟩
variable{w:BY}{y:Y}{n K:Nat}{q:QS}
def zset_any(h:ZP w y n q K)(p:Int)(b:Nm):
  io prog 219 #[pp y.pb,p,U7 b] w λe w'=>e=fd (U5 U6 (q.eP p b).2)/\ZP w' y n (q.eP p b).1 K/\ah y.fp w w':=by
 obtain⟨c,A,z⟩:=h;unfold QS.eP
 by_cases hb:232<b.size
 .rw[U8 hb];exact(set_big w y.pb p b hb).mono λe w' ⟨r,o⟩=>⟨r,⟨c,A.below o,z⟩,.aj o⟩
 .rw[U9 hb]
  cases hh:q.eX p with
  |none=>exact(set_out A p b ls (by rw[Kd,hh])).mono λe w' ⟨r,o⟩=>⟨r,⟨c,A.below o,z⟩,.aj o⟩
  |some kf=>exact(set_in A p b ls (k:=kf.1) (f:=kf.2) (by rw[Kd,hh])).mono λe w' ⟨r,A',o⟩=>⟨r,⟨c,A',z⟩,o⟩
def NA(h:ZP w y n q K)(hb:Fb q.l K)(hK:K<=1000000000000)(p:Int):
  io prog 214 #[pp y.pb,p] w λe w'=>e=fd (U5 U6 (q.fG p).2)/\ZP w' y n (q.fG p).1 K/\ah y.fp w w':=by
 obtain⟨c,A,z⟩:=h;have hl:=let_any A p (λf hf=>by have:=hb f hf;omega);rw[let_ps]at hl;refine hl.mono λe w' ⟨r,A',o⟩=>⟨r,⟨c,A',?_⟩,o⟩;have:(q.fG p).1.a=q.a:=by
  unfold QS.fG
  cases q.eX p with
  |none=>rfl
  |some kf=>rfl
 rw[this];exact z
end Sh.Cn
end Go.Proofs.YtmonobkginiajaaGreat
