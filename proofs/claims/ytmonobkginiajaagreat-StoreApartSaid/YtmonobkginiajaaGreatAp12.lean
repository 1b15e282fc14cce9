/- packed. -/
import Derived.Laws.EntriesVeiled
import Derived.Test.YtmonobkginiajaaGreatAp11
set_option linter.all false
set_option maxRecDepth 100000
set_option maxHeartbeats 8000000
namespace Go.Proofs.YtmonobkginiajaaGreat
open Go.Proofs.Tryz
namespace Sh
open Go.RowKit Pk Dk Pg
open Nd (E aV aZ dD bH bf cd bJ an dg)
variable{v:Vw}{h:Nat}{l:List E}
structure zT(v v':Vw)(H H':Nat)(ns:List NT)(gone:List Int):Prop where
 ok:lT v' H' 0
 en:fZ v' H' 0=bV ns
 pg:(bw (aI v' H' 0)++gone).Perm (bw ns)
 del:∀j∈gone,(v' j).2≠0
 o:∀j,j∉bw ns->v' j=v j
 Cy:∀wt,ef wt (aI v' H' 0)<=ef wt ns
 h:H'<=H
theorem qa(k:l≠[]->fO v h l)(hb:an (blank (decide (h=0)) l)<=223):(cf (decide (h=0)) l).2=0:=by
 by_cases hl:l=[]
 .subst hl
  rcases nJ (decide (h=0)) []with h1|h1|h1
  .exact h1.2.2.1
  .have h2:=h1.2.1;rw[nM]at h2;exact absurd h2 (by simp[an])
  .refine absurd ?_ h1.1;rw[nM];intro i hi;exact absurd hi (by simp)
 .exact ua (k hl) hb
section
variable{o:Vw}{mm:Nat}
theorem vC{v':Vw}(k:l≠[]->fO v h l)(hb:an (blank (decide (h=0)) l)<=223)(hh:l≠[]\/h=0)(hd:ik v' 0=(decide (h=0),blank (decide (h=0)) l,0))(hv:∀j,j≠0->v' j=v j)(hn:(0::bw (cr v h l)).Nodup):
  zT v v' h h ((h,0,l)::cr v h l) []:=by
 have ok:fO v h l:=by
  by_cases hl:l=[]
  .rcases hh with hh|hh
   .exact absurd hl hh
   .subst hl hh;exact⟨by simp,List.Pairwise.nil⟩
  .exact k hl
 obtain⟨p1,p2,p3⟩:=zN (v:=v) (v':=v') (h:=h) (x:=⟨0,decide (h=0),l,0⟩) (up:=[]) rfl ok (λh=>absurd rfl h) (λ_ _=>trivial) (by simpa [db,cu]using hn) hb hd hv;have p1:lT v' h 0:=p1;have p2:aI v' h 0=(h,0,blank (decide (h=0)) l)::(cr v h l++[]):=p2;rw[jh]at p2;have p3:fZ v' h 0=_:=p3;refine⟨p1,?_,?_,by simp,λj hj=>hv j (λe=>hj (by simp[e])),λwt=>?_,aj _⟩
 .rw[p3];unfold cR;simp only[cP,ct,db,cu];simp
 .rw[p2];simp
 .rw[p2,dZ,dZ];dsimp only;have:wt h*(an (blank (decide (h=0)) l)-151)<=wt h*(an l-151):=ly _ (by have:=dk (decide (h=0)) l;omega);omega
theorem zU:∀(h m:Nat) (l:List E) (q:QS) (v:Vw) (u:Nat),h<m->Rd q v o u mm->(v 0).2=0->(l≠[]->fO v h l)->an (blank (decide (h=0)) l)<=223->(0::bw (cr v h l)).Nodup->
  ((m9 m q (decide (h=0)) l).2=11/\mm<=u/\∃v',Rd (m9 m q (decide (h=0)) l).1 v' o u mm)\/
  ((m9 m q (decide (h=0)) l).2=0/\∃v' H' gone,Rd (m9 m q (decide (h=0)) l).1 v' o u mm/\zT v v' h H' ((h,0,l)::cr v h l) gone)
 |h,0,_,_,_,_,hm,_,_,_,_,_=>absurd hm (by omega)
 |h,m+1,l,q,v,u,hm,R,h0,k,hb,hn=>by
  unfold m9
  by_cases hs:decide (h=0)=false/\l.length=1
  .rw[if_pos hs];obtain⟨h',rfl⟩:∃h',h=h'+1:=⟨h-1,by have:=hs.1;simp at this;omega⟩;obtain⟨c,rfl⟩:∃c,l=[c]:=by
    match l,hs.2 with
    |[c],_=>exact⟨c,rfl⟩
   have ok:=k (by simp);have hc:=ok.2.c c (by simp);obtain⟨d1,d2,d3⟩:=L8 hc.1;have EP:[c].getD 0 Nd.E.zero=c:=rfl;rw[EP];obtain⟨r1,r2⟩:=R.read c.aU
   rcases r2 with r2|⟨r2,r3⟩
   .rw[r2,d1,if_neg (by simp)];have hhere:(v c.aU).2=0:=mi (by rw[d1]);obtain⟨e1,e2⟩:=r1.drop c.aU hhere;rw[if_neg (by rw[e1];simp)];dsimp only;have wH:cr v (h'+1) [c]=(h',c.aU,(ik v c.aU).2.1)::cr v h' (ik v c.aU).2.1:=by
     show aI v h' c.aU++[]=_;rw[jh,rh]
    rw[wH,cO]at hn;have hn':=iL.1 hn;have Qt:=iL.1 hn'.2;have hcne:(0:Int)≠c.aU:=λe=>hn'.1 (by show(0:Int)∈_;rw[e];simp);have hvd:∀j,j≠c.aU->EF v c.aU j=v j:=λj hj=>EG v hj;obtain⟨g1,g2,g3⟩:=kq (v:=v) (v':=EF v c.aU) (h:=h') (l:=(ik v c.aU).2.1) (λj hj=>hvd j (λe=>Qt.1 (show c.aU∈bw (cr v h' (ik v c.aU).2.1)from e▸hj)))
    rcases zU h' m (ik v c.aU).2.1 _ _ u (by omega) e2 (by rw[hvd 0 hcne];exact h0) (λ_=>g3 d3) (ay (dk _ _) d2) (by rw[g1];exact iL.2 ⟨λhm=>hn'.1 (bz _ hm),Qt.2⟩)with⟨i1,i2,i3⟩|⟨i1,v',H',gone,i2,S⟩
    .exact .inl ⟨i1,i2,i3⟩
    .refine .inr ⟨i1,v',H',c.aU::gone,i2,S.ok,?_,?_,λj hj=>?_,λj hj=>?_,λwt=>?_,by have:=S.h;omega⟩
     .rw[S.en,g1,wH,kn,sE,sE]
     .rw[wH,cO,cO];have:=S.pg;rw[g1,cO]at this;refine(List.perm_middle.trans (this.cons _)).trans ?_;exact List.Perm.swap _ _ _
     .rcases ar.1 hj with rfl|hj
      .rw[S.o c.aU (by rw[g1,cO];intro hm;rcases ar.1 hm with hm|hm;exact hcne hm.symm;exact Qt.1 hm),Cv];decide
      .exact S.del j hj
     .rw[wH,cO,cO]at hj;simp only[ar,not_or]at hj;rw[S.o j (by rw[g1,cO];simp only[ar,not_or];exact⟨hj.1,hj.2.2⟩)];exact hvd j hj.2.1
     .have:=S.Cy wt;rw[g1,dZ]at this;rw[wH,dZ,dZ];show _<=_+(wt h'*(an (ik v c.aU).2.1-151)+_);have h3:ef wt (aI v' H' 0)<=wt h'*(an (ik v c.aU).2.1-151)+ef wt (cr v h' (ik v c.aU).2.1):=this;omega
   .rw[r2,if_pos (by simp)];exact .inl ⟨rfl,r3,v,r1⟩
  .rw[if_neg hs]
   by_cases hl:l=[]
   .subst hl;rw[if_pos rfl];have hk:cr v h []=[]:=by cases h<;>rfl
    have p8:(cf true []).2=0:=qa (v:=v) (h:=0) (λh=>absurd rfl h) (by rw[nM];decide)
    rcases R.write h0 p8 with⟨w1,w2⟩|⟨w1,w2,w3⟩
    .right;have S:=vC (v:=v) (v':=jq v 0 (cf true []).1) (h:=0) (l:=[]) (λh=>absurd rfl h) (by rw[nM];decide) (.inr rfl) (by rw[fU p8,if_pos rfl];rfl) (λj hj=>by unfold jq;rw[if_neg hj]) (by simp[cr]);refine⟨w1,_,0,[],w2,S.ok,?_,?_,by simp,λj hj=>?_,λwt=>?_,bm _⟩
     .rw[S.en,hk]
      cases h<;>simp[cr]
     .rw[hk];exact S.pg
     .rw[hk]at hj;exact S.o j hj
     .have:=S.Cy wt;rw[hk,dZ];have e:ef wt ((0,0,[])::cr v 0 [])=0:=by show wt 0*(0-151)+0=0;simp
      rw[e]at this;omega
    .exact .inl ⟨w1,w3,v,w2⟩
   .rw[if_neg hl];have p8:=qa k hb
    rcases R.write h0 p8 with⟨w1,w2⟩|⟨w1,w2,w3⟩
    .exact .inr ⟨w1,_,h,[],w2,vC k hb (.inl hl) (by rw[fU p8,if_pos rfl]) (λj hj=>by unfold jq;rw[if_neg hj]) hn⟩
    .exact .inl ⟨w1,w3,v,w2⟩
structure Md(v:Vw)(h:Nat)(x:Step)(up:List Step):Prop where
 hole:pf v up h x.aw
 leaf:x.leaf=decide (h=0)
 here:(v x.aw).2=0
 ok:x.l≠[]->fO v h x.l
 TM:∀e∈gf v h x.l,EI up e.key
 G4:(bw (fc v up h)++x.aw::(bw (cr v h x.l)++bw (da v up h))).Nodup
 sz:an x.l<=223
theorem OV{v1:Vw}{x y:Step}{up:List Step}(P:Md v h x (y::up))(hl:x.l=[])(hv:∀j,j≠x.aw->v1 j=v j)(hd:(v1 x.aw).2≠0):
  Md v1 (h+1) {y with l:=y.l.eraseIdx y.at_} up/\
  ∀{v':Vw} {H':Nat} {gone:List Int},zT v1 v' (h+1+up.length) H' (cR v1 (h+1) {y with l:=y.l.eraseIdx y.at_} up) gone->zT v v' (h+(y::up).length) H' (cR v h x (y::up)) (x.aw::gone):=by
 obtain⟨⟨a,c,b,f,hsib⟩,hU⟩:=P.hole;obtain⟨t1,t2,t3⟩:=kK f;have hn:=P.G4;rw[gz,iL]at hn;obtain⟨_,⟨na,_⟩,nb⟩:=hn;have lk:∀j∈bw (fc v (y::up) h),v1 j=v j:=λj hj=>hv j (λe=>nb j hj x.aw (by simp) e);have ub:∀j∈bw (da v (y::up) h),v1 j=v j:=λj hj=>hv j (λe=>na (by rw[<-e];exact bF _ hj));obtain⟨H2,e1,e2⟩:=gG (y::up) h x.aw P.hole lk ub;obtain⟨⟨a',c',b',f2,TP⟩,hU2⟩:=H2
 have pK:a'=a/\c'=c/\b'=b:=by
  have q1:=(kK f2);exact⟨by rw[<-q1.1,t1],by rw[<-q1.2.2,t3],by rw[<-q1.2.1,t2]⟩
 obtain⟨rfl,rfl,rfl⟩:=pK;have hera:y.l.eraseIdx y.at_=a'++b':=by rw[f.l,f.at_,vB]
 rw[hera];have q1:bl v1 h a'=bl v h a':=(gF (λj hj=>lk j (by simp only[cP,db];rw[t1,cN,cO];exact bF _ (bz _ hj)))).1;have q2:bl v1 h b'=bl v h b':=(gF (λj hj=>ub j (by simp only[ct,cu];rw[t2,cN];exact bQ _ hj))).1
 have hU3:=gG up (h+1) y.aw hU (λj hj=>lk j (by simp only[cP,db];rw[cN];exact bQ _ hj)) (λj hj=>ub j (by simp only[ct,cu];rw[cN];exact bF _ hj));have zO:=hU3.2.1;have sH:=hU3.2.2;have ir:=lU (oM (v:=v) (p:=y.aw) (by rw[f.nd]));rw[f.nd]at ir;have ir:∀e∈a'++c'::b',dg e false:=by rw[<-f.l];exact ir
 have hby:=f.by_;rw[f.l,ez,et]at hby;have hkp:cr v h []=[]:=by cases h<;>rfl
 have hold:bw (cR v h x (y::up))=bw (fc v up (h+1))++(y.aw::bw (bl v h a'))++x.aw::(bw (bl v h b')++bw (da v up (h+1))):=by
  rw[fw,hl,hkp];simp only[cP,ct,db,cu];rw[t1,t2];simp
 have OM:bw (cR v1 (h+1) {y with l:=a'++b'} up)=bw (fc v up (h+1))++y.aw::((bw (bl v h a')++bw (bl v h b'))++bw (da v up (h+1))):=by
  rw[fw];show bw (fc v1 up (h+1))++y.aw::(bw (bl v1 h (a'++b'))++bw (da v1 up (h+1)))=_;rw[gq,cN,q1,q2,zO,sH]
 have rH:(x.aw::bw (cR v1 (h+1) {y with l:=a'++b'} up)).Perm (bw (cR v h x (y::up))):=by
  rw[OM,hold,Dj];intro j;simp only[It,Iu];omega
 have G6:=P.G4;rw[<-fw]at G6;have hnod1:=rH.nodup_iff.2 G6;have hnod:=(iL.1 hnod1);refine⟨⟨hU2,?_,?_,λeV=>⟨λe he=>?_,?_⟩,λe he=>?_,?_,?_⟩,λ{v' H' gone} S=>?_⟩
 .show y.leaf=decide (h+1=0);rw[f.leaf];rfl
 .exact mi (by show(ik v1 y.aw).2.2=0;rw[f2.nd])
 .have he:e∈a'++b':=he;exact ir e (by rcases az.1 he with h|h<;>simp[h])
 .show sF (lT v1 h) (fZ v1 h) (a'++b');refine⟨eV,f2.ch,f2.lo,λe he=>?_⟩
  cases ha':a' with
  |nil=>
   rw[ha']at he;exact f2.hb e (sU he)
  |cons z a2=>
   have hha:=f2.ha;rw[ha']at he hha;rw[mU,jN]at he
   rcases az.1 he with he|he
   .exact hha e he
   .exact f2.hb e he
 .have he:e∈bV (bl v1 h (a'++b')):=he;obtain⟨z,hz,hx⟩:=dm.1 he;exact TP z hz e hx
 .rw[<-fw];exact hnod.2
 .show an (a'++b')<=223;rw[ez];omega
 .have hHl:h+(y::up).length=h+1+up.length:=by simp;omega
  rw[hHl];refine⟨S.ok,?_,?_,λj hj=>?_,λj hj=>?_,λwt=>?_,S.h⟩
  .rw[S.en,kr,kr];show bV (fc v1 up (h+1))++(bV (bl v1 h (a'++b'))++bV (da v1 up (h+1)))=_;rw[gq,dK,q1,q2,zO,sH,hl];simp only[cP,ct,db,cu];rw[t1,t2];have:gf v h []=[]:=by cases h<;>rfl
   rw[this];simp
  .refine(List.perm_middle.trans (S.pg.cons _)).trans rH
  .rcases ar.1 hj with rfl|hj
   .rw[S.o _ hnod.1];exact hd
   .exact S.del j hj
  .rw[S.o j (λhm=>hj (rH.mem_iff.1 (bz _ hm)))];exact hv j (λe=>hj (rH.mem_iff.1 (by rw[e];simp)))
  .have h1:=S.Cy wt;have e3:ef wt (cR v1 (h+1) {y with l:=a'++b'} up)=ef wt (fc v up (h+1))+(wt (h+1)*(an (a'++b')-151)+((ef wt (bl v h a')+ef wt (bl v h b'))+ef wt (da v up (h+1)))):=by
    unfold cR;show ef wt (fc v1 up (h+1)++(h+1,y.aw,a'++b')::(bl v1 h (a'++b')++da v1 up (h+1)))=_;rw[gq,q1,q2,zO,sH];simp only[ja,dZ]
   have e4:ef wt (cR v h x (y::up))=(ef wt (fc v up (h+1))+(wt (h+1)*(an y.l-151)+ef wt (bl v h a')))+(wt h*(an x.l-151)+(ef wt (bl v h b')+ef wt (da v up (h+1)))):=by
    unfold cR;simp only[cP,ct,db,cu];rw[t1,t2,hl,hkp];simp only[ja,dZ,GZ,cX]
   have m1:wt (h+1)*(an (a'++b')-151)<=wt (h+1)*(an y.l-151):=ly _ (by rw[f.l,ez,ez,et];omega);rw[e3]at h1;rw[e4];omega
theorem wK:∀(up:List Step) (h:Nat) (x:Step) (q:QS) (v:Vw) (u:Nat),h+up.length<=15->Rd q v o u mm->Md v h x up->
  ((gi (x::up) q).2=11/\mm<=u/\∃v',Rd (gi (x::up) q).1 v' o u mm)\/
  ((gi (x::up) q).2=0/\∃v' H' gone,Rd (gi (x::up) q).1 v' o u mm/\zT v v' (h+up.length) H' (cR v h x up) gone)
 |[],h,x,q,v,u,hh,R,P=>by
  have AN:x.aw=0:=P.hole;have hb:an (blank (decide (h=0)) x.l)<=223:=ay (dk _ _) P.sz;have hn:(0::bw (cr v h x.l)).Nodup:=by have:=P.G4;rw[AN]at this;simpa [db,cu]using this
  have hns:cR v h x []=(h,0,x.l)::cr v h x.l:=by unfold cR;simp only[cP,ct,db,cu];rw[AN];simp
  have h0:(v 0).2=0:=by have h1:=P.here;rw[AN]at h1;exact h1
  rw[wE,hns]
  by_cases uk:x.leaf=true
  .rw[if_pos uk];have hz:h=0:=by rw[P.leaf]at uk;exact of_decide_eq_true uk
   subst hz;have p8:=qa (h:=0) P.ok hb;have p8:(cf x.leaf x.l).2=0:=by rw[uk];exact p8
   rw[AN]
   rcases R.write h0 p8 with⟨w1,w2⟩|⟨w1,w2,w3⟩
   .refine .inr ⟨w1,_,0,[],w2,vC P.ok hb (.inr rfl) ?_ (λj hj=>by unfold jq;rw[if_neg hj]) hn⟩;rw[fU p8,if_pos rfl,uk];rfl
   .exact .inl ⟨w1,w3,v,w2⟩
  .rw[if_neg uk];unfold QS.sA;rw[P.leaf];have hlen:h+([]:List Step).length=h:=rfl;rw[hlen]at hh ⊢;exact zU h 600 x.l q v u (by omega) R h0 P.ok hb hn
 |y::up,h,x,q,v,u,hh,R,P=>by
  rw[wF]
  by_cases hl:x.l=[]
  .rw[if_pos hl];obtain⟨e1,e2⟩:=R.drop x.aw P.here;rw[if_neg (by rw[e1];simp)];obtain⟨P2,hS⟩:=OV (v1:=EF v x.aw) P hl (λj hj=>EG v hj) (by rw[Cv];decide)
   rcases wK up (h+1) {y with l:=y.l.eraseIdx y.at_} _ _ u (by simp at hh;omega) e2 P2 with i|⟨i1,v',H',gone,i2,S⟩
   .exact .inl i
   .exact .inr ⟨i1,v',H',_,i2,hS S⟩
  .rw[if_neg hl];have hb:an (blank (decide (h=0)) x.l)<=223:=ay (dk _ _) P.sz;have p8:=qa P.ok hb;have hlay':(cf x.leaf x.l).2=0:=by rw[P.leaf];exact p8
   rcases R.write P.here hlay' with⟨w1,w2⟩|⟨w1,w2,w3⟩
   .obtain⟨p1,p2,p3⟩:=zN (v':=jq v x.aw (cf x.leaf x.l).1) P.hole (P.ok hl) (λ_=>hl) P.TM P.G4 hb (by rw[fU hlay',if_pos rfl,P.leaf]) (λj hj=>by unfold jq;rw[if_neg hj]);refine .inr ⟨w1,_,h+(y::up).length,[],w2,p1,p3,?_,by simp,λj hj=>?_,λwt=>?_,aj _⟩
    .rw[p2,fw];simp
    .unfold jq;rw[if_neg (λe=>hj (by rw[fw,e];simp))]
    .rw[p2];unfold cR;simp only[ja,dZ];have:wt h*(an (blank (decide (h=0)) x.l)-151)<=wt h*(an x.l-151):=ly _ (by have:=dk (decide (h=0)) x.l;omega);omega
   .exact .inl ⟨w1,w3,v,w2⟩
end
structure DelP(v v':Vw)(H:Nat)(M:List MT)(key:ByteArray)(H':Nat)(M':List MT)(A B:List (ByteArray×ByteArray))(y:ByteArray):Prop where
 t:Tree v' H' M'
 d:Ko (iR M) key A [(key,y)] B
 m:iR M'=A++B
 Cy:∀wt,ef wt (aI v' H' 0)<=ef wt (aI v H 0)
 h:H'<=H
section
variable{o:Vw}{mm:Nat}
theorem Hb{q:QS}{v:Vw}{u H:Nat}{M:List MT}(R:Rd q v o u mm)(T:Tree v H M)(hH:H<=15)(key:ByteArray):
  ((q.jo key).2=11/\mm<=u/\∃v',Rd (q.jo key).1 v' o u mm)\/
  ((q.jo key).2=9/\Rd (q.jo key).1 v o u mm/\∃A B,Ko (iR M) key A [] B)\/
  ((q.jo key).2=0/\∃v' H' M' A B y,Rd (q.jo key).1 v' o u mm/\DelP v v' H M key H' M' A B y):=by
 obtain⟨r1,r2⟩:=EJ R T.ok hH key;unfold QS.jo
 rcases r2 with⟨r2,r3⟩|⟨r2,up,x,r3,r4,W⟩
 .rw[if_pos (by rw[r2];simp)];exact .inl ⟨r2,r3,v,r1⟩
 rw[if_neg (by rw[r2];simp),r3,zS,show(up.reverse++[x]).dropLast.reverse=up by simp];obtain⟨p1,p2,p3,p4,p5⟩:=zM W;rw[r4]at p1 p2 p5;obtain⟨M1,MC,M2,a,b,d⟩:=zR T W r4;have hdp:=d.TS
 rcases d.c with⟨h1,h2⟩|⟨m,h1,hkk,h2⟩
 .rw[if_pos h2];rw[h1]at hdp;exact .inr (.inl ⟨rfl,r1,_,_,hdp⟩)
 rw[if_neg (by rw[h2];simp)];rw[h1]at hdp;have hdl:x.l=a++m.1::b:=by rw[d.l,h1];rfl
 have hdm:M=M1++m::M2:=by rw[d.m,h1];rfl
 have p9:bw (aI v H 0)=bw (fc v up 0)++x.aw::bw (da v up 0):=by rw[p2,cN,cO]
 have OU:=eA.1 T.G4;have haw:pZ x.l key=a++b:=by
  unfold pZ;rw[if_pos h2,d.n,hdl];exact vB a m.1 b
 have Az:=T.va m (by rw[hdm];simp);have AQ:(((q.eB key).1.kW x.l key).2=0/\Rd ((q.eB key).1.kW x.l key).1 (mo v m.2.2) o u mm)\/(((q.eB key).1.kW x.l key).2=11/\Rd ((q.eB key).1.kW x.l key).1 v o u mm/\mm<=u):=by
  unfold QS.kW;rw[if_pos h2];have hx:x.l.getD (bf x.l key) Nd.E.zero=m.1:=by rw[d.n,hdl];simp[jj]
  rw[hx];exact CA r1 Az
 rw[haw]
 rcases AQ.symm with⟨o1,o2,o3⟩|⟨o1,o2⟩
 .rw[if_pos (by rw[o1];simp)];exact .inl ⟨o1,o3,v,o2⟩
 rw[if_neg (by rw[o1];simp)];have hMn:=OU.2.1;rw[hdm,fJ,mq]at hMn;have EM:=eA.1 hMn;have TZ:=eA.1 EM.2.1;have hmin:∀j∈m.2.2,j∈py M:=λj hj=>by rw[hdm,fJ,mq];simp[hj]
 have mB:∀j,j∉m.2.2->mo v m.2.2 j=v j:=λj hj=>if_neg hj;have hnd1:∀j∈bw (aI v H 0),mo v m.2.2 j=v j:=λj hj=>mB j (λhm=>OU.2.2 j hj (hmin j hm));obtain⟨c1,c2,c3⟩:=gG (v':=mo v m.2.2) up 0 x.aw W.hole (λj hj=>hnd1 j (by rw[p9];simp[hj])) (λj hj=>hnd1 j (by rw[p9];simp[hj]));have uM:∀e∈a++b,e∈x.l:=λe he=>by rw[hdl];rcases az.1 he with h|h<;>simp[h]
 have rI:=lU (oM (v:=v) (p:=x.aw) (by rw[W.nd]));rw[W.nd]at rI;have rI:∀e∈x.l,dg e true:=rI;have hbx:an x.l<=223:=by have:=W.ok.2;rw[W.nd]at this;exact this
 have hpw:=oN W.nd;rw[hdl,dI,dJ]at hpw;have P:Md (mo v m.2.2) 0 ⟨x.aw,x.leaf,a++b,x.at_⟩ up:=by
  refine⟨c1,W.leaf,?_,λ_=>⟨λe he=>rI e (uM e he),?_⟩,λe he=>?_,?_,?_⟩
  .show(mo v m.2.2 x.aw).2=0;have sN:x.aw∈bw (aI v H 0):=by rw[p9];simp
   rw[hnd1 _ sN];exact T.CB _ sN
  .show(a++b).Pairwise λc e=>eL c.key e.key;rw[dI];exact⟨hpw.1,hpw.2.1.2,λe he e' oY=>hpw.2.2 e he e' (bz _ oY)⟩
  .exact W.TM e (uM e he)
  .show(bw (fc (mo v m.2.2) up 0)++x.aw::([]++bw (da (mo v m.2.2) up 0))).Nodup;rw[c2,c3,cX,<-p9];exact OU.1
  .show an (a++b)<=223;rw[hdl,ez,et]at hbx;rw[ez];omega
 have LA:cR (mo v m.2.2) 0 ⟨x.aw,x.leaf,a++b,x.at_⟩ up=fc v up 0++(0,x.aw,a++b)::da v up 0:=by
  unfold cR;rw[c2,c3];rfl
 have TY:bw (cR (mo v m.2.2) 0 ⟨x.aw,x.leaf,a++b,x.at_⟩ up)=bw (aI v H 0):=by rw[LA,p9,cN,cO]
 rcases wK up 0 ⟨x.aw,x.leaf,a++b,x.at_⟩ _ _ u (by omega) o2 P with i|⟨i1,v2,H',gone,i2,S⟩
 .exact .inl i
 refine .inr (.inr ⟨i1,v2,H',M1++M2,iR M1,iR M2,m.2.1,i2,?_⟩);have G9:∀j,j∈py M1\/j∈py M2->j∈py M/\j∉m.2.2:=λj hj=>by
  refine⟨by rw[hdm,fJ,mq];rcases hj with h|h<;>simp[h],λhc=>?_⟩
  rcases hj with h|h
  .exact EM.2.2 j h (bQ _ hc)
  .exact TZ.2.2 j hc h
 have hM3:∀j,j∈py M1\/j∈py M2->v2 j=v j/\j∉bw (aI v H 0):=λj hj=>by
  obtain⟨h3,h4⟩:=G9 j hj;have h5:j∉bw (aI v H 0):=λh=>OU.2.2 j h h3;exact⟨by rw[S.o j (by rw[TY];exact h5),mB j h4],h5⟩
 have hSn:(bw (aI v2 H' 0)++gone).Nodup:=S.pg.nodup_iff.2 (by rw[TY];exact OU.1);have hSin:∀j,j∈bw (aI v2 H' 0)->j∈bw (aI v H 0):=λj hj=>by rw[<-TY];exact S.pg.mem_iff.1 (bQ _ hj)
 refine⟨⟨S.ok,?_,λz hz=>?_,?_,λj hj=>?_⟩,?_,by rw[Mc],λwt=>?_,by have:=S.h;omega⟩
 .rw[S.en,LA,cW,d.m1,d.m2];simp
 .rcases az.1 hz with hz|hz
  .exact(T.va z (by rw[hdm];simp[hz])).congr (λj hj=>(hM3 j (.inl (uc.2 ⟨z,hz,hj⟩))).1)
  .exact(T.va z (by rw[hdm];simp[hz])).congr (λj hj=>(hM3 j (.inr (uc.2 ⟨z,hz,hj⟩))).1)
 .rw[fJ,eA];refine⟨(eA.1 hSn).1,eA.2 ⟨EM.1,TZ.2.1,λj hj hm=>EM.2.2 j hj (bF _ hm)⟩,λj hj hm=>?_⟩;exact(hM3 j (az.1 hm)).2 (hSin j hj)
 .rw[fJ]
  by_cases h3:j∈bw (aI v H 0)
  .rw[<-TY]at h3
   rcases az.1 (S.pg.mem_iff.2 h3)with h4|h4
   .exact bQ _ h4
   .exact absurd hj (S.del j h4)
  .rw[S.o j (by rw[TY];exact h3)]at hj
   by_cases h4:j∈m.2.2
   .unfold mo at hj;rw[if_pos h4]at hj;exact absurd hj (by simp)
   .rw[mB j h4]at hj;have:=T.all j hj;rw[hdm,fJ,mq]at this;simp only[az]at this ⊢
    rcases this with h|h|h|h
    .exact absurd h h3
    .exact .inr (.inl h)
    .exact absurd h h4
    .exact .inr (.inr h)
 .have e:((key,m.2.1):ByteArray×ByteArray)=(m.1.key,m.2.1):=by rw[hkk]
  rw[e];exact hdp
 .have h5:=S.Cy wt;rw[LA,ja,dZ]at h5;rw[p2,ja,dZ];dsimp only at h5 ⊢;have:wt 0*(an (a++b)-151)<=wt 0*(an x.l-151):=ly _ (by rw[hdl,ez,ez,et];omega);omega
end
variable{fr til:ByteArray}{l:List E}{u:Nat}{q:QS}
theorem bl_kc(a b:ByteArray):Op.bytesLess a.toList b.toList=decide (eL a b):=by
 rw[bu,bu,Nd.LR];rfl
theorem toL_nil(t:ByteArray):(t.toList==[])=decide (t.size=0):=by
 rw[bu];have h:t.data.toList.length=t.size:=by simp
 cases hl:t.data.toList with
 |nil=>rw[hl]at h;rw[decide_eq_true (by rw[<-h];rfl)];rfl
 |cons a l=>rw[hl]at h;rw[decide_eq_false (by rw[<-h];simp)];rfl
def wL(fr til key:ByteArray):Bool:=decide (nc fr key) && (decide (til.size=0) || decide (eL key til))
def eY{α σ:Type}(step:α->σ->σ×Bool):List α->σ->σ×Bool
 |[],s=>(s,true)
 |x::l,s=>if(step x s).2=true then eY step l (step x s).1 else((step x s).1,false)
theorem vD{α σ:Type}(step:α->σ->σ×Bool):∀(a b:List α) (s:σ),eY step (a++b) s=if(eY step a s).2=true then eY step b (eY step a s).1 else eY step a s
 |[],b,s=>rfl
 |x::a,b,s=>by
  show(if(step x s).2=true then eY step (a++b) (step x s).1 else((step x s).1,false))=if(if(step x s).2=true then eY step a (step x s).1 else((step x s).1,false)).2=true then _ else _
  by_cases h:(step x s).2=true
  .rw[if_pos h,vD step a b];simp only[eY,if_pos h]
  .rw[if_neg h,if_neg h,if_neg (by simp)];exact(if_neg h).symm
def sQ(fr til:ByteArray)(l:List E):List E:=l.filter λe=>wL fr til e.key
theorem xR(fr til:ByteArray)(a b:List E):sQ fr til (a++b)=sQ fr til a++sQ fr til b:=rP ..
theorem Me(h:∀e∈l,eL e.key fr):sQ fr til l=[]:=by
 unfold sQ;rw[Iy];intro e he hx;unfold wL at hx;rw[gH,decide_eq_true_eq]at hx;exact re (h e he) hx.1
theorem zV(ht:til.size≠0)(h:∀e∈l,nc til e.key):sQ fr til l=[]:=by
 unfold sQ;rw[Iy];intro e he hx;unfold wL at hx;rw[gH,nU,decide_eq_true_eq,decide_eq_true_eq]at hx
 rcases hx.2 with h1|h1
 .exact ht h1
 .exact re (of_decide_eq_true h1) (h e he)
structure WkOk{σ:Type}(step:E->σ->σ×Bool)(fr til:ByteArray)(en:List E)(s:σ)(R:Wk σ):Prop where
 e:R.e=0
 f:R.s=(eY step (sQ fr til en) s).1
 y:R.more=true->(eY step (sQ fr til en) s).2=true
 n:R.more=false->(eY step (sQ fr til en) s).2=false\/(til.size≠0/\∃y∈en,nc til y.key)
section
variable{σ:Type}{o:Vw}{mm:Nat}{v:Vw}(step:E->σ->σ×Bool)(fr til:ByteArray)
theorem OY(i:Nat)(x:E):mh fr true 0 i x=decide (eL x.key fr):=by
 unfold mh;rw[bl_kc,decide_eq_false (kF i)];simp
theorem Mf(leaf:Bool)(i:Nat)(x:E):kX til leaf i x=(decide (til.size≠0) && decide (nc til x.key) && (leaf || decide (0<i))):=by
 unfold kX;rw[toL_nil,bl_kc]
 congr 2
 .simp
 .have h1:(decide (eL x.key til))= !decide (nc til x.key):=by
   by_cases h:eL x.key til
   .rw[decide_eq_true h,decide_eq_false (λk=>re h k)];rfl
   .rw[decide_eq_false h,decide_eq_true (km h)];rfl
  rw[h1,Bool.not_not]
theorem vE(rec:QS->Nat->σ->Int->Wk σ):∀(l:List E) (i:Nat) (q:QS) (seen:Nat) (s:σ),(l.Pairwise λc e=>eL c.key e.key)->
  (ij rec step fr til true 0 i l q seen s).q=q/\(ij rec step fr til true 0 i l q seen s).seen=seen/\WkOk step fr til l s (ij rec step fr til true 0 i l q seen s)
 |[],i,q,seen,s,_=>⟨rfl,rfl,rfl,rfl,λ_=>rfl,λh=>absurd h (by simp[ij])⟩
 |x::l,i,q,seen,s,hp=>by
  rw[dJ]at hp;unfold ij;rw[OY,Mf]
  by_cases h1:eL x.key fr
  .rw[decide_eq_true h1,if_pos rfl];obtain⟨a,b,c⟩:=vE rec l (i+1) q seen s hp.2;have hf:sQ fr til (x::l)=sQ fr til l:=by
    rw[show x::l=[x]++l from rfl,xR,Me (l:=[x]) (by simp;exact h1)];rfl
   exact⟨a,b,c.e,by rw[hf];exact c.f,by rw[hf];exact c.y,λh=>by rw[hf];exact(c.n h).imp id (λ⟨h2,y,hy,h3⟩=>⟨h2,y,by simp[hy],h3⟩)⟩
  .rw[decide_eq_false h1,if_neg (by simp)]
   by_cases h2:til.size≠0/\nc til x.key
   .rw[decide_eq_true h2.1,decide_eq_true h2.2,if_pos (by simp)];have hf:sQ fr til (x::l)=[]:=zV h2.1 (λe he=>by
     rcases ar.1 he with rfl|he
     .exact h2.2
     .exact sD (iN h2.2 (hp.1 e he)))
    exact⟨rfl,rfl,rfl,by rw[hf];rfl,λh=>absurd h (by simp),λ_=> .inr ⟨h2.1,x,by simp,h2.2⟩⟩
   .rw[if_neg (by
     rw[gH,gH,decide_eq_true_eq,decide_eq_true_eq];exact λh=>h2 h.1),if_pos rfl]
    have sN:wL fr til x.key=true:=by
     unfold wL;rw[gH,nU,decide_eq_true_eq,decide_eq_true_eq,decide_eq_true_eq];refine⟨km h1,?_⟩
     by_cases h3:til.size=0
     .exact .inl h3
     .right
      by_cases h4:eL x.key til
      .exact h4
      .exact absurd ⟨h3,km h4⟩ h2
    have hf:sQ fr til (x::l)=x::sQ fr til l:=by unfold sQ;rw[fL,if_pos sN]
    by_cases h3:(step x s).2=true
    .rw[if_pos h3];obtain⟨a,b,c⟩:=vE rec l (i+1) q seen (step x s).1 hp.2;have hs:eY step (x::sQ fr til l) s=eY step (sQ fr til l) (step x s).1:=if_pos h3;exact⟨a,b,c.e,by rw[hf,hs];exact c.f,by rw[hf,hs];exact c.y,λh=>by rw[hf,hs];exact(c.n h).imp id (λ⟨h2,y,hy,h3⟩=>⟨h2,y,by simp[hy],h3⟩)⟩
    .rw[if_neg h3];have hs:eY step (x::sQ fr til l) s=((step x s).1,false):=if_neg h3;exact⟨rfl,rfl,rfl,by rw[hf,hs],λh=>absurd h (by simp),λ_=> .inl (by rw[hf,hs])⟩
def T8(v:Vw)(o:Vw)(mm u h m:Nat):Prop:=
 ∀(q:QS) (p:Int) (seen:Nat) (s:σ),Rd q v o u mm->lT v h p->seen+(aI v h p).length<=512->
  Rd (fK step fr til m q seen s p).q v o u mm/\(fK step fr til m q seen s p).seen<=seen+(aI v h p).length/\(((fK step fr til m q seen s p).e=11/\mm<=u)\/WkOk step fr til (fZ v h p) s (fK step fr til m q seen s p))
theorem Mg{h m:Nat}(IH:T8 step fr til v o mm u h m)(first:Nat):∀(l:List E) (i:Nat) (q:QS) (seen:Nat) (s:σ),first<=i->Rd q v o u mm->(∀e∈l,lT v h e.aU/\fZ v h e.aU≠[])->(l.Pairwise λc e=> ∀x∈fZ v h c.aU,eL x.key e.key)->(∀e∈l,∀x∈fZ v h e.aU,(0<i\/e∈l.tail)->nc e.key x.key)->seen+(bl v h l).length<=512->
  Rd (ij (fK step fr til m) step fr til false first i l q seen s).q v o u mm/\(ij (fK step fr til m) step fr til false first i l q seen s).seen<=seen+(bl v h l).length/\
   (((ij (fK step fr til m) step fr til false first i l q seen s).e=11/\mm<=u)\/WkOk step fr til (bV (bl v h l)) s (ij (fK step fr til m) step fr til false first i l q seen s))
 |[],i,q,seen,s,_,R,_,_,_,_=>⟨R,Nat.le_add_right _ _,.inr ⟨rfl,rfl,λ_=>rfl,λh=>absurd h (by simp[ij])⟩⟩
 |x::l,i,q,seen,s,hi,R,hc,hp,hh,hs=>by
  rw[dJ]at hp;have hsk:mh fr false first i x=false:=by unfold mh;rw[decide_eq_false (by omega)];rfl
  have hlen:(bl v h (x::l)).length=(aI v h x.aU).length+(bl v h l).length:=by rw[fF,aQ]
  have nI:bV (bl v h (x::l))=fZ v h x.aU++bV (bl v h l):=by rw[fF,dK];rfl
  have hx:=hc x (by simp);obtain⟨y0,hy0⟩:=uq _ hx.2;have T9:∀z∈bV (bl v h l),∀y∈fZ v h x.aU,eL y.key z.key:=λz hz y hy=>by
   obtain⟨e,he,hz⟩:=dm.1 hz;exact fV (hp.1 e he y hy) (hh e (by simp[he]) z hz (.inr he))
  unfold ij;rw[hsk,if_neg (by simp),Mf]
  by_cases h2:til.size≠0/\nc til x.key/\0<i
  .rw[decide_eq_true h2.1,decide_eq_true h2.2.1,decide_eq_true h2.2.2,if_pos (by simp)];have iV:∀z∈bV (bl v h (x::l)),nc til z.key:=λz hz=>by
    rw[nI]at hz
    rcases az.1 hz with hz|hz
    .exact nL h2.2.1 (hh x (by simp) z hz (.inl h2.2.2))
    .exact nL h2.2.1 (nL (hh x (by simp) y0 hy0 (.inl h2.2.2)) (sD (T9 z hz y0 hy0)))
   have hf:sQ fr til (bV (bl v h (x::l)))=[]:=zV h2.1 iV;exact⟨R,Nat.le_add_right _ _,.inr ⟨rfl,by rw[hf];rfl,λh=>absurd h (by simp),λ_=> .inr ⟨h2.1,y0,by rw[nI];simp[hy0],iV y0 (by rw[nI];simp[hy0])⟩⟩⟩
  .rw[if_neg (by
    rw[gH,gH,nU,decide_eq_true_eq,decide_eq_true_eq,decide_eq_true_eq];exact λh=>h2 ⟨h.1.1,h.1.2,h.2.resolve_left (by simp)⟩),if_neg (by simp)]
   obtain⟨r1,r2,r3⟩:=IH q x.aU seen s R hx.1 (by omega)
   rcases r3 with⟨r3,r4⟩|r3
   .rw[if_neg (by rw[r3];simp)];exact⟨r1,by omega,.inl ⟨r3,r4⟩⟩
   .by_cases hm:(fK step fr til m q seen s x.aU).more=true
    .rw[if_pos ⟨hm,r3.e⟩];obtain⟨i1,i2,i3⟩:=Mg IH first l (i+1) (fK step fr til m q seen s x.aU).q (fK step fr til m q seen s x.aU).seen (fK step fr til m q seen s x.aU).s (by omega) r1 (λe he=>hc e (by simp[he])) hp.2 (λe he z hz _=>hh e (by simp[he]) z hz (.inr he)) (by omega)
     have hfo:eY step (sQ fr til (bV (bl v h (x::l)))) s=eY step (sQ fr til (bV (bl v h l))) (fK step fr til m q seen s x.aU).s:=by
      rw[nI,xR,vD,if_pos (r3.y hm),r3.f]
     refine⟨i1,by omega,i3.imp id (λc=>⟨c.e,by rw[hfo];exact c.f,by rw[hfo];exact c.y,λMh=>by rw[hfo];exact(c.n Mh).imp id (λ⟨h3,y,hy,h4⟩=>⟨h3,y,by rw[nI];simp[hy],h4⟩)⟩)⟩
    .have hm':(fK step fr til m q seen s x.aU).more=false:=by simpa using hm
     rw[if_neg (λh=>hm h.1)];have hfo:eY step (sQ fr til (bV (bl v h (x::l)))) s=eY step (sQ fr til (fZ v h x.aU)) s:=by
      rw[nI,xR,vD]
      by_cases DW:(eY step (sQ fr til (fZ v h x.aU)) s).2=true
      .rw[if_pos DW]
       rcases r3.n hm' with h3|⟨h3,y,hy,h4⟩
       .rw[h3]at DW;cases DW
       .rw[zV h3 (λz hz=>nL h4 (sD (T9 z hz y hy)))];exact kG rfl DW.symm
      .rw[if_neg DW]
     refine⟨r1,by omega,.inr ⟨r3.e,by rw[hfo];exact r3.f,λh=>absurd h hm,λh=>by rw[hfo];exact(r3.n h).imp id (λ⟨h3,y,hy,h4⟩=>⟨h3,y,by rw[nI];simp[hy],h4⟩)⟩⟩
theorem CD(rec:QS->Nat->σ->Int->Wk σ)(first:Nat)(b:List E):∀(a:List E) (i:Nat) (q:QS) (seen:Nat) (s:σ),i+a.length<=first->ij rec step fr til false first i (a++b) q seen s=ij rec step fr til false first (i+a.length) b q seen s
 |[],i,q,seen,s,_=>rfl
 |x::a,i,q,seen,s,h=>by
  rw[mU,ij];have hsk:mh fr false first i x=true:=by unfold mh;rw[decide_eq_true (by simp at h;omega)];rfl
  rw[if_pos hsk,CD rec first b a (i+1) q seen s (by simp at h;omega),ff,show i+1+a.length=i+(a.length+1) by omega]
theorem Mi :∀(h m:Nat),h<m->T8 step fr til v o mm u h m
 |h,0,hm=>absurd hm (by omega)
 |h,m+1,hm=>by
  intro q p seen s R hO hs;have hl1:1<=(aI v h p).length:=by rw[rh];simp
  unfold fK;rw[if_neg (by omega)];obtain⟨r1,r2⟩:=R.read p
  rcases r2 with r2|⟨r2,r3⟩
  .cases h with
   |zero=>
    have hp:=oN hO.1;have nI:fZ v 0 p=(ik v p).2.1:=EH v 0 p;rw[r2,hO.1,if_neg (by simp)];dsimp only;rw[if_pos rfl];obtain⟨a,b,c⟩:=vE step fr til (fK step fr til m) (ik v p).2.1 0 (q.bM p).1 (seen+1) s hp;rw[a,b,nI];exact⟨r1,by omega,.inr c⟩
   |succ h=>
    obtain⟨o1,o2,o4,o3⟩:=hO;obtain⟨l,hl⟩:∃l,(ik v p).2.1=l:=⟨_,rfl⟩;have nI:fZ v (h+1) p=bV (bl v h l):=by rw[EH,hl];rfl
    have hlen:(aI v (h+1) p).length=1+(bl v h l).length:=by rw[rh,hl];simp[cr];omega
    rw[hl]at o1 o2 o3 o4;have hp:=oN o1;obtain⟨a,c,b,e1,e2,e3,e4⟩:=GU hp o3.ne fr;rw[r2,o1,if_neg (by simp)];dsimp only;rw[if_neg (by simp),e2,nI];have Ie:=o3.lo;have N9:=o3.hi;have hcc:=o3.c;rw[e1,dI]at Ie;rw[e1]at N9 hcc;have hsk:=CD step fr til (fK step fr til m) a.length (c::b) a 0 (q.bM p).1 (seen+1) s (by omega);rw[bh]at hsk;rw[e1,hsk]
    have nS:(bl v h l).length=(bl v h a).length+(bl v h (c::b)).length:=by rw[e1,gq,aQ]
    have hhi2:∀e∈c::b,∀x∈fZ v h e.aU,(0<a.length\/e∈(c::b).tail)->nc e.key x.key:=λe he x hx hor=>by
     cases a with
     |nil=>
      rcases hor with h0|h0
      .exact absurd h0 (by simp)
      .exact N9 e h0 x hx
     |cons z a'=>exact N9 e (bF _ he) x hx
    obtain⟨i1,i2,i3⟩:=Mg step fr til (Mi h m (by omega)) a.length (c::b) a.length (q.bM p).1 (seen+1) s (aj _) r1 (λe he=>hcc e (bF _ he)) Ie.2.1 hhi2 (by omega);have hfa:sQ fr til (bV (bl v h (a++c::b)))=sQ fr til (bV (bl v h (c::b))):=by
     rw[gq,dK,xR,Me (l:=bV (bl v h a)) (λx hx=>?_),cX];obtain⟨e,he,hx⟩:=dm.1 hx;exact fV (Ie.2.2 e he c (by simp) x hx) (e3 (λh0=>by rw[h0]at he;simp at he))
    refine⟨i1,by omega,i3.imp id (λw=>⟨w.e,by rw[hfa];exact w.f,by rw[hfa];exact w.y,λMh=>by rw[hfa];exact(w.n Mh).imp id (λ⟨h3,y,hy,h4⟩=>⟨h3,y,by rw[gq,dK];exact bF _ hy,h4⟩)⟩)⟩
  .rw[r2,if_pos (by simp)];exact⟨r1,by show seen+1<=_;omega,.inl ⟨rfl,r3⟩⟩
theorem vF{H:Nat}(R:Rd q v o u mm)(hO:lT v H 0)(hH:H<=15)(hn:(aI v H 0).length<=512)(s:σ):
  Rd (q.dY step fr til s).q v o u mm/\(((q.dY step fr til s).e=11/\mm<=u)\/((q.dY step fr til s).e=0/\(q.dY step fr til s).s=(eY step (sQ fr til (fZ v H 0)) s).1)):=by
 obtain⟨a,b,c⟩:=Mi step fr til (v:=v) (o:=o) (mm:=mm) (u:=u) H 16 (by omega) q 0 0 s R hO (by omega);exact⟨a,c.imp id (λw=>⟨w.e,w.f⟩)⟩
end
theorem zW:∀(n:Nat) (l:List Nat),l.Nodup->(∀x∈l,x<n)->l.length<=n
 |0,l,_,h=>by
  cases l with
  |nil=>exact aj _
  |cons a l=>exact absurd (h a (by simp)) (by omega)
 |n+1,l,hn,h=>by
  by_cases hm:n∈l
  .have h1:=zW n (l.erase n) (hn.erase n) (λx hx=>by
    have h2:=(List.Nodup.mem_erase_iff hn).1 hx;have h3:=h x h2.2;have h4:=h2.1;omega)
   have h5:=Qm hm;omega
  .exact Nat.le_succ_of_le (zW n l hn (λx hx=>by
    have h3:=h x hx;have h4:x≠n:=λe=>hm (by rw[<-e];exact hx);omega))
theorem Ua{v:Vw}{o:Vw}{mm:Nat}(R:Rd q v o u mm){l:List Int}(hn:l.Nodup)(hl:∀j∈l,(v j).2=0):l.length<=512:=by
 have h1:(l.map Int.toNat).Nodup:=by
  rw[Dg,sX];refine List.Pairwise.imp_of_mem ?_ hn;intro a b ha hb eV e;have h2:=R.lt (hl a ha);have h3:=R.lt (hl b hb);exact eV (by omega)
 have h2:∀x∈l.map Int.toNat,x∈List.range 512:=λx hx=>by
  obtain⟨j,hj,rfl⟩:=cg.1 hx;have h3:=R.lt (hl j hj);exact kA.2 (by omega)
 have:=zW 512 _ h1 (λx hx=>kA.1 (h2 x hx))
 rwa [fM]at this
open Nd (E aH bt aV aZ dD bH bf cd bJ)
attribute [local go_sem ↓] Go.wp_at_zero Go.wp_at_succ
variable{fn tb n Kz:Nat}{eo:Array Value}{I:Ix}{F:List Nat}
def Kp{σ:Type}(fn:Nat)(eo:Array Value)(step:E->σ->σ×Bool)(jC:σ->Nat)(Inv:World->σ->List Nat->Prop)(v:Ev)(tb:Nat)(I:Ix)(F:List Nat)(n Kz:Nat)(fr til:ByteArray)(d:Nat):Prop:=
 ∀(w:World) (q:QS) (seen:Nat) (s:σ) (G:List Nat) (p:Int),seen<=512->TQ w tb I F q n (Kz+seen)->rB w v tb fr til fn eo seen->Inv w s G->(∀g∈tb::(v.l++F),g∉G)->(∀g∈v.l,g∉F/\g≠tb)->jC s<=57*seen->
  Calls prog 109 (#[.int .i64 p,.int .i64 (d:Nat)]++v.eo) w λe w'=>e=.returned (.tuple #[.bool (fK step fr til d q seen s p).more,.int .i64 (fK step fr til d q seen s p).e])/\WP w w' v tb I F G n Kz fr til fn eo jC Inv (fK step fr til d q seen s p)
theorem Hc{σ:Type}{step:E->σ->σ×Bool}{jC:σ->Nat}{Inv:World->σ->List Nat->Prop}(V:Vis fn eo step jC Inv){v:Ev}(fr til:ByteArray)(Th:Kz<=999999990000)(d:Nat)(hd:d<=16)(IH:∀d',d=d'+1->Kp fn eo step jC Inv v tb I F n Kz fr til d'):Kp fn eo step jC Inv v tb I F n Kz fr til d:=by
  intro w q seen s G p hseen h hv hI hD hvF hmes;have IH:=xh IH;have KR:=xh (λ(W:World) (hW:TQ W tb I F q n (Kz+seen))=>nF hW (by omega) p);have hsB:v.sB∉F/\v.sB≠tb:=hvF _ (by simp[Ev.l]);have xN:IntKind.i64.wrap ((seen:Int)+1)=(seen:Int)+1:=IntWalk.i64_in _ (by omega);have x0:=hv.s.ab (i:=0) rfl;have xz:=hv.s.frozen 0 (by simp);obtain⟨w1,jJ⟩:∃w1,w.setCell ⟨v.sB,0,none⟩ (.int .i64 ((seen:Int)+1))=w1:=⟨_,rfl⟩
  have o1:ag [v.sB] w w1:=by rw[<-jJ];exact(ag.refl _ _).setCell (by simp) _
  have H1:=xh (show TQ w1 tb I F q n (Kz+seen)/\rB w1 v tb fr til fn eo (seen+1)/\Inv w1 s G/\ag (v.sB::(F++G)) w w1 from
   ⟨h.only o1 (λg hg hm=>by
    rw[aP.1 hm]at hg
    rcases ar.1 hg with e|e
    .exact hsB.2 e
    .exact hsB.1 e),by rw[<-jJ];exact hv.up,V.po _ _ _ _ _ hI o1 (λg hg hm=>hD v.sB (by simp[Ev.l]) (by rw[<-aP.1 hm];exact hg)),o1.mono (λg hg _=>by rw[aP.1 hg];exact gy ..)⟩)
  have x1:=H1.o.2.1.s.ab (i:=0) rfl;have x2:=H1.o.2.1.t.ab (i:=0) rfl;have x3:=H1.o.2.1.f.ab (i:=0) rfl;obtain⟨R,hR⟩:∃R,fK step fr til d q seen s p=R:=⟨_,rfl⟩;rw[hR];have HR:=xh hR;have HD:=xh hD;have HVF:=xh hvF;have HV:=xh V;clear h hv hI hD hvF hsB hR o1 V;unfold tp bt at *;unfold Ev.eo
  rw[show(#[Value.int .i64 p,.int .i64 (d:Nat)]++ #[Value.pointer (some ⟨v.sB,0,none⟩),.pointer (some ⟨v.tB,0,none⟩),.pointer (some ⟨v.fB,0,none⟩),.pointer (some ⟨v.oB,0,none⟩),.pointer (some ⟨v.dB,0,none⟩),.pointer (some ⟨v.kB,0,none⟩)]:Array Value)= #[Value.int .i64 p,.int .i64 (d:Nat),Value.pointer (some ⟨v.sB,0,none⟩),.pointer (some ⟨v.tB,0,none⟩),.pointer (some ⟨v.fB,0,none⟩),.pointer (some ⟨v.oB,0,none⟩),.pointer (some ⟨v.dB,0,none⟩),.pointer (some ⟨v.kB,0,none⟩)]from rfl]
  by_cases hd0:d=0
  .subst hd0;have bC:=HR.o;unfold fK at bC;subst bC;go_enter func109,ntmps109;go_wp2_with fail;go_ret2;exact aC ⟨G,H1.o.1.le (by show Kz+seen<=Kz+(seen+1);omega),H1.o.2.1,H1.o.2.2.1,H1.o.2.2.2,λ_ h=> .inl h,by have:=hmes;show jC s<=57*(seen+1);omega,by show seen+1<=513;omega,λh=>absurd h (by show ¬((14:Int)=0);decide)⟩
  .obtain⟨d',rfl⟩:∃d',d=d'+1:=⟨d-1,by omega⟩;have bC:=HR.o;unfold fK at bC;have hdI:¬((d':Int)+1=0):=by omega
   by_cases hs5:512<seen+1
   .rw[if_pos hs5]at bC;subst bC;have hsI:(512:Int)<(seen:Int)+1:=by omega
    go_enter func109,ntmps109;go_wp2_with fail;go_ret2;exact aC ⟨G,H1.o.1.le (by show Kz+seen<=Kz+(seen+1);omega),H1.o.2.1,H1.o.2.2.1,H1.o.2.2.2,λ_ h=> .inl h,by have:=hmes;show jC s<=57*(seen+1);omega,by show seen+1<=513;omega,λh=>absurd h (by show ¬((14:Int)=0);decide)⟩
   .rw[if_neg hs5]at bC;have hsI:¬((512:Int)<(seen:Int)+1):=by omega
    have ir:=vr (q:=q) (p:=p);have hlen:=lS q p;have eG:=xh bC;have K1:=xh (KR.o w1 H1.o.1);clear bC;generalize q.bM p=r at *;obtain⟨q1,leaf,l,er⟩:=r;dsimp only at *;go_enter func109,ntmps109;go_wp2_with fail;refine K1.o.mono ?_;rintro e w2 ⟨A,c,rfl,S2,f2,P2,o2⟩;have gu:=ae (Below.refl w2.heap.size w2) (.cells #[.bool leaf,.slice A l.length c] 118);obtain⟨Ct,gE⟩:∃Ct,w2.heap.size=Ct:=⟨_,rfl⟩;have HB12:=xh gE
    have BN:=aE.new w2 118 #[.bool leaf,.slice A l.length c];rw[gE]at BN;have H3:=xh (show LW w (w2.alloc (.cells #[.bool leaf,.slice A l.length c] 118)) v tb I F G n Kz fr til fn eo jC Inv q1 (seen+1) (57*seen) s G leaf A c Ct l from
     ⟨(H1.o.1.next o2 P2).below gu,(H1.o.2.1.only o2 (λg hg=>(HVF.o g hg).1)).below gu,HV.o.po _ _ _ _ [] (HV.o.po _ _ _ _ F H1.o.2.2.1 o2 (λg hg hF=>HD.o g (by simp[hF]) hg)) (.ai gu) (by simp),(H1.o.2.2.2.aN o2 (λg hg _=>by simp[hg])).trans (.ai gu),λ_ h=> .inl h,hmes,S2.below gu,BN,
      λg hg hG=>by
       have dV:=HV.o.lt _ _ _ H1.o.2.2.1 g hG;have h12:=o2.size;simp only[ar,az]at hg
       rcases hg with e|hg|hg|e|hg
       .exact HD.o g (by simp[e]) hG
       .exact HD.o g (by simp[hg]) hG
       .exact HD.o g (by simp[hg]) hG
       .omega
       .have:=f2 g hg;omega,λg hg=>by
       have h12:=o2.size;have Qa:=H1.o.2.2.2.size;have Li:w1.heap.size<=g:=by
        rcases ar.1 hg with e|hg
        .omega
        .exact f2 g hg
       refine⟨λhF=>?_,λe=>?_,by omega⟩
       .have:=H1.o.1.lt g (by simp[hF]);omega
       .have:=H1.o.2.1.s.lt;omega,HVF.o⟩)
    clear S2 f2 P2 o2 gu BN x0 x1 x2 x3 xz
    by_cases he:er=0
    .subst he;have HM:=xh (ir rfl);have bC:=eG.o;rw[if_neg (show ¬((0:Int)≠0) by simp)]at bC
     cases leaf
     .rw[if_neg (show ¬(false=true) by simp)]at bC;have eG:=xh bC;have HL:=xh hlen;have KB:=xh (Nd.zv false A l.length c l fr (Nd.aK.aH H3.o.s).2 (by omega) HM.o);unfold bt at KB;have y0:=H3.o.b.ab (i:=0) rfl;have y1:=H3.o.b.ab (i:=1) rfl;have y3:=H3.o.e.f.ab (i:=0) rfl;have hfs:bH l fr<=l.length:=by
       rcases Dn l.length with h0|h0
       .have:l=[]:=IE.1 h0;subst this;exact Nat.le_of_eq (by unfold bH bf;split<;>rfl)
       .exact Nat.le_of_lt (vq (λe=>by rw[e]at h0;simp at h0) fr)
      generalize bH l fr=fs at *;clear bC;go_wp2_with fail;refine KB.o.mono ?_;rintro e w4 ⟨rfl,eM⟩;have H4:=xh (H3.o.below HV.o eM);clear y0 y1 y3 eM;have y0:=H4.o.b.ab (i:=0) rfl;have y1:=H4.o.b.ab (i:=1) rfl;have hs4:IntKind.i64.wrap (d':Int)=(d':Int):=IntWalk.i64_in _ (by omega);have hs6:IntKind.i64.wrap ((d':Int)+1-1)=(d':Int):=by rw[show(d':Int)+1-1=(d':Int) by omega];exact hs4
      go_wp2_with fail
      go_loopw [45] (λiv wr=> ∃(i:Nat) (qi:QS) (sn:Nat) (si:σ) (Gi:List Nat),i<=l.length/\iv=.int .i64 (i:Nat)/\sn<=512/\Hid (ij (fK step fr til d') step fr til false fs i (l.drop i) qi sn si=R)/\Hid (LW w wr v tb I F G n Kz fr til fn eo jC Inv qi sn (57*sn) si Gi false A c Ct l)) (λiv _=>l.length-(intOf iv).toNat)
      case atStart=>exact⟨0,q1,seen+1,s,G,bm _,rfl,by omega,eG,xh {H4.o with m:=by have:=H4.o.m;omega}⟩
      case round=>
       clear y0 y1;obtain⟨i,qi,sn,si,Gi,hi,rfl,hsn,HE,HW⟩:=hrel
       by_cases hil:i<l.length
       .skip
        have hilI:(i:Int)<(l.length:Int):=by omega
        obtain⟨x,hx⟩:∃x,l[i]?=some x:=⟨_,aT hil⟩;have hE:=HE.o;rw[uo hil,show l[i]=x from by have:=aT hil;rw[hx]at this;injection this with h;exact h.symm]at hE;unfold ij at hE;have hxk:x.key.size<=32:=(q8 HM.o x (aA hx)).1;have SL:=HW.o.s;obtain⟨ad,vu,fN⟩:=(Nd.aK.aH SL).2.2 i x hx;obtain⟨ga,ca,wB,Az,_⟩:=SL.form (by omega) (by omega);injection Az with e1 ezz e3
        clear ezz;subst e1 e3;injection vu with vu
        subst vu;rw[Nd.eP,bh]at fN;have gu:=ae (Below.refl wr.heap.size wr) (.cells #[.string x.key,.string x.val,.int .i64 x.aU] 111);have HA:=xh gu;have BX:=aE.new wr 111 #[.string x.key,.string x.val,.int .i64 x.aU];have u0:=fN.c0;have u1:=fN.c1;have u2:=fN.c2;dsimp only at u1 u2;have z0:=BX.ab (i:=0) rfl;have z1:=BX.ab (i:=1) rfl;have z2:=BX.ab (i:=2) rfl;have nf:=xh (HW.o.below HV.o gu)
        have n0:=nf.o.b.ab (i:=0) rfl;have m3:=nf.o.e.f.ab (i:=0) rfl;have m4:=nf.o.e.o.ab (i:=0) rfl;have m5:=nf.o.e.d.ab (i:=0) rfl;have m6:=nf.o.e.k.ab (i:=0) rfl;have E9:¬((i:Int)<0):=by omega
        have HE:=xh hE;clear fN SL BX hE hx gu;unfold Ev.eo at m6
        by_cases xd:i<fs
        .have hE:=HE.o;rw[if_pos (show mh fr false fs i x=true from by unfold mh;simp[xd])]at hE;have HE:=xh hE;have hbI:(i:Int)<(fs:Int):=by omega
         clear hE xd;go_wp2_with fail;go_roundw
         case rel=>exact⟨i+1,qi,sn,si,Gi,by omega,rfl,hsn,HE,nf⟩
         case measure=>simp[intOf];omega
        .have hbI:¬((i:Int)<(fs:Int)):=by omega
         have hE:=HE.o;rw[if_neg (show ¬mh fr false fs i x=true from by unfold mh;simp[xd])]at hE;have HE:=xh hE;clear xd hE
         by_cases ht:(til.toList==[])=true
         .have hE:=HE.o;rw[if_neg (show ¬kX til false i x=true from by unfold kX;rw[ht];simp),if_neg (show ¬(false=true) by simp)]at hE;have ht1:til.toList=[]:=by simpa using ht
          have HE:=xh hE;clear hE;have Mh:=nf.o.m;have KI:=IH.o d' rfl _ qi sn si Gi x.aU hsn nf.o.t nf.o.e nf.o.i (λg hg=>nf.o.d g (by simp only[ar,az]at hg ⊢;rcases hg with e|e|e<;>simp[e])) nf.o.y Mh;unfold Ev.eo at KI
          rw[show(#[Value.int .i64 x.aU,.int .i64 (d':Nat)]++ #[Value.pointer (some ⟨v.sB,0,none⟩),.pointer (some ⟨v.tB,0,none⟩),.pointer (some ⟨v.fB,0,none⟩),.pointer (some ⟨v.oB,0,none⟩),.pointer (some ⟨v.dB,0,none⟩),.pointer (some ⟨v.kB,0,none⟩)]:Array Value)= #[Value.int .i64 x.aU,.int .i64 (d':Nat),Value.pointer (some ⟨v.sB,0,none⟩),.pointer (some ⟨v.tB,0,none⟩),.pointer (some ⟨v.fB,0,none⟩),.pointer (some ⟨v.oB,0,none⟩),.pointer (some ⟨v.dB,0,none⟩),.pointer (some ⟨v.kB,0,none⟩)]from rfl]at KI
          generalize fK step fr til d' qi sn si x.aU=RW at *;obtain⟨qw,sw,ssw,mw,ew⟩:=RW;dsimp only at *;have KI:=xh KI;clear Mh;go_wp2_with fail;refine KI.o.mono ?_;rintro e w7 ⟨rfl,hWP⟩;obtain⟨G',L7,Hd,He⟩:=nf.o.deep hWP;have H7:=xh L7;have H8:=xh (And.intro Hd He);clear L7 Hd He hWP u0 u1 u2 z0 z1 z2 n0 m3 m4 m5 m6;have hE:=HE.o
          cases mw
          .rw[if_neg (by simp)]at hE;subst hE;go_wp2_with fail;go_ret2;exact aC (H7.o.wp (aj _) H8.o.1 _ _ H8.o.2)
          .by_cases Mj:ew=0
           .subst Mj;rw[if_pos ⟨rfl,rfl⟩]at hE;have HE:=xh hE;clear hE;go_wp2_with fail;go_roundw
            case rel=>exact⟨i+1,qw,sw,ssw,G',by omega,rfl,H8.o.2 (by trivial),HE,H7⟩
            case measure=>simp[intOf];omega
           .rw[if_neg (λh=>Mj h.2)]at hE;subst hE;have hq:(ew != 0)=true:=by rw[bne_iff_ne];exact Mj
            have ki:(ew==0)=false:=by rw[beq_eq_false_iff_ne];exact Mj
            go_wp2_with fail;go_ret2;exact aC (H7.o.wp (aj _) H8.o.1 _ _ H8.o.2)
         .have ht2:(til.toList==[])=false:=by simpa using ht
          have ht1:¬til.toList=[]:=by simpa using ht
          clear ht
          by_cases Ub:Op.bytesLess x.key.toList til.toList=true
          .have hE:=HE.o;rw[if_neg (show ¬kX til false i x=true from by unfold kX;rw[Ub];simp),if_neg (show ¬(false=true) by simp)]at hE;have HE:=xh hE;clear hE;have Mh:=nf.o.m;have KI:=IH.o d' rfl _ qi sn si Gi x.aU hsn nf.o.t nf.o.e nf.o.i (λg hg=>nf.o.d g (by simp only[ar,az]at hg ⊢;rcases hg with e|e|e<;>simp[e])) nf.o.y Mh;unfold Ev.eo at KI
           rw[show(#[Value.int .i64 x.aU,.int .i64 (d':Nat)]++ #[Value.pointer (some ⟨v.sB,0,none⟩),.pointer (some ⟨v.tB,0,none⟩),.pointer (some ⟨v.fB,0,none⟩),.pointer (some ⟨v.oB,0,none⟩),.pointer (some ⟨v.dB,0,none⟩),.pointer (some ⟨v.kB,0,none⟩)]:Array Value)= #[Value.int .i64 x.aU,.int .i64 (d':Nat),Value.pointer (some ⟨v.sB,0,none⟩),.pointer (some ⟨v.tB,0,none⟩),.pointer (some ⟨v.fB,0,none⟩),.pointer (some ⟨v.oB,0,none⟩),.pointer (some ⟨v.dB,0,none⟩),.pointer (some ⟨v.kB,0,none⟩)]from rfl]at KI
           generalize fK step fr til d' qi sn si x.aU=RW at *;obtain⟨qw,sw,ssw,mw,ew⟩:=RW;dsimp only at *;have KI:=xh KI;clear Mh;go_wp2_with fail;refine KI.o.mono ?_;rintro e w7 ⟨rfl,hWP⟩;obtain⟨G',L7,Hd,He⟩:=nf.o.deep hWP;have H7:=xh L7;have H8:=xh (And.intro Hd He);clear L7 Hd He hWP u0 u1 u2 z0 z1 z2 n0 m3 m4 m5 m6;have hE:=HE.o
           cases mw
           .rw[if_neg (by simp)]at hE;subst hE;go_wp2_with fail;go_ret2;exact aC (H7.o.wp (aj _) H8.o.1 _ _ H8.o.2)
           .by_cases Mj:ew=0
            .subst Mj;rw[if_pos ⟨rfl,rfl⟩]at hE;have HE:=xh hE;clear hE;go_wp2_with fail;go_roundw
             case rel=>exact⟨i+1,qw,sw,ssw,G',by omega,rfl,H8.o.2 (by trivial),HE,H7⟩
             case measure=>simp[intOf];omega
            .rw[if_neg (λh=>Mj h.2)]at hE;subst hE;have hq:(ew != 0)=true:=by rw[bne_iff_ne];exact Mj
             have ki:(ew==0)=false:=by rw[beq_eq_false_iff_ne];exact Mj
             go_wp2_with fail;go_ret2;exact aC (H7.o.wp (aj _) H8.o.1 _ _ H8.o.2)
          .have cZ:Op.bytesLess x.key.toList til.toList=false:=by simpa using Ub
           by_cases hip:0<i
           .have hE:=HE.o;rw[if_pos (show kX til false i x=true from by unfold kX;rw[cZ,ht2];simp[hip])]at hE;subst hE;have hipI:(0:Int)<(i:Int):=by omega
            clear Ub;go_wp2_with fail;go_ret2;exact aC (nf.o.wp (aj _) (by omega) _ _ (λ_=>hsn))
           .have hE:=HE.o;rw[if_neg (show ¬kX til false i x=true from by unfold kX;rw[cZ,ht2];simp[hip]),if_neg (show ¬(false=true) by simp)]at hE;have HE:=xh hE;have hipI:¬((0:Int)<(i:Int)):=by omega
            clear hE Ub;have Mh:=nf.o.m;have KI:=IH.o d' rfl _ qi sn si Gi x.aU hsn nf.o.t nf.o.e nf.o.i (λg hg=>nf.o.d g (by simp only[ar,az]at hg ⊢;rcases hg with e|e|e<;>simp[e])) nf.o.y Mh;unfold Ev.eo at KI
            rw[show(#[Value.int .i64 x.aU,.int .i64 (d':Nat)]++ #[Value.pointer (some ⟨v.sB,0,none⟩),.pointer (some ⟨v.tB,0,none⟩),.pointer (some ⟨v.fB,0,none⟩),.pointer (some ⟨v.oB,0,none⟩),.pointer (some ⟨v.dB,0,none⟩),.pointer (some ⟨v.kB,0,none⟩)]:Array Value)= #[Value.int .i64 x.aU,.int .i64 (d':Nat),Value.pointer (some ⟨v.sB,0,none⟩),.pointer (some ⟨v.tB,0,none⟩),.pointer (some ⟨v.fB,0,none⟩),.pointer (some ⟨v.oB,0,none⟩),.pointer (some ⟨v.dB,0,none⟩),.pointer (some ⟨v.kB,0,none⟩)]from rfl]at KI
            generalize fK step fr til d' qi sn si x.aU=RW at *;obtain⟨qw,sw,ssw,mw,ew⟩:=RW;dsimp only at *;have KI:=xh KI;clear Mh;go_wp2_with fail;refine KI.o.mono ?_;rintro e w7 ⟨rfl,hWP⟩;obtain⟨G',L7,Hd,He⟩:=nf.o.deep hWP;have H7:=xh L7;have H8:=xh (And.intro Hd He);clear L7 Hd He hWP u0 u1 u2 z0 z1 z2 n0 m3 m4 m5 m6;have hE:=HE.o
            cases mw
            .rw[if_neg (by simp)]at hE;subst hE;go_wp2_with fail;go_ret2;exact aC (H7.o.wp (aj _) H8.o.1 _ _ H8.o.2)
            .by_cases Mj:ew=0
             .subst Mj;rw[if_pos ⟨rfl,rfl⟩]at hE;have HE:=xh hE;clear hE;go_wp2_with fail;go_roundw
              case rel=>exact⟨i+1,qw,sw,ssw,G',by omega,rfl,H8.o.2 (by trivial),HE,H7⟩
              case measure=>simp[intOf];omega
             .rw[if_neg (λh=>Mj h.2)]at hE;subst hE;have hq:(ew != 0)=true:=by rw[bne_iff_ne];exact Mj
              have ki:(ew==0)=false:=by rw[beq_eq_false_iff_ne];exact Mj
              go_wp2_with fail;go_ret2;exact aC (H7.o.wp (aj _) H8.o.1 _ _ H8.o.2)
       .obtain rfl:i=l.length:=by omega
        have hE:=HE.o;rw[Iv]at hE;unfold ij at hE;subst hE;go_wp2_with fail;go_ret2;exact aC (HW.o.wp (aj _) (by omega) _ _ (λ_=>hsn))
     .rw[if_pos rfl]at bC;have eG:=xh bC;have y0:=H3.o.b.ab (i:=0) rfl;have y1:=H3.o.b.ab (i:=1) rfl;have HL:=xh hlen;clear bC;go_wp2_with fail
      go_loopw [45] (λiv wr=> ∃(i:Nat) (si:σ) (Gi:List Nat),i<=l.length/\iv=.int .i64 (i:Nat)/\Hid (ij (fK step fr til d') step fr til true 0 i (l.drop i) q1 (seen+1) si=R)/\Hid (LW w wr v tb I F G n Kz fr til fn eo jC Inv q1 (seen+1) (57*seen+i) si Gi true A c Ct l)) (λiv _=>l.length-(intOf iv).toNat)
      case atStart=>exact⟨0,s,G,bm _,rfl,eG,H3⟩
      case round=>
       clear y0 y1;obtain⟨i,si,Gi,hi,rfl,HE,HW⟩:=hrel
       by_cases hil:i<l.length
       .skip
        have hilI:(i:Int)<(l.length:Int):=by omega
        obtain⟨x,hx⟩:∃x,l[i]?=some x:=⟨_,aT hil⟩;have hE:=HE.o;rw[uo hil,show l[i]=x from by have:=aT hil;rw[hx]at this;injection this with h;exact h.symm]at hE;unfold ij at hE;have hxk:x.key.size<=32:=(q8 HM.o x (aA hx)).1;have SL:=HW.o.s;obtain⟨ad,vu,fN⟩:=(Nd.aK.aH SL).2.2 i x hx;obtain⟨ga,ca,wB,Az,_⟩:=SL.form (by omega) (by omega);injection Az with e1 ezz e3
        clear ezz;subst e1 e3;injection vu with vu
        subst vu;rw[Nd.eP,bh]at fN;have gu:=ae (Below.refl wr.heap.size wr) (.cells #[.string x.key,.string x.val,.int .i64 x.aU] 111);have HA:=xh gu;have BX:=aE.new wr 111 #[.string x.key,.string x.val,.int .i64 x.aU];have u0:=fN.c0;have u1:=fN.c1;have u2:=fN.c2;dsimp only at u1 u2;have z0:=BX.ab (i:=0) rfl;have z1:=BX.ab (i:=1) rfl;have z2:=BX.ab (i:=2) rfl;have nf:=xh (HW.o.below HV.o gu)
        have n0:=nf.o.b.ab (i:=0) rfl;have m3:=nf.o.e.f.ab (i:=0) rfl;have m4:=nf.o.e.o.ab (i:=0) rfl;have m5:=nf.o.e.d.ab (i:=0) rfl;have m6:=nf.o.e.k.ab (i:=0) rfl;have E9:¬((i:Int)<0):=by omega
        have HE:=xh hE;clear fN SL BX hE hx gu
        by_cases xd:Op.bytesLess x.key.toList fr.toList=true
        .have hE:=HE.o;rw[if_pos (show mh fr true 0 i x=true from by unfold mh;rw[xd];simp)]at hE;have HE:=xh hE;have HW:=xh (HW.o.below HV.o HA.o);clear hE;go_wp2_with fail;go_roundw
         case rel=>exact⟨i+1,si,Gi,by omega,rfl,HE,xh {HW.o with m:=by have:=HW.o.m;omega}⟩
         case measure=>simp[intOf];omega
        .have bS:Op.bytesLess x.key.toList fr.toList=false:=by simpa using xd
         have hE:=HE.o;rw[if_neg (show ¬mh fr true 0 i x=true from by unfold mh;rw[bS];simp)]at hE;have HE:=xh hE;clear xd hE
         by_cases ht:(til.toList==[])=true
         .have hE:=HE.o;rw[if_neg (show ¬kX til true i x=true from by unfold kX;rw[ht];simp)]at hE;have ht1:til.toList=[]:=by simpa using ht
          have HE:=xh hE;clear hE;have KC:=HV.o.call _ si Gi x nf.o.i (by have:=nf.o.m;omega) hxk;have h1s:=HV.o.one x si;have hE:=HE.o;rw[if_pos (show(true=true)from rfl)]at hE;generalize step x si=RS at *;obtain⟨s2,b2⟩:=RS;dsimp only at *;have KC:=xh KC;have HS:=xh h1s;have HE:=xh hE;unfold E.agg at KC;clear hE h1s;go_wp2_with fail;rw[HV.o.ent,Oper.upon_enter];refine KC.o.mono ?_;rintro e w7 ⟨rfl,G',hI7,o7,f7⟩
          have H7:=xh (nf.o.vis hI7 o7 f7 (bd':=57*seen+(i+1)) (by have:=nf.o.m;have:=HS.o;omega));clear hI7 o7 f7 u0 u1 u2 z0 z1 z2 n0 m3 m4 m5 m6;have hE:=HE.o
          cases b2
          .rw[if_neg (show ¬(false=true) by simp)]at hE;subst hE;go_wp2_with fail;go_ret2;exact aC (H7.o.wp (by omega) (by omega) _ _ (λ_=>by omega))
          .rw[if_pos (show(true=true)from rfl)]at hE;have HE:=xh hE;clear hE;go_wp2_with fail;go_roundw
           case rel=>exact⟨i+1,s2,G',by omega,rfl,HE,H7⟩
           case measure=>simp[intOf];omega
         .have ht2:(til.toList==[])=false:=by simpa using ht
          have ht1:¬til.toList=[]:=by simpa using ht
          clear ht
          by_cases Ub:Op.bytesLess x.key.toList til.toList=true
          .have hE:=HE.o;rw[if_neg (show ¬kX til true i x=true from by unfold kX;rw[Ub];simp)]at hE;have HE:=xh hE;clear hE;have KC:=HV.o.call _ si Gi x nf.o.i (by have:=nf.o.m;omega) hxk;have h1s:=HV.o.one x si;have hE:=HE.o;rw[if_pos (show(true=true)from rfl)]at hE;generalize step x si=RS at *;obtain⟨s2,b2⟩:=RS;dsimp only at *;have KC:=xh KC;have HS:=xh h1s;have HE:=xh hE;unfold E.agg at KC;clear hE h1s;go_wp2_with fail
           rw[HV.o.ent,Oper.upon_enter];refine KC.o.mono ?_;rintro e w7 ⟨rfl,G',hI7,o7,f7⟩;have H7:=xh (nf.o.vis hI7 o7 f7 (bd':=57*seen+(i+1)) (by have:=nf.o.m;have:=HS.o;omega));clear hI7 o7 f7 u0 u1 u2 z0 z1 z2 n0 m3 m4 m5 m6;have hE:=HE.o
           cases b2
           .rw[if_neg (show ¬(false=true) by simp)]at hE;subst hE;go_wp2_with fail;go_ret2;exact aC (H7.o.wp (by omega) (by omega) _ _ (λ_=>by omega))
           .rw[if_pos (show(true=true)from rfl)]at hE;have HE:=xh hE;clear hE;go_wp2_with fail;go_roundw
            case rel=>exact⟨i+1,s2,G',by omega,rfl,HE,H7⟩
            case measure=>simp[intOf];omega
          .have cZ:Op.bytesLess x.key.toList til.toList=false:=by simpa using Ub
           have hE:=HE.o;rw[if_pos (show kX til true i x=true from by unfold kX;rw[cZ,ht2];simp)]at hE;subst hE;have HW:=xh (HW.o.below HV.o HA.o);clear Ub;go_wp2_with fail;go_ret2;exact aC (HW.o.wp (by omega) (by omega) _ _ (λ_=>by omega))
       .obtain rfl:i=l.length:=by omega
        have hE:=HE.o;rw[Iv]at hE;unfold ij at hE;subst hE;go_wp2_with fail;go_ret2;exact aC (HW.o.wp (by omega) (by omega) _ _ (λ_=>by omega))
    .have bC:=eG.o;rw[if_pos he]at bC;subst bC;have hq:(er != 0)=true:=by rw[bne_iff_ne];exact he
     have ki:(er==0)=false:=by rw[beq_eq_false_iff_ne];exact he
     go_wp2_with fail;go_ret2;exact aC (H3.o.wp (by omega) (by omega) _ _ (λh=>absurd h he))
theorem CE{σ:Type}{step:E->σ->σ×Bool}{jC:σ->Nat}{Inv:World->σ->List Nat->Prop}(V:Vis fn eo step jC Inv){v:Ev}(fr til:ByteArray)(Th:Kz<=999999990000):∀d,d<=16->Kp fn eo step jC Inv v tb I F n Kz fr til d
 |0,h=>Hc V fr til Th 0 h (λd' e=>absurd e (by omega))
 |d+1,h=>Hc V fr til Th (d+1) h (λd' e=>by
  obtain rfl:d'=d:=by omega
  exact CE V fr til Th d' (by omega))
theorem vG{σ:Type}{fn:Nat}{eo:Array Value}{step:E->σ->σ×Bool}{jC:σ->Nat}{Inv:World->σ->List Nat->Prop}(V:Vis fn eo step jC Inv){w:World}{tb:Nat}{I:Ix}{F G:List Nat}{q:QS}{n K:Nat}{s:σ}(h:TQ w tb I F q n K)(hK:K<=999999990000)(fr til:ByteArray)(hI:Inv w s G)(hD:∀g∈tb::F,g∉G)(hm:jC s=0):
  Calls prog 60 #[tp tb,.string fr,.string til,.func (.func fn) #[] eo] w λe w'=>e=.returned (.int .i64 (q.dY step fr til s).e)/\∃G',TQ w' tb I F (q.dY step fr til s).q n (K+513)/\Inv w' (q.dY step fr til s).s G'/\ag (F++G) w w'/\(∀g∈G',g∈G\/w.heap.size<=g)/\jC (q.dY step fr til s).s<=57*513/\(∀g∈tb::F,g∉G'):=by
 have hmf:∀(fn:Fn) (first cap:Array Value) (w:World),(Instr.makeFunc fn first cap).run prog w=.ok (.func fn first cap) w:=λ_ _ _ _=>rfl;unfold tp at *;obtain⟨z,hz⟩:∃z,w.heap.size=z:=⟨_,rfl⟩;have W0:=Below.refl w.heap.size w;obtain⟨w1,jJ⟩:∃w1,w.alloc (.cells #[.pointer (some ⟨tb,0,none⟩)] 35)=w1:=⟨_,rfl⟩;have s1:w1.heap.size=z+1:=by rw[<-jJ,eJ,hz]
 have Hf:aE w1 (z) 35 #[.pointer (some ⟨tb,0,none⟩)]:=by rw[<-jJ,<-hz];exact aE.new _ _ _
 have W1:=au W0 (ae (Below.refl w.heap.size w) (.cells #[.pointer (some ⟨tb,0,none⟩)] 35));rw[jJ]at W1;obtain⟨w2,xH⟩:∃w2,w1.alloc (.cells #[.string fr] 9)=w2:=⟨_,rfl⟩;have s2:w2.heap.size=z+1+1:=by rw[<-xH,eJ,s1]
 have Hg:aE w2 (z+1) 9 #[.string fr]:=by rw[<-xH,<-s1];exact aE.new _ _ _
 have zX:=Hf.alloc (.cells #[.string fr] 9);rw[xH]at zX;have W2:=au W1 (ae (Below.refl w1.heap.size w1) (.cells #[.string fr] 9));rw[xH]at W2;obtain⟨w3,Jb⟩:∃w3,w2.alloc (.cells #[.string til] 9)=w3:=⟨_,rfl⟩;have s3:w3.heap.size=z+1+1+1:=by rw[<-Jb,eJ,s2]
 have Kq:aE w3 (z+1+1) 9 #[.string til]:=by rw[<-Jb,<-s2];exact aE.new _ _ _
 have Kr:=zX.alloc (.cells #[.string til] 9);rw[Jb]at Kr;have vH:=Hg.alloc (.cells #[.string til] 9);rw[Jb]at vH;have W3:=au W2 (ae (Below.refl w2.heap.size w2) (.cells #[.string til] 9));rw[Jb]at W3;obtain⟨w4,hw4⟩:∃w4,w3.alloc (.cells #[.func (.func fn) #[] eo] 112)=w4:=⟨_,rfl⟩;have s4:w4.heap.size=z+1+1+1+1:=by rw[<-hw4,eJ,s3]
 have c3_4:aE w4 (z+1+1+1) 112 #[.func (.func fn) #[] eo]:=by rw[<-hw4,<-s3];exact aE.new _ _ _
 have c0_4:=Kr.alloc (.cells #[.func (.func fn) #[] eo] 112);rw[hw4]at c0_4;have c1_4:=vH.alloc (.cells #[.func (.func fn) #[] eo] 112);rw[hw4]at c1_4;have c2_4:=Kq.alloc (.cells #[.func (.func fn) #[] eo] 112);rw[hw4]at c2_4;have W4:=au W3 (ae (Below.refl w3.heap.size w3) (.cells #[.func (.func fn) #[] eo] 112));rw[hw4]at W4;obtain⟨w5,PU⟩:∃w5,w4.alloc (.cells #[.int .i64 0] 3)=w5:=⟨_,rfl⟩;have s5:w5.heap.size=z+1+1+1+1+1:=by rw[<-PU,eJ,s4]
 have c4_5:aE w5 (z+1+1+1+1) 3 #[.int .i64 (0:Nat)]:=by rw[<-PU,<-s4];exact aE.new _ _ _
 have c0_5:=c0_4.alloc (.cells #[.int .i64 0] 3);rw[PU]at c0_5;have c1_5:=c1_4.alloc (.cells #[.int .i64 0] 3);rw[PU]at c1_5;have c2_5:=c2_4.alloc (.cells #[.int .i64 0] 3);rw[PU]at c2_5;have c3_5:=c3_4.alloc (.cells #[.int .i64 0] 3);rw[PU]at c3_5;have W5:=au W4 (ae (Below.refl w4.heap.size w4) (.cells #[.int .i64 0] 3));rw[PU]at W5;obtain⟨w6,LY⟩:∃w6,w5.alloc (.cells #[.nilFunc] 191)=w6:=⟨_,rfl⟩;have s6:w6.heap.size=z+1+1+1+1+1+1:=by rw[<-LY,eJ,s5]
 have Uc:aE w6 (z+1+1+1+1+1) 191 #[.nilFunc]:=by rw[<-LY,<-s5];exact aE.new _ _ _
 have c0_6:=c0_5.alloc (.cells #[.nilFunc] 191);rw[LY]at c0_6;have c1_6:=c1_5.alloc (.cells #[.nilFunc] 191);rw[LY]at c1_6;have c2_6:=c2_5.alloc (.cells #[.nilFunc] 191);rw[LY]at c2_6;have c3_6:=c3_5.alloc (.cells #[.nilFunc] 191);rw[LY]at c3_6;have c4_6:=c4_5.alloc (.cells #[.nilFunc] 191);rw[LY]at c4_6;have W6:=au W5 (ae (Below.refl w5.heap.size w5) (.cells #[.nilFunc] 191));rw[LY]at W6;obtain⟨v,hv⟩:∃v:Ev,v=⟨z+1+1+1+1,z,z+1,z+1+1,z+1+1+1,z+1+1+1+1+1⟩:=⟨_,rfl⟩
 have x0:=c0_4.ab (i:=0) rfl;have x5:w6.cell? ⟨z+1+1+1+1+1,0,none⟩=some .nilFunc:=Uc.ab (i:=0) rfl;have f5:=Uc.frozen 0 (by simp);obtain⟨w7,hw7⟩:∃w7,w6.setCell ⟨z+1+1+1+1+1,0,none⟩ (.func (.func 109) #[] #[.pointer (some ⟨z+1+1+1+1,0,none⟩),.pointer (some ⟨z,0,none⟩),.pointer (some ⟨z+1,0,none⟩),.pointer (some ⟨z+1+1,0,none⟩),.pointer (some ⟨z+1+1+1,0,none⟩),.pointer (some ⟨z+1+1+1+1+1,0,none⟩)])=w7:=⟨_,rfl⟩
 have x7:w7.cell? ⟨z+1+1+1+1+1,0,none⟩=some (.func (.func 109) #[] #[.pointer (some ⟨z+1+1+1+1,0,none⟩),.pointer (some ⟨z,0,none⟩),.pointer (some ⟨z+1,0,none⟩),.pointer (some ⟨z+1+1,0,none⟩),.pointer (some ⟨z+1+1+1,0,none⟩),.pointer (some ⟨z+1+1+1+1+1,0,none⟩)]):=by rw[<-hw7];exact(Uc.bG 0 _).ab (i:=0) rfl
 have o7:ag [z+1+1+1+1+1] w6 w7:=by rw[<-hw7];exact(ag.refl _ _).setCell (by simp) _
 have E7:rB w7 v tb fr til fn eo 0:=by
  rw[hv]at *;exact⟨c4_6.only o7 (by simp<;>omega),c0_6.only o7 (by simp<;>omega),c1_6.only o7 (by simp<;>omega),c2_6.only o7 (by simp<;>omega),c3_6.only o7 (by simp<;>omega),by rw[<-hw7];exact Uc.bG 0 _⟩
 have T7:TQ w7 tb I F q n (K+0):=(h.below W6).only o7 (λg hg hm=>by have:=h.lt g hg;rw[aP.1 hm]at this;omega);have I7:Inv w7 s G:=V.po _ _ _ _ _ (V.po _ _ _ _ [] hI (.ai W6) (by simp)) o7 (λg hg hm=>by have:=V.lt _ _ _ hI g hg;rw[aP.1 hm]at this;omega);have hvl:∀g∈v.l,z<=g:=λg hg=>by rw[hv]at hg;simp[Ev.l]at hg;omega
 have KW:=CE V (v:=v) (tb:=tb) (I:=I) (F:=F) (n:=n) fr til hK 16 (aj _) w7 q 0 s G 0 (by omega) T7 E7 I7 (λg hg hG=>by
  simp only[ar,az]at hg
  rcases hg with e|hg|hg
  .exact hD g (by simp[e]) hG
  .have:=hvl g hg;have:=V.lt _ _ _ hI g hG;omega
  .exact hD g (by simp[hg]) hG) (λg hg=>⟨λhF=>by have:=hvl g hg;have:=h.lt g (by simp[hF]);omega,λe=>by have:=hvl g hg;have:=h.lt g (by simp[e]);omega⟩) (by omega)
 have HW6:=xh W6;have KW:Calls prog 109 #[Value.int .i64 0,.int .i64 16,.pointer (some ⟨z+1+1+1+1,0,none⟩),.pointer (some ⟨z,0,none⟩),.pointer (some ⟨z+1,0,none⟩),.pointer (some ⟨z+1+1,0,none⟩),.pointer (some ⟨z+1+1+1,0,none⟩),.pointer (some ⟨z+1+1+1+1+1,0,none⟩)] w7 (λe w'=>e=.returned (.tuple #[.bool (q.dY step fr til s).more,.int .i64 (q.dY step fr til s).e])/\WP w7 w' v tb I F G n K fr til fn eo jC Inv (q.dY step fr til s)):=by rw[hv]at KW ⊢;exact KW
 have KW:=xh KW;have HV:=xh hvl;have hv:=xh hv;have o7:=xh o7;have sO:=xh (λg hg=>h.lt g hg);have HZ:=xh hz;clear Hf zX Kr c0_5 c0_6 Hg vH c1_4 c1_5 c1_6 Kq c2_4 c2_5 c2_6 c3_4 c3_5 c3_6 c4_5 c4_6 Uc W0 W1 W2 W3 W4 W5 W6 s1 s2 s3 s4 s5 s6 T7 I7 hvl;subst jJ xH Jb hw4 PU;go_enter func60,ntmps60;go_wp2_with fail;refine KW.o.mono ?_;rintro e w8 ⟨rfl,G',a1,a2,a3,a4,a5,a6,a7,a8⟩
 have H8:=xh (And.intro a1 (And.intro a3 (And.intro a4 (And.intro a5 (And.intro a6 a7)))));clear a1 a2 a3 a4 a5 a6 a7 a8;go_wp2_with fail;go_ret;have hD:=hD;obtain⟨b1,b3,b4,b5,b6,b7⟩:=H8.o;have o6:=ag.ai (S:=F++G) HW6.o;have o8:=o6.aN o7.o (λx hx dV=>by rw[aP.1 hx]at dV;have:=HZ.o;omega);have o9:=o8.aN b4 (λx hx dV=>by
  rcases ar.1 hx with rfl|hx
  .have:=HV.o v.sB (by simp[Ev.l]);have:=HZ.o;omega
  .exact hx)
 exact⟨rfl,G',b1.le (by omega),b3,o9,λg hg=>(b5 g hg).imp id (λhl=>ay o8.size hl),by omega,λg hg hG=>by
  rcases b5 g hG with h1|h1
  .exact hD g hg h1
  .have:=sO.o g hg;have:=o8.size;omega⟩
open Nd (E aH bt aV aZ dD bH bf cd)
attribute [local go_sem ↓] bq
variable{lb nb fb:Nat}{n:Int}{w w':World}{s:List E}{G S:List Nat}
theorem vI{P:Program}{f:FuncId}{fn:Func}(hf:P.funcs[f]?=some fn)(hname:(fn.name== "runtime.NumGoroutine")=false)(hb:fn.body.isNone=false)(args:Array Value)(w:World):Sem.run P (callFunc f args) w=.ok (.enter f args) w:=by
 have h1:fn.name≠ "runtime.NumGoroutine" :=by simpa using hname
 have h2:fn.body≠none:=λh=>by rw[h]at hb;cases hb
 simp[callFunc,hf,h1,h2]
def lp(b:Nat):Value:= .pointer (some ⟨b,0,none⟩)
def mr(n:Int)(x:E)(s:List E):List E×Bool:=((if(s.length:Int)<n then s++[x]else s),decide (((if(s.length:Int)<n then s++[x]else s).length:Int)<n))
def qc(lb nb:Nat)(n:Int)(w:World)(s:List E)(G:List Nat):Prop:=
 ∃A c,G=lb::nb::ah (.slice A s.length c)/\aE w lb 108 #[.slice A s.length c]/\aE w nb 3 #[.int .i64 n]/\aK w 111 3 (.slice A s.length c) s.length (aH s)/\lb≠nb
theorem qc.lt(h:qc lb nb n w s G):∀g∈G,g<w.heap.size:=λg hg=>by
 obtain⟨A,c,rfl,h1,h2,h3,h4⟩:=h
 rcases ar.1 hg with rfl|hg
 .exact h1.lt
 .rcases ar.1 hg with rfl|hg
  .exact h2.lt
  .exact h3.lt g hg
theorem qc.only(h:qc lb nb n w s G)(o:ag S w w')(hs:∀g∈G,g∉S):qc lb nb n w' s G:=by
 obtain⟨A,c,rfl,h1,h2,h3,h4⟩:=h;exact⟨A,c,rfl,h1.only o (hs _ (by simp)),h2.only o (hs _ (by simp)),h3.only o (λg hg=>hs g (by simp[hg])),h4⟩
theorem Ks:(prog.info? 111).map (λi=>(i.zero,i.size,i.bytes))=some (some (.agg #[.string .empty,.string .empty,.int .i64 0]),3,40):=by kernel_rfl
theorem Pc(x:E)(h:qc lb nb n w s G)(hs:s.length<=100000):
  Calls prog 61 #[x.agg,lp lb,lp nb] w λe w'=>e=.returned (.bool (mr n x s).2)/\∃G',qc lb nb n w' (mr n x s).1 G'/\ag G w w'/\∀g∈G',g∈G\/w.heap.size<=g:=by
 obtain⟨A,c,rfl,B1,B2,S1,eV⟩:=h;obtain⟨z,hz⟩:∃z,w.heap.size=z:=⟨_,rfl⟩;obtain⟨k,hk⟩:∃k,s.length=k:=⟨_,rfl⟩;rw[hk]at hs B1 S1 ⊢;have hb:=ae (Below.refl w.heap.size w) (.cells #[.string x.key,.string x.val,.int .i64 x.aU] 111);have l1:=B1.lt;have l2:=B2.lt;have l3:=S1.lt;have C1:=B1.below hb l1;have C2:=B2.below hb l2;have CS:=S1.below hb;have B3:=aE.new w 111 #[.string x.key,.string x.val,.int .i64 x.aU];have AA:=cC CS C1 (by decide);have hd2:=cC CS C2 (by decide)
 have c1:=C1.ab (i:=0) rfl;have c2:=C2.ab (i:=0) rfl;have d0:=B3.ab (i:=0) rfl;have d1:=B3.ab (i:=1) rfl;have d2:=B3.ab (i:=2) rfl;have HB:=xh hb;unfold mr;rw[hk]
 by_cases hn:(k:Int)<n
 .rw[if_pos hn];obtain⟨v',w3,ea,S3,oa,fa⟩:=Nd.sr CS 108 108 _ 40 underlying108 Ks rfl x (by unfold maxLen;omega) (by omega);have f1:=(C1.only oa AA).frozen 0 (by simp);have x1:=(C1.only oa AA).ab (i:=0) rfl;have y2:=(C2.only oa hd2).ab (i:=0) rfl;have hlen:(s++[x]).length=k+1:=by simp[hk]
  obtain⟨A3,c3,Fc⟩:=ao S3;subst Fc;have fN:aH s++E.cells x=aH (s++[x]):=by rw[Nd.fS];simp[aH,E.cells]
  rw[fN]at S3;have D1:=(C1.only oa AA).bG 0 (.slice A3 (k+1) c3);have D2:=(C2.only oa hd2).aU (p:=⟨lb,0,none⟩) (λe=>eV e.symm) (.slice A3 (k+1) c3);have D3:=S3.only (S:=[lb]) ((ag.refl _ _).setCell (by simp) _:ag [lb] w3 (w3.setCell ⟨lb,0,none⟩ (.slice A3 (k+1) c3))) (λg hg hm=>by
   rw[aP.1 hm]at hg;exact cC S3 (C1.only oa AA) (by decide) hg)
  have o3:ag (lb::nb::ah (.slice A k c)) w (w3.setCell ⟨lb,0,none⟩ (.slice A3 (k+1) c3)):=((ag.ai HB.o).aN oa (λg hg _=>by simp[hg])).setCell (by simp) _;have fr3:∀g∈lb::nb::ah (.slice A3 (k+1) c3),g∈lb::nb::ah (.slice A k c)\/w.heap.size<=g:=λg hg=>by
   rcases ar.1 hg with rfl|hg
   .exact .inl (by simp)
   .rcases ar.1 hg with rfl|hg
    .exact .inl (by simp)
    .rcases fa g hg with h|h
     .exact .inl (by simp[h])
     .exact .inr (by have:=HB.o.size;omega)
  have z1:=D1.ab (i:=0) rfl;have z2:=D2.ab (i:=0) rfl;have H9:=xh (show qc lb nb n (w3.setCell ⟨lb,0,none⟩ (.slice A3 (k+1) c3)) (s++[x]) (lb::nb::ah (.slice A3 (k+1) c3))/\ag (lb::nb::ah (.slice A k c)) w (w3.setCell ⟨lb,0,none⟩ (.slice A3 (k+1) c3))/\∀g∈lb::nb::ah (.slice A3 (k+1) c3),g∈lb::nb::ah (.slice A k c)\/w.heap.size<=g from
   ⟨⟨A3,c3,by rw[hlen],by rw[hlen];exact D1,D2,by rw[hlen];exact D3,eV⟩,o3,fr3⟩)
  have hlI:((s++[x]).length:Int)=(k:Int)+1:=by rw[hlen];omega
  have HLI:=xh hlI;rw[eJ,hz]at ea;have EA:=xh ea;clear ea S3 oa fa D1 D2 D3 o3 fr3 hlen hlI fN AA hd2 C1 C2 CS B3 B1 B2 S1 hb l1 l2 l3 hs hk;unfold lp E.agg at *;go_enter func61,ntmps61;go_wp2_with fail;rw[EA.o];go_wp2_with fail;go_ret;refine⟨?_,_,H9.o.1,H9.o.2.1,H9.o.2.2⟩;rw[HLI.o];rfl
 .rw[if_neg hn];have H9:=xh (show qc lb nb n (w.alloc (.cells #[.string x.key,.string x.val,.int .i64 x.aU] 111)) s (lb::nb::ah (.slice A k c))from⟨A,c,by rw[hk],by rw[hk];exact C1,C2,by rw[hk];exact CS,eV⟩);have HK:=xh hk;have HN:=xh hn;have HS:=xh hb.size;clear AA hd2 C1 C2 CS B3 B1 B2 S1 hb l1 l2 l3 hs hk;unfold lp E.agg at *;go_enter func61,ntmps61;go_wp2_with fail;go_ret
  exact⟨by rw[HK.o,decide_eq_false (Int.not_lt.2 HN.o)];first|rfl|simp,_,H9.o,.ai HB.o,λg hg=> .inl (by simpa using hg)⟩
theorem Ud(lb nb:Nat)(n:Int):Vis 61 #[lp lb,lp nb] (mr n) List.length (qc lb nb n) where
 call:=λW s G x h hs _=>Pc x h hs
 po:=λW w' s G S h o hs=>h.only o hs
 lt:=λW s G h=>h.lt
 ent:=λargs W=>vI func61 (by kernel_rfl) (by kernel_rfl) args W
 one:=λx s=>by unfold mr;split<;>simp
def jb(x:E)(_:Option E):Option E×Bool:=(some x,true)
def optE:Option E->E
 |none=>Nd.E.zero
 |some x=>x
def zY(lb fb:Nat)(w:World)(s:Option E)(G:List Nat):Prop:=
 G=[lb,fb]/\aE w lb 111 #[.string (optE s).key,.string (optE s).val,.int .i64 (optE s).aU]/\aE w fb 4 #[.bool s.isSome]/\lb≠fb
theorem zY.only{s:Option E}(h:zY lb fb w s G)(o:ag S w w')(hs:∀g∈G,g∉S):zY lb fb w' s G:=by
 obtain⟨rfl,h1,h2,h4⟩:=h;exact⟨rfl,h1.only o (hs _ (by simp)),h2.only o (hs _ (by simp)),h4⟩
theorem Pd{s:Option E}(x:E)(h:zY lb fb w s G):
  Calls prog 65 #[x.agg,lp lb,lp fb] w λe w'=>e=.returned (.bool (jb x s).2)/\∃G',zY lb fb w' (jb x s).1 G'/\ag G w w'/\∀g∈G',g∈G\/w.heap.size<=g:=by
 obtain⟨rfl,B1,B2,eV⟩:=h;obtain⟨z,hz⟩:∃z,w.heap.size=z:=⟨_,rfl⟩;have hb:=ae (Below.refl w.heap.size w) (.cells #[.string x.key,.string x.val,.int .i64 x.aU] 111);have l1:=B1.lt;have l2:=B2.lt;have C1:=B1.below hb l1;have C2:=B2.below hb l2;have B3:=aE.new w 111 #[.string x.key,.string x.val,.int .i64 x.aU];have d0:=B3.ab (i:=0) rfl;have d1:=B3.ab (i:=1) rfl;have d2:=B3.ab (i:=2) rfl
 obtain⟨D1,oa,y0,y1,y2,z0,z1,z2⟩:=Td (a':=x.key) (b':=x.val) (c':=x.aU) C1;have D2:=C2.only oa (by simp;exact λe=>eV e.symm);have f2:=D2.frozen 0 (by simp);have x2:=D2.ab (i:=0) rfl;have E1:=D1.aU (p:=⟨fb,0,none⟩) eV (.bool true);have E2:=D2.bG 0 (.bool true);have o2:=((ag.ai (S:=[lb,fb]) hb).aN oa (λg hg _=>by simp at hg;simp[hg])).setCell (p:=⟨fb,0,none⟩) (by simp) (.bool true);have H9:=xh (And.intro E1 (And.intro E2 o2));have HN:=xh eV
 clear E1 E2 o2 D1 D2 oa C1 C2 B1 B2 B3 hb l1 l2 eV;unfold lp E.agg at *;go_enter func65,ntmps65;go_wp2_with fail;go_ret;exact⟨rfl,_,⟨rfl,H9.o.1,H9.o.2.1,HN.o⟩,H9.o.2.2,λg hg=> .inl hg⟩
def seenO(s:Option E):Nat:=if s.isSome then 1 else 0
theorem Ue(lb fb:Nat):Vis 65 #[lp lb,lp fb] jb seenO (zY lb fb) where
 call:=λW s G x h hs _=>Pd x h
 po:=λW w' s G S h o hs=>h.only o hs
 lt:=λW s G h g hg=>by
  obtain⟨rfl,h1,h2,_⟩:=h;simp only[ar,gC,or_false]at hg
  rcases hg with rfl|rfl
  .exact h1.lt
  .exact h2.lt
 ent:=λargs W=>vI func65 (by kernel_rfl) (by kernel_rfl) args W
 one:=λx s=>by unfold jb seenO;cases s<;>simp
def fP(x:E)(s:List ByteArray):List ByteArray×Bool:=(s++[x.key],true)
def ER(l:List ByteArray):List Value:=l.map Value.string
def qe(lb:Nat)(w:World)(s:List ByteArray)(G:List Nat):Prop:=
 ∃A c,G=lb::ah (.slice A s.length c)/\aE w lb 123 #[.slice A s.length c]/\aK w 9 1 (.slice A s.length c) s.length (ER s)
theorem qe.only{s:List ByteArray}(h:qe lb w s G)(o:ag S w w')(hs:∀g∈G,g∉S):qe lb w' s G:=by
 obtain⟨A,c,rfl,h1,h3⟩:=h;exact⟨A,c,rfl,h1.only o (hs _ (by simp)),h3.only o (λg hg=>hs g (by simp[hg]))⟩
theorem Pe:(prog.info? 9).map (λi=>(i.zero,i.size,i.bytes))=some (some (.string .empty),1,16):=by kernel_rfl
theorem Kt{s:List ByteArray}(x:E)(h:qe lb w s G)(hs:s.length<=100000):
  Calls prog 66 #[x.agg,lp lb] w λe w'=>e=.returned (.bool (fP x s).2)/\∃G',qe lb w' (fP x s).1 G'/\ag G w w'/\∀g∈G',g∈G\/w.heap.size<=g:=by
 obtain⟨A,c,rfl,B1,S1⟩:=h;obtain⟨z,hz⟩:∃z,w.heap.size=z:=⟨_,rfl⟩;obtain⟨k,hk⟩:∃k,s.length=k:=⟨_,rfl⟩;rw[hk]at hs B1 S1 ⊢;have hb:=ae (Below.refl w.heap.size w) (.cells #[.string x.key,.string x.val,.int .i64 x.aU] 111);have l1:=B1.lt;have C1:=B1.below hb l1;have CS:=S1.below hb;have B3:=aE.new w 111 #[.string x.key,.string x.val,.int .i64 x.aU];have AA:=cC CS C1 (by decide);have c1:=C1.ab (i:=0) rfl;have d0:=B3.ab (i:=0) rfl;have HB:=xh hb
 obtain⟨v',w3,ea,S3,oa,fa⟩:=cU (P:=prog) CS 123 123 _ 16 underlying123 Pe rfl (.string x.key) rfl (by unfold maxLen;omega) (by omega);have f1:=(C1.only oa AA).frozen 0 (by simp);have x1:=(C1.only oa AA).ab (i:=0) rfl;have hlen:(s++[x.key]).length=k+1:=by simp[hk]
 obtain⟨A3,c3,Fc⟩:=ao S3;subst Fc;have fN:ER s++[Value.string x.key]=ER (s++[x.key]):=by simp[ER]
 rw[fN]at S3;have D1:=(C1.only oa AA).bG 0 (.slice A3 (k+1) c3);have D3:=S3.only (S:=[lb]) ((ag.refl _ _).setCell (by simp) _:ag [lb] w3 (w3.setCell ⟨lb,0,none⟩ (.slice A3 (k+1) c3))) (λg hg hm=>by
  rw[aP.1 hm]at hg;exact cC S3 (C1.only oa AA) (by decide) hg)
 have o3:ag (lb::ah (.slice A k c)) w (w3.setCell ⟨lb,0,none⟩ (.slice A3 (k+1) c3)):=((ag.ai HB.o).aN oa (λg hg _=>by simp[hg])).setCell (by simp) _;have fr3:∀g∈lb::ah (.slice A3 (k+1) c3),g∈lb::ah (.slice A k c)\/w.heap.size<=g:=λg hg=>by
  rcases ar.1 hg with rfl|hg
  .exact .inl (by simp)
  .rcases fa g hg with h|h
   .exact .inl (by simp[h])
   .exact .inr (by have:=HB.o.size;omega)
 have H9:=xh (show qe lb (w3.setCell ⟨lb,0,none⟩ (.slice A3 (k+1) c3)) (s++[x.key]) (lb::ah (.slice A3 (k+1) c3))/\ag (lb::ah (.slice A k c)) w (w3.setCell ⟨lb,0,none⟩ (.slice A3 (k+1) c3))/\∀g∈lb::ah (.slice A3 (k+1) c3),g∈lb::ah (.slice A k c)\/w.heap.size<=g from
  ⟨⟨A3,c3,by rw[hlen],by rw[hlen];exact D1,by rw[hlen];exact D3⟩,o3,fr3⟩)
 rw[eJ,hz]at ea;have EA:=xh ea;clear ea S3 oa fa D1 D3 o3 fr3 hlen fN AA C1 CS B3 B1 S1 hb l1 hs hk;unfold lp E.agg at *;go_enter func66,ntmps66;go_wp2_with fail;rw[EA.o];go_wp2_with fail;go_ret;exact⟨rfl,_,H9.o.1,H9.o.2.1,H9.o.2.2⟩
theorem Pf(lb:Nat):Vis 66 #[lp lb] fP List.length (qe lb) where
 call:=λW s G x h hs _=>Kt x h hs
 po:=λW w' s G S h o hs=>h.only o hs
 lt:=λW s G h g hg=>by
  obtain⟨A,c,rfl,h1,h3⟩:=h
  rcases ar.1 hg with rfl|hg
  .exact h1.lt
  .exact h3.lt g hg
 ent:=λargs W=>vI func66 (by kernel_rfl) (by kernel_rfl) args W
 one:=λx s=>by unfold fP;simp
variable{w:World}
abbrev PR:=ByteArray×ByteArray
def iu(l:List PR):List Value:=l.flatMap λx=>[.string x.1,.string x.2]
theorem dH:∀l:List PR,(iu l).length=l.length*2
 |[]=>rfl
 |x::l=>by unfold iu;rw[gS,aQ];have:=dH l;unfold iu at this;rw[this];simp;omega
theorem ri(a b:List PR):iu (a++b)=iu a++iu b:=by simp[iu]
def ph:List E->QS->List PR->QS×List PR×Int
 |[],q,out=>(q,out,0)
 |x::l,q,out=>if(q.fE x).2.2≠0 then((q.fE x).1,[],(q.fE x).2.2)else ph l (q.fE x).1 (out++[(x.key,(q.fE x).2.1)])
def QS.iF(q:QS)(fr til:ByteArray)(n:Int):QS×List PR×Int:=
 if(q.dY (mr n) fr til []).e≠0 then((q.dY (mr n) fr til []).q,[],(q.dY (mr n) fr til []).e)else ph (q.dY (mr n) fr til []).s (q.dY (mr n) fr til []).q []
theorem zZ:(prog.info? 42).map (λi=>(i.zero,i.size,i.bytes))=some (some (.agg #[.string .empty,.string .empty]),2,32):=by kernel_rfl
theorem vJ{v:Value}{m:Nat}{L:List Value}(S:aK w 42 2 v m L)(a b:ByteArray)(hm:m<=1000000):
  ∃v' w',df prog 30 30 (w.alloc (.cells #[.string a,.string b] 42)) v (.slice (some ⟨w.heap.size,0,none⟩) 1 1)= .ok v' w'/\aK w' 42 2 v' (m+1) (L++[.string a,.string b])/\ag (ah v) w w'/\(∀g∈ah v',g∈ah v\/w.heap.size<=g):=by
 obtain⟨i0,hi,ke,iX,jF⟩:=info_parts zZ;obtain⟨v',w',h1,h2,h3,h4⟩:=di (P:=prog) (S.alloc (.cells #[.string a,.string b] 42)) 30 30 i0 _ 32 underlying30 hi ke iX jF rfl (by omega)
  ⟨w.heap.size,0,none⟩ 1 1 [.string a,.string b] rfl (bn (aE.new w 42 #[.string a,.string b]) 0 _ (by simp)) (by simp;exact⟨rfl,rfl⟩) (by unfold maxLen;omega) (by omega)
 exact⟨v',w',h1,h2,((ag.refl _ _).alloc _).aN h3 (λx hx _=>hx),λg hg=>(h4 g hg).imp id (λh=>by simp at h;omega)⟩
theorem Ph{tb:Nat}{I:Ix}{F:List Nat}{q:QS}{n K:Nat}(h:TQ w tb I F q n K)(hK:K<=999999000000)(fr til:ByteArray)(m:Int):
  Calls prog 17 #[tp tb,.string fr,.string til,.int .i64 m] w λe w'=> ∃v,e=.returned (.tuple #[v,.int .i64 (q.iF fr til m).2.2])/\aK w' 42 2 v (q.iF fr til m).2.1.length (iu (q.iF fr til m).2.1)/\PQ w' I F (q.iF fr til m).1 n (K+300000)/\ag F w w'/\(∀g∈ah v,w.heap.size<=g):=by
 have hmf:∀(fn:Fn) (first cap:Array Value) (w:World),(Instr.makeFunc fn first cap).run prog w=.ok (.func fn first cap) w:=λ_ _ _ _=>rfl;obtain⟨z,hz⟩:∃z,w.heap.size=z:=⟨_,rfl⟩;have W0:=Below.refl w.heap.size w;obtain⟨w1,jJ⟩:∃w1,w.alloc (.cells #[.int .i64 m] 3)=w1:=⟨_,rfl⟩;have s1:w1.heap.size=z+1:=by rw[<-jJ,eJ,hz]
 have Hf:aE w1 z 3 #[.int .i64 m]:=by rw[<-jJ,<-hz];exact aE.new _ _ _
 have W1:=au W0 (ae (Below.refl w.heap.size w) (.cells #[.int .i64 m] 3));rw[jJ]at W1;obtain⟨w2,xH⟩:∃w2,w1.alloc (.cells #[.slice none 0 0] 108)=w2:=⟨_,rfl⟩;have s2:w2.heap.size=z+1+1:=by rw[<-xH,eJ,s1]
 have Hg:aE w2 (z+1) 108 #[.slice none 0 0]:=by rw[<-xH,<-s1];exact aE.new _ _ _
 have zX:=Hf.alloc (.cells #[.slice none 0 0] 108);rw[xH]at zX;have W2:=au W1 (ae (Below.refl w1.heap.size w1) (.cells #[.slice none 0 0] 108));rw[xH]at W2;have hI:qc (z+1) z m w2 [] [z+1,z]:=⟨none,0,rfl,Hg,zX,aK.nil _ _ _,by omega⟩;have dV:=h.lt;have KE:=vG (Ud (z+1) z m) (h.below W2) (by omega) fr til hI (λg hg hm=>by have:=dV g hg;simp at hm;omega) rfl
 have KV:=xh (λ(W:World) (qj:QS) (kj:Nat) (hW:TQ W tb I F qj n kj) (hk:kj<=999999999900) (x:E)=>ss hW hk x);unfold QS.iF;obtain⟨R,hR⟩:∃R,q.dY (mr m) fr til []=R:=⟨_,rfl⟩;rw[hR]at KE ⊢;obtain⟨RR,bC⟩:∃RR,(if R.e≠0 then(R.q,([]:List PR),R.e)else ph R.s R.q [])=RR:=⟨_,rfl⟩;rw[bC];have eG:=xh bC;have KE:=xh KE;have vZ:=xh W2;have HZ:=xh hz;have sO:=xh dV;have HNE:=xh h.ne;clear Hf Hg zX W0 W1 W2 s1 s2 hI dV h bC hR
 subst jJ xH;unfold tp lp at *;go_enter func17,ntmps17;go_wp2_with fail;refine KE.o.mono ?_;rintro e w3 ⟨rfl,G,a1,a2,a3,a4,a5,a6⟩;obtain⟨A,c,hG,b1,b2,b3,b4⟩:=a2;obtain⟨l,hl⟩:∃l,R.s=l:=⟨_,rfl⟩;obtain⟨er,wW⟩:∃er,R.e=er:=⟨_,rfl⟩;obtain⟨k,hk⟩:∃k,l.length=k:=⟨_,rfl⟩;rw[hl]at b1 b3 hG a5 eG;rw[hk]at b1 b3 hG a5;rw[wW]at eG ⊢
 have o3:ag F w w3:=(ag.ai (S:=F) vZ.o).aN a3 (λg hg hl=>(az.1 hg).elim id (λhg=>by have:=HZ.o;simp at hg;omega));have hG3:∀g∈G,w.heap.size<=g:=λg hg=>(a4 g hg).elim (λh=>by have:=HZ.o;simp at h;omega) (λh=>ay vZ.o.size h);have Jb:=o3.size
 by_cases he:er=0
 .subst he;have jX:ph l R.q []=RR:=by have:=eG.o;rw[if_neg (by simp)]at this;exact this
  have eG:=xh jX;have H3:=xh (show TQ w3 tb I F R.q n (K+513)/\aK w3 111 3 (.slice A k c) k (aH l)/\ag F w w3/\(∀g∈tb::F,g∉ah (.slice A k c))/\(∀g∈ah (.slice A k c),w.heap.size<=g)/\k<=57*513 from
   ⟨a1,b3,o3,λg hg hm=>a6 g hg (by rw[hG];simp[hm]),λg hg=>hG3 g (by rw[hG];simp[hg]),a5⟩)
  have x1:=b1.ab (i:=0) rfl;have hlen:=H3.o.2.2.2.2.2;have PY:=xh hk;clear hk a1 a3 a4 a5 a6 b1 b2 b3 b4 o3 hG3 jX hl wW;go_wp2_with fail
  go_loopw [12,27] (λov iv wr=> ∃(i:Nat) (qi:QS) (out:List PR),i<=k/\iv=.int .i64 (i:Nat)/\aK wr 42 2 ov i (iu out)/\Hid (ph (l.drop i) qi out=RR/\out.length=i)/\Hid (TQ wr tb I F qi n (K+513+5*i)/\aK wr 111 3 (.slice A k c) k (aH l)/\ag F w wr/\(∀g∈ah ov,w.heap.size<=g/\g∉ah (.slice A k c)))) (λ_ iv _=>k-(intOf iv).toNat)
  case atStart=>exact⟨0,R.q,[],by omega,rfl,aK.nil _ _ _,xh ⟨eG.o,rfl⟩,xh ⟨H3.o.1,H3.o.2.1,H3.o.2.2.1,by simp[ah]⟩⟩
  case round=>
   obtain⟨i,qi,out,hi,rfl,S1,HV,HA⟩:=hrel;obtain⟨VA,vc,rfl⟩:=ao S1
   by_cases xe:i<k
   .have hikI:(i:Int)<(k:Int):=by omega
    obtain⟨x,hx⟩:∃x,l[i]?=some x:=⟨_,aT (by rw[PY.o];exact xe)⟩;obtain⟨ga,ca,wB,Az,BA,hca1,hca2⟩:=HA.o.2.1.form (by omega) (by omega);have SE:=(Nd.aK.aH HA.o.2.1).2;obtain⟨ad,vu,fN⟩:=SE.2 i x hx;injection Az with e1 e2 e3
    subst e1 e3;injection vu with vu
    subst vu;rw[Nd.eP,bh]at fN;have xc0:=fN.c0;have xc1:=fN.c1;have xc2:=fN.c2;dsimp only at xc0 xc1 xc2;have hgal:=BA.lt;obtain⟨zr,hzr⟩:∃zr,wr.heap.size=zr:=⟨_,rfl⟩;have B0:=aE.new wr 111 #[.string .empty,.string .empty,.int .i64 0];have D1:=aE.new wr 111 #[.string x.key,.string x.val,.int .i64 x.aU];have eM:=ae (Below.refl wr.heap.size wr) (.cells #[.string x.key,.string x.val,.int .i64 x.aU] 111);rw[hzr]at B0 D1;have y0:=B0.ab (i:=0) rfl
    have y1:=B0.ab (i:=1) rfl;have y2:=B0.ab (i:=2) rfl;have f0:=B0.frozen 0 (by simp);have f1:=B0.frozen 1 (by simp);have f2:=B0.frozen 2 (by simp);have KX:=xh (KV.o (wr.alloc (.cells #[.string x.key,.string x.val,.int .i64 x.aU] 111)) qi (K+513+5*i) (HA.o.1.below eM) (by omega) x);have v0:=D1.ab (i:=0) rfl;have v1:=D1.ab (i:=1) rfl;have v2:=D1.ab (i:=2) rfl;have D1:=xh D1;have H4:=xh eM;have HX:=xh hx;have HZR:=xh hzr
    clear eM B0 BA SE fN hx hca2;obtain⟨RV,hRV⟩:∃RV,qi.fE x=RV:=⟨_,rfl⟩;rw[hRV]at KX;have Gb:l.drop i=x::l.drop (i+1):=by rw[<-List.getElem_cons_drop (h:=by rw[PY.o];exact xe)];congr 1;have:=HX.o;rw[aT (by rw[PY.o];exact xe)]at this;injection this
    have ud:=HV.o.1;rw[Gb]at ud;unfold ph at ud;rw[hRV]at ud;have Uf:=xh ud;have HRV:=xh hRV;clear ud Gb hRV;unfold E.agg at *;go_wp2_with fail;refine KX.o.mono ?_;rintro e w5 ⟨rfl,p1,p2⟩;have hzF:∀g∈F,g<w.heap.size:=λg hg=>sO.o g (bz _ hg);have hwz:w.heap.size<=zr:=by rw[<-HZR.o];exact HA.o.2.2.1.size
    have o45:ag F w w5:=(HA.o.2.2.1.trans (ag.ai H4.o)).trans p2;have D5:=D1.o.only p2 (λhm=>by have:=hzF _ hm;omega);have v0:=D5.ab (i:=0) rfl;obtain⟨q5,b5,e5⟩:=RV;dsimp only at *
    by_cases Ku:e5=0
    .subst Ku;have h9:=Uf.o;rw[if_neg (by simp)]at h9;have hov:∀g∈ah (.slice VA i vc),w.heap.size<=g:=λg hg=>(HA.o.2.2.2 g hg).1;have S5:=(S1.below H4.o).only p2 (λg hg hm=>by have:=hov g hg;have:=hzF g hm;omega);have E5:=(HA.o.2.1.below H4.o).only p2 (λg hg hm=>H3.o.2.2.2.1 g (bz _ hm) hg);obtain⟨v',w7,ea,S7,ow,fa⟩:=vJ S5 x.key b5 (by omega)
     have T7:TQ w7 tb I F q5 n (K+513+5*(i+1)):=(((HA.o.1.below H4.o).next p2 p1).only ow (λg hg hm=>by have:=hov g hm;have:=sO.o g hg;omega)).le (by omega);have E7:=E5.only ow (λg hg hm=>(HA.o.2.2.2 g hm).2 hg);have hwr5:wr.heap.size<=w5.heap.size:=ay H4.o.size p2.size;have hel:∀g∈ah (.slice (some ⟨ga,0,none⟩) k c),g<wr.heap.size:=HA.o.2.1.lt
     have H7:=xh (show TQ w7 tb I F q5 n (K+513+5*(i+1))/\aK w7 111 3 (.slice (some ⟨ga,0,none⟩) k c) k (aH l)/\ag F w w7/\(∀g∈ah v',w.heap.size<=g/\g∉ah (.slice (some ⟨ga,0,none⟩) k c))from
      ⟨T7,E7,o45.aN ow (λg hg dV=>by have:=hov g hg;omega),λg hg=>(fa g hg).elim (HA.o.2.2.2 g) (λh=>⟨by have:=o45.size;omega,λhm=>by have:=hel g hm;omega⟩)⟩)
     obtain⟨V7,c7,rfl⟩:=ao S7;have hpr:iu out++[Value.string x.key,Value.string b5]=iu (out++[(x.key,b5)]):=by rw[ri];rfl
     rw[hpr]at S7;have H9:=xh (And.intro S7 (And.intro h9 (show(out++[(x.key,b5)]).length=i+1 by rw[aQ,HV.o.2];rfl)));have EA:=xh ea;clear ea S7 ow fa T7 E7 hwr5 hel h9 hpr S5 E5 hov p1 o45 p2 D5 hzF hwz;go_wp2_with fail;rw[EA.o];go_wp2_with fail;go_roundw
     case rel=>exact⟨i+1,q5,out++[(x.key,b5)],by omega,by first|rfl|simp,H9.o.1,xh H9.o.2,H7⟩
     case measure=>simp[intOf];omega
    .have h9:=Uf.o;rw[if_pos Ku]at h9;have hq:(e5 != 0)=true:=by rw[bne_iff_ne];exact Ku
     have ki:(e5==0)=false:=by rw[beq_eq_false_iff_ne];exact Ku
     have H9:=xh (And.intro h9 (And.intro p1 o45));clear h9 p1 o45 p2 D5 hzF hwz;go_wp2_with fail;go_ret2;obtain⟨h9,h10,J9⟩:=H9.o;subst h9;exact⟨.slice none 0 0,by first|rfl|simp,aK.nil _ _ _,h10.le (by omega),J9,by simp[ah]⟩
   .have hikI:¬(i:Int)<(k:Int):=by omega
    have Nf:l.drop i=[]:=j8 (by rw[PY.o];omega);have h9:=HV.o.1;rw[Nf]at h9;have HV9:=xh h9;have HO:=xh HV.o.2;have S1:=xh S1;clear h9 Nf;go_wp2_with fail;go_ret2;have h9:=HV9.o;subst h9;exact⟨_,by first|rfl|simp[ph],by show aK _ _ 2 _ out.length _;rw[HO.o];exact S1.o,HA.o.1.2.le (by omega),HA.o.2.2.1,λg hg=>by have:=(HA.o.2.2.2 g hg).1;first|exact this|(have:=HZ.o;omega)⟩
 .have jX:(R.q,([]:List PR),er)=RR:=by have:=eG.o;rw[if_pos he]at this;exact this
  have hq:(er != 0)=true:=by rw[bne_iff_ne];exact he
  have ki:(er==0)=false:=by rw[beq_eq_false_iff_ne];exact he
  have H3:=xh (And.intro a1 o3);have eG:=xh jX;clear a1 a3 a4 a5 a6 b1 b2 b3 b4 o3 hG3 jX hl wW;go_wp2_with fail;go_ret2;have h9:=eG.o;subst h9;exact⟨.slice none 0 0,by first|rfl|simp,aK.nil _ _ _,H3.o.1.2.le (by omega),H3.o.2,by simp[ah]⟩
variable{w:World}{g tb n K:Nat}{a b:ByteArray}{I:Ix}{F:List Nat}
def prV(x:PR):Value:= .agg #[.string x.1,.string x.2]
theorem nN{fn:Func}{p u:Tmp}{tmps:Array Value}(h:fn.results= #[.cell p 42,.tmp u])(hp:tmps.getD p undef=.pointer (some ⟨g,0,none⟩))(B:aE w g 42 #[.string a,.string b]):
  (results fn tmps).run prog w=.ok (.tuple #[prV (a,b),tmps.getD u undef]) w:=by
 have c0:=B.ab (i:=0) rfl;have c1:=B.ab (i:=1) rfl;rw[results_cell_tmp h,hp];clear h hp B;unfold prV;go_simp
theorem iU{a' b':ByteArray}(B:aE w g 42 #[.string a,.string b]):
  aE ((w.setCell ⟨g,0,none⟩ (.string a')).setCell ⟨g,1,none⟩ (.string b')) g 42 #[.string a',.string b']/\ag [g] w ((w.setCell ⟨g,0,none⟩ (.string a')).setCell ⟨g,1,none⟩ (.string b'))/\
   w.cell? ⟨g,0,none⟩=some (.string a)/\w.cell? ⟨g,1,none⟩=some (.string b)/\w.frozen? ⟨g,0,none⟩=false/\w.frozen? ⟨g,1,none⟩=false:=
 ⟨(B.bG 0 _).bG 1 _,((ag.refl _ _).setCell (by simp) _).setCell (by simp) _,B.ab rfl,B.ab rfl,B.frozen 0 (by simp),B.frozen 1 (by simp)⟩
def QS.il(q:QS)(fr til:ByteArray):QS×PR×Int:=
 if(q.dY jb fr til none).e≠0 then((q.dY jb fr til none).q,(⟨#[]⟩,⟨#[]⟩),(q.dY jb fr til none).e)
 else match (q.dY jb fr til none).s with
  |none=>((q.dY jb fr til none).q,(⟨#[]⟩,⟨#[]⟩),9)
  |some x=>if((q.dY jb fr til none).q.fE x).2.2≠0 then(((q.dY jb fr til none).q.fE x).1,(⟨#[]⟩,⟨#[]⟩),((q.dY jb fr til none).q.fE x).2.2)
   else(((q.dY jb fr til none).q.fE x).1,(x.key,((q.dY jb fr til none).q.fE x).2.1),0)
theorem Pj{q:QS}(h:TQ w tb I F q n K)(hK:K<=999999000000)(fr til:ByteArray):
  Calls prog 21 #[tp tb,.string fr,.string til] w λe w'=>e=.returned (.tuple #[prV (q.il fr til).2.1,.int .i64 (q.il fr til).2.2])/\PQ w' I F (q.il fr til).1 n (K+600)/\ag F w w':=by
 have hmf:∀(fn:Fn) (first cap:Array Value) (w:World),(Instr.makeFunc fn first cap).run prog w=.ok (.func fn first cap) w:=λ_ _ _ _=>rfl;obtain⟨z,hz⟩:∃z,w.heap.size=z:=⟨_,rfl⟩;have W0:=Below.refl w.heap.size w;obtain⟨w1,jJ⟩:∃w1,w.alloc (.cells #[.string ⟨#[]⟩,.string ⟨#[]⟩] 42)=w1:=⟨_,rfl⟩;have s1:w1.heap.size=z+1:=by rw[<-jJ,eJ,hz]
 have Hf:aE w1 z 42 #[.string ⟨#[]⟩,.string ⟨#[]⟩]:=by rw[<-jJ,<-hz];exact aE.new _ _ _
 have W1:=au W0 (ae (Below.refl w.heap.size w) (.cells #[.string ⟨#[]⟩,.string ⟨#[]⟩] 42));rw[jJ]at W1;obtain⟨w2,xH⟩:∃w2,w1.alloc (.cells #[.string ⟨#[]⟩,.string ⟨#[]⟩,.int .i64 0] 111)=w2:=⟨_,rfl⟩;have s2:w2.heap.size=z+1+1:=by rw[<-xH,eJ,s1]
 have Hg:aE w2 (z+1) 111 #[.string ⟨#[]⟩,.string ⟨#[]⟩,.int .i64 0]:=by rw[<-xH,<-s1];exact aE.new _ _ _
 have zX:=Hf.alloc (.cells #[.string ⟨#[]⟩,.string ⟨#[]⟩,.int .i64 0] 111);rw[xH]at zX;have W2:=au W1 (ae (Below.refl w1.heap.size w1) (.cells #[.string ⟨#[]⟩,.string ⟨#[]⟩,.int .i64 0] 111));rw[xH]at W2;obtain⟨w3,Jb⟩:∃w3,w2.alloc (.cells #[.bool false] 4)=w3:=⟨_,rfl⟩;have s3:w3.heap.size=z+1+1+1:=by rw[<-Jb,eJ,s2]
 have Kq:aE w3 (z+1+1) 4 #[.bool false]:=by rw[<-Jb,<-s2];exact aE.new _ _ _
 have Kr:=zX.alloc (.cells #[.bool false] 4);rw[Jb]at Kr;have vH:=Hg.alloc (.cells #[.bool false] 4);rw[Jb]at vH;have W3:=au W2 (ae (Below.refl w2.heap.size w2) (.cells #[.bool false] 4));rw[Jb]at W3;have y0:=vH.ab (i:=0) rfl;have y1:=vH.ab (i:=1) rfl;have y2:=vH.ab (i:=2) rfl;have y3:=Kq.ab (i:=0) rfl;have f0:=vH.frozen 0 (by simp);have f1:=vH.frozen 1 (by simp);have f2:=vH.frozen 2 (by simp)
 have f3:=Kq.frozen 0 (by simp);have hI:zY (z+1) (z+1+1) w3 none [z+1,z+1+1]:=⟨rfl,vH,Kq,by omega⟩;have dV:=h.lt;have KE:=vG (Ue (z+1) (z+1+1)) (h.below W3) (by omega) fr til hI (λg hg hm=>by have:=dV g hg;simp at hm;omega) rfl;have KV:=xh (λ(W:World) (qj:QS) (kj:Nat) (hW:TQ W tb I F qj n kj) (hk:kj<=999999999900) (x:E)=>ss hW hk x);have C0:=xh Kr;obtain⟨RR,bC⟩:∃RR,q.il fr til=RR:=⟨_,rfl⟩;rw[bC];unfold QS.il at bC
 obtain⟨R,hR⟩:∃R,q.dY jb fr til none=R:=⟨_,rfl⟩;rw[hR]at KE bC;have eG:=xh bC;clear bC;have KE:=xh KE;have HW3:=xh W3;have HZ:=xh hz;have sO:=xh dV;have HNE:=xh h.ne;clear Hf Hg zX Kr vH Kq W0 W1 W2 W3 s1 s2 s3 hI dV h hR;subst jJ xH Jb;unfold lp at KE;unfold tp at *;go_enter func21,ntmps21;go_wp2_with fail;refine KE.o.mono ?_;rintro e w4 ⟨rfl,G,a1,a2,a3,a4,a5,a6⟩;obtain⟨rfl,b1,b2,b3⟩:=a2;obtain⟨s,hs⟩:∃s,R.s=s:=⟨_,rfl⟩
 obtain⟨er,wW⟩:∃er,R.e=er:=⟨_,rfl⟩;obtain⟨qr,hqr⟩:∃qr,R.q=qr:=⟨_,rfl⟩;rw[hs]at b1 b2;rw[hqr]at a1;have jX:=eG.o;rw[wW,hs,hqr]at jX;rw[wW];have hzF:∀g∈F,g<z:=λg hg=>by have:=sO.o g (bz _ hg);have:=HZ.o;omega
 have o4:ag F w w4:=(ag.ai (S:=F) HW3.o).aN a3 (λg hg hl=>(az.1 hg).elim id (λhg=>by have:=HZ.o;simp at hg;omega));have C4:=C0.o.only a3 (λhm=>(az.1 hm).elim (λhm=>by have:=hzF z hm;omega) (λhm=>by simp at hm<;>omega));have HZF:=xh hzF;clear hs hqr a3 a4 a5 a6 hzF y0 y1 y2 y3 f0 f1 f2 f3
 by_cases he:er=0
 .subst he;rw[if_neg (by simp)]at jX
  cases s with
  |none=>
   dsimp only at jX;have eG:=xh jX;clear jX;have x2:=b2.ab (i:=0) rfl;obtain⟨B2,o2,k0,k1,z0,z1⟩:=iU (a':=⟨#[]⟩) (b':=⟨#[]⟩) C4;have H2:=xh (And.intro B2 (And.intro o2 (And.intro a1 o4)));clear B2 o2 a1 o4 b1 b2 b3 C4 wW;go_wp2_with fail;have h9:=eG.o;subst h9
   exact bodyPost_ret (nN rfl rfl H2.o.1) rfl ⟨rfl,(H2.o.2.2.1.2.aU H2.o.2.1 (λhm=>by have:=HZF.o z hm;omega)).le (by omega),H2.o.2.2.2.aN H2.o.2.1 (λg hg hl=>by have:=HZ.o;simp at hg;omega)⟩
  |some x=>
   dsimp only at jX;have x2:=b2.ab (i:=0) rfl;have xa:=b1.ab (i:=0) rfl;have xb:=b1.ab (i:=1) rfl;have xc:=b1.ab (i:=2) rfl;have KX:=KV.o w4 qr (K+513) a1 (by omega) x;obtain⟨RV,hRV⟩:∃RV,qr.fE x=RV:=⟨_,rfl⟩;rw[hRV]at KX jX;have KX:=xh KX;have H4:=xh (And.intro o4 (And.intro b1 (And.intro b2 C4)));clear b1 b2 b3 C4 wW o4 hRV a1;unfold E.agg at *;unfold optE at *;go_wp2_with fail;refine KX.o.mono ?_;rintro e w5 ⟨rfl,p1,p2⟩
   have o5:=H4.o.1.trans p2;have hn1:z+1∉F:=λhm=>by have:=HZF.o _ hm;omega
   have hn0:z∉F:=λhm=>by have:=HZF.o _ hm;omega
   have D1:=H4.o.2.1.only p2 hn1;have C5:=H4.o.2.2.2.only p2 hn0;have xk:=D1.ab (i:=0) rfl;obtain⟨q5,b5,e5⟩:=RV;dsimp only at *
   by_cases Ku:e5=0
   .subst Ku;rw[if_neg (by simp)]at jX;have eG:=xh jX;clear jX;obtain⟨B2,o2,k0,k1,z0,z1⟩:=iU (a':=x.key) (b':=b5) C5;have H2:=xh (And.intro B2 (And.intro o2 (And.intro p1 o5)));clear B2 o2 p1 p2 o5 D1 C5;go_wp2_with fail;have h9:=eG.o;subst h9;exact bodyPost_ret (nN rfl rfl H2.o.1) rfl ⟨rfl,(H2.o.2.2.1.aU H2.o.2.1 hn0).le (by omega),H2.o.2.2.2.aN H2.o.2.1 (λg hg hl=>by have:=HZ.o;simp at hg;omega)⟩
   .rw[if_pos Ku]at jX;have eG:=xh jX;clear jX;have hq:(e5 != 0)=true:=by rw[bne_iff_ne];exact Ku
    have ki:(e5==0)=false:=by rw[beq_eq_false_iff_ne];exact Ku
    obtain⟨B2,o2,k0,k1,z0,z1⟩:=iU (a':=⟨#[]⟩) (b':=⟨#[]⟩) C5;have H2:=xh (And.intro B2 (And.intro o2 (And.intro p1 o5)));clear B2 o2 p1 p2 o5 D1 C5;go_wp2_with fail;have h9:=eG.o;subst h9;exact bodyPost_ret (nN rfl rfl H2.o.1) rfl ⟨rfl,(H2.o.2.2.1.aU H2.o.2.1 hn0).le (by omega),H2.o.2.2.2.aN H2.o.2.1 (λg hg hl=>by have:=HZ.o;simp at hg;omega)⟩
 .rw[if_pos he]at jX;have eG:=xh jX;clear jX;have hq:(er != 0)=true:=by rw[bne_iff_ne];exact he
  have ki:(er==0)=false:=by rw[beq_eq_false_iff_ne];exact he
  obtain⟨B2,o2,k0,k1,z0,z1⟩:=iU (a':=⟨#[]⟩) (b':=⟨#[]⟩) C4;have H2:=xh (And.intro B2 (And.intro o2 (And.intro a1 o4)));clear B2 o2 a1 o4 b1 b2 b3 C4 wW;go_wp2_with fail;have h9:=eG.o;subst h9;exact bodyPost_ret (nN rfl rfl H2.o.1) rfl ⟨rfl,(H2.o.2.2.1.2.aU H2.o.2.1 (λhm=>by have:=HZF.o z hm;omega)).le (by omega),H2.o.2.2.2.aN H2.o.2.1 (λg hg hl=>by have:=HZ.o;simp at hg;omega)⟩
def mT:List ByteArray->QS->QS×Int
 |[],q=>(q,0)
 |k::l,q=>if(q.jo k).2≠0 then((q.jo k).1,(q.jo k).2)else mT l (q.jo k).1
def QS.gW(q:QS)(fr til:ByteArray):QS×Int×Int:=
 if(q.dY fP fr til []).e≠0 then((q.dY fP fr til []).q,0,(q.dY fP fr til []).e)
 else if(mT (q.dY fP fr til []).s (q.dY fP fr til []).q).2≠0 then((mT (q.dY fP fr til []).s (q.dY fP fr til []).q).1,0,(mT (q.dY fP fr til []).s (q.dY fP fr til []).q).2)
 else((mT (q.dY fP fr til []).s (q.dY fP fr til []).q).1,((q.dY fP fr til []).s.length:Nat),0)
theorem Kv{q:QS}(h:TQ w tb I F q n K)(hK:K<=999900000000)(fr til:ByteArray):
  Calls prog 22 #[tp tb,.string fr,.string til] w λe w'=>e=.returned (.tuple #[.int .i64 (q.gW fr til).2.1,.int .i64 (q.gW fr til).2.2])/\PT w w' I F (q.gW fr til).1 n (K+30000000):=by
 have hmf:∀(fn:Fn) (first cap:Array Value) (w:World),(Instr.makeFunc fn first cap).run prog w=.ok (.func fn first cap) w:=λ_ _ _ _=>rfl;obtain⟨z,hz⟩:∃z,w.heap.size=z:=⟨_,rfl⟩;have aJ:=ae (Below.refl w.heap.size w) (.cells #[.slice none 0 0] 123);have c0:=aE.new w 123 #[.slice none 0 0];rw[hz]at c0;have hI:qe z (w.alloc (.cells #[.slice none 0 0] 123)) [] [z]:=⟨none,0,rfl,c0,aK.nil _ _ _⟩;have dV:=h.lt
 have KE:=vG (Pf z) (h.below aJ) (by omega) fr til hI (λg hg hm=>by have:=dV g hg;simp at hm;omega) rfl;have KD:=xh (λ(W:World) (Fj:List Nat) (qj:QS) (kj:Nat) (hW:TQ W tb I Fj qj n kj) (hk:kj<=999999970000) (key:ByteArray)=>GM hW hk key);obtain⟨RR,bC⟩:∃RR,q.gW fr til=RR:=⟨_,rfl⟩;rw[bC];unfold QS.gW at bC;obtain⟨R,hR⟩:∃R,q.dY fP fr til []=R:=⟨_,rfl⟩;rw[hR]at KE bC;have eG:=xh bC;have KE:=xh KE;have FF:=xh aJ
 have HZ:=xh hz;have sO:=xh dV;have HNE:=xh h.ne;clear bC aJ hI dV h hR c0;unfold lp at KE;unfold tp at *;go_enter func22,ntmps22;go_wp2_with fail;refine KE.o.mono ?_;rintro e w3 ⟨rfl,G,a1,a2,a3,a4,a5,a6⟩;obtain⟨A,c,hG,b1,b3⟩:=a2;obtain⟨l,hl⟩:∃l,R.s=l:=⟨_,rfl⟩;obtain⟨er,wW⟩:∃er,R.e=er:=⟨_,rfl⟩;obtain⟨qr,hqr⟩:∃qr,R.q=qr:=⟨_,rfl⟩;obtain⟨k,hk⟩:∃k,l.length=k:=⟨_,rfl⟩;rw[hl]at b1 b3 hG a5;rw[hk]at b1 b3 hG a5;rw[hqr]at a1;have jX:=eG.o
 rw[hl,wW,hqr]at jX;rw[wW];have o3:ag F w w3:=(ag.ai (S:=F) FF.o).aN a3 (λg hg hl=>(az.1 hg).elim id (λhg=>by have:=HZ.o;simp at hg;omega));have hG3:∀g∈G,w.heap.size<=g:=λg hg=>(a4 g hg).elim (λh=>by have:=HZ.o;simp at h;omega) (λh=>ay FF.o.size h)
 by_cases he:er=0
 .subst he;rw[if_neg (by simp)]at jX;have eG:=xh jX;have H3:=xh (show TQ w3 tb I F qr n (K+513)/\aK w3 9 1 (.slice A k c) k (ER l)/\ag F w w3/\(∀g∈tb::F,g∉z::ah (.slice A k c))/\aE w3 z 123 #[.slice A k c]/\k<=57*513 from
   ⟨a1,b3,o3,λg hg hm=>a6 g hg (by rw[hG];exact hm),b1,a5⟩)
  have x1:=b1.ab (i:=0) rfl;have hlen:=H3.o.2.2.2.2.2;have PY:=xh hk;have xd:w.heap.size<=w3.heap.size:=o3.size;have hob:OB w.heap.size w w3 F F:=⟨F,o3,λg hg=> .inl hg,λg hg=> .inl hg⟩;have HOB:=xh hob;obtain⟨DD,hDD⟩:∃DD,mT l qr=DD:=⟨_,rfl⟩;rw[hDD]at jX;have eG:=xh jX;have HDD:=xh hDD;clear jX hDD hk a1 a3 a4 a5 a6 b1 b3 o3 hG3 hl wW hqr hob;go_wp2_with fail
  go_loopw [26] (λiv wr=> ∃(i:Nat) (qi:QS) (Fi:List Nat),i<=k/\iv=.int .i64 (i:Nat)/\Hid (mT (l.drop i) qi=DD)/\Hid (TQ wr tb I Fi qi n (K+513+700*i)/\aK wr 9 1 (.slice A k c) k (ER l)/\aE wr z 123 #[.slice A k c]/\(∀g∈tb::Fi,g∉z::ah (.slice A k c))/\OB w.heap.size w wr F Fi)) (λiv _=>k-(intOf iv).toNat)
  case atStart=>exact⟨0,qr,F,by omega,rfl,HDD,xh ⟨H3.o.1,H3.o.2.1,H3.o.2.2.2.2.1,H3.o.2.2.2.1,HOB.o⟩⟩
  case round=>
   obtain⟨i,qi,Fi,hi,rfl,HV,HA⟩:=hrel
   by_cases xe:i<k
   .have hikI:(i:Int)<(k:Int):=by omega
    obtain⟨x,hx⟩:∃x,l[i]?=some x:=⟨_,aT (by rw[PY.o];exact xe)⟩;obtain⟨ga,ca,wB,Az,BA,hca1,hca2⟩:=HA.o.2.1.form (by omega) (by omega);injection Az with e1 e2 e3
    subst e1 e3;have xc:wr.cell? ⟨ga,i,none⟩=some (.string x):=BA.ab (by
     rw[cM,bD (by simp[ER];rw[PY.o];exact xe)];simp[ER,hx])
    have Gb:l.drop i=x::l.drop (i+1):=by rw[<-List.getElem_cons_drop (h:=by rw[PY.o];exact xe)];congr 1;have:=hx;rw[aT (by rw[PY.o];exact xe)]at this;injection this
    have ud:=HV.o;rw[Gb]at ud;unfold mT at ud;have KX:=KD.o wr Fi qi (K+513+700*i) HA.o.1 (by omega) x;obtain⟨RV,hRV⟩:∃RV,qi.jo x=RV:=⟨_,rfl⟩;rw[hRV]at KX ud;have KX:=xh KX;have Uf:=xh ud;clear hx ud Gb hRV BA hca2;go_wp2_with fail;refine KX.o.mono ?_;rintro e w5 ⟨rfl,F5,p1,p2,p3⟩;have PU:=p2.size;have hFd:∀g∈Fi,g∉z::ah (.slice (some ⟨ga,0,none⟩) k c):=λg hg=>HA.o.2.2.2.1 g (bz _ hg)
    have S5:=HA.o.2.1.only p2 (λg hg hm=>hFd g hm (bz _ hg));have C5:=HA.o.2.2.1.only p2 (λhm=>hFd z hm (by simp));have hel:∀g∈z::ah (.slice (some ⟨ga,0,none⟩) k c),g<wr.heap.size:=λg hg=>by
     rcases ar.1 hg with rfl|hg
     .exact HA.o.2.2.1.lt
     .exact HA.o.2.1.lt g hg
    obtain⟨q5,e5⟩:=RV;dsimp only at *;have H5:=xh (show TQ w5 tb I F5 q5 n (K+513+700*(i+1))/\aK w5 9 1 (.slice (some ⟨ga,0,none⟩) k c) k (ER l)/\aE w5 z 123 #[.slice (some ⟨ga,0,none⟩) k c]/\(∀g∈tb::F5,g∉z::ah (.slice (some ⟨ga,0,none⟩) k c))/\OB w.heap.size w w5 F F5 from
     ⟨⟨HA.o.1.1.only p2 HA.o.1.ne,p1.le (by omega)⟩,S5,C5,λg hg hm=>by
      rcases ar.1 hg with rfl|hg
      .exact HA.o.2.2.2.1 _ (by simp) hm
      .rcases p3 g hg with h1|h1
       .exact hFd g h1 hm
       .have:=hel g hm;omega,HA.o.2.2.2.2.step (aj _) p2 p3⟩)
    clear p1 p2 p3 PU hFd S5 C5 hel
    by_cases Ku:e5=0
    .subst Ku;have h9:=Uf.o;rw[if_neg (by simp)]at h9;have HV9:=xh h9;clear h9;go_wp2_with fail;go_roundw
     case rel=>exact⟨i+1,q5,F5,by omega,by first|rfl|simp,HV9,H5⟩
     case measure=>simp[intOf];omega
    .have h9:=Uf.o;rw[if_pos Ku]at h9;have h8:=eG.o;rw[<-h9,if_pos Ku]at h8;have hq:(e5 != 0)=true:=by rw[bne_iff_ne];exact Ku
     have ki:(e5==0)=false:=by rw[beq_eq_false_iff_ne];exact Ku
     have HV9:=xh h8;clear h9 h8;go_wp2_with fail;go_ret2;have h9:=HV9.o;subst h9;exact aC ((H5.o.2.2.2.2.pb (H5.o.1.2.le (by omega))).pt (by first|exact aj _|(have:=HZ.o;omega)))
   .have hikI:¬(i:Int)<(k:Int):=by omega
    have Nf:l.drop i=[]:=j8 (by rw[PY.o];omega);have h9:=HV.o;rw[Nf]at h9;have h8:=eG.o;rw[<-h9]at h8;have h8:(qi,((l.length:Nat):Int),(0:Int))=RR:=by unfold mT at h8;rw[if_neg (by simp)]at h8;exact h8
    have x1:=HA.o.2.2.1.ab (i:=0) rfl;have HV9:=xh h8;clear h9 Nf h8;go_wp2_with fail;go_ret2;have h9:=HV9.o;subst h9;exact⟨by rw[PY.o];first|rfl|simp,(HA.o.2.2.2.2.pb (HA.o.1.2.le (by omega))).pt (by first|exact aj _|(have:=HZ.o;omega))⟩
 .rw[if_pos he]at jX;have hq:(er != 0)=true:=by rw[bne_iff_ne];exact he
  have ki:(er==0)=false:=by rw[beq_eq_false_iff_ne];exact he
  have H3:=xh (And.intro a1 o3);have eG:=xh jX;clear jX hk a1 a3 a4 a5 a6 b1 b3 o3 hG3 hl wW hqr;go_wp2_with fail;go_ret2;have h9:=eG.o;subst h9;exact aC ⟨F,H3.o.1.2.le (by omega),H3.o.2,λg hg=> .inl hg⟩
end Sh
namespace Sh
open Go.RowKit Pk Dk Pg
open Nd (E aV aZ dD bH bf cd bJ an dg)
variable{q:QS}{v:Vw}{u H:Nat}{M:List MT}
def jZ(fr til:ByteArray)(x:PR):Bool:=wL fr til x.1
theorem CF(n:Int):∀(l s:List E),(eY (mr n) l s).1=s++l.take (n-(s.length:Nat)).toNat
 |[],s=>by simp[eY]
 |x::l,s=>by
  unfold eY mr
  by_cases h:(s.length:Int)<n
  .rw[if_pos h];obtain⟨k,hk⟩:∃k:Nat,(n-(s.length:Nat)).toNat=k+1:=⟨(n-(s.length:Nat)).toNat-1,by omega⟩;have hl:((s++[x]).length:Int)=s.length+1:=by simp
   rw[hk,mJ]
   by_cases h2:((s++[x]).length:Int)<n
   .rw[decide_eq_true h2,if_pos rfl];dsimp only;have:=CF n l (s++[x]);unfold mr at this;rw[this,show(n-((s++[x]).length:Nat)).toNat=k by omega];simp
   .rw[decide_eq_false h2,if_neg (by simp)];have:k=0:=by omega
    subst this;simp
  .rw[if_neg h,decide_eq_false h,if_neg (by simp),show(n-(s.length:Nat)).toNat=0 by omega];simp
theorem CG:∀(l:List E) (s:Option E),(eY jb l s).1=match l.getLast? with|none=>s|some x=>some x
 |[],s=>rfl
 |[x],s=>by simp[eY,jb]
 |x::y::l,s=>by
  have h:eY jb (x::y::l) s=eY jb (y::l) (some x):=by simp[eY,jb]
  rw[h,CG (y::l) (some x),List.getLast?_cons_cons]
  cases h2:(y::l).getLast? with
  |none=>simp at h2
  |some z=>rfl
theorem Ab:∀(l:List E) (s:List ByteArray),(eY fP l s).1=s++l.map (λe=>e.key)
 |[],s=>by simp[eY]
 |x::l,s=>by
  have h:eY fP (x::l) s=eY fP l (s++[x.key]):=by simp[eY,fP]
  rw[h,Ab l (s++[x.key])];simp
def inM(fr til:ByteArray)(M:List MT):List MT:=M.filter λm=>wL fr til m.1.key
theorem Ug(fr til:ByteArray)(M:List MT):sQ fr til (M.map λm=>m.1)=(inM fr til M).map λm=>m.1:=by
 unfold sQ inM;rw[List.filter_map];rfl
theorem Uh(fr til:ByteArray)(M:List MT):iR (inM fr til M)=(iR M).filter (jZ fr til):=by
 unfold iR inM;rw[List.filter_map];rfl
section
variable{o:Vw}{mm:Nat}
theorem CH:∀(Ms:List MT) (q:QS) (v:Vw) (u:Nat) (out:List PR),Rd q v o u mm->(∀m∈Ms,Qd v m.1 m.2.1 m.2.2)->
  Rd (ph (Ms.map λm=>m.1) q out).1 v o u mm/\((ph (Ms.map λm=>m.1) q out).2=(out++iR Ms,0)\/((ph (Ms.map λm=>m.1) q out).2.2=11/\mm<=u))
 |[],q,v,u,out,R,_=>⟨R,.inl (by simp[ph])⟩
 |m::Ms,q,v,u,out,R,h=>by
  obtain⟨g1,g2⟩:=sJ R (h m (by simp));rw[eh];unfold ph
  rcases g2 with g2|⟨g2,g3⟩
  .rw[g2,if_neg (by simp)];obtain⟨a,b⟩:=CH Ms (q.fE m.1).1 v u (out++[(m.1.key,m.2.1)]) g1 (λx hx=>h x (by simp[hx]));refine⟨a,b.imp (λe=>?_) id⟩;rw[e,G7];simp
  .rw[if_pos (by rw[g2];simp)];exact⟨g1,.inr ⟨g2,g3⟩⟩
theorem Tree.le(R:Rd q v o u mm)(T:Tree v H M):(aI v H 0).length<=512:=by
 have:=Ua R (eA.1 T.G4).1 T.CB;simpa [bw]using this
theorem Pm(R:Rd q v o u mm)(T:Tree v H M)(hH:H<=15)(fr til:ByteArray)(n:Int):
  Rd (q.iF fr til n).1 v o u mm/\(((q.iF fr til n).2.2=11/\mm<=u)\/(q.iF fr til n).2=(((iR M).filter (jZ fr til)).take n.toNat,0)):=by
 obtain⟨a,b⟩:=vF (mr n) fr til R T.ok hH (T.le R) [];unfold QS.iF
 rcases b with⟨b1,b2⟩|⟨b1,b2⟩
 .rw[if_pos (by rw[b1];simp)];exact⟨a,.inl ⟨b1,b2⟩⟩
 .rw[if_neg (by rw[b1];simp),b2,CF,<-T.en,Ug,cX,<-mH];obtain⟨c,d⟩:=CH ((inM fr til M).take (n-(([]:List E).length:Nat)).toNat) _ v u [] a (λm hm=>T.va m ((dS.1 (sV hm)).1));refine⟨c,d.symm.imp id (λe=>?_)⟩;rw[e,cX,<-Uh];unfold iR;rw[mH,show(n-(([]:List E).length:Nat)).toNat=n.toNat by simp]
theorem Pn(R:Rd q v o u mm)(T:Tree v H M)(hH:H<=15)(fr til:ByteArray):
  Rd (q.il fr til).1 v o u mm/\(((q.il fr til).2.2=11/\mm<=u)\/(q.il fr til).2=match ((iR M).filter (jZ fr til)).getLast? with|none=>((⟨#[]⟩,⟨#[]⟩),9)|some x=>(x,0)):=by
 obtain⟨a,b⟩:=vF jb fr til R T.ok hH (T.le R) none;unfold QS.il
 rcases b with⟨b1,b2⟩|⟨b1,b2⟩
 .rw[if_pos (by rw[b1];simp)];exact⟨a,.inl ⟨b1,b2⟩⟩
 .rw[if_neg (by rw[b1];simp),b2,CG,<-T.en,Ug,<-Uh];unfold iR;rw[IC,IC]
  cases hl:(inM fr til M).getLast? with
  |none=>exact⟨a,.inr rfl⟩
  |some m=>
   have hm:m∈M:=(dS.1 (List.mem_of_getLast? hl)).1;dsimp only[Option.map];obtain⟨c,d⟩:=sJ a (T.va m hm)
   rcases d with d|⟨d,d2⟩
   .rw[d,if_neg (by simp)];exact⟨c,.inr rfl⟩
   .rw[if_pos (by rw[d];simp)];exact⟨c,.inl ⟨d,d2⟩⟩
theorem Tree.sorted :∀(h:Nat) (p:Int),lT v h p->(fZ v h p).Pairwise λc e=>eL c.key e.key
 |0,p,ho=>by rw[EH];exact oN ho.1
 |h+1,p,ho=>by
  rw[EH];show(bV (bl v h (ik v p).2.1)).Pairwise _;have d:=ho.2.2.2;have key:∀(l:List E),(∀e∈l,lT v h e.aU)->(l.Pairwise λc e=> ∀x∈fZ v h c.aU,eL x.key e.key)->(∀e∈l.tail,∀x∈fZ v h e.aU,nc e.key x.key)->(bV (bl v h l)).Pairwise λc e=>eL c.key e.key:=by
   intro l
   induction l with
   |nil=>intro _ _ _;exact List.Pairwise.nil
   |cons e l ih=>
    intro h1 h2 h3;rw[dJ]at h2;rw[fF,dK,dI];refine⟨Tree.sorted h e.aU (h1 e (by simp)),ih (λx hx=>h1 x (by simp[hx])) h2.2 (λx hx=>h3 x (sU hx)),λx hx y hy=>?_⟩;obtain⟨z,hz,hy⟩:=dm.1 hy;exact fV (h2.1 z hz x hx) (h3 z hz y hy)
  exact key _ (λe he=>(d.c e he).1) d.lo d.hi
theorem Tree.keys(T:Tree v H M):(iR M).Pairwise λa b=>eL a.1 b.1:=by
 have h:=Tree.sorted H 0 T.ok;rw[<-T.en,sX]at h;unfold iR;rw[sX];exact h
structure ClrP(v v':Vw)(H:Nat)(M:List MT)(H':Nat)(M':List MT)(P:PR->Bool):Prop where
 t:Tree v' H' M'
 m:iR M'=(iR M).filter P
 Cy:∀wt,ef wt (aI v' H' 0)<=ef wt (aI v H 0)
 h:H'<=H
theorem CI:∀(ks:List ByteArray) (q:QS) (v:Vw) (u H:Nat) (M:List MT),Rd q v o u mm->Tree v H M->H<=15->ks.Nodup->(∀k∈ks,∃x∈iR M,x.1=k)->
  ((mT ks q).2=11/\mm<=u/\∃v',Rd (mT ks q).1 v' o u mm)\/
  ((mT ks q).2=0/\∃v' H' M',Rd (mT ks q).1 v' o u mm/\ClrP v v' H M H' M' λx=>ks.all λk=> !decide (x.1=k))
 |[],q,v,u,H,M,R,T,_,_,_=> .inr ⟨rfl,v,H,M,R,T,(ur.2 (λ_ _=>rfl)).symm,λ_=>aj _,aj _⟩
 |k::ks,q,v,u,H,M,R,T,hH,hn,hk=>by
  rw[iL]at hn;unfold mT
  rcases Hb R T hH k with⟨d1,d2,v',d3⟩|⟨d1,d2,A,B,d3⟩|⟨d1,v1,H1,M1,A,B,y,d2,d3⟩
  .rw[if_pos (by rw[d1];simp)];exact .inl ⟨d1,d2,v',d3⟩
  .exfalso;obtain⟨x,hx,rfl⟩:=hk k (by simp);rw[d3.e,cX]at hx
   rcases az.1 hx with hx|hx
   .exact fI (d3.a x hx)
   .exact fI (d3.b x hx)
  .rw[if_neg (by rw[d1];simp)];have hA:∀x∈A,x.1≠k:=λx hx e=>fI (by have:=d3.d.a x hx;rwa [e]at this);have hB:∀x∈B,x.1≠k:=λx hx e=>fI (by have:=d3.d.b x hx;rwa [e]at this);have hf:iR M1=(iR M).filter λx=> !decide (x.1=k):=by
    rw[d3.m,d3.d.e,rP,rP];have e1:A.filter (λx=> !decide (x.1=k))=A:=ur.2 λx hx=>by rw[decide_eq_false (hA x hx)];rfl
    have e2:B.filter (λx=> !decide (x.1=k))=B:=ur.2 λx hx=>by rw[decide_eq_false (hB x hx)];rfl
    rw[e1,e2];simp
   rcases CI ks (q.jo k).1 v1 u H1 M1 d2 d3.t (by have:=d3.h;omega) hn.2 (λk' hk'=>by
    obtain⟨x,hx,e⟩:=hk k' (by simp[hk']);refine⟨x,?_,e⟩;rw[hf,dS];exact⟨hx,by rw[decide_eq_false (λe2=>hn.1 (by rw[<-e2,e];exact hk'))];rfl⟩)with i|⟨i1,v',H',M',i2,CC⟩
   .exact .inl i
   .refine .inr ⟨i1,v',H',M',i2,CC.t,?_,λwt=>ay (CC.Cy wt) (d3.Cy wt),ay CC.h d3.h⟩;rw[CC.m,hf,mV]
    congr 1
    funext x
    rw[List.all_cons,Bh]
theorem Kw(R:Rd q v o u mm)(T:Tree v H M)(hH:H<=15)(fr til:ByteArray):
  ((q.gW fr til).2.2=11/\mm<=u/\∃v',Rd (q.gW fr til).1 v' o u mm)\/
  ((q.gW fr til).2=(((((iR M).filter (jZ fr til)).length:Nat):Int),0)/\∃v' H' M',Rd (q.gW fr til).1 v' o u mm/\ClrP v v' H M H' M' λx=> !jZ fr til x):=by
 obtain⟨a,b⟩:=vF fP fr til R T.ok hH (T.le R) [];unfold QS.gW
 rcases b with⟨b1,b2⟩|⟨b1,b2⟩
 .rw[if_pos (by rw[b1];simp)];exact .inl ⟨b1,b2,v,a⟩
 .rw[if_neg (by rw[b1];simp),b2,Ab,<-T.en,Ug,cX,jf];have hks:(inM fr til M).map ((λe:E=>e.key) ∘ λm=>m.1)=((iR M).filter (jZ fr til)).map Prod.fst:=by
   rw[<-Uh];unfold iR;rw[jf];rfl
  rw[hks];have uM:((iR M).filter (jZ fr til)).Pairwise λa b=>eL a.1 b.1:=T.keys.sublist Da;have AF:(((iR M).filter (jZ fr til)).map Prod.fst).Nodup:=by
   rw[Dg,sX];exact uM.imp (λ{a b} h (e:a.1=b.1)=>fI (a:=b.1) (by rw[e]at h;exact h))
  rcases CI _ _ v u H M a T hH AF (λk hk=>by
   obtain⟨x,hx,rfl⟩:=cg.1 hk;exact⟨x,(dS.1 hx).1,rfl⟩)with⟨i1,i2,i3⟩|⟨i1,v',H',M',i2,CC⟩
  .rw[if_pos (by rw[i1];simp)];exact .inl ⟨i1,i2,i3⟩
  .rw[if_neg (by rw[i1];simp)];refine .inr ⟨by rw[fM],v',H',M',i2,CC.t,?_,CC.Cy,CC.h⟩;rw[CC.m];apply List.filter_congr;intro x hx;have hi:(jZ fr til x=true)↔x.1∈((iR M).filter (jZ fr til)).map Prod.fst:=by
    refine⟨λh=>cg.2 ⟨x,dS.2 ⟨hx,h⟩,rfl⟩,λhm=>?_⟩;obtain⟨y,hy,e⟩:=cg.1 hm;have:=(dS.1 hy).2;unfold jZ at this ⊢;rw[<-e];exact this
   by_cases hb:jZ fr til x=true
   .rw[hb];have hm:=hi.1 hb;show _=false;rw[<-CT,nV];intro h;have:=h _ hm;rw[decide_eq_true rfl]at this;exact absurd this (by simp)
   .have bS:jZ fr til x=false:=by simpa using hb
    rw[bS];show _=true;rw[nV];intro k hk;rw[decide_eq_false (λe=>hb (hi.2 (by rw[e];exact hk)))];rfl
end
section
variable{q:QS}{v o:Vw}{u m:Nat}
end
variable{q:QS}{v:Vw}{u H:Nat}{M:List MT}
def px(l:List PR)(key:ByteArray):List PR:=l.filter λx=>decide (eL x.1 key)
def ng(l:List PR)(key:ByteArray):List PR:=l.filter λx=>decide (x.1=key)
def jD(l:List PR)(key:ByteArray):List PR:=l.filter λx=>decide (eL key x.1)
theorem filter_all{α:Type}{p:α->Bool}{l:List α}(h:∀x∈l,p x=true):l.filter p=l:=ur.2 h
theorem filter_none{α:Type}{p:α->Bool}{l:List α}(h:∀x∈l,p x=false):l.filter p=[]:=Iy.2 λx hx=>by rw[h x hx];simp
theorem kt{a b:ByteArray}(h:eL a b):a≠b:=λe=>fI (by rwa [e]at h)
theorem Ko.parts{l:List PR}{key:ByteArray}{A C B:List PR}(d:Ko l key A C B):A=px l key/\C=ng l key/\B=jD l key:=by
 have hC:∀x∈C,x.1=key:=λx hx=>by
  rcases d.c with h|⟨y,h⟩
  .rw[h]at hx;simp at hx
  .rw[h]at hx;rw[aP.1 hx]
 unfold px ng jD;rw[d.e];simp only[rP];refine⟨?_,?_,?_⟩
 .rw[filter_all (l:=A) (λx hx=>decide_eq_true (d.a x hx)),filter_none (l:=C) (λx hx=>decide_eq_false (λh=>kt h (hC x hx))),filter_none (l:=B) (λx hx=>decide_eq_false (λh=>fI (ev h (d.b x hx))))];simp
 .rw[filter_none (l:=A) (λx hx=>decide_eq_false (kt (d.a x hx))),filter_all (l:=C) (λx hx=>decide_eq_true (hC x hx)),filter_none (l:=B) (λx hx=>decide_eq_false (λh=>kt (d.b x hx) h.symm))];simp
 .rw[filter_none (l:=A) (λx hx=>decide_eq_false (λh=>fI (ev h (d.a x hx)))),filter_none (l:=C) (λx hx=>decide_eq_false (λh=>kt h (hC x hx).symm)),filter_all (l:=B) (λx hx=>decide_eq_true (d.b x hx))];simp
def nO(l:List PR)(key value:ByteArray):List PR:=px l key++(key,value)::jD l key
def rJ(l:List PR)(key:ByteArray):List PR:=px l key++jD l key
theorem wt1:Kk (λ_=>1) 34:=λ_=>by show 39*1+34<=73*1;omega
section
variable{o:Vw}{mm:Nat}
theorem vK(R:Rd q v o u mm)(T:Tree v H M)(hH:H<=15)(key value:ByteArray)(hk:key.size<=32)(hv:value.size<=1024):
  ((q.fQ key value).2=11/\∃v' u',Rd (q.fQ key value).1 v' o u' mm/\u'<=u+H+8/\(mm<=u'\/512<=u'))\/
  ((q.fQ key value).2=0/\∃v' H' M' new A C B h c,Rd (q.fQ key value).1 v' o (u+new) mm/\SetP v v' H M key value H' M' new A C B h c/\iR M'=nO (iR M) key value):=by
 refine(TX R T hH key value hk hv).imp id ?_;rintro⟨h1,v',H',M',new,A,C,B,h,c,h2,h3⟩;obtain⟨d1,d2,d3⟩:=h3.d.parts;exact⟨h1,v',H',M',new,A,C,B,h,c,h2,h3,by rw[h3.m,d1,d3];rfl⟩
theorem oO(R:Rd q v o u mm)(T:Tree v H M)(hH:H<=15)(key:ByteArray):
  Rd (q.eQ key).1 v o u mm/\(((q.eQ key).2.2=11/\mm<=u)\/(q.eQ key).2=G8 (ng (iR M) key)):=by
 obtain⟨a,b⟩:=TU R T hH key;refine⟨a,b.imp id ?_⟩;rintro⟨A,C,B,d,e⟩;rw[e,d.parts.2.1]
theorem Po(R:Rd q v o u mm)(T:Tree v H M)(hH:H<=15)(key:ByteArray):
  ((q.jo key).2=11/\mm<=u/\∃v',Rd (q.jo key).1 v' o u mm)\/
  ((q.jo key).2=9/\Rd (q.jo key).1 v o u mm/\ng (iR M) key=[])\/
  ((q.jo key).2=0/\ng (iR M) key≠[]/\∃v' H' M',Rd (q.jo key).1 v' o u mm/\Tree v' H' M'/\iR M'=rJ (iR M) key/\(∀wt,ef wt (aI v' H' 0)<=ef wt (aI v H 0))/\H'<=H):=by
 refine(Hb R T hH key).imp id (Or.imp ?_ ?_)
 .rintro⟨a,b,A,B,d⟩;exact⟨a,b,d.parts.2.1.symm⟩
 .rintro⟨a,v',H',M',A,B,y,b,d⟩;obtain⟨d1,d2,d3⟩:=d.d.parts;exact⟨a,by rw[<-d2];simp,v',H',M',b,d.t,by rw[d.m,d1,d3];rfl,d.Cy,d.h⟩
end
end Sh
end Go.Proofs.YtmonobkginiajaaGreat
