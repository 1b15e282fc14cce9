/- packed. -/
import Derived.Test.YtmonobkginiajaaGreatQ28
import Derived.Test.YtmonobkginiajaaGreatQ26
import Derived.Test.YtmonobkginiajaaGreatQ25
import Derived.Test.YtmonobkginiajaaGreatQ9
import Derived.Test.YtmonobkginiajaaGreatQ8
import Derived.Test.YtmonobkginiajaaGreatQ11
import Derived.Laws.StructEq
set_option linter.all false
set_option maxRecDepth 100000
set_option maxHeartbeats 8000000
namespace Go.Proofs.YtmonobkginiajaaGreat.Sh
open Go.RowKit Pk Dk Pg
open Nd (E aF aJ cM bg aK bI bj ai cE)
structure vu (v v':Vw) (H H':Nat) (ns:List NT) (gone:List Int):Prop where
 ok:jX v' H' 0
 en:eU v' H' 0=bt ns
 pg:(aU (az v' H' 0)++gone).Perm (aU ns)
 del: ∀j∈gone,(v' j).2≠0
 out: ∀j,j∉aU ns→v' j=v j
 IU: ∀wt,dr wt (az v' H' 0)≤dr wt ns
 h:H'≤H
theorem mC {v:Vw} {h:Nat} {l:List E} (k:l≠[]→eu v h l) (hb:ai (blank (decide (h=0)) l)≤223):(aY (decide (h=0)) l).2=0:=by
 by_cases hl:l=[]
 ·subst hl
  rcases kJ (decide (h=0)) [] with h1 | h1 | h1
  ·exact h1.2.2.1
  ·have h2:=h1.2.1;rw [kL] at h2;exact absurd h2 (by simp [ai])
  ·refine absurd ?_ h1.1;rw [kL];intro i hi;exact absurd hi (by simp)
 ·exact pS (k hl) hb
section
variable {o:Vw} {mm:Nat}
theorem rh {v v':Vw} {h:Nat} {l:List E} (k:l≠[]→eu v h l) (hb:ai (blank (decide (h=0)) l)≤223) (hh:l≠[]∨h=0) (hd:fV v' 0=(decide (h=0),blank (decide (h=0)) l,0)) (hv: ∀j,j≠0→v' j=v j) (hn:(0::aU (bJ v h l)).Nodup):
  vu v v' h h ((h,0,l)::bJ v h l) []:=by
 have ok:eu v h l:=by
  by_cases hl:l=[]
  ·rcases hh with hh | hh
   ·exact absurd hl hh
   ·subst hl hh;exact ⟨by simp,List.Pairwise.nil⟩
  ·exact k hl
 obtain ⟨p1,p2,p3⟩:=vh (v:=v) (v':=v') (h:=h) (x:=⟨0,decide (h=0),l,0⟩) (up:=[]) rfl ok (fun h=>absurd rfl h) (fun _ _=>trivial) (by simpa [cC,bM] using hn) hb hd hv;have p1:jX v' h 0:=p1;have p2:az v' h 0=(h,0,blank (decide (h=0)) l)::(bJ v h l++[]):=p2;rw [List.append_nil] at p2;have p3:eU v' h 0=_:=p3;refine ⟨p1,?_,?_,by simp,fun j hj=>hv j (fun e=>hj (by simp [e])),fun wt=>?_,Nat.le_refl _⟩
 ·rw [p3];unfold cu; simp only [ct,bK,cC,bM];simp
 ·rw [p2]; simp
 ·rw [p2,dm,dm];dsimp only;have:wt h*(ai (blank (decide (h=0)) l)-151)≤wt h*(ai l-151):=Nat.mul_le_mul_left _ (by have:=cH (decide (h=0)) l; omega);omega
theorem vv: ∀(h m:Nat) (l:List E) (q:QS) (v:Vw) (u:Nat),h<m→Rd q v o u mm→(v 0).2=0→(l≠[]→eu v h l)→ai (blank (decide (h=0)) l)≤223→(0::aU (bJ v h l)).Nodup→
  ((kl m q (decide (h=0)) l).2=11∧mm≤u∧ ∃v',Rd (kl m q (decide (h=0)) l).1 v' o u mm)∨
  ((kl m q (decide (h=0)) l).2=0∧ ∃v' H' gone,Rd (kl m q (decide (h=0)) l).1 v' o u mm∧vu v v' h H' ((h,0,l)::bJ v h l) gone)
 | h,0,_,_,_,_,hm,_,_,_,_,_=>absurd hm (by omega)
 | h,m+1,l,q,v,u,hm,R,h0,k,hb,hn=>by
  unfold kl
  by_cases hs:decide (h=0)=false∧l.length=1
  ·rw [if_pos hs];obtain ⟨h',rfl⟩: ∃h',h=h'+1:=⟨h-1,by have:=hs.1; simp at this; omega⟩;obtain ⟨c,rfl⟩: ∃c,l=[c]:=by
    match l,hs.2 with
    | [c],_=>exact ⟨c,rfl⟩
   have ok:=k (by simp);have hc:=ok.2.c c (by simp);obtain ⟨d1,d2,d3⟩:=FA hc.1;have hget:[c].getD 0 Nd.E.zero=c:=rfl;rw [hget];obtain ⟨r1,r2⟩:=R.read c.aH
   rcases r2 with r2 | ⟨r2,r3⟩
   ·rw [r2,d1,if_neg (by simp)];have hhere:(v c.aH).2=0:=jT (by rw [d1]);obtain ⟨e1,e2⟩:=r1.drop c.aH hhere;rw [if_neg (by rw [e1]; simp)];dsimp only;have rQ:bJ v (h'+1) [c]=(h',c.aH,(fV v c.aH).2.1)::bJ v h' (fV v c.aH).2.1:=by
     show az v h' c.aH++[]=_;rw [List.append_nil,m9]
    rw [rQ,cr] at hn;have hn':=List.nodup_cons.1 hn;have I0:=List.nodup_cons.1 hn'.2;have hcne:(0:Int)≠c.aH:=fun e=>hn'.1 (by show (0:Int)∈_; rw [e]; simp);have hvd: ∀j,j≠c.aH→yU v c.aH j=v j:=fun j hj=>yV v hj;obtain ⟨g1,g2,g3⟩:=iF (v:=v) (v':=yU v c.aH) (h:=h') (l:=(fV v c.aH).2.1) (fun j hj=>hvd j (fun e=>I0.1 (show c.aH∈aU (bJ v h' (fV v c.aH).2.1) from e▸hj)))
    rcases vv h' m (fV v c.aH).2.1 _ _ u (by omega) e2 (by rw [hvd 0 hcne]; exact h0) (fun _=>g3 d3) (Nat.le_trans (cH _ _) d2) (by rw [g1]; exact List.nodup_cons.2 ⟨fun hm=>hn'.1 (List.mem_cons_of_mem _ hm),I0.2⟩) with ⟨i1,i2,i3⟩ | ⟨i1,v',H',gone,i2,S⟩
    ·exact .inl ⟨i1,i2,i3⟩
    ·refine .inr ⟨i1,v',H',c.aH::gone,i2,S.ok,?_,?_,fun j hj=>?_,fun j hj=>?_,fun wt=>?_,by have:=S.h; omega⟩
     ·rw [S.en,g1,rQ,iD,ou,ou]
     ·rw [rQ,cr,cr];have:=S.pg;rw [g1,cr] at this;refine (List.perm_middle.trans (this.cons _)).trans ?_;exact List.Perm.swap _ _ _
     ·rcases List.mem_cons.1 hj with rfl | hj
      ·rw [S.out c.aH (by rw [g1,cr]; intro hm; rcases List.mem_cons.1 hm with hm | hm; exact hcne hm.symm; exact I0.1 hm),xF];decide
      ·exact S.del j hj
     ·rw [rQ,cr,cr] at hj;simp only [List.mem_cons,not_or] at hj;rw [S.out j (by rw [g1,cr]; simp only [List.mem_cons,not_or]; exact ⟨hj.1,hj.2.2⟩)];exact hvd j hj.2.1
     ·have:=S.IU wt;rw [g1,dm] at this;rw [rQ,dm,dm];show _≤_+(wt h'*(ai (fV v c.aH).2.1-151)+_);have h3:dr wt (az v' H' 0)≤wt h'*(ai (fV v c.aH).2.1-151)+dr wt (bJ v h' (fV v c.aH).2.1):=this;omega
   ·rw [r2,if_pos (by simp)];exact .inl ⟨rfl,r3,v,r1⟩
  ·rw [if_neg hs]
   by_cases hl:l=[]
   ·subst hl;rw [if_pos rfl];have hk:bJ v h []=[]:=by cases h<;>rfl
    have mA:(aY true []).2=0:=mC (v:=v) (h:=0) (fun h=>absurd rfl h) (by rw [kL]; decide)
    rcases R.write h0 mA with ⟨w1,w2⟩ | ⟨w1,w2,w3⟩
    ·right;have S:=rh (v:=v) (v':=gK v 0 (aY true []).1) (h:=0) (l:=[]) (fun h=>absurd rfl h) (by rw [kL]; decide) (.inr rfl) (by rw [eP mA,if_pos rfl]; rfl) (fun j hj=>by unfold gK; rw [if_neg hj]) (by simp [bJ]);refine ⟨w1,_,0,[],w2,S.ok,?_,?_,by simp,fun j hj=>?_,fun wt=>?_,Nat.zero_le _⟩
     ·rw [S.en,hk]
      cases h<;>simp [bJ]
     ·rw [hk];exact S.pg
     ·rw [hk] at hj;exact S.out j hj
     ·have:=S.IU wt;rw [hk,dm];have e:dr wt ((0,0,[])::bJ v 0 [])=0:=by show wt 0*(0-151)+0=0; simp
      rw [e] at this;omega
    ·exact .inl ⟨w1,w3,v,w2⟩
   ·rw [if_neg hl];have mA:=mC k hb
    rcases R.write h0 mA with ⟨w1,w2⟩ | ⟨w1,w2,w3⟩
    ·exact .inr ⟨w1,_,h,[],w2,rh k hb (.inl hl) (by rw [eP mA,if_pos rfl]) (fun j hj=>by unfold gK; rw [if_neg hj]) hn⟩
    ·exact .inl ⟨w1,w3,v,w2⟩
structure FF (v:Vw) (h:Nat) (x:Step) (up:List Step):Prop where
 hole:lF v up h x.al
 leaf:x.leaf=decide (h=0)
 here:(v x.al).2=0
 ok:x.l≠[]→eu v h x.l
 Mz: ∀e∈eK v h x.l,yW up e.key
 Bu:(aU (dN v up h)++x.al::(aU (bJ v h x.l)++aU (cB v up h))).Nodup
 sz:ai x.l≤223
theorem It {v v1:Vw} {h:Nat} {x y:Step} {up:List Step} (P:FF v h x (y::up)) (hl:x.l=[]) (hv: ∀j,j≠x.al→v1 j=v j) (hd:(v1 x.al).2≠0):
  FF v1 (h+1) {y with l:=y.l.eraseIdx y.at_} up∧
  ∀{v':Vw} {H':Nat} {gone:List Int},vu v1 v' (h+1+up.length) H' (cu v1 (h+1) {y with l:=y.l.eraseIdx y.at_} up) gone→vu v v' (h+(y::up).length) H' (cu v h x (y::up)) (x.al::gone):=by
 obtain ⟨⟨a,c,b,f,hsib⟩,hU⟩:=P.hole;obtain ⟨t1,t2,t3⟩:=iK f;have hn:=P.Bu;rw [List.nodup_append,List.nodup_cons] at hn;obtain ⟨_,⟨na,_⟩,nb⟩:=hn;have ji: ∀j∈aU (dN v (y::up) h),v1 j=v j:=fun j hj=>hv j (fun e=>nb j hj x.al (by simp) e);have pT: ∀j∈aU (cB v (y::up) h),v1 j=v j:=fun j hj=>hv j (fun e=>na (by rw [←e]; exact List.mem_append_right _ hj));obtain ⟨H2,e1,e2⟩:=fc (y::up) h x.al P.hole ji pT;obtain ⟨⟨a',c',b',f2,ME⟩,hU2⟩:=H2
 have lY:a'=a∧c'=c∧b'=b:=by
  have q1:=(iK f2);exact ⟨by rw [←q1.1,t1],by rw [←q1.2.2,t3],by rw [←q1.2.1,t2]⟩
 obtain ⟨rfl,rfl,rfl⟩:=lY;have hera:y.l.eraseIdx y.at_=a'++b':=by rw [f.l,f.at_,rf]
 rw [hera];have q1:aR v1 h a'=aR v h a':=(eZ (fun j hj=>ji j (by simp only [ct,cC]; rw [t1,cq,cr]; exact List.mem_append_right _ (List.mem_cons_of_mem _ hj)))).1;have q2:aR v1 h b'=aR v h b':=(eZ (fun j hj=>pT j (by simp only [bK,bM]; rw [t2,cq]; exact List.mem_append_left _ hj))).1
 have hU3:=fc up (h+1) y.al hU (fun j hj=>ji j (by simp only [ct,cC]; rw [cq]; exact List.mem_append_left _ hj)) (fun j hj=>pT j (by simp only [bK,bM]; rw [cq]; exact List.mem_append_right _ hj));have vi:=hU3.2.1;have oA:=hU3.2.2;have mo:=jC (ly (v:=v) (p:=y.al) (by rw [f.nd]));rw [f.nd] at mo;have mo: ∀e∈a'++c'::b',cE e false:=by rw [←f.l]; exact mo
 have hby:=f.by_;rw [f.l,dk,di] at hby;have hkp:bJ v h []=[]:=by cases h<;>rfl
 have hold:aU (cu v h x (y::up))=aU (dN v up (h+1))++(y.al::aU (aR v h a'))++x.al::(aU (aR v h b')++aU (cB v up (h+1))):=by
  rw [dW,hl,hkp];simp only [ct,bK,cC,bM];rw [t1,t2];simp
 have Il:aU (cu v1 (h+1) {y with l:=a'++b'} up)=aU (dN v up (h+1))++y.al::((aU (aR v h a')++aU (aR v h b'))++aU (cB v up (h+1))):=by
  rw [dW];show aU (dN v1 up (h+1))++y.al::(aU (aR v1 h (a'++b'))++aU (cB v1 up (h+1)))=_;rw [eT,cq,q1,q2,vi,oA]
 have nH:(x.al::aU (cu v1 (h+1) {y with l:=a'++b'} up)).Perm (aU (cu v h x (y::up))):=by
  rw [Il,hold,List.perm_iff_count];intro j;simp only [List.count_append,List.count_cons];omega
 have Bw:=P.Bu;rw [←dW] at Bw;have hnod1:=nH.nodup_iff.2 Bw;have hnod:=(List.nodup_cons.1 hnod1);refine ⟨⟨hU2,?_,?_,fun eg=>⟨fun e he=>?_,?_⟩,fun e he=>?_,?_,?_⟩,fun {v' H' gone} S=>?_⟩
 ·show y.leaf=decide (h+1=0);rw [f.leaf]; rfl
 ·exact jT (by show (fV v1 y.al).2.2=0; rw [f2.nd])
 ·have he:e∈a'++b':=he;exact mo e (by rcases List.mem_append.1 he with h | h<;>simp [h])
 ·show ox (jX v1 h) (eU v1 h) (a'++b');refine ⟨eg,f2.ch,f2.lo,fun e he=>?_⟩
  cases ha':a' with
  | nil=>
   rw [ha'] at he;exact f2.hb e (List.mem_of_mem_tail he)
  | cons z a2=>
   have hha:=f2.ha;rw [ha'] at he hha;rw [List.cons_append,List.tail_cons] at he
   rcases List.mem_append.1 he with he | he
   ·exact hha e he
   ·exact f2.hb e he
 ·have he:e∈bt (aR v1 h (a'++b')):=he;obtain ⟨z,hz,hx⟩:=cW.1 he;exact ME z hz e hx
 ·rw [←dW]; exact hnod.2
 ·show ai (a'++b')≤223;rw [dk];omega
 ·have hHl:h+(y::up).length=h+1+up.length:=by simp; omega
  rw [hHl];refine ⟨S.ok,?_,?_,fun j hj=>?_,fun j hj=>?_,fun wt=>?_,S.h⟩
  ·rw [S.en,iG,iG];show bt (dN v1 up (h+1))++(bt (aR v1 h (a'++b'))++bt (cB v1 up (h+1)))=_;rw [eT,df,q1,q2,vi,oA,hl];simp only [ct,bK,cC,bM];rw [t1,t2];have:eK v h []=[]:=by cases h<;>rfl
   rw [this];simp
  ·refine (List.perm_middle.trans (S.pg.cons _)).trans nH
  ·rcases List.mem_cons.1 hj with rfl | hj
   ·rw [S.out _ hnod.1]; exact hd
   ·exact S.del j hj
  ·rw [S.out j (fun hm=>hj (nH.mem_iff.1 (List.mem_cons_of_mem _ hm)))];exact hv j (fun e=>hj (nH.mem_iff.1 (by rw [e]; simp)))
  ·have h1:=S.IU wt;have e3:dr wt (cu v1 (h+1) {y with l:=a'++b'} up)=dr wt (dN v up (h+1))+(wt (h+1)*(ai (a'++b')-151)+((dr wt (aR v h a')+dr wt (aR v h b'))+dr wt (cB v up (h+1)))):=by
    unfold cu;show dr wt (dN v1 up (h+1)++(h+1,y.al,a'++b')::(aR v1 h (a'++b')++cB v1 up (h+1)))=_;rw [eT,q1,q2,vi,oA];simp only [gE,dm]
   have e4:dr wt (cu v h x (y::up))=(dr wt (dN v up (h+1))+(wt (h+1)*(ai y.l-151)+dr wt (aR v h a')))+(wt h*(ai x.l-151)+(dr wt (aR v h b')+dr wt (cB v up (h+1)))):=by
    unfold cu; simp only [ct,bK,cC,bM];rw [t1,t2,hl,hkp];simp only [gE,dm,MD,List.nil_append]
   have m1:wt (h+1)*(ai (a'++b')-151)≤wt (h+1)*(ai y.l-151):=Nat.mul_le_mul_left _ (by rw [f.l,dk,dk,di]; omega);rw [e3] at h1;rw [e4];omega
theorem rU: ∀(up:List Step) (h:Nat) (x:Step) (q:QS) (v:Vw) (u:Nat),h+up.length≤15→Rd q v o u mm→FF v h x up→
  ((eO (x::up) q).2=11∧mm≤u∧ ∃v',Rd (eO (x::up) q).1 v' o u mm)∨
  ((eO (x::up) q).2=0∧ ∃v' H' gone,Rd (eO (x::up) q).1 v' o u mm∧vu v v' (h+up.length) H' (cu v h x up) gone)
 | [],h,x,q,v,u,hh,R,P=>by
  have vR:x.al=0:=P.hole;have hb:ai (blank (decide (h=0)) x.l)≤223:=Nat.le_trans (cH _ _) P.sz;have hn:(0::aU (bJ v h x.l)).Nodup:=by have:=P.Bu; rw [vR] at this; simpa [cC,bM] using this
  have hns:cu v h x []=(h,0,x.l)::bJ v h x.l:=by unfold cu; simp only [ct,bK,cC,bM]; rw [vR]; simp
  have h0:(v 0).2=0:=by have h1:=P.here; rw [vR] at h1; exact h1
  rw [rN,hns]
  by_cases nS:x.leaf=true
  ·rw [if_pos nS];have hz:h=0:=by rw [P.leaf] at nS; exact of_decide_eq_true nS
   subst hz;have mA:=mC (h:=0) P.ok hb;have mA:(aY x.leaf x.l).2=0:=by rw [nS]; exact mA
   rw [vR]
   rcases R.write h0 mA with ⟨w1,w2⟩ | ⟨w1,w2,w3⟩
   ·refine .inr ⟨w1,_,0,[],w2,rh P.ok hb (.inr rfl) ?_ (fun j hj=>by unfold gK; rw [if_neg hj]) hn⟩;rw [eP mA,if_pos rfl,nS];rfl
   ·exact .inl ⟨w1,w3,v,w2⟩
  ·rw [if_neg nS];unfold QS.oe;rw [P.leaf];have hlen:h+([]:List Step).length=h:=rfl;rw [hlen] at hh ⊢;exact vv h 600 x.l q v u (by omega) R h0 P.ok hb hn
 | y::up,h,x,q,v,u,hh,R,P=>by
  rw [rO]
  by_cases hl:x.l=[]
  ·rw [if_pos hl];obtain ⟨e1,e2⟩:=R.drop x.al P.here;rw [if_neg (by rw [e1]; simp)];obtain ⟨P2,hS⟩:=It (v1:=yU v x.al) P hl (fun j hj=>yV v hj) (by rw [xF]; decide)
   rcases rU up (h+1) {y with l:=y.l.eraseIdx y.at_} _ _ u (by simp at hh; omega) e2 P2 with i | ⟨i1,v',H',gone,i2,S⟩
   ·exact .inl i
   ·exact .inr ⟨i1,v',H',_,i2,hS S⟩
  ·rw [if_neg hl];have hb:ai (blank (decide (h=0)) x.l)≤223:=Nat.le_trans (cH _ _) P.sz;have mA:=mC P.ok hb;have hlay':(aY x.leaf x.l).2=0:=by rw [P.leaf]; exact mA
   rcases R.write P.here hlay' with ⟨w1,w2⟩ | ⟨w1,w2,w3⟩
   ·obtain ⟨p1,p2,p3⟩:=vh (v':=gK v x.al (aY x.leaf x.l).1) P.hole (P.ok hl) (fun _=>hl) P.Mz P.Bu hb (by rw [eP hlay',if_pos rfl,P.leaf]) (fun j hj=>by unfold gK; rw [if_neg hj]);refine .inr ⟨w1,_,h+(y::up).length,[],w2,p1,p3,?_,by simp,fun j hj=>?_,fun wt=>?_,Nat.le_refl _⟩
    ·rw [p2,dW]; simp
    ·unfold gK;rw [if_neg (fun e=>hj (by rw [dW,e]; simp))]
    ·rw [p2];unfold cu;simp only [gE,dm];have:wt h*(ai (blank (decide (h=0)) x.l)-151)≤wt h*(ai x.l-151):=Nat.mul_le_mul_left _ (by have:=cH (decide (h=0)) x.l; omega);omega
   ·exact .inl ⟨w1,w3,v,w2⟩
end
end Go.Proofs.YtmonobkginiajaaGreat.Sh
namespace Go.Proofs.YtmonobkginiajaaGreat.Sh
open Go.RowKit Pk Dk Pg
open Nd (E aF aJ cM bg aK bI bj ai cE)
structure DelP (v v':Vw) (H:Nat) (M:List MT) (key:ByteArray) (H':Nat) (M':List MT) (A B:List (ByteArray×ByteArray)) (y:ByteArray):Prop where
 t:Tree v' H' M'
 d:Et (kM M) key A [(key,y)] B
 m:kM M'=A++B
 IU: ∀wt,dr wt (az v' H' 0)≤dr wt (az v H 0)
 h:H'≤H
section
variable {o:Vw} {mm:Nat}
theorem MM {q:QS} {v:Vw} {u H:Nat} {M:List MT} (R:Rd q v o u mm) (T:Tree v H M) (hH:H≤15) (key:ByteArray):
  ((q.mu key).2=11∧mm≤u∧ ∃v',Rd (q.mu key).1 v' o u mm)∨
  ((q.mu key).2=9∧Rd (q.mu key).1 v o u mm∧ ∃A B,Et (kM M) key A [] B)∨
  ((q.mu key).2=0∧ ∃v' H' M' A B y,Rd (q.mu key).1 v' o u mm∧DelP v v' H M key H' M' A B y):=by
 obtain ⟨r1,r2⟩:=yX R T.ok hH key;unfold QS.mu
 rcases r2 with ⟨r2,r3⟩ | ⟨r2,up,x,r3,r4,W⟩
 ·rw [if_pos (by rw [r2]; simp)];exact .inl ⟨r2,r3,v,r1⟩
 rw [if_neg (by rw [r2]; simp),r3,vr,show (up.reverse++[x]).dropLast.reverse=up by simp];obtain ⟨p1,p2,p3,p4,p5⟩:=vg W;rw [r4] at p1 p2 p5;obtain ⟨M1,MC,M2,a,b,d⟩:=vq T W r4;have hdp:=d.MG
 rcases d.c with ⟨h1,h2⟩ | ⟨m,h1,hkk,h2⟩
 ·rw [if_pos h2];rw [h1] at hdp;exact .inr (.inl ⟨rfl,r1,_,_,hdp⟩)
 rw [if_neg (by rw [h2]; simp)];rw [h1] at hdp;have hdl:x.l=a++m.1::b:=by rw [d.l,h1]; rfl
 have hdm:M=M1++m::M2:=by rw [d.m,h1]; rfl
 have mB:aU (az v H 0)=aU (dN v up 0)++x.al::aU (cB v up 0):=by rw [p2,cq,cr]
 have Is:=dn.1 T.Bu;have haw:mr x.l key=a++b:=by
  unfold mr;rw [if_pos h2,d.n,hdl];exact rf a m.1 b
 have wO:=T.va m (by rw [hdm]; simp);have vT:(((q.dq key).1.iY x.l key).2=0∧Rd ((q.dq key).1.iY x.l key).1 (jV v m.2.2) o u mm)∨(((q.dq key).1.iY x.l key).2=11∧Rd ((q.dq key).1.iY x.l key).1 v o u mm∧mm≤u):=by
  unfold QS.iY;rw [if_pos h2];have hx:x.l.getD (aK x.l key) Nd.E.zero=m.1:=by rw [d.n,hdl]; simp [List.getD_eq_getElem?_getD]
  rw [hx];exact xK r1 wO
 rw [haw]
 rcases vT.symm with ⟨o1,o2,o3⟩ | ⟨o1,o2⟩
 ·rw [if_pos (by rw [o1]; simp)];exact .inl ⟨o1,o3,v,o2⟩
 rw [if_neg (by rw [o1]; simp)];have hMn:=Is.2.1;rw [hdm,ef,jW] at hMn;have yZ:=dn.1 hMn;have ML:=dn.1 yZ.2.1;have hmin: ∀j∈m.2.2,j∈lJ M:=fun j hj=>by rw [hdm,ef,jW]; simp [hj]
 have lz: ∀j,j∉m.2.2→jV v m.2.2 j=v j:=fun j hj=>if_neg hj;have hnd1: ∀j∈aU (az v H 0),jV v m.2.2 j=v j:=fun j hj=>lz j (fun hm=>Is.2.2 j hj (hmin j hm));obtain ⟨c1,c2,c3⟩:=fc (v':=jV v m.2.2) up 0 x.al W.hole (fun j hj=>hnd1 j (by rw [mB]; simp [hj])) (fun j hj=>hnd1 j (by rw [mB]; simp [hj]));have jY: ∀e∈a++b,e∈x.l:=fun e he=>by rw [hdl]; rcases List.mem_append.1 he with h | h<;>simp [h]
 have nI:=jC (ly (v:=v) (p:=x.al) (by rw [W.nd]));rw [W.nd] at nI;have nI: ∀e∈x.l,cE e true:=nI;have hbx:ai x.l≤223:=by have:=W.ok.2; rw [W.nd] at this; exact this
 have hpw:=nc W.nd;rw [hdl,List.pairwise_append,List.pairwise_cons] at hpw;have P:FF (jV v m.2.2) 0 ⟨x.al,x.leaf,a++b,x.at_⟩ up:=by
  refine ⟨c1,W.leaf,?_,fun _=>⟨fun e he=>nI e (jY e he),?_⟩,fun e he=>?_,?_,?_⟩
  ·show (jV v m.2.2 x.al).2=0;have nA:x.al∈aU (az v H 0):=by rw [mB]; simp
   rw [hnd1 _ nA]; exact T.xL _ nA
  ·show (a++b).Pairwise fun c e=>fW c.key e.key;rw [List.pairwise_append];exact ⟨hpw.1,hpw.2.1.2,fun e he e' rZ=>hpw.2.2 e he e' (List.mem_cons_of_mem _ rZ)⟩
  ·exact W.Mz e (jY e he)
  ·show (aU (dN (jV v m.2.2) up 0)++x.al::([]++aU (cB (jV v m.2.2) up 0))).Nodup;rw [c2,c3,List.nil_append,←mB];exact Is.1
  ·show ai (a++b)≤223;rw [hdl,dk,di] at hbx;rw [dk];omega
 have EP:cu (jV v m.2.2) 0 ⟨x.al,x.leaf,a++b,x.at_⟩ up=dN v up 0++(0,x.al,a++b)::cB v up 0:=by
  unfold cu;rw [c2,c3];rfl
 have MK:aU (cu (jV v m.2.2) 0 ⟨x.al,x.leaf,a++b,x.at_⟩ up)=aU (az v H 0):=by rw [EP,mB,cq,cr]
 rcases rU up 0 ⟨x.al,x.leaf,a++b,x.at_⟩ _ _ u (by omega) o2 P with i | ⟨i1,v2,H',gone,i2,S⟩
 ·exact .inl i
 refine .inr (.inr ⟨i1,v2,H',M1++M2,kM M1,kM M2,m.2.1,i2,?_⟩);have Bz: ∀j,j∈lJ M1∨j∈lJ M2→j∈lJ M∧j∉m.2.2:=fun j hj=>by
  refine ⟨by rw [hdm,ef,jW]; rcases hj with h | h<;>simp [h],fun hc=>?_⟩
  rcases hj with h | h
  ·exact yZ.2.2 j h (List.mem_append_left _ hc)
  ·exact ML.2.2 j hc h
 have hM3: ∀j,j∈lJ M1∨j∈lJ M2→v2 j=v j∧j∉aU (az v H 0):=fun j hj=>by
  obtain ⟨h3,h4⟩:=Bz j hj;have h5:j∉aU (az v H 0):=fun h=>Is.2.2 j h h3;exact ⟨by rw [S.out j (by rw [MK]; exact h5),lz j h4],h5⟩
 have hSn:(aU (az v2 H' 0)++gone).Nodup:=S.pg.nodup_iff.2 (by rw [MK]; exact Is.1);have hSin: ∀j,j∈aU (az v2 H' 0)→j∈aU (az v H 0):=fun j hj=>by rw [←MK]; exact S.pg.mem_iff.1 (List.mem_append_left _ hj)
 refine ⟨⟨S.ok,?_,fun z hz=>?_,?_,fun j hj=>?_⟩,?_,by rw [FE],fun wt=>?_,by have:=S.h; omega⟩
 ·rw [S.en,EP,List.map_append,d.m1,d.m2];simp
 ·rcases List.mem_append.1 hz with hz | hz
  ·exact (T.va z (by rw [hdm]; simp [hz])).congr (fun j hj=>(hM3 j (.inl (pU.2 ⟨z,hz,hj⟩))).1)
  ·exact (T.va z (by rw [hdm]; simp [hz])).congr (fun j hj=>(hM3 j (.inr (pU.2 ⟨z,hz,hj⟩))).1)
 ·rw [ef,dn];refine ⟨(dn.1 hSn).1,dn.2 ⟨yZ.1,ML.2.1,fun j hj hm=>yZ.2.2 j hj (List.mem_append_right _ hm)⟩,fun j hj hm=>?_⟩;exact (hM3 j (List.mem_append.1 hm)).2 (hSin j hj)
 ·rw [ef]
  by_cases h3:j∈aU (az v H 0)
  ·rw [←MK] at h3
   rcases List.mem_append.1 (S.pg.mem_iff.2 h3) with h4 | h4
   ·exact List.mem_append_left _ h4
   ·exact absurd hj (S.del j h4)
  ·rw [S.out j (by rw [MK]; exact h3)] at hj
   by_cases h4:j∈m.2.2
   ·unfold jV at hj;rw [if_pos h4] at hj;exact absurd hj (by simp)
   ·rw [lz j h4] at hj;have:=T.all j hj;rw [hdm,ef,jW] at this;simp only [List.mem_append] at this ⊢
    rcases this with h | h | h | h
    ·exact absurd h h3
    ·exact .inr (.inl h)
    ·exact absurd h h4
    ·exact .inr (.inr h)
 ·have e:((key,m.2.1):ByteArray×ByteArray)=(m.1.key,m.2.1):=by rw [hkk]
  rw [e];exact hdp
 ·have h5:=S.IU wt;rw [EP,gE,dm] at h5;rw [p2,gE,dm];dsimp only at h5 ⊢;have:wt 0*(ai (a++b)-151)≤wt 0*(ai x.l-151):=Nat.mul_le_mul_left _ (by rw [hdl,dk,dk,di]; omega);omega
end
end Go.Proofs.YtmonobkginiajaaGreat.Sh
namespace Go.Proofs.YtmonobkginiajaaGreat.Sh
open Go.RowKit Pk Dk Pg
open Nd (E aF aJ cM bg aK bI bj ai cE)
theorem bl_kc (a b:ByteArray):Op.bytesLess a.toList b.toList=decide (fW a b):=by
 rw [bZ,bZ,Nd.LF];rfl
theorem toL_nil (t:ByteArray):(t.toList==[])=decide (t.size=0):=by
 rw [bZ];have h:t.data.toList.length=t.size:=by simp
 cases hl:t.data.toList with
 | nil=>rw [hl] at h; rw [decide_eq_true (by rw [←h]; rfl)]; rfl
 | cons a l=>rw [hl] at h; rw [decide_eq_false (by rw [←h]; simp)]; rfl
def inR (fr aW key:ByteArray):Bool:=decide (mz fr key) && (decide (aW.size=0) || decide (fW key aW))
def fH {α σ:Type} (step:α→σ→σ×Bool):List α→σ→σ×Bool
 | [],s=>(s,true)
 | x::l,s=>if (step x s).2=true then fH step l (step x s).1 else ((step x s).1,false)
theorem ri {α σ:Type} (step:α→σ→σ×Bool): ∀(a b:List α) (s:σ),fH step (a++b) s=if (fH step a s).2=true then fH step b (fH step a s).1 else fH step a s
 | [],b,s=>rfl
 | x::a,b,s=>by
  show (if (step x s).2=true then fH step (a++b) (step x s).1 else ((step x s).1,false))=if (if (step x s).2=true then fH step a (step x s).1 else ((step x s).1,false)).2=true then _ else _
  by_cases h:(step x s).2=true
  ·rw [if_pos h,ri step a b];simp only [fH,if_pos h]
  ·rw [if_neg h,if_neg h,if_neg (by simp)];exact (if_neg h).symm
def oI (fr aW:ByteArray) (l:List E):List E:=l.filter fun e=>inR fr aW e.key
theorem sH (fr aW:ByteArray) (a b:List E):oI fr aW (a++b)=oI fr aW a++oI fr aW b:=List.filter_append ..
theorem FG {fr aW:ByteArray} {l:List E} (h: ∀e∈l,fW e.key fr):oI fr aW l=[]:=by
 unfold oI;rw [List.filter_eq_nil_iff];intro e he hx;unfold inR at hx;rw [Bool.and_eq_true,decide_eq_true_eq] at hx;exact q9 (h e he) hx.1
theorem vx {fr aW:ByteArray} {l:List E} (ht:aW.size≠0) (h: ∀e∈l,mz aW e.key):oI fr aW l=[]:=by
 unfold oI;rw [List.filter_eq_nil_iff];intro e he hx;unfold inR at hx;rw [Bool.and_eq_true,Bool.or_eq_true,decide_eq_true_eq,decide_eq_true_eq] at hx
 rcases hx.2 with h1 | h1
 ·exact ht h1
 ·exact q9 (of_decide_eq_true h1) (h e he)
structure WkOk {σ:Type} (step:E→σ→σ×Bool) (fr aW:ByteArray) (en:List E) (s:σ) (R:Wk σ):Prop where
 e:R.e=0
 f:R.s=(fH step (oI fr aW en) s).1
 y:R.more=true→(fH step (oI fr aW en) s).2=true
 n:R.more=false→(fH step (oI fr aW en) s).2=false∨(aW.size≠0∧ ∃y∈en,mz aW y.key)
section
variable {σ:Type} {o:Vw} {mm:Nat} {v:Vw} (step:E→σ→σ×Bool) (fr aW:ByteArray)
theorem Iu (i:Nat) (x:E):jR fr true 0 i x=decide (fW x.key fr):=by
 unfold jR;rw [bl_kc,decide_eq_false (Nat.not_lt_zero i)];simp
theorem FH (leaf:Bool) (i:Nat) (x:E):iZ aW leaf i x=(decide (aW.size≠0) && decide (mz aW x.key) && (leaf || decide (0<i))):=by
 unfold iZ;rw [toL_nil,bl_kc]
 congr 2
 ·simp
 ·have h1:(decide (fW x.key aW))= !decide (mz aW x.key):=by
   by_cases h:fW x.key aW
   ·rw [decide_eq_true h,decide_eq_false (fun k=>q9 h k)]; rfl
   ·rw [decide_eq_false h,decide_eq_true (oq h)]; rfl
  rw [h1,Bool.not_not]
theorem rj (rec:QS→Nat→σ→Int→Wk σ): ∀(l:List E) (i:Nat) (q:QS) (seen:Nat) (s:σ),(l.Pairwise fun c e=>fW c.key e.key)→
  (fG rec step fr aW true 0 i l q seen s).q=q∧(fG rec step fr aW true 0 i l q seen s).seen=seen∧WkOk step fr aW l s (fG rec step fr aW true 0 i l q seen s)
 | [],i,q,seen,s,_=>⟨rfl,rfl,rfl,rfl,fun _=>rfl,fun h=>absurd h (by simp [fG])⟩
 | x::l,i,q,seen,s,hp=>by
  rw [List.pairwise_cons] at hp;unfold fG;rw [Iu,FH]
  by_cases h1:fW x.key fr
  ·rw [decide_eq_true h1,if_pos rfl];obtain ⟨a,b,c⟩:=rj rec l (i+1) q seen s hp.2;have hf:oI fr aW (x::l)=oI fr aW l:=by
    rw [show x::l=[x]++l from rfl,sH,FG (l:=[x]) (by simp; exact h1)]; rfl
   exact ⟨a,b,c.e,by rw [hf]; exact c.f,by rw [hf]; exact c.y,fun h=>by rw [hf]; exact (c.n h).imp id (fun ⟨h2,y,hy,h3⟩=>⟨h2,y,by simp [hy],h3⟩)⟩
  ·rw [decide_eq_false h1,if_neg (by simp)]
   by_cases h2:aW.size≠0∧mz aW x.key
   ·rw [decide_eq_true h2.1,decide_eq_true h2.2,if_pos (by simp)];have hf:oI fr aW (x::l)=[]:=vx h2.1 (fun e he=>by
     rcases List.mem_cons.1 he with rfl | he
     ·exact h2.2
     ·exact oo (il h2.2 (hp.1 e he)))
    exact ⟨rfl,rfl,rfl,by rw [hf]; rfl,fun h=>absurd h (by simp),fun _=> .inr ⟨h2.1,x,by simp,h2.2⟩⟩
   ·rw [if_neg (by
     rw [Bool.and_eq_true,Bool.and_eq_true,decide_eq_true_eq,decide_eq_true_eq];exact fun h=>h2 h.1),if_pos rfl]
    have nA:inR fr aW x.key=true:=by
     unfold inR;rw [Bool.and_eq_true,Bool.or_eq_true,decide_eq_true_eq,decide_eq_true_eq,decide_eq_true_eq];refine ⟨oq h1,?_⟩
     by_cases h3:aW.size=0
     ·exact .inl h3
     ·right
      by_cases h4:fW x.key aW
      ·exact h4
      ·exact absurd ⟨h3,oq h4⟩ h2
    have hf:oI fr aW (x::l)=x::oI fr aW l:=by unfold oI; rw [List.filter_cons,if_pos nA]
    by_cases h3:(step x s).2=true
    ·rw [if_pos h3];obtain ⟨a,b,c⟩:=rj rec l (i+1) q seen (step x s).1 hp.2;have hs:fH step (x::oI fr aW l) s=fH step (oI fr aW l) (step x s).1:=if_pos h3;exact ⟨a,b,c.e,by rw [hf,hs]; exact c.f,by rw [hf,hs]; exact c.y,fun h=>by rw [hf,hs]; exact (c.n h).imp id (fun ⟨h2,y,hy,h3⟩=>⟨h2,y,by simp [hy],h3⟩)⟩
    ·rw [if_neg h3];have hs:fH step (x::oI fr aW l) s=((step x s).1,false):=if_neg h3;exact ⟨rfl,rfl,rfl,by rw [hf,hs],fun h=>absurd h (by simp),fun _=> .inl (by rw [hf,hs])⟩
def MN (v:Vw) (o:Vw) (mm u h m:Nat):Prop:=
 ∀(q:QS) (p:Int) (seen:Nat) (s:σ),Rd q v o u mm→jX v h p→seen+(az v h p).length≤512→
  Rd (eo step fr aW m q seen s p).q v o u mm∧(eo step fr aW m q seen s p).seen≤seen+(az v h p).length∧(((eo step fr aW m q seen s p).e=11∧mm≤u)∨WkOk step fr aW (eU v h p) s (eo step fr aW m q seen s p))
theorem FI {h m u:Nat} (IH:MN step fr aW v o mm u h m) (first:Nat): ∀(l:List E) (i:Nat) (q:QS) (seen:Nat) (s:σ),first≤i→Rd q v o u mm→(∀e∈l,jX v h e.aH∧eU v h e.aH≠[])→(l.Pairwise fun c e=> ∀x∈eU v h c.aH,fW x.key e.key)→(∀e∈l,∀x∈eU v h e.aH,(0<i∨e∈l.tail)→mz e.key x.key)→seen+(aR v h l).length≤512→
  Rd (fG (eo step fr aW m) step fr aW false first i l q seen s).q v o u mm∧(fG (eo step fr aW m) step fr aW false first i l q seen s).seen≤seen+(aR v h l).length∧
   (((fG (eo step fr aW m) step fr aW false first i l q seen s).e=11∧mm≤u)∨WkOk step fr aW (bt (aR v h l)) s (fG (eo step fr aW m) step fr aW false first i l q seen s))
 | [],i,q,seen,s,_,R,_,_,_,_=>⟨R,Nat.le_add_right _ _,.inr ⟨rfl,rfl,fun _=>rfl,fun h=>absurd h (by simp [fG])⟩⟩
 | x::l,i,q,seen,s,hi,R,hc,hp,hh,hs=>by
  rw [List.pairwise_cons] at hp;have hsk:jR fr false first i x=false:=by unfold jR; rw [decide_eq_false (by omega)]; rfl
  have hlen:(aR v h (x::l)).length=(az v h x.aH).length+(aR v h l).length:=by rw [eI,List.length_append]
  have kI:bt (aR v h (x::l))=eU v h x.aH++bt (aR v h l):=by rw [eI,df]; rfl
  have hx:=hc x (by simp);obtain ⟨y0,hy0⟩:=List.exists_mem_of_ne_nil _ hx.2;have MO: ∀z∈bt (aR v h l),∀y∈eU v h x.aH,fW y.key z.key:=fun z hz y hy=>by
   obtain ⟨e,he,hz⟩:=cW.1 hz;exact eY (hp.1 e he y hy) (hh e (by simp [he]) z hz (.inr he))
  unfold fG;rw [hsk,if_neg (by simp),FH]
  by_cases h2:aW.size≠0∧mz aW x.key∧0<i
  ·rw [decide_eq_true h2.1,decide_eq_true h2.2.1,decide_eq_true h2.2.2,if_pos (by simp)];have mf: ∀z∈bt (aR v h (x::l)),mz aW z.key:=fun z hz=>by
    rw [kI] at hz
    rcases List.mem_append.1 hz with hz | hz
    ·exact kK h2.2.1 (hh x (by simp) z hz (.inl h2.2.2))
    ·exact kK h2.2.1 (kK (hh x (by simp) y0 hy0 (.inl h2.2.2)) (oo (MO z hz y0 hy0)))
   have hf:oI fr aW (bt (aR v h (x::l)))=[]:=vx h2.1 mf;exact ⟨R,Nat.le_add_right _ _,.inr ⟨rfl,by rw [hf]; rfl,fun h=>absurd h (by simp),fun _=> .inr ⟨h2.1,y0,by rw [kI]; simp [hy0],mf y0 (by rw [kI]; simp [hy0])⟩⟩⟩
  ·rw [if_neg (by
    rw [Bool.and_eq_true,Bool.and_eq_true,Bool.or_eq_true,decide_eq_true_eq,decide_eq_true_eq,decide_eq_true_eq];exact fun h=>h2 ⟨h.1.1,h.1.2,h.2.resolve_left (by simp)⟩),if_neg (by simp)]
   obtain ⟨r1,r2,r3⟩:=IH q x.aH seen s R hx.1 (by omega)
   rcases r3 with ⟨r3,r4⟩ | r3
   ·rw [if_neg (by rw [r3]; simp)];exact ⟨r1,by omega,.inl ⟨r3,r4⟩⟩
   ·by_cases hm:(eo step fr aW m q seen s x.aH).more=true
    ·rw [if_pos ⟨hm,r3.e⟩];obtain ⟨i1,i2,i3⟩:=FI IH first l (i+1) (eo step fr aW m q seen s x.aH).q (eo step fr aW m q seen s x.aH).seen (eo step fr aW m q seen s x.aH).s (by omega) r1 (fun e he=>hc e (by simp [he])) hp.2 (fun e he z hz _=>hh e (by simp [he]) z hz (.inr he)) (by omega)
     have hfo:fH step (oI fr aW (bt (aR v h (x::l)))) s=fH step (oI fr aW (bt (aR v h l))) (eo step fr aW m q seen s x.aH).s:=by
      rw [kI,sH,ri,if_pos (r3.y hm),r3.f]
     refine ⟨i1,by omega,i3.imp id (fun c=>⟨c.e,by rw [hfo]; exact c.f,by rw [hfo]; exact c.y,fun IQ=>by rw [hfo]; exact (c.n IQ).imp id (fun ⟨h3,y,hy,h4⟩=>⟨h3,y,by rw [kI]; simp [hy],h4⟩)⟩)⟩
    ·have hm':(eo step fr aW m q seen s x.aH).more=false:=by simpa using hm
     rw [if_neg (fun h=>hm h.1)];have hfo:fH step (oI fr aW (bt (aR v h (x::l)))) s=fH step (oI fr aW (eU v h x.aH)) s:=by
      rw [kI,sH,ri]
      by_cases vQ:(fH step (oI fr aW (eU v h x.aH)) s).2=true
      ·rw [if_pos vQ]
       rcases r3.n hm' with h3 | ⟨h3,y,hy,h4⟩
       ·rw [h3] at vQ; cases vQ
       ·rw [vx h3 (fun z hz=>kK h4 (oo (MO z hz y hy)))];exact Prod.ext rfl vQ.symm
      ·rw [if_neg vQ]
     refine ⟨r1,by omega,.inr ⟨r3.e,by rw [hfo]; exact r3.f,fun h=>absurd h hm,fun h=>by rw [hfo]; exact (r3.n h).imp id (fun ⟨h3,y,hy,h4⟩=>⟨h3,y,by rw [kI]; simp [hy],h4⟩)⟩⟩
theorem xM (rec:QS→Nat→σ→Int→Wk σ) (first:Nat) (b:List E): ∀(a:List E) (i:Nat) (q:QS) (seen:Nat) (s:σ),i+a.length≤first→fG rec step fr aW false first i (a++b) q seen s=fG rec step fr aW false first (i+a.length) b q seen s
 | [],i,q,seen,s,_=>rfl
 | x::a,i,q,seen,s,h=>by
  rw [List.cons_append];rw [fG];have hsk:jR fr false first i x=true:=by unfold jR; rw [decide_eq_true (by simp at h; omega)]; rfl
  rw [if_pos hsk,xM rec first b a (i+1) q seen s (by simp at h; omega),List.length_cons,show i+1+a.length=i+(a.length+1) by omega]
theorem FJ {u:Nat}: ∀(h m:Nat),h<m→MN step fr aW v o mm u h m
 | h,0,hm=>absurd hm (by omega)
 | h,m+1,hm=>by
  intro q p seen s R hO hs;have hl1:1≤(az v h p).length:=by rw [m9]; simp
  unfold eo;rw [if_neg (by omega)];obtain ⟨r1,r2⟩:=R.read p
  rcases r2 with r2 | ⟨r2,r3⟩
  ·cases h with
   | zero=>
    have hp:=nc hO.1;have kI:eU v 0 p=(fV v p).2.1:=Ek v 0 p;rw [r2,hO.1,if_neg (by simp)];dsimp only;rw [if_pos rfl];obtain ⟨a,b,c⟩:=rj step fr aW (eo step fr aW m) (fV v p).2.1 0 (q.bl p).1 (seen+1) s hp;rw [a,b,kI];exact ⟨r1,by omega,.inr c⟩
   | succ h=>
    obtain ⟨o1,o2,o4,o3⟩:=hO;obtain ⟨l,hl⟩: ∃l,(fV v p).2.1=l:=⟨_,rfl⟩;have kI:eU v (h+1) p=bt (aR v h l):=by rw [Ek,hl]; rfl
    have hlen:(az v (h+1) p).length=1+(aR v h l).length:=by rw [m9,hl]; simp [bJ]; omega
    rw [hl] at o1 o2 o3 o4;have hp:=nc o1;obtain ⟨a,c,b,e1,e2,e3,e4⟩:=Bp hp o3.ne fr;rw [r2,o1,if_neg (by simp)];dsimp only;rw [if_neg (by simp),e2,kI];have Ca:=o3.lo;have G8:=o3.hi;have hcc:=o3.c;rw [e1,List.pairwise_append] at Ca;rw [e1] at G8 hcc;have hsk:=xM step fr aW (eo step fr aW m) a.length (c::b) a 0 (q.bl p).1 (seen+1) s (by omega);rw [Nat.zero_add] at hsk;rw [e1,hsk]
    have gw:(aR v h l).length=(aR v h a).length+(aR v h (c::b)).length:=by rw [e1,eT,List.length_append]
    have hhi2: ∀e∈c::b,∀x∈eU v h e.aH,(0<a.length∨e∈(c::b).tail)→mz e.key x.key:=fun e he x hx hor=>by
     cases a with
     | nil=>
      rcases hor with h0 | h0
      ·exact absurd h0 (by simp)
      ·exact G8 e h0 x hx
     | cons z a'=>exact G8 e (List.mem_append_right _ he) x hx
    obtain ⟨i1,i2,i3⟩:=FI step fr aW (FJ h m (by omega)) a.length (c::b) a.length (q.bl p).1 (seen+1) s (Nat.le_refl _) r1 (fun e he=>hcc e (List.mem_append_right _ he)) Ca.2.1 hhi2 (by omega);have hfa:oI fr aW (bt (aR v h (a++c::b)))=oI fr aW (bt (aR v h (c::b))):=by
     rw [eT,df,sH,FG (l:=bt (aR v h a)) (fun x hx=>?_),List.nil_append];obtain ⟨e,he,hx⟩:=cW.1 hx;exact eY (Ca.2.2 e he c (by simp) x hx) (e3 (fun h0=>by rw [h0] at he; simp at he))
    refine ⟨i1,by omega,i3.imp id (fun w=>⟨w.e,by rw [hfa]; exact w.f,by rw [hfa]; exact w.y,fun IQ=>by rw [hfa]; exact (w.n IQ).imp id (fun ⟨h3,y,hy,h4⟩=>⟨h3,y,by rw [eT,df]; exact List.mem_append_right _ hy,h4⟩)⟩)⟩
  ·rw [r2,if_pos (by simp)];exact ⟨r1,by show seen+1≤_; omega,.inl ⟨rfl,r3⟩⟩
theorem Iv {q:QS} {u H:Nat} (R:Rd q v o u mm) (hO:jX v H 0) (hH:H≤15) (hn:(az v H 0).length≤512) (s:σ):
  Rd (q.ja step fr aW s).q v o u mm∧(((q.ja step fr aW s).e=11∧mm≤u)∨((q.ja step fr aW s).e=0∧(q.ja step fr aW s).s=(fH step (oI fr aW (eU v H 0)) s).1)):=by
 obtain ⟨a,b,c⟩:=FJ step fr aW (v:=v) (o:=o) (mm:=mm) (u:=u) H 16 (by omega) q 0 0 s R hO (by omega);exact ⟨a,c.imp id (fun w=>⟨w.e,w.f⟩)⟩
end
theorem vy: ∀(n:Nat) (l:List Nat),l.Nodup→(∀x∈l,x<n)→l.length≤n
 | 0,l,_,h=>by
  cases l with
  | nil=>exact Nat.le_refl _
  | cons a l=>exact absurd (h a (by simp)) (by omega)
 | n+1,l,hn,h=>by
  by_cases hm:n∈l
  ·have h1:=vy n (l.erase n) (hn.erase n) (fun x hx=>by
    have h2:=(List.Nodup.mem_erase_iff hn).1 hx;have h3:=h x h2.2;have h4:=h2.1;omega)
   have h5:=List.length_erase_of_mem hm;omega
  ·exact Nat.le_succ_of_le (vy n l hn (fun x hx=>by
    have h3:=h x hx;have h4:x≠n:=fun e=>hm (by rw [←e]; exact hx);omega))
theorem MP {v:Vw} {q:QS} {o:Vw} {u mm:Nat} (R:Rd q v o u mm) {l:List Int} (hn:l.Nodup) (hl: ∀j∈l,(v j).2=0):l.length≤512:=by
 have h1:(l.map Int.toNat).Nodup:=by
  rw [List.nodup_iff_pairwise_ne,List.pairwise_map];refine List.Pairwise.imp_of_mem ?_ hn;intro a b ha hb eg e;have h2:=R.lt (hl a ha);have h3:=R.lt (hl b hb);exact eg (by omega)
 have h2: ∀x∈l.map Int.toNat,x∈List.range 512:=fun x hx=>by
  obtain ⟨j,hj,rfl⟩:=List.mem_map.1 hx;have h3:=R.lt (hl j hj);exact List.mem_range.2 (by omega)
 have:=vy 512 _ h1 (fun x hx=>List.mem_range.1 (h2 x hx))
 rwa [List.length_map] at this
end Go.Proofs.YtmonobkginiajaaGreat.Sh
namespace Go.Proofs.YtmonobkginiajaaGreat.Sh
open Go.RowKit Pk Dk Pg
open Nd (E aF aJ cM bg aK bI bj ai cE)
def inP (fr aW:ByteArray) (x:PR):Bool:=inR fr aW x.1
theorem xN (n:Int): ∀(l s:List E),(fH (jS n) l s).1=s++l.take (n-(s.length:Nat)).toNat
 | [],s=>by simp [fH]
 | x::l,s=>by
  unfold fH jS
  by_cases h:(s.length:Int)<n
  ·rw [if_pos h];obtain ⟨k,hk⟩: ∃k:Nat,(n-(s.length:Nat)).toNat=k+1:=⟨(n-(s.length:Nat)).toNat-1,by omega⟩;have hl:((s++[x]).length:Int)=s.length+1:=by simp
   rw [hk,List.take_succ_cons]
   by_cases h2:((s++[x]).length:Int)<n
   ·rw [decide_eq_true h2,if_pos rfl];dsimp only;have:=xN n l (s++[x]);unfold jS at this;rw [this,show (n-((s++[x]).length:Nat)).toNat=k by omega];simp
   ·rw [decide_eq_false h2,if_neg (by simp)];have:k=0:=by omega
    subst this;simp
  ·rw [if_neg h,decide_eq_false h,if_neg (by simp),show (n-(s.length:Nat)).toNat=0 by omega];simp
def inM (fr aW:ByteArray) (M:List MT):List MT:=M.filter fun m=>inR fr aW m.1.key
theorem inM_e (fr aW:ByteArray) (M:List MT):oI fr aW (M.map fun m=>m.1)=(inM fr aW M).map fun m=>m.1:=by
 unfold oI inM;rw [List.filter_map];rfl
theorem inM_p (fr aW:ByteArray) (M:List MT):kM (inM fr aW M)=(kM M).filter (inP fr aW):=by
 unfold kM inM;rw [List.filter_map];rfl
section
variable {o:Vw} {mm:Nat}
theorem xO: ∀(Ms:List MT) (q:QS) (v:Vw) (u:Nat) (out:List PR),Rd q v o u mm→(∀m∈Ms,IV v m.1 m.2.1 m.2.2)→
  Rd (lE (Ms.map fun m=>m.1) q out).1 v o u mm∧((lE (Ms.map fun m=>m.1) q out).2=(out++kM Ms,0)∨((lE (Ms.map fun m=>m.1) q out).2.2=11∧mm≤u))
 | [],q,v,u,out,R,_=>⟨R,.inl (by simp [lE])⟩
 | m::Ms,q,v,u,out,R,h=>by
  obtain ⟨g1,g2⟩:=vn R (h m (by simp));rw [List.map_cons];unfold lE
  rcases g2 with g2 | ⟨g2,g3⟩
  ·rw [g2,if_neg (by simp)];obtain ⟨a,b⟩:=xO Ms (q.fS m.1).1 v u (out++[(m.1.key,m.2.1)]) g1 (fun x hx=>h x (by simp [hx]));refine ⟨a,b.imp (fun e=>?_) id⟩;rw [e,Bx];simp
  ·rw [if_pos (by rw [g2]; simp)];exact ⟨g1,.inr ⟨g2,g3⟩⟩
theorem Tree.le {q:QS} {v:Vw} {u H:Nat} {M:List MT} (R:Rd q v o u mm) (T:Tree v H M):(az v H 0).length≤512:=by
 have:=MP R (dn.1 T.Bu).1 T.xL;simpa [aU] using this
theorem Iw {q:QS} {v:Vw} {u H:Nat} {M:List MT} (R:Rd q v o u mm) (T:Tree v H M) (hH:H≤15) (fr aW:ByteArray) (n:Int):
  Rd (q.my fr aW n).1 v o u mm∧(((q.my fr aW n).2.2=11∧mm≤u)∨(q.my fr aW n).2=(((kM M).filter (inP fr aW)).take n.toNat,0)):=by
 obtain ⟨a,b⟩:=Iv (jS n) fr aW R T.ok hH (T.le R) [];unfold QS.my
 rcases b with ⟨b1,b2⟩ | ⟨b1,b2⟩
 ·rw [if_pos (by rw [b1]; simp)];exact ⟨a,.inl ⟨b1,b2⟩⟩
 ·rw [if_neg (by rw [b1]; simp),b2,xN,←T.en,inM_e,List.nil_append,←List.map_take];obtain ⟨c,d⟩:=xO ((inM fr aW M).take (n-(([]:List E).length:Nat)).toNat) _ v u [] a (fun m hm=>T.va m ((List.mem_filter.1 (List.mem_of_mem_take hm)).1));refine ⟨c,d.symm.imp id (fun e=>?_)⟩;rw [e,List.nil_append,←inM_p];unfold kM;rw [List.map_take,show (n-(([]:List E).length:Nat)).toNat=n.toNat by simp]
structure ClrP (v v':Vw) (H:Nat) (M:List MT) (H':Nat) (M':List MT) (P:PR→Bool):Prop where
 t:Tree v' H' M'
 m:kM M'=(kM M).filter P
 IU: ∀wt,dr wt (az v' H' 0)≤dr wt (az v H 0)
 h:H'≤H
end
end Go.Proofs.YtmonobkginiajaaGreat.Sh
namespace Go.Proofs.YtmonobkginiajaaGreat.Sh
open Go.RowKit Pk Dk Pg
open Nd (E aF aJ cM bg aK bI bj ai cE)
theorem ng (q:QS): ∀i,(q.aN i).1.gq=q.gq
 | 0=>rfl
 | i+1=>by
  rw [py]
  split
  ·exact ng q i
  ·rw [uY]; exact ng q i
theorem xP (q:QS): ∀i,(q.aN i).2=11→ ∃q':QS,q'.gq=q.gq∧q'.a.free=0
 | 0,h=>absurd h (by show ¬(0:Int)=11; decide)
 | i+1,h=>by
  rw [py] at h
  split at h
  ·exact xP q i h
  ·exact ⟨(q.aN i).1,ng q i,Bj h⟩
theorem xQ {a b:Nat} (h:a≤b):bP a≤bP b:=by unfold bP; omega
section
variable {q:QS} {v o:Vw} {u m:Nat}
theorem Rd.jN (h:Rd q v o u m) (hK: ∃n K,Wp q n K∧K≤999999999000):
  (q.aA.2=0∧Rd q.aA.1 v v (u+u+bP u) m)∨(q.aA.2=11∧Rd q.aA.1 v o u m∧m<u+bP u+1):=by
 obtain ⟨n,K,w,hk⟩:=hK;obtain ⟨c1,c2,c3⟩:=w.jN hk;have hb:=ng q q.l.length;obtain ⟨e1,e2,e3⟩:=pQ hb;have lK:q.aA.1.a.many=q.a.many∧((q.aA.2=0→q.aA.1.a.now.length+q.aA.1.a.kept≤u+u+bP u)∧(q.aA.2=11→q.aA.1.gq=q.gq∧m<u+bP u+1)):=by
  have hu:=h.u;have hm:=h.m;unfold QS.aA;rw [if_neg (by rw [tY w.N]; omega)]
  by_cases Ff:(q.aN q.l.length).2=0
  ·rw [if_neg (by rw [Ff]; simp)];unfold St.aA
   by_cases hf:(q.aN q.l.length).1.a.free<bP (q.aN q.l.length).1.a.cX.length
   ·rw [if_pos hf];refine ⟨e2,fun h0=>absurd h0 (by show ¬(11:Int)=0; decide),fun _=>⟨hb,?_⟩⟩;have h1:=tJ (q.aN q.l.length).1.a;have h2:=xQ (a:=(q.aN q.l.length).1.a.cX.length) (b:=u) (by omega);have h3:(q.aN q.l.length).1.a.fresh≤(q.aN q.l.length).1.a.now.length:=List.countP_le_length;unfold St.free at hf;omega
   ·rw [if_neg hf];refine ⟨e2,fun _=>?_,fun h0=>absurd h0 (by show ¬(0:Int)=11; decide)⟩;have h1:=tJ (q.aN q.l.length).1.a;have h2:=xQ (a:=(q.aN q.l.length).1.a.cX.length) (b:=u) (by omega);show (je (q.aN q.l.length).1.a.cX).length+((q.aN q.l.length).1.a.cX.countP Option.isSome+bP (q.aN q.l.length).1.a.cX.length)≤_;have h3:(q.aN q.l.length).1.a.cX.countP Option.isSome≤(q.aN q.l.length).1.a.cX.length:=List.countP_le_length
    rw [zR];omega
  ·rw [if_pos (by exact Ff)];refine ⟨e2,fun h0=>absurd h0 Ff,fun Ba=>⟨hb,?_⟩⟩;obtain ⟨q',f1,f2⟩:=xP q _ Ba;obtain ⟨g1,g2,g3⟩:=pQ f1;have:=Bm (a:=q'.a) (u:=u) (by omega)
   rcases Nat.lt_or_ge u q'.a.many with h9 | h9
   ·exact absurd f2 (this h9)
   ·omega
 obtain ⟨s1,s2,s3⟩:=lK
 rcases c3 with ⟨c3,c4⟩ | ⟨c3,c4⟩
 ·exact .inl ⟨c3,⟨⟨n,_,c1⟩,fun j=>(c2 j).trans (h.v j),fun j=>(c4 j).trans (h.v j),s2 c3,by rw [s1]; exact h.m⟩⟩
 ·obtain ⟨s4,s5⟩:=s3 c3;obtain ⟨g1,g2,g3⟩:=pQ s4;exact .inr ⟨c3,⟨⟨n,_,c1⟩,fun j=>(c2 j).trans (h.v j),fun j=>(c4 j).trans (h.o j),by rw [g1]; exact h.u,by rw [s1]; exact h.m⟩,s5⟩
end
end Go.Proofs.YtmonobkginiajaaGreat.Sh
namespace Go.Proofs.YtmonobkginiajaaGreat.Sh
open Go.RowKit Pk Dk Pg
open Nd (E aw aT aF aJ cM bg aK bI)
attribute [local go_sem ↓] Go.wp_at_zero Go.wp_at_succ
theorem MQ:ia []=List.replicate 64 0:=by unfold ia; simp
theorem vZ (n:Nat) (h1:2≤n) (hn:n≤4096):gu (de (D.zero n) n).d n 1 0 [] []∧Twin (de (D.zero n) n).d 0 1:=by
 have z:(D.zero n).down=false∧(D.zero n).aP=0:=⟨rfl,rfl⟩;have ok0:=kV n hn;obtain ⟨w1,w2,w3⟩:=fO (d:=D.zero n) (n:=n) (k:=0) z.1 z.2 (by omega) dU;have ok1:=ok0.write ((0:Nat):Int) dU;have n1:=mE ok0 0 (by omega) dU w1;obtain ⟨v1,v2,v3⟩:=fO (d:=((D.zero n).ar n ((0:Nat):Int) dU).1) (n:=n) (k:=1) w2 w3 (by omega) [];have n2:=mE ok1 1 (by omega) [] v1;obtain ⟨s1,s2,s3,s4⟩:=kt v2 v3
 have hd:(de (D.zero n) n).d=((((D.zero n).ar n ((0:Nat):Int) dU).1.ar n ((1:Nat):Int) []).1.db).1:=rfl;have e0:sec (de (D.zero n) n).d.now 0=dU:=by
  rw [hd,s4,n2 0 (by omega),if_neg (by omega),n1 0 (by omega),if_pos rfl];exact qe _ (Rt.oZ 1 0 [] (by simp))
 have e1:sec (de (D.zero n) n).d.now 1=List.replicate 64 0:=by
  rw [hd,s4,n2 1 (by omega),if_pos rfl,MQ]
 have hdec:Rt.lU (List.replicate 64 0)<1:=by decide+kernel
 refine ⟨⟨h1,JH,.inl rfl,e0,fun _=>?_,fun i x hx=>by simp at hx,fun j _ _=>by rw [hd]; exact nQ s1 j⟩,?_⟩
 ·show Rt.lU (sec (de (D.zero n) n).d.now 1)<1;rw [e1]; exact hdec
 ·unfold Twin;show (sec (de (D.zero n) n).d.now 1).take 8=(sec (de (D.zero n) n).d.now 1).drop 56∧Rt.lU (sec (de (D.zero n) n).d.now 1)<1;rw [e1];exact ⟨by simp,hdec⟩
theorem BF (n:Nat) (h1:1≤dJ n) (hn:n≤4096) (dS:(de (D.zero n) n).d.Ok n):Good (de (D.zero n) n) n∧(de (D.zero n) n).bn n=St.start (dJ n)∧(de (D.zero n) n).d.calls≤10∧gu (de (D.zero n) n).d n 1 0 [] []∧Twin (de (D.zero n) n).d 0 1:=by
 obtain ⟨g,e,hc⟩:=CR n h1 hn dS;have hr:=vZ n (by unfold dJ bC at h1; omega) hn;exact ⟨g,e,hc,hr⟩
def QS.start (fr pg:Nat):QS:=⟨St.start pg,List.replicate fr Fr.nil,0⟩
def oE:Vw:=fun _=>([],3)
def BH:Vw:=gK oE 0 (aY true []).1
theorem MS (fr pg:Nat):Vi (QS.start fr pg):=by
 have hn: ∀f∈(QS.start fr pg).l,f=Fr.nil:=fun f hf=>List.eq_of_mem_replicate hf;have hp: ∀f∈(QS.start fr pg).l,¬0≤f.al:=fun f hf=>by rw [hn f hf]; show ¬(0:Int)≤ -1; omega
 exact ⟨fun i j f g hi hj e h0=>absurd h0 (hp f (List.mem_of_getElem? hi)),fun f hf h0=>absurd h0 (hp f hf),fun f hf h0=>absurd h0 (hp f hf),fun f hf _=>by rw [hn f hf]; rfl,fun f hf h0=>absurd h0 (hp f hf)⟩
theorem BJ {fr pg n K:Nat} (H:Hq (QS.start fr pg) n K):Wp (QS.start fr pg) n K:=⟨H,MS fr pg,fun f hf=>by rw [List.eq_of_mem_replicate hf]; rfl⟩
theorem vz (pg:Nat) (j:Int):(St.start pg).aD j=([],3):=by
 unfold St.aD;have:(St.start pg).at j=none:=by unfold St.at St.start; split<;>simp
 rw [this]
theorem MU {fr pg n K:Nat} (H:Hq (QS.start fr pg) n K):Rd (QS.start fr pg) oE oE 0 pg:=by
 refine ⟨⟨n,K,BJ H⟩,fun j=>?_,fun j=>?_,?_,Nat.le_refl _⟩
 ·rcases ff (QS.start fr pg) j with ho | ⟨k,f,hk,rfl,hp⟩
  ·rw [dK ho]; exact vz pg j
  ·rw [show f=Fr.nil from List.eq_of_mem_replicate (List.mem_of_getElem? hk)] at hp;exact absurd hp (by show ¬(0:Int)≤ -1; omega)
 ·show ({(St.start pg) with now:=je (St.start pg).bE}:St).aD j=_;exact vz pg j
 ·show 0+(0+bP 0)≤0;decide
theorem lay0:(aY true []).2=0:=mC (v:=oE) (h:=0) (fun h=>absurd rfl h) (by rw [kL]; decide)
theorem vA:gY=(aY true []).1:=rfl
theorem tree0:Tree BH 0 []:=by
 have wg: ∀j,fV BH j=if j=0 then (true,[],0) else fV oE j:=fun j=>by unfold BH; rw [eP lay0]; rfl
 have hns:az BH 0 0=[(0,0,[])]:=by unfold az; rw [wg 0,if_pos rfl]
 refine ⟨⟨by rw [wg 0,if_pos rfl],by rw [wg 0,if_pos rfl]; decide⟩,by unfold eU; rw [hns]; rfl,by simp,by rw [hns]; simp,fun j hj=>?_⟩;rw [hns]
 by_cases h0:j=0
 ·simp [h0]
 ·unfold BH at hj;rw [jr _ _ h0] at hj;exact absurd hj (by show ¬(3:Int)=0; decide)
theorem Eu {fr pg n K:Nat} (H:Hq (QS.start fr pg) n K) (hp:2≤pg):(QS.start fr pg).nG.2=0∧Rd (QS.start fr pg).nG.1 BH oE 1 pg∧Tree BH 0 []:=by
 have R:=MU H;have hlen:=(uZ lay0).2.2.1;have hT:=tree0;have Il:((QS.start fr pg).bm gY).2=(0,0):=by
  show ((St.start pg).bm gY).2=_;unfold St.bm;have hs:(St.start pg).slot=0:=rfl;have hf:(St.start pg).free≠0:=by
   show pg-(0+bP 0)-0≠0;have:bP 0=0:=by decide
   omega
  rw [if_neg (by rw [vA,hlen]; omega),if_neg (by rw [hs]; omega)];exact Prod.ext (by rw [hs]; rfl) rfl
 have hn:=R.new ⟨gY.toArray⟩ (by show gY.toArray.size≤232; rw [List.size_toArray,vA,hlen]; exact Nat.le_refl _);have hd:(⟨gY.toArray⟩:ByteArray).data.toList=gY:=rfl;rw [hd] at hn;rw [Il] at hn;have he:dA gY 232=(aY true []).1:=by
  rw [vA];exact pz (b:=⟨(aY true []).1.toArray⟩) (by show (aY true []).1.toArray.size=_; rw [List.size_toArray]; exact hlen)
 rcases hn with ⟨l,a1,a2,a3,a4⟩ | ⟨a1,_⟩
 ·have hl:((l:Nat):Int)=0:=(congrArg Prod.fst a1).symm;rw [hl,he] at a4;have hpg:(QS.start fr pg).a.jL.length=0:=rfl;have hroot:(QS.start fr pg).uU=(((QS.start fr pg).bm gY).1,0):=by
   unfold QS.uU;rw [if_pos hpg,Il]
  unfold QS.nG;rw [hroot,if_neg (by simp)];have a4:Rd ((QS.start fr pg).bm gY).1 BH oE 1 pg:=a4;obtain ⟨b1,b2⟩:=a4.read 0;refine ⟨?_,b1,hT⟩;show (((QS.start fr pg).bm gY).1.bl 0).2.2.2=0
  rcases b2 with b2 | ⟨b2,b3⟩
  ·rw [b2,(FA hT.ok).1]
  ·omega
 ·exact absurd (congrArg Prod.snd a1) (by show ¬(0:Int)=11; decide)
def QS.begun (fr pg:Nat):QS:=(QS.start fr pg).nG.1.aA.1
theorem Ew (w:World) (fr pg:Nat) (f1:1≤fr) (f2:fr≤32) (p1:4≤pg) (p2:pg≤1000):
  Calls Tryz.prog 12 #[.int .i64 (fr:Nat),.int .i64 (pg:Nat)] w fun e w'=> ∃wb tb mb I F,e= .returned (lp wb)∧ax w' wb 38 #[dp I.L.b,pp I.pb,tp tb,lp mb,.slice none 0 0]∧ax w' mb 45 #[.slice none 0 0]∧TQ w' tb I F (QS.begun fr pg) (2+4*pg) 50∧
   Rd (QS.begun fr pg) BH BH 3 pg∧Below w.heap.size w w'∧(∀g∈wb::mb::tb::F,w.heap.size≤g):=by
 have n1:dJ (2+4*pg)=pg:=by unfold dJ bC; omega
 have e1:IntKind.i64.wrap (4*(pg:Int))=4*(pg:Int):=IntWalk.i64_in _ (by omega);have e2:IntKind.i64.wrap (2+4*(pg:Int))=((2+4*pg:Nat):Int):=by rw [show 2+4*(pg:Int)=((2+4*pg:Nat):Int) by omega]; exact IntWalk.i64_in _ (by omega)
 have KD:=xh (xZ (2+4*pg) w (by omega) (by omega));have KF:=xh (fun (W:World) (L:Dk.Loc) (hW:aI W L (2+4*pg) (D.zero (2+4*pg)))=>CD hW (by omega) rfl rfl (by show (0:Int)≤1000; omega));have KP:=xh (fun (W:World) (b:Nat)=>JI (w:=W) b fr f1 f2)
 have HQ:=xh (show ∀(W:World) (x:X) (pq:Nat) (v:Value),At W x (2+4*pg) (de (D.zero (2+4*pg)) (2+4*pg))→ax W pq 143 #[sp x.b,v,.int .i64 0]→aG W 167 5 v fr (yk (List.replicate fr Fr.nil))→(∀g∈x.fp,w.heap.size≤g)→w.heap.size≤pq→(∀g∈ah v,w.heap.size≤g)→pq∉x.fp→(∀g∈ah v,g∉x.fp)→
   ∃F,PQ W ⟨pq,x.b,x.L⟩ F (QS.start fr pg) (2+4*pg) 1∧(∀g∈F,w.heap.size≤g)∧Hq (QS.start fr pg) (2+4*pg) 1 from fun W x pq v A B S h1 h2 h3 h4 h5=>by
  obtain ⟨g,cp,rest,rfl,BB,_⟩:=S.form (by omega) (by omega);obtain ⟨gd,e,hc,hr,_⟩:=BF (2+4*pg) (by omega) (by omega) A.hd.ok;rw [n1] at e;have z:Zc (de (D.zero (2+4*pg)) (2+4*pg)) (2+4*pg) (St.start pg) 1:=⟨gd,hr,⟨0,by rw [pk,e]⟩,by omega,by show (1:Int)≤(1:Nat); omega⟩
  have H:Hq (QS.start fr pg) (2+4*pg) 1:=⟨⟨_,z⟩,fun f hf=>by rw [List.eq_of_mem_replicate hf]; exact Fb.nil,by show 1≤(List.replicate fr Fr.nil).length; rw [List.length_replicate]; exact f1,by show (List.replicate fr Fr.nil).length≤32; rw [List.length_replicate]; exact f2,by show 0<(List.replicate fr Fr.nil).length; rw [List.length_replicate]; exact f1,by show ([]:List nn).length≤512; simp⟩;refine ⟨_,⟨⟨x,pq,g,cp⟩,rfl,rfl,rfl,rfl,⟨_,?_,z⟩,BJ H⟩,?_,H⟩
  ·refine ⟨?_,?_,A,h4,h5 g (by simp [ah]),H.l1,H.l2,H.lh⟩
   ·show ax W pq _ #[_,.slice (some ⟨g,0,none⟩) (List.replicate fr Fr.nil).length cp,_];rw [List.length_replicate]; exact B
   ·show aG W _ 5 (.slice (some ⟨g,0,none⟩) (List.replicate fr Fr.nil).length cp) (List.replicate fr Fr.nil).length _;rw [List.length_replicate]; exact S
  ·intro y hy;simp only [Y.fp,List.mem_cons] at hy
   rcases hy with rfl | rfl | hy
   ·exact h2
   ·exact h3 _ (by simp [ah])
   ·exact h1 y hy)
 have HP4:=xh p1;clear f1 f2 p1;unfold dp pp sp tp lp at *;go_enter Tryz.func12,Tryz.ntmps12;go_wp2_with fail;refine KD.out.mono ?_;rintro e w1 ⟨L,rfl,D1,aM,hL⟩;have O1:=xh aM;have D1:=xh D1;have HL:=xh hL;clear aM hL;go_wp2_with fail;refine (KF.out w1 L D1.out).mono ?_;rintro e w2 ⟨x,hxL,rfl,A2,o2,fx⟩
 have H2:=xh (show At w2 x (2+4*pg) (de (D.zero (2+4*pg)) (2+4*pg))∧Below w.heap.size w w2∧ ∀g∈x.fp,w.heap.size≤g from ⟨A2,O1.out.trans (o2.ay O1.out.size HL.out),fun g hg=>(fx g hg).elim (HL.out g) (fun h=>by have:=O1.out.size; omega)⟩);have HXL:=xh hxL;clear A2 o2 fx hxL;go_wp2_with fail;refine (KP.out w2 x.b).mono ?_;rintro e w3 ⟨pq,v,rfl,B3,S3,eG,hp3,hf3⟩
 obtain ⟨F3,P3,f3,hq3⟩:=HQ.out w3 x pq v (H2.out.1.below eG) B3 S3 H2.out.2.2 (by have:=H2.out.2.1.size; omega) (fun g hg=>by have:=hf3 g hg; have:=H2.out.2.1.size; omega) (fun hF=>by have:=H2.out.1.lt _ hF; omega) (fun g hg hF=>by have:=H2.out.1.lt _ hF; have:=hf3 g hg; omega);have hb3':=ao H2.out.2.1 eG;have KO:=Hr P3 (by omega);obtain ⟨q1e,q1r,q1t⟩:=Eu hq3 (by have:=HP4.out; omega);rw [q1e] at KO;have KO:=xh KO
 have H3:=xh (show Below w.heap.size w w3∧(∀g∈F3,w.heap.size≤g) from ⟨hb3',f3⟩);have HR:=xh q1r;clear B3 S3 eG hp3 hf3 P3 f3 hq3 hb3' q1e q1r q1t;unfold pp at KO;go_wp2_with fail;refine KO.out.mono ?_;rintro e w4 ⟨v4,rfl,F4,o4,f4,P4,z4,z5⟩;obtain ⟨tb,rfl,htb,T4⟩:=z5 rfl;have KC:=An T4.2 (by omega);have rl:=HR.out.jN ⟨_,_,(by obtain ⟨y,_,_,_,_,_,W⟩:=T4.2; exact W),by omega⟩;obtain ⟨q2,jm⟩: ∃q2,(QS.start fr pg).nG.1.aA=q2:=⟨_,rfl⟩
 have hbq:QS.begun fr pg=q2.1:=by unfold QS.begun; rw [jm]
 rw [jm] at KC rl;have HBQ:=xh hbq;have IG:q2.2=0∧Rd q2.1 BH BH 3 pg:=by
  rcases rl with ⟨c1,c2⟩ | ⟨c1,c2,c3⟩
  ·exact ⟨c1,c2.le (by decide)⟩
  ·have:bP 1=1:=by decide
   have:=HP4.out;omega
 rw [IG.1] at KC;have pW:=xh IG.2;have KC:=xh KC;have H4:=xh (show ag F3 w3 w4∧(∀g∈F4,g∈F3∨w3.heap.size≤g)∧w3.heap.size≤tb∧TQ w4 tb ⟨pq,x.b,x.L⟩ F4 (QS.start fr pg).nG.1 (2+4*pg) (1+2) from ⟨o4,f4,htb,T4⟩);clear rl IG o4 f4 P4 z4 htb T4 hbq;unfold pp at KC;unfold tp;go_wp2_with fail;refine KC.out.mono ?_;rintro e w5 ⟨rfl,F5,P5,o5,f5⟩;have B6:=ax.new w5 45 #[.slice none 0 0]
 have B7:=ax.new (w5.alloc (.cells #[.slice none 0 0] 45)) 38 #[.pointer (some ⟨L.b,0,none⟩),.pointer (some ⟨pq,0,none⟩),.pointer (some ⟨tb,0,none⟩),.pointer (some ⟨w5.heap.size,0,none⟩),.slice none 0 0];have fj:=ae (ae (Below.refl w5.heap.size w5) (.cells #[.slice none 0 0] 45)) (.cells #[.pointer (some ⟨L.b,0,none⟩),.pointer (some ⟨pq,0,none⟩),.pointer (some ⟨tb,0,none⟩),.pointer (some ⟨w5.heap.size,0,none⟩),.slice none 0 0] 38)
 have B6':=B6.alloc (.cells #[.pointer (some ⟨L.b,0,none⟩),.pointer (some ⟨pq,0,none⟩),.pointer (some ⟨tb,0,none⟩),.pointer (some ⟨w5.heap.size,0,none⟩),.slice none 0 0] 38);have s4:=H4.out.1.size;have s5:=o5.size;have s3:=H3.out.1.size;have f4': ∀g∈F4,w.heap.size≤g:=fun g hg=>(H4.out.2.1 g hg).elim (H3.out.2 g) (fun h=>by omega);have f5': ∀g∈F5,w.heap.size≤g:=fun g hg=>(f5 g hg).elim (f4' g) (fun h=>by omega)
 have ko:Below w.heap.size w w5:=(H3.out.1.trans (H4.out.1.ay s3 H3.out.2)).trans (o5.ay (by omega) f4');have T5:TQ w5 tb ⟨pq,x.b,x.L⟩ F5 q2.1 (2+4*pg) 50:=⟨H4.out.2.2.2.1.only o5 H4.out.2.2.2.ne,P5.le (by omega)⟩;have H9:=xh (And.intro B7 (And.intro B6' (And.intro (T5.below fj) (And.intro (ao ko fj) (show ∀g∈(w5.alloc (.cells #[.slice none 0 0] 45)).heap.size::w5.heap.size::tb::F5,w.heap.size≤g from fun g hg=>by
  simp only [List.mem_cons] at hg
  rcases hg with rfl | rfl | rfl | hg
  ·simp; omega
  ·omega
  ·have:=H4.out.2.2.1; omega
  ·exact f5' g hg)))))
 have HLX:=HXL.out;clear B6 B7 B6' fj f4' f5' ko T5 P5 o5 f5 s3 s4 s5;go_wp2_with fail;go_ret;rw [HBQ.out];refine ⟨_,_,_,⟨pq,x.b,x.L⟩,F5,by first | rfl | simp,?_,H9.out.2.1,H9.out.2.2.1,pW.out,H9.out.2.2.2.1,H9.out.2.2.2.2⟩;have h9:=H9.out.1;show ax _ _ _ #[.pointer (some ⟨x.L.b,0,none⟩),_,_,_,_];rw [HLX];exact h9
end Go.Proofs.YtmonobkginiajaaGreat.Sh
namespace Go.Proofs.YtmonobkginiajaaGreat.Sh
open Go.RowKit Pk Dk Pg
attribute [local go_sem ↓] Go.wp_at_zero Go.wp_at_succ
theorem toLb2 {a b:ByteArray} (h:a≠b):(a.toList==b.toList)=false:=by
 apply beq_eq_false_iff_ne.2;intro e;rw [bZ,bZ] at e;exact h (ByteArray.ext (Array.toList_inj.1 e))
theorem FK: ∀{l:List PR} {i:Nat} {x:PR},l[i]?=some x→(xD l)[i*2]?=some (.string x.1)∧(xD l)[i*2+1]?=some (.string x.2)
 | [],_,_,h=>by simp at h
 | y::l,0,x,h=>by
  simp only [List.getElem?_cons_zero,Option.some.injEq] at h;subst h;exact ⟨rfl,rfl⟩
 | y::l,i+1,x,h=>by
  rw [List.getElem?_cons_succ] at h;have:=FK h;have e:xD (y::l)=[.string y.1,.string y.2]++xD l:=rfl;rw [e,List.getElem?_append_right (by simp; omega),List.getElem?_append_right (by simp; omega)];rw [show (i+1)*2-[Value.string y.1,Value.string y.2].length=i*2 by simp; omega,show (i+1)*2+1-[Value.string y.1,Value.string y.2].length=i*2+1 by simp; omega];exact this
theorem aG.pr {w:World} {A:Option Addr} {n c:Nat} {l:List PR} (S:aG w 42 2 (.slice A n c) n (xD l)) {i:Nat} (hi:i<n): ∃g x,A=some ⟨g,0,none⟩∧l[i]?=some x∧n≤c∧c≤maxLen∧w.cell? ⟨g,i*2,none⟩=some (.string x.1)∧w.cell? ⟨g,i*2+1,none⟩=some (.string x.2):=by
 have hl:l.length=n:=by have:=S.1; rw [iC] at this; omega
 obtain ⟨g,cap,rest,hv,B,hc,hr⟩:=S.form (by omega) (by omega);injection hv with e1 e2 e3
 subst e1;obtain ⟨x,hx⟩: ∃x,l[i]?=some x:=⟨_,List.getElem?_eq_getElem (by omega)⟩;obtain ⟨p1,p2⟩:=FK hx;have rl:c≤maxLen:=by obtain ⟨_,_,_,_,h⟩:=S.oM; exact h
 refine ⟨g,x,rfl,hx,by omega,rl,?_,?_⟩
 ·exact B.ab (by rw [List.getElem?_toArray,List.getElem?_append_left (by rw [iC]; omega)]; exact p1)
 ·exact B.ab (by rw [List.getElem?_toArray,List.getElem?_append_left (by rw [iC]; omega)]; exact p2)
theorem p_ne (k v k' v':ByteArray):(k=k'∧v=v')∨(k≠k')∨(k=k'∧v≠v'):=by
 by_cases h1:k=k'
 ·by_cases h2:v=v'
  ·exact .inl ⟨h1,h2⟩
  ·exact .inr (.inr ⟨h1,h2⟩)
 ·exact .inr (.inl h1)
theorem MV {w:World} {A A':Option Addr} {n c n' c':Nat} {l l':List PR} (S:aG w 42 2 (.slice A n c) n (xD l)) (S':aG w 42 2 (.slice A' n' c') n' (xD l')) (hn:n≤1000000) (hn':n'≤1000000) (b:Bool) (hb:b=true↔l=l'):
  Calls Tryz.prog 19 #[.slice A n c,.slice A' n' c'] w fun r w'=>r= .returned (.bool b)∧Below w.heap.size w w':=by
 have hl:l.length=n:=by have:=S.1; rw [iC] at this; omega
 have hl':l'.length=n':=by have:=S'.1; rw [iC] at this; omega
 have HL:=xh hl;have HL':=xh hl';have H0:=xh S;have H1:=xh S';have HB:=xh hb;clear S S' hb hl hl'
 by_cases hnn:n=n'
 ·subst hnn;go_enter Tryz.func19,Tryz.ntmps19;go_wp2_with fail
  go_loopw [5] (fun iv wr=> ∃i:Nat,i≤n∧iv= .int .i64 i∧Hid (∀j:Nat,j<i→l[j]?=l'[j]?)∧Below w.heap.size w wr) (fun iv _=>n-(intOf iv).toNat)
  case atStart=>exact ⟨0,Nat.zero_le _,rfl,xh (fun j h=>absurd h (Nat.not_lt_zero _)),Below.refl _ _⟩
  case round=>
   obtain ⟨i,hi,rfl,EQ,O⟩:=hrel
   by_cases h:i<n
   ·obtain ⟨g,x,rfl,hx,q1,q2,a0,a1⟩:=aG.pr (H0.out.below O) h;obtain ⟨g',x',rfl,hx',q1',q2',b0,b1⟩:=aG.pr (H1.out.below O) h;have OO:=xh O;have HE:=xh (And.intro hx hx');have hii:(i:Int)<(n:Int):=by omega
    clear O hx hx';obtain ⟨k,v⟩:=x;obtain ⟨k',v'⟩:=x';dsimp only at *
    rcases p_ne k v k' v' with ⟨rfl,rfl⟩ | hd | ⟨rfl,hd⟩
    ·have HQ:=xh (show ∀j:Nat,j<i+1→l[j]?=l'[j]? from fun j hj=>by
      rcases Nat.lt_succ_iff_lt_or_eq.1 hj with h1 | rfl
      ·exact EQ.out j h1
      ·rw [HE.out.1,HE.out.2])
     go_wp2_with fail;go_quiet (fail);go_wp2_with fail;go_roundw
     case rel=>exact ⟨i+1,by omega,by go_num,HQ,cQ OO.out _⟩
     case measure=>simp [intOf]; omega
    all_goals
     have HD:=xh (show l≠l' from fun hx=>by
      have h1:=HE.out.1;rw [hx,HE.out.2] at h1;simp only [Option.some.injEq,Prod.mk.injEq] at h1
      first | exact hd h1.1.symm | exact hd h1.2.symm)
     have Kc:=toLb2 hd;have hd3:=toLb2 (fun e=>hd e.symm);go_wp2_with fail;go_quiet (fail);go_wp2_with fail;go_ret;have hbf:b=false:=by
      cases b
      ·rfl
      ·exact absurd (HB.out.1 rfl) HD.out
     exact ⟨by rw [hbf]; rfl,cQ OO.out _⟩
   ·have hii: ¬(i:Int)<(n:Int):=by omega
    have e:i=n:=by omega
    subst e;have Ml:b=true:=HB.out.2 (List.ext_getElem? fun j=>by
     rcases Nat.lt_or_ge j i with h1 | h1
     ·exact EQ.out j h1
     ·rw [List.getElem?_eq_none (by rw [HL.out]; exact h1),List.getElem?_eq_none (by rw [HL'.out]; exact h1)])
    have HBT:=xh Ml;have OO:=xh O;clear Ml O;go_wp2_with fail;go_ret;exact ⟨by rw [HBT.out]; rfl,OO.out⟩
 ·have hbf:b=false:=by
   cases b
   ·rfl
   ·have:=HB.out.1 rfl;rw [this,HL'.out] at HL;exact absurd HL.out.symm hnn
  have hnI:(n:Int)≠(n':Int):=by omega
  have hq:((n:Int) != (n':Int))=true:=by rw [bne_iff_ne]; exact hnI
  have jm:((n:Int)==(n':Int))=false:=by rw [beq_eq_false_iff_ne]; exact hnI
  have HBT:=xh hbf;clear hbf;go_enter Tryz.func19,Tryz.ntmps19;go_wp2_with fail;go_ret;exact ⟨by rw [HBT.out]; rfl,Below.refl _ _⟩
end Go.Proofs.YtmonobkginiajaaGreat.Sh
