/- packed. -/
import Derived.Test.YtmonobkginiajaaGreatQ27
set_option linter.all false
set_option maxRecDepth 100000
set_option maxHeartbeats 8000000
namespace Go.Proofs.YtmonobkginiajaaGreat.Sh
open Go.RowKit Pk Dk Pg
open Nd (E aF aJ cM bg aK bI bj ai cE)
structure vY (v:Vw) (h:Nat) (x:Step) (up:List Step):Prop where
 hole:lF v up h x.al
 leaf:x.leaf=decide (h=0)
 here:(v x.al).2=0
 ok:eu v h x.l
 ne:x.l≠[]
 bk:blank x.leaf x.l=x.l
 Mz: ∀e∈eK v h x.l,yW up e.key
 Bu:(aU (dN v up h)++x.al::(aU (bJ v h x.l)++aU (cB v up h))).Nodup
 sz:ai x.l≤302
def cu (v:Vw) (h:Nat) (x:Step) (up:List Step):List NT:=dN v up h++(h,x.al,x.l)::(bJ v h x.l++cB v up h)
structure Grown (v v':Vw) (H H':Nat) (ns:List NT) (new:List Int):Prop where
 ok:jX v' H' 0
 en:eU v' H' 0=bt ns
 pg:(aU (az v' H' 0)).Perm (aU ns++new)
 fresh: ∀j∈new,v j=([],3)
 Bu:new.Nodup
 out: ∀j,j∉aU ns→j∉new→v' j=v j
 IU: ∀wt c,Ii wt c→dr wt (az v' H' 0)+c*new.length≤dr wt ns+(if H'=H then 0 else c)
 h:H'=H∨(H'=H+1∧ ∀wt c,Ii wt c→73*wt H≤dr wt ns)
theorem dW (v:Vw) (h:Nat) (x:Step) (up:List Step):aU (cu v h x up)=aU (dN v up h)++x.al::(aU (bJ v h x.l)++aU (cB v up h)):=by
 unfold cu;simp
theorem iG (v:Vw) (h:Nat) (x:Step) (up:List Step):bt (cu v h x up)=bt (dN v up h)++(eK v h x.l++bt (cB v up h)):=by
 unfold cu
 cases h with
 | zero=>simp [bJ,eK]
 | succ h=>simp [bJ,eK]
theorem vY.cost {v:Vw} {h:Nat} {x:Step} {up:List Step} (P:vY v h x up): ∀e∈x.l,Nd.cost e≤79:=fun e he=>by
 obtain ⟨a,b,c⟩:=P.ok.1 e he;unfold Nd.cost;omega
theorem vY.nin {v:Vw} {h:Nat} {x:Step} {up:List Step} (P:vY v h x up):(∀j∈aU (dN v up h),j≠x.al)∧(∀j∈aU (bJ v h x.l),j≠x.al)∧ ∀j∈aU (cB v up h),j≠x.al:=by
 have:=P.Bu;rw [List.nodup_append,List.nodup_cons] at this;obtain ⟨_,⟨a,_⟩,b⟩:=this;refine ⟨fun j hj e=>b j hj x.al (by simp) e,fun j hj e=>a (by rw [←e]; exact List.mem_append_left _ hj),fun j hj e=>a (by rw [←e]; exact List.mem_append_right _ hj)⟩
theorem vh {v v':Vw} {h:Nat} {x:Step} {up:List Step} (hole:lF v up h x.al) (ok:eu v h x.l) (ne:up≠[]→x.l≠[]) (Mz: ∀e∈eK v h x.l,yW up e.key)
  (Bu:(aU (dN v up h)++x.al::(aU (bJ v h x.l)++aU (cB v up h))).Nodup) (hb:ai (blank (decide (h=0)) x.l)≤223) (hd:fV v' x.al=(decide (h=0),blank (decide (h=0)) x.l,0)) (hv: ∀j,j≠x.al→v' j=v j):
  jX v' (h+up.length) 0∧az v' (h+up.length) 0=dN v up h++(h,x.al,blank (decide (h=0)) x.l)::(bJ v h x.l++cB v up h)∧eU v' (h+up.length) 0=bt (cu v h x up):=by
 have hn:=Bu;rw [List.nodup_append,List.nodup_cons] at hn;obtain ⟨_,⟨na,_⟩,nb⟩:=hn;obtain ⟨c1,c2,c3⟩:=fc up h x.al hole (fun j hj=>hv j (fun e=>nb j hj x.al (by simp) e)) (fun j hj=>hv j (fun e=>na (by rw [←e]; exact List.mem_append_right _ hj)));obtain ⟨l1,l2,l3⟩:=iF (v:=v) (v':=v') (h:=h) (l:=x.l) (fun j hj=>hv j (fun e=>na (by rw [←e]; exact List.mem_append_left _ hj)));obtain ⟨k1,k2,k3⟩:=pR (l3 ok) hb hd
 obtain ⟨p1,p2⟩:=plug up h x.al c1 k1 (fun eg=>by rw [k3,l2]; exact jE ok (ne eg)) (fun e he=>by rw [k3,l2] at he; exact Mz e he);rw [c2,c3,k2,l1,List.cons_append] at p2;refine ⟨p1,p2,?_⟩;unfold eU;rw [p2,iG]
 cases h with
 | zero=>simp [bJ,eK,iE]
 | succ h=>simp [bJ,eK]
theorem Ij {v v':Vw} {h:Nat} {x:Step} {up:List Step} (P:vY v h x up) (hb:ai x.l≤223) (hd:fV v' x.al=(decide (h=0),x.l,0)) (hv: ∀j,j≠x.al→v' j=v j):
  Grown v v' (h+up.length) (h+up.length) (cu v h x up) []:=by
 have hbk:=P.bk;rw [P.leaf] at hbk;obtain ⟨p1,p2,p3⟩:=vh P.hole P.ok (fun _=>P.ne) P.Mz P.Bu (by rw [hbk]; exact hb) (by rw [hbk]; exact hd) hv;rw [hbk] at p2;have e:az v' (h+up.length) 0=cu v h x up:=p2;refine ⟨p1,p3,by rw [e,List.append_nil],by simp,List.nodup_nil,fun j hj _=>hv j (fun ej=>hj (by rw [dW,ej]; simp)),fun wt c _=>by rw [e,if_pos rfl]; simp,.inl rfl⟩
theorem Er {l:List Int} {k:Int} (h:l.Nodup) (hk:k∉l):(l++[k]).Nodup:=by
 rw [List.nodup_append];exact ⟨h,by simp,fun a ha b hb e=>hk (by rw [←List.mem_singleton.1 hb,←e]; exact ha)⟩
theorem Ik {a b:List E} {c n:E} (h:blank false (a++c::b)=a++c::b):blank false (a++c::n::b)=a++c::n::b:=by
 cases a with
 | nil=>
  have h:({c with key:=⟨#[]⟩}:E)::b=c::b:=h;injection h with h1 h2
  show ({c with key:=⟨#[]⟩}:E)::n::b=_;rw [h1]; rfl
 | cons z a=>
  have h:({z with key:=⟨#[]⟩}:E)::(a++c::b)=z::(a++c::b):=h;injection h with h1 h2
  show ({z with key:=⟨#[]⟩}:E)::(a++c::n::b)=_;rw [h1]; rfl
theorem pend_up {v v2:Vw} {h:Nat} {x y:Step} {up:List Step} (P:vY v h x (y::up)) {la lb:List E} (hl:x.l=la++lb) (ha:la≠[]) (hb:lb≠[]) (ba:ai la≤223) (bb:ai lb≤223) (hs:(ai la-151)+(ai lb-151)+73≤ai x.l-151)
  {k:Nat} (hk:k≤511) (hvk:v (k:Nat)=([],3)) (vD:fV v2 x.al=(decide (h=0),blank (decide (h=0)) la,0)) (Kc:fV v2 (k:Nat)=(decide (h=0),blank (decide (h=0)) lb,0)) (hv: ∀j,j≠x.al→j≠(k:Nat)→v2 j=v j) (h2:(v2 x.al).2=0∧(v2 (k:Nat)).2=0):
  vY v2 (h+1) {y with l:=y.l.insertIdx (y.at_+1) ⟨keyOf lb,⟨#[]⟩,(k:Nat)⟩} up∧
  ∀{v':Vw} {H':Nat} {new:List Int},Grown v2 v' (h+1+up.length) H' (cu v2 (h+1) {y with l:=y.l.insertIdx (y.at_+1) ⟨keyOf lb,⟨#[]⟩,(k:Nat)⟩} up) new→Grown v v' (h+(y::up).length) H' (cu v h x (y::up)) ((k:Nat)::new):=by
 obtain ⟨⟨a,c,b,f,hsib⟩,hU⟩:=P.hole;obtain ⟨t1,t2,t3⟩:=iK f;obtain ⟨n1,n2,n3⟩:=P.nin;obtain ⟨hh1,hh2⟩:=xI (y::up) h x.al P.hole;have hlk:=xH P.ok;have nk: ∀j,(v j).2=0→j≠(k:Nat):=fun j hj e=>by rw [e,hvk] at hj; exact absurd hj (by decide)
 have ji: ∀j∈aU (dN v (y::up) h),v2 j=v j:=fun j hj=>hv j (n1 j hj) (nk j (hh1 j hj));have pT: ∀j∈aU (cB v (y::up) h),v2 j=v j:=fun j hj=>hv j (n3 j hj) (nk j (hh2 j hj));have Bv: ∀j∈aU (bJ v h x.l),v2 j=v j:=fun j hj=>hv j (n2 j hj) (nk j (hlk j hj));obtain ⟨H2,e1,e2⟩:=fc (y::up) h x.al P.hole ji pT;have dS:=P.ok;rw [hl] at dS Bv;rw [jD,cq] at Bv;obtain ⟨sa,sb,s1,s2,s3⟩:=oy dS ha hb
 obtain ⟨ka1,ka2,ka3⟩:=iF (v:=v) (v':=v2) (h:=h) (l:=la) (fun j hj=>Bv j (List.mem_append_left _ hj));obtain ⟨kb1,kb2,kb3⟩:=iF (v:=v) (v':=v2) (h:=h) (l:=lb) (fun j hj=>Bv j (List.mem_append_right _ hj));obtain ⟨oa1,oa2,oa3⟩:=pR (ka3 sa) (Nat.le_trans (cH _ _) ba) vD;obtain ⟨ob1,ob2,ob3⟩:=pR (kb3 sb) (Nat.le_trans (cH _ _) bb) Kc;rw [ka1] at oa2;rw [kb1] at ob2;rw [ka2] at oa3;rw [kb2] at ob3;obtain ⟨⟨a',c',b',f2,ME⟩,hU2⟩:=H2
 have lY:a'=a∧c'=c∧b'=b:=by
  have q1:=(iK f2);exact ⟨by rw [←q1.1,t1],by rw [←q1.2.2,t3],by rw [←q1.2.1,t2]⟩
 obtain ⟨rfl,rfl,rfl⟩:=lY;obtain ⟨n,hn⟩: ∃n:E,n=⟨keyOf lb,⟨#[]⟩,(k:Nat)⟩:=⟨_,rfl⟩;have hnf:n.aH=(k:Nat):=by rw [hn]
 have hnk:n.key=keyOf lb:=by rw [hn]
 rw [←hn];have hins:y.l.insertIdx (y.at_+1) n=a'++c'::n::b':=by rw [f.l,f.at_,Ep]
 rw [hins];have hinP:=P.Mz;rw [hl,ra] at hinP;have inA: ∀e∈eK v h la,(a'≠[]→mz c'.key e.key)∧(∀z∈b',fW e.key z.key)∧yW up e.key:=fun e he=>(jU f up e.key).1 (hinP e (List.mem_append_left _ he));have inB: ∀e∈eK v h lb,(a'≠[]→mz c'.key e.key)∧(∀z∈b',fW e.key z.key)∧yW up e.key:=fun e he=>(jU f up e.key).1 (hinP e (List.mem_append_right _ he));have neA:=jE sa ha;have neB:=jE sb hb;have enc:eU v2 h c'.aH=eK v h la:=by rw [f.aH,oa3]
 have enn:eU v2 h n.aH=eK v h lb:=by rw [hnf,ob3]
 have mo:=jC (ly (v:=v) (p:=y.al) (by rw [f.nd]));rw [f.nd] at mo;have mo: ∀e∈a'++c'::b',cE e false:=by rw [←f.l]; exact mo
 have flo:=f2.lo;rw [List.pairwise_append] at flo;have hin2:ox (jX v2 h) (eU v2 h) (a'++c'::n::b'):=by
  refine ⟨by simp,fun e he=>?_,?_,fun e he=>?_⟩
  ·rcases List.mem_append.1 he with he | he
   ·exact f2.ch e (List.mem_append_left _ he)
   ·rcases List.mem_cons.1 he with rfl | he
    ·exact ⟨by rw [f.aH]; exact oa1,by rw [enc]; exact neA⟩
    ·rcases List.mem_cons.1 he with rfl | he
     ·exact ⟨by rw [hnf]; exact ob1,by rw [enn]; exact neB⟩
     ·exact f2.ch e (List.mem_append_right _ he)
  ·rw [List.pairwise_append,List.pairwise_cons,List.pairwise_cons];refine ⟨flo.1,⟨fun e he x hx=>?_,fun e he x hx=>?_,flo.2.1⟩,fun e he e' rZ x hx=>?_⟩
   ·rw [enc] at hx
    rcases List.mem_cons.1 he with rfl | he
    ·rw [hnk]; exact s1 x hx
    ·exact (inA x hx).2.1 e he
   ·rw [enn] at hx;exact (inB x hx).2.1 e he
   ·rcases List.mem_cons.1 rZ with rfl | rZ
    ·exact f2.la e he x hx
    ·rcases List.mem_cons.1 rZ with rfl | rZ
     ·rw [hnk];obtain ⟨z,hz⟩:=List.exists_mem_of_ne_nil _ neA;exact jB (eY (f2.la e he x hx) ((inA z hz).1 (fun h0=>by rw [h0] at he; simp at he))) (s1 z hz)
     ·exact flo.2.2 e he e' rZ x hx
  ·have hmid: ∀e∈n::b',∀x∈eU v2 h e.aH,mz e.key x.key:=fun e he x hx=>by
    rcases List.mem_cons.1 he with rfl | he
    ·rw [enn] at hx;rw [hnk]; exact s2 x hx
    ·exact f2.hb e he x hx
   cases ha':a' with
   | nil=>
    rw [ha'] at he;exact hmid e he
   | cons z a2=>
    have eg:a'≠[]:=by rw [ha']; simp
    have hha:=f2.ha;rw [ha'] at he hha;rw [List.cons_append,List.tail_cons] at he;rw [List.tail_cons] at hha
    rcases List.mem_append.1 he with he | he
    ·exact hha e he
    ·rcases List.mem_cons.1 he with rfl | he
     ·intro x hx;rw [enc] at hx;exact (inA x hx).1 eg
     ·exact hmid e he
 have rQ:aR v2 h (a'++c'::n::b')=aR v h a'++((h,x.al,blank (decide (h=0)) la)::bJ v h la++((h,((k:Nat):Int),blank (decide (h=0)) lb)::bJ v h lb++aR v h b')):=by
  rw [eT,eI,eI,f.aH,hnf,oa2,ob2];have q1:aR v2 h a'=aR v h a':=(eZ (fun j hj=>ji j (by simp only [ct,cC]; rw [t1,cq,cr]; exact List.mem_append_right _ (List.mem_cons_of_mem _ hj)))).1;have q2:aR v2 h b'=aR v h b':=(eZ (fun j hj=>pT j (by simp only [bK,bM]; rw [t2,cq]; exact List.mem_append_left _ hj))).1;rw [q1,q2]
 have vi:dN v2 up (h+1)=dN v up (h+1):=by
  exact (fc up (h+1) y.al hU (fun j hj=>ji j (by simp only [ct,cC]; rw [cq]; exact List.mem_append_left _ hj)) (fun j hj=>pT j (by simp only [bK,bM]; rw [cq]; exact List.mem_append_right _ hj))).2.1
 have oA:cB v2 up (h+1)=cB v up (h+1):=by
  exact (fc up (h+1) y.al hU (fun j hj=>ji j (by simp only [ct,cC]; rw [cq]; exact List.mem_append_left _ hj)) (fun j hj=>pT j (by simp only [bK,bM]; rw [cq]; exact List.mem_append_right _ hj))).2.2
 have hold:aU (cu v h x (y::up))=aU (dN v up (h+1))++(y.al::aU (aR v h a'))++x.al::((aU (bJ v h la)++aU (bJ v h lb))++(aU (aR v h b')++aU (cB v up (h+1)))):=by
  rw [dW,hl,jD,cq];simp only [ct,bK,cC,bM];rw [t1,t2];simp
 have Il:aU (cu v2 (h+1) {y with l:=a'++c'::n::b'} up)=aU (dN v up (h+1))++y.al::(aU (aR v h a')++(x.al::aU (bJ v h la)++(((k:Nat):Int)::aU (bJ v h lb)++aU (aR v h b')))++aU (cB v up (h+1))):=by
  rw [dW];show aU (dN v2 up (h+1))++y.al::(aU (aR v2 h (a'++c'::n::b'))++aU (cB v2 up (h+1)))=_;rw [rQ,vi,oA];simp
 have nH:(aU (cu v2 (h+1) {y with l:=a'++c'::n::b'} up)).Perm (aU (cu v h x (y::up))++[((k:Nat):Int)]):=by
  rw [Il,hold,List.perm_iff_count];intro j;simp only [List.count_append,List.count_cons,List.count_nil];omega
 have hknin:((k:Nat):Int)∉aU (cu v h x (y::up)):=fun hm=>by
  rw [dW] at hm
  rcases List.mem_append.1 hm with hm | hm
  ·exact nk _ (hh1 _ hm) rfl
  ·rcases List.mem_cons.1 hm with hm | hm
   ·exact nk _ P.here hm.symm
   ·rcases List.mem_append.1 hm with hm | hm
    ·exact nk _ (hlk _ hm) rfl
    ·exact nk _ (hh2 _ hm) rfl
 have Bw:=P.Bu;rw [←dW] at Bw;have hnod:(aU (cu v2 (h+1) {y with l:=a'++c'::n::b'} up)).Nodup:=nH.nodup_iff.2 (Er Bw hknin);have hcostn:n.key.size+n.val.size+7≤39:=by rw [hn]; show (keyOf lb).size+0+7≤39; omega
 have hby:=f.by_;rw [f.l,dk,di] at hby;have Ch:ai (a'++c'::n::b')≤ai y.l+39:=by
  rw [f.l,dk,dk,di,di,di];omega
 refine ⟨⟨hU2,?_,?_,⟨fun e he=>?_,hin2⟩,by simp,?_,fun e he=>?_,?_,?_⟩,fun {v' H' new} G=>?_⟩
 ·show y.leaf=decide (h+1=0);rw [f.leaf]; rfl
 ·exact jT (by show (fV v2 y.al).2.2=0; rw [f2.nd])
 ·rcases List.mem_append.1 he with he | he
  ·exact mo e (List.mem_append_left _ he)
  ·rcases List.mem_cons.1 he with rfl | he
   ·exact mo _ (by simp)
   ·rcases List.mem_cons.1 he with rfl | he
    ·rw [hn];exact ⟨s3,Nat.zero_le _,by show (if (decide (h+1=0))=true then (-1:Int) else 0)≤((k:Nat):Int); split<;>omega,by show ((k:Nat):Int)<512; omega,.inr rfl⟩
    ·exact mo e (List.mem_append_right _ (List.mem_cons_of_mem _ he))
 ·show blank y.leaf _=_;rw [f.leaf];exact Ik (by rw [←f.l]; exact f.bk)
 ·have he:e∈bt (aR v2 h (a'++c'::n::b')):=he;obtain ⟨z,hz,hx⟩:=cW.1 he;have sib: ∀z∈a'++b',e∈eU v2 h z.aH→yW up e.key:=fun z hz hx=>ME z hz e hx
  rcases List.mem_append.1 hz with hz | hz
  ·exact sib z (List.mem_append_left _ hz) hx
  ·rcases List.mem_cons.1 hz with rfl | hz
   ·rw [enc] at hx; exact (inA e hx).2.2
   ·rcases List.mem_cons.1 hz with rfl | hz
    ·rw [enn] at hx; exact (inB e hx).2.2
    ·exact sib z (List.mem_append_right _ hz) hx
 ·rw [←dW]; exact hnod
 ·have:=f.by_;show ai (a'++c'::n::b')≤302;omega
 ·have MF: ∀wt c,Ii wt c→dr wt (cu v2 (h+1) {y with l:=a'++c'::n::b'} up)+c≤dr wt (cu v h x (y::up)):=fun wt c hw=>by
   have h1:=hw h;have h2:=cH (decide (h=0)) la;have h3:=cH (decide (h=0)) lb;have e3:dr wt (cu v2 (h+1) {y with l:=a'++c'::n::b'} up)=dr wt (dN v up (h+1))+(wt (h+1)*(ai (a'++c'::n::b')-151)+(dr wt (aR v h a')+((wt h*(ai (blank (decide (h=0)) la)-151)+dr wt (bJ v h la))+((wt h*(ai (blank (decide (h=0)) lb)-151)+dr wt (bJ v h lb))+dr wt (aR v h b')))+dr wt (cB v up (h+1)))):=by
    unfold cu;show dr wt (dN v2 up (h+1)++(h+1,y.al,a'++c'::n::b')::(aR v2 h (a'++c'::n::b')++cB v2 up (h+1)))=_;rw [rQ,vi,oA];simp only [gE,dm]
   have e4:dr wt (cu v h x (y::up))=(dr wt (dN v up (h+1))+(wt (h+1)*(ai y.l-151)+dr wt (aR v h a')))+(wt h*(ai x.l-151)+((dr wt (bJ v h la)+dr wt (bJ v h lb))+(dr wt (aR v h b')+dr wt (cB v up (h+1))))):=by
    unfold cu; simp only [ct,bK,cC,bM];rw [t1,t2];simp only [gE,dm];rw [show bJ v h x.l=bJ v h la++bJ v h lb by rw [hl,jD]];simp only [gE]
   have m1:wt (h+1)*(ai (a'++c'::n::b')-151)≤wt (h+1)*(ai y.l-151)+wt (h+1)*39:=by
    rw [←Nat.mul_add];exact Nat.mul_le_mul_left _ (by omega)
   have m2:wt h*(ai (blank (decide (h=0)) la)-151)+wt h*(ai (blank (decide (h=0)) lb)-151)+wt h*73≤wt h*(ai x.l-151):=by
    rw [←Nat.mul_add,←Nat.mul_add];exact Nat.mul_le_mul_left _ (by omega)
   rw [e3,e4];omega
  have hHl:h+(y::up).length=h+1+up.length:=by simp; omega
  have hmemP: ∀j,j∈aU (cu v2 (h+1) {y with l:=a'++c'::n::b'} up)↔j∈aU (cu v h x (y::up))∨j=(k:Nat):=fun j=>by rw [nH.mem_iff]; simp
  have hxin:x.al∈aU (cu v h x (y::up)):=by rw [dW]; simp
  rw [hHl];refine ⟨G.ok,?_,?_,fun j hj=>?_,?_,fun j h1 h3=>?_,fun wt c hw=>?_,?_⟩
  ·rw [G.en,iG,iG];show bt (dN v2 up (h+1))++(bt (aR v2 h (a'++c'::n::b'))++bt (cB v2 up (h+1)))=_;rw [eT,eI,eI,df,df,df];have q1:aR v2 h a'=aR v h a':=(eZ (fun j hj=>ji j (by simp only [ct,cC]; rw [t1,cq,cr]; exact List.mem_append_right _ (List.mem_cons_of_mem _ hj)))).1
   have q2:aR v2 h b'=aR v h b':=(eZ (fun j hj=>pT j (by simp only [bK,bM]; rw [t2,cq]; exact List.mem_append_left _ hj))).1;have q3:bt (az v2 h c'.aH)=eK v h la:=enc;have q4:bt (az v2 h n.aH)=eK v h lb:=enn;rw [q1,q2,q3,q4,vi,oA,hl,ra];simp only [ct,bK,cC,bM];rw [t1,t2];simp
  ·refine G.pg.trans ?_;refine (nH.append_right new).trans ?_;simp
  ·rcases List.mem_cons.1 hj with rfl | hj
   ·exact hvk
   ·have:=G.fresh j hj;rw [hv j] at this
    ·exact this
    ·intro e; rw [e] at this; rw [this] at h2; exact absurd h2.1 (by decide)
    ·intro e; rw [e] at this; rw [this] at h2; exact absurd h2.2 (by decide)
  ·rw [List.nodup_cons];refine ⟨fun hm=>?_,G.Bu⟩;have:=G.fresh _ hm;rw [this] at h2;exact absurd h2.2 (by decide)
  ·rw [List.mem_cons,not_or] at h3;rw [G.out j (by rw [hmemP]; rintro (h5 | h5); exact h1 h5; exact h3.1 h5) h3.2];exact hv j (fun e=>h1 (by rw [e]; exact hxin)) h3.1
  ·have p1:=G.IU wt c hw;have p2:=MF wt c hw;rw [List.length_cons,Nat.mul_succ];omega
  ·refine G.h.imp id (fun ⟨h5,h6⟩=>⟨h5,fun wt c hw=>?_⟩);have p1:=h6 wt c hw;have p2:=MF wt c hw;omega
end Go.Proofs.YtmonobkginiajaaGreat.Sh
namespace Go.Proofs.YtmonobkginiajaaGreat.Sh
open Go.RowKit Pk Dk Pg
open Nd (E aF aJ cM bg aK bI bj ai cE)
theorem grow_ok {v v3:Vw} {h:Nat} {x:Step} (P:vY v h x []) {la lb:List E} (hl:x.l=la++lb) (ha:la≠[]) (hb:lb≠[]) (ba:ai la≤223) (bb:ai lb≤223) (hs:(ai la-151)+(ai lb-151)+73≤ai x.l-151)
  {k1 k2:Nat} (hk1:k1≤511) (hk2:k2≤511) (lz:v (k1:Nat)=([],3)) (nz:v (k2:Nat)=([],3)) (eg:k1≠k2)
  (vD:fV v3 (k1:Nat)=(decide (h=0),blank (decide (h=0)) la,0)) (Kc:fV v3 (k2:Nat)=(decide (h=0),blank (decide (h=0)) lb,0))
  (hd0:fV v3 0=(false,[⟨⟨#[]⟩,⟨#[]⟩,(k1:Nat)⟩,⟨keyOf lb,⟨#[]⟩,(k2:Nat)⟩],0)) (hv: ∀j:Int,j≠0→j≠(k1:Nat)→j≠(k2:Nat)→v3 j=v j):
  Grown v v3 h (h+1) (cu v h x []) [(k1:Nat),(k2:Nat)]:=by
 have vR:x.al=0:=P.hole;have hlk:=xH P.ok;have hkin:=P.nin.2.1;have dS:=P.ok;rw [hl] at dS;obtain ⟨sa,sb,s1,s2,s3⟩:=oy dS ha hb;have nk1: ∀j,(v j).2=0→j≠(k1:Nat):=fun j hj e=>by rw [e,lz] at hj; exact absurd hj (by decide)
 have nk2: ∀j,(v j).2=0→j≠(k2:Nat):=fun j hj e=>by rw [e,nz] at hj; exact absurd hj (by decide)
 have Bv: ∀j∈aU (bJ v h x.l),v3 j=v j:=fun j hj=>hv j (by rw [←vR]; exact hkin j hj) (nk1 j (hlk j hj)) (nk2 j (hlk j hj));rw [hl,jD,cq] at Bv;obtain ⟨ka1,ka2,ka3⟩:=iF (v:=v) (v':=v3) (h:=h) (l:=la) (fun j hj=>Bv j (List.mem_append_left _ hj));obtain ⟨kb1,kb2,kb3⟩:=iF (v:=v) (v':=v3) (h:=h) (l:=lb) (fun j hj=>Bv j (List.mem_append_right _ hj));obtain ⟨oa1,oa2,oa3⟩:=pR (ka3 sa) (Nat.le_trans (cH _ _) ba) vD
 obtain ⟨ob1,ob2,ob3⟩:=pR (kb3 sb) (Nat.le_trans (cH _ _) bb) Kc;rw [ka1] at oa2;rw [kb1] at ob2;rw [ka2] at oa3;rw [kb2] at ob3;have neA:=jE sa ha;have neB:=jE sb hb;have nA:ox (jX v3 h) (eU v3 h) [⟨⟨#[]⟩,⟨#[]⟩,(k1:Nat)⟩,⟨keyOf lb,⟨#[]⟩,(k2:Nat)⟩]:=by
  refine ⟨by simp,fun e he=>?_,?_,fun e he=>?_⟩
  ·simp only [List.mem_cons,List.not_mem_nil,or_false] at he
   rcases he with rfl | rfl
   ·exact ⟨oa1,by show eU v3 h _≠[]; rw [oa3]; exact neA⟩
   ·exact ⟨ob1,by show eU v3 h _≠[]; rw [ob3]; exact neB⟩
  ·rw [List.pairwise_cons];refine ⟨fun e he y hy=>?_,List.pairwise_singleton _ _⟩;rw [List.mem_singleton.1 he];have hy:y∈eU v3 h (k1:Nat):=hy;rw [oa3] at hy;exact s1 y hy
  ·have he:e∈[(⟨keyOf lb,⟨#[]⟩,(k2:Nat)⟩:E)]:=he;rw [List.mem_singleton.1 he];intro y hy;have hy:y∈eU v3 h (k2:Nat):=hy;rw [ob3] at hy;exact s2 y hy
 have hbyt:ai [(⟨⟨#[]⟩,⟨#[]⟩,(k1:Nat)⟩:E),⟨keyOf lb,⟨#[]⟩,(k2:Nat)⟩]≤46:=by
  rw [di,di];show 0+0+7+((keyOf lb).size+0+7+0)≤46;omega
 have hO:jX v3 (h+1) 0:=⟨by rw [hd0],by rw [hd0]; exact Nat.le_trans hbyt (by decide),by rw [hd0]; rfl,by rw [hd0]; exact nA⟩;have hns:az v3 (h+1) 0=(h+1,0,[⟨⟨#[]⟩,⟨#[]⟩,(k1:Nat)⟩,⟨keyOf lb,⟨#[]⟩,(k2:Nat)⟩])::(((h,((k1:Nat):Int),blank (decide (h=0)) la)::bJ v h la)++((h,((k2:Nat):Int),blank (decide (h=0)) lb)::bJ v h lb)):=by
  rw [m9,hd0];show _::aR v3 h _=_;rw [eI,eI,Ig,List.append_nil,←oa2,←ob2]
 have EP:cu v h x []=(h,0,x.l)::bJ v h x.l:=by unfold cu; simp only [ct,bK,cC,bM]; rw [vR]; simp
 refine ⟨hO,?_,?_,fun j hj=>?_,?_,fun j h1 h2=>?_,fun wt c hw=>?_,.inr ⟨rfl,fun wt c hw=>?_⟩⟩
 ·unfold eU;rw [hns,iD,df,←oa2,←ob2,iG];simp only [ct,bK,cC,bM];rw [hl,ra];show eU v3 h _++eU v3 h _=_;rw [oa3,ob3];simp
 ·rw [hns,EP,hl,jD,List.perm_iff_count];intro j;simp only [cr,cq,List.count_append,List.count_cons,List.count_nil];omega
 ·simp only [List.mem_cons,List.not_mem_nil,or_false] at hj
  rcases hj with rfl | rfl
  ·exact lz
  ·exact nz
 ·rw [List.nodup_cons];refine ⟨fun hm=>?_,by simp⟩;have:=List.mem_singleton.1 hm;omega
 ·rw [EP] at h1;simp only [cr,List.mem_cons,not_or,List.not_mem_nil,or_false] at h1 h2;exact hv j h1.1 h2.1 h2.2
 ·have h1:=hw h;have h2:=cH (decide (h=0)) la;have h3:=cH (decide (h=0)) lb;rw [hns,EP,hl,jD,if_neg (by omega)];simp only [dm,gE];rw [←hl];have m2:wt h*(ai (blank (decide (h=0)) la)-151)+wt h*(ai (blank (decide (h=0)) lb)-151)+wt h*73≤wt h*(ai x.l-151):=by
   rw [←Nat.mul_add,←Nat.mul_add];exact Nat.mul_le_mul_left _ (by omega)
  have m3:wt (h+1)*(ai [(⟨⟨#[]⟩,⟨#[]⟩,(k1:Nat)⟩:E),⟨keyOf lb,⟨#[]⟩,(k2:Nat)⟩]-151)=0:=by
   rw [Nat.sub_eq_zero_of_le (Nat.le_trans hbyt (by decide)),Nat.mul_zero]
  rw [m3];show _+c*2≤_;omega
 ·rw [EP,dm];show 73*wt h≤wt h*(ai x.l-151)+_;have:wt h*73≤wt h*(ai x.l-151):=Nat.mul_le_mul_left _ (by omega);omega
section
variable {o:Vw} {mm:Nat}
theorem rR: ∀(m:Nat) (up:List Step) (h:Nat) (x:Step) (q:QS) (v:Vw) (u:Nat),up.length<m→vY v h x up→Rd q v o u mm→
  ((eF m (x::up) q).2=11∧ ∃v' u',Rd (eF m (x::up) q).1 v' o u' mm∧u'≤u+up.length+2∧(mm≤u'∨512≤u'))∨
  ((eF m (x::up) q).2=0∧ ∃v' new H',Rd (eF m (x::up) q).1 v' o (u+new.length) mm∧Grown v v' (h+up.length) H' (cu v h x up) new)
 | 0,up,h,x,q,v,u,hm,P,R=>absurd hm (by omega)
 | m+1,up,h,x,q,v,u,hm,P,R=>by
  have hbk:=P.bk;have nS:=P.leaf;rw [nS] at hbk
  by_cases hT:ai x.l≤223
  ·have mA:=pS P.ok (by rw [hbk]; exact hT);rw [←nS] at mA;have e:eF (m+1) (x::up) q=q.cg x.al x.leaf x.l:=by
    unfold eF;rw [if_pos (.inr mA)]
   rw [e]
   rcases R.write P.here mA with ⟨w1,w2⟩ | ⟨w1,w2,w3⟩
   ·refine .inr ⟨w1,_,[],_,w2,Ij P hT ?_ (fun j hj=>?_)⟩
    ·rw [eP mA,if_pos rfl,nS,hbk]
    ·unfold gK;rw [if_neg hj]
   ·exact .inl ⟨w1,_,u,w2,by omega,.inl w3⟩
  ·have Ba:=Eo P.ok (by rw [hbk]; omega);rw [←nS] at Ba;have ew:q.cg x.al x.leaf x.l=(q,11):=by rw [Ie q x.al (by rw [Ba]; decide),Ba]
   obtain ⟨la,lb,e1,e2,e3,ha,hb,ba,bb,hs⟩:=Ih P.cost (by omega) P.sz;have dS:=P.ok;rw [e1] at dS;obtain ⟨sa,sb,s1,s2,s3⟩:=oy dS ha hb;have la0:(aY x.leaf la).2=0:=by rw [nS]; exact pS sa (Nat.le_trans (cH _ _) ba)
   have lb0:(aY x.leaf lb).2=0:=by rw [nS]; exact pS sb (Nat.le_trans (cH _ _) bb)
   cases up with
   | nil=>
    have vR:x.al=0:=P.hole;have e:eF (m+1) [x] q=q.uP x.leaf la lb:=by
     unfold eF;rw [ew,if_neg (by rw [Ba]; simp)];dsimp only;rw [e2,e3]
    rw [e];unfold QS.uP
    rcases R.make la0 with ⟨k1,a1,a2,a3,a4⟩ | ⟨a1,a2,a3⟩
    ·rw [a1,if_neg (by simp)];dsimp only
     rcases a4.make lb0 with ⟨k2,b1,b2,b3,b4⟩ | ⟨b1,b2,b3⟩
     ·rw [b1,if_neg (by simp)];dsimp only;have eg:k1≠k2:=fun e=>by
       unfold gK at b3;rw [e,if_pos rfl] at b3;exact absurd (congrArg Prod.snd b3) (by show ¬(0:Int)=3; decide)
      have nz:v (k2:Nat)=([],3):=by
       unfold gK at b3;rw [if_neg (by omega)] at b3;exact b3
      have EK:(v 0).2=0:=by have h0:=P.here; rw [vR] at h0; exact h0
      have h0k1:(0:Int)≠(k1:Nat):=fun e=>by rw [←e] at a3; rw [a3] at EK; exact absurd EK (by simp)
      have h0k2:(0:Int)≠(k2:Nat):=fun e=>by rw [←e] at nz; rw [nz] at EK; exact absurd EK (by simp)
      have hL:(aY false [⟨⟨#[]⟩,⟨#[]⟩,(k1:Nat)⟩,⟨keyOf lb,⟨#[]⟩,(k2:Nat)⟩]).2=0:=by
       rcases kJ false [⟨⟨#[]⟩,⟨#[]⟩,(k1:Nat)⟩,⟨keyOf lb,⟨#[]⟩,(k2:Nat)⟩] with h1 | h1 | h1
       ·exact h1.2.2.1
       ·have h2:=h1.2.1;have h3:blank false [(⟨⟨#[]⟩,⟨#[]⟩,(k1:Nat)⟩:E),⟨keyOf lb,⟨#[]⟩,(k2:Nat)⟩]=[⟨⟨#[]⟩,⟨#[]⟩,(k1:Nat)⟩,⟨keyOf lb,⟨#[]⟩,(k2:Nat)⟩]:=rfl;rw [h3,di,di] at h2;have h4:0+0+7+((keyOf lb).size+0+7+0)>223:=h2;omega
       ·exfalso;refine h1.1 ?_;show cM [(⟨⟨#[]⟩,⟨#[]⟩,(k1:Nat)⟩:E),⟨keyOf lb,⟨#[]⟩,(k2:Nat)⟩] false;refine El (fun z hz=>?_) ?_
        ·simp only [List.mem_cons,List.not_mem_nil,or_false] at hz
         rcases hz with rfl | rfl
         ·exact ⟨Nat.zero_le _,Nat.zero_le _,by show (if false=true then (-1:Int) else 0)≤((k1:Nat):Int); rw [if_neg (by simp)]; omega,by show ((k1:Nat):Int)<512; omega,.inr rfl⟩
         ·exact ⟨s3,Nat.zero_le _,by show (if false=true then (-1:Int) else 0)≤((k2:Nat):Int); rw [if_neg (by simp)]; omega,by show ((k2:Nat):Int)<512; omega,.inr rfl⟩
        ·rw [List.pairwise_cons];refine ⟨fun z hz=>?_,List.pairwise_singleton _ _⟩;rw [List.mem_singleton.1 hz];obtain ⟨y,hy⟩:=List.exists_mem_of_ne_nil _ (jE sa ha);exact il (xG y.key) (s1 y hy)
      have iL:(gK (gK v (k1:Nat) (aY x.leaf la).1) (k2:Nat) (aY x.leaf lb).1 0).2=0:=by
       rw [jr _ _ h0k2,jr _ _ h0k1];exact EK
      rcases b4.write iL hL with ⟨c1,c2⟩ | ⟨c1,c2,c3⟩
      ·refine .inr ⟨c1,_,[(k1:Nat),(k2:Nat)],h+1,c2,?_⟩;refine grow_ok P e1 ha hb ba bb hs a2 b2 a3 nz eg ?_ ?_ ?_ (fun j j1 j2 j3=>?_)
       ·rw [eP hL,if_neg (fun e=>h0k1 e.symm),eP lb0,if_neg (by omega),eP la0,if_pos rfl,nS]
       ·rw [eP hL,if_neg (fun e=>h0k2 e.symm),eP lb0,if_pos rfl,nS]
       ·rw [eP hL,if_pos rfl];rfl
       ·rw [jr _ _ j1,jr _ _ j3,jr _ _ j2]
      ·exact .inl ⟨c1,_,_,c2,by simp,.inl c3⟩
     ·rw [b1,if_pos (by simp)];exact .inl ⟨rfl,_,u+1+1,b2,by simp,b3.imp (fun h=>by omega) (fun h=>by omega)⟩
    ·rw [a1,if_pos (by simp)];exact .inl ⟨rfl,_,u+1,a2,by omega,a3.imp (fun h=>by omega) (fun h=>by omega)⟩
   | cons y up=>
    have e:eF (m+1) (x::y::up) q=if (q.dh x.leaf lb).2.2≠0 then ((q.dh x.leaf lb).1,(q.dh x.leaf lb).2.2)
      else if ((q.dh x.leaf lb).1.cg x.al x.leaf la).2≠0 then (q.dh x.leaf lb).1.cg x.al x.leaf la
      else eF m ({y with l:=y.l.insertIdx (y.at_+1) ⟨keyOf lb,⟨#[]⟩,(q.dh x.leaf lb).2.1⟩}::up) ((q.dh x.leaf lb).1.cg x.al x.leaf la).1:=by
     rw [eF];rw [ew,if_neg (by rw [Ba]; simp)];dsimp only;rw [e2,e3]
    rw [e]
    rcases R.make lb0 with ⟨k,a1,a2,a3,a4⟩ | ⟨a1,a2,a3⟩
    ·rw [a1,if_neg (by simp)];dsimp only;have hxk:x.al≠(k:Nat):=fun e=>by have h0:=P.here; rw [e,a3] at h0; exact absurd h0 (by decide)
     have hz:(gK v (k:Nat) (aY x.leaf lb).1 x.al).2=0:=by
      unfold gK;rw [if_neg hxk];exact P.here
     rcases a4.write hz la0 with ⟨c1,c2⟩ | ⟨c1,c2,c3⟩
     ·rw [if_neg (by rw [c1]; simp)];obtain ⟨P2,hG⟩:=pend_up (v2:=gK (gK v (k:Nat) (aY x.leaf lb).1) x.al (aY x.leaf la).1) P e1 ha hb ba bb hs a2 a3 (by rw [eP la0,if_pos rfl,nS]) (by rw [eP la0,if_neg (fun e=>hxk e.symm),eP lb0,if_pos rfl,nS])
       (fun j j1 j2=>by unfold gK; rw [if_neg j1,if_neg j2]) ⟨by unfold gK; rw [if_pos rfl],by unfold gK; rw [if_neg (fun e=>hxk e.symm),if_pos rfl]⟩
      rcases rR m up (h+1) _ _ _ (u+1) (by simp at hm; omega) P2 c2 with ⟨d1,v',u',d2,d3,d4⟩ | ⟨d1,v',new,H',d2,d3⟩
      ·exact .inl ⟨d1,v',u',d2,by simp; omega,d4⟩
      ·refine .inr ⟨d1,v',(k:Nat)::new,H',?_,hG d3⟩;rw [List.length_cons,show u+(new.length+1)=u+1+new.length by omega];exact d2
     ·rw [if_pos (by rw [c1]; simp)];exact .inl ⟨c1,_,_,c2,by omega,.inl c3⟩
    ·rw [a1,if_pos (by simp)];exact .inl ⟨rfl,_,u+1,a2,by omega,a3.imp (fun h=>by omega) (fun h=>by omega)⟩
end
end Go.Proofs.YtmonobkginiajaaGreat.Sh
namespace Go.Proofs.YtmonobkginiajaaGreat.Sh
open Go.RowKit Pk Dk Pg
open Nd (E)
def rdC (v:Vw) (l:Int):Int×List UInt8×Int:=
 if (v l).2≠0 then (0,[],(v l).2) else if 228<bh (v l).1 2 then (0,[],14) else ((bh (v l).1 0:Int)-1,((v l).1.drop 4).take (bh (v l).1 2),0)
def Im (v:Vw):Int→List Int→List UInt8→Prop
 | p,[],b=>p= -1∧b=[]
 | p,q::L,b=>p=q∧ ∃nx pc b',rdC v q=(nx,pc,0)∧b=pc++b'∧Im v nx L b'
theorem rdC_ok {v:Vw} {q nx:Int} {pc:List UInt8} (h:rdC v q=(nx,pc,0)):(v q).2=0:=by
 unfold rdC at h
 by_cases h0:(v q).2=0
 ·exact h0
 ·rw [if_pos h0,Prod.mk.injEq,Prod.mk.injEq] at h;exact absurd h.2.2 h0
theorem Io {v v':Vw} {q:Int} (h:v' q=v q):rdC v' q=rdC v q:=by unfold rdC; rw [h]
theorem Im.here {v:Vw}: ∀{L:List Int} {p:Int} {b:List UInt8},Im v p L b→ ∀q∈L,(v q).2=0
 | [],_,_,_=>by simp
 | q::L,p,b,h=>by
  obtain ⟨rfl,nx,pc,b',h1,h2,h3⟩:=h;intro x hx
  rcases List.mem_cons.1 hx with rfl | hx
  ·exact rdC_ok h1
  ·exact h3.here x hx
theorem Im.congr {v v':Vw}: ∀{L:List Int} {p:Int} {b:List UInt8},Im v p L b→(∀q∈L,v' q=v q)→Im v' p L b
 | [],_,_,h,_=>h
 | q::L,p,b,h,e=>by
  obtain ⟨rfl,nx,pc,b',h1,h2,h3⟩:=h;exact ⟨rfl,nx,pc,b',by rw [Io (e p (List.mem_cons_self ..))]; exact h1,h2,h3.congr (fun x hx=>e x (List.mem_cons_of_mem _ hx))⟩
section
variable {o:Vw} {mm:Nat}
theorem Im.neg {q:QS} {v:Vw} {u:Nat} (R:Rd q v o u mm) {L:List Int} {p:Int} {b:List UInt8} (h:Im v p L b):p<0↔L=[]:=by
 cases L with
 | nil=>obtain ⟨rfl,rfl⟩:=h; exact ⟨fun _=>rfl,fun _=>by omega⟩
 | cons q L=>
  have:=R.lt (h.here q (List.mem_cons_self ..));obtain ⟨rfl,_⟩:=h;exact ⟨fun h=>by omega,fun h=>absurd h (by simp)⟩
theorem Rd.dM {q:QS} {v:Vw} {u:Nat} (R:Rd q v o u mm) (p:Int):Rd (q.dM p).1 v o u mm∧((q.dM p).2=rdC v p∨((q.dM p).2=(0,[],11)∧mm≤u)):=by
 obtain ⟨a,b⟩:=R.get p;unfold QS.dM rdC
 rcases b with ⟨b1,b2⟩ | ⟨b1,b2⟩ | ⟨b1,b2⟩
 ·rw [b2,if_neg (show ¬((⟨(v p).1.toArray⟩:ByteArray),(0:Int)).2≠0 by simp),if_neg (show ¬(v p).2≠0 by omega)]
  by_cases hx:228<bh (v p).1 2
  ·have hx2:228<bh (⟨(v p).1.toArray⟩:ByteArray).data.toList 2:=hx;rw [if_pos hx2,if_pos hx];exact ⟨a,.inl rfl⟩
  ·have hx2: ¬228<bh (⟨(v p).1.toArray⟩:ByteArray).data.toList 2:=hx;rw [if_neg hx2,if_neg hx];exact ⟨a,.inl rfl⟩
 ·rw [b2,b1,if_pos (by simp),if_pos (by simp)];exact ⟨a,.inl rfl⟩
 ·rw [b1,if_pos (by simp)];exact ⟨a,.inr ⟨rfl,b2⟩⟩
theorem oC: ∀{L:List Int} {p:Int} {b:List UInt8} (m:Nat) (l:List Int) (acc:List UInt8) (q:QS) (v:Vw) (u:Nat),Rd q v o u mm→Im v p L b→L≠[]→L.length≤m→(acc++b).length≤1024→
  Rd (q.lC m p l acc).1 v o u mm∧((q.lC m p l acc).2=(l++L,acc++b,0)∨((q.lC m p l acc).2=([],[],11)∧mm≤u))
 | [],_,_,_,_,_,_,_,_,_,_,h,_,_=>absurd rfl h
 | c::L,p,b,0,_,_,_,_,_,_,_,_,h,_=>by simp at h
 | c::L,p,b,m+1,l,acc,q,v,u,R,h,_,hm,hb=>by
  obtain ⟨rfl,nx,pc,b',h1,rfl,h3⟩:=h;obtain ⟨r1,r2⟩:=R.dM p;unfold QS.lC
  rcases r2 with r2 | ⟨r2,r3⟩
  ·rw [h1] at r2;rw [r2];dsimp only;rw [if_neg (by omega),if_neg (by omega),if_neg (by simp at hb ⊢; omega)];have yr:=h3.neg R
   by_cases hn:nx<0
   ·have hL:=yr.1 hn;subst hL;obtain ⟨_,rfl⟩:=h3;rw [if_pos hn,List.append_nil];exact ⟨r1,.inl rfl⟩
   ·have hL:L≠[]:=fun e=>hn (yr.2 e);rw [if_neg hn];obtain ⟨i1,i2⟩:=oC m (l++[p]) (acc++pc) (q.dM p).1 v u r1 h3 hL (by simpa using hm) (by simpa [List.append_assoc] using hb);refine ⟨i1,i2.imp (fun e=>?_) id⟩;rw [e];simp
  ·rw [r2];dsimp only;rw [if_neg (by omega),if_pos (by omega)];exact ⟨r1,.inr ⟨rfl,r3⟩⟩
def jV (v:Vw) (L:List Int):Vw:=fun j=>if j∈L then ([],3) else v j
theorem vj (v:Vw):jV v []=v:=by funext j; simp [jV]
theorem vk: ∀(L:List Int) (q:QS) (v:Vw) (u:Nat),Rd q v o u mm→L.Nodup→(∀j∈L,(v j).2=0)→(q.pB L).2=0∧Rd (q.pB L).1 (jV v L) o u mm
 | [],q,v,u,R,_,_=>by rw [vj]; exact ⟨rfl,R⟩
 | p::L,q,v,u,R,hn,hh=>by
  rw [List.nodup_cons] at hn;obtain ⟨a,b⟩:=R.drop p (hh p (by simp));unfold QS.pB;rw [if_neg (by rw [a]; simp)];obtain ⟨c,d⟩:=vk L (q.aE p).1 _ u b hn.2 (fun j hj=>by
   have eg:j≠p:=fun e=>hn.1 (by rw [←e]; exact hj);rw [yV v eg]; exact hh j (by simp [hj]))
  refine ⟨c,?_⟩;have e:jV (yU v p) L=jV v (p::L):=by
   funext j
   unfold jV yU
   by_cases h1:j∈L
   ·rw [if_pos h1,if_pos (by simp [h1])]
   ·rw [if_neg h1]
    by_cases h2:j=p
    ·rw [if_pos h2,if_pos (by simp [h2])]
    ·rw [if_neg h2,if_neg (by simp [h1,h2])]
  rw [←e];exact d
theorem Rd.dropAny {q:QS} {v:Vw} {u:Nat} (R:Rd q v o u mm) (p:Int): ∃v',Rd (q.aE p).1 v' o u mm:=by
 rcases R.err p with h | h
 ·exact ⟨_,(R.drop p h).2⟩
 ·obtain ⟨n,K,w⟩:=R.w;obtain ⟨a,c⟩:=w.drop p
  rcases c with ⟨c1,c2,c3⟩ | ⟨c1,c2,c3⟩
  ·rw [R.v,h] at c1; exact absurd c1 (by decide)
  ·exact ⟨v,R.step (Bl q p) ⟨n,_,a.w⟩ (fun j=>(c3 j).trans (R.v j))⟩
theorem rS: ∀(L:List Int) (q:QS) (v:Vw) (u:Nat),Rd q v o u mm→ ∃v',Rd (q.j7 L) v' o u mm
 | [],q,v,u,R=>⟨v,R⟩
 | p::L,q,v,u,R=>by
  obtain ⟨v1,R1⟩:=R.dropAny p;rw [QS.pC];exact rS L _ _ _ R1
theorem link_rd (next:Nat) (v:List UInt8) (i:Nat) (hn:next<60000):(ij v i ((next:Int)-1)).length≤232∧bh (dA (ij v i ((next:Int)-1)) 232) 0=next∧bh (dA (ij v i ((next:Int)-1)) 232) 2=(cV v i).length∧((dA (ij v i ((next:Int)-1)) 232).drop 4).take (cV v i).length=cV v i:=by
 have hp:(cV v i).length≤228:=by unfold cV; rw [List.length_take]; omega
 unfold ij dA;rw [show ((next:Int)-1+1).toNat=next by omega];generalize cV v i=pc at *;unfold lZ bh;refine ⟨by simp; omega,?_,?_,?_⟩
 ·simp;omega
 ·simp;omega
 ·simp
theorem Ip (v:List UInt8) (i:Nat):(cV v i).length≤228:=by unfold cV; rw [List.length_take]; omega
theorem Es (v:List UInt8) (i:Nat):v.drop (228*i)=cV v i++v.drop (228*(i+1)):=by
 unfold cV;rw [show 228*(i+1)=228*i+228 by omega,←List.drop_drop,List.take_append_drop]
theorem xJ (val:List UInt8): ∀(i:Nat) (q:QS) (v:Vw) (u:Nat) (next:Int) (made:List Int) (L:List Int),Rd q v o u mm→Im v next L (val.drop (228*i))→ -1≤next→next≤511→
  ((QS.nW val i q next made).2.2=11∧ ∃v' u',Rd (QS.nW val i q next made).1 v' o u' mm∧u'≤u+i∧(mm≤u'∨512≤u'))∨
  ((QS.nW val i q next made).2.2=0∧ -1≤(QS.nW val i q next made).2.1∧(QS.nW val i q next made).2.1≤511∧ ∃v' new,Rd (QS.nW val i q next made).1 v' o (u+new.length) mm∧Im v' (QS.nW val i q next made).2.1 (new++L) val∧new.length=i∧(∀j∈new,v j=([],3))∧new.Nodup∧ ∀j,j∉new→v' j=v j)
 | 0,q,v,u,next,made,L,R,hc,h1,h2=>by
  right;exact ⟨rfl,h1,h2,v,[],R,hc,rfl,by simp,List.nodup_nil,fun _ _=>rfl⟩
 | i+1,q,v,u,next,made,L,R,hc,h1,h2=>by
  obtain ⟨nx,rfl⟩: ∃nx:Nat,next=(nx:Int)-1:=⟨(next+1).toNat,by omega⟩;obtain ⟨k1,k2,k3,k4⟩:=link_rd nx val i (by omega);unfold QS.nW;have hn:=R.new ⟨(ij val i ((nx:Int)-1)).toArray⟩ (by show (ij val i _).toArray.size≤232; rw [List.size_toArray]; exact k1);have hd:(⟨(ij val i ((nx:Int)-1)).toArray⟩:ByteArray).data.toList=ij val i ((nx:Int)-1):=rfl;rw [hd] at hn
  rcases hn with ⟨k,a1,a2,a3,a4⟩ | ⟨a1,a2,a3⟩
  ·rw [if_neg (by rw [a1]; simp)];rw [show (q.bm (ij val i ((nx:Int)-1))).2.1=((k:Nat):Int) from by rw [a1]];have hch:Im (gK v (k:Nat) (dA (ij val i ((nx:Int)-1)) 232)) (k:Nat) ((k:Nat)::L) (val.drop (228*i)):=by
    refine ⟨rfl,(nx:Int)-1,cV val i,val.drop (228*(i+1)),?_,Es val i,hc.congr (fun x hx=>?_)⟩
    ·unfold rdC;have rW:=Ip val i;rw [xE,if_neg (by simp)];dsimp only;rw [k3,if_neg (by omega),k2,k4]
    ·have yp:=hc.here x hx;have eg:x≠((k:Nat):Int):=fun e=>by rw [e,a3] at yp; exact absurd yp (by decide)
     exact jr v _ eg
   rcases xJ val i _ _ (u+1) ((k:Nat):Int) (made++[((k:Nat):Int)]) ((k:Nat)::L) a4 hch (by omega) (by omega) with ⟨b1,v',u',b2,b3,b4⟩ | ⟨b1,b2,b3,v',new,b4,b5,b6,b7,b8,b9⟩
   ·exact .inl ⟨b1,v',u',b2,by omega,b4⟩
   ·refine .inr ⟨b1,b2,b3,v',new++[((k:Nat):Int)],by rw [List.length_append,List.length_singleton,show u+(new.length+1)=u+1+new.length by omega]; exact b4,by rw [List.append_assoc]; exact b5,by simp [b6],fun j hj=>?_,?_,fun j hj=>?_⟩
    ·rcases List.mem_append.1 hj with hj | hj
     ·have h3:=b7 j hj
      by_cases e:j=((k:Nat):Int)
      ·rw [e]; exact a3
      ·rw [jr v _ e] at h3;exact h3
     ·rw [List.mem_singleton.1 hj]; exact a3
    ·rw [List.nodup_append];refine ⟨b8,by simp,fun x hx y hy e=>?_⟩;rw [List.mem_singleton.1 hy] at e;have h3:=b7 x hx;rw [e,xE] at h3;exact absurd (congrArg Prod.snd h3) (by show ¬(0:Int)=3; decide)
    ·rw [List.mem_append,not_or] at hj;rw [b9 j hj.1,jr v _ (fun e=>hj.2 (by simp [e]))]
  ·rw [if_pos (by rw [a1]; simp)];left;obtain ⟨v1,R1⟩:=rS made _ _ _ a2;exact ⟨by show (q.bm _).2.2=11; rw [a1],v1,u+1,R1,by omega,a3.imp (fun h=>by omega) (fun h=>by omega)⟩
def IV (v:Vw) (e:E) (val:ByteArray) (L:List Int):Prop:=
 (e.aH= -1∧e.val=val∧L=[]∧val.size≤40)∨(0≤e.aH∧e.aH≤511∧e.val.size=0∧L≠[]∧L.length=(fq val.size).toNat∧40<val.size∧val.size≤1024∧Im v e.aH L val.data.toList∧L.Nodup)
theorem sG {n:Nat} (h:n≤1024):1≤(fq n).toNat∧(fq n).toNat≤5∧n≤228*(fq n).toNat:=by
 unfold fq;omega
theorem IV.congr {v v':Vw} {e:E} {val:ByteArray} {L:List Int} (h:IV v e val L) (hv: ∀j∈L,v' j=v j):IV v' e val L:=by
 rcases h with h | ⟨a,b,z,c,d,f,g,i,j⟩
 ·exact .inl h
 ·exact .inr ⟨a,b,z,c,d,f,g,i.congr hv,j⟩
theorem IV.here {v:Vw} {e:E} {val:ByteArray} {L:List Int} (h:IV v e val L): ∀j∈L,(v j).2=0:=by
 rcases h with ⟨_,_,h,_⟩ | ⟨a,b,z,c,d,f,g,i,j⟩
 ·rw [h]; simp
 ·exact i.here
theorem IV.nodup {v:Vw} {e:E} {val:ByteArray} {L:List Int} (h:IV v e val L):L.Nodup:=by
 rcases h with ⟨_,_,h,_⟩ | ⟨a,b,z,c,d,f,g,i,j⟩
 ·rw [h]; exact List.nodup_nil
 ·exact j
theorem vn {q:QS} {v:Vw} {u:Nat} (R:Rd q v o u mm) {e:E} {val:ByteArray} {L:List Int} (h:IV v e val L):
  Rd (q.fS e).1 v o u mm∧((q.fS e).2=(val,0)∨((q.fS e).2.2=11∧mm≤u)):=by
 unfold QS.fS
 rcases h with ⟨a,b,c,d⟩ | ⟨a,b,z,c,d,f,g,i,j⟩
 ·rw [if_pos (by omega)];exact ⟨R,.inl (by rw [b])⟩
 ·rw [if_neg (by omega)];have hn:=sG g;have hs:val.data.toList.length=val.size:=by simp
  obtain ⟨w1,w2⟩:=oC 5 [] [] q v u R i c (by omega) (by rw [List.nil_append,hs]; exact g);refine ⟨w1,?_⟩;unfold QS.dC
  rcases w2 with w2 | ⟨w2,w3⟩
  ·left;rw [w2];rfl
  ·right;rw [w2];exact ⟨rfl,w3⟩
theorem xK {q:QS} {v:Vw} {u:Nat} (R:Rd q v o u mm) {e:E} {val:ByteArray} {L:List Int} (h:IV v e val L):
  ((q.mq e).2=0∧Rd (q.mq e).1 (jV v L) o u mm)∨((q.mq e).2=11∧Rd (q.mq e).1 v o u mm∧mm≤u):=by
 unfold QS.mq
 rcases h with ⟨a,b,c,d⟩ | ⟨a,b,z,c,d,f,g,i,j⟩
 ·rw [if_pos (by omega),c,vj];exact .inl ⟨rfl,R⟩
 ·rw [if_neg (by omega)];have hn:=sG g;have hs:val.data.toList.length=val.size:=by simp
  obtain ⟨w1,w2⟩:=oC 5 [] [] q v u R i c (by omega) (by rw [List.nil_append,hs]; exact g);unfold QS.l5;have w1:Rd (q.dC e.aH).1 v o u mm:=w1
  rcases w2 with w2 | ⟨w2,w3⟩
  ·have w2:(q.dC e.aH).2=([]++L,[]++val.data.toList,0):=w2;rw [w2,if_neg (by simp)];obtain ⟨d1,d2⟩:=vk L (q.dC e.aH).1 v u w1 j i.here;left;refine ⟨?_,d2⟩;show r5 ((q.dC e.aH).1.pB L).2=0;rw [d1];decide
  ·have w2:(q.dC e.aH).2=([],[],11):=w2;rw [w2,if_pos (by simp)];exact .inr ⟨(by decide:r5 11=11),w1,w3⟩
theorem Iq {q:QS} {v:Vw} {u:Nat} (R:Rd q v o u mm) (key val:ByteArray) (hv:val.size≤1024):
  ((q.gm key val).2.2=11∧ ∃v' u',Rd (q.gm key val).1 v' o u' mm∧u'≤u+5∧(mm≤u'∨512≤u'))∨
  ((q.gm key val).2.2=0∧ ∃v' L,Rd (q.gm key val).1 v' o (u+L.length) mm∧IV v' (q.gm key val).2.1 val L∧(q.gm key val).2.1.key=key∧(∀j∈L,v j=([],3))∧ ∀j,j∉L→v' j=v j):=by
 unfold QS.gm
 by_cases h:val.size≤40
 ·rw [if_pos h];exact .inr ⟨rfl,v,[],R,.inl ⟨rfl,rfl,rfl,h⟩,rfl,by simp,fun _ _=>rfl⟩
 ·rw [if_neg h];have hn:=sG hv;have hs:val.data.toList.length=val.size:=by simp
  have he:q.l6 val.data.toList=QS.nW val.data.toList (fq val.size).toNat q (-1) []:=by
   unfold QS.l6;rw [if_neg (by omega),hs]
  rw [he]
  rcases xJ val.data.toList (fq val.size).toNat q v u (-1) [] [] R ⟨rfl,List.drop_eq_nil_of_le (by omega)⟩ (by omega) (by omega) with ⟨a1,v',u',a2,a3,a4⟩ | ⟨a1,a2,a3,v',new,a4,a5,a6,a7,a8,a9⟩
  ·exact .inl ⟨a1,v',u',a2,by omega,a4⟩
  ·rw [List.append_nil] at a5;have eg:new≠[]:=fun e=>by rw [e] at a6; simp at a6; omega
   have hp: ¬(QS.nW val.data.toList (fq val.size).toNat q (-1) []).2.1<0:=fun h=>eg ((a5.neg a4).1 h);exact .inr ⟨a1,v',new,a4,.inr ⟨Int.not_lt.1 hp,a3,rfl,eg,a6,by omega,hv,a5,a8⟩,rfl,a7,a9⟩
end
end Go.Proofs.YtmonobkginiajaaGreat.Sh
namespace Go.Proofs.YtmonobkginiajaaGreat.Sh
open Go.RowKit Pk Dk Pg
open Nd (E aF aJ cM bg aK bI bj ai cE)
abbrev MT:=E×ByteArray×List Int
def lJ (M:List MT):List Int:=M.flatMap fun m=>m.2.2
def kM (M:List MT):List (ByteArray×ByteArray):=M.map fun m=>(m.1.key,m.2.1)
@[simp] theorem ef (a b:List MT):lJ (a++b)=lJ a++lJ b:=by simp [lJ]
@[simp] theorem FD:lJ []=[]:=rfl
@[simp] theorem jW (m:MT) (b:List MT):lJ (m::b)=m.2.2++lJ b:=rfl
@[simp] theorem FE (a b:List MT):kM (a++b)=kM a++kM b:=by simp [kM]
@[simp] theorem prs_nil:kM []=[]:=rfl
@[simp] theorem Bx (m:MT) (b:List MT):kM (m::b)=(m.1.key,m.2.1)::kM b:=rfl
structure Tree (v:Vw) (H:Nat) (M:List MT):Prop where
 ok:jX v H 0
 en:M.map (fun m=>m.1)=eU v H 0
 va: ∀m∈M,IV v m.1 m.2.1 m.2.2
 Bu:(aU (az v H 0)++lJ M).Nodup
 all: ∀j,(v j).2=0→j∈aU (az v H 0)++lJ M
structure Et (l:List (ByteArray×ByteArray)) (key:ByteArray) (A C B:List (ByteArray×ByteArray)):Prop where
 e:l=A++(C++B)
 a: ∀x∈A,fW x.1 key
 b: ∀x∈B,fW key x.1
 c:C=[]∨ ∃y,C=[(key,y)]
structure Dec (v:Vw) (key:ByteArray) (up:List Step) (x:Step) (M M1 MC M2:List MT) (a b:List E):Prop where
 n:aK x.l key=a.length
 l:x.l=a++(MC.map (fun m=>m.1)++b)
 m:M=M1++(MC++M2)
 m1:M1.map (fun m=>m.1)=bt (dN v up 0)++a
 m2:M2.map (fun m=>m.1)=b++bt (cB v up 0)
 k1: ∀m∈M1,fW m.1.key key
 k2: ∀m∈M2,fW key m.1.key
 c:(MC=[]∧bI x.l key=false)∨ ∃m,MC=[m]∧m.1.key=key∧bI x.l key=true
theorem vq {v:Vw} {H:Nat} {M:List MT} {key:ByteArray} {up:List Step} {x:Step} (T:Tree v H M) (W:WayV v key up x) (hl:up.length=H): ∃M1 MC M2 a b,Dec v key up x M M1 MC M2 a b:=by
 obtain ⟨p1,p2,p3,p4,p5⟩:=vg W;rw [hl] at p5;have kI:=T.en;rw [p5] at kI;obtain ⟨a,b,h1,h2,h3,h4⟩:=vf (nc W.nd) key;have main: ∀(c b':List E),b=c++b'→(∀e∈b',fW key e.key)→ ∃M1 MC M2,M=M1++(MC++M2)∧M1.map (fun m=>m.1)=bt (dN v up 0)++a∧MC.map (fun m=>m.1)=c∧M2.map (fun m=>m.1)=b'++bt (cB v up 0)∧(∀m∈M1,fW m.1.key key)∧(∀m∈M2,fW key m.1.key):=fun c b' hb hb'=>by
  have Ea:M.map (fun m=>m.1)=(bt (dN v up 0)++a)++(c++(b'++bt (cB v up 0))):=by rw [kI,h1,hb]; simp
  obtain ⟨M1,MR,e1,e2,e3⟩:=List.map_eq_append_iff.1 Ea;obtain ⟨MC,M2,e4,e5,e6⟩:=List.map_eq_append_iff.1 e3;refine ⟨M1,MC,M2,by rw [e1,e4],e2,e5,e6,fun m hm=>?_,fun m hm=>?_⟩
  ·have:m.1∈bt (dN v up 0)++a:=by rw [←e2]; exact List.mem_map.2 ⟨m,hm,rfl⟩
   rcases List.mem_append.1 this with h | h
   ·exact p3 _ h
   ·exact h3 _ h
  ·have:m.1∈b'++bt (cB v up 0):=by rw [←e6]; exact List.mem_map.2 ⟨m,hm,rfl⟩
   rcases List.mem_append.1 this with h | h
   ·exact hb' _ h
   ·exact p4 _ h
 rcases h4 with ⟨h4,c,b',hb,hc,hb'⟩ | ⟨h4,hb⟩
 ·obtain ⟨M1,MC,M2,e1,e2,e3,e4,e5,e6⟩:=main [c] b' (by rw [hb]; rfl) hb';have hMC: ∃m,MC=[m]∧m.1=c:=by
   match MC,e3 with
   | [m],e3=>exact ⟨m,rfl,by simpa using e3⟩
   | [],e3=>exact absurd e3 (by simp)
   | _::_::_,e3=>exact absurd e3 (by simp)
  obtain ⟨m,rfl,rfl⟩:=hMC;exact ⟨M1,[m],M2,a,b',h2,by rw [h1,hb]; simp,e1,e2,e4,e5,e6,.inr ⟨m,rfl,hc,h4⟩⟩
 ·obtain ⟨M1,MC,M2,e1,e2,e3,e4,e5,e6⟩:=main [] b rfl hb;have hMC:MC=[]:=List.map_eq_nil_iff.1 e3;subst hMC;exact ⟨M1,[],M2,a,b,h2,by rw [h1]; simp,e1,e2,e4,e5,e6,.inl ⟨rfl,h4⟩⟩
theorem Dec.MG {v:Vw} {key:ByteArray} {up:List Step} {x:Step} {M M1 MC M2:List MT} {a b:List E} (d:Dec v key up x M M1 MC M2 a b):Et (kM M) key (kM M1) (kM MC) (kM M2):=by
 refine ⟨by rw [d.m]; simp,fun y hy=>?_,fun y hy=>?_,?_⟩
 ·obtain ⟨m,hm,rfl⟩:=List.mem_map.1 hy;exact d.k1 m hm
 ·obtain ⟨m,hm,rfl⟩:=List.mem_map.1 hy;exact d.k2 m hm
 ·rcases d.c with ⟨h,_⟩ | ⟨m,h,hk,_⟩
  ·rw [h]; exact .inl rfl
  ·rw [h]; exact .inr ⟨m.2.1,by rw [←hk]; rfl⟩
section
variable {o:Vw} {mm:Nat}
def mgetF (C:List (ByteArray×ByteArray)):ByteArray×Int:=match C with
 | []=>(⟨#[]⟩,9)
 | x::_=>(x.2,0)
theorem vr (up:List Step) (x:Step):fT (up.reverse++[x])=x:=by unfold fT; simp
theorem MH {q:QS} {v:Vw} {u H:Nat} {M:List MT} (R:Rd q v o u mm) (T:Tree v H M) (hH:H≤15) (key:ByteArray):
  Rd (q.qW key).1 v o u mm∧(((q.qW key).2.2=11∧mm≤u)∨ ∃A C B,Et (kM M) key A C B∧(q.qW key).2=mgetF C):=by
 obtain ⟨r1,r2⟩:=yX R T.ok hH key;unfold QS.qW
 rcases r2 with ⟨r2,r3⟩ | ⟨r2,up,x,r3,r4,W⟩
 ·rw [if_pos (by rw [r2]; simp)];exact ⟨r1,.inl ⟨r2,r3⟩⟩
 ·rw [if_neg (by rw [r2]; simp),r3,vr];obtain ⟨M1,MC,M2,a,b,d⟩:=vq T W r4;have hp:=d.MG
  rcases d.c with ⟨h1,h2⟩ | ⟨m,h1,hk,h2⟩
  ·rw [if_neg (by rw [h2]; simp)];refine ⟨r1,.inr ⟨_,_,_,hp,?_⟩⟩;rw [h1];rfl
  ·rw [if_pos h2];have hx:x.l.getD (aK x.l key) Nd.E.zero=m.1:=by rw [d.n,d.l,h1]; simp [List.getD_eq_getElem?_getD]
   rw [hx];obtain ⟨g1,g2⟩:=vn r1 (T.va m (by rw [d.m,h1]; simp));refine ⟨g1,g2.symm.imp id (fun g2=>⟨_,_,_,hp,?_⟩)⟩;rw [g2,h1];rfl
end
end Go.Proofs.YtmonobkginiajaaGreat.Sh
namespace Go.Proofs.YtmonobkginiajaaGreat.Sh
open Go.RowKit Pk Dk Pg
open Nd (E aF aJ cM bg aK bI bj ai cE)
theorem Ir (a:List E) (n:E) (b:List E):(a++b).insertIdx a.length n=a++n::b:=by
 induction a with
 | nil=>rfl
 | cons x a ih=>rw [List.cons_append,List.length_cons,List.insertIdx_succ_cons,ih]; rfl
theorem dn {α:Type} {a b:List α}:(a++b).Nodup↔a.Nodup∧b.Nodup∧ ∀x∈a,x∉b:=by
 rw [List.nodup_append];exact ⟨fun ⟨h1,h2,h3⟩=>⟨h1,h2,fun x hx hb=>h3 x hx x hb rfl⟩,fun ⟨h1,h2,h3⟩=>⟨h1,h2,fun x hx y hy e=>h3 x hx (by rw [e]; exact hy)⟩⟩
theorem pU {M:List MT} {j:Int}:j∈lJ M↔ ∃m∈M,j∈m.2.2:=List.mem_flatMap
theorem Tree.MI {v:Vw} {H:Nat} {M:List MT} (T:Tree v H M): ∀j∈lJ M,(v j).2=0:=fun j hj=>by
 obtain ⟨m,hm,hj⟩:=pU.1 hj;exact (T.va m hm).here j hj
theorem Tree.xL {v:Vw} {H:Nat} {M:List MT} (T:Tree v H M): ∀j∈aU (az v H 0),(v j).2=0:=yY H 0 T.ok
structure SetP (v v':Vw) (H:Nat) (M:List MT) (key value:ByteArray) (H':Nat) (M':List MT) (new:Nat) (A C B:List (ByteArray×ByteArray)) (h c:Nat):Prop where
 t:Tree v' H' M'
 d:Et (kM M) key A C B
 m:kM M'=A++(key,value)::B
 n:new=c+h
 c:c≤5∧(value.size≤40→c=0)
 IU: ∀wt c,Ii wt c→dr wt (az v' H' 0)+c*h≤dr wt (az v H 0)+wt 0*(key.size+(if value.size≤40 then value.size else 0)+7)+(if H'=H then 0 else c)
 h:H'=H∨(H'=H+1∧ ∀wt c,Ii wt c→73*wt H≤dr wt (az v H 0)+wt 0*(key.size+(if value.size≤40 then value.size else 0)+7))
section
variable {o:Vw} {mm:Nat}
theorem MJ {q:QS} {v:Vw} {u H:Nat} {M:List MT} (R:Rd q v o u mm) (T:Tree v H M) (hH:H≤15) (key value:ByteArray) (hk:key.size≤32) (hv:value.size≤1024):
  ((q.jj key value).2=11∧ ∃v' u',Rd (q.jj key value).1 v' o u' mm∧u'≤u+H+8∧(mm≤u'∨512≤u'))∨
  ((q.jj key value).2=0∧ ∃v' H' M' new A C B h c,Rd (q.jj key value).1 v' o (u+new) mm∧SetP v v' H M key value H' M' new A C B h c):=by
 obtain ⟨r1,r2⟩:=yX R T.ok hH key;unfold QS.jj;rw [if_neg (by omega)]
 rcases r2 with ⟨r2,r3⟩ | ⟨r2,up,x,r3,r4,W⟩
 ·rw [if_pos (by rw [r2]; simp)];exact .inl ⟨r2,v,u,r1,by omega,.inl r3⟩
 rw [if_neg (by rw [r2]; simp),r3,vr,show (up.reverse++[x]).dropLast.reverse=up by simp];obtain ⟨p1,p2,p3,p4,p5⟩:=vg W;rw [r4] at p1 p2 p5;obtain ⟨M1,MC,M2,a,b,d⟩:=vq T W r4;have mB:aU (az v H 0)=aU (dN v up 0)++x.al::aU (cB v up 0):=by rw [p2,cq,cr]
 have Is:=dn.1 T.Bu;have haw:mr x.l key=a++b:=by
  unfold mr
  rcases d.c with ⟨h1,h2⟩ | ⟨m,h1,hkk,h2⟩
  ·rw [if_neg (by rw [h2]; simp),d.l,h1]; rfl
  ·rw [if_pos h2,d.n,d.l,h1];exact rf a m.1 b
 have hdnod:(lJ MC).Nodup:=by
  have:=Is.2.1;rw [d.m,ef,ef] at this;exact (dn.1 (dn.1 this).2.1).1
 have vT:(((q.dq key).1.iY x.l key).2=0∧Rd ((q.dq key).1.iY x.l key).1 (jV v (lJ MC)) o u mm)∨(((q.dq key).1.iY x.l key).2=11∧Rd ((q.dq key).1.iY x.l key).1 v o u mm∧mm≤u):=by
  unfold QS.iY
  rcases d.c with ⟨h1,h2⟩ | ⟨m,h1,hkk,h2⟩
  ·rw [if_neg (by rw [h2]; simp),h1,FD,vj];exact .inl ⟨rfl,r1⟩
  ·rw [if_pos h2];have hx:x.l.getD (aK x.l key) Nd.E.zero=m.1:=by rw [d.n,d.l,h1]; simp [List.getD_eq_getElem?_getD]
   rw [hx,h1,jW,FD,List.append_nil];exact xK r1 (T.va m (by rw [d.m,h1]; simp))
 rw [haw,d.n]
 rcases vT.symm with ⟨o1,o2,o3⟩ | ⟨o1,o2⟩
 ·rw [if_pos (by rw [o1]; simp)];exact .inl ⟨o1,v,u,o2,by omega,.inl o3⟩
 rw [if_neg (by rw [o1]; simp)];unfold QS.Ma
 rcases Iq o2 key value hv with ⟨s1,v',u',s2,s3,s4⟩ | ⟨s1,v2,L,s2,s3,s4,s5,s6⟩
 ·rw [if_pos (by rw [s1]; simp)];exact .inl ⟨s1,v',u',s2,by omega,s4⟩
 rw [if_neg (by rw [s1]; simp)];obtain ⟨n,hn⟩: ∃n,(((q.dq key).1.iY x.l key).1.gm key value).2.1=n:=⟨_,rfl⟩;rw [hn] at s3 s4 ⊢;have hLl:L.length≤5∧(value.size≤40→L.length=0):=by
  rcases s3 with ⟨_,_,h,_⟩ | ⟨_,_,_,_,h,h40,h2,_⟩
  ·rw [h]; simp
  ·have:=sG h2;exact ⟨by omega,fun h=>by omega⟩
 have nz: ∀j,(v j).2=0→j∉lJ MC→v2 j=v j:=fun j hj hm=>by
  have h1:jV v (lJ MC) j=v j:=by unfold jV; rw [if_neg hm]
  rw [s6 j (fun hL=>?_),h1];have:=s5 j hL;rw [h1] at this;rw [this] at hj;exact absurd hj (by decide)
 have hMCin: ∀j∈lJ MC,j∈lJ M:=fun j hj=>by rw [d.m,ef,ef]; simp [hj]
 have hnd2: ∀j∈aU (az v H 0),v2 j=v j:=fun j hj=>nz j (T.xL j hj) (fun hm=>Is.2.2 j hj (hMCin j hm));obtain ⟨c1,c2,c3⟩:=fc (v':=v2) up 0 x.al W.hole (fun j hj=>hnd2 j (by rw [mB]; simp [hj])) (fun j hj=>hnd2 j (by rw [mB]; simp [hj]));have jY: ∀e∈a++b,e∈x.l:=fun e he=>by rw [d.l]; rcases List.mem_append.1 he with h | h<;>simp [h]
 have nI:=jC (ly (v:=v) (p:=x.al) (by rw [W.nd]));rw [W.nd] at nI;have nI: ∀e∈x.l,cE e true:=nI;have hbx:ai x.l≤223:=by have:=W.ok.2; rw [W.nd] at this; exact this
 have hbab:ai (a++b)≤ai x.l:=by rw [d.l,dk,dk,dk]; omega
 have hrn:cE n true∧n.val.size=(if value.size≤40 then value.size else 0):=by
  rcases s3 with ⟨h1,h2,_,h4⟩ | ⟨h1,h2,h3,h4,h5,h40,h6,_⟩
  ·refine ⟨⟨by rw [s4]; exact hk,by rw [h2]; exact h4,by rw [h1]; decide,by rw [h1]; decide,.inl (by rw [h1]; decide)⟩,by rw [if_pos h4,h2]⟩
  ·exact ⟨⟨by rw [s4]; exact hk,by rw [h3]; decide,by rw [if_pos rfl]; omega,by omega,.inr h3⟩,by rw [if_neg (by omega),h3]⟩
 obtain ⟨hrn,hvn⟩:=hrn;have hcn:n.key.size+n.val.size+7=key.size+(if value.size≤40 then value.size else 0)+7:=by rw [s4,hvn]
 have hcn79:n.key.size+n.val.size+7≤79:=by have h1:=hrn.1; have h2:=hrn.2.1; omega
 have hbn:ai (a++n::b)=ai (a++b)+(n.key.size+n.val.size+7):=by rw [dk,dk,di]; omega
 have hins:(a++b).insertIdx a.length n=a++n::b:=Ir a n b;rw [hins];have hla: ∀e∈a,fW e.key key:=fun e he=>by
  have:e∈M1.map (fun m=>m.1):=by rw [d.m1]; exact List.mem_append_right _ he
  obtain ⟨m,hm,rfl⟩:=List.mem_map.1 this;exact d.k1 m hm
 have hlb: ∀e∈b,fW key e.key:=fun e he=>by
  have:e∈M2.map (fun m=>m.1):=by rw [d.m2]; exact List.mem_append_left _ he
  obtain ⟨m,hm,rfl⟩:=List.mem_map.1 this;exact d.k2 m hm
 have hpw:=nc W.nd;rw [d.l,List.pairwise_append,List.pairwise_append] at hpw;have P:vY v2 0 ⟨x.al,x.leaf,a++n::b,x.at_⟩ up:=by
  refine ⟨c1,W.leaf,?_,⟨fun e he=>?_,?_⟩,by simp,?_,fun e he=>?_,?_,?_⟩
  ·show (v2 x.al).2=0;have nA:x.al∈aU (az v H 0):=by rw [mB]; simp
   rw [hnd2 _ nA]; exact T.xL _ nA
  ·show cE e true
   rcases List.mem_append.1 he with he | he
   ·exact nI e (jY e (List.mem_append_left _ he))
   ·rcases List.mem_cons.1 he with rfl | he
    ·exact hrn
    ·exact nI e (jY e (List.mem_append_right _ he))
  ·show (a++n::b).Pairwise fun c e=>fW c.key e.key;rw [List.pairwise_append,List.pairwise_cons];refine ⟨hpw.1,⟨fun e he=>by rw [s4]; exact hlb e he,hpw.2.1.2.1⟩,fun e he e' rZ=>?_⟩
   rcases List.mem_cons.1 rZ with rfl | rZ
   ·rw [s4]; exact hla e he
   ·exact hpw.2.2 e he e' (List.mem_append_right _ rZ)
  ·show blank x.leaf _=_;rw [W.leaf]; exact iE _
  ·have he:e∈a++n::b:=he
   rcases List.mem_append.1 he with he | he
   ·exact W.Mz e (jY e (List.mem_append_left _ he))
   ·rcases List.mem_cons.1 he with rfl | he
    ·rw [s4]; exact W.key
    ·exact W.Mz e (jY e (List.mem_append_right _ he))
  ·show (aU (dN v2 up 0)++x.al::([]++aU (cB v2 up 0))).Nodup;rw [c2,c3,List.nil_append,←mB];exact Is.1
  ·show ai (a++n::b)≤302;omega
 have EP:cu v2 0 ⟨x.al,x.leaf,a++n::b,x.at_⟩ up=dN v up 0++(0,x.al,a++n::b)::cB v up 0:=by
  unfold cu;rw [c2,c3];rfl
 have MK:aU (cu v2 0 ⟨x.al,x.leaf,a++n::b,x.at_⟩ up)=aU (az v H 0):=by rw [EP,mB,cq,cr]
 have MF: ∀wt:Nat→Nat,dr wt (cu v2 0 ⟨x.al,x.leaf,a++n::b,x.at_⟩ up)≤dr wt (az v H 0)+wt 0*(n.key.size+n.val.size+7):=fun wt=>by
  rw [EP,p2];simp only [gE,dm];have:wt 0*(ai (a++n::b)-151)≤wt 0*(ai x.l-151)+wt 0*(n.key.size+n.val.size+7):=by
   rw [←Nat.mul_add];exact Nat.mul_le_mul_left _ (by omega)
  omega
 rcases rR (up.length+1) up 0 ⟨x.al,x.leaf,a++n::b,x.at_⟩ _ v2 (u+L.length) (by omega) P s2 with ⟨t1,v',u',t2,t3,t4⟩ | ⟨t1,v3,new,H',t2,G⟩
 ·exact .inl ⟨t1,v',u',t2,by omega,t4⟩
 refine .inr ⟨t1,v3,H',M1++(n,value,L)::M2,L.length+new.length,kM M1,kM MC,kM M2,new.length,L.length,by rw [←Nat.add_assoc]; exact t2,?_⟩;have hMn:=Is.2.1;rw [d.m,ef,ef] at hMn;have yZ:=dn.1 hMn;have ML:=dn.1 yZ.2.1;have Bz: ∀j,j∈lJ M1∨j∈lJ M2→j∈lJ M∧j∉lJ MC:=fun j hj=>by
  refine ⟨by rw [d.m,ef,ef]; rcases hj with h | h<;>simp [h],fun hc=>?_⟩
  rcases hj with h | h
  ·exact yZ.2.2 j h (List.mem_append_left _ hc)
  ·exact ML.2.2 j hc h
 have hLv: ∀j,(v j).2=0→j∉lJ MC→j∉L:=fun j hj hm hL=>by
  have:=s5 j hL;unfold jV at this;rw [if_neg hm] at this;rw [this] at hj;exact absurd hj (by decide)
 have hL2: ∀j∈L,(v2 j).2=0:=s3.here;have BC: ∀j,(v2 j).2=0→j∉new:=fun j hj hm=>by rw [G.fresh j hm] at hj; exact absurd hj (by decide)
 have hM3: ∀j,j∈lJ M1∨j∈lJ M2→v3 j=v j∧(v2 j).2=0∧j∉aU (az v H 0):=fun j hj=>by
  obtain ⟨h1,h2⟩:=Bz j hj;have h3:=T.MI j h1;have h4:=nz j h3 h2;have h5:j∉aU (az v H 0):=fun h=>Is.2.2 j h h1;refine ⟨?_,by rw [h4]; exact h3,h5⟩;rw [G.out j (by rw [MK]; exact h5) (BC j (by rw [h4]; exact h3)),h4]
 have hPL: ∀j∈aU (az v H 0),j∉L:=fun j hj=>hLv j (T.xL j hj) (fun hm=>Is.2.2 j hj (hMCin j hm));have hL3: ∀j∈L,v3 j=v2 j:=fun j hj=>G.out j (by rw [MK]; exact fun h=>hPL j h hj) (BC j (hL2 j hj));have hP2: ∀j∈aU (az v H 0),(v2 j).2=0:=fun j hj=>by rw [hnd2 j hj]; exact T.xL j hj
 have kI:M1.map (fun m=>m.1)=bt (dN v up 0)++a:=d.m1;refine ⟨⟨G.ok,?_,fun m hm=>?_,?_,fun j hj=>?_⟩,d.MG,?_,by omega,hLl,fun wt c hw=>?_,?_⟩
 ·rw [G.en,EP,List.map_append,List.map_cons,d.m1,d.m2];simp
 ·rcases List.mem_append.1 hm with hm | hm
  ·exact (T.va m (by rw [d.m]; simp [hm])).congr (fun j hj=>(hM3 j (.inl (pU.2 ⟨m,hm,hj⟩))).1)
  ·rcases List.mem_cons.1 hm with rfl | hm
   ·exact s3.congr hL3
   ·exact (T.va m (by rw [d.m]; simp [hm])).congr (fun j hj=>(hM3 j (.inr (pU.2 ⟨m,hm,hj⟩))).1)
 ·have nH:(aU (az v3 H' 0)++lJ (M1++(n,value,L)::M2)).Perm ((aU (az v H 0)++new)++(lJ M1++(L++lJ M2))):=by
   rw [ef,jW,←MK];exact G.pg.append_right _
  rw [nH.nodup_iff,dn];refine ⟨dn.2 ⟨Is.1,G.Bu,fun j hj=>BC j (hP2 j hj)⟩,dn.2 ⟨yZ.1,dn.2 ⟨s3.nodup,ML.2.1,fun j hj hm=>?_⟩,fun j hj hm=>?_⟩,fun j hj hm=>?_⟩
  ·obtain ⟨h1,h2⟩:=Bz j (.inr hm);exact hLv j (T.MI j h1) h2 hj
  ·rcases List.mem_append.1 hm with hm | hm
   ·obtain ⟨h1,h2⟩:=Bz j (.inl hj);exact hLv j (T.MI j h1) h2 hm
   ·exact yZ.2.2 j hj (List.mem_append_right _ hm)
  ·have wB:j∈L∨(j∈lJ M1∨j∈lJ M2):=by
    rcases List.mem_append.1 hm with hm | hm
    ·exact .inr (.inl hm)
    ·rcases List.mem_append.1 hm with hm | hm
     ·exact .inl hm
     ·exact .inr (.inr hm)
   rcases List.mem_append.1 hj with hj | hj
   ·rcases wB with h | h
    ·exact hPL j hj h
    ·exact (hM3 j h).2.2 hj
   ·rcases wB with h | h
    ·exact BC j (hL2 j h) hj
    ·exact BC j (hM3 j h).2.1 hj
 ·rw [List.mem_append,ef,jW,List.mem_append,List.mem_append]
  by_cases h1:j∈aU (az v H 0)
  ·exact .inl (G.pg.mem_iff.2 (by rw [MK]; exact List.mem_append_left _ h1))
  ·by_cases h2:j∈new
   ·exact .inl (G.pg.mem_iff.2 (List.mem_append_right _ h2))
   ·rw [G.out j (by rw [MK]; exact h1) h2] at hj
    by_cases h3:j∈L
    ·exact .inr (.inr (.inl h3))
    ·rw [s6 j h3] at hj;unfold jV at hj
     by_cases h4:j∈lJ MC
     ·rw [if_pos h4] at hj; exact absurd hj (by decide)
     ·rw [if_neg h4] at hj;have:=T.all j hj;rw [d.m,ef,ef] at this;simp only [List.mem_append] at this
      rcases this with h | h | h | h
      ·exact absurd h h1
      ·exact .inr (.inl h)
      ·exact absurd h h4
      ·exact .inr (.inr (.inr h))
 ·rw [FE,Bx,s4]
 ·have g:=G.IU wt c hw;have g2:=MF wt;rw [hcn] at g2;rw [Nat.zero_add,r4] at g;omega
 ·have hl:0+up.length=H:=by omega
  rcases G.h with g | ⟨g1,g2⟩
  ·exact .inl (by rw [g,hl])
  ·refine .inr ⟨by rw [g1,hl],fun wt c hw=>?_⟩;have g3:=g2 wt c hw;rw [hl] at g3;have g4:=MF wt;rw [hcn] at g4;omega
end
end Go.Proofs.YtmonobkginiajaaGreat.Sh
