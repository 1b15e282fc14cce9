/- packed. -/
import Derived.Laws.EntriesVeiled
import Derived.Test.YtmonobkginiajaaGreatAs12
set_option linter.all false
set_option maxRecDepth 100000
set_option maxHeartbeats 8000000
namespace Go.Proofs.YtmonobkginiajaaGreat
open Go.Proofs.Tryz
open Value renaming string→U2,slice→U3,int→U5,bool→U6,pointer→U7
open Ending renaming returned→BY
open IntKind renaming i64→By
open Obj renaming cells→WF
open And renaming intro→io
namespace Sh
open Go.RowKit Pk Dk Pg
open Nd (E aS aZ et bI bg cG bR an dO)
theorem grow_ok{v v3:Vw}{h:Nat}{x:Step}(P:Ez v h x []){la lb:List E}(hl:x.l=la++lb)(ha:la≠[])(hb:lb≠[])(ba:an la<=223)(bb:an lb<=223)(hs:(an la-151)+(an lb-151)+73<=an x.l-151)
  {k1 k2:Nat}(hk1:k1<=511)(hk2:k2<=511)(qV:v (k1:Nat)=([],3))(re:v (k2:Nat)=([],3))(fF:k1≠k2)
  (wZ:iX v3 (k1:Nat)=(decide (h=0),blank (decide (h=0)) la,0))(XB:iX v3 (k2:Nat)=(decide (h=0),blank (decide (h=0)) lb,0))
  (hd0:iX v3 0=(false,[⟨⟨#[]⟩,⟨#[]⟩,(k1:Nat)⟩,⟨keyOf lb,⟨#[]⟩,(k2:Nat)⟩],0))(hv:∀j:Int,j≠0->j≠(k1:Nat)->j≠(k2:Nat)->v3 j=v j):
  Grown v v3 h (h+1) (dv v h x []) [(k1:Nat),(k2:Nat)]:=by
 have Eu:x.ao=0:=P.hole;have hlk:=FW P.ok;have hkin:=P.nin.2.1;have gj:=P.ok;rw[hl]at gj;obtain⟨sa,sb,s1,s2,s3⟩:=vf gj ha hb;have nk1:∀j,(v j).2=0->j≠(k1:Nat):=λj hj e=>by rw[e,qV]at hj;exact absurd hj (by decide)
 have nk2:∀j,(v j).2=0->j≠(k2:Nat):=λj hj e=>by rw[e,re]at hj;exact absurd hj (by decide)
 have LJ:∀j∈bG (cM v h x.l),v3 j=v j:=λj hj=>hv j (by rw[<-Eu];exact hkin j hj) (nk1 j (hlk j hj)) (nk2 j (hlk j hj));rw[hl,nI,dq]at LJ;obtain⟨IV,ka2,ka3⟩:=lW (v:=v) (v':=v3) (h:=h) (l:=la) (λj hj=>LJ j (cg _ hj));obtain⟨kb1,kb2,kb3⟩:=lW (v:=v) (v':=v3) (h:=h) (l:=lb) (λj hj=>LJ j (bP _ hj));obtain⟨oa1,oa2,oa3⟩:=wO (ka3 sa) (aq (dX _ _) ba) wZ
 obtain⟨ob1,ob2,ob3⟩:=wO (kb3 sb) (aq (dX _ _) bb) XB;rw[IV]at oa2;rw[kb1]at ob2;rw[ka2]at oa3;rw[kb2]at ob3;have neA:=nJ sa ha;have neB:=nJ sb hb;have sW:vd (nG v3 h) (ie v3 h) [⟨⟨#[]⟩,⟨#[]⟩,(k1:Nat)⟩,⟨keyOf lb,⟨#[]⟩,(k2:Nat)⟩]:=by
  refine⟨by simp,λe he=>?_,?_,λe he=>?_⟩
  .simp only[ar,ij,or_false]at he
   rcases he with rfl|rfl
   .exact⟨oa1,by show ie v3 h _≠[];rw[oa3];exact neA⟩
   .exact⟨ob1,by show ie v3 h _≠[];rw[ob3];exact neB⟩
  .rw[eC];refine⟨λe he y hy=>?_,GX _ _⟩;rw[az.1 he];have hy:y∈ie v3 h (k1:Nat):=hy;rw[oa3]at hy;exact s1 y hy
  .have he:e∈[(⟨keyOf lb,⟨#[]⟩,(k2:Nat)⟩:E)]:=he;rw[az.1 he];intro y hy;have hy:y∈ie v3 h (k2:Nat):=hy;rw[ob3]at hy;exact s2 y hy
 have hbyt:an [(⟨⟨#[]⟩,⟨#[]⟩,(k1:Nat)⟩:E),⟨keyOf lb,⟨#[]⟩,(k2:Nat)⟩]<=46:=by
  rw[eY,eY];show 0+0+7+((keyOf lb).size+0+7+0)<=46;omega
 have hO:nG v3 (h+1) 0:=⟨by rw[hd0],by rw[hd0];exact aq hbyt (by decide),by rw[hd0];rfl,by rw[hd0];exact sW⟩;have hns:aL v3 (h+1) 0=(h+1,0,[⟨⟨#[]⟩,⟨#[]⟩,(k1:Nat)⟩,⟨keyOf lb,⟨#[]⟩,(k2:Nat)⟩])::(((h,((k1:Nat):Int),blank (decide (h=0)) la)::cM v h la)++((h,((k2:Nat):Int),blank (decide (h=0)) lb)::cM v h lb)):=by
  rw[oM,hd0];show _::bz v3 h _=_;rw[gu,gu,UB,jR,<-oa2,<-ob2]
 have Q6:dv v h x []=(h,0,x.l)::cM v h x.l:=by unfold dv;simp only[du,cP,dK,cR];rw[Eu];simp
 refine⟨hO,?_,?_,λj hj=>?_,?_,λj h1 h2=>?_,λwt c hw=>?_,.inr ⟨rfl,λwt c hw=>?_⟩⟩
 .unfold ie;rw[hns,lU,eE,<-oa2,<-ob2,lX];simp only[du,cP,dK,cR];rw[hl,yt];show ie v3 h _++ie v3 h _=_;rw[oa3,ob3];simp
 .rw[hns,Q6,hl,nI,GY];intro j;simp only[dr,dq,Na,Nb,List.count_nil];omega
 .simp only[ar,ij,or_false]at hj
  rcases hj with rfl|rfl
  .exact qV
  .exact re
 .rw[gV];refine⟨λhm=>?_,by simp⟩;have:=az.1 hm;omega
 .rw[Q6]at h1;simp only[dr,ar,not_or,ij,or_false]at h1 h2;exact hv j h1.1 h2.1 h2.2
 .have h1:=hw h;have h2:=dX (decide (h=0)) la;have h3:=dX (decide (h=0)) lb;rw[hns,Q6,hl,nI,gc];simp only[eQ,j5];rw[<-hl];have m2:wt h*(an (blank (decide (h=0)) la)-151)+wt h*(an (blank (decide (h=0)) lb)-151)+wt h*73<=wt h*(an x.l-151):=by
   rw[<-sO,<-sO];exact kR _ (by omega)
  have m3:wt (h+1)*(an [(⟨⟨#[]⟩,⟨#[]⟩,(k1:Nat)⟩:E),⟨keyOf lb,⟨#[]⟩,(k2:Nat)⟩]-151)=0:=by
   rw[Nat.sub_eq_zero_of_le (aq hbyt (by decide)),vG]
  rw[m3];show _+c*2<=_;omega
 .rw[Q6,eQ];show 73*wt h<=wt h*(an x.l-151)+_;have:wt h*73<=wt h*(an x.l-151):=kR _ (by omega);omega
section
variable{o:Vw}{mm:Nat}
theorem zv:∀(m:Nat) (up:List Step) (h:Nat) (x:Step) (q:QS) (v:Vw) (u:Nat),up.length<m->Ez v h x up->Rd q v o u mm->
  ((fL m (x::up) q).2=11/\∃v' u',Rd (fL m (x::up) q).1 v' o u' mm/\u'<=u+up.length+2/\(mm<=u'\/512<=u'))\/
  ((fL m (x::up) q).2=0/\∃v' new H',Rd (fL m (x::up) q).1 v' o (u+new.length) mm/\Grown v v' (h+up.length) H' (dv v h x up) new)
 |0,up,h,x,q,v,u,hm,P,R=>absurd hm (by omega)
 |m+1,up,h,x,q,v,u,hm,P,R=>by
  have hbk:=P.bk;have rJ:=P.leaf;rw[rJ]at hbk
  by_cases hT:an x.l<=223
  .have sj:=wP P.ok (by rw[hbk];exact hT);rw[<-rJ]at sj;have e:fL (m+1) (x::up) q=q.db x.ao x.leaf x.l:=by
    unfold fL;rw[if_pos (.inr sj)]
   rw[e]
   rcases R.write P.here sj with⟨w1,w2⟩|⟨w1,w2,w3⟩
   .refine .inr ⟨w1,_,[],_,w2,UD P hT ?_ (λj hj=>?_)⟩
    .rw[hJ sj,if_pos rfl,rJ,hbk]
    .unfold ky;rw[if_neg hj]
   .exact .inl ⟨w1,_,u,w2,by omega,.inl w3⟩
  .have Lo:=Qh P.ok (by rw[hbk];omega);rw[<-rJ]at Lo;have ew:q.db x.ao x.leaf x.l=(q,11):=by rw[UA q x.ao (by rw[Lo];decide),Lo]
   obtain⟨la,lb,e1,e2,e3,ha,hb,ba,bb,hs⟩:=UC P.cost (by omega) P.sz;have gj:=P.ok;rw[e1]at gj;obtain⟨sa,sb,s1,s2,s3⟩:=vf gj ha hb;have la0:(bT x.leaf la).2=0:=by rw[rJ];exact wP sa (aq (dX _ _) ba)
   have lb0:(bT x.leaf lb).2=0:=by rw[rJ];exact wP sb (aq (dX _ _) bb)
   cases up with
   |nil=>
    have Eu:x.ao=0:=P.hole;have e:fL (m+1) [x] q=q.wH x.leaf la lb:=by
     unfold fL;rw[ew,if_neg (by rw[Lo];simp)];dsimp only;rw[e2,e3]
    rw[e];unfold QS.wH
    rcases R.make la0 with⟨k1,a1,a2,a3,a4⟩|⟨a1,a2,a3⟩
    .rw[a1,i8];dsimp only
     rcases a4.make lb0 with⟨k2,b1,b2,b3,b4⟩|⟨b1,b2,b3⟩
     .rw[b1,i8];dsimp only;have fF:k1≠k2:=λe=>by
       unfold ky at b3;rw[e,if_pos rfl]at b3;exact absurd (congrArg Prod.snd b3) (by show ¬(0:Int)=3;decide)
      have re:v (k2:Nat)=([],3):=by
       unfold ky at b3;rw[gc]at b3;exact b3
      have Q3:(v 0).2=0:=by have h0:=P.here;rw[Eu]at h0;exact h0
      have h0k1:(0:Int)≠(k1:Nat):=λe=>by rw[<-e]at a3;rw[a3]at Q3;exact absurd Q3 (by simp)
      have h0k2:(0:Int)≠(k2:Nat):=λe=>by rw[<-e]at re;rw[re]at Q3;exact absurd Q3 (by simp)
      have hL:(bT false [⟨⟨#[]⟩,⟨#[]⟩,(k1:Nat)⟩,⟨keyOf lb,⟨#[]⟩,(k2:Nat)⟩]).2=0:=by
       rcases pL false [⟨⟨#[]⟩,⟨#[]⟩,(k1:Nat)⟩,⟨keyOf lb,⟨#[]⟩,(k2:Nat)⟩]with h1|h1|h1
       .exact h1.2.2.1
       .have h2:=h1.2.1;have h3:blank false [(⟨⟨#[]⟩,⟨#[]⟩,(k1:Nat)⟩:E),⟨keyOf lb,⟨#[]⟩,(k2:Nat)⟩]=[⟨⟨#[]⟩,⟨#[]⟩,(k1:Nat)⟩,⟨keyOf lb,⟨#[]⟩,(k2:Nat)⟩]:=rfl;rw[h3,eY,eY]at h2;have h4:0+0+7+((keyOf lb).size+0+7+0)>223:=h2;omega
       .exfalso;refine h1.1 ?_;show et [(⟨⟨#[]⟩,⟨#[]⟩,(k1:Nat)⟩:E),⟨keyOf lb,⟨#[]⟩,(k2:Nat)⟩] false;refine Qe (λz hz=>?_) ?_
        .simp only[ar,ij,or_false]at hz
         rcases hz with rfl|rfl
         .exact⟨aW _,aW _,by show(if false=true then(-1:Int)else 0)<=((k1:Nat):Int);rw[i8];omega,by show((k1:Nat):Int)<512;omega,.inr rfl⟩
         .exact⟨s3,aW _,by show(if false=true then(-1:Int)else 0)<=((k2:Nat):Int);rw[i8];omega,by show((k2:Nat):Int)<512;omega,.inr rfl⟩
        .rw[eC];refine⟨λz hz=>?_,GX _ _⟩;rw[az.1 hz];obtain⟨y,hy⟩:=xo _ (nJ sa ha);exact jH (tM y.key) (s1 y hy)
      have lz:(ky (ky v (k1:Nat) (bT x.leaf la).1) (k2:Nat) (bT x.leaf lb).1 0).2=0:=by
       rw[nr _ _ h0k2,nr _ _ h0k1];exact Q3
      rcases b4.write lz hL with⟨c1,c2⟩|⟨c1,c2,c3⟩
      .refine .inr ⟨c1,_,[(k1:Nat),(k2:Nat)],h+1,c2,?_⟩;refine grow_ok P e1 ha hb ba bb hs a2 b2 a3 re fF ?_ ?_ ?_ (λj j1 j2 j3=>?_)
       .rw[hJ hL,if_neg (λe=>h0k1 e.symm),hJ lb0,gc,hJ la0,if_pos rfl,rJ]
       .rw[hJ hL,if_neg (λe=>h0k2 e.symm),hJ lb0,if_pos rfl,rJ]
       .rw[hJ hL,if_pos rfl];rfl
       .rw[nr _ _ j1,nr _ _ j3,nr _ _ j2]
      .exact .inl ⟨c1,_,_,c2,by simp,.inl c3⟩
     .rw[b1,i9];exact .inl ⟨rfl,_,u+1+1,b2,by simp,b3.imp (λh=>by omega) (λh=>by omega)⟩
    .rw[a1,i9];exact .inl ⟨rfl,_,u+1,a2,by omega,a3.imp (λh=>by omega) (λh=>by omega)⟩
   |cons y up=>
    have e:fL (m+1) (x::y::up) q=if(q.eK x.leaf lb).2.2≠0 then((q.eK x.leaf lb).1,(q.eK x.leaf lb).2.2)
      else if((q.eK x.leaf lb).1.db x.ao x.leaf la).2≠0 then(q.eK x.leaf lb).1.db x.ao x.leaf la
      else fL m ({y with l:=y.l.insertIdx (y.at_+1) ⟨keyOf lb,⟨#[]⟩,(q.eK x.leaf lb).2.1⟩}::up) ((q.eK x.leaf lb).1.db x.ao x.leaf la).1:=by
     rw[fL,ew,if_neg (by rw[Lo];simp)];dsimp only;rw[e2,e3]
    rw[e]
    rcases R.make lb0 with⟨k,a1,a2,a3,a4⟩|⟨a1,a2,a3⟩
    .rw[a1,i8];dsimp only;have hxk:x.ao≠(k:Nat):=λe=>by have h0:=P.here;rw[e,a3]at h0;exact absurd h0 (by decide)
     have hz:(ky v (k:Nat) (bT x.leaf lb).1 x.ao).2=0:=by
      unfold ky;rw[if_neg hxk];exact P.here
     rcases a4.write hz la0 with⟨c1,c2⟩|⟨c1,c2,c3⟩
     .rw[if_neg (by rw[c1];simp)];obtain⟨P2,hG⟩:=pend_up (v2:=ky (ky v (k:Nat) (bT x.leaf lb).1) x.ao (bT x.leaf la).1) P e1 ha hb ba bb hs a2 a3 (by rw[hJ la0,if_pos rfl,rJ]) (by rw[hJ la0,if_neg (λe=>hxk e.symm),hJ lb0,if_pos rfl,rJ])
       (λj j1 j2=>by unfold ky;rw[if_neg j1,if_neg j2]) ⟨by unfold ky;rw[if_pos rfl],by unfold ky;rw[if_neg (λe=>hxk e.symm),if_pos rfl]⟩
      rcases zv m up (h+1) _ _ _ (u+1) (by simp at hm;omega) P2 c2 with⟨d1,v',u',d2,d3,d4⟩|⟨d1,v',new,H',d2,d3⟩
      .exact .inl ⟨d1,v',u',d2,by simp;omega,d4⟩
      .refine .inr ⟨d1,v',(k:Nat)::new,H',?_,hG d3⟩;rw[fT,show u+(new.length+1)=u+1+new.length by omega];exact d2
     .rw[if_pos (by rw[c1];simp)];exact .inl ⟨c1,_,_,c2,by omega,.inl c3⟩
    .rw[a1,i9];exact .inl ⟨rfl,_,u+1,a2,by omega,a3.imp (λh=>by omega) (λh=>by omega)⟩
end
open Nd (E)
variable{v v':Vw}{q:QS}{u:Nat}{L:List Int}{e:E}{val:rd}
def rdC(v:Vw)(l:Int):Int×pu×Int:=
 if(v l).2≠0 then(0,[],(v l).2)else if 228<cd (v l).1 2 then(0,[],14)else((cd (v l).1 0:Int)-1,((v l).1.drop 4).take (cd (v l).1 2),0)
def UG(v:Vw):Int->List Int->pu->Prop
 |p,[],b=>p= -1/\b=[]
 |p,q::L,b=>p=q/\∃nx pc b',rdC v q=(nx,pc,0)/\b=pc++b'/\UG v nx L b'
theorem rdC_ok{q nx:Int}{pc:pu}(h:rdC v q=(nx,pc,0)):(v q).2=0:=by
 unfold rdC at h
 by_cases h0:(v q).2=0
 .exact h0
 .rw[if_pos h0,Prod.mk.injEq,Prod.mk.injEq]at h;exact absurd h.2.2 h0
theorem UH{q:Int}(h:v' q=v q):rdC v' q=rdC v q:=by unfold rdC;rw[h]
theorem UG.here :∀{L:List Int} {p:Int} {b:pu},UG v p L b->∀q∈L,(v q).2=0
 |[],_,_,_=>by simp
 |q::L,p,b,h=>by
  obtain⟨rfl,nx,pc,b',h1,h2,h3⟩:=h;intro x hx
  rcases ar.1 hx with rfl|hx
  .exact rdC_ok h1
  .exact h3.here x hx
theorem UG.congr :∀{L:List Int} {p:Int} {b:pu},UG v p L b->(∀q∈L,v' q=v q)->UG v' p L b
 |[],_,_,h,_=>h
 |q::L,p,b,h,e=>by
  obtain⟨rfl,nx,pc,b',h1,h2,h3⟩:=h;exact⟨rfl,nx,pc,b',by rw[UH (e p (gS ..))];exact h1,h2,h3.congr (λx hx=>e x (bK _ hx))⟩
section
variable{o:Vw}{mm:Nat}
theorem UG.neg(R:Rd q v o u mm){p:Int}{b:pu}(h:UG v p L b):p<0↔L=[]:=by
 cases L with
 |nil=>obtain⟨rfl,rfl⟩:=h;exact⟨λ_=>rfl,λ_=>by omega⟩
 |cons q L=>
  have:=R.lt (h.here q (gS ..));obtain⟨rfl,_⟩:=h;exact⟨λh=>by omega,λh=>absurd h (by simp)⟩
theorem Rd.eX(R:Rd q v o u mm)(p:Int):Rd (q.eX p).1 v o u mm/\((q.eX p).2=rdC v p\/((q.eX p).2=(0,[],11)/\mm<=u)):=by
 obtain⟨a,b⟩:=R.get p;unfold QS.eX rdC
 rcases b with⟨b1,b2⟩|⟨b1,b2⟩|⟨b1,b2⟩
 .rw[b2,if_neg (show ¬((⟨(v p).1.toArray⟩:rd),(0:Int)).2≠0 by simp),if_neg (show ¬(v p).2≠0 by omega)]
  by_cases hx:228<cd (v p).1 2
  .have hx2:228<cd (⟨(v p).1.toArray⟩:rd).data.toList 2:=hx;rw[if_pos hx2,if_pos hx];exact⟨a,.inl rfl⟩
  .have hx2:¬228<cd (⟨(v p).1.toArray⟩:rd).data.toList 2:=hx;rw[if_neg hx2,if_neg hx];exact⟨a,.inl rfl⟩
 .rw[b2,b1,i9,i9];exact⟨a,.inl rfl⟩
 .rw[b1,i9];exact⟨a,.inr ⟨rfl,b2⟩⟩
theorem vh:∀{L:List Int} {p:Int} {b:pu} (m:Nat) (l:List Int) (acc:pu) (q:QS) (v:Vw) (u:Nat),Rd q v o u mm->UG v p L b->L≠[]->L.length<=m->(acc++b).length<=1024->
  Rd (q.kZ m p l acc).1 v o u mm/\((q.kZ m p l acc).2=(l++L,acc++b,0)\/((q.kZ m p l acc).2=([],[],11)/\mm<=u))
 |[],_,_,_,_,_,_,_,_,_,_,h,_,_=>absurd rfl h
 |c::L,p,b,0,_,_,_,_,_,_,_,_,h,_=>by simp at h
 |c::L,p,b,m+1,l,acc,q,v,u,R,h,_,hm,hb=>by
  obtain⟨rfl,nx,pc,b',h1,rfl,h3⟩:=h;obtain⟨r1,r2⟩:=R.eX p;unfold QS.kZ
  rcases r2 with r2|⟨r2,r3⟩
  .rw[h1]at r2;rw[r2];dsimp only;rw[gc,gc,if_neg (by simp at hb ⊢;omega)];have JU:=h3.neg R
   by_cases hn:nx<0
   .have hL:=JU.1 hn;subst hL;obtain⟨_,rfl⟩:=h3;rw[if_pos hn,jR];exact⟨r1,.inl rfl⟩
   .have hL:L≠[]:=λe=>hn (JU.2 e);rw[if_neg hn];obtain⟨i1,i2⟩:=vh m (l++[p]) (acc++pc) (q.eX p).1 v u r1 h3 hL (by simpa using hm) (by simpa [cK]using hb);refine⟨i1,i2.imp (λe=>?_) id⟩;rw[e];simp
  .rw[r2];dsimp only;rw[gc,g8];exact⟨r1,.inr ⟨rfl,r3⟩⟩
def n9(v:Vw)(L:List Int):Vw:=λj=>if j∈L then([],3)else v j
theorem Ds(v:Vw):n9 v []=v:=by funext j;simp[n9]
theorem Dt:∀(L:List Int) (q:QS) (v:Vw) (u:Nat),Rd q v o u mm->L.Nodup->(∀j∈L,(v j).2=0)->(q.rN L).2=0/\Rd (q.rN L).1 (n9 v L) o u mm
 |[],q,v,u,R,_,_=>by rw[Ds];exact⟨rfl,R⟩
 |p::L,q,v,u,R,hn,hh=>by
  rw[gV]at hn;obtain⟨a,b⟩:=R.drop p (hh p (by simp));unfold QS.rN;rw[if_neg (by rw[a];simp)];obtain⟨c,d⟩:=Dt L (q.aV p).1 _ u b hn.2 (λj hj=>by
   have fF:j≠p:=λe=>hn.1 (by rw[<-e];exact hj);rw[IJ v fF];exact hh j (by simp[hj]))
  refine⟨c,?_⟩;have e:n9 (II v p) L=n9 v (p::L):=by
   funext j
   unfold n9 II
   by_cases h1:j∈L
   .rw[if_pos h1,if_pos (by simp[h1])]
   .rw[if_neg h1]
    by_cases h2:j=p
    .rw[if_pos h2,if_pos (by simp[h2])]
    .rw[if_neg h2,if_neg (by simp[h1,h2])]
  rw[<-e];exact d
theorem Rd.dropAny(R:Rd q v o u mm)(p:Int):∃v',Rd (q.aV p).1 v' o u mm:=by
 rcases R.err p with h|h
 .exact⟨_,(R.drop p h).2⟩
 .obtain⟨n,K,w⟩:=R.w;obtain⟨a,c⟩:=w.drop p
  rcases c with⟨c1,c2,c3⟩|⟨c1,c2,c3⟩
  .rw[R.v,h]at c1;exact absurd c1 (by decide)
  .exact⟨v,R.step (Di q p) ⟨n,_,a.w⟩ (λj=>(c3 j).trans (R.v j))⟩
theorem zx:∀(L:List Int) (q:QS) (v:Vw) (u:Nat),Rd q v o u mm->∃v',Rd (q.ni L) v' o u mm
 |[],q,v,u,R=>⟨v,R⟩
 |p::L,q,v,u,R=>by
  obtain⟨v1,R1⟩:=R.dropAny p;rw[QS.qB];exact zx L _ _ _ R1
theorem link_rd(next:Nat)(v:pu)(i:Nat)(hn:next<60000):(k7 v i ((next:Int)-1)).length<=232/\cd (ft (k7 v i ((next:Int)-1)) 232) 0=next/\cd (ft (k7 v i ((next:Int)-1)) 232) 2=(eG v i).length/\((ft (k7 v i ((next:Int)-1)) 232).drop 4).take (eG v i).length=eG v i:=by
 have hp:(eG v i).length<=228:=by unfold eG;rw[bC];omega
 unfold k7 ft;rw[show((next:Int)-1+1).toNat=next by omega];generalize eG v i=pc at *;unfold rL cd;refine⟨by simp;omega,?_,?_,?_⟩
 .simp;omega
 .simp;omega
 .simp
theorem UI(v:pu)(i:Nat):(eG v i).length<=228:=by unfold eG;rw[bC];omega
theorem Ql(v:pu)(i:Nat):v.drop (228*i)=eG v i++v.drop (228*(i+1)):=by
 unfold eG;rw[show 228*(i+1)=228*i+228 by omega,<-ji,m7]
theorem Ga(val:pu):∀(i:Nat) (q:QS) (v:Vw) (u:Nat) (next:Int) (made:List Int) (L:List Int),Rd q v o u mm->UG v next L (val.drop (228*i))-> -1<=next->next<=511->
  ((QS.rO val i q next made).2.2=11/\∃v' u',Rd (QS.rO val i q next made).1 v' o u' mm/\u'<=u+i/\(mm<=u'\/512<=u'))\/
  ((QS.rO val i q next made).2.2=0/\ -1<=(QS.rO val i q next made).2.1/\(QS.rO val i q next made).2.1<=511/\∃v' new,Rd (QS.rO val i q next made).1 v' o (u+new.length) mm/\UG v' (QS.rO val i q next made).2.1 (new++L) val/\new.length=i/\(∀j∈new,v j=([],3))/\new.Nodup/\∀j,j∉new->v' j=v j)
 |0,q,v,u,next,made,L,R,hc,h1,h2=>by
  right;exact⟨rfl,h1,h2,v,[],R,hc,rfl,by simp,qb,λ_ _=>rfl⟩
 |i+1,q,v,u,next,made,L,R,hc,h1,h2=>by
  obtain⟨nx,rfl⟩:∃nx:Nat,next=(nx:Int)-1:=⟨(next+1).toNat,by omega⟩;obtain⟨k1,k2,k3,k4⟩:=link_rd nx val i (by omega);unfold QS.rO;have hn:=R.new ⟨(k7 val i ((nx:Int)-1)).toArray⟩ (by show(k7 val i _).toArray.size<=232;rw[j9];exact k1);have hd:(⟨(k7 val i ((nx:Int)-1)).toArray⟩:rd).data.toList=k7 val i ((nx:Int)-1):=rfl;rw[hd]at hn
  rcases hn with⟨k,a1,a2,a3,a4⟩|⟨a1,a2,a3⟩
  .rw[if_neg (by rw[a1];simp),show(q.bZ (k7 val i ((nx:Int)-1))).2.1=((k:Nat):Int)from by rw[a1]];have hch:UG (ky v (k:Nat) (ft (k7 val i ((nx:Int)-1)) 232)) (k:Nat) ((k:Nat)::L) (val.drop (228*i)):=by
    refine⟨rfl,(nx:Int)-1,eG val i,val.drop (228*(i+1)),?_,Ql val i,hc.congr (λx hx=>?_)⟩
    .unfold rdC;have vL:=UI val i;rw[FU,i8];dsimp only;rw[k3,gc,k2,k4]
    .have Hz:=hc.here x hx;have fF:x≠((k:Nat):Int):=λe=>by rw[e,a3]at Hz;exact absurd Hz (by decide)
     exact nr v _ fF
   rcases Ga val i _ _ (u+1) ((k:Nat):Int) (made++[((k:Nat):Int)]) ((k:Nat)::L) a4 hch (by omega) (by omega)with⟨b1,v',u',b2,b3,b4⟩|⟨b1,b2,b3,v',new,b4,b5,b6,b7,b8,b9⟩
   .exact .inl ⟨b1,v',u',b2,by omega,b4⟩
   .refine .inr ⟨b1,b2,b3,v',new++[((k:Nat):Int)],by rw[aT,vx,show u+(new.length+1)=u+1+new.length by omega];exact b4,by rw[cK];exact b5,by simp[b6],λj hj=>?_,?_,λj hj=>?_⟩
    .rcases ay.1 hj with hj|hj
     .have h3:=b7 j hj
      by_cases e:j=((k:Nat):Int)
      .rw[e];exact a3
      .rw[nr v _ e]at h3;exact h3
     .rw[az.1 hj];exact a3
    .rw[gU];refine⟨b8,by simp,λx hx y hy e=>?_⟩;rw[az.1 hy]at e;have h3:=b7 x hx;rw[e,FU]at h3;exact absurd (congrArg Prod.snd h3) (by show ¬(0:Int)=3;decide)
    .rw[ay,not_or]at hj;rw[b9 j hj.1,nr v _ (λe=>hj.2 (by simp[e]))]
  .rw[if_pos (by rw[a1];simp)];left;obtain⟨v1,R1⟩:=zx made _ _ _ a2;exact⟨by show(q.bZ _).2.2=11;rw[a1],v1,u+1,R1,by omega,a3.imp (λh=>by omega) (λh=>by omega)⟩
def VN(v:Vw)(e:E)(val:rd)(L:List Int):Prop:=
 (e.aY= -1/\e.val=val/\L=[]/\val.size<=40)\/(0<=e.aY/\e.aY<=511/\e.val.size=0/\L≠[]/\L.length=(jb val.size).toNat/\40<val.size/\val.size<=1024/\UG v e.aY L val.data.toList/\L.Nodup)
theorem Aw{n:Nat}(h:n<=1024):1<=(jb n).toNat/\(jb n).toNat<=5/\n<=228*(jb n).toNat:=by
 unfold jb;omega
theorem VN.congr(h:VN v e val L)(hv:∀j∈L,v' j=v j):VN v' e val L:=by
 rcases h with h|⟨a,b,z,c,d,f,g,i,j⟩
 .exact .inl h
 .exact .inr ⟨a,b,z,c,d,f,g,i.congr hv,j⟩
theorem VN.here(h:VN v e val L):∀j∈L,(v j).2=0:=by
 rcases h with⟨_,_,h,_⟩|⟨a,b,z,c,d,f,g,i,j⟩
 .rw[h];simp
 .exact i.here
theorem VN.nodup(h:VN v e val L):L.Nodup:=by
 rcases h with⟨_,_,h,_⟩|⟨a,b,z,c,d,f,g,i,j⟩
 .rw[h];exact qb
 .exact j
theorem vi(R:Rd q v o u mm)(h:VN v e val L):
  Rd (q.eH e).1 v o u mm/\((q.eH e).2=(val,0)\/((q.eH e).2.2=11/\mm<=u)):=by
 unfold QS.eH
 rcases h with⟨a,b,c,d⟩|⟨a,b,z,c,d,f,g,i,j⟩
 .rw[g8];exact⟨R,.inl (by rw[b])⟩
 .rw[gc];have hn:=Aw g;have hs:val.data.toList.length=val.size:=by simp
  obtain⟨w1,w2⟩:=vh 5 [] [] q v u R i c (by omega) (by rw[cQ,hs];exact g);refine⟨w1,?_⟩;unfold QS.eS
  rcases w2 with w2|⟨w2,w3⟩
  .left;rw[w2];rfl
  .right;rw[w2];exact⟨rfl,w3⟩
theorem Gb(R:Rd q v o u mm)(h:VN v e val L):
  ((q.pI e).2=0/\Rd (q.pI e).1 (n9 v L) o u mm)\/((q.pI e).2=11/\Rd (q.pI e).1 v o u mm/\mm<=u):=by
 unfold QS.pI
 rcases h with⟨a,b,c,d⟩|⟨a,b,z,c,d,f,g,i,j⟩
 .rw[g8,c,Ds];exact .inl ⟨rfl,R⟩
 .rw[gc];have hn:=Aw g;have hs:val.data.toList.length=val.size:=by simp
  obtain⟨w1,w2⟩:=vh 5 [] [] q v u R i c (by omega) (by rw[cQ,hs];exact g);unfold QS.oV;have w1:Rd (q.eS e.aY).1 v o u mm:=w1
  rcases w2 with w2|⟨w2,w3⟩
  .have w2:(q.eS e.aY).2=([]++L,[]++val.data.toList,0):=w2;rw[w2,i8];obtain⟨d1,d2⟩:=Dt L (q.eS e.aY).1 v u w1 j i.here;left;refine⟨?_,d2⟩;show wG ((q.eS e.aY).1.rN L).2=0;rw[d1];decide
  .have w2:(q.eS e.aY).2=([],[],11):=w2;rw[w2,i9];exact .inr ⟨(by decide:wG 11=11),w1,w3⟩
theorem UJ(R:Rd q v o u mm)(key val:rd)(hv:val.size<=1024):
  ((q.jt key val).2.2=11/\∃v' u',Rd (q.jt key val).1 v' o u' mm/\u'<=u+5/\(mm<=u'\/512<=u'))\/
  ((q.jt key val).2.2=0/\∃v' L,Rd (q.jt key val).1 v' o (u+L.length) mm/\VN v' (q.jt key val).2.1 val L/\(q.jt key val).2.1.key=key/\(∀j∈L,v j=([],3))/\∀j,j∉L->v' j=v j):=by
 unfold QS.jt
 by_cases h:val.size<=40
 .rw[if_pos h];exact .inr ⟨rfl,v,[],R,.inl ⟨rfl,rfl,rfl,h⟩,rfl,by simp,λ_ _=>rfl⟩
 .rw[if_neg h];have hn:=Aw hv;have hs:val.data.toList.length=val.size:=by simp
  have he:q.pB val.data.toList=QS.rO val.data.toList (jb val.size).toNat q (-1) []:=by
   unfold QS.pB;rw[gc,hs]
  rw[he]
  rcases Ga val.data.toList (jb val.size).toNat q v u (-1) [] [] R ⟨rfl,lJ (by omega)⟩ (by omega) (by omega)with⟨a1,v',u',a2,a3,a4⟩|⟨a1,a2,a3,v',new,a4,a5,a6,a7,a8,a9⟩
  .exact .inl ⟨a1,v',u',a2,by omega,a4⟩
  .rw[jR]at a5;have fF:new≠[]:=λe=>by rw[e]at a6;simp at a6;omega
   have hp:¬(QS.rO val.data.toList (jb val.size).toNat q (-1) []).2.1<0:=λh=>fF ((a5.neg a4).1 h);exact .inr ⟨a1,v',new,a4,.inr ⟨Int.not_lt.1 hp,a3,rfl,fF,a6,by omega,hv,a5,a8⟩,rfl,a7,a9⟩
end
variable{v:Vw}{H:Nat}{key:rd}{up:List Step}{x:Step}
abbrev MT:=E×rd×List Int
def rf(M:List MT):List Int:=M.flatMap λm=>m.2.2
def jy(M:List MT):List (rd×rd):=M.map λm=>(m.1.key,m.2.1)
@[simp] theorem gD(a b:List MT):rf (a++b)=rf a++rf b:=by simp[rf]
@[simp] theorem RD:rf []=[]:=rfl
@[simp] theorem oe(m:MT)(b:List MT):rf (m::b)=m.2.2++rf b:=rfl
@[simp] theorem RE(a b:List MT):jy (a++b)=jy a++jy b:=by simp[jy]
@[simp] theorem prs_nil:jy []=[]:=rfl
@[simp] theorem LM(m:MT)(b:List MT):jy (m::b)=(m.1.key,m.2.1)::jy b:=rfl
structure Tree(v:Vw)(H:Nat)(M:List MT):Prop where
 ok:nG v H 0
 en:M.map (λm=>m.1)=ie v H 0
 va:∀m∈M,VN v m.1 m.2.1 m.2.2
 LH:(bG (aL v H 0)++rf M).Nodup
 all:∀j,(v j).2=0->j∈bG (aL v H 0)++rf M
structure Qm(l:List (rd×rd))(key:rd)(A C B:List (rd×rd)):Prop where
 e:l=A++(C++B)
 a:∀x∈A,fw x.1 key
 b:∀x∈B,fw key x.1
 c:C=[]\/∃y,C=[(key,y)]
structure Dec(v:Vw)(key:rd)(up:List Step)(x:Step)(M M1 MC M2:List MT)(a b:List E):Prop where
 n:bg x.l key=a.length
 l:x.l=a++(MC.map (λm=>m.1)++b)
 m:M=M1++(MC++M2)
 m1:M1.map (λm=>m.1)=ct (fV v up 0)++a
 m2:M2.map (λm=>m.1)=b++ct (dJ v up 0)
 k1:∀m∈M1,fw m.1.key key
 k2:∀m∈M2,fw key m.1.key
 c:(MC=[]/\cG x.l key=false)\/∃m,MC=[m]/\m.1.key=key/\cG x.l key=true
theorem Du{M:List MT}(T:Tree v H M)(W:WayV v key up x)(hl:up.length=H):∃M1 MC M2 a b,Dec v key up x M M1 MC M2 a b:=by
 obtain⟨p1,p2,p3,p4,p5⟩:=Dp W;rw[hl]at p5;have wJ:=T.en;rw[p5]at wJ;obtain⟨a,b,h1,h2,h3,h4⟩:=Dn (qJ W.nd) key;have main:∀(c b':List E),b=c++b'->(∀e∈b',fw key e.key)->∃M1 MC M2,M=M1++(MC++M2)/\M1.map (λm=>m.1)=ct (fV v up 0)++a/\MC.map (λm=>m.1)=c/\M2.map (λm=>m.1)=b'++ct (dJ v up 0)/\(∀m∈M1,fw m.1.key key)/\(∀m∈M2,fw key m.1.key):=λc b' hb hb'=>by
  have hen2:M.map (λm=>m.1)=(ct (fV v up 0)++a)++(c++(b'++ct (dJ v up 0))):=by rw[wJ,h1,hb];simp
  obtain⟨M1,MR,e1,e2,e3⟩:=List.map_eq_append_iff.1 hen2;obtain⟨MC,M2,e4,e5,e6⟩:=List.map_eq_append_iff.1 e3;refine⟨M1,MC,M2,by rw[e1,e4],e2,e5,e6,λm hm=>?_,λm hm=>?_⟩
  .have:m.1∈ct (fV v up 0)++a:=by rw[<-e2];exact cr.2 ⟨m,hm,rfl⟩
   rcases ay.1 this with h|h
   .exact p3 _ h
   .exact h3 _ h
  .have:m.1∈b'++ct (dJ v up 0):=by rw[<-e6];exact cr.2 ⟨m,hm,rfl⟩
   rcases ay.1 this with h|h
   .exact hb' _ h
   .exact p4 _ h
 rcases h4 with⟨h4,c,b',hb,hc,hb'⟩|⟨h4,hb⟩
 .obtain⟨M1,MC,M2,e1,e2,e3,e4,e5,e6⟩:=main [c] b' (by rw[hb];rfl) hb';have hMC:∃m,MC=[m]/\m.1=c:=by
   match MC,e3 with
   |[m],e3=>exact⟨m,rfl,by simpa using e3⟩
   |[],e3=>exact absurd e3 (by simp)
   |_::_::_,e3=>exact absurd e3 (by simp)
  obtain⟨m,rfl,rfl⟩:=hMC;exact⟨M1,[m],M2,a,b',h2,by rw[h1,hb];simp,e1,e2,e4,e5,e6,.inr ⟨m,rfl,hc,h4⟩⟩
 .obtain⟨M1,MC,M2,e1,e2,e3,e4,e5,e6⟩:=main [] b rfl hb;have hMC:MC=[]:=List.map_eq_nil_iff.1 e3;subst hMC;exact⟨M1,[],M2,a,b,h2,by rw[h1];simp,e1,e2,e4,e5,e6,.inl ⟨rfl,h4⟩⟩
theorem Dec.Y8{M M1 MC M2:List MT}{a b:List E}(d:Dec v key up x M M1 MC M2 a b):Qm (jy M) key (jy M1) (jy MC) (jy M2):=by
 refine⟨by rw[d.m];simp,λy hy=>?_,λy hy=>?_,?_⟩
 .obtain⟨m,hm,rfl⟩:=cr.1 hy;exact d.k1 m hm
 .obtain⟨m,hm,rfl⟩:=cr.1 hy;exact d.k2 m hm
 .rcases d.c with⟨h,_⟩|⟨m,h,hk,_⟩
  .rw[h];exact .inl rfl
  .rw[h];exact .inr ⟨m.2.1,by rw[<-hk];rfl⟩
section
variable{o:Vw}{mm:Nat}
def LR(C:List (rd×rd)):rd×Int:=match C with
 |[]=>(⟨#[]⟩,9)
 |x::_=>(x.2,0)
theorem Dv(up:List Step)(x:Step):iV (up.reverse++[x])=x:=by unfold iV;simp
theorem Za{q:QS}{u:Nat}{M:List MT}(R:Rd q v o u mm)(T:Tree v H M)(hH:H<=15)(key:rd):
  Rd (q.fm key).1 v o u mm/\(((q.fm key).2.2=11/\mm<=u)\/∃A C B,Qm (jy M) key A C B/\(q.fm key).2=LR C):=by
 obtain⟨r1,r2⟩:=IQ R T.ok hH key;unfold QS.fm
 rcases r2 with⟨r2,r3⟩|⟨r2,up,x,r3,r4,W⟩
 .rw[if_pos (by rw[r2];simp)];exact⟨r1,.inl ⟨r2,r3⟩⟩
 .rw[if_neg (by rw[r2];simp),r3,Dv];obtain⟨M1,MC,M2,a,b,d⟩:=Du T W r4;have hp:=d.Y8
  rcases d.c with⟨h1,h2⟩|⟨m,h1,hk,h2⟩
  .rw[if_neg (by rw[h2];simp)];refine⟨r1,.inr ⟨_,_,_,hp,?_⟩⟩;rw[h1];rfl
  .rw[if_pos h2];have hx:x.l.getD (bg x.l key) Nd.E.zero=m.1:=by rw[d.n,d.l,h1];simp[iq]
   rw[hx];obtain⟨g1,g2⟩:=vi r1 (T.va m (by rw[d.m,h1];simp));refine⟨g1,g2.symm.imp id (λg2=>⟨_,_,_,hp,?_⟩)⟩;rw[g2,h1];rfl
end
variable{M:List MT}{v:Vw}{H:Nat}
theorem UK(a:List E)(n:E)(b:List E):(a++b).insertIdx a.length n=a++n::b:=by
 induction a with
 |nil=>rfl
 |cons x a ih=>rw[nL,fT,Nn,ih];rfl
theorem fj{α:Type}{a b:List α}:(a++b).Nodup↔a.Nodup/\b.Nodup/\∀x∈a,x∉b:=by
 rw[gU];exact⟨λ⟨h1,h2,h3⟩=>⟨h1,h2,λx hx hb=>h3 x hx x hb rfl⟩,λ⟨h1,h2,h3⟩=>⟨h1,h2,λx hx y hy e=>h3 x hx (by rw[e];exact hy)⟩⟩
theorem wR{j:Int}:j∈rf M↔ ∃m∈M,j∈m.2.2:=mZ
theorem Tree.Zb(T:Tree v H M):∀j∈rf M,(v j).2=0:=λj hj=>by
 obtain⟨m,hm,hj⟩:=wR.1 hj;exact(T.va m hm).here j hj
theorem Tree.zy(T:Tree v H M):∀j∈bG (aL v H 0),(v j).2=0:=IU H 0 T.ok
structure SetP(v v':Vw)(H:Nat)(M:List MT)(key value:rd)(H':Nat)(M':List MT)(new:Nat)(A C B:List (rd×rd))(h c:Nat):Prop where
 t:Tree v' H' M'
 d:Qm (jy M) key A C B
 m:jy M'=A++(key,value)::B
 n:new=c+h
 c:c<=5/\(value.size<=40->c=0)
 FZ:∀wt c,Qi wt c->eU wt (aL v' H' 0)+c*h<=eU wt (aL v H 0)+wt 0*(key.size+(if value.size<=40 then value.size else 0)+7)+(if H'=H then 0 else c)
 h:H'=H\/(H'=H+1/\∀wt c,Qi wt c->73*wt H<=eU wt (aL v H 0)+wt 0*(key.size+(if value.size<=40 then value.size else 0)+7))
section
variable{o:Vw}{mm:Nat}
theorem Zd{q:QS}{u:Nat}(R:Rd q v o u mm)(T:Tree v H M)(hH:H<=15)(key value:rd)(hk:key.size<=32)(hv:value.size<=1024):
  ((q.gE key value).2=11/\∃v' u',Rd (q.gE key value).1 v' o u' mm/\u'<=u+H+8/\(mm<=u'\/512<=u'))\/
  ((q.gE key value).2=0/\∃v' H' M' new A C B h c,Rd (q.gE key value).1 v' o (u+new) mm/\SetP v v' H M key value H' M' new A C B h c):=by
 obtain⟨r1,r2⟩:=IQ R T.ok hH key;unfold QS.gE;rw[gc]
 rcases r2 with⟨r2,r3⟩|⟨r2,up,x,r3,r4,W⟩
 .rw[if_pos (by rw[r2];simp)];exact .inl ⟨r2,v,u,r1,by omega,.inl r3⟩
 rw[if_neg (by rw[r2];simp),r3,Dv,show(up.reverse++[x]).dropLast.reverse=up by simp];obtain⟨p1,p2,p3,p4,p5⟩:=Dp W;rw[r4]at p1 p2 p5;obtain⟨M1,MC,M2,a,b,d⟩:=Du T W r4;have sk:bG (aL v H 0)=bG (fV v up 0)++x.ao::bG (dJ v up 0):=by rw[p2,dq,dr]
 have UL:=fj.1 T.LH;have haw:r8 x.l key=a++b:=by
  unfold r8
  rcases d.c with⟨h1,h2⟩|⟨m,h1,hkk,h2⟩
  .rw[if_neg (by rw[h2];simp),d.l,h1];rfl
  .rw[if_pos h2,d.n,d.l,h1];exact yv a m.1 b
 have hdnod:(rf MC).Nodup:=by
  have:=UL.2.1;rw[d.m,gD,gD]at this;exact(fj.1 (fj.1 this).2.1).1
 have Ew:(((q.eP key).1.lC x.l key).2=0/\Rd ((q.eP key).1.lC x.l key).1 (n9 v (rf MC)) o u mm)\/(((q.eP key).1.lC x.l key).2=11/\Rd ((q.eP key).1.lC x.l key).1 v o u mm/\mm<=u):=by
  unfold QS.lC
  rcases d.c with⟨h1,h2⟩|⟨m,h1,hkk,h2⟩
  .rw[if_neg (by rw[h2];simp),h1,RD,Ds];exact .inl ⟨rfl,r1⟩
  .rw[if_pos h2];have hx:x.l.getD (bg x.l key) Nd.E.zero=m.1:=by rw[d.n,d.l,h1];simp[iq]
   rw[hx,h1,oe,RD,jR];exact Gb r1 (T.va m (by rw[d.m,h1];simp))
 rw[haw,d.n]
 rcases Ew.symm with⟨o1,o2,o3⟩|⟨o1,o2⟩
 .rw[if_pos (by rw[o1];simp)];exact .inl ⟨o1,v,u,o2,by omega,.inl o3⟩
 rw[if_neg (by rw[o1];simp)];unfold QS.Uv
 rcases UJ o2 key value hv with⟨s1,v',u',s2,s3,s4⟩|⟨s1,v2,L,s2,s3,s4,s5,s6⟩
 .rw[if_pos (by rw[s1];simp)];exact .inl ⟨s1,v',u',s2,by omega,s4⟩
 rw[if_neg (by rw[s1];simp)];obtain⟨n,hn⟩:∃n,(((q.eP key).1.lC x.l key).1.jt key value).2.1=n:=⟨_,rfl⟩;rw[hn]at s3 s4 ⊢;have hLl:L.length<=5/\(value.size<=40->L.length=0):=by
  rcases s3 with⟨_,_,h,_⟩|⟨_,_,_,_,h,h40,h2,_⟩
  .rw[h];simp
  .have:=Aw h2;exact⟨by omega,λh=>by omega⟩
 have re:∀j,(v j).2=0->j∉rf MC->v2 j=v j:=λj hj hm=>by
  have h1:n9 v (rf MC) j=v j:=by unfold n9;rw[if_neg hm]
  rw[s6 j (λhL=>?_),h1];have:=s5 j hL;rw[h1]at this;rw[this]at hj;exact absurd hj (by decide)
 have hMCin:∀j∈rf MC,j∈rf M:=λj hj=>by rw[d.m,gD,gD];simp[hj]
 have hnd2:∀j∈bG (aL v H 0),v2 j=v j:=λj hj=>re j (T.zy j hj) (λhm=>UL.2.2 j hj (hMCin j hm));obtain⟨c1,c2,c3⟩:=iP (v':=v2) up 0 x.ao W.hole (λj hj=>hnd2 j (by rw[sk];simp[hj])) (λj hj=>hnd2 j (by rw[sk];simp[hj]));have nh:∀e∈a++b,e∈x.l:=λe he=>by rw[d.l];rcases ay.1 he with h|h<;>simp[h]
 have uj:=nH (qI (v:=v) (p:=x.ao) (by rw[W.nd]));rw[W.nd]at uj;have uj:∀e∈x.l,dO e true:=uj;have hbx:an x.l<=223:=by have:=W.ok.2;rw[W.nd]at this;exact this
 have hbab:an (a++b)<=an x.l:=by rw[d.l,fi,fi,fi];omega
 have hrn:dO n true/\n.val.size=(if value.size<=40 then value.size else 0):=by
  rcases s3 with⟨h1,h2,_,h4⟩|⟨h1,h2,h3,h4,h5,h40,h6,_⟩
  .refine⟨⟨by rw[s4];exact hk,by rw[h2];exact h4,by rw[h1];decide,by rw[h1];decide,.inl (by rw[h1];decide)⟩,by rw[if_pos h4,h2]⟩
  .exact⟨⟨by rw[s4];exact hk,by rw[h3];decide,by rw[if_pos rfl];omega,by omega,.inr h3⟩,by rw[gc,h3]⟩
 obtain⟨hrn,hvn⟩:=hrn;have hcn:n.key.size+n.val.size+7=key.size+(if value.size<=40 then value.size else 0)+7:=by rw[s4,hvn]
 have hcn79:n.key.size+n.val.size+7<=79:=by have h1:=hrn.1;have h2:=hrn.2.1;omega
 have hbn:an (a++n::b)=an (a++b)+(n.key.size+n.val.size+7):=by rw[fi,fi,eY];omega
 have hins:(a++b).insertIdx a.length n=a++n::b:=UK a n b;rw[hins];have hla:∀e∈a,fw e.key key:=λe he=>by
  have:e∈M1.map (λm=>m.1):=by rw[d.m1];exact bP _ he
  obtain⟨m,hm,rfl⟩:=cr.1 this;exact d.k1 m hm
 have hlb:∀e∈b,fw key e.key:=λe he=>by
  have:e∈M2.map (λm=>m.1):=by rw[d.m2];exact cg _ he
  obtain⟨m,hm,rfl⟩:=cr.1 this;exact d.k2 m hm
 have hpw:=qJ W.nd;rw[d.l,eB,eB]at hpw;have P:Ez v2 0 ⟨x.ao,x.leaf,a++n::b,x.at_⟩ up:=by
  refine⟨c1,W.leaf,?_,⟨λe he=>?_,?_⟩,by simp,?_,λe he=>?_,?_,?_⟩
  .show(v2 x.ao).2=0;have sW:x.ao∈bG (aL v H 0):=by rw[sk];simp
   rw[hnd2 _ sW];exact T.zy _ sW
  .show dO e true
   rcases ay.1 he with he|he
   .exact uj e (nh e (cg _ he))
   .rcases ar.1 he with rfl|he
    .exact hrn
    .exact uj e (nh e (bP _ he))
  .show(a++n::b).Pairwise λc e=>fw c.key e.key;rw[eB,eC];refine⟨hpw.1,⟨λe he=>by rw[s4];exact hlb e he,hpw.2.1.2.1⟩,λe he e' nj=>?_⟩
   rcases ar.1 nj with rfl|nj
   .rw[s4];exact hla e he
   .exact hpw.2.2 e he e' (bP _ nj)
  .show blank x.leaf _=_;rw[W.leaf];exact lV _
  .have he:e∈a++n::b:=he
   rcases ay.1 he with he|he
   .exact W.Y3 e (nh e (cg _ he))
   .rcases ar.1 he with rfl|he
    .rw[s4];exact W.key
    .exact W.Y3 e (nh e (bP _ he))
  .show(bG (fV v2 up 0)++x.ao::([]++bG (dJ v2 up 0))).Nodup;rw[c2,c3,cQ,<-sk];exact UL.1
  .show an (a++n::b)<=302;omega
 have Q6:dv v2 0 ⟨x.ao,x.leaf,a++n::b,x.at_⟩ up=fV v up 0++(0,x.ao,a++n::b)::dJ v up 0:=by
  unfold dv;rw[c2,c3];rfl
 have Ze:bG (dv v2 0 ⟨x.ao,x.leaf,a++n::b,x.at_⟩ up)=bG (aL v H 0):=by rw[Q6,sk,dq,dr]
 have Y7:∀wt:Nat->Nat,eU wt (dv v2 0 ⟨x.ao,x.leaf,a++n::b,x.at_⟩ up)<=eU wt (aL v H 0)+wt 0*(n.key.size+n.val.size+7):=λwt=>by
  rw[Q6,p2];simp only[j5,eQ];have:wt 0*(an (a++n::b)-151)<=wt 0*(an x.l-151)+wt 0*(n.key.size+n.val.size+7):=by
   rw[<-sO];exact kR _ (by omega)
  omega
 rcases zv (up.length+1) up 0 ⟨x.ao,x.leaf,a++n::b,x.at_⟩ _ v2 (u+L.length) (by omega) P s2 with⟨t1,v',u',t2,t3,t4⟩|⟨t1,v3,new,H',t2,G⟩
 .exact .inl ⟨t1,v',u',t2,by omega,t4⟩
 refine .inr ⟨t1,v3,H',M1++(n,value,L)::M2,L.length+new.length,jy M1,jy MC,jy M2,new.length,L.length,by rw[<-Nat.add_assoc];exact t2,?_⟩;have hMn:=UL.2.1;rw[d.m,gD,gD]at hMn;have IW:=fj.1 hMn;have Zf:=fj.1 IW.2.1;have LS:∀j,j∈rf M1\/j∈rf M2->j∈rf M/\j∉rf MC:=λj hj=>by
  refine⟨by rw[d.m,gD,gD];rcases hj with h|h<;>simp[h],λhc=>?_⟩
  rcases hj with h|h
  .exact IW.2.2 j h (cg _ hc)
  .exact Zf.2.2 j hc h
 have hLv:∀j,(v j).2=0->j∉rf MC->j∉L:=λj hj hm hL=>by
  have:=s5 j hL;unfold n9 at this;rw[if_neg hm]at this;rw[this]at hj;exact absurd hj (by decide)
 have hL2:∀j∈L,(v2 j).2=0:=s3.here;have LX:∀j,(v2 j).2=0->j∉new:=λj hj hm=>by rw[G.fresh j hm]at hj;exact absurd hj (by decide)
 have hM3:∀j,j∈rf M1\/j∈rf M2->v3 j=v j/\(v2 j).2=0/\j∉bG (aL v H 0):=λj hj=>by
  obtain⟨h1,h2⟩:=LS j hj;have h3:=T.Zb j h1;have h4:=re j h3 h2;have h5:j∉bG (aL v H 0):=λh=>UL.2.2 j h h1;refine⟨?_,by rw[h4];exact h3,h5⟩;rw[G.o j (by rw[Ze];exact h5) (LX j (by rw[h4];exact h3)),h4]
 have hPL:∀j∈bG (aL v H 0),j∉L:=λj hj=>hLv j (T.zy j hj) (λhm=>UL.2.2 j hj (hMCin j hm));have hL3:∀j∈L,v3 j=v2 j:=λj hj=>G.o j (by rw[Ze];exact λh=>hPL j h hj) (LX j (hL2 j hj));have hP2:∀j∈bG (aL v H 0),(v2 j).2=0:=λj hj=>by rw[hnd2 j hj];exact T.zy j hj
 have wJ:M1.map (λm=>m.1)=ct (fV v up 0)++a:=d.m1;refine⟨⟨G.ok,?_,λm hm=>?_,?_,λj hj=>?_⟩,d.Y8,?_,by omega,hLl,λwt c hw=>?_,?_⟩
 .rw[G.en,Q6,cX,fA,d.m1,d.m2];simp
 .rcases ay.1 hm with hm|hm
  .exact(T.va m (by rw[d.m];simp[hm])).congr (λj hj=>(hM3 j (.inl (wR.2 ⟨m,hm,hj⟩))).1)
  .rcases ar.1 hm with rfl|hm
   .exact s3.congr hL3
   .exact(T.va m (by rw[d.m];simp[hm])).congr (λj hj=>(hM3 j (.inr (wR.2 ⟨m,hm,hj⟩))).1)
 .have ui:(bG (aL v3 H' 0)++rf (M1++(n,value,L)::M2)).Perm ((bG (aL v H 0)++new)++(rf M1++(L++rf M2))):=by
   rw[gD,oe,<-Ze];exact G.pg.append_right _
  rw[ui.nodup_iff,fj];refine⟨fj.2 ⟨UL.1,G.LH,λj hj=>LX j (hP2 j hj)⟩,fj.2 ⟨IW.1,fj.2 ⟨s3.nodup,Zf.2.1,λj hj hm=>?_⟩,λj hj hm=>?_⟩,λj hj hm=>?_⟩
  .obtain⟨h1,h2⟩:=LS j (.inr hm);exact hLv j (T.Zb j h1) h2 hj
  .rcases ay.1 hm with hm|hm
   .obtain⟨h1,h2⟩:=LS j (.inl hj);exact hLv j (T.Zb j h1) h2 hm
   .exact IW.2.2 j hj (bP _ hm)
  .have EY:j∈L\/(j∈rf M1\/j∈rf M2):=by
    rcases ay.1 hm with hm|hm
    .exact .inr (.inl hm)
    .rcases ay.1 hm with hm|hm
     .exact .inl hm
     .exact .inr (.inr hm)
   rcases ay.1 hj with hj|hj
   .rcases EY with h|h
    .exact hPL j hj h
    .exact(hM3 j h).2.2 hj
   .rcases EY with h|h
    .exact LX j (hL2 j h) hj
    .exact LX j (hM3 j h).2.1 hj
 .rw[ay,gD,oe,ay,ay]
  by_cases h1:j∈bG (aL v H 0)
  .exact .inl (G.pg.mem_iff.2 (by rw[Ze];exact cg _ h1))
  .by_cases h2:j∈new
   .exact .inl (G.pg.mem_iff.2 (bP _ h2))
   .rw[G.o j (by rw[Ze];exact h1) h2]at hj
    by_cases h3:j∈L
    .exact .inr (.inr (.inl h3))
    .rw[s6 j h3]at hj;unfold n9 at hj
     by_cases h4:j∈rf MC
     .rw[if_pos h4]at hj;exact absurd hj (by decide)
     .rw[if_neg h4]at hj;have:=T.all j hj;rw[d.m,gD,gD]at this;simp only[ay]at this
      rcases this with h|h|h|h
      .exact absurd h h1
      .exact .inr (.inl h)
      .exact absurd h h4
      .exact .inr (.inr (.inr h))
 .rw[RE,LM,s4]
 .have g:=G.FZ wt c hw;have g2:=Y7 wt;rw[hcn]at g2;rw[bq,r4]at g;omega
 .have hl:0+up.length=H:=by omega
  rcases G.h with g|⟨g1,g2⟩
  .exact .inl (by rw[g,hl])
  .refine .inr ⟨by rw[g1,hl],λwt c hw=>?_⟩;have g3:=g2 wt c hw;rw[hl]at g3;have g4:=Y7 wt;rw[hcn]at g4;omega
end
variable{v:Vw}{h:Nat}{l:List E}
structure Dw(v v':Vw)(H H':Nat)(ns:List NT)(gone:List Int):Prop where
 ok:nG v' H' 0
 en:ie v' H' 0=ct ns
 pg:(bG (aL v' H' 0)++gone).Perm (bG ns)
 del:∀j∈gone,(v' j).2≠0
 o:∀j,j∉bG ns->v' j=v j
 FZ:∀wt,eU wt (aL v' H' 0)<=eU wt ns
 h:H'<=H
theorem sq(k:l≠[]->gK v h l)(hb:an (blank (decide (h=0)) l)<=223):(bT (decide (h=0)) l).2=0:=by
 by_cases hl:l=[]
 .subst hl
  rcases pL (decide (h=0)) []with h1|h1|h1
  .exact h1.2.2.1
  .have h2:=h1.2.1;rw[pO]at h2;exact absurd h2 (by simp[an])
  .refine absurd ?_ h1.1;rw[pO];intro i hi;exact absurd hi (by simp)
 .exact wP (k hl) hb
section
variable{o:Vw}{mm:Nat}
theorem yw{v':Vw}(k:l≠[]->gK v h l)(hb:an (blank (decide (h=0)) l)<=223)(hh:l≠[]\/h=0)(hd:iX v' 0=(decide (h=0),blank (decide (h=0)) l,0))(hv:∀j,j≠0->v' j=v j)(hn:(0::bG (cM v h l)).Nodup):
  Dw v v' h h ((h,0,l)::cM v h l) []:=by
 have ok:gK v h l:=by
  by_cases hl:l=[]
  .rcases hh with hh|hh
   .exact absurd hl hh
   .subst hl hh;exact⟨by simp,List.Pairwise.nil⟩
  .exact k hl
 obtain⟨p1,p2,p3⟩:=Dq (v:=v) (v':=v') (h:=h) (x:=⟨0,decide (h=0),l,0⟩) (up:=[]) rfl ok (λh=>absurd rfl h) (λ_ _=>trivial) (by simpa [dK,cR]using hn) hb hd hv;have p1:nG v' h 0:=p1;have p2:aL v' h 0=(h,0,blank (decide (h=0)) l)::(cM v h l++[]):=p2;rw[jR]at p2;have p3:ie v' h 0=_:=p3;refine⟨p1,?_,?_,by simp,λj hj=>hv j (λe=>hj (by simp[e])),λwt=>?_,ai _⟩
 .rw[p3];unfold dv;simp only[du,cP,dK,cR];simp
 .rw[p2];simp
 .rw[p2,eQ,eQ];dsimp only;have:wt h*(an (blank (decide (h=0)) l)-151)<=wt h*(an l-151):=kR _ (by have:=dX (decide (h=0)) l;omega);omega
theorem Dx:∀(h m:Nat) (l:List E) (q:QS) (v:Vw) (u:Nat),h<m->Rd q v o u mm->(v 0).2=0->(l≠[]->gK v h l)->an (blank (decide (h=0)) l)<=223->(0::bG (cM v h l)).Nodup->
  ((mV m q (decide (h=0)) l).2=11/\mm<=u/\∃v',Rd (mV m q (decide (h=0)) l).1 v' o u mm)\/
  ((mV m q (decide (h=0)) l).2=0/\∃v' H' gone,Rd (mV m q (decide (h=0)) l).1 v' o u mm/\Dw v v' h H' ((h,0,l)::cM v h l) gone)
 |h,0,_,_,_,_,hm,_,_,_,_,_=>absurd hm (by omega)
 |h,m+1,l,q,v,u,hm,R,h0,k,hb,hn=>by
  unfold mV
  by_cases hs:decide (h=0)=false/\l.length=1
  .rw[if_pos hs];obtain⟨h',rfl⟩:∃h',h=h'+1:=⟨h-1,by have:=hs.1;simp at this;omega⟩;obtain⟨c,rfl⟩:∃c,l=[c]:=by
    match l,hs.2 with
    |[c],_=>exact⟨c,rfl⟩
   have ok:=k (by simp);have hc:=ok.2.c c (by simp);obtain⟨d1,d2,d3⟩:=IM hc.1;have IY:[c].getD 0 Nd.E.zero=c:=rfl;rw[IY];obtain⟨r1,r2⟩:=R.read c.aY
   rcases r2 with r2|⟨r2,r3⟩
   .rw[r2,d1,i8];have hhere:(v c.aY).2=0:=n7 (by rw[d1]);obtain⟨e1,e2⟩:=r1.drop c.aY hhere;rw[if_neg (by rw[e1];simp)];dsimp only;have zu:cM v (h'+1) [c]=(h',c.aY,(iX v c.aY).2.1)::cM v h' (iX v c.aY).2.1:=by
     show aL v h' c.aY++[]=_;rw[jR,oM]
    rw[zu,dr]at hn;have hn':=gV.1 hn;have Wd:=gV.1 hn'.2;have hcne:(0:Int)≠c.aY:=λe=>hn'.1 (by show(0:Int)∈_;rw[e];simp);have hvd:∀j,j≠c.aY->II v c.aY j=v j:=λj hj=>IJ v hj;obtain⟨g1,g2,g3⟩:=lW (v:=v) (v':=II v c.aY) (h:=h') (l:=(iX v c.aY).2.1) (λj hj=>hvd j (λe=>Wd.1 (show c.aY∈bG (cM v h' (iX v c.aY).2.1)from e▸hj)))
    rcases Dx h' m (iX v c.aY).2.1 _ _ u (by omega) e2 (by rw[hvd 0 hcne];exact h0) (λ_=>g3 d3) (aq (dX _ _) d2) (by rw[g1];exact gV.2 ⟨λhm=>hn'.1 (bK _ hm),Wd.2⟩)with⟨i1,i2,i3⟩|⟨i1,v',H',gone,i2,S⟩
    .exact .inl ⟨i1,i2,i3⟩
    .refine .inr ⟨i1,v',H',c.aY::gone,i2,S.ok,?_,?_,λj hj=>?_,λj hj=>?_,λwt=>?_,by have:=S.h;omega⟩
     .rw[S.en,g1,zu,lU,uZ,uZ]
     .rw[zu,dr,dr];have:=S.pg;rw[g1,dr]at this;refine(List.perm_middle.trans (this.cons _)).trans ?_;exact List.Perm.swap _ _ _
     .rcases ar.1 hj with rfl|hj
      .rw[S.o c.aY (by rw[g1,dr];intro hm;rcases ar.1 hm with hm|hm;exact hcne hm.symm;exact Wd.1 hm),FV];decide
      .exact S.del j hj
     .rw[zu,dr,dr]at hj;simp only[ar,not_or]at hj;rw[S.o j (by rw[g1,dr];simp only[ar,not_or];exact⟨hj.1,hj.2.2⟩)];exact hvd j hj.2.1
     .have:=S.FZ wt;rw[g1,eQ]at this;rw[zu,eQ,eQ];show _<=_+(wt h'*(an (iX v c.aY).2.1-151)+_);have h3:eU wt (aL v' H' 0)<=wt h'*(an (iX v c.aY).2.1-151)+eU wt (cM v h' (iX v c.aY).2.1):=this;omega
   .rw[r2,i9];exact .inl ⟨rfl,r3,v,r1⟩
  .rw[if_neg hs]
   by_cases hl:l=[]
   .subst hl;rw[if_pos rfl];have hk:cM v h []=[]:=by cases h<;>rfl
    have sj:(bT true []).2=0:=sq (v:=v) (h:=0) (λh=>absurd rfl h) (by rw[pO];decide)
    rcases R.write h0 sj with⟨w1,w2⟩|⟨w1,w2,w3⟩
    .right;have S:=yw (v:=v) (v':=ky v 0 (bT true []).1) (h:=0) (l:=[]) (λh=>absurd rfl h) (by rw[pO];decide) (.inr rfl) (by rw[hJ sj,if_pos rfl];rfl) (λj hj=>by unfold ky;rw[if_neg hj]) (by simp[cM]);refine⟨w1,_,0,[],w2,S.ok,?_,?_,by simp,λj hj=>?_,λwt=>?_,aW _⟩
     .rw[S.en,hk]
      cases h<;>simp[cM]
     .rw[hk];exact S.pg
     .rw[hk]at hj;exact S.o j hj
     .have:=S.FZ wt;rw[hk,eQ];have e:eU wt ((0,0,[])::cM v 0 [])=0:=by show wt 0*(0-151)+0=0;simp
      rw[e]at this;omega
    .exact .inl ⟨w1,w3,v,w2⟩
   .rw[if_neg hl];have sj:=sq k hb
    rcases R.write h0 sj with⟨w1,w2⟩|⟨w1,w2,w3⟩
    .exact .inr ⟨w1,_,h,[],w2,yw k hb (.inl hl) (by rw[hJ sj,if_pos rfl]) (λj hj=>by unfold ky;rw[if_neg hj]) hn⟩
    .exact .inl ⟨w1,w3,v,w2⟩
structure RF(v:Vw)(h:Nat)(x:Step)(up:List Step):Prop where
 hole:qS v up h x.ao
 leaf:x.leaf=decide (h=0)
 here:(v x.ao).2=0
 ok:x.l≠[]->gK v h x.l
 Y3:∀e∈ig v h x.l,IP up e.key
 LH:(bG (fV v up h)++x.ao::(bG (cM v h x.l)++bG (dJ v up h))).Nodup
 sz:an x.l<=223
theorem UM{v1:Vw}{x y:Step}{up:List Step}(P:RF v h x (y::up))(hl:x.l=[])(hv:∀j,j≠x.ao->v1 j=v j)(hd:(v1 x.ao).2≠0):
  RF v1 (h+1) {y with l:=y.l.eraseIdx y.at_} up/\
  ∀{v':Vw} {H':Nat} {gone:List Int},Dw v1 v' (h+1+up.length) H' (dv v1 (h+1) {y with l:=y.l.eraseIdx y.at_} up) gone->Dw v v' (h+(y::up).length) H' (dv v h x (y::up)) (x.ao::gone):=by
 obtain⟨⟨a,c,b,f,hsib⟩,hU⟩:=P.hole;obtain⟨t1,t2,t3⟩:=mq f;have hn:=P.LH;rw[gU,gV]at hn;obtain⟨_,⟨na,_⟩,nb⟩:=hn;have mS:∀j∈bG (fV v (y::up) h),v1 j=v j:=λj hj=>hv j (λe=>nb j hj x.ao (by simp) e);have wQ:∀j∈bG (dJ v (y::up) h),v1 j=v j:=λj hj=>hv j (λe=>na (by rw[<-e];exact bP _ hj));obtain⟨H2,e1,e2⟩:=iP (y::up) h x.ao P.hole mS wQ;obtain⟨⟨a',c',b',f2,Y6⟩,hU2⟩:=H2
 have rK:a'=a/\c'=c/\b'=b:=by
  have q1:=(mq f2);exact⟨by rw[<-q1.1,t1],by rw[<-q1.2.2,t3],by rw[<-q1.2.1,t2]⟩
 obtain⟨rfl,rfl,rfl⟩:=rK;have hera:y.l.eraseIdx y.at_=a'++b':=by rw[f.l,f.at_,yv]
 rw[hera];have q1:bz v1 h a'=bz v h a':=(iO (λj hj=>mS j (by simp only[du,dK];rw[t1,dq,dr];exact bP _ (bK _ hj)))).1;have q2:bz v1 h b'=bz v h b':=(iO (λj hj=>wQ j (by simp only[cP,cR];rw[t2,dq];exact cg _ hj))).1
 have hU3:=iP up (h+1) y.ao hU (λj hj=>mS j (by simp only[du,dK];rw[dq];exact cg _ hj)) (λj hj=>wQ j (by simp only[cP,cR];rw[dq];exact bP _ hj));have Dr:=hU3.2.1;have vg:=hU3.2.2;have gq:=nH (qI (v:=v) (p:=y.ao) (by rw[f.nd]));rw[f.nd]at gq;have gq:∀e∈a'++c'::b',dO e false:=by rw[<-f.l];exact gq
 have hby:=f.by_;rw[f.l,fi,eY]at hby;have hkp:cM v h []=[]:=by cases h<;>rfl
 have hold:bG (dv v h x (y::up))=bG (fV v up (h+1))++(y.ao::bG (bz v h a'))++x.ao::(bG (bz v h b')++bG (dJ v up (h+1))):=by
  rw[gi,hl,hkp];simp only[du,cP,dK,cR];rw[t1,t2];simp
 have UF:bG (dv v1 (h+1) {y with l:=a'++b'} up)=bG (fV v up (h+1))++y.ao::((bG (bz v h a')++bG (bz v h b'))++bG (dJ v up (h+1))):=by
  rw[gi];show bG (fV v1 up (h+1))++y.ao::(bG (bz v1 h (a'++b'))++bG (dJ v1 up (h+1)))=_;rw[iC,dq,q1,q2,Dr,vg]
 have ui:(x.ao::bG (dv v1 (h+1) {y with l:=a'++b'} up)).Perm (bG (dv v h x (y::up))):=by
  rw[UF,hold,GY];intro j;simp only[Na,Nb];omega
 have LL:=P.LH;rw[<-gi]at LL;have hnod1:=ui.nodup_iff.2 LL;have hnod:=(gV.1 hnod1);refine⟨⟨hU2,?_,?_,λfF=>⟨λe he=>?_,?_⟩,λe he=>?_,?_,?_⟩,λ{v' H' gone} S=>?_⟩
 .show y.leaf=decide (h+1=0);rw[f.leaf];rfl
 .exact n7 (by show(iX v1 y.ao).2.2=0;rw[f2.nd])
 .have he:e∈a'++b':=he;exact gq e (by rcases ay.1 he with h|h<;>simp[h])
 .show vd (nG v1 h) (ie v1 h) (a'++b');refine⟨fF,f2.ch,f2.lo,λe he=>?_⟩
  cases ha':a' with
  |nil=>
   rw[ha']at he;exact f2.hb e (vy he)
  |cons z a2=>
   have hha:=f2.ha;rw[ha']at he hha;rw[nL,l9]at he
   rcases ay.1 he with he|he
   .exact hha e he
   .exact f2.hb e he
 .have he:e∈ct (bz v1 h (a'++b')):=he;obtain⟨z,hz,hx⟩:=dY.1 he;exact Y6 z hz e hx
 .rw[<-gi];exact hnod.2
 .show an (a'++b')<=223;rw[fi];omega
 .have hHl:h+(y::up).length=h+1+up.length:=by simp;omega
  rw[hHl];refine⟨S.ok,?_,?_,λj hj=>?_,λj hj=>?_,λwt=>?_,S.h⟩
  .rw[S.en,lX,lX];show ct (fV v1 up (h+1))++(ct (bz v1 h (a'++b'))++ct (dJ v1 up (h+1)))=_;rw[iC,eE,q1,q2,Dr,vg,hl];simp only[du,cP,dK,cR];rw[t1,t2];have:ig v h []=[]:=by cases h<;>rfl
   rw[this];simp
  .refine(List.perm_middle.trans (S.pg.cons _)).trans ui
  .rcases ar.1 hj with rfl|hj
   .rw[S.o _ hnod.1];exact hd
   .exact S.del j hj
  .rw[S.o j (λhm=>hj (ui.mem_iff.1 (bK _ hm)))];exact hv j (λe=>hj (ui.mem_iff.1 (by rw[e];simp)))
  .have h1:=S.FZ wt;have e3:eU wt (dv v1 (h+1) {y with l:=a'++b'} up)=eU wt (fV v up (h+1))+(wt (h+1)*(an (a'++b')-151)+((eU wt (bz v h a')+eU wt (bz v h b'))+eU wt (dJ v up (h+1)))):=by
    unfold dv;show eU wt (fV v1 up (h+1)++(h+1,y.ao,a'++b')::(bz v1 h (a'++b')++dJ v1 up (h+1)))=_;rw[iC,q1,q2,Dr,vg];simp only[j5,eQ]
   have e4:eU wt (dv v h x (y::up))=(eU wt (fV v up (h+1))+(wt (h+1)*(an y.l-151)+eU wt (bz v h a')))+(wt h*(an x.l-151)+(eU wt (bz v h b')+eU wt (dJ v up (h+1)))):=by
    unfold dv;simp only[du,cP,dK,cR];rw[t1,t2,hl,hkp];simp only[j5,eQ,LG,cQ]
   have m1:wt (h+1)*(an (a'++b')-151)<=wt (h+1)*(an y.l-151):=kR _ (by rw[f.l,fi,fi,eY];omega);rw[e3]at h1;rw[e4];omega
theorem zz:∀(up:List Step) (h:Nat) (x:Step) (q:QS) (v:Vw) (u:Nat),h+up.length<=15->Rd q v o u mm->RF v h x up->
  ((gy (x::up) q).2=11/\mm<=u/\∃v',Rd (gy (x::up) q).1 v' o u mm)\/
  ((gy (x::up) q).2=0/\∃v' H' gone,Rd (gy (x::up) q).1 v' o u mm/\Dw v v' (h+up.length) H' (dv v h x up) gone)
 |[],h,x,q,v,u,hh,R,P=>by
  have Eu:x.ao=0:=P.hole;have hb:an (blank (decide (h=0)) x.l)<=223:=aq (dX _ _) P.sz;have hn:(0::bG (cM v h x.l)).Nodup:=by have:=P.LH;rw[Eu]at this;simpa [dK,cR]using this
  have hns:dv v h x []=(h,0,x.l)::cM v h x.l:=by unfold dv;simp only[du,cP,dK,cR];rw[Eu];simp
  have h0:(v 0).2=0:=by have h1:=P.here;rw[Eu]at h1;exact h1
  rw[r9,hns]
  by_cases rJ:x.leaf=true
  .rw[if_pos rJ];have hz:h=0:=by rw[P.leaf]at rJ;exact of_decide_eq_true rJ
   subst hz;have sj:=sq (h:=0) P.ok hb;have sj:(bT x.leaf x.l).2=0:=by rw[rJ];exact sj
   rw[Eu]
   rcases R.write h0 sj with⟨w1,w2⟩|⟨w1,w2,w3⟩
   .refine .inr ⟨w1,_,0,[],w2,yw P.ok hb (.inr rfl) ?_ (λj hj=>by unfold ky;rw[if_neg hj]) hn⟩;rw[hJ sj,if_pos rfl,rJ];rfl
   .exact .inl ⟨w1,w3,v,w2⟩
  .rw[if_neg rJ];unfold QS.uW;rw[P.leaf];have hlen:h+([]:List Step).length=h:=rfl;rw[hlen]at hh ⊢;exact Dx h 600 x.l q v u (by omega) R h0 P.ok hb hn
 |y::up,h,x,q,v,u,hh,R,P=>by
  rw[sg]
  by_cases hl:x.l=[]
  .rw[if_pos hl];obtain⟨e1,e2⟩:=R.drop x.ao P.here;rw[if_neg (by rw[e1];simp)];obtain⟨P2,hS⟩:=UM (v1:=II v x.ao) P hl (λj hj=>IJ v hj) (by rw[FV];decide)
   rcases zz up (h+1) {y with l:=y.l.eraseIdx y.at_} _ _ u (by simp at hh;omega) e2 P2 with i|⟨i1,v',H',gone,i2,S⟩
   .exact .inl i
   .exact .inr ⟨i1,v',H',_,i2,hS S⟩
  .rw[if_neg hl];have hb:an (blank (decide (h=0)) x.l)<=223:=aq (dX _ _) P.sz;have sj:=sq P.ok hb;have hlay':(bT x.leaf x.l).2=0:=by rw[P.leaf];exact sj
   rcases R.write P.here hlay' with⟨w1,w2⟩|⟨w1,w2,w3⟩
   .obtain⟨p1,p2,p3⟩:=Dq (v':=ky v x.ao (bT x.leaf x.l).1) P.hole (P.ok hl) (λ_=>hl) P.Y3 P.LH hb (by rw[hJ hlay',if_pos rfl,P.leaf]) (λj hj=>by unfold ky;rw[if_neg hj]);refine .inr ⟨w1,_,h+(y::up).length,[],w2,p1,p3,?_,by simp,λj hj=>?_,λwt=>?_,ai _⟩
    .rw[p2,gi];simp
    .unfold ky;rw[if_neg (λe=>hj (by rw[gi,e];simp))]
    .rw[p2];unfold dv;simp only[j5,eQ];have:wt h*(an (blank (decide (h=0)) x.l)-151)<=wt h*(an x.l-151):=kR _ (by have:=dX (decide (h=0)) x.l;omega);omega
   .exact .inl ⟨w1,w3,v,w2⟩
end
structure DelP(v v':Vw)(H:Nat)(M:List MT)(key:rd)(H':Nat)(M':List MT)(A B:List (rd×rd))(y:rd):Prop where
 t:Tree v' H' M'
 d:Qm (jy M) key A [(key,y)] B
 m:jy M'=A++B
 FZ:∀wt,eU wt (aL v' H' 0)<=eU wt (aL v H 0)
 h:H'<=H
section
variable{o:Vw}{mm:Nat}
theorem LY{q:QS}{v:Vw}{u H:Nat}{M:List MT}(R:Rd q v o u mm)(T:Tree v H M)(hH:H<=15)(key:rd):
  ((q.jV key).2=11/\mm<=u/\∃v',Rd (q.jV key).1 v' o u mm)\/
  ((q.jV key).2=9/\Rd (q.jV key).1 v o u mm/\∃A B,Qm (jy M) key A [] B)\/
  ((q.jV key).2=0/\∃v' H' M' A B y,Rd (q.jV key).1 v' o u mm/\DelP v v' H M key H' M' A B y):=by
 obtain⟨r1,r2⟩:=IQ R T.ok hH key;unfold QS.jV
 rcases r2 with⟨r2,r3⟩|⟨r2,up,x,r3,r4,W⟩
 .rw[if_pos (by rw[r2];simp)];exact .inl ⟨r2,r3,v,r1⟩
 rw[if_neg (by rw[r2];simp),r3,Dv,show(up.reverse++[x]).dropLast.reverse=up by simp];obtain⟨p1,p2,p3,p4,p5⟩:=Dp W;rw[r4]at p1 p2 p5;obtain⟨M1,MC,M2,a,b,d⟩:=Du T W r4;have hdp:=d.Y8
 rcases d.c with⟨h1,h2⟩|⟨m,h1,hkk,h2⟩
 .rw[if_pos h2];rw[h1]at hdp;exact .inr (.inl ⟨rfl,r1,_,_,hdp⟩)
 rw[if_neg (by rw[h2];simp)];rw[h1]at hdp;have hdl:x.l=a++m.1::b:=by rw[d.l,h1];rfl
 have hdm:M=M1++m::M2:=by rw[d.m,h1];rfl
 have sk:bG (aL v H 0)=bG (fV v up 0)++x.ao::bG (dJ v up 0):=by rw[p2,dq,dr]
 have UL:=fj.1 T.LH;have haw:r8 x.l key=a++b:=by
  unfold r8;rw[if_pos h2,d.n,hdl];exact yv a m.1 b
 have Eh:=T.va m (by rw[hdm];simp);have Ew:(((q.eP key).1.lC x.l key).2=0/\Rd ((q.eP key).1.lC x.l key).1 (n9 v m.2.2) o u mm)\/(((q.eP key).1.lC x.l key).2=11/\Rd ((q.eP key).1.lC x.l key).1 v o u mm/\mm<=u):=by
  unfold QS.lC;rw[if_pos h2];have hx:x.l.getD (bg x.l key) Nd.E.zero=m.1:=by rw[d.n,hdl];simp[iq]
  rw[hx];exact Gb r1 Eh
 rw[haw]
 rcases Ew.symm with⟨o1,o2,o3⟩|⟨o1,o2⟩
 .rw[if_pos (by rw[o1];simp)];exact .inl ⟨o1,o3,v,o2⟩
 rw[if_neg (by rw[o1];simp)];have hMn:=UL.2.1;rw[hdm,gD,oe]at hMn;have IW:=fj.1 hMn;have Zf:=fj.1 IW.2.1;have hmin:∀j∈m.2.2,j∈rf M:=λj hj=>by rw[hdm,gD,oe];simp[hj]
 have qV:∀j,j∉m.2.2->n9 v m.2.2 j=v j:=λj hj=>if_neg hj;have hnd1:∀j∈bG (aL v H 0),n9 v m.2.2 j=v j:=λj hj=>qV j (λhm=>UL.2.2 j hj (hmin j hm));obtain⟨c1,c2,c3⟩:=iP (v':=n9 v m.2.2) up 0 x.ao W.hole (λj hj=>hnd1 j (by rw[sk];simp[hj])) (λj hj=>hnd1 j (by rw[sk];simp[hj]));have nh:∀e∈a++b,e∈x.l:=λe he=>by rw[hdl];rcases ay.1 he with h|h<;>simp[h]
 have uj:=nH (qI (v:=v) (p:=x.ao) (by rw[W.nd]));rw[W.nd]at uj;have uj:∀e∈x.l,dO e true:=uj;have hbx:an x.l<=223:=by have:=W.ok.2;rw[W.nd]at this;exact this
 have hpw:=qJ W.nd;rw[hdl,eB,eC]at hpw;have P:RF (n9 v m.2.2) 0 ⟨x.ao,x.leaf,a++b,x.at_⟩ up:=by
  refine⟨c1,W.leaf,?_,λ_=>⟨λe he=>uj e (nh e he),?_⟩,λe he=>?_,?_,?_⟩
  .show(n9 v m.2.2 x.ao).2=0;have sW:x.ao∈bG (aL v H 0):=by rw[sk];simp
   rw[hnd1 _ sW];exact T.zy _ sW
  .show(a++b).Pairwise λc e=>fw c.key e.key;rw[eB];exact⟨hpw.1,hpw.2.1.2,λe he e' nj=>hpw.2.2 e he e' (bK _ nj)⟩
  .exact W.Y3 e (nh e he)
  .show(bG (fV (n9 v m.2.2) up 0)++x.ao::([]++bG (dJ (n9 v m.2.2) up 0))).Nodup;rw[c2,c3,cQ,<-sk];exact UL.1
  .show an (a++b)<=223;rw[hdl,fi,eY]at hbx;rw[fi];omega
 have Q6:dv (n9 v m.2.2) 0 ⟨x.ao,x.leaf,a++b,x.at_⟩ up=fV v up 0++(0,x.ao,a++b)::dJ v up 0:=by
  unfold dv;rw[c2,c3];rfl
 have Ze:bG (dv (n9 v m.2.2) 0 ⟨x.ao,x.leaf,a++b,x.at_⟩ up)=bG (aL v H 0):=by rw[Q6,sk,dq,dr]
 rcases zz up 0 ⟨x.ao,x.leaf,a++b,x.at_⟩ _ _ u (by omega) o2 P with i|⟨i1,v2,H',gone,i2,S⟩
 .exact .inl i
 refine .inr (.inr ⟨i1,v2,H',M1++M2,jy M1,jy M2,m.2.1,i2,?_⟩);have LS:∀j,j∈rf M1\/j∈rf M2->j∈rf M/\j∉m.2.2:=λj hj=>by
  refine⟨by rw[hdm,gD,oe];rcases hj with h|h<;>simp[h],λhc=>?_⟩
  rcases hj with h|h
  .exact IW.2.2 j h (cg _ hc)
  .exact Zf.2.2 j hc h
 have hM3:∀j,j∈rf M1\/j∈rf M2->v2 j=v j/\j∉bG (aL v H 0):=λj hj=>by
  obtain⟨h3,h4⟩:=LS j hj;have h5:j∉bG (aL v H 0):=λh=>UL.2.2 j h h3;exact⟨by rw[S.o j (by rw[Ze];exact h5),qV j h4],h5⟩
 have hSn:(bG (aL v2 H' 0)++gone).Nodup:=S.pg.nodup_iff.2 (by rw[Ze];exact UL.1);have hSin:∀j,j∈bG (aL v2 H' 0)->j∈bG (aL v H 0):=λj hj=>by rw[<-Ze];exact S.pg.mem_iff.1 (cg _ hj)
 refine⟨⟨S.ok,?_,λz hz=>?_,?_,λj hj=>?_⟩,?_,by rw[RE],λwt=>?_,by have:=S.h;omega⟩
 .rw[S.en,Q6,cX,d.m1,d.m2];simp
 .rcases ay.1 hz with hz|hz
  .exact(T.va z (by rw[hdm];simp[hz])).congr (λj hj=>(hM3 j (.inl (wR.2 ⟨z,hz,hj⟩))).1)
  .exact(T.va z (by rw[hdm];simp[hz])).congr (λj hj=>(hM3 j (.inr (wR.2 ⟨z,hz,hj⟩))).1)
 .rw[gD,fj];refine⟨(fj.1 hSn).1,fj.2 ⟨IW.1,Zf.2.1,λj hj hm=>IW.2.2 j hj (bP _ hm)⟩,λj hj hm=>?_⟩;exact(hM3 j (ay.1 hm)).2 (hSin j hj)
 .rw[gD]
  by_cases h3:j∈bG (aL v H 0)
  .rw[<-Ze]at h3
   rcases ay.1 (S.pg.mem_iff.2 h3)with h4|h4
   .exact cg _ h4
   .exact absurd hj (S.del j h4)
  .rw[S.o j (by rw[Ze];exact h3)]at hj
   by_cases h4:j∈m.2.2
   .unfold n9 at hj;rw[if_pos h4]at hj;exact absurd hj (by simp)
   .rw[qV j h4]at hj;have:=T.all j hj;rw[hdm,gD,oe]at this;simp only[ay]at this ⊢
    rcases this with h|h|h|h
    .exact absurd h h3
    .exact .inr (.inl h)
    .exact absurd h h4
    .exact .inr (.inr h)
 .have e:((key,m.2.1):rd×rd)=(m.1.key,m.2.1):=by rw[hkk]
  rw[e];exact hdp
 .have h5:=S.FZ wt;rw[Q6,j5,eQ]at h5;rw[p2,j5,eQ];dsimp only at h5 ⊢;have:wt 0*(an (a++b)-151)<=wt 0*(an x.l-151):=kR _ (by rw[hdl,fi,fi,eY];omega);omega
end
variable{fr til:rd}{l:List E}{u:Nat}{q:QS}
theorem RG(a b:rd):Op.bytesLess a.toList b.toList=decide (fw a b):=by
 rw[bQ,bQ,Nd.Rq];rfl
theorem RH(t:rd):(t.toList==[])=decide (t.size=0):=by
 rw[bQ];have h:t.data.toList.length=t.size:=by simp
 cases hl:t.data.toList with
 |nil=>rw[hl]at h;rw[decide_eq_true (by rw[<-h];rfl)];rfl
 |cons a l=>rw[hl]at h;rw[decide_eq_false (by rw[<-h];simp)];rfl
def zA(fr til key:rd):Bool:=decide (ox fr key) && (decide (til.size=0) || decide (fw key til))
def fR{α σ:Type}(step:α->σ->σ×Bool):List α->σ->σ×Bool
 |[],s=>(s,true)
 |x::l,s=>if(step x s).2=true then fR step l (step x s).1 else((step x s).1,false)
theorem yx{α σ:Type}(step:α->σ->σ×Bool):∀(a b:List α) (s:σ),fR step (a++b) s=if(fR step a s).2=true then fR step b (fR step a s).1 else fR step a s
 |[],b,s=>rfl
 |x::a,b,s=>by
  show(if(step x s).2=true then fR step (a++b) (step x s).1 else((step x s).1,false))=if(if(step x s).2=true then fR step a (step x s).1 else((step x s).1,false)).2=true then _ else _
  by_cases h:(step x s).2=true
  .rw[if_pos h,yx step a b];simp only[fR,if_pos h]
  .rw[if_neg h,if_neg h,i8];exact(if_neg h).symm
def vu(fr til:rd)(l:List E):List E:=l.filter λe=>zA fr til e.key
theorem Az(fr til:rd)(a b:List E):vu fr til (a++b)=vu fr til a++vu fr til b:=ri ..
theorem RI(h:∀e∈l,fw e.key fr):vu fr til l=[]:=by
 unfold vu;rw[Ng];intro e he hx;unfold zA at hx;rw[iG,decide_eq_true_eq]at hx;exact tL (h e he) hx.1
theorem Dy(ht:til.size≠0)(h:∀e∈l,ox til e.key):vu fr til l=[]:=by
 unfold vu;rw[Ng];intro e he hx;unfold zA at hx;rw[iG,pZ,decide_eq_true_eq,decide_eq_true_eq]at hx
 rcases hx.2 with h1|h1
 .exact ht h1
 .exact tL (of_decide_eq_true h1) (h e he)
structure WkOk{σ:Type}(step:E->σ->σ×Bool)(fr til:rd)(en:List E)(s:σ)(R:Wk σ):Prop where
 e:R.e=0
 f:R.s=(fR step (vu fr til en) s).1
 y:R.more=true->(fR step (vu fr til en) s).2=true
 n:R.more=false->(fR step (vu fr til en) s).2=false\/(til.size≠0/\∃y∈en,ox til y.key)
section
variable{σ:Type}{o:Vw}{mm:Nat}{v:Vw}(step:E->σ->σ×Bool)(fr til:rd)
theorem UN(i:Nat)(x:E):mX fr true 0 i x=decide (fw x.key fr):=by
 unfold mX;rw[RG,decide_eq_false (mc i)];simp
theorem RJ(leaf:Bool)(i:Nat)(x:E):lI til leaf i x=(decide (til.size≠0) && decide (ox til x.key) && (leaf || decide (0<i))):=by
 unfold lI;rw[RH,RG]
 congr 2
 .simp
 .have h1:(decide (fw x.key til))= !decide (ox til x.key):=by
   by_cases h:fw x.key til
   .rw[decide_eq_true h,decide_eq_false (λk=>tL h k)];rfl
   .rw[decide_eq_false h,decide_eq_true (kz h)];rfl
  rw[h1,Bool.not_not]
theorem yy(rec:QS->Nat->σ->Int->Wk σ):∀(l:List E) (i:Nat) (q:QS) (seen:Nat) (s:σ),(l.Pairwise λc e=>fw c.key e.key)->
  (gr rec step fr til true 0 i l q seen s).q=q/\(gr rec step fr til true 0 i l q seen s).seen=seen/\WkOk step fr til l s (gr rec step fr til true 0 i l q seen s)
 |[],i,q,seen,s,_=>⟨rfl,rfl,rfl,rfl,λ_=>rfl,λh=>absurd h (by simp[gr])⟩
 |x::l,i,q,seen,s,hp=>by
  rw[eC]at hp;unfold gr;rw[UN,RJ]
  by_cases h1:fw x.key fr
  .rw[decide_eq_true h1,if_pos rfl];obtain⟨a,b,c⟩:=yy rec l (i+1) q seen s hp.2;have hf:vu fr til (x::l)=vu fr til l:=by
    rw[show x::l=[x]++l from rfl,Az,RI (l:=[x]) (by simp;exact h1)];rfl
   exact⟨a,b,c.e,by rw[hf];exact c.f,by rw[hf];exact c.y,λh=>by rw[hf];exact(c.n h).imp id (λ⟨h2,y,hy,h3⟩=>⟨h2,y,by simp[hy],h3⟩)⟩
  .rw[decide_eq_false h1,i8]
   by_cases h2:til.size≠0/\ox til x.key
   .rw[decide_eq_true h2.1,decide_eq_true h2.2,i9];have hf:vu fr til (x::l)=[]:=Dy h2.1 (λe he=>by
     rcases ar.1 he with rfl|he
     .exact h2.2
     .exact uY (jH h2.2 (hp.1 e he)))
    exact⟨rfl,rfl,rfl,by rw[hf];rfl,λh=>absurd h (by simp),λ_=> .inr ⟨h2.1,x,by simp,h2.2⟩⟩
   .rw[if_neg (by
     rw[iG,iG,decide_eq_true_eq,decide_eq_true_eq];exact λh=>h2 h.1),if_pos rfl]
    have sW:zA fr til x.key=true:=by
     unfold zA;rw[iG,pZ,decide_eq_true_eq,decide_eq_true_eq,decide_eq_true_eq];refine⟨kz h1,?_⟩
     by_cases h3:til.size=0
     .exact .inl h3
     .right
      by_cases h4:fw x.key til
      .exact h4
      .exact absurd ⟨h3,kz h4⟩ h2
    have hf:vu fr til (x::l)=x::vu fr til l:=by unfold vu;rw[gG,if_pos sW]
    by_cases h3:(step x s).2=true
    .rw[if_pos h3];obtain⟨a,b,c⟩:=yy rec l (i+1) q seen (step x s).1 hp.2;have hs:fR step (x::vu fr til l) s=fR step (vu fr til l) (step x s).1:=if_pos h3;exact⟨a,b,c.e,by rw[hf,hs];exact c.f,by rw[hf,hs];exact c.y,λh=>by rw[hf,hs];exact(c.n h).imp id (λ⟨h2,y,hy,h3⟩=>⟨h2,y,by simp[hy],h3⟩)⟩
    .rw[if_neg h3];have hs:fR step (x::vu fr til l) s=((step x s).1,false):=if_neg h3;exact⟨rfl,rfl,rfl,by rw[hf,hs],λh=>absurd h (by simp),λ_=> .inl (by rw[hf,hs])⟩
def Zg(v:Vw)(o:Vw)(mm u h m:Nat):Prop:=
 ∀(q:QS) (p:Int) (seen:Nat) (s:σ),Rd q v o u mm->nG v h p->seen+(aL v h p).length<=512->
  Rd (fJ step fr til m q seen s p).q v o u mm/\(fJ step fr til m q seen s p).seen<=seen+(aL v h p).length/\(((fJ step fr til m q seen s p).e=11/\mm<=u)\/WkOk step fr til (ie v h p) s (fJ step fr til m q seen s p))
theorem RK{h m:Nat}(IH:Zg step fr til v o mm u h m)(first:Nat):∀(l:List E) (i:Nat) (q:QS) (seen:Nat) (s:σ),first<=i->Rd q v o u mm->(∀e∈l,nG v h e.aY/\ie v h e.aY≠[])->(l.Pairwise λc e=> ∀x∈ie v h c.aY,fw x.key e.key)->(∀e∈l,∀x∈ie v h e.aY,(0<i\/e∈l.tail)->ox e.key x.key)->seen+(bz v h l).length<=512->
  Rd (gr (fJ step fr til m) step fr til false first i l q seen s).q v o u mm/\(gr (fJ step fr til m) step fr til false first i l q seen s).seen<=seen+(bz v h l).length/\
   (((gr (fJ step fr til m) step fr til false first i l q seen s).e=11/\mm<=u)\/WkOk step fr til (ct (bz v h l)) s (gr (fJ step fr til m) step fr til false first i l q seen s))
 |[],i,q,seen,s,_,R,_,_,_,_=>⟨R,G5 _ _,.inr ⟨rfl,rfl,λ_=>rfl,λh=>absurd h (by simp[gr])⟩⟩
 |x::l,i,q,seen,s,hi,R,hc,hp,hh,hs=>by
  rw[eC]at hp;have Zh:mX fr false first i x=false:=by unfold mX;rw[decide_eq_false (by omega)];rfl
  have hlen:(bz v h (x::l)).length=(aL v h x.aY).length+(bz v h l).length:=by rw[gu,aT]
  have wJ:ct (bz v h (x::l))=ie v h x.aY++ct (bz v h l):=by rw[gu,eE];rfl
  have hx:=hc x (by simp);obtain⟨y0,hy0⟩:=xo _ hx.2;have Zi:∀z∈ct (bz v h l),∀y∈ie v h x.aY,fw y.key z.key:=λz hz y hy=>by
   obtain⟨e,he,hz⟩:=dY.1 hz;exact hX (hp.1 e he y hy) (hh e (by simp[he]) z hz (.inr he))
  unfold gr;rw[Zh,i8,RJ]
  by_cases h2:til.size≠0/\ox til x.key/\0<i
  .rw[decide_eq_true h2.1,decide_eq_true h2.2.1,decide_eq_true h2.2.2,i9];have jU:∀z∈ct (bz v h (x::l)),ox til z.key:=λz hz=>by
    rw[wJ]at hz
    rcases ay.1 hz with hz|hz
    .exact pN h2.2.1 (hh x (by simp) z hz (.inl h2.2.2))
    .exact pN h2.2.1 (pN (hh x (by simp) y0 hy0 (.inl h2.2.2)) (uY (Zi z hz y0 hy0)))
   have hf:vu fr til (ct (bz v h (x::l)))=[]:=Dy h2.1 jU;exact⟨R,G5 _ _,.inr ⟨rfl,by rw[hf];rfl,λh=>absurd h (by simp),λ_=> .inr ⟨h2.1,y0,by rw[wJ];simp[hy0],jU y0 (by rw[wJ];simp[hy0])⟩⟩⟩
  .rw[if_neg (by
    rw[iG,iG,pZ,decide_eq_true_eq,decide_eq_true_eq,decide_eq_true_eq];exact λh=>h2 ⟨h.1.1,h.1.2,h.2.resolve_left (by simp)⟩),i8]
   obtain⟨r1,r2,r3⟩:=IH q x.aY seen s R hx.1 (by omega)
   rcases r3 with⟨r3,r4⟩|r3
   .rw[if_neg (by rw[r3];simp)];exact⟨r1,by omega,.inl ⟨r3,r4⟩⟩
   .by_cases hm:(fJ step fr til m q seen s x.aY).more=true
    .rw[if_pos ⟨hm,r3.e⟩];obtain⟨i1,i2,i3⟩:=RK IH first l (i+1) (fJ step fr til m q seen s x.aY).q (fJ step fr til m q seen s x.aY).seen (fJ step fr til m q seen s x.aY).s (by omega) r1 (λe he=>hc e (by simp[he])) hp.2 (λe he z hz _=>hh e (by simp[he]) z hz (.inr he)) (by omega)
     have hfo:fR step (vu fr til (ct (bz v h (x::l)))) s=fR step (vu fr til (ct (bz v h l))) (fJ step fr til m q seen s x.aY).s:=by
      rw[wJ,Az,yx,if_pos (r3.y hm),r3.f]
     refine⟨i1,by omega,i3.imp id (λc=>⟨c.e,by rw[hfo];exact c.f,by rw[hfo];exact c.y,λhmm=>by rw[hfo];exact(c.n hmm).imp id (λ⟨h3,y,hy,h4⟩=>⟨h3,y,by rw[wJ];simp[hy],h4⟩)⟩)⟩
    .have hm':(fJ step fr til m q seen s x.aY).more=false:=by simpa using hm
     rw[if_neg (λh=>hm h.1)];have hfo:fR step (vu fr til (ct (bz v h (x::l)))) s=fR step (vu fr til (ie v h x.aY)) s:=by
      rw[wJ,Az,yx]
      by_cases Ak:(fR step (vu fr til (ie v h x.aY)) s).2=true
      .rw[if_pos Ak]
       rcases r3.n hm' with h3|⟨h3,y,hy,h4⟩
       .rw[h3]at Ak;cases Ak
       .rw[Dy h3 (λz hz=>pN h4 (uY (Zi z hz y hy)))];exact jC rfl Ak.symm
      .rw[if_neg Ak]
     refine⟨r1,by omega,.inr ⟨r3.e,by rw[hfo];exact r3.f,λh=>absurd h hm,λh=>by rw[hfo];exact(r3.n h).imp id (λ⟨h3,y,hy,h4⟩=>⟨h3,y,by rw[wJ];simp[hy],h4⟩)⟩⟩
theorem Gc(rec:QS->Nat->σ->Int->Wk σ)(first:Nat)(b:List E):∀(a:List E) (i:Nat) (q:QS) (seen:Nat) (s:σ),i+a.length<=first->gr rec step fr til false first i (a++b) q seen s=gr rec step fr til false first (i+a.length) b q seen s
 |[],i,q,seen,s,_=>rfl
 |x::a,i,q,seen,s,h=>by
  rw[nL,gr];have Zh:mX fr false first i x=true:=by unfold mX;rw[decide_eq_true (by simp at h;omega)];rfl
  rw[if_pos Zh,Gc rec first b a (i+1) q seen s (by simp at h;omega),fT,show i+1+a.length=i+(a.length+1) by omega]
theorem RM :∀(h m:Nat),h<m->Zg step fr til v o mm u h m
 |h,0,hm=>absurd hm (by omega)
 |h,m+1,hm=>by
  intro q p seen s R hO hs;have hl1:1<=(aL v h p).length:=by rw[oM];simp
  unfold fJ;rw[gc];obtain⟨r1,r2⟩:=R.read p
  rcases r2 with r2|⟨r2,r3⟩
  .cases h with
   |zero=>
    have hp:=qJ hO.1;have wJ:ie v 0 p=(iX v p).2.1:=IL v 0 p;rw[r2,hO.1,i8];dsimp only;rw[if_pos rfl];obtain⟨a,b,c⟩:=yy step fr til (fJ step fr til m) (iX v p).2.1 0 (q.bF p).1 (seen+1) s hp;rw[a,b,wJ];exact⟨r1,by omega,.inr c⟩
   |succ h=>
    obtain⟨o1,o2,o4,o3⟩:=hO;obtain⟨l,hl⟩:∃l,(iX v p).2.1=l:=⟨_,rfl⟩;have wJ:ie v (h+1) p=ct (bz v h l):=by rw[IL,hl];rfl
    have hlen:(aL v (h+1) p).length=1+(bz v h l).length:=by rw[oM,hl];simp[cM];omega
    rw[hl]at o1 o2 o3 o4;have hp:=qJ o1;obtain⟨a,c,b,e1,e2,e3,e4⟩:=Lz hp o3.ne fr;rw[r2,o1,i8];dsimp only;rw[i8,e2,wJ];have MQ:=o3.lo;have Ug:=o3.hi;have hcc:=o3.c;rw[e1,eB]at MQ;rw[e1]at Ug hcc;have Zh:=Gc step fr til (fJ step fr til m) a.length (c::b) a 0 (q.bF p).1 (seen+1) s (by omega);rw[bq]at Zh;rw[e1,Zh]
    have lO:(bz v h l).length=(bz v h a).length+(bz v h (c::b)).length:=by rw[e1,iC,aT]
    have hhi2:∀e∈c::b,∀x∈ie v h e.aY,(0<a.length\/e∈(c::b).tail)->ox e.key x.key:=λe he x hx hor=>by
     cases a with
     |nil=>
      rcases hor with h0|h0
      .exact absurd h0 (by simp)
      .exact Ug e h0 x hx
     |cons z a'=>exact Ug e (bP _ he) x hx
    obtain⟨i1,i2,i3⟩:=RK step fr til (RM h m (by omega)) a.length (c::b) a.length (q.bF p).1 (seen+1) s (ai _) r1 (λe he=>hcc e (bP _ he)) MQ.2.1 hhi2 (by omega);have hfa:vu fr til (ct (bz v h (a++c::b)))=vu fr til (ct (bz v h (c::b))):=by
     rw[iC,eE,Az,RI (l:=ct (bz v h a)) (λx hx=>?_),cQ];obtain⟨e,he,hx⟩:=dY.1 hx;exact hX (MQ.2.2 e he c (by simp) x hx) (e3 (λh0=>by rw[h0]at he;simp at he))
    refine⟨i1,by omega,i3.imp id (λw=>⟨w.e,by rw[hfa];exact w.f,by rw[hfa];exact w.y,λhmm=>by rw[hfa];exact(w.n hmm).imp id (λ⟨h3,y,hy,h4⟩=>⟨h3,y,by rw[iC,eE];exact bP _ hy,h4⟩)⟩)⟩
  .rw[r2,i9];exact⟨r1,by show seen+1<=_;omega,.inl ⟨rfl,r3⟩⟩
theorem yz{H:Nat}(R:Rd q v o u mm)(hO:nG v H 0)(hH:H<=15)(hn:(aL v H 0).length<=512)(s:σ):
  Rd (q.dW step fr til s).q v o u mm/\(((q.dW step fr til s).e=11/\mm<=u)\/((q.dW step fr til s).e=0/\(q.dW step fr til s).s=(fR step (vu fr til (ie v H 0)) s).1)):=by
 obtain⟨a,b,c⟩:=RM step fr til (v:=v) (o:=o) (mm:=mm) (u:=u) H 16 (by omega) q 0 0 s R hO (by omega);exact⟨a,c.imp id (λw=>⟨w.e,w.f⟩)⟩
end
theorem Dz:∀(n:Nat) (l:List Nat),l.Nodup->(∀x∈l,x<n)->l.length<=n
 |0,l,_,h=>by
  cases l with
  |nil=>exact ai _
  |cons a l=>exact absurd (h a (by simp)) (by omega)
 |n+1,l,hn,h=>by
  by_cases hm:n∈l
  .have h1:=Dz n (l.erase n) (hn.erase n) (λx hx=>by
    have h2:=(List.Nodup.mem_erase_iff hn).1 hx;have h3:=h x h2.2;have h4:=h2.1;omega)
   have h5:=QQ hm;omega
  .exact zZ (Dz n l hn (λx hx=>by
    have h3:=h x hx;have h4:x≠n:=λe=>hm (by rw[<-e];exact hx);omega))
theorem Zj{v:Vw}{o:Vw}{mm:Nat}(R:Rd q v o u mm){l:List Int}(hn:l.Nodup)(hl:∀j∈l,(v j).2=0):l.length<=512:=by
 have h1:(l.map Int.toNat).Nodup:=by
  rw[GV,vB];refine List.Pairwise.imp_of_mem ?_ hn;intro a b ha hb fF e;have h2:=R.lt (hl a ha);have h3:=R.lt (hl b hb);exact fF (by omega)
 have h2:∀x∈l.map Int.toNat,x∈List.range 512:=λx hx=>by
  obtain⟨j,hj,rfl⟩:=cr.1 hx;have h3:=R.lt (hl j hj);exact l7.2 (by omega)
 have:=Dz 512 _ h1 (λx hx=>l7.1 (h2 x hx))
 rwa [bM]at this
open Nd (E aJ bH aS aZ et bI bg cG bR)
variable{fn tb n Kz:Nat}{fu:Array Value}{I:Ix}{F:List Nat}
def Qn{σ:Type}(fn:Nat)(fu:Array Value)(step:E->σ->σ×Bool)(mes:σ->Nat)(Inv:World->σ->List Nat->Prop)(v:Ev)(tb:Nat)(I:Ix)(F:List Nat)(n Kz:Nat)(fr til:rd)(d:Nat):Prop:=
 ∀(w:World) (q:QS) (seen:Nat) (s:σ) (G:List Nat) (p:Int),seen<=512->TQ w tb I F q n (Kz+seen)->ud w v tb fr til fn fu seen->Inv w s G->(∀g∈tb::(v.l++F),g∉G)->(∀g∈v.l,g∉F/\g≠tb)->mes s<=57*seen->
  Calls prog 109 (#[U5 By p,U5 By (d:Nat)]++v.fu) w λe w'=>e=BY (.tuple #[U6 (fJ step fr til d q seen s p).more,U5 By (fJ step fr til d q seen s p).e])/\WP w w' v tb I F G n Kz fr til fn fu mes Inv (fJ step fr til d q seen s p)
theorem L8{σ:Type}{step:E->σ->σ×Bool}{mes:σ->Nat}{Inv:World->σ->List Nat->Prop}(V:Vis fn fu step mes Inv){v:Ev}(fr til:rd)(YF:Kz<=999999990000)(d:Nat)(hd:d<=16)(IH:∀d',d=d'+1->Qn fn fu step mes Inv v tb I F n Kz fr til d'):Qn fn fu step mes Inv v tb I F n Kz fr til d:=by
  intro w q seen s G p hseen h hv hI hD hvF hmes;have IH:=xh IH;have KR:=xh (λ(W:World) (hW:TQ W tb I F q n (Kz+seen))=>pH hW (by omega) p);have hsB:v.sB∉F/\v.sB≠tb:=hvF _ (by simp[Ev.l]);have Ap:IntKind.i64.wrap ((seen:Int)+1)=(seen:Int)+1:=IntWalk.i64_in _ (by omega);have x0:=hv.s.ab (i:=0) rfl;have xz:=hv.s.frozen 0 (by simp);obtain⟨w1,lD⟩:∃w1,w.setCell ⟨v.sB,0,none⟩ (U5 By ((seen:Int)+1))=w1:=⟨_,rfl⟩
  have o1:ag [v.sB] w w1:=by rw[<-lD];exact(ag.refl _ _).setCell (by simp) _
  have H1:=xh (show TQ w1 tb I F q n (Kz+seen)/\ud w1 v tb fr til fn fu (seen+1)/\Inv w1 s G/\ag (v.sB::(F++G)) w w1 from
   ⟨h.only o1 (λg hg hm=>by
    rw[az.1 hm]at hg
    rcases ar.1 hg with e|e
    .exact hsB.2 e
    .exact hsB.1 e),by rw[<-lD];exact hv.up,V.pf _ _ _ _ _ hI o1 (λg hg hm=>hD v.sB (by simp[Ev.l]) (by rw[<-az.1 hm];exact hg)),o1.mono (λg hg _=>by rw[az.1 hg];exact gS ..)⟩)
  have x1:=H1.o.2.1.s.ab (i:=0) rfl;have x2:=H1.o.2.1.t.ab (i:=0) rfl;have x3:=H1.o.2.1.f.ab (i:=0) rfl;obtain⟨R,hR⟩:∃R,fJ step fr til d q seen s p=R:=⟨_,rfl⟩;rw[hR];have HR:=xh hR;have HD:=xh hD;have HVF:=xh hvF;have HV:=xh V;clear h hv hI hD hvF hsB hR o1 V;unfold tp bH at *;unfold Ev.fu
  rw[show(#[Value.int By p,U5 By (d:Nat)]++ #[Value.pointer (some ⟨v.sB,0,none⟩),U7 (some ⟨v.tB,0,none⟩),U7 (some ⟨v.fB,0,none⟩),U7 (some ⟨v.oB,0,none⟩),U7 (some ⟨v.dB,0,none⟩),U7 (some ⟨v.kB,0,none⟩)]:Array Value)= #[Value.int By p,U5 By (d:Nat),Value.pointer (some ⟨v.sB,0,none⟩),U7 (some ⟨v.tB,0,none⟩),U7 (some ⟨v.fB,0,none⟩),U7 (some ⟨v.oB,0,none⟩),U7 (some ⟨v.dB,0,none⟩),U7 (some ⟨v.kB,0,none⟩)]from rfl]
  by_cases hd0:d=0
  .subst hd0;have bS:=HR.o;unfold fJ at bS;subst bS;go_enter func109,ntmps109;go_wp2_with fail;go_ret2;exact aI ⟨G,H1.o.1.le (by show Kz+seen<=Kz+(seen+1);omega),H1.o.2.1,H1.o.2.2.1,H1.o.2.2.2,λ_ h=> .inl h,by have:=hmes;show mes s<=57*(seen+1);omega,by show seen+1<=513;omega,λh=>absurd h (by show ¬((14:Int)=0);decide)⟩
  .obtain⟨d',rfl⟩:∃d',d=d'+1:=⟨d-1,by omega⟩;have bS:=HR.o;unfold fJ at bS;have hdI:¬((d':Int)+1=0):=by omega
   by_cases hs5:512<seen+1
   .rw[if_pos hs5]at bS;subst bS;have Wo:(512:Int)<(seen:Int)+1:=by omega
    go_enter func109,ntmps109;go_wp2_with fail;go_ret2;exact aI ⟨G,H1.o.1.le (by show Kz+seen<=Kz+(seen+1);omega),H1.o.2.1,H1.o.2.2.1,H1.o.2.2.2,λ_ h=> .inl h,by have:=hmes;show mes s<=57*(seen+1);omega,by show seen+1<=513;omega,λh=>absurd h (by show ¬((14:Int)=0);decide)⟩
   .rw[if_neg hs5]at bS;have Wo:¬((512:Int)<(seen:Int)+1):=by omega
    have gq:=tJ (q:=q) (p:=p);have hlen:=lT q p;have fQ:=xh bS;have K1:=xh (KR.o w1 H1.o.1);clear bS;generalize q.bF p=r at *;obtain⟨q1,leaf,l,er⟩:=r;dsimp only at *;go_enter func109,ntmps109;go_wp2_with fail;refine K1.o.mono ?_;rintro e w2 ⟨A,c,rfl,S2,f2,P2,o2⟩;have iF:=ae (Below.refl w2.heap.size w2) (WF #[U6 leaf,U3 A l.length c] 118);obtain⟨FQ,hb12⟩:∃FQ,w2.heap.size=FQ:=⟨_,rfl⟩;have HB12:=xh hb12
    have BN:=aF.new w2 118 #[U6 leaf,U3 A l.length c];rw[hb12]at BN;have H3:=xh (show LW w (w2.alloc (WF #[U6 leaf,U3 A l.length c] 118)) v tb I F G n Kz fr til fn fu mes Inv q1 (seen+1) (57*seen) s G leaf A c FQ l from
     ⟨(H1.o.1.next o2 P2).below iF,(H1.o.2.1.only o2 (λg hg=>(HVF.o g hg).1)).below iF,HV.o.pf _ _ _ _ [] (HV.o.pf _ _ _ _ F H1.o.2.2.1 o2 (λg hg hF=>HD.o g (by simp[hF]) hg)) (.aj iF) (by simp),(H1.o.2.2.2.aU o2 (λg hg _=>by simp[hg])).trans (.aj iF),λ_ h=> .inl h,hmes,S2.below iF,BN,
      λg hg hG=>by
       have ef:=HV.o.lt _ _ _ H1.o.2.2.1 g hG;have h12:=o2.size;simp only[ar,ay]at hg
       rcases hg with e|hg|hg|e|hg
       .exact HD.o g (by simp[e]) hG
       .exact HD.o g (by simp[hg]) hG
       .exact HD.o g (by simp[hg]) hG
       .omega
       .have:=f2 g hg;omega,λg hg=>by
       have h12:=o2.size;have VI:=H1.o.2.2.2.size;have MN:w1.heap.size<=g:=by
        rcases ar.1 hg with e|hg
        .omega
        .exact f2 g hg
       refine⟨λhF=>?_,λe=>?_,by omega⟩
       .have:=H1.o.1.lt g (by simp[hF]);omega
       .have:=H1.o.2.1.s.lt;omega,HVF.o⟩)
    clear S2 f2 P2 o2 iF BN x0 x1 x2 x3 xz
    by_cases he:er=0
    .subst he;have HM:=xh (gq rfl);have bS:=fQ.o;rw[if_neg (show ¬((0:Int)≠0) by simp)]at bS
     cases leaf
     .rw[if_neg (show ¬(false=true) by simp)]at bS;have fQ:=xh bS;have HL:=xh hlen;have KB:=xh (Nd.C9 false A l.length c l fr (Nd.aM.aJ H3.o.s).2 (by omega) HM.o);unfold bH at KB;have y0:=H3.o.b.ab (i:=0) rfl;have y1:=H3.o.b.ab (i:=1) rfl;have y3:=H3.o.e.f.ab (i:=0) rfl;have hfs:bI l fr<=l.length:=by
       rcases zY l.length with h0|h0
       .have:l=[]:=GQ.1 h0;subst this;exact Nat.le_of_eq (by unfold bI bg;split<;>rfl)
       .exact Nat.le_of_lt (yo (λe=>by rw[e]at h0;simp at h0) fr)
      generalize bI l fr=fs at *;clear bS;go_wp2_with fail;refine KB.o.mono ?_;rintro e w4 ⟨rfl,fo⟩;have H4:=xh (H3.o.below HV.o fo);clear y0 y1 y3 fo;have y0:=H4.o.b.ab (i:=0) rfl;have y1:=H4.o.b.ab (i:=1) rfl;have hs4:IntKind.i64.wrap (d':Int)=(d':Int):=IntWalk.i64_in _ (by omega);have hs6:IntKind.i64.wrap ((d':Int)+1-1)=(d':Int):=by rw[show(d':Int)+1-1=(d':Int) by omega];exact hs4
      go_wp2_with fail
      go_loopw [45] (λiv wr=> ∃(i:Nat) (qi:QS) (sn:Nat) (si:σ) (Gi:List Nat),i<=l.length/\iv=U5 By (i:Nat)/\sn<=512/\Hid (gr (fJ step fr til d') step fr til false fs i (l.drop i) qi sn si=R)/\Hid (LW w wr v tb I F G n Kz fr til fn fu mes Inv qi sn (57*sn) si Gi false A c FQ l)) (λiv _=>l.length-(intOf iv).toNat)
      case atStart=>exact⟨0,q1,seen+1,s,G,aW _,rfl,by omega,fQ,xh {H4.o with m:=by have:=H4.o.m;omega}⟩
      case round=>
       clear y0 y1;obtain⟨i,qi,sn,si,Gi,hi,rfl,Xv,HE,HW⟩:=hrel
       by_cases hil:i<l.length
       .skip
        have hilI:(i:Int)<(l.length:Int):=by omega
        obtain⟨x,hx⟩:∃x,l[i]?=some x:=⟨_,aH hil⟩;have hE:=HE.o;rw[rh hil,show l[i]=x from by have:=aH hil;rw[hx]at this;injection this with h;exact h.symm]at hE;unfold gr at hE;have hxk:x.key.size<=32:=(pK HM.o x (aA hx)).1;have SL:=HW.o.s;obtain⟨ad,yp,gJ⟩:=(Nd.aM.aJ SL).2.2 i x hx;obtain⟨ga,ca,zk,Eh,_⟩:=SL.form (by omega) (by omega);injection Eh with e1 ezz e3
        clear ezz;subst e1 e3;injection yp with yp
        subst yp;rw[Nd.iN,bq]at gJ;have iF:=ae (Below.refl wr.heap.size wr) (WF #[U2 x.key,U2 x.val,U5 By x.aY] 111);have HA:=xh iF;have BX:=aF.new wr 111 #[U2 x.key,U2 x.val,U5 By x.aY];have u0:=gJ.c0;have u1:=gJ.c1;have u2:=gJ.c2;dsimp only at u1 u2;have z0:=BX.ab (i:=0) rfl;have z1:=BX.ab (i:=1) rfl;have z2:=BX.ab (i:=2) rfl;have AA:=xh (HW.o.below HV.o iF)
        have n0:=AA.o.b.ab (i:=0) rfl;have m3:=AA.o.e.f.ab (i:=0) rfl;have m4:=AA.o.e.o.ab (i:=0) rfl;have m5:=AA.o.e.d.ab (i:=0) rfl;have m6:=AA.o.e.k.ab (i:=0) rfl;have Jj:¬((i:Int)<0):=by omega
        have HE:=xh hE;clear gJ SL BX hE hx iF;unfold Ev.fu at m6
        by_cases zO:i<fs
        .have hE:=HE.o;rw[if_pos (show mX fr false fs i x=true from by unfold mX;simp[zO])]at hE;have HE:=xh hE;have hbI:(i:Int)<(fs:Int):=by omega
         clear hE zO;go_wp2_with fail;go_roundw
         case rel=>exact⟨i+1,qi,sn,si,Gi,by omega,rfl,Xv,HE,AA⟩
         case measure=>simp[intOf];omega
        .have hbI:¬((i:Int)<(fs:Int)):=by omega
         have hE:=HE.o;rw[if_neg (show ¬mX fr false fs i x=true from by unfold mX;simp[zO])]at hE;have HE:=xh hE;clear zO hE
         by_cases ht:(til.toList==[])=true
         have hE:=HE.o;rw[if_neg (show ¬lI til false i x=true from by unfold lI;rw[ht];simp),if_neg (show ¬(false=true) by simp)]at hE;have ht1:til.toList=[]:=by simpa using ht
         rotate_left;have ht2:(til.toList==[])=false:=by simpa using ht
         have ht1:¬til.toList=[]:=by simpa using ht
         clear ht
         by_cases Zk:Op.bytesLess x.key.toList til.toList=true
         have hE:=HE.o;rw[if_neg (show ¬lI til false i x=true from by unfold lI;rw[Zk];simp),if_neg (show ¬(false=true) by simp)]at hE;rotate_left;have dk:Op.bytesLess x.key.toList til.toList=false:=by simpa using Zk
         by_cases hip:0<i
         .have hE:=HE.o;rw[if_pos (show lI til false i x=true from by unfold lI;rw[dk,ht2];simp[hip])]at hE;subst hE;have hipI:(0:Int)<(i:Int):=by omega
          clear Zk;go_wp2_with fail;go_ret2;exact aI (AA.o.wp (ai _) (by omega) _ _ (λ_=>Xv))
         have hE:=HE.o;rw[if_neg (show ¬lI til false i x=true from by unfold lI;rw[dk,ht2];simp[hip]),if_neg (show ¬(false=true) by simp)]at hE;have hipI:¬((0:Int)<(i:Int)):=by omega
         clear Zk
         all_goals
          have HE:=xh hE;clear hE;have hmm:=AA.o.m;have KI:=IH.o d' rfl _ qi sn si Gi x.aY Xv AA.o.t AA.o.e AA.o.i (λg hg=>AA.o.d g (by simp only[ar,ay]at hg ⊢;rcases hg with e|e|e<;>simp[e])) AA.o.y hmm;unfold Ev.fu at KI
          rw[show(#[Value.int By x.aY,U5 By (d':Nat)]++ #[Value.pointer (some ⟨v.sB,0,none⟩),U7 (some ⟨v.tB,0,none⟩),U7 (some ⟨v.fB,0,none⟩),U7 (some ⟨v.oB,0,none⟩),U7 (some ⟨v.dB,0,none⟩),U7 (some ⟨v.kB,0,none⟩)]:Array Value)= #[Value.int By x.aY,U5 By (d':Nat),Value.pointer (some ⟨v.sB,0,none⟩),U7 (some ⟨v.tB,0,none⟩),U7 (some ⟨v.fB,0,none⟩),U7 (some ⟨v.oB,0,none⟩),U7 (some ⟨v.dB,0,none⟩),U7 (some ⟨v.kB,0,none⟩)]from rfl]at KI
          generalize fJ step fr til d' qi sn si x.aY=RW at *;obtain⟨qw,sw,ssw,mw,ew⟩:=RW;dsimp only at *;have KI:=xh KI;clear hmm;go_wp2_with fail;refine KI.o.mono ?_;rintro e w7 ⟨rfl,hWP⟩;obtain⟨G',L7,h513,h512⟩:=AA.o.deep hWP;have H7:=xh L7;have H8:=xh (io h513 h512);clear L7 h513 h512 hWP u0 u1 u2 z0 z1 z2 n0 m3 m4 m5 m6;have hE:=HE.o
          cases mw
          .rw[if_neg (by simp)]at hE;subst hE;go_wp2_with fail;go_ret2;exact aI (H7.o.wp (ai _) H8.o.1 _ _ H8.o.2)
          .by_cases hew:ew=0
           .subst hew;rw[if_pos ⟨rfl,rfl⟩]at hE;have HE:=xh hE;clear hE;go_wp2_with fail;go_roundw
            case rel=>exact⟨i+1,qw,sw,ssw,G',by omega,rfl,H8.o.2 (by trivial),HE,H7⟩
            case measure=>simp[intOf];omega
           .rw[if_neg (λh=>hew h.2)]at hE;subst hE;have hq:(ew != 0)=true:=by rw[bne_iff_ne];exact hew
            have my:(ew==0)=false:=by rw[beq_eq_false_iff_ne];exact hew
            go_wp2_with fail;go_ret2;exact aI (H7.o.wp (ai _) H8.o.1 _ _ H8.o.2)
       .obtain rfl:i=l.length:=by omega
        have hE:=HE.o;rw[Nc]at hE;unfold gr at hE;subst hE;go_wp2_with fail;go_ret2;exact aI (HW.o.wp (ai _) (by omega) _ _ (λ_=>Xv))
     .rw[if_pos rfl]at bS;have fQ:=xh bS;have y0:=H3.o.b.ab (i:=0) rfl;have y1:=H3.o.b.ab (i:=1) rfl;have HL:=xh hlen;clear bS;go_wp2_with fail
      go_loopw [45] (λiv wr=> ∃(i:Nat) (si:σ) (Gi:List Nat),i<=l.length/\iv=U5 By (i:Nat)/\Hid (gr (fJ step fr til d') step fr til true 0 i (l.drop i) q1 (seen+1) si=R)/\Hid (LW w wr v tb I F G n Kz fr til fn fu mes Inv q1 (seen+1) (57*seen+i) si Gi true A c FQ l)) (λiv _=>l.length-(intOf iv).toNat)
      case atStart=>exact⟨0,s,G,aW _,rfl,fQ,H3⟩
      case round=>
       clear y0 y1;obtain⟨i,si,Gi,hi,rfl,HE,HW⟩:=hrel
       by_cases hil:i<l.length
       .skip
        have hilI:(i:Int)<(l.length:Int):=by omega
        obtain⟨x,hx⟩:∃x,l[i]?=some x:=⟨_,aH hil⟩;have hE:=HE.o;rw[rh hil,show l[i]=x from by have:=aH hil;rw[hx]at this;injection this with h;exact h.symm]at hE;unfold gr at hE;have hxk:x.key.size<=32:=(pK HM.o x (aA hx)).1;have SL:=HW.o.s;obtain⟨ad,yp,gJ⟩:=(Nd.aM.aJ SL).2.2 i x hx;obtain⟨ga,ca,zk,Eh,_⟩:=SL.form (by omega) (by omega);injection Eh with e1 ezz e3
        clear ezz;subst e1 e3;injection yp with yp
        subst yp;rw[Nd.iN,bq]at gJ;have iF:=ae (Below.refl wr.heap.size wr) (WF #[U2 x.key,U2 x.val,U5 By x.aY] 111);have HA:=xh iF;have BX:=aF.new wr 111 #[U2 x.key,U2 x.val,U5 By x.aY];have u0:=gJ.c0;have u1:=gJ.c1;have u2:=gJ.c2;dsimp only at u1 u2;have z0:=BX.ab (i:=0) rfl;have z1:=BX.ab (i:=1) rfl;have z2:=BX.ab (i:=2) rfl;have AA:=xh (HW.o.below HV.o iF)
        have n0:=AA.o.b.ab (i:=0) rfl;have m3:=AA.o.e.f.ab (i:=0) rfl;have m4:=AA.o.e.o.ab (i:=0) rfl;have m5:=AA.o.e.d.ab (i:=0) rfl;have m6:=AA.o.e.k.ab (i:=0) rfl;have Jj:¬((i:Int)<0):=by omega
        have HE:=xh hE;clear gJ SL BX hE hx iF
        by_cases zO:Op.bytesLess x.key.toList fr.toList=true
        .have hE:=HE.o;rw[if_pos (show mX fr true 0 i x=true from by unfold mX;rw[zO];simp)]at hE;have HE:=xh hE;have HW:=xh (HW.o.below HV.o HA.o);clear hE;go_wp2_with fail;go_roundw
         case rel=>exact⟨i+1,si,Gi,by omega,rfl,HE,xh {HW.o with m:=by have:=HW.o.m;omega}⟩
         case measure=>simp[intOf];omega
        .have cf:Op.bytesLess x.key.toList fr.toList=false:=by simpa using zO
         have hE:=HE.o;rw[if_neg (show ¬mX fr true 0 i x=true from by unfold mX;rw[cf];simp)]at hE;have HE:=xh hE;clear zO hE
         by_cases ht:(til.toList==[])=true
         have hE:=HE.o;rw[if_neg (show ¬lI til true i x=true from by unfold lI;rw[ht];simp)]at hE;have ht1:til.toList=[]:=by simpa using ht
         rotate_left;have ht2:(til.toList==[])=false:=by simpa using ht
         have ht1:¬til.toList=[]:=by simpa using ht
         clear ht
         by_cases Zk:Op.bytesLess x.key.toList til.toList=true
         have hE:=HE.o;rw[if_neg (show ¬lI til true i x=true from by unfold lI;rw[Zk];simp)]at hE;rotate_left
         .have dk:Op.bytesLess x.key.toList til.toList=false:=by simpa using Zk
          have hE:=HE.o;rw[if_pos (show lI til true i x=true from by unfold lI;rw[dk,ht2];simp)]at hE;subst hE;have HW:=xh (HW.o.below HV.o HA.o);clear Zk;go_wp2_with fail;go_ret2;exact aI (HW.o.wp (by omega) (by omega) _ _ (λ_=>by omega))
         all_goals
          have HE:=xh hE;clear hE;have KC:=HV.o.call _ si Gi x AA.o.i (by have:=AA.o.m;omega) hxk;have h1s:=HV.o.one x si;have hE:=HE.o;rw[if_pos (show(true=true)from rfl)]at hE;generalize step x si=RS at *;obtain⟨s2,b2⟩:=RS;dsimp only at *;have KC:=xh KC;have HS:=xh h1s;have HE:=xh hE;unfold E.agg at KC;clear hE h1s;go_wp2_with fail;rw[HV.o.ent,Oper.upon_enter];refine KC.o.mono ?_;rintro e w7 ⟨rfl,G',hI7,o7,f7⟩
          have H7:=xh (AA.o.vis hI7 o7 f7 (bd':=57*seen+(i+1)) (by have:=AA.o.m;have:=HS.o;omega));clear hI7 o7 f7 u0 u1 u2 z0 z1 z2 n0 m3 m4 m5 m6;have hE:=HE.o
          cases b2
          .rw[if_neg (show ¬(false=true) by simp)]at hE;subst hE;go_wp2_with fail;go_ret2;exact aI (H7.o.wp (by omega) (by omega) _ _ (λ_=>by omega))
          .rw[if_pos (show(true=true)from rfl)]at hE;have HE:=xh hE;clear hE;go_wp2_with fail;go_roundw
           case rel=>exact⟨i+1,s2,G',by omega,rfl,HE,H7⟩
           case measure=>simp[intOf];omega
       .obtain rfl:i=l.length:=by omega
        have hE:=HE.o;rw[Nc]at hE;unfold gr at hE;subst hE;go_wp2_with fail;go_ret2;exact aI (HW.o.wp (by omega) (by omega) _ _ (λ_=>by omega))
    .have bS:=fQ.o;rw[if_pos he]at bS;subst bS;have hq:(er != 0)=true:=by rw[bne_iff_ne];exact he
     have my:(er==0)=false:=by rw[beq_eq_false_iff_ne];exact he
     go_wp2_with fail;go_ret2;exact aI (H3.o.wp (by omega) (by omega) _ _ (λh=>absurd h he))
theorem Gd{σ:Type}{step:E->σ->σ×Bool}{mes:σ->Nat}{Inv:World->σ->List Nat->Prop}(V:Vis fn fu step mes Inv){v:Ev}(fr til:rd)(YF:Kz<=999999990000):∀d,d<=16->Qn fn fu step mes Inv v tb I F n Kz fr til d
 |0,h=>L8 V fr til YF 0 h (λd' e=>absurd e (by omega))
 |d+1,h=>L8 V fr til YF (d+1) h (λd' e=>by
  obtain rfl:d'=d:=by omega
  exact Gd V fr til YF d' (by omega))
theorem yA{σ:Type}{fn:Nat}{fu:Array Value}{step:E->σ->σ×Bool}{mes:σ->Nat}{Inv:World->σ->List Nat->Prop}(V:Vis fn fu step mes Inv){w:World}{tb:Nat}{I:Ix}{F G:List Nat}{q:QS}{n K:Nat}{s:σ}(h:TQ w tb I F q n K)(hK:K<=999999990000)(fr til:rd)(hI:Inv w s G)(hD:∀g∈tb::F,g∉G)(hm:mes s=0):
  Calls prog 60 #[tp tb,U2 fr,U2 til,.func (.func fn) #[] fu] w λe w'=>e=BY (U5 By (q.dW step fr til s).e)/\∃G',TQ w' tb I F (q.dW step fr til s).q n (K+513)/\Inv w' (q.dW step fr til s).s G'/\ag (F++G) w w'/\(∀g∈G',g∈G\/w.heap.size<=g)/\mes (q.dW step fr til s).s<=57*513/\(∀g∈tb::F,g∉G'):=by
 have hmf:∀(fn:Fn) (first cap:Array Value) (w:World),(Instr.makeFunc fn first cap).run prog w=.ok (.func fn first cap) w:=λ_ _ _ _=>rfl;unfold tp at *;obtain⟨z,hz⟩:∃z,w.heap.size=z:=⟨_,rfl⟩;have W0:=i5 w;obtain⟨w1,lD⟩:∃w1,w.alloc (WF #[lc tb] 35)=w1:=⟨_,rfl⟩;have s1:w1.heap.size=z+1:=by rw[<-lD,gf,hz]
 have Ma:aF w1 (z) 35 #[lc tb]:=by rw[<-lD,<-hz];exact aF.new _ _ _
 have W1:=aC W0 (i6 w (WF #[lc tb] 35));rw[lD]at W1;obtain⟨w2,Ee⟩:∃w2,w1.alloc (WF #[U2 fr] 9)=w2:=⟨_,rfl⟩;have s2:w2.heap.size=z+1+1:=by rw[<-Ee,gf,s1]
 have Mb:aF w2 (z+1) 9 #[U2 fr]:=by rw[<-Ee,<-s1];exact aF.new _ _ _
 have DB:=Ma.alloc (WF #[U2 fr] 9);rw[Ee]at DB;have W2:=aC W1 (i6 w1 (WF #[U2 fr] 9));rw[Ee]at W2;obtain⟨w3,NW⟩:∃w3,w2.alloc (WF #[U2 til] 9)=w3:=⟨_,rfl⟩;have s3:w3.heap.size=z+1+1+1:=by rw[<-NW,gf,s2]
 have Qo:aF w3 (z+1+1) 9 #[U2 til]:=by rw[<-NW,<-s2];exact aF.new _ _ _
 have Qp:=DB.alloc (WF #[U2 til] 9);rw[NW]at Qp;have yB:=Mb.alloc (WF #[U2 til] 9);rw[NW]at yB;have W3:=aC W2 (i6 w2 (WF #[U2 til] 9));rw[NW]at W3;obtain⟨w4,hw4⟩:∃w4,w3.alloc (WF #[.func (.func fn) #[] fu] 112)=w4:=⟨_,rfl⟩;have s4:w4.heap.size=z+1+1+1+1:=by rw[<-hw4,gf,s3]
 have c3_4:aF w4 (z+1+1+1) 112 #[.func (.func fn) #[] fu]:=by rw[<-hw4,<-s3];exact aF.new _ _ _
 have c0_4:=Qp.alloc (WF #[.func (.func fn) #[] fu] 112);rw[hw4]at c0_4;have c1_4:=yB.alloc (WF #[.func (.func fn) #[] fu] 112);rw[hw4]at c1_4;have c2_4:=Qo.alloc (WF #[.func (.func fn) #[] fu] 112);rw[hw4]at c2_4;have W4:=aC W3 (i6 w3 (WF #[.func (.func fn) #[] fu] 112));rw[hw4]at W4;obtain⟨w5,Vy⟩:∃w5,w4.alloc (WF #[U5 By 0] 3)=w5:=⟨_,rfl⟩;have s5:w5.heap.size=z+1+1+1+1+1:=by rw[<-Vy,gf,s4]
 have c4_5:aF w5 (z+1+1+1+1) 3 #[(0:Nat)]:=by rw[<-Vy,<-s4];exact aF.new _ _ _
 have c0_5:=c0_4.alloc (WF #[U5 By 0] 3);rw[Vy]at c0_5;have c1_5:=c1_4.alloc (WF #[U5 By 0] 3);rw[Vy]at c1_5;have c2_5:=c2_4.alloc (WF #[U5 By 0] 3);rw[Vy]at c2_5;have c3_5:=c3_4.alloc (WF #[U5 By 0] 3);rw[Vy]at c3_5;have W5:=aC W4 (i6 w4 (WF #[U5 By 0] 3));rw[Vy]at W5;obtain⟨w6,Rv⟩:∃w6,w5.alloc (WF #[.nilFunc] 191)=w6:=⟨_,rfl⟩;have s6:w6.heap.size=z+1+1+1+1+1+1:=by rw[<-Rv,gf,s5]
 have Zl:aF w6 (z+1+1+1+1+1) 191 #[.nilFunc]:=by rw[<-Rv,<-s5];exact aF.new _ _ _
 have c0_6:=c0_5.alloc (WF #[.nilFunc] 191);rw[Rv]at c0_6;have c1_6:=c1_5.alloc (WF #[.nilFunc] 191);rw[Rv]at c1_6;have c2_6:=c2_5.alloc (WF #[.nilFunc] 191);rw[Rv]at c2_6;have c3_6:=c3_5.alloc (WF #[.nilFunc] 191);rw[Rv]at c3_6;have c4_6:=c4_5.alloc (WF #[.nilFunc] 191);rw[Rv]at c4_6;have W6:=aC W5 (i6 w5 (WF #[.nilFunc] 191));rw[Rv]at W6;obtain⟨v,hv⟩:∃v:Ev,v=⟨z+1+1+1+1,z,z+1,z+1+1,z+1+1+1,z+1+1+1+1+1⟩:=⟨_,rfl⟩
 have x0:=c0_4.bi 0;have x5:w6.cell? ⟨z+1+1+1+1+1,0,none⟩=some .nilFunc:=Zl.bi 0;have f5:=Zl.frozen 0 (by simp);obtain⟨w7,hw7⟩:∃w7,w6.setCell ⟨z+1+1+1+1+1,0,none⟩ (.func (.func 109) #[] #[U7 (some ⟨z+1+1+1+1,0,none⟩),lc z,U7 (some ⟨z+1,0,none⟩),U7 (some ⟨z+1+1,0,none⟩),U7 (some ⟨z+1+1+1,0,none⟩),U7 (some ⟨z+1+1+1+1+1,0,none⟩)])=w7:=⟨_,rfl⟩
 have x7:w7.cell? ⟨z+1+1+1+1+1,0,none⟩=some (.func (.func 109) #[] #[U7 (some ⟨z+1+1+1+1,0,none⟩),lc z,U7 (some ⟨z+1,0,none⟩),U7 (some ⟨z+1+1,0,none⟩),U7 (some ⟨z+1+1+1,0,none⟩),U7 (some ⟨z+1+1+1+1+1,0,none⟩)]):=by rw[<-hw7];exact(Zl.cw 0 _).ab (i:=0) rfl
 have o7:ag [z+1+1+1+1+1] w6 w7:=by rw[<-hw7];exact(ag.refl _ _).setCell (by simp) _
 have E7:ud w7 v tb fr til fn fu 0:=by
  rw[hv]at *;exact⟨c4_6.only o7 (by simp<;>omega),c0_6.only o7 (by simp<;>omega),c1_6.only o7 (by simp<;>omega),c2_6.only o7 (by simp<;>omega),c3_6.only o7 (by simp<;>omega),by rw[<-hw7];exact Zl.cw 0 _⟩
 have T7:TQ w7 tb I F q n (K+0):=(h.below W6).only o7 (λg hg hm=>by have:=h.lt g hg;rw[az.1 hm]at this;omega);have I7:Inv w7 s G:=V.pf _ _ _ _ _ (V.pf _ _ _ _ [] hI (.aj W6) (by simp)) o7 (λg hg hm=>by have:=V.lt _ _ _ hI g hg;rw[az.1 hm]at this;omega);have hvl:∀g∈v.l,z<=g:=λg hg=>by rw[hv]at hg;simp[Ev.l]at hg;omega
 have KW:=Gd V (v:=v) (tb:=tb) (I:=I) (F:=F) (n:=n) fr til hK 16 (ai _) w7 q 0 s G 0 (by omega) T7 E7 I7 (λg hg hG=>by
  simp only[ar,ay]at hg
  rcases hg with e|hg|hg
  .exact hD g (by simp[e]) hG
  .have:=hvl g hg;have:=V.lt _ _ _ hI g hG;omega
  .exact hD g (by simp[hg]) hG) (λg hg=>⟨λhF=>by have:=hvl g hg;have:=h.lt g (by simp[hF]);omega,λe=>by have:=hvl g hg;have:=h.lt g (by simp[e]);omega⟩) (by omega)
 have HW6:=xh W6;have KW:Calls prog 109 #[Value.int By 0,U5 By 16,U7 (some ⟨z+1+1+1+1,0,none⟩),lc z,U7 (some ⟨z+1,0,none⟩),U7 (some ⟨z+1+1,0,none⟩),U7 (some ⟨z+1+1+1,0,none⟩),U7 (some ⟨z+1+1+1+1+1,0,none⟩)] w7 (λe w'=>e=BY (.tuple #[U6 (q.dW step fr til s).more,U5 By (q.dW step fr til s).e])/\WP w7 w' v tb I F G n K fr til fn fu mes Inv (q.dW step fr til s)):=by rw[hv]at KW ⊢;exact KW
 have KW:=xh KW;have HV:=xh hvl;have hv:=xh hv;have o7:=xh o7;have rC:=xh (λg hg=>h.lt g hg);have HZ:=xh hz;clear Ma DB Qp c0_5 c0_6 Mb yB c1_4 c1_5 c1_6 Qo c2_4 c2_5 c2_6 c3_4 c3_5 c3_6 c4_5 c4_6 Zl W0 W1 W2 W3 W4 W5 W6 s1 s2 s3 s4 s5 s6 T7 I7 hvl;subst lD Ee NW hw4 Vy;go_in;go_wp2_with fail;go_call KW.o as e w8 ⟨rfl,G',a1,a2,a3,a4,a5,a6,a7,a8⟩
 have H8:=xh<|io a1 (io a3 (io a4 (io a5 (io a6 a7))));clear a1 a2 a3 a4 a5 a6 a7 a8;go_wp2;go_ret;have hD:=hD;obtain⟨b1,b3,b4,b5,b6,b7⟩:=H8.o;have o6:=ag.aj (S:=F++G) HW6.o;have o8:=o6.aU o7.o (λx hx ef=>by rw[az.1 hx]at ef;have:=HZ.o;omega);have o9:=o8.aU b4 (λx hx ef=>by
  rcases ar.1 hx with rfl|hx
  .have:=HV.o v.sB (by simp[Ev.l]);have:=HZ.o;omega
  .exact hx)
 exact⟨rfl,G',b1.le (by omega),b3,o9,λg hg=>(b5 g hg).imp id (λhl=>aq o8.size hl),by omega,λg hg hG=>by
  rcases b5 g hG with h1|h1
  .exact hD g hg h1
  .have:=rC.o g hg;have:=o8.size;omega⟩
open Nd (E aJ bH aS aZ et bI bg cG)
attribute [local go_sem ↓] bA
variable{lb nb fb:Nat}{n:Int}{w w':World}{s:List E}{G S:List Nat}
theorem yC{P:Program}{f:FuncId}{fn:Func}(hf:P.funcs[f]?=some fn)(hname:(fn.name== "runtime.NumGoroutine")=false)(hb:fn.body.isNone=false)(args:Array Value)(w:World):Sem.run P (callFunc f args) w=.ok (.enter f args) w:=by
 have h1:fn.name≠ "runtime.NumGoroutine" :=by simpa using hname
 have h2:fn.body≠none:=λh=>by rw[h]at hb;cases hb
 simp[callFunc,hf,h1,h2]
def lp(b:Nat):Value:=U7 (some ⟨b,0,none⟩)
def j6(n:Int)(x:E)(s:List E):List E×Bool:=((if(s.length:Int)<n then s++[x]else s),decide (((if(s.length:Int)<n then s++[x]else s).length:Int)<n))
def sr(lb nb:Nat)(n:Int)(w:World)(s:List E)(G:List Nat):Prop:=
 ∃A c,G=lb::nb::ah (U3 A s.length c)/\aF w lb 108 #[U3 A s.length c]/\aF w nb 3 #[U5 By n]/\aM w 111 3 (U3 A s.length c) s.length (aJ s)/\lb≠nb
theorem sr.lt(h:sr lb nb n w s G):∀g∈G,g<w.heap.size:=λg hg=>by
 obtain⟨A,c,rfl,h1,h2,h3,h4⟩:=h
 rcases ar.1 hg with rfl|hg
 .exact h1.lt
 .rcases ar.1 hg with rfl|hg
  .exact h2.lt
  .exact h3.lt g hg
theorem sr.only(h:sr lb nb n w s G)(o:ag S w w')(hs:∀g∈G,g∉S):sr lb nb n w' s G:=by
 obtain⟨A,c,rfl,h1,h2,h3,h4⟩:=h;exact⟨A,c,rfl,h1.only o (hs _ (by simp)),h2.only o (hs _ (by simp)),h3.only o (λg hg=>hs g (by simp[hg])),h4⟩
theorem Qq:(prog.info? 111).map (λi=>(i.zero,i.size,i.bytes))=some (some (.agg #[U2 .empty,U2 .empty,U5 By 0]),3,40):=by kernel_rfl
theorem UO(x:E)(h:sr lb nb n w s G)(hs:s.length<=100000):
  Calls prog 61 #[x.agg,lp lb,lp nb] w λe w'=>e=BY (U6 (j6 n x s).2)/\∃G',sr lb nb n w' (j6 n x s).1 G'/\ag G w w'/\∀g∈G',g∈G\/w.heap.size<=g:=by
 obtain⟨A,c,rfl,B1,B2,S1,fF⟩:=h;obtain⟨z,hz⟩:∃z,w.heap.size=z:=⟨_,rfl⟩;obtain⟨k,hk⟩:∃k,s.length=k:=⟨_,rfl⟩;rw[hk]at hs B1 S1 ⊢;have hb:=i6 w (WF #[U2 x.key,U2 x.val,x.aY] 111);have l1:=B1.lt;have l2:=B2.lt;have l3:=S1.lt;have C1:=B1.below hb l1;have C2:=B2.below hb l2;have CS:=S1.below hb;have B3:=aF.new w 111 #[U2 x.key,U2 x.val,x.aY];have wZ:=dL CS C1 (by decide);have XB:=dL CS C2 (by decide)
 have c1:=C1.bi 0;have c2:=C2.bi 0;have d0:=B3.bi 0;have d1:=B3.bi 1;have d2:=B3.bi 2;have HB:=xh hb;unfold j6;rw[hk]
 by_cases hn:(k:Int)<n
 .rw[if_pos hn];obtain⟨v',w3,ea,S3,oa,fa⟩:=Nd.CG CS 108 108 _ 40 underlying108 Qq rfl x (by unfold maxLen;omega) (by omega);have f1:=(C1.only oa wZ).frozen 0 (by simp);have x1:=(C1.only oa wZ).ab (i:=0) rfl;have y2:=(C2.only oa XB).ab (i:=0) rfl;have hlen:(s++[x]).length=k+1:=by simp[hk]
  obtain⟨A3,c3,Jl⟩:=ax S3;subst Jl;have gJ:aJ s++E.cells x=aJ (s++[x]):=by rw[Nd.iH];simp[aJ,E.cells]
  rw[gJ]at S3;have D1:=(C1.only oa wZ).cw 0 (U3 A3 (k+1) c3);have D2:=(C2.only oa XB).aY (p:=⟨lb,0,none⟩) (λe=>fF e.symm) (U3 A3 (k+1) c3);have D3:=S3.only (S:=[lb]) ((ag.refl _ _).setCell (by simp) _:ag [lb] w3 (w3.setCell ⟨lb,0,none⟩ (U3 A3 (k+1) c3))) (λg hg hm=>by
   rw[az.1 hm]at hg;exact dL S3 (C1.only oa wZ) (by decide) hg)
  have o3:ag (lb::nb::ah (U3 A k c)) w (w3.setCell ⟨lb,0,none⟩ (U3 A3 (k+1) c3)):=((ag.aj HB.o).aU oa (λg hg _=>by simp[hg])).setCell (by simp) _;have fr3:∀g∈lb::nb::ah (U3 A3 (k+1) c3),g∈lb::nb::ah (U3 A k c)\/w.heap.size<=g:=λg hg=>by
   rcases ar.1 hg with rfl|hg
   .exact .inl (by simp)
   .rcases ar.1 hg with rfl|hg
    .exact .inl (by simp)
    .rcases fa g hg with h|h
     .exact .inl (by simp[h])
     .exact .inr (by have:=HB.o.size;omega)
  have z1:=D1.bi 0;have z2:=D2.bi 0;have H9:=xh (show sr lb nb n (w3.setCell ⟨lb,0,none⟩ (U3 A3 (k+1) c3)) (s++[x]) (lb::nb::ah (U3 A3 (k+1) c3))/\ag (lb::nb::ah (U3 A k c)) w (w3.setCell ⟨lb,0,none⟩ (U3 A3 (k+1) c3))/\∀g∈lb::nb::ah (U3 A3 (k+1) c3),g∈lb::nb::ah (U3 A k c)\/w.heap.size<=g from
   ⟨⟨A3,c3,by rw[hlen],by rw[hlen];exact D1,D2,by rw[hlen];exact D3,fF⟩,o3,fr3⟩)
  have hlI:((s++[x]).length:Int)=(k:Int)+1:=by rw[hlen];omega
  have HLI:=xh hlI;rw[gf,hz]at ea;have EA:=xh ea;clear ea S3 oa fa D1 D2 D3 o3 fr3 hlen hlI gJ wZ XB C1 C2 CS B3 B1 B2 S1 hb l1 l2 l3 hs hk;unfold lp E.agg at *;go_in;go_wp2_with fail;rw[EA.o];go_wp2;go_ret;refine⟨?_,_,H9.o.1,H9.o.2.1,H9.o.2.2⟩;rw[HLI.o];rfl
 .rw[if_neg hn];have H9:=g9 (sr lb nb n (w.alloc (WF #[U2 x.key,U2 x.val,x.aY] 111)) s (lb::nb::ah (U3 A k c))) ⟨A,c,by rw[hk],by rw[hk];exact C1,C2,by rw[hk];exact CS,fF⟩;have HK:=xh hk;have HN:=xh hn;have HS:=xh hb.size;clear wZ XB C1 C2 CS B3 B1 B2 S1 hb l1 l2 l3 hs hk;unfold lp E.agg at *;go_in;go_wp2;go_ret
  exact⟨by rw[HK.o,decide_eq_false (Int.not_lt.2 HN.o)];first|rfl|simp,_,H9.o,.aj HB.o,λg hg=> .inl (by simpa using hg)⟩
theorem Zm(lb nb:Nat)(n:Int):Vis 61 #[lp lb,lp nb] (j6 n) List.length (sr lb nb n) where
 call:=λW s G x h hs _=>UO x h hs
 pf:=λW w' s G S h o hs=>h.only o hs
 lt:=λW s G h=>h.lt
 ent:=λargs W=>yC func61 (by kernel_rfl) (by kernel_rfl) args W
 one:=λx s=>by unfold j6;split<;>simp
def ju(x:E)(_:Option E):Option E×Bool:=(some x,true)
def optE:Option E->E
 |none=>Nd.E.zero
 |some x=>x
def DE(lb fb:Nat)(w:World)(s:Option E)(G:List Nat):Prop:=
 G=[lb,fb]/\aF w lb 111 #[U2 (optE s).key,U2 (optE s).val,U5 By (optE s).aY]/\aF w fb 4 #[U6 s.isSome]/\lb≠fb
theorem DE.only{s:Option E}(h:DE lb fb w s G)(o:ag S w w')(hs:∀g∈G,g∉S):DE lb fb w' s G:=by
 obtain⟨rfl,h1,h2,h4⟩:=h;exact⟨rfl,h1.only o (hs _ (by simp)),h2.only o (hs _ (by simp)),h4⟩
theorem UP{s:Option E}(x:E)(h:DE lb fb w s G):
  Calls prog 65 #[x.agg,lp lb,lp fb] w λe w'=>e=BY (U6 (ju x s).2)/\∃G',DE lb fb w' (ju x s).1 G'/\ag G w w'/\∀g∈G',g∈G\/w.heap.size<=g:=by
 obtain⟨rfl,B1,B2,fF⟩:=h;obtain⟨z,hz⟩:∃z,w.heap.size=z:=⟨_,rfl⟩;have hb:=i6 w (WF #[U2 x.key,U2 x.val,x.aY] 111);have l1:=B1.lt;have l2:=B2.lt;have C1:=B1.below hb l1;have C2:=B2.below hb l2;have B3:=aF.new w 111 #[U2 x.key,U2 x.val,x.aY];have d0:=B3.bi 0;have d1:=B3.bi 1;have d2:=B3.bi 2
 obtain⟨D1,oa,y0,y1,y2,z0,z1,z2⟩:=YA (a':=x.key) (b':=x.val) (c':=x.aY) C1;have D2:=C2.only oa (by simp;exact λe=>fF e.symm);have f2:=D2.frozen 0 (by simp);have x2:=D2.bi 0;have E1:=D1.aY (p:=⟨fb,0,none⟩) fF (U6 true);have E2:=D2.cw 0 (U6 true);have o2:=((ag.aj (S:=[lb,fb]) hb).aU oa (λg hg _=>by simp at hg;simp[hg])).setCell (p:=⟨fb,0,none⟩) (by simp) (U6 true);have H9:=xh<|io E1 (io E2 o2);have HN:=xh fF
 clear E1 E2 o2 D1 D2 oa C1 C2 B1 B2 B3 hb l1 l2 fF;unfold lp E.agg at *;go_in;go_wp2;go_ret;exact⟨rfl,_,⟨rfl,H9.o.1,H9.o.2.1,HN.o⟩,H9.o.2.2,λg hg=> .inl hg⟩
def seenO(s:Option E):Nat:=if s.isSome then 1 else 0
theorem Zn(lb fb:Nat):Vis 65 #[lp lb,lp fb] ju seenO (DE lb fb) where
 call:=λW s G x h hs _=>UP x h
 pf:=λW w' s G S h o hs=>h.only o hs
 lt:=λW s G h g hg=>by
  obtain⟨rfl,h1,h2,_⟩:=h;simp only[ar,ij,or_false]at hg
  rcases hg with rfl|rfl
  .exact h1.lt
  .exact h2.lt
 ent:=λargs W=>yC func65 (by kernel_rfl) (by kernel_rfl) args W
 one:=λx s=>by unfold ju seenO;cases s<;>simp
def gM(x:E)(s:List rd):List rd×Bool:=(s++[x.key],true)
def IZ(l:List rd):List Value:=l.map Value.string
def ss(lb:Nat)(w:World)(s:List rd)(G:List Nat):Prop:=
 ∃A c,G=lb::ah (U3 A s.length c)/\aF w lb 123 #[U3 A s.length c]/\aM w 9 1 (U3 A s.length c) s.length (IZ s)
theorem ss.only{s:List rd}(h:ss lb w s G)(o:ag S w w')(hs:∀g∈G,g∉S):ss lb w' s G:=by
 obtain⟨A,c,rfl,h1,h3⟩:=h;exact⟨A,c,rfl,h1.only o (hs _ (by simp)),h3.only o (λg hg=>hs g (by simp[hg]))⟩
theorem UQ:(prog.info? 9).map (λi=>(i.zero,i.size,i.bytes))=some (some (U2 .empty),1,16):=by kernel_rfl
theorem Qr{s:List rd}(x:E)(h:ss lb w s G)(hs:s.length<=100000):
  Calls prog 66 #[x.agg,lp lb] w λe w'=>e=BY (U6 (gM x s).2)/\∃G',ss lb w' (gM x s).1 G'/\ag G w w'/\∀g∈G',g∈G\/w.heap.size<=g:=by
 obtain⟨A,c,rfl,B1,S1⟩:=h;obtain⟨z,hz⟩:∃z,w.heap.size=z:=⟨_,rfl⟩;obtain⟨k,hk⟩:∃k,s.length=k:=⟨_,rfl⟩;rw[hk]at hs B1 S1 ⊢;have hb:=i6 w (WF #[U2 x.key,U2 x.val,x.aY] 111);have l1:=B1.lt;have C1:=B1.below hb l1;have CS:=S1.below hb;have B3:=aF.new w 111 #[U2 x.key,U2 x.val,x.aY];have wZ:=dL CS C1 (by decide);have c1:=C1.bi 0;have d0:=B3.bi 0;have HB:=xh hb
 obtain⟨v',w3,ea,S3,oa,fa⟩:=dG (P:=prog) CS 123 123 _ 16 underlying123 UQ rfl (U2 x.key) rfl (by unfold maxLen;omega) (by omega);have f1:=(C1.only oa wZ).frozen 0 (by simp);have x1:=(C1.only oa wZ).ab (i:=0) rfl;have hlen:(s++[x.key]).length=k+1:=by simp[hk]
 obtain⟨A3,c3,Jl⟩:=ax S3;subst Jl;have gJ:IZ s++[Value.string x.key]=IZ (s++[x.key]):=by simp[IZ]
 rw[gJ]at S3;have D1:=(C1.only oa wZ).cw 0 (U3 A3 (k+1) c3);have D3:=S3.only (S:=[lb]) ((ag.refl _ _).setCell (by simp) _:ag [lb] w3 (w3.setCell ⟨lb,0,none⟩ (U3 A3 (k+1) c3))) (λg hg hm=>by
  rw[az.1 hm]at hg;exact dL S3 (C1.only oa wZ) (by decide) hg)
 have o3:ag (lb::ah (U3 A k c)) w (w3.setCell ⟨lb,0,none⟩ (U3 A3 (k+1) c3)):=((ag.aj HB.o).aU oa (λg hg _=>by simp[hg])).setCell (by simp) _;have fr3:∀g∈lb::ah (U3 A3 (k+1) c3),g∈lb::ah (U3 A k c)\/w.heap.size<=g:=λg hg=>by
  rcases ar.1 hg with rfl|hg
  .exact .inl (by simp)
  .rcases fa g hg with h|h
   .exact .inl (by simp[h])
   .exact .inr (by have:=HB.o.size;omega)
 have H9:=xh (show ss lb (w3.setCell ⟨lb,0,none⟩ (U3 A3 (k+1) c3)) (s++[x.key]) (lb::ah (U3 A3 (k+1) c3))/\ag (lb::ah (U3 A k c)) w (w3.setCell ⟨lb,0,none⟩ (U3 A3 (k+1) c3))/\∀g∈lb::ah (U3 A3 (k+1) c3),g∈lb::ah (U3 A k c)\/w.heap.size<=g from
  ⟨⟨A3,c3,by rw[hlen],by rw[hlen];exact D1,by rw[hlen];exact D3⟩,o3,fr3⟩)
 rw[gf,hz]at ea;have EA:=xh ea;clear ea S3 oa fa D1 D3 o3 fr3 hlen gJ wZ C1 CS B3 B1 S1 hb l1 hs hk;unfold lp E.agg at *;go_in;go_wp2_with fail;rw[EA.o];go_wp2;go_ret;exact⟨rfl,_,H9.o.1,H9.o.2.1,H9.o.2.2⟩
theorem UR(lb:Nat):Vis 66 #[lp lb] gM List.length (ss lb) where
 call:=λW s G x h hs _=>Qr x h hs
 pf:=λW w' s G S h o hs=>h.only o hs
 lt:=λW s G h g hg=>by
  obtain⟨A,c,rfl,h1,h3⟩:=h
  rcases ar.1 hg with rfl|hg
  .exact h1.lt
  .exact h3.lt g hg
 ent:=λargs W=>yC func66 (by kernel_rfl) (by kernel_rfl) args W
 one:=λx s=>by unfold gM;simp
end Sh
end Go.Proofs.YtmonobkginiajaaGreat
