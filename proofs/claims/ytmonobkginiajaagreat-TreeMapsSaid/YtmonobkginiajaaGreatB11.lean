/- packed. -/
import Derived.Laws.EntriesVeiled
import Derived.Test.YtmonobkginiajaaGreatB10
set_option linter.all false
set_option maxRecDepth 100000
set_option maxHeartbeats 8000000
namespace Go.Proofs.YtmonobkginiajaaGreat
open Go.Proofs.Tryz
namespace Sh
open Go.RowKit Pk Dk Pg
open Nd (E aX bj dN bP bl cF bU ao du)
variable{v v':Vw}{h:Nat}{x:Step}{up:List Step}
structure Cf(v:Vw)(h:Nat)(x:Step)(up:List Step):Prop where
 hole:pA v up h x.aq
 leaf:x.leaf=decide (h=0)
 here:(v x.aq).2=0
 ok:fU v h x.l
 ne:x.l≠[]
 bk:blank x.leaf x.l=x.l
 VH:∀e∈gx v h x.l,FM up e.key
 IV:(bC (ft v up h)++x.aq::(bC (cI v h x.l)++bC (dn v up h))).Nodup
 sz:ao x.l<=302
def di(v:Vw)(h:Nat)(x:Step)(up:List Step):List NT:=ft v up h++(h,x.aq,x.l)::(cI v h x.l++dn v up h)
structure Grown(v v':Vw)(H H':Nat)(ns:List NT)(new:List Int):Prop where
 ok:mi v' H' 0
 en:gF v' H' 0=bZ ns
 pg:(bC (aM v' H' 0)).Perm (bC ns++new)
 fresh:∀j∈new,v j=([],3)
 IV:new.Nodup
 o:∀j,j∉bC ns->j∉new->v' j=v j
 IW:∀wt c,MD wt c->eC wt (aM v' H' 0)+c*new.length<=eC wt ns+(if H'=H then 0 else c)
 h:H'=H\/(H'=H+1/\∀wt c,MD wt c->73*wt H<=eC wt ns)
theorem fH(v:Vw)(h:Nat)(x:Step)(up:List Step):bC (di v h x up)=bC (ft v up h)++x.aq::(bC (cI v h x.l)++bC (dn v up h)):=by
 unfold di;simp
theorem kQ(v:Vw)(h:Nat)(x:Step)(up:List Step):bZ (di v h x up)=bZ (ft v up h)++(gx v h x.l++bZ (dn v up h)):=by
 unfold di
 cases h with
 |zero=>simp[cI,gx]
 |succ h=>simp[cI,gx]
theorem Cf.cost(P:Cf v h x up):∀e∈x.l,Nd.cost e<=79:=λe he=>by
 obtain⟨a,b,c⟩:=P.ok.1 e he;unfold Nd.cost;omega
theorem Cf.nin(P:Cf v h x up):(∀j∈bC (ft v up h),j≠x.aq)/\(∀j∈bC (cI v h x.l),j≠x.aq)/\∀j∈bC (dn v up h),j≠x.aq:=by
 have:=P.IV;rw[iu,gf]at this;obtain⟨_,⟨a,_⟩,b⟩:=this;refine⟨λj hj e=>b j hj x.aq (by simp) e,λj hj e=>a (by rw[<-e];exact cd _ hj),λj hj e=>a (by rw[<-e];exact bK _ hj)⟩
theorem AO(hole:pA v up h x.aq)(ok:fU v h x.l)(ne:up≠[]->x.l≠[])(VH:∀e∈gx v h x.l,FM up e.key)
 (IV:(bC (ft v up h)++x.aq::(bC (cI v h x.l)++bC (dn v up h))).Nodup)(hb:ao (blank (decide (h=0)) x.l)<=223)(hd:iG v' x.aq=(decide (h=0),blank (decide (h=0)) x.l,0))(hv:∀j,j≠x.aq->v' j=v j):
  mi v' (h+up.length) 0/\aM v' (h+up.length) 0=ft v up h++(h,x.aq,blank (decide (h=0)) x.l)::(cI v h x.l++dn v up h)/\gF v' (h+up.length) 0=bZ (di v h x up):=by
 have hn:=IV;rw[iu,gf]at hn;obtain⟨_,⟨na,_⟩,nb⟩:=hn;obtain⟨c1,c2,c3⟩:=hX up h x.aq hole (λj hj=>hv j (λe=>nb j hj x.aq (by simp) e)) (λj hj=>hv j (λe=>na (by rw[<-e];exact bK _ hj)));obtain⟨l1,l2,l3⟩:=kP (v:=v) (v':=v') (h:=h) (l:=x.l) (λj hj=>hv j (λe=>na (by rw[<-e];exact cd _ hj)));obtain⟨k1,k2,k3⟩:=uO (l3 ok) hb hd
 obtain⟨p1,p2⟩:=plug up h x.aq c1 k1 (λff=>by rw[k3,l2];exact mq ok (ne ff)) (λe he=>by rw[k3,l2]at he;exact VH e he);rw[c2,c3,k2,l1,lI]at p2;refine⟨p1,p2,?_⟩;unfold gF;rw[p2,kQ]
 cases h with
 |zero=>simp[cI,gx,kO]
 |succ h=>simp[cI,gx]
theorem QY(P:Cf v h x up)(hb:ao x.l<=223)(hd:iG v' x.aq=(decide (h=0),x.l,0))(hv:∀j,j≠x.aq->v' j=v j):
  Grown v v' (h+up.length) (h+up.length) (di v h x up) []:=by
 have hbk:=P.bk;rw[P.leaf]at hbk;obtain⟨p1,p2,p3⟩:=AO P.hole P.ok (λ_=>P.ne) P.VH P.IV (by rw[hbk];exact hb) (by rw[hbk];exact hd) hv;rw[hbk]at p2;have e:aM v' (h+up.length) 0=di v h x up:=p2;refine⟨p1,p3,by rw[e,iJ],by simp,ou,λj hj _=>hv j (λej=>hj (by rw[fH,ej];simp)),λwt c _=>by rw[e,if_pos rfl];simp,.inl rfl⟩
theorem MH{l:List Int}{k:Int}(h:l.Nodup)(hk:k∉l):(l++[k]).Nodup:=by
 rw[iu];exact⟨h,by simp,λa ha b hb e=>hk (by rw[<-aQ.1 hb,<-e];exact ha)⟩
theorem QZ{a b:List E}{c n:E}(h:blank false (a++c::b)=a++c::b):blank false (a++c::n::b)=a++c::n::b:=by
 cases a with
 |nil=>
  have h:({c with key:=⟨#[]⟩}:E)::b=c::b:=h;injection h with h1 h2
  show({c with key:=⟨#[]⟩}:E)::n::b=_;rw[h1];rfl
 |cons z a=>
  have h:({z with key:=⟨#[]⟩}:E)::(a++c::b)=z::(a++c::b):=h;injection h with h1 h2
  show({z with key:=⟨#[]⟩}:E)::(a++c::n::b)=_;rw[h1];rfl
theorem pend_up{v2:Vw}{y:Step}(P:Cf v h x (y::up)){la lb:List E}(hl:x.l=la++lb)(ha:la≠[])(hb:lb≠[])(ba:ao la<=223)(bb:ao lb<=223)(hs:(ao la-151)+(ao lb-151)+73<=ao x.l-151)
 {k:Nat}(hk:k<=511)(hvk:v (k:Nat)=([],3))(uX:iG v2 x.aq=(decide (h=0),blank (decide (h=0)) la,0))(TV:iG v2 (k:Nat)=(decide (h=0),blank (decide (h=0)) lb,0))(hv:∀j,j≠x.aq->j≠(k:Nat)->v2 j=v j)(h2:(v2 x.aq).2=0/\(v2 (k:Nat)).2=0):
  Cf v2 (h+1) {y with l:=y.l.insertIdx (y.at_+1) ⟨keyOf lb,⟨#[]⟩,(k:Nat)⟩} up/\
  ∀{v':Vw} {H':Nat} {new:List Int},Grown v2 v' (h+1+up.length) H' (di v2 (h+1) {y with l:=y.l.insertIdx (y.at_+1) ⟨keyOf lb,⟨#[]⟩,(k:Nat)⟩} up) new->Grown v v' (h+(y::up).length) H' (di v h x (y::up)) ((k:Nat)::new):=by
 obtain⟨⟨a,c,b,f,hsib⟩,hU⟩:=P.hole;obtain⟨t1,t2,t3⟩:=k6 f;obtain⟨n1,n2,n3⟩:=P.nin;obtain⟨hh1,hh2⟩:=Dy (y::up) h x.aq P.hole;have hlk:=Dx P.ok;have nk:∀j,(v j).2=0->j≠(k:Nat):=λj hj e=>by rw[e,hvk]at hj;exact absurd hj (by decide)
 have lQ:∀j∈bC (ft v (y::up) h),v2 j=v j:=λj hj=>hv j (n1 j hj) (nk j (hh1 j hj));have uQ:∀j∈bC (dn v (y::up) h),v2 j=v j:=λj hj=>hv j (n3 j hj) (nk j (hh2 j hj));have IY:∀j∈bC (cI v h x.l),v2 j=v j:=λj hj=>hv j (n2 j hj) (nk j (hlk j hj));obtain⟨H2,e1,e2⟩:=hX (y::up) h x.aq P.hole lQ uQ;have fu:=P.ok;rw[hl]at fu IY;rw[mo,df]at IY;obtain⟨sa,sb,s1,s2,s3⟩:=ta fu ha hb
 obtain⟨ka1,ka2,ka3⟩:=kP (v:=v) (v':=v2) (h:=h) (l:=la) (λj hj=>IY j (cd _ hj));obtain⟨kb1,kb2,kb3⟩:=kP (v:=v) (v':=v2) (h:=h) (l:=lb) (λj hj=>IY j (bK _ hj));obtain⟨oa1,oa2,oa3⟩:=uO (ka3 sa) (ar (dF _ _) ba) uX;obtain⟨ob1,ob2,ob3⟩:=uO (kb3 sb) (ar (dF _ _) bb) TV;rw[ka1]at oa2;rw[kb1]at ob2;rw[ka2]at oa3;rw[kb2]at ob3;obtain⟨⟨a',c',b',f2,VL⟩,hU2⟩:=H2
 have qb:a'=a/\c'=c/\b'=b:=by
  have q1:=(k6 f2);exact⟨by rw[<-q1.1,t1],by rw[<-q1.2.2,t3],by rw[<-q1.2.1,t2]⟩
 obtain⟨rfl,rfl,rfl⟩:=qb;obtain⟨n,hn⟩:∃n:E,n=⟨keyOf lb,⟨#[]⟩,(k:Nat)⟩:=⟨_,rfl⟩;have hnf:n.aW=(k:Nat):=by rw[hn]
 have hnk:n.key=keyOf lb:=by rw[hn]
 rw[<-hn];have hins:y.l.insertIdx (y.at_+1) n=a'++c'::n::b':=by rw[f.l,f.at_,ME]
 rw[hins];have hinP:=P.VH;rw[hl,wJ]at hinP;have inA:∀e∈gx v h la,(a'≠[]->nY c'.key e.key)/\(∀z∈b',fR e.key z.key)/\FM up e.key:=λe he=>(mK f up e.key).1 (hinP e (cd _ he));have inB:∀e∈gx v h lb,(a'≠[]->nY c'.key e.key)/\(∀z∈b',fR e.key z.key)/\FM up e.key:=λe he=>(mK f up e.key).1 (hinP e (bK _ he));have neA:=mq sa ha;have neB:=mq sb hb;have enc:gF v2 h c'.aW=gx v h la:=by rw[f.aW,oa3]
 have enn:gF v2 h n.aW=gx v h lb:=by rw[hnf,ob3]
 have qu:=mj (oZ (v:=v) (p:=y.aq) (by rw[f.nd]));rw[f.nd]at qu;have qu:∀e∈a'++c'::b',du e false:=by rw[<-f.l];exact qu
 have flo:=f2.lo;rw[dR]at flo;have hin2:sZ (mi v2 h) (gF v2 h) (a'++c'::n::b'):=by
  refine⟨by simp,λe he=>?_,?_,λe he=>?_⟩
  .rcases aC.1 he with he|he
   .exact f2.ch e (cd _ he)
   .rcases an.1 he with rfl|he
    .exact⟨by rw[f.aW];exact oa1,by rw[enc];exact neA⟩
    .rcases an.1 he with rfl|he
     .exact⟨by rw[hnf];exact ob1,by rw[enn];exact neB⟩
     .exact f2.ch e (bK _ he)
  .rw[dR,ef,ef];refine⟨flo.1,⟨λe he x hx=>?_,λe he x hx=>?_,flo.2.1⟩,λe he e' ye x hx=>?_⟩
   .rw[enc]at hx
    rcases an.1 he with rfl|he
    .rw[hnk];exact s1 x hx
    .exact(inA x hx).2.1 e he
   .rw[enn]at hx;exact(inB x hx).2.1 e he
   .rcases an.1 ye with rfl|ye
    .exact f2.la e he x hx
    .rcases an.1 ye with rfl|ye
     .rw[hnk];obtain⟨z,hz⟩:=vf _ neA;exact ij (gr (f2.la e he x hx) ((inA z hz).1 (λh0=>by rw[h0]at he;simp at he))) (s1 z hz)
     .exact flo.2.2 e he e' ye x hx
  .have hmid:∀e∈n::b',∀x∈gF v2 h e.aW,nY e.key x.key:=λe he x hx=>by
    rcases an.1 he with rfl|he
    .rw[enn]at hx;rw[hnk];exact s2 x hx
    .exact f2.hb e he x hx
   cases ha':a' with
   |nil=>
    rw[ha']at he;exact hmid e he
   |cons z a2=>
    have ff:a'≠[]:=by rw[ha'];simp
    have hha:=f2.ha;rw[ha']at he hha;rw[lI,j8]at he;rw[j8]at hha
    rcases aC.1 he with he|he
    .exact hha e he
    .rcases an.1 he with rfl|he
     .intro x hx;rw[enc]at hx;exact(inA x hx).1 ff
     .exact hmid e he
 have xP:bw v2 h (a'++c'::n::b')=bw v h a'++((h,x.aq,blank (decide (h=0)) la)::cI v h la++((h,((k:Nat):Int),blank (decide (h=0)) lb)::cI v h lb++bw v h b')):=by
  rw[gS,fM,fM,f.aW,hnf,oa2,ob2];have q1:bw v2 h a'=bw v h a':=(hJ (λj hj=>lQ j (by simp only[dh,dq];rw[t1,df,dg];exact bK _ (ax _ hj)))).1;have q2:bw v2 h b'=bw v h b':=(hJ (λj hj=>uQ j (by simp only[cK,cL];rw[t2,df];exact cd _ hj))).1;rw[q1,q2]
 have AQ:ft v2 up (h+1)=ft v up (h+1):=by
  exact(hX up (h+1) y.aq hU (λj hj=>lQ j (by simp only[dh,dq];rw[df];exact cd _ hj)) (λj hj=>uQ j (by simp only[cK,cL];rw[df];exact bK _ hj))).2.1
 have td:dn v2 up (h+1)=dn v up (h+1):=by
  exact(hX up (h+1) y.aq hU (λj hj=>lQ j (by simp only[dh,dq];rw[df];exact cd _ hj)) (λj hj=>uQ j (by simp only[cK,cL];rw[df];exact bK _ hj))).2.2
 have hold:bC (di v h x (y::up))=bC (ft v up (h+1))++(y.aq::bC (bw v h a'))++x.aq::((bC (cI v h la)++bC (cI v h lb))++(bC (bw v h b')++bC (dn v up (h+1)))):=by
  rw[fH,hl,mo,df];simp only[dh,cK,dq,cL];rw[t1,t2];simp
 have Q0:bC (di v2 (h+1) {y with l:=a'++c'::n::b'} up)=bC (ft v up (h+1))++y.aq::(bC (bw v h a')++(x.aq::bC (cI v h la)++(((k:Nat):Int)::bC (cI v h lb)++bC (bw v h b')))++bC (dn v up (h+1))):=by
  rw[fH];show bC (ft v2 up (h+1))++y.aq::(bC (bw v2 h (a'++c'::n::b'))++bC (dn v2 up (h+1)))=_;rw[xP,AQ,td];simp
 have rX:(bC (di v2 (h+1) {y with l:=a'++c'::n::b'} up)).Perm (bC (di v h x (y::up))++[((k:Nat):Int)]):=by
  rw[Q0,hold,Ef];intro j;simp only[JE,JF,List.count_nil];omega
 have hknin:((k:Nat):Int)∉bC (di v h x (y::up)):=λhm=>by
  rw[fH]at hm
  rcases aC.1 hm with hm|hm
  .exact nk _ (hh1 _ hm) rfl
  .rcases an.1 hm with hm|hm
   .exact nk _ P.here hm.symm
   .rcases aC.1 hm with hm|hm
    .exact nk _ (hlk _ hm) rfl
    .exact nk _ (hh2 _ hm) rfl
 have IZ:=P.IV;rw[<-fH]at IZ;have hnod:(bC (di v2 (h+1) {y with l:=a'++c'::n::b'} up)).Nodup:=rX.nodup_iff.2 (MH IZ hknin);have hcostn:n.key.size+n.val.size+7<=39:=by rw[hn];show(keyOf lb).size+0+7<=39;omega
 have hby:=f.by_;rw[f.l,eI,eG]at hby;have JU:ao (a'++c'::n::b')<=ao y.l+39:=by
  rw[f.l,eI,eI,eG,eG,eG];omega
 refine⟨⟨hU2,?_,?_,⟨λe he=>?_,hin2⟩,by simp,?_,λe he=>?_,?_,?_⟩,λ{v' H' new} G=>?_⟩
 .show y.leaf=decide (h+1=0);rw[f.leaf];rfl
 .exact mI (by show(iG v2 y.aq).2.2=0;rw[f2.nd])
 .rcases aC.1 he with he|he
  .exact qu e (cd _ he)
  .rcases an.1 he with rfl|he
   .exact qu _ (by simp)
   .rcases an.1 he with rfl|he
    .rw[hn];exact⟨s3,aY _,by show(if(decide (h+1=0))=true then(-1:Int)else 0)<=((k:Nat):Int);split<;>omega,by show((k:Nat):Int)<512;omega,.inr rfl⟩
    .exact qu e (bK _ (ax _ he))
 .show blank y.leaf _=_;rw[f.leaf];exact QZ (by rw[<-f.l];exact f.bk)
 .have he:e∈bZ (bw v2 h (a'++c'::n::b')):=he;obtain⟨z,hz,hx⟩:=dG.1 he;have sib:∀z∈a'++b',e∈gF v2 h z.aW->FM up e.key:=λz hz hx=>VL z hz e hx
  rcases aC.1 hz with hz|hz
  .exact sib z (cd _ hz) hx
  .rcases an.1 hz with rfl|hz
   .rw[enc]at hx;exact(inA e hx).2.2
   .rcases an.1 hz with rfl|hz
    .rw[enn]at hx;exact(inB e hx).2.2
    .exact sib z (bK _ hz) hx
 .rw[<-fH];exact hnod
 .have:=f.by_;show ao (a'++c'::n::b')<=302;omega
 .have VN:∀wt c,MD wt c->eC wt (di v2 (h+1) {y with l:=a'++c'::n::b'} up)+c<=eC wt (di v h x (y::up)):=λwt c hw=>by
   have h1:=hw h;have h2:=dF (decide (h=0)) la;have h3:=dF (decide (h=0)) lb;have e3:eC wt (di v2 (h+1) {y with l:=a'++c'::n::b'} up)=eC wt (ft v up (h+1))+(wt (h+1)*(ao (a'++c'::n::b')-151)+(eC wt (bw v h a')+((wt h*(ao (blank (decide (h=0)) la)-151)+eC wt (cI v h la))+((wt h*(ao (blank (decide (h=0)) lb)-151)+eC wt (cI v h lb))+eC wt (bw v h b')))+eC wt (dn v up (h+1)))):=by
    unfold di;show eC wt (ft v2 up (h+1)++(h+1,y.aq,a'++c'::n::b')::(bw v2 h (a'++c'::n::b')++dn v2 up (h+1)))=_;rw[xP,AQ,td];simp only[jE,eJ]
   have e4:eC wt (di v h x (y::up))=(eC wt (ft v up (h+1))+(wt (h+1)*(ao y.l-151)+eC wt (bw v h a')))+(wt h*(ao x.l-151)+((eC wt (cI v h la)+eC wt (cI v h lb))+(eC wt (bw v h b')+eC wt (dn v up (h+1))))):=by
    unfold di;simp only[dh,cK,dq,cL];rw[t1,t2];simp only[jE,eJ];rw[show cI v h x.l=cI v h la++cI v h lb by rw[hl,mo]];simp only[jE]
   have m1:wt (h+1)*(ao (a'++c'::n::b')-151)<=wt (h+1)*(ao y.l-151)+wt (h+1)*39:=by
    rw[<-qR];exact lU _ (by omega)
   have m2:wt h*(ao (blank (decide (h=0)) la)-151)+wt h*(ao (blank (decide (h=0)) lb)-151)+wt h*73<=wt h*(ao x.l-151):=by
    rw[<-qR,<-qR];exact lU _ (by omega)
   rw[e3,e4];omega
  have hHl:h+(y::up).length=h+1+up.length:=by simp;omega
  have hmemP:∀j,j∈bC (di v2 (h+1) {y with l:=a'++c'::n::b'} up)↔j∈bC (di v h x (y::up))\/j=(k:Nat):=λj=>by rw[rX.mem_iff];simp
  have hxin:x.aq∈bC (di v h x (y::up)):=by rw[fH];simp
  rw[hHl];refine⟨G.ok,?_,?_,λj hj=>?_,?_,λj h1 h3=>?_,λwt c hw=>?_,?_⟩
  .rw[G.en,kQ,kQ];show bZ (ft v2 up (h+1))++(bZ (bw v2 h (a'++c'::n::b'))++bZ (dn v2 up (h+1)))=_;rw[gS,fM,fM,dV,dV,dV];have q1:bw v2 h a'=bw v h a':=(hJ (λj hj=>lQ j (by simp only[dh,dq];rw[t1,df,dg];exact bK _ (ax _ hj)))).1
   have q2:bw v2 h b'=bw v h b':=(hJ (λj hj=>uQ j (by simp only[cK,cL];rw[t2,df];exact cd _ hj))).1;have q3:bZ (aM v2 h c'.aW)=gx v h la:=enc;have q4:bZ (aM v2 h n.aW)=gx v h lb:=enn;rw[q1,q2,q3,q4,AQ,td,hl,wJ];simp only[dh,cK,dq,cL];rw[t1,t2];simp
  .refine G.pg.trans ?_;refine(rX.append_right new).trans ?_;simp
  .rcases an.1 hj with rfl|hj
   .exact hvk
   .have:=G.fresh j hj;rw[hv j]at this
    .exact this
    .intro e;rw[e]at this;rw[this]at h2;exact absurd h2.1 (by decide)
    .intro e;rw[e]at this;rw[this]at h2;exact absurd h2.2 (by decide)
  .rw[gf];refine⟨λhm=>?_,G.IV⟩;have:=G.fresh _ hm;rw[this]at h2;exact absurd h2.2 (by decide)
  .rw[an,not_or]at h3;rw[G.o j (by rw[hmemP];rintro(h5|h5);exact h1 h5;exact h3.1 h5) h3.2];exact hv j (λe=>h1 (by rw[e];exact hxin)) h3.1
  .have p1:=G.IW wt c hw;have p2:=VN wt c hw;rw[fI,Nat.mul_succ];omega
  .refine G.h.imp id (λ⟨h5,h6⟩=>⟨h5,λwt c hw=>?_⟩);have p1:=h6 wt c hw;have p2:=VN wt c hw;omega
theorem grow_ok{v v3:Vw}{h:Nat}{x:Step}(P:Cf v h x []){la lb:List E}(hl:x.l=la++lb)(ha:la≠[])(hb:lb≠[])(ba:ao la<=223)(bb:ao lb<=223)(hs:(ao la-151)+(ao lb-151)+73<=ao x.l-151)
  {k1 k2:Nat}(hk1:k1<=511)(hk2:k2<=511)(mQ:v (k1:Nat)=([],3))(oe:v (k2:Nat)=([],3))(ff:k1≠k2)
  (uX:iG v3 (k1:Nat)=(decide (h=0),blank (decide (h=0)) la,0))(TV:iG v3 (k2:Nat)=(decide (h=0),blank (decide (h=0)) lb,0))
  (hd0:iG v3 0=(false,[⟨⟨#[]⟩,⟨#[]⟩,(k1:Nat)⟩,⟨keyOf lb,⟨#[]⟩,(k2:Nat)⟩],0))(hv:∀j:Int,j≠0->j≠(k1:Nat)->j≠(k2:Nat)->v3 j=v j):
  Grown v v3 h (h+1) (di v h x []) [(k1:Nat),(k2:Nat)]:=by
 have BR:x.aq=0:=P.hole;have hlk:=Dx P.ok;have hkin:=P.nin.2.1;have fu:=P.ok;rw[hl]at fu;obtain⟨sa,sb,s1,s2,s3⟩:=ta fu ha hb;have nk1:∀j,(v j).2=0->j≠(k1:Nat):=λj hj e=>by rw[e,mQ]at hj;exact absurd hj (by decide)
 have nk2:∀j,(v j).2=0->j≠(k2:Nat):=λj hj e=>by rw[e,oe]at hj;exact absurd hj (by decide)
 have IY:∀j∈bC (cI v h x.l),v3 j=v j:=λj hj=>hv j (by rw[<-BR];exact hkin j hj) (nk1 j (hlk j hj)) (nk2 j (hlk j hj));rw[hl,mo,df]at IY;obtain⟨ka1,ka2,ka3⟩:=kP (v:=v) (v':=v3) (h:=h) (l:=la) (λj hj=>IY j (cd _ hj));obtain⟨kb1,kb2,kb3⟩:=kP (v:=v) (v':=v3) (h:=h) (l:=lb) (λj hj=>IY j (bK _ hj));obtain⟨oa1,oa2,oa3⟩:=uO (ka3 sa) (ar (dF _ _) ba) uX
 obtain⟨ob1,ob2,ob3⟩:=uO (kb3 sb) (ar (dF _ _) bb) TV;rw[ka1]at oa2;rw[kb1]at ob2;rw[ka2]at oa3;rw[kb2]at ob3;have neA:=mq sa ha;have neB:=mq sb hb;have pH:sZ (mi v3 h) (gF v3 h) [⟨⟨#[]⟩,⟨#[]⟩,(k1:Nat)⟩,⟨keyOf lb,⟨#[]⟩,(k2:Nat)⟩]:=by
  refine⟨by simp,λe he=>?_,?_,λe he=>?_⟩
  .simp only[an,gX,or_false]at he
   rcases he with rfl|rfl
   .exact⟨oa1,by show gF v3 h _≠[];rw[oa3];exact neA⟩
   .exact⟨ob1,by show gF v3 h _≠[];rw[ob3];exact neB⟩
  .rw[ef];refine⟨λe he y hy=>?_,Ee _ _⟩;rw[aQ.1 he];have hy:y∈gF v3 h (k1:Nat):=hy;rw[oa3]at hy;exact s1 y hy
  .have he:e∈[(⟨keyOf lb,⟨#[]⟩,(k2:Nat)⟩:E)]:=he;rw[aQ.1 he];intro y hy;have hy:y∈gF v3 h (k2:Nat):=hy;rw[ob3]at hy;exact s2 y hy
 have hbyt:ao [(⟨⟨#[]⟩,⟨#[]⟩,(k1:Nat)⟩:E),⟨keyOf lb,⟨#[]⟩,(k2:Nat)⟩]<=46:=by
  rw[eG,eG];show 0+0+7+((keyOf lb).size+0+7+0)<=46;omega
 have hO:mi v3 (h+1) 0:=⟨by rw[hd0],by rw[hd0];exact ar hbyt (by decide),by rw[hd0];rfl,by rw[hd0];exact pH⟩;have hns:aM v3 (h+1) 0=(h+1,0,[⟨⟨#[]⟩,⟨#[]⟩,(k1:Nat)⟩,⟨keyOf lb,⟨#[]⟩,(k2:Nat)⟩])::(((h,((k1:Nat):Int),blank (decide (h=0)) la)::cI v h la)++((h,((k2:Nat):Int),blank (decide (h=0)) lb)::cI v h lb)):=by
  rw[pf,hd0];show _::bw v3 h _=_;rw[fM,fM,QW,iJ,<-oa2,<-ob2]
 have Ny:di v h x []=(h,0,x.l)::cI v h x.l:=by unfold di;simp only[dh,cK,dq,cL];rw[BR];simp
 refine⟨hO,?_,?_,λj hj=>?_,?_,λj h1 h2=>?_,λwt c hw=>?_,.inr ⟨rfl,λwt c hw=>?_⟩⟩
 .unfold gF;rw[hns,kN,dV,<-oa2,<-ob2,kQ];simp only[dh,cK,dq,cL];rw[hl,wJ];show gF v3 h _++gF v3 h _=_;rw[oa3,ob3];simp
 .rw[hns,Ny,hl,mo,Ef];intro j;simp only[dg,df,JE,JF,List.count_nil];omega
 .simp only[an,gX,or_false]at hj
  rcases hj with rfl|rfl
  .exact mQ
  .exact oe
 .rw[gf];refine⟨λhm=>?_,by simp⟩;have:=aQ.1 hm;omega
 .rw[Ny]at h1;simp only[dg,an,not_or,gX,or_false]at h1 h2;exact hv j h1.1 h2.1 h2.2
 .have h1:=hw h;have h2:=dF (decide (h=0)) la;have h3:=dF (decide (h=0)) lb;rw[hns,Ny,hl,mo,if_neg (by omega)];simp only[eJ,jE];rw[<-hl];have m2:wt h*(ao (blank (decide (h=0)) la)-151)+wt h*(ao (blank (decide (h=0)) lb)-151)+wt h*73<=wt h*(ao x.l-151):=by
   rw[<-qR,<-qR];exact lU _ (by omega)
  have m3:wt (h+1)*(ao [(⟨⟨#[]⟩,⟨#[]⟩,(k1:Nat)⟩:E),⟨keyOf lb,⟨#[]⟩,(k2:Nat)⟩]-151)=0:=by
   rw[Nat.sub_eq_zero_of_le (ar hbyt (by decide)),tT]
  rw[m3];show _+c*2<=_;omega
 .rw[Ny,eJ];show 73*wt h<=wt h*(ao x.l-151)+_;have:wt h*73<=wt h*(ao x.l-151):=lU _ (by omega);omega
section
variable{o:Vw}{mm:Nat}
theorem xQ:∀(m:Nat) (up:List Step) (h:Nat) (x:Step) (q:QS) (v:Vw) (u:Nat),up.length<m->Cf v h x up->Rd q v o u mm->
  ((gm m (x::up) q).2=11/\∃v' u',Rd (gm m (x::up) q).1 v' o u' mm/\u'<=u+up.length+2/\(mm<=u'\/512<=u'))\/
  ((gm m (x::up) q).2=0/\∃v' new H',Rd (gm m (x::up) q).1 v' o (u+new.length) mm/\Grown v v' (h+up.length) H' (di v h x up) new)
 |0,up,h,x,q,v,u,hm,P,R=>absurd hm (by omega)
 |m+1,up,h,x,q,v,u,hm,P,R=>by
  have hbk:=P.bk;have sJ:=P.leaf;rw[sJ]at hbk
  by_cases hT:ao x.l<=223
  .have qz:=uP P.ok (by rw[hbk];exact hT);rw[<-sJ]at qz;have e:gm (m+1) (x::up) q=q.db x.aq x.leaf x.l:=by
    unfold gm;rw[if_pos (.inr qz)]
   rw[e]
   rcases R.write P.here qz with⟨w1,w2⟩|⟨w1,w2,w3⟩
   .refine .inr ⟨w1,_,[],_,w2,QY P hT ?_ (λj hj=>?_)⟩
    .rw[gq qz,if_pos rfl,sJ,hbk]
    .unfold jP;rw[if_neg hj]
   .exact .inl ⟨w1,_,u,w2,by omega,.inl w3⟩
  .have IB:=MB P.ok (by rw[hbk];omega);rw[<-sJ]at IB;have ew:q.db x.aq x.leaf x.l=(q,11):=by rw[QV q x.aq (by rw[IB];decide),IB]
   obtain⟨la,lb,e1,e2,e3,ha,hb,ba,bb,hs⟩:=QX P.cost (by omega) P.sz;have fu:=P.ok;rw[e1]at fu;obtain⟨sa,sb,s1,s2,s3⟩:=ta fu ha hb;have la0:(bH x.leaf la).2=0:=by rw[sJ];exact uP sa (ar (dF _ _) ba)
   have lb0:(bH x.leaf lb).2=0:=by rw[sJ];exact uP sb (ar (dF _ _) bb)
   cases up with
   |nil=>
    have BR:x.aq=0:=P.hole;have e:gm (m+1) [x] q=q.Az x.leaf la lb:=by
     unfold gm;rw[ew,if_neg (by rw[IB];simp)];dsimp only;rw[e2,e3]
    rw[e];unfold QS.Az
    rcases R.make la0 with⟨k1,a1,a2,a3,a4⟩|⟨a1,a2,a3⟩
    .rw[a1,if_neg (by simp)];dsimp only
     rcases a4.make lb0 with⟨k2,b1,b2,b3,b4⟩|⟨b1,b2,b3⟩
     .rw[b1,if_neg (by simp)];dsimp only;have ff:k1≠k2:=λe=>by
       unfold jP at b3;rw[e,if_pos rfl]at b3;exact absurd (congrArg Prod.snd b3) (by show ¬(0:Int)=3;decide)
      have oe:v (k2:Nat)=([],3):=by
       unfold jP at b3;rw[if_neg (by omega)]at b3;exact b3
      have Nu:(v 0).2=0:=by have h0:=P.here;rw[BR]at h0;exact h0
      have h0k1:(0:Int)≠(k1:Nat):=λe=>by rw[<-e]at a3;rw[a3]at Nu;exact absurd Nu (by simp)
      have h0k2:(0:Int)≠(k2:Nat):=λe=>by rw[<-e]at oe;rw[oe]at Nu;exact absurd Nu (by simp)
      have hL:(bH false [⟨⟨#[]⟩,⟨#[]⟩,(k1:Nat)⟩,⟨keyOf lb,⟨#[]⟩,(k2:Nat)⟩]).2=0:=by
       rcases nX false [⟨⟨#[]⟩,⟨#[]⟩,(k1:Nat)⟩,⟨keyOf lb,⟨#[]⟩,(k2:Nat)⟩]with h1|h1|h1
       .exact h1.2.2.1
       .have h2:=h1.2.1;have h3:blank false [(⟨⟨#[]⟩,⟨#[]⟩,(k1:Nat)⟩:E),⟨keyOf lb,⟨#[]⟩,(k2:Nat)⟩]=[⟨⟨#[]⟩,⟨#[]⟩,(k1:Nat)⟩,⟨keyOf lb,⟨#[]⟩,(k2:Nat)⟩]:=rfl;rw[h3,eG,eG]at h2;have h4:0+0+7+((keyOf lb).size+0+7+0)>223:=h2;omega
       .exfalso;refine h1.1 ?_;show dN [(⟨⟨#[]⟩,⟨#[]⟩,(k1:Nat)⟩:E),⟨keyOf lb,⟨#[]⟩,(k2:Nat)⟩] false;refine My (λz hz=>?_) ?_
        .simp only[an,gX,or_false]at hz
         rcases hz with rfl|rfl
         .exact⟨aY _,aY _,by show(if false=true then(-1:Int)else 0)<=((k1:Nat):Int);rw[if_neg (by simp)];omega,by show((k1:Nat):Int)<512;omega,.inr rfl⟩
         .exact⟨s3,aY _,by show(if false=true then(-1:Int)else 0)<=((k2:Nat):Int);rw[if_neg (by simp)];omega,by show((k2:Nat):Int)<512;omega,.inr rfl⟩
        .rw[ef];refine⟨λz hz=>?_,Ee _ _⟩;rw[aQ.1 hz];obtain⟨y,hy⟩:=vf _ (mq sa ha);exact jk (wI y.key) (s1 y hy)
      have kx:(jP (jP v (k1:Nat) (bH x.leaf la).1) (k2:Nat) (bH x.leaf lb).1 0).2=0:=by
       rw[l5 _ _ h0k2,l5 _ _ h0k1];exact Nu
      rcases b4.write kx hL with⟨c1,c2⟩|⟨c1,c2,c3⟩
      .refine .inr ⟨c1,_,[(k1:Nat),(k2:Nat)],h+1,c2,?_⟩;refine grow_ok P e1 ha hb ba bb hs a2 b2 a3 oe ff ?_ ?_ ?_ (λj j1 j2 j3=>?_)
       .rw[gq hL,if_neg (λe=>h0k1 e.symm),gq lb0,if_neg (by omega),gq la0,if_pos rfl,sJ]
       .rw[gq hL,if_neg (λe=>h0k2 e.symm),gq lb0,if_pos rfl,sJ]
       .rw[gq hL,if_pos rfl];rfl
       .rw[l5 _ _ j1,l5 _ _ j3,l5 _ _ j2]
      .exact .inl ⟨c1,_,_,c2,by simp,.inl c3⟩
     .rw[b1,if_pos (by simp)];exact .inl ⟨rfl,_,u+1+1,b2,by simp,b3.imp (λh=>by omega) (λh=>by omega)⟩
    .rw[a1,if_pos (by simp)];exact .inl ⟨rfl,_,u+1,a2,by omega,a3.imp (λh=>by omega) (λh=>by omega)⟩
   |cons y up=>
    have e:gm (m+1) (x::y::up) q=if(q.eB x.leaf lb).2.2≠0 then((q.eB x.leaf lb).1,(q.eB x.leaf lb).2.2)
      else if((q.eB x.leaf lb).1.db x.aq x.leaf la).2≠0 then(q.eB x.leaf lb).1.db x.aq x.leaf la
      else gm m ({y with l:=y.l.insertIdx (y.at_+1) ⟨keyOf lb,⟨#[]⟩,(q.eB x.leaf lb).2.1⟩}::up) ((q.eB x.leaf lb).1.db x.aq x.leaf la).1:=by
     rw[gm,ew,if_neg (by rw[IB];simp)];dsimp only;rw[e2,e3]
    rw[e]
    rcases R.make lb0 with⟨k,a1,a2,a3,a4⟩|⟨a1,a2,a3⟩
    .rw[a1,if_neg (by simp)];dsimp only;have hxk:x.aq≠(k:Nat):=λe=>by have h0:=P.here;rw[e,a3]at h0;exact absurd h0 (by decide)
     have hz:(jP v (k:Nat) (bH x.leaf lb).1 x.aq).2=0:=by
      unfold jP;rw[if_neg hxk];exact P.here
     rcases a4.write hz la0 with⟨c1,c2⟩|⟨c1,c2,c3⟩
     .rw[if_neg (by rw[c1];simp)];obtain⟨P2,hG⟩:=pend_up (v2:=jP (jP v (k:Nat) (bH x.leaf lb).1) x.aq (bH x.leaf la).1) P e1 ha hb ba bb hs a2 a3 (by rw[gq la0,if_pos rfl,sJ]) (by rw[gq la0,if_neg (λe=>hxk e.symm),gq lb0,if_pos rfl,sJ])
       (λj j1 j2=>by unfold jP;rw[if_neg j1,if_neg j2]) ⟨by unfold jP;rw[if_pos rfl],by unfold jP;rw[if_neg (λe=>hxk e.symm),if_pos rfl]⟩
      rcases xQ m up (h+1) _ _ _ (u+1) (by simp at hm;omega) P2 c2 with⟨d1,v',u',d2,d3,d4⟩|⟨d1,v',new,H',d2,d3⟩
      .exact .inl ⟨d1,v',u',d2,by simp;omega,d4⟩
      .refine .inr ⟨d1,v',(k:Nat)::new,H',?_,hG d3⟩;rw[fI,show u+(new.length+1)=u+1+new.length by omega];exact d2
     .rw[if_pos (by rw[c1];simp)];exact .inl ⟨c1,_,_,c2,by omega,.inl c3⟩
    .rw[a1,if_pos (by simp)];exact .inl ⟨rfl,_,u+1,a2,by omega,a3.imp (λh=>by omega) (λh=>by omega)⟩
end
open Nd (E)
variable{v v':Vw}{q:QS}{u:Nat}{L:List Int}{e:E}{val:ByteArray}
def rdC(v:Vw)(l:Int):Int×List UInt8×Int:=
 if(v l).2≠0 then(0,[],(v l).2)else if 228<bS (v l).1 2 then(0,[],14)else((bS (v l).1 0:Int)-1,((v l).1.drop 4).take (bS (v l).1 2),0)
def Q3(v:Vw):Int->List Int->List UInt8->Prop
 |p,[],b=>p= -1/\b=[]
 |p,q::L,b=>p=q/\∃nx pc b',rdC v q=(nx,pc,0)/\b=pc++b'/\Q3 v nx L b'
theorem rdC_ok{q nx:Int}{pc:List UInt8}(h:rdC v q=(nx,pc,0)):(v q).2=0:=by
 unfold rdC at h
 by_cases h0:(v q).2=0
 .exact h0
 .rw[if_pos h0,Prod.mk.injEq,Prod.mk.injEq]at h;exact absurd h.2.2 h0
theorem Q4{q:Int}(h:v' q=v q):rdC v' q=rdC v q:=by unfold rdC;rw[h]
theorem Q3.here :∀{L:List Int} {p:Int} {b:List UInt8},Q3 v p L b->∀q∈L,(v q).2=0
 |[],_,_,_=>by simp
 |q::L,p,b,h=>by
  obtain⟨rfl,nx,pc,b',h1,h2,h3⟩:=h;intro x hx
  rcases an.1 hx with rfl|hx
  .exact rdC_ok h1
  .exact h3.here x hx
theorem Q3.congr :∀{L:List Int} {p:Int} {b:List UInt8},Q3 v p L b->(∀q∈L,v' q=v q)->Q3 v' p L b
 |[],_,_,h,_=>h
 |q::L,p,b,h,e=>by
  obtain⟨rfl,nx,pc,b',h1,h2,h3⟩:=h;exact⟨rfl,nx,pc,b',by rw[Q4 (e p (fY ..))];exact h1,h2,h3.congr (λx hx=>e x (ax _ hx))⟩
section
variable{o:Vw}{mm:Nat}
theorem Q3.neg(R:Rd q v o u mm){p:Int}{b:List UInt8}(h:Q3 v p L b):p<0↔L=[]:=by
 cases L with
 |nil=>obtain⟨rfl,rfl⟩:=h;exact⟨λ_=>rfl,λ_=>by omega⟩
 |cons q L=>
  have:=R.lt (h.here q (fY ..));obtain⟨rfl,_⟩:=h;exact⟨λh=>by omega,λh=>absurd h (by simp)⟩
theorem Rd.fq(R:Rd q v o u mm)(p:Int):Rd (q.fq p).1 v o u mm/\((q.fq p).2=rdC v p\/((q.fq p).2=(0,[],11)/\mm<=u)):=by
 obtain⟨a,b⟩:=R.get p;unfold QS.fq rdC
 rcases b with⟨b1,b2⟩|⟨b1,b2⟩|⟨b1,b2⟩
 .rw[b2,if_neg (show ¬((⟨(v p).1.toArray⟩:ByteArray),(0:Int)).2≠0 by simp),if_neg (show ¬(v p).2≠0 by omega)]
  by_cases hx:228<bS (v p).1 2
  .have Rw:228<bS (⟨(v p).1.toArray⟩:ByteArray).data.toList 2:=hx;rw[if_pos Rw,if_pos hx];exact⟨a,.inl rfl⟩
  .have Rw:¬228<bS (⟨(v p).1.toArray⟩:ByteArray).data.toList 2:=hx;rw[if_neg Rw,if_neg hx];exact⟨a,.inl rfl⟩
 .rw[b2,b1,if_pos (by simp),if_pos (by simp)];exact⟨a,.inl rfl⟩
 .rw[b1,if_pos (by simp)];exact⟨a,.inr ⟨rfl,b2⟩⟩
theorem tg:∀{L:List Int} {p:Int} {b:List UInt8} (m:Nat) (l:List Int) (acc:List UInt8) (q:QS) (v:Vw) (u:Nat),Rd q v o u mm->Q3 v p L b->L≠[]->L.length<=m->(acc++b).length<=1024->
  Rd (q.py m p l acc).1 v o u mm/\((q.py m p l acc).2=(l++L,acc++b,0)\/((q.py m p l acc).2=([],[],11)/\mm<=u))
 |[],_,_,_,_,_,_,_,_,_,_,h,_,_=>absurd rfl h
 |c::L,p,b,0,_,_,_,_,_,_,_,_,h,_=>by simp at h
 |c::L,p,b,m+1,l,acc,q,v,u,R,h,_,hm,hb=>by
  obtain⟨rfl,nx,pc,b',h1,rfl,h3⟩:=h;obtain⟨r1,r2⟩:=R.fq p;unfold QS.py
  rcases r2 with r2|⟨r2,r3⟩
  .rw[h1]at r2;rw[r2];dsimp only;rw[if_neg (by omega),if_neg (by omega),if_neg (by simp at hb ⊢;omega)];have EV:=h3.neg R
   by_cases hn:nx<0
   .have hL:=EV.1 hn;subst hL;obtain⟨_,rfl⟩:=h3;rw[if_pos hn,iJ];exact⟨r1,.inl rfl⟩
   .have hL:L≠[]:=λe=>hn (EV.2 e);rw[if_neg hn];obtain⟨i1,i2⟩:=tg m (l++[p]) (acc++pc) (q.fq p).1 v u r1 h3 hL (by simpa using hm) (by simpa [cr]using hb);refine⟨i1,i2.imp (λe=>?_) id⟩;rw[e];simp
  .rw[r2];dsimp only;rw[if_neg (by omega),if_pos (by omega)];exact⟨r1,.inr ⟨rfl,r3⟩⟩
def mL(v:Vw)(L:List Int):Vw:=λj=>if j∈L then([],3)else v j
theorem AR(v:Vw):mL v []=v:=by funext j;simp[mL]
theorem AS:∀(L:List Int) (q:QS) (v:Vw) (u:Nat),Rd q v o u mm->L.Nodup->(∀j∈L,(v j).2=0)->(q.uz L).2=0/\Rd (q.uz L).1 (mL v L) o u mm
 |[],q,v,u,R,_,_=>by rw[AR];exact⟨rfl,R⟩
 |p::L,q,v,u,R,hn,hh=>by
  rw[gf]at hn;obtain⟨a,b⟩:=R.drop p (hh p (by simp));unfold QS.uz;rw[if_neg (by rw[a];simp)];obtain⟨c,d⟩:=AS L (q.aV p).1 _ u b hn.2 (λj hj=>by
   have ff:j≠p:=λe=>hn.1 (by rw[<-e];exact hj);rw[FJ v ff];exact hh j (by simp[hj]))
  refine⟨c,?_⟩;have e:mL (FI v p) L=mL v (p::L):=by
   funext j
   unfold mL FI
   by_cases h1:j∈L
   .rw[if_pos h1,if_pos (by simp[h1])]
   .rw[if_neg h1]
    by_cases h2:j=p
    .rw[if_pos h2,if_pos (by simp[h2])]
    .rw[if_neg h2,if_neg (by simp[h1,h2])]
  rw[<-e];exact d
theorem Rd.dropAny(R:Rd q v o u mm)(p:Int):∃v',Rd (q.aV p).1 v' o u mm:=by
 rcases R.err p with h|h
 .exact⟨_,(R.drop p h).2⟩
 .obtain⟨n,K,w⟩:=R.w;obtain⟨a,c⟩:=w.drop p
  rcases c with⟨c1,c2,c3⟩|⟨c1,c2,c3⟩
  .rw[R.v,h]at c1;exact absurd c1 (by decide)
  .exact⟨v,R.step (IG q p) ⟨n,_,a.w⟩ (λj=>(c3 j).trans (R.v j))⟩
theorem xR:∀(L:List Int) (q:QS) (v:Vw) (u:Nat),Rd q v o u mm->∃v',Rd (q.m7 L) v' o u mm
 |[],q,v,u,R=>⟨v,R⟩
 |p::L,q,v,u,R=>by
  obtain⟨v1,R1⟩:=R.dropAny p;rw[QS.uA];exact xR L _ _ _ R1
theorem link_rd(next:Nat)(v:List UInt8)(i:Nat)(hn:next<60000):(kq v i ((next:Int)-1)).length<=232/\bS (eP (kq v i ((next:Int)-1)) 232) 0=next/\bS (eP (kq v i ((next:Int)-1)) 232) 2=(dZ v i).length/\((eP (kq v i ((next:Int)-1)) 232).drop 4).take (dZ v i).length=dZ v i:=by
 have hp:(dZ v i).length<=228:=by unfold dZ;rw[bm];omega
 unfold kq eP;rw[show((next:Int)-1+1).toNat=next by omega];generalize dZ v i=pc at *;unfold qc bS;refine⟨by simp;omega,?_,?_,?_⟩
 .simp;omega
 .simp;omega
 .simp
theorem Q5(v:List UInt8)(i:Nat):(dZ v i).length<=228:=by unfold dZ;rw[bm];omega
theorem MI(v:List UInt8)(i:Nat):v.drop (228*i)=dZ v i++v.drop (228*(i+1)):=by
 unfold dZ;rw[show 228*(i+1)=228*i+228 by omega,<-iK,kT]
theorem Dz(val:List UInt8):∀(i:Nat) (q:QS) (v:Vw) (u:Nat) (next:Int) (made:List Int) (L:List Int),Rd q v o u mm->Q3 v next L (val.drop (228*i))-> -1<=next->next<=511->
  ((QS.sL val i q next made).2.2=11/\∃v' u',Rd (QS.sL val i q next made).1 v' o u' mm/\u'<=u+i/\(mm<=u'\/512<=u'))\/
  ((QS.sL val i q next made).2.2=0/\ -1<=(QS.sL val i q next made).2.1/\(QS.sL val i q next made).2.1<=511/\∃v' new,Rd (QS.sL val i q next made).1 v' o (u+new.length) mm/\Q3 v' (QS.sL val i q next made).2.1 (new++L) val/\new.length=i/\(∀j∈new,v j=([],3))/\new.Nodup/\∀j,j∉new->v' j=v j)
 |0,q,v,u,next,made,L,R,hc,h1,h2=>by
  right;exact⟨rfl,h1,h2,v,[],R,hc,rfl,by simp,ou,λ_ _=>rfl⟩
 |i+1,q,v,u,next,made,L,R,hc,h1,h2=>by
  obtain⟨nx,rfl⟩:∃nx:Nat,next=(nx:Int)-1:=⟨(next+1).toNat,by omega⟩;obtain⟨k1,k2,k3,k4⟩:=link_rd nx val i (by omega);unfold QS.sL;have hn:=R.new ⟨(kq val i ((nx:Int)-1)).toArray⟩ (by show(kq val i _).toArray.size<=232;rw[lS];exact k1);have hd:(⟨(kq val i ((nx:Int)-1)).toArray⟩:ByteArray).data.toList=kq val i ((nx:Int)-1):=rfl;rw[hd]at hn
  rcases hn with⟨k,a1,a2,a3,a4⟩|⟨a1,a2,a3⟩
  .rw[if_neg (by rw[a1];simp),show(q.bV (kq val i ((nx:Int)-1))).2.1=((k:Nat):Int)from by rw[a1]];have hch:Q3 (jP v (k:Nat) (eP (kq val i ((nx:Int)-1)) 232)) (k:Nat) ((k:Nat)::L) (val.drop (228*i)):=by
    refine⟨rfl,(nx:Int)-1,dZ val i,val.drop (228*(i+1)),?_,MI val i,hc.congr (λx hx=>?_)⟩
    .unfold rdC;have x6:=Q5 val i;rw[Dv,if_neg (by simp)];dsimp only;rw[k3,if_neg (by omega),k2,k4]
    .have ET:=hc.here x hx;have ff:x≠((k:Nat):Int):=λe=>by rw[e,a3]at ET;exact absurd ET (by decide)
     exact l5 v _ ff
   rcases Dz val i _ _ (u+1) ((k:Nat):Int) (made++[((k:Nat):Int)]) ((k:Nat)::L) a4 hch (by omega) (by omega)with⟨b1,v',u',b2,b3,b4⟩|⟨b1,b2,b3,v',new,b4,b5,b6,b7,b8,b9⟩
   .exact .inl ⟨b1,v',u',b2,by omega,b4⟩
   .refine .inr ⟨b1,b2,b3,v',new++[((k:Nat):Int)],by rw[aU,mS,show u+(new.length+1)=u+1+new.length by omega];exact b4,by rw[cr];exact b5,by simp[b6],λj hj=>?_,?_,λj hj=>?_⟩
    .rcases aC.1 hj with hj|hj
     .have h3:=b7 j hj
      by_cases e:j=((k:Nat):Int)
      .rw[e];exact a3
      .rw[l5 v _ e]at h3;exact h3
     .rw[aQ.1 hj];exact a3
    .rw[iu];refine⟨b8,by simp,λx hx y hy e=>?_⟩;rw[aQ.1 hy]at e;have h3:=b7 x hx;rw[e,Dv]at h3;exact absurd (congrArg Prod.snd h3) (by show ¬(0:Int)=3;decide)
    .rw[aC,not_or]at hj;rw[b9 j hj.1,l5 v _ (λe=>hj.2 (by simp[e]))]
  .rw[if_pos (by rw[a1];simp)];left;obtain⟨v1,R1⟩:=xR made _ _ _ a2;exact⟨by show(q.bV _).2.2=11;rw[a1],v1,u+1,R1,by omega,a3.imp (λh=>by omega) (λh=>by omega)⟩
def RF(v:Vw)(e:E)(val:ByteArray)(L:List Int):Prop:=
 (e.aW= -1/\e.val=val/\L=[]/\val.size<=40)\/(0<=e.aW/\e.aW<=511/\e.val.size=0/\L≠[]/\L.length=(ik val.size).toNat/\40<val.size/\val.size<=1024/\Q3 v e.aW L val.data.toList/\L.Nodup)
theorem yE{n:Nat}(h:n<=1024):1<=(ik n).toNat/\(ik n).toNat<=5/\n<=228*(ik n).toNat:=by
 unfold ik;omega
theorem RF.congr(h:RF v e val L)(hv:∀j∈L,v' j=v j):RF v' e val L:=by
 rcases h with h|⟨a,b,z,c,d,f,g,i,j⟩
 .exact .inl h
 .exact .inr ⟨a,b,z,c,d,f,g,i.congr hv,j⟩
theorem RF.here(h:RF v e val L):∀j∈L,(v j).2=0:=by
 rcases h with⟨_,_,h,_⟩|⟨a,b,z,c,d,f,g,i,j⟩
 .rw[h];simp
 .exact i.here
theorem RF.nodup(h:RF v e val L):L.Nodup:=by
 rcases h with⟨_,_,h,_⟩|⟨a,b,z,c,d,f,g,i,j⟩
 .rw[h];exact ou
 .exact j
theorem th(R:Rd q v o u mm)(h:RF v e val L):
  Rd (q.fL e).1 v o u mm/\((q.fL e).2=(val,0)\/((q.fL e).2.2=11/\mm<=u)):=by
 unfold QS.fL
 rcases h with⟨a,b,c,d⟩|⟨a,b,z,c,d,f,g,i,j⟩
 .rw[if_pos (by omega)];exact⟨R,.inl (by rw[b])⟩
 .rw[if_neg (by omega)];have hn:=yE g;have hs:val.data.toList.length=val.size:=by simp
  obtain⟨w1,w2⟩:=tg 5 [] [] q v u R i c (by omega) (by rw[cW,hs];exact g);refine⟨w1,?_⟩;unfold QS.eQ
  rcases w2 with w2|⟨w2,w3⟩
  .left;rw[w2];rfl
  .right;rw[w2];exact⟨rfl,w3⟩
theorem DB(R:Rd q v o u mm)(h:RF v e val L):
  ((q.qv e).2=0/\Rd (q.qv e).1 (mL v L) o u mm)\/((q.qv e).2=11/\Rd (q.qv e).1 v o u mm/\mm<=u):=by
 unfold QS.qv
 rcases h with⟨a,b,c,d⟩|⟨a,b,z,c,d,f,g,i,j⟩
 .rw[if_pos (by omega),c,AR];exact .inl ⟨rfl,R⟩
 .rw[if_neg (by omega)];have hn:=yE g;have hs:val.data.toList.length=val.size:=by simp
  obtain⟨w1,w2⟩:=tg 5 [] [] q v u R i c (by omega) (by rw[cW,hs];exact g);unfold QS.qe;have w1:Rd (q.eQ e.aW).1 v o u mm:=w1
  rcases w2 with w2|⟨w2,w3⟩
  .have w2:(q.eQ e.aW).2=([]++L,[]++val.data.toList,0):=w2;rw[w2,if_neg (by simp)];obtain⟨d1,d2⟩:=AS L (q.eQ e.aW).1 v u w1 j i.here;left;refine⟨?_,d2⟩;show yf ((q.eQ e.aW).1.uz L).2=0;rw[d1];decide
  .have w2:(q.eQ e.aW).2=([],[],11):=w2;rw[w2,if_pos (by simp)];exact .inr ⟨(by decide:yf 11=11),w1,w3⟩
theorem Q6(R:Rd q v o u mm)(key val:ByteArray)(hv:val.size<=1024):
  ((q.jq key val).2.2=11/\∃v' u',Rd (q.jq key val).1 v' o u' mm/\u'<=u+5/\(mm<=u'\/512<=u'))\/
  ((q.jq key val).2.2=0/\∃v' L,Rd (q.jq key val).1 v' o (u+L.length) mm/\RF v' (q.jq key val).2.1 val L/\(q.jq key val).2.1.key=key/\(∀j∈L,v j=([],3))/\∀j,j∉L->v' j=v j):=by
 unfold QS.jq
 by_cases h:val.size<=40
 .rw[if_pos h];exact .inr ⟨rfl,v,[],R,.inl ⟨rfl,rfl,rfl,h⟩,rfl,by simp,λ_ _=>rfl⟩
 .rw[if_neg h];have hn:=yE hv;have hs:val.data.toList.length=val.size:=by simp
  have he:q.qf val.data.toList=QS.sL val.data.toList (ik val.size).toNat q (-1) []:=by
   unfold QS.qf;rw[if_neg (by omega),hs]
  rw[he]
  rcases Dz val.data.toList (ik val.size).toNat q v u (-1) [] [] R ⟨rfl,lJ (by omega)⟩ (by omega) (by omega)with⟨a1,v',u',a2,a3,a4⟩|⟨a1,a2,a3,v',new,a4,a5,a6,a7,a8,a9⟩
  .exact .inl ⟨a1,v',u',a2,by omega,a4⟩
  .rw[iJ]at a5;have ff:new≠[]:=λe=>by rw[e]at a6;simp at a6;omega
   have hp:¬(QS.sL val.data.toList (ik val.size).toNat q (-1) []).2.1<0:=λh=>ff ((a5.neg a4).1 h);exact .inr ⟨a1,v',new,a4,.inr ⟨Int.not_lt.1 hp,a3,rfl,ff,a6,by omega,hv,a5,a8⟩,rfl,a7,a9⟩
end
variable{v:Vw}{H:Nat}{key:ByteArray}{up:List Step}{x:Step}
abbrev MT:=E×ByteArray×List Int
def pJ(M:List MT):List Int:=M.flatMap λm=>m.2.2
def kz(M:List MT):List (ByteArray×ByteArray):=M.map λm=>(m.1.key,m.2.1)
@[simp] theorem fP(a b:List MT):pJ (a++b)=pJ a++pJ b:=by simp[pJ]
@[simp] theorem Oi:pJ []=[]:=rfl
@[simp] theorem mM(m:MT)(b:List MT):pJ (m::b)=m.2.2++pJ b:=rfl
@[simp] theorem Oj(a b:List MT):kz (a++b)=kz a++kz b:=by simp[kz]
@[simp] theorem prs_nil:kz []=[]:=rfl
@[simp] theorem I0(m:MT)(b:List MT):kz (m::b)=(m.1.key,m.2.1)::kz b:=rfl
structure Tree(v:Vw)(H:Nat)(M:List MT):Prop where
 ok:mi v H 0
 en:M.map (λm=>m.1)=gF v H 0
 va:∀m∈M,RF v m.1 m.2.1 m.2.2
 IV:(bC (aM v H 0)++pJ M).Nodup
 all:∀j,(v j).2=0->j∈bC (aM v H 0)++pJ M
structure MJ(l:List (ByteArray×ByteArray))(key:ByteArray)(A C B:List (ByteArray×ByteArray)):Prop where
 e:l=A++(C++B)
 a:∀x∈A,fR x.1 key
 b:∀x∈B,fR key x.1
 c:C=[]\/∃y,C=[(key,y)]
structure Dec(v:Vw)(key:ByteArray)(up:List Step)(x:Step)(M M1 MC M2:List MT)(a b:List E):Prop where
 n:bl x.l key=a.length
 l:x.l=a++(MC.map (λm=>m.1)++b)
 m:M=M1++(MC++M2)
 m1:M1.map (λm=>m.1)=bZ (ft v up 0)++a
 m2:M2.map (λm=>m.1)=b++bZ (dn v up 0)
 k1:∀m∈M1,fR m.1.key key
 k2:∀m∈M2,fR key m.1.key
 c:(MC=[]/\cF x.l key=false)\/∃m,MC=[m]/\m.1.key=key/\cF x.l key=true
theorem AU{M:List MT}(T:Tree v H M)(W:WayV v key up x)(hl:up.length=H):∃M1 MC M2 a b,Dec v key up x M M1 MC M2 a b:=by
 obtain⟨p1,p2,p3,p4,p5⟩:=AN W;rw[hl]at p5;have nW:=T.en;rw[p5]at nW;obtain⟨a,b,h1,h2,h3,h4⟩:=AM (ph W.nd) key;have main:∀(c b':List E),b=c++b'->(∀e∈b',fR key e.key)->∃M1 MC M2,M=M1++(MC++M2)/\M1.map (λm=>m.1)=bZ (ft v up 0)++a/\MC.map (λm=>m.1)=c/\M2.map (λm=>m.1)=b'++bZ (dn v up 0)/\(∀m∈M1,fR m.1.key key)/\(∀m∈M2,fR key m.1.key):=λc b' hb hb'=>by
  have Mu:M.map (λm=>m.1)=(bZ (ft v up 0)++a)++(c++(b'++bZ (dn v up 0))):=by rw[nW,h1,hb];simp
  obtain⟨M1,MR,e1,e2,e3⟩:=List.map_eq_append_iff.1 Mu;obtain⟨MC,M2,e4,e5,e6⟩:=List.map_eq_append_iff.1 e3;refine⟨M1,MC,M2,by rw[e1,e4],e2,e5,e6,λm hm=>?_,λm hm=>?_⟩
  .have:m.1∈bZ (ft v up 0)++a:=by rw[<-e2];exact dC.2 ⟨m,hm,rfl⟩
   rcases aC.1 this with h|h
   .exact p3 _ h
   .exact h3 _ h
  .have:m.1∈b'++bZ (dn v up 0):=by rw[<-e6];exact dC.2 ⟨m,hm,rfl⟩
   rcases aC.1 this with h|h
   .exact hb' _ h
   .exact p4 _ h
 rcases h4 with⟨h4,c,b',hb,hc,hb'⟩|⟨h4,hb⟩
 .obtain⟨M1,MC,M2,e1,e2,e3,e4,e5,e6⟩:=main [c] b' (by rw[hb];rfl) hb';have hMC:∃m,MC=[m]/\m.1=c:=by
   match MC,e3 with
   |[m],e3=>exact⟨m,rfl,by simpa using e3⟩
   |[],e3=>exact absurd e3 (by simp)
   |_::_::_,e3=>exact absurd e3 (by simp)
  obtain⟨m,rfl,rfl⟩:=hMC;exact⟨M1,[m],M2,a,b',h2,by rw[h1,hb];simp,e1,e2,e4,e5,e6,.inr ⟨m,rfl,hc,h4⟩⟩
 .obtain⟨M1,MC,M2,e1,e2,e3,e4,e5,e6⟩:=main [] b rfl hb;have hMC:MC=[]:=List.map_eq_nil_iff.1 e3;subst hMC;exact⟨M1,[],M2,a,b,h2,by rw[h1];simp,e1,e2,e4,e5,e6,.inl ⟨rfl,h4⟩⟩
theorem Dec.VP{M M1 MC M2:List MT}{a b:List E}(d:Dec v key up x M M1 MC M2 a b):MJ (kz M) key (kz M1) (kz MC) (kz M2):=by
 refine⟨by rw[d.m];simp,λy hy=>?_,λy hy=>?_,?_⟩
 .obtain⟨m,hm,rfl⟩:=dC.1 hy;exact d.k1 m hm
 .obtain⟨m,hm,rfl⟩:=dC.1 hy;exact d.k2 m hm
 .rcases d.c with⟨h,_⟩|⟨m,h,hk,_⟩
  .rw[h];exact .inl rfl
  .rw[h];exact .inr ⟨m.2.1,by rw[<-hk];rfl⟩
section
variable{o:Vw}{mm:Nat}
def I1(C:List (ByteArray×ByteArray)):ByteArray×Int:=match C with
 |[]=>(⟨#[]⟩,9)
 |x::_=>(x.2,0)
theorem AV(up:List Step)(x:Step):iX (up.reverse++[x])=x:=by unfold iX;simp
theorem VQ{q:QS}{u:Nat}{M:List MT}(R:Rd q v o u mm)(T:Tree v H M)(hH:H<=15)(key:ByteArray):
  Rd (q.nz key).1 v o u mm/\(((q.nz key).2.2=11/\mm<=u)\/∃A C B,MJ (kz M) key A C B/\(q.nz key).2=I1 C):=by
 obtain⟨r1,r2⟩:=FN R T.ok hH key;unfold QS.nz
 rcases r2 with⟨r2,r3⟩|⟨r2,up,x,r3,r4,W⟩
 .rw[if_pos (by rw[r2];simp)];exact⟨r1,.inl ⟨r2,r3⟩⟩
 .rw[if_neg (by rw[r2];simp),r3,AV];obtain⟨M1,MC,M2,a,b,d⟩:=AU T W r4;have hp:=d.VP
  rcases d.c with⟨h1,h2⟩|⟨m,h1,hk,h2⟩
  .rw[if_neg (by rw[h2];simp)];refine⟨r1,.inr ⟨_,_,_,hp,?_⟩⟩;rw[h1];rfl
  .rw[if_pos h2];have hx:x.l.getD (bl x.l key) Nd.E.zero=m.1:=by rw[d.n,d.l,h1];simp[gH]
   rw[hx];obtain⟨g1,g2⟩:=th r1 (T.va m (by rw[d.m,h1];simp));refine⟨g1,g2.symm.imp id (λg2=>⟨_,_,_,hp,?_⟩)⟩;rw[g2,h1];rfl
end
variable{M:List MT}{v:Vw}{H:Nat}
theorem Q7(a:List E)(n:E)(b:List E):(a++b).insertIdx a.length n=a++n::b:=by
 induction a with
 |nil=>rfl
 |cons x a ih=>rw[lI,fI,JP,ih];rfl
theorem eK{α:Type}{a b:List α}:(a++b).Nodup↔a.Nodup/\b.Nodup/\∀x∈a,x∉b:=by
 rw[iu];exact⟨λ⟨h1,h2,h3⟩=>⟨h1,h2,λx hx hb=>h3 x hx x hb rfl⟩,λ⟨h1,h2,h3⟩=>⟨h1,h2,λx hx y hy e=>h3 x hx (by rw[e];exact hy)⟩⟩
theorem uR{j:Int}:j∈pJ M↔ ∃m∈M,j∈m.2.2:=mU
theorem Tree.VR(T:Tree v H M):∀j∈pJ M,(v j).2=0:=λj hj=>by
 obtain⟨m,hm,hj⟩:=uR.1 hj;exact(T.va m hm).here j hj
theorem Tree.AW(T:Tree v H M):∀j∈bC (aM v H 0),(v j).2=0:=FP H 0 T.ok
structure SetP(v v':Vw)(H:Nat)(M:List MT)(key value:ByteArray)(H':Nat)(M':List MT)(new:Nat)(A C B:List (ByteArray×ByteArray))(h c:Nat):Prop where
 t:Tree v' H' M'
 d:MJ (kz M) key A C B
 m:kz M'=A++(key,value)::B
 n:new=c+h
 c:c<=5/\(value.size<=40->c=0)
 IW:∀wt c,MD wt c->eC wt (aM v' H' 0)+c*h<=eC wt (aM v H 0)+wt 0*(key.size+(if value.size<=40 then value.size else 0)+7)+(if H'=H then 0 else c)
 h:H'=H\/(H'=H+1/\∀wt c,MD wt c->73*wt H<=eC wt (aM v H 0)+wt 0*(key.size+(if value.size<=40 then value.size else 0)+7))
section
variable{o:Vw}{mm:Nat}
theorem VS{q:QS}{u:Nat}(R:Rd q v o u mm)(T:Tree v H M)(hH:H<=15)(key value:ByteArray)(hk:key.size<=32)(hv:value.size<=1024):
  ((q.iQ key value).2=11/\∃v' u',Rd (q.iQ key value).1 v' o u' mm/\u'<=u+H+8/\(mm<=u'\/512<=u'))\/
  ((q.iQ key value).2=0/\∃v' H' M' new A C B h c,Rd (q.iQ key value).1 v' o (u+new) mm/\SetP v v' H M key value H' M' new A C B h c):=by
 obtain⟨r1,r2⟩:=FN R T.ok hH key;unfold QS.iQ;rw[if_neg (by omega)]
 rcases r2 with⟨r2,r3⟩|⟨r2,up,x,r3,r4,W⟩
 .rw[if_pos (by rw[r2];simp)];exact .inl ⟨r2,v,u,r1,by omega,.inl r3⟩
 rw[if_neg (by rw[r2];simp),r3,AV,show(up.reverse++[x]).dropLast.reverse=up by simp];obtain⟨p1,p2,p3,p4,p5⟩:=AN W;rw[r4]at p1 p2 p5;obtain⟨M1,MC,M2,a,b,d⟩:=AU T W r4;have qA:bC (aM v H 0)=bC (ft v up 0)++x.aq::bC (dn v up 0):=by rw[p2,df,dg]
 have Q8:=eK.1 T.IV;have haw:qx x.l key=a++b:=by
  unfold qx
  rcases d.c with⟨h1,h2⟩|⟨m,h1,hkk,h2⟩
  .rw[if_neg (by rw[h2];simp),d.l,h1];rfl
  .rw[if_pos h2,d.n,d.l,h1];exact wL a m.1 b
 have hdnod:(pJ MC).Nodup:=by
  have:=Q8.2.1;rw[d.m,fP,fP]at this;exact(eK.1 (eK.1 this).2.1).1
 have BV:(((q.eM key).1.lE x.l key).2=0/\Rd ((q.eM key).1.lE x.l key).1 (mL v (pJ MC)) o u mm)\/(((q.eM key).1.lE x.l key).2=11/\Rd ((q.eM key).1.lE x.l key).1 v o u mm/\mm<=u):=by
  unfold QS.lE
  rcases d.c with⟨h1,h2⟩|⟨m,h1,hkk,h2⟩
  .rw[if_neg (by rw[h2];simp),h1,Oi,AR];exact .inl ⟨rfl,r1⟩
  .rw[if_pos h2];have hx:x.l.getD (bl x.l key) Nd.E.zero=m.1:=by rw[d.n,d.l,h1];simp[gH]
   rw[hx,h1,mM,Oi,iJ];exact DB r1 (T.va m (by rw[d.m,h1];simp))
 rw[haw,d.n]
 rcases BV.symm with⟨o1,o2,o3⟩|⟨o1,o2⟩
 .rw[if_pos (by rw[o1];simp)];exact .inl ⟨o1,v,u,o2,by omega,.inl o3⟩
 rw[if_neg (by rw[o1];simp)];unfold QS.Vo
 rcases Q6 o2 key value hv with⟨s1,v',u',s2,s3,s4⟩|⟨s1,v2,L,s2,s3,s4,s5,s6⟩
 .rw[if_pos (by rw[s1];simp)];exact .inl ⟨s1,v',u',s2,by omega,s4⟩
 rw[if_neg (by rw[s1];simp)];obtain⟨n,hn⟩:∃n,(((q.eM key).1.lE x.l key).1.jq key value).2.1=n:=⟨_,rfl⟩;rw[hn]at s3 s4 ⊢;have hLl:L.length<=5/\(value.size<=40->L.length=0):=by
  rcases s3 with⟨_,_,h,_⟩|⟨_,_,_,_,h,h40,h2,_⟩
  .rw[h];simp
  .have:=yE h2;exact⟨by omega,λh=>by omega⟩
 have oe:∀j,(v j).2=0->j∉pJ MC->v2 j=v j:=λj hj hm=>by
  have h1:mL v (pJ MC) j=v j:=by unfold mL;rw[if_neg hm]
  rw[s6 j (λhL=>?_),h1];have:=s5 j hL;rw[h1]at this;rw[this]at hj;exact absurd hj (by decide)
 have hMCin:∀j∈pJ MC,j∈pJ M:=λj hj=>by rw[d.m,fP,fP];simp[hj]
 have hnd2:∀j∈bC (aM v H 0),v2 j=v j:=λj hj=>oe j (T.AW j hj) (λhm=>Q8.2.2 j hj (hMCin j hm));obtain⟨c1,c2,c3⟩:=hX (v':=v2) up 0 x.aq W.hole (λj hj=>hnd2 j (by rw[qA];simp[hj])) (λj hj=>hnd2 j (by rw[qA];simp[hj]));have lW:∀e∈a++b,e∈x.l:=λe he=>by rw[d.l];rcases aC.1 he with h|h<;>simp[h]
 have rY:=mj (oZ (v:=v) (p:=x.aq) (by rw[W.nd]));rw[W.nd]at rY;have rY:∀e∈x.l,du e true:=rY;have hbx:ao x.l<=223:=by have:=W.ok.2;rw[W.nd]at this;exact this
 have hbab:ao (a++b)<=ao x.l:=by rw[d.l,eI,eI,eI];omega
 have hrn:du n true/\n.val.size=(if value.size<=40 then value.size else 0):=by
  rcases s3 with⟨h1,h2,_,h4⟩|⟨h1,h2,h3,h4,h5,h40,h6,_⟩
  .refine⟨⟨by rw[s4];exact hk,by rw[h2];exact h4,by rw[h1];decide,by rw[h1];decide,.inl (by rw[h1];decide)⟩,by rw[if_pos h4,h2]⟩
  .exact⟨⟨by rw[s4];exact hk,by rw[h3];decide,by rw[if_pos rfl];omega,by omega,.inr h3⟩,by rw[if_neg (by omega),h3]⟩
 obtain⟨hrn,hvn⟩:=hrn;have hcn:n.key.size+n.val.size+7=key.size+(if value.size<=40 then value.size else 0)+7:=by rw[s4,hvn]
 have hcn79:n.key.size+n.val.size+7<=79:=by have h1:=hrn.1;have h2:=hrn.2.1;omega
 have hbn:ao (a++n::b)=ao (a++b)+(n.key.size+n.val.size+7):=by rw[eI,eI,eG];omega
 have hins:(a++b).insertIdx a.length n=a++n::b:=Q7 a n b;rw[hins];have Ol:∀e∈a,fR e.key key:=λe he=>by
  have:e∈M1.map (λm=>m.1):=by rw[d.m1];exact bK _ he
  obtain⟨m,hm,rfl⟩:=dC.1 this;exact d.k1 m hm
 have hlb:∀e∈b,fR key e.key:=λe he=>by
  have:e∈M2.map (λm=>m.1):=by rw[d.m2];exact cd _ he
  obtain⟨m,hm,rfl⟩:=dC.1 this;exact d.k2 m hm
 have hpw:=ph W.nd;rw[d.l,dR,dR]at hpw;have P:Cf v2 0 ⟨x.aq,x.leaf,a++n::b,x.at_⟩ up:=by
  refine⟨c1,W.leaf,?_,⟨λe he=>?_,?_⟩,by simp,?_,λe he=>?_,?_,?_⟩
  .show(v2 x.aq).2=0;have pH:x.aq∈bC (aM v H 0):=by rw[qA];simp
   rw[hnd2 _ pH];exact T.AW _ pH
  .show du e true
   rcases aC.1 he with he|he
   .exact rY e (lW e (cd _ he))
   .rcases an.1 he with rfl|he
    .exact hrn
    .exact rY e (lW e (bK _ he))
  .show(a++n::b).Pairwise λc e=>fR c.key e.key;rw[dR,ef];refine⟨hpw.1,⟨λe he=>by rw[s4];exact hlb e he,hpw.2.1.2.1⟩,λe he e' ye=>?_⟩
   rcases an.1 ye with rfl|ye
   .rw[s4];exact Ol e he
   .exact hpw.2.2 e he e' (bK _ ye)
  .show blank x.leaf _=_;rw[W.leaf];exact kO _
  .have he:e∈a++n::b:=he
   rcases aC.1 he with he|he
   .exact W.VH e (lW e (cd _ he))
   .rcases an.1 he with rfl|he
    .rw[s4];exact W.key
    .exact W.VH e (lW e (bK _ he))
  .show(bC (ft v2 up 0)++x.aq::([]++bC (dn v2 up 0))).Nodup;rw[c2,c3,cW,<-qA];exact Q8.1
  .show ao (a++n::b)<=302;omega
 have Ny:di v2 0 ⟨x.aq,x.leaf,a++n::b,x.at_⟩ up=ft v up 0++(0,x.aq,a++n::b)::dn v up 0:=by
  unfold di;rw[c2,c3];rfl
 have VT:bC (di v2 0 ⟨x.aq,x.leaf,a++n::b,x.at_⟩ up)=bC (aM v H 0):=by rw[Ny,qA,df,dg]
 have VN:∀wt:Nat->Nat,eC wt (di v2 0 ⟨x.aq,x.leaf,a++n::b,x.at_⟩ up)<=eC wt (aM v H 0)+wt 0*(n.key.size+n.val.size+7):=λwt=>by
  rw[Ny,p2];simp only[jE,eJ];have:wt 0*(ao (a++n::b)-151)<=wt 0*(ao x.l-151)+wt 0*(n.key.size+n.val.size+7):=by
   rw[<-qR];exact lU _ (by omega)
  omega
 rcases xQ (up.length+1) up 0 ⟨x.aq,x.leaf,a++n::b,x.at_⟩ _ v2 (u+L.length) (by omega) P s2 with⟨t1,v',u',t2,t3,t4⟩|⟨t1,v3,new,H',t2,G⟩
 .exact .inl ⟨t1,v',u',t2,by omega,t4⟩
 refine .inr ⟨t1,v3,H',M1++(n,value,L)::M2,L.length+new.length,kz M1,kz MC,kz M2,new.length,L.length,by rw[<-Nat.add_assoc];exact t2,?_⟩;have hMn:=Q8.2.1;rw[d.m,fP,fP]at hMn;have FQ:=eK.1 hMn;have VU:=eK.1 FQ.2.1;have I2:∀j,j∈pJ M1\/j∈pJ M2->j∈pJ M/\j∉pJ MC:=λj hj=>by
  refine⟨by rw[d.m,fP,fP];rcases hj with h|h<;>simp[h],λhc=>?_⟩
  rcases hj with h|h
  .exact FQ.2.2 j h (cd _ hc)
  .exact VU.2.2 j hc h
 have hLv:∀j,(v j).2=0->j∉pJ MC->j∉L:=λj hj hm hL=>by
  have:=s5 j hL;unfold mL at this;rw[if_neg hm]at this;rw[this]at hj;exact absurd hj (by decide)
 have hL2:∀j∈L,(v2 j).2=0:=s3.here;have I3:∀j,(v2 j).2=0->j∉new:=λj hj hm=>by rw[G.fresh j hm]at hj;exact absurd hj (by decide)
 have hM3:∀j,j∈pJ M1\/j∈pJ M2->v3 j=v j/\(v2 j).2=0/\j∉bC (aM v H 0):=λj hj=>by
  obtain⟨h1,h2⟩:=I2 j hj;have h3:=T.VR j h1;have h4:=oe j h3 h2;have h5:j∉bC (aM v H 0):=λh=>Q8.2.2 j h h1;refine⟨?_,by rw[h4];exact h3,h5⟩;rw[G.o j (by rw[VT];exact h5) (I3 j (by rw[h4];exact h3)),h4]
 have hPL:∀j∈bC (aM v H 0),j∉L:=λj hj=>hLv j (T.AW j hj) (λhm=>Q8.2.2 j hj (hMCin j hm));have hL3:∀j∈L,v3 j=v2 j:=λj hj=>G.o j (by rw[VT];exact λh=>hPL j h hj) (I3 j (hL2 j hj));have hP2:∀j∈bC (aM v H 0),(v2 j).2=0:=λj hj=>by rw[hnd2 j hj];exact T.AW j hj
 have nW:M1.map (λm=>m.1)=bZ (ft v up 0)++a:=d.m1;refine⟨⟨G.ok,?_,λm hm=>?_,?_,λj hj=>?_⟩,d.VP,?_,by omega,hLl,λwt c hw=>?_,?_⟩
 .rw[G.en,Ny,dA,fN,d.m1,d.m2];simp
 .rcases aC.1 hm with hm|hm
  .exact(T.va m (by rw[d.m];simp[hm])).congr (λj hj=>(hM3 j (.inl (uR.2 ⟨m,hm,hj⟩))).1)
  .rcases an.1 hm with rfl|hm
   .exact s3.congr hL3
   .exact(T.va m (by rw[d.m];simp[hm])).congr (λj hj=>(hM3 j (.inr (uR.2 ⟨m,hm,hj⟩))).1)
 .have rX:(bC (aM v3 H' 0)++pJ (M1++(n,value,L)::M2)).Perm ((bC (aM v H 0)++new)++(pJ M1++(L++pJ M2))):=by
   rw[fP,mM,<-VT];exact G.pg.append_right _
  rw[rX.nodup_iff,eK];refine⟨eK.2 ⟨Q8.1,G.IV,λj hj=>I3 j (hP2 j hj)⟩,eK.2 ⟨FQ.1,eK.2 ⟨s3.nodup,VU.2.1,λj hj hm=>?_⟩,λj hj hm=>?_⟩,λj hj hm=>?_⟩
  .obtain⟨h1,h2⟩:=I2 j (.inr hm);exact hLv j (T.VR j h1) h2 hj
  .rcases aC.1 hm with hm|hm
   .obtain⟨h1,h2⟩:=I2 j (.inl hj);exact hLv j (T.VR j h1) h2 hm
   .exact FQ.2.2 j hj (bK _ hm)
  .have Ct:j∈L\/(j∈pJ M1\/j∈pJ M2):=by
    rcases aC.1 hm with hm|hm
    .exact .inr (.inl hm)
    .rcases aC.1 hm with hm|hm
     .exact .inl hm
     .exact .inr (.inr hm)
   rcases aC.1 hj with hj|hj
   .rcases Ct with h|h
    .exact hPL j hj h
    .exact(hM3 j h).2.2 hj
   .rcases Ct with h|h
    .exact I3 j (hL2 j h) hj
    .exact I3 j (hM3 j h).2.1 hj
 .rw[aC,fP,mM,aC,aC]
  by_cases h1:j∈bC (aM v H 0)
  .exact .inl (G.pg.mem_iff.2 (by rw[VT];exact cd _ h1))
  .by_cases h2:j∈new
   .exact .inl (G.pg.mem_iff.2 (bK _ h2))
   .rw[G.o j (by rw[VT];exact h1) h2]at hj
    by_cases h3:j∈L
    .exact .inr (.inr (.inl h3))
    .rw[s6 j h3]at hj;unfold mL at hj
     by_cases h4:j∈pJ MC
     .rw[if_pos h4]at hj;exact absurd hj (by decide)
     .rw[if_neg h4]at hj;have:=T.all j hj;rw[d.m,fP,fP]at this;simp only[aC]at this
      rcases this with h|h|h|h
      .exact absurd h h1
      .exact .inr (.inl h)
      .exact absurd h h4
      .exact .inr (.inr (.inr h))
 .rw[Oj,I0,s4]
 .have g:=G.IW wt c hw;have g2:=VN wt;rw[hcn]at g2;rw[bg,r4]at g;omega
 .have hl:0+up.length=H:=by omega
  rcases G.h with g|⟨g1,g2⟩
  .exact .inl (by rw[g,hl])
  .refine .inr ⟨by rw[g1,hl],λwt c hw=>?_⟩;have g3:=g2 wt c hw;rw[hl]at g3;have g4:=VN wt;rw[hcn]at g4;omega
end
variable{v:Vw}{h:Nat}{l:List E}
structure A0(v v':Vw)(H H':Nat)(ns:List NT)(gone:List Int):Prop where
 ok:mi v' H' 0
 en:gF v' H' 0=bZ ns
 pg:(bC (aM v' H' 0)++gone).Perm (bC ns)
 del:∀j∈gone,(v' j).2≠0
 o:∀j,j∉bC ns->v' j=v j
 IW:∀wt,eC wt (aM v' H' 0)<=eC wt ns
 h:H'<=H
theorem qB(k:l≠[]->fU v h l)(hb:ao (blank (decide (h=0)) l)<=223):(bH (decide (h=0)) l).2=0:=by
 by_cases hl:l=[]
 .subst hl
  rcases nX (decide (h=0)) []with h1|h1|h1
  .exact h1.2.2.1
  .have h2:=h1.2.1;rw[n7]at h2;exact absurd h2 (by simp[ao])
  .refine absurd ?_ h1.1;rw[n7];intro i hi;exact absurd hi (by simp)
 .exact uP (k hl) hb
section
variable{o:Vw}{mm:Nat}
theorem wM{v':Vw}(k:l≠[]->fU v h l)(hb:ao (blank (decide (h=0)) l)<=223)(hh:l≠[]\/h=0)(hd:iG v' 0=(decide (h=0),blank (decide (h=0)) l,0))(hv:∀j,j≠0->v' j=v j)(hn:(0::bC (cI v h l)).Nodup):
  A0 v v' h h ((h,0,l)::cI v h l) []:=by
 have ok:fU v h l:=by
  by_cases hl:l=[]
  .rcases hh with hh|hh
   .exact absurd hl hh
   .subst hl hh;exact⟨by simp,List.Pairwise.nil⟩
  .exact k hl
 obtain⟨p1,p2,p3⟩:=AO (v:=v) (v':=v') (h:=h) (x:=⟨0,decide (h=0),l,0⟩) (up:=[]) rfl ok (λh=>absurd rfl h) (λ_ _=>trivial) (by simpa [dq,cL]using hn) hb hd hv;have p1:mi v' h 0:=p1;have p2:aM v' h 0=(h,0,blank (decide (h=0)) l)::(cI v h l++[]):=p2;rw[iJ]at p2;have p3:gF v' h 0=_:=p3;refine⟨p1,?_,?_,by simp,λj hj=>hv j (λe=>hj (by simp[e])),λwt=>?_,ak _⟩
 .rw[p3];unfold di;simp only[dh,cK,dq,cL];simp
 .rw[p2];simp
 .rw[p2,eJ,eJ];dsimp only;have:wt h*(ao (blank (decide (h=0)) l)-151)<=wt h*(ao l-151):=lU _ (by have:=dF (decide (h=0)) l;omega);omega
theorem Ba:∀(h m:Nat) (l:List E) (q:QS) (v:Vw) (u:Nat),h<m->Rd q v o u mm->(v 0).2=0->(l≠[]->fU v h l)->ao (blank (decide (h=0)) l)<=223->(0::bC (cI v h l)).Nodup->
  ((nB m q (decide (h=0)) l).2=11/\mm<=u/\∃v',Rd (nB m q (decide (h=0)) l).1 v' o u mm)\/
  ((nB m q (decide (h=0)) l).2=0/\∃v' H' gone,Rd (nB m q (decide (h=0)) l).1 v' o u mm/\A0 v v' h H' ((h,0,l)::cI v h l) gone)
 |h,0,_,_,_,_,hm,_,_,_,_,_=>absurd hm (by omega)
 |h,m+1,l,q,v,u,hm,R,h0,k,hb,hn=>by
  unfold nB
  by_cases hs:decide (h=0)=false/\l.length=1
  .rw[if_pos hs];obtain⟨h',rfl⟩:∃h',h=h'+1:=⟨h-1,by have:=hs.1;simp at this;omega⟩;obtain⟨c,rfl⟩:∃c,l=[c]:=by
    match l,hs.2 with
    |[c],_=>exact⟨c,rfl⟩
   have ok:=k (by simp);have hc:=ok.2.c c (by simp);obtain⟨d1,d2,d3⟩:=FL hc.1;have MK:[c].getD 0 Nd.E.zero=c:=rfl;rw[MK];obtain⟨r1,r2⟩:=R.read c.aW
   rcases r2 with r2|⟨r2,r3⟩
   .rw[r2,d1,if_neg (by simp)];have hhere:(v c.aW).2=0:=mI (by rw[d1]);obtain⟨e1,e2⟩:=r1.drop c.aW hhere;rw[if_neg (by rw[e1];simp)];dsimp only;have xP:cI v (h'+1) [c]=(h',c.aW,(iG v c.aW).2.1)::cI v h' (iG v c.aW).2.1:=by
     show aM v h' c.aW++[]=_;rw[iJ,pf]
    rw[xP,dg]at hn;have hn':=gf.1 hn;have RZ:=gf.1 hn'.2;have hcne:(0:Int)≠c.aW:=λe=>hn'.1 (by show(0:Int)∈_;rw[e];simp);have hvd:∀j,j≠c.aW->FI v c.aW j=v j:=λj hj=>FJ v hj;obtain⟨g1,g2,g3⟩:=kP (v:=v) (v':=FI v c.aW) (h:=h') (l:=(iG v c.aW).2.1) (λj hj=>hvd j (λe=>RZ.1 (show c.aW∈bC (cI v h' (iG v c.aW).2.1)from e▸hj)))
    rcases Ba h' m (iG v c.aW).2.1 _ _ u (by omega) e2 (by rw[hvd 0 hcne];exact h0) (λ_=>g3 d3) (ar (dF _ _) d2) (by rw[g1];exact gf.2 ⟨λhm=>hn'.1 (ax _ hm),RZ.2⟩)with⟨i1,i2,i3⟩|⟨i1,v',H',gone,i2,S⟩
    .exact .inl ⟨i1,i2,i3⟩
    .refine .inr ⟨i1,v',H',c.aW::gone,i2,S.ok,?_,?_,λj hj=>?_,λj hj=>?_,λwt=>?_,by have:=S.h;omega⟩
     .rw[S.en,g1,xP,kN,sY,sY]
     .rw[xP,dg,dg];have:=S.pg;rw[g1,dg]at this;refine(List.perm_middle.trans (this.cons _)).trans ?_;exact List.Perm.swap _ _ _
     .rcases an.1 hj with rfl|hj
      .rw[S.o c.aW (by rw[g1,dg];intro hm;rcases an.1 hm with hm|hm;exact hcne hm.symm;exact RZ.1 hm),Dw];decide
      .exact S.del j hj
     .rw[xP,dg,dg]at hj;simp only[an,not_or]at hj;rw[S.o j (by rw[g1,dg];simp only[an,not_or];exact⟨hj.1,hj.2.2⟩)];exact hvd j hj.2.1
     .have:=S.IW wt;rw[g1,eJ]at this;rw[xP,eJ,eJ];show _<=_+(wt h'*(ao (iG v c.aW).2.1-151)+_);have h3:eC wt (aM v' H' 0)<=wt h'*(ao (iG v c.aW).2.1-151)+eC wt (cI v h' (iG v c.aW).2.1):=this;omega
   .rw[r2,if_pos (by simp)];exact .inl ⟨rfl,r3,v,r1⟩
  .rw[if_neg hs]
   by_cases hl:l=[]
   .subst hl;rw[if_pos rfl];have hk:cI v h []=[]:=by cases h<;>rfl
    have qz:(bH true []).2=0:=qB (v:=v) (h:=0) (λh=>absurd rfl h) (by rw[n7];decide)
    rcases R.write h0 qz with⟨w1,w2⟩|⟨w1,w2,w3⟩
    .right;have S:=wM (v:=v) (v':=jP v 0 (bH true []).1) (h:=0) (l:=[]) (λh=>absurd rfl h) (by rw[n7];decide) (.inr rfl) (by rw[gq qz,if_pos rfl];rfl) (λj hj=>by unfold jP;rw[if_neg hj]) (by simp[cI]);refine⟨w1,_,0,[],w2,S.ok,?_,?_,by simp,λj hj=>?_,λwt=>?_,aY _⟩
     .rw[S.en,hk]
      cases h<;>simp[cI]
     .rw[hk];exact S.pg
     .rw[hk]at hj;exact S.o j hj
     .have:=S.IW wt;rw[hk,eJ];have e:eC wt ((0,0,[])::cI v 0 [])=0:=by show wt 0*(0-151)+0=0;simp
      rw[e]at this;omega
    .exact .inl ⟨w1,w3,v,w2⟩
   .rw[if_neg hl];have qz:=qB k hb
    rcases R.write h0 qz with⟨w1,w2⟩|⟨w1,w2,w3⟩
    .exact .inr ⟨w1,_,h,[],w2,wM k hb (.inl hl) (by rw[gq qz,if_pos rfl]) (λj hj=>by unfold jP;rw[if_neg hj]) hn⟩
    .exact .inl ⟨w1,w3,v,w2⟩
structure Om(v:Vw)(h:Nat)(x:Step)(up:List Step):Prop where
 hole:pA v up h x.aq
 leaf:x.leaf=decide (h=0)
 here:(v x.aq).2=0
 ok:x.l≠[]->fU v h x.l
 VH:∀e∈gx v h x.l,FM up e.key
 IV:(bC (ft v up h)++x.aq::(bC (cI v h x.l)++bC (dn v up h))).Nodup
 sz:ao x.l<=223
theorem Q9{v1:Vw}{x y:Step}{up:List Step}(P:Om v h x (y::up))(hl:x.l=[])(hv:∀j,j≠x.aq->v1 j=v j)(hd:(v1 x.aq).2≠0):
  Om v1 (h+1) {y with l:=y.l.eraseIdx y.at_} up/\
  ∀{v':Vw} {H':Nat} {gone:List Int},A0 v1 v' (h+1+up.length) H' (di v1 (h+1) {y with l:=y.l.eraseIdx y.at_} up) gone->A0 v v' (h+(y::up).length) H' (di v h x (y::up)) (x.aq::gone):=by
 obtain⟨⟨a,c,b,f,hsib⟩,hU⟩:=P.hole;obtain⟨t1,t2,t3⟩:=k6 f;have hn:=P.IV;rw[iu,gf]at hn;obtain⟨_,⟨na,_⟩,nb⟩:=hn;have lQ:∀j∈bC (ft v (y::up) h),v1 j=v j:=λj hj=>hv j (λe=>nb j hj x.aq (by simp) e);have uQ:∀j∈bC (dn v (y::up) h),v1 j=v j:=λj hj=>hv j (λe=>na (by rw[<-e];exact bK _ hj));obtain⟨H2,e1,e2⟩:=hX (y::up) h x.aq P.hole lQ uQ;obtain⟨⟨a',c',b',f2,VL⟩,hU2⟩:=H2
 have qb:a'=a/\c'=c/\b'=b:=by
  have q1:=(k6 f2);exact⟨by rw[<-q1.1,t1],by rw[<-q1.2.2,t3],by rw[<-q1.2.1,t2]⟩
 obtain⟨rfl,rfl,rfl⟩:=qb;have hera:y.l.eraseIdx y.at_=a'++b':=by rw[f.l,f.at_,wL]
 rw[hera];have q1:bw v1 h a'=bw v h a':=(hJ (λj hj=>lQ j (by simp only[dh,dq];rw[t1,df,dg];exact bK _ (ax _ hj)))).1;have q2:bw v1 h b'=bw v h b':=(hJ (λj hj=>uQ j (by simp only[cK,cL];rw[t2,df];exact cd _ hj))).1
 have hU3:=hX up (h+1) y.aq hU (λj hj=>lQ j (by simp only[dh,dq];rw[df];exact cd _ hj)) (λj hj=>uQ j (by simp only[cK,cL];rw[df];exact bK _ hj));have AQ:=hU3.2.1;have td:=hU3.2.2;have qu:=mj (oZ (v:=v) (p:=y.aq) (by rw[f.nd]));rw[f.nd]at qu;have qu:∀e∈a'++c'::b',du e false:=by rw[<-f.l];exact qu
 have hby:=f.by_;rw[f.l,eI,eG]at hby;have hkp:cI v h []=[]:=by cases h<;>rfl
 have hold:bC (di v h x (y::up))=bC (ft v up (h+1))++(y.aq::bC (bw v h a'))++x.aq::(bC (bw v h b')++bC (dn v up (h+1))):=by
  rw[fH,hl,hkp];simp only[dh,cK,dq,cL];rw[t1,t2];simp
 have Q0:bC (di v1 (h+1) {y with l:=a'++b'} up)=bC (ft v up (h+1))++y.aq::((bC (bw v h a')++bC (bw v h b'))++bC (dn v up (h+1))):=by
  rw[fH];show bC (ft v1 up (h+1))++y.aq::(bC (bw v1 h (a'++b'))++bC (dn v1 up (h+1)))=_;rw[gS,df,q1,q2,AQ,td]
 have rX:(x.aq::bC (di v1 (h+1) {y with l:=a'++b'} up)).Perm (bC (di v h x (y::up))):=by
  rw[Q0,hold,Ef];intro j;simp only[JE,JF];omega
 have IZ:=P.IV;rw[<-fH]at IZ;have hnod1:=rX.nodup_iff.2 IZ;have hnod:=(gf.1 hnod1);refine⟨⟨hU2,?_,?_,λff=>⟨λe he=>?_,?_⟩,λe he=>?_,?_,?_⟩,λ{v' H' gone} S=>?_⟩
 .show y.leaf=decide (h+1=0);rw[f.leaf];rfl
 .exact mI (by show(iG v1 y.aq).2.2=0;rw[f2.nd])
 .have he:e∈a'++b':=he;exact qu e (by rcases aC.1 he with h|h<;>simp[h])
 .show sZ (mi v1 h) (gF v1 h) (a'++b');refine⟨ff,f2.ch,f2.lo,λe he=>?_⟩
  cases ha':a' with
  |nil=>
   rw[ha']at he;exact f2.hb e (tM he)
  |cons z a2=>
   have hha:=f2.ha;rw[ha']at he hha;rw[lI,j8]at he
   rcases aC.1 he with he|he
   .exact hha e he
   .exact f2.hb e he
 .have he:e∈bZ (bw v1 h (a'++b')):=he;obtain⟨z,hz,hx⟩:=dG.1 he;exact VL z hz e hx
 .rw[<-fH];exact hnod.2
 .show ao (a'++b')<=223;rw[eI];omega
 .have hHl:h+(y::up).length=h+1+up.length:=by simp;omega
  rw[hHl];refine⟨S.ok,?_,?_,λj hj=>?_,λj hj=>?_,λwt=>?_,S.h⟩
  .rw[S.en,kQ,kQ];show bZ (ft v1 up (h+1))++(bZ (bw v1 h (a'++b'))++bZ (dn v1 up (h+1)))=_;rw[gS,dV,q1,q2,AQ,td,hl];simp only[dh,cK,dq,cL];rw[t1,t2];have:gx v h []=[]:=by cases h<;>rfl
   rw[this];simp
  .refine(List.perm_middle.trans (S.pg.cons _)).trans rX
  .rcases an.1 hj with rfl|hj
   .rw[S.o _ hnod.1];exact hd
   .exact S.del j hj
  .rw[S.o j (λhm=>hj (rX.mem_iff.1 (ax _ hm)))];exact hv j (λe=>hj (rX.mem_iff.1 (by rw[e];simp)))
  .have h1:=S.IW wt;have e3:eC wt (di v1 (h+1) {y with l:=a'++b'} up)=eC wt (ft v up (h+1))+(wt (h+1)*(ao (a'++b')-151)+((eC wt (bw v h a')+eC wt (bw v h b'))+eC wt (dn v up (h+1)))):=by
    unfold di;show eC wt (ft v1 up (h+1)++(h+1,y.aq,a'++b')::(bw v1 h (a'++b')++dn v1 up (h+1)))=_;rw[gS,q1,q2,AQ,td];simp only[jE,eJ]
   have e4:eC wt (di v h x (y::up))=(eC wt (ft v up (h+1))+(wt (h+1)*(ao y.l-151)+eC wt (bw v h a')))+(wt h*(ao x.l-151)+(eC wt (bw v h b')+eC wt (dn v up (h+1)))):=by
    unfold di;simp only[dh,cK,dq,cL];rw[t1,t2,hl,hkp];simp only[jE,eJ,VK,cW]
   have m1:wt (h+1)*(ao (a'++b')-151)<=wt (h+1)*(ao y.l-151):=lU _ (by rw[f.l,eI,eI,eG];omega);rw[e3]at h1;rw[e4];omega
theorem xS:∀(up:List Step) (h:Nat) (x:Step) (q:QS) (v:Vw) (u:Nat),h+up.length<=15->Rd q v o u mm->Om v h x up->
  ((gE (x::up) q).2=11/\mm<=u/\∃v',Rd (gE (x::up) q).1 v' o u mm)\/
  ((gE (x::up) q).2=0/\∃v' H' gone,Rd (gE (x::up) q).1 v' o u mm/\A0 v v' (h+up.length) H' (di v h x up) gone)
 |[],h,x,q,v,u,hh,R,P=>by
  have BR:x.aq=0:=P.hole;have hb:ao (blank (decide (h=0)) x.l)<=223:=ar (dF _ _) P.sz;have hn:(0::bC (cI v h x.l)).Nodup:=by have:=P.IV;rw[BR]at this;simpa [dq,cL]using this
  have hns:di v h x []=(h,0,x.l)::cI v h x.l:=by unfold di;simp only[dh,cK,dq,cL];rw[BR];simp
  have h0:(v 0).2=0:=by have h1:=P.here;rw[BR]at h1;exact h1
  rw[xL,hns]
  by_cases sJ:x.leaf=true
  .rw[if_pos sJ];have hz:h=0:=by rw[P.leaf]at sJ;exact of_decide_eq_true sJ
   subst hz;have qz:=qB (h:=0) P.ok hb;have qz:(bH x.leaf x.l).2=0:=by rw[sJ];exact qz
   rw[BR]
   rcases R.write h0 qz with⟨w1,w2⟩|⟨w1,w2,w3⟩
   .refine .inr ⟨w1,_,0,[],w2,wM P.ok hb (.inr rfl) ?_ (λj hj=>by unfold jP;rw[if_neg hj]) hn⟩;rw[gq qz,if_pos rfl,sJ];rfl
   .exact .inl ⟨w1,w3,v,w2⟩
  .rw[if_neg sJ];unfold QS.sV;rw[P.leaf];have hlen:h+([]:List Step).length=h:=rfl;rw[hlen]at hh ⊢;exact Ba h 600 x.l q v u (by omega) R h0 P.ok hb hn
 |y::up,h,x,q,v,u,hh,R,P=>by
  rw[xM]
  by_cases hl:x.l=[]
  .rw[if_pos hl];obtain⟨e1,e2⟩:=R.drop x.aq P.here;rw[if_neg (by rw[e1];simp)];obtain⟨P2,hS⟩:=Q9 (v1:=FI v x.aq) P hl (λj hj=>FJ v hj) (by rw[Dw];decide)
   rcases xS up (h+1) {y with l:=y.l.eraseIdx y.at_} _ _ u (by simp at hh;omega) e2 P2 with i|⟨i1,v',H',gone,i2,S⟩
   .exact .inl i
   .exact .inr ⟨i1,v',H',_,i2,hS S⟩
  .rw[if_neg hl];have hb:ao (blank (decide (h=0)) x.l)<=223:=ar (dF _ _) P.sz;have qz:=qB P.ok hb;have hlay':(bH x.leaf x.l).2=0:=by rw[P.leaf];exact qz
   rcases R.write P.here hlay' with⟨w1,w2⟩|⟨w1,w2,w3⟩
   .obtain⟨p1,p2,p3⟩:=AO (v':=jP v x.aq (bH x.leaf x.l).1) P.hole (P.ok hl) (λ_=>hl) P.VH P.IV hb (by rw[gq hlay',if_pos rfl,P.leaf]) (λj hj=>by unfold jP;rw[if_neg hj]);refine .inr ⟨w1,_,h+(y::up).length,[],w2,p1,p3,?_,by simp,λj hj=>?_,λwt=>?_,ak _⟩
    .rw[p2,fH];simp
    .unfold jP;rw[if_neg (λe=>hj (by rw[fH,e];simp))]
    .rw[p2];unfold di;simp only[jE,eJ];have:wt h*(ao (blank (decide (h=0)) x.l)-151)<=wt h*(ao x.l-151):=lU _ (by have:=dF (decide (h=0)) x.l;omega);omega
   .exact .inl ⟨w1,w3,v,w2⟩
end
structure DelP(v v':Vw)(H:Nat)(M:List MT)(key:ByteArray)(H':Nat)(M':List MT)(A B:List (ByteArray×ByteArray))(y:ByteArray):Prop where
 t:Tree v' H' M'
 d:MJ (kz M) key A [(key,y)] B
 m:kz M'=A++B
 IW:∀wt,eC wt (aM v' H' 0)<=eC wt (aM v H 0)
 h:H'<=H
section
variable{o:Vw}{mm:Nat}
theorem I4{q:QS}{v:Vw}{u H:Nat}{M:List MT}(R:Rd q v o u mm)(T:Tree v H M)(hH:H<=15)(key:ByteArray):
  ((q.jj key).2=11/\mm<=u/\∃v',Rd (q.jj key).1 v' o u mm)\/
  ((q.jj key).2=9/\Rd (q.jj key).1 v o u mm/\∃A B,MJ (kz M) key A [] B)\/
  ((q.jj key).2=0/\∃v' H' M' A B y,Rd (q.jj key).1 v' o u mm/\DelP v v' H M key H' M' A B y):=by
 obtain⟨r1,r2⟩:=FN R T.ok hH key;unfold QS.jj
 rcases r2 with⟨r2,r3⟩|⟨r2,up,x,r3,r4,W⟩
 .rw[if_pos (by rw[r2];simp)];exact .inl ⟨r2,r3,v,r1⟩
 rw[if_neg (by rw[r2];simp),r3,AV,show(up.reverse++[x]).dropLast.reverse=up by simp];obtain⟨p1,p2,p3,p4,p5⟩:=AN W;rw[r4]at p1 p2 p5;obtain⟨M1,MC,M2,a,b,d⟩:=AU T W r4;have hdp:=d.VP
 rcases d.c with⟨h1,h2⟩|⟨m,h1,hkk,h2⟩
 .rw[if_pos h2];rw[h1]at hdp;exact .inr (.inl ⟨rfl,r1,_,_,hdp⟩)
 rw[if_neg (by rw[h2];simp)];rw[h1]at hdp;have hdl:x.l=a++m.1::b:=by rw[d.l,h1];rfl
 have hdm:M=M1++m::M2:=by rw[d.m,h1];rfl
 have qA:bC (aM v H 0)=bC (ft v up 0)++x.aq::bC (dn v up 0):=by rw[p2,df,dg]
 have Q8:=eK.1 T.IV;have haw:qx x.l key=a++b:=by
  unfold qx;rw[if_pos h2,d.n,hdl];exact wL a m.1 b
 have Bv:=T.va m (by rw[hdm];simp);have BV:(((q.eM key).1.lE x.l key).2=0/\Rd ((q.eM key).1.lE x.l key).1 (mL v m.2.2) o u mm)\/(((q.eM key).1.lE x.l key).2=11/\Rd ((q.eM key).1.lE x.l key).1 v o u mm/\mm<=u):=by
  unfold QS.lE;rw[if_pos h2];have hx:x.l.getD (bl x.l key) Nd.E.zero=m.1:=by rw[d.n,hdl];simp[gH]
  rw[hx];exact DB r1 Bv
 rw[haw]
 rcases BV.symm with⟨o1,o2,o3⟩|⟨o1,o2⟩
 .rw[if_pos (by rw[o1];simp)];exact .inl ⟨o1,o3,v,o2⟩
 rw[if_neg (by rw[o1];simp)];have hMn:=Q8.2.1;rw[hdm,fP,mM]at hMn;have FQ:=eK.1 hMn;have VU:=eK.1 FQ.2.1;have hmin:∀j∈m.2.2,j∈pJ M:=λj hj=>by rw[hdm,fP,mM];simp[hj]
 have mQ:∀j,j∉m.2.2->mL v m.2.2 j=v j:=λj hj=>if_neg hj;have hnd1:∀j∈bC (aM v H 0),mL v m.2.2 j=v j:=λj hj=>mQ j (λhm=>Q8.2.2 j hj (hmin j hm));obtain⟨c1,c2,c3⟩:=hX (v':=mL v m.2.2) up 0 x.aq W.hole (λj hj=>hnd1 j (by rw[qA];simp[hj])) (λj hj=>hnd1 j (by rw[qA];simp[hj]));have lW:∀e∈a++b,e∈x.l:=λe he=>by rw[hdl];rcases aC.1 he with h|h<;>simp[h]
 have rY:=mj (oZ (v:=v) (p:=x.aq) (by rw[W.nd]));rw[W.nd]at rY;have rY:∀e∈x.l,du e true:=rY;have hbx:ao x.l<=223:=by have:=W.ok.2;rw[W.nd]at this;exact this
 have hpw:=ph W.nd;rw[hdl,dR,ef]at hpw;have P:Om (mL v m.2.2) 0 ⟨x.aq,x.leaf,a++b,x.at_⟩ up:=by
  refine⟨c1,W.leaf,?_,λ_=>⟨λe he=>rY e (lW e he),?_⟩,λe he=>?_,?_,?_⟩
  .show(mL v m.2.2 x.aq).2=0;have pH:x.aq∈bC (aM v H 0):=by rw[qA];simp
   rw[hnd1 _ pH];exact T.AW _ pH
  .show(a++b).Pairwise λc e=>fR c.key e.key;rw[dR];exact⟨hpw.1,hpw.2.1.2,λe he e' ye=>hpw.2.2 e he e' (ax _ ye)⟩
  .exact W.VH e (lW e he)
  .show(bC (ft (mL v m.2.2) up 0)++x.aq::([]++bC (dn (mL v m.2.2) up 0))).Nodup;rw[c2,c3,cW,<-qA];exact Q8.1
  .show ao (a++b)<=223;rw[hdl,eI,eG]at hbx;rw[eI];omega
 have Ny:di (mL v m.2.2) 0 ⟨x.aq,x.leaf,a++b,x.at_⟩ up=ft v up 0++(0,x.aq,a++b)::dn v up 0:=by
  unfold di;rw[c2,c3];rfl
 have VT:bC (di (mL v m.2.2) 0 ⟨x.aq,x.leaf,a++b,x.at_⟩ up)=bC (aM v H 0):=by rw[Ny,qA,df,dg]
 rcases xS up 0 ⟨x.aq,x.leaf,a++b,x.at_⟩ _ _ u (by omega) o2 P with i|⟨i1,v2,H',gone,i2,S⟩
 .exact .inl i
 refine .inr (.inr ⟨i1,v2,H',M1++M2,kz M1,kz M2,m.2.1,i2,?_⟩);have I2:∀j,j∈pJ M1\/j∈pJ M2->j∈pJ M/\j∉m.2.2:=λj hj=>by
  refine⟨by rw[hdm,fP,mM];rcases hj with h|h<;>simp[h],λhc=>?_⟩
  rcases hj with h|h
  .exact FQ.2.2 j h (cd _ hc)
  .exact VU.2.2 j hc h
 have hM3:∀j,j∈pJ M1\/j∈pJ M2->v2 j=v j/\j∉bC (aM v H 0):=λj hj=>by
  obtain⟨h3,h4⟩:=I2 j hj;have h5:j∉bC (aM v H 0):=λh=>Q8.2.2 j h h3;exact⟨by rw[S.o j (by rw[VT];exact h5),mQ j h4],h5⟩
 have hSn:(bC (aM v2 H' 0)++gone).Nodup:=S.pg.nodup_iff.2 (by rw[VT];exact Q8.1);have hSin:∀j,j∈bC (aM v2 H' 0)->j∈bC (aM v H 0):=λj hj=>by rw[<-VT];exact S.pg.mem_iff.1 (cd _ hj)
 refine⟨⟨S.ok,?_,λz hz=>?_,?_,λj hj=>?_⟩,?_,by rw[Oj],λwt=>?_,by have:=S.h;omega⟩
 .rw[S.en,Ny,dA,d.m1,d.m2];simp
 .rcases aC.1 hz with hz|hz
  .exact(T.va z (by rw[hdm];simp[hz])).congr (λj hj=>(hM3 j (.inl (uR.2 ⟨z,hz,hj⟩))).1)
  .exact(T.va z (by rw[hdm];simp[hz])).congr (λj hj=>(hM3 j (.inr (uR.2 ⟨z,hz,hj⟩))).1)
 .rw[fP,eK];refine⟨(eK.1 hSn).1,eK.2 ⟨FQ.1,VU.2.1,λj hj hm=>FQ.2.2 j hj (bK _ hm)⟩,λj hj hm=>?_⟩;exact(hM3 j (aC.1 hm)).2 (hSin j hj)
 .rw[fP]
  by_cases h3:j∈bC (aM v H 0)
  .rw[<-VT]at h3
   rcases aC.1 (S.pg.mem_iff.2 h3)with h4|h4
   .exact cd _ h4
   .exact absurd hj (S.del j h4)
  .rw[S.o j (by rw[VT];exact h3)]at hj
   by_cases h4:j∈m.2.2
   .unfold mL at hj;rw[if_pos h4]at hj;exact absurd hj (by simp)
   .rw[mQ j h4]at hj;have:=T.all j hj;rw[hdm,fP,mM]at this;simp only[aC]at this ⊢
    rcases this with h|h|h|h
    .exact absurd h h3
    .exact .inr (.inl h)
    .exact absurd h h4
    .exact .inr (.inr h)
 .have e:((key,m.2.1):ByteArray×ByteArray)=(m.1.key,m.2.1):=by rw[hkk]
  rw[e];exact hdp
 .have h5:=S.IW wt;rw[Ny,jE,eJ]at h5;rw[p2,jE,eJ];dsimp only at h5 ⊢;have:wt 0*(ao (a++b)-151)<=wt 0*(ao x.l-151):=lU _ (by rw[hdl,eI,eI,eG];omega);omega
end
variable{fr az:ByteArray}{l:List E}{u:Nat}{q:QS}
theorem bl_kc(a b:ByteArray):Op.bytesLess a.toList b.toList=decide (fR a b):=by
 rw[cf,cf,Nd.NY];rfl
theorem toL_nil(t:ByteArray):(t.toList==[])=decide (t.size=0):=by
 rw[cf];have h:t.data.toList.length=t.size:=by simp
 cases hl:t.data.toList with
 |nil=>rw[hl]at h;rw[decide_eq_true (by rw[<-h];rfl)];rfl
 |cons a l=>rw[hl]at h;rw[decide_eq_false (by rw[<-h];simp)];rfl
def Bb(fr az key:ByteArray):Bool:=decide (nY fr key) && (decide (az.size=0) || decide (fR key az))
def fj{α σ:Type}(step:α->σ->σ×Bool):List α->σ->σ×Bool
 |[],s=>(s,true)
 |x::l,s=>if(step x s).2=true then fj step l (step x s).1 else((step x s).1,false)
theorem wN{α σ:Type}(step:α->σ->σ×Bool):∀(a b:List α) (s:σ),fj step (a++b) s=if(fj step a s).2=true then fj step b (fj step a s).1 else fj step a s
 |[],b,s=>rfl
 |x::a,b,s=>by
  show(if(step x s).2=true then fj step (a++b) (step x s).1 else((step x s).1,false))=if(if(step x s).2=true then fj step a (step x s).1 else((step x s).1,false)).2=true then _ else _
  by_cases h:(step x s).2=true
  .rw[if_pos h,wN step a b];simp only[fj,if_pos h]
  .rw[if_neg h,if_neg h,if_neg (by simp)];exact(if_neg h).symm
def tI(fr az:ByteArray)(l:List E):List E:=l.filter λe=>Bb fr az e.key
theorem yF(fr az:ByteArray)(a b:List E):tI fr az (a++b)=tI fr az a++tI fr az b:=sq ..
theorem On(h:∀e∈l,fR e.key fr):tI fr az l=[]:=by
 unfold tI;rw[JI];intro e he hx;unfold Bb at hx;rw[im,decide_eq_true_eq]at hx;exact wH (h e he) hx.1
theorem Bc(ht:az.size≠0)(h:∀e∈l,nY az e.key):tI fr az l=[]:=by
 unfold tI;rw[JI];intro e he hx;unfold Bb at hx;rw[im,wW,decide_eq_true_eq,decide_eq_true_eq]at hx
 rcases hx.2 with h1|h1
 .exact ht h1
 .exact wH (of_decide_eq_true h1) (h e he)
structure WkOk{σ:Type}(step:E->σ->σ×Bool)(fr az:ByteArray)(en:List E)(s:σ)(R:Wk σ):Prop where
 e:R.e=0
 f:R.s=(fj step (tI fr az en) s).1
 y:R.more=true->(fj step (tI fr az en) s).2=true
 n:R.more=false->(fj step (tI fr az en) s).2=false\/(az.size≠0/\∃y∈en,nY az y.key)
section
variable{σ:Type}{o:Vw}{mm:Nat}{v:Vw}(step:E->σ->σ×Bool)(fr az:ByteArray)
theorem Rb(i:Nat)(x:E):mH fr true 0 i x=decide (fR x.key fr):=by
 unfold mH;rw[bl_kc,decide_eq_false (j9 i)];simp
theorem Oo(leaf:Bool)(i:Nat)(x:E):lF az leaf i x=(decide (az.size≠0) && decide (nY az x.key) && (leaf || decide (0<i))):=by
 unfold lF;rw[toL_nil,bl_kc]
 congr 2
 .simp
 .have h1:(decide (fR x.key az))= !decide (nY az x.key):=by
   by_cases h:fR x.key az
   .rw[decide_eq_true h,decide_eq_false (λk=>wH h k)];rfl
   .rw[decide_eq_false h,decide_eq_true (mJ h)];rfl
  rw[h1,Bool.not_not]
theorem wO(rec:QS->Nat->σ->Int->Wk σ):∀(l:List E) (i:Nat) (q:QS) (seen:Nat) (s:σ),(l.Pairwise λc e=>fR c.key e.key)->
  (iF rec step fr az true 0 i l q seen s).q=q/\(iF rec step fr az true 0 i l q seen s).seen=seen/\WkOk step fr az l s (iF rec step fr az true 0 i l q seen s)
 |[],i,q,seen,s,_=>⟨rfl,rfl,rfl,rfl,λ_=>rfl,λh=>absurd h (by simp[iF])⟩
 |x::l,i,q,seen,s,hp=>by
  rw[ef]at hp;unfold iF;rw[Rb,Oo]
  by_cases h1:fR x.key fr
  .rw[decide_eq_true h1,if_pos rfl];obtain⟨a,b,c⟩:=wO rec l (i+1) q seen s hp.2;have hf:tI fr az (x::l)=tI fr az l:=by
    rw[show x::l=[x]++l from rfl,yF,On (l:=[x]) (by simp;exact h1)];rfl
   exact⟨a,b,c.e,by rw[hf];exact c.f,by rw[hf];exact c.y,λh=>by rw[hf];exact(c.n h).imp id (λ⟨h2,y,hy,h3⟩=>⟨h2,y,by simp[hy],h3⟩)⟩
  .rw[decide_eq_false h1,if_neg (by simp)]
   by_cases h2:az.size≠0/\nY az x.key
   .rw[decide_eq_true h2.1,decide_eq_true h2.2,if_pos (by simp)];have hf:tI fr az (x::l)=[]:=Bc h2.1 (λe he=>by
     rcases an.1 he with rfl|he
     .exact h2.2
     .exact sX (jk h2.2 (hp.1 e he)))
    exact⟨rfl,rfl,rfl,by rw[hf];rfl,λh=>absurd h (by simp),λ_=> .inr ⟨h2.1,x,by simp,h2.2⟩⟩
   .rw[if_neg (by
     rw[im,im,decide_eq_true_eq,decide_eq_true_eq];exact λh=>h2 h.1),if_pos rfl]
    have pH:Bb fr az x.key=true:=by
     unfold Bb;rw[im,wW,decide_eq_true_eq,decide_eq_true_eq,decide_eq_true_eq];refine⟨mJ h1,?_⟩
     by_cases h3:az.size=0
     .exact .inl h3
     .right
      by_cases h4:fR x.key az
      .exact h4
      .exact absurd ⟨h3,mJ h4⟩ h2
    have hf:tI fr az (x::l)=x::tI fr az l:=by unfold tI;rw[j5,if_pos pH]
    by_cases h3:(step x s).2=true
    .rw[if_pos h3];obtain⟨a,b,c⟩:=wO rec l (i+1) q seen (step x s).1 hp.2;have hs:fj step (x::tI fr az l) s=fj step (tI fr az l) (step x s).1:=if_pos h3;exact⟨a,b,c.e,by rw[hf,hs];exact c.f,by rw[hf,hs];exact c.y,λh=>by rw[hf,hs];exact(c.n h).imp id (λ⟨h2,y,hy,h3⟩=>⟨h2,y,by simp[hy],h3⟩)⟩
    .rw[if_neg h3];have hs:fj step (x::tI fr az l) s=((step x s).1,false):=if_neg h3;exact⟨rfl,rfl,rfl,by rw[hf,hs],λh=>absurd h (by simp),λ_=> .inl (by rw[hf,hs])⟩
def VV(v:Vw)(o:Vw)(mm u h m:Nat):Prop:=
 ∀(q:QS) (p:Int) (seen:Nat) (s:σ),Rd q v o u mm->mi v h p->seen+(aM v h p).length<=512->
  Rd (fQ step fr az m q seen s p).q v o u mm/\(fQ step fr az m q seen s p).seen<=seen+(aM v h p).length/\(((fQ step fr az m q seen s p).e=11/\mm<=u)\/WkOk step fr az (gF v h p) s (fQ step fr az m q seen s p))
theorem Oq{h m:Nat}(IH:VV step fr az v o mm u h m)(first:Nat):∀(l:List E) (i:Nat) (q:QS) (seen:Nat) (s:σ),first<=i->Rd q v o u mm->(∀e∈l,mi v h e.aW/\gF v h e.aW≠[])->(l.Pairwise λc e=> ∀x∈gF v h c.aW,fR x.key e.key)->(∀e∈l,∀x∈gF v h e.aW,(0<i\/e∈l.tail)->nY e.key x.key)->seen+(bw v h l).length<=512->
  Rd (iF (fQ step fr az m) step fr az false first i l q seen s).q v o u mm/\(iF (fQ step fr az m) step fr az false first i l q seen s).seen<=seen+(bw v h l).length/\
   (((iF (fQ step fr az m) step fr az false first i l q seen s).e=11/\mm<=u)\/WkOk step fr az (bZ (bw v h l)) s (iF (fQ step fr az m) step fr az false first i l q seen s))
 |[],i,q,seen,s,_,R,_,_,_,_=>⟨R,Ei _ _,.inr ⟨rfl,rfl,λ_=>rfl,λh=>absurd h (by simp[iF])⟩⟩
 |x::l,i,q,seen,s,hi,R,hc,hp,hh,hs=>by
  rw[ef]at hp;have hsk:mH fr false first i x=false:=by unfold mH;rw[decide_eq_false (by omega)];rfl
  have hlen:(bw v h (x::l)).length=(aM v h x.aW).length+(bw v h l).length:=by rw[fM,aU]
  have nW:bZ (bw v h (x::l))=gF v h x.aW++bZ (bw v h l):=by rw[fM,dV];rfl
  have hx:=hc x (by simp);obtain⟨y0,hy0⟩:=vf _ hx.2;have VW:∀z∈bZ (bw v h l),∀y∈gF v h x.aW,fR y.key z.key:=λz hz y hy=>by
   obtain⟨e,he,hz⟩:=dG.1 hz;exact gr (hp.1 e he y hy) (hh e (by simp[he]) z hz (.inr he))
  unfold iF;rw[hsk,if_neg (by simp),Oo]
  by_cases h2:az.size≠0/\nY az x.key/\0<i
  .rw[decide_eq_true h2.1,decide_eq_true h2.2.1,decide_eq_true h2.2.2,if_pos (by simp)];have ny:∀z∈bZ (bw v h (x::l)),nY az z.key:=λz hz=>by
    rw[nW]at hz
    rcases aC.1 hz with hz|hz
    .exact nZ h2.2.1 (hh x (by simp) z hz (.inl h2.2.2))
    .exact nZ h2.2.1 (nZ (hh x (by simp) y0 hy0 (.inl h2.2.2)) (sX (VW z hz y0 hy0)))
   have hf:tI fr az (bZ (bw v h (x::l)))=[]:=Bc h2.1 ny;exact⟨R,Ei _ _,.inr ⟨rfl,by rw[hf];rfl,λh=>absurd h (by simp),λ_=> .inr ⟨h2.1,y0,by rw[nW];simp[hy0],ny y0 (by rw[nW];simp[hy0])⟩⟩⟩
  .rw[if_neg (by
    rw[im,im,wW,decide_eq_true_eq,decide_eq_true_eq,decide_eq_true_eq];exact λh=>h2 ⟨h.1.1,h.1.2,h.2.resolve_left (by simp)⟩),if_neg (by simp)]
   obtain⟨r1,r2,r3⟩:=IH q x.aW seen s R hx.1 (by omega)
   rcases r3 with⟨r3,r4⟩|r3
   .rw[if_neg (by rw[r3];simp)];exact⟨r1,by omega,.inl ⟨r3,r4⟩⟩
   .by_cases hm:(fQ step fr az m q seen s x.aW).more=true
    .rw[if_pos ⟨hm,r3.e⟩];obtain⟨i1,i2,i3⟩:=Oq IH first l (i+1) (fQ step fr az m q seen s x.aW).q (fQ step fr az m q seen s x.aW).seen (fQ step fr az m q seen s x.aW).s (by omega) r1 (λe he=>hc e (by simp[he])) hp.2 (λe he z hz _=>hh e (by simp[he]) z hz (.inr he)) (by omega)
     have hfo:fj step (tI fr az (bZ (bw v h (x::l)))) s=fj step (tI fr az (bZ (bw v h l))) (fQ step fr az m q seen s x.aW).s:=by
      rw[nW,yF,wN,if_pos (r3.y hm),r3.f]
     refine⟨i1,by omega,i3.imp id (λc=>⟨c.e,by rw[hfo];exact c.f,by rw[hfo];exact c.y,λOt=>by rw[hfo];exact(c.n Ot).imp id (λ⟨h3,y,hy,h4⟩=>⟨h3,y,by rw[nW];simp[hy],h4⟩)⟩)⟩
    .have hm':(fQ step fr az m q seen s x.aW).more=false:=by simpa using hm
     rw[if_neg (λh=>hm h.1)];have hfo:fj step (tI fr az (bZ (bw v h (x::l)))) s=fj step (tI fr az (gF v h x.aW)) s:=by
      rw[nW,yF,wN]
      by_cases BO:(fj step (tI fr az (gF v h x.aW)) s).2=true
      .rw[if_pos BO]
       rcases r3.n hm' with h3|⟨h3,y,hy,h4⟩
       .rw[h3]at BO;cases BO
       .rw[Bc h3 (λz hz=>nZ h4 (sX (VW z hz y hy)))];exact kV rfl BO.symm
      .rw[if_neg BO]
     refine⟨r1,by omega,.inr ⟨r3.e,by rw[hfo];exact r3.f,λh=>absurd h hm,λh=>by rw[hfo];exact(r3.n h).imp id (λ⟨h3,y,hy,h4⟩=>⟨h3,y,by rw[nW];simp[hy],h4⟩)⟩⟩
theorem DE(rec:QS->Nat->σ->Int->Wk σ)(first:Nat)(b:List E):∀(a:List E) (i:Nat) (q:QS) (seen:Nat) (s:σ),i+a.length<=first->iF rec step fr az false first i (a++b) q seen s=iF rec step fr az false first (i+a.length) b q seen s
 |[],i,q,seen,s,_=>rfl
 |x::a,i,q,seen,s,h=>by
  rw[lI,iF];have hsk:mH fr false first i x=true:=by unfold mH;rw[decide_eq_true (by simp at h;omega)];rfl
  rw[if_pos hsk,DE rec first b a (i+1) q seen s (by simp at h;omega),fI,show i+1+a.length=i+(a.length+1) by omega]
theorem Ou :∀(h m:Nat),h<m->VV step fr az v o mm u h m
 |h,0,hm=>absurd hm (by omega)
 |h,m+1,hm=>by
  intro q p seen s R hO hs;have QM:1<=(aM v h p).length:=by rw[pf];simp
  unfold fQ;rw[if_neg (by omega)];obtain⟨r1,r2⟩:=R.read p
  rcases r2 with r2|⟨r2,r3⟩
  .cases h with
   |zero=>
    have hp:=ph hO.1;have nW:gF v 0 p=(iG v p).2.1:=FK v 0 p;rw[r2,hO.1,if_neg (by simp)];dsimp only;rw[if_pos rfl];obtain⟨a,b,c⟩:=wO step fr az (fQ step fr az m) (iG v p).2.1 0 (q.bJ p).1 (seen+1) s hp;rw[a,b,nW];exact⟨r1,by omega,.inr c⟩
   |succ h=>
    obtain⟨o1,o2,o4,o3⟩:=hO;obtain⟨l,hl⟩:∃l,(iG v p).2.1=l:=⟨_,rfl⟩;have nW:gF v (h+1) p=bZ (bw v h l):=by rw[FK,hl];rfl
    have hlen:(aM v (h+1) p).length=1+(bw v h l).length:=by rw[pf,hl];simp[cI];omega
    rw[hl]at o1 o2 o3 o4;have hp:=ph o1;obtain⟨a,c,b,e1,e2,e3,e4⟩:=IL hp o3.ne fr;rw[r2,o1,if_neg (by simp)];dsimp only;rw[if_neg (by simp),e2,nW];have Js:=o3.lo;have Qz:=o3.hi;have hcc:=o3.c;rw[e1,dR]at Js;rw[e1]at Qz hcc;have hsk:=DE step fr az (fQ step fr az m) a.length (c::b) a 0 (q.bJ p).1 (seen+1) s (by omega);rw[bg]at hsk;rw[e1,hsk]
    have jx:(bw v h l).length=(bw v h a).length+(bw v h (c::b)).length:=by rw[e1,gS,aU]
    have hhi2:∀e∈c::b,∀x∈gF v h e.aW,(0<a.length\/e∈(c::b).tail)->nY e.key x.key:=λe he x hx hor=>by
     cases a with
     |nil=>
      rcases hor with h0|h0
      .exact absurd h0 (by simp)
      .exact Qz e h0 x hx
     |cons z a'=>exact Qz e (bK _ he) x hx
    obtain⟨i1,i2,i3⟩:=Oq step fr az (Ou h m (by omega)) a.length (c::b) a.length (q.bJ p).1 (seen+1) s (ak _) r1 (λe he=>hcc e (bK _ he)) Js.2.1 hhi2 (by omega);have hfa:tI fr az (bZ (bw v h (a++c::b)))=tI fr az (bZ (bw v h (c::b))):=by
     rw[gS,dV,yF,On (l:=bZ (bw v h a)) (λx hx=>?_),cW];obtain⟨e,he,hx⟩:=dG.1 hx;exact gr (Js.2.2 e he c (by simp) x hx) (e3 (λh0=>by rw[h0]at he;simp at he))
    refine⟨i1,by omega,i3.imp id (λw=>⟨w.e,by rw[hfa];exact w.f,by rw[hfa];exact w.y,λOt=>by rw[hfa];exact(w.n Ot).imp id (λ⟨h3,y,hy,h4⟩=>⟨h3,y,by rw[gS,dV];exact bK _ hy,h4⟩)⟩)⟩
  .rw[r2,if_pos (by simp)];exact⟨r1,by show seen+1<=_;omega,.inl ⟨rfl,r3⟩⟩
theorem wP{H:Nat}(R:Rd q v o u mm)(hO:mi v H 0)(hH:H<=15)(hn:(aM v H 0).length<=512)(s:σ):
  Rd (q.ev step fr az s).q v o u mm/\(((q.ev step fr az s).e=11/\mm<=u)\/((q.ev step fr az s).e=0/\(q.ev step fr az s).s=(fj step (tI fr az (gF v H 0)) s).1)):=by
 obtain⟨a,b,c⟩:=Ou step fr az (v:=v) (o:=o) (mm:=mm) (u:=u) H 16 (by omega) q 0 0 s R hO (by omega);exact⟨a,c.imp id (λw=>⟨w.e,w.f⟩)⟩
end
theorem Bd:∀(n:Nat) (l:List Nat),l.Nodup->(∀x∈l,x<n)->l.length<=n
 |0,l,_,h=>by
  cases l with
  |nil=>exact ak _
  |cons a l=>exact absurd (h a (by simp)) (by omega)
 |n+1,l,hn,h=>by
  by_cases hm:n∈l
  .have h1:=Bd n (l.erase n) (hn.erase n) (λx hx=>by
    have h2:=(List.Nodup.mem_erase_iff hn).1 hx;have h3:=h x h2.2;have h4:=h2.1;omega)
   have h5:=RP hm;omega
  .exact Nat.le_succ_of_le (Bd n l hn (λx hx=>by
    have h3:=h x hx;have h4:x≠n:=λe=>hm (by rw[<-e];exact hx);omega))
theorem VX{v:Vw}{o:Vw}{mm:Nat}(R:Rd q v o u mm){l:List Int}(hn:l.Nodup)(hl:∀j∈l,(v j).2=0):l.length<=512:=by
 have h1:(l.map Int.toNat).Nodup:=by
  rw[Ni,yj];refine List.Pairwise.imp_of_mem ?_ hn;intro a b ha hb ff e;have h2:=R.lt (hl a ha);have h3:=R.lt (hl b hb);exact ff (by omega)
 have h2:∀x∈l.map Int.toNat,x∈List.range 512:=λx hx=>by
  obtain⟨j,hj,rfl⟩:=dC.1 hx;have h3:=R.lt (hl j hj);exact kR.2 (by omega)
 have:=Bd 512 _ h1 (λx hx=>kR.1 (h2 x hx))
 rwa [fo]at this
open Nd (E aH bA aX bj dN bP bl cF bU)
attribute [local go_sem ↓] Go.wp_at_zero Go.wp_at_succ
variable{fn tb n Kz:Nat}{eF:Array Value}{I:Ix}{F:List Nat}
def ML{σ:Type}(fn:Nat)(eF:Array Value)(step:E->σ->σ×Bool)(ja:σ->Nat)(Inv:World->σ->List Nat->Prop)(v:Ev)(tb:Nat)(I:Ix)(F:List Nat)(n Kz:Nat)(fr az:ByteArray)(d:Nat):Prop:=
 ∀(w:World) (q:QS) (seen:Nat) (s:σ) (G:List Nat) (p:Int),seen<=512->TQ w tb I F q n (Kz+seen)->rN w v tb fr az fn eF seen->Inv w s G->(∀g∈tb::(v.l++F),g∉G)->(∀g∈v.l,g∉F/\g≠tb)->ja s<=57*seen->
  Calls prog 109 (#[.int .i64 p,.int .i64 (d:Nat)]++v.eF) w λe w'=>e=.returned (.tuple #[.bool (fQ step fr az d q seen s p).more,.int .i64 (fQ step fr az d q seen s p).e])/\WP w w' v tb I F G n Kz fr az fn eF ja Inv (fQ step fr az d q seen s p)
theorem I5{σ:Type}{step:E->σ->σ×Bool}{ja:σ->Nat}{Inv:World->σ->List Nat->Prop}(V:Vis fn eF step ja Inv){v:Ev}(fr az:ByteArray)(Vk:Kz<=999999990000)(d:Nat)(hd:d<=16)(IH:∀d',d=d'+1->ML fn eF step ja Inv v tb I F n Kz fr az d'):ML fn eF step ja Inv v tb I F n Kz fr az d:=by
  intro w q seen s G p hseen h hv hI hD hvF hmes;have IH:=xh IH;have KR:=xh (λ(W:World) (hW:TQ W tb I F q n (Kz+seen))=>nS hW (by omega) p);have hsB:v.sB∉F/\v.sB≠tb:=hvF _ (by simp[Ev.l]);have hs1:IntKind.i64.wrap ((seen:Int)+1)=(seen:Int)+1:=IntWalk.i64_in _ (by omega);have x0:=hv.s.ab (i:=0) rfl;have xz:=hv.s.frozen 0 (by simp);obtain⟨w1,I6⟩:∃w1,w.setCell ⟨v.sB,0,none⟩ (.int .i64 ((seen:Int)+1))=w1:=⟨_,rfl⟩
  have o1:ag [v.sB] w w1:=by rw[<-I6];exact(ag.refl _ _).setCell (by simp) _
  have H1:=xh (show TQ w1 tb I F q n (Kz+seen)/\rN w1 v tb fr az fn eF (seen+1)/\Inv w1 s G/\ag (v.sB::(F++G)) w w1 from
   ⟨h.only o1 (λg hg hm=>by
    rw[aQ.1 hm]at hg
    rcases an.1 hg with e|e
    .exact hsB.2 e
    .exact hsB.1 e),by rw[<-I6];exact hv.up,V.pD _ _ _ _ _ hI o1 (λg hg hm=>hD v.sB (by simp[Ev.l]) (by rw[<-aQ.1 hm];exact hg)),o1.mono (λg hg _=>by rw[aQ.1 hg];exact fY ..)⟩)
  have x1:=H1.o.2.1.s.ab (i:=0) rfl;have x2:=H1.o.2.1.t.ab (i:=0) rfl;have x3:=H1.o.2.1.f.ab (i:=0) rfl;obtain⟨R,hR⟩:∃R,fQ step fr az d q seen s p=R:=⟨_,rfl⟩;rw[hR];have HR:=xh hR;have HD:=xh hD;have HVF:=xh hvF;have HV:=xh V;clear h hv hI hD hvF hsB hR o1 V;unfold tp bA at *;unfold Ev.eF
  rw[show(#[Value.int .i64 p,.int .i64 (d:Nat)]++ #[Value.pointer (some ⟨v.sB,0,none⟩),.pointer (some ⟨v.tB,0,none⟩),.pointer (some ⟨v.fB,0,none⟩),.pointer (some ⟨v.oB,0,none⟩),.pointer (some ⟨v.dB,0,none⟩),.pointer (some ⟨v.kB,0,none⟩)]:Array Value)= #[Value.int .i64 p,.int .i64 (d:Nat),Value.pointer (some ⟨v.sB,0,none⟩),.pointer (some ⟨v.tB,0,none⟩),.pointer (some ⟨v.fB,0,none⟩),.pointer (some ⟨v.oB,0,none⟩),.pointer (some ⟨v.dB,0,none⟩),.pointer (some ⟨v.kB,0,none⟩)]from rfl]
  by_cases hd0:d=0
  .subst hd0;have bG:=HR.o;unfold fQ at bG;subst bG;go_enter func109,ntmps109;go_wp2_with fail;go_ret2;exact aE ⟨G,H1.o.1.le (by show Kz+seen<=Kz+(seen+1);omega),H1.o.2.1,H1.o.2.2.1,H1.o.2.2.2,λ_ h=> .inl h,by have:=hmes;show ja s<=57*(seen+1);omega,by show seen+1<=513;omega,λh=>absurd h (by show ¬((14:Int)=0);decide)⟩
  .obtain⟨d',rfl⟩:∃d',d=d'+1:=⟨d-1,by omega⟩;have bG:=HR.o;unfold fQ at bG;have hdI:¬((d':Int)+1=0):=by omega
   by_cases hs5:512<seen+1
   .rw[if_pos hs5]at bG;subst bG;have hsI:(512:Int)<(seen:Int)+1:=by omega
    go_enter func109,ntmps109;go_wp2_with fail;go_ret2;exact aE ⟨G,H1.o.1.le (by show Kz+seen<=Kz+(seen+1);omega),H1.o.2.1,H1.o.2.2.1,H1.o.2.2.2,λ_ h=> .inl h,by have:=hmes;show ja s<=57*(seen+1);omega,by show seen+1<=513;omega,λh=>absurd h (by show ¬((14:Int)=0);decide)⟩
   .rw[if_neg hs5]at bG;have hsI:¬((512:Int)<(seen:Int)+1):=by omega
    have qu:=wB (q:=q) (p:=p);have hlen:=mh q p;have eY:=xh bG;have K1:=xh (KR.o w1 H1.o.1);clear bG;generalize q.bJ p=r at *;obtain⟨q1,leaf,l,er⟩:=r;dsimp only at *;go_enter func109,ntmps109;go_wp2_with fail;refine K1.o.mono ?_;rintro e w2 ⟨A,c,rfl,S2,f2,P2,o2⟩;have gV:=ae (Below.refl w2.heap.size w2) (.cells #[.bool leaf,.slice A l.length c] 118);obtain⟨Du,hb12⟩:∃Du,w2.heap.size=Du:=⟨_,rfl⟩;have HB12:=xh hb12
    have BN:=aJ.new w2 118 #[.bool leaf,.slice A l.length c];rw[hb12]at BN;have H3:=xh (show LW w (w2.alloc (.cells #[.bool leaf,.slice A l.length c] 118)) v tb I F G n Kz fr az fn eF ja Inv q1 (seen+1) (57*seen) s G leaf A c Du l from
     ⟨(H1.o.1.next o2 P2).below gV,(H1.o.2.1.only o2 (λg hg=>(HVF.o g hg).1)).below gV,HV.o.pD _ _ _ _ [] (HV.o.pD _ _ _ _ F H1.o.2.2.1 o2 (λg hg hF=>HD.o g (by simp[hF]) hg)) (.aj gV) (by simp),(H1.o.2.2.2.aO o2 (λg hg _=>by simp[hg])).trans (.aj gV),λ_ h=> .inl h,hmes,S2.below gV,BN,
      λg hg hG=>by
       have dH:=HV.o.lt _ _ _ H1.o.2.2.1 g hG;have h12:=o2.size;simp only[an,aC]at hg
       rcases hg with e|hg|hg|e|hg
       .exact HD.o g (by simp[e]) hG
       .exact HD.o g (by simp[hg]) hG
       .exact HD.o g (by simp[hg]) hG
       .omega
       .have:=f2 g hg;omega,λg hg=>by
       have h12:=o2.size;have RD:=H1.o.2.2.2.size;have Jn:w1.heap.size<=g:=by
        rcases an.1 hg with e|hg
        .omega
        .exact f2 g hg
       refine⟨λhF=>?_,λe=>?_,by omega⟩
       .have:=H1.o.1.lt g (by simp[hF]);omega
       .have:=H1.o.2.1.s.lt;omega,HVF.o⟩)
    clear S2 f2 P2 o2 gV BN x0 x1 x2 x3 xz
    by_cases he:er=0
    .subst he;have HM:=xh (qu rfl);have bG:=eY.o;rw[if_neg (show ¬((0:Int)≠0) by simp)]at bG
     cases leaf
     .rw[if_neg (show ¬(false=true) by simp)]at bG;have eY:=xh bG;have HL:=xh hlen;have KB:=xh (Nd.Ar false A l.length c l fr (Nd.aT.aH H3.o.s).2 (by omega) HM.o);unfold bA at KB;have y0:=H3.o.b.ab (i:=0) rfl;have y1:=H3.o.b.ab (i:=1) rfl;have y3:=H3.o.e.f.ab (i:=0) rfl;have hfs:bP l fr<=l.length:=by
       rcases yn l.length with h0|h0
       .have:l=[]:=D9.1 h0;subst this;exact Nat.le_of_eq (by unfold bP bl;split<;>rfl)
       .exact Nat.le_of_lt (wy (λe=>by rw[e]at h0;simp at h0) fr)
      generalize bP l fr=fs at *;clear bG;go_wp2_with fail;refine KB.o.mono ?_;rintro e w4 ⟨rfl,jw⟩;have H4:=xh (H3.o.below HV.o jw);clear y0 y1 y3 jw;have y0:=H4.o.b.ab (i:=0) rfl;have y1:=H4.o.b.ab (i:=1) rfl;have hs4:IntKind.i64.wrap (d':Int)=(d':Int):=IntWalk.i64_in _ (by omega);have hs6:IntKind.i64.wrap ((d':Int)+1-1)=(d':Int):=by rw[show(d':Int)+1-1=(d':Int) by omega];exact hs4
      go_wp2_with fail
      go_loopw [45] (λiv wr=> ∃(i:Nat) (qi:QS) (sn:Nat) (si:σ) (Gi:List Nat),i<=l.length/\iv=.int .i64 (i:Nat)/\sn<=512/\Hid (iF (fQ step fr az d') step fr az false fs i (l.drop i) qi sn si=R)/\Hid (LW w wr v tb I F G n Kz fr az fn eF ja Inv qi sn (57*sn) si Gi false A c Du l)) (λiv _=>l.length-(intOf iv).toNat)
      case atStart=>exact⟨0,q1,seen+1,s,G,aY _,rfl,by omega,eY,xh {H4.o with m:=by have:=H4.o.m;omega}⟩
      case round=>
       clear y0 y1;obtain⟨i,qi,sn,si,Gi,hi,rfl,P8,HE,HW⟩:=hrel
       by_cases hil:i<l.length
       .skip
        have hilI:(i:Int)<(l.length:Int):=by omega
        obtain⟨x,hx⟩:∃x,l[i]?=some x:=⟨_,aL hil⟩;have hE:=HE.o;rw[sg hil,show l[i]=x from by have:=aL hil;rw[hx]at this;injection this with h;exact h.symm]at hE;unfold iF at hE;have hxk:x.key.size<=32:=(ru HM.o x (ay hx)).1;have SL:=HW.o.s;obtain⟨ad,wC,fT⟩:=(Nd.aT.aH SL).2.2 i x hx;obtain⟨ga,ca,xI,Bv,_⟩:=SL.form (by omega) (by omega);injection Bv with e1 ezz e3
        clear ezz;subst e1 e3;injection wC with wC
        subst wC;rw[Nd.fe,bg]at fT;have gV:=ae (Below.refl wr.heap.size wr) (.cells #[.string x.key,.string x.val,.int .i64 x.aW] 111);have HA:=xh gV;have BX:=aJ.new wr 111 #[.string x.key,.string x.val,.int .i64 x.aW];have u0:=fT.c0;have u1:=fT.c1;have u2:=fT.c2;dsimp only at u1 u2;have z0:=BX.ab (i:=0) rfl;have z1:=BX.ab (i:=1) rfl;have z2:=BX.ab (i:=2) rfl;have nE:=xh (HW.o.below HV.o gV)
        have n0:=nE.o.b.ab (i:=0) rfl;have m3:=nE.o.e.f.ab (i:=0) rfl;have m4:=nE.o.e.o.ab (i:=0) rfl;have m5:=nE.o.e.d.ab (i:=0) rfl;have m6:=nE.o.e.k.ab (i:=0) rfl;have Ge:¬((i:Int)<0):=by omega
        have HE:=xh hE;clear fT SL BX hE hx gV;unfold Ev.eF at m6
        by_cases rS:i<fs
        .have hE:=HE.o;rw[if_pos (show mH fr false fs i x=true from by unfold mH;simp[rS])]at hE;have HE:=xh hE;have hbI:(i:Int)<(fs:Int):=by omega
         clear hE rS;go_wp2_with fail;go_roundw
         case rel=>exact⟨i+1,qi,sn,si,Gi,by omega,rfl,P8,HE,nE⟩
         case measure=>simp[intOf];omega
        .have hbI:¬((i:Int)<(fs:Int)):=by omega
         have hE:=HE.o;rw[if_neg (show ¬mH fr false fs i x=true from by unfold mH;simp[rS])]at hE;have HE:=xh hE;clear rS hE
         by_cases ht:(az.toList==[])=true
         .have hE:=HE.o;rw[if_neg (show ¬lF az false i x=true from by unfold lF;rw[ht];simp),if_neg (show ¬(false=true) by simp)]at hE;have ht1:az.toList=[]:=by simpa using ht
          have HE:=xh hE;clear hE;have Ot:=nE.o.m;have KI:=IH.o d' rfl _ qi sn si Gi x.aW P8 nE.o.t nE.o.e nE.o.i (λg hg=>nE.o.d g (by simp only[an,aC]at hg ⊢;rcases hg with e|e|e<;>simp[e])) nE.o.y Ot;unfold Ev.eF at KI
          rw[show(#[Value.int .i64 x.aW,.int .i64 (d':Nat)]++ #[Value.pointer (some ⟨v.sB,0,none⟩),.pointer (some ⟨v.tB,0,none⟩),.pointer (some ⟨v.fB,0,none⟩),.pointer (some ⟨v.oB,0,none⟩),.pointer (some ⟨v.dB,0,none⟩),.pointer (some ⟨v.kB,0,none⟩)]:Array Value)= #[Value.int .i64 x.aW,.int .i64 (d':Nat),Value.pointer (some ⟨v.sB,0,none⟩),.pointer (some ⟨v.tB,0,none⟩),.pointer (some ⟨v.fB,0,none⟩),.pointer (some ⟨v.oB,0,none⟩),.pointer (some ⟨v.dB,0,none⟩),.pointer (some ⟨v.kB,0,none⟩)]from rfl]at KI
          generalize fQ step fr az d' qi sn si x.aW=RW at *;obtain⟨qw,sw,ssw,mw,ew⟩:=RW;dsimp only at *;have KI:=xh KI;clear Ot;go_wp2_with fail;refine KI.o.mono ?_;rintro e w7 ⟨rfl,hWP⟩;obtain⟨G',L7,I8,I9⟩:=nE.o.deep hWP;have H7:=xh L7;have H8:=xh (And.intro I8 I9);clear L7 I8 I9 hWP u0 u1 u2 z0 z1 z2 n0 m3 m4 m5 m6;have hE:=HE.o
          cases mw
          .rw[if_neg (by simp)]at hE;subst hE;go_wp2_with fail;go_ret2;exact aE (H7.o.wp (ak _) H8.o.1 _ _ H8.o.2)
          .by_cases Ov:ew=0
           .subst Ov;rw[if_pos ⟨rfl,rfl⟩]at hE;have HE:=xh hE;clear hE;go_wp2_with fail;go_roundw
            case rel=>exact⟨i+1,qw,sw,ssw,G',by omega,rfl,H8.o.2 (by trivial),HE,H7⟩
            case measure=>simp[intOf];omega
           .rw[if_neg (λh=>Ov h.2)]at hE;subst hE;have hq:(ew != 0)=true:=by rw[bne_iff_ne];exact Ov
            have kt:(ew==0)=false:=by rw[beq_eq_false_iff_ne];exact Ov
            go_wp2_with fail;go_ret2;exact aE (H7.o.wp (ak _) H8.o.1 _ _ H8.o.2)
         .have ht2:(az.toList==[])=false:=by simpa using ht
          have ht1:¬az.toList=[]:=by simpa using ht
          clear ht
          by_cases VY:Op.bytesLess x.key.toList az.toList=true
          .have hE:=HE.o;rw[if_neg (show ¬lF az false i x=true from by unfold lF;rw[VY];simp),if_neg (show ¬(false=true) by simp)]at hE;have HE:=xh hE;clear hE;have Ot:=nE.o.m;have KI:=IH.o d' rfl _ qi sn si Gi x.aW P8 nE.o.t nE.o.e nE.o.i (λg hg=>nE.o.d g (by simp only[an,aC]at hg ⊢;rcases hg with e|e|e<;>simp[e])) nE.o.y Ot;unfold Ev.eF at KI
           rw[show(#[Value.int .i64 x.aW,.int .i64 (d':Nat)]++ #[Value.pointer (some ⟨v.sB,0,none⟩),.pointer (some ⟨v.tB,0,none⟩),.pointer (some ⟨v.fB,0,none⟩),.pointer (some ⟨v.oB,0,none⟩),.pointer (some ⟨v.dB,0,none⟩),.pointer (some ⟨v.kB,0,none⟩)]:Array Value)= #[Value.int .i64 x.aW,.int .i64 (d':Nat),Value.pointer (some ⟨v.sB,0,none⟩),.pointer (some ⟨v.tB,0,none⟩),.pointer (some ⟨v.fB,0,none⟩),.pointer (some ⟨v.oB,0,none⟩),.pointer (some ⟨v.dB,0,none⟩),.pointer (some ⟨v.kB,0,none⟩)]from rfl]at KI
           generalize fQ step fr az d' qi sn si x.aW=RW at *;obtain⟨qw,sw,ssw,mw,ew⟩:=RW;dsimp only at *;have KI:=xh KI;clear Ot;go_wp2_with fail;refine KI.o.mono ?_;rintro e w7 ⟨rfl,hWP⟩;obtain⟨G',L7,I8,I9⟩:=nE.o.deep hWP;have H7:=xh L7;have H8:=xh (And.intro I8 I9);clear L7 I8 I9 hWP u0 u1 u2 z0 z1 z2 n0 m3 m4 m5 m6;have hE:=HE.o
           cases mw
           .rw[if_neg (by simp)]at hE;subst hE;go_wp2_with fail;go_ret2;exact aE (H7.o.wp (ak _) H8.o.1 _ _ H8.o.2)
           .by_cases Ov:ew=0
            .subst Ov;rw[if_pos ⟨rfl,rfl⟩]at hE;have HE:=xh hE;clear hE;go_wp2_with fail;go_roundw
             case rel=>exact⟨i+1,qw,sw,ssw,G',by omega,rfl,H8.o.2 (by trivial),HE,H7⟩
             case measure=>simp[intOf];omega
            .rw[if_neg (λh=>Ov h.2)]at hE;subst hE;have hq:(ew != 0)=true:=by rw[bne_iff_ne];exact Ov
             have kt:(ew==0)=false:=by rw[beq_eq_false_iff_ne];exact Ov
             go_wp2_with fail;go_ret2;exact aE (H7.o.wp (ak _) H8.o.1 _ _ H8.o.2)
          .have gh:Op.bytesLess x.key.toList az.toList=false:=by simpa using VY
           by_cases hip:0<i
           .have hE:=HE.o;rw[if_pos (show lF az false i x=true from by unfold lF;rw[gh,ht2];simp[hip])]at hE;subst hE;have hipI:(0:Int)<(i:Int):=by omega
            clear VY;go_wp2_with fail;go_ret2;exact aE (nE.o.wp (ak _) (by omega) _ _ (λ_=>P8))
           .have hE:=HE.o;rw[if_neg (show ¬lF az false i x=true from by unfold lF;rw[gh,ht2];simp[hip]),if_neg (show ¬(false=true) by simp)]at hE;have HE:=xh hE;have hipI:¬((0:Int)<(i:Int)):=by omega
            clear hE VY;have Ot:=nE.o.m;have KI:=IH.o d' rfl _ qi sn si Gi x.aW P8 nE.o.t nE.o.e nE.o.i (λg hg=>nE.o.d g (by simp only[an,aC]at hg ⊢;rcases hg with e|e|e<;>simp[e])) nE.o.y Ot;unfold Ev.eF at KI
            rw[show(#[Value.int .i64 x.aW,.int .i64 (d':Nat)]++ #[Value.pointer (some ⟨v.sB,0,none⟩),.pointer (some ⟨v.tB,0,none⟩),.pointer (some ⟨v.fB,0,none⟩),.pointer (some ⟨v.oB,0,none⟩),.pointer (some ⟨v.dB,0,none⟩),.pointer (some ⟨v.kB,0,none⟩)]:Array Value)= #[Value.int .i64 x.aW,.int .i64 (d':Nat),Value.pointer (some ⟨v.sB,0,none⟩),.pointer (some ⟨v.tB,0,none⟩),.pointer (some ⟨v.fB,0,none⟩),.pointer (some ⟨v.oB,0,none⟩),.pointer (some ⟨v.dB,0,none⟩),.pointer (some ⟨v.kB,0,none⟩)]from rfl]at KI
            generalize fQ step fr az d' qi sn si x.aW=RW at *;obtain⟨qw,sw,ssw,mw,ew⟩:=RW;dsimp only at *;have KI:=xh KI;clear Ot;go_wp2_with fail;refine KI.o.mono ?_;rintro e w7 ⟨rfl,hWP⟩;obtain⟨G',L7,I8,I9⟩:=nE.o.deep hWP;have H7:=xh L7;have H8:=xh (And.intro I8 I9);clear L7 I8 I9 hWP u0 u1 u2 z0 z1 z2 n0 m3 m4 m5 m6;have hE:=HE.o
            cases mw
            .rw[if_neg (by simp)]at hE;subst hE;go_wp2_with fail;go_ret2;exact aE (H7.o.wp (ak _) H8.o.1 _ _ H8.o.2)
            .by_cases Ov:ew=0
             .subst Ov;rw[if_pos ⟨rfl,rfl⟩]at hE;have HE:=xh hE;clear hE;go_wp2_with fail;go_roundw
              case rel=>exact⟨i+1,qw,sw,ssw,G',by omega,rfl,H8.o.2 (by trivial),HE,H7⟩
              case measure=>simp[intOf];omega
             .rw[if_neg (λh=>Ov h.2)]at hE;subst hE;have hq:(ew != 0)=true:=by rw[bne_iff_ne];exact Ov
              have kt:(ew==0)=false:=by rw[beq_eq_false_iff_ne];exact Ov
              go_wp2_with fail;go_ret2;exact aE (H7.o.wp (ak _) H8.o.1 _ _ H8.o.2)
       .obtain rfl:i=l.length:=by omega
        have hE:=HE.o;rw[JG]at hE;unfold iF at hE;subst hE;go_wp2_with fail;go_ret2;exact aE (HW.o.wp (ak _) (by omega) _ _ (λ_=>P8))
     .rw[if_pos rfl]at bG;have eY:=xh bG;have y0:=H3.o.b.ab (i:=0) rfl;have y1:=H3.o.b.ab (i:=1) rfl;have HL:=xh hlen;clear bG;go_wp2_with fail
      go_loopw [45] (λiv wr=> ∃(i:Nat) (si:σ) (Gi:List Nat),i<=l.length/\iv=.int .i64 (i:Nat)/\Hid (iF (fQ step fr az d') step fr az true 0 i (l.drop i) q1 (seen+1) si=R)/\Hid (LW w wr v tb I F G n Kz fr az fn eF ja Inv q1 (seen+1) (57*seen+i) si Gi true A c Du l)) (λiv _=>l.length-(intOf iv).toNat)
      case atStart=>exact⟨0,s,G,aY _,rfl,eY,H3⟩
      case round=>
       clear y0 y1;obtain⟨i,si,Gi,hi,rfl,HE,HW⟩:=hrel
       by_cases hil:i<l.length
       .skip
        have hilI:(i:Int)<(l.length:Int):=by omega
        obtain⟨x,hx⟩:∃x,l[i]?=some x:=⟨_,aL hil⟩;have hE:=HE.o;rw[sg hil,show l[i]=x from by have:=aL hil;rw[hx]at this;injection this with h;exact h.symm]at hE;unfold iF at hE;have hxk:x.key.size<=32:=(ru HM.o x (ay hx)).1;have SL:=HW.o.s;obtain⟨ad,wC,fT⟩:=(Nd.aT.aH SL).2.2 i x hx;obtain⟨ga,ca,xI,Bv,_⟩:=SL.form (by omega) (by omega);injection Bv with e1 ezz e3
        clear ezz;subst e1 e3;injection wC with wC
        subst wC;rw[Nd.fe,bg]at fT;have gV:=ae (Below.refl wr.heap.size wr) (.cells #[.string x.key,.string x.val,.int .i64 x.aW] 111);have HA:=xh gV;have BX:=aJ.new wr 111 #[.string x.key,.string x.val,.int .i64 x.aW];have u0:=fT.c0;have u1:=fT.c1;have u2:=fT.c2;dsimp only at u1 u2;have z0:=BX.ab (i:=0) rfl;have z1:=BX.ab (i:=1) rfl;have z2:=BX.ab (i:=2) rfl;have nE:=xh (HW.o.below HV.o gV)
        have n0:=nE.o.b.ab (i:=0) rfl;have m3:=nE.o.e.f.ab (i:=0) rfl;have m4:=nE.o.e.o.ab (i:=0) rfl;have m5:=nE.o.e.d.ab (i:=0) rfl;have m6:=nE.o.e.k.ab (i:=0) rfl;have Ge:¬((i:Int)<0):=by omega
        have HE:=xh hE;clear fT SL BX hE hx gV
        by_cases rS:Op.bytesLess x.key.toList fr.toList=true
        .have hE:=HE.o;rw[if_pos (show mH fr true 0 i x=true from by unfold mH;rw[rS];simp)]at hE;have HE:=xh hE;have HW:=xh (HW.o.below HV.o HA.o);clear hE;go_wp2_with fail;go_roundw
         case rel=>exact⟨i+1,si,Gi,by omega,rfl,HE,xh {HW.o with m:=by have:=HW.o.m;omega}⟩
         case measure=>simp[intOf];omega
        .have cA:Op.bytesLess x.key.toList fr.toList=false:=by simpa using rS
         have hE:=HE.o;rw[if_neg (show ¬mH fr true 0 i x=true from by unfold mH;rw[cA];simp)]at hE;have HE:=xh hE;clear rS hE
         by_cases ht:(az.toList==[])=true
         .have hE:=HE.o;rw[if_neg (show ¬lF az true i x=true from by unfold lF;rw[ht];simp)]at hE;have ht1:az.toList=[]:=by simpa using ht
          have HE:=xh hE;clear hE;have KC:=HV.o.call _ si Gi x nE.o.i (by have:=nE.o.m;omega) hxk;have h1s:=HV.o.one x si;have hE:=HE.o;rw[if_pos (show(true=true)from rfl)]at hE;generalize step x si=RS at *;obtain⟨s2,b2⟩:=RS;dsimp only at *;have KC:=xh KC;have HS:=xh h1s;have HE:=xh hE;unfold E.agg at KC;clear hE h1s;go_wp2_with fail;rw[HV.o.ent,Oper.upon_enter];refine KC.o.mono ?_;rintro e w7 ⟨rfl,G',hI7,o7,f7⟩
          have H7:=xh (nE.o.vis hI7 o7 f7 (bd':=57*seen+(i+1)) (by have:=nE.o.m;have:=HS.o;omega));clear hI7 o7 f7 u0 u1 u2 z0 z1 z2 n0 m3 m4 m5 m6;have hE:=HE.o
          cases b2
          .rw[if_neg (show ¬(false=true) by simp)]at hE;subst hE;go_wp2_with fail;go_ret2;exact aE (H7.o.wp (by omega) (by omega) _ _ (λ_=>by omega))
          .rw[if_pos (show(true=true)from rfl)]at hE;have HE:=xh hE;clear hE;go_wp2_with fail;go_roundw
           case rel=>exact⟨i+1,s2,G',by omega,rfl,HE,H7⟩
           case measure=>simp[intOf];omega
         .have ht2:(az.toList==[])=false:=by simpa using ht
          have ht1:¬az.toList=[]:=by simpa using ht
          clear ht
          by_cases VY:Op.bytesLess x.key.toList az.toList=true
          .have hE:=HE.o;rw[if_neg (show ¬lF az true i x=true from by unfold lF;rw[VY];simp)]at hE;have HE:=xh hE;clear hE;have KC:=HV.o.call _ si Gi x nE.o.i (by have:=nE.o.m;omega) hxk;have h1s:=HV.o.one x si;have hE:=HE.o;rw[if_pos (show(true=true)from rfl)]at hE;generalize step x si=RS at *;obtain⟨s2,b2⟩:=RS;dsimp only at *;have KC:=xh KC;have HS:=xh h1s;have HE:=xh hE;unfold E.agg at KC;clear hE h1s;go_wp2_with fail
           rw[HV.o.ent,Oper.upon_enter];refine KC.o.mono ?_;rintro e w7 ⟨rfl,G',hI7,o7,f7⟩;have H7:=xh (nE.o.vis hI7 o7 f7 (bd':=57*seen+(i+1)) (by have:=nE.o.m;have:=HS.o;omega));clear hI7 o7 f7 u0 u1 u2 z0 z1 z2 n0 m3 m4 m5 m6;have hE:=HE.o
           cases b2
           .rw[if_neg (show ¬(false=true) by simp)]at hE;subst hE;go_wp2_with fail;go_ret2;exact aE (H7.o.wp (by omega) (by omega) _ _ (λ_=>by omega))
           .rw[if_pos (show(true=true)from rfl)]at hE;have HE:=xh hE;clear hE;go_wp2_with fail;go_roundw
            case rel=>exact⟨i+1,s2,G',by omega,rfl,HE,H7⟩
            case measure=>simp[intOf];omega
          .have gh:Op.bytesLess x.key.toList az.toList=false:=by simpa using VY
           have hE:=HE.o;rw[if_pos (show lF az true i x=true from by unfold lF;rw[gh,ht2];simp)]at hE;subst hE;have HW:=xh (HW.o.below HV.o HA.o);clear VY;go_wp2_with fail;go_ret2;exact aE (HW.o.wp (by omega) (by omega) _ _ (λ_=>by omega))
       .obtain rfl:i=l.length:=by omega
        have hE:=HE.o;rw[JG]at hE;unfold iF at hE;subst hE;go_wp2_with fail;go_ret2;exact aE (HW.o.wp (by omega) (by omega) _ _ (λ_=>by omega))
    .have bG:=eY.o;rw[if_pos he]at bG;subst bG;have hq:(er != 0)=true:=by rw[bne_iff_ne];exact he
     have kt:(er==0)=false:=by rw[beq_eq_false_iff_ne];exact he
     go_wp2_with fail;go_ret2;exact aE (H3.o.wp (by omega) (by omega) _ _ (λh=>absurd h he))
theorem DF{σ:Type}{step:E->σ->σ×Bool}{ja:σ->Nat}{Inv:World->σ->List Nat->Prop}(V:Vis fn eF step ja Inv){v:Ev}(fr az:ByteArray)(Vk:Kz<=999999990000):∀d,d<=16->ML fn eF step ja Inv v tb I F n Kz fr az d
 |0,h=>I5 V fr az Vk 0 h (λd' e=>absurd e (by omega))
 |d+1,h=>I5 V fr az Vk (d+1) h (λd' e=>by
  obtain rfl:d'=d:=by omega
  exact DF V fr az Vk d' (by omega))
theorem wQ{σ:Type}{fn:Nat}{eF:Array Value}{step:E->σ->σ×Bool}{ja:σ->Nat}{Inv:World->σ->List Nat->Prop}(V:Vis fn eF step ja Inv){w:World}{tb:Nat}{I:Ix}{F G:List Nat}{q:QS}{n K:Nat}{s:σ}(h:TQ w tb I F q n K)(hK:K<=999999990000)(fr az:ByteArray)(hI:Inv w s G)(hD:∀g∈tb::F,g∉G)(hm:ja s=0):
  Calls prog 60 #[tp tb,.string fr,.string az,.func (.func fn) #[] eF] w λe w'=>e=.returned (.int .i64 (q.ev step fr az s).e)/\∃G',TQ w' tb I F (q.ev step fr az s).q n (K+513)/\Inv w' (q.ev step fr az s).s G'/\ag (F++G) w w'/\(∀g∈G',g∈G\/w.heap.size<=g)/\ja (q.ev step fr az s).s<=57*513/\(∀g∈tb::F,g∉G'):=by
 have hmf:∀(fn:Fn) (first cap:Array Value) (w:World),(Instr.makeFunc fn first cap).run prog w=.ok (.func fn first cap) w:=λ_ _ _ _=>rfl;unfold tp at *;obtain⟨z,hz⟩:∃z,w.heap.size=z:=⟨_,rfl⟩;have W0:=Below.refl w.heap.size w;obtain⟨w1,I6⟩:∃w1,w.alloc (.cells #[.pointer (some ⟨tb,0,none⟩)] 35)=w1:=⟨_,rfl⟩;have s1:w1.heap.size=z+1:=by rw[<-I6,jD,hz]
 have Ja:aJ w1 (z) 35 #[.pointer (some ⟨tb,0,none⟩)]:=by rw[<-I6,<-hz];exact aJ.new _ _ _
 have W1:=aB W0 (ae (Below.refl w.heap.size w) (.cells #[.pointer (some ⟨tb,0,none⟩)] 35));rw[I6]at W1;obtain⟨w2,Ex⟩:∃w2,w1.alloc (.cells #[.string fr] 9)=w2:=⟨_,rfl⟩;have s2:w2.heap.size=z+1+1:=by rw[<-Ex,jD,s1]
 have Jb:aJ w2 (z+1) 9 #[.string fr]:=by rw[<-Ex,<-s1];exact aJ.new _ _ _
 have Be:=Ja.alloc (.cells #[.string fr] 9);rw[Ex]at Be;have W2:=aB W1 (ae (Below.refl w1.heap.size w1) (.cells #[.string fr] 9));rw[Ex]at W2;obtain⟨w3,Ke⟩:∃w3,w2.alloc (.cells #[.string az] 9)=w3:=⟨_,rfl⟩;have s3:w3.heap.size=z+1+1+1:=by rw[<-Ke,jD,s2]
 have MM:aJ w3 (z+1+1) 9 #[.string az]:=by rw[<-Ke,<-s2];exact aJ.new _ _ _
 have MN:=Be.alloc (.cells #[.string az] 9);rw[Ke]at MN;have wR:=Jb.alloc (.cells #[.string az] 9);rw[Ke]at wR;have W3:=aB W2 (ae (Below.refl w2.heap.size w2) (.cells #[.string az] 9));rw[Ke]at W3;obtain⟨w4,hw4⟩:∃w4,w3.alloc (.cells #[.func (.func fn) #[] eF] 112)=w4:=⟨_,rfl⟩;have s4:w4.heap.size=z+1+1+1+1:=by rw[<-hw4,jD,s3]
 have c3_4:aJ w4 (z+1+1+1) 112 #[.func (.func fn) #[] eF]:=by rw[<-hw4,<-s3];exact aJ.new _ _ _
 have c0_4:=MN.alloc (.cells #[.func (.func fn) #[] eF] 112);rw[hw4]at c0_4;have c1_4:=wR.alloc (.cells #[.func (.func fn) #[] eF] 112);rw[hw4]at c1_4;have c2_4:=MM.alloc (.cells #[.func (.func fn) #[] eF] 112);rw[hw4]at c2_4;have W4:=aB W3 (ae (Below.refl w3.heap.size w3) (.cells #[.func (.func fn) #[] eF] 112));rw[hw4]at W4;obtain⟨w5,Pe⟩:∃w5,w4.alloc (.cells #[.int .i64 0] 3)=w5:=⟨_,rfl⟩;have s5:w5.heap.size=z+1+1+1+1+1:=by rw[<-Pe,jD,s4]
 have c4_5:aJ w5 (z+1+1+1+1) 3 #[.int .i64 (0:Nat)]:=by rw[<-Pe,<-s4];exact aJ.new _ _ _
 have c0_5:=c0_4.alloc (.cells #[.int .i64 0] 3);rw[Pe]at c0_5;have c1_5:=c1_4.alloc (.cells #[.int .i64 0] 3);rw[Pe]at c1_5;have c2_5:=c2_4.alloc (.cells #[.int .i64 0] 3);rw[Pe]at c2_5;have c3_5:=c3_4.alloc (.cells #[.int .i64 0] 3);rw[Pe]at c3_5;have W5:=aB W4 (ae (Below.refl w4.heap.size w4) (.cells #[.int .i64 0] 3));rw[Pe]at W5;obtain⟨w6,N9⟩:∃w6,w5.alloc (.cells #[.nilFunc] 191)=w6:=⟨_,rfl⟩;have s6:w6.heap.size=z+1+1+1+1+1+1:=by rw[<-N9,jD,s5]
 have VZ:aJ w6 (z+1+1+1+1+1) 191 #[.nilFunc]:=by rw[<-N9,<-s5];exact aJ.new _ _ _
 have c0_6:=c0_5.alloc (.cells #[.nilFunc] 191);rw[N9]at c0_6;have c1_6:=c1_5.alloc (.cells #[.nilFunc] 191);rw[N9]at c1_6;have c2_6:=c2_5.alloc (.cells #[.nilFunc] 191);rw[N9]at c2_6;have c3_6:=c3_5.alloc (.cells #[.nilFunc] 191);rw[N9]at c3_6;have c4_6:=c4_5.alloc (.cells #[.nilFunc] 191);rw[N9]at c4_6;have W6:=aB W5 (ae (Below.refl w5.heap.size w5) (.cells #[.nilFunc] 191));rw[N9]at W6;obtain⟨v,hv⟩:∃v:Ev,v=⟨z+1+1+1+1,z,z+1,z+1+1,z+1+1+1,z+1+1+1+1+1⟩:=⟨_,rfl⟩
 have x0:=c0_4.ab (i:=0) rfl;have x5:w6.cell? ⟨z+1+1+1+1+1,0,none⟩=some .nilFunc:=VZ.ab (i:=0) rfl;have f5:=VZ.frozen 0 (by simp);obtain⟨w7,hw7⟩:∃w7,w6.setCell ⟨z+1+1+1+1+1,0,none⟩ (.func (.func 109) #[] #[.pointer (some ⟨z+1+1+1+1,0,none⟩),.pointer (some ⟨z,0,none⟩),.pointer (some ⟨z+1,0,none⟩),.pointer (some ⟨z+1+1,0,none⟩),.pointer (some ⟨z+1+1+1,0,none⟩),.pointer (some ⟨z+1+1+1+1+1,0,none⟩)])=w7:=⟨_,rfl⟩
 have x7:w7.cell? ⟨z+1+1+1+1+1,0,none⟩=some (.func (.func 109) #[] #[.pointer (some ⟨z+1+1+1+1,0,none⟩),.pointer (some ⟨z,0,none⟩),.pointer (some ⟨z+1,0,none⟩),.pointer (some ⟨z+1+1,0,none⟩),.pointer (some ⟨z+1+1+1,0,none⟩),.pointer (some ⟨z+1+1+1+1+1,0,none⟩)]):=by rw[<-hw7];exact(VZ.bE 0 _).ab (i:=0) rfl
 have o7:ag [z+1+1+1+1+1] w6 w7:=by rw[<-hw7];exact(ag.refl _ _).setCell (by simp) _
 have E7:rN w7 v tb fr az fn eF 0:=by
  rw[hv]at *;exact⟨c4_6.only o7 (by simp<;>omega),c0_6.only o7 (by simp<;>omega),c1_6.only o7 (by simp<;>omega),c2_6.only o7 (by simp<;>omega),c3_6.only o7 (by simp<;>omega),by rw[<-hw7];exact VZ.bE 0 _⟩
 have T7:TQ w7 tb I F q n (K+0):=(h.below W6).only o7 (λg hg hm=>by have:=h.lt g hg;rw[aQ.1 hm]at this;omega);have I7:Inv w7 s G:=V.pD _ _ _ _ _ (V.pD _ _ _ _ [] hI (.aj W6) (by simp)) o7 (λg hg hm=>by have:=V.lt _ _ _ hI g hg;rw[aQ.1 hm]at this;omega);have hvl:∀g∈v.l,z<=g:=λg hg=>by rw[hv]at hg;simp[Ev.l]at hg;omega
 have KW:=DF V (v:=v) (tb:=tb) (I:=I) (F:=F) (n:=n) fr az hK 16 (ak _) w7 q 0 s G 0 (by omega) T7 E7 I7 (λg hg hG=>by
  simp only[an,aC]at hg
  rcases hg with e|hg|hg
  .exact hD g (by simp[e]) hG
  .have:=hvl g hg;have:=V.lt _ _ _ hI g hG;omega
  .exact hD g (by simp[hg]) hG) (λg hg=>⟨λhF=>by have:=hvl g hg;have:=h.lt g (by simp[hF]);omega,λe=>by have:=hvl g hg;have:=h.lt g (by simp[e]);omega⟩) (by omega)
 have HW6:=xh W6;have KW:Calls prog 109 #[Value.int .i64 0,.int .i64 16,.pointer (some ⟨z+1+1+1+1,0,none⟩),.pointer (some ⟨z,0,none⟩),.pointer (some ⟨z+1,0,none⟩),.pointer (some ⟨z+1+1,0,none⟩),.pointer (some ⟨z+1+1+1,0,none⟩),.pointer (some ⟨z+1+1+1+1+1,0,none⟩)] w7 (λe w'=>e=.returned (.tuple #[.bool (q.ev step fr az s).more,.int .i64 (q.ev step fr az s).e])/\WP w7 w' v tb I F G n K fr az fn eF ja Inv (q.ev step fr az s)):=by rw[hv]at KW ⊢;exact KW
 have KW:=xh KW;have HV:=xh hvl;have hv:=xh hv;have o7:=xh o7;have oO:=xh (λg hg=>h.lt g hg);have HZ:=xh hz;clear Ja Be MN c0_5 c0_6 Jb wR c1_4 c1_5 c1_6 MM c2_4 c2_5 c2_6 c3_4 c3_5 c3_6 c4_5 c4_6 VZ W0 W1 W2 W3 W4 W5 W6 s1 s2 s3 s4 s5 s6 T7 I7 hvl;subst I6 Ex Ke hw4 Pe;go_enter func60,ntmps60;go_wp2_with fail;refine KW.o.mono ?_;rintro e w8 ⟨rfl,G',a1,a2,a3,a4,a5,a6,a7,a8⟩
 have H8:=xh (And.intro a1 (And.intro a3 (And.intro a4 (And.intro a5 (And.intro a6 a7)))));clear a1 a2 a3 a4 a5 a6 a7 a8;go_wp2_with fail;go_ret;have hD:=hD;obtain⟨b1,b3,b4,b5,b6,b7⟩:=H8.o;have o6:=ag.aj (S:=F++G) HW6.o;have o8:=o6.aO o7.o (λx hx dH=>by rw[aQ.1 hx]at dH;have:=HZ.o;omega);have o9:=o8.aO b4 (λx hx dH=>by
  rcases an.1 hx with rfl|hx
  .have:=HV.o v.sB (by simp[Ev.l]);have:=HZ.o;omega
  .exact hx)
 exact⟨rfl,G',b1.le (by omega),b3,o9,λg hg=>(b5 g hg).imp id (λhl=>ar o8.size hl),by omega,λg hg hG=>by
  rcases b5 g hG with h1|h1
  .exact hD g hg h1
  .have:=oO.o g hg;have:=o8.size;omega⟩
open Nd (E aH bA aX bj dN bP bl cF)
attribute [local go_sem ↓] bz
variable{lb nb fb:Nat}{n:Int}{w w':World}{s:List E}{G S:List Nat}
theorem wS{P:Program}{f:FuncId}{fn:Func}(hf:P.funcs[f]?=some fn)(hname:(fn.name== "runtime.NumGoroutine")=false)(hb:fn.body.isNone=false)(args:Array Value)(w:World):Sem.run P (callFunc f args) w=.ok (.enter f args) w:=by
 have h1:fn.name≠ "runtime.NumGoroutine" :=by simpa using hname
 have h2:fn.body≠none:=λh=>by rw[h]at hb;cases hb
 simp[callFunc,hf,h1,h2]
def lp(b:Nat):Value:= .pointer (some ⟨b,0,none⟩)
def mN(n:Int)(x:E)(s:List E):List E×Bool:=((if(s.length:Int)<n then s++[x]else s),decide (((if(s.length:Int)<n then s++[x]else s).length:Int)<n))
def qC(lb nb:Nat)(n:Int)(w:World)(s:List E)(G:List Nat):Prop:=
 ∃A c,G=lb::nb::ai (.slice A s.length c)/\aJ w lb 108 #[.slice A s.length c]/\aJ w nb 3 #[.int .i64 n]/\aT w 111 3 (.slice A s.length c) s.length (aH s)/\lb≠nb
theorem qC.lt(h:qC lb nb n w s G):∀g∈G,g<w.heap.size:=λg hg=>by
 obtain⟨A,c,rfl,h1,h2,h3,h4⟩:=h
 rcases an.1 hg with rfl|hg
 .exact h1.lt
 .rcases an.1 hg with rfl|hg
  .exact h2.lt
  .exact h3.lt g hg
theorem qC.only(h:qC lb nb n w s G)(o:ag S w w')(hs:∀g∈G,g∉S):qC lb nb n w' s G:=by
 obtain⟨A,c,rfl,h1,h2,h3,h4⟩:=h;exact⟨A,c,rfl,h1.only o (hs _ (by simp)),h2.only o (hs _ (by simp)),h3.only o (λg hg=>hs g (by simp[hg])),h4⟩
theorem MO:(prog.info? 111).map (λi=>(i.zero,i.size,i.bytes))=some (some (.agg #[.string .empty,.string .empty,.int .i64 0]),3,40):=by kernel_rfl
theorem Rc(x:E)(h:qC lb nb n w s G)(hs:s.length<=100000):
  Calls prog 61 #[x.agg,lp lb,lp nb] w λe w'=>e=.returned (.bool (mN n x s).2)/\∃G',qC lb nb n w' (mN n x s).1 G'/\ag G w w'/\∀g∈G',g∈G\/w.heap.size<=g:=by
 obtain⟨A,c,rfl,B1,B2,S1,ff⟩:=h;obtain⟨z,hz⟩:∃z,w.heap.size=z:=⟨_,rfl⟩;obtain⟨k,hk⟩:∃k,s.length=k:=⟨_,rfl⟩;rw[hk]at hs B1 S1 ⊢;have hb:=ae (Below.refl w.heap.size w) (.cells #[.string x.key,.string x.val,.int .i64 x.aW] 111);have l1:=B1.lt;have l2:=B2.lt;have l3:=S1.lt;have C1:=B1.below hb l1;have C2:=B2.below hb l2;have CS:=S1.below hb;have B3:=aJ.new w 111 #[.string x.key,.string x.val,.int .i64 x.aW];have uX:=cU CS C1 (by decide);have TV:=cU CS C2 (by decide)
 have c1:=C1.ab (i:=0) rfl;have c2:=C2.ab (i:=0) rfl;have d0:=B3.ab (i:=0) rfl;have d1:=B3.ab (i:=1) rfl;have d2:=B3.ab (i:=2) rfl;have HB:=xh hb;unfold mN;rw[hk]
 by_cases hn:(k:Int)<n
 .rw[if_pos hn];obtain⟨v',w3,ea,S3,oa,fa⟩:=Nd.sQ CS 108 108 _ 40 underlying108 MO rfl x (by unfold maxLen;omega) (by omega);have f1:=(C1.only oa uX).frozen 0 (by simp);have x1:=(C1.only oa uX).ab (i:=0) rfl;have y2:=(C2.only oa TV).ab (i:=0) rfl;have hlen:(s++[x]).length=k+1:=by simp[hk]
  obtain⟨A3,c3,Gg⟩:=au S3;subst Gg;have fT:aH s++E.cells x=aH (s++[x]):=by rw[Nd.gl];simp[aH,E.cells]
  rw[fT]at S3;have D1:=(C1.only oa uX).bE 0 (.slice A3 (k+1) c3);have D2:=(C2.only oa TV).aW (p:=⟨lb,0,none⟩) (λe=>ff e.symm) (.slice A3 (k+1) c3);have D3:=S3.only (S:=[lb]) ((ag.refl _ _).setCell (by simp) _:ag [lb] w3 (w3.setCell ⟨lb,0,none⟩ (.slice A3 (k+1) c3))) (λg hg hm=>by
   rw[aQ.1 hm]at hg;exact cU S3 (C1.only oa uX) (by decide) hg)
  have o3:ag (lb::nb::ai (.slice A k c)) w (w3.setCell ⟨lb,0,none⟩ (.slice A3 (k+1) c3)):=((ag.aj HB.o).aO oa (λg hg _=>by simp[hg])).setCell (by simp) _;have fr3:∀g∈lb::nb::ai (.slice A3 (k+1) c3),g∈lb::nb::ai (.slice A k c)\/w.heap.size<=g:=λg hg=>by
   rcases an.1 hg with rfl|hg
   .exact .inl (by simp)
   .rcases an.1 hg with rfl|hg
    .exact .inl (by simp)
    .rcases fa g hg with h|h
     .exact .inl (by simp[h])
     .exact .inr (by have:=HB.o.size;omega)
  have z1:=D1.ab (i:=0) rfl;have z2:=D2.ab (i:=0) rfl;have H9:=xh (show qC lb nb n (w3.setCell ⟨lb,0,none⟩ (.slice A3 (k+1) c3)) (s++[x]) (lb::nb::ai (.slice A3 (k+1) c3))/\ag (lb::nb::ai (.slice A k c)) w (w3.setCell ⟨lb,0,none⟩ (.slice A3 (k+1) c3))/\∀g∈lb::nb::ai (.slice A3 (k+1) c3),g∈lb::nb::ai (.slice A k c)\/w.heap.size<=g from
   ⟨⟨A3,c3,by rw[hlen],by rw[hlen];exact D1,D2,by rw[hlen];exact D3,ff⟩,o3,fr3⟩)
  have hlI:((s++[x]).length:Int)=(k:Int)+1:=by rw[hlen];omega
  have HLI:=xh hlI;rw[jD,hz]at ea;have EA:=xh ea;clear ea S3 oa fa D1 D2 D3 o3 fr3 hlen hlI fT uX TV C1 C2 CS B3 B1 B2 S1 hb l1 l2 l3 hs hk;unfold lp E.agg at *;go_enter func61,ntmps61;go_wp2_with fail;rw[EA.o];go_wp2_with fail;go_ret;refine⟨?_,_,H9.o.1,H9.o.2.1,H9.o.2.2⟩;rw[HLI.o];rfl
 .rw[if_neg hn];have H9:=xh (show qC lb nb n (w.alloc (.cells #[.string x.key,.string x.val,.int .i64 x.aW] 111)) s (lb::nb::ai (.slice A k c))from⟨A,c,by rw[hk],by rw[hk];exact C1,C2,by rw[hk];exact CS,ff⟩);have HK:=xh hk;have HN:=xh hn;have HS:=xh hb.size;clear uX TV C1 C2 CS B3 B1 B2 S1 hb l1 l2 l3 hs hk;unfold lp E.agg at *;go_enter func61,ntmps61;go_wp2_with fail;go_ret
  exact⟨by rw[HK.o,decide_eq_false (Int.not_lt.2 HN.o)];first|rfl|simp,_,H9.o,.aj HB.o,λg hg=> .inl (by simpa using hg)⟩
theorem V9(lb nb:Nat)(n:Int):Vis 61 #[lp lb,lp nb] (mN n) List.length (qC lb nb n) where
 call:=λW s G x h hs _=>Rc x h hs
 pD:=λW w' s G S h o hs=>h.only o hs
 lt:=λW s G h=>h.lt
 ent:=λargs W=>wS func61 (by kernel_rfl) (by kernel_rfl) args W
 one:=λx s=>by unfold mN;split<;>simp
def jF(x:E)(_:Option E):Option E×Bool:=(some x,true)
def optE:Option E->E
 |none=>Nd.E.zero
 |some x=>x
def Bf(lb fb:Nat)(w:World)(s:Option E)(G:List Nat):Prop:=
 G=[lb,fb]/\aJ w lb 111 #[.string (optE s).key,.string (optE s).val,.int .i64 (optE s).aW]/\aJ w fb 4 #[.bool s.isSome]/\lb≠fb
theorem Bf.only{s:Option E}(h:Bf lb fb w s G)(o:ag S w w')(hs:∀g∈G,g∉S):Bf lb fb w' s G:=by
 obtain⟨rfl,h1,h2,h4⟩:=h;exact⟨rfl,h1.only o (hs _ (by simp)),h2.only o (hs _ (by simp)),h4⟩
theorem Rf{s:Option E}(x:E)(h:Bf lb fb w s G):
  Calls prog 65 #[x.agg,lp lb,lp fb] w λe w'=>e=.returned (.bool (jF x s).2)/\∃G',Bf lb fb w' (jF x s).1 G'/\ag G w w'/\∀g∈G',g∈G\/w.heap.size<=g:=by
 obtain⟨rfl,B1,B2,ff⟩:=h;obtain⟨z,hz⟩:∃z,w.heap.size=z:=⟨_,rfl⟩;have hb:=ae (Below.refl w.heap.size w) (.cells #[.string x.key,.string x.val,.int .i64 x.aW] 111);have l1:=B1.lt;have l2:=B2.lt;have C1:=B1.below hb l1;have C2:=B2.below hb l2;have B3:=aJ.new w 111 #[.string x.key,.string x.val,.int .i64 x.aW];have d0:=B3.ab (i:=0) rfl;have d1:=B3.ab (i:=1) rfl;have d2:=B3.ab (i:=2) rfl
 obtain⟨D1,oa,y0,y1,y2,z0,z1,z2⟩:=Vg (a':=x.key) (b':=x.val) (c':=x.aW) C1;have D2:=C2.only oa (by simp;exact λe=>ff e.symm);have f2:=D2.frozen 0 (by simp);have x2:=D2.ab (i:=0) rfl;have E1:=D1.aW (p:=⟨fb,0,none⟩) ff (.bool true);have E2:=D2.bE 0 (.bool true);have o2:=((ag.aj (S:=[lb,fb]) hb).aO oa (λg hg _=>by simp at hg;simp[hg])).setCell (p:=⟨fb,0,none⟩) (by simp) (.bool true);have H9:=xh (And.intro E1 (And.intro E2 o2));have HN:=xh ff
 clear E1 E2 o2 D1 D2 oa C1 C2 B1 B2 B3 hb l1 l2 ff;unfold lp E.agg at *;go_enter func65,ntmps65;go_wp2_with fail;go_ret;exact⟨rfl,_,⟨rfl,H9.o.1,H9.o.2.1,HN.o⟩,H9.o.2.2,λg hg=> .inl hg⟩
def seenO(s:Option E):Nat:=if s.isSome then 1 else 0
theorem Wa(lb fb:Nat):Vis 65 #[lp lb,lp fb] jF seenO (Bf lb fb) where
 call:=λW s G x h hs _=>Rf x h
 pD:=λW w' s G S h o hs=>h.only o hs
 lt:=λW s G h g hg=>by
  obtain⟨rfl,h1,h2,_⟩:=h;simp only[an,gX,or_false]at hg
  rcases hg with rfl|rfl
  .exact h1.lt
  .exact h2.lt
 ent:=λargs W=>wS func65 (by kernel_rfl) (by kernel_rfl) args W
 one:=λx s=>by unfold jF seenO;cases s<;>simp
def fV(x:E)(s:List ByteArray):List ByteArray×Bool:=(s++[x.key],true)
def FU(l:List ByteArray):List Value:=l.map Value.string
def qD(lb:Nat)(w:World)(s:List ByteArray)(G:List Nat):Prop:=
 ∃A c,G=lb::ai (.slice A s.length c)/\aJ w lb 123 #[.slice A s.length c]/\aT w 9 1 (.slice A s.length c) s.length (FU s)
theorem qD.only{s:List ByteArray}(h:qD lb w s G)(o:ag S w w')(hs:∀g∈G,g∉S):qD lb w' s G:=by
 obtain⟨A,c,rfl,h1,h3⟩:=h;exact⟨A,c,rfl,h1.only o (hs _ (by simp)),h3.only o (λg hg=>hs g (by simp[hg]))⟩
theorem Rg:(prog.info? 9).map (λi=>(i.zero,i.size,i.bytes))=some (some (.string .empty),1,16):=by kernel_rfl
theorem MP{s:List ByteArray}(x:E)(h:qD lb w s G)(hs:s.length<=100000):
  Calls prog 66 #[x.agg,lp lb] w λe w'=>e=.returned (.bool (fV x s).2)/\∃G',qD lb w' (fV x s).1 G'/\ag G w w'/\∀g∈G',g∈G\/w.heap.size<=g:=by
 obtain⟨A,c,rfl,B1,S1⟩:=h;obtain⟨z,hz⟩:∃z,w.heap.size=z:=⟨_,rfl⟩;obtain⟨k,hk⟩:∃k,s.length=k:=⟨_,rfl⟩;rw[hk]at hs B1 S1 ⊢;have hb:=ae (Below.refl w.heap.size w) (.cells #[.string x.key,.string x.val,.int .i64 x.aW] 111);have l1:=B1.lt;have C1:=B1.below hb l1;have CS:=S1.below hb;have B3:=aJ.new w 111 #[.string x.key,.string x.val,.int .i64 x.aW];have uX:=cU CS C1 (by decide);have c1:=C1.ab (i:=0) rfl;have d0:=B3.ab (i:=0) rfl;have HB:=xh hb
 obtain⟨v',w3,ea,S3,oa,fa⟩:=cQ (P:=prog) CS 123 123 _ 16 underlying123 Rg rfl (.string x.key) rfl (by unfold maxLen;omega) (by omega);have f1:=(C1.only oa uX).frozen 0 (by simp);have x1:=(C1.only oa uX).ab (i:=0) rfl;have hlen:(s++[x.key]).length=k+1:=by simp[hk]
 obtain⟨A3,c3,Gg⟩:=au S3;subst Gg;have fT:FU s++[Value.string x.key]=FU (s++[x.key]):=by simp[FU]
 rw[fT]at S3;have D1:=(C1.only oa uX).bE 0 (.slice A3 (k+1) c3);have D3:=S3.only (S:=[lb]) ((ag.refl _ _).setCell (by simp) _:ag [lb] w3 (w3.setCell ⟨lb,0,none⟩ (.slice A3 (k+1) c3))) (λg hg hm=>by
  rw[aQ.1 hm]at hg;exact cU S3 (C1.only oa uX) (by decide) hg)
 have o3:ag (lb::ai (.slice A k c)) w (w3.setCell ⟨lb,0,none⟩ (.slice A3 (k+1) c3)):=((ag.aj HB.o).aO oa (λg hg _=>by simp[hg])).setCell (by simp) _;have fr3:∀g∈lb::ai (.slice A3 (k+1) c3),g∈lb::ai (.slice A k c)\/w.heap.size<=g:=λg hg=>by
  rcases an.1 hg with rfl|hg
  .exact .inl (by simp)
  .rcases fa g hg with h|h
   .exact .inl (by simp[h])
   .exact .inr (by have:=HB.o.size;omega)
 have H9:=xh (show qD lb (w3.setCell ⟨lb,0,none⟩ (.slice A3 (k+1) c3)) (s++[x.key]) (lb::ai (.slice A3 (k+1) c3))/\ag (lb::ai (.slice A k c)) w (w3.setCell ⟨lb,0,none⟩ (.slice A3 (k+1) c3))/\∀g∈lb::ai (.slice A3 (k+1) c3),g∈lb::ai (.slice A k c)\/w.heap.size<=g from
  ⟨⟨A3,c3,by rw[hlen],by rw[hlen];exact D1,by rw[hlen];exact D3⟩,o3,fr3⟩)
 rw[jD,hz]at ea;have EA:=xh ea;clear ea S3 oa fa D1 D3 o3 fr3 hlen fT uX C1 CS B3 B1 S1 hb l1 hs hk;unfold lp E.agg at *;go_enter func66,ntmps66;go_wp2_with fail;rw[EA.o];go_wp2_with fail;go_ret;exact⟨rfl,_,H9.o.1,H9.o.2.1,H9.o.2.2⟩
theorem Rh(lb:Nat):Vis 66 #[lp lb] fV List.length (qD lb) where
 call:=λW s G x h hs _=>MP x h hs
 pD:=λW w' s G S h o hs=>h.only o hs
 lt:=λW s G h g hg=>by
  obtain⟨A,c,rfl,h1,h3⟩:=h
  rcases an.1 hg with rfl|hg
  .exact h1.lt
  .exact h3.lt g hg
 ent:=λargs W=>wS func66 (by kernel_rfl) (by kernel_rfl) args W
 one:=λx s=>by unfold fV;simp
end Sh
end Go.Proofs.YtmonobkginiajaaGreat
