/- packed. -/
import Derived.Laws.EntriesVeiled
import Derived.Test.YtmonobkginiajaaGreatCs9
set_option linter.all false
set_option maxRecDepth 100000
set_option maxHeartbeats 8000000
namespace Go.Proofs.YtmonobkginiajaaGreat
open Go.Proofs.Tryz
open Value renaming string→U7,slice→U3,bool→WF
open Ending renaming returned→fd
open Obj renaming cells→Pi
namespace Sh
open Go.RowKit Pk Dk Pg
open Nd (E aJ aP dm bw aY cg aZ aw eh)
variable{v v':Vw}{h:Nat}{x:Step}{up:List Step}
structure Gt(v:Vw)(h:Nat)(x:Step)(up:List Step):Prop where
 hole:rp v up h x.au
 leaf:x.leaf=decide (h=0)
 here:(v x.au).2=0
 ok:ix v h x.l
 ne:x.l≠[]
 bk:blank x.leaf x.l=x.l
 ZQ:∀e∈iP v h x.l,JW up e.key
 M8:(cf (gH v up h)++x.au::(cf (cZ v h x.l)++cf (dY v up h))).Nodup
 sz:aw x.l<=302
def dR(v:Vw)(h:Nat)(x:Step)(up:List Step):List NT:=gH v up h++(h,x.au,x.l)::(cZ v h x.l++dY v up h)
structure Grown(v v':Vw)(H H':Nat)(ns:List NT)(new:List Int):Prop where
 ok:nL v' H' 0
 en:iT v' H' 0=cK ns
 pg:(cf (aS v' H' 0)).Perm (cf ns++new)
 fresh:∀j∈new,v j=([],3)
 M8:new.Nodup
 o:∀j,j∉cf ns->j∉new->v' j=v j
 JZ:∀wt c,Rc wt c->fj wt (aS v' H' 0)+c*new.length<=fj wt ns+(if H'=H then 0 else c)
 h:H'=H\/(H'=H+1/\∀wt c,Rc wt c->73*wt H<=fj wt ns)
def gX(v:Vw)(h:Nat)(x:Step)(up:List Step):cf (dR v h x up)=cf (gH v up h)++x.au::(cf (cZ v h x.l)++cf (dY v up h)):=by
 unfold dR;simp
def me(v:Vw)(h:Nat)(x:Step)(up:List Step):cK (dR v h x up)=cK (gH v up h)++(iP v h x.l++cK (dY v up h)):=by
 unfold dR
 cases h with
 |zero=>simp[cZ,iP]
 |succ h=>simp[cZ,iP]
def Gt.cost(P:Gt v h x up):∀e∈x.l,Nd.cost e<=79:=λe he=>by
 obtain⟨a,b,c⟩:=P.ok.1 e he;unfold Nd.cost;omega
def Gt.nin(P:Gt v h x up):(∀j∈cf (gH v up h),j≠x.au)/\(∀j∈cf (cZ v h x.l),j≠x.au)/\∀j∈cf (dY v up h),j≠x.au:=by
 have:=P.M8;rw[jJ,iC]at this;obtain⟨_,⟨a,_⟩,b⟩:=this;refine⟨λj hj e=>b j hj x.au lw e,λj hj e=>a (by rw[<-e];exact cL _ hj),λj hj e=>a (by rw[<-e];exact cv _ hj)⟩
def EL(hole:rp v up h x.au)(ok:ix v h x.l)(ne:up≠[]->x.l≠[])(ZQ:∀e∈iP v h x.l,JW up e.key)
 (M8:(cf (gH v up h)++x.au::(cf (cZ v h x.l)++cf (dY v up h))).Nodup)(hb:aw (blank (decide (h=0)) x.l)<=223)(hd:jO v' x.au=(decide (h=0),blank (decide (h=0)) x.l,0))(hv:∀j,j≠x.au->v' j=v j):
  nL v' (h+up.length) 0/\aS v' (h+up.length) 0=gH v up h++(h,x.au,blank (decide (h=0)) x.l)::(cZ v h x.l++dY v up h)/\iT v' (h+up.length) 0=cK (dR v h x up):=by
 have hn:=M8;rw[jJ,iC]at hn;obtain⟨_,⟨na,_⟩,nb⟩:=hn;obtain⟨c1,c2,c3⟩:=js up h x.au hole (λj hj=>hv j (λe=>nb j hj x.au lw e)) (λj hj=>hv j (λe=>na (by rw[<-e];exact cv _ hj)));obtain⟨l1,l2,l3⟩:=mc (v:=v) (v':=v') (h:=h) (l:=x.l) (λj hj=>hv j (λe=>na (by rw[<-e];exact cL _ hj)));obtain⟨k1,k2,k3⟩:=xN (l3 ok) hb hd
 obtain⟨p1,p2⟩:=plug up h x.au c1 k1 (λfy=>by rw[k3,l2];exact nO ok (ne fy)) (λe he=>by rw[k3,l2]at he;exact ZQ e he);rw[c2,c3,k2,l1,oZ]at p2;refine⟨p1,p2,?_⟩;unfold iT;rw[p2,me]
 cases h with
 |zero=>simp[cZ,iP,ma]
 |succ h=>simp[cZ,iP]
def VX(P:Gt v h x up)(hb:aw x.l<=223)(hd:jO v' x.au=(decide (h=0),x.l,0))(hv:∀j,j≠x.au->v' j=v j):
  Grown v v' (h+up.length) (h+up.length) (dR v h x up) []:=by
 have hbk:=P.bk;rw[P.leaf]at hbk;obtain⟨p1,p2,p3⟩:=EL P.hole P.ok (λ_=>P.ne) P.ZQ P.M8 (by rw[hbk];exact hb) (by rw[hbk];exact hd) hv;rw[hbk]at p2;have e:aS v' (h+up.length) 0=dR v h x up:=p2;refine⟨p1,p3,by rw[e,kM],lw,qv,λj hj _=>hv j (λej=>hj (by rw[gX,ej];simp)),λwt c _=>by rw[e,U8 rfl];simp,.inl rfl⟩
def Rg{l:List Int}{k:Int}(h:l.Nodup)(hk:k∉l):(l++[k]).Nodup:=by
 rw[jJ];exact⟨h,lw,λa ha b hb e=>hk (by rw[<-aG.1 hb,<-e];exact ha)⟩
def VY{a b:List E}{c n:E}(h:blank false (a++c::b)=a++c::b):blank false (a++c::n::b)=a++c::n::b:=by
 cases a with
 |nil=>
  have h:({c with key:=⟨#[]⟩}:E)::b=c::b:=h;injection h with h1 h2
  show({c with key:=⟨#[]⟩}:E)::n::b=_;rw[h1];rfl
 |cons z a=>
  have h:({z with key:=⟨#[]⟩}:E)::(a++c::b)=z::(a++c::b):=h;injection h with h1 h2
  show({z with key:=⟨#[]⟩}:E)::(a++c::n::b)=_;rw[h1];rfl
def pend_up{v2:Vw}{y:Step}(P:Gt v h x (y::up)){la lb:List E}(hl:x.l=la++lb)(ha:la≠[])(hb:lb≠[])(ba:aw la<=223)(bb:aw lb<=223)(hs:(aw la-151)+(aw lb-151)+73<=aw x.l-151)
 {k:Nat}(hk:k<=511)(hvk:v (k:Nat)=([],3))(rE:jO v2 x.au=(decide (h=0),blank (decide (h=0)) la,0))(YS:jO v2 (k:Nat)=(decide (h=0),blank (decide (h=0)) lb,0))(hv:∀j,j≠x.au->j≠(k:Nat)->v2 j=v j)(h2:(v2 x.au).2=0/\(v2 (k:Nat)).2=0):
  Gt v2 (h+1) {y with l:=y.l.insertIdx (y.at_+1) ⟨keyOf lb,⟨#[]⟩,(k:Nat)⟩} up/\
  ∀{v':Vw} {H':Nat} {new:List Int},Grown v2 v' (h+1+up.length) H' (dR v2 (h+1) {y with l:=y.l.insertIdx (y.at_+1) ⟨keyOf lb,⟨#[]⟩,(k:Nat)⟩} up) new->Grown v v' (h+(y::up).length) H' (dR v h x (y::up)) ((k:Nat)::new):=by
 obtain⟨⟨a,c,b,f,hsib⟩,hU⟩:=P.hole;obtain⟨t1,t2,t3⟩:=mB f;obtain⟨n1,n2,n3⟩:=P.nin;obtain⟨hh1,hh2⟩:=Ib (y::up) h x.au P.hole;have hlk:=Ia P.ok;have nk:∀j,(v j).2=0->j≠(k:Nat):=λj hj e=>by rw[e,hvk]at hj;exact eq hj ms
 have mV:∀j∈cf (gH v (y::up) h),v2 j=v j:=λj hj=>hv j (n1 j hj) (nk j (hh1 j hj));have xP:∀j∈cf (dY v (y::up) h),v2 j=v j:=λj hj=>hv j (n3 j hj) (nk j (hh2 j hj));have M9:∀j∈cf (cZ v h x.l),v2 j=v j:=λj hj=>hv j (n2 j hj) (nk j (hlk j hj));obtain⟨H2,e1,e2⟩:=js (y::up) h x.au P.hole mV xP;have fN:=P.ok;rw[hl]at fN M9;rw[nN,dK]at M9;obtain⟨sa,sb,s1,s2,s3⟩:=vU fN ha hb
 obtain⟨ka1,ka2,ka3⟩:=mc (v:=v) (v':=v2) (h:=h) (l:=la) (λj hj=>M9 j (cL _ hj));obtain⟨kb1,kb2,kb3⟩:=mc (v:=v) (v':=v2) (h:=h) (l:=lb) (λj hj=>M9 j (cv _ hj));obtain⟨oa1,oa2,oa3⟩:=xN (ka3 sa) (aD (eA _ _) ba) rE;obtain⟨ob1,ob2,ob3⟩:=xN (kb3 sb) (aD (eA _ _) bb) YS;rw[ka1]at oa2;rw[kb1]at ob2;rw[ka2]at oa3;rw[kb2]at ob3;obtain⟨⟨a',c',b',f2,ZV⟩,hU2⟩:=H2
 have sE:a'=a/\c'=c/\b'=b:=by
  have q1:=(mB f2);exact⟨by rw[<-q1.1,t1],by rw[<-q1.2.2,t3],by rw[<-q1.2.1,t2]⟩
 obtain⟨rfl,rfl,rfl⟩:=sE;obtain⟨n,hn⟩:∃n:E,n=⟨keyOf lb,⟨#[]⟩,(k:Nat)⟩:=⟨_,rfl⟩;have hnf:n.bh=(k:Nat):=by rw[hn]
 have hnk:n.key=keyOf lb:=by rw[hn]
 rw[<-hn];have hins:y.l.insertIdx (y.at_+1) n=a'++c'::n::b':=by rw[f.l,f.at_,Rf]
 rw[hins];have hinP:=P.ZQ;rw[hl,zz]at hinP;have inA:∀e∈iP v h la,(a'≠[]->q8 c'.key e.key)/\(∀z∈b',iK e.key z.key)/\JW up e.key:=λe he=>(oq f up e.key).1 (hinP e (cL _ he));have inB:∀e∈iP v h lb,(a'≠[]->q8 c'.key e.key)/\(∀z∈b',iK e.key z.key)/\JW up e.key:=λe he=>(oq f up e.key).1 (hinP e (cv _ he));have neA:=nO sa ha;have neB:=nO sb hb;have enc:iT v2 h c'.bh=iP v h la:=by rw[f.bh,oa3]
 have enn:iT v2 h n.bh=iP v h lb:=by rw[hnf,ob3]
 have sV:=nM (qZ (v:=v) (p:=y.au) (by rw[f.nd]));rw[f.nd]at sV;have sV:∀e∈a'++c'::b',eh e false:=by rw[<-f.l];exact sV
 have flo:=f2.lo;rw[eH]at flo;have hin2:vT (nL v2 h) (iT v2 h) (a'++c'::n::b'):=by
  refine⟨by simp,λe he=>?_,?_,λe he=>?_⟩
  .rcases aK.1 he with he|he
   .exact f2.ch e (cL _ he)
   .rcases ax.1 he with rfl|he
    .exact⟨by rw[f.bh];exact oa1,by rw[enc];exact neA⟩
    .rcases ax.1 he with rfl|he
     .exact⟨by rw[hnf];exact ob1,by rw[enn];exact neB⟩
     .exact f2.ch e (cv _ he)
  .rw[eH,eT,eT];refine⟨flo.1,⟨λe he x hx=>?_,λe he x hx=>?_,flo.2.1⟩,λe he e' Bi x hx=>?_⟩
   .rw[enc]at hx
    rcases ax.1 he with rfl|he
    .rw[hnk];exact s1 x hx
    .exact(inA x hx).2.1 e he
   .rw[enn]at hx;exact(inB x hx).2.1 e he
   .rcases ax.1 Bi with rfl|Bi
    .exact f2.la e he x hx
    .rcases ax.1 Bi with rfl|Bi
     .rw[hnk];obtain⟨z,hz⟩:=ym _ neA;exact kg (iI (f2.la e he x hx) ((inA z hz).1 (λh0=>by rw[h0]at he;simp at he))) (s1 z hz)
     .exact flo.2.2 e he e' Bi x hx
  .have hmid:∀e∈n::b',∀x∈iT v2 h e.bh,q8 e.key x.key:=λe he x hx=>by
    rcases ax.1 he with rfl|he
    .rw[enn]at hx;rw[hnk];exact s2 x hx
    .exact f2.hb e he x hx
   cases ha':a' with
   |nil=>
    rw[ha']at he;exact hmid e he
   |cons z a2=>
    have fy:a'≠[]:=by rw[ha'];simp
    have hha:=f2.ha;rw[ha']at he hha;rw[oZ,mj]at he;rw[mj]at hha
    rcases aK.1 he with he|he
    .exact hha e he
    .rcases ax.1 he with rfl|he
     .intro x hx;rw[enc]at hx;exact(inA x hx).1 fy
     .exact hmid e he
 have AG:bW v2 h (a'++c'::n::b')=bW v h a'++((h,x.au,blank (decide (h=0)) la)::cZ v h la++((h,((k:Nat):Int),blank (decide (h=0)) lb)::cZ v h lb++bW v h b')):=by
  rw[iY,ia,ia,f.bh,hnf,oa2,ob2];have q1:bW v2 h a'=bW v h a':=(jr (λj hj=>mV j (by simp only[dO,dZ];rw[t1,dK,dN];exact cv _ (aH _ hj)))).1;have q2:bW v2 h b'=bW v h b':=(jr (λj hj=>xP j (by simp only[de,dg];rw[t2,dK];exact cL _ hj))).1;rw[q1,q2]
 have EM:gH v2 up (h+1)=gH v up (h+1):=by
  exact(js up (h+1) y.au hU (λj hj=>mV j (by simp only[dO,dZ];rw[dK];exact cL _ hj)) (λj hj=>xP j (by simp only[de,dg];rw[dK];exact cv _ hj))).2.1
 have vV:dY v2 up (h+1)=dY v up (h+1):=by
  exact(js up (h+1) y.au hU (λj hj=>mV j (by simp only[dO,dZ];rw[dK];exact cL _ hj)) (λj hj=>xP j (by simp only[de,dg];rw[dK];exact cv _ hj))).2.2
 have hold:cf (dR v h x (y::up))=cf (gH v up (h+1))++(y.au::cf (bW v h a'))++x.au::((cf (cZ v h la)++cf (cZ v h lb))++(cf (bW v h b')++cf (dY v up (h+1)))):=by
  rw[gX,hl,nN,dK];simp only[dO,de,dZ,dg];rw[t1,t2];simp
 have J3:cf (dR v2 (h+1) {y with l:=a'++c'::n::b'} up)=cf (gH v up (h+1))++y.au::(cf (bW v h a')++(x.au::cf (cZ v h la)++(((k:Nat):Int)::cf (cZ v h lb)++cf (bW v h b')))++cf (dY v up (h+1))):=by
  rw[gX];show cf (gH v2 up (h+1))++y.au::(cf (bW v2 h (a'++c'::n::b'))++cf (dY v2 up (h+1)))=_;rw[AG,EM,vV];simp
 have uZ:(cf (dR v2 (h+1) {y with l:=a'++c'::n::b'} up)).Perm (cf (dR v h x (y::up))++[((k:Nat):Int)]):=by
  rw[J3,hold,I6];intro j;simp only[OV,OY,List.count_nil];omega
 have hknin:((k:Nat):Int)∉cf (dR v h x (y::up)):=λhm=>by
  rw[gX]at hm
  rcases aK.1 hm with hm|hm
  .exact nk _ (hh1 _ hm) rfl
  .rcases ax.1 hm with hm|hm
   .exact nk _ P.here hm.symm
   .rcases aK.1 hm with hm|hm
    .exact nk _ (hlk _ hm) rfl
    .exact nk _ (hh2 _ hm) rfl
 have Na:=P.M8;rw[<-gX]at Na;have hnod:(cf (dR v2 (h+1) {y with l:=a'++c'::n::b'} up)).Nodup:=uZ.nodup_iff.2 (Rg Na hknin);have hcostn:n.key.size+n.val.size+7<=39:=by rw[hn];show(keyOf lb).size+0+7<=39;omega
 have hby:=f.by_;rw[f.l,fJ,fI]at hby;have Pq:aw (a'++c'::n::b')<=aw y.l+39:=by
  rw[f.l,fJ,fJ,fI,fI,fI];omega
 refine⟨⟨hU2,?_,?_,⟨λe he=>?_,hin2⟩,by simp,?_,λe he=>?_,?_,?_⟩,λ{v' H' new} G=>?_⟩
 .show y.leaf=decide (h+1=0);rw[f.leaf];rfl
 .exact om (by show(jO v2 y.au).2.2=0;rw[f2.nd])
 .rcases aK.1 he with he|he
  .exact sV e (cL _ he)
  .rcases ax.1 he with rfl|he
   .exact sV _ (by simp)
   .rcases ax.1 he with rfl|he
    .rw[hn];exact⟨s3,bG _,by show(if(decide (h+1=0))=true then(-1:Int)else 0)<=((k:Nat):Int);split<;>omega,by show((k:Nat):Int)<512;omega,.inr rfl⟩
    .exact sV e (cv _ (aH _ he))
 .show blank y.leaf _=_;rw[f.leaf];exact VY (by rw[<-f.l];exact f.bk)
 .have he:e∈cK (bW v2 h (a'++c'::n::b')):=he;obtain⟨z,hz,hx⟩:=eB.1 he;have sib:∀z∈a'++b',e∈iT v2 h z.bh->JW up e.key:=λz hz hx=>ZV z hz e hx
  rcases aK.1 hz with hz|hz
  .exact sib z (cL _ hz) hx
  .rcases ax.1 hz with rfl|hz
   .rw[enc]at hx;exact(inA e hx).2.2
   .rcases ax.1 hz with rfl|hz
    .rw[enn]at hx;exact(inB e hx).2.2
    .exact sib z (cv _ hz) hx
 .rw[<-gX];exact hnod
 .have:=f.by_;show aw (a'++c'::n::b')<=302;omega
 .have ZW:∀wt c,Rc wt c->fj wt (dR v2 (h+1) {y with l:=a'++c'::n::b'} up)+c<=fj wt (dR v h x (y::up)):=λwt c hw=>by
   have h1:=hw h;have h2:=eA (decide (h=0)) la;have h3:=eA (decide (h=0)) lb;have e3:fj wt (dR v2 (h+1) {y with l:=a'++c'::n::b'} up)=fj wt (gH v up (h+1))+(wt (h+1)*(aw (a'++c'::n::b')-151)+(fj wt (bW v h a')+((wt h*(aw (blank (decide (h=0)) la)-151)+fj wt (cZ v h la))+((wt h*(aw (blank (decide (h=0)) lb)-151)+fj wt (cZ v h lb))+fj wt (bW v h b')))+fj wt (dY v up (h+1)))):=by
    unfold dR;show fj wt (gH v2 up (h+1)++(h+1,y.au,a'++c'::n::b')::(bW v2 h (a'++c'::n::b')++dY v2 up (h+1)))=_;rw[AG,EM,vV];simp only[kG,fK]
   have e4:fj wt (dR v h x (y::up))=(fj wt (gH v up (h+1))+(wt (h+1)*(aw y.l-151)+fj wt (bW v h a')))+(wt h*(aw x.l-151)+((fj wt (cZ v h la)+fj wt (cZ v h lb))+(fj wt (bW v h b')+fj wt (dY v up (h+1))))):=by
    unfold dR;simp only[dO,de,dZ,dg];rw[t1,t2];simp only[kG,fK];rw[show cZ v h x.l=cZ v h la++cZ v h lb by rw[hl,nN]];simp only[kG]
   have m1:wt (h+1)*(aw (a'++c'::n::b')-151)<=wt (h+1)*(aw y.l-151)+wt (h+1)*39:=by
    rw[<-tK];exact m7 _ (by omega)
   have m2:wt h*(aw (blank (decide (h=0)) la)-151)+wt h*(aw (blank (decide (h=0)) lb)-151)+wt h*73<=wt h*(aw x.l-151):=by
    rw[<-tK,<-tK];exact m7 _ (by omega)
   rw[e3,e4];omega
  have hHl:h+(y::up).length=h+1+up.length:=by simp;omega
  have hmemP:∀j,j∈cf (dR v2 (h+1) {y with l:=a'++c'::n::b'} up)↔j∈cf (dR v h x (y::up))\/j=(k:Nat):=λj=>by rw[uZ.mem_iff];simp
  have hxin:x.au∈cf (dR v h x (y::up)):=by rw[gX];simp
  rw[hHl];refine⟨G.ok,?_,?_,λj hj=>?_,?_,λj h1 h3=>?_,λwt c hw=>?_,?_⟩
  .rw[G.en,me,me];show cK (gH v2 up (h+1))++(cK (bW v2 h (a'++c'::n::b'))++cK (dY v2 up (h+1)))=_;rw[iY,ia,ia,eJ,eJ,eJ];have q1:bW v2 h a'=bW v h a':=(jr (λj hj=>mV j (by simp only[dO,dZ];rw[t1,dK,dN];exact cv _ (aH _ hj)))).1
   have q2:bW v2 h b'=bW v h b':=(jr (λj hj=>xP j (by simp only[de,dg];rw[t2,dK];exact cL _ hj))).1;have q3:cK (aS v2 h c'.bh)=iP v h la:=enc;have q4:cK (aS v2 h n.bh)=iP v h lb:=enn;rw[q1,q2,q3,q4,EM,vV,hl,zz];simp only[dO,de,dZ,dg];rw[t1,t2];simp
  .refine G.pg.trans ?_;refine(uZ.append_right new).trans ?_;simp
  .rcases ax.1 hj with rfl|hj
   .exact hvk
   .have:=G.fresh j hj;rw[hv j]at this
    .exact this
    .intro e;rw[e]at this;rw[this]at h2;exact eq h2.1 ms
    .intro e;rw[e]at this;rw[this]at h2;exact eq h2.2 ms
  .rw[iC];refine⟨λhm=>?_,G.M8⟩;have:=G.fresh _ hm;rw[this]at h2;exact eq h2.2 ms
  .rw[ax,not_or]at h3;rw[G.o j (by rw[hmemP];rintro(h5|h5);exact h1 h5;exact h3.1 h5) h3.2];exact hv j (λe=>h1 (by rw[e];exact hxin)) h3.1
  .have p1:=G.JZ wt c hw;have p2:=ZW wt c hw;rw[jh,Nat.mul_succ];omega
  .refine G.h.imp id (λ⟨h5,h6⟩=>⟨h5,λwt c hw=>?_⟩);have p1:=h6 wt c hw;have p2:=ZW wt c hw;omega
def grow_ok{v v3:Vw}{h:Nat}{x:Step}(P:Gt v h x []){la lb:List E}(hl:x.l=la++lb)(ha:la≠[])(hb:lb≠[])(ba:aw la<=223)(bb:aw lb<=223)(hs:(aw la-151)+(aw lb-151)+73<=aw x.l-151)
  {k1 k2:Nat}(hk1:k1<=511)(Xe:k2<=511)(rB:v (k1:Nat)=([],3))(rl:v (k2:Nat)=([],3))(fy:k1≠k2)
  (rE:jO v3 (k1:Nat)=(decide (h=0),blank (decide (h=0)) la,0))(YS:jO v3 (k2:Nat)=(decide (h=0),blank (decide (h=0)) lb,0))
  (ZX:jO v3 0=(false,[⟨⟨#[]⟩,⟨#[]⟩,(k1:Nat)⟩,⟨keyOf lb,⟨#[]⟩,(k2:Nat)⟩],0))(hv:∀j:Int,j≠0->j≠(k1:Nat)->j≠(k2:Nat)->v3 j=v j):
  Grown v v3 h (h+1) (dR v h x []) [(k1:Nat),(k2:Nat)]:=by
 have Gn:x.au=0:=P.hole;have hlk:=Ia P.ok;have hkin:=P.nin.2.1;have fN:=P.ok;rw[hl]at fN;obtain⟨sa,sb,s1,s2,s3⟩:=vU fN ha hb;have nk1:∀j,(v j).2=0->j≠(k1:Nat):=λj hj e=>by rw[e,rB]at hj;exact eq hj ms
 have nk2:∀j,(v j).2=0->j≠(k2:Nat):=λj hj e=>by rw[e,rl]at hj;exact eq hj ms
 have M9:∀j∈cf (cZ v h x.l),v3 j=v j:=λj hj=>hv j (by rw[<-Gn];exact hkin j hj) (nk1 j (hlk j hj)) (nk2 j (hlk j hj));rw[hl,nN,dK]at M9;obtain⟨ka1,ka2,ka3⟩:=mc (v:=v) (v':=v3) (h:=h) (l:=la) (λj hj=>M9 j (cL _ hj));obtain⟨kb1,kb2,kb3⟩:=mc (v:=v) (v':=v3) (h:=h) (l:=lb) (λj hj=>M9 j (cv _ hj));obtain⟨oa1,oa2,oa3⟩:=xN (ka3 sa) (aD (eA _ _) ba) rE
 obtain⟨ob1,ob2,ob3⟩:=xN (kb3 sb) (aD (eA _ _) bb) YS;rw[ka1]at oa2;rw[kb1]at ob2;rw[ka2]at oa3;rw[kb2]at ob3;have neA:=nO sa ha;have neB:=nO sb hb;have pI:vT (nL v3 h) (iT v3 h) [⟨⟨#[]⟩,⟨#[]⟩,(k1:Nat)⟩,⟨keyOf lb,⟨#[]⟩,(k2:Nat)⟩]:=by
  refine⟨lw,λe he=>?_,?_,λe he=>?_⟩
  .simp only[ax,iD,or_false]at he
   rcases he with rfl|rfl
   .exact⟨oa1,by show iT v3 h _≠[];rw[oa3];exact neA⟩
   .exact⟨ob1,by show iT v3 h _≠[];rw[ob3];exact neB⟩
  .rw[eT];refine⟨λe he y hy=>?_,I5 _ _⟩;rw[aG.1 he];have hy:y∈iT v3 h (k1:Nat):=hy;rw[oa3]at hy;exact s1 y hy
  .have he:e∈[(⟨keyOf lb,⟨#[]⟩,(k2:Nat)⟩:E)]:=he;rw[aG.1 he];intro y hy;have hy:y∈iT v3 h (k2:Nat):=hy;rw[ob3]at hy;exact s2 y hy
 have hbyt:aw [(⟨⟨#[]⟩,⟨#[]⟩,(k1:Nat)⟩:E),⟨keyOf lb,⟨#[]⟩,(k2:Nat)⟩]<=46:=by
  rw[fI,fI];show 0+0+7+((keyOf lb).size+0+7+0)<=46;omega
 have hO:nL v3 (h+1) 0:=⟨by rw[ZX],by rw[ZX];exact aD hbyt ms,by rw[ZX];rfl,by rw[ZX];exact pI⟩;have hns:aS v3 (h+1) 0=(h+1,0,[⟨⟨#[]⟩,⟨#[]⟩,(k1:Nat)⟩,⟨keyOf lb,⟨#[]⟩,(k2:Nat)⟩])::(((h,((k1:Nat):Int),blank (decide (h=0)) la)::cZ v h la)++((h,((k2:Nat):Int),blank (decide (h=0)) lb)::cZ v h lb)):=by
  rw[oX,ZX];show _::bW v3 h _=_;rw[ia,ia,VV,kM,<-oa2,<-ob2]
 have Kt:dR v h x []=(h,0,x.l)::cZ v h x.l:=by unfold dR;simp only[dO,de,dZ,dg];rw[Gn];simp
 refine⟨hO,?_,?_,λj hj=>?_,?_,λj h1 h2=>?_,λwt c hw=>?_,.inr ⟨rfl,λwt c hw=>?_⟩⟩
 .unfold iT;rw[hns,l9,eJ,<-oa2,<-ob2,me];simp only[dO,de,dZ,dg];rw[hl,zz];show iT v3 h _++iT v3 h _=_;rw[oa3,ob3];simp
 .rw[hns,Kt,hl,nN,I6];intro j;simp only[dN,dK,OV,OY,List.count_nil];omega
 .simp only[ax,iD,or_false]at hj
  rcases hj with rfl|rfl
  .exact rB
  .exact rl
 .rw[iC];refine⟨λhm=>?_,lw⟩;have:=aG.1 hm;omega
 .rw[Kt]at h1;simp only[dN,ax,not_or,iD,or_false]at h1 h2;exact hv j h1.1 h2.1 h2.2
 .have h1:=hw h;have h2:=eA (decide (h=0)) la;have h3:=eA (decide (h=0)) lb;rw[hns,Kt,hl,nN,ge];simp only[fK,kG];rw[<-hl];have m2:wt h*(aw (blank (decide (h=0)) la)-151)+wt h*(aw (blank (decide (h=0)) lb)-151)+wt h*73<=wt h*(aw x.l-151):=by
   rw[<-tK,<-tK];exact m7 _ ls
  have m3:wt (h+1)*(aw [(⟨⟨#[]⟩,⟨#[]⟩,(k1:Nat)⟩:E),⟨keyOf lb,⟨#[]⟩,(k2:Nat)⟩]-151)=0:=by
   rw[Nat.sub_eq_zero_of_le (aD hbyt ms),wJ]
  rw[m3];show _+c*2<=_;omega
 .rw[Kt,fK];show 73*wt h<=wt h*(aw x.l-151)+_;have:wt h*73<=wt h*(aw x.l-151):=m7 _ ls;omega
section
variable{o:Vw}{mm:Nat}
def AH:∀(m:Nat) (up:List Step) (h:Nat) (x:Step) (q:QS) (v:Vw) (u:Nat),up.length<m->Gt v h x up->Rd q v o u mm->
  ((dX m (x::up) q).2=11/\∃v' u',Rd (dX m (x::up) q).1 v' o u' mm/\u'<=u+up.length+2/\(mm<=u'\/512<=u'))\/
  ((dX m (x::up) q).2=0/\∃v' new H',Rd (dX m (x::up) q).1 v' o (u+new.length) mm/\Grown v v' (h+up.length) H' (dR v h x up) new)
 |0,up,h,x,q,v,u,hm,P,R=>eq hm (by omega)
 |m+1,up,h,x,q,v,u,hm,P,R=>by
  have hbk:=P.bk;have vI:=P.leaf;rw[vI]at hbk
  by_cases hT:aw x.l<=223
  .have sW:=xO P.ok (by rw[hbk];exact hT);rw[<-vI]at sW;have e:dX (m+1) (x::up) q=q.bg x.au x.leaf x.l:=by
    unfold dX;rw[U8 (.inr sW)]
   rw[e]
   rcases R.write P.here sW with⟨w1,w2⟩|⟨w1,w2,w3⟩
   .refine .inr ⟨w1,_,[],_,w2,VX P hT ?_ (λj hj=>?_)⟩
    .rw[iH sW,U8 rfl,vI,hbk]
    .unfold kU;rw[U9 hj]
   .exact .inl ⟨w1,_,u,w2,by omega,.inl w3⟩
  .have Cm:=Q9 P.ok (by rw[hbk];omega);rw[<-vI]at Cm;have ew:q.bg x.au x.leaf x.l=(q,11):=by rw[VU q x.au (by rw[Cm];decide),Cm]
   obtain⟨la,lb,e1,e2,e3,ha,hb,ba,bb,hs⟩:=VW P.cost (by omega) P.sz;have fN:=P.ok;rw[e1]at fN;obtain⟨sa,sb,s1,s2,s3⟩:=vU fN ha hb;have la0:(bM x.leaf la).2=0:=by rw[vI];exact xO sa (aD (eA _ _) ba)
   have lb0:(bM x.leaf lb).2=0:=by rw[vI];exact xO sb (aD (eA _ _) bb)
   cases up with
   |nil=>
    have Gn:x.au=0:=P.hole;have e:dX (m+1) [x] q=q.lk x.leaf la lb:=by
     unfold dX;rw[ew,U9 (by rw[Cm];simp)];dsimp only;rw[e2,e3]
    rw[e];unfold QS.lk
    rcases R.make la0 with⟨k1,a1,a2,a3,a4⟩|⟨a1,a2,a3⟩
    .rw[a1,i8];dsimp only
     rcases a4.make lb0 with⟨k2,b1,b2,b3,b4⟩|⟨b1,b2,b3⟩
     .rw[b1,i8];dsimp only;have fy:k1≠k2:=λe=>by
       unfold kU at b3;rw[e,U8 rfl]at b3;exact eq (congrArg Prod.snd b3) (by show ¬(0:Int)=3;decide)
      have rl:v (k2:Nat)=([],3):=by
       unfold kU at b3;rw[ge]at b3;exact b3
      have SW:(v 0).2=0:=by have h0:=P.here;rw[Gn]at h0;exact h0
      have h0k1:(0:Int)≠(k1:Nat):=λe=>by rw[<-e]at a3;rw[a3]at SW;exact eq SW (by simp)
      have h0k2:(0:Int)≠(k2:Nat):=λe=>by rw[<-e]at rl;rw[rl]at SW;exact eq SW (by simp)
      have hL:(bM false [⟨⟨#[]⟩,⟨#[]⟩,(k1:Nat)⟩,⟨keyOf lb,⟨#[]⟩,(k2:Nat)⟩]).2=0:=by
       rcases pZ false [⟨⟨#[]⟩,⟨#[]⟩,(k1:Nat)⟩,⟨keyOf lb,⟨#[]⟩,(k2:Nat)⟩]with h1|h1|h1
       .exact h1.2.2.1
       .have h2:=h1.2.1;have h3:blank false [(⟨⟨#[]⟩,⟨#[]⟩,(k1:Nat)⟩:E),⟨keyOf lb,⟨#[]⟩,(k2:Nat)⟩]=[⟨⟨#[]⟩,⟨#[]⟩,(k1:Nat)⟩,⟨keyOf lb,⟨#[]⟩,(k2:Nat)⟩]:=rfl;rw[h3,fI,fI]at h2;have h4:0+0+7+((keyOf lb).size+0+7+0)>223:=h2;omega
       .exfalso;refine h1.1 ?_;show dm [(⟨⟨#[]⟩,⟨#[]⟩,(k1:Nat)⟩:E),⟨keyOf lb,⟨#[]⟩,(k2:Nat)⟩] false;refine Q5 (λz hz=>?_) ?_
        .simp only[ax,iD,or_false]at hz
         rcases hz with rfl|rfl
         .exact⟨bG _,bG _,by show(if false=true then(-1:Int)else 0)<=((k1:Nat):Int);rw[i8];omega,by show((k1:Nat):Int)<512;omega,.inr rfl⟩
         .exact⟨s3,bG _,by show(if false=true then(-1:Int)else 0)<=((k2:Nat):Int);rw[i8];omega,by show((k2:Nat):Int)<512;omega,.inr rfl⟩
        .rw[eT];refine⟨λz hz=>?_,I5 _ _⟩;rw[aG.1 hz];obtain⟨y,hy⟩:=ym _ (nO sa ha);exact kh (zy y.key) (s1 y hy)
      have lC:(kU (kU v (k1:Nat) (bM x.leaf la).1) (k2:Nat) (bM x.leaf lb).1 0).2=0:=by
       rw[nz _ _ h0k2,nz _ _ h0k1];exact SW
      rcases b4.write lC hL with⟨c1,c2⟩|⟨c1,c2,c3⟩
      .refine .inr ⟨c1,_,[(k1:Nat),(k2:Nat)],h+1,c2,?_⟩;refine grow_ok P e1 ha hb ba bb hs a2 b2 a3 rl fy ?_ ?_ ?_ (λj j1 j2 j3=>?_)
       .rw[iH hL,U9 (λe=>h0k1 e.symm),iH lb0,ge,iH la0,U8 rfl,vI]
       .rw[iH hL,U9 (λe=>h0k2 e.symm),iH lb0,U8 rfl,vI]
       .rw[iH hL,U8 rfl];rfl
       .rw[nz _ _ j1,nz _ _ j3,nz _ _ j2]
      .exact .inl ⟨c1,_,_,c2,by simp,.inl c3⟩
     .rw[b1,i9];exact .inl ⟨rfl,_,u+1+1,b2,by simp,b3.imp (λh=>by omega) (λh=>by omega)⟩
    .rw[a1,i9];exact .inl ⟨rfl,_,u+1,a2,by omega,a3.imp (λh=>by omega) (λh=>by omega)⟩
   |cons y up=>
    have e:dX (m+1) (x::y::up) q=if(q.cu x.leaf lb).2.2≠0 then((q.cu x.leaf lb).1,(q.cu x.leaf lb).2.2)
      else if((q.cu x.leaf lb).1.bg x.au x.leaf la).2≠0 then(q.cu x.leaf lb).1.bg x.au x.leaf la
      else dX m ({y with l:=y.l.insertIdx (y.at_+1) ⟨keyOf lb,⟨#[]⟩,(q.cu x.leaf lb).2.1⟩}::up) ((q.cu x.leaf lb).1.bg x.au x.leaf la).1:=by
     rw[dX,ew,U9 (by rw[Cm];simp)];dsimp only;rw[e2,e3]
    rw[e]
    rcases R.make lb0 with⟨k,a1,a2,a3,a4⟩|⟨a1,a2,a3⟩
    .rw[a1,i8];dsimp only;have Vm:x.au≠(k:Nat):=λe=>by have h0:=P.here;rw[e,a3]at h0;exact eq h0 ms
     have hz:(kU v (k:Nat) (bM x.leaf lb).1 x.au).2=0:=by
      unfold kU;rw[U9 Vm];exact P.here
     rcases a4.write hz la0 with⟨c1,c2⟩|⟨c1,c2,c3⟩
     .rw[U9 (by rw[c1];simp)];obtain⟨P2,hG⟩:=pend_up (v2:=kU (kU v (k:Nat) (bM x.leaf lb).1) x.au (bM x.leaf la).1) P e1 ha hb ba bb hs a2 a3 (by rw[iH la0,U8 rfl,vI]) (by rw[iH la0,U9 (λe=>Vm e.symm),iH lb0,U8 rfl,vI])
       (λj j1 j2=>by unfold kU;rw[U9 j1,U9 j2]) ⟨by unfold kU;rw[U8 rfl],by unfold kU;rw[U9 (λe=>Vm e.symm),U8 rfl]⟩
      rcases AH m up (h+1) _ _ _ (u+1) (by simp at hm;omega) P2 c2 with⟨d1,v',u',d2,d3,d4⟩|⟨d1,v',new,H',d2,d3⟩
      .exact .inl ⟨d1,v',u',d2,by simp;omega,d4⟩
      .refine .inr ⟨d1,v',(k:Nat)::new,H',?_,hG d3⟩;rw[jh,show u+(new.length+1)=u+1+new.length by omega];exact d2
     .rw[U8 (by rw[c1];simp)];exact .inl ⟨c1,_,_,c2,by omega,.inl c3⟩
    .rw[a1,i9];exact .inl ⟨rfl,_,u+1,a2,by omega,a3.imp (λh=>by omega) (λh=>by omega)⟩
end
open Nd (E)
variable{v v':Vw}{q:QS}{u:Nat}{L:List Int}{e:E}{val:Nm}
def rdC(v:Vw)(l:Int):Int×UV×Int:=
 if(v l).2≠0 then(0,[],(v l).2)else if 228<bS (v l).1 2 then(0,[],14)else((bS (v l).1 0:Int)-1,((v l).1.drop 4).take (bS (v l).1 2),0)
def VZ(v:Vw):Int->List Int->UV->Prop
 |p,[],b=>p= -1/\b=[]
 |p,q::L,b=>p=q/\∃nx pc b',rdC v q=(nx,pc,0)/\b=pc++b'/\VZ v nx L b'
def rdC_ok{q nx:Int}{pc:UV}(h:rdC v q=(nx,pc,0)):(v q).2=0:=by
 unfold rdC at h
 by_cases h0:(v q).2=0
 .exact h0
 .rw[U8 h0,Prod.mk.injEq,Prod.mk.injEq]at h;exact eq h.2.2 h0
def V9{q:Int}(h:v' q=v q):rdC v' q=rdC v q:=by unfold rdC;rw[h]
def VZ.here :∀{L:List Int} {p:Int} {b:UV},VZ v p L b->∀q∈L,(v q).2=0
 |[],_,_,_=>by simp
 |q::L,p,b,h=>by
  obtain⟨rfl,nx,pc,b',h1,h2,h3⟩:=h;intro x hx
  rcases ax.1 hx with rfl|hx
  .exact rdC_ok h1
  .exact h3.here x hx
def VZ.congr :∀{L:List Int} {p:Int} {b:UV},VZ v p L b->(∀q∈L,v' q=v q)->VZ v' p L b
 |[],_,_,h,_=>h
 |q::L,p,b,h,e=>by
  obtain⟨rfl,nx,pc,b',h1,h2,h3⟩:=h;exact⟨rfl,nx,pc,b',by rw[V9 (e p (ie ..))];exact h1,h2,h3.congr (λx hx=>e x (aH _ hx))⟩
section
variable{o:Vw}{mm:Nat}
def VZ.neg(R:Rd q v o u mm){p:Int}{b:UV}(h:VZ v p L b):p<0↔L=[]:=by
 cases L with
 |nil=>obtain⟨rfl,rfl⟩:=h;exact⟨λ_=>rfl,λ_=>by omega⟩
 |cons q L=>
  have:=R.lt (h.here q (ie ..));obtain⟨rfl,_⟩:=h;exact⟨λh=>by omega,λh=>eq h lw⟩
def Rd.cW(R:Rd q v o u mm)(p:Int):Rd (q.cW p).1 v o u mm/\((q.cW p).2=rdC v p\/((q.cW p).2=(0,[],11)/\mm<=u)):=by
 obtain⟨a,b⟩:=R.get p;unfold QS.cW rdC
 rcases b with⟨b1,b2⟩|⟨b1,b2⟩|⟨b1,b2⟩
 .rw[b2,U9 (show ¬((⟨(v p).1.toArray⟩:Nm),(0:Int)).2≠0 by simp),U9 (show ¬(v p).2≠0 by omega)]
  by_cases hx:228<bS (v p).1 2
  .have Ou:228<bS (⟨(v p).1.toArray⟩:Nm).data.toList 2:=hx;rw[U8 Ou,U8 hx];exact⟨a,.inl rfl⟩
  .have Ou:¬228<bS (⟨(v p).1.toArray⟩:Nm).data.toList 2:=hx;rw[U9 Ou,U9 hx];exact⟨a,.inl rfl⟩
 .rw[b2,b1,i9,i9];exact⟨a,.inl rfl⟩
 .rw[b1,i9];exact⟨a,.inr ⟨rfl,b2⟩⟩
def vW:∀{L:List Int} {p:Int} {b:UV} (m:Nat) (l:List Int) (acc:UV) (q:QS) (v:Vw) (u:Nat),Rd q v o u mm->VZ v p L b->L≠[]->L.length<=m->(acc++b).length<=1024->
  Rd (q.hJ m p l acc).1 v o u mm/\((q.hJ m p l acc).2=(l++L,acc++b,0)\/((q.hJ m p l acc).2=([],[],11)/\mm<=u))
 |[],_,_,_,_,_,_,_,_,_,_,h,_,_=>eq rfl h
 |c::L,p,b,0,_,_,_,_,_,_,_,_,h,_=>by simp at h
 |c::L,p,b,m+1,l,acc,q,v,u,R,h,_,hm,hb=>by
  obtain⟨rfl,nx,pc,b',h1,rfl,h3⟩:=h;obtain⟨r1,r2⟩:=R.cW p;unfold QS.hJ
  rcases r2 with r2|⟨r2,r3⟩
  .rw[h1]at r2;rw[r2];dsimp only;rw[ge,ge,U9 (by simp at hb ⊢;omega)];have DH:=h3.neg R
   by_cases hn:nx<0
   .have hL:=DH.1 hn;subst hL;obtain⟨_,rfl⟩:=h3;rw[U8 hn,kM];exact⟨r1,.inl rfl⟩
   .have hL:L≠[]:=λe=>hn (DH.2 e);rw[U9 hn];obtain⟨i1,i2⟩:=vW m (l++[p]) (acc++pc) (q.cW p).1 v u r1 h3 hL (by simpa using hm) (by simpa [cV]using hb);refine⟨i1,i2.imp (λe=>?_) id⟩;rw[e];simp
  .rw[r2];dsimp only;rw[ge,g8];exact⟨r1,.inr ⟨rfl,r3⟩⟩
def ou(v:Vw)(L:List Int):Vw:=λj=>if j∈L then([],3)else v j
def EP(v:Vw):ou v []=v:=by funext j;simp[ou]
def ER:∀(L:List Int) (q:QS) (v:Vw) (u:Nat),Rd q v o u mm->L.Nodup->(∀j∈L,(v j).2=0)->(q.je L).2=0/\Rd (q.je L).1 (ou v L) o u mm
 |[],q,v,u,R,_,_=>by rw[EP];exact⟨rfl,R⟩
 |p::L,q,v,u,R,hn,hh=>by
  rw[iC]at hn;obtain⟨a,b⟩:=R.drop p (hh p lw);unfold QS.je;rw[U9 (by rw[a];simp)];obtain⟨c,d⟩:=ER L (q.aF p).1 _ u b hn.2 (λj hj=>by
   have fy:j≠p:=λe=>hn.1 (by rw[<-e];exact hj);rw[JT v fy];exact hh j (by simp[hj]))
  refine⟨c,?_⟩;have e:ou (JS v p) L=ou v (p::L):=by
   funext j
   unfold ou JS
   by_cases h1:j∈L
   .rw[U8 h1,U8 (by simp[h1])]
   .rw[U9 h1]
    by_cases h2:j=p
    .rw[U8 h2,U8 (by simp[h2])]
    .rw[U9 h2,U9 (by simp[h1,h2])]
  rw[<-e];exact d
def Rd.dropAny(R:Rd q v o u mm)(p:Int):∃v',Rd (q.aF p).1 v' o u mm:=by
 rcases R.err p with h|h
 .exact⟨_,(R.drop p h).2⟩
 .obtain⟨n,K,w⟩:=R.w;obtain⟨a,c⟩:=w.drop p
  rcases c with⟨c1,c2,c3⟩|⟨c1,c2,c3⟩
  .rw[R.v,h]at c1;exact eq c1 ms
  .exact⟨v,R.step (MP q p) ⟨n,_,a.w⟩ (λj=>(c3 j).trans (R.v j))⟩
def AJ:∀(L:List Int) (q:QS) (v:Vw) (u:Nat),Rd q v o u mm->∃v',Rd (q.eU L) v' o u mm
 |[],q,v,u,R=>⟨v,R⟩
 |p::L,q,v,u,R=>by
  obtain⟨v1,R1⟩:=R.dropAny p;rw[QS.qS];exact AJ L _ _ _ R1
def link_rd(next:Nat)(v:UV)(i:Nat)(hn:next<60000):(iW v i ((next:Int)-1)).length<=232/\bS (ff (iW v i ((next:Int)-1)) 232) 0=next/\bS (ff (iW v i ((next:Int)-1)) 232) 2=(eQ v i).length/\((ff (iW v i ((next:Int)-1)) 232).drop 4).take (eQ v i).length=eQ v i:=by
 have hp:(eQ v i).length<=228:=by unfold eQ;rw[bY];omega
 unfold iW ff;rw[show((next:Int)-1+1).toNat=next by omega];generalize eQ v i=pc at *;unfold sF bS;refine⟨by simp;omega,?_,?_,?_⟩
 .simp;omega
 .simp;omega
 .simp
def Wa(v:UV)(i:Nat):(eQ v i).length<=228:=by unfold eQ;rw[bY];omega
def Rh(v:UV)(i:Nat):v.drop (228*i)=eQ v i++v.drop (228*(i+1)):=by
 unfold eQ;rw[show 228*(i+1)=228*i+228 by omega,<-jF,mo]
def Ic(val:UV):∀(i:Nat) (q:QS) (v:Vw) (u:Nat) (next:Int) (made:List Int) (L:List Int),Rd q v o u mm->VZ v next L (val.drop (228*i))-> -1<=next->next<=511->
  ((QS.kS val i q next made).2.2=11/\∃v' u',Rd (QS.kS val i q next made).1 v' o u' mm/\u'<=u+i/\(mm<=u'\/512<=u'))\/
  ((QS.kS val i q next made).2.2=0/\ -1<=(QS.kS val i q next made).2.1/\(QS.kS val i q next made).2.1<=511/\∃v' new,Rd (QS.kS val i q next made).1 v' o (u+new.length) mm/\VZ v' (QS.kS val i q next made).2.1 (new++L) val/\new.length=i/\(∀j∈new,v j=([],3))/\new.Nodup/\∀j,j∉new->v' j=v j)
 |0,q,v,u,next,made,L,R,hc,h1,h2=>by
  right;exact⟨rfl,h1,h2,v,[],R,hc,rfl,by simp,qv,λ_ _=>rfl⟩
 |i+1,q,v,u,next,made,L,R,hc,h1,h2=>by
  obtain⟨nx,rfl⟩:∃nx:Nat,next=(nx:Int)-1:=⟨(next+1).toNat,by omega⟩;obtain⟨k1,k2,k3,k4⟩:=link_rd nx val i (by omega);unfold QS.kS;have hn:=R.new ⟨(iW val i ((nx:Int)-1)).toArray⟩ (by show(iW val i _).toArray.size<=232;rw[mh];exact k1);have hd:(⟨(iW val i ((nx:Int)-1)).toArray⟩:Nm).data.toList=iW val i ((nx:Int)-1):=rfl;rw[hd]at hn
  rcases hn with⟨k,a1,a2,a3,a4⟩|⟨a1,a2,a3⟩
  .rw[U9 (by rw[a1];simp),show(q.bE (iW val i ((nx:Int)-1))).2.1=((k:Nat):Int)from by rw[a1]];have hch:VZ (kU v (k:Nat) (ff (iW val i ((nx:Int)-1)) 232)) (k:Nat) ((k:Nat)::L) (val.drop (228*i)):=by
    refine⟨rfl,(nx:Int)-1,eQ val i,val.drop (228*(i+1)),?_,Rh val i,hc.congr (λx hx=>?_)⟩
    .unfold rdC;have tQ:=Wa val i;rw[Hy,i8];dsimp only;rw[k3,ge,k2,k4]
    .have Jt:=hc.here x hx;have fy:x≠((k:Nat):Int):=λe=>by rw[e,a3]at Jt;exact eq Jt ms
     exact nz v _ fy
   rcases Ic val i _ _ (u+1) ((k:Nat):Int) (made++[((k:Nat):Int)]) ((k:Nat)::L) a4 hch (by omega) (by omega)with⟨b1,v',u',b2,b3,b4⟩|⟨b1,b2,b3,v',new,b4,b5,b6,b7,b8,b9⟩
   .exact .inl ⟨b1,v',u',b2,by omega,b4⟩
   .refine .inr ⟨b1,b2,b3,v',new++[((k:Nat):Int)],by rw[bC,wC,show u+(new.length+1)=u+1+new.length by omega];exact b4,by rw[cV];exact b5,by simp[b6],λj hj=>?_,?_,λj hj=>?_⟩
    .rcases aK.1 hj with hj|hj
     .have h3:=b7 j hj
      by_cases e:j=((k:Nat):Int)
      .rw[e];exact a3
      .rw[nz v _ e]at h3;exact h3
     .rw[aG.1 hj];exact a3
    .rw[jJ];refine⟨b8,by simp,λx hx y hy e=>?_⟩;rw[aG.1 hy]at e;have h3:=b7 x hx;rw[e,Hy]at h3;exact eq (congrArg Prod.snd h3) (by show ¬(0:Int)=3;decide)
    .rw[aK,not_or]at hj;rw[b9 j hj.1,nz v _ (λe=>hj.2 (by simp[e]))]
  .rw[U8 (by rw[a1];simp)];left;obtain⟨v1,R1⟩:=AJ made _ _ _ a2;exact⟨by show(q.bE _).2.2=11;rw[a1],v1,u+1,R1,by omega,a3.imp (λh=>by omega) (λh=>by omega)⟩
def Xn(v:Vw)(e:E)(val:Nm)(L:List Int):Prop:=
 (e.bh= -1/\e.val=val/\L=[]/\val.size<=40)\/(0<=e.bh/\e.bh<=511/\e.val.size=0/\L≠[]/\L.length=(jn val.size).toNat/\40<val.size/\val.size<=1024/\VZ v e.bh L val.data.toList/\L.Nodup)
def Co{n:Nat}(h:n<=1024):1<=(jn n).toNat/\(jn n).toNat<=5/\n<=228*(jn n).toNat:=by
 unfold jn;omega
def Xn.congr(h:Xn v e val L)(hv:∀j∈L,v' j=v j):Xn v' e val L:=by
 rcases h with h|⟨a,b,z,c,d,f,g,i,j⟩
 .exact .inl h
 .exact .inr ⟨a,b,z,c,d,f,g,i.congr hv,j⟩
def Xn.here(h:Xn v e val L):∀j∈L,(v j).2=0:=by
 rcases h with⟨_,_,h,_⟩|⟨a,b,z,c,d,f,g,i,j⟩
 .rw[h];simp
 .exact i.here
def Xn.nodup(h:Xn v e val L):L.Nodup:=by
 rcases h with⟨_,_,h,_⟩|⟨a,b,z,c,d,f,g,i,j⟩
 .rw[h];exact qv
 .exact j
def vX(R:Rd q v o u mm)(h:Xn v e val L):
  Rd (q.cC e).1 v o u mm/\((q.cC e).2=(val,0)\/((q.cC e).2.2=11/\mm<=u)):=by
 unfold QS.cC
 rcases h with⟨a,b,c,d⟩|⟨a,b,z,c,d,f,g,i,j⟩
 .rw[g8];exact⟨R,.inl (by rw[b])⟩
 .rw[ge];have hn:=Co g;have hs:val.pu.length=val.size:=lw
  obtain⟨w1,w2⟩:=vW 5 [] [] q v u R i c ls (by rw[dD,hs];exact g);refine⟨w1,?_⟩;unfold QS.dA
  rcases w2 with w2|⟨w2,w3⟩
  .left;rw[w2];rfl
  .right;rw[w2];exact⟨rfl,w3⟩
def Ie(R:Rd q v o u mm)(h:Xn v e val L):
  ((q.jY e).2=0/\Rd (q.jY e).1 (ou v L) o u mm)\/((q.jY e).2=11/\Rd (q.jY e).1 v o u mm/\mm<=u):=by
 unfold QS.jY
 rcases h with⟨a,b,c,d⟩|⟨a,b,z,c,d,f,g,i,j⟩
 .rw[g8,c,EP];exact .inl ⟨rfl,R⟩
 .rw[ge];have hn:=Co g;have hs:val.pu.length=val.size:=lw
  obtain⟨w1,w2⟩:=vW 5 [] [] q v u R i c ls (by rw[dD,hs];exact g);unfold QS.jX;have w1:Rd (q.dA e.bh).1 v o u mm:=w1
  rcases w2 with w2|⟨w2,w3⟩
  .have w2:(q.dA e.bh).2=([]++L,[]++val.pu,0):=w2;rw[w2,i8];obtain⟨d1,d2⟩:=ER L (q.dA e.bh).1 v u w1 j i.here;left;refine⟨?_,d2⟩;show rH ((q.dA e.bh).1.je L).2=0;rw[d1];decide
  .have w2:(q.dA e.bh).2=([],[],11):=w2;rw[w2,i9];exact .inr ⟨(by decide:rH 11=11),w1,w3⟩
def Wc(R:Rd q v o u mm)(key val:Nm)(hv:val.size<=1024):
  ((q.fU key val).2.2=11/\∃v' u',Rd (q.fU key val).1 v' o u' mm/\u'<=u+5/\(mm<=u'\/512<=u'))\/
  ((q.fU key val).2.2=0/\∃v' L,Rd (q.fU key val).1 v' o (u+L.length) mm/\Xn v' (q.fU key val).2.1 val L/\(q.fU key val).2.1.key=key/\(∀j∈L,v j=([],3))/\∀j,j∉L->v' j=v j):=by
 unfold QS.fU
 by_cases h:val.size<=40
 .rw[U8 h];exact .inr ⟨rfl,v,[],R,.inl ⟨rfl,rfl,rfl,h⟩,rfl,by simp,λ_ _=>rfl⟩
 .rw[U9 h];have hn:=Co hv;have hs:val.data.toList.length=val.size:=by simp
  have he:q.kE val.data.toList=QS.kS val.data.toList (jn val.size).toNat q (-1) []:=by
   unfold QS.kE;rw[ge,hs]
  rw[he]
  rcases Ic val.data.toList (jn val.size).toNat q v u (-1) [] [] R ⟨rfl,lT (by omega)⟩ (by omega) (by omega)with⟨a1,v',u',a2,a3,a4⟩|⟨a1,a2,a3,v',new,a4,a5,a6,a7,a8,a9⟩
  .exact .inl ⟨a1,v',u',a2,by omega,a4⟩
  .rw[kM]at a5;have fy:new≠[]:=λe=>by rw[e]at a6;simp at a6;omega
   have hp:¬(QS.kS val.data.toList (jn val.size).toNat q (-1) []).2.1<0:=λh=>fy ((a5.neg a4).1 h);exact .inr ⟨a1,v',new,a4,.inr ⟨Int.not_lt.1 hp,a3,rfl,fy,a6,by omega,hv,a5,a8⟩,rfl,a7,a9⟩
end
variable{v:Vw}{H:Nat}{key:Nm}{up:List Step}{x:Step}
abbrev MT:=E×Nm×List Int
def rJ(M:List MT):List Int:=M.flatMap λm=>m.2.2
def kV(M:List MT):List (Nm×Nm):=M.map λm=>(m.1.key,m.2.1)
@[simp] theorem ir(a b:List MT):rJ (a++b)=rJ a++rJ b:=by simp[rJ]
@[simp] theorem TP:rJ []=[]:=rfl
@[simp] theorem ox(m:MT)(b:List MT):rJ (m::b)=m.2.2++rJ b:=rfl
@[simp] theorem TR(a b:List MT):kV (a++b)=kV a++kV b:=by simp[kV]
@[simp] theorem prs_nil:kV []=[]:=rfl
@[simp] theorem Nc(m:MT)(b:List MT):kV (m::b)=(m.1.key,m.2.1)::kV b:=rfl
structure Tree(v:Vw)(H:Nat)(M:List MT):Prop where
 ok:nL v H 0
 en:M.map (λm=>m.1)=iT v H 0
 va:∀m∈M,Xn v m.1 m.2.1 m.2.2
 M8:(cf (aS v H 0)++rJ M).Nodup
 all:∀j,(v j).2=0->j∈cf (aS v H 0)++rJ M
structure Ri(l:List (Nm×Nm))(key:Nm)(A C B:List (Nm×Nm)):Prop where
 e:l=A++(C++B)
 a:∀x∈A,iK x.1 key
 b:∀x∈B,iK key x.1
 c:C=[]\/∃y,C=[(key,y)]
structure Dec(v:Vw)(key:Nm)(up:List Step)(x:Step)(M M1 MC M2:List MT)(a b:List E):Prop where
 n:aY x.l key=a.length
 l:x.l=a++(MC.map (λm=>m.1)++b)
 m:M=M1++(MC++M2)
 m1:M1.map (λm=>m.1)=cK (gH v up 0)++a
 m2:M2.map (λm=>m.1)=b++cK (dY v up 0)
 k1:∀m∈M1,iK m.1.key key
 k2:∀m∈M2,iK key m.1.key
 c:(MC=[]/\cg x.l key=false)\/∃m,MC=[m]/\m.1.key=key/\cg x.l key=true
def ES{M:List MT}(T:Tree v H M)(W:WayV v key up x)(hl:up.length=H):∃M1 MC M2 a b,Dec v key up x M M1 MC M2 a b:=by
 obtain⟨p1,p2,p3,p4,p5⟩:=EK W;rw[hl]at p5;have xL:=T.en;rw[p5]at xL;obtain⟨a,b,h1,h2,h3,h4⟩:=EJ (q9 W.nd) key;have main:∀(c b':List E),b=c++b'->(∀e∈b',iK key e.key)->∃M1 MC M2,M=M1++(MC++M2)/\M1.map (λm=>m.1)=cK (gH v up 0)++a/\MC.map (λm=>m.1)=c/\M2.map (λm=>m.1)=b'++cK (dY v up 0)/\(∀m∈M1,iK m.1.key key)/\(∀m∈M2,iK key m.1.key):=λc b' hb hb'=>by
  have hen2:M.map (λm=>m.1)=(cK (gH v up 0)++a)++(c++(b'++cK (dY v up 0))):=by rw[xL,h1,hb];simp
  obtain⟨M1,MR,e1,e2,e3⟩:=List.map_eq_append_iff.1 hen2;obtain⟨MC,M2,e4,e5,e6⟩:=List.map_eq_append_iff.1 e3;refine⟨M1,MC,M2,by rw[e1,e4],e2,e5,e6,λm hm=>?_,λm hm=>?_⟩
  .have:m.1∈cK (gH v up 0)++a:=by rw[<-e2];exact dq.2 ⟨m,hm,rfl⟩
   rcases aK.1 this with h|h
   .exact p3 _ h
   .exact h3 _ h
  .have:m.1∈b'++cK (dY v up 0):=by rw[<-e6];exact dq.2 ⟨m,hm,rfl⟩
   rcases aK.1 this with h|h
   .exact hb' _ h
   .exact p4 _ h
 rcases h4 with⟨h4,c,b',hb,hc,hb'⟩|⟨h4,hb⟩
 .obtain⟨M1,MC,M2,e1,e2,e3,e4,e5,e6⟩:=main [c] b' (by rw[hb];rfl) hb';have hMC:∃m,MC=[m]/\m.1=c:=by
   match MC,e3 with
   |[m],e3=>exact⟨m,rfl,by simpa using e3⟩
   |[],e3=>exact eq e3 lw
   |_::_::_,e3=>exact eq e3 lw
  obtain⟨m,rfl,rfl⟩:=hMC;exact⟨M1,[m],M2,a,b',h2,by rw[h1,hb];simp,e1,e2,e4,e5,e6,.inr ⟨m,rfl,hc,h4⟩⟩
 .obtain⟨M1,MC,M2,e1,e2,e3,e4,e5,e6⟩:=main [] b rfl hb;have hMC:MC=[]:=List.map_eq_nil_iff.1 e3;subst hMC;exact⟨M1,[],M2,a,b,h2,by rw[h1];simp,e1,e2,e4,e5,e6,.inl ⟨rfl,h4⟩⟩
def Dec.ZY{M M1 MC M2:List MT}{a b:List E}(d:Dec v key up x M M1 MC M2 a b):Ri (kV M) key (kV M1) (kV MC) (kV M2):=by
 refine⟨by rw[d.m];simp,λy hy=>?_,λy hy=>?_,?_⟩
 .obtain⟨m,hm,rfl⟩:=dq.1 hy;exact d.k1 m hm
 .obtain⟨m,hm,rfl⟩:=dq.1 hy;exact d.k2 m hm
 .rcases d.c with⟨h,_⟩|⟨m,h,hk,_⟩
  .rw[h];exact .inl rfl
  .rw[h];exact .inr ⟨m.2.1,by rw[<-hk];rfl⟩
section
variable{o:Vw}{mm:Nat}
def Nf(C:List (Nm×Nm)):Nm×Int:=match C with
 |[]=>(⟨#[]⟩,9)
 |x::_=>(x.2,0)
def ET(up:List Step)(x:Step):eF (up.reverse++[x])=x:=by unfold eF;simp
def Z1{q:QS}{u:Nat}{M:List MT}(R:Rd q v o u mm)(T:Tree v H M)(hH:H<=15)(key:Nm):
  Rd (q.gD key).1 v o u mm/\(((q.gD key).2.2=11/\mm<=u)\/∃A C B,Ri (kV M) key A C B/\(q.gD key).2=Nf C):=by
 obtain⟨r1,r2⟩:=JX R T.ok hH key;unfold QS.gD
 rcases r2 with⟨r2,r3⟩|⟨r2,up,x,r3,r4,W⟩
 .rw[U8 (by rw[r2];simp)];exact⟨r1,.inl ⟨r2,r3⟩⟩
 .rw[U9 (by rw[r2];simp),r3,ET];obtain⟨M1,MC,M2,a,b,d⟩:=ES T W r4;have hp:=d.ZY
  rcases d.c with⟨h1,h2⟩|⟨m,h1,hk,h2⟩
  .rw[U9 (by rw[h2];simp)];refine⟨r1,.inr ⟨_,_,_,hp,?_⟩⟩;rw[h1];rfl
  .rw[U8 h2];have hx:x.l.getD (aY x.l key) Nd.E.zero=m.1:=by rw[d.n,d.l,h1];simp[jG]
   rw[hx];obtain⟨g1,g2⟩:=vX r1 (T.va m (by rw[d.m,h1];simp));refine⟨g1,g2.symm.imp id (λg2=>⟨_,_,_,hp,?_⟩)⟩;rw[g2,h1];rfl
end
variable{M:List MT}{v:Vw}{H:Nat}
def Wd(a:List E)(n:E)(b:List E):(a++b).insertIdx a.length n=a++n::b:=by
 induction a with
 |nil=>rfl
 |cons x a ih=>rw[oZ,jh,Pj,ih];rfl
def fL{α:Type}{a b:List α}:(a++b).Nodup↔a.Nodup/\b.Nodup/\∀x∈a,x∉b:=by
 rw[jJ];exact⟨λ⟨h1,h2,h3⟩=>⟨h1,h2,λx hx hb=>h3 x hx x hb rfl⟩,λ⟨h1,h2,h3⟩=>⟨h1,h2,λx hx y hy e=>h3 x hx (by rw[e];exact hy)⟩⟩
def xQ{j:Int}:j∈rJ M↔ ∃m∈M,j∈m.2.2:=oI
def Tree.Z2(T:Tree v H M):∀j∈rJ M,(v j).2=0:=λj hj=>by
 obtain⟨m,hm,hj⟩:=xQ.1 hj;exact(T.va m hm).here j hj
def Tree.AK(T:Tree v H M):∀j∈cf (aS v H 0),(v j).2=0:=JY H 0 T.ok
structure SetP(v v':Vw)(H:Nat)(M:List MT)(key value:Nm)(H':Nat)(M':List MT)(new:Nat)(A C B:List (Nm×Nm))(h c:Nat):Prop where
 t:Tree v' H' M'
 d:Ri (kV M) key A C B
 m:kV M'=A++(key,value)::B
 n:new=c+h
 c:c<=5/\(value.size<=40->c=0)
 JZ:∀wt c,Rc wt c->fj wt (aS v' H' 0)+c*h<=fj wt (aS v H 0)+wt 0*(key.size+(if value.size<=40 then value.size else 0)+7)+(if H'=H then 0 else c)
 h:H'=H\/(H'=H+1/\∀wt c,Rc wt c->73*wt H<=fj wt (aS v H 0)+wt 0*(key.size+(if value.size<=40 then value.size else 0)+7))
section
variable{o:Vw}{mm:Nat}
def Z6{q:QS}{u:Nat}(R:Rd q v o u mm)(T:Tree v H M)(hH:H<=15)(key value:Nm)(hk:key.size<=32)(hv:value.size<=1024):
  ((q.fC key value).2=11/\∃v' u',Rd (q.fC key value).1 v' o u' mm/\u'<=u+H+8/\(mm<=u'\/512<=u'))\/
  ((q.fC key value).2=0/\∃v' H' M' new A C B h c,Rd (q.fC key value).1 v' o (u+new) mm/\SetP v v' H M key value H' M' new A C B h c):=by
 obtain⟨r1,r2⟩:=JX R T.ok hH key;unfold QS.fC;rw[ge]
 rcases r2 with⟨r2,r3⟩|⟨r2,up,x,r3,r4,W⟩
 .rw[U8 (by rw[r2];simp)];exact .inl ⟨r2,v,u,r1,ls,.inl r3⟩
 rw[U9 (by rw[r2];simp),r3,ET,show(up.reverse++[x]).dropLast.reverse=up by simp];obtain⟨p1,p2,p3,p4,p5⟩:=EK W;rw[r4]at p1 p2 p5;obtain⟨M1,MC,M2,a,b,d⟩:=ES T W r4;have sX:cf (aS v H 0)=cf (gH v up 0)++x.au::cf (dY v up 0):=by rw[p2,dK,dN]
 have We:=fL.1 T.M8;have haw:pY x.l key=a++b:=by
  unfold pY
  rcases d.c with⟨h1,h2⟩|⟨m,h1,XL,h2⟩
  .rw[U9 (by rw[h2];simp),d.l,h1];rfl
  .rw[U8 h2,d.n,d.l,h1];exact zB a m.1 b
 have hdnod:(rJ MC).Nodup:=by
  have:=We.2.1;rw[d.m,ir,ir]at this;exact(fL.1 (fL.1 this).2.1).1
 have Gp:(((q.cI key).1.hX x.l key).2=0/\Rd ((q.cI key).1.hX x.l key).1 (ou v (rJ MC)) o u mm)\/(((q.cI key).1.hX x.l key).2=11/\Rd ((q.cI key).1.hX x.l key).1 v o u mm/\mm<=u):=by
  unfold QS.hX
  rcases d.c with⟨h1,h2⟩|⟨m,h1,XL,h2⟩
  .rw[U9 (by rw[h2];simp),h1,TP,EP];exact .inl ⟨rfl,r1⟩
  .rw[U8 h2];have hx:x.l.getD (aY x.l key) Nd.E.zero=m.1:=by rw[d.n,d.l,h1];simp[jG]
   rw[hx,h1,ox,TP,kM];exact Ie r1 (T.va m (by rw[d.m,h1];simp))
 rw[haw,d.n]
 rcases Gp.symm with⟨o1,o2,o3⟩|⟨o1,o2⟩
 .rw[U8 (by rw[o1];simp)];exact .inl ⟨o1,v,u,o2,ls,.inl o3⟩
 rw[U9 (by rw[o1];simp)];unfold QS.rI
 rcases Wc o2 key value hv with⟨s1,v',u',s2,s3,s4⟩|⟨s1,v2,L,s2,s3,s4,s5,s6⟩
 .rw[U8 (by rw[s1];simp)];exact .inl ⟨s1,v',u',s2,ls,s4⟩
 rw[U9 (by rw[s1];simp)];obtain⟨n,hn⟩:∃n,(((q.cI key).1.hX x.l key).1.fU key value).2.1=n:=⟨_,rfl⟩;rw[hn]at s3 s4 ⊢;have hLl:L.length<=5/\(value.size<=40->L.length=0):=by
  rcases s3 with⟨_,_,h,_⟩|⟨_,_,_,_,h,h40,h2,_⟩
  .rw[h];simp
  .have:=Co h2;exact⟨ls,λh=>by omega⟩
 have rl:∀j,(v j).2=0->j∉rJ MC->v2 j=v j:=λj hj hm=>by
  have h1:ou v (rJ MC) j=v j:=by unfold ou;rw[U9 hm]
  rw[s6 j (λhL=>?_),h1];have:=s5 j hL;rw[h1]at this;rw[this]at hj;exact eq hj ms
 have hMCin:∀j∈rJ MC,j∈rJ M:=λj hj=>by rw[d.m,ir,ir];simp[hj]
 have hnd2:∀j∈cf (aS v H 0),v2 j=v j:=λj hj=>rl j (T.AK j hj) (λhm=>We.2.2 j hj (hMCin j hm));obtain⟨c1,c2,c3⟩:=js (v':=v2) up 0 x.au W.hole (λj hj=>hnd2 j (by rw[sX];simp[hj])) (λj hj=>hnd2 j (by rw[sX];simp[hj]));have ni:∀e∈a++b,e∈x.l:=λe he=>by rw[d.l];rcases aK.1 he with h|h<;>simp[h]
 have vd:=nM (qZ (v:=v) (p:=x.au) (by rw[W.nd]));rw[W.nd]at vd;have vd:∀e∈x.l,eh e true:=vd;have hbx:aw x.l<=223:=by have:=W.ok.2;rw[W.nd]at this;exact this
 have hbab:aw (a++b)<=aw x.l:=by rw[d.l,fJ,fJ,fJ];omega
 have hrn:eh n true/\n.val.size=(if value.size<=40 then value.size else 0):=by
  rcases s3 with⟨h1,h2,_,h4⟩|⟨h1,h2,h3,h4,h5,h40,h6,_⟩
  .refine⟨⟨by rw[s4];exact hk,by rw[h2];exact h4,by rw[h1];decide,by rw[h1];decide,.inl (by rw[h1];decide)⟩,by rw[U8 h4,h2]⟩
  .exact⟨⟨by rw[s4];exact hk,by rw[h3];decide,by rw[U8 rfl];omega,ls,.inr h3⟩,by rw[ge,h3]⟩
 obtain⟨hrn,hvn⟩:=hrn;have hcn:n.key.size+n.val.size+7=key.size+(if value.size<=40 then value.size else 0)+7:=by rw[s4,hvn]
 have hcn79:n.key.size+n.val.size+7<=79:=by have h1:=hrn.1;have h2:=hrn.2.1;omega
 have Ks:aw (a++n::b)=aw (a++b)+(n.key.size+n.val.size+7):=by rw[fJ,fJ,fI];omega
 have hins:(a++b).insertIdx a.length n=a++n::b:=Wd a n b;rw[hins];have hla:∀e∈a,iK e.key key:=λe he=>by
  have:e∈M1.map (λm=>m.1):=by rw[d.m1];exact cv _ he
  obtain⟨m,hm,rfl⟩:=dq.1 this;exact d.k1 m hm
 have hlb:∀e∈b,iK key e.key:=λe he=>by
  have:e∈M2.map (λm=>m.1):=by rw[d.m2];exact cL _ he
  obtain⟨m,hm,rfl⟩:=dq.1 this;exact d.k2 m hm
 have hpw:=q9 W.nd;rw[d.l,eH,eH]at hpw;have P:Gt v2 0 ⟨x.au,x.leaf,a++n::b,x.at_⟩ up:=by
  refine⟨c1,W.leaf,?_,⟨λe he=>?_,?_⟩,lw,?_,λe he=>?_,?_,?_⟩
  .show(v2 x.au).2=0;have pI:x.au∈cf (aS v H 0):=by rw[sX];simp
   rw[hnd2 _ pI];exact T.AK _ pI
  .show eh e true
   rcases aK.1 he with he|he
   .exact vd e (ni e (cL _ he))
   .rcases ax.1 he with rfl|he
    .exact hrn
    .exact vd e (ni e (cv _ he))
  .show(a++n::b).Pairwise λc e=>iK c.key e.key;rw[eH,eT];refine⟨hpw.1,⟨λe he=>by rw[s4];exact hlb e he,hpw.2.1.2.1⟩,λe he e' Bi=>?_⟩
   rcases ax.1 Bi with rfl|Bi
   .rw[s4];exact hla e he
   .exact hpw.2.2 e he e' (cv _ Bi)
  .show blank x.leaf _=_;rw[W.leaf];exact ma _
  .have he:e∈a++n::b:=he
   rcases aK.1 he with he|he
   .exact W.ZQ e (ni e (cL _ he))
   .rcases ax.1 he with rfl|he
    .rw[s4];exact W.key
    .exact W.ZQ e (ni e (cv _ he))
  .show(cf (gH v2 up 0)++x.au::([]++cf (dY v2 up 0))).Nodup;rw[c2,c3,dD,<-sX];exact We.1
  .show aw (a++n::b)<=302;omega
 have Kt:dR v2 0 ⟨x.au,x.leaf,a++n::b,x.at_⟩ up=gH v up 0++(0,x.au,a++n::b)::dY v up 0:=by
  unfold dR;rw[c2,c3];rfl
 have OG:cf (dR v2 0 ⟨x.au,x.leaf,a++n::b,x.at_⟩ up)=cf (aS v H 0):=by rw[Kt,sX,dK,dN]
 have ZW:∀wt:Nat->Nat,fj wt (dR v2 0 ⟨x.au,x.leaf,a++n::b,x.at_⟩ up)<=fj wt (aS v H 0)+wt 0*(n.key.size+n.val.size+7):=λwt=>by
  rw[Kt,p2];simp only[kG,fK];have:wt 0*(aw (a++n::b)-151)<=wt 0*(aw x.l-151)+wt 0*(n.key.size+n.val.size+7):=by
   rw[<-tK];exact m7 _ ls
  omega
 rcases AH (up.length+1) up 0 ⟨x.au,x.leaf,a++n::b,x.at_⟩ _ v2 (u+L.length) ls P s2 with⟨t1,v',u',t2,t3,t4⟩|⟨t1,v3,new,H',t2,G⟩
 .exact .inl ⟨t1,v',u',t2,ls,t4⟩
 refine .inr ⟨t1,v3,H',M1++(n,value,L)::M2,L.length+new.length,kV M1,kV MC,kV M2,new.length,L.length,by rw[<-Nat.add_assoc];exact t2,?_⟩;have hMn:=We.2.1;rw[d.m,ir,ir]at hMn;have J4:=fL.1 hMn;have Z7:=fL.1 J4.2.1;have Ng:∀j,j∈rJ M1\/j∈rJ M2->j∈rJ M/\j∉rJ MC:=λj hj=>by
  refine⟨by rw[d.m,ir,ir];rcases hj with h|h<;>simp[h],λhc=>?_⟩
  rcases hj with h|h
  .exact J4.2.2 j h (cL _ hc)
  .exact Z7.2.2 j hc h
 have hLv:∀j,(v j).2=0->j∉rJ MC->j∉L:=λj hj hm hL=>by
  have:=s5 j hL;unfold ou at this;rw[U9 hm]at this;rw[this]at hj;exact eq hj ms
 have hL2:∀j∈L,(v2 j).2=0:=s3.here;have Nh:∀j,(v2 j).2=0->j∉new:=λj hj hm=>by rw[G.fresh j hm]at hj;exact eq hj ms
 have hM3:∀j,j∈rJ M1\/j∈rJ M2->v3 j=v j/\(v2 j).2=0/\j∉cf (aS v H 0):=λj hj=>by
  obtain⟨h1,h2⟩:=Ng j hj;have h3:=T.Z2 j h1;have h4:=rl j h3 h2;have h5:j∉cf (aS v H 0):=λh=>We.2.2 j h h1;refine⟨?_,by rw[h4];exact h3,h5⟩;rw[G.o j (by rw[OG];exact h5) (Nh j (by rw[h4];exact h3)),h4]
 have hPL:∀j∈cf (aS v H 0),j∉L:=λj hj=>hLv j (T.AK j hj) (λhm=>We.2.2 j hj (hMCin j hm));have hL3:∀j∈L,v3 j=v2 j:=λj hj=>G.o j (by rw[OG];exact λh=>hPL j h hj) (Nh j (hL2 j hj));have hP2:∀j∈cf (aS v H 0),(v2 j).2=0:=λj hj=>by rw[hnd2 j hj];exact T.AK j hj
 have xL:M1.map (λm=>m.1)=cK (gH v up 0)++a:=d.m1;refine⟨⟨G.ok,?_,λm hm=>?_,?_,λj hj=>?_⟩,d.ZY,?_,ls,hLl,λwt c hw=>?_,?_⟩
 .rw[G.en,Kt,eS,iA,d.m1,d.m2];simp
 .rcases aK.1 hm with hm|hm
  .exact(T.va m (by rw[d.m];simp[hm])).congr (λj hj=>(hM3 j (.inl (xQ.2 ⟨m,hm,hj⟩))).1)
  .rcases ax.1 hm with rfl|hm
   .exact s3.congr hL3
   .exact(T.va m (by rw[d.m];simp[hm])).congr (λj hj=>(hM3 j (.inr (xQ.2 ⟨m,hm,hj⟩))).1)
 .have uZ:(cf (aS v3 H' 0)++rJ (M1++(n,value,L)::M2)).Perm ((cf (aS v H 0)++new)++(rJ M1++(L++rJ M2))):=by
   rw[ir,ox,<-OG];exact G.pg.append_right _
  rw[uZ.nodup_iff,fL];refine⟨fL.2 ⟨We.1,G.M8,λj hj=>Nh j (hP2 j hj)⟩,fL.2 ⟨J4.1,fL.2 ⟨s3.nodup,Z7.2.1,λj hj hm=>?_⟩,λj hj hm=>?_⟩,λj hj hm=>?_⟩
  .obtain⟨h1,h2⟩:=Ng j (.inr hm);exact hLv j (T.Z2 j h1) h2 hj
  .rcases aK.1 hm with hm|hm
   .obtain⟨h1,h2⟩:=Ng j (.inl hj);exact hLv j (T.Z2 j h1) h2 hm
   .exact J4.2.2 j hj (cv _ hm)
  .have GM:j∈L\/(j∈rJ M1\/j∈rJ M2):=by
    rcases aK.1 hm with hm|hm
    .exact .inr (.inl hm)
    .rcases aK.1 hm with hm|hm
     .exact .inl hm
     .exact .inr (.inr hm)
   rcases aK.1 hj with hj|hj
   .rcases GM with h|h
    .exact hPL j hj h
    .exact(hM3 j h).2.2 hj
   .rcases GM with h|h
    .exact Nh j (hL2 j h) hj
    .exact Nh j (hM3 j h).2.1 hj
 .rw[aK,ir,ox,aK,aK]
  by_cases h1:j∈cf (aS v H 0)
  .exact .inl (G.pg.mem_iff.2 (by rw[OG];exact cL _ h1))
  .by_cases h2:j∈new
   .exact .inl (G.pg.mem_iff.2 (cv _ h2))
   .rw[G.o j (by rw[OG];exact h1) h2]at hj
    by_cases h3:j∈L
    .exact .inr (.inr (.inl h3))
    .rw[s6 j h3]at hj;unfold ou at hj
     by_cases h4:j∈rJ MC
     .rw[U8 h4]at hj;exact eq hj ms
     .rw[U9 h4]at hj;have:=T.all j hj;rw[d.m,ir,ir]at this;simp only[aK]at this
      rcases this with h|h|h|h
      .exact eq h h1
      .exact .inr (.inl h)
      .exact eq h h4
      .exact .inr (.inr (.inr h))
 .rw[TR,Nc,s4]
 .have g:=G.JZ wt c hw;have g2:=ZW wt;rw[hcn]at g2;rw[bV,r4]at g;omega
 .have hl:0+up.length=H:=ls
  rcases G.h with g|⟨g1,g2⟩
  .exact .inl (by rw[g,hl])
  .refine .inr ⟨by rw[g1,hl],λwt c hw=>?_⟩;have g3:=g2 wt c hw;rw[hl]at g3;have g4:=ZW wt;rw[hcn]at g4;omega
end
variable{v:Vw}{h:Nat}{l:List E}
structure EU(v v':Vw)(H H':Nat)(ns:List NT)(gone:List Int):Prop where
 ok:nL v' H' 0
 en:iT v' H' 0=cK ns
 pg:(cf (aS v' H' 0)++gone).Perm (cf ns)
 del:∀j∈gone,(v' j).2≠0
 o:∀j,j∉cf ns->v' j=v j
 JZ:∀wt,fj wt (aS v' H' 0)<=fj wt ns
 h:H'<=H
def sY(k:l≠[]->ix v h l)(hb:aw (blank (decide (h=0)) l)<=223):(bM (decide (h=0)) l).2=0:=by
 by_cases hl:l=[]
 .subst hl
  rcases pZ (decide (h=0)) []with h1|h1|h1
  .exact h1.2.2.1
  .have h2:=h1.2.1;rw[p9]at h2;exact eq h2 (by simp[aw])
  .refine eq ?_ h1.1;rw[p9];intro i hi;exact eq hi lw
 .exact xO (k hl) hb
section
variable{o:Vw}{mm:Nat}
def zC{v':Vw}(k:l≠[]->ix v h l)(hb:aw (blank (decide (h=0)) l)<=223)(hh:l≠[]\/h=0)(hd:jO v' 0=(decide (h=0),blank (decide (h=0)) l,0))(hv:∀j,j≠0->v' j=v j)(hn:(0::cf (cZ v h l)).Nodup):
  EU v v' h h ((h,0,l)::cZ v h l) []:=by
 have ok:ix v h l:=by
  by_cases hl:l=[]
  .rcases hh with hh|hh
   .exact eq hl hh
   .subst hl hh;exact⟨lw,List.Pairwise.nil⟩
  .exact k hl
 obtain⟨p1,p2,p3⟩:=EL (v:=v) (v':=v') (h:=h) (x:=⟨0,decide (h=0),l,0⟩) (up:=[]) rfl ok (λh=>eq rfl h) (λ_ _=>trivial) (by simpa [dZ,dg]using hn) hb hd hv;have p1:nL v' h 0:=p1;have p2:aS v' h 0=(h,0,blank (decide (h=0)) l)::(cZ v h l++[]):=p2;rw[kM]at p2;have p3:iT v' h 0=_:=p3;refine⟨p1,?_,?_,lw,λj hj=>hv j (λe=>hj (by simp[e])),λwt=>?_,ai _⟩
 .rw[p3];unfold dR;simp only[dO,de,dZ,dg];simp
 .rw[p2];simp
 .rw[p2,fK,fK];dsimp only;have:wt h*(aw (blank (decide (h=0)) l)-151)<=wt h*(aw l-151):=m7 _ (by have:=eA (decide (h=0)) l;omega);omega
def EV:∀(h m:Nat) (l:List E) (q:QS) (v:Vw) (u:Nat),h<m->Rd q v o u mm->(v 0).2=0->(l≠[]->ix v h l)->aw (blank (decide (h=0)) l)<=223->(0::cf (cZ v h l)).Nodup->
  ((fY m q (decide (h=0)) l).2=11/\mm<=u/\∃v',Rd (fY m q (decide (h=0)) l).1 v' o u mm)\/
  ((fY m q (decide (h=0)) l).2=0/\∃v' H' gone,Rd (fY m q (decide (h=0)) l).1 v' o u mm/\EU v v' h H' ((h,0,l)::cZ v h l) gone)
 |h,0,_,_,_,_,hm,_,_,_,_,_=>eq hm ls
 |h,m+1,l,q,v,u,hm,R,h0,k,hb,hn=>by
  unfold fY
  by_cases hs:decide (h=0)=false/\l.length=1
  .rw[U8 hs];obtain⟨h',rfl⟩:∃h',h=h'+1:=⟨h-1,by have:=hs.1;simp at this;omega⟩;obtain⟨c,rfl⟩:∃c,l=[c]:=by
    match l,hs.2 with
    |[c],_=>exact⟨c,rfl⟩
   have ok:=k lw;have hc:=ok.2.c c lw;obtain⟨d1,d2,d3⟩:=JV hc.1;have Rj:[c].getD 0 Nd.E.zero=c:=rfl;rw[Rj];obtain⟨r1,r2⟩:=R.read c.bh
   rcases r2 with r2|⟨r2,r3⟩
   .rw[r2,d1,i8];have hhere:(v c.bh).2=0:=om (by rw[d1]);obtain⟨e1,e2⟩:=r1.drop c.bh hhere;rw[U9 (by rw[e1];simp)];dsimp only;have AG:cZ v (h'+1) [c]=(h',c.bh,(jO v c.bh).2.1)::cZ v h' (jO v c.bh).2.1:=by
     show aS v h' c.bh++[]=_;rw[kM,oX]
    rw[AG,dN]at hn;have hn':=iC.1 hn;have XB:=iC.1 hn'.2;have hcne:(0:Int)≠c.bh:=λe=>hn'.1 (by show(0:Int)∈_;rw[e];simp);have hvd:∀j,j≠c.bh->JS v c.bh j=v j:=λj hj=>JT v hj;obtain⟨g1,g2,g3⟩:=mc (v:=v) (v':=JS v c.bh) (h:=h') (l:=(jO v c.bh).2.1) (λj hj=>hvd j (λe=>XB.1 (show c.bh∈cf (cZ v h' (jO v c.bh).2.1)from e▸hj)))
    rcases EV h' m (jO v c.bh).2.1 _ _ u ls e2 (by rw[hvd 0 hcne];exact h0) (λ_=>g3 d3) (aD (eA _ _) d2) (by rw[g1];exact iC.2 ⟨λhm=>hn'.1 (aH _ hm),XB.2⟩)with⟨i1,i2,i3⟩|⟨i1,v',H',gone,i2,S⟩
    .exact .inl ⟨i1,i2,i3⟩
    .refine .inr ⟨i1,v',H',c.bh::gone,i2,S.ok,?_,?_,λj hj=>?_,λj hj=>?_,λwt=>?_,by have:=S.h;omega⟩
     .rw[S.en,g1,AG,l9,vS,vS]
     .rw[AG,dN,dN];have:=S.pg;rw[g1,dN]at this;refine(List.perm_middle.trans (this.cons _)).trans ?_;exact List.Perm.swap _ _ _
     .rcases ax.1 hj with rfl|hj
      .rw[S.o c.bh (by rw[g1,dN];intro hm;rcases ax.1 hm with hm|hm;exact hcne hm.symm;exact XB.1 hm),Hz];decide
      .exact S.del j hj
     .rw[AG,dN,dN]at hj;simp only[ax,not_or]at hj;rw[S.o j (by rw[g1,dN];simp only[ax,not_or];exact⟨hj.1,hj.2.2⟩)];exact hvd j hj.2.1
     .have:=S.JZ wt;rw[g1,fK]at this;rw[AG,fK,fK];show _<=_+(wt h'*(aw (jO v c.bh).2.1-151)+_);have h3:fj wt (aS v' H' 0)<=wt h'*(aw (jO v c.bh).2.1-151)+fj wt (cZ v h' (jO v c.bh).2.1):=this;omega
   .rw[r2,i9];exact .inl ⟨rfl,r3,v,r1⟩
  .rw[U9 hs]
   by_cases hl:l=[]
   .subst hl;rw[U8 rfl];have hk:cZ v h []=[]:=by cases h<;>rfl
    have sW:(bM true []).2=0:=sY (v:=v) (h:=0) (λh=>eq rfl h) (by rw[p9];decide)
    rcases R.write h0 sW with⟨w1,w2⟩|⟨w1,w2,w3⟩
    .right;have S:=zC (v:=v) (v':=kU v 0 (bM true []).1) (h:=0) (l:=[]) (λh=>eq rfl h) (by rw[p9];decide) (.inr rfl) (by rw[iH sW,U8 rfl];rfl) (λj hj=>by unfold kU;rw[U9 hj]) (by simp[cZ]);refine⟨w1,_,0,[],w2,S.ok,?_,?_,lw,λj hj=>?_,λwt=>?_,bG _⟩
     .rw[S.en,hk]
      cases h<;>simp[cZ]
     .rw[hk];exact S.pg
     .rw[hk]at hj;exact S.o j hj
     .have:=S.JZ wt;rw[hk,fK];have e:fj wt ((0,0,[])::cZ v 0 [])=0:=by show wt 0*(0-151)+0=0;simp
      rw[e]at this;omega
    .exact .inl ⟨w1,w3,v,w2⟩
   .rw[U9 hl];have sW:=sY k hb
    rcases R.write h0 sW with⟨w1,w2⟩|⟨w1,w2,w3⟩
    .exact .inr ⟨w1,_,h,[],w2,zC k hb (.inl hl) (by rw[iH sW,U8 rfl]) (λj hj=>by unfold kU;rw[U9 hj]) hn⟩
    .exact .inl ⟨w1,w3,v,w2⟩
structure TS(v:Vw)(h:Nat)(x:Step)(up:List Step):Prop where
 hole:rp v up h x.au
 leaf:x.leaf=decide (h=0)
 here:(v x.au).2=0
 ok:x.l≠[]->ix v h x.l
 ZQ:∀e∈iP v h x.l,JW up e.key
 M8:(cf (gH v up h)++x.au::(cf (cZ v h x.l)++cf (dY v up h))).Nodup
 sz:aw x.l<=223
def Wf{v1:Vw}{x y:Step}{up:List Step}(P:TS v h x (y::up))(hl:x.l=[])(hv:∀j,j≠x.au->v1 j=v j)(hd:(v1 x.au).2≠0):
  TS v1 (h+1) {y with l:=y.l.eraseIdx y.at_} up/\
  ∀{v':Vw} {H':Nat} {gone:List Int},EU v1 v' (h+1+up.length) H' (dR v1 (h+1) {y with l:=y.l.eraseIdx y.at_} up) gone->EU v v' (h+(y::up).length) H' (dR v h x (y::up)) (x.au::gone):=by
 obtain⟨⟨a,c,b,f,hsib⟩,hU⟩:=P.hole;obtain⟨t1,t2,t3⟩:=mB f;have hn:=P.M8;rw[jJ,iC]at hn;obtain⟨_,⟨na,_⟩,nb⟩:=hn;have mV:∀j∈cf (gH v (y::up) h),v1 j=v j:=λj hj=>hv j (λe=>nb j hj x.au (by simp) e);have xP:∀j∈cf (dY v (y::up) h),v1 j=v j:=λj hj=>hv j (λe=>na (by rw[<-e];exact cv _ hj));obtain⟨H2,e1,e2⟩:=js (y::up) h x.au P.hole mV xP;obtain⟨⟨a',c',b',f2,ZV⟩,hU2⟩:=H2
 have sE:a'=a/\c'=c/\b'=b:=by
  have q1:=(mB f2);exact⟨by rw[<-q1.1,t1],by rw[<-q1.2.2,t3],by rw[<-q1.2.1,t2]⟩
 obtain⟨rfl,rfl,rfl⟩:=sE;have hera:y.l.eraseIdx y.at_=a'++b':=by rw[f.l,f.at_,zB]
 rw[hera];have q1:bW v1 h a'=bW v h a':=(jr (λj hj=>mV j (by simp only[dO,dZ];rw[t1,dK,dN];exact cv _ (aH _ hj)))).1;have q2:bW v1 h b'=bW v h b':=(jr (λj hj=>xP j (by simp only[de,dg];rw[t2,dK];exact cL _ hj))).1
 have hU3:=js up (h+1) y.au hU (λj hj=>mV j (by simp only[dO,dZ];rw[dK];exact cL _ hj)) (λj hj=>xP j (by simp only[de,dg];rw[dK];exact cv _ hj));have EM:=hU3.2.1;have vV:=hU3.2.2;have sV:=nM (qZ (v:=v) (p:=y.au) (by rw[f.nd]));rw[f.nd]at sV;have sV:∀e∈a'++c'::b',eh e false:=by rw[<-f.l];exact sV
 have hby:=f.by_;rw[f.l,fJ,fI]at hby;have hkp:cZ v h []=[]:=by cases h<;>rfl
 have hold:cf (dR v h x (y::up))=cf (gH v up (h+1))++(y.au::cf (bW v h a'))++x.au::(cf (bW v h b')++cf (dY v up (h+1))):=by
  rw[gX,hl,hkp];simp only[dO,de,dZ,dg];rw[t1,t2];simp
 have J3:cf (dR v1 (h+1) {y with l:=a'++b'} up)=cf (gH v up (h+1))++y.au::((cf (bW v h a')++cf (bW v h b'))++cf (dY v up (h+1))):=by
  rw[gX];show cf (gH v1 up (h+1))++y.au::(cf (bW v1 h (a'++b'))++cf (dY v1 up (h+1)))=_;rw[iY,dK,q1,q2,EM,vV]
 have uZ:(x.au::cf (dR v1 (h+1) {y with l:=a'++b'} up)).Perm (cf (dR v h x (y::up))):=by
  rw[J3,hold,I6];intro j;simp only[OV,OY];omega
 have Na:=P.M8;rw[<-gX]at Na;have hnod1:=uZ.nodup_iff.2 Na;have hnod:=(iC.1 hnod1);refine⟨⟨hU2,?_,?_,λfy=>⟨λe he=>?_,?_⟩,λe he=>?_,?_,?_⟩,λ{v' H' gone} S=>?_⟩
 .show y.leaf=decide (h+1=0);rw[f.leaf];rfl
 .exact om (by show(jO v1 y.au).2.2=0;rw[f2.nd])
 .have he:e∈a'++b':=he;exact sV e (by rcases aK.1 he with h|h<;>simp[h])
 .show vT (nL v1 h) (iT v1 h) (a'++b');refine⟨fy,f2.ch,f2.lo,λe he=>?_⟩
  cases ha':a' with
  |nil=>
   rw[ha']at he;exact f2.hb e (wE he)
  |cons z a2=>
   have hha:=f2.ha;rw[ha']at he hha;rw[oZ,mj]at he
   rcases aK.1 he with he|he
   .exact hha e he
   .exact f2.hb e he
 .have he:e∈cK (bW v1 h (a'++b')):=he;obtain⟨z,hz,hx⟩:=eB.1 he;exact ZV z hz e hx
 .rw[<-gX];exact hnod.2
 .show aw (a'++b')<=223;rw[fJ];omega
 .have hHl:h+(y::up).length=h+1+up.length:=by simp;omega
  rw[hHl];refine⟨S.ok,?_,?_,λj hj=>?_,λj hj=>?_,λwt=>?_,S.h⟩
  .rw[S.en,me,me];show cK (gH v1 up (h+1))++(cK (bW v1 h (a'++b'))++cK (dY v1 up (h+1)))=_;rw[iY,eJ,q1,q2,EM,vV,hl];simp only[dO,de,dZ,dg];rw[t1,t2];have:iP v h []=[]:=by cases h<;>rfl
   rw[this];simp
  .refine(List.perm_middle.trans (S.pg.cons _)).trans uZ
  .rcases ax.1 hj with rfl|hj
   .rw[S.o _ hnod.1];exact hd
   .exact S.del j hj
  .rw[S.o j (λhm=>hj (uZ.mem_iff.1 (aH _ hm)))];exact hv j (λe=>hj (uZ.mem_iff.1 (by rw[e];simp)))
  .have h1:=S.JZ wt;have e3:fj wt (dR v1 (h+1) {y with l:=a'++b'} up)=fj wt (gH v up (h+1))+(wt (h+1)*(aw (a'++b')-151)+((fj wt (bW v h a')+fj wt (bW v h b'))+fj wt (dY v up (h+1)))):=by
    unfold dR;show fj wt (gH v1 up (h+1)++(h+1,y.au,a'++b')::(bW v1 h (a'++b')++dY v1 up (h+1)))=_;rw[iY,q1,q2,EM,vV];simp only[kG,fK]
   have e4:fj wt (dR v h x (y::up))=(fj wt (gH v up (h+1))+(wt (h+1)*(aw y.l-151)+fj wt (bW v h a')))+(wt h*(aw x.l-151)+(fj wt (bW v h b')+fj wt (dY v up (h+1)))):=by
    unfold dR;simp only[dO,de,dZ,dg];rw[t1,t2,hl,hkp];simp only[kG,fK,ZU,dD]
   have m1:wt (h+1)*(aw (a'++b')-151)<=wt (h+1)*(aw y.l-151):=m7 _ (by rw[f.l,fJ,fJ,fI];omega);rw[e3]at h1;rw[e4];omega
def AL:∀(up:List Step) (h:Nat) (x:Step) (q:QS) (v:Vw) (u:Nat),h+up.length<=15->Rd q v o u mm->TS v h x up->
  ((cU (x::up) q).2=11/\mm<=u/\∃v',Rd (cU (x::up) q).1 v' o u mm)\/
  ((cU (x::up) q).2=0/\∃v' H' gone,Rd (cU (x::up) q).1 v' o u mm/\EU v v' (h+up.length) H' (dR v h x up) gone)
 |[],h,x,q,v,u,hh,R,P=>by
  have Gn:x.au=0:=P.hole;have hb:aw (blank (decide (h=0)) x.l)<=223:=aD (eA _ _) P.sz;have hn:(0::cf (cZ v h x.l)).Nodup:=by have:=P.M8;rw[Gn]at this;simpa [dZ,dg]using this
  have hns:dR v h x []=(h,0,x.l)::cZ v h x.l:=by unfold dR;simp only[dO,de,dZ,dg];rw[Gn];simp
  have h0:(v 0).2=0:=by have h1:=P.here;rw[Gn]at h1;exact h1
  rw[sR,hns]
  by_cases vI:x.leaf=true
  .rw[U8 vI];have hz:h=0:=by rw[P.leaf]at vI;exact of_decide_eq_true vI
   subst hz;have sW:=sY (h:=0) P.ok hb;have sW:(bM x.leaf x.l).2=0:=by rw[vI];exact sW
   rw[Gn]
   rcases R.write h0 sW with⟨w1,w2⟩|⟨w1,w2,w3⟩
   .refine .inr ⟨w1,_,0,[],w2,zC P.ok hb (.inr rfl) ?_ (λj hj=>by unfold kU;rw[U9 hj]) hn⟩;rw[iH sW,U8 rfl,vI];rfl
   .exact .inl ⟨w1,w3,v,w2⟩
  .rw[U9 vI];unfold QS.kx;rw[P.leaf];have hlen:h+([]:List Step).length=h:=rfl;rw[hlen]at hh ⊢;exact EV h 600 x.l q v u ls R h0 P.ok hb hn
 |y::up,h,x,q,v,u,hh,R,P=>by
  rw[sS]
  by_cases hl:x.l=[]
  .rw[U8 hl];obtain⟨e1,e2⟩:=R.drop x.au P.here;rw[U9 (by rw[e1];simp)];obtain⟨P2,hS⟩:=Wf (v1:=JS v x.au) P hl (λj hj=>JT v hj) (by rw[Hz];decide)
   rcases AL up (h+1) {y with l:=y.l.eraseIdx y.at_} _ _ u (by simp at hh;omega) e2 P2 with i|⟨i1,v',H',gone,i2,S⟩
   .exact .inl i
   .exact .inr ⟨i1,v',H',_,i2,hS S⟩
  .rw[U9 hl];have hb:aw (blank (decide (h=0)) x.l)<=223:=aD (eA _ _) P.sz;have sW:=sY P.ok hb;have hlay':(bM x.leaf x.l).2=0:=by rw[P.leaf];exact sW
   rcases R.write P.here hlay' with⟨w1,w2⟩|⟨w1,w2,w3⟩
   .obtain⟨p1,p2,p3⟩:=EL (v':=kU v x.au (bM x.leaf x.l).1) P.hole (P.ok hl) (λ_=>hl) P.ZQ P.M8 hb (by rw[iH hlay',U8 rfl,P.leaf]) (λj hj=>by unfold kU;rw[U9 hj]);refine .inr ⟨w1,_,h+(y::up).length,[],w2,p1,p3,?_,lw,λj hj=>?_,λwt=>?_,ai _⟩
    .rw[p2,gX];simp
    .unfold kU;rw[U9 (λe=>hj (by rw[gX,e];simp))]
    .rw[p2];unfold dR;simp only[kG,fK];have:wt h*(aw (blank (decide (h=0)) x.l)-151)<=wt h*(aw x.l-151):=m7 _ (by have:=eA (decide (h=0)) x.l;omega);omega
   .exact .inl ⟨w1,w3,v,w2⟩
end
structure DelP(v v':Vw)(H:Nat)(M:List MT)(key:Nm)(H':Nat)(M':List MT)(A B:List (Nm×Nm))(y:Nm):Prop where
 t:Tree v' H' M'
 d:Ri (kV M) key A [(key,y)] B
 m:kV M'=A++B
 JZ:∀wt,fj wt (aS v' H' 0)<=fj wt (aS v H 0)
 h:H'<=H
section
variable{o:Vw}{mm:Nat}
def Ni{q:QS}{v:Vw}{u H:Nat}{M:List MT}(R:Rd q v o u mm)(T:Tree v H M)(hH:H<=15)(key:Nm):
  ((q.fR key).2=11/\mm<=u/\∃v',Rd (q.fR key).1 v' o u mm)\/
  ((q.fR key).2=9/\Rd (q.fR key).1 v o u mm/\∃A B,Ri (kV M) key A [] B)\/
  ((q.fR key).2=0/\∃v' H' M' A B y,Rd (q.fR key).1 v' o u mm/\DelP v v' H M key H' M' A B y):=by
 obtain⟨r1,r2⟩:=JX R T.ok hH key;unfold QS.fR
 rcases r2 with⟨r2,r3⟩|⟨r2,up,x,r3,r4,W⟩
 .rw[U8 (by rw[r2];simp)];exact .inl ⟨r2,r3,v,r1⟩
 rw[U9 (by rw[r2];simp),r3,ET,show(up.reverse++[x]).dropLast.reverse=up by simp];obtain⟨p1,p2,p3,p4,p5⟩:=EK W;rw[r4]at p1 p2 p5;obtain⟨M1,MC,M2,a,b,d⟩:=ES T W r4;have hdp:=d.ZY
 rcases d.c with⟨h1,h2⟩|⟨m,h1,XL,h2⟩
 .rw[U8 h2];rw[h1]at hdp;exact .inr (.inl ⟨rfl,r1,_,_,hdp⟩)
 rw[U9 (by rw[h2];simp)];rw[h1]at hdp;have Zg:x.l=a++m.1::b:=by rw[d.l,h1];rfl
 have hdm:M=M1++m::M2:=by rw[d.m,h1];rfl
 have sX:cf (aS v H 0)=cf (gH v up 0)++x.au::cf (dY v up 0):=by rw[p2,dK,dN]
 have We:=fL.1 T.M8;have haw:pY x.l key=a++b:=by
  unfold pY;rw[U8 h2,d.n,Zg];exact zB a m.1 b
 have FY:=T.va m (by rw[hdm];simp);have Gp:(((q.cI key).1.hX x.l key).2=0/\Rd ((q.cI key).1.hX x.l key).1 (ou v m.2.2) o u mm)\/(((q.cI key).1.hX x.l key).2=11/\Rd ((q.cI key).1.hX x.l key).1 v o u mm/\mm<=u):=by
  unfold QS.hX;rw[U8 h2];have hx:x.l.getD (aY x.l key) Nd.E.zero=m.1:=by rw[d.n,Zg];simp[jG]
  rw[hx];exact Ie r1 FY
 rw[haw]
 rcases Gp.symm with⟨o1,o2,o3⟩|⟨o1,o2⟩
 .rw[U8 (by rw[o1];simp)];exact .inl ⟨o1,o3,v,o2⟩
 rw[U9 (by rw[o1];simp)];have hMn:=We.2.1;rw[hdm,ir,ox]at hMn;have J4:=fL.1 hMn;have Z7:=fL.1 J4.2.1;have hmin:∀j∈m.2.2,j∈rJ M:=λj hj=>by rw[hdm,ir,ox];simp[hj]
 have rB:∀j,j∉m.2.2->ou v m.2.2 j=v j:=λj hj=>U9 hj;have hnd1:∀j∈cf (aS v H 0),ou v m.2.2 j=v j:=λj hj=>rB j (λhm=>We.2.2 j hj (hmin j hm));obtain⟨c1,c2,c3⟩:=js (v':=ou v m.2.2) up 0 x.au W.hole (λj hj=>hnd1 j (by rw[sX];simp[hj])) (λj hj=>hnd1 j (by rw[sX];simp[hj]));have ni:∀e∈a++b,e∈x.l:=λe he=>by rw[Zg];rcases aK.1 he with h|h<;>simp[h]
 have vd:=nM (qZ (v:=v) (p:=x.au) (by rw[W.nd]));rw[W.nd]at vd;have vd:∀e∈x.l,eh e true:=vd;have hbx:aw x.l<=223:=by have:=W.ok.2;rw[W.nd]at this;exact this
 have hpw:=q9 W.nd;rw[Zg,eH,eT]at hpw;have P:TS (ou v m.2.2) 0 ⟨x.au,x.leaf,a++b,x.at_⟩ up:=by
  refine⟨c1,W.leaf,?_,λ_=>⟨λe he=>vd e (ni e he),?_⟩,λe he=>?_,?_,?_⟩
  .show(ou v m.2.2 x.au).2=0;have pI:x.au∈cf (aS v H 0):=by rw[sX];simp
   rw[hnd1 _ pI];exact T.AK _ pI
  .show(a++b).Pairwise λc e=>iK c.key e.key;rw[eH];exact⟨hpw.1,hpw.2.1.2,λe he e' Bi=>hpw.2.2 e he e' (aH _ Bi)⟩
  .exact W.ZQ e (ni e he)
  .show(cf (gH (ou v m.2.2) up 0)++x.au::([]++cf (dY (ou v m.2.2) up 0))).Nodup;rw[c2,c3,dD,<-sX];exact We.1
  .show aw (a++b)<=223;rw[Zg,fJ,fI]at hbx;rw[fJ];omega
 have Kt:dR (ou v m.2.2) 0 ⟨x.au,x.leaf,a++b,x.at_⟩ up=gH v up 0++(0,x.au,a++b)::dY v up 0:=by
  unfold dR;rw[c2,c3];rfl
 have OG:cf (dR (ou v m.2.2) 0 ⟨x.au,x.leaf,a++b,x.at_⟩ up)=cf (aS v H 0):=by rw[Kt,sX,dK,dN]
 rcases AL up 0 ⟨x.au,x.leaf,a++b,x.at_⟩ _ _ u ls o2 P with i|⟨i1,v2,H',gone,i2,S⟩
 .exact .inl i
 refine .inr (.inr ⟨i1,v2,H',M1++M2,kV M1,kV M2,m.2.1,i2,?_⟩);have Ng:∀j,j∈rJ M1\/j∈rJ M2->j∈rJ M/\j∉m.2.2:=λj hj=>by
  refine⟨by rw[hdm,ir,ox];rcases hj with h|h<;>simp[h],λhc=>?_⟩
  rcases hj with h|h
  .exact J4.2.2 j h (cL _ hc)
  .exact Z7.2.2 j hc h
 have hM3:∀j,j∈rJ M1\/j∈rJ M2->v2 j=v j/\j∉cf (aS v H 0):=λj hj=>by
  obtain⟨h3,h4⟩:=Ng j hj;have h5:j∉cf (aS v H 0):=λh=>We.2.2 j h h3;exact⟨by rw[S.o j (by rw[OG];exact h5),rB j h4],h5⟩
 have hSn:(cf (aS v2 H' 0)++gone).Nodup:=S.pg.nodup_iff.2 (by rw[OG];exact We.1);have hSin:∀j,j∈cf (aS v2 H' 0)->j∈cf (aS v H 0):=λj hj=>by rw[<-OG];exact S.pg.mem_iff.1 (cL _ hj)
 refine⟨⟨S.ok,?_,λz hz=>?_,?_,λj hj=>?_⟩,?_,by rw[TR],λwt=>?_,by have:=S.h;omega⟩
 .rw[S.en,Kt,eS,d.m1,d.m2];simp
 .rcases aK.1 hz with hz|hz
  .exact(T.va z (by rw[hdm];simp[hz])).congr (λj hj=>(hM3 j (.inl (xQ.2 ⟨z,hz,hj⟩))).1)
  .exact(T.va z (by rw[hdm];simp[hz])).congr (λj hj=>(hM3 j (.inr (xQ.2 ⟨z,hz,hj⟩))).1)
 .rw[ir,fL];refine⟨(fL.1 hSn).1,fL.2 ⟨J4.1,Z7.2.1,λj hj hm=>J4.2.2 j hj (cv _ hm)⟩,λj hj hm=>?_⟩;exact(hM3 j (aK.1 hm)).2 (hSin j hj)
 .rw[ir]
  by_cases h3:j∈cf (aS v H 0)
  .rw[<-OG]at h3
   rcases aK.1 (S.pg.mem_iff.2 h3)with h4|h4
   .exact cL _ h4
   .exact eq hj (S.del j h4)
  .rw[S.o j (by rw[OG];exact h3)]at hj
   by_cases h4:j∈m.2.2
   .unfold ou at hj;rw[U8 h4]at hj;exact eq hj lw
   .rw[rB j h4]at hj;have:=T.all j hj;rw[hdm,ir,ox]at this;simp only[aK]at this ⊢
    rcases this with h|h|h|h
    .exact eq h h3
    .exact .inr (.inl h)
    .exact eq h h4
    .exact .inr (.inr h)
 .have e:((key,m.2.1):Nm×Nm)=(m.1.key,m.2.1):=by rw[XL]
  rw[e];exact hdp
 .have h5:=S.JZ wt;rw[Kt,kG,fK]at h5;rw[p2,kG,fK];dsimp only at h5 ⊢;have:wt 0*(aw (a++b)-151)<=wt 0*(aw x.l-151):=m7 _ (by rw[Zg,fJ,fJ,fI];omega);omega
end
variable{fr til:Nm}{l:List E}{u:Nat}{q:QS}
def bl_kc(a b:Nm):Op.bytesLess a.toList b.toList=decide (iK a b):=by
 rw[cM,cM,Nd.TD];rfl
def toL_nil(t:Nm):(t.toList==[])=decide (t.size=0):=by
 rw[cM];have h:t.data.toList.length=t.size:=by simp
 cases hl:t.data.toList with
 |nil=>rw[hl]at h;rw[ww (by rw[<-h];rfl)];rfl
 |cons a l=>rw[hl]at h;rw[wn (by rw[<-h];simp)];rfl
def FZ(fr til key:Nm):Bool:=decide (q8 fr key) && (decide (til.size=0) || decide (iK key til))
def gu{α σ:Type}(step:α->σ->σ×Bool):List α->σ->σ×Bool
 |[],s=>(s,true)
 |x::l,s=>if(step x s).2=true then gu step l (step x s).1 else((step x s).1,false)
def zD{α σ:Type}(step:α->σ->σ×Bool):∀(a b:List α) (s:σ),gu step (a++b) s=if(gu step a s).2=true then gu step b (gu step a s).1 else gu step a s
 |[],b,s=>rfl
 |x::a,b,s=>by
  show(if(step x s).2=true then gu step (a++b) (step x s).1 else((step x s).1,false))=if(if(step x s).2=true then gu step a (step x s).1 else((step x s).1,false)).2=true then _ else _
  by_cases h:(step x s).2=true
  .rw[U8 h,zD step a b];simp only[gu,U8 h]
  .rw[U9 h,U9 h,i8];exact(U9 h).symm
def wy(fr til:Nm)(l:List E):List E:=l.filter λe=>FZ fr til e.key
def Cp(fr til:Nm)(a b:List E):wy fr til (a++b)=wy fr til a++wy fr til b:=yo ..
def TU(h:∀e∈l,iK e.key fr):wy fr til l=[]:=by
 unfold wy;rw[Pd];intro e he hx;unfold FZ at hx;rw[jI,decide_eq_true_eq]at hx;exact zx (h e he) hx.1
def EW(ht:til.size≠0)(h:∀e∈l,q8 til e.key):wy fr til l=[]:=by
 unfold wy;rw[Pd];intro e he hx;unfold FZ at hx;rw[jI,zW,decide_eq_true_eq,decide_eq_true_eq]at hx
 rcases hx.2 with h1|h1
 .exact ht h1
 .exact zx (of_decide_eq_true h1) (h e he)
structure WkOk{σ:Type}(step:E->σ->σ×Bool)(fr til:Nm)(en:List E)(s:σ)(R:Wk σ):Prop where
 e:R.e=0
 f:R.s=(gu step (wy fr til en) s).1
 y:R.more=true->(gu step (wy fr til en) s).2=true
 n:R.more=false->(gu step (wy fr til en) s).2=false\/(til.size≠0/\∃y∈en,q8 til y.key)
section
variable{σ:Type}{o:Vw}{mm:Nat}{v:Vw}(step:E->σ->σ×Bool)(fr til:Nm)
def Wg(i:Nat)(x:E):mO fr true 0 i x=decide (iK x.key fr):=by
 unfold mO;rw[bl_kc,wn (lA i)];simp
def TV(leaf:Bool)(i:Nat)(x:E):lL til leaf i x=(decide (til.size≠0) && decide (q8 til x.key) && (leaf || decide (0<i))):=by
 unfold lL;rw[toL_nil,bl_kc]
 congr 2
 .simp
 .have h1:(decide (iK x.key til))= !decide (q8 til x.key):=by
   by_cases h:iK x.key til
   .rw[ww h,wn (λk=>zx h k)];rfl
   .rw[wn h,ww (oo h)];rfl
  rw[h1,Bool.not_not]
def zE(rec:QS->Nat->σ->Int->Wk σ):∀(l:List E) (i:Nat) (q:QS) (seen:Nat) (s:σ),(l.Pairwise λc e=>iK c.key e.key)->
  (fP rec step fr til true 0 i l q seen s).q=q/\(fP rec step fr til true 0 i l q seen s).seen=seen/\WkOk step fr til l s (fP rec step fr til true 0 i l q seen s)
 |[],i,q,seen,s,_=>⟨rfl,rfl,rfl,rfl,λ_=>rfl,λh=>eq h (by simp[fP])⟩
 |x::l,i,q,seen,s,hp=>by
  rw[eT]at hp;unfold fP;rw[Wg,TV]
  by_cases h1:iK x.key fr
  .rw[ww h1,U8 rfl];obtain⟨a,b,c⟩:=zE rec l (i+1) q seen s hp.2;have hf:wy fr til (x::l)=wy fr til l:=by
    rw[show x::l=[x]++l from rfl,Cp,TU (l:=[x]) (by simp;exact h1)];rfl
   exact⟨a,b,c.e,by rw[hf];exact c.f,by rw[hf];exact c.y,λh=>by rw[hf];exact(c.n h).imp id (λ⟨h2,y,hy,h3⟩=>⟨h2,y,by simp[hy],h3⟩)⟩
  .rw[wn h1,i8]
   by_cases h2:til.size≠0/\q8 til x.key
   .rw[ww h2.1,ww h2.2,i9];have hf:wy fr til (x::l)=[]:=EW h2.1 (λe he=>by
     rcases ax.1 he with rfl|he
     .exact h2.2
     .exact vR (kh h2.2 (hp.1 e he)))
    exact⟨rfl,rfl,rfl,by rw[hf];rfl,λh=>eq h lw,λ_=> .inr ⟨h2.1,x,lw,h2.2⟩⟩
   .rw[U9 (by
     rw[jI,jI,decide_eq_true_eq,decide_eq_true_eq];exact λh=>h2 h.1),U8 rfl]
    have pI:FZ fr til x.key=true:=by
     unfold FZ;rw[jI,zW,decide_eq_true_eq,decide_eq_true_eq,decide_eq_true_eq];refine⟨oo h1,?_⟩
     by_cases h3:til.size=0
     .exact .inl h3
     .right
      by_cases h4:iK x.key til
      .exact h4
      .exact eq ⟨h3,oo h4⟩ h2
    have hf:wy fr til (x::l)=x::wy fr til l:=by unfold wy;rw[lu,U8 pI]
    by_cases h3:(step x s).2=true
    .rw[U8 h3];obtain⟨a,b,c⟩:=zE rec l (i+1) q seen (step x s).1 hp.2;have hs:gu step (x::wy fr til l) s=gu step (wy fr til l) (step x s).1:=U8 h3;exact⟨a,b,c.e,by rw[hf,hs];exact c.f,by rw[hf,hs];exact c.y,λh=>by rw[hf,hs];exact(c.n h).imp id (λ⟨h2,y,hy,h3⟩=>⟨h2,y,by simp[hy],h3⟩)⟩
    .rw[U9 h3];have hs:gu step (x::wy fr til l) s=((step x s).1,false):=U9 h3;exact⟨rfl,rfl,rfl,by rw[hf,hs],λh=>eq h lw,λ_=> .inl (by rw[hf,hs])⟩
def Z9(v:Vw)(o:Vw)(mm u h m:Nat):Prop:=
 ∀(q:QS) (p:Int) (seen:Nat) (s:σ),Rd q v o u mm->nL v h p->seen+(aS v h p).length<=512->
  Rd (et step fr til m q seen s p).q v o u mm/\(et step fr til m q seen s p).seen<=seen+(aS v h p).length/\(((et step fr til m q seen s p).e=11/\mm<=u)\/WkOk step fr til (iT v h p) s (et step fr til m q seen s p))
def TX{h m:Nat}(IH:Z9 step fr til v o mm u h m)(first:Nat):∀(l:List E) (i:Nat) (q:QS) (seen:Nat) (s:σ),first<=i->Rd q v o u mm->(∀e∈l,nL v h e.bh/\iT v h e.bh≠[])->(l.Pairwise λc e=> ∀x∈iT v h c.bh,iK x.key e.key)->(∀e∈l,∀x∈iT v h e.bh,(0<i\/e∈l.tail)->q8 e.key x.key)->seen+(bW v h l).length<=512->
  Rd (fP (et step fr til m) step fr til false first i l q seen s).q v o u mm/\(fP (et step fr til m) step fr til false first i l q seen s).seen<=seen+(bW v h l).length/\
   (((fP (et step fr til m) step fr til false first i l q seen s).e=11/\mm<=u)\/WkOk step fr til (cK (bW v h l)) s (fP (et step fr til m) step fr til false first i l q seen s))
 |[],i,q,seen,s,_,R,_,_,_,_=>⟨R,Jb _ _,.inr ⟨rfl,rfl,λ_=>rfl,λh=>eq h (by simp[fP])⟩⟩
 |x::l,i,q,seen,s,hi,R,hc,hp,hh,hs=>by
  rw[eT]at hp;have hsk:mO fr false first i x=false:=by unfold mO;rw[wn ls];rfl
  have hlen:(bW v h (x::l)).length=(aS v h x.bh).length+(bW v h l).length:=by rw[ia,bC]
  have xL:cK (bW v h (x::l))=iT v h x.bh++cK (bW v h l):=by rw[ia,eJ];rfl
  have hx:=hc x lw;obtain⟨y0,hy0⟩:=ym _ hx.2;have hlater:∀z∈cK (bW v h l),∀y∈iT v h x.bh,iK y.key z.key:=λz hz y hy=>by
   obtain⟨e,he,hz⟩:=eB.1 hz;exact iI (hp.1 e he y hy) (hh e (by simp[he]) z hz (.inr he))
  unfold fP;rw[hsk,i8,TV]
  by_cases h2:til.size≠0/\q8 til x.key/\0<i
  .rw[ww h2.1,ww h2.2.1,ww h2.2.2,i9];have py:∀z∈cK (bW v h (x::l)),q8 til z.key:=λz hz=>by
    rw[xL]at hz
    rcases aK.1 hz with hz|hz
    .exact p7 h2.2.1 (hh x lw z hz (.inl h2.2.2))
    .exact p7 h2.2.1 (p7 (hh x lw y0 hy0 (.inl h2.2.2)) (vR (hlater z hz y0 hy0)))
   have hf:wy fr til (cK (bW v h (x::l)))=[]:=EW h2.1 py;exact⟨R,Jb _ _,.inr ⟨rfl,by rw[hf];rfl,λh=>eq h lw,λ_=> .inr ⟨h2.1,y0,by rw[xL];simp[hy0],py y0 (by rw[xL];simp[hy0])⟩⟩⟩
  .rw[U9 (by
    rw[jI,jI,zW,decide_eq_true_eq,decide_eq_true_eq,decide_eq_true_eq];exact λh=>h2 ⟨h.1.1,h.1.2,h.2.resolve_left lw⟩),i8]
   obtain⟨r1,r2,r3⟩:=IH q x.bh seen s R hx.1 ls
   rcases r3 with⟨r3,r4⟩|r3
   .rw[U9 (by rw[r3];simp)];exact⟨r1,ls,.inl ⟨r3,r4⟩⟩
   .by_cases hm:(et step fr til m q seen s x.bh).more=true
    .rw[U8 ⟨hm,r3.e⟩];obtain⟨i1,i2,i3⟩:=TX IH first l (i+1) (et step fr til m q seen s x.bh).q (et step fr til m q seen s x.bh).seen (et step fr til m q seen s x.bh).s ls r1 (λe he=>hc e (by simp[he])) hp.2 (λe he z hz _=>hh e (by simp[he]) z hz (.inr he)) ls
     have hfo:gu step (wy fr til (cK (bW v h (x::l)))) s=gu step (wy fr til (cK (bW v h l))) (et step fr til m q seen s x.bh).s:=by
      rw[xL,Cp,zD,U8 (r3.y hm),r3.f]
     refine⟨i1,ls,i3.imp id (λc=>⟨c.e,by rw[hfo];exact c.f,by rw[hfo];exact c.y,λhmm=>by rw[hfo];exact(c.n hmm).imp id (λ⟨h3,y,hy,h4⟩=>⟨h3,y,by rw[xL];simp[hy],h4⟩)⟩)⟩
    .have hm':(et step fr til m q seen s x.bh).more=false:=by simpa using hm
     rw[U9 (λh=>hm h.1)];have hfo:gu step (wy fr til (cK (bW v h (x::l)))) s=gu step (wy fr til (iT v h x.bh)) s:=by
      rw[xL,Cp,zD]
      by_cases Cc:(gu step (wy fr til (iT v h x.bh)) s).2=true
      .rw[U8 Cc]
       rcases r3.n hm' with h3|⟨h3,y,hy,h4⟩
       .rw[h3]at Cc;cases Cc
       .rw[EW h3 (λz hz=>p7 h4 (vR (hlater z hz y hy)))];exact mu rfl Cc.symm
      .rw[U9 Cc]
     refine⟨r1,ls,.inr ⟨r3.e,by rw[hfo];exact r3.f,λh=>eq h hm,λh=>by rw[hfo];exact(r3.n h).imp id (λ⟨h3,y,hy,h4⟩=>⟨h3,y,by rw[xL];simp[hy],h4⟩)⟩⟩
def Ig(rec:QS->Nat->σ->Int->Wk σ)(first:Nat)(b:List E):∀(a:List E) (i:Nat) (q:QS) (seen:Nat) (s:σ),i+a.length<=first->fP rec step fr til false first i (a++b) q seen s=fP rec step fr til false first (i+a.length) b q seen s
 |[],i,q,seen,s,_=>rfl
 |x::a,i,q,seen,s,h=>by
  rw[oZ,fP];have hsk:mO fr false first i x=true:=by unfold mO;rw[ww (by simp at h;omega)];rfl
  rw[U8 hsk,Ig rec first b a (i+1) q seen s (by simp at h;omega),jh,show i+1+a.length=i+(a.length+1) by omega]
def TY :∀(h m:Nat),h<m->Z9 step fr til v o mm u h m
 |h,0,hm=>eq hm ls
 |h,m+1,hm=>by
  intro q p seen s R hO hs;have Xo:1<=(aS v h p).length:=by rw[oX];simp
  unfold et;rw[ge];obtain⟨r1,r2⟩:=R.read p
  rcases r2 with r2|⟨r2,r3⟩
  .cases h with
   |zero=>
    have hp:=q9 hO.1;have xL:iT v 0 p=(jO v p).2.1:=JU v 0 p;rw[r2,hO.1,i8];dsimp only;rw[U8 rfl];obtain⟨a,b,c⟩:=zE step fr til (et step fr til m) (jO v p).2.1 0 (q.aT p).1 (seen+1) s hp;rw[a,b,xL];exact⟨r1,ls,.inr c⟩
   |succ h=>
    obtain⟨o1,o2,o4,o3⟩:=hO;obtain⟨l,hl⟩:∃l,(jO v p).2.1=l:=⟨_,rfl⟩;have xL:iT v (h+1) p=cK (bW v h l):=by rw[JU,hl];rfl
    have hlen:(aS v (h+1) p).length=1+(bW v h l).length:=by rw[oX,hl];simp[cZ];omega
    rw[hl]at o1 o2 o3 o4;have hp:=q9 o1;obtain⟨a,c,b,e1,e2,e3,e4⟩:=MW hp o3.ne fr;rw[r2,o1,i8];dsimp only;rw[i8,e2,xL];have Kr:=o3.lo;have VC:=o3.hi;have hcc:=o3.c;rw[e1,eH]at Kr;rw[e1]at VC hcc;have hsk:=Ig step fr til (et step fr til m) a.length (c::b) a 0 (q.aT p).1 (seen+1) s ls;rw[bV]at hsk;rw[e1,hsk]
    have lQ:(bW v h l).length=(bW v h a).length+(bW v h (c::b)).length:=by rw[e1,iY,bC]
    have hhi2:∀e∈c::b,∀x∈iT v h e.bh,(0<a.length\/e∈(c::b).tail)->q8 e.key x.key:=λe he x hx hor=>by
     cases a with
     |nil=>
      rcases hor with h0|h0
      .exact eq h0 lw
      .exact VC e h0 x hx
     |cons z a'=>exact VC e (cv _ he) x hx
    obtain⟨i1,i2,i3⟩:=TX step fr til (TY h m ls) a.length (c::b) a.length (q.aT p).1 (seen+1) s (ai _) r1 (λe he=>hcc e (cv _ he)) Kr.2.1 hhi2 ls;have hfa:wy fr til (cK (bW v h (a++c::b)))=wy fr til (cK (bW v h (c::b))):=by
     rw[iY,eJ,Cp,TU (l:=cK (bW v h a)) (λx hx=>?_),dD];obtain⟨e,he,hx⟩:=eB.1 hx;exact iI (Kr.2.2 e he c lw x hx) (e3 (λh0=>by rw[h0]at he;simp at he))
    refine⟨i1,ls,i3.imp id (λw=>⟨w.e,by rw[hfa];exact w.f,by rw[hfa];exact w.y,λhmm=>by rw[hfa];exact(w.n hmm).imp id (λ⟨h3,y,hy,h4⟩=>⟨h3,y,by rw[iY,eJ];exact cv _ hy,h4⟩)⟩)⟩
  .rw[r2,i9];exact⟨r1,by show seen+1<=_;omega,.inl ⟨rfl,r3⟩⟩
def zF{H:Nat}(R:Rd q v o u mm)(hO:nL v H 0)(hH:H<=15)(hn:(aS v H 0).length<=512)(s:σ):
  Rd (q.cD step fr til s).q v o u mm/\(((q.cD step fr til s).e=11/\mm<=u)\/((q.cD step fr til s).e=0/\(q.cD step fr til s).s=(gu step (wy fr til (iT v H 0)) s).1)):=by
 obtain⟨a,b,c⟩:=TY step fr til (v:=v) (o:=o) (mm:=mm) (u:=u) H 16 ls q 0 0 s R hO ls;exact⟨a,c.imp id (λw=>⟨w.e,w.f⟩)⟩
end
def EY:∀(n:Nat) (l:List Nat),l.Nodup->(∀x∈l,x<n)->l.length<=n
 |0,l,_,h=>by
  cases l with
  |nil=>exact ai _
  |cons a l=>exact eq (h a lw) ls
 |n+1,l,hn,h=>by
  by_cases hm:n∈l
  .have h1:=EY n (l.erase n) (hn.erase n) (λx hx=>by
    have h2:=(List.Nodup.mem_erase_iff hn).1 hx;have h3:=h x h2.2;have h4:=h2.1;omega)
   have h5:=Xu hm;omega
  .exact Nat.le_succ_of_le (EY n l hn (λx hx=>by
    have h3:=h x hx;have h4:x≠n:=λe=>hm (by rw[<-e];exact hx);omega))
def pages_le{v:Vw}{o:Vw}{mm:Nat}(R:Rd q v o u mm){l:List Int}(hn:l.Nodup)(hl:∀j∈l,(v j).2=0):l.length<=512:=by
 have h1:(l.map Int.toNat).Nodup:=by
  rw[Sz,Bn];refine List.Pairwise.imp_of_mem ?_ hn;intro a b ha hb fy e;have h2:=R.lt (hl a ha);have h3:=R.lt (hl b hb);exact fy ls
 have h2:∀x∈l.map Int.toNat,x∈List.range 512:=λx hx=>by
  obtain⟨j,hj,rfl⟩:=dq.1 hx;have h3:=R.lt (hl j hj);exact mf.2 ls
 have:=EY 512 _ h1 (λx hx=>mf.1 (h2 x hx))
 rwa [eZ]at this
open Nd (E aL bQ aJ aP dm bw aY cg aZ)
open Nd (E aL bQ aJ aP dm bw aY cg)
attribute [local go_sem ↓] bP
variable{lb nb fb:Nat}{n:Int}{w w':World}{s:List E}{G S:List Nat}
def zG{P:Program}{f:FuncId}{fn:Func}(hf:P.funcs[f]?=some fn)(hname:(fn.name== "runtime.NumGoroutine")=false)(hb:fn.body.isNone=false)(args:Array Value)(w:World):Sem.run P (callFunc f args) w=.ok (.enter f args) w:=by
 have h1:fn.name≠ "runtime.NumGoroutine" :=by simpa using hname
 have h2:fn.body≠none:=λh=>by rw[h]at hb;cases hb
 simp[callFunc,hf,h1,h2]
def lp(b:Nat):Value:= .pointer (some ⟨b,0,none⟩)
def km(n:Int)(x:E)(s:List E):List E×Bool:=((if(s.length:Int)<n then s++[x]else s),decide (((if(s.length:Int)<n then s++[x]else s).length:Int)<n))
def sZ(lb nb:Nat)(n:Int)(w:World)(s:List E)(G:List Nat):Prop:=
 ∃A c,G=lb::nb::ak (U3 A s.length c)/\aM w lb 108 #[U3 A s.length c]/\aM w nb 3 #[.int .i64 n]/\bm w 111 3 (U3 A s.length c) s.length (aL s)/\lb≠nb
def sZ.lt(h:sZ lb nb n w s G):∀g∈G,g<w.heap.size:=λg hg=>by
 obtain⟨A,c,rfl,h1,h2,h3,h4⟩:=h
 rcases ax.1 hg with rfl|hg
 .exact h1.lt
 .rcases ax.1 hg with rfl|hg
  .exact h2.lt
  .exact h3.lt g hg
def sZ.only(h:sZ lb nb n w s G)(o:ah S w w')(hs:∀g∈G,g∉S):sZ lb nb n w' s G:=by
 obtain⟨A,c,rfl,h1,h2,h3,h4⟩:=h;exact⟨A,c,rfl,h1.only o (hs _ lw),h2.only o (hs _ lw),h3.only o (λg hg=>hs g (by simp[hg])),h4⟩
def Rk:(prog.info? 111).map (λi=>(i.zero,i.size,i.bytes))=some (some (.agg #[U7 .empty,U7 .empty,.int .i64 0]),3,40):=pm
def Wh(x:E)(h:sZ lb nb n w s G)(hs:s.length<=100000):
  Calls prog 61 #[x.agg,lp lb,lp nb] w λe w'=>e=fd (WF (km n x s).2)/\∃G',sZ lb nb n w' (km n x s).1 G'/\ah G w w'/\∀g∈G',g∈G\/w.heap.size<=g:=by
 obtain⟨A,c,rfl,B1,B2,S1,fy⟩:=h;obtain⟨z,hz⟩:∃z,w.heap.size=z:=⟨_,rfl⟩;obtain⟨k,hk⟩:∃k,s.length=k:=⟨_,rfl⟩;rw[hk]at hs B1 S1 ⊢;have hb:=i6 w (Pi #[U7 x.key,U7 x.val,x.bh] 111);have l1:=B1.lt;have l2:=B2.lt;have l3:=S1.lt;have C1:=B1.below hb l1;have C2:=B2.below hb l2;have CS:=S1.below hb;have B3:=aM.new w 111 #[U7 x.key,U7 x.val,x.bh];have rE:=eg CS C1 ms;have YS:=eg CS C2 ms
 have c1:=C1.bi 0;have c2:=C2.bi 0;have d0:=B3.bi 0;have d1:=B3.bi 1;have d2:=B3.bi 2;have HB:=xh hb;unfold km;rw[hk]
 by_cases hn:(k:Int)<n
 .rw[U8 hn];obtain⟨v',w3,ea,S3,oa,fa⟩:=Nd.El CS 108 108 _ 40 underlying108 Rk rfl x (by unfold maxLen;omega) ls;have f1:=(C1.only oa rE).frozen 0 lw;have x1:=(C1.only oa rE).ae (i:=0) rfl;have y2:=(C2.only oa YS).ae (i:=0) rfl;have hlen:(s++[x]).length=k+1:=by simp[hk]
  obtain⟨A3,c3,Kp⟩:=aI S3;subst Kp;have iy:aL s++E.cells x=aL (s++[x]):=by rw[Nd.jf];simp[aL,E.cells]
  rw[iy]at S3;have D1:=(C1.only oa rE).ct 0 (U3 A3 (k+1) c3);have D2:=(C2.only oa YS).bh (p:=⟨lb,0,none⟩) (λe=>fy e.symm) (U3 A3 (k+1) c3);have D3:=S3.only (S:=[lb]) ((ah.refl _ _).setCell lw _:ah [lb] w3 (w3.setCell ⟨lb,0,none⟩ (U3 A3 (k+1) c3))) (λg hg hm=>by
   rw[aG.1 hm]at hg;exact eg S3 (C1.only oa rE) ms hg)
  have o3:ah (lb::nb::ak (U3 A k c)) w (w3.setCell ⟨lb,0,none⟩ (U3 A3 (k+1) c3)):=((ah.aj HB.o).bj oa (λg hg _=>by simp[hg])).setCell lw _;have fr3:∀g∈lb::nb::ak (U3 A3 (k+1) c3),g∈lb::nb::ak (U3 A k c)\/w.heap.size<=g:=λg hg=>by
   rcases ax.1 hg with rfl|hg
   .exact .inl lw
   .rcases ax.1 hg with rfl|hg
    .exact .inl lw
    .rcases fa g hg with h|h
     .exact .inl (by simp[h])
     .exact .inr (by have:=HB.o.size;omega)
  have z1:=D1.bi 0;have z2:=D2.bi 0;have H9:=xh (show sZ lb nb n (w3.setCell ⟨lb,0,none⟩ (U3 A3 (k+1) c3)) (s++[x]) (lb::nb::ak (U3 A3 (k+1) c3))/\ah (lb::nb::ak (U3 A k c)) w (w3.setCell ⟨lb,0,none⟩ (U3 A3 (k+1) c3))/\∀g∈lb::nb::ak (U3 A3 (k+1) c3),g∈lb::nb::ak (U3 A k c)\/w.heap.size<=g from
   ⟨⟨A3,c3,by rw[hlen],by rw[hlen];exact D1,D2,by rw[hlen];exact D3,fy⟩,o3,fr3⟩)
  have hlI:((s++[x]).length:Int)=(k:Int)+1:=by rw[hlen];omega
  have HLI:=xh hlI;rw[ny,hz]at ea;have EA:=xh ea;clear ea S3 oa fa D1 D2 D3 o3 fr3 hlen hlI iy rE YS C1 C2 CS B3 B1 B2 S1 hb l1 l2 l3 hs hk;unfold lp E.agg at *;go_in;go_wp2_with fail;rw[EA.o];go_wp2;go_ret;refine⟨?_,_,H9.o.1,H9.o.2.1,H9.o.2.2⟩;rw[HLI.o];rfl
 .rw[U9 hn];have H9:=g9 (sZ lb nb n (w.alloc (Pi #[U7 x.key,U7 x.val,x.bh] 111)) s (lb::nb::ak (U3 A k c))) ⟨A,c,by rw[hk],by rw[hk];exact C1,C2,by rw[hk];exact CS,fy⟩;have HK:=xh hk;have HN:=xh hn;have HS:=xh hb.size;clear rE YS C1 C2 CS B3 B1 B2 S1 hb l1 l2 l3 hs hk;unfold lp E.agg at *;go_in;go_wp2;go_ret
  exact⟨by rw[HK.o,wn (Int.not_lt.2 HN.o)];first|rfl|simp,_,H9.o,.aj HB.o,λg hg=> .inl (by simpa using hg)⟩
def scan_vis(lb nb:Nat)(n:Int):Vis 61 #[lp lb,lp nb] (km n) List.length (sZ lb nb n) where
 call:=λW s G x h hs _=>Wh x h hs
 rC:=λW w' s G S h o hs=>h.only o hs
 lt:=λW s G h=>h.lt
 ent:=λargs W=>zG func61 pm pm args W
 one:=λx s=>by unfold km;split<;>simp
def gi(x:E)(_:Option E):Option E×Bool:=(some x,true)
def optE:Option E->E
 |none=>Nd.E.zero
 |some x=>x
def E3(lb fb:Nat)(w:World)(s:Option E)(G:List Nat):Prop:=
 G=[lb,fb]/\aM w lb 111 #[U7 (optE s).key,U7 (optE s).val,.int .i64 (optE s).bh]/\aM w fb 4 #[WF s.isSome]/\lb≠fb
def E3.only{s:Option E}(h:E3 lb fb w s G)(o:ah S w w')(hs:∀g∈G,g∉S):E3 lb fb w' s G:=by
 obtain⟨rfl,h1,h2,h4⟩:=h;exact⟨rfl,h1.only o (hs _ lw),h2.only o (hs _ lw),h4⟩
def Wi{s:Option E}(x:E)(h:E3 lb fb w s G):
  Calls prog 65 #[x.agg,lp lb,lp fb] w λe w'=>e=fd (WF (gi x s).2)/\∃G',E3 lb fb w' (gi x s).1 G'/\ah G w w'/\∀g∈G',g∈G\/w.heap.size<=g:=by
 obtain⟨rfl,B1,B2,fy⟩:=h;obtain⟨z,hz⟩:∃z,w.heap.size=z:=⟨_,rfl⟩;have hb:=i6 w (Pi #[U7 x.key,U7 x.val,x.bh] 111);have l1:=B1.lt;have l2:=B2.lt;have C1:=B1.below hb l1;have C2:=B2.below hb l2;have B3:=aM.new w 111 #[U7 x.key,U7 x.val,x.bh];have d0:=B3.bi 0;have d1:=B3.bi 1;have d2:=B3.bi 2
 obtain⟨D1,oa,y0,y1,y2,z0,z1,z2⟩:=ZE (a':=x.key) (b':=x.val) (c':=x.bh) C1;have D2:=C2.only oa (by simp;exact λe=>fy e.symm);have f2:=D2.frozen 0 lw;have x2:=D2.bi 0;have E1:=D1.bh (p:=⟨fb,0,none⟩) fy (WF true);have E2:=D2.ct 0 (WF true);have o2:=((ah.aj (S:=[lb,fb]) hb).bj oa (λg hg _=>by simp at hg;simp[hg])).setCell (p:=⟨fb,0,none⟩) lw (WF true);have H9:=xh<|And.intro E1 (And.intro E2 o2);have HN:=xh fy
 clear E1 E2 o2 D1 D2 oa C1 C2 B1 B2 B3 hb l1 l2 fy;unfold lp E.agg at *;go_in;go_wp2;go_ret;exact⟨rfl,_,⟨rfl,H9.o.1,H9.o.2.1,HN.o⟩,H9.o.2.2,λg hg=> .inl hg⟩
def seenO(s:Option E):Nat:=if s.isSome then 1 else 0
def last_vis(lb fb:Nat):Vis 65 #[lp lb,lp fb] gi seenO (E3 lb fb) where
 call:=λW s G x h hs _=>Wi x h
 rC:=λW w' s G S h o hs=>h.only o hs
 lt:=λW s G h g hg=>by
  obtain⟨rfl,h1,h2,_⟩:=h;simp only[ax,iD,or_false]at hg
  rcases hg with rfl|rfl
  .exact h1.lt
  .exact h2.lt
 ent:=λargs W=>zG func65 pm pm args W
 one:=λx s=>by unfold gi seenO;cases s<;>simp
def dS(x:E)(s:List Nm):List Nm×Bool:=(s++[x.key],true)
def J5(l:List Nm):List Value:=l.map Value.string
def ta(lb:Nat)(w:World)(s:List Nm)(G:List Nat):Prop:=
 ∃A c,G=lb::ak (U3 A s.length c)/\aM w lb 123 #[U3 A s.length c]/\bm w 9 1 (U3 A s.length c) s.length (J5 s)
def ta.only{s:List Nm}(h:ta lb w s G)(o:ah S w w')(hs:∀g∈G,g∉S):ta lb w' s G:=by
 obtain⟨A,c,rfl,h1,h3⟩:=h;exact⟨A,c,rfl,h1.only o (hs _ lw),h3.only o (λg hg=>hs g (by simp[hg]))⟩
def Wj:(prog.info? 9).map (λi=>(i.zero,i.size,i.bytes))=some (some (U7 .empty),1,16):=pm
def Rl{s:List Nm}(x:E)(h:ta lb w s G)(hs:s.length<=100000):
  Calls prog 66 #[x.agg,lp lb] w λe w'=>e=fd (WF (dS x s).2)/\∃G',ta lb w' (dS x s).1 G'/\ah G w w'/\∀g∈G',g∈G\/w.heap.size<=g:=by
 obtain⟨A,c,rfl,B1,S1⟩:=h;obtain⟨z,hz⟩:∃z,w.heap.size=z:=⟨_,rfl⟩;obtain⟨k,hk⟩:∃k,s.length=k:=⟨_,rfl⟩;rw[hk]at hs B1 S1 ⊢;have hb:=i6 w (Pi #[U7 x.key,U7 x.val,x.bh] 111);have l1:=B1.lt;have C1:=B1.below hb l1;have CS:=S1.below hb;have B3:=aM.new w 111 #[U7 x.key,U7 x.val,x.bh];have rE:=eg CS C1 ms;have c1:=C1.bi 0;have d0:=B3.bi 0;have HB:=xh hb
 obtain⟨v',w3,ea,S3,oa,fa⟩:=gw (P:=prog) CS 123 123 _ 16 underlying123 Wj rfl (U7 x.key) rfl (by unfold maxLen;omega) ls;have f1:=(C1.only oa rE).frozen 0 lw;have x1:=(C1.only oa rE).ae (i:=0) rfl;have hlen:(s++[x.key]).length=k+1:=by simp[hk]
 obtain⟨A3,c3,Kp⟩:=aI S3;subst Kp;have iy:J5 s++[Value.string x.key]=J5 (s++[x.key]):=by simp[J5]
 rw[iy]at S3;have D1:=(C1.only oa rE).ct 0 (U3 A3 (k+1) c3);have D3:=S3.only (S:=[lb]) ((ah.refl _ _).setCell lw _:ah [lb] w3 (w3.setCell ⟨lb,0,none⟩ (U3 A3 (k+1) c3))) (λg hg hm=>by
  rw[aG.1 hm]at hg;exact eg S3 (C1.only oa rE) ms hg)
 have o3:ah (lb::ak (U3 A k c)) w (w3.setCell ⟨lb,0,none⟩ (U3 A3 (k+1) c3)):=((ah.aj HB.o).bj oa (λg hg _=>by simp[hg])).setCell lw _;have fr3:∀g∈lb::ak (U3 A3 (k+1) c3),g∈lb::ak (U3 A k c)\/w.heap.size<=g:=λg hg=>by
  rcases ax.1 hg with rfl|hg
  .exact .inl lw
  .rcases fa g hg with h|h
   .exact .inl (by simp[h])
   .exact .inr (by have:=HB.o.size;omega)
 have H9:=xh (show ta lb (w3.setCell ⟨lb,0,none⟩ (U3 A3 (k+1) c3)) (s++[x.key]) (lb::ak (U3 A3 (k+1) c3))/\ah (lb::ak (U3 A k c)) w (w3.setCell ⟨lb,0,none⟩ (U3 A3 (k+1) c3))/\∀g∈lb::ak (U3 A3 (k+1) c3),g∈lb::ak (U3 A k c)\/w.heap.size<=g from
  ⟨⟨A3,c3,by rw[hlen],by rw[hlen];exact D1,by rw[hlen];exact D3⟩,o3,fr3⟩)
 rw[ny,hz]at ea;have EA:=xh ea;clear ea S3 oa fa D1 D3 o3 fr3 hlen iy rE C1 CS B3 B1 S1 hb l1 hs hk;unfold lp E.agg at *;go_in;go_wp2_with fail;rw[EA.o];go_wp2;go_ret;exact⟨rfl,_,H9.o.1,H9.o.2.1,H9.o.2.2⟩
def Wl(lb:Nat):Vis 66 #[lp lb] dS List.length (ta lb) where
 call:=λW s G x h hs _=>Rl x h hs
 rC:=λW w' s G S h o hs=>h.only o hs
 lt:=λW s G h g hg=>by
  obtain⟨A,c,rfl,h1,h3⟩:=h
  rcases ax.1 hg with rfl|hg
  .exact h1.lt
  .exact h3.lt g hg
 ent:=λargs W=>zG func66 pm pm args W
 one:=λx s=>by unfold dS;simp
abbrev PR:=Nm×Nm
def kL(l:List PR):List Value:=l.flatMap λx=>[U7 x.1,U7 x.2]
def fe:∀l:List PR,(kL l).length=l.length*2
 |[]=>rfl
 |x::l=>by unfold kL;rw[jg,bC];have:=fe l;unfold kL at this;rw[this];simp;omega
def uC(a b:List PR):kL (a++b)=kL a++kL b:=by simp[kL]
def gV:List E->QS->List PR->QS×List PR×Int
 |[],q,out=>(q,out,0)
 |x::l,q,out=>if(q.cC x).2.2≠0 then((q.cC x).1,[],(q.cC x).2.2)else gV l (q.cC x).1 (out++[(x.key,(q.cC x).2.1)])
def QS.dL(q:QS)(fr til:Nm)(n:Int):QS×List PR×Int:=
 if(q.cD (km n) fr til []).e≠0 then((q.cD (km n) fr til []).q,[],(q.cD (km n) fr til []).e)else gV (q.cD (km n) fr til []).s (q.cD (km n) fr til []).q []
def E4:(prog.info? 42).map (λi=>(i.zero,i.size,i.bytes))=some (some (.agg #[U7 .empty,U7 .empty]),2,32):=pm
def zH{w:World}{v:Value}{m:Nat}{L:List Value}(S:bm w 42 2 v m L)(a b:Nm)(hm:m<=1000000):
  ∃v' w',eM prog 30 30 (w.alloc (Pi #[U7 a,U7 b] 42)) v (U3 (lc w.heap.size) 1 1)= .ok v' w'/\bm w' 42 2 v' (m+1) (L++[U7 a,U7 b])/\ah (ak v) w w'/\(∀g∈ak v',g∈ak v\/w.heap.size<=g):=by
 obtain⟨i0,hi,lC,kH,lM⟩:=info_parts E4;obtain⟨v',w',h1,h2,h3,h4⟩:=eu (P:=prog) (S.alloc (Pi #[U7 a,U7 b] 42)) 30 30 i0 _ 32 underlying30 hi lC kH lM rfl ls
  ⟨w.heap.size,0,none⟩ 1 1 [U7 a,U7 b] rfl (bT (aM.new w 42 #[U7 a,U7 b]) 0 _ lw) (by simp;exact⟨rfl,rfl⟩) (by unfold maxLen;omega) ls
 exact⟨v',w',h1,h2,((ah.refl _ _).alloc _).bj h3 (λx hx _=>hx),λg hg=>(h4 g hg).imp id (λh=>by simp at h;omega)⟩
variable{w:World}{g:Nat}{a b:Nm}
def prV(x:PR):Value:= .agg #[U7 x.1,U7 x.2]
def xR{fn:Func}{p u:Tmp}{tmps:Array Value}(h:fn.results= #[.cell p 42,.tmp u])(hp:tmps.getD p undef=.pointer (some ⟨g,0,none⟩))(B:aM w g 42 #[U7 a,U7 b]):
  (results fn tmps).run prog w=.ok (.tuple #[prV (a,b),tmps.getD u undef]) w:=by
 have c0:=B.bi 0;have c1:=B.bi 1;rw[results_cell_tmp h,hp];clear h hp B;unfold prV;go_simp
def lU{a' b':Nm}(B:aM w g 42 #[U7 a,U7 b]):
  aM ((w.setCell ⟨g,0,none⟩ (U7 a')).setCell ⟨g,1,none⟩ (U7 b')) g 42 #[U7 a',U7 b']/\ah [g] w ((w.setCell ⟨g,0,none⟩ (U7 a')).setCell ⟨g,1,none⟩ (U7 b'))/\
   w.cell? (lc g)=some (U7 a)/\w.cell? ⟨g,1,none⟩=some (U7 b)/\w.frozen? ⟨g,0,none⟩=false/\w.frozen? ⟨g,1,none⟩=false:=
 ⟨(B.ct 0 _).ct 1 _,((ah.refl _ _).setCell lw _).setCell lw _,B.ae rfl,B.ae rfl,B.frozen 0 lw,B.frozen 1 lw⟩
def QS.gj(q:QS)(fr til:Nm):QS×PR×Int:=
 if(q.cD gi fr til none).e≠0 then((q.cD gi fr til none).q,(⟨#[]⟩,⟨#[]⟩),(q.cD gi fr til none).e)
 else match (q.cD gi fr til none).s with
  |none=>((q.cD gi fr til none).q,(⟨#[]⟩,⟨#[]⟩),9)
  |some x=>if((q.cD gi fr til none).q.cC x).2.2≠0 then(((q.cD gi fr til none).q.cC x).1,(⟨#[]⟩,⟨#[]⟩),((q.cD gi fr til none).q.cC x).2.2)
   else(((q.cD gi fr til none).q.cC x).1,(x.key,((q.cD gi fr til none).q.cC x).2.1),0)
def gv:List Nm->QS->QS×Int
 |[],q=>(q,0)
 |k::l,q=>if(q.fR k).2≠0 then((q.fR k).1,(q.fR k).2)else gv l (q.fR k).1
def QS.eR(q:QS)(fr til:Nm):QS×Int×Int:=
 if(q.cD dS fr til []).e≠0 then((q.cD dS fr til []).q,0,(q.cD dS fr til []).e)
 else if(gv (q.cD dS fr til []).s (q.cD dS fr til []).q).2≠0 then((gv (q.cD dS fr til []).s (q.cD dS fr til []).q).1,0,(gv (q.cD dS fr til []).s (q.cD dS fr til []).q).2)
 else((gv (q.cD dS fr til []).s (q.cD dS fr til []).q).1,((q.cD dS fr til []).s.length:Nat),0)
end Sh
namespace Sh
open Go.RowKit Pk Dk Pg
open Nd (E aJ aP dm bw aY cg aZ aw eh)
variable{q:QS}{v:Vw}{u H:Nat}{M:List MT}
def yg(fr til:Nm)(x:PR):Bool:=FZ fr til x.1
def Ih(n:Int):∀(l s:List E),(gu (km n) l s).1=s++l.take (n-(s.length:Nat)).toNat
 |[],s=>by simp[gu]
 |x::l,s=>by
  unfold gu km
  by_cases h:(s.length:Int)<n
  .rw[U8 h];obtain⟨k,hk⟩:∃k:Nat,(n-(s.length:Nat)).toNat=k+1:=⟨(n-(s.length:Nat)).toNat-1,ls⟩;have hl:((s++[x]).length:Int)=s.length+1:=lw
   rw[hk,oK]
   by_cases h2:((s++[x]).length:Int)<n
   .rw[ww h2,U8 rfl];dsimp only;have:=Ih n l (s++[x]);unfold km at this;rw[this,show(n-((s++[x]).length:Nat)).toNat=k by omega];simp
   .rw[wn h2,i8];have:k=0:=ls
    subst this;simp
  .rw[U9 h,wn h,i8,show(n-(s.length:Nat)).toNat=0 by omega];simp
def Ii:∀(l:List E) (s:Option E),(gu gi l s).1=match l.getLast? with|none=>s|some x=>some x
 |[],s=>rfl
 |[x],s=>by simp[gu,gi]
 |x::y::l,s=>by
  have h:gu gi (x::y::l) s=gu gi (y::l) (some x):=by simp[gu,gi]
  rw[h,Ii (y::l) (some x),List.getLast?_cons_cons]
  cases h2:(y::l).getLast? with
  |none=>simp at h2
  |some z=>rfl
def E6:∀(l:List E) (s:List Nm),(gu dS l s).1=s++l.map (λe=>e.key)
 |[],s=>by simp[gu]
 |x::l,s=>by
  have h:gu dS (x::l) s=gu dS l (s++[x.key]):=by simp[gu,dS]
  rw[h,E6 l (s++[x.key])];simp
def inM(fr til:Nm)(M:List MT):List MT:=M.filter λm=>FZ fr til m.1.key
def inM_e(fr til:Nm)(M:List MT):wy fr til (M.map λm=>m.1)=(inM fr til M).map λm=>m.1:=by
 unfold wy inM;rw[List.filter_map];rfl
def inM_p(fr til:Nm)(M:List MT):kV (inM fr til M)=(kV M).filter (yg fr til):=by
 unfold kV inM;rw[List.filter_map];rfl
section
variable{o:Vw}{mm:Nat}
def Ij:∀(Ms:List MT) (q:QS) (v:Vw) (u:Nat) (out:List PR),Rd q v o u mm->(∀m∈Ms,Xn v m.1 m.2.1 m.2.2)->
  Rd (gV (Ms.map λm=>m.1) q out).1 v o u mm/\((gV (Ms.map λm=>m.1) q out).2=(out++kV Ms,0)\/((gV (Ms.map λm=>m.1) q out).2.2=11/\mm<=u))
 |[],q,v,u,out,R,_=>⟨R,.inl (by simp[gV])⟩
 |m::Ms,q,v,u,out,R,h=>by
  obtain⟨g1,g2⟩:=vX R (h m lw);rw[iA];unfold gV
  rcases g2 with g2|⟨g2,g3⟩
  .rw[g2,i8];obtain⟨a,b⟩:=Ij Ms (q.cC m.1).1 v u (out++[(m.1.key,m.2.1)]) g1 (λx hx=>h x (by simp[hx]));refine⟨a,b.imp (λe=>?_) id⟩;rw[e,Nc];simp
  .rw[U8 (by rw[g2];simp)];exact⟨g1,.inr ⟨g2,g3⟩⟩
def Tree.le(R:Rd q v o u mm)(T:Tree v H M):(aS v H 0).length<=512:=by
 have:=pages_le R (fL.1 T.M8).1 T.AK;simpa [cf]using this
def Ik(R:Rd q v o u mm)(T:Tree v H M)(hH:H<=15)(fr til:Nm)(n:Int):
  Rd (q.dL fr til n).1 v o u mm/\(((q.dL fr til n).2.2=11/\mm<=u)\/(q.dL fr til n).2=(((kV M).filter (yg fr til)).take n.toNat,0)):=by
 obtain⟨a,b⟩:=zF (km n) fr til R T.ok hH (T.le R) [];unfold QS.dL
 rcases b with⟨b1,b2⟩|⟨b1,b2⟩
 .rw[U8 (by rw[b1];simp)];exact⟨a,.inl ⟨b1,b2⟩⟩
 .rw[U9 (by rw[b1];simp),b2,Ih,<-T.en,inM_e,dD,<-mZ];obtain⟨c,d⟩:=Ij ((inM fr til M).take (n-(([]:List E).length:Nat)).toNat) _ v u [] a (λm hm=>T.va m ((iB.1 (iR hm)).1));refine⟨c,d.symm.imp id (λe=>?_)⟩;rw[e,dD,<-inM_p];unfold kV;rw[mZ,show(n-(([]:List E).length:Nat)).toNat=n.toNat by simp]
def Wm(R:Rd q v o u mm)(T:Tree v H M)(hH:H<=15)(fr til:Nm):
  Rd (q.gj fr til).1 v o u mm/\(((q.gj fr til).2.2=11/\mm<=u)\/(q.gj fr til).2=match ((kV M).filter (yg fr til)).getLast? with|none=>((⟨#[]⟩,⟨#[]⟩),9)|some x=>(x,0)):=by
 obtain⟨a,b⟩:=zF gi fr til R T.ok hH (T.le R) none;unfold QS.gj
 rcases b with⟨b1,b2⟩|⟨b1,b2⟩
 .rw[U8 (by rw[b1];simp)];exact⟨a,.inl ⟨b1,b2⟩⟩
 .rw[U9 (by rw[b1];simp),b2,Ii,<-T.en,inM_e,<-inM_p];unfold kV;rw[List.getLast?_map,List.getLast?_map]
  cases hl:(inM fr til M).getLast? with
  |none=>exact⟨a,.inr rfl⟩
  |some m=>
   have hm:m∈M:=(iB.1 (List.mem_of_getLast? hl)).1;dsimp only[Option.map];obtain⟨c,d⟩:=vX a (T.va m hm)
   rcases d with d|⟨d,d2⟩
   .rw[d,i8];exact⟨c,.inr rfl⟩
   .rw[U8 (by rw[d];simp)];exact⟨c,.inl ⟨d,d2⟩⟩
def Tree.sorted :∀(h:Nat) (p:Int),nL v h p->(iT v h p).Pairwise λc e=>iK c.key e.key
 |0,p,ho=>by rw[JU];exact q9 ho.1
 |h+1,p,ho=>by
  rw[JU];show(cK (bW v h (jO v p).2.1)).Pairwise _;have d:=ho.2.2.2;have key:∀(l:List E),(∀e∈l,nL v h e.bh)->(l.Pairwise λc e=> ∀x∈iT v h c.bh,iK x.key e.key)->(∀e∈l.tail,∀x∈iT v h e.bh,q8 e.key x.key)->(cK (bW v h l)).Pairwise λc e=>iK c.key e.key:=by
   intro l
   induction l with
   |nil=>intro _ _ _;exact List.Pairwise.nil
   |cons e l ih=>
    intro h1 h2 h3;rw[eT]at h2;rw[ia,eJ,eH];refine⟨Tree.sorted h e.bh (h1 e lw),ih (λx hx=>h1 x (by simp[hx])) h2.2 (λx hx=>h3 x (wE hx)),λx hx y hy=>?_⟩;obtain⟨z,hz,hy⟩:=eB.1 hy;exact iI (h2.1 z hz x hx) (h3 z hz y hy)
  exact key _ (λe he=>(d.c e he).1) d.lo d.hi
def Tree.keys(T:Tree v H M):(kV M).Pairwise λa b=>iK a.1 b.1:=by
 have h:=Tree.sorted H 0 T.ok;rw[<-T.en,Bn]at h;unfold kV;rw[Bn];exact h
structure ClrP(v v':Vw)(H:Nat)(M:List MT)(H':Nat)(M':List MT)(P:PR->Bool):Prop where
 t:Tree v' H' M'
 m:kV M'=(kV M).filter P
 JZ:∀wt,fj wt (aS v' H' 0)<=fj wt (aS v H 0)
 h:H'<=H
def Il:∀(ks:List Nm) (q:QS) (v:Vw) (u H:Nat) (M:List MT),Rd q v o u mm->Tree v H M->H<=15->ks.Nodup->(∀k∈ks,∃x∈kV M,x.1=k)->
  ((gv ks q).2=11/\mm<=u/\∃v',Rd (gv ks q).1 v' o u mm)\/
  ((gv ks q).2=0/\∃v' H' M',Rd (gv ks q).1 v' o u mm/\ClrP v v' H M H' M' λx=>ks.all λk=> !decide (x.1=k))
 |[],q,v,u,H,M,R,T,_,_,_=> .inr ⟨rfl,v,H,M,R,T,(yp.2 (λ_ _=>rfl)).symm,λ_=>ai _,ai _⟩
 |k::ks,q,v,u,H,M,R,T,hH,hn,hk=>by
  rw[iC]at hn;unfold gv
  rcases Ni R T hH k with⟨d1,d2,v',d3⟩|⟨d1,d2,A,B,d3⟩|⟨d1,v1,H1,M1,A,B,y,d2,d3⟩
  .rw[U8 (by rw[d1];simp)];exact .inl ⟨d1,d2,v',d3⟩
  .exfalso;obtain⟨x,hx,rfl⟩:=hk k lw;rw[d3.e,dD]at hx
   rcases aK.1 hx with hx|hx
   .exact kK (d3.a x hx)
   .exact kK (d3.b x hx)
  .rw[U9 (by rw[d1];simp)];have hA:∀x∈A,x.1≠k:=λx hx e=>kK (by have:=d3.d.a x hx;rwa [e]at this);have hB:∀x∈B,x.1≠k:=λx hx e=>kK (by have:=d3.d.b x hx;rwa [e]at this);have hf:kV M1=(kV M).filter λx=> !decide (x.1=k):=by
    rw[d3.m,d3.d.e,yo,yo];have e1:A.filter (λx=> !decide (x.1=k))=A:=yp.2 λx hx=>by rw[wn (hA x hx)];rfl
    have e2:B.filter (λx=> !decide (x.1=k))=B:=yp.2 λx hx=>by rw[wn (hB x hx)];rfl
    rw[e1,e2];simp
   rcases Il ks (q.fR k).1 v1 u H1 M1 d2 d3.t (by have:=d3.h;omega) hn.2 (λk' hk'=>by
    obtain⟨x,hx,e⟩:=hk k' (by simp[hk']);refine⟨x,?_,e⟩;rw[hf,iB];exact⟨hx,by rw[wn (λe2=>hn.1 (by rw[<-e2,e];exact hk'))];rfl⟩)with i|⟨i1,v',H',M',i2,CC⟩
   .exact .inl i
   .refine .inr ⟨i1,v',H',M',i2,CC.t,?_,λwt=>aD (CC.JZ wt) (d3.JZ wt),aD CC.h d3.h⟩;rw[CC.m,hf,IU]
    congr 1
    funext x
    rw[List.all_cons,Bool.and_comm]
def Rm(R:Rd q v o u mm)(T:Tree v H M)(hH:H<=15)(fr til:Nm):
  ((q.eR fr til).2.2=11/\mm<=u/\∃v',Rd (q.eR fr til).1 v' o u mm)\/
  ((q.eR fr til).2=(((((kV M).filter (yg fr til)).length:Nat):Int),0)/\∃v' H' M',Rd (q.eR fr til).1 v' o u mm/\ClrP v v' H M H' M' λx=> !yg fr til x):=by
 obtain⟨a,b⟩:=zF dS fr til R T.ok hH (T.le R) [];unfold QS.eR
 rcases b with⟨b1,b2⟩|⟨b1,b2⟩
 .rw[U8 (by rw[b1];simp)];exact .inl ⟨b1,b2,v,a⟩
 .rw[U9 (by rw[b1];simp),b2,E6,<-T.en,inM_e,dD,iQ];have xM:(inM fr til M).map ((λe:E=>e.key) ∘ λm=>m.1)=((kV M).filter (yg fr til)).map Prod.fst:=by
   rw[<-inM_p];unfold kV;rw[iQ];rfl
  rw[xM];have ni:((kV M).filter (yg fr til)).Pairwise λa b=>iK a.1 b.1:=T.keys.sublist IV;have Gx:(((kV M).filter (yg fr til)).map Prod.fst).Nodup:=by
   rw[Sz,Bn];exact ni.imp (λ{a b} h (e:a.1=b.1)=>kK (a:=b.1) (by rw[e]at h;exact h))
  rcases Il _ _ v u H M a T hH Gx (λk hk=>by
   obtain⟨x,hx,rfl⟩:=dq.1 hk;exact⟨x,(iB.1 hx).1,rfl⟩)with⟨i1,i2,i3⟩|⟨i1,v',H',M',i2,CC⟩
  .rw[U8 (by rw[i1];simp)];exact .inl ⟨i1,i2,i3⟩
  .rw[U9 (by rw[i1];simp)];refine .inr ⟨by rw[eZ],v',H',M',i2,CC.t,?_,CC.JZ,CC.h⟩;rw[CC.m];apply List.filter_congr;intro x hx;have hi:(yg fr til x=true)↔x.1∈((kV M).filter (yg fr til)).map Prod.fst:=by
    refine⟨λh=>dq.2 ⟨x,iB.2 ⟨hx,h⟩,rfl⟩,λhm=>?_⟩;obtain⟨y,hy,e⟩:=dq.1 hm;have:=(iB.1 hy).2;unfold yg at this ⊢;rw[<-e];exact this
   by_cases hb:yg fr til x=true
   .rw[hb];have hm:=hi.1 hb;show _=false;rw[<-Xt,rL];intro h;have:=h _ hm;rw[ww rfl]at this;exact eq this lw
   .have da:yg fr til x=false:=by simpa using hb
    rw[da];show _=true;rw[rL];intro k hk;rw[wn (λe=>hb (hi.2 (by rw[e];exact hk)))];rfl
end
end Sh
end Go.Proofs.YtmonobkginiajaaGreat
