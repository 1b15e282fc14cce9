/- packed. -/
import Derived.Test.YtmonobkginiajaaGreatAs15
set_option linter.all false
set_option maxRecDepth 100000
set_option maxHeartbeats 8000000
namespace Go.Proofs.YtmonobkginiajaaGreat
open Go.Proofs.Tryz
open Value renaming string→U2,int→U5,bool→U6,pointer→U7,tuple→U8
open Ending renaming returned→BY
open IntKind renaming i64→By
open Obj renaming cells→WF
open Go renaming World→YB,Value→YO,Calls→eq
open And renaming intro→io
namespace Sh
open Go.RowKit Pk Dk Pg
open Nd (E aS aZ et bI bg cG bR)
def InX(fr til:rd)(x:E):Prop:=ox fr x.key/\(til.size=0\/fw x.key til)/\x.key.size<=32/\x.val.size<=40
section
variable{σ:Type}{P:σ->Prop}{mes:σ->Nat}{step:E->σ->σ×Bool}{fr til:rd}
def WkP(P:σ->Prop)(mes:σ->Nat)(n:Nat)(R:Wk σ):Prop:=P R.s/\mes R.s<=57*R.seen/\n<=R.seen/\R.seen<=513/\(R.e=0->R.seen<=512)
theorem Jc(rec:QS->Nat->σ->Int->Wk σ)(leaf:Bool)(first:Nat)(hr:∀q n s p,n<=512->P s->mes s<=57*n->WkP P mes n (rec q n s p))(hs:∀x s,InX fr til x->P s->P (step x s).1)(h1:∀x s,mes (step x s).1<=mes s+1):
  ∀(l:List E) (i:Nat) (q:QS) (seen:Nat) (s:σ),seen<=512->(∀e∈l,e.key.size<=32/\e.val.size<=40)->P s->(leaf=true->mes s+l.length<=57*seen)->mes s<=57*seen->WkP P mes seen (gr rec step fr til leaf first i l q seen s)
 |[],_,_,_,_,hn,_,hP,_,hm=>⟨hP,hm,ai _,zZ hn,λ_=>hn⟩
 |x::l,i,q,seen,s,hn,hl,hP,hf,hm=>by
  have DO:∀e∈l,e.key.size<=32/\e.val.size<=40:=λe he=>hl e (bK _ he);unfold gr
  split
  .exact Jc rec leaf first hr hs h1 l _ q seen s hn DO hP (λh=>by have:=hf h;rw[fT]at this;omega) hm
  .rename_i Zh
   split
   .exact⟨hP,hm,ai _,by show seen<=513;omega,λ_=>hn⟩
   .rename_i tV
    split
    .rename_i rJ;subst rJ;have hx:InX fr til x:=by
      refine⟨?_,?_,hl x (by simp)⟩
      .unfold mX at Zh;rw[RG]at Zh
       by_cases h:fw x.key fr
       .rw[decide_eq_true h]at Zh;simp at Zh
       .exact kz h
      .unfold lI at tV;rw[RG,RH]at tV
       by_cases ht:til.size=0
       .exact .inl ht
       .by_cases h:fw x.key til
        .exact .inr h
        .rw[decide_eq_false ht,decide_eq_false h]at tV;simp at tV
     have hP2:=hs x s hx hP;have Bp:=h1 x s;have Ak:=hf rfl;rw[fT]at Ak
     split
     .exact Jc rec true first hr hs h1 l _ q seen _ hn DO hP2 (λ_=>by omega) (by omega)
     .exact⟨hP2,by show mes (step x s).1<=57*seen;omega,ai _,by show seen<=513;omega,λ_=>hn⟩
    .rename_i rJ;obtain⟨r1,r2,r3,r4,r5⟩:=hr q seen s x.aY hn hP hm
     split
     .rename_i hgo;obtain⟨t1,t2,t3,t4,t5⟩:=Jc rec leaf first hr hs h1 l (i+1) (rec q seen s x.aY).q (rec q seen s x.aY).seen (rec q seen s x.aY).s (r5 hgo.2) DO r1 (λh=>absurd h rJ) r2
      exact⟨t1,t2,aq r3 t3,t4,t5⟩
     .exact⟨r1,r2,r3,r4,r5⟩
theorem Se(hs:∀x s,InX fr til x->P s->P (step x s).1)(h1:∀x s,mes (step x s).1<=mes s+1):
  ∀(d:Nat) (q:QS) (seen:Nat) (s:σ) (p:Int),seen<=512->P s->mes s<=57*seen->WkP P mes seen (fJ step fr til d q seen s p)
 |0,q,seen,s,p,hn,hP,hm=>⟨hP,by show mes s<=57*(seen+1);omega,by show seen<=seen+1;omega,by show seen+1<=513;omega,λh=>absurd h (by show ¬(14:Int)=0;decide)⟩
 |d+1,q,seen,s,p,hn,hP,hm=>by
  unfold fJ
  split
  .exact⟨hP,by show mes s<=57*(seen+1);omega,by show seen<=seen+1;omega,by show seen+1<=513;omega,λh=>absurd h (by show ¬(14:Int)=0;decide)⟩
  .rename_i h512
   split
   .rename_i he;exact⟨hP,by show mes s<=57*(seen+1);omega,by show seen<=seen+1;omega,by show seen+1<=513;omega,λh=>absurd h he⟩
   .rename_i he;have gq:=pK (tJ (q:=q) (p:=p) (by simpa using he));have hlen:=lT q p;obtain⟨t1,t2,t3,t4,t5⟩:=Jc (fJ step fr til d) (q.bF p).2.1 (if(q.bF p).2.1=true then 0 else bI (q.bF p).2.2.1 fr) (Se hs h1 d) hs h1 (q.bF p).2.2.1 0 (q.bF p).1 (seen+1) s (by omega) gq hP (λ_=>by omega) (by omega);exact⟨t1,t2,by omega,t4,t5⟩
theorem ZW(q:QS)(hs:∀x s,InX fr til x->P s->P (step x s).1)(h1:∀x s,mes (step x s).1<=mes s+1)(s:σ)(hP:P s)(hm:mes s=0):P (q.dW step fr til s).s/\mes (q.dW step fr til s).s<=57*513:=by
 obtain⟨t1,t2,t3,t4,t5⟩:=Se (P:=P) (mes:=mes) (step:=step) (fr:=fr) (til:=til) hs h1 16 q 0 s 0 (by omega) hP (by omega);exact⟨t1,aq t2 (kR _ t4)⟩
end
theorem zE(a:UInt8)(x:pu):Nd.cb (a::x) []=1:=by simp[Nd.cb,Lib.compareBytes]
theorem Gu{s l:Nat}{a b k:rd}(h1:ox (aD s l++a) k)(h2:fw k (iI s l b)):2<=k.size:=by
 have hz:k.data.toList.length=k.size:=by simp
 have ht:∃y,(iI s l b).data.toList=UInt8.ofNat (65+s)::y:=by
  unfold iI
  split
  .exact⟨_,rfl⟩
  .exact⟨_,pV s l b⟩
 obtain⟨y,hy⟩:=ht;unfold ox kc at h1;unfold fw kc at h2;rw[pV]at h1;rw[hy]at h2
 cases hk:k.data.toList with
 |nil=>rw[hk,zE]at h1;omega
 |cons c r=>
  rw[hk]at h1 h2 hz;rw[Nd.mo]at h1 h2
  cases r with
  |cons d r=>rw[fT,fT]at hz;omega
  |nil=>
   exfalso
   by_cases x1:UInt8.ofNat (65+s)<c
   .have x2:¬c<UInt8.ofNat (65+s):=by rw[sP]at *;omega
    rw[if_neg x2,if_pos x1]at h2;omega
   .rw[if_neg x1]at h1
    by_cases x2:c<UInt8.ofNat (65+s)
    .rw[if_pos x2]at h1;omega
    .rw[if_neg x2,zE]at h1;omega
theorem D7:∀(m:Nat) (q:QS) (p:Int) (l:List Int) (b:pu),(q.kZ m p l b).2.2.1.length<=1024
 |0,_,_,_,_=>by show(0:Nat)<=1024;omega
 |m+1,q,p,l,b=>by
  unfold QS.kZ
  split
  .show(0:Nat)<=1024;omega
  .split
   .show(0:Nat)<=1024;omega
   .split
    .show(0:Nat)<=1024;omega
    .rename_i h
     split
     .show(b++(q.eX p).2.2.1).length<=1024;omega
     .exact D7 m _ _ _ _
theorem QF(q:QS)(x:E)(h:x.val.size<=40):(q.eH x).2.1.size<=1024:=by
 unfold QS.eH
 split
 .show x.val.size<=1024;omega
 .show(q.eS x.aY).2.2.1.toArray.size<=1024;rw[j9];exact D7 5 q x.aY [] []
theorem ZX:∀(l:List E) (q:QS) (out:List PR),(kK l q out).2.1.length<=out.length+l.length/\∀y∈(kK l q out).2.1,y∈out\/∃x∈l,y.1=x.key
 |[],q,out=>⟨by show out.length<=_;omega,λy hy=> .inl hy⟩
 |x::l,q,out=>by
  unfold kK
  split
  .exact⟨by show(0:Nat)<=_;omega,λy hy=>absurd hy (by show ¬y∈([]:List PR);simp)⟩
  .obtain⟨a,b⟩:=ZX l (q.eH x).1 (out++[(x.key,(q.eH x).2.1)]);refine⟨by rw[aT]at a;simp at a;rw[fT];omega,λy hy=>?_⟩
   rcases b y hy with h|⟨z,hz,e⟩
   .rcases ay.1 h with h|h
    .exact .inl h
    .exact .inr ⟨x,by simp,by rw[az.1 h]⟩
   .exact .inr ⟨z,by simp[hz],e⟩
theorem Gv(q:QS)(s l:Nat)(a b:rd)(n:Int):(∀x∈(q.fS (aD s l++a) (iI s l b) n).2.1,2<=x.1.size/\x.1.size<=1000000)/\(q.fS (aD s l++a) (iI s l b) n).2.1.length<=1000000:=by
 have hz:(iI s l b).size≠0:=by
  unfold iI
  split
  .show(2:Nat)≠0;decide
  .rw[iY];omega
 obtain⟨h1,h2⟩:=ZW (P:=λt:List E=> ∀x∈t,InX (aD s l++a) (iI s l b) x) (mes:=List.length) (step:=j6 n) q (λx t hx hP y hy=>by
   unfold j6 at hy;dsimp only at hy
   split at hy
   .exact(ay.1 hy).elim (hP y) (λh=>by rw[az.1 h];exact hx)
   .exact hP y hy) (λx t=>by
   unfold j6;dsimp only
   split
   .rw[aT];simp
   .omega) [] (λx hx=>absurd hx (by simp)) rfl
 unfold QS.fS
 split
 .exact⟨λx hx=>absurd hx (by show ¬x∈([]:List PR);simp),by show(0:Nat)<=_;omega⟩
 .obtain⟨v1,v2⟩:=ZX (q.dW (j6 n) (aD s l++a) (iI s l b) []).s (q.dW (j6 n) (aD s l++a) (iI s l b) []).q [];refine⟨λy hy=>?_,by simp at v1;omega⟩
  rcases v2 y hy with h|⟨x,hx,e⟩
  .simp at h
  .obtain⟨k1,k2,k3,k4⟩:=h1 x hx;rw[e];exact⟨Gu k1 (k2.resolve_left hz),by omega⟩
theorem Vf(q:QS)(s l:Nat)(a b:rd):(q.gF (aD s l++a) (iI s l b)).2.2=0->2<=(q.gF (aD s l++a) (iI s l b)).2.1.1.size/\(q.gF (aD s l++a) (iI s l b)).2.1.1.size<=1000000:=by
 have hz:(iI s l b).size≠0:=by
  unfold iI
  split
  .show(2:Nat)≠0;decide
  .rw[iY];omega
 obtain⟨h1,h2⟩:=ZW (P:=λt:Option E=> ∀x,t=some x->InX (aD s l++a) (iI s l b) x) (mes:=λ_=>0) (step:=ju) q (λx t hx hP y hy=>by
   have:x=y:=by injection hy
   rw[<-this];exact hx) (λx t=>by omega) none (λx hx=>by cases hx) rfl
 intro h0;unfold QS.gF at h0 ⊢
 split at h0
 .rename_i he;exact absurd h0 he
 .rename_i he;rw[if_neg he]
  cases hs:(q.dW ju (aD s l++a) (iI s l b) none).s with
  |none=>rw[hs]at h0;exact absurd h0 (by show ¬(9:Int)=0;decide)
  |some x=>
   rw[hs]at h0;dsimp only at h0 ⊢
   split at h0
   .rename_i hv;exact absurd h0 hv
   .rename_i hv;rw[if_neg hv];obtain⟨k1,k2,k3,k4⟩:=h1 x hs;exact⟨Gu k1 (k2.resolve_left hz),by show x.key.size<=_;omega⟩
theorem Gw(q:QS)(key:rd):(q.fm key).2.1.size<=1024:=by
 unfold QS.fm
 split
 .show(0:Nat)<=1024;omega
 .rename_i h0
  split
  .rename_i hh;refine QF _ _ ?_;obtain⟨pre,x,e1,_,_,e4,_⟩:=Df key 16 q 0 [] (by simpa [QS.eP]using h0);have hl:iV (q.eP key).2.1=x:=by
    unfold QS.eP iV;rw[e1];simp
   rw[hl];have hlight:=(e4 x (by simp)).light
   by_cases hx:bg x.l key<x.l.length
   .rw[iq,aH hx];exact(hlight.2 _ (jS hx)).2
   .rw[iq,gH (by omega)];show(Nd.E.zero).val.size<=40;decide
  .show(0:Nat)<=1024;omega
variable{s l s' l':Nat}{r:rd}{M:List PR}
theorem klt_tri(a b:rd):fw a b\/a=b\/fw b a:=by
 by_cases h:fw a b
 .exact .inl h
 .rcases pM (kz h)with h|h
  .exact .inr (.inr h)
  .exact .inr (.inl h.symm)
theorem ZY{a b:rd}(h:fw a b):¬fw b a:=λk=>gC (fc h k)
theorem sF(k:rd):∀M:List PR,M.Pairwise (λa b=>fw a.1 b.1)->qZ M k++(oZ M k++kL M k)=M
 |[],_=>rfl
 |x::M,hs=>by
  obtain⟨h1,h2⟩:=eC.1 hs;have ih:=sF k M h2;unfold qZ oZ kL at ih ⊢;rw[gG,gG,gG]
  rcases klt_tri x.1 k with h|h|h
  .rw[decide_eq_true h,decide_eq_false (lY h),decide_eq_false (ZY h),if_pos rfl,i8,i8,nL,ih]
  .rw[filter_none (l:=M) (λy hy=>decide_eq_false (λhx=>gC (fc hx (h▸h1 y hy)))),filter_none (l:=M) (λy hy=>decide_eq_false (λhx=>lY (h1 y hy) (h.trans hx.symm))),filter_all (l:=M) (λy hy=>decide_eq_true (h▸h1 y hy)),h,decide_eq_false (λe=>gC e),decide_eq_true rfl];simp
  .rw[filter_none (l:=M) (λy hy=>decide_eq_false (λhx=>gC (fc hx (fc h (h1 y hy))))),filter_none (l:=M) (λy hy=>decide_eq_false (λhx=>gC (hx▸fc h (h1 y hy)))),filter_all (l:=M) (λy hy=>decide_eq_true (fc h (h1 y hy))),decide_eq_false (ZY h),decide_eq_false (λe=>lY h e.symm),decide_eq_true h];simp
theorem iZ(s l:Nat)(A B:List PR):aE s l (A++B)=aE s l A++aE s l B:=by unfold aE;rw[ri,cX]
theorem Gx(hs:s<=7)(hl:l<=5){x:PR}(h:ZV x.1 s' l' r):aE s l [x]=if s'=s/\l'=l then [(r,x.2)]else []:=by
 obtain⟨k1,k2,k3,k4⟩:=h;have hp:k9 (aD s l) (aD s (l+1)) x=true↔s'=s/\l'=l:=by unfold k9;rw[k4];exact qN hs hl ⟨k1,k2⟩
 unfold aE;rw[gG,List.filter_nil]
 by_cases hx:s'=s/\l'=l
 .rw[if_pos hx,hp.2 hx,if_pos rfl];show [mW x]=_;have hc:mW x=(r,x.2):=by unfold mW;rw[k4,wV]
  rw[hc]
 .rw[if_neg hx,QP.2 (λe=>hx (hp.1 e))];rfl
theorem iE.filter(h:iE M)(f:PR->Bool):iE (M.filter f):=λx hx=>h x (eA.1 hx).1
theorem iE.app{A B:List PR}(h:iE A)(h2:iE B):iE (A++B):=λx hx=>(ay.1 hx).elim (h x) (h2 x)
theorem iE.set(h:iE M)(hs:s<=7)(hl:l<=5)(hr:r.size<=30)(v:rd):iE (pQ M (aD s l++r) v):=
 (h.filter _).app λx hx=>by
  rcases ar.1 hx with rfl|hx
  .exact⟨s,l,r,hs,hl,hr,rfl⟩
  .exact(h.filter _) x hx
theorem iE.del(h:iE M)(k:rd):iE (uk M k):=(h.filter _).app (h.filter _)
theorem MA(hs:s<=7)(hl:l<=5)(Jn:s'<=7)(DO:l'<=5)(hn:¬(s=s'/\l=l')):aE s' l' (oZ M (aD s l++r))=[]:=by
 unfold aE oZ;rw[oQ,filter_none (λx hx=>?_),oE];show(_ && _)=false;rw[Bool.and_eq_false_iff]
 by_cases hx:x.1=aD s l++r
 .left;rw[QP];intro he;unfold k9 at he;rw[hx]at he;exact hn ((qN Jn DO ⟨hs,hl⟩).1 he)
 .right;exact decide_eq_false hx
section
variable{M:List PR}{s l s' l':Nat}(hs:s<=7)(hl:l<=5)(Jn:s'<=7)(DO:l'<=5)
include hs hl Jn DO
theorem Vg(hM:M.Pairwise (λa b=>fw a.1 b.1))(hn:¬(s=s'/\l=l'))(r v:rd)(hr:r.size<=30):aE s' l' (pQ M (aD s l++r) v)=aE s' l' M:=by
 have h3:=congrArg (aE s' l') (sF (aD s l++r) M hM);rw[iZ,iZ,MA hs hl Jn DO hn,cQ]at h3;rw[<-h3];show aE s' l' (qZ M _++([_]++kL M _))=_;rw[iZ,iZ,Gx Jn DO (x:=(aD s l++r,v)) ⟨hs,hl,hr,rfl⟩,if_neg hn,cQ]
theorem Vh(hM:M.Pairwise (λa b=>fw a.1 b.1))(hn:¬(s=s'/\l=l'))(r:rd):aE s' l' (uk M (aD s l++r))=aE s' l' M:=by
 have h3:=congrArg (aE s' l') (sF (aD s l++r) M hM);rw[iZ,iZ,MA hs hl Jn DO hn,cQ]at h3;rw[<-h3];unfold uk;rw[iZ]
theorem MB(hM:iE M)(hn:¬(s=s'/\l=l'))(a b:rd):aE s' l' (M.filter λx=> !k9 (aD s l++a) (iI s l b) x)=aE s' l' M:=by
 have h:=jw s' l' Jn DO (λx=> !k9 (aD s l++a) (iI s l b) x) (λ_=>true) M hM (λx _ r hk=>by
  unfold k9;rw[hk.2.2.2,Bool.not_eq_true',QP];intro he;obtain⟨e1,e2,_⟩:=(sE hs hl ⟨hk.1,hk.2.1⟩).1 he;exact hn ⟨e1.symm,e2.symm⟩)
 rw[filter_all (λ_ _=>rfl)]at h;rw[<-h];unfold aE;rw[oQ]
 congr 2
 funext x
 rw[EJ]
end
section
variable{M:List PR}{s l:Nat}(hs:s<=7)(hl:l<=5)(hM:iE M)
include hs hl hM
theorem Sf(r:rd):aE s l (qZ M (aD s l++r))=qZ (aE s l M) r:=by
 have h:=jw s l hs hl (λx=>decide (fw x.1 (aD s l++r))) (λx=>decide (fw x.1 r)) M hM (λx _ r' hk=>by
  rw[hk.2.2.2];have:=DY (r:=r') (b:=r) hs (show l<=6 by omega) (io hs hl);simp only[sL,true_and,false_or]at this;simp only[this])
 unfold qZ;rw[<-h];unfold aE;rw[oQ]
 congr 2
 funext x
 rw[EJ]
theorem MD(r:rd):aE s l (kL M (aD s l++r))=kL (aE s l M) r:=by
 have h:=jw s l hs hl (λx=>decide (fw (aD s l++r) x.1)) (λx=>decide (fw r x.1)) M hM (λx _ r' hk=>by
  rw[hk.2.2.2];have:=DY (r:=r) (b:=r') hs (show l<=6 by omega) (io hs hl);simp only[sL,true_and,false_or]at this;simp only[this])
 unfold kL;rw[<-h];unfold aE;rw[oQ]
 congr 2
 funext x
 rw[EJ]
theorem Z0(r:rd):aE s l (oZ M (aD s l++r))=oZ (aE s l M) r:=by
 have h:=jw s l hs hl (λx=>decide (x.1=aD s l++r)) (λx=>decide (x.1=r)) M hM (λx _ r' hk=>by
  rw[hk.2.2.2];have:aD s l++r'=aD s l++r↔r'=r:=⟨λe=>by have:=congrArg (λb:rd=>b.extract 2 b.size) e;simpa only[wV]using this,λe=>by rw[e]⟩;simp only[this])
 unfold oZ;rw[<-h];unfold aE;rw[oQ]
 congr 2
 funext x
 rw[EJ]
theorem set_own(r v:rd)(hr:r.size<=30):aE s l (pQ M (aD s l++r) v)=pQ (aE s l M) r v:=by
 show aE s l (qZ M _++([_]++kL M _))=_;rw[iZ,iZ,Gx hs hl (x:=(aD s l++r,v)) ⟨hs,hl,hr,rfl⟩,if_pos ⟨rfl,rfl⟩,Sf hs hl hM,MD hs hl hM];rfl
theorem del_own(r:rd):aE s l (uk M (aD s l++r))=uk (aE s l M) r:=by
 unfold uk;rw[iZ,Sf hs hl hM,MD hs hl hM]
theorem yG(a b:rd):(M.filter (k9 (aD s l++a) (iI s l b))).map mW=(aE s l M).filter (k9 a b):=by
 have h:=jw s l hs hl (λx=>k9 (aD s l++a) (iI s l b) x) (λx=>k9 a b x) M hM (λx _ r' hk=>by
  unfold k9;rw[hk.2.2.2,AH,sE hs hl ⟨hs,hl⟩];simp)
 rw[<-h]
 congr 1
 apply List.filter_congr;intro x hx;obtain⟨s',l',r,k1,k2,k3,k4⟩:=hM x hx;rw[AH,iG];unfold k9;rw[k4,sE hs hl ⟨k1,k2⟩,qN hs hl ⟨k1,k2⟩]
 constructor
 .rintro⟨a,b,c⟩;exact⟨⟨a,b,c⟩,a,b⟩
 .rintro⟨h,_⟩;exact h
theorem Vj(a b:rd):aE s l (M.filter λx=> !k9 (aD s l++a) (iI s l b) x)=(aE s l M).filter λx=> !k9 a b x:=by
 have h:=jw s l hs hl (λx=> !k9 (aD s l++a) (iI s l b) x) (λx=> !k9 a b x) M hM (λx _ r' hk=>by
  unfold k9
  congr 1
  rw[hk.2.2.2,AH,sE hs hl ⟨hs,hl⟩];simp)
 rw[<-h];unfold aE;rw[oQ]
 congr 2
 funext x
 rw[EJ]
theorem sG(hS:M.Pairwise (λa b=>fw a.1 b.1)):(aE s l M).Pairwise (λa b=>fw a.1 b.1):=by
 unfold aE;rw[vB];refine(hS.filter _).imp_of_mem ?_;intro x y hx hy Vz;have key:∀z∈M.filter (k9 (aD s l) (aD s (l+1))),∃r,z.1=aD s l++r/\(mW z).1=r:=λz hz=>by
  obtain⟨jK,kl⟩:=eA.1 hz;obtain⟨s',l',r,k1,k2,k3,k4⟩:=hM z jK;unfold k9 at kl;rw[k4]at kl;obtain⟨rfl,rfl⟩:=(qN hs hl ⟨k1,k2⟩).1 kl;exact⟨r,k4,by unfold mW;rw[k4,wV]⟩
 obtain⟨r,e1,e2⟩:=key x hx;obtain⟨r',e3,e4⟩:=key y hy;rw[e1,e3]at Vz;rw[e2,e4];have:=(DY (r:=r) (b:=r') hs (show l<=6 by omega) (io hs hl)).1 Vz;simpa using this
end
def kB:rd:=⟨#[98]⟩
def k1:rd:=⟨#[49]⟩
def k2:rd:=⟨#[50]⟩
theorem pot0:eU (λ_=>1) (aL I0 0 0)<=0:=by
 have EK:iX I0 0=(true,[],0):=by unfold I0;rw[hJ lay0,if_pos rfl];rfl
 unfold aL;rw[EK];decide
section
variable{w W W':YB}{wb mb tb:Nat}{I:Ix}{F:List Nat}{q q':QS}{n K K':Nat}{bj:YO}
end
end Sh
namespace Sh
open Go.RowKit Pk Dk Pg
def SI(q:QS)(M:List PR)(k:Nat):Prop:= ∃v o u H Mt,Rd q v o u 300/\Tree v H Mt/\jy Mt=M/\H<=15/\eU Vc (aL v H 0)<=k*2588672/\34*u+eU (λ_=>1) (aL v H 0)<=34+283*k/\M.length<=k/\iE M/\∀x∈M,x.2.size<=1024
theorem SI.le{q:QS}{M:List PR}{k k':Nat}(h:SI q M k)(hk:k<=k'):SI q M k':=by
 obtain⟨v,o,u,H,Mt,R,T,e,hH,hp,hu,hl,hM,hv⟩:=h;exact⟨v,o,u,H,Mt,R,T,e,hH,aq hp (G9 _ hk),by omega,by omega,hM,hv⟩
theorem SI.start{q:QS}{o:Vw}(R:Rd q I0 o 1 300):SI q [] 0:=
 ⟨I0,o,1,0,[],R,Zw,rfl,by omega,by have:=T0_pot;omega,by have:=pot0;omega,ai _,λx hx=>(by simp at hx),λx hx=>(by simp at hx)⟩
section
variable{q:QS}{M:List PR}{k:Nat}(h:SI q M k)
include h
theorem SI.sorted:M.Pairwise (λa b=>fw a.1 b.1):=by
 obtain⟨v,o,u,H,Mt,R,T,rfl,_⟩:=h;exact T.keys
theorem SI.keys:iE M:=by
 obtain⟨v,o,u,H,Mt,R,T,e,hH,hp,hu,hl,hM,hv⟩:=h;exact hM
theorem SI.zR:∀x∈M,x.2.size<=1024:=by
 obtain⟨v,o,u,H,Mt,R,T,e,hH,hp,hu,hl,hM,hv⟩:=h;exact hv
theorem SI.len:M.length<=k:=by
 obtain⟨v,o,u,H,Mt,R,T,e,hH,hp,hu,hl,hM,hv⟩:=h;exact hl
theorem SI.set(hk:k<=30){s l:Nat}{r:rd}(hs:s<=7)(hl5:l<=5)(hr:r.size<=30)(value:rd)(hv:value.size<=1024):
  (q.gE (aD s l++r) value).2=0/\SI (q.gE (aD s l++r) value).1 (pQ M (aD s l++r) value) (k+1):=by
 obtain⟨v,o,u,H,Mt,R,T,rfl,hH,hp,hu,hl,hM,hvv⟩:=h;have hks:(aD s l++r).size<=32:=by rw[iY];omega
 have hu1:u<=260:=by omega
 rcases yE R T hH (aD s l++r) value hks hv with⟨a,v',u',b,c1,c2⟩|⟨a,v',H',M',new,A,C,B,hh,c,b,S,hm⟩
 .omega
 .have hx:(if value.size<=40 then value.size else 0)<=40:=by split<;>omega
  have p1:=S.FZ Vc 0 I3;rw[RQ,qh,show(if H'=H then 0 else 0)=0 by split<;>rfl]at p1;have p2:=S.FZ (λ_=>1) 34 wt1;have hy:(if H'=H then 0 else 34)<=34:=by split<;>omega
  refine⟨a,v',o,u+new,H',M',b,S.t,hm,?_,by omega,?_,?_,hM.set hs hl5 hr value,?_⟩
  .rcases S.h with e|⟨e,f⟩
   .omega
   .by_cases h15:H=15
    .have p3:=f Vc 0 I3;rw[h15,ZE,RQ]at p3;rw[h15]at hp;omega
    .omega
  .have h1:=S.n;have h2:=S.c.1;omega
  .have:=DR (jy Mt) (aD s l++r);unfold pQ;simp only[aT,fT];omega
  .intro x hx;unfold pQ at hx
   rcases ay.1 hx with hx|hx
   .exact hvv x (eA.1 hx).1
   .rcases ar.1 hx with rfl|hx
    .exact hv
    .exact hvv x (eA.1 hx).1
theorem SI.get(hk:k<=30)(key:rd):SI (q.fm key).1 M k/\(q.fm key).2=LR (oZ M key):=by
 obtain⟨v,o,u,H,Mt,R,T,rfl,hH,hp,hu,hl⟩:=h;obtain⟨a,b⟩:=qK R T hH key;exact⟨⟨v,o,u,H,Mt,a,T,rfl,hH,hp,hu,hl⟩,b.resolve_left (λe=>by omega)⟩
theorem SI.scan(hk:k<=30)(fr til:rd)(n:Int):SI (q.fS fr til n).1 M k/\(q.fS fr til n).2=((M.filter (k9 fr til)).take n.toNat,0):=by
 obtain⟨v,o,u,H,Mt,R,T,rfl,hH,hp,hu,hl⟩:=h;obtain⟨a,b⟩:=Gh R T hH fr til n;exact⟨⟨v,o,u,H,Mt,a,T,rfl,hH,hp,hu,hl⟩,b.resolve_left (λe=>by omega)⟩
theorem SI.last(hk:k<=30)(fr til:rd):SI (q.gF fr til).1 M k/\(q.gF fr til).2=match (M.filter (k9 fr til)).getLast? with|none=>((⟨#[]⟩,⟨#[]⟩),9)|some x=>(x,0):=by
 obtain⟨v,o,u,H,Mt,R,T,rfl,hH,hp,hu,hl⟩:=h;obtain⟨a,b⟩:=UU R T hH fr til;exact⟨⟨v,o,u,H,Mt,a,T,rfl,hH,hp,hu,hl⟩,b.resolve_left (λe=>by omega)⟩
theorem SI.del(hk:k<=30)(key:rd):
  ((q.jV key).2=9/\oZ M key=[]/\SI (q.jV key).1 M k)\/((q.jV key).2=0/\oZ M key≠[]/\SI (q.jV key).1 (uk M key) k):=by
 obtain⟨v,o,u,H,Mt,R,T,rfl,hH,hp,hu,hl,hM,hv⟩:=h
 rcases UW R T hH key with⟨_,a,_⟩|⟨a,b,c⟩|⟨a,c,v',H',M',b,t,m,p,hh⟩
 .omega
 .exact .inl ⟨a,c,v,o,u,H,Mt,b,T,rfl,hH,hp,hu,hl,hM,hv⟩
 .refine .inr ⟨a,c,v',o,u,H',M',b,t,m,by omega,aq (p Vc) hp,?_,?_,hM.del key,λx hx=>?_⟩
  .have:=p (λ_=>1);omega
  .have:=DR (jy Mt) key;unfold uk;rw[aT];omega
  .unfold uk at hx;exact(ay.1 hx).elim (λh=>hv x (eA.1 h).1) (λh=>hv x (eA.1 h).1)
theorem SI.clear(hk:k<=30)(fr til:rd):
  (q.iD fr til).2=((((M.filter (k9 fr til)).length:Nat):Int),0)/\SI (q.iD fr til).1 (M.filter λx=> !k9 fr til x) k:=by
 obtain⟨v,o,u,H,Mt,R,T,rfl,hH,hp,hu,hl,hM,hv⟩:=h
 rcases Qu R T hH fr til with⟨_,a,_⟩|⟨a,v',H',M',b,P⟩
 .omega
 .refine⟨a,v',o,u,H',M',b,P.t,P.m,aq P.h hH,aq (P.FZ Vc) hp,?_,aq (oC ..) hl,hM.filter _,λx hx=>hv x (eA.1 hx).1⟩;have:=P.FZ (λ_=>1);omega
theorem SI.rM(hk:k<=30)(key:rd):(q.fm key).2.1.size<=1024:=by
 obtain⟨a,b⟩:=h.get hk key;rw[b]
 cases hC:oZ M key with
 |nil=>show(⟨#[]⟩:rd).size<=_;decide
 |cons x C=>exact h.zR x (eA.1 (show x∈oZ M key by rw[hC];simp)).1
end
def EG(s l:Nat)(M M':List PR):Prop:= ∀s' l',s'<=7->l'<=5->¬(s=s'/\l=l')->aE s' l' M'=aE s' l' M
theorem EG.refl(s l:Nat)(M:List PR):EG s l M M:=λ_ _ _ _ _=>rfl
theorem ly(s l:Nat)(M:List PR):(aE s l M).length<=M.length:=by unfold aE;rw[bM];exact oC ..
theorem Gy{s l:Nat}{M:List PR}{c:Nat}(h:∀x∈M,x.2.size<=c):∀x∈aE s l M,x.2.size<=c:=λx hx=>by
 unfold aE at hx;obtain⟨y,hy,rfl⟩:=cr.1 hx;exact h y (eA.1 hy).1
section
variable{q:QS}{M:List PR}{k s l:Nat}(h:SI q M k)(hk:k<=30)(hs:s<=7)(hl:l<=5)
include h hk hs hl
theorem SI.setP(r value:rd)(hr:r.size<=30):
  (q.gE (aD s l++r) value).2=(if 32<r.size\/1024<value.size then 4 else 0)/\∃M',SI (q.gE (aD s l++r) value).1 M' (k+1)/\aE s l M'=qT (aE s l M) r value/\EG s l M M':=by
 unfold qT
 by_cases hb:1024<value.size
 .rw[if_pos (.inr hb),if_pos (.inr hb)];have e:q.gE (aD s l++r) value=(q,4):=by unfold QS.gE;rw[if_pos (.inr hb)]
  rw[e];exact⟨rfl,M,h.le (by omega),rfl,EG.refl _ _ _⟩
 .have hn:¬(32<r.size\/1024<value.size):=by omega
  rw[if_neg hn,if_neg hn];obtain⟨a,b,_⟩:=tQ r (aE s l M) (sG hs hl h.keys h.sorted);rw[a,b];obtain⟨x,y⟩:=h.set hk hs hl hr value (by omega);exact⟨x,_,y,set_own hs hl h.keys r value hr,λs' l' Jn DO hn=>Vg hs hl Jn DO h.sorted hn r value hr⟩
theorem SI.delP(r:rd):
  (q.jV (aD s l++r)).2=(if um (aE s l M) r=true then 0 else 9)/\∃M',SI (q.jV (aD s l++r)).1 M' k/\aE s l M'=uo (aE s l M) r/\EG s l M M':=by
 obtain⟨a,b,c,_⟩:=tQ r (aE s l M) (sG hs hl h.keys h.sorted);unfold uo;have he:=Z0 hs hl h.keys r;have hiff:oZ M (aD s l++r)=[]↔oZ (aE s l M) r=[]:=by
  constructor
  .intro h0;rw[<-he,h0];rfl
  .intro h0;rw[h0]at he
   cases hC:oZ M (aD s l++r)with
   |nil=>rfl
   |cons x C=>
    exfalso;have hx:x∈oZ M (aD s l++r):=by rw[hC];simp
    have hk:x.1=aD s l++r:=of_decide_eq_true (eA.1 hx).2;have:mW x∈aE s l (oZ M (aD s l++r)):=j8 (eA.2 ⟨hx,by unfold k9;rw[hk];exact(qN hs hl ⟨hs,hl⟩).2 ⟨rfl,rfl⟩⟩);rw[he]at this;simp at this
 rcases h.del hk (aD s l++r)with⟨x,y,z⟩|⟨x,y,z⟩
 .have hb:¬um (aE s l M) r=true:=λhb=>c.1 hb (hiff.1 y);rw[if_neg hb,if_neg hb];exact⟨x,M,z,rfl,EG.refl _ _ _⟩
 .have hb:um (aE s l M) r=true:=c.2 (λe=>y (hiff.2 e));rw[if_pos hb]at b;rw[if_pos hb,if_pos hb,a,b];exact⟨x,_,z,del_own hs hl h.keys r,λs' l' Jn DO hn=>Vh hs hl Jn DO h.sorted hn r⟩
theorem SI.clearP(a b:rd):
  (q.iD (aD s l++a) (iI s l b)).2=(((aE s l M).length:Int)-(lZ a b (aE s l M)).length,0)/\∃M',SI (q.iD (aD s l++a) (iI s l b)).1 M' k/\aE s l M'=lZ a b (aE s l M)/\EG s l M M':=by
 rw[Vd,out_eq];obtain⟨x,y⟩:=h.clear hk (aD s l++a) (iI s l b);refine⟨?_,_,y,Vj hs hl h.keys a b,λs' l' Jn DO hn=>MB hs hl Jn DO h.keys hn a b⟩;rw[x,<-yG hs hl h.keys,bM]
theorem SI.getP(r:rd):SI (q.fm (aD s l++r)).1 M k/\(q.fm (aD s l++r)).2=cV (aE s l M) r:=by
 obtain⟨a,b,c,d⟩:=tQ r (aE s l M) (sG hs hl h.keys h.sorted);obtain⟨x,y⟩:=h.get hk (aD s l++r);refine⟨x,?_⟩;rw[y,d,<-Z0 hs hl h.keys r]
 cases hC:oZ M (aD s l++r)with
 |nil=>rfl
 |cons z C=>
  have hx:z∈oZ M (aD s l++r):=by rw[hC];simp
  have hk:z.1=aD s l++r:=of_decide_eq_true (eA.1 hx).2;have hp:k9 (aD s l) (aD s (l+1)) z=true:=by unfold k9;rw[hk];exact(qN hs hl ⟨hs,hl⟩).2 ⟨rfl,rfl⟩
  unfold aE;rw[gG,if_pos hp,fA];rfl
theorem SI.fE(a b:rd)(n:Int):SI (q.fS (aD s l++a) (iI s l b) n).1 M k/\(q.fS (aD s l++a) (iI s l b) n).2.1.map mW=Sh.fE a b n (aE s l M)/\(q.fS (aD s l++a) (iI s l b) n).2.2=0/\(∀x∈(q.fS (aD s l++a) (iI s l b) n).2.1,2<=x.1.size/\x.1.size<=1000000)/\(q.fS (aD s l++a) (iI s l b) n).2.1.length<=30:=by
 obtain⟨x,y⟩:=h.scan hk (aD s l++a) (iI s l b) n;refine⟨x,?_⟩;rw[y];refine⟨?_,rfl,λz hz=>?_,?_⟩
 .show((M.filter (k9 (aD s l++a) (iI s l b))).take n.toNat).map mW=_;rw[RT,l6,yG hs hl h.keys]
 .obtain⟨s',l',r,k1,k2,k3,k4⟩:=h.keys z (eA.1 (gv hz)).1;rw[k4,iY];omega
 .have:=h.len;have h2:=oC (k9 (aD s l++a) (iI s l b)) M;show((M.filter (k9 (aD s l++a) (iI s l b))).take n.toNat).length<=30;rw[bC];omega
theorem SI.lastP(a b:rd):SI (q.gF (aD s l++a) (iI s l b)).1 M k/\(RY (q.gF (aD s l++a) (iI s l b)).2,(q.gF (aD s l++a) (iI s l b)).2.2)=(match (Sh.fE a b 1099511627776 (aE s l M)).getLast? with|none=>((⟨#[]⟩,⟨#[]⟩),9)|some x=>(x,0))/\((q.gF (aD s l++a) (iI s l b)).2.2=0->2<=(q.gF (aD s l++a) (iI s l b)).2.1.1.size/\(q.gF (aD s l++a) (iI s l b)).2.1.1.size<=1000000):=by
 obtain⟨x,y⟩:=h.last hk (aD s l++a) (iI s l b);have hlen:=h.len;have hp:=ly s l M;refine⟨x,?_⟩;rw[ZF a b _ (by omega) (by omega),<-yG hs hl h.keys,Nl,y]
 cases hg:(M.filter (k9 (aD s l++a) (iI s l b))).getLast? with
 |none=>exact⟨rfl,λe=>absurd e (by decide)⟩
 |some z=>
  refine⟨rfl,λ_=>?_⟩;obtain⟨s',l',r,k1,k2,k3,k4⟩:=h.keys z (eA.1 (List.mem_of_getLast? hg)).1;show 2<=z.1.size/\z.1.size<=1000000;rw[k4,iY];omega
end
theorem yH(g:rd×Int)(hg:g.2=0\/g.2=9):I5 g=j7 g:=by
 obtain⟨b,e⟩:=g;unfold I5 j7 zQ;dsimp only at hg ⊢
 rcases hg with rfl|rfl
 .by_cases h8:b.size=8
  .rw[if_pos (show is8 (b,0)from λ_=>h8),if_neg (by decide),i8,i8,if_neg (by simpa using h8)]
  .rw[if_neg (show ¬is8 (b,0)from λhx=>h8 (hx rfl)),i8,if_pos h8]
 .rw[if_pos (show is8 (b,9)from λhx=>absurd (show(9:Int)=0 from hx) (by decide)),if_pos rfl,i9]
def ME(l:List PR)(r:rd)(m:Int):Int×Int:=if(j7 (cV l r)).2≠0 then(0,(j7 (cV l r)).2)else if ¬(lE m (-1099511627776)/\lE (j7 (cV l r)).1 0/\lE ((j7 (cV l r)).1+m) 0)then(0,3)else((j7 (cV l r)).1+m,0)
def QG(l:List PR)(r:rd)(m:Int):List PR:=if(ME l r m).2≠0 then l else qT l r (su ((j7 (cV l r)).1+m))
section
variable{q:QS}{M:List PR}{k:Nat}(h:SI q M k)(hk:k<=30)
include h hk
theorem SI.D8(r:rd):SI (q.lj r).1 M k/\(q.lj r).2=j7 (cV (aE 7 0 M) r)/\(q.fm (eZ r)).2.1.size<=1000000:=by
 obtain⟨x,y⟩:=h.getP hk (show 7<=7 by omega) (show 0<=5 by omega) r;have hz:=h.rM hk (eZ r);refine⟨x,?_,by omega⟩;show I5 (q.fm (aD 7 0++r)).2=_;rw[y];exact yH _ (tT (aE 7 0 M) r)
theorem SI.addP(r:rd)(hr:r.size<=30)(m:Int):(q.I6 r m).2=ME (aE 7 0 M) r m/\∃M',SI (q.I6 r m).1 M' (k+1)/\aE 7 0 M'=QG (aE 7 0 M) r m/\EG 7 0 M M':=by
 obtain⟨x,y,_⟩:=h.D8 hk r;have hg:(q.fm (eZ r)).2=cV (aE 7 0 M) r:=(h.getP hk (show 7<=7 by omega) (show 0<=5 by omega) r).2;have he:=tT (aE 7 0 M) r;have hx:SI (q.fm (eZ r)).1 M k:=x;unfold QS.I6;rw[hg]
 by_cases h8:is8 (cV (aE 7 0 M) r)
 .rw[if_pos h8];have hc:zQ (cV (aE 7 0 M) r)=j7 (cV (aE 7 0 M) r):=by
   have:=yH _ he;unfold I5 at this
   rwa [if_pos h8]at this
  have hF:q.dg r=((q.fm (eZ r)).1,j7 (cV (aE 7 0 M) r)):=by unfold QS.dg;rw[hg,hc]
  unfold QS.q8 QG ME;rw[hF];dsimp only
  by_cases h1:(j7 (cV (aE 7 0 M) r)).2≠0
  .rw[if_pos h1,if_pos h1,if_pos h1];exact⟨rfl,M,hx.le (by omega),rfl,EG.refl _ _ _⟩
  .rw[if_neg h1,if_neg h1]
   by_cases h2:¬(lE m (-1099511627776)/\lE (j7 (cV (aE 7 0 M) r)).1 0/\lE ((j7 (cV (aE 7 0 M) r)).1+m) 0)
   .rw[if_pos h2,if_pos h2];exact⟨rfl,M,hx.le (by omega),rfl,EG.refl _ _ _⟩
   .rw[if_neg h2,if_neg h2];have hv:=kM ((j7 (cV (aE 7 0 M) r)).1+m);obtain⟨a,M',b,c,d⟩:=hx.setP hk (show 7<=7 by omega) (show 0<=5 by omega) r (su ((j7 (cV (aE 7 0 M) r)).1+m)) hr;rw[gc]at a;have a':((q.fm (eZ r)).1.gE (eZ r) ⟨(df ((j7 (cV (aE 7 0 M) r)).1+m)).toArray⟩).2=0:=a;rw[if_neg (by rw[a'];simp),i8];exact⟨rfl,M',b,c,d⟩
 .rw[if_neg h8];have hc:j7 (cV (aE 7 0 M) r)=(0,14):=by
   rw[<-yH _ he];unfold I5;rw[if_neg h8]
  unfold QG ME;rw[hc];exact⟨rfl,M,hx.le (by omega),rfl,EG.refl _ _ _⟩
end
variable{F:List Nat}{q q':QS}{M':List PR}
structure Rl(M:List PR)(L:List De):Prop where
 p:∀e∈L,∃s l:Nat,e.1.1=(s:Nat)/\e.1.2.1=(l:Nat)/\s<=7/\l<=5/\e.2=aE s l M
 n:∀s l:Nat,s<=7->l<=5->(∀e∈L,¬(e.1.1=(s:Nat)/\e.1.2.1=(l:Nat)))->aE s l M=[]
theorem Rl.start:Rl [] []:=⟨λe he=>(by simp at he),λ_ _ _ _ _=>rfl⟩
section
variable{w:YB}{z xb mb:Nat}{L L':List De}{M M' pl:List PR}{s l:Nat}
theorem Rl.of(R:Rl M L)(D:DX w z xb L')(hs:s<=7)(hl:l<=5)(hm:(((s:Int),(l:Int),mb),pl)∈L')(hL:L'=L\/(L'=L++[(((s:Int),(l:Int),mb),[])]/\pl=[])):Rl M L'/\pl=aE s l M:=by
 rcases hL with rfl|⟨rfl,rfl⟩
 .refine⟨R,?_⟩;obtain⟨s',l',e1,e2,_,_,e3⟩:=R.p _ hm;have h1:s=s':=Int.ofNat_inj.1 e1;have h2:l=l':=Int.ofNat_inj.1 e2;rw[h1,h2];exact e3
 .have tY:∀e∈L,¬(e.1.1=(s:Nat)/\e.1.2.1=(l:Nat)):=λe he ⟨h1,h2⟩=>by
   have nj:=D.ku e (cg _ he) _ hm h1 h2;have nd:=D.nd;rw[cX,gU]at nd;exact nd.2.2 e.1.2.2 (j8 he) mb (by simp) (by rw[nj])
  have hp:=R.n s l hs hl tY;refine⟨⟨λe he=>?_,λs' l' h1 h2 h3=>R.n s' l' h1 h2 λe he=>h3 e (cg _ he)⟩,hp.symm⟩
  rcases ay.1 he with he|he
  .exact R.p e he
  .rw[az.1 he];exact⟨s,l,rfl,rfl,hs,hl,hp.symm⟩
theorem Rl.upd(R:Rl M L)(D:DX w z xb L)(hs:s<=7)(hl:l<=5)(hm:(((s:Int),(l:Int),mb),pl)∈L)(hO:EG s l M M'){p':List PR}(hp:aE s l M'=p'):Rl M' (oA L mb p'):=by
 subst hp;have hmb:∀e∈L,e.1.2.2=mb->e=(((s:Int),(l:Int),mb),pl):=λe he h=>by
  have nd:=D.nd;obtain⟨i,hi,ei⟩:=zU.1 he;obtain⟨j,hj,ej⟩:=zU.1 hm;have:=(GV.1 nd);have hij:i=j:=by
   by_cases ef:i<j
   .have:=vA.1 nd i j (by simpa using hi) (by simpa using hj) ef;rw[uB,uB,ei,ej]at this;exact absurd h this
   .by_cases hgt:j<i
    .have:=vA.1 nd j i (by simpa using hj) (by simpa using hi) hgt;rw[uB,uB,ei,ej]at this;exact absurd h.symm this
    .omega
  subst hij;rw[<-ei,<-ej]
 refine⟨λe he=>?_,λs' l' h1 h2 h3=>?_⟩
 .unfold oA at he;obtain⟨e0,h0,rfl⟩:=cr.1 he
  by_cases hx:e0.1.2.2=mb
  .rw[if_pos hx,hmb e0 h0 hx];exact⟨s,l,rfl,rfl,hs,hl,rfl⟩
  .rw[if_neg hx];obtain⟨s',l',e1,e2,k1,k2,e3⟩:=R.p e0 h0;refine⟨s',l',e1,e2,k1,k2,?_⟩;rw[e3];refine(hO s' l' k1 k2 λhh=>hx ?_).symm;rw[D.ku e0 h0 _ hm (by rw[e1,<-hh.1]) (by rw[e2,<-hh.2])]
 .have fF:¬(s=s'/\l=l'):=λhh=>by
   refine h3 (((s:Int),(l:Int),mb),aE s l M') ?_ ⟨by rw[<-hh.1],by rw[<-hh.2]⟩;unfold oA;exact cr.2 ⟨(((s:Int),(l:Int),mb),pl),hm,by simp⟩
  rw[hO s' l' h1 h2 fF];refine R.n s' l' h1 h2 λe he hh=>?_;refine h3 (if e.1.2.2=mb then(e.1,aE s l M')else e) (j8 he) ?_;have k0:(if e.1.2.2=mb then(e.1,aE s l M')else e).1=e.1:=by split<;>rfl
  rw[k0];exact hh
end
def SY(w W:YB)(sb tb:Nat)(I:Ix)(M:List PR)(k K:Nat):Prop:= ∃F q,zC w W sb tb I F q 1202 K/\SI q M k
section
variable{w W W':YB}{sb tb xb:Nat}{I:Ix}{M:List PR}{L:List De}{k k' K K':Nat}
theorem SY.below(h:SY w W sb tb I M k K)(hb:i7 W W'):SY w W' sb tb I M k K:=by
 obtain⟨F,q,A,S⟩:=h;exact⟨F,q,A.below hb,S⟩
theorem SY.drew(h:SY w W sb tb I M k K):SY w W.drew sb tb I M k K:=h.below (Below.refl _ _).drew
theorem SY.le(h:SY w W sb tb I M k K)(hk:k<=k')(hK:K<=K'):SY w W sb tb I M k' K':=by
 obtain⟨F,q,A,S⟩:=h;exact⟨F,q,A.le hK,S.le hk⟩
theorem SY.bel(h:SY w W sb tb I M k K):i7 w W:=by
 obtain⟨F,q,A,S⟩:=h;exact A.o
theorem SY.doc(h:SY w W sb tb I M k K){b:Nat}{t:TypeId}{cs:Array YO}(o:ag [b] W W')(hb:w.heap.size<=b)(B:aF W b t cs)(hs:t≠182)(ht:t≠130)(ha:t≠143)(hf:t≠167)(h1:t≠146)(h2:t≠218)(h3:t≠3)(h4:t≠149)(h5:t≠152)(h6:t≠4)(h7:t≠231):SY w W' sb tb I M k K:=by
 obtain⟨F,q,A,S⟩:=h;refine⟨F,q,⟨A.b.only o (λhm=>B.jJ A.b hs (az.1 hm).symm),A.t.only o (λg hg hm=>?_),A.o.trans (o.aK A.o.size (λg hg=>by rw[az.1 hg];exact hb)),A.f⟩,S⟩;have hm:=az.1 hm;subst hm
 rcases ar.1 hg with hg|hg
 .exact B.jJ A.t.1 ht hg
 .exact A.t.2.fI B ha hf h1 h2 h3 h4 h5 h6 h7 hg
theorem SY.pt(A:zC w W sb tb I F q 1202 K)(D:DX W w.heap.size xb L)(p:PT W W' I F q' 1202 K')(S:SI q' M' k'):SY w W' sb tb I M' k' K'/\DX W' w.heap.size xb L:=by
 obtain⟨F',A'⟩:=A.pt p;obtain⟨F2,P,o,f⟩:=p;exact⟨⟨F',q',A',S⟩,D.pq A.t.2 o⟩
theorem SY.pq(A:zC w W sb tb I F q 1202 K)(D:DX W w.heap.size xb L)(P:PQ W' I F q' 1202 K')(o:ag F W W')(S:SI q' M' k'):SY w W' sb tb I M' k' K'/\DX W' w.heap.size xb L:=
 ⟨⟨F,q',A.pq P o,S⟩,D.pq A.t.2 o⟩
end
variable{W W':YB}{N:List PR}
abbrev eI(kd sp lp n:Int)(key til val:rd):Array YO:= #[U5 By kd,U5 By sp,U5 By lp,U5 By n,U2 key,U2 til,U2 val]
theorem MG(kd sp lp nn:Int)(key til val:rd)(w:YB)(b:Bool)(hb:b=decide (key.size<100/\til.size<100/\val.size<1500)):eq prog 39 #[.agg #[kd,sp,lp,nn,U2 key,U2 til,U2 val]] w λe w'=>e=BY (U6 b)/\i7 w w':=by
 have B0:=xh<|aF.new w 82 (eI kd sp lp nn key til val);have O0:=xh<|i6 w (WF (eI kd sp lp nn key til val) 82);have y2:=B0.ap 4;have y3:=B0.ap 5;have y4:=B0.ap 6;unfold eI at *
 by_cases h1:key.size<100
 .have ZA:(key.size:Int)<100:=by omega
  by_cases h2:til.size<100
  .have WS:(til.size:Int)<100:=by omega
   by_cases h3:val.size<1500
   .have h3I:(val.size:Int)<1500:=by omega
    rw[decide_eq_true ⟨h1,h2,h3⟩]at hb;subst hb;clear h1 h2 h3;go_in;go_wp2;go_ret;exact aI O0.o
   .have h3I:¬(val.size:Int)<1500:=by omega
    rw[decide_eq_false (λh=>h3 h.2.2)]at hb;subst hb;clear h1 h2 h3;go_in;go_wp2;go_ret;exact aI O0.o
  .have WS:¬(til.size:Int)<100:=by omega
   rw[decide_eq_false (λh=>h2 h.2.1)]at hb;subst hb;clear h1 h2;go_in;go_wp2;go_ret;exact aI O0.o
 .have ZA:¬(key.size:Int)<100:=by omega
  rw[decide_eq_false (λh=>h1 h.1)]at hb;subst hb;clear h1;go_in;go_wp2;go_ret;exact aI O0.o
theorem Rl.same{M M':List PR}{L:List De}{s l:Nat}(R:Rl M L)(hp:aE s l M'=aE s l M)(hO:EG s l M M'):Rl M' L:=by
 have key:∀s' l',s'<=7->l'<=5->aE s' l' M'=aE s' l' M:=λs' l' h1 h2=>by
  by_cases hh:s=s'/\l=l'
  .obtain⟨rfl,rfl⟩:=hh;exact hp
  .exact hO s' l' h1 h2 hh
 refine⟨λe he=>?_,λs' l' h1 h2 h3=>?_⟩
 .obtain⟨s',l',e1,e2,k1,k2,e3⟩:=R.p e he;exact⟨s',l',e1,e2,k1,k2,by rw[key s' l' k1 k2];exact e3⟩
 .rw[key s' l' h1 h2];exact R.n s' l' h1 h2 h3
def jI(W W':YB):Prop:= ∀b t cs,aF W b t cs->t=82\/t=42->aF W' b t cs
theorem jI.below(hb:i7 W W'):jI W W':=λ_ _ _ B _=>B.below hb B.lt
theorem jI.trans{W'':YB}(h:jI W W')(h2:jI W' W''):jI W W'':=λb t cs B ht=>h2 b t cs (h b t cs B ht) ht
theorem jI.one{b:Nat}{t:TypeId}{cs:Array YO}(o:ag [b] W W')(B:aF W b t cs)(h1:82≠t)(h2:42≠t):jI W W':=λb' t' cs' B' ht=>B'.only o (λhm=>by
 have hm:=az.1 hm
 rcases ht with rfl|rfl
 .exact B'.jJ B h1 hm
 .exact B'.jJ B h2 hm)
theorem jI.pq{I:Ix}{F:List Nat}{q:QS}{n K:Nat}(o:ag F W W')(P:PQ W I F q n K):jI W W':=λb' t' cs' B' ht=>B'.only o (by
 rcases ht with rfl|rfl
 .exact P.fI B'
 .exact P.fI B')
section
variable{w W:YB}{sb tb xb:Nat}{I:Ix}{M:List PR}{L:List De}{k K:Nat}{s l mb:Nat}{p:List PR}
theorem SY.oI(h:SY w W sb tb I M k K)(D:DX W w.heap.size xb L)(hk:k<=30)(hK:K<=999998000000)(r:rd)(hr:r.size<=30)(m:Int):
  eq prog 37 #[lc sb,U2 r,m] W λe W'=>e=BY (U8 #[U5 By (ME (aE 7 0 M) r m).1,U5 By (ME (aE 7 0 M) r m).2])/\∃M',SY w W' sb tb I M' (k+1) (K+200)/\DX W' w.heap.size xb L/\aE 7 0 M'=QG (aE 7 0 M) r m/\EG 7 0 M M'/\jI W W':=by
 obtain⟨F,q,A,S⟩:=h;obtain⟨a,M',b,c,d⟩:=S.addP hk r hr m;go_call (Gq A.b A.t hK r hr (S.D8 hk r).2.2 m) as e W' ⟨rfl,pp⟩;obtain⟨y,D'⟩:=SY.pt A D pp b;obtain⟨F2,P2,o2,f2⟩:=pp;rw[a];exact⟨rfl,M',y,D',c,d,jI.pq o2 A.t.2⟩
theorem SY.xdoc(h:SY w W sb tb I M k K)(D:DX W w.heap.size xb L)(o:ag [xb] W W'):SY w W' sb tb I M k K:=by
 obtain⟨A,n,c,X⟩:=D.x;exact h.doc o D.f.1 X.b (by decide) (by decide) (by decide) (by decide) (by decide) (by decide) (by decide) (by decide) (by decide) (by decide) (by decide)
theorem SY.mdoc{e:De}(h:SY w W sb tb I M k K)(D:DX W w.heap.size xb L)(he:e∈L)(o:ag [e.1.2.2] W W'):SY w W' sb tb I M k K:=by
 obtain⟨v,X⟩:=D.m e he;exact h.doc o (D.f.2 e he) X.b (by decide) (by decide) (by decide) (by decide) (by decide) (by decide) (by decide) (by decide) (by decide) (by decide) (by decide)
theorem DX.wW(D:DX W w.heap.size xb L)(o:ag [xb] W W'):jI W W':=by
 obtain⟨A,n,c,X⟩:=D.x;exact jI.one o X.b (by decide) (by decide)
theorem DX.mfra{e:De}(D:DX W w.heap.size xb L)(he:e∈L)(o:ag [e.1.2.2] W W'):jI W W':=by
 obtain⟨v,X⟩:=D.m e he;exact jI.one o X.b (by decide) (by decide)
theorem SY.mQ(h:SY w W sb tb I M k K)(D:DX W w.heap.size xb L)(R:Rl N L)(hn:L.length<10000)(hs:s<=7)(hl:l<=5):
  eq prog 93 #[lc xb,(s:Nat),(l:Nat)] W λe W'=> ∃mb L',e=BY (lc mb)/\SY w W' sb tb I M k K/\DX W' w.heap.size xb L'/\Rl N L'/\(((s:Int),(l:Int),mb),aE s l N)∈L'/\jI W W'/\L'.length<=L.length+1:=by
 go_call (D.of hn h.bel.size (s:Nat) (l:Nat)) as e W' ⟨mb,rfl,p,L',D',hm,hL,o⟩;obtain⟨R',hp⟩:=R.of D' hs hl hm hL;refine⟨mb,L',rfl,h.xdoc D o,D',R',hp▸hm,D.wW o,?_⟩
 rcases hL with rfl|⟨rfl,_⟩
 .omega
 .rw[aT];simp
theorem SY.ib(h:SY w W sb tb I M k K)(D:DX W w.heap.size xb L)(R:Rl N L)(hN:∀x∈N,x.2.size<=1000000)(hn:L.length<10000)(r:rd):
  eq prog 91 #[lc xb,U2 r] W λe W'=> ∃mb L',e=BY (U8 #[U5 By (j7 (cV (aE 7 0 N) r)).1,U5 By (j7 (cV (aE 7 0 N) r)).2])/\SY w W' sb tb I M k K/\DX W' w.heap.size xb L'/\Rl N L'/\(((7:Nat):Int),((0:Nat):Int),mb)∈L'.map (λe=>e.1)/\jI W W'/\L'.length<=L.length+1:=by
 refine(Sh.ib D hn h.bel.size r (λe he x hx=>?_)).mono ?_
 .obtain⟨s',l',_,_,_,_,e3⟩:=R.p e he;rw[e3]at hx;exact Gy hN x hx
 .rintro e W' ⟨mb,p,L',rfl,D',hm,hL,o⟩;obtain⟨R',hp⟩:=R.of (s:=7) (l:=0) D' (by omega) (by omega) hm hL;rw[hp];refine⟨mb,L',rfl,h.xdoc D o,D',R',cr.2 ⟨_,hm,rfl⟩,D.wW o,?_⟩
  rcases hL with rfl|⟨rfl,_⟩
  .omega
  .rw[aT];simp
theorem SY.mG(h:SY w W sb tb I M k K)(D:DX W w.heap.size xb L)(hm:(((s:Int),(l:Int),mb),p)∈L)(hp:p.length<=1000)(key value:rd)(h1:key.size<=1000000)(h2:value.size<=1000000):
  eq prog 54 #[lc mb,U2 key,U2 value] W λe W'=>e=BY (U5 By (if 32<key.size\/1024<value.size then 4 else 0))/\SY w W' sb tb I M k K/\DX W' w.heap.size xb (oA L mb (qT p key value))/\jI W W':=by
 obtain⟨v,X⟩:=D.m _ hm;go_call (Sh.mG X key value (by show p.length<_;omega) h1 h2) as e W' ⟨rfl,v',X',o⟩;exact⟨rfl,h.mdoc D hm o,D.map hm o X',D.mfra hm o⟩
end
variable{w W:YB}{sb tb k K:Nat}{I:Ix}{M:List PR}
theorem SY.zR(h:SY w W sb tb I M k K):(∀x∈M,x.2.size<=1024)/\M.length<=k:=by
 obtain⟨F,q,A,S⟩:=h;exact⟨S.zR,S.len⟩
def DoS(w W W':YB)(sb tb xb:Nat)(I:Ix)(M:List PR)(L:List De)(k K s l:Nat):Prop:=
 ∃M' L',SY w W' sb tb I M' (k+1) K/\DX W' w.heap.size xb L'/\Rl M' L'/\EG s l M M'/\jI W W'/\L'.length<=L.length+2
theorem Z1{xb:Nat}{L:List De}(h:SY w W sb tb I M k K)(D:DX W w.heap.size xb L)(R:Rl M L)(hn:L.length<=1000)(hk:k<=30)(hK:K<=999990000000)(kd sp lp m:Int)(r til val:rd)(gZ:r.size<=100000)(hm: -9223372036854775808<=m/\m<=9223372036854775807):
  eq prog 90 #[lc sb,lc xb,.agg (eI kd sp lp m r til val)] W λe W'=>e=BY (U6 true)/\DoS w W W' sb tb xb I M L k (K+200) 7 0:=by
 have hb:=i6 W (WF (eI kd sp lp m r til val) 82);have CZ:=aF.new W 82 (eI kd sp lp m r til val);have h0:=xh<|h.below hb;have D0:=xh<|D.below hb;have F0:=xh<|jI.below hb;obtain⟨z,hz⟩:∃z,W.heap.size=z:=⟨_,rfl⟩;rw[hz]at CZ;have CZ:=xh CZ;have HZ:=xh hz;have HR:=xh R;have HV:=xh h.zR;have HN:=xh<|io hn (io hk hK);clear h D R hn hk hK hb hz;have y3:=CZ.ap 3
 have y4:=CZ.ap 4;have jW:=HZ.o
 by_cases hr:r.size<=30
 .have VP:¬(30<(r.size:Int)):=by omega
  have KA:=xh (λ(V:YB) (hV:SY w V sb tb I M k K) (DV:DX V w.heap.size xb L)=>hV.oI DV HN.o.2.1 (by have:=HN.o.2.2;omega) r hr m);obtain⟨n1,e1,hA⟩:∃n1 e1,ME (aE 7 0 M) r m=(n1,e1):=⟨_,_,rfl⟩;obtain⟨ol,fe,hC⟩:∃ol fe,j7 (cV (aE 7 0 M) r)=(ol,fe):=⟨_,_,rfl⟩;rw[hA]at KA;have VR:=hA;unfold ME at VR;rw[hC]at VR;dsimp only at VR KA;unfold eI at *;go_in;go_wp2_with fail;refine(KA.o _ h0.o D0.o).mono ?_
  rintro e w1 ⟨rfl,M1,h1,D1,hp1,hO1,f1⟩;have C1:=xh<|f1 _ _ _ CZ.o (.inl rfl);have F1:=xh<|F0.o.trans f1;have KC:=xh<|h1.ib D1 HR.o (λx hx=>by have:=HV.o.1 x hx;omega) (by have:=HN.o.1;omega) r;rw[hC]at KC;have P1:=xh<|io hp1 hO1;clear h1 D1 f1 y3 y4 hp1 hO1;have y3:=C1.ap 3;have y4:=C1.ap 4;have HA:=xh hA;have HC:=xh hC
  replace VR:=xh VR
  clear hA hC;go_wp2_with fail;go_call KC.o as e w2 ⟨mb,L2,rfl,h2,D2,R2,Bp,f2,n2⟩;have C2:=xh<|f2 _ _ _ C1.o (.inl rfl);have F2:=xh<|F1.o.trans f2;have H2:=xh<|io h2 (io D2 (io R2 n2));clear h2 D2 R2 f2 n2 y3 y4 Bp;have y3:=C2.ap 3;have y4:=C2.ap 4;dsimp only
  by_cases hf:fe=0
  .subst hf;have hA3:=VR.o;rw[i8]at hA3
   by_cases gq:lE m (-1099511627776)/\lE ol 0/\lE (ol+m) 0
   .rw[if_neg (by simpa using gq)]at hA3;injection hA3 with q1 q2
    subst q1 q2;obtain⟨⟨a1,a2⟩,⟨a3,a4⟩,⟨a5,a6⟩⟩:=gq;have s1:IntKind.i64.wrap (ol+m)=ol+m:=dl;have b1:¬m< -1099511627776:=by omega
    have b2:¬1099511627776<m:=by omega
    have b3:¬ol<0:=by omega
    have b4:¬1099511627776<ol:=by omega
    have b5:¬ol+m<0:=by omega
    have b6:¬1099511627776<ol+m:=by omega
    have hp3:aE 7 0 M1=qT (aE 7 0 M) r (su (ol+m)):=by
     rw[P1.o.1];unfold QG;rw[HA.o,HC.o,i8]
    have KO:=xh (λ(V:YB) (hV:SY w V sb tb I M1 (k+1) (K+200)) (DV:DX V w.heap.size xb L2)=>hV.mQ (s:=7) (l:=0) DV H2.o.2.2.1 (by have:=HN.o.1;have:=H2.o.2.2.2;omega) (by omega) (by omega));have KI:=xh (λ(V:YB)=>Wr (ol+m).toNat (by omega) V);rw[uq a5]at KI;have HP:=xh hp3;have HVL:=xh (show(⟨(df (((ol+m).toNat:Nat):Int)).toArray⟩:rd)=su (ol+m) by rw[uq a5];rfl);rw[uq a5]at HVL
    replace a5:=xh<|io a5 a6
    clear a1 a2 a3 a4 a6 hp3;go_wp2_with fail;refine kw (λW=>W.cell? ⟨z,3,none⟩=some (m:li)/\W.cell? ⟨z,4,none⟩=some (U2 r)) (⟨y3,y4⟩) (λau=>?_);refine dP [(0,82),(2,84),(3,85),(4,86),(5,87),(6,88),(7,89)] ?_
    iterate 7 refine bJ ?_
    refine dI 1 83 λK hK=>?_;go_simp
    go_at_call 93
    go_call (KO.o _ H2.o.1.drew H2.o.2.1.drew) as e w3 ⟨mb3,L3,rfl,h3,D3,R3,VQ,f3,n3⟩;have C3:=xh<|f3 _ _ _ C2.o.drew (.inl rfl);have F3:=xh<|F2.o.trans ((jI.below (Below.refl _ _).drew).trans f3);have H3:=xh<|io h3 (io D3 (io R3 (io VQ n3)));clear h3 D3 R3 VQ f3 n3;go_simp;refine bn hK (⟨C3.ap 3,C3.ap 4⟩) (λau=>?_);refine dI 8 90 λK hK=>?_;go_simp
    go_at_call 143
    go_call (KI.o _) as e w4 ⟨rfl,fo⟩;have C4:=xh<|C3.o.below fo C3.o.lt;have F4:=xh<|F3.o.trans (jI.below fo);have h4:=xh<|H3.o.1.below fo;have D4:=xh<|H3.o.2.1.below fo;clear fo;go_simp;refine bn hK (⟨C4.ap 3,C4.ap 4⟩) (λau=>?_);refine dI 9 91 λK hK=>?_;go_simp
    go_at_call 54
    rw[HVL.o];have KS:=h4.o.mG D4.o H3.o.2.2.2.1 (by have:=ly 7 0 M;have:=HV.o.2;have:=HN.o.2.1;omega) r (su (ol+m)) (by omega) (by rw[kM];omega);rw[if_neg (show ¬(32<r.size\/1024<(su (ol+m)).size) by rw[kM];omega)]at KS;refine KS.mono ?_;clear KS;rintro e w5 ⟨rfl,h5,D5,f5⟩;have C5:=xh<|f5 _ _ _ C4.o (.inl rfl);have F5:=xh<|F4.o.trans f5;have H5:=xh<|io h5 D5;clear h5 D5 f5;go_simp
    refine bn hK (⟨C5.ap 3,C5.ap 4⟩) (λau=>?_);refine jp ?_ _;clear y3 y4;have y3:=C5.ap 3;go_wp2;go_ret;exact aI ⟨M1,_,H5.o.1,H5.o.2,H3.o.2.2.1.upd H3.o.2.1 (by omega) (by omega) H3.o.2.2.2.1 P1.o.2 HP.o,P1.o.2,F5.o,by unfold oA;rw[bM];have:=H3.o.2.2.2.2;have:=H2.o.2.2.2;omega⟩
   .rw[if_pos gq]at hA3;injection hA3 with q1 q2
    subst q1 q2;have HP:=g9 (aE 7 0 M1=aE 7 0 M) (by rw[P1.o.1];unfold QG;rw[HA.o,i9])
    by_cases c0:m< -1099511627776
    .clear gq;go_wp2;go_ret;exact aI ⟨M1,L2,H2.o.1,H2.o.2.1,H2.o.2.2.1.same HP.o P1.o.2,P1.o.2,F2.o,by have:=H2.o.2.2.2;omega⟩
    .skip
     by_cases c1:1099511627776<m
     .clear gq;go_wp2;go_ret;exact aI ⟨M1,L2,H2.o.1,H2.o.2.1,H2.o.2.2.1.same HP.o P1.o.2,P1.o.2,F2.o,by have:=H2.o.2.2.2;omega⟩
     .skip
      by_cases c2:ol<0
      .clear gq;go_wp2;go_ret;exact aI ⟨M1,L2,H2.o.1,H2.o.2.1,H2.o.2.2.1.same HP.o P1.o.2,P1.o.2,F2.o,by have:=H2.o.2.2.2;omega⟩
      .skip
       by_cases c3:1099511627776<ol
       .clear gq;go_wp2;go_ret;exact aI ⟨M1,L2,H2.o.1,H2.o.2.1,H2.o.2.2.1.same HP.o P1.o.2,P1.o.2,F2.o,by have:=H2.o.2.2.2;omega⟩
       .skip
        have s1:IntKind.i64.wrap (ol+m)=ol+m:=dl
        by_cases c4:ol+m<0
        .clear gq;go_wp2;go_ret;exact aI ⟨M1,L2,H2.o.1,H2.o.2.1,H2.o.2.2.1.same HP.o P1.o.2,P1.o.2,F2.o,by have:=H2.o.2.2.2;omega⟩
        .skip
         have c5:1099511627776<ol+m:=by
          by_cases c5:1099511627776<ol+m
          .exact c5
          .exact absurd ⟨⟨by omega,by omega⟩,⟨by omega,by omega⟩,by omega,by omega⟩ gq
         clear gq;go_wp2;go_ret;exact aI ⟨M1,L2,H2.o.1,H2.o.2.1,H2.o.2.2.1.same HP.o P1.o.2,P1.o.2,F2.o,by have:=H2.o.2.2.2;omega⟩
  .have hA3:=VR.o;rw[if_pos hf]at hA3;injection hA3 with q1 q2
   subst q1 q2;have HP:=g9 (aE 7 0 M1=aE 7 0 M) (by rw[P1.o.1];unfold QG;rw[HA.o,if_pos hf]);go_wp2;go_ret;exact aI ⟨M1,L2,H2.o.1,H2.o.2.1,H2.o.2.2.1.same HP.o P1.o.2,P1.o.2,F2.o,by have:=H2.o.2.2.2;omega⟩
 .have VP:30<(r.size:Int):=by omega
  have KA:=xh (λ(V:YB)=>RZ sb r m (by omega) V);unfold eI at *;go_in;go_wp2_with fail;go_call (KA.o _) as e w1 ⟨rfl,aO⟩;have C1:=xh<|CZ.o.below aO CZ.o.lt;have F1:=xh<|F0.o.trans (jI.below aO);have h1:=xh<|h0.o.below aO;have D1:=xh<|D0.o.below aO;clear aO y3 y4;have y4:=C1.ap 4;go_wp2;go_ret
  exact aI ⟨M,L,h1.o.le (by omega) (by omega),D1.o,HR.o,EG.refl _ _ _,F1.o,by omega⟩
def Tch(kd sp lp:Int)(s l:Nat):Prop:=((kd=6\/kd=7)/\s=7/\l=0)\/(¬(kd=6\/kd=7)/\sp=(s:Nat)/\lp=(l:Nat))
def Sg(w W W':YB)(sb tb xb:Nat)(I:Ix)(M:List PR)(L:List De)(k K:Nat)(kd sp lp:Int):Prop:=
 ∃M' L',SY w W' sb tb I M' (k+1) K/\DX W' w.heap.size xb L'/\Rl M' L'/\(∀s l,s<=7->l<=5->¬Tch kd sp lp s l->aE s l M'=aE s l M)/\jI W W'/\L'.length<=L.length+2
theorem SY.nt{w W:YB}{sb tb xb:Nat}{I:Ix}{M:List PR}{L:List De}{k K:Nat}(h:SY w W sb tb I M k K)(D:DX W w.heap.size xb L)(hk:k<=30)(hK:K<=999998000000)(r:rd)(hr:r.size<=30):
  eq prog 38 #[lc sb,U2 r] W λe W'=>e=BY (U8 #[U5 By (j7 (cV (aE 7 0 M) r)).1,U5 By (j7 (cV (aE 7 0 M) r)).2])/\SY w W' sb tb I M k (K+21)/\DX W' w.heap.size xb L/\jI W W':=by
 obtain⟨F,q,A,S⟩:=h;obtain⟨a,b,c⟩:=S.D8 hk r;go_call (oX A.b A.t hK r hr c) as e W' ⟨rfl,P,o⟩;obtain⟨y,D'⟩:=SY.pq A D P o a;rw[b];exact⟨rfl,y,D',jI.pq o A.t.2⟩
section
variable{w W:YB}{sb tb xb:Nat}{I:Ix}{M:List PR}{L:List De}{k K:Nat}
theorem SY.act(h:SY w W sb tb I M k K)(D:DX W w.heap.size xb L)(kd sp lp m:Int)(r til val:rd):SY w (W.alloc (WF (eI kd sp lp m r til val) 82)) sb tb I M k K/\DX (W.alloc (WF (eI kd sp lp m r til val) 82)) w.heap.size xb L/\jI W (W.alloc (WF (eI kd sp lp m r til val) 82))/\aF (W.alloc (WF (eI kd sp lp m r til val) 82)) W.heap.size 82 (eI kd sp lp m r til val):=by
 have hb:=i6 W (WF (eI kd sp lp m r til val) 82);exact⟨h.below hb,D.below hb,jI.below hb,aF.new W 82 (eI kd sp lp m r til val)⟩
theorem do_adds(h:SY w W sb tb I M k K)(D:DX W w.heap.size xb L)(R:Rl M L)(hn:L.length<=1000)(hk:k<=30)(hK:K<=999900000000)(kd sp lp m:Int)(r til val:rd)(gZ:r.size<=100000)(hm: -9223372036854775808<=m/\m<=9223372036854775807)(lA:kd=6\/kd=7):
  eq prog 40 #[lc sb,lc xb,.agg (eI kd sp lp m r til val)] W λe W'=>e=BY (U6 true)/\Sg w W W' sb tb xb I M L k (K+40000000) kd sp lp:=by
 obtain⟨h0,D0,F0,CZ⟩:=h.act D kd sp lp m r til val;have KA:=xh<|Z1 h0 D0 R hn hk (by omega) kd sp lp m r til val gZ hm;have F0:=xh F0;have HKD:=xh lA;obtain⟨z,hz⟩:∃z,W.heap.size=z:=⟨_,rfl⟩;rw[hz]at CZ;have HZ:=xh hz;clear h D R hn hk hK hz h0 D0;have y0:=CZ.bi 0;have y1:=CZ.bi 1;have y2:=CZ.bi 2;have y3:=CZ.bi 3;have y4:=CZ.bi 4;have y5:=CZ.bi 5
 have y6:=CZ.bi 6;have CZ:=xh CZ;have jW:=HZ.o;unfold eI at *;have fin:∀W',DoS w (W.alloc (WF #[kd,sp,lp,m,U2 r,U2 til,U2 val] 82)) W' sb tb xb I M L k (K+200) 7 0->Sg w W W' sb tb xb I M L k (K+40000000) kd sp lp:=λW' ⟨M',L',a,b,c,d,e,f⟩=>
  ⟨M',L',a.le (ai _) (by omega),b,c,λs l hs hl hT=>d s l hs hl λhh=>hT (.inl ⟨HKD.o,hh.1.symm,hh.2.symm⟩),F0.o.trans e,f⟩
 have fin:=xh fin
 rcases lA with rfl|rfl
 .go_in;go_wp2_with fail;go_call KA.o as e w1 ⟨rfl,hd⟩;have hd:=xh<|fin.o _ hd;go_wp2;go_ret;exact aI hd.o
 .go_in;go_wp2_with fail;go_call KA.o as e w1 ⟨rfl,hd⟩;have hd:=xh<|fin.o _ hd;go_wp2;go_ret;exact aI hd.o
end
section
variable{w W:YB}{sb tb xb:Nat}{I:Ix}{M:List PR}{L:List De}{k K:Nat}
theorem QH(h:SY w W sb tb I M k K)(D:DX W w.heap.size xb L)(R:Rl M L)(hn:L.length<=1000)(hk:k<=30)(hK:K<=999900000000)(kd sp lp m:Int)(r til val:rd)(gZ:r.size<=100000)(lA:kd=8):
  eq prog 40 #[lc sb,lc xb,.agg (eI kd sp lp m r til val)] W λe W'=>e=BY (U6 true)/\Sg w W W' sb tb xb I M L k (K+40000000) kd sp lp:=by
 obtain⟨h0,D0,F0,CZ⟩:=h.act D kd sp lp m r til val;have h0:=xh h0;have D0:=xh D0;have F0:=xh F0;have HR:=xh R;have HV:=xh h.zR;have HN:=xh<|io hn (io hk hK);obtain⟨z,hz⟩:∃z,W.heap.size=z:=⟨_,rfl⟩;rw[hz]at CZ;have HZ:=xh hz;clear h D R hn hk hK hz;have y0:=CZ.bi 0;have y1:=CZ.bi 1;have y2:=CZ.bi 2;have y3:=CZ.bi 3;have y4:=CZ.bi 4
 have y5:=CZ.bi 5;have y6:=CZ.bi 6;have CZ:=xh CZ;have jW:=HZ.o;unfold eI at *;subst lA
 by_cases hr:r.size<=30
 .have VP:¬(30<(r.size:Int)):=by omega
  have KA:=xh<|h0.o.nt D0.o HN.o.2.1 (by have:=HN.o.2.2;omega) r hr;obtain⟨n1,hC⟩:∃n1,j7 (cV (aE 7 0 M) r)=n1:=⟨_,rfl⟩;obtain⟨ol,fe⟩:=n1;rw[hC]at KA;dsimp only at KA;have HC:=xh hC;clear hC;go_in;go_wp2_with fail;go_call KA.o as e w1 ⟨rfl,h1,D1,f1⟩;have C1:=xh<|f1 _ _ _ CZ.o (.inl rfl);have F1:=xh<|F0.o.trans f1
  have KC:=xh<|h1.ib D1 HR.o (λx hx=>by have:=HV.o.1 x hx;omega) (by have:=HN.o.1;omega) r;rw[HC.o]at KC;clear h1 D1 f1 y0 y1 y2 y3 y4 y5 y6;have y4:=C1.ap 4;go_wp2_with fail;go_call KC.o as e w2 ⟨mb,L2,rfl,h2,D2,R2,Bp,f2,n2⟩;have H2:=xh<|io h2 (io D2 (io R2 n2));have F2:=xh<|F1.o.trans f2;clear h2 D2 R2 f2 n2 y4 Bp;go_wp2;go_ret
  exact aI ⟨M,L2,H2.o.1.le (by omega) (by omega),H2.o.2.1,H2.o.2.2.1,λ_ _ _ _ _=>rfl,F2.o,by have:=H2.o.2.2.2;omega⟩
 .have VP:30<(r.size:Int):=by omega
  have KA:=xh (λ(V:YB)=>sC sb r (by omega) V);go_in;go_wp2_with fail;go_call (KA.o _) as e w1 ⟨rfl,aO⟩;have C1:=xh<|CZ.o.below aO CZ.o.lt;have F1:=xh<|F0.o.trans (jI.below aO);have h1:=xh<|h0.o.below aO;have D1:=xh<|D0.o.below aO;clear aO y0 y1 y2 y3 y4 y5 y6;have y4:=C1.ap 4;go_wp2;go_ret
  exact aI ⟨M,L,h1.o.le (by omega) (by omega),D1.o,HR.o,λ_ _ _ _ _=>rfl,F1.o,by omega⟩
end
theorem AF{s l:Int}{rs:List rd}(h:¬(0<=s/\s<=7/\0<=l/\l<=5/\∀r∈rs,r.size<=30)):ED s l rs≠0:=by
 unfold ED
 split
 .decide
 .split
  .rename_i h1 h2;exfalso;apply h
   simp_all
   omega
  .decide
section
variable{w W:YB}{sb tb xb:Nat}{I:Ix}{M:List PR}{L:List De}{k K:Nat}{s l:Nat}
theorem SY.qp(h:SY w W sb tb I M k K)(D:DX W w.heap.size xb L)(hk:k<=30)(hK:K<=999998000000)(hs:s<=7)(hl:l<=5)(r:rd)(hr:r.size<=30):
  eq prog 42 #[lc sb,(s:Nat),(l:Nat),U2 r] W λe W'=>e=BY (U8 #[U2 (cV (aE s l M) r).1,U5 By (cV (aE s l M) r).2])/\SY w W' sb tb I M k (K+21)/\DX W' w.heap.size xb L/\jI W W':=by
 obtain⟨F,q,A,S⟩:=h;obtain⟨a,b⟩:=S.getP hk hs hl r;go_call (pT A.b A.t (by omega) s l hs (by omega) r hr) as e W' ⟨rfl,P,o⟩;obtain⟨y,D'⟩:=SY.pq A D P o a;rw[b];exact⟨rfl,y,D',jI.pq o A.t.2⟩
theorem do_no(h:SY w W sb tb I M k K)(D:DX W w.heap.size xb L)(R:Rl M L)(hn:L.length<=1000)(hk:k<=30)(hK:K<=999900000000)(kd sp lp m:Int)(r til val:rd)(gZ:r.size<=100000)(lA:¬(kd=6\/kd=7)/\kd≠8)(tY:¬(0<=sp/\sp<=7/\0<=lp/\lp<=5/\∀x∈[r,til],x.size<=30)):
  eq prog 40 #[lc sb,lc xb,.agg (eI kd sp lp m r til val)] W λe W'=>e=BY (U6 true)/\Sg w W W' sb tb xb I M L k (K+40000000) kd sp lp:=by
 obtain⟨h0,D0,F0,CZ⟩:=h.act D kd sp lp m r til val;have h0:=xh h0;have D0:=xh D0;have F0:=xh F0;have HR:=xh R;have HV:=xh h.zR;have HN:=xh<|io hn (io hk hK);obtain⟨z,hz⟩:∃z,W.heap.size=z:=⟨_,rfl⟩;rw[hz]at CZ;have HZ:=xh hz;clear h D R hn hk hK hz;have y0:=CZ.bi 0;have y1:=CZ.bi 1;have y2:=CZ.bi 2;have y3:=CZ.bi 3;have y4:=CZ.bi 4
 have y5:=CZ.bi 5;have y6:=CZ.bi 6;have CZ:=xh CZ;have jW:=HZ.o;unfold eI at *;have d1:¬kd=6:=λe=>lA.1 (.inl e);have d2:¬kd=7:=λe=>lA.1 (.inr e);have d3:¬kd=8:=lA.2;have c1:(kd==6)=false:=by simpa using d1
 have c2:(kd==7)=false:=by simpa using d2
 have c3:(kd==8)=false:=by simpa using d3
 have HNO:=xh tY;have KM:=xh (λ(V:YB)=>kN (w:=V.alloc (WF #[U2 r,U2 til] 9)) (A:=some ⟨V.heap.size,0,none⟩) (n:=2) (c:=2) (rs:=[r,til]) sp lp ⟨rfl,.inr ⟨V.heap.size,2,[],rfl,aF.new _ _ _,rfl,by decide⟩⟩ (by omega))
 replace KM:=KM.o (W.alloc (WF #[kd,sp,lp,m,U2 r,U2 til,U2 val] 82))
 rw[decide_eq_false tY,gf,HZ.o]at KM;have KM:=xh KM;have KS:=xh (λ(V:YB)=>Mn sb sp lp r til m (AF tY) V);clear tY lA;go_in;go_wp2_with fail;go_call KM.o as e w1 ⟨rfl,aO⟩;have cf:=aC (i6 _ (WF #[U2 r,U2 til] 9)) aO;have C1:=xh<|CZ.o.below cf CZ.o.lt;have F1:=xh<|F0.o.trans (jI.below cf);have h1:=xh<|h0.o.below cf;have D1:=xh<|D0.o.below cf
 clear aO cf y0 y1 y2 y3 y4 y5 y6;have y1:=C1.ap 1;have y2:=C1.ap 2;have y3:=C1.ap 3;have y4:=C1.ap 4;have y5:=C1.ap 5
 by_cases hy:0<=sp/\sp<=7/\0<=lp/\lp<=5/\∀x∈[r],x.size<=30
 .have KM2:=xh (λ(V:YB)=>kN (w:=V.alloc (WF #[U2 r] 9)) (A:=some ⟨V.heap.size,0,none⟩) (n:=1) (c:=1) (rs:=[r]) sp lp ⟨rfl,.inr ⟨V.heap.size,1,[],rfl,aF.new _ _ _,rfl,by decide⟩⟩ (by omega));rw[decide_eq_true hy]at KM2;obtain⟨e1,e2,e3,e4,e5⟩:=hy;obtain⟨s,rfl⟩:=dZ e1;obtain⟨l,rfl⟩:=dZ e3
  have KG:=xh<|h1.o.qp D1.o HN.o.2.1 (by have:=HN.o.2.2;omega) (show s<=7 by omega) (show l<=5 by omega) r (e5 r (by simp));obtain⟨g,hg⟩:∃g,cV (aE s l M) r=g:=⟨_,rfl⟩;have he:=tT (aE s l M) r;rw[hg]at KG he;obtain⟨gb,ge⟩:=g;dsimp only at KG he;have zm:¬ge=2:=by omega
  have he3:(ge==2)=false:=by simpa using zm
  clear e1 e2 e3 e4 e5 hg he;go_wp2_with fail;go_call KG.o as e w2 ⟨rfl,h2,D2,f2⟩;have C2:=xh<|f2 _ _ _ C1.o (.inl rfl);have F2:=xh<|F1.o.trans f2;have h2:=xh h2;have D2:=xh D2;clear f2 y1 y2 y3 y4 y5;have y1:=C2.ap 1;have y2:=C2.ap 2;have y3:=C2.ap 3;have y4:=C2.ap 4;have y5:=C2.ap 5;go_wp2_with fail;go_call (KS.o _) as e w3 ⟨rfl,dk⟩
  have C3:=xh<|C2.o.below dk C2.o.lt;have F3:=xh<|F2.o.trans (jI.below dk);have h3:=xh<|h2.o.below dk;have D3:=xh<|D2.o.below dk;clear dk y1 y2 y3 y4 y5;have y1:=C3.ap 1;have y2:=C3.ap 2;have y4:=C3.ap 4;go_wp2_with fail;go_call (KM2.o w3) as e w4 ⟨rfl,fo⟩;have mK:=aC (i6 _ (WF #[U2 r] 9)) fo;have F4:=xh<|F3.o.trans (jI.below mK)
  have h4:=xh<|h3.o.below mK;have D4:=xh<|D3.o.below mK;clear fo mK y1 y2 y4;go_wp2;go_ret;exact aI ⟨M,L,h4.o.le (by omega) (by omega),D4.o,HR.o,λ_ _ _ _ _=>rfl,F4.o,by omega⟩
 .have KG:=xh (λ(V:YB)=>I4 sb sp lp r (AF hy) V);clear hy;go_wp2_with fail;go_call (KG.o _) as e w2 ⟨rfl,cf⟩;have C2:=xh<|C1.o.below cf C1.o.lt;have F2:=xh<|F1.o.trans (jI.below cf);have h2:=xh<|h1.o.below cf;have D2:=xh<|D1.o.below cf;clear cf y1 y2 y3 y4 y5;have y1:=C2.ap 1;have y2:=C2.ap 2;have y3:=C2.ap 3;have y4:=C2.ap 4
  have y5:=C2.ap 5;go_wp2_with fail;go_call (KS.o _) as e w3 ⟨rfl,dk⟩;have C3:=xh<|C2.o.below dk C2.o.lt;have F3:=xh<|F2.o.trans (jI.below dk);have h3:=xh<|h2.o.below dk;have D3:=xh<|D2.o.below dk;clear dk y1 y2 y3 y4 y5;go_wp2;go_ret;exact aI ⟨M,L,h3.o.le (by omega) (by omega),D3.o,HR.o,λ_ _ _ _ _=>rfl,F3.o,by omega⟩
end
end Sh
namespace Sh
open Go.RowKit Pk Dk Pg
section
variable{w W:YB}{sb tb xb:Nat}{I:Ix}{M:List PR}{L:List De}{k K:Nat}{s l:Nat}
theorem SY.Jd(h:SY w W sb tb I M k K)(D:DX W w.heap.size xb L)(hk:k<=30)(hK:K<=999999000000)(hs:s<=7)(hl:l<=5)(r v:rd)(hr:r.size<=30)(hv:v.size<=100000):
  eq prog 46 #[lc sb,(s:Nat),(l:Nat),U2 r,U2 v] W λe W'=>e=BY (U5 By (if 32<r.size\/1024<v.size then 4 else 0))/\∃M',SY w W' sb tb I M' (k+1) (K+100)/\DX W' w.heap.size xb L/\aE s l M'=qT (aE s l M) r v/\EG s l M M'/\jI W W':=by
 obtain⟨F,q,A,S⟩:=h;obtain⟨a,M',b,c,d⟩:=S.setP hk hs hl r v hr;go_call (wS A.b A.t hK s l hs (by omega) r v hr hv) as e W' ⟨rfl,pp⟩;obtain⟨y,D'⟩:=SY.pt A D pp b;obtain⟨F2,P2,o2,f2⟩:=pp;rw[a];exact⟨rfl,M',y,D',c,d,jI.pq o2 A.t.2⟩
theorem SY.Je(h:SY w W sb tb I M k K)(D:DX W w.heap.size xb L)(hk:k<=30)(hK:K<=999999000000)(hs:s<=7)(hl:l<=5)(r:rd)(hr:r.size<=30):
  eq prog 47 #[lc sb,(s:Nat),(l:Nat),U2 r] W λe W'=>e=BY (U5 By (if um (aE s l M) r=true then 0 else 9))/\∃M',SY w W' sb tb I M' k (K+700)/\DX W' w.heap.size xb L/\aE s l M'=uo (aE s l M) r/\EG s l M M'/\jI W W':=by
 obtain⟨F,q,A,S⟩:=h;obtain⟨a,M',b,c,d⟩:=S.delP hk hs hl r;go_call (Mj A.b A.t (by omega) s l hs (by omega) r hr) as e W' ⟨rfl,pp⟩;obtain⟨y,D'⟩:=SY.pt A D pp b;obtain⟨F2,P2,o2,f2⟩:=pp;rw[a];exact⟨rfl,M',y,D',c,d,jI.pq o2 A.t.2⟩
theorem SY.yI(h:SY w W sb tb I M k K)(D:DX W w.heap.size xb L)(hk:k<=30)(hK:K<=999900000000)(hs:s<=7)(hl:l<=5)(a b:rd)(h1:a.size<=30)(h2:b.size<=30):
  eq prog 44 #[lc sb,(s:Nat),(l:Nat),U2 a,U2 b] W λe W'=>e=BY (U8 #[U5 By (((aE s l M).length:Int)-(lZ a b (aE s l M)).length),U5 By 0])/\∃M',SY w W' sb tb I M' k (K+30000000)/\DX W' w.heap.size xb L/\aE s l M'=lZ a b (aE s l M)/\EG s l M M'/\jI W W':=by
 obtain⟨F,q,A,S⟩:=h;obtain⟨x,M',y,c,d⟩:=S.clearP hk hs hl a b;go_call (DS A.b A.t hK s l hs hl a b h1 h2) as e W' ⟨rfl,pp⟩;obtain⟨y',D'⟩:=SY.pt A D pp y;obtain⟨F2,P2,o2,f2⟩:=pp;rw[x];exact⟨rfl,M',y',D',c,d,jI.pq o2 A.t.2⟩
theorem SY.pW(h:SY w W sb tb I M k K)(D:DX W w.heap.size xb L)(hk:k<=30)(hK:K<=999900000000)(hs:s<=7)(hl:l<=5)(a b:rd)(h1:a.size<=30)(h2:b.size<=30)(m:Int):
  eq prog 41 #[lc sb,(s:Nat),(l:Nat),U2 a,U2 b,m] W λe W'=> ∃v,e=BY (U8 #[v,U5 By 0])/\aM W' 42 2 v (fE a b m (aE s l M)).length (iQ (fE a b m (aE s l M)))/\SY w W' sb tb I M k (K+300000)/\DX W' w.heap.size xb L/\jI W W'/\(∀g∈ah v,W.heap.size<=g):=by
 obtain⟨F,q,A,S⟩:=h;obtain⟨x,c,d,e1,f⟩:=S.fE hk hs hl a b m;go_call (yF A.b A.t hK s l hs hl a b h1 h2 m e1 (by omega)) as e W' ⟨v,rfl,sl,P,o,g⟩;obtain⟨y',D'⟩:=SY.pq A D P o x;rw[c]at sl;rw[d];exact⟨v,rfl,sl,y',D',jI.pq o A.t.2,g⟩
end
section
variable{w W:YB}{sb tb xb:Nat}{I:Ix}{M:List PR}{L:List De}{k K:Nat}{s l mb:Nat}{p:List PR}
theorem SY.D9(h:SY w W sb tb I M k K)(D:DX W w.heap.size xb L)(hk:k<=30)(hK:K<=999900000000)(hs:s<=7)(hl:l<=5)(a b:rd)(h1:a.size<=30)(h2:b.size<=30):
  eq prog 43 #[U7 (some ⟨sb,0,none⟩),U5 By (s:Nat),U5 By (l:Nat),U2 a,U2 b] W λe W'=> ∃x er,e=BY (U8 #[prV x,U5 By er])/\(x,er)=(match (fE a b 1099511627776 (aE s l M)).getLast? with|none=>((⟨#[]⟩,⟨#[]⟩),9)|some x=>(x,0))/\SY w W' sb tb I M k (K+600)/\DX W' w.heap.size xb L/\jI W W':=by
 obtain⟨F,q,A,S⟩:=h;obtain⟨x,c,d⟩:=S.lastP hk hs hl a b;go_call (Gp A.b A.t hK s l hs hl a b h1 h2 d) as e W' ⟨rfl,P,o⟩;obtain⟨y',D'⟩:=SY.pq A D P o x;exact⟨_,_,rfl,c,y',D',jI.pq o A.t.2⟩
theorem SY.pU(h:SY w W sb tb I M k K)(D:DX W w.heap.size xb L)(hm:(((s:Int),(l:Int),mb),p)∈L)(key:rd):
  eq prog 55 #[lc mb,U2 key] W λe W'=>e=BY (U5 By (if um p key=true then 0 else 9))/\SY w W' sb tb I M k K/\DX W' w.heap.size xb (oA L mb (uo p key))/\jI W W':=by
 obtain⟨v,X⟩:=D.m _ hm;go_call (Sh.pU X key) as e W' ⟨rfl,v',X',o⟩;exact⟨rfl,h.mdoc D hm o,D.map hm o X',D.mfra hm o⟩
theorem SY.l5(h:SY w W sb tb I M k K)(D:DX W w.heap.size xb L)(hm:(((s:Int),(l:Int),mb),p)∈L)(a b:rd):
  eq prog 56 #[lc mb,U2 a,U2 b] W λe W'=>e=BY (U5 By ((p.length:Int)-(lZ a b p).length))/\SY w W' sb tb I M k K/\DX W' w.heap.size xb (oA L mb (lZ a b p))/\jI W W':=by
 obtain⟨v,X⟩:=D.m _ hm;go_call (Sh.l5 X a b) as e W' ⟨rfl,v',X',o,_⟩;exact⟨rfl,h.mdoc D hm o,D.map hm o X',D.mfra hm o⟩
end
variable{z:Nat}
structure EH(z:Nat)(cs:Array YO)(A:YB->Prop):Prop where
 b:∀V V',A V->i7 V V'->A V'
 c:∀V,A V->aF V z 82 cs
theorem EH.d{cs:Array YO}{A:YB->Prop}(h:EH z cs A){V:YB}(a:A V):A V.drew:=h.b _ _ a (Below.refl _ _).drew
section
variable{W:YB}{sb xb:Nat}{kd sp lp m:Int}{r til val:rd}{A0:YB->Prop}{A1:Nat->YB->Prop}
theorem Si(hz:W.heap.size=z)(S0:EH z (eI kd sp lp m r til val) A0)(h0:A0 (W.alloc (WF (eI kd sp lp m r til val) 82)))(gq:0<=sp/\sp<=7/\0<=lp/\lp<=5/\r.size<=30/\til.size<=30)(S1:∀mb,EH z (eI kd sp lp m r til val) (A1 mb))(KO:∀V,A0 V->eq prog 93 #[U7 (some ⟨xb,0,none⟩),U5 By sp,U5 By lp] V λe V'=> ∃mb,e=BY (U7 (some ⟨mb,0,none⟩))/\A1 mb V')(lA:kd=0\/kd=1\/kd=2){A2:Nat->Int->YB->Prop}(S2:∀mb e1,EH z (eI kd sp lp m r til val) (A2 mb e1)){A3:Nat->Int->Int->YB->Prop}(S3:∀mb e1 e2,EH z (eI kd sp lp m r til val) (A3 mb e1 e2))(KS:∀mb V,A1 mb V->eq prog 46 #[U7 (some ⟨sb,0,none⟩),U5 By sp,U5 By lp,U2 r,U2 val] V λe V'=> ∃e1,e=BY (U5 By e1)/\A2 mb e1 V')(KX:∀mb e1 V,A2 mb e1 V->eq prog 54 #[U7 (some ⟨mb,0,none⟩),U2 r,U2 val] V λe V'=> ∃e2,e=BY (U5 By e2)/\A3 mb e1 e2 V'):
  eq prog 40 #[U7 (some ⟨sb,0,none⟩),U7 (some ⟨xb,0,none⟩),.agg (eI kd sp lp m r til val)] W λe W'=> ∃mb e1 e2 b,e=BY (U6 b)/\(e1=e2->b=true)/\A3 mb e1 e2 W':=by
 replace h0:=xh h0
 replace S0:=xh S0
 replace S1:=xh S1
 replace KO:=xh KO
 have HZ:=xh hz;clear hz;have CZ:=xh<|S0.o.c _ h0.o;have KM:=xh (λ(V:YB)=>kN (w:=V.alloc (WF #[U2 r,U2 til] 9)) (A:=some ⟨V.heap.size,0,none⟩) (n:=2) (c:=2) (rs:=[r,til]) sp lp ⟨rfl,.inr ⟨V.heap.size,2,[],rfl,aF.new _ _ _,rfl,by decide⟩⟩ (by omega))
 replace KM:=KM.o (W.alloc (WF #[U5 By kd,U5 By sp,U5 By lp,U5 By m,U2 r,U2 til,U2 val] 82))
 rw[decide_eq_true (p:=(0:Int)<=sp/\sp<=7/\(0:Int)<=lp/\lp<=5/\∀x∈[r,til],x.size<=30) ⟨by omega,by omega,by omega,by omega,by simp;omega⟩,gf,HZ.o]at KM;have KM:=xh KM;unfold eI at *;have y0:=CZ.ap 0;have y1:=CZ.ap 1;have y2:=CZ.ap 2;have y3:=CZ.ap 3;have y4:=CZ.ap 4;have y5:=CZ.ap 5;have y6:=CZ.ap 6;have jW:=HZ.o;have d1:¬kd=6:=by omega
 have d2:¬kd=7:=by omega
 have d3:¬kd=8:=by omega
 have c1:(kd==6)=false:=by simpa using d1
 have c2:(kd==7)=false:=by simpa using d2
 have c3:(kd==8)=false:=by simpa using d3
 replace S2:=xh S2
 replace S3:=xh S3
 replace KS:=xh KS
 replace KX:=xh KX
 clear gq;go_in;go_wp2_with fail;go_call KM.o as e w1 ⟨rfl,aO⟩;have cf:=aC (i6 _ (WF #[U2 r,U2 til] 9)) aO;have a1:=xh<|S0.o.b _ _ h0.o cf;have C1:=xh<|S0.o.c _ a1.o;clear aO cf y0 y1 y2 y3 y4 y5 y6;have y0:=C1.ap 0;have y1:=C1.ap 1;have y2:=C1.ap 2;go_wp2_with fail;go_call (KO.o _ a1.o) as e w2 ⟨mb,rfl,a2⟩
 replace a2:=xh a2
 have C2:=xh<|(S1.o mb).c _ a2.o;clear y0 y1 y2;have y0:=C2.ap 0;have y1:=C2.ap 1;have y2:=C2.ap 2;have y3:=C2.ap 3;have y4:=C2.ap 4;have y5:=C2.ap 5;have y6:=C2.ap 6
 rcases lA with rfl|rfl|rfl
 all_goals
  clear d1 d2 d3 c1 c2 c3;go_wp2_with fail;refine kw (λW=>W.cell? ⟨z,1,none⟩=some (U5 By sp)/\W.cell? ⟨z,2,none⟩=some (U5 By lp)/\W.cell? ⟨z,4,none⟩=some (U2 r)/\W.cell? ⟨z,6,none⟩=some (U2 val)) (⟨y1,y2,y4,y6⟩) (λau=>?_);refine dP [(0,130),(1,131),(2,132),(3,133),(4,134),(5,135),(6,136),(7,137),(8,138),(10,140),(11,141),(12,142),(13,143),(14,144)] ?_
  iterate 14 refine bJ ?_
  refine dI 9 139 λK hK=>?_;go_simp
  go_at_call 46
  go_call (KS.o mb _ ((S1.o mb).d a2.o)) as e w3 ⟨e1,rfl,a3⟩
  replace a3:=xh a3
  have C3:=xh<|(S2.o mb e1).c _ a3.o;go_simp;refine bn hK (⟨C3.ap 1,C3.ap 2,C3.ap 4,C3.ap 6⟩) (λau=>?_);refine dI 15 145 λK hK=>?_;go_simp
  go_at_call 54
  go_call (KX.o mb e1 _ a3.o) as e w4 ⟨e2,rfl,a4⟩
  replace a4:=xh a4
  have C4:=xh<|(S3.o mb e1 e2).c _ a4.o;go_simp;refine bn hK (⟨C4.ap 1,C4.ap 2,C4.ap 4,C4.ap 6⟩) (λau=>?_);refine dP [(16,146),(17,6)] ?_
  iterate 2 refine bJ ?_
  refine jp ?_ _;go_wp2;go_ret;exact⟨mb,e1,e2,_,by first|rfl|simp,λh=>by simp[h],a4.o⟩
theorem Sj(hz:W.heap.size=z)(S0:EH z (eI kd sp lp m r til val) A0)(h0:A0 (W.alloc (WF (eI kd sp lp m r til val) 82)))(gq:0<=sp/\sp<=7/\0<=lp/\lp<=5/\r.size<=30/\til.size<=30)(S1:∀mb,EH z (eI kd sp lp m r til val) (A1 mb))(KO:∀V,A0 V->eq prog 93 #[U7 (some ⟨xb,0,none⟩),U5 By sp,U5 By lp] V λe V'=> ∃mb,e=BY (U7 (some ⟨mb,0,none⟩))/\A1 mb V')(lA:kd=3){A2:Nat->Int->YB->Prop}(S2:∀mb e1,EH z (eI kd sp lp m r til val) (A2 mb e1)){A3:Nat->Int->Int->YB->Prop}(S3:∀mb e1 e2,EH z (eI kd sp lp m r til val) (A3 mb e1 e2))(KS:∀mb V,A1 mb V->eq prog 47 #[U7 (some ⟨sb,0,none⟩),U5 By sp,U5 By lp,U2 r] V λe V'=> ∃e1,e=BY (U5 By e1)/\A2 mb e1 V')(KX:∀mb e1 V,A2 mb e1 V->eq prog 55 #[U7 (some ⟨mb,0,none⟩),U2 r] V λe V'=> ∃e2,e=BY (U5 By e2)/\A3 mb e1 e2 V'):
  eq prog 40 #[U7 (some ⟨sb,0,none⟩),U7 (some ⟨xb,0,none⟩),.agg (eI kd sp lp m r til val)] W λe W'=> ∃mb e1 e2 b,e=BY (U6 b)/\(e1=e2->b=true)/\A3 mb e1 e2 W':=by
 replace h0:=xh h0
 replace S0:=xh S0
 replace S1:=xh S1
 replace KO:=xh KO
 have HZ:=xh hz;clear hz;have CZ:=xh<|S0.o.c _ h0.o;have KM:=xh (λ(V:YB)=>kN (w:=V.alloc (WF #[U2 r,U2 til] 9)) (A:=some ⟨V.heap.size,0,none⟩) (n:=2) (c:=2) (rs:=[r,til]) sp lp ⟨rfl,.inr ⟨V.heap.size,2,[],rfl,aF.new _ _ _,rfl,by decide⟩⟩ (by omega))
 replace KM:=KM.o (W.alloc (WF #[U5 By kd,U5 By sp,U5 By lp,U5 By m,U2 r,U2 til,U2 val] 82))
 rw[decide_eq_true (p:=(0:Int)<=sp/\sp<=7/\(0:Int)<=lp/\lp<=5/\∀x∈[r,til],x.size<=30) ⟨by omega,by omega,by omega,by omega,by simp;omega⟩,gf,HZ.o]at KM;have KM:=xh KM;unfold eI at *;have y0:=CZ.ap 0;have y1:=CZ.ap 1;have y2:=CZ.ap 2;have y3:=CZ.ap 3;have y4:=CZ.ap 4;have y5:=CZ.ap 5;have y6:=CZ.ap 6;have jW:=HZ.o;have d1:¬kd=6:=by omega
 have d2:¬kd=7:=by omega
 have d3:¬kd=8:=by omega
 have c1:(kd==6)=false:=by simpa using d1
 have c2:(kd==7)=false:=by simpa using d2
 have c3:(kd==8)=false:=by simpa using d3
 replace S2:=xh S2
 replace S3:=xh S3
 replace KS:=xh KS
 replace KX:=xh KX
 replace lA:=xh lA
 clear gq;go_in;go_wp2_with fail;go_call KM.o as e w1 ⟨rfl,aO⟩;have cf:=aC (i6 _ (WF #[U2 r,U2 til] 9)) aO;have a1:=xh<|S0.o.b _ _ h0.o cf;have C1:=xh<|S0.o.c _ a1.o;clear aO cf y0 y1 y2 y3 y4 y5 y6;have y0:=C1.ap 0;have y1:=C1.ap 1;have y2:=C1.ap 2;go_wp2_with fail;go_call (KO.o _ a1.o) as e w2 ⟨mb,rfl,a2⟩
 replace a2:=xh a2
 have C2:=xh<|(S1.o mb).c _ a2.o;clear y0 y1 y2;have y0:=C2.ap 0;have y1:=C2.ap 1;have y2:=C2.ap 2;have y3:=C2.ap 3;have y4:=C2.ap 4;have y5:=C2.ap 5;have y6:=C2.ap 6;have lA:=lA.o;subst lA;clear d1 d2 d3 c1 c2 c3;go_wp2_with fail
 refine kw (λW=>W.cell? ⟨z,1,none⟩=some (U5 By sp)/\W.cell? ⟨z,2,none⟩=some (U5 By lp)/\W.cell? ⟨z,4,none⟩=some (U2 r)) (⟨y1,y2,y4⟩) (λau=>?_);refine dP [(0,149),(1,150),(2,151),(3,152),(4,153),(5,154),(6,155),(8,157),(9,158),(10,159)] ?_
 iterate 10 refine bJ ?_
 refine dI 7 156 λK hK=>?_;go_simp
 go_at_call 47
 go_call (KS.o mb _ ((S1.o mb).d a2.o)) as e w3 ⟨e1,rfl,a3⟩
 replace a3:=xh a3
 have C3:=xh<|(S2.o mb e1).c _ a3.o;go_simp;refine bn hK (⟨C3.ap 1,C3.ap 2,C3.ap 4⟩) (λau=>?_);refine dI 11 160 λK hK=>?_;go_simp
 go_at_call 55
 go_call (KX.o mb e1 _ a3.o) as e w4 ⟨e2,rfl,a4⟩
 replace a4:=xh a4
 have C4:=xh<|(S3.o mb e1 e2).c _ a4.o;go_simp;refine bn hK (⟨C4.ap 1,C4.ap 2,C4.ap 4⟩) (λau=>?_);refine dP [(12,161),(13,6)] ?_
 iterate 2 refine bJ ?_
 refine jp ?_ _;go_wp2;go_ret;exact⟨mb,e1,e2,_,by first|rfl|simp,λh=>by simp[h],a4.o⟩
theorem Gz(hz:W.heap.size=z)(S0:EH z (eI kd sp lp m r til val) A0)(h0:A0 (W.alloc (WF (eI kd sp lp m r til val) 82)))(gq:0<=sp/\sp<=7/\0<=lp/\lp<=5/\r.size<=30/\til.size<=30)(S1:∀mb,EH z (eI kd sp lp m r til val) (A1 mb))(KO:∀V,A0 V->eq prog 93 #[U7 (some ⟨xb,0,none⟩),U5 By sp,U5 By lp] V λe V'=> ∃mb,e=BY (U7 (some ⟨mb,0,none⟩))/\A1 mb V')(lA:kd=5){A2:Nat->Int->Int->YB->Prop}(S2:∀mb e1 er,EH z (eI kd sp lp m r til val) (A2 mb e1 er)){A3:Nat->Int->Int->Int->YB->Prop}(S3:∀mb e1 er e2,EH z (eI kd sp lp m r til val) (A3 mb e1 er e2))(KS:∀mb V,A1 mb V->eq prog 44 #[U7 (some ⟨sb,0,none⟩),U5 By sp,U5 By lp,U2 r,U2 til] V λe V'=> ∃e1 er,e=BY (U8 #[U5 By e1,U5 By er])/\A2 mb e1 er V')(KX:∀mb e1 er V,A2 mb e1 er V->eq prog 56 #[U7 (some ⟨mb,0,none⟩),U2 r,U2 til] V λe V'=> ∃e2,e=BY (U5 By e2)/\A3 mb e1 er e2 V'):
  eq prog 40 #[U7 (some ⟨sb,0,none⟩),U7 (some ⟨xb,0,none⟩),.agg (eI kd sp lp m r til val)] W λe W'=> ∃mb e1 er e2 b,e=BY (U6 b)/\(e1=e2->er=0->b=true)/\A3 mb e1 er e2 W':=by
 replace h0:=xh h0
 replace S0:=xh S0
 replace S1:=xh S1
 replace KO:=xh KO
 have HZ:=xh hz;clear hz;have CZ:=xh<|S0.o.c _ h0.o;have KM:=xh (λ(V:YB)=>kN (w:=V.alloc (WF #[U2 r,U2 til] 9)) (A:=some ⟨V.heap.size,0,none⟩) (n:=2) (c:=2) (rs:=[r,til]) sp lp ⟨rfl,.inr ⟨V.heap.size,2,[],rfl,aF.new _ _ _,rfl,by decide⟩⟩ (by omega))
 replace KM:=KM.o (W.alloc (WF #[U5 By kd,U5 By sp,U5 By lp,U5 By m,U2 r,U2 til,U2 val] 82))
 rw[decide_eq_true (p:=(0:Int)<=sp/\sp<=7/\(0:Int)<=lp/\lp<=5/\∀x∈[r,til],x.size<=30) ⟨by omega,by omega,by omega,by omega,by simp;omega⟩,gf,HZ.o]at KM;have KM:=xh KM;unfold eI at *;have y0:=CZ.ap 0;have y1:=CZ.ap 1;have y2:=CZ.ap 2;have y3:=CZ.ap 3;have y4:=CZ.ap 4;have y5:=CZ.ap 5;have y6:=CZ.ap 6;have jW:=HZ.o;have d1:¬kd=6:=by omega
 have d2:¬kd=7:=by omega
 have d3:¬kd=8:=by omega
 have c1:(kd==6)=false:=by simpa using d1
 have c2:(kd==7)=false:=by simpa using d2
 have c3:(kd==8)=false:=by simpa using d3
 replace S2:=xh S2
 replace S3:=xh S3
 replace KS:=xh KS
 replace KX:=xh KX
 replace lA:=xh lA
 clear gq;go_in;go_wp2_with fail;go_call KM.o as e w1 ⟨rfl,aO⟩;have cf:=aC (i6 _ (WF #[U2 r,U2 til] 9)) aO;have a1:=xh<|S0.o.b _ _ h0.o cf;have C1:=xh<|S0.o.c _ a1.o;clear aO cf y0 y1 y2 y3 y4 y5 y6;have y0:=C1.ap 0;have y1:=C1.ap 1;have y2:=C1.ap 2;go_wp2_with fail;go_call (KO.o _ a1.o) as e w2 ⟨mb,rfl,a2⟩
 replace a2:=xh a2
 have C2:=xh<|(S1.o mb).c _ a2.o;clear y0 y1 y2;have y0:=C2.ap 0;have y1:=C2.ap 1;have y2:=C2.ap 2;have y3:=C2.ap 3;have y4:=C2.ap 4;have y5:=C2.ap 5;have y6:=C2.ap 6;have lA:=lA.o;subst lA;clear d1 d2 d3 c1 c2 c3;go_wp2_with fail;go_call (KS.o mb _ a2.o) as e w3 ⟨e1,er,rfl,a3⟩
 replace a3:=xh a3
 have C3:=xh<|(S2.o mb e1 er).c _ a3.o;clear y0 y1 y2 y3 y4 y5 y6;have y4:=C3.ap 4;have y5:=C3.ap 5;go_wp2_with fail;go_call (KX.o mb e1 er _ a3.o) as e w4 ⟨e2,rfl,a4⟩
 replace a4:=xh a4
 by_cases h1:e1=e2
 .subst h1
  by_cases h2:er=0
  .subst h2;go_wp2;go_ret;exact⟨mb,e1,0,e1,_,by first|rfl|simp,λ_ _=>by simp,a4.o⟩
  .have h3:(er==0)=false:=by simpa using h2
   go_wp2;go_ret;exact⟨mb,e1,er,e1,_,by first|rfl|simp,λ_ h=>absurd h h2,a4.o⟩
 .have h3:(e1==e2)=false:=by simpa using h1
  go_wp2;go_ret;exact⟨mb,e1,er,e2,_,by first|rfl|simp,λh=>absurd h h1,a4.o⟩
theorem MH(hz:W.heap.size=z)(S0:EH z (eI kd sp lp m r til val) A0)(h0:A0 (W.alloc (WF (eI kd sp lp m r til val) 82)))(gq:0<=sp/\sp<=7/\0<=lp/\lp<=5/\r.size<=30/\til.size<=30)(S1:∀mb,EH z (eI kd sp lp m r til val) (A1 mb))(KO:∀V,A0 V->eq prog 93 #[lc xb,sp,lp] V λe V'=> ∃mb,e=BY (lc mb)/\A1 mb V')(lA:¬(kd=0\/kd=1\/kd=2\/kd=3\/kd=5\/kd=6\/kd=7\/kd=8)){A3:Nat->Bool->YB->Prop}(KS:∀mb V,A1 mb V->eq prog 94 #[lc sb,lc mb,.agg (eI kd sp lp m r til val)] V λe V'=> ∃b,e=BY (U6 b)/\A3 mb b V'):
  eq prog 40 #[lc sb,lc xb,.agg (eI kd sp lp m r til val)] W λe W'=> ∃mb b,e=BY (U6 b)/\A3 mb b W':=by
 replace h0:=xh h0
 replace S0:=xh S0
 replace S1:=xh S1
 replace KO:=xh KO
 have HZ:=xh hz;clear hz;have CZ:=xh<|S0.o.c _ h0.o;have KM:=xh (λ(V:YB)=>kN (w:=V.alloc (WF #[U2 r,U2 til] 9)) (A:=some ⟨V.heap.size,0,none⟩) (n:=2) (c:=2) (rs:=[r,til]) sp lp ⟨rfl,.inr ⟨V.heap.size,2,[],rfl,aF.new _ _ _,rfl,by decide⟩⟩ (by omega))
 replace KM:=KM.o (W.alloc (WF #[kd,sp,lp,m,U2 r,U2 til,U2 val] 82))
 rw[decide_eq_true (p:=(0:Int)<=sp/\sp<=7/\(0:Int)<=lp/\lp<=5/\∀x∈[r,til],x.size<=30) ⟨by omega,by omega,by omega,by omega,by simp;omega⟩,gf,HZ.o]at KM;have KM:=xh KM;unfold eI at *;have y0:=CZ.ap 0;have y1:=CZ.ap 1;have y2:=CZ.ap 2;have y3:=CZ.ap 3;have y4:=CZ.ap 4;have y5:=CZ.ap 5;have y6:=CZ.ap 6;have jW:=HZ.o;have d1:¬kd=6:=by omega
 have d2:¬kd=7:=by omega
 have d3:¬kd=8:=by omega
 have c1:(kd==6)=false:=by simpa using d1
 have c2:(kd==7)=false:=by simpa using d2
 have c3:(kd==8)=false:=by simpa using d3
 replace KS:=xh KS
 have g0:¬kd=0:=by omega
 have g1:¬kd=1:=by omega
 have g2:¬kd=2:=by omega
 have g3:¬kd=3:=by omega
 have g5:¬kd=5:=by omega
 have k0:(kd==0)=false:=by simpa using g0
 have k1:(kd==1)=false:=by simpa using g1
 have k2:(kd==2)=false:=by simpa using g2
 have k3:(kd==3)=false:=by simpa using g3
 have k5:(kd==5)=false:=by simpa using g5
 clear lA;clear gq;go_in;go_wp2_with fail;go_call KM.o as e w1 ⟨rfl,aO⟩;have cf:=aC (i6 _ (WF #[U2 r,U2 til] 9)) aO;have a1:=xh<|S0.o.b _ _ h0.o cf;have C1:=xh<|S0.o.c _ a1.o;clear aO cf y0 y1 y2 y3 y4 y5 y6;have y0:=C1.ap 0;have y1:=C1.ap 1;have y2:=C1.ap 2;go_wp2_with fail;refine(KO.o _ a1.o).mono ?_
 rintro e w2 ⟨mb,rfl,a2⟩
 replace a2:=xh a2
 have C2:=xh<|(S1.o mb).c _ a2.o;clear y0 y1 y2;have y0:=C2.ap 0;have y1:=C2.ap 1;have y2:=C2.ap 2;have y3:=C2.ap 3;have y4:=C2.ap 4;have y5:=C2.ap 5;have y6:=C2.ap 6;go_wp2_with fail;go_call (KS.o mb _ a2.o) as e w3 ⟨b,rfl,a3⟩
 replace a3:=xh a3
 go_wp2;go_ret;exact⟨mb,b,by first|rfl|simp,a3.o⟩
end
variable{W:YB}{a b:rd}
theorem aM.wW{W':YB}{v:YO}{n:Nat}{l:List YO}(S:aM W 42 2 v n l)(h:jI W W'):aM W' 42 2 v n l:=by
 refine⟨S.1,?_⟩
 rcases S.2 with⟨e,h1⟩|⟨g,cap,rest,e,B,h1⟩
 .exact .inl ⟨e,h1⟩
 .exact .inr ⟨g,cap,rest,e,h _ _ _ B (.inr rfl),h1⟩
theorem GA(h:¬a=b):¬a.toList=b.toList:=λe=>h (by
 rw[bQ,bQ]at e;exact jQ (Array.ext' e))
theorem Ea(h:¬a=b):(a.toList==b.toList)=false:=by simpa using GA h
def sH(l:List PR):PR×Int:=match l.getLast? with
 |none=>((⟨#[]⟩,⟨#[]⟩),9)
 |some x=>(x,0)
theorem Eb{sb mb z:Nat}{kd sp lp m:Int}{r til val:rd}{p:List PR}{A:Nat->YB->Prop}(hz:W.heap.size=z)(S:∀i,EH z (eI kd sp lp m r til val) (A i))(h0:A 0 (W.alloc (WF (eI kd sp lp m r til val) 82)))(X:∀i V,A i V->∃v,Mp V mb v p)(hp:p.length<=1000){G1:rd->Int->Prop}{G2:List PR->Int->Prop}{G3:PR->Int->Prop}
 (KG:∀V,A 0 V->eq prog 42 #[U7 (some ⟨sb,0,none⟩),U5 By sp,U5 By lp,U2 r] V λe V'=> ∃b1 e1,e=BY (U8 #[U2 b1,U5 By e1])/\G1 b1 e1/\A 1 V')
 (KS:∀V,A 1 V->eq prog 41 #[U7 (some ⟨sb,0,none⟩),U5 By sp,U5 By lp,U2 r,U2 til,U5 By m] V λe V'=> ∃v l2 e2,e=BY (U8 #[v,U5 By e2])/\G2 l2 e2/\aM V' 42 2 v l2.length (iQ l2)/\l2.length<=1000000/\A 2 V')
 (KL:∀V,A 2 V->eq prog 43 #[U7 (some ⟨sb,0,none⟩),U5 By sp,U5 By lp,U2 r,U2 til] V λe V'=> ∃x e3,e=BY (U8 #[prV x,U5 By e3])/\G3 x e3/\jI V V'/\A 3 V'):
  eq prog 94 #[U7 (some ⟨sb,0,none⟩),U7 (some ⟨mb,0,none⟩),.agg (eI kd sp lp m r til val)] W λe W'=> ∃b,e=BY (U6 b)/\(∃b1 e1 l2 e2 x e3,G1 b1 e1/\G2 l2 e2/\G3 x e3/\((b1,e1)=cV p r->l2=fE r til m p->e2=0->(x,e3)=sH (fE r til 1099511627776 p)->b=true))/\A 3 W':=by
 obtain⟨mg,hmg⟩:∃mg,cV p r=mg:=⟨_,rfl⟩;have KM:=xh (λ(i:Nat) (V:YB) (a:A i V)=>show eq prog 107 #[U7 (some ⟨mb,0,none⟩),U2 r] V λe w'=>e=BY (U8 #[U2 (cV p r).1,U5 By (cV p r).2])/\i7 V w' from(X i V a).elim λ_ h=>DQ h r)
 have KSA:=xh (λ(i:Nat) (V:YB) (a:A i V)=>show eq prog 108 #[U7 (some ⟨mb,0,none⟩),U2 r,U2 til,U5 By 1099511627776] V λe w'=> ∃v',e=BY v'/\aM w' 42 2 v' (fE r til 1099511627776 p).length (iQ (fE r til 1099511627776 p))/\i7 V w'/\(∀g∈ah v',V.heap.size<=g)from(X i V a).elim λ_ h=>Gn h r til _)
 have KSN:=xh (λ(i:Nat) (V:YB) (a:A i V)=>show eq prog 108 #[U7 (some ⟨mb,0,none⟩),U2 r,U2 til,U5 By m] V λe w'=> ∃v',e=BY v'/\aM w' 42 2 v' (fE r til m p).length (iQ (fE r til m p))/\i7 V w'/\(∀g∈ah v',V.heap.size<=g)from(X i V a).elim λ_ h=>Gn h r til m);have hal1:(fE r til 1099511627776 p).length<=1000000:=by have:=nK r til 1099511627776 p p.length;rw[fX]at this;omega
 have hsn1:(fE r til m p).length<=1000000:=by have:=nK r til m p p.length;rw[fX]at this;omega
 rw[hmg]at KM;rw[hmg];obtain⟨al,iF⟩:∃al,fE r til 1099511627776 p=al:=⟨_,rfl⟩;obtain⟨sn,Xv⟩:∃sn,fE r til m p=sn:=⟨_,rfl⟩;rw[iF]at KSA hal1 ⊢;rw[Xv]at KSN hsn1 ⊢;have ou:=xh<|io hal1 hsn1;clear iF Xv hal1 hsn1 hmg;obtain⟨mv,me⟩:=mg;dsimp only at KM
 replace h0:=xh h0
 replace S:=xh S
 replace KG:=xh KG
 replace KS:=xh KS
 replace KL:=xh KL
 have HZ:=xh hz;clear X hp hz;have C0:=xh<|(S.o 0).c _ h0.o;unfold eI at *;have y1:=C0.ap 1;have y2:=C0.ap 2;have y3:=C0.ap 3;have y4:=C0.ap 4;have y5:=C0.ap 5;have jW:=HZ.o;unfold prV at KL;go_in;go_wp2_with fail;go_call (KG.o _ h0.o) as e w1 ⟨b1,e1,rfl,g1,a1⟩;have g1:=xh g1
 replace a1:=xh a1
 have C1:=xh<|(S.o 1).c _ a1.o;clear y1 y2 y3 y4 y5;have y1:=C1.ap 1;have y2:=C1.ap 2;have y3:=C1.ap 3;have y4:=C1.ap 4;have y5:=C1.ap 5;go_wp2_with fail;go_call (KM.o 1 _ a1.o) as e w2 ⟨rfl,cf⟩;have a2:=xh<|(S.o 1).b _ _ a1.o cf;have C2:=xh<|(S.o 1).c _ a2.o;clear cf;clear y1 y2 y3 y4 y5;have y1:=C2.ap 1
 have y2:=C2.ap 2;have y3:=C2.ap 3;have y4:=C2.ap 4;have y5:=C2.ap 5;go_wp2_with fail;go_call (KS.o _ a2.o) as e w3 ⟨vs,l2,e2,rfl,g2,s3,JI,a3⟩;have g2:=xh g2;have HL2:=xh JI
 replace a3:=xh a3
 have C3:=xh<|(S.o 2).c _ a3.o;obtain⟨As,cs,rfl⟩:=ax s3;have s3:=xh s3;clear JI;clear y1 y2 y3 y4 y5;have y1:=C3.ap 1;have y2:=C3.ap 2;have y3:=C3.ap 3;have y4:=C3.ap 4;have y5:=C3.ap 5;go_wp2_with fail;go_call (KL.o _ a3.o) as e w4 ⟨x,e3,rfl,g3,f4,a4⟩;have g3:=xh g3
 replace a4:=xh a4
 obtain⟨xk,xv⟩:=x;have s4:=xh<|aM.wW s3.o f4;clear f4;have mK:=i6 w4 (WF #[U2 xk,U2 xv] 42);have B5:=xh<|aF.new w4 42 #[U2 xk,U2 xv];have a5:=xh<|(S.o 3).b _ _ a4.o mK;have C5:=xh<|(S.o 3).c _ a5.o;have s5:=xh<|s4.o.below mK;obtain⟨pb,hpb⟩:∃pb,w4.heap.size=pb:=⟨_,rfl⟩;rw[hpb]at B5;have HPB:=xh hpb;clear mK hpb;clear y1 y2 y3 y4 y5;have y1:=C5.ap 1
 have y2:=C5.ap 2;have y3:=C5.ap 3;have y4:=C5.ap 4;have y5:=C5.ap 5;have hboxed2:=HPB.o;dsimp only;go_wp2_with fail;go_call (KSA.o 3 _ a5.o) as e w6 ⟨va,rfl,sa,zI,f6⟩;have a6:=xh<|(S.o 3).b _ _ a5.o zI;have C6:=xh<|(S.o 3).c _ a6.o;have B6:=xh<|B5.o.below zI B5.o.lt;have s6:=xh<|s5.o.below zI;obtain⟨Aa,ca,rfl⟩:=ax sa;have sa:=xh sa
 clear zI f6 hboxed2;clear y1 y2 y3 y4 y5;have y1:=C6.ap 1;have y2:=C6.ap 2;have y3:=C6.ap 3;have y4:=C6.ap 4;have y5:=C6.ap 5
 by_cases q1:b1=mv
 .subst q1
  by_cases q2:e1=me
  .subst q2
   by_cases q3:e2=0
   .subst q3;go_wp2_with fail;go_call (KSN.o 3 _ a6.o) as e w7 ⟨vn,rfl,sn7,tW,f7⟩;have a7:=xh<|(S.o 3).b _ _ a6.o tW;have B7:=xh<|B6.o.below tW B6.o.lt;have s7:=xh<|s6.o.below tW;have sa7:=xh<|sa.o.below tW;obtain⟨An,cn,rfl⟩:=ax sn7;obtain⟨bs,hbs⟩:∃bs:Bool,bs=true↔l2=sn:=by
     by_cases h:l2=sn
     .exact⟨true,by simp[h]⟩
     .exact⟨false,by simp[h]⟩
    have KE:=xh<|Mk s7.o sn7 HL2.o ou.o.2 bs hbs;have HBS:=xh hbs;clear tW f7 sn7 hbs y1 y2 y3 y4 y5;go_wp2_with fail;go_call KE.o as e w8 ⟨rfl,Ai⟩;have a8:=xh<|(S.o 3).b _ _ a7.o Ai;have B8:=xh<|B7.o.below Ai B7.o.lt;have sa8:=xh<|sa7.o.below Ai;clear Ai KE;have p0:=B8.ap 0;have p1:=B8.ap 1
    cases bs
    .skip
     go_wp2;go_ret;exact⟨_,by first|rfl|simp,⟨b1,e1,l2,0,(xk,xv),e3,g1.o,g2.o,g3.o,λh1 h2 h3 h4=>absurd (HBS.o.2 h2) (by simp)⟩,a8.o⟩
    .skip
     rcases ux al with iF|⟨L9,b9,iF⟩
     .subst iF
      by_cases q5:e3=9
      .subst q5
       by_cases u1:xk=⟨#[]⟩
       .subst u1
        by_cases u2:xv=⟨#[]⟩
        .subst u2;go_wp2;go_ret;exact⟨_,by first|rfl|simp,⟨b1,e1,l2,0,(⟨#[]⟩,⟨#[]⟩),9,g1.o,g2.o,g3.o,λh1 h2 h3 h4=>by first|rfl|simp⟩,a8.o⟩
        .have u3:=GA u2;have u4:=Ea u2;have u5:¬xv.toList=[]:=λe=>u3 (by rw[e,bQ]);have h4n:=g9 (¬(((⟨#[]⟩:rd),xv),(9:Int))=sH []) (λh=>u2 (congrArg (λx=>x.1.2) h))
         replace u2:=xh u2
         go_wp2;go_ret;exact⟨_,by first|rfl|simp,⟨b1,e1,l2,0,(⟨#[]⟩,xv),9,g1.o,g2.o,g3.o,λh1 h2 h3 h4=>absurd h4 h4n.o⟩,a8.o⟩
       .have u3:=GA u1;have u4:=Ea u1;have u5:¬xk.toList=[]:=λe=>u3 (by rw[e,bQ]);have h4n:=g9 (¬((xk,xv),(9:Int))=sH []) (λh=>u1 (congrArg (λx=>x.1.1) h))
        replace u1:=xh u1
        go_wp2;go_ret;exact⟨_,by first|rfl|simp,⟨b1,e1,l2,0,(xk,xv),9,g1.o,g2.o,g3.o,λh1 h2 h3 h4=>absurd h4 h4n.o⟩,a8.o⟩
      .have q6:(e3==9)=false:=by simpa using q5
       go_wp2;go_ret;exact⟨_,by first|rfl|simp,⟨b1,e1,l2,0,(xk,xv),e3,g1.o,g2.o,g3.o,λh1 h2 h3 h4=>absurd (congrArg Prod.snd h4) (by show ¬e3=9;exact q5)⟩,a8.o⟩
     .rw[List.concat_eq_append]at iF;subst iF;obtain⟨ln,oy⟩:∃ln,(L9++[b9]).length=ln:=⟨_,rfl⟩;have hln2:ln=L9.length+1:=by rw[<-oy];simp
      have S9:=sa8.o;rw[oy]at S9;obtain⟨ga,xa,rfl,hxa,hca,vr,c0,c1⟩:=aM.pr S9 (i:=L9.length) (by omega);rw[List.getElem?_concat_length]at hxa;injection hxa with hxa
      subst hxa;obtain⟨ak,av⟩:=b9;dsimp only at c0 c1;have hll9:=ou.o.1;rw[oy]at hll9;have hn0:¬(ln:Int)=0:=by omega
      have hn1:¬ln=0:=by omega
      have s1:IntKind.i64.wrap ((ln:Int)-1)=(L9.length:Int):=by rw[hln2,show(((L9.length+1:Nat):Int)-1)=(L9.length:Int) by omega];exact dl
      have s2:L9.length<ln:=by omega
      have s3':(L9.length:Int)<(ln:Int):=by omega
      have s4':(0:Int)<=(L9.length:Int):=by omega
      have HG:sH (L9++[(ak,av)])=((ak,av),0):=by unfold sH;rw[List.getLast?_concat]
      have HG:=xh HG;rw[oy]
      replace oy:=xh oy
      replace hln2:=xh hln2
      clear S9
      by_cases q5:e3=0
      .subst q5
       by_cases u1:xk=ak
       .subst u1
        by_cases u2:xv=av
        .subst u2;go_wp2_with fail;refine kw (λW=>W.cell? ⟨pb,0,none⟩=some (U2 xk)/\W.cell? ⟨pb,1,none⟩=some (U2 xv)/\W.cell? ⟨ga,L9.length*2,none⟩=some (U2 xk)/\W.cell? ⟨ga,L9.length*2+1,none⟩=some (U2 xv)) (⟨p0,p1,c0,c1⟩) (λau=>?_);refine dP [(0,103),(1,104),(2,105),(3,106),(4,107),(5,108),(6,109),(7,110),(8,111),(9,112),(10,113),(11,114),(12,6)] ?_
         iterate 13 refine bJ ?_
         refine jp ?_ _;go_simp;go_wp2;go_ret;exact⟨true,by first|rfl|simp,⟨b1,e1,l2,0,(xk,xv),0,g1.o,g2.o,g3.o,λh1 h2 h3 h4=>rfl⟩,(S.o 3).d a8.o⟩
        .have u3:=GA u2;have u4:=Ea u2;have h4n:=g9 (¬((xk,xv),(0:Int))=sH (L9++[(xk,av)])) (λh=>by rw[HG.o]at h;exact u2 (congrArg (λx=>x.1.2) h))
         replace u2:=xh u2
         go_wp2_with fail;refine kw (λW=>W.cell? ⟨pb,0,none⟩=some (U2 xk)/\W.cell? ⟨pb,1,none⟩=some (U2 xv)/\W.cell? ⟨ga,L9.length*2,none⟩=some (U2 xk)/\W.cell? ⟨ga,L9.length*2+1,none⟩=some (U2 av)) (⟨p0,p1,c0,c1⟩) (λau=>?_);refine dP [(0,103),(1,104),(2,105),(3,106),(4,107),(5,108),(6,109),(7,110),(8,111),(9,112),(10,113),(11,114),(12,6)] ?_
         iterate 13 refine bJ ?_
         refine jp ?_ _;go_simp;go_wp2;go_ret;exact⟨false,by first|rfl|simp,⟨b1,e1,l2,0,(xk,xv),0,g1.o,g2.o,g3.o,λh1 h2 h3 h4=>absurd h4 h4n.o⟩,(S.o 3).d a8.o⟩
       .have u3:=GA u1;have u4:=Ea u1;have h4n:=g9 (¬((xk,xv),(0:Int))=sH (L9++[(ak,av)])) (λh=>by rw[HG.o]at h;exact u1 (congrArg (λx=>x.1.1) h))
        replace u1:=xh u1
        go_wp2_with fail;refine kw (λW=>W.cell? ⟨pb,0,none⟩=some (U2 xk)/\W.cell? ⟨pb,1,none⟩=some (U2 xv)/\W.cell? ⟨ga,L9.length*2,none⟩=some (U2 ak)/\W.cell? ⟨ga,L9.length*2+1,none⟩=some (U2 av)) (⟨p0,p1,c0,c1⟩) (λau=>?_);refine dP [(0,103),(1,104),(2,105),(3,106),(4,107),(5,108),(6,109),(7,110),(8,111),(9,112),(10,113),(11,114),(12,6)] ?_
        iterate 13 refine bJ ?_
        refine jp ?_ _;go_simp;go_wp2;go_ret;exact⟨false,by first|rfl|simp,⟨b1,e1,l2,0,(xk,xv),0,g1.o,g2.o,g3.o,λh1 h2 h3 h4=>absurd h4 h4n.o⟩,(S.o 3).d a8.o⟩
      .have q6:(e3==0)=false:=by simpa using q5
       go_wp2_with fail;refine kw (λ_=>True) (trivial) (λau=>?_);refine dP [(0,103),(1,104),(2,105)] ?_
       iterate 3 refine bJ ?_
       refine cL 3 106 ?_;refine cL 4 107 ?_;refine cL 5 108 ?_;refine cL 6 109 ?_;refine cL 7 110 ?_;refine cL 8 111 ?_;refine cL 9 112 ?_;refine cL 10 113 ?_;refine dP [(11,114),(12,6)] ?_
       iterate 2 refine bJ ?_
       refine jp ?_ _;go_simp;go_wp2;go_ret;exact⟨false,by first|rfl|simp,⟨b1,e1,l2,0,(xk,xv),e3,g1.o,g2.o,g3.o,λh1 h2 h3 h4=>by rw[HG.o]at h4;exact absurd (congrArg Prod.snd h4) (by show ¬e3=0;exact q5)⟩,(S.o 3).d a8.o⟩
   .have q4:(e2==0)=false:=by simpa using q3
    go_wp2;go_ret;exact⟨_,by first|rfl|simp,⟨b1,e1,l2,e2,(xk,xv),e3,g1.o,g2.o,g3.o,λh1 h2 h3 h4=>absurd h3 q3⟩,a6.o⟩
  .have q4:(e1==me)=false:=by simpa using q2
   go_wp2;go_ret;exact⟨_,by first|rfl|simp,⟨b1,e1,l2,e2,(xk,xv),e3,g1.o,g2.o,g3.o,λh1 h2 h3 h4=>absurd (congrArg Prod.snd h1) (by show ¬e1=me;exact q2)⟩,a6.o⟩
 .have q2:=GA q1;have q3:=Ea q1;go_wp2;go_ret;exact⟨_,by first|rfl|simp,⟨b1,e1,l2,e2,(xk,xv),e3,g1.o,g2.o,g3.o,λh1 h2 h3 h4=>absurd (congrArg Prod.fst h1) (by show ¬b1=mv;exact q1)⟩,a6.o⟩
end Sh
namespace Sh
open Go.RowKit Pk Dk Pg
variable{V V':YB}
def MV(w W:YB)(sb tb xb:Nat)(I:Ix)(M:List PR)(L:List De)(k K z:Nat)(cs:Array YO)(V:YB):Prop:=
 SY w V sb tb I M k K/\DX V w.heap.size xb L/\jI W V/\aF V z 82 cs
def Z2(w W:YB)(sb tb xb:Nat)(I:Ix)(M:List PR)(L:List De)(k K s l z:Nat)(cs:Array YO)(mb:Nat)(V:YB):Prop:=
 ∃L2,SY w V sb tb I M k K/\DX V w.heap.size xb L2/\Rl M L2/\(((s:Int),(l:Int),mb),aE s l M)∈L2/\jI W V/\L2.length<=L.length+1/\aF V z 82 cs
def AfS(w W:YB)(sb tb xb:Nat)(I:Ix)(M:List PR)(L:List De)(k K s l z:Nat)(cs:Array YO)(p':List PR)(ok:Prop)(mb:Nat)(V:YB):Prop:=
 ok/\∃L2 M',SY w V sb tb I M' k K/\DX V w.heap.size xb L2/\Rl M L2/\(((s:Int),(l:Int),mb),aE s l M)∈L2/\aE s l M'=p'/\EG s l M M'/\jI W V/\L2.length<=L.length+1/\aF V z 82 cs
def Vk(w W:YB)(sb tb xb:Nat)(I:Ix)(M:List PR)(L:List De)(k K z:Nat)(kd sp lp:Int)(cs:Array YO)(ok:Prop)(V:YB):Prop:=
 ok/\Sg w W V sb tb xb I M L k K kd sp lp/\aF V z 82 cs
section
variable{w W:YB}{sb tb xb:Nat}{I:Ix}{M:List PR}{L:List De}{k K s l z:Nat}{cs:Array YO}{p':List PR}{ok:Prop}{mb:Nat}{kd sp lp:Int}
theorem Sg.below(h:Sg w W V sb tb xb I M L k K kd sp lp)(hb:i7 V V'):Sg w W V' sb tb xb I M L k K kd sp lp:=by
 obtain⟨M',L',a,b,c,d,e,f⟩:=h;exact⟨M',L',a.below hb,b.below hb,c,d,e.trans (jI.below hb),f⟩
theorem MV.st:EH z cs (MV w W sb tb xb I M L k K z cs):=
 ⟨λV V' ⟨a,b,c,d⟩ hb=>⟨a.below hb,b.below hb,c.trans (jI.below hb),d.below hb d.lt⟩,λV h=>h.2.2.2⟩
theorem Z2.st:EH z cs (Z2 w W sb tb xb I M L k K s l z cs mb):=
 ⟨λV V' ⟨L2,a,b,c,d,e,f,g⟩ hb=>⟨L2,a.below hb,b.below hb,c,d,e.trans (jI.below hb),f,g.below hb g.lt⟩,λV ⟨L2,a,b,c,d,e,f,g⟩=>g⟩
theorem AfS.st:EH z cs (AfS w W sb tb xb I M L k K s l z cs p' ok mb):=
 ⟨λV V' ⟨o,L2,M',a,b,c,d,h1,h2,e,f,g⟩ hb=>⟨o,L2,M',a.below hb,b.below hb,c,d,h1,h2,e.trans (jI.below hb),f,g.below hb g.lt⟩,λV ⟨o,L2,M',a,b,c,d,h1,h2,e,f,g⟩=>g⟩
theorem Vk.st:EH z cs (Vk w W sb tb xb I M L k K z kd sp lp cs ok):=
 ⟨λV V' ⟨o,d,g⟩ hb=>⟨o,d.below hb,g.below hb g.lt⟩,λV h=>h.2.2⟩
theorem MV.of(hn:L.length<=1000)(R:Rl M L)(hs:s<=7)(hl:l<=5)(V:YB)(h:MV w W sb tb xb I M L k K z cs V):
  eq prog 93 #[lc xb,(s:Nat),(l:Nat)] V λe V'=> ∃mb,e=BY (lc mb)/\Z2 w W sb tb xb I M L k K s l z cs mb V':=by
 obtain⟨a,b,c,d⟩:=h;go_call (a.mQ b R (by omega) hs hl) as e V' ⟨mb,L',r,h1,h2,h3,h4,h5,h6⟩;exact⟨mb,r,L',h1,h2,h3,h4,c.trans h5,h6,h5 _ _ _ d (.inl rfl)⟩
theorem Vk.fin{k' K':Nat}{L2:List De}{M':List PR}(lA:¬(kd=6\/kd=7))(hk:k'<=k+1)(hs:s<=7)(hl:l<=5)(b:DX V w.heap.size xb L2)(c:Rl M L2)(d:(((s:Int),(l:Int),mb),aE s l M)∈L2)(h1:aE s l M'=p')(h2:EG s l M M')(e:jI W V)(f:L2.length<=L.length+1)(g:aF V z 82 cs)(hK:K<=K')
 (x1:SY w V' sb tb I M' k' K)(x2:DX V' w.heap.size xb (oA L2 mb p'))(x3:jI V V')(ho:ok):Vk w W sb tb xb I M L k K' z kd (s:Nat) (l:Nat) cs ok V':=by
 refine⟨ho,⟨M',_,x1.le hk hK,x2,c.upd b hs hl d h2 h1,λs' l' Jn DO hT=>h2 s' l' Jn DO λhh=>hT (.inr ⟨lA,by rw[hh.1],by rw[hh.2]⟩),e.trans x3,?_⟩,x3 _ _ _ g (.inl rfl)⟩;unfold oA;rw[bM];omega
end
section
variable{w W:YB}{sb tb xb:Nat}{I:Ix}{M:List PR}{L:List De}{k K s l:Nat}(h:SY w W sb tb I M k K)(D:DX W w.heap.size xb L)(R:Rl M L)(hn:L.length<=1000)(hk:k<=30)(hK:K<=999000000000)(kd m:Int)(r til val:rd)(gZ:r.size<=30/\til.size<=30/\val.size<=100000)(hs:s<=7)(hl:l<=5)
include h D R hn hk hK gZ hs hl
theorem do_set(lA:kd=0\/kd=1\/kd=2):
  eq prog 40 #[lc sb,lc xb,.agg (eI kd (s:Nat) (l:Nat) m r til val)] W λe W'=>e=BY (U6 true)/\Sg w W W' sb tb xb I M L k (K+40000000) kd (s:Nat) (l:Nat):=by
 obtain⟨h0,D0,F0,B0⟩:=h.act D kd (s:Nat) (l:Nat) m r til val;have hlen:=h.zR.2;refine(Si (sb:=sb) (xb:=xb) (sp:=(s:Nat)) (lp:=(l:Nat)) (m:=m) (r:=r) (til:=til) (val:=val) (A0:=MV w W sb tb xb I M L k K W.heap.size (eI kd (s:Nat) (l:Nat) m r til val)) (A1:=Z2 w W sb tb xb I M L k K s l W.heap.size (eI kd (s:Nat) (l:Nat) m r til val)) rfl MV.st ⟨h0,D0,F0,B0⟩ (by omega) (λmb=>Z2.st) (MV.of hn R hs hl) lA
  (A2:=λmb e1=>AfS w W sb tb xb I M L (k+1) (K+100) s l W.heap.size (eI kd (s:Nat) (l:Nat) m r til val) (qT (aE s l M) r val) (e1=if 32<r.size\/1024<val.size then 4 else 0) mb) (λmb e=>AfS.st)
  (A3:=λmb e1 e2=>Vk w W sb tb xb I M L k (K+40000000) W.heap.size kd (s:Nat) (l:Nat) (eI kd (s:Nat) (l:Nat) m r til val) (e1=e2)) (λmb e1 e2=>Vk.st) ?_ ?_).mono ?_
 .rintro mb V ⟨L2,a,b,c,d,e,f,g⟩;go_call (a.Jd b hk (by omega) hs hl r val gZ.1 gZ.2.2) as e' V' ⟨rfl,M',h1,h2,h3,h4,h5⟩;exact⟨_,rfl,rfl,L2,M',h1,h2,c,d,h3,h4,e.trans h5,f,h5 _ _ _ g (.inl rfl)⟩
 .intro mb e1 V hA;have hA':=hA;obtain⟨o,L2,M',a,b,c,d,h1,h2,e,f,g⟩:=hA';have vL:=ly s l M;go_call (a.mG b d (by omega) r val (by omega) (by omega)) as e' V' ⟨rfl,x1,x2,x3⟩;exact⟨_,rfl,Vk.fin (by omega) (ai _) hs hl b c d h1 h2 e f g (by omega) x1 x2 x3 o⟩
 .rintro e W' ⟨mb,e1,e2,b,rfl,hb,he,hd,_⟩;rw[hb he];exact⟨rfl,hd⟩
theorem do_del(lA:kd=3):
  eq prog 40 #[lc sb,lc xb,.agg (eI kd (s:Nat) (l:Nat) m r til val)] W λe W'=>e=BY (U6 true)/\Sg w W W' sb tb xb I M L k (K+40000000) kd (s:Nat) (l:Nat):=by
 obtain⟨h0,D0,F0,B0⟩:=h.act D kd (s:Nat) (l:Nat) m r til val;have hlen:=h.zR.2;have vL:=ly s l M;refine(Sj (sb:=sb) (xb:=xb) (sp:=(s:Nat)) (lp:=(l:Nat)) (m:=m) (r:=r) (til:=til) (val:=val) (A0:=MV w W sb tb xb I M L k K W.heap.size (eI kd (s:Nat) (l:Nat) m r til val)) (A1:=Z2 w W sb tb xb I M L k K s l W.heap.size (eI kd (s:Nat) (l:Nat) m r til val)) rfl MV.st ⟨h0,D0,F0,B0⟩ (by omega) (λmb=>Z2.st) (MV.of hn R hs hl) lA
  (A2:=λmb e1=>AfS w W sb tb xb I M L k (K+700) s l W.heap.size (eI kd (s:Nat) (l:Nat) m r til val) (uo (aE s l M) r) (e1=if um (aE s l M) r=true then 0 else 9) mb) (λmb e=>AfS.st)
  (A3:=λmb e1 e2=>Vk w W sb tb xb I M L k (K+40000000) W.heap.size kd (s:Nat) (l:Nat) (eI kd (s:Nat) (l:Nat) m r til val) (e1=e2)) (λmb e1 e2=>Vk.st) ?_ ?_).mono ?_
 .rintro mb V ⟨L2,a,b,c,d,e,f,g⟩;go_call (a.Je b hk (by omega) hs hl r gZ.1) as e' V' ⟨rfl,M',h1,h2,h3,h4,h5⟩;exact⟨_,rfl,rfl,L2,M',h1,h2,c,d,h3,h4,e.trans h5,f,h5 _ _ _ g (.inl rfl)⟩
 .rintro mb e1 V ⟨o,L2,M',a,b,c,d,h1,h2,e,f,g⟩;go_call (a.pU b d r) as e' V' ⟨rfl,x1,x2,x3⟩;exact⟨_,rfl,Vk.fin (by omega) (by omega) hs hl b c d h1 h2 e f g (by omega) x1 x2 x3 o⟩
 .rintro e W' ⟨mb,e1,e2,b,rfl,hb,he,hd,_⟩;rw[hb he];exact⟨rfl,hd⟩
theorem Z6(lA:kd=5):
  eq prog 40 #[lc sb,lc xb,.agg (eI kd (s:Nat) (l:Nat) m r til val)] W λe W'=>e=BY (U6 true)/\Sg w W W' sb tb xb I M L k (K+40000000) kd (s:Nat) (l:Nat):=by
 obtain⟨h0,D0,F0,B0⟩:=h.act D kd (s:Nat) (l:Nat) m r til val;have hlen:=h.zR.2;have vL:=ly s l M;refine(Gz (sb:=sb) (xb:=xb) (sp:=(s:Nat)) (lp:=(l:Nat)) (m:=m) (r:=r) (til:=til) (val:=val) (A0:=MV w W sb tb xb I M L k K W.heap.size (eI kd (s:Nat) (l:Nat) m r til val)) (A1:=Z2 w W sb tb xb I M L k K s l W.heap.size (eI kd (s:Nat) (l:Nat) m r til val)) rfl MV.st ⟨h0,D0,F0,B0⟩ (by omega) (λmb=>Z2.st) (MV.of hn R hs hl) lA
  (A2:=λmb e1 er=>AfS w W sb tb xb I M L k (K+30000000) s l W.heap.size (eI kd (s:Nat) (l:Nat) m r til val) (lZ r til (aE s l M)) (e1=((aE s l M).length:Int)-(lZ r til (aE s l M)).length/\er=0) mb) (λmb e er=>AfS.st)
  (A3:=λmb e1 er e2=>Vk w W sb tb xb I M L k (K+40000000) W.heap.size kd (s:Nat) (l:Nat) (eI kd (s:Nat) (l:Nat) m r til val) (e1=e2/\er=0)) (λmb e1 er e2=>Vk.st) ?_ ?_).mono ?_
 .rintro mb V ⟨L2,a,b,c,d,e,f,g⟩;go_call (a.yI b hk (by omega) hs hl r til gZ.1 gZ.2.1) as e' V' ⟨rfl,M',h1,h2,h3,h4,h5⟩;exact⟨_,_,rfl,⟨rfl,rfl⟩,L2,M',h1,h2,c,d,h3,h4,e.trans h5,f,h5 _ _ _ g (.inl rfl)⟩
 .rintro mb e1 er V ⟨o,L2,M',a,b,c,d,h1,h2,e,f,g⟩;go_call (a.l5 b d r til) as e' V' ⟨rfl,x1,x2,x3⟩;exact⟨_,rfl,Vk.fin (by omega) (by omega) hs hl b c d h1 h2 e f g (by omega) x1 x2 x3 o⟩
 .rintro e W' ⟨mb,e1,er,e2,b,rfl,hb,⟨he,vN⟩,hd,_⟩;rw[hb he vN];exact⟨rfl,hd⟩
theorem do_asks(lA:¬(kd=0\/kd=1\/kd=2\/kd=3\/kd=5\/kd=6\/kd=7\/kd=8)):
  eq prog 40 #[lc sb,lc xb,.agg (eI kd (s:Nat) (l:Nat) m r til val)] W λe W'=>e=BY (U6 true)/\Sg w W W' sb tb xb I M L k (K+40000000) kd (s:Nat) (l:Nat):=by
 obtain⟨h0,D0,F0,B0⟩:=h.act D kd (s:Nat) (l:Nat) m r til val;have hlen:=h.zR.2;have vL:=ly s l M;refine(MH (sb:=sb) (xb:=xb) (sp:=(s:Nat)) (lp:=(l:Nat)) (m:=m) (r:=r) (til:=til) (val:=val) (A0:=MV w W sb tb xb I M L k K W.heap.size (eI kd (s:Nat) (l:Nat) m r til val)) (A1:=Z2 w W sb tb xb I M L k K s l W.heap.size (eI kd (s:Nat) (l:Nat) m r til val)) rfl MV.st ⟨h0,D0,F0,B0⟩ (by omega) (λmb=>Z2.st) (MV.of hn R hs hl) lA
  (A3:=λmb b V=>b=true/\Sg w W V sb tb xb I M L k (K+40000000) kd (s:Nat) (l:Nat)) ?_).mono ?_
 .rintro mb V ⟨L2,a,b,c,d,e,f,g⟩;obtain⟨a0,b0,f0,c0⟩:=a.act b kd (s:Nat) (l:Nat) m r til val;refine(Eb (sb:=sb) (mb:=mb) (p:=aE s l M) (A:=λi V'=>SY w V' sb tb I M k (K+i*300000)/\DX V' w.heap.size xb L2/\jI W V'/\aF V' V.heap.size 82 (eI kd (s:Nat) (l:Nat) m r til val)) rfl (λi=>⟨λV V' ⟨a,b,c,d⟩ hb=>⟨a.below hb,b.below hb,c.trans (jI.below hb),d.below hb d.lt⟩,λV h=>h.2.2.2⟩) ⟨a0,b0,e.trans f0,c0⟩ (λi V' h=>h.2.1.m _ d) (by omega)
   (G1:=λx y=>(x,y)=cV (aE s l M) r) (G2:=λx y=>x=fE r til m (aE s l M)/\y=0) (G3:=λx y=>(x,y)=sH (fE r til 1099511627776 (aE s l M))) ?_ ?_ ?_).mono ?_
  .rintro V1 ⟨a1,b1,e1,g1⟩;go_call (a1.qp b1 hk (by omega) hs hl r gZ.1) as e' V' ⟨rfl,x1,x2,x3⟩;exact⟨_,_,rfl,rfl,x1.le (ai _) (by omega),x2,e1.trans x3,x3 _ _ _ g1 (.inl rfl)⟩
  .rintro V1 ⟨a1,b1,e1,g1⟩;go_call (a1.pW b1 hk (by omega) hs hl r til gZ.1 gZ.2.1 m) as e' V' ⟨v,rfl,S,x1,x2,x3,_⟩;have hlen2:=nK r til m (aE s l M) (aE s l M).length;rw[fX]at hlen2;exact⟨v,_,_,rfl,⟨rfl,rfl⟩,S,by omega,x1.le (ai _) (by omega),x2,e1.trans x3,x3 _ _ _ g1 (.inl rfl)⟩
  .rintro V1 ⟨a1,b1,e1,g1⟩;go_call (a1.D9 b1 hk (by omega) hs hl r til gZ.1 gZ.2.1) as e' V' ⟨x,er,rfl,hx,x1,x2,x3⟩;exact⟨x,er,rfl,hx,x3,x1.le (ai _) (by omega),x2,e1.trans x3,x3 _ _ _ g1 (.inl rfl)⟩
  .rintro e' V' ⟨bb,rfl,⟨b1,e1,l2,e2,x,e3,q1,⟨q2,q3⟩,q4,q5⟩,x1,x2,x3,x4⟩;exact⟨bb,rfl,q5 q1 q2 q3 q4,M,L2,x1.le (by omega) (by omega),x2,c,λ_ _ _ _ _=>rfl,x3,by omega⟩
 .rintro e W' ⟨mb,b,rfl,rfl,hd⟩;exact⟨rfl,hd⟩
end
theorem do_any{w W:YB}{sb tb xb:Nat}{I:Ix}{M:List PR}{L:List De}{k K:Nat}(h:SY w W sb tb I M k K)(D:DX W w.heap.size xb L)(R:Rl M L)(hn:L.length<=1000)(hk:k<=30)(hK:K<=999000000000)(kd sp lp m:Int)(r til val:rd)(gZ:r.size<=100000/\val.size<=100000)(hm: -9223372036854775808<=m/\m<=9223372036854775807):
  eq prog 40 #[lc sb,lc xb,.agg (eI kd sp lp m r til val)] W λe W'=>e=BY (U6 true)/\Sg w W W' sb tb xb I M L k (K+40000000) kd sp lp:=by
 by_cases h67:kd=6\/kd=7
 .exact do_adds h D R hn hk (by omega) kd sp lp m r til val gZ.1 hm h67
 by_cases h8:kd=8
 .exact QH h D R hn hk (by omega) kd sp lp m r til val gZ.1 h8
 by_cases hy:0<=sp/\sp<=7/\0<=lp/\lp<=5/\∀x∈[r,til],x.size<=30
 .obtain⟨e1,e2,e3,e4,e5⟩:=hy;obtain⟨s,rfl⟩:=dZ e1;obtain⟨l,rfl⟩:=dZ e3;have hr:=e5 r (by simp);have ht:=e5 til (by simp)
  by_cases h0:kd=0\/kd=1\/kd=2
  .exact do_set h D R hn hk hK kd m r til val ⟨hr,ht,gZ.2⟩ (by omega) (by omega) h0
  by_cases h3:kd=3
  .exact do_del h D R hn hk hK kd m r til val ⟨hr,ht,gZ.2⟩ (by omega) (by omega) h3
  by_cases h5:kd=5
  .exact Z6 h D R hn hk hK kd m r til val ⟨hr,ht,gZ.2⟩ (by omega) (by omega) h5
  exact do_asks h D R hn hk hK kd m r til val ⟨hr,ht,gZ.2⟩ (by omega) (by omega) (by omega)
 .exact do_no h D R hn hk (by omega) kd sp lp m r til val gZ.1 ⟨h67,h8⟩ hy
end Sh
end Go.Proofs.YtmonobkginiajaaGreat
