/- packed. -/
import Derived.Test.YtmonobkginiajaaGreatAs16
set_option linter.all false
set_option maxRecDepth 100000
set_option maxHeartbeats 8000000
namespace Go.Proofs.YtmonobkginiajaaGreat
open Go.Proofs.Tryz
open Value renaming string→U2,slice→U3,int→U5,bool→U6,pointer→U7,tuple→U8
open Ending renaming returned→BY
open IntKind renaming i64→By
open Obj renaming cells→WF
open Go renaming World→YB,Value→YO,Calls→eq,maxLen→it,TypeId→pm
open And renaming intro→io
namespace Sh
open Go.RowKit Pk Dk Pg
def SX(w W:YB)(sb tb:Nat)(I:Ix)(o:List (Option (pu)))(K:Nat):Prop:= ∃F q,zC w W sb tb I F q 1202 K/\q.a.bj=o
def vk(W W':YB)(xb:Nat)(L:List De):Prop:= ∀b t cs,aF W b t cs->t=82\/t=42\/t=103\/(t=88/\b≠xb)\/(t=45/\∀e∈L,e.1.2.2≠b)->aF W' b t cs
def DL(L:List De)(c:Nat):Prop:=L.length<=2*c/\∀e∈L,e.2.length<=c/\∀x∈e.2,x.2.size<=1024
section
variable{w V V' W0:YB}{sb tb xb z:Nat}{I:Ix}{F:List Nat}{q q':QS}{n K K':Nat}{L L' L0:List De}{c c':Nat}{o:List (Option (pu))}
theorem vk.refl:vk V V xb L:=λ_ _ _ B _=>B
theorem vk.below(hb:i7 V V'):vk V V' xb L:=λ_ _ _ B _=>B.below hb B.lt
theorem vk.pq(o:ag F V V')(P:PQ V I F q n K):vk V V' xb L:=λb t cs B ht=>B.only o (by
 rcases ht with rfl|rfl|rfl|⟨rfl,_⟩|⟨rfl,_⟩
 .exact P.fI B
 .exact P.fI B
 .exact P.fI B
 .exact P.fI B
 .exact P.fI B)
theorem vk.x(D:DX V z xb L)(o:ag [xb] V V'):vk V V' xb L:=λb t cs B ht=>B.only o (λhm=>by
 have hm:=az.1 hm;obtain⟨A,n,c,X⟩:=D.x
 rcases ht with rfl|rfl|rfl|⟨rfl,h⟩|⟨rfl,_⟩
 .exact B.jJ X.b (by decide) hm
 .exact B.jJ X.b (by decide) hm
 .exact B.jJ X.b (by decide) hm
 .exact h hm
 .exact B.jJ X.b (by decide) hm)
theorem vk.m(D:DX V z xb L){e:De}(he:e∈L)(o:ag [e.1.2.2] V V'):vk V V' xb L:=λb t cs B ht=>B.only o (λhm=>by
 have hm:=az.1 hm;obtain⟨v,X⟩:=D.m e he
 rcases ht with rfl|rfl|rfl|⟨rfl,_⟩|⟨rfl,h⟩
 .exact B.jJ X.b (by decide) hm
 .exact B.jJ X.b (by decide) hm
 .exact B.jJ X.b (by decide) hm
 .exact B.jJ X.b (by decide) hm
 .exact h e he hm.symm)
theorem vk.wW(h:vk V V' xb L):jI V V':=λb t cs B ht=>h b t cs B (ht.elim .inl (λe=> .inr (.inl e)))
structure LQ(w W0 V:YB)(sb tb xb:Nat)(I:Ix)(o:List (Option (pu)))(K:Nat)(L0 L:List De)(c:Nat):Prop where
 s:SX w V sb tb I o K
 d:DX V w.heap.size xb L
 l:DL L c
 f:vk W0 V xb L0
 n:∀e∈L,(∃e0∈L0,e0.1.2.2=e.1.2.2)\/W0.heap.size<=e.1.2.2
 z:W0.heap.size<=V.heap.size
theorem vk.step(f:vk W0 V xb L0)(n:∀e∈L,(∃e0∈L0,e0.1.2.2=e.1.2.2)\/W0.heap.size<=e.1.2.2)(h:vk V V' xb L):vk W0 V' xb L0:=λb t cs B ht=>h b t cs (f b t cs B ht) (by
 rcases ht with ht|ht|ht|ht|⟨ht,hn⟩
 .exact .inl ht
 .exact .inr (.inl ht)
 .exact .inr (.inr (.inl ht))
 .exact .inr (.inr (.inr (.inl ht)))
 .refine .inr (.inr (.inr (.inr ⟨ht,λe he hh=>?_⟩)))
  rcases n e he with⟨e0,h0,e1⟩|h1
  .exact hn e0 h0 (e1.trans hh)
  .have:=B.lt;omega)
theorem DL.le(h:DL L c)(hc:c<=c'):DL L c':=⟨aq h.1 (kR _ hc),λe he=>⟨aq (h.2 e he).1 hc,(h.2 e he).2⟩⟩
theorem LQ.below(h:LQ w W0 V sb tb xb I o K L0 L c)(hb:i7 V V'):LQ w W0 V' sb tb xb I o K L0 L c:=by
 obtain⟨⟨F,q,A,e⟩,d,l,f,n,z⟩:=h;exact⟨⟨F,q,A.below hb,e⟩,d.below hb,l,f.step n (.below hb),n,aq z hb.size⟩
theorem LQ.le(h:LQ w W0 V sb tb xb I o K L0 L c)(hK:K<=K')(hc:c<=c'):LQ w W0 V sb tb xb I o K' L0 L c':=by
 obtain⟨⟨F,q,A,e⟩,d,l,f,n,z⟩:=h;exact⟨⟨F,q,A.le hK,e⟩,d,l.le hc,f,n,z⟩
theorem LQ.bel(h:LQ w W0 V sb tb xb I o K L0 L c):i7 w V:=by
 obtain⟨⟨F,q,A,e⟩,d,l,f,n,z⟩:=h;exact A.o
theorem LQ.wW(h:LQ w W0 V sb tb xb I o K L0 L c):jI W0 V:=h.f.wW
theorem LQ.pq(d:DX V w.heap.size xb L)(l:DL L c)(f:vk W0 V xb L0)(nn:∀e∈L,(∃e0∈L0,e0.1.2.2=e.1.2.2)\/W0.heap.size<=e.1.2.2)(z:W0.heap.size<=V.heap.size)(A:zC w V sb tb I F q 1202 K)(P:PQ V' I F q' 1202 K')(oo:ag F V V')(ho:q'.a.bj=o):LQ w W0 V' sb tb xb I o K' L0 L c:=
 ⟨⟨F,q',A.pq P oo,ho⟩,d.pq A.t.2 oo,l,f.step nn (.pq oo A.t.2),nn,aq z oo.size⟩
theorem LQ.pt(d:DX V w.heap.size xb L)(l:DL L c)(f:vk W0 V xb L0)(nn:∀e∈L,(∃e0∈L0,e0.1.2.2=e.1.2.2)\/W0.heap.size<=e.1.2.2)(z:W0.heap.size<=V.heap.size)(A:zC w V sb tb I F q 1202 K)(p:PT V V' I F q' 1202 K')(ho:q'.a.bj=o):LQ w W0 V' sb tb xb I o K' L0 L c:=by
 obtain⟨F',A'⟩:=A.pt p;obtain⟨F2,P,oo,ff⟩:=p;exact⟨⟨F',q',A',ho⟩,d.pq A.t.2 oo,l,f.step nn (.pq oo A.t.2),nn,aq z oo.size⟩
end
theorem addF_ao(q:QS)(r:rd)(m:Int):(q.q8 r m).1.a.bj=q.a.bj:=by
 unfold QS.q8
 split
 .exact tR q _
 .split
  .exact tR q _
  .split<;>exact(R6 _ _ _).trans (tR q _)
theorem addG_ao(q:QS)(r:rd)(m:Int):(q.I6 r m).1.a.bj=q.a.bj:=by
 unfold QS.I6
 split
 .exact addF_ao q r m
 .exact tR q _
section
variable{w V W0:YB}{sb tb xb:Nat}{I:Ix}{K:Nat}{L L0:List De}{c:Nat}{o:List (Option (pu))}{s l:Nat}(h:LQ w W0 V sb tb xb I o K L0 L c)(hK:K<=999000000000)(hs:s<=7)(hl:l<=5)
include h hK
theorem LQ.MI(r:rd)(hr:r.size<=30):
  eq prog 38 #[U7 (some ⟨sb,0,none⟩),U2 r] V λe V'=> ∃n1 e1,e=BY (U8 #[U5 By n1,U5 By e1])/\LQ w W0 V' sb tb xb I o (K+21) L0 L c:=by
 obtain⟨⟨F,q,A,ho⟩,d,ll,f,nn,z⟩:=h;go_call (oX A.b A.t (by omega) r hr (by have:=Gw q (eZ r);omega)) as e V' ⟨rfl,P,oo⟩;exact⟨_,_,rfl,LQ.pq d ll f nn z A P oo ((tR q _).trans ho)⟩
theorem LQ.oI(r:rd)(hr:r.size<=30)(m:Int):
  eq prog 37 #[U7 (some ⟨sb,0,none⟩),U2 r,U5 By m] V λe V'=> ∃n1 e1,e=BY (U8 #[U5 By n1,U5 By e1])/\LQ w W0 V' sb tb xb I o (K+200) L0 L c:=by
 obtain⟨⟨F,q,A,ho⟩,d,ll,f,nn,z⟩:=h;go_call (Gq A.b A.t (by omega) r hr (by have:=Gw q (eZ r);omega) m) as e V' ⟨rfl,P⟩;exact⟨_,_,rfl,LQ.pt d ll f nn z A P ((addG_ao q r m).trans ho)⟩
include hs hl
theorem LQ.qp(r:rd)(hr:r.size<=30):
  eq prog 42 #[U7 (some ⟨sb,0,none⟩),U5 By (s:Nat),U5 By (l:Nat),U2 r] V λe V'=> ∃b1 e1,e=BY (U8 #[U2 b1,U5 By e1])/\LQ w W0 V' sb tb xb I o (K+21) L0 L c:=by
 obtain⟨⟨F,q,A,ho⟩,d,ll,f,nn,z⟩:=h;go_call (pT A.b A.t (by omega) s l hs (by omega) r hr) as e V' ⟨rfl,P,oo⟩;exact⟨_,_,rfl,LQ.pq d ll f nn z A P oo ((tR q _).trans ho)⟩
theorem LQ.Jd(r v:rd)(hr:r.size<=30)(hv:v.size<=100000):
  eq prog 46 #[U7 (some ⟨sb,0,none⟩),U5 By (s:Nat),U5 By (l:Nat),U2 r,U2 v] V λe V'=> ∃e1,e=BY (U5 By e1)/\LQ w W0 V' sb tb xb I o (K+100) L0 L c:=by
 obtain⟨⟨F,q,A,ho⟩,d,ll,f,nn,z⟩:=h;go_call (wS A.b A.t (by omega) s l hs (by omega) r v hr hv) as e V' ⟨rfl,P⟩;exact⟨_,rfl,LQ.pt d ll f nn z A P ((R6 q _ _).trans ho)⟩
theorem LQ.Je(r:rd)(hr:r.size<=30):
  eq prog 47 #[U7 (some ⟨sb,0,none⟩),U5 By (s:Nat),U5 By (l:Nat),U2 r] V λe V'=> ∃e1,e=BY (U5 By e1)/\LQ w W0 V' sb tb xb I o (K+700) L0 L c:=by
 obtain⟨⟨F,q,A,ho⟩,d,ll,f,nn,z⟩:=h;go_call (Mj A.b A.t (by omega) s l hs (by omega) r hr) as e V' ⟨rfl,P⟩;exact⟨_,rfl,LQ.pt d ll f nn z A P ((I9 q _).trans ho)⟩
theorem LQ.yI(a b:rd)(h1:a.size<=30)(h2:b.size<=30):
  eq prog 44 #[U7 (some ⟨sb,0,none⟩),U5 By (s:Nat),U5 By (l:Nat),U2 a,U2 b] V λe V'=> ∃e1 er,e=BY (U8 #[U5 By e1,U5 By er])/\LQ w W0 V' sb tb xb I o (K+30000000) L0 L c:=by
 obtain⟨⟨F,q,A,ho⟩,d,ll,f,nn,z⟩:=h;go_call (DS A.b A.t (by omega) s l hs hl a b h1 h2) as e V' ⟨rfl,P⟩;exact⟨_,_,rfl,LQ.pt d ll f nn z A P ((Ve q _ _).trans ho)⟩
theorem LQ.pW(a b:rd)(h1:a.size<=30)(h2:b.size<=30)(m:Int):
  eq prog 41 #[U7 (some ⟨sb,0,none⟩),U5 By (s:Nat),U5 By (l:Nat),U2 a,U2 b,U5 By m] V λe V'=> ∃v l2 e2,e=BY (U8 #[v,U5 By e2])/\aM V' 42 2 v l2.length (iQ l2)/\l2.length<=1000000/\LQ w W0 V' sb tb xb I o (K+300000) L0 L c:=by
 obtain⟨⟨F,q,A,ho⟩,d,ll,f,nn,z⟩:=h;obtain⟨s1,s2⟩:=Gv q s l a b m;go_call (yF A.b A.t (by omega) s l hs hl a b h1 h2 m s1 s2) as e V' ⟨v,rfl,S,P,oo,_⟩;exact⟨v,_,_,rfl,S,by rw[bM];exact s2,LQ.pq d ll f nn z A P oo ((ZQ q _ _ _).trans ho)⟩
theorem LQ.D9(a b:rd)(h1:a.size<=30)(h2:b.size<=30):
  eq prog 43 #[U7 (some ⟨sb,0,none⟩),U5 By (s:Nat),U5 By (l:Nat),U2 a,U2 b] V λe V'=> ∃x er,e=BY (U8 #[prV x,U5 By er])/\jI V V'/\LQ w W0 V' sb tb xb I o (K+600) L0 L c:=by
 obtain⟨⟨F,q,A,ho⟩,d,ll,f,nn,z⟩:=h;go_call (Gp A.b A.t (by omega) s l hs hl a b h1 h2 (Vf q s l a b)) as e V' ⟨rfl,P,oo⟩;exact⟨_,_,rfl,jI.pq oo A.t.2,LQ.pq d ll f nn z A P oo ((ZR q _ _).trans ho)⟩
end
variable{p p':List PR}{c:Nat}
section
variable{w w':YB}{z xb:Nat}{L:List De}
theorem DX.of2(h:DX w z xb L)(hk:L.length<10000)(hz:z<=w.heap.size)(sp lp:Int):
  eq prog 93 #[U7 (some ⟨xb,0,none⟩),U5 By sp,U5 By lp] w λe w'=> ∃mb l L',e=BY (U7 (some ⟨mb,0,none⟩))/\DX w' z xb L'/\((sp,lp,mb),l)∈L'/\(L'=L\/(L'=L++[((sp,lp,mb),[])]/\w.heap.size<=mb))/\ag [xb] w w':=by
 obtain⟨A,n,c,X⟩:=h.x;have hl:=X.len;rw[bM]at hl;refine(Mx X (by omega) sp lp).mono λe w' ⟨mb,r,hO⟩=>?_
 rcases hO with⟨h1,h2⟩|⟨h1,h2,h3,h4,A',n',c',X',h5⟩
 .obtain⟨e0,h0,he⟩:=cr.1 h1;exact⟨mb,e0.2,L,r,h.below h2,by rw[<-he];exact h0,.inl rfl,.aj h2⟩
 .have JM:∀e∈L,e.1.2.2<w.heap.size:=λe he=>by obtain⟨v,M⟩:=h.m e he;exact M.b.lt
  refine⟨mb,[],L++[((sp,lp,mb),[])],r,⟨⟨A',n',c',by rw[cX];exact X'⟩,λe he=>?_,?_,?_,by rw[aT];simp;omega,h.f.1,λe he=>?_⟩,bP _ (by simp),.inr ⟨rfl,h2⟩,h4⟩
  .rcases ay.1 he with he|he
   .obtain⟨v,M⟩:=h.m e he;exact⟨v,M.b.only h4 (λhx=>(M.b.jJ X.b (by decide)) (az.1 hx)),M.s.only h4 (λg hg hx=>kh M.s X.b (by decide) g hg (az.1 hx)),M.n⟩
   .have:=az.1 he;subst this;exact⟨U3 none 0 0,h3,aM.nil _ _ _,by simp⟩
  .rw[cX,gU];refine⟨h.nd,by simp,λa ha b hb=>?_⟩;obtain⟨e,he,rfl⟩:=cr.1 ha;have hb:=az.1 hb;have ef:=JM e he;have cf:b=mb:=hb;rw[cf];show e.1.2.2≠mb;omega
  .intro e he e' nj k1 k2
   rcases ay.1 he with he|he
   .rcases ay.1 nj with nj|nj
    .exact h.ku e he e' nj k1 k2
    .have:=az.1 nj;subst this;exact absurd ⟨k1,k2⟩ (h1 e.1 (j8 he))
   .have:=az.1 he;subst this
    rcases ay.1 nj with nj|nj
    .exact absurd ⟨k1.symm,k2.symm⟩ (h1 e'.1 (j8 nj))
    .exact(az.1 nj).symm
  .rcases ay.1 he with he|he
   .exact h.f.2 e he
   .have:=az.1 he;subst this;show z<=mb;omega
end
theorem Z7(h1:p.length<=c)(h2:∀x∈p,x.2.size<=1024)(k v:rd):(qT p k v).length<=c+1/\∀x∈qT p k v,x.2.size<=1024:=by
 unfold qT
 split
 .exact⟨by omega,h2⟩
 .rename_i hb;refine⟨?_,λx hx=>?_⟩
  .rw[aT,fT,bC,ev]
   split<;>omega
  .rcases ay.1 hx with hx|hx
   .exact h2 x (gv hx)
   .rcases ar.1 hx with rfl|hx
    .show v.size<=1024;omega
    .exact h2 x (qa hx)
theorem Z9(h1:p.length<=c)(h2:∀x∈p,x.2.size<=1024)(k:rd):(uo p k).length<=c/\∀x∈uo p k,x.2.size<=1024:=by
 unfold uo
 split
 .refine⟨?_,λx hx=>?_⟩
  .rw[aT,bC,ev];omega
  .exact(ay.1 hx).elim (λh=>h2 x (gv h)) (λh=>h2 x (qa h))
 .exact⟨h1,h2⟩
theorem outP_bd(h1:p.length<=c)(h2:∀x∈p,x.2.size<=1024)(a b:rd):(lZ a b p).length<=c/\∀x∈lZ a b p,x.2.size<=1024:=by
 unfold lZ;exact⟨aq (oC _ _) h1,λx hx=>h2 x (eA.1 hx).1⟩
section
variable{w V V' W0:YB}{sb tb xb:Nat}{I:Ix}{K:Nat}{L L0:List De}{c:Nat}{o:List (Option (pu))}{sp lp:Int}{mb:Nat}{p:List PR}
theorem SX.doc(h:SX w V sb tb I o K){b:Nat}{t:pm}{cs:Array YO}(oo:ag [b] V V')(hb:w.heap.size<=b)(B:aF V b t cs)(hs:t≠182)(ht:t≠130)(ha:t≠143)(hf:t≠167)(h1:t≠146)(h2:t≠218)(h3:t≠3)(h4:t≠149)(h5:t≠152)(h6:t≠4)(h7:t≠231):SX w V' sb tb I o K:=by
 obtain⟨F,q,A,S⟩:=h;refine⟨F,q,⟨A.b.only oo (λhm=>B.jJ A.b hs (az.1 hm).symm),A.t.only oo (λg hg hm=>?_),A.o.trans (oo.aK A.o.size (λg hg=>by rw[az.1 hg];exact hb)),A.f⟩,S⟩;have hm:=az.1 hm;subst hm
 rcases ar.1 hg with hg|hg
 .exact B.jJ A.t.1 ht hg
 .exact A.t.2.fI B ha hf h1 h2 h3 h4 h5 h6 h7 hg
theorem DL.upd(h:DL L c)(hm:((sp,lp,mb),p)∈L)(h1:p'.length<=c+1)(h2:∀x∈p',x.2.size<=1024):DL (oA L mb p') (c+1):=by
 refine⟨by unfold oA;rw[bM];have:=h.1;omega,λe he=>?_⟩;unfold oA at he;obtain⟨e0,h0,rfl⟩:=cr.1 he
 split
 .exact⟨h1,h2⟩
 .exact⟨by have:=(h.2 e0 h0).1;omega,(h.2 e0 h0).2⟩
theorem LQ.map(h:LQ w W0 V sb tb xb I o K L0 L c)(hm:((sp,lp,mb),p)∈L)(oo:ag [mb] V V'){v':YO}(X:Mp V' mb v' p')(h1:p'.length<=c+1)(h2:∀x∈p',x.2.size<=1024):LQ w W0 V' sb tb xb I o K L0 (oA L mb p') (c+1):=by
 obtain⟨s,d,l,f,n,z⟩:=h;obtain⟨v0,X0⟩:=d.m _ hm;refine⟨s.doc oo (d.f.2 _ hm) X0.b (by decide) (by decide) (by decide) (by decide) (by decide) (by decide) (by decide) (by decide) (by decide) (by decide) (by decide),d.map hm oo X,l.upd hm h1 h2,f.step n (.m d hm oo),λe he=>?_,aq z oo.size⟩;unfold oA at he;obtain⟨e0,h0,rfl⟩:=cr.1 he;have k0:(if e0.1.2.2=mb then(e0.1,p')else e0).1=e0.1:=by split<;>rfl
 rw[k0];exact n e0 h0
theorem LQ.mQ(h:LQ w W0 V sb tb xb I o K L0 L c)(hc:c<=1000)(sp lp:Int):
  eq prog 93 #[U7 (some ⟨xb,0,none⟩),U5 By sp,U5 By lp] V λe V'=> ∃mb p L',e=BY (U7 (some ⟨mb,0,none⟩))/\LQ w W0 V' sb tb xb I o K L0 L' (c+1)/\((sp,lp,mb),p)∈L':=by
 obtain⟨s,d,l,f,n,z⟩:=h;have hbel:w.heap.size<=V.heap.size:=by obtain⟨F,q,A,_⟩:=s;exact A.o.size
 go_call (d.of2 (by have:=l.1;omega) hbel sp lp) as e V' ⟨mb,p,L',rfl,D',hm,hL,oo⟩;obtain⟨A,nn,cc,X⟩:=d.x;refine⟨mb,p,L',rfl,⟨s.doc oo d.f.1 X.b (by decide) (by decide) (by decide) (by decide) (by decide) (by decide) (by decide) (by decide) (by decide) (by decide) (by decide),D',?_,f.step n (.x d oo),?_,aq z oo.size⟩,hm⟩
 .rcases hL with rfl|⟨rfl,_⟩
  .exact l.le (by omega)
  .refine⟨by rw[aT];have:=l.1;simp;omega,λe he=>?_⟩
   rcases ay.1 he with he|he
   .exact⟨by have:=(l.2 e he).1;omega,(l.2 e he).2⟩
   .rw[az.1 he];exact⟨aW _,λx hx=>absurd hx (by show ¬x∈([]:List PR);simp)⟩
 .intro e he
  rcases hL with rfl|⟨rfl,h2⟩
  .exact n e he
  .rcases ay.1 he with he|he
   .exact n e he
   .rw[az.1 he];exact .inr (aq z h2)
theorem LQ.pl(h:LQ w W0 V sb tb xb I o K L0 L c)(hm:((sp,lp,mb),p)∈L):p.length<=c/\∀x∈p,x.2.size<=1024:=h.l.2 _ hm
theorem LQ.mG(h:LQ w W0 V sb tb xb I o K L0 L c)(hc:c<=1000)(hm:((sp,lp,mb),p)∈L)(key value:rd)(h1:key.size<=1000000)(h2:value.size<=1000000):
  eq prog 54 #[U7 (some ⟨mb,0,none⟩),U2 key,U2 value] V λe V'=> ∃e2 L',e=BY (U5 By e2)/\LQ w W0 V' sb tb xb I o K L0 L' (c+1):=by
 obtain⟨v,X⟩:=h.d.m _ hm;obtain⟨b1,b2⟩:=h.pl hm;obtain⟨c1,c2⟩:=Z7 b1 b2 key value;go_call (Sh.mG X key value (by show p.length<_;omega) h1 h2) as e V' ⟨rfl,v',X',oo⟩;exact⟨_,_,rfl,h.map hm oo X' c1 c2⟩
theorem LQ.pU(h:LQ w W0 V sb tb xb I o K L0 L c)(hm:((sp,lp,mb),p)∈L)(key:rd):
  eq prog 55 #[U7 (some ⟨mb,0,none⟩),U2 key] V λe V'=> ∃e2 L',e=BY (U5 By e2)/\LQ w W0 V' sb tb xb I o K L0 L' (c+1):=by
 obtain⟨v,X⟩:=h.d.m _ hm;obtain⟨b1,b2⟩:=h.pl hm;obtain⟨c1,c2⟩:=Z9 b1 b2 key;go_call (Sh.pU X key) as e V' ⟨rfl,v',X',oo⟩;exact⟨_,_,rfl,h.map hm oo X' (zZ c1) c2⟩
theorem LQ.l5(h:LQ w W0 V sb tb xb I o K L0 L c)(hm:((sp,lp,mb),p)∈L)(a b:rd):
  eq prog 56 #[U7 (some ⟨mb,0,none⟩),U2 a,U2 b] V λe V'=> ∃e2 L',e=BY (U5 By e2)/\LQ w W0 V' sb tb xb I o K L0 L' (c+1):=by
 obtain⟨v,X⟩:=h.d.m _ hm;obtain⟨b1,b2⟩:=h.pl hm;obtain⟨c1,c2⟩:=outP_bd b1 b2 a b;go_call (Sh.l5 X a b) as e V' ⟨rfl,v',X',oo,_⟩;exact⟨_,_,rfl,h.map hm oo X' (zZ c1) c2⟩
end
theorem QI{p:List PR}(h:∀x∈p,x.2.size<=1024)(k:rd):(cV p k).1.size<=1024:=by
 unfold cV
 split
 .cases hx:p[pY p k]? with
  |none=>show(⟨#[]⟩:rd).size<=_;decide
  |some x=>exact h x (aA hx)
 .show(⟨#[]⟩:rd).size<=_;decide
theorem LQ.ib{w V W0:YB}{sb tb xb:Nat}{I:Ix}{K:Nat}{L L0:List De}{c:Nat}{o:List (Option (pu))}(h:LQ w W0 V sb tb xb I o K L0 L c)(hc:c<=1000)(name:rd):
  eq prog 91 #[U7 (some ⟨xb,0,none⟩),U2 name] V λe V'=> ∃n1 e1 L',e=BY (U8 #[U5 By n1,U5 By e1])/\LQ w W0 V' sb tb xb I o K L0 L' (c+1):=by
 have KO:=xh<|h.mQ hc 7 0;clear h hc;go_in;go_wp2_with fail;go_call KO.o as e w1 ⟨mb,l,L',rfl,h1,hm⟩;obtain⟨v,M1⟩:=h1.d.m _ hm;have oq:=QI (h1.pl hm).2 name;have he:=tT l name;have KG:=DQ M1 name;obtain⟨b,e1,hg⟩:∃b e1,cV l name=(b,e1):=⟨_,_,rfl⟩;rw[hg]at KG oq he;dsimp only at KG oq he;have KG:=xh KG;have H1:=xh h1;clear h1 hm M1 hg;go_wp2_with fail;go_call KG.o as e w2 ⟨rfl,cf⟩
 have H2:=xh<|H1.o.below cf;clear cf
 rcases he with rfl|rfl
 .by_cases h8:b.size=8
  .have KR:=xh (λ(W:YB)=>Bc b 0 (by omega) (by omega) W);generalize (mI ((b.data.toList.drop 0).take 8):Int)-9223372036854775808=cv at *;have h8I:(b.size:Int)=8:=by omega
   go_wp2_with fail;go_call (KR.o _) as e w3 ⟨rfl,dk⟩;have H3:=xh<|H2.o.below dk;clear dk;go_wp2;go_ret2;exact⟨cv,0,L',(by first|rfl|simp),H3.o⟩
  .have h8I:¬(b.size:Int)=8:=by omega
   go_wp2;go_ret2;exact⟨0,14,L',(by first|rfl|simp),H2.o⟩
 .go_wp2;go_ret2;exact⟨0,0,L',(by first|rfl|simp),H2.o⟩
variable{w V W0:YB}{sb tb xb K c:Nat}{I:Ix}
theorem LQ.refl{L L0:List De}{o:List (Option (pu))}(h:LQ w W0 V sb tb xb I o K L0 L c):LQ w V V sb tb xb I o K L L c:=
 ⟨h.s,h.d,h.l,vk.refl,λe he=> .inl ⟨e,he,rfl⟩,ai _⟩
theorem LQ.trans{V':YB}{K':Nat}{L L' L0:List De}{c':Nat}{o:List (Option (pu))}(h:LQ w W0 V sb tb xb I o K L0 L c)(h':LQ w V V' sb tb xb I o K' L L' c'):LQ w W0 V' sb tb xb I o K' L0 L' c':=
 ⟨h'.s,h'.d,h'.l,h.f.step h.n h'.f,λe he=>by
  rcases h'.n e he with⟨e0,h0,h1⟩|h1
  .rcases h.n e0 h0 with⟨e2,h2,h3⟩|h3
   .exact .inl ⟨e2,h2,h3.trans h1⟩
   .exact .inr (by rw[<-h1];exact h3)
  .exact .inr (aq h.z h1),aq h.z h'.z⟩
def LP(w W0 V:YB)(sb tb xb:Nat)(I:Ix)(o:List (Option (pu)))(K:Nat)(L0:List De)(c:Nat)(e:Ending):Prop:= ∃b L',e=BY (U6 b)/\LQ w W0 V sb tb xb I o K L0 L' c
theorem LP.mk{L L0:List De}{o:List (Option (pu))}{e:Ending}{b:Bool}(h:e=BY (U6 b))(h2:LQ w W0 V sb tb xb I o K L0 L c):LP w W0 V sb tb xb I o K L0 c e:=⟨b,L,h,h2⟩
theorem Vl{L L0:List De}{o:List (Option (pu))}(h:LQ w W0 V sb tb xb I o K L0 L c)(hc:c<=900)(hK:K<=998000000000)(kd sp lp m:Int)(r til val:rd)(gZ:r.size<=100000)(hm: -9223372036854775808<=m/\m<=9223372036854775807):
  eq prog 90 #[lc sb,lc xb,.agg (eI kd sp lp m r til val)] V λe V'=>LP w W0 V' sb tb xb I o (K+200) L0 (c+3) e:=by
 have hb:=i6 V (WF (eI kd sp lp m r til val) 82);have CZ:=aF.new V 82 (eI kd sp lp m r til val);have jx:=xh (λ(V':YB) (K':Nat) (L':List De) (c':Nat) (h':LQ w (V.alloc (WF (eI kd sp lp m r til val) 82)) V' sb tb xb I o K' L L' c')=>(h.below hb).trans h');have h0:=xh (h.below hb).refl;obtain⟨z,hz⟩:∃z,V.heap.size=z:=⟨_,rfl⟩;rw[hz]at CZ;have CZ:=xh CZ;have HZ:=xh hz;have HN:=xh<|io hc hK;clear h hc hK hb hz
 have y3:=CZ.ap 3;have y4:=CZ.ap 4;have jW:=HZ.o
 by_cases hr:r.size<=30
 .have VP:¬(30<(r.size:Int)):=by omega
  have KA:=xh<|h0.o.oI (by have:=HN.o.2;omega) r hr m;unfold eI at *;go_in;go_wp2_with fail;go_call KA.o as e w1 ⟨n1,e1,rfl,h1⟩;have C1:=xh<|h1.wW _ _ _ CZ.o (.inl rfl);have KC:=xh<|h1.ib (by have:=HN.o.1;omega) r;clear h1 y3 y4;have y3:=C1.ap 3;have y4:=C1.ap 4;go_wp2_with fail;go_call KC.o as e w2 ⟨ol,fe,L2,rfl,h2⟩
  have C2:=xh<|h2.wW _ _ _ CZ.o (.inl rfl);have H2:=xh h2;clear h2 y3 y4;have y3:=C2.ap 3;have y4:=C2.ap 4;dsimp only
  by_cases hf:fe=0
  .subst hf
   by_cases gq:lE m (-1099511627776)/\lE ol 0/\lE (ol+m) 0
   .obtain⟨⟨a1,a2⟩,⟨a3,a4⟩,⟨a5,a6⟩⟩:=gq;have s1:IntKind.i64.wrap (ol+m)=ol+m:=dl;have b1:¬m< -1099511627776:=by omega
    have b2:¬1099511627776<m:=by omega
    have b3:¬ol<0:=by omega
    have b4:¬1099511627776<ol:=by omega
    have b5:¬ol+m<0:=by omega
    have b6:¬1099511627776<ol+m:=by omega
    have KO:=xh<|H2.o.below (Below.refl _ _).drew|>.mQ (by have:=HN.o.1;omega) 7 0;have KI:=xh (λ(V:YB)=>Wr (ol+m).toNat (by omega) V);rw[uq a5]at KI;have HVL:=xh (show(⟨(df (((ol+m).toNat:Nat):Int)).toArray⟩:rd)=su (ol+m) by rw[uq a5];rfl);rw[uq a5]at HVL
    replace a5:=xh<|io a5 a6
    clear a1 a2 a3 a4 a6;go_wp2_with fail;refine kw (λW=>W.cell? ⟨z,3,none⟩=some (m:li)/\W.cell? ⟨z,4,none⟩=some (U2 r)) (⟨y3,y4⟩) (λau=>?_);refine dP [(0,82),(2,84),(3,85),(4,86),(5,87),(6,88),(7,89)] ?_
    iterate 7 refine bJ ?_
    refine dI 1 83 λK hK=>?_;go_simp
    go_at_call 93
    go_call KO.o as e w3 ⟨mb3,p3,L3,rfl,h3,VQ⟩;have C3:=xh<|h3.wW _ _ _ CZ.o (.inl rfl);have H3:=xh<|io h3 VQ;clear h3 VQ;go_simp;refine bn hK (⟨C3.ap 3,C3.ap 4⟩) (λau=>?_);refine dI 8 90 λK hK=>?_;go_simp
    go_at_call 143
    go_call (KI.o _) as e w4 ⟨rfl,fo⟩;have C4:=xh<|C3.o.below fo C3.o.lt;have h4:=xh<|H3.o.1.below fo;clear fo;go_simp;refine bn hK (⟨C4.ap 3,C4.ap 4⟩) (λau=>?_);refine dI 9 91 λK hK=>?_;go_simp
    go_at_call 54
    rw[HVL.o];go_call (h4.o.mG (by have:=HN.o.1;omega) H3.o.2 r (su (ol+m)) (by omega) (by rw[kM];omega)) as e w5 ⟨e5,L5,rfl,h5⟩;have C5:=xh<|h5.wW _ _ _ CZ.o (.inl rfl);have H5:=xh h5;clear h5;go_simp;refine bn hK (⟨C5.ap 3,C5.ap 4⟩) (λau=>?_);refine jp ?_ _;clear y3 y4;have y3:=C5.ap 3
    by_cases z1:n1=ol+m
    .subst z1;go_wp2;go_ret;exact LP.mk (by first|rfl|simp) (jx.o _ _ _ _ (H5.o.le (by omega) (by omega)))
    .have z2:(n1==ol+m)=false:=by simpa using z1
     go_wp2;go_ret;exact LP.mk (by first|rfl|simp) (jx.o _ _ _ _ (H5.o.le (by omega) (by omega)))
   .by_cases c0:m< -1099511627776
    .clear gq
     by_cases z1:n1=0
     .subst z1;go_wp2;go_ret;exact LP.mk (by first|rfl|simp) (jx.o _ _ _ _ (H2.o.le (by omega) (by omega)))
     .have z2:(n1==0)=false:=by simpa using z1
      go_wp2;go_ret;exact LP.mk (by first|rfl|simp) (jx.o _ _ _ _ (H2.o.le (by omega) (by omega)))
    .skip
     by_cases c1:1099511627776<m
     .clear gq
      by_cases z1:n1=0
      .subst z1;go_wp2;go_ret;exact LP.mk (by first|rfl|simp) (jx.o _ _ _ _ (H2.o.le (by omega) (by omega)))
      .have z2:(n1==0)=false:=by simpa using z1
       go_wp2;go_ret;exact LP.mk (by first|rfl|simp) (jx.o _ _ _ _ (H2.o.le (by omega) (by omega)))
     .skip
      by_cases c2:ol<0
      .clear gq
       by_cases z1:n1=0
       .subst z1;go_wp2;go_ret;exact LP.mk (by first|rfl|simp) (jx.o _ _ _ _ (H2.o.le (by omega) (by omega)))
       .have z2:(n1==0)=false:=by simpa using z1
        go_wp2;go_ret;exact LP.mk (by first|rfl|simp) (jx.o _ _ _ _ (H2.o.le (by omega) (by omega)))
      .skip
       by_cases c3:1099511627776<ol
       .clear gq
        by_cases z1:n1=0
        .subst z1;go_wp2;go_ret;exact LP.mk (by first|rfl|simp) (jx.o _ _ _ _ (H2.o.le (by omega) (by omega)))
        .have z2:(n1==0)=false:=by simpa using z1
         go_wp2;go_ret;exact LP.mk (by first|rfl|simp) (jx.o _ _ _ _ (H2.o.le (by omega) (by omega)))
       .skip
        have s1:IntKind.i64.wrap (ol+m)=ol+m:=dl
        by_cases c4:ol+m<0
        .clear gq
         by_cases z1:n1=0
         .subst z1;go_wp2;go_ret;exact LP.mk (by first|rfl|simp) (jx.o _ _ _ _ (H2.o.le (by omega) (by omega)))
         .have z2:(n1==0)=false:=by simpa using z1
          go_wp2;go_ret;exact LP.mk (by first|rfl|simp) (jx.o _ _ _ _ (H2.o.le (by omega) (by omega)))
        .skip
         have c5:1099511627776<ol+m:=by
          by_cases c5:1099511627776<ol+m
          .exact c5
          .exact absurd ⟨⟨by omega,by omega⟩,⟨by omega,by omega⟩,by omega,by omega⟩ gq
         clear gq
         by_cases z1:n1=0
         .subst z1;go_wp2;go_ret;exact LP.mk (by first|rfl|simp) (jx.o _ _ _ _ (H2.o.le (by omega) (by omega)))
         .have z2:(n1==0)=false:=by simpa using z1
          go_wp2;go_ret;exact LP.mk (by first|rfl|simp) (jx.o _ _ _ _ (H2.o.le (by omega) (by omega)))
  .have Ak:(fe==0)=false:=by simpa using hf
   by_cases z1:n1=0
   .subst z1;go_wp2;go_ret;exact LP.mk (by first|rfl|simp) (jx.o _ _ _ _ (H2.o.le (by omega) (by omega)))
   .have z2:(n1==0)=false:=by simpa using z1
    go_wp2;go_ret;exact LP.mk (by first|rfl|simp) (jx.o _ _ _ _ (H2.o.le (by omega) (by omega)))
 .have VP:30<(r.size:Int):=by omega
  have KA:=xh (λ(V:YB)=>RZ sb r m (by omega) V);unfold eI at *;go_in;go_wp2_with fail;go_call (KA.o _) as e w1 ⟨rfl,aO⟩;have C1:=xh<|CZ.o.below aO CZ.o.lt;have h1:=xh<|h0.o.below aO;clear aO y3 y4;have y4:=C1.ap 4;go_wp2;go_ret;exact LP.mk (by first|rfl|simp) (jx.o _ _ _ _ (h1.o.le (by omega) (by omega)))
theorem doX_adds{L L0:List De}{o:List (Option (pu))}(h:LQ w W0 V sb tb xb I o K L0 L c)(hc:c<=900)(hK:K<=998000000000)(kd sp lp m:Int)(r til val:rd)(gZ:r.size<=100000)(hm: -9223372036854775808<=m/\m<=9223372036854775807)(lA:kd=6\/kd=7):
  eq prog 40 #[lc sb,lc xb,.agg (eI kd sp lp m r til val)] V λe V'=>LP w W0 V' sb tb xb I o (K+40000000) L0 (c+4) e:=by
 have hb:=i6 V (WF (eI kd sp lp m r til val) 82);have CZ:=aF.new V 82 (eI kd sp lp m r til val);have jx:=xh (λ(V':YB) (K':Nat) (L':List De) (c':Nat) (h':LQ w (V.alloc (WF (eI kd sp lp m r til val) 82)) V' sb tb xb I o K' L L' c')=>(h.below hb).trans h');have h0:=xh (h.below hb).refl;obtain⟨z,hz⟩:∃z,V.heap.size=z:=⟨_,rfl⟩;rw[hz]at CZ;have CZ:=xh CZ;have HZ:=xh hz;have HN:=xh<|io hc hK;clear h hc hK hb hz
 have y0:=CZ.ap 0;have y1:=CZ.ap 1;have y2:=CZ.ap 2;have y3:=CZ.ap 3;have y4:=CZ.ap 4;have y5:=CZ.ap 5;have y6:=CZ.ap 6;have jW:=HZ.o;unfold eI at *;have KA:=xh<|Vl h0.o HN.o.1 HN.o.2 kd sp lp m r til val gZ hm;unfold eI at KA
 rcases lA with rfl|rfl
 all_goals
  go_in;go_wp2_with fail;go_call KA.o as e w1 ⟨b,L',rfl,hd⟩;have hd:=xh hd;go_wp2;go_ret;exact LP.mk (by first|rfl|simp) (jx.o _ _ _ _ (hd.o.le (by omega) (by omega)))
theorem MJ{L L0:List De}{o:List (Option (pu))}(h:LQ w W0 V sb tb xb I o K L0 L c)(hc:c<=900)(hK:K<=998000000000)(kd sp lp m:Int)(r til val:rd)(gZ:r.size<=100000)(lA:kd=8):
  eq prog 40 #[lc sb,lc xb,.agg (eI kd sp lp m r til val)] V λe V'=>LP w W0 V' sb tb xb I o (K+40000000) L0 (c+4) e:=by
 have hb:=i6 V (WF (eI kd sp lp m r til val) 82);have CZ:=aF.new V 82 (eI kd sp lp m r til val);have jx:=xh (λ(V':YB) (K':Nat) (L':List De) (c':Nat) (h':LQ w (V.alloc (WF (eI kd sp lp m r til val) 82)) V' sb tb xb I o K' L L' c')=>(h.below hb).trans h');have h0:=xh (h.below hb).refl;obtain⟨z,hz⟩:∃z,V.heap.size=z:=⟨_,rfl⟩;rw[hz]at CZ;have CZ:=xh CZ;have HZ:=xh hz;have HN:=xh<|io hc hK;clear h hc hK hb hz
 have y0:=CZ.ap 0;have y1:=CZ.ap 1;have y2:=CZ.ap 2;have y3:=CZ.ap 3;have y4:=CZ.ap 4;have y5:=CZ.ap 5;have y6:=CZ.ap 6;have jW:=HZ.o;unfold eI at *;subst lA
 by_cases hr:r.size<=30
 .have VP:¬(30<(r.size:Int)):=by omega
  have KA:=xh<|h0.o.MI (by have:=HN.o.2;omega) r hr;go_in;go_wp2_with fail;go_call KA.o as e w1 ⟨n1,e1,rfl,h1⟩;have C1:=xh<|h1.wW _ _ _ CZ.o (.inl rfl);have KC:=xh<|h1.ib (by have:=HN.o.1;omega) r;clear h1 y0 y1 y2 y3 y4 y5 y6;have y4:=C1.ap 4;go_wp2_with fail;go_call KC.o as e w2 ⟨n2,e2,L2,rfl,h2⟩;have H2:=xh h2;clear h2 y4
  by_cases z1:n1=n2
  .subst z1;go_wp2;go_ret;exact LP.mk (by first|rfl|simp) (jx.o _ _ _ _ (H2.o.le (by omega) (by omega)))
  .have z2:(n1==n2)=false:=by simpa using z1
   go_wp2;go_ret;exact LP.mk (by first|rfl|simp) (jx.o _ _ _ _ (H2.o.le (by omega) (by omega)))
 .have VP:30<(r.size:Int):=by omega
  have KA:=xh (λ(V:YB)=>sC sb r (by omega) V);go_in;go_wp2_with fail;go_call (KA.o _) as e w1 ⟨rfl,aO⟩;have C1:=xh<|CZ.o.below aO CZ.o.lt;have h1:=xh<|h0.o.below aO;clear aO y0 y1 y2 y3 y4 y5 y6;have y4:=C1.ap 4;go_wp2;go_ret;exact LP.mk (by first|rfl|simp) (jx.o _ _ _ _ (h1.o.le (by omega) (by omega)))
variable{w V W0:YB}{sb tb xb K c s l:Nat}{I:Ix}
theorem doX_no{L L0:List De}{o:List (Option (pu))}(h:LQ w W0 V sb tb xb I o K L0 L c)(hc:c<=900)(hK:K<=998000000000)(kd sp lp m:Int)(r til val:rd)(lA:¬(kd=6\/kd=7)/\kd≠8)(tY:¬(0<=sp/\sp<=7/\0<=lp/\lp<=5/\∀x∈[r,til],x.size<=30)):
  eq prog 40 #[lc sb,lc xb,.agg (eI kd sp lp m r til val)] V λe V'=>LP w W0 V' sb tb xb I o (K+40000000) L0 (c+4) e:=by
 have hb:=i6 V (WF (eI kd sp lp m r til val) 82);have CZ:=aF.new V 82 (eI kd sp lp m r til val);have jx:=xh (λ(V':YB) (K':Nat) (L':List De) (c':Nat) (h':LQ w (V.alloc (WF (eI kd sp lp m r til val) 82)) V' sb tb xb I o K' L L' c')=>(h.below hb).trans h');have h0:=xh (h.below hb).refl;obtain⟨z,hz⟩:∃z,V.heap.size=z:=⟨_,rfl⟩;rw[hz]at CZ;have CZ:=xh CZ;have HZ:=xh hz;have HN:=xh<|io hc hK;clear h hc hK hb hz
 have y0:=CZ.ap 0;have y1:=CZ.ap 1;have y2:=CZ.ap 2;have y3:=CZ.ap 3;have y4:=CZ.ap 4;have y5:=CZ.ap 5;have y6:=CZ.ap 6;have jW:=HZ.o;unfold eI at *;have d1:¬kd=6:=λe=>lA.1 (.inl e);have d2:¬kd=7:=λe=>lA.1 (.inr e);have d3:¬kd=8:=lA.2;have c1:(kd==6)=false:=by simpa using d1
 have c2:(kd==7)=false:=by simpa using d2
 have c3:(kd==8)=false:=by simpa using d3
 have KM:=xh (λ(V:YB)=>kN (w:=V.alloc (WF #[U2 r,U2 til] 9)) (A:=some ⟨V.heap.size,0,none⟩) (n:=2) (c:=2) (rs:=[r,til]) sp lp ⟨rfl,.inr ⟨V.heap.size,2,[],rfl,aF.new _ _ _,rfl,by decide⟩⟩ (by omega))
 replace KM:=KM.o (V.alloc (WF #[kd,sp,lp,m,U2 r,U2 til,U2 val] 82))
 rw[decide_eq_false tY,gf,HZ.o]at KM;have KM:=xh KM;have KS:=xh (λ(V:YB)=>Mn sb sp lp r til m (AF tY) V);clear tY lA;go_in;go_wp2_with fail;go_call KM.o as e w1 ⟨rfl,aO⟩;have cf:=aC (i6 _ (WF #[U2 r,U2 til] 9)) aO;have C1:=xh<|CZ.o.below cf CZ.o.lt;have h1:=xh<|h0.o.below cf;clear aO cf y0 y1 y2 y3 y4 y5 y6;have y1:=C1.ap 1
 have y2:=C1.ap 2;have y3:=C1.ap 3;have y4:=C1.ap 4;have y5:=C1.ap 5
 by_cases hy:0<=sp/\sp<=7/\0<=lp/\lp<=5/\∀x∈[r],x.size<=30
 .have KM2:=xh (λ(V:YB)=>kN (w:=V.alloc (WF #[U2 r] 9)) (A:=some ⟨V.heap.size,0,none⟩) (n:=1) (c:=1) (rs:=[r]) sp lp ⟨rfl,.inr ⟨V.heap.size,1,[],rfl,aF.new _ _ _,rfl,by decide⟩⟩ (by omega));rw[decide_eq_true hy]at KM2;obtain⟨e1,e2,e3,e4,e5⟩:=hy;obtain⟨s,rfl⟩:=dZ e1;obtain⟨l,rfl⟩:=dZ e3;have KG:=xh<|h1.o.qp (by have:=HN.o.2;omega) (show s<=7 by omega) (show l<=5 by omega) r (e5 r (by simp))
  clear e1 e2 e3 e4 e5;go_wp2_with fail;go_call KG.o as e w2 ⟨gb,ge,rfl,h2⟩;have C2:=xh<|h2.wW _ _ _ CZ.o (.inl rfl);have h2:=xh h2;clear y1 y2 y3 y4 y5;have y1:=C2.ap 1;have y2:=C2.ap 2;have y3:=C2.ap 3;have y4:=C2.ap 4;have y5:=C2.ap 5;go_wp2_with fail;go_call (KS.o _) as e w3 ⟨rfl,dk⟩;have C3:=xh<|C2.o.below dk C2.o.lt
  have h3:=xh<|h2.o.below dk;clear dk y1 y2 y3 y4 y5;have y1:=C3.ap 1;have y2:=C3.ap 2;have y4:=C3.ap 4
  by_cases g2:ge=2
  .subst g2;go_wp2;go_ret;exact LP.mk (by first|rfl|simp) (jx.o _ _ _ _ (h3.o.le (by omega) (by omega)))
  .have g3:(ge==2)=false:=by simpa using g2
   go_wp2_with fail;go_call (KM2.o w3) as e w4 ⟨rfl,fo⟩;have mK:=aC (i6 _ (WF #[U2 r] 9)) fo;have h4:=xh<|h3.o.below mK;clear fo mK y1 y2 y4;go_wp2;go_ret;exact LP.mk (by first|rfl|simp) (jx.o _ _ _ _ (h4.o.le (by omega) (by omega)))
 .have KG:=xh (λ(V:YB)=>I4 sb sp lp r (AF hy) V);clear hy;go_wp2_with fail;go_call (KG.o _) as e w2 ⟨rfl,cf⟩;have C2:=xh<|C1.o.below cf C1.o.lt;have h2:=xh<|h1.o.below cf;clear cf y1 y2 y3 y4 y5;have y1:=C2.ap 1;have y2:=C2.ap 2;have y3:=C2.ap 3;have y4:=C2.ap 4;have y5:=C2.ap 5;go_wp2_with fail;go_call (KS.o _) as e w3 ⟨rfl,dk⟩
  have C3:=xh<|C2.o.below dk C2.o.lt;have h3:=xh<|h2.o.below dk;clear dk y1 y2 y3 y4 y5;go_wp2;go_ret;exact LP.mk (by first|rfl|simp) (jx.o _ _ _ _ (h3.o.le (by omega) (by omega)))
theorem doX_set{L L0:List De}{o:List (Option (pu))}(h:LQ w W0 V sb tb xb I o K L0 L c)(hc:c<=900)(hK:K<=998000000000)(hs:s<=7)(hl:l<=5)(kd m:Int)(r til val:rd)(gZ:r.size<=30/\til.size<=30/\val.size<=100000)(lA:kd=0\/kd=1\/kd=2):
  eq prog 40 #[lc sb,lc xb,.agg (eI kd (s:Nat) (l:Nat) m r til val)] V λe V'=>LP w W0 V' sb tb xb I o (K+40000000) L0 (c+4) e:=by
 have hb:=i6 V (WF (eI kd (s:Nat) (l:Nat) m r til val) 82);have CZ:=aF.new V 82 (eI kd (s:Nat) (l:Nat) m r til val);have h0:=(h.below hb).refl;have jx:=λ(V':YB) (K':Nat) (L':List De) (c':Nat) (h':LQ w (V.alloc (WF (eI kd (s:Nat) (l:Nat) m r til val) 82)) V' sb tb xb I o K' L L' c')=>(h.below hb).trans h'
 refine(Si (sb:=sb) (xb:=xb) (sp:=(s:Nat)) (lp:=(l:Nat)) (m:=m) (r:=r) (til:=til) (val:=val) (A0:=λV'=>LQ w (V.alloc (WF (eI kd (s:Nat) (l:Nat) m r til val) 82)) V' sb tb xb I o K L L c) (A1:=λmb V'=> ∃p L',LQ w (V.alloc (WF (eI kd (s:Nat) (l:Nat) m r til val) 82)) V' sb tb xb I o K L L' (c+1)/\(((s:Int),(l:Int),mb),p)∈L') rfl ⟨λV V' h hb=>h.below hb,λV h=>h.wW _ _ _ CZ (.inl rfl)⟩ h0 (by omega) (λmb=>⟨λV V' ⟨p,L',h,hm⟩ hb=>⟨p,L',h.below hb,hm⟩,λV ⟨p,L',h,hm⟩=>h.wW _ _ _ CZ (.inl rfl)⟩) (λV' h=>(h.mQ (by omega) (s:Nat) (l:Nat)).mono λe W ⟨mb,p,L',r,h',hm⟩=>⟨mb,r,p,L',h',hm⟩) lA
  (A2:=λmb e1 V'=> ∃p L',LQ w (V.alloc (WF (eI kd (s:Nat) (l:Nat) m r til val) 82)) V' sb tb xb I o (K+100) L L' (c+1)/\(((s:Int),(l:Int),mb),p)∈L') (λmb e1=>⟨λV V' ⟨p,L',h,hm⟩ hb=>⟨p,L',h.below hb,hm⟩,λV ⟨p,L',h,hm⟩=>h.wW _ _ _ CZ (.inl rfl)⟩)
  (A3:=λmb e1 e2 V'=> ∃L',LQ w (V.alloc (WF (eI kd (s:Nat) (l:Nat) m r til val) 82)) V' sb tb xb I o (K+100) L L' (c+2)) (λmb e1 e2=>⟨λV V' ⟨L',h⟩ hb=>⟨L',h.below hb⟩,λV ⟨L',h⟩=>h.wW _ _ _ CZ (.inl rfl)⟩) ?_ ?_).mono ?_
 .rintro mb V1 ⟨p,L1,h1,BH⟩;go_call (h1.Jd (by omega) hs hl r val gZ.1 gZ.2.2) as e V2 ⟨e1,rfl,h2⟩;exact⟨_,rfl,p,L1,h2,BH⟩
 .rintro mb e1 V1 ⟨p,L1,h1,BH⟩;go_call (h1.mG (by omega) BH r val (by omega) (by omega)) as e V2 ⟨e2,L2,rfl,h2⟩;exact⟨_,rfl,L2,h2⟩
 .rintro e V2 ⟨mb,e1,e2,b,rfl,_,L2,h2⟩;exact⟨b,L2,rfl,jx _ _ _ _ (h2.le (by omega) (by omega))⟩
theorem doX_del{L L0:List De}{o:List (Option (pu))}(h:LQ w W0 V sb tb xb I o K L0 L c)(hc:c<=900)(hK:K<=998000000000)(hs:s<=7)(hl:l<=5)(kd m:Int)(r til val:rd)(gZ:r.size<=30/\til.size<=30/\val.size<=100000)(lA:kd=3):
  eq prog 40 #[lc sb,lc xb,.agg (eI kd (s:Nat) (l:Nat) m r til val)] V λe V'=>LP w W0 V' sb tb xb I o (K+40000000) L0 (c+4) e:=by
 have hb:=i6 V (WF (eI kd (s:Nat) (l:Nat) m r til val) 82);have CZ:=aF.new V 82 (eI kd (s:Nat) (l:Nat) m r til val);have h0:=(h.below hb).refl;have jx:=λ(V':YB) (K':Nat) (L':List De) (c':Nat) (h':LQ w (V.alloc (WF (eI kd (s:Nat) (l:Nat) m r til val) 82)) V' sb tb xb I o K' L L' c')=>(h.below hb).trans h'
 refine(Sj (sb:=sb) (xb:=xb) (sp:=(s:Nat)) (lp:=(l:Nat)) (m:=m) (r:=r) (til:=til) (val:=val) (A0:=λV'=>LQ w (V.alloc (WF (eI kd (s:Nat) (l:Nat) m r til val) 82)) V' sb tb xb I o K L L c) (A1:=λmb V'=> ∃p L',LQ w (V.alloc (WF (eI kd (s:Nat) (l:Nat) m r til val) 82)) V' sb tb xb I o K L L' (c+1)/\(((s:Int),(l:Int),mb),p)∈L') rfl ⟨λV V' h hb=>h.below hb,λV h=>h.wW _ _ _ CZ (.inl rfl)⟩ h0 (by omega) (λmb=>⟨λV V' ⟨p,L',h,hm⟩ hb=>⟨p,L',h.below hb,hm⟩,λV ⟨p,L',h,hm⟩=>h.wW _ _ _ CZ (.inl rfl)⟩) (λV' h=>(h.mQ (by omega) (s:Nat) (l:Nat)).mono λe W ⟨mb,p,L',r,h',hm⟩=>⟨mb,r,p,L',h',hm⟩) lA
  (A2:=λmb e1 V'=> ∃p L',LQ w (V.alloc (WF (eI kd (s:Nat) (l:Nat) m r til val) 82)) V' sb tb xb I o (K+700) L L' (c+1)/\(((s:Int),(l:Int),mb),p)∈L') (λmb e1=>⟨λV V' ⟨p,L',h,hm⟩ hb=>⟨p,L',h.below hb,hm⟩,λV ⟨p,L',h,hm⟩=>h.wW _ _ _ CZ (.inl rfl)⟩)
  (A3:=λmb e1 e2 V'=> ∃L',LQ w (V.alloc (WF (eI kd (s:Nat) (l:Nat) m r til val) 82)) V' sb tb xb I o (K+700) L L' (c+2)) (λmb e1 e2=>⟨λV V' ⟨L',h⟩ hb=>⟨L',h.below hb⟩,λV ⟨L',h⟩=>h.wW _ _ _ CZ (.inl rfl)⟩) ?_ ?_).mono ?_
 .rintro mb V1 ⟨p,L1,h1,BH⟩;go_call (h1.Je (by omega) hs hl r gZ.1) as e V2 ⟨e1,rfl,h2⟩;exact⟨_,rfl,p,L1,h2,BH⟩
 .rintro mb e1 V1 ⟨p,L1,h1,BH⟩;go_call (h1.pU BH r) as e V2 ⟨e2,L2,rfl,h2⟩;exact⟨_,rfl,L2,h2⟩
 .rintro e V2 ⟨mb,e1,e2,b,rfl,_,L2,h2⟩;exact⟨b,L2,rfl,jx _ _ _ _ (h2.le (by omega) (by omega))⟩
theorem Vm{L L0:List De}{o:List (Option (pu))}(h:LQ w W0 V sb tb xb I o K L0 L c)(hc:c<=900)(hK:K<=998000000000)(hs:s<=7)(hl:l<=5)(kd m:Int)(r til val:rd)(gZ:r.size<=30/\til.size<=30/\val.size<=100000)(lA:kd=5):
  eq prog 40 #[lc sb,lc xb,.agg (eI kd (s:Nat) (l:Nat) m r til val)] V λe V'=>LP w W0 V' sb tb xb I o (K+40000000) L0 (c+4) e:=by
 have hb:=i6 V (WF (eI kd (s:Nat) (l:Nat) m r til val) 82);have CZ:=aF.new V 82 (eI kd (s:Nat) (l:Nat) m r til val);have h0:=(h.below hb).refl;have jx:=λ(V':YB) (K':Nat) (L':List De) (c':Nat) (h':LQ w (V.alloc (WF (eI kd (s:Nat) (l:Nat) m r til val) 82)) V' sb tb xb I o K' L L' c')=>(h.below hb).trans h'
 refine(Gz (sb:=sb) (xb:=xb) (sp:=(s:Nat)) (lp:=(l:Nat)) (m:=m) (r:=r) (til:=til) (val:=val) (A0:=λV'=>LQ w (V.alloc (WF (eI kd (s:Nat) (l:Nat) m r til val) 82)) V' sb tb xb I o K L L c) (A1:=λmb V'=> ∃p L',LQ w (V.alloc (WF (eI kd (s:Nat) (l:Nat) m r til val) 82)) V' sb tb xb I o K L L' (c+1)/\(((s:Int),(l:Int),mb),p)∈L') rfl ⟨λV V' h hb=>h.below hb,λV h=>h.wW _ _ _ CZ (.inl rfl)⟩ h0 (by omega) (λmb=>⟨λV V' ⟨p,L',h,hm⟩ hb=>⟨p,L',h.below hb,hm⟩,λV ⟨p,L',h,hm⟩=>h.wW _ _ _ CZ (.inl rfl)⟩) (λV' h=>(h.mQ (by omega) (s:Nat) (l:Nat)).mono λe W ⟨mb,p,L',r,h',hm⟩=>⟨mb,r,p,L',h',hm⟩) lA
  (A2:=λmb e1 er V'=> ∃p L',LQ w (V.alloc (WF (eI kd (s:Nat) (l:Nat) m r til val) 82)) V' sb tb xb I o (K+30000000) L L' (c+1)/\(((s:Int),(l:Int),mb),p)∈L') (λmb e1 er=>⟨λV V' ⟨p,L',h,hm⟩ hb=>⟨p,L',h.below hb,hm⟩,λV ⟨p,L',h,hm⟩=>h.wW _ _ _ CZ (.inl rfl)⟩)
  (A3:=λmb e1 er e2 V'=> ∃L',LQ w (V.alloc (WF (eI kd (s:Nat) (l:Nat) m r til val) 82)) V' sb tb xb I o (K+30000000) L L' (c+2)) (λmb e1 er e2=>⟨λV V' ⟨L',h⟩ hb=>⟨L',h.below hb⟩,λV ⟨L',h⟩=>h.wW _ _ _ CZ (.inl rfl)⟩) ?_ ?_).mono ?_
 .rintro mb V1 ⟨p,L1,h1,BH⟩;go_call (h1.yI (by omega) hs hl r til gZ.1 gZ.2.1) as e V2 ⟨e1,er,rfl,h2⟩;exact⟨_,_,rfl,p,L1,h2,BH⟩
 .rintro mb e1 er V1 ⟨p,L1,h1,BH⟩;go_call (h1.l5 BH r til) as e V2 ⟨e2,L2,rfl,h2⟩;exact⟨_,rfl,L2,h2⟩
 .rintro e V2 ⟨mb,e1,er,e2,b,rfl,_,L2,h2⟩;exact⟨b,L2,rfl,jx _ _ _ _ (h2.le (by omega) (by omega))⟩
theorem doX_asks{L L0:List De}{o:List (Option (pu))}(h:LQ w W0 V sb tb xb I o K L0 L c)(hc:c<=900)(hK:K<=998000000000)(hs:s<=7)(hl:l<=5)(kd m:Int)(r til val:rd)(gZ:r.size<=30/\til.size<=30/\val.size<=100000)(lA:¬(kd=0\/kd=1\/kd=2\/kd=3\/kd=5\/kd=6\/kd=7\/kd=8)):
  eq prog 40 #[lc sb,lc xb,.agg (eI kd (s:Nat) (l:Nat) m r til val)] V λe V'=>LP w W0 V' sb tb xb I o (K+40000000) L0 (c+4) e:=by
 have hb:=i6 V (WF (eI kd (s:Nat) (l:Nat) m r til val) 82);have CZ:=aF.new V 82 (eI kd (s:Nat) (l:Nat) m r til val);have h0:=(h.below hb).refl;have jx:=λ(V':YB) (K':Nat) (L':List De) (c':Nat) (h':LQ w (V.alloc (WF (eI kd (s:Nat) (l:Nat) m r til val) 82)) V' sb tb xb I o K' L L' c')=>(h.below hb).trans h'
 refine(MH (sb:=sb) (xb:=xb) (sp:=(s:Nat)) (lp:=(l:Nat)) (m:=m) (r:=r) (til:=til) (val:=val) (A0:=λV'=>LQ w (V.alloc (WF (eI kd (s:Nat) (l:Nat) m r til val) 82)) V' sb tb xb I o K L L c) (A1:=λmb V'=> ∃p L',LQ w (V.alloc (WF (eI kd (s:Nat) (l:Nat) m r til val) 82)) V' sb tb xb I o K L L' (c+1)/\(((s:Int),(l:Int),mb),p)∈L') rfl ⟨λV V' h hb=>h.below hb,λV h=>h.wW _ _ _ CZ (.inl rfl)⟩ h0 (by omega) (λmb=>⟨λV V' ⟨p,L',h,hm⟩ hb=>⟨p,L',h.below hb,hm⟩,λV ⟨p,L',h,hm⟩=>h.wW _ _ _ CZ (.inl rfl)⟩) (λV' h=>(h.mQ (by omega) (s:Nat) (l:Nat)).mono λe W ⟨mb,p,L',r,h',hm⟩=>⟨mb,r,p,L',h',hm⟩) lA
  (A3:=λmb b V'=> ∃L',LQ w (V.alloc (WF (eI kd (s:Nat) (l:Nat) m r til val) 82)) V' sb tb xb I o (K+900000) L L' (c+2)) ?_).mono ?_
 .rintro mb V1 ⟨p,L1,h1,BH⟩;have aO:=i6 V1 (WF (eI kd (s:Nat) (l:Nat) m r til val) 82);have CZ1:=aF.new V1 82 (eI kd (s:Nat) (l:Nat) m r til val);have h10:=(h1.below aO).refl;have hp1:=h1.pl BH
  refine(Eb (sb:=sb) (mb:=mb) (p:=p) (A:=λi V'=>LQ w (V1.alloc (WF (eI kd (s:Nat) (l:Nat) m r til val) 82)) V' sb tb xb I o (K+i*300000) L1 L1 (c+1)) rfl (λi=>⟨λV V' h hb=>h.below hb,λV h=>h.wW _ _ _ CZ1 (.inl rfl)⟩) (h10.le (by omega) (ai _)) (λi V' h=>h.d.m _ BH) (by omega)
   (G1:=λ_ _=>True) (G2:=λ_ _=>True) (G3:=λ_ _=>True) ?_ ?_ ?_).mono ?_
  .intro V2 h2;go_call (h2.qp (by omega) hs hl r gZ.1) as e V3 ⟨b1,e1,rfl,h3⟩;exact⟨b1,e1,rfl,trivial,h3.le (by omega) (ai _)⟩
  .intro V2 h2;go_call (h2.pW (by omega) hs hl r til gZ.1 gZ.2.1 m) as e V3 ⟨v,l2,e2,rfl,S,JI,h3⟩;exact⟨v,l2,e2,rfl,trivial,S,JI,h3.le (by omega) (ai _)⟩
  .intro V2 h2;go_call (h2.D9 (by omega) hs hl r til gZ.1 gZ.2.1) as e V3 ⟨x,er,rfl,hf,h3⟩;exact⟨x,er,rfl,trivial,hf,h3.le (by omega) (ai _)⟩
  .rintro e V2 ⟨b,rfl,_,h2⟩;exact⟨b,rfl,L1,((h1.below aO).trans h2).le (by omega) (by omega)⟩
 .rintro e V2 ⟨mb,b,rfl,L2,h2⟩;exact⟨b,L2,rfl,jx _ _ _ _ (h2.le (by omega) (by omega))⟩
theorem doX_any{L L0:List De}{o:List (Option (pu))}(h:LQ w W0 V sb tb xb I o K L0 L c)(hc:c<=900)(hK:K<=998000000000)(kd sp lp m:Int)(r til val:rd)(gZ:r.size<=100000/\val.size<=100000)(hm: -9223372036854775808<=m/\m<=9223372036854775807):
  eq prog 40 #[lc sb,lc xb,.agg (eI kd sp lp m r til val)] V λe V'=>LP w W0 V' sb tb xb I o (K+40000000) L0 (c+4) e:=by
 by_cases h67:kd=6\/kd=7
 .exact doX_adds h hc hK kd sp lp m r til val gZ.1 hm h67
 by_cases h8:kd=8
 .exact MJ h hc hK kd sp lp m r til val gZ.1 h8
 by_cases hy:0<=sp/\sp<=7/\0<=lp/\lp<=5/\∀x∈[r,til],x.size<=30
 .obtain⟨e1,e2,e3,e4,e5⟩:=hy;obtain⟨s,rfl⟩:=dZ e1;obtain⟨l,rfl⟩:=dZ e3;have hr:=e5 r (by simp);have ht:=e5 til (by simp)
  by_cases h0:kd=0\/kd=1\/kd=2
  .exact doX_set h hc hK (by omega) (by omega) kd m r til val ⟨hr,ht,gZ.2⟩ h0
  by_cases h3:kd=3
  .exact doX_del h hc hK (by omega) (by omega) kd m r til val ⟨hr,ht,gZ.2⟩ h3
  by_cases h5:kd=5
  .exact Vm h hc hK (by omega) (by omega) kd m r til val ⟨hr,ht,gZ.2⟩ h5
  exact doX_asks h hc hK (by omega) (by omega) kd m r til val ⟨hr,ht,gZ.2⟩ (by omega)
 .exact doX_no h hc hK kd sp lp m r til val ⟨h67,h8⟩ hy
end Sh
namespace Sh
open Go.RowKit Pk Dk Pg
open Nd (E aS aZ et bI bg cG bR)
variable{q:QS}{k:Nat}{M:List PR}
def qU(q:QS):Prop:= ∀f∈q.l,f.cF=false
theorem Jf(h:qU q)(k:Nat):(kA q.l k).cF=false:=by
 unfold kA
 cases hx:q.l[k]? with
 |none=>rfl
 |some f=>exact h f (aA hx)
theorem AG{q':QS}(h:qU q){f:Fr}(e:q'.l=q.l.set k f)(hf:f.cF=false):qU q':=λg hg=>by
 rw[e]at hg;exact(vz hg).elim (h g) (λe=>by rw[e];exact hf)
theorem MK(h:qU q):qU q.turn:=h
theorem Ec:∀(m:Nat) {q:QS},qU q->qU (q.kt m).1
 |0,_,h=>h
 |m+1,q,h=>by
  rw[OV]
  split
  .exact Ec m (MK h)
  .split
   .exact Ec m (AG h rfl (Jf h _))
   .exact MK h
theorem vq(h:qU q):qU q.aN.1:=by
 unfold QS.aN
 split
 .exact h
 .exact Ec _ h
theorem back_cln(h:qU q)(k:Nat):q.cA k=(q,0):=by
 unfold QS.cA;rw[Jf h k,i8]
theorem hold_cln(h:qU q)(p:Int):qU (q.bh p).1/\(q.bh p).2.2≠11:=by
 unfold QS.bh
 split
 .exact⟨AG h rfl (Jf h _),by show(0:Int)≠11;decide⟩
 .split
  .refine⟨h,?_⟩;show(q.a.aP p).2≠11;unfold St.aP
   split
   .show(0:Int)≠11;decide
   .show(3:Int)≠11;decide
  .split
   .exact⟨vq h,by show(12:Int)≠11;decide⟩
   .rw[back_cln (vq h)]
    split
    .rename_i h0;exact absurd rfl h0
    .exact⟨AG (vq h) rfl rfl,by show(0:Int)≠11;decide⟩
theorem let_cln(h:qU q)(p:Int):qU (q.iT p).1:=by
 unfold QS.iT QS.iS
 split
 .exact h
 .rename_i k f hk
  split at hk
  .cases hk
  .split at hk
   .cases hk
   .rename_i f' hf
    split at hk
    .cases hk
    .injection hk with hk
     injection hk with h1 h2
     subst h1 h2;exact AG h rfl (show f'.cF=false from h f' (aA hf))
theorem Sk(h:qU q)(p:Int):qU (q.dN p).1/\(q.dN p).2.2≠11:=by
 obtain⟨a,b⟩:=hold_cln h p;unfold QS.dN
 split
 .exact⟨a,b⟩
 .exact⟨let_cln a p,by show(0:Int)≠11;decide⟩
theorem QJ{e:Int}(h:e≠11):wG e≠11:=by
 unfold wG
 split
 .decide
 .exact h
theorem Vn(h:qU q)(p:Int):qU (q.eX p).1/\(q.eX p).2.2.2≠11:=by
 obtain⟨a,b⟩:=Sk h p;unfold QS.eX
 split
 .exact⟨a,b⟩
 .split
  .exact⟨a,by show(14:Int)≠11;decide⟩
  .exact⟨a,by show(0:Int)≠11;decide⟩
theorem GB:∀(m:Nat) {q:QS} (_:qU q) (p:Int) (l:List Int) (b:pu),qU (q.kZ m p l b).1/\(q.kZ m p l b).2.2.2≠11
 |0,_,h,_,_,_=>⟨h,by show(14:Int)≠11;decide⟩
 |m+1,q,h,p,l,b=>by
  obtain⟨a,c⟩:=Vn h p;unfold QS.kZ
  split
  .exact⟨a,by show(14:Int)≠11;decide⟩
  .split
   .exact⟨a,c⟩
   .split
    .exact⟨a,by show(14:Int)≠11;decide⟩
    .split
     .exact⟨a,by show(0:Int)≠11;decide⟩
     .exact GB m a _ _ _
theorem Vo(h:qU q)(x:E):qU (q.eH x).1/\(q.eH x).2.2≠11:=by
 unfold QS.eH
 split
 .exact⟨h,by show(0:Int)≠11;decide⟩
 .obtain⟨a,b⟩:=GB 5 h x.aY [] [];exact⟨a,QJ b⟩
theorem get_11(b:pu):(aS b).2.2≠11:=by
 unfold aS
 split
 .rename_i h;show Sl.cC b≠11;unfold Sl.cC
  repeat' split
  all_goals decide
 .split
  .show(0:Int)≠11;decide
  .show(14:Int)≠11;decide
theorem GC(h:qU q)(p:Int):qU (q.bF p).1/\(q.bF p).2.2.2≠11:=by
 obtain⟨a,b⟩:=Sk h p;unfold QS.bF
 split
 .exact⟨a,QJ b⟩
 .exact⟨a,QJ (get_11 _)⟩
section
variable{σ:Type}
theorem wX(rec:QS->Nat->σ->Int->Wk σ)(step:E->σ->σ×Bool)(fr til:rd)(leaf:Bool)(first:Nat)(hr:∀q n s p,qU q->qU (rec q n s p).q/\(rec q n s p).e≠11):∀(l:List E) (i:Nat) (q:QS) (seen:Nat) (s:σ),qU q->qU (gr rec step fr til leaf first i l q seen s).q/\(gr rec step fr til leaf first i l q seen s).e≠11
 |[],_,_,_,_,h=>⟨h,by show(0:Int)≠11;decide⟩
 |x::l,i,q,seen,s,h=>by
  unfold gr
  split
  .exact wX rec step fr til leaf first hr l _ _ _ _ h
  .split
   .exact⟨h,by show(0:Int)≠11;decide⟩
   .split
    .split
     .exact wX rec step fr til leaf first hr l _ _ _ _ h
     .exact⟨h,by show(0:Int)≠11;decide⟩
    .split
     .exact wX rec step fr til leaf first hr l _ _ _ _ (hr _ _ _ _ h).1
     .exact hr _ _ _ _ h
theorem GF(step:E->σ->σ×Bool)(fr til:rd):∀(d:Nat) (q:QS) (seen:Nat) (s:σ) (p:Int),qU q->qU (fJ step fr til d q seen s p).q/\(fJ step fr til d q seen s p).e≠11
 |0,_,_,_,_,h=>⟨h,by show(14:Int)≠11;decide⟩
 |d+1,q,seen,s,p,h=>by
  unfold fJ
  split
  .exact⟨h,by show(14:Int)≠11;decide⟩
  .obtain⟨a,b⟩:=GC h p
   split
   .exact⟨a,b⟩
   .exact wX _ step fr til _ _ (GF step fr til d) _ _ _ _ _ a
end
theorem ML:∀(l:List E) (q:QS) (out:List PR),qU q->qU (kK l q out).1/\(kK l q out).2.2≠11
 |[],_,_,h=>⟨h,by show(0:Int)≠11;decide⟩
 |x::l,q,out,h=>by
  obtain⟨a,b⟩:=Vo h x;unfold kK
  split
  .exact⟨a,b⟩
  .exact ML l _ _ a
theorem scan_cln(h:qU q)(fr til:rd)(n:Int):qU (q.fS fr til n).1/\(q.fS fr til n).2.2≠11:=by
 obtain⟨a,b⟩:=GF (j6 n) fr til 16 q 0 [] 0 h;unfold QS.fS
 split
 .exact⟨a,b⟩
 .exact ML _ _ _ a
theorem Vp(q:QS):qU q.cq:=λf hf=>by rw[show f=Fr.nil from oP hf];rfl
theorem open_cln(h:qU q)(hp:q.a.je.length≠0):qU q.j0.1:=by
 unfold QS.j0 QS.wL;rw[if_neg hp,i8];exact(GC h 0).1
def CO(o:List (Option (pu)))(M:List PR):Prop:= ∃v H Mt,Tree v H Mt/\jy Mt=M/\H<=15/\M.length<=30/\iE M/\∀q:QS,q.a.bj=o->∀j,q.ov j=v j
def Bk(q:QS)(M:List PR):Prop:=qU q/\∃v u H Mt,Rd q v v u 0/\Tree v H Mt/\jy Mt=M/\H<=15/\M.length<=30/\iE M
theorem SI.kx(h:SI q M k)(hk:k<=26)(hK:∃n K,Wp q n K/\K<=999999999000):q.aQ.2=0/\CO q.aQ.1.a.bj M:=by
 obtain⟨v,o,u,H,Mt,R,T,e,hH,hp,hu,hl,hM,hv⟩:=h
 rcases R.kx hK with⟨a,b⟩|⟨_,_,c⟩
 .exact⟨a,v,H,Mt,T,e,hH,by omega,hM,λq' hq j=>(Fq hq j).trans (b.o j)⟩
 .exfalso;unfold cU at c;omega
theorem CO.back(h:CO q.a.bj M)(hw:∃n K,Wp q n K):q.cq.j0.2=0/\q.cq.a.je.length≠0/\Bk q.cq.j0.1 M:=by
 obtain⟨v,H,Mt,T,e,hH,hl,hM,ho⟩:=h;have R:Rd q q.vw v (q.a.now.length+q.a.kept) 0:=⟨hw,λ_=>rfl,ho q rfl,ai _,aW _⟩;obtain⟨u',R',e'⟩:=Qx R T;obtain⟨u2,R2⟩:=R.abort;have h0:(v 0).2=0:=T.zy 0 (by rw[oM];simp);have hp:=Mc R2.w (j:=0) (by rw[R2.v];exact h0);exact⟨e',hp,open_cln (Vp q) hp,v,u',H,Mt,R',T,e,hH,hl,hM⟩
theorem Bk.scan(h:Bk q M){s l:Nat}(hs:s<=7)(hl:l<=5):Bk (q.fS (aD s l++⟨#[]⟩) (iI s l ⟨#[]⟩) 1099511627776).1 M/\(q.fS (aD s l++⟨#[]⟩) (iI s l ⟨#[]⟩) 1099511627776).2.2=0/\(q.fS (aD s l++⟨#[]⟩) (iI s l ⟨#[]⟩) 1099511627776).2.1.map mW=aE s l M:=by
 obtain⟨hc,v,u,H,Mt,R,T,e,hH,hM,hk⟩:=h;obtain⟨a,b⟩:=Gh R T hH (aD s l++⟨#[]⟩) (iI s l ⟨#[]⟩) 1099511627776;obtain⟨c1,c2⟩:=scan_cln hc (aD s l++⟨#[]⟩) (iI s l ⟨#[]⟩) 1099511627776;rw[e]at b;have b':=b.resolve_left (λhh=>c2 hh.1);refine⟨⟨c1,v,u,H,Mt,a,T,e,hH,hM,hk⟩,by rw[b'],?_⟩;rw[b'];show((M.filter (k9 (aD s l++⟨#[]⟩) (iI s l ⟨#[]⟩))).take _).map mW=_;have h1:=oC (k9 (aD s l++⟨#[]⟩) (iI s l ⟨#[]⟩)) M
 rw[cm (by omega),DW,show iI s l ⟨#[]⟩=aD s (l+1)from if_pos rfl];rfl
theorem yJ{w:YB}{sb:Nat}{a b c:YO}(B:aF w sb 182 #[a,b,c]):eq prog 48 #[lc sb] w λe w'=>e=BY b/\i7 w w':=by
 have x1:=B.bi 1;have O0:=xh<|i5 w;have O1:=xh (i5 w).drew;clear B;go_in;go_wp2;go_ret;exact aI (by first|exact O0.o|exact O1.o)
section
variable{w W:YB}{sb tb xb:Nat}{I:Ix}{M:List PR}{L:List De}{k K:Nat}
theorem SY.Jg(h:SY w W sb tb I M k K):eq prog 48 #[lc sb] W λe W'=>e=BY (pp I.pb)/\i7 W W':=by
 obtain⟨F,q,A,S⟩:=h;exact yJ A.b
theorem SY.uI(h:SY w W sb tb I M k K)(D:DX W w.heap.size xb L)(hk:k<=26)(hK:K<=999999000000):
  eq prog 50 #[pp I.pb] W λe W'=>e=BY (U5 By 0)/\∃o,CO o M/\SX w W' sb tb I o (K+40)/\DX W' w.heap.size xb L/\jI W W':=by
 obtain⟨F,q,A,S⟩:=h;obtain⟨a,b⟩:=S.kx hk ⟨_,_,A.t.2.wp,by omega⟩;go_call (Kl A.t.2 (by omega)) as e W' ⟨rfl,p⟩;rw[a];obtain⟨F',A'⟩:=A.pt p;obtain⟨F2,P,oo,f⟩:=p;exact⟨rfl,_,b,⟨F',_,A',rfl⟩,D.pq A.t.2 oo,jI.pq oo A.t.2⟩
end
def SB(w W:YB)(sb:Nat)(I:Ix)(M:List PR)(K:Nat):Prop:= ∃tb F q,aF W sb 182 #[tp tb,pp I.pb,U6 false]/\TQ W tb I F q 1202 K/\i7 w W/\(∀g∈sb::tb::F,w.heap.size<=g)/\Bk q M
section
variable{w W W':YB}{sb tb xb:Nat}{I:Ix}{M:List PR}{L:List De}{k K:Nat}{o:List (Option (pu))}
theorem SB.below(h:SB w W sb I M K)(hb:i7 W W'):SB w W' sb I M K:=by
 obtain⟨tb,F,q,B,T,O,f,b⟩:=h;exact⟨tb,F,q,B.below hb B.lt,T.below hb,aC O hb,f,b⟩
theorem SB.bel(h:SB w W sb I M K):i7 w W:=by
 obtain⟨tb,F,q,B,T,O,f,b⟩:=h;exact O
def PB2(w W:YB)(I:Ix)(M:List PR)(K:Nat):Prop:= ∃(F:List Nat) (q:QS),PQ W I F q.cq 1202 K/\i7 w W/\(∀g∈F,w.heap.size<=g)/\q.cq.j0.2=0/\q.cq.a.je.length≠0/\Bk q.cq.j0.1 M
theorem PB2.below(h:PB2 w W I M K)(hb:i7 W W'):PB2 w W' I M K:=by
 obtain⟨F,q,P,O,f,e⟩:=h;exact⟨F,q,P.below hb,aC O hb,f,e⟩
theorem SX.Jg(h:SX w W sb tb I o K):eq prog 48 #[lc sb] W λe W'=>e=BY (pp I.pb)/\i7 W W':=by
 obtain⟨F,q,A,S⟩:=h;exact yJ A.b
theorem SX.xH(h:SX w W sb tb I o K)(hM:CO o M):
  eq prog 51 #[pp I.pb] W λe W'=>e=BY (U6 true)/\PB2 w W' I M K/\aF W' sb 182 #[tp tb,pp I.pb,U6 true]/\vk W W' xb L:=by
 obtain⟨F,q,A,rfl⟩:=h;obtain⟨a,b,c⟩:=hM.back ⟨_,_,A.t.2.wp⟩;go_call (Pn A.t.2) as e W' ⟨rfl,p⟩;obtain⟨F',A'⟩:=A.pt p;obtain⟨F2,P,oo,f⟩:=p;exact⟨rfl,⟨F',q,A'.t.2,A'.o,λg hg=>A'.f g (by simp[hg]),a,b,c⟩,A'.b,vk.pq oo A.t.2⟩
theorem PB2.open_any(h:PB2 w W I M K)(hK:K<=999999000000):
  eq prog 45 #[pp I.pb] W λe W'=> ∃sb',e=BY (U8 #[U7 (some ⟨sb',0,none⟩),U5 By 0])/\SB w W' sb' I M (K+2)/\vk W W' xb L:=by
 obtain⟨F,q,P,O,f,a,b,c⟩:=h;go_call (Gm P (by omega)) as e W' ⟨v,rfl,F',oo,ff,P',h1,h2⟩;obtain⟨sb',tb',rfl,hs,ht,B,T⟩:=h2 a;rw[decide_eq_false b]at B;have hz:=O.size;rw[a];refine⟨sb',rfl,⟨tb',F',_,B,T,O.trans (oo.aK O.size f),λg hg=>?_,c⟩,vk.pq oo P⟩;simp only[ar]at hg
 rcases hg with rfl|rfl|hg
 .omega
 .omega
 .exact(ff g hg).elim (f g) (λh=>by omega)
theorem SB.fresh(h:SB w W sb I M K):eq prog 49 #[lc sb] W λe W'=>e=BY (U6 false)/\i7 W W':=by
 obtain⟨tb,F,q,B,T,O,f,b⟩:=h;exact DM B
theorem SB.pW(h:SB w W sb I M K)(hK:K<=999900000000){s l:Nat}(hs:s<=7)(hl:l<=5):
  eq prog 41 #[U7 (some ⟨sb,0,none⟩),U5 By (s:Nat),U5 By (l:Nat),U2 ⟨#[]⟩,U2 ⟨#[]⟩,U5 By 1099511627776] W λe W'=> ∃v,e=BY (U8 #[v,U5 By 0])/\aM W' 42 2 v (aE s l M).length (iQ (aE s l M))/\(aE s l M).length<=30/\SB w W' sb I M (K+300000)/\vk W W' xb L:=by
 obtain⟨tb,F,q,B,T,O,f,b⟩:=h;obtain⟨s1,s2⟩:=Gv q s l ⟨#[]⟩ ⟨#[]⟩ 1099511627776;obtain⟨b1,b2,b3⟩:=b.scan hs hl;go_call (yF B T hK s l hs hl ⟨#[]⟩ ⟨#[]⟩ (by show(0:Nat)<=30;omega) (by show(0:Nat)<=30;omega) 1099511627776 s1 s2) as e W' ⟨v,rfl,S,P,oo,_⟩;rw[b3]at S;rw[b2];have hlen:(aE s l M).length<=30:=by
  obtain⟨_,_,_,_,_,_,_,_,_,hl,_⟩:=b;have:=ly s l M;omega
 have fF:sb∉F:=T.2.fI B;exact⟨v,rfl,S,hlen,⟨tb,F,_,B.only oo fF,T.next oo P,O.trans (oo.aK O.size (λg hg=>f g (by simp[hg]))),f,b1⟩,vk.pq oo T.2⟩
end
open Go.RowKit Go.ChangeShapes Go.WideShapes Go.Deep Pk Dk Pg
structure MW where
 kd:Int
 sp:Int
 lp:Int
 n:Int
 key:rd
 til:rd
 val:rd
def MW.cs(x:MW):Array YO:= #[U5 By x.kd,U5 By x.sp,U5 By x.lp,U5 By x.n,U2 x.key,U2 x.til,U2 x.val]
def Sm(x:Int):Prop:= -9223372036854775808<=x/\x<=9223372036854775807
def MW.ok(x:MW):Prop:=(Sm x.kd/\Sm x.sp/\Sm x.lp/\Sm x.n)/\x.key.size<=it/\x.til.size<=it/\x.val.size<=it
theorem Vq{H:Type}{enc:pm×YO->H}{P:Program}{w:YB}{t:pm}{f0 f1 f2 f3 f4 f5 f6:Field}{fuel:Nat}{cs:List YO}{x:DataW H×List MemPlace}
  (hs:P.underlying t=some (.struct #[f0,f1,f2,f3,f4,f5,f6]))(hC:P.cellsOf t=7)(o0:f0.offset=0)(o1:f1.offset=1)(o2:f2.offset=2)(o3:f3.offset=3)(o4:f4.offset=4)(o5:f5.offset=5)(o6:f6.offset=6)(k0:P.cellsOf f0.type=1)(k1:P.cellsOf f1.type=1)(k2:P.cellsOf f2.type=1)(k3:P.cellsOf f3.type=1)(k4:P.cellsOf f4.type=1)(k5:P.cellsOf f5.type=1)(k6:P.cellsOf f6.type=1)
  (u0:P.underlying f0.type=some (.int By))(u1:P.underlying f1.type=some (.int By))(u2:P.underlying f2.type=some (.int By))(u3:P.underlying f3.type=some (.int By))(u4:P.underlying f4.type=some .string)(u5:P.underlying f5.type=some .string)(u6:P.underlying f6.type=some .string)
  (h:DataW.trod enc P w 0 (λ_=>true) true fuel t cs=some x):∃y:MW,cs=y.cs.toList/\y.ok:=by
 obtain⟨xs,n,_,_,hl,EM,hf⟩:=DataW.trod_struct hs h;obtain⟨c0,c1,c2,c3,c4,c5,c6,rfl⟩:∃a b c d e f g,cs=[a,b,c,d,e,f,g]:=by
  match cs,hl.trans hC with
  |[a,b,c,d,e,f,g],_=>exact⟨a,b,c,d,e,f,g,rfl⟩
 obtain⟨y0,y1,y2,y3,y4,y5,y6,rfl⟩:∃a b c d e f g,xs=[a,b,c,d,e,f,g]:=by
  match xs,EM with
  |[a,b,c,d,e,f,g],_=>exact⟨a,b,c,d,e,f,g,rfl⟩
 have g0:=hf 0 f0 rfl;have g1:=hf 1 f1 rfl;have g2:=hf 2 f2 rfl;have g3:=hf 3 f3 rfl;have g4:=hf 4 f4 rfl;have g5:=hf 5 f5 rfl;have g6:=hf 6 f6 rfl;rw[o0,k0]at g0;rw[o1,k1]at g1;rw[o2,k2]at g2;rw[o3,k3]at g3;rw[o4,k4]at g4;rw[o5,k5]at g5;rw[o6,k6]at g6;simp only[GM,GL,qe,jA]at g0 g1 g2 g3 g4 g5 g6;obtain⟨r0,Pd,-,wf0⟩:=DataW.trod_int u0 (x:=y0) (by simpa using g0)
 obtain⟨r1,hr1,-,wf1⟩:=DataW.trod_int u1 (x:=y1) (by simpa using g1);obtain⟨r2,hr2,-,wf2⟩:=DataW.trod_int u2 (x:=y2) (by simpa using g2);obtain⟨r3,hr3,-,wf3⟩:=DataW.trod_int u3 (x:=y3) (by simpa using g3);obtain⟨r4,hr4,-,s4⟩:=DataW.trod_string u4 (x:=y4) (by simpa using g4);obtain⟨r5,hr5,-,s5⟩:=DataW.trod_string u5 (x:=y5) (by simpa using g5);obtain⟨r6,hr6,-,s6⟩:=DataW.trod_string u6 (x:=y6) (by simpa using g6);simp only[List.cons.injEq,and_true]at Pd hr1 hr2 hr3 hr4 hr5 hr6
 subst Pd hr1 hr2 hr3 hr4 hr5 hr6;have b0:Sm r0:=by have:=Go.bounds_i64 wf0;unfold Sm;omega
 have b1:Sm r1:=by have:=Go.bounds_i64 wf1;unfold Sm;omega
 have b2:Sm r2:=by have:=Go.bounds_i64 wf2;unfold Sm;omega
 have b3:Sm r3:=by have:=Go.bounds_i64 wf3;unfold Sm;omega
 exact⟨⟨r0,r1,r2,r3,r4,r5,r6⟩,rfl,⟨b0,b1,b2,b3⟩,s4,s5,s6⟩
end Sh
namespace Sh
open Go.RowKit Pk Dk Pg Go.Deep Go.ChangeShapes Go.WideShapes
variable{w w':YB}{n fuel:Nat}{cs:List YO}
instance:Inhabited MW:=⟨⟨0,0,0,0,.empty,.empty,.empty⟩⟩
structure zF(w:YB)(ad:Addr)(a:MW):Prop where
 c0:w.cell? ad=some (U5 By a.kd)
 c1:w.cell? ⟨ad.block,ad.off+1,none⟩=some (U5 By a.sp)
 c2:w.cell? ⟨ad.block,ad.off+2,none⟩=some (U5 By a.lp)
 c3:w.cell? ⟨ad.block,ad.off+3,none⟩=some (U5 By a.n)
 c4:w.cell? ⟨ad.block,ad.off+4,none⟩=some (U2 a.key)
 c5:w.cell? ⟨ad.block,ad.off+5,none⟩=some (U2 a.til)
 c6:w.cell? ⟨ad.block,ad.off+6,none⟩=some (U2 a.val)
def qO(w:YB)(A:Option Addr)(n:Nat)(F:Nat->MW):Prop:= ∀k,k<n->∃ad,A=some ad/\zF w (ad.add (k*7)) (F k)/\(F k).ok
theorem zF.below{ad:Addr}{a:MW}(h:zF w ad a)(hb:i7 w w'):zF w' ad a:=by
 have ef:=cZ h.c0;have e:∀j:Nat,w'.cell? ⟨ad.block,ad.off+j,none⟩=w.cell? ⟨ad.block,ad.off+j,none⟩:=λj=>hb.cell (p:=⟨ad.block,ad.off+j,none⟩) ef;exact⟨(hb.cell ef).trans h.c0,(e 1).trans h.c1,(e 2).trans h.c2,(e 3).trans h.c3,(e 4).trans h.c4,(e 5).trans h.c5,(e 6).trans h.c6⟩
theorem qO.below{A:Option Addr}{F:Nat->MW}(h:qO w A n F)(hb:i7 w w'):qO w' A n F:=by
 intro k hk;obtain⟨ad,e,h1,h2⟩:=h k hk;exact⟨ad,e,h1.below hb,h2⟩
theorem add_ats(a:Addr)(i j:Nat)(hj:0<j):(a.add i).add j=⟨(a.add i).block,(a.add i).off+j,none⟩:=by
 rw[Addr.add,gc]
theorem Vr(a:Addr):a.add 0=a:=by simp[Addr.add]
theorem QK{α:Type}[Inhabited α]{p:Nat->α->Prop}(h:∀k,k<n->∃x,p k x):∃F:Nat->α,∀k,k<n->p k (F k):=by
 refine⟨λk=>if hk:k<n then Classical.choose (h k hk)else default,λk hk=>?_⟩;show p k (if hk:k<n then Classical.choose (h k hk)else default);rw[dif_pos hk];exact Classical.choose_spec (h k hk)
theorem MM{H:Type}{enc:pm×YO->H}{x:DataW H×List MemPlace}(h:DataW.trod enc prog w 0 (λ_=>true) true fuel 82 cs=some x):∃y:MW,cs=y.cs.toList/\y.ok:=
 Vq underlying82 (by kernel_rfl) rfl rfl rfl rfl rfl rfl rfl (by kernel_rfl) (by kernel_rfl) (by kernel_rfl) (by kernel_rfl) (by kernel_rfl) (by kernel_rfl) (by kernel_rfl) underlying3 underlying3 underlying3 underlying3 underlying9 underlying9 underlying9 h
theorem Jh{H:Type}{enc:pm×YO->H}{x:DataW H×List MemPlace}(h:DataW.trod enc prog w 0 (λ_=>true) true fuel 80 cs=some x):
  ∃(A:Option Addr) (n c:Nat) (F:Nat->MW),cs=[U3 A n c]/\n<=9223372036854775807/\qO w A n F:=by
 have hce:prog.cellsOf 82=7:=by kernel_rfl
 rcases open_slice underlying80 h with⟨Wl,_⟩|⟨a,len',Hb,m,n,D,Pl,Wl,_,hl,hm,hmm,_,jU⟩
 .exact⟨none,0,0,λ_=>default,Wl,aW _,λk hk=>absurd hk (by omega)⟩
 .simp at hmm;have each:∀k,k<len'->∃x:MW,zF w (a.add (k*7)) x/\x.ok:=by
   intro k hk;obtain⟨cs',hcs',IG⟩:=jU k (by omega);rw[hce]at hcs';obtain⟨_,_,IY⟩:=World.cells?_some hcs';obtain⟨y,rfl,hy⟩:=MM IG;have g0:=IY 0 (by omega);have g1:=IY 1 (by omega);have g2:=IY 2 (by omega);have g3:=IY 3 (by omega);have g4:=IY 4 (by omega);have g5:=IY 5 (by omega);have g6:=IY 6 (by omega);rw[Vr]at g0;rw[add_ats _ _ _ (by omega)]at g1 g2 g3 g4 g5 g6;exact⟨y,⟨g0,g1,g2,g3,g4,g5,g6⟩,hy⟩
  obtain⟨F,hF⟩:=QK (p:=λk x=>zF w (a.add (k*7)) x/\x.ok) each;exact⟨some a,len',Hb,F,Wl,by unfold it at hm;omega,λk hk=>⟨a,rfl,hF k hk⟩⟩
theorem Ed{H:Type}{enc:pm×YO->H}{base:Nat}{v:YO}{d:DataW H}{ps:List MemPlace}(gj:Value.okWide prog w .any base 80 v)(h:DataW.Trod enc prog w 0 (λ_=>true) true 80 v d ps):
  ∃(A:Option Addr) (n c:Nat) (F:Nat->MW),v=U3 A n c/\n<=9223372036854775807/\qO w A n F:=by
 obtain⟨a0,len,cap,rfl⟩:=Go.WideShapes.okWide_slice underlying80 gj;obtain⟨fuel,hf⟩:=h;obtain⟨A,n,c,F,e,h1,h2⟩:=Jh (cs:=[U3 a0 len cap]) (by simpa [Value.cells]using hf);simp only[List.cons.injEq,and_true]at e;exact⟨A,n,c,F,e,h1,h2⟩
open Go.RowKit Pk Dk Pg
variable{s l:Nat}{W:YB}{v:YO}{lw:List PR}
def AL(w wr:YB)(sb tb xb:Nat)(I:Ix)(i:Nat):Prop:= ∃M L,SY w wr sb tb I M i (50+40000000*i)/\DX wr w.heap.size xb L/\Rl M L/\L.length<=2*i
section
variable{w wr w':YB}{sb tb xb i:Nat}{I:Ix}
theorem AL.below(h:AL w wr sb tb xb I i)(hb:i7 wr w'):AL w w' sb tb xb I i:=by
 obtain⟨M,L,a,b,c,d⟩:=h;exact⟨M,L,a.below hb,b.below hb,c,d⟩
theorem AL.b(h:AL w wr sb tb xb I i):i7 w wr:=by
 obtain⟨M,L,a,b,c,d⟩:=h;exact a.bel
theorem AL.succ(h:AL w wr sb tb xb I i):AL w wr sb tb xb I (i+1):=by
 obtain⟨M,L,a,b,c,d⟩:=h;exact⟨M,L,a.le (by omega) (by omega),b,c,by omega⟩
theorem AL.do_(h:AL w wr sb tb xb I i)(hi:i<=26)(kd sp lp m:Int)(r til val:rd)(gZ:r.size<100/\til.size<100/\val.size<1500)(hm:Sm m):
  eq prog 40 #[lc sb,lc xb,.agg (eI kd sp lp m r til val)] wr λe w'=>e=BY (U6 true)/\AL w w' sb tb xb I (i+1):=by
 obtain⟨M,L,a,b,c,d⟩:=h;go_call (do_any a b c (by omega) (by omega) (by omega) kd sp lp m r til val ⟨by omega,by omega⟩ hm) as e w' ⟨rfl,M',L',x1,x2,x3,x4,x5,x6⟩;exact⟨rfl,M',L',x1.le (ai _) (by omega),x2,x3,by omega⟩
def whole(s l:Nat)(M:List PR):List PR:=fE ⟨#[]⟩ ⟨#[]⟩ 1099511627776 (aE s l M)
theorem SY.Vs{M:List PR}{L:List De}{k K:Nat}(a:SY w wr sb tb I M k K)(b:DX wr w.heap.size xb L)(hk:k<=30)(hK:K<=999900000000)(hs:s<=7)(hl:l<=5):
  eq prog 41 #[U7 (some ⟨sb,0,none⟩),U5 By (s:Nat),U5 By (l:Nat),U2 ⟨#[]⟩,U2 ⟨#[]⟩,U5 By 1099511627776] wr λe w'=> ∃v,e=BY (U8 #[v,U5 By 0])/\aM w' 42 2 v (whole s l M).length (iQ (whole s l M))/\(whole s l M).length<=1000000/\SY w w' sb tb I M k (K+300000)/\DX w' w.heap.size xb L/\jI wr w':=by
 have hlen:=a.zR.2;go_call (a.pW b hk hK hs hl ⟨#[]⟩ ⟨#[]⟩ (by show(0:Nat)<=30;omega) (by show(0:Nat)<=30;omega) 1099511627776) as e w' ⟨v,rfl,S,x1,x2,x3,_⟩;have h1:=nK ⟨#[]⟩ ⟨#[]⟩ 1099511627776 (aE s l M) (aE s l M).length;rw[fX]at h1;have h2:=ly s l M;exact⟨v,rfl,S,by show(fE _ _ _ _).length<=_;omega,x1,x2,x3⟩
def AW(w W:YB)(sb tb xb:Nat)(I:Ix)(s l:Nat)(v:YO)(lw:List PR):Prop:= ∃M L,SY w W sb tb I M 26 1050000000/\DX W w.heap.size xb L/\Rl M L/\L.length<=60/\whole s l M=lw/\lw.length<=1000000/\aM W 42 2 v lw.length (iQ lw)
def AX(w W:YB)(sb tb xb:Nat)(I:Ix)(s l:Nat)(v:YO)(lw:List PR):Prop:= ∃M L,SY w W sb tb I M 28 1200000000/\DX W w.heap.size xb L/\whole s l M=lw/\lw.length<=1000000/\aM W 42 2 v lw.length (iQ lw)
theorem AW.b(h:AW w W sb tb xb I s l v lw):i7 w W:=by
 obtain⟨M,L,a,b,c,d,e,f,g⟩:=h;exact a.bel
theorem AX.b(h:AX w W sb tb xb I s l v lw):i7 w W:=by
 obtain⟨M,L,a,b,e,f,g⟩:=h;exact a.bel
theorem AX.now(h:AX w W sb tb xb I s l v lw)(hs:s<=7)(hl:l<=5):
  eq prog 41 #[U7 (some ⟨sb,0,none⟩),U5 By (s:Nat),U5 By (l:Nat),U2 ⟨#[]⟩,U2 ⟨#[]⟩,U5 By 1099511627776] W λe w'=> ∃v',e=BY (U8 #[v',U5 By 0])/\aM w' 42 2 v lw.length (iQ lw)/\aM w' 42 2 v' lw.length (iQ lw)/\lw.length<=1000000/\i7 w w':=by
 obtain⟨M,L,a,b,e,f,g⟩:=h;go_call (a.Vs b (by omega) (by omega) hs hl) as e' w' ⟨v',rfl,S,h1,x1,x2,x3⟩;rw[e]at S;exact⟨v',rfl,aM.wW g x3,S,f,x1.bel⟩
theorem AL.start{F:List Nat}(BS:aF W sb 182 #[tp tb,pp I.pb,U6 true])(T:TQ W tb I F QS.nu 1202 3)(R:Rd QS.nu I0 oh 1 300)(hb:i7 w W)(f:∀g∈sb::tb::F,w.heap.size<=g):
  AL w (W.alloc (WF #[U3 none 0 0] 88)) sb tb W.heap.size I 0:=by
 have hz:=hb.size;have ha:=i6 W (WF #[U3 none 0 0] 88);refine⟨[],[],SY.below ⟨F,_,⟨BS,T.le (by omega),hb,f⟩,SI.start R⟩ ha,⟨⟨none,0,0,aF.new _ _ _,aM.nil _ _ _⟩,λe he=>(by simp at he),by simp,λe he=>(by simp at he),by simp,hz,λe he=>(by simp at he)⟩,Rl.start,ai _⟩
end
end Sh
namespace Sh
open Go.RowKit Pk Dk Pg
variable{v:YO}{n:Nat}{W:YB}
structure YX(W:YB)(z yb:Nat)(Ly:List De):Prop where
 x:∃A n c,RX W yb A n c (Ly.map λe=>e.1)/\∀g∈ah (U3 A n c),z<=g
 m:∀e∈Ly,∃v,Mp W e.1.2.2 v e.2
 f:z<=yb/\∀e∈Ly,z<=e.1.2.2
theorem YX.start(W:YB):YX (W.alloc (WF #[U3 none 0 0] 88)) W.heap.size W.heap.size []:=
 ⟨⟨none,0,0,⟨aF.new _ _ _,aM.nil _ _ _⟩,by simp[ah]⟩,λe he=>(by simp at he),ai _,λe he=>(by simp at he)⟩
section
variable{W W':YB}{z yb xb:Nat}{L Ly:List De}
theorem YX.below(h:YX W z yb Ly)(hb:i7 W W'):YX W' z yb Ly:=by
 obtain⟨A,n,c,X,f⟩:=h.x;exact⟨⟨A,n,c,X.below hb,f⟩,λe he=>(h.m e he).imp λv M=>M.below hb,h.f⟩
theorem aM.frx{t:pm}{sz:Nat}{l:List YO}(S:aM W t sz v n l)(h:vk W W' xb L)(ht:t=42\/t=103):aM W' t sz v n l:=by
 refine⟨S.1,?_⟩
 rcases S.2 with⟨e,h1⟩|⟨g,cap,rest,e,B,h1⟩
 .exact .inl ⟨e,h1⟩
 .exact .inr ⟨g,cap,rest,e,h _ _ _ B (ht.elim (λe=> .inr (.inl e)) (λe=> .inr (.inr (.inl e)))),h1⟩
theorem YX.frx(h:YX W z yb Ly)(f:vk W W' xb L)(hz:xb<z/\∀e∈L,e.1.2.2<z):YX W' z yb Ly:=by
 obtain⟨A,n,c,X,ff⟩:=h.x;refine⟨⟨A,n,c,⟨f _ _ _ X.b (.inr (.inr (.inr (.inl ⟨rfl,by have:=h.f.1;omega⟩)))),aM.frx X.s f (.inr rfl)⟩,ff⟩,λe he=>?_,h.f⟩;obtain⟨v,M⟩:=h.m e he;exact⟨v,f _ _ _ M.b (.inr (.inr (.inr (.inr ⟨rfl,λe0 h0 hh=>by have:=hz.2 e0 h0;have:=h.f.2 e he;omega⟩)))),aM.frx M.s f (.inl rfl),M.n⟩
end
def Vt(e:De):Int×Int×List PR:=(e.1.1,e.1.2.1,e.2)
theorem QL{B C:Nat}{W':YB}(h:C<=B)(hb:Below B W W'):Below C W W':=⟨hb.os,hb.tape,hb.output,hb.size,λb hB=>hb.block b (by omega)⟩
theorem YX.app{z yb:Nat}{Ly:List De}(h:YX W z yb Ly)(hz:z<=W.heap.size)(hn:Ly.length<=10000){A:Option Addr}{c:Nat}(X:RX W yb A n c (Ly.map λe=>e.1))(f:∀g∈ah (U3 A n c),z<=g)(fF:yb∉ah (U3 A n c)){s l:Int}{p:List PR}(S:aM W 42 2 v p.length (iQ p))(hp:p.length<=1000000):
  ∃V' c' W',dF prog 86 86 (((W.alloc (WF #[v] 45)).alloc (WF #[s,l,lc W.heap.size] 103)).drew) (U3 A n c) (U3 (some ⟨W.heap.size+1,0,none⟩) 1 1)= .ok (U3 V' (n+1) c') W'/\
   aF W' yb 88 #[U3 A n c]/\Below z W W'/\YX (W'.setCell ⟨yb,0,none⟩ (U3 V' (n+1) c')) z yb (Ly++[((s,l,W.heap.size),p)])/\Below z W (W'.setCell ⟨yb,0,none⟩ (U3 V' (n+1) c')):=by
 have aO:=i6 W (WF #[v] 45);have M1:=aF.new W 45 #[v];have z1:(W.alloc (WF #[v] 45)).heap.size=W.heap.size+1:=gf ..;have cf:=(ae aO (WF #[s,l,lc W.heap.size] 103)).drew;have P2:=(aF.new (W.alloc (WF #[v] 45)) 103 #[s,l,lc W.heap.size]).drew;rw[z1]at P2
 have M2:=(M1.below (i6 _ (WF #[s,l,lc W.heap.size] 103)) M1.lt).drew;generalize (((W.alloc (WF #[v] 45)).alloc (WF #[s,l,lc W.heap.size] 103)).drew)=W2 at cf P2 M2 ⊢;have X2:=X.below cf;have S2:=S.below cf;have hl:=X.len;rw[bM]at hl
 have P1:aM W2 103 3 (U3 (some ⟨W.heap.size+1,0,none⟩) 1 1) 1 (Gt [(s,l,W.heap.size)]):=⟨rfl,.inr ⟨_,1,[],rfl,P2,rfl,by decide⟩⟩;obtain⟨v3,w3,ea,S3,o3,f3⟩:=oG (P:=prog) X2.s P1 86 86 _ 24 underlying86 Jb rfl (by omega) (Ja _) (by unfold it;omega) (by omega);obtain⟨V3,c3,rfl⟩:=ax S3;have oq:=cf.size;have ef:=X.s.lt;have hB3:Below z W w3:=(QL hz cf).trans (o3.aK (by omega) f);have B3:aF w3 yb 88 #[U3 A n c]:=X2.b.only o3 fF
 have U:=(ag.refl [yb] w3).setCell (p:=⟨yb,0,none⟩) (λ_=>by simp) (U3 V3 (n+1) c3);have hyb:∀g∈[yb],z<=g:=λg hg=>by rw[az.1 hg];exact h.f.1
 refine⟨V3,c3,w3,ea,B3,hB3,⟨⟨V3,n+1,c3,⟨B3.cw 0 _,?_⟩,?_⟩,λe he=>?_,h.f.1,λe he=>?_⟩,hB3.trans (U.aK (by have:=hB3.size;omega) hyb)⟩
 .rw[cX];show aM _ _ 3 _ (n+1) (Gt (Ly.map (λe=>e.1)++[(s,l,W.heap.size)]));rw[Sc];exact S3.only U (λg hg hm=>kh S3 B3 (by decide) g hg (az.1 hm))
 .intro g hg;exact(f3 g hg).elim (f g) (λh=>by omega)
 .rcases ay.1 he with he|he
  .obtain⟨v0,M0⟩:=h.m e he;have M0':=M0.below cf;exact⟨v0,(M0'.b.only o3 (λhm=>kh X2.s M0'.b (by decide) _ hm rfl)).only U (λhm=>M0'.b.jJ X2.b (by decide) (az.1 hm)),
    (M0'.s.only o3 (λg hg hm=>by
     obtain⟨cs,BB⟩:=tr M0'.s g hg;exact kh X2.s BB (by decide) _ hm rfl)).only U (λg hg hm=>kh M0'.s X2.b (by decide) g hg (az.1 hm)),M0'.n⟩
  .rw[az.1 he];exact⟨v,(M2.only o3 (λhm=>kh X2.s M2 (by decide) _ hm rfl)).only U (λhm=>M2.jJ X2.b (by decide) (az.1 hm)),
    (S2.only o3 (λg hg hm=>by
     obtain⟨cs,BB⟩:=tr S2 g hg;exact kh X2.s BB (by decide) _ hm rfl)).only U (λg hg hm=>kh S2 X2.b (by decide) g hg (az.1 hm)),hp⟩
 .rcases ay.1 he with he|he
  .exact h.f.2 e he
  .rw[az.1 he];exact hz
attribute [local go_sem ↓] bA
variable{K:Nat}
def KC(w W:YB)(sb tb xb:Nat)(I:Ix)(L:List De)(o:List (Option (pu)))(M:List PR):Prop:=CO o M/\SX w W sb tb I o 1200000000/\DX W w.heap.size xb L/\Rl M L/\DL L 60
section
variable{w W W' V:YB}{sb tb xb yb z i:Nat}{I:Ix}{L Ly:List De}{M:List PR}{o:List (Option (pu))}
theorem KC.below(h:KC w W sb tb xb I L o M)(hb:i7 W W'):KC w W' sb tb xb I L o M:=by
 obtain⟨a,⟨F,q,A,e⟩,c,d,f⟩:=h;exact⟨a,⟨F,q,A.below hb,e⟩,c.below hb,d,f⟩
theorem KC.b(h:KC w W sb tb xb I L o M):i7 w W:=by
 obtain⟨a,⟨F,q,A,e⟩,c,d,f⟩:=h;exact A.o
theorem AL.Jg(h:AL w W sb tb xb I i):eq prog 48 #[lc sb] W λe W'=>e=BY (pp I.pb)/\AL w W' sb tb xb I i:=by
 obtain⟨M,L,a,b,c,d⟩:=h;go_call a.Jg as e W' ⟨rfl,hb⟩;exact⟨rfl,M,L,a.below hb,b.below hb,c,d⟩
theorem AL.kx(h:AL w W sb tb xb I i)(hi:i<=25):eq prog 50 #[pp I.pb] W λe W'=>e=BY (U5 By 0)/\∃L o M,KC w W' sb tb xb I L o M:=by
 obtain⟨M,L,a,b,c,d⟩:=h;have hv:=a.zR;go_call (a.uI b (by omega) (by omega)) as e W' ⟨rfl,o,h1,h2,h3,h4⟩;refine⟨rfl,L,o,M,h1,?_,h3,c,by omega,λe he=>?_⟩
 .obtain⟨F,q,A,e⟩:=h2;exact⟨F,q,A.le (by omega),e⟩
 .obtain⟨s,l,_,_,_,_,e3⟩:=c.p e he;rw[e3];exact⟨by have:=ly s l M;omega,Gy hv.1⟩
def KY(w W1 W:YB)(z yb xb:Nat)(L:List De)(i:Nat):Prop:= ∃Ly,YX W z yb Ly/\Below z W1 W/\Ly.map Vt=(L.take i).map Vt
theorem KC.cells(h:KC w W sb tb xb I L o M)(hi:i<L.length):∃gx nx cx s l mb v p,W.cell? ⟨xb,0,none⟩=some (U3 (some ⟨gx,0,none⟩) nx cx)/\nx=L.length/\nx<=cx/\cx<=it/\W.cell? ⟨gx,i*3,none⟩=some (U5 By s)/\W.cell? ⟨gx,i*3+1,none⟩=some (U5 By l)/\W.cell? ⟨gx,i*3+1+1,none⟩=some (U7 (some ⟨mb,0,none⟩))/\W.cell? ⟨mb,0,none⟩=some v/\L[i]?=some ((s,l,mb),p)/\aM W 42 2 v p.length (iQ p)/\p.length<=1000000:=by
 obtain⟨_,_,D,_,_⟩:=h;obtain⟨A,n,c,X⟩:=D.x;have hl:=X.len;rw[bM]at hl;obtain⟨gx,⟨s,l,mb⟩,rfl,hx,h1,h2,c0,c1,c2⟩:=X.at (i:=i) (by omega);rw[ir,aH hi]at hx;injection hx with hx
 replace hx:L[i].1=(s,l,mb):=hx
 have hm:=jS hi;obtain⟨v,Mv⟩:=D.m _ hm;have he:L[i]=((s,l,mb),L[i].2):=by rw[<-hx]
 refine⟨gx,n,c,s,l,mb,v,L[i].2,X.b.bi 0,hl.symm,h1,h2,c0,c1,c2,?_,by rw[aH hi,<-he],Mv.s,Mv.n⟩;rw[hx]at Mv;exact Mv.b.bi 0
theorem KC.len(h:KC w W sb tb xb I L o M):L.length<=120:=h.2.2.2.2.1
theorem KC.x0(h:KC w W sb tb xb I L o M):∃A c,W.cell? (lc xb)=some (U3 A L.length c):=by
 obtain⟨_,_,D,_,_⟩:=h;obtain⟨A,n,c,X⟩:=D.x;have hl:=X.len;rw[bM]at hl;exact⟨A,c,by rw[hl];exact X.b.bi 0⟩
def LK(w W0 W:YB)(sb tb xb:Nat)(I:Ix)(o:List (Option (pu)))(L:List De)(i:Nat):Prop:= ∃L',LQ w W0 W sb tb xb I o (1200000000+40000000*i) L L' (60+4*i)
theorem KC.lk(h:KC w W sb tb xb I L o M):LK w W W sb tb xb I o L 0:=by
 obtain⟨a,b,c,d,e⟩:=h;exact⟨L,b,c,e,vk.refl,λe he=> .inl ⟨e,he,rfl⟩,ai _⟩
theorem LK.below(h:LK w V W sb tb xb I o L i)(hb:i7 W W'):LK w V W' sb tb xb I o L i:=h.imp λL' h=>h.below hb
theorem LK.b(h:LK w V W sb tb xb I o L i):i7 w W:=by
 obtain⟨L',h⟩:=h;exact h.bel
theorem LK.succ(h:LK w V W sb tb xb I o L i):LK w V W sb tb xb I o L (i+1):=h.imp λL' h=>h.le (by omega) (by omega)
theorem LK.do_(h:LK w V W sb tb xb I o L i)(hi:i<=25)(kd sp lp m:Int)(r til val:rd)(gZ:r.size<100/\til.size<100/\val.size<1500)(hm:Sm m):
  eq prog 40 #[U7 (some ⟨sb,0,none⟩),U7 (some ⟨xb,0,none⟩),.agg (eI kd sp lp m r til val)] W λe W'=> ∃b,e=BY (U6 b)/\LK w V W' sb tb xb I o L (i+1):=by
 obtain⟨L',h⟩:=h;go_call (doX_any h (by omega) (by omega) kd sp lp m r til val ⟨by omega,by omega⟩ hm) as e W' ⟨b,L2,rfl,h2⟩;exact⟨b,rfl,L2,h2.le (by omega) (by omega)⟩
theorem LK.Jg(h:LK w V W sb tb xb I o L i):eq prog 48 #[lc sb] W λe W'=>e=BY (pp I.pb)/\LK w V W' sb tb xb I o L i:=by
 obtain⟨L',h⟩:=h;go_call h.s.Jg as e W' ⟨rfl,hb⟩;exact⟨rfl,L',h.below hb⟩
def KA2(w W:YB)(sb tb:Nat)(I:Ix)(M:List PR)(K z yb:Nat)(Ly:List De):Prop:=PB2 w W I M K/\aF W sb 182 #[tp tb,pp I.pb,U6 true]/\YX W z yb Ly
theorem KA2.below(h:KA2 w W sb tb I M K z yb Ly)(hb:i7 W W'):KA2 w W' sb tb I M K z yb Ly:=⟨h.1.below hb,h.2.1.below hb h.2.1.lt,h.2.2.below hb⟩
theorem LK.abort(h:LK w V W sb tb xb I o L i)(hi:i<=25)(hM:CO o M)(Y:YX V z yb Ly)(hx:xb<z/\∀e∈L,e.1.2.2<z):
  eq prog 51 #[pp I.pb] W λe W'=>e=BY (U6 true)/\KA2 w W' sb tb I M 2200000000 z yb Ly:=by
 obtain⟨L',h⟩:=h;have Y2:=Y.frx h.f hx;go_call (h.s.xH (xb:=xb) (L:=[]) hM) as e W' ⟨rfl,⟨F,q,P,r⟩,B,f⟩;exact⟨rfl,⟨F,q,P.le (by omega),r⟩,B,Y2.frx f ⟨hx.1,λe he=>(by simp at he)⟩⟩
theorem KA2.Jg(h:KA2 w W sb tb I M K z yb Ly):eq prog 48 #[lc sb] W λe W'=>e=BY (pp I.pb)/\KA2 w W' sb tb I M K z yb Ly:=by
 go_call (yJ h.2.1) as e W' ⟨rfl,hb⟩;exact⟨rfl,h.below hb⟩
def KZ(w W:YB)(sb:Nat)(I:Ix)(M:List PR)(K z yb:Nat)(Ly:List De):Prop:=SB w W sb I M K/\YX W z yb Ly
theorem KZ.below(h:KZ w W sb I M K z yb Ly)(hb:i7 W W'):KZ w W' sb I M K z yb Ly:=⟨h.1.below hb,h.2.below hb⟩
theorem KA2.open_(h:KA2 w W sb tb I M K z yb Ly)(hK:K<=9000000000)(hx:xb<z):
  eq prog 45 #[pp I.pb] W λe W'=> ∃sb',e=BY (U8 #[U7 (some ⟨sb',0,none⟩),U5 By 0])/\KZ w W' sb' I M (K+2) z yb Ly:=by
 go_call (h.1.open_any (xb:=xb) (L:=[]) (by omega)) as e W' ⟨sb',rfl,S,f⟩;exact⟨sb',rfl,S,h.2.2.frx f ⟨hx,λe he=>(by simp at he)⟩⟩
theorem KZ.fresh(h:KZ w W sb I M K z yb Ly):eq prog 49 #[lc sb] W λe W'=>e=BY (U6 false)/\KZ w W' sb I M K z yb Ly:=by
 go_call h.1.fresh as e W' ⟨rfl,hb⟩;exact⟨rfl,h.below hb⟩
theorem KZ.scan(h:KZ w W sb I M K z yb Ly)(hK:K<=9000000000)(hx:xb<z){s l:Nat}(hs:s<=7)(hl:l<=5):
  eq prog 41 #[U7 (some ⟨sb,0,none⟩),U5 By (s:Nat),U5 By (l:Nat),U2 ⟨#[]⟩,U2 ⟨#[]⟩,U5 By 1099511627776] W λe W'=> ∃v,e=BY (U8 #[v,U5 By 0])/\aM W' 42 2 v (aE s l M).length (iQ (aE s l M))/\(aE s l M).length<=30/\KZ w W' sb I M (K+300000) z yb Ly/\vk W W' xb []:=by
 go_call (h.1.pW (xb:=xb) (L:=[]) (by omega) hs hl) as e W' ⟨v,rfl,S,h1,h2,f⟩;exact⟨v,rfl,S,h1,⟨h2,h.2.frx f ⟨hx,λe he=>(by simp at he)⟩⟩,f⟩
theorem YX.at(h:YX W z yb Ly){s l:Int}{mb:Nat}{p:List PR}(hL:Ly[i]?=some ((s,l,mb),p)):∃g n c v,W.cell? (lc yb)=some (U3 (lc g) n c)/\i<n/\n<=c/\c<=it/\W.cell? ⟨g,i*3,none⟩=some (s:li)/\W.cell? ⟨g,i*3+1,none⟩=some (l:li)/\W.cell? ⟨g,i*3+1+1,none⟩=some (lc mb:li)/\W.cell? (lc mb)=some v/\aM W 42 2 v p.length (iQ p):=by
 obtain⟨A,n,c,X,f⟩:=h.x;have hl:=X.len;rw[bM]at hl;have hi:=(aR.1 hL).1;obtain⟨g,x,rfl,hx,h1,h2,c0,c1,c2⟩:=X.at (i:=i) (by omega);rw[ir,hL]at hx;injection hx with hx
 subst hx;obtain⟨v,Mv⟩:=h.m _ (aA hL);exact⟨g,n,c,v,X.b.bi 0,by omega,h1,h2,c0,c1,c2,Mv.b.bi 0,Mv.s⟩
theorem YX.pf(h:YX W z yb Ly)(hx:xb<z){g n c:Nat}{a b:YO}(y0:W.cell? (lc yb)=some (U3 (lc g) n c))(hi:i<n)(y1:W.cell? ⟨g,i*3,none⟩=some a)(y2:W.cell? ⟨g,i*3+1,none⟩=some b)(f:vk W W' xb []):W'.cell? (lc yb)=some (U3 (lc g) n c)/\W'.cell? ⟨g,i*3,none⟩=some a/\W'.cell? ⟨g,i*3+1,none⟩=some b:=by
 obtain⟨A,n',c',X,_⟩:=h.x;have X':RX W' yb A n' c' (Ly.map λe=>e.1):=⟨f _ _ _ X.b (.inr (.inr (.inr (.inl ⟨rfl,by have:=h.f.1;omega⟩)))),aM.frx X.s f (.inr rfl)⟩;have e0:=X.b.bi 0;rw[y0]at e0;injection e0 with e0
 injection e0 with a1 a2 a3
 subst a1 a2 a3;obtain⟨g1,x1,h1,h2,_,_,c0,c1,_⟩:=X.at (i:=i) hi;obtain⟨g2,x2,h3,h4,_,_,d0,d1,_⟩:=X'.at (i:=i) hi;injection h1 with h1
 injection h1 with h1
 injection h3 with h3
 injection h3 with h3
 subst h1 h3;rw[h2]at h4;injection h4 with h4
 subst h4;rw[y1]at c0;rw[y2]at c1;exact⟨X'.b.bi 0,by rw[d0,c0],by rw[d1,c1]⟩
theorem YX.y0(h:YX W z yb Ly):∃A c,W.cell? (lc yb)=some (U3 A Ly.length c):=by
 obtain⟨A,n,c,X,f⟩:=h.x;have hl:=X.len;rw[bM]at hl;exact⟨A,c,by rw[hl];exact X.b.bi 0⟩
theorem key_at(hk:Ly.map Vt=L.map Vt)(R:Rl M L)(hi:i<Ly.length):∃(s l:Nat) (mb:Nat),Ly[i]?=some (((s:Int),(l:Int),mb),aE s l M)/\s<=7/\l<=5:=by
 have hlen:Ly.length=L.length:=by have:=congrArg List.length hk;rw[bM,bM]at this;exact this
 have h1:(Ly.map Vt)[i]?=(L.map Vt)[i]?:=by rw[hk]
 rw[ir,ir,aH hi,aH (by omega)]at h1;injection h1 with h1
 obtain⟨s,l,e1,e2,k1,k2,e3⟩:=R.p _ (jS (show i<L.length by omega));have g1:Ly[i].1.1=(s:Int):=(congrArg (λx=>x.1) h1).trans e1;have g2:Ly[i].1.2.1=(l:Int):=(congrArg (λx=>x.2.1) h1).trans e2;have g3:Ly[i].2=aE s l M:=(congrArg (λx=>x.2.2) h1).trans e3;refine⟨s,l,Ly[i].1.2.2,?_,k1,k2⟩;rw[aH hi]
 congr 1
 exact jC (jC g1 (jC g2 rfl)) g3
end
theorem EI{w:YB}(A:Option Addr)(m cc:Nat)(F:Nat->MW)(hm:m<=9223372036854775807)(hA:qO w A m F)(A2:Option Addr)(m2 Tn:Nat)(F2:Nat->MW)(Bp:m2<=9223372036854775807)(VR:qO w A2 m2 F2):
  eq prog 11 #[U3 A m cc,U3 A2 m2 Tn] w λe w'=>e=BY (U6 true)/\Below w.heap.size w w':=by
 have HA:=xh (λ(W:YB) (hb:Below w.heap.size w W)=>hA.below hb);have HA2:=xh (λ(W:YB) (hb:Below w.heap.size w W)=>VR.below hb);have KB:=xh (zB w);have KA:=xh Mh;have KS:=xh MG;clear hA VR;go_enter func11,ntmps11;go_wp2_with fail;refine KB.o.mono ?_;rintro e w3 ⟨sb,tb,I,F3,rfl,BS,T3,R3,dk,f3⟩;have H4:=xh (AL.start BS T3 R3 dk f3);obtain⟨xb,hxb⟩:∃x,w3.heap.size=x:=⟨_,rfl⟩;rw[hxb]at H4;have HXB:=xh hxb
 have jW:=HXB.o;clear BS T3 R3 dk f3 hxb;go_wp2_with fail;refine(KA.o _).mono ?_;rintro e w5 ⟨rfl,mK⟩;have H6:=xh (H4.o.below mK);clear mK jW
 go_upto_region 4 with(fail)
 iterate 7 (first|go_values|go_skip|go_guarded|go_step|go_upon|go_back)
 go_cut [7]from 25 to 46 (λv7 wx=> ∃i:Nat,i<=25/\v7=U5 By (i:Nat)/\Hid (AL w wx sb tb xb I i))
 case first=>
  go_wp2_with fail
  go_loopw [7] (λiv wr=> ∃i:Nat,i<=25/\iv=U5 By i/\Hid (AL w wr sb tb xb I i)) (λiv _=>25-(intOf iv).toNat)
  case atStart=>exact⟨0,aW _,rfl,H6⟩
  case round=>
   obtain⟨i,hi,rfl,HP⟩:=hrel
   by_cases h1:i<m
   .have ZA:(i:Int)<(m:Int):=by omega
    by_cases h2:i<25
    .have WS:(i:Int)<25:=by omega
     obtain⟨ad,rfl,hSa,gj⟩:=HA.o wr HP.o.b i h1;obtain⟨c0,c1,c2,c3,c4,c5,c6⟩:=hSa;have HC:=xh (show ∀W,Below w.heap.size w W->zF W (ad.add (i*7)) (F i)from λW hb=>by
      obtain⟨ad',e,h,_⟩:=HA.o W hb i h1;injection e with e
      rw[e];exact h)
     have Em:=xh gj.1.2.2.2;clear gj;generalize F i=sa at c0 c1 c2 c3 c4 c5 c6 HC Em;obtain⟨kd2,sp2,lp2,nn2,QM,QN,QO⟩:=sa;dsimp only at c0 c1 c2 c3 c4 c5 c6 Em;obtain⟨bb,vR⟩:∃bb,decide (QM.size<100/\QN.size<100/\QO.size<1500)=bb:=⟨_,rfl⟩;have KS2:=xh (λ(W:YB)=>KS.o kd2 sp2 lp2 nn2 QM QN QO W bb vR.symm);have ei:IntKind.i64.wrap ((i:Int)+1)=((i+1:Nat):Int):=IntWalk.i64_in _ (by omega);have HBB:=xh vR;clear vR;go_wp2_with fail
     refine(KS2.o _).mono ?_;rintro e w7 ⟨rfl,tW⟩;have P7:=xh (HP.o.below tW);clear tW c0 c1 c2 c3 c4 c5 c6
     cases bb
     .have P8:=xh (P7.o.succ);go_wp2_with fail;go_roundw
      case rel=>exact⟨i+1,by omega,by go_num,P8⟩
      case measure=>simp[intOf];omega
     .have KD:=xh (P7.o.do_ (by omega) kd2 sp2 lp2 nn2 QM QN QO (of_decide_eq_true HBB.o) Em.o);obtain⟨c0,c1,c2,c3,c4,c5,c6⟩:=HC.o w7 P7.o.b;dsimp only at c0 c1 c2 c3 c4 c5 c6;go_wp2_with fail;refine KD.o.mono ?_;rintro e w8 ⟨rfl,P8⟩;have P8:=xh P8;clear c0 c1 c2 c3 c4 c5 c6;go_wp2_with fail;go_roundw
      case rel=>exact⟨i+1,by omega,by go_num,P8⟩
      case measure=>simp[intOf];omega
    .have WS:¬(i:Int)<25:=by omega
     go_wp2_with fail;go_meet;exact⟨i,hi,rfl,HP⟩
   .have ZA:¬(i:Int)<(m:Int):=by omega
    go_wp2_with fail;go_meet;exact⟨i,hi,rfl,HP⟩
 case rest=>
  obtain⟨i,hi,rfl,HP⟩:=hcut;clear H6;have KP:=xh HP.o.Jg;go_wp2_with fail;refine KP.o.mono ?_;rintro e zb ⟨rfl,a10⟩;have KC0:=xh (a10.kx hi);clear a10;unfold pp at KC0;unfold pp;go_wp2_with fail;refine KC0.o.mono ?_;rintro e MU ⟨rfl,L,o,M,a11⟩;have hb11:=ae (Below.refl MU.heap.size MU) (WF #[U3 none 0 0] 88);obtain⟨yb,hyb⟩:∃y,MU.heap.size=y:=⟨_,rfl⟩;have KC1:=xh (λ(W:YB) (hb:Below yb MU W)=>a11.below (hyb▸hb))
  have hx11:xb<yb/\∀e∈L,e.1.2.2<yb:=by
   obtain⟨_,_,D,_,_⟩:=a11;obtain⟨_,_,_,X⟩:=D.x;exact⟨by rw[<-hyb];exact X.b.lt,λe he=>by obtain⟨v,Mv⟩:=D.m e he;rw[<-hyb];exact Mv.b.lt⟩
  have HX:=xh hx11;have Y0:=xh (show KY w MU (MU.alloc (WF #[U3 none 0 0] 88)) yb yb xb L 0 from⟨[],by have:=YX.start MU;rw[hyb]at this;exact this,hyb▸hb11,rfl⟩);have ou:=xh a11.len;have HYB:=xh hyb;have jW:=HYB.o;clear a11 hb11 hyb hx11;go_wp2_with fail;clear jW
  go_loopw [9] (λiv wr=> ∃i:Nat,i<=L.length/\iv=U5 By i/\Hid (KY w MU wr yb yb xb L i)) (λiv _=>L.length-(intOf iv).toNat)
  case atStart=>exact⟨0,aW _,rfl,Y0⟩
  case round=>
   obtain⟨i,hi9,rfl,HY⟩:=hrel;have KCW:=xh (KC1.o wr (by obtain⟨_,_,b,_⟩:=HY.o;exact b));have hyz:yb<=wr.heap.size:=by
    obtain⟨_,_,b,_⟩:=HY.o;have:=b.size;rw[HYB.o]at this;exact this
   have HYZ:=xh hyz;clear hyz
   by_cases h9:i<L.length
   .obtain⟨gx,nx,cx,s,l,mb,v,p,u0,OJ,Ha,vr,u1,u2,u3,u4,hL,Su,hp⟩:=(KC1.o MU (Below.refl _ _)).cells h9;obtain⟨Av,cv,rfl⟩:=ax Su;obtain⟨Ly,YW,bW,Ji⟩:=HY.o;have hlen:Ly.length=i:=by have:=congrArg List.length Ji;rw[bM,bM,bC]at this;omega
    have HSx:=xh (show ∀W,Below yb MU W->(λW=>W.cell? ⟨xb,0,none⟩=some (U3 (some ⟨gx,0,none⟩) nx cx)/\W.cell? ⟨gx,i*3,none⟩=some (U5 By s)/\W.cell? ⟨gx,i*3+1,none⟩=some (U5 By l)/\W.cell? ⟨gx,i*3+1+1,none⟩=some (U7 (some ⟨mb,0,none⟩))/\W.cell? ⟨mb,0,none⟩=some (U3 Av p.length cv)) W from λW hb=>by
     rw[<-HYB.o]at hb;exact⟨(hb.cell (p:=⟨xb,0,none⟩) (cZ u0)).trans u0,(hb.cell (p:=⟨gx,i*3,none⟩) (cZ u1)).trans u1,(hb.cell (p:=⟨gx,i*3+1,none⟩) (cZ u2)).trans u2,(hb.cell (p:=⟨gx,i*3+1+1,none⟩) (cZ u3)).trans u3,(hb.cell (p:=⟨mb,0,none⟩) (cZ u4)).trans u4⟩)
    have Sv:=Su.below (show Below MU.heap.size MU wr by rw[HYB.o];exact bW);obtain⟨x0,x1,x2,x3,x4⟩:=HSx.o wr bW;obtain⟨Ay,ny,cy,XY,fy⟩:=YW.x;have hny:=XY.len;rw[bM,hlen]at hny;subst hny;have y0:=XY.b.ab (i:=0) rfl;have hney:yb∉ah (U3 Ay i cy):=λhm=>kh XY.s XY.b (by decide) yb hm rfl;obtain⟨V',c',W9,ea,B9,Vv,Y9,zP⟩:=YW.app HYZ.o (by have:=ou.o;omega) XY fy hney (s:=s) (l:=l) Sv hp;have z9:=B9.frozen 0 (by simp)
    have y9:=B9.ab (i:=0) rfl;have HY9:=xh (show KY w MU (W9.setCell ⟨yb,0,none⟩ (U3 V' (i+1) c')) yb yb xb L (i+1)from⟨_,Y9,bW.trans zP,by rw[cX,Ji,kQ,hL,cX];rfl⟩);have hnL:(i:Int)<(L.length:Int):=by omega
    have hnxI:(i:Int)<(nx:Int):=by omega
    have hnxN:i<nx:=by omega
    have ei:IntKind.i64.wrap ((i:Int)+1)=((i+1:Nat):Int):=IntWalk.i64_in _ (by have:=ou.o;omega);have hcx:i<cx:=by omega
    have SA:=xh (show(λW=>W.cell? ⟨xb,0,none⟩=some (U3 (some ⟨gx,0,none⟩) nx cx)/\W.cell? ⟨gx,i*3,none⟩=some (U5 By s)/\W.cell? ⟨gx,i*3+1,none⟩=some (U5 By l)/\W.cell? ⟨gx,i*3+1+1,none⟩=some (U7 (some ⟨mb,0,none⟩))/\W.cell? ⟨mb,0,none⟩=some (U3 Av p.length cv)/\W.cell? ⟨yb,0,none⟩=some (U3 Ay i cy)) wr.drew from⟨x0,x1,x2,x3,x4,y0⟩)
    have SB1:=xh (show(λW=>W.cell? ⟨xb,0,none⟩=some (U3 (some ⟨gx,0,none⟩) nx cx)/\W.cell? ⟨gx,i*3,none⟩=some (U5 By s)/\W.cell? ⟨gx,i*3+1,none⟩=some (U5 By l)/\W.cell? ⟨gx,i*3+1+1,none⟩=some (U7 (some ⟨mb,0,none⟩))/\W.cell? ⟨mb,0,none⟩=some (U3 Av p.length cv)/\W.cell? ⟨yb,0,none⟩=some (U3 Ay i cy)) (wr.alloc (WF #[U3 Av p.length cv] 45)).drew from by
     have hb:=ae (Below.refl wr.heap.size wr) (WF #[U3 Av p.length cv] 45);obtain⟨a1,a2,a3,a4,a5⟩:=HSx.o _ (bW.trans (hb.mono HYZ.o));exact⟨a1,a2,a3,a4,a5,(hb.cell (p:=⟨yb,0,none⟩) (cZ y0)).trans y0⟩)
    have SB2:=xh (show(λW=>W.cell? ⟨xb,0,none⟩=some (U3 (some ⟨gx,0,none⟩) nx cx)/\W.cell? ⟨gx,i*3,none⟩=some (U5 By s)/\W.cell? ⟨gx,i*3+1,none⟩=some (U5 By l)/\W.cell? ⟨gx,i*3+1+1,none⟩=some (U7 (some ⟨mb,0,none⟩))/\W.cell? ⟨mb,0,none⟩=some (U3 Av p.length cv)/\W.cell? ⟨yb,0,none⟩=some (U3 Ay i cy)) ((wr.alloc (WF #[U3 Av p.length cv] 45)).alloc (WF #[U5 By s,U5 By l,U7 (some ⟨wr.heap.size,0,none⟩)] 103)).drew from by
     have hb:=ae (ae (Below.refl wr.heap.size wr) (WF #[U3 Av p.length cv] 45)) (WF #[U5 By s,U5 By l,U7 (some ⟨wr.heap.size,0,none⟩)] 103);obtain⟨a1,a2,a3,a4,a5⟩:=HSx.o _ (bW.trans (hb.mono HYZ.o));exact⟨a1,a2,a3,a4,a5,(hb.cell (p:=⟨yb,0,none⟩) (cZ y0)).trans y0⟩)
    have SB3:=xh (show(λW=>W.cell? ⟨xb,0,none⟩=some (U3 (some ⟨gx,0,none⟩) nx cx)/\W.cell? ⟨gx,i*3,none⟩=some (U5 By s)/\W.cell? ⟨gx,i*3+1,none⟩=some (U5 By l)/\W.cell? ⟨gx,i*3+1+1,none⟩=some (U7 (some ⟨mb,0,none⟩))/\W.cell? ⟨mb,0,none⟩=some (U3 Av p.length cv)/\W.cell? ⟨yb,0,none⟩=some (U3 Ay i cy)) W9 from by
     obtain⟨a1,a2,a3,a4,a5⟩:=HSx.o _ (bW.trans Vv);exact⟨a1,a2,a3,a4,a5,y9⟩)
    clear B9 Vv Y9 zP YW bW Ji hlen XY fy hney hL Sv hp Su u0 u1 u2 u3 u4;go_wp2_with fail;refine nV (S:=λW=>W.cell? ⟨xb,0,none⟩=some (U3 (some ⟨gx,0,none⟩) nx cx)/\W.cell? ⟨gx,i*3,none⟩=some (U5 By s)/\W.cell? ⟨gx,i*3+1,none⟩=some (U5 By l)/\W.cell? ⟨gx,i*3+1+1,none⟩=some (U7 (some ⟨mb,0,none⟩))/\W.cell? ⟨mb,0,none⟩=some (U3 Av p.length cv)/\W.cell? ⟨yb,0,none⟩=some (U3 Ay i cy)) [39] (by kernel_rfl) SA.o (λau=>?_)
    refine dP [(0,62),(1,63),(2,64),(3,65),(4,66),(5,67),(6,68),(7,69),(8,70),(9,71),(10,72),(11,73),(12,74),(13,75),(14,76),(15,77),(16,78),(17,79),(18,80),(19,81),(20,82),(21,83),(22,84),(23,85),(24,86),(25,87),(26,88),(27,89),(28,90),(29,91),(30,92),(31,93),(32,94)] ?_
    iterate 33 refine gY ?_
    refine cJ 33 λK hK=>?_;go_simp;refine bn hK (λ_=>SB1.o) (λau=>?_);refine dP [(34,96)] ?_
    iterate 1 refine gY ?_
    refine cJ 35 λK hK=>?_;go_simp;refine bn hK (λ_=>SB2.o) (λau=>?_);refine cJ 36 λK hK=>?_;go_simp;clear ea;refine bn hK (λ_=>SB3.o) (λau=>?_);refine cJ 37 λK hK=>?_;go_simp;refine bn hK (λ_=>SB3.o) (λau=>?_);refine dP [(38,100)] ?_
    iterate 1 refine gY ?_
    refine cJ 39 λK hK=>?_;go_simp;refine bn hK (λh=>absurd (by simp) h) (λau=>?_);refine nU (by kernel_rfl) ?_ _;go_wp2_with fail;go_roundw
    case rel=>exact⟨i+1,by omega,by go_num,HY9⟩
    case measure=>simp[intOf];omega
   .obtain⟨Ax,cx,x0⟩:=KCW.o.x0;have hnL:¬(i:Int)<(L.length:Int):=by omega
    have HYL:=xh (show KY w MU wr yb yb xb L L.length from(show i=L.length by omega)▸HY.o)
    rename YB=>wq
    have KCQ:=xh KCW.o.lk;have hC:=xh KCW.o.1;have hR:=xh KCW.o.2.2.2.1;obtain⟨Ly,YQ,_,Ji⟩:=HYL.o;rw[fX]at Ji
    replace Ji:=xh Ji
    replace YQ:=xh YQ
    clear HYL HY KCW KC1 HYZ Y0 HP KP KC0
    go_upto_region 16 with(fail)
    clear x0
    iterate 7 (first|go_values|go_skip|go_guarded|go_step|go_upon|go_back)
    go_cut [10]from 101 to 122 (λv10 wx=> ∃i:Nat,i<=25/\v10=U5 By (i:Nat)/\Hid (LK w wq wx sb tb xb I o L i))
    case first=>
     go_wp2_with fail
     go_loopw [10] (λiv wr=> ∃i:Nat,i<=25/\iv=U5 By i/\Hid (LK w wq wr sb tb xb I o L i)) (λiv _=>25-(intOf iv).toNat)
     case atStart=>exact⟨0,aW _,rfl,KCQ⟩
     case round=>
      rename Nat=>i0
      obtain⟨i,hi,rfl,HP⟩:=hrel
      by_cases h1:i<m2
      .have ZA:(i:Int)<(m2:Int):=by omega
       by_cases h2:i<25
       .have WS:(i:Int)<25:=by omega
        obtain⟨ad,rfl,hSa,gj⟩:=HA2.o wr HP.o.b i h1;obtain⟨c0,c1,c2,c3,c4,c5,c6⟩:=hSa;have HC:=xh (show ∀W,Below w.heap.size w W->zF W (ad.add (i*7)) (F2 i)from λW hb=>by
         obtain⟨ad',e,h,_⟩:=HA2.o W hb i h1;injection e with e
         rw[e];exact h)
        have Em:=xh gj.1.2.2.2;clear gj;generalize F2 i=sa at c0 c1 c2 c3 c4 c5 c6 HC Em;obtain⟨kd2,sp2,lp2,nn2,QM,QN,QO⟩:=sa;dsimp only at c0 c1 c2 c3 c4 c5 c6 Em;obtain⟨bb,vR⟩:∃bb,decide (QM.size<100/\QN.size<100/\QO.size<1500)=bb:=⟨_,rfl⟩;have KS2:=xh (λ(W:YB)=>KS.o kd2 sp2 lp2 nn2 QM QN QO W bb vR.symm);have ei:IntKind.i64.wrap ((i:Int)+1)=((i+1:Nat):Int):=IntWalk.i64_in _ (by omega);have HBB:=xh vR;clear vR;go_wp2_with fail
        refine(KS2.o _).mono ?_;rintro e w7 ⟨rfl,tW⟩;have P7:=xh (HP.o.below tW);clear tW c0 c1 c2 c3 c4 c5 c6
        cases bb
        .have P8:=xh (P7.o.succ);go_wp2_with fail;go_roundw
         case rel=>exact⟨i+1,by omega,by go_num,P8⟩
         case measure=>simp[intOf];omega
        .have KD:=xh (P7.o.do_ (by omega) kd2 sp2 lp2 nn2 QM QN QO (of_decide_eq_true HBB.o) Em.o);obtain⟨c0,c1,c2,c3,c4,c5,c6⟩:=HC.o w7 P7.o.b;dsimp only at c0 c1 c2 c3 c4 c5 c6;go_wp2_with fail;refine KD.o.mono ?_;rintro e w8 ⟨b8,rfl,P8⟩;have P8:=xh P8;clear c0 c1 c2 c3 c4 c5 c6;go_wp2_with fail;go_roundw
         case rel=>exact⟨i+1,by omega,by go_num,P8⟩
         case measure=>simp[intOf];omega
       .have WS:¬(i:Int)<25:=by omega
        go_wp2_with fail;go_meet;exact⟨i,hi,rfl,HP⟩
      .have ZA:¬(i:Int)<(m2:Int):=by omega
       go_wp2_with fail;go_meet;exact⟨i,hi,rfl,HP⟩
    case rest=>
     obtain⟨i,hi,rfl,HP⟩:=hcut;have KP:=xh HP.o.Jg;go_wp2_with fail;refine KP.o.mono ?_;rintro e w20 ⟨rfl,a20⟩;have KAB:=xh (a20.abort hi hC.o YQ.o HX.o);unfold pp at KAB;unfold pp;clear a20;go_wp2_with fail;refine KAB.o.mono ?_;rintro e w21 ⟨rfl,a21⟩;have KP2:=xh a21.Jg;clear a21;go_wp2_with fail;refine KP2.o.mono ?_;rintro e w22 ⟨rfl,a22⟩;have KO:=xh (a22.open_ (by omega) HX.o.1);unfold pp at KO;unfold pp;clear a22;go_wp2_with fail;refine KO.o.mono ?_
     rintro e w23 ⟨sb2,rfl,a23⟩;have KF:=xh a23.fresh;clear a23;go_wp2_with fail;refine KF.o.mono ?_;rintro e w24 ⟨rfl,a24⟩;have a24:=xh a24;clear HP;go_wp2_with fail;have HLY:=xh (show Ly.length=L.length by have:=congrArg List.length Ji.o;rw[bM,bM]at this;exact this)
     go_loopw [13] (λiv wr=> ∃i:Nat,i<=Ly.length/\iv=U5 By i/\Hid (KZ w wr sb2 I M (2200000002+300000*i) yb yb Ly)) (λiv _=>Ly.length-(intOf iv).toNat)
     case atStart=>exact⟨0,aW _,rfl,a24⟩
     case round=>
      obtain⟨i,hi13,rfl,HZ⟩:=hrel
      by_cases h13:i<Ly.length
      .obtain⟨s,l,mb,hLy,hs,hl⟩:=key_at Ji.o hR.o h13;have hLy:=xh hLy;obtain⟨g,n,c,v,y0,sW,Ha,vr,y1,y2,y3,y4,_⟩:=HZ.o.2.at hLy.o;obtain⟨Ay,cy,y00⟩:=HZ.o.2.y0;have hny:n=Ly.length:=by
        rw[y0]at y00;injection y00 with y00
        injection y00
       have KSC:=xh ((HZ.o.below (Below.refl _ _).drew).scan (by have:=ou.o;have:=HLY.o;omega) HX.o.1 hs hl);have hinI:(i:Int)<(n:Int):=by omega
       have hiLI:(i:Int)<(Ly.length:Int):=by omega
       have hic:i<c:=by omega
       have ei:IntKind.i64.wrap ((i:Int)+1)=((i+1:Nat):Int):=IntWalk.i64_in _ (by have:=ou.o;have:=HLY.o;omega);clear y00 y3 y4 hny;go_wp2_with fail;refine wp_region_held_drew (S:=λW=>W.cell? ⟨yb,0,none⟩=some (U3 (some ⟨g,0,none⟩) n c)/\W.cell? ⟨g,i*3,none⟩=some (U5 By (s:Nat))/\W.cell? ⟨g,i*3+1,none⟩=some (U5 By (l:Nat))) (by kernel_rfl) (⟨y0,y1,y2⟩) (λau=>?_)
       refine dP [(0,152),(1,153),(2,154),(3,155),(4,156),(5,157),(6,158),(7,159),(8,160),(9,161),(10,162),(11,163),(12,164),(13,165),(14,166),(15,167),(16,168)] ?_
       iterate 17 refine bJ ?_
       refine dI 17 169 λK hK=>?_;go_simp
       go_at_call 41
       refine KSC.o.mono ?_;rintro e w26 ⟨v6,rfl,S26,h26,H26,f26⟩;obtain⟨A6,c6,rfl⟩:=ax S26;have S26:=xh S26;have H26l:=xh h26;have H26:=xh H26;have y26:=xh ((HZ.o.below (Below.refl _ _).drew).2.pf HX.o.1 y0 sW y1 y2 f26);clear h26 f26;go_simp;refine bn hK (y26.o) (λau=>?_);refine dP [(18,151),(19,170),(20,171),(21,14),(22,15)] ?_
       iterate 5 refine bJ ?_
       refine wpAnyH_done (by kernel_rfl) ?_ _;clear y0 y1 y2;obtain⟨g2,n2,c2,v2,y0,hin2,hnc2,hcm2,y1,y2,y3,y4,S2⟩:=H26.o.2.at hLy.o;have y00:=y26.o.1;rw[y0]at y00;injection y00 with y00
       injection y00 with q1 q2 q3
       injection q1 with q1
       injection q1 with q1
       subst q1 q2 q3;have y3':wr=wr:=rfl;obtain⟨A2',c2',rfl⟩:=ax S2;have y3:w26.cell? ⟨g2,i*3+2,none⟩=some (U7 (some ⟨mb,0,none⟩)):=y3;clear y3';have KE:=xh (Mk S26.o S2 (by have:=H26l.o;omega) (by have:=H26l.o;omega) true (by simp));have hin2I:(i:Int)<(n2:Int):=by omega
       have hic2:i<c2:=by omega
       clear S2;go_wp2_with fail;refine KE.o.mono ?_;rintro e w27 ⟨rfl,hb27⟩;have H27:=xh (H26.o.below hb27);clear hb27 y0 y1 y2 y3 y4 KE;go_wp2_with fail;go_roundw
       case rel=>exact⟨i+1,by omega,by go_num,(show 2200000002+300000*i+300000=2200000002+300000*(i+1) by omega)▸H27⟩
       case measure=>simp[intOf];omega
      .obtain⟨Ay,cy,y0⟩:=HZ.o.2.y0;have hiLI:¬(i:Int)<(Ly.length:Int):=by omega
       have O9:=xh HZ.o.1.bel;go_wp2_with fail;go_ret;exact aI O9.o
end Sh
end Go.Proofs.YtmonobkginiajaaGreat
