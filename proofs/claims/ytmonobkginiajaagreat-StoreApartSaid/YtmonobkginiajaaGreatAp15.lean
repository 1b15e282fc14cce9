/- packed. -/
import Derived.Test.YtmonobkginiajaaGreatAp14
set_option linter.all false
set_option maxRecDepth 100000
set_option maxHeartbeats 8000000
namespace Go.Proofs.YtmonobkginiajaaGreat
open Go.Proofs.Tryz
namespace Sh
open Go.RowKit Pk Dk Pg
def Bf(s l:Nat)(M M':List PR):Prop:= ∀s' l',s'<=7->l'<=5->¬(s=s'/\l=l')->aF s' l' M'=aF s' l' M
theorem Bf.refl(s l:Nat)(M:List PR):Bf s l M M:=λ_ _ _ _ _=>rfl
theorem mz(s l:Nat)(M:List PR):(aF s l M).length<=M.length:=by unfold aF;rw[fM];exact yb ..
theorem PF{s l:Nat}{M:List PR}{c:Nat}(h:∀x∈M,x.2.size<=c):∀x∈aF s l M,x.2.size<=c:=λx hx=>by
 unfold aF at hx;obtain⟨y,hy,rfl⟩:=cg.1 hx;exact h y (dS.1 hy).1
section
variable{q:QS}{M:List PR}{k s l:Nat}(h:SI q M k)(hk:k<=30)(hs:s<=7)(hl:l<=5)
include h hk hs hl
theorem SI.setP(r value:ByteArray)(hr:r.size<=30):
  (q.fQ (aD s l++r) value).2=(if 32<r.size\/1024<value.size then 4 else 0)/\∃M',SI (q.fQ (aD s l++r) value).1 M' (k+1)/\aF s l M'=ue (aF s l M) r value/\Bf s l M M':=by
 unfold ue
 by_cases hb:1024<value.size
 .rw[if_pos (.inr hb),if_pos (.inr hb)];have e:q.fQ (aD s l++r) value=(q,4):=by unfold QS.fQ;rw[if_pos (.inr hb)]
  rw[e];exact⟨rfl,M,h.le (by omega),rfl,Bf.refl _ _ _⟩
 .have hn:¬(32<r.size\/1024<value.size):=by omega
  rw[if_neg hn,if_neg hn];obtain⟨a,b,_⟩:=rk r (aF s l M) (qo hs hl h.keys h.sorted);rw[a,b];obtain⟨x,y⟩:=h.set hk hs hl hr value (by omega);exact⟨x,_,y,set_own hs hl h.keys r value hr,λs' l' Ff ET hn=>PA hs hl Ff ET h.sorted hn r value hr⟩
theorem SI.delP(r:ByteArray):
  (q.jo (aD s l++r)).2=(if rK (aF s l M) r=true then 0 else 9)/\∃M',SI (q.jo (aD s l++r)).1 M' k/\aF s l M'=Am (aF s l M) r/\Bf s l M M':=by
 obtain⟨a,b,c,_⟩:=rk r (aF s l M) (qo hs hl h.keys h.sorted);unfold Am;have he:=UG hs hl h.keys r;have hiff:ng M (aD s l++r)=[]↔ng (aF s l M) r=[]:=by
  constructor
  .intro h0;rw[<-he,h0];rfl
  .intro h0;rw[h0]at he
   cases hC:ng M (aD s l++r)with
   |nil=>rfl
   |cons x C=>
    exfalso;have hx:x∈ng M (aD s l++r):=by rw[hC];simp
    have hk:x.1=aD s l++r:=of_decide_eq_true (dS.1 hx).2;have:mx x∈aF s l (ng M (aD s l++r)):=lu (dS.2 ⟨hx,by unfold jZ;rw[hk];exact(oR hs hl ⟨hs,hl⟩).2 ⟨rfl,rfl⟩⟩);rw[he]at this;simp at this
 rcases h.del hk (aD s l++r)with⟨x,y,z⟩|⟨x,y,z⟩
 .have hb:¬rK (aF s l M) r=true:=λhb=>c.1 hb (hiff.1 y);rw[if_neg hb,if_neg hb];exact⟨x,M,z,rfl,Bf.refl _ _ _⟩
 .have hb:rK (aF s l M) r=true:=c.2 (λe=>y (hiff.2 e));rw[if_pos hb]at b;rw[if_pos hb,if_pos hb,a,b];exact⟨x,_,z,del_own hs hl h.keys r,λs' l' Ff ET hn=>PD hs hl Ff ET h.sorted hn r⟩
theorem SI.clearP(a b:ByteArray):
  (q.gW (aD s l++a) (ky s l b)).2=(((aF s l M).length:Int)-(lH a b (aF s l M)).length,0)/\∃M',SI (q.gW (aD s l++a) (ky s l b)).1 M' k/\aF s l M'=lH a b (aF s l M)/\Bf s l M M':=by
 rw[Pv,out_eq];obtain⟨x,y⟩:=h.clear hk (aD s l++a) (ky s l b);refine⟨?_,_,y,PE hs hl h.keys a b,λs' l' Ff ET hn=>Hv hs hl Ff ET h.keys hn a b⟩;rw[x,<-vM hs hl h.keys,fM]
theorem SI.getP(r:ByteArray):SI (q.eQ (aD s l++r)).1 M k/\(q.eQ (aD s l++r)).2=cB (aF s l M) r:=by
 obtain⟨a,b,c,d⟩:=rk r (aF s l M) (qo hs hl h.keys h.sorted);obtain⟨x,y⟩:=h.get hk (aD s l++r);refine⟨x,?_⟩;rw[y,d,<-UG hs hl h.keys r]
 cases hC:ng M (aD s l++r)with
 |nil=>rfl
 |cons z C=>
  have hx:z∈ng M (aD s l++r):=by rw[hC];simp
  have hk:z.1=aD s l++r:=of_decide_eq_true (dS.1 hx).2;have hp:jZ (aD s l) (aD s (l+1)) z=true:=by unfold jZ;rw[hk];exact(oR hs hl ⟨hs,hl⟩).2 ⟨rfl,rfl⟩
  unfold aF;rw[fL,if_pos hp,eh];rfl
theorem SI.eH(a b:ByteArray)(n:Int):SI (q.iF (aD s l++a) (ky s l b) n).1 M k/\(q.iF (aD s l++a) (ky s l b) n).2.1.map mx=Sh.eH a b n (aF s l M)/\(q.iF (aD s l++a) (ky s l b) n).2.2=0/\(∀x∈(q.iF (aD s l++a) (ky s l b) n).2.1,2<=x.1.size/\x.1.size<=1000000)/\(q.iF (aD s l++a) (ky s l b) n).2.1.length<=30:=by
 obtain⟨x,y⟩:=h.scan hk (aD s l++a) (ky s l b) n;refine⟨x,?_⟩;rw[y];refine⟨?_,rfl,λz hz=>?_,?_⟩
 .show((M.filter (jZ (aD s l++a) (ky s l b))).take n.toNat).map mx=_;rw[Mn,mH,vM hs hl h.keys]
 .obtain⟨s',l',r,k1,k2,k3,k4⟩:=h.keys z (dS.1 (sV hz)).1;rw[k4,jE];omega
 .have:=h.len;have h2:=yb (jZ (aD s l++a) (ky s l b)) M;show((M.filter (jZ (aD s l++a) (ky s l b))).take n.toNat).length<=30;rw[bK];omega
theorem SI.lastP(a b:ByteArray):SI (q.il (aD s l++a) (ky s l b)).1 M k/\(Mr (q.il (aD s l++a) (ky s l b)).2,(q.il (aD s l++a) (ky s l b)).2.2)=(match (Sh.eH a b 1099511627776 (aF s l M)).getLast? with|none=>((⟨#[]⟩,⟨#[]⟩),9)|some x=>(x,0))/\((q.il (aD s l++a) (ky s l b)).2.2=0->2<=(q.il (aD s l++a) (ky s l b)).2.1.1.size/\(q.il (aD s l++a) (ky s l b)).2.1.1.size<=1000000):=by
 obtain⟨x,y⟩:=h.last hk (aD s l++a) (ky s l b);have hlen:=h.len;have hp:=mz s l M;refine⟨x,?_⟩;rw[Uu a b _ (by omega) (by omega),<-vM hs hl h.keys,IC,y]
 cases hg:(M.filter (jZ (aD s l++a) (ky s l b))).getLast? with
 |none=>exact⟨rfl,λe=>absurd e (by decide)⟩
 |some z=>
  refine⟨rfl,λ_=>?_⟩;obtain⟨s',l',r,k1,k2,k3,k4⟩:=h.keys z (dS.1 (List.mem_of_getLast? hg)).1;show 2<=z.1.size/\z.1.size<=1000000;rw[k4,jE];omega
end
theorem vN(g:ByteArray×Int)(hg:g.2=0\/g.2=9):E3 g=je g:=by
 obtain⟨b,e⟩:=g;unfold E3 je xi;dsimp only at hg ⊢
 rcases hg with rfl|rfl
 .by_cases h8:b.size=8
  .rw[if_pos (show is8 (b,0)from λ_=>h8),if_neg (by decide),if_neg (by simp),if_neg (by simp),if_neg (by simpa using h8)]
  .rw[if_neg (show ¬is8 (b,0)from λhx=>h8 (hx rfl)),if_neg (by simp),if_pos h8]
 .rw[if_pos (show is8 (b,9)from λhx=>absurd (show(9:Int)=0 from hx) (by decide)),if_pos rfl,if_pos (by simp)]
def Hx(l:List PR)(r:ByteArray)(m:Int):Int×Int:=if(je (cB l r)).2≠0 then(0,(je (cB l r)).2)else if ¬(ll m (-1099511627776)/\ll (je (cB l r)).1 0/\ll ((je (cB l r)).1+m) 0)then(0,3)else((je (cB l r)).1+m,0)
def Lc(l:List PR)(r:ByteArray)(m:Int):List PR:=if(Hx l r m).2≠0 then l else ue l r (sK ((je (cB l r)).1+m))
section
variable{q:QS}{M:List PR}{k:Nat}(h:SI q M k)(hk:k<=30)
include h hk
theorem SI.Ar(r:ByteArray):SI (q.jW r).1 M k/\(q.jW r).2=je (cB (aF 7 0 M) r)/\(q.eQ (eF r)).2.1.size<=1000000:=by
 obtain⟨x,y⟩:=h.getP hk (show 7<=7 by omega) (show 0<=5 by omega) r;have hz:=h.pM hk (eF r);refine⟨x,?_,by omega⟩;show E3 (q.eQ (aD 7 0++r)).2=_;rw[y];exact vN _ (ug (aF 7 0 M) r)
theorem SI.addP(r:ByteArray)(hr:r.size<=30)(m:Int):(q.Lb r m).2=Hx (aF 7 0 M) r m/\∃M',SI (q.Lb r m).1 M' (k+1)/\aF 7 0 M'=Lc (aF 7 0 M) r m/\Bf 7 0 M M':=by
 obtain⟨x,y,_⟩:=h.Ar hk r;have hg:(q.eQ (eF r)).2=cB (aF 7 0 M) r:=(h.getP hk (show 7<=7 by omega) (show 0<=5 by omega) r).2;have he:=ug (aF 7 0 M) r;have hx:SI (q.eQ (eF r)).1 M k:=x;unfold QS.Lb;rw[hg]
 by_cases h8:is8 (cB (aF 7 0 M) r)
 .rw[if_pos h8];have hc:xi (cB (aF 7 0 M) r)=je (cB (aF 7 0 M) r):=by
   have:=vN _ he;unfold E3 at this
   rwa [if_pos h8]at this
  have hF:q.cF r=((q.eQ (eF r)).1,je (cB (aF 7 0 M) r)):=by unfold QS.cF;rw[hg,hc]
  unfold QS.rC Lc Hx;rw[hF];dsimp only
  by_cases h1:(je (cB (aF 7 0 M) r)).2≠0
  .rw[if_pos h1,if_pos h1,if_pos h1];exact⟨rfl,M,hx.le (by omega),rfl,Bf.refl _ _ _⟩
  .rw[if_neg h1,if_neg h1]
   by_cases h2:¬(ll m (-1099511627776)/\ll (je (cB (aF 7 0 M) r)).1 0/\ll ((je (cB (aF 7 0 M) r)).1+m) 0)
   .rw[if_pos h2,if_pos h2];exact⟨rfl,M,hx.le (by omega),rfl,Bf.refl _ _ _⟩
   .rw[if_neg h2,if_neg h2];have hv:=kv ((je (cB (aF 7 0 M) r)).1+m);obtain⟨a,M',b,c,d⟩:=hx.setP hk (show 7<=7 by omega) (show 0<=5 by omega) r (sK ((je (cB (aF 7 0 M) r)).1+m)) hr;rw[if_neg (by omega)]at a;have a':((q.eQ (eF r)).1.fQ (eF r) ⟨(dj ((je (cB (aF 7 0 M) r)).1+m)).toArray⟩).2=0:=a;rw[if_neg (by rw[a'];simp),if_neg (by simp)];exact⟨rfl,M',b,c,d⟩
 .rw[if_neg h8];have hc:je (cB (aF 7 0 M) r)=(0,14):=by
   rw[<-vN _ he];unfold E3;rw[if_neg h8]
  unfold Lc Hx;rw[hc];exact⟨rfl,M,hx.le (by omega),rfl,Bf.refl _ _ _⟩
end
variable{F:List Nat}{q q':QS}{M':List PR}
structure Rl(M:List PR)(L:List De):Prop where
 p:∀e∈L,∃s l:Nat,e.1.1=(s:Nat)/\e.1.2.1=(l:Nat)/\s<=7/\l<=5/\e.2=aF s l M
 n:∀s l:Nat,s<=7->l<=5->(∀e∈L,¬(e.1.1=(s:Nat)/\e.1.2.1=(l:Nat)))->aF s l M=[]
theorem Rl.start:Rl [] []:=⟨λe he=>(by simp at he),λ_ _ _ _ _=>rfl⟩
section
variable{w:World}{z xb mb:Nat}{L L':List De}{M M' pl:List PR}{s l:Nat}
theorem Rl.of(R:Rl M L)(D:DX w z xb L')(hs:s<=7)(hl:l<=5)(hm:(((s:Int),(l:Int),mb),pl)∈L')(hL:L'=L\/(L'=L++[(((s:Int),(l:Int),mb),[])]/\pl=[])):Rl M L'/\pl=aF s l M:=by
 rcases hL with rfl|⟨rfl,rfl⟩
 .refine⟨R,?_⟩;obtain⟨s',l',e1,e2,_,_,e3⟩:=R.p _ hm;have h1:s=s':=Int.ofNat_inj.1 e1;have h2:l=l':=Int.ofNat_inj.1 e2;rw[h1,h2];exact e3
 .have tC:∀e∈L,¬(e.1.1=(s:Nat)/\e.1.2.1=(l:Nat)):=λe he ⟨h1,h2⟩=>by
   have oY:=D.ku e (bQ _ he) _ hm h1 h2;have nd:=D.nd;rw[cW,gz]at nd;exact nd.2.2 e.1.2.2 (lu he) mb (by simp) (by rw[oY])
  have hp:=R.n s l hs hl tC;refine⟨⟨λe he=>?_,λs' l' h1 h2 h3=>R.n s' l' h1 h2 λe he=>h3 e (bQ _ he)⟩,hp.symm⟩
  rcases az.1 he with he|he
  .exact R.p e he
  .rw[aP.1 he];exact⟨s,l,rfl,rfl,hs,hl,hp.symm⟩
theorem Rl.upd(R:Rl M L)(D:DX w z xb L)(hs:s<=7)(hl:l<=5)(hm:(((s:Int),(l:Int),mb),pl)∈L)(hO:Bf s l M M'){p':List PR}(hp:aF s l M'=p'):Rl M' (qk L mb p'):=by
 subst hp;have hmb:∀e∈L,e.1.2.2=mb->e=(((s:Int),(l:Int),mb),pl):=λe he h=>by
  have nd:=D.nd;obtain⟨i,hi,ei⟩:=xj.1 he;obtain⟨j,hj,ej⟩:=xj.1 hm;have:=(Dg.1 nd);have hij:i=j:=by
   by_cases dV:i<j
   .have:=sW.1 nd i j (by simpa using hi) (by simpa using hj) dV;rw[uw,uw,ei,ej]at this;exact absurd h this
   .by_cases hgt:j<i
    .have:=sW.1 nd j i (by simpa using hj) (by simpa using hi) hgt;rw[uw,uw,ei,ej]at this;exact absurd h.symm this
    .omega
  subst hij;rw[<-ei,<-ej]
 refine⟨λe he=>?_,λs' l' h1 h2 h3=>?_⟩
 .unfold qk at he;obtain⟨e0,h0,rfl⟩:=cg.1 he
  by_cases hx:e0.1.2.2=mb
  .rw[if_pos hx,hmb e0 h0 hx];exact⟨s,l,rfl,rfl,hs,hl,rfl⟩
  .rw[if_neg hx];obtain⟨s',l',e1,e2,k1,k2,e3⟩:=R.p e0 h0;refine⟨s',l',e1,e2,k1,k2,?_⟩;rw[e3];refine(hO s' l' k1 k2 λhh=>hx ?_).symm;rw[D.ku e0 h0 _ hm (by rw[e1,<-hh.1]) (by rw[e2,<-hh.2])]
 .have eV:¬(s=s'/\l=l'):=λhh=>by
   refine h3 (((s:Int),(l:Int),mb),aF s l M') ?_ ⟨by rw[<-hh.1],by rw[<-hh.2]⟩;unfold qk;exact cg.2 ⟨(((s:Int),(l:Int),mb),pl),hm,by simp⟩
  rw[hO s' l' h1 h2 eV];refine R.n s' l' h1 h2 λe he hh=>?_;refine h3 (if e.1.2.2=mb then(e.1,aF s l M')else e) (lu he) ?_;have k0:(if e.1.2.2=mb then(e.1,aF s l M')else e).1=e.1:=by split<;>rfl
  rw[k0];exact hh
end
def SY(w W:World)(sb tb:Nat)(I:Ix)(M:List PR)(k K:Nat):Prop:= ∃F q,Ai w W sb tb I F q 1202 K/\SI q M k
section
variable{w W W':World}{sb tb xb:Nat}{I:Ix}{M:List PR}{L:List De}{k k' K K':Nat}
theorem SY.below(h:SY w W sb tb I M k K)(hb:Below W.heap.size W W'):SY w W' sb tb I M k K:=by
 obtain⟨F,q,A,S⟩:=h;exact⟨F,q,A.below hb,S⟩
theorem SY.drew(h:SY w W sb tb I M k K):SY w W.drew sb tb I M k K:=h.below (Below.refl _ _).drew
theorem SY.le(h:SY w W sb tb I M k K)(hk:k<=k')(hK:K<=K'):SY w W sb tb I M k' K':=by
 obtain⟨F,q,A,S⟩:=h;exact⟨F,q,A.le hK,S.le hk⟩
theorem SY.bel(h:SY w W sb tb I M k K):Below w.heap.size w W:=by
 obtain⟨F,q,A,S⟩:=h;exact A.o
theorem SY.doc(h:SY w W sb tb I M k K){b:Nat}{t:TypeId}{cs:Array Value}(o:ag [b] W W')(hb:w.heap.size<=b)(B:aE W b t cs)(hs:t≠182)(ht:t≠130)(ha:t≠143)(hf:t≠167)(h1:t≠146)(h2:t≠218)(h3:t≠3)(h4:t≠149)(h5:t≠152)(h6:t≠4)(h7:t≠231):SY w W' sb tb I M k K:=by
 obtain⟨F,q,A,S⟩:=h;refine⟨F,q,⟨A.b.only o (λhm=>B.lI A.b hs (aP.1 hm).symm),A.t.only o (λg hg hm=>?_),A.o.trans (o.aO A.o.size (λg hg=>by rw[aP.1 hg];exact hb)),A.f⟩,S⟩;have hm:=aP.1 hm;subst hm
 rcases ar.1 hg with hg|hg
 .exact B.lI A.t.1 ht hg
 .exact A.t.2.fR B ha hf h1 h2 h3 h4 h5 h6 h7 hg
theorem SY.pt(A:Ai w W sb tb I F q 1202 K)(D:DX W w.heap.size xb L)(p:PT W W' I F q' 1202 K')(S:SI q' M' k'):SY w W' sb tb I M' k' K'/\DX W' w.heap.size xb L:=by
 obtain⟨F',A'⟩:=A.pt p;obtain⟨F2,P,o,f⟩:=p;exact⟨⟨F',q',A',S⟩,D.pq A.t.2 o⟩
theorem SY.pq(A:Ai w W sb tb I F q 1202 K)(D:DX W w.heap.size xb L)(P:PQ W' I F q' 1202 K')(o:ag F W W')(S:SI q' M' k'):SY w W' sb tb I M' k' K'/\DX W' w.heap.size xb L:=
 ⟨⟨F,q',A.pq P o,S⟩,D.pq A.t.2 o⟩
end
attribute [local go_sem ↓] Go.wp_at_zero Go.wp_at_succ
variable{W W':World}{N:List PR}
abbrev im(kd sp lp n:Int)(key til val:ByteArray):Array Value:= #[.int .i64 kd,.int .i64 sp,.int .i64 lp,.int .i64 n,.string key,.string til,.string val]
theorem Hy(kd sp lp nn:Int)(key til val:ByteArray)(w:World)(b:Bool)(hb:b=decide (key.size<100/\til.size<100/\val.size<1500)):Calls prog 39 #[.agg #[.int .i64 kd,.int .i64 sp,.int .i64 lp,.int .i64 nn,.string key,.string til,.string val]] w λe w'=>e=.returned (.bool b)/\Below w.heap.size w w':=by
 have B0:=xh (aE.new w 82 (im kd sp lp nn key til val));have O0:=xh (ae (Below.refl w.heap.size w) (.cells (im kd sp lp nn key til val) 82));have y2:=B0.o.ab (i:=4) rfl;have y3:=B0.o.ab (i:=5) rfl;have y4:=B0.o.ab (i:=6) rfl;unfold im at *
 by_cases h1:key.size<100
 .have h1I:(key.size:Int)<100:=by omega
  by_cases h2:til.size<100
  .have h2I:(til.size:Int)<100:=by omega
   by_cases h3:val.size<1500
   .have h3I:(val.size:Int)<1500:=by omega
    rw[decide_eq_true ⟨h1,h2,h3⟩]at hb;subst hb;clear h1 h2 h3;go_enter func39,ntmps39;go_wp2_with fail;go_ret;exact aC O0.o
   .have h3I:¬(val.size:Int)<1500:=by omega
    rw[decide_eq_false (λh=>h3 h.2.2)]at hb;subst hb;clear h1 h2 h3;go_enter func39,ntmps39;go_wp2_with fail;go_ret;exact aC O0.o
  .have h2I:¬(til.size:Int)<100:=by omega
   rw[decide_eq_false (λh=>h2 h.2.1)]at hb;subst hb;clear h1 h2;go_enter func39,ntmps39;go_wp2_with fail;go_ret;exact aC O0.o
 .have h1I:¬(key.size:Int)<100:=by omega
  rw[decide_eq_false (λh=>h1 h.1)]at hb;subst hb;clear h1;go_enter func39,ntmps39;go_wp2_with fail;go_ret;exact aC O0.o
theorem Rl.same{M M':List PR}{L:List De}{s l:Nat}(R:Rl M L)(hp:aF s l M'=aF s l M)(hO:Bf s l M M'):Rl M' L:=by
 have key:∀s' l',s'<=7->l'<=5->aF s' l' M'=aF s' l' M:=λs' l' h1 h2=>by
  by_cases hh:s=s'/\l=l'
  .obtain⟨rfl,rfl⟩:=hh;exact hp
  .exact hO s' l' h1 h2 hh
 refine⟨λe he=>?_,λs' l' h1 h2 h3=>?_⟩
 .obtain⟨s',l',e1,e2,k1,k2,e3⟩:=R.p e he;exact⟨s',l',e1,e2,k1,k2,by rw[key s' l' k1 k2];exact e3⟩
 .rw[key s' l' h1 h2];exact R.n s' l' h1 h2 h3
def jr(W W':World):Prop:= ∀b t cs,aE W b t cs->t=82\/t=42->aE W' b t cs
theorem jr.below(hb:Below W.heap.size W W'):jr W W':=λ_ _ _ B _=>B.below hb B.lt
theorem jr.trans{W'':World}(h:jr W W')(h2:jr W' W''):jr W W'':=λb t cs B ht=>h2 b t cs (h b t cs B ht) ht
theorem jr.one{b:Nat}{t:TypeId}{cs:Array Value}(o:ag [b] W W')(B:aE W b t cs)(h1:82≠t)(h2:42≠t):jr W W':=λb' t' cs' B' ht=>B'.only o (λhm=>by
 have hm:=aP.1 hm
 rcases ht with rfl|rfl
 .exact B'.lI B h1 hm
 .exact B'.lI B h2 hm)
theorem jr.pq{I:Ix}{F:List Nat}{q:QS}{n K:Nat}(o:ag F W W')(P:PQ W I F q n K):jr W W':=λb' t' cs' B' ht=>B'.only o (by
 rcases ht with rfl|rfl
 .exact P.fR B'
 .exact P.fR B')
section
variable{w W:World}{sb tb xb:Nat}{I:Ix}{M:List PR}{L:List De}{k K:Nat}{s l mb:Nat}{p:List PR}
theorem SY.qI(h:SY w W sb tb I M k K)(D:DX W w.heap.size xb L)(hk:k<=30)(hK:K<=999998000000)(r:ByteArray)(hr:r.size<=30)(m:Int):
  Calls prog 37 #[.pointer (some ⟨sb,0,none⟩),.string r,.int .i64 m] W λe W'=>e=.returned (.tuple #[.int .i64 (Hx (aF 7 0 M) r m).1,.int .i64 (Hx (aF 7 0 M) r m).2])/\∃M',SY w W' sb tb I M' (k+1) (K+200)/\DX W' w.heap.size xb L/\aF 7 0 M'=Lc (aF 7 0 M) r m/\Bf 7 0 M M'/\jr W W':=by
 obtain⟨F,q,A,S⟩:=h;obtain⟨a,M',b,c,d⟩:=S.addP hk r hr m;refine(Pz A.b A.t hK r hr (S.Ar hk r).2.2 m).mono ?_;rintro e W' ⟨rfl,pp⟩;obtain⟨y,D'⟩:=SY.pt A D pp b;obtain⟨F2,P2,o2,f2⟩:=pp;rw[a];exact⟨rfl,M',y,D',c,d,jr.pq o2 A.t.2⟩
theorem SY.xdoc(h:SY w W sb tb I M k K)(D:DX W w.heap.size xb L)(o:ag [xb] W W'):SY w W' sb tb I M k K:=by
 obtain⟨A,n,c,X⟩:=D.x;exact h.doc o D.f.1 X.b (by decide) (by decide) (by decide) (by decide) (by decide) (by decide) (by decide) (by decide) (by decide) (by decide) (by decide)
theorem SY.mdoc{e:De}(h:SY w W sb tb I M k K)(D:DX W w.heap.size xb L)(he:e∈L)(o:ag [e.1.2.2] W W'):SY w W' sb tb I M k K:=by
 obtain⟨v,X⟩:=D.m e he;exact h.doc o (D.f.2 e he) X.b (by decide) (by decide) (by decide) (by decide) (by decide) (by decide) (by decide) (by decide) (by decide) (by decide) (by decide)
theorem DX.fra(D:DX W w.heap.size xb L)(o:ag [xb] W W'):jr W W':=by
 obtain⟨A,n,c,X⟩:=D.x;exact jr.one o X.b (by decide) (by decide)
theorem DX.mfra{e:De}(D:DX W w.heap.size xb L)(he:e∈L)(o:ag [e.1.2.2] W W'):jr W W':=by
 obtain⟨v,X⟩:=D.m e he;exact jr.one o X.b (by decide) (by decide)
theorem SY.za(h:SY w W sb tb I M k K)(D:DX W w.heap.size xb L)(R:Rl N L)(hn:L.length<10000)(hs:s<=7)(hl:l<=5):
  Calls prog 93 #[.pointer (some ⟨xb,0,none⟩),.int .i64 (s:Nat),.int .i64 (l:Nat)] W λe W'=> ∃mb L',e=.returned (.pointer (some ⟨mb,0,none⟩))/\SY w W' sb tb I M k K/\DX W' w.heap.size xb L'/\Rl N L'/\(((s:Int),(l:Int),mb),aF s l N)∈L'/\jr W W'/\L'.length<=L.length+1:=by
 refine(D.of hn h.bel.size (s:Nat) (l:Nat)).mono ?_;rintro e W' ⟨mb,rfl,p,L',D',hm,hL,o⟩;obtain⟨R',hp⟩:=R.of D' hs hl hm hL;refine⟨mb,L',rfl,h.xdoc D o,D',R',hp▸hm,D.fra o,?_⟩
 rcases hL with rfl|⟨rfl,_⟩
 .omega
 .rw[aQ];simp
theorem SY.kL(h:SY w W sb tb I M k K)(D:DX W w.heap.size xb L)(R:Rl N L)(hN:∀x∈N,x.2.size<=1000000)(hn:L.length<10000)(r:ByteArray):
  Calls prog 91 #[.pointer (some ⟨xb,0,none⟩),.string r] W λe W'=> ∃mb L',e=.returned (.tuple #[.int .i64 (je (cB (aF 7 0 N) r)).1,.int .i64 (je (cB (aF 7 0 N) r)).2])/\SY w W' sb tb I M k K/\DX W' w.heap.size xb L'/\Rl N L'/\(((7:Nat):Int),((0:Nat):Int),mb)∈L'.map (λe=>e.1)/\jr W W'/\L'.length<=L.length+1:=by
 refine(Sh.kL D hn h.bel.size r (λe he x hx=>?_)).mono ?_
 .obtain⟨s',l',_,_,_,_,e3⟩:=R.p e he;rw[e3]at hx;exact PF hN x hx
 .rintro e W' ⟨mb,p,L',rfl,D',hm,hL,o⟩;obtain⟨R',hp⟩:=R.of (s:=7) (l:=0) D' (by omega) (by omega) hm hL;rw[hp];refine⟨mb,L',rfl,h.xdoc D o,D',R',cg.2 ⟨_,hm,rfl⟩,D.fra o,?_⟩
  rcases hL with rfl|⟨rfl,_⟩
  .omega
  .rw[aQ];simp
theorem SY.uf(h:SY w W sb tb I M k K)(D:DX W w.heap.size xb L)(hm:(((s:Int),(l:Int),mb),p)∈L)(hp:p.length<=1000)(key value:ByteArray)(h1:key.size<=1000000)(h2:value.size<=1000000):
  Calls prog 54 #[.pointer (some ⟨mb,0,none⟩),.string key,.string value] W λe W'=>e=.returned (.int .i64 (if 32<key.size\/1024<value.size then 4 else 0))/\SY w W' sb tb I M k K/\DX W' w.heap.size xb (qk L mb (ue p key value))/\jr W W':=by
 obtain⟨v,X⟩:=D.m _ hm;refine(Sh.uf X key value (by show p.length<_;omega) h1 h2).mono ?_;rintro e W' ⟨rfl,v',X',o⟩;exact⟨rfl,h.mdoc D hm o,D.map hm o X',D.mfra hm o⟩
end
variable{w W:World}{sb tb k K:Nat}{I:Ix}{M:List PR}
theorem SY.Aq(h:SY w W sb tb I M k K):(∀x∈M,x.2.size<=1024)/\M.length<=k:=by
 obtain⟨F,q,A,S⟩:=h;exact⟨S.Aq,S.len⟩
def DoS(w W W':World)(sb tb xb:Nat)(I:Ix)(M:List PR)(L:List De)(k K s l:Nat):Prop:=
 ∃M' L',SY w W' sb tb I M' (k+1) K/\DX W' w.heap.size xb L'/\Rl M' L'/\Bf s l M M'/\jr W W'/\L'.length<=L.length+2
theorem UH{xb:Nat}{L:List De}(h:SY w W sb tb I M k K)(D:DX W w.heap.size xb L)(R:Rl M L)(hn:L.length<=1000)(hk:k<=30)(hK:K<=999990000000)(kd sp lp m:Int)(r til val:ByteArray)(gQ:r.size<=100000)(hm: -9223372036854775808<=m/\m<=9223372036854775807):
  Calls prog 90 #[.pointer (some ⟨sb,0,none⟩),.pointer (some ⟨xb,0,none⟩),.agg (im kd sp lp m r til val)] W λe W'=>e=.returned (.bool true)/\DoS w W W' sb tb xb I M L k (K+200) 7 0:=by
 have hb:=ae (Below.refl W.heap.size W) (.cells (im kd sp lp m r til val) 82);have CZ:=aE.new W 82 (im kd sp lp m r til val);have h0:=xh (h.below hb);have D0:=xh (D.below hb);have F0:=xh (jr.below hb);obtain⟨z,hz⟩:∃z,W.heap.size=z:=⟨_,rfl⟩;rw[hz]at CZ;have CZ:=xh CZ;have HZ:=xh hz;have HR:=xh R;have HV:=xh h.Aq;have HN:=xh (And.intro hn (And.intro hk hK));clear h D R hn hk hK hb hz;have y3:=CZ.o.ab (i:=3) rfl
 have y4:=CZ.o.ab (i:=4) rfl;have oS:=HZ.o
 by_cases hr:r.size<=30
 .have hrI:¬(30<(r.size:Int)):=by omega
  have KA:=xh (λ(V:World) (hV:SY w V sb tb I M k K) (DV:DX V w.heap.size xb L)=>hV.qI DV HN.o.2.1 (by have:=HN.o.2.2;omega) r hr m);obtain⟨n1,e1,hA⟩:∃n1 e1,Hx (aF 7 0 M) r m=(n1,e1):=⟨_,_,rfl⟩;obtain⟨ol,fe,hC⟩:∃ol fe,je (cB (aF 7 0 M) r)=(ol,fe):=⟨_,_,rfl⟩;rw[hA]at KA;have hA2:=hA;unfold Hx at hA2;rw[hC]at hA2;dsimp only at hA2 KA;unfold im at *;go_enter func90,ntmps90;go_wp2_with fail;refine(KA.o _ h0.o D0.o).mono ?_
  rintro e w1 ⟨rfl,M1,h1,D1,hp1,hO1,f1⟩;have C1:=xh (f1 _ _ _ CZ.o (.inl rfl));have F1:=xh (F0.o.trans f1);have KC:=xh (h1.kL D1 HR.o (λx hx=>by have:=HV.o.1 x hx;omega) (by have:=HN.o.1;omega) r);rw[hC]at KC;have P1:=xh (And.intro hp1 hO1);clear h1 D1 f1 y3 y4 hp1 hO1;have y3:=C1.o.ab (i:=3) rfl;have y4:=C1.o.ab (i:=4) rfl;have HA:=xh hA;have HC:=xh hC
  replace hA2:=xh hA2
  clear hA hC;go_wp2_with fail;refine KC.o.mono ?_;rintro e w2 ⟨mb,L2,rfl,h2,D2,R2,Ig,f2,n2⟩;have C2:=xh (f2 _ _ _ C1.o (.inl rfl));have F2:=xh (F1.o.trans f2);have H2:=xh (And.intro h2 (And.intro D2 (And.intro R2 n2)));clear h2 D2 R2 f2 n2 y3 y4 Ig;have y3:=C2.o.ab (i:=3) rfl;have y4:=C2.o.ab (i:=4) rfl;dsimp only
  by_cases hf:fe=0
  .subst hf;have hA3:=hA2.o;rw[if_neg (by simp)]at hA3
   by_cases ir:ll m (-1099511627776)/\ll ol 0/\ll (ol+m) 0
   .rw[if_neg (by simpa using ir)]at hA3;injection hA3 with q1 q2
    subst q1 q2;obtain⟨⟨a1,a2⟩,⟨a3,a4⟩,⟨a5,a6⟩⟩:=ir;have s1:IntKind.i64.wrap (ol+m)=ol+m:=IntWalk.i64_in _ (by omega);have b1:¬m< -1099511627776:=by omega
    have b2:¬1099511627776<m:=by omega
    have b3:¬ol<0:=by omega
    have b4:¬1099511627776<ol:=by omega
    have b5:¬ol+m<0:=by omega
    have b6:¬1099511627776<ol+m:=by omega
    have hp3:aF 7 0 M1=ue (aF 7 0 M) r (sK (ol+m)):=by
     rw[P1.o.1];unfold Lc;rw[HA.o,HC.o,if_neg (by simp)]
    have KO:=xh (λ(V:World) (hV:SY w V sb tb I M1 (k+1) (K+200)) (DV:DX V w.heap.size xb L2)=>hV.za (s:=7) (l:=0) DV H2.o.2.2.1 (by have:=HN.o.1;have:=H2.o.2.2.2;omega) (by omega) (by omega));have KI:=xh (λ(V:World)=>rI_any (ol+m).toNat (by omega) V);rw[Io a5]at KI;have HP:=xh hp3;have HVL:=xh (show(⟨(dj (((ol+m).toNat:Nat):Int)).toArray⟩:ByteArray)=sK (ol+m) by rw[Io a5];rfl);rw[Io a5]at HVL
    replace a5:=xh (And.intro a5 a6)
    clear a1 a2 a3 a4 a6 hp3;go_wp2_with fail;refine wp_region_held_drew (S:=λW=>W.cell? ⟨z,3,none⟩=some (.int .i64 m)/\W.cell? ⟨z,4,none⟩=some (.string r)) (by kernel_rfl) (⟨y3,y4⟩) (λaq=>?_);refine cV [(0,82),(2,84),(3,85),(4,86),(5,87),(6,88),(7,89)] ?_
    iterate 7 refine bj ?_
    refine dn 1 83 λK hK=>?_;go_simp
    go_at_call 93
    refine(KO.o _ H2.o.1.drew H2.o.2.1.drew).mono ?_;rintro e w3 ⟨mb3,L3,rfl,h3,D3,R3,hm3,f3,n3⟩;have C3:=xh (f3 _ _ _ C2.o.drew (.inl rfl));have F3:=xh (F2.o.trans ((jr.below (Below.refl _ _).drew).trans f3));have H3:=xh (And.intro h3 (And.intro D3 (And.intro R3 (And.intro hm3 n3))));clear h3 D3 R3 hm3 f3 n3;go_simp;refine aW hK (⟨C3.o.ab (i:=3) rfl,C3.o.ab (i:=4) rfl⟩) (λaq=>?_);refine dn 8 90 λK hK=>?_;go_simp
    go_at_call 143
    refine(KI.o _).mono ?_;rintro e w4 ⟨rfl,eM⟩;have C4:=xh (C3.o.below eM C3.o.lt);have F4:=xh (F3.o.trans (jr.below eM));have h4:=xh (H3.o.1.below eM);have D4:=xh (H3.o.2.1.below eM);clear eM;go_simp;refine aW hK (⟨C4.o.ab (i:=3) rfl,C4.o.ab (i:=4) rfl⟩) (λaq=>?_);refine dn 9 91 λK hK=>?_;go_simp
    go_at_call 54
    rw[HVL.o];have KS:=h4.o.uf D4.o H3.o.2.2.2.1 (by have:=mz 7 0 M;have:=HV.o.2;have:=HN.o.2.1;omega) r (sK (ol+m)) (by omega) (by rw[kv];omega);rw[if_neg (show ¬(32<r.size\/1024<(sK (ol+m)).size) by rw[kv];omega)]at KS;refine KS.mono ?_;clear KS;rintro e w5 ⟨rfl,h5,D5,f5⟩;have C5:=xh (f5 _ _ _ C4.o (.inl rfl));have F5:=xh (F4.o.trans f5);have H5:=xh (And.intro h5 D5);clear h5 D5 f5;go_simp
    refine aW hK (⟨C5.o.ab (i:=3) rfl,C5.o.ab (i:=4) rfl⟩) (λaq=>?_);refine wpAnyH_done (by kernel_rfl) ?_ _;clear y3 y4;have y3:=C5.o.ab (i:=3) rfl;go_wp2_with fail;go_ret;exact aC ⟨M1,_,H5.o.1,H5.o.2,H3.o.2.2.1.upd H3.o.2.1 (by omega) (by omega) H3.o.2.2.2.1 P1.o.2 HP.o,P1.o.2,F5.o,by unfold qk;rw[fM];have:=H3.o.2.2.2.2;have:=H2.o.2.2.2;omega⟩
   .rw[if_pos ir]at hA3;injection hA3 with q1 q2
    subst q1 q2;have HP:=xh (show aF 7 0 M1=aF 7 0 M by rw[P1.o.1];unfold Lc;rw[HA.o,if_pos (by simp)])
    by_cases c0:m< -1099511627776
    .clear ir;go_wp2_with fail;go_ret;exact aC ⟨M1,L2,H2.o.1,H2.o.2.1,H2.o.2.2.1.same HP.o P1.o.2,P1.o.2,F2.o,by have:=H2.o.2.2.2;omega⟩
    .skip
     by_cases c1:1099511627776<m
     .clear ir;go_wp2_with fail;go_ret;exact aC ⟨M1,L2,H2.o.1,H2.o.2.1,H2.o.2.2.1.same HP.o P1.o.2,P1.o.2,F2.o,by have:=H2.o.2.2.2;omega⟩
     .skip
      by_cases c2:ol<0
      .clear ir;go_wp2_with fail;go_ret;exact aC ⟨M1,L2,H2.o.1,H2.o.2.1,H2.o.2.2.1.same HP.o P1.o.2,P1.o.2,F2.o,by have:=H2.o.2.2.2;omega⟩
      .skip
       by_cases c3:1099511627776<ol
       .clear ir;go_wp2_with fail;go_ret;exact aC ⟨M1,L2,H2.o.1,H2.o.2.1,H2.o.2.2.1.same HP.o P1.o.2,P1.o.2,F2.o,by have:=H2.o.2.2.2;omega⟩
       .skip
        have s1:IntKind.i64.wrap (ol+m)=ol+m:=IntWalk.i64_in _ (by omega)
        by_cases c4:ol+m<0
        .clear ir;go_wp2_with fail;go_ret;exact aC ⟨M1,L2,H2.o.1,H2.o.2.1,H2.o.2.2.1.same HP.o P1.o.2,P1.o.2,F2.o,by have:=H2.o.2.2.2;omega⟩
        .skip
         have c5:1099511627776<ol+m:=by
          by_cases c5:1099511627776<ol+m
          .exact c5
          .exact absurd ⟨⟨by omega,by omega⟩,⟨by omega,by omega⟩,by omega,by omega⟩ ir
         clear ir;go_wp2_with fail;go_ret;exact aC ⟨M1,L2,H2.o.1,H2.o.2.1,H2.o.2.2.1.same HP.o P1.o.2,P1.o.2,F2.o,by have:=H2.o.2.2.2;omega⟩
  .have hA3:=hA2.o;rw[if_pos hf]at hA3;injection hA3 with q1 q2
   subst q1 q2;have HP:=xh (show aF 7 0 M1=aF 7 0 M by rw[P1.o.1];unfold Lc;rw[HA.o,if_pos hf]);go_wp2_with fail;go_ret;exact aC ⟨M1,L2,H2.o.1,H2.o.2.1,H2.o.2.2.1.same HP.o P1.o.2,P1.o.2,F2.o,by have:=H2.o.2.2.2;omega⟩
 .have hrI:30<(r.size:Int):=by omega
  have KA:=xh (λ(V:World)=>sadd_no sb r m (by omega) V);unfold im at *;go_enter func90,ntmps90;go_wp2_with fail;refine(KA.o _).mono ?_;rintro e w1 ⟨rfl,aJ⟩;have C1:=xh (CZ.o.below aJ CZ.o.lt);have F1:=xh (F0.o.trans (jr.below aJ));have h1:=xh (h0.o.below aJ);have D1:=xh (D0.o.below aJ);clear aJ y3 y4;have y4:=C1.o.ab (i:=4) rfl;go_wp2_with fail;go_ret
  exact aC ⟨M,L,h1.o.le (by omega) (by omega),D1.o,HR.o,Bf.refl _ _ _,F1.o,by omega⟩
def wP(kd sp lp:Int)(s l:Nat):Prop:=((kd=6\/kd=7)/\s=7/\l=0)\/(¬(kd=6\/kd=7)/\sp=(s:Nat)/\lp=(l:Nat))
def Mz(w W W':World)(sb tb xb:Nat)(I:Ix)(M:List PR)(L:List De)(k K:Nat)(kd sp lp:Int):Prop:=
 ∃M' L',SY w W' sb tb I M' (k+1) K/\DX W' w.heap.size xb L'/\Rl M' L'/\(∀s l,s<=7->l<=5->¬wP kd sp lp s l->aF s l M'=aF s l M)/\jr W W'/\L'.length<=L.length+2
theorem SY.lF{w W:World}{sb tb xb:Nat}{I:Ix}{M:List PR}{L:List De}{k K:Nat}(h:SY w W sb tb I M k K)(D:DX W w.heap.size xb L)(hk:k<=30)(hK:K<=999998000000)(r:ByteArray)(hr:r.size<=30):
  Calls prog 38 #[.pointer (some ⟨sb,0,none⟩),.string r] W λe W'=>e=.returned (.tuple #[.int .i64 (je (cB (aF 7 0 M) r)).1,.int .i64 (je (cB (aF 7 0 M) r)).2])/\SY w W' sb tb I M k (K+21)/\DX W' w.heap.size xb L/\jr W W':=by
 obtain⟨F,q,A,S⟩:=h;obtain⟨a,b,c⟩:=S.Ar hk r;refine(rL A.b A.t hK r hr c).mono ?_;rintro e W' ⟨rfl,P,o⟩;obtain⟨y,D'⟩:=SY.pq A D P o a;rw[b];exact⟨rfl,y,D',jr.pq o A.t.2⟩
section
variable{w W:World}{sb tb xb:Nat}{I:Ix}{M:List PR}{L:List De}{k K:Nat}
theorem SY.act(h:SY w W sb tb I M k K)(D:DX W w.heap.size xb L)(kd sp lp m:Int)(r til val:ByteArray):SY w (W.alloc (.cells (im kd sp lp m r til val) 82)) sb tb I M k K/\DX (W.alloc (.cells (im kd sp lp m r til val) 82)) w.heap.size xb L/\jr W (W.alloc (.cells (im kd sp lp m r til val) 82))/\aE (W.alloc (.cells (im kd sp lp m r til val) 82)) W.heap.size 82 (im kd sp lp m r til val):=by
 have hb:=ae (Below.refl W.heap.size W) (.cells (im kd sp lp m r til val) 82);exact⟨h.below hb,D.below hb,jr.below hb,aE.new W 82 (im kd sp lp m r til val)⟩
theorem do_adds(h:SY w W sb tb I M k K)(D:DX W w.heap.size xb L)(R:Rl M L)(hn:L.length<=1000)(hk:k<=30)(hK:K<=999900000000)(kd sp lp m:Int)(r til val:ByteArray)(gQ:r.size<=100000)(hm: -9223372036854775808<=m/\m<=9223372036854775807)(nR:kd=6\/kd=7):
  Calls prog 40 #[.pointer (some ⟨sb,0,none⟩),.pointer (some ⟨xb,0,none⟩),.agg (im kd sp lp m r til val)] W λe W'=>e=.returned (.bool true)/\Mz w W W' sb tb xb I M L k (K+40000000) kd sp lp:=by
 obtain⟨h0,D0,F0,CZ⟩:=h.act D kd sp lp m r til val;have KA:=xh (UH h0 D0 R hn hk (by omega) kd sp lp m r til val gQ hm);have F0:=xh F0;have HKD:=xh nR;obtain⟨z,hz⟩:∃z,W.heap.size=z:=⟨_,rfl⟩;rw[hz]at CZ;have HZ:=xh hz;clear h D R hn hk hK hz h0 D0;have y0:=CZ.ab (i:=0) rfl;have y1:=CZ.ab (i:=1) rfl;have y2:=CZ.ab (i:=2) rfl;have y3:=CZ.ab (i:=3) rfl;have y4:=CZ.ab (i:=4) rfl;have y5:=CZ.ab (i:=5) rfl
 have y6:=CZ.ab (i:=6) rfl;have CZ:=xh CZ;have oS:=HZ.o;unfold im at *;have fin:∀W',DoS w (W.alloc (.cells #[.int .i64 kd,.int .i64 sp,.int .i64 lp,.int .i64 m,.string r,.string til,.string val] 82)) W' sb tb xb I M L k (K+200) 7 0->Mz w W W' sb tb xb I M L k (K+40000000) kd sp lp:=λW' ⟨M',L',a,b,c,d,e,f⟩=>
  ⟨M',L',a.le (aj _) (by omega),b,c,λs l hs hl hT=>d s l hs hl λhh=>hT (.inl ⟨HKD.o,hh.1.symm,hh.2.symm⟩),F0.o.trans e,f⟩
 have fin:=xh fin
 rcases nR with rfl|rfl
 .go_enter func40,ntmps40;go_wp2_with fail;refine KA.o.mono ?_;rintro e w1 ⟨rfl,hd⟩;have hd:=xh (fin.o _ hd);go_wp2_with fail;go_ret;exact aC hd.o
 .go_enter func40,ntmps40;go_wp2_with fail;refine KA.o.mono ?_;rintro e w1 ⟨rfl,hd⟩;have hd:=xh (fin.o _ hd);go_wp2_with fail;go_ret;exact aC hd.o
end
section
variable{w W:World}{sb tb xb:Nat}{I:Ix}{M:List PR}{L:List De}{k K:Nat}
theorem Ld(h:SY w W sb tb I M k K)(D:DX W w.heap.size xb L)(R:Rl M L)(hn:L.length<=1000)(hk:k<=30)(hK:K<=999900000000)(kd sp lp m:Int)(r til val:ByteArray)(gQ:r.size<=100000)(nR:kd=8):
  Calls prog 40 #[.pointer (some ⟨sb,0,none⟩),.pointer (some ⟨xb,0,none⟩),.agg (im kd sp lp m r til val)] W λe W'=>e=.returned (.bool true)/\Mz w W W' sb tb xb I M L k (K+40000000) kd sp lp:=by
 obtain⟨h0,D0,F0,CZ⟩:=h.act D kd sp lp m r til val;have h0:=xh h0;have D0:=xh D0;have F0:=xh F0;have HR:=xh R;have HV:=xh h.Aq;have HN:=xh (And.intro hn (And.intro hk hK));obtain⟨z,hz⟩:∃z,W.heap.size=z:=⟨_,rfl⟩;rw[hz]at CZ;have HZ:=xh hz;clear h D R hn hk hK hz;have y0:=CZ.ab (i:=0) rfl;have y1:=CZ.ab (i:=1) rfl;have y2:=CZ.ab (i:=2) rfl;have y3:=CZ.ab (i:=3) rfl;have y4:=CZ.ab (i:=4) rfl
 have y5:=CZ.ab (i:=5) rfl;have y6:=CZ.ab (i:=6) rfl;have CZ:=xh CZ;have oS:=HZ.o;unfold im at *;subst nR
 by_cases hr:r.size<=30
 .have hrI:¬(30<(r.size:Int)):=by omega
  have KA:=xh (h0.o.lF D0.o HN.o.2.1 (by have:=HN.o.2.2;omega) r hr);obtain⟨n1,hC⟩:∃n1,je (cB (aF 7 0 M) r)=n1:=⟨_,rfl⟩;obtain⟨ol,fe⟩:=n1;rw[hC]at KA;dsimp only at KA;have HC:=xh hC;clear hC;go_enter func40,ntmps40;go_wp2_with fail;refine KA.o.mono ?_;rintro e w1 ⟨rfl,h1,D1,f1⟩;have C1:=xh (f1 _ _ _ CZ.o (.inl rfl));have F1:=xh (F0.o.trans f1)
  have KC:=xh (h1.kL D1 HR.o (λx hx=>by have:=HV.o.1 x hx;omega) (by have:=HN.o.1;omega) r);rw[HC.o]at KC;clear h1 D1 f1 y0 y1 y2 y3 y4 y5 y6;have y4:=C1.o.ab (i:=4) rfl;go_wp2_with fail;refine KC.o.mono ?_;rintro e w2 ⟨mb,L2,rfl,h2,D2,R2,Ig,f2,n2⟩;have H2:=xh (And.intro h2 (And.intro D2 (And.intro R2 n2)));have F2:=xh (F1.o.trans f2);clear h2 D2 R2 f2 n2 y4 Ig;go_wp2_with fail;go_ret
  exact aC ⟨M,L2,H2.o.1.le (by omega) (by omega),H2.o.2.1,H2.o.2.2.1,λ_ _ _ _ _=>rfl,F2.o,by have:=H2.o.2.2.2;omega⟩
 .have hrI:30<(r.size:Int):=by omega
  have KA:=xh (λ(V:World)=>wO sb r (by omega) V);go_enter func40,ntmps40;go_wp2_with fail;refine(KA.o _).mono ?_;rintro e w1 ⟨rfl,aJ⟩;have C1:=xh (CZ.o.below aJ CZ.o.lt);have F1:=xh (F0.o.trans (jr.below aJ));have h1:=xh (h0.o.below aJ);have D1:=xh (D0.o.below aJ);clear aJ y0 y1 y2 y3 y4 y5 y6;have y4:=C1.o.ab (i:=4) rfl;go_wp2_with fail;go_ret
  exact aC ⟨M,L,h1.o.le (by omega) (by omega),D1.o,HR.o,λ_ _ _ _ _=>rfl,F1.o,by omega⟩
end
theorem MA{s l:Int}{rs:List ByteArray}(h:¬(0<=s/\s<=7/\0<=l/\l<=5/\∀r∈rs,r.size<=30)):Bb s l rs≠0:=by
 unfold Bb
 split
 .decide
 .split
  .rename_i h1 h2;exfalso;apply h
   simp_all
   omega
  .decide
section
variable{w W:World}{sb tb xb:Nat}{I:Ix}{M:List PR}{L:List De}{k K:Nat}{s l:Nat}
theorem SY.xD(h:SY w W sb tb I M k K)(D:DX W w.heap.size xb L)(hk:k<=30)(hK:K<=999998000000)(hs:s<=7)(hl:l<=5)(r:ByteArray)(hr:r.size<=30):
  Calls prog 42 #[.pointer (some ⟨sb,0,none⟩),.int .i64 (s:Nat),.int .i64 (l:Nat),.string r] W λe W'=>e=.returned (.tuple #[.string (cB (aF s l M) r).1,.int .i64 (cB (aF s l M) r).2])/\SY w W' sb tb I M k (K+21)/\DX W' w.heap.size xb L/\jr W W':=by
 obtain⟨F,q,A,S⟩:=h;obtain⟨a,b⟩:=S.getP hk hs hl r;refine(qf A.b A.t (by omega) s l hs (by omega) r hr).mono ?_;rintro e W' ⟨rfl,P,o⟩;obtain⟨y,D'⟩:=SY.pq A D P o a;rw[b];exact⟨rfl,y,D',jr.pq o A.t.2⟩
theorem do_no(h:SY w W sb tb I M k K)(D:DX W w.heap.size xb L)(R:Rl M L)(hn:L.length<=1000)(hk:k<=30)(hK:K<=999900000000)(kd sp lp m:Int)(r til val:ByteArray)(gQ:r.size<=100000)(nR:¬(kd=6\/kd=7)/\kd≠8)(tC:¬(0<=sp/\sp<=7/\0<=lp/\lp<=5/\∀x∈[r,til],x.size<=30)):
  Calls prog 40 #[.pointer (some ⟨sb,0,none⟩),.pointer (some ⟨xb,0,none⟩),.agg (im kd sp lp m r til val)] W λe W'=>e=.returned (.bool true)/\Mz w W W' sb tb xb I M L k (K+40000000) kd sp lp:=by
 obtain⟨h0,D0,F0,CZ⟩:=h.act D kd sp lp m r til val;have h0:=xh h0;have D0:=xh D0;have F0:=xh F0;have HR:=xh R;have HV:=xh h.Aq;have HN:=xh (And.intro hn (And.intro hk hK));obtain⟨z,hz⟩:∃z,W.heap.size=z:=⟨_,rfl⟩;rw[hz]at CZ;have HZ:=xh hz;clear h D R hn hk hK hz;have y0:=CZ.ab (i:=0) rfl;have y1:=CZ.ab (i:=1) rfl;have y2:=CZ.ab (i:=2) rfl;have y3:=CZ.ab (i:=3) rfl;have y4:=CZ.ab (i:=4) rfl
 have y5:=CZ.ab (i:=5) rfl;have y6:=CZ.ab (i:=6) rfl;have CZ:=xh CZ;have oS:=HZ.o;unfold im at *;have d1:¬kd=6:=λe=>nR.1 (.inl e);have d2:¬kd=7:=λe=>nR.1 (.inr e);have d3:¬kd=8:=nR.2;have c1:(kd==6)=false:=by simpa using d1
 have c2:(kd==7)=false:=by simpa using d2
 have c3:(kd==8)=false:=by simpa using d3
 have LP:=xh tC;have KM:=xh (λ(V:World)=>lY (w:=V.alloc (.cells #[.string r,.string til] 9)) (A:=some ⟨V.heap.size,0,none⟩) (n:=2) (c:=2) (rs:=[r,til]) sp lp ⟨rfl,.inr ⟨V.heap.size,2,[],rfl,aE.new _ _ _,rfl,by decide⟩⟩ (by omega))
 replace KM:=KM.o (W.alloc (.cells #[.int .i64 kd,.int .i64 sp,.int .i64 lp,.int .i64 m,.string r,.string til,.string val] 82))
 rw[decide_eq_false tC,eJ,HZ.o]at KM;have KM:=xh KM;have KS:=xh (λ(V:World)=>Uy sb sp lp r til m (MA tC) V);clear tC nR;go_enter func40,ntmps40;go_wp2_with fail;refine KM.o.mono ?_;rintro e w1 ⟨rfl,aJ⟩;have bS:=au (ae (Below.refl _ _) (.cells #[.string r,.string til] 9)) aJ;have C1:=xh (CZ.o.below bS CZ.o.lt);have F1:=xh (F0.o.trans (jr.below bS));have h1:=xh (h0.o.below bS);have D1:=xh (D0.o.below bS)
 clear aJ bS y0 y1 y2 y3 y4 y5 y6;have y1:=C1.o.ab (i:=1) rfl;have y2:=C1.o.ab (i:=2) rfl;have y3:=C1.o.ab (i:=3) rfl;have y4:=C1.o.ab (i:=4) rfl;have y5:=C1.o.ab (i:=5) rfl
 by_cases hy:0<=sp/\sp<=7/\0<=lp/\lp<=5/\∀x∈[r],x.size<=30
 .have KM2:=xh (λ(V:World)=>lY (w:=V.alloc (.cells #[.string r] 9)) (A:=some ⟨V.heap.size,0,none⟩) (n:=1) (c:=1) (rs:=[r]) sp lp ⟨rfl,.inr ⟨V.heap.size,1,[],rfl,aE.new _ _ _,rfl,by decide⟩⟩ (by omega));rw[decide_eq_true hy]at KM2;obtain⟨e1,e2,e3,e4,e5⟩:=hy;obtain⟨s,rfl⟩:=dL e1;obtain⟨l,rfl⟩:=dL e3
  have KG:=xh (h1.o.xD D1.o HN.o.2.1 (by have:=HN.o.2.2;omega) (show s<=7 by omega) (show l<=5 by omega) r (e5 r (by simp)));obtain⟨g,hg⟩:∃g,cB (aF s l M) r=g:=⟨_,rfl⟩;have he:=ug (aF s l M) r;rw[hg]at KG he;obtain⟨gb,ge⟩:=g;dsimp only at KG he;have wC:¬ge=2:=by omega
  have J7:(ge==2)=false:=by simpa using wC
  clear e1 e2 e3 e4 e5 hg he;go_wp2_with fail;refine KG.o.mono ?_;rintro e w2 ⟨rfl,h2,D2,f2⟩;have C2:=xh (f2 _ _ _ C1.o (.inl rfl));have F2:=xh (F1.o.trans f2);have h2:=xh h2;have D2:=xh D2;clear f2 y1 y2 y3 y4 y5;have y1:=C2.o.ab (i:=1) rfl;have y2:=C2.o.ab (i:=2) rfl;have y3:=C2.o.ab (i:=3) rfl;have y4:=C2.o.ab (i:=4) rfl;have y5:=C2.o.ab (i:=5) rfl;go_wp2_with fail;refine(KS.o _).mono ?_;rintro e w3 ⟨rfl,cZ⟩
  have C3:=xh (C2.o.below cZ C2.o.lt);have F3:=xh (F2.o.trans (jr.below cZ));have h3:=xh (h2.o.below cZ);have D3:=xh (D2.o.below cZ);clear cZ y1 y2 y3 y4 y5;have y1:=C3.o.ab (i:=1) rfl;have y2:=C3.o.ab (i:=2) rfl;have y4:=C3.o.ab (i:=4) rfl;go_wp2_with fail;refine(KM2.o w3).mono ?_;rintro e w4 ⟨rfl,eM⟩;have mD:=au (ae (Below.refl _ _) (.cells #[.string r] 9)) eM;have F4:=xh (F3.o.trans (jr.below mD))
  have h4:=xh (h3.o.below mD);have D4:=xh (D3.o.below mD);clear eM mD y1 y2 y4;go_wp2_with fail;go_ret;exact aC ⟨M,L,h4.o.le (by omega) (by omega),D4.o,HR.o,λ_ _ _ _ _=>rfl,F4.o,by omega⟩
 .have KG:=xh (λ(V:World)=>Mu sb sp lp r (MA hy) V);clear hy;go_wp2_with fail;refine(KG.o _).mono ?_;rintro e w2 ⟨rfl,bS⟩;have C2:=xh (C1.o.below bS C1.o.lt);have F2:=xh (F1.o.trans (jr.below bS));have h2:=xh (h1.o.below bS);have D2:=xh (D1.o.below bS);clear bS y1 y2 y3 y4 y5;have y1:=C2.o.ab (i:=1) rfl;have y2:=C2.o.ab (i:=2) rfl;have y3:=C2.o.ab (i:=3) rfl;have y4:=C2.o.ab (i:=4) rfl
  have y5:=C2.o.ab (i:=5) rfl;go_wp2_with fail;refine(KS.o _).mono ?_;rintro e w3 ⟨rfl,cZ⟩;have C3:=xh (C2.o.below cZ C2.o.lt);have F3:=xh (F2.o.trans (jr.below cZ));have h3:=xh (h2.o.below cZ);have D3:=xh (D2.o.below cZ);clear cZ y1 y2 y3 y4 y5;go_wp2_with fail;go_ret;exact aC ⟨M,L,h3.o.le (by omega) (by omega),D3.o,HR.o,λ_ _ _ _ _=>rfl,F3.o,by omega⟩
end
end Sh
namespace Sh
open Go.RowKit Pk Dk Pg
section
variable{w W:World}{sb tb xb:Nat}{I:Ix}{M:List PR}{L:List De}{k K:Nat}{s l:Nat}
theorem SY.set_any(h:SY w W sb tb I M k K)(D:DX W w.heap.size xb L)(hk:k<=30)(hK:K<=999999000000)(hs:s<=7)(hl:l<=5)(r v:ByteArray)(hr:r.size<=30)(hv:v.size<=100000):
  Calls prog 46 #[.pointer (some ⟨sb,0,none⟩),.int .i64 (s:Nat),.int .i64 (l:Nat),.string r,.string v] W λe W'=>e=.returned (.int .i64 (if 32<r.size\/1024<v.size then 4 else 0))/\∃M',SY w W' sb tb I M' (k+1) (K+100)/\DX W' w.heap.size xb L/\aF s l M'=ue (aF s l M) r v/\Bf s l M M'/\jr W W':=by
 obtain⟨F,q,A,S⟩:=h;obtain⟨a,M',b,c,d⟩:=S.setP hk hs hl r v hr;refine(Ad A.b A.t hK s l hs (by omega) r v hr hv).mono ?_;rintro e W' ⟨rfl,pp⟩;obtain⟨y,D'⟩:=SY.pt A D pp b;obtain⟨F2,P2,o2,f2⟩:=pp;rw[a];exact⟨rfl,M',y,D',c,d,jr.pq o2 A.t.2⟩
theorem SY.del_any(h:SY w W sb tb I M k K)(D:DX W w.heap.size xb L)(hk:k<=30)(hK:K<=999999000000)(hs:s<=7)(hl:l<=5)(r:ByteArray)(hr:r.size<=30):
  Calls prog 47 #[.pointer (some ⟨sb,0,none⟩),.int .i64 (s:Nat),.int .i64 (l:Nat),.string r] W λe W'=>e=.returned (.int .i64 (if rK (aF s l M) r=true then 0 else 9))/\∃M',SY w W' sb tb I M' k (K+700)/\DX W' w.heap.size xb L/\aF s l M'=Am (aF s l M) r/\Bf s l M M'/\jr W W':=by
 obtain⟨F,q,A,S⟩:=h;obtain⟨a,M',b,c,d⟩:=S.delP hk hs hl r;refine(Uo A.b A.t (by omega) s l hs (by omega) r hr).mono ?_;rintro e W' ⟨rfl,pp⟩;obtain⟨y,D'⟩:=SY.pt A D pp b;obtain⟨F2,P2,o2,f2⟩:=pp;rw[a];exact⟨rfl,M',y,D',c,d,jr.pq o2 A.t.2⟩
theorem SY.PH(h:SY w W sb tb I M k K)(D:DX W w.heap.size xb L)(hk:k<=30)(hK:K<=999900000000)(hs:s<=7)(hl:l<=5)(a b:ByteArray)(h1:a.size<=30)(h2:b.size<=30):
  Calls prog 44 #[.pointer (some ⟨sb,0,none⟩),.int .i64 (s:Nat),.int .i64 (l:Nat),.string a,.string b] W λe W'=>e=.returned (.tuple #[.int .i64 (((aF s l M).length:Int)-(lH a b (aF s l M)).length),.int .i64 0])/\∃M',SY w W' sb tb I M' k (K+30000000)/\DX W' w.heap.size xb L/\aF s l M'=lH a b (aF s l M)/\Bf s l M M'/\jr W W':=by
 obtain⟨F,q,A,S⟩:=h;obtain⟨x,M',y,c,d⟩:=S.clearP hk hs hl a b;refine(La A.b A.t hK s l hs hl a b h1 h2).mono ?_;rintro e W' ⟨rfl,pp⟩;obtain⟨y',D'⟩:=SY.pt A D pp y;obtain⟨F2,P2,o2,f2⟩:=pp;rw[x];exact⟨rfl,M',y',D',c,d,jr.pq o2 A.t.2⟩
theorem SY.Hz(h:SY w W sb tb I M k K)(D:DX W w.heap.size xb L)(hk:k<=30)(hK:K<=999900000000)(hs:s<=7)(hl:l<=5)(a b:ByteArray)(h1:a.size<=30)(h2:b.size<=30)(m:Int):
  Calls prog 41 #[.pointer (some ⟨sb,0,none⟩),.int .i64 (s:Nat),.int .i64 (l:Nat),.string a,.string b,.int .i64 m] W λe W'=> ∃v,e=.returned (.tuple #[v,.int .i64 0])/\aK W' 42 2 v (eH a b m (aF s l M)).length (iu (eH a b m (aF s l M)))/\SY w W' sb tb I M k (K+300000)/\DX W' w.heap.size xb L/\jr W W'/\(∀g∈ah v,W.heap.size<=g):=by
 obtain⟨F,q,A,S⟩:=h;obtain⟨x,c,d,e1,f⟩:=S.eH hk hs hl a b m;refine(Px A.b A.t hK s l hs hl a b h1 h2 m e1 (by omega)).mono ?_;rintro e W' ⟨v,rfl,sl,P,o,g⟩;obtain⟨y',D'⟩:=SY.pq A D P o x;rw[c]at sl;rw[d];exact⟨v,rfl,sl,y',D',jr.pq o A.t.2,g⟩
end
section
variable{w W:World}{sb tb xb:Nat}{I:Ix}{M:List PR}{L:List De}{k K:Nat}{s l mb:Nat}{p:List PR}
theorem SY.UI(h:SY w W sb tb I M k K)(D:DX W w.heap.size xb L)(hk:k<=30)(hK:K<=999900000000)(hs:s<=7)(hl:l<=5)(a b:ByteArray)(h1:a.size<=30)(h2:b.size<=30):
  Calls prog 43 #[.pointer (some ⟨sb,0,none⟩),.int .i64 (s:Nat),.int .i64 (l:Nat),.string a,.string b] W λe W'=> ∃x er,e=.returned (.tuple #[prV x,.int .i64 er])/\(x,er)=(match (eH a b 1099511627776 (aF s l M)).getLast? with|none=>((⟨#[]⟩,⟨#[]⟩),9)|some x=>(x,0))/\SY w W' sb tb I M k (K+600)/\DX W' w.heap.size xb L/\jr W W':=by
 obtain⟨F,q,A,S⟩:=h;obtain⟨x,c,d⟩:=S.lastP hk hs hl a b;refine(Py A.b A.t hK s l hs hl a b h1 h2 d).mono ?_;rintro e W' ⟨rfl,P,o⟩;obtain⟨y',D'⟩:=SY.pq A D P o x;exact⟨_,_,rfl,c,y',D',jr.pq o A.t.2⟩
theorem SY.Ao(h:SY w W sb tb I M k K)(D:DX W w.heap.size xb L)(hm:(((s:Int),(l:Int),mb),p)∈L)(key:ByteArray):
  Calls prog 55 #[.pointer (some ⟨mb,0,none⟩),.string key] W λe W'=>e=.returned (.int .i64 (if rK p key=true then 0 else 9))/\SY w W' sb tb I M k K/\DX W' w.heap.size xb (qk L mb (Am p key))/\jr W W':=by
 obtain⟨v,X⟩:=D.m _ hm;refine(Sh.Ao X key).mono ?_;rintro e W' ⟨rfl,v',X',o⟩;exact⟨rfl,h.mdoc D hm o,D.map hm o X',D.mfra hm o⟩
theorem SY.sL(h:SY w W sb tb I M k K)(D:DX W w.heap.size xb L)(hm:(((s:Int),(l:Int),mb),p)∈L)(a b:ByteArray):
  Calls prog 56 #[.pointer (some ⟨mb,0,none⟩),.string a,.string b] W λe W'=>e=.returned (.int .i64 ((p.length:Int)-(lH a b p).length))/\SY w W' sb tb I M k K/\DX W' w.heap.size xb (qk L mb (lH a b p))/\jr W W':=by
 obtain⟨v,X⟩:=D.m _ hm;refine(Sh.sL X a b).mono ?_;rintro e W' ⟨rfl,v',X',o,_⟩;exact⟨rfl,h.mdoc D hm o,D.map hm o X',D.mfra hm o⟩
end
attribute [local go_sem ↓] Go.wp_at_zero Go.wp_at_succ
variable{z:Nat}
structure Bg(z:Nat)(cs:Array Value)(A:World->Prop):Prop where
 b:∀V V',A V->Below V.heap.size V V'->A V'
 c:∀V,A V->aE V z 82 cs
theorem Bg.d{cs:Array Value}{A:World->Prop}(h:Bg z cs A){V:World}(a:A V):A V.drew:=h.b _ _ a (Below.refl _ _).drew
section
variable{W:World}{sb xb:Nat}{kd sp lp m:Int}{r til val:ByteArray}{A0:World->Prop}{A1:Nat->World->Prop}
theorem doW_set(hz:W.heap.size=z)(S0:Bg z (im kd sp lp m r til val) A0)(h0:A0 (W.alloc (.cells (im kd sp lp m r til val) 82)))(ir:0<=sp/\sp<=7/\0<=lp/\lp<=5/\r.size<=30/\til.size<=30)(S1:∀mb,Bg z (im kd sp lp m r til val) (A1 mb))(KO:∀V,A0 V->Calls prog 93 #[.pointer (some ⟨xb,0,none⟩),.int .i64 sp,.int .i64 lp] V λe V'=> ∃mb,e=.returned (.pointer (some ⟨mb,0,none⟩))/\A1 mb V')(nR:kd=0\/kd=1\/kd=2){A2:Nat->Int->World->Prop}(S2:∀mb e1,Bg z (im kd sp lp m r til val) (A2 mb e1)){A3:Nat->Int->Int->World->Prop}(S3:∀mb e1 e2,Bg z (im kd sp lp m r til val) (A3 mb e1 e2))(KS:∀mb V,A1 mb V->Calls prog 46 #[.pointer (some ⟨sb,0,none⟩),.int .i64 sp,.int .i64 lp,.string r,.string val] V λe V'=> ∃e1,e=.returned (.int .i64 e1)/\A2 mb e1 V')(KX:∀mb e1 V,A2 mb e1 V->Calls prog 54 #[.pointer (some ⟨mb,0,none⟩),.string r,.string val] V λe V'=> ∃e2,e=.returned (.int .i64 e2)/\A3 mb e1 e2 V'):
  Calls prog 40 #[.pointer (some ⟨sb,0,none⟩),.pointer (some ⟨xb,0,none⟩),.agg (im kd sp lp m r til val)] W λe W'=> ∃mb e1 e2 b,e=.returned (.bool b)/\(e1=e2->b=true)/\A3 mb e1 e2 W':=by
 replace h0:=xh h0
 replace S0:=xh S0
 replace S1:=xh S1
 replace KO:=xh KO
 have HZ:=xh hz;clear hz;have CZ:=xh (S0.o.c _ h0.o);have KM:=xh (λ(V:World)=>lY (w:=V.alloc (.cells #[.string r,.string til] 9)) (A:=some ⟨V.heap.size,0,none⟩) (n:=2) (c:=2) (rs:=[r,til]) sp lp ⟨rfl,.inr ⟨V.heap.size,2,[],rfl,aE.new _ _ _,rfl,by decide⟩⟩ (by omega))
 replace KM:=KM.o (W.alloc (.cells #[.int .i64 kd,.int .i64 sp,.int .i64 lp,.int .i64 m,.string r,.string til,.string val] 82))
 rw[decide_eq_true (p:=(0:Int)<=sp/\sp<=7/\(0:Int)<=lp/\lp<=5/\∀x∈[r,til],x.size<=30) ⟨by omega,by omega,by omega,by omega,by simp;omega⟩,eJ,HZ.o]at KM;have KM:=xh KM;unfold im at *;have y0:=CZ.o.ab (i:=0) rfl;have y1:=CZ.o.ab (i:=1) rfl;have y2:=CZ.o.ab (i:=2) rfl;have y3:=CZ.o.ab (i:=3) rfl;have y4:=CZ.o.ab (i:=4) rfl;have y5:=CZ.o.ab (i:=5) rfl;have y6:=CZ.o.ab (i:=6) rfl;have oS:=HZ.o;have d1:¬kd=6:=by omega
 have d2:¬kd=7:=by omega
 have d3:¬kd=8:=by omega
 have c1:(kd==6)=false:=by simpa using d1
 have c2:(kd==7)=false:=by simpa using d2
 have c3:(kd==8)=false:=by simpa using d3
 replace S2:=xh S2
 replace S3:=xh S3
 replace KS:=xh KS
 replace KX:=xh KX
 clear ir;go_enter func40,ntmps40;go_wp2_with fail;refine KM.o.mono ?_;rintro e w1 ⟨rfl,aJ⟩;have bS:=au (ae (Below.refl _ _) (.cells #[.string r,.string til] 9)) aJ;have a1:=xh (S0.o.b _ _ h0.o bS);have C1:=xh (S0.o.c _ a1.o);clear aJ bS y0 y1 y2 y3 y4 y5 y6;have y0:=C1.o.ab (i:=0) rfl;have y1:=C1.o.ab (i:=1) rfl;have y2:=C1.o.ab (i:=2) rfl;go_wp2_with fail;refine(KO.o _ a1.o).mono ?_;rintro e w2 ⟨mb,rfl,a2⟩
 replace a2:=xh a2
 have C2:=xh ((S1.o mb).c _ a2.o);clear y0 y1 y2;have y0:=C2.o.ab (i:=0) rfl;have y1:=C2.o.ab (i:=1) rfl;have y2:=C2.o.ab (i:=2) rfl;have y3:=C2.o.ab (i:=3) rfl;have y4:=C2.o.ab (i:=4) rfl;have y5:=C2.o.ab (i:=5) rfl;have y6:=C2.o.ab (i:=6) rfl
 rcases nR with rfl|rfl|rfl
 all_goals
  clear d1 d2 d3 c1 c2 c3;go_wp2_with fail;refine wp_region_held_drew (S:=λW=>W.cell? ⟨z,1,none⟩=some (.int .i64 sp)/\W.cell? ⟨z,2,none⟩=some (.int .i64 lp)/\W.cell? ⟨z,4,none⟩=some (.string r)/\W.cell? ⟨z,6,none⟩=some (.string val)) (by kernel_rfl) (⟨y1,y2,y4,y6⟩) (λaq=>?_);refine cV [(0,130),(1,131),(2,132),(3,133),(4,134),(5,135),(6,136),(7,137),(8,138),(10,140),(11,141),(12,142),(13,143),(14,144)] ?_
  iterate 14 refine bj ?_
  refine dn 9 139 λK hK=>?_;go_simp
  go_at_call 46
  refine(KS.o mb _ ((S1.o mb).d a2.o)).mono ?_;rintro e w3 ⟨e1,rfl,a3⟩
  replace a3:=xh a3
  have C3:=xh ((S2.o mb e1).c _ a3.o);go_simp;refine aW hK (⟨C3.o.ab (i:=1) rfl,C3.o.ab (i:=2) rfl,C3.o.ab (i:=4) rfl,C3.o.ab (i:=6) rfl⟩) (λaq=>?_);refine dn 15 145 λK hK=>?_;go_simp
  go_at_call 54
  refine(KX.o mb e1 _ a3.o).mono ?_;rintro e w4 ⟨e2,rfl,a4⟩
  replace a4:=xh a4
  have C4:=xh ((S3.o mb e1 e2).c _ a4.o);go_simp;refine aW hK (⟨C4.o.ab (i:=1) rfl,C4.o.ab (i:=2) rfl,C4.o.ab (i:=4) rfl,C4.o.ab (i:=6) rfl⟩) (λaq=>?_);refine cV [(16,146),(17,6)] ?_
  iterate 2 refine bj ?_
  refine wpAnyH_done (by kernel_rfl) ?_ _;go_wp2_with fail;go_ret;exact⟨mb,e1,e2,_,by first|rfl|simp,λh=>by simp[h],a4.o⟩
theorem doW_del(hz:W.heap.size=z)(S0:Bg z (im kd sp lp m r til val) A0)(h0:A0 (W.alloc (.cells (im kd sp lp m r til val) 82)))(ir:0<=sp/\sp<=7/\0<=lp/\lp<=5/\r.size<=30/\til.size<=30)(S1:∀mb,Bg z (im kd sp lp m r til val) (A1 mb))(KO:∀V,A0 V->Calls prog 93 #[.pointer (some ⟨xb,0,none⟩),.int .i64 sp,.int .i64 lp] V λe V'=> ∃mb,e=.returned (.pointer (some ⟨mb,0,none⟩))/\A1 mb V')(nR:kd=3){A2:Nat->Int->World->Prop}(S2:∀mb e1,Bg z (im kd sp lp m r til val) (A2 mb e1)){A3:Nat->Int->Int->World->Prop}(S3:∀mb e1 e2,Bg z (im kd sp lp m r til val) (A3 mb e1 e2))(KS:∀mb V,A1 mb V->Calls prog 47 #[.pointer (some ⟨sb,0,none⟩),.int .i64 sp,.int .i64 lp,.string r] V λe V'=> ∃e1,e=.returned (.int .i64 e1)/\A2 mb e1 V')(KX:∀mb e1 V,A2 mb e1 V->Calls prog 55 #[.pointer (some ⟨mb,0,none⟩),.string r] V λe V'=> ∃e2,e=.returned (.int .i64 e2)/\A3 mb e1 e2 V'):
  Calls prog 40 #[.pointer (some ⟨sb,0,none⟩),.pointer (some ⟨xb,0,none⟩),.agg (im kd sp lp m r til val)] W λe W'=> ∃mb e1 e2 b,e=.returned (.bool b)/\(e1=e2->b=true)/\A3 mb e1 e2 W':=by
 replace h0:=xh h0
 replace S0:=xh S0
 replace S1:=xh S1
 replace KO:=xh KO
 have HZ:=xh hz;clear hz;have CZ:=xh (S0.o.c _ h0.o);have KM:=xh (λ(V:World)=>lY (w:=V.alloc (.cells #[.string r,.string til] 9)) (A:=some ⟨V.heap.size,0,none⟩) (n:=2) (c:=2) (rs:=[r,til]) sp lp ⟨rfl,.inr ⟨V.heap.size,2,[],rfl,aE.new _ _ _,rfl,by decide⟩⟩ (by omega))
 replace KM:=KM.o (W.alloc (.cells #[.int .i64 kd,.int .i64 sp,.int .i64 lp,.int .i64 m,.string r,.string til,.string val] 82))
 rw[decide_eq_true (p:=(0:Int)<=sp/\sp<=7/\(0:Int)<=lp/\lp<=5/\∀x∈[r,til],x.size<=30) ⟨by omega,by omega,by omega,by omega,by simp;omega⟩,eJ,HZ.o]at KM;have KM:=xh KM;unfold im at *;have y0:=CZ.o.ab (i:=0) rfl;have y1:=CZ.o.ab (i:=1) rfl;have y2:=CZ.o.ab (i:=2) rfl;have y3:=CZ.o.ab (i:=3) rfl;have y4:=CZ.o.ab (i:=4) rfl;have y5:=CZ.o.ab (i:=5) rfl;have y6:=CZ.o.ab (i:=6) rfl;have oS:=HZ.o;have d1:¬kd=6:=by omega
 have d2:¬kd=7:=by omega
 have d3:¬kd=8:=by omega
 have c1:(kd==6)=false:=by simpa using d1
 have c2:(kd==7)=false:=by simpa using d2
 have c3:(kd==8)=false:=by simpa using d3
 replace S2:=xh S2
 replace S3:=xh S3
 replace KS:=xh KS
 replace KX:=xh KX
 replace nR:=xh nR
 clear ir;go_enter func40,ntmps40;go_wp2_with fail;refine KM.o.mono ?_;rintro e w1 ⟨rfl,aJ⟩;have bS:=au (ae (Below.refl _ _) (.cells #[.string r,.string til] 9)) aJ;have a1:=xh (S0.o.b _ _ h0.o bS);have C1:=xh (S0.o.c _ a1.o);clear aJ bS y0 y1 y2 y3 y4 y5 y6;have y0:=C1.o.ab (i:=0) rfl;have y1:=C1.o.ab (i:=1) rfl;have y2:=C1.o.ab (i:=2) rfl;go_wp2_with fail;refine(KO.o _ a1.o).mono ?_;rintro e w2 ⟨mb,rfl,a2⟩
 replace a2:=xh a2
 have C2:=xh ((S1.o mb).c _ a2.o);clear y0 y1 y2;have y0:=C2.o.ab (i:=0) rfl;have y1:=C2.o.ab (i:=1) rfl;have y2:=C2.o.ab (i:=2) rfl;have y3:=C2.o.ab (i:=3) rfl;have y4:=C2.o.ab (i:=4) rfl;have y5:=C2.o.ab (i:=5) rfl;have y6:=C2.o.ab (i:=6) rfl;have nR:=nR.o;subst nR;clear d1 d2 d3 c1 c2 c3;go_wp2_with fail
 refine wp_region_held_drew (S:=λW=>W.cell? ⟨z,1,none⟩=some (.int .i64 sp)/\W.cell? ⟨z,2,none⟩=some (.int .i64 lp)/\W.cell? ⟨z,4,none⟩=some (.string r)) (by kernel_rfl) (⟨y1,y2,y4⟩) (λaq=>?_);refine cV [(0,149),(1,150),(2,151),(3,152),(4,153),(5,154),(6,155),(8,157),(9,158),(10,159)] ?_
 iterate 10 refine bj ?_
 refine dn 7 156 λK hK=>?_;go_simp
 go_at_call 47
 refine(KS.o mb _ ((S1.o mb).d a2.o)).mono ?_;rintro e w3 ⟨e1,rfl,a3⟩
 replace a3:=xh a3
 have C3:=xh ((S2.o mb e1).c _ a3.o);go_simp;refine aW hK (⟨C3.o.ab (i:=1) rfl,C3.o.ab (i:=2) rfl,C3.o.ab (i:=4) rfl⟩) (λaq=>?_);refine dn 11 160 λK hK=>?_;go_simp
 go_at_call 55
 refine(KX.o mb e1 _ a3.o).mono ?_;rintro e w4 ⟨e2,rfl,a4⟩
 replace a4:=xh a4
 have C4:=xh ((S3.o mb e1 e2).c _ a4.o);go_simp;refine aW hK (⟨C4.o.ab (i:=1) rfl,C4.o.ab (i:=2) rfl,C4.o.ab (i:=4) rfl⟩) (λaq=>?_);refine cV [(12,161),(13,6)] ?_
 iterate 2 refine bj ?_
 refine wpAnyH_done (by kernel_rfl) ?_ _;go_wp2_with fail;go_ret;exact⟨mb,e1,e2,_,by first|rfl|simp,λh=>by simp[h],a4.o⟩
theorem PJ(hz:W.heap.size=z)(S0:Bg z (im kd sp lp m r til val) A0)(h0:A0 (W.alloc (.cells (im kd sp lp m r til val) 82)))(ir:0<=sp/\sp<=7/\0<=lp/\lp<=5/\r.size<=30/\til.size<=30)(S1:∀mb,Bg z (im kd sp lp m r til val) (A1 mb))(KO:∀V,A0 V->Calls prog 93 #[.pointer (some ⟨xb,0,none⟩),.int .i64 sp,.int .i64 lp] V λe V'=> ∃mb,e=.returned (.pointer (some ⟨mb,0,none⟩))/\A1 mb V')(nR:kd=5){A2:Nat->Int->Int->World->Prop}(S2:∀mb e1 er,Bg z (im kd sp lp m r til val) (A2 mb e1 er)){A3:Nat->Int->Int->Int->World->Prop}(S3:∀mb e1 er e2,Bg z (im kd sp lp m r til val) (A3 mb e1 er e2))(KS:∀mb V,A1 mb V->Calls prog 44 #[.pointer (some ⟨sb,0,none⟩),.int .i64 sp,.int .i64 lp,.string r,.string til] V λe V'=> ∃e1 er,e=.returned (.tuple #[.int .i64 e1,.int .i64 er])/\A2 mb e1 er V')(KX:∀mb e1 er V,A2 mb e1 er V->Calls prog 56 #[.pointer (some ⟨mb,0,none⟩),.string r,.string til] V λe V'=> ∃e2,e=.returned (.int .i64 e2)/\A3 mb e1 er e2 V'):
  Calls prog 40 #[.pointer (some ⟨sb,0,none⟩),.pointer (some ⟨xb,0,none⟩),.agg (im kd sp lp m r til val)] W λe W'=> ∃mb e1 er e2 b,e=.returned (.bool b)/\(e1=e2->er=0->b=true)/\A3 mb e1 er e2 W':=by
 replace h0:=xh h0
 replace S0:=xh S0
 replace S1:=xh S1
 replace KO:=xh KO
 have HZ:=xh hz;clear hz;have CZ:=xh (S0.o.c _ h0.o);have KM:=xh (λ(V:World)=>lY (w:=V.alloc (.cells #[.string r,.string til] 9)) (A:=some ⟨V.heap.size,0,none⟩) (n:=2) (c:=2) (rs:=[r,til]) sp lp ⟨rfl,.inr ⟨V.heap.size,2,[],rfl,aE.new _ _ _,rfl,by decide⟩⟩ (by omega))
 replace KM:=KM.o (W.alloc (.cells #[.int .i64 kd,.int .i64 sp,.int .i64 lp,.int .i64 m,.string r,.string til,.string val] 82))
 rw[decide_eq_true (p:=(0:Int)<=sp/\sp<=7/\(0:Int)<=lp/\lp<=5/\∀x∈[r,til],x.size<=30) ⟨by omega,by omega,by omega,by omega,by simp;omega⟩,eJ,HZ.o]at KM;have KM:=xh KM;unfold im at *;have y0:=CZ.o.ab (i:=0) rfl;have y1:=CZ.o.ab (i:=1) rfl;have y2:=CZ.o.ab (i:=2) rfl;have y3:=CZ.o.ab (i:=3) rfl;have y4:=CZ.o.ab (i:=4) rfl;have y5:=CZ.o.ab (i:=5) rfl;have y6:=CZ.o.ab (i:=6) rfl;have oS:=HZ.o;have d1:¬kd=6:=by omega
 have d2:¬kd=7:=by omega
 have d3:¬kd=8:=by omega
 have c1:(kd==6)=false:=by simpa using d1
 have c2:(kd==7)=false:=by simpa using d2
 have c3:(kd==8)=false:=by simpa using d3
 replace S2:=xh S2
 replace S3:=xh S3
 replace KS:=xh KS
 replace KX:=xh KX
 replace nR:=xh nR
 clear ir;go_enter func40,ntmps40;go_wp2_with fail;refine KM.o.mono ?_;rintro e w1 ⟨rfl,aJ⟩;have bS:=au (ae (Below.refl _ _) (.cells #[.string r,.string til] 9)) aJ;have a1:=xh (S0.o.b _ _ h0.o bS);have C1:=xh (S0.o.c _ a1.o);clear aJ bS y0 y1 y2 y3 y4 y5 y6;have y0:=C1.o.ab (i:=0) rfl;have y1:=C1.o.ab (i:=1) rfl;have y2:=C1.o.ab (i:=2) rfl;go_wp2_with fail;refine(KO.o _ a1.o).mono ?_;rintro e w2 ⟨mb,rfl,a2⟩
 replace a2:=xh a2
 have C2:=xh ((S1.o mb).c _ a2.o);clear y0 y1 y2;have y0:=C2.o.ab (i:=0) rfl;have y1:=C2.o.ab (i:=1) rfl;have y2:=C2.o.ab (i:=2) rfl;have y3:=C2.o.ab (i:=3) rfl;have y4:=C2.o.ab (i:=4) rfl;have y5:=C2.o.ab (i:=5) rfl;have y6:=C2.o.ab (i:=6) rfl;have nR:=nR.o;subst nR;clear d1 d2 d3 c1 c2 c3;go_wp2_with fail;refine(KS.o mb _ a2.o).mono ?_;rintro e w3 ⟨e1,er,rfl,a3⟩
 replace a3:=xh a3
 have C3:=xh ((S2.o mb e1 er).c _ a3.o);clear y0 y1 y2 y3 y4 y5 y6;have y4:=C3.o.ab (i:=4) rfl;have y5:=C3.o.ab (i:=5) rfl;go_wp2_with fail;refine(KX.o mb e1 er _ a3.o).mono ?_;rintro e w4 ⟨e2,rfl,a4⟩
 replace a4:=xh a4
 by_cases h1:e1=e2
 .subst h1
  by_cases h2:er=0
  .subst h2;go_wp2_with fail;go_ret;exact⟨mb,e1,0,e1,_,by first|rfl|simp,λ_ _=>by simp,a4.o⟩
  .have h3:(er==0)=false:=by simpa using h2
   go_wp2_with fail;go_ret;exact⟨mb,e1,er,e1,_,by first|rfl|simp,λ_ h=>absurd h h2,a4.o⟩
 .have h3:(e1==e2)=false:=by simpa using h1
  go_wp2_with fail;go_ret;exact⟨mb,e1,er,e2,_,by first|rfl|simp,λh=>absurd h h1,a4.o⟩
theorem UJ(hz:W.heap.size=z)(S0:Bg z (im kd sp lp m r til val) A0)(h0:A0 (W.alloc (.cells (im kd sp lp m r til val) 82)))(ir:0<=sp/\sp<=7/\0<=lp/\lp<=5/\r.size<=30/\til.size<=30)(S1:∀mb,Bg z (im kd sp lp m r til val) (A1 mb))(KO:∀V,A0 V->Calls prog 93 #[.pointer (some ⟨xb,0,none⟩),.int .i64 sp,.int .i64 lp] V λe V'=> ∃mb,e=.returned (.pointer (some ⟨mb,0,none⟩))/\A1 mb V')(nR:¬(kd=0\/kd=1\/kd=2\/kd=3\/kd=5\/kd=6\/kd=7\/kd=8)){A3:Nat->Bool->World->Prop}(KS:∀mb V,A1 mb V->Calls prog 94 #[.pointer (some ⟨sb,0,none⟩),.pointer (some ⟨mb,0,none⟩),.agg (im kd sp lp m r til val)] V λe V'=> ∃b,e=.returned (.bool b)/\A3 mb b V'):
  Calls prog 40 #[.pointer (some ⟨sb,0,none⟩),.pointer (some ⟨xb,0,none⟩),.agg (im kd sp lp m r til val)] W λe W'=> ∃mb b,e=.returned (.bool b)/\A3 mb b W':=by
 replace h0:=xh h0
 replace S0:=xh S0
 replace S1:=xh S1
 replace KO:=xh KO
 have HZ:=xh hz;clear hz;have CZ:=xh (S0.o.c _ h0.o);have KM:=xh (λ(V:World)=>lY (w:=V.alloc (.cells #[.string r,.string til] 9)) (A:=some ⟨V.heap.size,0,none⟩) (n:=2) (c:=2) (rs:=[r,til]) sp lp ⟨rfl,.inr ⟨V.heap.size,2,[],rfl,aE.new _ _ _,rfl,by decide⟩⟩ (by omega))
 replace KM:=KM.o (W.alloc (.cells #[.int .i64 kd,.int .i64 sp,.int .i64 lp,.int .i64 m,.string r,.string til,.string val] 82))
 rw[decide_eq_true (p:=(0:Int)<=sp/\sp<=7/\(0:Int)<=lp/\lp<=5/\∀x∈[r,til],x.size<=30) ⟨by omega,by omega,by omega,by omega,by simp;omega⟩,eJ,HZ.o]at KM;have KM:=xh KM;unfold im at *;have y0:=CZ.o.ab (i:=0) rfl;have y1:=CZ.o.ab (i:=1) rfl;have y2:=CZ.o.ab (i:=2) rfl;have y3:=CZ.o.ab (i:=3) rfl;have y4:=CZ.o.ab (i:=4) rfl;have y5:=CZ.o.ab (i:=5) rfl;have y6:=CZ.o.ab (i:=6) rfl;have oS:=HZ.o;have d1:¬kd=6:=by omega
 have d2:¬kd=7:=by omega
 have d3:¬kd=8:=by omega
 have c1:(kd==6)=false:=by simpa using d1
 have c2:(kd==7)=false:=by simpa using d2
 have c3:(kd==8)=false:=by simpa using d3
 replace KS:=xh KS
 have g0:¬kd=0:=by omega
 have g1:¬kd=1:=by omega
 have g2:¬kd=2:=by omega
 have g3:¬kd=3:=by omega
 have g5:¬kd=5:=by omega
 have k0:(kd==0)=false:=by simpa using g0
 have k1:(kd==1)=false:=by simpa using g1
 have k2:(kd==2)=false:=by simpa using g2
 have k3:(kd==3)=false:=by simpa using g3
 have k5:(kd==5)=false:=by simpa using g5
 clear nR;clear ir;go_enter func40,ntmps40;go_wp2_with fail;refine KM.o.mono ?_;rintro e w1 ⟨rfl,aJ⟩;have bS:=au (ae (Below.refl _ _) (.cells #[.string r,.string til] 9)) aJ;have a1:=xh (S0.o.b _ _ h0.o bS);have C1:=xh (S0.o.c _ a1.o);clear aJ bS y0 y1 y2 y3 y4 y5 y6;have y0:=C1.o.ab (i:=0) rfl;have y1:=C1.o.ab (i:=1) rfl;have y2:=C1.o.ab (i:=2) rfl;go_wp2_with fail;refine(KO.o _ a1.o).mono ?_
 rintro e w2 ⟨mb,rfl,a2⟩
 replace a2:=xh a2
 have C2:=xh ((S1.o mb).c _ a2.o);clear y0 y1 y2;have y0:=C2.o.ab (i:=0) rfl;have y1:=C2.o.ab (i:=1) rfl;have y2:=C2.o.ab (i:=2) rfl;have y3:=C2.o.ab (i:=3) rfl;have y4:=C2.o.ab (i:=4) rfl;have y5:=C2.o.ab (i:=5) rfl;have y6:=C2.o.ab (i:=6) rfl;go_wp2_with fail;refine(KS.o mb _ a2.o).mono ?_;rintro e w3 ⟨b,rfl,a3⟩
 replace a3:=xh a3
 go_wp2_with fail;go_ret;exact⟨mb,b,by first|rfl|simp,a3.o⟩
end
variable{W:World}{a b:ByteArray}
theorem aK.fra{W':World}{v:Value}{n:Nat}{l:List Value}(S:aK W 42 2 v n l)(h:jr W W'):aK W' 42 2 v n l:=by
 refine⟨S.1,?_⟩
 rcases S.2 with⟨e,h1⟩|⟨g,cap,rest,e,B,h1⟩
 .exact .inl ⟨e,h1⟩
 .exact .inr ⟨g,cap,rest,e,h _ _ _ B (.inr rfl),h1⟩
theorem CQ(h:¬a=b):¬a.toList=b.toList:=λe=>h (by
 rw[bu,bu]at e;exact iS (Array.ext' e))
theorem Au(h:¬a=b):(a.toList==b.toList)=false:=by simpa using CQ h
def qp(l:List PR):PR×Int:=match l.getLast? with
 |none=>((⟨#[]⟩,⟨#[]⟩),9)
 |some x=>(x,0)
theorem Le{sb mb z:Nat}{kd sp lp m:Int}{r til val:ByteArray}{p:List PR}{A:Nat->World->Prop}(hz:W.heap.size=z)(S:∀i,Bg z (im kd sp lp m r til val) (A i))(h0:A 0 (W.alloc (.cells (im kd sp lp m r til val) 82)))(X:∀i V,A i V->∃v,Mp V mb v p)(hp:p.length<=1000){G1:ByteArray->Int->Prop}{G2:List PR->Int->Prop}{G3:PR->Int->Prop}
 (KG:∀V,A 0 V->Calls prog 42 #[.pointer (some ⟨sb,0,none⟩),.int .i64 sp,.int .i64 lp,.string r] V λe V'=> ∃b1 e1,e=.returned (.tuple #[.string b1,.int .i64 e1])/\G1 b1 e1/\A 1 V')
 (KS:∀V,A 1 V->Calls prog 41 #[.pointer (some ⟨sb,0,none⟩),.int .i64 sp,.int .i64 lp,.string r,.string til,.int .i64 m] V λe V'=> ∃v l2 e2,e=.returned (.tuple #[v,.int .i64 e2])/\G2 l2 e2/\aK V' 42 2 v l2.length (iu l2)/\l2.length<=1000000/\A 2 V')
 (KL:∀V,A 2 V->Calls prog 43 #[.pointer (some ⟨sb,0,none⟩),.int .i64 sp,.int .i64 lp,.string r,.string til] V λe V'=> ∃x e3,e=.returned (.tuple #[prV x,.int .i64 e3])/\G3 x e3/\jr V V'/\A 3 V'):
  Calls prog 94 #[.pointer (some ⟨sb,0,none⟩),.pointer (some ⟨mb,0,none⟩),.agg (im kd sp lp m r til val)] W λe W'=> ∃b,e=.returned (.bool b)/\(∃b1 e1 l2 e2 x e3,G1 b1 e1/\G2 l2 e2/\G3 x e3/\((b1,e1)=cB p r->l2=eH r til m p->e2=0->(x,e3)=qp (eH r til 1099511627776 p)->b=true))/\A 3 W':=by
 obtain⟨mg,hmg⟩:∃mg,cB p r=mg:=⟨_,rfl⟩;have KM:=xh (λ(i:Nat) (V:World) (a:A i V)=>show Calls prog 107 #[.pointer (some ⟨mb,0,none⟩),.string r] V λe w'=>e=.returned (.tuple #[.string (cB p r).1,.int .i64 (cB p r).2])/\Below V.heap.size V w' from(X i V a).elim λ_ h=>Hn h r)
 have KSA:=xh (λ(i:Nat) (V:World) (a:A i V)=>show Calls prog 108 #[.pointer (some ⟨mb,0,none⟩),.string r,.string til,.int .i64 1099511627776] V λe w'=> ∃v',e=.returned v'/\aK w' 42 2 v' (eH r til 1099511627776 p).length (iu (eH r til 1099511627776 p))/\Below V.heap.size V w'/\(∀g∈ah v',V.heap.size<=g)from(X i V a).elim λ_ h=>CJ h r til _)
 have KSN:=xh (λ(i:Nat) (V:World) (a:A i V)=>show Calls prog 108 #[.pointer (some ⟨mb,0,none⟩),.string r,.string til,.int .i64 m] V λe w'=> ∃v',e=.returned v'/\aK w' 42 2 v' (eH r til m p).length (iu (eH r til m p))/\Below V.heap.size V w'/\(∀g∈ah v',V.heap.size<=g)from(X i V a).elim λ_ h=>CJ h r til m);have hal1:(eH r til 1099511627776 p).length<=1000000:=by have:=lX r til 1099511627776 p p.length;rw[gY]at this;omega
 have hsn1:(eH r til m p).length<=1000000:=by have:=lX r til m p p.length;rw[gY]at this;omega
 rw[hmg]at KM;rw[hmg];obtain⟨al,gu⟩:∃al,eH r til 1099511627776 p=al:=⟨_,rfl⟩;obtain⟨sn,hsn⟩:∃sn,eH r til m p=sn:=⟨_,rfl⟩;rw[gu]at KSA hal1 ⊢;rw[hsn]at KSN hsn1 ⊢;have nt:=xh (And.intro hal1 hsn1);clear gu hsn hal1 hsn1 hmg;obtain⟨mv,me⟩:=mg;dsimp only at KM
 replace h0:=xh h0
 replace S:=xh S
 replace KG:=xh KG
 replace KS:=xh KS
 replace KL:=xh KL
 have HZ:=xh hz;clear X hp hz;have C0:=xh ((S.o 0).c _ h0.o);unfold im at *;have y1:=C0.o.ab (i:=1) rfl;have y2:=C0.o.ab (i:=2) rfl;have y3:=C0.o.ab (i:=3) rfl;have y4:=C0.o.ab (i:=4) rfl;have y5:=C0.o.ab (i:=5) rfl;have oS:=HZ.o;unfold prV at KL;go_enter func94,ntmps94;go_wp2_with fail;refine(KG.o _ h0.o).mono ?_;rintro e w1 ⟨b1,e1,rfl,g1,a1⟩;have g1:=xh g1
 replace a1:=xh a1
 have C1:=xh ((S.o 1).c _ a1.o);clear y1 y2 y3 y4 y5;have y1:=C1.o.ab (i:=1) rfl;have y2:=C1.o.ab (i:=2) rfl;have y3:=C1.o.ab (i:=3) rfl;have y4:=C1.o.ab (i:=4) rfl;have y5:=C1.o.ab (i:=5) rfl;go_wp2_with fail;refine(KM.o 1 _ a1.o).mono ?_;rintro e w2 ⟨rfl,bS⟩;have a2:=xh ((S.o 1).b _ _ a1.o bS);have C2:=xh ((S.o 1).c _ a2.o);clear bS;clear y1 y2 y3 y4 y5;have y1:=C2.o.ab (i:=1) rfl
 have y2:=C2.o.ab (i:=2) rfl;have y3:=C2.o.ab (i:=3) rfl;have y4:=C2.o.ab (i:=4) rfl;have y5:=C2.o.ab (i:=5) rfl;go_wp2_with fail;refine(KS.o _ a2.o).mono ?_;rintro e w3 ⟨vs,l2,e2,rfl,g2,s3,Nh,a3⟩;have g2:=xh g2;have HL2:=xh Nh
 replace a3:=xh a3
 have C3:=xh ((S.o 2).c _ a3.o);obtain⟨As,cs,rfl⟩:=ao s3;have s3:=xh s3;clear Nh;clear y1 y2 y3 y4 y5;have y1:=C3.o.ab (i:=1) rfl;have y2:=C3.o.ab (i:=2) rfl;have y3:=C3.o.ab (i:=3) rfl;have y4:=C3.o.ab (i:=4) rfl;have y5:=C3.o.ab (i:=5) rfl;go_wp2_with fail;refine(KL.o _ a3.o).mono ?_;rintro e w4 ⟨x,e3,rfl,g3,f4,a4⟩;have g3:=xh g3
 replace a4:=xh a4
 obtain⟨xk,xv⟩:=x;have s4:=xh (aK.fra s3.o f4);clear f4;have mD:=ae (Below.refl w4.heap.size w4) (.cells #[.string xk,.string xv] 42);have B5:=xh (aE.new w4 42 #[.string xk,.string xv]);have a5:=xh ((S.o 3).b _ _ a4.o mD);have C5:=xh ((S.o 3).c _ a5.o);have s5:=xh (s4.o.below mD);obtain⟨pb,hpb⟩:∃pb,w4.heap.size=pb:=⟨_,rfl⟩;rw[hpb]at B5;have HPB:=xh hpb;clear mD hpb;clear y1 y2 y3 y4 y5;have y1:=C5.o.ab (i:=1) rfl
 have y2:=C5.o.ab (i:=2) rfl;have y3:=C5.o.ab (i:=3) rfl;have y4:=C5.o.ab (i:=4) rfl;have y5:=C5.o.ab (i:=5) rfl;have hboxed2:=HPB.o;dsimp only;go_wp2_with fail;refine(KSA.o 3 _ a5.o).mono ?_;rintro e w6 ⟨va,rfl,sa,xE,f6⟩;have a6:=xh ((S.o 3).b _ _ a5.o xE);have C6:=xh ((S.o 3).c _ a6.o);have B6:=xh (B5.o.below xE B5.o.lt);have s6:=xh (s5.o.below xE);obtain⟨Aa,ca,rfl⟩:=ao sa;have sa:=xh sa
 clear xE f6 hboxed2;clear y1 y2 y3 y4 y5;have y1:=C6.o.ab (i:=1) rfl;have y2:=C6.o.ab (i:=2) rfl;have y3:=C6.o.ab (i:=3) rfl;have y4:=C6.o.ab (i:=4) rfl;have y5:=C6.o.ab (i:=5) rfl
 by_cases q1:b1=mv
 .subst q1
  by_cases q2:e1=me
  .subst q2
   by_cases q3:e2=0
   .subst q3;go_wp2_with fail;refine(KSN.o 3 _ a6.o).mono ?_;rintro e w7 ⟨vn,rfl,sn7,wU,f7⟩;have a7:=xh ((S.o 3).b _ _ a6.o wU);have B7:=xh (B6.o.below wU B6.o.lt);have s7:=xh (s6.o.below wU);have sa7:=xh (sa.o.below wU);obtain⟨An,cn,rfl⟩:=ao sn7;obtain⟨bs,hbs⟩:∃bs:Bool,bs=true↔l2=sn:=by
     by_cases h:l2=sn
     .exact⟨true,by simp[h]⟩
     .exact⟨false,by simp[h]⟩
    have KE:=xh (gr s7.o sn7 HL2.o nt.o.2 bs hbs);have HBS:=xh hbs;clear wU f7 sn7 hbs y1 y2 y3 y4 y5;go_wp2_with fail;refine KE.o.mono ?_;rintro e w8 ⟨rfl,xF⟩;have a8:=xh ((S.o 3).b _ _ a7.o xF);have B8:=xh (B7.o.below xF B7.o.lt);have sa8:=xh (sa7.o.below xF);clear xF KE;have p0:=B8.o.ab (i:=0) rfl;have p1:=B8.o.ab (i:=1) rfl
    cases bs
    .skip
     go_wp2_with fail;go_ret;exact⟨_,by first|rfl|simp,⟨b1,e1,l2,0,(xk,xv),e3,g1.o,g2.o,g3.o,λh1 h2 h3 h4=>absurd (HBS.o.2 h2) (by simp)⟩,a8.o⟩
    .skip
     rcases rO al with gu|⟨L9,b9,gu⟩
     .subst gu
      by_cases q5:e3=9
      .subst q5
       by_cases u1:xk=⟨#[]⟩
       .subst u1
        by_cases u2:xv=⟨#[]⟩
        .subst u2;go_wp2_with fail;go_ret;exact⟨_,by first|rfl|simp,⟨b1,e1,l2,0,(⟨#[]⟩,⟨#[]⟩),9,g1.o,g2.o,g3.o,λh1 h2 h3 h4=>by first|rfl|simp⟩,a8.o⟩
        .have u3:=CQ u2;have u4:=Au u2;have u5:¬xv.toList=[]:=λe=>u3 (by rw[e,bu]);have h4n:=xh (show ¬(((⟨#[]⟩:ByteArray),xv),(9:Int))=qp []from λh=>u2 (congrArg (λx=>x.1.2) h))
         replace u2:=xh u2
         go_wp2_with fail;go_ret;exact⟨_,by first|rfl|simp,⟨b1,e1,l2,0,(⟨#[]⟩,xv),9,g1.o,g2.o,g3.o,λh1 h2 h3 h4=>absurd h4 h4n.o⟩,a8.o⟩
       .have u3:=CQ u1;have u4:=Au u1;have u5:¬xk.toList=[]:=λe=>u3 (by rw[e,bu]);have h4n:=xh (show ¬((xk,xv),(9:Int))=qp []from λh=>u1 (congrArg (λx=>x.1.1) h))
        replace u1:=xh u1
        go_wp2_with fail;go_ret;exact⟨_,by first|rfl|simp,⟨b1,e1,l2,0,(xk,xv),9,g1.o,g2.o,g3.o,λh1 h2 h3 h4=>absurd h4 h4n.o⟩,a8.o⟩
      .have q6:(e3==9)=false:=by simpa using q5
       go_wp2_with fail;go_ret;exact⟨_,by first|rfl|simp,⟨b1,e1,l2,0,(xk,xv),e3,g1.o,g2.o,g3.o,λh1 h2 h3 h4=>absurd (congrArg Prod.snd h4) (by show ¬e3=9;exact q5)⟩,a8.o⟩
     .rw[List.concat_eq_append]at gu;subst gu;obtain⟨ln,mC⟩:∃ln,(L9++[b9]).length=ln:=⟨_,rfl⟩;have hln2:ln=L9.length+1:=by rw[<-mC];simp
      have S9:=sa8.o;rw[mC]at S9;obtain⟨ga,xa,rfl,hxa,hca,uj,c0,c1⟩:=aK.pr S9 (i:=L9.length) (by omega);rw[List.getElem?_concat_length]at hxa;injection hxa with hxa
      subst hxa;obtain⟨ak,av⟩:=b9;dsimp only at c0 c1;have hll9:=nt.o.1;rw[mC]at hll9;have hn0:¬(ln:Int)=0:=by omega
      have hn1:¬ln=0:=by omega
      have s1:IntKind.i64.wrap ((ln:Int)-1)=(L9.length:Int):=by rw[hln2,show(((L9.length+1:Nat):Int)-1)=(L9.length:Int) by omega];exact IntWalk.i64_in _ (by omega)
      have s2:L9.length<ln:=by omega
      have s3':(L9.length:Int)<(ln:Int):=by omega
      have s4':(0:Int)<=(L9.length:Int):=by omega
      have HG:qp (L9++[(ak,av)])=((ak,av),0):=by unfold qp;rw[List.getLast?_concat]
      have HG:=xh HG;rw[mC]
      replace mC:=xh mC
      replace hln2:=xh hln2
      clear S9
      by_cases q5:e3=0
      .subst q5
       by_cases u1:xk=ak
       .subst u1
        by_cases u2:xv=av
        .subst u2;go_wp2_with fail;refine wp_region_held_drew (S:=λW=>W.cell? ⟨pb,0,none⟩=some (.string xk)/\W.cell? ⟨pb,1,none⟩=some (.string xv)/\W.cell? ⟨ga,L9.length*2,none⟩=some (.string xk)/\W.cell? ⟨ga,L9.length*2+1,none⟩=some (.string xv)) (by kernel_rfl) (⟨p0,p1,c0,c1⟩) (λaq=>?_);refine cV [(0,103),(1,104),(2,105),(3,106),(4,107),(5,108),(6,109),(7,110),(8,111),(9,112),(10,113),(11,114),(12,6)] ?_
         iterate 13 refine bj ?_
         refine wpAnyH_done (by kernel_rfl) ?_ _;go_simp;go_wp2_with fail;go_ret;exact⟨true,by first|rfl|simp,⟨b1,e1,l2,0,(xk,xv),0,g1.o,g2.o,g3.o,λh1 h2 h3 h4=>rfl⟩,(S.o 3).d a8.o⟩
        .have u3:=CQ u2;have u4:=Au u2;have h4n:=xh (show ¬((xk,xv),(0:Int))=qp (L9++[(xk,av)])from λh=>by rw[HG.o]at h;exact u2 (congrArg (λx=>x.1.2) h))
         replace u2:=xh u2
         go_wp2_with fail;refine wp_region_held_drew (S:=λW=>W.cell? ⟨pb,0,none⟩=some (.string xk)/\W.cell? ⟨pb,1,none⟩=some (.string xv)/\W.cell? ⟨ga,L9.length*2,none⟩=some (.string xk)/\W.cell? ⟨ga,L9.length*2+1,none⟩=some (.string av)) (by kernel_rfl) (⟨p0,p1,c0,c1⟩) (λaq=>?_);refine cV [(0,103),(1,104),(2,105),(3,106),(4,107),(5,108),(6,109),(7,110),(8,111),(9,112),(10,113),(11,114),(12,6)] ?_
         iterate 13 refine bj ?_
         refine wpAnyH_done (by kernel_rfl) ?_ _;go_simp;go_wp2_with fail;go_ret;exact⟨false,by first|rfl|simp,⟨b1,e1,l2,0,(xk,xv),0,g1.o,g2.o,g3.o,λh1 h2 h3 h4=>absurd h4 h4n.o⟩,(S.o 3).d a8.o⟩
       .have u3:=CQ u1;have u4:=Au u1;have h4n:=xh (show ¬((xk,xv),(0:Int))=qp (L9++[(ak,av)])from λh=>by rw[HG.o]at h;exact u1 (congrArg (λx=>x.1.1) h))
        replace u1:=xh u1
        go_wp2_with fail;refine wp_region_held_drew (S:=λW=>W.cell? ⟨pb,0,none⟩=some (.string xk)/\W.cell? ⟨pb,1,none⟩=some (.string xv)/\W.cell? ⟨ga,L9.length*2,none⟩=some (.string ak)/\W.cell? ⟨ga,L9.length*2+1,none⟩=some (.string av)) (by kernel_rfl) (⟨p0,p1,c0,c1⟩) (λaq=>?_);refine cV [(0,103),(1,104),(2,105),(3,106),(4,107),(5,108),(6,109),(7,110),(8,111),(9,112),(10,113),(11,114),(12,6)] ?_
        iterate 13 refine bj ?_
        refine wpAnyH_done (by kernel_rfl) ?_ _;go_simp;go_wp2_with fail;go_ret;exact⟨false,by first|rfl|simp,⟨b1,e1,l2,0,(xk,xv),0,g1.o,g2.o,g3.o,λh1 h2 h3 h4=>absurd h4 h4n.o⟩,(S.o 3).d a8.o⟩
      .have q6:(e3==0)=false:=by simpa using q5
       go_wp2_with fail;refine wp_region_held_drew (S:=λ_=>True) (by kernel_rfl) (trivial) (λaq=>?_);refine cV [(0,103),(1,104),(2,105)] ?_
       iterate 3 refine bj ?_
       refine cm 3 106 ?_;refine cm 4 107 ?_;refine cm 5 108 ?_;refine cm 6 109 ?_;refine cm 7 110 ?_;refine cm 8 111 ?_;refine cm 9 112 ?_;refine cm 10 113 ?_;refine cV [(11,114),(12,6)] ?_
       iterate 2 refine bj ?_
       refine wpAnyH_done (by kernel_rfl) ?_ _;go_simp;go_wp2_with fail;go_ret;exact⟨false,by first|rfl|simp,⟨b1,e1,l2,0,(xk,xv),e3,g1.o,g2.o,g3.o,λh1 h2 h3 h4=>by rw[HG.o]at h4;exact absurd (congrArg Prod.snd h4) (by show ¬e3=0;exact q5)⟩,(S.o 3).d a8.o⟩
   .have q4:(e2==0)=false:=by simpa using q3
    go_wp2_with fail;go_ret;exact⟨_,by first|rfl|simp,⟨b1,e1,l2,e2,(xk,xv),e3,g1.o,g2.o,g3.o,λh1 h2 h3 h4=>absurd h3 q3⟩,a6.o⟩
  .have q4:(e1==me)=false:=by simpa using q2
   go_wp2_with fail;go_ret;exact⟨_,by first|rfl|simp,⟨b1,e1,l2,e2,(xk,xv),e3,g1.o,g2.o,g3.o,λh1 h2 h3 h4=>absurd (congrArg Prod.snd h1) (by show ¬e1=me;exact q2)⟩,a6.o⟩
 .have q2:=CQ q1;have q3:=Au q1;go_wp2_with fail;go_ret;exact⟨_,by first|rfl|simp,⟨b1,e1,l2,e2,(xk,xv),e3,g1.o,g2.o,g3.o,λh1 h2 h3 h4=>absurd (congrArg Prod.fst h1) (by show ¬b1=mv;exact q1)⟩,a6.o⟩
end Sh
namespace Sh
open Go.RowKit Pk Dk Pg
variable{V V':World}
def Ij(w W:World)(sb tb xb:Nat)(I:Ix)(M:List PR)(L:List De)(k K z:Nat)(cs:Array Value)(V:World):Prop:=
 SY w V sb tb I M k K/\DX V w.heap.size xb L/\jr W V/\aE V z 82 cs
def UK(w W:World)(sb tb xb:Nat)(I:Ix)(M:List PR)(L:List De)(k K s l z:Nat)(cs:Array Value)(mb:Nat)(V:World):Prop:=
 ∃L2,SY w V sb tb I M k K/\DX V w.heap.size xb L2/\Rl M L2/\(((s:Int),(l:Int),mb),aF s l M)∈L2/\jr W V/\L2.length<=L.length+1/\aE V z 82 cs
def AfS(w W:World)(sb tb xb:Nat)(I:Ix)(M:List PR)(L:List De)(k K s l z:Nat)(cs:Array Value)(p':List PR)(ok:Prop)(mb:Nat)(V:World):Prop:=
 ok/\∃L2 M',SY w V sb tb I M' k K/\DX V w.heap.size xb L2/\Rl M L2/\(((s:Int),(l:Int),mb),aF s l M)∈L2/\aF s l M'=p'/\Bf s l M M'/\jr W V/\L2.length<=L.length+1/\aE V z 82 cs
def PK(w W:World)(sb tb xb:Nat)(I:Ix)(M:List PR)(L:List De)(k K z:Nat)(kd sp lp:Int)(cs:Array Value)(ok:Prop)(V:World):Prop:=
 ok/\Mz w W V sb tb xb I M L k K kd sp lp/\aE V z 82 cs
section
variable{w W:World}{sb tb xb:Nat}{I:Ix}{M:List PR}{L:List De}{k K s l z:Nat}{cs:Array Value}{p':List PR}{ok:Prop}{mb:Nat}{kd sp lp:Int}
theorem Mz.below(h:Mz w W V sb tb xb I M L k K kd sp lp)(hb:Below V.heap.size V V'):Mz w W V' sb tb xb I M L k K kd sp lp:=by
 obtain⟨M',L',a,b,c,d,e,f⟩:=h;exact⟨M',L',a.below hb,b.below hb,c,d,e.trans (jr.below hb),f⟩
theorem Ij.st:Bg z cs (Ij w W sb tb xb I M L k K z cs):=
 ⟨λV V' ⟨a,b,c,d⟩ hb=>⟨a.below hb,b.below hb,c.trans (jr.below hb),d.below hb d.lt⟩,λV h=>h.2.2.2⟩
theorem UK.st:Bg z cs (UK w W sb tb xb I M L k K s l z cs mb):=
 ⟨λV V' ⟨L2,a,b,c,d,e,f,g⟩ hb=>⟨L2,a.below hb,b.below hb,c,d,e.trans (jr.below hb),f,g.below hb g.lt⟩,λV ⟨L2,a,b,c,d,e,f,g⟩=>g⟩
theorem AfS.st:Bg z cs (AfS w W sb tb xb I M L k K s l z cs p' ok mb):=
 ⟨λV V' ⟨o,L2,M',a,b,c,d,h1,h2,e,f,g⟩ hb=>⟨o,L2,M',a.below hb,b.below hb,c,d,h1,h2,e.trans (jr.below hb),f,g.below hb g.lt⟩,λV ⟨o,L2,M',a,b,c,d,h1,h2,e,f,g⟩=>g⟩
theorem PK.st:Bg z cs (PK w W sb tb xb I M L k K z kd sp lp cs ok):=
 ⟨λV V' ⟨o,d,g⟩ hb=>⟨o,d.below hb,g.below hb g.lt⟩,λV h=>h.2.2⟩
theorem Ij.of(hn:L.length<=1000)(R:Rl M L)(hs:s<=7)(hl:l<=5)(V:World)(h:Ij w W sb tb xb I M L k K z cs V):
  Calls prog 93 #[.pointer (some ⟨xb,0,none⟩),.int .i64 (s:Nat),.int .i64 (l:Nat)] V λe V'=> ∃mb,e=.returned (.pointer (some ⟨mb,0,none⟩))/\UK w W sb tb xb I M L k K s l z cs mb V':=by
 obtain⟨a,b,c,d⟩:=h;refine(a.za b R (by omega) hs hl).mono ?_;rintro e V' ⟨mb,L',r,h1,h2,h3,h4,h5,h6⟩;exact⟨mb,r,L',h1,h2,h3,h4,c.trans h5,h6,h5 _ _ _ d (.inl rfl)⟩
theorem PK.fin{k' K':Nat}{L2:List De}{M':List PR}(nR:¬(kd=6\/kd=7))(hk:k'<=k+1)(hs:s<=7)(hl:l<=5)(b:DX V w.heap.size xb L2)(c:Rl M L2)(d:(((s:Int),(l:Int),mb),aF s l M)∈L2)(h1:aF s l M'=p')(h2:Bf s l M M')(e:jr W V)(f:L2.length<=L.length+1)(g:aE V z 82 cs)(hK:K<=K')
 (x1:SY w V' sb tb I M' k' K)(x2:DX V' w.heap.size xb (qk L2 mb p'))(x3:jr V V')(ho:ok):PK w W sb tb xb I M L k K' z kd (s:Nat) (l:Nat) cs ok V':=by
 refine⟨ho,⟨M',_,x1.le hk hK,x2,c.upd b hs hl d h2 h1,λs' l' Ff ET hT=>h2 s' l' Ff ET λhh=>hT (.inr ⟨nR,by rw[hh.1],by rw[hh.2]⟩),e.trans x3,?_⟩,x3 _ _ _ g (.inl rfl)⟩;unfold qk;rw[fM];omega
end
section
variable{w W:World}{sb tb xb:Nat}{I:Ix}{M:List PR}{L:List De}{k K s l:Nat}(h:SY w W sb tb I M k K)(D:DX W w.heap.size xb L)(R:Rl M L)(hn:L.length<=1000)(hk:k<=30)(hK:K<=999000000000)(kd m:Int)(r til val:ByteArray)(gQ:r.size<=30/\til.size<=30/\val.size<=100000)(hs:s<=7)(hl:l<=5)
include h D R hn hk hK gQ hs hl
theorem do_set(nR:kd=0\/kd=1\/kd=2):
  Calls prog 40 #[.pointer (some ⟨sb,0,none⟩),.pointer (some ⟨xb,0,none⟩),.agg (im kd (s:Nat) (l:Nat) m r til val)] W λe W'=>e=.returned (.bool true)/\Mz w W W' sb tb xb I M L k (K+40000000) kd (s:Nat) (l:Nat):=by
 obtain⟨h0,D0,F0,B0⟩:=h.act D kd (s:Nat) (l:Nat) m r til val;have hlen:=h.Aq.2;refine(doW_set (sb:=sb) (xb:=xb) (sp:=(s:Nat)) (lp:=(l:Nat)) (m:=m) (r:=r) (til:=til) (val:=val) (A0:=Ij w W sb tb xb I M L k K W.heap.size (im kd (s:Nat) (l:Nat) m r til val)) (A1:=UK w W sb tb xb I M L k K s l W.heap.size (im kd (s:Nat) (l:Nat) m r til val)) rfl Ij.st ⟨h0,D0,F0,B0⟩ (by omega) (λmb=>UK.st) (Ij.of hn R hs hl) nR
  (A2:=λmb e1=>AfS w W sb tb xb I M L (k+1) (K+100) s l W.heap.size (im kd (s:Nat) (l:Nat) m r til val) (ue (aF s l M) r val) (e1=if 32<r.size\/1024<val.size then 4 else 0) mb) (λmb e=>AfS.st)
  (A3:=λmb e1 e2=>PK w W sb tb xb I M L k (K+40000000) W.heap.size kd (s:Nat) (l:Nat) (im kd (s:Nat) (l:Nat) m r til val) (e1=e2)) (λmb e1 e2=>PK.st) ?_ ?_).mono ?_
 .rintro mb V ⟨L2,a,b,c,d,e,f,g⟩;refine(a.set_any b hk (by omega) hs hl r val gQ.1 gQ.2.2).mono ?_;rintro e' V' ⟨rfl,M',h1,h2,h3,h4,h5⟩;exact⟨_,rfl,rfl,L2,M',h1,h2,c,d,h3,h4,e.trans h5,f,h5 _ _ _ g (.inl rfl)⟩
 .intro mb e1 V hA;have hA':=hA;obtain⟨o,L2,M',a,b,c,d,h1,h2,e,f,g⟩:=hA';have Dy:=mz s l M;refine(a.uf b d (by omega) r val (by omega) (by omega)).mono ?_;rintro e' V' ⟨rfl,x1,x2,x3⟩;exact⟨_,rfl,PK.fin (by omega) (aj _) hs hl b c d h1 h2 e f g (by omega) x1 x2 x3 o⟩
 .rintro e W' ⟨mb,e1,e2,b,rfl,hb,he,hd,_⟩;rw[hb he];exact⟨rfl,hd⟩
theorem do_del(nR:kd=3):
  Calls prog 40 #[.pointer (some ⟨sb,0,none⟩),.pointer (some ⟨xb,0,none⟩),.agg (im kd (s:Nat) (l:Nat) m r til val)] W λe W'=>e=.returned (.bool true)/\Mz w W W' sb tb xb I M L k (K+40000000) kd (s:Nat) (l:Nat):=by
 obtain⟨h0,D0,F0,B0⟩:=h.act D kd (s:Nat) (l:Nat) m r til val;have hlen:=h.Aq.2;have Dy:=mz s l M;refine(doW_del (sb:=sb) (xb:=xb) (sp:=(s:Nat)) (lp:=(l:Nat)) (m:=m) (r:=r) (til:=til) (val:=val) (A0:=Ij w W sb tb xb I M L k K W.heap.size (im kd (s:Nat) (l:Nat) m r til val)) (A1:=UK w W sb tb xb I M L k K s l W.heap.size (im kd (s:Nat) (l:Nat) m r til val)) rfl Ij.st ⟨h0,D0,F0,B0⟩ (by omega) (λmb=>UK.st) (Ij.of hn R hs hl) nR
  (A2:=λmb e1=>AfS w W sb tb xb I M L k (K+700) s l W.heap.size (im kd (s:Nat) (l:Nat) m r til val) (Am (aF s l M) r) (e1=if rK (aF s l M) r=true then 0 else 9) mb) (λmb e=>AfS.st)
  (A3:=λmb e1 e2=>PK w W sb tb xb I M L k (K+40000000) W.heap.size kd (s:Nat) (l:Nat) (im kd (s:Nat) (l:Nat) m r til val) (e1=e2)) (λmb e1 e2=>PK.st) ?_ ?_).mono ?_
 .rintro mb V ⟨L2,a,b,c,d,e,f,g⟩;refine(a.del_any b hk (by omega) hs hl r gQ.1).mono ?_;rintro e' V' ⟨rfl,M',h1,h2,h3,h4,h5⟩;exact⟨_,rfl,rfl,L2,M',h1,h2,c,d,h3,h4,e.trans h5,f,h5 _ _ _ g (.inl rfl)⟩
 .rintro mb e1 V ⟨o,L2,M',a,b,c,d,h1,h2,e,f,g⟩;refine(a.Ao b d r).mono ?_;rintro e' V' ⟨rfl,x1,x2,x3⟩;exact⟨_,rfl,PK.fin (by omega) (by omega) hs hl b c d h1 h2 e f g (by omega) x1 x2 x3 o⟩
 .rintro e W' ⟨mb,e1,e2,b,rfl,hb,he,hd,_⟩;rw[hb he];exact⟨rfl,hd⟩
theorem UL(nR:kd=5):
  Calls prog 40 #[.pointer (some ⟨sb,0,none⟩),.pointer (some ⟨xb,0,none⟩),.agg (im kd (s:Nat) (l:Nat) m r til val)] W λe W'=>e=.returned (.bool true)/\Mz w W W' sb tb xb I M L k (K+40000000) kd (s:Nat) (l:Nat):=by
 obtain⟨h0,D0,F0,B0⟩:=h.act D kd (s:Nat) (l:Nat) m r til val;have hlen:=h.Aq.2;have Dy:=mz s l M;refine(PJ (sb:=sb) (xb:=xb) (sp:=(s:Nat)) (lp:=(l:Nat)) (m:=m) (r:=r) (til:=til) (val:=val) (A0:=Ij w W sb tb xb I M L k K W.heap.size (im kd (s:Nat) (l:Nat) m r til val)) (A1:=UK w W sb tb xb I M L k K s l W.heap.size (im kd (s:Nat) (l:Nat) m r til val)) rfl Ij.st ⟨h0,D0,F0,B0⟩ (by omega) (λmb=>UK.st) (Ij.of hn R hs hl) nR
  (A2:=λmb e1 er=>AfS w W sb tb xb I M L k (K+30000000) s l W.heap.size (im kd (s:Nat) (l:Nat) m r til val) (lH r til (aF s l M)) (e1=((aF s l M).length:Int)-(lH r til (aF s l M)).length/\er=0) mb) (λmb e er=>AfS.st)
  (A3:=λmb e1 er e2=>PK w W sb tb xb I M L k (K+40000000) W.heap.size kd (s:Nat) (l:Nat) (im kd (s:Nat) (l:Nat) m r til val) (e1=e2/\er=0)) (λmb e1 er e2=>PK.st) ?_ ?_).mono ?_
 .rintro mb V ⟨L2,a,b,c,d,e,f,g⟩;refine(a.PH b hk (by omega) hs hl r til gQ.1 gQ.2.1).mono ?_;rintro e' V' ⟨rfl,M',h1,h2,h3,h4,h5⟩;exact⟨_,_,rfl,⟨rfl,rfl⟩,L2,M',h1,h2,c,d,h3,h4,e.trans h5,f,h5 _ _ _ g (.inl rfl)⟩
 .rintro mb e1 er V ⟨o,L2,M',a,b,c,d,h1,h2,e,f,g⟩;refine(a.sL b d r til).mono ?_;rintro e' V' ⟨rfl,x1,x2,x3⟩;exact⟨_,rfl,PK.fin (by omega) (by omega) hs hl b c d h1 h2 e f g (by omega) x1 x2 x3 o⟩
 .rintro e W' ⟨mb,e1,er,e2,b,rfl,hb,⟨he,wW⟩,hd,_⟩;rw[hb he wW];exact⟨rfl,hd⟩
theorem do_asks(nR:¬(kd=0\/kd=1\/kd=2\/kd=3\/kd=5\/kd=6\/kd=7\/kd=8)):
  Calls prog 40 #[.pointer (some ⟨sb,0,none⟩),.pointer (some ⟨xb,0,none⟩),.agg (im kd (s:Nat) (l:Nat) m r til val)] W λe W'=>e=.returned (.bool true)/\Mz w W W' sb tb xb I M L k (K+40000000) kd (s:Nat) (l:Nat):=by
 obtain⟨h0,D0,F0,B0⟩:=h.act D kd (s:Nat) (l:Nat) m r til val;have hlen:=h.Aq.2;have Dy:=mz s l M;refine(UJ (sb:=sb) (xb:=xb) (sp:=(s:Nat)) (lp:=(l:Nat)) (m:=m) (r:=r) (til:=til) (val:=val) (A0:=Ij w W sb tb xb I M L k K W.heap.size (im kd (s:Nat) (l:Nat) m r til val)) (A1:=UK w W sb tb xb I M L k K s l W.heap.size (im kd (s:Nat) (l:Nat) m r til val)) rfl Ij.st ⟨h0,D0,F0,B0⟩ (by omega) (λmb=>UK.st) (Ij.of hn R hs hl) nR
  (A3:=λmb b V=>b=true/\Mz w W V sb tb xb I M L k (K+40000000) kd (s:Nat) (l:Nat)) ?_).mono ?_
 .rintro mb V ⟨L2,a,b,c,d,e,f,g⟩;obtain⟨a0,b0,f0,c0⟩:=a.act b kd (s:Nat) (l:Nat) m r til val;refine(Le (sb:=sb) (mb:=mb) (p:=aF s l M) (A:=λi V'=>SY w V' sb tb I M k (K+i*300000)/\DX V' w.heap.size xb L2/\jr W V'/\aE V' V.heap.size 82 (im kd (s:Nat) (l:Nat) m r til val)) rfl (λi=>⟨λV V' ⟨a,b,c,d⟩ hb=>⟨a.below hb,b.below hb,c.trans (jr.below hb),d.below hb d.lt⟩,λV h=>h.2.2.2⟩) ⟨a0,b0,e.trans f0,c0⟩ (λi V' h=>h.2.1.m _ d) (by omega)
   (G1:=λx y=>(x,y)=cB (aF s l M) r) (G2:=λx y=>x=eH r til m (aF s l M)/\y=0) (G3:=λx y=>(x,y)=qp (eH r til 1099511627776 (aF s l M))) ?_ ?_ ?_).mono ?_
  .rintro V1 ⟨a1,b1,e1,g1⟩;refine(a1.xD b1 hk (by omega) hs hl r gQ.1).mono ?_;rintro e' V' ⟨rfl,x1,x2,x3⟩;exact⟨_,_,rfl,rfl,x1.le (aj _) (by omega),x2,e1.trans x3,x3 _ _ _ g1 (.inl rfl)⟩
  .rintro V1 ⟨a1,b1,e1,g1⟩;refine(a1.Hz b1 hk (by omega) hs hl r til gQ.1 gQ.2.1 m).mono ?_;rintro e' V' ⟨v,rfl,S,x1,x2,x3,_⟩;have hlen2:=lX r til m (aF s l M) (aF s l M).length;rw[gY]at hlen2;exact⟨v,_,_,rfl,⟨rfl,rfl⟩,S,by omega,x1.le (aj _) (by omega),x2,e1.trans x3,x3 _ _ _ g1 (.inl rfl)⟩
  .rintro V1 ⟨a1,b1,e1,g1⟩;refine(a1.UI b1 hk (by omega) hs hl r til gQ.1 gQ.2.1).mono ?_;rintro e' V' ⟨x,er,rfl,hx,x1,x2,x3⟩;exact⟨x,er,rfl,hx,x3,x1.le (aj _) (by omega),x2,e1.trans x3,x3 _ _ _ g1 (.inl rfl)⟩
  .rintro e' V' ⟨bb,rfl,⟨b1,e1,l2,e2,x,e3,q1,⟨q2,q3⟩,q4,q5⟩,x1,x2,x3,x4⟩;exact⟨bb,rfl,q5 q1 q2 q3 q4,M,L2,x1.le (by omega) (by omega),x2,c,λ_ _ _ _ _=>rfl,x3,by omega⟩
 .rintro e W' ⟨mb,b,rfl,rfl,hd⟩;exact⟨rfl,hd⟩
end
theorem UM{w W:World}{sb tb xb:Nat}{I:Ix}{M:List PR}{L:List De}{k K:Nat}(h:SY w W sb tb I M k K)(D:DX W w.heap.size xb L)(R:Rl M L)(hn:L.length<=1000)(hk:k<=30)(hK:K<=999000000000)(kd sp lp m:Int)(r til val:ByteArray)(gQ:r.size<=100000/\val.size<=100000)(hm: -9223372036854775808<=m/\m<=9223372036854775807):
  Calls prog 40 #[.pointer (some ⟨sb,0,none⟩),.pointer (some ⟨xb,0,none⟩),.agg (im kd sp lp m r til val)] W λe W'=>e=.returned (.bool true)/\Mz w W W' sb tb xb I M L k (K+40000000) kd sp lp:=by
 by_cases h67:kd=6\/kd=7
 .exact do_adds h D R hn hk (by omega) kd sp lp m r til val gQ.1 hm h67
 by_cases h8:kd=8
 .exact Ld h D R hn hk (by omega) kd sp lp m r til val gQ.1 h8
 by_cases hy:0<=sp/\sp<=7/\0<=lp/\lp<=5/\∀x∈[r,til],x.size<=30
 .obtain⟨e1,e2,e3,e4,e5⟩:=hy;obtain⟨s,rfl⟩:=dL e1;obtain⟨l,rfl⟩:=dL e3;have hr:=e5 r (by simp);have ht:=e5 til (by simp)
  by_cases h0:kd=0\/kd=1\/kd=2
  .exact do_set h D R hn hk hK kd m r til val ⟨hr,ht,gQ.2⟩ (by omega) (by omega) h0
  by_cases h3:kd=3
  .exact do_del h D R hn hk hK kd m r til val ⟨hr,ht,gQ.2⟩ (by omega) (by omega) h3
  by_cases h5:kd=5
  .exact UL h D R hn hk hK kd m r til val ⟨hr,ht,gQ.2⟩ (by omega) (by omega) h5
  exact do_asks h D R hn hk hK kd m r til val ⟨hr,ht,gQ.2⟩ (by omega) (by omega) (by omega)
 .exact do_no h D R hn hk (by omega) kd sp lp m r til val gQ.1 ⟨h67,h8⟩ hy
attribute [local go_sem ↓] Go.wp_at_zero Go.wp_at_succ
open Go.RowKit Go.ChangeShapes Go.WideShapes Go.Deep Pk Dk Pg
structure Ia where
 kd:Int
 sp:Int
 lp:Int
 n:Int
 key:ByteArray
 til:ByteArray
 val:ByteArray
def Ia.cs(x:Ia):Array Value:= #[.int .i64 x.kd,.int .i64 x.sp,.int .i64 x.lp,.int .i64 x.n,.string x.key,.string x.til,.string x.val]
def Lf(x:Int):Prop:= -9223372036854775808<=x/\x<=9223372036854775807
def Ia.ok(x:Ia):Prop:=(Lf x.kd/\Lf x.sp/\Lf x.lp/\Lf x.n)/\x.key.size<=maxLen/\x.til.size<=maxLen/\x.val.size<=maxLen
theorem PL{H:Type}{enc:TypeId×Value->H}{P:Program}{w:World}{t:TypeId}{f0 f1 f2 f3 f4 f5 f6:Field}{fuel:Nat}{cs:List Value}{x:DataW H×List MemPlace}
  (hs:P.underlying t=some (.struct #[f0,f1,f2,f3,f4,f5,f6]))(hC:P.cellsOf t=7)(o0:f0.offset=0)(o1:f1.offset=1)(o2:f2.offset=2)(o3:f3.offset=3)(o4:f4.offset=4)(o5:f5.offset=5)(o6:f6.offset=6)(k0:P.cellsOf f0.type=1)(k1:P.cellsOf f1.type=1)(k2:P.cellsOf f2.type=1)(k3:P.cellsOf f3.type=1)(k4:P.cellsOf f4.type=1)(k5:P.cellsOf f5.type=1)(k6:P.cellsOf f6.type=1)
  (u0:P.underlying f0.type=some (.int .i64))(u1:P.underlying f1.type=some (.int .i64))(u2:P.underlying f2.type=some (.int .i64))(u3:P.underlying f3.type=some (.int .i64))(u4:P.underlying f4.type=some .string)(u5:P.underlying f5.type=some .string)(u6:P.underlying f6.type=some .string)
  (h:DataW.trod enc P w 0 (λ_=>true) true fuel t cs=some x):∃y:Ia,cs=y.cs.toList/\y.ok:=by
 obtain⟨xs,n,_,_,hl,Ay,hf⟩:=DataW.trod_struct hs h;obtain⟨c0,c1,c2,c3,c4,c5,c6,rfl⟩:∃a b c d e f g,cs=[a,b,c,d,e,f,g]:=by
  match cs,hl.trans hC with
  |[a,b,c,d,e,f,g],_=>exact⟨a,b,c,d,e,f,g,rfl⟩
 obtain⟨y0,y1,y2,y3,y4,y5,y6,rfl⟩:∃a b c d e f g,xs=[a,b,c,d,e,f,g]:=by
  match xs,Ay with
  |[a,b,c,d,e,f,g],_=>exact⟨a,b,c,d,e,f,g,rfl⟩
 have g0:=hf 0 f0 rfl;have g1:=hf 1 f1 rfl;have g2:=hf 2 f2 rfl;have g3:=hf 3 f3 rfl;have g4:=hf 4 f4 rfl;have g5:=hf 5 f5 rfl;have g6:=hf 6 f6 rfl;rw[o0,k0]at g0;rw[o1,k1]at g1;rw[o2,k2]at g2;rw[o3,k3]at g3;rw[o4,k4]at g4;rw[o5,k5]at g5;rw[o6,k6]at g6;simp only[xX,xW,mJ,iM]at g0 g1 g2 g3 g4 g5 g6;obtain⟨r0,AO,-,wf0⟩:=DataW.trod_int u0 (x:=y0) (by simpa using g0)
 obtain⟨r1,hr1,-,wf1⟩:=DataW.trod_int u1 (x:=y1) (by simpa using g1);obtain⟨r2,hr2,-,wf2⟩:=DataW.trod_int u2 (x:=y2) (by simpa using g2);obtain⟨r3,hr3,-,wf3⟩:=DataW.trod_int u3 (x:=y3) (by simpa using g3);obtain⟨r4,hr4,-,s4⟩:=DataW.trod_string u4 (x:=y4) (by simpa using g4);obtain⟨r5,hr5,-,s5⟩:=DataW.trod_string u5 (x:=y5) (by simpa using g5);obtain⟨r6,hr6,-,s6⟩:=DataW.trod_string u6 (x:=y6) (by simpa using g6);simp only[List.cons.injEq,and_true]at AO hr1 hr2 hr3 hr4 hr5 hr6
 subst AO hr1 hr2 hr3 hr4 hr5 hr6;have b0:Lf r0:=by have:=Go.bounds_i64 wf0;unfold Lf;omega
 have b1:Lf r1:=by have:=Go.bounds_i64 wf1;unfold Lf;omega
 have b2:Lf r2:=by have:=Go.bounds_i64 wf2;unfold Lf;omega
 have b3:Lf r3:=by have:=Go.bounds_i64 wf3;unfold Lf;omega
 exact⟨⟨r0,r1,r2,r3,r4,r5,r6⟩,rfl,⟨b0,b1,b2,b3⟩,s4,s5,s6⟩
end Sh
namespace Sh
open Go.RowKit Pk Dk Pg Go.Deep Go.ChangeShapes Go.WideShapes
variable{w w':World}{n fuel:Nat}{cs:List Value}
instance:Inhabited Ia:=⟨⟨0,0,0,0,.empty,.empty,.empty⟩⟩
structure Av(w:World)(ad:Addr)(a:Ia):Prop where
 c0:w.cell? ad=some (.int .i64 a.kd)
 c1:w.cell? ⟨ad.block,ad.off+1,none⟩=some (.int .i64 a.sp)
 c2:w.cell? ⟨ad.block,ad.off+2,none⟩=some (.int .i64 a.lp)
 c3:w.cell? ⟨ad.block,ad.off+3,none⟩=some (.int .i64 a.n)
 c4:w.cell? ⟨ad.block,ad.off+4,none⟩=some (.string a.key)
 c5:w.cell? ⟨ad.block,ad.off+5,none⟩=some (.string a.til)
 c6:w.cell? ⟨ad.block,ad.off+6,none⟩=some (.string a.val)
def rm(w:World)(A:Option Addr)(n:Nat)(F:Nat->Ia):Prop:= ∀k,k<n->∃ad,A=some ad/\Av w (ad.add (k*7)) (F k)/\(F k).ok
theorem Av.below{ad:Addr}{a:Ia}(h:Av w ad a)(hb:Below w.heap.size w w'):Av w' ad a:=by
 have dV:=dN h.c0;have e:∀j:Nat,w'.cell? ⟨ad.block,ad.off+j,none⟩=w.cell? ⟨ad.block,ad.off+j,none⟩:=λj=>hb.cell (p:=⟨ad.block,ad.off+j,none⟩) dV;exact⟨(hb.cell dV).trans h.c0,(e 1).trans h.c1,(e 2).trans h.c2,(e 3).trans h.c3,(e 4).trans h.c4,(e 5).trans h.c5,(e 6).trans h.c6⟩
theorem rm.below{A:Option Addr}{F:Nat->Ia}(h:rm w A n F)(hb:Below w.heap.size w w'):rm w' A n F:=by
 intro k hk;obtain⟨ad,e,h1,h2⟩:=h k hk;exact⟨ad,e,h1.below hb,h2⟩
theorem add_ats(a:Addr)(i j:Nat)(hj:0<j):(a.add i).add j=⟨(a.add i).block,(a.add i).off+j,none⟩:=by
 rw[Addr.add,if_neg (by omega)]
theorem PM(a:Addr):a.add 0=a:=by simp[Addr.add]
theorem Lg{α:Type}[Inhabited α]{p:Nat->α->Prop}(h:∀k,k<n->∃x,p k x):∃F:Nat->α,∀k,k<n->p k (F k):=by
 refine⟨λk=>if hk:k<n then Classical.choose (h k hk)else default,λk hk=>?_⟩;show p k (if hk:k<n then Classical.choose (h k hk)else default);rw[dif_pos hk];exact Classical.choose_spec (h k hk)
theorem wQ{H:Type}{enc:TypeId×Value->H}{x:DataW H×List MemPlace}(h:DataW.trod enc prog w 0 (λ_=>true) true fuel 82 cs=some x):∃y:Ia,cs=y.cs.toList/\y.ok:=
 PL underlying82 (by kernel_rfl) rfl rfl rfl rfl rfl rfl rfl (by kernel_rfl) (by kernel_rfl) (by kernel_rfl) (by kernel_rfl) (by kernel_rfl) (by kernel_rfl) (by kernel_rfl) underlying3 underlying3 underlying3 underlying3 underlying9 underlying9 underlying9 h
theorem E6{H:Type}{enc:TypeId×Value->H}{x:DataW H×List MemPlace}(h:DataW.trod enc prog w 0 (λ_=>true) true fuel 80 cs=some x):
  ∃(A:Option Addr) (n c:Nat) (F:Nat->Ia),cs=[.slice A n c]/\n<=9223372036854775807/\rm w A n F:=by
 have hce:prog.cellsOf 82=7:=by kernel_rfl
 rcases open_slice underlying80 h with⟨hcs,_⟩|⟨a,len',Ds,m,n,D,Pl,hcs,_,hl,hm,Mh,_,iV⟩
 .exact⟨none,0,0,λ_=>default,hcs,bm _,λk hk=>absurd hk (by omega)⟩
 .simp at Mh;have each:∀k,k<len'->∃x:Ia,Av w (a.add (k*7)) x/\x.ok:=by
   intro k hk;obtain⟨cs',hcs',sy⟩:=iV k (by omega);rw[hce]at hcs';obtain⟨_,_,EP⟩:=World.cells?_some hcs';obtain⟨y,rfl,hy⟩:=wQ sy;have g0:=EP 0 (by omega);have g1:=EP 1 (by omega);have g2:=EP 2 (by omega);have g3:=EP 3 (by omega);have g4:=EP 4 (by omega);have g5:=EP 5 (by omega);have g6:=EP 6 (by omega);rw[PM]at g0;rw[add_ats _ _ _ (by omega)]at g1 g2 g3 g4 g5 g6;exact⟨y,⟨g0,g1,g2,g3,g4,g5,g6⟩,hy⟩
  obtain⟨F,hF⟩:=Lg (p:=λk x=>Av w (a.add (k*7)) x/\x.ok) each;exact⟨some a,len',Ds,F,hcs,by unfold maxLen at hm;omega,λk hk=>⟨a,rfl,hF k hk⟩⟩
theorem Ib{H:Type}{enc:TypeId×Value->H}{P:Program}{t:TypeId}{f0 f1 f2 f3:Field}{x:DataW H×List MemPlace}
 (hs:P.underlying t=some (.struct #[f0,f1,f2,f3]))(hC:P.cellsOf t=10)(o0:f0.offset=0)(o1:f1.offset=1)(o2:f2.offset=8)(o3:f3.offset=9)(k0:P.cellsOf f0.type=1)(k1:P.cellsOf f1.type=7)(k2:P.cellsOf f2.type=1)(k3:P.cellsOf f3.type=1)
 (h:DataW.trod enc P w 0 (λ_=>true) true fuel t cs=some x):∃c0 d0 d1 d2 d3 d4 d5 d6 c2 c3 n y0 y1 y2 y3,cs=[c0,d0,d1,d2,d3,d4,d5,d6,c2,c3]/\DataW.trod enc P w 0 (λ_=>true) true n f0.type [c0]=some y0/\DataW.trod enc P w 0 (λ_=>true) true n f1.type [d0,d1,d2,d3,d4,d5,d6]=some y1/\DataW.trod enc P w 0 (λ_=>true) true n f2.type [c2]=some y2/\DataW.trod enc P w 0 (λ_=>true) true n f3.type [c3]=some y3:=by
 obtain⟨xs,n,_,_,hl,Ay,hf⟩:=DataW.trod_struct hs h;obtain⟨c0,d0,d1,d2,d3,d4,d5,d6,c2,c3,rfl⟩:∃c0 d0 d1 d2 d3 d4 d5 d6 c2 c3,cs=[c0,d0,d1,d2,d3,d4,d5,d6,c2,c3]:=by
  match cs,hl.trans hC with
  |[c0,d0,d1,d2,d3,d4,d5,d6,c2,c3],_=>exact⟨c0,d0,d1,d2,d3,d4,d5,d6,c2,c3,rfl⟩
 obtain⟨y0,y1,y2,y3,rfl⟩:∃y0 y1 y2 y3,xs=[y0,y1,y2,y3]:=by
  match xs,Ay with
  |[a,b,c,d],_=>exact⟨a,b,c,d,rfl⟩
 have g0:=hf 0 f0 rfl;have g1:=hf 1 f1 rfl;have g2:=hf 2 f2 rfl;have g3:=hf 3 f3 rfl;rw[o0,k0]at g0;rw[o1,k1]at g1;rw[o2,k2]at g2;rw[o3,k3]at g3;simp only[xX,xW,mJ,iM]at g0 g1 g2 g3;exact⟨c0,d0,d1,d2,d3,d4,d5,d6,c2,c3,n,y0,y1,y2,y3,rfl,by simpa using g0,by simpa using g1,by simpa using g2,by simpa using g3⟩
theorem PN{H:Type}{enc:TypeId×Value->H}{base:Nat}{v:Value}{d:DataW H}{ps:List MemPlace}(fy:Value.okWide prog w .any base 84 v)(h:DataW.Trod enc prog w 0 (λ_=>true) true 84 v d ps):
  ∃(A:Option Addr) (m cc:Nat) (F:Nat->Ia) (y:Ia) (sp lp:Nat),v=.agg #[.slice A m cc,.int .i64 y.kd,.int .i64 y.sp,.int .i64 y.lp,.int .i64 y.n,.string y.key,.string y.til,.string y.val,.int .u8 (sp:Nat),.int .u8 (lp:Nat)]/\m<=9223372036854775807/\rm w A m F/\y.ok/\sp<256/\lp<256:=by
 obtain⟨cs,rfl,mM⟩:=okWide_struct underlying84 fy;obtain⟨fuel,hf⟩:=h;obtain⟨c0,d0,d1,d2,d3,d4,d5,d6,c2,c3,n,y0,y1,y2,y3,hcs,g0,g1,g2,g3⟩:=Ib underlying84 (by kernel_rfl) rfl rfl rfl rfl (by kernel_rfl) (by kernel_rfl) (by kernel_rfl) (by kernel_rfl) (cs:=cs.toList) (by simpa [Value.cells]using hf);obtain⟨A,m,cc,F,e0,hm,hA⟩:=E6 g0;obtain⟨y,e1,hy⟩:=wQ g1;obtain⟨q2,e2,ki⟩:=DataW.trod_int underlying5 (x:=y2) g2
 obtain⟨q3,e3,hq3⟩:=DataW.trod_int underlying5 (x:=y3) g3;unfold Ia.cs at e1;simp only[List.cons.injEq,and_true]at e0 e1 e2 e3;obtain⟨rfl,rfl,rfl,rfl,rfl,rfl,rfl⟩:=e1;subst e0 e2 e3;have bS:=Go.bounds_u8 ki.2;have cZ:=Go.bounds_u8 hq3.2;obtain⟨N2,rfl⟩:=dL bS.1;obtain⟨N3,rfl⟩:=dL cZ.1;exact⟨A,m,cc,F,y,N2,N3,by congr 1;exact nh.1 hcs,hm,hA,hy,by omega,by omega⟩
end Sh
end Go.Proofs.YtmonobkginiajaaGreat
