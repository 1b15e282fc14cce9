/- packed. -/
import Derived.Laws.EntriesVeiled
import Derived.Test.YtmonobkginiajaaGreatBs12
set_option linter.all false
set_option maxRecDepth 100000
set_option maxHeartbeats 8000000
namespace Go.Proofs.YtmonobkginiajaaGreat
open Go.Proofs.Tryz
namespace Sh
open Go.RowKit Pk Dk Pg
open Nd (E aN aW dL bA aY cq bF ak cW)
variable{fr az:ByteArray}{l:List E}{u:Nat}{q:QS}
theorem bl_kc(a b:ByteArray):Op.bytesLess a.toList b.toList=decide (gq a b):=by
 rw[cu,cu,Nd.Ol];rfl
theorem toL_nil(t:ByteArray):(t.toList==[])=decide (t.size=0):=by
 rw[cu];have h:t.data.toList.length=t.size:=by simp
 cases hl:t.data.toList with
 |nil=>rw[hl]at h;rw[decide_eq_true (by rw[<-h];rfl)];rfl
 |cons a l=>rw[hl]at h;rw[decide_eq_false (by rw[<-h];simp)];rfl
def Cq(fr az key:ByteArray):Bool:=decide (oT fr key) && (decide (az.size=0) || decide (gq key az))
def fm{α σ:Type}(step:α->σ->σ×Bool):List α->σ->σ×Bool
 |[],s=>(s,true)
 |x::l,s=>if(step x s).2=true then fm step l (step x s).1 else((step x s).1,false)
theorem wM{α σ:Type}(step:α->σ->σ×Bool):∀(a b:List α) (s:σ),fm step (a++b) s=if(fm step a s).2=true then fm step b (fm step a s).1 else fm step a s
 |[],b,s=>rfl
 |x::a,b,s=>by
  show(if(step x s).2=true then fm step (a++b) (step x s).1 else((step x s).1,false))=if(if(step x s).2=true then fm step a (step x s).1 else((step x s).1,false)).2=true then _ else _
  by_cases h:(step x s).2=true
  .rw[if_pos h,wM step a b];simp only[fm,if_pos h]
  .rw[if_neg h,if_neg h,if_neg (by simp)];exact(if_neg h).symm
def tD(fr az:ByteArray)(l:List E):List E:=l.filter λe=>Cq fr az e.key
theorem yP(fr az:ByteArray)(a b:List E):tD fr az (a++b)=tD fr az a++tD fr az b:=uZ ..
theorem ON(h:∀e∈l,gq e.key fr):tD fr az l=[]:=by
 unfold tD;rw[JR];intro e he hx;unfold Cq at hx;rw[ig,decide_eq_true_eq]at hx;exact wG (h e he) hx.1
theorem Bn(ht:az.size≠0)(h:∀e∈l,oT az e.key):tD fr az l=[]:=by
 unfold tD;rw[JR];intro e he hx;unfold Cq at hx;rw[ig,wW,decide_eq_true_eq,decide_eq_true_eq]at hx
 rcases hx.2 with h1|h1
 .exact ht h1
 .exact wG (of_decide_eq_true h1) (h e he)
structure WkOk{σ:Type}(step:E->σ->σ×Bool)(fr az:ByteArray)(en:List E)(s:σ)(R:Wk σ):Prop where
 e:R.e=0
 f:R.s=(fm step (tD fr az en) s).1
 y:R.more=true->(fm step (tD fr az en) s).2=true
 n:R.more=false->(fm step (tD fr az en) s).2=false\/(az.size≠0/\∃y∈en,oT az y.key)
section
variable{σ:Type}{o:Vw}{mm:Nat}{v:Vw}(step:E->σ->σ×Bool)(fr az:ByteArray)
theorem Rw(i:Nat)(x:E):mG fr true 0 i x=decide (gq x.key fr):=by
 unfold mG;rw[bl_kc,decide_eq_false (kZ i)];simp
theorem OP(leaf:Bool)(i:Nat)(x:E):lI az leaf i x=(decide (az.size≠0) && decide (oT az x.key) && (leaf || decide (0<i))):=by
 unfold lI;rw[toL_nil,bl_kc]
 congr 2
 .simp
 .have h1:(decide (gq x.key az))= !decide (oT az x.key):=by
   by_cases h:gq x.key az
   .rw[decide_eq_true h,decide_eq_false (λk=>wG h k)];rfl
   .rw[decide_eq_false h,decide_eq_true (mI h)];rfl
  rw[h1,Bool.not_not]
theorem wN(rec:QS->Nat->σ->Int->Wk σ):∀(l:List E) (i:Nat) (q:QS) (seen:Nat) (s:σ),(l.Pairwise λc e=>gq c.key e.key)->
  (iu rec step fr az true 0 i l q seen s).q=q/\(iu rec step fr az true 0 i l q seen s).seen=seen/\WkOk step fr az l s (iu rec step fr az true 0 i l q seen s)
 |[],i,q,seen,s,_=>⟨rfl,rfl,rfl,rfl,λ_=>rfl,λh=>absurd h (by simp[iu])⟩
 |x::l,i,q,seen,s,hp=>by
  rw[dW]at hp;unfold iu;rw[Rw,OP]
  by_cases h1:gq x.key fr
  .rw[decide_eq_true h1,if_pos rfl];obtain⟨a,b,c⟩:=wN rec l (i+1) q seen s hp.2;have hf:tD fr az (x::l)=tD fr az l:=by
    rw[show x::l=[x]++l from rfl,yP,ON (l:=[x]) (by simp;exact h1)];rfl
   exact⟨a,b,c.e,by rw[hf];exact c.f,by rw[hf];exact c.y,λh=>by rw[hf];exact(c.n h).imp id (λ⟨h2,y,hy,h3⟩=>⟨h2,y,by simp[hy],h3⟩)⟩
  .rw[decide_eq_false h1,if_neg (by simp)]
   by_cases h2:az.size≠0/\oT az x.key
   .rw[decide_eq_true h2.1,decide_eq_true h2.2,if_pos (by simp)];have hf:tD fr az (x::l)=[]:=Bn h2.1 (λe he=>by
     rcases aj.1 he with rfl|he
     .exact h2.2
     .exact ta (iV h2.2 (hp.1 e he)))
    exact⟨rfl,rfl,rfl,by rw[hf];rfl,λh=>absurd h (by simp),λ_=> .inr ⟨h2.1,x,by simp,h2.2⟩⟩
   .rw[if_neg (by
     rw[ig,ig,decide_eq_true_eq,decide_eq_true_eq];exact λh=>h2 h.1),if_pos rfl]
    have rV:Cq fr az x.key=true:=by
     unfold Cq;rw[ig,wW,decide_eq_true_eq,decide_eq_true_eq,decide_eq_true_eq];refine⟨mI h1,?_⟩
     by_cases h3:az.size=0
     .exact .inl h3
     .right
      by_cases h4:gq x.key az
      .exact h4
      .exact absurd ⟨h3,mI h4⟩ h2
    have hf:tD fr az (x::l)=x::tD fr az l:=by unfold tD;rw[jQ,if_pos rV]
    by_cases h3:(step x s).2=true
    .rw[if_pos h3];obtain⟨a,b,c⟩:=wN rec l (i+1) q seen (step x s).1 hp.2;have hs:fm step (x::tD fr az l) s=fm step (tD fr az l) (step x s).1:=if_pos h3;exact⟨a,b,c.e,by rw[hf,hs];exact c.f,by rw[hf,hs];exact c.y,λh=>by rw[hf,hs];exact(c.n h).imp id (λ⟨h2,y,hy,h3⟩=>⟨h2,y,by simp[hy],h3⟩)⟩
    .rw[if_neg h3];have hs:fm step (x::tD fr az l) s=((step x s).1,false):=if_neg h3;exact⟨rfl,rfl,rfl,by rw[hf,hs],λh=>absurd h (by simp),λ_=> .inl (by rw[hf,hs])⟩
def Ws(v:Vw)(o:Vw)(mm u h m:Nat):Prop:=
 ∀(q:QS) (p:Int) (seen:Nat) (s:σ),Rd q v o u mm->jP v h p->seen+(ao v h p).length<=512->
  Rd (gv step fr az m q seen s p).q v o u mm/\(gv step fr az m q seen s p).seen<=seen+(ao v h p).length/\(((gv step fr az m q seen s p).e=11/\mm<=u)\/WkOk step fr az (fA v h p) s (gv step fr az m q seen s p))
theorem OQ{h m:Nat}(IH:Ws step fr az v o mm u h m)(first:Nat):∀(l:List E) (i:Nat) (q:QS) (seen:Nat) (s:σ),first<=i->Rd q v o u mm->(∀e∈l,jP v h e.aQ/\fA v h e.aQ≠[])->(l.Pairwise λc e=> ∀x∈fA v h c.aQ,gq x.key e.key)->(∀e∈l,∀x∈fA v h e.aQ,(0<i\/e∈l.tail)->oT e.key x.key)->seen+(aU v h l).length<=512->
  Rd (iu (gv step fr az m) step fr az false first i l q seen s).q v o u mm/\(iu (gv step fr az m) step fr az false first i l q seen s).seen<=seen+(aU v h l).length/\
   (((iu (gv step fr az m) step fr az false first i l q seen s).e=11/\mm<=u)\/WkOk step fr az (bV (aU v h l)) s (iu (gv step fr az m) step fr az false first i l q seen s))
 |[],i,q,seen,s,_,R,_,_,_,_=>⟨R,Ey _ _,.inr ⟨rfl,rfl,λ_=>rfl,λh=>absurd h (by simp[iu])⟩⟩
 |x::l,i,q,seen,s,hi,R,hc,hp,hh,hs=>by
  rw[dW]at hp;have hsk:mG fr false first i x=false:=by unfold mG;rw[decide_eq_false (by omega)];rfl
  have hlen:(aU v h (x::l)).length=(ao v h x.aQ).length+(aU v h l).length:=by rw[cO,aO]
  have rA:bV (aU v h (x::l))=fA v h x.aQ++bV (aU v h l):=by rw[cO,dA];rfl
  have hx:=hc x (by simp);obtain⟨y0,hy0⟩:=pF _ hx.2;have Wt:∀z∈bV (aU v h l),∀y∈fA v h x.aQ,gq y.key z.key:=λz hz y hy=>by
   obtain⟨e,he,hz⟩:=db.1 hz;exact gi (hp.1 e he y hy) (hh e (by simp[he]) z hz (.inr he))
  unfold iu;rw[hsk,if_neg (by simp),OP]
  by_cases h2:az.size≠0/\oT az x.key/\0<i
  .rw[decide_eq_true h2.1,decide_eq_true h2.2.1,decide_eq_true h2.2.2,if_pos (by simp)];have nm:∀z∈bV (aU v h (x::l)),oT az z.key:=λz hz=>by
    rw[rA]at hz
    rcases aB.1 hz with hz|hz
    .exact nS h2.2.1 (hh x (by simp) z hz (.inl h2.2.2))
    .exact nS h2.2.1 (nS (hh x (by simp) y0 hy0 (.inl h2.2.2)) (ta (Wt z hz y0 hy0)))
   have hf:tD fr az (bV (aU v h (x::l)))=[]:=Bn h2.1 nm;exact⟨R,Ey _ _,.inr ⟨rfl,by rw[hf];rfl,λh=>absurd h (by simp),λ_=> .inr ⟨h2.1,y0,by rw[rA];simp[hy0],nm y0 (by rw[rA];simp[hy0])⟩⟩⟩
  .rw[if_neg (by
    rw[ig,ig,wW,decide_eq_true_eq,decide_eq_true_eq,decide_eq_true_eq];exact λh=>h2 ⟨h.1.1,h.1.2,h.2.resolve_left (by simp)⟩),if_neg (by simp)]
   obtain⟨r1,r2,r3⟩:=IH q x.aQ seen s R hx.1 (by omega)
   rcases r3 with⟨r3,r4⟩|r3
   .rw[if_neg (by rw[r3];simp)];exact⟨r1,by omega,.inl ⟨r3,r4⟩⟩
   .by_cases hm:(gv step fr az m q seen s x.aQ).more=true
    .rw[if_pos ⟨hm,r3.e⟩];obtain⟨i1,i2,i3⟩:=OQ IH first l (i+1) (gv step fr az m q seen s x.aQ).q (gv step fr az m q seen s x.aQ).seen (gv step fr az m q seen s x.aQ).s (by omega) r1 (λe he=>hc e (by simp[he])) hp.2 (λe he z hz _=>hh e (by simp[he]) z hz (.inr he)) (by omega)
     have hfo:fm step (tD fr az (bV (aU v h (x::l)))) s=fm step (tD fr az (bV (aU v h l))) (gv step fr az m q seen s x.aQ).s:=by
      rw[rA,yP,wM,if_pos (r3.y hm),r3.f]
     refine⟨i1,by omega,i3.imp id (λc=>⟨c.e,by rw[hfo];exact c.f,by rw[hfo];exact c.y,λhmm=>by rw[hfo];exact(c.n hmm).imp id (λ⟨h3,y,hy,h4⟩=>⟨h3,y,by rw[rA];simp[hy],h4⟩)⟩)⟩
    .have hm':(gv step fr az m q seen s x.aQ).more=false:=by simpa using hm
     rw[if_neg (λh=>hm h.1)];have hfo:fm step (tD fr az (bV (aU v h (x::l)))) s=fm step (tD fr az (fA v h x.aQ)) s:=by
      rw[rA,yP,wM]
      by_cases Ch:(fm step (tD fr az (fA v h x.aQ)) s).2=true
      .rw[if_pos Ch]
       rcases r3.n hm' with h3|⟨h3,y,hy,h4⟩
       .rw[h3]at Ch;cases Ch
       .rw[Bn h3 (λz hz=>nS h4 (ta (Wt z hz y hy)))];exact jr rfl Ch.symm
      .rw[if_neg Ch]
     refine⟨r1,by omega,.inr ⟨r3.e,by rw[hfo];exact r3.f,λh=>absurd h hm,λh=>by rw[hfo];exact(r3.n h).imp id (λ⟨h3,y,hy,h4⟩=>⟨h3,y,by rw[rA];simp[hy],h4⟩)⟩⟩
theorem DN(rec:QS->Nat->σ->Int->Wk σ)(first:Nat)(b:List E):∀(a:List E) (i:Nat) (q:QS) (seen:Nat) (s:σ),i+a.length<=first->iu rec step fr az false first i (a++b) q seen s=iu rec step fr az false first (i+a.length) b q seen s
 |[],i,q,seen,s,_=>rfl
 |x::a,i,q,seen,s,h=>by
  rw[m8,iu];have hsk:mG fr false first i x=true:=by unfold mG;rw[decide_eq_true (by simp at h;omega)];rfl
  rw[if_pos hsk,DN rec first b a (i+1) q seen s (by simp at h;omega),fo,show i+1+a.length=i+(a.length+1) by omega]
theorem OR :∀(h m:Nat),h<m->Ws step fr az v o mm u h m
 |h,0,hm=>absurd hm (by omega)
 |h,m+1,hm=>by
  intro q p seen s R hO hs;have hl1:1<=(ao v h p).length:=by rw[iw];simp
  unfold gv;rw[if_neg (by omega)];obtain⟨r1,r2⟩:=R.read p
  rcases r2 with r2|⟨r2,r3⟩
  .cases h with
   |zero=>
    have hp:=oU hO.1;have rA:fA v 0 p=(gm v p).2.1:=wH v 0 p;rw[r2,hO.1,if_neg (by simp)];dsimp only;rw[if_pos rfl];obtain⟨a,b,c⟩:=wN step fr az (gv step fr az m) (gm v p).2.1 0 (q.bh p).1 (seen+1) s hp;rw[a,b,rA];exact⟨r1,by omega,.inr c⟩
   |succ h=>
    obtain⟨o1,o2,o4,o3⟩:=hO;obtain⟨l,hl⟩:∃l,(gm v p).2.1=l:=⟨_,rfl⟩;have rA:fA v (h+1) p=bV (aU v h l):=by rw[wH,hl];rfl
    have hlen:(ao v (h+1) p).length=1+(aU v h l).length:=by rw[iw,hl];simp[cw];omega
    rw[hl]at o1 o2 o3 o4;have hp:=oU o1;obtain⟨a,c,b,e1,e2,e3,e4⟩:=I6 hp o3.ne fr;rw[r2,o1,if_neg (by simp)];dsimp only;rw[if_neg (by simp),e2,rA];have JE:=o3.lo;have QO:=o3.hi;have hcc:=o3.c;rw[e1,dO]at JE;rw[e1]at QO hcc;have hsk:=DN step fr az (gv step fr az m) a.length (c::b) a 0 (q.bh p).1 (seen+1) s (by omega);rw[bl]at hsk;rw[e1,hsk]
    have kE:(aU v h l).length=(aU v h a).length+(aU v h (c::b)).length:=by rw[e1,gG,aO]
    have hhi2:∀e∈c::b,∀x∈fA v h e.aQ,(0<a.length\/e∈(c::b).tail)->oT e.key x.key:=λe he x hx hor=>by
     cases a with
     |nil=>
      rcases hor with h0|h0
      .exact absurd h0 (by simp)
      .exact QO e h0 x hx
     |cons z a'=>exact QO e (bC _ he) x hx
    obtain⟨i1,i2,i3⟩:=OQ step fr az (OR h m (by omega)) a.length (c::b) a.length (q.bh p).1 (seen+1) s (Nat.le_refl _) r1 (λe he=>hcc e (bC _ he)) JE.2.1 hhi2 (by omega);have hfa:tD fr az (bV (aU v h (a++c::b)))=tD fr az (bV (aU v h (c::b))):=by
     rw[gG,dA,yP,ON (l:=bV (aU v h a)) (λx hx=>?_),cI];obtain⟨e,he,hx⟩:=db.1 hx;exact gi (JE.2.2 e he c (by simp) x hx) (e3 (λh0=>by rw[h0]at he;simp at he))
    refine⟨i1,by omega,i3.imp id (λw=>⟨w.e,by rw[hfa];exact w.f,by rw[hfa];exact w.y,λhmm=>by rw[hfa];exact(w.n hmm).imp id (λ⟨h3,y,hy,h4⟩=>⟨h3,y,by rw[gG,dA];exact bC _ hy,h4⟩)⟩)⟩
  .rw[r2,if_pos (by simp)];exact⟨r1,by show seen+1<=_;omega,.inl ⟨rfl,r3⟩⟩
theorem wO{H:Nat}(R:Rd q v o u mm)(hO:jP v H 0)(hH:H<=15)(hn:(ao v H 0).length<=512)(s:σ):
  Rd (q.et step fr az s).q v o u mm/\(((q.et step fr az s).e=11/\mm<=u)\/((q.et step fr az s).e=0/\(q.et step fr az s).s=(fm step (tD fr az (fA v H 0)) s).1)):=by
 obtain⟨a,b,c⟩:=OR step fr az (v:=v) (o:=o) (mm:=mm) (u:=u) H 16 (by omega) q 0 0 s R hO (by omega);exact⟨a,c.imp id (λw=>⟨w.e,w.f⟩)⟩
end
theorem Bo:∀(n:Nat) (l:List Nat),l.Nodup->(∀x∈l,x<n)->l.length<=n
 |0,l,_,h=>by
  cases l with
  |nil=>exact Nat.le_refl _
  |cons a l=>exact absurd (h a (by simp)) (by omega)
 |n+1,l,hn,h=>by
  by_cases hm:n∈l
  .have h1:=Bo n (l.erase n) (hn.erase n) (λx hx=>by
    have h2:=(List.Nodup.mem_erase_iff hn).1 hx;have h3:=h x h2.2;have h4:=h2.1;omega)
   have h5:=Sr hm;omega
  .exact Nat.le_succ_of_le (Bo n l hn (λx hx=>by
    have h3:=h x hx;have h4:x≠n:=λe=>hm (by rw[<-e];exact hx);omega))
theorem Jk{v:Vw}{o:Vw}{mm:Nat}(R:Rd q v o u mm){l:List Int}(hn:l.Nodup)(hl:∀j∈l,(v j).2=0):l.length<=512:=by
 have h1:(l.map Int.toNat).Nodup:=by
  rw[Nw,yp];refine List.Pairwise.imp_of_mem ?_ hn;intro a b ha hb fc e;have h2:=R.lt (hl a ha);have h3:=R.lt (hl b hb);exact fc (by omega)
 have h2:∀x∈l.map Int.toNat,x∈List.range 512:=λx hx=>by
  obtain⟨j,hj,rfl⟩:=dm.1 hx;have h3:=R.lt (hl j hj);exact kT.2 (by omega)
 have:=Bo 512 _ h1 (λx hx=>kT.1 (h2 x hx))
 rwa [eM]at this
open Nd (E aD bu aN aW dL bA aY cq bF)
attribute [local go_sem ↓] Go.wp_at_zero Go.wp_at_succ
variable{fn tb n Kz:Nat}{eQ:Array Value}{I:Ix}{F:List Nat}
def MY{σ:Type}(fn:Nat)(eQ:Array Value)(step:E->σ->σ×Bool)(iK:σ->Nat)(Inv:World->σ->List Nat->Prop)(v:Ev)(tb:Nat)(I:Ix)(F:List Nat)(n Kz:Nat)(fr az:ByteArray)(d:Nat):Prop:=
 ∀(w:World) (q:QS) (seen:Nat) (s:σ) (G:List Nat) (p:Int),seen<=512->TQ w tb I F q n (Kz+seen)->rR w v tb fr az fn eQ seen->Inv w s G->(∀g∈tb::(v.l++F),g∉G)->(∀g∈v.l,g∉F/\g≠tb)->iK s<=57*seen->
  Calls prog 109 (#[.int .i64 p,.int .i64 (d:Nat)]++v.eQ) w λe w'=>e=.returned (.tuple #[.bool (gv step fr az d q seen s p).more,.int .i64 (gv step fr az d q seen s p).e])/\WP w w' v tb I F G n Kz fr az fn eQ iK Inv (gv step fr az d q seen s p)
theorem Jl{σ:Type}{step:E->σ->σ×Bool}{iK:σ->Nat}{Inv:World->σ->List Nat->Prop}(V:Vis fn eQ step iK Inv){v:Ev}(fr az:ByteArray)(VK:Kz<=999999990000)(d:Nat)(hd:d<=16)(IH:∀d',d=d'+1->MY fn eQ step iK Inv v tb I F n Kz fr az d'):MY fn eQ step iK Inv v tb I F n Kz fr az d:=by
  intro w q seen s G p hseen h hv hI hD hvF hmes;have IH:=xh IH;have KR:=xh (λ(W:World) (hW:TQ W tb I F q n (Kz+seen))=>mf hW (by omega) p);have hsB:v.sB∉F/\v.sB≠tb:=hvF _ (by simp[Ev.l]);have hs1:IntKind.i64.wrap ((seen:Int)+1)=(seen:Int)+1:=IntWalk.i64_in _ (by omega);have x0:=hv.s.ab (i:=0) rfl;have xz:=hv.s.frozen 0 (by simp);obtain⟨w1,Jm⟩:∃w1,w.setCell ⟨v.sB,0,none⟩ (.int .i64 ((seen:Int)+1))=w1:=⟨_,rfl⟩
  have o1:ag [v.sB] w w1:=by rw[<-Jm];exact(ag.refl _ _).setCell (by simp) _
  have H1:=xh (show TQ w1 tb I F q n (Kz+seen)/\rR w1 v tb fr az fn eQ (seen+1)/\Inv w1 s G/\ag (v.sB::(F++G)) w w1 from
   ⟨h.only o1 (λg hg hm=>by
    rw[aI.1 hm]at hg
    rcases aj.1 hg with e|e
    .exact hsB.2 e
    .exact hsB.1 e),by rw[<-Jm];exact hv.up,V.pw _ _ _ _ _ hI o1 (λg hg hm=>hD v.sB (by simp[Ev.l]) (by rw[<-aI.1 hm];exact hg)),o1.mono (λg hg _=>by rw[aI.1 hg];exact fK ..)⟩)
  have x1:=H1.o.2.1.s.ab (i:=0) rfl;have x2:=H1.o.2.1.t.ab (i:=0) rfl;have x3:=H1.o.2.1.f.ab (i:=0) rfl;obtain⟨R,hR⟩:∃R,gv step fr az d q seen s p=R:=⟨_,rfl⟩;rw[hR];have HR:=xh hR;have HD:=xh hD;have HVF:=xh hvF;have HV:=xh V;clear h hv hI hD hvF hsB hR o1 V;unfold tp bu at *;unfold Ev.eQ
  rw[show(#[Value.int .i64 p,.int .i64 (d:Nat)]++ #[Value.pointer (some ⟨v.sB,0,none⟩),.pointer (some ⟨v.tB,0,none⟩),.pointer (some ⟨v.fB,0,none⟩),.pointer (some ⟨v.oB,0,none⟩),.pointer (some ⟨v.dB,0,none⟩),.pointer (some ⟨v.kB,0,none⟩)]:Array Value)= #[Value.int .i64 p,.int .i64 (d:Nat),Value.pointer (some ⟨v.sB,0,none⟩),.pointer (some ⟨v.tB,0,none⟩),.pointer (some ⟨v.fB,0,none⟩),.pointer (some ⟨v.oB,0,none⟩),.pointer (some ⟨v.dB,0,none⟩),.pointer (some ⟨v.kB,0,none⟩)]from rfl]
  by_cases hd0:d=0
  .subst hd0;have bG:=HR.o;unfold gv at bG;subst bG;go_enter func109,ntmps109;go_wp2_with fail;go_ret2;exact aP ⟨G,H1.o.1.le (by show Kz+seen<=Kz+(seen+1);omega),H1.o.2.1,H1.o.2.2.1,H1.o.2.2.2,λ_ h=> .inl h,by have:=hmes;show iK s<=57*(seen+1);omega,by show seen+1<=513;omega,λh=>absurd h (by show ¬((14:Int)=0);decide)⟩
  .obtain⟨d',rfl⟩:∃d',d=d'+1:=⟨d-1,by omega⟩;have bG:=HR.o;unfold gv at bG;have hdI:¬((d':Int)+1=0):=by omega
   by_cases hs5:512<seen+1
   .rw[if_pos hs5]at bG;subst bG;have Ta:(512:Int)<(seen:Int)+1:=by omega
    go_enter func109,ntmps109;go_wp2_with fail;go_ret2;exact aP ⟨G,H1.o.1.le (by show Kz+seen<=Kz+(seen+1);omega),H1.o.2.1,H1.o.2.2.1,H1.o.2.2.2,λ_ h=> .inl h,by have:=hmes;show iK s<=57*(seen+1);omega,by show seen+1<=513;omega,λh=>absurd h (by show ¬((14:Int)=0);decide)⟩
   .rw[if_neg hs5]at bG;have Ta:¬((512:Int)<(seen:Int)+1):=by omega
    have nO:=ru (q:=q) (p:=p);have hlen:=kK q p;have fj:=xh bG;have K1:=xh (KR.o w1 H1.o.1);clear bG;generalize q.bh p=r at *;obtain⟨q1,leaf,l,er⟩:=r;dsimp only at *;go_enter func109,ntmps109;go_wp2_with fail;refine K1.o.mono ?_;rintro e w2 ⟨A,c,rfl,S2,f2,P2,o2⟩;have fi:=ae (Below.refl w2.heap.size w2) (.cells #[.bool leaf,.slice A l.length c] 118);obtain⟨lH,Q4⟩:∃lH,w2.heap.size=lH:=⟨_,rfl⟩;have HB12:=xh Q4
    have BN:=aF.new w2 118 #[.bool leaf,.slice A l.length c];rw[Q4]at BN;have H3:=xh (show LW w (w2.alloc (.cells #[.bool leaf,.slice A l.length c] 118)) v tb I F G n Kz fr az fn eQ iK Inv q1 (seen+1) (57*seen) s G leaf A c lH l from
     ⟨(H1.o.1.next o2 P2).below fi,(H1.o.2.1.only o2 (λg hg=>(HVF.o g hg).1)).below fi,HV.o.pw _ _ _ _ [] (HV.o.pw _ _ _ _ F H1.o.2.2.1 o2 (λg hg hF=>HD.o g (by simp[hF]) hg)) (.ai fi) (by simp),(H1.o.2.2.2.aL o2 (λg hg _=>by simp[hg])).trans (.ai fi),λ_ h=> .inl h,hmes,S2.below fi,BN,
      λg hg hG=>by
       have dP:=HV.o.lt _ _ _ H1.o.2.2.1 g hG;have h12:=o2.size;simp only[aj,aB]at hg
       rcases hg with e|hg|hg|e|hg
       .exact HD.o g (by simp[e]) hG
       .exact HD.o g (by simp[hg]) hG
       .exact HD.o g (by simp[hg]) hG
       .omega
       .have:=f2 g hg;omega,λg hg=>by
       have h12:=o2.size;have R8:=H1.o.2.2.2.size;have JB:w1.heap.size<=g:=by
        rcases aj.1 hg with e|hg
        .omega
        .exact f2 g hg
       refine⟨λhF=>?_,λe=>?_,by omega⟩
       .have:=H1.o.1.lt g (by simp[hF]);omega
       .have:=H1.o.2.1.s.lt;omega,HVF.o⟩)
    clear S2 f2 P2 o2 fi BN x0 x1 x2 x3 xz
    by_cases he:er=0
    .subst he;have HM:=xh (nO rfl);have bG:=fj.o;rw[if_neg (show ¬((0:Int)≠0) by simp)]at bG
     cases leaf
     .rw[if_neg (show ¬(false=true) by simp)]at bG;have fj:=xh bG;have HL:=xh hlen;have KB:=xh (Nd.AK false A l.length c l fr (Nd.aS.aD H3.o.s).2 (by omega) HM.o);unfold bu at KB;have y0:=H3.o.b.ab (i:=0) rfl;have y1:=H3.o.b.ab (i:=1) rfl;have y3:=H3.o.e.f.ab (i:=0) rfl;have hfs:bA l fr<=l.length:=by
       rcases yt l.length with h0|h0
       .have:l=[]:=Ek.1 h0;subst this;exact qP (by unfold bA aY;split<;>rfl)
       .exact Nat.le_of_lt (wB (λe=>by rw[e]at h0;simp at h0) fr)
      generalize bA l fr=fs at *;clear bG;go_wp2_with fail;refine KB.o.mono ?_;rintro e w4 ⟨rfl,jk⟩;have H4:=xh (H3.o.below HV.o jk);clear y0 y1 y3 jk;have y0:=H4.o.b.ab (i:=0) rfl;have y1:=H4.o.b.ab (i:=1) rfl;have hs4:IntKind.i64.wrap (d':Int)=(d':Int):=IntWalk.i64_in _ (by omega);have hs6:IntKind.i64.wrap ((d':Int)+1-1)=(d':Int):=by rw[show(d':Int)+1-1=(d':Int) by omega];exact hs4
      go_wp2_with fail
      go_loopw [45] (λiv wr=> ∃(i:Nat) (qi:QS) (sn:Nat) (si:σ) (Gi:List Nat),i<=l.length/\iv=.int .i64 (i:Nat)/\sn<=512/\Hid (iu (gv step fr az d') step fr az false fs i (l.drop i) qi sn si=R)/\Hid (LW w wr v tb I F G n Kz fr az fn eQ iK Inv qi sn (57*sn) si Gi false A c lH l)) (λiv _=>l.length-(intOf iv).toNat)
      case atStart=>exact⟨0,q1,seen+1,s,G,bf _,rfl,by omega,fj,xh {H4.o with m:=by have:=H4.o.m;omega}⟩
      case round=>
       clear y0 y1;obtain⟨i,qi,sn,si,Gi,hi,rfl,Qm,HE,HW⟩:=hrel
       by_cases ME:i<l.length
       .skip
        have hilI:(i:Int)<(l.length:Int):=by omega
        obtain⟨x,hx⟩:∃x,l[i]?=some x:=⟨_,aG ME⟩;have hE:=HE.o;rw[nZ ME,show l[i]=x from by have:=aG ME;rw[hx]at this;injection this with h;exact h.symm]at hE;unfold iu at hE;have hxk:x.key.size<=32:=(rz HM.o x (ay hx)).1;have SL:=HW.o.s;obtain⟨ad,oZ,eP⟩:=(Nd.aS.aD SL).2.2 i x hx;obtain⟨ga,ca,r7,xu,_⟩:=SL.form (by omega) (by omega);injection xu with e1 Q6 e3
        clear Q6;subst e1 e3;injection oZ with oZ
        subst oZ;rw[Nd.fZ,bl]at eP;have fi:=ae (Below.refl wr.heap.size wr) (.cells #[.string x.key,.string x.val,.int .i64 x.aQ] 111);have HA:=xh fi;have BX:=aF.new wr 111 #[.string x.key,.string x.val,.int .i64 x.aQ];have u0:=eP.c0;have u1:=eP.c1;have u2:=eP.c2;dsimp only at u1 u2;have z0:=BX.ab (i:=0) rfl;have z1:=BX.ab (i:=1) rfl;have z2:=BX.ab (i:=2) rfl;have pC:=xh (HW.o.below HV.o fi)
        have n0:=pC.o.b.ab (i:=0) rfl;have m3:=pC.o.e.f.ab (i:=0) rfl;have m4:=pC.o.e.o.ab (i:=0) rfl;have m5:=pC.o.e.d.ab (i:=0) rfl;have m6:=pC.o.e.k.ab (i:=0) rfl;have Cw:¬((i:Int)<0):=by omega
        have HE:=xh hE;clear eP SL BX hE hx fi;unfold Ev.eQ at m6
        by_cases rY:i<fs
        .have hE:=HE.o;rw[if_pos (show mG fr false fs i x=true from by unfold mG;simp[rY])]at hE;have HE:=xh hE;have hbI:(i:Int)<(fs:Int):=by omega
         clear hE rY;go_wp2_with fail;go_roundw
         case rel=>exact⟨i+1,qi,sn,si,Gi,by omega,rfl,Qm,HE,pC⟩
         case measure=>simp[intOf];omega
        .have hbI:¬((i:Int)<(fs:Int)):=by omega
         have hE:=HE.o;rw[if_neg (show ¬mG fr false fs i x=true from by unfold mG;simp[rY])]at hE;have HE:=xh hE;clear rY hE
         by_cases ht:(az.toList==[])=true
         have hE:=HE.o;rw[if_neg (show ¬lI az false i x=true from by unfold lI;rw[ht];simp),if_neg (show ¬(false=true) by simp)]at hE;have ht1:az.toList=[]:=by simpa using ht
         rotate_left;have ht2:(az.toList==[])=false:=by simpa using ht
         have ht1:¬az.toList=[]:=by simpa using ht
         clear ht
         by_cases Wu:Op.bytesLess x.key.toList az.toList=true
         have hE:=HE.o;rw[if_neg (show ¬lI az false i x=true from by unfold lI;rw[Wu];simp),if_neg (show ¬(false=true) by simp)]at hE;rotate_left;have gr:Op.bytesLess x.key.toList az.toList=false:=by simpa using Wu
         by_cases hip:0<i
         .have hE:=HE.o;rw[if_pos (show lI az false i x=true from by unfold lI;rw[gr,ht2];simp[hip])]at hE;subst hE;have hipI:(0:Int)<(i:Int):=by omega
          clear Wu;go_wp2_with fail;go_ret2;exact aP (pC.o.wp (Nat.le_refl _) (by omega) _ _ (λ_=>Qm))
         have hE:=HE.o;rw[if_neg (show ¬lI az false i x=true from by unfold lI;rw[gr,ht2];simp[hip]),if_neg (show ¬(false=true) by simp)]at hE;have hipI:¬((0:Int)<(i:Int)):=by omega
         clear Wu
         all_goals
          have HE:=xh hE;clear hE;have hmm:=pC.o.m;have KI:=IH.o d' rfl _ qi sn si Gi x.aQ Qm pC.o.t pC.o.e pC.o.i (λg hg=>pC.o.d g (by simp only[aj,aB]at hg ⊢;rcases hg with e|e|e<;>simp[e])) pC.o.y hmm;unfold Ev.eQ at KI
          rw[show(#[Value.int .i64 x.aQ,.int .i64 (d':Nat)]++ #[Value.pointer (some ⟨v.sB,0,none⟩),.pointer (some ⟨v.tB,0,none⟩),.pointer (some ⟨v.fB,0,none⟩),.pointer (some ⟨v.oB,0,none⟩),.pointer (some ⟨v.dB,0,none⟩),.pointer (some ⟨v.kB,0,none⟩)]:Array Value)= #[Value.int .i64 x.aQ,.int .i64 (d':Nat),Value.pointer (some ⟨v.sB,0,none⟩),.pointer (some ⟨v.tB,0,none⟩),.pointer (some ⟨v.fB,0,none⟩),.pointer (some ⟨v.oB,0,none⟩),.pointer (some ⟨v.dB,0,none⟩),.pointer (some ⟨v.kB,0,none⟩)]from rfl]at KI
          generalize gv step fr az d' qi sn si x.aQ=RW at *;obtain⟨qw,sw,ssw,mw,ew⟩:=RW;dsimp only at *;have KI:=xh KI;clear hmm;go_wp2_with fail;refine KI.o.mono ?_;rintro e w7 ⟨rfl,hWP⟩;obtain⟨G',L7,IV,VQ⟩:=pC.o.deep hWP;have H7:=xh L7;have H8:=xh (And.intro IV VQ);clear L7 IV VQ hWP u0 u1 u2 z0 z1 z2 n0 m3 m4 m5 m6;have hE:=HE.o
          cases mw
          .rw[if_neg (by simp)]at hE;subst hE;go_wp2_with fail;go_ret2;exact aP (H7.o.wp (Nat.le_refl _) H8.o.1 _ _ H8.o.2)
          .by_cases hew:ew=0
           .subst hew;rw[if_pos ⟨rfl,rfl⟩]at hE;have HE:=xh hE;clear hE;go_wp2_with fail;go_roundw
            case rel=>exact⟨i+1,qw,sw,ssw,G',by omega,rfl,H8.o.2 (by trivial),HE,H7⟩
            case measure=>simp[intOf];omega
           .rw[if_neg (λh=>hew h.2)]at hE;subst hE;have hq:(ew != 0)=true:=by rw[bne_iff_ne];exact hew
            have kh:(ew==0)=false:=by rw[beq_eq_false_iff_ne];exact hew
            go_wp2_with fail;go_ret2;exact aP (H7.o.wp (Nat.le_refl _) H8.o.1 _ _ H8.o.2)
       .obtain rfl:i=l.length:=by omega
        have hE:=HE.o;rw[yU]at hE;unfold iu at hE;subst hE;go_wp2_with fail;go_ret2;exact aP (HW.o.wp (Nat.le_refl _) (by omega) _ _ (λ_=>Qm))
     .rw[if_pos rfl]at bG;have fj:=xh bG;have y0:=H3.o.b.ab (i:=0) rfl;have y1:=H3.o.b.ab (i:=1) rfl;have HL:=xh hlen;clear bG;go_wp2_with fail
      go_loopw [45] (λiv wr=> ∃(i:Nat) (si:σ) (Gi:List Nat),i<=l.length/\iv=.int .i64 (i:Nat)/\Hid (iu (gv step fr az d') step fr az true 0 i (l.drop i) q1 (seen+1) si=R)/\Hid (LW w wr v tb I F G n Kz fr az fn eQ iK Inv q1 (seen+1) (57*seen+i) si Gi true A c lH l)) (λiv _=>l.length-(intOf iv).toNat)
      case atStart=>exact⟨0,s,G,bf _,rfl,fj,H3⟩
      case round=>
       clear y0 y1;obtain⟨i,si,Gi,hi,rfl,HE,HW⟩:=hrel
       by_cases ME:i<l.length
       .skip
        have hilI:(i:Int)<(l.length:Int):=by omega
        obtain⟨x,hx⟩:∃x,l[i]?=some x:=⟨_,aG ME⟩;have hE:=HE.o;rw[nZ ME,show l[i]=x from by have:=aG ME;rw[hx]at this;injection this with h;exact h.symm]at hE;unfold iu at hE;have hxk:x.key.size<=32:=(rz HM.o x (ay hx)).1;have SL:=HW.o.s;obtain⟨ad,oZ,eP⟩:=(Nd.aS.aD SL).2.2 i x hx;obtain⟨ga,ca,r7,xu,_⟩:=SL.form (by omega) (by omega);injection xu with e1 Q6 e3
        clear Q6;subst e1 e3;injection oZ with oZ
        subst oZ;rw[Nd.fZ,bl]at eP;have fi:=ae (Below.refl wr.heap.size wr) (.cells #[.string x.key,.string x.val,.int .i64 x.aQ] 111);have HA:=xh fi;have BX:=aF.new wr 111 #[.string x.key,.string x.val,.int .i64 x.aQ];have u0:=eP.c0;have u1:=eP.c1;have u2:=eP.c2;dsimp only at u1 u2;have z0:=BX.ab (i:=0) rfl;have z1:=BX.ab (i:=1) rfl;have z2:=BX.ab (i:=2) rfl;have pC:=xh (HW.o.below HV.o fi)
        have n0:=pC.o.b.ab (i:=0) rfl;have m3:=pC.o.e.f.ab (i:=0) rfl;have m4:=pC.o.e.o.ab (i:=0) rfl;have m5:=pC.o.e.d.ab (i:=0) rfl;have m6:=pC.o.e.k.ab (i:=0) rfl;have Cw:¬((i:Int)<0):=by omega
        have HE:=xh hE;clear eP SL BX hE hx fi
        by_cases rY:Op.bytesLess x.key.toList fr.toList=true
        .have hE:=HE.o;rw[if_pos (show mG fr true 0 i x=true from by unfold mG;rw[rY];simp)]at hE;have HE:=xh hE;have HW:=xh (HW.o.below HV.o HA.o);clear hE;go_wp2_with fail;go_roundw
         case rel=>exact⟨i+1,si,Gi,by omega,rfl,HE,xh {HW.o with m:=by have:=HW.o.m;omega}⟩
         case measure=>simp[intOf];omega
        .have dn:Op.bytesLess x.key.toList fr.toList=false:=by simpa using rY
         have hE:=HE.o;rw[if_neg (show ¬mG fr true 0 i x=true from by unfold mG;rw[dn];simp)]at hE;have HE:=xh hE;clear rY hE
         by_cases ht:(az.toList==[])=true
         have hE:=HE.o;rw[if_neg (show ¬lI az true i x=true from by unfold lI;rw[ht];simp)]at hE;have ht1:az.toList=[]:=by simpa using ht
         rotate_left;have ht2:(az.toList==[])=false:=by simpa using ht
         have ht1:¬az.toList=[]:=by simpa using ht
         clear ht
         by_cases Wu:Op.bytesLess x.key.toList az.toList=true
         have hE:=HE.o;rw[if_neg (show ¬lI az true i x=true from by unfold lI;rw[Wu];simp)]at hE;rotate_left
         .have gr:Op.bytesLess x.key.toList az.toList=false:=by simpa using Wu
          have hE:=HE.o;rw[if_pos (show lI az true i x=true from by unfold lI;rw[gr,ht2];simp)]at hE;subst hE;have HW:=xh (HW.o.below HV.o HA.o);clear Wu;go_wp2_with fail;go_ret2;exact aP (HW.o.wp (by omega) (by omega) _ _ (λ_=>by omega))
         all_goals
          have HE:=xh hE;clear hE;have KC:=HV.o.call _ si Gi x pC.o.i (by have:=pC.o.m;omega) hxk;have h1s:=HV.o.one x si;have hE:=HE.o;rw[if_pos (show(true=true)from rfl)]at hE;generalize step x si=RS at *;obtain⟨s2,b2⟩:=RS;dsimp only at *;have KC:=xh KC;have HS:=xh h1s;have HE:=xh hE;unfold E.agg at KC;clear hE h1s;go_wp2_with fail;rw[HV.o.ent,Oper.upon_enter];refine KC.o.mono ?_;rintro e w7 ⟨rfl,G',hI7,o7,f7⟩
          have H7:=xh (pC.o.vis hI7 o7 f7 (bd':=57*seen+(i+1)) (by have:=pC.o.m;have:=HS.o;omega));clear hI7 o7 f7 u0 u1 u2 z0 z1 z2 n0 m3 m4 m5 m6;have hE:=HE.o
          cases b2
          .rw[if_neg (show ¬(false=true) by simp)]at hE;subst hE;go_wp2_with fail;go_ret2;exact aP (H7.o.wp (by omega) (by omega) _ _ (λ_=>by omega))
          .rw[if_pos (show(true=true)from rfl)]at hE;have HE:=xh hE;clear hE;go_wp2_with fail;go_roundw
           case rel=>exact⟨i+1,s2,G',by omega,rfl,HE,H7⟩
           case measure=>simp[intOf];omega
       .obtain rfl:i=l.length:=by omega
        have hE:=HE.o;rw[yU]at hE;unfold iu at hE;subst hE;go_wp2_with fail;go_ret2;exact aP (HW.o.wp (by omega) (by omega) _ _ (λ_=>by omega))
    .have bG:=fj.o;rw[if_pos he]at bG;subst bG;have hq:(er != 0)=true:=by rw[bne_iff_ne];exact he
     have kh:(er==0)=false:=by rw[beq_eq_false_iff_ne];exact he
     go_wp2_with fail;go_ret2;exact aP (H3.o.wp (by omega) (by omega) _ _ (λh=>absurd h he))
theorem DO{σ:Type}{step:E->σ->σ×Bool}{iK:σ->Nat}{Inv:World->σ->List Nat->Prop}(V:Vis fn eQ step iK Inv){v:Ev}(fr az:ByteArray)(VK:Kz<=999999990000):∀d,d<=16->MY fn eQ step iK Inv v tb I F n Kz fr az d
 |0,h=>Jl V fr az VK 0 h (λd' e=>absurd e (by omega))
 |d+1,h=>Jl V fr az VK (d+1) h (λd' e=>by
  obtain rfl:d'=d:=by omega
  exact DO V fr az VK d' (by omega))
theorem wP{σ:Type}{fn:Nat}{eQ:Array Value}{step:E->σ->σ×Bool}{iK:σ->Nat}{Inv:World->σ->List Nat->Prop}(V:Vis fn eQ step iK Inv){w:World}{tb:Nat}{I:Ix}{F G:List Nat}{q:QS}{n K:Nat}{s:σ}(h:TQ w tb I F q n K)(hK:K<=999999990000)(fr az:ByteArray)(hI:Inv w s G)(hD:∀g∈tb::F,g∉G)(hm:iK s=0):
  Calls prog 60 #[tp tb,.string fr,.string az,.func (.func fn) #[] eQ] w λe w'=>e=.returned (.int .i64 (q.et step fr az s).e)/\∃G',TQ w' tb I F (q.et step fr az s).q n (K+513)/\Inv w' (q.et step fr az s).s G'/\ag (F++G) w w'/\(∀g∈G',g∈G\/w.heap.size<=g)/\iK (q.et step fr az s).s<=57*513/\(∀g∈tb::F,g∉G'):=by
 have hmf:∀(fn:Fn) (first cap:Array Value) (w:World),(Instr.makeFunc fn first cap).run prog w=.ok (.func fn first cap) w:=λ_ _ _ _=>rfl;unfold tp at *;obtain⟨z,hz⟩:∃z,w.heap.size=z:=⟨_,rfl⟩;have W0:=Below.refl w.heap.size w;obtain⟨w1,Jm⟩:∃w1,w.alloc (.cells #[.pointer (some ⟨tb,0,none⟩)] 35)=w1:=⟨_,rfl⟩;have s1:w1.heap.size=z+1:=by rw[<-Jm,lR,hz]
 have Jn:aF w1 (z) 35 #[.pointer (some ⟨tb,0,none⟩)]:=by rw[<-Jm,<-hz];exact aF.new _ _ _
 have W1:=aC W0 (ae (Below.refl w.heap.size w) (.cells #[.pointer (some ⟨tb,0,none⟩)] 35));rw[Jm]at W1;obtain⟨w2,ES⟩:∃w2,w1.alloc (.cells #[.string fr] 9)=w2:=⟨_,rfl⟩;have s2:w2.heap.size=z+1+1:=by rw[<-ES,lR,s1]
 have Jo:aF w2 (z+1) 9 #[.string fr]:=by rw[<-ES,<-s1];exact aF.new _ _ _
 have Bp:=Jn.alloc (.cells #[.string fr] 9);rw[ES]at Bp;have W2:=aC W1 (ae (Below.refl w1.heap.size w1) (.cells #[.string fr] 9));rw[ES]at W2;obtain⟨w3,GS⟩:∃w3,w2.alloc (.cells #[.string az] 9)=w3:=⟨_,rfl⟩;have s3:w3.heap.size=z+1+1+1:=by rw[<-GS,lR,s2]
 have MZ:aF w3 (z+1+1) 9 #[.string az]:=by rw[<-GS,<-s2];exact aF.new _ _ _
 have M0:=Bp.alloc (.cells #[.string az] 9);rw[GS]at M0;have wQ:=Jo.alloc (.cells #[.string az] 9);rw[GS]at wQ;have W3:=aC W2 (ae (Below.refl w2.heap.size w2) (.cells #[.string az] 9));rw[GS]at W3;obtain⟨w4,UU⟩:∃w4,w3.alloc (.cells #[.func (.func fn) #[] eQ] 112)=w4:=⟨_,rfl⟩;have s4:w4.heap.size=z+1+1+1+1:=by rw[<-UU,lR,s3]
 have c3_4:aF w4 (z+1+1+1) 112 #[.func (.func fn) #[] eQ]:=by rw[<-UU,<-s3];exact aF.new _ _ _
 have c0_4:=M0.alloc (.cells #[.func (.func fn) #[] eQ] 112);rw[UU]at c0_4;have c1_4:=wQ.alloc (.cells #[.func (.func fn) #[] eQ] 112);rw[UU]at c1_4;have c2_4:=MZ.alloc (.cells #[.func (.func fn) #[] eQ] 112);rw[UU]at c2_4;have W4:=aC W3 (ae (Below.refl w3.heap.size w3) (.cells #[.func (.func fn) #[] eQ] 112));rw[UU]at W4;obtain⟨w5,J8⟩:∃w5,w4.alloc (.cells #[.int .i64 0] 3)=w5:=⟨_,rfl⟩;have s5:w5.heap.size=z+1+1+1+1+1:=by rw[<-J8,lR,s4]
 have c4_5:aF w5 (z+1+1+1+1) 3 #[.int .i64 (0:Nat)]:=by rw[<-J8,<-s4];exact aF.new _ _ _
 have c0_5:=c0_4.alloc (.cells #[.int .i64 0] 3);rw[J8]at c0_5;have c1_5:=c1_4.alloc (.cells #[.int .i64 0] 3);rw[J8]at c1_5;have c2_5:=c2_4.alloc (.cells #[.int .i64 0] 3);rw[J8]at c2_5;have c3_5:=c3_4.alloc (.cells #[.int .i64 0] 3);rw[J8]at c3_5;have W5:=aC W4 (ae (Below.refl w4.heap.size w4) (.cells #[.int .i64 0] 3));rw[J8]at W5;obtain⟨w6,Gu⟩:∃w6,w5.alloc (.cells #[.nilFunc] 191)=w6:=⟨_,rfl⟩;have s6:w6.heap.size=z+1+1+1+1+1+1:=by rw[<-Gu,lR,s5]
 have Wv:aF w6 (z+1+1+1+1+1) 191 #[.nilFunc]:=by rw[<-Gu,<-s5];exact aF.new _ _ _
 have c0_6:=c0_5.alloc (.cells #[.nilFunc] 191);rw[Gu]at c0_6;have c1_6:=c1_5.alloc (.cells #[.nilFunc] 191);rw[Gu]at c1_6;have c2_6:=c2_5.alloc (.cells #[.nilFunc] 191);rw[Gu]at c2_6;have c3_6:=c3_5.alloc (.cells #[.nilFunc] 191);rw[Gu]at c3_6;have c4_6:=c4_5.alloc (.cells #[.nilFunc] 191);rw[Gu]at c4_6;have W6:=aC W5 (ae (Below.refl w5.heap.size w5) (.cells #[.nilFunc] 191));rw[Gu]at W6;obtain⟨v,hv⟩:∃v:Ev,v=⟨z+1+1+1+1,z,z+1,z+1+1,z+1+1+1,z+1+1+1+1+1⟩:=⟨_,rfl⟩
 have x0:=c0_4.ab (i:=0) rfl;have x5:w6.cell? ⟨z+1+1+1+1+1,0,none⟩=some .nilFunc:=Wv.ab (i:=0) rfl;have f5:=Wv.frozen 0 (by simp);obtain⟨w7,hw7⟩:∃w7,w6.setCell ⟨z+1+1+1+1+1,0,none⟩ (.func (.func 109) #[] #[.pointer (some ⟨z+1+1+1+1,0,none⟩),.pointer (some ⟨z,0,none⟩),.pointer (some ⟨z+1,0,none⟩),.pointer (some ⟨z+1+1,0,none⟩),.pointer (some ⟨z+1+1+1,0,none⟩),.pointer (some ⟨z+1+1+1+1+1,0,none⟩)])=w7:=⟨_,rfl⟩
 have x7:w7.cell? ⟨z+1+1+1+1+1,0,none⟩=some (.func (.func 109) #[] #[.pointer (some ⟨z+1+1+1+1,0,none⟩),.pointer (some ⟨z,0,none⟩),.pointer (some ⟨z+1,0,none⟩),.pointer (some ⟨z+1+1,0,none⟩),.pointer (some ⟨z+1+1+1,0,none⟩),.pointer (some ⟨z+1+1+1+1+1,0,none⟩)]):=by rw[<-hw7];exact(Wv.bU 0 _).ab (i:=0) rfl
 have o7:ag [z+1+1+1+1+1] w6 w7:=by rw[<-hw7];exact(ag.refl _ _).setCell (by simp) _
 have E7:rR w7 v tb fr az fn eQ 0:=by
  rw[hv]at *;exact⟨c4_6.only o7 (by simp<;>omega),c0_6.only o7 (by simp<;>omega),c1_6.only o7 (by simp<;>omega),c2_6.only o7 (by simp<;>omega),c3_6.only o7 (by simp<;>omega),by rw[<-hw7];exact Wv.bU 0 _⟩
 have T7:TQ w7 tb I F q n (K+0):=(h.below W6).only o7 (λg hg hm=>by have:=h.lt g hg;rw[aI.1 hm]at this;omega);have I7:Inv w7 s G:=V.pw _ _ _ _ _ (V.pw _ _ _ _ [] hI (.ai W6) (by simp)) o7 (λg hg hm=>by have:=V.lt _ _ _ hI g hg;rw[aI.1 hm]at this;omega);have hvl:∀g∈v.l,z<=g:=λg hg=>by rw[hv]at hg;simp[Ev.l]at hg;omega
 have KW:=DO V (v:=v) (tb:=tb) (I:=I) (F:=F) (n:=n) fr az hK 16 (Nat.le_refl _) w7 q 0 s G 0 (by omega) T7 E7 I7 (λg hg hG=>by
  simp only[aj,aB]at hg
  rcases hg with e|hg|hg
  .exact hD g (by simp[e]) hG
  .have:=hvl g hg;have:=V.lt _ _ _ hI g hG;omega
  .exact hD g (by simp[hg]) hG) (λg hg=>⟨λhF=>by have:=hvl g hg;have:=h.lt g (by simp[hF]);omega,λe=>by have:=hvl g hg;have:=h.lt g (by simp[e]);omega⟩) (by omega)
 have HW6:=xh W6;have KW:Calls prog 109 #[Value.int .i64 0,.int .i64 16,.pointer (some ⟨z+1+1+1+1,0,none⟩),.pointer (some ⟨z,0,none⟩),.pointer (some ⟨z+1,0,none⟩),.pointer (some ⟨z+1+1,0,none⟩),.pointer (some ⟨z+1+1+1,0,none⟩),.pointer (some ⟨z+1+1+1+1+1,0,none⟩)] w7 (λe w'=>e=.returned (.tuple #[.bool (q.et step fr az s).more,.int .i64 (q.et step fr az s).e])/\WP w7 w' v tb I F G n K fr az fn eQ iK Inv (q.et step fr az s)):=by rw[hv]at KW ⊢;exact KW
 have KW:=xh KW;have HV:=xh hvl;have hv:=xh hv;have o7:=xh o7;have pQ:=xh (λg hg=>h.lt g hg);have HZ:=xh hz;clear Jn Bp M0 c0_5 c0_6 Jo wQ c1_4 c1_5 c1_6 MZ c2_4 c2_5 c2_6 c3_4 c3_5 c3_6 c4_5 c4_6 Wv W0 W1 W2 W3 W4 W5 W6 s1 s2 s3 s4 s5 s6 T7 I7 hvl;subst Jm ES GS UU J8;go_enter func60,ntmps60;go_wp2_with fail;refine KW.o.mono ?_;rintro e w8 ⟨rfl,G',a1,a2,a3,a4,a5,a6,a7,a8⟩
 have H8:=xh (And.intro a1 (And.intro a3 (And.intro a4 (And.intro a5 (And.intro a6 a7)))));clear a1 a2 a3 a4 a5 a6 a7 a8;go_wp2_with fail;go_ret;have hD:=hD;obtain⟨b1,b3,b4,b5,b6,b7⟩:=H8.o;have o6:=ag.ai (S:=F++G) HW6.o;have o8:=o6.aL o7.o (λx hx dP=>by rw[aI.1 hx]at dP;have:=HZ.o;omega);have o9:=o8.aL b4 (λx hx dP=>by
  rcases aj.1 hx with rfl|hx
  .have:=HV.o v.sB (by simp[Ev.l]);have:=HZ.o;omega
  .exact hx)
 exact⟨rfl,G',b1.le (by omega),b3,o9,λg hg=>(b5 g hg).imp id (λhl=>aq o8.size hl),by omega,λg hg hG=>by
  rcases b5 g hG with h1|h1
  .exact hD g hg h1
  .have:=pQ.o g hg;have:=o8.size;omega⟩
open Nd (E aD bu aN aW dL bA aY cq)
attribute [local go_sem ↓] bw
variable{lb nb fb:Nat}{n:Int}{w w':World}{s:List E}{G S:List Nat}
theorem wR{P:Program}{f:FuncId}{fn:Func}(hf:P.funcs[f]?=some fn)(hname:(fn.name== "runtime.NumGoroutine")=false)(hb:fn.body.isNone=false)(args:Array Value)(w:World):Sem.run P (callFunc f args) w=.ok (.enter f args) w:=by
 have h1:fn.name≠ "runtime.NumGoroutine" :=by simpa using hname
 have h2:fn.body≠none:=λh=>by rw[h]at hb;cases hb
 simp[callFunc,hf,h1,h2]
def lp(b:Nat):Value:= .pointer (some ⟨b,0,none⟩)
def mL(n:Int)(x:E)(s:List E):List E×Bool:=((if(s.length:Int)<n then s++[x]else s),decide (((if(s.length:Int)<n then s++[x]else s).length:Int)<n))
def qE(lb nb:Nat)(n:Int)(w:World)(s:List E)(G:List Nat):Prop:=
 ∃A c,G=lb::nb::ah (.slice A s.length c)/\aF w lb 108 #[.slice A s.length c]/\aF w nb 3 #[.int .i64 n]/\aS w 111 3 (.slice A s.length c) s.length (aD s)/\lb≠nb
theorem qE.lt(h:qE lb nb n w s G):∀g∈G,g<w.heap.size:=λg hg=>by
 obtain⟨A,c,rfl,h1,h2,h3,h4⟩:=h
 rcases aj.1 hg with rfl|hg
 .exact h1.lt
 .rcases aj.1 hg with rfl|hg
  .exact h2.lt
  .exact h3.lt g hg
theorem qE.only(h:qE lb nb n w s G)(o:ag S w w')(hs:∀g∈G,g∉S):qE lb nb n w' s G:=by
 obtain⟨A,c,rfl,h1,h2,h3,h4⟩:=h;exact⟨A,c,rfl,h1.only o (hs _ (by simp)),h2.only o (hs _ (by simp)),h3.only o (λg hg=>hs g (by simp[hg])),h4⟩
theorem M6:(prog.info? 111).map (λi=>(i.zero,i.size,i.bytes))=some (some (.agg #[.string .empty,.string .empty,.int .i64 0]),3,40):=by kernel_rfl
theorem Rx(x:E)(h:qE lb nb n w s G)(hs:s.length<=100000):
  Calls prog 61 #[x.agg,lp lb,lp nb] w λe w'=>e=.returned (.bool (mL n x s).2)/\∃G',qE lb nb n w' (mL n x s).1 G'/\ag G w w'/\∀g∈G',g∈G\/w.heap.size<=g:=by
 obtain⟨A,c,rfl,B1,B2,S1,fc⟩:=h;obtain⟨z,hz⟩:∃z,w.heap.size=z:=⟨_,rfl⟩;obtain⟨k,hk⟩:∃k,s.length=k:=⟨_,rfl⟩;rw[hk]at hs B1 S1 ⊢;have hb:=ae (Below.refl w.heap.size w) (.cells #[.string x.key,.string x.val,.int .i64 x.aQ] 111);have l1:=B1.lt;have l2:=B2.lt;have l3:=S1.lt;have C1:=B1.below hb l1;have C2:=B2.below hb l2;have CS:=S1.below hb;have B3:=aF.new w 111 #[.string x.key,.string x.val,.int .i64 x.aQ];have uS:=dk CS C1 (by decide);have Qt:=dk CS C2 (by decide)
 have c1:=C1.ab (i:=0) rfl;have c2:=C2.ab (i:=0) rfl;have d0:=B3.ab (i:=0) rfl;have d1:=B3.ab (i:=1) rfl;have d2:=B3.ab (i:=2) rfl;have HB:=xh hb;unfold mL;rw[hk]
 by_cases hn:(k:Int)<n
 .rw[if_pos hn];obtain⟨v',w3,ea,S3,oa,fa⟩:=Nd.Aw CS 108 108 _ 40 underlying108 M6 rfl x (by unfold maxLen;omega) (by omega);have f1:=(C1.only oa uS).frozen 0 (by simp);have x1:=(C1.only oa uS).ab (i:=0) rfl;have y2:=(C2.only oa Qt).ab (i:=0) rfl;have hlen:(s++[x]).length=k+1:=by simp[hk]
  obtain⟨A3,c3,Gp⟩:=ax S3;subst Gp;have eP:aD s++E.cells x=aD (s++[x]):=by rw[Nd.gH];simp[aD,E.cells]
  rw[eP]at S3;have D1:=(C1.only oa uS).bU 0 (.slice A3 (k+1) c3);have D2:=(C2.only oa Qt).aQ (p:=⟨lb,0,none⟩) (λe=>fc e.symm) (.slice A3 (k+1) c3);have D3:=S3.only (S:=[lb]) ((ag.refl _ _).setCell (by simp) _:ag [lb] w3 (w3.setCell ⟨lb,0,none⟩ (.slice A3 (k+1) c3))) (λg hg hm=>by
   rw[aI.1 hm]at hg;exact dk S3 (C1.only oa uS) (by decide) hg)
  have o3:ag (lb::nb::ah (.slice A k c)) w (w3.setCell ⟨lb,0,none⟩ (.slice A3 (k+1) c3)):=((ag.ai HB.o).aL oa (λg hg _=>by simp[hg])).setCell (by simp) _;have fr3:∀g∈lb::nb::ah (.slice A3 (k+1) c3),g∈lb::nb::ah (.slice A k c)\/w.heap.size<=g:=λg hg=>by
   rcases aj.1 hg with rfl|hg
   .exact .inl (by simp)
   .rcases aj.1 hg with rfl|hg
    .exact .inl (by simp)
    .rcases fa g hg with h|h
     .exact .inl (by simp[h])
     .exact .inr (by have:=HB.o.size;omega)
  have z1:=D1.ab (i:=0) rfl;have z2:=D2.ab (i:=0) rfl;have H9:=xh (show qE lb nb n (w3.setCell ⟨lb,0,none⟩ (.slice A3 (k+1) c3)) (s++[x]) (lb::nb::ah (.slice A3 (k+1) c3))/\ag (lb::nb::ah (.slice A k c)) w (w3.setCell ⟨lb,0,none⟩ (.slice A3 (k+1) c3))/\∀g∈lb::nb::ah (.slice A3 (k+1) c3),g∈lb::nb::ah (.slice A k c)\/w.heap.size<=g from
   ⟨⟨A3,c3,by rw[hlen],by rw[hlen];exact D1,D2,by rw[hlen];exact D3,fc⟩,o3,fr3⟩)
  have hlI:((s++[x]).length:Int)=(k:Int)+1:=by rw[hlen];omega
  have HLI:=xh hlI;rw[lR,hz]at ea;have EA:=xh ea;clear ea S3 oa fa D1 D2 D3 o3 fr3 hlen hlI eP uS Qt C1 C2 CS B3 B1 B2 S1 hb l1 l2 l3 hs hk;unfold lp E.agg at *;go_enter func61,ntmps61;go_wp2_with fail;rw[EA.o];go_wp2_with fail;go_ret;refine⟨?_,_,H9.o.1,H9.o.2.1,H9.o.2.2⟩;rw[HLI.o];rfl
 .rw[if_neg hn];have H9:=xh (show qE lb nb n (w.alloc (.cells #[.string x.key,.string x.val,.int .i64 x.aQ] 111)) s (lb::nb::ah (.slice A k c))from⟨A,c,by rw[hk],by rw[hk];exact C1,C2,by rw[hk];exact CS,fc⟩);have HK:=xh hk;have HN:=xh hn;have HS:=xh hb.size;clear uS Qt C1 C2 CS B3 B1 B2 S1 hb l1 l2 l3 hs hk;unfold lp E.agg at *;go_enter func61,ntmps61;go_wp2_with fail;go_ret
  exact⟨by rw[HK.o,decide_eq_false (Int.not_lt.2 HN.o)];first|rfl|simp,_,H9.o,.ai HB.o,λg hg=> .inl (by simpa using hg)⟩
theorem Ww(lb nb:Nat)(n:Int):Vis 61 #[lp lb,lp nb] (mL n) List.length (qE lb nb n) where
 call:=λW s G x h hs _=>Rx x h hs
 pw:=λW w' s G S h o hs=>h.only o hs
 lt:=λW s G h=>h.lt
 ent:=λargs W=>wR func61 (by kernel_rfl) (by kernel_rfl) args W
 one:=λx s=>by unfold mL;split<;>simp
def jq(x:E)(_:Option E):Option E×Bool:=(some x,true)
def optE:Option E->E
 |none=>Nd.E.zero
 |some x=>x
def Bq(lb fb:Nat)(w:World)(s:Option E)(G:List Nat):Prop:=
 G=[lb,fb]/\aF w lb 111 #[.string (optE s).key,.string (optE s).val,.int .i64 (optE s).aQ]/\aF w fb 4 #[.bool s.isSome]/\lb≠fb
theorem Bq.only{s:Option E}(h:Bq lb fb w s G)(o:ag S w w')(hs:∀g∈G,g∉S):Bq lb fb w' s G:=by
 obtain⟨rfl,h1,h2,h4⟩:=h;exact⟨rfl,h1.only o (hs _ (by simp)),h2.only o (hs _ (by simp)),h4⟩
theorem Ry{s:Option E}(x:E)(h:Bq lb fb w s G):
  Calls prog 65 #[x.agg,lp lb,lp fb] w λe w'=>e=.returned (.bool (jq x s).2)/\∃G',Bq lb fb w' (jq x s).1 G'/\ag G w w'/\∀g∈G',g∈G\/w.heap.size<=g:=by
 obtain⟨rfl,B1,B2,fc⟩:=h;obtain⟨z,hz⟩:∃z,w.heap.size=z:=⟨_,rfl⟩;have hb:=ae (Below.refl w.heap.size w) (.cells #[.string x.key,.string x.val,.int .i64 x.aQ] 111);have l1:=B1.lt;have l2:=B2.lt;have C1:=B1.below hb l1;have C2:=B2.below hb l2;have B3:=aF.new w 111 #[.string x.key,.string x.val,.int .i64 x.aQ];have d0:=B3.ab (i:=0) rfl;have d1:=B3.ab (i:=1) rfl;have d2:=B3.ab (i:=2) rfl
 obtain⟨D1,oa,y0,y1,y2,z0,z1,z2⟩:=VG (a':=x.key) (b':=x.val) (c':=x.aQ) C1;have D2:=C2.only oa (by simp;exact λe=>fc e.symm);have f2:=D2.frozen 0 (by simp);have x2:=D2.ab (i:=0) rfl;have E1:=D1.aQ (p:=⟨fb,0,none⟩) fc (.bool true);have E2:=D2.bU 0 (.bool true);have o2:=((ag.ai (S:=[lb,fb]) hb).aL oa (λg hg _=>by simp at hg;simp[hg])).setCell (p:=⟨fb,0,none⟩) (by simp) (.bool true);have H9:=xh (And.intro E1 (And.intro E2 o2));have HN:=xh fc
 clear E1 E2 o2 D1 D2 oa C1 C2 B1 B2 B3 hb l1 l2 fc;unfold lp E.agg at *;go_enter func65,ntmps65;go_wp2_with fail;go_ret;exact⟨rfl,_,⟨rfl,H9.o.1,H9.o.2.1,HN.o⟩,H9.o.2.2,λg hg=> .inl hg⟩
def seenO(s:Option E):Nat:=if s.isSome then 1 else 0
theorem Wx(lb fb:Nat):Vis 65 #[lp lb,lp fb] jq seenO (Bq lb fb) where
 call:=λW s G x h hs _=>Ry x h
 pw:=λW w' s G S h o hs=>h.only o hs
 lt:=λW s G h g hg=>by
  obtain⟨rfl,h1,h2,_⟩:=h;simp only[aj,gP,or_false]at hg
  rcases hg with rfl|rfl
  .exact h1.lt
  .exact h2.lt
 ent:=λargs W=>wR func65 (by kernel_rfl) (by kernel_rfl) args W
 one:=λx s=>by unfold jq seenO;cases s<;>simp
def fR(x:E)(s:List ByteArray):List ByteArray×Bool:=(s++[x.key],true)
def Gf(l:List ByteArray):List Value:=l.map Value.string
def qF(lb:Nat)(w:World)(s:List ByteArray)(G:List Nat):Prop:=
 ∃A c,G=lb::ah (.slice A s.length c)/\aF w lb 123 #[.slice A s.length c]/\aS w 9 1 (.slice A s.length c) s.length (Gf s)
theorem qF.only{s:List ByteArray}(h:qF lb w s G)(o:ag S w w')(hs:∀g∈G,g∉S):qF lb w' s G:=by
 obtain⟨A,c,rfl,h1,h3⟩:=h;exact⟨A,c,rfl,h1.only o (hs _ (by simp)),h3.only o (λg hg=>hs g (by simp[hg]))⟩
theorem Rz:(prog.info? 9).map (λi=>(i.zero,i.size,i.bytes))=some (some (.string .empty),1,16):=by kernel_rfl
theorem M8{s:List ByteArray}(x:E)(h:qF lb w s G)(hs:s.length<=100000):
  Calls prog 66 #[x.agg,lp lb] w λe w'=>e=.returned (.bool (fR x s).2)/\∃G',qF lb w' (fR x s).1 G'/\ag G w w'/\∀g∈G',g∈G\/w.heap.size<=g:=by
 obtain⟨A,c,rfl,B1,S1⟩:=h;obtain⟨z,hz⟩:∃z,w.heap.size=z:=⟨_,rfl⟩;obtain⟨k,hk⟩:∃k,s.length=k:=⟨_,rfl⟩;rw[hk]at hs B1 S1 ⊢;have hb:=ae (Below.refl w.heap.size w) (.cells #[.string x.key,.string x.val,.int .i64 x.aQ] 111);have l1:=B1.lt;have C1:=B1.below hb l1;have CS:=S1.below hb;have B3:=aF.new w 111 #[.string x.key,.string x.val,.int .i64 x.aQ];have uS:=dk CS C1 (by decide);have c1:=C1.ab (i:=0) rfl;have d0:=B3.ab (i:=0) rfl;have HB:=xh hb
 obtain⟨v',w3,ea,S3,oa,fa⟩:=dj (P:=prog) CS 123 123 _ 16 underlying123 Rz rfl (.string x.key) rfl (by unfold maxLen;omega) (by omega);have f1:=(C1.only oa uS).frozen 0 (by simp);have x1:=(C1.only oa uS).ab (i:=0) rfl;have hlen:(s++[x.key]).length=k+1:=by simp[hk]
 obtain⟨A3,c3,Gp⟩:=ax S3;subst Gp;have eP:Gf s++[Value.string x.key]=Gf (s++[x.key]):=by simp[Gf]
 rw[eP]at S3;have D1:=(C1.only oa uS).bU 0 (.slice A3 (k+1) c3);have D3:=S3.only (S:=[lb]) ((ag.refl _ _).setCell (by simp) _:ag [lb] w3 (w3.setCell ⟨lb,0,none⟩ (.slice A3 (k+1) c3))) (λg hg hm=>by
  rw[aI.1 hm]at hg;exact dk S3 (C1.only oa uS) (by decide) hg)
 have o3:ag (lb::ah (.slice A k c)) w (w3.setCell ⟨lb,0,none⟩ (.slice A3 (k+1) c3)):=((ag.ai HB.o).aL oa (λg hg _=>by simp[hg])).setCell (by simp) _;have fr3:∀g∈lb::ah (.slice A3 (k+1) c3),g∈lb::ah (.slice A k c)\/w.heap.size<=g:=λg hg=>by
  rcases aj.1 hg with rfl|hg
  .exact .inl (by simp)
  .rcases fa g hg with h|h
   .exact .inl (by simp[h])
   .exact .inr (by have:=HB.o.size;omega)
 have H9:=xh (show qF lb (w3.setCell ⟨lb,0,none⟩ (.slice A3 (k+1) c3)) (s++[x.key]) (lb::ah (.slice A3 (k+1) c3))/\ag (lb::ah (.slice A k c)) w (w3.setCell ⟨lb,0,none⟩ (.slice A3 (k+1) c3))/\∀g∈lb::ah (.slice A3 (k+1) c3),g∈lb::ah (.slice A k c)\/w.heap.size<=g from
  ⟨⟨A3,c3,by rw[hlen],by rw[hlen];exact D1,by rw[hlen];exact D3⟩,o3,fr3⟩)
 rw[lR,hz]at ea;have EA:=xh ea;clear ea S3 oa fa D1 D3 o3 fr3 hlen eP uS C1 CS B3 B1 S1 hb l1 hs hk;unfold lp E.agg at *;go_enter func66,ntmps66;go_wp2_with fail;rw[EA.o];go_wp2_with fail;go_ret;exact⟨rfl,_,H9.o.1,H9.o.2.1,H9.o.2.2⟩
theorem RA(lb:Nat):Vis 66 #[lp lb] fR List.length (qF lb) where
 call:=λW s G x h hs _=>M8 x h hs
 pw:=λW w' s G S h o hs=>h.only o hs
 lt:=λW s G h g hg=>by
  obtain⟨A,c,rfl,h1,h3⟩:=h
  rcases aj.1 hg with rfl|hg
  .exact h1.lt
  .exact h3.lt g hg
 ent:=λargs W=>wR func66 (by kernel_rfl) (by kernel_rfl) args W
 one:=λx s=>by unfold fR;simp
variable{w:World}
abbrev PR:=ByteArray×ByteArray
def kR(l:List PR):List Value:=l.flatMap λx=>[.string x.1,.string x.2]
theorem ef:∀l:List PR,(kR l).length=l.length*2
 |[]=>rfl
 |x::l=>by unfold kR;rw[gJ,aO];have:=ef l;unfold kR at this;rw[this];simp;omega
theorem rD(a b:List PR):kR (a++b)=kR a++kR b:=by simp[kR]
def ph:List E->QS->List PR->QS×List PR×Int
 |[],q,out=>(q,out,0)
 |x::l,q,out=>if(q.fI x).2.2≠0 then((q.fI x).1,[],(q.fI x).2.2)else ph l (q.fI x).1 (out++[(x.key,(q.fI x).2.1)])
def QS.kg(q:QS)(fr az:ByteArray)(n:Int):QS×List PR×Int:=
 if(q.et (mL n) fr az []).e≠0 then((q.et (mL n) fr az []).q,[],(q.et (mL n) fr az []).e)else ph (q.et (mL n) fr az []).s (q.et (mL n) fr az []).q []
theorem Br:(prog.info? 42).map (λi=>(i.zero,i.size,i.bytes))=some (some (.agg #[.string .empty,.string .empty]),2,32):=by kernel_rfl
theorem wS{v:Value}{m:Nat}{L:List Value}(S:aS w 42 2 v m L)(a b:ByteArray)(hm:m<=1000000):
  ∃v' w',dZ prog 30 30 (w.alloc (.cells #[.string a,.string b] 42)) v (.slice (some ⟨w.heap.size,0,none⟩) 1 1)= .ok v' w'/\aS w' 42 2 v' (m+1) (L++[.string a,.string b])/\ag (ah v) w w'/\(∀g∈ah v',g∈ah v\/w.heap.size<=g):=by
 obtain⟨i0,hi,ku,js,ki⟩:=info_parts Br;obtain⟨v',w',h1,h2,h3,h4⟩:=dC (P:=prog) (S.alloc (.cells #[.string a,.string b] 42)) 30 30 i0 _ 32 underlying30 hi ku js ki rfl (by omega)
  ⟨w.heap.size,0,none⟩ 1 1 [.string a,.string b] rfl (bq (aF.new w 42 #[.string a,.string b]) 0 _ (by simp)) (by simp;exact⟨rfl,rfl⟩) (by unfold maxLen;omega) (by omega)
 exact⟨v',w',h1,h2,((ag.refl _ _).alloc _).aL h3 (λx hx _=>hx),λg hg=>(h4 g hg).imp id (λh=>by simp at h;omega)⟩
theorem DP{tb:Nat}{I:Ix}{F:List Nat}{q:QS}{n K:Nat}(h:TQ w tb I F q n K)(hK:K<=999999000000)(fr az:ByteArray)(m:Int):
  Calls prog 17 #[tp tb,.string fr,.string az,.int .i64 m] w λe w'=> ∃v,e=.returned (.tuple #[v,.int .i64 (q.kg fr az m).2.2])/\aS w' 42 2 v (q.kg fr az m).2.1.length (kR (q.kg fr az m).2.1)/\PQ w' I F (q.kg fr az m).1 n (K+300000)/\ag F w w'/\(∀g∈ah v,w.heap.size<=g):=by
 have hmf:∀(fn:Fn) (first cap:Array Value) (w:World),(Instr.makeFunc fn first cap).run prog w=.ok (.func fn first cap) w:=λ_ _ _ _=>rfl;obtain⟨z,hz⟩:∃z,w.heap.size=z:=⟨_,rfl⟩;have W0:=Below.refl w.heap.size w;obtain⟨w1,Jm⟩:∃w1,w.alloc (.cells #[.int .i64 m] 3)=w1:=⟨_,rfl⟩;have s1:w1.heap.size=z+1:=by rw[<-Jm,lR,hz]
 have Jn:aF w1 z 3 #[.int .i64 m]:=by rw[<-Jm,<-hz];exact aF.new _ _ _
 have W1:=aC W0 (ae (Below.refl w.heap.size w) (.cells #[.int .i64 m] 3));rw[Jm]at W1;obtain⟨w2,ES⟩:∃w2,w1.alloc (.cells #[.slice none 0 0] 108)=w2:=⟨_,rfl⟩;have s2:w2.heap.size=z+1+1:=by rw[<-ES,lR,s1]
 have Jo:aF w2 (z+1) 108 #[.slice none 0 0]:=by rw[<-ES,<-s1];exact aF.new _ _ _
 have Bp:=Jn.alloc (.cells #[.slice none 0 0] 108);rw[ES]at Bp;have W2:=aC W1 (ae (Below.refl w1.heap.size w1) (.cells #[.slice none 0 0] 108));rw[ES]at W2;have hI:qE (z+1) z m w2 [] [z+1,z]:=⟨none,0,rfl,Jo,Bp,aS.nil _ _ _,by omega⟩;have dP:=h.lt;have KE:=wP (Ww (z+1) z m) (h.below W2) (by omega) fr az hI (λg hg hm=>by have:=dP g hg;simp at hm;omega) rfl
 have KV:=xh (λ(W:World) (qj:QS) (kj:Nat) (hW:TQ W tb I F qj n kj) (hk:kj<=999999999900) (x:E)=>sX hW hk x);unfold QS.kg;obtain⟨R,hR⟩:∃R,q.et (mL m) fr az []=R:=⟨_,rfl⟩;rw[hR]at KE ⊢;obtain⟨RR,bG⟩:∃RR,(if R.e≠0 then(R.q,([]:List PR),R.e)else ph R.s R.q [])=RR:=⟨_,rfl⟩;rw[bG];have fj:=xh bG;have KE:=xh KE;have xA:=xh W2;have HZ:=xh hz;have pQ:=xh dP;have HNE:=xh h.ne;clear Jn Jo Bp W0 W1 W2 s1 s2 hI dP h bG hR
 subst Jm ES;unfold tp lp at *;go_enter func17,ntmps17;go_wp2_with fail;refine KE.o.mono ?_;rintro e w3 ⟨rfl,G,a1,a2,a3,a4,a5,a6⟩;obtain⟨A,c,hG,b1,b2,b3,b4⟩:=a2;obtain⟨l,hl⟩:∃l,R.s=l:=⟨_,rfl⟩;obtain⟨er,vx⟩:∃er,R.e=er:=⟨_,rfl⟩;obtain⟨k,hk⟩:∃k,l.length=k:=⟨_,rfl⟩;rw[hl]at b1 b3 hG a5 fj;rw[hk]at b1 b3 hG a5;rw[vx]at fj ⊢
 have o3:ag F w w3:=(ag.ai (S:=F) xA.o).aL a3 (λg hg hl=>(aB.1 hg).elim id (λhg=>by have:=HZ.o;simp at hg;omega));have hG3:∀g∈G,w.heap.size<=g:=λg hg=>(a4 g hg).elim (λh=>by have:=HZ.o;simp at h;omega) (λh=>aq xA.o.size h);have GS:=o3.size
 by_cases he:er=0
 .subst he;have pY:ph l R.q []=RR:=by have:=fj.o;rw[if_neg (by simp)]at this;exact this
  have fj:=xh pY;have H3:=xh (show TQ w3 tb I F R.q n (K+513)/\aS w3 111 3 (.slice A k c) k (aD l)/\ag F w w3/\(∀g∈tb::F,g∉ah (.slice A k c))/\(∀g∈ah (.slice A k c),w.heap.size<=g)/\k<=57*513 from
   ⟨a1,b3,o3,λg hg hm=>a6 g hg (by rw[hG];simp[hm]),λg hg=>hG3 g (by rw[hG];simp[hg]),a5⟩)
  have x1:=b1.ab (i:=0) rfl;have hlen:=H3.o.2.2.2.2.2;have R5:=xh hk;clear hk a1 a3 a4 a5 a6 b1 b2 b3 b4 o3 hG3 pY hl vx;go_wp2_with fail
  go_loopw [12,27] (λov iv wr=> ∃(i:Nat) (qi:QS) (out:List PR),i<=k/\iv=.int .i64 (i:Nat)/\aS wr 42 2 ov i (kR out)/\Hid (ph (l.drop i) qi out=RR/\out.length=i)/\Hid (TQ wr tb I F qi n (K+513+5*i)/\aS wr 111 3 (.slice A k c) k (aD l)/\ag F w wr/\(∀g∈ah ov,w.heap.size<=g/\g∉ah (.slice A k c)))) (λ_ iv _=>k-(intOf iv).toNat)
  case atStart=>exact⟨0,R.q,[],by omega,rfl,aS.nil _ _ _,xh ⟨fj.o,rfl⟩,xh ⟨H3.o.1,H3.o.2.1,H3.o.2.2.1,by simp[ah]⟩⟩
  case round=>
   obtain⟨i,qi,out,hi,rfl,S1,HV,HA⟩:=hrel;obtain⟨VA,vc,rfl⟩:=ax S1
   by_cases uT:i<k
   .have hikI:(i:Int)<(k:Int):=by omega
    obtain⟨x,hx⟩:∃x,l[i]?=some x:=⟨_,aG (by rw[R5.o];exact uT)⟩;obtain⟨ga,ca,r7,xu,BA,hca1,hca2⟩:=HA.o.2.1.form (by omega) (by omega);have SE:=(Nd.aS.aD HA.o.2.1).2;obtain⟨ad,oZ,eP⟩:=SE.2 i x hx;injection xu with e1 e2 e3
    subst e1 e3;injection oZ with oZ
    subst oZ;rw[Nd.fZ,bl]at eP;have xc0:=eP.c0;have xc1:=eP.c1;have xc2:=eP.c2;dsimp only at xc0 xc1 xc2;have hgal:=BA.lt;obtain⟨zr,hzr⟩:∃zr,wr.heap.size=zr:=⟨_,rfl⟩;have B0:=aF.new wr 111 #[.string .empty,.string .empty,.int .i64 0];have D1:=aF.new wr 111 #[.string x.key,.string x.val,.int .i64 x.aQ];have jk:=ae (Below.refl wr.heap.size wr) (.cells #[.string x.key,.string x.val,.int .i64 x.aQ] 111);rw[hzr]at B0 D1;have y0:=B0.ab (i:=0) rfl
    have y1:=B0.ab (i:=1) rfl;have y2:=B0.ab (i:=2) rfl;have f0:=B0.frozen 0 (by simp);have f1:=B0.frozen 1 (by simp);have f2:=B0.frozen 2 (by simp);have KX:=xh (KV.o (wr.alloc (.cells #[.string x.key,.string x.val,.int .i64 x.aQ] 111)) qi (K+513+5*i) (HA.o.1.below jk) (by omega) x);have v0:=D1.ab (i:=0) rfl;have v1:=D1.ab (i:=1) rfl;have v2:=D1.ab (i:=2) rfl;have D1:=xh D1;have H4:=xh jk;have HX:=xh hx;have HZR:=xh hzr
    clear jk B0 BA SE eP hx hca2;obtain⟨RV,hRV⟩:∃RV,qi.fI x=RV:=⟨_,rfl⟩;rw[hRV]at KX;have Ih:l.drop i=x::l.drop (i+1):=by rw[<-List.getElem_cons_drop (h:=by rw[R5.o];exact uT)];congr 1;have:=HX.o;rw[aG (by rw[R5.o];exact uT)]at this;injection this
    have uK:=HV.o.1;rw[Ih]at uK;unfold ph at uK;rw[hRV]at uK;have Wy:=xh uK;have HRV:=xh hRV;clear uK Ih hRV;unfold E.agg at *;go_wp2_with fail;refine KX.o.mono ?_;rintro e w5 ⟨rfl,p1,p2⟩;have kk:∀g∈F,g<w.heap.size:=λg hg=>pQ.o g (aw _ hg);have hwz:w.heap.size<=zr:=by rw[<-HZR.o];exact HA.o.2.2.1.size
    have o45:ag F w w5:=(HA.o.2.2.1.trans (ag.ai H4.o)).trans p2;have D5:=D1.o.only p2 (λhm=>by have:=kk _ hm;omega);have v0:=D5.ab (i:=0) rfl;obtain⟨q5,b5,e5⟩:=RV;dsimp only at *
    by_cases M9:e5=0
    .subst M9;have h9:=Wy.o;rw[if_neg (by simp)]at h9;have hov:∀g∈ah (.slice VA i vc),w.heap.size<=g:=λg hg=>(HA.o.2.2.2 g hg).1;have S5:=(S1.below H4.o).only p2 (λg hg hm=>by have:=hov g hg;have:=kk g hm;omega);have E5:=(HA.o.2.1.below H4.o).only p2 (λg hg hm=>H3.o.2.2.2.1 g (aw _ hm) hg);obtain⟨v',w7,ea,S7,ow,fa⟩:=wS S5 x.key b5 (by omega)
     have T7:TQ w7 tb I F q5 n (K+513+5*(i+1)):=(((HA.o.1.below H4.o).next p2 p1).only ow (λg hg hm=>by have:=hov g hm;have:=pQ.o g hg;omega)).le (by omega);have E7:=E5.only ow (λg hg hm=>(HA.o.2.2.2 g hm).2 hg);have hwr5:wr.heap.size<=w5.heap.size:=aq H4.o.size p2.size;have hel:∀g∈ah (.slice (some ⟨ga,0,none⟩) k c),g<wr.heap.size:=HA.o.2.1.lt
     have H7:=xh (show TQ w7 tb I F q5 n (K+513+5*(i+1))/\aS w7 111 3 (.slice (some ⟨ga,0,none⟩) k c) k (aD l)/\ag F w w7/\(∀g∈ah v',w.heap.size<=g/\g∉ah (.slice (some ⟨ga,0,none⟩) k c))from
      ⟨T7,E7,o45.aL ow (λg hg dP=>by have:=hov g hg;omega),λg hg=>(fa g hg).elim (HA.o.2.2.2 g) (λh=>⟨by have:=o45.size;omega,λhm=>by have:=hel g hm;omega⟩)⟩)
     obtain⟨V7,c7,rfl⟩:=ax S7;have hpr:kR out++[Value.string x.key,Value.string b5]=kR (out++[(x.key,b5)]):=by rw[rD];rfl
     rw[hpr]at S7;have H9:=xh (And.intro S7 (And.intro h9 (show(out++[(x.key,b5)]).length=i+1 by rw[aO,HV.o.2];rfl)));have EA:=xh ea;clear ea S7 ow fa T7 E7 hwr5 hel h9 hpr S5 E5 hov p1 o45 p2 D5 kk hwz;go_wp2_with fail;rw[EA.o];go_wp2_with fail;go_roundw
     case rel=>exact⟨i+1,q5,out++[(x.key,b5)],by omega,by first|rfl|simp,H9.o.1,xh H9.o.2,H7⟩
     case measure=>simp[intOf];omega
    .have h9:=Wy.o;rw[if_pos M9]at h9;have hq:(e5 != 0)=true:=by rw[bne_iff_ne];exact M9
     have kh:(e5==0)=false:=by rw[beq_eq_false_iff_ne];exact M9
     have H9:=xh (And.intro h9 (And.intro p1 o45));clear h9 p1 o45 p2 D5 kk hwz;go_wp2_with fail;go_ret2;obtain⟨h9,h10,IQ⟩:=H9.o;subst h9;exact⟨.slice none 0 0,by first|rfl|simp,aS.nil _ _ _,h10.le (by omega),IQ,by simp[ah]⟩
   .have hikI:¬(i:Int)<(k:Int):=by omega
    have GQ:l.drop i=[]:=lK (by rw[R5.o];omega);have h9:=HV.o.1;rw[GQ]at h9;have HV9:=xh h9;have HO:=xh HV.o.2;have S1:=xh S1;clear h9 GQ;go_wp2_with fail;go_ret2;have h9:=HV9.o;subst h9;exact⟨_,by first|rfl|simp[ph],by show aS _ _ 2 _ out.length _;rw[HO.o];exact S1.o,HA.o.1.2.le (by omega),HA.o.2.2.1,λg hg=>by have:=(HA.o.2.2.2 g hg).1;first|exact this|(have:=HZ.o;omega)⟩
 .have pY:(R.q,([]:List PR),er)=RR:=by have:=fj.o;rw[if_pos he]at this;exact this
  have hq:(er != 0)=true:=by rw[bne_iff_ne];exact he
  have kh:(er==0)=false:=by rw[beq_eq_false_iff_ne];exact he
  have H3:=xh (And.intro a1 o3);have fj:=xh pY;clear a1 a3 a4 a5 a6 b1 b2 b3 b4 o3 hG3 pY hl vx;go_wp2_with fail;go_ret2;have h9:=fj.o;subst h9;exact⟨.slice none 0 0,by first|rfl|simp,aS.nil _ _ _,H3.o.1.2.le (by omega),H3.o.2,by simp[ah]⟩
variable{w:World}{g tb n K:Nat}{a b:ByteArray}{I:Ix}{F:List Nat}
def prV(x:PR):Value:= .agg #[.string x.1,.string x.2]
theorem uL{fn:Func}{p u:Tmp}{tmps:Array Value}(h:fn.results= #[.cell p 42,.tmp u])(hp:tmps.getD p undef=.pointer (some ⟨g,0,none⟩))(B:aF w g 42 #[.string a,.string b]):
  (results fn tmps).run prog w=.ok (.tuple #[prV (a,b),tmps.getD u undef]) w:=by
 have c0:=B.ab (i:=0) rfl;have c1:=B.ab (i:=1) rfl;rw[results_cell_tmp h,hp];clear h hp B;unfold prV;go_simp
theorem ky{a' b':ByteArray}(B:aF w g 42 #[.string a,.string b]):
  aF ((w.setCell ⟨g,0,none⟩ (.string a')).setCell ⟨g,1,none⟩ (.string b')) g 42 #[.string a',.string b']/\ag [g] w ((w.setCell ⟨g,0,none⟩ (.string a')).setCell ⟨g,1,none⟩ (.string b'))/\
   w.cell? ⟨g,0,none⟩=some (.string a)/\w.cell? ⟨g,1,none⟩=some (.string b)/\w.frozen? ⟨g,0,none⟩=false/\w.frozen? ⟨g,1,none⟩=false:=
 ⟨(B.bU 0 _).bU 1 _,((ag.refl _ _).setCell (by simp) _).setCell (by simp) _,B.ab rfl,B.ab rfl,B.frozen 0 (by simp),B.frozen 1 (by simp)⟩
def QS.lJ(q:QS)(fr az:ByteArray):QS×PR×Int:=
 if(q.et jq fr az none).e≠0 then((q.et jq fr az none).q,(⟨#[]⟩,⟨#[]⟩),(q.et jq fr az none).e)
 else match (q.et jq fr az none).s with
  |none=>((q.et jq fr az none).q,(⟨#[]⟩,⟨#[]⟩),9)
  |some x=>if((q.et jq fr az none).q.fI x).2.2≠0 then(((q.et jq fr az none).q.fI x).1,(⟨#[]⟩,⟨#[]⟩),((q.et jq fr az none).q.fI x).2.2)
   else(((q.et jq fr az none).q.fI x).1,(x.key,((q.et jq fr az none).q.fI x).2.1),0)
theorem RD{q:QS}(h:TQ w tb I F q n K)(hK:K<=999999000000)(fr az:ByteArray):
  Calls prog 21 #[tp tb,.string fr,.string az] w λe w'=>e=.returned (.tuple #[prV (q.lJ fr az).2.1,.int .i64 (q.lJ fr az).2.2])/\PQ w' I F (q.lJ fr az).1 n (K+600)/\ag F w w':=by
 have hmf:∀(fn:Fn) (first cap:Array Value) (w:World),(Instr.makeFunc fn first cap).run prog w=.ok (.func fn first cap) w:=λ_ _ _ _=>rfl;obtain⟨z,hz⟩:∃z,w.heap.size=z:=⟨_,rfl⟩;have W0:=Below.refl w.heap.size w;obtain⟨w1,Jm⟩:∃w1,w.alloc (.cells #[.string ⟨#[]⟩,.string ⟨#[]⟩] 42)=w1:=⟨_,rfl⟩;have s1:w1.heap.size=z+1:=by rw[<-Jm,lR,hz]
 have Jn:aF w1 z 42 #[.string ⟨#[]⟩,.string ⟨#[]⟩]:=by rw[<-Jm,<-hz];exact aF.new _ _ _
 have W1:=aC W0 (ae (Below.refl w.heap.size w) (.cells #[.string ⟨#[]⟩,.string ⟨#[]⟩] 42));rw[Jm]at W1;obtain⟨w2,ES⟩:∃w2,w1.alloc (.cells #[.string ⟨#[]⟩,.string ⟨#[]⟩,.int .i64 0] 111)=w2:=⟨_,rfl⟩;have s2:w2.heap.size=z+1+1:=by rw[<-ES,lR,s1]
 have Jo:aF w2 (z+1) 111 #[.string ⟨#[]⟩,.string ⟨#[]⟩,.int .i64 0]:=by rw[<-ES,<-s1];exact aF.new _ _ _
 have Bp:=Jn.alloc (.cells #[.string ⟨#[]⟩,.string ⟨#[]⟩,.int .i64 0] 111);rw[ES]at Bp;have W2:=aC W1 (ae (Below.refl w1.heap.size w1) (.cells #[.string ⟨#[]⟩,.string ⟨#[]⟩,.int .i64 0] 111));rw[ES]at W2;obtain⟨w3,GS⟩:∃w3,w2.alloc (.cells #[.bool false] 4)=w3:=⟨_,rfl⟩;have s3:w3.heap.size=z+1+1+1:=by rw[<-GS,lR,s2]
 have MZ:aF w3 (z+1+1) 4 #[.bool false]:=by rw[<-GS,<-s2];exact aF.new _ _ _
 have M0:=Bp.alloc (.cells #[.bool false] 4);rw[GS]at M0;have wQ:=Jo.alloc (.cells #[.bool false] 4);rw[GS]at wQ;have W3:=aC W2 (ae (Below.refl w2.heap.size w2) (.cells #[.bool false] 4));rw[GS]at W3;have y0:=wQ.ab (i:=0) rfl;have y1:=wQ.ab (i:=1) rfl;have y2:=wQ.ab (i:=2) rfl;have y3:=MZ.ab (i:=0) rfl;have f0:=wQ.frozen 0 (by simp);have f1:=wQ.frozen 1 (by simp);have f2:=wQ.frozen 2 (by simp)
 have f3:=MZ.frozen 0 (by simp);have hI:Bq (z+1) (z+1+1) w3 none [z+1,z+1+1]:=⟨rfl,wQ,MZ,by omega⟩;have dP:=h.lt;have KE:=wP (Wx (z+1) (z+1+1)) (h.below W3) (by omega) fr az hI (λg hg hm=>by have:=dP g hg;simp at hm;omega) rfl;have KV:=xh (λ(W:World) (qj:QS) (kj:Nat) (hW:TQ W tb I F qj n kj) (hk:kj<=999999999900) (x:E)=>sX hW hk x);have C0:=xh M0;obtain⟨RR,bG⟩:∃RR,q.lJ fr az=RR:=⟨_,rfl⟩;rw[bG];unfold QS.lJ at bG
 obtain⟨R,hR⟩:∃R,q.et jq fr az none=R:=⟨_,rfl⟩;rw[hR]at KE bG;have fj:=xh bG;clear bG;have KE:=xh KE;have HW3:=xh W3;have HZ:=xh hz;have pQ:=xh dP;have HNE:=xh h.ne;clear Jn Jo Bp M0 wQ MZ W0 W1 W2 W3 s1 s2 s3 hI dP h hR;subst Jm ES GS;unfold lp at KE;unfold tp at *;go_enter func21,ntmps21;go_wp2_with fail;refine KE.o.mono ?_;rintro e w4 ⟨rfl,G,a1,a2,a3,a4,a5,a6⟩;obtain⟨rfl,b1,b2,b3⟩:=a2;obtain⟨s,hs⟩:∃s,R.s=s:=⟨_,rfl⟩
 obtain⟨er,vx⟩:∃er,R.e=er:=⟨_,rfl⟩;obtain⟨qr,hqr⟩:∃qr,R.q=qr:=⟨_,rfl⟩;rw[hs]at b1 b2;rw[hqr]at a1;have pY:=fj.o;rw[vx,hs,hqr]at pY;rw[vx];have kk:∀g∈F,g<z:=λg hg=>by have:=pQ.o g (aw _ hg);have:=HZ.o;omega
 have o4:ag F w w4:=(ag.ai (S:=F) HW3.o).aL a3 (λg hg hl=>(aB.1 hg).elim id (λhg=>by have:=HZ.o;simp at hg;omega));have C4:=C0.o.only a3 (λhm=>(aB.1 hm).elim (λhm=>by have:=kk z hm;omega) (λhm=>by simp at hm<;>omega));have HZF:=xh kk;clear hs hqr a3 a4 a5 a6 kk y0 y1 y2 y3 f0 f1 f2 f3
 by_cases he:er=0
 .subst he;rw[if_neg (by simp)]at pY
  cases s with
  |none=>
   dsimp only at pY;have fj:=xh pY;clear pY;have x2:=b2.ab (i:=0) rfl;obtain⟨B2,o2,k0,k1,z0,z1⟩:=ky (a':=⟨#[]⟩) (b':=⟨#[]⟩) C4;have H2:=xh (And.intro B2 (And.intro o2 (And.intro a1 o4)));clear B2 o2 a1 o4 b1 b2 b3 C4 vx;go_wp2_with fail;have h9:=fj.o;subst h9
   exact bodyPost_ret (uL rfl rfl H2.o.1) rfl ⟨rfl,(H2.o.2.2.1.2.aQ H2.o.2.1 (λhm=>by have:=HZF.o z hm;omega)).le (by omega),H2.o.2.2.2.aL H2.o.2.1 (λg hg hl=>by have:=HZ.o;simp at hg;omega)⟩
  |some x=>
   dsimp only at pY;have x2:=b2.ab (i:=0) rfl;have xa:=b1.ab (i:=0) rfl;have xb:=b1.ab (i:=1) rfl;have xc:=b1.ab (i:=2) rfl;have KX:=KV.o w4 qr (K+513) a1 (by omega) x;obtain⟨RV,hRV⟩:∃RV,qr.fI x=RV:=⟨_,rfl⟩;rw[hRV]at KX pY;have KX:=xh KX;have H4:=xh (And.intro o4 (And.intro b1 (And.intro b2 C4)));clear b1 b2 b3 C4 vx o4 hRV a1;unfold E.agg at *;unfold optE at *;go_wp2_with fail;refine KX.o.mono ?_;rintro e w5 ⟨rfl,p1,p2⟩
   have o5:=H4.o.1.trans p2;have hn1:z+1∉F:=λhm=>by have:=HZF.o _ hm;omega
   have hn0:z∉F:=λhm=>by have:=HZF.o _ hm;omega
   have D1:=H4.o.2.1.only p2 hn1;have C5:=H4.o.2.2.2.only p2 hn0;have xk:=D1.ab (i:=0) rfl;obtain⟨q5,b5,e5⟩:=RV;dsimp only at *
   by_cases M9:e5=0
   .subst M9;rw[if_neg (by simp)]at pY;have fj:=xh pY;clear pY;obtain⟨B2,o2,k0,k1,z0,z1⟩:=ky (a':=x.key) (b':=b5) C5;have H2:=xh (And.intro B2 (And.intro o2 (And.intro p1 o5)));clear B2 o2 p1 p2 o5 D1 C5;go_wp2_with fail;have h9:=fj.o;subst h9;exact bodyPost_ret (uL rfl rfl H2.o.1) rfl ⟨rfl,(H2.o.2.2.1.aQ H2.o.2.1 hn0).le (by omega),H2.o.2.2.2.aL H2.o.2.1 (λg hg hl=>by have:=HZ.o;simp at hg;omega)⟩
   .rw[if_pos M9]at pY;have fj:=xh pY;clear pY;have hq:(e5 != 0)=true:=by rw[bne_iff_ne];exact M9
    have kh:(e5==0)=false:=by rw[beq_eq_false_iff_ne];exact M9
    obtain⟨B2,o2,k0,k1,z0,z1⟩:=ky (a':=⟨#[]⟩) (b':=⟨#[]⟩) C5;have H2:=xh (And.intro B2 (And.intro o2 (And.intro p1 o5)));clear B2 o2 p1 p2 o5 D1 C5;go_wp2_with fail;have h9:=fj.o;subst h9;exact bodyPost_ret (uL rfl rfl H2.o.1) rfl ⟨rfl,(H2.o.2.2.1.aQ H2.o.2.1 hn0).le (by omega),H2.o.2.2.2.aL H2.o.2.1 (λg hg hl=>by have:=HZ.o;simp at hg;omega)⟩
 .rw[if_pos he]at pY;have fj:=xh pY;clear pY;have hq:(er != 0)=true:=by rw[bne_iff_ne];exact he
  have kh:(er==0)=false:=by rw[beq_eq_false_iff_ne];exact he
  obtain⟨B2,o2,k0,k1,z0,z1⟩:=ky (a':=⟨#[]⟩) (b':=⟨#[]⟩) C4;have H2:=xh (And.intro B2 (And.intro o2 (And.intro a1 o4)));clear B2 o2 a1 o4 b1 b2 b3 C4 vx;go_wp2_with fail;have h9:=fj.o;subst h9;exact bodyPost_ret (uL rfl rfl H2.o.1) rfl ⟨rfl,(H2.o.2.2.1.2.aQ H2.o.2.1 (λhm=>by have:=HZF.o z hm;omega)).le (by omega),H2.o.2.2.2.aL H2.o.2.1 (λg hg hl=>by have:=HZ.o;simp at hg;omega)⟩
def mZ:List ByteArray->QS->QS×Int
 |[],q=>(q,0)
 |k::l,q=>if(q.iT k).2≠0 then((q.iT k).1,(q.iT k).2)else mZ l (q.iT k).1
def QS.gV(q:QS)(fr az:ByteArray):QS×Int×Int:=
 if(q.et fR fr az []).e≠0 then((q.et fR fr az []).q,0,(q.et fR fr az []).e)
 else if(mZ (q.et fR fr az []).s (q.et fR fr az []).q).2≠0 then((mZ (q.et fR fr az []).s (q.et fR fr az []).q).1,0,(mZ (q.et fR fr az []).s (q.et fR fr az []).q).2)
 else((mZ (q.et fR fr az []).s (q.et fR fr az []).q).1,((q.et fR fr az []).s.length:Nat),0)
theorem Na{q:QS}(h:TQ w tb I F q n K)(hK:K<=999900000000)(fr az:ByteArray):
  Calls prog 22 #[tp tb,.string fr,.string az] w λe w'=>e=.returned (.tuple #[.int .i64 (q.gV fr az).2.1,.int .i64 (q.gV fr az).2.2])/\PT w w' I F (q.gV fr az).1 n (K+30000000):=by
 have hmf:∀(fn:Fn) (first cap:Array Value) (w:World),(Instr.makeFunc fn first cap).run prog w=.ok (.func fn first cap) w:=λ_ _ _ _=>rfl;obtain⟨z,hz⟩:∃z,w.heap.size=z:=⟨_,rfl⟩;have bg:=ae (Below.refl w.heap.size w) (.cells #[.slice none 0 0] 123);have c0:=aF.new w 123 #[.slice none 0 0];rw[hz]at c0;have hI:qF z (w.alloc (.cells #[.slice none 0 0] 123)) [] [z]:=⟨none,0,rfl,c0,aS.nil _ _ _⟩;have dP:=h.lt
 have KE:=wP (RA z) (h.below bg) (by omega) fr az hI (λg hg hm=>by have:=dP g hg;simp at hm;omega) rfl;have KD:=xh (λ(W:World) (Fj:List Nat) (qj:QS) (kj:Nat) (hW:TQ W tb I Fj qj n kj) (hk:kj<=999999970000) (key:ByteArray)=>AS hW hk key);obtain⟨RR,bG⟩:∃RR,q.gV fr az=RR:=⟨_,rfl⟩;rw[bG];unfold QS.gV at bG;obtain⟨R,hR⟩:∃R,q.et fR fr az []=R:=⟨_,rfl⟩;rw[hR]at KE bG;have fj:=xh bG;have KE:=xh KE;have GY:=xh bg
 have HZ:=xh hz;have pQ:=xh dP;have HNE:=xh h.ne;clear bG bg hI dP h hR c0;unfold lp at KE;unfold tp at *;go_enter func22,ntmps22;go_wp2_with fail;refine KE.o.mono ?_;rintro e w3 ⟨rfl,G,a1,a2,a3,a4,a5,a6⟩;obtain⟨A,c,hG,b1,b3⟩:=a2;obtain⟨l,hl⟩:∃l,R.s=l:=⟨_,rfl⟩;obtain⟨er,vx⟩:∃er,R.e=er:=⟨_,rfl⟩;obtain⟨qr,hqr⟩:∃qr,R.q=qr:=⟨_,rfl⟩;obtain⟨k,hk⟩:∃k,l.length=k:=⟨_,rfl⟩;rw[hl]at b1 b3 hG a5;rw[hk]at b1 b3 hG a5;rw[hqr]at a1;have pY:=fj.o
 rw[hl,vx,hqr]at pY;rw[vx];have o3:ag F w w3:=(ag.ai (S:=F) GY.o).aL a3 (λg hg hl=>(aB.1 hg).elim id (λhg=>by have:=HZ.o;simp at hg;omega));have hG3:∀g∈G,w.heap.size<=g:=λg hg=>(a4 g hg).elim (λh=>by have:=HZ.o;simp at h;omega) (λh=>aq GY.o.size h)
 by_cases he:er=0
 .subst he;rw[if_neg (by simp)]at pY;have fj:=xh pY;have H3:=xh (show TQ w3 tb I F qr n (K+513)/\aS w3 9 1 (.slice A k c) k (Gf l)/\ag F w w3/\(∀g∈tb::F,g∉z::ah (.slice A k c))/\aF w3 z 123 #[.slice A k c]/\k<=57*513 from
   ⟨a1,b3,o3,λg hg hm=>a6 g hg (by rw[hG];exact hm),b1,a5⟩)
  have x1:=b1.ab (i:=0) rfl;have hlen:=H3.o.2.2.2.2.2;have R5:=xh hk;have rY:w.heap.size<=w3.heap.size:=o3.size;have hob:OB w.heap.size w w3 F F:=⟨F,o3,λg hg=> .inl hg,λg hg=> .inl hg⟩;have HOB:=xh hob;obtain⟨DD,hDD⟩:∃DD,mZ l qr=DD:=⟨_,rfl⟩;rw[hDD]at pY;have fj:=xh pY;have HDD:=xh hDD;clear pY hDD hk a1 a3 a4 a5 a6 b1 b3 o3 hG3 hl vx hqr hob;go_wp2_with fail
  go_loopw [26] (λiv wr=> ∃(i:Nat) (qi:QS) (Fi:List Nat),i<=k/\iv=.int .i64 (i:Nat)/\Hid (mZ (l.drop i) qi=DD)/\Hid (TQ wr tb I Fi qi n (K+513+700*i)/\aS wr 9 1 (.slice A k c) k (Gf l)/\aF wr z 123 #[.slice A k c]/\(∀g∈tb::Fi,g∉z::ah (.slice A k c))/\OB w.heap.size w wr F Fi)) (λiv _=>k-(intOf iv).toNat)
  case atStart=>exact⟨0,qr,F,by omega,rfl,HDD,xh ⟨H3.o.1,H3.o.2.1,H3.o.2.2.2.2.1,H3.o.2.2.2.1,HOB.o⟩⟩
  case round=>
   obtain⟨i,qi,Fi,hi,rfl,HV,HA⟩:=hrel
   by_cases uT:i<k
   .have hikI:(i:Int)<(k:Int):=by omega
    obtain⟨x,hx⟩:∃x,l[i]?=some x:=⟨_,aG (by rw[R5.o];exact uT)⟩;obtain⟨ga,ca,r7,xu,BA,hca1,hca2⟩:=HA.o.2.1.form (by omega) (by omega);injection xu with e1 e2 e3
    subst e1 e3;have xc:wr.cell? ⟨ga,i,none⟩=some (.string x):=BA.ab (by
     rw[dh,bE (by simp[Gf];rw[R5.o];exact uT)];simp[Gf,hx])
    have Ih:l.drop i=x::l.drop (i+1):=by rw[<-List.getElem_cons_drop (h:=by rw[R5.o];exact uT)];congr 1;have:=hx;rw[aG (by rw[R5.o];exact uT)]at this;injection this
    have uK:=HV.o;rw[Ih]at uK;unfold mZ at uK;have KX:=KD.o wr Fi qi (K+513+700*i) HA.o.1 (by omega) x;obtain⟨RV,hRV⟩:∃RV,qi.iT x=RV:=⟨_,rfl⟩;rw[hRV]at KX uK;have KX:=xh KX;have Wy:=xh uK;clear hx uK Ih hRV BA hca2;go_wp2_with fail;refine KX.o.mono ?_;rintro e w5 ⟨rfl,F5,p1,p2,p3⟩;have J8:=p2.size;have hFd:∀g∈Fi,g∉z::ah (.slice (some ⟨ga,0,none⟩) k c):=λg hg=>HA.o.2.2.2.1 g (aw _ hg)
    have S5:=HA.o.2.1.only p2 (λg hg hm=>hFd g hm (aw _ hg));have C5:=HA.o.2.2.1.only p2 (λhm=>hFd z hm (by simp));have hel:∀g∈z::ah (.slice (some ⟨ga,0,none⟩) k c),g<wr.heap.size:=λg hg=>by
     rcases aj.1 hg with rfl|hg
     .exact HA.o.2.2.1.lt
     .exact HA.o.2.1.lt g hg
    obtain⟨q5,e5⟩:=RV;dsimp only at *;have H5:=xh (show TQ w5 tb I F5 q5 n (K+513+700*(i+1))/\aS w5 9 1 (.slice (some ⟨ga,0,none⟩) k c) k (Gf l)/\aF w5 z 123 #[.slice (some ⟨ga,0,none⟩) k c]/\(∀g∈tb::F5,g∉z::ah (.slice (some ⟨ga,0,none⟩) k c))/\OB w.heap.size w w5 F F5 from
     ⟨⟨HA.o.1.1.only p2 HA.o.1.ne,p1.le (by omega)⟩,S5,C5,λg hg hm=>by
      rcases aj.1 hg with rfl|hg
      .exact HA.o.2.2.2.1 _ (by simp) hm
      .rcases p3 g hg with h1|h1
       .exact hFd g h1 hm
       .have:=hel g hm;omega,HA.o.2.2.2.2.step (Nat.le_refl _) p2 p3⟩)
    clear p1 p2 p3 J8 hFd S5 C5 hel
    by_cases M9:e5=0
    .subst M9;have h9:=Wy.o;rw[if_neg (by simp)]at h9;have HV9:=xh h9;clear h9;go_wp2_with fail;go_roundw
     case rel=>exact⟨i+1,q5,F5,by omega,by first|rfl|simp,HV9,H5⟩
     case measure=>simp[intOf];omega
    .have h9:=Wy.o;rw[if_pos M9]at h9;have h8:=fj.o;rw[<-h9,if_pos M9]at h8;have hq:(e5 != 0)=true:=by rw[bne_iff_ne];exact M9
     have kh:(e5==0)=false:=by rw[beq_eq_false_iff_ne];exact M9
     have HV9:=xh h8;clear h9 h8;go_wp2_with fail;go_ret2;have h9:=HV9.o;subst h9;exact aP ((H5.o.2.2.2.2.pb (H5.o.1.2.le (by omega))).pt (by first|exact Nat.le_refl _|(have:=HZ.o;omega)))
   .have hikI:¬(i:Int)<(k:Int):=by omega
    have GQ:l.drop i=[]:=lK (by rw[R5.o];omega);have h9:=HV.o;rw[GQ]at h9;have h8:=fj.o;rw[<-h9]at h8;have h8:(qi,((l.length:Nat):Int),(0:Int))=RR:=by unfold mZ at h8;rw[if_neg (by simp)]at h8;exact h8
    have x1:=HA.o.2.2.1.ab (i:=0) rfl;have HV9:=xh h8;clear h9 GQ h8;go_wp2_with fail;go_ret2;have h9:=HV9.o;subst h9;exact⟨by rw[R5.o];first|rfl|simp,(HA.o.2.2.2.2.pb (HA.o.1.2.le (by omega))).pt (by first|exact Nat.le_refl _|(have:=HZ.o;omega))⟩
 .rw[if_pos he]at pY;have hq:(er != 0)=true:=by rw[bne_iff_ne];exact he
  have kh:(er==0)=false:=by rw[beq_eq_false_iff_ne];exact he
  have H3:=xh (And.intro a1 o3);have fj:=xh pY;clear pY hk a1 a3 a4 a5 a6 b1 b3 o3 hG3 hl vx hqr;go_wp2_with fail;go_ret2;have h9:=fj.o;subst h9;exact aP ⟨F,H3.o.1.2.le (by omega),H3.o.2,λg hg=> .inl hg⟩
end Sh
namespace Sh
open Go.RowKit Pk Dk Pg
open Nd (E aN aW dL bA aY cq bF ak cW)
variable{q:QS}{v:Vw}{u H:Nat}{M:List MT}
def ya(fr az:ByteArray)(x:PR):Bool:=Cq fr az x.1
theorem DQ(n:Int):∀(l s:List E),(fm (mL n) l s).1=s++l.take (n-(s.length:Nat)).toNat
 |[],s=>by simp[fm]
 |x::l,s=>by
  unfold fm mL
  by_cases h:(s.length:Int)<n
  .rw[if_pos h];obtain⟨k,hk⟩:∃k:Nat,(n-(s.length:Nat)).toNat=k+1:=⟨(n-(s.length:Nat)).toNat-1,by omega⟩;have hl:((s++[x]).length:Int)=s.length+1:=by simp
   rw[hk,n9]
   by_cases h2:((s++[x]).length:Int)<n
   .rw[decide_eq_true h2,if_pos rfl];dsimp only;have:=DQ n l (s++[x]);unfold mL at this;rw[this,show(n-((s++[x]).length:Nat)).toNat=k by omega];simp
   .rw[decide_eq_false h2,if_neg (by simp)];have:k=0:=by omega
    subst this;simp
  .rw[if_neg h,decide_eq_false h,if_neg (by simp),show(n-(s.length:Nat)).toNat=0 by omega];simp
theorem DR:∀(l:List E) (s:Option E),(fm jq l s).1=match l.getLast? with|none=>s|some x=>some x
 |[],s=>rfl
 |[x],s=>by simp[fm,jq]
 |x::y::l,s=>by
  have h:fm jq (x::y::l) s=fm jq (y::l) (some x):=by simp[fm,jq]
  rw[h,DR (y::l) (some x),List.getLast?_cons_cons]
  cases h2:(y::l).getLast? with
  |none=>simp at h2
  |some z=>rfl
theorem Bs:∀(l:List E) (s:List ByteArray),(fm fR l s).1=s++l.map (λe=>e.key)
 |[],s=>by simp[fm]
 |x::l,s=>by
  have h:fm fR (x::l) s=fm fR l (s++[x.key]):=by simp[fm,fR]
  rw[h,Bs l (s++[x.key])];simp
def inM(fr az:ByteArray)(M:List MT):List MT:=M.filter λm=>Cq fr az m.1.key
theorem Wz(fr az:ByteArray)(M:List MT):tD fr az (M.map λm=>m.1)=(inM fr az M).map λm=>m.1:=by
 unfold tD inM;rw[List.filter_map];rfl
theorem WA(fr az:ByteArray)(M:List MT):jx (inM fr az M)=(jx M).filter (ya fr az):=by
 unfold jx inM;rw[List.filter_map];rfl
section
variable{o:Vw}{mm:Nat}
theorem DS:∀(Ms:List MT) (q:QS) (v:Vw) (u:Nat) (out:List PR),Rd q v o u mm->(∀m∈Ms,Jf v m.1 m.2.1 m.2.2)->
  Rd (ph (Ms.map λm=>m.1) q out).1 v o u mm/\((ph (Ms.map λm=>m.1) q out).2=(out++jx Ms,0)\/((ph (Ms.map λm=>m.1) q out).2.2=11/\mm<=u))
 |[],q,v,u,out,R,_=>⟨R,.inl (by simp[ph])⟩
 |m::Ms,q,v,u,out,R,h=>by
  obtain⟨g1,g2⟩:=tu R (h m (by simp));rw[fJ];unfold ph
  rcases g2 with g2|⟨g2,g3⟩
  .rw[g2,if_neg (by simp)];obtain⟨a,b⟩:=DS Ms (q.fI m.1).1 v u (out++[(m.1.key,m.2.1)]) g1 (λx hx=>h x (by simp[hx]));refine⟨a,b.imp (λe=>?_) id⟩;rw[e,Jg];simp
  .rw[if_pos (by rw[g2];simp)];exact⟨g1,.inr ⟨g2,g3⟩⟩
theorem Tree.le(R:Rd q v o u mm)(T:Tree v H M):(ao v H 0).length<=512:=by
 have:=Jk R (dM.1 T.BR).1 T.xY;simpa [bt]using this
theorem DT(R:Rd q v o u mm)(T:Tree v H M)(hH:H<=15)(fr az:ByteArray)(n:Int):
  Rd (q.kg fr az n).1 v o u mm/\(((q.kg fr az n).2.2=11/\mm<=u)\/(q.kg fr az n).2=(((jx M).filter (ya fr az)).take n.toNat,0)):=by
 obtain⟨a,b⟩:=wO (mL n) fr az R T.ok hH (T.le R) [];unfold QS.kg
 rcases b with⟨b1,b2⟩|⟨b1,b2⟩
 .rw[if_pos (by rw[b1];simp)];exact⟨a,.inl ⟨b1,b2⟩⟩
 .rw[if_neg (by rw[b1];simp),b2,DQ,<-T.en,Wz,cI,<-lU];obtain⟨c,d⟩:=DS ((inM fr az M).take (n-(([]:List E).length:Nat)).toNat) _ v u [] a (λm hm=>T.va m ((ij.1 (gM hm)).1));refine⟨c,d.symm.imp id (λe=>?_)⟩;rw[e,cI,<-WA];unfold jx;rw[lU,show(n-(([]:List E).length:Nat)).toNat=n.toNat by simp]
theorem RE(R:Rd q v o u mm)(T:Tree v H M)(hH:H<=15)(fr az:ByteArray):
  Rd (q.lJ fr az).1 v o u mm/\(((q.lJ fr az).2.2=11/\mm<=u)\/(q.lJ fr az).2=match ((jx M).filter (ya fr az)).getLast? with|none=>((⟨#[]⟩,⟨#[]⟩),9)|some x=>(x,0)):=by
 obtain⟨a,b⟩:=wO jq fr az R T.ok hH (T.le R) none;unfold QS.lJ
 rcases b with⟨b1,b2⟩|⟨b1,b2⟩
 .rw[if_pos (by rw[b1];simp)];exact⟨a,.inl ⟨b1,b2⟩⟩
 .rw[if_neg (by rw[b1];simp),b2,DR,<-T.en,Wz,<-WA];unfold jx;rw[List.getLast?_map,List.getLast?_map]
  cases hl:(inM fr az M).getLast? with
  |none=>exact⟨a,.inr rfl⟩
  |some m=>
   have hm:m∈M:=(ij.1 (List.mem_of_getLast? hl)).1;dsimp only[Option.map];obtain⟨c,d⟩:=tu a (T.va m hm)
   rcases d with d|⟨d,d2⟩
   .rw[d,if_neg (by simp)];exact⟨c,.inr rfl⟩
   .rw[if_pos (by rw[d];simp)];exact⟨c,.inl ⟨d,d2⟩⟩
theorem Tree.sorted :∀(h:Nat) (p:Int),jP v h p->(fA v h p).Pairwise λc e=>gq c.key e.key
 |0,p,ho=>by rw[wH];exact oU ho.1
 |h+1,p,ho=>by
  rw[wH];show(bV (aU v h (gm v p).2.1)).Pairwise _;have d:=ho.2.2.2;have key:∀(l:List E),(∀e∈l,jP v h e.aQ)->(l.Pairwise λc e=> ∀x∈fA v h c.aQ,gq x.key e.key)->(∀e∈l.tail,∀x∈fA v h e.aQ,oT e.key x.key)->(bV (aU v h l)).Pairwise λc e=>gq c.key e.key:=by
   intro l
   induction l with
   |nil=>intro _ _ _;exact List.Pairwise.nil
   |cons e l ih=>
    intro h1 h2 h3;rw[dW]at h2;rw[cO,dA,dO];refine⟨Tree.sorted h e.aQ (h1 e (by simp)),ih (λx hx=>h1 x (by simp[hx])) h2.2 (λx hx=>h3 x (tJ hx)),λx hx y hy=>?_⟩;obtain⟨z,hz,hy⟩:=db.1 hy;exact gi (h2.1 z hz x hx) (h3 z hz y hy)
  exact key _ (λe he=>(d.c e he).1) d.lo d.hi
theorem Tree.keys(T:Tree v H M):(jx M).Pairwise λa b=>gq a.1 b.1:=by
 have h:=Tree.sorted H 0 T.ok;rw[<-T.en,yp]at h;unfold jx;rw[yp];exact h
structure ClrP(v v':Vw)(H:Nat)(M:List MT)(H':Nat)(M':List MT)(P:PR->Bool):Prop where
 t:Tree v' H' M'
 m:jx M'=(jx M).filter P
 Gv:∀wt,dQ wt (ao v' H' 0)<=dQ wt (ao v H 0)
 h:H'<=H
 kp:∀j∈iW M',j∈iW M/\v' j=v j
 len:(ao v' H' 0).length<=(ao v H 0).length
theorem DU:∀(ks:List ByteArray) (q:QS) (v:Vw) (u H:Nat) (M:List MT),Rd q v o u mm->Tree v H M->H<=15->ks.Nodup->(∀k∈ks,∃x∈jx M,x.1=k)->
  ((mZ ks q).2=11/\mm<=u/\∃v',Rd (mZ ks q).1 v' o u mm)\/
  ((mZ ks q).2=0/\∃v' H' M',Rd (mZ ks q).1 v' o u mm/\ClrP v v' H M H' M' λx=>ks.all λk=> !decide (x.1=k))
 |[],q,v,u,H,M,R,T,_,_,_=> .inr ⟨rfl,v,H,M,R,T,(vd.2 (λ_ _=>rfl)).symm,λ_=>Nat.le_refl _,Nat.le_refl _,λ_ h=>⟨h,rfl⟩,Nat.le_refl _⟩
 |k::ks,q,v,u,H,M,R,T,hH,hn,hk=>by
  rw[fu]at hn;unfold mZ
  rcases Jj R T hH k with⟨d1,d2,v',d3⟩|⟨d1,d2,A,B,d3⟩|⟨d1,v1,H1,M1,A,B,y,d2,d3⟩
  .rw[if_pos (by rw[d1];simp)];exact .inl ⟨d1,d2,v',d3⟩
  .exfalso;obtain⟨x,hx,rfl⟩:=hk k (by simp);rw[d3.e,cI]at hx
   rcases aB.1 hx with hx|hx
   .exact jw (d3.a x hx)
   .exact jw (d3.b x hx)
  .rw[if_neg (by rw[d1];simp)];have hA:∀x∈A,x.1≠k:=λx hx e=>jw (by have:=d3.d.a x hx;rwa [e]at this);have hB:∀x∈B,x.1≠k:=λx hx e=>jw (by have:=d3.d.b x hx;rwa [e]at this);have hf:jx M1=(jx M).filter λx=> !decide (x.1=k):=by
    rw[d3.m,d3.d.e,uZ,uZ];have e1:A.filter (λx=> !decide (x.1=k))=A:=vd.2 λx hx=>by rw[decide_eq_false (hA x hx)];rfl
    have e2:B.filter (λx=> !decide (x.1=k))=B:=vd.2 λx hx=>by rw[decide_eq_false (hB x hx)];rfl
    rw[e1,e2];simp
   rcases DU ks (q.iT k).1 v1 u H1 M1 d2 d3.t (by have:=d3.h;omega) hn.2 (λk' hk'=>by
    obtain⟨x,hx,e⟩:=hk k' (by simp[hk']);refine⟨x,?_,e⟩;rw[hf,ij];exact⟨hx,by rw[decide_eq_false (λe2=>hn.1 (by rw[<-e2,e];exact hk'))];rfl⟩)with i|⟨i1,v',H',M',i2,CC⟩
   .exact .inl i
   .refine .inr ⟨i1,v',H',M',i2,CC.t,?_,λwt=>aq (CC.Gv wt) (d3.Gv wt),aq CC.h d3.h,λj hj=>?_,aq CC.len d3.len⟩;rw[CC.m,hf,Eh]
    congr 1
    funext x
    rw[List.all_cons,Bool.and_comm];obtain⟨k1,k2⟩:=CC.kp j hj;exact⟨(d3.kp j k1).1,k2.trans (d3.kp j k1).2⟩
theorem Nb(R:Rd q v o u mm)(T:Tree v H M)(hH:H<=15)(fr az:ByteArray):
  ((q.gV fr az).2.2=11/\mm<=u/\∃v',Rd (q.gV fr az).1 v' o u mm)\/
  ((q.gV fr az).2=(((((jx M).filter (ya fr az)).length:Nat):Int),0)/\∃v' H' M',Rd (q.gV fr az).1 v' o u mm/\ClrP v v' H M H' M' λx=> !ya fr az x):=by
 obtain⟨a,b⟩:=wO fR fr az R T.ok hH (T.le R) [];unfold QS.gV
 rcases b with⟨b1,b2⟩|⟨b1,b2⟩
 .rw[if_pos (by rw[b1];simp)];exact .inl ⟨b1,b2,v,a⟩
 .rw[if_neg (by rw[b1];simp),b2,Bs,<-T.en,Wz,cI,jR];have xP:(inM fr az M).map ((λe:E=>e.key) ∘ λm=>m.1)=((jx M).filter (ya fr az)).map Prod.fst:=by
   rw[<-WA];unfold jx;rw[jR];rfl
  rw[xP];have lY:((jx M).filter (ya fr az)).Pairwise λa b=>gq a.1 b.1:=T.keys.sublist Ei;have Ct:(((jx M).filter (ya fr az)).map Prod.fst).Nodup:=by
   rw[Nw,yp];exact lY.imp (λ{a b} h (e:a.1=b.1)=>jw (a:=b.1) (by rw[e]at h;exact h))
  rcases DU _ _ v u H M a T hH Ct (λk hk=>by
   obtain⟨x,hx,rfl⟩:=dm.1 hk;exact⟨x,(ij.1 hx).1,rfl⟩)with⟨i1,i2,i3⟩|⟨i1,v',H',M',i2,CC⟩
  .rw[if_pos (by rw[i1];simp)];exact .inl ⟨i1,i2,i3⟩
  .rw[if_neg (by rw[i1];simp)];refine .inr ⟨by rw[eM],v',H',M',i2,CC.t,?_,CC.Gv,CC.h,CC.kp,CC.len⟩;rw[CC.m];apply List.filter_congr;intro x hx;have hi:(ya fr az x=true)↔x.1∈((jx M).filter (ya fr az)).map Prod.fst:=by
    refine⟨λh=>dm.2 ⟨x,ij.2 ⟨hx,h⟩,rfl⟩,λhm=>?_⟩;obtain⟨y,hy,e⟩:=dm.1 hm;have:=(ij.1 hy).2;unfold ya at this ⊢;rw[<-e];exact this
   by_cases hb:ya fr az x=true
   .rw[hb];have hm:=hi.1 hb;show _=false;rw[<-Sq,pE];intro h;have:=h _ hm;rw[decide_eq_true rfl]at this;exact absurd this (by simp)
   .have dn:ya fr az x=false:=by simpa using hb
    rw[dn];show _=true;rw[pE];intro k hk;rw[decide_eq_false (λe=>hb (hi.2 (by rw[e];exact hk)))];rfl
end
theorem rE(q:QS):∀i,(q.aT i).1.iK=q.iK
 |0=>rfl
 |i+1=>by
  rw[q8]
  split
  .exact rE q i
  .rw[qy];exact rE q i
theorem DW(q:QS):∀i,(q.aT i).2=11->∃q':QS,q'.iK=q.iK/\q'.a.free=0
 |0,h=>absurd h (by show ¬(0:Int)=11;decide)
 |i+1,h=>by
  rw[q8]at h
  split at h
  .exact DW q i h
  .exact⟨(q.aT i).1,rE q i,IZ h⟩
theorem DX{a b:Nat}(h:a<=b):cB a<=cB b:=by unfold cB;omega
section
variable{q:QS}{v o:Vw}{u m:Nat}
theorem Rd.j0(h:Rd q v o u m)(hK:∃n K,Wp q n K/\K<=999999999000):
  (q.aE.2=0/\Rd q.aE.1 v v (u+u+cB u) m)\/(q.aE.2=11/\Rd q.aE.1 v o u m/\m<u+cB u+1):=by
 obtain⟨n,K,w,hk⟩:=hK;obtain⟨c1,c2,c3⟩:=w.j0 hk;have hb:=rE q q.l.length;obtain⟨e1,e2,e3⟩:=qA hb;have oX:q.aE.1.a.many=q.a.many/\((q.aE.2=0->q.aE.1.a.now.length+q.aE.1.a.kept<=u+u+cB u)/\(q.aE.2=11->q.aE.1.iK=q.iK/\m<u+cB u+1)):=by
  have hu:=h.u;have hm:=h.m;unfold QS.aE;rw[if_neg (by rw[sP w.N];omega)]
  by_cases Od:(q.aT q.l.length).2=0
  .rw[if_neg (by rw[Od];simp)];unfold St.aE
   by_cases hf:(q.aT q.l.length).1.a.free<cB (q.aT q.l.length).1.a.dH.length
   .rw[if_pos hf];refine⟨e2,λh0=>absurd h0 (by show ¬(11:Int)=0;decide),λ_=>⟨hb,?_⟩⟩;have h1:=zJ (q.aT q.l.length).1.a;have h2:=DX (a:=(q.aT q.l.length).1.a.dH.length) (b:=u) (by omega);have h3:(q.aT q.l.length).1.a.fresh<=(q.aT q.l.length).1.a.now.length:=uX;unfold St.free at hf;omega
   .rw[if_neg hf];refine⟨e2,λ_=>?_,λh0=>absurd h0 (by show ¬(0:Int)=11;decide)⟩;have h1:=zJ (q.aT q.l.length).1.a;have h2:=DX (a:=(q.aT q.l.length).1.a.dH.length) (b:=u) (by omega);show(gl (q.aT q.l.length).1.a.dH).length+((q.aT q.l.length).1.a.dH.countP Option.isSome+cB (q.aT q.l.length).1.a.dH.length)<=_;have h3:(q.aT q.l.length).1.a.dH.countP Option.isSome<=(q.aT q.l.length).1.a.dH.length:=uX
    rw[Hh];omega
  .rw[if_pos (by exact Od)];refine⟨e2,λh0=>absurd h0 Od,λIQ=>⟨hb,?_⟩⟩;obtain⟨q',f1,f2⟩:=DW q _ IQ;obtain⟨g1,g2,g3⟩:=qA f1;have:=I2 (a:=q'.a) (u:=u) (by omega)
   rcases dX u q'.a.many with h9|h9
   .exact absurd f2 (this h9)
   .omega
 obtain⟨s1,s2,s3⟩:=oX
 rcases c3 with⟨c3,c4⟩|⟨c3,c4⟩
 .exact .inl ⟨c3,⟨⟨n,_,c1⟩,λj hj=>absurd hj ((A0 w).2 c3 j),λj=>(c2 j).trans (h.v j),λj=>(c4 j).trans (h.v j),s2 c3,by rw[s1];exact h.m⟩⟩
 .obtain⟨s4,s5⟩:=s3 c3;obtain⟨g1,g2,g3⟩:=qA s4;exact .inr ⟨c3,⟨⟨n,_,c1⟩,λj hj=>h.t j ((A0 w).1 j hj),λj=>(c2 j).trans (h.v j),λj=>(c4 j).trans (h.o j),by rw[g1];exact h.u,by rw[s1];exact h.m⟩,s5⟩
theorem Rd.abort(h:Rd q v o u m):∃u',Rd q.bY o o u' m:=by
 obtain⟨n,K,w⟩:=h.w;obtain⟨a1,a2,a3⟩:=w.abort;exact⟨_,⟨n,K,a1⟩,λj hj=>absurd hj (abort_t q j),λj=>(a2 j).trans (h.o j),λj=>(a3 j).trans (h.o j),Nat.le_refl _,h.m⟩
theorem Nc(q:QS)(hl:1<=q.l.length)(p:Int):(q.bY.aZ p).2.2≠11:=by
 have hn:∀f∈q.bY.l,f=Fr.nil:=λf hf=>ng hf;have hlen:q.bY.l.length=q.l.length:=ev;have hf0:findF q.bY.l p= -1:=by
  rcases fX q.bY.l p with e|⟨k,f,e,hk,he,hp⟩
  .exact e
  .rw[hn f (ay hk)]at he;exact absurd he (by show ¬(-1:Int)=p;omega)
 intro h;unfold QS.aZ at h;rw[if_neg (by rw[hf0];omega)]at h
 split at h
 .rename_i h1;have h:(q.bY.a.aK p).2=11:=h;unfold St.aK at h
  split at h
  .exact absurd h (by simp)
  .exact absurd h (by simp)
 .split at h
  .exact absurd h (by simp)
  .split at h
   .have h:(q.bY.aH.1.bI q.bY.aH.2.toNat).2=11:=h;have h0:q.bY.l[0]?=some Fr.nil:=by
     rw[aG (by omega)];exact congrArg some (hn _ (kt _))
    have hix:Gs (λf=>decide (f.an<0)) q.bY.l=((0:Nat):Int):=ub h0 (by decide) (λj a hj _=>absurd hj (by omega));have hv:q.bY.aH=(q.bY,((0:Nat):Int)):=by
     unfold QS.aH;rw[hix,if_pos (by omega)]
    rw[hv]at h;have hb:q.bY.bI 0=(q.bY,0):=by
     unfold QS.bI;rw[nr h0,if_neg (by decide)]
    have h:(q.bY.bI 0).2=11:=h;rw[hb]at h;exact absurd h (by simp)
   .exact absurd h (by simp)
theorem Nf(h:Rd q v o u m)(p:Int):(q.bY.bh p).2=gm o p:=by
 obtain⟨u',R⟩:=h.abort;obtain⟨n,K,w⟩:=h.w;obtain⟨a,b⟩:=R.get p;have fc:(q.bY.cU p).2.2≠11:=λe=>by
  unfold QS.cU at e
  split at e
  .exact Nc q w.H.l1 p e
  .exact absurd e (by simp)
 unfold QS.bh gm
 rcases b with⟨b1,b2⟩|⟨b1,b2⟩|⟨b1,b2⟩
 .rw[b2,if_neg (by simp),if_neg (by omega)]
 .rw[b2,b1,if_pos (by simp),if_pos (by simp)]
 .exact absurd (by rw[b1]) fc
theorem WB(w:∃n K,Wp q n K){j:Int}(h0:(q.vw j).2=0):q.a.jK.length≠0:=by
 obtain⟨n,K,w⟩:=w;have h1:(q.a.aK j).2=0:=by
  rcases fY q j with ho|⟨k,f,hk,rfl,hp⟩
  .rw[eA ho]at h0;exact h0
  .exact w.V.ex f (ay hk) hp
 have h2:=mW.1 h1;obtain⟨h3,h4⟩:=ia h2;unfold St.at at h2;rw[if_pos h3]at h2;unfold St.jK;rw[pS _ _ (Nat.le_refl _),fL];intro hz;rw[JM]at hz
 cases hx:q.a.now[j.toNat]? with
 |none=>rw[hx]at h2;cases h2
 |some x=>
  rw[hx]at h2;exact hz x (ay hx) h2
theorem Ng{H:Nat}{M:List MT}(R:Rd q v o u m)(T:Tree o H M):∃u',Rd q.bY.kq.1 o o u' m/\q.bY.kq.2=0:=by
 obtain⟨u',R'⟩:=R.abort;have h0:(o 0).2=0:=T.xY 0 (by rw[iw];simp);have hp:=WB R'.w (j:=0) (by rw[R'.v];exact h0);unfold QS.kq QS.xT;rw[if_neg hp,if_neg (by simp)];refine⟨u',(R'.read 0).1,?_⟩;show(q.bY.bh 0).2.2.2=0;rw[Nf R,(Ga T.ok).1]
end
variable{q:QS}{v:Vw}{u H:Nat}{M:List MT}
def Gg(l:List PR)(key:ByteArray):List PR:=l.filter λx=>decide (gq x.1 key)
def DY(l:List PR)(key:ByteArray):List PR:=l.filter λx=>decide (x.1=key)
def qG(l:List PR)(key:ByteArray):List PR:=l.filter λx=>decide (gq key x.1)
theorem filter_all{α:Type}{p:α->Bool}{l:List α}(h:∀x∈l,p x=true):l.filter p=l:=vd.2 h
theorem filter_none{α:Type}{p:α->Bool}{l:List α}(h:∀x∈l,p x=false):l.filter p=[]:=JR.2 λx hx=>by rw[h x hx];simp
theorem tw{a b:ByteArray}(h:gq a b):a≠b:=λe=>jw (by rwa [e]at h)
theorem MW.parts{l:List PR}{key:ByteArray}{A C B:List PR}(d:MW l key A C B):A=Gg l key/\C=DY l key/\B=qG l key:=by
 have hC:∀x∈C,x.1=key:=λx hx=>by
  rcases d.c with h|⟨y,h⟩
  .rw[h]at hx;simp at hx
  .rw[h]at hx;rw[aI.1 hx]
 unfold Gg DY qG;rw[d.e];simp only[uZ];refine⟨?_,?_,?_⟩
 .rw[filter_all (l:=A) (λx hx=>decide_eq_true (d.a x hx)),filter_none (l:=C) (λx hx=>decide_eq_false (λh=>tw h (hC x hx))),filter_none (l:=B) (λx hx=>decide_eq_false (λh=>jw (iU h (d.b x hx))))];simp
 .rw[filter_none (l:=A) (λx hx=>decide_eq_false (tw (d.a x hx))),filter_all (l:=C) (λx hx=>decide_eq_true (hC x hx)),filter_none (l:=B) (λx hx=>decide_eq_false (λh=>tw (d.b x hx) h.symm))];simp
 .rw[filter_none (l:=A) (λx hx=>decide_eq_false (λh=>jw (iU h (d.a x hx)))),filter_none (l:=C) (λx hx=>decide_eq_false (λh=>tw h (hC x hx).symm)),filter_all (l:=B) (λx hx=>decide_eq_true (d.b x hx))];simp
def D0(l:List PR)(key value:ByteArray):List PR:=Gg l key++(key,value)::qG l key
def OT(l:List PR)(key:ByteArray):List PR:=Gg l key++qG l key
theorem wt1:Jc (λ_=>1) 34:=λ_=>by show 39*1+34<=yO _*1;unfold yO;split<;>omega
section
variable{o:Vw}{mm:Nat}
theorem D4(R:Rd q v o u mm)(T:Tree v H M)(hH:H<=15)(key value:ByteArray)(hk:key.size<=32)(hv:value.size<=1024):
  ((q.iD key value).2=11/\∃v' u',Rd (q.iD key value).1 v' o u' mm/\u'<=u+H+8/\(mm<=u'\/512<=u'))\/
  ((q.iD key value).2=0/\∃v' H' M' new A C B h c,Rd (q.iD key value).1 v' o (u+new) mm/\SetP v v' H M key value H' M' new A C B h c/\jx M'=D0 (jx M) key value):=by
 refine(Wo R T hH key value hk hv).imp id ?_;rintro⟨h1,v',H',M',new,A,C,B,h,c,h2,h3⟩;obtain⟨d1,d2,d3⟩:=h3.d.parts;exact⟨h1,v',H',M',new,A,C,B,h,c,h2,h3,by rw[h3.m,d1,d3];rfl⟩
theorem D7(R:Rd q v o u mm)(T:Tree v 0 M)(key value:ByteArray)(hk:key.size<=32)(hv:value.size<=40)(hu:u+8<mm)(hu2:u+8<512){P:Nat}(hP:dQ (λ_=>1) (ao v 0 0)<=P)(hP2:P+key.size+value.size+7<34):
  (q.iD key value).2=0/\∃v' M',Rd (q.iD key value).1 v' o u mm/\Tree v' 0 M'/\jx M'=D0 (jx M) key value/\dQ (λ_=>1) (ao v' 0 0)<=P+key.size+value.size+7:=by
 rcases D4 R T (by omega) key value hk (by omega)with⟨a,v',u',b,c,d⟩|⟨a,v',H',M',new,A,C,B,h,c,b,S,hm⟩
 .omega
 .have p:=S.Gv (λ_=>1) 34 wt1;rw[if_pos hv]at p;have hh:H'=0:=by
   rcases S.h with e|⟨e,f⟩
   .exact e
   .have:=f (λ_=>1) 34 wt1;rw[show yO 0=73 from rfl]at this;rw[if_pos hv]at this;omega
  subst hh;rw[if_pos rfl]at p;have hn:=S.n;have hc:=S.c.2 hv;have h0:h=0:=by omega
  have hn0:new=0:=by omega
  rw[hn0]at b;exact⟨a,v',M',b,S.t,hm,by omega⟩
theorem Bt(R:Rd q v o u mm)(T:Tree v H M)(hH:H<=15)(key:ByteArray):
  Rd (q.nu key).1 v o u mm/\(((q.nu key).2.2=11/\mm<=u)\/(q.nu key).2=Jh (DY (jx M) key)):=by
 obtain⟨a,b⟩:=Wn R T hH key;refine⟨a,b.imp id ?_⟩;rintro⟨A,C,B,d,e⟩;rw[e,d.parts.2.1]
theorem D8(R:Rd q v o u mm)(T:Tree v H M)(hH:H<=15)(key:ByteArray):
  ((q.iT key).2=11/\mm<=u/\∃v',Rd (q.iT key).1 v' o u mm)\/
  ((q.iT key).2=9/\Rd (q.iT key).1 v o u mm/\DY (jx M) key=[])\/
  ((q.iT key).2=0/\DY (jx M) key≠[]/\∃v' H' M',Rd (q.iT key).1 v' o u mm/\Tree v' H' M'/\jx M'=OT (jx M) key/\(∀wt,dQ wt (ao v' H' 0)<=dQ wt (ao v H 0))/\H'<=H/\(∀j∈iW M',j∈iW M/\v' j=v j)/\(ao v' H' 0).length<=(ao v H 0).length):=by
 refine(Jj R T hH key).imp id (Or.imp ?_ ?_)
 .rintro⟨a,b,A,B,d⟩;exact⟨a,b,d.parts.2.1.symm⟩
 .rintro⟨a,v',H',M',A,B,y,b,d⟩;obtain⟨d1,d2,d3⟩:=d.d.parts;exact⟨a,by rw[<-d2];simp,v',H',M',b,d.t,by rw[d.m,d1,d3];rfl,d.Gv,d.h,d.kp,d.len⟩
end
attribute [local go_sem ↓] Go.wp_at_zero Go.wp_at_succ bw
variable{w:World}{mb:Nat}{v:Value}{l:List PR}
structure Mp(w:World)(mb:Nat)(v:Value)(l:List PR):Prop where
 b:aF w mb 45 #[v]
 s:aS w 42 2 v l.length (kR l)
 n:l.length<=1000000
theorem Mp.below{w':World}(h:Mp w mb v l)(hb:Below w.heap.size w w'):Mp w' mb v l:=⟨h.b.below hb h.b.lt,h.s.below hb,h.n⟩
def pk:List PR->ByteArray->Nat
 |[],_=>0
 |x::l,k=>if gq x.1 k then pk l k+1 else 0
theorem Nh(k:ByteArray):∀l:List PR,pk l k<=l.length
 |[]=>Nat.le_refl _
 |x::l=>by unfold pk;split;(have:=Nh k l;simp;omega);exact bf _
theorem WC(k:ByteArray):∀(l:List PR) (i:Nat),i<pk l k->∃x,l[i]?=some x/\gq x.1 k
 |[],i=>λh=>absurd h (by unfold pk;omega)
 |x::l,i=>λh=>by
  unfold pk at h
  split at h
  .rename_i hx
   cases i with
   |zero=>exact⟨x,rfl,hx⟩
   |succ i=>exact WC k l i (by omega)
  .omega
theorem WD(k:ByteArray):∀(l:List PR),pk l k<l.length->∃x,l[pk l k]?=some x/\¬gq x.1 k
 |[]=>λh=>absurd h (by simp)
 |x::l=>λh=>by
  unfold pk at h ⊢
  split at h
  .rename_i hx;rw[if_pos hx];exact WD k l (by simp at h;omega)
  .rename_i hx;rw[if_neg hx];exact⟨x,rfl,hx⟩
def tE(l:List PR)(k:ByteArray):Bool:=match l[pk l k]? with|some x=>decide (x.1=k)|none=>false
theorem Gh(a b:ByteArray):Op.bytesLess a.toList b.toList=decide (gq a b):=by rw[cu,cu,Nd.Ol];rfl
theorem str_eq(a b:ByteArray):(a.toList==b.toList)=decide (a=b):=by
 rw[cu,cu]
 by_cases h:a=b
 .subst h;simp
 .rw[decide_eq_false h];simp only[beq_eq_false_iff_ne];intro e;exact h (mo (rS.1 e))
theorem prc_at(l:List PR)(i:Nat)(x:PR)(h:l[i]?=some x):(kR l)[i*2]?=some (.string x.1)/\(kR l)[i*2+1]?=some (.string x.2):=by
 induction l generalizing i with
 |nil=>simp at h
 |cons y l ih=>
  have e:kR (y::l)= .string y.1:: .string y.2::kR l:=rfl;rw[e]
  cases i with
  |zero=>simp at h;subst h;exact⟨rfl,rfl⟩
  |succ i=>
   have:=ih i (by simpa using h);rw[show(i+1)*2=i*2+1+1 by omega];simpa using this
theorem Mp.at(h:Mp w mb v l)(i:Nat)(x:PR)(hx:l[i]?=some x):∃g c,v=.slice (some ⟨g,0,none⟩) l.length c/\w.cell? ⟨g,i*2,none⟩=some (.string x.1)/\w.cell? ⟨g,i*2+1,none⟩=some (.string x.2):=by
 have hi:=(aM.1 hx).1;obtain⟨g,c,rest,e,B,_⟩:=h.s.form (by omega) (by omega);obtain⟨h1,h2⟩:=prc_at l i x hx;refine⟨g,c,e,?_,?_⟩
 .rw[B.cell,dh,bE (aM.1 h1).1];exact h1
 .rw[B.cell,dh,bE (aM.1 h2).1];exact h2
theorem yb(key fr az:ByteArray)(w:World):Calls prog 106 #[.string key,.string fr,.string az] w λe w'=>e=.returned (.bool (Cq fr az key))/\w=w':=by
 have c1:Op.bytesLess key.toList fr.toList= !decide (oT fr key):=by
  rw[Gh];have h:=Nd.FM fr.data.toList key.data.toList
  by_cases hk:oT fr key
  .rw[decide_eq_true hk,decide_eq_false (by show ¬Nd.cb _ _<0;have:Nd.cb fr.data.toList key.data.toList<=0:=hk;omega)];rfl
  .rw[decide_eq_false hk,decide_eq_true (by show Nd.cb _ _<0;have:¬Nd.cb fr.data.toList key.data.toList<=0:=hk;omega)];rfl
 have c2:=Gh key az;have c3:az.toList.isEmpty=decide (az.size=0):=by
  rw[cu]
  by_cases h:az.size=0
  .rw[decide_eq_true h,show az=⟨#[]⟩from mo (zal0q h)];rfl
  .rw[decide_eq_false h]
   cases hl:az.data.toList with
   |nil=>exact absurd (show az.data.toList.length=0 by rw[hl];rfl) h
   |cons a b=>rfl
 unfold Cq;generalize decide (oT fr key)=a at *;generalize decide (gq key az)=b at *;generalize decide (az.size=0)=d at *
 cases a<;>cases b<;>cases d
 all_goals
  go_enter func106,ntmps106;go_wp2_with fail;go_ret;exact aP (by first|rfl|trivial)
theorem Gj(h:Mp w mb v l)(key:ByteArray):
  Calls prog 105 #[.pointer (some ⟨mb,0,none⟩),.string key] w λe w'=>e=.returned (.tuple #[.int .i64 (pk l key:Nat),.bool (tE l key)])/\Below w.heap.size w w':=by
 obtain⟨A,c,rfl⟩:=ax h.s;have x0:=h.b.ab (i:=0) rfl;have hn:=h.n;have HM:=xh h;have HLE:=xh (Nh key l);have pQ:=xh (WC key l);have HAT:=xh (WD key l);obtain⟨ln,mM⟩:∃ln,l.length=ln:=⟨_,rfl⟩;have yf:=xh mM;obtain⟨at_,hat⟩:∃a,pk l key=a:=⟨_,rfl⟩;have HATE:=xh hat;rw[hat]at HLE pQ HAT ⊢;rw[mM]at HLE HAT x0 hn;have O0:=xh (Below.refl w.heap.size w);obtain⟨bb,yg⟩:∃bb,tE l key=bb:=⟨_,rfl⟩;have HBB:=xh yg;rw[yg]
 clear h mM hat yg;go_enter func105,ntmps105;go_wp2_with fail
 go_loopw [6] (λiv wr=> ∃i:Nat,i<=at_/\iv=.int .i64 i/\wr=w) (λiv _=>ln-(intOf iv).toNat)
 case atStart=>exact⟨0,bf _,rfl,rfl⟩
 case round=>
  obtain⟨i,hi,rfl,rfl⟩:=hrel;have hle:=HLE.o
  by_cases h1:i<ln
  .have Sf:(i:Int)<(ln:Int):=by omega
   have ei:IntKind.i64.wrap ((i:Int)+1)=((i+1:Nat):Int):=IntWalk.i64_in _ (by omega)
   by_cases h2:i<at_
   .obtain⟨x,hx,hk⟩:=pQ.o i h2;obtain⟨g,c',hv,d0,_⟩:=HM.o.at i x hx;injection hv with po pB Gp
    subst po;have c1:=(Gh x.1 key).trans (decide_eq_true hk);clear pB Gp hx hk;go_wp2_with fail;go_roundw
    case rel=>exact⟨i+1,by omega,by go_num,by trivial⟩
    case measure=>simp[intOf];omega
   .obtain rfl:i=at_:=by omega
    obtain⟨x,hx,hk⟩:=HAT.o h1;obtain⟨g,c',hv,d0,_⟩:=HM.o.at i x hx;injection hv with po pB Gp
    subst po;have c1:=(Gh x.1 key).trans (decide_eq_false (by first|exact hk|exact Int.not_lt.2 hk));have c2:=str_eq x.1 key;have dn:bb=decide (x.1=key):=by rw[<-HBB.o];unfold tE;rw[HATE.o,hx]
    rw[<-dn]at c2;clear pB Gp hx hk dn;have S0:=xh (show wr.drew.cell? ⟨mb,0,none⟩=some (.slice (some ⟨g,0,none⟩) ln c)/\wr.drew.cell? ⟨g,i*2,none⟩=some (.string x.1)from⟨x0,d0⟩);go_wp2_with fail;refine wp_region_held_drew (S:=λW=>W.cell? ⟨mb,0,none⟩=some (.slice (some ⟨g,0,none⟩) ln c)/\W.cell? ⟨g,i*2,none⟩=some (.string x.1)) (by kernel_rfl) (S0.o) (λau=>?_)
    refine cP [(0,28),(1,29),(2,30),(3,31),(4,32),(5,33),(6,34),(7,35),(8,36),(9,37),(10,38),(11,39),(12,40),(13,41),(14,42),(15,43),(16,44),(17,45),(18,46),(19,47),(20,4),(21,5)] ?_
    iterate 22 refine bj ?_
    refine wpAnyH_done (by kernel_rfl) ?_ _;go_wp2_with fail;go_ret2;exact aP O0.o.drew
  .obtain rfl:i=at_:=by omega
   have Sf:¬(i:Int)<(ln:Int):=by omega
   have dn:bb=false:=by
    rw[<-HBB.o];unfold tE;rw[HATE.o,fG (by have:=yf.o;omega)]
   have FJ:=xh dn;clear dn;have S0:=xh (show wr.drew.cell? ⟨mb,0,none⟩=some (.slice A ln c)from x0);go_wp2_with fail;refine wp_region_held_drew (S:=λW=>W.cell? ⟨mb,0,none⟩=some (.slice A ln c)) (by kernel_rfl) (S0.o) (λau=>?_);refine cP [(0,28),(1,29),(2,30),(3,31),(4,32),(5,33),(6,34),(7,35),(8,36)] ?_
   iterate 9 refine bj ?_
   refine cA 9 37 ?_;refine cA 10 38 ?_;refine cA 11 39 ?_;refine cA 12 40 ?_;refine cA 13 41 ?_;refine cA 14 42 ?_;refine cA 15 43 ?_;refine cA 16 44 ?_;refine cA 17 45 ?_;refine cA 18 46 ?_;refine cP [(19,47),(20,4),(21,5)] ?_
   iterate 3 refine bj ?_
   refine wpAnyH_done (by kernel_rfl) ?_ _;go_wp2_with fail;go_ret2;rw[FJ.o];exact aP O0.o.drew
variable{w:World}{mb:Nat}{v:Value}{l:List PR}
def qH(l:List PR)(key:ByteArray):ByteArray×Int:=if tE l key=true then(((l[pk l key]?).getD (⟨#[]⟩,⟨#[]⟩)).2,0)else(⟨#[]⟩,9)
def je(fr az:ByteArray)(n:Int)(l:List PR):List PR:=l.foldl (λo x=>if Cq fr az x.1=true/\(o.length:Int)<n then o++[x]else o) []
def oV(fr az:ByteArray)(l:List PR):List PR:=l.filter λx=> !Cq fr az x.1
theorem Bu(fr az:ByteArray)(n:Int)(l:List PR)(i:Nat)(x:PR)(h:l[i]?=some x):je fr az n (l.take (i+1))=if Cq fr az x.1=true/\((je fr az n (l.take i)).length:Int)<n then je fr az n (l.take i)++[x]else je fr az n (l.take i):=by
 unfold je;rw[tN,h,List.foldl_append];rfl
theorem rF(fr az:ByteArray)(n:Int)(l:List PR):∀i,(je fr az n (l.take i)).length<=i
 |0=>by simp[je]
 |i+1=>by
  have ih:=rF fr az n l i
  cases h:l[i]? with
  |none=>
   have e:l.take (i+1)=l.take i:=by rw[tN,h];simp
   rw[e];omega
  |some x=>
   rw[Bu fr az n l i x h]
   split
   .rw[aO];simp;omega
   .omega
theorem RF(fr az:ByteArray)(l:List PR)(i:Nat)(x:PR)(h:l[i]?=some x):oV fr az (l.take (i+1))=if Cq fr az x.1=true then oV fr az (l.take i)else oV fr az (l.take i)++[x]:=by
 unfold oV;rw[tN,h,uZ]
 cases hx:Cq fr az x.1<;>simp[hx]
theorem WE(fr az:ByteArray)(l:List PR)(i:Nat):(oV fr az (l.take i)).length<=i:=by
 unfold oV;exact aq (El _ _) (by rw[bK];omega)
theorem WG(h:Mp w mb v l)(key:ByteArray):
  Calls prog 107 #[.pointer (some ⟨mb,0,none⟩),.string key] w λe w'=>e=.returned (.tuple #[.string (qH l key).1,.int .i64 (qH l key).2])/\Below w.heap.size w w':=by
 have KA:=xh (Gj h key);unfold qH
 cases hb:tE l key with
 |false=>
  rw[hb]at KA;rw[if_neg (by simp)];clear h hb;go_enter func107,ntmps107;go_wp2_with fail;refine KA.o.mono ?_;rintro e w1 ⟨rfl,bg⟩;have O1:=xh bg;clear bg;go_wp2_with fail;go_ret2;exact aP O1.o
 |true=>
  rw[hb]at KA;rw[if_pos rfl];obtain⟨x,hx⟩:∃x,l[pk l key]?=some x:=by
   cases hx:l[pk l key]? with
   |none=>unfold tE at hb;rw[hx]at hb;cases hb
   |some x=>exact⟨x,rfl⟩
  rw[hx];have dP:=(aM.1 hx).1;have hn:=h.n;have HM:=xh h;have HX:=xh hx;obtain⟨k,hk⟩:∃k,pk l key=k:=⟨_,rfl⟩;obtain⟨ln,mM⟩:∃ln,l.length=ln:=⟨_,rfl⟩;have yf:=xh mM;rw[hk]at KA HX dP;rw[mM]at dP hn;have hltI:(k:Int)<(ln:Int):=by omega
  dsimp only[Option.getD];clear h hb hx hk mM;go_enter func107,ntmps107;go_wp2_with fail;refine KA.o.mono ?_;rintro e w1 ⟨rfl,bg⟩;have O1:=xh bg;have M1:=HM.o.below bg;have x0:=M1.b.ab (i:=0) rfl;obtain⟨g,c,rfl,d0,d1⟩:=M1.at k x HX.o;rw[yf.o]at x0;clear bg M1;go_wp2_with fail;go_ret2;exact aP O1.o
theorem D9(h:Mp w mb v l)(fr az:ByteArray)(n:Int):
  Calls prog 108 #[.pointer (some ⟨mb,0,none⟩),.string fr,.string az,.int .i64 n] w λe w'=> ∃v',e=.returned v'/\aS w' 42 2 v' (je fr az n l).length (kR (je fr az n l))/\Below w.heap.size w w'/\(∀g∈ah v',w.heap.size<=g):=by
 obtain⟨A,c,rfl⟩:=ax h.s;have hn:=h.n;have HM:=xh h;obtain⟨ln,mM⟩:∃ln,l.length=ln:=⟨_,rfl⟩;have yf:=xh mM;rw[mM]at hn;have x0:=h.b.ab (i:=0) rfl;rw[mM]at x0;have KW:=xh yb;have HSU:=xh (Bu fr az n l);have Sd:=xh (rF fr az n l);have HF:=xh (show je fr az n l=je fr az n (l.take ln) by rw[<-mM,fL]);have HO0:=xh (show je fr az n (l.take 0)=[]from rfl);clear h mM
 go_enter func108,ntmps108;go_wp2_with fail
 go_loopw [9,10] (λov iv wr=> ∃(i:Nat) (out:List PR),i<=ln/\iv=.int .i64 i/\Hid (je fr az n (l.take i)=out)/\aS wr 42 2 ov out.length (kR out)/\Hid (Below w.heap.size w wr)/\Hid (∀g∈ah ov,w.heap.size<=g)) (λ_ iv _=>ln-(intOf iv).toNat)
 case atStart=>exact⟨0,[],bf _,rfl,HO0,aS.nil _ _ _,xh (Below.refl _ _),xh (by simp[ah])⟩
 case round=>
  obtain⟨i,out,hi,rfl,HO,S,O,FO⟩:=hrel;clear x0;have x0:=(HM.o.below O.o).b.ab (i:=0) rfl;rw[yf.o]at x0;obtain⟨VO,co,rfl⟩:=ax S;have hol:=Sd.o i;rw[HO.o]at hol
  by_cases h1:i<ln
  .have Sf:(i:Int)<(ln:Int):=by omega
   obtain⟨x,HX⟩:∃x,Hid (l[i]?=some x):=⟨_,xh (aG (by rw[yf.o];exact h1))⟩;obtain⟨g,c',hv,d0,d1⟩:=(HM.o.below O.o).at i x HX.o;injection hv with po pB Gp
   subst po;clear pB Gp;have ei:IntKind.i64.wrap ((i:Int)+1)=((i+1:Nat):Int):=IntWalk.i64_in _ (by omega);have hs:=HSU.o i x HX.o;rw[HO.o]at hs
   by_cases h2:Cq fr az x.1=true
   .by_cases h3:(out.length:Int)<n
    .rw[if_pos ⟨h2,h3⟩]at hs;have HO7:=xh hs;have GX:=xh (KW.o x.1 fr az wr);rw[h2]at GX;clear hs h2;go_wp2_with fail;refine GX.o.mono ?_;rintro e _ ⟨rfl,rfl⟩;obtain⟨v',w7,ea,S7,o7,f7⟩:=wS S x.1 x.2 (by omega);obtain⟨V7,c7,rfl⟩:=ax S7;have hpr:kR out++[Value.string x.1,Value.string x.2]=kR (out++[x]):=by rw[rD];rfl
     rw[hpr]at S7;have S7:=xh (show aS w7 42 2 (.slice V7 (out.length+1) c7) (out++[x]).length (kR (out++[x]))from by rw[aO];exact S7);have O7:=xh (O.o.trans (o7.aJ O.o.size FO.o));have F7:=xh (show ∀g'∈ah (.slice V7 (out.length+1) c7),w.heap.size<=g' from λg' hg=>(f7 g' hg).elim (FO.o g') (λh=>aq O.o.size h));have EA:=xh ea;clear ea o7 f7 hpr S;generalize out.length=ol at *;go_wp2_with fail;rw[EA.o];go_wp2_with fail
     go_roundw
     case rel=>exact⟨i+1,out++[x],by omega,by go_num,HO7,S7.o,O7,F7⟩
     case measure=>simp[intOf];omega
    .rw[if_neg (λh=>h3 h.2)]at hs;have HO7:=xh hs;have GX:=xh (KW.o x.1 fr az wr);rw[h2]at GX;have S7:=xh S;clear hs h2 S;go_wp2_with fail;refine GX.o.mono ?_;rintro e _ ⟨rfl,rfl⟩;go_wp2_with fail;go_roundw
     case rel=>exact⟨i+1,out,by omega,by go_num,HO7,S7.o,O,FO⟩
     case measure=>simp[intOf];omega
   .rw[if_neg (λh=>h2 h.1)]at hs;have HO7:=xh hs;have GX:=xh (KW.o x.1 fr az wr);rw[Sq]at h2;rw[h2]at GX;have S7:=xh S;clear hs h2 S;go_wp2_with fail;refine GX.o.mono ?_;rintro e _ ⟨rfl,rfl⟩;go_wp2_with fail;go_roundw
    case rel=>exact⟨i+1,out,by omega,by go_num,HO7,S7.o,O,FO⟩
    case measure=>simp[intOf];omega
  .have Sf:¬(i:Int)<(ln:Int):=by omega
   obtain rfl:i=ln:=by omega
   have S7:=xh S;have hf:=HF.o;rw[HO.o]at hf;have HF7:=xh hf;clear S hf;go_wp2_with fail;go_ret;rw[HF7.o];exact⟨_,by first|rfl|simp,S7.o,O.o,FO.o⟩
theorem Ni(h:Mp w mb v l)(fr az:ByteArray):
  Calls prog 56 #[.pointer (some ⟨mb,0,none⟩),.string fr,.string az] w λe w'=>e=.returned (.int .i64 ((l.length:Int)-(oV fr az l).length))/\∃v',Mp w' mb v' (oV fr az l)/\ag [mb] w w'/\(∀g∈ah v',w.heap.size<=g):=by
 obtain⟨A,c,rfl⟩:=ax h.s;have hn:=h.n;have HM:=xh h;obtain⟨ln,mM⟩:∃ln,l.length=ln:=⟨_,rfl⟩;have yf:=xh mM;rw[mM]at hn;have x0:=h.b.ab (i:=0) rfl;rw[mM]at x0;have KW:=xh yb;have HMB:=xh h.b.lt;have HSU:=xh (RF fr az l);have Sd:=xh (WE fr az l);have HF:=xh (show oV fr az l=oV fr az (l.take ln) by rw[<-mM,fL]);have HO0:=xh (show oV fr az (l.take 0)=[]from rfl);clear h mM
 go_enter func56,ntmps56;go_wp2_with fail
 go_loopw [7,8] (λov iv wr=> ∃(i:Nat) (out:List PR),i<=ln/\iv=.int .i64 i/\Hid (oV fr az (l.take i)=out)/\aS wr 42 2 ov out.length (kR out)/\Hid (Below w.heap.size w wr)/\Hid (∀g∈ah ov,w.heap.size<=g)) (λ_ iv _=>ln-(intOf iv).toNat)
 case atStart=>exact⟨0,[],bf _,rfl,HO0,aS.nil _ _ _,xh (Below.refl _ _),xh (by simp[ah])⟩
 case round=>
  obtain⟨i,out,hi,rfl,HO,S,O,FO⟩:=hrel;clear x0;have BB:=(HM.o.below O.o).b;have x0:=BB.ab (i:=0) rfl;have f0:=BB.frozen 0 (by simp);rw[yf.o]at x0;obtain⟨VO,co,rfl⟩:=ax S;have hol:=Sd.o i;rw[HO.o]at hol
  by_cases h1:i<ln
  .have Sf:(i:Int)<(ln:Int):=by omega
   clear f0 BB;obtain⟨x,HX⟩:∃x,Hid (l[i]?=some x):=⟨_,xh (aG (by rw[yf.o];exact h1))⟩;obtain⟨g,c',hv,d0,d1⟩:=(HM.o.below O.o).at i x HX.o;injection hv with po pB Gp
   subst po;clear pB Gp;have ei:IntKind.i64.wrap ((i:Int)+1)=((i+1:Nat):Int):=IntWalk.i64_in _ (by omega);have hs:=HSU.o i x HX.o;rw[HO.o]at hs
   by_cases h2:Cq fr az x.1=true
   .rw[if_pos h2]at hs;have HO7:=xh hs;have GX:=xh (KW.o x.1 fr az wr);rw[h2]at GX;have S7:=xh S;clear hs h2 S;go_wp2_with fail;refine GX.o.mono ?_;rintro e _ ⟨rfl,rfl⟩;go_wp2_with fail;go_roundw
    case rel=>exact⟨i+1,out,by omega,by go_num,HO7,S7.o,O,FO⟩
    case measure=>simp[intOf];omega
   .rw[if_neg h2]at hs;have HO7:=xh hs;have GX:=xh (KW.o x.1 fr az wr);rw[Sq]at h2;rw[h2]at GX;clear hs h2;go_wp2_with fail;refine GX.o.mono ?_;rintro e _ ⟨rfl,rfl⟩;obtain⟨v',w7,ea,S7,o7,f7⟩:=wS S x.1 x.2 (by omega);obtain⟨V7,c7,rfl⟩:=ax S7;have hpr:kR out++[Value.string x.1,Value.string x.2]=kR (out++[x]):=by rw[rD];rfl
    rw[hpr]at S7;have S7:=xh (show aS w7 42 2 (.slice V7 (out.length+1) c7) (out++[x]).length (kR (out++[x]))from by rw[aO];exact S7);have O7:=xh (O.o.trans (o7.aJ O.o.size FO.o));have F7:=xh (show ∀g'∈ah (.slice V7 (out.length+1) c7),w.heap.size<=g' from λg' hg=>(f7 g' hg).elim (FO.o g') (λh=>aq O.o.size h));have EA:=xh ea;clear ea o7 f7 hpr S;generalize out.length=ol at *;go_wp2_with fail;rw[EA.o];go_wp2_with fail
    go_roundw
    case rel=>exact⟨i+1,out++[x],by omega,by go_num,HO7,S7.o,O7,F7⟩
    case measure=>simp[intOf];omega
  .have Sf:¬(i:Int)<(ln:Int):=by omega
   obtain rfl:i=ln:=by omega
   have hf:=HF.o;rw[HO.o]at hf;have e1:IntKind.i64.wrap ((i:Int)-(out.length:Int))=(i:Int)-(out.length:Int):=IntWalk.i64_in _ (by omega);have fc:=dk S BB (by decide);have o1:ag [mb] wr (wr.setCell ⟨mb,0,none⟩ (.slice VO out.length co)):=(ag.refl _ _).setCell (by simp) _;have M7:=xh (show Mp (wr.setCell ⟨mb,0,none⟩ (.slice VO out.length co)) mb (.slice VO out.length co) out from⟨BB.bU 0 _,S.only o1 (λg hg hm=>fc (by rw[<-aI.1 hm];exact hg)),by omega⟩)
   have O7:=xh ((ag.ai (S:=[mb]) O.o).trans o1);have HF7:=xh hf;clear S hf fc o1 BB;obtain⟨ol,hol2⟩:∃ol,out.length=ol:=⟨_,rfl⟩;have HOL:=xh hol2;rw[hol2]at e1 M7 O7 FO ⊢;clear hol2 hol;go_wp2_with fail;go_ret;rw[HF7.o,yf.o,HOL.o];exact aP ⟨_,M7.o,O7.o,FO.o⟩
end Sh
end Go.Proofs.YtmonobkginiajaaGreat
