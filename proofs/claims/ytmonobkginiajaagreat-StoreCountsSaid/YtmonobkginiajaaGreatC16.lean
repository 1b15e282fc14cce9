/- packed. -/
import Derived.Deep.Cut
import Derived.Deep.CutRange
import Derived.Test.YtmonobkginiajaaGreatC15
import Derived.Test.YtmonobkginiajaaGreatC14
import Derived.Lib.Bytealg
import Derived.Laws.StructEq
import Derived.Deep.Grids
import Derived.Deep.Slices
set_option linter.all false
set_option maxRecDepth 100000
set_option maxHeartbeats 8000000
namespace Go.Proofs.YtmonobkginiajaaGreat.Nd
variable{w:World}{t g j:Nat}{u:TypeId}{l:List E}{rest:List Value}{j7 R:Int}
section
open Go.RowKit Sl
attribute [local go_sem ↓] Go.wp_at_zero Go.wp_at_succ aW
def gZ(l:List E)(i:Nat):Int:=max ((ai (l.take i):Int)-((ai l:Int)-ai (l.take i))) ((ai l:Int)-ai (l.take i)-ai (l.take i))
def pP(l:List E)(m t:Nat):Prop:=1<=t/\t<m/\(∀j,1<=j->j<m->gZ l t<=gZ l j)/\∀j,1<=j->j<t->gZ l t<gZ l j
theorem pQ(l:List E)(k:Nat):(ax l).take (k*3)=ax (l.take k):=by
 induction l generalizing k with
 |nil=>simp[ax]
 |cons e l ih=>
  cases k with
  |zero=>simp[ax]
  |succ k=>
   rw[iu,vR,iu,show(k+1)*3=e.cells.length+k*3 by simp[E.cells];omega,List.take_length_add_append,ih]
theorem jt(l:List E)(k:Nat):(ax l).drop (k*3)=ax (l.drop k):=by
 induction l generalizing k with
 |nil=>simp[ax]
 |cons e l ih=>
  cases k with
  |zero=>simp[ax]
  |succ k=>
   rw[iu,List.drop_succ_cons,show(k+1)*3=e.cells.length+k*3 by simp[E.cells];omega,List.drop_length_add_append,ih]
theorem iQ(l:List E):∀v∈ax l,v.oneCell'=true:=by
 intro v hv;simp only[ax,mQ]at hv;obtain⟨e,_,hv⟩:=hv;simp[E.cells]at hv
 rcases hv with rfl|rfl|rfl<;>rfl
theorem qv{P:Program}{t:TypeId}{v:Value}{n:Nat}{l0:List E}(S:aQ w t 3 v n (ax l0))(B:aD w g u (ax l++rest).toArray)(o m c:Nat)(hom:o+m<=l.length)
 (T ty:TypeId)(z:Value)(bytes:Nat)(ht:P.underlying T=some (.slice t))(kg:(P.info? t).map (λi=>(i.zero,i.size,i.bytes))=some (some z,3,bytes))(hz:z.cells.size=3)
 (xE:n+m<=maxLen)(hb:(n+m)*bytes<=140737488355328):
  ∃v' w',dG P T ty w v (.slice (some ⟨g,o*3,none⟩) m c)= .ok v' w'/\aQ w' t 3 v' (n+m) (ax (l0++(l.drop o).take m))/\ag (ah v) w w'/\(∀x∈ah v',x∈ah v\/w.heap.size<=x):=by
 obtain⟨i0,hi,jb,gW,iS⟩:=info_parts kg;have hlen:(ax ((l.drop o).take m)).length=m*3:=by rw[al,cE,dg];congr 1;omega
 obtain⟨v',w',h1,h2,h3,h4⟩:=cQ (P:=P) S T ty i0 z bytes ht hi jb gW iS hz (by omega)
  ⟨g,o*3,none⟩ m c (ax ((l.drop o).take m)) hlen (λj x hx=>by
   have hj:j<m*3:=by rw[<-hlen];exact(aR.1 hx).1
   rw[gU];refine(B.cell _).trans ?_;rw[<-pQ,<-jt,zV,if_pos hj,gF]at hx;rw[cW,bx (by rw[al];omega)];exact hx) (iQ _) xE hb
 exact⟨v',w',h1,by rw[eI];exact h2,h3,h4⟩
theorem EF(B:aD w g u (ax l++rest).toArray)(j:Nat)(e:E)(he:l[j]?=some e):kW w (some ⟨g,j*3,none⟩) 1 [e]:=by
 refine⟨rfl,λk x hx=>?_⟩;have hk:k=0:=by have:=(aR.1 hx).1;simp at this;exact this
 subst hk;simp only[vG,Option.some.injEq]at hx;subst hx;have:=yC B j e he;rw[gU,bt]at this;exact⟨_,rfl,by rw[q5,Addr.add,if_pos rfl];exact this⟩
theorem ID(l:List E)(i:Nat):0<=gZ l i:=by unfold gZ;omega
def mo(l:List E)(j t:Nat)(j7:Int):Prop:=(j=0/\j7= -1/\t=1)\/(0<j/\pP l (j+1) t/\j7=gZ l t)
theorem ve(h:mo l j t j7)(hR:R=gZ l (j+1))(hb:j7<0\/R<j7):mo l (j+1) (j+1) R:=by
 have lt:∀i,1<=i->i<j+1->gZ l (j+1)<gZ l i:=λi hi1 Ih=>by
  rcases h with⟨rfl,_,_⟩|⟨h0,hB,xR⟩
  .omega
  .have:=hB.2.2.1 i hi1 Ih;have:=ID l t;omega
 refine .inr ⟨by omega,⟨by omega,by omega,λi hi1 Ih=>?_,lt⟩,hR⟩
 rcases dZ i (j+1)with h1|h1
 .have:=lt i hi1 h1;omega
 .obtain rfl:i=j+1:=by omega
  exact gE _
theorem vf(h:mo l j t j7)(hR:R=gZ l (j+1))(h1:¬j7<0)(h2:¬R<j7):mo l (j+1) t j7:=by
 rcases h with⟨rfl,hb,_⟩|⟨h0,hB,xR⟩
 .omega
 .refine .inr ⟨by omega,⟨hB.1,by have:=hB.2.1;omega,λi hi1 Ih=>?_,hB.2.2.2⟩,xR⟩
  rcases dZ i (j+1)with h3|h3
  .exact hB.2.2.1 i hi1 h3
  .obtain rfl:i=j+1:=by omega
   omega
theorem BO(leaf:Bool)(A:Option Addr)(n c:Nat)(l:List E)(S:aQ w 111 3 (.slice A n c) n (ax l))(hn:2<=n)(hn2:n<=100)(hb:ai l<=100000):
  Calls Tryz.prog 129 #[aV leaf A n c] w λr w'=>(∃t A1 c1 A2 c2,r=.returned (.tuple #[aV leaf A1 t c1,aV leaf A2 (n-t) c2])/\pP l n t/\aQ w' 111 3 (.slice A1 t c1) t (ax (l.take t))/\aQ w' 111 3 (.slice A2 (n-t) c2) (n-t) (ax (l.drop t))/\∀x∈ah (.slice A2 (n-t) c2),w.heap.size<=x)/\Below w.heap.size w w':=by
 obtain⟨g,cap,rest,hv,BG,hcn,IE⟩:=S.form (by omega) (by omega);simp only[Value.slice.injEq,true_and]at hv;obtain⟨rfl,rfl⟩:=hv;have xx:c<=maxLen:=by obtain⟨_,_,_,_,h⟩:=S.oO;exact h
 have mG:l.length=n:=by have:=S.1;rw[al]at this;omega
 have ld:=xh mG;have hgl:=BG.lt;have B1:=xh (((aD.new w 118 #[.bool leaf,.slice (some ⟨g,0,none⟩) n c]).alloc (.cells #[.bool false,.slice none 0 0] 118)).alloc (.cells #[.bool false,.slice none 0 0] 118));have B2:=(aD.new (w.alloc (.cells #[.bool leaf,.slice (some ⟨g,0,none⟩) n c] 118)) 118 #[.bool false,.slice none 0 0]).alloc (.cells #[.bool false,.slice none 0 0] 118)
 have B3:=aD.new ((w.alloc (.cells #[.bool leaf,.slice (some ⟨g,0,none⟩) n c] 118)).alloc (.cells #[.bool false,.slice none 0 0] 118)) 118 #[.bool false,.slice none 0 0];rw[pN]at B2;rw[pN,pN]at B3;have B2:=xh B2;have B3:=xh B3;have O0:=xh (ae (ae (ae (Below.refl w.heap.size w) (.cells #[.bool leaf,.slice (some ⟨g,0,none⟩) n c] 118)) (.cells #[.bool false,.slice none 0 0] 118)) (.cells #[.bool false,.slice none 0 0] 118))
 have G0:=xh (((BG.alloc (.cells #[.bool leaf,.slice (some ⟨g,0,none⟩) n c] 118)).alloc (.cells #[.bool false,.slice none 0 0] 118)).alloc (.cells #[.bool false,.slice none 0 0] 118));have E0:=xh (((S.alloc (.cells #[.bool leaf,.slice (some ⟨g,0,none⟩) n c] 118)).alloc (.cells #[.bool false,.slice none 0 0] 118)).alloc (.cells #[.bool false,.slice none 0 0] 118));clear BG S mG;unfold aV;go_enter Tryz.func129,Tryz.ntmps129
 have bx1:(((w.alloc (.cells #[.bool leaf,.slice (some ⟨g,0,none⟩) n c] 118)).alloc (.cells #[.bool false,.slice none 0 0] 118)).alloc (.cells #[.bool false,.slice none 0 0] 118)).cell? ⟨w.heap.size,1,none⟩=some (.slice (some ⟨g,0,none⟩) n c):=B1.o.ab (i:=1) rfl;go_wp2_with fail;generalize hW:(((w.alloc (.cells #[.bool leaf,.slice (some ⟨g,0,none⟩) n c] 118)).alloc (.cells #[.bool false,.slice none 0 0] 118)).alloc (.cells #[.bool false,.slice none 0 0] 118))=W at *;clear hW
 refine(uY (w:=W) (some ⟨g,0,none⟩) n c l (aQ.ax E0.o).2 (by omega) (by omega)).mono ?_;rintro r w1 ⟨rfl,aL⟩;have O1:=xh (ao O0.o aL);have C1:=xh (B1.o.below aL B1.o.lt);have C2:=xh (B2.o.below aL B2.o.lt);have C3:=xh (B3.o.below aL B3.o.lt);have G1:=xh (G0.o.below aL G0.o.lt);have hwl:=C1.o.lt;have x1:w1.cell? ⟨w.heap.size,1,none⟩=some (.slice (some ⟨g,0,none⟩) n c):=C1.o.ab (i:=1) rfl
 obtain⟨all,qK⟩:∃all,ai l=all:=⟨_,rfl⟩;have HALL:=xh qK;rw[qK]at hb ⊢;have hm1:min (1:Int) (n:Int)=1:=by omega
 clear aL qK bx1;go_wp2_with fail;go_quiet (fail);go_wp2_with fail;have x0:w1.cell? ⟨w.heap.size,0,none⟩=some (.bool leaf):=C1.o.ab (i:=0) rfl
 go_loopw [5,6,7,8] (λbv av lv iv wr=> ∃(j t:Nat) (j7:Int),j+1<=n/\bv=.int .i64 j7/\av=.int .i64 (t:Nat)/\lv=.int .i64 (ai (l.take j):Nat)/\iv=.int .i64 ((j:Int)+1)/\Hid (mo l j t j7)/\Below w1.heap.size w1 wr) (λ_ _ _ iv _=>n-(intOf iv).toNat)
 case atStart=>exact⟨0,1,-1,by omega,rfl,rfl,by simp[ai],rfl,xh (.inl ⟨rfl,rfl,rfl⟩),cB (Below.refl _ _) _⟩
 case round=>
  obtain⟨j,t,j7,hj,rfl,rfl,rfl,rfl,BI,O⟩:=hrel;have D1:=xh (C1.o.below O C1.o.lt);have y1:wr.cell? ⟨w.heap.size,1,none⟩=some (.slice (some ⟨g,0,none⟩) n c):=D1.o.ab (i:=1) rfl
  by_cases h:j+1<n
  .have he:=aN (show j<l.length by rw[ld.o];omega);obtain⟨e,hee⟩:∃e,l[j]'(by rw[ld.o];omega)=e:=⟨_,rfl⟩;rw[hee]at he;have hs:=iO l j e he;have ht:=lL l (j+1);have hone:ai [e]=e.key.size+e.val.size+7:=by simp[ai]
   rw[HALL.o]at ht;have KB:=xh (λcc=>uY (w:=wr) (some ⟨g,j*3,none⟩) 1 cc [e] (EF (G1.o.below O G1.o.lt) j e he) (by omega) (by rw[hone];omega));have HRF:=xh (show gZ l (j+1)=max ((ai (l.take (j+1)):Int)-((all:Int)-ai (l.take (j+1)))) ((all:Int)-ai (l.take (j+1))-ai (l.take (j+1)))from by unfold gZ;rw[HALL.o]);obtain⟨P,hP⟩:∃P,ai (l.take j)=P:=⟨_,rfl⟩;obtain⟨q,hq⟩:∃q,ai (l.take (j+1))=q:=⟨_,rfl⟩
   obtain⟨ce,hce⟩:∃ce,ai [e]=ce:=⟨_,rfl⟩;rw[hce]at KB hone;rw[hP,hq]at hs;rw[hq]at ht HRF;rw[hP];have HQ:=xh hq;have hqP:(P:Int)+(ce:Int)=(q:Int):=by omega
   have s1:IntKind.i64.wrap ((P:Int)+(ce:Int))=(q:Int):=by rw[hqP];exact IntWalk.i64_in _ (by omega)
   have s2:IntKind.i64.wrap ((all:Int)-(q:Int))=(all:Int)-(q:Int):=IntWalk.i64_in _ (by omega);have s3:IntKind.i64.wrap ((q:Int)-((all:Int)-(q:Int)))=(q:Int)-((all:Int)-(q:Int)):=IntWalk.i64_in _ (by omega);have s4:IntKind.i64.wrap ((all:Int)-(q:Int)-(q:Int))=(all:Int)-(q:Int)-(q:Int):=IntWalk.i64_in _ (by omega);have s5:IntKind.i64.wrap (j:Int)=(j:Int):=IntWalk.i64_in _ (by omega);have s6:IntKind.i64.wrap ((j:Int)+1-1)=(j:Int):=by rw[Int.add_sub_cancel];exact s5
   have s7:IntKind.i64.wrap ((j:Int)+1+1)=(j:Int)+1+1:=IntWalk.i64_in _ (by omega);have s8:(j:Int)+1<(n:Int):=by omega
   have s9:(j:Int)<=(j:Int)+1:=by omega
   have s10:(j:Int)+1<=(c:Int):=by omega
   have s11:((j:Int)+1).toNat=j+1:=by omega
   have s12:(0:Int)<=(j:Int)+1:=by omega
   have OO:=xh O;clear he hee hs hone hP hq hce O;go_wp2_with fail;refine(KB.o _).mono ?_;rintro r w2 ⟨rfl,bK⟩;have O2:=xh (ao OO.o bK);clear bK;go_wp2_with fail
   all_goals
    have hRI:∀R:Int,R=(if((q:Int)-((all:Int)-q))<(all:Int)-q-q then(all:Int)-q-q else(q:Int)-((all:Int)-q))->R=gZ l (j+1):=λR h=>by rw[h,HRF.o];split<;>omega
    refine⟨?_,by simp[intOf];omega⟩
    first
     |exact⟨j+1,t,j7,by omega,rfl,rfl,by rw[HQ.o],by go_num,xh (vf BI.o (hRI _ (by first|rfl|(split<;>omega))) (by first|assumption|omega) (by first|assumption|omega)),O2.o⟩
     |exact⟨j+1,j+1,_,by omega,rfl,by go_num,by rw[HQ.o],by go_num,xh (ve BI.o (hRI _ (by first|rfl|(split<;>omega))) (by first|(left;assumption)|(right;assumption)|omega)),O2.o⟩
  .obtain rfl:n=j+1:=by omega
   have D2:=xh (C2.o.below O C2.o.lt);have D3:=xh (C3.o.below O C3.o.lt);have G2:=xh (G1.o.below O G1.o.lt);have y0:wr.cell? ⟨w.heap.size,0,none⟩=some (.bool leaf):=D1.o.ab (i:=0) rfl;have HBT:=xh (show pP l (j+1) t from by
    rcases BI.o with⟨rfl,_,_⟩|⟨_,hB,_⟩
    .omega
    .exact hB)
   have ht1:=HBT.o.1;have ht2:=HBT.o.2.1;have OO:=xh (ao O1.o O);have s8:¬(j:Int)+1<((j+1:Nat):Int):=by omega
   have t1:(t:Int)<=(c:Int):=by omega
   have t2:(t:Int)<=((j+1:Nat):Int):=by omega
   have t3:t<c:=by omega
   have t4:¬t=c:=by omega
   clear O;go_wp2_with fail;have t5:(t:Int)<=(j:Int)+1:=by omega
   have t6:¬c=t:=by omega
   have HK:=xh (show ∀W',ag [w.heap.size+1,w.heap.size+1+1] wr W'->(W'.cell? ⟨w.heap.size,0,none⟩=some (.bool leaf)/\W'.cell? ⟨w.heap.size,1,none⟩=some (.slice (some ⟨g,0,none⟩) (j+1) c))from λW' ho=>⟨(D1.o.only ho (by simp;omega)).ab (i:=0) rfl,(D1.o.only ho (by simp;omega)).ab (i:=1) rfl⟩)
   have HK0:=xh (show ∀W',ag [] wr W'->(W'.cell? ⟨w.heap.size,0,none⟩=some (.bool leaf)/\W'.cell? ⟨w.heap.size,1,none⟩=some (.slice (some ⟨g,0,none⟩) (j+1) c))from λW' ho=>HK.o W' (ho.mono (λx hx _=>absurd hx (by simp))));have OD:=xh ((ag.refl [] wr).drew);have GD:=xh (G2.o.drew);have hd2:=D2.o.lt;have hd3:=D3.o.lt
   have AP1:=xh (show ∀W' u,aD W' g u (ax l++rest).toArray->∃V1 k1 w2,dG Tryz.prog 108 108 W' (.slice none 0 0) (.slice (some ⟨g,0,none⟩) t t)= .ok (.slice V1 t k1) w2/\aQ w2 111 3 (.slice V1 t k1) t (ax (l.take t))/\ag [] W' w2/\(∀x∈ah (.slice V1 t k1),W'.heap.size<=x)from λW' u B=>by
    obtain⟨v,w2,e1,S,o,f⟩:=qv (P:=Tryz.prog) (l0:=[]) (aQ.nil W' 111 3) B 0 t t (by rw[ld.o];omega) 108 108 (.agg #[.string .empty,.string .empty,.int .i64 0]) 40 Tryz.underlying108 (by kernel_rfl) rfl (by unfold maxLen;omega) (by omega);rw[bt,eA,zN]at S;obtain⟨V1,k1,rfl⟩:=aq S;exact⟨V1,k1,w2,e1,S,o,λx hx=>(f x hx).elim (λh=>by simp[ah]at h) id⟩)
   have AP2:=xh (show ∀W' u,aD W' g u (ax l++rest).toArray->∃V1 k1 w2,dG Tryz.prog 108 108 W' (.slice none 0 0) (.slice (some ⟨g,t*3,none⟩) (j+1-t) (c-t))= .ok (.slice V1 (j+1-t) k1) w2/\aQ w2 111 3 (.slice V1 (j+1-t) k1) (j+1-t) (ax (l.drop t))/\ag [] W' w2/\(∀x∈ah (.slice V1 (j+1-t) k1),W'.heap.size<=x)from λW' u B=>by
    obtain⟨v,w2,e1,S,o,f⟩:=qv (P:=Tryz.prog) (l0:=[]) (aQ.nil W' 111 3) B t (j+1-t) (c-t) (by rw[ld.o];omega) 108 108 (.agg #[.string .empty,.string .empty,.int .i64 0]) 40 Tryz.underlying108 (by kernel_rfl) rfl (by unfold maxLen;omega) (by omega);rw[bt,eA,bJ (by rw[dg,ld.o];exact ak _)]at S;obtain⟨V1,k1,rfl⟩:=aq S;exact⟨V1,k1,w2,e1,S,o,λx hx=>(f x hx).elim (λh=>by simp[ah]at h) id⟩)
   refine wp_region_held_drew (S:=λW'=>W'.cell? ⟨w.heap.size,0,none⟩=some (.bool leaf)/\W'.cell? ⟨w.heap.size,1,none⟩=some (.slice (some ⟨g,0,none⟩) (j+1) c)) (by kernel_rfl) (HK0.o _ OD.o) (λaw=>?_);refine dq [(0,53),(1,54),(2,55),(3,56),(4,57),(5,58),(6,59),(9,62),(10,63),(11,64),(12,65),(13,66),(14,67)] ?_
   iterate 13 refine za ?_
   refine zd 7 60 λK hK=>?_
   .obtain⟨Va,ka,w2,ea,Sa,oa,fa⟩:=AP1.o _ _ GD.o;have Oa:=xh (OD.o.trans oa);obtain⟨Vb,kb,w3,eb,Sb,ob,fb⟩:=AP2.o _ _ (GD.o.only oa (by simp));have Ob:=xh (Oa.o.trans ob);have E1:=xh ea;have E2:=xh eb;have Sa3:=Sa.only ob (by simp);have Fa:=xh (show ∀x∈ah _,wr.heap.size<=x from fa);have Fb:=xh (show ∀x∈ah _,wr.heap.size<=x from λx hx=>au oa.size (fb x hx));have D23:=D2.o.only Ob.o (by simp);have D33:=D3.o.only Ob.o (by simp)
    clear ea eb;go_simp;rw[E1.o];go_simp;refine zh hK (HK0.o _ Oa.o) (λaw=>?_);refine dq [(8,61)] ?_
    iterate 1 refine za ?_
    refine zd 15 68 λK hK=>?_;go_simp;rw[E2.o];go_simp;refine zh hK (HK0.o _ Ob.o) (λaw=>?_);refine dq [(16,69)] ?_
    iterate 1 refine za ?_
    refine zpe ?_;have p0:w3.frozen? ⟨w.heap.size+1,0,none⟩=false:=D23.frozen 0 (by simp);have p1:w3.frozen? ⟨w.heap.size+1,1,none⟩=false:=D23.frozen 1 (by simp);have p2:w3.cell? ⟨w.heap.size+1,0,none⟩=some (.bool false):=D23.ab (i:=0) rfl;have p3:w3.cell? ⟨w.heap.size+1,1,none⟩=some (.slice none 0 0):=D23.ab (i:=1) rfl;have r0:w3.frozen? ⟨w.heap.size+1+1,0,none⟩=false:=D33.frozen 0 (by simp);have r1:w3.frozen? ⟨w.heap.size+1+1,1,none⟩=false:=D33.frozen 1 (by simp)
    have r2:w3.cell? ⟨w.heap.size+1+1,0,none⟩=some (.bool false):=D33.ab (i:=0) rfl;have r3:w3.cell? ⟨w.heap.size+1+1,1,none⟩=some (.slice none 0 0):=D33.ab (i:=1) rfl;have OX1:=xh (((Ob.o.mono (S':=[w.heap.size+1,w.heap.size+1+1]) (λx hx _=>absurd hx (by simp))).setCell (p:=⟨w.heap.size+1,0,none⟩) (λ_=>by simp) (.bool leaf)).setCell (p:=⟨w.heap.size+1,1,none⟩) (λ_=>by simp) (.slice Va t ka))
    have OX2:=xh ((OX1.o.setCell (p:=⟨w.heap.size+1+1,0,none⟩) (λ_=>by simp) (.bool leaf)).setCell (p:=⟨w.heap.size+1+1,1,none⟩) (λ_=>by simp) (.slice Vb (j+1-t) kb));have BX2:=xh ((((D23.bu 0 (.bool leaf)).bu 1 (.slice Va t ka)).aY (p:=⟨w.heap.size+1+1,0,none⟩) (by simp) (.bool leaf)).aY (p:=⟨w.heap.size+1+1,1,none⟩) (by simp) (.slice Vb (j+1-t) kb))
    have BX3:=xh ((((D33.aY (p:=⟨w.heap.size+1,0,none⟩) (by simp) (.bool leaf)).aY (p:=⟨w.heap.size+1,1,none⟩) (by simp) (.slice Va t ka)).bu 0 (.bool leaf)).bu 1 (.slice Vb (j+1-t) kb))
    have OS:=xh ((((((ag.refl [w.heap.size+1,w.heap.size+1+1] w3).setCell (p:=⟨w.heap.size+1,0,none⟩) (λ_=>by simp) (.bool leaf)).setCell (p:=⟨w.heap.size+1,1,none⟩) (λ_=>by simp) (.slice Va t ka)).setCell (p:=⟨w.heap.size+1+1,0,none⟩) (λ_=>by simp) (.bool leaf)).setCell (p:=⟨w.heap.size+1+1,1,none⟩) (λ_=>by simp) (.slice Vb (j+1-t) kb)));have SX1:=xh (Sa3.only OS.o (λx hx=>by have:=Fa.o x hx;simp;omega))
    have SX2:=xh (Sb.only OS.o (λx hx=>by have:=Fb.o x hx;simp;omega));have OB:=xh (OO.o.trans (OX2.o.aE OO.o.size (λx hx=>by simp at hx;omega)));clear Sa Sb Sa3 oa ob fa fb D23 D33;refine zf 17 λK hK=>?_;go_simp;refine zh hK (HK.o _ OX1.o) (λaw=>?_);refine zf 18 λK hK=>?_;go_simp;refine zh hK (HK.o _ OX2.o) (λaw=>?_);refine wpAnyH_done (by kernel_rfl) ?_ _;go_wp2_with fail
    exact bodyPost_ret (BF rfl rfl rfl BX2.o BX3.o) rfl ⟨⟨t,_,_,_,_,rfl,HBT.o,SX1.o,SX2.o,λx hx=>au OO.o.size (Fb.o x hx)⟩,OB.o⟩
end
section
open Go.RowKit Sl Go.Deep Go.ChangeShapes Go.WideShapes
def cost(e:E):Nat:=e.key.size+e.val.size+7
theorem uf(l m:List E):ai (l++m)=ai l+ai m:=by simp[ai]
theorem qw(l:List E)(t:Nat):ai l=ai (l.take t)+ai (l.drop t):=by rw[<-uf,jN]
theorem te(leaf:Bool)(l:List E):fT (fj leaf l)=223-(ai l:Int):=by
 unfold fT fj ai;have h:∀l:List E,((l.map lM).map λr=>4+r.length).sum=(l.map λe=>e.key.size+e.val.size+7).sum:=by
  intro l
  induction l with
  |nil=>rfl
  |cons e l ih=>simp only[eW,iB,ih,lN];omega
 have hk:(uZ leaf).length=1:=by unfold uZ;split<;>rfl
 rw[eW,iB,h,hk];omega
theorem vg(l:List E)(hc:∀e∈l,cost e<=79)(hn:2<=l.length):∃i,1<=i/\i<l.length/\gZ l i<=79:=by
 have step:∀k,k+1<l.length->(∃i,1<=i/\i<l.length/\gZ l i<=79)\/2*ai (l.take (k+1))<ai l:=by
  intro k
  induction k with
  |zero=>
   intro hk
   by_cases h:2*ai (l.take 1)<ai l
   .exact .inr h
   .refine .inl ⟨1,by omega,by omega,?_⟩;have he:=aN (show 0<l.length by omega);have hs:=iO l 0 _ he;have hx:=hc _ (ik (show 0<l.length by omega));unfold cost at hx;have ht:=lL l 1;rw[gJ]at hs;have h0:ai ([]:List E)=0:=rfl;rw[bt]at hs;unfold gZ;omega
  |succ k ih=>
   intro hk
   rcases ih (by omega)with h|h
   .exact .inl h
   .by_cases h2:2*ai (l.take (k+1+1))<ai l
    .exact .inr h2
    .have he:=aN (show k+1<l.length by omega);have hs:=iO l (k+1) _ he;have hx:=hc _ (ik (show k+1<l.length by omega));unfold cost at hx
     by_cases h3:2*ai (l.take (k+1+1))<=ai l+79
     .refine .inl ⟨k+1+1,by omega,by omega,?_⟩;unfold gZ;omega
     .refine .inl ⟨k+1,by omega,by omega,?_⟩;unfold gZ;omega
 rcases step (l.length-2) (by omega)with h|h
 .exact h
 .refine⟨l.length-1,by omega,by omega,?_⟩;rw[show l.length-2+1=l.length-1 by omega]at h;have he:=aN (show l.length-1<l.length by omega);have hs:=iO l (l.length-1) _ he;have hx:=hc _ (ik (show l.length-1<l.length by omega));unfold cost at hx;rw[show l.length-1+1=l.length by omega,jO]at hs;unfold gZ;omega
theorem EG(hc:∀e∈l,cost e<=79)(hn:2<=l.length)(hb:ai l<=302)(h:pP l l.length t):ai (l.take t)<=223/\ai (l.drop t)<=223:=by
 obtain⟨i,h1,h2,h3⟩:=vg l hc hn;have h4:=h.2.2.1 i h1 h2;have h5:=qw l t;unfold gZ at h3 h4;omega
end
end Go.Proofs.YtmonobkginiajaaGreat.Nd
namespace Go.Proofs.YtmonobkginiajaaGreat.Nd
open Go.RowKit Sl
attribute [local go_sem ↓] Go.wp_at_zero Go.wp_at_succ
theorem BR(a b:ByteArray)(w:World):
  Calls Tryz.prog 161 #[.string a,.string b] w λe w'=>e=.returned (.int .i64 (Lib.compareBytes a.data.toList b.data.toList))/\Below w.heap.size w w':=by
 go_enter Tryz.func161,Tryz.ntmps161;go_wp2_with fail;rw[run_callFunc_extern Tryz.func205 (by kernel_rfl) (by kernel_rfl) (by kernel_rfl) (e:=Extern.BytealgCompare.compare) (by kernel_rfl),Lib.run_compareString];simp only[Result.andThen];rw[Oper.upon_value]
 go_wp2
 go_ret;exact⟨rfl,Below.refl _ _⟩
theorem yF(a b:ByteArray)(w:World):
  Calls Tryz.prog 115 #[.string a,.string b] w λe w'=>e=.returned (.int .i64 (Lib.compareBytes a.data.toList b.data.toList))/\Below w.heap.size w w':=by
 have K:=xh (BR a b w);go_enter Tryz.func115,Tryz.ntmps115;go_wp2_with fail;refine K.o.mono ?_;rintro e w1 ⟨rfl,hb⟩;have HB:=xh hb;go_wp2_with fail;go_ret;exact⟨rfl,HB.o⟩
theorem l9(e:E)(k:ByteArray)(w:World):
  Calls Tryz.prog 114 #[e.agg,.string k] w λr w'=>r=.returned (.int .i64 (Lib.compareBytes e.key.data.toList k.data.toList))/\Below w.heap.size w w':=by
 have O0:=xh ((Below.refl w.heap.size w).alloc (ak _) (.cells #[.string e.key,.string e.val,.int .i64 e.aY] 111));have B0:=aD.new w 111 #[.string e.key,.string e.val,.int .i64 e.aY];have c0:=B0.ab (i:=0) rfl;have K:=xh (λw=>yF e.key k w);clear B0;unfold E.agg;go_enter Tryz.func114,Tryz.ntmps114;go_wp2_with fail;refine(K.o _).mono ?_;rintro e w1 ⟨rfl,hb⟩;have HB:=xh (ao O0.o hb);clear hb;go_wp2_with fail;go_ret;exact⟨rfl,HB.o⟩
def mE(e:E)(k:ByteArray):Int:=Lib.compareBytes e.key.data.toList k.data.toList
def mq(l:List E)(key:ByteArray)(k:Nat):Prop:=k<=l.length/\(∀e,0<k->l[k-1]?=some e->mE e key<0)/\(∀e,l[k]?=some e->0<=mE e key)
def vh(l:List E)(key:ByteArray)(k:Nat):Prop:= ∃e,l[k]?=some e/\mE e key=0
theorem yG{w:World}(A:Option Addr)(n c:Nat)(l:List E)(key:ByteArray)(h:kW w A n l)(hn:n<=1000000):
  Calls Tryz.prog 113 #[.slice A n c,.string key,.func (Fn.func 114) #[] #[]] w λr w'=>(∃k b,r=.returned (.tuple #[.int .i64 (k:Nat),.bool b])/\mq l key k/\(b=true↔vh l key k))/\Below w.heap.size w w':=by
 have hl:=xh h.1;have H0:=xh h;clear h;go_enter Tryz.func113,Tryz.ntmps113;go_wp2_with fail
 go_loopw [9,10] (λiv jv wr=> ∃i j:Nat,i<=j/\j<=n/\iv=.int .i64 i/\jv=.int .i64 j/\Hid (∀e,0<i->l[i-1]?=some e->mE e key<0)/\Hid (∀e,l[j]?=some e->0<=mE e key)/\Below w.heap.size w wr) (λiv jv _=>(intOf jv).toNat-(intOf iv).toNat)
 case atStart=>exact⟨0,n,bm _,ak _,rfl,rfl,xh (λe h=>absurd h (qU _)),xh (λe h=>by have:=(aR.1 h).1;have:=hl.o;omega),Below.refl _ _⟩
 case round=>
  obtain⟨i,j,hij,hj,rfl,rfl,LO,HI,hb⟩:=hrel
  by_cases h:i<j
  .obtain⟨m,hm⟩:∃m,(i+j) / 2=m:=⟨_,rfl⟩;have hmj:m<j:=by omega
   have hmi:i<=m:=by omega
   have hmI:((i:Int)+(j:Int)) / 2=(m:Int):=by omega
   obtain⟨ad,e,rfl,he,AT⟩:=(H0.o.below hb).at m (by omega);have HB:=xh hb;have a0:=AT.c0;have a1:=AT.c1;have a2:=AT.c2;have e1:IntKind.i64.wrap ((i:Int)+(j:Int))=(i:Int)+(j:Int):=IntWalk.i64_in _ (by omega);have e2:IntKind.u64.wrap ((i:Int)+(j:Int))=(i:Int)+(j:Int):=IntWalk.u64_in _ (by omega);have e3:IntKind.i64.wrap (m:Int)=(m:Int):=IntWalk.i64_in _ (by omega);have hmn:m<n:=by omega
   have KF:=xh (l9 e key wr);have HE:=xh he;unfold E.agg at KF;clear AT hb he;obtain⟨q,hq⟩:∃q,Lib.compareBytes e.key.data.toList key.data.toList=q:=⟨_,rfl⟩;have HQ:=xh (show mE e key=q from hq);rw[hq]at KF;clear hq;go_wp2_with fail;refine KF.o.mono ?_;rintro r w1 ⟨rfl,aL⟩;have GK:=xh (ao HB.o aL);clear aL
   by_cases hq:q<0
   .have HLO:=xh (show ∀x,0<m+1->l[m+1-1]?=some x->mE x key<0 from λx _ hx=>by
     rw[nG,HE.o]at hx;injection hx with hx
     rw[<-hx,HQ.o];exact hq)
    go_wp2_with fail;go_roundw
    case rel=>exact⟨m+1,j,by omega,hj,by go_num,rfl,HLO,HI,GK.o⟩
    case measure=>simp[intOf];omega
   .have HHI:=xh (show ∀x,l[m]?=some x->0<=mE x key from λx hx=>by
     rw[HE.o]at hx;injection hx with hx
     rw[<-hx,HQ.o];omega)
    go_wp2_with fail;go_roundw
    case rel=>exact⟨i,m,hmi,by omega,rfl,rfl,LO,HHI,GK.o⟩
    case measure=>simp[intOf];omega
  .obtain rfl:i=j:=by omega
   have HB:=xh hb;have ug:=xh (show mq l key i from⟨by have:=hl.o;omega,LO.o,HI.o⟩)
   by_cases qH:i<n
   .obtain⟨ad,e,rfl,he,AT⟩:=(H0.o.below hb).at i qH;have a0:=AT.c0;have a1:=AT.c1;have a2:=AT.c2;have KF:=xh (l9 e key wr);have HE:=xh he;unfold E.agg at KF;clear AT hb he;obtain⟨q,hq⟩:∃q,Lib.compareBytes e.key.data.toList key.data.toList=q:=⟨_,rfl⟩;have HQ:=xh (show mE e key=q from hq);rw[hq]at KF;clear hq;have HI2:(i:Int)<(n:Int):=by omega
    go_wp2_with fail;refine KF.o.mono ?_;rintro r w1 ⟨rfl,aL⟩;have GK:=xh (ao HB.o aL);clear aL
    by_cases hq:q=0
    .subst hq;go_wp2_with fail;go_ret2;exact⟨⟨i,true,rfl,ug.o,by simp only[true_iff];exact⟨e,HE.o,HQ.o⟩⟩,GK.o⟩
    .go_wp2_with fail;go_ret2;refine⟨⟨i,false,by simp[hq],ug.o,?_⟩,GK.o⟩;simp only[lq,false_iff];rintro⟨x,hx,h0⟩;rw[HE.o]at hx;injection hx with hx
     subst hx;exact hq (HQ.o.symm.trans h0)
   .have hin2:¬(i:Int)<(n:Int):=by omega
    clear hb;go_wp2_with fail;go_ret2;refine⟨⟨i,.inl ⟨rfl,ug.o,?_⟩⟩,HB.o⟩;rintro⟨x,hx,h0⟩;have:=(aR.1 hx).1;have:=hl.o;omega
variable{w:World}
theorem fC(leaf:Bool)(A:Option Addr)(n c:Nat)(l:List E)(key:ByteArray)(h:kW w A n l)(hn:n<=1000000):
  Calls Tryz.prog 64 #[aV leaf A n c,.string key] w λr w'=>(∃k b,r=.returned (.tuple #[.int .i64 (k:Nat),.bool b])/\mq l key k/\(b=true↔vh l key k))/\Below w.heap.size w w':=by
 have O0:=(Below.refl w.heap.size w).alloc (ak _) (.cells #[.bool leaf,.slice A n c] 118);have B0:=aD.new w 118 #[.bool leaf,.slice A n c];have c1:(w.alloc (.cells #[.bool leaf,.slice A n c] 118)).cell? ⟨w.heap.size,1,none⟩=some (.slice A n c):=B0.ab (i:=1) rfl;have K:=xh (yG (w:=w.alloc (.cells #[.bool leaf,.slice A n c] 118)) A n c l key (h.below O0) hn);have O0:=xh O0;clear h B0;unfold aV;go_enter Tryz.func64,Tryz.ntmps64;go_wp2_with fail
 refine K.o.mono ?_;rintro r w1 ⟨⟨k,b,rfl,hp,hh⟩,aL⟩;have HP:=xh hp;have HH:=xh hh;have O1:=xh (ao O0.o aL);clear hp hh aL;go_wp2_with fail;go_ret2;exact⟨⟨k,b,rfl,HP.o,HH.o⟩,O1.o⟩
theorem EH(leaf:Bool)(A:Option Addr)(n c:Nat)(l:List E)(key:ByteArray)(h:kW w A n l)(hn:n<=1000000):
  Calls Tryz.prog 110 #[aV leaf A n c,.string key] w λr w'=>(∃m:Nat,r=.returned (.int .i64 (m:Nat))/\∃k,mq l key k/\((vh l key k/\m=k)\/(¬vh l key k/\m=k-1)))/\Below w.heap.size w w':=by
 have O0:=(Below.refl w.heap.size w).alloc (ak _) (.cells #[.bool leaf,.slice A n c] 118);have B0:=aD.new w 118 #[.bool leaf,.slice A n c];have c0:(w.alloc (.cells #[.bool leaf,.slice A n c] 118)).cell? ⟨w.heap.size,0,none⟩=some (.bool leaf):=B0.ab (i:=0) rfl;have c1:(w.alloc (.cells #[.bool leaf,.slice A n c] 118)).cell? ⟨w.heap.size,1,none⟩=some (.slice A n c):=B0.ab (i:=1) rfl
 have K:=xh (fC (w:=w.alloc (.cells #[.bool leaf,.slice A n c] 118)) leaf A n c l key (h.below O0) hn);have O0:=xh O0;have HL:=xh h.1;clear h B0;unfold aV at *;go_enter Tryz.func110,Tryz.ntmps110;go_wp2_with fail;refine K.o.mono ?_;rintro r w1 ⟨⟨k,b,rfl,hp,hh⟩,aL⟩;have HP:=xh hp;have HH:=xh hh;have O1:=xh (ao O0.o aL);have hk:k<=1000000:=by have:=hp.1;have:=HL.o;omega
 clear hp hh aL
 cases b
 .rcases(show k=0\/∃j,k=j+1 from by cases k;exact .inl rfl;exact .inr ⟨_,rfl⟩)with rfl|⟨j,rfl⟩
  .go_wp2_with fail;go_ret;exact⟨⟨0,rfl,0,HP.o,.inr ⟨λhx=>absurd (HH.o.2 hx) (by decide),rfl⟩⟩,O1.o⟩
  .have e1:IntKind.i64.wrap ((j:Int)+1-1)=(j:Int):=by rw[Int.add_sub_cancel];exact IntWalk.i64_in _ (by omega)
   have e2:IntKind.i64.wrap (j:Int)=(j:Int):=IntWalk.i64_in _ (by omega);have e3:max (j:Int) 0=(j:Int):=by omega
   have e4:¬(j:Int)<0:=by omega
   go_wp2_with fail;go_ret;refine⟨⟨j,?_,j+1,HP.o,.inr ⟨λhx=>absurd (HH.o.2 hx) (by decide),rfl⟩⟩,O1.o⟩
   first|rfl|simp[e3]
 .have e3:max (k:Int) 0=(k:Int):=by omega
  have e4:¬(k:Int)<0:=by omega
  go_wp2_with fail;go_ret;refine⟨⟨k,?_,k,HP.o,.inl ⟨HH.o.1 (by trivial),rfl⟩⟩,O1.o⟩
  first|rfl|simp[e3]
end Go.Proofs.YtmonobkginiajaaGreat.Nd
namespace Go.Proofs.YtmonobkginiajaaGreat.Nd
open Go.RowKit Sl
attribute [local go_sem ↓] Go.wp_at_zero Go.wp_at_succ aW
end Go.Proofs.YtmonobkginiajaaGreat.Nd
namespace Go.Proofs.YtmonobkginiajaaGreat.Nd
open Go.RowKit Sl Go.Deep Go.ChangeShapes Go.WideShapes
instance:Inhabited E:=⟨⟨.empty,.empty,0⟩⟩
end Go.Proofs.YtmonobkginiajaaGreat.Nd
namespace Go.Proofs.YtmonobkginiajaaGreat.Nd
open Go.RowKit Sl
variable{l:List E}{leaf:Bool}
abbrev cb:=Lib.compareBytes
theorem kY(a:UInt8)(x:List UInt8)(b:UInt8)(y:List UInt8):cb (a::x) (b::y)=if a<b then -1 else if b<a then 1 else cb x y:=rfl
theorem CU{a b:UInt8}(h1:¬a<b)(h2:¬b<a):a=b:=by
 rw[q7]at h1 h2;exact UInt8.toNat_inj.1 (by omega)
theorem IF:∀(x y:List UInt8),cb x y=0↔x=y
 |[],[]=>by simp[cb,Lib.compareBytes]
 |[],_::_=>by simp[cb,Lib.compareBytes]
 |_::_,[]=>by simp[cb,Lib.compareBytes]
 |a::x,b::y=>by
  rw[kY]
  by_cases h1:a<b
  .rw[if_pos h1];have:a≠b:=λe=>by subst e;exact absurd h1 (by rw[q7];omega)
   simp[this]
  .rw[if_neg h1]
   by_cases h2:b<a
   .rw[if_pos h2];have:a≠b:=λe=>by subst e;exact h1 h2
    simp[this]
   .rw[if_neg h2,IF x y,CU h1 h2];simp
theorem BU:∀(x y:List UInt8),cb y x= -cb x y
 |[],[]=>rfl
 |[],_::_=>rfl
 |_::_,[]=>rfl
 |a::x,b::y=>by
  rw[kY,kY]
  by_cases h1:a<b
  .have h2:¬b<a:=by rw[q7]at *;omega
   rw[if_pos h1,if_neg h2,if_pos h1];rfl
  .rw[if_neg h1,if_neg h1]
   by_cases h2:b<a
   .rw[if_pos h2,if_pos h2]
   .rw[if_neg h2,if_neg h2];exact BU x y
theorem lO:∀(x y z:List UInt8),cb x y<0->cb y z<0->cb x z<0
 |[],[],_=>λh _=>absurd h (by decide)
 |[],_::_,[]=>λ_ h=>absurd h (by simp[cb,Lib.compareBytes])
 |[],_::_,_::_=>λ_ _=>by simp[cb,Lib.compareBytes]
 |_::_,[],_=>λh _=>absurd h (by simp[cb,Lib.compareBytes])
 |_::_,_::_,[]=>λ_ h=>absurd h (by simp[cb,Lib.compareBytes])
 |a::x,b::y,c::z=>by
  rw[kY,kY,kY];intro h1 h2
  by_cases p1:a<b
  .by_cases p2:b<c
   .rw[if_pos (by rw[q7]at *;omega)];decide
   .rw[if_neg p2]at h2
    by_cases p3:c<b
    .rw[if_pos p3]at h2;exact absurd h2 (by decide)
    .obtain rfl:=CU p2 p3;rw[if_pos p1];decide
  .rw[if_neg p1]at h1
   by_cases p4:b<a
   .rw[if_pos p4]at h1;exact absurd h1 (by decide)
   .rw[if_neg p4]at h1;obtain rfl:=CU p1 p4
    by_cases p2:a<c
    .rw[if_pos p2];decide
    .rw[if_neg p2]at h2 ⊢
     by_cases p3:c<a
     .rw[if_pos p3]at h2;exact absurd h2 (by decide)
     .rw[if_neg p3]at h2 ⊢;exact lO x y z h1 h2
theorem bl_eq:∀(x y:List UInt8),Op.bytesLess x y=decide (cb x y<0)
 |[],[]=>by simp[Op.bytesLess,cb,Lib.compareBytes]
 |[],_::_=>by simp[Op.bytesLess,cb,Lib.compareBytes]
 |_::_,[]=>by simp[Op.bytesLess,cb,Lib.compareBytes]
 |a::x,b::y=>by
  rw[kY,Op.bytesLess]
  by_cases h1:a<b
  .simp[h1]
  .by_cases h2:b<a
   .have h3:¬a=b:=λe=>by subst e;exact h1 h2
    simp[h1,h2,h3]
   .have h3:=CU h1 h2;subst h3;simp[h1,bl_eq x y]
theorem IG(a b:ByteArray):leB a b=decide (cb a.data.toList b.data.toList<=0):=by
 unfold leB;rw[dk,dk,bl_eq];have h:=IF a.data.toList b.data.toList
 by_cases h1:cb a.data.toList b.data.toList<0
 .rw[decide_eq_true h1,decide_eq_true (by omega)];rfl
 .rw[decide_eq_false h1]
  by_cases h2:a.data.toList=b.data.toList
  .rw[decide_eq_true (by rw[h.2 h2];omega),h2];simp
  .rw[decide_eq_false (by
    have:cb a.data.toList b.data.toList≠0:=λe=>h2 (h.1 e);omega)]
   simpa using h2
theorem yH(hm:cu l leaf){i:Nat}{p e:E}(hp:l[i]?=some p)(he:l[i+1]?=some e):cb p.key.data.toList e.key.data.toList<0:=by
 have h:=(hm (i+1) (aR.1 he).1 e he).2 (by omega) p (by rw[nG];exact hp);rw[IG,decide_eq_false_iff_not]at h;have:=BU p.key.data.toList e.key.data.toList;omega
theorem BV(hm:cu l leaf)(i d:Nat):∀{p e:E},l[i]?=some p->l[i+1+d]?=some e->cb p.key.data.toList e.key.data.toList<0:=by
 induction d with
 |zero=>intro p e hp he;exact yH hm hp he
 |succ d ih=>
  intro p e hp he;have eT:=(aR.1 he).1;have hq:=aN (show i+1+d<l.length by omega);exact lO _ _ _ (ih hp hq) (yH hm hq (by rw[show i+1+d+1=i+1+(d+1) by omega];exact he))
theorem Ca{key:ByteArray}{p:Nat}(hm:cu l leaf)(h:mq l key p)(j:Nat)(e:E)(he:l[j]?=some e):mE e key<0↔j<p:=by
 constructor
 .intro hc
  rcases dZ j p with h1|h1
  .exact h1
  .exfalso
   rcases Nat.lt_or_eq_of_le h1 with h2|rfl
   .have hq:=aN (show p<l.length by have:=(aR.1 he).1;omega);have h3:=h.2.2 _ hq;have h4:=BV hm p (j-p-1) hq (by rw[show p+1+(j-p-1)=j by omega];exact he);have h5:=lO _ _ _ h4 hc;unfold mE at h3;exact absurd h5 (by unfold cb;omega)
   .have:=h.2.2 _ he;omega
 .intro hj;have hp:=h.1;have hq:=aN (show p-1<l.length by omega);have h3:=h.2.1 _ (by omega) hq
  rcases dZ j (p-1)with h1|h1
  .have h4:=BV hm j (p-1-j-1) he (by rw[show j+1+(p-1-j-1)=p-1 by omega];exact hq);exact lO _ _ _ h4 h3
  .obtain rfl:j=p-1:=by omega
   rw[he]at hq;injection hq with hq
   rw[hq];exact h3
variable{leaf:Bool}{l:List E}{key:ByteArray}{k:Nat}{w:World}
def mayB(l:List E)(leaf:Bool):Bool:=(List.range l.length).all λi=>match l[i]? with
 |none=>true
 |some e=>decide (cn e leaf) && (decide (i=0) || match l[i-1]? with
  |none=>true
  |some p=> !leB e.key p.key)
theorem iR(l:List E)(leaf:Bool):mayB l leaf=true↔cu l leaf:=by
 unfold mayB cu okAt;rw[ru];refine⟨λh i hi e he=>?_,λh i hi=>?_⟩
 .have:=h i (kC.2 hi);rw[he]at this;simp only[jM,decide_eq_true_eq,xC]at this;refine⟨this.1,λh0 p hp=>?_⟩;have h2:=this.2.resolve_left (by omega);rw[hp]at h2;simpa using h2
 .have hi:=kC.1 hi;have he:=aN hi;obtain⟨a,b⟩:=h i hi _ he;rw[he];simp only[jM,decide_eq_true_eq,xC];refine⟨a,?_⟩
  by_cases h0:i=0
  .exact .inl h0
  .right;have hp:=aN (show i-1<l.length by omega);rw[hp];simpa using b (by omega) _ hp
def IH(rs:List (List UInt8)):Bool:=(decide (rs.head?=some [1]) || decide (rs.head?=some [2])) && (rs.tail.all (λr=>decide (3+jG ⟨r.toArray⟩<=r.length)) && mayB (iP rs) (jV rs))
theorem mr(rs:List (List UInt8)):IH rs=true↔fE rs:=by
 unfold IH fE fi;simp only[jM,xC,decide_eq_true_eq,ru,iR];refine and_congr_right λ_=>and_congr_left λ_=>?_;have:∀r:List UInt8,(⟨r.toArray⟩:ByteArray).size=r.length:=λr=>by show r.toArray.size=_;simp
 simp only[this]
def aF(b:List UInt8):Bool×List E×Int:=
 if bq b≠0 then(false,[],bq b)else if IH (bQ b)=true then(jV (bQ b),iP (bQ b),0)else(false,[],14)
def aJ(leaf:Bool)(l:List E):List UInt8×Int:=
 if mayB l leaf=true then(if 0<=fT (fj leaf l)then(ofL (fj leaf l),0)else([],11))else([],2)
theorem tf(l:List (List UInt8))(h:0<=fT l):∀k,k<=l.length->Sound (yA l k)/\bQ (yA l k)=l.take k
 |0,_=>⟨lI.1,by rw[gJ];exact lI.2.1⟩
 |k+1,hk=>by
  obtain⟨s,r⟩:=tf l h k (by omega);have e:l.getD k []=l[k]:=by rw[ig,aN (by omega)];rfl
  have h1:=sP l k (by omega);have h2:=sQ l (k+1);obtain⟨_,a,b⟩:=CT s k l[k] (by rw[r];omega) (by rw[r,cE];omega);unfold yA;rw[e];refine⟨a,?_⟩;rw[b,r,iD (by omega),bJ (by rw[cE];omega),jY (by rw[cE];omega)]
theorem pR(l:List (List UInt8))(h:0<=fT l):Sound (ofL l)/\bQ (ofL l)=l:=by
 have:=tf l h l.length (ak _);rw[jO]at this;exact this
theorem qx(leaf:Bool)(l:List E):(aJ leaf l).1.length<=232:=by
 unfold aJ
 split
 .split
  .rename_i h;exact Nat.le_of_eq (pR _ h).1.len
  .exact bm _
 .exact bm _
theorem yI(b:List UInt8):(aF b).2.1.length<=57:=by
 unfold aF
 split
 .exact bm _
 .rename_i h
  split
  .have hs:Sound b:=(cU b).1 (by simpa using h);have h1:=hs.head;have h2:=hs.heap;show(iP (bQ b)).length<=57;unfold iP;rw[j0,List.length_tail,bI];omega
  .exact bm _
theorem qy{b:List UInt8}(h:(aF b).2.2=0):cu (aF b).2.1 (aF b).1:=by
 unfold aF at h ⊢
 split at h
 .rename_i h2;exact absurd h h2
 .rename_i h2;rw[if_neg h2]
  split at h
  .rename_i h3;rw[if_pos h3];exact((mr _).1 h3).2.2
  .exact absurd h (by decide)
theorem yJ(h:(aJ leaf l).2=0):aF (aJ leaf l).1=(leaf,l,0):=by
 unfold aJ at h ⊢
 split at h
 .rename_i hm;rw[if_pos hm]
  split at h
  .rename_i hr;rw[if_pos hr];obtain⟨s,r⟩:=pR _ hr;have hm2:=(iR _ _).1 hm;unfold aF;rw[if_neg (by rw[(cU _).2 s];simp),r,if_pos ((mr _).2 (yE hm2)),td,ta hm2]
  .exact absurd h (by decide)
 .exact absurd h (by decide)
def aM(l:List E)(key:ByteArray):Nat:=l.findIdx λe=>decide (0<=mE e key)
def bF(l:List E)(key:ByteArray):Bool:=match l[aM l key]? with
 |none=>false
 |some e=>decide (mE e key=0)
def bn(l:List E)(key:ByteArray):Nat:=if bF l key=true then aM l key else aM l key-1
def bg(l:List E):Nat:=((List.range l.length).find? λt=>decide (1<=t) && (List.range l.length).all λj=>decide (j=0) || decide (gZ l t<=gZ l j)).getD 1
theorem CY{t:Nat}(h:pP l l.length t):bg l=t:=by
 obtain⟨h1,h2,h3,h4⟩:=h;unfold bg;have:(List.range l.length).find? (λt=>decide (1<=t) && (List.range l.length).all λj=>decide (j=0) || decide (gZ l t<=gZ l j))=some t:=by
  rw[List.find?_eq_some_iff_append];refine⟨?_,List.range t,(List.range (l.length-t-1)).map (· +(t+1)),?_,λa ha=>?_⟩
  .simp only[jM,decide_eq_true_eq,ru,xC,kC];exact⟨h1,λj hj=>by
    by_cases h0:j=0
    .exact .inl h0
    .exact .inr (h3 j (by omega) hj)⟩
  .apply rB
   .simp;omega
   .intro i hi1 Ih;rw[vI,List.getElem_append];simp only[List.length_range]
    split
    .rw[vI]
    .rename_i hi;rw[List.getElem_cons]
     split
     .omega
     .simp;omega
  .have ha:=kC.1 ha
   by_cases h0:a=0
   .subst h0;simp
   .have:=h4 a (by omega) ha;simp only[Bool.not_eq_true',Bool.and_eq_false_iff];right;rw[Bool.eq_false_iff];intro hc;rw[ru]at hc;have:=hc t (kC.2 h2);simp only[xC,decide_eq_true_eq]at this;omega
 rw[this];rfl
theorem tg(hm:cu l leaf)(h:mq l key k):aM l key=k:=by
 unfold aM;obtain⟨h1,h2,h3⟩:=h;have hp:=Ca hm ⟨h1,h2,h3⟩
 rcases dZ k l.length with hk|hk
 .have hkk:=aN hk;rw[List.findIdx_eq hk];refine⟨by simpa using h3 _ hkk,λj hj=>?_⟩;have:=(hp j _ (aN (by omega))).2 hj;simpa using this
 .obtain rfl:k=l.length:=by omega
  rw[List.findIdx_eq_length];intro e he;obtain⟨j,hj,rfl⟩:=lr he;have:=(hp j _ (aN hj)).2 hj;simpa using this
theorem pS(h:aM l key=k):bF l key=true↔vh l key k:=by
 unfold bF vh;rw[h]
 cases l[k]? with
 |none=>simp
 |some e=>simp
section
open Go.RowKit
theorem II(s:ByteArray)(w:World)(hs:s.size<=1000000):
  Calls Tryz.prog 122 #[.string s] w λe w'=> ∃A c,e=.returned (.tuple #[aV (aF s.data.toList).1 A (aF s.data.toList).2.1.length c,.int .i64 (aF s.data.toList).2.2])/\
   aQ w' 111 3 (.slice A (aF s.data.toList).2.1.length c) (aF s.data.toList).2.1.length (ax (aF s.data.toList).2.1)/\(∀g∈ah (.slice A (aF s.data.toList).2.1.length c),w.heap.size<=g)/\Below w.heap.size w w':=by
 refine(got_any s w hs).mono ?_;unfold aF;rintro e w' (⟨h1,rfl,hb⟩|⟨h1,h2,hb⟩)
 .rw[if_pos h1];exact⟨none,0,rfl,aQ.nil _ _ _,by simp[ah],hb⟩
 .rw[if_neg (by simpa using h1)]
  rcases h2 with⟨h2,rfl⟩|⟨h2,A,n,c,rfl,S,f⟩
  .rw[if_neg (λh=>h2 ((mr _).1 h))];exact⟨none,0,rfl,aQ.nil _ _ _,by simp[ah],hb⟩
  .rw[if_pos ((mr _).2 h2)];have hn:=S.1;rw[al]at hn;obtain rfl:(iP (bQ s.data.toList)).length=n:=by omega
   exact⟨A,c,rfl,S,f.o,hb⟩
theorem th(leaf:Bool)(A:Option Addr)(n c:Nat)(l:List E)(h:kW w A n l)(hn:n<=1000):
  Calls Tryz.prog 68 #[aV leaf A n c] w λe w'=>e=.returned (.tuple #[.string ⟨(aJ leaf l).1.toArray⟩,.int .i64 (aJ leaf l).2])/\Below w.heap.size w w':=by
 unfold aJ
 by_cases hm:cu l leaf
 .rw[if_pos ((iR _ _).2 hm)];refine(put_yes leaf A n c l h hn hm).mono ?_;rintro e w' ⟨h1|h1,hb⟩
  .obtain⟨h0,b,rfl,_,_,he⟩:=h1;rw[if_pos h0];refine⟨?_,hb⟩;rw[show(⟨(ofL (fj leaf l)).toArray⟩:ByteArray)=b by rw[<-he]]
  .obtain⟨h0,rfl⟩:=h1;rw[if_neg (by omega)];exact⟨rfl,hb⟩
 .rw[if_neg (λh=>hm ((iR _ _).1 h))];exact put_no leaf A n c l h (by omega) hm
theorem vi(leaf:Bool)(A:Option Addr)(n c:Nat)(l:List E)(key:ByteArray)(h:kW w A n l)(hn:n<=1000000)(hm:cu l leaf):
  Calls Tryz.prog 64 #[aV leaf A n c,.string key] w λr w'=>r=.returned (.tuple #[.int .i64 (aM l key:Nat),.bool (bF l key)])/\Below w.heap.size w w':=by
 refine(fC leaf A n c l key h hn).mono ?_;rintro e w' ⟨⟨k,b,rfl,h1,h2⟩,hb⟩;have hk:=tg hm h1;refine⟨?_,hb⟩;rw[hk];have:bF l key=b:=by
  rw[Bool.eq_iff_iff,pS hk,h2]
 rw[this]
theorem Cb(leaf:Bool)(A:Option Addr)(n c:Nat)(l:List E)(key:ByteArray)(h:kW w A n l)(hn:n<=1000000)(hm:cu l leaf):
  Calls Tryz.prog 110 #[aV leaf A n c,.string key] w λr w'=>r=.returned (.int .i64 (bn l key:Nat))/\Below w.heap.size w w':=by
 refine(EH leaf A n c l key h hn).mono ?_;rintro e w' ⟨⟨m,rfl,k,h1,h2⟩,hb⟩;have hk:=tg hm h1;refine⟨?_,hb⟩;unfold bn;rw[hk]
 rcases h2 with⟨h2,rfl⟩|⟨h2,rfl⟩
 .rw[if_pos ((pS hk).2 h2)]
 .rw[if_neg (λh=>h2 ((pS hk).1 h))]
end
end Go.Proofs.YtmonobkginiajaaGreat.Nd
