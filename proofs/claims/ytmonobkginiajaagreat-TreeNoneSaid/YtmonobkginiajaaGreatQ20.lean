/- packed. -/
import Derived.Deep.Cut
import Derived.Deep.CutRange
import Derived.Test.YtmonobkginiajaaGreatQ19
import Derived.Test.YtmonobkginiajaaGreatQ18
import Derived.Lib.Bytealg
import Derived.Laws.StructEq
import Derived.Deep.Grids
import Derived.Deep.Slices
set_option linter.all false
set_option maxRecDepth 100000
set_option maxHeartbeats 8000000
namespace Go.Proofs.YtmonobkginiajaaGreat.Nd
section
open Go.RowKit Sl
attribute [local go_sem ↓] Go.wp_at_zero Go.wp_at_succ aX
def im (l:List E) (i:Nat):Int:=max ((ai (l.take i):Int)-((ai l:Int)-ai (l.take i))) ((ai l:Int)-ai (l.take i)-ai (l.take i))
def qL (l:List E) (m t:Nat):Prop:=1≤t∧t<m∧(∀j,1≤j→j<m→im l t≤im l j)∧ ∀j,1≤j→j<t→im l t<im l j
theorem qM (l:List E) (k:Nat):(aw l).take (k*3)=aw (l.take k):=by
 induction l generalizing k with
 | nil=>simp [aw]
 | cons e l ih=>
  cases k with
  | zero=>simp [aw]
  | succ k=>
   rw [iB,List.take_succ_cons,iB,show (k+1)*3=e.cells.length+k*3 by simp [E.cells]; omega,List.take_length_add_append,ih]
theorem jy (l:List E) (k:Nat):(aw l).drop (k*3)=aw (l.drop k):=by
 induction l generalizing k with
 | nil=>simp [aw]
 | cons e l ih=>
  cases k with
  | zero=>simp [aw]
  | succ k=>
   rw [iB,List.drop_succ_cons,show (k+1)*3=e.cells.length+k*3 by simp [E.cells]; omega,List.drop_length_add_append,ih]
theorem iW (l:List E): ∀v∈aw l,v.oneCell'=true:=by
 intro v hv;simp only [aw,List.mem_flatMap] at hv;obtain ⟨e,_,hv⟩:=hv;simp [E.cells] at hv
 rcases hv with rfl | rfl | rfl<;>rfl
theorem rI {P:Program} {w:World} {t:TypeId} {v:Value} {n:Nat} {l0:List E} (S:aG w t 3 v n (aw l0)) {u:TypeId} {g:Nat} {l:List E} {rest:List Value} (B:ax w g u (aw l++rest).toArray) (o m c:Nat) (hom:o+m≤l.length)
  (T ty:TypeId) (z:Value) (bytes:Nat) (ht:P.underlying T=some (.slice t)) (kn:(P.info? t).map (fun i=>(i.zero,i.size,i.bytes))=some (some z,3,bytes)) (hz:z.cells.size=3)
  (zg:n+m≤maxLen) (hb:(n+m)*bytes≤140737488355328):
  ∃v' w',dI P T ty w v (.slice (some ⟨g,o*3,none⟩) m c)= .ok v' w'∧aG w' t 3 v' (n+m) (aw (l0++(l.drop o).take m))∧ag (ah v) w w'∧(∀x∈ah v',x∈ah v∨w.heap.size≤x):=by
 obtain ⟨i0,hi,iL,gM,iw⟩:=info_parts kn;have hlen:(aw ((l.drop o).take m)).length=m*3:=by rw [an,List.length_take,List.length_drop]; congr 1; omega
 obtain ⟨v',w',h1,h2,h3,h4⟩:=cN (P:=P) S T ty i0 z bytes ht hi iL gM iw hz (by omega)
  ⟨g,o*3,none⟩ m c (aw ((l.drop o).take m)) hlen (fun j x hx=>by
   have hj:j<m*3:=by rw [←hlen]; exact (List.getElem?_eq_some_iff.1 hx).1
   rw [eX];refine (B.cell _).trans ?_;rw [←qM,←jy,List.getElem?_take,if_pos hj,List.getElem?_drop] at hx;rw [List.getElem?_toArray,List.getElem?_append_left (by rw [an]; omega)];exact hx) (iW _) zg hb
 exact ⟨v',w',h1,by rw [eE]; exact h2,h3,h4⟩
theorem Hd {w:World} {g:Nat} {u:TypeId} {l:List E} {rest:List Value} (B:ax w g u (aw l++rest).toArray) (j:Nat) (e:E) (he:l[j]?=some e):lk w (some ⟨g,j*3,none⟩) 1 [e]:=by
 refine ⟨rfl,fun k x hx=>?_⟩;have hk:k=0:=by have:=(List.getElem?_eq_some_iff.1 hx).1; simp at this; exact this
 subst hk;simp only [List.getElem?_cons_zero,Option.some.injEq] at hx;subst hx;have:=AF B j e he;rw [eX,Nat.zero_add] at this;exact ⟨_,rfl,by rw [Nat.zero_mul,Addr.add,if_pos rfl]; exact this⟩
theorem LB (l:List E) (i:Nat):0≤im l i:=by unfold im; omega
def mV (l:List E) (j t:Nat) (jZ:Int):Prop:=(j=0∧jZ= -1∧t=1)∨(0<j∧qL l (j+1) t∧jZ=im l t)
theorem xm {l:List E} {j t:Nat} {jZ R:Int} (h:mV l j t jZ) (hR:R=im l (j+1)) (hb:jZ<0∨R<jZ):mV l (j+1) (j+1) R:=by
 have lt: ∀i,1≤i→i<j+1→im l (j+1)<im l i:=fun i hi1 IJ=>by
  rcases h with ⟨rfl,_,_⟩ | ⟨h0,hB,zD⟩
  ·omega
  ·have:=hB.2.2.1 i hi1 IJ;have:=LB l t;omega
 refine .inr ⟨by omega,⟨by omega,by omega,fun i hi1 IJ=>?_,lt⟩,hR⟩
 rcases Nat.lt_or_ge i (j+1) with h1 | h1
 ·have:=lt i hi1 h1;omega
 ·obtain rfl:i=j+1:=by omega
  exact Int.le_refl _
theorem xo {l:List E} {j t:Nat} {jZ R:Int} (h:mV l j t jZ) (hR:R=im l (j+1)) (h1: ¬jZ<0) (h2: ¬R<jZ):mV l (j+1) t jZ:=by
 rcases h with ⟨rfl,hb,_⟩ | ⟨h0,hB,zD⟩
 ·omega
 ·refine .inr ⟨by omega,⟨hB.1,by have:=hB.2.1; omega,fun i hi1 IJ=>?_,hB.2.2.2⟩,zD⟩
  rcases Nat.lt_or_ge i (j+1) with h3 | h3
  ·exact hB.2.2.1 i hi1 h3
  ·obtain rfl:i=j+1:=by omega
   omega
theorem DW {w:World} (leaf:Bool) (A:Option Addr) (n c:Nat) (l:List E) (S:aG w 111 3 (.slice A n c) n (aw l)) (hn:2≤n) (I0:n≤100) (hb:ai l≤100000):
  Calls Tryz.prog 129 #[aT leaf A n c] w fun r w'=>(∃t A1 c1 A2 c2,r= .returned (.tuple #[aT leaf A1 t c1,aT leaf A2 (n-t) c2])∧qL l n t∧aG w' 111 3 (.slice A1 t c1) t (aw (l.take t))∧aG w' 111 3 (.slice A2 (n-t) c2) (n-t) (aw (l.drop t))∧ ∀x∈ah (.slice A2 (n-t) c2),w.heap.size≤x)∧Below w.heap.size w w':=by
 obtain ⟨g,cap,rest,hv,BG,hcn,GR⟩:=S.form (by omega) (by omega);simp only [Value.slice.injEq,true_and] at hv;obtain ⟨rfl,rfl⟩:=hv;have rl:c≤maxLen:=by obtain ⟨_,_,_,_,h⟩:=S.oM; exact h
 have oN:l.length=n:=by have:=S.1; rw [an] at this; omega
 have lB:=xh oN;have hgl:=BG.lt;have B1:=xh (((ax.new w 118 #[.bool leaf,.slice (some ⟨g,0,none⟩) n c]).alloc (.cells #[.bool false,.slice none 0 0] 118)).alloc (.cells #[.bool false,.slice none 0 0] 118));have B2:=(ax.new (w.alloc (.cells #[.bool leaf,.slice (some ⟨g,0,none⟩) n c] 118)) 118 #[.bool false,.slice none 0 0]).alloc (.cells #[.bool false,.slice none 0 0] 118)
 have B3:=ax.new ((w.alloc (.cells #[.bool leaf,.slice (some ⟨g,0,none⟩) n c] 118)).alloc (.cells #[.bool false,.slice none 0 0] 118)) 118 #[.bool false,.slice none 0 0];rw [qJ] at B2;rw [qJ,qJ] at B3;have B2:=xh B2;have B3:=xh B3;have O0:=xh (ae (ae (ae (Below.refl w.heap.size w) (.cells #[.bool leaf,.slice (some ⟨g,0,none⟩) n c] 118)) (.cells #[.bool false,.slice none 0 0] 118)) (.cells #[.bool false,.slice none 0 0] 118))
 have G0:=xh (((BG.alloc (.cells #[.bool leaf,.slice (some ⟨g,0,none⟩) n c] 118)).alloc (.cells #[.bool false,.slice none 0 0] 118)).alloc (.cells #[.bool false,.slice none 0 0] 118));have E0:=xh (((S.alloc (.cells #[.bool leaf,.slice (some ⟨g,0,none⟩) n c] 118)).alloc (.cells #[.bool false,.slice none 0 0] 118)).alloc (.cells #[.bool false,.slice none 0 0] 118));clear BG S oN;unfold aT;go_enter Tryz.func129,Tryz.ntmps129
 have bx1:(((w.alloc (.cells #[.bool leaf,.slice (some ⟨g,0,none⟩) n c] 118)).alloc (.cells #[.bool false,.slice none 0 0] 118)).alloc (.cells #[.bool false,.slice none 0 0] 118)).cell? ⟨w.heap.size,1,none⟩=some (.slice (some ⟨g,0,none⟩) n c):=B1.out.ab (i:=1) rfl;go_wp2_with fail;generalize hW:(((w.alloc (.cells #[.bool leaf,.slice (some ⟨g,0,none⟩) n c] 118)).alloc (.cells #[.bool false,.slice none 0 0] 118)).alloc (.cells #[.bool false,.slice none 0 0] 118))=W at *;clear hW
 refine (xi (w:=W) (some ⟨g,0,none⟩) n c l (aG.aw E0.out).2 (by omega) (by omega)).mono ?_;rintro r w1 ⟨rfl,aM⟩;have O1:=xh (ao O0.out aM);have C1:=xh (B1.out.below aM B1.out.lt);have C2:=xh (B2.out.below aM B2.out.lt);have C3:=xh (B3.out.below aM B3.out.lt);have G1:=xh (G0.out.below aM G0.out.lt);have hwl:=C1.out.lt;have x1:w1.cell? ⟨w.heap.size,1,none⟩=some (.slice (some ⟨g,0,none⟩) n c):=C1.out.ab (i:=1) rfl
 obtain ⟨all,mf⟩: ∃all,ai l=all:=⟨_,rfl⟩;have HALL:=xh mf;rw [mf] at hb ⊢;have hm1:min (1:Int) (n:Int)=1:=by omega
 clear aM mf bx1;go_wp2_with fail;go_quiet (fail);go_wp2_with fail;have x0:w1.cell? ⟨w.heap.size,0,none⟩=some (.bool leaf):=C1.out.ab (i:=0) rfl
 go_loopw [5,6,7,8] (fun bv av lv iv wr=> ∃(j t:Nat) (jZ:Int),j+1≤n∧bv= .int .i64 jZ∧av= .int .i64 (t:Nat)∧lv= .int .i64 (ai (l.take j):Nat)∧iv= .int .i64 ((j:Int)+1)∧Hid (mV l j t jZ)∧Below w1.heap.size w1 wr) (fun _ _ _ iv _=>n-(intOf iv).toNat)
 case atStart=>exact ⟨0,1,-1,by omega,rfl,rfl,by simp [ai],rfl,xh (.inl ⟨rfl,rfl,rfl⟩),cQ (Below.refl _ _) _⟩
 case round=>
  obtain ⟨j,t,jZ,hj,rfl,rfl,rfl,rfl,BI,O⟩:=hrel;have D1:=xh (C1.out.below O C1.out.lt);have y1:wr.cell? ⟨w.heap.size,1,none⟩=some (.slice (some ⟨g,0,none⟩) n c):=D1.out.ab (i:=1) rfl
  by_cases h:j+1<n
  ·have he:=List.getElem?_eq_getElem (show j<l.length by rw [lB.out]; omega);obtain ⟨e,hee⟩: ∃e,l[j]'(by rw [lB.out]; omega)=e:=⟨_,rfl⟩;rw [hee] at he;have hs:=iU l j e he;have ht:=ma l (j+1);have hone:ai [e]=e.key.size+e.val.size+7:=by simp [ai]
   rw [HALL.out] at ht;have KB:=xh (fun cc=>xi (w:=wr) (some ⟨g,j*3,none⟩) 1 cc [e] (Hd (G1.out.below O G1.out.lt) j e he) (by omega) (by rw [hone]; omega));have HRF:=xh (show im l (j+1)=max ((ai (l.take (j+1)):Int)-((all:Int)-ai (l.take (j+1)))) ((all:Int)-ai (l.take (j+1))-ai (l.take (j+1))) from by unfold im; rw [HALL.out]);obtain ⟨P,hP⟩: ∃P,ai (l.take j)=P:=⟨_,rfl⟩;obtain ⟨q,hq⟩: ∃q,ai (l.take (j+1))=q:=⟨_,rfl⟩
   obtain ⟨ce,hce⟩: ∃ce,ai [e]=ce:=⟨_,rfl⟩;rw [hce] at KB hone;rw [hP,hq] at hs;rw [hq] at ht HRF;rw [hP];have HQ:=xh hq;have hqP:(P:Int)+(ce:Int)=(q:Int):=by omega
   have s1:IntKind.i64.wrap ((P:Int)+(ce:Int))=(q:Int):=by rw [hqP]; exact IntWalk.i64_in _ (by omega)
   have s2:IntKind.i64.wrap ((all:Int)-(q:Int))=(all:Int)-(q:Int):=IntWalk.i64_in _ (by omega);have s3:IntKind.i64.wrap ((q:Int)-((all:Int)-(q:Int)))=(q:Int)-((all:Int)-(q:Int)):=IntWalk.i64_in _ (by omega);have s4:IntKind.i64.wrap ((all:Int)-(q:Int)-(q:Int))=(all:Int)-(q:Int)-(q:Int):=IntWalk.i64_in _ (by omega);have s5:IntKind.i64.wrap (j:Int)=(j:Int):=IntWalk.i64_in _ (by omega);have s6:IntKind.i64.wrap ((j:Int)+1-1)=(j:Int):=by rw [Int.add_sub_cancel]; exact s5
   have s7:IntKind.i64.wrap ((j:Int)+1+1)=(j:Int)+1+1:=IntWalk.i64_in _ (by omega);have s8:(j:Int)+1<(n:Int):=by omega
   have s9:(j:Int)≤(j:Int)+1:=by omega
   have s10:(j:Int)+1≤(c:Int):=by omega
   have s11:((j:Int)+1).toNat=j+1:=by omega
   have s12:(0:Int)≤(j:Int)+1:=by omega
   have OO:=xh O;clear he hee hs hone hP hq hce O;go_wp2_with fail;refine (KB.out _).mono ?_;rintro r w2 ⟨rfl,bT⟩;have O2:=xh (ao OO.out bT);clear bT;go_wp2_with fail
   all_goals
    have hRI: ∀R:Int,R=(if ((q:Int)-((all:Int)-q))<(all:Int)-q-q then (all:Int)-q-q else (q:Int)-((all:Int)-q))→R=im l (j+1):=fun R h=>by rw [h,HRF.out]; split<;>omega
    refine ⟨?_,by simp [intOf]; omega⟩
    first
     | exact ⟨j+1,t,jZ,by omega,rfl,rfl,by rw [HQ.out],by go_num,xh (xo BI.out (hRI _ (by first | rfl | (split<;>omega))) (by first | assumption | omega) (by first | assumption | omega)),O2.out⟩
     | exact ⟨j+1,j+1,_,by omega,rfl,by go_num,by rw [HQ.out],by go_num,xh (xm BI.out (hRI _ (by first | rfl | (split<;>omega))) (by first | (left; assumption) | (right; assumption) | omega)),O2.out⟩
  ·obtain rfl:n=j+1:=by omega
   have D2:=xh (C2.out.below O C2.out.lt);have D3:=xh (C3.out.below O C3.out.lt);have G2:=xh (G1.out.below O G1.out.lt);have y0:wr.cell? ⟨w.heap.size,0,none⟩=some (.bool leaf):=D1.out.ab (i:=0) rfl;have HBT:=xh (show qL l (j+1) t from by
    rcases BI.out with ⟨rfl,_,_⟩ | ⟨_,hB,_⟩
    ·omega
    ·exact hB)
   have ht1:=HBT.out.1;have ht2:=HBT.out.2.1;have OO:=xh (ao O1.out O);have s8: ¬(j:Int)+1<((j+1:Nat):Int):=by omega
   have t1:(t:Int)≤(c:Int):=by omega
   have t2:(t:Int)≤((j+1:Nat):Int):=by omega
   have t3:t<c:=by omega
   have t4: ¬t=c:=by omega
   clear O;go_wp2_with fail;have t5:(t:Int)≤(j:Int)+1:=by omega
   have t6: ¬c=t:=by omega
   have HK:=xh (show ∀W',ag [w.heap.size+1,w.heap.size+1+1] wr W'→(W'.cell? ⟨w.heap.size,0,none⟩=some (.bool leaf)∧W'.cell? ⟨w.heap.size,1,none⟩=some (.slice (some ⟨g,0,none⟩) (j+1) c)) from fun W' ho=>⟨(D1.out.only ho (by simp; omega)).ab (i:=0) rfl,(D1.out.only ho (by simp; omega)).ab (i:=1) rfl⟩)
   have HK0:=xh (show ∀W',ag [] wr W'→(W'.cell? ⟨w.heap.size,0,none⟩=some (.bool leaf)∧W'.cell? ⟨w.heap.size,1,none⟩=some (.slice (some ⟨g,0,none⟩) (j+1) c)) from fun W' ho=>HK.out W' (ho.mono (fun x hx _=>absurd hx (by simp))));have OD:=xh ((ag.refl [] wr).drew);have GD:=xh (G2.out.drew);have Kc:=D2.out.lt;have hd3:=D3.out.lt
   have AP1:=xh (show ∀W' u,ax W' g u (aw l++rest).toArray→ ∃V1 k1 w2,dI Tryz.prog 108 108 W' (.slice none 0 0) (.slice (some ⟨g,0,none⟩) t t)= .ok (.slice V1 t k1) w2∧aG w2 111 3 (.slice V1 t k1) t (aw (l.take t))∧ag [] W' w2∧(∀x∈ah (.slice V1 t k1),W'.heap.size≤x) from fun W' u B=>by
    obtain ⟨v,w2,e1,S,o,f⟩:=rI (P:=Tryz.prog) (l0:=[]) (aG.nil W' 111 3) B 0 t t (by rw [lB.out]; omega) 108 108 (.agg #[.string .empty,.string .empty,.int .i64 0]) 40 Tryz.underlying108 (by kernel_rfl) rfl (by unfold maxLen; omega) (by omega);rw [Nat.zero_add,List.nil_append,List.drop_zero] at S;obtain ⟨V1,k1,rfl⟩:=aq S;exact ⟨V1,k1,w2,e1,S,o,fun x hx=>(f x hx).elim (fun h=>by simp [ah] at h) id⟩)
   have AP2:=xh (show ∀W' u,ax W' g u (aw l++rest).toArray→ ∃V1 k1 w2,dI Tryz.prog 108 108 W' (.slice none 0 0) (.slice (some ⟨g,t*3,none⟩) (j+1-t) (c-t))= .ok (.slice V1 (j+1-t) k1) w2∧aG w2 111 3 (.slice V1 (j+1-t) k1) (j+1-t) (aw (l.drop t))∧ag [] W' w2∧(∀x∈ah (.slice V1 (j+1-t) k1),W'.heap.size≤x) from fun W' u B=>by
    obtain ⟨v,w2,e1,S,o,f⟩:=rI (P:=Tryz.prog) (l0:=[]) (aG.nil W' 111 3) B t (j+1-t) (c-t) (by rw [lB.out]; omega) 108 108 (.agg #[.string .empty,.string .empty,.int .i64 0]) 40 Tryz.underlying108 (by kernel_rfl) rfl (by unfold maxLen; omega) (by omega);rw [Nat.zero_add,List.nil_append,List.take_of_length_le (by rw [List.length_drop,lB.out]; exact Nat.le_refl _)] at S;obtain ⟨V1,k1,rfl⟩:=aq S;exact ⟨V1,k1,w2,e1,S,o,fun x hx=>(f x hx).elim (fun h=>by simp [ah] at h) id⟩)
   refine wp_region_held_drew (S:=fun W'=>W'.cell? ⟨w.heap.size,0,none⟩=some (.bool leaf)∧W'.cell? ⟨w.heap.size,1,none⟩=some (.slice (some ⟨g,0,none⟩) (j+1) c)) (by kernel_rfl) (HK0.out _ OD.out) (fun aj=>?_);refine bR [(0,53),(1,54),(2,55),(3,56),(4,57),(5,58),(6,59),(9,62),(10,63),(11,64),(12,65),(13,66),(14,67)] ?_
   iterate 13 (refine zt ?_; try simp only [Act.put,pa,pb,pc])
   refine bS ?_;refine cA (i:=7) (o:=⟨some 60,_,_,_,_,_⟩) fun K hK=>?_
   ·obtain ⟨Va,ka,w2,ea,Sa,oa,fa⟩:=AP1.out _ _ GD.out;have Oa:=xh (OD.out.trans oa);obtain ⟨Vb,kb,w3,eb,Sb,ob,fb⟩:=AP2.out _ _ (GD.out.only oa (by simp));have Ob:=xh (Oa.out.trans ob);have E1:=xh ea;have E2:=xh eb;have Sa3:=Sa.only ob (by simp);have Fa:=xh (show ∀x∈ah _,wr.heap.size≤x from fa);have Fb:=xh (show ∀x∈ah _,wr.heap.size≤x from fun x hx=>Nat.le_trans oa.size (fb x hx));have D23:=D2.out.only Ob.out (by simp);have D33:=D3.out.only Ob.out (by simp)
    clear ea eb;go_simp;rw [E1.out];go_simp;refine hK.out _ _ (HK0.out _ Oa.out) (fun aj=>?_)
    try simp only [Act.put,pa,pb,pc]
    refine bR [(8,61)] ?_
    iterate 1 (refine zt ?_; try simp only [Act.put,pa,pb,pc])
    refine bS ?_;refine cA (i:=15) (o:=⟨some 68,_,_,_,_,_⟩) fun K hK=>?_;go_simp;rw [E2.out];go_simp;refine hK.out _ _ (HK0.out _ Ob.out) (fun aj=>?_)
    try simp only [Act.put,pa,pb,pc]
    refine bR [(16,69)] ?_
    iterate 1 (refine zt ?_; try simp only [Act.put,pa,pb,pc])
    refine bS ?_;have p0:w3.frozen? ⟨w.heap.size+1,0,none⟩=false:=D23.frozen 0 (by simp);have p1:w3.frozen? ⟨w.heap.size+1,1,none⟩=false:=D23.frozen 1 (by simp);have p2:w3.cell? ⟨w.heap.size+1,0,none⟩=some (.bool false):=D23.ab (i:=0) rfl;have p3:w3.cell? ⟨w.heap.size+1,1,none⟩=some (.slice none 0 0):=D23.ab (i:=1) rfl;have r0:w3.frozen? ⟨w.heap.size+1+1,0,none⟩=false:=D33.frozen 0 (by simp);have r1:w3.frozen? ⟨w.heap.size+1+1,1,none⟩=false:=D33.frozen 1 (by simp)
    have r2:w3.cell? ⟨w.heap.size+1+1,0,none⟩=some (.bool false):=D33.ab (i:=0) rfl;have r3:w3.cell? ⟨w.heap.size+1+1,1,none⟩=some (.slice none 0 0):=D33.ab (i:=1) rfl;have OX1:=xh (((Ob.out.mono (S':=[w.heap.size+1,w.heap.size+1+1]) (fun x hx _=>absurd hx (by simp))).setCell (p:=⟨w.heap.size+1,0,none⟩) (fun _=>by simp) (.bool leaf)).setCell (p:=⟨w.heap.size+1,1,none⟩) (fun _=>by simp) (.slice Va t ka))
    have OX2:=xh ((OX1.out.setCell (p:=⟨w.heap.size+1+1,0,none⟩) (fun _=>by simp) (.bool leaf)).setCell (p:=⟨w.heap.size+1+1,1,none⟩) (fun _=>by simp) (.slice Vb (j+1-t) kb));have BX2:=xh ((((D23.bq 0 (.bool leaf)).bq 1 (.slice Va t ka)).aH (p:=⟨w.heap.size+1+1,0,none⟩) (by simp) (.bool leaf)).aH (p:=⟨w.heap.size+1+1,1,none⟩) (by simp) (.slice Vb (j+1-t) kb))
    have BX3:=xh ((((D33.aH (p:=⟨w.heap.size+1,0,none⟩) (by simp) (.bool leaf)).aH (p:=⟨w.heap.size+1,1,none⟩) (by simp) (.slice Va t ka)).bq 0 (.bool leaf)).bq 1 (.slice Vb (j+1-t) kb))
    have OS:=xh ((((((ag.refl [w.heap.size+1,w.heap.size+1+1] w3).setCell (p:=⟨w.heap.size+1,0,none⟩) (fun _=>by simp) (.bool leaf)).setCell (p:=⟨w.heap.size+1,1,none⟩) (fun _=>by simp) (.slice Va t ka)).setCell (p:=⟨w.heap.size+1+1,0,none⟩) (fun _=>by simp) (.bool leaf)).setCell (p:=⟨w.heap.size+1+1,1,none⟩) (fun _=>by simp) (.slice Vb (j+1-t) kb)));have SX1:=xh (Sa3.only OS.out (fun x hx=>by have:=Fa.out x hx; simp; omega))
    have SX2:=xh (Sb.only OS.out (fun x hx=>by have:=Fb.out x hx; simp; omega));have OB:=xh (OO.out.trans (OX2.out.ay OO.out.size (fun x hx=>by simp at hx; omega)));clear Sa Sb Sa3 oa ob fa fb D23 D33;refine cA (i:=17) (o:=⟨none,_,_,_,_,_⟩) fun K hK=>?_;go_simp;refine hK.out _ _ (HK.out _ OX1.out) (fun aj=>?_)
    try simp only [Act.put,pa,pb,pc]
    refine cA (i:=18) (o:=⟨none,_,_,_,_,_⟩) fun K hK=>?_;go_simp;refine hK.out _ _ (HK.out _ OX2.out) (fun aj=>?_)
    try simp only [Act.put,pa,pb,pc]
    refine wpAnyH_done (by kernel_rfl) ?_ _;go_wp2_with fail;exact bodyPost_ret (DQ rfl rfl rfl BX2.out BX3.out) rfl ⟨⟨t,_,_,_,_,rfl,HBT.out,SX1.out,SX2.out,fun x hx=>Nat.le_trans OO.out.size (Fb.out x hx)⟩,OB.out⟩
end
section
open Go.RowKit Sl Go.Deep Go.ChangeShapes Go.WideShapes
def cost (e:E):Nat:=e.key.size+e.val.size+7
theorem vW (l m:List E):ai (l++m)=ai l+ai m:=by simp [ai]
theorem rJ (l:List E) (t:Nat):ai l=ai (l.take t)+ai (l.drop t):=by rw [←vW,List.take_append_drop]
theorem uD (leaf:Bool) (l:List E):gD (fF leaf l)=223-(ai l:Int):=by
 unfold gD fF ai;have h: ∀l:List E,((l.map mc).map fun r=>4+r.length).sum=(l.map fun e=>e.key.size+e.val.size+7).sum:=by
  intro l
  induction l with
  | nil=>rfl
  | cons e l ih=>simp only [List.map_cons,List.sum_cons,ih,me]; omega
 have hk:(xj leaf).length=1:=by unfold xj; split<;>rfl
 rw [List.map_cons,List.sum_cons,h,hk];omega
theorem xq (l:List E) (hc: ∀e∈l,cost e≤79) (hn:2≤l.length): ∃i,1≤i∧i<l.length∧im l i≤79:=by
 have step: ∀k,k+1<l.length→(∃i,1≤i∧i<l.length∧im l i≤79)∨2*ai (l.take (k+1))<ai l:=by
  intro k
  induction k with
  | zero=>
   intro hk
   by_cases h:2*ai (l.take 1)<ai l
   ·exact .inr h
   ·refine .inl ⟨1,by omega,by omega,?_⟩;have he:=List.getElem?_eq_getElem (show 0<l.length by omega);have hs:=iU l 0 _ he;have hx:=hc _ (List.getElem_mem (show 0<l.length by omega));unfold cost at hx;have ht:=ma l 1;rw [List.take_zero] at hs;have h0:ai ([]:List E)=0:=rfl;rw [Nat.zero_add] at hs;unfold im;omega
  | succ k ih=>
   intro hk
   rcases ih (by omega) with h | h
   ·exact .inl h
   ·by_cases h2:2*ai (l.take (k+1+1))<ai l
    ·exact .inr h2
    ·have he:=List.getElem?_eq_getElem (show k+1<l.length by omega);have hs:=iU l (k+1) _ he;have hx:=hc _ (List.getElem_mem (show k+1<l.length by omega));unfold cost at hx
     by_cases h3:2*ai (l.take (k+1+1))≤ai l+79
     ·refine .inl ⟨k+1+1,by omega,by omega,?_⟩;unfold im;omega
     ·refine .inl ⟨k+1,by omega,by omega,?_⟩;unfold im;omega
 rcases step (l.length-2) (by omega) with h | h
 ·exact h
 ·refine ⟨l.length-1,by omega,by omega,?_⟩;rw [show l.length-2+1=l.length-1 by omega] at h;have he:=List.getElem?_eq_getElem (show l.length-1<l.length by omega);have hs:=iU l (l.length-1) _ he;have hx:=hc _ (List.getElem_mem (show l.length-1<l.length by omega));unfold cost at hx;rw [show l.length-1+1=l.length by omega,List.take_length] at hs;unfold im;omega
theorem He {l:List E} {t:Nat} (hc: ∀e∈l,cost e≤79) (hn:2≤l.length) (hb:ai l≤302) (h:qL l l.length t):ai (l.take t)≤223∧ai (l.drop t)≤223:=by
 obtain ⟨i,h1,h2,h3⟩:=xq l hc hn;have h4:=h.2.2.1 i h1 h2;have h5:=rJ l t;unfold im at h3 h4;omega
end
end Go.Proofs.YtmonobkginiajaaGreat.Nd
namespace Go.Proofs.YtmonobkginiajaaGreat.Nd
open Go.RowKit Sl
attribute [local go_sem ↓] Go.wp_at_zero Go.wp_at_succ
theorem DX (a b:ByteArray) (w:World):
  Calls Tryz.prog 161 #[.string a,.string b] w fun e w'=>e= .returned (.int .i64 (Lib.compareBytes a.data.toList b.data.toList))∧Below w.heap.size w w':=by
 go_enter Tryz.func161,Tryz.ntmps161;go_wp2_with fail;rw [run_callFunc_extern Tryz.func205 (by kernel_rfl) (by kernel_rfl) (by kernel_rfl) (e:=Extern.BytealgCompare.compare) (by kernel_rfl),Lib.run_compareString];simp only [Result.andThen];rw [Oper.upon_value]
 go_wp2
 go_ret;exact ⟨rfl,Below.refl _ _⟩
theorem AJ (a b:ByteArray) (w:World):
  Calls Tryz.prog 115 #[.string a,.string b] w fun e w'=>e= .returned (.int .i64 (Lib.compareBytes a.data.toList b.data.toList))∧Below w.heap.size w w':=by
 have K:=xh (DX a b w);go_enter Tryz.func115,Tryz.ntmps115;go_wp2_with fail;refine K.out.mono ?_;rintro e w1 ⟨rfl,hb⟩;have HB:=xh hb;go_wp2_with fail;go_ret;exact ⟨rfl,HB.out⟩
theorem mJ (e:E) (k:ByteArray) (w:World):
  Calls Tryz.prog 114 #[e.agg,.string k] w fun r w'=>r= .returned (.int .i64 (Lib.compareBytes e.key.data.toList k.data.toList))∧Below w.heap.size w w':=by
 have O0:=xh ((Below.refl w.heap.size w).alloc (Nat.le_refl _) (.cells #[.string e.key,.string e.val,.int .i64 e.aH] 111));have B0:=ax.new w 111 #[.string e.key,.string e.val,.int .i64 e.aH];have c0:=B0.ab (i:=0) rfl;have K:=xh (fun w=>AJ e.key k w);clear B0;unfold E.agg;go_enter Tryz.func114,Tryz.ntmps114;go_wp2_with fail;refine (K.out _).mono ?_;rintro e w1 ⟨rfl,hb⟩;have HB:=xh (ao O0.out hb);clear hb;go_wp2_with fail;go_ret;exact ⟨rfl,HB.out⟩
def nu (e:E) (k:ByteArray):Int:=Lib.compareBytes e.key.data.toList k.data.toList
def mW (l:List E) (key:ByteArray) (k:Nat):Prop:=k≤l.length∧(∀e,0<k→l[k-1]?=some e→nu e key<0)∧(∀e,l[k]?=some e→0≤nu e key)
def xr (l:List E) (key:ByteArray) (k:Nat):Prop:= ∃e,l[k]?=some e∧nu e key=0
theorem AK {w:World} (A:Option Addr) (n c:Nat) (l:List E) (key:ByteArray) (h:lk w A n l) (hn:n≤1000000):
  Calls Tryz.prog 113 #[.slice A n c,.string key,.func (Fn.func 114) #[] #[]] w fun r w'=>(∃k b,r= .returned (.tuple #[.int .i64 (k:Nat),.bool b])∧mW l key k∧(b=true↔xr l key k))∧Below w.heap.size w w':=by
 have hl:=xh h.1;have H0:=xh h;clear h;go_enter Tryz.func113,Tryz.ntmps113;go_wp2_with fail
 go_loopw [9,10] (fun iv jv wr=> ∃i j:Nat,i≤j∧j≤n∧iv= .int .i64 i∧jv= .int .i64 j∧Hid (∀e,0<i→l[i-1]?=some e→nu e key<0)∧Hid (∀e,l[j]?=some e→0≤nu e key)∧Below w.heap.size w wr) (fun iv jv _=>(intOf jv).toNat-(intOf iv).toNat)
 case atStart=>exact ⟨0,n,Nat.zero_le _,Nat.le_refl _,rfl,rfl,xh (fun e h=>absurd h (Nat.lt_irrefl _)),xh (fun e h=>by have:=(List.getElem?_eq_some_iff.1 h).1; have:=hl.out; omega),Below.refl _ _⟩
 case round=>
  obtain ⟨i,j,hij,hj,rfl,rfl,LO,HI,hb⟩:=hrel
  by_cases h:i<j
  ·obtain ⟨m,hm⟩: ∃m,(i+j) / 2=m:=⟨_,rfl⟩;have hmj:m<j:=by omega
   have hmi:i≤m:=by omega
   have hmI:((i:Int)+(j:Int)) / 2=(m:Int):=by omega
   obtain ⟨ad,e,rfl,he,AT⟩:=(H0.out.below hb).at m (by omega);have HB:=xh hb;have a0:=AT.c0;have a1:=AT.c1;have a2:=AT.c2;have e1:IntKind.i64.wrap ((i:Int)+(j:Int))=(i:Int)+(j:Int):=IntWalk.i64_in _ (by omega);have e2:IntKind.u64.wrap ((i:Int)+(j:Int))=(i:Int)+(j:Int):=IntWalk.u64_in _ (by omega);have e3:IntKind.i64.wrap (m:Int)=(m:Int):=IntWalk.i64_in _ (by omega);have hmn:m<n:=by omega
   have KF:=xh (mJ e key wr);have HE:=xh he;unfold E.agg at KF;clear AT hb he;obtain ⟨q,hq⟩: ∃q,Lib.compareBytes e.key.data.toList key.data.toList=q:=⟨_,rfl⟩;have HQ:=xh (show nu e key=q from hq);rw [hq] at KF;clear hq;go_wp2_with fail;refine KF.out.mono ?_;rintro r w1 ⟨rfl,aM⟩;have ER:=xh (ao HB.out aM);clear aM
   by_cases hq:q<0
   ·have HLO:=xh (show ∀x,0<m+1→l[m+1-1]?=some x→nu x key<0 from fun x _ hx=>by
     rw [Nat.add_sub_cancel,HE.out] at hx;injection hx with hx
     rw [←hx,HQ.out]; exact hq)
    go_wp2_with fail;go_roundw
    case rel=>exact ⟨m+1,j,by omega,hj,by go_num,rfl,HLO,HI,ER.out⟩
    case measure=>simp [intOf]; omega
   ·have HHI:=xh (show ∀x,l[m]?=some x→0≤nu x key from fun x hx=>by
     rw [HE.out] at hx;injection hx with hx
     rw [←hx,HQ.out]; omega)
    go_wp2_with fail;go_roundw
    case rel=>exact ⟨i,m,hmi,by omega,rfl,rfl,LO,HHI,ER.out⟩
    case measure=>simp [intOf]; omega
  ·obtain rfl:i=j:=by omega
   have HB:=xh hb;have nF:=xh (show mW l key i from ⟨by have:=hl.out; omega,LO.out,HI.out⟩)
   by_cases nA:i<n
   ·obtain ⟨ad,e,rfl,he,AT⟩:=(H0.out.below hb).at i nA;have a0:=AT.c0;have a1:=AT.c1;have a2:=AT.c2;have KF:=xh (mJ e key wr);have HE:=xh he;unfold E.agg at KF;clear AT hb he;obtain ⟨q,hq⟩: ∃q,Lib.compareBytes e.key.data.toList key.data.toList=q:=⟨_,rfl⟩;have HQ:=xh (show nu e key=q from hq);rw [hq] at KF;clear hq;have HI2:(i:Int)<(n:Int):=by omega
    go_wp2_with fail;refine KF.out.mono ?_;rintro r w1 ⟨rfl,aM⟩;have ER:=xh (ao HB.out aM);clear aM
    by_cases hq:q=0
    ·subst hq;go_wp2_with fail;go_ret2;exact ⟨⟨i,true,rfl,nF.out,by simp only [true_iff]; exact ⟨e,HE.out,HQ.out⟩⟩,ER.out⟩
    ·go_wp2_with fail;go_ret2;refine ⟨⟨i,false,by simp [hq],nF.out,?_⟩,ER.out⟩;simp only [Bool.false_eq_true,false_iff];rintro ⟨x,hx,h0⟩;rw [HE.out] at hx;injection hx with hx
     subst hx;exact hq (HQ.out.symm.trans h0)
   ·have hin2: ¬(i:Int)<(n:Int):=by omega
    clear hb;go_wp2_with fail;go_ret2;refine ⟨⟨i,.inl ⟨rfl,nF.out,?_⟩⟩,HB.out⟩;rintro ⟨x,hx,h0⟩;have:=(List.getElem?_eq_some_iff.1 hx).1;have:=hl.out;omega
end Go.Proofs.YtmonobkginiajaaGreat.Nd
namespace Go.Proofs.YtmonobkginiajaaGreat.Nd
open Go.RowKit Sl
attribute [local go_sem ↓] Go.wp_at_zero Go.wp_at_succ
theorem fQ {w:World} (leaf:Bool) (A:Option Addr) (n c:Nat) (l:List E) (key:ByteArray) (h:lk w A n l) (hn:n≤1000000):
  Calls Tryz.prog 64 #[aT leaf A n c,.string key] w fun r w'=>(∃k b,r= .returned (.tuple #[.int .i64 (k:Nat),.bool b])∧mW l key k∧(b=true↔xr l key k))∧Below w.heap.size w w':=by
 have O0:=(Below.refl w.heap.size w).alloc (Nat.le_refl _) (.cells #[.bool leaf,.slice A n c] 118);have B0:=ax.new w 118 #[.bool leaf,.slice A n c];have c1:(w.alloc (.cells #[.bool leaf,.slice A n c] 118)).cell? ⟨w.heap.size,1,none⟩=some (.slice A n c):=B0.ab (i:=1) rfl;have K:=xh (AK (w:=w.alloc (.cells #[.bool leaf,.slice A n c] 118)) A n c l key (h.below O0) hn);have O0:=xh O0;clear h B0;unfold aT;go_enter Tryz.func64,Tryz.ntmps64;go_wp2_with fail
 refine K.out.mono ?_;rintro r w1 ⟨⟨k,b,rfl,hp,hh⟩,aM⟩;have HP:=xh hp;have HH:=xh hh;have O1:=xh (ao O0.out aM);clear hp hh aM;go_wp2_with fail;go_ret2;exact ⟨⟨k,b,rfl,HP.out,HH.out⟩,O1.out⟩
theorem Hf {w:World} (leaf:Bool) (A:Option Addr) (n c:Nat) (l:List E) (key:ByteArray) (h:lk w A n l) (hn:n≤1000000):
  Calls Tryz.prog 110 #[aT leaf A n c,.string key] w fun r w'=>(∃m:Nat,r= .returned (.int .i64 (m:Nat))∧ ∃k,mW l key k∧((xr l key k∧m=k)∨(¬xr l key k∧m=k-1)))∧Below w.heap.size w w':=by
 have O0:=(Below.refl w.heap.size w).alloc (Nat.le_refl _) (.cells #[.bool leaf,.slice A n c] 118);have B0:=ax.new w 118 #[.bool leaf,.slice A n c];have c0:(w.alloc (.cells #[.bool leaf,.slice A n c] 118)).cell? ⟨w.heap.size,0,none⟩=some (.bool leaf):=B0.ab (i:=0) rfl;have c1:(w.alloc (.cells #[.bool leaf,.slice A n c] 118)).cell? ⟨w.heap.size,1,none⟩=some (.slice A n c):=B0.ab (i:=1) rfl
 have K:=xh (fQ (w:=w.alloc (.cells #[.bool leaf,.slice A n c] 118)) leaf A n c l key (h.below O0) hn);have O0:=xh O0;have HL:=xh h.1;clear h B0;unfold aT at *;go_enter Tryz.func110,Tryz.ntmps110;go_wp2_with fail;refine K.out.mono ?_;rintro r w1 ⟨⟨k,b,rfl,hp,hh⟩,aM⟩;have HP:=xh hp;have HH:=xh hh;have O1:=xh (ao O0.out aM);have hk:k≤1000000:=by have:=hp.1; have:=HL.out; omega
 clear hp hh aM
 cases b
 ·rcases (show k=0∨ ∃j,k=j+1 from by cases k; exact .inl rfl; exact .inr ⟨_,rfl⟩) with rfl | ⟨j,rfl⟩
  ·go_wp2_with fail;go_ret;exact ⟨⟨0,rfl,0,HP.out,.inr ⟨fun hx=>absurd (HH.out.2 hx) (by decide),rfl⟩⟩,O1.out⟩
  ·have e1:IntKind.i64.wrap ((j:Int)+1-1)=(j:Int):=by rw [Int.add_sub_cancel]; exact IntWalk.i64_in _ (by omega)
   have e2:IntKind.i64.wrap (j:Int)=(j:Int):=IntWalk.i64_in _ (by omega);have e3:max (j:Int) 0=(j:Int):=by omega
   have e4: ¬(j:Int)<0:=by omega
   go_wp2_with fail;go_ret;refine ⟨⟨j,?_,j+1,HP.out,.inr ⟨fun hx=>absurd (HH.out.2 hx) (by decide),rfl⟩⟩,O1.out⟩
   first | rfl | simp [e3]
 ·have e3:max (k:Int) 0=(k:Int):=by omega
  have e4: ¬(k:Int)<0:=by omega
  go_wp2_with fail;go_ret;refine ⟨⟨k,?_,k,HP.out,.inl ⟨HH.out.1 (by trivial),rfl⟩⟩,O1.out⟩
  first | rfl | simp [e3]
end Go.Proofs.YtmonobkginiajaaGreat.Nd
namespace Go.Proofs.YtmonobkginiajaaGreat.Nd
open Go.RowKit Sl
attribute [local go_sem ↓] Go.wp_at_zero Go.wp_at_succ
end Go.Proofs.YtmonobkginiajaaGreat.Nd
namespace Go.Proofs.YtmonobkginiajaaGreat.Nd
open Go.RowKit Sl
attribute [local go_sem ↓] Go.wp_at_zero Go.wp_at_succ
end Go.Proofs.YtmonobkginiajaaGreat.Nd
namespace Go.Proofs.YtmonobkginiajaaGreat.Nd
open Go.RowKit Sl
attribute [local go_sem ↓] Go.wp_at_zero Go.wp_at_succ aX
end Go.Proofs.YtmonobkginiajaaGreat.Nd
namespace Go.Proofs.YtmonobkginiajaaGreat.Nd
open Go.RowKit Sl
attribute [local go_sem ↓] Go.wp_at_zero Go.wp_at_succ aX
end Go.Proofs.YtmonobkginiajaaGreat.Nd
namespace Go.Proofs.YtmonobkginiajaaGreat.Nd
open Go.RowKit Sl Go.Deep Go.ChangeShapes Go.WideShapes
instance:Inhabited E:=⟨⟨.empty,.empty,0⟩⟩
end Go.Proofs.YtmonobkginiajaaGreat.Nd
namespace Go.Proofs.YtmonobkginiajaaGreat.Nd
open Go.RowKit Sl
abbrev cb:=Lib.compareBytes
theorem ll (a:UInt8) (x:List UInt8) (b:UInt8) (y:List UInt8):cb (a::x) (b::y)=if a<b then -1 else if b<a then 1 else cb x y:=rfl
theorem Fk {a b:UInt8} (h1: ¬a<b) (h2: ¬b<a):a=b:=by
 rw [UInt8.lt_iff_toNat_lt] at h1 h2;exact UInt8.toNat_inj.1 (by omega)
theorem LC: ∀(x y:List UInt8),cb x y=0↔x=y
 | [],[]=>by simp [cb,Lib.compareBytes]
 | [],_::_=>by simp [cb,Lib.compareBytes]
 | _::_,[]=>by simp [cb,Lib.compareBytes]
 | a::x,b::y=>by
  rw [ll]
  by_cases h1:a<b
  ·rw [if_pos h1];have:a≠b:=fun e=>by subst e; exact absurd h1 (by rw [UInt8.lt_iff_toNat_lt]; omega)
   simp [this]
  ·rw [if_neg h1]
   by_cases h2:b<a
   ·rw [if_pos h2];have:a≠b:=fun e=>by subst e; exact h1 h2
    simp [this]
   ·rw [if_neg h2,LC x y,Fk h1 h2]; simp
theorem DY: ∀(x y:List UInt8),cb y x= -cb x y
 | [],[]=>rfl
 | [],_::_=>rfl
 | _::_,[]=>rfl
 | a::x,b::y=>by
  rw [ll,ll]
  by_cases h1:a<b
  ·have h2: ¬b<a:=by rw [UInt8.lt_iff_toNat_lt] at *; omega
   rw [if_pos h1,if_neg h2,if_pos h1]; rfl
  ·rw [if_neg h1,if_neg h1]
   by_cases h2:b<a
   ·rw [if_pos h2,if_pos h2]
   ·rw [if_neg h2,if_neg h2]; exact DY x y
theorem mh: ∀(x y z:List UInt8),cb x y<0→cb y z<0→cb x z<0
 | [],[],_=>fun h _=>absurd h (by decide)
 | [],_::_,[]=>fun _ h=>absurd h (by simp [cb,Lib.compareBytes])
 | [],_::_,_::_=>fun _ _=>by simp [cb,Lib.compareBytes]
 | _::_,[],_=>fun h _=>absurd h (by simp [cb,Lib.compareBytes])
 | _::_,_::_,[]=>fun _ h=>absurd h (by simp [cb,Lib.compareBytes])
 | a::x,b::y,c::z=>by
  rw [ll,ll,ll];intro h1 h2
  by_cases p1:a<b
  ·by_cases p2:b<c
   ·rw [if_pos (by rw [UInt8.lt_iff_toNat_lt] at *; omega)]; decide
   ·rw [if_neg p2] at h2
    by_cases p3:c<b
    ·rw [if_pos p3] at h2; exact absurd h2 (by decide)
    ·obtain rfl:=Fk p2 p3;rw [if_pos p1]; decide
  ·rw [if_neg p1] at h1
   by_cases p4:b<a
   ·rw [if_pos p4] at h1; exact absurd h1 (by decide)
   ·rw [if_neg p4] at h1;obtain rfl:=Fk p1 p4
    by_cases p2:a<c
    ·rw [if_pos p2]; decide
    ·rw [if_neg p2] at h2 ⊢
     by_cases p3:c<a
     ·rw [if_pos p3] at h2; exact absurd h2 (by decide)
     ·rw [if_neg p3] at h2 ⊢;exact mh x y z h1 h2
theorem LF: ∀(x y:List UInt8),Op.bytesLess x y=decide (cb x y<0)
 | [],[]=>by simp [Op.bytesLess,cb,Lib.compareBytes]
 | [],_::_=>by simp [Op.bytesLess,cb,Lib.compareBytes]
 | _::_,[]=>by simp [Op.bytesLess,cb,Lib.compareBytes]
 | a::x,b::y=>by
  rw [ll,Op.bytesLess]
  by_cases h1:a<b
  ·simp [h1]
  ·by_cases h2:b<a
   ·have h3: ¬a=b:=fun e=>by subst e; exact h1 h2
    simp [h1,h2,h3]
   ·have h3:=Fk h1 h2;subst h3;simp [h1,LF x y]
theorem LG (a b:ByteArray):leB a b=decide (cb a.data.toList b.data.toList≤0):=by
 unfold leB;rw [bZ,bZ,LF];have h:=LC a.data.toList b.data.toList
 by_cases h1:cb a.data.toList b.data.toList<0
 ·rw [decide_eq_true h1,decide_eq_true (by omega)]; rfl
 ·rw [decide_eq_false h1]
  by_cases h2:a.data.toList=b.data.toList
  ·rw [decide_eq_true (by rw [h.2 h2]; omega),h2]; simp
  ·rw [decide_eq_false (by
    have:cb a.data.toList b.data.toList≠0:=fun e=>h2 (h.1 e);omega)]
   simpa using h2
theorem AL {l:List E} {leaf:Bool} (hm:cM l leaf) {i:Nat} {p e:E} (hp:l[i]?=some p) (he:l[i+1]?=some e):cb p.key.data.toList e.key.data.toList<0:=by
 have h:=(hm (i+1) (List.getElem?_eq_some_iff.1 he).1 e he).2 (by omega) p (by rw [Nat.add_sub_cancel]; exact hp);rw [LG,decide_eq_false_iff_not] at h;have:=DY p.key.data.toList e.key.data.toList;omega
theorem D0 {l:List E} {leaf:Bool} (hm:cM l leaf) (i d:Nat): ∀{p e:E},l[i]?=some p→l[i+1+d]?=some e→cb p.key.data.toList e.key.data.toList<0:=by
 induction d with
 | zero=>intro p e hp he; exact AL hm hp he
 | succ d ih=>
  intro p e hp he;have dL:=(List.getElem?_eq_some_iff.1 he).1;have hq:=List.getElem?_eq_getElem (show i+1+d<l.length by omega);exact mh _ _ _ (ih hp hq) (AL hm hq (by rw [show i+1+d+1=i+1+(d+1) by omega]; exact he))
theorem D4 {l:List E} {leaf:Bool} {key:ByteArray} {p:Nat} (hm:cM l leaf) (h:mW l key p) (j:Nat) (e:E) (he:l[j]?=some e):nu e key<0↔j<p:=by
 constructor
 ·intro hc
  rcases Nat.lt_or_ge j p with h1 | h1
  ·exact h1
  ·exfalso
   rcases Nat.lt_or_eq_of_le h1 with h2 | rfl
   ·have hq:=List.getElem?_eq_getElem (show p<l.length by have:=(List.getElem?_eq_some_iff.1 he).1; omega);have h3:=h.2.2 _ hq;have h4:=D0 hm p (j-p-1) hq (by rw [show p+1+(j-p-1)=j by omega]; exact he);have h5:=mh _ _ _ h4 hc;unfold nu at h3;exact absurd h5 (by unfold cb; omega)
   ·have:=h.2.2 _ he; omega
 ·intro hj;have hp:=h.1;have hq:=List.getElem?_eq_getElem (show p-1<l.length by omega);have h3:=h.2.1 _ (by omega) hq
  rcases Nat.lt_or_ge j (p-1) with h1 | h1
  ·have h4:=D0 hm j (p-1-j-1) he (by rw [show j+1+(p-1-j-1)=p-1 by omega]; exact hq);exact mh _ _ _ h4 h3
  ·obtain rfl:j=p-1:=by omega
   rw [he] at hq;injection hq with hq
   rw [hq]; exact h3
end Go.Proofs.YtmonobkginiajaaGreat.Nd
namespace Go.Proofs.YtmonobkginiajaaGreat.Nd
open Go.RowKit Sl
def mayB (l:List E) (leaf:Bool):Bool:=(List.range l.length).all fun i=>match l[i]? with
 | none=>true
 | some e=>decide (cE e leaf) && (decide (i=0) || match l[i-1]? with
  | none=>true
  | some p=> !leB e.key p.key)
theorem iX (l:List E) (leaf:Bool):mayB l leaf=true↔cM l leaf:=by
 unfold mayB cM okAt;rw [List.all_eq_true];refine ⟨fun h i hi e he=>?_,fun h i hi=>?_⟩
 ·have:=h i (List.mem_range.2 hi);rw [he] at this;simp only [Bool.and_eq_true,decide_eq_true_eq,Bool.or_eq_true] at this;refine ⟨this.1,fun h0 p hp=>?_⟩;have h2:=this.2.resolve_left (by omega);rw [hp] at h2;simpa using h2
 ·have hi:=List.mem_range.1 hi;have he:=List.getElem?_eq_getElem hi;obtain ⟨a,b⟩:=h i hi _ he;rw [he];simp only [Bool.and_eq_true,decide_eq_true_eq,Bool.or_eq_true];refine ⟨a,?_⟩
  by_cases h0:i=0
  ·exact .inl h0
  ·right;have hp:=List.getElem?_eq_getElem (show i-1<l.length by omega);rw [hp];simpa using b (by omega) _ hp
def LH (rs:List (List UInt8)):Bool:=(decide (rs.head?=some [1]) || decide (rs.head?=some [2])) && (rs.tail.all (fun r=>decide (3+jQ ⟨r.toArray⟩≤r.length)) && mayB (iV rs) (j9 rs))
theorem mX (rs:List (List UInt8)):LH rs=true↔fR rs:=by
 unfold LH fR fE;simp only [Bool.and_eq_true,Bool.or_eq_true,decide_eq_true_eq,List.all_eq_true,iX];refine and_congr_right fun _=>and_congr_left fun _=>?_;have: ∀r:List UInt8,(⟨r.toArray⟩:ByteArray).size=r.length:=fun r=>by show r.toArray.size=_; simp
 simp only [this]
def aF (b:List UInt8):Bool×List E×Int:=
 if bw b≠0 then (false,[],bw b) else if LH (bX b)=true then (j9 (bX b),iV (bX b),0) else (false,[],14)
def aJ (leaf:Bool) (l:List E):List UInt8×Int:=
 if mayB l leaf=true then (if 0≤gD (fF leaf l) then (ofL (fF leaf l),0) else ([],11)) else ([],2)
theorem uE (l:List (List UInt8)) (h:0≤gD l): ∀k,k≤l.length→Sound (AB l k)∧bX (AB l k)=l.take k
 | 0,_=>⟨l7.1,by rw [List.take_zero]; exact l7.2.1⟩
 | k+1,hk=>by
  obtain ⟨s,r⟩:=uE l h k (by omega);have e:l.getD k []=l[k]:=by rw [List.getD_eq_getElem?_getD,List.getElem?_eq_getElem (by omega)]; rfl
  have h1:=ur l k (by omega);have h2:=uu l (k+1);obtain ⟨_,a,b⟩:=Fj s k l[k] (by rw [r]; omega) (by rw [r,List.length_take]; omega);unfold AB;rw [e];refine ⟨a,?_⟩;rw [b,r,List.take_succ_eq_append_getElem (by omega),List.take_of_length_le (by rw [List.length_take]; omega),List.drop_eq_nil_of_le (by rw [List.length_take]; omega)]
theorem qN (l:List (List UInt8)) (h:0≤gD l):Sound (ofL l)∧bX (ofL l)=l:=by
 have:=uE l h l.length (Nat.le_refl _);rw [List.take_length] at this;exact this
theorem rK (leaf:Bool) (l:List E):(aJ leaf l).1.length≤232:=by
 unfold aJ
 split
 ·split
  ·rename_i h;exact Nat.le_of_eq (qN _ h).1.len
  ·exact Nat.zero_le _
 ·exact Nat.zero_le _
theorem AM (b:List UInt8):(aF b).2.1.length≤57:=by
 unfold aF
 split
 ·exact Nat.zero_le _
 ·rename_i h
  split
  ·have hs:Sound b:=(dj b).1 (by simpa using h);have h1:=hs.head;have h2:=hs.heap;show (iV (bX b)).length≤57;unfold iV;rw [List.length_map,List.length_tail,bY];omega
  ·exact Nat.zero_le _
theorem rL {b:List UInt8} (h:(aF b).2.2=0):cM (aF b).2.1 (aF b).1:=by
 unfold aF at h ⊢
 split at h
 ·rename_i h2; exact absurd h h2
 ·rename_i h2;rw [if_neg h2]
  split at h
  ·rename_i h3;rw [if_pos h3];exact ((mX _).1 h3).2.2
  ·exact absurd h (by decide)
theorem AN {leaf:Bool} {l:List E} (h:(aJ leaf l).2=0):aF (aJ leaf l).1=(leaf,l,0):=by
 unfold aJ at h ⊢
 split at h
 ·rename_i hm;rw [if_pos hm]
  split at h
  ·rename_i hr;rw [if_pos hr];obtain ⟨s,r⟩:=qN _ hr;have IC:=(iX _ _).1 hm;unfold aF;rw [if_neg (by rw [(dj _).2 s]; simp),r,if_pos ((mX _).2 (AH IC)),uC,uB IC]
  ·exact absurd h (by decide)
 ·exact absurd h (by decide)
def aK (l:List E) (key:ByteArray):Nat:=l.findIdx fun e=>decide (0≤nu e key)
def bI (l:List E) (key:ByteArray):Bool:=match l[aK l key]? with
 | none=>false
 | some e=>decide (nu e key=0)
def bg (l:List E) (key:ByteArray):Nat:=if bI l key=true then aK l key else aK l key-1
def bj (l:List E):Nat:=((List.range l.length).find? fun t=>decide (1≤t) && (List.range l.length).all fun j=>decide (j=0) || decide (im l t≤im l j)).getD 1
theorem Fl {l:List E} {t:Nat} (h:qL l l.length t):bj l=t:=by
 obtain ⟨h1,h2,h3,h4⟩:=h;unfold bj;have:(List.range l.length).find? (fun t=>decide (1≤t) && (List.range l.length).all fun j=>decide (j=0) || decide (im l t≤im l j))=some t:=by
  rw [List.find?_eq_some_iff_append];refine ⟨?_,List.range t,(List.range (l.length-t-1)).map (· +(t+1)),?_,fun a ha=>?_⟩
  ·simp only [Bool.and_eq_true,decide_eq_true_eq,List.all_eq_true,Bool.or_eq_true,List.mem_range];exact ⟨h1,fun j hj=>by
    by_cases h0:j=0
    ·exact .inl h0
    ·exact .inr (h3 j (by omega) hj)⟩
  ·apply List.ext_getElem
   ·simp; omega
   ·intro i hi1 IJ;rw [List.getElem_range];rw [List.getElem_append];simp only [List.length_range]
    split
    ·rw [List.getElem_range]
    ·rename_i hi;rw [List.getElem_cons]
     split
     ·omega
     ·simp; omega
  ·have ha:=List.mem_range.1 ha
   by_cases h0:a=0
   ·subst h0; simp
   ·have:=h4 a (by omega) ha;simp only [Bool.not_eq_true',Bool.and_eq_false_iff];right;rw [Bool.eq_false_iff];intro hc;rw [List.all_eq_true] at hc;have:=hc t (List.mem_range.2 h2);simp only [Bool.or_eq_true,decide_eq_true_eq] at this;omega
 rw [this];rfl
theorem uF {l:List E} {leaf:Bool} {key:ByteArray} {k:Nat} (hm:cM l leaf) (h:mW l key k):aK l key=k:=by
 unfold aK;obtain ⟨h1,h2,h3⟩:=h;have hp:=D4 hm ⟨h1,h2,h3⟩
 rcases Nat.lt_or_ge k l.length with hk | hk
 ·have hkk:=List.getElem?_eq_getElem hk;rw [List.findIdx_eq hk];refine ⟨by simpa using h3 _ hkk,fun j hj=>?_⟩;have:=(hp j _ (List.getElem?_eq_getElem (by omega))).2 hj;simpa using this
 ·obtain rfl:k=l.length:=by omega
  rw [List.findIdx_eq_length];intro e he;obtain ⟨j,hj,rfl⟩:=List.getElem_of_mem he;have:=(hp j _ (List.getElem?_eq_getElem hj)).2 hj;simpa using this
theorem qO {l:List E} {key:ByteArray} {k:Nat} (h:aK l key=k):bI l key=true↔xr l key k:=by
 unfold bI xr;rw [h]
 cases l[k]? with
 | none=>simp
 | some e=>simp
section
open Go.RowKit
theorem LJ (s:ByteArray) (w:World) (hs:s.size≤1000000):
  Calls Tryz.prog 122 #[.string s] w fun e w'=> ∃A c,e= .returned (.tuple #[aT (aF s.data.toList).1 A (aF s.data.toList).2.1.length c,.int .i64 (aF s.data.toList).2.2])∧
   aG w' 111 3 (.slice A (aF s.data.toList).2.1.length c) (aF s.data.toList).2.1.length (aw (aF s.data.toList).2.1)∧(∀g∈ah (.slice A (aF s.data.toList).2.1.length c),w.heap.size≤g)∧Below w.heap.size w w':=by
 refine (got_any s w hs).mono ?_;unfold aF;rintro e w' (⟨h1,rfl,hb⟩ | ⟨h1,h2,hb⟩)
 ·rw [if_pos h1];exact ⟨none,0,rfl,aG.nil _ _ _,by simp [ah],hb⟩
 ·rw [if_neg (by simpa using h1)]
  rcases h2 with ⟨h2,rfl⟩ | ⟨h2,A,n,c,rfl,S,f⟩
  ·rw [if_neg (fun h=>h2 ((mX _).1 h))];exact ⟨none,0,rfl,aG.nil _ _ _,by simp [ah],hb⟩
  ·rw [if_pos ((mX _).2 h2)];have hn:=S.1;rw [an] at hn;obtain rfl:(iV (bX s.data.toList)).length=n:=by omega
   exact ⟨A,c,rfl,S,f.out,hb⟩
theorem uG {w:World} (leaf:Bool) (A:Option Addr) (n c:Nat) (l:List E) (h:lk w A n l) (hn:n≤1000):
  Calls Tryz.prog 68 #[aT leaf A n c] w fun e w'=>e= .returned (.tuple #[.string ⟨(aJ leaf l).1.toArray⟩,.int .i64 (aJ leaf l).2])∧Below w.heap.size w w':=by
 unfold aJ
 by_cases hm:cM l leaf
 ·rw [if_pos ((iX _ _).2 hm)];refine (put_yes leaf A n c l h hn hm).mono ?_;rintro e w' ⟨h1 | h1,hb⟩
  ·obtain ⟨h0,b,rfl,_,_,he⟩:=h1;rw [if_pos h0];refine ⟨?_,hb⟩;rw [show (⟨(ofL (fF leaf l)).toArray⟩:ByteArray)=b by rw [←he]]
  ·obtain ⟨h0,rfl⟩:=h1;rw [if_neg (by omega)];exact ⟨rfl,hb⟩
 ·rw [if_neg (fun h=>hm ((iX _ _).1 h))];exact put_no leaf A n c l h (by omega) hm
theorem qP {w:World} (leaf:Bool) (A:Option Addr) (n c:Nat) (l:List E) (key:ByteArray) (h:lk w A n l) (hn:n≤1000000) (hm:cM l leaf):
  Calls Tryz.prog 64 #[aT leaf A n c,.string key] w fun r w'=>r= .returned (.tuple #[.int .i64 (aK l key:Nat),.bool (bI l key)])∧Below w.heap.size w w':=by
 refine (fQ leaf A n c l key h hn).mono ?_;rintro e w' ⟨⟨k,b,rfl,h1,h2⟩,hb⟩;have hk:=uF hm h1;refine ⟨?_,hb⟩;rw [hk];have:bI l key=b:=by
  rw [Bool.eq_iff_iff,qO hk,h2]
 rw [this]
theorem uH {w:World} (leaf:Bool) (A:Option Addr) (n c:Nat) (l:List E) (key:ByteArray) (h:lk w A n l) (hn:n≤1000000) (hm:cM l leaf):
  Calls Tryz.prog 110 #[aT leaf A n c,.string key] w fun r w'=>r= .returned (.int .i64 (bg l key:Nat))∧Below w.heap.size w w':=by
 refine (Hf leaf A n c l key h hn).mono ?_;rintro e w' ⟨⟨m,rfl,k,h1,h2⟩,hb⟩;have hk:=uF hm h1;refine ⟨?_,hb⟩;unfold bg;rw [hk]
 rcases h2 with ⟨h2,rfl⟩ | ⟨h2,rfl⟩
 ·rw [if_pos ((qO hk).2 h2)]
 ·rw [if_neg (fun h=>h2 ((qO hk).1 h))]
end
end Go.Proofs.YtmonobkginiajaaGreat.Nd
