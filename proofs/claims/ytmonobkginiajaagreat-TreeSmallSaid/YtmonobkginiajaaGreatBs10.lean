/- packed. -/
import Derived.Test.YtmonobkginiajaaGreatBs9
set_option linter.all false
set_option maxRecDepth 100000
set_option maxHeartbeats 8000000
namespace Go.Proofs.YtmonobkginiajaaGreat
open Go.Proofs.Tryz
namespace Sh
open Go.RowKit Pk Dk Pg
open Nd (E aD bu aN aW dL)
attribute [local go_sem ↓] Go.wp_at_zero Go.wp_at_succ
variable{K' tb n K:Nat}{w:World}{I:Ix}{F:List Nat}
def pz(e:Int):Int:=if e=3\/e=6 then 14 else e
def QS.bh(q:QS)(p:Int):QS×Bool×List E×Int:=
 if(q.cU p).2.2≠0 then((q.cU p).1,false,[],pz (q.cU p).2.2)
 else((q.cU p).1,(aN (q.cU p).2.1.data.toList).1,(aN (q.cU p).2.1.data.toList).2.1,pz (aN (q.cU p).2.1.data.toList).2.2)
def blank(leaf:Bool)(l:List E):List E:=match leaf,l with
 |false,e::r=>{e with key:=⟨#[]⟩}::r
 |_,l=>l
def bH(leaf:Bool)(l:List E):List UInt8×Int:=aW leaf (blank leaf l)
def QS.cN(q:QS)(p:Int)(leaf:Bool)(l:List E):QS×Int:=if(bH leaf l).2≠0 then(q,(bH leaf l).2)else q.du p ⟨(bH leaf l).1.toArray⟩
def QS.eC(q:QS)(leaf:Bool)(l:List E):QS×Int×Int:=if(bH leaf l).2≠0 then(q,0,(bH leaf l).2)else q.bJ (bH leaf l).1
def tp(b:Nat):Value:= .pointer (some ⟨b,0,none⟩)
def TQ(w:World)(tb:Nat)(I:Ix)(F:List Nat)(q:QS)(n K:Nat):Prop:=aF w tb 130 #[pp I.pb]/\PQ w I F q n K
section
variable{w w':World}{tb:Nat}{I:Ix}{F S:List Nat}{q q':QS}{n K:Nat}
theorem TQ.ne(h:TQ w tb I F q n K):tb∉F:=h.2.iI h.1
theorem TQ.below(h:TQ w tb I F q n K)(hb:Below w.heap.size w w'):TQ w' tb I F q n K:=⟨h.1.below hb h.1.lt,h.2.below hb⟩
theorem TQ.only(h:TQ w tb I F q n K)(o:ag S w w')(hd:∀g∈tb::F,g∉S):TQ w' tb I F q n K:=⟨h.1.only o (hd _ (fK ..)),h.2.only o (λg hg=>hd g (aw _ hg))⟩
theorem TQ.lt(h:TQ w tb I F q n K):∀g∈tb::F,g<w.heap.size:=λg hg=>(aj.1 hg).elim (λe=>by rw[e];exact h.1.lt) (h.2.lt g)
theorem TQ.le(h:TQ w tb I F q n K)(hk:K<=K'):TQ w tb I F q n K':=⟨h.1,h.2.le hk⟩
theorem TQ.next(h:TQ w tb I F q n K)(o:ag F w w')(p:PQ w' I F q' n K'):TQ w' tb I F q' n K':=⟨h.1.only o h.ne,p⟩
end
theorem lZ(l:List E):(aD l).length=l.length*3:=Nd.ar l
theorem uA(e:Int)(w:World):Calls prog 112 #[.int .i64 e] w λr w'=>r=.returned (.int .i64 (pz e))/\w=w':=by
 unfold pz
 by_cases h3:e=3
 .subst h3;go_enter func112,ntmps112;go_wp2_with fail;go_ret;exact aP rfl
 .have q3:(e==3)=false:=by rw[beq_eq_false_iff_ne];exact h3
  by_cases h6:e=6
  .subst h6;go_enter func112,ntmps112;go_wp2_with fail;go_ret;exact aP rfl
  .have q6:(e==6)=false:=by rw[beq_eq_false_iff_ne];exact h6
   rw[if_neg (by omega)];go_enter func112,ntmps112;go_wp2_with fail;go_ret;exact aP rfl
theorem FU{g:Nat}{b b':Bool}{v v':Value}(B:aF w g 118 #[.bool b,v]):
  aF ((w.setCell ⟨g,0,none⟩ (.bool b')).setCell ⟨g,1,none⟩ v') g 118 #[.bool b',v']/\ag [g] w ((w.setCell ⟨g,0,none⟩ (.bool b')).setCell ⟨g,1,none⟩ v')/\
   w.cell? ⟨g,0,none⟩=some (.bool b)/\w.cell? ⟨g,1,none⟩=some v/\w.frozen? ⟨g,0,none⟩=false/\w.frozen? ⟨g,1,none⟩=false:=
 ⟨(B.bU 0 _).bU 1 _,((ag.refl _ _).setCell (by simp) _).setCell (by simp) _,B.ab rfl,B.ab rfl,B.frozen 0 (by simp),B.frozen 1 (by simp)⟩
theorem mf{q:QS}(h:TQ w tb I F q n K)(hK:K<=999999999999)(p:Int):
  Calls prog 70 #[tp tb,.int .i64 p] w λe w'=> ∃A c,e=.returned (.tuple #[bu (q.bh p).2.1 A (q.bh p).2.2.1.length c,.int .i64 (q.bh p).2.2.2])/\
   aS w' 111 3 (.slice A (q.bh p).2.2.1.length c) (q.bh p).2.2.1.length (aD (q.bh p).2.2.1)/\(∀g∈ah (.slice A (q.bh p).2.2.1.length c),w.heap.size<=g)/\PQ w' I F (q.bh p).1 n (K+1)/\ag F w w':=by
 have O0:=xh (ae (Below.refl w.heap.size w) (.cells #[.bool false,.slice none 0 0] 118));have B0:=xh (aF.new w 118 #[.bool false,.slice none 0 0]);have T0:=h.below O0.o;have p0:=T0.1.ab (i:=0) rfl;have NQ:=xh (show w.heap.size∉F from λhm=>by have:=h.2.lt _ hm;omega);have KG:=xh (uk T0.2 hK p);have KB:=xh uA;have hgs:=λh0=>Ae h.2.wp (p:=p) h0;unfold QS.bh;generalize q.cU p=R at *;obtain⟨q1,s,er⟩:=R;dsimp only at *
 clear h T0;unfold pp tp bu at *
 by_cases he:er=0
 .subst he;have hs:=hgs rfl;rw[if_neg (by simp)];have KN:=xh (λ(W:World)=>Nd.VC s W (by omega));generalize aN s.data.toList=G at *;obtain⟨leaf,l,er⟩:=G;dsimp only at *;unfold bu at *;clear hgs hs;go_enter func70,ntmps70;go_wp2_with fail;refine KG.o.mono ?_;rintro e w1 ⟨rfl,P1,o1⟩;have P1:=xh P1;have B1:=xh (B0.o.only o1 NQ.o);have o1:=xh o1;clear p0;go_wp2_with fail;refine(KN.o _).mono ?_;rintro e w2 ⟨A,c,rfl,S2,f2,dn⟩
  have S2:=xh S2;have f2:=xh f2;have P2:=xh (P1.o.below dn);have B2:=xh (B1.o.below dn B1.o.lt);have O2:=xh (o1.o.trans (.ai dn));clear dn;go_wp2_with fail;have NE:=xh (show ¬w2.heap.size=w.heap.size from by have:=O2.o.size;simp at this;omega);have C3:=xh (aF.new w2 118 #[.bool leaf,.slice A l.length c]);have B3:=xh (B2.o.alloc (.cells #[.bool leaf,.slice A l.length c] 118))
  have S3:=xh (S2.o.alloc (.cells #[.bool leaf,.slice A l.length c] 118));have fi:=ae (Below.refl w2.heap.size w2) (.cells #[.bool leaf,.slice A l.length c] 118);have P3:=xh (P2.o.below fi);have O3:=xh (O2.o.trans (.ai fi));have f3:=xh (show ∀g∈ah (.slice A l.length c),w.heap.size<=g/\g≠w.heap.size from λg hg=>by have h1:=f2.o g hg;have h2:=o1.o.size;simp at h2;omega);clear fi
  generalize w2.alloc (.cells #[.bool leaf,.slice A l.length c] 118)=w3 at *;generalize w2.heap.size=g2 at *;have C3d:=xh C3.o.drew;have KS:=xh (And.intro (C3d.o.ab (i:=0) rfl) (C3d.o.ab (i:=1) rfl));clear C3;have C3:=C3d;have B3:=xh B3.o.drew;have S3:=xh S3.o.drew;have P3:=xh P3.o.drew;have O3:=xh O3.o.drew
  refine wp_region_held_drew (S:=λW=>W.cell? ⟨g2,0,none⟩=some (.bool leaf)/\W.cell? ⟨g2,1,none⟩=some (.slice A l.length c)) (by kernel_rfl) (KS.o) (λau=>?_);generalize w3.drew=w4 at *;refine cP [(0,28),(1,29)] ?_
  iterate 2 refine bj ?_
  refine cQ 2 30 λK hK=>?_;go_simp
  go_at_call 112
  refine(KB.o _ _).mono ?_;rintro e w5 ⟨rfl,rfl⟩;go_simp;refine bz hK (KS.o) (λau=>?_);refine nB 3 λK hK=>?_;go_simp;obtain⟨B4,o4,d0,d1,z0,z1⟩:=FU (b':=leaf) (v':= .slice A l.length c) B3.o;have B4:=xh B4;have C4:=xh (C3.o.only o4 (by simpa using NE.o));have KS4:=xh (And.intro (C4.o.ab (i:=0) rfl) (C4.o.ab (i:=1) rfl));have o4:=xh o4;go_simp;refine bz hK (KS4.o) (λau=>?_);refine cP [(4,5)] ?_
  iterate 1 refine bj ?_
  refine wpAnyH_done (by kernel_rfl) ?_ _;go_wp2_with fail;exact bodyPost_ret (Nd.iS rfl rfl B4.o) rfl ⟨A,c,rfl,S3.o.only o4.o (λg hg hm=>(f3.o g hg).2 (by simpa using hm)),λg hg=>(f3.o g hg).1,P3.o.aQ o4.o NQ.o,l8 (((ag.ai (S:=w.heap.size::F) O0.o).trans (l9 O3.o)).trans (ma o4.o)) (Nat.le_refl _)⟩
 .rw[if_pos he];have hq:(er != 0)=true:=by rw[bne_iff_ne];exact he
  have kh:(er==0)=false:=by rw[beq_eq_false_iff_ne];exact he
  clear hgs;go_enter func70,ntmps70;go_wp2_with fail;refine KG.o.mono ?_;rintro e w1 ⟨rfl,P1,o1⟩;have P1:=xh P1;have B1:=xh (B0.o.only o1 NQ.o);have o1:=xh o1;clear p0;go_wp2_with fail;refine(KB.o _ _).mono ?_;rintro e w2 ⟨rfl,rfl⟩;obtain⟨B2,o2,c0,c1,z0,z1⟩:=FU (b':=false) (v':= .slice none 0 0) B1.o;have B2:=xh B2;have o2:=xh o2;go_wp2_with fail
  exact bodyPost_ret (Nd.iS rfl rfl B2.o) rfl ⟨none,0,rfl,aS.nil _ _ _,by simp[ah],P1.o.aQ o2.o NQ.o,l8 (((ag.ai (S:=w.heap.size::F) O0.o).trans (l9 o1.o)).trans (ma o2.o)) (Nat.le_refl _)⟩
theorem AL(leaf:Bool)(A:Option Addr)(n c:Nat)(l:List E)(S:aS w 111 3 (.slice A n c) n (aD l))(hn:n<=1000):
  Calls prog 175 #[bu leaf A n c] w λe w'=>e=.returned (.tuple #[.string ⟨(bH leaf l).1.toArray⟩,.int .i64 (bH leaf l).2])/\Below w.heap.size w w':=by
 have O0:=xh (ae (Below.refl w.heap.size w) (.cells #[.bool leaf,.slice A n c] 118));have B0:=xh (aF.new w 118 #[.bool leaf,.slice A n c]);have S0:=xh (S.below O0.o);have x0:=B0.o.ab (i:=0) rfl;have x1:=B0.o.ab (i:=1) rfl;have hl:=S.1;rw[lZ]at hl
 by_cases hc:leaf=false/\0<n
 .obtain⟨rfl,h0⟩:=hc;obtain⟨e,r,rfl⟩:∃e r,l=e::r:=by
   cases l with
   |nil=>simp at hl;omega
   |cons e r=>exact⟨e,r,rfl⟩
  have KC:=xh (λ(W:World) (hb:Below (w.alloc (.cells #[.bool false,.slice A n c] 118)).heap.size (w.alloc (.cells #[.bool false,.slice A n c] 118)) W)=>Nd.Mw (S0.o.below hb) (by omega) h0);have KP:=xh (λ(W:World) (g c1:Nat) (h:aS W 111 3 (.slice (some ⟨g,0,none⟩) n c1) n (aD (blank false (e::r))))=>Nd.AJ (w:=W) false (some ⟨g,0,none⟩) n c1 (blank false (e::r)) (Nd.aS.aD h).2 hn);unfold bH;generalize aW false (blank false (e::r))=R at *
  have h0I:(0:Int)<(n:Int):=by omega
  have HN:=xh h0;clear S hl;unfold bu at *;go_enter func175,ntmps175;go_wp2_with fail;refine(KC.o _ (Below.refl _ _)).mono ?_;rintro e2 w1 ⟨g,c1,rfl,S1,bg,hg⟩;have B1:=xh (B0.o.below bg B0.o.lt);have O1:=xh (aC O0.o bg);have fc:g≠w.heap.size:=by simp at hg;omega
  obtain⟨rest,BG,Vh,_,hr2⟩:=S1.uP;have y0:=B1.o.ab (i:=0) rfl;have y1:=B1.o.ab (i:=1) rfl;have y2:=B1.o.frozen 1 (by simp);have B2:=xh (B1.o.bU 1 (.slice (some ⟨g,0,none⟩) n c1));have BG2:=BG.aQ (p:=⟨w.heap.size,1,none⟩) (by simpa using fc) (.slice (some ⟨g,0,none⟩) n c1);have z0:=BG2.ab (i:=0) (v:= .string e.key) rfl;have z1:=BG2.frozen 0 (by simp[Nd.aD,E.cells]);have BG3:=BG2.bU 0 (.string ⟨#[]⟩)
  have S3:=xh (show aS ((w1.setCell ⟨w.heap.size,1,none⟩ (.slice (some ⟨g,0,none⟩) n c1)).setCell ⟨g,0,none⟩ (.string ⟨#[]⟩)) 111 3 (.slice (some ⟨g,0,none⟩) n c1) n (aD (blank false (e::r)))from
   ⟨by have:=S1.1;rw[lZ]at this ⊢;simpa [blank]using this,.inr ⟨g,c1,rest,rfl,by simpa [blank,Nd.aD,E.cells]using BG3,by rw[lZ]at Vh ⊢;simpa [blank]using Vh,hr2⟩⟩)
  have B3:=xh (B2.o.aQ (p:=⟨g,0,none⟩) (by simpa using λh=>fc h.symm) (.string ⟨#[]⟩));have u1:=B2.o.ab (i:=1) rfl;have v0:=B3.o.ab (i:=0) rfl;have v1:=B3.o.ab (i:=1) rfl;have O3:=xh (show Below w.heap.size w ((w1.setCell ⟨w.heap.size,1,none⟩ (.slice (some ⟨g,0,none⟩) n c1)).setCell ⟨g,0,none⟩ (.string ⟨#[]⟩))from
   ((ag.ai (S:=[w.heap.size,g]) O1.o).aL (((ag.refl [w.heap.size,g] w1).setCell (by simp) _).setCell (by simp) _) (λx hx _=>hx)).aJ (Nat.le_refl _) (λx hx=>by simp at hx hg;omega))
  clear BG BG2 BG3 S1 bg Vh hr2 hg;go_wp2_with fail;refine(KP.o _ g c1 S3.o).mono ?_;rintro e3 w4 ⟨rfl,jk⟩;have O4:=xh (aC O3.o jk);clear jk;go_wp2_with fail;go_ret2;exact aP O4.o
 .have rY:blank leaf l=l:=by
   unfold blank
   split
   .exfalso;refine hc ⟨rfl,?_⟩;simp at hl;omega
   .rfl
  have KP:=xh (Nd.AJ leaf A n c l (Nd.aS.aD S0.o).2 hn);unfold bH;rw[rY];generalize aW leaf l=R at *;clear S hl rY;unfold bu at *
  cases leaf
  .obtain rfl:n=0:=by
    by_cases h:0<n
    .exact absurd ⟨rfl,h⟩ hc
    .omega
   clear hc;go_enter func175,ntmps175;go_wp2_with fail;refine KP.o.mono ?_;rintro e3 w4 ⟨rfl,jk⟩;have O4:=xh (aC O0.o jk);clear jk;go_wp2_with fail;go_ret2;exact aP O4.o
  .clear hc;go_enter func175,ntmps175;go_wp2_with fail;refine KP.o.mono ?_;rintro e3 w4 ⟨rfl,jk⟩;have O4:=xh (aC O0.o jk);clear jk;go_wp2_with fail;go_ret2;exact aP O4.o
theorem IK(leaf:Bool)(l:List E):(bH leaf l).1.length<=232:=Nd.xK leaf _
theorem oR{q:QS}(h:TQ w tb I F q n K)(hK:K<=999999999999)(p:Int)(leaf:Bool)(A:Option Addr)(m c:Nat)(l:List E)(S:aS w 111 3 (.slice A m c) m (aD l))(hm:m<=1000):
  Calls prog 127 #[tp tb,.int .i64 p,bu leaf A m c] w λe w'=>e=.returned (.int .i64 (q.cN p leaf l).2)/\PQ w' I F (q.cN p leaf l).1 n (K+1)/\ag F w w':=by
 have O0:=xh (ae (Below.refl w.heap.size w) (.cells #[.bool leaf,.slice A m c] 118));have B0:=xh (aF.new w 118 #[.bool leaf,.slice A m c]);have x0:=B0.o.ab (i:=0) rfl;have x1:=B0.o.ab (i:=1) rfl;have T0:=xh (h.below O0.o);have KL:=xh (AL leaf A m c l (S.below O0.o) hm);have hlen:=IK leaf l;have KP:=xh (λ(W:World) (hW:TQ W tb I F q n K) (s:ByteArray) (hs:s.size<=232)=>UO hW.2 hK p s hs);unfold QS.cN
 generalize bH leaf l=R at *;obtain⟨R1,R2⟩:=R;dsimp only at *;obtain⟨s,hs⟩:∃s:ByteArray,s=⟨R1.toArray⟩:=⟨_,rfl⟩;have oX:s.size<=232:=by rw[hs];show R1.toArray.size<=232;simpa using hlen
 have BH:R1=s.data.toList:=by rw[hs]
 rw[BH]at KL ⊢;rw[show(⟨s.data.toList.toArray⟩:ByteArray)=s from rfl]at KL;clear hs BH hlen S h;unfold bu tp at *;unfold pp at KP
 by_cases he:R2=0
 .subst he;rw[if_neg (by simp)];go_enter func127,ntmps127;go_wp2_with fail;refine KL.o.mono ?_;rintro e w1 ⟨rfl,bg⟩;have T1:=xh (T0.o.below bg);have O1:=xh (aC O0.o bg);have p0:=T1.o.1.ab (i:=0) rfl;unfold pp at p0;clear bg x0 x1;go_wp2_with fail;refine(KP.o _ T1.o s oX).mono ?_;rintro e w2 ⟨rfl,P2,o2⟩;have P2:=xh P2;have o2:=xh o2;clear p0;go_wp2_with fail;go_ret;exact aP ⟨P2.o,(ag.ai O1.o).trans o2.o⟩
 .rw[if_pos he];have hq:(R2 != 0)=true:=by rw[bne_iff_ne];exact he
  have kh:(R2==0)=false:=by rw[beq_eq_false_iff_ne];exact he
  go_enter func127,ntmps127;go_wp2_with fail;refine KL.o.mono ?_;rintro e w1 ⟨rfl,bg⟩;have T1:=xh (T0.o.below bg);have O1:=xh (aC O0.o bg);clear bg x0 x1;go_wp2_with fail;go_ret;exact aP ⟨T1.o.2.le (by omega),.ai O1.o⟩
theorem wy{q:QS}(h:TQ w tb I F q n K)(hK:K<=999999999999)(leaf:Bool)(A:Option Addr)(m c:Nat)(l:List E)(S:aS w 111 3 (.slice A m c) m (aD l))(hm:m<=1000):
  Calls prog 131 #[tp tb,bu leaf A m c] w λe w'=>e=.returned (.tuple #[.int .i64 (q.eC leaf l).2.1,.int .i64 (q.eC leaf l).2.2])/\PT w w' I F (q.eC leaf l).1 n (K+1):=by
 have O0:=xh (ae (Below.refl w.heap.size w) (.cells #[.bool leaf,.slice A m c] 118));have B0:=xh (aF.new w 118 #[.bool leaf,.slice A m c]);have x0:=B0.o.ab (i:=0) rfl;have x1:=B0.o.ab (i:=1) rfl;have T0:=xh (h.below O0.o);have KL:=xh (AL leaf A m c l (S.below O0.o) hm);have hlen:=IK leaf l;have KP:=xh (λ(W:World) (hW:TQ W tb I F q n K) (s:ByteArray) (hs:s.size<=232)=>zZ hW.2 (by omega) s hs);unfold QS.eC
 generalize bH leaf l=R at *;obtain⟨R1,R2⟩:=R;dsimp only at *;obtain⟨s,hs⟩:∃s:ByteArray,s=⟨R1.toArray⟩:=⟨_,rfl⟩;have oX:s.size<=232:=by rw[hs];show R1.toArray.size<=232;simpa using hlen
 have BH:R1=s.data.toList:=by rw[hs]
 rw[BH]at KL ⊢;rw[show(⟨s.data.toList.toArray⟩:ByteArray)=s from rfl]at KL;clear hs BH hlen S h;unfold bu tp at *;unfold pp at KP
 by_cases he:R2=0
 .subst he;rw[if_neg (by simp)];go_enter func131,ntmps131;go_wp2_with fail;refine KL.o.mono ?_;rintro e w1 ⟨rfl,bg⟩;have T1:=xh (T0.o.below bg);have O1:=xh (aC O0.o bg);have p0:=T1.o.1.ab (i:=0) rfl;unfold pp at p0;clear bg x0 x1;go_wp2_with fail;refine(KP.o _ T1.o s oX).mono ?_;rintro e w2 ⟨rfl,P2⟩;have P2:=xh P2;clear p0;go_wp2_with fail;go_ret2;obtain⟨F2,a,b,c⟩:=P2.o
  exact aP ⟨F2,a,(ag.ai O1.o).trans b,λg hg=>(c g hg).imp id (λh=>aq O1.o.size h)⟩
 .rw[if_pos he];have hq:(R2 != 0)=true:=by rw[bne_iff_ne];exact he
  have kh:(R2==0)=false:=by rw[beq_eq_false_iff_ne];exact he
  go_enter func131,ntmps131;go_wp2_with fail;refine KL.o.mono ?_;rintro e w1 ⟨rfl,bg⟩;have T1:=xh (T0.o.below bg);have O1:=xh (aC O0.o bg);clear bg x0 x1;go_wp2_with fail;go_ret2;exact aP (.self (T1.o.2.le (by omega)) (.ai O1.o))
theorem QY(leaf:Bool)(A:Option Addr)(m c:Nat)(l:List E)(S:aS w 111 3 (.slice A m c) m (aD l))(hm:m<=1000)(b:Bool)(hb:b=decide ((bH leaf l).2=0)):
  Calls prog 128 #[bu leaf A m c] w λe w'=>e=.returned (.bool b)/\Below w.heap.size w w':=by
 have O0:=xh (ae (Below.refl w.heap.size w) (.cells #[.bool leaf,.slice A m c] 118));have B0:=xh (aF.new w 118 #[.bool leaf,.slice A m c]);have x0:=B0.o.ab (i:=0) rfl;have x1:=B0.o.ab (i:=1) rfl;have KL:=xh (AL leaf A m c l (S.below O0.o) hm);generalize bH leaf l=R at *;obtain⟨R1,R2⟩:=R;dsimp only at *;clear S;unfold bu at *
 by_cases he:R2=0
 .subst he;obtain rfl:b=true:=by rw[hb];rfl
  clear hb;go_enter func128,ntmps128;go_wp2_with fail;refine KL.o.mono ?_;rintro e w1 ⟨rfl,bg⟩;have O1:=xh (aC O0.o bg);clear bg;go_wp2_with fail;go_ret;exact aP O1.o
 .obtain rfl:b=false:=by rw[hb];simpa using he
  have kh:(R2==0)=false:=by rw[beq_eq_false_iff_ne];exact he
  clear hb;go_enter func128,ntmps128;go_wp2_with fail;refine KL.o.mono ?_;rintro e w1 ⟨rfl,bg⟩;have O1:=xh (aC O0.o bg);clear bg;go_wp2_with fail;go_ret;exact aP O1.o
open Nd (E aD bu aN aW dL bA aY cq)
attribute [local go_sem ↓] bw
variable{w:World}
structure Step where
 an:Int
 leaf:Bool
 l:List E
 at_:Nat
structure SM where
 s:Step
 A:Option Addr
 c:Nat
def SM.v(x:SM):Value:= .slice x.A x.s.l.length x.c
def SM.cells(x:SM):List Value:=[.int .i64 x.s.an,.bool x.s.leaf,x.v,.int .i64 (x.s.at_:Nat)]
structure aV(w:World)(b:Nat)(v:Value)(L:List SM):Prop where
 s:aS w 120 4 v L.length (L.flatMap SM.cells)
 f:∀g∈ah v,b<=g
 e:∀x∈L,aS w 111 3 x.v x.s.l.length (aD x.s.l)/\∀g∈ah x.v,b<=g
 d:L.Pairwise λx y=> ∀g∈ah x.v,g∉ah y.v
section
variable{w w':World}{b:Nat}{v:Value}{L:List SM}{S:List Nat}
theorem aV.only(h:aV w b v L)(o:ag S w w')(hs:∀g∈S,g<b):aV w' b v L:=
 ⟨h.s.only o (λg hg hm=>by have:=h.f g hg;have:=hs g hm;omega),h.f,λx hx=>⟨(h.e x hx).1.only o (λg hg hm=>by have:=(h.e x hx).2 g hg;have:=hs g hm;omega),(h.e x hx).2⟩,h.d⟩
theorem aV.below(h:aV w b v L)(hb:Below w.heap.size w w'):aV w' b v L:=h.only (S:=[]) (.ai hb) (by simp)
theorem aV.nil(w:World)(b:Nat):aV w b (.slice none 0 0) []:=⟨aS.nil _ _ _,by simp[ah],by simp,List.Pairwise.nil⟩
end
def On:Value->Nat
 |.slice _ n _=>n
 |_=>0
def nN(key:ByteArray):Nat->QS->Int->List Step->QS×List Step×Int
 |0,q,_,_=>(q,[],14)
 |m+1,q,p,out=>
  if(q.bh p).2.2.2≠0 then((q.bh p).1,[],(q.bh p).2.2.2)
  else if(q.bh p).2.1=true then((q.bh p).1,out++[⟨p,true,(q.bh p).2.2.1,0⟩],0)
  else if(q.bh p).2.2.1=[]then((q.bh p).1,[],14)
  else nN key m (q.bh p).1 ((q.bh p).2.2.1.getD (bA (q.bh p).2.2.1 key) Nd.E.zero).aQ (out++[⟨p,false,(q.bh p).2.2.1,bA (q.bh p).2.2.1 key⟩])
def QS.eJ(q:QS)(key:ByteArray):QS×List Step×Int:=nN key 16 q 0 []
theorem wB{l:List E}(h:l≠[])(key:ByteArray):bA l key<l.length:=by
 have hl:0<l.length:=vg.2 h;unfold bA;have hle:aY l key<=l.length:=n7
 split
 .rename_i hh;unfold cq at hh
  cases hx:l[aY l key]? with
  |none=>rw[hx]at hh;cases hh
  |some e=>exact(aM.1 hx).1
 .omega
theorem kK(q:QS)(p:Int):(q.bh p).2.2.1.length<=57:=by
 unfold QS.bh
 split
 .exact bf _
 .exact Nd.ID _
theorem rq{e:Int}:pz e=0↔e=0:=by unfold pz;split<;>omega
theorem ru{q:QS}{p:Int}(h:(q.bh p).2.2.2=0):dL (q.bh p).2.2.1 (q.bh p).2.1:=by
 unfold QS.bh at h ⊢
 split at h
 .rename_i h2;exact absurd (rq.1 h) h2
 .rename_i h2;rw[if_neg h2];exact Nd.xL (rq.1 h)
theorem lR(w:World)(o:Obj):(w.alloc o).heap.size=w.heap.size+1:=by simp
theorem eU:∀L:List SM,(L.flatMap SM.cells).length=L.length*4
 |[]=>rfl
 |x::L=>by rw[gJ,aO,eU L];simp[SM.cells];omega
theorem ry:∀{L:List SM} {k:Nat} {x:SM},L[k]?=some x->∀j,j<4->(L.flatMap SM.cells)[k*4+j]?=x.cells[j]?
 |[],_,_,h,_,_=>by simp at h
 |y::L,0,x,h,j,hj=>by
  simp only[yW,Option.some.injEq]at h;subst h;rw[gJ,bE (by simp[SM.cells];omega),oo,bl]
 |y::L,k+1,x,h,j,hj=>by
  rw[vf]at h;rw[gJ,dR (by simp[SM.cells];omega),show(k+1)*4+j-y.cells.length=k*4+j by simp[SM.cells];omega];exact ry h j hj
theorem QZ:(prog.info? 120).map (λi=>(i.zero,i.size,i.bytes))=some (some (.agg #[.int .i64 0,.bool false,.slice none 0 0,.int .i64 0]),4,48):=by kernel_rfl
theorem AM{v:Value}{m:Nat}{L:List Value}(S:aS w 120 4 v m L)(cs:List Value)(JC:cs.length=4)(h1:∀u∈cs,u.oneCell'=true)(hm:m<=100):
  ∃v' w',dZ prog 114 114 (w.alloc (.cells cs.toArray 120)) v (.slice (some ⟨w.heap.size,0,none⟩) 1 1)= .ok v' w'/\aS w' 120 4 v' (m+1) (L++cs)/\ag (ah v) w w'/\(∀g∈ah v',g∈ah v\/w.heap.size<=g):=by
 obtain⟨i0,hi,ku,js,ki⟩:=info_parts QZ;obtain⟨v',w',h1,h2,h3,h4⟩:=dC (P:=prog) (S.alloc (.cells cs.toArray 120)) 114 114 i0 _ 48 underlying114 hi ku js ki rfl (by omega)
  ⟨w.heap.size,0,none⟩ 1 1 cs (by rw[JC]) (bq (aF.new w 120 cs.toArray) 0 _ (by simp)) h1 (by unfold maxLen;omega) (by omega)
 exact⟨v',w',h1,h2,((ag.refl _ _).alloc _).aL h3 (λx hx _=>hx),λg hg=>(h4 g hg).imp id (λh=>by simp at h;omega)⟩
theorem aV.push{w':World}{b:Nat}{v v':Value}{L:List SM}(h:aV w b v L)(x:SM)(S':aS w' 120 4 v' (L.length+1) (L.flatMap SM.cells++x.cells))(o:ag (ah v) w w')(f:∀g∈ah v',g∈ah v\/w.heap.size<=g)(hb:b<=w.heap.size)
 (hx:aS w 111 3 x.v x.s.l.length (aD x.s.l))(hf:∀g∈ah x.v,b<=g)(hn:∀y∈L,∀g∈ah y.v,g∉ah x.v):aV w' b v' (L++[x]):=by
 have pw:∀y:SM,aS w 111 3 y.v y.s.l.length (aD y.s.l)->aS w' 111 3 y.v y.s.l.length (aD y.s.l):=λy hy=>hy.only o (mc hy h.s (by decide));refine⟨by rw[aO,su];simpa using S',λg hg=>(f g hg).elim (h.f g) (λh=>by omega),λy hy=>?_,?_⟩
 .rcases aB.1 hy with hy|hy
  .exact⟨pw y (h.e y hy).1,(h.e y hy).2⟩
  .rw[aI.1 hy];exact⟨pw x hx,hf⟩
 .rw[dO];exact⟨h.d,Es _ _,λy hy z hz=>by rw[aI.1 hz];exact hn y hy⟩
theorem AN{tb:Nat}{I:Ix}{F:List Nat}{q:QS}{n K:Nat}(h:TQ w tb I F q n K)(hK:K<=999999999900)(key:ByteArray):
  Calls prog 63 #[tp tb,.string key] w λe w'=> ∃v L,e=.returned (.tuple #[v,.int .i64 (q.eJ key).2.2])/\aV w' w.heap.size v L/\L.map SM.s=(q.eJ key).2.1/\PQ w' I F (q.eJ key).1 n (K+16)/\ag F w w':=by
 have KR:=xh (λ(W:World) (qj:QS) (kj:Nat) (hW:TQ W tb I F qj n kj) (hk:kj<=999999999999) (p:Int)=>mf hW hk p);have HT:=xh h;have pQ:=xh h.lt;have HNE:=xh h.ne;obtain⟨R,hR⟩:∃R,q.eJ key=R:=⟨_,rfl⟩;rw[hR];unfold QS.eJ at hR;have HR:=xh hR;clear h hR;unfold tp bu at *;go_enter func63,ntmps63;go_wp2_with fail
 go_step3
 go_wp2_with fail
 go_step3
 go_wp2_with fail
 go_loopw [6,7] (λov pv wr=> ∃(i:Nat) (L:List SM) (p:Int) (qi:QS),i<=16/\L.length=i/\pv=.int .i64 p/\aS wr 120 4 ov i (L.flatMap SM.cells)/\(∀x∈L,x.s.leaf=false)/\Hid (nN key (16-i) qi p (L.map SM.s)=R)/\Hid (aV wr w.heap.size ov L/\TQ wr tb I F qi n (K+i)/\ag F w wr)) (λov _ _=>16-On ov)
 case atStart=>exact⟨0,[],0,q,by omega,rfl,rfl,aS.nil _ _ _,by simp,HR,xh ⟨.nil _ _,HT.o,ag.refl _ _⟩⟩
 case round=>
  obtain⟨i,L,p,qi,hi,hl,rfl,S1,sN,HW,HA⟩:=hrel;obtain⟨VA,vc,rfl⟩:=ax S1
  by_cases h16:i<16
  .have h16I:(i:Int)<16:=by omega
   have K1:=xh (KR.o wr qi (K+i) HA.o.2.1 (by omega) p);have nO:=ru (q:=qi) (p:=p);have hlen:=kK qi p;have HW:=HW.o;rw[show 16-i=(16-(i+1))+1 by omega]at HW;unfold nN at HW;generalize qi.bh p=r at *;obtain⟨q1,leaf,l,er⟩:=r;dsimp only at *;have HW:=xh HW;have HLF:=xh sN;have HL:=xh hl;clear hl sN S1;go_wp2_with fail;refine K1.o.mono ?_;rintro e w2 ⟨A,c,rfl,S2,f2,P2,o2⟩
   have H2:=xh (show aV w2 w.heap.size (.slice VA i vc) L/\TQ w2 tb I F q1 n (K+(i+1))/\ag F w w2/\aS w2 111 3 (.slice A l.length c) l.length (aD l)/\(∀g∈ah (.slice A l.length c),wr.heap.size<=g)/\wr.heap.size<=w2.heap.size from
    ⟨HA.o.1.only o2 (λg hg=>pQ.o g (aw _ hg)),HA.o.2.1.next o2 P2,HA.o.2.2.trans o2,S2,f2,o2.size⟩)
   have HX:=xh (show ∀y∈L,∀g∈ah y.v,g∉ah (.slice A l.length c)from λy hy g hg hm=>by have h1:=f2 g hm;have h2:=((HA.o.1.e y hy).1).lt g hg;omega);clear S2 f2 P2 o2;have b3:=aF.new w2 118 #[.bool leaf,.slice A l.length c];have gr:=ae (Below.refl w2.heap.size w2) (.cells #[.bool leaf,.slice A l.length c] 118)
   by_cases he:er=0
   .subst he;have HM:=xh (nO rfl);clear nO;have b4:=aF.new (w2.alloc (.cells #[.bool leaf,.slice A l.length c] 118)) 120 #[.int .i64 p,.bool leaf,.slice A l.length c,.int .i64 0];have b34:=b3.alloc (.cells #[.int .i64 p,.bool leaf,.slice A l.length c,.int .i64 0] 120);rw[lR]at b4;have jk:=ae gr (.cells #[.int .i64 p,.bool leaf,.slice A l.length c,.int .i64 0] 120);have m0:=b3.ab (i:=0) rfl;have m1:=b3.ab (i:=1) rfl;have n0:=b34.ab (i:=0) rfl
    have n1:=b34.ab (i:=1) rfl;have k0:=b4.ab (i:=0) rfl;have k1:=b4.ab (i:=1) rfl;have k2:=b4.ab (i:=2) rfl;have k3:=b4.ab (i:=3) rfl;have H4:=xh (And.intro b34 (And.intro b4 jk))
    cases leaf
    .have HW:=HW.o;rw[if_neg (by simp),if_neg (by simp)]at HW
     by_cases h0:l=[]
     .rw[if_pos h0]at HW;subst HW;have h0l:l.length=0:=by rw[h0];rfl
      have H5:=xh (show PQ _ I F q1 n (K+(i+1))/\ag F w _ from⟨H2.o.2.1.2.below jk,H2.o.2.2.1.trans (.ai jk)⟩);rw[h0l]at H5;clear b3 b4 b34 gr jk h0;go_wp2_with fail;rw[Exit.noGoto_ret];go_ret2;exact⟨.slice none 0 0,[],by first|rfl|simp,.nil _ _,rfl,H5.o.1.le (by omega),H5.o.2⟩
     .rw[if_neg h0]at HW;have HW:=xh HW;have rY:=wB h0 key;have KB:=xh (Nd.AK false A l.length c l key (Nd.aS.aD (H2.o.2.2.2.1.below jk)).2 (by omega) HM.o);unfold bu at KB;obtain⟨ex,hex⟩:∃ex,l[bA l key]?=some ex:=⟨_,aG rY⟩;have hfar:(l.getD (bA l key) Nd.E.zero).aQ=ex.aQ:=by rw[ib,hex];rfl
      have HFAR:=xh hfar;have HBL:=xh rY;generalize bA l key=at_ at *;have GQ:¬l.length=0:=by omega
      have hl1:((l.length:Nat):Int)≠0:=by omega
      go_wp2_with fail;refine KB.o.mono ?_;rintro e w5 ⟨rfl,oF⟩;have N5:=xh (H4.o.1.below oF H4.o.1.lt);have B5:=xh (H4.o.2.1.below oF H4.o.2.1.lt);have O5:=xh (aC H4.o.2.2 oF);have v3:=B5.o.ab (i:=3) rfl;have z3:=B5.o.frozen 3 (by simp);have B6:=xh (B5.o.bU 3 (.int .i64 (at_:Nat)));have N6:=xh (N5.o.aQ (p:=⟨w2.heap.size+1,3,none⟩) (by show w2.heap.size≠w2.heap.size+1;omega) (.int .i64 (at_:Nat)))
      have O6:=xh (show Below w2.heap.size w2 (w5.setCell ⟨w2.heap.size+1,3,none⟩ (.int .i64 (at_:Nat)))from((ag.ai (S:=[w2.heap.size+1]) O5.o).trans ((ag.refl _ _).setCell (by simp) _)).aJ (Nat.le_refl _) (λx hx=>by simp at hx;omega));have SA:=H2.o.1.below O6.o;have hvlt:∀g∈ah (.slice VA i vc),g<w2.heap.size:=H2.o.1.s.lt
      obtain⟨v',w7,ea,S7,oa,fa⟩:=AM SA.s [.int .i64 p,.bool false,.slice A l.length c,.int .i64 (at_:Nat)] rfl (by simp;exact⟨rfl,rfl,rfl,rfl⟩) (by rw[HL.o];omega);rw[HL.o]at S7;have H7:=xh (show aV w7 w.heap.size v' (L++[⟨⟨p,false,l,at_⟩,A,c⟩])/\TQ w7 tb I F q1 n (K+(i+1))/\ag F w w7 from
       ⟨SA.push ⟨⟨p,false,l,at_⟩,A,c⟩ (by rw[HL.o];exact S7) oa (λg hg=>(fa g hg).imp id (λh=>h)) (by have:=H2.o.2.2.1.size;have:=O6.o.size;omega) (H2.o.2.2.2.1.below O6.o) (λg hg=>aq HA.o.2.2.size (H2.o.2.2.2.2.1 g hg)) HX.o,
        (H2.o.2.1.below O6.o).only oa (λg hF hg=>by have:=SA.f g hg;have:=pQ.o g hF;omega),
        (H2.o.2.2.1.trans (.ai O6.o)).aL oa (λg hg dP=>by have:=SA.f g hg;omega)⟩)
      have u1:=B6.o.ab (i:=0) rfl;have u2:=B6.o.ab (i:=1) rfl;have u3:=B6.o.ab (i:=2) rfl;have u4':=B6.o.ab (i:=3) rfl;have y1:=(N6.o.only oa (λhg=>by have:=hvlt _ hg;omega)).ab (i:=1) rfl;have y3:=(B6.o.only oa (λhg=>by have:=hvlt _ hg;omega)).ab (i:=3) rfl;obtain⟨ga,ca,r7,xu,BA,_,_⟩:=(H2.o.2.2.2.1.below O6.o).form (by omega) (by omega);have SE:=(Nd.aS.aD (H7.o.1.e ⟨⟨p,false,l,at_⟩,A,c⟩ (by simp)).1).2
      obtain⟨ad,oZ,eP⟩:=SE.2 at_ ex hex;injection xu with e1 e2 e3
      subst e1 e3;injection oZ with oZ
      subst oZ;rw[Nd.fZ,bl]at eP;have xf:=eP.c2;dsimp only at xf;rw[show(w5.setCell ⟨w2.heap.size+1,3,none⟩ (.int .i64 (at_:Nat))).heap.size=w5.heap.size from by simp]at ea;have EA:=xh ea;obtain⟨g7,c7,rest7,rfl,B7,hc7,hr7⟩:=S7.form (by omega) (by omega);have S7:=xh (show aS w7 120 4 (.slice (some ⟨g7,0,none⟩) (i+1) c7) (i+1) ((L++[(⟨⟨p,false,l,at_⟩,some ⟨ga,0,none⟩,c⟩:SM)]).flatMap SM.cells)from by rw[su];simpa [SM.cells,SM.v]using S7)
      have hatI:(at_:Int)<(l.length:Int):=by have:=HBL.o;omega
      clear ea oa fa SA BA SE eP B7 hr7 b3 b4 b34 gr jk oF hex;go_wp2_with fail;rw[EA.o];go_wp2_with fail;have HW:=HW.o;rw[HFAR.o]at HW;go_roundw
      case rel=>exact⟨i+1,L++[⟨⟨p,false,l,at_⟩,some ⟨ga,0,none⟩,c⟩],ex.aQ,q1,by omega,by rw[aO,HL.o];rfl,rfl,S7.o,λx hx=>(aB.1 hx).elim (HLF.o x) (λh=>by rw[aI.1 h]),xh (by rw[ez];exact HW),H7⟩
      case measure=>simp[On];omega
    .have HW:=HW.o;rw[if_neg (by simp),if_pos rfl]at HW;subst HW;have SA:=H2.o.1.below jk;obtain⟨v',w5,ea,S5,oa,fa⟩:=AM SA.s [.int .i64 p,.bool true,.slice A l.length c,.int .i64 0] rfl (by simp;exact⟨rfl,rfl,rfl,rfl⟩) (by rw[HL.o];omega);rw[HL.o]at S5;rw[lR,lR]at ea;have H5:=xh (show aV w5 w.heap.size v' (L++[⟨⟨p,true,l,0⟩,A,c⟩])/\PQ w5 I F q1 n (K+(i+1))/\ag F w w5 from
      ⟨SA.push ⟨⟨p,true,l,0⟩,A,c⟩ (by rw[HL.o];exact S5) oa (λg hg=>(fa g hg).imp id (λh=>h)) (by have:=H2.o.2.2.1.size;have:=jk.size;omega) (H2.o.2.2.2.1.below jk) (λg hg=>aq HA.o.2.2.size (H2.o.2.2.2.2.1 g hg)) HX.o,
       (H2.o.2.1.2.below jk).only oa (λg hF hg=>by have:=SA.f g hg;have:=pQ.o g (aw _ hF);omega),
       (H2.o.2.2.1.trans (.ai jk)).aL oa (λg hg dP=>by have:=SA.f g hg;omega)⟩)
     obtain⟨g5,c5,rest5,rfl,B5,hc5,hr5⟩:=S5.form (by omega) (by omega);have x5:w5.cell? ⟨g5,i*4+1,none⟩=some (.bool true):=B5.ab (by
      rw[dh,cy,dR (by rw[eU,HL.o];omega),eU,HL.o,show i*4+1-i*4=1 by omega];rfl)
     have EA:=xh ea;have w1':IntKind.i64.wrap (((i+1:Nat):Int)-1)=(i:Int):=by rw[show((i+1:Nat):Int)-1=(i:Int) by omega];exact IntWalk.i64_in _ (by omega)
     have w2':(i:Int)<((i+1:Nat):Int):=by omega
     clear ea S5 oa fa B5 SA b3 b4 b34 gr jk hr5;go_wp2_with fail;rw[EA.o];go_wp2_with fail;rw[Exit.noGoto_ret];go_ret2;exact⟨_,_,by first|rfl|simp,H5.o.1,by rw[ez];rfl,H5.o.2.1.le (by omega),H5.o.2.2⟩
   .have hq:(er != 0)=true:=by rw[bne_iff_ne];exact he
    have kh:(er==0)=false:=by rw[beq_eq_false_iff_ne];exact he
    have HW:=HW.o;rw[if_pos he]at HW;subst HW;have H3:=xh (show PQ (w2.alloc (.cells #[.bool leaf,.slice A l.length c] 118)) I F q1 n (K+(i+1))/\ag F w (w2.alloc (.cells #[.bool leaf,.slice A l.length c] 118))from⟨H2.o.2.1.2.below gr,H2.o.2.2.1.trans (.ai gr)⟩);clear b3 gr nO;go_wp2_with fail;rw[Exit.noGoto_ret];go_ret2;exact⟨.slice none 0 0,[],by first|rfl|simp,.nil _ _,rfl,H3.o.1.le (by omega),H3.o.2⟩
  .obtain rfl:i=16:=by omega
   have HW:=HW.o;rw[show 16-16=0 by omega]at HW;unfold nN at HW;subst HW;obtain⟨g5,c5,rest5,hv,B5,hc5,hr5⟩:=S1.form (by omega) (by omega);injection hv with e1 e2 e3
   subst e1 e3;obtain⟨x,hx⟩:∃x,L[15]?=some x:=⟨_,aG (by omega)⟩;have NU:=sN x (ay hx);have x5:wr.cell? ⟨g5,61,none⟩=some (.bool false):=B5.ab (by
    rw[dh,bE (by rw[eU,hl];omega),show 61=15*4+1 from rfl,ry hx 1 (by omega),<-NU];rfl)
   clear B5 hr5 S1 sN hl hx NU;go_wp2_with fail;go_ret2;exact⟨.slice none 0 0,by first|rfl|simp,[],.nil _ _,rfl,HA.o.2.1.2,HA.o.2.2⟩
end Sh
namespace Sh
open Go.RowKit Pk Dk Pg
open Nd (E aD bu aN aW dL bA aY cq)
attribute [local go_sem ↓] Go.wp_at_zero Go.wp_at_succ
variable{key:ByteArray}{w:World}{tb n K:Nat}{I:Ix}{F:List Nat}
def QS.fI(q:QS)(x:E):QS×ByteArray×Int:=if x.aQ<0 then(q,x.val,0)else((q.cH x.aQ).1,⟨(q.cH x.aQ).2.2.1.toArray⟩,pz (q.cH x.aQ).2.2.2)
def QS.qs(q:QS)(x:E):QS×Int:=if x.aQ<0 then(q,0)else((q.p9 x.aQ).1,pz (q.p9 x.aQ).2)
def QS.jm(q:QS)(key value:ByteArray):QS×E×Int:=if value.size<=40 then(q,⟨key,value,-1⟩,0)else((q.qa value.data.toList).1,⟨key,⟨#[]⟩,(q.qa value.data.toList).2.1⟩,(q.qa value.data.toList).2.2)
def wC(s:Step):Prop:=dL s.l s.leaf/\s.l.length<=57/\(s.leaf=false->s.at_<s.l.length)
theorem IL(key:ByteArray):∀(m:Nat) (q:QS) (p:Int) (out:List Step),(nN key m q p out).2.2=0->∃pre x,(nN key m q p out).2.1=out++(pre++[x])/\x.leaf=true/\(∀s∈pre,s.leaf=false)/\(∀s∈pre++[x],wC s)/\pre.length<m
 |0,_,_,_,h=>absurd h (by show(14:Int)≠0;decide)
 |m+1,q,p,out,h=>by
  have hl:=kK q p;unfold nN at h ⊢
  split at h
  .rename_i h1;exact absurd h h1
  .rename_i h1;have hm:=ru (q:=q) (p:=p) (by simpa using h1);rw[if_neg h1]
   split at h
   .rename_i h2;rw[if_pos h2];refine⟨[],⟨p,true,(q.bh p).2.2.1,0⟩,rfl,rfl,by simp,λs hs=>?_,by simp⟩;simp at hs;subst hs;rw[h2]at hm;exact⟨hm,hl,λh=>by cases h⟩
   .rename_i h2;rw[if_neg h2]
    split at h
    .exact absurd h (by show(14:Int)≠0;decide)
    .rename_i h3;rw[if_neg h3];obtain⟨pre,x,e1,e2,e3,e4,e5⟩:=IL key m _ _ _ h;have h2:(q.bh p).2.1=false:=by simpa using h2
     refine⟨⟨p,false,(q.bh p).2.2.1,bA (q.bh p).2.2.1 key⟩::pre,x,?_,e2,λs hs=>?_,λs hs=>?_,by simp;omega⟩
     .rw[e1];simp
     .rcases aj.1 hs with rfl|hs
      .rfl
      .exact e3 s hs
     .rcases aj.1 hs with rfl|hs
      .rw[h2]at hm;exact⟨hm,hl,λ_=>wB h3 key⟩
      .exact e4 s hs
theorem Mx{q:QS}(h:(q.eJ key).2.2=0):∃pre x,(q.eJ key).2.1=pre++[x]/\x.leaf=true/\(∀s∈pre,s.leaf=false)/\(∀s∈pre++[x],wC s)/\pre.length<16:=by
 obtain⟨pre,x,e1,e2⟩:=IL key 16 q 0 [] h;exact⟨pre,x,e1,e2⟩
theorem TQ.drew{q:QS}(h:TQ w tb I F q n K):TQ w.drew tb I F q n K:=⟨h.1.drew,h.2.drew⟩
theorem sX{q:QS}(h:TQ w tb I F q n K)(hK:K<=999999999900)(x:E):
  Calls prog 62 #[tp tb,x.agg] w λe w'=>e=.returned (.tuple #[.string (q.fI x).2.1,.int .i64 (q.fI x).2.2])/\PQ w' I F (q.fI x).1 n (K+5)/\ag F w w':=by
 have O0:=xh (ae (Below.refl w.heap.size w) (.cells #[.string x.key,.string x.val,.int .i64 x.aQ] 111));have B0:=xh (aF.new w 111 #[.string x.key,.string x.val,.int .i64 x.aQ]);have T0:=xh (h.below O0.o);have x1:=B0.o.ab (i:=1) rfl;have x2:=B0.o.ab (i:=2) rfl;have p0:=T0.o.1.ab (i:=0) rfl;have S0:=xh (And.intro p0 x2);have NB:=xh (show w.heap.size∉F from λhm=>by have:=h.2.lt _ hm;omega)
 have KW:=xh (λ(W:World) (hW:TQ W tb I F q n K)=>UR hW.2 hK x.aQ);have KB:=xh uA;unfold QS.fI;generalize q.cH x.aQ=R at *;obtain⟨q1,l1,b1,e1⟩:=R;dsimp only at *;clear h;unfold tp E.agg at *;unfold pp at KW p0 S0
 by_cases hf:x.aQ<0
 .rw[if_pos hf];go_enter func62,ntmps62;go_wp2_with fail;go_ret2;exact aP ⟨T0.o.2.le (by omega),.ai O0.o⟩
 .rw[if_neg hf];go_enter func62,ntmps62;go_wp2_with fail;clear p0 x1 x2;refine wp_region_held_drew (S:=λW=>W.cell? ⟨tb,0,none⟩=some (.pointer (some ⟨I.pb,0,none⟩))/\W.cell? ⟨w.heap.size,2,none⟩=some (.int .i64 x.aQ)) (by kernel_rfl) (S0.o) (λau=>?_);refine cP [(0,14),(1,15),(2,16),(3,17),(4,18),(5,19)] ?_
  iterate 6 refine bj ?_
  refine cQ 6 20 λK hK=>?_;go_simp
  go_at_call 111
  refine(KW.o _ (T0.o.drew)).mono ?_;rintro e w2 ⟨rfl,P2,o2⟩;have P2:=xh P2;have O2:=xh ((ag.ai O0.o).drew.trans o2);have S2:=xh (And.intro ((T0.o.drew.next o2 P2.o).1.ab (i:=0) rfl) ((B0.o.drew.only o2 NB.o).ab (i:=2) rfl));clear o2;go_simp;refine bz hK (S2.o) (λau=>?_);refine cP [(7,13),(8,21),(9,22),(10,6),(11,7)] ?_
  iterate 5 refine bj ?_
  refine wpAnyH_done (by kernel_rfl) ?_ _;go_wp2_with fail;refine(KB.o _ _).mono ?_;rintro e w3 ⟨rfl,rfl⟩;go_wp2_with fail;go_ret2;exact aP ⟨P2.o,O2.o⟩
theorem Dy{q:QS}(h:TQ w tb I F q n K)(hK:K<=999999999900)(x:E):
  Calls prog 71 #[tp tb,x.agg] w λe w'=>e=.returned (.int .i64 (q.qs x).2)/\PQ w' I F (q.qs x).1 n (K+5)/\ag F w w':=by
 have O0:=xh (ae (Below.refl w.heap.size w) (.cells #[.string x.key,.string x.val,.int .i64 x.aQ] 111));have B0:=xh (aF.new w 111 #[.string x.key,.string x.val,.int .i64 x.aQ]);have T0:=xh (h.below O0.o);have x1:=B0.o.ab (i:=1) rfl;have x2:=B0.o.ab (i:=2) rfl;have p0:=T0.o.1.ab (i:=0) rfl;have S0:=xh (And.intro p0 x2);have NB:=xh (show w.heap.size∉F from λhm=>by have:=h.2.lt _ hm;omega)
 have KW:=xh (λ(W:World) (hW:TQ W tb I F q n K)=>QJ hW.2 hK x.aQ);have KB:=xh uA;unfold QS.qs;generalize q.p9 x.aQ=R at *;obtain⟨q1,e1⟩:=R;dsimp only at *;clear h;unfold tp E.agg at *;unfold pp at KW p0 S0
 by_cases hf:x.aQ<0
 .rw[if_pos hf];go_enter func71,ntmps71;go_wp2_with fail;go_ret;exact aP ⟨T0.o.2.le (by omega),.ai O0.o⟩
 .rw[if_neg hf];go_enter func71,ntmps71;go_wp2_with fail;clear p0 x1 x2;refine wp_region_held_drew (S:=λW=>W.cell? ⟨tb,0,none⟩=some (.pointer (some ⟨I.pb,0,none⟩))/\W.cell? ⟨w.heap.size,2,none⟩=some (.int .i64 x.aQ)) (by kernel_rfl) (S0.o) (λau=>?_);refine cP [(0,8),(1,9),(2,10),(3,11),(4,12),(5,13)] ?_
  iterate 6 refine bj ?_
  refine cQ 6 14 λK hK=>?_;go_simp
  go_at_call 123
  refine(KW.o _ (T0.o.drew)).mono ?_;rintro e w2 ⟨rfl,P2,o2⟩;have P2:=xh P2;have O2:=xh ((ag.ai O0.o).drew.trans o2);have S2:=xh (And.intro ((T0.o.drew.next o2 P2.o).1.ab (i:=0) rfl) ((B0.o.drew.only o2 NB.o).ab (i:=2) rfl));clear o2;go_simp;refine bz hK (S2.o) (λau=>?_);refine cQ 7 15 λK hK=>?_;go_simp
  go_at_call 112
  refine(KB.o _ _).mono ?_;rintro e w3 ⟨rfl,rfl⟩;go_simp;refine bz hK (S2.o) (λau=>?_);refine cP [(8,4)] ?_
  iterate 1 refine bj ?_
  refine wpAnyH_done (by kernel_rfl) ?_ _;go_wp2_with fail;go_ret;exact aP ⟨P2.o,O2.o⟩
theorem VG{g:Nat}{a b a' b':ByteArray}{c c':Int}(B:aF w g 111 #[.string a,.string b,.int .i64 c]):
  aF (((w.setCell ⟨g,0,none⟩ (.string a')).setCell ⟨g,1,none⟩ (.string b')).setCell ⟨g,2,none⟩ (.int .i64 c')) g 111 #[.string a',.string b',.int .i64 c']/\ag [g] w (((w.setCell ⟨g,0,none⟩ (.string a')).setCell ⟨g,1,none⟩ (.string b')).setCell ⟨g,2,none⟩ (.int .i64 c'))/\
   w.cell? ⟨g,0,none⟩=some (.string a)/\w.cell? ⟨g,1,none⟩=some (.string b)/\w.cell? ⟨g,2,none⟩=some (.int .i64 c)/\w.frozen? ⟨g,0,none⟩=false/\w.frozen? ⟨g,1,none⟩=false/\w.frozen? ⟨g,2,none⟩=false:=
 ⟨((B.bU 0 _).bU 1 _).bU 2 _,(((ag.refl _ _).setCell (by simp) _).setCell (by simp) _).setCell (by simp) _,B.ab rfl,B.ab rfl,B.ab rfl,B.frozen 0 (by simp),B.frozen 1 (by simp),B.frozen 2 (by simp)⟩
theorem Q0{q:QS}(h:TQ w tb I F q n K)(hK:K<=999999999900)(key value:ByteArray)(hv:value.size<=1024):
  Calls prog 73 #[tp tb,.string key,.string value] w λe w'=>e=.returned (.tuple #[(q.jm key value).2.1.agg,.int .i64 (q.jm key value).2.2])/\PT w w' I F (q.jm key value).1 n (K+5):=by
 have O0:=xh (ae (Below.refl w.heap.size w) (.cells #[.string ⟨#[]⟩,.string ⟨#[]⟩,.int .i64 0] 111));have B0:=xh (aF.new w 111 #[.string ⟨#[]⟩,.string ⟨#[]⟩,.int .i64 0]);have T0:=xh (h.below O0.o);have p0:=T0.o.1.ab (i:=0) rfl;have NB:=xh (show w.heap.size∉F from λhm=>by have:=h.2.lt _ hm;omega);have KW:=xh (UT T0.o.2 value hv hK);have HH:=xh h;unfold QS.jm;generalize q.qa value.data.toList=R at *;obtain⟨q1,l1,e1⟩:=R
 dsimp only at *;clear h;unfold tp E.agg at *;unfold pp at KW p0
 by_cases hs:value.size<=40
 .rw[if_pos hs];have Ta:(value.size:Int)<=40:=by omega
  have B2:=xh (aF.new w 111 #[.string key,.string value,.int .i64 (-1)]);have o2:=xh (ae (Below.refl w.heap.size w) (.cells #[.string key,.string value,.int .i64 (-1)] 111));go_enter func73,ntmps73;go_wp2_with fail;exact bodyPost_ret (Nd.nK rfl rfl B2.o) rfl ⟨rfl,.self ((HH.o.2.below o2.o).le (by omega)) (.ai o2.o)⟩
 .rw[if_neg hs];have Ta:¬(value.size:Int)<=40:=by omega
  go_enter func73,ntmps73;go_wp2_with fail;refine KW.o.mono ?_;rintro e w1 ⟨rfl,F1,P1,o1,f1⟩;have H1:=xh (And.intro P1 (And.intro o1 f1));have NB1:=xh (show w.heap.size∉F1 from λhm=>(f1 _ hm).elim NB.o (λh=>by simp at h;omega));obtain⟨B2,o2,c0,c1,c2,z0,z1,z2⟩:=VG (a':=key) (b':=⟨#[]⟩) (c':=l1) (B0.o.only o1 NB.o);have B2:=xh B2;have o2:=xh o2;clear P1 o1 f1 p0;go_wp2_with fail
  exact bodyPost_ret (Nd.nK rfl rfl B2.o) rfl ⟨rfl,F1,H1.o.1.aQ o2.o NB1.o,l8 (((ag.ai (S:=w.heap.size::F) O0.o).trans (l9 H1.o.2.1)).trans (ma o2.o)) (Nat.le_refl _),λg hg=>(H1.o.2.2 g hg).imp id (λh=>by simp at h;omega)⟩
theorem aV.last{b:Nat}{v:Value}{L:List SM}(h:aV w b v L){pre:List Step}{x:Step}(e:L.map SM.s=pre++[x]):∃Lp A c g cc,L=Lp++[⟨x,A,c⟩]/\Lp.map SM.s=pre/\v=.slice (some ⟨g,0,none⟩) (pre.length+1) cc/\b<=g/\pre.length+1<=cc/\cc<=maxLen/\
  (∀j,j<4->w.cell? ⟨g,pre.length*4+j,none⟩=(SM.cells ⟨x,A,c⟩)[j]?)/\(∀j,j<4->w.frozen? ⟨g,pre.length*4+j,none⟩=false)/\aS w 111 3 (.slice A x.l.length c) x.l.length (aD x.l)/\(∀g∈ah (.slice A x.l.length c),b<=g):=by
 obtain⟨Lp,y,rfl⟩:∃Lp y,L=Lp++[y]:=by
  rcases ss L with h0|⟨Lp,y,h0⟩
  .rw[h0]at e;simp at e
  .exact⟨Lp,y,by simpa using h0⟩
 rw[ez,fJ,qK]at e;obtain⟨e1,e2⟩:=JL e rfl;simp only[List.cons.injEq,and_true]at e2;obtain⟨s,A,c⟩:=y;dsimp only at e2;subst e2;have hlen:Lp.length=pre.length:=by rw[<-e1,eM]
 have hS:=h.s;rw[aO,fo,yY,hlen,bl]at hS;obtain⟨g,cc,rest,rfl,B,hc,hr⟩:=hS.form (by omega) (by omega);have hm:cc<=maxLen:=by obtain⟨_,_,_,_,h⟩:=hS.uP;exact h
 have hx:=h.e ⟨s,A,c⟩ (by simp);have oX:((Lp++[(⟨s,A,c⟩:SM)]).flatMap SM.cells).length=pre.length*4+4:=by rw[eU,aO];simp;omega
 refine⟨Lp,A,c,g,cc,rfl,e1,rfl,h.f g (by simp[ah]),hc,hm,λj hj=>?_,λj hj=>B.frozen _ (by simp;rw[<-List.length_flatMap]at *;simp[eU]at *;omega),hx.1,hx.2⟩;rw[B.cell,dh,bE (by rw[oX];omega)];exact ry (by rw[<-hlen,dR (Nat.le_refl _),fM];rfl) j hj
theorem AO{l:List E}(h:cq l key=true):∃e,l[aY l key]?=some e:=by
 unfold cq at h
 cases hx:l[aY l key]? with
 |none=>rw[hx]at h;cases h
 |some e=>exact⟨e,rfl⟩
def iJ(l:List Step):Step:=l.getLastD ⟨0,false,[],0⟩
def QS.nu(q:QS)(key:ByteArray):QS×ByteArray×Int:=
 if(q.eJ key).2.2≠0 then((q.eJ key).1,⟨#[]⟩,(q.eJ key).2.2)
 else if cq (iJ (q.eJ key).2.1).l key=true then(q.eJ key).1.fI ((iJ (q.eJ key).2.1).l.getD (aY (iJ (q.eJ key).2.1).l key) Nd.E.zero)
 else((q.eJ key).1,⟨#[]⟩,9)
theorem Dz{q:QS}(h:TQ w tb I F q n K)(hK:K<=999999999000)(key:ByteArray):
  Calls prog 20 #[tp tb,.string key] w λe w'=>e=.returned (.tuple #[.string (q.nu key).2.1,.int .i64 (q.nu key).2.2])/\PQ w' I F (q.nu key).1 n (K+21)/\ag F w w':=by
 have KW:=xh (AN h (by omega) key);have HT:=xh h;have KV:=xh (λ(W:World) (qj:QS) (hW:TQ W tb I F qj n (K+16)) (x:E)=>sX hW (by omega) x);have fT:=Mx (q:=q) (key:=key);unfold QS.nu;generalize q.eJ key=R at *;obtain⟨q1,steps,er⟩:=R;dsimp only at *;clear h;unfold tp at *
 by_cases he:er=0
 .subst he;obtain⟨pre,x,rfl,sN,hnl,nm,hlen⟩:=fT rfl;rw[if_neg (by simp),show iJ (pre++[x])=x from by unfold iJ;simp];obtain⟨hm,VH,_⟩:=nm x (by simp);have hm:=xh hm;clear fT hnl nm sN;obtain⟨RR,bG⟩:∃RR,(if cq x.l key=true then q1.fI (x.l.getD (aY x.l key) Nd.E.zero)else(q1,⟨#[]⟩,9))=RR:=⟨_,rfl⟩;rw[bG];have fj:=xh bG;clear bG;go_enter func20,ntmps20;go_wp2_with fail;refine KW.o.mono ?_;rintro e w1 ⟨v,L,rfl,SA,nP,P1,o1⟩
  obtain⟨Lp,A,c,g,cc,rfl,lS,rfl,hbg,Fl,uQ,gZ,Su,S1,f1⟩:=SA.last nP;have T1:=xh (HT.o.next o1 P1);have o1:=xh o1;have S1:=xh S1;have x1:w1.cell? ⟨g,pre.length*4+1,none⟩=some (.bool x.leaf):=gZ 1 (by omega);have x2:w1.cell? ⟨g,pre.length*4+1+1,none⟩=some (.slice A x.l.length c):=gZ 2 (by omega);have s1:IntKind.i64.wrap (((pre.length+1:Nat):Int)-1)=(pre.length:Int):=by rw[show((pre.length+1:Nat):Int)-1=(pre.length:Int) by omega];exact IntWalk.i64_in _ (by omega)
  have s2:(pre.length:Int)<((pre.length+1:Nat):Int):=by omega
  have fi:=ae (Below.refl w1.heap.size w1) (.cells #[.bool x.leaf,.slice A x.l.length c] 118);have B2:=xh (aF.new w1 118 #[.bool x.leaf,.slice A x.l.length c]);have y0:=B2.o.ab (i:=0) rfl;have y1:=B2.o.ab (i:=1) rfl;have S2:=xh (S1.o.below fi);have KF:=xh (Nd.wu x.leaf A x.l.length c x.l key (Nd.aS.aD S2.o).2 (by omega) hm.o);have HAL:=xh fi;unfold bu at KF;clear SA nP P1 lS gZ Su f1 fi;go_wp2_with fail
  refine KF.o.mono ?_;rintro e w3 ⟨rfl,gr⟩;have O3:=xh (aC HAL.o gr);have T3:=xh (T1.o.below O3.o);have z1:=(B2.o.below gr B2.o.lt).ab (i:=1) rfl;have S3:=xh (S2.o.below gr);clear x1 x2 y0 y1 gr
  by_cases hh:cq x.l key=true
  .obtain⟨ex,hex⟩:=AO hh;have hfx:x.l.getD (aY x.l key) Nd.E.zero=ex:=by rw[ib,hex];rfl
   have bG:=fj.o;rw[if_pos hh,hfx]at bG;subst bG;generalize cq x.l key=hb at *;subst hh;have pZ:aY x.l key<x.l.length:=(aM.1 hex).1;generalize aY x.l key=at_ at *;obtain⟨ad,oZ,eP⟩:=(Nd.aS.aD S3.o).2.2 at_ ex hex;obtain⟨ga,ca,r7,xu,_⟩:=S3.o.form (by omega) (by omega);injection xu with e1 e2 e3
   subst e1 e3;injection oZ with oZ
   subst oZ;rw[Nd.fZ,bl]at eP;have u0:=eP.c0;have u1:=eP.c1;have u2:=eP.c2;dsimp only at u1 u2;have K3:=xh (KV.o w3 q1 T3.o ex);unfold E.agg at K3;have hflI:(at_:Int)<(x.l.length:Int):=by omega
   clear eP hex hfx;go_wp2_with fail;refine K3.o.mono ?_;rintro e w4 ⟨rfl,P4,o4⟩;have P4:=xh P4;have O4:=xh ((o1.o.trans (.ai O3.o)).trans o4);clear o4 u0 u1 u2 z1;go_wp2_with fail;go_ret2;exact aP ⟨P4.o,O4.o⟩
  .have hh2:cq x.l key=false:=by simpa using hh
   have bG:=fj.o;rw[if_neg hh]at bG;subst bG;generalize cq x.l key=hb at *;subst hh2;clear hh;go_wp2_with fail;go_ret2;exact aP ⟨T3.o.2.le (by omega),o1.o.trans (.ai O3.o)⟩
 .rw[if_pos he];have hq:(er != 0)=true:=by rw[bne_iff_ne];exact he
  have kh:(er==0)=false:=by rw[beq_eq_false_iff_ne];exact he
  clear fT;go_enter func20,ntmps20;go_wp2_with fail;refine KW.o.mono ?_;rintro e w1 ⟨v,L,rfl,SA,nP,P1,o1⟩;have P1:=xh P1;have o1:=xh o1;clear SA nP;go_wp2_with fail;go_ret2;exact aP ⟨P1.o.le (by omega),o1.o⟩
open Nd (E aD bu aN aW dL bA aY cq bF)
variable{w w':World}{I:Ix}{F:List Nat}{n K K0 tb:Nat}
def keyOf(l:List E):ByteArray:=(l.headD Nd.E.zero).key
def QS.AQ(q:QS)(leaf:Bool)(la lb:List E):QS×Int:=
 if(q.eC leaf la).2.2≠0 then((q.eC leaf la).1,(q.eC leaf la).2.2)
 else if((q.eC leaf la).1.eC leaf lb).2.2≠0 then(((q.eC leaf la).1.eC leaf lb).1,((q.eC leaf la).1.eC leaf lb).2.2)
 else((q.eC leaf la).1.eC leaf lb).1.cN 0 false [⟨⟨#[]⟩,⟨#[]⟩,(q.eC leaf la).2.1⟩,⟨keyOf lb,⟨#[]⟩,((q.eC leaf la).1.eC leaf lb).2.1⟩]
theorem PT.Pt{q q0:QS}{A:Option Addr}{m c:Nat}{l:List E}(h:PT w w' I F q n K)(P:PQ w I F q0 n K0)(S:aS w 111 3 (.slice A m c) m (aD l)):aS w' 111 3 (.slice A m c) m (aD l):=by
 obtain⟨F',_,o,_⟩:=h;exact S.only o (λg hg=>by
  obtain⟨cs,B⟩:=yH S g hg;exact P.iI B)
theorem PT.tq{q q0:QS}(T:TQ w tb I F q0 n K0)(h:PT w w' I F q n K):∃F',TQ w' tb I F' q n K/\ag F w w'/\∀g∈F',g∈F\/w.heap.size<=g:=by
 obtain⟨F',P,o,f⟩:=h;exact⟨F',⟨T.1.only o T.ne,P⟩,o,f⟩
theorem Q3{q:QS}(h:TQ w tb I F q n K)(hK:K<=999999999900)(leaf:Bool)(A1:Option Addr)(m1 c1:Nat)(la:List E)(S1:aS w 111 3 (.slice A1 m1 c1) m1 (aD la))(A2:Option Addr)(m2 c2:Nat)(lb:List E)(S2:aS w 111 3 (.slice A2 m2 c2) m2 (aD lb))(hm1:m1<=1000)(NK:m2<=1000)(h0:0<m2):
  Calls prog 130 #[tp tb,bu leaf A1 m1 c1,bu leaf A2 m2 c2] w λe w'=>e=.returned (.int .i64 (q.AQ leaf la lb).2)/\PT w w' I F (q.AQ leaf la lb).1 n (K+3):=by
 have Od:=ae (ae (Below.refl w.heap.size w) (.cells #[.bool leaf,.slice A1 m1 c1] 118)) (.cells #[.bool leaf,.slice A2 m2 c2] 118);have O0:=xh Od;have B1:=xh ((aF.new w 118 #[.bool leaf,.slice A1 m1 c1]).alloc (.cells #[.bool leaf,.slice A2 m2 c2] 118));have B2:=aF.new (w.alloc (.cells #[.bool leaf,.slice A1 m1 c1] 118)) 118 #[.bool leaf,.slice A2 m2 c2];rw[lR]at B2;have B2:=xh B2
 have H0:=xh (And.intro (h.below Od) (And.intro (S1.below Od) (S2.below Od)));have x0:=B1.o.ab (i:=0) rfl;have x1:=B1.o.ab (i:=1) rfl;have KM1:=xh (wy H0.o.1 (by omega) leaf A1 m1 c1 la H0.o.2.1 hm1);have KM2:=xh (λ(W:World) (F':List Nat) (qj:QS) (hW:TQ W tb I F' qj n (K+1)) (S:aS W 111 3 (.slice A2 m2 c2) m2 (aD lb))=>wy hW (by omega) leaf A2 m2 c2 lb S NK)
 have KW:=xh (λ(W:World) (F':List Nat) (qj:QS) (hW:TQ W tb I F' qj n (K+2)) (g:Nat) (l:List E) (S:aS W 111 3 (.slice (some ⟨g,0,none⟩) 2 2) 2 (aD l))=>oR hW (by omega) 0 false (some ⟨g,0,none⟩) 2 2 l S (by omega));have HL:=xh (show w.heap.size∉F/\w.heap.size+1∉F from⟨λhm=>by have:=h.2.lt _ hm;omega,λhm=>by have:=h.2.lt _ hm;omega⟩);obtain⟨eb,rb,rfl⟩:∃e r,lb=e::r:=by
  have:=S2.1;rw[lZ]at this
  cases lb with
  |nil=>simp at this;omega
  |cons e r=>exact⟨e,r,rfl⟩
 obtain⟨RR,bG⟩:∃RR,q.AQ leaf la (eb::rb)=RR:=⟨_,rfl⟩;rw[bG];unfold QS.AQ keyOf at bG;generalize q.eC leaf la=R1 at *;obtain⟨q1,l1,e1⟩:=R1;dsimp only[List.headD_cons]at *;have fj:=xh bG;clear h S1 S2 bG Od;unfold tp bu at *;go_enter func130,ntmps130;go_wp2_with fail;refine KM1.o.mono ?_;rintro e w1 ⟨rfl,P1⟩;have S21:=xh (P1.Pt H0.o.1.2 H0.o.2.2);obtain⟨F1,T1,o1,f1⟩:=P1.tq H0.o.1;have B21:=xh (B2.o.only o1 HL.o.2)
 have H1:=xh (show TQ w1 tb I F1 q1 n (K+1)/\ag F w w1/\(∀g∈F1,g∈F\/w.heap.size<=g)/\w.heap.size+1∉F1 from
  ⟨T1,(ag.ai O0.o).trans o1,λg hg=>(f1 g hg).imp id (λh=>by simp at h;omega),λhm=>(f1 _ hm).elim HL.o.2 (λh=>by rw[lR,lR]at h;omega)⟩)
 clear P1 T1 o1 f1 x0 x1
 by_cases FV:e1=0
 .subst FV;have y0:=B21.o.ab (i:=0) rfl;have y1:=B21.o.ab (i:=1) rfl;have K2:=xh (KM2.o w1 F1 q1 H1.o.1 S21.o);have bG:=fj.o;rw[if_neg (by simp)]at bG;generalize q1.eC leaf (eb::rb)=R2 at *;obtain⟨q2,l2,e2⟩:=R2;dsimp only at *;have fj:=xh bG;clear bG;go_wp2_with fail;refine K2.o.mono ?_;rintro e w2 ⟨rfl,P2⟩;have S22:=xh (P2.Pt H1.o.1.2 S21.o);obtain⟨F2,T2,o2,f2⟩:=P2.tq H1.o.1;have B22:=xh (B21.o.only o2 H1.o.2.2.2)
  have H2:=xh (show TQ w2 tb I F2 q2 n (K+2)/\ag F w w2/\(∀g∈F2,g∈F\/w.heap.size<=g)from
   ⟨T2,H1.o.2.1.aL o2 (λg hg dP=>(H1.o.2.2.1 g hg).elim id (λh=>by omega)),λg hg=>(f2 g hg).elim (H1.o.2.2.1 g) (λh=>by have:=H1.o.2.1.size;omega)⟩)
  clear P2 T2 o2 f2 y0 y1
  by_cases r8:e2=0
  .subst r8;have bG:=fj.o;rw[if_neg (by simp)]at bG;obtain⟨g2,cc2,VI,pB,BB2,_,_⟩:=S22.o.form h0 (by omega);simp only[Value.slice.injEq,true_and]at pB;obtain⟨rfl,rfl⟩:=pB;have z1:=B22.o.ab (i:=1) rfl;have k0:w2.cell? ⟨g2,0,none⟩=some (.string eb.key):=BB2.ab rfl;have fi:=ae (Below.refl w2.heap.size w2) (.cells #[.string ⟨#[]⟩,.string ⟨#[]⟩,.int .i64 l1,.string eb.key,.string ⟨#[]⟩,.int .i64 l2] 111)
   have SN:aS (w2.alloc (.cells #[.string ⟨#[]⟩,.string ⟨#[]⟩,.int .i64 l1,.string eb.key,.string ⟨#[]⟩,.int .i64 l2] 111)) 111 3 (.slice (some ⟨w2.heap.size,0,none⟩) 2 2) 2 (aD [⟨⟨#[]⟩,⟨#[]⟩,l1⟩,⟨eb.key,⟨#[]⟩,l2⟩]):=
    ⟨rfl,.inr ⟨w2.heap.size,2,[],rfl,aF.new w2 _ _,rfl,by unfold maxLen;omega⟩⟩
   have K3:=xh (KW.o _ F2 q2 (H2.o.1.below fi) w2.heap.size _ SN);have h0I:(0:Int)<(m2:Int):=by omega
   have HAL:=xh fi;clear BB2 fi SN;rw[bG]at K3;clear bG;go_wp2_with fail;refine K3.o.mono ?_;rintro e w3 ⟨rfl,P3,o3⟩;have H3:=xh (show PT w w3 I F RR.1 n (K+3)from⟨F2,P3,(H2.o.2.1.trans (.ai HAL.o)).aL o3 (λg hg dP=>(H2.o.2.2 g hg).elim id (λh=>by omega)),H2.o.2.2⟩);clear P3 o3 z1 k0;go_wp2_with fail;go_ret;exact aP H3.o
  .have bG:=fj.o;rw[if_pos r8]at bG;subst bG;have hq:(e2 != 0)=true:=by rw[bne_iff_ne];exact r8
   have kh:(e2==0)=false:=by rw[beq_eq_false_iff_ne];exact r8
   go_wp2_with fail;go_ret;exact aP ⟨F2,H2.o.1.2.le (by omega),H2.o.2.1,H2.o.2.2⟩
 .have bG:=fj.o;rw[if_pos FV]at bG;subst bG;have hq:(e1 != 0)=true:=by rw[bne_iff_ne];exact FV
  have kh:(e1==0)=false:=by rw[beq_eq_false_iff_ne];exact FV
  go_wp2_with fail;go_ret;exact aP ⟨F1,H1.o.1.2.le (by omega),H1.o.2.1,H1.o.2.2.1⟩
variable{g m cc b n K:Nat}{l:List E}{w W W':World}{F F':List Nat}{I:Ix}{q:QS}
section
variable{w w':World}{b:Nat}{v:Value}{L:List SM}{I:Ix}{F S:List Nat}{q:QS}{n K:Nat}
theorem aV.off(h:aV w b v L)(P:PQ w I F q n K):(∀g∈ah v,g∉F)/\∀x∈L,∀g∈ah x.v,g∉F:=
 ⟨λg hg=>by
  obtain⟨cs,B⟩:=yH h.s g hg;exact P.iI B,λx hx g hg=>by
  obtain⟨cs,B⟩:=yH (h.e x hx).1 g hg;exact P.iI B⟩
theorem aV.xN(h:aV w b v L)(P:PQ w I F q n K)(o:ag F w w'):aV w' b v L:=
 ⟨h.s.only o (h.off P).1,h.f,λx hx=>⟨(h.e x hx).1.only o ((h.off P).2 x hx),(h.e x hx).2⟩,h.d⟩
theorem aV.cell(h:aV w b (.slice (some ⟨g,0,none⟩) m cc) L){k:Nat}{Z:SM}(hz:L[k]?=some Z)(i:Nat)(hi:i<4):w.cell? ⟨g,k*4+i,none⟩=Z.cells[i]?:=by
 obtain⟨rest,B,_⟩:=h.s.uP;have hk:=(aM.1 hz).1;rw[B.cell,dh,bE (by rw[eU];omega)];exact ry hz i hi
theorem aV.tree{tb:Nat}{cs:Array Value}(h:aV w b v L)(B:aF w tb 130 cs):tb∉ah v/\∀x∈L,tb∉ah x.v:=
 ⟨dk h.s B (by decide),λx hx=>dk (h.e x hx).1 B (by decide)⟩
theorem aV.pop{X:SM}(h:aV w b (.slice (some ⟨g,0,none⟩) m cc) (L++[X])):aV w b (.slice (some ⟨g,0,none⟩) L.length cc) L:=by
 obtain⟨rest,B,h1,_,h2⟩:=h.s.uP;rw[su,cy]at B;have hl:(L.flatMap SM.cells).length+(([X]:List SM).flatMap SM.cells++rest).length=cc*4:=by
  rw[su,aO]at h1;rw[aO];omega
 refine⟨⟨by rw[eU],.inr ⟨g,cc,_,rfl,B,hl,h2⟩⟩,λx hx=>h.f x (by simpa [ah]using hx),λx hx=>h.e x (bT _ hx),(dO.1 h.d).1⟩
theorem aV.put{Lp Ls:List SM}{Y:SM}(h:aV w b (.slice (some ⟨g,0,none⟩) m cc) (Lp++Y::Ls))(l':List E){A':Option Addr}{c':Nat}(S':aS w' 111 3 (.slice A' l'.length c') l'.length (aD l'))(o:ag (ah Y.v) w w')
 (f:∀x∈ah (.slice A' l'.length c'),x∈ah Y.v\/w.heap.size<=x)(hbw:b<=w.heap.size):
  aV (w'.setCell ⟨g,Lp.length*4+2,none⟩ (.slice A' l'.length c')) b (.slice (some ⟨g,0,none⟩) m cc) (Lp++⟨{Y.s with l:=l'},A',c'⟩::Ls)/\w'.cell? ⟨g,Lp.length*4+2,none⟩=some Y.v/\w'.frozen? ⟨g,Lp.length*4+2,none⟩=false:=by
 obtain⟨rest,B,h1,hm,h2⟩:=h.s.uP;have hY:=h.e Y (by simp);have hgY:g∉ah Y.v:=λhg=>mc hY.1 h.s (by decide) g hg (by simp[ah]);have B':=B.only o hgY;have hlen:(Lp++Y::Ls).length=(Lp++(⟨{Y.s with l:=l'},A',c'⟩:SM)::Ls).length:=by simp
 have pZ:(Lp++Y::Ls).flatMap SM.cells=Lp.flatMap SM.cells++(Y.cells++Ls.flatMap SM.cells):=by rw[su,gJ]
 have E9:(((Lp++Y::Ls).flatMap SM.cells++rest).set (Lp.length*4+2) (.slice A' l'.length c'))=(Lp++(⟨{Y.s with l:=l'},A',c'⟩:SM)::Ls).flatMap SM.cells++rest:=by
  rw[pZ,cy,qN _ _ (by rw[eU];omega),eU,show Lp.length*4+2-Lp.length*4=2 by omega,su,gJ];simp only[cy];rfl
 have hix:Lp.length*4+2<((Lp++Y::Ls).flatMap SM.cells++rest).toArray.size:=by
  have h4:Y.cells.length=4:=rfl;rw[pZ];simp only[lV,aO,eU,h4];omega
 have BS:=B'.bU (Lp.length*4+2) (.slice A' l'.length c');rw[tK,E9]at BS;have sd:∀Z∈Lp++Ls,∀x∈ah Z.v,x∉ah Y.v:=λZ hZ x hx hy=>by
  have hd:=dO.1 h.d
  rcases aB.1 hZ with hZ|hZ
  .exact hd.2.2 Z hZ Y (by simp) x hx hy
  .exact(dW.1 hd.2.1).1 Z hZ x hy hx
 have lt:∀Z∈Lp++Ls,∀x∈ah Z.v,x<w.heap.size:=λZ hZ=>(h.e Z (by rcases aB.1 hZ with hZ|hZ<;>simp[hZ])).1.lt;have sn:∀Z∈Lp++Ls,∀x∈ah Z.v,x∉ah (.slice A' l'.length c'):=λZ hZ x hx hy=>by
  rcases f x hy with h3|h3
  .exact sd Z hZ x hx h3
  .have:=lt Z hZ x hx;omega
 have og:ag [g] w' (w'.setCell ⟨g,Lp.length*4+2,none⟩ (.slice A' l'.length c')):=(ag.refl _ _).setCell (by simp) _;have pw:∀Z∈Lp++Ls,aS (w'.setCell ⟨g,Lp.length*4+2,none⟩ (.slice A' l'.length c')) 111 3 Z.v Z.s.l.length (aD Z.s.l)/\∀x∈ah Z.v,b<=x:=λZ hZ=>by
  have hz:=h.e Z (by rcases aB.1 hZ with hZ|hZ<;>simp[hZ]);have s1:=hz.1.only o (sd Z hZ);exact⟨s1.only og (λx hx hg=>dk s1 B' (by decide) (by rw[<-aI.1 hg];exact hx)),hz.2⟩
 refine⟨⟨⟨?_,?_⟩,λx hx=>h.f x (by simpa [ah]using hx),λZ hZ=>?_,?_⟩,?_,B'.frozen _ hix⟩
 .rw[<-hlen,eU,<-hlen]
 .rw[<-hlen,hm];refine .inr ⟨g,cc,rest,rfl,BS,?_,h2⟩;rw[eU]at h1 ⊢;rw[<-hlen];exact h1
 .rcases aB.1 hZ with hZ|hZ
  .exact pw Z (bT _ hZ)
  .rcases aj.1 hZ with rfl|hZ
   .exact⟨S'.only og (λx hx hg=>dk S' B' (by decide) (by rw[<-aI.1 hg];exact hx)),λx hx=>(f x hx).elim (hY.2 x) (λh=>by omega)⟩
   .exact pw Z (bC _ hZ)
 .have hd:=dO.1 h.d;rw[dO];refine⟨hd.1,dW.2 ⟨λZ hZ x hx hy=>sn Z (bC _ hZ) x hy hx,(dW.1 hd.2.1).2⟩,λZ hZ W hW=>?_⟩
  rcases aj.1 hW with rfl|hW
  .exact sn Z (bT _ hZ)
  .exact hd.2.2 Z hZ W (aw _ hW)
 .refine B'.ab ?_;rw[pZ,dh,cy,dR (by rw[eU];omega),eU,show Lp.length*4+2-Lp.length*4=2 by omega];rfl
end
def gf:Nat->List Step->QS->QS×Int
 |0,_,q=>(q,0)
 |_+1,[],q=>(q,0)
 |m+1,x::up,q=>
  if(q.cN x.an x.leaf x.l).2≠11\/(bH x.leaf x.l).2=0 then q.cN x.an x.leaf x.l
  else match up with
   |[]=>(q.cN x.an x.leaf x.l).1.AQ x.leaf (x.l.take (bF x.l)) (x.l.drop (bF x.l))
   |y::up=>
    if((q.cN x.an x.leaf x.l).1.eC x.leaf (x.l.drop (bF x.l))).2.2≠0 then(((q.cN x.an x.leaf x.l).1.eC x.leaf (x.l.drop (bF x.l))).1,((q.cN x.an x.leaf x.l).1.eC x.leaf (x.l.drop (bF x.l))).2.2)
    else if(((q.cN x.an x.leaf x.l).1.eC x.leaf (x.l.drop (bF x.l))).1.cN x.an x.leaf (x.l.take (bF x.l))).2≠0 then((q.cN x.an x.leaf x.l).1.eC x.leaf (x.l.drop (bF x.l))).1.cN x.an x.leaf (x.l.take (bF x.l))
    else gf m ({y with l:=y.l.insertIdx (y.at_+1) ⟨keyOf (x.l.drop (bF x.l)),⟨#[]⟩,((q.cN x.an x.leaf x.l).1.eC x.leaf (x.l.drop (bF x.l))).2.1⟩}::up)
     (((q.cN x.an x.leaf x.l).1.eC x.leaf (x.l.drop (bF x.l))).1.cN x.an x.leaf (x.l.take (bF x.l))).1
def IM(l:List E):Prop:=l.length<=90/\∀e∈l,e.key.size<=32/\e.val.size<=40
theorem IP(h:IM l):Nd.ak l<=100000:=by
 obtain⟨h1,h2⟩:=h;have:∀l:List E,(∀e∈l,e.key.size<=32/\e.val.size<=40)->Nd.ak l<=79*l.length:=λl h=>by
  induction l with
  |nil=>simp[Nd.ak]
  |cons e l ih=>
   have h1:=h e (by simp);have h3:=ih (λx hx=>h x (by simp[hx]));unfold Nd.ak at *;simp only[fJ,kU,fo];omega
 have:=this l h2;omega
theorem VJ{leaf:Bool}(h:(bH leaf l).2≠0)(h2:(bH leaf l).2≠2)(hl:IM l):2<=l.length:=by
 unfold bH aW at h h2
 split at h2
 .rename_i hm;rw[if_pos hm]at h
  split at h2
  .rename_i hr;rw[if_pos hr]at h;exact absurd rfl h
  .rename_i hr
   rcases l with _|⟨e,_|⟨e2,r⟩⟩
   .exfalso;apply hr
    cases leaf<;>decide
   .exfalso;apply hr;have hh:=hl.2 e (by simp);rw[Nd.AF];have:Nd.ak (blank leaf [e])<=79:=by
     have h0:(⟨#[]⟩:ByteArray).size=0:=rfl
     cases leaf
     .show Nd.ak [{e with key:=⟨#[]⟩}]<=79;simp only[Nd.ak,fJ,qK,kU,List.sum_nil,h0];omega
     .show Nd.ak [e]<=79;simp only[Nd.ak,fJ,qK,kU,List.sum_nil];omega
    omega
   .simp
 .exact absurd rfl h2
def PB(b:Nat)(w w':World)(I:Ix)(F:List Nat)(q:QS)(n K:Nat):Prop:= ∃F' S,PQ w' I F' q n K/\ag S w w'/\(∀g∈S,g∈F\/b<=g)/\∀g∈F',g∈F\/b<=g
def OB(b:Nat)(w W:World)(F F':List Nat):Prop:= ∃S,ag S w W/\(∀g∈S,g∈F\/b<=g)/\∀g∈F',g∈F\/b<=g
theorem OB.refl(b:Nat)(w:World)(F:List Nat):OB b w w F F:=⟨[],ag.refl _ _,by simp,λ_ h=> .inl h⟩
theorem OB.step{F'':List Nat}(h:OB b w W F F')(hb:b<=w.heap.size)(o:ag F' W W')(f:∀g∈F'',g∈F'\/W.heap.size<=g):OB b w W' F F'':=by
 obtain⟨S,a1,a2,a3⟩:=h;refine⟨S++F',(a1.mono (λg hg _=>bT _ hg)).aL o (λg hg _=>bC _ hg),λg hg=>(aB.1 hg).elim (a2 g) (a3 g),λg hg=>(f g hg).elim (a3 g) (λh=> .inr (by have:=a1.size;omega))⟩
theorem OB.own{S:List Nat}(h:OB b w W F F')(o:ag S W W')(f:∀g∈S,b<=g):OB b w W' F F':=by
 obtain⟨T,a1,a2,a3⟩:=h;exact⟨T++S,(a1.mono (λg hg _=>bT _ hg)).aL o (λg hg _=>bC _ hg),λg hg=>(aB.1 hg).elim (a2 g) (λh=> .inr (f g h)),a3⟩
theorem OB.below(h:OB b w W F F')(hb:Below W.heap.size W W'):OB b w W' F F':=h.own (S:=[]) (.ai hb) (by simp)
theorem OB.pb(h:OB b w W F F')(P:PQ W I F' q n K):PB b w W I F q n K:=by
 obtain⟨S,a1,a2,a3⟩:=h;exact⟨F',S,P,a1,a2,a3⟩
theorem OB.size(h:OB b w W F F'):w.heap.size<=W.heap.size:=by
 obtain⟨S,a1,_⟩:=h;exact a1.size
theorem OB.trans(h:OB b w W F F')(p:PB b W W' I F' q n K):PB b w W' I F q n K:=by
 obtain⟨S,a1,a2,a3⟩:=h;obtain⟨F2,S2,P,b1,b2,b3⟩:=p;refine⟨F2,S++S2,P,(a1.mono (λg hg _=>bT _ hg)).aL b1 (λg hg _=>bC _ hg),λg hg=>(aB.1 hg).elim (a2 g) (λh=>(b2 g h).elim (a3 g) .inr),λg hg=>(b3 g hg).elim (a3 g) .inr⟩
theorem PB.le{K':Nat}(h:PB b w W I F q n K)(hk:K<=K'):PB b w W I F q n K':=by
 obtain⟨F',S,P,r⟩:=h;exact⟨F',S,P.le hk,r⟩
structure Fit(s:Step):Prop where
 l:IM s.l
 n:s.l.length<=80
 a:s.at_<s.l.length
theorem xO:∀(m:Nat) {w:World} {tb:Nat} {I:Ix} {F:List Nat} {q:QS} {n Kz b:Nat} {v:Value} {L:List SM} (pre:List Step) (x:Step),pre.length+1<=m->TQ w tb I F q n Kz->Kz+4*m<=999999999900->aV w b v L->b<=w.heap.size->L.map SM.s=pre++[x]->(∀s∈pre,Fit s)->IM x.l->pre.length<=16->
  Calls prog 75 #[tp tb,v] w λe w'=>e=.returned (.int .i64 (gf m (x::pre.reverse) q).2)/\PB b w w' I F (gf m (x::pre.reverse) q).1 n (Kz+4*m)
 |0,_,_,_,_,_,_,_,_,_,_,_,_,h,_,_,_,_,_,_,_,_=>absurd h (by omega)
 |m+1,w,tb,I,F,q,n,Kz,b,v,L,pre,x,hpm,h,VK,SA,hb,nP,rK,hlx,hp16=>by
  obtain⟨Lp,A,c,g,cc,hL,lS,rfl,hbg,Fl,uQ,gZ,Su,S1,f1⟩:=SA.last nP;have HL:=xh hL;have S1:=xh S1;have HK:=xh VK;have Fh:w.cell? ⟨g,pre.length*4,none⟩=some (.int .i64 x.an):=gZ 0 (by omega);have hx1:w.cell? ⟨g,pre.length*4+1,none⟩=some (.bool x.leaf):=gZ 1 (by omega);have hx2:w.cell? ⟨g,pre.length*4+2,none⟩=some (.slice A x.l.length c):=gZ 2 (by omega);have hx3:w.cell? ⟨g,pre.length*4+3,none⟩=some (.int .i64 (x.at_:Nat)):=gZ 3 (by omega)
  have s1:IntKind.i64.wrap (((pre.length+1:Nat):Int)-1)=(pre.length:Int):=by rw[show((pre.length+1:Nat):Int)-1=(pre.length:Int) by omega];exact IntWalk.i64_in _ (by omega)
  have s2:(pre.length:Int)<((pre.length+1:Nat):Int):=by omega
  have fi:=ae (Below.refl w.heap.size w) (.cells #[.int .i64 x.an,.bool x.leaf,.slice A x.l.length c,.int .i64 (x.at_:Nat)] 120);have BS:=xh (aF.new w 120 #[.int .i64 x.an,.bool x.leaf,.slice A x.l.length c,.int .i64 (x.at_:Nat)]);have y0:=BS.o.ab (i:=0) rfl;have y1:=BS.o.ab (i:=1) rfl;have y2:=BS.o.ab (i:=2) rfl
  have H1:=xh (show TQ _ tb I F q n Kz/\aV _ b (.slice (some ⟨g,0,none⟩) (pre.length+1) cc) L/\aS _ 111 3 (.slice A x.l.length c) x.l.length (aD x.l)/\OB b w _ F F from⟨h.below fi,SA.below fi,S1.o.below fi,(OB.refl b w F).below fi⟩)
  have KW:=xh (λ(W:World) (F':List Nat) (qj:QS) (Kj:Nat) (hW:TQ W tb I F' qj n Kj) (hk:Kj<=999999999900) (A:Option Addr) (mm c:Nat) (l:List E) (S:aS W 111 3 (.slice A mm c) mm (aD l)) (hm:mm<=1000)=>oR hW (by omega) x.an x.leaf A mm c l S hm);have sW:=xh rK;have HPM:=xh hpm;have VL:=xh hp16;have HPRE:=xh lS;have HLX:=xh hlx;have mM:=hlx.1;obtain⟨RR,bG⟩:∃RR,gf (m+1) (x::pre.reverse) q=RR:=⟨_,rfl⟩;rw[bG];unfold gf at bG
  have fj:=xh bG;clear bG h SA nP rK lS hlx gZ Su f1 hL fi;have K1:=xh (KW.o _ F q Kz H1.o.1 (by omega) A x.l.length c x.l H1.o.2.2.1 (by omega));have hwr:(q.cN x.an x.leaf x.l).2=11->(bH x.leaf x.l).2≠0->2<=x.l.length:=λh1 h2=>VJ h2 (λh3=>by unfold QS.cN at h1;rw[if_pos h2,h3]at h1;exact absurd h1 (by show(2:Int)≠11;decide)) HLX.o;generalize q.cN x.an x.leaf x.l=R at *;obtain⟨q1,e1⟩:=R;dsimp only at *;have HWR:=xh hwr
  clear hwr;unfold tp bu at *;go_enter func75,ntmps75;go_wp2_with fail;refine K1.o.mono ?_;rintro e w2 ⟨rfl,P2,o2⟩;have B2:=xh (BS.o.only o2 (H1.o.1.2.iI BS.o));have H2:=xh (show TQ w2 tb I F q1 n (Kz+1)/\aV w2 b (.slice (some ⟨g,0,none⟩) (pre.length+1) cc) L/\aS w2 111 3 (.slice A x.l.length c) x.l.length (aD x.l)/\OB b w w2 F F from
   ⟨H1.o.1.next o2 P2,H1.o.2.1.xN H1.o.1.2 o2,PT.Pt (.self P2 o2) H1.o.1.2 H1.o.2.2.1,H1.o.2.2.2.step hb o2 (λg hg=> .inl hg)⟩)
  clear P2 o2 y0 y1 y2 Fh hx1 hx2 hx3;have z0:=B2.o.ab (i:=0) rfl;have z1:=B2.o.ab (i:=1) rfl;have z2:=B2.o.ab (i:=2) rfl
  by_cases he:e1=11
  .subst he;obtain⟨bb,yg⟩:∃bb,bb=decide ((bH x.leaf x.l).2=0):=⟨_,rfl⟩;have KF:=xh (QY (w:=w2) x.leaf A x.l.length c x.l H2.o.2.2.1 (by omega) bb yg);unfold bu at KF;have HBB:=xh yg;clear yg;go_wp2_with fail;refine KF.o.mono ?_;rintro e w3 ⟨rfl,gr⟩;have B3:=xh (B2.o.below gr B2.o.lt)
   have H3:=xh (show TQ w3 tb I F q1 n (Kz+1)/\aV w3 b (.slice (some ⟨g,0,none⟩) (pre.length+1) cc) L/\aS w3 111 3 (.slice A x.l.length c) x.l.length (aD x.l)/\OB b w w3 F F from⟨H2.o.1.below gr,H2.o.2.1.below gr,H2.o.2.2.1.below gr,H2.o.2.2.2.below gr⟩);clear gr z0 z1 z2;have z0:=B3.o.ab (i:=0) rfl;have z1:=B3.o.ab (i:=1) rfl;have z2:=B3.o.ab (i:=2) rfl
   cases bb
   .have pZ:(bH x.leaf x.l).2≠0:=by have:=HBB.o;simpa using this.symm
    have h2l:=HWR.o (by trivial) pZ;have HLT3:=xh (show ∀Z∈L,∀g∈ah Z.v,g<w3.heap.size from λZ hZ=>(H3.o.2.1.e Z hZ).1.lt);have KH:=xh (Nd.Mr (w:=w3) x.leaf A x.l.length c x.l H3.o.2.2.1 h2l (by omega) (IP HLX.o));unfold bu at KH;have bG:=fj.o;rw[if_neg (by simp[pZ])]at bG;have fj:=xh bG;clear bG HWR;go_wp2_with fail;refine KH.o.mono ?_;rintro e w4 ⟨⟨t,A1,c1,A2,c2,rfl,Oo,SL1,SL2,Ch⟩,jk⟩;obtain rfl:bF x.l=t:=Nd.Om Oo
    have HF2:=xh Ch;clear Ch;have Q4:1<=bF x.l/\bF x.l<x.l.length:=⟨Oo.1,Oo.2.1⟩;clear Oo;have fi:=ae (ae (Below.refl w4.heap.size w4) (.cells #[.bool x.leaf,.slice A1 (bF x.l) c1] 118)) (.cells #[.bool x.leaf,.slice A2 (x.l.length-bF x.l) c2] 118);have oF:=aC jk fi;have BA:=xh ((aF.new w4 118 #[.bool x.leaf,.slice A1 (bF x.l) c1]).alloc (.cells #[.bool x.leaf,.slice A2 (x.l.length-bF x.l) c2] 118))
    have bB:=aF.new (w4.alloc (.cells #[.bool x.leaf,.slice A1 (bF x.l) c1] 118)) 118 #[.bool x.leaf,.slice A2 (x.l.length-bF x.l) c2];rw[lR]at bB;have BB:=xh bB;have B5:=xh (B3.o.below oF B3.o.lt)
    have H5:=xh (show TQ _ tb I F q1 n (Kz+1)/\aV _ b (.slice (some ⟨g,0,none⟩) (pre.length+1) cc) L/\OB b w _ F F/\aS _ 111 3 (.slice A1 (bF x.l) c1) (bF x.l) (aD (x.l.take (bF x.l)))/\aS _ 111 3 (.slice A2 (x.l.length-bF x.l) c2) (x.l.length-bF x.l) (aD (x.l.drop (bF x.l)))from
     ⟨H3.o.1.below oF,H3.o.2.1.below oF,H3.o.2.2.2.below oF,SL1.below fi,SL2.below fi⟩)
    have u0:=BA.o.ab (i:=0) rfl;have u1:=BA.o.ab (i:=1) rfl;have v0:=BB.o.ab (i:=0) rfl;have v1:=BB.o.ab (i:=1) rfl;clear z0 z1 z2 bB jk oF fi SL1 SL2 H3 B3;generalize bF x.l=hf at *
    rcases ss pre with rfl|⟨eB,y,hpe⟩
    .have KG:=xh (Q3 H5.o.1 (by omega) x.leaf A1 hf c1 (x.l.take hf) H5.o.2.2.2.1 A2 (x.l.length-hf) c2 (x.l.drop hf) H5.o.2.2.2.2 (by omega) (by omega) (by omega));have bG:=fj.o;dsimp only[List.reverse_nil]at bG;rw[bG]at KG;unfold bu at KG;clear bG;go_wp2_with fail;refine KG.o.mono ?_;rintro e w6 ⟨rfl,P6⟩;have P6:=xh P6;clear u0 u1 v0 v1;go_wp2_with fail;go_ret;refine⟨by first|rfl|simp,?_⟩;obtain⟨F6,P,o,f⟩:=P6.o
     exact((H5.o.2.2.1.step hb o f).pb P).le (by omega)
    .obtain rfl:pre=eB++[y]:=by simpa using hpe
     clear hpe;have uR:(eB++[y]).length=eB.length+1:=by simp
     have hne1:¬(((eB.length+1+1:Nat):Int)=1):=by omega
     have KM:=xh (wy H5.o.1 (by omega) x.leaf A2 (x.l.length-hf) c2 (x.l.drop hf) H5.o.2.2.2.2 (by omega));have bG:=fj.o;rw[List.reverse_append,List.reverse_singleton,tL]at bG;dsimp only at bG;generalize q1.eC x.leaf (x.l.drop hf)=R2 at *;obtain⟨q2,l2,e2⟩:=R2;dsimp only at *;have fj:=xh bG;unfold bu at KM;clear bG;go_wp2_with fail;refine KM.o.mono ?_;rintro e w6 ⟨rfl,P6⟩;have SA6:=P6.Pt H5.o.1.2 H5.o.2.2.2.1
     have SB6:=P6.Pt H5.o.1.2 H5.o.2.2.2.2;obtain⟨F6,T6,o6,f6⟩:=P6.tq H5.o.1;have A6:=xh (BA.o.only o6 (H5.o.1.2.iI BA.o));have B6:=xh (BB.o.only o6 (H5.o.1.2.iI BB.o));have D6:=xh (B5.o.only o6 (H5.o.1.2.iI B5.o))
     have H6:=xh (show TQ w6 tb I F6 q2 n (Kz+2)/\aV w6 b (.slice (some ⟨g,0,none⟩) ((eB++[y]).length+1) cc) L/\OB b w w6 F F6/\aS w6 111 3 (.slice A1 hf c1) hf (aD (x.l.take hf))/\aS w6 111 3 (.slice A2 (x.l.length-hf) c2) (x.l.length-hf) (aD (x.l.drop hf))from
      ⟨T6,H5.o.2.1.xN H5.o.1.2 o6,H5.o.2.2.1.step hb o6 f6,SA6,SB6⟩)
     clear P6 SA6 SB6 T6 o6 f6 u0 u1 v0 v1 BA BB B5
     by_cases r8:e2=0
     .subst r8;have bG:=fj.o;rw[if_neg (by simp)]at bG;have K7:=xh (KW.o w6 F6 q2 (Kz+2) H6.o.1 (by omega) A1 hf c1 (x.l.take hf) H6.o.2.2.2.1 (by omega));generalize q2.cN x.an x.leaf (x.l.take hf)=R3 at *;obtain⟨q3,e3⟩:=R3;dsimp only at *;have fj:=xh bG;have z0:=D6.o.ab (i:=0) rfl;have u0:=A6.o.ab (i:=0) rfl;have u1:=A6.o.ab (i:=1) rfl;clear bG;go_wp2_with fail;refine K7.o.mono ?_;rintro e w7 ⟨rfl,P7,o7⟩
      have B7:=xh (B6.o.only o7 (H6.o.1.2.iI B6.o));have H7:=xh (show TQ w7 tb I F6 q3 n (Kz+3)/\aV w7 b (.slice (some ⟨g,0,none⟩) ((eB++[y]).length+1) cc) L/\OB b w w7 F F6/\aS w7 111 3 (.slice A2 (x.l.length-hf) c2) (x.l.length-hf) (aD (x.l.drop hf))from
       ⟨H6.o.1.next o7 P7,H6.o.2.1.xN H6.o.1.2 o7,H6.o.2.2.1.step hb o7 (λg hg=> .inl hg),PT.Pt (.self P7 o7) H6.o.1.2 H6.o.2.2.2.2⟩)
      clear P7 o7 z0 u0 u1 A6 B6 D6
      by_cases he3:e3=0
      .subst he3;obtain⟨uV,AY,cY,rfl,My⟩:∃uV AY cY,Lp=uV++[(⟨y,AY,cY⟩:SM)]/\uV.map SM.s=eB:=by
        have:=HPRE.o
        rcases ss Lp with h0|⟨uV,Y,h0⟩
        .rw[h0]at this;simp at this
        .have h0:Lp=uV++[Y]:=by simpa using h0
         rw[h0,ez]at this;obtain⟨a1,a2⟩:=JL this rfl;obtain⟨ys,AY,cY⟩:=Y;simp at a2;subst a2;exact⟨uV,AY,cY,h0,a1⟩
       have hLL:uV.length=eB.length:=by rw[<-My,eM]
       have uU:=xh hLL;have HMP:=xh My;have hHL:=HL.o;rw[cy,tL]at hHL;have hfy:=sW.o y (by simp);have hya:=hfy.a;have hyn:=hfy.n;have HFY:=xh hfy;obtain⟨eb,rb,Ih⟩:∃eb rb,x.l.drop hf=eb::rb:=by
        cases hd:x.l.drop hf with
        |nil=>have:=congrArg List.length hd;rw[dY]at this;simp at this;omega
        |cons e r=>exact⟨e,r,rfl⟩
       obtain⟨g2,cc2,VI,pB,BB2,_,_⟩:=H7.o.2.2.2.form (by omega) (by omega);simp only[Value.slice.injEq,true_and]at pB;obtain⟨rfl,rfl⟩:=pB;rw[Ih]at BB2;have bG:=fj.o;rw[if_neg (by simp),Ih]at bG;have fj:=xh bG
       have H8:=xh (show TQ w7.drew tb I F6 q3 n (Kz+3)/\aV w7.drew b (.slice (some ⟨g,0,none⟩) ((eB++[y]).length+1) cc) (uV++⟨y,AY,cY⟩::[⟨x,A,c⟩])/\OB b w w7.drew F F6/\aF w7.drew (w4.heap.size+1) 118 #[.bool x.leaf,.slice (some ⟨g2,0,none⟩) (x.l.length-hf) c2]/\aF w7.drew g2 111 (aD (eb::rb)++VI).toArray from
        ⟨H7.o.1.drew,by have:=H7.o.2.1;rw[hHL]at this;exact this.below (Below.refl _ _).drew,H7.o.2.2.1.below (Below.refl _ _).drew,B7.o.drew,BB2.drew⟩)
       have HB8:=xh (show b<=w7.drew.heap.size from by have:=H7.o.2.2.1.size;show b<=w7.heap.size;omega);have HNY:=xh (show g2∉ah (.slice AY y.l.length cY)from λhm=>by have h1:=HF2.o g2 (by simp[ah]);have h2:=HLT3.o ⟨y,AY,cY⟩ (by rw[hHL];simp) g2 hm;omega);generalize w4.heap.size+1=gB at *;have s3:IntKind.i64.wrap (((eB.length+1+1:Nat):Int)-2)=(eB.length:Int):=by rw[show((eB.length+1+1:Nat):Int)-2=(eB.length:Int) by omega];exact IntWalk.i64_in _ (by omega)
       have s4:(eB.length:Int)<((eB.length+1+1:Nat):Int):=by omega
       have s5:IntKind.i64.wrap ((y.at_:Int)+1)=((y.at_+1:Nat):Int):=by rw[show(y.at_:Int)+1=((y.at_+1:Nat):Int) by omega];exact IntWalk.i64_in _ (by omega)
       have s7:0<x.l.length-hf:=by omega
       have s6:(0:Int)<((x.l.length-hf:Nat):Int):=by omega
       have HDR:=xh Ih;clear BB2 Ih bG H7 hHL My hLL hfy;go_wp2_with fail;obtain⟨w8,Mz⟩:∃w8,w7.drew=w8:=⟨_,rfl⟩;rw[Mz]at H8 HB8;have HS:=xh (show ∀W,Below w8.heap.size w8 W->(λW=>W.cell? ⟨g,eB.length*4+3,none⟩=some (.int .i64 (y.at_:Nat))/\W.cell? ⟨gB,1,none⟩=some (.slice (some ⟨g2,0,none⟩) (x.l.length-hf) c2)/\W.cell? ⟨g2,0,none⟩=some (.string eb.key)) W from λW hb=>by
        have h1:=(H8.o.2.1.below hb).cell (k:=uV.length) (Z:=⟨y,AY,cY⟩) (by rw[dR (Nat.le_refl _),fM];rfl) 3 (by omega);rw[uU.o]at h1;exact⟨h1,(H8.o.2.2.2.1.below hb H8.o.2.2.2.1.lt).ab (i:=1) rfl,(H8.o.2.2.2.2.below hb H8.o.2.2.2.2.lt).ab (i:=0) rfl⟩)
       have KS8:=xh (HS.o w8 (Below.refl _ _));have x8:w8.cell? ⟨g,eB.length*4+2,none⟩=some (.slice AY y.l.length cY):=by
        have h1:=H8.o.2.1.cell (k:=uV.length) (Z:=⟨y,AY,cY⟩) (by rw[dR (Nat.le_refl _),fM];rfl) 2 (by omega);rw[uU.o]at h1;exact h1
       obtain⟨w9,hw9⟩:∃w9,w8.alloc (.cells #[.string eb.key,.string ⟨#[]⟩,.int .i64 l2] 111)=w9:=⟨_,rfl⟩;have lT:Below w8.heap.size w8 w9:=by rw[<-hw9];exact ae (Below.refl _ _) _
       have BN9:aF w9 w8.heap.size 111 #[.string eb.key,.string ⟨#[]⟩,.int .i64 l2]:=by rw[<-hw9];exact aF.new _ _ _
       have BZ9:w9.frozen? ⟨w8.heap.size,3,none⟩=false:=by rw[<-hw9];exact World.frozen?_alloc_at (w:=w8) _ _ w8.heap.size 3 rfl
       have KS9:=xh (HS.o w9 lT);have x9:w9.cell? ⟨g,eB.length*4+2,none⟩=some (.slice AY y.l.length cY):=(lT.cell (p:=⟨g,eB.length*4+2,none⟩) (eg x8)).trans x8;have H9:=xh (show TQ w9 tb I F6 q3 n (Kz+3)/\aV w9 b (.slice (some ⟨g,0,none⟩) ((eB++[y]).length+1) cc) (uV++⟨y,AY,cY⟩::[⟨x,A,c⟩])/\OB b w w9 F F6/\aF w9 gB 118 #[.bool x.leaf,.slice (some ⟨g2,0,none⟩) (x.l.length-hf) c2]/\aF w9 g2 111 (aD (eb::rb)++VI).toArray from
        ⟨H8.o.1.below lT,H8.o.2.1.below lT,H8.o.2.2.1.below lT,H8.o.2.2.2.1.below lT H8.o.2.2.2.1.lt,H8.o.2.2.2.2.below lT H8.o.2.2.2.2.lt⟩)
       have HB9:=xh (show b<=w9.heap.size from aq HB8.o lT.size);have MA:=xh (show(y.l.insertIdx (y.at_+1) (⟨eb.key,⟨#[]⟩,l2⟩:E)).length=y.l.length+1 from by rw[Em,if_pos (by omega)]);have SY:=H9.o.2.1.e ⟨y,AY,cY⟩ (by simp)
       have KI:=xh (Nd.xM (w:=w9) SY.1 ⟨eb.key,⟨#[]⟩,l2⟩ (g2:=w8.heap.size) (cc:=1) BN9 (show y.l.length<=100000 by omega) (λhm=>by have:=(H8.o.2.1.e ⟨y,AY,cY⟩ (by simp)).1.lt _ hm;omega) (y.at_+1) (show y.at_+1<=y.l.length by omega) BZ9)
       have Kx:=xh (show ∀W,ag (ah (.slice AY y.l.length cY)) w9 W->(λW=>W.cell? ⟨g,eB.length*4+3,none⟩=some (.int .i64 (y.at_:Nat))/\W.cell? ⟨gB,1,none⟩=some (.slice (some ⟨g2,0,none⟩) (x.l.length-hf) c2)/\W.cell? ⟨g2,0,none⟩=some (.string eb.key)) W from λW o=>by
        have hgY:g∉ah (.slice AY y.l.length cY):=λhm=>mc SY.1 H9.o.2.1.s (by decide) g hm (by simp[ah]);obtain⟨k1,k2,k3⟩:=KS9.o;exact⟨(o.cell (p:=⟨g,eB.length*4+3,none⟩) (eg k1) hgY).trans k1,(H9.o.2.2.2.1.only o (dk SY.1 H9.o.2.2.2.1 (by decide))).ab (i:=1) rfl,(H9.o.2.2.2.2.only o HNY.o).ab (i:=0) rfl⟩)
       clear SY BN9 BZ9 lT;refine wp_region_held_drew (S:=λW=>W.cell? ⟨g,eB.length*4+3,none⟩=some (.int .i64 (y.at_:Nat))/\W.cell? ⟨gB,1,none⟩=some (.slice (some ⟨g2,0,none⟩) (x.l.length-hf) c2)/\W.cell? ⟨g2,0,none⟩=some (.string eb.key)) (by kernel_rfl) (by rw[Mz];exact KS8.o) (λau=>?_);rw[Mz];clear Mz;refine cP [(0,67),(1,68),(2,69),(3,70),(4,71),(6,73),(7,74),(8,75),(9,76),(10,77),(11,78),(12,79),(13,80),(14,81),(15,82),(16,83),(17,84)] ?_
       iterate 17 refine bj ?_
       refine wpAnyH_ready (rs:=[5,18]) (by kernel_rfl) (by simp) ?_;refine AllReadyH.cons (o:=⟨some 72,_,_,_,_,_⟩) rfl (λK hK=>?_) (AllReadyH.cons (o:=⟨some 85,_,_,_,_,_⟩) rfl (λK hK=>?_) AllReadyH.nil)
       focus
        go_simp;refine bz hK (KS8.o) (λau=>?_);refine cQ 18 85 λK hK=>?_;go_simp;refine bz hK (KS9.o) (λau=>?_);refine cQ 19 86 λK hK=>?_;go_simp
        go_at_call 74
        refine KI.o.mono ?_;rintro e yj ⟨A',c',rfl,Ck,uB,f10⟩;have Ck:=xh Ck;have uB:=xh uB;have f10:=xh f10;have MB:=xh (Kx.o yj uB.o);go_simp;refine bz hK (MB.o) (λau=>?_);refine cP [(20,87),(21,88),(22,89)] ?_
        iterate 3 refine bj ?_
        refine nB 23 λK hK=>?_;go_simp;obtain⟨SP,sx,sz⟩:=H9.o.2.1.put (y.l.insertIdx (y.at_+1) ⟨eb.key,⟨#[]⟩,l2⟩) (A':=A') (c':=c') (by rw[MA.o];exact Ck.o) uB.o (by rw[MA.o];exact f10.o) HB9.o;rw[uU.o]at SP sx sz;rw[MA.o]at SP;have SP:=xh SP;have sx:yj.cell? ⟨g,eB.length*4+2,none⟩=some (.slice AY y.l.length cY):=sx
        have FI:=xh (show ag (g::ah (.slice AY y.l.length cY)) w9 (yj.setCell ⟨g,eB.length*4+2,none⟩ (.slice A' (y.l.length+1) c'))from(uB.o.mono (λx hx _=>aw _ hx)).setCell (by simp) _);have SY9:=(H9.o.2.1.e ⟨y,AY,cY⟩ (by simp)).1;have IQ:=SP.o.cell (k:=uV.length) (Z:=⟨{y with l:=y.l.insertIdx (y.at_+1) ⟨eb.key,⟨#[]⟩,l2⟩},A',c'⟩) (by rw[dR (Nat.le_refl _),fM];rfl) 3 (by omega);rw[uU.o]at IQ
        have FW:=xh (And.intro IQ (And.intro (((H9.o.2.2.2.1.only uB.o (dk SY9 H9.o.2.2.2.1 (by decide))).aQ (p:=⟨g,eB.length*4+2,none⟩) (λe=>dk H9.o.2.1.s H9.o.2.2.2.1 (by decide) (by simp[ah];exact e)) (.slice A' (y.l.length+1) c')).ab (i:=1) rfl) (((H9.o.2.2.2.2.only uB.o HNY.o).aQ (p:=⟨g,eB.length*4+2,none⟩) (λe=>dk H9.o.2.1.s H9.o.2.2.2.2 (by decide) (by simp[ah];exact e)) (.slice A' (y.l.length+1) c')).ab (i:=0) rfl)))
        clear SY9 IQ;go_simp;refine bz hK (FW.o) (λau=>?_)
       rotate_left
       focus
        go_simp;refine bz hK (KS9.o) (λau=>?_);refine cQ 5 72 λK hK=>?_;go_simp;refine bz hK (KS9.o) (λau=>?_);refine cQ 19 86 λK hK=>?_;go_simp
        go_at_call 74
        refine KI.o.mono ?_;rintro e yj ⟨A',c',rfl,Ck,uB,f10⟩;have Ck:=xh Ck;have uB:=xh uB;have f10:=xh f10;have MB:=xh (Kx.o yj uB.o);go_simp;refine bz hK (MB.o) (λau=>?_);refine cP [(20,87),(21,88),(22,89)] ?_
        iterate 3 refine bj ?_
        refine nB 23 λK hK=>?_;go_simp;obtain⟨SP,sx,sz⟩:=H9.o.2.1.put (y.l.insertIdx (y.at_+1) ⟨eb.key,⟨#[]⟩,l2⟩) (A':=A') (c':=c') (by rw[MA.o];exact Ck.o) uB.o (by rw[MA.o];exact f10.o) HB9.o;rw[uU.o]at SP sx sz;rw[MA.o]at SP;have SP:=xh SP;have sx:yj.cell? ⟨g,eB.length*4+2,none⟩=some (.slice AY y.l.length cY):=sx
        have FI:=xh (show ag (g::ah (.slice AY y.l.length cY)) w9 (yj.setCell ⟨g,eB.length*4+2,none⟩ (.slice A' (y.l.length+1) c'))from(uB.o.mono (λx hx _=>aw _ hx)).setCell (by simp) _);have SY9:=(H9.o.2.1.e ⟨y,AY,cY⟩ (by simp)).1;have IQ:=SP.o.cell (k:=uV.length) (Z:=⟨{y with l:=y.l.insertIdx (y.at_+1) ⟨eb.key,⟨#[]⟩,l2⟩},A',c'⟩) (by rw[dR (Nat.le_refl _),fM];rfl) 3 (by omega);rw[uU.o]at IQ
        have FW:=xh (And.intro IQ (And.intro (((H9.o.2.2.2.1.only uB.o (dk SY9 H9.o.2.2.2.1 (by decide))).aQ (p:=⟨g,eB.length*4+2,none⟩) (λe=>dk H9.o.2.1.s H9.o.2.2.2.1 (by decide) (by simp[ah];exact e)) (.slice A' (y.l.length+1) c')).ab (i:=1) rfl) (((H9.o.2.2.2.2.only uB.o HNY.o).aQ (p:=⟨g,eB.length*4+2,none⟩) (λe=>dk H9.o.2.1.s H9.o.2.2.2.2 (by decide) (by simp[ah];exact e)) (.slice A' (y.l.length+1) c')).ab (i:=0) rfl)))
        clear SY9 IQ;go_simp;refine bz hK (FW.o) (λau=>?_)
       rotate_left
       all_goals
        refine wpAnyH_done (by kernel_rfl) ?_ _;go_wp2_with fail;have hT:TQ (yj.setCell ⟨g,eB.length*4+1+1,none⟩ (.slice A' (y.l.length+1) c')) tb I F6 q3 n (Kz+3):=by
         have qt:=H9.o.2.1.off H9.o.1.2;have FY:=H9.o.2.1.tree H9.o.1.1;exact H9.o.1.only FI.o (λz hz hm=>by
          rcases aj.1 hz with h1|h1<;>rcases aj.1 hm with h2|h2
          .exact FY.1 (by rw[<-h1,h2];simp[ah])
          .exact FY.2 ⟨y,AY,cY⟩ (by simp) (by rw[<-h1];exact h2)
          .exact qt.1 z (by rw[h2];simp[ah]) h1
          .exact qt.2 ⟨y,AY,cY⟩ (by simp) z h2 h1)
        have hO:OB b w (yj.setCell ⟨g,eB.length*4+1+1,none⟩ (.slice A' (y.l.length+1) c')) F F6:=H9.o.2.2.1.own FI.o (λz hz=>by
         rcases aj.1 hz with h2|h2
         .rw[h2];exact H9.o.2.1.f g (by simp[ah])
         .exact(H9.o.2.1.e ⟨y,AY,cY⟩ (by simp)).2 z h2)
        have hBW:b<=(yj.setCell ⟨g,eB.length*4+1+1,none⟩ (.slice A' (y.l.length+1) c')).heap.size:=aq HB9.o FI.o.size;have SQ:aV (yj.setCell ⟨g,eB.length*4+1+1,none⟩ (.slice A' (y.l.length+1) c')) b (.slice (some ⟨g,0,none⟩) (eB.length+1) cc) (uV++[(⟨{y with l:=y.l.insertIdx (y.at_+1) ⟨eb.key,⟨#[]⟩,l2⟩},A',c'⟩:SM)]):=by
         have h2:=aV.pop (L:=uV++[(⟨{y with l:=y.l.insertIdx (y.at_+1) ⟨eb.key,⟨#[]⟩,l2⟩},A',c'⟩:SM)]) (X:=⟨x,A,c⟩) (by rw[cy,tL];exact SP.o);rw[aO,tG,uU.o]at h2;exact h2
        have Q5:=fj.o;subst Q5;have hLX:=HLX.o;have hebx:eb∈x.l:=tI (i:=hf) (by rw[HDR.o];simp);have KR:=xO m eB {y with l:=y.l.insertIdx (y.at_+1) ⟨eb.key,⟨#[]⟩,l2⟩} (by have:=HPM.o;rw[aO,tG]at this;omega) hT (by have:=HK.o;omega) SQ hBW (by rw[ez,HMP.o];rfl) (λs hs=>sW.o s (by simp[hs]))
         ⟨by have:=HFY.o.n;show(y.l.insertIdx (y.at_+1) _).length<=90;rw[MA.o];omega,λe he=>by
          rcases(List.mem_insertIdx (by omega)).1 he with rfl|he
          .exact⟨(hLX.2 eb hebx).1,by show(⟨#[]⟩:ByteArray).size<=40;decide⟩
          .exact HFY.o.l.2 e he⟩ (by have:=VL.o;rw[aO,tG]at this;omega)
        refine KR.mono ?_;rintro e w12 ⟨rfl,P12⟩;have P12:=xh P12;have HO:=xh hO;clear hT hO hBW SQ hLX hebx KR;go_wp2_with fail;go_ret;exact⟨by first|rfl|simp[keyOf],(HO.o.trans P12.o).le (by omega)⟩
      .have bG:=fj.o;rw[if_pos he3]at bG;subst bG;have hq:(e3 != 0)=true:=by rw[bne_iff_ne];exact he3
       have kh:(e3==0)=false:=by rw[beq_eq_false_iff_ne];exact he3
       go_wp2_with fail;go_ret;exact aP ((H7.o.2.2.1.pb H7.o.1.2).le (by omega))
     .have bG:=fj.o;rw[if_pos r8]at bG;subst bG;have hq:(e2 != 0)=true:=by rw[bne_iff_ne];exact r8
      have kh:(e2==0)=false:=by rw[beq_eq_false_iff_ne];exact r8
      go_wp2_with fail;go_ret;exact aP ((H6.o.2.2.1.pb H6.o.1.2).le (by omega))
   .have pZ:(bH x.leaf x.l).2=0:=by have:=HBB.o;simpa using this.symm
    have bG:=fj.o;rw[if_pos (.inr pZ)]at bG;subst bG;go_wp2_with fail;go_ret;exact aP ((H3.o.2.2.2.pb H3.o.1.2).le (by omega))
  .have hq:(e1 != 11)=true:=by rw[bne_iff_ne];exact he
   have kh:(e1==11)=false:=by rw[beq_eq_false_iff_ne];exact he
   have bG:=fj.o;rw[if_pos (.inl he)]at bG;subst bG;go_wp2_with fail;go_ret;exact aP ((H2.o.2.2.2.pb H2.o.1.2).le (by omega))
variable{s:Step}{w:World}{I:Ix}{F:List Nat}{n:Nat}
theorem rz{l:List E}{leaf:Bool}(h:dL l leaf):∀e∈l,e.key.size<=32/\e.val.size<=40:=λe he=>by
 obtain⟨i,hi,rfl⟩:=List.mem_iff_getElem.1 he;have:=(h i hi l[i] (aG hi)).1;exact⟨this.1,this.2.1⟩
theorem wC.light(h:wC s):IM s.l:=⟨by have:=h.2.1;omega,rz h.1⟩
theorem wC.fit(h:wC s)(hl:s.leaf=false):Fit s:=⟨h.light,by have:=h.2.1;omega,h.2.2 hl⟩
theorem PB.pt{w':World}{q:QS}{K b:Nat}(hb:w.heap.size<=b)(h:PB b w w' I F q n K):PT w w' I F q n K:=by
 obtain⟨F',S,P,o,f,g⟩:=h;exact⟨F',P,o.mono (λx hx hl=>(f x hx).elim id (λh=>by omega)),λx hx=>(g x hx).imp id (λh=>by omega)⟩
theorem MD(q:QS)(key value:ByteArray):(q.jm key value).2.1.key=key/\(q.jm key value).2.1.val.size<=40:=by
 unfold QS.jm
 split
 .exact⟨rfl,by assumption⟩
 .exact⟨rfl,bf _⟩
def qu(l:List E)(key:ByteArray):List E:=if cq l key=true then l.eraseIdx (aY l key)else l
def QS.lG(q:QS)(l:List E)(key:ByteArray):QS×Int:=if cq l key=true then q.qs (l.getD (aY l key) Nd.E.zero)else(q,0)
def QS.layT(q:QS)(key value:ByteArray)(x:Step)(i:Nat)(up:List Step):QS×Int:=
 if(q.jm key value).2.2≠0 then((q.jm key value).1,(q.jm key value).2.2)
 else gf (up.length+1) ({x with l:=x.l.insertIdx i (q.jm key value).2.1}::up) (q.jm key value).1
def QS.iD(q:QS)(key value:ByteArray):QS×Int:=
 if 32<key.size\/1024<value.size then(q,4)
 else if(q.eJ key).2.2≠0 then((q.eJ key).1,(q.eJ key).2.2)
 else if((q.eJ key).1.lG (iJ (q.eJ key).2.1).l key).2≠0 then(q.eJ key).1.lG (iJ (q.eJ key).2.1).l key
 else((q.eJ key).1.lG (iJ (q.eJ key).2.1).l key).1.layT key value {iJ (q.eJ key).2.1 with l:=qu (iJ (q.eJ key).2.1).l key} (aY (iJ (q.eJ key).2.1).l key) (q.eJ key).2.1.dropLast.reverse
theorem AR{tb:Nat}{q:QS}{Kz:Nat}(h:TQ w tb I F q n Kz)(VK:Kz<=999999999000)(key value:ByteArray)(xP:key.size<=100000)(Cm:value.size<=100000):
  Calls prog 25 #[tp tb,.string key,.string value] w λe w'=>e=.returned (.int .i64 (q.iD key value).2)/\PT w w' I F (q.iD key value).1 n (Kz+100):=by
 have KW:=xh (AN h (by omega) key);have HT:=xh h;have HK:=xh VK;have fT:=Mx (q:=q) (key:=key);unfold QS.iD;generalize q.eJ key=R at *;obtain⟨q1,steps,er⟩:=R;dsimp only at *;unfold tp at *
 by_cases hk32:key.size<=32
 .by_cases hv:value.size<=1024
  .rw[if_neg (by omega)];have s5:¬(32<(key.size:Int)):=by omega
   have s6:¬(1024<(value.size:Int)):=by omega
   by_cases he:er=0
   .subst he;obtain⟨pre,x,rfl,sN,hnl,nm,hlen⟩:=fT rfl;rw[if_neg (by simp),show iJ (pre++[x])=x from by unfold iJ;simp,show(pre++[x]).dropLast=pre from by simp];have hxo:=nm x (by simp);obtain⟨hm,VH,_⟩:=hxo;have HLX:=xh (rz hm);have hm:=xh hm;have sW:=xh (show ∀s∈pre,Fit s from λs hs=>(nm s (by simp[hs])).fit (hnl s hs));have VL:=xh hlen;clear fT hnl nm sN h
    obtain⟨RR,bG⟩:∃RR,(if(q1.lG x.l key).2≠0 then q1.lG x.l key else(q1.lG x.l key).1.layT key value {x with l:=qu x.l key} (aY x.l key) pre.reverse)=RR:=⟨_,rfl⟩;rw[bG];have fj:=xh bG;clear bG;go_enter func25,ntmps25;go_wp2_with fail;refine KW.o.mono ?_;rintro e w1 ⟨v,L,rfl,SA,nP,P1,o1⟩;have VN:=SA.last nP;obtain⟨Lp,A,c,g,cc,rfl,lS,rfl,hbg,Fl,uQ,gZ,Su,S1,f1⟩:=VN
    have H1:=xh (show TQ w1 tb I F q1 n (Kz+16)/\aV w1 w.heap.size (.slice (some ⟨g,0,none⟩) (pre.length+1) cc) (Lp++[⟨x,A,c⟩])/\OB w.heap.size w w1 F F/\w.heap.size<=w1.heap.size from⟨HT.o.next o1 P1,SA,(OB.refl w.heap.size w F).step (Nat.le_refl _) o1 (λ_ hg=> .inl hg),o1.size⟩);have uU:=xh (show Lp.length=pre.length from by rw[<-lS,eM]);have HMP:=xh lS;have S1:=xh S1;have x1:w1.cell? ⟨g,pre.length*4+1,none⟩=some (.bool x.leaf):=gZ 1 (by omega)
    have x2:w1.cell? ⟨g,pre.length*4+1+1,none⟩=some (.slice A x.l.length c):=gZ 2 (by omega);have s1:IntKind.i64.wrap (((pre.length+1:Nat):Int)-1)=(pre.length:Int):=by rw[show((pre.length+1:Nat):Int)-1=(pre.length:Int) by omega];exact IntWalk.i64_in _ (by omega)
    have s2:(pre.length:Int)<((pre.length+1:Nat):Int):=by omega
    have KF:=xh (Nd.wu x.leaf A x.l.length c x.l key (Nd.aS.aD S1.o).2 (by omega) hm.o);unfold bu at KF;clear SA nP P1 o1 lS gZ Su f1;go_wp2_with fail;refine KF.o.mono ?_;rintro e w3 ⟨rfl,gr⟩;have O3:=xh gr
    have H3:=xh (show TQ w3 tb I F q1 n (Kz+16)/\aV w3 w.heap.size (.slice (some ⟨g,0,none⟩) (pre.length+1) cc) (Lp++[⟨x,A,c⟩])/\OB w.heap.size w w3 F F/\w.heap.size<=w3.heap.size from⟨H1.o.1.below O3.o,H1.o.2.1.below O3.o,H1.o.2.2.1.below O3.o,aq H1.o.2.2.2 O3.o.size⟩);have S3:=xh (S1.o.below gr);have u2:w3.cell? ⟨g,pre.length*4+1+1,none⟩=some (.slice A x.l.length c):=(O3.o.cell (p:=⟨g,pre.length*4+1+1,none⟩) (eg x2)).trans x2
    clear x1 x2 gr H1 S1 O3
    by_cases hh:cq x.l key=true
    obtain⟨ex,hex⟩:=AO hh;have hfx:x.l.getD (aY x.l key) Nd.E.zero=ex:=by rw[ib,hex];rfl
    have bG:=fj.o;unfold QS.lG qu at bG;rw[if_pos hh,if_pos hh,hfx]at bG;generalize cq x.l key=hb at *;subst hh;have pZ:aY x.l key<x.l.length:=(aM.1 hex).1;generalize aY x.l key=at_ at *;obtain⟨ad,oZ,eP⟩:=(Nd.aS.aD S3.o).2.2 at_ ex hex;obtain⟨ga,ca,r7,xu,_⟩:=S3.o.form (by omega) (by omega);injection xu with e1 Q6 e3
    clear Q6;subst e1 e3;injection oZ with oZ
    subst oZ;rw[Nd.fZ,bl]at eP;have u3:=eP.c0;have u4:=eP.c1;have u5:=eP.c2;dsimp only at u4 u5;have KA:=xh (Dy H3.o.1 (by omega) ex);unfold E.agg tp at KA;have hflI:(at_:Int)<(x.l.length:Int):=by omega
    generalize q1.qs ex=R2 at *;obtain⟨q2,e2⟩:=R2;dsimp only at *;have fj:=xh bG;clear eP hex hfx bG;go_wp2_with fail;refine KA.o.mono ?_;rintro e w4 ⟨rfl,P4,o4⟩
    have H4:=xh (show TQ w4 tb I F q2 n (Kz+21)/\aV w4 w.heap.size (.slice (some ⟨g,0,none⟩) (pre.length+1) cc) (Lp++[⟨x,some ⟨ga,0,none⟩,c⟩])/\OB w.heap.size w w4 F F/\w.heap.size<=w4.heap.size from⟨H3.o.1.next o4 P4,H3.o.2.1.xN H3.o.1.2 o4,H3.o.2.2.1.step (Nat.le_refl _) o4 (λ_ hg=> .inl hg),aq H3.o.2.2.2 o4.size⟩);clear P4 o4 u2 u3 u4 u5 S3
    by_cases r8:e2=0
    rotate_left
    .have bG:=fj.o;rw[if_pos r8]at bG;subst bG;have hq:(e2 != 0)=true:=by rw[bne_iff_ne];exact r8
     have kh:(e2==0)=false:=by rw[beq_eq_false_iff_ne];exact r8
     go_wp2_with fail;go_ret;exact aP (((H4.o.2.2.1.pb H4.o.1.2).pt (Nat.le_refl _)).le (by omega))
    rotate_left;subst r8;have bG:=fj.o;rw[if_neg (show ¬((0:Int)≠0) by simp)]at bG;have fj:=xh bG;have SX:=H4.o.2.1.e ⟨x,some ⟨ga,0,none⟩,c⟩ (by simp);have KD:=xh (Nd.qp SX.1 at_ pZ (show x.l.length<=100000 by omega));have u2:=H4.o.2.1.cell (k:=Lp.length) (Z:=⟨x,some ⟨ga,0,none⟩,c⟩) (by rw[dR (Nat.le_refl _),fM];rfl) 2 (by omega);rw[uU.o]at u2
    replace u2:w4.cell? ⟨g,pre.length*4+1+1,none⟩=some (.slice (some ⟨ga,0,none⟩) x.l.length c):=u2
    have BL:=xh (show(x.l.eraseIdx at_).length=x.l.length-1 from by rw[JX pZ]);have s7:IntKind.i64.wrap ((at_:Int)+1)=(at_:Int)+1:=IntWalk.i64_in _ (by omega);clear SX bG;go_wp2_with fail;refine KD.o.mono ?_;rintro e w5 ⟨rfl,S5,o5⟩;obtain⟨SP,sx,sz⟩:=H4.o.2.1.put (Lp:=Lp) (Ls:=[]) (x.l.eraseIdx at_) (A':=some ⟨ga,0,none⟩) (c':=c) (by rw[BL.o];exact S5) o5 (λz hz=> .inl hz) H4.o.2.2.2;rw[uU.o]at SP sx sz;rw[BL.o]at SP
    replace sx:w5.cell? ⟨g,pre.length*4+1+1,none⟩=some (.slice (some ⟨ga,0,none⟩) x.l.length c):=sx
    replace sz:w5.frozen? ⟨g,pre.length*4+1+1,none⟩=false:=sz
    have O5:ag (g::ah (.slice (some ⟨ga,0,none⟩) x.l.length c)) w4 (w5.setCell ⟨g,pre.length*4+1+1,none⟩ (.slice (some ⟨ga,0,none⟩) (x.l.length-1) c)):=(o5.mono (λx hx _=>aw _ hx)).setCell (by simp) _;have qt:=H4.o.2.1.off H4.o.1.2;have FY:=H4.o.2.1.tree H4.o.1.1
    have H5:=xh (show TQ (w5.setCell ⟨g,pre.length*4+1+1,none⟩ (.slice (some ⟨ga,0,none⟩) (x.l.length-1) c)) tb I F q2 n (Kz+21)/\aV (w5.setCell ⟨g,pre.length*4+1+1,none⟩ (.slice (some ⟨ga,0,none⟩) (x.l.length-1) c)) w.heap.size (.slice (some ⟨g,0,none⟩) (pre.length+1) cc) (Lp++[⟨{x with l:=x.l.eraseIdx at_},some ⟨ga,0,none⟩,c⟩])/\OB w.heap.size w (w5.setCell ⟨g,pre.length*4+1+1,none⟩ (.slice (some ⟨ga,0,none⟩) (x.l.length-1) c)) F F/\w.heap.size<=(w5.setCell ⟨g,pre.length*4+1+1,none⟩ (.slice (some ⟨ga,0,none⟩) (x.l.length-1) c)).heap.size from
     ⟨H4.o.1.only O5 (λz hz hm=>by
      rcases aj.1 hz with h1|h1<;>rcases aj.1 hm with h2|h2
      .exact FY.1 (by rw[<-h1,h2];simp[ah])
      .exact FY.2 ⟨x,some ⟨ga,0,none⟩,c⟩ (by simp) (by rw[<-h1];exact h2)
      .exact qt.1 z (by rw[h2];simp[ah]) h1
      .exact qt.2 ⟨x,some ⟨ga,0,none⟩,c⟩ (by simp) z h2 h1),SP,H4.o.2.2.1.own O5 (λz hz=>by
      rcases aj.1 hz with h2|h2
      .rw[h2];exact H4.o.2.1.f g (by simp[ah])
      .exact(H4.o.2.1.e ⟨x,some ⟨ga,0,none⟩,c⟩ (by simp)).2 z h2),aq H4.o.2.2.2 O5.size⟩)
    clear SP S5 o5 O5 qt FY;have HLY:=xh (show ∀e∈x.l.eraseIdx at_,e.key.size<=32/\e.val.size<=40 from λe he=>HLX.o e (List.mem_of_mem_eraseIdx he));obtain⟨w6,Gu⟩:∃w6,(w5.setCell ⟨g,pre.length*4+1+1,none⟩ (.slice (some ⟨ga,0,none⟩) (x.l.length-1) c))=w6:=⟨_,rfl⟩;rw[Gu]at H5
    go_upto_region 13 with fail
    clear Gu sx sz u2;have bG:=fj.o;have hya:at_<=(x.l.eraseIdx at_).length:=by rw[BL.o];omega
    have hyn:(x.l.eraseIdx at_).length<=57:=by rw[BL.o];omega
    generalize hY:({x with l:=x.l.eraseIdx at_}:Step)=y at *;have hyl:y.l=x.l.eraseIdx at_:=by rw[<-hY]
    rw[<-hyl]at HLY hya hyn;generalize hAY:some (⟨ga,0,none⟩:Addr)=AY at H5;obtain⟨cY,rfl⟩:∃cY,cY=c:=⟨_,rfl⟩;have fj:=xh bG;clear hyl hY hAY bG;rotate_left;have hh2:cq x.l key=false:=by simpa using hh
    have bG:=fj.o;unfold QS.lG qu at bG;rw[if_neg hh,if_neg hh,if_neg (show ¬((0:Int)≠0) by simp)]at bG;generalize cq x.l key=hb at *;subst hh2;have hya:aY x.l key<=x.l.length:=n7;generalize aY x.l key=at_ at *;obtain⟨q2,rfl⟩:∃q2,q2=q1:=⟨_,rfl⟩;obtain⟨y,rfl⟩:∃y:Step,y=x:=⟨_,rfl⟩;obtain⟨AY,rfl⟩:∃AY,AY=A:=⟨_,rfl⟩;obtain⟨cY,rfl⟩:∃cY,cY=c:=⟨_,rfl⟩;have hyn:y.l.length<=57:=VH;have HLY:=HLX;have fj:=xh bG
    have H5:=xh (show TQ w3 tb I F q2 n (Kz+21)/\aV w3 w.heap.size (.slice (some ⟨g,0,none⟩) (pre.length+1) cc) (Lp++[⟨y,AY,cY⟩])/\OB w.heap.size w w3 F F/\w.heap.size<=w3.heap.size from⟨H3.o.1.le (by omega),H3.o.2⟩);clear hh bG u2 H3 S3;obtain⟨w6,rfl⟩:∃w6,w6=w3:=⟨_,rfl⟩
    go_upto_region 13 with fail
    all_goals
     have KT:=xh (Q0 H5.o.1 (by omega) key value hv);have rA:=MD q2 key value;have bG:=fj.o;unfold QS.layT at bG;generalize q2.jm key value=R3 at *;obtain⟨q3,en,e3⟩:=R3;dsimp only at *;obtain⟨rfl,hen2⟩:=rA;have HEN:=xh (And.intro hk32 hen2);have fj:=xh bG;unfold E.agg tp at KT;clear bG hen2;go_wp2_with fail;refine KT.o.mono ?_;rintro e w4 ⟨rfl,P4⟩;obtain⟨F4,T4,o4,f4⟩:=P4.tq H5.o.1
     have H4:=xh (show TQ w4 tb I F4 q3 n (Kz+26)/\aV w4 w.heap.size (.slice (some ⟨g,0,none⟩) (pre.length+1) cc) (Lp++[⟨y,AY,cY⟩])/\OB w.heap.size w w4 F F4/\w.heap.size<=w4.heap.size from⟨T4,H5.o.2.1.xN H5.o.1.2 o4,H5.o.2.2.1.step (Nat.le_refl _) o4 f4,aq H5.o.2.2.2 o4.size⟩);clear P4 o4 f4 T4
     by_cases he3:e3=0
     .subst he3;have bG:=fj.o;rw[if_neg (show ¬((0:Int)≠0) by simp)]at bG;rw[List.length_reverse]at bG;have fj:=xh bG;clear bG;obtain⟨w8,Mz⟩:∃w8,(w4.alloc (.cells #[.string en.key,.string en.val,.int .i64 en.aQ] 111)).drew=w8:=⟨_,rfl⟩;have VP:Below w4.heap.size w4 w8:=by rw[<-Mz];exact(ae (Below.refl _ _) _).drew
      have BE8:aF w8 w4.heap.size 111 #[.string en.key,.string en.val,.int .i64 en.aQ]:=by rw[<-Mz];exact(aF.new _ _ _).drew
      have H8:=xh (show TQ w8 tb I F4 q3 n (Kz+26)/\aV w8 w.heap.size (.slice (some ⟨g,0,none⟩) (pre.length+1) cc) (Lp++⟨y,AY,cY⟩::[])/\OB w.heap.size w w8 F F4/\w.heap.size<=w8.heap.size/\aF w8 w4.heap.size 111 #[.string en.key,.string en.val,.int .i64 en.aQ]from
       ⟨H4.o.1.below VP,H4.o.2.1.below VP,H4.o.2.2.1.below VP,aq H4.o.2.2.2 VP.size,BE8⟩)
      have KS8:=xh (show(λW=>W.cell? ⟨w4.heap.size,0,none⟩=some (.string en.key)/\W.cell? ⟨w4.heap.size,1,none⟩=some (.string en.val)/\W.cell? ⟨w4.heap.size,2,none⟩=some (.int .i64 en.aQ)) w8 from And.intro (BE8.ab (i:=0) rfl) (And.intro (BE8.ab (i:=1) rfl) (BE8.ab (i:=2) rfl)));have x8:w8.cell? ⟨g,pre.length*4+2,none⟩=some (.slice AY y.l.length cY):=by
       have h1:=H8.o.2.1.cell (k:=Lp.length) (Z:=⟨y,AY,cY⟩) (by rw[dR (Nat.le_refl _),fM];rfl) 2 (by omega);rw[uU.o]at h1;exact h1
      obtain⟨w9,hw9⟩:∃w9,w8.alloc (.cells #[.string en.key,.string en.val,.int .i64 en.aQ] 111)=w9:=⟨_,rfl⟩;have lT:Below w8.heap.size w8 w9:=by rw[<-hw9];exact ae (Below.refl _ _) _
      have BN9:aF w9 w8.heap.size 111 #[.string en.key,.string en.val,.int .i64 en.aQ]:=by rw[<-hw9];exact aF.new _ _ _
      have BZ9:w9.frozen? ⟨w8.heap.size,3,none⟩=false:=by rw[<-hw9];exact World.frozen?_alloc_at (w:=w8) _ _ w8.heap.size 3 rfl
      have BE9:=H8.o.2.2.2.2.below lT H8.o.2.2.2.2.lt;have KS9:=xh (show(λW=>W.cell? ⟨w4.heap.size,0,none⟩=some (.string en.key)/\W.cell? ⟨w4.heap.size,1,none⟩=some (.string en.val)/\W.cell? ⟨w4.heap.size,2,none⟩=some (.int .i64 en.aQ)) w9 from And.intro (BE9.ab (i:=0) rfl) (And.intro (BE9.ab (i:=1) rfl) (BE9.ab (i:=2) rfl)));have x9:w9.cell? ⟨g,pre.length*4+2,none⟩=some (.slice AY y.l.length cY):=(lT.cell (p:=⟨g,pre.length*4+2,none⟩) (eg x8)).trans x8
      have H9:=xh (show TQ w9 tb I F4 q3 n (Kz+26)/\aV w9 w.heap.size (.slice (some ⟨g,0,none⟩) (pre.length+1) cc) (Lp++⟨y,AY,cY⟩::[])/\OB w.heap.size w w9 F F4/\w.heap.size<=w9.heap.size/\aF w9 w4.heap.size 111 #[.string en.key,.string en.val,.int .i64 en.aQ]from
       ⟨H8.o.1.below lT,H8.o.2.1.below lT,H8.o.2.2.1.below lT,aq H8.o.2.2.2.1 lT.size,BE9⟩)
      have MA:=xh (show(y.l.insertIdx at_ en).length=y.l.length+1 from by rw[Em,if_pos (by omega)]);have SY:=H9.o.2.1.e ⟨y,AY,cY⟩ (by simp);have KI:=xh (Nd.xM (w:=w9) SY.1 en (g2:=w8.heap.size) (cc:=1) BN9 (show y.l.length<=100000 by omega) (λhm=>by have:=(H8.o.2.1.e ⟨y,AY,cY⟩ (by simp)).1.lt _ hm;omega) at_ (show at_<=y.l.length by omega) BZ9)
      have Kx:=xh (show ∀W,ag (ah (.slice AY y.l.length cY)) w9 W->(λW=>W.cell? ⟨w4.heap.size,0,none⟩=some (.string en.key)/\W.cell? ⟨w4.heap.size,1,none⟩=some (.string en.val)/\W.cell? ⟨w4.heap.size,2,none⟩=some (.int .i64 en.aQ)) W from λW o=>by
       have hB:=H9.o.2.2.2.2.only o (λhm=>by have:=(H4.o.2.1.e ⟨y,AY,cY⟩ (by simp)).1.lt _ hm;omega);exact⟨hB.ab (i:=0) rfl,hB.ab (i:=1) rfl,hB.ab (i:=2) rfl⟩)
      clear SY BN9 BZ9 lT BE8 BE9 VP;go_wp2_with fail;refine wp_region_held_drew (S:=λW=>W.cell? ⟨w4.heap.size,0,none⟩=some (.string en.key)/\W.cell? ⟨w4.heap.size,1,none⟩=some (.string en.val)/\W.cell? ⟨w4.heap.size,2,none⟩=some (.int .i64 en.aQ)) (by kernel_rfl) (by rw[Mz];exact KS8.o) (λau=>?_);rw[Mz];clear Mz;refine cP [(0,86),(1,87),(2,88),(3,89),(4,90),(6,92),(7,93)] ?_
      iterate 7 refine bj ?_
      refine wpAnyH_ready (rs:=[5,8]) (by kernel_rfl) (by simp) ?_;refine AllReadyH.cons (o:=⟨some 91,_,_,_,_,_⟩) rfl (λK hK=>?_) (AllReadyH.cons (o:=⟨some 94,_,_,_,_,_⟩) rfl (λK hK=>?_) AllReadyH.nil)
      focus
       go_simp;refine bz hK (KS8.o) (λau=>?_);refine cQ 8 94 λK hK=>?_;go_simp;refine bz hK (KS9.o) (λau=>?_);refine cQ 9 95 λK hK=>?_;go_simp
       go_at_call 74
       refine KI.o.mono ?_;rintro e yj ⟨A',c',rfl,Ck,uB,f10⟩;have Ck:=xh Ck;have uB:=xh uB;have f10:=xh f10;have MB:=xh (Kx.o yj uB.o);go_simp;refine bz hK (MB.o) (λau=>?_);refine cP [(10,96),(11,97),(12,98)] ?_
       iterate 3 refine bj ?_
       refine nB 13 λK hK=>?_;go_simp;obtain⟨SP,sx,sz⟩:=H9.o.2.1.put (y.l.insertIdx at_ en) (A':=A') (c':=c') (by rw[MA.o];exact Ck.o) uB.o (by rw[MA.o];exact f10.o) H9.o.2.2.2.1;rw[uU.o]at SP sx sz;rw[MA.o]at SP;have SP:=xh SP
       replace sx:yj.cell? ⟨g,pre.length*4+2,none⟩=some (.slice AY y.l.length cY):=sx
       have FI:=xh (show ag (g::ah (.slice AY y.l.length cY)) w9 (yj.setCell ⟨g,pre.length*4+2,none⟩ (.slice A' (y.l.length+1) c'))from(uB.o.mono (λx hx _=>aw _ hx)).setCell (by simp) _);have SY9:=(H9.o.2.1.e ⟨y,AY,cY⟩ (by simp)).1
       have rA:=((H9.o.2.2.2.2.only uB.o (λhm=>by have:=(H4.o.2.1.e ⟨y,AY,cY⟩ (by simp)).1.lt _ hm;omega)).aQ (p:=⟨g,pre.length*4+2,none⟩) (λe=>dk H9.o.2.1.s H9.o.2.2.2.2 (by decide) (by simp[ah];exact e)) (.slice A' (y.l.length+1) c'));have FW:=xh (And.intro (rA.ab (i:=0) rfl) (And.intro (rA.ab (i:=1) rfl) (rA.ab (i:=2) rfl)));clear SY9 rA;go_simp;refine bz hK (FW.o) (λau=>?_)
      rotate_left
      focus
       go_simp;refine bz hK (KS9.o) (λau=>?_);refine cQ 5 91 λK hK=>?_;go_simp;refine bz hK (KS9.o) (λau=>?_);refine cQ 9 95 λK hK=>?_;go_simp
       go_at_call 74
       refine KI.o.mono ?_;rintro e yj ⟨A',c',rfl,Ck,uB,f10⟩;have Ck:=xh Ck;have uB:=xh uB;have f10:=xh f10;have MB:=xh (Kx.o yj uB.o);go_simp;refine bz hK (MB.o) (λau=>?_);refine cP [(10,96),(11,97),(12,98)] ?_
       iterate 3 refine bj ?_
       refine nB 13 λK hK=>?_;go_simp;obtain⟨SP,sx,sz⟩:=H9.o.2.1.put (y.l.insertIdx at_ en) (A':=A') (c':=c') (by rw[MA.o];exact Ck.o) uB.o (by rw[MA.o];exact f10.o) H9.o.2.2.2.1;rw[uU.o]at SP sx sz;rw[MA.o]at SP;have SP:=xh SP
       replace sx:yj.cell? ⟨g,pre.length*4+2,none⟩=some (.slice AY y.l.length cY):=sx
       have FI:=xh (show ag (g::ah (.slice AY y.l.length cY)) w9 (yj.setCell ⟨g,pre.length*4+2,none⟩ (.slice A' (y.l.length+1) c'))from(uB.o.mono (λx hx _=>aw _ hx)).setCell (by simp) _);have SY9:=(H9.o.2.1.e ⟨y,AY,cY⟩ (by simp)).1
       have rA:=((H9.o.2.2.2.2.only uB.o (λhm=>by have:=(H4.o.2.1.e ⟨y,AY,cY⟩ (by simp)).1.lt _ hm;omega)).aQ (p:=⟨g,pre.length*4+2,none⟩) (λe=>dk H9.o.2.1.s H9.o.2.2.2.2 (by decide) (by simp[ah];exact e)) (.slice A' (y.l.length+1) c'));have FW:=xh (And.intro (rA.ab (i:=0) rfl) (And.intro (rA.ab (i:=1) rfl) (rA.ab (i:=2) rfl)));clear SY9 rA;go_simp;refine bz hK (FW.o) (λau=>?_)
      rotate_left
      all_goals
       refine wpAnyH_done (by kernel_rfl) ?_ _;go_wp2_with fail;have hT:TQ (yj.setCell ⟨g,pre.length*4+1+1,none⟩ (.slice A' (y.l.length+1) c')) tb I F4 q3 n (Kz+26):=by
        have qt:=H9.o.2.1.off H9.o.1.2;have FY:=H9.o.2.1.tree H9.o.1.1;exact H9.o.1.only FI.o (λz hz hm=>by
         rcases aj.1 hz with h1|h1<;>rcases aj.1 hm with h2|h2
         .exact FY.1 (by rw[<-h1,h2];simp[ah])
         .exact FY.2 ⟨y,AY,cY⟩ (by simp) (by rw[<-h1];exact h2)
         .exact qt.1 z (by rw[h2];simp[ah]) h1
         .exact qt.2 ⟨y,AY,cY⟩ (by simp) z h2 h1)
       have hO:OB w.heap.size w (yj.setCell ⟨g,pre.length*4+1+1,none⟩ (.slice A' (y.l.length+1) c')) F F4:=H9.o.2.2.1.own FI.o (λz hz=>by
        rcases aj.1 hz with h2|h2
        .rw[h2];exact H9.o.2.1.f g (by simp[ah])
        .exact(H9.o.2.1.e ⟨y,AY,cY⟩ (by simp)).2 z h2)
       have hBW:w.heap.size<=(yj.setCell ⟨g,pre.length*4+1+1,none⟩ (.slice A' (y.l.length+1) c')).heap.size:=aq H9.o.2.2.2.1 FI.o.size;have SQ:aV (yj.setCell ⟨g,pre.length*4+1+1,none⟩ (.slice A' (y.l.length+1) c')) w.heap.size (.slice (some ⟨g,0,none⟩) (pre.length+1) cc) (Lp++[(⟨{y with l:=y.l.insertIdx at_ en},A',c'⟩:SM)]):=by
        exact SP.o
       have Q5:=fj.o;subst Q5;have KR:=xO (pre.length+1) pre {y with l:=y.l.insertIdx at_ en} (Nat.le_refl _) hT (by have:=HK.o;have:=VL.o;omega) SQ hBW (by rw[ez,HMP.o];rfl) sW.o
        ⟨by show(y.l.insertIdx at_ _).length<=90;rw[MA.o];omega,λe he=>by
         rcases(List.mem_insertIdx (by omega)).1 he with rfl|he
         .exact HEN.o
         .exact HLY.o e he⟩ (by have:=VL.o;omega)
       refine KR.mono ?_;rintro e w12 ⟨rfl,P12⟩;have P12:=xh P12;have HO:=xh hO;clear hT hO hBW SQ KR;go_wp2_with fail;go_ret;exact aP (((HO.o.trans P12.o).pt (Nat.le_refl _)).le (by have:=VL.o;omega))
     .have bG:=fj.o;rw[if_pos he3]at bG;subst bG;have hq:(e3 != 0)=true:=by rw[bne_iff_ne];exact he3
      have kh:(e3==0)=false:=by rw[beq_eq_false_iff_ne];exact he3
      go_wp2_with fail;go_ret;exact aP ((((H4.o.2.2.1.below (ae (Below.refl _ _) _)).pb (H4.o.1.2.below (ae (Below.refl _ _) _))).pt (Nat.le_refl _)).le (by omega))
   .rw[if_pos he];have hq:(er != 0)=true:=by rw[bne_iff_ne];exact he
    have kh:(er==0)=false:=by rw[beq_eq_false_iff_ne];exact he
    clear fT;go_enter func25,ntmps25;go_wp2_with fail;refine KW.o.mono ?_;rintro e w1 ⟨v,L,rfl,SA,nP,P1,o1⟩;have P1:=xh P1;have o1:=xh o1;clear SA nP;go_wp2_with fail;go_ret;exact aP ((PT.self P1.o o1.o).le (by omega))
  .rw[if_pos (by omega)];have s6:1024<(value.size:Int):=by omega
   have s5:¬(32<(key.size:Int)):=by omega
   clear fT;go_enter func25,ntmps25;go_wp2_with fail;go_ret;exact aP ((PT.self HT.o.2 (ag.refl F w)).le (by omega))
 .rw[if_pos (by omega)];have s5:32<(key.size:Int):=by omega
  clear fT;go_enter func25,ntmps25;go_wp2_with fail;go_ret;exact aP ((PT.self HT.o.2 (ag.refl F w)).le (by omega))
end Sh
end Go.Proofs.YtmonobkginiajaaGreat
