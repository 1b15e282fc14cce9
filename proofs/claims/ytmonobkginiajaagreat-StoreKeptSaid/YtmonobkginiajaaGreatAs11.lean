/- packed. -/
import Derived.Test.YtmonobkginiajaaGreatAs10
set_option linter.all false
set_option maxRecDepth 100000
set_option maxHeartbeats 8000000
namespace Go.Proofs.YtmonobkginiajaaGreat
open Go.Proofs.Tryz
open Value renaming string→U2,slice→U3,int→U5,bool→U6,tuple→U8
open Ending renaming returned→BY
open IntKind renaming i64→By
open Obj renaming cells→WF
open Go renaming World→YB,Value→YO,Calls→eq
open And renaming intro→io
namespace Sh
open Go.RowKit Pk Dk Pg
open Nd (E aJ bH aS aZ et)
variable{K' tb n K:Nat}{w:YB}{I:Ix}{F:List Nat}
def wG(e:Int):Int:=if e=3\/e=6 then 14 else e
def QS.bF(q:QS)(p:Int):QS×Bool×List E×Int:=
 if(q.dN p).2.2≠0 then((q.dN p).1,false,[],wG (q.dN p).2.2)
 else((q.dN p).1,(aS (q.dN p).2.1.data.toList).1,(aS (q.dN p).2.1.data.toList).2.1,wG (aS (q.dN p).2.1.data.toList).2.2)
def blank(leaf:Bool)(l:List E):List E:=match leaf,l with
 |false,e::r=>{e with key:=⟨#[]⟩}::r
 |_,l=>l
def bT(leaf:Bool)(l:List E):pu×Int:=aZ leaf (blank leaf l)
def QS.db(q:QS)(p:Int)(leaf:Bool)(l:List E):QS×Int:=if(bT leaf l).2≠0 then(q,(bT leaf l).2)else q.eg p ⟨(bT leaf l).1.toArray⟩
def QS.eK(q:QS)(leaf:Bool)(l:List E):QS×Int×Int:=if(bT leaf l).2≠0 then(q,0,(bT leaf l).2)else q.bZ (bT leaf l).1
def tp(b:Nat):YO:= .pointer (some ⟨b,0,none⟩)
def TQ(w:YB)(tb:Nat)(I:Ix)(F:List Nat)(q:QS)(n K:Nat):Prop:=aF w tb 130 #[pp I.pb]/\PQ w I F q n K
section
variable{w w':YB}{tb:Nat}{I:Ix}{F S:List Nat}{q q':QS}{n K:Nat}
theorem TQ.ne(h:TQ w tb I F q n K):tb∉F:=h.2.fI h.1
theorem TQ.below(h:TQ w tb I F q n K)(hb:i7 w w'):TQ w' tb I F q n K:=⟨h.1.below hb h.1.lt,h.2.below hb⟩
theorem TQ.only(h:TQ w tb I F q n K)(o:ag S w w')(hd:∀g∈tb::F,g∉S):TQ w' tb I F q n K:=⟨h.1.only o (hd _ (gS ..)),h.2.only o (λg hg=>hd g (bK _ hg))⟩
theorem TQ.lt(h:TQ w tb I F q n K):∀g∈tb::F,g<w.heap.size:=λg hg=>(ar.1 hg).elim (λe=>by rw[e];exact h.1.lt) (h.2.lt g)
theorem TQ.le(h:TQ w tb I F q n K)(hk:K<=K'):TQ w tb I F q n K':=⟨h.1,h.2.le hk⟩
theorem TQ.next(h:TQ w tb I F q n K)(o:ag F w w')(p:PQ w' I F q' n K'):TQ w' tb I F q' n K':=⟨h.1.only o h.ne,p⟩
end
theorem nm(l:List E):(aJ l).length=l.length*3:=Nd.aw l
theorem Da(e:Int)(w:YB):eq prog 112 #[e] w λr w'=>r=BY (U5 By (wG e))/\w=w':=by
 unfold wG
 by_cases h3:e=3
 .subst h3;go_in;go_wp2;go_ret;exact aI rfl
 .have q3:(e==3)=false:=i4 h3
  by_cases h6:e=6
  .subst h6;go_in;go_wp2;go_ret;exact aI rfl
  .have q6:(e==6)=false:=i4 h6
   rw[gc];go_in;go_wp2;go_ret;exact aI rfl
theorem IE{g:Nat}{b b':Bool}{v v':YO}(B:aF w g 118 #[U6 b,v]):
  aF ((w.setCell ⟨g,0,none⟩ (U6 b')).setCell ⟨g,1,none⟩ v') g 118 #[U6 b',v']/\ag [g] w ((w.setCell ⟨g,0,none⟩ (U6 b')).setCell ⟨g,1,none⟩ v')/\
   w.cell? (lc g)=some (U6 b)/\w.cell? ⟨g,1,none⟩=some v/\w.frozen? ⟨g,0,none⟩=false/\w.frozen? ⟨g,1,none⟩=false:=
 ⟨(B.cw 0 _).cw 1 _,((ag.refl _ _).setCell (by simp) _).setCell (by simp) _,B.ab rfl,B.ab rfl,B.frozen 0 (by simp),B.frozen 1 (by simp)⟩
theorem pH{q:QS}(h:TQ w tb I F q n K)(hK:K<=999999999999)(p:Int):
  eq prog 70 #[tp tb,p] w λe w'=> ∃A c,e=BY (U8 #[bH (q.bF p).2.1 A (q.bF p).2.2.1.length c,U5 By (q.bF p).2.2.2])/\
   aM w' 111 3 (U3 A (q.bF p).2.2.1.length c) (q.bF p).2.2.1.length (aJ (q.bF p).2.2.1)/\(∀g∈ah (U3 A (q.bF p).2.2.1.length c),w.heap.size<=g)/\PQ w' I F (q.bF p).1 n (K+1)/\ag F w w':=by
 have O0:=xh<|i6 w (WF #[U6 false,U3 none 0 0] 118);have B0:=xh<|aF.new w 118 #[U6 false,U3 none 0 0];have T0:=h.below O0.o;have p0:=T0.1.bi 0;have NQ:=g9 (w.heap.size∉F) (λhm=>by have:=h.2.lt _ hm;omega);have KG:=xh<|wo T0.2 hK p;have KB:=xh Da;have hgs:=λh0=>rM h.2.wp (p:=p) h0;unfold QS.bF;generalize q.dN p=R at *;obtain⟨q1,s,er⟩:=R;dsimp only at *
 clear h T0;unfold pp tp bH at *
 by_cases he:er=0
 .subst he;have hs:=hgs rfl;rw[i8];have KN:=xh (λ(W:YB)=>Nd.Yw s W (by omega));generalize aS s.data.toList=G at *;obtain⟨leaf,l,er⟩:=G;dsimp only at *;unfold bH at *;clear hgs hs;go_in;go_wp2_with fail;go_call KG.o as e w1 ⟨rfl,P1,o1⟩;have P1:=xh P1;have B1:=xh<|B0.o.only o1 NQ.o;have o1:=xh o1;clear p0;go_wp2_with fail;go_call (KN.o _) as e w2 ⟨A,c,rfl,S2,f2,cf⟩
  have S2:=xh S2;have f2:=xh f2;have P2:=xh<|P1.o.below cf;have B2:=xh<|B1.o.below cf B1.o.lt;have O2:=xh<|o1.o.trans (.aj cf);clear cf;go_wp2_with fail;have NE:=g9 (¬w2.heap.size=w.heap.size) (by have:=O2.o.size;simp at this;omega);have C3:=xh<|aF.new w2 118 #[U6 leaf,U3 A l.length c];have B3:=xh<|B2.o.alloc (WF #[U6 leaf,U3 A l.length c] 118)
  have S3:=xh<|S2.o.alloc (WF #[U6 leaf,U3 A l.length c] 118);have iF:=i6 w2 (WF #[U6 leaf,U3 A l.length c] 118);have P3:=xh<|P2.o.below iF;have O3:=xh<|O2.o.trans (.aj iF);have f3:=g9 (∀g∈ah (U3 A l.length c),w.heap.size<=g/\g≠w.heap.size) (λg hg=>by have h1:=f2.o g hg;have h2:=o1.o.size;simp at h2;omega);clear iF
  generalize w2.alloc (WF #[U6 leaf,U3 A l.length c] 118)=w3 at *;generalize w2.heap.size=g2 at *;have C3d:=xh C3.o.drew;have KS:=xh<|io (C3d.ap 0) (C3d.ap 1);clear C3;have C3:=C3d;have B3:=xh B3.o.drew;have S3:=xh S3.o.drew;have P3:=xh P3.o.drew;have O3:=xh O3.o.drew
  refine kw (λW=>W.cell? (lc g2)=some (U6 leaf)/\W.cell? ⟨g2,1,none⟩=some (U3 A l.length c)) (KS.o) (λau=>?_);generalize w3.drew=w4 at *;refine dP [(0,28),(1,29)] ?_
  iterate 2 refine bJ ?_
  refine dI 2 30 λK hK=>?_;go_simp
  go_at_call 112
  go_call (KB.o _ _) as e w5 ⟨rfl,rfl⟩;go_simp;refine bn hK (KS.o) (λau=>?_);refine rm 3 λK hK=>?_;go_simp;obtain⟨B4,o4,d0,d1,z0,z1⟩:=IE (b':=leaf) (v':=U3 A l.length c) B3.o;have B4:=xh B4;have C4:=xh<|C3.o.only o4 (by simpa using NE.o);have KS4:=xh<|io (C4.ap 0) (C4.ap 1);have o4:=xh o4;go_simp;refine bn hK (KS4.o) (λau=>?_);refine dP [(4,5)] ?_
  iterate 1 refine bJ ?_
  refine jp ?_ _;go_wp2_with fail;exact bodyPost_ret (Nd.jG rfl rfl B4.o) rfl ⟨A,c,rfl,S3.o.only o4.o (λg hg hm=>(f3.o g hg).2 (by simpa using hm)),λg hg=>(f3.o g hg).1,P3.o.aY o4.o NQ.o,nA (((ag.aj (S:=w.heap.size::F) O0.o).trans (nC O3.o)).trans (nD o4.o)) (ai _)⟩
 .rw[if_pos he];have hq:(er != 0)=true:=ls he
  have my:(er==0)=false:=i4 he
  clear hgs;go_in;go_wp2_with fail;go_call KG.o as e w1 ⟨rfl,P1,o1⟩;have P1:=xh P1;have B1:=xh<|B0.o.only o1 NQ.o;have o1:=xh o1;clear p0;go_wp2_with fail;go_call (KB.o _ _) as e w2 ⟨rfl,rfl⟩;obtain⟨B2,o2,c0,c1,z0,z1⟩:=IE (b':=false) (v':=U3 none 0 0) B1.o;have B2:=xh B2;have o2:=xh o2;go_wp2_with fail
  exact bodyPost_ret (Nd.jG rfl rfl B2.o) rfl ⟨none,0,rfl,aM.nil _ _ _,by simp[ah],P1.o.aY o2.o NQ.o,nA (((ag.aj (S:=w.heap.size::F) O0.o).trans (nC o1.o)).trans (nD o2.o)) (ai _)⟩
theorem Db(leaf:Bool)(A:Option Addr)(n c:Nat)(l:List E)(S:aM w 111 3 (U3 A n c) n (aJ l))(hn:n<=1000):
  eq prog 175 #[bH leaf A n c] w λe w'=>e=BY (U8 #[U2 ⟨(bT leaf l).1.toArray⟩,U5 By (bT leaf l).2])/\i7 w w':=by
 have O0:=xh<|i6 w (WF #[U6 leaf,U3 A n c] 118);have B0:=xh<|aF.new w 118 #[U6 leaf,U3 A n c];have S0:=xh<|S.below O0.o;have x0:=B0.ap 0;have x1:=B0.ap 1;have hl:=S.1;rw[nm]at hl
 by_cases hc:leaf=false/\0<n
 .obtain⟨rfl,h0⟩:=hc;obtain⟨e,r,rfl⟩:∃e r,l=e::r:=by
   cases l with
   |nil=>simp at hl;omega
   |cons e r=>exact⟨e,r,rfl⟩
  have KC:=xh (λ(W:YB) (hb:Below (w.alloc (WF #[U6 false,U3 A n c] 118)).heap.size (w.alloc (WF #[U6 false,U3 A n c] 118)) W)=>Nd.PN (S0.o.below hb) (by omega) h0);have KP:=xh (λ(W:YB) (g c1:Nat) (h:aM W 111 3 (U3 (lc g) n c1) n (aJ (blank false (e::r))))=>Nd.CY (w:=W) false (some ⟨g,0,none⟩) n c1 (blank false (e::r)) (Nd.aM.aJ h).2 hn);unfold bT;generalize aZ false (blank false (e::r))=R at *
  have h0I:(0:Int)<(n:Int):=by omega
  have HN:=xh h0;clear S hl;unfold bH at *;go_in;go_wp2_with fail;go_call (KC.o _ (Below.refl _ _)) as e2 w1 ⟨g,c1,rfl,S1,aO,hg⟩;have B1:=xh<|B0.o.below aO B0.o.lt;have O1:=xh<|aC O0.o aO;have fF:g≠w.heap.size:=by simp at hg;omega
  obtain⟨rest,BG,hr1,_,hr2⟩:=S1.uD;have y0:=B1.ap 0;have y1:=B1.ap 1;have y2:=B1.o.frozen 1 (by simp);have B2:=xh<|B1.o.cw 1 (U3 (lc g) n c1);have BG2:=BG.aY (p:=⟨w.heap.size,1,none⟩) (by simpa using fF) (U3 (lc g) n c1);have z0:=BG2.ab (i:=0) (v:=U2 e.key) rfl;have z1:=BG2.frozen 0 (by simp[Nd.aJ,E.cells]);have BG3:=BG2.cw 0 (U2 ⟨#[]⟩)
  have S3:=xh (show aM ((w1.setCell ⟨w.heap.size,1,none⟩ (U3 (lc g) n c1)).setCell ⟨g,0,none⟩ (U2 ⟨#[]⟩)) 111 3 (U3 (lc g) n c1) n (aJ (blank false (e::r)))from
   ⟨by have:=S1.1;rw[nm]at this ⊢;simpa [blank]using this,.inr ⟨g,c1,rest,rfl,by simpa [blank,Nd.aJ,E.cells]using BG3,by rw[nm]at hr1 ⊢;simpa [blank]using hr1,hr2⟩⟩)
  have B3:=xh<|B2.o.aY (p:=⟨g,0,none⟩) (by simpa using λh=>fF h.symm) (U2 ⟨#[]⟩);have u1:=B2.ap 1;have v0:=B3.ap 0;have v1:=B3.ap 1;have O3:=xh (show i7 w ((w1.setCell ⟨w.heap.size,1,none⟩ (U3 (lc g) n c1)).setCell ⟨g,0,none⟩ (U2 ⟨#[]⟩))from
   ((ag.aj (S:=[w.heap.size,g]) O1.o).aU (((ag.refl [w.heap.size,g] w1).setCell (by simp) _).setCell (by simp) _) (λx hx _=>hx)).aK (ai _) (λx hx=>by simp at hx hg;omega))
  clear BG BG2 BG3 S1 aO hr1 hr2 hg;go_wp2_with fail;go_call (KP.o _ g c1 S3.o) as e3 w4 ⟨rfl,fo⟩;have O4:=xh<|aC O3.o fo;clear fo;go_wp2;go_ret2;exact aI O4.o
 .have zO:blank leaf l=l:=by
   unfold blank
   split
   .exfalso;refine hc ⟨rfl,?_⟩;simp at hl;omega
   .rfl
  have KP:=xh<|Nd.CY leaf A n c l (Nd.aM.aJ S0.o).2 hn;unfold bT;rw[zO];generalize aZ leaf l=R at *;clear S hl zO;unfold bH at *
  cases leaf
  .obtain rfl:n=0:=by
    by_cases h:0<n
    .exact absurd ⟨rfl,h⟩ hc
    .omega
   clear hc;go_in;go_wp2_with fail;go_call KP.o as e3 w4 ⟨rfl,fo⟩;have O4:=xh<|aC O0.o fo;clear fo;go_wp2;go_ret2;exact aI O4.o
  .clear hc;go_in;go_wp2_with fail;go_call KP.o as e3 w4 ⟨rfl,fo⟩;have O4:=xh<|aC O0.o fo;clear fo;go_wp2;go_ret2;exact aI O4.o
theorem Ll(leaf:Bool)(l:List E):(bT leaf l).1.length<=232:=Nd.zh leaf _
theorem qH{q:QS}(h:TQ w tb I F q n K)(hK:K<=999999999999)(p:Int)(leaf:Bool)(A:Option Addr)(m c:Nat)(l:List E)(S:aM w 111 3 (U3 A m c) m (aJ l))(hm:m<=1000):
  eq prog 127 #[tp tb,p,bH leaf A m c] w λe w'=>e=BY (U5 By (q.db p leaf l).2)/\PQ w' I F (q.db p leaf l).1 n (K+1)/\ag F w w':=by
 have O0:=xh<|i6 w (WF #[U6 leaf,U3 A m c] 118);have B0:=xh<|aF.new w 118 #[U6 leaf,U3 A m c];have x0:=B0.ap 0;have x1:=B0.ap 1;have T0:=xh<|h.below O0.o;have KL:=xh<|Db leaf A m c l (S.below O0.o) hm;have hlen:=Ll leaf l;have KP:=xh (λ(W:YB) (hW:TQ W tb I F q n K) (s:rd) (hs:s.size<=232)=>XZ hW.2 hK p s hs);unfold QS.db
 generalize bT leaf l=R at *;obtain⟨R1,R2⟩:=R;dsimp only at *;obtain⟨s,hs⟩:∃s:rd,s=⟨R1.toArray⟩:=⟨_,rfl⟩;have oq:s.size<=232:=by rw[hs];show R1.toArray.size<=232;simpa using hlen
 have zL:R1=s.data.toList:=by rw[hs]
 rw[zL]at KL ⊢;rw[show(⟨s.data.toList.toArray⟩:rd)=s from rfl]at KL;clear hs zL hlen S h;unfold bH tp at *;unfold pp at KP
 by_cases he:R2=0
 .subst he;rw[i8];go_in;go_wp2_with fail;go_call KL.o as e w1 ⟨rfl,aO⟩;have T1:=xh<|T0.o.below aO;have O1:=xh<|aC O0.o aO;have p0:=T1.o.1.bi 0;unfold pp at p0;clear aO x0 x1;go_wp2_with fail;go_call (KP.o _ T1.o s oq) as e w2 ⟨rfl,P2,o2⟩;have P2:=xh P2;have o2:=xh o2;clear p0;go_wp2;go_ret;exact aI ⟨P2.o,(ag.aj O1.o).trans o2.o⟩
 .rw[if_pos he];have hq:(R2 != 0)=true:=ls he
  have my:(R2==0)=false:=i4 he
  go_in;go_wp2_with fail;go_call KL.o as e w1 ⟨rfl,aO⟩;have T1:=xh<|T0.o.below aO;have O1:=xh<|aC O0.o aO;clear aO x0 x1;go_wp2;go_ret;exact aI ⟨T1.o.2.le (by omega),.aj O1.o⟩
theorem yn{q:QS}(h:TQ w tb I F q n K)(hK:K<=999999999999)(leaf:Bool)(A:Option Addr)(m c:Nat)(l:List E)(S:aM w 111 3 (U3 A m c) m (aJ l))(hm:m<=1000):
  eq prog 131 #[tp tb,bH leaf A m c] w λe w'=>e=BY (U8 #[U5 By (q.eK leaf l).2.1,U5 By (q.eK leaf l).2.2])/\PT w w' I F (q.eK leaf l).1 n (K+1):=by
 have O0:=xh<|i6 w (WF #[U6 leaf,U3 A m c] 118);have B0:=xh<|aF.new w 118 #[U6 leaf,U3 A m c];have x0:=B0.ap 0;have x1:=B0.ap 1;have T0:=xh<|h.below O0.o;have KL:=xh<|Db leaf A m c l (S.below O0.o) hm;have hlen:=Ll leaf l;have KP:=xh (λ(W:YB) (hW:TQ W tb I F q n K) (s:rd) (hs:s.size<=232)=>Cm hW.2 (by omega) s hs);unfold QS.eK
 generalize bT leaf l=R at *;obtain⟨R1,R2⟩:=R;dsimp only at *;obtain⟨s,hs⟩:∃s:rd,s=⟨R1.toArray⟩:=⟨_,rfl⟩;have oq:s.size<=232:=by rw[hs];show R1.toArray.size<=232;simpa using hlen
 have zL:R1=s.data.toList:=by rw[hs]
 rw[zL]at KL ⊢;rw[show(⟨s.data.toList.toArray⟩:rd)=s from rfl]at KL;clear hs zL hlen S h;unfold bH tp at *;unfold pp at KP
 by_cases he:R2=0
 .subst he;rw[i8];go_in;go_wp2_with fail;go_call KL.o as e w1 ⟨rfl,aO⟩;have T1:=xh<|T0.o.below aO;have O1:=xh<|aC O0.o aO;have p0:=T1.o.1.bi 0;unfold pp at p0;clear aO x0 x1;go_wp2_with fail;go_call (KP.o _ T1.o s oq) as e w2 ⟨rfl,P2⟩;have P2:=xh P2;clear p0;go_wp2;go_ret2;obtain⟨F2,a,b,c⟩:=P2.o
  exact aI ⟨F2,a,(ag.aj O1.o).trans b,λg hg=>(c g hg).imp id (λh=>aq O1.o.size h)⟩
 .rw[if_pos he];have hq:(R2 != 0)=true:=ls he
  have my:(R2==0)=false:=i4 he
  go_in;go_wp2_with fail;go_call KL.o as e w1 ⟨rfl,aO⟩;have T1:=xh<|T0.o.below aO;have O1:=xh<|aC O0.o aO;clear aO x0 x1;go_wp2;go_ret2;exact aI (.self (T1.o.2.le (by omega)) (.aj O1.o))
theorem Up(leaf:Bool)(A:Option Addr)(m c:Nat)(l:List E)(S:aM w 111 3 (U3 A m c) m (aJ l))(hm:m<=1000)(b:Bool)(hb:b=decide ((bT leaf l).2=0)):
  eq prog 128 #[bH leaf A m c] w λe w'=>e=BY (U6 b)/\i7 w w':=by
 have O0:=xh<|i6 w (WF #[U6 leaf,U3 A m c] 118);have B0:=xh<|aF.new w 118 #[U6 leaf,U3 A m c];have x0:=B0.ap 0;have x1:=B0.ap 1;have KL:=xh<|Db leaf A m c l (S.below O0.o) hm;generalize bT leaf l=R at *;obtain⟨R1,R2⟩:=R;dsimp only at *;clear S;unfold bH at *
 by_cases he:R2=0
 .subst he;obtain rfl:b=true:=by rw[hb];rfl
  clear hb;go_in;go_wp2_with fail;go_call KL.o as e w1 ⟨rfl,aO⟩;have O1:=xh<|aC O0.o aO;clear aO;go_wp2;go_ret;exact aI O1.o
 .obtain rfl:b=false:=by rw[hb];simpa using he
  have my:(R2==0)=false:=i4 he
  clear hb;go_in;go_wp2_with fail;go_call KL.o as e w1 ⟨rfl,aO⟩;have O1:=xh<|aC O0.o aO;clear aO;go_wp2;go_ret;exact aI O1.o
open Nd (E aJ bH aS aZ et bI bg cG)
attribute [local go_sem ↓] bA
variable{w:YB}
structure Step where
 ao:Int
 leaf:Bool
 l:List E
 at_:Nat
structure SM where
 s:Step
 A:Option Addr
 c:Nat
def SM.v(x:SM):YO:=U3 x.A x.s.l.length x.c
def SM.cells(x:SM):List YO:=[U5 By x.s.ao,U6 x.s.leaf,x.v,U5 By (x.s.at_:Nat)]
structure aX(w:YB)(b:Nat)(v:YO)(L:List SM):Prop where
 s:aM w 120 4 v L.length (L.flatMap SM.cells)
 f:∀g∈ah v,b<=g
 e:∀x∈L,aM w 111 3 x.v x.s.l.length (aJ x.s.l)/\∀g∈ah x.v,b<=g
 d:L.Pairwise λx y=> ∀g∈ah x.v,g∉ah y.v
section
variable{w w':YB}{b:Nat}{v:YO}{L:List SM}{S:List Nat}
theorem aX.only(h:aX w b v L)(o:ag S w w')(hs:∀g∈S,g<b):aX w' b v L:=
 ⟨h.s.only o (λg hg hm=>by have:=h.f g hg;have:=hs g hm;omega),h.f,λx hx=>⟨(h.e x hx).1.only o (λg hg hm=>by have:=(h.e x hx).2 g hg;have:=hs g hm;omega),(h.e x hx).2⟩,h.d⟩
theorem aX.below(h:aX w b v L)(hb:i7 w w'):aX w' b v L:=h.only (S:=[]) (.aj hb) (by simp)
theorem aX.nil(w:YB)(b:Nat):aX w b (U3 none 0 0) []:=⟨aM.nil _ _ _,by simp[ah],by simp,List.Pairwise.nil⟩
end
def Rs:YO->Nat
 |U3 _ n _=>n
 |_=>0
def nZ(key:rd):Nat->QS->Int->List Step->QS×List Step×Int
 |0,q,_,_=>(q,[],14)
 |m+1,q,p,out=>
  if(q.bF p).2.2.2≠0 then((q.bF p).1,[],(q.bF p).2.2.2)
  else if(q.bF p).2.1=true then((q.bF p).1,out++[⟨p,true,(q.bF p).2.2.1,0⟩],0)
  else if(q.bF p).2.2.1=[]then((q.bF p).1,[],14)
  else nZ key m (q.bF p).1 ((q.bF p).2.2.1.getD (bI (q.bF p).2.2.1 key) Nd.E.zero).aY (out++[⟨p,false,(q.bF p).2.2.1,bI (q.bF p).2.2.1 key⟩])
def QS.eP(q:QS)(key:rd):QS×List Step×Int:=nZ key 16 q 0 []
theorem yo{l:List E}(h:l≠[])(key:rd):bI l key<l.length:=by
 have hl:0<l.length:=zT.2 h;unfold bI;have hle:bg l key<=l.length:=p8
 split
 .rename_i hh;unfold cG at hh
  cases hx:l[bg l key]? with
  |none=>rw[hx]at hh;cases hh
  |some e=>exact(aR.1 hx).1
 .omega
theorem lT(q:QS)(p:Int):(q.bF p).2.2.1.length<=57:=by
 unfold QS.bF
 split
 .exact aW _
 .exact Nd.Lf _
theorem tI{e:Int}:wG e=0↔e=0:=by unfold wG;split<;>omega
theorem tJ{q:QS}{p:Int}(h:(q.bF p).2.2.2=0):et (q.bF p).2.2.1 (q.bF p).2.1:=by
 unfold QS.bF at h ⊢
 split at h
 .rename_i h2;exact absurd (tI.1 h) h2
 .rename_i h2;rw[if_neg h2];exact Nd.zi (tI.1 h)
theorem gf(w:YB)(o:Obj):(w.alloc o).heap.size=w.heap.size+1:=by simp
theorem fG:∀L:List SM,(L.flatMap SM.cells).length=L.length*4
 |[]=>rfl
 |x::L=>by rw[im,aT,fG L];simp[SM.cells];omega
theorem tK:∀{L:List SM} {k:Nat} {x:SM},L[k]?=some x->∀j,j<4->(L.flatMap SM.cells)[k*4+j]?=x.cells[j]?
 |[],_,_,h,_,_=>by simp at h
 |y::L,0,x,h,j,hj=>by
  simp only[uz,Option.some.injEq]at h;subst h;rw[im,bE (by simp[SM.cells];omega),qh,bq]
 |y::L,k+1,x,h,j,hj=>by
  rw[rk]at h;rw[im,dQ (by simp[SM.cells];omega),show(k+1)*4+j-y.cells.length=k*4+j by simp[SM.cells];omega];exact tK h j hj
theorem Uq:(prog.info? 120).map (λi=>(i.zero,i.size,i.bytes))=some (some (.agg #[U5 By 0,U6 false,U3 none 0 0,U5 By 0]),4,48):=by kernel_rfl
theorem Dc{v:YO}{m:Nat}{L:List YO}(S:aM w 120 4 v m L)(cs:List YO)(Wl:cs.length=4)(h1:∀u∈cs,u.oneCell'=true)(hm:m<=100):
  ∃v' w',dF prog 114 114 (w.alloc (WF cs.toArray 120)) v (U3 (lc w.heap.size) 1 1)= .ok v' w'/\aM w' 120 4 v' (m+1) (L++cs)/\ag (ah v) w w'/\(∀g∈ah v',g∈ah v\/w.heap.size<=g):=by
 obtain⟨i0,hi,lz,jK,kl⟩:=info_parts Uq;obtain⟨v',w',h1,h2,h3,h4⟩:=dE (P:=prog) (S.alloc (WF cs.toArray 120)) 114 114 i0 _ 48 underlying114 hi lz jK kl rfl (by omega)
  ⟨w.heap.size,0,none⟩ 1 1 cs (by rw[Wl]) (bm (aF.new w 120 cs.toArray) 0 _ (by simp)) h1 (by unfold maxLen;omega) (by omega)
 exact⟨v',w',h1,h2,((ag.refl _ _).alloc _).aU h3 (λx hx _=>hx),λg hg=>(h4 g hg).imp id (λh=>by simp at h;omega)⟩
theorem aX.push{w':YB}{b:Nat}{v v':YO}{L:List SM}(h:aX w b v L)(x:SM)(S':aM w' 120 4 v' (L.length+1) (L.flatMap SM.cells++x.cells))(o:ag (ah v) w w')(f:∀g∈ah v',g∈ah v\/w.heap.size<=g)(hb:b<=w.heap.size)
 (hx:aM w 111 3 x.v x.s.l.length (aJ x.s.l))(hf:∀g∈ah x.v,b<=g)(hn:∀y∈L,∀g∈ah y.v,g∉ah x.v):aX w' b v' (L++[x]):=by
 have pf:∀y:SM,aM w 111 3 y.v y.s.l.length (aJ y.s.l)->aM w' 111 3 y.v y.s.l.length (aJ y.s.l):=λy hy=>hy.only o (nE hy h.s (by decide));refine⟨by rw[aT,uy];simpa using S',λg hg=>(f g hg).elim (h.f g) (λh=>by omega),λy hy=>?_,?_⟩
 .rcases ay.1 hy with hy|hy
  .exact⟨pf y (h.e y hy).1,(h.e y hy).2⟩
  .rw[az.1 hy];exact⟨pf x hx,hf⟩
 .rw[eB];exact⟨h.d,GX _ _,λy hy z hz=>by rw[az.1 hz];exact hn y hy⟩
theorem Dd{tb:Nat}{I:Ix}{F:List Nat}{q:QS}{n K:Nat}(h:TQ w tb I F q n K)(hK:K<=999999999900)(key:rd):
  eq prog 63 #[tp tb,U2 key] w λe w'=> ∃v L,e=BY (U8 #[v,U5 By (q.eP key).2.2])/\aX w' w.heap.size v L/\L.map SM.s=(q.eP key).2.1/\PQ w' I F (q.eP key).1 n (K+16)/\ag F w w':=by
 have KR:=xh (λ(W:YB) (qj:QS) (kj:Nat) (hW:TQ W tb I F qj n kj) (hk:kj<=999999999999) (p:Int)=>pH hW hk p);have HT:=xh h;have rC:=xh h.lt;have HNE:=xh h.ne;obtain⟨R,hR⟩:∃R,q.eP key=R:=⟨_,rfl⟩;rw[hR];unfold QS.eP at hR;have HR:=xh hR;clear h hR;unfold tp bH at *;go_in;go_wp2_with fail
 go_step3
 go_wp2_with fail
 go_step3
 go_wp2_with fail
 go_loopw [6,7] (λov pv wr=> ∃(i:Nat) (L:List SM) (p:Int) (qi:QS),i<=16/\L.length=i/\pv=U5 By p/\aM wr 120 4 ov i (L.flatMap SM.cells)/\(∀x∈L,x.s.leaf=false)/\Hid (nZ key (16-i) qi p (L.map SM.s)=R)/\Hid (aX wr w.heap.size ov L/\TQ wr tb I F qi n (K+i)/\ag F w wr)) (λov _ _=>16-Rs ov)
 case atStart=>exact⟨0,[],0,q,by omega,rfl,rfl,aM.nil _ _ _,by simp,HR,xh ⟨.nil _ _,HT.o,ag.refl _ _⟩⟩
 case round=>
  obtain⟨i,L,p,qi,hi,hl,rfl,S1,rJ,HW,HA⟩:=hrel;obtain⟨VA,vc,rfl⟩:=ax S1
  by_cases h16:i<16
  .have h16I:(i:Int)<16:=by omega
   have K1:=xh<|KR.o wr qi (K+i) HA.o.2.1 (by omega) p;have gq:=tJ (q:=qi) (p:=p);have hlen:=lT qi p;have HW:=HW.o;rw[show 16-i=(16-(i+1))+1 by omega]at HW;unfold nZ at HW;generalize qi.bF p=r at *;obtain⟨q1,leaf,l,er⟩:=r;dsimp only at *;have HW:=xh HW;have HLF:=xh rJ;have HL:=xh hl;clear hl rJ S1;go_wp2_with fail;go_call K1.o as e w2 ⟨A,c,rfl,S2,f2,P2,o2⟩
   have H2:=xh (show aX w2 w.heap.size (U3 VA i vc) L/\TQ w2 tb I F q1 n (K+(i+1))/\ag F w w2/\aM w2 111 3 (U3 A l.length c) l.length (aJ l)/\(∀g∈ah (U3 A l.length c),wr.heap.size<=g)/\wr.heap.size<=w2.heap.size from
    ⟨HA.o.1.only o2 (λg hg=>rC.o g (bK _ hg)),HA.o.2.1.next o2 P2,HA.o.2.2.trans o2,S2,f2,o2.size⟩)
   have HX:=g9 (∀y∈L,∀g∈ah y.v,g∉ah (U3 A l.length c)) (λy hy g hg hm=>by have h1:=f2 g hm;have h2:=((HA.o.1.e y hy).1).lt g hg;omega);clear S2 f2 P2 o2;have b3:=aF.new w2 118 #[U6 leaf,U3 A l.length c];have dk:=i6 w2 (WF #[U6 leaf,U3 A l.length c] 118)
   by_cases he:er=0
   .subst he;have HM:=xh<|gq rfl;clear gq;have b4:=aF.new (w2.alloc (WF #[U6 leaf,U3 A l.length c] 118)) 120 #[p,U6 leaf,U3 A l.length c,U5 By 0];have b34:=b3.alloc (WF #[p,U6 leaf,U3 A l.length c,U5 By 0] 120);rw[gf]at b4;have fo:=ae dk (WF #[p,U6 leaf,U3 A l.length c,U5 By 0] 120);have m0:=b3.bi 0;have m1:=b3.bi 1;have n0:=b34.bi 0
    have n1:=b34.bi 1;have k0:=b4.bi 0;have k1:=b4.bi 1;have k2:=b4.bi 2;have k3:=b4.bi 3;have H4:=xh<|io b34 (io b4 fo)
    cases leaf
    .have HW:=HW.o;rw[i8,i8]at HW
     by_cases h0:l=[]
     .rw[if_pos h0]at HW;subst HW;have h0l:l.length=0:=by rw[h0];rfl
      have H5:=g9 (PQ _ I F q1 n (K+(i+1))/\ag F w _) ⟨H2.o.2.1.2.below fo,H2.o.2.2.1.trans (.aj fo)⟩;rw[h0l]at H5;clear b3 b4 b34 dk fo h0;go_wp2_with fail;rw[Exit.noGoto_ret];go_ret2;exact⟨U3 none 0 0,[],by first|rfl|simp,.nil _ _,rfl,H5.o.1.le (by omega),H5.o.2⟩
     .rw[if_neg h0]at HW;have HW:=xh HW;have zO:=yo h0 key;have KB:=xh<|Nd.C9 false A l.length c l key (Nd.aM.aJ (H2.o.2.2.2.1.below fo)).2 (by omega) HM.o;unfold bH at KB;obtain⟨ex,hex⟩:∃ex,l[bI l key]?=some ex:=⟨_,aH zO⟩;have hfar:(l.getD (bI l key) Nd.E.zero).aY=ex.aY:=by rw[iq,hex];rfl
      have HFAR:=xh hfar;have HBL:=xh zO;generalize bI l key=at_ at *;have JE:¬l.length=0:=by omega
      have hl1:((l.length:Nat):Int)≠0:=by omega
      go_wp2_with fail;go_call KB.o as e w5 ⟨rfl,mK⟩;have N5:=xh<|H4.o.1.below mK H4.o.1.lt;have B5:=xh<|H4.o.2.1.below mK H4.o.2.1.lt;have O5:=xh<|aC H4.o.2.2 mK;have v3:=B5.ap 3;have z3:=B5.o.frozen 3 (by simp);have B6:=xh<|B5.o.cw 3 (at_:Nat);have N6:=xh<|N5.o.aY (p:=⟨w2.heap.size+1,3,none⟩) (by show w2.heap.size≠w2.heap.size+1;omega) (at_:Nat)
      have O6:=g9 (i7 w2 (w5.setCell ⟨w2.heap.size+1,3,none⟩ (at_:Nat))) (((ag.aj (S:=[w2.heap.size+1]) O5.o).trans ((ag.refl _ _).setCell (by simp) _)).aK (ai _) (λx hx=>by simp at hx;omega));have SA:=H2.o.1.below O6.o;have hvlt:∀g∈ah (U3 VA i vc),g<w2.heap.size:=H2.o.1.s.lt
      obtain⟨v',w7,ea,S7,oa,fa⟩:=Dc SA.s [p,U6 false,U3 A l.length c,(at_:Nat)] rfl (by simp;exact⟨rfl,rfl,rfl,rfl⟩) (by rw[HL.o];omega);rw[HL.o]at S7;have H7:=xh (show aX w7 w.heap.size v' (L++[⟨⟨p,false,l,at_⟩,A,c⟩])/\TQ w7 tb I F q1 n (K+(i+1))/\ag F w w7 from
       ⟨SA.push ⟨⟨p,false,l,at_⟩,A,c⟩ (by rw[HL.o];exact S7) oa (λg hg=>(fa g hg).imp id (λh=>h)) (by have:=H2.o.2.2.1.size;have:=O6.o.size;omega) (H2.o.2.2.2.1.below O6.o) (λg hg=>aq HA.o.2.2.size (H2.o.2.2.2.2.1 g hg)) HX.o,
        (H2.o.2.1.below O6.o).only oa (λg hF hg=>by have:=SA.f g hg;have:=rC.o g hF;omega),
        (H2.o.2.2.1.trans (.aj O6.o)).aU oa (λg hg ef=>by have:=SA.f g hg;omega)⟩)
      have u1:=B6.ap 0;have u2:=B6.ap 1;have u3:=B6.ap 2;have u4':=B6.ap 3;have y1:=(N6.o.only oa (λhg=>by have:=hvlt _ hg;omega)).ab (i:=1) rfl;have y3:=(B6.o.only oa (λhg=>by have:=hvlt _ hg;omega)).ab (i:=3) rfl;obtain⟨ga,ca,zk,Eh,BA,_,_⟩:=(H2.o.2.2.2.1.below O6.o).form (by omega) (by omega);have SE:=(Nd.aM.aJ (H7.o.1.e ⟨⟨p,false,l,at_⟩,A,c⟩ (by simp)).1).2
      obtain⟨ad,yp,gJ⟩:=SE.2 at_ ex hex;injection Eh with e1 e2 e3
      subst e1 e3;injection yp with yp
      subst yp;rw[Nd.iN,bq]at gJ;have xf:=gJ.c2;dsimp only at xf;rw[show(w5.setCell ⟨w2.heap.size+1,3,none⟩ (at_:Nat)).heap.size=w5.heap.size from by simp]at ea;have EA:=xh ea;obtain⟨g7,c7,rest7,rfl,B7,hc7,hr7⟩:=S7.form (by omega) (by omega);have S7:=g9 (aM w7 120 4 (U3 (lc g7) (i+1) c7) (i+1) ((L++[(⟨⟨p,false,l,at_⟩,some ⟨ga,0,none⟩,c⟩:SM)]).flatMap SM.cells)) (by rw[uy];simpa [SM.cells,SM.v]using S7)
      have hatI:(at_:Int)<(l.length:Int):=by have:=HBL.o;omega
      clear ea oa fa SA BA SE gJ B7 hr7 b3 b4 b34 dk fo mK hex;go_wp2_with fail;rw[EA.o];go_wp2_with fail;have HW:=HW.o;rw[HFAR.o]at HW;go_roundw
      case rel=>exact⟨i+1,L++[⟨⟨p,false,l,at_⟩,some ⟨ga,0,none⟩,c⟩],ex.aY,q1,by omega,by rw[aT,HL.o];rfl,rfl,S7.o,λx hx=>(ay.1 hx).elim (HLF.o x) (λh=>by rw[az.1 h]),xh (by rw[cX];exact HW),H7⟩
      case measure=>simp[Rs];omega
    .have HW:=HW.o;rw[i8,if_pos rfl]at HW;subst HW;have SA:=H2.o.1.below fo;obtain⟨v',w5,ea,S5,oa,fa⟩:=Dc SA.s [p,U6 true,U3 A l.length c,U5 By 0] rfl (by simp;exact⟨rfl,rfl,rfl,rfl⟩) (by rw[HL.o];omega);rw[HL.o]at S5;rw[gf,gf]at ea;have H5:=xh (show aX w5 w.heap.size v' (L++[⟨⟨p,true,l,0⟩,A,c⟩])/\PQ w5 I F q1 n (K+(i+1))/\ag F w w5 from
      ⟨SA.push ⟨⟨p,true,l,0⟩,A,c⟩ (by rw[HL.o];exact S5) oa (λg hg=>(fa g hg).imp id (λh=>h)) (by have:=H2.o.2.2.1.size;have:=fo.size;omega) (H2.o.2.2.2.1.below fo) (λg hg=>aq HA.o.2.2.size (H2.o.2.2.2.2.1 g hg)) HX.o,
       (H2.o.2.1.2.below fo).only oa (λg hF hg=>by have:=SA.f g hg;have:=rC.o g (bK _ hF);omega),
       (H2.o.2.2.1.trans (.aj fo)).aU oa (λg hg ef=>by have:=SA.f g hg;omega)⟩)
     obtain⟨g5,c5,rest5,rfl,B5,hc5,hr5⟩:=S5.form (by omega) (by omega);have x5:w5.cell? ⟨g5,i*4+1,none⟩=some (U6 true):=B5.ab (by
      rw[cN,cK,dQ (by rw[fG,HL.o];omega),fG,HL.o,show i*4+1-i*4=1 by omega];rfl)
     have EA:=xh ea;have w1':IntKind.i64.wrap (((i+1:Nat):Int)-1)=(i:Int):=by rw[show((i+1:Nat):Int)-1=(i:Int) by omega];exact dl
     have w2':(i:Int)<((i+1:Nat):Int):=by omega
     clear ea S5 oa fa B5 SA b3 b4 b34 dk fo hr5;go_wp2_with fail;rw[EA.o];go_wp2_with fail;rw[Exit.noGoto_ret];go_ret2;exact⟨_,_,by first|rfl|simp,H5.o.1,by rw[cX];rfl,H5.o.2.1.le (by omega),H5.o.2.2⟩
   .have hq:(er != 0)=true:=ls he
    have my:(er==0)=false:=i4 he
    have HW:=HW.o;rw[if_pos he]at HW;subst HW;have H3:=g9 (PQ (w2.alloc (WF #[U6 leaf,U3 A l.length c] 118)) I F q1 n (K+(i+1))/\ag F w (w2.alloc (WF #[U6 leaf,U3 A l.length c] 118))) ⟨H2.o.2.1.2.below dk,H2.o.2.2.1.trans (.aj dk)⟩;clear b3 dk gq;go_wp2_with fail;rw[Exit.noGoto_ret];go_ret2;exact⟨U3 none 0 0,[],by first|rfl|simp,.nil _ _,rfl,H3.o.1.le (by omega),H3.o.2⟩
  .obtain rfl:i=16:=by omega
   have HW:=HW.o;rw[show 16-16=0 by omega]at HW;unfold nZ at HW;subst HW;obtain⟨g5,c5,rest5,hv,B5,hc5,hr5⟩:=S1.form (by omega) (by omega);injection hv with e1 e2 e3
   subst e1 e3;obtain⟨x,hx⟩:∃x,L[15]?=some x:=⟨_,aH (by omega)⟩;have EM:=rJ x (aA hx);have x5:wr.cell? ⟨g5,61,none⟩=some (U6 false):=B5.ab (by
    rw[cN,bE (by rw[fG,hl];omega),show 61=15*4+1 from rfl,tK hx 1 (by omega),<-EM];rfl)
   clear B5 hr5 S1 rJ hl hx EM;go_wp2;go_ret2;exact⟨U3 none 0 0,by first|rfl|simp,[],.nil _ _,rfl,HA.o.2.1.2,HA.o.2.2⟩
end Sh
namespace Sh
open Go.RowKit Pk Dk Pg
open Nd (E aJ bH aS aZ et bI bg cG)
variable{key:rd}{w:YB}{tb n K:Nat}{I:Ix}{F:List Nat}
def QS.eH(q:QS)(x:E):QS×rd×Int:=if x.aY<0 then(q,x.val,0)else((q.eS x.aY).1,⟨(q.eS x.aY).2.2.1.toArray⟩,wG (q.eS x.aY).2.2.2)
def QS.pI(q:QS)(x:E):QS×Int:=if x.aY<0 then(q,0)else((q.oV x.aY).1,wG (q.oV x.aY).2)
def QS.jt(q:QS)(key value:rd):QS×E×Int:=if value.size<=40 then(q,⟨key,value,-1⟩,0)else((q.pB value.data.toList).1,⟨key,⟨#[]⟩,(q.pB value.data.toList).2.1⟩,(q.pB value.data.toList).2.2)
def yq(s:Step):Prop:=et s.l s.leaf/\s.l.length<=57/\(s.leaf=false->s.at_<s.l.length)
theorem Df(key:rd):∀(m:Nat) (q:QS) (p:Int) (out:List Step),(nZ key m q p out).2.2=0->∃pre x,(nZ key m q p out).2.1=out++(pre++[x])/\x.leaf=true/\(∀s∈pre,s.leaf=false)/\(∀s∈pre++[x],yq s)/\pre.length<m
 |0,_,_,_,h=>absurd h (by show(14:Int)≠0;decide)
 |m+1,q,p,out,h=>by
  have hl:=lT q p;unfold nZ at h ⊢
  split at h
  .rename_i h1;exact absurd h h1
  .rename_i h1;have hm:=tJ (q:=q) (p:=p) (by simpa using h1);rw[if_neg h1]
   split at h
   .rename_i h2;rw[if_pos h2];refine⟨[],⟨p,true,(q.bF p).2.2.1,0⟩,rfl,rfl,by simp,λs hs=>?_,by simp⟩;simp at hs;subst hs;rw[h2]at hm;exact⟨hm,hl,λh=>by cases h⟩
   .rename_i h2;rw[if_neg h2]
    split at h
    .exact absurd h (by show(14:Int)≠0;decide)
    .rename_i h3;rw[if_neg h3];obtain⟨pre,x,e1,e2,e3,e4,e5⟩:=Df key m _ _ _ h;have h2:(q.bF p).2.1=false:=by simpa using h2
     refine⟨⟨p,false,(q.bF p).2.2.1,bI (q.bF p).2.2.1 key⟩::pre,x,?_,e2,λs hs=>?_,λs hs=>?_,by simp;omega⟩
     .rw[e1];simp
     .rcases ar.1 hs with rfl|hs
      .rfl
      .exact e3 s hs
     .rcases ar.1 hs with rfl|hs
      .rw[h2]at hm;exact⟨hm,hl,λ_=>yo h3 key⟩
      .exact e4 s hs
theorem PO{q:QS}(h:(q.eP key).2.2=0):∃pre x,(q.eP key).2.1=pre++[x]/\x.leaf=true/\(∀s∈pre,s.leaf=false)/\(∀s∈pre++[x],yq s)/\pre.length<16:=by
 obtain⟨pre,x,e1,e2⟩:=Df key 16 q 0 [] h;exact⟨pre,x,e1,e2⟩
theorem TQ.drew{q:QS}(h:TQ w tb I F q n K):TQ w.drew tb I F q n K:=⟨h.1.drew,h.2.drew⟩
theorem uV{q:QS}(h:TQ w tb I F q n K)(hK:K<=999999999900)(x:E):
  eq prog 62 #[tp tb,x.agg] w λe w'=>e=BY (U8 #[U2 (q.eH x).2.1,U5 By (q.eH x).2.2])/\PQ w' I F (q.eH x).1 n (K+5)/\ag F w w':=by
 have O0:=xh<|i6 w (WF #[U2 x.key,U2 x.val,x.aY] 111);have B0:=xh<|aF.new w 111 #[U2 x.key,U2 x.val,x.aY];have T0:=xh<|h.below O0.o;have x1:=B0.ap 1;have x2:=B0.ap 2;have p0:=T0.o.1.bi 0;have S0:=xh<|io p0 x2;have NB:=g9 (w.heap.size∉F) (λhm=>by have:=h.2.lt _ hm;omega)
 have KW:=xh (λ(W:YB) (hW:TQ W tb I F q n K)=>X4 hW.2 hK x.aY);have KB:=xh Da;unfold QS.eH;generalize q.eS x.aY=R at *;obtain⟨q1,l1,b1,e1⟩:=R;dsimp only at *;clear h;unfold tp E.agg at *;unfold pp at KW p0 S0
 by_cases hf:x.aY<0
 .rw[if_pos hf];go_in;go_wp2;go_ret2;exact aI ⟨T0.o.2.le (by omega),.aj O0.o⟩
 .rw[if_neg hf];go_in;go_wp2_with fail;clear p0 x1 x2;refine kw (λW=>W.cell? (lc tb)=some (lc I.pb:li)/\W.cell? ⟨w.heap.size,2,none⟩=some (x.aY:li)) (S0.o) (λau=>?_);refine dP [(0,14),(1,15),(2,16),(3,17),(4,18),(5,19)] ?_
  iterate 6 refine bJ ?_
  refine dI 6 20 λK hK=>?_;go_simp
  go_at_call 111
  go_call (KW.o _ (T0.o.drew)) as e w2 ⟨rfl,P2,o2⟩;have P2:=xh P2;have O2:=xh<|(ag.aj O0.o).drew.trans o2;have S2:=xh<|io ((T0.o.drew.next o2 P2.o).1.ab (i:=0) rfl) ((B0.o.drew.only o2 NB.o).ab (i:=2) rfl);clear o2;go_simp;refine bn hK (S2.o) (λau=>?_);refine dP [(7,13),(8,21),(9,22),(10,6),(11,7)] ?_
  iterate 5 refine bJ ?_
  refine jp ?_ _;go_wp2_with fail;go_call (KB.o _ _) as e w3 ⟨rfl,rfl⟩;go_wp2;go_ret2;exact aI ⟨P2.o,O2.o⟩
theorem FP{q:QS}(h:TQ w tb I F q n K)(hK:K<=999999999900)(x:E):
  eq prog 71 #[tp tb,x.agg] w λe w'=>e=BY (U5 By (q.pI x).2)/\PQ w' I F (q.pI x).1 n (K+5)/\ag F w w':=by
 have O0:=xh<|i6 w (WF #[U2 x.key,U2 x.val,x.aY] 111);have B0:=xh<|aF.new w 111 #[U2 x.key,U2 x.val,x.aY];have T0:=xh<|h.below O0.o;have x1:=B0.ap 1;have x2:=B0.ap 2;have p0:=T0.o.1.bi 0;have S0:=xh<|io p0 x2;have NB:=g9 (w.heap.size∉F) (λhm=>by have:=h.2.lt _ hm;omega)
 have KW:=xh (λ(W:YB) (hW:TQ W tb I F q n K)=>Ua hW.2 hK x.aY);have KB:=xh Da;unfold QS.pI;generalize q.oV x.aY=R at *;obtain⟨q1,e1⟩:=R;dsimp only at *;clear h;unfold tp E.agg at *;unfold pp at KW p0 S0
 by_cases hf:x.aY<0
 .rw[if_pos hf];go_in;go_wp2;go_ret;exact aI ⟨T0.o.2.le (by omega),.aj O0.o⟩
 .rw[if_neg hf];go_in;go_wp2_with fail;clear p0 x1 x2;refine kw (λW=>W.cell? (lc tb)=some (lc I.pb:li)/\W.cell? ⟨w.heap.size,2,none⟩=some (x.aY:li)) (S0.o) (λau=>?_);refine dP [(0,8),(1,9),(2,10),(3,11),(4,12),(5,13)] ?_
  iterate 6 refine bJ ?_
  refine dI 6 14 λK hK=>?_;go_simp
  go_at_call 123
  go_call (KW.o _ (T0.o.drew)) as e w2 ⟨rfl,P2,o2⟩;have P2:=xh P2;have O2:=xh<|(ag.aj O0.o).drew.trans o2;have S2:=xh<|io ((T0.o.drew.next o2 P2.o).1.ab (i:=0) rfl) ((B0.o.drew.only o2 NB.o).ab (i:=2) rfl);clear o2;go_simp;refine bn hK (S2.o) (λau=>?_);refine dI 7 15 λK hK=>?_;go_simp
  go_at_call 112
  go_call (KB.o _ _) as e w3 ⟨rfl,rfl⟩;go_simp;refine bn hK (S2.o) (λau=>?_);refine dP [(8,4)] ?_
  iterate 1 refine bJ ?_
  refine jp ?_ _;go_wp2;go_ret;exact aI ⟨P2.o,O2.o⟩
theorem YA{g:Nat}{a b a' b':rd}{c c':Int}(B:aF w g 111 #[U2 a,U2 b,c]):
  aF (((w.setCell ⟨g,0,none⟩ (U2 a')).setCell ⟨g,1,none⟩ (U2 b')).setCell ⟨g,2,none⟩ c') g 111 #[U2 a',U2 b',c']/\ag [g] w (((w.setCell ⟨g,0,none⟩ (U2 a')).setCell ⟨g,1,none⟩ (U2 b')).setCell ⟨g,2,none⟩ c')/\
   w.cell? (lc g)=some (U2 a)/\w.cell? ⟨g,1,none⟩=some (U2 b)/\w.cell? ⟨g,2,none⟩=some (c:li)/\w.frozen? ⟨g,0,none⟩=false/\w.frozen? ⟨g,1,none⟩=false/\w.frozen? ⟨g,2,none⟩=false:=
 ⟨((B.cw 0 _).cw 1 _).cw 2 _,(((ag.refl _ _).setCell (by simp) _).setCell (by simp) _).setCell (by simp) _,B.ab rfl,B.ab rfl,B.ab rfl,B.frozen 0 (by simp),B.frozen 1 (by simp),B.frozen 2 (by simp)⟩
theorem Ur{q:QS}(h:TQ w tb I F q n K)(hK:K<=999999999900)(key value:rd)(hv:value.size<=1024):
  eq prog 73 #[tp tb,U2 key,U2 value] w λe w'=>e=BY (U8 #[(q.jt key value).2.1.agg,U5 By (q.jt key value).2.2])/\PT w w' I F (q.jt key value).1 n (K+5):=by
 have O0:=xh<|i6 w (WF #[U2 ⟨#[]⟩,U2 ⟨#[]⟩,U5 By 0] 111);have B0:=xh<|aF.new w 111 #[U2 ⟨#[]⟩,U2 ⟨#[]⟩,U5 By 0];have T0:=xh<|h.below O0.o;have p0:=T0.o.1.bi 0;have NB:=g9 (w.heap.size∉F) (λhm=>by have:=h.2.lt _ hm;omega);have KW:=xh<|X6 T0.o.2 value hv hK;have HH:=xh h;unfold QS.jt;generalize q.pB value.data.toList=R at *;obtain⟨q1,l1,e1⟩:=R
 dsimp only at *;clear h;unfold tp E.agg at *;unfold pp at KW p0
 by_cases hs:value.size<=40
 .rw[if_pos hs];have Wo:(value.size:Int)<=40:=by omega
  have B2:=xh<|aF.new w 111 #[U2 key,U2 value,U5 By (-1)];have o2:=xh<|i6 w (WF #[U2 key,U2 value,U5 By (-1)] 111);go_in;go_wp2_with fail;exact bodyPost_ret (Nd.pE rfl rfl B2.o) rfl ⟨rfl,.self ((HH.o.2.below o2.o).le (by omega)) (.aj o2.o)⟩
 .rw[if_neg hs];have Wo:¬(value.size:Int)<=40:=by omega
  go_in;go_wp2_with fail;go_call KW.o as e w1 ⟨rfl,F1,P1,o1,f1⟩;have H1:=xh<|io P1 (io o1 f1);have NB1:=g9 (w.heap.size∉F1) (λhm=>(f1 _ hm).elim NB.o (λh=>by simp at h;omega));obtain⟨B2,o2,c0,c1,c2,z0,z1,z2⟩:=YA (a':=key) (b':=⟨#[]⟩) (c':=l1) (B0.o.only o1 NB.o);have B2:=xh B2;have o2:=xh o2;clear P1 o1 f1 p0;go_wp2_with fail
  exact bodyPost_ret (Nd.pE rfl rfl B2.o) rfl ⟨rfl,F1,H1.o.1.aY o2.o NB1.o,nA (((ag.aj (S:=w.heap.size::F) O0.o).trans (nC H1.o.2.1)).trans (nD o2.o)) (ai _),λg hg=>(H1.o.2.2 g hg).imp id (λh=>by simp at h;omega)⟩
theorem aX.last{b:Nat}{v:YO}{L:List SM}(h:aX w b v L){pre:List Step}{x:Step}(e:L.map SM.s=pre++[x]):∃Lp A c g cc,L=Lp++[⟨x,A,c⟩]/\Lp.map SM.s=pre/\v=U3 (lc g) (pre.length+1) cc/\b<=g/\pre.length+1<=cc/\cc<=maxLen/\
  (∀j,j<4->w.cell? ⟨g,pre.length*4+j,none⟩=(SM.cells ⟨x,A,c⟩)[j]?)/\(∀j,j<4->w.frozen? ⟨g,pre.length*4+j,none⟩=false)/\aM w 111 3 (U3 A x.l.length c) x.l.length (aJ x.l)/\(∀g∈ah (U3 A x.l.length c),b<=g):=by
 obtain⟨Lp,y,rfl⟩:∃Lp y,L=Lp++[y]:=by
  rcases ux L with h0|⟨Lp,y,h0⟩
  .rw[h0]at e;simp at e
  .exact⟨Lp,y,by simpa using h0⟩
 rw[cX,fA,oE]at e;obtain⟨e1,e2⟩:=M6 e rfl;simp only[List.cons.injEq,and_true]at e2;obtain⟨s,A,c⟩:=y;dsimp only at e2;subst e2;have hlen:Lp.length=pre.length:=by rw[<-e1,bM]
 have hS:=h.s;rw[aT,fT,vv,hlen,bq]at hS;obtain⟨g,cc,rest,rfl,B,hc,hr⟩:=hS.form (by omega) (by omega);have hm:cc<=maxLen:=by obtain⟨_,_,_,_,h⟩:=hS.uD;exact h
 have hx:=h.e ⟨s,A,c⟩ (by simp);have oq:((Lp++[(⟨s,A,c⟩:SM)]).flatMap SM.cells).length=pre.length*4+4:=by rw[fG,aT];simp;omega
 refine⟨Lp,A,c,g,cc,rfl,e1,rfl,h.f g (by simp[ah]),hc,hm,λj hj=>?_,λj hj=>B.frozen _ (by simp;rw[<-List.length_flatMap]at *;simp[fG]at *;omega),hx.1,hx.2⟩;rw[B.cell,cN,bE (by rw[oq];omega)];exact tK (by rw[<-hlen,dQ (ai _),fM];rfl) j hj
theorem Dg{l:List E}(h:cG l key=true):∃e,l[bg l key]?=some e:=by
 unfold cG at h
 cases hx:l[bg l key]? with
 |none=>rw[hx]at h;cases h
 |some e=>exact⟨e,rfl⟩
def iV(l:List Step):Step:=l.getLastD ⟨0,false,[],0⟩
def QS.fm(q:QS)(key:rd):QS×rd×Int:=
 if(q.eP key).2.2≠0 then((q.eP key).1,⟨#[]⟩,(q.eP key).2.2)
 else if cG (iV (q.eP key).2.1).l key=true then(q.eP key).1.eH ((iV (q.eP key).2.1).l.getD (bg (iV (q.eP key).2.1).l key) Nd.E.zero)
 else((q.eP key).1,⟨#[]⟩,9)
theorem Us{q:QS}(h:TQ w tb I F q n K)(hK:K<=999999999000)(key:rd):
  eq prog 20 #[tp tb,U2 key] w λe w'=>e=BY (U8 #[U2 (q.fm key).2.1,U5 By (q.fm key).2.2])/\PQ w' I F (q.fm key).1 n (K+21)/\ag F w w':=by
 have KW:=xh<|Dd h (by omega) key;have HT:=xh h;have KV:=xh (λ(W:YB) (qj:QS) (hW:TQ W tb I F qj n (K+16)) (x:E)=>uV hW (by omega) x);have gj:=PO (q:=q) (key:=key);unfold QS.fm;generalize q.eP key=R at *;obtain⟨q1,steps,er⟩:=R;dsimp only at *;clear h;unfold tp at *
 by_cases he:er=0
 .subst he;obtain⟨pre,x,rfl,rJ,Ud,jU,hlen⟩:=gj rfl;rw[i8,show iV (pre++[x])=x from by unfold iV;simp];obtain⟨hm,hl57,_⟩:=jU x (by simp);have hm:=xh hm;clear gj Ud jU rJ;obtain⟨RR,bS⟩:∃RR,(if cG x.l key=true then q1.eH (x.l.getD (bg x.l key) Nd.E.zero)else(q1,⟨#[]⟩,9))=RR:=⟨_,rfl⟩;rw[bS];have fQ:=xh bS;clear bS;go_in;go_wp2_with fail;go_call KW.o as e w1 ⟨v,L,rfl,SA,pJ,P1,o1⟩
  obtain⟨Lp,A,c,g,cc,rfl,mS,rfl,hbg,Ib,vr,iU,VZ,S1,f1⟩:=SA.last pJ;have T1:=xh<|HT.o.next o1 P1;have o1:=xh o1;have S1:=xh S1;have x1:w1.cell? ⟨g,pre.length*4+1,none⟩=some (U6 x.leaf):=iU 1 (by omega);have x2:w1.cell? ⟨g,pre.length*4+1+1,none⟩=some (U3 A x.l.length c):=iU 2 (by omega);have s1:IntKind.i64.wrap (((pre.length+1:Nat):Int)-1)=(pre.length:Int):=by rw[show((pre.length+1:Nat):Int)-1=(pre.length:Int) by omega];exact dl
  have s2:(pre.length:Int)<((pre.length+1:Nat):Int):=by omega
  have iF:=i6 w1 (WF #[U6 x.leaf,U3 A x.l.length c] 118);have B2:=xh<|aF.new w1 118 #[U6 x.leaf,U3 A x.l.length c];have y0:=B2.ap 0;have y1:=B2.ap 1;have S2:=xh<|S1.o.below iF;have KF:=xh<|Nd.yl x.leaf A x.l.length c x.l key (Nd.aM.aJ S2.o).2 (by omega) hm.o;have HAL:=xh iF;unfold bH at KF;clear SA pJ P1 mS iU VZ f1 iF;go_wp2_with fail
  go_call KF.o as e w3 ⟨rfl,dk⟩;have O3:=xh<|aC HAL.o dk;have T3:=xh<|T1.o.below O3.o;have z1:=(B2.o.below dk B2.o.lt).ab (i:=1) rfl;have S3:=xh<|S2.o.below dk;clear x1 x2 y0 y1 dk
  by_cases hh:cG x.l key=true
  .obtain⟨ex,hex⟩:=Dg hh;have YC:x.l.getD (bg x.l key) Nd.E.zero=ex:=by rw[iq,hex];rfl
   have bS:=fQ.o;rw[if_pos hh,YC]at bS;subst bS;generalize cG x.l key=hb at *;subst hh;have rK:bg x.l key<x.l.length:=(aR.1 hex).1;generalize bg x.l key=at_ at *;obtain⟨ad,yp,gJ⟩:=(Nd.aM.aJ S3.o).2.2 at_ ex hex;obtain⟨ga,ca,zk,Eh,_⟩:=S3.o.form (by omega) (by omega);injection Eh with e1 e2 e3
   subst e1 e3;injection yp with yp
   subst yp;rw[Nd.iN,bq]at gJ;have u0:=gJ.c0;have u1:=gJ.c1;have u2:=gJ.c2;dsimp only at u1 u2;have K3:=xh<|KV.o w3 q1 T3.o ex;unfold E.agg at K3;have hflI:(at_:Int)<(x.l.length:Int):=by omega
   clear gJ hex YC;go_wp2_with fail;go_call K3.o as e w4 ⟨rfl,P4,o4⟩;have P4:=xh P4;have O4:=xh<|(o1.o.trans (.aj O3.o)).trans o4;clear o4 u0 u1 u2 z1;go_wp2;go_ret2;exact aI ⟨P4.o,O4.o⟩
  .have hh2:cG x.l key=false:=by simpa using hh
   have bS:=fQ.o;rw[if_neg hh]at bS;subst bS;generalize cG x.l key=hb at *;subst hh2;clear hh;go_wp2;go_ret2;exact aI ⟨T3.o.2.le (by omega),o1.o.trans (.aj O3.o)⟩
 .rw[if_pos he];have hq:(er != 0)=true:=ls he
  have my:(er==0)=false:=i4 he
  clear gj;go_in;go_wp2_with fail;go_call KW.o as e w1 ⟨v,L,rfl,SA,pJ,P1,o1⟩;have P1:=xh P1;have o1:=xh o1;clear SA pJ;go_wp2;go_ret2;exact aI ⟨P1.o.le (by omega),o1.o⟩
open Nd (E aJ bH aS aZ et bI bg cG bR)
variable{w w':YB}{I:Ix}{F:List Nat}{n K K0 tb:Nat}
def keyOf(l:List E):rd:=(l.headD Nd.E.zero).key
def QS.wH(q:QS)(leaf:Bool)(la lb:List E):QS×Int:=
 if(q.eK leaf la).2.2≠0 then((q.eK leaf la).1,(q.eK leaf la).2.2)
 else if((q.eK leaf la).1.eK leaf lb).2.2≠0 then(((q.eK leaf la).1.eK leaf lb).1,((q.eK leaf la).1.eK leaf lb).2.2)
 else((q.eK leaf la).1.eK leaf lb).1.db 0 false [⟨⟨#[]⟩,⟨#[]⟩,(q.eK leaf la).2.1⟩,⟨keyOf lb,⟨#[]⟩,((q.eK leaf la).1.eK leaf lb).2.1⟩]
theorem PT.Sz{q q0:QS}{A:Option Addr}{m c:Nat}{l:List E}(h:PT w w' I F q n K)(P:PQ w I F q0 n K0)(S:aM w 111 3 (U3 A m c) m (aJ l)):aM w' 111 3 (U3 A m c) m (aJ l):=by
 obtain⟨F',_,o,_⟩:=h;exact S.only o (λg hg=>by
  obtain⟨cs,B⟩:=tr S g hg;exact P.fI B)
theorem PT.tq{q q0:QS}(T:TQ w tb I F q0 n K0)(h:PT w w' I F q n K):∃F',TQ w' tb I F' q n K/\ag F w w'/\∀g∈F',g∈F\/w.heap.size<=g:=by
 obtain⟨F',P,o,f⟩:=h;exact⟨F',⟨T.1.only o T.ne,P⟩,o,f⟩
theorem Ut{q:QS}(h:TQ w tb I F q n K)(hK:K<=999999999900)(leaf:Bool)(A1:Option Addr)(m1 c1:Nat)(la:List E)(S1:aM w 111 3 (U3 A1 m1 c1) m1 (aJ la))(A2:Option Addr)(m2 c2:Nat)(lb:List E)(S2:aM w 111 3 (U3 A2 m2 c2) m2 (aJ lb))(BH:m1<=1000)(Bp:m2<=1000)(h0:0<m2):
  eq prog 130 #[tp tb,bH leaf A1 m1 c1,bH leaf A2 m2 c2] w λe w'=>e=BY (U5 By (q.wH leaf la lb).2)/\PT w w' I F (q.wH leaf la lb).1 n (K+3):=by
 have qX:=ae (i6 w (WF #[U6 leaf,U3 A1 m1 c1] 118)) (WF #[U6 leaf,U3 A2 m2 c2] 118);have O0:=xh qX;have B1:=xh<|(aF.new w 118 #[U6 leaf,U3 A1 m1 c1]).alloc (WF #[U6 leaf,U3 A2 m2 c2] 118);have B2:=aF.new (w.alloc (WF #[U6 leaf,U3 A1 m1 c1] 118)) 118 #[U6 leaf,U3 A2 m2 c2];rw[gf]at B2;have B2:=xh B2
 have H0:=xh<|io (h.below qX) (io (S1.below qX) (S2.below qX));have x0:=B1.ap 0;have x1:=B1.ap 1;have KM1:=xh<|yn H0.o.1 (by omega) leaf A1 m1 c1 la H0.o.2.1 BH;have KM2:=xh (λ(W:YB) (F':List Nat) (qj:QS) (hW:TQ W tb I F' qj n (K+1)) (S:aM W 111 3 (U3 A2 m2 c2) m2 (aJ lb))=>yn hW (by omega) leaf A2 m2 c2 lb S Bp)
 have KW:=xh (λ(W:YB) (F':List Nat) (qj:QS) (hW:TQ W tb I F' qj n (K+2)) (g:Nat) (l:List E) (S:aM W 111 3 (U3 (lc g) 2 2) 2 (aJ l))=>qH hW (by omega) 0 false (some ⟨g,0,none⟩) 2 2 l S (by omega));have HL:=g9 (w.heap.size∉F/\w.heap.size+1∉F) ⟨λhm=>by have:=h.2.lt _ hm;omega,λhm=>by have:=h.2.lt _ hm;omega⟩;obtain⟨eb,rb,rfl⟩:∃e r,lb=e::r:=by
  have:=S2.1;rw[nm]at this
  cases lb with
  |nil=>simp at this;omega
  |cons e r=>exact⟨e,r,rfl⟩
 obtain⟨RR,bS⟩:∃RR,q.wH leaf la (eb::rb)=RR:=⟨_,rfl⟩;rw[bS];unfold QS.wH keyOf at bS;generalize q.eK leaf la=R1 at *;obtain⟨q1,l1,e1⟩:=R1;dsimp only[List.headD_cons]at *;have fQ:=xh bS;clear h S1 S2 bS qX;unfold tp bH at *;go_in;go_wp2_with fail;go_call KM1.o as e w1 ⟨rfl,P1⟩;have S21:=xh<|P1.Sz H0.o.1.2 H0.o.2.2;obtain⟨F1,T1,o1,f1⟩:=P1.tq H0.o.1;have B21:=xh<|B2.o.only o1 HL.o.2
 have H1:=xh (show TQ w1 tb I F1 q1 n (K+1)/\ag F w w1/\(∀g∈F1,g∈F\/w.heap.size<=g)/\w.heap.size+1∉F1 from
  ⟨T1,(ag.aj O0.o).trans o1,λg hg=>(f1 g hg).imp id (λh=>by simp at h;omega),λhm=>(f1 _ hm).elim HL.o.2 (λh=>by rw[gf,gf]at h;omega)⟩)
 clear P1 T1 o1 f1 x0 x1
 by_cases VL:e1=0
 .subst VL;have y0:=B21.ap 0;have y1:=B21.ap 1;have K2:=xh<|KM2.o w1 F1 q1 H1.o.1 S21.o;have bS:=fQ.o;rw[i8]at bS;generalize q1.eK leaf (eb::rb)=R2 at *;obtain⟨q2,l2,e2⟩:=R2;dsimp only at *;have fQ:=xh bS;clear bS;go_wp2_with fail;go_call K2.o as e w2 ⟨rfl,P2⟩;have S22:=xh<|P2.Sz H1.o.1.2 S21.o;obtain⟨F2,T2,o2,f2⟩:=P2.tq H1.o.1;have B22:=xh<|B21.o.only o2 H1.o.2.2.2
  have H2:=xh (show TQ w2 tb I F2 q2 n (K+2)/\ag F w w2/\(∀g∈F2,g∈F\/w.heap.size<=g)from
   ⟨T2,H1.o.2.1.aU o2 (λg hg ef=>(H1.o.2.2.1 g hg).elim id (λh=>by omega)),λg hg=>(f2 g hg).elim (H1.o.2.2.1 g) (λh=>by have:=H1.o.2.1.size;omega)⟩)
  clear P2 T2 o2 f2 y0 y1
  by_cases zm:e2=0
  .subst zm;have bS:=fQ.o;rw[i8]at bS;obtain⟨g2,Tn,YD,re,BB2,_,_⟩:=S22.o.form h0 (by omega);simp only[Value.slice.injEq,true_and]at re;obtain⟨rfl,rfl⟩:=re;have z1:=B22.ap 1;have k0:w2.cell? (lc g2)=some (U2 eb.key):=BB2.ab rfl;have iF:=i6 w2 (WF #[U2 ⟨#[]⟩,U2 ⟨#[]⟩,l1,U2 eb.key,U2 ⟨#[]⟩,l2] 111)
   have SN:aM (w2.alloc (WF #[U2 ⟨#[]⟩,U2 ⟨#[]⟩,l1,U2 eb.key,U2 ⟨#[]⟩,l2] 111)) 111 3 (U3 (lc w2.heap.size) 2 2) 2 (aJ [⟨⟨#[]⟩,⟨#[]⟩,l1⟩,⟨eb.key,⟨#[]⟩,l2⟩]):=
    ⟨rfl,.inr ⟨w2.heap.size,2,[],rfl,aF.new w2 _ _,rfl,by unfold maxLen;omega⟩⟩
   have K3:=xh<|KW.o _ F2 q2 (H2.o.1.below iF) w2.heap.size _ SN;have h0I:(0:Int)<(m2:Int):=by omega
   have HAL:=xh iF;clear BB2 iF SN;rw[bS]at K3;clear bS;go_wp2_with fail;go_call K3.o as e w3 ⟨rfl,P3,o3⟩;have H3:=g9 (PT w w3 I F RR.1 n (K+3)) ⟨F2,P3,(H2.o.2.1.trans (.aj HAL.o)).aU o3 (λg hg ef=>(H2.o.2.2 g hg).elim id (λh=>by omega)),H2.o.2.2⟩;clear P3 o3 z1 k0;go_wp2;go_ret;exact aI H3.o
  .have bS:=fQ.o;rw[if_pos zm]at bS;subst bS;have hq:(e2 != 0)=true:=ls zm
   have my:(e2==0)=false:=i4 zm
   go_wp2;go_ret;exact aI ⟨F2,H2.o.1.2.le (by omega),H2.o.2.1,H2.o.2.2⟩
 .have bS:=fQ.o;rw[if_pos VL]at bS;subst bS;have hq:(e1 != 0)=true:=ls VL
  have my:(e1==0)=false:=i4 VL
  go_wp2;go_ret;exact aI ⟨F1,H1.o.1.2.le (by omega),H1.o.2.1,H1.o.2.2.1⟩
variable{g m cc b n K:Nat}{l:List E}{w W W':YB}{F F':List Nat}{I:Ix}{q:QS}
section
variable{w w':YB}{b:Nat}{v:YO}{L:List SM}{I:Ix}{F S:List Nat}{q:QS}{n K:Nat}
theorem aX.off(h:aX w b v L)(P:PQ w I F q n K):(∀g∈ah v,g∉F)/\∀x∈L,∀g∈ah x.v,g∉F:=
 ⟨λg hg=>by
  obtain⟨cs,B⟩:=tr h.s g hg;exact P.fI B,λx hx g hg=>by
  obtain⟨cs,B⟩:=tr (h.e x hx).1 g hg;exact P.fI B⟩
theorem aX.zo(h:aX w b v L)(P:PQ w I F q n K)(o:ag F w w'):aX w' b v L:=
 ⟨h.s.only o (h.off P).1,h.f,λx hx=>⟨(h.e x hx).1.only o ((h.off P).2 x hx),(h.e x hx).2⟩,h.d⟩
theorem aX.cell(h:aX w b (U3 (lc g) m cc) L){k:Nat}{Z:SM}(hz:L[k]?=some Z)(i:Nat)(hi:i<4):w.cell? ⟨g,k*4+i,none⟩=Z.cells[i]?:=by
 obtain⟨rest,B,_⟩:=h.s.uD;have hk:=(aR.1 hz).1;rw[B.cell,cN,bE (by rw[fG];omega)];exact tK hz i hi
theorem aX.tree{tb:Nat}{cs:Array YO}(h:aX w b v L)(B:aF w tb 130 cs):tb∉ah v/\∀x∈L,tb∉ah x.v:=
 ⟨dL h.s B (by decide),λx hx=>dL (h.e x hx).1 B (by decide)⟩
theorem aX.pop{X:SM}(h:aX w b (U3 (lc g) m cc) (L++[X])):aX w b (U3 (lc g) L.length cc) L:=by
 obtain⟨rest,B,h1,_,h2⟩:=h.s.uD;rw[uy,cK]at B;have hl:(L.flatMap SM.cells).length+(([X]:List SM).flatMap SM.cells++rest).length=cc*4:=by
  rw[uy,aT]at h1;rw[aT];omega
 refine⟨⟨by rw[fG],.inr ⟨g,cc,_,rfl,B,hl,h2⟩⟩,λx hx=>h.f x (by simpa [ah]using hx),λx hx=>h.e x (cg _ hx),(eB.1 h.d).1⟩
theorem aX.put{Lp Ls:List SM}{Y:SM}(h:aX w b (U3 (lc g) m cc) (Lp++Y::Ls))(l':List E){A':Option Addr}{c':Nat}(S':aM w' 111 3 (U3 A' l'.length c') l'.length (aJ l'))(o:ag (ah Y.v) w w')
 (f:∀x∈ah (U3 A' l'.length c'),x∈ah Y.v\/w.heap.size<=x)(hbw:b<=w.heap.size):
  aX (w'.setCell ⟨g,Lp.length*4+2,none⟩ (U3 A' l'.length c')) b (U3 (lc g) m cc) (Lp++⟨{Y.s with l:=l'},A',c'⟩::Ls)/\w'.cell? ⟨g,Lp.length*4+2,none⟩=some Y.v/\w'.frozen? ⟨g,Lp.length*4+2,none⟩=false:=by
 obtain⟨rest,B,h1,hm,h2⟩:=h.s.uD;have hY:=h.e Y (by simp);have hgY:g∉ah Y.v:=λhg=>nE hY.1 h.s (by decide) g hg (by simp[ah]);have B':=B.only o hgY;have hlen:(Lp++Y::Ls).length=(Lp++(⟨{Y.s with l:=l'},A',c'⟩:SM)::Ls).length:=by simp
 have rK:(Lp++Y::Ls).flatMap SM.cells=Lp.flatMap SM.cells++(Y.cells++Ls.flatMap SM.cells):=by rw[uy,im]
 have Hv:(((Lp++Y::Ls).flatMap SM.cells++rest).set (Lp.length*4+2) (U3 A' l'.length c'))=(Lp++(⟨{Y.s with l:=l'},A',c'⟩:SM)::Ls).flatMap SM.cells++rest:=by
  rw[rK,cK,qc _ _ (by rw[fG];omega),fG,show Lp.length*4+2-Lp.length*4=2 by omega,uy,im];simp only[cK];rfl
 have hix:Lp.length*4+2<((Lp++Y::Ls).flatMap SM.cells++rest).toArray.size:=by
  have h4:Y.cells.length=4:=rfl;rw[rK];simp only[j9,aT,fG,h4];omega
 have BS:=B'.cw (Lp.length*4+2) (U3 A' l'.length c');rw[sJ,Hv]at BS;have sd:∀Z∈Lp++Ls,∀x∈ah Z.v,x∉ah Y.v:=λZ hZ x hx hy=>by
  have hd:=eB.1 h.d
  rcases ay.1 hZ with hZ|hZ
  .exact hd.2.2 Z hZ Y (by simp) x hx hy
  .exact(eC.1 hd.2.1).1 Z hZ x hy hx
 have lt:∀Z∈Lp++Ls,∀x∈ah Z.v,x<w.heap.size:=λZ hZ=>(h.e Z (by rcases ay.1 hZ with hZ|hZ<;>simp[hZ])).1.lt;have sn:∀Z∈Lp++Ls,∀x∈ah Z.v,x∉ah (U3 A' l'.length c'):=λZ hZ x hx hy=>by
  rcases f x hy with h3|h3
  .exact sd Z hZ x hx h3
  .have:=lt Z hZ x hx;omega
 have og:ag [g] w' (w'.setCell ⟨g,Lp.length*4+2,none⟩ (U3 A' l'.length c')):=(ag.refl _ _).setCell (by simp) _;have pf:∀Z∈Lp++Ls,aM (w'.setCell ⟨g,Lp.length*4+2,none⟩ (U3 A' l'.length c')) 111 3 Z.v Z.s.l.length (aJ Z.s.l)/\∀x∈ah Z.v,b<=x:=λZ hZ=>by
  have hz:=h.e Z (by rcases ay.1 hZ with hZ|hZ<;>simp[hZ]);have s1:=hz.1.only o (sd Z hZ);exact⟨s1.only og (λx hx hg=>dL s1 B' (by decide) (by rw[<-az.1 hg];exact hx)),hz.2⟩
 refine⟨⟨⟨?_,?_⟩,λx hx=>h.f x (by simpa [ah]using hx),λZ hZ=>?_,?_⟩,?_,B'.frozen _ hix⟩
 .rw[<-hlen,fG,<-hlen]
 .rw[<-hlen,hm];refine .inr ⟨g,cc,rest,rfl,BS,?_,h2⟩;rw[fG]at h1 ⊢;rw[<-hlen];exact h1
 .rcases ay.1 hZ with hZ|hZ
  .exact pf Z (cg _ hZ)
  .rcases ar.1 hZ with rfl|hZ
   .exact⟨S'.only og (λx hx hg=>dL S' B' (by decide) (by rw[<-az.1 hg];exact hx)),λx hx=>(f x hx).elim (hY.2 x) (λh=>by omega)⟩
   .exact pf Z (bP _ hZ)
 .have hd:=eB.1 h.d;rw[eB];refine⟨hd.1,eC.2 ⟨λZ hZ x hx hy=>sn Z (bP _ hZ) x hy hx,(eC.1 hd.2.1).2⟩,λZ hZ W hW=>?_⟩
  rcases ar.1 hW with rfl|hW
  .exact sn Z (cg _ hZ)
  .exact hd.2.2 Z hZ W (bK _ hW)
 .refine B'.ab ?_;rw[rK,cN,cK,dQ (by rw[fG];omega),fG,show Lp.length*4+2-Lp.length*4=2 by omega];rfl
end
def fL:Nat->List Step->QS->QS×Int
 |0,_,q=>(q,0)
 |_+1,[],q=>(q,0)
 |m+1,x::up,q=>
  if(q.db x.ao x.leaf x.l).2≠11\/(bT x.leaf x.l).2=0 then q.db x.ao x.leaf x.l
  else match up with
   |[]=>(q.db x.ao x.leaf x.l).1.wH x.leaf (x.l.take (bR x.l)) (x.l.drop (bR x.l))
   |y::up=>
    if((q.db x.ao x.leaf x.l).1.eK x.leaf (x.l.drop (bR x.l))).2.2≠0 then(((q.db x.ao x.leaf x.l).1.eK x.leaf (x.l.drop (bR x.l))).1,((q.db x.ao x.leaf x.l).1.eK x.leaf (x.l.drop (bR x.l))).2.2)
    else if(((q.db x.ao x.leaf x.l).1.eK x.leaf (x.l.drop (bR x.l))).1.db x.ao x.leaf (x.l.take (bR x.l))).2≠0 then((q.db x.ao x.leaf x.l).1.eK x.leaf (x.l.drop (bR x.l))).1.db x.ao x.leaf (x.l.take (bR x.l))
    else fL m ({y with l:=y.l.insertIdx (y.at_+1) ⟨keyOf (x.l.drop (bR x.l)),⟨#[]⟩,((q.db x.ao x.leaf x.l).1.eK x.leaf (x.l.drop (bR x.l))).2.1⟩}::up)
     (((q.db x.ao x.leaf x.l).1.eK x.leaf (x.l.drop (bR x.l))).1.db x.ao x.leaf (x.l.take (bR x.l))).1
def Lm(l:List E):Prop:=l.length<=90/\∀e∈l,e.key.size<=32/\e.val.size<=40
theorem Ln(h:Lm l):Nd.an l<=100000:=by
 obtain⟨h1,h2⟩:=h;have:∀l:List E,(∀e∈l,e.key.size<=32/\e.val.size<=40)->Nd.an l<=79*l.length:=λl h=>by
  induction l with
  |nil=>simp[Nd.an]
  |cons e l ih=>
   have h1:=h e (by simp);have h3:=ih (λx hx=>h x (by simp[hx]));unfold Nd.an at *;simp only[fA,l8,fT];omega
 have:=this l h2;omega
theorem YE{leaf:Bool}(h:(bT leaf l).2≠0)(h2:(bT leaf l).2≠2)(hl:Lm l):2<=l.length:=by
 unfold bT aZ at h h2
 split at h2
 .rename_i hm;rw[if_pos hm]at h
  split at h2
  .rename_i hr;rw[if_pos hr]at h;exact absurd rfl h
  .rename_i hr
   rcases l with _|⟨e,_|⟨e2,r⟩⟩
   .exfalso;apply hr
    cases leaf<;>decide
   .exfalso;apply hr;have hh:=hl.2 e (by simp);rw[Nd.CR];have:Nd.an (blank leaf [e])<=79:=by
     have h0:(⟨#[]⟩:rd).size=0:=rfl
     cases leaf
     .show Nd.an [{e with key:=⟨#[]⟩}]<=79;simp only[Nd.an,fA,oE,l8,List.sum_nil,h0];omega
     .show Nd.an [e]<=79;simp only[Nd.an,fA,oE,l8,List.sum_nil];omega
    omega
   .simp
 .exact absurd rfl h2
def PB(b:Nat)(w w':YB)(I:Ix)(F:List Nat)(q:QS)(n K:Nat):Prop:= ∃F' S,PQ w' I F' q n K/\ag S w w'/\(∀g∈S,g∈F\/b<=g)/\∀g∈F',g∈F\/b<=g
def OB(b:Nat)(w W:YB)(F F':List Nat):Prop:= ∃S,ag S w W/\(∀g∈S,g∈F\/b<=g)/\∀g∈F',g∈F\/b<=g
theorem OB.refl(b:Nat)(w:YB)(F:List Nat):OB b w w F F:=⟨[],ag.refl _ _,by simp,λ_ h=> .inl h⟩
theorem OB.step{F'':List Nat}(h:OB b w W F F')(hb:b<=w.heap.size)(o:ag F' W W')(f:∀g∈F'',g∈F'\/W.heap.size<=g):OB b w W' F F'':=by
 obtain⟨S,a1,a2,a3⟩:=h;refine⟨S++F',(a1.mono (λg hg _=>cg _ hg)).aU o (λg hg _=>bP _ hg),λg hg=>(ay.1 hg).elim (a2 g) (a3 g),λg hg=>(f g hg).elim (a3 g) (λh=> .inr (by have:=a1.size;omega))⟩
theorem OB.own{S:List Nat}(h:OB b w W F F')(o:ag S W W')(f:∀g∈S,b<=g):OB b w W' F F':=by
 obtain⟨T,a1,a2,a3⟩:=h;exact⟨T++S,(a1.mono (λg hg _=>cg _ hg)).aU o (λg hg _=>bP _ hg),λg hg=>(ay.1 hg).elim (a2 g) (λh=> .inr (f g h)),a3⟩
theorem OB.below(h:OB b w W F F')(hb:i7 W W'):OB b w W' F F':=h.own (S:=[]) (.aj hb) (by simp)
theorem OB.pb(h:OB b w W F F')(P:PQ W I F' q n K):PB b w W I F q n K:=by
 obtain⟨S,a1,a2,a3⟩:=h;exact⟨F',S,P,a1,a2,a3⟩
theorem OB.size(h:OB b w W F F'):w.heap.size<=W.heap.size:=by
 obtain⟨S,a1,_⟩:=h;exact a1.size
theorem OB.trans(h:OB b w W F F')(p:PB b W W' I F' q n K):PB b w W' I F q n K:=by
 obtain⟨S,a1,a2,a3⟩:=h;obtain⟨F2,S2,P,b1,b2,b3⟩:=p;refine⟨F2,S++S2,P,(a1.mono (λg hg _=>cg _ hg)).aU b1 (λg hg _=>bP _ hg),λg hg=>(ay.1 hg).elim (a2 g) (λh=>(b2 g h).elim (a3 g) .inr),λg hg=>(b3 g hg).elim (a3 g) .inr⟩
theorem PB.le{K':Nat}(h:PB b w W I F q n K)(hk:K<=K'):PB b w W I F q n K':=by
 obtain⟨F',S,P,r⟩:=h;exact⟨F',S,P.le hk,r⟩
structure Fit(s:Step):Prop where
 l:Lm s.l
 n:s.l.length<=80
 a:s.at_<s.l.length
theorem zp:∀(m:Nat) {w:YB} {tb:Nat} {I:Ix} {F:List Nat} {q:QS} {n Kz b:Nat} {v:YO} {L:List SM} (pre:List Step) (x:Step),pre.length+1<=m->TQ w tb I F q n Kz->Kz+4*m<=999999999900->aX w b v L->b<=w.heap.size->L.map SM.s=pre++[x]->(∀s∈pre,Fit s)->Lm x.l->pre.length<=16->
  eq prog 75 #[tp tb,v] w λe w'=>e=BY (U5 By (fL m (x::pre.reverse) q).2)/\PB b w w' I F (fL m (x::pre.reverse) q).1 n (Kz+4*m)
 |0,_,_,_,_,_,_,_,_,_,_,_,_,h,_,_,_,_,_,_,_,_=>absurd h (by omega)
 |m+1,w,tb,I,F,q,n,Kz,b,v,L,pre,x,hpm,h,YF,SA,hb,pJ,tU,hlx,hp16=>by
  obtain⟨Lp,A,c,g,cc,hL,mS,rfl,hbg,Ib,vr,iU,VZ,S1,f1⟩:=SA.last pJ;have HL:=xh hL;have S1:=xh S1;have HK:=xh YF;have Hz:w.cell? ⟨g,pre.length*4,none⟩=some (x.ao:li):=iU 0 (by omega);have hx1:w.cell? ⟨g,pre.length*4+1,none⟩=some (U6 x.leaf):=iU 1 (by omega);have hx2:w.cell? ⟨g,pre.length*4+2,none⟩=some (U3 A x.l.length c):=iU 2 (by omega);have hx3:w.cell? ⟨g,pre.length*4+3,none⟩=some ((x.at_:Nat):li):=iU 3 (by omega)
  have s1:IntKind.i64.wrap (((pre.length+1:Nat):Int)-1)=(pre.length:Int):=by rw[show((pre.length+1:Nat):Int)-1=(pre.length:Int) by omega];exact dl
  have s2:(pre.length:Int)<((pre.length+1:Nat):Int):=by omega
  have iF:=i6 w (WF #[x.ao,U6 x.leaf,U3 A x.l.length c,(x.at_:Nat)] 120);have BS:=xh<|aF.new w 120 #[x.ao,U6 x.leaf,U3 A x.l.length c,(x.at_:Nat)];have y0:=BS.ap 0;have y1:=BS.ap 1;have y2:=BS.ap 2
  have H1:=g9 (TQ _ tb I F q n Kz/\aX _ b (U3 (lc g) (pre.length+1) cc) L/\aM _ 111 3 (U3 A x.l.length c) x.l.length (aJ x.l)/\OB b w _ F F) ⟨h.below iF,SA.below iF,S1.o.below iF,(OB.refl b w F).below iF⟩
  have KW:=xh (λ(W:YB) (F':List Nat) (qj:QS) (Kj:Nat) (hW:TQ W tb I F' qj n Kj) (hk:Kj<=999999999900) (A:Option Addr) (mm c:Nat) (l:List E) (S:aM W 111 3 (U3 A mm c) mm (aJ l)) (hm:mm<=1000)=>qH hW (by omega) x.ao x.leaf A mm c l S hm);have uU:=xh tU;have HPM:=xh hpm;have YG:=xh hp16;have HPRE:=xh mS;have HLX:=xh hlx;have oy:=hlx.1;obtain⟨RR,bS⟩:∃RR,fL (m+1) (x::pre.reverse) q=RR:=⟨_,rfl⟩;rw[bS];unfold fL at bS
  have fQ:=xh bS;clear bS h SA pJ tU mS hlx iU VZ f1 hL iF;have K1:=xh<|KW.o _ F q Kz H1.o.1 (by omega) A x.l.length c x.l H1.o.2.2.1 (by omega);have hwr:(q.db x.ao x.leaf x.l).2=11->(bT x.leaf x.l).2≠0->2<=x.l.length:=λh1 h2=>YE h2 (λh3=>by unfold QS.db at h1;rw[if_pos h2,h3]at h1;exact absurd h1 (by show(2:Int)≠11;decide)) HLX.o;generalize q.db x.ao x.leaf x.l=R at *;obtain⟨q1,e1⟩:=R;dsimp only at *;have HWR:=xh hwr
  clear hwr;unfold tp bH at *;go_in;go_wp2_with fail;go_call K1.o as e w2 ⟨rfl,P2,o2⟩;have B2:=xh<|BS.o.only o2 (H1.o.1.2.fI BS.o);have H2:=xh (show TQ w2 tb I F q1 n (Kz+1)/\aX w2 b (U3 (lc g) (pre.length+1) cc) L/\aM w2 111 3 (U3 A x.l.length c) x.l.length (aJ x.l)/\OB b w w2 F F from
   ⟨H1.o.1.next o2 P2,H1.o.2.1.zo H1.o.1.2 o2,PT.Sz (.self P2 o2) H1.o.1.2 H1.o.2.2.1,H1.o.2.2.2.step hb o2 (λg hg=> .inl hg)⟩)
  clear P2 o2 y0 y1 y2 Hz hx1 hx2 hx3;have z0:=B2.ap 0;have z1:=B2.ap 1;have z2:=B2.ap 2
  by_cases he:e1=11
  .subst he;obtain⟨bb,vR⟩:∃bb,bb=decide ((bT x.leaf x.l).2=0):=⟨_,rfl⟩;have KF:=xh<|Up (w:=w2) x.leaf A x.l.length c x.l H2.o.2.2.1 (by omega) bb vR;unfold bH at KF;have HBB:=xh vR;clear vR;go_wp2_with fail;go_call KF.o as e w3 ⟨rfl,dk⟩;have B3:=xh<|B2.o.below dk B2.o.lt
   have H3:=g9 (TQ w3 tb I F q1 n (Kz+1)/\aX w3 b (U3 (lc g) (pre.length+1) cc) L/\aM w3 111 3 (U3 A x.l.length c) x.l.length (aJ x.l)/\OB b w w3 F F) ⟨H2.o.1.below dk,H2.o.2.1.below dk,H2.o.2.2.1.below dk,H2.o.2.2.2.below dk⟩;clear dk z0 z1 z2;have z0:=B3.ap 0;have z1:=B3.ap 1;have z2:=B3.ap 2
   cases bb
   .have rK:(bT x.leaf x.l).2≠0:=by have:=HBB.o;simpa using this.symm
    have h2l:=HWR.o (by trivial) rK;have HLT3:=g9 (∀Z∈L,∀g∈ah Z.v,g<w3.heap.size) (λZ hZ=>(H3.o.2.1.e Z hZ).1.lt);have KH:=xh<|Nd.PJ (w:=w3) x.leaf A x.l.length c x.l H3.o.2.2.1 h2l (by omega) (Ln HLX.o);unfold bH at KH;have bS:=fQ.o;rw[if_neg (by simp[rK])]at bS;have fQ:=xh bS;clear bS HWR;go_wp2_with fail;go_call KH.o as e w4 ⟨⟨t,A1,c1,A2,c2,rfl,Ru,SL1,SL2,Ak⟩,fo⟩;obtain rfl:bR x.l=t:=Nd.Rr Ru
    have HF2:=xh Ak;clear Ak;have hb12:1<=bR x.l/\bR x.l<x.l.length:=⟨Ru.1,Ru.2.1⟩;clear Ru;have iF:=ae (i6 w4 (WF #[U6 x.leaf,U3 A1 (bR x.l) c1] 118)) (WF #[U6 x.leaf,U3 A2 (x.l.length-bR x.l) c2] 118);have mK:=aC fo iF;have BA:=xh<|(aF.new w4 118 #[U6 x.leaf,U3 A1 (bR x.l) c1]).alloc (WF #[U6 x.leaf,U3 A2 (x.l.length-bR x.l) c2] 118)
    have bB:=aF.new (w4.alloc (WF #[U6 x.leaf,U3 A1 (bR x.l) c1] 118)) 118 #[U6 x.leaf,U3 A2 (x.l.length-bR x.l) c2];rw[gf]at bB;have BB:=xh bB;have B5:=xh<|B3.o.below mK B3.o.lt
    have H5:=xh (show TQ _ tb I F q1 n (Kz+1)/\aX _ b (U3 (lc g) (pre.length+1) cc) L/\OB b w _ F F/\aM _ 111 3 (U3 A1 (bR x.l) c1) (bR x.l) (aJ (x.l.take (bR x.l)))/\aM _ 111 3 (U3 A2 (x.l.length-bR x.l) c2) (x.l.length-bR x.l) (aJ (x.l.drop (bR x.l)))from
     ⟨H3.o.1.below mK,H3.o.2.1.below mK,H3.o.2.2.2.below mK,SL1.below iF,SL2.below iF⟩)
    have u0:=BA.ap 0;have u1:=BA.ap 1;have v0:=BB.ap 0;have v1:=BB.ap 1;clear z0 z1 z2 bB fo mK iF SL1 SL2 H3 B3;generalize bR x.l=hf at *
    rcases ux pre with rfl|⟨eT,y,hpe⟩
    .have KG:=xh<|Ut H5.o.1 (by omega) x.leaf A1 hf c1 (x.l.take hf) H5.o.2.2.2.1 A2 (x.l.length-hf) c2 (x.l.drop hf) H5.o.2.2.2.2 (by omega) (by omega) (by omega);have bS:=fQ.o;dsimp only[List.reverse_nil]at bS;rw[bS]at KG;unfold bH at KG;clear bS;go_wp2_with fail;go_call KG.o as e w6 ⟨rfl,P6⟩;have P6:=xh P6;clear u0 u1 v0 v1;go_wp2;go_ret;refine⟨by first|rfl|simp,?_⟩;obtain⟨F6,P,o,f⟩:=P6.o
     exact((H5.o.2.2.1.step hb o f).pb P).le (by omega)
    .obtain rfl:pre=eT++[y]:=by simpa using hpe
     clear hpe;have vL:(eT++[y]).length=eT.length+1:=by simp
     have hne1:¬(((eT.length+1+1:Nat):Int)=1):=by omega
     have KM:=xh<|yn H5.o.1 (by omega) x.leaf A2 (x.l.length-hf) c2 (x.l.drop hf) H5.o.2.2.2.2 (by omega);have bS:=fQ.o;rw[List.reverse_append,List.reverse_singleton,vD]at bS;dsimp only at bS;generalize q1.eK x.leaf (x.l.drop hf)=R2 at *;obtain⟨q2,l2,e2⟩:=R2;dsimp only at *;have fQ:=xh bS;unfold bH at KM;clear bS;go_wp2_with fail;go_call KM.o as e w6 ⟨rfl,P6⟩;have SA6:=P6.Sz H5.o.1.2 H5.o.2.2.2.1
     have SB6:=P6.Sz H5.o.1.2 H5.o.2.2.2.2;obtain⟨F6,T6,o6,f6⟩:=P6.tq H5.o.1;have A6:=xh<|BA.o.only o6 (H5.o.1.2.fI BA.o);have B6:=xh<|BB.o.only o6 (H5.o.1.2.fI BB.o);have D6:=xh<|B5.o.only o6 (H5.o.1.2.fI B5.o)
     have H6:=xh (show TQ w6 tb I F6 q2 n (Kz+2)/\aX w6 b (U3 (lc g) ((eT++[y]).length+1) cc) L/\OB b w w6 F F6/\aM w6 111 3 (U3 A1 hf c1) hf (aJ (x.l.take hf))/\aM w6 111 3 (U3 A2 (x.l.length-hf) c2) (x.l.length-hf) (aJ (x.l.drop hf))from
      ⟨T6,H5.o.2.1.zo H5.o.1.2 o6,H5.o.2.2.1.step hb o6 f6,SA6,SB6⟩)
     clear P6 SA6 SB6 T6 o6 f6 u0 u1 v0 v1 BA BB B5
     by_cases zm:e2=0
     .subst zm;have bS:=fQ.o;rw[i8]at bS;have K7:=xh<|KW.o w6 F6 q2 (Kz+2) H6.o.1 (by omega) A1 hf c1 (x.l.take hf) H6.o.2.2.2.1 (by omega);generalize q2.db x.ao x.leaf (x.l.take hf)=R3 at *;obtain⟨q3,e3⟩:=R3;dsimp only at *;have fQ:=xh bS;have z0:=D6.ap 0;have u0:=A6.ap 0;have u1:=A6.ap 1;clear bS;go_wp2_with fail;go_call K7.o as e w7 ⟨rfl,P7,o7⟩
      have B7:=xh<|B6.o.only o7 (H6.o.1.2.fI B6.o);have H7:=xh (show TQ w7 tb I F6 q3 n (Kz+3)/\aX w7 b (U3 (lc g) ((eT++[y]).length+1) cc) L/\OB b w w7 F F6/\aM w7 111 3 (U3 A2 (x.l.length-hf) c2) (x.l.length-hf) (aJ (x.l.drop hf))from
       ⟨H6.o.1.next o7 P7,H6.o.2.1.zo H6.o.1.2 o7,H6.o.2.2.1.step hb o7 (λg hg=> .inl hg),PT.Sz (.self P7 o7) H6.o.1.2 H6.o.2.2.2.2⟩)
      clear P7 o7 z0 u0 u1 A6 B6 D6
      by_cases he3:e3=0
      .subst he3;obtain⟨xg,AY,cY,rfl,PU⟩:∃xg AY cY,Lp=xg++[(⟨y,AY,cY⟩:SM)]/\xg.map SM.s=eT:=by
        have:=HPRE.o
        rcases ux Lp with h0|⟨xg,Y,h0⟩
        .rw[h0]at this;simp at this
        .have h0:Lp=xg++[Y]:=by simpa using h0
         rw[h0,cX]at this;obtain⟨a1,a2⟩:=M6 this rfl;obtain⟨ys,AY,cY⟩:=Y;simp at a2;subst a2;exact⟨xg,AY,cY,h0,a1⟩
       have hLL:xg.length=eT.length:=by rw[<-PU,bM]
       have xe:=xh hLL;have HMP:=xh PU;have hHL:=HL.o;rw[cK,vD]at hHL;have hfy:=uU.o y (by simp);have hya:=hfy.a;have hyn:=hfy.n;have HFY:=xh hfy;obtain⟨eb,rb,Km⟩:∃eb rb,x.l.drop hf=eb::rb:=by
        cases hd:x.l.drop hf with
        |nil=>have:=congrArg List.length hd;rw[ev]at this;simp at this;omega
        |cons e r=>exact⟨e,r,rfl⟩
       obtain⟨g2,Tn,YD,re,BB2,_,_⟩:=H7.o.2.2.2.form (by omega) (by omega);simp only[Value.slice.injEq,true_and]at re;obtain⟨rfl,rfl⟩:=re;rw[Km]at BB2;have bS:=fQ.o;rw[i8,Km]at bS;have fQ:=xh bS
       have H8:=xh (show TQ w7.drew tb I F6 q3 n (Kz+3)/\aX w7.drew b (U3 (lc g) ((eT++[y]).length+1) cc) (xg++⟨y,AY,cY⟩::[⟨x,A,c⟩])/\OB b w w7.drew F F6/\aF w7.drew (w4.heap.size+1) 118 #[U6 x.leaf,U3 (lc g2) (x.l.length-hf) c2]/\aF w7.drew g2 111 (aJ (eb::rb)++YD).toArray from
        ⟨H7.o.1.drew,by have:=H7.o.2.1;rw[hHL]at this;exact this.below (Below.refl _ _).drew,H7.o.2.2.1.below (Below.refl _ _).drew,B7.o.drew,BB2.drew⟩)
       have HB8:=g9 (b<=w7.drew.heap.size) (by have:=H7.o.2.2.1.size;show b<=w7.heap.size;omega);have HNY:=g9 (g2∉ah (U3 AY y.l.length cY)) (λhm=>by have h1:=HF2.o g2 (by simp[ah]);have h2:=HLT3.o ⟨y,AY,cY⟩ (by rw[hHL];simp) g2 hm;omega);generalize w4.heap.size+1=gB at *;have s3:IntKind.i64.wrap (((eT.length+1+1:Nat):Int)-2)=(eT.length:Int):=by rw[show((eT.length+1+1:Nat):Int)-2=(eT.length:Int) by omega];exact dl
       have s4:(eT.length:Int)<((eT.length+1+1:Nat):Int):=by omega
       have s5:IntKind.i64.wrap ((y.at_:Int)+1)=((y.at_+1:Nat):Int):=by rw[show(y.at_:Int)+1=((y.at_+1:Nat):Int) by omega];exact dl
       have s7:0<x.l.length-hf:=by omega
       have s6:(0:Int)<((x.l.length-hf:Nat):Int):=by omega
       have HDR:=xh Km;clear BB2 Km bS H7 hHL PU hLL hfy;go_wp2_with fail;obtain⟨w8,PV⟩:∃w8,w7.drew=w8:=⟨_,rfl⟩;rw[PV]at H8 HB8;have HS:=xh (show ∀W,i7 w8 W->(λW=>W.cell? ⟨g,eT.length*4+3,none⟩=some ((y.at_:Nat):li)/\W.cell? ⟨gB,1,none⟩=some (U3 (lc g2) (x.l.length-hf) c2)/\W.cell? (lc g2)=some (U2 eb.key)) W from λW hb=>by
        have h1:=(H8.o.2.1.below hb).cell (k:=xg.length) (Z:=⟨y,AY,cY⟩) (by rw[dQ (ai _),fM];rfl) 3 (by omega);rw[xe.o]at h1;exact⟨h1,(H8.o.2.2.2.1.below hb H8.o.2.2.2.1.lt).ab (i:=1) rfl,(H8.o.2.2.2.2.below hb H8.o.2.2.2.2.lt).ab (i:=0) rfl⟩)
       have KS8:=xh<|HS.o w8 (Below.refl _ _);have x8:w8.cell? ⟨g,eT.length*4+2,none⟩=some (U3 AY y.l.length cY):=by
        have h1:=H8.o.2.1.cell (k:=xg.length) (Z:=⟨y,AY,cY⟩) (by rw[dQ (ai _),fM];rfl) 2 (by omega);rw[xe.o]at h1;exact h1
       obtain⟨w9,hw9⟩:∃w9,w8.alloc (WF #[U2 eb.key,U2 ⟨#[]⟩,l2] 111)=w9:=⟨_,rfl⟩;have mU:i7 w8 w9:=by rw[<-hw9];exact i6 _ _
       have BN9:aF w9 w8.heap.size 111 #[U2 eb.key,U2 ⟨#[]⟩,l2]:=by rw[<-hw9];exact aF.new _ _ _
       have BZ9:w9.frozen? ⟨w8.heap.size,3,none⟩=false:=by rw[<-hw9];exact World.frozen?_alloc_at (w:=w8) _ _ w8.heap.size 3 rfl
       have KS9:=xh<|HS.o w9 mU;have x9:w9.cell? ⟨g,eT.length*4+2,none⟩=some (U3 AY y.l.length cY):=(mU.cell (p:=⟨g,eT.length*4+2,none⟩) (cZ x8)).trans x8;have H9:=xh (show TQ w9 tb I F6 q3 n (Kz+3)/\aX w9 b (U3 (lc g) ((eT++[y]).length+1) cc) (xg++⟨y,AY,cY⟩::[⟨x,A,c⟩])/\OB b w w9 F F6/\aF w9 gB 118 #[U6 x.leaf,U3 (lc g2) (x.l.length-hf) c2]/\aF w9 g2 111 (aJ (eb::rb)++YD).toArray from
        ⟨H8.o.1.below mU,H8.o.2.1.below mU,H8.o.2.2.1.below mU,H8.o.2.2.2.1.below mU H8.o.2.2.2.1.lt,H8.o.2.2.2.2.below mU H8.o.2.2.2.2.lt⟩)
       have HB9:=g9 (b<=w9.heap.size) (aq HB8.o mU.size);have PW:=xh (show(y.l.insertIdx (y.at_+1) (⟨eb.key,⟨#[]⟩,l2⟩:E)).length=y.l.length+1 from by rw[zS,g8]);have SY:=H9.o.2.1.e ⟨y,AY,cY⟩ (by simp)
       have KI:=xh<|Nd.zj (w:=w9) SY.1 ⟨eb.key,⟨#[]⟩,l2⟩ (g2:=w8.heap.size) (cc:=1) BN9 (show y.l.length<=100000 by omega) (λhm=>by have:=(H8.o.2.1.e ⟨y,AY,cY⟩ (by simp)).1.lt _ hm;omega) (y.at_+1) (show y.at_+1<=y.l.length by omega) BZ9
       have Bu:=xh (show ∀W,ag (ah (U3 AY y.l.length cY)) w9 W->(λW=>W.cell? ⟨g,eT.length*4+3,none⟩=some ((y.at_:Nat):li)/\W.cell? ⟨gB,1,none⟩=some (U3 (lc g2) (x.l.length-hf) c2)/\W.cell? (lc g2)=some (U2 eb.key)) W from λW o=>by
        have hgY:g∉ah (U3 AY y.l.length cY):=λhm=>nE SY.1 H9.o.2.1.s (by decide) g hm (by simp[ah]);obtain⟨k1,k2,k3⟩:=KS9.o;exact⟨(o.cell (p:=⟨g,eT.length*4+3,none⟩) (cZ k1) hgY).trans k1,(H9.o.2.2.2.1.only o (dL SY.1 H9.o.2.2.2.1 (by decide))).ab (i:=1) rfl,(H9.o.2.2.2.2.only o HNY.o).ab (i:=0) rfl⟩)
       clear SY BN9 BZ9 mU;refine kw (λW=>W.cell? ⟨g,eT.length*4+3,none⟩=some ((y.at_:Nat):li)/\W.cell? ⟨gB,1,none⟩=some (U3 (lc g2) (x.l.length-hf) c2)/\W.cell? (lc g2)=some (U2 eb.key)) (by rw[PV];exact KS8.o) (λau=>?_);rw[PV];clear PV;refine dP [(0,67),(1,68),(2,69),(3,70),(4,71),(6,73),(7,74),(8,75),(9,76),(10,77),(11,78),(12,79),(13,80),(14,81),(15,82),(16,83),(17,84)] ?_
       iterate 17 refine bJ ?_
       refine wpAnyH_ready (rs:=[5,18]) (by kernel_rfl) (by simp) ?_;refine AllReadyH.cons (o:=⟨some 72,_,_,_,_,_⟩) rfl (λK hK=>?_) (AllReadyH.cons (o:=⟨some 85,_,_,_,_,_⟩) rfl (λK hK=>?_) AllReadyH.nil)
       focus
        go_simp;refine bn hK (KS8.o) (λau=>?_);refine dI 18 85 λK hK=>?_;go_simp;refine bn hK (KS9.o) (λau=>?_);refine dI 19 86 λK hK=>?_;go_simp
        go_at_call 74
        go_call KI.o as e zb ⟨A',c',rfl,Ex,wI,f10⟩;have Ex:=xh Ex;have wI:=xh wI;have f10:=xh f10;have PY:=xh<|Bu.o zb wI.o;go_simp;refine bn hK (PY.o) (λau=>?_);refine dP [(20,87),(21,88),(22,89)] ?_
        iterate 3 refine bJ ?_
        refine rm 23 λK hK=>?_;go_simp;obtain⟨SP,sx,sz⟩:=H9.o.2.1.put (y.l.insertIdx (y.at_+1) ⟨eb.key,⟨#[]⟩,l2⟩) (A':=A') (c':=c') (by rw[PW.o];exact Ex.o) wI.o (by rw[PW.o];exact f10.o) HB9.o;rw[xe.o]at SP sx sz;rw[PW.o]at SP;have SP:=xh SP;have sx:zb.cell? ⟨g,eT.length*4+2,none⟩=some (U3 AY y.l.length cY):=sx
        have Iw:=g9 (ag (g::ah (U3 AY y.l.length cY)) w9 (zb.setCell ⟨g,eT.length*4+2,none⟩ (U3 A' (y.l.length+1) c'))) ((wI.o.mono (λx hx _=>bK _ hx)).setCell (by simp) _);have SY9:=(H9.o.2.1.e ⟨y,AY,cY⟩ (by simp)).1;have Lo:=SP.o.cell (k:=xg.length) (Z:=⟨{y with l:=y.l.insertIdx (y.at_+1) ⟨eb.key,⟨#[]⟩,l2⟩},A',c'⟩) (by rw[dQ (ai _),fM];rfl) 3 (by omega);rw[xe.o]at Lo
        have IF:=xh<|io Lo (io (((H9.o.2.2.2.1.only wI.o (dL SY9 H9.o.2.2.2.1 (by decide))).aY (p:=⟨g,eT.length*4+2,none⟩) (λe=>dL H9.o.2.1.s H9.o.2.2.2.1 (by decide) (by simp[ah];exact e)) (U3 A' (y.l.length+1) c')).ab (i:=1) rfl) (((H9.o.2.2.2.2.only wI.o HNY.o).aY (p:=⟨g,eT.length*4+2,none⟩) (λe=>dL H9.o.2.1.s H9.o.2.2.2.2 (by decide) (by simp[ah];exact e)) (U3 A' (y.l.length+1) c')).ab (i:=0) rfl))
        clear SY9 Lo;go_simp;refine bn hK (IF.o) (λau=>?_)
       rotate_left
       focus
        go_simp;refine bn hK (KS9.o) (λau=>?_);refine dI 5 72 λK hK=>?_;go_simp;refine bn hK (KS9.o) (λau=>?_);refine dI 19 86 λK hK=>?_;go_simp
        go_at_call 74
        go_call KI.o as e zb ⟨A',c',rfl,Ex,wI,f10⟩;have Ex:=xh Ex;have wI:=xh wI;have f10:=xh f10;have PY:=xh<|Bu.o zb wI.o;go_simp;refine bn hK (PY.o) (λau=>?_);refine dP [(20,87),(21,88),(22,89)] ?_
        iterate 3 refine bJ ?_
        refine rm 23 λK hK=>?_;go_simp;obtain⟨SP,sx,sz⟩:=H9.o.2.1.put (y.l.insertIdx (y.at_+1) ⟨eb.key,⟨#[]⟩,l2⟩) (A':=A') (c':=c') (by rw[PW.o];exact Ex.o) wI.o (by rw[PW.o];exact f10.o) HB9.o;rw[xe.o]at SP sx sz;rw[PW.o]at SP;have SP:=xh SP;have sx:zb.cell? ⟨g,eT.length*4+2,none⟩=some (U3 AY y.l.length cY):=sx
        have Iw:=g9 (ag (g::ah (U3 AY y.l.length cY)) w9 (zb.setCell ⟨g,eT.length*4+2,none⟩ (U3 A' (y.l.length+1) c'))) ((wI.o.mono (λx hx _=>bK _ hx)).setCell (by simp) _);have SY9:=(H9.o.2.1.e ⟨y,AY,cY⟩ (by simp)).1;have Lo:=SP.o.cell (k:=xg.length) (Z:=⟨{y with l:=y.l.insertIdx (y.at_+1) ⟨eb.key,⟨#[]⟩,l2⟩},A',c'⟩) (by rw[dQ (ai _),fM];rfl) 3 (by omega);rw[xe.o]at Lo
        have IF:=xh<|io Lo (io (((H9.o.2.2.2.1.only wI.o (dL SY9 H9.o.2.2.2.1 (by decide))).aY (p:=⟨g,eT.length*4+2,none⟩) (λe=>dL H9.o.2.1.s H9.o.2.2.2.1 (by decide) (by simp[ah];exact e)) (U3 A' (y.l.length+1) c')).ab (i:=1) rfl) (((H9.o.2.2.2.2.only wI.o HNY.o).aY (p:=⟨g,eT.length*4+2,none⟩) (λe=>dL H9.o.2.1.s H9.o.2.2.2.2 (by decide) (by simp[ah];exact e)) (U3 A' (y.l.length+1) c')).ab (i:=0) rfl))
        clear SY9 Lo;go_simp;refine bn hK (IF.o) (λau=>?_)
       rotate_left
       all_goals
        refine jp ?_ _;go_wp2_with fail;have hT:TQ (zb.setCell ⟨g,eT.length*4+1+1,none⟩ (U3 A' (y.l.length+1) c')) tb I F6 q3 n (Kz+3):=by
         have r7:=H9.o.2.1.off H9.o.1.2;have IG:=H9.o.2.1.tree H9.o.1.1;exact H9.o.1.only Iw.o (λz hz hm=>by
          rcases ar.1 hz with h1|h1<;>rcases ar.1 hm with h2|h2
          .exact IG.1 (by rw[<-h1,h2];simp[ah])
          .exact IG.2 ⟨y,AY,cY⟩ (by simp) (by rw[<-h1];exact h2)
          .exact r7.1 z (by rw[h2];simp[ah]) h1
          .exact r7.2 ⟨y,AY,cY⟩ (by simp) z h2 h1)
        have hO:OB b w (zb.setCell ⟨g,eT.length*4+1+1,none⟩ (U3 A' (y.l.length+1) c')) F F6:=H9.o.2.2.1.own Iw.o (λz hz=>by
         rcases ar.1 hz with h2|h2
         .rw[h2];exact H9.o.2.1.f g (by simp[ah])
         .exact(H9.o.2.1.e ⟨y,AY,cY⟩ (by simp)).2 z h2)
        have hBW:b<=(zb.setCell ⟨g,eT.length*4+1+1,none⟩ (U3 A' (y.l.length+1) c')).heap.size:=aq HB9.o Iw.o.size;have SQ:aX (zb.setCell ⟨g,eT.length*4+1+1,none⟩ (U3 A' (y.l.length+1) c')) b (U3 (lc g) (eT.length+1) cc) (xg++[(⟨{y with l:=y.l.insertIdx (y.at_+1) ⟨eb.key,⟨#[]⟩,l2⟩},A',c'⟩:SM)]):=by
         have h2:=aX.pop (L:=xg++[(⟨{y with l:=y.l.insertIdx (y.at_+1) ⟨eb.key,⟨#[]⟩,l2⟩},A',c'⟩:SM)]) (X:=⟨x,A,c⟩) (by rw[cK,vD];exact SP.o);rw[aT,vx,xe.o]at h2;exact h2
        have Uu:=fQ.o;subst Uu;have hLX:=HLX.o;have hebx:eb∈x.l:=qa (i:=hf) (by rw[HDR.o];simp);have KR:=zp m eT {y with l:=y.l.insertIdx (y.at_+1) ⟨eb.key,⟨#[]⟩,l2⟩} (by have:=HPM.o;rw[aT,vx]at this;omega) hT (by have:=HK.o;omega) SQ hBW (by rw[cX,HMP.o];rfl) (λs hs=>uU.o s (by simp[hs]))
         ⟨by have:=HFY.o.n;show(y.l.insertIdx (y.at_+1) _).length<=90;rw[PW.o];omega,λe he=>by
          rcases(List.mem_insertIdx (by omega)).1 he with rfl|he
          .exact⟨(hLX.2 eb hebx).1,by show(⟨#[]⟩:rd).size<=40;decide⟩
          .exact HFY.o.l.2 e he⟩ (by have:=YG.o;rw[aT,vx]at this;omega)
        go_call KR as e w12 ⟨rfl,P12⟩;have P12:=xh P12;have HO:=xh hO;clear hT hO hBW SQ hLX hebx KR;go_wp2;go_ret;exact⟨by first|rfl|simp[keyOf],(HO.o.trans P12.o).le (by omega)⟩
      .have bS:=fQ.o;rw[if_pos he3]at bS;subst bS;have hq:(e3 != 0)=true:=ls he3
       have my:(e3==0)=false:=i4 he3
       go_wp2;go_ret;exact aI ((H7.o.2.2.1.pb H7.o.1.2).le (by omega))
     .have bS:=fQ.o;rw[if_pos zm]at bS;subst bS;have hq:(e2 != 0)=true:=ls zm
      have my:(e2==0)=false:=i4 zm
      go_wp2;go_ret;exact aI ((H6.o.2.2.1.pb H6.o.1.2).le (by omega))
   .have rK:(bT x.leaf x.l).2=0:=by have:=HBB.o;simpa using this.symm
    have bS:=fQ.o;rw[if_pos (.inr rK)]at bS;subst bS;go_wp2;go_ret;exact aI ((H3.o.2.2.2.pb H3.o.1.2).le (by omega))
  .have hq:(e1 != 11)=true:=ls he
   have my:(e1==11)=false:=i4 he
   have bS:=fQ.o;rw[if_pos (.inl he)]at bS;subst bS;go_wp2;go_ret;exact aI ((H2.o.2.2.2.pb H2.o.1.2).le (by omega))
variable{s:Step}{w:YB}{I:Ix}{F:List Nat}{n:Nat}
theorem pK{l:List E}{leaf:Bool}(h:et l leaf):∀e∈l,e.key.size<=32/\e.val.size<=40:=λe he=>by
 obtain⟨i,hi,rfl⟩:=zU.1 he;have:=(h i hi l[i] (aH hi)).1;exact⟨this.1,this.2.1⟩
theorem yq.light(h:yq s):Lm s.l:=⟨by have:=h.2.1;omega,pK h.1⟩
theorem yq.fit(h:yq s)(hl:s.leaf=false):Fit s:=⟨h.light,by have:=h.2.1;omega,h.2.2 hl⟩
theorem PB.pt{w':YB}{q:QS}{K b:Nat}(hb:w.heap.size<=b)(h:PB b w w' I F q n K):PT w w' I F q n K:=by
 obtain⟨F',S,P,o,f,g⟩:=h;exact⟨F',P,o.mono (λx hx hl=>(f x hx).elim id (λh=>by omega)),λx hx=>(g x hx).imp id (λh=>by omega)⟩
theorem PZ(q:QS)(key value:rd):(q.jt key value).2.1.key=key/\(q.jt key value).2.1.val.size<=40:=by
 unfold QS.jt
 split
 .exact⟨rfl,by assumption⟩
 .exact⟨rfl,aW _⟩
def r8(l:List E)(key:rd):List E:=if cG l key=true then l.eraseIdx (bg l key)else l
def QS.lC(q:QS)(l:List E)(key:rd):QS×Int:=if cG l key=true then q.pI (l.getD (bg l key) Nd.E.zero)else(q,0)
def QS.Uv(q:QS)(key value:rd)(x:Step)(i:Nat)(up:List Step):QS×Int:=
 if(q.jt key value).2.2≠0 then((q.jt key value).1,(q.jt key value).2.2)
 else fL (up.length+1) ({x with l:=x.l.insertIdx i (q.jt key value).2.1}::up) (q.jt key value).1
def QS.gE(q:QS)(key value:rd):QS×Int:=
 if 32<key.size\/1024<value.size then(q,4)
 else if(q.eP key).2.2≠0 then((q.eP key).1,(q.eP key).2.2)
 else if((q.eP key).1.lC (iV (q.eP key).2.1).l key).2≠0 then(q.eP key).1.lC (iV (q.eP key).2.1).l key
 else((q.eP key).1.lC (iV (q.eP key).2.1).l key).1.Uv key value {iV (q.eP key).2.1 with l:=r8 (iV (q.eP key).2.1).l key} (bg (iV (q.eP key).2.1).l key) (q.eP key).2.1.dropLast.reverse
theorem YH{tb:Nat}{q:QS}{Kz:Nat}(h:TQ w tb I F q n Kz)(YF:Kz<=999999999000)(key value:rd)(hks:key.size<=100000)(hvs:value.size<=100000):
  eq prog 25 #[tp tb,U2 key,U2 value] w λe w'=>e=BY (U5 By (q.gE key value).2)/\PT w w' I F (q.gE key value).1 n (Kz+100):=by
 have KW:=xh<|Dd h (by omega) key;have HT:=xh h;have HK:=xh YF;have gj:=PO (q:=q) (key:=key);unfold QS.gE;generalize q.eP key=R at *;obtain⟨q1,steps,er⟩:=R;dsimp only at *;unfold tp at *
 by_cases hk32:key.size<=32
 .by_cases hv:value.size<=1024
  .rw[gc];have s5:¬(32<(key.size:Int)):=by omega
   have s6:¬(1024<(value.size:Int)):=by omega
   by_cases he:er=0
   .subst he;obtain⟨pre,x,rfl,rJ,Ud,jU,hlen⟩:=gj rfl;rw[i8,show iV (pre++[x])=x from by unfold iV;simp,show(pre++[x]).dropLast=pre from by simp];have hxo:=jU x (by simp);obtain⟨hm,hl57,_⟩:=hxo;have HLX:=xh<|pK hm;have hm:=xh hm;have uU:=g9 (∀s∈pre,Fit s) (λs hs=>(jU s (by simp[hs])).fit (Ud s hs));have YG:=xh hlen;clear gj Ud jU rJ h
    obtain⟨RR,bS⟩:∃RR,(if(q1.lC x.l key).2≠0 then q1.lC x.l key else(q1.lC x.l key).1.Uv key value {x with l:=r8 x.l key} (bg x.l key) pre.reverse)=RR:=⟨_,rfl⟩;rw[bS];have fQ:=xh bS;clear bS;go_in;go_wp2_with fail;go_call KW.o as e w1 ⟨v,L,rfl,SA,pJ,P1,o1⟩;have YI:=SA.last pJ;obtain⟨Lp,A,c,g,cc,rfl,mS,rfl,hbg,Ib,vr,iU,VZ,S1,f1⟩:=YI
    have H1:=g9 (TQ w1 tb I F q1 n (Kz+16)/\aX w1 w.heap.size (U3 (lc g) (pre.length+1) cc) (Lp++[⟨x,A,c⟩])/\OB w.heap.size w w1 F F/\w.heap.size<=w1.heap.size) ⟨HT.o.next o1 P1,SA,(OB.refl w.heap.size w F).step (ai _) o1 (λ_ hg=> .inl hg),o1.size⟩;have xe:=g9 (Lp.length=pre.length) (by rw[<-mS,bM]);have HMP:=xh mS;have S1:=xh S1;have x1:w1.cell? ⟨g,pre.length*4+1,none⟩=some (U6 x.leaf):=iU 1 (by omega)
    have x2:w1.cell? ⟨g,pre.length*4+1+1,none⟩=some (U3 A x.l.length c):=iU 2 (by omega);have s1:IntKind.i64.wrap (((pre.length+1:Nat):Int)-1)=(pre.length:Int):=by rw[show((pre.length+1:Nat):Int)-1=(pre.length:Int) by omega];exact dl
    have s2:(pre.length:Int)<((pre.length+1:Nat):Int):=by omega
    have KF:=xh<|Nd.yl x.leaf A x.l.length c x.l key (Nd.aM.aJ S1.o).2 (by omega) hm.o;unfold bH at KF;clear SA pJ P1 o1 mS iU VZ f1;go_wp2_with fail;go_call KF.o as e w3 ⟨rfl,dk⟩;have O3:=xh dk
    have H3:=g9 (TQ w3 tb I F q1 n (Kz+16)/\aX w3 w.heap.size (U3 (lc g) (pre.length+1) cc) (Lp++[⟨x,A,c⟩])/\OB w.heap.size w w3 F F/\w.heap.size<=w3.heap.size) ⟨H1.o.1.below O3.o,H1.o.2.1.below O3.o,H1.o.2.2.1.below O3.o,aq H1.o.2.2.2 O3.o.size⟩;have S3:=xh<|S1.o.below dk;have u2:w3.cell? ⟨g,pre.length*4+1+1,none⟩=some (U3 A x.l.length c):=(O3.o.cell (p:=⟨g,pre.length*4+1+1,none⟩) (cZ x2)).trans x2
    clear x1 x2 dk H1 S1 O3
    by_cases hh:cG x.l key=true
    obtain⟨ex,hex⟩:=Dg hh;have YC:x.l.getD (bg x.l key) Nd.E.zero=ex:=by rw[iq,hex];rfl
    have bS:=fQ.o;unfold QS.lC r8 at bS;rw[if_pos hh,if_pos hh,YC]at bS;generalize cG x.l key=hb at *;subst hh;have rK:bg x.l key<x.l.length:=(aR.1 hex).1;generalize bg x.l key=at_ at *;obtain⟨ad,yp,gJ⟩:=(Nd.aM.aJ S3.o).2.2 at_ ex hex;obtain⟨ga,ca,zk,Eh,_⟩:=S3.o.form (by omega) (by omega);injection Eh with e1 ezz e3
    clear ezz;subst e1 e3;injection yp with yp
    subst yp;rw[Nd.iN,bq]at gJ;have u3:=gJ.c0;have u4:=gJ.c1;have u5:=gJ.c2;dsimp only at u4 u5;have KA:=xh<|FP H3.o.1 (by omega) ex;unfold E.agg tp at KA;have hflI:(at_:Int)<(x.l.length:Int):=by omega
    generalize q1.pI ex=R2 at *;obtain⟨q2,e2⟩:=R2;dsimp only at *;have fQ:=xh bS;clear gJ hex YC bS;go_wp2_with fail;go_call KA.o as e w4 ⟨rfl,P4,o4⟩
    have H4:=g9 (TQ w4 tb I F q2 n (Kz+21)/\aX w4 w.heap.size (U3 (lc g) (pre.length+1) cc) (Lp++[⟨x,some ⟨ga,0,none⟩,c⟩])/\OB w.heap.size w w4 F F/\w.heap.size<=w4.heap.size) ⟨H3.o.1.next o4 P4,H3.o.2.1.zo H3.o.1.2 o4,H3.o.2.2.1.step (ai _) o4 (λ_ hg=> .inl hg),aq H3.o.2.2.2 o4.size⟩;clear P4 o4 u2 u3 u4 u5 S3
    by_cases zm:e2=0
    rotate_left
    .have bS:=fQ.o;rw[if_pos zm]at bS;subst bS;have hq:(e2 != 0)=true:=ls zm
     have my:(e2==0)=false:=i4 zm
     go_wp2;go_ret;exact aI (((H4.o.2.2.1.pb H4.o.1.2).pt (ai _)).le (by omega))
    rotate_left;subst zm;have bS:=fQ.o;rw[if_neg (show ¬((0:Int)≠0) by simp)]at bS;have fQ:=xh bS;have SX:=H4.o.2.1.e ⟨x,some ⟨ga,0,none⟩,c⟩ (by simp);have KD:=xh<|Nd.rZ SX.1 at_ rK (show x.l.length<=100000 by omega);have u2:=H4.o.2.1.cell (k:=Lp.length) (Z:=⟨x,some ⟨ga,0,none⟩,c⟩) (by rw[dQ (ai _),fM];rfl) 2 (by omega);rw[xe.o]at u2
    replace u2:w4.cell? ⟨g,pre.length*4+1+1,none⟩=some (U3 (lc ga) x.l.length c):=u2
    have Ei:=xh (show(x.l.eraseIdx at_).length=x.l.length-1 from by rw[GR rK]);have s7:IntKind.i64.wrap ((at_:Int)+1)=(at_:Int)+1:=dl;clear SX bS;go_wp2_with fail;go_call KD.o as e w5 ⟨rfl,S5,o5⟩;obtain⟨SP,sx,sz⟩:=H4.o.2.1.put (Lp:=Lp) (Ls:=[]) (x.l.eraseIdx at_) (A':=some ⟨ga,0,none⟩) (c':=c) (by rw[Ei.o];exact S5) o5 (λz hz=> .inl hz) H4.o.2.2.2;rw[xe.o]at SP sx sz;rw[Ei.o]at SP
    replace sx:w5.cell? ⟨g,pre.length*4+1+1,none⟩=some (U3 (lc ga) x.l.length c):=sx
    replace sz:w5.frozen? ⟨g,pre.length*4+1+1,none⟩=false:=sz
    have O5:ag (g::ah (U3 (lc ga) x.l.length c)) w4 (w5.setCell ⟨g,pre.length*4+1+1,none⟩ (U3 (lc ga) (x.l.length-1) c)):=(o5.mono (λx hx _=>bK _ hx)).setCell (by simp) _;have r7:=H4.o.2.1.off H4.o.1.2;have IG:=H4.o.2.1.tree H4.o.1.1
    have H5:=xh (show TQ (w5.setCell ⟨g,pre.length*4+1+1,none⟩ (U3 (lc ga) (x.l.length-1) c)) tb I F q2 n (Kz+21)/\aX (w5.setCell ⟨g,pre.length*4+1+1,none⟩ (U3 (lc ga) (x.l.length-1) c)) w.heap.size (U3 (lc g) (pre.length+1) cc) (Lp++[⟨{x with l:=x.l.eraseIdx at_},some ⟨ga,0,none⟩,c⟩])/\OB w.heap.size w (w5.setCell ⟨g,pre.length*4+1+1,none⟩ (U3 (lc ga) (x.l.length-1) c)) F F/\w.heap.size<=(w5.setCell ⟨g,pre.length*4+1+1,none⟩ (U3 (lc ga) (x.l.length-1) c)).heap.size from
     ⟨H4.o.1.only O5 (λz hz hm=>by
      rcases ar.1 hz with h1|h1<;>rcases ar.1 hm with h2|h2
      .exact IG.1 (by rw[<-h1,h2];simp[ah])
      .exact IG.2 ⟨x,some ⟨ga,0,none⟩,c⟩ (by simp) (by rw[<-h1];exact h2)
      .exact r7.1 z (by rw[h2];simp[ah]) h1
      .exact r7.2 ⟨x,some ⟨ga,0,none⟩,c⟩ (by simp) z h2 h1),SP,H4.o.2.2.1.own O5 (λz hz=>by
      rcases ar.1 hz with h2|h2
      .rw[h2];exact H4.o.2.1.f g (by simp[ah])
      .exact(H4.o.2.1.e ⟨x,some ⟨ga,0,none⟩,c⟩ (by simp)).2 z h2),aq H4.o.2.2.2 O5.size⟩)
    clear SP S5 o5 O5 r7 IG;have HLY:=g9 (∀e∈x.l.eraseIdx at_,e.key.size<=32/\e.val.size<=40) (λe he=>HLX.o e (List.mem_of_mem_eraseIdx he));obtain⟨w6,Rv⟩:∃w6,(w5.setCell ⟨g,pre.length*4+1+1,none⟩ (U3 (lc ga) (x.l.length-1) c))=w6:=⟨_,rfl⟩;rw[Rv]at H5
    go_upto_region 13 with fail
    clear Rv sx sz u2;have bS:=fQ.o;have hya:at_<=(x.l.eraseIdx at_).length:=by rw[Ei.o];omega
    have hyn:(x.l.eraseIdx at_).length<=57:=by rw[Ei.o];omega
    generalize hY:({x with l:=x.l.eraseIdx at_}:Step)=y at *;have hyl:y.l=x.l.eraseIdx at_:=by rw[<-hY]
    rw[<-hyl]at HLY hya hyn;generalize hAY:some (⟨ga,0,none⟩:Addr)=AY at H5;obtain⟨cY,rfl⟩:∃cY,cY=c:=⟨_,rfl⟩;have fQ:=xh bS;clear hyl hY hAY bS;rotate_left;have hh2:cG x.l key=false:=by simpa using hh
    have bS:=fQ.o;unfold QS.lC r8 at bS;rw[if_neg hh,if_neg hh,if_neg (show ¬((0:Int)≠0) by simp)]at bS;generalize cG x.l key=hb at *;subst hh2;have hya:bg x.l key<=x.l.length:=p8;generalize bg x.l key=at_ at *;obtain⟨q2,rfl⟩:∃q2,q2=q1:=⟨_,rfl⟩;obtain⟨y,rfl⟩:∃y:Step,y=x:=⟨_,rfl⟩;obtain⟨AY,rfl⟩:∃AY,AY=A:=⟨_,rfl⟩;obtain⟨cY,rfl⟩:∃cY,cY=c:=⟨_,rfl⟩;have hyn:y.l.length<=57:=hl57;have HLY:=HLX;have fQ:=xh bS
    have H5:=g9 (TQ w3 tb I F q2 n (Kz+21)/\aX w3 w.heap.size (U3 (lc g) (pre.length+1) cc) (Lp++[⟨y,AY,cY⟩])/\OB w.heap.size w w3 F F/\w.heap.size<=w3.heap.size) ⟨H3.o.1.le (by omega),H3.o.2⟩;clear hh bS u2 H3 S3;obtain⟨w6,rfl⟩:∃w6,w6=w3:=⟨_,rfl⟩
    go_upto_region 13 with fail
    all_goals
     have KT:=xh<|Ur H5.o.1 (by omega) key value hv;have wJ:=PZ q2 key value;have bS:=fQ.o;unfold QS.Uv at bS;generalize q2.jt key value=R3 at *;obtain⟨q3,en,e3⟩:=R3;dsimp only at *;obtain⟨rfl,hen2⟩:=wJ;have HEN:=xh<|io hk32 hen2;have fQ:=xh bS;unfold E.agg tp at KT;clear bS hen2;go_wp2_with fail;go_call KT.o as e w4 ⟨rfl,P4⟩;obtain⟨F4,T4,o4,f4⟩:=P4.tq H5.o.1
     have H4:=g9 (TQ w4 tb I F4 q3 n (Kz+26)/\aX w4 w.heap.size (U3 (lc g) (pre.length+1) cc) (Lp++[⟨y,AY,cY⟩])/\OB w.heap.size w w4 F F4/\w.heap.size<=w4.heap.size) ⟨T4,H5.o.2.1.zo H5.o.1.2 o4,H5.o.2.2.1.step (ai _) o4 f4,aq H5.o.2.2.2 o4.size⟩;clear P4 o4 f4 T4
     by_cases he3:e3=0
     .subst he3;have bS:=fQ.o;rw[if_neg (show ¬((0:Int)≠0) by simp)]at bS;rw[List.length_reverse]at bS;have fQ:=xh bS;clear bS;obtain⟨w8,PV⟩:∃w8,(w4.alloc (WF #[U2 en.key,U2 en.val,en.aY] 111)).drew=w8:=⟨_,rfl⟩;have YJ:i7 w4 w8:=by rw[<-PV];exact(i6 _ _).drew
      have BE8:aF w8 w4.heap.size 111 #[U2 en.key,U2 en.val,en.aY]:=by rw[<-PV];exact(aF.new _ _ _).drew
      have H8:=xh (show TQ w8 tb I F4 q3 n (Kz+26)/\aX w8 w.heap.size (U3 (lc g) (pre.length+1) cc) (Lp++⟨y,AY,cY⟩::[])/\OB w.heap.size w w8 F F4/\w.heap.size<=w8.heap.size/\aF w8 w4.heap.size 111 #[U2 en.key,U2 en.val,en.aY]from
       ⟨H4.o.1.below YJ,H4.o.2.1.below YJ,H4.o.2.2.1.below YJ,aq H4.o.2.2.2 YJ.size,BE8⟩)
      have KS8:=xh (show(λW=>W.cell? (lc w4.heap.size)=some (U2 en.key)/\W.cell? ⟨w4.heap.size,1,none⟩=some (U2 en.val)/\W.cell? ⟨w4.heap.size,2,none⟩=some (en.aY:li)) w8 from io (BE8.bi 0) (io (BE8.bi 1) (BE8.bi 2)));have x8:w8.cell? ⟨g,pre.length*4+2,none⟩=some (U3 AY y.l.length cY):=by
       have h1:=H8.o.2.1.cell (k:=Lp.length) (Z:=⟨y,AY,cY⟩) (by rw[dQ (ai _),fM];rfl) 2 (by omega);rw[xe.o]at h1;exact h1
      obtain⟨w9,hw9⟩:∃w9,w8.alloc (WF #[U2 en.key,U2 en.val,en.aY] 111)=w9:=⟨_,rfl⟩;have mU:i7 w8 w9:=by rw[<-hw9];exact i6 _ _
      have BN9:aF w9 w8.heap.size 111 #[U2 en.key,U2 en.val,en.aY]:=by rw[<-hw9];exact aF.new _ _ _
      have BZ9:w9.frozen? ⟨w8.heap.size,3,none⟩=false:=by rw[<-hw9];exact World.frozen?_alloc_at (w:=w8) _ _ w8.heap.size 3 rfl
      have BE9:=H8.o.2.2.2.2.below mU H8.o.2.2.2.2.lt;have KS9:=xh (show(λW=>W.cell? (lc w4.heap.size)=some (U2 en.key)/\W.cell? ⟨w4.heap.size,1,none⟩=some (U2 en.val)/\W.cell? ⟨w4.heap.size,2,none⟩=some (en.aY:li)) w9 from io (BE9.bi 0) (io (BE9.bi 1) (BE9.bi 2)));have x9:w9.cell? ⟨g,pre.length*4+2,none⟩=some (U3 AY y.l.length cY):=(mU.cell (p:=⟨g,pre.length*4+2,none⟩) (cZ x8)).trans x8
      have H9:=xh (show TQ w9 tb I F4 q3 n (Kz+26)/\aX w9 w.heap.size (U3 (lc g) (pre.length+1) cc) (Lp++⟨y,AY,cY⟩::[])/\OB w.heap.size w w9 F F4/\w.heap.size<=w9.heap.size/\aF w9 w4.heap.size 111 #[U2 en.key,U2 en.val,en.aY]from
       ⟨H8.o.1.below mU,H8.o.2.1.below mU,H8.o.2.2.1.below mU,aq H8.o.2.2.2.1 mU.size,BE9⟩)
      have PW:=xh (show(y.l.insertIdx at_ en).length=y.l.length+1 from by rw[zS,g8]);have SY:=H9.o.2.1.e ⟨y,AY,cY⟩ (by simp);have KI:=xh<|Nd.zj (w:=w9) SY.1 en (g2:=w8.heap.size) (cc:=1) BN9 (show y.l.length<=100000 by omega) (λhm=>by have:=(H8.o.2.1.e ⟨y,AY,cY⟩ (by simp)).1.lt _ hm;omega) at_ (show at_<=y.l.length by omega) BZ9
      have Bu:=xh (show ∀W,ag (ah (U3 AY y.l.length cY)) w9 W->(λW=>W.cell? (lc w4.heap.size)=some (U2 en.key)/\W.cell? ⟨w4.heap.size,1,none⟩=some (U2 en.val)/\W.cell? ⟨w4.heap.size,2,none⟩=some (en.aY:li)) W from λW o=>by
       have hB:=H9.o.2.2.2.2.only o (λhm=>by have:=(H4.o.2.1.e ⟨y,AY,cY⟩ (by simp)).1.lt _ hm;omega);exact⟨hB.bi 0,hB.bi 1,hB.bi 2⟩)
      clear SY BN9 BZ9 mU BE8 BE9 YJ;go_wp2_with fail;refine kw (λW=>W.cell? (lc w4.heap.size)=some (U2 en.key)/\W.cell? ⟨w4.heap.size,1,none⟩=some (U2 en.val)/\W.cell? ⟨w4.heap.size,2,none⟩=some (en.aY:li)) (by rw[PV];exact KS8.o) (λau=>?_);rw[PV];clear PV;refine dP [(0,86),(1,87),(2,88),(3,89),(4,90),(6,92),(7,93)] ?_
      iterate 7 refine bJ ?_
      refine wpAnyH_ready (rs:=[5,8]) (by kernel_rfl) (by simp) ?_;refine AllReadyH.cons (o:=⟨some 91,_,_,_,_,_⟩) rfl (λK hK=>?_) (AllReadyH.cons (o:=⟨some 94,_,_,_,_,_⟩) rfl (λK hK=>?_) AllReadyH.nil)
      focus
       go_simp;refine bn hK (KS8.o) (λau=>?_);refine dI 8 94 λK hK=>?_;go_simp;refine bn hK (KS9.o) (λau=>?_);refine dI 9 95 λK hK=>?_;go_simp
       go_at_call 74
       go_call KI.o as e zb ⟨A',c',rfl,Ex,wI,f10⟩;have Ex:=xh Ex;have wI:=xh wI;have f10:=xh f10;have PY:=xh<|Bu.o zb wI.o;go_simp;refine bn hK (PY.o) (λau=>?_);refine dP [(10,96),(11,97),(12,98)] ?_
       iterate 3 refine bJ ?_
       refine rm 13 λK hK=>?_;go_simp;obtain⟨SP,sx,sz⟩:=H9.o.2.1.put (y.l.insertIdx at_ en) (A':=A') (c':=c') (by rw[PW.o];exact Ex.o) wI.o (by rw[PW.o];exact f10.o) H9.o.2.2.2.1;rw[xe.o]at SP sx sz;rw[PW.o]at SP;have SP:=xh SP
       replace sx:zb.cell? ⟨g,pre.length*4+2,none⟩=some (U3 AY y.l.length cY):=sx
       have Iw:=g9 (ag (g::ah (U3 AY y.l.length cY)) w9 (zb.setCell ⟨g,pre.length*4+2,none⟩ (U3 A' (y.l.length+1) c'))) ((wI.o.mono (λx hx _=>bK _ hx)).setCell (by simp) _);have SY9:=(H9.o.2.1.e ⟨y,AY,cY⟩ (by simp)).1
       have wJ:=((H9.o.2.2.2.2.only wI.o (λhm=>by have:=(H4.o.2.1.e ⟨y,AY,cY⟩ (by simp)).1.lt _ hm;omega)).aY (p:=⟨g,pre.length*4+2,none⟩) (λe=>dL H9.o.2.1.s H9.o.2.2.2.2 (by decide) (by simp[ah];exact e)) (U3 A' (y.l.length+1) c'));have IF:=xh<|io (wJ.bi 0) (io (wJ.bi 1) (wJ.bi 2));clear SY9 wJ;go_simp;refine bn hK (IF.o) (λau=>?_)
      rotate_left
      focus
       go_simp;refine bn hK (KS9.o) (λau=>?_);refine dI 5 91 λK hK=>?_;go_simp;refine bn hK (KS9.o) (λau=>?_);refine dI 9 95 λK hK=>?_;go_simp
       go_at_call 74
       go_call KI.o as e zb ⟨A',c',rfl,Ex,wI,f10⟩;have Ex:=xh Ex;have wI:=xh wI;have f10:=xh f10;have PY:=xh<|Bu.o zb wI.o;go_simp;refine bn hK (PY.o) (λau=>?_);refine dP [(10,96),(11,97),(12,98)] ?_
       iterate 3 refine bJ ?_
       refine rm 13 λK hK=>?_;go_simp;obtain⟨SP,sx,sz⟩:=H9.o.2.1.put (y.l.insertIdx at_ en) (A':=A') (c':=c') (by rw[PW.o];exact Ex.o) wI.o (by rw[PW.o];exact f10.o) H9.o.2.2.2.1;rw[xe.o]at SP sx sz;rw[PW.o]at SP;have SP:=xh SP
       replace sx:zb.cell? ⟨g,pre.length*4+2,none⟩=some (U3 AY y.l.length cY):=sx
       have Iw:=g9 (ag (g::ah (U3 AY y.l.length cY)) w9 (zb.setCell ⟨g,pre.length*4+2,none⟩ (U3 A' (y.l.length+1) c'))) ((wI.o.mono (λx hx _=>bK _ hx)).setCell (by simp) _);have SY9:=(H9.o.2.1.e ⟨y,AY,cY⟩ (by simp)).1
       have wJ:=((H9.o.2.2.2.2.only wI.o (λhm=>by have:=(H4.o.2.1.e ⟨y,AY,cY⟩ (by simp)).1.lt _ hm;omega)).aY (p:=⟨g,pre.length*4+2,none⟩) (λe=>dL H9.o.2.1.s H9.o.2.2.2.2 (by decide) (by simp[ah];exact e)) (U3 A' (y.l.length+1) c'));have IF:=xh<|io (wJ.bi 0) (io (wJ.bi 1) (wJ.bi 2));clear SY9 wJ;go_simp;refine bn hK (IF.o) (λau=>?_)
      rotate_left
      all_goals
       refine jp ?_ _;go_wp2_with fail;have hT:TQ (zb.setCell ⟨g,pre.length*4+1+1,none⟩ (U3 A' (y.l.length+1) c')) tb I F4 q3 n (Kz+26):=by
        have r7:=H9.o.2.1.off H9.o.1.2;have IG:=H9.o.2.1.tree H9.o.1.1;exact H9.o.1.only Iw.o (λz hz hm=>by
         rcases ar.1 hz with h1|h1<;>rcases ar.1 hm with h2|h2
         .exact IG.1 (by rw[<-h1,h2];simp[ah])
         .exact IG.2 ⟨y,AY,cY⟩ (by simp) (by rw[<-h1];exact h2)
         .exact r7.1 z (by rw[h2];simp[ah]) h1
         .exact r7.2 ⟨y,AY,cY⟩ (by simp) z h2 h1)
       have hO:OB w.heap.size w (zb.setCell ⟨g,pre.length*4+1+1,none⟩ (U3 A' (y.l.length+1) c')) F F4:=H9.o.2.2.1.own Iw.o (λz hz=>by
        rcases ar.1 hz with h2|h2
        .rw[h2];exact H9.o.2.1.f g (by simp[ah])
        .exact(H9.o.2.1.e ⟨y,AY,cY⟩ (by simp)).2 z h2)
       have hBW:w.heap.size<=(zb.setCell ⟨g,pre.length*4+1+1,none⟩ (U3 A' (y.l.length+1) c')).heap.size:=aq H9.o.2.2.2.1 Iw.o.size;have SQ:aX (zb.setCell ⟨g,pre.length*4+1+1,none⟩ (U3 A' (y.l.length+1) c')) w.heap.size (U3 (lc g) (pre.length+1) cc) (Lp++[(⟨{y with l:=y.l.insertIdx at_ en},A',c'⟩:SM)]):=by
        exact SP.o
       have Uu:=fQ.o;subst Uu;have KR:=zp (pre.length+1) pre {y with l:=y.l.insertIdx at_ en} (ai _) hT (by have:=HK.o;have:=YG.o;omega) SQ hBW (by rw[cX,HMP.o];rfl) uU.o
        ⟨by show(y.l.insertIdx at_ _).length<=90;rw[PW.o];omega,λe he=>by
         rcases(List.mem_insertIdx (by omega)).1 he with rfl|he
         .exact HEN.o
         .exact HLY.o e he⟩ (by have:=YG.o;omega)
       go_call KR as e w12 ⟨rfl,P12⟩;have P12:=xh P12;have HO:=xh hO;clear hT hO hBW SQ KR;go_wp2;go_ret;exact aI (((HO.o.trans P12.o).pt (ai _)).le (by have:=YG.o;omega))
     .have bS:=fQ.o;rw[if_pos he3]at bS;subst bS;have hq:(e3 != 0)=true:=ls he3
      have my:(e3==0)=false:=i4 he3
      go_wp2;go_ret;exact aI ((((H4.o.2.2.1.below (i6 _ _)).pb (H4.o.1.2.below (i6 _ _))).pt (ai _)).le (by omega))
   .rw[if_pos he];have hq:(er != 0)=true:=ls he
    have my:(er==0)=false:=i4 he
    clear gj;go_in;go_wp2_with fail;go_call KW.o as e w1 ⟨v,L,rfl,SA,pJ,P1,o1⟩;have P1:=xh P1;have o1:=xh o1;clear SA pJ;go_wp2;go_ret;exact aI ((PT.self P1.o o1.o).le (by omega))
  .rw[g8];have s6:1024<(value.size:Int):=by omega
   have s5:¬(32<(key.size:Int)):=by omega
   clear gj;go_in;go_wp2;go_ret;exact aI ((PT.self HT.o.2 (ag.refl F w)).le (by omega))
 .rw[g8];have s5:32<(key.size:Int):=by omega
  clear gj;go_in;go_wp2;go_ret;exact aI ((PT.self HT.o.2 (ag.refl F w)).le (by omega))
end Sh
end Go.Proofs.YtmonobkginiajaaGreat
