/- packed. -/
import Derived.Test.YtmonobkginiajaaGreatCs14
set_option linter.all false
set_option maxRecDepth 100000
set_option maxHeartbeats 8000000
namespace Go.Proofs.YtmonobkginiajaaGreat
open Go.Proofs.Tryz
open Value renaming string→U7,slice→U3,int→U5,bool→WF,pointer→st,tuple→rg
open Ending renaming returned→fd
open IntKind renaming i64→U6
open Obj renaming cells→Pi
open Go renaming World→BY,Value→By
open List renaming replicate→it
namespace Sh.Cn
open Go.RowKit Pk Dk Pg
def WM{w:BY}{wb tb mb:Nat}{I:Ix}{F:List Nat}{vl vo:By}{q:QS}{n Kz:Nat}{l o:List PR}(h:TW w wb tb mb I F vl vo q n Kz l o)(hl:l.length<=1000)(hK:Kz<=999900000000)(kd nn:Int)(key til val:Nm)(xM:key.size<=100000)(Gb:val.size<=100000)(wu:kd=13):
  Calls prog 15 #[lc wb,.agg (uG kd nn key til val)] w λe w'=> ∃β,e=fd (WF β)/\((nA (q.dk nn).2/\qg w w' wb mb tb I F n (Kz+40000000) (q.dk nn).1 vo o)\/(¬nA (q.dk nn).2/\ll w w' wb mb tb I F n (Kz+40000000) (q.dk nn).1 vo l o)):=by
 obtain⟨q1,e1,FV⟩:∃q1 e1,q.dk nn=(q1,e1):=⟨_,_,rfl⟩;have KS:=xh (λ(W:BY) (hW:TW W wb tb mb I F vl vo q n Kz l o)=>RH hW.t.2 ls nn);rw[FV]at KS ⊢;dsimp only at KS ⊢;unfold pp at KS;clear FV;obtain⟨T0,CZ,oE,O0⟩:=h.act kd nn key til val;obtain⟨z,hz⟩:∃z,w.heap.size=z:=⟨_,rfl⟩;rw[hz]at CZ oE;have T0:=xh T0;have CZ:=xh CZ;have oE:=xh oE;have O0:=xh O0;have HZ:=xh hz;have Ox:=xh<|And.intro hl hK;clear h hl hK hz
 have y0:=CZ.ap 0;have y1:=CZ.ap 1;obtain⟨x1,x2,x3,x4⟩:=T0.o.cells;have zR:=HZ.o;unfold uG at *;subst wu;go_in;go_wp2;refine kw (λW=>W.cell? ⟨wb,1,none⟩=some (lc I.pb:li)/\W.cell? ⟨z,1,none⟩=some (nn:li)) (⟨x1,y1⟩) (λaC=>?_);refine dj [(0,117),(1,118),(2,119),(3,120),(4,121),(5,122)] ?_
 iterate 6 refine bJ ?_
 refine dV 6 123 λK hK=>?_;go_simp
 go_at_call 58
 go_call (KS.o _ T0.o.drew) as e w1 ⟨rfl,p1,o1⟩;have T1:=xh<|T0.o.drew.next o1 p1;have C1:=xh<|CZ.o.drew.only o1 (λhm=>oE.o (aH _ (aH _ hm)));have O1:=xh<|O0.o.drew.trans (o1.mono (λx hx _=>aH _ (aH _ hx)));have f1:=g9 (∀g∈F,g∈F\/w.heap.size<=g) (λg hg=> .inl hg);clear p1 o1;go_simp;refine cq hK (⟨T1.o.cells.1,C1.ap 1⟩) (λaC=>?_)
 refine dj [(7,5)] ?_
 iterate 1 refine bJ ?_
 refine jp ?_ _;clear x1 x2 x3 x4
 by_cases h3:e1=3
 .subst h3;go_wp2_with fail;go_call (fZ 0 ls ls _) as e _ ⟨rfl,rfl⟩;have R9:=g9 (ll w _ wb mb tb I F n (Kz+40000000) q1 vo l o) ⟨F,_,T1.o.le ls,O1.o,oY f1.o⟩;go_wp2;go_ret;exact⟨_,by first|rfl|simp,.inr ⟨λh=>by rcases h with h|h<;>exact eq h ms,R9.o⟩⟩
 have lC:(e1==3)=false:=i4 h3
 by_cases G:nA e1
 .have J:=xh G;clear G;obtain⟨x1,x2,x3,x4⟩:=T1.o.cells;go_wp2_with fail;go_call (ib J.o _) as e _ ⟨rfl,rfl⟩;have KB:=xh<|nQ T1.o (by have:=Ox.o;omega);clear x1 x2 x3 x4;go_wp2_with fail;go_call KB.o as e w9 ⟨β,rfl,R9⟩;have R9:=xh<|R9.back (tb:=tb) O1.o f1.o (show _<=Kz+40000000 by omega);go_wp2;go_ret;exact⟨β,by first|rfl|simp,.inl ⟨J.o,R9.o⟩⟩
 .have J:=xh G;clear G;go_wp2_with fail;go_call (fZ _ (λh=>J.o (.inl h)) (λh=>J.o (.inr h)) _) as e _ ⟨rfl,rfl⟩;have R9:=g9 (ll w _ wb mb tb I F n (Kz+40000000) q1 vo l o) ⟨F,_,T1.o.le ls,O1.o,oY f1.o⟩;go_wp2;go_ret;exact⟨_,by first|rfl|simp,.inr ⟨J.o,R9.o⟩⟩
def WN{w:BY}{wb tb mb:Nat}{I:Ix}{F:List Nat}{vl vo:By}{q:QS}{n Kz:Nat}{l o:List PR}(h:TW w wb tb mb I F vl vo q n Kz l o)(hl:l.length<=1000)(hK:Kz<=999900000000)(kd nn:Int)(key til val:Nm)(xM:key.size<=100000)(Gb:val.size<=100000)(wu:kd=10):
  Calls prog 15 #[lc wb,.agg (uG kd nn key til val)] w λe w'=> ∃β,e=fd (WF β)/\((nA (q.eR key til).2.2/\qg w w' wb mb tb I F n (Kz+40000000) (q.eR key til).1 vo o)\/(¬nA (q.eR key til).2.2/\ll w w' wb mb tb I F n (Kz+40000000) (q.eR key til).1 vo (oG key til l) o)):=by
 obtain⟨q1,c1,e1,FV⟩:∃q1 c1 e1,q.eR key til=(q1,c1,e1):=⟨_,_,_,rfl⟩;have KS:=xh (λ(W:BY) (hW:TW W wb tb mb I F vl vo q n Kz l o)=>Se hW.t ls key til);rw[FV]at KS ⊢;dsimp only at KS ⊢;have KM:=xh (λ(W:BY) (v:By) (hW:Mp W mb v l)=>Rs hW key til);obtain⟨cm,rS⟩:∃cm:Int,(l.length:Int)-(oG key til l).length=cm:=⟨_,rfl⟩;rw[rS]at KM;clear rS;unfold tp at KS;clear FV;obtain⟨T0,CZ,oE,O0⟩:=h.act kd nn key til val
 obtain⟨z,hz⟩:∃z,w.heap.size=z:=⟨_,rfl⟩;rw[hz]at CZ oE;have T0:=xh T0;have CZ:=xh CZ;have oE:=xh oE;have O0:=xh O0;have HZ:=xh hz;have Ox:=xh<|And.intro hl hK;clear h hl hK hz;have y0:=CZ.ap 0;have y2:=CZ.ap 2;have y3:=CZ.ap 3;obtain⟨x1,x2,x3,x4⟩:=T0.o.cells;have zR:=HZ.o;unfold uG at *;subst wu;go_in;go_wp2_with fail
 refine kw (λW=>W.cell? ⟨wb,2,none⟩=some (lc tb:li)/\W.cell? ⟨z,2,none⟩=some (U7 key)/\W.cell? ⟨z,3,none⟩=some (U7 til)) (⟨x2,y2,y3⟩) (λaC=>?_);refine dj [(0,64),(1,65),(2,66),(3,67),(4,68),(5,69),(6,70),(7,71)] ?_
 iterate 8 refine bJ ?_
 refine dV 8 72 λK hK=>?_;go_simp
 go_at_call 22
 go_call (KS.o _ T0.o.drew) as e w1 ⟨rfl,hp⟩;obtain⟨F1,T1,o1,f1⟩:=T0.o.drew.tree hp;have T1:=xh T1;have C1:=xh<|CZ.o.drew.only o1 (λhm=>oE.o (aH _ (aH _ hm)));have O1:=xh<|O0.o.drew.trans (o1.mono (λx hx _=>aH _ (aH _ hx)));have f1:=g9 (∀g∈F1,g∈F\/w.heap.size<=g) (λg hg=>(f1 g hg).imp id (λh=>aD O0.o.size h));clear hp o1;go_simp
 refine cq hK (⟨T1.o.cells.2.1,C1.ap 2,C1.ap 3⟩) (λaC=>?_);refine dj [(9,63),(10,73),(11,74),(12,7),(13,8)] ?_
 iterate 5 refine bJ ?_
 refine jp ?_ _;clear y0 y2 y3 x1 x2 x3 x4;have y2:=C1.ap 2;have y3:=C1.ap 3;obtain⟨x1,x2,x3,x4⟩:=T1.o.cells;go_wp2_with fail
 by_cases G:nA e1
 .have J:=xh G;clear G;clear KM;refine kw (λW=>W.cell? ⟨wb,3,none⟩=some (lc mb:li)) (x3) (λaC=>?_);refine dj [(0,76)] ?_
  iterate 1 refine bJ ?_
  refine dV 1 77 λK hK=>?_;go_simp
  go_at_call 18
  go_call (ib J.o _) as e _ ⟨rfl,rfl⟩;go_simp;refine cq hK (x3) (λaC=>?_);refine dj [(2,78),(3,79)] ?_
  iterate 2 refine bJ ?_
  refine bK 4 80 ?_;refine bK 5 81 ?_;refine bK 6 82 ?_;refine bK 7 83 ?_;refine bK 8 84 ?_;refine bK 9 85 ?_;refine bK 10 86 ?_;refine bK 11 87 ?_;refine bK 12 88 ?_;refine bK 13 89 ?_;refine bK 14 90 ?_;refine dj [(15,91)] ?_
  iterate 1 refine bJ ?_
  refine jp ?_ _;have T1:=xh T1.o.drew;have O1:=xh O1.o.drew;go_wp2_with fail;go_call (ib J.o _) as e _ ⟨rfl,rfl⟩;have KB:=xh<|nQ T1.o (by have:=Ox.o;omega);clear x1 x2 x3 x4;go_wp2_with fail;go_call KB.o as e w9 ⟨β,rfl,R9⟩;have R9:=xh<|R9.back (tb:=tb) O1.o f1.o (show _<=Kz+40000000 by omega);go_wp2;go_ret;exact⟨β,by first|rfl|simp,.inl ⟨J.o,R9.o⟩⟩
 .have J:=xh G;clear G;refine kw (λW=>W.cell? ⟨wb,3,none⟩=some (lc mb:li)/\W.cell? ⟨z,2,none⟩=some (U7 key)/\W.cell? ⟨z,3,none⟩=some (U7 til)) (⟨x3,y2,y3⟩) (λaC=>?_);refine dj [(0,76)] ?_
  iterate 1 refine bJ ?_
  refine dV 1 77 λK hK=>?_;go_simp
  go_at_call 18
  go_call (fZ _ (λh=>J.o (.inl h)) (λh=>J.o (.inr h)) _) as e _ ⟨rfl,rfl⟩;go_simp;refine cq hK (⟨x3,y2,y3⟩) (λaC=>?_);refine dj [(2,78),(3,79),(4,80),(5,81),(6,82),(7,83),(8,84),(9,85),(10,86),(11,87),(12,88)] ?_
  iterate 11 refine bJ ?_
  refine dV 13 89 λK hK=>?_;go_simp
  go_at_call 56
  go_call (KM.o _ _ T1.o.drew.m) as e w2 ⟨rfl,v2,M2,o2,f2⟩;have T2:=xh<|T1.o.drew.map o2 M2;have C2:=xh<|C1.o.drew.only o2 (λhm=>oE.o (by simp at hm;simp[hm]));have O2:=xh<|O1.o.drew.trans (o2.mono (λx hx _=>by simp at hx;simp[hx]));clear M2 o2 f2;go_simp;refine cq hK (⟨T2.o.cells.2.2.1,C2.ap 2,C2.ap 3⟩) (λaC=>?_)
  by_cases hc:c1=cm
  .subst hc;refine dj [(14,90),(15,91)] ?_
   iterate 2 refine bJ ?_
   refine jp ?_ _;clear x1 x2 x3 x4;go_wp2_with fail;go_call (fZ _ (λh=>J.o (.inl h)) (λh=>J.o (.inr h)) _) as e _ ⟨rfl,rfl⟩;have R9:=g9 (ll w _ wb mb tb I F n (Kz+40000000) q1 vo (oG key til l) o) ⟨F1,_,T2.o.le ls,O2.o,oY f1.o⟩;go_wp2;go_ret;exact⟨_,by first|rfl|simp,.inr ⟨J.o,R9.o⟩⟩
  .have hb:(c1==cm)=false:=i4 hc
   have hd:decide (c1=cm)=false:=wn hc;refine dj [(14,90),(15,91)] ?_
   iterate 2 refine bJ ?_
   refine jp ?_ _;clear x1 x2 x3 x4;have R9:=g9 (ll w _ wb mb tb I F n (Kz+40000000) q1 vo (oG key til l) o) ⟨F1,_,T2.o.le ls,O2.o,oY f1.o⟩;go_wp2;go_ret;exact⟨_,by first|rfl|simp,.inr ⟨J.o,R9.o⟩⟩
end Sh.Cn
namespace Sh
open Go.RowKit Pk Dk Pg
variable{w w':BY}{g b n:Nat}{a c:Int}{s:Nm}{F:List Nat}{x:X}
def Fy{fn:Func}{p u:Tmp}{b:Int}{tmps:Array By}(h:fn.results= #[.cell p 162,.tmp u])(hp:tmps.getD p undef=st (some ⟨g,0,none⟩))(B:aM w g 162 #[a,b,c,U7 s]):
  (results fn tmps).run prog w=.ok (rg #[.agg #[a,b,c,U7 s],tmps.getD u undef]) w:=by
 have c0:=B.bi 0;have c1:=B.bi 1;have c2:=B.bi 2;have c3:=B.bi 3;rw[results_cell_tmp h,hp];clear h hp B;go_simp
def FA{b a' b' c':Int}{s':Nm}(B:aM w g 162 #[a,b,c,U7 s]):
  aM ((((w.setCell ⟨g,0,none⟩ a').setCell ⟨g,1,none⟩ b').setCell ⟨g,2,none⟩ c').setCell ⟨g,3,none⟩ (U7 s')) g 162 #[a',b',c',U7 s']/\
   ah [g] w ((((w.setCell ⟨g,0,none⟩ a').setCell ⟨g,1,none⟩ b').setCell ⟨g,2,none⟩ c').setCell ⟨g,3,none⟩ (U7 s'))/\
   w.cell? (lc g)=some (a:li)/\w.cell? ⟨g,1,none⟩=some (b:li)/\w.cell? ⟨g,2,none⟩=some (c:li)/\w.cell? ⟨g,3,none⟩=some (U7 s)/\
   w.frozen? ⟨g,0,none⟩=false/\w.frozen? ⟨g,1,none⟩=false/\w.frozen? ⟨g,2,none⟩=false/\w.frozen? ⟨g,3,none⟩=false:=
 ⟨(((B.ct 0 _).ct 1 _).ct 2 _).ct 3 _,((((ah.refl _ _).setCell lw _).setCell lw _).setCell lw _).setCell lw _,B.ae rfl,B.ae rfl,B.ae rfl,B.ae rfl,B.frozen 0 lw,B.frozen 1 lw,B.frozen 2 lw,B.frozen 3 lw⟩
def qh(o:ah (b::F) w w')(hb:w.heap.size<=b):ah F w w':=o.mono (λx hx dP=>(ax.1 hx).elim (λe=>by omega) id)
def ql(o:ah F w w'):ah (b::F) w w':=o.mono (λ_ hx _=>aH _ hx)
def qm(o:ah [b] w w'):ah (b::F) w w':=o.mono (λ_ hx _=>by rw[aG.1 hx];exact ie ..)
def C.bH(c:C)(n:Nat)(id kd:Int):C×PG×Int:=
 if(Fm.pw c.m id).2≠0 then({c with m:=(Fm.pw c.m id).1},.zero,14)
 else if(aV c.d n id).2≠0 then({c with m:=(Fm.pw c.m id).1},.zero,Gk (aV c.d n id).2)
 else if(aV c.d n id).1.kd≠kd\/c.ep<(aV c.d n id).1.ep then({c with m:=(Fm.pw c.m id).1},.zero,14)
 else({c with m:=(Fm.pw c.m id).1},(aV c.d n id).1,0)
def at_new{c:C}(h:At w x n c):w.heap.size∉x.fp:=λhm=>by have:=h.lt _ hm;omega
def l6{c:C}(h:At w x n c)(id kd:Int):
  Calls prog 84 #[sp x.b,id,kd] w λe w'=>e=fd (rg #[(c.bH n id kd).2.1.val,U5 U6 (c.bH n id kd).2.2])/\At w' x n (c.bH n id kd).1/\ah x.fp w w':=by
 have O0:=xh<|i6 w (Pi #[U5 U6 0,U5 U6 0,U5 U6 0,U7 ⟨#[]⟩] 162);have B0:=xh<|aM.new w 162 #[U5 U6 0,U5 U6 0,U5 U6 0,U7 ⟨#[]⟩];have NQ:=xh<|at_new h;have h0:=h.below O0.o;have f1:=h0.f1;have KU:=xh<|Fm.use_any h0.hm id
 have HM:=xh (λ(W:BY) (mm:Fm.dQ W x.mb x.mg (Fm.pw c.m id).1) (ow:ah [x.mg] (w.alloc (Pi #[U5 U6 0,U5 U6 0,U5 U6 0,U7 ⟨#[]⟩] 162)) W)=>h0.map mm ow);have KR:=xh (λ(W:BY) (hW:At W x n {c with m:=(Fm.pw c.m id).1})=>GN hW.hd id);dsimp only at KR;have NM:=g9 (x.mg≠w.heap.size) (λe=>NQ.o (by rw[<-e];simp[X.fp]));obtain⟨R,hR⟩:∃R,c.bH n id kd=R:=⟨_,rfl⟩;rw[hR];unfold C.bH at hR;generalize Fm.pw c.m id=U at *
 obtain⟨um,ue⟩:=U;dsimp only at hR KU HM KR;have HEP:=xh (λ(W:BY) (hW:At W x n {c with m:=um})=>hW.f5);dsimp only at HEP;generalize aV c.d n id=Q at *;obtain⟨⟨Bf,rep,vD,rs⟩,er⟩:=Q;have KB:=xh (λw=>Ta er w);dsimp only at hR;generalize c.ep=ep at *;clear h h0;unfold PG.val jw sp Fm.mp dp at *;dsimp only at KR
 by_cases h1:ue=0
 .rw[U9 (by simpa using h1)]at hR;subst h1
  by_cases h2:er=0
  .rw[U9 (by simpa using h2)]at hR;subst h2;go_in;go_wp2_with fail;go_call KU.o as e w1 ⟨rfl,mm,ow⟩;have A1:=xh<|HM.o _ mm ow;have B1:=xh<|B0.o.only ow (λhm=>NM.o (aG.1 hm).symm);have O1:=xh<|(ah.aj (S:=x.fp) O0.o).trans (ow.mono (λg hg _=>by rw[aG.1 hg];simp[X.fp]));clear mm ow;have f0:=A1.o.f0;unfold dp at f0;go_wp2_with fail;refine(KR.o w1 A1.o).mono ?_
   rintro e w2 ⟨rfl,da⟩;have A2:=xh<|A1.o.below da;have B2:=xh<|B1.o.below da B1.o.lt;have O2:=xh<|O1.o.trans (.aj da);have a3:=i6 w2 (Pi #[Bf,rep,vD,U7 ⟨rs.toArray⟩] 162);have A3:=xh<|A2.o.below a3;have B3:=xh<|B2.o.alloc (Pi #[Bf,rep,vD,U7 ⟨rs.toArray⟩] 162)
   have P3:=xh<|aM.new w2 162 #[Bf,rep,vD,U7 ⟨rs.toArray⟩];have O3:=xh<|O2.o.trans (.aj a3);clear da a3;go_wp2_with fail;generalize BU:(w2.alloc (Pi #[Bf,rep,vD,U7 ⟨rs.toArray⟩] 162))=w3 at *;clear BU;have e5:=HEP.o w3 A3.o;have p1:w3.cell? ⟨w2.heap.size,1,none⟩=some (rep:li):=P3.ap 1
   have p2:w3.cell? ⟨w2.heap.size,2,none⟩=some (vD:li):=P3.ap 2;have p0:w3.cell? (lc w2.heap.size)=some (Bf:li):=P3.ap 0;have p3:w3.cell? ⟨w2.heap.size,3,none⟩=some (U7 ⟨rs.toArray⟩):=P3.ap 3
   by_cases h3:vD=kd
   .have hq:(vD != kd)=false:=by simp[h3]
    by_cases h4:ep<rep
    .rw[U8 (.inr h4)]at hR;have hq4:decide (ep<rep)=true:=by simpa using h4
     clear h3 h4;refine kw (λW'=>W'.cell? ⟨x.b,5,none⟩=some (ep:li)/\W'.cell? ⟨w2.heap.size,1,none⟩=some (rep:li)/\W'.cell? ⟨w2.heap.size,2,none⟩=some (vD:li)) (⟨e5,p1,p2⟩) (λaC=>?_);refine dj [(0,34),(1,35),(2,36),(3,37),(4,38),(5,39),(6,40),(7,41),(8,42),(9,43),(10,44),(11,45),(12,46),(13,33)] ?_
     iterate 14 refine bJ ?_
     refine jp ?_ _;have A4:=xh A3.o.drew;have B4:=xh B3.o.drew;have O4:=xh<|O3.o.trans (.aj ((Below.refl _ _).drew));generalize NK:w3.drew=w4 at *;clear NK;obtain⟨B9,o9,d0,d1,d2,d3,z0,z1,z2,z3⟩:=FA (a':=0) (b':=0) (c':=0) (s':=⟨#[]⟩) B4.o;have B9:=xh B9;have o9:=xh o9;go_wp2_with fail;subst hR
     exact bodyPost_ret (Fy rfl rfl B9.o) rfl ⟨rfl,A4.o.only o9.o (λg hg hm=>NQ.o (by rw[<-aG.1 hm];exact hg)),qh ((ql O4.o).trans (qm o9.o)) (ai _)⟩
    .rw[U9 (λh=>h.elim (λh=>h h3) h4)]at hR;have hq4:decide (ep<rep)=false:=by simpa using h4
     clear h3 h4;refine kw (λW'=>W'.cell? ⟨x.b,5,none⟩=some (ep:li)/\W'.cell? ⟨w2.heap.size,1,none⟩=some (rep:li)/\W'.cell? ⟨w2.heap.size,2,none⟩=some (vD:li)) (⟨e5,p1,p2⟩) (λaC=>?_);refine dj [(0,34),(1,35),(2,36),(3,37),(4,38),(5,39),(6,40),(7,41),(8,42),(9,43),(10,44),(11,45),(12,46),(13,33)] ?_
     iterate 14 refine bJ ?_
     refine jp ?_ _;have A4:=xh A3.o.drew;have B4:=xh B3.o.drew;have O4:=xh<|O3.o.trans (.aj ((Below.refl _ _).drew));have p0':w3.drew.cell? (lc w2.heap.size)=some (Bf:li):=p0;have p1':w3.drew.cell? ⟨w2.heap.size,1,none⟩=some (rep:li):=p1;have p2':w3.drew.cell? ⟨w2.heap.size,2,none⟩=some (vD:li):=p2;have p3':w3.drew.cell? ⟨w2.heap.size,3,none⟩=some (U7 ⟨rs.toArray⟩):=p3;generalize NK:w3.drew=w4 at *;clear NK
     obtain⟨B9,o9,d0,d1,d2,d3,z0,z1,z2,z3⟩:=FA (a':=Bf) (b':=rep) (c':=vD) (s':=⟨rs.toArray⟩) B4.o;have B9:=xh B9;have o9:=xh o9;have zf0:w3.frozen? ⟨w.heap.size,0,none⟩=false:=B3.o.frozen 0 lw;have zf1:w3.frozen? ⟨w.heap.size,1,none⟩=false:=B3.o.frozen 1 lw;have zf2:w3.frozen? ⟨w.heap.size,2,none⟩=false:=B3.o.frozen 2 lw;have zf3:w3.frozen? ⟨w.heap.size,3,none⟩=false:=B3.o.frozen 3 lw;go_wp2_with fail;subst hR
     exact bodyPost_ret (Fy rfl rfl B9.o) rfl ⟨rfl,A4.o.only o9.o (λg hg hm=>NQ.o (by rw[<-aG.1 hm];exact hg)),qh ((ql O4.o).trans (qm o9.o)) (ai _)⟩
   .rw[U8 (.inl h3)]at hR;have hq:(vD != kd)=true:=by simpa using h3
    clear h3;refine kw (λW'=>W'.cell? ⟨x.b,5,none⟩=some (ep:li)/\W'.cell? ⟨w2.heap.size,1,none⟩=some (rep:li)/\W'.cell? ⟨w2.heap.size,2,none⟩=some (vD:li)) (⟨e5,p1,p2⟩) (λaC=>?_);refine dj [(0,34),(1,35),(2,36),(3,37),(4,38)] ?_
    iterate 5 refine bJ ?_
    refine bK 5 39 ?_;refine bK 6 40 ?_;refine bK 7 41 ?_;refine bK 8 42 ?_;refine bK 9 43 ?_;refine bK 10 44 ?_;refine bK 11 45 ?_;refine dj [(12,46),(13,33)] ?_
    iterate 2 refine bJ ?_
    refine jp ?_ _;have A4:=xh A3.o.drew;have B4:=xh B3.o.drew;have O4:=xh<|O3.o.trans (.aj ((Below.refl _ _).drew));generalize NK:w3.drew=w4 at *;clear NK;obtain⟨B9,o9,d0,d1,d2,d3,z0,z1,z2,z3⟩:=FA (a':=0) (b':=0) (c':=0) (s':=⟨#[]⟩) B4.o;have B9:=xh B9;have o9:=xh o9;go_wp2_with fail;subst hR
    exact bodyPost_ret (Fy rfl rfl B9.o) rfl ⟨rfl,A4.o.only o9.o (λg hg hm=>NQ.o (by rw[<-aG.1 hm];exact hg)),qh ((ql O4.o).trans (qm o9.o)) (ai _)⟩
  .rw[U8 (by simpa using h2)]at hR;have hq:(er==0)=false:=i4 h2
   have kP:(er != 0)=true:=lm h2
   clear h2;go_in;go_wp2_with fail;go_call KU.o as e w1 ⟨rfl,mm,ow⟩;have A1:=xh<|HM.o _ mm ow;have B1:=xh<|B0.o.only ow (λhm=>NM.o (aG.1 hm).symm);have O1:=xh<|(ah.aj (S:=x.fp) O0.o).trans (ow.mono (λg hg _=>by rw[aG.1 hg];simp[X.fp]));clear mm ow;have f0:=A1.o.f0;unfold dp at f0;go_wp2_with fail;go_call (KR.o w1 A1.o) as e w2 ⟨rfl,da⟩
   have A2:=xh<|A1.o.below da;have B2:=xh<|B1.o.below da B1.o.lt;have O2:=xh<|O1.o.trans (.aj da);have a3:=i6 w2 (Pi #[Bf,rep,vD,U7 ⟨rs.toArray⟩] 162);have A3:=xh<|A2.o.below a3;have B3:=xh<|B2.o.alloc (Pi #[Bf,rep,vD,U7 ⟨rs.toArray⟩] 162)
   have P3:=xh<|aM.new w2 162 #[Bf,rep,vD,U7 ⟨rs.toArray⟩];have O3:=xh<|O2.o.trans (.aj a3);clear da a3;go_wp2_with fail;generalize BU:(w2.alloc (Pi #[Bf,rep,vD,U7 ⟨rs.toArray⟩] 162))=w3 at *;clear BU;go_call (KB.o _) as e w4 ⟨rfl,rfl⟩;obtain⟨B9,o9,d0,d1,d2,d3,z0,z1,z2,z3⟩:=FA (a':=0) (b':=0) (c':=0) (s':=⟨#[]⟩) B3.o;have B9:=xh B9;have o9:=xh o9;go_wp2_with fail
   subst hR;exact bodyPost_ret (Fy rfl rfl B9.o) rfl ⟨rfl,A3.o.only o9.o (λg hg hm=>NQ.o (by rw[<-aG.1 hm];exact hg)),qh ((ql O3.o).trans (qm o9.o)) (ai _)⟩
 .rw[U8 (by simpa using h1)]at hR;have hq:(ue==0)=false:=i4 h1
  have kP:(ue != 0)=true:=lm h1
  clear h1;go_in;go_wp2_with fail;go_call KU.o as e w1 ⟨rfl,mm,ow⟩;have A1:=xh<|HM.o _ mm ow;have B1:=xh<|B0.o.only ow (λhm=>NM.o (aG.1 hm).symm);have O1:=xh<|(ah.aj (S:=x.fp) O0.o).trans (ow.mono (λg hg _=>by rw[aG.1 hg];simp[X.fp]));clear mm ow;obtain⟨B9,o9,d0,d1,d2,d3,z0,z1,z2,z3⟩:=FA (a':=0) (b':=0) (c':=0) (s':=⟨#[]⟩) B1.o;have B9:=xh B9;have o9:=xh o9
  go_wp2_with fail;subst hR;exact bodyPost_ret (Fy rfl rfl B9.o) rfl ⟨rfl,A1.o.only o9.o (λg hg hm=>NQ.o (by rw[<-aG.1 hm];exact hg)),qh ((ql O1.o).trans (qm o9.o)) (ai _)⟩
attribute [local go_sem ↓] bP
variable{n:Nat}{id kd:Int}{w0:BY}{tv:By}
def C.uM(c:C)(n:Nat)(x:Int)(k:Nat):C×Int:=
 if(c.bH n x 1).2.2≠0 then((c.bH n x 1).1,(c.bH n x 1).2.2)
 else if(List.range k).any (λj=>decide (1024<Rt.bS (c.bH n x 1).2.1.s (2*j)))=true then((c.bH n x 1).1,14)
 else({(c.bH n x 1).1 with table:=(c.bH n x 1).1.table++Rt.cF (c.bH n x 1).2.1.s k},0)
def C.eY(c:C)(n lg:Nat):Nat->C×Int
 |0=>(c,0)
 |i+1=>if(c.eY n lg i).2≠0 then c.eY n lg i else(c.eY n lg i).1.uM n (c.parts.getD i 0) (min 116 (lg-116*i))
def oy(c:C)(n lg i:Nat):c.eY n lg (i+1)=if(c.eY n lg i).2≠0 then c.eY n lg i else(c.eY n lg i).1.uM n (c.parts.getD i 0) (min 116 (lg-116*i)):=rfl
def FC(c:C)(n lg i:Nat)(h:(c.eY n lg i).2≠0):∀k,c.eY n lg (i+k)=c.eY n lg i
 |0=>rfl
 |k+1=>by
  have ih:=FC c n lg i h k;rw[show i+(k+1)=(i+k)+1 by omega,oy,ih,U8 h]
def iJ(c:C)(n:Nat)(id kd:Int):(c.bH n id kd).1={c with m:=(Fm.pw c.m id).1}:=by
 unfold C.bH
 split
 .rfl
 .split
  .rfl
  .split<;>rfl
def uH{d:D}{x:Int}(h:(aV d n x).2=0):(aV d n x).1.s.length=232:=by
 unfold aV at h ⊢
 by_cases h1:x<0\/(cJ n:Int)<=x
 .rw[U8 h1]at h;exact eq h ms
 rw[U9 h1]at h ⊢
 by_cases h2:d.down=true
 .rw[U8 h2]at h;exact eq h ms
 rw[U9 h2]at h ⊢;generalize (d.now.drop (64*(2+4*x.toNat))).take 256=b at *
 by_cases h3:(jx b).2≠0
 .rw[U8 h3]at h;exact eq h h3
 rw[U9 h3]at h ⊢
 by_cases h4:(jx b).1.id≠x
 .rw[U8 h4]at h;exact eq h ms
 rw[U9 h4];have h3:(jx b).2=0:=ls
 unfold jx at h3 ⊢
 by_cases g1:b.length≠256
 .rw[U8 g1]at h3;exact eq h3 ms
 rw[U9 g1]at h3 ⊢
 by_cases g2:ky.iU (ky.lD (b.drop 4))≠b.take 4
 .rw[U8 g2]at h3;exact eq h3 ms
 rw[U9 g2]at h3 ⊢
 by_cases g3:Ow (lN b).id (lN b).ep (lN b).kd=true
 .rw[U8 g3];show(b.drop 24).length=232;rw[ef];omega
 .rw[U9 g3]at h3;exact eq h3 ms
def check_ok{c:C}(h:(c.bH n id kd).2.2=0):(Fm.pw c.m id).2=0/\(aV c.d n id).2=0/\(aV c.d n id).1.kd=kd/\(aV c.d n id).1.ep<=c.ep/\(c.bH n id kd).2.1=(aV c.d n id).1:=by
 unfold C.bH at h ⊢
 by_cases h1:(Fm.pw c.m id).2≠0
 .rw[U8 h1]at h;exact eq h (show ¬(14:Int)=0 by decide)
 rw[U9 h1]at h ⊢
 by_cases h2:(aV c.d n id).2≠0
 .rw[U8 h2]at h;unfold Gk at h
  split at h<;>cases h
 rw[U9 h2]at h ⊢
 by_cases h3:(aV c.d n id).1.kd≠kd\/c.ep<(aV c.d n id).1.ep
 .rw[U8 h3]at h;exact eq h (show ¬(14:Int)=0 by decide)
 rw[U9 h3];exact⟨ls,ls,ls,ls,rfl⟩
def WO{c:C}(h:(c.bH n id kd).2.2=0):(c.bH n id kd).2.1.s.length=232:=by
 obtain⟨_,h2,_,_,h5⟩:=check_ok h;rw[h5];exact uH h2
def rf(c:C)(n lg:Nat):∀i,(c.eY n lg i).1.d=c.d/\(c.eY n lg i).1.aR=c.aR/\(c.eY n lg i).1.parts=c.parts/\(c.eY n lg i).1.ep=c.ep/\(c.eY n lg i).1.slot=c.slot/\(c.eY n lg i).1.broken=c.broken
 |0=>⟨rfl,rfl,rfl,rfl,rfl,rfl⟩
 |i+1=>by
  have ih:=rf c n lg i;rw[oy]
  split
  .exact ih
  .unfold C.uM
   split
   .rw[iJ];exact ih
   .split
    .rw[iJ];exact ih
    .rw[iJ];exact ih
def ID(c:C)(n lg:Nat)(hc:c.table=[]):∀i,(c.eY n lg i).1.table.length<=min (116*i) lg
 |0=>by show c.table.length<=_;rw[hc];simp
 |i+1=>by
  have ih:=ID c n lg hc i;rw[oy]
  split
  .omega
  .unfold C.uM
   split
   .rw[iJ];show(c.eY n lg i).1.table.length<=_;omega
   .split
    .rw[iJ];show(c.eY n lg i).1.table.length<=_;omega
    .rw[iJ];show((c.eY n lg i).1.table++_).length<=_;rw[bC,Rt.Aj];omega
section
variable{w w':BY}{x:X}{n:Nat}{c:C}
def At.addL(h:At w x n c)(l:List Int){v':By}(S:Sl w' 3 v' (c.table.length+l.length) (di (c.table++l)))(ow:ah (cB x.tv) w w')(fr:∀g∈cB v',g∈cB x.tv\/w.heap.size<=g)(hl:c.table.length+l.length<=512):
  w'.cell? ⟨x.b,2,none⟩=some x.tv/\w'.frozen? ⟨x.b,2,none⟩=false/\At (w'.setCell ⟨x.b,2,none⟩ v') {x with tv:=v'} n {c with table:=c.table++l}/\ah x.fp w (w'.setCell ⟨x.b,2,none⟩ v')/\∀g∈({x with tv:=v'}:X).fp,g∈x.fp\/w.heap.size<=g:=by
 have ne:=h.BV h.ht;have B1:=h.hb.only ow ne.1;have B2:aM (w'.setCell ⟨x.b,2,none⟩ v') x.b 146 #[dp x.L.b,Fm.mp x.mb,v',x.ov,x.pv,c.ep,c.slot,WF c.broken]:=B1.ct 2 v';have o2:=(ah.refl [x.b] w').setCell (p:=⟨x.b,2,none⟩) lw v';have D1:=h.hd.only ow ne.2.2;have M1:=h.hm.only ow ne.2.1 h.n1;have O1:=h.ho.only ow (λy hy hm=>h.n4 y hm hy);have P1:=h.hp.only ow (λy hy hm=>h.n5 y hm hy)
 have Ks:∀{t:TypeId} {cs:Array By} {b:Nat},aM w' b t cs->t≠146->b∉[x.b]:=by
  intro t cs b B fy hm;simp at hm;subst hm;exact fy (B.inj B1).1
 have hs:∀{v:By} {k:Nat} {l:List By},Sl w' 3 v k l->∀g∈cB v,g∉[x.b]:=λS g hg=>by
  obtain⟨cs,B⟩:=vC S g hg;exact Ks B ms
 refine⟨B1.ae rfl,B1.frozen 2 (by simp[wW]),⟨B2,D1.only o2 ?_,M1.only o2 (Ks M1.hb ms) (Ks M1.hg ms),?_,O1.only o2 (hs O1),P1.only o2 (λg hg hm=>P1.bh B1 ms ms (by rw[<-aG.1 hm];exact hg)),?_,h.n2,h.n3,?_,?_,h.n6,by show(c.table++l).length<=512;rw[bC];exact hl⟩,?_,?_⟩
 .intro g hg;simp only[Loc.fp,ax,iD,or_false]at hg
  rcases hg with rfl|rfl|rfl|rfl
  .exact Ks D1.hb ms
  .exact Ks D1.hN ms
  .exact Ks D1.hO ms
  .exact Ks D1.hL ms
 .show Sl _ _ v' (c.table++l).length _;rw[bC];exact S.only o2 (hs S)
 .exact λhg=>(fr x.mg hg).elim h.n1 (λCH=>by have:=h.hm.hg.lt;omega)
 .exact λg hg ho=>(fr g hg).elim (λh1=>h.n4 g h1 ho) (λCH=>by have:=h.ho.lt g ho;omega)
 .exact λg hg ho=>(fr g hg).elim (λh1=>h.n5 g h1 ho) (λCH=>by have:=h.hp.lt g ho;omega)
 .exact(ow.mono (λg hg _=>by simp[X.fp,hg])).trans (o2.mono (λg hg _=>by simp at hg;subst hg;simp[X.fp]))
 .intro g hg;simp only[X.fp,ax,aK]at hg ⊢
  rcases hg with hg|hg|hg|((hg|hg)|hg)|hg
  .exact .inl (.inl hg)
  .exact .inl (.inr (.inl hg))
  .exact .inl (.inr (.inr (.inl hg)))
  .exact .inl (.inr (.inr (.inr (.inl (.inl (.inl hg))))))
  .exact(fr g hg).imp (λh1=> .inr (.inr (.inr (.inl (.inl (.inr h1)))))) _root_.id
  .exact .inl (.inr (.inr (.inr (.inl (.inr hg)))))
  .exact .inl (.inr (.inr (.inr (.inr hg))))
structure Xp(w0 w:BY)(x:X)(n:Nat)(c:C)(tv:By):Prop where
 a:At w {x with tv:=tv} n c
 o:ah x.fp w0 w
 f:∀g∈({x with tv:=tv}:X).fp,g∈x.fp\/w0.heap.size<=g
def Xp.below(h:Xp w0 w x n c tv)(hb:i7 w w'):Xp w0 w' x n c tv:=⟨h.a.below hb,h.o.trans (.aj hb),h.f⟩
def Xp.step{w0:BY}{tv:By}{c':C}(h:Xp w0 w x n c tv)(A:At w' {x with tv:=tv} n c')(o:ah ({x with tv:=tv}:X).fp w w'):Xp w0 w' x n c' tv:=
 ⟨A,h.o.bj o (λg hg dP=>(h.f g hg).elim _root_.id (λh=>by omega)),h.f⟩
def Xp.step2{w0:BY}{tv tv':By}{c':C}(h:Xp w0 w x n c tv)(A:At w' {x with tv:=tv'} n c')(o:ah ({x with tv:=tv}:X).fp w w')(f:∀g∈({x with tv:=tv'}:X).fp,g∈({x with tv:=tv}:X).fp\/w.heap.size<=g):Xp w0 w' x n c' tv':=
 ⟨A,h.o.bj o (λg hg dP=>(h.f g hg).elim _root_.id (λh=>by omega)),λg hg=>(f g hg).elim (h.f g) (λCH=> .inr (aD h.o.size CH))⟩
end
def any_or{T:UV}{k:Nat}:((List.range k).any (λj=>decide (1024<Rt.bS T (2*j)))=true↔ ∃j,j<k/\1024<Rt.bS T (2*j)):=by
 simp[OQ,mf]
def load_any{w:BY}{x:X}{n lg:Nat}{c:C}(h:At w x n c)(htb:c.table=[])(hl:lg<=512)(tQ:c.parts.length=cd lg):
  Calls prog 83 #[sp x.b,(lg:Nat)] w λe w'=>e=fd (U5 U6 (c.eY n lg c.parts.length).2)/\∃tv,Xp w w' x n (c.eY n lg c.parts.length).1 tv:=by
 have f4:=h.f4;obtain⟨PA,pc,hpv,hpc⟩:=h.hp.val;rw[hpv]at f4;have HPV:=xh hpv;have H0:=g9 (Xp w w x n (c.eY n lg 0).1 x.tv) ⟨h,ah.refl _ _,λg hg=> .inl hg⟩;have HL:=xh<|ID c n lg htb;have HF:=xh<|rf c n lg;have HS:=xh<|FC c n lg;have HN:=xh tQ;have HSC:=xh<|oy c n lg;obtain⟨np,hnp⟩:∃np,c.parts.length=np:=⟨_,rfl⟩;rw[hnp]at f4 HPV HN ⊢;have HNP:=xh hnp
 have np5:np<=5:=by have:=HN.o;unfold cd at this;omega
 have HLG:=xh hl;have Z0:(c.eY n lg 0).2=0:=rfl;have HZ:=xh Z0;clear h htb tQ hpv hpc hnp hl Z0;unfold sp;go_in;go_wp2_with fail
 go_loopw [15] (λiv wr=> ∃i:Nat,i<=np/\iv=U5 U6 i/\Hid (∃tv,Xp w wr x n (c.eY n lg i).1 tv)/\Hid ((c.eY n lg i).2=0)) (λiv _=>np-(intOf iv).toNat)
 case atStart=>exact⟨0,bG _,rfl,xh ⟨_,H0.o⟩,HZ⟩
 case round=>
  obtain⟨i,hi,rfl,HC,HE⟩:=hrel
  by_cases h':i<np
  .have Xc:(i:Int)<(np:Int):=ls
   obtain⟨tv,A⟩:=HC.o;obtain⟨_,_,OG,Tk,_,_⟩:=HF.o i;obtain⟨g,cp,rest,hv,⟨_,B⟩,_,_⟩:=A.a.hp.form (by rw[OG,HNP.o];omega);dsimp only at hv;rw[HPV.o,OG,HNP.o]at hv;injection hv with e1 e2 e3
   subst e1 e3;clear e2;have cj:wr.cell? ⟨g,i,none⟩=some (U5 U6 (c.parts.getD i 0)):=B.ae (by rw[OG,dr,bX (by simp;have:=HNP.o;omega),pJ _ _ (by have:=HNP.o;omega)]);have Kw:=HSC.o i;rw[U9 (by rw[HE.o];decide)]at Kw;have hlen:=HL.o i;have hlg:116*i<lg:=by have:=HN.o;unfold cd at this;omega
   obtain⟨k,hk⟩:∃k,k=min 116 (lg-116*i):=⟨_,rfl⟩;rw[<-hk]at Kw;have hk1:k<=116:=ls
   have Xe:1<=k:=ls
   have KMIN:min (116:Int) ((lg:Int)-(i:Int)*116)=(k:Int):=ls
   have KLG:=HLG.o;have e1:U6.wrap ((i:Int)*116)=(i:Int)*116:=d9;have e2:U6.wrap ((lg:Int)-(i:Int)*116)=(lg:Int)-(i:Int)*116:=d9;have HK:=xh hk;have HLEN:=xh hlen;have ru:=xh Kw;have QL:=xh<|HS.o (i+1);clear Kw hk hlen B OG Tk;obtain⟨ci,hci⟩:∃ci,(c.eY n lg i).1=ci:=⟨_,rfl⟩;rw[hci]at A HLEN ru;generalize c.parts.getD i 0=pid at *;have KC:=xh<|l6 A.a pid 1;have HA:=xh A
   clear A hci;unfold C.uM at ru;obtain⟨Rr,hRr⟩:∃Rr,ci.bH n pid 1=Rr:=⟨_,rfl⟩;have hcf:=iJ ci n pid 1;have Bg:=WO (c:=ci) (n:=n) (id:=pid) (kd:=1);rw[hRr]at KC ru hcf Bg;obtain⟨c2,⟨Bf,rep,vD,rs⟩,er⟩:=Rr;dsimp only at hcf Bg ru;have HT2:=g9 (c2.table=ci.table) (by rw[hcf]);clear hRr hcf;unfold PG.val jw sp at KC;dsimp only at KC
   by_cases nh:er=0
   .subst nh;have wv:=Bg rfl;clear Bg;rw[U9 (show ¬(0:Int)≠0 by decide)]at ru;have KG:=xh (λW=>Rt.LH ⟨rs.toArray⟩ k hk1 (by show 2*k<=rs.toArray.size;simp[wv];omega) (by show rs.toArray.size<=1000000;simp[wv]) W);rw[show(⟨rs.toArray⟩:Nm).data.toList=rs from by simp]at KG;have HAN:=xh<|any_or (T:=rs) (k:=k);clear wv;go_wp2_with fail;go_call KC.o as e w2 ⟨rfl,A2,o2⟩;have L2:=xh<|HA.o.step A2 o2
    have a3:=i6 w2 (Pi #[Bf,rep,vD,U7 ⟨rs.toArray⟩] 162);have L3:=xh<|L2.o.below a3;clear A2 o2 a3;go_wp2_with fail
    all_goals (have XL:=HK.o;first|rw[show Value.int IntKind.i64 ((lg:Int)-(i:Int)*116)=U5 U6 (k:Int)from by congr 1;omega]|rw[show Value.int IntKind.i64 (116:Int)=U5 U6 (k:Int)from by congr 1;omega]|skip)
    all_goals clear XL
    all_goals
     generalize BU:(w2.alloc (Pi #[Bf,rep,vD,U7 ⟨rs.toArray⟩] 162))=w3 at *;clear BU;go_call (KG.o _) as e w4 ⟨hx,iZ⟩;have L4:=xh<|L3.o.below iZ;clear iZ
     rcases hx with⟨hbad,rfl⟩|⟨hgood,V,rfl,SV,fV⟩
     .rw[U8 (HAN.o.2 hbad)]at ru;have yG:=xh (show c.eY n lg np=(c2,14)from by
       have:=QL.o (by rw[ru.o];exact(show(14:Int)≠0 by decide)) (np-(i+1));rw[show i+1+(np-(i+1))=np by omega]at this;rw[this,ru.o])
      clear hbad;go_wp2;go_ret;rw[yG.o];exact bz ⟨tv,L4.o⟩
     .rw[U9 (λh=>by
       obtain⟨j,hj,hq⟩:=HAN.o.1 h;have:=hgood j hj;omega)]at ru
      have hgl:(Rt.cF rs k).length=k:=Rt.Aj rs k;generalize Rt.cF rs k=gl at *;have f2:=L4.o.a.f2;dsimp only at f2;have St:=L4.o.a.ht;dsimp only at St;obtain⟨V1,c1,hV,_⟩:=(Sl.rQ SV).val;have SV2:Sl w4 3 (U3 V1 k c1) k (di gl):=by rw[<-hV];exact Sl.rQ SV
      have iO:∀j u,(di gl)[j]?=some u->∃a,V1=some a/\w4.cell? (a.add j)=some u:=by
       intro j u hu;obtain⟨g2,cp2,Uf,rl,B2,_,_⟩:=SV2.form ls;injection rl with e1 e2 e3
       subst e1;refine⟨_,rfl,?_⟩;rw[show(⟨g2,0,none⟩:Addr).add j=⟨g2,j,none⟩ by unfold Addr.add;split<;>simp_all];have hj:=(aW.1 hu).1;exact B2.ae (by rw[dr,bX hj];exact hu)
      have htl:c2.table.length+k<=512:=by
       rw[HT2.o];have:=HLEN.o;have:=HK.o;have:=HLG.o;omega
      obtain⟨v',w5,ea,S5,ow5,fr5⟩:=yu (P:=prog) St 60 60 (U5 U6 0) 8 underlying60 kX rfl V1 k c1 (di gl) (by simpa using hgl) iO (Ln gl) (by unfold maxLen;omega) ls;rw[<-gS]at S5;have S5':Sl w5 3 v' (c2.table.length+gl.length) (di (c2.table++gl)):=by rw[hgl];exact S5
      obtain⟨q5,z5,A5,o5,f5⟩:=L4.o.a.addL gl S5' ow5 fr5 (by rw[hgl];exact htl);dsimp only at q5;obtain⟨VT,vc,hvt,_⟩:=St.val;have L5:=xh<|L4.o.step2 A5 o5 f5;have HE2:=xh (show(c.eY n lg (i+1)).2=0 from by rw[ru.o]);have HC2:=xh (show(c.eY n lg (i+1)).1={c2 with table:=c2.table++gl}from by rw[ru.o]);rw[hV];have EA:=xh ea;have ei:U6.wrap ((i:Int)+1)=((i+1:Nat):Int):=d9;obtain⟨VN,vn,hvn,_⟩:=S5'.val;subst hvn
      rw[hvt]at f2 q5 EA;rw[hgl]at L5;clear SV SV2 hV iO St S5 S5' ow5 fr5 A5 o5 f5 ea hgood fV;go_wp2_with fail;rw[EA.o];go_wp2;go_roundw
      case rel=>exact⟨i+1,ls,by go_num,xh ⟨_,by rw[HC2.o];exact L5.o⟩,HE2⟩
      case measure=>simp[intOf];omega
   .have hq:(er != 0)=true:=lm nh
    have kP:(er==0)=false:=i4 nh
    rw[U8 nh]at ru;have yG:=xh (show c.eY n lg np=(c2,er)from by
     have:=QL.o (by rw[ru.o];exact nh) (np-(i+1));rw[show i+1+(np-(i+1))=np by omega]at this;rw[this,ru.o])
    clear nh Bg;go_wp2_with fail;go_call KC.o as e w2 ⟨rfl,A2,o2⟩;have L2:=xh<|HA.o.step A2 o2;have a3:=i6 w2 (Pi #[Bf,rep,vD,U7 ⟨rs.toArray⟩] 162);have L3:=xh<|L2.o.below a3;clear A2 o2 a3;go_wp2;go_ret;rw[yG.o];exact bz ⟨tv,L3.o⟩
  .obtain rfl:i=np:=ls
   have hz:=HE.o;obtain⟨tv,A⟩:=HC.o;have HA:=xh A;have HZ:=xh hz;clear A hz;go_wp2;go_ret;rw[HZ.o];exact bz ⟨tv,HA.o⟩
end Sh
namespace Rt
open Go.RowKit Pk
variable{a b c:By}{w W wx:BY}{n g:Nat}{v:UV}
def Xd(u:Nm)(a b:Nat):(u.extract a b).data.toList=(u.data.toList.drop a).take (b-a):=by
 rw[IL,Sy,IQ]
def arr(m:UV)(k:Nat):List Nat:=(List.range 5).map λi=>if i<k then bS m (4+2*i)else 0
def toLb{a b:Nm}(h:a≠b):(a.toList==b.toList)=false:=by
 apply beq_eq_false_iff_ne.2;intro e;rw[cM,cM]at e;exact h (mP (rk.1 e))
def iw.only{w':BY}{S:List Nat}{A:Option Addr}{l:List Int}(h:iw w A n l)(ho:ah S w w')(hA:∀ad,A=some ad->ad.block∉S):iw w' A n l:=by
 refine⟨h.1,λk x hx=>?_⟩;obtain⟨ad,e1,h1⟩:=h.2 k x hx;exact⟨ad,e1,(ho.cell (by rw[ji];exact wK h1) (by rw[ji];exact hA ad e1)).trans h1⟩
def arr_ints(B:aM W g 231 (wV (arr (fc v) 5)).toArray)(hn:bS (fc v) 2=n)(h5:n<=5):iw W (some ⟨g,0,none⟩) n (cy (l5 v)):=by
 have hl:(l5 v).length=n:=by unfold l5;simp[hn]
 refine⟨by simpa [cy]using hl,λk x hx=>⟨_,rfl,?_⟩⟩;have hk:k<n:=by have:=(aW.1 hx).1;simp only[cy,eZ,hl]at this;exact this
 have e:(⟨g,0,none⟩:Addr).add k=⟨g,k,none⟩:=by unfold Addr.add;split<;>simp_all
 rw[e,B.cell];have Ou:x=((bS (fc v) (4+2*k):Nat):Int):=by
  unfold cy l5 at hx;rw[hn,iM,iM,IW hk]at hx;simp at hx;exact hx.symm
 subst Ou;unfold wV arr;rw[dr,iM,iM,IW ls];simp[show k<5 by omega]
def arr_blk(B:aM W g 231 (wV (arr (fc v) 5)).toArray)(hn:bS (fc v) 2=n)(h5:n<=5):∃rest,aM W g 231 (wV (l5 v)++rest).toArray:=by
 refine⟨(wV (arr (fc v) 5)).drop n,?_⟩;have e:wV (l5 v)=(wV (arr (fc v) 5)).take n:=by
  unfold wV arr l5;rw[hn];apply lr;intro k
  by_cases hk:k<n
  .rw[kr hk];simp only[iM];rw[IW hk,IW ls];simp[show k<5 by omega]
  .rw[fw (by simp;omega),fw (by simp;omega)]
 rw[e,mo];exact B
def GotR(v:UV)(w:BY)(e:Ending)(w':BY):Prop:=
 ((fT v/\∃A c,e=fd (rg #[kk (fi v) (bS (fc v) 0:Nat) A (bS (fc v) 2) c,WF true])/\iw w' A (bS (fc v) 2) (cy (l5 v))/\bS (fc v) 2<=c/\(∀ad,A=some ad->w.heap.size<=ad.block)/\∃g rest,A=some ⟨g,0,none⟩/\c=bS (fc v) 2/\aM w' g 231 (wV (l5 v)++rest).toArray)\/
  (¬fT v/\e=fd (rg #[kk 0 0 none 0 0,WF false])))/\i7 w w'
def Gw(B:aM wx g 155 #[a,b,c]):(wx.frozen? ⟨g,0,none⟩=false/\wx.cell? (lc g)=some a)/\(wx.frozen? ⟨g,1,none⟩=false/\wx.cell? ⟨g,1,none⟩=some b)/\wx.frozen? ⟨g,2,none⟩=false/\wx.cell? ⟨g,2,none⟩=some c:=
 ⟨⟨B.frozen 0 lw,B.bi 0⟩,⟨B.frozen 1 lw,B.bi 1⟩,B.frozen 2 lw,B.bi 2⟩
def tA(B:aM wx w.heap.size 155 #[a,b,c])(O:i7 w wx)(x y z:By):aM (((wx.setCell ⟨w.heap.size,0,none⟩ x).setCell ⟨w.heap.size,1,none⟩ y).setCell ⟨w.heap.size,2,none⟩ z) w.heap.size 155 #[x,y,z]/\i7 w (((wx.setCell ⟨w.heap.size,0,none⟩ x).setCell ⟨w.heap.size,1,none⟩ y).setCell ⟨w.heap.size,2,none⟩ z):=
 ⟨((B.ct 0 x).ct 1 y).ct 2 z,((((ah.aj (S:=[]) O).setCell (p:=⟨w.heap.size,0,none⟩) (λh=>eq h lw) x).setCell (p:=⟨w.heap.size,1,none⟩) (λh=>eq h lw) y).setCell (p:=⟨w.heap.size,2,none⟩) (λh=>eq h lw) z).gq⟩
def step5{wa:BY}{g7 g3 g5 i q:Nat}{s r:Array By}(hq:bS (fc v) (4+2*i)=q)(A:aM wa g7 231 (wV (arr (fc v) i)).toArray)(B:aM wa w.heap.size 155 #[U5 U6 0,U5 U6 0,U3 none 0 0])(N:aM wa g3 9 s)(R:aM wa g5 155 r)(O:i7 w wa)(hi:i<5)(h1:w.heap.size<g7)(h3:g3≠g7)(h5:g5≠g7):
  wa.frozen? ⟨g7,i,none⟩=false/\wa.cell? ⟨g7,i,none⟩=some (U5 U6 0)/\Hid (aM (wa.setCell ⟨g7,i,none⟩ (q:Int)) g7 231 (wV (arr (fc v) (i+1))).toArray)/\Hid (aM (wa.setCell ⟨g7,i,none⟩ (q:Int)) w.heap.size 155 #[U5 U6 0,U5 U6 0,U3 none 0 0])/\Hid (aM (wa.setCell ⟨g7,i,none⟩ (q:Int)) g3 9 s)/\Hid (aM (wa.setCell ⟨g7,i,none⟩ (q:Int)) g5 155 r)/\Hid (i7 w (wa.setCell ⟨g7,i,none⟩ (q:Int))):=by
 subst hq;refine⟨A.frozen i (by simp[wV,arr];omega),A.ae (by simp[wV,arr,hi]),xh ?_,xh (B.bh (p:=⟨g7,i,none⟩) (by simp;omega) _),xh (N.bh (p:=⟨g7,i,none⟩) (by simp;omega) _),xh (R.bh (p:=⟨g7,i,none⟩) (by simp;omega) _),xh ((((ah.aj (S:=[]) O).setCell (p:=⟨g7,i,none⟩) (λh=>eq h (by simp;omega)) _)).gq)⟩;have:=A.ct i (bS (fc v) (4+2*i):Nat)
 rcases(show i=0\/i=1\/i=2\/i=3\/i=4 from by omega)with rfl|rfl|rfl|rfl|rfl<;>exact this
def NX(u:Nm)(hz:u.size=64)(w:BY):
  Calls prog 135 #[U7 u] w (GotR u.data.toList w):=by
 have B0:=xh<|aM.new w 155 #[U5 U6 0,U5 U6 0,U3 none 0 0];have O0:=xh<|i6 w (Pi #[U5 U6 0,U5 U6 0,U3 none 0 0] 155);obtain⟨v,hv⟩:∃v,u.data.toList=v:=⟨_,rfl⟩;have hvl:v.length=64:=by rw[<-hv];simpa using hz
 have K0:=xh (λw=>tO u 0 w (by omega) (by omega));have K1:=xh (λw=>tO u 56 w (by omega) (by omega));rw[Xd,hv]at K0 K1;obtain⟨T,hT⟩:∃T,u.extract 8 56=T:=⟨_,rfl⟩;have BH:T.data.toList=(v.drop 8).take 48:=by rw[<-hT,Xd,hv]
 have hTz:T.size=48:=by rw[<-hT,rK];omega
 have ZX:(qD ((v.drop 0).take (0+8-0)):Int)-9223372036854775808=fi v:=rfl;have rE:(v.drop 56).take (56+8-56)=v.drop 56:=cR (by rw[ef];omega);rw[ZX]at K0;rw[rE]at K1;obtain⟨ep,vz⟩:∃ep,fi v=ep:=⟨_,rfl⟩;obtain⟨ep2,hep2⟩:∃ep2,(qD (v.drop 56):Int)-9223372036854775808=ep2:=⟨_,rfl⟩;rw[vz]at K0;rw[hep2]at K1;have HG2:=g9 (fT v->ep=ep2) (λhg=>by rw[<-vz,<-hep2];unfold fi;rw[(DG hg).2]);have HU:=xh hv
 have HEP:=xh vz;rw[hv];have hzI:(u.size:Int)=64:=by omega
 unfold GotR kk;rw[vz]
 by_cases hc:ky.iU (ky.lD (T.data.toList.drop 4))=T.data.toList.take 4
 .have KC:=xh (λw=>ky.XI T w (by omega) (by unfold maxLen;omega) hc);obtain⟨Tm,hTm⟩:∃Tm,T.extract 4 T.size=Tm:=⟨_,rfl⟩;have hTml:Tm.data.toList=fc v:=by
   rw[<-hTm,Xd,BH,hTz];unfold fc;rw[List.drop_take,jF,Ja];rfl
  have hTmz:Tm.size=44:=by rw[<-hTm,rK];omega
  rw[hTm]at KC;have HTM:=xh hTml;clear hc BH vz hep2 ZX rE hTm hv;go_in;go_wp2_with fail;go_call (K0.o _) as e w1 ⟨rfl,bu⟩;have O1:=xh<|aE O0.o bu;have B1:=xh<|B0.o.below bu B0.o.lt;clear bu;go_wp2_with fail;go_call (K1.o _) as e w2 ⟨rfl,da⟩;have O2:=xh<|aE O1.o da;have B2:=xh<|B1.o.below da B1.o.lt;clear da;go_wp2_with fail;go_call (KC.o _) as e w3 ⟨rfl,gK⟩
  have HB3:=xh gK.size;have a4:=i6 w3 (Pi #[U7 Tm] 9);have O4:=xh<|aE (aE O2.o gK) a4;have B4:=xh<|(B2.o.below gK B2.o.lt).alloc (Pi #[U7 Tm] 9);have N4:=xh<|aM.new w3 9 #[U7 Tm];clear gK a4 KC
  by_cases Tk:ep=ep2
  .subst Tk;clear HG2;go_wp2_with fail;generalize NK:(w3.alloc (Pi #[U7 Tm] 9))=w4 at *;clear NK;have G0:=Dz N4.o 0 (by omega) (by omega);go_call G0 as e w5 ⟨rfl,oQ⟩;rw[HTM.o];have O5:=xh<|aE O4.o oQ;have B5:=xh<|B4.o.below oQ B4.o.lt;have N5:=xh<|N4.o.below oQ N4.o.lt;obtain⟨lg,hlg⟩:∃lg,bS (fc v) 0=lg:=⟨_,rfl⟩;have hlgl:=sj (fc v) 0;rw[hlg]at hlgl ⊢;have HLG:=xh hlg;clear oQ G0 hlg
   have a6:=i6 w5 (Pi #[U5 U6 ep,U5 U6 (lg:Int),U3 none 0 0] 155);have O6:=xh<|aE O5.o a6;have B6:=xh<|B5.o.alloc (Pi #[U5 U6 ep,U5 U6 (lg:Int),U3 none 0 0] 155);have N6:=xh<|N5.o.alloc (Pi #[U5 U6 ep,U5 U6 (lg:Int),U3 none 0 0] 155);have R6:=xh<|aM.new w5 155 #[U5 U6 ep,U5 U6 (lg:Int),U3 none 0 0];clear a6;go_wp2_with fail
   generalize OM:(w5.alloc (Pi #[U5 U6 ep,U5 U6 (lg:Int),U3 none 0 0] 155))=w6 at *;clear OM;have G2:=Dz N6.o 2 (by omega) (by omega);go_call G2 as e w7 ⟨rfl,oC⟩;rw[HTM.o];have O7:=xh<|aE O6.o oC;have B7:=xh<|B6.o.below oC B6.o.lt;have N7:=xh<|N6.o.below oC N6.o.lt;have R7:=xh<|R6.o.below oC R6.o.lt;obtain⟨n,hn⟩:∃n,bS (fc v) 2=n:=⟨_,rfl⟩;rw[hn];have HN:=xh hn;clear oC G2 hn
   by_cases hn5:n<=5
   .have hn5I:¬(5:Int)<(n:Int):=by omega
    have A8:=xh<|aM.new w7 231 #[U5 U6 0,U5 U6 0,U5 U6 0,U5 U6 0,U5 U6 0];have a8:=i6 w7 (Pi #[U5 U6 0,U5 U6 0,U5 U6 0,U5 U6 0,U5 U6 0] 231);have O8:=xh<|aE O7.o a8;have B8:=xh<|B7.o.alloc (Pi #[U5 U6 0,U5 U6 0,U5 U6 0,U5 U6 0,U5 U6 0] 231);have N8:=xh<|N7.o.alloc (Pi #[U5 U6 0,U5 U6 0,U5 U6 0,U5 U6 0,U5 U6 0] 231)
    have R8:=xh<|R7.o.alloc (Pi #[U5 U6 0,U5 U6 0,U5 U6 0,U5 U6 0,U5 U6 0] 231);clear a8;have hlt1:=B7.o.lt;have XN:=N7.o.lt;have hlt3:=R7.o.lt;have hlt4:w3.heap.size<w5.heap.size:=N5.o.lt;have hlt5:w.heap.size<w3.heap.size:=by have:=B2.o.lt;exact qy this HB3.o
    go_wp2_with fail;generalize NN:(w7.alloc (Pi #[U5 U6 0,U5 U6 0,U5 U6 0,U5 U6 0,U5 U6 0] 231))=w8 at *;clear NN
    go_loopw [59] (λiv wr=> ∃i:Nat,i<=5/\iv=U5 U6 (i:Int)/\Hid (aM wr w7.heap.size 231 (wV (arr (fc v) i)).toArray)/\Hid (aM wr w.heap.size 155 #[U5 U6 0,U5 U6 0,U3 none 0 0])/\Hid (aM wr w3.heap.size 9 #[U7 Tm])/\Hid (aM wr w5.heap.size 155 #[U5 U6 ep,U5 U6 (lg:Int),U3 none 0 0])/\Hid (i7 w wr)) (λiv _=>5-(intOf iv).toNat)
    case atStart=>exact⟨0,by omega,rfl,A8,B8,N8,R8,O8⟩
    case round=>
     obtain⟨i,hi,rfl,A9,B9,N9,R9,O9⟩:=hrel
     rcases(show i<5\/i=5 from by omega)with h5|rfl
     .have GH:=Dz N9.o (4+2*i) (by omega) (by omega);rw[HTM.o]at GH;obtain⟨qk,hqk⟩:∃qk,bS (fc v) (4+2*i)=qk:=⟨_,rfl⟩;have S:=xh (λ(wa:BY) (hb:i7 wr wa)=>step5 hqk (A9.o.below hb A9.o.lt) (B9.o.below hb B9.o.lt) (N9.o.below hb N9.o.lt) (R9.o.below hb R9.o.lt) (aE O9.o hb) h5 (by omega) (by omega) (by omega));rw[hqk]at GH;have GH:=xh GH;clear hqk
      rcases(show i=0\/i=1\/i=2\/i=3\/i=4 from by omega)with rfl|rfl|rfl|rfl|rfl
      all_goals
       dsimp only[Nat.reduceMul,Nat.reduceAdd]at GH;go_wp2_with fail;go_call GH.o as e wa ⟨rfl,hba⟩;obtain⟨fz,cz,Ab,Bb,Nb,Rb,Ob⟩:=S.o wa hba;clear hba;go_wp2;go_roundw
       case rel=>exact⟨_,by omega,by first|rfl|go_num,Ab,Bb,Nb,Rb,Ob⟩
       case measure=>simp[intOf]
     .have r0:wr.cell? ⟨w5.heap.size,0,none⟩=some (U5 U6 ep):=R9.ap 0;have r1:wr.cell? ⟨w5.heap.size,1,none⟩=some (U5 U6 (lg:Int)):=R9.ap 1;have r2:wr.cell? ⟨w5.heap.size,2,none⟩=some (U3 none 0 0):=R9.ap 2;have r3:wr.frozen? ⟨w5.heap.size,2,none⟩=false:=R9.o.frozen 2 (by simp)
      have RX:=g9 (aM (wr.setCell ⟨w5.heap.size,2,none⟩ (U3 (some ⟨w7.heap.size,0,none⟩) n n)) w5.heap.size 155 #[U5 U6 ep,U5 U6 (lg:Int),(U3 (some ⟨w7.heap.size,0,none⟩) n n)]) (R9.o.ct 2 (U3 (some ⟨w7.heap.size,0,none⟩) n n));have BX:=xh<|B9.o.bh (p:=⟨w5.heap.size,2,none⟩) (by simp;omega) (U3 (some ⟨w7.heap.size,0,none⟩) n n);have AX:=A9.o.bh (p:=⟨w5.heap.size,2,none⟩) (by simp;omega) (U3 (some ⟨w7.heap.size,0,none⟩) n n)
      have OX:=xh<|((ah.aj (S:=[]) O9.o).setCell (p:=⟨w5.heap.size,2,none⟩) (λh=>eq h (by simp;omega)) (U3 (some ⟨w7.heap.size,0,none⟩) n n)).gq;have IX:=xh<|arr_ints AX HN.o hn5;have AB:=xh<|arr_blk AX HN.o hn5;have n1:(n:Int)<=5:=by omega
      have n2:(0:Int)<=(n:Int):=by omega
      clear AX;obtain⟨Ps,hPs⟩:∃Ps,l5 v=Ps:=⟨_,rfl⟩;rw[hPs]at IX AB;have HPS:=xh hPs;clear hPs
      by_cases hr:gP ep (lg:Int) (cy Ps)
      .have KP:=xh<|Dl (w:=(wr.setCell ⟨w5.heap.size,2,none⟩ (U3 (some ⟨w7.heap.size,0,none⟩) n n))) ep lg (some ⟨w7.heap.size,0,none⟩) n n Ps IX.o (ai _) hr;obtain⟨RS,hRS⟩:∃RS:Nm,(⟨(eV ep lg Ps).toArray⟩:Nm)=RS:=⟨_,rfl⟩;rw[hRS]at KP;unfold kk at KP;have HR:=xh hr;clear hr
       by_cases hu:RS=u
       .have HGD:=g9 (fT v) ⟨by rw[HN.o];exact hn5,by rw[HEP.o,HLG.o,HPS.o];exact HR.o,by rw[HEP.o,HLG.o,HPS.o,<-HU.o,<-hu,<-hRS]⟩;subst hu;clear hRS;go_wp2_with fail;generalize hwx:(wr.setCell ⟨w5.heap.size,2,none⟩ (U3 (some ⟨w7.heap.size,0,none⟩) n n))=wx at *;clear hwx r0 r1 r2 r3;go_call KP.o as e wp ⟨rfl,OH⟩;have Op:=xh<|aE OX.o OH;have Bp:=xh<|BX.o.below OH BX.o.lt;have Rp:=xh<|RX.o.below OH RX.o.lt
        have Ip:=xh<|IX.o.below OH;obtain⟨rest,AB2⟩:=AB.o;have Ap:=xh<|AB2.below OH AB2.lt;clear AB2;have r0:wp.cell? ⟨w5.heap.size,0,none⟩=some (U5 U6 ep):=Rp.ap 0;have r1:wp.cell? ⟨w5.heap.size,1,none⟩=some (U5 U6 (lg:Int)):=Rp.ap 1;have r2:wp.cell? ⟨w5.heap.size,2,none⟩=some (U3 (some ⟨w7.heap.size,0,none⟩) n n):=Rp.ap 2;obtain⟨⟨zf0,zc0⟩,⟨zf1,zc1⟩,zf2,zc2⟩:=Gw Bp.o
        have Z:=xh<|tA Bp.o Op.o (U5 U6 ep) (U5 U6 (lg:Int)) (U3 (some ⟨w7.heap.size,0,none⟩) n n);have ZI:=xh<|Ip.o.only (((((ah.refl [w.heap.size] wp).setCell (p:=⟨w.heap.size,0,none⟩) (λ_=>by simp) (U5 U6 ep)).setCell (p:=⟨w.heap.size,1,none⟩) (λ_=>by simp) (U5 U6 (lg:Int))).setCell (p:=⟨w.heap.size,2,none⟩) (λ_=>by simp) (U3 (some ⟨w7.heap.size,0,none⟩) n n))) (λad h=>by injection h with h;subst h;simp;omega)
        have ZA:=xh<|Ap.o.only (((((ah.refl [w.heap.size] wp).setCell (p:=⟨w.heap.size,0,none⟩) (λ_=>by simp) (U5 U6 ep)).setCell (p:=⟨w.heap.size,1,none⟩) (λ_=>by simp) (U5 U6 (lg:Int))).setCell (p:=⟨w.heap.size,2,none⟩) (λ_=>by simp) (U3 (some ⟨w7.heap.size,0,none⟩) n n))) (by simp;omega);clear OH KP;go_wp2
        exact bodyPost_ret (lZ rfl rfl Z.o.1) rfl ⟨.inl ⟨HGD.o,some ⟨w7.heap.size,0,none⟩,n,by first|rfl|(rw[HLG.o,HN.o];rfl),by rw[HN.o,HPS.o];exact ZI.o,by rw[HN.o];exact ai _,λad h=>by injection h with h;subst h;exact O7.o.size,w7.heap.size,rest,rfl,by rw[HN.o],by rw[HPS.o];exact ZA.o⟩,Z.o.2⟩
       .have HNG:=xh (show ¬fT v from λhg=>hu (by
         have:=hg.2.2;rw[HEP.o,HLG.o,HPS.o,<-HU.o]at this;rw[<-hRS,this]))
        have q1:=toLb hu;have q2:¬RS.toList=u.toList:=by simpa using q1
        clear hRS hu;go_wp2_with fail;generalize hwx:(wr.setCell ⟨w5.heap.size,2,none⟩ (U3 (some ⟨w7.heap.size,0,none⟩) n n))=wx at *;clear hwx r0 r1 r2 r3;go_call KP.o as e wp ⟨rfl,OH⟩;have Op:=xh<|aE OX.o OH;have Bp:=xh<|BX.o.below OH BX.o.lt;clear OH KP;obtain⟨⟨zf0,zc0⟩,⟨zf1,zc1⟩,zf2,zc2⟩:=Gw Bp.o;have Z:=xh<|tA Bp.o Op.o (U5 U6 0) (U5 U6 0) (U3 none 0 0);go_wp2
        exact bodyPost_ret (lZ rfl rfl Z.o.1) rfl ⟨.inr ⟨HNG.o,rfl⟩,Z.o.2⟩
      .have KP:=xh<|rput_no (w:=(wr.setCell ⟨w5.heap.size,2,none⟩ (U3 (some ⟨w7.heap.size,0,none⟩) n n))) ep (lg:Int) (some ⟨w7.heap.size,0,none⟩) n n (cy Ps) IX.o (by omega) (ai _) hr;unfold kk at KP;have HNG:=xh (show ¬fT v from λhg=>hr (by
        have:=hg.2.1;rw[HEP.o,HLG.o,HPS.o]at this;exact this))
       clear hr;go_wp2_with fail;generalize hwx:(wr.setCell ⟨w5.heap.size,2,none⟩ (U3 (some ⟨w7.heap.size,0,none⟩) n n))=wx at *;clear hwx r0 r1 r2 r3;go_call KP.o as e wp ⟨rfl,OH⟩;have Op:=xh<|aE OX.o OH;have Bp:=xh<|BX.o.below OH BX.o.lt;clear OH KP;obtain⟨⟨zf0,zc0⟩,⟨zf1,zc1⟩,zf2,zc2⟩:=Gw Bp.o;have Z:=xh<|tA Bp.o Op.o (U5 U6 0) (U5 U6 0) (U3 none 0 0);go_wp2
       exact bodyPost_ret (lZ rfl rfl Z.o.1) rfl ⟨.inr ⟨HNG.o,rfl⟩,Z.o.2⟩
   .have hn5I:(5:Int)<(n:Int):=by omega
    have HNG:=g9 (¬fT v) (λhg=>hn5 (by rw[<-HN.o];exact hg.1));clear hn5;obtain⟨⟨zf0,zc0⟩,⟨zf1,zc1⟩,zf2,zc2⟩:=Gw B7.o;have Z:=xh<|tA B7.o O7.o (U5 U6 0) (U5 U6 0) (U3 none 0 0);go_wp2;exact bodyPost_ret (lZ rfl rfl Z.o.1) rfl ⟨.inr ⟨HNG.o,rfl⟩,Z.o.2⟩
  .have vh:(ep==ep2)=false:=by simpa using Tk
   have HNG:=g9 (¬fT v) (λhg=>Tk (HG2.o hg));clear HG2;generalize NK:(w3.alloc (Pi #[U7 Tm] 9))=w4 at *;obtain⟨⟨zf0,zc0⟩,⟨zf1,zc1⟩,zf2,zc2⟩:=Gw B4.o;have Z:=xh<|tA B4.o O4.o (U5 U6 0) (U5 U6 0) (U3 none 0 0);go_wp2;exact bodyPost_ret (lZ rfl rfl Z.o.1) rfl ⟨.inr ⟨HNG.o,rfl⟩,Z.o.2⟩
 .have KC:=xh (λw=>ky.zY T w (by omega) (by unfold maxLen;omega) hc);have HNG:=g9 (¬fT v) (λhg=>hc (by rw[BH];exact(DG hg).1));clear hc BH vz hep2 ZX rE hv;go_in;go_wp2_with fail;go_call (K0.o _) as e w1 ⟨rfl,bu⟩;have O1:=xh<|aE O0.o bu;have B1:=xh<|B0.o.below bu B0.o.lt;clear bu;go_wp2_with fail;go_call (K1.o _) as e w2 ⟨rfl,da⟩
  have O2:=xh<|aE O1.o da;have B2:=xh<|B1.o.below da B1.o.lt;clear da;go_wp2_with fail;go_call (KC.o _) as e w3 ⟨rfl,gK⟩;have a4:=i6 w3 (Pi #[U7 ⟨#[]⟩] 9);have O4:=xh<|aE (aE O2.o gK) a4;have B4:=xh<|(B2.o.below gK B2.o.lt).alloc (Pi #[U7 ⟨#[]⟩] 9);clear gK a4 KC
  by_cases Tk:ep=ep2
  .subst Tk;obtain⟨⟨zf0,zc0⟩,⟨zf1,zc1⟩,zf2,zc2⟩:=Gw B4.o;have Z:=xh<|tA B4.o O4.o (U5 U6 0) (U5 U6 0) (U3 none 0 0);go_wp2;exact bodyPost_ret (lZ rfl rfl Z.o.1) rfl ⟨.inr ⟨HNG.o,rfl⟩,Z.o.2⟩
  .have vh:(ep==ep2)=false:=by simpa using Tk
   obtain⟨⟨zf0,zc0⟩,⟨zf1,zc1⟩,zf2,zc2⟩:=Gw B4.o;have Z:=xh<|tA B4.o O4.o (U5 U6 0) (U5 U6 0) (U3 none 0 0);go_wp2;exact bodyPost_ret (lZ rfl rfl Z.o.1) rfl ⟨.inr ⟨HNG.o,rfl⟩,Z.o.2⟩
def wh{fn:Func}{p u q:Tmp}{ty:TypeId}(h:fn.results= #[.cell p ty,.tmp u,.tmp q])(tmps:Array By)(P:Program)(w:BY):
  (results fn tmps).run P w=((asAddr (tmps.getD p undef)).run P w).andThen λa w₁=>((loadVar ty a).run P w₁).andThen λv w₂=> .ok (rg #[v,tmps.getD u undef,tmps.getD q undef]) w₂:=by
 simp only[results,h];simp[Sem.run_bind,Result.andThen]
def qp{fn:Func}{p u q:Tmp}{w:BY}{g:Nat}{a b:Int}{A:Option Addr}{n c:Nat}{tmps:Array By}(h:fn.results= #[.cell p 155,.tmp u,.tmp q])(hp:tmps.getD p undef=st (some ⟨g,0,none⟩))(B:aM w g 155 #[a,b,U3 A n c]):
  (results fn tmps).run prog w=.ok (rg #[kk a b A n c,tmps.getD u undef,tmps.getD q undef]) w:=by
 have c0:=B.bi 0;have c1:=B.bi 1;have c2:=B.bi 2;rw[wh h,hp];clear h hp B;unfold kk;go_simp
variable{w w':BY}{b c:Nat}{t:UV}{A:Option Addr}
def Pa(w:BY)(b:Nat)(t:UV)(A:Option Addr)(c:Nat):Prop:= ∃g rest,b<=g/\A=some ⟨g,0,none⟩/\c=bS (fc t) 2/\aM w g 231 (wV (l5 t)++rest).toArray
def Pa.below(h:Pa w b t A c)(hb:i7 w w'):Pa w' b t A c:=by
 obtain⟨g,rest,h1,h2,h3,B⟩:=h;exact⟨g,rest,h1,h2,h3,B.below hb B.lt⟩
def Pa.le{b':Nat}(h:Pa w b t A c)(hb:b'<=b):Pa w b' t A c:=by
 obtain⟨g,rest,h1,h2⟩:=h;exact⟨g,rest,ls,h2⟩
def Pa.set(h:Pa w b t A c){p:Addr}(hp:p.block<b)(v:By):Pa (w.setCell p v) b t A c:=by
 obtain⟨g,rest,h1,h2,h3,B⟩:=h;exact⟨g,rest,h1,h2,h3,B.bh ls v⟩
def NewR(u v:UV)(w:BY)(e:Ending)(w':BY):Prop:=
 ((∃(t:UV) (k:Int) (A:Option Addr) (c:Nat),((k=1/\t=v/\fT v/\(fT u->fi u<fi v))\/(k=0/\t=u/\fT u/\(fT v->fi v<=fi u)))/\e=fd (rg #[kk (fi t) (bS (fc t) 0:Nat) A (bS (fc t) 2) c,U5 U6 k,WF true])/\Pa w' (w.heap.size+1) t A c)\/
  (¬fT u/\¬fT v/\e=fd (rg #[kk 0 0 none 0 0,U5 U6 (-1),WF false])))/\i7 w w'
def Pa.tA{g:Nat}(h:Pa w b t A c)(hg:g<b)(x y z:By):Pa (((w.setCell ⟨g,0,none⟩ x).setCell ⟨g,1,none⟩ y).setCell ⟨g,2,none⟩ z) b t A c:=((h.set (p:=⟨g,0,none⟩) hg x).set (p:=⟨g,1,none⟩) hg y).set (p:=⟨g,2,none⟩) hg z
def GotR.any{u:UV}{e:Ending}(h:GotR u w e w'):∃(ep lg:Int) (A:Option Addr) (n c:Nat) (g:Bool),e=fd (rg #[.agg #[ep,lg,U3 A n c],WF g])/\i7 w w'/\(g=true->fT u/\ep=fi u/\lg=(bS (fc u) 0:Nat)/\n=bS (fc u) 2/\Pa w' w.heap.size u A c)/\(g=false->¬fT u):=by
 obtain⟨⟨hg,A,c,rfl,-,-,hA,g,rest,e1,e2,B⟩|⟨hg,rfl⟩,hb⟩:=h
 .exact⟨_,_,A,_,c,true,rfl,hb,(λ_=>⟨hg,rfl,rfl,rfl,g,rest,hA _ e1,e1,e2,B⟩),(λh=>by cases h)⟩
 .exact⟨0,0,none,0,0,false,rfl,hb,(λh=>by cases h),(λ_=>hg)⟩
def WQ(a b:Nm)(ha:a.size=64)(hb:b.size=64)(w:BY):
  Calls prog 80 #[U7 a,U7 b] w (NewR a.data.toList b.data.toList w):=by
 have B0:=xh<|aM.new w 155 #[U5 U6 0,U5 U6 0,U3 none 0 0];have O0:=xh<|i6 w (Pi #[U5 U6 0,U5 U6 0,U3 none 0 0] 155);have K0:=xh (λw=>NX a ha w);have K1:=xh (λw=>NX b hb w);generalize hu:a.data.toList=u at *;generalize hv:b.data.toList=v at *;clear hu hv ha hb;unfold NewR kk;go_in;go_wp2_with fail;go_call (K0.o _) as e w1 hx
 obtain⟨xe,xl,xA,xn,xc,gx,rfl,bu,XT,XF⟩:=hx.any;have a2:=i6 w1 (Pi #[U5 U6 xe,U5 U6 xl,U3 xA xn xc] 155);have O2:=xh<|aE (aE O0.o bu) a2;have B2:=xh<|(B0.o.below bu B0.o.lt).alloc (Pi #[U5 U6 xe,U5 U6 xl,U3 xA xn xc] 155);have X2:=xh<|aM.new w1 155 #[U5 U6 xe,U5 U6 xl,U3 xA xn xc]
 replace XT:=xh<|And.intro XT a2
 replace XF:=xh XF
 clear hx bu a2;go_wp2_with fail;generalize (w1.alloc (Pi #[U5 U6 xe,U5 U6 xl,U3 xA xn xc] 155))=w2 at *;go_call (K1.o _) as e w3 hy;obtain⟨ye,yl,yA,yn,yc,gy,rfl,gK,YT,YF⟩:=hy.any;have a4:=i6 w3 (Pi #[U5 U6 ye,U5 U6 yl,U3 yA yn yc] 155);have O4:=xh<|aE (aE O2.o gK) a4;have B4:=xh<|(B2.o.below gK B2.o.lt).alloc (Pi #[U5 U6 ye,U5 U6 yl,U3 yA yn yc] 155)
 have X4:=(X2.o.below gK X2.o.lt).alloc (Pi #[U5 U6 ye,U5 U6 yl,U3 yA yn yc] 155);have Y4:=aM.new w3 155 #[U5 U6 ye,U5 U6 yl,U3 yA yn yc];have hs:w.heap.size+1<=w2.heap.size:=by have:=O2.o.size;have:=B2.o.lt;omega
 have XQ:=xh (show gx=true->fT u/\xe=fi u/\xl=(bS (fc u) 0:Nat)/\xn=bS (fc u) 2/\Pa (w3.alloc (Pi #[U5 U6 ye,U5 U6 yl,U3 yA yn yc] 155)) (w.heap.size+1) u xA xc from λh=>by
  obtain⟨h1,h2,h3,h4,P⟩:=XT.o.1 h;exact⟨h1,h2,h3,h4,(P.le (by simp)).below (aE (aE XT.o.2 gK) a4)⟩)
 have YQ:=xh (show gy=true->fT v/\ye=fi v/\yl=(bS (fc v) 0:Nat)/\yn=bS (fc v) 2/\Pa (w3.alloc (Pi #[U5 U6 ye,U5 U6 yl,U3 yA yn yc] 155)) (w.heap.size+1) v yA yc from λh=>by
  obtain⟨h1,h2,h3,h4,P⟩:=YT h;exact⟨h1,h2,h3,h4,(P.le hs).below a4⟩)
 replace YF:=xh YF
 obtain⟨⟨zf0,zc0⟩,⟨zf1,zc1⟩,zf2,zc2⟩:=Gw B4.o;obtain⟨⟨-,xk0⟩,⟨-,xk1⟩,-,xk2⟩:=Gw X4;obtain⟨⟨-,yk0⟩,⟨-,yk1⟩,-,yk2⟩:=Gw Y4;clear hy gK a4 YT X4 Y4 hs
 cases gy
 .cases gx
  .have Z:=xh<|tA B4.o O4.o (U5 U6 0) (U5 U6 0) (U3 none 0 0);go_wp2;exact bodyPost_ret (qp rfl rfl Z.o.1) rfl ⟨.inr ⟨XF.o (by trivial),YF.o (by trivial),rfl⟩,Z.o.2⟩
  .have Z:=xh<|tA B4.o O4.o (U5 U6 xe) (U5 U6 xl) (U3 xA xn xc);go_wp2_with fail;obtain⟨g1,rfl,rfl,rfl,P⟩:=XQ.o (by trivial);exact bodyPost_ret (qp rfl rfl Z.o.1) rfl ⟨.inl ⟨u,_,xA,xc,.inr ⟨rfl,rfl,g1,λh=>eq h (YF.o (by trivial))⟩,rfl,P.tA (by omega) _ _ _⟩,Z.o.2⟩
 .cases gx
  .have Z:=xh<|tA B4.o O4.o (U5 U6 ye) (U5 U6 yl) (U3 yA yn yc);go_wp2_with fail;obtain⟨g1,rfl,rfl,rfl,P⟩:=YQ.o (by trivial);exact bodyPost_ret (qp rfl rfl Z.o.1) rfl ⟨.inl ⟨v,_,yA,yc,.inl ⟨rfl,rfl,g1,λh=>eq h (XF.o (by trivial))⟩,rfl,P.tA (by omega) _ _ _⟩,Z.o.2⟩
  .by_cases hc:xe<ye
   .have HC:=xh hc;have Z:=xh<|tA B4.o O4.o (U5 U6 ye) (U5 U6 yl) (U3 yA yn yc);go_wp2_with fail;obtain⟨g1,rfl,rfl,rfl,P⟩:=YQ.o (by trivial);exact bodyPost_ret (qp rfl rfl Z.o.1) rfl ⟨.inl ⟨v,_,yA,yc,.inl ⟨rfl,rfl,g1,λ_=>by rw[<-(XQ.o (by trivial)).2.1];exact HC.o⟩,rfl,P.tA (by omega) _ _ _⟩,Z.o.2⟩
   .have HC:=xh hc;clear hc;have dP:=HC.o;have Z:=xh<|tA B4.o O4.o (U5 U6 xe) (U5 U6 xl) (U3 xA xn xc);go_wp2_with fail;obtain⟨g1,rfl,rfl,rfl,P⟩:=XQ.o (by trivial);exact bodyPost_ret (qp rfl rfl Z.o.1) rfl ⟨.inl ⟨u,_,xA,xc,.inr ⟨rfl,rfl,g1,λ_=>by rw[<-(YQ.o (by trivial)).2.1];have:=HC.o;omega⟩,rfl,P.tA (by omega) _ _ _⟩,Z.o.2⟩
end Rt
namespace Sh
open Go.RowKit Pk Dk Pg
variable{w0 w w':BY}{L:Dk.Loc}{x:X}{n:Nat}
def C.gJ(c:C)(n:Nat):Nat->C×Int
 |0=>(c,0)
 |i+1=>if(c.gJ n i).2≠0 then c.gJ n i else if c.table.getD i 0<0 then c.gJ n i else(((c.gJ n i).1.bH n (c.table.getD i 0) 2).1,((c.gJ n i).1.bH n (c.table.getD i 0) 2).2.2)
def rh(c:C)(n i:Nat):c.gJ n (i+1)=if(c.gJ n i).2≠0 then c.gJ n i else if c.table.getD i 0<0 then c.gJ n i else(((c.gJ n i).1.bH n (c.table.getD i 0) 2).1,((c.gJ n i).1.bH n (c.table.getD i 0) 2).2.2):=rfl
def FD(c:C)(n i:Nat)(h:(c.gJ n i).2≠0):∀k,c.gJ n (i+k)=c.gJ n i
 |0=>rfl
 |k+1=>by
  have ih:=FD c n i h k;rw[show i+(k+1)=(i+k)+1 by omega,rh,ih,U8 h]
def xX(c:C)(n:Nat):∀i,∃m,(c.gJ n i).1={c with m:=m}
 |0=>⟨c.m,rfl⟩
 |i+1=>by
  obtain⟨m,ih⟩:=xX c n i;rw[rh]
  split
  .exact⟨m,ih⟩
  .split
   .exact⟨m,ih⟩
   .rw[iJ,ih];exact⟨_,rfl⟩
def pA(d:D)(n:Nat)(v:UV)(slot:Int):C:={d:=d,m:=it (cN n) 0,table:=[],aR:=[],parts:=Rt.cy (Rt.l5 v),ep:=Rt.fi v,slot:=slot,broken:=false}
def C.mY(c:C)(n lg:Nat):C×Int:=
 if(c.eY n lg c.parts.length).2≠0 then c.eY n lg c.parts.length
 else if((c.eY n lg c.parts.length).1.gJ n (c.eY n lg c.parts.length).1.table.length).2≠0 then(c.eY n lg c.parts.length).1.gJ n (c.eY n lg c.parts.length).1.table.length
 else({((c.eY n lg c.parts.length).1.gJ n (c.eY n lg c.parts.length).1.table.length).1 with aR:=(c.eY n lg c.parts.length).1.table},0)
section
variable{w w':BY}{x:X}{n:Nat}{c:C}
def At.newO(h:At w x n c){vo:By}{lo:List Int}(So:Sl w 3 vo lo.length (di lo))(go:∀g∈cB vo,g∉x.fp):
  w.cell? ⟨x.b,3,none⟩=some x.ov/\w.frozen? ⟨x.b,3,none⟩=false/\At (w.setCell ⟨x.b,3,none⟩ vo) {x with ov:=vo} n {c with aR:=lo}/\ah [x.b] w (w.setCell ⟨x.b,3,none⟩ vo):=by
 have o2:=(ah.refl [x.b] w).setCell (p:=⟨x.b,3,none⟩) lw vo;obtain⟨n1,n2,n3,n4⟩:=h.Jw h.hb;have ns:∀{v:By} {k:Nat} {l:List By},Sl w 3 v k l->∀g∈cB v,g∉[x.b]:=λS g hg hm=>n4 S (by rw[<-aG.1 hm];exact hg)
 exact⟨h.f3,h.fz 3 ls,⟨h.hb.ct 3 vo,h.hd.only o2 (λg hg hm=>n3 (by rw[<-aG.1 hm];exact hg)),h.hm.only o2 (λhm=>n1 (aG.1 hm).symm) (λhm=>n2 (aG.1 hm).symm),h.ht.only o2 (ns h.ht),So.only o2 (ns So),h.hp.only o2 (λg hg hm=>h.hp.bh h.hb ms ms (by rw[<-aG.1 hm];exact hg)),h.n1,λhg=>go _ hg (by simp[X.fp]),h.n3,λg hg hm=>go g hm (by simp[X.fp,hg]),h.n5,λg hg hm=>go g hg (by simp[X.fp,hm]),h.tl⟩,o2⟩
end
def ivs_nat(l:List Nat):di (Rt.cy l)=Rt.wV l:=by unfold di Rt.cy Rt.wV;rw[iQ];rfl
def decP_len(v:UV):(Rt.l5 v).length=Rt.bS (Rt.fc v) 2:=by unfold Rt.l5;simp
def wi(u v:UV)(t:UV)(k:Int):Prop:=(k=1/\t=v/\Rt.fT v/\(Rt.fT u->Rt.fi u<Rt.fi v))\/(k=0/\t=u/\Rt.fT u/\(Rt.fT v->Rt.fi v<=Rt.fi u))
def OpenR(d:D)(n:Nat)(L:Dk.Loc)(w:BY)(e:Ending)(w':BY):Prop:=
 aX w' L n d/\ah L.fp w w'/\
  ((∃t k,wi (sec d.now 0) (sec d.now 1) t k/\
    ((((pA d n t k).mY n (Rt.bS (Rt.fc t) 0)).2≠0/\e=fd (rg #[st none,U5 U6 ((pA d n t k).mY n (Rt.bS (Rt.fc t) 0)).2]))\/
     (((pA d n t k).mY n (Rt.bS (Rt.fc t) 0)).2=0/\∃x,x.L=L/\e=fd (rg #[sp x.b,U5 U6 0])/\At w' x n ((pA d n t k).mY n (Rt.bS (Rt.fc t) 0)).1/\∀g∈x.fp,g∈L.fp\/w.heap.size<=g)))\/
   (¬Rt.fT (sec d.now 0)/\¬Rt.fT (sec d.now 1)/\e=fd (rg #[st none,U5 U6 14])))
structure OW(w0 w:BY)(L:Dk.Loc)(x:X)(n:Nat)(c:C):Prop where
 a:At w x n c
 l:x.L=L
 o:ah L.fp w0 w
 f:∀g∈x.fp,g∈L.fp\/w0.heap.size<=g
def OW.step{x':X}{c c':C}(h:OW w0 w L x n c)(A:At w' x' n c')(hl:x'.L=x.L)(o:ah x.fp w w')(f:∀g∈x'.fp,g∈x.fp\/w.heap.size<=g):OW w0 w' L x' n c':=
 ⟨A,hl.trans h.l,h.o.bj o (λg hg dP=>(h.f g hg).elim _root_.id (λh=>by omega)),λg hg=>(f g hg).elim (h.f g) (λCH=> .inr (aD h.o.size CH))⟩
def OW.below{c:C}(h:OW w0 w L x n c)(hb:i7 w w'):OW w0 w' L x n c:=⟨h.a.below hb,h.l,h.o.trans (.aj hb),h.f⟩
end Sh
namespace Sh
open Go.RowKit Pk Dk Pg
variable{c:C}{n:Nat}{d d':D}{parts aR:List Int}{x k:Int}{t:UV}
structure fF(d:D)(n:Nat)(ep slot:Int)(aR parts:List Int)(o:List (Option (UV))):Prop where
 r:fD d n ep slot aR parts
 oi:∀x∈aR,x= -1\/(0<=x/\x<(cN n:Nat))
 oj:Dw aR
 pi:∀x∈parts,0<=x/\x<(cN n:Nat)
 dt:∀x∈parts,x∉aR
 ro:∀x∈aR,0<=x->Qg (Jz d) n x ep
 ab:aR.map (λx=>if x<0 then none else some (aV (Jz d) n x).1.s)=o
def Ct(g:Good c n)(R:fD c.d n c.ep c.slot c.aR c.parts):fF c.d n c.ep c.slot c.aR c.parts (c.bU n).aR:=
 ⟨R,λx hx=>by have:=g.oi x hx;rw[g.ml]at this;exact this,g.oj,λx hx=>by have:=g.pi x hx;rw[g.ml]at this;exact this,λx hx=>(g.dt x hx).2,by rw[sy g.up];exact g.ro,by rw[sy g.up];rfl⟩
def Sj(h:Calm n (Kept parts aR) d d')(hx:x∈aR)(h0:0<=x)(hm:x<(cJ n:Nat)):aV (Jz d') n x=aV (Jz d) n x:=by
 have:=pO (d:=Jz d) (d':=Jz d') (n:=n) rfl x.toNat ls (λj a b=>(h j (by have:=xi (show x.toNat<cJ n by omega);omega) (.inr ⟨x.toNat,.inr (by rw[show((x.toNat:Nat):Int)=x by omega];exact hx),a,b⟩)).1)
 rwa [show((x.toNat:Nat):Int)=x by omega]at this
def wj(h:x<(cN n:Nat)):x<(cJ n:Nat):=by unfold cN at h;omega
def fF.calm{ep slot:Int}{o:List (Option (UV))}(h:fF d n ep slot aR parts o)(hc:Calm n (Kept parts aR) d d'):fF d' n ep slot aR parts o:=by
 have key:∀x∈aR,0<=x->aV (Jz d') n x=aV (Jz d) n x:=λx hx h0=>Sj hc hx h0 (wj (by have:=h.oi x hx;omega));refine⟨h.r.calm hc,h.oi,h.oj,h.pi,h.dt,λx hx h0=>?_,?_⟩
 .obtain⟨q,s,q1,q2,q3,q4⟩:=h.ro x hx h0;exact⟨q,s,q1,q2,q3,(key x hx h0).trans q4⟩
 .rw[<-h.ab];refine gm (λx hx=>?_)
  by_cases h0:x<0
  .rw[U8 h0,U8 h0]
  .rw[U9 h0,U9 h0,key x hx ls]
def use_free{m:List Int}{x:Nat}(hx:x<m.length)(h0:m.getD x 0=0):Fm.pw m ((x:Nat):Int)=(m.set x 1,0):=by
 unfold Fm.pw;rw[show Fm.yD m ((x:Nat):Int)=true from by unfold Fm.yD;simp;omega,U8 rfl,show((x:Nat):Int).toNat=x by omega,U8 h0]
def Ui(s:List Int)(hs:∀x∈s,x<=1023)(j:Nat)(hj:j<s.length)(k:Nat):Rt.bS (ff (Rt.iN s) k) (2*j)=Rt.yM s[j]:=by
 unfold ff Rt.iN;rw[Rt.LC (s.map Rt.yM) _ j (by simpa using hj) (λx hx=>by
  obtain⟨y,hy,rfl⟩:=dq.1 hx;have:=hs y hy;unfold Rt.yM;omega)]
 simp
def seg_take(l:List Int)(i:Nat):l.take (116*i)++Rt.iF l i=l.take (116*(i+1)):=by
 unfold Rt.iF;rw[show 116*(i+1)=116*i+116 by omega,List.take_add]
def getF_seg(s:List Int)(hs:∀x∈s,-1<=x/\x<=1023)(k:Nat):Rt.cF (ff (Rt.iN s) k) s.length=s:=by
 unfold Rt.cF;apply vq
 .simp
 .intro j h1 h2;rw[IY,yr,Ui s (λx hx=>(hs x hx).2) j h2 k];have:=hs s[j] (jR h2);unfold Rt.yM;omega
def FE{x:Nat}(hx:x<c.m.length)(h0:c.m.getD x 0=0){q kd:Int}{s:UV}(hp:aV c.d n ((x:Nat):Int)=(⟨x,q,kd,s⟩,0))(hq:q<=c.ep):c.bH n ((x:Nat):Int) kd=({c with m:=c.m.set x 1},⟨x,q,kd,s⟩,0):=by
 unfold C.bH;rw[use_free hx h0,i8,hp,i8,U9 (show ¬(kd≠kd\/c.ep<q) by omega)]
section
variable{d:D}{n:Nat}{ep slot:Int}{aR parts:List Int}{o:List (Option (UV))}
def fF.old_bd(h:fF d n ep slot aR parts o):∀x∈aR,-1<=x/\x<=1023:=λx hx=>by
 have:=h.oi x hx;have:cN n<=1024:=by unfold cN;omega
 omega
def fF.root(h:fF d n ep slot aR parts o):Rt.l5 (sec d.now slot.toNat)=parts.map Int.toNat/\Rt.fi (sec d.now slot.toNat)=ep/\Rt.bS (Rt.fc (sec d.now slot.toNat)) 0=aR.length/\Rt.fT (sec d.now slot.toNat):=by
 have hr:Rt.gP ep (aR.length:Nat) (Rt.cy (parts.map Int.toNat)):=by rw[nW h.r];exact h.r.ro
 rw[h.r.rt];obtain⟨e1,e2,e3,e4⟩:=Rt.DF ep aR.length (parts.map Int.toNat) hr;exact⟨e4,e1,e2,Rt.UX ep aR.length _ hr⟩
def fF.newest(h:fF d n ep slot aR parts o)(hk:wi (sec d.now 0) (sec d.now 1) t k):t=sec d.now slot.toNat/\k=slot:=by
 obtain⟨_,r2,_,r4⟩:=h.root;have ho:=h.r.ot
 rcases h.r.sl with hs|hs
 .subst hs;have ho:Rt.fT (sec d.now 1)->Rt.fi (sec d.now 1)<ep:=ho;have r2:Rt.fi (sec d.now 0)=ep:=r2;have r4:Rt.fT (sec d.now 0):=r4
  rcases hk with⟨_,rfl,hg,dP⟩|⟨rfl,rfl,_⟩
  .have:=dP r4;have:=ho hg;omega
  .exact⟨rfl,rfl⟩
 .subst hs;have ho:Rt.fT (sec d.now 0)->Rt.fi (sec d.now 0)<ep:=ho;have r2:Rt.fi (sec d.now 1)=ep:=r2;have r4:Rt.fT (sec d.now 1):=r4
  rcases hk with⟨rfl,rfl,_⟩|⟨_,rfl,hg,dP⟩
  .exact⟨rfl,rfl⟩
  .have:=dP r4;have:=ho hg;omega
def repl_get(k j:Nat):(it k (0:Int)).getD j 0=0:=by
 simp only[List.getD,CF]
 split<;>rfl
def fF.load(h:fF d n ep slot aR parts o)(hd:d.down=false)(hc:c={d:=d,m:=it (cN n) 0,table:=[],aR:=[],parts:=parts,ep:=ep,slot:=slot,broken:=false}):∀i,i<=parts.length->
  ∃m,c.eY n aR.length i=({c with m:=m,table:=aR.take (116*i)},0)/\m.length=cN n/\∀j:Nat,j<cN n->m.getD j 0=if(j:Int)∈parts.take i then 1 else 0
 |0,_=>⟨it (cN n) 0,by subst hc;rfl,lw,λj _=>by rw[repl_get];simp⟩
 |i+1,hi=>by
  obtain⟨m,e,ml,mg⟩:=fF.load h hd hc i ls;obtain⟨x,hx⟩:∃x,parts[i]?=some x:=⟨_,aQ ls⟩;have hxm:=ay hx;obtain⟨x0,x1⟩:=h.pi x hxm;obtain⟨k,rfl⟩:=fu x0;obtain⟨q,q0,q1,q2⟩:=h.r.pp i _ hx;rw[sy hd]at q2;have Vn:((k:Nat):Int)∉parts.take i:=(h.r.ro.2.2.2.2.2 i _ hx).2.2;have eD:c.parts.getD i 0=((k:Nat):Int):=by rw[hc];simp[List.getD,hx]
  have hck:({c with m:=m,table:=aR.take (116*i)}:C).bH n ((k:Nat):Int) 1=({c with m:=m.set k 1,table:=aR.take (116*i)},⟨k,q,1,ff (Rt.iN (Rt.iF aR i)) 232⟩,0):=
   FE (c:={c with m:=m,table:=aR.take (116*i)}) (by show k<m.length;rw[ml];omega) (by show m.getD k 0=0;rw[mg k ls,U9 Vn]) (by rw[hc];exact q2) (by rw[hc];exact q1)
  have Ju:∀y∈Rt.iF aR i,-1<=y/\y<=1023:=λy hy=>h.old_bd y (tE (iR hy));have hlen:(Rt.iF aR i).length=min 116 (aR.length-116*i):=Rt.sr aR i;have hany:¬(List.range (min 116 (aR.length-116*i))).any (λj=>decide (1024<Rt.bS (ff (Rt.iN (Rt.iF aR i)) 232) (2*j)))=true:=by
   rw[any_or];rintro⟨j,hj,dP⟩;rw[<-hlen]at hj;rw[Ui _ (λy hy=>(Ju y hy).2) j hj]at dP;have:=Ju _ (jR hj);unfold Rt.yM at dP;omega
  refine⟨m.set k 1,?_,by rw[bR];exact ml,λj hj=>?_⟩
  .rw[oy,e,i8,eD];unfold C.uM;rw[hck,i8];dsimp only;rw[U9 hany,<-hlen,getF_seg _ Ju,seg_take]
  .rw[jE _ _ _ _ ls,mg j hj,ij ls];have Vm:parts[i]=((k:Nat):Int):=(aW.1 hx).2;rw[Vm]
   by_cases ej:k=j
   .subst ej;rw[U8 rfl,U8 (cv _ (aG.2 rfl))]
   .rw[U9 ej];have:((j:Int)∈parts.take i++[((k:Nat):Int)])↔(j:Int)∈parts.take i:=by
     rw[aK,aG];exact⟨λh=>h.elim _root_.id (λh=>by omega),.inl⟩
    simp only[this]
def fF.scan(h:fF d n ep slot aR parts o)(hd:d.down=false)(hc:c.d=d/\c.ep=ep/\c.table=aR)(hm:c.m.length=cN n/\∀j:Nat,j<cN n->c.m.getD j 0=if(j:Int)∈parts then 1 else 0):∀i,i<=aR.length->
  ∃m,c.gJ n i=({c with m:=m},0)/\m.length=cN n/\∀j:Nat,j<cN n->m.getD j 0=if(j:Int)∈parts\/(j:Int)∈aR.take i then 1 else 0
 |0,_=>⟨c.m,rfl,hm.1,λj hj=>by rw[hm.2 j hj];simp⟩
 |i+1,hi=>by
  obtain⟨m,e,ml,mg⟩:=fF.scan h hd hc hm i ls;obtain⟨x,hx⟩:∃x,aR[i]?=some x:=⟨_,aQ ls⟩;have hxm:=ay hx;have eD:c.table.getD i 0=x:=by rw[hc.2.2];simp[List.getD,hx]
  have Vm:aR[i]=x:=(aW.1 hx).2;rw[rh,e,i8,eD]
  by_cases DH:x<0
  .rw[U8 DH];refine⟨m,rfl,ml,λj hj=>?_⟩;rw[mg j hj,ij ls,Vm];have:((j:Int)∈aR.take i++[x])↔(j:Int)∈aR.take i:=by
    rw[aK,aG];exact⟨λh=>h.elim _root_.id (λh=>by omega),.inl⟩
   simp only[this]
  .rw[U9 DH];have hoi:=h.oi x hxm;obtain⟨k,rfl⟩:=fu (show 0<=x by omega);obtain⟨q,s,q0,q1,q2,q3⟩:=h.ro _ hxm ls;rw[sy hd]at q3;have Vn:¬(((k:Nat):Int)∈parts\/((k:Nat):Int)∈aR.take i):=by
    rintro(hp|hp)
    .exact h.dt _ hp hxm
    .obtain⟨j,hj⟩:=ko hp;have Jl:=(aW.1 hj).1;rw[bY]at Jl;have:=h.oj j i _ (sA hj) hx ls;omega
   have hck:({c with m:=m}:C).bH n ((k:Nat):Int) 2=({c with m:=m.set k 1},⟨k,q,2,s⟩,0):=
    FE (c:={c with m:=m}) (by show k<m.length;rw[ml];omega) (by show m.getD k 0=0;rw[mg k ls,U9 Vn]) (by show aV c.d n _=_;rw[hc.1];exact q3) (by show q<=c.ep;rw[hc.2.1];exact q1)
   rw[hck];refine⟨m.set k 1,rfl,by rw[bR];exact ml,λj hj=>?_⟩;rw[jE _ _ _ _ ls,mg j hj,ij ls,Vm]
   by_cases ej:k=j
   .subst ej;rw[U8 rfl,U8 (.inr (cv _ (aG.2 rfl)))]
   .rw[U9 ej];have:((j:Int)∈aR.take i++[((k:Nat):Int)])↔(j:Int)∈aR.take i:=by
     rw[aK,aG];exact⟨λh=>h.elim _root_.id (λh=>by omega),.inl⟩
    simp only[this]
def fF.opened(h:fF d n ep slot aR parts o)(hd:d.down=false)(ha:d.aq=0)(fN:d.Ok n)(he:ep<1099511627776)(hk:wi (sec d.now 0) (sec d.now 1) t k):
  ∃c,(pA d n t k).mY n (Rt.bS (Rt.fc t) 0)=(c,0)/\c.d=d/\c.ep=ep/\c.slot=slot/\c.aR=aR/\c.parts=parts/\Good c n/\c.bU n={many:=cN n,now:=jy o,aR:=o,ep:=ep}:=by
 obtain⟨rfl,rfl⟩:=h.newest hk;obtain⟨r1,r2,r3,r4⟩:=h.root;have WR:pA d n (sec d.now k.toNat) k={d:=d,m:=it (cN n) 0,table:=[],aR:=[],parts:=parts,ep:=ep,slot:=k,broken:=false}:=by
  unfold pA;rw[r1,r2,nW h.r]
 rw[r3];obtain⟨c0,Oz⟩:∃c0,pA d n (sec d.now k.toNat) k=c0:=⟨_,rfl⟩;rw[Oz]at WR ⊢;obtain⟨m1,e1,l1,g1⟩:=h.load hd WR parts.length (ai _);have tQ:parts.length=cd aR.length:=by have:=h.r.ro.2.2.2.2.1;rw[Cg]at this;omega
 have hfull:aR.take (116*parts.length)=aR:=cR (by rw[tQ];unfold cd;omega);rw[hfull]at e1;rw[ig]at g1;have hcp:c0.parts=parts:=by rw[WR]
 obtain⟨m2,e2,l2,g2⟩:=h.scan hd (c:={c0 with m:=m1,table:=aR}) ⟨by rw[WR],by rw[WR],rfl⟩ ⟨l1,g1⟩ aR.length (ai _);rw[ig]at g2;refine⟨{d:=d,m:=m2,table:=aR,aR:=aR,parts:=parts,ep:=ep,slot:=k,broken:=false},?_,rfl,rfl,rfl,rfl,rfl,?_,?_⟩
 .unfold C.mY;rw[hcp,e1,i8];dsimp only;rw[e2,i8,WR]
 .have hrp:=h.r.ro;refine⟨hd,ha,rfl,fN,l2,⟨hrp.1,he⟩,h.r.sl,?_,?_,?_,h.oj,h.oj,?_,λx hx=>⟨h.dt x hx,h.dt x hx⟩,tQ,λi x hi _ _=>hi,λi hi=>?_,λx hx h0=>?_,λx hx h0=>?_⟩
  .show ∀x∈aR,x= -1\/0<=x/\x<(m2.length:Int);rw[l2];exact h.oi
  .show ∀x∈aR,x= -1\/0<=x/\x<(m2.length:Int);rw[l2];exact h.oi
  .show ∀x∈parts,0<=x/\x<(m2.length:Int);rw[l2];exact h.pi
  .intro i j x hi hj h0
   rcases Bv i j with dP|e|dP
   .exact eq (ay (show(parts.take j)[i]?=some x by rw[kr dP];exact hi)) (hrp.2.2.2.2.2 j x hj).2.2
   .exact e
   .exact eq (ay (show(parts.take i)[j]?=some x by rw[kr dP];exact hj)) (hrp.2.2.2.2.2 i x hi).2.2
  .have hi:i<cN n:=by rw[<-l2];exact hi
   show m2.getD i 0=if(i:Int)∈parts then 1 else if(i:Int)∈aR then(if(i:Int)∈aR then 1 else 3)else if(i:Int)∈aR then 2 else 0
   rw[g2 i hi]
   by_cases h1:(i:Int)∈parts<;>by_cases h2:(i:Int)∈aR<;>simp[h1,h2]
  .obtain⟨q,s,q1,q2,q3,q4⟩:=h.ro x hx h0;rw[sy hd]at q4;exact⟨q,s,q1,by show q<=ep+1;omega,q3,q4⟩
  .obtain⟨q,s,q1,q2,q3,q4⟩:=h.ro x hx h0;rw[sy hd]at q4;exact⟨q,s,q1,q2,q3,q4⟩
 .have Q6:=h.ab;rw[sy hd]at Q6;unfold C.bU;simp only[l2,St.mk.injEq,true_and];refine⟨?_,Q6,trivial⟩;rw[<-Q6];unfold jy;rw[iQ];refine gm (λx hx=>?_);unfold C.dv;simp only[Function.comp]
  by_cases h0:x<0
  .rw[U8 h0,U8 h0];rfl
  .rw[U9 h0,U9 h0];show some (decide (x∉aR),_)=some (false,_);simp[hx]
end
variable{n:Nat}{a:Int}
def C.aq(c:C)(a:Int):C:=c.on (arm c.d a)
def xY{P:Nat->Prop}(d:D)(a:Int):Calm n P d (arm d a):=λ_ _ _=>⟨rfl,id⟩
def SimC(c:C)(n:Nat)(a:Int){α:Type}(r r':C×α):Prop:=
 (1<=a/\r'.1.d.down=true/\Calm n (Kept c.parts c.aR) c.d r'.1.d)\/∃a',0<=a'/\a'<=a/\r'=(r.1.aq a',r.2)
def zS{c:C}(g:Good c n)(ha:0<=a)(p:UV):
  (1<=a/\((c.aq a).bA n p).1.d.down=true/\((c.aq a).bA n p).2.2≠0)\/∃a',0<=a'/\a'<=a/\(c.aq a).bA n p=((c.bA n p).1.aq a',(c.bA n p).2):=by
 unfold C.bA;have e1:Fm.cP (c.aq a).m=Fm.cP c.m:=rfl;have e2:(c.aq a).d=arm c.d a:=rfl;have e3:(c.aq a).ep=c.ep:=rfl;rw[e1,e2,e3]
 by_cases h1:(Fm.cP c.m).2.2≠0
 .rw[U8 h1,U8 h1];exact .inr ⟨a,ha,dG _,rfl⟩
 rw[U9 h1,U9 h1]
 rcases qN g.up g.arm ha n (Fm.cP c.m).2.1 (c.ep+1) 2 p with⟨h0,h2,h3⟩|⟨a',h2,h3,h4⟩
 .rw[U8 (by rw[h3];decide)];refine .inl ⟨h0,h2,?_⟩;show(bq (arm c.d a) n _ _ _ _).2≠0;rw[h3];decide
 .rw[h4];dsimp only
  by_cases h5:(bq c.d n (Fm.cP c.m).2.1 (c.ep+1) 2 p).2≠0
  .rw[U8 h5,U8 h5];exact .inr ⟨a',h2,h3,rfl⟩
  .rw[U9 h5,U9 h5];exact .inr ⟨a',h2,h3,rfl⟩
def new_sim{c:C}(g:Good c n)(ha:0<=a)(p:UV):SimC c n a (c.bE n p) ((c.aq a).bE n p):=by
 have FF:=(xY (P:=Kept c.parts c.aR) (n:=n) c.d a).trans (Qr g (arm c.d a) p (nm g.ok ha));have FF:Calm n (Kept c.parts c.aR) c.d ((c.aq a).bE n p).1.d:=FF
 by_cases hd:1<=a/\((c.aq a).bE n p).1.d.down=true
 .exact .inl ⟨hd.1,hd.2,FF⟩
 .refine .inr ?_;unfold C.bE at hd ⊢;have e1:(c.aq a).broken=c.broken:=rfl;have e2:(c.aq a).table=c.table:=rfl;rw[e1,e2]at hd ⊢
  by_cases h1:c.broken=true
  .rw[U8 h1,U8 h1];exact⟨a,ha,dG _,rfl⟩
  rw[U9 h1]at hd ⊢;rw[U9 h1]
  by_cases h2:232<p.length
  .rw[U8 h2,U8 h2];exact⟨a,ha,dG _,rfl⟩
  rw[U9 h2]at hd ⊢;rw[U9 h2]
  by_cases h3:512<=jc c.table
  .rw[U8 h3,U8 h3];exact⟨a,ha,dG _,rfl⟩
  rw[U9 h3]at hd ⊢;rw[U9 h3]
  rcases zS g ha p with⟨f1,f2,f3⟩|⟨a',f1,f2,f3⟩
  .rw[U8 f3]at hd;exact eq ⟨f1,f2⟩ hd
  .rw[f3];dsimp only
   by_cases h4:(c.bA n p).2.2≠0
   .rw[U8 h4,U8 h4];exact⟨a',f1,f2,rfl⟩
   .rw[U9 h4,U9 h4];exact⟨a',f1,f2,rfl⟩
def WT{c:C}(g:Good c n)(ha:0<=a)(l:Int)(p:UV):SimC c n a (c.ao n l p) ((c.aq a).ao n l p):=by
 have FF:=(xY (P:=Kept c.parts c.aR) (n:=n) c.d a).trans (DN g (arm c.d a) l p (nm g.ok ha));have FF:Calm n (Kept c.parts c.aR) c.d ((c.aq a).ao n l p).1.d:=FF
 by_cases hd:1<=a/\((c.aq a).ao n l p).1.d.down=true
 .exact .inl ⟨hd.1,hd.2,FF⟩
 .refine .inr ?_;unfold C.ao at hd ⊢;have e1:(c.aq a).broken=c.broken:=rfl;have e2:(c.aq a).table=c.table:=rfl;have e3:(c.aq a).m=c.m:=rfl;have e4:(c.aq a).jb l=c.jb l:=rfl;have e5:(c.aq a).d=arm c.d a:=rfl;have e6:(c.aq a).ep=c.ep:=rfl;rw[e1,e2,e3,e4,e5,e6]at hd ⊢
  by_cases h1:c.broken=true
  .rw[U8 h1,U8 h1];exact⟨a,ha,dG _,rfl⟩
  rw[U9 h1]at hd ⊢;rw[U9 h1]
  by_cases h2:232<p.length
  .rw[U8 h2,U8 h2];exact⟨a,ha,dG _,rfl⟩
  rw[U9 h2]at hd ⊢;rw[U9 h2]
  by_cases h3:c.jb l≠0
  .rw[U8 h3,U8 h3];exact⟨a,ha,dG _,rfl⟩
  rw[U9 h3]at hd ⊢;rw[U9 h3]
  by_cases h4:Fm.bA c.m (c.table.getD l.toNat 0)=true
  .rw[U8 h4]at hd ⊢;rw[U8 h4]
   rcases qN g.up g.arm ha n (c.table.getD l.toNat 0) (c.ep+1) 2 p with⟨f0,f1,f2⟩|⟨a',f1,f2,f3⟩
   .exact eq ⟨f0,f1⟩ hd
   .rw[f3];exact⟨a',f1,f2,rfl⟩
  .rw[U9 h4]at hd ⊢;rw[U9 h4]
   rcases zS g ha p with⟨f1,f2,f3⟩|⟨a',f1,f2,f3⟩
   .rw[U8 f3]at hd;exact eq ⟨f1,f2⟩ hd
   .rw[f3];dsimp only
    by_cases h5:(c.bA n p).2.2≠0
    .rw[U8 h5,U8 h5];exact⟨a',f1,f2,rfl⟩
    .rw[U9 h5,U9 h5];exact⟨a',f1,f2,rfl⟩
def zT{c:C}(fN:c.d.Ok n)(P:List Int):∀i,i<=P.length->(c.gh n P i).1.Ok n/\Calm n (λj=> ¬ ∃x∈P,2+4*x.toNat<=j/\j<2+4*x.toNat+4) c.d (c.gh n P i).1
 |0,_=>⟨fN,.refl _⟩
 |i+1,hi=>by
  obtain⟨h1,h2⟩:=zT fN P i ls;rw[nF]
  split
  .exact⟨h1,h2⟩
  .refine⟨kQ h1 _ _ _ _,h2.trans (oV h1 _ _ _ _ (λj a b hn=>hn ⟨P.getD i 0,?_,a,b⟩))⟩;simp only[List.getD,aQ (show i<P.length by omega),j0];exact jR _
def NY{c:C}{n:Nat}(hd:c.d.down=false)(h0:c.d.aq=0){a:Int}(ha:0<=a)(P:List Int):∀i,((c.gh n P i).1.down=false/\(c.gh n P i).1.aq=0)/\Sim (c.gh n P i) ((c.aq a).gh n P i) a
 |0=>⟨⟨hd,h0⟩,.inr ⟨a,ha,dG _,rfl⟩⟩
 |i+1=>by
  obtain⟨⟨u1,u2⟩,ih⟩:=NY (n:=n) hd h0 ha P i;rw[nF,nF];have e1:(c.aq a).ep=c.ep:=rfl;have e2:(c.aq a).table=c.table:=rfl;rw[e1,e2];refine⟨?_,?_⟩
  .split
   .exact⟨u1,u2⟩
   .exact ud u1 u2 _ _ _ _ _
  .rcases ih with⟨f0,f1,f2⟩|⟨a',f1,f2,f3⟩
   .rw[U8 (show((c.aq a).gh n P i).2≠0 by rw[f2];decide)];exact .inl ⟨f0,f1,f2⟩
   .rw[f3];dsimp only
    by_cases hz:(c.gh n P i).2≠0
    .rw[U8 hz,U8 hz];exact .inr ⟨a',f1,f2,rfl⟩
    .rw[U9 hz,U9 hz]
     rcases qN u1 u2 f1 n (P.getD i 0) (c.ep+1) 1 (Rt.iN (Rt.iF c.table i))with⟨g0,g1,g2⟩|⟨a2,g1,g2,g3⟩
     .exact .inl ⟨ls,g1,g2⟩
     .exact .inr ⟨a2,g1,ls,g3⟩
def Torn(n s:Nat)(o:UV)(u d':D):Prop:=d'.down=true/\(∀j,j<n->sec d'.now j=sec u.now j/\(j≠s->d'.loose.getD j false=false))/\(d'.loose.getD s false=true/\sec d'.aR s=o)
def layF_sim{c:C}(hd:c.d.down=false)(h0:c.d.aq=0)(fN:c.d.Ok n)(ha:0<=a){P:List Nat}(hP:(Rt.cy P).Nodup)(hr:∀x∈Rt.cy P,∃k:Nat,x=k/\k<cJ n)(he:0<=c.ep/\c.ep<1099511627776)(hn:2<=n)(hs:c.slot=0\/c.slot=1)(h5:P.length<=5):
  (1<=a/\((c.aq a).bM n P).1.down=true/\((c.aq a).bM n P).2≠0/\((c.aq a).bM n P).1.Ok n/\(Calm n (λj=> ¬InP (Rt.cy P) j) c.d ((c.aq a).bM n P).1\/Torn n (1-c.slot).toNat (sec c.d.now (1-c.slot).toNat) (c.bM n P).1 ((c.aq a).bM n P).1))\/
   ∃a',0<=a'/\a'<=a/\(c.aq a).bM n P=(arm (c.bM n P).1 a',(c.bM n P).2):=by
 obtain⟨h1,h2,h3,h4,h6,h7,h8⟩:=yQ hd h0 fN hP hr he (Rt.cy P).length (ai _);have eL:(Rt.cy P).length=P.length:=by simp[Rt.cy]
 rw[eL]at h1 h2 h3 h4 h6 h7 h8;have hlc:=(zT (c:=c.aq a) (n:=n) (nm fN ha) (Rt.cy P) P.length ls);obtain⟨okA,calmA⟩:=hlc;have hl:=(NY (n:=n) hd h0 ha (Rt.cy P) P.length).2;have hcA:Calm n (λj=> ¬InP (Rt.cy P) j) c.d ((c.aq a).gh n (Rt.cy P) P.length).1:=
  (xY c.d a).trans (calmA.mono (λj _ hj=>by
   rintro⟨x,hx,h1,h2⟩;obtain⟨k,rfl,_⟩:=hr x hx;exact hj ⟨k,hx,ls,ls⟩))
 unfold C.bM;have e1:(c.aq a).ep=c.ep:=rfl;have e2:(c.aq a).table=c.table:=rfl;have e3:(c.aq a).slot=c.slot:=rfl;rw[e1,e2,e3]
 rcases hl with⟨f0,f1,f2⟩|⟨a1,f1,f2,f3⟩
 .rw[U8 (show((c.aq a).gh n (Rt.cy P) P.length).2≠0 by rw[f2];decide)];exact .inl ⟨f0,f1,by rw[f2];decide,okA,.inl hcA⟩
 rw[f3]at okA hcA ⊢;obtain⟨d1,rE⟩:∃d1,(c.gh n (Rt.cy P) P.length)=(d1,0):=⟨_,by rw[<-h1]⟩;rw[rE]at h1 h2 h3 h4 h6 h7 h8 okA hcA ⊢;dsimp only at h1 h2 h3 h4 h6 h7 h8 okA hcA ⊢;rw[U9 (show ¬(0:Int)≠0 by decide),U9 (show ¬(0:Int)≠0 by decide)];obtain⟨s1,s2,s3,s4⟩:=lX h2 h3;rw[U9 (show ¬d1.cX.2≠0 by rw[s1];decide)]
 rcases LQ h2 h3 f1 with⟨g0,g1,g2⟩|⟨a2,g1,g2,g3⟩
 .rw[U8 (show(arm d1 a1).cX.2≠0 by rw[g2];decide)];exact .inl ⟨ls,g1,by rw[g2];decide,okA.sync,.inl (hcA.trans pN)⟩
 rw[g3];dsimp only;rw[U9 (show ¬d1.cX.2≠0 by rw[s1];decide)];have s6:d1.cX.1.Ok n:=h4.sync;have s7:=qM s1;obtain⟨sO,hsO⟩:∃sO,d1.cX.1=sO:=⟨_,rfl⟩;have Ch:(1-c.slot).toNat<n:=ls
 have XR:(1-c.slot:Int)=(((1-c.slot).toNat:Nat):Int):=ls
 rw[XR,show((((1-c.slot).toNat:Nat):Int)).toNat=(1-c.slot).toNat by omega];obtain⟨s,hsd⟩:∃s,s=(1-c.slot).toNat:=⟨_,rfl⟩;rw[<-hsd]at Ch ⊢;have Th:=Rt.nj (c.ep+1) c.table.length P h5;have hold:sec d1.cX.1.now s=sec c.d.now s:=by
  rw[s4];exact(h8 s Ch (λ⟨x,hx,h1,h2⟩=>by omega)).1
 generalize d1.cX.1=d2 at *;generalize Rt.eV (c.ep+1) c.table.length P=rt at *;obtain⟨w1,w2,w3⟩:=jk (n:=n) s2 s3 Ch rt;have w4:=pH s6 s Ch _ w1;have w6:=s6.write (s:Int) rt;obtain⟨o1,o2⟩:=yy (d:=d2) s6 Ch s2 (s7 s) rt;have wl:∀j,j<n->j≠s->(d2.ao n (s:Int) rt).1.loose.getD j false=false:=λj hj fy=>((qL (P:=λj=>j≠s) s6 (s:Int) rt (λi e=>by simp;omega)) j hj fy).2 (s7 j);have wl2:(d2.ao n (s:Int) rt).1.loose.getD s false=true:=by
  have h0:d2.jb n s=0:=by rw[tW d2 n s Ch];simp[s2]
  unfold D.ao;rw[U8 h0,show((s:Nat):Int).toNat=s by omega];obtain⟨_,c2,_⟩:=kR (d2.dh s rt);rw[c2];show(d2.gE s).loose.getD s false=true;unfold D.gE;rw[U9 (by rw[s7];simp)];show(d2.loose.set s true).getD s false=true;rw[uc,U8 ⟨rfl,by rw[s6.loose];exact Ch⟩]
 rw[U9 (show ¬(d2.ao n (s:Int) rt).2≠0 by rw[w1];decide)];obtain⟨v1,v2,v3,v4⟩:=lX w2 w3
 rcases G6 s2 s3 g1 n (s:Int) rt with⟨k0,k1,k2⟩|⟨a3,k1,k2,k3⟩
 .rw[U8 (show((arm d2 a2).ao n (s:Int) rt).2≠0 by rw[k2];decide)];have mQ:((arm d2 a2).ao n (s:Int) rt).1.now=(d2.ao n (s:Int) rt).1.now/\((arm d2 a2).ao n (s:Int) rt).1.loose=(d2.ao n (s:Int) rt).1.loose/\((arm d2 a2).ao n (s:Int) rt).1.aR=(d2.ao n (s:Int) rt).1.aR:=by
   unfold D.ao;rw[show(arm d2 a2).jb n s=d2.jb n s from rfl];have h0:d2.jb n s=0:=by rw[tW d2 n s Ch];simp[s2]
   rw[U8 h0,U8 h0,Tg];obtain⟨p1,p2,p3⟩:=kR (arm (d2.dh ((s:Nat):Int).toNat rt) a2);obtain⟨q1,q2,q3⟩:=kR (d2.dh ((s:Nat):Int).toNat rt);exact⟨by rw[p1,q1];rfl,by rw[p2,q2];rfl,by rw[p3,q3];rfl⟩
  refine .inl ⟨ls,k1,by rw[k2];decide,(nm s6 g1).write _ _,.inr ⟨k1,λj hj=>⟨by rw[mQ.1,v4],λfy=>by rw[mQ.2.1];exact wl j hj fy⟩,by rw[mQ.2.1];exact wl2,by rw[mQ.2.2,o2];exact hold⟩⟩
 rw[k3];dsimp only;rw[U9 (show ¬(d2.ao n (s:Int) rt).2≠0 by rw[w1];decide)]
 rcases LQ w2 w3 k1 with⟨m0,m1,m2⟩|⟨a4,m1,m2,m3⟩
 .have mQ:(arm (d2.ao n (s:Int) rt).1 a3).cX.1.now=(d2.ao n (s:Int) rt).1.now/\(arm (d2.ao n (s:Int) rt).1 a3).cX.1.loose=(d2.ao n (s:Int) rt).1.loose/\(arm (d2.ao n (s:Int) rt).1 a3).cX.1.aR=(d2.ao n (s:Int) rt).1.aR:=by
   have m2':=m2;unfold D.cX at m2 ⊢;have hup:¬(arm (d2.ao n (s:Int) rt).1 a3).down=true:=by show ¬(d2.ao n (s:Int) rt).1.down=true;rw[w2];simp
   rw[U9 hup]at m2 ⊢
   by_cases hc:(arm (d2.ao n (s:Int) rt).1 a3).cG.2=0
   .rw[U8 hc]at m2;cases m2
   .rw[U9 hc];obtain⟨p1,p2,p3⟩:=kR (arm (d2.ao n (s:Int) rt).1 a3);exact⟨p1,p2,p3⟩
  refine .inl ⟨ls,m1,by rw[m2];decide,(nm w6 k1).sync,.inr ⟨m1,λj hj=>⟨by rw[mQ.1,v4],λfy=>by rw[mQ.2.1];exact wl j hj fy⟩,by rw[mQ.2.1];exact wl2,by rw[mQ.2.2,o2];exact hold⟩⟩
 .exact .inr ⟨a4,m1,ls,m3⟩
variable{d:D}{n:Nat}{c:C}
def ri(C:Cr)(h:d.Ok n)(j:Nat):(d.kt C n).loose.getD j false=false:=by
 have key:∀i,(D.bZ C d i).1.loose.length=d.loose.length/\∀j,(D.bZ C d i).1.loose.getD j false=if j<i then false else d.loose.getD j false:=by
  intro i
  induction i with
  |zero=>exact⟨rfl,λj=>by simp[D.bZ]⟩
  |succ i ih=>
   obtain⟨h1,h2⟩:=ih;simp only[D.bZ]
   cases hb:(D.bZ C d i).1.loose.getD i false
   .simp only[oH,if_false];refine⟨h1,λj=>?_⟩;rw[h2]
    by_cases hj:j<i
    .rw[U8 hj,g8]
    .rw[U9 hj]
     by_cases Jl:j=i
     .subst Jl;rw[g8];rw[h2,ge]at hb;exact hb
     .rw[ge]
   .simp only[if_true];refine⟨by show(List.set _ _ _).length=_;rw[bR];exact h1,λj=>?_⟩;show(List.set _ _ _).getD _ _=_;rw[uc,h2]
    by_cases Jl:i=j
    .subst Jl;rw[U8 (show i<i+1 by omega)]
     split
     .rfl
     .rename_i h3;rw[ge];have:¬i<(D.bZ C d i).1.loose.length:=λh4=>h3 ⟨rfl,h4⟩;simp only[List.getD];rw[fw (by rw[h1]at this;omega)];rfl
    .rw[ge]
     by_cases hj:j<i
     .rw[U8 hj,g8]
     .rw[U9 hj,ge]
 have:=(key n).2 j;show(D.bZ C d n).1.loose.getD j false=false;rw[this]
 by_cases hj:j<n
 .rw[U8 hj]
 .rw[U9 hj];simp only[List.getD];rw[fw (by rw[h.loose];omega)];rfl
def FG(C:Cr)(h:d.Ok n):Calm n (λj=>d.loose.getD j false=false) d (d.kt C n):=by
 intro j hj hp;obtain⟨k,_,e⟩:=G7 h C j hj;rw[U9 (by rw[hp];simp)]at e;exact⟨e,λ_=>ri C h j⟩
section
variable{d d':D}{n:Nat}{ep slot:Int}{aR parts:List Int}{o:List (Option (UV))}
def fF.GG(h:fF d n ep slot aR parts o)(hc:Calm n (Kept parts aR) d d')(fN:d'.Ok n)(C:Cr):fF (d'.kt C n) n ep slot aR parts o:=
 (h.calm hc).calm ((FG C fN).mono (λj hj hk=>(h.calm hc).r.lo j hj hk))
def fF.other(h:fF d n ep slot aR parts o)(hc:∀j,j<n->Kept parts aR j->j≠(1-slot).toNat->sec d'.now j=sec d.now j)(hl:∀j,d'.loose.getD j false=false)(ot:Rt.fT (sec d'.now (1-slot).toNat)->Rt.fi (sec d'.now (1-slot).toNat)<ep):fF d' n ep slot aR parts o:=by
 have hs:=h.r.sl;have n2:=h.r.n2;have au:∀x:Int,0<=x->x<(cJ n:Nat)->(x∈parts\/x∈aR)->aV (Jz d') n x=aV (Jz d) n x:=λx h0 hm hx=>by
  have:=pO (d:=Jz d) (d':=Jz d') (n:=n) rfl x.toNat ls (λj a b=>hc j (by have:=xi (show x.toNat<cJ n by omega);omega) (.inr ⟨x.toNat,by rw[show((x.toNat:Nat):Int)=x by omega];exact hx,a,b⟩) ls)
  rwa [show((x.toNat:Nat):Int)=x by omega]at this
 have key:∀x∈aR,0<=x->aV (Jz d') n x=aV (Jz d) n x:=λx hx h0=>au x h0 (wj (by have:=h.oi x hx;omega)) (.inr hx);refine⟨⟨n2,h.r.ro,hs,?_,ot,λi x hx=>?_,λj _ _=>hl j⟩,h.oi,h.oj,h.pi,h.dt,λx hx h0=>?_,?_⟩
 .rw[hc slot.toNat ls (.inl ls) ls];exact h.r.rt
 .obtain⟨q,q0,q1,q2⟩:=h.r.pp i x hx;obtain⟨p0,p1⟩:=h.pi x (ay hx);exact⟨q,q0,q1,(au x p0 (wj p1) (.inl (ay hx))).trans q2⟩
 .obtain⟨q,s,q1,q2,q3,q4⟩:=h.ro x hx h0;exact⟨q,s,q1,q2,q3,(key x hx h0).trans q4⟩
 .rw[<-h.ab];refine gm (λx hx=>?_)
  by_cases h0:x<0
  .rw[U8 h0,U8 h0]
  .rw[U9 h0,U9 h0,key x hx ls]
end
def WU{r o v:UV}{k:Nat}(hr:r.length=64)(ho:o.length=64)(hr8:r.take 8=r.drop 56)(ho8:o.take 8=o.drop 56)(fy:Rt.fi o≠Rt.fi r)(_hk:k<=64)(hv:v=r.take k++o.drop k)(hg:Rt.fT v):v=r\/v=o:=by
 have h8:=(Rt.DG hg).2;have hne8:o.take 8≠r.take 8:=λe=>fy (by unfold Rt.fi;rw[e]);have ends:∀{l:UV},l.take 8=l.drop 56->∀j,j<8->l[j]?=l[56+j]?:=λ{l} h j hj=>by
  have:=congrArg (λm=>m[j]?) h;simp only[iu]at this
  rwa [kr hj]at this
 have vg:∀j,v[j]?=if j<k then r[j]? else o[j]?:=λj=>by
  rw[hv]
  by_cases hj:j<k
  .rw[U8 hj,bX (by simp;omega),kr hj]
  .rw[U9 hj,eC (by simp;omega),iu]
   congr 1
   simp;omega
 have ve:=ends h8;have re:=ends hr8;have oe:=ends ho8
 by_cases h1:k<=56
 .by_cases h2:8<=k
  .exact eq (lr (λj=>by
    by_cases hj:j<8
    .rw[kr hj,kr hj];have e:=ve j hj;rw[vg j,vg (56+j),g8,ge]at e;rw[oe j hj,<-e]
    .rw[fw (by simp;omega),fw (by simp;omega)])) hne8
  .right;apply lr;intro j;rw[vg]
   by_cases hj:j<k
   .rw[U8 hj];have e:=ve j ls;rw[vg j,vg (56+j),U8 hj,ge]at e;rw[e,oe j ls]
   .rw[U9 hj]
 .left;apply lr;intro j;rw[vg]
  by_cases hj:j<k
  .rw[U8 hj]
  .rw[U9 hj]
   by_cases h64:j<64
   .obtain⟨i,rfl⟩:∃i,j=56+i:=⟨j-56,ls⟩;have e:=ve i ls;rw[vg i,vg (56+i),g8,U9 hj]at e;rw[<-e,re i ls]
   .rw[fw ls,fw ls]
def Sk(fN:c.d.Ok n){P:List Nat}:Calm n (λj=> ¬InP (Rt.cy P) j/\(j:Int)≠1-c.slot) c.d (c.bM n P).1:=by
 have eL:(Rt.cy P).length=P.length:=by simp[Rt.cy]
 obtain⟨ok1,cl⟩:=zT fN (Rt.cy P) P.length ls;have c1:Calm n (λj=> ¬InP (Rt.cy P) j/\(j:Int)≠1-c.slot) c.d (c.gh n (Rt.cy P) P.length).1:=cl.mono (λj _ hj=>by
  rintro⟨x,hx,h1,h2⟩;have h0:0<=x:=by
   unfold Rt.cy at hx;obtain⟨y,_,rfl⟩:=dq.1 hx;exact Int.natCast_nonneg y
  exact hj.1 ⟨x.toNat,by rw[show((x.toNat:Nat):Int)=x by omega];exact hx,h1,h2⟩)
 unfold C.bM
 split
 .exact c1
 .split
  .exact c1.trans pN
  .split
   .exact(c1.trans pN).trans (qL ok1.sync _ _ (λj e hj=>hj.2 e))
   .exact((c1.trans pN).trans (qL ok1.sync _ _ (λj e hj=>hj.2 e))).trans pN
def Left(c:C)(n:Nat)(d':D):Prop:=d'.Ok n/\∀C:Cr,(∃sl parts aR,fF (d'.kt C n) n c.ep sl aR parts (c.bU n).aR)\/(∃sl parts aR,fF (d'.kt C n) n (c.ep+1) sl aR parts (c.bU n).dW)
def Sm(g:Good c n)(R:fD c.d n c.ep c.slot c.aR c.parts)(T:Twin c.d c.slot c.ep)(he:c.ep<1099511627775)(tl:c.table.length<=512){a:Int}(ha:0<=a):
  (1<=a/\((c.aq a).an n).1.d.down=true/\Left c n ((c.aq a).an n).1.d)\/∃a',0<=a'/\a'<=a/\(c.aq a).an n=((c.an n).1.aq a',(c.an n).2):=by
 have e1:(c.aq a).m=c.m:=rfl;have e2:(c.aq a).bf=c.bf.aq a:=rfl;have e3:(c.aq a).ep=c.ep:=rfl;have e4:(c.aq a).parts=c.parts:=rfl;have e5:(c.aq a).slot=c.slot:=rfl;have e6:(c.bf.aq a).table=c.bf.table:=rfl
 by_cases hf:(Fm.gY c.m 0).length<cd c.bf.table.length
 .refine .inr ⟨a,ha,dG _,?_⟩;unfold C.an;rw[e1,e2,e6,U8 hf,U8 hf]
 .obtain⟨mT,P,hT,t1,t2,t3,t4,t5,t6,t7⟩:=nr g tl ls;obtain⟨d1,d2,d3,d4,d5,d6⟩:=Hc g R he tl hT ls rfl;have h5:P.length<=5:=Rt.jU t7;have vz:=g.ep;have Ca:=g.sl;have n2:=R.n2;have hsim:=layF_sim (c:={c.bf with m:=mT}) (n:=n) g.up g.arm g.ok ha (P:=P.map Int.toNat) (by rw[t6];exact t2) (λx hx=>by
   rw[t6]at hx;obtain⟨i,e,hi,_⟩:=t4 x hx;exact⟨i,e,j9 g hi⟩) (show 0<=c.ep/\c.ep<1099511627776 by omega) n2 g.sl (by rw[eZ];exact h5)
  have hoth:=Sk (c:={c.bf with m:=mT}) (n:=n) g.ok (P:=P.map Int.toNat);rw[t6]at hoth;have elay:({c.bf.aq a with m:=mT}:C)=({c.bf with m:=mT}:C).aq a:=rfl;have ecom:(c.aq a).an n=if((({c.bf with m:=mT}:C).aq a).bM n (P.map Int.toNat)).2≠0 then
    ({c.bf.aq a with m:=mT,d:=((({c.bf with m:=mT}:C).aq a).bM n (P.map Int.toNat)).1,broken:=true},((({c.bf with m:=mT}:C).aq a).bM n (P.map Int.toNat)).2)
   else({c.bf.aq a with m:=Fm.iV 0 1 (cO mT c.parts),d:=((({c.bf with m:=mT}:C).aq a).bM n (P.map Int.toNat)).1,aR:=c.bf.table,parts:=P,ep:=c.ep+1,slot:=1-c.slot},0):=by
   unfold C.an;rw[e1,e2,e6,U9 hf,U9 (show ¬1099511627776<=(c.aq a).ep by rw[e3];omega),hT];rfl
  have ecom0:c.an n=(c.xo (({c.bf with m:=mT}:C).bM n (P.map Int.toNat)).1 mT P,0):=by
   unfold C.an;rw[U9 hf,ge,hT];dsimp only;rw[U9 (by rw[d1];decide)];rfl
  rw[ecom];obtain⟨u,hu⟩:∃u,(({c.bf with m:=mT}:C).bM n (P.map Int.toNat)).1=u:=⟨_,rfl⟩;rw[hu]at d2 d3 d4 d5 d6 hsim hoth ecom0
  rcases hsim with⟨f0,f1,f2,f3,f4⟩|⟨a',f1,f2,f3⟩
  .left;rw[U8 f2];refine⟨f0,f1,f3,λcr=>?_⟩;obtain⟨v,hv⟩:∃v,((({c.bf with m:=mT}:C).aq a).bM n (P.map Int.toNat)).1=v:=⟨_,rfl⟩;rw[hv]at f1 f3 f4;show(∃sl parts aR,fF (((({c.bf with m:=mT}:C).aq a).bM n (P.map Int.toNat)).1.kt cr n) n c.ep sl aR parts (c.bU n).aR)\/(∃sl parts aR,fF (((({c.bf with m:=mT}:C).aq a).bM n (P.map Int.toNat)).1.kt cr n) n (c.ep+1) sl aR parts (c.bU n).dW);rw[hv];have OD:=Ct g R
   have notP:∀j,Kept c.parts c.aR j->¬InP (Rt.cy (P.map Int.toNat)) j:=by
    rw[t6];rintro j hk ⟨x,hx,h1,h2⟩;obtain⟨i,e,hi,_,z1,z2,z3⟩:=t4 _ hx;exact DM (k:=x) z1 z2 j h1 h2 hk
   rcases f4 with f4|⟨_,q1,q2,q3⟩
   .exact .inl ⟨c.slot,c.parts,c.aR,OD.GG (f4.mono (λj _ hk=>notP j hk)) f3 cr⟩
   .have Ch:(1-c.slot).toNat<n:=ls
    have ODn:=Ct d2 d3;have Q6:(c.xo u mT P).bU n=_:=d6;rw[Q6]at ODn;obtain⟨k,hk,hsec⟩:=G7 f3 cr (1-c.slot).toNat Ch;have q2:v.loose.getD (1-c.slot).toNat false=true:=q2;rw[U8 q2]at hsec;have q3:sec v.aR (1-c.slot).toNat=sec c.d.now (1-c.slot).toNat:=q3;have q1n:sec v.now (1-c.slot).toNat=sec u.now (1-c.slot).toNat:=(q1 _ Ch).1;rw[q3,q1n]at hsec;have LY:∀j,j<n->j≠(1-c.slot).toNat->sec (v.kt cr n).now j=sec u.now j:=λj hj fy=>by
     have hl:=(q1 j hj).2 fy;rw[((FG cr f3) j hj hl).1,(q1 j hj).1]
    have Nl:sec u.now (1-c.slot).toNat=Rt.eV (c.ep+1) c.bf.table.length (P.map Int.toNat):=d3.rt;have rn:=uf t7 t6
    by_cases J3:sec (v.kt cr n).now (1-c.slot).toNat=sec u.now (1-c.slot).toNat
    .refine .inr ⟨1-c.slot,P,c.bf.table,?_⟩;refine ODn.calm (λj hj _=>⟨?_,λ_=>ri cr f3 j⟩)
     by_cases fy:j=(1-c.slot).toNat
     .rw[fy];exact J3
     .exact LY j hj fy
    .refine .inl ⟨c.slot,c.parts,c.aR,?_⟩;refine OD.other (λj hj hkp fy=>?_) (ri cr f3) (λhgd=>?_)
     .rw[LY j hj fy];exact(hoth j hj ⟨by have:=notP j hkp;rwa [t6]at this,by show(j:Int)≠1-c.slot;omega⟩).1
     .have hl64:=ev g.ok.now Ch;have hr64:(sec u.now (1-c.slot).toNat).length=64:=by rw[Nl];exact Rt.nj _ _ _ (by simpa using h5)
      rcases WU hr64 hl64 (by rw[Nl];exact rn.1) T.1 (by rw[Nl,rn.2];have:=T.2;omega) hk hsec hgd with h|h
      .exact eq h J3
      .rw[h];exact T.2
  .right;rw[f3];dsimp only;rw[U9 (by rw[d1];decide),ecom0];exact⟨a',f1,f2,rfl⟩
end Sh
namespace Sh.Cn
open Go.RowKit Pk Dk Pg
variable{d:D}{c:C}{n:Nat}
structure Dn(b:C)(n:Nat)(a:St):Prop where
 pos:1<=b.d.aq
 en:a.n=n
 d:a.c.d.down=true
 ok:a.c.d.Ok n
 k:Calm n (Kept b.parts b.aR) b.d a.c.d
def Up(b:C)(n:Nat)(a:St)(s:Sh.St):Prop:= ∃c α K,a=⟨c.aq α,n⟩/\0<=α/\α<=b.d.aq/\Sh.Zc c n s K/\c.aR=b.aR/\c.parts=b.parts/\c.ep=b.ep/\c.slot=b.slot/\Calm n (Kept b.parts b.aR) b.d c.d/\(b.broken=false->Twin c.d c.slot c.ep)
def Uj(h:d.down=true)(n k:Nat)(b:UV):∀i,(w4 d n k b i).1=d
 |0=>rfl
 |i+1=>by
  have ih:=Uj h n k b i;show(if _ then _ else _:D×Int).1=d
  split
  .rw[ih];unfold D.ao D.jb;rw[h];rfl
  .exact ih
def tC(h:d.down=true)(n:Nat)(id ep kd:Int)(s:UV):(bq d n id ep kd s).1=d:=by
 unfold bq
 split
 .rfl
 .split
  .rfl
  .exact Uj h _ _ _ _
def FH(h:c.d.down=true)(n:Nat)(p:UV):(c.bA n p).1.d=c.d:=by
 unfold C.bA
 split
 .rfl
 .split
  .exact tC h _ _ _ _ _
  .exact tC h _ _ _ _ _
def NZ(h:c.d.down=true)(n:Nat)(p:UV):(c.bE n p).1.d=c.d:=by
 have:=FH h n p;unfold C.bE
 split
 .rfl
 .split
  .rfl
  .split
   .rfl
   .split
    .exact this
    .exact this
def wk(h:c.d.down=true)(n:Nat)(l:Int)(p:UV):(c.ao n l p).1.d=c.d:=by
 have:=FH h n p;unfold C.ao
 split
 .rfl
 .split
  .rfl
  .split
   .rfl
   .split
    .exact tC h _ _ _ _ _
    .split
     .exact this
     .exact this
def drop_d(c:C)(l:Int):(c.aF l).1.d=c.d/\(c.aF l).1.ep=c.ep/\(c.aF l).1.slot=c.slot:=by
 unfold C.aF
 split<;>exact⟨rfl,rfl,rfl⟩
def IE(h:c.d.Ok n)(p:UV):(c.bA n p).1.d.Ok n:=by
 unfold C.bA
 split
 .exact h
 .split
  .exact kQ h _ _ _ _
  .exact kQ h _ _ _ _
def new_okD(h:c.d.Ok n)(p:UV):(c.bE n p).1.d.Ok n:=by
 have:=IE h p;unfold C.bE
 split
 .exact h
 .split
  .exact h
  .split
   .exact h
   .split
    .exact this
    .exact this
def WV(h:c.d.Ok n)(l:Int)(p:UV):(c.ao n l p).1.d.Ok n:=by
 have:=IE h p;unfold C.ao
 split
 .exact h
 .split
  .exact h
  .split
   .exact h
   .split
    .exact kQ h _ _ _ _
    .split
     .exact this
     .exact this
section
variable{b:C}{n:Nat}{a:St}{s:Sh.St}
def Dn.of(h:Dn b n a){a':St}(e1:a'.n=a.n)(e2:a'.c.d=a.c.d):Dn b n a':=⟨h.pos,by rw[e1];exact h.en,by rw[e2];exact h.d,by rw[e2];exact h.ok,by rw[e2];exact h.k⟩
def Dn.write(h:Dn b n a)(l:Int)(p:UV):Dn b n (a.ao l p).1:=h.of rfl (wk h.d _ _ _)
def Dn.new(h:Dn b n a)(p:UV):Dn b n (a.bE p).1:=h.of rfl (NZ h.d _ _)
def Dn.drop(h:Dn b n a)(l:Int):Dn b n (a.aF l).1:=h.of rfl (drop_d _ _).1
def Up.read(h:Up b n a s)(l:Int):a.aO l=s.aO l:=by
 obtain⟨c,α,K,rfl,h0,hA,z,_⟩:=h;rw[<-z.read];rfl
def Up.write(h:Up b n a s)(l:Int)(p:UV):Dn b n (a.ao l p).1\/(Up b n (a.ao l p).1 (s.ao l p).1/\(a.ao l p).2=(s.ao l p).2):=by
 obtain⟨c,α,K,rfl,h0,hA,z,e1,e2,e3,e4,k,T⟩:=h;have zw:=z.write l p;have hf:=xj c n l p;have hc:=DN z.g c.d l p z.g.ok;have hc:Calm n (Kept c.parts c.aR) c.d (c.ao n l p).1.d:=hc
 rcases WT z.g h0 l p with⟨u1,u2,u3⟩|⟨α',u1,u2,u3⟩
 .rw[e1,e2]at u3;exact .inl ⟨ls,rfl,u2,WV (c:=c.aq α) (nm z.g.ok h0) l p,k.trans u3⟩
 .refine .inr ⟨⟨(c.ao n l p).1,α',K+1,?_,u1,ls,zw.1,by rw[hf.1,e1],by rw[hf.2.1,e2],by rw[hf.2.2.1,e3],by rw[hf.2.2.2.1,e4],?_,?_⟩,?_⟩
  .show(⟨((c.aq α).ao n l p).1,n⟩:St)=_;rw[u3]
  .rw[e1,e2]at hc;exact k.trans hc
  .rw[hf.2.2.2.1,hf.2.2.1];exact λhb=>(T hb).calm z.R.n2 z.R.sl (λj hj=> .inl hj) hc
  .show((c.aq α).ao n l p).2=_;rw[u3];exact zw.2
def Up.new(h:Up b n a s)(p:UV):Dn b n (a.bE p).1\/(Up b n (a.bE p).1 (s.bE p).1/\(a.bE p).2=(s.bE p).2):=by
 obtain⟨c,α,K,rfl,h0,hA,z,e1,e2,e3,e4,k,T⟩:=h;have zw:=z.new p;have hf:=DO c n p;have hc:=Qr z.g c.d p z.g.ok;have hc:Calm n (Kept c.parts c.aR) c.d (c.bE n p).1.d:=hc
 rcases new_sim z.g h0 p with⟨u1,u2,u3⟩|⟨α',u1,u2,u3⟩
 .rw[e1,e2]at u3;exact .inl ⟨ls,rfl,u2,new_okD (c:=c.aq α) (nm z.g.ok h0) p,k.trans u3⟩
 .refine .inr ⟨⟨(c.bE n p).1,α',K+1,?_,u1,ls,zw.1,by rw[hf.1,e1],by rw[hf.2.1,e2],by rw[hf.2.2.1,e3],by rw[hf.2.2.2.1,e4],?_,?_⟩,?_⟩
  .show(⟨((c.aq α).bE n p).1,n⟩:St)=_;rw[u3]
  .rw[e1,e2]at hc;exact k.trans hc
  .rw[hf.2.2.2.1,hf.2.2.1];exact λhb=>(T hb).calm z.R.n2 z.R.sl (λj hj=> .inl hj) hc
  .show((c.aq α).bE n p).2=_;rw[u3];exact zw.2
def FI(c:C)(α l:Int):(c.aq α).aF l=((c.aF l).1.aq α,(c.aF l).2):=by
 unfold C.aF;rw[show(c.aq α).jb l=c.jb l from rfl]
 split<;>rfl
def Up.drop(h:Up b n a s)(l:Int):Up b n (a.aF l).1 (s.aF l).1/\(a.aF l).2=(s.aF l).2:=by
 obtain⟨c,α,K,rfl,h0,hA,z,e1,e2,e3,e4,k,T⟩:=h;have zw:=z.drop l;have hd:=drop_d c l;obtain⟨_,_,_,g4,g5,g6⟩:=GZ z.g l;refine⟨⟨(c.aF l).1,α,K,?_,h0,hA,zw.1,by rw[g5,e1],by rw[g6,e2],by rw[hd.2.1,e3],by rw[hd.2.2,e4],by rw[hd.1];exact k,by rw[hd.1,hd.2.1,hd.2.2];exact T⟩,?_⟩
 .show(⟨((c.aq α).aF l).1,n⟩:St)=_;rw[FI]
 .show((c.aq α).aF l).2=_;rw[FI];exact zw.2
def Up.abort(h:Up b n a s):Up b n a.bt {s with now:=jy s.aR}:=by
 obtain⟨c,α,K,rfl,h0,hA,z,e1,e2,e3,e4,k,T⟩:=h;exact⟨c.bt,α,K,rfl,h0,hA,z.abort,e1,e2,e3,e4,k,T⟩
end
structure dM(b:C)(n:Nat)(q:QS)(s:Sh.QS):Prop where
 a:Up b n q.a s.a
 l:q.l=s.l
 h:q.hand=s.hand
def Tw(b:C)(n:Nat){β:Type}(r:QS×β)(s:Sh.QS×β):Prop:=Dn b n r.1.a\/(dM b n r.1 s.1/\r.2=s.2)
def N1(q:QS)(p:Int):(q.fG p).1.a=q.a:=by
 unfold QS.fG
 split<;>rfl
def set_a(q:QS)(p:Int)(v:Nm):(q.eP p v).1.a=q.a:=by
 unfold QS.eP
 split
 .rfl
 .split<;>rfl
section
variable{b:C}{n:Nat}{q:QS}{s:Sh.QS}
def Dn.back(h:Dn b n q.a)(k:Nat):Dn b n (q.bl k).1.a:=by
 unfold QS.bl
 split
 .split
  .exact h.write _ _
  .exact h.write _ _
 .exact h
def Dn.vic(h:Dn b n q.a):Dn b n q.az.1.a:=by rw[(gG q).1];exact h
def Dn.hold(h:Dn b n q.a)(p:Int):Dn b n (q.aU p).1.a:=by
 unfold QS.aU
 split
 .exact h
 .split
  .exact h
  .split
   .exact h.vic
   .split
    .exact h.vic.back _
    .exact h.vic.back _
def Dn.get(h:Dn b n q.a)(p:Int):Dn b n (q.cF p).1.a:=by
 unfold QS.cF
 split
 .exact h.hold p
 .rw[N1];exact h.hold p
def Dn.put(h:Dn b n q.a)(p:Int)(v:Nm):Dn b n (q.dh p v).1.a:=by
 unfold QS.dh
 split
 .exact h
 .split
  .exact h.hold p
  .rw[N1,set_a];exact h.hold p
def Dn.N2(h:Dn b n q.a)(p:Int):Dn b n (q.aF p).1.a:=by
 unfold QS.aF
 split
 .exact h
 .split
  .exact h.drop p
  .split
   .exact h.drop p
   .exact h.drop p
def Dn.newq(h:Dn b n q.a)(p:UV):Dn b n (q.bE p).1.a:=h.new p
def dM.turn(h:dM b n q s):dM b n q.turn s.turn:=⟨h.a,h.l,by show(q.hand+1) % q.l.length=_;rw[h.l,h.h];rfl⟩
end
section
variable{b:C}{n:Nat}
def Kl:∀(m:Nat) {q:QS} {s:Sh.QS},dM b n q s->dM b n (q.gC m).1 (s.gC m).1/\(q.gC m).2=(s.gC m).2
 |0,_,_,h=>⟨h,rfl⟩
 |m+1,q,s,h=>by
  rw[yW,Sh.yW,h.l,h.h]
  split
  .exact Kl m h.turn
  .split
   .exact Kl m ⟨h.turn.a,rfl,h.turn.h⟩
   .exact⟨h.turn,rfl⟩
variable{q:QS}{s:Sh.QS}
def dM.vic(h:dM b n q s):dM b n q.az.1 s.az.1/\q.az.2=s.az.2:=by
 unfold QS.az Sh.QS.az;rw[h.l]
 split
 .exact⟨h,rfl⟩
 .exact Kl _ h
def dM.back(h:dM b n q s)(k:Nat):Tw b n (q.bl k) (s.bl k):=by
 unfold QS.bl Sh.QS.bl;rw[h.l]
 by_cases hd:(il s.l k).cH=true
 .rw[U8 hd,U8 hd]
  rcases h.a.write (il s.l k).au (il s.l k).fS.data.toList with hx|⟨u,e⟩
  .refine .inl ?_
   split<;>exact hx
  .rw[e];refine .inr ?_
   by_cases h0:(s.a.ao (il s.l k).au (il s.l k).fS.data.toList).2=0
   .rw[U8 h0,U8 h0];exact⟨⟨u,rfl,h.h⟩,rfl⟩
   .rw[U9 h0,U9 h0];exact⟨⟨u,rfl,h.h⟩,rfl⟩
 .rw[U9 hd,U9 hd];exact .inr ⟨h,rfl⟩
def dM.hold(h:dM b n q s)(p:Int):Tw b n (q.aU p) (s.aU p):=by
 unfold QS.aU Sh.QS.aU;rw[h.l,h.a.read]
 by_cases h1:0<=findF s.l p
 .rw[U8 h1,U8 h1];exact .inr ⟨⟨h.a,rfl,h.h⟩,rfl⟩
 rw[U9 h1,U9 h1]
 by_cases h2:(s.a.aO p).2≠0
 .rw[U8 h2,U8 h2];exact .inr ⟨h,rfl⟩
 rw[U9 h2,U9 h2];obtain⟨u,e⟩:=h.vic;rw[e]
 by_cases h3:s.az.2<0
 .rw[U8 h3,U8 h3];exact .inr ⟨u,rfl⟩
 rw[U9 h3,U9 h3]
 rcases u.back s.az.2.toNat with hx|⟨u2,e2⟩
 .refine .inl ?_
  split<;>exact hx
 .rw[e2]
  by_cases h4:(s.az.1.bl s.az.2.toNat).2≠0
  .rw[U8 h4,U8 h4];exact .inr ⟨u2,rfl⟩
  .rw[U9 h4,U9 h4];exact .inr ⟨⟨u2.a,by show List.set _ _ _=List.set _ _ _;rw[u2.l],u2.h⟩,rfl⟩
def dM.eX(h:dM b n q s)(p:Int):q.eX p=s.eX p:=by
 unfold QS.eX Sh.QS.eX;rw[h.l];rfl
def dM.Gm(h:dM b n q s)(p:Int):dM b n (q.fG p).1 (s.fG p).1/\(q.fG p).2=(s.fG p).2:=by
 unfold QS.fG Sh.QS.fG;rw[h.eX]
 cases s.eX p with
 |none=>exact⟨h,rfl⟩
 |some kf=>exact⟨⟨h.a,by show List.set _ _ _=List.set _ _ _;rw[h.l],h.h⟩,rfl⟩
def dM.set(h:dM b n q s)(p:Int)(v:Nm):dM b n (q.eP p v).1 (s.eP p v).1/\(q.eP p v).2=(s.eP p v).2:=by
 unfold QS.eP Sh.QS.eP
 by_cases hv:232<v.size
 .rw[U8 hv,U8 hv];exact⟨h,rfl⟩
 rw[U9 hv,U9 hv,h.eX]
 cases s.eX p with
 |none=>exact⟨h,rfl⟩
 |some kf=>exact⟨⟨h.a,by show List.set _ _ _=List.set _ _ _;rw[h.l],h.h⟩,rfl⟩
def dM.get(h:dM b n q s)(p:Int):Tw b n (q.cF p) (s.cF p):=by
 unfold QS.cF Sh.QS.cF
 rcases h.hold p with hx|⟨u,e⟩
 .refine .inl ?_
  split
  .exact hx
  .rw[N1];exact hx
 .rw[e]
  by_cases h1:(s.aU p).2.2≠0
  .rw[U8 h1,U8 h1];exact .inr ⟨u,rfl⟩
  .rw[U9 h1,U9 h1];exact .inr ⟨(u.Gm p).1,rfl⟩
def dM.put(h:dM b n q s)(p:Int)(v:Nm):Tw b n (q.dh p v) (s.dh p v):=by
 unfold QS.dh Sh.QS.dh
 by_cases hv:232<v.size
 .rw[U8 hv,U8 hv];exact .inr ⟨h,rfl⟩
 rw[U9 hv,U9 hv]
 rcases h.hold p with hx|⟨u,e⟩
 .refine .inl ?_
  split
  .exact hx
  .rw[N1,set_a];exact hx
 .rw[e]
  by_cases h1:(s.aU p).2.2≠0
  .rw[U8 h1,U8 h1];exact .inr ⟨u,rfl⟩
  .rw[U9 h1,U9 h1];exact .inr ⟨(((u.set p v).1).Gm p).1,rfl⟩
def dM.drop(h:dM b n q s)(p:Int):Tw b n (q.aF p) (s.aF p):=by
 refine .inr ?_;obtain⟨u,e⟩:=h.a.drop p;unfold QS.aF Sh.QS.aF;rw[h.l,e]
 split
 .exact⟨h,rfl⟩
 .split
  .exact⟨⟨u,rfl,h.h⟩,rfl⟩
  .split
   .exact⟨⟨u,rfl,h.h⟩,rfl⟩
   .exact⟨⟨u,rfl,h.h⟩,rfl⟩
def dM.new(h:dM b n q s)(p:UV):Tw b n (q.bE p) (s.bE p):=
 (h.a.new p).imp id λ⟨u,e⟩=>⟨⟨u,h.l,h.h⟩,e⟩
def dM.pR(h:dM b n q s)(i:Int):Tw b n (q.dk i) (s.dk i):=by
 unfold QS.dk Sh.QS.dk;rw[h.l]
 split
 .exact .inr ⟨h,rfl⟩
 .split
  .exact .inr ⟨h,rfl⟩
  .split
   .exact .inr ⟨h,rfl⟩
   .rcases h.back i.toNat with hx|⟨u,e⟩
    .refine .inl ?_
     split<;>exact hx
    .rw[e]
     split
     .exact .inr ⟨u,e⟩
     .exact .inr ⟨⟨u.a,by show List.set _ _ _=List.set _ _ _;rw[u.l],u.h⟩,rfl⟩
def dM.abort(h:dM b n q s):dM b n q.bt s.bt:=⟨h.a.abort,by show it _ _=it _ _;rw[h.l],h.h⟩
end
end Sh.Cn
end Go.Proofs.YtmonobkginiajaaGreat
