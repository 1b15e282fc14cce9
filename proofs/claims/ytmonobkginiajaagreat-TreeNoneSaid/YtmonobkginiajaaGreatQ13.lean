/- packed. -/
import Derived.Test.YtmonobkginiajaaGreatQ8
import Derived.Test.YtmonobkginiajaaGreatQ11
import Derived.Test.YtmonobkginiajaaGreatQ12
import Derived.Test.YtmonobkginiajaaGreatQ10
set_option linter.all false
set_option maxRecDepth 100000
set_option maxHeartbeats 8000000
namespace Go.Proofs.YtmonobkginiajaaGreat.Sh
open Go.RowKit Pk Dk Pg
structure Zc (c:C) (n:Nat) (a:St) (K:Nat):Prop where
 g:Good c n
 R:gu c.d n c.ep c.slot c.bE c.parts
 e: ∃k,a=(c.bn n).pad k
 bc:c.d.calls≤40*K
 be:c.ep≤K
section
variable {c:C} {n:Nat} {a:St} {K:Nat}
theorem Zc.more (z:Zc c n a K) {K':Nat} (h:K≤K'):Zc c n a K':=⟨z.g,z.R,z.e,by have:=z.bc; omega,by have:=z.be; omega⟩
theorem Zc.read (z:Zc c n a K) (l:Int):c.aD n l=a.aD l:=by
 obtain ⟨k,e⟩:=z.e;rw [ql z.g,e];unfold St.aD;rw [Dl]
theorem Zc.ep0 (z:Zc c n a K) (hK:K≤1000000000000):0≤c.ep∧c.ep≤1099511627776:=by have:=z.g.ep; omega
theorem Zc.calls (z:Zc c n a K) (hK:K≤1000000000000):c.d.calls≤3999999999999999900∧c.d.aP≤9223372036854775807:=by
 have:=z.bc;have:=z.g.arm
 constructor<;>omega
theorem Zc.tab (z:Zc c n a K) (k:Nat):c.table.getD k 0≤1024:=by
 have hm:c.m.length≤1024:=by rw [z.g.ml]; unfold dJ; omega
 by_cases hk:k<c.table.length
 ·simp only [List.getD,List.getElem?_eq_getElem hk,Option.getD_some];have:=z.g.ti _ (List.getElem_mem hk);omega
 ·simp only [List.getD];rw [List.getElem?_eq_none (by omega)];show (0:Int)≤1024;omega
theorem Zc.new (z:Zc c n a K) (p:List UInt8):Zc (c.bm n p).1 n (a.bm p).1 (K+1)∧(c.bm n p).2=(a.bm p).2:=by
 obtain ⟨k,ek⟩:=z.e;obtain ⟨k',ep⟩:=pad_new (c.bn n) k p;rw [←ek] at ep;obtain ⟨g1,g2,g3,g4,g5,g6⟩:=JT z.g p;have lY:=Dh c n p;exact ⟨⟨g1,by rw [lY.1,lY.2.1,lY.2.2.1,lY.2.2.2.1]; exact Dg z.g z.R _,⟨k',by rw [ep,g2]⟩,by have:=z.bc; omega,by rw [lY.2.2.1]; have:=z.be; omega⟩,by rw [ep]; exact g3⟩
theorem Zc.write (z:Zc c n a K) (l:Int) (p:List UInt8):Zc (c.ar n l p).1 n (a.ar l p).1 (K+1)∧(c.ar n l p).2=(a.ar l p).2:=by
 obtain ⟨k,ek⟩:=z.e;have ep:=GI (c.bn n) k l p;rw [←ek] at ep;obtain ⟨g1,g2,g3,g4⟩:=Dc z.g l p;have lY:=yy c n l p;exact ⟨⟨g1,by rw [lY.1,lY.2.1,lY.2.2.1,lY.2.2.2.1]; exact yx z.g z.R _ _,⟨k,by rw [ep,g2]⟩,by have:=z.bc; omega,by rw [lY.2.2.1]; have:=z.be; omega⟩,by rw [ep]; exact g3⟩
theorem Zc.drop (z:Zc c n a K) (l:Int):Zc (c.aE l).1 n (a.aE l).1 K∧(c.aE l).2=(a.aE l).2:=by
 obtain ⟨k,ek⟩:=z.e;have ep:=Ka (c.bn n) k l;rw [←ek] at ep;obtain ⟨g1,g2,g3,g4,g5,g6⟩:=Gw z.g l;have lY:(c.aE l).1.ep=c.ep∧(c.aE l).1.slot=c.slot:=by
  unfold C.aE
  split<;>exact ⟨rfl,rfl⟩
 exact ⟨⟨g1,by rw [g4,g5,g6,lY.1,lY.2]; exact z.R,⟨k,by rw [ep,g2]⟩,by rw [g4]; exact z.bc,by rw [lY.1]; exact z.be⟩,by rw [ep]; exact g3⟩
theorem Zc.jN (z:Zc c n a K) (tl:c.table.length≤512) (hK:K≤1000000000000):Zc (c.aA n).1 n a.aA.1 (K+1)∧(c.aA n).2=a.aA.2:=by
 obtain ⟨k,ek⟩:=z.e;have hbe:=z.be;have hae2:a.free=(c.bn n).free:=by rw [ek,tP]
 have E4:a.cX=(c.bn n).cX:=by rw [ek,Kb]
 by_cases hf:(c.bn n).free<bP (c.bn n).cX.length
 ·rw [zX z.g hf,show a.aA=(a,11) by unfold St.aA; rw [hae2,E4,if_pos hf]];obtain ⟨t1,t2⟩:=wK z.g;exact ⟨⟨t1,by show gu c.d n c.ep c.slot c.bE c.parts; exact z.R,⟨_,by rw [ek,t2,pad_pad]⟩,by show c.d.calls≤_; have:=z.bc; omega,by show c.ep≤_; omega⟩,rfl⟩
 ·obtain ⟨c',d1,d2,d3,d4,d5,d6,d7,d8⟩:=zY z.g z.R (by omega) tl hf;rw [d1,show a.aA=({a with now:=je a.cX,bE:=a.cX,ep:=a.ep+1},0) by unfold St.aA; rw [hae2,E4,if_neg hf]];exact ⟨⟨d2,d3,⟨0,by rw [pk,d6,E4,ek]; rfl⟩,by show c'.d.calls≤_; have:=z.bc; omega,by show c'.ep≤_; rw [d8]; omega⟩,rfl⟩
end
section
variable {w:World} {x:X} {c:C} {n:Nat} {a:St} {K:Nat}
theorem Dn (h:At w x n c) (z:Zc c n a K) (hK:K≤1000000000000) (l:Int) (s:ByteArray) (hs:s.size≤9223372036854775807):
  Calls Tryz.prog 147 #[sp x.b,.int .i64 l,.string s] w fun e w'=>e= .returned (.int .i64 (a.ar l s.data.toList).2)∧ ∃c',At w' x n c'∧Zc c' n (a.ar l s.data.toList).1 (K+1)∧ag x.fp w w':=by
 have zw:=z.write l s.data.toList;rw [←zw.2];exact (CZ h l s hs (z.ep0 hK) (by have:=(z.calls hK).1; omega) (z.calls hK).2 z.tab).mono fun e w' ⟨r,A,o⟩=>⟨r,_,A,zw.1,o⟩
theorem GL (h:At w x n c) (z:Zc c n a K) (l:Int):
  Calls Tryz.prog 228 #[sp x.b,.int .i64 l] w fun e w'=>e= .returned (.tuple #[.string ⟨(a.aD l).1.toArray⟩,.int .i64 (a.aD l).2])∧Below w.heap.size w w':=by
 rw [←z.read l];exact Sh.kq h l
theorem Ab (h:At w x n c) (z:Zc c n a K) (hK:K≤1000000000000):
  Calls Tryz.prog 100 #[sp x.b] w fun e w'=>e= .returned (.int .i64 a.aA.2)∧ ∃c',zG w w' x n c'∧Zc c' n a.aA.1 (K+1):=by
 have hm:c.m.length≤1024:=by rw [z.g.ml]; unfold dJ; omega
 have zc:=z.jN h.tl hK;rw [←zc.2];exact (Aa h z.g.br (z.ep0 hK).1 (fun y hy=>by have:=z.g.ti y hy; omega) z.g.sl (z.calls hK).1 (z.calls hK).2 (Rt.iz z.R.ro) (fun hf he=>by
  obtain ⟨mT,P,e,_,_,_,_,_,t6,t7⟩:=k6 z.g h.tl hf;rw [e];exact ⟨by rw [t6]; exact t7,t6⟩)).mono fun e w' ⟨r,p⟩=>⟨r,_,p,zc.1⟩
end
structure QS where
 a:St
 l:List Fr
 hand:Nat
def QS.ps (q:QS) (c:C):PS:=⟨c,q.l,q.hand⟩
def QS.turn (s:QS):QS:={s with hand:=(s.hand+1) % s.l.length}
def QS.gZ:Nat→QS→QS×Int
 | 0,s=>(s,-1)
 | m+1,s=>
  if 0<(hJ s.l s.hand).held then QS.gZ m s.turn
  else if (hJ s.l s.hand).used=true then QS.gZ m {s.turn with l:=s.l.set s.hand {hJ s.l s.hand with used:=false}}
  else (s.turn,(s.hand:Int))
def QS.aB (s:QS):QS×Int:=
 if 0≤zI (fun f=>decide (f.al<0)) s.l then (s,zI (fun f=>decide (f.al<0)) s.l) else s.gZ (2*s.l.length+1)
def QS.bF (s:QS) (k:Nat):QS×Int:=
 if (hJ s.l k).bG=true then
  if (s.a.ar (hJ s.l k).al (hJ s.l k).et.data.toList).2=0 then ({s with a:=(s.a.ar (hJ s.l k).al (hJ s.l k).et.data.toList).1,l:=s.l.set k {hJ s.l k with bG:=false}},0)
  else ({s with a:=(s.a.ar (hJ s.l k).al (hJ s.l k).et.data.toList).1},(s.a.ar (hJ s.l k).al (hJ s.l k).et.data.toList).2)
 else (s,0)
def QS.aL (s:QS) (p:Int):QS×ByteArray×Int:=
 if 0≤findF s.l p then
  ({s with l:=s.l.set (findF s.l p).toNat {hJ s.l (findF s.l p).toNat with held:=(hJ s.l (findF s.l p).toNat).held+1,used:=true}},(hJ s.l (findF s.l p).toNat).et,0)
 else if (s.a.aD p).2≠0 then (s,⟨#[]⟩,(s.a.aD p).2)
 else if s.aB.2<0 then (s.aB.1,⟨#[]⟩,12)
 else if (s.aB.1.bF s.aB.2.toNat).2≠0 then ((s.aB.1.bF s.aB.2.toNat).1,⟨#[]⟩,(s.aB.1.bF s.aB.2.toNat).2)
 else ({(s.aB.1.bF s.aB.2.toNat).1 with l:=(s.aB.1.bF s.aB.2.toNat).1.l.set s.aB.2.toNat ⟨p,⟨(s.a.aD p).1.toArray⟩,1,false,true⟩},⟨(s.a.aD p).1.toArray⟩,0)
def QS.fA (s:QS) (p:Int):Option (Nat×Fr):=
 if findF s.l p<0 then none else match s.l[(findF s.l p).toNat]? with
  | none=>none
  | some f=>if f.held=0 then none else some ((findF s.l p).toNat,f)
def QS.fI (s:QS) (p:Int):QS×Int:=match s.fA p with
 | none=>(s,16)
 | some (k,f)=>({s with l:=s.l.set k {f with held:=f.held-1}},0)
def nC (s:ByteArray):ByteArray:=⟨(dA s.data.toList 232).toArray⟩
def QS.dY (s:QS) (p:Int) (b:ByteArray):QS×Int:=
 if 232<b.size then (s,4) else match s.fA p with
 | none=>(s,16)
 | some (k,f)=>({s with l:=s.l.set k {f with et:=nC b,bG:=true,used:=true}},0)
def QS.cO (s:QS) (p:Int):QS×ByteArray×Int:=
 if (s.aL p).2.2≠0 then ((s.aL p).1,⟨#[]⟩,(s.aL p).2.2) else (((s.aL p).1.fI p).1,(s.aL p).2.1,0)
def QS.cL (s:QS) (p:Int) (b:ByteArray):QS×Int:=
 if 232<b.size then (s,4) else if (s.aL p).2.2≠0 then ((s.aL p).1,(s.aL p).2.2) else ((((s.aL p).1.dY p b).1.fI p).1,0)
def QS.aE (s:QS) (p:Int):QS×Int:=
 if 0≤findF s.l p∧0<(hJ s.l (findF s.l p).toNat).held then (s,16)
 else if (s.a.aE p).2≠0 then ({s with a:=(s.a.aE p).1},(s.a.aE p).2)
 else if 0≤findF s.l p then ({s with a:=(s.a.aE p).1,l:=s.l.set (findF s.l p).toNat Fr.nil},0)
 else ({s with a:=(s.a.aE p).1},0)
def QS.pw (s:QS):Nat:=s.l.countP fun f=>decide (0<f.held)
def QS.aN (s:QS):Nat→QS×Int
 | 0=>(s,0)
 | k+1=>if (s.aN k).2≠0 then s.aN k else (s.aN k).1.bF k
def QS.aA (s:QS):QS×Int:=
 if 0<s.pw then (s,16)
 else if (s.aN s.l.length).2≠0 then s.aN s.l.length
 else ({(s.aN s.l.length).1 with a:=(s.aN s.l.length).1.a.aA.1},(s.aN s.l.length).1.a.aA.2)
def QS.bm (s:QS) (p:List UInt8):QS×Int×Int:=({s with a:=(s.a.bm p).1},(s.a.bm p).2)
theorem yA (c:C): ∀(m:Nat) (q:QS),(q.ps c).gZ m=((q.gZ m).1.ps c,(q.gZ m).2)
 | 0,_=>rfl
 | m+1,q=>by
  unfold PS.gZ QS.gZ;show (if 0<(hJ q.l q.hand).held then _ else _)=_
  split
  ·exact yA c m q.turn
  ·show (if (hJ q.l q.hand).used=true then _ else _)=_
   split
   ·exact yA c m {q.turn with l:=q.l.set q.hand {hJ q.l q.hand with used:=false}}
   ·rfl
theorem qz (c:C) (q:QS):(q.ps c).aB=(q.aB.1.ps c,q.aB.2):=by
 unfold PS.aB QS.aB;show (if 0≤zI (fun f=>decide (f.al<0)) q.l then _ else _)=_
 split
 ·rfl
 ·exact yA c _ q
theorem yB (c:C) (q:QS) (p:Int):(q.ps c).fA p=q.fA p:=rfl
theorem let_ps (c:C) (q:QS) (p:Int):(q.ps c).fI p=((q.fI p).1.ps c,(q.fI p).2):=by
 unfold PS.fI QS.fI;rw [yB]
 cases q.fA p with
 | none=>rfl
 | some kf=>rfl
theorem Dp: ∀(m:Nat) (q:QS),(q.gZ m).1.a=q.a∧(q.gZ m).1.l.length=q.l.length
 | 0,_=>⟨rfl,rfl⟩
 | m+1,q=>by
  unfold QS.gZ
  split
  ·exact Dp m q.turn
  ·split
   ·have h:=Dp m {q.turn with l:=q.l.set q.hand {hJ q.l q.hand with used:=false}};exact ⟨h.1,by rw [h.2,List.length_set]⟩
   ·exact ⟨rfl,rfl⟩
theorem gy (q:QS):q.aB.1.a=q.a∧q.aB.1.l.length=q.l.length:=by
 unfold QS.aB
 split
 ·exact ⟨rfl,rfl⟩
 ·exact Dp _ q
end Go.Proofs.YtmonobkginiajaaGreat.Sh
namespace Go.Proofs.YtmonobkginiajaaGreat.Sh
open Go.RowKit Pk Dk Pg
attribute [local go_sem ↓] Go.wp_at_zero Go.wp_at_succ
def ZP (w:World) (y:Y) (n:Nat) (q:QS) (K:Nat):Prop:= ∃c,fJ w y n (q.ps c)∧Zc c n q.a K
theorem ZP.below {w w':World} {y:Y} {n:Nat} {q:QS} {K:Nat} (h:ZP w y n q K) (hb:Below w.heap.size w w'):ZP w' y n q K:=by
 obtain ⟨c,A,z⟩:=h;exact ⟨c,A.below hb,z⟩
theorem ZP.more {w:World} {y:Y} {n:Nat} {q:QS} {K K':Nat} (h:ZP w y n q K) (hk:K≤K'):ZP w y n q K':=by
 obtain ⟨c,A,z⟩:=h;exact ⟨c,A,z.more hk⟩
theorem k7 {l:List Fr} {k:Nat} {f:Fr} (h:l[k]?=some f):hJ l k=f:=by unfold hJ; rw [h]; rfl
theorem Dq {w:World} {y:Y} {n K:Nat} {q:QS} {c:C} (h:fJ w y n (q.ps c)) (z:Zc c n q.a K) (hK:K≤1000000000000) (k:Nat) {f:Fr} (hf:q.l[k]?=some f) (hd:f.bG=true) (hs:f.et.size≤1000):
  Calls Tryz.prog 99 #[pp y.pb,.int .i64 (k:Nat)] w fun e w'=>e= .returned (.int .i64 (q.bF k).2)∧ZP w' y n (q.bF k).1 (K+1)∧ag y.fp w w':=by
 have hk:k<q.l.length:=(List.getElem?_eq_some_iff.1 hf).1;have p1:w.cell? ⟨y.pb,1,none⟩=some (.slice (some ⟨y.fg,0,none⟩) q.l.length y.cp):=h.p1;have l2:q.l.length≤32:=h.l2;have IF:(k:Int)<(q.l.length:Int):=by omega
 obtain ⟨c0,c1,c2,c3,c4⟩:=h.vP k f hf;rw [hd] at c3;have KW:=xh (fun (W:World) (A:fJ W y n (q.ps c))=>Dn A.hs z hK f.al f.et (by omega));have HP:=xh (fun (w1 w2:World) (c':C) (A1:fJ w1 y n (q.ps c)) (A:At w2 y.x n c') (o:ag y.x.fp w1 w2)=>(show fJ w2 y n (q.ps c')∧ag y.fp w1 w2 from A1.same A o));have AD:=xh h.drew;have OD:=xh ((ag.refl y.fp w).drew);have HF:=xh hf;obtain ⟨R,hR⟩: ∃R,q.a.ar f.al f.et.data.toList=R:=⟨_,rfl⟩
 have hB:q.bF k=if R.2=0 then ({q with a:=R.1,l:=q.l.set k {f with bG:=false}},0) else ({q with a:=R.1},R.2):=by
  unfold QS.bF;rw [k7 hf,if_pos hd,hR]
 rw [hB];rw [hR] at KW;obtain ⟨Ra,Re⟩:=R;dsimp only at KW ⊢;obtain ⟨Q2,hQ⟩: ∃Q2,(if Re=0 then (({q with a:=Ra,l:=q.l.set k {f with bG:=false}}:QS),(0:Int)) else ({q with a:=Ra},Re))=Q2:=⟨_,rfl⟩;rw [hQ];have HQ:=xh hQ;clear hQ;have S0:=xh (show (fun W'=>W'.cell? ⟨y.pb,0,none⟩=some (.pointer (some ⟨y.x.b,0,none⟩))∧W'.cell? ⟨y.fg,k*5,none⟩=some (.int .i64 f.al)∧W'.cell? ⟨y.fg,k*5+1,none⟩=some (.string f.et)) w.drew from ⟨AD.out.p0,(AD.out.vP k f hf).1,(AD.out.vP k f hf).2.1⟩)
 clear h z hf hd hB hR c0 c1 c2 c4;unfold pp sp at *;go_enter Tryz.func99,Tryz.ntmps99;go_wp2_with fail;refine wp_region_held_drew (S:=fun W'=>W'.cell? ⟨y.pb,0,none⟩=some (.pointer (some ⟨y.x.b,0,none⟩))∧W'.cell? ⟨y.fg,k*5,none⟩=some (.int .i64 f.al)∧W'.cell? ⟨y.fg,k*5+1,none⟩=some (.string f.et)) (by kernel_rfl) (S0.out) (fun aj=>?_);refine bR [(0,18),(1,19),(2,20),(3,21),(4,22),(5,23),(6,24),(7,25),(8,26),(9,27),(10,28),(11,29)] ?_
 iterate 12 (refine zt ?_; try simp only [Act.put,pa,pb,pc])
 refine bS ?_;refine cA (i:=12) (o:=⟨some 30,_,_,_,_,_⟩) fun K hK=>?_;go_simp
 go_at_call 147
 refine (KW.out _ AD.out).mono ?_;rintro e w5 ⟨rfl,c5,a5,z5,o5⟩;have P5:=HP.out w.drew w5 c5 AD.out a5 o5;have A5:=xh P5.1;have O5:=xh (OD.out.trans P5.2);have Z5:=xh z5;clear P5 a5 o5 z5;obtain ⟨d0,d1,d2,d3,d4⟩:=A5.out.vP k f HF.out;have q0:=A5.out.p0;go_simp;refine hK.out _ _ (⟨q0,d0,d1⟩) (fun aj=>?_)
 try simp only [Act.put,pa,pb,pc]
 refine bR [(13,6)] ?_
 iterate 1 (refine zt ?_; try simp only [Act.put,pa,pb,pc])
 refine bS ?_;refine wpAnyH_done (by kernel_rfl) ?_ _;have hfs:=HF.out
 by_cases he:Re=0
 ·subst he;have HR:=xh (HQ.out.symm.trans (if_pos rfl));clear HQ;obtain ⟨z0,B0,qq⟩:=A5.out.dY k 3 (by omega) {f with bG:=false} (.bool false) HF.out rfl;have AZ:=xh B0;have OZ:=xh (O5.out.trans qq);clear B0 qq;go_wp2_with fail;go_ret;exact ⟨by rw [HR.out]; rfl,by rw [HR.out]; exact ⟨c5,AZ.out,Z5.out⟩,OZ.out⟩
 ·have HR:=xh (HQ.out.symm.trans (if_neg he));clear HQ;have hq:(Re==0)=false:=by rw [beq_eq_false_iff_ne]; exact he
  have jm:(Re != 0)=true:=by rw [bne_iff_ne]; exact he
  go_wp2_with fail;go_ret;exact ⟨by rw [HR.out]; rfl,by rw [HR.out]; exact ⟨c5,A5.out,Z5.out⟩,O5.out⟩
theorem Ad {w:World} {y:Y} {n K:Nat} {q:QS} (h:ZP w y n q K) (hK:K≤1000000000000) (k:Nat) (hk:k<q.l.length) (hs: ∀f∈q.l,f.et.size≤1000):
  Calls Tryz.prog 99 #[pp y.pb,.int .i64 (k:Nat)] w fun e w'=>e= .returned (.int .i64 (q.bF k).2)∧ZP w' y n (q.bF k).1 (K+1)∧ag y.fp w w':=by
 obtain ⟨c,A,z⟩:=h;have hf:=jl hk
 by_cases hd:(hJ q.l k).bG=true
 ·exact Dq A z hK k hf hd (hs _ (List.mem_of_getElem? hf))
 ·unfold QS.bF;rw [if_neg hd];exact (CK A k hf (by simpa using hd)).mono fun e w' ⟨r,b⟩=>⟨r,⟨c,A.below b,z.more (by omega)⟩,.ak b⟩
theorem hold_go {w:World} {y:Y} {n K:Nat} {q:QS} (h:ZP w y n q K) (hK:K≤1000000000000) (p:Int) (hk:findF q.l p= -1) (hr:(q.a.aD p).2=0) (k:Nat) (hv:q.aB.2=(k:Nat)) (gw:k<q.l.length) (hs: ∀f∈q.aB.1.l,f.et.size≤1000):
  Calls Tryz.prog 213 #[pp y.pb,.int .i64 p] w fun e w'=>e= .returned (.tuple #[.string (q.aL p).2.1,.int .i64 (q.aL p).2.2])∧ZP w' y n (q.aL p).1 (K+1)∧ag y.fp w w':=by
 obtain ⟨c,A,z⟩:=h;have KF:=xh (fQ A p);rw [show (q.ps c).l=q.l from rfl,hk] at KF;have HB:=xh (fun w' (hb:Below w.heap.size w w')=>A.below hb);have KR:=xh (fun w' (hb:Below w.heap.size w w')=>GL (A.below hb).hs z p);have KV:=xh (fun w' (hb:Below w.heap.size w w')=>tw (A.below hb));rw [qz] at KV;rw [hr] at KR;rw [hv] at KV;have hvl:=(gy q).2;have wO:=(gy q).1
 have hH:q.aL p=if (q.aB.1.bF k).2≠0 then ((q.aB.1.bF k).1,⟨#[]⟩,(q.aB.1.bF k).2) else ({(q.aB.1.bF k).1 with l:=(q.aB.1.bF k).1.l.set k ⟨p,⟨(q.a.aD p).1.toArray⟩,1,false,true⟩},⟨(q.a.aD p).1.toArray⟩,0):=by
  unfold QS.aL;rw [hk,if_neg (by omega),if_neg (by rw [hr]; simp),hv,if_neg (by omega),show ((k:Nat):Int).toNat=k by omega]
 rw [hH];clear hH;generalize (q.a.aD p).1=R at *;generalize q.aB.1=V at *;have KB:=xh (fun w' (h:ZP w' y n V K)=>Ad h hK k (by omega) hs);have su:k<(V.bF k).1.l.length:=by
  unfold QS.bF
  split
  ·split
   ·show k<(V.l.set k _).length;rw [List.length_set]; omega
   ·show k<V.l.length;omega
  ·show k<V.l.length;omega
 generalize V.bF k=VB at *;obtain ⟨B,be⟩:=VB;dsimp only at KB su ⊢;obtain ⟨Q2,hQ⟩: ∃Q2,(if be≠0 then (B,(⟨#[]⟩:ByteArray),be) else (({B with l:=B.l.set k ⟨p,⟨R.toArray⟩,1,false,true⟩}:QS),⟨R.toArray⟩,0))=Q2:=⟨_,rfl⟩;rw [hQ];have HQ:=xh hQ;clear hQ;have HZ:=xh (show ∀W,fJ W y n (V.ps c)→ZP W y n V K from fun W h=>⟨c,h,by rw [wO]; exact z⟩);have II: ¬(k:Int)<0:=by omega
 clear A z hk hv hvl wO hs hr;unfold pp sp at *;go_enter Tryz.func213,Tryz.ntmps213;go_wp2_with fail;refine KF.out.mono ?_;rintro e w1 ⟨rfl,aM⟩;have O1:=xh aM;have p0:=(HB.out w1 aM).p0;clear aM;go_wp2_with fail;refine (KR.out w1 O1.out).mono ?_;rintro e w2 ⟨rfl,bT⟩;have O2:=xh (ao O1.out bT);clear bT p0;go_wp2_with fail;refine (KV.out w2 O2.out).mono ?_;rintro e w3 ⟨rfl,A3,o3⟩;have Z3:=xh (HZ.out w3 A3);have o3:=xh ((ag.ak (S:=y.fp) O2.out).trans o3)
 clear A3;go_wp2_with fail;refine (KB.out w3 Z3.out).mono ?_;rintro e w4 ⟨rfl,z4,o4⟩;obtain ⟨c4,A4,Z4⟩:=z4;have A4:=xh A4;have Z4:=xh Z4;have o4:=xh (o3.out.trans o4)
 by_cases he:be=0
 ·subst he;have HR:=xh (HQ.out.symm.trans (if_neg (by simp)));clear HQ;have p1:w4.cell? ⟨y.pb,1,none⟩=some (.slice (some ⟨y.fg,0,none⟩) B.l.length y.cp):=A4.out.p1;have l2:B.l.length≤32:=A4.out.l2;have IF:(k:Int)<(B.l.length:Int):=by omega
  obtain ⟨f,HF⟩: ∃f,Hid (B.l[k]?=some f):=⟨_,xh (List.getElem?_eq_getElem su)⟩;obtain ⟨c0,c1,c2,c3,c4'⟩:=A4.out.vP k f HF.out;obtain ⟨z0,B0,q0⟩:=A4.out.dY k 0 (by omega) {f with al:=p} (.int .i64 p) HF.out rfl;rw [Nat.add_zero] at z0 B0 q0;have g0:(B.l.set k {f with al:=p})[k]?=some {f with al:=p}:=by rw [List.getElem?_set_self su]
  obtain ⟨z1,B1,q1⟩:=B0.dY k 1 (by omega) {f with al:=p,et:=⟨R.toArray⟩} (.string ⟨R.toArray⟩) g0 rfl;simp only [List.set_set] at B1;have g1:(B.l.set k {f with al:=p,et:=⟨R.toArray⟩})[k]?=some {f with al:=p,et:=⟨R.toArray⟩}:=by rw [List.getElem?_set_self su]
  obtain ⟨z2,B2,q2⟩:=B1.dY k 2 (by omega) {f with al:=p,et:=⟨R.toArray⟩,held:=1} (.int .i64 1) g1 rfl;simp only [List.set_set] at B2;have g2:(B.l.set k {f with al:=p,et:=⟨R.toArray⟩,held:=1})[k]?=some {f with al:=p,et:=⟨R.toArray⟩,held:=1}:=by rw [List.getElem?_set_self su]
  obtain ⟨z3,B3,q3⟩:=B2.dY k 3 (by omega) {f with al:=p,et:=⟨R.toArray⟩,held:=1,bG:=false} (.bool false) g2 rfl;simp only [List.set_set] at B3;have g3:(B.l.set k {f with al:=p,et:=⟨R.toArray⟩,held:=1,bG:=false})[k]?=some {f with al:=p,et:=⟨R.toArray⟩,held:=1,bG:=false}:=by rw [List.getElem?_set_self su]
  obtain ⟨z4,B4,q4⟩:=B3.dY k 4 (by omega) ⟨p,⟨R.toArray⟩,1,false,true⟩ (.bool true) g3 rfl;simp only [List.set_set] at B4;have AZ:=xh B4;have OZ:=xh (o4.out.trans ((((q0.trans q1).trans q2).trans q3).trans q4));clear B0 B1 B2 B3 B4 q0 q1 q2 q3 q4 g0 g1 g2 g3 su;go_wp2_with fail;go_ret2;exact ⟨by rw [HR.out]; rfl,by rw [HR.out]; exact ⟨c4,AZ.out,Z4.out⟩,OZ.out⟩
 ·have HR:=xh (HQ.out.symm.trans (if_pos he));clear HQ;have hq:(be==0)=false:=by rw [beq_eq_false_iff_ne]; exact he
  have jm:(be != 0)=true:=by rw [bne_iff_ne]; exact he
  clear su;go_wp2_with fail;go_ret2;exact ⟨by rw [HR.out]; rfl,by rw [HR.out]; exact ⟨c4,A4.out,Z4.out⟩,o4.out⟩
def Fb (l:List Fr) (K:Nat):Prop:= ∀f∈l,0≤f.held∧f.held≤K∧f.et.size≤1000
theorem Fb.set {l:List Fr} {K:Nat} (h:Fb l K) (k:Nat) {f:Fr} (hf:0≤f.held∧f.held≤K∧f.et.size≤1000):Fb (l.set k f) K:=by
 intro g hg
 rcases List.mem_or_eq_of_mem_set hg with hg | rfl
 ·exact h g hg
 ·exact hf
theorem Fb.more {l:List Fr} {K K':Nat} (h:Fb l K) (hk:K≤K'):Fb l K':=fun f hf=>by have:=h f hf; omega
theorem Fb.nil {K:Nat}:0≤Fr.nil.held∧Fr.nil.held≤(K:Nat)∧Fr.nil.et.size≤1000:=⟨Int.le_refl _,by show (0:Int)≤_; omega,by decide⟩
theorem tR {K:Nat}: ∀(m:Nat) (s:QS),s.hand<s.l.length→Fb s.l K→Fb (s.gZ m).1.l K∧(s.gZ m).1.hand<(s.gZ m).1.l.length∧((s.gZ m).2= -1∨ ∃k:Nat,(s.gZ m).2=k∧k<s.l.length)
 | 0,_,hl,hc=>⟨hc,hl,.inl rfl⟩
 | m+1,s,hl,hc=>by
  unfold QS.gZ;have hf:=jl hl;have hm:=hc _ (List.mem_of_getElem? hf);have ht:(s.hand+1) % s.l.length<s.l.length:=Nat.mod_lt _ (by omega)
  split
  ·exact tR m s.turn ht hc
  ·split
   ·have:=tR m {s.turn with l:=s.l.set s.hand {hJ s.l s.hand with used:=false}} (by rw [List.length_set]; exact ht) (hc.set _ hm);rw [List.length_set] at this;exact this
   ·exact ⟨hc,ht,.inr ⟨s.hand,rfl,hl⟩⟩
theorem nU {K:Nat} (s:QS) (hl:s.hand<s.l.length) (hc:Fb s.l K):Fb s.aB.1.l K∧s.aB.1.hand<s.aB.1.l.length∧(s.aB.2= -1∨ ∃k:Nat,s.aB.2=k∧k<s.l.length):=by
 unfold QS.aB
 split
 ·refine ⟨hc,hl,?_⟩
  rcases yn (fun f=>decide (f.al<0)) s.l with e | ⟨k,f,e,hf,_⟩
  ·exact .inl e
  ·exact .inr ⟨k,e,(List.getElem?_eq_some_iff.1 hf).1⟩
 ·exact tR _ s hl hc
theorem mL {w:World} {y:Y} {n K:Nat} {q:QS} (h:ZP w y n q K) (hb:Fb q.l K) (hK:K≤1000000000000) (p:Int):
  Calls Tryz.prog 213 #[pp y.pb,.int .i64 p] w fun e w'=>e= .returned (.tuple #[.string (q.aL p).2.1,.int .i64 (q.aL p).2.2])∧ZP w' y n (q.aL p).1 (K+1)∧ag y.fp w w':=by
 have h':=h;obtain ⟨c,A,z⟩:=h
 rcases fe q.l p with e | ⟨k,f,e,hf,_,_⟩
 ·by_cases hr:(q.a.aD p).2=0
  ·obtain ⟨v1,v2,v3⟩:=nU q A.lh hb
   rcases v3 with v3 | ⟨k,v3,hk⟩
   ·unfold QS.aL;rw [e,if_neg (by omega),if_neg (by rw [hr]; simp),if_pos (by omega)];refine (Gu A p e (by rw [show (q.ps c).c=c from rfl,z.read]; exact hr) (by rw [qz]; show q.aB.2<0; omega)).mono fun e w' ⟨r,A',o⟩=>⟨r,?_,o⟩;rw [qz] at A';exact ⟨c,A',by rw [(gy q).1]; exact z.more (by omega)⟩
   ·exact hold_go h' hK p e hr k v3 hk (fun f hf=>(v1 f hf).2.2)
  ·unfold QS.aL;rw [e,if_neg (by omega),if_pos hr];have hb:=JL A p e (by rw [show (q.ps c).c=c from rfl,z.read]; exact hr);rw [show (q.ps c).c=c from rfl,z.read] at hb;exact hb.mono fun e w' ⟨h1,h2⟩=>⟨h1,⟨c,A.below h2,z.more (by omega)⟩,.ak h2⟩
 ·unfold QS.aL;rw [e,if_pos (by omega),show ((k:Nat):Int).toNat=k from by omega,k7 hf];exact (JK A p k e hf (by have:=hb f (List.mem_of_getElem? hf); omega)).mono fun e w' ⟨r,A',o⟩=>⟨r,⟨c,A',z.more (by omega)⟩,o⟩
end Go.Proofs.YtmonobkginiajaaGreat.Sh
namespace Go.Proofs.YtmonobkginiajaaGreat.Sh
open Go.RowKit Pk Dk Pg
attribute [local go_sem ↓] Go.wp_at_zero Go.wp_at_succ
theorem dg:(Tryz.prog.info? 5).map (fun i=>(i.zero,i.size,i.bytes))=some (some (.int .u8 0),1,1):=by kernel_rfl
theorem Ke (n:Nat) (h1:n≤140737488355328) (w:World):
  (Instr.makeSlice 150 (.int .i64 n) (.int .i64 n)).run Tryz.prog w= .ok (.slice (some ⟨w.heap.size,0,none⟩) n n) (w.alloc (.cells (cI (List.replicate n 0)).toArray 5)):=by
 obtain ⟨i0,hi,iL,gM,iw⟩:=info_parts dg;have h:=run_make (P:=Tryz.prog) w 150 5 i0 (.int .u8 0) Tryz.underlying150 hi iL .i64 .i64 n n (by omega) (Int.le_refl _) (by rw [iw]; omega) (by omega);rw [h,gM];have e:madeCells (Value.int .u8 0).cells (((n:Int).toNat)*1)=(cI (List.replicate n 0)).toArray:=by
  show madeCells #[Value.int .u8 0] (n*1)=_;rw [Nat.mul_one,fm]; simp [cI,bv]
 rw [e];rfl
theorem full_eq (b:ByteArray):b++(⟨(List.replicate (232-b.size) (0:UInt8)).toArray⟩:ByteArray)=nC b:=by
 apply ByteArray.ext;unfold nC dA;rw [ByteArray.data_append];simp
theorem tT {b:ByteArray} (h:b.size≤232):(nC b).size=232:=by
 have hl:b.data.toList.length=b.size:=by simp
 show (dA b.data.toList 232).toArray.size=232;unfold dA;simp;omega
theorem set_in {w:World} {y:Y} {n:Nat} {s:PS} (h:fJ w y n s) (p:Int) (b:ByteArray) (hb:b.size≤232) {k:Nat} {f:Fr} (hh:s.fA p=some (k,f)):
  Calls Tryz.prog 219 #[pp y.pb,.int .i64 p,.string b] w fun e w'=>e= .returned (.int .i64 0)∧fJ w' y n {s with l:=s.l.set k {f with et:=nC b,bG:=true,used:=true}}∧ag y.fp w w':=by
 have KH:=xh (tt h p);rw [hh] at KH;obtain ⟨hf,_,_⟩:=tu hh;have gw:k<s.l.length:=(List.getElem?_eq_some_iff.1 hf).1;have l2:=h.l2;have HF:=xh hf;have HA:=xh (fun W (hb:Below w.heap.size w W)=>h.below hb);have hbI: ¬(232:Int)<(b.size:Int):=by omega
 obtain ⟨m,hm⟩: ∃m,232-b.size=m:=⟨_,rfl⟩;have em:IntKind.i64.wrap (232-(b.size:Int))=(m:Int):=by rw [show (232:Int)-(b.size:Int)=(m:Int) by omega]; exact IntWalk.i64_in _ (by omega)
 have hmk:=fun W=>Ke m (by omega) W;have HCV:=xh (fun (W:World)=>(bs (P:=Tryz.prog) (W.alloc (.cells (cI (List.replicate m 0)).toArray 5)) 150 9 5 Tryz.underlying150 Tryz.underlying5 Tryz.underlying9 ⟨W.heap.size,0,none⟩ m m (List.replicate m 0) (by simp) (aV (ax.new W 5 (cI (List.replicate m 0)).toArray) 0 _ (by intro j u hu; rw [Nat.zero_add]; simpa using hu))));obtain ⟨FB,hFB⟩: ∃FB,nC b=FB:=⟨_,rfl⟩;have HCAT:=xh (full_eq b);rw [hFB] at HCAT;rw [hFB]
 rw [hm] at HCAT;have hm0:(0:Int)≤(m:Int):=by omega
 have lK: ¬9223372036854775807<b.size+(⟨(List.replicate m (0:UInt8)).toArray⟩:ByteArray).size:=by
  have:(⟨(List.replicate m (0:UInt8)).toArray⟩:ByteArray).size=m:=by show (List.replicate m (0:UInt8)).toArray.size=m; simp
  omega
 have IC:m≤232:=by omega
 generalize (⟨(List.replicate m (0:UInt8)).toArray⟩:ByteArray)=ZZ at *;generalize (cI (List.replicate m (0:UInt8))).toArray=ZC at *;clear h hh hf hm hb hFB;unfold pp oW at *;go_enter Tryz.func219,Tryz.ntmps219;go_wp2_with fail;refine KH.out.mono ?_;rintro e w1 ⟨rfl,aM⟩;have O1:=xh aM;have A1:=xh (HA.out _ (ae aM (.cells ZC 5)));have O1':=xh (ae aM (.cells ZC 5));clear aM;go_wp2_with fail;rw [HCV.out w1];clear hmk;generalize (w1.alloc (.cells ZC 5))=w2 at *
 have hcat:=HCAT.out;obtain ⟨c0,c1,c2,c3,c4⟩:=A1.out.vP k f HF.out;obtain ⟨z1,B1,q1⟩:=A1.out.dY k 1 (by omega) {f with et:=FB} (.string (FB)) HF.out rfl;have g1:(s.l.set k {f with et:=FB})[k]?=some {f with et:=FB}:=by rw [List.getElem?_set_self gw]
 obtain ⟨z2,B2,q2⟩:=B1.dY k 3 (by omega) {f with et:=FB,bG:=true} (.bool true) g1 rfl;simp only [List.set_set] at B2;have g2:(s.l.set k {f with et:=FB,bG:=true})[k]?=some {f with et:=FB,bG:=true}:=by rw [List.getElem?_set_self gw]
 obtain ⟨z3,B3,q3⟩:=B2.dY k 4 (by omega) {f with et:=FB,bG:=true,used:=true} (.bool true) g2 rfl;simp only [List.set_set] at B3;have AZ:=xh B3;have OZ:=xh ((ag.ak (S:=y.fp) O1'.out).trans ((q1.trans q2).trans q3));clear B1 B2 B3 q1 q2 q3 g1 g2 gw;go_wp2_with fail;go_ret;exact ⟨by first | rfl | simp,AZ.out,OZ.out⟩
theorem set_out {w:World} {y:Y} {n:Nat} {s:PS} (h:fJ w y n s) (p:Int) (b:ByteArray) (hb:b.size≤232) (hh:s.fA p=none):
  Calls Tryz.prog 219 #[pp y.pb,.int .i64 p,.string b] w fun e w'=>e= .returned (.int .i64 16)∧Below w.heap.size w w':=by
 have KH:=xh (tt h p);rw [hh] at KH;have hbI: ¬(232:Int)<(b.size:Int):=by omega
 clear h hh hb;unfold pp oW at *;go_enter Tryz.func219,Tryz.ntmps219;go_wp2_with fail;refine KH.out.mono ?_;rintro e w1 ⟨rfl,aM⟩;have O1:=xh aM;clear aM;go_wp2_with fail;go_ret;exact ⟨by first | rfl | simp,O1.out⟩
theorem set_big (w:World) (pb:Nat) (p:Int) (b:ByteArray) (hb:232<b.size):
  Calls Tryz.prog 219 #[pp pb,.int .i64 p,.string b] w fun e w'=>e= .returned (.int .i64 4)∧Below w.heap.size w w':=by
 have hbI:(232:Int)<(b.size:Int):=by omega
 have O1:=xh (Below.refl w.heap.size w);clear hb;unfold pp;go_enter Tryz.func219,Tryz.ntmps219;go_wp2_with fail;go_ret;exact ⟨by first | rfl | simp,O1.out⟩
theorem Kf {w:World} {y:Y} {n K:Nat} {q:QS} (h:ZP w y n q K) (p:Int) (b:ByteArray):
  Calls Tryz.prog 219 #[pp y.pb,.int .i64 p,.string b] w fun e w'=>e= .returned (.int .i64 (q.dY p b).2)∧ZP w' y n (q.dY p b).1 K∧ag y.fp w w':=by
 obtain ⟨c,A,z⟩:=h;unfold QS.dY
 by_cases hb:232<b.size
 ·rw [if_pos hb];exact (set_big w y.pb p b hb).mono fun e w' ⟨r,o⟩=>⟨r,⟨c,A.below o,z⟩,.ak o⟩
 ·rw [if_neg hb]
  cases hh:q.fA p with
  | none=>exact (set_out A p b (by omega) (by rw [yB,hh])).mono fun e w' ⟨r,o⟩=>⟨r,⟨c,A.below o,z⟩,.ak o⟩
  | some kf=>exact (set_in A p b (by omega) (k:=kf.1) (f:=kf.2) (by rw [yB,hh])).mono fun e w' ⟨r,A',o⟩=>⟨r,⟨c,A',z⟩,o⟩
theorem Ae {w:World} {y:Y} {n K:Nat} {q:QS} (h:ZP w y n q K) (hb:Fb q.l K) (hK:K≤1000000000000) (p:Int):
  Calls Tryz.prog 214 #[pp y.pb,.int .i64 p] w fun e w'=>e= .returned (.int .i64 (q.fI p).2)∧ZP w' y n (q.fI p).1 K∧ag y.fp w w':=by
 obtain ⟨c,A,z⟩:=h;have hl:=let_any A p (fun f hf=>by have:=hb f hf; omega);rw [let_ps] at hl;refine hl.mono fun e w' ⟨r,A',o⟩=>⟨r,⟨c,A',?_⟩,o⟩;have:(q.fI p).1.a=q.a:=by
  unfold QS.fI
  cases q.fA p with
  | none=>rfl
  | some kf=>rfl
 rw [this];exact z
end Go.Proofs.YtmonobkginiajaaGreat.Sh
namespace Go.Proofs.YtmonobkginiajaaGreat.Sh
open Go.RowKit Pk Dk Pg
attribute [local go_sem ↓] Go.wp_at_zero Go.wp_at_succ
theorem GM (b:ByteArray) (q:Nat) (w:World) (s0:ByteArray) (B:ax w q 9 #[.string s0]):
  Calls Tryz.prog 168 #[.string b,.pointer (some ⟨q,0,none⟩)] w fun e w'=>e= .returned (.int .i64 0)∧ax w' q 9 #[.string b]∧ag [q] w w':=by
 have q0:=B.ab (i:=0) rfl;have q1:=B.frozen 0 (by simp);have B1:=xh (show ax (w.setCell ⟨q,0,none⟩ (.string b)) q 9 #[.string b] from B.bq 0 (.string b));have O1:=xh ((ag.refl [q] w).setCell (p:=⟨q,0,none⟩) (by simp) (.string b));clear B;go_enter Tryz.func168,Tryz.ntmps168;go_wp2_with fail;go_ret;exact ⟨by first | rfl | simp,B1.out,O1.out⟩
theorem tU {q:QS} {k:Nat} {K:Nat} (h:Fb q.l K) (hk:k<q.l.length):Fb (q.bF k).1.l K∧(q.bF k).1.l.length=q.l.length:=by
 have hm:=h _ (List.mem_of_getElem? (jl hk));unfold QS.bF
 split
 ·split
  ·exact ⟨h.set _ hm,List.length_set⟩
  ·exact ⟨h,rfl⟩
 ·exact ⟨h,rfl⟩
def Full (a:St):Prop:= ∀l,(a.aD l).1.length≤232
theorem Kg {l:List UInt8} (h:l.length≤232):(⟨l.toArray⟩:ByteArray).size≤1000:=by
 show l.toArray.size≤1000;simp; omega
theorem Kh {q:QS} {K:Nat} (h:Fb q.l K) (hl:q.hand<q.l.length) (hf:Full q.a) (p:Int):Fb (q.aL p).1.l (K+1)∧(q.aL p).1.l.length=q.l.length:=by
 unfold QS.aL
 rcases fe q.l p with e | ⟨k,f,e,hk,_,_⟩
 ·rw [e,if_neg (by omega)]
  split
  ·exact ⟨h.more (by omega),rfl⟩
  ·obtain ⟨v1,v2,v3⟩:=nU q hl h;have va:=gy q
   split
   ·exact ⟨v1.more (by omega),va.2⟩
   ·rcases v3 with v3 | ⟨k,v3,hk⟩
    ·omega
    ·rw [v3,show ((k:Nat):Int).toNat=k by omega];obtain ⟨b1,b2⟩:=tU (k:=k) v1 (by omega)
     split
     ·exact ⟨b1.more (by omega),by rw [b2,va.2]⟩
     ·exact ⟨(b1.more (by omega)).set _ ⟨by show (0:Int)≤1; omega,by show (1:Int)≤_; omega,Kg (hf p)⟩,by show (List.set _ _ _).length=_; rw [List.length_set,b2,va.2]⟩
 ·rw [e,if_pos (by omega),show ((k:Nat):Int).toNat=k by omega,k7 hk];have hm:=h _ (List.mem_of_getElem? hk);exact ⟨(h.more (by omega)).set _ ⟨by show 0≤f.held+1; omega,by show f.held+1≤_; omega,hm.2.2⟩,List.length_set⟩
theorem wP {q:QS} {p:Int} {k:Nat} {f:Fr} (h:q.fA p=some (k,f)):q.l[k]?=some f∧f.held≠0∧findF q.l p=k:=by
 unfold QS.fA at h
 rcases fe q.l p with e | ⟨j,g,e,hg,_,_⟩
 ·rw [e,if_pos (by omega)] at h; cases h
 ·rw [e,if_neg (by omega),show ((j:Nat):Int).toNat=j by omega,hg] at h;dsimp only at h
  split at h
  ·cases h
  ·rename_i eg;obtain ⟨rfl,rfl⟩:j=k∧g=f:=by simpa using h
   exact ⟨hg,eg,e⟩
theorem let_l {q:QS} {K:Nat} (h:Fb q.l K) (p:Int):Fb (q.fI p).1.l K∧(q.fI p).1.l.length=q.l.length∧(q.fI p).1.a=q.a∧(q.fI p).1.hand=q.hand:=by
 unfold QS.fI
 cases hh:q.fA p with
 | none=>exact ⟨h,rfl,rfl,rfl⟩
 | some kf=>
  obtain ⟨k,f⟩:=kf;obtain ⟨h1,h2,_⟩:=wP hh;have hm:=h _ (List.mem_of_getElem? h1);exact ⟨h.set k ⟨by show 0≤f.held-1; omega,by show f.held-1≤_; omega,hm.2.2⟩,List.length_set,rfl,rfl⟩
theorem set_l {q:QS} {K:Nat} (h:Fb q.l K) (p:Int) (b:ByteArray):Fb (q.dY p b).1.l K∧(q.dY p b).1.l.length=q.l.length∧(q.dY p b).1.a=q.a∧(q.dY p b).1.hand=q.hand:=by
 unfold QS.dY
 split
 ·exact ⟨h,rfl,rfl,rfl⟩
 ·rename_i hb
  cases hh:q.fA p with
  | none=>exact ⟨h,rfl,rfl,rfl⟩
  | some kf=>
   obtain ⟨k,f⟩:=kf;obtain ⟨h1,h2,_⟩:=wP hh;have hm:=h _ (List.mem_of_getElem? h1);exact ⟨h.set k ⟨hm.1,hm.2.1,by show (nC b).size≤_; rw [tT (by omega)]; omega⟩,List.length_set,rfl,rfl⟩
theorem Dr {w:World} {y:Y} {n K:Nat} {q:QS} {g:Nat} (h:ZP w y n q K) (hb:Fb q.l K) (hK:K≤1000000000000) (p:Int) (he:(q.aL p).2.2≠0):
  Calls Tryz.prog 167 #[pp y.pb,.int .i64 p,.func (Fn.func 168) #[] #[.pointer (some ⟨g,0,none⟩)]] w fun e w'=>e= .returned (.int .i64 (q.aL p).2.2)∧ZP w' y n (q.aL p).1 (K+1)∧ag y.fp w w':=by
 have KH:=xh (mL h hb hK p);have hq:((q.aL p).2.2 != 0)=true:=by rw [bne_iff_ne]; exact he
 have jm:((q.aL p).2.2==0)=false:=by rw [beq_eq_false_iff_ne]; exact he
 generalize q.aL p=R at *;clear h hb;unfold pp at *;go_enter Tryz.func167,Tryz.ntmps167;go_wp2_with fail;refine KH.out.mono ?_;rintro e w1 ⟨rfl,A1,o1⟩;have A1:=xh A1;have o1:=xh o1;go_wp2_with fail;go_ret;exact ⟨by first | rfl | simp,A1.out,o1.out⟩
theorem Ds {w:World} {y:Y} {n K:Nat} {q:QS} {g3 g4 g5:Nat} (h:ZP w y n q K) (hb:Fb q.l K) (hK:K≤1000000000000) (p:Int) (he:(q.aL p).2.2≠0):
  Calls Tryz.prog 167 #[pp y.pb,.int .i64 p,.func (Fn.func 218) #[] #[.pointer (some ⟨g3,0,none⟩),.pointer (some ⟨g4,0,none⟩),.pointer (some ⟨g5,0,none⟩)]] w fun e w'=>e= .returned (.int .i64 (q.aL p).2.2)∧ZP w' y n (q.aL p).1 (K+1)∧ag y.fp w w':=by
 have KH:=xh (mL h hb hK p);have hq:((q.aL p).2.2 != 0)=true:=by rw [bne_iff_ne]; exact he
 have jm:((q.aL p).2.2==0)=false:=by rw [beq_eq_false_iff_ne]; exact he
 generalize q.aL p=R at *;clear h hb;unfold pp at *;go_enter Tryz.func167,Tryz.ntmps167;go_wp2_with fail;refine KH.out.mono ?_;rintro e w1 ⟨rfl,A1,o1⟩;have A1:=xh A1;have o1:=xh o1;go_wp2_with fail;go_ret;exact ⟨by first | rfl | simp,A1.out,o1.out⟩
theorem Af {w:World} {y:Y} {n K g:Nat} {q:QS} (h:ZP w y n q K) (hb:Fb q.l K) (hK:K≤999999999999) (hl:q.hand<q.l.length) (Ki:Full q.a) (p:Int) (he:(q.aL p).2.2=0) (s0:ByteArray) (B:ax w g 9 #[.string s0]) (hg:g∉y.fp):
  Calls Tryz.prog 167 #[pp y.pb,.int .i64 p,.func (Fn.func 168) #[] #[.pointer (some ⟨g,0,none⟩)]] w fun e w'=>e= .returned (.int .i64 0)∧ZP w' y n ((q.aL p).1.fI p).1 (K+1)∧ag (g::y.fp) w w'∧ax w' g 9 #[.string (q.aL p).2.1]:=by
 have KH:=xh (mL h hb (by omega) p);rw [he] at KH;have zD:=(Kh hb hl Ki p).1;generalize q.aL p=R at *;have KL:=xh (fun w' (A:ZP w' y n R.1 (K+1))=>Ae A zD (by omega) p);have HQ:=xh hg;have HB:=xh B;have HD:=xh (fun (w1 w2:World) (A:ZP w1 y n R.1 (K+1)) (o:ag [g] w1 w2)=>(show ZP w2 y n R.1 (K+1) from by
  obtain ⟨c,A,z⟩:=A;exact ⟨c,A.only o (fun x hx hm=>hg (by rw [List.mem_singleton.1 hm] at hx; exact hx)),z⟩))
 clear h hb B zD he hg;unfold pp at *;go_enter Tryz.func167,Tryz.ntmps167;go_wp2_with fail;refine KH.out.mono ?_;rintro e w1 ⟨rfl,A1,o1⟩;have B1:=HB.out.only o1 HQ.out;have KG:=xh (GM R.2.1 g w1 s0 B1);have A1:=xh A1;have o1:=xh o1;clear B1;go_wp2_with fail;refine KG.out.mono ?_;rintro e w2 ⟨rfl,B2,o2⟩;have A2:=xh (HD.out _ _ A1.out o2);have B2:=xh B2
 have o2:=xh ((o1.out.mono (fun x hx _=>List.mem_cons_of_mem g hx)).trans (o2.mono (fun x hx _=>by rw [List.mem_singleton.1 hx]; exact List.mem_cons_self ..)));go_wp2_with fail;refine (KL.out _ A2.out).mono ?_;rintro e w3 ⟨rfl,A3,o3⟩;have A3:=xh A3;have B3:=xh (B2.out.only o3 HQ.out);have o3:=xh (o2.out.trans (o3.mono (fun x hx _=>List.mem_cons_of_mem g hx)));go_wp2_with fail;go_ret;exact ⟨by first | rfl | simp,A3.out,o3.out,B3.out⟩
theorem px {w:World} {y:Y} {n K g3 g4 g5:Nat} {q:QS} (h:ZP w y n q K) (p:Int) (b u:ByteArray) (B3:ax w g3 34 #[pp y.pb]) (B4:ax w g4 3 #[.int .i64 p]) (B5:ax w g5 9 #[.string b]):
  Calls Tryz.prog 218 #[.string u,.pointer (some ⟨g3,0,none⟩),.pointer (some ⟨g4,0,none⟩),.pointer (some ⟨g5,0,none⟩)] w fun e w'=>e= .returned (.int .i64 (q.dY p b).2)∧ZP w' y n (q.dY p b).1 K∧ag y.fp w w':=by
 have KS:=xh (Kf h p b);have c3:=B3.ab (i:=0) rfl;have c4:=B4.ab (i:=0) rfl;have c5:=B5.ab (i:=0) rfl;generalize q.dY p b=R at *;clear h B3 B4 B5;unfold pp at *;go_enter Tryz.func218,Tryz.ntmps218;go_wp2_with fail;refine KS.out.mono ?_;rintro e w1 ⟨rfl,A1,o1⟩;have A1:=xh A1;have o1:=xh o1;go_wp2_with fail;go_ret;exact ⟨by first | rfl | simp,A1.out,o1.out⟩
theorem Ag {w:World} {y:Y} {n K g3 g4 g5:Nat} {q:QS} (h:ZP w y n q K) (hb:Fb q.l K) (hK:K≤999999999999) (hl:q.hand<q.l.length) (Ki:Full q.a) (p:Int) (he:(q.aL p).2.2=0) (b:ByteArray) (B3:ax w g3 34 #[pp y.pb]) (B4:ax w g4 3 #[.int .i64 p]) (B5:ax w g5 9 #[.string b]) (h3:g3∉y.fp) (h4:g4∉y.fp) (h5:g5∉y.fp):
  Calls Tryz.prog 167 #[pp y.pb,.int .i64 p,.func (Fn.func 218) #[] #[.pointer (some ⟨g3,0,none⟩),.pointer (some ⟨g4,0,none⟩),.pointer (some ⟨g5,0,none⟩)]] w fun e w'=>e= .returned (.int .i64 ((q.aL p).1.dY p b).2)∧ZP w' y n (((q.aL p).1.dY p b).1.fI p).1 (K+1)∧ag y.fp w w':=by
 have KH:=xh (mL h hb (by omega) p);rw [he] at KH;have zD:=(Kh hb hl Ki p).1;have hbc:=(set_l zD p b).1;have KC:=xh (fun (w1:World) (A:ZP w1 y n (q.aL p).1 (K+1)) (u:ByteArray) (o:ag y.fp w w1)=>px A p b u (B3.only o h3) (B4.only o h4) (B5.only o h5));generalize q.aL p=R at *;generalize R.1.dY p b=R2 at *;have KL:=xh (fun w' (A:ZP w' y n R2.1 (K+1))=>Ae A hbc (by omega) p);clear h hb B3 B4 B5 zD hbc he h3 h4 h5;unfold pp at *
 go_enter Tryz.func167,Tryz.ntmps167;go_wp2_with fail;refine KH.out.mono ?_;rintro e w1 ⟨rfl,A1,o1⟩;have KG:=xh (KC.out w1 A1 R.2.1 o1);have o1:=xh o1;clear A1;go_wp2_with fail;refine KG.out.mono ?_;rintro e w2 ⟨rfl,A2,o2⟩;have A2:=xh A2;have o2:=xh (o1.out.trans o2);go_wp2_with fail;refine (KL.out _ A2.out).mono ?_;rintro e w3 ⟨rfl,A3,o3⟩;have A3:=xh A3;have o3:=xh (o2.out.trans o3);go_wp2_with fail;go_ret;exact ⟨by first | rfl | simp,A3.out,o3.out⟩
theorem GN {w:World} {y:Y} {n K:Nat} {q:QS} (h:ZP w y n q K) (hb:Fb q.l K) (hK:K≤999999999999) (Ki:Full q.a) (p:Int) (he:(q.aL p).2.2=0):
  Calls Tryz.prog 121 #[pp y.pb,.int .i64 p] w fun e w'=>e= .returned (.tuple #[.string (q.aL p).2.1,.int .i64 0])∧ZP w' y n ((q.aL p).1.fI p).1 (K+1)∧ag y.fp w w':=by
 have O0:=xh (ae (Below.refl w.heap.size w) (.cells #[.string ⟨#[]⟩] 9));have B0:=xh (ax.new w 9 #[.string ⟨#[]⟩]);have NQ:=xh (show w.heap.size∉y.fp from fun hm=>by
  obtain ⟨c,A,z⟩:=h;have:=A.lt _ hm;omega)
 have KW:=xh (Af (h.below O0.out) hb hK (by obtain ⟨c,A,z⟩:=h; exact A.lh) Ki p he _ B0.out NQ.out);generalize (q.aL p).2.1=r at *;generalize ((q.aL p).1.fI p).1=S2 at *;clear h hb he Ki;unfold pp at *;go_enter Tryz.func121,Tryz.ntmps121;go_wp2_with fail;refine KW.out.mono ?_;rintro e w1 ⟨rfl,A1,o1,B1⟩;have A1:=xh A1;have o1:=xh ((ag.ak (S:=w.heap.size::y.fp) O0.out).trans o1);have q0:=B1.ab (i:=0) rfl;clear B1;go_wp2_with fail;go_ret2
 exact ⟨by first | rfl | simp,A1.out,o1.out.mono (fun g hg dL=>by simp at hg; rcases hg with rfl | hg; (· omega); exact hg)⟩
theorem Kk {w:World} {y:Y} {n K:Nat} {q:QS} (h:ZP w y n q K) (hb:Fb q.l K) (hK:K≤999999999999) (p:Int) (he:(q.aL p).2.2≠0):
  Calls Tryz.prog 121 #[pp y.pb,.int .i64 p] w fun e w'=>e= .returned (.tuple #[.string ⟨#[]⟩,.int .i64 (q.aL p).2.2])∧ZP w' y n (q.aL p).1 (K+1)∧ag y.fp w w':=by
 have O0:=xh (ae (Below.refl w.heap.size w) (.cells #[.string ⟨#[]⟩] 9));have B0:=xh (ax.new w 9 #[.string ⟨#[]⟩]);have NQ:=xh (show w.heap.size∉y.fp from fun hm=>by
  obtain ⟨c,A,z⟩:=h;have:=A.lt _ hm;omega)
 have KW:=xh (Dr (g:=w.heap.size) (h.below O0.out) hb (by omega) p he);generalize (q.aL p)=R at *;clear h hb he;unfold pp at *;go_enter Tryz.func121,Tryz.ntmps121;go_wp2_with fail;refine KW.out.mono ?_;rintro e w1 ⟨rfl,A1,o1⟩;have B1:=B0.out.only o1 NQ.out;have A1:=xh A1;have o1:=xh ((ag.ak (S:=y.fp) O0.out).trans o1);have q0:=B1.ab (i:=0) rfl;clear B1;go_wp2_with fail;go_ret2;exact ⟨by first | rfl | simp,A1.out,o1.out⟩
theorem GO {w:World} {y:Y} {n K:Nat} {q:QS} (h:ZP w y n q K) (hb:Fb q.l K) (hK:K≤999999999999) (Ki:Full q.a) (p:Int) (b:ByteArray) (hs:b.size≤232) (he:(q.aL p).2.2=0):
  Calls Tryz.prog 176 #[pp y.pb,.int .i64 p,.string b] w fun e w'=>e= .returned (.int .i64 ((q.aL p).1.dY p b).2)∧ZP w' y n (((q.aL p).1.dY p b).1.fI p).1 (K+1)∧ag y.fp w w':=by
 obtain ⟨g3,hg3⟩: ∃g,w.heap.size=g:=⟨_,rfl⟩;have b3:=ax.new w 34 #[pp y.pb];have o3:=ae (Below.refl w.heap.size w) (.cells #[pp y.pb] 34);have e3:(w.alloc (.cells #[pp y.pb] 34)).heap.size=g3+1:=by rw [←hg3]; simp
 have b4:=ax.new (w.alloc (.cells #[pp y.pb] 34)) 3 #[.int .i64 p];have o4:=ae o3 (.cells #[.int .i64 p] 3);have k4:=ae (Below.refl (w.alloc (.cells #[pp y.pb] 34)).heap.size _) (.cells #[.int .i64 p] 3);have e4:((w.alloc (.cells #[pp y.pb] 34)).alloc (.cells #[.int .i64 p] 3)).heap.size=g3+2:=by rw [←hg3]; simp
 have b5:=ax.new ((w.alloc (.cells #[pp y.pb] 34)).alloc (.cells #[.int .i64 p] 3)) 9 #[.string b];have o5:=ae o4 (.cells #[.string b] 9);have k5:=ae (Below.refl ((w.alloc (.cells #[pp y.pb] 34)).alloc (.cells #[.int .i64 p] 3)).heap.size _) (.cells #[.string b] 9);have B3:=ax.below (ax.below b3 k4 b3.lt) k5 (ax.below b3 k4 b3.lt).lt;have B4:=ax.below b4 k5 b4.lt;rw [e3] at B4;rw [e4] at b5;rw [hg3] at B3;have OZ:=xh o5
 have NQ:=xh (show ∀g,w.heap.size≤g→g∉y.fp from fun g hg hm=>by
  obtain ⟨c,A,z⟩:=h;have:=A.lt _ hm;omega)
 have KW:=xh (Ag (h.below OZ.out) hb hK (by obtain ⟨c,A,z⟩:=h; exact A.lh) Ki p he b B3 B4 b5 (NQ.out _ (by omega)) (NQ.out _ (by omega)) (NQ.out _ (by omega)));have cl:=B3.ab (i:=0) rfl;have c4:=B4.ab (i:=0) rfl;have c5:=b5.ab (i:=0) rfl;have hsI: ¬(232:Int)<(b.size:Int):=by omega
 generalize ((q.aL p).1.dY p b).2=RR at *;generalize (((q.aL p).1.dY p b).1.fI p).1=SS at *;clear h hb he Ki hs b3 b4 b5 B3 B4 o3 o4 o5 e3 e4 k4 k5;unfold pp at *;go_enter Tryz.func176,Tryz.ntmps176;go_wp2_with fail;refine KW.out.mono ?_;rintro e w1 ⟨rfl,A1,o1⟩;have A1:=xh A1;have o1:=xh ((ag.ak (S:=y.fp) OZ.out).trans o1);go_wp2_with fail;go_ret;exact ⟨by first | rfl | simp,A1.out,o1.out⟩
theorem Kl {w:World} {y:Y} {n K:Nat} {q:QS} (h:ZP w y n q K) (hb:Fb q.l K) (hK:K≤999999999999) (Ki:Full q.a) (p:Int) (b:ByteArray) (hs:b.size≤232) (he:(q.aL p).2.2≠0):
  Calls Tryz.prog 176 #[pp y.pb,.int .i64 p,.string b] w fun e w'=>e= .returned (.int .i64 (q.aL p).2.2)∧ZP w' y n (q.aL p).1 (K+1)∧ag y.fp w w':=by
 obtain ⟨g3,hg3⟩: ∃g,w.heap.size=g:=⟨_,rfl⟩;have b3:=ax.new w 34 #[pp y.pb];have o3:=ae (Below.refl w.heap.size w) (.cells #[pp y.pb] 34);have e3:(w.alloc (.cells #[pp y.pb] 34)).heap.size=g3+1:=by rw [←hg3]; simp
 have b4:=ax.new (w.alloc (.cells #[pp y.pb] 34)) 3 #[.int .i64 p];have o4:=ae o3 (.cells #[.int .i64 p] 3);have k4:=ae (Below.refl (w.alloc (.cells #[pp y.pb] 34)).heap.size _) (.cells #[.int .i64 p] 3);have e4:((w.alloc (.cells #[pp y.pb] 34)).alloc (.cells #[.int .i64 p] 3)).heap.size=g3+2:=by rw [←hg3]; simp
 have b5:=ax.new ((w.alloc (.cells #[pp y.pb] 34)).alloc (.cells #[.int .i64 p] 3)) 9 #[.string b];have o5:=ae o4 (.cells #[.string b] 9);have k5:=ae (Below.refl ((w.alloc (.cells #[pp y.pb] 34)).alloc (.cells #[.int .i64 p] 3)).heap.size _) (.cells #[.string b] 9);have B3:=ax.below (ax.below b3 k4 b3.lt) k5 (ax.below b3 k4 b3.lt).lt;have B4:=ax.below b4 k5 b4.lt;rw [e3] at B4;rw [e4] at b5;rw [hg3] at B3;have OZ:=xh o5
 have NQ:=xh (show ∀g,w.heap.size≤g→g∉y.fp from fun g hg hm=>by
  obtain ⟨c,A,z⟩:=h;have:=A.lt _ hm;omega)
 have KW:=xh (Ds (g3:=g3) (g4:=g3+1) (g5:=g3+2) (h.below OZ.out) hb (by omega) p he);have cl:=B3.ab (i:=0) rfl;have c4:=B4.ab (i:=0) rfl;have c5:=b5.ab (i:=0) rfl;have hsI: ¬(232:Int)<(b.size:Int):=by omega
 generalize (q.aL p).2.2=RR at *;generalize (q.aL p).1=SS at *;clear h hb he Ki hs b3 b4 b5 B3 B4 o3 o4 o5 e3 e4 k4 k5;unfold pp at *;go_enter Tryz.func176,Tryz.ntmps176;go_wp2_with fail;refine KW.out.mono ?_;rintro e w1 ⟨rfl,A1,o1⟩;have A1:=xh A1;have o1:=xh ((ag.ak (S:=y.fp) OZ.out).trans o1);go_wp2_with fail;go_ret;exact ⟨by first | rfl | simp,A1.out,o1.out⟩
theorem Km {w:World} {y:Y} (p:Int) (b:ByteArray) (hs:232<b.size):
  Calls Tryz.prog 176 #[pp y.pb,.int .i64 p,.string b] w fun e w'=>e= .returned (.int .i64 4)∧Below w.heap.size w w':=by
 have OZ:=xh (ae (ae (ae (Below.refl w.heap.size w) (.cells #[pp y.pb] 34)) (.cells #[.int .i64 p] 3)) (.cells #[.string b] 9));have hsI:(232:Int)<(b.size:Int):=by omega
 clear hs;unfold pp at *;go_enter Tryz.func176,Tryz.ntmps176;go_wp2_with fail;go_ret;exact ⟨by first | rfl | simp,OZ.out⟩
end Go.Proofs.YtmonobkginiajaaGreat.Sh
namespace Go.Proofs.YtmonobkginiajaaGreat.Sh
open Go.RowKit Pk Dk Pg
section
variable {c:C} {n:Nat} {a:St} {K:Nat}
theorem Zc.full (z:Zc c n a K):Full a:=by
 intro l
 by_cases h:(a.aD l).2=0
 ·have hr:=z.read l;rw [ql z.g] at hr;rw [←hr] at h ⊢;exact Nat.le_of_eq (zM z.g h)
 ·unfold St.aD at h ⊢
  cases ha:a.at l with
  | none=>exact Nat.zero_le _
  | some u=>rw [ha] at h; exact absurd rfl h
theorem Zc.tl (z:Zc c n a K) (h:a.now.length≤512):c.table.length≤512:=by
 obtain ⟨k,e⟩:=z.e;rw [e] at h;have h2:((c.bn n).pad k).now.length=c.table.length+k:=by
  unfold St.pad C.bn;simp
 omega
end
structure Hq (q:QS) (n K:Nat):Prop where
 z: ∃c,Zc c n q.a K
 f:Fb q.l K
 l1:1≤q.l.length
 l2:q.l.length≤32
 lh:q.hand<q.l.length
 nl:q.a.now.length≤512
section
variable {q:QS} {n K:Nat}
theorem Hq.full (h:Hq q n K):Full q.a:=by
 obtain ⟨c,z⟩:=h.z;exact z.full
theorem Hq.more (h:Hq q n K) {K':Nat} (hk:K≤K'):Hq q n K':=by
 obtain ⟨c,z⟩:=h.z;exact ⟨⟨c,z.more hk⟩,h.f.more hk,h.l1,h.l2,h.lh,h.nl⟩
theorem Hq.yC (h:Hq q n K) {q':QS} {K':Nat} (ha:q'.a=q.a) (hk:K≤K') (hf:Fb q'.l K') (hl:q'.l.length=q.l.length) (hh:q'.hand<q.l.length):Hq q' n K':=by
 obtain ⟨c,z⟩:=h.z;exact ⟨⟨c,by rw [ha]; exact z.more hk⟩,hf,by rw [hl]; exact h.l1,by rw [hl]; exact h.l2,by rw [hl]; exact hh,by rw [ha]; exact h.nl⟩
theorem wQ (a:St) (l:Int) (p:List UInt8):(a.ar l p).1.now.length=a.now.length:=by
 unfold St.ar
 split
 ·rfl
 ·split
  ·rfl
  ·split
   ·rfl
   ·show (a.now.set _ _).length=_;rw [List.length_set]
theorem Hq.Kn (h:Hq q n K):Hq q.aB.1 n K∧(q.aB.2= -1∨ ∃k:Nat,q.aB.2=k∧k<q.l.length):=by
 obtain ⟨v1,v2,v3⟩:=nU q h.lh h.f;have va:=gy q;exact ⟨h.yC va.1 (Nat.le_refl _) v1 va.2 (by rw [←va.2]; exact v2),v3⟩
theorem GQ (q:QS) (k:Nat):(q.bF k).1.hand=q.hand:=by
 unfold QS.bF
 split
 ·split<;>rfl
 ·rfl
theorem Ko (q:QS) (k:Nat):(q.bF k).1.a.now.length=q.a.now.length:=by
 unfold QS.bF
 split
 ·split
  ·exact wQ _ _ _
  ·exact wQ _ _ _
 ·rfl
theorem Hq.back (h:Hq q n K) (k:Nat) (hk:k<q.l.length):Hq (q.bF k).1 n (K+1):=by
 obtain ⟨b1,b2⟩:=tU h.f hk;obtain ⟨c,z⟩:=h.z;refine ⟨?_,b1.more (by omega),by rw [b2]; exact h.l1,by rw [b2]; exact h.l2,by rw [b2,GQ]; exact h.lh,by rw [Ko]; exact h.nl⟩;unfold QS.bF
 split
 ·split
  ·exact ⟨_,(z.write _ _).1⟩
  ·exact ⟨_,(z.write _ _).1⟩
 ·exact ⟨c,z.more (by omega)⟩
theorem Hq.put (h:Hq q n K) (k:Nat) {f:Fr} (hf:0≤f.held∧f.held≤K∧f.et.size≤1000):Hq {q with l:=q.l.set k f} n K:=
 h.yC rfl (Nat.le_refl _) (h.f.set k hf) List.length_set h.lh
theorem Hq.hold (h:Hq q n K) (p:Int):Hq (q.aL p).1 n (K+1):=by
 unfold QS.aL
 rcases fe q.l p with e | ⟨k,f,e,hk,_,_⟩
 ·rw [e,if_neg (by omega)]
  split
  ·exact h.more (by omega)
  ·obtain ⟨v1,v3⟩:=h.Kn;have va:=gy q
   split
   ·exact v1.more (by omega)
   ·rcases v3 with v3 | ⟨k,v3,hk⟩
    ·omega
    ·rw [v3,show ((k:Nat):Int).toNat=k by omega];have hb:=v1.back k (by omega)
     split
     ·exact hb
     ·exact hb.put k ⟨by show (0:Int)≤1; omega,by show (1:Int)≤_; omega,Kg (h.full p)⟩
 ·rw [e,if_pos (by omega),show ((k:Nat):Int).toNat=k by omega,k7 hk];have hm:=h.f _ (List.mem_of_getElem? hk);exact (h.more (by omega)).put k ⟨by show 0≤f.held+1; omega,by show f.held+1≤_; omega,hm.2.2⟩
theorem Hq.let_ (h:Hq q n K) (p:Int):Hq (q.fI p).1 n K:=by
 obtain ⟨a,b,c,d⟩:=let_l h.f p;exact h.yC c (Nat.le_refl _) a b (by rw [d]; exact h.lh)
theorem Hq.set (h:Hq q n K) (p:Int) (b:ByteArray):Hq (q.dY p b).1 n K:=by
 obtain ⟨a,e,c,d⟩:=set_l h.f p b;exact h.yC c (Nat.le_refl _) a e (by rw [d]; exact h.lh)
theorem Hq.get (h:Hq q n K) (p:Int):Hq (q.cO p).1 n (K+1):=by
 unfold QS.cO
 split
 ·exact h.hold p
 ·exact (h.hold p).let_ p
theorem Hq.put_ (h:Hq q n K) (p:Int) (b:ByteArray):Hq (q.cL p b).1 n (K+1):=by
 unfold QS.cL
 split
 ·exact h.more (by omega)
 ·split
  ·exact h.hold p
  ·exact ((h.hold p).set p b).let_ p
theorem Kp (a:St) (l:Int):(a.aE l).1.now.length=a.now.length:=by
 unfold St.aE
 split
 ·show (a.now.set _ _).length=_;rw [List.length_set]
 ·rfl
theorem Hq.drop (h:Hq q n K) (p:Int):Hq (q.aE p).1 n K:=by
 obtain ⟨c,z⟩:=h.z;have hd:Hq {q with a:=(q.a.aE p).1} n K:=⟨⟨_,(z.drop p).1⟩,h.f,h.l1,h.l2,h.lh,by show (q.a.aE p).1.now.length≤512; rw [Kp]; exact h.nl⟩;unfold QS.aE
 split
 ·exact h
 ·split
  ·exact hd
  ·split
   ·exact hd.put _ Fb.nil
   ·exact hd
theorem py (q:QS) (i:Nat):q.aN (i+1)=if (q.aN i).2≠0 then q.aN i else (q.aN i).1.bF i:=rfl
theorem Hq.tV (h:Hq q n K): ∀i,i≤q.l.length→Hq (q.aN i).1 n (K+i)∧(q.aN i).1.l.length=q.l.length
 | 0,_=>⟨h,rfl⟩
 | i+1,hi=>by
  obtain ⟨h1,h2⟩:=h.tV i (by omega);rw [py]
  split
  ·exact ⟨h1.more (by omega),h2⟩
  ·exact ⟨h1.back i (by omega),by rw [(tU h1.f (by omega)).2,h2]⟩
theorem Dt (a:St) (h:a.now.length≤512):a.aA.1.now.length≤512:=by
 unfold St.aA
 split
 ·exact h
 ·show (je a.cX).length≤512;unfold je;rw [List.length_map];have:=tJ a;omega
theorem Hq.jN (h:Hq q n K) (hK:K≤999999999000):Hq q.aA.1 n (K+40):=by
 unfold QS.aA;obtain ⟨b1,b2⟩:=h.tV q.l.length (Nat.le_refl _);have l2:=h.l2
 split
 ·exact h.more (by omega)
 ·split
  ·exact b1.more (by omega)
  ·obtain ⟨c,z⟩:=b1.z;have zc:=(z.jN (z.tl b1.nl) (by omega)).1;exact ⟨⟨_,zc.more (by omega)⟩,b1.f.more (by omega),b1.l1,b1.l2,b1.lh,Dt _ b1.nl⟩
theorem new_len (a:St) (p:List UInt8) (h:a.now.length≤512):(a.bm p).1.now.length≤512:=by
 unfold St.bm
 split
 ·exact h
 ·split
  ·exact h
  ·rename_i hs;show (kY a.now a.slot _).length≤512;unfold kY
   split
   ·rw [List.length_append]; simp; omega
   ·rw [List.length_set]; exact h
theorem Hq.new (h:Hq q n K) (p:List UInt8):Hq (q.bm p).1 n (K+1):=by
 obtain ⟨c,z⟩:=h.z;exact ⟨⟨_,(z.new p).1⟩,h.f.more (by omega),h.l1,h.l2,h.lh,new_len _ _ h.nl⟩
end
end Go.Proofs.YtmonobkginiajaaGreat.Sh
namespace Go.Proofs.YtmonobkginiajaaGreat.Sh
open Go.RowKit Pk Dk Pg
theorem ig {α β:Type} (l:List α) (g:α→β) (k:Nat) {a b:α} (h:l[k]?=some b) (e:g a=g b):(l.set k a).map g=l.map g:=by
 rw [List.map_set];apply List.ext_getElem?;intro i;rw [List.getElem?_set];have hk:=(List.getElem?_eq_some_iff.1 h).1
 split
 ·rename_i hi;subst hi;rw [if_pos (by simpa using hk),List.getElem?_map,h,e];rfl
 ·rfl
theorem Ah {a:St} {p:Int} (h:(a.aD p).2=0):0≤p:=by
 by_cases hp:0≤p
 ·exact hp
 ·exfalso;unfold St.aD St.at at h;rw [if_neg hp] at h;exact absurd h (by decide)
end Go.Proofs.YtmonobkginiajaaGreat.Sh
